/- Parts of the proof, in order. -/
import Derived.Test.YtipjfckmopekaaaGreatDoorMTagencSizes2

set_option linter.unusedSimpArgs false
namespace Go.Proofs.YtipjfckmopekaaaGreatDoor.Va
open Go Am Rc Bt Br

theorem Qse:Qp Tryz.prog 128 [.str alias] (.int .i64 7):=by
 refine QDz.fn (by simp) ?_;have b1:(alias==([100,101,112,114,101,99,97,116,101,100]:List UInt8))=false:=by decide
 have b2:(alias==([115,101,99,114,101,116]:List UInt8))=false:=by decide
 have b3:(alias==([105,100,101,109,112,111,116,101,110,116]:List UInt8))=false:=by decide
 have b4:(alias==([100,111,99]:List UInt8))=false:=by decide
 have b5:(alias==([97,108,105,97,115]:List UInt8))=true:=by decide
 simp only[QN,b1,b2,b3,b4,b5,Qa,seval]

theorem QH0:Qp Tryz.prog 129 [.str alias,.int .i64 4] (.bool true):=by
 refine QDC.fn (by simp) ?_;have b1:(alias==([100,101,112,114,101,99,97,116,101,100]:List UInt8))=false:=by decide
 have b4:(alias==([100,111,99]:List UInt8))=false:=by decide
 have b5:(alias==([97,108,105,97,115]:List UInt8))=true:=by decide
 have c2:((4:Int)==2)=false:=rfl;have c4:((4:Int)==4)=true:=rfl;simp only[QN,b1,b4,b5,c2,c4,Qa,seval]

section
variable (kd:Int)(b:Nat)(t:List UInt8)(l p s r:List AV)(ht:t.length+8≤maxLen)
include ht

theorem QH1:Qp Tryz.prog 201 [.int .i64 7,vo kd b t l p s r] (.bool (Xr 7 kd b t l p s r)):=by
 have hl:=QHH kd b t l p s r;simp only[vo]at hl;have n1:(kd != 7)=!(kd==7):=rfl;have k7:isk 7=true:=rfl;have t7:ZN 7=true:=rfl;have f7:UK 7 b=true:=rfl;have c8:((7:Int)==8)=false:=rfl;have c7:((7:Int) != 7)=false:=rfl;refine QEV.fn (by simp) ?_;simp only[vo,Xr,k7,f7,c7,QND,QNf,QNH,eE,seval];refine Qb (QGv 7) rfl rfl rfl (.inl rfl) ?_;simp only[k7,n1,QNE,eE,seval];by_cases hk:kd=7
 ·subst hk;have a1:((7:Int)==7)=true:=rfl;simp only[a1,QNE,QND,t7,eE,seval];refine Qb hl rfl rfl rfl (.inl rfl) ?_;cases Ww l p s r
  ·simp only[QNb,QNw,Qa,seval]
  simp only[QNE,QND,Qa,seval];refine Qb (QGw 7) rfl rfl rfl (.inl rfl) ?_;simp only[t7,eE,seval];cases a2:((b:Int)==0)
  ·simp only[QNw,Qa,seval]
  cases a3:decide ((t.length:Int)≤4096)
  ·simp only[a3,QNw,QNS,eE,seval]
  simp only[a3,c8,QND,eE,seval];refine Qb (Qr5 t ht) rfl rfl rfl (.inl rfl) ?_;simp only[Qa,seval]
 ·have a1:(kd==7)=false:=by simp[hk]
  simp only[a1,QNb,QNw,Qa,seval]

theorem QH2:Qp Tryz.prog 130 [nv kd b t l p s r] (.bool (Xr 7 kd b t l p s r)):=by
 have hf:=QH1 kd b t l p s r ht;have b0:((7:Int) != 0)=true:=rfl;simp only[vo]at hf;refine QDF.fn (by simp) ?_;simp only[nv,eE,seval];refine Qb Qse rfl rfl rfl (.inl rfl) ?_;simp only[b0,eE,seval];cases a1:(kd==7)
 ·have e:Xr 7 kd b t l p s r=false:=by unfold Xr;rw[a1];rfl
  simp only[e,Qa,seval]
 ·simp only[eE,seval];refine Qb hf rfl rfl rfl (.inl rfl) ?_;simp only[Qa,seval]

def RcI (k:Nat)(st:St):Prop :=
 ∃f i,st=⟨f,[Qc],[]⟩∧k=1-i∧i≤1∧(i=1→Xr 7 kd b t l p s r=true)∧f 0=.list [nv kd b t l p s r]∧f 1=.int .i64 4∧f 5=.int .i64 (i:Nat)

theorem z79:Qp Tryz.prog 79 [.list [nv kd b t l p s r],.int .i64 4] (.int .i64 (if Xr 7 kd b t l p s r=true then 0 else 12)):=by
 have b0:decide (((1:Nat):Int) > 8)=false:=rfl;have hr:=QH2 kd b t l p s r ht;simp only[nv]at hr;refine k79.fn (by simp) ?_;simp only[QMk,QM0,QML,Qa,seval];refine Qf (RcI kd b t l p s r) 1 ⟨_,0,rfl,rfl,QMd _,(fun h=>by cases h),(by rfl),(by rfl),(by rfl)⟩ ?_;rintro _ st ⟨f,i,rfl,rfl,hi,hf,h0,h1,h5⟩;simp only[nv]at h0;simp only[h0,h5,QMk,QM0,QML,Qa,seval];rcases Nat.le_one_iff_eq_zero_or_eq_one.1 hi with rfl|rfl
 ·have c0:decide (((0:Nat):Int)<((1:Nat):Int))=true:=rfl;have c1:decide (((0:Nat):Int) > 0)=false:=rfl;have d7:((7:Int)==0)=false:=rfl;have e1:IntKind.i64.wrap (((0:Nat):Int)+1)=((1:Nat):Int):=rfl;have z0:(0≤((0:Nat):Int))=True:=by simp
  have z1:Int.toNat ((0:Nat):Int)=0:=rfl;simp only[Qd,QM6,h0,h5,eE,seval];refine Qb Qse rfl rfl rfl (.inl rfl) ?_;simp only[d7,Qd,QM6,h0,h1,h5,eE,seval];refine Qb QH0 rfl rfl rfl (.inl rfl) ?_;simp only[QNE,Qd,QM6,h0,h5,eE,seval];refine Qb hr rfl rfl rfl (.inl rfl) ?_;cases hfv:Xr 7 kd b t l p s r
  ·simp only[QNb,QMo,Qa,seval]
  ·simp only[QNE,h5,Qa,seval];exact⟨0,by omega,_,1,rfl,rfl,QL3 _,fun _=>hfv,(by exact h0),(by exact h1),(by rfl)⟩
 ·have c0:decide (((1:Nat):Int)<((1:Nat):Int))=false:=rfl;simp only[hf rfl,Qa,seval]

end

section
variable (P:PL)

def WY (P:PL)(o:PO):Bool :=
 if o.kind=10 then decide (o.target≥0)&&decide (o.target<(P.progs.length:Int))&&o.card != 3
 else if o.kind=9 then decide (o.target≥0)&&decide (o.target<(P.enums.length:Int))else o.target == -1

theorem QH3 (o:PO):Qp Tryz.prog 132 [P.av,QA o] (.bool (WY P o)):=by
 have e0:P.av=.agg [.list (P.progs.map Qj),.list (P.enums.map Qt)]:=rfl;refine QDL.fn (by simp) ?_;simp only[e0,QA,PO.cells,WY,eE,seval];by_cases h:o.kind=10
 ·have b0:(o.kind==10)=true:=by simp[h]
  simp only[b0,QMy h,eE,seval];cases a1:decide (o.target≥0)<;>cases a2:decide (o.target<(P.progs.length:Int))<;>simp only[a2,QND,QNw,QMZ,eE,seval]
 ·have b0:(o.kind==10)=false:=by simp[h]
  by_cases h9:o.kind=9
  ·have b1:(o.kind==9)=true:=by simp[h9]
   simp only[b0,b1,QMj h,QMy h9,eE,seval];cases a1:decide (o.target≥0)<;>simp only[QND,QNw,QMZ,eE,seval]
  ·have b1:(o.kind==9)=false:=by simp[h9]
   simp only[b0,b1,QMj h,QMj h9,eE,seval]

theorem Qsf (o:PO):(XU P o&&XN o)=(Uu o.alias&&(decide ((o.alias.length:Int)≤4096)&&(decide (o.card≥1)&&(decide (o.card≤5)&&(decide (o.kind≥1)&&(decide (o.kind≤10)&&(key o&&WY P o&&XN o))))))):=by
 have h:HF P o=(decide (o.kind≥1)&&decide (o.kind≤10)&&WY P o):=by
  unfold HF WY;by_cases h:o.kind=10
  ·rw[QMy h,QMy h,h];rfl
  ·rw[QMj h,QMj h];by_cases h9:o.kind=9
   ·rw[QMy h9,QMy h9,h9];rfl
   ·rw[QMj h9,QMj h9];congr 1
    unfold isk;rw[QMY,QMt,QMt];simp only[QMa];omega
 unfold XU;rw[h];cases Uu o.alias<;>cases decide ((o.alias.length:Int)≤4096)<;>cases decide (o.card≥1)<;>cases decide (o.card≤5)<;>cases decide (o.kind≥1)<;>cases decide (o.kind≤10)<;>cases key o<;>cases WY P o<;>cases XN o<;>rfl

theorem z81 (o:PO)(ha:o.alias.length+8≤maxLen):Qp Tryz.prog 81 [P.av,QA o] (.bool (XU P o&&XN o)):=by
 have e0:P.av=.agg [.list (P.progs.map Qj),.list (P.enums.map Qt)]:=rfl;have n1:decide ((o.alias.length:Int) > 4096)=!decide ((o.alias.length:Int)≤4096):=(by rw[QMY];simp only[QMa,QM2,QNR];omega);have n2:decide (o.card<1)=!decide (o.card≥1):=(by rw[QMY];simp only[QMa,QM2,QNR];omega);have n3:decide (o.card > 5)=!decide (o.card≤5):=(by rw[QMY];simp only[QMa,QM2,QNR];omega);have n4:decide (o.kind<1)=!decide (o.kind≥1):=(by rw[QMY];simp only[QMa,QM2,QNR];omega);have n5:decide (o.kind > 10)=!decide (o.kind≤10):=(by rw[QMY];simp only[QMa,QM2,QNR];omega);have ht:Qp Tryz.prog 132 [.agg [.list (P.progs.map Qj),.list (P.enums.map Qt)],QA o] (.bool (WY P o)):=QH3 P o;have hk1:o.card≠5→key o=(o.key==0):=fun h=>by unfold key;rw[QMj h]
 have hk2:o.card=5→key o=((decide (o.key≥1)&&decide (o.key≤5))||o.key==7):=fun h=>by
  unfold key;rw[QMy h,QMY];simp only[QMt,QL9,QMa,QMb,QMv,ne_eq];omega
 have hu:XN o=(o.union == -1||o.card==2):=rfl;simp only[QA,PO.cells]at ht;rw[Qsf];refine k81.fn (by simp) ?_;simp only[RV,RW,RX,RY,RZ,R0,r81,o81,e0,QA,PO.cells,eE,seval];refine Qb (Qr5 o.alias ha) rfl rfl rfl (.inl rfl) ?_;cases Uu o.alias
 ·simp only[QNb,QNw,Qa,seval]
 cases a1:decide ((o.alias.length:Int)≤4096)
 ·simp only[QNE,QNb,QND,n1,a1,QNw,eE,seval]
 cases a2:decide (o.card≥1)
 ·simp only[QNE,QNb,QND,n1,n2,a1,a2,QNw,eE,seval]
 cases a3:decide (o.card≤5)
 ·simp only[QNE,QNb,QND,n1,n2,n3,a1,a2,a3,QNw,eE,seval]
 cases a4:decide (o.kind≥1)
 ·simp only[QNE,QNb,QND,n1,n2,n3,n4,a1,a2,a3,a4,QNw,eE,seval]
 cases a5:decide (o.kind≤10)
 ·simp only[QNE,QNb,QND,n1,n2,n3,n4,n5,a1,a2,a3,a4,a5,QNw,eE,seval]
 have fin:∀(f:Fr) (fr:Nat→Ob) (kb:Bool),kb=key o→f 2=.ptr 0 2 0→fr 2=.cells [.list (P.progs.map Qj),.list (P.enums.map Qt)]→f 3=.ptr 0 3 0→fr 3=.cells [.int .i64 o.num,.str o.name,.str o.alias,.int .i64 o.card,.int .i64 o.key,.int .i64 o.kind,.int .i64 o.target,.int .i64 o.union]→f 5=.bool kb→
   QD Tryz.prog NY ⟨f,[fr],[]⟩ (Kc Tryz.prog .ret (X7 [.tmp 4] 0 fun x _=>x=.bool (key o&&WY P o&&XN o)) .normal):=by
  intro f fr kb hkb h2 m2 h3 m3 h5;subst hkb;simp only[NY,h5,Qa,seval];cases key o
  ·simp only[QNw,Qa,seval]
  simp only[h2,m2,h3,m3,QND,eE,seval];refine Qb ht rfl rfl rfl (.inl rfl) ?_;cases WY P o
  ·simp only[QNw,Qa,seval]
  rw[hu];cases c1:(o.union == -1)<;>simp only[h3,m3,c1,QND,QNG,QNH,eE,seval]
 by_cases h5:o.card=5
 ·have b5:(o.card != 5)=false:=by simp[h5]
  have hk:=hk2 h5;simp only[QNE,QND,n1,n2,n3,n4,n5,a1,a2,a3,a4,a5,eE,seval];cases c1:decide (o.key≥1)<;>cases c2:decide (o.key≤5)<;>cases c3:(o.key==7)<;>simp only[c2,c3,b5,eE,seval]
  all_goals
   rw[c1,c2,c3]at hk;exact fin _ _ _ hk.symm (by rfl) (by rfl) (by rfl) (by rfl) (by rfl)
 ·have b5:(o.card != 5)=true:=by simp[h5]
  have hk:=hk1 h5;simp only[QNE,QND,n1,n2,n3,n4,n5,a1,a2,a3,a4,a5,eE,seval];cases c1:decide (o.key≥1)<;>cases c2:decide (o.key≤5)<;>cases c3:(o.key==7)<;>simp only[c2,c3,b5,eE,seval]
  all_goals exact fin _ _ _ hk.symm (by rfl) (by rfl) (by rfl) (by rfl) (by rfl)

end

end Go.Proofs.YtipjfckmopekaaaGreatDoor.Va

namespace Go.Proofs.YtipjfckmopekaaaGreatDoor.Cp
open Go Am Bt Vp

structure C where
 d:List UInt8
 a:Int
 e:Int
 dp:Int
 nd:Int
 tx:Int

def C.av (c:C):AV:=.agg [.str c.d,.int .i64 c.a,.int .i64 c.e,.int .i64 c.dp,.int .i64 c.nd,.int .i64 c.tx]
def zc:C:=⟨[],0,0,0,0,0⟩

structure L where
 b:Int
 dp:Int
 nd:Int
 tx:Int
def L.av (l:L):AV:=.agg [.int .i64 l.b,.int .i64 l.dp,.int .i64 l.nd,.int .i64 l.tx]

def C.sound (c:C):Bool:=decide (0≤c.a)&&decide (c.a≤c.e)&&decide (c.e≤(c.d.length:Int))
def C.rest (c:C):List UInt8:=bif c.sound then(c.d.drop c.a.toNat).take (c.e.toNat-c.a.toNat)else []
def C.left (c:C):Int:=(c.rest.length:Int)
def C.ahead (c:C)(n:Int):C:={ c with a:=IntKind.i64.wrap (c.a+n) }

def opn (s:List UInt8)(l:L):C×Nat :=
 if l.b<0∨l.dp<0∨l.nd<0∨l.tx<0 then(zc,1)else if l.b<(s.length:Int)then(zc,3)else(⟨s,0,s.length,l.dp,l.nd,l.tx⟩,0)

def C.varint (c:C):Nat×C×Nat :=
 let r:=Vp.take c.rest
 if r.2.2=0 then(r.1,c.ahead r.2.1,0)else(0,c,r.2.2)

def Pw (s:List UInt8):Nat:=(s.take 8).foldr (fun b u=>256*u+b.toNat) 0

def C.fixed (c:C):Nat×C×Nat :=
 if c.rest.length<8 then(0,c,4)else(Pw c.rest,c.ahead 8,0)

def C.spend (c:C)(n:Int):C×Nat :=
 if n<0 then(c,1)else if c.nd<n then(c,3)else({ c with nd:=IntKind.i64.wrap (c.nd-n) },0)

theorem C.sound_iff (c:C):c.sound=true↔0≤c.a∧c.a≤c.e∧c.e≤(c.d.length:Int):=by
 simp[C.sound,and_assoc]

theorem C.rest_len (c:C):c.left=if c.sound=true then c.e-c.a else 0:=by
 unfold C.left C.rest;split
 ·rename_i h;rw[h];have:=(C.sound_iff c).1 h;simp;omega
 ·rename_i h;have h:c.sound=false:=by simpa using h
  rw[h];rfl

theorem C.rest_no {c:C}(h:c.sound=false):c.rest=[]:=by
 unfold C.rest;rw[h];rfl

end Go.Proofs.YtipjfckmopekaaaGreatDoor.Cp

namespace Go.Proofs.YtipjfckmopekaaaGreatDoor.Up
open Go Am Bt Vp Cp

structure R where
 num:Int
 wire:Int
 bits:Nat
 data:List UInt8
 deriving DecidableEq

def R.av (f:R):AV:=.agg [.int .i64 f.num,.int .i64 f.wire,.int .u64 (f.bits:Nat),.str f.data]
def zr:R:=⟨0,0,0,[]⟩

def Jb (num wire:Int):List UInt8×Nat :=
 if num<1∨65535<num∨wire<0∨6<wire then([],6)else(Vp.put (num*8+wire).toNat,0)
def Vj (r:List UInt8×Nat):AV:=.tup [.str r.1,.int .i64 (r.2:Nat)]

def B6 (c:C):Int×Int×C×Nat :=
 let r:=c.varint
 if r.2.2=0 then
  if r.1 % 8=7 then(0,0,c,5)else if r.1 / 8<1∨65535<r.1 / 8 then(0,0,c,6)else((r.1 / 8:Nat),(r.1 % 8:Nat),r.2.1,0)
 else(0,0,c,r.2.2)
def KQ (wire:Int):Bool:=wire==0||wire==1||wire==2

def FF (c:C)(wire:Int):List UInt8×C×Nat :=
 let r:=c.varint
 if r.2.2=0 then
  if r.2.1.left<(r.1:Int)then([],c,4)
  else if (if wire=3 then c.tx else 65536)<(r.1:Int)then([],c,3)
  else((r.2.1.d.drop r.2.1.a.toNat).take r.1,r.2.1.ahead r.1,0)
 else([],c,r.2.2)
def Qsg (c:C)(f:R):R×C×Nat :=
 if f.wire=2 then({ f with bits:=c.fixed.1 },c.fixed.2.1,c.fixed.2.2)
 else if f.wire=0∨f.wire=1 then({ f with bits:=c.varint.1 },c.varint.2.1,c.varint.2.2)
 else({ f with data:=(FF c f.wire).1 },(FF c f.wire).2.1,(FF c f.wire).2.2)

def Wx (c:C):R×C×Nat :=
 let t:=B6 c
 if t.2.2.2=0 then
  let s:=t.2.2.1.spend 1
  if s.2=0 then
   let k:=Qsg s.1 { num:=t.1,wire:=t.2.1,bits:=0,data:=[] }
   if k.2.2=0 then k else(zr,c,k.2.2)
  else(zr,c,s.2)
 else(zr,c,t.2.2.2)
theorem FG {c:C}(h:c.rest≠[]):c.sound=true:=by
 cases hs:c.sound with
 |true=>rfl
 |false=>exact absurd (C.rest_no hs) h

theorem Wo {c:C}(hl:c.d.length≤9223372036854775807)(h:c.varint.2.2=0):∃n:Nat,0<n∧n≤10∧(n:Int)≤c.left∧c.varint.2.1={ c with a:=c.a+n }∧c.sound=true∧c.varint.2.1.sound=true∧c.varint.1<2 ^ 64:=by
 unfold C.varint at h ⊢;have hb:=Bs c.rest;generalize Vp.take c.rest=r at h hb ⊢;obtain⟨u,n,e⟩:=r;simp only at h hb ⊢;split at h
 ·rename_i he;subst he;obtain⟨h1,h2,h3,h4⟩:=hb rfl;have hne:c.rest≠[]:=by intro e;rw[e]at h2;simp at h2;omega
  have hs:=FG hne;have hs':=(C.sound_iff c).1 hs;have hle:=c.rest_len;rw[QMy hs]at hle;have hw:IntKind.i64.wrap (c.a+(n:Int))=c.a+n:=by
   have:(n:Int)≤c.left:=by unfold C.left;omega
   rw[QF];omega
  have hnl:(n:Int)≤c.left:=by unfold C.left;omega
  refine⟨n,h1,h3,hnl,?_,hs,?_,?_⟩
  ·rw[QMy rfl];simp only[C.ahead,hw]
  ·rw[QMy rfl];rw[C.sound_iff];simp only[C.ahead,hw];omega
  ·rw[QMy rfl];exact h4
 ·rename_i he;exact absurd h he

end Go.Proofs.YtipjfckmopekaaaGreatDoor.Up

namespace Go.Proofs.YtipjfckmopekaaaGreatDoor.Br
open Go Am Up

theorem Iq {M k:Nat}{cs:List AV}(h:Q2 Tryz.prog M k 52 cs):∃f:R,((Lit.int .i64 f.num).wf=true∧(Lit.int .i64 f.wire).wf=true∧(Lit.int .u64 (f.bits:Int)).wf=true∧f.data.length≤M)∧.agg cs=f.av:=by
 obtain⟨k,h⟩:=XX Tryz.underlying52 h;simp only[Q2.HasL]at h;obtain⟨_,_,rfl,h0,_,_,rfl,h1,_,_,rfl,h2,_,_,rfl,h3,rfl⟩:=h;obtain⟨a0,rfl,w0⟩:=Xm Tryz.underlying3 h0;obtain⟨a1,rfl,w1⟩:=Xm Tryz.underlying3 h1;obtain⟨a2,rfl,w2⟩:=Xm Tryz.underlying26 h2;obtain⟨a3,rfl,w3⟩:=Z9 Tryz.underlying9 h3;have hn:0≤a2:=DY w2;obtain⟨n,rfl⟩:=QNF hn;exact⟨⟨a0,a1,n,a3⟩,⟨w0,w1,w2,w3⟩,rfl⟩

inductive V where
 |mk (k:Int) (b:Nat) (t:List UInt8) (l:List V) (p:List (V×V)) (s:List (Int×V)) (r:List R)
 deriving Inhabited

mutual
def V.cells:V→List AV
 |.mk k b t l p s r=>[.int .i64 k,.int .u64 (b:Nat),.str t,.list (V.cl l),.list (V.cp p),.list (V.cs s),.list (r.map R.av)]
def V.cl:List V→List AV
 | []=>[]
 |x :: l=>.agg x.cells :: V.cl l
def V.cp:List (V×V)→List AV
 | []=>[]
 |(a,b) :: l=>.agg (a.cells++b.cells) :: V.cp l
def V.cs:List (Int×V)→List AV
 | []=>[]
 |(n,a) :: l=>.agg (.int .i64 n :: a.cells) :: V.cs l
end

def V.kd:V→Int|.mk k _ _ _ _ _ _=>k
def V.bits:V→Nat|.mk _ b _ _ _ _ _=>b
def V.text:V→List UInt8|.mk _ _ t _ _ _ _=>t
def V.list:V→List V|.mk _ _ _ l _ _ _=>l
def V.pairs:V→List (V×V)|.mk _ _ _ _ p _ _=>p
def V.slots:V→List (Int×V)|.mk _ _ _ _ _ s _=>s
def V.raws:V→List R|.mk _ _ _ _ _ _ r=>r

def V.av (v:V):AV:=.agg v.cells
def V.pav (p:V×V):AV:=.agg (p.1.cells++p.2.cells)
def V.sav (s:Int×V):AV:=.agg (.int .i64 s.1 :: s.2.cells)

theorem V.cl_eq:∀l:List V,V.cl l=l.map V.av
 | []=>rfl
 |x :: l=>by rw[V.cl,V.cl_eq l];rfl
theorem V.cp_eq:∀l:List (V×V),V.cp l=l.map V.pav
 | []=>rfl
 |(a,b) :: l=>by rw[V.cp,V.cp_eq l];rfl
theorem V.cs_eq:∀l:List (Int×V),V.cs l=l.map V.sav
 | []=>rfl
 |(n,a) :: l=>by rw[V.cs,V.cs_eq l];rfl

theorem V.eta:∀v:V,v.cells=[.int .i64 v.kd,.int .u64 (v.bits:Nat),.str v.text,.list (v.list.map V.av),.list (v.pairs.map V.pav),.list (v.slots.map V.sav),.list (v.raws.map R.av)]
 |.mk k b t l p s r=>by rw[V.cells,V.cl_eq,V.cp_eq,V.cs_eq];rfl

theorem V.ind {P:V→Prop}(h:∀v:V,(∀x∈v.list,P x)→(∀x∈v.pairs,P x.1∧P x.2)→(∀x∈v.slots,P x.2)→P v)(v:V):P v :=
 V.rec (motive_1:=P) (motive_2:=fun l=>∀x∈l,P x) (motive_3:=fun p=>∀x∈p,P x.1∧P x.2) (motive_4:=fun s=>∀x∈s,P x.2) (motive_5:=fun q=>P q.1∧P q.2) (motive_6:=fun q=>P q.2)
  (fun k b t l p s r hl hp hs=>h (.mk k b t l p s r) hl hp hs)
  (by simp) (fun a l ha hl=>by simpa using ⟨ha,hl⟩)
  (by simp) (fun a l ha hl=>by simp only[QNo,forall_eq_or_imp];exact⟨ha,hl⟩)
  (by simp) (fun a l ha hl=>by simp only[QNo,forall_eq_or_imp];exact⟨ha,hl⟩)
  (fun a b ha hb=>⟨ha,hb⟩) (fun n a ha=>ha) v

structure _root_.Go.Proofs.YtipjfckmopekaaaGreatDoor.Up.R.ok (M:Nat)(f:R):Prop where
 num:(Lit.int .i64 f.num).wf=true
 wire:(Lit.int .i64 f.wire).wf=true
 bits:(Lit.int .u64 (f.bits:Int)).wf=true
 data:f.data.length≤M

inductive V.ok (M:Nat):V→Prop
 |mk {v:V} (kd:(Lit.int .i64 v.kd).wf=true) (bits:(Lit.int .u64 (v.bits:Int)).wf=true) (text:v.text.length≤M) (nl:v.list.length≤1099511627776) (np:v.pairs.length≤549755813888) (ns:v.slots.length≤1099511627776) (nr:v.raws.length≤70368744177664)
   (list:∀x∈v.list,V.ok M x) (keys:∀x∈v.pairs,V.ok M x.1) (vals:∀x∈v.pairs,V.ok M x.2) (nums:∀x∈v.slots,(Lit.int .i64 x.1).wf=true) (slots:∀x∈v.slots,V.ok M x.2) (raws:∀x∈v.raws,x.ok M):V.ok M v

section
variable {M:Nat}{v:V}(h:v.ok M)
include h
theorem V.ok.kd:(Lit.int .i64 v.kd).wf=true:=by cases h;assumption
theorem V.ok.bits:(Lit.int .u64 (v.bits:Int)).wf=true:=by cases h;assumption
theorem V.ok.text:v.text.length≤M:=by cases h;assumption
theorem V.ok.nl:v.list.length≤1099511627776:=by cases h;assumption
theorem V.ok.np:v.pairs.length≤549755813888:=by cases h;assumption
theorem V.ok.ns:v.slots.length≤1099511627776:=by cases h;assumption
theorem V.ok.nr:v.raws.length≤70368744177664:=by cases h;assumption
theorem V.ok.list:∀x∈v.list,x.ok M:=by cases h;assumption
theorem V.ok.keys:∀x∈v.pairs,x.1.ok M:=by cases h;assumption
theorem V.ok.vals:∀x∈v.pairs,x.2.ok M:=by cases h;assumption
theorem V.ok.nums:∀x∈v.slots,(Lit.int .i64 x.1).wf=true:=by cases h;assumption
theorem V.ok.slots:∀x∈v.slots,x.2.ok M:=by cases h;assumption
theorem V.ok.raws:∀x∈v.raws,x.ok M:=by cases h;assumption
end

theorem V.cells_length (v:V):v.cells.length=7:=by rw[V.eta];rfl

theorem GC {c:List AV}(h:2≤c.length):Xk c=.agg c:=by
 match c,h with
 |_ :: _ :: _,_=>rfl

theorem QzJ {M:Nat}(hM:M=reachBytes∨M≤1048576):∀ {k:Nat} {cs:List AV},Q2 Tryz.prog M k 32 cs→∃v:V,v.ok M∧cs=v.cells:=by
 intro k
 induction k using Nat.strongRecOn with
 |ind k ih=>
 intro cs h;cases k with
 |zero=>cases h
 |succ k=>
 simp only[Q2,Tryz.underlying32,Q2.HasL]at h;obtain⟨_,_,rfl,h0,_,_,rfl,h1,_,_,rfl,h2,_,_,rfl,h3,_,_,rfl,h4,_,_,rfl,h5,_,_,rfl,h6,rfl⟩:=h;obtain⟨a0,rfl,w0⟩:=Xm Tryz.underlying3 h0;obtain⟨a1,rfl,w1⟩:=Xm Tryz.underlying26 h1;obtain⟨a2,rfl,w2⟩:=Z9 Tryz.underlying9 h2;have hb:0≤a1:=DY w1;obtain⟨b,rfl⟩:=QNF hb;have sl:∀ {k0:Nat} {t e:TypeId} {cs:List AV},k0≤k→Tryz.prog.underlying t=some (.slice e)→Q2 Tryz.prog M k0 t cs→∃(k':Nat) (l:List (List AV)),k'<k∧cs=[.list (l.map Xk)]∧(l.length≤M∧(M=reachBytes→l.length*Tryz.prog.bytesOf e≤M))∧∀c∈l,Q2 Tryz.prog M k' e c:=by
  intro k0 t e cs hk hu h;cases k0 with
  |zero=>cases h
  |succ k0=>
   simp only[Q2,hu]at h;obtain⟨l,h1,h4,h3,h2⟩:=h;exact⟨k0,l,by omega,h1,⟨h2,h4.2⟩,h3⟩
 have nb:∀ {n b:Nat} (c:Nat),(n≤M∧(M=reachBytes→n*b≤M))→1048576≤c→(n*b≤140737488351232→n≤c)→n≤c:=fun c h1 h2 h3=>by
  rcases hM with e|e
  ·refine h3 (QL4 (h1.2 e) ?_);rw[e];exact QL3 _
  ·exact QL4 h1.1 (QL4 e h2)
 have y1:Tryz.prog.bytesOf 32=128:=by decide +kernel
 have y2:Tryz.prog.bytesOf 75=256:=by decide +kernel
 have y3:Tryz.prog.bytesOf 47=136:=by decide +kernel
 have y4:Tryz.prog.bytesOf 52=40:=by decide +kernel
 obtain⟨k3,l3,b3,rfl,w3,hl3⟩:=sl (QL3 _) Tryz.underlying27 h3;obtain⟨k4,l4,b4,rfl,w4,hl4⟩:=sl (QL3 _) Tryz.underlying28 h4;obtain⟨k5,l5,b5,rfl,w5,hl5⟩:=sl (QL3 _) Tryz.underlying29 h5;obtain⟨k6,l6,b6,rfl,w6,hl6⟩:=sl (QL3 _) Tryz.underlying30 h6;obtain⟨vs,rfl,hvs⟩:=Zd (f:=V.cells) (ok:=V.ok M) fun c hc=>ih k3 (by omega) (hl3 c hc)
 obtain⟨ps,rfl,hps⟩:=Zd (l:=l4) (f:=fun p:V×V=>p.1.cells++p.2.cells) (ok:=fun p=>p.1.ok M∧p.2.ok M) fun c hc=>by
  have h:=hl4 c hc;cases k4 with
  |zero=>cases h
  |succ k4=>
  simp only[Q2,Tryz.underlying75,Q2.HasL]at h;obtain⟨a,_,rfl,h0,b,_,rfl,h1,rfl⟩:=h;obtain⟨x,hx,rfl⟩:=ih k4 (by omega) h0;obtain⟨y,hy,rfl⟩:=ih k4 (by omega) h1;exact⟨(x,y),⟨hx,hy⟩,by simp⟩
 obtain⟨ss,rfl,hss⟩:=Zd (l:=l5) (f:=fun s:Int×V=>.int .i64 s.1 :: s.2.cells) (ok:=fun s=>(Lit.int .i64 s.1).wf=true∧s.2.ok M) fun c hc=>by
  have h:=hl5 c hc;cases k5 with
  |zero=>cases h
  |succ k5=>
  simp only[Q2,Tryz.underlying47,Q2.HasL]at h;obtain⟨_,_,rfl,h0,b,_,rfl,h1,rfl⟩:=h;obtain⟨a0,rfl,w0⟩:=Xm Tryz.underlying3 h0;obtain⟨y,hy,rfl⟩:=ih k5 (by omega) h1;exact⟨(a0,y),⟨w0,hy⟩,by simp⟩
 obtain⟨rs,rfl,hrs⟩:=Zd (l:=l6) (f:=fun r:R=>r.av.cells) (ok:=R.ok M) fun c hc=>by
  obtain⟨f,⟨g1,g2,g3,g4⟩,e⟩:=Iq (hl6 c hc);refine⟨f,⟨g1,g2,g3,g4⟩,?_⟩;rw[←e];rfl
 refine⟨.mk a0 b a2 vs ps ss rs,.mk w0 w1 w2 (by rw[QMZ,y1]at w3;exact nb _ w3 (by decide) (by omega)) (by rw[QMZ,y2]at w4;exact nb _ w4 (by decide) (by omega)) (by rw[QMZ,y3]at w5;exact nb _ w5 (by decide) (by omega)) (by rw[QMZ,y4]at w6;exact nb _ w6 (by decide) (by omega)) hvs (fun x hx=>(hps x hx).1) (fun x hx=>(hps x hx).2) (fun x hx=>(hss x hx).1) (fun x hx=>(hss x hx).2) hrs,?_⟩;rw[V.eta];have e3:(vs.map V.cells).map Xk=vs.map V.av:=by
  rw[QNL];exact List.map_congr_left fun c _=>GC (by rw[V.cells_length];omega)
 have e4:(ps.map (fun p=>p.1.cells++p.2.cells)).map Xk=ps.map V.pav:=by
  rw[QNL];exact List.map_congr_left fun p _=>GC (by rw[QMH,V.cells_length];omega)
 have e5:(ss.map (fun s=>AV.int .i64 s.1 :: s.2.cells)).map Xk=ss.map V.sav:=by
  rw[QNL];exact List.map_congr_left fun p _=>GC (by rw[QMk,V.cells_length];omega)
 have e6:(rs.map (fun r=>r.av.cells)).map Xk=rs.map R.av:=by
  rw[QNL];exact List.map_congr_left fun r _=>rfl
 rw[e3,e4,e5,e6];rfl

end Go.Proofs.YtipjfckmopekaaaGreatDoor.Br

namespace Go.Proofs.YtipjfckmopekaaaGreatDoor.Va
open Go Am Rc Bt Br

def oth (k:Int)(b:Nat)(t:List UInt8)(l p s r:List AV):Bool :=
 (k != 11&&decide ((l.length:Int) > 0))||(k != 12&&decide ((p.length:Int) > 0))||(k != 10&&decide (((s.length+r.length:Nat):Int) > 0))||((b:Int) != 0&&(ZN k||k==10||k==11||k==12))||(!(t==[]) && !ZN k)

section
variable (k:Int)(b:Nat)(t:List UInt8)(l p s r:List AV)(hs:s.length≤140737488351232)(hr:r.length≤140737488351232)

set_option maxHeartbeats 2000000 in
include hs hr in
theorem z90:Qp Tryz.prog 90 [vo k b t l p s r] (.bool (oth k b t l p s r)):=by
 have w:IntKind.i64.wrap ((s.length:Int)+(r.length:Int))=((s.length+r.length:Nat):Int):=by simp only[QF];omega
 have n4:((b:Int) != 0)=!((b:Int)==0):=rfl;have n5:(t != [])=!(t==[]):=rfl;refine k90.fn (by simp) ?_;simp only[vo,oth,ZN,n4,eE,seval];rcases(by omega:k=7∨k=8∨k=10∨k=11∨k=12∨(k≠7∧k≠8∧k≠10∧k≠11∧k≠12))with rfl|rfl|rfl|rfl|rfl|⟨h7,h8,h10,h11,h12⟩
 ·have b7:((7:Int)==7)=true:=by decide
  have b8:((7:Int)==8)=false:=by decide
  have b10:((7:Int)==10)=false:=by decide
  have b11:((7:Int)==11)=false:=by decide
  have b12:((7:Int)==12)=false:=by decide
  have c10:((7:Int) != 10)=true:=by decide
  have c11:((7:Int) != 11)=true:=by decide
  have c12:((7:Int) != 12)=true:=by decide
  have g1:decide ((7:Int)≥10)=false:=by decide
  have g2:decide ((7:Int)≤12)=true:=by decide
  simp only[b7,b8,b10,b11,b12,c10,c11,c12,QND,QNT,QNS,QNf,QNE,eE,seval];cases a1:decide ((l.length:Int) > 0)<;>try simp only[c12,QNH,QNG,eE,seval]
  all_goals(cases a2:decide ((p.length:Int) > 0)<;>try simp only[c10,QNH,QNG,w,eE,seval])
  all_goals(cases a3:decide (((s.length+r.length:Nat):Int) > 0)<;>try simp only[QNH,QNG,eE,seval])
  all_goals(cases a4:((b:Int)==0)<;>try simp only[a4,n4,QNb,QNE,QN,eE,seval])
  all_goals(cases a5:(t==[])<;>try simp only[QNb,QNE,Qa,seval])

 ·have b7:((8:Int)==7)=false:=by decide
  have b8:((8:Int)==8)=true:=by decide
  have b10:((8:Int)==10)=false:=by decide
  have b11:((8:Int)==11)=false:=by decide
  have b12:((8:Int)==12)=false:=by decide
  have c10:((8:Int) != 10)=true:=by decide
  have c11:((8:Int) != 11)=true:=by decide
  have c12:((8:Int) != 12)=true:=by decide
  have g1:decide ((8:Int)≥10)=false:=by decide
  have g2:decide ((8:Int)≤12)=true:=by decide
  simp only[b7,b8,b10,b11,b12,c10,c11,c12,QND,QNT,QNU,QNS,QNf,QNE,eE,seval];cases a1:decide ((l.length:Int) > 0)<;>try simp only[c12,QNH,QNG,eE,seval]
  all_goals(cases a2:decide ((p.length:Int) > 0)<;>try simp only[c10,QNH,QNG,w,eE,seval])
  all_goals(cases a3:decide (((s.length+r.length:Nat):Int) > 0)<;>try simp only[QNH,QNG,eE,seval])
  all_goals(cases a4:((b:Int)==0)<;>try simp only[a4,n4,QNb,QNE,QN,eE,seval])
  all_goals(cases a5:(t==[])<;>try simp only[QNb,QNE,Qa,seval])

 ·have b7:((10:Int)==7)=false:=by decide
  have b8:((10:Int)==8)=false:=by decide
  have b10:((10:Int)==10)=true:=by decide
  have b11:((10:Int)==11)=false:=by decide
  have b12:((10:Int)==12)=false:=by decide
  have c10:((10:Int) != 10)=false:=by decide
  have c11:((10:Int) != 11)=true:=by decide
  have c12:((10:Int) != 12)=true:=by decide
  have g1:decide ((10:Int)≥10)=true:=by decide
  have g2:decide ((10:Int)≤12)=true:=by decide
  simp only[b7,b8,b10,b11,b12,c10,c11,c12,QND,QNw,QNT,QNU,QNf,QNb,eE,seval];cases a1:decide ((l.length:Int) > 0)<;>try simp only[c12,QNH,QNG,eE,seval]
  all_goals(cases a2:decide ((p.length:Int) > 0)<;>try simp only[c10,QNH,QNG,eE,seval])
  all_goals(cases a3:decide (((s.length+r.length:Nat):Int) > 0)<;>try simp only[a3,g1,g2,b7,b8,b10,b11,b12,c10,c11,c12,QND,QNw,QNT,QNU,QNH,QNG,QNS,QNf,QNb,QNE,w,QN,eE,seval])
  all_goals(cases a4:((b:Int)==0)<;>try simp only[a4,n4,QNH,QNG,QNb,QNE,QN,eE,seval])
  all_goals(cases a5:(t==[])<;>try simp only[QNb,QNE,Qa,seval])

 ·have b7:((11:Int)==7)=false:=by decide
  have b8:((11:Int)==8)=false:=by decide
  have b10:((11:Int)==10)=false:=by decide
  have b11:((11:Int)==11)=true:=by decide
  have b12:((11:Int)==12)=false:=by decide
  have c10:((11:Int) != 10)=true:=by decide
  have c11:((11:Int) != 11)=false:=by decide
  have c12:((11:Int) != 12)=true:=by decide
  have g1:decide ((11:Int)≥10)=true:=by decide
  have g2:decide ((11:Int)≤12)=true:=by decide
  simp only[b7,b8,b10,b11,b12,c10,c11,c12,QND,QNw,QNT,QNU,QNH,QNf,QNb,eE,seval];cases a1:decide ((l.length:Int) > 0)<;>try simp only[a1,g1,g2,b7,b8,b10,b11,b12,c10,c11,c12,QND,QNw,QNT,QNU,QNH,QNG,QNS,QNf,QNb,QNE,w,QN,eE,seval]
  all_goals(cases a2:decide ((p.length:Int) > 0)<;>try simp only[c10,QNH,QNG,w,eE,seval])
  all_goals(cases a3:decide (((s.length+r.length:Nat):Int) > 0)<;>try simp only[QNH,QNG,eE,seval])
  all_goals(cases a4:((b:Int)==0)<;>try simp only[a4,n4,QNH,QNG,QNb,QNE,QN,eE,seval])
  all_goals(cases a5:(t==[])<;>try simp only[QNb,QNE,Qa,seval])

 ·have b7:((12:Int)==7)=false:=by decide
  have b8:((12:Int)==8)=false:=by decide
  have b10:((12:Int)==10)=false:=by decide
  have b11:((12:Int)==11)=false:=by decide
  have b12:((12:Int)==12)=true:=by decide
  have c10:((12:Int) != 10)=true:=by decide
  have c11:((12:Int) != 11)=true:=by decide
  have c12:((12:Int) != 12)=false:=by decide
  have g1:decide ((12:Int)≥10)=true:=by decide
  have g2:decide ((12:Int)≤12)=true:=by decide
  simp only[b7,b8,b10,b11,b12,c10,c11,c12,QND,QNw,QNT,QNU,QNf,QNb,eE,seval];cases a1:decide ((l.length:Int) > 0)<;>try simp only[c10,c12,QNH,QNG,w,eE,seval]
  all_goals(cases a2:decide ((p.length:Int) > 0)<;>try simp only[a2,g1,g2,b7,b8,b10,b11,b12,c10,c11,c12,QND,QNw,QNT,QNU,QNH,QNG,QNS,QNf,QNb,QNE,w,QN,eE,seval])
  all_goals(cases a3:decide (((s.length+r.length:Nat):Int) > 0)<;>try simp only[QNH,QNG,eE,seval])
  all_goals(cases a4:((b:Int)==0)<;>try simp only[a4,n4,QNH,QNG,QNb,QNE,QN,eE,seval])
  all_goals(cases a5:(t==[])<;>try simp only[QNb,QNE,Qa,seval])
 ·have b7:(k==7)=false:=by simp[h7]
  have b8:(k==8)=false:=by simp[h8]
  have b10:(k==10)=false:=by simp[h10]
  have b11:(k==11)=false:=by simp[h11]
  have b12:(k==12)=false:=by simp[h12]
  have c10:(k != 10)=true:=by simp[h10]
  have c11:(k != 11)=true:=by simp[h11]
  have c12:(k != 12)=true:=by simp[h12]
  rcases(by omega:(k≥10∧¬k≤12)∨¬k≥10)with⟨q1,q2⟩|q1
  ·have g1:decide (k≥10)=true:=QNQ q1;have g2:decide (k≤12)=false:=QNM q2;simp only[b7,b8,b10,b11,b12,c10,c11,c12,QND,QNT,QNS,QNf,QNb,eE,seval];cases a1:decide ((l.length:Int) > 0)<;>try simp only[c12,QNH,QNG,eE,seval]
   all_goals(cases a2:decide ((p.length:Int) > 0)<;>try simp only[c10,QNH,QNG,w,eE,seval])
   all_goals(cases a3:decide (((s.length+r.length:Nat):Int) > 0)<;>try simp only[QNH,QNG,eE,seval])
   all_goals(cases a4:((b:Int)==0)<;>try simp only[a4,n4,g1,g2,QNb,QNE,QN,eE,seval])
   all_goals(cases a5:(t==[])<;>try simp only[QNb,QNE,Qa,seval])
  ·have g1:decide (k≥10)=false:=QNM q1;simp only[b7,b8,b10,b11,b12,c10,c11,c12,QND,QNT,QNS,QNf,QNb,eE,seval];cases a1:decide ((l.length:Int) > 0)<;>try simp only[c12,QNH,QNG,eE,seval]
   all_goals(cases a2:decide ((p.length:Int) > 0)<;>try simp only[c10,QNH,QNG,w,eE,seval])
   all_goals(cases a3:decide (((s.length+r.length:Nat):Int) > 0)<;>try simp only[QNH,QNG,eE,seval])
   all_goals(cases a4:((b:Int)==0)<;>try simp only[a4,n4,g1,QNb,QNE,QN,eE,seval])
   all_goals(cases a5:(t==[])<;>try simp only[QNb,QNE,Qa,seval])

end

section
variable (k:Int)(b:Nat)(t:List UInt8)(l p s r:List AV)(hs:s.length≤140737488351232)(hr:r.length≤140737488351232)

end

def zc:List AV:=[.int .i64 0,.str [],.str [],.int .i64 0,.int .i64 0,.int .i64 0,.int .i64 0,.int .i64 0]

section progs
variable (L:List PG)(hl:L.length≤maxLen)(p:PG→Bool)(c:Nat)(cap:AV)(m:Ql)

def IxG (k:Nat)(st:St):Prop :=
 ∃f i,st=⟨f,Qc :: m,[]⟩∧k=L.length-i∧QW p L 0=QW p (L.drop i) i∧f 0=.list (L.map Qj)∧f 1=.fn (.func c) [] [cap.sh]∧f 7=.int .i64 (L.length:Nat)∧f 8=.int .i64 (i:Nat)

include hl in
theorem y52 (hc:∀o∈L,Qh Tryz.prog c [Qj o,cap.sh] (Qc :: m) fun y m1=>y=.bool (p o)∧m1=Qc :: m) :
  Qh Tryz.prog 52 [.list (L.map Qj),.fn (.func c) [] [cap]] m fun y m1=>y=.int .i64 (QW p L 0)∧m1=m:=by
 refine Lo.go (by simp) ?_;simp only[QMZ,Qa,seval];refine Qf (IxG L p c cap m) _ ⟨_,0,rfl,rfl,rfl,(by rfl),(by rfl),(by rfl),(by rfl)⟩ ?_;rintro _ st ⟨f,i,rfl,rfl,hx,h0,h1,h7,h8⟩;simp only[h7,h8,Qa,seval];by_cases hlt:i<L.length
 ·obtain⟨x,hi⟩:∃x,L[i]? = some x:=⟨L[i],QL6 hlt⟩;have hcl:=hc x (QMi hi);have hg:(L.map Qj)[i]? = some (Qj x):=by simp[hi]
  have e1:=Qq i _ hlt hl;simp only[Qj,PG.cells]at hcl;simp only[Qo hlt,Qm,QNt,Qd,hg,Qj,PG.cells,h0,h1,h8,eE,seval];refine Q6 (fa:=[]) (fb:=[cap.sh]) (by rfl) hcl (by simp only[QMB,QM5,QMs,QMr,Qa,seval]) ?_;rw[XS p hi]at hx;cases hp:p x
  ·rw[hp]at hx;simp only[QMo,if_false]at hx;simp only[h8,e1,Qa,seval];exact⟨L.length-(i+1),by omega,_,i+1,rfl,rfl,hx,(by exact h0),(by exact h1),(by exact h7),(by rfl)⟩
  ·rw[hp]at hx;simp only[if_true]at hx;simp only[hx,Qa,seval]
 ·have hx':QW p L 0 = -1:=by rw[hx,QMG (by omega)];rfl
  simp only[QE hlt,hx',Qa,seval]

end progs

section items
variable (L:List PI)(hl:L.length≤maxLen)(p:PI→Bool)(c:Nat)(cap:AV)(m:Ql)

def IxI (k:Nat)(st:St):Prop :=
 ∃f i,st=⟨f,Qc :: m,[]⟩∧k=L.length-i∧QW p L 0=QW p (L.drop i) i∧f 0=.list (L.map Q0)∧f 1=.fn (.func c) [] [cap.sh]∧f 7=.int .i64 (L.length:Nat)∧f 8=.int .i64 (i:Nat)

include hl in
theorem QH4 (hc:∀o∈L,Qh Tryz.prog c [Q0 o,cap.sh] (Qc :: m) fun y m1=>y=.bool (p o)∧m1=Qc :: m) :
  Qh Tryz.prog 245 [.list (L.map Q0),.fn (.func c) [] [cap]] m fun y m1=>y=.int .i64 (QW p L 0)∧m1=m:=by
 refine Qqk.go (by simp) ?_;simp only[QMZ,Qa,seval];refine Qf (IxI L p c cap m) _ ⟨_,0,rfl,rfl,rfl,(by rfl),(by rfl),(by rfl),(by rfl)⟩ ?_;rintro _ st ⟨f,i,rfl,rfl,hx,h0,h1,h7,h8⟩;simp only[h7,h8,Qa,seval];by_cases hlt:i<L.length
 ·obtain⟨x,hi⟩:∃x,L[i]? = some x:=⟨L[i],QL6 hlt⟩;have hcl:=hc x (QMi hi);have hg:(L.map Q0)[i]? = some (Q0 x):=by simp[hi]
  have e1:=Qq i _ hlt hl;simp only[Q0,PI.cells]at hcl;simp only[Qo hlt,Qm,QNt,Qd,hg,Q0,PI.cells,h0,h1,h8,eE,seval];refine Q6 (fa:=[]) (fb:=[cap.sh]) (by rfl) hcl (by simp only[QMB,QM5,QMs,QMr,Qa,seval]) ?_;rw[XS p hi]at hx;cases hp:p x
  ·rw[hp]at hx;simp only[QMo,if_false]at hx;simp only[h8,e1,Qa,seval];exact⟨L.length-(i+1),by omega,_,i+1,rfl,rfl,hx,(by exact h0),(by exact h1),(by exact h7),(by rfl)⟩
  ·rw[hp]at hx;simp only[if_true]at hx;simp only[hx,Qa,seval]
 ·have hx':QW p L 0 = -1:=by rw[hx,QMG (by omega)];rfl
  simp only[QE hlt,hx',Qa,seval]

theorem GD {α:Type}(p:α→Bool)(l:List α):decide (QW p l 0≥0)=l.any p:=by
 rcases KN p l 0 with⟨h1,h2⟩|⟨k,o,h1,_,h3⟩
 ·rw[h1];have:l.any p=false:=by
   rw[List.any_eq_false];intro x hx;exact fun h=>by have:=List.find?_eq_none.1 h2 x hx;exact this h
  rw[this];rfl
 ·rw[h1];have:l.any p=true:=List.any_eq_true.2 ⟨o,QNP h3,List.find?_some h3⟩;rw[this];exact QNQ (by omega)

include hl in
theorem QH5 (hc:∀o∈L,Qh Tryz.prog c [Q0 o,cap.sh.sh] (Qc :: Qc :: m) fun y m1=>y=.bool (p o)∧m1=Qc :: Qc :: m) :
  Qh Tryz.prog 211 [.list (L.map Q0),.fn (.func c) [] [cap]] m fun y m1=>y=.bool (L.any p)∧m1=m:=by
 refine Qpo.go (by simp) ?_;simp only[Qa,seval];refine Qi (QH4 L hl p c cap.sh _ hc) (by simp only[QMB,QM5,Qa,seval]) ?_;simp only[GD,Qa,seval]

end items

def Me (b:Nat)(x:PI):Bool:=IntKind.u64.wrap x.num==(b:Int)
theorem y53 (g:PG)(frO:Nat→Ob)(s:List UInt8)(hf:frO 3=.cells [.str s]):Qh Tryz.prog 53 [Qj g,.ptr 1 3 0] [Qc,frO] fun y m1=>y=.bool (g.name==s)∧m1=[Qc,frO]:=by
 refine k53.go (by simp) ?_;simp only[hf,Qj,PG.cells,QN,eE,seval]

theorem QH6 (x:PI)(b:Nat)(frO:Nat→Ob)(hf:frO 5=.cells [.int .u64 (b:Nat)]):Qh Tryz.prog 222 [Q0 x,.ptr 2 5 0] [Qc,Qc,frO] fun y m1=>y=.bool (Me b x)∧m1=[Qc,Qc,frO]:=by
 refine QFi.go (by simp) ?_;simp only[hf,Q0,PI.cells,Me,eE,seval]

def pfr (s:List UInt8)(L:List PG):AV:=.tup [.int .i64 (if QW (fun g:PG=>g.name==s) L 0<0 then 0 else QW (fun g:PG=>g.name==s) L 0),.bool (decide (QW (fun g:PG=>g.name==s) L 0≥0))]

theorem y26 (P:PL)(hl:P.progs.length≤maxLen)(s:List UInt8):Qp Tryz.prog 26 [P.av,.str s] (pfr s P.progs):=by
 refine k26.fn (by simp) ?_;simp only[PL.av,eE,seval];refine Qi (y52 P.progs hl (fun g=>g.name==s) 53 (.ptr 0 3 0) _ fun g _=>y53 g _ s (by rfl)) (by simp only[QMB,QM5,Qa,seval]<;>rfl) ?_;unfold pfr;by_cases h:QW (fun g:PG=>g.name==s) P.progs 0<0
 ·have d:decide (QW (fun g:PG=>g.name==s) P.progs 0<0)=true:=QNQ h;simp only[QMy h,Qa,seval]
 ·have d:decide (QW (fun g:PG=>g.name==s) P.progs 0<0)=false:=QNM h;simp only[QMj h,Qa,seval]

def Wy (E:List PE)(t:Int)(b:Nat):Bool :=
 if 0≤t∧t<E.length∧b≤2147483647 then
  match E[t.toNat]? with
  |some x=>x.opn||x.items.any (Me b)
  |none=>false
 else false

theorem Qsi {M:Nat}(P:PL)(hP:P.ok M)(t:Int)(b:Nat):Qp Tryz.prog 179 [P.av,.int .i64 t,.int .u64 (b:Nat)] (.bool (Wy P.enums t b)):=by
 have e0:P.av=.agg [.list (P.progs.map Qj),.list (P.enums.map Qt)]:=rfl;refine QED.fn (by simp) ?_;simp only[e0,eE,seval];by_cases h1:0≤t
 ·have d1:decide (t<0)=false:=QNM (by omega);by_cases h2:t<P.enums.length
  ·have d2:decide (t≥(P.enums.length:Int))=false:=QNM (by omega);by_cases h3:b≤2147483647
   ·have d3:decide ((b:Int) > 2147483647)=false:=QNM (by omega);obtain⟨n,rfl⟩:=QNF h1;have hn:n<P.enums.length:=by omega
    obtain⟨x,hi⟩:∃x,P.enums[n]? = some x:=⟨P.enums[n],QL6 hn⟩;have hx:=hP.enums x (QMi hi);have hg:(P.enums.map Qt)[n]? = some (.agg x.cells):=by simp[hi,Qt]
    simp only[PE.cells]at hg;have ha:Wy P.enums (n:Int) b=(x.opn||x.items.any (Me b)):=by
     unfold Wy;rw[QMy ⟨h1,h2,h3⟩,QNt,hi]
    simp only[d1,d2,QMZ,d3,Qm,QNt,Qd,hg,ha,eE,seval];cases ho:x.opn
    ·simp only[QNH,eE,seval];refine Qi (QH5 x.items hx.len1 (Me b) 222 (.ptr 0 5 0) _ fun y _=>QH6 y b _ (by rfl)) (by simp only[QMB,QM5,Qa,seval]<;>rfl) ?_;simp only[Qa,seval]
    ·simp only[QNG,Qa,seval]
   ·have d3:decide ((b:Int) > 2147483647)=true:=QNQ (by omega);have ha:Wy P.enums t b=false:=by
     unfold Wy;rw[QMj (by omega)]
    simp only[d1,d2,QMZ,d3,ha,eE,seval]
  ·have d2:decide (t≥(P.enums.length:Int))=true:=QNQ (by omega);have ha:Wy P.enums t b=false:=by
    unfold Wy;rw[QMj (by omega)]
   simp only[d1,d2,QMZ,ha,eE,seval]
 ·have d1:decide (t<0)=true:=QNQ (by omega);have ha:Wy P.enums t b=false:=by
   unfold Wy;rw[QMj (by omega)]
  simp only[d1,ha,Qa,seval]

def YE (P:PL)(k tg kd:Int)(b:Nat)(t:List UInt8)(l p s r:List AV):Int :=
 if (kd != k||oth kd b t l p s r)=true then 12 else if decide ((t.length:Int) > 4096)=true then 3 else if (k==7 && !Uu t)=true then 7
 else if (!Xr k kd b t l p s r)=true then 12 else if (k==9 && !Wy P.enums tg b)=true then 16 else 0

section
variable {M:Nat}(P:PL)(hP:P.ok M)(k tg kd:Int)(b:Nat)(t:List UInt8)(l p s r:List AV)(hl:l.length≤140737488351232)(hp:p.length≤140737488351232)(hs:s.length≤140737488351232)(hr:r.length≤140737488351232)

include hP hl hp hs hr in
theorem QH7:Qp Tryz.prog 251 [P.av,.int .i64 k,.int .i64 tg,vo kd b t l p s r] (.int .i64 (YE P k tg kd b t l p s r)):=by
 have e0:P.av=.agg [.list (P.progs.map Qj),.list (P.enums.map Qt)]:=rfl;have ho:=z90 kd b t l p s r hs hr;have hf:=Qsb k kd b t l p s r hl hp hs hr;have ha:=Qsi P hP tg b;simp only[vo]at ho hf;simp only[e0]at ha;refine QjB.fn (by simp) ?_;simp only[e0,vo,YE,eE,seval];cases a1:(kd != k)
 ·simp only[QNH,eE,seval];refine Qb ho rfl rfl rfl (.inl rfl) ?_;cases oth kd b t l p s r
  ·simp only[QMo,eE,seval];cases a2:decide ((t.length:Int) > 4096)
   ·simp only[QMo,Qa,seval];have fin:∀c:Bool,True:=fun _=>trivial
    cases a3:(k==7)
    ·simp only[QNw,QMo,eE,seval];refine Qb hf rfl rfl rfl (.inl rfl) ?_;cases Xr k kd b t l p s r
     ·simp only[QNb,Qa,seval]
     ·simp only[QNE,QMo,Qa,seval];cases a4:(k==9)
      ·simp only[QNw,QMo,Qa,seval]
      ·simp only[QND,eE,seval];refine Qb ha rfl rfl rfl (.inl rfl) ?_;cases Wy P.enums tg b<;>simp only[QNb,QNE,QMo,Qa,seval]
    ·simp only[QND,eE,seval];refine Qb (Pt t) rfl rfl rfl (.inl rfl) ?_;cases Uu t
     ·simp only[QNb,Qa,seval]
     ·have a4:(k==9)=false:=by
       rw[QMb]at a3;subst a3;rfl
      simp only[QNE,QMo,eE,seval];refine Qb hf rfl rfl rfl (.inl rfl) ?_;cases Xr k kd b t l p s r
      ·simp only[QNb,Qa,seval]
      ·simp only[QNE,a4,QNw,QMo,Qa,seval]
   ·simp only[Qa,seval]
  ·simp only[Qa,seval]
 ·simp only[QNG,Qa,seval]

end
open Up

def XE (f:Nat→Int):Nat→Nat→Int
 |0,_=>0
 |k+1,i=>if f i=0 then XE f k (i+1)else f i

theorem Mf {f:Nat→Int}{n i:Nat}(h:i<n):XE f (n-i) i=if f i=0 then XE f (n-(i+1)) (i+1)else f i:=by
 rw[show n-i=(n-(i+1))+1 by omega];rfl
theorem HJ {f:Nat→Int}{n i:Nat}(h:i<n)(e:f i=0):XE f (n-i) i=XE f (n-(i+1)) (i+1):=by
 rw[Mf h,QMy e]
theorem Wz {f:Nat→Int}{n i:Nat}{v:Int}(h:i<n)(e:f i=v)(hv:v≠0):XE f (n-i) i=v:=by
 rw[Mf h,QMj (by rw[e];exact hv),e]
theorem Y4 {f:Nat→Int}{n i:Nat}(h:¬i<n):XE f (n-i) i=0:=by
 rw[show n-i=0 by omega];rfl
theorem Z2 {f:Nat→Int}:∀ {k i:Nat},XE f k i=0→∀j,i≤j→j<i+k→f j=0
 |0,_,_,_,h1,h2=>by omega
 |k+1,i,h,j,h1,h2=>by
  rw[XE]at h;split at h
  ·rename_i h0;by_cases e:j=i
   ·rw[e];exact h0
   ·exact Z2 h j (by omega) (by omega)
  ·rename_i h0;exact absurd h h0

def _root_.Go.Proofs.YtipjfckmopekaaaGreatDoor.Br.V.oth (v:V):Bool:=Va.oth v.kd v.bits v.text (v.list.map V.av) (v.pairs.map V.pav) (v.slots.map V.sav) (v.raws.map R.av)
def _root_.Go.Proofs.YtipjfckmopekaaaGreatDoor.Br.V.one (P:PL)(k tg:Int)(v:V):Int:=YE P k tg v.kd v.bits v.text (v.list.map V.av) (v.pairs.map V.pav) (v.slots.map V.sav) (v.raws.map R.av)

theorem Dp (v:V):v.av=vo v.kd v.bits v.text (v.list.map V.av) (v.pairs.map V.pav) (v.slots.map V.sav) (v.raws.map R.av):=by
 rw[V.av,V.eta];rfl

def Xb (P:PL)(t:Int):PG:=P.progs[t.toNat]?.getD ⟨[],[],0⟩
def Ka (a b:V):Bool:=a.bits==b.bits&&a.text==b.text
def XZ (g:PG)(n:Int):Option PO:=g.ops.find? fun o=>o.num==n

section
variable (m:PG→V→Int)(P:PL)
def QT (o:PO)(v:V):Int:=if o.kind=10 then m (Xb P o.target) v else v.one P o.kind o.target
def Wp (o:PO)(ps:List (V×V))(i:Nat):Int:=match ps[i]? with
 |none=>0
 |some x=>if x.1.one P o.key (-1)=0 then(if (ps.take i).any (fun q=>Ka q.1 x.1)=true then 9 else QT m P o x.2)else x.1.one P o.key (-1)
def UL (o:PO)(l:List V)(i:Nat):Int:=match l[i]? with
 |none=>0
 |some x=>QT m P o x
def XB (o:PO)(v:V):Int :=
 if o.card=5 then(if (v.kd != 12||v.oth)=true then 12 else XE (Wp m P o v.pairs) v.pairs.length 0)
 else if o.card=4 then(if (v.kd != 11||v.oth)=true then 12 else XE (UL m P o v.list) v.list.length 0)
 else QT m P o v
def JZ (g:PG)(o:PO)(y:Int×V):Bool:=o.union != -1&&(((XZ g y.1).getD HB).union==o.union)
def Zh (g:PG)(sl:List (Int×V))(i:Nat):Int:=match sl[i]? with
 |none=>0
 |some x=>match XZ g x.1 with
  |none=>8
  |some o=>if (sl.take i).any (fun y=>y.1==x.1)=true then 9 else if (sl.take i).any (JZ g o)=true then 15 else XB m P o x.2
def Dq (g:PG)(f:R):Bool:=match XZ g f.num with
 |none=>true
 |some o=>o.kind==9&&o.card != 5&&f.wire==0&&decide ((f.bits:Int)≤2147483647) && !Wy P.enums o.target f.bits
def JH (g:PG)(f:R):Int :=
 if (decide (f.num<1)||decide (f.num > 65535)||decide (f.wire<0)||decide (f.wire > 6))=true then 1
 else if (decide (f.wire≤2) && !(f.data==[])||decide (f.wire > 2) && !((f.bits:Int)==0))=true then 1
 else if (!Dq P g f)=true then 1
 else if (f.wire==3&&decide ((f.data.length:Int) > 4096)||decide ((f.data.length:Int) > 65536))=true then 3 else 0
def JI (g:PG)(l:List R)(i:Nat):Int:=match l[i]? with
 |none=>0
 |some f=>JH P g f
def WZ (g:PG)(sl:List (Int×V)):Bool:=g.ops.any fun o=>o.card==1 && !sl.any fun y=>y.1==o.num
def W0 (g:PG)(v:V):Int :=
 if XE (Zh m P g v.slots) v.slots.length 0=0 then
  (if WZ g v.slots=true then 14 else XE (JI P g v.raws) v.raws.length 0)
 else XE (Zh m P g v.slots) v.slots.length 0
end

theorem Y5 {m:PG→V→Int}{P:PL}{o:PO}{ps:List (V×V)}{i:Nat}{x:V×V}(h:ps[i]? = some x) :
  Wp m P o ps i=if x.1.one P o.key (-1)=0 then(if (ps.take i).any (fun q=>Ka q.1 x.1)=true then 9 else QT m P o x.2)else x.1.one P o.key (-1):=by
 unfold Wp;rw[h]
theorem Y6 {m:PG→V→Int}{P:PL}{o:PO}{l:List V}{i:Nat}{x:V}(h:l[i]? = some x):UL m P o l i=QT m P o x:=by
 unfold UL;rw[h]
theorem W2 {P:PL}{g:PG}{l:List R}{i:Nat}{x:R}(h:l[i]? = some x):JI P g l i=JH P g x:=by
 unfold JI;rw[h]

def XC (P:PL):Nat→PG→V→Int
 |0,_,v=>if (v.kd != 10||v.oth)=true then 12 else 17
 |n+1,g,v=>if (v.kd != 10||v.oth)=true then 12 else W0 (XC P n) P g v

mutual
def _root_.Go.Proofs.YtipjfckmopekaaaGreatDoor.Br.V.cnt:V→Nat
 |.mk _ _ _ l p s r=>1+r.length+Q9 l+Xt p+Xa s
def Q9:List V→Nat
 | []=>0
 |x :: l=>x.cnt+Q9 l
def Xt:List (V×V)→Nat
 | []=>0
 |(a,b) :: l=>a.cnt+b.cnt+Xt l
def Xa:List (Int×V)→Nat
 | []=>0
 |(_,a) :: l=>a.cnt+Xa l
end

theorem Xg:∀v:V,v.cnt=1+v.raws.length+Q9 v.list+Xt v.pairs+Xa v.slots
 |.mk k b t l p s r=>by rw[V.cnt];rfl

theorem G8 {l:List V}{i:Nat}{x:V}(h:l[i]? = some x):Q9 (l.take (i+1))=Q9 (l.take i)+x.cnt:=by
 induction l generalizing i with
 |nil=>simp at h
 |cons y l ih=>
  cases i with
  |zero=>simp at h;subst h;simp[Q9]
  |succ i=>
   simp only[QMC,Q9];rw[ih (by simpa using h)];omega
theorem Mg {l:List (V×V)}{i:Nat}{x:V×V}(h:l[i]? = some x):Xt (l.take (i+1))=Xt (l.take i)+(x.1.cnt+x.2.cnt):=by
 induction l generalizing i with
 |nil=>simp at h
 |cons y l ih=>
  obtain⟨y1,y2⟩:=y;cases i with
  |zero=>simp at h;subst h;simp[Xt]
  |succ i=>
   simp only[QMC,Xt];rw[ih (by simpa using h)];omega
theorem Mh {l:List (Int×V)}{i:Nat}{x:Int×V}(h:l[i]? = some x):Xa (l.take (i+1))=Xa (l.take i)+x.2.cnt:=by
 induction l generalizing i with
 |nil=>simp at h
 |cons y l ih=>
  obtain⟨y1,y2⟩:=y;cases i with
  |zero=>simp at h;subst h;simp[Xa]
  |succ i=>
   simp only[QMC,Xa];rw[ih (by simpa using h)];omega

inductive Thin:V→Prop
 |mk {v:V} (n:v.list.length+2*v.pairs.length+v.slots.length≤1099511627776) (list:∀x∈v.list,Thin x) (keys:∀x∈v.pairs,Thin x.1) (vals:∀x∈v.pairs,Thin x.2) (slots:∀x∈v.slots,Thin x.2):Thin v

theorem Y7 {v:V}(h:v.oth=false):(v.kd≠11→v.list=[])∧(v.kd≠12→v.pairs=[])∧(v.kd≠10→v.slots=[]):=by
 unfold V.oth Va.oth at h;simp only[QMX,QNV,bne_eq_false_iff_eq,QNR,QMZ]at h;obtain⟨⟨⟨⟨h1,h2⟩,h3⟩,_⟩,_⟩:=h;refine⟨fun h=>?_,fun h=>?_,fun h=>?_⟩
 ·rcases h1 with h1|h1
  ·exact absurd h1 h
  ·exact QNZ.1 (by omega)
 ·rcases h2 with h2|h2
  ·exact absurd h2 h
  ·exact QNZ.1 (by omega)
 ·rcases h3 with h3|h3
  ·exact absurd h3 h
  ·exact QNZ.1 (by omega)

theorem YF {P:PL}{k tg:Int}{v:V}(h:v.one P k tg=0):v.kd=k∧v.oth=false∧Xr k v.kd v.bits v.text (v.list.map V.av) (v.pairs.map V.pav) (v.slots.map V.sav) (v.raws.map R.av)=true:=by
 unfold V.one YE at h;split at h
 ·omega
 ·rename_i h1;split at h
  ·omega
  ·split at h
   ·omega
   ·split at h
    ·omega
    ·rename_i h2;simp only[QNX,QMX,bne_eq_false_iff_eq]at h1;exact⟨h1.1,h1.2,by simpa using h2⟩

theorem Px {k kd:Int}{b:Nat}{t:List UInt8}{l p s r:List AV}(h:Xr k kd b t l p s r=true):isk k=true:=by
 unfold Xr at h;simp only[QMt]at h;exact h.1.1.1.1.1.1

theorem Qsj {k:Int}(h:isk k=true):k≠10∧k≠11∧k≠12:=by
 unfold isk at h;simp only[QMt,QMa]at h;omega

theorem FH {P:PL}{k tg:Int}{v:V}(h:v.one P k tg=0):Thin v:=by
 obtain⟨h1,h2,h3⟩:=YF h;obtain⟨i1,i2,i3⟩:=Qsj (Px h3);obtain⟨o1,o2,o3⟩:=Y7 h2;rw[←h1]at i1 i2 i3;refine .mk ?_ ?_ ?_ ?_ ?_
 ·rw[o1 i2,o2 i3,o3 i1];simp
 ·rw[o1 i2];simp
 ·rw[o2 i3];simp
 ·rw[o2 i3];simp
 ·rw[o3 i1];simp

theorem Py {P:PL}{M:Nat}:∀(n:Nat) (g:PG) (v:V),v.ok M→XC P n g v=0→Thin v:=by
 intro n
 induction n with
 |zero=>
  intro g v _ h;unfold XC at h;split at h<;>omega
 |succ n ih=>
  intro g v hv h;unfold XC at h;split at h
  ·omega
  rename_i h0;simp only[QNX,QMX,bne_eq_false_iff_eq]at h0;obtain⟨o1,o2,o3⟩:=Y7 h0.2;have e1:=o1 (by omega);have e2:=o2 (by omega);unfold W0 at h;have hs:XE (Zh (XC P n) P g v.slots) v.slots.length 0=0:=by
   split at h
   ·assumption
   ·exact h
  refine .mk ?_ (by rw[e1];simp) (by rw[e2];simp) (by rw[e2];simp) ?_
  ·rw[e1,e2];have:=hv.ns;simp;omega
  ·intro x hx;obtain⟨i,hi⟩:=QMg.1 hx;have hlt:=(QL5.1 hi).1;have h1:=Z2 hs i (QMd _) (by omega);unfold Zh at h1;rw[hi]at h1;dsimp only at h1;split at h1
   ·omega
   rename_i o _;split at h1
   ·omega
   split at h1
   ·omega
   have hx2:=hv.slots x hx;have helem:∀y:V,y.ok M→QT (XC P n) P o y=0→Thin y:=by
    intro y hy he;unfold QT at he;split at he
    ·exact ih _ _ hy he
    ·exact FH he
   unfold XB at h1;split at h1
   ·split at h1
    ·omega
    rename_i h2;simp only[QNX,QMX,bne_eq_false_iff_eq]at h2;obtain⟨o1,o2,o3⟩:=Y7 h2.2;have e1:=o1 (by omega);have e3:=o3 (by omega);have hp:∀y∈x.2.pairs,Thin y.1∧Thin y.2:=by
     intro y hy;obtain⟨j,hj⟩:=QMg.1 hy;have hlt:=(QL5.1 hj).1;have h3:=Z2 h1 j (QMd _) (by omega);unfold Wp at h3;rw[hj]at h3;dsimp only at h3;split at h3
     ·rename_i hk;split at h3
      ·omega
      ·exact⟨FH hk,helem _ (hx2.vals y hy) h3⟩
     ·rename_i hk;exact absurd h3 hk
    refine .mk ?_ (by rw[e1];simp) (fun y hy=>(hp y hy).1) (fun y hy=>(hp y hy).2) (by rw[e3];simp);rw[e1,e3];have:=hx2.np;simp;omega
   ·split at h1
    ·split at h1
     ·omega
     rename_i h2;simp only[QNX,QMX,bne_eq_false_iff_eq]at h2;obtain⟨o1,o2,o3⟩:=Y7 h2.2;have e2:=o2 (by omega);have e3:=o3 (by omega);refine .mk ?_ ?_ (by rw[e2];simp) (by rw[e2];simp) (by rw[e3];simp)
     ·rw[e2,e3];have:=hx2.nl;simp;omega
     ·intro y hy;obtain⟨j,hj⟩:=QMg.1 hy;have hlt:=(QL5.1 hj).1;have h3:=Z2 h1 j (QMd _) (by omega);unfold UL at h3;rw[hj]at h3;exact helem _ (hx2.list y hy) h3
    ·exact helem _ hx2 h1

end Go.Proofs.YtipjfckmopekaaaGreatDoor.Va

namespace Go.Proofs.YtipjfckmopekaaaGreatDoor.So

section
variable {α:Type}

def Zn (lt:α→α→Bool)(a:α):List α→List α
 | []=>[a]
 |x :: l=>bif lt x a then x :: Zn lt a l else a :: x :: l

def QC (lt:α→α→Bool):List α→List α
 | []=>[]
 |a :: l=>Zn lt a (QC lt l)

def mg (lt:α→α→Bool):List α→List α→List α
 | [],Y=>Y
 |x :: X,[]=>x :: X
 |x :: X,y :: Y=>bif lt y x then y :: mg lt (x :: X) Y else x :: mg lt X (y :: Y)
termination_by X Y=>X.length+Y.length

structure SW (lt:α→α→Bool):Prop where
 irr:∀x,lt x x=false
 tr:∀x y z,lt x y=true→lt y z=true→lt x z=true
 nt:∀x y z,lt x y=false→lt y z=false→lt x z=false

variable {lt:α→α→Bool}

theorem SW.as (h:SW lt){x y:α}(hx:lt x y=true):lt y x=false:=by
 cases hy:lt y x with
 |false=>rfl
 |true=>
  have:=h.tr x y x hx hy;rw[h.irr]at this;cases this

theorem Z3 (X:List α):mg lt X []=X:=by cases X<;>simp[mg]
theorem ZE (Y:List α):mg lt [] Y=Y:=by simp[mg]
theorem KR {x y:α}{X Y:List α}(h:lt y x=true):mg lt (x :: X) (y :: Y)=y :: mg lt (x :: X) Y:=by rw[mg,h];rfl
theorem Wq {x y:α}{X Y:List α}(h:lt y x=false):mg lt (x :: X) (y :: Y)=x :: mg lt X (y :: Y):=by rw[mg,h];rfl
theorem We {a x:α}{l:List α}(h:lt x a=true):Zn lt a (x :: l)=x :: Zn lt a l:=by rw[Zn,h];rfl
theorem W3 {a x:α}{l:List α}(h:lt x a=false):Zn lt a (x :: l)=a :: x :: l:=by rw[Zn,h];rfl

theorem Mi (a:α):∀Y:List α,mg lt [a] Y=Zn lt a Y
 | []=>by rw[Z3];rfl
 |y :: Y=>by
  cases h:lt y a with
  |true=>rw[KR h,We h,Mi a Y]
  |false=>rw[Wq h,W3 h,ZE]

theorem Qsk (h:SW lt)(a:α):∀(n:Nat) (X Y:List α),X.length+Y.length=n→mg lt (Zn lt a X) Y=Zn lt a (mg lt X Y):=by
 intro n
 induction n using Nat.strongRecOn with
 |_ n ih=>
 intro X Y hn;cases X with
 |nil=>
  show mg lt [a] Y=Zn lt a (mg lt [] Y);rw[ZE,Mi]
 |cons x X=>
  cases Y with
  |nil=>rw[Z3,Z3]
  |cons y Y=>
   simp only[QMk]at hn;cases hxa:lt x a with
   |false=>
    have hi:Zn lt a (x :: X)=a :: x :: X:=W3 hxa;cases hya:lt y a with
    |true=>
     cases hyx:lt y x with
     |true=>
      have i:=ih (n-1) (by omega) (x :: X) Y (by simp only[QMk];omega);rw[hi]at i ⊢;rw[KR hya,KR hyx,We hya,i]
     |false=>
      have:=h.nt y x a hyx hxa;rw[hya]at this;cases this
    |false=>
     rw[hi,Wq hya];cases hyx:lt y x with
     |true=>rw[KR hyx,W3 hya]
     |false=>rw[Wq hyx,W3 hxa]
   |true=>
    have hi:Zn lt a (x :: X)=x :: Zn lt a X:=We hxa;cases hyx:lt y x with
    |true=>
     have i:=ih (n-1) (by omega) (x :: X) Y (by simp only[QMk];omega);rw[hi]at i ⊢;rw[KR hyx,KR hyx,We (h.tr y x a hyx hxa),i]
    |false=>
     have i:=ih (n-1) (by omega) X (y :: Y) (by simp only[QMk];omega);rw[hi,Wq hyx,Wq hyx,We hxa,i]

theorem UM (h:SW lt):∀A B:List α,mg lt (QC lt A) (QC lt B)=QC lt (A++B)
 | [],B=>ZE _
 |a :: A,B=>by
  show mg lt (Zn lt a (QC lt A)) (QC lt B)=Zn lt a (QC lt (A++B));rw[Qsk h a _ _ _ rfl,UM h A B]

theorem KS:∀(n:Nat) (X1 Y1 X2 Y2:List α),X1.length+Y1.length=n→(∀y∈Y1,∀x∈X2,lt y x=true)→(∀x∈X1,∀y∈Y2,lt y x=false)→
  mg lt (X1++X2) (Y1++Y2)=mg lt X1 Y1++mg lt X2 Y2:=by
 intro n
 induction n using Nat.strongRecOn with
 |_ n ih=>
 intro X1 Y1 X2 Y2 hn h1 h2;cases X1 with
 |nil=>
  cases Y1 with
  |nil=>rw[ZE];rfl
  |cons y Y1=>
   cases X2 with
   |nil=>simp[ZE]
   |cons x X2=>
    simp only[QMk,QM0]at hn;have i:=ih (n-1) (by omega) [] Y1 (x :: X2) Y2 (by simp only[QM0];omega) (fun z hz=>h1 z (QMl _ hz)) h2;simp only[QMs,QMr,ZE]at i ⊢;rw[KR (h1 y (by simp) x (by simp)),i]
 |cons x X1=>
  simp only[QMk]at hn;cases Y1 with
  |nil=>
   cases Y2 with
   |nil=>simp[Z3]
   |cons y Y2=>
    have i:=ih (n-1) (by omega) X1 [] X2 (y :: Y2) (by simp only[QM0]at hn ⊢;omega) h1 (fun z hz=>h2 z (QMl _ hz));simp only[QMs,QMr,Z3]at i ⊢;rw[Wq (h2 x (by simp) y (by simp)),i]
  |cons y Y1=>
   simp only[QMk]at hn;simp only[QMr];cases hyx:lt y x with
   |true=>
    have i:=ih (n-1) (by omega) (x :: X1) Y1 X2 Y2 (by simp only[QMk];omega) (fun z hz=>h1 z (QMl _ hz)) h2;simp only[QMr]at i;rw[KR hyx,KR hyx,i];rfl
   |false=>
    have i:=ih (n-1) (by omega) X1 (y :: Y1) X2 Y2 (by simp only[QMk];omega) h1 (fun z hz=>h2 z (QMl _ hz));simp only[QMr]at i;rw[Wq hyx,Wq hyx,i];rfl

theorem Ir {x:α}{Y1 Y2:List α}(h1:∀y∈Y1,lt y x=true)(h2:∀y∈Y2,lt y x=false):mg lt [x] (Y1++Y2)=Y1++x :: Y2:=by
 have a:=KS (lt:=lt) _ [] Y1 [x] Y2 rfl (fun y hy z hz=>by rw[QN0.1 hz];exact h1 y hy) (by simp);have b:=KS (lt:=lt) _ [x] [] [] Y2 rfl (by simp) (fun z hz y hy=>by rw[QN0.1 hz];exact h2 y hy);simp only[QMs,QM7,ZE,Z3]at a b;rw[a,b];rfl

theorem FI {y:α}{X1 X2:List α}(h1:∀x∈X1,lt y x=false)(h2:∀x∈X2,lt y x=true):mg lt (X1++X2) [y]=X1++y :: X2:=by
 have a:=KS (lt:=lt) _ X1 [y] X2 [] rfl (fun z hz x hx=>by rw[QN0.1 hz];exact h2 x hx) (by simp);have b:=KS (lt:=lt) _ X1 [] [] [y] rfl (by simp) (fun x hx z hz=>by rw[QN0.1 hz];exact h1 x hx);simp only[QMs,QM7,ZE,Z3]at a b;rw[a,b];simp

def Zo (lt:α→α→Bool)(l:List α):Prop:=l.Pairwise fun x y=>lt y x=false

theorem GE {a z:α}:∀ {l:List α},z∈Zn lt a l→z=a∨z∈l
 | [],h=>.inl (QN0.1 h)
 |x :: l,h=>by
  cases hx:lt x a with
  |true=>
   rw[We hx]at h;rcases QNo.1 h with rfl|h
   ·exact .inr QMn
   ·rcases GE h with h|h
    ·exact .inl h
    ·exact .inr (QMl _ h)
  |false=>
   rw[W3 hx]at h;rcases QNo.1 h with rfl|h
   ·exact .inl rfl
   ·exact .inr h

theorem YG {z:α}:∀ {l:List α},z∈QC lt l→z∈l
 | [],h=>h
 |a :: l,h=>by
  rcases GE (l:=QC lt l) h with rfl|h
  ·exact QMn
  ·exact QMl _ (YG h)

theorem B7 (h:SW lt)(a:α):∀ {l:List α},Zo lt l→Zo lt (Zn lt a l)
 | [],_=>List.pairwise_singleton _ _
 |x :: l,hs=>by
  obtain⟨h1,h2⟩:=QNz.1 hs;cases hx:lt x a with
  |true=>
   rw[We hx];refine QNz.2 ⟨fun z hz=>?_,B7 h a h2⟩;rcases GE hz with rfl|hz
   ·exact h.as hx
   ·exact h1 z hz
  |false=>
   rw[W3 hx];refine QNz.2 ⟨fun z hz=>?_,hs⟩;rcases QNo.1 hz with rfl|hz
   ·exact hx
   ·exact h.nt z x a (h1 z hz) hx

theorem Z4 (h:SW lt):∀l:List α,Zo lt (QC lt l)
 | []=>List.Pairwise.nil
 |a :: l=>B7 h a (Z4 h l)

theorem B8 (a:α):∀l:List α,(Zn lt a l).length=l.length+1
 | []=>rfl
 |x :: l=>by
  cases hx:lt x a with
  |true=>rw[We hx,QMk,B8 a l,QMk]
  |false=>rw[W3 hx];rfl

theorem Z5:∀l:List α,(QC lt l).length=l.length
 | []=>rfl
 |a :: l=>by show(Zn lt a (QC lt l)).length=_;rw[B8,Z5 l];rfl

theorem Qsl:∀(n:Nat) (X Y:List α),X.length+Y.length=n→(mg lt X Y).length=n:=by
 intro n
 induction n using Nat.strongRecOn with
 |_ n ih=>
 intro X Y hn;cases X with
 |nil=>rw[ZE];simpa using hn
 |cons x X=>
  cases Y with
  |nil=>rw[Z3];simpa using hn
  |cons y Y=>
   simp only[QMk]at hn;cases hyx:lt y x with
   |true=>
    rw[KR hyx,QMk,ih (n-1) (by omega) (x :: X) Y (by simp only[QMk];omega)];omega
   |false=>
    rw[Wq hyx,QMk,ih (n-1) (by omega) X (y :: Y) (by simp only[QMk];omega)];omega

theorem Qsm {z:α}:∀(n:Nat) (X Y:List α),X.length+Y.length=n→z∈mg lt X Y→z∈X∨z∈Y:=by
 intro n
 induction n using Nat.strongRecOn with
 |_ n ih=>
 intro X Y hn hz;cases X with
 |nil=>rw[ZE]at hz;exact .inr hz
 |cons x X=>
  cases Y with
  |nil=>rw[Z3]at hz;exact .inl hz
  |cons y Y=>
   simp only[QMk]at hn;cases hyx:lt y x with
   |true=>
    rw[KR hyx]at hz;rcases QNo.1 hz with rfl|hz
    ·exact .inr QMn
    ·exact(ih (n-1) (by omega) (x :: X) Y (by simp only[QMk];omega) hz).imp id (QMl _)
   |false=>
    rw[Wq hyx]at hz;rcases QNo.1 hz with rfl|hz
    ·exact .inl QMn
    ·exact(ih (n-1) (by omega) X (y :: Y) (by simp only[QMk];omega) hz).imp (QMl _) id

theorem J0 (h:SW lt){l:List α}(hs:Zo lt l){i j:Nat}{u v x:α}(hij:i≤j)(hi:l[i]? = some u)(hj:l[j]? = some v)(hv:lt v x=true):lt u x=true:=by
 rcases Nat.lt_or_eq_of_le hij with hlt|rfl
 ·obtain⟨h1,rfl⟩:=QL5.1 hi;obtain⟨h2,rfl⟩:=QL5.1 hj;have:=QN1.1 hs i j h1 h2 hlt;cases hu:lt l[i] x with
  |true=>rfl
  |false=>
   have:=h.nt _ _ _ this hu;rw[hv]at this;cases this
 ·rw[hi]at hj;cases hj;exact hv

theorem WA {l:List α}(hs:Zo lt l)(h:SW lt){i j:Nat}{u v:α}(hij:i≤j)(hi:l[i]? = some u)(hj:l[j]? = some v):lt v u=false:=by
 rcases Nat.lt_or_eq_of_le hij with hlt|rfl
 ·obtain⟨h1,rfl⟩:=QL5.1 hi;obtain⟨h2,rfl⟩:=QL5.1 hj;exact QN1.1 hs i j h1 h2 hlt
 ·rw[hi]at hj;cases hj;exact h.irr _

def Q3 (lt:α→α→Bool)(s:Nat):Nat→List α→List α
 |0,_=>[]
 |n+1,l=>QC lt (l.take s)++Q3 lt s n (l.drop s)

theorem GF (s:Nat):∀k,Q3 lt s k []=[]
 |0=>rfl
 |k+1=>by rw[Q3,List.take_nil,QNg,GF s k];rfl

theorem Y8 (s:Nat):∀(k:Nat) (l:List α),(Q3 lt s k l).length=min (s*k) l.length
 |0,l=>by simp[Q3]
 |k+1,l=>by
  rw[Q3,QMH,Z5,Y8 s k,QM1,QMK,Nat.mul_succ];omega

theorem KE {s:Nat}{z:α}:∀ {k:Nat} {l:List α},z∈Q3 lt s k l→z∈l
 |0,l,h=>by cases h
 |k+1,l,h=>by
  rw[Q3]at h;rcases QNk.1 h with h|h
  ·exact QMS (YG h)
  ·exact QMR (KE h)

theorem W4 (s:Nat):∀(k:Nat) (l:List α),Q3 lt s (k+1) l=Q3 lt s k l++QC lt ((l.drop (s*k)).take s)
 |0,l=>by simp[Q3]
 |k+1,l=>by
  rw[Q3,W4 s k (l.drop s),Q3,QMq,QMx,Nat.mul_succ,Nat.add_comm s (s*k)]

theorem B9 {s k:Nat}{l:List α}(h:l.length≤s)(hk:l.length≤s*k):Q3 lt s k l=QC lt l:=by
 cases k with
 |zero=>
  have:l=[]:=QM8 (by omega);subst this;rfl
 |succ k=>rw[Q3,QMD h,QMG h,GF,QM7]

theorem Pz (s:Nat)(l:List α):l.take s++(l.drop s).take s=l.take (2*s):=by
 rw[show 2*s=s+s by omega,List.take_add]

end

end Go.Proofs.YtipjfckmopekaaaGreatDoor.So

namespace Go.Proofs.YtipjfckmopekaaaGreatDoor.Va
open Go Am Rc Bt

def HK (b:Nat):Nat :=
 let z:=b % 9223372036854775808
 if z > 9218868437227405312 then 0 else if z=9218868437227405312 then 1 else if z=0 then 2 else if z<4503599627370496 then 3 else 4

theorem Mj (b:Nat):b &&& 4503599627370495=b % 4503599627370496:=Nat.and_two_pow_sub_one_eq_mod b 52
theorem Mk (b:Nat):b &&& 9218868437227405312=(b / 4503599627370496 % 2048)*4503599627370496:=by
 have h1:(9218868437227405312:Nat)=2047 <<< 52:=by decide
 have h2:(b / 4503599627370496 % 2048)*4503599627370496=(b >>> 52 % 2 ^ 11) <<< 52:=by
  rw[Nat.shiftLeft_eq,Nat.shiftRight_eq_div_pow]
 rw[h1,h2]
 apply Nat.eq_of_testBit_eq
 intro i;rw[Nat.testBit_and,Nat.testBit_shiftLeft,Nat.testBit_shiftLeft,Nat.testBit_mod_two_pow,Nat.testBit_shiftRight,show(2047:Nat)=2 ^ 11-1 by decide,Nat.testBit_two_pow_sub_one];by_cases h:i≥52
 ·rw[show 52+(i-52)=i by omega];simp[h,Bool.and_comm]
 ·simp[h]

theorem x82 (b:Nat)(hb:b<18446744073709551616):Qp Tryz.prog 82 [.int .u64 (b:Nat)] (.int .i64 (HK b:Nat)):=by
 refine k82.fn (by simp) ?_;have a1:bits .and .u64 (b:Int) 9218868437227405312=(((b / 4503599627370496 % 2048)*4503599627370496:Nat):Int):=by
  have:=YY b 9218868437227405312 hb (by decide);rw[Mk]at this;exact this
 have a2:bits .and .u64 (b:Int) 4503599627370495=((b % 4503599627370496:Nat):Int):=by
  have:=YY b 4503599627370495 hb (by decide);rw[Mj]at this;exact this
 simp only[a1,a2,Qa,seval];unfold HK
 repeat' (first|(refine Xl (fun h=>?_) (fun h=>?_)<;>simp only[h,Qa,seval])|(refine XV (fun h=>?_) (fun h=>?_)<;>simp only[h,Qn,Qa,seval])|(refine XW (fun h=>?_) (fun h=>?_)<;>simp only[h,Qn,eE,seval]))
 all_goals(simp only[QMb,QMv,bne_eq_false_iff_eq,QNI,ne_eq]at *)
 all_goals((repeat' split)<;>first|rfl|(exfalso;omega))

def Zp (k:Int)(b:Nat):Nat:=if k=6∧HK b=0 then 9221120237041090560 else b

theorem Qsn (b:Nat):((HK b:Int)==0)=decide (HK b=0):=by
 rw[QMY,QMb,QMa];omega

open Br Up So

section sorting
variable {α:Type}{lt:α→α→Bool}
theorem FJ (a:α):∀l:List α,(Zn lt a l).Perm (a :: l)
 | []=>.refl _
 |x :: l=>by
  rw[Zn];cases lt x a
  ·exact .refl _
  ·exact((FJ a l).cons x).trans (.swap a x l)
theorem Xf:∀l:List α,(QC lt l).Perm l
 | []=>.refl _
 |a :: l=>(FJ a _).trans ((Xf l).cons a)
end sorting

theorem UN:∀ {a b c:List UInt8},Op.bytesLess a b=true→Op.bytesLess b c=true→Op.bytesLess a c=true
 |a,b,[],_,h=>by cases b<;>simp[Op.bytesLess]at h
 | [],_,_ :: _,_,_=>by simp[Op.bytesLess]
 |x :: a,[],_ :: _,h,_=>by simp[Op.bytesLess]at h
 |x :: a,y :: b,z :: c,h,k=>by
  simp only[Op.bytesLess,QL9,QMt,QMa,QMb]at h k ⊢;rcases h with h|⟨h1,h2⟩<;>rcases k with k|⟨k1,k2⟩
  ·exact .inl (UInt8.lt_trans h k)
  ·subst k1;exact .inl h
  ·subst h1;exact .inl k
  ·subst h1 k1;exact .inr ⟨rfl,UN h2 k2⟩
theorem G9:∀ {a b:List UInt8},Op.bytesLess a b=false→Op.bytesLess b a=false→a=b
 | [],[],_,_=>rfl
 | [],_ :: _,h,_=>by simp[Op.bytesLess]at h
 |_ :: _,[],_,h=>by simp[Op.bytesLess]at h
 |x :: a,y :: b,h,k=>by
  simp only[Op.bytesLess,QMX,QNV,QNR,QNI]at h k;have e:x=y:=by
   rcases Nat.lt_trichotomy x.toNat y.toNat with g|g|g
   ·exact absurd (UInt8.lt_iff_toNat_lt.2 g) h.1
   ·exact UInt8.toNat_inj.1 g
   ·exact absurd (UInt8.lt_iff_toNat_lt.2 g) k.1
  subst e;rw[G9 (h.2.resolve_left fun g=>g rfl) (k.2.resolve_left fun g=>g rfl)]
theorem Da:∀a:List UInt8,Op.bytesLess a a=false
 | []=>rfl
 |x :: a=>by simp[Op.bytesLess,Da a]

def kl (k:Int)(a b:V):Bool :=
 if ZN k=true then Op.bytesLess a.text b.text else if (k==2||k==3)=true then decide (IntKind.i64.wrap (a.bits:Int)<IntKind.i64.wrap (b.bits:Int))else decide ((a.bits:Int)<(b.bits:Int))
theorem QzK (k:Int):SW fun x y:V×V=>kl k x.1 y.1 where
 irr x:=by
  unfold kl;split
  ·exact Da _
  ·split<;>simp
 tr x y z h g:=by
  unfold kl at *;split
  ·rename_i ht;rw[QMy ht]at h g;exact UN h g
  ·rename_i ht;rw[QMj ht]at h g;split
   ·rename_i hs;rw[QMy hs]at h g;simp only[QMa]at *;omega
   ·rename_i hs;rw[QMj hs]at h g;simp only[QMa]at *;omega
 nt x y z h g:=by
  unfold kl at *;split
  ·rename_i ht;rw[QMy ht]at h g;cases hc:Op.bytesLess x.1.text z.1.text with
   |false=>rfl
   |true=>
    cases hy:Op.bytesLess y.1.text x.1.text with
    |true=>rw[UN hy hc]at g;cases g
    |false=>
     rw[G9 h hy]at hc;rw[hc]at g;cases g
  ·rename_i ht;rw[QMj ht]at h g;split
   ·rename_i hs;rw[QMy hs]at h g;simp only[QNR]at *;omega
   ·rename_i hs;rw[QMj hs]at h g;simp only[QNR]at *;omega

def Zl (k:Int)(l:List (V×V)):List (V×V):=QC (fun x y=>kl k x.1 y.1) l
def W5 (l:List R):List R:=QC (fun x y=>decide (x.num<y.num)) l
def _root_.Go.Proofs.YtipjfckmopekaaaGreatDoor.Br.V.nsc (v:V):V:=.mk v.kd (Zp v.kd v.bits) v.text v.list v.pairs v.slots v.raws
def _root_.Go.Proofs.YtipjfckmopekaaaGreatDoor.Br.V.emp (v:V):Bool:=Va.emp v.kd v.bits v.text (v.list.map V.av) (v.pairs.map V.pav) (v.slots.map V.sav) (v.raws.map R.av)

section
variable (nm:PG→V→V)(P:PL)
def JJ (o:PO)(v:V):V:=if o.kind=10 then nm (Xb P o.target) v else v.nsc
def Jk (o:PO)(v:V):V :=
 if o.card=4 then .mk 11 0 [] (v.list.map (JJ nm P o)) [] [] []else if o.card=5 then .mk 12 0 [] [] ((Zl o.key v.pairs).map fun p=>(p.1.nsc,JJ nm P o p.2)) [] []else JJ nm P o v
def XM (sl:List (Int×V))(o:PO):List (Int×V):=match sl.find? (fun s=>s.1==o.num)with
 |none=>[]
 |some s=>if (decide (o.card<3) || !(Jk nm P o s.2).emp)=true then [(o.num,Jk nm P o s.2)]else []
def UP (g:PG)(v:V):V:=.mk 10 0 [] [] [] (g.ops.flatMap (XM nm P v.slots)) (W5 v.raws)
end
def Zu (P:PL):Nat→PG→V→V
 |0,_,v=>v
 |n+1,g,v=>UP (Zu P n) P g v

theorem Na (v:V):v.nsc.cnt=v.cnt:=by
 rw[Xg,Xg v];rfl
theorem FK {f:V→V}(h:∀v,(f v).cnt≤v.cnt):∀l:List V,Q9 (l.map f)≤Q9 l
 | []=>QL3 _
 |x :: l=>by
  have:=h x;have:=FK h l;simp only[QMB,Q9];omega
theorem FL {f g:V→V}(h:∀v,(f v).cnt≤v.cnt)(k:∀v,(g v).cnt≤v.cnt):∀l:List (V×V),Xt (l.map fun p=>(f p.1,g p.2))≤Xt l
 | []=>QL3 _
 |(a,b) :: l=>by
  have:=h a;have:=k b;have:=FL h k l;simp only[QMB,Xt];omega
theorem Ml {a b:List (V×V)}(h:a.Perm b):Xt a=Xt b:=by
 induction h with
 |nil=>rfl
 |cons x _ ih=>obtain⟨p,q⟩:=x;simp only[Xt,ih]
 |swap x y l=>obtain⟨p,q⟩:=x;obtain⟨r,s⟩:=y;simp only[Xt];omega
 |trans _ _ h1 h2=>rw[h1,h2]
theorem PA (a b:List (Int×V)):Xa (a++b)=Xa a+Xa b:=by
 induction a with
 |nil=>simp[Xa]
 |cons x a ih=>obtain⟨n,v⟩:=x;simp only[QMr,Xa,ih];omega

theorem GG {nm:PG→V→V}{P:PL}(h:∀t v,(nm (Xb P t) v).cnt≤v.cnt)(o:PO)(v:V):(JJ nm P o v).cnt≤v.cnt:=by
 unfold JJ;split
 ·exact h _ _
 ·rw[Na];exact QL3 _
theorem Nb {nm:PG→V→V}{P:PL}(h:∀t v,(nm (Xb P t) v).cnt≤v.cnt)(o:PO)(v:V):(Jk nm P o v).cnt≤v.cnt:=by
 unfold Jk;split
 ·have:=FK (GG (P:=P) h o) v.list;rw[Xg,Xg v];simp only[V.raws,V.list,V.pairs,V.slots,QM0,Xt,Xa];simp only[V.list]at this;omega
 ·split
  ·have h1:=FL (f:=V.nsc) (g:=JJ nm P o) (fun v=>by rw[Na];exact QL3 _) (GG (P:=P) h o) (Zl o.key v.pairs);have h2:Xt (Zl o.key v.pairs)=Xt v.pairs:=Ml (Xf _);rw[Xg,Xg v];simp only[V.raws,V.list,V.pairs,V.slots,QM0,Q9,Xa];simp only[V.pairs]at h1 h2;omega
  ·exact GG h o v

def wS (sl:List (Int×V))(n:Int):Nat:=Xa (sl.filter fun s=>s.1==n)
theorem Qso (ops:List PO)(hd:ops.Pairwise fun a b=>a.num<b.num)(n:Int)(w:Nat):(ops.map fun o=>if n=o.num then w else 0).sum≤w:=by
 induction ops with
 |nil=>simp
 |cons o ops ih=>
  obtain⟨h1,h2⟩:=QNz.1 hd;simp only[QMB,QN2];by_cases e:n=o.num
  ·have:(ops.map fun o=>if n=o.num then w else 0).sum=0:=by
    have:∀l:List PO,(∀x∈l,n≠x.num)→(l.map fun o=>if n=o.num then w else 0).sum=0:=by
     intro l
     induction l with
     |nil=>intro _;rfl
     |cons x l ih=>
      intro h;rw[QMB,QN2,QMj (h x (by simp)),ih fun y hy=>h y (by simp[hy])]
    exact this ops fun x hx=>by have:=h1 x hx;omega
   rw[QMy e,this];omega
  ·rw[QMj e];have:=ih h2;omega
theorem Qsp (ops:List PO)(hd:ops.Pairwise fun a b=>a.num<b.num)(sl:List (Int×V)):(ops.map fun o=>wS sl o.num).sum≤Xa sl:=by
 induction sl with
 |nil=>
  have:∀l:List PO,(l.map fun o=>wS [] o.num).sum=0:=by
   intro l
   induction l with
   |nil=>rfl
   |cons x l ih=>rw[QMB,QN2,ih];rfl
  rw[this];exact QMd _
 |cons s sl ih=>
  obtain⟨n,v⟩:=s;have h1:=Qso ops hd n v.cnt;have h2:∀l:List PO,(l.map fun o=>wS ((n,v) :: sl) o.num).sum=(l.map fun o=>if n=o.num then v.cnt else 0).sum+(l.map fun o=>wS sl o.num).sum:=by
   intro l
   induction l with
   |nil=>rfl
   |cons o l ih=>
    simp only[QMB,QN2,ih];have:wS ((n,v) :: sl) o.num=(if n=o.num then v.cnt else 0)+wS sl o.num:=by
     unfold wS;by_cases e:n=o.num
     ·rw[List.filter_cons_of_pos (by simpa using e),QMy e,Xa]
     ·rw[List.filter_cons_of_neg (by simpa using e),QMj e,QML]
    omega
  rw[h2,Xa];omega

theorem Is {sl:List (Int×V)}{n:Int}{s:Int×V}(h:sl.find? (fun s=>s.1==n)=some s):s.2.cnt≤wS sl n:=by
 unfold wS
 induction sl with
 |nil=>cases h
 |cons x sl ih=>
  obtain⟨m,v⟩:=x;rw[List.find?_cons]at h;by_cases e:m=n
  ·have hb:((m,v).1==n)=true:=by simpa using e
   rw[hb]at h;cases h;rw[List.filter_cons_of_pos (by simpa using e),Xa];exact Nat.le_add_right _ _
  ·have hb:((m,v).1==n)=false:=by simpa using e
   rw[hb]at h;rw[List.filter_cons_of_neg (by simpa using e)];exact ih h

theorem PB {nm:PG→V→V}{P:PL}(h':∀t v,(nm (Xb P t) v).cnt≤v.cnt)(g:PG)(hd:g.ops.Pairwise fun a b=>a.num<b.num)(v:V):(UP nm P g v).cnt≤v.cnt:=by
 have h1:Xa (g.ops.flatMap (XM nm P v.slots))≤(g.ops.map fun o=>wS v.slots o.num).sum:=by
  clear hd
  induction g.ops with
  |nil=>exact QL3 _
  |cons o l ih=>
   have:Xa (XM nm P v.slots o)≤wS v.slots o.num:=by
    unfold XM;cases hf:v.slots.find? (fun s=>s.1==o.num)with
    |none=>exact QMd _
    |some s=>
     have a:=Is hf;have b:=Nb (P:=P) h' o s.2;dsimp only;split
     ·simp only[Xa];omega
     ·exact QMd _
   rw[QNv,PA,QMB,QN2];omega
 have h2:=Qsp g.ops hd v.slots;have h3:(W5 v.raws).length=v.raws.length:=(Xf _).length_eq;rw[Xg,Xg v];simp only[UP,V.raws,V.list,V.pairs,V.slots,Q9,Xt]at *;omega

def Wf (P:PL):Prop:=∀g∈P.progs,g.ops.Pairwise fun a b=>a.num<b.num
theorem YH {P:PL}(h:Wf P)(t:Int):(Xb P t).ops.Pairwise fun a b=>a.num<b.num:=by
 unfold Xb;cases hg:P.progs[t.toNat]? with
 |none=>exact .nil
 |some g=>exact h g (QMi hg)

theorem Y9 {P:PL}(h:Wf P):∀(n:Nat) (g:PG),(g.ops.Pairwise fun a b=>a.num<b.num)→∀v:V,(Zu P n g v).cnt≤v.cnt
 |0,_,_,_=>QL3 _
 |n+1,g,hg,v=>PB (fun t v=>Y9 h n _ (YH h t) v) g hg v

end Go.Proofs.YtipjfckmopekaaaGreatDoor.Va

namespace Go.Proofs.YtipjfckmopekaaaGreatDoor.Va
open Go Am Rc Bt Br

def JoI (g:PG)(k:Nat)(st:St):Prop :=
 ∃f fr i n b,st=⟨f,[fr],[]⟩∧k=g.ops.length-i∧ZP g.ops 0 (-1)=ZP (g.ops.drop i) n b∧0≤n∧n≤(i:Int)∧((i=0∧b = -1)∨∃j o,i=j+1∧g.ops[j]? = some o∧b=o.union)∧f 1=.ptr 0 1 0∧f 3=.int .i64 n∧f 4=.int .i64 (i:Nat)∧fr 1=.cells g.cells

theorem z80 (g:PG)(hl:g.ops.length≤9223372036854775000):Qp Tryz.prog 80 [Qj g] (.bool (ZB g)):=by
 refine k80.fn (by simp) ?_;simp only[Qj,PG.cells,eE,seval];refine Qf (JoI g) _ ⟨_,_,0,0,-1,rfl,rfl,rfl,by decide,by decide,.inl ⟨rfl,rfl⟩,(by rfl),(by rfl),(by rfl),(by rfl)⟩ ?_;rintro _ st ⟨f,fr,i,n,b,rfl,rfl,hj,hn0,hni,hb,h1,h3,h4,m1⟩;simp only[PG.cells]at m1;simp only[QMZ,h1,h4,m1,eE,seval];by_cases hlt:i<g.ops.length
 ·obtain⟨o,hi⟩:∃o,g.ops[i]? = some o:=⟨g.ops[i],QL6 hlt⟩;have hg:(g.ops.map fun o=>AV.agg o.cells)[i]? = some (.agg o.cells):=by simp[hi]
  have e1:=Qq i _ hlt (by simp only[maxLen];omega);have en:IntKind.i64.wrap (n+1)=n+1:=by rw[QF];omega
  rw[HG hi]at hj;have fin:∀(f':Fr) (n':Int),(if o.union=n then n'=n+1 else n'=n)→ZP g.ops 0 (-1)=ZP (g.ops.drop (i+1)) n' o.union→f' 1=.ptr 0 1 0→f' 3=.int .i64 n'→f' 4=.int .i64 ((i+1:Nat):Int)→∃k,k<g.ops.length-i∧JoI g k ⟨f',[fr],[]⟩:=by
   intro f' n' a c d e f4;refine⟨g.ops.length-(i+1),by omega,f',fr,i+1,n',o.union,rfl,rfl,c,?_,?_,.inr ⟨i,o,rfl,hi,rfl⟩,d,e,f4,m1⟩<;>split at a<;>omega
  simp only[PO.cells]at hg;simp only[Qo hlt,Qm,QNt,Qd,hg,PO.cells,h1,h3,h4,m1,eE,seval];by_cases a1:o.union=n
  ·have b1:(o.union==n)=true:=by simp[a1]
   rw[QMy a1,←a1]at hj;simp only[b1,h3,h4,en,e1,Qa,seval];exact fin _ (n+1) (by rw[QMy a1]) (by rw[hj,a1]) (by exact h1) (by rfl) (by rfl)
  have b1:(o.union==n)=false:=by simp[a1]
  rw[QMj a1]at hj;by_cases a2:o.union = -1
  ·have b2:(o.union != -1)=false:=by simp[a2]
   rw[QMy (.inl a2)]at hj;simp only[b1,b2,h4,e1,Qa,seval];exact fin _ n (by rw[QMj a1]) hj (by exact h1) (by exact h3) (by rfl)
  have b2:(o.union != -1)=true:=by simp[a2]
  rcases hb with⟨rfl,rfl⟩|⟨j,p,rfl,hjp,rfl⟩
  ·have b3:(((0:Nat):Int)==0)=true:=rfl;rw[QMj (by omega)]at hj;have hun:ZB g=false:=by unfold ZB;rw[hj]
   simp only[b1,b2,h4,hun,Qa,seval]
  ·have b3:(((j+1:Nat):Int)==0)=false:=by rw[QNI];omega
   have hgj:(g.ops.map fun o=>AV.agg o.cells)[j]? = some (.agg p.cells):=by simp[hjp]
   have e2:=KP j _ hlt (by simp only[maxLen];omega);simp only[PO.cells]at hgj;by_cases a4:o.union=p.union
   ·have b4:(p.union != o.union)=false:=by simp[a4]
    rw[QMy (.inr a4)]at hj;simp only[b1,b2,b3,b4,e2,Qm,QNt,Qd,hgj,PO.cells,h1,h4,m1,e1,eE,seval];exact fin _ n (by rw[QMj a1]) hj (by exact h1) (by exact h3) (by rfl)
   ·have b4:(p.union != o.union)=true:=by simp;exact fun h=>a4 h.symm
    rw[QMj (by omega)]at hj;have hun:ZB g=false:=by unfold ZB;rw[hj]
    simp only[b1,b2,b3,b4,e2,Qm,QNt,Qd,hgj,PO.cells,h1,h4,m1,hun,eE,seval]
 ·rw[QMG (by omega)]at hj;have hun:ZB g=(g.unions==n):=by unfold ZB;rw[hj];rfl
  simp only[QE hlt,h1,h3,m1,hun,eE,seval]

section
variable {M:Nat}(hM:M≤140737488351232)(P:PL)(hP:P.ok M)(fr:Nat→Ob)(m1:fr 1=.cells (Pc P))(f:Fr)(b:Bool)(h1:f 1=.ptr 0 1 0)(h3:f 3=.bool b)(Q:Exit→St→Prop)
include hM hP m1 h1 h3

theorem Qsq (j:Nat)(x:PE)(hj:P.enums[j]? = some x)(ha:f 4=.int .i64 (j:Nat))(hc:f 5=.int .i64 0)(hx:∀f,f 1=.ptr 0 1 0→f 3=.bool (b&&x.items.all ZD)→f 4=.int .i64 (j:Nat)→Q (.exit 2) (⟨f,[fr],[]⟩:St)):QJ Tryz.prog (.loop RM) ⟨f,[fr],[]⟩ Q:=by
 let I:Nat→St→Prop:=fun k st=>∃f i,st=⟨f,[fr],[]⟩∧k=x.items.length-i∧i≤x.items.length∧f 1=.ptr 0 1 0∧f 3=.bool (b&&(x.items.take i).all ZD)∧f 4=.int .i64 (j:Nat)∧f 5=.int .i64 (i:Nat)
 have hjm:(P.enums.map Qt)[j]? = some (.agg x.cells):=by simp[hj,Qt]
 have hxo:=hP.enums x (QMi hj);have z0:(0≤(0:Int))=True:=by simp
 have z1:Int.toNat 0=0:=rfl;refine Qf I _ ⟨f,0,rfl,rfl,QMd _,h1,by rw[h3];simp,ha,hc⟩ ?_;clear h1 h3 ha hc;simp only[Pc]at m1;simp only[PE.cells]at hjm;rintro _ st ⟨f,i,rfl,rfl,hi,h1,h3,ha,hc⟩;simp only[Qm,QNt,Qd,hjm,QMZ,h1,m1,ha,hc,eE,seval];by_cases hlt:i<x.items.length
 ·obtain⟨o,hg⟩:∃o,x.items[i]? = some o:=⟨x.items[i],QL6 hlt⟩;have hgm:(x.items.map fun o=>AV.agg o.cells)[i]? = some (.agg o.cells):=by simp[hg]
  have e1:=Qq i _ hlt hxo.len1;have ho:=hxo.items o (QMi hg);have ht:=Q1 (q:=ZD) hg;have fin:∀f':Fr,f' 1=.ptr 0 1 0→f' 3=.bool ((b&&(x.items.take i).all ZD)&&ZD o)→f' 4=.int .i64 (j:Nat)→f' 5=.int .i64 ((i+1:Nat):Int)→∃k,k<x.items.length-i∧I k ⟨f',[fr],[]⟩:=by
   intro f' a1 a3 a4 a5;exact⟨x.items.length-(i+1),by omega,f',i+1,rfl,rfl,by omega,a1,by rw[a3,ht,QMP],a4,a5⟩
  simp only[PI.cells]at hgm;cases hb:(b&&(x.items.take i).all ZD)
  ·rw[hb]at fin h3;simp only[Qo hlt,Qm,QNt,Qd,hjm,hgm,PI.cells,h1,m1,h3,ha,hc,e1,eE,seval];exact fin _ (by exact h1) (by rfl) (by exact ha) (by rfl)
  ·rw[hb,QND]at fin;rw[hb]at h3;rcases hn:o.notes with _|⟨n,_|⟨n2,ns⟩⟩
   ·have c0:(((0:Nat):Int)==0)=true:=rfl;have e:ZD o=true:=by unfold ZD;rw[hn]
    rw[e]at fin;rw[hn]at hgm;simp only[Qo hlt,Qm,QNt,Qd,hjm,hgm,PI.cells,QM5,QM0,h1,m1,h3,ha,hc,e1,eE,seval];exact fin _ (by exact h1) (by rfl) (by exact ha) (by rfl)
   ·obtain⟨kd,b',t,l,p,s,r,hv,htl,h3',h4',h5',h6'⟩:=N8 (ho.notes n (by rw[hn];simp)) hM;have c0:(((1:Nat):Int)==0)=false:=rfl;have c1:(((1:Nat):Int)==1)=true:=rfl;have e:ZD o=(n.name==alias&&Xr 7 kd b' t l p s r):=by
     unfold ZD;rw[hn];show(n.name==alias&&nok n.val)=_;rw[hv];rfl
    have en:Xk n.cells=.agg [.str n.name,.int .i64 kd,.int .u64 ((b':Nat):Int),.str t,.list l,.list p,.list s,.list r]:=by
     rw[PN.cells,hv];rfl
    have hne:(n.name==[97,108,105,97,115])=(n.name==alias):=rfl;have hck:=z79 kd b' t l p s r (by simp only[maxLen];omega);simp only[nv]at hck;rw[e]at fin;rw[hn]at hgm;simp only[QMB,QM5,en]at hgm;simp only[Qo hlt,Qm,QNt,Qd,hjm,hgm,PI.cells,QMk,QM0,QML,z0,z1,QM6,QN,hne,h1,m1,h3,ha,hc,eE,seval];by_cases hal:n.name=alias
    ·have b0:(n.name==alias)=true:=by simp[hal]
     rw[←hal]at hck;rw[b0,QND]at fin;simp only[b0,Qa,seval];refine Qb hck rfl rfl rfl (.inl rfl) ?_;cases hfv:Xr 7 kd b' t l p s r
     ·rw[hfv]at fin;have d0:((12:Int)==0)=false:=rfl;simp only[QMo,d0,hc,e1,Qa,seval];exact fin _ (by exact h1) (by rfl) (by exact ha) (by rfl)
     ·rw[hfv]at fin;have d0:((0:Int)==0)=true:=rfl;simp only[d0,hc,e1,Qa,seval];exact fin _ (by exact h1) (by rfl) (by exact ha) (by rfl)
    ·have b0:(n.name==alias)=false:=by simp[hal]
     rw[b0,QNw]at fin;simp only[b0,hc,e1,Qa,seval];exact fin _ (by exact h1) (by rfl) (by exact ha) (by rfl)
   ·have c0:((((ns.length+1+1:Nat)):Int)==0)=false:=by rw[QNI];omega
    have c1:((((ns.length+1+1:Nat)):Int)==1)=false:=by rw[QNI];omega
    have e:ZD o=false:=by unfold ZD;rw[hn]
    rw[e]at fin;rw[hn]at hgm;simp only[QMB]at hgm;simp only[Qo hlt,Qm,QNt,Qd,hjm,hgm,PI.cells,QMk,QMZ,c0,c1,h1,m1,h3,ha,hc,e1,eE,seval];exact fin _ (by exact h1) (by rfl) (by exact ha) (by rfl)
 ·have hf:(x.items.take i).all ZD=x.items.all ZD:=by rw[QMD (by omega)]
  rw[hf]at h3;simp only[QE hlt,Qa,seval];exact hx _ (by exact h1) (by exact h3) (by exact ha)

theorem QH8 (ha:f 4=.int .i64 0)(hx:∀f,f 1=.ptr 0 1 0→f 3=.bool (b&&P.enums.all JY)→Q (.exit 0) (⟨f,[fr],[]⟩:St)):QJ Tryz.prog (.loop RP) ⟨f,[fr],[]⟩ Q:=by
 let I:Nat→St→Prop:=fun k st=>∃f i,st=⟨f,[fr],[]⟩∧k=P.enums.length-i∧i≤P.enums.length∧f 1=.ptr 0 1 0∧f 3=.bool (b&&(P.enums.take i).all JY)∧f 4=.int .i64 (i:Nat)
 have m1':=m1;refine Qf I _ ⟨f,0,rfl,rfl,QMd _,h1,by rw[h3];simp,ha⟩ ?_;clear h1 h3 ha;simp only[Pc]at m1;rintro _ st ⟨f,i,rfl,rfl,hi,h1,h3,ha⟩;simp only[QMZ,h1,m1,ha,eE,seval];by_cases hlt:i<P.enums.length
 ·obtain⟨x,hg⟩:∃x,P.enums[i]? = some x:=⟨P.enums[i],QL6 hlt⟩;have hgm:(P.enums.map Qt)[i]? = some (.agg x.cells):=by simp[hg,Qt]
  have e1:=Qq i _ hlt hP.len2;have ht:=Q1 (q:=JY) hg;have hq:JY x=(x.notes.isEmpty&&x.items.all ZD):=rfl;have hie:((x.notes.length:Int)==0)=x.notes.isEmpty:=by
   cases x.notes with
   |nil=>rfl
   |cons a l=>simp;omega
  have fin:∀f':Fr,f' 1=.ptr 0 1 0→f' 3=.bool (((b&&(P.enums.take i).all JY)&&x.notes.isEmpty)&&x.items.all ZD)→f' 4=.int .i64 ((i+1:Nat):Int)→∃k,k<P.enums.length-i∧I k ⟨f',[fr],[]⟩:=by
   intro f' a1 a3 a4;exact⟨P.enums.length-(i+1),by omega,f',i+1,rfl,rfl,by omega,a1,by rw[a3,ht,hq,QMP,QMP],a4⟩
  simp only[PE.cells]at hgm;cases hb:(b&&(P.enums.take i).all JY)
  ·rw[hb,QNw]at fin;rw[hb]at h3;simp only[Qo hlt,h3,Qa,seval];refine Qsq hM P hP fr m1' _ false (by exact h1) (by rfl) _ i x hg (by exact ha) (by rfl) (fun f h1 h3 ha=>?_);simp only[ha,e1,Qa,seval];exact fin _ (by exact h1) (by exact h3) (by rfl)
  ·rw[hb,QND]at fin;rw[hb]at h3;simp only[Qo hlt,Qm,QNt,Qd,hgm,QMZ,hie,h1,m1,h3,ha,eE,seval];refine Qsq hM P hP fr m1' _ x.notes.isEmpty (by exact h1) (by rfl) _ i x hg (by exact ha) (by rfl) (fun f h1 h3 ha=>?_);simp only[ha,e1,Qa,seval];exact fin _ (by exact h1) (by exact h3) (by rfl)
 ·have hf:(P.enums.take i).all JY=P.enums.all JY:=by rw[QMD (by omega)]
  rw[hf]at h3;simp only[QE hlt,Qa,seval];exact hx _ (by exact h1) (by exact h3)

theorem Qsr (j:Nat)(x:PG)(hj:P.progs[j]? = some x)(ha:f 7=.int .i64 (j:Nat))(hc:f 8=.int .i64 0)(hx:∀f,f 1=.ptr 0 1 0→f 3=.bool (b&&x.ops.all fun o=>XU P o&&XN o)→f 7=.int .i64 (j:Nat)→Q (.exit 6) (⟨f,[fr],[]⟩:St)):QJ Tryz.prog (.loop RQ) ⟨f,[fr],[]⟩ Q:=by
 let I:Nat→St→Prop:=fun k st=>∃f i,st=⟨f,[fr],[]⟩∧k=x.ops.length-i∧i≤x.ops.length∧f 1=.ptr 0 1 0∧f 3=.bool (b&&(x.ops.take i).all fun o=>XU P o&&XN o)∧f 7=.int .i64 (j:Nat)∧f 8=.int .i64 (i:Nat)
 have hjm:(P.progs.map Qj)[j]? = some (.agg x.cells):=by simp[hj,Qj]
 have hxo:=hP.progs x (QMi hj);refine Qf I _ ⟨f,0,rfl,rfl,QMd _,h1,by rw[h3];simp,ha,hc⟩ ?_;clear h1 h3 ha hc;simp only[Pc]at m1;simp only[PG.cells]at hjm;rintro _ st ⟨f,i,rfl,rfl,hi,h1,h3,ha,hc⟩;simp only[Qm,QNt,Qd,hjm,QMZ,h1,m1,ha,hc,eE,seval];by_cases hlt:i<x.ops.length
 ·obtain⟨o,hg⟩:∃o,x.ops[i]? = some o:=⟨x.ops[i],QL6 hlt⟩;have hgm:(x.ops.map fun o=>AV.agg o.cells)[i]? = some (.agg o.cells):=by simp[hg]
  have e1:=Qq i _ hlt hxo.len;have hal:o.alias.length+8≤maxLen:=by have:=(hxo.ops o (QMi hg)).alias;simp only[maxLen];omega
  have hop:Qp Tryz.prog 81 [.agg [.list (P.progs.map Qj),.list (P.enums.map Qt)],QA o] (.bool (XU P o&&XN o)):=z81 P o hal;have ht:=Q1 (q:=fun o=>XU P o&&XN o) hg;have fin:∀f':Fr,f' 1=.ptr 0 1 0→f' 3=.bool ((b&&(x.ops.take i).all fun o=>XU P o&&XN o)&&(XU P o&&XN o))→f' 7=.int .i64 (j:Nat)→f' 8=.int .i64 ((i+1:Nat):Int)→∃k,k<x.ops.length-i∧I k ⟨f',[fr],[]⟩:=by
   intro f' a1 a3 a4 a5;exact⟨x.ops.length-(i+1),by omega,f',i+1,rfl,rfl,by omega,a1,by rw[a3,ht,QMP],a4,a5⟩
  simp only[QA,PO.cells]at hgm hop;cases hb:(b&&(x.ops.take i).all fun o=>XU P o&&XN o)
  ·rw[hb]at fin h3;simp only[Qo hlt,PO.cells,h3,hc,e1,Qa,seval];exact fin _ (by exact h1) (by rfl) (by exact ha) (by rfl)
  ·rw[hb,QND]at fin;rw[hb]at h3;simp only[Qo hlt,Qm,QNt,Qd,hjm,hgm,PO.cells,h1,m1,h3,ha,hc,eE,seval];refine Qb hop rfl rfl rfl (.inl rfl) ?_;simp only[hc,e1,Qa,seval];exact fin _ (by exact h1) (by rfl) (by exact ha) (by rfl)
 ·have hf:(x.ops.take i).all (fun o=>XU P o&&XN o)=x.ops.all fun o=>XU P o&&XN o:=by rw[QMD (by omega)]
  rw[hf]at h3;simp only[QE hlt,Qa,seval];exact hx _ (by exact h1) (by exact h3) (by exact ha)

theorem QH9 (hl:∀g∈P.progs,g.ops.length≤64)(ha:f 7=.int .i64 0)(hx:∀f,f 1=.ptr 0 1 0→f 3=.bool (b&&P.progs.all (ZI P))→Q (.exit 4) (⟨f,[fr],[]⟩:St)):QJ Tryz.prog (.loop RS) ⟨f,[fr],[]⟩ Q:=by
 let I:Nat→St→Prop:=fun k st=>∃f i,st=⟨f,[fr],[]⟩∧k=P.progs.length-i∧i≤P.progs.length∧f 1=.ptr 0 1 0∧f 3=.bool (b&&(P.progs.take i).all (ZI P))∧f 7=.int .i64 (i:Nat)
 have m1':=m1;refine Qf I _ ⟨f,0,rfl,rfl,QMd _,h1,by rw[h3];simp,ha⟩ ?_;clear h1 h3 ha;simp only[Pc]at m1;rintro _ st ⟨f,i,rfl,rfl,hi,h1,h3,ha⟩;simp only[QMZ,h1,m1,ha,eE,seval];by_cases hlt:i<P.progs.length
 ·obtain⟨x,hg⟩:∃x,P.progs[i]? = some x:=⟨P.progs[i],QL6 hlt⟩;have hgm:(P.progs.map Qj)[i]? = some (.agg x.cells):=by simp[hg,Qj]
  have e1:=Qq i _ hlt hP.len1;have ht:=Q1 (q:=ZI P) hg;have hq:ZI P x=(ZB x&&x.ops.all fun o=>XU P o&&XN o):=rfl;have hjo:=z80 x (QL4 (hl x (QMi hg)) (by decide));have fin:∀f':Fr,f' 1=.ptr 0 1 0→f' 3=.bool (((b&&(P.progs.take i).all (ZI P))&&ZB x)&&x.ops.all fun o=>XU P o&&XN o)→f' 7=.int .i64 ((i+1:Nat):Int)→∃k,k<P.progs.length-i∧I k ⟨f',[fr],[]⟩:=by
   intro f' a1 a3 a4;exact⟨P.progs.length-(i+1),by omega,f',i+1,rfl,rfl,by omega,a1,by rw[a3,ht,hq,QMP,QMP],a4⟩
  simp only[Qj,PG.cells]at hgm hjo;cases hb:(b&&(P.progs.take i).all (ZI P))
  ·rw[hb,QNw]at fin;rw[hb]at h3;simp only[Qo hlt,h3,Qa,seval];refine Qsr hM P hP fr m1' _ false (by exact h1) (by rfl) _ i x hg (by exact ha) (by rfl) (fun f h1 h3 ha=>?_);simp only[ha,e1,Qa,seval];exact fin _ (by exact h1) (by exact h3) (by rfl)
  ·rw[hb,QND]at fin;rw[hb]at h3;simp only[Qo hlt,Qm,QNt,Qd,hgm,h1,m1,h3,ha,eE,seval];refine Qb hjo rfl rfl rfl (.inl rfl) ?_;simp only[Qa,seval];refine Qsr hM P hP fr m1' _ (ZB x) (by exact h1) (by rfl) _ i x hg (by exact ha) (by rfl) (fun f h1 h3 ha=>?_);simp only[ha,e1,Qa,seval];exact fin _ (by exact h1) (by exact h3) (by rfl)
 ·have hf:(P.progs.take i).all (ZI P)=P.progs.all (ZI P):=by rw[QMD (by omega)]
  rw[hf]at h3;simp only[QE hlt,Qa,seval];exact hx _ (by exact h1) (by exact h3)

end

theorem z48 {M:Nat}(hM:M≤140737488351232)(P:PL)(hP:P.ok M)(hl:∀g∈P.progs,g.ops.length≤64):Qp Tryz.prog 48 [P.av] (.bool (args P)):=by
 have e0:P.av=.agg [.list (P.progs.map Qj),.list (P.enums.map Qt)]:=rfl;have e:args P=(P.enums.all JY&&P.progs.all (ZI P)):=Bool.and_comm _ _;refine k48.fn (by simp) ?_;simp only[e0,eE,seval];refine QH8 hM P hP _ (by rfl) _ true (by rfl) (by rfl) _ (by rfl) (fun f h1 h3=>?_);simp only[Qa,seval];refine QH9 hM P hP _ (by rfl) _ _ (by exact h1) (by exact h3) _ hl (by rfl) (fun f h1 h3=>?_);simp only[h3,e,QND,Qa,seval]

section
variable {M:Nat}(P:PL)(hP:P.ok M)(fr:Nat→Ob)(m1:fr 1=.cells (Pc P))(f:Fr)(b:Bool)(h1:f 1=.ptr 0 1 0)(h3:f 3=.bool b)(Q:Exit→St→Prop)
include hP m1 h1 h3

theorem QIa (j:Nat)(x:PG)(hj:P.progs[j]? = some x)(ha:f 4=.int .i64 (j:Nat))(hc:f 5=.int .i64 0)(hx:∀f,f 1=.ptr 0 1 0→f 3=.bool (b&&x.ops.all Za)→f 4=.int .i64 (j:Nat)→Q (.exit 2) (⟨f,[fr],[]⟩:St)):QJ Tryz.prog (.loop RH) ⟨f,[fr],[]⟩ Q:=by
 let I:Nat→St→Prop:=fun k st=>∃f i,st=⟨f,[fr],[]⟩∧k=x.ops.length-i∧i≤x.ops.length∧f 1=.ptr 0 1 0∧f 3=.bool (b&&(x.ops.take i).all Za)∧f 4=.int .i64 (j:Nat)∧f 5=.int .i64 (i:Nat)
 have hjm:(P.progs.map Qj)[j]? = some (.agg x.cells):=by simp[hj,Qj]
 have hxo:=hP.progs x (QMi hj);refine Qf I _ ⟨f,0,rfl,rfl,QMd _,h1,by rw[h3];simp,ha,hc⟩ ?_;clear h1 h3 ha hc;simp only[Pc]at m1;simp only[PG.cells]at hjm;rintro _ st ⟨f,i,rfl,rfl,hi,h1,h3,ha,hc⟩;simp only[Qm,QNt,Qd,hjm,QMZ,h1,m1,ha,hc,eE,seval];by_cases hlt:i<x.ops.length
 ·obtain⟨o,hg⟩:∃o,x.ops[i]? = some o:=⟨x.ops[i],QL6 hlt⟩;have hgm:(x.ops.map fun o=>AV.agg o.cells)[i]? = some (.agg o.cells):=by simp[hg]
  have e1:=Qq i _ hlt hxo.len;have ht:=Q1 (q:=Za) hg;have hq:Za o=(decide (o.num≥1)&&decide (o.num≤65535)):=rfl;have fin:∀f':Fr,f' 1=.ptr 0 1 0→f' 3=.bool ((b&&(x.ops.take i).all Za)&&Za o)→f' 4=.int .i64 (j:Nat)→f' 5=.int .i64 ((i+1:Nat):Int)→∃k,k<x.ops.length-i∧I k ⟨f',[fr],[]⟩:=by
   intro f' a1 a3 a4 a5;exact⟨x.ops.length-(i+1),by omega,f',i+1,rfl,rfl,by omega,a1,by rw[a3,ht,QMP],a4,a5⟩
  simp only[PO.cells]at hgm;cases hb:(b&&(x.ops.take i).all Za)
  ·rw[hb]at fin h3;simp only[Qo hlt,Qm,QNt,Qd,hjm,hgm,PO.cells,h1,m1,h3,ha,hc,e1,eE,seval];exact fin _ (by exact h1) (by rfl) (by exact ha) (by rfl)
  ·rw[hb,QND,hq]at fin;rw[hb]at h3;cases a1:decide (o.num≥1)
   ·rw[a1]at fin;simp only[Qo hlt,Qm,QNt,Qd,hjm,hgm,PO.cells,a1,h1,m1,h3,ha,hc,e1,eE,seval];exact fin _ (by exact h1) (by rfl) (by exact ha) (by rfl)
   ·rw[a1,QND]at fin;simp only[Qo hlt,Qm,QNt,Qd,hjm,hgm,PO.cells,a1,h1,m1,h3,ha,hc,e1,eE,seval];exact fin _ (by exact h1) (by rfl) (by exact ha) (by rfl)
 ·have hf:(x.ops.take i).all Za=x.ops.all Za:=by rw[QMD (by omega)]
  rw[hf]at h3;simp only[QE hlt,Qa,seval];exact hx _ (by exact h1) (by exact h3) (by exact ha)

theorem QIb (ha:f 4=.int .i64 0)(hx:∀f,f 1=.ptr 0 1 0→f 3=.bool (b&&P.progs.all fun g=>g.ops.all Za)→Q (.exit 0) (⟨f,[fr],[]⟩:St)):QJ Tryz.prog (.loop RI) ⟨f,[fr],[]⟩ Q:=by
 let I:Nat→St→Prop:=fun k st=>∃f i,st=⟨f,[fr],[]⟩∧k=P.progs.length-i∧i≤P.progs.length∧f 1=.ptr 0 1 0∧f 3=.bool (b&&(P.progs.take i).all fun g=>g.ops.all Za)∧f 4=.int .i64 (i:Nat)
 have m1':=m1;refine Qf I _ ⟨f,0,rfl,rfl,QMd _,h1,by rw[h3];simp,ha⟩ ?_;clear h1 h3 ha;simp only[Pc]at m1;rintro _ st ⟨f,i,rfl,rfl,hi,h1,h3,ha⟩;simp only[QMZ,h1,m1,ha,eE,seval];by_cases hlt:i<P.progs.length
 ·obtain⟨x,hg⟩:∃x,P.progs[i]? = some x:=⟨P.progs[i],QL6 hlt⟩;have e1:=Qq i _ hlt hP.len1;have ht:=Q1 (q:=fun g:PG=>g.ops.all Za) hg;simp only[Qo hlt,Qa,seval];refine QIa P hP fr m1' _ (b&&(P.progs.take i).all fun g=>g.ops.all Za) (by exact h1) (by exact h3) _ i x hg (by exact ha) (by rfl) (fun f h1 h3 ha=>?_);simp only[ha,e1,Qa,seval];exact⟨P.progs.length-(i+1),by omega,_,i+1,rfl,rfl,by omega,(by exact h1),by rw[ht,←QMP]<;>first|exact h3|simp only[h3,eE,seval],(by rfl)⟩
 ·have hf:(P.progs.take i).all (fun g=>g.ops.all Za)=P.progs.all fun g=>g.ops.all Za:=by rw[QMD (by omega)]
  rw[hf]at h3;simp only[QE hlt,Qa,seval];exact hx _ (by exact h1) (by exact h3)

end

def Uv (x:PE)(i:Nat):Bool:=match x.items[i]? with
 |some o=>(i != 0||o.num==0)&&Wm x o
 |none=>true

theorem It (x:PE):Qz (Uv x) x.items.length=(YA x&&x.items.all (Wm x)):=by
 rw[QMY,QMt,QG,QMh]
 constructor
 ·intro h;refine⟨?_,fun o ho=>?_⟩
  ·unfold YA;cases hi:x.items with
   |nil=>rfl
   |cons a l=>
    have:=h 0 (by rw[hi];simp);unfold Uv at this;rw[hi]at this;simp only[QM6,QMt]at this
    simpa using this.1
  ·obtain⟨i,hi⟩:=QMg.1 ho;have:=h i (QL5.1 hi).1;unfold Uv at this;rw[hi]at this;simp only[QMt]at this;exact this.2
 ·rintro⟨h1,h2⟩ i _;unfold Uv;cases hg:x.items[i]? with
  |none=>rfl
  |some o=>
   simp only[QMt];refine⟨?_,h2 o (QMi hg)⟩;cases i with
   |zero=>
    unfold YA at h1;cases hx:x.items with
    |nil=>rw[hx]at hg;cases hg
    |cons a l=>
     rw[hx]at h1 hg;cases hg
     simpa using h1
   |succ k=>rfl

section
variable (x:PE)(hl1:x.items.length≤maxLen)(hl:x.free.length≤maxLen)(P:PL)(f:Fr)(b:Bool)(j:Nat)(fr:Nat→Ob)(h1:f 1=.ptr 0 1 0)(h3:f 3=.bool b)(h7:f 7=.int .i64 (j:Nat))(h8:f 8=.ptr 0 8 0)(m1:fr 1=.cells (Pc P))(m8:fr 8=.cells x.cells)(Q:Exit→St→Prop)
include hl1 hl h1 h3 h7 h8 m8

theorem Mm (hc:f 9=.int .i64 0)(hx:∀f,f 1=.ptr 0 1 0→f 3=.bool (b&&(YA x&&x.items.all (Wm x)))→f 7=.int .i64 (j:Nat)→f 8=.ptr 0 8 0→Q (.exit 6) (⟨f,[fr],[]⟩:St)):QJ Tryz.prog (.loop RJ) ⟨f,[fr],[]⟩ Q:=by
 let I:Nat→St→Prop:=fun k st=>∃f i,st=⟨f,[fr],[]⟩∧k=x.items.length-i∧i≤x.items.length∧f 1=.ptr 0 1 0∧f 3=.bool (b&&Qz (Uv x) i)∧f 7=.int .i64 (j:Nat)∧f 8=.ptr 0 8 0∧f 9=.int .i64 (i:Nat)
 refine Qf I _ ⟨f,0,rfl,rfl,QMd _,h1,by rw[h3];simp[Qz],h7,h8,hc⟩ ?_;clear h1 h3 h7 h8 hc;simp only[PE.cells]at m8;rintro _ st ⟨f,i,rfl,rfl,hi,h1,h3,h7,h8,hc⟩;simp only[QMZ,m8,h8,hc,eE,seval];by_cases hlt:i<x.items.length
 ·obtain⟨o,hg⟩:∃o,x.items[i]? = some o:=⟨x.items[i],QL6 hlt⟩;have hgm:(x.items.map fun o=>AV.agg o.cells)[i]? = some (.agg o.cells):=by simp[hg]
  have e1:=Qq i _ hlt hl1;have ht:=Z1 b (Uv x) i;have hr:Qp Tryz.prog 78 [.list (x.free.map fun n=>AV.agg n.cells),.int .i64 o.num] (.bool (kept x.free o.num)):=z78 x.free hl o.num;have hq:Uv x i=((i != 0||o.num==0)&&(decide (o.num≤2147483647) && !kept x.free o.num)):=by unfold Uv;rw[hg];rfl
  rw[hq]at ht;have fin:∀(f':Fr) (v:Bool),((b&&Qz (Uv x) i)&&((i != 0||o.num==0)&&(decide (o.num≤2147483647) && !kept x.free o.num)))=v→f' 1=.ptr 0 1 0→f' 3=.bool v→f' 7=.int .i64 (j:Nat)→f' 8=.ptr 0 8 0→f' 9=.int .i64 ((i+1:Nat):Int)→∃k,k<x.items.length-i∧I k ⟨f',[fr],[]⟩:=by
   intro f' v hv a1 a3 a4 a5 a6;exact⟨x.items.length-(i+1),by omega,f',i+1,rfl,rfl,by omega,a1,by rw[a3,ht,hv],a4,a5,a6⟩
  simp only[PI.cells]at hgm;cases hb:(b&&Qz (Uv x) i)
  ·rw[hb]at fin h3;simp only[QNw]at fin;simp only[Qo hlt,Qm,QNt,Qd,hgm,PI.cells,m8,h3,h8,hc,e1,eE,seval];exact fin _ _ rfl (by exact h1) (by rfl) (by exact h7) (by exact h8) (by rfl)
  ·rw[hb]at fin h3;simp only[QND]at fin;cases a1:decide (o.num≤2147483647)
   ·simp only[a1,QNw,QNS]at fin;simp only[Qo hlt,Qm,QNt,Qd,hgm,PI.cells,a1,m8,h3,h8,hc,e1,eE,seval];exact fin _ _ rfl (by exact h1) (by rfl) (by exact h7) (by exact h8) (by rfl)
   simp only[a1,QND]at fin;have gt:∀(q:Bool),(i != 0||o.num==0)=q→(decide ((i:Int) > 0)=true∧q=true)∨(decide ((i:Int) > 0)=false∧(o.num==0)=q):=by
    intro q hq;cases i with
    |zero=>exact .inr ⟨rfl,hq⟩
    |succ k=>exact .inl ⟨QNQ (by omega),hq.symm⟩
   cases a2:(i != 0||o.num==0)
   ·rw[a2]at fin;simp only[QNw]at fin;rcases gt _ a2 with⟨g1,g2⟩|⟨g1,g2⟩
    ·cases g2
    ·simp only[Qo hlt,Qm,QNt,Qd,hgm,PI.cells,a1,g1,g2,m8,h3,h8,hc,e1,eE,seval];exact fin _ _ rfl (by exact h1) (by rfl) (by exact h7) (by exact h8) (by rfl)
   ·rw[a2]at fin;simp only[QND]at fin;rcases gt _ a2 with⟨g1,g2⟩|⟨g1,g2⟩
    all_goals
     simp only[Qo hlt,Qm,QNt,Qd,hgm,PI.cells,a1,g1,g2,m8,h3,h8,hc,eE,seval];refine Qb hr rfl rfl rfl (.inl rfl) ?_;simp only[hc,e1,Qa,seval];exact fin _ _ rfl (by exact h1) (by rfl) (by exact h7) (by exact h8) (by rfl)
 ·rw[show i=x.items.length by omega,It]at h3;simp only[QE hlt,Qa,seval];exact hx _ (by exact h1) (by exact h3) (by exact h7) (by exact h8)

omit hl1 in
include m1 in
theorem Mn (hc:f 11=.int .i64 0)(hrow:∀s∈[12],(fr s).isRow=false)(hx:∀f fr,f 1=.ptr 0 1 0→f 3=.bool (b&&(x.free.all HE&&XH x.free Yk))→f 7=.int .i64 (j:Nat)→fr 1=.cells (Pc P)→(∀s∈[12,8],(fr s).isRow=false)→Q (.exit 8) (⟨f,[fr],[]⟩:St)):QJ Tryz.prog (.loop RK) ⟨f,[fr],[]⟩ Q:=by
 let I:Nat→St→Prop:=fun k st=>∃f fr i,st=⟨f,[fr],[]⟩∧k=x.free.length-i∧i≤x.free.length∧f 1=.ptr 0 1 0∧f 3=.bool (b&&Qz (Km x.free) i)∧f 7=.int .i64 (j:Nat)∧f 8=.ptr 0 8 0∧f 11=.int .i64 (i:Nat)∧fr 1=.cells (Pc P)∧fr 8=.cells x.cells∧∀s∈[12],(fr s).isRow=false
 refine Qf I _ ⟨f,fr,0,rfl,rfl,QMd _,h1,by rw[h3];simp[Qz],h7,h8,hc,m1,m8,hrow⟩ ?_;clear h1 h3 h7 h8 hc m1 m8 hrow;rintro _ st ⟨f0,fr0,i,rfl,rfl,hi,h10,h30,h70,h80,hc0,m10,m80,K7⟩;refine QM (a:=_) [12] K7 ?_;intro f fr hf hm hn;have h1:f 1=.ptr 0 1 0:=by rw[hf,h10]<;>rfl
 have h3:f 3=.bool (b&&Qz (Km x.free) i):=by rw[hf,h30]<;>rfl
 have h7:f 7=.int .i64 (j:Nat):=by rw[hf,h70]<;>rfl
 have h8:f 8=.ptr 0 8 0:=by rw[hf,h80]<;>rfl
 have hc:f 11=.int .i64 (i:Nat):=by rw[hf,hc0]<;>rfl
 have m1:fr 1=.cells (Pc P):=by rw[hm 1 (by decide),m10]<;>rfl
 have m8:fr 8=.cells x.cells:=by rw[hm 8 (by decide),m80]<;>rfl
 have n12:=hn 12 (by decide);clear hf hm hn h10 h30 h70 h80 hc0 m10 m80 K7;have m8':=m8;simp only[PE.cells]at m8;simp only[QMZ,m8,h8,hc,eE,seval];by_cases hlt:i<x.free.length
 ·obtain⟨y,hg⟩:∃y,x.free[i]? = some y:=⟨x.free[i],QL6 hlt⟩;have hgm:(x.free.map fun o=>AV.agg o.cells)[i]? = some (.agg y.cells):=by simp[hg]
  have e1:=Qq i _ hlt hl;have ht:=Z1 b (Km x.free) i;have hq:Km x.free i=((decide (y.lo≥0)&&decide (y.hi≤2147483647)&&decide (y.lo≤y.hi))&&Q7 x.free Yk i):=by unfold Km;rw[Wv hg];rfl
  rw[hq]at ht;have fin:∀(f':Fr) (fr':Nat→Ob) (v:Bool),((b&&Qz (Km x.free) i)&&((decide (y.lo≥0)&&decide (y.hi≤2147483647)&&decide (y.lo≤y.hi))&&Q7 x.free Yk i))=v→f' 1=.ptr 0 1 0→f' 3=.bool v→f' 7=.int .i64 (j:Nat)→f' 8=.ptr 0 8 0→f' 11=.int .i64 ((i+1:Nat):Int)→fr' 1=.cells (Pc P)→fr' 8=.cells x.cells→(∀s∈[12],(fr' s).isRow=false)→∃k,k<x.free.length-i∧I k ⟨f',[fr'],[]⟩:=by
   intro f' fr' v hv a1 a3 a4 a5 a6 a7 a8 a9;exact⟨x.free.length-(i+1),by omega,f',fr',i+1,rfl,rfl,by omega,a1,by rw[a3,ht,hv],a4,a5,a6,a7,a8,a9⟩
  simp only[PS.cells]at hgm;cases hb:(b&&Qz (Km x.free) i)
  ·rw[hb]at fin h3;simp only[QNw]at fin;simp only[Qo hlt,Qm,QNt,Qd,hgm,PS.cells,n12,m8,h3,h8,hc,e1,eE,seval];exact fin _ _ _ rfl (by exact h1) (by rfl) (by exact h7) (by exact h8) (by rfl) (by exact m1) (by exact m8') (by simp<;>rfl)
  rw[hb]at fin h3;simp only[QND]at fin;cases a1:decide (y.lo≥0)
  ·simp only[a1,QNw]at fin;simp only[Qo hlt,Qm,QNt,Qd,hgm,PS.cells,n12,a1,m8,h3,h8,hc,e1,eE,seval];exact fin _ _ _ rfl (by exact h1) (by rfl) (by exact h7) (by exact h8) (by rfl) (by exact m1) (by exact m8') (by simp<;>rfl)
  cases a2:decide (y.hi≤2147483647)
  ·simp only[a1,a2,QNw,QNS]at fin;simp only[Qo hlt,Qm,QNt,Qd,hgm,PS.cells,n12,a1,a2,m8,h3,h8,hc,e1,eE,seval];exact fin _ _ _ rfl (by exact h1) (by rfl) (by exact h7) (by exact h8) (by rfl) (by exact m1) (by exact m8') (by simp<;>rfl)
  cases a3:decide (y.lo≤y.hi)
  ·simp only[a1,a2,a3,QNw,QNS]at fin;simp only[Qo hlt,Qm,QNt,Qd,hgm,PS.cells,n12,a1,a2,a3,m8,h3,h8,hc,e1,eE,seval];exact fin _ _ _ rfl (by exact h1) (by rfl) (by exact h7) (by exact h8) (by rfl) (by exact m1) (by exact m8') (by simp<;>rfl)
  simp only[a1,a2,a3,QND,QNf]at fin;cases i with
  |zero=>
   have d0:(((0:Nat):Int)==0)=true:=rfl;rw[WU]at fin;simp only[Qo hlt,Qm,QNt,Qd,hgm,PS.cells,n12,a1,a2,a3,d0,m8,h3,h8,hc,e1,eE,Nat.reduceBEq,↓reduceIte,Nat.reduceAdd,Nat.reduceLeDiff];exact fin _ _ _ rfl (by exact h1) (by rfl) (by exact h7) (by exact h8) (by rfl) (by exact m1) (by exact m8') (by simp<;>rfl)
  |succ k=>
   have d0:(((k+1:Nat):Int)==0)=false:=by rw[QNI];omega
   obtain⟨z,hgz⟩:∃z,x.free[k]? = some z:=⟨x.free[k]'(by omega),QL6 (by omega)⟩;have hgzm:(x.free.map fun o=>AV.agg o.cells)[k]? = some (.agg z.cells):=by simp[hgz]
   have w:=KP k _ hlt hl;have hs:Yk z y=decide (y.lo > z.hi):=rfl;rw[ZY hgz hg,hs]at fin;simp only[PS.cells]at hgzm;simp only[Qo hlt,Qm,QNt,Qd,hgm,hgzm,w,PS.cells,n12,a1,a2,a3,d0,m8,h3,h8,hc,e1,eE,seval];exact fin _ _ _ rfl (by exact h1) (by rfl) (by exact h7) (by exact h8) (by rfl) (by exact m1) (by exact m8') (by simp<;>rfl)
 ·rw[show i=x.free.length by omega,B0]at h3;simp only[QE hlt,Qa,seval];refine hx _ _ (by exact h1) (by exact h3) (by exact h7) (by exact m1) (fun s hs=>?_);simp at hs;rcases hs with rfl|rfl
  ·rw[n12];rfl
  ·rw[m8];rfl

end

section
variable {M:Nat}(P:PL)(hP:P.ok M)(fr:Nat→Ob)(m1:fr 1=.cells (Pc P))(f:Fr)(b:Bool)(h1:f 1=.ptr 0 1 0)(h3:f 3=.bool b)(Q:Exit→St→Prop)
include hP m1 h1 h3

theorem QIc (ha:f 7=.int .i64 0)(hrow:∀s∈[12,8],(fr s).isRow=false)(hx:∀f fr,f 1=.ptr 0 1 0→f 3=.bool (b&&P.enums.all Z0)→Q (.exit 4) (⟨f,[fr],[]⟩:St)):QJ Tryz.prog (.loop RL) ⟨f,[fr],[]⟩ Q:=by
 let I:Nat→St→Prop:=fun k st=>∃f fr i,st=⟨f,[fr],[]⟩∧k=P.enums.length-i∧i≤P.enums.length∧f 1=.ptr 0 1 0∧f 3=.bool (b&&(P.enums.take i).all Z0)∧f 7=.int .i64 (i:Nat)∧fr 1=.cells (Pc P)∧∀s∈[12,8],(fr s).isRow=false
 refine Qf I _ ⟨f,fr,0,rfl,rfl,QMd _,h1,by rw[h3];simp,ha,m1,hrow⟩ ?_;clear h1 h3 ha m1 hrow;rintro _ st ⟨f0,fr0,i,rfl,rfl,hi,h10,h30,ha0,m10,hr⟩;refine QM (a:=_) [12,8] hr ?_;intro f fr hf hm hn;have h1:f 1=.ptr 0 1 0:=by rw[hf,h10]<;>rfl
 have h3:f 3=.bool (b&&(P.enums.take i).all Z0):=by rw[hf,h30]<;>rfl
 have ha:f 7=.int .i64 (i:Nat):=by rw[hf,ha0]<;>rfl
 have m1:fr 1=.cells (Pc P):=by rw[hm 1 (by decide),m10]<;>rfl
 have n12:=hn 12 (by decide);have n8:=hn 8 (by decide);clear hf hm hn h10 h30 ha0 m10 hr;have m1':=m1;simp only[Pc]at m1;simp only[QMZ,h1,m1,ha,eE,seval];by_cases hlt:i<P.enums.length
 ·obtain⟨x,hg⟩:∃x,P.enums[i]? = some x:=⟨P.enums[i],QL6 hlt⟩;have hgm:(P.enums.map Qt)[i]? = some (.agg x.cells):=by simp[hg,Qt]
  have e1:=Qq i _ hlt hP.len2;have ht:=Q1 (q:=Z0) hg;have hq:(b&&(P.enums.take (i+1)).all Z0)=((b&&(P.enums.take i).all Z0&&(YA x&&x.items.all (Wm x)))&&(x.free.all HE&&XH x.free Yk)):=by
   rw[ht];unfold Z0;cases b<;>cases(P.enums.take i).all _<;>cases x.free.all HE<;>cases XH x.free Yk<;>cases YA x<;>cases x.items.all (Wm x)<;>rfl
  have hxo:=hP.enums x (QMi hg);simp only[PE.cells]at hgm;simp only[Qo hlt,Qm,QNt,Qd,hgm,n8,h1,m1,ha,eE,seval];refine Mm x hxo.len1 hxo.len2 _ (b&&(P.enums.take i).all Z0) i _ (by exact h1) (by exact h3) (by exact ha) (by rfl) (by rfl) _ (by rfl) (fun f h1 h3 ha h8=>?_);simp only[Qa,seval];refine Mn x hxo.len2 P _ _ i _ (by exact h1) (by exact h3) (by exact ha) (by exact h8) (by exact m1') (by rfl) _ (by rfl) (fun s hs=>by simp at hs;subst hs;rw[QO _ _ (by decide)];first|rw[n12];rfl|(rw[QO _ _ (by decide),n12];rfl)) (fun f fr h1 h3 ha m1 hr=>?_);simp only[ha,e1,Qa,seval];exact⟨P.enums.length-(i+1),by omega,_,fr,i+1,rfl,rfl,by omega,(by exact h1),by rw[hq]<;>first|exact h3|simp only[h3,eE,seval],(by rfl),m1,hr⟩
 ·have hf:(P.enums.take i).all Z0=P.enums.all Z0:=by rw[QMD (by omega)]
  rw[hf]at h3;simp only[QE hlt,Qa,seval];exact hx _ _ (by exact h1) (by exact h3)

end

theorem z47 {M:Nat}(P:PL)(hP:P.ok M):Qp Tryz.prog 47 [P.av] (.bool (Fv P)):=by
 have e0:P.av=.agg [.list (P.progs.map Qj),.list (P.enums.map Qt)]:=rfl;refine k47.fn (by simp) ?_;simp only[e0,eE,seval];refine QIb P hP _ (by rfl) _ true (by rfl) (by rfl) _ (by rfl) (fun f h1 h3=>?_);simp only[Qa,seval];refine QIc P hP _ (by rfl) _ _ (by exact h1) (by exact h3) _ (by rfl) (fun s hs=>by simp at hs;rcases hs with rfl|rfl<;>rfl) (fun f fr h1 h3=>?_);simp only[h3,Fv,QND,Qa,seval]

section
variable (k kd:Int)(b:Nat)(t:List UInt8)(l p s r:List AV)(ht:t.length+8≤maxLen)

end

section
variable {M:Nat}(P:PL)(hP:P.ok M)(k tg kd:Int)(b:Nat)(t:List UInt8)(l p s r:List AV)(ht:t.length+8≤maxLen)(hs:s.length≤140737488351232)(hr:r.length≤140737488351232)

end

def kv (k:Int)(b:Nat)(t:List UInt8):AV:=.agg [.int .i64 k,.int .u64 (b:Nat),.str t,.list [],.list [],.list [],.list []]
def ZJ (k:Int):Prop:=(1≤k∧k≤5)∨k=7

theorem ZJ.isk {k:Int}(h:ZJ k):isk k=true:=by
 rcases h with h|rfl
 ·simp[Va.isk];omega
 ·rfl

theorem HL:∀s:List UInt8,Op.bytesLess s s=false
 | []=>rfl
 |a :: l=>by simp[Op.bytesLess,HL l]

theorem Qss (a:Int):Qp Tryz.prog 188 [.int .i64 a] (.bool false):=by
 refine QfH.fn (by simp) ?_;simp only[bne_self_eq_false,Qa,seval]

theorem Qst (a:Int):Qp Tryz.prog 298 [.int .u64 a] (.bool false):=by
 refine QGu.fn (by simp) ?_;simp only[bne_self_eq_false,Qa,seval]

theorem Qsu (a:List UInt8):Qp Tryz.prog 297 [.str a] (.bool false):=by
 have e:QN .neq a a=some (.bool false):=by simp[QN]
 refine QGr.fn (by simp) ?_;simp only[e,Qa,seval]

def cN (a b:Int):Int:=if a<b then -1 else if b<a then 1 else 0
theorem Nc {a b:Int}:cN a b=0↔a=b:=by
 unfold cN;split
 ·omega
 ·split<;>omega

theorem Vk (a b:Int):Qp Tryz.prog 102 [.int .i64 a,.int .i64 b] (.int .i64 (cN a b)):=by
 refine Qav.fn (by simp) ?_;simp only[Qa,seval];refine Qb (Qss a) rfl rfl rfl (.inl rfl) ?_;simp only[Qa,seval];refine Qb (Qss b) rfl rfl rfl (.inl rfl) ?_;simp only[Qa,seval];by_cases h1:a<b
 ·have d1:decide (a<b)=true:=by simpa using h1
  simp only[d1,cN,QMy h1,Qa,seval]
 ·have d1:decide (a<b)=false:=by simpa using h1
  by_cases h2:b<a
  ·have d2:decide (a > b)=true:=by simpa using h2
   simp only[d1,d2,cN,QMj h1,QMy h2,Qa,seval]
  ·have d2:decide (a > b)=false:=by simpa using h2
   simp only[d1,d2,cN,QMj h1,QMj h2,Qa,seval]

theorem QId (a b:Int):Qp Tryz.prog 285 [.int .u64 a,.int .u64 b] (.int .i64 (cN a b)):=by
 refine QGl.fn (by simp) ?_;simp only[Qa,seval];refine Qb (Qst a) rfl rfl rfl (.inl rfl) ?_;simp only[Qa,seval];refine Qb (Qst b) rfl rfl rfl (.inl rfl) ?_;simp only[Qa,seval];by_cases h1:a<b
 ·have d1:decide (a<b)=true:=by simpa using h1
  simp only[d1,cN,QMy h1,Qa,seval]
 ·have d1:decide (a<b)=false:=by simpa using h1
  by_cases h2:b<a
  ·have d2:decide (a > b)=true:=by simpa using h2
   simp only[d1,d2,cN,QMj h1,QMy h2,Qa,seval]
  ·have d2:decide (a > b)=false:=by simpa using h2
   simp only[d1,d2,cN,QMj h1,QMj h2,Qa,seval]

def cS (a b:List UInt8):Int:=if Op.bytesLess a b=true then -1 else if a==b then 0 else 1
theorem Iu {a b:List UInt8}:cS a b=0↔a=b:=by
 unfold cS
 constructor
 ·intro h;split at h
  ·omega
  ·split at h
   ·rename_i h2;simpa using h2
   ·omega
 ·rintro rfl;simp[HL]

theorem QIe (a b:List UInt8):Qp Tryz.prog 284 [.str a,.str b] (.int .i64 (cS a b)):=by
 refine QGi.fn (by simp) ?_;simp only[Qa,seval];refine Qb (Qsu a) rfl rfl rfl (.inl rfl) ?_;simp only[Qa,seval];refine Qb (Qsu b) rfl rfl rfl (.inl rfl) ?_;simp only[QN,cS,Qa,seval];cases h1:Op.bytesLess a b
 ·cases h2:(a==b)<;>simp only[QN,h1,h2,QNH,QNE,QNb,QMo,Qa,seval]
 ·simp only[Qa,seval]

def Uw (k:Int)(a:Nat)(s:List UInt8)(b:Nat)(t:List UInt8):Int :=
 if ZN k=true then cS s t else if (k==2||k==3)=true then cN (IntKind.i64.wrap (a:Int)) (IntKind.i64.wrap (b:Int))else cN (a:Int) (b:Int)

theorem QIf (k:Int)(hk:ZJ k)(a b:Nat)(s t:List UInt8):Qp Tryz.prog 258 [kv k a s,kv k b t] (.int .i64 (Uw k a s b t)):=by
 have hi:=hk.isk;have k6:(k==6)=false:=by
  rcases hk with h|rfl
  ·simp;omega
  ·rfl
 refine QFX.fn (by simp) ?_;simp only[kv,Uw,bne_self_eq_false,eE,seval];refine Qb (Fp k) rfl rfl rfl (.inl rfl) ?_;simp only[hi,eE,seval];refine Qb (QrT k) rfl rfl rfl (.inl rfl) ?_;cases h1:ZN k
 ·simp only[QMo,eE,seval];cases h2:(k==2)
  ·cases h3:(k==3)
   ·simp only[h3,k6,QNT,QMo,eE,seval];refine Qb (QId _ _) rfl rfl rfl (.inl rfl) ?_;simp only[Qa,seval]
   ·simp only[h3,QNH,eE,seval];refine Qb (Vk _ _) rfl rfl rfl (.inl rfl) ?_;simp only[Qa,seval]
  ·simp only[QNG,eE,seval];refine Qb (Vk _ _) rfl rfl rfl (.inl rfl) ?_;simp only[Qa,seval]
 ·simp only[eE,seval];refine Qb (QIe s t) rfl rfl rfl (.inl rfl) ?_;simp only[Qa,seval]

theorem Qsv (k:Int)(hk:ZJ k)(b:Nat)(t:List UInt8):Qp Tryz.prog 257 [kv k b t] (.iface 218 (kv k b t)):=by
 have hi:=hk.isk;refine QFU.fn (by simp) ?_;simp only[kv,eE,seval];refine Qb (Fp k) rfl rfl rfl (.inl rfl) ?_;simp only[hi,eE,seval]

theorem Qsw (k:Int)(hk:ZJ k)(a b:Nat)(s t:List UInt8):Qp Tryz.prog 227 [kv k a s,kv k b t] (.int .i64 (Uw k a s b t)):=by
 have h1:=Qsv k hk a s;have h2:=Qsv k hk b t;have h3:=QIf k hk a b s t;simp only[kv]at h1 h2 h3;refine QFp.fn (by simp) ?_;simp only[kv,bne_self_eq_false,eE,seval];refine Qb h2 rfl rfl rfl (.inl rfl) ?_;simp only[eE,seval];refine Qb h1 rfl rfl rfl (.inl rfl) ?_;simp only[eE,seval];refine Qb h3 rfl rfl rfl (.inl rfl) ?_;simp only[Qa,seval]

theorem Qsx (k:Int)(hk:ZJ k)(a b:Nat)(s t:List UInt8):Qp Tryz.prog 228 [kv k a s,kv k b t] (.bool (Uw k a s b t==0)):=by
 have h1:=Qsw k hk a b s t;simp only[kv]at h1;refine QFs.fn (by simp) ?_;simp only[kv,eE,seval];refine Qb h1 rfl rfl rfl (.inl rfl) ?_;simp only[Qa,seval]

theorem Wg {v:V}{P:PL}{k tg:Int}(h:v.one P k tg=0):v.av=kv k v.bits v.text∧(ZN k=true→(v.bits:Int)=0)∧(ZN k=false→v.text=[]):=by
 obtain⟨h1,_,h3⟩:=YF h;rw[Dp,h1];rw[h1]at h3;unfold Xr Ww at h3;simp only[QMt,QMb]at h3;obtain⟨⟨⟨⟨⟨_,⟨⟨⟨e1,e2⟩,e3⟩,e4⟩⟩,h4⟩,_⟩,_⟩,_⟩:=h3;have f1:=QNZ.1 (Int.ofNat_eq_zero.1 e1);have f2:=QNZ.1 (Int.ofNat_eq_zero.1 e2);have f3:=QNZ.1 (Int.ofNat_eq_zero.1 e3);have f4:=QNZ.1 (Int.ofNat_eq_zero.1 e4);rw[f1,f2,f3,f4];refine⟨rfl,fun ht=>?_,fun ht=>?_⟩
 ·rw[QMy ht]at h4;simpa using h4
 ·rw[QMj (by simp[ht])]at h4;simpa using h4

theorem Nd {x y:V}{P:PL}{k tg:Int}(_hk:ZJ k)(hx:x.one P k tg=0)(hy:y.one P k tg=0)(bx:x.bits<18446744073709551616)(bY:y.bits<18446744073709551616):(Uw k x.bits x.text y.bits y.text==0)=Ka x y:=by
 obtain⟨_,x1,x2⟩:=Wg hx;obtain⟨_,y1,y2⟩:=Wg hy;rw[QMY,QMb];unfold Ka Uw;simp only[QMt,QMb];split
 ·rename_i ht;have:=x1 ht;have:=y1 ht;rw[Iu];exact⟨fun h=>⟨by omega,h⟩,fun h=>h.2⟩
 ·rename_i ht;have ht:ZN k=false:=by simpa using ht
  rw[x2 ht,y2 ht];split
  ·rw[Nc,QF,QF];exact⟨fun h=>⟨by omega,rfl⟩,fun h=>by rw[h.1]⟩
  ·rw[Nc];exact⟨fun h=>⟨by omega,rfl⟩,fun h=>by rw[h.1]⟩

open Up

def vc (x:V):List AV:=[.int .i64 x.kd,.int .u64 (x.bits:Nat),.str x.text,.list (x.list.map V.av),.list (x.pairs.map V.pav),.list (x.slots.map V.sav),.list (x.raws.map R.av)]
theorem QL (x:V):x.av=.agg [.int .i64 x.kd,.int .u64 (x.bits:Nat),.str x.text,.list (x.list.map V.av),.list (x.pairs.map V.pav),.list (x.slots.map V.sav),.list (x.raws.map R.av)]:=by
 rw[V.av,V.eta]
theorem Ja (p:V×V):V.pav p=.agg [.int .i64 p.1.kd,.int .u64 (p.1.bits:Nat),.str p.1.text,.list (p.1.list.map V.av),.list (p.1.pairs.map V.pav),.list (p.1.slots.map V.sav),.list (p.1.raws.map R.av),.int .i64 p.2.kd,.int .u64 (p.2.bits:Nat),.str p.2.text,.list (p.2.list.map V.av),.list (p.2.pairs.map V.pav),.list (p.2.slots.map V.sav),.list (p.2.raws.map R.av)]:=by
 rw[V.pav,V.eta,V.eta];rfl
theorem ZK (s:Int×V):V.sav s=.agg [.int .i64 s.1,.int .i64 s.2.kd,.int .u64 (s.2.bits:Nat),.str s.2.text,.list (s.2.list.map V.av),.list (s.2.pairs.map V.pav),.list (s.2.slots.map V.sav),.list (s.2.raws.map R.av)]:=by
 rw[V.sav,V.eta]
theorem GH {l:List V}{i:Nat}{x:V}(h:l[i]? = some x):(l.map V.av)[i]? = some (.agg [.int .i64 x.kd,.int .u64 (x.bits:Nat),.str x.text,.list (x.list.map V.av),.list (x.pairs.map V.pav),.list (x.slots.map V.sav),.list (x.raws.map R.av)]):=by
 rw[QNp,h,QMU,QL]
theorem YI {l:List (V×V)}{i:Nat}{p:V×V}(h:l[i]? = some p):(l.map V.pav)[i]? = some (.agg [.int .i64 p.1.kd,.int .u64 (p.1.bits:Nat),.str p.1.text,.list (p.1.list.map V.av),.list (p.1.pairs.map V.pav),.list (p.1.slots.map V.sav),.list (p.1.raws.map R.av),.int .i64 p.2.kd,.int .u64 (p.2.bits:Nat),.str p.2.text,.list (p.2.list.map V.av),.list (p.2.pairs.map V.pav),.list (p.2.slots.map V.sav),.list (p.2.raws.map R.av)]):=by
 rw[QNp,h,QMU,Ja]
theorem W6 {l:List (Int×V)}{i:Nat}{s:Int×V}(h:l[i]? = some s):(l.map V.sav)[i]? = some (.agg [.int .i64 s.1,.int .i64 s.2.kd,.int .u64 (s.2.bits:Nat),.str s.2.text,.list (s.2.list.map V.av),.list (s.2.pairs.map V.pav),.list (s.2.slots.map V.sav),.list (s.2.raws.map R.av)]):=by
 rw[QNp,h,QMU,ZK]

structure UO (P:PL)(o:PO):Prop where
 tgt:o.kind=10→0≤o.target∧o.target<(P.progs.length:Int)
 enm:o.kind=9→0≤o.target∧o.target<(P.enums.length:Int)
 key:o.card=5→ZJ o.key
def HM (P:PL):Prop:=∀g∈P.progs,∀o∈g.ops,UO P o

theorem Mo {P:PL}(h:ck P=0):HM P:=by
 unfold ck at h;split at h
 ·omega
 split at h
 ·omega
 split at h
 ·omega
 split at h
 ·omega
 split at h
 ·omega
 split at h
 ·omega
 rename_i ha;have ha:args P=true:=by simpa using ha
 intro g hg o ho;unfold args at ha;simp only[QMt,QMh]at ha;have h1:=ha.1 g hg;unfold ZI at h1;simp only[QMt,QMh]at h1;have h2:=(h1.2 o ho).1;unfold XU at h2;simp only[QMt,QMa]at h2;obtain⟨⟨_,hk⟩,hm⟩:=h2;refine⟨fun h=>?_,fun h=>?_,fun h=>?_⟩
 ·unfold HF at hm;rw[QMy h]at hm;simp only[QMt,QMa]at hm;exact hm.1
 ·unfold HF at hm;rw[QMj (by omega),QMy h]at hm;simp only[QMt,QMa]at hm;exact hm
 ·unfold Va.key at hk;rw[QMy h]at hk;simp only[QMt,QMa,QMv]at hk;unfold ZJ;omega

section
variable {M:Nat}{P:PL}(hP:P.ok M)(hM:M≤140737488351232){m:PG→V→Int}{lv lv1:Int}(hw:IntKind.i64.wrap (lv+1)=lv1)

include hP in
theorem Sa (k tg:Int){v:V}(hv:v.ok M):Qp Tryz.prog 251 [P.av,.int .i64 k,.int .i64 tg,v.av] (.int .i64 (v.one P k tg)):=by
 rw[Dp];exact QH7 P hP k tg _ _ _ _ _ _ _ (by have:=hv.nl;simp;omega) (by have:=hv.np;simp;omega) (by have:=hv.ns;simp;omega) (by have:=hv.nr;simp;omega)

include hP hw in
theorem QIg (hm:∀g∈P.progs,∀v:V,v.ok M→Qp Tryz.prog 55 [P.av,Qj g,v.av,.int .i64 lv1] (.int .i64 (m g v)))(o:PO)(ho:UO P o)(v:V)(hv:v.ok M) :
  Qp Tryz.prog 220 [P.av,QA o,v.av,.int .i64 lv] (.int .i64 (QT m P o v)):=by
 have e0:P.av=.agg [.list (P.progs.map Qj),.list (P.enums.map Qt)]:=rfl;have h1:=Sa hP o.kind o.target hv;rw[e0,QL]at h1;rw[QL];refine Qh0.fn (by simp) ?_;simp only[e0,QA,PO.cells,QT,eE,seval];by_cases hk:o.kind=10
 ·have b:(o.kind==10)=true:=by simp[hk]
  obtain⟨t0,t1⟩:=ho.tgt hk;obtain⟨i,hi⟩:=QNF t0;have hlt:i<P.progs.length:=by omega
  obtain⟨g,hg⟩:∃g,P.progs[i]? = some g:=⟨P.progs[i],QL6 hlt⟩;have hga:(P.progs.map Qj)[i]? = some (.agg g.cells):=by simp[hg,Qj]
  have hq:Xb P o.target=g:=by unfold Xb;rw[hi,QNt,hg];rfl
  have h2:=hm g (QMi hg) v hv;rw[e0,QL]at h2;simp only[Qj,PG.cells]at h2;simp only[PG.cells]at hga;rw[QMy hk,hq];simp only[b,hi,Qm,QNt,Qd,hga,hw,eE,seval];refine Qb h2 rfl rfl rfl (.inl rfl) ?_;simp only[Qa,seval]
 ·have b:(o.kind==10)=false:=by simp[hk]
  rw[QMj hk];simp only[b,eE,seval];refine Qb h1 rfl rfl rfl (.inl rfl) ?_;simp only[Qa,seval]

end

section pairs
variable (L:List (V×V))(hl:L.length≤maxLen)(p:V×V→Bool)(c:Nat)(cap:AV)(m:Ql)

def QIh (k:Nat)(st:St):Prop :=
 ∃f i,st=⟨f,Qc :: m,[]⟩∧k=L.length-i∧QW p L 0=QW p (L.drop i) i∧f 0=.list (L.map V.pav)∧f 1=.fn (.func c) [] [cap.sh]∧f 7=.int .i64 (L.length:Nat)∧f 8=.int .i64 (i:Nat)

include hl in
theorem QIi (hc:∀o∈L,Qh Tryz.prog c [V.pav o,cap.sh] (Qc :: m) fun y m1=>y=.bool (p o)∧m1=Qc :: m) :
  Qh Tryz.prog 280 [.list (L.map V.pav),.fn (.func c) [] [cap]] m fun y m1=>y=.int .i64 (QW p L 0)∧m1=m:=by
 refine QGf.go (by simp) ?_;simp only[QMZ,Qa,seval];refine Qf (QIh L p c cap m) _ ⟨_,0,rfl,rfl,rfl,(by rfl),(by rfl),(by rfl),(by rfl)⟩ ?_;rintro _ st ⟨f,i,rfl,rfl,hx,h0,h1,h7,h8⟩;simp only[h7,h8,Qa,seval];by_cases hlt:i<L.length
 ·obtain⟨x,hi⟩:∃x,L[i]? = some x:=⟨L[i],QL6 hlt⟩;have hcl:=hc x (QMi hi);have hg:=YI hi;have e1:=Qq i _ hlt hl;rw[Ja]at hcl;simp only[Qo hlt,Qm,QNt,Qd,hg,h0,h1,h8,eE,seval];refine Q6 (fa:=[]) (fb:=[cap.sh]) (by rfl) hcl (by simp only[QMB,QM5,QMs,QMr,Qa,seval]) ?_;rw[XS p hi]at hx;cases hp:p x
  ·rw[hp]at hx;simp only[QMo,if_false]at hx;simp only[h8,e1,Qa,seval];exact⟨L.length-(i+1),by omega,_,i+1,rfl,rfl,hx,(by exact h0),(by exact h1),(by exact h7),(by rfl)⟩
  ·rw[hp]at hx;simp only[if_true]at hx;simp only[hx,Qa,seval]
 ·have hx':QW p L 0 = -1:=by rw[hx,QMG (by omega)];rfl
  simp only[QE hlt,hx',Qa,seval]

include hl in
theorem QIj (hc:∀o∈L,Qh Tryz.prog c [V.pav o,cap.sh.sh] (Qc :: Qc :: m) fun y m1=>y=.bool (p o)∧m1=Qc :: Qc :: m) :
  Qh Tryz.prog 252 [.list (L.map V.pav),.fn (.func c) [] [cap]] m fun y m1=>y=.bool (L.any p)∧m1=m:=by
 refine QFO.go (by simp) ?_;simp only[Qa,seval];refine Qi (QIi L hl p c cap.sh _ hc) (by simp only[QMB,QM5,Qa,seval]) ?_;simp only[GD,Qa,seval]

end pairs

section slots
variable (L:List (Int×V))(hl:L.length≤maxLen)(p:Int×V→Bool)(c:Nat)(cap:AV)(m:Ql)

def QIk (k:Nat)(st:St):Prop :=
 ∃f i,st=⟨f,Qc :: m,[]⟩∧k=L.length-i∧QW p L 0=QW p (L.drop i) i∧f 0=.list (L.map V.sav)∧f 1=.fn (.func c) [] [cap.sh]∧f 7=.int .i64 (L.length:Nat)∧f 8=.int .i64 (i:Nat)

include hl in
theorem QIl (hc:∀o∈L,Qh Tryz.prog c [V.sav o,cap.sh] (Qc :: m) fun y m1=>y=.bool (p o)∧m1=Qc :: m) :
  Qh Tryz.prog 178 [.list (L.map V.sav),.fn (.func c) [] [cap]] m fun y m1=>y=.int .i64 (QW p L 0)∧m1=m:=by
 refine Qe4.go (by simp) ?_;simp only[QMZ,Qa,seval];refine Qf (QIk L p c cap m) _ ⟨_,0,rfl,rfl,rfl,(by rfl),(by rfl),(by rfl),(by rfl)⟩ ?_;rintro _ st ⟨f,i,rfl,rfl,hx,h0,h1,h7,h8⟩;simp only[h7,h8,Qa,seval];by_cases hlt:i<L.length
 ·obtain⟨x,hi⟩:∃x,L[i]? = some x:=⟨L[i],QL6 hlt⟩;have hcl:=hc x (QMi hi);have hg:=W6 hi;have e1:=Qq i _ hlt hl;rw[ZK]at hcl;simp only[Qo hlt,Qm,QNt,Qd,hg,h0,h1,h8,eE,seval];refine Q6 (fa:=[]) (fb:=[cap.sh]) (by rfl) hcl (by simp only[QMB,QM5,QMs,QMr,Qa,seval]) ?_;rw[XS p hi]at hx;cases hp:p x
  ·rw[hp]at hx;simp only[QMo,if_false]at hx;simp only[h8,e1,Qa,seval];exact⟨L.length-(i+1),by omega,_,i+1,rfl,rfl,hx,(by exact h0),(by exact h1),(by exact h7),(by rfl)⟩
  ·rw[hp]at hx;simp only[if_true]at hx;simp only[hx,Qa,seval]
 ·have hx':QW p L 0 = -1:=by rw[hx,QMG (by omega)];rfl
  simp only[QE hlt,hx',Qa,seval]

include hl in
theorem v92 (hc:∀o∈L,Qh Tryz.prog c [V.sav o,cap.sh.sh] (Qc :: Qc :: m) fun y m1=>y=.bool (p o)∧m1=Qc :: Qc :: m) :
  Qh Tryz.prog 92 [.list (L.map V.sav),.fn (.func c) [] [cap]] m fun y m1=>y=.bool (L.any p)∧m1=m:=by
 refine k92.go (by simp) ?_;simp only[Qa,seval];refine Qi (QIl L hl p c cap.sh _ hc) (by simp only[QMB,QM5,Qa,seval]) ?_;simp only[GD,Qa,seval]

end slots

theorem WB {M:Nat}{v:V}(h:v.ok M):v.bits<18446744073709551616:=by
 have:=DZ h.bits;omega

section
variable {M:Nat}{P:PL}(hP:P.ok M)(hM:M≤140737488351232){m:PG→V→Int}{lv:Int}(o:PO)(ho:UO P o)(h5:o.card=5)(ps:List (V×V))(hn:ps.length≤maxLen)(hk:∀x∈ps,x.1.ok M)(hv:∀x∈ps,x.2.ok M)

theorem QIm {k:Int}(kk:ZJ k)(q p:V×V)(hq:q.1.one P k (-1)=0)(hp:p.1.one P k (-1)=0)(bq:q.1.ok M)(bp:p.1.ok M)(frO:Nat→Ob)(hf:∀c,V.pav p=.agg c→frO 10=.cells c) :
  Qh Tryz.prog 253 [V.pav q,.ptr 2 10 0] [Qc,Qc,frO] fun y m1=>y=.bool (Ka q.1 p.1)∧m1=[Qc,Qc,frO]:=by
 have h:=Qsx k kk q.1.bits p.1.bits q.1.text p.1.text;have hf:=hf _ (Ja p);rw[←(Wg hq).1,←(Wg hp).1,Nd kk hq hp (WB bq) (WB bp),QL,QL]at h;rw[Ja];refine QFR.go (by simp) ?_;simp only[hf,eE,seval];refine Qb h rfl rfl rfl (.inl rfl) ?_;simp only[Qa,seval]

def EnI (m:PG→V→Int)(P:PL)(lv:Int)(o:PO)(ps:List (V×V))(k:Nat)(st:St):Prop :=
 ∃f fr i,st=⟨f,[fr],[]⟩∧k=ps.length-i∧XE (Wp m P o ps) ps.length 0=XE (Wp m P o ps) (ps.length-i) i∧(∀j y,j<i→ps[j]? = some y→y.1.one P o.key (-1)=0)∧f 2=.list (ps.map V.pav)∧f 3=.int .i64 lv∧f 4=.ptr 0 4 0∧f 5=.ptr 0 5 0∧f 13=.list (ps.map V.pav)∧f 14=.int .i64 (ps.length:Nat)∧f 15=.int .i64 (i:Nat)∧fr 4=.cells [.list (P.progs.map Qj),.list (P.enums.map Qt)]∧fr 5=.cells o.cells∧∀s∈[10],(fr s).isRow=false

include hP ho h5 hn hk hv in
theorem QIn (hel:∀v:V,v.ok M→Qp Tryz.prog 220 [P.av,QA o,v.av,.int .i64 lv] (.int .i64 (QT m P o v))) :
  Qp Tryz.prog 221 [P.av,QA o,.list (ps.map V.pav),.int .i64 lv] (.int .i64 (XE (Wp m P o ps) ps.length 0)):=by
 have e0:P.av=.agg [.list (P.progs.map Qj),.list (P.enums.map Qt)]:=rfl;have kk:=ho.key h5;refine QFf.fn (by simp) ?_;simp only[e0,QA,PO.cells,QMZ,eE,seval];refine Qf (EnI m P lv o ps) _ ⟨_,_,0,rfl,rfl,rfl,(by intro j y h;omega),(by rfl),(by rfl),(by rfl),(by rfl),(by rfl),(by rfl),(by rfl),(by rfl),(by rfl),by simp<;>rfl⟩ ?_;rintro _ st ⟨f0,fr0,i,rfl,rfl,hx,hks,h20,h30,h40,h50,h130,h140,h150,m40,m50,G5⟩;refine QM (a:=_) [10] G5 ?_;intro f fr hf hm hn10;have h2:f 2=.list (ps.map V.pav):=by rw[hf,h20]<;>rfl
 have h3:f 3=.int .i64 lv:=by rw[hf,h30]<;>rfl
 have h4:f 4=.ptr 0 4 0:=by rw[hf,h40]<;>rfl
 have h5':f 5=.ptr 0 5 0:=by rw[hf,h50]<;>rfl
 have h13:f 13=.list (ps.map V.pav):=by rw[hf,h130]<;>rfl
 have h14:f 14=.int .i64 (ps.length:Nat):=by rw[hf,h140]<;>rfl
 have h15:f 15=.int .i64 (i:Nat):=by rw[hf,h150]<;>rfl
 have m4:fr 4=.cells [.list (P.progs.map Qj),.list (P.enums.map Qt)]:=by rw[hm 4 (by decide),m40]<;>rfl
 have m5:fr 5=.cells o.cells:=by rw[hm 5 (by decide),m50]<;>rfl
 have n10:=hn10 10 (by decide);clear hf hm hn10 h20 h30 h40 h50 h130 h140 h150 m40 m50 G5;have m5':=m5;simp only[PO.cells]at m5;simp only[h14,h15,Qa,seval];by_cases hlt:i<ps.length
 ·obtain⟨x,hi⟩:∃x,ps[i]? = some x:=⟨ps[i],QL6 hlt⟩;have hxm:=QMi hi;have hg:=YI hi;have e1:=Qq i _ hlt hn;have hle:(i≤ps.length)=True:=eq_true (by omega);have c1:=Sa hP o.key (-1) (hk x hxm);have c2:=hel x.2 (hv x hxm);rw[e0,QL]at c1 c2;simp only[QA,PO.cells]at c2;simp only[Qo hlt,Qm,QNt,Qd,hg,n10,h4,h5',h13,h15,m4,m5,eE,seval];refine Qb c1 rfl rfl rfl (.inl rfl) ?_;by_cases hz:x.1.one P o.key (-1)=0
  ·have d0:((0:Int) != 0)=false:=rfl;have hcl:=fun(fr:Nat→Ob) (h10:∀c,V.pav x=.agg c→fr 10=.cells c)=>QIj (ps.take i) (by rw[QM1];omega) (fun q=>Ka q.1 x.1) 253 (.ptr 0 10 0) [fr] fun q hq=>by
    obtain⟨j,hj⟩:=QMg.1 hq;have hlj:=(QL5.1 hj).1;rw[QM1]at hlj;rw[QMI,QMy (by omega)]at hj;exact QIm kk q x (hks j q (by omega) hj) hz (hk q (QMi hj)) (hk x hxm) fr h10
   simp only[hz,d0,h2,ZC,Zi,Q5,QNA,QMZ,Qm,QNt,QMd,QL3,hle,true_or,QNl,←List.map_take,Qa,seval];refine Qi (hcl _ (fun c hc=>by rw[Ja]at hc;cases hc;exact(by rfl))) (by simp only[QMB,QM5,Qa,seval]<;>rfl) ?_;cases ha:(ps.take i).any (fun q=>Ka q.1 x.1)
   ·have he:Wp m P o ps i=QT m P o x.2:=by rw[Y5 hi,QMy hz,ha,QMj (by simp)]
    simp only[h3,h4,h5',m4,m5,eE,seval];refine Qb c2 rfl rfl rfl (.inl rfl) ?_;by_cases hy:QT m P o x.2=0
    ·rw[HJ hlt (he.trans hy)]at hx;simp only[hy,d0,h15,e1,Qa,seval];refine⟨ps.length-(i+1),by omega,_,_,i+1,rfl,rfl,hx,?_,(by exact h2),(by exact h3),(by exact h4),(by exact h5'),(by exact h13),(by exact h14),(by rfl),(by exact m4),(by exact m5'),by simp<;>rfl⟩;intro j y hj hjy;by_cases e:j=i
     ·subst e;rw[hi]at hjy;cases hjy;exact hz
     ·exact hks j y (by omega) hjy
    ·rw[Wz hlt he hy]at hx;have d1:(QT m P o x.2 != 0)=true:=by simp[hy]
     simp only[d1,hx,Qa,seval]
   ·rw[Wz hlt (v:=9) (by rw[Y5 hi,QMy hz,ha,QMy rfl]) (by decide)]at hx;simp only[hx,Qa,seval]
  ·rw[Wz hlt ((Y5 hi).trans (QMj hz)) hz]at hx;have d1:(x.1.one P o.key (-1) != 0)=true:=by simp[hz]
   simp only[d1,hx,Qa,seval]
 ·rw[Y4 hlt]at hx;simp only[QE hlt,hx,Qa,seval]

end

section
variable {M:Nat}{P:PL}(hP:P.ok M)(hM:M≤140737488351232){m:PG→V→Int}{lv:Int}(o:PO)(ho:UO P o)(v:V)(hv:v.ok M)

include hv in
theorem Vl:Qp Tryz.prog 90 [v.av] (.bool v.oth):=by
 rw[Dp];exact z90 _ _ _ _ _ _ _ (by have:=hv.ns;simp;omega) (by have:=hv.nr;simp;omega)
def FiI (m:PG→V→Int)(P:PL)(lv:Int)(o:PO)(v:V)(k:Nat)(st:St):Prop :=
 ∃f fr i,st=⟨f,[fr],[]⟩∧k=v.list.length-i∧XE (UL m P o v.list) v.list.length 0=XE (UL m P o v.list) (v.list.length-i) i∧f 3=.int .i64 lv∧f 4=.ptr 0 4 0∧f 5=.ptr 0 5 0∧f 24=.list (v.list.map V.av)∧f 25=.int .i64 (v.list.length:Nat)∧f 26=.int .i64 (i:Nat)∧fr 4=.cells [.list (P.progs.map Qj),.list (P.enums.map Qt)]∧fr 5=.cells o.cells∧∀s∈[10],(fr s).isRow=false

include hP ho hv in
theorem QIo (hel:∀v:V,v.ok M→Qp Tryz.prog 220 [P.av,QA o,v.av,.int .i64 lv] (.int .i64 (QT m P o v))) :
  Qp Tryz.prog 177 [P.av,QA o,v.av,.int .i64 lv] (.int .i64 (XB m P o v)):=by
 have e0:P.av=.agg [.list (P.progs.map Qj),.list (P.enums.map Qt)]:=rfl;have co:=Vl v hv;have ce:=fun h5=>QIn hP o ho h5 v.pairs (by have:=hv.np;simp only[maxLen];omega) hv.keys hv.vals hel
 have cv:=hel v hv;rw[e0,QL]at cv;rw[QL]at co;simp only[e0,QA,PO.cells]at ce cv;rw[QL];refine QeS.fn (by simp) ?_;simp only[e0,QA,PO.cells,eE,seval];unfold XB;by_cases h4:o.card=4
 ·have b4:(o.card==4)=true:=by simp[h4]
  have n5:¬o.card=5:=by omega
  rw[QMj n5,QMy h4];simp only[b4,eE,seval];cases a1:(v.kd != 11)
  ·simp only[QNH,eE,seval];refine Qb co rfl rfl rfl (.inl rfl) ?_;cases a2:v.oth
   ·simp only[QMo,QMZ,eE,seval];refine Qf (FiI m P lv o v) _ ⟨_,_,0,rfl,rfl,rfl,(by rfl),(by rfl),(by rfl),(by rfl),(by rfl),(by rfl),(by rfl),(by rfl),by simp<;>rfl⟩ ?_;rintro _ st ⟨f0,fr0,i,rfl,rfl,hx,h30,h40,h50,h240,h250,h260,m40,m50,G5⟩;refine QM (a:=_) [10] G5 ?_;intro f fr hf hm hn10;have h3:f 3=.int .i64 lv:=by rw[hf,h30]<;>rfl
    have h4:f 4=.ptr 0 4 0:=by rw[hf,h40]<;>rfl
    have h5:f 5=.ptr 0 5 0:=by rw[hf,h50]<;>rfl
    have h24:f 24=.list (v.list.map V.av):=by rw[hf,h240]<;>rfl
    have h25:f 25=.int .i64 (v.list.length:Nat):=by rw[hf,h250]<;>rfl
    have h26:f 26=.int .i64 (i:Nat):=by rw[hf,h260]<;>rfl
    have m4:fr 4=.cells [.list (P.progs.map Qj),.list (P.enums.map Qt)]:=by rw[hm 4 (by decide),m40]<;>rfl
    have m5:fr 5=.cells o.cells:=by rw[hm 5 (by decide),m50]<;>rfl
    have n10:=hn10 10 (by decide);clear hf hm hn10 h30 h40 h50 h240 h250 h260 m40 m50 G5;have m5':=m5;simp only[PO.cells]at m5;simp only[h25,h26,Qa,seval];by_cases hlt:i<v.list.length
    ·obtain⟨x,hi⟩:∃x,v.list[i]? = some x:=⟨v.list[i],QL6 hlt⟩;have hg:=GH hi;have e1:=Qq i _ hlt (by have:=hv.nl;simp only[maxLen];omega);have c2:=hel x (hv.list x (QMi hi));rw[e0,QL]at c2;simp only[QA,PO.cells]at c2;simp only[Qo hlt,Qm,QNt,Qd,hg,n10,h3,h4,h5,h24,h26,m4,m5,eE,seval];refine Qb c2 rfl rfl rfl (.inl rfl) ?_;by_cases hy:QT m P o x=0
     ·rw[HJ hlt ((Y6 hi).trans hy)]at hx;have d0:((0:Int) != 0)=false:=rfl;simp only[hy,d0,h26,e1,Qa,seval];exact⟨v.list.length-(i+1),by omega,_,_,i+1,rfl,rfl,hx,(by exact h3),(by exact h4),(by exact h5),(by exact h24),(by exact h25),(by rfl),(by exact m4),(by exact m5'),by simp<;>rfl⟩
     ·rw[Wz hlt (Y6 hi) hy]at hx;have d1:(QT m P o x != 0)=true:=by simp[hy]
      simp only[d1,hx,Qa,seval]
    ·rw[Y4 hlt]at hx;simp only[QE hlt,hx,Qa,seval]
   ·simp only[Qa,seval]
  ·simp only[QNG,Qa,seval]
 ·have b4:(o.card==4)=false:=by simp[h4]
  by_cases h5:o.card=5
  ·have b5:(o.card==5)=true:=by simp[h5]
   rw[QMy h5];simp only[b4,b5,eE,seval];cases a1:(v.kd != 12)
   ·simp only[QNH,eE,seval];refine Qb co rfl rfl rfl (.inl rfl) ?_;cases a2:v.oth
    ·simp only[QMo,eE,seval];refine Qb (ce h5) rfl rfl rfl (.inl rfl) ?_;simp only[Qa,seval]
    ·simp only[Qa,seval]
   ·simp only[QNG,Qa,seval]
  ·have b5:(o.card==5)=false:=by simp[h5]
   rw[QMj h5,QMj h4];simp only[b4,b5,eE,seval];refine Qb cv rfl rfl rfl (.inl rfl) ?_;simp only[Qa,seval]

end

theorem PC {fr:Nat→Ob}{a b:Nat}(h1:(fr a).isRow=false)(h2:(fr b).isRow=false):∀s∈[a,b],(fr s).isRow=false:=by
 intro s hs;simp only[QNo,QN3,or_false]at hs;rcases hs with rfl|rfl
 ·exact h1
 ·exact h2

theorem J1 {g:PG}{n:Int}{o:PO}(h:XZ g n=some o):o∈g.ops∧o.num=n:=by
 unfold XZ at h;exact⟨QNP h,by simpa using List.find?_some h⟩

theorem Ua (g:PG)(n:Int):BZ (fun o=>o.num==n) g.ops=.tup [QA ((XZ g n).getD HB),.bool (XZ g n).isSome]:=rfl

section
variable {M:Nat}{P:PL}(hP:P.ok M)(hM:M≤140737488351232){m:PG→V→Int}{lv:Int}(g:PG)(hg:g.ok M)(hu:∀o∈g.ops,UO P o)(sl:List (Int×V))(hn:sl.length≤maxLen)(i:Nat)(hi:i<sl.length)(hv:∀x∈sl,x.2.ok M)

theorem QIp (y:Int×V)(o:PO)(frO:Nat→Ob)(hf:frO 11=.cells o.cells) :
  Qh Tryz.prog 176 [V.sav y,.ptr 2 11 0] [Qc,Qc,frO] fun v m1=>v=.bool (y.1==o.num)∧m1=[Qc,Qc,frO]:=by
 simp only[PO.cells]at hf;rw[ZK];refine QeE.go (by simp) ?_;simp only[hf,eE,seval]

def SlI (P:PL)(lv:Int)(g:PG)(o:PO)(sl:List (Int×V))(i:Nat)(k:Nat)(st:St):Prop :=
 ∃f fr j,st=⟨f,[fr],[]⟩∧k=i-j∧j≤i∧(sl.take j).any (JZ g o)=false∧f 2=.list (sl.map V.sav)∧f 3=.int .i64 (i:Nat)∧f 4=.int .i64 lv∧f 5=.ptr 0 5 0∧f 6=.ptr 0 6 0∧f 11=.ptr 0 11 0∧f 36=.list ((sl.take i).map V.sav)∧f 37=.int .i64 (i:Nat)∧f 38=.int .i64 (j:Nat)∧fr 5=.cells [.list (P.progs.map Qj),.list (P.enums.map Qt)]∧fr 6=.cells g.cells∧fr 11=.cells o.cells∧∀s∈[15,14],(fr s).isRow=false

include hg hn hi hv in
theorem v91 (hfi:∀o∈g.ops,∀v:V,v.ok M→Qp Tryz.prog 177 [P.av,QA o,v.av,.int .i64 lv] (.int .i64 (XB m P o v))) :
  Qp Tryz.prog 91 [P.av,Qj g,.list (sl.map V.sav),.int .i64 (i:Nat),.int .i64 lv] (.int .i64 (Zh m P g sl i)):=by
 have e0:P.av=.agg [.list (P.progs.map Qj),.list (P.enums.map Qt)]:=rfl;obtain⟨x,hx⟩:∃x,sl[i]? = some x:=⟨sl[i],QL6 hi⟩;have hxm:=QMi hx;have hgi:=W6 hx;have co:=fun n=>R7 g hg.len n
 simp only[Ua]at co;have co1:=co x.1;have hle:(i≤sl.length)=True:=eq_true (by omega);have hlen:(sl.take i).length=i:=by rw[QM1];omega
 unfold Zh;rw[hx];dsimp only;simp only[Qj,PG.cells]at co co1;refine k91.fn (by simp) ?_;simp only[e0,Qj,PG.cells,Qm,QNt,Qd,hgi,QMC,QMM,eE,seval];refine Qb co1 rfl rfl rfl (.inl rfl) ?_;cases ho:XZ g x.1 with
 |none=>
  simp only[QNA,Option.isSome_none,HB,QA,PO.cells,splice,QNc,QMs,QMF,QNg,QM7,QMk,QM0,QNe,List.all_nil,AV.leaf,eE,seval]
 |some o=>
  obtain⟨hom,hon⟩:=J1 ho;have hcl:=fun(fr:Nat→Ob) (h11:fr 11=.cells o.cells)=>v92 (sl.take i) (by omega) (fun y=>y.1==o.num) 176 (.ptr 0 11 0) [fr] fun y _=>QIp y o fr h11
  rw[hon]at hcl;simp only[PO.cells]at hcl;simp only[QNd,QNN,QA,PO.cells,splice,QNc,QMs,QMF,QMM,QNg,QM7,QMk,QM0,QNe,List.all_nil,AV.leaf,ZC,Zi,Q5,QNA,QMZ,Qm,QNt,QMd,QL3,hle,true_or,QNl,←List.map_take,eE,seval];refine Qi (hcl _ (by rfl)) (by simp only[QMB,QM5,Qa,seval]<;>rfl) ?_;cases ha:(sl.take i).any (fun y=>y.1==x.1)
  ·simp only[QMo,ZC,Zi,Q5,QNA,QMZ,Qm,QNt,QMd,QL3,hle,true_or,QNl,←List.map_take,hlen,Qa,seval];refine Qf (SlI P lv g o sl i) _ ⟨_,_,0,rfl,rfl,QMd _,by simp,(by rfl),(by rfl),(by rfl),(by rfl),(by rfl),(by rfl),(by rfl),(by rfl),(by rfl),(by rfl),(by rfl),(by rfl),PC rfl rfl⟩ ?_;rintro _ st ⟨f0,fr0,j,rfl,rfl,hji,hq,h20,h30,h40,h50,h60,h110,h360,h370,h380,m50,m60,m110,CF⟩;refine QM (a:=_) [15,14] CF ?_;intro f fr hf hm hn15;have h2:f 2=.list (sl.map V.sav):=by rw[hf,h20]<;>rfl
   have h3:f 3=.int .i64 (i:Nat):=by rw[hf,h30]<;>rfl
   have h4:f 4=.int .i64 lv:=by rw[hf,h40]<;>rfl
   have h5:f 5=.ptr 0 5 0:=by rw[hf,h50]<;>rfl
   have h6:f 6=.ptr 0 6 0:=by rw[hf,h60]<;>rfl
   have h11:f 11=.ptr 0 11 0:=by rw[hf,h110]<;>rfl
   have h36:f 36=.list ((sl.take i).map V.sav):=by rw[hf,h360]<;>rfl
   have h37:f 37=.int .i64 (i:Nat):=by rw[hf,h370]<;>rfl
   have h38:f 38=.int .i64 (j:Nat):=by rw[hf,h380]<;>rfl
   have m5:fr 5=.cells [.list (P.progs.map Qj),.list (P.enums.map Qt)]:=by rw[hm 5 (by decide),m50]<;>rfl
   have m6:fr 6=.cells g.cells:=by rw[hm 6 (by decide),m60]<;>rfl
   have m11:fr 11=.cells o.cells:=by rw[hm 11 (by decide),m110]<;>rfl
   have n15:=hn15 15 (by decide);have n14:=hn15 14 (by decide);clear hf hm hn15 h20 h30 h40 h50 h60 h110 h360 h370 h380 m50 m60 m110 CF;have m6':=m6;have m11':=m11;simp only[PG.cells]at m6;simp only[PO.cells]at m11;simp only[h37,h38,Qa,seval];by_cases hlt:j<i
   ·obtain⟨y,hj⟩:∃y,sl[j]? = some y:=⟨sl[j]'(by omega),QL6 (by omega)⟩;have hj':(sl.take i)[j]? = some y:=by rw[QMI,QMy hlt];exact hj
    have hgj:=W6 hj';have e1:=Qq j i hlt (by omega);have co2:=co y.1;have ht:(sl.take (j+1)).any (JZ g o)=JZ g o y:=by
     rw[QNK,hj,List.any_append,hq];simp
    have hun:JZ g o y=(o.union != -1&&(((XZ g y.1).getD HB).union==o.union)):=rfl;simp only[Qo hlt,Qm,QNt,Qd,hgj,n14,h6,h36,h38,m6,eE,seval];refine Qb co2 rfl rfl rfl (.inl rfl) ?_;generalize (XZ g y.1).getD HB=q at hun;generalize (XZ g y.1).isSome=qb;have fin:∀(f':Fr) (fr':Nat→Ob),JZ g o y=false→f' 2=.list (sl.map V.sav)→f' 3=.int .i64 (i:Nat)→f' 4=.int .i64 lv→f' 5=.ptr 0 5 0→f' 6=.ptr 0 6 0→f' 11=.ptr 0 11 0→f' 36=.list ((sl.take i).map V.sav)→f' 37=.int .i64 (i:Nat)→f' 38=.int .i64 ((j+1:Nat):Int)→fr' 5=.cells [.list (P.progs.map Qj),.list (P.enums.map Qt)]→fr' 6=.cells g.cells→fr' 11=.cells o.cells→(∀s∈[15,14],(fr' s).isRow=false)→∃k,k<i-j∧SlI P lv g o sl i k ⟨f',[fr'],[]⟩:=by
     intro f' fr' hu b2 b3 b4 b5 b6 b11 b36 b37 b38 c5 c6 c11 c15;exact⟨i-(j+1),by omega,f',fr',j+1,rfl,rfl,by omega,by rw[ht,hu],b2,b3,b4,b5,b6,b11,b36,b37,b38,c5,c6,c11,c15⟩
    cases a1:(o.union != -1)
    ·rw[a1,QNw]at hun;simp only[QA,PO.cells,a1,n15,h11,h38,m11,e1,eE,seval];exact fin _ _ hun (by exact h2) (by exact h3) (by exact h4) (by exact h5) (by exact h6) (by exact h11) (by exact h36) (by exact h37) (by rfl) (by exact m5) (by exact m6') (by exact m11') (PC rfl rfl)
    ·cases a2:(q.union==o.union)
     ·rw[a1,a2,QND]at hun;simp only[QA,PO.cells,a1,a2,n15,h11,h38,m11,e1,eE,seval];exact fin _ _ hun (by exact h2) (by exact h3) (by exact h4) (by exact h5) (by exact h6) (by exact h11) (by exact h36) (by exact h37) (by rfl) (by exact m5) (by exact m6') (by exact m11') (PC rfl rfl)
     ·rw[a1,a2,QND]at hun;have hany:(sl.take i).any (JZ g o)=true:=List.any_eq_true.2 ⟨y,QMi hj',hun⟩;rw[hany];simp only[QA,PO.cells,a1,a2,n15,h11,m11,eE,seval]
   ·have e:j=i:=by omega
    subst e;have cf:=hfi o hom x.2 (hv x hxm);rw[e0,QL]at cf;simp only[QA,PO.cells]at cf;rw[hq];simp only[QE hlt,QMo,Qm,QNt,Qd,hgi,QMC,QMF,QMM,h2,h3,h4,h5,h11,m5,m11,eE,seval];refine Qb cf rfl rfl rfl (.inl rfl) ?_;simp only[Qa,seval]
  ·simp only[Qa,seval]

end

def HN (P:PL)(o:PO)(f:R):Bool:=o.kind==9&&o.card != 5&&f.wire==0&&decide ((f.bits:Int)≤2147483647) && !Wy P.enums o.target f.bits
theorem PD (P:PL)(g:PG)(f:R):(!Dq P g f)=((XZ g f.num).isSome && !HN P ((XZ g f.num).getD HB) f):=by
 unfold Dq HN;cases XZ g f.num<;>rfl
def Qsy (f:R):Bool:=decide (f.num<1)||decide (f.num > 65535)||decide (f.wire<0)||decide (f.wire > 6)
def Qsz (f:R):Bool:=decide (f.wire≤2) && !(f.data==[])||decide (f.wire > 2) && !((f.bits:Int)==0)
def QsA (f:R):Bool:=f.wire==3&&decide ((f.data.length:Int) > 4096)||decide ((f.data.length:Int) > 65536)
theorem Iv (P:PL)(g:PG)(f:R):JH P g f=if Qsy f=true then 1 else if Qsz f=true then 1 else if (!Dq P g f)=true then 1 else if QsA f=true then 3 else 0:=rfl
section
variable {M:Nat}{P:PL}(hP:P.ok M)

include hP in
theorem PF (o:PO)(w:R)(n7 n9:Bool)(f:Fr)(fr:Nat→Ob)(h3:f 3=.ptr 0 3 0)(h5:f 5=.ptr 0 5 0)(h7:f 7=.bool n7)(h8:f 8=.ptr 0 8 0)(h9:f 9=.bool n9)
  (m3:fr 3=.cells [.list (P.progs.map Qj),.list (P.enums.map Qt)]) (m5:fr 5=.cells [.int .i64 w.num,.int .i64 w.wire,.int .u64 (w.bits:Nat),.str w.data]) (m8:fr 8=.cells o.cells) (Q:St→Prop)
  (hQ:∀f,f 5=.ptr 0 5 0→f 7=.bool n7→f 9=.bool n9→f 10=.bool (HN P o w)→Q ⟨f,[fr],[]⟩):QD Tryz.prog WT ⟨f,[fr],[]⟩ Q:=by
 have e0:P.av=.agg [.list (P.progs.map Qj),.list (P.enums.map Qt)]:=rfl;have ha:=Qsi P hP o.target w.bits;rw[e0]at ha;simp only[PO.cells]at m8;unfold HN at hQ;cases a1:(o.kind==9)
 ·rw[a1]at hQ;simp only[QNw]at hQ;simp only[WT,a1,h8,m8,eE,seval];exact hQ _ (by exact h5) (by exact h7) (by exact h9) (by rfl)
 cases a2:(o.card != 5)
 ·rw[a1,a2]at hQ;simp only[QND,QNw]at hQ;simp only[WT,a1,a2,h8,m8,eE,seval];exact hQ _ (by exact h5) (by exact h7) (by exact h9) (by rfl)
 cases a3:(w.wire==0)
 ·rw[a1,a2,a3]at hQ;simp only[QND,QNw]at hQ;simp only[WT,a1,a2,a3,h5,h8,m5,m8,eE,seval];exact hQ _ (by exact h5) (by exact h7) (by exact h9) (by rfl)
 cases a4:decide ((w.bits:Int)≤2147483647)
 ·rw[a1,a2,a3,a4]at hQ;simp only[QND,QNw]at hQ;simp only[WT,a1,a2,a3,a4,h5,h8,m5,m8,eE,seval];exact hQ _ (by exact h5) (by exact h7) (by exact h9) (by rfl)
 rw[a1,a2,a3,a4]at hQ;simp only[QND]at hQ;simp only[WT,a1,a2,a3,a4,h3,h5,h8,m3,m5,m8,eE,seval];refine Qb ha rfl rfl rfl (.inl rfl) ?_;simp only[Qa,seval];exact hQ _ (by exact h5) (by exact h7) (by exact h9) (by rfl)

include hP in
theorem v94 (g:PG)(hg:g.ok M)(w:R):Qp Tryz.prog 94 [P.av,Qj g,w.av] (.int .i64 (JH P g w)):=by
 have e0:P.av=.agg [.list (P.progs.map Qj),.list (P.enums.map Qt)]:=rfl;have co:=R7 g hg.len w.num;rw[Ua]at co;simp only[Qj,PG.cells]at co;have nd:(w.data != [])=!(w.data==[]):=rfl;have nb:((w.bits:Int) != 0)=!((w.bits:Int)==0):=rfl;have hgt:decide (w.wire > 2)=!decide (w.wire≤2):=(by rw[QMY];simp only[QMa,QM2,QNR];omega);rw[Iv,PD];unfold Qsy Qsz QsA;rw[hgt];refine k94.fn (by simp) ?_;simp only[r94,R1,R2,R3,o94,e0,Qj,PG.cells,R.av,eE,seval];refine Qb co rfl rfl rfl (.inl rfl) ?_;generalize (XZ g w.num).getD HB=q;generalize (XZ g w.num).isSome=kb;simp only[QA,PO.cells,splice,QNc,QMs,QMF,QNg,QM7,QMk,QM0,QNe,List.all_nil,AV.leaf,eE,seval];refine PF hP q w (decide (w.wire≤2)) kb _ _ (by rfl) (by rfl) (by rfl) (by rfl) (by rfl) (by rfl) (by rfl) (by rfl) _ (fun f h5 h7 h9 h10=>?_);generalize HN P q w=K at h10 ⊢;simp only[R4,h5,eE,seval];cases r1:decide (w.num<1)
 case true=>simp only[Hw,QNG,Qa,seval]
 cases r2:decide (w.num > 65535)
 case true=>simp only[r2,Hw,QNG,QNH,h5,eE,seval]
 cases r3:decide (w.wire<0)
 case true=>simp only[r2,r3,Hw,QNG,QNH,h5,eE,seval]
 cases r4:decide (w.wire > 6)
 case true=>simp only[r2,r3,r4,Hw,QNH,h5,eE,seval]
 simp only[r2,r3,r4,QNH,QMo,R5,h5,h7,eE,seval];cases s1:decide (w.wire≤2)
 ·rw[s1]at h7;cases s2:((w.bits:Int)==0)
  ·simp only[s2,nb,Hx,QNb,QNw,QNH,h5,h7,eE,seval]
  ·cases kb<;>cases K<;>simp only[s2,nb,Hx,NZ,QNb,QNE,QNw,QNS,QNH,QMo,h5,h7,h9,h10,eE,seval]
   all_goals(cases t1:(w.wire==3)<;>try simp only[QNw,QND,QNH,h5,eE,seval])
   all_goals(cases t2:decide ((w.data.length:Int) > 4096)<;>try simp only[N0,QNH,QNG,h5,eE,seval])
   all_goals(cases t3:decide ((w.data.length:Int) > 65536)<;>try simp only[Fg,QMo,Qa,seval])
 ·rw[s1]at h7;cases s2:(w.data==[])
  ·simp only[s2,QN,Hx,QNb,QNE,QNw,QNG,h5,eE,seval]
  ·cases kb<;>cases K<;>simp only[s2,QN,Hx,NZ,QNb,QNE,QNw,QNS,QNH,QMo,h5,h7,h9,h10,eE,seval]
   all_goals(cases t1:(w.wire==3)<;>try simp only[QNw,QND,QNH,h5,eE,seval])
   all_goals(cases t2:decide ((w.data.length:Int) > 4096)<;>try simp only[N0,QNH,QNG,h5,eE,seval])
   all_goals(cases t3:decide ((w.data.length:Int) > 65536)<;>try simp only[Fg,QMo,Qa,seval])

theorem v93 (y:Int×V)(o:PO)(frO:Nat→Ob)(hf:frO 12=.cells o.cells) :
  Qh Tryz.prog 93 [V.sav y,.ptr 2 12 0] [Qc,Qc,frO] fun v m1=>v=.bool (y.1==o.num)∧m1=[Qc,Qc,frO]:=by
 simp only[PO.cells]at hf;rw[ZK];refine k93.go (by simp) ?_;simp only[hf,eE,seval]

end

def YJ (sl:List (Int×V))(o:PO):Bool:=o.card==1 && !sl.any fun y=>y.1==o.num
theorem Nf (g:PG)(sl:List (Int×V)):WZ g sl=g.ops.any (YJ sl):=rfl

theorem QIq {l:List R}{i:Nat}{x:R}(h:l[i]? = some x):(l.map R.av)[i]? = some (.agg [.int .i64 x.num,.int .i64 x.wire,.int .u64 (x.bits:Nat),.str x.data]):=by
 rw[QNp,h,QMU,R.av]
theorem QIr {l:List PO}{i:Nat}{o:PO}(h:l[i]? = some o):(l.map fun o=>AV.agg o.cells)[i]? = some (.agg [.int .i64 o.num,.str o.name,.str o.alias,.int .i64 o.card,.int .i64 o.key,.int .i64 o.kind,.int .i64 o.target,.int .i64 o.union]):=by
 rw[QNp,h,QMU,PO.cells]

section
variable {M:Nat}{P:PL}(hP:P.ok M){m:PG→V→Int}{lv:Int}(g:PG)(hg:g.ok M)(v:V)(hv:v.ok M)

def MrI (P:PL)(g:PG)(v:V)(k:Nat)(st:St):Prop :=
 ∃f fr i,st=⟨f,[fr],[]⟩∧k=v.raws.length-i∧XE (JI P g v.raws) v.raws.length 0=XE (JI P g v.raws) (v.raws.length-i) i∧f 4=.ptr 0 4 0∧f 5=.ptr 0 5 0∧f 63=.list (v.raws.map R.av)∧f 64=.int .i64 (v.raws.length:Nat)∧f 65=.int .i64 (i:Nat)∧fr 4=.cells [.list (P.progs.map Qj),.list (P.enums.map Qt)]∧fr 5=.cells g.cells∧∀s∈[14],(fr s).isRow=false

include hP hg hv in
theorem Mp (f:Fr)(fr:Nat→Ob)(h4:f 4=.ptr 0 4 0)(h5:f 5=.ptr 0 5 0)(h63:f 63=.list (v.raws.map R.av))(h64:f 64=.int .i64 (v.raws.length:Nat))(h65:f 65=.int .i64 0)
  (m4:fr 4=.cells [.list (P.progs.map Qj),.list (P.enums.map Qt)]) (m5:fr 5=.cells g.cells) (K8:∀s∈[14],(fr s).isRow=false) (Q:Exit→St→Prop)
  (q1:XE (JI P g v.raws) v.raws.length 0≠0→∀f fr,f 8=.int .i64 (XE (JI P g v.raws) v.raws.length 0)→Q .ret (⟨f,[fr],[]⟩:St))
  (q2:XE (JI P g v.raws) v.raws.length 0=0→∀f fr,Q (.exit 5) (⟨f,[fr],[]⟩:St)):QJ Tryz.prog (.loop Rk) ⟨f,[fr],[]⟩ Q:=by
 have e0:P.av=.agg [.list (P.progs.map Qj),.list (P.enums.map Qt)]:=rfl;refine Qf (MrI P g v) _ ⟨f,fr,0,rfl,rfl,rfl,h4,h5,h63,h64,h65,m4,m5,K8⟩ ?_;clear h4 h5 h63 h64 h65 m4 m5 K8;rintro _ st ⟨f0,fr0,i,rfl,rfl,hx,h40,h50,h630,h640,h650,m40,m50,K8⟩;refine QM (a:=_) [14] K8 ?_;intro f fr hf hm hn;have h4:f 4=.ptr 0 4 0:=by rw[hf,h40]<;>rfl
 have h5:f 5=.ptr 0 5 0:=by rw[hf,h50]<;>rfl
 have h63:f 63=.list (v.raws.map R.av):=by rw[hf,h630]<;>rfl
 have h64:f 64=.int .i64 (v.raws.length:Nat):=by rw[hf,h640]<;>rfl
 have h65:f 65=.int .i64 (i:Nat):=by rw[hf,h650]<;>rfl
 have m4:fr 4=.cells [.list (P.progs.map Qj),.list (P.enums.map Qt)]:=by rw[hm 4 (by decide),m40]<;>rfl
 have m5:fr 5=.cells g.cells:=by rw[hm 5 (by decide),m50]<;>rfl
 have n14:=hn 14 (by decide);clear hf hm hn h40 h50 h630 h640 h650 m40 m50 K8;have m5':=m5;simp only[PG.cells]at m5;simp only[h64,h65,Qa,seval];by_cases hlt:i<v.raws.length
 ·obtain⟨x,hi⟩:∃x,v.raws[i]? = some x:=⟨v.raws[i],QL6 hlt⟩;have hgi:=QIq hi;have e1:=Qq i _ hlt (by have:=hv.nr;simp only[maxLen];omega);have c1:=v94 hP g hg x;rw[e0]at c1;simp only[Qj,PG.cells,R.av]at c1;simp only[Qo hlt,Qm,QNt,Qd,hgi,n14,h4,h5,h63,h65,m4,m5,eE,seval];refine Qb c1 rfl rfl rfl (.inl rfl) ?_;by_cases hy:JH P g x=0
  ·rw[HJ hlt ((W2 hi).trans hy)]at hx;have d0:((0:Int) != 0)=false:=rfl;simp only[hy,d0,h65,e1,Qa,seval];exact⟨v.raws.length-(i+1),by omega,_,_,i+1,rfl,rfl,hx,(by exact h4),(by exact h5),(by exact h63),(by exact h64),(by rfl),(by exact m4),(by exact m5'),by simp<;>rfl⟩
  ·rw[Wz hlt (W2 hi) hy]at hx;have d1:(JH P g x != 0)=true:=by simp[hy]
   simp only[d1,Qa,seval];exact q1 (by rw[hx];exact hy) _ _ (by rw[hx];exact(by rfl))
 ·rw[Y4 hlt]at hx;simp only[QE hlt,Qa,seval];exact q2 hx _ _

def MoI (P:PL)(g:PG)(v:V)(k:Nat)(st:St):Prop :=
 ∃f fr i,st=⟨f,[fr],[]⟩∧k=g.ops.length-i∧i≤g.ops.length∧(g.ops.take i).any (YJ v.slots)=false∧f 4=.ptr 0 4 0∧f 5=.ptr 0 5 0∧f 6=.ptr 0 6 0∧f 45=.list (g.ops.map fun o=>.agg o.cells)∧f 46=.int .i64 (g.ops.length:Nat)∧f 47=.int .i64 (i:Nat)∧fr 4=.cells [.list (P.progs.map Qj),.list (P.enums.map Qt)]∧fr 5=.cells g.cells∧fr 6=.cells (vc v)∧∀s∈[12],(fr s).isRow=false

include hg hv in
theorem PH (f:Fr)(fr:Nat→Ob)(h4:f 4=.ptr 0 4 0)(h5:f 5=.ptr 0 5 0)(h6:f 6=.ptr 0 6 0)(h45:f 45=.list (g.ops.map fun o=>.agg o.cells))(h46:f 46=.int .i64 (g.ops.length:Nat))(h47:f 47=.int .i64 0)
  (m4:fr 4=.cells [.list (P.progs.map Qj),.list (P.enums.map Qt)]) (m5:fr 5=.cells g.cells) (m6:fr 6=.cells (vc v)) (K7:∀s∈[12],(fr s).isRow=false) (Q:Exit→St→Prop)
  (q1:WZ g v.slots=true→∀f fr,f 8=.int .i64 14→Q .ret (⟨f,[fr],[]⟩:St))
  (q2:WZ g v.slots=false→∀f fr,f 4=.ptr 0 4 0→f 5=.ptr 0 5 0→f 6=.ptr 0 6 0→fr 4=.cells [.list (P.progs.map Qj),.list (P.enums.map Qt)]→fr 5=.cells g.cells→fr 6=.cells (vc v)→fr 14=.none→Q (.exit 3) (⟨f,[fr],[]⟩:St))
  (K8:fr 14=.none):QJ Tryz.prog (.loop Rj) ⟨f,[fr],[]⟩ Q:=by
 let I:Nat→St→Prop:=fun k st=>MoI P g v k st∧∀f fr,st=⟨f,[fr],[]⟩→fr 14=.none
 have mk:∀k st,MoI P g v k st→∀f fr,st=⟨f,[fr],[]⟩→fr 14=.none→I k st:=fun k st h f fr e n=>⟨h,fun f' fr' e'=>by
  rw[e]at e'
  injection e' with _ e2 _
  injection e2 with e3 _
  rw[←e3];exact n⟩
 refine Qf I _ (mk _ _ ⟨f,fr,0,rfl,rfl,QMd _,by simp,h4,h5,h6,h45,h46,h47,m4,m5,m6,K7⟩ _ _ rfl K8) ?_;clear h4 h5 h6 h45 h46 h47 m4 m5 m6 K7 K8;rintro _ st ⟨⟨f0,fr0,i,rfl,rfl,hil,hq,h40,h50,h60,h450,h460,h470,m40,m50,m60,K7⟩,K8⟩;have K8:=K8 _ _ rfl;refine QM (a:=_) [12] K7 ?_;intro f fr hf hm hn;have h4:f 4=.ptr 0 4 0:=by rw[hf,h40]<;>rfl
 have h5:f 5=.ptr 0 5 0:=by rw[hf,h50]<;>rfl
 have h6:f 6=.ptr 0 6 0:=by rw[hf,h60]<;>rfl
 have h45:f 45=.list (g.ops.map fun o=>.agg o.cells):=by rw[hf,h450]<;>rfl
 have h46:f 46=.int .i64 (g.ops.length:Nat):=by rw[hf,h460]<;>rfl
 have h47:f 47=.int .i64 (i:Nat):=by rw[hf,h470]<;>rfl
 have m4:fr 4=.cells [.list (P.progs.map Qj),.list (P.enums.map Qt)]:=by rw[hm 4 (by decide),m40]<;>rfl
 have m5:fr 5=.cells g.cells:=by rw[hm 5 (by decide),m50]<;>rfl
 have m6:fr 6=.cells (vc v):=by rw[hm 6 (by decide),m60]<;>rfl
 have n14:fr 14=.none:=by rw[hm 14 (by decide),K8]<;>rfl
 have n12:=hn 12 (by decide);clear hf hm hn h40 h50 h60 h450 h460 h470 m40 m50 m60 K7 K8;have m6':=m6;simp only[vc]at m6;simp only[h46,h47,Qa,seval];by_cases hlt:i<g.ops.length
 ·obtain⟨o,hi⟩:∃o,g.ops[i]? = some o:=⟨g.ops[i],QL6 hlt⟩;have hgi:=QIr hi;have e1:=Qq i _ hlt hg.len;have ht:(g.ops.take (i+1)).any (YJ v.slots)=YJ v.slots o:=by
   rw[QNK,hi,List.any_append,hq];simp
  have hmi:YJ v.slots o=(o.card==1 && !v.slots.any fun y=>y.1==o.num):=rfl;have fin:∀(f':Fr) (fr':Nat→Ob),YJ v.slots o=false→f' 4=.ptr 0 4 0→f' 5=.ptr 0 5 0→f' 6=.ptr 0 6 0→f' 45=.list (g.ops.map fun o=>.agg o.cells)→f' 46=.int .i64 (g.ops.length:Nat)→f' 47=.int .i64 ((i+1:Nat):Int)→fr' 4=.cells [.list (P.progs.map Qj),.list (P.enums.map Qt)]→fr' 5=.cells g.cells→fr' 6=.cells (vc v)→(∀s∈[12],(fr' s).isRow=false)→fr' 14=.none→∃k,k<g.ops.length-i∧I k ⟨f',[fr'],[]⟩:=by
   intro f' fr' hu b4 b5 b6 b45 b46 b47 c4 c5 c6 c12 c14;exact⟨g.ops.length-(i+1),by omega,mk _ _ ⟨f',fr',i+1,rfl,rfl,by omega,by rw[ht,hu],b4,b5,b6,b45,b46,b47,c4,c5,c6,c12⟩ _ _ rfl c14⟩
  simp only[Qo hlt,Qm,QNt,Qd,hgi,n12,h45,h47,eE,seval];cases a1:(o.card==1)
  ·rw[a1,QNw]at hmi;simp only[h47,e1,Qa,seval];exact fin _ _ hmi (by exact h4) (by exact h5) (by exact h6) (by exact h45) (by exact h46) (by rfl) (by exact m4) (by exact m5) (by exact m6') (by simp<;>rfl) (by exact n14)
  ·rw[a1,QND]at hmi;have hcl:=fun(fr:Nat→Ob) (h12:fr 12=.cells o.cells)=>v92 v.slots (by have:=hv.ns;simp only[maxLen];omega) (fun y=>y.1==o.num) 93 (.ptr 0 12 0) [fr] fun y _=>v93 y o fr h12
   simp only[PO.cells]at hcl;simp only[h6,m6,eE,seval];refine Qi (hcl _ (by rfl)) (by simp only[QMB,QM5,Qa,seval]<;>rfl) ?_;cases a2:v.slots.any (fun y=>y.1==o.num)
   ·rw[a2]at hmi;have hany:WZ g v.slots=true:=List.any_eq_true.2 ⟨o,QMi hi,by show YJ v.slots o=true;rw[hmi];rfl⟩;simp only[Qa,seval];exact q1 hany _ _ (by rfl)
   ·rw[a2]at hmi;simp only[h47,e1,Qa,seval];exact fin _ _ hmi (by exact h4) (by exact h5) (by exact h6) (by exact h45) (by exact h46) (by rfl) (by exact m4) (by exact m5) (by exact m6') (by simp<;>rfl) (by exact n14)
 ·have hq':WZ g v.slots=false:=by rw[Nf,←hq,QMD (by omega)]
  simp only[QE hlt,Qa,seval];exact q2 hq' _ _ (by exact h4) (by exact h5) (by exact h6) (by exact m4) (by exact m5) (by exact m6') (by exact n14)

def MsI (m:PG→V→Int)(P:PL)(lv:Int)(g:PG)(v:V)(k:Nat)(st:St):Prop :=
 ∃f fr i,st=⟨f,[fr],[]⟩∧k=v.slots.length-i∧XE (Zh m P g v.slots) v.slots.length 0=XE (Zh m P g v.slots) (v.slots.length-i) i∧f 3=.int .i64 lv∧f 4=.ptr 0 4 0∧f 5=.ptr 0 5 0∧f 6=.ptr 0 6 0∧f 29=.int .i64 (v.slots.length:Nat)∧f 30=.int .i64 (i:Nat)∧fr 4=.cells [.list (P.progs.map Qj),.list (P.enums.map Qt)]∧fr 5=.cells g.cells∧fr 6=.cells (vc v)∧fr 12=.none∧fr 14=.none

include hv in
theorem Vm (hsl:∀i,i<v.slots.length→Qp Tryz.prog 91 [P.av,Qj g,.list (v.slots.map V.sav),.int .i64 (i:Nat),.int .i64 lv] (.int .i64 (Zh m P g v.slots i)))
  (f:Fr) (fr:Nat→Ob) (h3:f 3=.int .i64 lv) (h4:f 4=.ptr 0 4 0) (h5:f 5=.ptr 0 5 0) (h6:f 6=.ptr 0 6 0) (h29:f 29=.int .i64 (v.slots.length:Nat)) (h30:f 30=.int .i64 0)
  (m4:fr 4=.cells [.list (P.progs.map Qj),.list (P.enums.map Qt)]) (m5:fr 5=.cells g.cells) (m6:fr 6=.cells (vc v)) (n12:fr 12=.none) (n14:fr 14=.none) (Q:Exit→St→Prop)
  (q1:XE (Zh m P g v.slots) v.slots.length 0≠0→∀f fr,f 8=.int .i64 (XE (Zh m P g v.slots) v.slots.length 0)→Q .ret (⟨f,[fr],[]⟩:St))
  (q2:XE (Zh m P g v.slots) v.slots.length 0=0→∀f fr,f 4=.ptr 0 4 0→f 5=.ptr 0 5 0→f 6=.ptr 0 6 0→fr 4=.cells [.list (P.progs.map Qj),.list (P.enums.map Qt)]→fr 5=.cells g.cells→fr 6=.cells (vc v)→fr 12=.none→fr 14=.none→Q (.exit 1) (⟨f,[fr],[]⟩:St)) :
  QJ Tryz.prog (.loop Ri) ⟨f,[fr],[]⟩ Q:=by
 have e0:P.av=.agg [.list (P.progs.map Qj),.list (P.enums.map Qt)]:=rfl;refine Qf (MsI m P lv g v) _ ⟨f,fr,0,rfl,rfl,rfl,h3,h4,h5,h6,h29,h30,m4,m5,m6,n12,n14⟩ ?_;clear h3 h4 h5 h6 h29 h30 m4 m5 m6 n12 n14;rintro _ st ⟨f,fr,i,rfl,rfl,hx,h3,h4,h5,h6,h29,h30,m4,m5,m6,n12,n14⟩;have m5':=m5;have m6':=m6;simp only[PG.cells]at m5;simp only[vc]at m6;simp only[h29,h30,Qa,seval];by_cases hlt:i<v.slots.length
 ·have e1:=Qq i _ hlt (by have:=hv.ns;simp only[maxLen];omega);have c1:=hsl i hlt;rw[e0]at c1;simp only[Qj,PG.cells]at c1;simp only[Qo hlt,h3,h4,h5,h6,h30,m4,m5,m6,eE,seval];refine Qb c1 rfl rfl rfl (.inl rfl) ?_;by_cases hy:Zh m P g v.slots i=0
  ·rw[HJ hlt hy]at hx;have d0:((0:Int) != 0)=false:=rfl;simp only[hy,d0,h30,e1,Qa,seval];exact⟨v.slots.length-(i+1),by omega,_,_,i+1,rfl,rfl,hx,(by exact h3),(by exact h4),(by exact h5),(by exact h6),(by exact h29),(by rfl),(by exact m4),(by exact m5'),(by exact m6'),n12,n14⟩
  ·rw[Wz hlt rfl hy]at hx;have d1:(Zh m P g v.slots i != 0)=true:=by simp[hy]
   simp only[d1,Qa,seval];exact q1 (by rw[hx];exact hy) _ _ (by rw[hx];exact(by rfl))
 ·rw[Y4 hlt]at hx;simp only[QE hlt,Qa,seval];exact q2 hx _ _ (by exact h4) (by exact h5) (by exact h6) (by exact m4) (by exact m5') (by exact m6') n12 n14

include hP in
theorem v55 (hU:HM P):∀n:Nat,n≤16→∀g∈P.progs,∀v:V,v.ok M→Qp Tryz.prog 55 [P.av,Qj g,v.av,.int .i64 (17-(n:Int))] (.int .i64 (XC P n g v)):=by
 have e0:P.av=.agg [.list (P.progs.map Qj),.list (P.enums.map Qt)]:=rfl;intro n
 induction n with
 |zero=>
  intro _ g _ v hv;have co:=Vl v hv;rw[QL]at co;rw[QL];have d0:decide ((17:Int)-((0:Nat):Int) > 16)=true:=rfl;refine LL.fn (by simp) ?_;simp only[e0,Qj,PG.cells,XC,eE,seval];cases a1:(v.kd != 10)
  ·simp only[QNH,eE,seval];refine Qb co rfl rfl rfl (.inl rfl) ?_;cases v.oth
   ·simp only[QMo,Qa,seval]
   ·simp only[Qa,seval]
  ·simp only[QNG,Qa,seval]
 |succ n ih=>
  intro hn16 g hgm v hv;have hg:=hP.progs g hgm;have hu:=hU g hgm;have hw:IntKind.i64.wrap (17-((n+1:Nat):Int)+1)=17-(n:Int):=by rw[QF];omega
  have hel:=fun(o:PO) (ho:o∈g.ops) (x:V) (hx:x.ok M)=>QIg hP hw (fun g hg v hv=>ih (by omega) g hg v hv) o (hu o ho) x hx
  have hfi:=fun(o:PO) (ho:o∈g.ops) (x:V) (hx:x.ok M)=>QIo hP o (hu o ho) x hx (hel o ho)
  have hsl:=fun(i:Nat) (hi:i<v.slots.length)=>v91 (P:=P) g hg v.slots (by have:=hv.ns;simp only[maxLen];omega) i hi hv.slots hfi
  have co:=Vl v hv;rw[QL]at co;rw[QL];have d0:decide ((17:Int)-((n+1:Nat):Int) > 16)=false:=QNM (by omega);refine LL.fn (by simp) ?_;simp only[e0,Qj,PG.cells,XC,eE,seval];cases a1:(v.kd != 10)
  ·simp only[QNH,eE,seval];refine Qb co rfl rfl rfl (.inl rfl) ?_;cases v.oth
   ·simp only[d0,QMo,QMZ,eE,seval];unfold W0;refine Vm (lv:=17-((n+1:Nat):Int)) g v hv hsl _ _ (by rfl) (by rfl) (by rfl) (by rfl) (by rfl) (by rfl) (by rfl) (by rfl) (by rfl) (by rfl) (by rfl) _ (fun hx f fr h8=>?_) (fun hx f fr h4 h5 h6 m4 m5 m6 n12 n14=>?_)
    ·rw[QMj hx];simp only[h8,Qa,seval]
    ·rw[QMy hx];have m5':=m5;simp only[PG.cells]at m5;simp only[h5,m5,QMZ,eE,seval];refine PH g hg v hv _ _ (by exact h4) (by exact h5) (by exact h6) (by rfl) (by rfl) (by rfl) (by exact m4) (by exact m5') (by exact m6) (by simp only[QNo,QN3,or_false,forall_eq,n12]<;>rfl) _ (fun hx f fr h8=>?_) (fun hx f fr h4 h5 h6 m4 m5 m6 n14=>?_) (by exact n14)
     ·rw[hx];simp only[h8,Qa,seval]
     ·rw[hx];have m6':=m6;simp only[vc]at m6;simp only[QMo,h6,m6,QMZ,eE,seval];refine Mp hP g hg v hv _ _ (by exact h4) (by exact h5) (by rfl) (by rfl) (by rfl) (by exact m4) (by exact m5) (by simp only[QNo,QN3,or_false,forall_eq,n14]<;>rfl) _ (fun hx f fr h8=>?_) (fun hx f fr=>?_)
      ·simp only[h8,Qa,seval]
      ·simp only[hx,Qa,seval]
   ·simp only[Qa,seval]
  ·simp only[QNG,Qa,seval]

end
open So

theorem WC {f:Nat→Int}:∀ {k i:Nat},(∀j,i≤j→j<i+k→f j=0)→XE f k i=0
 |0,_,_=>rfl
 |k+1,i,h=>by
  rw[XE,QMy (h i (QL3 _) (by omega))];exact WC fun j h1 h2=>h j (by omega) (by omega)

theorem Ju {α:Type}{l:List α}{p:α→Bool}{i:Nat}(hi:i≤l.length):(l.take i).any p=false↔∀j (h:j<i),p (l[j]'(by omega))=false:=by
 rw[List.any_eq_false]
 constructor
 ·intro h j hj;have:=h (l[j]'(by omega)) (QMi (i:=j) (by rw[QMI,QMy hj,QL6 (by omega)]))
  simpa using this
 ·intro h x hx;obtain⟨j,hj⟩:=QMg.1 hx;have hl:=(QL5.1 hj).1;rw[QM1]at hl;rw[QMI,QMy (by omega)]at hj;obtain⟨hj1,rfl⟩:=QL5.1 hj;have:=h j (by omega);simp[this]

section
variable {m:PG→V→Int}{P:PL}

def SOK (m:PG→V→Int)(P:PL)(g:PG)(sl:List (Int×V)):Prop :=
 (∀x∈sl,∃o,XZ g x.1=some o∧XB m P o x.2=0)∧sl.Pairwise (fun y x=>(y.1==x.1)=false)∧sl.Pairwise (fun y x=>∀o,XZ g x.1=some o→JZ g o y=false)

theorem Iw {g:PG}{sl:List (Int×V)}:XE (Zh m P g sl) sl.length 0=0↔SOK m P g sl:=by
 have key:∀i (hi:i<sl.length),Zh m P g sl i=0↔∃o,XZ g sl[i].1=some o∧(sl.take i).any (fun y=>y.1==sl[i].1)=false∧(sl.take i).any (JZ g o)=false∧XB m P o sl[i].2=0:=by
  intro i hi;unfold Zh;rw[QL6 hi];dsimp only;cases XZ g sl[i].1 with
  |none=>simp
  |some o=>
   simp only[QMu,exists_eq_left'];cases(sl.take i).any (fun y=>y.1==sl[i].1)<;>cases(sl.take i).any (JZ g o)<;>simp only[QMo,QNY,if_true,if_false,QMV,false_and,iff_false]<;>omega
 constructor
 ·intro h;have hz:∀i (hi:i<sl.length),_:=fun i hi=>(key i hi).1 (Z2 h i (QMd _) (by omega))
  refine⟨fun x hx=>?_,?_,?_⟩
  ·obtain⟨i,hi,rfl⟩:=QN4 hx;obtain⟨o,h1,_,_,h4⟩:=hz i hi;exact⟨o,h1,h4⟩
  ·rw[QN1];intro i j hi hj hij;obtain⟨o,_,h2,_,_⟩:=hz j hj;exact(Ju (by omega)).1 h2 i hij
  ·rw[QN1];intro i j hi hj hij o ho;obtain⟨o',h1,_,h3,_⟩:=hz j hj;rw[h1]at ho;cases ho;exact(Ju (by omega)).1 h3 i hij
 ·rintro⟨h1,h2,h3⟩;refine WC fun i _ hi=>?_
  rw[QML]at hi;obtain⟨o,ho,hf⟩:=h1 sl[i] (QMW hi);rw[QN1]at h2 h3;exact(key i hi).2 ⟨o,ho,(Ju (by omega)).2 fun j hj=>h2 j i (by omega) hi hj,(Ju (by omega)).2 fun j hj=>h3 j i (by omega) hi hj o ho,hf⟩

def EOK (m:PG→V→Int)(P:PL)(o:PO)(ps:List (V×V)):Prop :=
 (∀x∈ps,x.1.one P o.key (-1)=0∧QT m P o x.2=0)∧ps.Pairwise fun q p=>Ka q.1 p.1=false

theorem WD {o:PO}{ps:List (V×V)}:XE (Wp m P o ps) ps.length 0=0↔EOK m P o ps:=by
 have key:∀i (hi:i<ps.length),Wp m P o ps i=0↔(ps[i].1.one P o.key (-1)=0∧(ps.take i).any (fun q=>Ka q.1 ps[i].1)=false∧QT m P o ps[i].2=0):=by
  intro i hi;rw[Y5 (QL6 hi)];by_cases hz:ps[i].1.one P o.key (-1)=0
  ·rw[QMy hz];cases(ps.take i).any (fun q=>Ka q.1 ps[i].1)<;>simp[hz]
  ·rw[QMj hz];simp[hz]
 constructor
 ·intro h;have hz:∀i (hi:i<ps.length),_:=fun i hi=>(key i hi).1 (Z2 h i (QMd _) (by omega))
  refine⟨fun x hx=>?_,?_⟩
  ·obtain⟨i,hi,rfl⟩:=QN4 hx;exact⟨(hz i hi).1,(hz i hi).2.2⟩
  ·rw[QN1];intro i j hi hj hij;exact(Ju (by omega)).1 (hz j hj).2.1 i hij
 ·rintro⟨h1,h2⟩;refine WC fun i _ hi=>?_
  rw[QML]at hi;rw[QN1]at h2;exact(key i hi).2 ⟨(h1 _ (QMW hi)).1,(Ju (by omega)).2 fun j hj=>h2 j i (by omega) hi hj,(h1 _ (QMW hi)).2⟩

theorem WE {o:PO}{l:List V}:XE (UL m P o l) l.length 0=0↔∀x∈l,QT m P o x=0:=by
 constructor
 ·intro h x hx;obtain⟨i,hi,rfl⟩:=QN4 hx;have:=Z2 h i (QMd _) (by omega)
  rwa [Y6 (QL6 hi)]at this
 ·intro h;refine WC fun i _ hi=>?_
  rw[QML]at hi;rw[Y6 (QL6 hi)];exact h _ (QMW hi)
theorem Ix {g:PG}{l:List R}:XE (JI P g l) l.length 0=0↔∀x∈l,JH P g x=0:=by
 constructor
 ·intro h x hx;obtain⟨i,hi,rfl⟩:=QN4 hx;have:=Z2 h i (QMd _) (by omega)
  rwa [W2 (QL6 hi)]at this
 ·intro h;refine WC fun i _ hi=>?_
  rw[QML]at hi;rw[W2 (QL6 hi)];exact h _ (QMW hi)

theorem KT {g:PG}{v:V}:W0 m P g v=0↔SOK m P g v.slots∧WZ g v.slots=false∧∀x∈v.raws,JH P g x=0:=by
 unfold W0;rw[←Iw,←Ix];split
 ·rename_i h;cases WZ g v.slots<;>simp[h]
 ·rename_i h;simp[h]
end

theorem KF {P:PL}{n:Nat}{g:PG}{v:V}:XC P (n+1) g v=0↔(v.kd=10∧v.oth=false)∧SOK (XC P n) P g v.slots∧WZ g v.slots=false∧∀x∈v.raws,JH P g x=0:=by
 rw[←KT];unfold XC;by_cases h:v.kd=10
 ·cases ho:v.oth<;>simp[h]
 ·simp[h]

theorem FM {v:V}(h:v.kd≠6):v.nsc=v:=by
 cases v;unfold V.nsc Zp;rw[QMj fun g=>h g.1];rfl
theorem QzL {P:PL}{tg:Int}{t:List UInt8}{l p s r:List AV}(b b':Nat):YE P 6 tg 6 b t l p s r=YE P 6 tg 6 b' t l p s r:=by
 have k1:(ZN 6||(6:Int)==10||(6:Int)==11||(6:Int)==12)=false:=by decide
 have k2:((6:Int)==9)=false:=rfl;have t6:ZN 6=false:=rfl;have f6:∀b,UK 6 b=true:=fun b=>by
  unfold UK;rw[QMj (by decide),QMj (by decide),QMj (by decide),QMj (by decide)]
 have h1:oth 6 b t l p s r=oth 6 b' t l p s r:=by
  unfold oth;rw[k1,QNS,QNS]
 have h2:Xr 6 6 b t l p s r=Xr 6 6 b' t l p s r:=by
  unfold Xr;rw[f6,f6,QMj (by rw[t6];exact Bool.false_ne_true),QMj (by rw[t6];exact Bool.false_ne_true)]
 unfold YE;rw[h1,h2,k2,QNw,QNw]
theorem Ng {P:PL}{k tg:Int}{v:V}(h:v.one P k tg=0):v.nsc.one P k tg=0:=by
 by_cases hk:v.kd=6
 ·have e:=(YF h).1;rw[←h];unfold V.one;have e1:v.nsc.kd=6:=hk;rw[e1,hk,show k=6 by omega];exact QzL _ _
 ·rw[FM hk];exact h

theorem Zm {g:PG}(hd:g.ops.Pairwise fun a b=>a.num<b.num){o:PO}(ho:o∈g.ops):XZ g o.num=some o:=by
 unfold XZ
 revert hd ho
 generalize g.ops=ops;intro hd ho
 induction ops with
 |nil=>cases ho
 |cons x l ih=>
  obtain⟨h1,h2⟩:=QNz.1 hd;rw[List.find?_cons];rcases QNo.1 ho with rfl|ho
  ·simp
  ·have:=h1 o ho;rw[show(x.num==o.num)=false by simp;omega];exact ih h2 ho

section
variable {m:PG→V→Int}{nm:PG→V→V}{P:PL}

theorem UQ (h:∀g∈P.progs,∀v,m g v=0→m g (nm g v)=0){o:PO}(ho:UO P o){v:V}(hv:QT m P o v=0):QT m P o (JJ nm P o v)=0:=by
 unfold QT JJ at *;by_cases hk:o.kind=10
 ·rw[QMy hk]at hv;rw[QMy hk,QMy hk];obtain⟨t0,t1⟩:=ho.tgt hk;refine h _ ?_ _ hv;unfold Xb;rw[QL6 (by omega:o.target.toNat<P.progs.length)];exact QMW _
 ·rw[QMj hk]at hv;rw[QMj hk,QMj hk];exact Ng hv

theorem Mq {o:PO}(ho:o.card=5→ZJ o.key)(h5:o.card=5){ps:List (V×V)}(h:EOK m P o ps):∀p∈ps,p.1.nsc=p.1:=by
 intro p hp;have e:=(YF (h.1 p hp).1).1;refine FM ?_;have:=ho h5;unfold ZJ at this;omega

theorem PJ (h:∀g∈P.progs,∀v,m g v=0→m g (nm g v)=0){o:PO}(ho:UO P o){v:V}(hv:XB m P o v=0):XB m P o (Jk nm P o v)=0:=by
 unfold XB Jk at *;by_cases h5:o.card=5
 ·have n4:¬o.card=4:=by omega
  rw[QMy h5]at hv;rw[QMy h5,QMj n4,QMy h5];split at hv
  ·omega
  have hE:=WD.1 hv;have hk:=Mq ho.key h5 hE;rw[QMj (by simp[V.kd,V.oth,oth,V.bits,V.text,V.list,V.pairs,V.slots,V.raws,ZN])];refine WD.2 ?_;have hp:(Zl o.key v.pairs).Perm v.pairs:=Xf _;have hm:∀p∈Zl o.key v.pairs,p∈v.pairs:=fun p h=>hp.mem_iff.1 h
  refine⟨fun x hx=>?_,?_⟩
  ·obtain⟨p,hp,rfl⟩:=QNm.1 hx;have h1:=hE.1 p (hm p hp);exact⟨Ng h1.1,UQ h ho h1.2⟩
  ·show(List.map _ (Zl o.key v.pairs)).Pairwise _;rw[List.pairwise_map];have h2:(Zl o.key v.pairs).Pairwise fun q p=>Ka q.1 p.1=false:=(hp.pairwise_iff fun {a b} h=>by unfold Ka at *;rw[←h,Bool.beq_comm (a:=b.1.bits),Bool.beq_comm (a:=b.1.text)]).2 hE.2
   refine h2.imp_of_mem fun {a b} ha hb h=>?_
   dsimp only;rw[hk a (hm a ha),hk b (hm b hb)];exact h
 ·rw[QMj h5]at hv;rw[QMj h5];by_cases h4:o.card=4
  ·rw[QMy h4]at hv;rw[QMy h4,QMy h4];split at hv
   ·omega
   have hL:=WE.1 hv;rw[QMj (by simp[V.kd,V.oth,oth,V.bits,V.text,V.list,V.pairs,V.slots,V.raws,ZN])];refine WE.2 fun x hx=>?_
   obtain⟨y,hy,rfl⟩:=QNm.1 hx;exact UQ h ho (hL y hy)
  ·rw[QMj h4]at hv;rw[QMj h4,QMj h4,QMj h5];exact UQ h ho hv

theorem Zx {sl:List (Int×V)}{o:PO}{x:Int×V}(h:x∈XM nm P sl o):x.1=o.num∧∃s∈sl,s.1=o.num∧x.2=Jk nm P o s.2:=by
 unfold XM at h;cases hf:sl.find? (fun s=>s.1==o.num)with
 |none=>rw[hf]at h;cases h
 |some s=>
  rw[hf]at h;dsimp only at h;have h1:s.1=o.num:=by simpa using List.find?_some hf
  split at h
  ·simp only[QNo,QN3,or_false]at h;subst h;exact⟨rfl,s,QNP hf,h1,rfl⟩
  ·cases h

theorem UR {sl:List (Int×V)}{o:PO}{p:Int×V→Int×V→Prop}:(XM nm P sl o).Pairwise p:=by
 unfold XM;split
 ·exact .nil
 ·split
  ·exact List.pairwise_singleton _ _
  ·exact .nil

theorem Mr (h:∀g∈P.progs,∀v,m g v=0→m g (nm g v)=0){g:PG}(hd:g.ops.Pairwise fun a b=>a.num<b.num)(hu:∀o∈g.ops,UO P o){v:V}(hv:W0 m P g v=0):W0 m P g (UP nm P g v)=0:=by
 obtain⟨⟨s1,s2,s3⟩,hmis,hraw⟩:=KT.1 hv;have uniq:∀ {a b:Int×V},a∈v.slots→b∈v.slots→a.1=b.1→a=b:=by
  intro a b ha hb e;obtain⟨i,hi,rfl⟩:=QN4 ha;obtain⟨j,hj,rfl⟩:=QN4 hb;rw[QN1]at s2;rcases Nat.lt_trichotomy i j with c|c|c
  ·have:=s2 i j hi hj c;rw[e]at this;simp at this
  ·subst c;rfl
  ·have:=s2 j i hj hi c;rw[e]at this;simp at this
 refine KT.2 ⟨⟨fun x hx=>?_,?_,?_⟩,?_,fun x hx=>?_⟩
 ·obtain⟨o,ho,hx⟩:=QMQ.1 hx;obtain⟨e,s,hs,e1,e2⟩:=Zx hx;obtain⟨o',h1,h2⟩:=s1 s hs;rw[e1,Zm hd ho]at h1;cases h1;exact⟨o,by rw[e];exact Zm hd ho,by rw[e2];exact PJ h (hu o ho) h2⟩
 ·show(g.ops.flatMap (XM nm P v.slots)).Pairwise _;rw[List.pairwise_flatMap];refine⟨fun _ _=>UR,hd.imp fun {a b} hab x hx y hy=>?_⟩;have e1:=(Zx hx).1;have e2:=(Zx hy).1;simp;omega
 ·show(g.ops.flatMap (XM nm P v.slots)).Pairwise _;rw[List.pairwise_flatMap];refine⟨fun _ _=>UR,(hd.imp_of_mem fun {a b} ha hb hab x hx y hy o ho=>?_)⟩;obtain⟨e1,s,hs,es,_⟩:=Zx hx;obtain⟨e2,t,ht,et,_⟩:=Zx hy;rw[e2,Zm hd hb]at ho;cases ho;have hst:s≠t:=fun e=>by rw[e,et]at es;omega
  obtain⟨i,hi,rfl⟩:=QN4 hs;obtain⟨j,hj,rfl⟩:=QN4 ht;rw[QN1]at s3;have hx1:XZ g x.1=some a:=by rw[e1];exact Zm hd ha
  unfold JZ;rw[hx1];rcases Nat.lt_trichotomy i j with c|c|c
  ·have:=s3 i j hi hj c b (by rw[et];exact Zm hd hb);unfold JZ at this;rw[es,Zm hd ha]at this;exact this
  ·subst c;exact absurd rfl hst
  ·have:=s3 j i hj hi c a (by rw[es];exact Zm hd ha);unfold JZ at this;rw[et,Zm hd hb]at this;simp only[QNd,QNV,bne_eq_false_iff_eq,QNI]at this ⊢;rcases this with e|e
   ·by_cases c:b.union = -1
    ·exact .inl c
    ·exact .inr fun g=>c (by omega)
   ·exact .inr fun g=>e g.symm
 ·have hm:=hmis;rw[Nf,List.any_eq_false]at hm ⊢;intro o ho;have:=hm o ho;unfold YJ at this ⊢;by_cases hc:o.card=1
  ·have hb:(o.card==1)=true:=by simp[hc]
   rw[hb,QND,QNX,Bool.not_eq_false']at this;rw[hb,QND,QNX,Bool.not_eq_false'];obtain⟨s,hs,e⟩:=List.any_eq_true.1 this;obtain⟨t,ht⟩:∃t,v.slots.find? (fun s=>s.1==o.num)=some t:=by
    cases hf:v.slots.find? (fun s=>s.1==o.num)with
    |none=>exact absurd e (by simpa using List.find?_eq_none.1 hf s hs)
    |some t=>exact⟨t,rfl⟩
   refine List.any_eq_true.2 ⟨(o.num,Jk nm P o t.2),QMQ.2 ⟨o,ho,?_⟩,by simp⟩;unfold XM;rw[ht];dsimp only;rw[QMy (by simp[hc])];simp
  ·have hb:(o.card==1)=false:=by simp[hc]
   rw[hb,QNw];simp
 ·exact hraw x ((Xf v.raws).mem_iff.1 hx)

end

theorem W7 {P:PL}(hU:HM P)(hr:Wf P):∀(n:Nat) (g:PG),g∈P.progs→∀v:V,XC P n g v=0→XC P n g (Zu P n g v)=0
 |0,_,_,v,h=>by
  unfold XC at h;split at h<;>omega
 |n+1,g,hg,v,h=>by
  have hb:=KT.2 (KF.1 h).2;refine KF.2 ⟨⟨rfl,?_⟩,KT.1 (Mr (fun g hg v h=>W7 hU hr n g hg v h) (hr g hg) (hU g hg) hb)⟩;simp[V.oth,oth,Zu,UP,V.kd,V.bits,V.text,V.list,V.pairs,V.slots,V.raws,ZN]

section
variable {m:PG→V→Int}{nm:PG→V→V}{P:PL}

end

def Js (l:List (Int×V)):List (Int×V):=QC (fun x y=>decide (x.1<y.1)) l
theorem QIs:SW fun x y:Int×V=>decide (x.1<y.1) where
 irr x:=by simp
 tr x y z h k:=by simp only[QMa]at *;omega
 nt x y z h k:=by simp only[QNR]at *;omega

theorem Ms:∀ {a b:List (Int×V)},(a.Pairwise fun x y=>x.1<y.1)→(b.Pairwise fun x y=>x.1<y.1)→(∀x,x∈a↔x∈b)→a=b
 | [],[],_,_,_=>rfl
 | [],y :: b,_,_,h=>by have:=(h y).2 (by simp);cases this
 |x :: a,[],_,_,h=>by have:=(h x).1 (by simp);cases this
 |x :: a,y :: b,ha,hb,h=>by
  obtain⟨a1,a2⟩:=QNz.1 ha;obtain⟨b1,b2⟩:=QNz.1 hb;have e:x=y:=by
   rcases QNo.1 ((h x).1 (by simp))with e|e
   ·exact e
   ·rcases QNo.1 ((h y).2 (by simp))with e'|e'
    ·exact e'.symm
    ·have:=b1 x e;have:=a1 y e';omega
  subst e;congr 1
  refine Ms a2 b2 fun z=>?_
  have hz:=h z;simp only[QNo]at hz
  constructor
  ·intro hm;rcases hz.1 (.inr hm)with e|e
   ·subst e;have:=a1 z hm;omega
   ·exact e
  ·intro hm;rcases hz.2 (.inr hm)with e|e
   ·subst e;have:=b1 z hm;omega
   ·exact e

section
variable {m:PG→V→Int}(nm:PG→V→V)(P:PL)

def J5 (o:PO)(s:Int×V):List (Int×V):=if (decide (o.card<3) || !(Jk nm P o s.2).emp)=true then [(o.num,Jk nm P o s.2)]else []
def ZR (g:PG)(s:Int×V):List (Int×V):=match XZ g s.1 with
 |none=>[]
 |some o=>J5 nm P o s

theorem Mt {o:PO}{s x:Int×V}:x∈J5 nm P o s↔(decide (o.card<3) || !(Jk nm P o s.2).emp)=true∧x=(o.num,Jk nm P o s.2):=by
 unfold J5;split
 ·rename_i h;simp[h]
 ·rename_i h;simp[h]

theorem Mu {sl:List (Int×V)}(hu:sl.Pairwise fun y x=>(y.1==x.1)=false){s:Int×V}(hs:s∈sl):sl.find? (fun t=>t.1==s.1)=some s:=by
 induction sl with
 |nil=>cases hs
 |cons x l ih=>
  obtain⟨h1,h2⟩:=QNz.1 hu;rw[List.find?_cons];rcases QNo.1 hs with rfl|hs
  ·simp
  ·rw[h1 s hs];exact ih h2 hs

theorem HO {sl:List (Int×V)}{o:PO}:XM nm P sl o=match sl.find? (fun s=>s.1==o.num)with
  |none=>[]
  |some s=>J5 nm P o s:=rfl

theorem PK {g:PG}(hd:g.ops.Pairwise fun a b=>a.num<b.num){sl:List (Int×V)}(hu:sl.Pairwise fun y x=>(y.1==x.1)=false):(Js sl).flatMap (ZR nm P g)=g.ops.flatMap (XM nm P sl):=by
 have hp:(Js sl).Perm sl:=Xf _;have hsu:(Js sl).Pairwise fun y x=>(y.1==x.1)=false:=(hp.pairwise_iff fun {a b} h=>by rw[Bool.beq_comm];exact h).2 hu
 have hss:Zo (fun x y:Int×V=>decide (x.1<y.1)) (Js sl):=Z4 QIs _;have hst:(Js sl).Pairwise fun x y=>x.1<y.1:=by
  unfold Zo at hss;rw[QN1]at *;intro i j hi hj hij;have h1:=hss i j hi hj hij;have h2:=hsu i j hi hj hij;simp only[QNR,QNI]at h1 h2;omega
 have kpw:∀s,(ZR nm P g s).Pairwise fun x y:Int×V=>x.1<y.1:=fun s=>by
  unfold ZR;split
  ·exact .nil
  ·unfold J5;split
   ·exact List.pairwise_singleton _ _
   ·exact .nil
 have knum:∀ {s x:Int×V},x∈ZR nm P g s→x.1=s.1:=fun {s x} h=>by
  unfold ZR at h;cases ho:XZ g s.1 with
  |none=>rw[ho]at h;cases h
  |some o=>
   rw[ho]at h;rw[((Mt nm P).1 h).2];exact(J1 ho).2
 refine Ms ?_ ?_ fun x=>?_
 ·rw[List.pairwise_flatMap];refine⟨fun s _=>kpw s,hst.imp fun {a b} hab x hx y hy=>?_⟩;rw[knum hx,knum hy];exact hab
 ·rw[List.pairwise_flatMap];refine⟨fun _ _=>UR,hd.imp fun {a b} hab x hx y hy=>?_⟩;rw[(Zx hx).1,(Zx hy).1];exact hab
 ·rw[QMQ,QMQ]
  constructor
  ·rintro⟨s,hs,h⟩;unfold ZR at h;cases ho:XZ g s.1 with
   |none=>rw[ho]at h;cases h
   |some o=>
    rw[ho]at h;obtain⟨hom,hon⟩:=J1 ho;refine⟨o,hom,?_⟩;rw[HO,hon,Mu hu (hp.mem_iff.1 hs)];exact h
  ·rintro⟨o,ho,h⟩;rw[HO]at h;cases hf:sl.find? (fun s=>s.1==o.num)with
   |none=>rw[hf]at h;cases h
   |some s=>
    rw[hf]at h;have hs:s.1=o.num:=by simpa using List.find?_some hf
    refine⟨s,hp.mem_iff.2 (QNP hf),?_⟩;unfold ZR;rw[hs,Zm hd ho];exact h

end
end Go.Proofs.YtipjfckmopekaaaGreatDoor.Va

namespace Go.Proofs.YtipjfckmopekaaaGreatDoor.Va
open Go Am Rc Bt Br Up

theorem QsC (a b:Int):IntKind.i64.wrap (IntKind.i64.wrap a+IntKind.i64.wrap b)=IntKind.i64.wrap (a+b):=by
 simp only[QF];omega
section
variable {M:Nat}

end

def Jc (v:V):List V:=v.list++v.pairs.flatMap (fun p=>[p.1,p.2])++v.slots.map (·.2)

theorem US (a b:List V):Q9 (a++b)=Q9 a+Q9 b:=by
 induction a with
 |nil=>simp[Q9]
 |cons x a ih=>simp only[QMr,Q9,ih];omega
theorem Iy (v:V):v.cnt=1+v.raws.length+Q9 (Jc v):=by
 have h1:∀l:List (V×V),Q9 (l.flatMap fun p=>[p.1,p.2])=Xt l:=by
  intro l
  induction l with
  |nil=>rfl
  |cons x l ih=>
   obtain⟨a,b⟩:=x;simp only[QNv,US,ih,Xt,Q9,QMA]
 have h2:∀l:List (Int×V),Q9 (l.map (·.2))=Xa l:=by
  intro l
  induction l with
  |nil=>rfl
  |cons x l ih=>
   obtain⟨a,b⟩:=x;simp only[QMB,Q9,ih,Xa]
 rw[Xg,Jc,US,US,h1,h2];omega

theorem Mv {xs:List AV}(h:xs.all (fun e=>e.cells.length==7)=true)(hf:QK xs=[]):xs=[]:=by
 cases xs with
 |nil=>rfl
 |cons x xs=>
  have hl:x.cells.length=7:=by simpa using QMh.1 h x (by simp)
  have:x.cells=[]:=(List.append_eq_nil_iff.1 hf).1;rw[this]at hl;exact absurd hl.symm (by decide)

theorem QIt (xs:List AV)(fr:Nat→Ob)(m:Ql)(h:xs.all (fun e=>e.cells.length==7)=true)(hn:xs.length≤1099511627776)(hr:Qv (fr 1000)=true) :
  Qh Tryz.prog 180 [.list xs] (fr :: m) (fun x m1=>x=.vec 0 1000 (Xp (fr 1000)) 0 xs.length false∧m1=QI fr 1000 (.vec (Xp (fr 1000)) 7 xs) :: m):=by
 have hng:QB (fr :: m) 0 1000=Xp (fr 1000):=ZV;refine M2.go (by simp) ?_;simp only[NV,D8,D9,Qa,seval];refine ZA (ys:=xs) (by simp only[Qa,seval]) ?_ ?_
 ·simp only[Fb,Qa,seval];refine ZW rfl ?_;simp only[Qa,seval];refine QR (site:=5) (g:=1) (xs:=[]) (ys:=xs) rfl rfl rfl rfl rfl h (by simp[maxLen];omega) (by simp;omega) ?_;simp only[Qa,seval];refine XA (l:=0) (site:=5) (g:=2) (o:=0) (n:=xs.length) (q:=false) (sz:=7) (xs:=xs) (by simp only[QML,Qa,seval]) (by simp only[Qa,seval]) (by simp) (by decide) hr ?_;simp only[hng,Gr,eE,seval]
  try simp[AV.still,AV.un,Zf,Xz]
 ·intro he;have hx:xs=[]:=by
   rcases he with he|he
   ·exact he
   ·exact Mv h he
  subst hx;simp only[Fa,Qa,seval];refine X4 (by simp only[Qa,seval]) rfl ?_;simp only[Qa,seval];refine XA (l:=0) (site:=2) (g:=1) (o:=0) (n:=0) (q:=false) (sz:=7) (xs:=[]) (by simp only[Qa,seval]) (by simp only[Qa,seval]) (by simp) (by decide) hr ?_;simp only[hng,Gr,eE,seval]
  try simp[AV.still,AV.un,Zf,Xz]

theorem QZ {P:Program}{K:St→Prop}{Qe:List Am.Item}{f:Fr}{m:Ql}{ds:List DF}{d sz len:Nat}{z y l:List AV}{ps:List (Nat×Nat×RA)}(hy:fill f ps (XJ z sz len)=some y)(h1:AV.rfL y=true)(h2:y.all AV.leaf=true)(hc:XQ sz len (y.map nn0)=l)(h:QD P Qe ⟨QI f d (.list l),m,ds⟩ K) :
  QD P (⟨some d,.bsl sz len z ps,none⟩ :: Qe) ⟨f,m,ds⟩ K:=by
 subst hc;exact⟨y,hy,h1,h2,h⟩

def Ko (v:V)(i:Nat):List V:=v.list++(v.pairs.take i).flatMap fun p=>[p.1,p.2]
def KU (v:V)(i:Nat):List V:=Ko v v.pairs.length++(v.slots.take i).map (·.2)

theorem Ub (v:V)(i:Nat)(h:i≤v.pairs.length):(Ko v i).length=v.list.length+2*i:=by
 have:∀l:List (V×V),(l.flatMap fun p=>[p.1,p.2]).length=2*l.length:=by
  intro l
  induction l with
  |nil=>rfl
  |cons x l ih=>simp only[QNv,QMH,QMk,QM0,ih];omega
 rw[Ko,QMH,this,QM1];omega
theorem GI (v:V)(i:Nat)(h:i≤v.slots.length):(KU v i).length=v.list.length+2*v.pairs.length+i:=by
 rw[KU,QMH,Ub v _ (QL3 _),QMZ,QM1];omega
theorem PM {v:V}{i:Nat}{x:V×V}(h:v.pairs[i]? = some x):(Ko v (i+1)).map V.av=(Ko v i).map V.av++[x.1.av,x.2.av]:=by
 unfold Ko;rw[QNK,h];simp
theorem PP {v:V}{i:Nat}{x:Int×V}(h:v.slots[i]? = some x):(KU v (i+1)).map V.av=(KU v i).map V.av++[x.2.av]:=by
 unfold KU;rw[QNK,h];simp
theorem Nh (v:V):KU v v.slots.length=Jc v:=by
 unfold KU Ko Jc;rw[QNB,QNB]
theorem Vn (l:List V):(l.map V.av).all (fun e=>e.cells.length==7)=true:=by
 rw[List.all_map,QMh];intro x _;simp[QL,AV.cells]

def I1 (v:V)(k:Nat)(st:St):Prop :=
 ∃f fr i g,st=⟨f,[fr],[]⟩∧k=v.pairs.length-i∧i≤v.pairs.length∧f 1=.ptr 0 1 0∧f 3=.vec 0 1000 g 0 (Ko v i).length false∧f 12=.list (v.pairs.map V.pav)∧f 13=.int .i64 (v.pairs.length:Nat)∧f 14=.int .i64 (i:Nat)∧fr 1=.cells (vc v)∧fr 1000=.vec g 7 ((Ko v i).map V.av)∧fr 7=.none∧∀s∈[5],(fr s).isRow=false
def I2 (v:V)(k:Nat)(st:St):Prop :=
 ∃f fr i g,st=⟨f,[fr],[]⟩∧k=v.slots.length-i∧i≤v.slots.length∧f 3=.vec 0 1000 g 0 (KU v i).length false∧f 27=.list (v.slots.map V.sav)∧f 28=.int .i64 (v.slots.length:Nat)∧f 29=.int .i64 (i:Nat)∧fr 1000=.vec g 7 ((KU v i).map V.av)∧∀s∈[7],(fr s).isRow=false

theorem v95 (v:V)(h:v.list.length+2*v.pairs.length+v.slots.length≤1099511627776):Qp Tryz.prog 95 [v.av] (.list ((Jc v).map V.av)):=by
 have cl:=fun fr hr=>QIt (v.list.map V.av) fr [] (Vn _) (by rw[QMZ];omega) hr
 rw[QL];refine k95.fn (by simp) ?_;simp only[eE,seval];refine Qi (cl _ rfl) (by simp only[QMB,QM5,Qa,seval]) ?_;simp only[QMZ,eE,seval];have e0:(Ko v 0).map V.av=v.list.map V.av:=by unfold Ko;simp
 have l0:=Ub v 0 (QMd _);refine Qf (I1 v) _ ⟨_,_,0,_,rfl,rfl,QMd _,(by rfl),(by rw[l0];exact(by rfl)),(by rfl),(by rfl),(by rfl),(by rfl),(by rw[e0];exact(by rfl)),rfl,by simp<;>rfl⟩ ?_;rintro _ st ⟨f0,fr0,i,g,rfl,rfl,hil,h10,h30,h120,h130,h140,m10,mR0,n70,r5⟩;refine QM (a:=_) [5] r5 ?_;intro f fr hf hm hn;have h1:f 1=.ptr 0 1 0:=by rw[hf,h10]<;>rfl
 have h3:f 3=.vec 0 1000 g 0 (Ko v i).length false:=by rw[hf,h30]<;>rfl
 have h12:f 12=.list (v.pairs.map V.pav):=by rw[hf,h120]<;>rfl
 have h13:f 13=.int .i64 (v.pairs.length:Nat):=by rw[hf,h130]<;>rfl
 have h14:f 14=.int .i64 (i:Nat):=by rw[hf,h140]<;>rfl
 have m1:fr 1=.cells (vc v):=by rw[hm 1 (by decide),m10]<;>rfl
 have mR:fr 1000=.vec g 7 ((Ko v i).map V.av):=by rw[hm 1000 (by decide),mR0]<;>rfl
 have n7:fr 7=.none:=by rw[hm 7 (by decide),n70]<;>rfl
 have n5:=hn 5 (by decide);clear hf hm hn h10 h30 h120 h130 h140 m10 mR0 n70 r5 e0 l0;have m1':=m1;simp only[vc]at m1;simp only[h13,h14,Qa,seval];by_cases hlt:i<v.pairs.length
 ·obtain⟨x,hi⟩:∃x,v.pairs[i]? = some x:=⟨v.pairs[i],QL6 hlt⟩;have hg:=YI hi;have e1:=Qq i _ hlt (by simp only[maxLen];omega);have le:=Ub v i hil;have ln:=Ub v (i+1) hlt;simp only[Qo hlt,Qm,QNt,Qd,hg,n5,h3,h12,h14,eE,seval];refine QZ (l:=[x.1.av,x.2.av]) rfl rfl rfl (by rw[QL,QL];rfl) ?_;refine QR (site:=1000) (g:=g) (n:=(Ko v i).length) (xs:=(Ko v i).map V.av) (ys:=[x.1.av,x.2.av]) (by rfl) (by exact mR) rfl (by rw[QMZ]) rfl (Vn [x.1,x.2]) (by simp only[QMk,QM0,maxLen];omega) (by simp only[QMk,QM0];omega) ?_;simp only[h14,e1,Qa,seval];exact⟨v.pairs.length-(i+1),by omega,_,_,i+1,g+1,rfl,rfl,by omega,(by exact h1),(by rw[ln];simp only[le,Qa,seval];rfl),(by exact h12),(by exact h13),(by rfl),(by exact m1'),(by rw[PM hi];exact(by rfl)),(by exact n7),by simp<;>rfl⟩
 have e:i=v.pairs.length:=by omega
 subst e;simp only[QE hlt,h1,m1,QMZ,eE,seval];have e0:KU v 0=Ko v v.pairs.length:=by unfold KU;simp
 refine Qf (I2 v) _ ⟨_,_,0,g,rfl,rfl,QMd _,(by rw[e0];exact(by exact h3)),(by rfl),(by rfl),(by rfl),(by rw[e0];exact(by exact mR)),by simp only[QNo,QN3,or_false,forall_eq,n7]<;>rfl⟩ ?_;clear h1 h3 h12 h13 h14 m1 m1' mR n5 n7 hil hlt e0 g;rintro _ st ⟨f0,fr0,i,g,rfl,rfl,hil,h30,h270,h280,h290,mR0,r7⟩;refine QM (a:=_) [7] r7 ?_;intro f fr hf hm hn;have h3:f 3=.vec 0 1000 g 0 (KU v i).length false:=by rw[hf,h30]<;>rfl
 have h27:f 27=.list (v.slots.map V.sav):=by rw[hf,h270]<;>rfl
 have h28:f 28=.int .i64 (v.slots.length:Nat):=by rw[hf,h280]<;>rfl
 have h29:f 29=.int .i64 (i:Nat):=by rw[hf,h290]<;>rfl
 have mR:fr 1000=.vec g 7 ((KU v i).map V.av):=by rw[hm 1000 (by decide),mR0]<;>rfl
 have n7:=hn 7 (by decide);clear hf hm hn h30 h270 h280 h290 mR0 r7;simp only[h28,h29,Qa,seval];by_cases hlt:i<v.slots.length
 ·obtain⟨x,hi⟩:∃x,v.slots[i]? = some x:=⟨v.slots[i],QL6 hlt⟩;have hg:=W6 hi;have e1:=Qq i _ hlt (by simp only[maxLen];omega);have le:=GI v i hil;have ln:=GI v (i+1) hlt;simp only[Qo hlt,Qm,QNt,Qd,hg,n7,h3,h27,h29,eE,seval];refine QZ (l:=[x.2.av]) rfl rfl rfl (by rw[QL];rfl) ?_;refine QR (site:=1000) (g:=g) (n:=(KU v i).length) (xs:=(KU v i).map V.av) (ys:=[x.2.av]) (by rfl) (by exact mR) rfl (by rw[QMZ]) rfl (Vn [x.2]) (by simp only[QMk,QM0,maxLen];omega) (by simp only[QMk,QM0];omega) ?_;simp only[h29,e1,Qa,seval];exact⟨v.slots.length-(i+1),by omega,_,_,i+1,g+1,rfl,rfl,by omega,(by rw[ln];simp only[le,Qa,seval];rfl),(by exact h27),(by exact h28),(by rfl),(by rw[PP hi];exact(by rfl)),by simp<;>rfl⟩
 have e:i=v.slots.length:=by omega
 subst e;rw[Nh]at h3 mR;simp only[QE hlt,h3,eE,seval];simp[AV.un,Zf,Xz,mR];rw[QMD (by rw[QMZ];exact QL3 _)]

def VcI (v:V)(k:Nat)(st:St):Prop :=
 ∃f fr i,st=⟨f,[fr],[]⟩∧k=(Jc v).length-i∧i≤(Jc v).length∧f 3=.int .i64 (IntKind.i64.wrap ((1+v.raws.length+Q9 ((Jc v).take i):Nat):Int))∧f 11=.list ((Jc v).map V.av)∧f 12=.int .i64 ((Jc v).length:Nat)∧f 13=.int .i64 (i:Nat)∧∀s∈[5],(fr s).isRow=false

theorem Iz {v x:V}(h:x∈Jc v):x∈v.list∨(∃p∈v.pairs,x=p.1∨x=p.2)∨∃s∈v.slots,x=s.2:=by
 unfold Jc at h;simp only[QNk,QMQ,QNo,QN3,or_false,QNm]at h;rcases h with(h|⟨p,hp,h⟩)|⟨s,hs,rfl⟩
 ·exact .inl h
 ·exact .inr (.inl ⟨p,hp,h⟩)
 ·exact .inr (.inr ⟨s,hs,rfl⟩)

theorem v56 (v:V)(hv:Thin v):Qp Tryz.prog 56 [v.av] (.int .i64 (IntKind.i64.wrap (v.cnt:Int))):=by
 revert hv
 refine V.ind (P:=fun v=>Thin v→Qp Tryz.prog 56 [v.av] (.int .i64 (IntKind.i64.wrap (v.cnt:Int)))) ?_ v;clear v;intro v hl hp hs hv;obtain⟨n,t1,t2,t3,t4⟩:=hv;have hall:∀x∈Jc v,Qp Tryz.prog 56 [x.av] (.int .i64 (IntKind.i64.wrap (x.cnt:Int))):=by
  intro x hx;rcases Iz hx with h|⟨p,h,rfl|rfl⟩|⟨s,h,rfl⟩
  ·exact hl x h (t1 x h)
  ·exact(hp p h).1 (t2 p h)
  ·exact(hp p h).2 (t3 p h)
  ·exact hs s h (t4 s h)
 have hin:(Jc v).length≤maxLen:=by
  rw[←Nh,GI v _ (QL3 _)];simp only[maxLen];omega
 have c0:=v95 v n;rw[QL]at c0;rw[QL];refine k56.fn (by simp) ?_;simp only[QMZ,eE,seval];refine Qb c0 rfl rfl rfl (.inl rfl) ?_;simp only[QMZ,Qa,seval];refine Qf (VcI v) _ ⟨_,_,0,rfl,rfl,QMd _,(by simp only[QNc,Q9,QMA,Int.natCast_add,Int.natCast_one,Qa,seval]),(by rfl),(by rfl),(by rfl),by simp<;>rfl⟩ ?_;rintro _ st ⟨f0,fr0,i,rfl,rfl,hil,h30,h110,h120,h130,r5⟩;refine QM (a:=_) [5] r5 ?_;intro f fr hf hm hn;have h3:f 3=.int .i64 (IntKind.i64.wrap ((1+v.raws.length+Q9 ((Jc v).take i):Nat):Int)):=by rw[hf,h30]<;>rfl
 have h11:f 11=.list ((Jc v).map V.av):=by rw[hf,h110]<;>rfl
 have h12:f 12=.int .i64 ((Jc v).length:Nat):=by rw[hf,h120]<;>rfl
 have h13:f 13=.int .i64 (i:Nat):=by rw[hf,h130]<;>rfl
 have n5:=hn 5 (by decide);clear hf hm hn h30 h110 h120 h130 r5;simp only[h12,h13,Qa,seval];by_cases hlt:i<(Jc v).length
 ·obtain⟨x,hi⟩:∃x,(Jc v)[i]? = some x:=⟨(Jc v)[i],QL6 hlt⟩;have hg:=GH hi;have e1:=Qq i _ hlt hin;have c1:=hall x (QMi hi);rw[QL]at c1;simp only[Qo hlt,Qm,QNt,Qd,hg,n5,h3,h11,h13,eE,seval];refine Qb c1 rfl rfl rfl (.inl rfl) ?_;simp only[h13,e1,QsC,Qa,seval];exact⟨(Jc v).length-(i+1),by omega,_,_,i+1,rfl,rfl,by omega,(by rw[G8 hi];simp only[h3,←Int.natCast_add,QL2,Qa,seval]),(by exact h11),(by exact h12),(by rfl),by simp<;>rfl⟩
 have e:i=(Jc v).length:=by omega
 subst e;rw[QNB,←Iy]at h3;simp only[QE hlt,h3,Qa,seval]

end Go.Proofs.YtipjfckmopekaaaGreatDoor.Va

set_option linter.unusedVariables false
namespace Go.Proofs.YtipjfckmopekaaaGreatDoor.Tg
open Go Am

def Sb (z sr ro sm is st:Nat):List Am.Item:=[
  ⟨(some 10),.val (.mov (.c (.int .i64 0))),none⟩]
def Sc (z sr ro sm is st:Nat):List Am.Item:=[
  ⟨(some 11),.val (.mov (.t 10)),none⟩,
  ⟨(some 12),.val (.mov (.t 3)),none⟩,
  ⟨(some 13),.val (.bin .num .lss (.t 11) (.t 12)),none⟩]
def Sd (z sr ro sm is st:Nat):List Am.Item:=[
  ⟨(some 16),.val (.mov (.t 0)),none⟩,
  ⟨(some 17),.val (.mov (.t 1)),none⟩,
  ⟨(some 18),.val (.mov (.t 10)),none⟩,
  ⟨(some 19),.val (.bin .num .add (.t 17) (.t 18)),none⟩,
  ⟨(some 20),.val (.mov (.t 0)),none⟩,
  ⟨(some 21),.val (.mov (.t 2)),none⟩,
  ⟨(some 22),.val (.mov (.t 10)),none⟩,
  ⟨(some 23),.val (.bin .num .add (.t 21) (.t 22)),none⟩,
  ⟨(some 24),.val (.mov (.t 0)),none⟩,
  ⟨(some 25),.val (.mov (.t 2)),none⟩,
  ⟨(some 26),.val (.mov (.t 10)),none⟩,
  ⟨(some 27),.val (.bin .num .add (.t 25) (.t 26)),none⟩,
  ⟨(some 28),.val (.iaddr z none (.t 24) (.t 27)),none⟩,
  ⟨(some 29),.val (.loadr (some z) (.t 28)),none⟩,
  ⟨(some 30),.val (.mov (.t 0)),none⟩,
  ⟨(some 31),.val (.mov (.t 1)),none⟩,
  ⟨(some 32),.val (.mov (.t 10)),none⟩,
  ⟨(some 33),.val (.bin .num .add (.t 31) (.t 32)),none⟩,
  ⟨(some 34),.val (.iaddr z none (.t 30) (.t 33)),none⟩,
  ⟨(some 35),.val (.loadr (some z) (.t 34)),none⟩,
  ⟨(some 36),.val (.iaddr z none (.t 16) (.t 19)),none⟩,
  ⟨none,.store z (.t 36) (.t 29),none⟩,
  ⟨(some 37),.val (.iaddr z none (.t 20) (.t 23)),none⟩,
  ⟨none,.store z (.t 37) (.t 35),none⟩]
def Se (z sr ro sm is st:Nat):List Am.Item:=[
  ⟨(some 14),.val (.mov (.t 10)),none⟩,
  ⟨(some 15),.val (.bin .num .add (.t 14) (.c (.int .i64 1))),none⟩,
  ⟨(some 10),.val (.mov (.t 15)),none⟩]
def Sf (z sr ro sm is st:Nat):RC:=.seq (.seq (.reg (Sc z sr ro sm is st)) (.cond (.t 13) (.skip) (.exit 0))) (.seq (.block 1 (.draw (Sd z sr ro sm is st))) (.reg (Se z sr ro sm is st)))
def rsr (z sr ro sm is st:Nat):RC:=.seq (.reg (Sb z sr ro sm is st)) (.block 0 (.loop (Sf z sr ro sm is st)))
def osr:List RR:=[]

def Sg (z sr ro sm is st:Nat):List Am.Item:=[
  ⟨(some 12),.val (.mov (.t 2)),none⟩,
  ⟨(some 13),.val (.mov (.t 1)),none⟩,
  ⟨(some 14),.val (.bin .num .sub (.t 12) (.t 13)),none⟩,
  ⟨(some 10),.val (.mov (.t 14)),none⟩]
def Sh (z sr ro sm is st:Nat):List Am.Item:=[
  ⟨(some 15),.val (.mov (.t 3)),none⟩,
  ⟨(some 16),.val (.mov (.t 2)),none⟩,
  ⟨(some 17),.val (.bin .num .sub (.t 15) (.t 16)),none⟩,
  ⟨(some 11),.val (.mov (.t 17)),none⟩]
def Si (z sr ro sm is st:Nat):List Am.Item:=[
  ⟨(some 18),.val (.mov (.t 10)),none⟩,
  ⟨(some 19),.val (.mov (.t 11)),none⟩,
  ⟨(some 20),.val (.bin .num .neq (.t 18) (.t 19)),none⟩]
def Sj (z sr ro sm is st:Nat):List Am.Item:=[
  ⟨(some 21),.val (.mov (.t 10)),none⟩,
  ⟨(some 22),.val (.mov (.t 11)),none⟩,
  ⟨(some 23),.val (.bin .num .gtr (.t 21) (.t 22)),none⟩]
def Sk (z sr ro sm is st:Nat):List Am.Item:=[
  ⟨(some 24),.val (.mov (.t 0)),none⟩,
  ⟨(some 25),.val (.mov (.t 2)),none⟩,
  ⟨(some 26),.val (.mov (.t 10)),none⟩,
  ⟨(some 27),.val (.bin .num .sub (.t 25) (.t 26)),none⟩,
  ⟨(some 28),.val (.mov (.t 2)),none⟩,
  ⟨(some 29),.val (.mov (.t 11)),none⟩,
  ⟨(some 30),.val (.mov (.t 4)),none⟩,
  ⟨(some 31),.callF (.f sr) [(.t 24),(.t 27),(.t 28),(.t 29),(.t 30)],none⟩]
def Sl (z sr ro sm is st:Nat):List Am.Item:=[
  ⟨(some 32),.val (.mov (.t 10)),none⟩,
  ⟨(some 33),.val (.mov (.t 11)),none⟩,
  ⟨(some 34),.val (.bin .num .sub (.t 32) (.t 33)),none⟩,
  ⟨(some 10),.val (.mov (.t 34)),none⟩]
def Sm (z sr ro sm is st:Nat):List Am.Item:=[
  ⟨(some 35),.val (.mov (.t 0)),none⟩,
  ⟨(some 36),.val (.mov (.t 2)),none⟩,
  ⟨(some 37),.val (.mov (.t 10)),none⟩,
  ⟨(some 38),.val (.bin .num .sub (.t 36) (.t 37)),none⟩,
  ⟨(some 39),.val (.mov (.t 2)),none⟩,
  ⟨(some 40),.val (.mov (.t 11)),none⟩,
  ⟨(some 41),.val (.bin .num .add (.t 39) (.t 40)),none⟩,
  ⟨(some 42),.val (.mov (.t 10)),none⟩,
  ⟨(some 43),.val (.bin .num .sub (.t 41) (.t 42)),none⟩,
  ⟨(some 44),.val (.mov (.t 10)),none⟩,
  ⟨(some 45),.val (.mov (.t 4)),none⟩,
  ⟨(some 46),.callF (.f sr) [(.t 35),(.t 38),(.t 43),(.t 44),(.t 45)],none⟩]
def Sn (z sr ro sm is st:Nat):List Am.Item:=[
  ⟨(some 47),.val (.mov (.t 11)),none⟩,
  ⟨(some 48),.val (.mov (.t 10)),none⟩,
  ⟨(some 49),.val (.bin .num .sub (.t 47) (.t 48)),none⟩,
  ⟨(some 11),.val (.mov (.t 49)),none⟩]
def Sp (z sr ro sm is st:Nat):RC:=.seq (.seq (.reg (Si z sr ro sm is st)) (.cond (.t 20) (.skip) (.exit 0))) (.block 1 (.seq (.reg (Sj z sr ro sm is st)) (.cond (.t 23) (.seq (.reg (Sk z sr ro sm is st)) (.reg (Sl z sr ro sm is st))) (.seq (.reg (Sm z sr ro sm is st)) (.reg (Sn z sr ro sm is st))))))
def Sq (z sr ro sm is st:Nat):List Am.Item:=[
  ⟨(some 50),.val (.mov (.t 0)),none⟩,
  ⟨(some 51),.val (.mov (.t 2)),none⟩,
  ⟨(some 52),.val (.mov (.t 10)),none⟩,
  ⟨(some 53),.val (.bin .num .sub (.t 51) (.t 52)),none⟩,
  ⟨(some 54),.val (.mov (.t 2)),none⟩,
  ⟨(some 55),.val (.mov (.t 10)),none⟩,
  ⟨(some 56),.val (.mov (.t 4)),none⟩,
  ⟨(some 57),.callF (.f sr) [(.t 50),(.t 53),(.t 54),(.t 55),(.t 56)],none⟩]
def rro (z sr ro sm is st:Nat):RC:=.seq (.reg (Sg z sr ro sm is st)) (.seq (.reg (Sh z sr ro sm is st)) (.seq (.block 0 (.loop (Sp z sr ro sm is st))) (.reg (Sq z sr ro sm is st))))
def oro:List RR:=[]

def Dr (z sr ro sm is st:Nat):List Am.Item:=[
  ⟨(some 25),.val (.mov (.t 2)),none⟩,
  ⟨(some 26),.val (.mov (.t 1)),none⟩,
  ⟨(some 27),.val (.bin .num .sub (.t 25) (.t 26)),none⟩,
  ⟨(some 28),.val (.bin .num .eql (.t 27) (.c (.int .i64 1))),none⟩]
def Vo (z sr ro sm is st:Nat):List Am.Item:=[
  ⟨(some 29),.val (.mov (.t 2)),none⟩,
  ⟨(some 10),.val (.mov (.t 29)),none⟩]
def Vq (z sr ro sm is st:Nat):List Am.Item:=[
  ⟨(some 30),.val (.mov (.t 3)),none⟩,
  ⟨(some 11),.val (.mov (.t 30)),none⟩]
def Sr (z sr ro sm is st:Nat):List Am.Item:=[
  ⟨(some 31),.val (.mov (.t 10)),none⟩,
  ⟨(some 32),.val (.mov (.t 11)),none⟩,
  ⟨(some 33),.val (.bin .num .lss (.t 31) (.t 32)),none⟩]
def Ss (z sr ro sm is st:Nat):List Am.Item:=[
  ⟨(some 34),.val (.mov (.t 10)),none⟩,
  ⟨(some 35),.val (.mov (.t 11)),none⟩,
  ⟨(some 36),.val (.bin .num .add (.t 34) (.t 35)),none⟩,
  ⟨(some 37),.val (.cvi .u64 (.t 36)),none⟩,
  ⟨(some 38),.val (.bin .num .shr (.t 37) (.c (.int .u64 1))),none⟩,
  ⟨(some 39),.val (.cvi .i64 (.t 38)),none⟩,
  ⟨(some 12),.val (.mov (.t 39)),none⟩]
def Su (z sr ro sm is st:Nat):List Am.Item:=[
  ⟨(some 40),.val (.mov (.t 4)),none⟩,
  ⟨(some 41),.val (.mov (.t 0)),none⟩,
  ⟨(some 42),.val (.mov (.t 12)),none⟩,
  ⟨(some 43),.val (.iaddr z none (.t 41) (.t 42)),none⟩,
  ⟨(some 44),.val (.loadr (some z) (.t 43)),none⟩,
  ⟨(some 45),.val (.mov (.t 0)),none⟩,
  ⟨(some 46),.val (.mov (.t 1)),none⟩,
  ⟨(some 47),.val (.iaddr z none (.t 45) (.t 46)),none⟩,
  ⟨(some 48),.val (.loadr (some z) (.t 47)),none⟩,
  ⟨(some 49),.call (.t 40) [(.t 44),(.t 48)],none⟩,
  ⟨(some 50),.val (.bin .num .lss (.t 49) (.c (.int .i64 0))),none⟩]
def Sv (z sr ro sm is st:Nat):List Am.Item:=[
  ⟨(some 51),.val (.mov (.t 12)),none⟩,
  ⟨(some 52),.val (.bin .num .add (.t 51) (.c (.int .i64 1))),none⟩,
  ⟨(some 10),.val (.mov (.t 52)),none⟩]
def Sw (z sr ro sm is st:Nat):List Am.Item:=[
  ⟨(some 53),.val (.mov (.t 12)),none⟩,
  ⟨(some 11),.val (.mov (.t 53)),none⟩]
def Sx (z sr ro sm is st:Nat):RC:=.seq (.seq (.reg (Sr z sr ro sm is st)) (.cond (.t 33) (.skip) (.exit 0))) (.block 1 (.seq (.reg (Ss z sr ro sm is st)) (.seq (.draw (Su z sr ro sm is st)) (.cond (.t 50) (.reg (Sv z sr ro sm is st)) (.reg (Sw z sr ro sm is st))))))
def Vr (z sr ro sm is st:Nat):List Am.Item:=[
  ⟨(some 54),.val (.mov (.t 1)),none⟩,
  ⟨(some 13),.val (.mov (.t 54)),none⟩]
def Sy (z sr ro sm is st:Nat):List Am.Item:=[
  ⟨(some 55),.val (.mov (.t 13)),none⟩,
  ⟨(some 56),.val (.mov (.t 10)),none⟩,
  ⟨(some 57),.val (.bin .num .sub (.t 56) (.c (.int .i64 1))),none⟩,
  ⟨(some 58),.val (.bin .num .lss (.t 55) (.t 57)),none⟩]
def Mw (z sr ro sm is st:Nat):List Am.Item:=[
  ⟨(some 61),.val (.mov (.t 0)),none⟩,
  ⟨(some 62),.val (.mov (.t 13)),none⟩,
  ⟨(some 63),.val (.mov (.t 0)),none⟩,
  ⟨(some 64),.val (.mov (.t 13)),none⟩,
  ⟨(some 65),.val (.bin .num .add (.t 64) (.c (.int .i64 1))),none⟩,
  ⟨(some 66),.val (.mov (.t 0)),none⟩,
  ⟨(some 67),.val (.mov (.t 13)),none⟩,
  ⟨(some 68),.val (.bin .num .add (.t 67) (.c (.int .i64 1))),none⟩,
  ⟨(some 69),.val (.iaddr z none (.t 66) (.t 68)),none⟩,
  ⟨(some 70),.val (.loadr (some z) (.t 69)),none⟩,
  ⟨(some 71),.val (.mov (.t 0)),none⟩,
  ⟨(some 72),.val (.mov (.t 13)),none⟩,
  ⟨(some 73),.val (.iaddr z none (.t 71) (.t 72)),none⟩,
  ⟨(some 74),.val (.loadr (some z) (.t 73)),none⟩,
  ⟨(some 75),.val (.iaddr z none (.t 61) (.t 62)),none⟩,
  ⟨none,.store z (.t 75) (.t 70),none⟩,
  ⟨(some 76),.val (.iaddr z none (.t 63) (.t 65)),none⟩,
  ⟨none,.store z (.t 76) (.t 74),none⟩]
def Mx (z sr ro sm is st:Nat):List Am.Item:=[
  ⟨(some 59),.val (.mov (.t 13)),none⟩,
  ⟨(some 60),.val (.bin .num .add (.t 59) (.c (.int .i64 1))),none⟩,
  ⟨(some 13),.val (.mov (.t 60)),none⟩]
def Sz (z sr ro sm is st:Nat):RC:=.seq (.seq (.reg (Sy z sr ro sm is st)) (.cond (.t 58) (.skip) (.exit 2))) (.seq (.block 3 (.draw (Mw z sr ro sm is st))) (.reg (Mx z sr ro sm is st)))
def HP (z sr ro sm is st:Nat):List Am.Item:=[
  ⟨(some 77),.val (.mov (.t 3)),none⟩,
  ⟨(some 78),.val (.mov (.t 2)),none⟩,
  ⟨(some 79),.val (.bin .num .sub (.t 77) (.t 78)),none⟩,
  ⟨(some 80),.val (.bin .num .eql (.t 79) (.c (.int .i64 1))),none⟩]
def FN (z sr ro sm is st:Nat):List Am.Item:=[
  ⟨(some 81),.val (.mov (.t 1)),none⟩,
  ⟨(some 14),.val (.mov (.t 81)),none⟩]
def FO (z sr ro sm is st:Nat):List Am.Item:=[
  ⟨(some 82),.val (.mov (.t 2)),none⟩,
  ⟨(some 15),.val (.mov (.t 82)),none⟩]
def FP (z sr ro sm is st:Nat):List Am.Item:=[
  ⟨(some 83),.val (.mov (.t 14)),none⟩,
  ⟨(some 84),.val (.mov (.t 15)),none⟩,
  ⟨(some 85),.val (.bin .num .lss (.t 83) (.t 84)),none⟩]
def FQ (z sr ro sm is st:Nat):List Am.Item:=[
  ⟨(some 86),.val (.mov (.t 14)),none⟩,
  ⟨(some 87),.val (.mov (.t 15)),none⟩,
  ⟨(some 88),.val (.bin .num .add (.t 86) (.t 87)),none⟩,
  ⟨(some 89),.val (.cvi .u64 (.t 88)),none⟩,
  ⟨(some 90),.val (.bin .num .shr (.t 89) (.c (.int .u64 1))),none⟩,
  ⟨(some 91),.val (.cvi .i64 (.t 90)),none⟩,
  ⟨(some 16),.val (.mov (.t 91)),none⟩]
def FR (z sr ro sm is st:Nat):List Am.Item:=[
  ⟨(some 92),.val (.mov (.t 4)),none⟩,
  ⟨(some 93),.val (.mov (.t 0)),none⟩,
  ⟨(some 94),.val (.mov (.t 2)),none⟩,
  ⟨(some 95),.val (.iaddr z none (.t 93) (.t 94)),none⟩,
  ⟨(some 96),.val (.loadr (some z) (.t 95)),none⟩,
  ⟨(some 97),.val (.mov (.t 0)),none⟩,
  ⟨(some 98),.val (.mov (.t 16)),none⟩,
  ⟨(some 99),.val (.iaddr z none (.t 97) (.t 98)),none⟩,
  ⟨(some 100),.val (.loadr (some z) (.t 99)),none⟩,
  ⟨(some 101),.call (.t 92) [(.t 96),(.t 100)],none⟩,
  ⟨(some 102),.val (.bin .num .lss (.t 101) (.c (.int .i64 0))),none⟩,
  ⟨(some 103),.val (.un .not (.t 102)),none⟩]
def FS (z sr ro sm is st:Nat):List Am.Item:=[
  ⟨(some 104),.val (.mov (.t 16)),none⟩,
  ⟨(some 105),.val (.bin .num .add (.t 104) (.c (.int .i64 1))),none⟩,
  ⟨(some 14),.val (.mov (.t 105)),none⟩]
def FT (z sr ro sm is st:Nat):List Am.Item:=[
  ⟨(some 106),.val (.mov (.t 16)),none⟩,
  ⟨(some 15),.val (.mov (.t 106)),none⟩]
def Vs (z sr ro sm is st:Nat):RC:=.seq (.seq (.reg (FP z sr ro sm is st)) (.cond (.t 85) (.skip) (.exit 4))) (.block 5 (.seq (.reg (FQ z sr ro sm is st)) (.seq (.draw (FR z sr ro sm is st)) (.cond (.t 103) (.reg (FS z sr ro sm is st)) (.reg (FT z sr ro sm is st))))))
def FU (z sr ro sm is st:Nat):List Am.Item:=[
  ⟨(some 107),.val (.mov (.t 2)),none⟩,
  ⟨(some 17),.val (.mov (.t 107)),none⟩]
def FV (z sr ro sm is st:Nat):List Am.Item:=[
  ⟨(some 108),.val (.mov (.t 17)),none⟩,
  ⟨(some 109),.val (.mov (.t 14)),none⟩,
  ⟨(some 110),.val (.bin .num .gtr (.t 108) (.t 109)),none⟩]
def FX (z sr ro sm is st:Nat):List Am.Item:=[
  ⟨(some 113),.val (.mov (.t 0)),none⟩,
  ⟨(some 114),.val (.mov (.t 17)),none⟩,
  ⟨(some 115),.val (.mov (.t 0)),none⟩,
  ⟨(some 116),.val (.mov (.t 17)),none⟩,
  ⟨(some 117),.val (.bin .num .sub (.t 116) (.c (.int .i64 1))),none⟩,
  ⟨(some 118),.val (.mov (.t 0)),none⟩,
  ⟨(some 119),.val (.mov (.t 17)),none⟩,
  ⟨(some 120),.val (.bin .num .sub (.t 119) (.c (.int .i64 1))),none⟩,
  ⟨(some 121),.val (.iaddr z none (.t 118) (.t 120)),none⟩,
  ⟨(some 122),.val (.loadr (some z) (.t 121)),none⟩,
  ⟨(some 123),.val (.mov (.t 0)),none⟩,
  ⟨(some 124),.val (.mov (.t 17)),none⟩,
  ⟨(some 125),.val (.iaddr z none (.t 123) (.t 124)),none⟩,
  ⟨(some 126),.val (.loadr (some z) (.t 125)),none⟩,
  ⟨(some 127),.val (.iaddr z none (.t 113) (.t 114)),none⟩,
  ⟨none,.store z (.t 127) (.t 122),none⟩,
  ⟨(some 128),.val (.iaddr z none (.t 115) (.t 117)),none⟩,
  ⟨none,.store z (.t 128) (.t 126),none⟩]
def FY (z sr ro sm is st:Nat):List Am.Item:=[
  ⟨(some 111),.val (.mov (.t 17)),none⟩,
  ⟨(some 112),.val (.bin .num .sub (.t 111) (.c (.int .i64 1))),none⟩,
  ⟨(some 17),.val (.mov (.t 112)),none⟩]
def Vt (z sr ro sm is st:Nat):RC:=.seq (.seq (.reg (FV z sr ro sm is st)) (.cond (.t 110) (.skip) (.exit 6))) (.seq (.block 7 (.draw (FX z sr ro sm is st))) (.reg (FY z sr ro sm is st)))
def HQ (z sr ro sm is st:Nat):List Am.Item:=[
  ⟨(some 129),.val (.mov (.t 1)),none⟩,
  ⟨(some 130),.val (.mov (.t 3)),none⟩,
  ⟨(some 131),.val (.bin .num .add (.t 129) (.t 130)),none⟩,
  ⟨(some 132),.val (.cvi .u64 (.t 131)),none⟩,
  ⟨(some 133),.val (.bin .num .shr (.t 132) (.c (.int .u64 1))),none⟩,
  ⟨(some 134),.val (.cvi .i64 (.t 133)),none⟩,
  ⟨(some 18),.val (.mov (.t 134)),none⟩]
def HR (z sr ro sm is st:Nat):List Am.Item:=[
  ⟨(some 135),.val (.mov (.t 18)),none⟩,
  ⟨(some 136),.val (.mov (.t 2)),none⟩,
  ⟨(some 137),.val (.bin .num .add (.t 135) (.t 136)),none⟩,
  ⟨(some 19),.val (.mov (.t 137)),none⟩]
def HS (z sr ro sm is st:Nat):List Am.Item:=[
  ⟨(some 20),.val (.mov (.c (.int .i64 0))),none⟩,
  ⟨(some 21),.val (.mov (.c (.int .i64 0))),none⟩]
def HT (z sr ro sm is st:Nat):List Am.Item:=[
  ⟨(some 138),.val (.mov (.t 2)),none⟩,
  ⟨(some 139),.val (.mov (.t 18)),none⟩,
  ⟨(some 140),.val (.bin .num .gtr (.t 138) (.t 139)),none⟩]
def HU (z sr ro sm is st:Nat):List Am.Item:=[
  ⟨(some 141),.val (.mov (.t 19)),none⟩,
  ⟨(some 142),.val (.mov (.t 3)),none⟩,
  ⟨(some 143),.val (.bin .num .sub (.t 141) (.t 142)),none⟩,
  ⟨(some 20),.val (.mov (.t 143)),none⟩]
def HV (z sr ro sm is st:Nat):List Am.Item:=[
  ⟨(some 144),.val (.mov (.t 18)),none⟩,
  ⟨(some 21),.val (.mov (.t 144)),none⟩]
def HW (z sr ro sm is st:Nat):List Am.Item:=[
  ⟨(some 145),.val (.mov (.t 1)),none⟩,
  ⟨(some 20),.val (.mov (.t 145)),none⟩]
def HX (z sr ro sm is st:Nat):List Am.Item:=[
  ⟨(some 146),.val (.mov (.t 2)),none⟩,
  ⟨(some 21),.val (.mov (.t 146)),none⟩]
def HY (z sr ro sm is st:Nat):List Am.Item:=[
  ⟨(some 147),.val (.mov (.t 19)),none⟩,
  ⟨(some 148),.val (.bin .num .sub (.t 147) (.c (.int .i64 1))),none⟩,
  ⟨(some 22),.val (.mov (.t 148)),none⟩]
def HZ (z sr ro sm is st:Nat):List Am.Item:=[
  ⟨(some 149),.val (.mov (.t 20)),none⟩,
  ⟨(some 150),.val (.mov (.t 21)),none⟩,
  ⟨(some 151),.val (.bin .num .lss (.t 149) (.t 150)),none⟩]
def H1 (z sr ro sm is st:Nat):List Am.Item:=[
  ⟨(some 152),.val (.mov (.t 20)),none⟩,
  ⟨(some 153),.val (.mov (.t 21)),none⟩,
  ⟨(some 154),.val (.bin .num .add (.t 152) (.t 153)),none⟩,
  ⟨(some 155),.val (.cvi .u64 (.t 154)),none⟩,
  ⟨(some 156),.val (.bin .num .shr (.t 155) (.c (.int .u64 1))),none⟩,
  ⟨(some 157),.val (.cvi .i64 (.t 156)),none⟩,
  ⟨(some 23),.val (.mov (.t 157)),none⟩]
def H2 (z sr ro sm is st:Nat):List Am.Item:=[
  ⟨(some 158),.val (.mov (.t 4)),none⟩,
  ⟨(some 159),.val (.mov (.t 0)),none⟩,
  ⟨(some 160),.val (.mov (.t 22)),none⟩,
  ⟨(some 161),.val (.mov (.t 23)),none⟩,
  ⟨(some 162),.val (.bin .num .sub (.t 160) (.t 161)),none⟩,
  ⟨(some 163),.val (.iaddr z none (.t 159) (.t 162)),none⟩,
  ⟨(some 164),.val (.loadr (some z) (.t 163)),none⟩,
  ⟨(some 165),.val (.mov (.t 0)),none⟩,
  ⟨(some 166),.val (.mov (.t 23)),none⟩,
  ⟨(some 167),.val (.iaddr z none (.t 165) (.t 166)),none⟩,
  ⟨(some 168),.val (.loadr (some z) (.t 167)),none⟩,
  ⟨(some 169),.call (.t 158) [(.t 164),(.t 168)],none⟩,
  ⟨(some 170),.val (.bin .num .lss (.t 169) (.c (.int .i64 0))),none⟩,
  ⟨(some 171),.val (.un .not (.t 170)),none⟩]
def H3 (z sr ro sm is st:Nat):List Am.Item:=[
  ⟨(some 172),.val (.mov (.t 23)),none⟩,
  ⟨(some 173),.val (.bin .num .add (.t 172) (.c (.int .i64 1))),none⟩,
  ⟨(some 20),.val (.mov (.t 173)),none⟩]
def H4 (z sr ro sm is st:Nat):List Am.Item:=[
  ⟨(some 174),.val (.mov (.t 23)),none⟩,
  ⟨(some 21),.val (.mov (.t 174)),none⟩]
def H5 (z sr ro sm is st:Nat):RC:=.seq (.seq (.reg (HZ z sr ro sm is st)) (.cond (.t 151) (.skip) (.exit 8))) (.block 9 (.seq (.reg (H1 z sr ro sm is st)) (.seq (.draw (H2 z sr ro sm is st)) (.cond (.t 171) (.reg (H3 z sr ro sm is st)) (.reg (H4 z sr ro sm is st))))))
def WF (z sr ro sm is st:Nat):List Am.Item:=[
  ⟨(some 175),.val (.mov (.t 19)),none⟩,
  ⟨(some 176),.val (.mov (.t 20)),none⟩,
  ⟨(some 177),.val (.bin .num .sub (.t 175) (.t 176)),none⟩,
  ⟨(some 24),.val (.mov (.t 177)),none⟩]
def WG (z sr ro sm is st:Nat):List Am.Item:=[
  ⟨(some 178),.val (.mov (.t 20)),none⟩,
  ⟨(some 179),.val (.mov (.t 2)),none⟩,
  ⟨(some 180),.val (.bin .num .lss (.t 178) (.t 179)),none⟩,
  ⟨(some 181),.val (.mov (.t 180)),none⟩,
  ⟨(some 182),.val (.mov (.t 2)),(some (181,true))⟩,
  ⟨(some 183),.val (.mov (.t 24)),(some (181,true))⟩,
  ⟨(some 184),.val (.bin .num .lss (.t 182) (.t 183)),(some (181,true))⟩,
  ⟨(some 185),.val (.pick (.t 181) (.t 184) (.c (.bool false))),none⟩]
def WH (z sr ro sm is st:Nat):List Am.Item:=[
  ⟨(some 186),.val (.mov (.t 0)),none⟩,
  ⟨(some 187),.val (.mov (.t 20)),none⟩,
  ⟨(some 188),.val (.mov (.t 2)),none⟩,
  ⟨(some 189),.val (.mov (.t 24)),none⟩,
  ⟨(some 190),.val (.mov (.t 4)),none⟩,
  ⟨(some 191),.callF (.f ro) [(.t 186),(.t 187),(.t 188),(.t 189),(.t 190)],none⟩]
def KV (z sr ro sm is st:Nat):List Am.Item:=[
  ⟨(some 192),.val (.mov (.t 1)),none⟩,
  ⟨(some 193),.val (.mov (.t 20)),none⟩,
  ⟨(some 194),.val (.bin .num .lss (.t 192) (.t 193)),none⟩,
  ⟨(some 195),.val (.mov (.t 194)),none⟩,
  ⟨(some 196),.val (.mov (.t 20)),(some (195,true))⟩,
  ⟨(some 197),.val (.mov (.t 18)),(some (195,true))⟩,
  ⟨(some 198),.val (.bin .num .lss (.t 196) (.t 197)),(some (195,true))⟩,
  ⟨(some 199),.val (.pick (.t 195) (.t 198) (.c (.bool false))),none⟩]
def KW (z sr ro sm is st:Nat):List Am.Item:=[
  ⟨(some 200),.val (.mov (.t 0)),none⟩,
  ⟨(some 201),.val (.mov (.t 1)),none⟩,
  ⟨(some 202),.val (.mov (.t 20)),none⟩,
  ⟨(some 203),.val (.mov (.t 18)),none⟩,
  ⟨(some 204),.val (.mov (.t 4)),none⟩,
  ⟨(some 205),.callF (.f sm) [(.t 200),(.t 201),(.t 202),(.t 203),(.t 204)],none⟩]
def JK (z sr ro sm is st:Nat):List Am.Item:=[
  ⟨(some 206),.val (.mov (.t 18)),none⟩,
  ⟨(some 207),.val (.mov (.t 24)),none⟩,
  ⟨(some 208),.val (.bin .num .lss (.t 206) (.t 207)),none⟩,
  ⟨(some 209),.val (.mov (.t 208)),none⟩,
  ⟨(some 210),.val (.mov (.t 24)),(some (209,true))⟩,
  ⟨(some 211),.val (.mov (.t 3)),(some (209,true))⟩,
  ⟨(some 212),.val (.bin .num .lss (.t 210) (.t 211)),(some (209,true))⟩,
  ⟨(some 213),.val (.pick (.t 209) (.t 212) (.c (.bool false))),none⟩]
def JL (z sr ro sm is st:Nat):List Am.Item:=[
  ⟨(some 214),.val (.mov (.t 0)),none⟩,
  ⟨(some 215),.val (.mov (.t 18)),none⟩,
  ⟨(some 216),.val (.mov (.t 24)),none⟩,
  ⟨(some 217),.val (.mov (.t 3)),none⟩,
  ⟨(some 218),.val (.mov (.t 4)),none⟩,
  ⟨(some 219),.callF (.f sm) [(.t 214),(.t 215),(.t 216),(.t 217),(.t 218)],none⟩]
def SA (z sr ro sm is st:Nat):RC:=.seq (.seq (.reg (Dr z sr ro sm is st)) (.cond (.t 28) (.seq (.reg (Vo z sr ro sm is st)) (.seq (.reg (Vq z sr ro sm is st)) (.seq (.block 0 (.loop (Sx z sr ro sm is st))) (.seq (.seq (.reg (Vr z sr ro sm is st)) (.block 2 (.loop (Sz z sr ro sm is st)))) (.ret))))) (.skip))) (.seq (.seq (.reg (HP z sr ro sm is st)) (.cond (.t 80) (.seq (.reg (FN z sr ro sm is st)) (.seq (.reg (FO z sr ro sm is st)) (.seq (.block 4 (.loop (Vs z sr ro sm is st))) (.seq (.seq (.reg (FU z sr ro sm is st)) (.block 6 (.loop (Vt z sr ro sm is st)))) (.ret))))) (.skip))) (.seq (.reg (HQ z sr ro sm is st)) (.seq (.reg (HR z sr ro sm is st)) (.seq (.reg (HS z sr ro sm is st)) (.seq (.seq (.reg (HT z sr ro sm is st)) (.cond (.t 140) (.seq (.reg (HU z sr ro sm is st)) (.reg (HV z sr ro sm is st))) (.seq (.reg (HW z sr ro sm is st)) (.reg (HX z sr ro sm is st))))) (.seq (.reg (HY z sr ro sm is st)) (.seq (.block 8 (.loop (H5 z sr ro sm is st))) (.seq (.reg (WF z sr ro sm is st)) (.seq (.seq (.reg (WG z sr ro sm is st)) (.cond (.t 185) (.reg (WH z sr ro sm is st)) (.skip))) (.seq (.seq (.reg (KV z sr ro sm is st)) (.cond (.t 199) (.reg (KW z sr ro sm is st)) (.skip))) (.seq (.reg (JK z sr ro sm is st)) (.cond (.t 213) (.reg (JL z sr ro sm is st)) (.skip)))))))))))))
def H6:List RR:=[]

def SB (z sr ro sm is st:Nat):List Am.Item:=[
  ⟨(some 10),.val (.mov (.t 1)),none⟩,
  ⟨(some 11),.val (.bin .num .add (.t 10) (.c (.int .i64 1))),none⟩,
  ⟨(some 8),.val (.mov (.t 11)),none⟩]
def SC (z sr ro sm is st:Nat):List Am.Item:=[
  ⟨(some 12),.val (.mov (.t 8)),none⟩,
  ⟨(some 13),.val (.mov (.t 2)),none⟩,
  ⟨(some 14),.val (.bin .num .lss (.t 12) (.t 13)),none⟩]
def SD (z sr ro sm is st:Nat):List Am.Item:=[
  ⟨(some 17),.val (.mov (.t 8)),none⟩,
  ⟨(some 9),.val (.mov (.t 17)),none⟩]
def SE (z sr ro sm is st:Nat):List Am.Item:=[
  ⟨(some 18),.val (.mov (.t 9)),none⟩,
  ⟨(some 19),.val (.mov (.t 1)),none⟩,
  ⟨(some 20),.val (.bin .num .gtr (.t 18) (.t 19)),none⟩,
  ⟨(some 21),.val (.mov (.t 20)),none⟩,
  ⟨(some 22),.val (.mov (.t 3)),(some (21,true))⟩,
  ⟨(some 23),.val (.mov (.t 0)),(some (21,true))⟩,
  ⟨(some 24),.val (.mov (.t 9)),(some (21,true))⟩,
  ⟨(some 25),.val (.iaddr z none (.t 23) (.t 24)),(some (21,true))⟩,
  ⟨(some 26),.val (.loadr (some z) (.t 25)),(some (21,true))⟩,
  ⟨(some 27),.val (.mov (.t 0)),(some (21,true))⟩,
  ⟨(some 28),.val (.mov (.t 9)),(some (21,true))⟩,
  ⟨(some 29),.val (.bin .num .sub (.t 28) (.c (.int .i64 1))),(some (21,true))⟩,
  ⟨(some 30),.val (.iaddr z none (.t 27) (.t 29)),(some (21,true))⟩,
  ⟨(some 31),.val (.loadr (some z) (.t 30)),(some (21,true))⟩,
  ⟨(some 32),.call (.t 22) [(.t 26),(.t 31)],(some (21,true))⟩,
  ⟨(some 33),.val (.bin .num .lss (.t 32) (.c (.int .i64 0))),(some (21,true))⟩,
  ⟨(some 34),.val (.pick (.t 21) (.t 33) (.c (.bool false))),none⟩]
def SF (z sr ro sm is st:Nat):List Am.Item:=[
  ⟨(some 37),.val (.mov (.t 0)),none⟩,
  ⟨(some 38),.val (.mov (.t 9)),none⟩,
  ⟨(some 39),.val (.mov (.t 0)),none⟩,
  ⟨(some 40),.val (.mov (.t 9)),none⟩,
  ⟨(some 41),.val (.bin .num .sub (.t 40) (.c (.int .i64 1))),none⟩,
  ⟨(some 42),.val (.mov (.t 0)),none⟩,
  ⟨(some 43),.val (.mov (.t 9)),none⟩,
  ⟨(some 44),.val (.bin .num .sub (.t 43) (.c (.int .i64 1))),none⟩,
  ⟨(some 45),.val (.iaddr z none (.t 42) (.t 44)),none⟩,
  ⟨(some 46),.val (.loadr (some z) (.t 45)),none⟩,
  ⟨(some 47),.val (.mov (.t 0)),none⟩,
  ⟨(some 48),.val (.mov (.t 9)),none⟩,
  ⟨(some 49),.val (.iaddr z none (.t 47) (.t 48)),none⟩,
  ⟨(some 50),.val (.loadr (some z) (.t 49)),none⟩,
  ⟨(some 51),.val (.iaddr z none (.t 37) (.t 38)),none⟩,
  ⟨none,.store z (.t 51) (.t 46),none⟩,
  ⟨(some 52),.val (.iaddr z none (.t 39) (.t 41)),none⟩,
  ⟨none,.store z (.t 52) (.t 50),none⟩]
def SG (z sr ro sm is st:Nat):List Am.Item:=[
  ⟨(some 35),.val (.mov (.t 9)),none⟩,
  ⟨(some 36),.val (.bin .num .sub (.t 35) (.c (.int .i64 1))),none⟩,
  ⟨(some 9),.val (.mov (.t 36)),none⟩]
def SH (z sr ro sm is st:Nat):RC:=.seq (.seq (.draw (SE z sr ro sm is st)) (.cond (.t 34) (.skip) (.exit 2))) (.seq (.block 3 (.draw (SF z sr ro sm is st))) (.reg (SG z sr ro sm is st)))
def SI (z sr ro sm is st:Nat):List Am.Item:=[
  ⟨(some 15),.val (.mov (.t 8)),none⟩,
  ⟨(some 16),.val (.bin .num .add (.t 15) (.c (.int .i64 1))),none⟩,
  ⟨(some 8),.val (.mov (.t 16)),none⟩]
def SJ (z sr ro sm is st:Nat):RC:=.seq (.seq (.reg (SC z sr ro sm is st)) (.cond (.t 14) (.skip) (.exit 0))) (.seq (.block 1 (.seq (.reg (SD z sr ro sm is st)) (.block 2 (.loop (SH z sr ro sm is st))))) (.reg (SI z sr ro sm is st)))
def ris (z sr ro sm is st:Nat):RC:=.seq (.reg (SB z sr ro sm is st)) (.block 0 (.loop (SJ z sr ro sm is st)))
def ois:List RR:=[]

def SK (z sr ro sm is st:Nat):List Am.Item:=[
  ⟨(some 6),.val (.mov (.c (.int .i64 20))),none⟩]
def SL (z sr ro sm is st:Nat):List Am.Item:=[
  ⟨(some 10),.val (.mov (.t 6)),none⟩,
  ⟨(some 7),.val (.mov (.c (.int .i64 0))),none⟩,
  ⟨(some 8),.val (.mov (.t 10)),none⟩]
def SM (z sr ro sm is st:Nat):List Am.Item:=[
  ⟨(some 11),.val (.mov (.t 8)),none⟩,
  ⟨(some 12),.val (.mov (.t 1)),none⟩,
  ⟨(some 13),.val (.bin .num .leq (.t 11) (.t 12)),none⟩]
def SN (z sr ro sm is st:Nat):List Am.Item:=[
  ⟨(some 14),.val (.mov (.t 0)),none⟩,
  ⟨(some 15),.val (.mov (.t 7)),none⟩,
  ⟨(some 16),.val (.mov (.t 8)),none⟩,
  ⟨(some 17),.val (.mov (.t 2)),none⟩,
  ⟨(some 18),.callF (.f is) [(.t 14),(.t 15),(.t 16),(.t 17)],none⟩]
def SO (z sr ro sm is st:Nat):List Am.Item:=[
  ⟨(some 19),.val (.mov (.t 8)),none⟩,
  ⟨(some 7),.val (.mov (.t 19)),none⟩]
def SP (z sr ro sm is st:Nat):List Am.Item:=[
  ⟨(some 20),.val (.mov (.t 8)),none⟩,
  ⟨(some 21),.val (.mov (.t 6)),none⟩,
  ⟨(some 22),.val (.bin .num .add (.t 20) (.t 21)),none⟩,
  ⟨(some 8),.val (.mov (.t 22)),none⟩]
def SQ (z sr ro sm is st:Nat):RC:=.seq (.seq (.reg (SM z sr ro sm is st)) (.cond (.t 13) (.skip) (.exit 0))) (.block 1 (.seq (.reg (SN z sr ro sm is st)) (.seq (.reg (SO z sr ro sm is st)) (.reg (SP z sr ro sm is st)))))
def SR (z sr ro sm is st:Nat):List Am.Item:=[
  ⟨(some 23),.val (.mov (.t 0)),none⟩,
  ⟨(some 24),.val (.mov (.t 7)),none⟩,
  ⟨(some 25),.val (.mov (.t 1)),none⟩,
  ⟨(some 26),.val (.mov (.t 2)),none⟩,
  ⟨(some 27),.callF (.f is) [(.t 23),(.t 24),(.t 25),(.t 26)],none⟩]
def SS (z sr ro sm is st:Nat):List Am.Item:=[
  ⟨(some 28),.val (.mov (.t 6)),none⟩,
  ⟨(some 29),.val (.mov (.t 1)),none⟩,
  ⟨(some 30),.val (.bin .num .lss (.t 28) (.t 29)),none⟩]
def ST (z sr ro sm is st:Nat):List Am.Item:=[
  ⟨(some 31),.val (.mov (.t 6)),none⟩,
  ⟨(some 32),.val (.bin .num .mul (.c (.int .i64 2)) (.t 31)),none⟩,
  ⟨(some 7),.val (.mov (.c (.int .i64 0))),none⟩,
  ⟨(some 8),.val (.mov (.t 32)),none⟩]
def SU (z sr ro sm is st:Nat):List Am.Item:=[
  ⟨(some 33),.val (.mov (.t 8)),none⟩,
  ⟨(some 34),.val (.mov (.t 1)),none⟩,
  ⟨(some 35),.val (.bin .num .leq (.t 33) (.t 34)),none⟩]
def My (z sr ro sm is st:Nat):List Am.Item:=[
  ⟨(some 36),.val (.mov (.t 0)),none⟩,
  ⟨(some 37),.val (.mov (.t 7)),none⟩,
  ⟨(some 38),.val (.mov (.t 7)),none⟩,
  ⟨(some 39),.val (.mov (.t 6)),none⟩,
  ⟨(some 40),.val (.bin .num .add (.t 38) (.t 39)),none⟩,
  ⟨(some 41),.val (.mov (.t 8)),none⟩,
  ⟨(some 42),.val (.mov (.t 2)),none⟩,
  ⟨(some 43),.callF (.f sm) [(.t 36),(.t 37),(.t 40),(.t 41),(.t 42)],none⟩]
def Mz (z sr ro sm is st:Nat):List Am.Item:=[
  ⟨(some 44),.val (.mov (.t 8)),none⟩,
  ⟨(some 7),.val (.mov (.t 44)),none⟩]
def MA (z sr ro sm is st:Nat):List Am.Item:=[
  ⟨(some 45),.val (.mov (.t 8)),none⟩,
  ⟨(some 46),.val (.mov (.t 6)),none⟩,
  ⟨(some 47),.val (.bin .num .mul (.c (.int .i64 2)) (.t 46)),none⟩,
  ⟨(some 48),.val (.bin .num .add (.t 45) (.t 47)),none⟩,
  ⟨(some 8),.val (.mov (.t 48)),none⟩]
def SX (z sr ro sm is st:Nat):RC:=.seq (.seq (.reg (SU z sr ro sm is st)) (.cond (.t 35) (.skip) (.exit 4))) (.block 5 (.seq (.reg (My z sr ro sm is st)) (.seq (.reg (Mz z sr ro sm is st)) (.reg (MA z sr ro sm is st)))))
def MB (z sr ro sm is st:Nat):List Am.Item:=[
  ⟨(some 49),.val (.mov (.t 7)),none⟩,
  ⟨(some 50),.val (.mov (.t 6)),none⟩,
  ⟨(some 51),.val (.bin .num .add (.t 49) (.t 50)),none⟩,
  ⟨(some 9),.val (.mov (.t 51)),none⟩]
def MD (z sr ro sm is st:Nat):List Am.Item:=[
  ⟨(some 52),.val (.mov (.t 9)),none⟩,
  ⟨(some 53),.val (.mov (.t 1)),none⟩,
  ⟨(some 54),.val (.bin .num .lss (.t 52) (.t 53)),none⟩]
def ME (z sr ro sm is st:Nat):List Am.Item:=[
  ⟨(some 55),.val (.mov (.t 0)),none⟩,
  ⟨(some 56),.val (.mov (.t 7)),none⟩,
  ⟨(some 57),.val (.mov (.t 9)),none⟩,
  ⟨(some 58),.val (.mov (.t 1)),none⟩,
  ⟨(some 59),.val (.mov (.t 2)),none⟩,
  ⟨(some 60),.callF (.f sm) [(.t 55),(.t 56),(.t 57),(.t 58),(.t 59)],none⟩]
def FZ (z sr ro sm is st:Nat):List Am.Item:=[
  ⟨(some 61),.val (.mov (.t 6)),none⟩,
  ⟨(some 62),.val (.bin .num .mul (.t 61) (.c (.int .i64 2))),none⟩,
  ⟨(some 6),.val (.mov (.t 62)),none⟩]
def SY (z sr ro sm is st:Nat):RC:=.seq (.seq (.reg (SS z sr ro sm is st)) (.cond (.t 30) (.skip) (.exit 2))) (.block 3 (.seq (.reg (ST z sr ro sm is st)) (.seq (.block 4 (.loop (SX z sr ro sm is st))) (.seq (.seq (.reg (MB z sr ro sm is st)) (.seq (.reg (MD z sr ro sm is st)) (.cond (.t 54) (.reg (ME z sr ro sm is st)) (.skip)))) (.reg (FZ z sr ro sm is st))))))
def rst (z sr ro sm is st:Nat):RC:=.seq (.reg (SK z sr ro sm is st)) (.seq (.reg (SL z sr ro sm is st)) (.seq (.block 0 (.loop (SQ z sr ro sm is st))) (.seq (.reg (SR z sr ro sm is st)) (.block 2 (.loop (SY z sr ro sm is st))))))
def ost:List RR:=[]

def SZ (z sr ro sm is st:Nat):List Am.Item:=[
  ⟨(some 4),.val (.mov (.t 0)),none⟩,
  ⟨(some 5),.val (.mov (.t 0)),none⟩,
  ⟨(some 6),.val (.len 1 (.t 5)),none⟩,
  ⟨(some 7),.val (.mov (.t 1)),none⟩,
  ⟨(some 8),.callF (.f st) [(.t 4),(.t 6),(.t 7)],none⟩]
def rss (z sr ro sm is st:Nat):RC:=.reg (SZ z sr ro sm is st)
def oss:List RR:=[]

structure Cs (P:Program)(z sr ro sm is st ss:Nat):Prop where
 csr:CK P sr 38 (rsr z sr ro sm is st) osr
 cro:CK P ro 58 (rro z sr ro sm is st) oro
 csm:CK P sm 220 (SA z sr ro sm is st) H6
 cis:CK P is 53 (ris z sr ro sm is st) ois
 cst:CK P st 63 (rst z sr ro sm is st) ost
 css:CK P ss 9 (rss z sr ro sm is st) oss

end Go.Proofs.YtipjfckmopekaaaGreatDoor.Tg

namespace Go.Proofs.YtipjfckmopekaaaGreatDoor.Am
open Go Bt

def Ez (E:AV→Prop)(sz:Nat)(x:AV):Prop:=E x∧∃l,x=.agg l∧l.length=sz∧AV.rfL l=true∧l.all AV.leaf=true∧∀m,AV.stillL false m l=some l

variable {E:AV→Prop}

theorem Ez.part {sz:Nat}{x:AV}(h:Ez E sz x):Am.part x.cells 0 (some sz)=some x:=by
 obtain⟨_,l,rfl,rfl,_,_,_⟩:=h;simp[Am.part,AV.cells]
theorem Ez.len {sz:Nat}{x:AV}(h:Ez E sz x):x.cells.length=sz:=by
 obtain⟨_,l,rfl,rfl,_,_,_⟩:=h;rfl
theorem Ez.leaf {sz:Nat}{x:AV}(h:Ez E sz x):x.cells.all AV.leaf=true:=by
 obtain⟨_,l,rfl,_,_,h,_⟩:=h;exact h
theorem Ez.rf {sz:Nat}{x:AV}(h:Ez E sz x):x.rf=true:=by
 obtain⟨_,l,rfl,_,h,_,_⟩:=h;exact h

theorem Ez.still {sz:Nat}{x:AV}(h:Ez E sz x)(m:Ql):x.still false m=some x:=by
 obtain⟨_,l,rfl,_,_,_,h⟩:=h;simp only[AV.still,h m,QMU]
theorem Wh {sz:Nat}{x y:AV}(h:Ez E sz x)(k:Ez E sz y)(m:Ql):AV.stillL false m [x,y]=some [x,y]:=by
 simp only[AV.stillL,h.still,k.still]
theorem Kd {sz:Nat}{x y:AV}(h:Ez E sz x)(k:Ez E sz y):AV.rfL [x,y]=true:=by
 simp only[AV.rfL,h.rf,k.rf,Bool.and_self]

theorem KA {P:Program}{f:Fr}{m:Ql}{ds:List DF}{Qe:List Item}{d:Nat}{K:St→Prop}{k:Nat}{r:RA}{args:List RA}{ys:List AV}{v:AV}(hr:r.ev f=.fn (.func k) [] [])(hk:Qp P k ys v)(hy:AV.stillL false m (args.map (RA.ev f))=some ys)(h1:AV.rfL ys=true)(h2:v.rf=true)(h3:AV.rfL (args.map (RA.ev f))=true∨v.nl=true)(h:QD P Qe ⟨QI f d v,m,ds⟩ K) :
  QD P (⟨some d,.call r args,none⟩ :: Qe) ⟨f,m,ds⟩ K:=by
 refine⟨k,[],[],ys,v,hr,?_,h1,hk,h2,?_,h⟩
 ·simpa using hy
 ·simpa using h3

theorem KG:∀ {m:Ql} {l s:Nat} {o o':Ob},Am.put (Am.put m l s o) l s o'=Am.put m l s o'
 | [],_,_,_,_=>rfl
 |fr :: m,0,s,o,o'=>by simp only[Am.put,upd_upd']
 |fr :: m,l+1,s,o,o'=>by simp only[Am.put,KG (m:=m)]
where
 upd_upd' {f:Nat→Ob} {d:Nat} {x y:Ob}:QI (QI f d x) d y=QI f d y:=by
  funext i;simp only[QI];cases Nat.beq i d<;>rfl

theorem Z6:∀ {m:Ql} {l s:Nat} {o:Ob},Qg m l s=o→Am.put m l s o=m
 | [],_,_,_,_=>rfl
 |fr :: m,0,s,o,h=>by
  simp only[Am.put];congr 1
  funext i;simp only[QI];cases hb:Nat.beq i s with
  |false=>rfl
  |true=>rw[QL1 hb];exact h.symm
 |fr :: m,l+1,s,o,h=>by simp only[Am.put,Z6 (m:=m) h]

section
variable {m:Ql}{fr:Nat→Ob}{lv s g sz n i:Nat}{cur:List AV}{x y:AV}

theorem Kp (hlv:lv<m.length)(hx:cur[i]? = some x)(he:Ez E sz x):Q4 (fr :: Am.put m lv s (.vec g sz cur)) (some sz) (.vptr (lv+1) s g i 0)=some x:=by
 have e:Qg (fr :: Am.put m lv s (.vec g sz cur)) (lv+1) s=.vec g sz cur:=Qx hlv;simp only[Q4,e,if_true,hx,he.part]

theorem YK (hlv:lv<m.length)(hx:cur[i]? = some x)(he:Ez E sz x)(hy:Ez E sz y)(h0:sz≠0):QU (fr :: Am.put m lv s (.vec g sz cur)) (.vptr (lv+1) s g i 0) y.cells=some (fr :: Am.put m lv s (.vec g sz (cur.set i y))):=by
 have e:Qg (fr :: Am.put m lv s (.vec g sz cur)) (lv+1) s=.vec g sz cur:=Qx hlv;obtain⟨_,l,rfl,hl,_,_,_⟩:=he;obtain⟨_,k,rfl,hk,hf,_,_⟩:=hy;have hc:0+(AV.agg k).cells.length≤(AV.agg l).cells.length∧(AV.agg k).cells.length≠0∧AV.rfL (AV.agg k).cells=true:=by
  simp only[AV.cells];exact⟨by omega,by omega,hf⟩
 simp only[QU,e,if_true,hx,QMy hc];have hs:splice l 0 k=k:=by
  simp only[splice,QNc,QMs,QML];rw[QMG (by omega),QM7]
 simp only[Zq,AV.cells,hs,Am.put,KG]

theorem Kq (hlv:lv<m.length)(hi:i<n):Qd (fr :: Am.put m lv s (.vec g sz cur)) sz none (.vec (lv+1) s g 0 n false) ((i:Nat):Int)=some (.vptr (lv+1) s g i 0):=by
 have e:Qg (fr :: Am.put m lv s (.vec g sz cur)) (lv+1) s=.vec g sz cur:=Qx hlv;simp only[Qd,e,QNt];rw[QMy (by omega),QMy ⟨trivial,trivial,hi⟩,QML]

end

theorem put_len:∀ {m:Ql} {l s:Nat} {o:Ob},(Am.put m l s o).length=m.length
 | [],_,_,_=>rfl
 |_ :: _,0,_,_=>rfl
 |fr :: m,l+1,s,o=>by simp only[Am.put,QMk,put_len (m:=m)]

end Go.Proofs.YtipjfckmopekaaaGreatDoor.Am

namespace Go.Proofs.YtipjfckmopekaaaGreatDoor.Tz
open Go Am Bt Tg
variable {Pg:Program}{cz sr ro sm is st ss:Nat}(hC:Tg.Cs Pg cz sr ro sm is st ss)(hcz:cz≠0)

variable {E:AV→Prop}

def SwI (X cur:List AV)(p q i:Nat):Prop :=
 cur.length=X.length∧∀j,cur[j]? = if p≤j∧j<p+i then X[q+(j-p)]? else if q≤j∧j<q+i then X[p+(j-q)]? else X[j]?

theorem SwI.step {X cur:List AV}{p q i n:Nat}(h:SwI X cur p q i)(hi:i<n)(hpq:p+n≤q)(hq:q+n≤X.length){x y:AV}(hx:X[q+i]? = some x)(hy:X[p+i]? = some y) :
  SwI X ((cur.set (p+i) x).set (q+i) y) p q (i+1):=by
 obtain⟨h1,h2⟩:=h;refine⟨by simp[h1],fun j=>?_⟩;rw[List.getElem?_set,List.length_set,h1,List.getElem?_set,h1,h2 j];by_cases a:q+i=j
 ·subst a;rw[QMy rfl,QMy (by omega),QMj (by omega),QMy (by omega),show p+(q+i-q)=p+i by omega,hy]
 ·rw[QMj a];by_cases b:p+i=j
  ·subst b;rw[QMy rfl,QMy (by omega),QMy (by omega),show q+(p+i-p)=q+i by omega,hx]
  ·rw[QMj b]
   repeat' split
   all_goals first|rfl|(exfalso;omega)|(congr 1;omega)

theorem SwI.done {P A M B S cur:List AV}(h:SwI (P++A++M++B++S) cur P.length (P.length+A.length+M.length) A.length)(hAB:A.length=B.length):cur=P++B++M++A++S:=by
 apply List.ext_getElem?
 intro j;rw[h.2 j];simp only[List.getElem?_append,QMH]
 repeat' split
 all_goals first|rfl|(exfalso;omega)|(congr 1;omega)

def SwS (cz:Nat)(m:Ql)(lv s g N p q n:Nat)(X:List AV)(k:Nat)(st:St):Prop :=
 ∃f i cur,st=⟨f,[Qc]++Am.put m lv s (.vec g cz cur),[]⟩∧k=n-i∧i≤n∧SwI X cur p q i∧
  f 0=.vec (lv+1) s g 0 N false∧f 1=.int .i64 (p:Nat)∧f 2=.int .i64 (q:Nat)∧f 3=.int .i64 (n:Nat)∧f 10=.int .i64 (i:Nat)

include hC hcz in
theorem QIu (cmp:AV)(lv s g:Nat)(P A M B S:List AV)(m:Ql)(hl:Am.Qg m lv s=.vec g cz (P++A++M++B++S))(hAB:A.length=B.length)(he:∀x∈P++A++M++B++S,Ez E cz x)
  (hn:(P++A++M++B++S).length<4611686018427387904) :
  Qh Pg sr [.vec lv s g 0 (P++A++M++B++S).length false,.int .i64 (P.length:Nat),.int .i64 ((P.length+A.length+M.length:Nat):Int),.int .i64 (A.length:Nat),cmp] m
   (fun x m1=>x=.tup []∧m1=Am.put m lv s (.vec g cz (P++B++M++A++S))):=by
 have _:=hC;have _:=hcz;have hlv:lv<m.length:=QV (by rw[hl];simp);have hlen:(P++A++M++B++S).length=P.length+A.length+M.length+B.length+S.length:=by simp only[QMH]
 refine hC.csr.go (by simp) ?_;simp only[Sb,rsr,osr,Qa,seval];have h0:m=Am.put m lv s (.vec g cz (P++A++M++B++S)):=(Z6 hl).symm;generalize hX:P++A++M++B++S=X at *;generalize hp:P.length=p at *;generalize hq:p+A.length+M.length=q at *;generalize hnn:A.length=n at *;refine Qf (SwS cz m lv s g X.length p q n X) _ ⟨_,0,X,by rw[←h0]<;>rfl,rfl,QMd _,⟨rfl,fun j=>?_⟩,by simp only[Qa,seval],by simp only[Qa,seval],by simp only[Qa,seval],by simp only[Qa,seval],by simp only[Qa,seval]<;>rfl⟩ ?_
 ·rw[QMj (by omega),QMj (by omega)]
 rintro k st ⟨f,i,cur,rfl,rfl,hi,hsw,f0,f1,f2,f3,f10⟩;simp only[Sf,Sc,Sd,Se,f3,f10,Qa,seval];by_cases hlt:i<n
 ·have d0:decide ((i:Int)<(n:Int))=true:=by simp;omega
  have e1:IntKind.i64.wrap ((p:Int)+(i:Int))=((p+i:Nat):Int):=by rw[QF];omega
  have e2:IntKind.i64.wrap ((q:Int)+(i:Int))=((q+i:Nat):Int):=by rw[QF];omega
  have e3:IntKind.i64.wrap ((i:Int)+1)=((i+1:Nat):Int):=by rw[QF];omega
  obtain⟨x,hx⟩:∃x,X[q+i]? = some x:=⟨_,QL6 (by omega)⟩;obtain⟨y,hy⟩:∃y,X[p+i]? = some y:=⟨_,QL6 (by omega)⟩;have ex:=he x (QMi hx);have ey:=he y (QMi hy);have cx:cur[q+i]? = some x:=by rw[hsw.2,QMj (by omega),QMj (by omega),hx]
  have cy:cur[p+i]? = some y:=by rw[hsw.2,QMj (by omega),QMj (by omega),hy]
  have cx':(cur.set (p+i) x)[q+i]? = some x:=by rw[QNW (by omega),cx]
  simp only[d0,e1,e2,e3,f0,f1,f2,f10,Kq hlv (show q+i<X.length by omega),Kq hlv (show p+i<X.length by omega),Kp hlv cx ex,Kp hlv cy ey,ex.len,ey.len,ex.leaf,ey.leaf,YK hlv cy ey ex hcz,YK hlv cx' ex ey hcz,Qa,seval];exact⟨n-(i+1),by omega,_,i+1,_,rfl,rfl,by omega,hsw.step hlt (by omega) (by omega) hx hy,by simp only[f0,Qa,seval],by simp only[f1,Qa,seval],by simp only[f2,Qa,seval],by simp only[f3,Qa,seval],by simp only[Qa,seval]⟩
 ·have d0:decide ((i:Int)<(n:Int))=false:=by simp;omega
  have hin:i=n:=by omega
  subst hin;have hc:=SwI.done (P:=P) (A:=A) (M:=M) (B:=B) (S:=S) (cur:=cur) (by rw[hX,hp,hnn,hq];exact hsw) (by omega);simp only[d0,hc,put_len,Qa,seval]

include hC hcz in
theorem GJ (cmp:AV){fr:Nat→Ob}{lv s g N a b n:Nat}(P A M B S:List AV){m:Ql}(hlv:lv<m.length)(hAB:A.length=B.length)(he:∀x∈P++A++M++B++S,Ez E cz x)
  (hn:(P++A++M++B++S).length<4611686018427387904) (hN:N=(P++A++M++B++S).length) (ha:a=P.length) (hb:b=P.length+A.length+M.length) (hc:n=A.length) :
  Qh Pg sr [.vec (lv+1) s g 0 N false,.int .i64 (a:Nat),.int .i64 (b:Nat),.int .i64 (n:Nat),cmp] (fr :: Am.put m lv s (.vec g cz (P++A++M++B++S)))
   (fun x m1=>x=.tup []∧m1=fr :: Am.put m lv s (.vec g cz (P++B++M++A++S))):=by
 have _:=hC;have _:=hcz;subst hN ha hb hc;refine(QIu hC hcz cmp (lv+1) s g P A M B S (fr :: Am.put m lv s (.vec g cz (P++A++M++B++S))) (Qx (m:=m) hlv) hAB he hn).mono fun x m1 h=>⟨h.1,?_⟩
 rw[h.2];simp only[Am.put,KG]

def RoS (cz:Nat)(E:AV→Prop)(m:Ql)(lv s g N mid:Nat)(T:List AV)(cmp:AV)(k:Nat)(st:St):Prop :=
 ∃f P A B S,st=⟨f,[Qc]++Am.put m lv s (.vec g cz (P++A++B++S)),[]⟩∧k=A.length+B.length∧0<A.length∧0<B.length∧P.length+A.length=mid∧P++B++A++S=T∧(P++A++B++S).length=N∧(∀x∈P++A++B++S,Ez E cz x)∧
  f 0=.vec (lv+1) s g 0 N false∧f 2=.int .i64 (mid:Nat)∧f 4=cmp∧f 10=.int .i64 (A.length:Nat)∧f 11=.int .i64 (B.length:Nat)

include hC hcz in
theorem QIv (cmp:AV)(lv s g:Nat)(P X Y S:List AV)(m:Ql)(hl:Am.Qg m lv s=.vec g cz (P++X++Y++S))(hX:0<X.length)(hY:0<Y.length)(he:∀x∈P++X++Y++S,Ez E cz x)
  (hn:(P++X++Y++S).length<4611686018427387904) :
  Qh Pg ro [.vec lv s g 0 (P++X++Y++S).length false,.int .i64 (P.length:Nat),.int .i64 ((P.length+X.length:Nat):Int),.int .i64 ((P.length+X.length+Y.length:Nat):Int),cmp] m
   (fun x m1=>x=.tup []∧m1=Am.put m lv s (.vec g cz (P++Y++X++S))):=by
 have _:=hC;have _:=hcz;have hlv:lv<m.length:=QV (by rw[hl];simp);have hlen:(P++X++Y++S).length=P.length+X.length+Y.length+S.length:=by simp only[QMH]
 refine hC.cro.go (by simp) ?_;have e1:IntKind.i64.wrap (((P.length+X.length:Nat):Int)-(P.length:Int))=((X.length:Nat):Int):=by rw[QF];omega
 have e2:IntKind.i64.wrap (((P.length+X.length+Y.length:Nat):Int)-((P.length+X.length:Nat):Int))=((Y.length:Nat):Int):=by rw[QF];omega
 simp only[Sg,Sh,Sq,rro,oro,e1,e2,Qa,seval];have h0:m=Am.put m lv s (.vec g cz (P++X++Y++S)):=(Z6 hl).symm;refine Qf (RoS cz E m lv s g (P++X++Y++S).length (P.length+X.length) (P++Y++X++S) cmp.sh) _ ⟨_,P,X,Y,S,by rw[←h0]<;>rfl,rfl,hX,hY,rfl,rfl,rfl,he,by simp only[Qa,seval],by simp only[Qa,seval],by simp only[Qa,seval],by simp only[Qa,seval],by simp only[Qa,seval]⟩ ?_;generalize hT:P++Y++X++S=T;generalize hN:(P++X++Y++S).length=N at *;generalize hmid:P.length+X.length=mid at *;clear hl he h0 hX hY e1 e2;rintro k st ⟨f,P',A,B,S',rfl,rfl,hA,hB,hm,hTT,hNN,hee,f0,f2,f4,f10,f11⟩;have hlen':(P'++A++B++S').length=P'.length+A.length+B.length+S'.length:=by simp only[QMH]
 simp only[Sp,Si,Sj,Sk,Sl,Sm,Sn,f10,f11,Qa,seval];by_cases hij:A.length=B.length
 ·have d0:((A.length:Int) != (B.length:Int))=false:=by simp;omega
  have e1:IntKind.i64.wrap ((mid:Int)-(A.length:Int))=((P'.length:Nat):Int):=by rw[QF];omega
  simp only[d0,e1,f0,f2,f4,f10,Qa,seval];have hc:=GJ hC hcz cmp.sh (fr:=Qc) (g:=g) (s:=s) (N:=N) (a:=P'.length) (b:=mid) (n:=A.length) P' A [] B S' hlv hij (by simpa using hee) (by simp only[QM7];omega) (by simp only[QM7];omega) rfl (by simp only[QM0];omega) rfl;simp only[QM7]at hc;refine Qi hc rfl ?_;simp only[hTT,put_len,Qa,seval]
 ·have d0:((A.length:Int) != (B.length:Int))=true:=by simp;omega
  simp only[d0,f10,f11,Qa,seval];by_cases hgt:B.length<A.length
  ·have d1:decide ((A.length:Int) > (B.length:Int))=true:=by simp;omega
   have e1:IntKind.i64.wrap ((mid:Int)-(A.length:Int))=((P'.length:Nat):Int):=by rw[QF];omega
   have e2:IntKind.i64.wrap ((A.length:Int)-(B.length:Int))=((A.length-B.length:Nat):Int):=by rw[QF];omega
   simp only[d1,e1,f0,f2,f4,f10,f11,Qa,seval];have hcut:P'++A++B++S'=P'++A.take B.length++A.drop B.length++B++S':=by
    rw[QMq P' (A.take _),QNi]
   have hl1:(A.take B.length).length=B.length:=by simp;omega
   rw[hcut]at hee hNN ⊢;refine Qi (GJ hC hcz cmp.sh (a:=P'.length) (b:=mid) (n:=B.length) P' (A.take B.length) (A.drop B.length) B S' hlv hl1 hee (by omega) hNN.symm rfl (by rw[hl1];simp;omega) hl1.symm) rfl ?_;simp only[e2,f10,f11,Qa,seval];have hcat:P'++B++A.drop B.length++A.take B.length++S'=(P'++B)++A.drop B.length++A.take B.length++S':=rfl;refine⟨(A.drop B.length).length+(A.take B.length).length,?_,_,P'++B,A.drop B.length,A.take B.length,S',rfl,rfl,by simp;omega,by omega,by simp;omega,?_,?_,?_,by simp only[f0,Qa,seval],by simp only[f2,Qa,seval],by simp only[f4,Qa,seval],by simp only[QMK,Qa,seval],by simp only[f11,hl1,Qa,seval]⟩
   ·simp;omega
   ·rw[←hTT];simp only[QMq];rw[←QMq (A.take _),QNi]
   ·rw[←hNN];simp only[QMH];omega
   ·intro x hx;refine hee x ?_;simp only[QNk]at hx ⊢
    grind
  ·have d1:decide ((A.length:Int) > (B.length:Int))=false:=by simp;omega
   have e1:IntKind.i64.wrap ((mid:Int)-(A.length:Int))=((P'.length:Nat):Int):=by rw[QF];omega
   have e2:IntKind.i64.wrap ((B.length:Int)-(A.length:Int))=((B.length-A.length:Nat):Int):=by rw[QF];omega
   have e3:IntKind.i64.wrap ((mid:Int)+(B.length:Int))=((mid+B.length:Nat):Int):=by rw[QF];omega
   have e4:IntKind.i64.wrap (((mid+B.length:Nat):Int)-(A.length:Int))=((mid+B.length-A.length:Nat):Int):=by rw[QF];omega
   simp only[d1,e1,e3,e4,f0,f2,f4,f10,f11,Qa,seval];have hcut:P'++A++B++S'=P'++A++B.take (B.length-A.length)++B.drop (B.length-A.length)++S':=by
    rw[QMq (P'++A) (B.take _),QNi]
   have hl1:(B.take (B.length-A.length)).length=B.length-A.length:=by simp
   have hl2:(B.drop (B.length-A.length)).length=A.length:=by simp;omega
   rw[hcut]at hee hNN ⊢;refine Qi (GJ hC hcz cmp.sh (a:=P'.length) (b:=mid+B.length-A.length) (n:=A.length) P' A (B.take (B.length-A.length)) (B.drop (B.length-A.length)) S' hlv hl2.symm hee (by omega) hNN.symm rfl (by rw[hl1];omega) rfl) rfl ?_;simp only[e2,f10,f11,Qa,seval];refine⟨(B.drop (B.length-A.length)).length+(B.take (B.length-A.length)).length,?_,_,P',B.drop (B.length-A.length),B.take (B.length-A.length),A++S',by simp only[QMq]<;>rfl,rfl,by omega,by omega,by omega,?_,?_,?_,by simp only[f0,Qa,seval],by simp only[f2,Qa,seval],by simp only[f4,Qa,seval],by simp only[f10,hl2,Qa,seval],by simp only[hl1,Qa,seval]⟩
   ·omega
   ·rw[←hTT];simp only[QMq];rw[←QMq (B.take _),QNi]
   ·rw[←hNN];simp only[QMH];omega
   ·intro x hx;refine hee x ?_;simp only[QNk]at hx ⊢
    grind

end Go.Proofs.YtipjfckmopekaaaGreatDoor.Tz

namespace Go.Proofs.YtipjfckmopekaaaGreatDoor.Tz
open Go Am Bt Tg So
variable {Pg:Program}{cz sr ro sm is st ss:Nat}(hC:Tg.Cs Pg cz sr ro sm is st ss)(hcz:cz≠0)

variable {E:AV→Prop}

def lt (c:AV→AV→Int)(x y:AV):Bool:=decide (c x y<0)

structure Cp (Pg:Program)(cz:Nat)(E:AV→Prop)(kc:Nat)(c:AV→AV→Int):Prop where
 call:∀x y,Ez E cz x→Ez E cz y→Qp Pg kc [x,y] (.int .i64 (c x y))
 sw:SW (lt c)

def InS (cz:Nat)(m:Ql)(lv s g N i p:Nat)(kc:Nat)(c:AV→AV→Int)(P L S:List AV)(x:AV)(k:Nat)(st:St):Prop :=
 ∃f U V,st=⟨f,[Qc]++Am.put m lv s (.vec g cz (P++U++[x]++V++S)),[]⟩∧k=U.length∧U++V=L∧(∀v∈V,lt c x v=true)∧
  f 0=.vec (lv+1) s g 0 N false∧f 1=.int .i64 (P.length:Nat)∧f 2=.int .i64 (p:Nat)∧f 3=.fn (.func kc) [] []∧f 8=.int .i64 (i:Nat)∧f 9=.int .i64 ((P.length+U.length:Nat):Int)

def IoS (cz:Nat)(m:Ql)(lv s g N:Nat)(kc:Nat)(c:AV→AV→Int)(P X S:List AV)(k:Nat)(st:St):Prop :=
 ∃f i,st=⟨f,[Qc]++Am.put m lv s (.vec g cz (P++QC (lt c) (X.take i)++X.drop i++S)),[]⟩∧k=X.length+1-i∧1≤i∧(i≤X.length∨(i=1∧X=[]))∧
  f 0=.vec (lv+1) s g 0 N false∧f 1=.int .i64 (P.length:Nat)∧f 2=.int .i64 ((P.length+X.length:Nat):Int)∧f 3=.fn (.func kc) [] []∧f 8=.int .i64 ((P.length+i:Nat):Int)

theorem Vu {α:Type}(U:List α)(h:0<U.length):∃W u,U=W++[u]:=by
 rcases List.eq_nil_or_concat U with rfl|⟨W,u,e⟩
 ·simp at h
 ·exact⟨W,u,by simpa using e⟩

theorem YL {α:Type}{P W V:List α}{u:α}{i:Nat}(h:i=P.length+W.length):(P++(W++[u])++V)[i]? = some u:=by
 subst h;simp

include hC hcz in
theorem QIw {kc:Nat}{c:AV→AV→Int}(hc:Cp Pg cz E kc c)(lv s g:Nat)(P X S:List AV)(m:Ql)(hl:Am.Qg m lv s=.vec g cz (P++X++S))(he:∀x∈P++X++S,Ez E cz x)
  (hn:(P++X++S).length<4611686018427387904) :
  Qh Pg is [.vec lv s g 0 (P++X++S).length false,.int .i64 (P.length:Nat),.int .i64 ((P.length+X.length:Nat):Int),.fn (.func kc) [] []] m
   (fun x m1=>x=.tup []∧m1=Am.put m lv s (.vec g cz (P++QC (lt c) X++S))):=by
 have _:=hC;have _:=hcz;have hlv:lv<m.length:=QV (by rw[hl];simp);have hlen:(P++X++S).length=P.length+X.length+S.length:=by simp only[QMH]
 refine hC.cis.go (by simp) ?_;have e1:IntKind.i64.wrap ((P.length:Int)+1)=((P.length+1:Nat):Int):=by rw[QF];omega
 simp only[SB,ris,ois,e1,Qa,seval];have h0:m=Am.put m lv s (.vec g cz (P++QC (lt c) (X.take 1)++X.drop 1++S)):=by
  have:P++QC (lt c) (X.take 1)++X.drop 1++S=P++X++S:=by
   cases X with
   |nil=>simp[QC]
   |cons x X=>simp[QC,Zn]
  rw[this];exact(Z6 hl).symm
 generalize hN:(P++X++S).length=N at *;refine Qf (IoS cz m lv s g N kc c P X S) _ ⟨_,1,by rw[←h0]<;>rfl,rfl,QL3 _,by
  cases X with
  |nil=>exact .inr ⟨rfl,rfl⟩
  |cons x X=>exact .inl (by simp),by simp only[Qa,seval],by simp only[Qa,seval],by simp only[Qa,seval],by simp only[Qa,seval],by simp only[Qa,seval]⟩ ?_
 clear h0 e1;rintro k st ⟨f,i,rfl,rfl,hi1,hi2,f0,f1,f2,f3,f8⟩;simp only[SH,SJ,SC,SD,SE,SF,SG,SI,f2,f8,Qa,seval];by_cases hlt:i<X.length
 ·have d0:decide (((P.length+i:Nat):Int)<((P.length+X.length:Nat):Int))=true:=by simp only[QMa];omega
  simp only[d0,f8,Qa,seval];obtain⟨x,hx⟩:∃x,X[i]? = some x:=⟨_,QL6 hlt⟩;have ex:Ez E cz x:=he x (by simp[QMi hx]);have hL:(QC (lt c) (X.take i)).length=i:=by rw[Z5,QM1];omega
  have heL:∀z∈QC (lt c) (X.take i),Ez E cz z:=fun z hz=>he z (by simp[QMS (YG hz)])
  have hdrop:X.drop i=[x]++X.drop (i+1):=by
   rw[List.singleton_append,QMN hlt];congr 1
   exact(QL5.1 hx).2
  have htake:QC (lt c) (X.take (i+1))=mg (lt c) (QC (lt c) (X.take i)) [x]:=by
   rw[QNK,hx,Option.toList_some,←UM hc.sw]<;>rfl
  refine Qf (InS cz m lv s g N (P.length+i) (P.length+X.length) kc c P (QC (lt c) (X.take i)) (X.drop (i+1)++S) x) _ ⟨_,QC (lt c) (X.take i),[],by rw[hdrop];simp only[QMq,QM7]<;>rfl,rfl,QM7 _,by simp,by simp only[f0,Qa,seval],by simp only[f1,Qa,seval],by simp only[f2,Qa,seval],by simp only[f3,Qa,seval],by simp only[f8,Qa,seval],by simp only[hL,Qa,seval]⟩ ?_;rintro k' st ⟨f,U,V,rfl,rfl,hUV,hV,f0,f1,f2,f3,f8,f9⟩;have hUVl:U.length+V.length=i:=by rw[←QMH,hUV,hL]
  have hrow:(P++U++[x]++V++(X.drop (i+1)++S)).length=N:=by
   rw[←hN];simp only[QMH,QMK,QNx];omega
  simp only[f1,f9,Qa,seval];have e4:IntKind.i64.wrap (((P.length+i:Nat):Int)+1)=((P.length+(i+1):Nat):Int):=by rw[QF];omega
  have fin:(∀u∈U,lt c x u=false)→P++U++[x]++V++(X.drop (i+1)++S)=P++QC (lt c) (X.take (i+1))++X.drop (i+1)++S:=by
   intro h;rw[htake,←hUV,FI h hV];simp
  by_cases hU:0<U.length
  ·obtain⟨W,u,rfl⟩:=Vu U hU;simp only[QMH,QNx]at hUVl hrow f9;have d1:decide (((P.length+(W.length+1):Nat):Int) > (P.length:Int))=true:=by simp only[QMa];omega
   have e2:IntKind.i64.wrap (((P.length+(W.length+1):Nat):Int)-1)=((P.length+W.length:Nat):Int):=by rw[QF];omega
   have eu:Ez E cz u:=heL u (by rw[←hUV];simp);have hx1:(P++(W++[u])++[x]++V++(X.drop (i+1)++S))[P.length+(W.length+1)]? = some x:=by
    have:=YL (P:=P) (W:=W++[u]) (u:=x) (V:=V++(X.drop (i+1)++S)) (i:=P.length+(W.length+1)) (by simp)
    simpa only [QMq]using this
   have hu1:(P++(W++[u])++[x]++V++(X.drop (i+1)++S))[P.length+W.length]? = some u:=by
    have:=YL (P:=P) (W:=W) (u:=u) (V:=[x]++V++(X.drop (i+1)++S)) (i:=P.length+W.length) rfl
    simpa only [QMq]using this
   simp only[d1,e2,f0,f3,f9,QMH,Kq hlv (show P.length+(W.length+1)<N by omega),Kq hlv (show P.length+W.length<N by omega),Kp hlv hx1 ex,Kp hlv hu1 eu,Qa,seval];refine KA (by simp only[Qa,seval]) (hc.call x u ex eu) (Wh ex eu _) (Kd ex eu) rfl (.inl (Kd ex eu)) ?_;cases hcx:decide (c x u<0)with
   |true=>
    have hset:((P++(W++[u])++[x]++V++(X.drop (i+1)++S)).set (P.length+(W.length+1)) u).set (P.length+W.length) x=P++W++[x]++([u]++V)++(X.drop (i+1)++S):=by
     simp[QMq]
    have hx2:((P++(W++[u])++[x]++V++(X.drop (i+1)++S)).set (P.length+(W.length+1)) u)[P.length+W.length]? = some u:=by
     rw[QNW (by omega),hu1]
    simp only[hcx,e2,f0,f9,Kq hlv (show P.length+(W.length+1)<N by omega),Kq hlv (show P.length+W.length<N by omega),Kp hlv hx1 ex,Kp hlv hu1 eu,ex.len,eu.len,ex.leaf,eu.leaf,YK hlv hx1 ex eu hcz,YK hlv hx2 eu ex hcz,Qa,seval];exact⟨W.length,by simp,_,W,[u]++V,by rw[hset]<;>rfl,rfl,by rw[←hUV];simp,by
     intro v hv;rcases QNk.1 hv with hv|hv
     ·rw[QN0.1 hv];exact hcx
     ·exact hV v hv,by simp only[f0,Qa,seval],by simp only[f1,Qa,seval],by simp only[f2,Qa,seval],by simp only[f3,Qa,seval],by simp only[f8,Qa,seval],by simp only[Qa,seval]⟩
   |false=>
    have hz:∀z∈W++[u],lt c x z=false:=by
     have hsrt:=Z4 hc.sw (X.take i);have hsrt:Zo (lt c) ((W++[u])++V):=by rw[hUV];exact hsrt
     have hs2:=(List.pairwise_append.1 (List.pairwise_append.1 hsrt).1).2.2;intro z hz;rcases QNk.1 hz with hz|hz
     ·exact hc.sw.nt x u z hcx (hs2 z hz u (by simp))
     ·rw[QN0.1 hz];exact hcx
    simp only[hcx,f8,e4,Qa,seval];exact⟨X.length+1-(i+1),by omega,_,i+1,by rw[fin hz]<;>rfl,rfl,by omega,.inl (by omega),by simp only[f0,Qa,seval],by simp only[f1,Qa,seval],by simp only[f2,Qa,seval],by simp only[f3,Qa,seval],by simp only[Qa,seval]⟩
  ·have hU0:U=[]:=QM8 (by omega);subst hU0;have d1:decide (((P.length+0:Nat):Int) > (P.length:Int))=false:=by simp
   have fin0:=fin (by simp);simp only[QM7]at fin0;simp only[QM0]at f9;simp only[d1,f8,e4,QM0,Qa,seval];exact⟨X.length+1-(i+1),by omega,_,i+1,by rw[fin0]<;>rfl,rfl,by omega,.inl (by omega),by simp only[f0,Qa,seval],by simp only[f1,Qa,seval],by simp only[f2,Qa,seval],by simp only[f3,Qa,seval],by simp only[Qa,seval]⟩
 ·have d0:decide (((P.length+i:Nat):Int)<((P.length+X.length:Nat):Int))=false:=by simp only[QNR];omega
  have hX:QC (lt c) (X.take i)++X.drop i=QC (lt c) X:=by
   rcases hi2 with h|⟨_,rfl⟩
   ·rw[QMD (by omega),QMG (by omega),QM7]
   ·simp[QC]
  have hX2:P++QC (lt c) (X.take i)++X.drop i++S=P++QC (lt c) X++S:=by rw[QMq P (QC (lt c) (X.take i)) (X.drop i),hX]
  simp only[d0,hX2,put_len,Qa,seval]

end Go.Proofs.YtipjfckmopekaaaGreatDoor.Tz

namespace Go.Proofs.YtipjfckmopekaaaGreatDoor.Tz
open Go Am Bt Tg So
variable {Pg:Program}{cz sr ro sm is st ss:Nat}(hC:Tg.Cs Pg cz sr ro sm is st ss)(hcz:cz≠0)

variable {E:AV→Prop}

theorem Vv (a b:Nat)(h:a+b<9223372036854775808):IntKind.i64.wrap ((IntKind.u64.wrap ((a+b:Nat):Int)).fdiv (2 ^ min 1 64))=(((a+b) / 2:Nat):Int):=by
 rw[QF,Gx,show min 1 64=1 from rfl,show(2:Int) ^ 1=2 from rfl];have:(((a+b:Nat):Int) % 18446744073709551616)=((a+b:Nat):Int):=by omega
 rw[this,QN5 _ (by omega)];omega

def SaS (cz:Nat)(m:Ql)(lv s g N:Nat)(kc:Nat)(c:AV→AV→Int)(P Y S:List AV)(x:AV)(k:Nat)(st:St):Prop :=
 ∃f i j,st=⟨f,[Qc]++Am.put m lv s (.vec g cz (P++[x]++Y++S)),[]⟩∧k=j-i∧i≤j∧j≤Y.length∧(∀k y,k<i→Y[k]? = some y→lt c y x=true)∧(∀k y,j≤k→Y[k]? = some y→lt c y x=false)∧
  f 0=.vec (lv+1) s g 0 N false∧f 1=.int .i64 (P.length:Nat)∧f 4=.fn (.func kc) [] []∧f 10=.int .i64 ((P.length+1+i:Nat):Int)∧f 11=.int .i64 ((P.length+1+j:Nat):Int)

def SaT (cz:Nat)(m:Ql)(lv s g N i:Nat)(P Y S:List AV)(x:AV)(k:Nat)(st:St):Prop :=
 ∃f t,st=⟨f,[Qc]++Am.put m lv s (.vec g cz (P++Y.take t++[x]++Y.drop t++S)),[]⟩∧k=i-t∧t≤i∧
  f 0=.vec (lv+1) s g 0 N false∧f 10=.int .i64 ((P.length+1+i:Nat):Int)∧f 13=.int .i64 ((P.length+t:Nat):Int)

include hC hcz in
theorem QIx {kc:Nat}{c:AV→AV→Int}(hc:Cp Pg cz E kc c)(lv s g:Nat)(P:List AV)(x:AV)(Y S:List AV)(m:Ql)(hl:Am.Qg m lv s=.vec g cz (P++[x]++Y++S))(he:∀z∈P++[x]++Y++S,Ez E cz z)
  (hn:(P++[x]++Y++S).length<4611686018427387904) (hY:Zo (lt c) Y) :
  Qh Pg sm [.vec lv s g 0 (P++[x]++Y++S).length false,.int .i64 (P.length:Nat),.int .i64 ((P.length+1:Nat):Int),.int .i64 ((P.length+1+Y.length:Nat):Int),.fn (.func kc) [] []] m
   (fun v m1=>v=.tup []∧m1=Am.put m lv s (.vec g cz (P++mg (lt c) [x] Y++S))):=by
 have _:=hC;have _:=hcz;have hlv:lv<m.length:=QV (by rw[hl];simp);have hlen:(P++[x]++Y++S).length=P.length+1+Y.length+S.length:=by simp only[QMH,QNx]
 have ex:Ez E cz x:=he x (by simp);have eY:∀y∈Y,Ez E cz y:=fun y hy=>he y (by simp[hy])
 refine hC.csm.go (by simp) ?_;have e1:IntKind.i64.wrap (((P.length+1:Nat):Int)-(P.length:Int))=1:=by rw[QF];omega
 simp only[Dr,Vo,Vq,Vr,HP,FN,FO,FU,HQ,HR,HS,HT,HU,HV,HW,HX,HY,WF,WG,WH,KV,KW,JK,JL,SA,H6,e1,beq_self_eq_true,Qa,seval];have h0:m=Am.put m lv s (.vec g cz (P++[x]++Y++S)):=(Z6 hl).symm;generalize hN:(P++[x]++Y++S).length=N at *;refine Qf (SaS cz m lv s g N kc c P Y S x) _ ⟨_,0,Y.length,by rw[←h0]<;>rfl,rfl,QMd _,QL3 _,(by intro k y hk;exact absurd hk (Nat.not_lt_zero _)),(by intro k y hk hy;rw[QNq hk]at hy;cases hy),by simp only[Qa,seval],by simp only[Qa,seval],by simp only[Qa,seval],by simp only[QMA,Qa,seval],by simp only[Qa,seval]⟩ ?_;clear h0 e1;rintro k st ⟨f,i,j,rfl,rfl,hij,hj,hp,hq,f0,f1,f4,f10,f11⟩;simp only[Sx,Sz,Vs,Vt,H5,Sr,Ss,Su,Sv,Sw,Sy,Mw,Mx,FP,FQ,FR,FS,FT,FV,FX,FY,HZ,H1,H2,H3,H4,f10,f11,Qa,seval];by_cases hlt:i<j
 ·have d0:decide (((P.length+1+i:Nat):Int)<((P.length+1+j:Nat):Int))=true:=by simp only[QMa];omega
  have e2:IntKind.i64.wrap (((P.length+1+i:Nat):Int)+((P.length+1+j:Nat):Int))=(((P.length+1+i)+(P.length+1+j):Nat):Int):=by rw[QF];omega
  have e3:=Vv (P.length+1+i) (P.length+1+j) (by omega);have e4:((P.length+1+i)+(P.length+1+j)) / 2=P.length+1+(i+j) / 2:=by omega
  rw[e4]at e3;generalize hh:(i+j) / 2=h at *;have hh1:h<j:=by omega
  have hh2:i≤h:=by omega
  have e5:IntKind.i64.wrap (((P.length+1+h:Nat):Int)+1)=((P.length+1+(h+1):Nat):Int):=by rw[QF];omega
  obtain⟨y,hy⟩:∃y,Y[h]? = some y:=⟨_,QL6 (by omega)⟩;have ey:=eY y (QMi hy);have gy:(P++[x]++Y++S)[P.length+1+h]? = some y:=by
   rw[QNr (by simp only[QMH,QNx];omega),QNs (by simp only[QMH,QNx];omega)];rw[←hy];congr 1;simp only[QMH,QNx];omega
  have gx:(P++[x]++Y++S)[P.length]? = some x:=by
   have:=YL (P:=P) (W:=[]) (u:=x) (V:=Y++S) (i:=P.length) rfl
   simpa only [QMq,QMs]using this
  simp only[d0,e2,e3,f0,f1,f4,f10,f11,Kq hlv (show P.length+1+h<N by omega),Kq hlv (show P.length<N by omega),Kp hlv gy ey,Kp hlv gx ex,Qa,seval];refine KA (by simp only[Qa,seval]) (hc.call y x ey ex) (Wh ey ex _) (Kd ey ex) rfl (.inl (Kd ey ex)) ?_;cases hcx:decide (c y x<0)with
  |true=>
   simp only[hcx,e5,Qa,seval];exact⟨j-(h+1),by omega,_,h+1,j,rfl,rfl,by omega,hj,fun k z hk hz=>J0 hc.sw hY (Nat.le_of_lt_succ hk) hz hy hcx,hq,by simp only[f0,Qa,seval],by simp only[f1,Qa,seval],by simp only[f4,Qa,seval],by simp only[Qa,seval],by simp only[f11,Qa,seval]⟩
  |false=>
   simp only[hcx,Qa,seval];exact⟨h-i,by omega,_,i,h,rfl,rfl,by omega,by omega,hp,fun k z hk hz=>by
    cases hb:lt c z x with
    |false=>rfl
    |true=>exact absurd (J0 hc.sw hY hk hy hz hb) (by show ¬(decide _=true);rw[hcx];simp),by simp only[f0,Qa,seval],by simp only[f1,Qa,seval],by simp only[f4,Qa,seval],by simp only[f10,Qa,seval],by simp only[Qa,seval]⟩
 ·have d0:decide (((P.length+1+i:Nat):Int)<((P.length+1+j:Nat):Int))=false:=by simp only[QNR];omega
  have hij':j=i:=by omega
  subst hij';simp only[d0,f1,Qa,seval];have hres:mg (lt c) [x] Y=Y.take j++x :: Y.drop j:=by
   have:=Ir (lt:=lt c) (x:=x) (Y1:=Y.take j) (Y2:=Y.drop j) (fun y hy=>by
    obtain⟨k,hk⟩:=QN6 hy;rw[QMI]at hk;split at hk
    ·rename_i h;exact hp k y h hk
    ·cases hk) (fun y hy=>by
    obtain⟨k,hk⟩:=QN6 hy;rw[QMJ]at hk;exact hq _ y (by omega) hk)
   rwa [QNi]at this
  refine Qf (SaT cz m lv s g N j P Y S x) _ ⟨_,0,by rw[show P++Y.take 0++[x]++Y.drop 0++S=P++[x]++Y++S by simp]<;>rfl,rfl,QMd _,by simp only[f0,Qa,seval],by simp only[f10,Qa,seval],by simp only[QMA,Qa,seval]⟩ ?_;clear f0 f1 f4 f10 f11 d0 hp hq f;rintro k st ⟨f,t,rfl,rfl,ht,f0,f10,f13⟩;have e6:IntKind.i64.wrap (((P.length+1+j:Nat):Int)-1)=((P.length+j:Nat):Int):=by rw[QF];omega
  have e7:IntKind.i64.wrap (((P.length+t:Nat):Int)+1)=((P.length+(t+1):Nat):Int):=by rw[QF];omega
  simp only[e6,f10,f13,Qa,seval];by_cases hlt:t<j
  ·have d0:decide (((P.length+t:Nat):Int)<((P.length+j:Nat):Int))=true:=by simp only[QMa];omega
   obtain⟨y,hy⟩:∃y,Y[t]? = some y:=⟨_,QL6 (by omega)⟩;have ey:=eY y (QMi hy);have hdrop:Y.drop t=[y]++Y.drop (t+1):=by
    rw[List.singleton_append,QMN (by omega)];congr 1
    exact(QL5.1 hy).2
   have htake:Y.take (t+1)=Y.take t++[y]:=by rw[QNK,hy]<;>rfl
   have hlt':(Y.take t).length=t:=by rw[QM1];omega
   have g1:(P++Y.take t++[x]++Y.drop t++S)[P.length+t]? = some x:=by
    have:=YL (P:=P) (W:=Y.take t) (u:=x) (V:=Y.drop t++S) (i:=P.length+t) (by rw[hlt'])
    simpa only [QMq]using this
   have g2:(P++Y.take t++[x]++Y.drop t++S)[P.length+(t+1)]? = some y:=by
    have:=YL (P:=P) (W:=Y.take t++[x]) (u:=y) (V:=Y.drop (t+1)++S) (i:=P.length+(t+1)) (by rw[QMH,hlt']<;>rfl);rw[hdrop]
    simpa only [QMq]using this
   have g3:((P++Y.take t++[x]++Y.drop t++S).set (P.length+t) y)[P.length+(t+1)]? = some y:=by
    rw[QNW (by omega),g2]
   have hset:((P++Y.take t++[x]++Y.drop t++S).set (P.length+t) y).set (P.length+(t+1)) x=P++Y.take (t+1)++[x]++Y.drop (t+1)++S:=by
    rw[hdrop,htake];simp[hlt']
   simp only[d0,e7,f0,f13,Kq hlv (show P.length+(t+1)<N by omega),Kq hlv (show P.length+t<N by omega),Kp hlv g1 ex,Kp hlv g2 ey,ex.len,ey.len,ex.leaf,ey.leaf,YK hlv g1 ex ey hcz,YK hlv g3 ey ex hcz,Qa,seval];exact⟨j-(t+1),by omega,_,t+1,by rw[hset]<;>rfl,rfl,by omega,by simp only[f0,Qa,seval],by simp only[f10,Qa,seval],by simp only[Qa,seval]⟩
  ·have d0:decide (((P.length+t:Nat):Int)<((P.length+j:Nat):Int))=false:=by simp only[QNR];omega
   have htj:t=j:=by omega
   subst htj;have hfin:P++Y.take t++[x]++Y.drop t++S=P++mg (lt c) [x] Y++S:=by rw[hres];simp
   simp only[d0,hfin,put_len,Qa,seval]

end Go.Proofs.YtipjfckmopekaaaGreatDoor.Tz

namespace Go.Proofs.YtipjfckmopekaaaGreatDoor.Tz
open Go Am Bt Tg So
variable {Pg:Program}{cz sr ro sm is st ss:Nat}(hC:Tg.Cs Pg cz sr ro sm is st ss)(hcz:cz≠0)

variable {E:AV→Prop}

def SbS (cz:Nat)(m:Ql)(lv s g N:Nat)(kc:Nat)(c:AV→AV→Int)(P X S:List AV)(y:AV)(k:Nat)(st:St):Prop :=
 ∃f i j,st=⟨f,[Qc]++Am.put m lv s (.vec g cz (P++X++[y]++S)),[]⟩∧k=j-i∧i≤j∧j≤X.length∧(∀k x,k<i→X[k]? = some x→lt c y x=false)∧(∀k x,j≤k→X[k]? = some x→lt c y x=true)∧
  f 0=.vec (lv+1) s g 0 N false∧f 2=.int .i64 ((P.length+X.length:Nat):Int)∧f 4=.fn (.func kc) [] []∧f 14=.int .i64 ((P.length+i:Nat):Int)∧f 15=.int .i64 ((P.length+j:Nat):Int)

def SbT (cz:Nat)(m:Ql)(lv s g N i:Nat)(P X S:List AV)(y:AV)(k:Nat)(st:St):Prop :=
 ∃f t,st=⟨f,[Qc]++Am.put m lv s (.vec g cz (P++X.take t++[y]++X.drop t++S)),[]⟩∧k=t-i∧i≤t∧t≤X.length∧
  f 0=.vec (lv+1) s g 0 N false∧f 14=.int .i64 ((P.length+i:Nat):Int)∧f 17=.int .i64 ((P.length+t:Nat):Int)

include hC hcz in
theorem QIy {kc:Nat}{c:AV→AV→Int}(hc:Cp Pg cz E kc c)(lv s g:Nat)(P X:List AV)(y:AV)(S:List AV)(m:Ql)(hl:Am.Qg m lv s=.vec g cz (P++X++[y]++S))(he:∀x∈P++X++[y]++S,Ez E cz x)
  (hn:(P++X++[y]++S).length<4611686018427387904) (hX:Zo (lt c) X) (hX1:X.length≠1) :
  Qh Pg sm [.vec lv s g 0 (P++X++[y]++S).length false,.int .i64 (P.length:Nat),.int .i64 ((P.length+X.length:Nat):Int),.int .i64 ((P.length+X.length+1:Nat):Int),.fn (.func kc) [] []] m
   (fun v m1=>v=.tup []∧m1=Am.put m lv s (.vec g cz (P++mg (lt c) X [y]++S))):=by
 have _:=hC;have _:=hcz;have hlv:lv<m.length:=QV (by rw[hl];simp);have hlen:(P++X++[y]++S).length=P.length+X.length+1+S.length:=by simp only[QMH,QNx]
 have ey:Ez E cz y:=he y (by simp);have eX:∀x∈X,Ez E cz x:=fun x hx=>he x (by simp[hx])
 refine hC.csm.go (by simp) ?_;have e1:(IntKind.i64.wrap (((P.length+X.length:Nat):Int)-(P.length:Int))==1)=false:=by rw[QF];simp only[QNI,ne_eq];omega
 have e2:(IntKind.i64.wrap (((P.length+X.length+1:Nat):Int)-((P.length+X.length:Nat):Int))==1)=true:=by rw[QF];simp only[QMb];omega
 simp only[Dr,Vo,Vq,Vr,HP,FN,FO,FU,HQ,HR,HS,HT,HU,HV,HW,HX,HY,WF,WG,WH,KV,KW,JK,JL,SA,H6,e1,e2,Qa,seval];have h0:m=Am.put m lv s (.vec g cz (P++X++[y]++S)):=(Z6 hl).symm;generalize hN:(P++X++[y]++S).length=N at *;refine Qf (SbS cz m lv s g N kc c P X S y) _ ⟨_,0,X.length,by rw[←h0]<;>rfl,rfl,QMd _,QL3 _,(by intro k y hk;exact absurd hk (Nat.not_lt_zero _)),(by intro k y hk hy;rw[QNq hk]at hy;cases hy),by simp only[Qa,seval],by simp only[Qa,seval],by simp only[Qa,seval],by simp only[QMA,Qa,seval],by simp only[Qa,seval]⟩ ?_;clear h0 e1 e2;rintro k st ⟨f,i,j,rfl,rfl,hij,hj,hp,hq,f0,f2,f4,f14,f15⟩;simp only[Vs,Vt,H5,FP,FQ,FR,FS,FT,FV,FX,FY,HZ,H1,H2,H3,H4,f14,f15,Qa,seval];by_cases hlt:i<j
 ·have d0:decide (((P.length+i:Nat):Int)<((P.length+j:Nat):Int))=true:=by simp only[QMa];omega
  have e2:IntKind.i64.wrap (((P.length+i:Nat):Int)+((P.length+j:Nat):Int))=(((P.length+i)+(P.length+j):Nat):Int):=by rw[QF];omega
  have e3:=Vv (P.length+i) (P.length+j) (by omega);have e4:((P.length+i)+(P.length+j)) / 2=P.length+(i+j) / 2:=by omega
  rw[e4]at e3;generalize hh:(i+j) / 2=h at *;have hh1:h<j:=by omega
  have hh2:i≤h:=by omega
  have e5:IntKind.i64.wrap (((P.length+h:Nat):Int)+1)=((P.length+(h+1):Nat):Int):=by rw[QF];omega
  obtain⟨x,hx⟩:∃x,X[h]? = some x:=⟨_,QL6 (by omega)⟩;have ex:=eX x (QMi hx);have gx:(P++X++[y]++S)[P.length+h]? = some x:=by
   rw[QMq,QMq,QNs (by omega),QNr (by omega),←hx];congr 1;omega
  have gy:(P++X++[y]++S)[P.length+X.length]? = some y:=by
   have:=YL (P:=P) (W:=X) (u:=y) (V:=S) (i:=P.length+X.length) rfl
   simpa only [QMq]using this
  simp only[d0,e2,e3,f0,f2,f4,f14,f15,Kq hlv (show P.length+h<N by omega),Kq hlv (show P.length+X.length<N by omega),Kp hlv gy ey,Kp hlv gx ex,Qa,seval];refine KA (by simp only[Qa,seval]) (hc.call y x ey ex) (Wh ey ex _) (Kd ey ex) rfl (.inl (Kd ey ex)) ?_;cases hcx:decide (c y x<0)with
  |true=>
   simp only[hcx,Qa,seval];exact⟨h-i,by omega,_,i,h,rfl,rfl,by omega,by omega,hp,fun k z hk hz=>by
    have:=WA hX hc.sw hk hx hz;cases hb:lt c y z with
    |true=>rfl
    |false=>exact absurd (hc.sw.nt y z x hb this) (by show ¬(decide _=false);rw[hcx];simp),by simp only[f0,Qa,seval],by simp only[f2,Qa,seval],by simp only[f4,Qa,seval],by simp only[f14,Qa,seval],by simp only[Qa,seval]⟩
  |false=>
   simp only[hcx,e5,Qa,seval];exact⟨j-(h+1),by omega,_,h+1,j,rfl,rfl,by omega,hj,fun k z hk hz=>hc.sw.nt y x z hcx (WA hX hc.sw (Nat.le_of_lt_succ hk) hz hx),hq,by simp only[f0,Qa,seval],by simp only[f2,Qa,seval],by simp only[f4,Qa,seval],by simp only[Qa,seval],by simp only[f15,Qa,seval]⟩
 ·have d0:decide (((P.length+i:Nat):Int)<((P.length+j:Nat):Int))=false:=by simp only[QNR];omega
  have hij':j=i:=by omega
  subst hij';simp only[d0,f2,Qa,seval];have hres:mg (lt c) X [y]=X.take j++y :: X.drop j:=by
   have:=FI (lt:=lt c) (y:=y) (X1:=X.take j) (X2:=X.drop j) (fun x hx=>by
    obtain⟨k,hk⟩:=QN6 hx;rw[QMI]at hk;split at hk
    ·rename_i h;exact hp k x h hk
    ·cases hk) (fun x hx=>by
    obtain⟨k,hk⟩:=QN6 hx;rw[QMJ]at hk;exact hq _ x (by omega) hk)
   rwa [QNi]at this
  refine Qf (SbT cz m lv s g N j P X S y) _ ⟨_,X.length,by rw[show P++X.take X.length++[y]++X.drop X.length++S=P++X++[y]++S by simp]<;>rfl,rfl,hj,QL3 _,by simp only[f0,Qa,seval],by simp only[f14,Qa,seval],by simp only[Qa,seval]⟩ ?_;clear f0 f2 f4 f14 f15 d0 hp hq f;rintro k st ⟨f,t,rfl,rfl,ht,htl,f0,f14,f17⟩;simp only[f14,f17,Qa,seval];by_cases hlt:j<t
  ·have d0:decide (((P.length+t:Nat):Int) > ((P.length+j:Nat):Int))=true:=by simp only[QMa];omega
   obtain⟨r,rfl⟩:∃r,t=r+1:=⟨t-1,by omega⟩;have e7:IntKind.i64.wrap (((P.length+(r+1):Nat):Int)-1)=((P.length+r:Nat):Int):=by rw[QF];omega
   obtain⟨x,hx⟩:∃x,X[r]? = some x:=⟨_,QL6 (by omega)⟩;have ex:=eX x (QMi hx);have hdrop:X.drop r=[x]++X.drop (r+1):=by
    rw[List.singleton_append,QMN (by omega)];congr 1
    exact(QL5.1 hx).2
   have htake:X.take (r+1)=X.take r++[x]:=by rw[QNK,hx]<;>rfl
   have hlt':(X.take r).length=r:=by rw[QM1];omega
   have g1:(P++X.take (r+1)++[y]++X.drop (r+1)++S)[P.length+r]? = some x:=by
    have:=YL (P:=P) (W:=X.take r) (u:=x) (V:=[y]++X.drop (r+1)++S) (i:=P.length+r) (by rw[hlt']);rw[htake]
    simpa only [QMq]using this
   have g2:(P++X.take (r+1)++[y]++X.drop (r+1)++S)[P.length+(r+1)]? = some y:=by
    have:=YL (P:=P) (W:=X.take (r+1)) (u:=y) (V:=X.drop (r+1)++S) (i:=P.length+(r+1)) (by rw[QM1];omega)
    simpa only [QMq]using this
   have g3:((P++X.take (r+1)++[y]++X.drop (r+1)++S).set (P.length+(r+1)) x)[P.length+r]? = some x:=by
    rw[QNW (by omega),g1]
   have hset:((P++X.take (r+1)++[y]++X.drop (r+1)++S).set (P.length+(r+1)) x).set (P.length+r) y=P++X.take r++[y]++X.drop r++S:=by
    rw[hdrop,htake];simp[hlt']
   simp only[d0,e7,f0,f17,Kq hlv (show P.length+(r+1)<N by omega),Kq hlv (show P.length+r<N by omega),Kp hlv g1 ex,Kp hlv g2 ey,ex.len,ey.len,ex.leaf,ey.leaf,YK hlv g2 ey ex hcz,YK hlv g3 ex ey hcz,Qa,seval];exact⟨r-j,by omega,_,r,by rw[hset]<;>rfl,rfl,by omega,by omega,by simp only[f0,Qa,seval],by simp only[f14,Qa,seval],by simp only[Qa,seval]⟩
  ·have d0:decide (((P.length+t:Nat):Int) > ((P.length+j:Nat):Int))=false:=by simp only[QNR];omega
   have htj:t=j:=by omega
   subst htj;have hfin:P++X.take t++[y]++X.drop t++S=P++mg (lt c) X [y]++S:=by rw[hres];simp
   simp only[d0,hfin,put_len,Qa,seval]

end Go.Proofs.YtipjfckmopekaaaGreatDoor.Tz

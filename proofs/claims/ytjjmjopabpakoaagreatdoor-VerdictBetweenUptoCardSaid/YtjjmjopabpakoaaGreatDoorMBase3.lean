/- Parts of the proof, in order. -/
import Derived.Test.YtjjmjopabpakoaaGreatDoorMBase2

set_option linter.unusedSimpArgs false
namespace Go.Proofs.YtjjmjopabpakoaaGreatDoor.Va
open Go Am Rc Bt Br Up So

def Nd (l:List Int):Int:=l.foldl (fun a t=>a+(2:Int) ^ t.toNat) 0
def Hm (x:List UInt8×Int×List Int):AV:=.agg [.int .i64 x.2.1,.int .i64 (Nd x.2.2)]
def VJ:List AV→List (List UInt8×Int×List Int)→Bool
 | [],[]=>true
 |.agg [.int .i64 a,.int .i64 b] :: l,x :: r=>a==x.2.1&&b==Nd x.2.2&&VJ l r
 |_,_=>false
theorem Qzb:∀ {l:List AV} {r:List (List UInt8×Int×List Int)},VJ l r=true→l=r.map Hm:=by
 intro l
 induction l with
 |nil=>
  intro r h;cases r with
  |nil=>rfl
  |cons x r=>simp[VJ]at h
 |cons y l ih=>
  intro r h;cases r with
  |nil=>unfold VJ at h;split at h<;>simp_all
  |cons x r=>
   unfold VJ at h;split at h
   ·simp_all
   ·rename_i hl hr;cases hl;cases hr;simp only[QVF,QVG]at h;rw[QVP,←ih h.2,Hm,←h.1.1,←h.1.2]
   ·cases h
theorem Uo (s:List UInt8):∀L:List (List UInt8×Int×List Int),Jg s (L.map Prod.fst) (L.map Hm)=(L.find? fun x=>x.1==s).map Hm
 | []=>rfl
 |x :: L=>by
  rw[QVP,QVP,Jg,Uo s L,QW2];rw[show(s==x.1)=(x.1==s)from BEq.comm];cases x.1==s<;>rfl

def Uq:FY:=fun k=>match k with
 |241=>some (TH,TI,16)
 |158=>some (Qwm,Qwn,21)
 |159=>some (Qwz,QwA,48)
 |_=>none
theorem Wb:H3 Tryz.prog Uq:=by
 intro k c rs N h;unfold Uq at h;split at h
 ·cases h;exact QqO
 ·cases h;exact Qwo
 ·cases h;exact QNG
 ·cases h
def pKn:Option (AV×Qo)→Bool
 |some (.mp ks vs,_)=>ks==nK.map Prod.fst&&VJ vs nK
 |_=>false
theorem Qzc:pKn (Zz Ev.Xl Uq (Zk Ev.Xl Uq 300) 241 [] [])=true:=by decide +kernel
theorem Qzd:Qj Tryz.prog 241 [] (.mp (nK.map Prod.fst) (nK.map Hm)):=by
 have h:=Qzc;unfold pKn at h;split at h
 ·rename_i ks vs m' h1;rw[QVF,QVG]at h;rw[←h.1,←Qzb h.2];exact(XZ Ev.XX Wb (JJ Ev.XX Wb 300) _ _ _ _ _ h1).mono fun _ _ e=>e.1
 ·cases h
def pKi (n:Int):Option (AV×Qo)→Bool
 |some (.int .i64 k,_)=>k==n
 |_=>false
def pKb (b:Bool):Option (AV×Qo)→Bool
 |some (.bool k,_)=>k==b
 |_=>false
def W0:List Int:=[1,2,3,4,5,6]
theorem T2:nK.all (fun x=>pKi x.2.1 (Zz Ev.Xl Uq (Zk Ev.Xl Uq 300) 158 [.str x.1] []))=true:=by decide +kernel
theorem T3:nK.all (fun x=>W0.all fun t=>pKb (x.2.2.contains t) (Zz Ev.Xl Uq (Zk Ev.Xl Uq 300) 159 [.str x.1,.int .i64 t] []))=true:=by decide +kernel
theorem T4:nK.all (fun x=>W0.all fun t=>(bits .and .i64 ((Nd x.2.2).fdiv (2 ^ (min t.toNat IntKind.i64.bits))) 1==0) == !(x.2.2.contains t))=true:=by decide +kernel
theorem Qze:nK.all (fun x=>decide (x.2.1≠0))=true:=by decide

theorem Yw {s:List UInt8}{x:List UInt8×Int×List Int}(h:nK.find? (fun x=>x.1==s)=some x):x∈nK∧x.1=s∧XY s=x.2.1∧x.2.1≠0∧∀t,Sb s t=x.2.2.contains t:=by
 have h1:=QW9 h;have h2:x.1=s:=by simpa using QXa h
 have e:VD s=some x.2:=by unfold VD;rw[h];rfl
 refine⟨h1,h2,?_,?_,fun t=>?_⟩
 ·unfold XY;rw[e];rfl
 ·simpa using QVv.1 Qze x h1
 ·unfold Sb;rw[e];rfl
theorem Yx {s:List UInt8}(h:nK.find? (fun x=>x.1==s)=none):XY s=0:=by
 have e:VD s=none:=by unfold VD;rw[h];rfl
 unfold XY;rw[e];rfl

theorem QPe (s:List UInt8):Qj Tryz.prog 248 [.str s] (.int .i64 (XY s)):=by
 have hm:=Uo s nK;refine Qrk.fn (by simp) ?_;simp only[Qa,seval];refine aC Qzd ?_;cases hf:nK.find? (fun x=>x.1==s)with
 |none=>
  rw[hf]at hm;simp only[Zw,hm,QWa,Yx hf,Qa,seval]
 |some x=>
  rw[hf]at hm;obtain⟨_,_,hk,_⟩:=Yw hf;have hg:AV.gr (.agg [.int .i64 x.2.1,.int .i64 (Nd x.2.2)])=true:=rfl;simp only[Zw,hm,QVI,Hm,hg,hk,Qa,seval]

section
variable {M:Nat}(n:SN)(hn:n.ok M)(hM:M+8≤maxLen)

theorem WD (n:SN):n.cells=[.str n.name,.int .i64 n.val.kd,.int .u64 (n.val.bits:Nat),.str n.val.text,.list (n.val.list.map V.av),.list (n.val.pairs.map V.pav),.list (n.val.slots.map V.sav),.list (n.val.raws.map R.av)]:=by
 rw[SN.cells,V.eta]

include hn in
theorem QPf:Qj Tryz.prog 242 [.agg n.cells] (.bool (DQ n)):=by
 have hv:=hn.val;have n1:=hv.nl;have n2:=hv.np;have n3:=hv.ns;have n4:=hv.nr;have hf:=Qy5 (XY n.name) n.val.kd n.val.bits n.val.text (n.val.list.map V.av) (n.val.pairs.map V.pav) (n.val.slots.map V.sav) (n.val.raws.map R.av) (by simp;omega) (by simp;omega) (by simp;omega) (by simp;omega);have he:DQ n=(XY n.name != 0&&Jc (XY n.name) n.val.kd n.val.bits n.val.text (n.val.list.map V.av) (n.val.pairs.map V.pav) (n.val.slots.map V.sav) (n.val.raws.map R.av)):=rfl;simp only[vo]at hf;rw[WD,he];refine QqU.fn (by simp) ?_;simp only[eE,seval];refine aC (QPe n.name) ?_;cases h0:(XY n.name != 0)
 ·simp only[h0,QWL,Qa,seval]
 ·simp only[h0,QWY,eE,seval];refine aC hf ?_;simp only[Qa,seval]

include hn in
theorem QPg (t:Int)(ht:t∈W0)(last:List UInt8)(ok:Bool):Qj Tryz.prog 230 [.agg n.cells,.int .i64 t,.str last,.bool ok] (.int .i64 (JO t (if ok=true then some last else none) n)):=by
 have hr:=QPf n hn;have hm:=Uo n.name nK;have t1:decide (t<1)=false:=by simp[W0]at ht;exact QW3 (by omega)
 have t2:decide (t > 6)=false:=by simp[W0]at ht;exact QW3 (by omega)
 have t3:(0≤t)=True:=by simp[W0]at ht;simp;omega
 have hrt:DQ n=(XY n.name != 0&&n.val.fitk (XY n.name)):=rfl;rw[WD]at hr ⊢;unfold JO;refine Qpd.fn (by simp) ?_;simp only[eE,seval];refine aC Qzd ?_;cases hf:nK.find? (fun x=>x.1==n.name)with
 |none=>
  rw[hf]at hm;rw[QVq (Yx hf)];simp only[hm,QWa,eE,seval]
 |some x=>
  rw[hf]at hm;obtain⟨hx,_,hk,h0,htg⟩:=Yw hf;have hg:AV.gr (.agg [.int .i64 x.2.1,.int .i64 (Nd x.2.2)])=true:=rfl;have hb:(bits .and .i64 ((Nd x.2.2).fdiv (2 ^ (min t.toNat IntKind.i64.bits))) 1==0)=!(x.2.2.contains t):=by simpa using QVv.1 (QVv.1 T4 x hx) t ht
  have hb2:(bits .and .i64 ((Nd x.2.2).fdiv (2 ^ (min t.toNat 64))) 1==0)=!(x.2.2.contains t):=hb;rw[QVp (by rw[hk];exact h0),htg t];have hrt':DQ n=n.val.fitk (XY n.name):=by rw[hrt,hk];simp[h0]
  simp only[hm,QVI,Hm,hg,t1,t2,t3,hb2,eE,seval];cases hc:x.2.2.contains t
  ·simp only[QWl,Qa,seval]
  ·simp only[QWZ,Bool.true_eq_false,eE,seval];refine aC hr ?_;rw[hrt'];cases hq:n.val.fitk (XY n.name)
   ·simp only[QWl,Qa,seval]
   ·simp only[QWZ,Bool.true_eq_false,Qa,seval];cases ok
    ·simp only[QVB,Qa,seval]
    ·simp only[eE,seval];cases hl:Op.bytesLess n.name last
     ·simp only[Qz,hl,QVB,eE,seval];by_cases he:n.name=last
      ·have b0:(n.name==last)=true:=by simp[he]
       simp only[b0,QVq he,Qa,seval]
      ·have b0:(n.name==last)=false:=by simp[he]
       simp only[b0,QVp he,Qa,seval]
     ·simp only[Qz,hl,Qa,seval]
end

def ZK (l:List SN):Nat→Option (List UInt8)
 |0=>none
 |i+1=>(l[i]?).map SN.name
theorem Ko {l:List SN}{i:Nat}{x:SN}(h:l[i]? = some x):ZK l (i+1)=some x.name:=by
 rw[ZK,h];rfl
theorem Nf {t:Int}{l:List SN}{i:Nat}{x:SN}(h:l[i]? = some x)(la:Option (List UInt8)):J5 t la (l.drop i)=if JO t la x=0 then J5 t (some x.name) (l.drop (i+1))else JO t la x:=by
 have hlt:i<l.length:=(QVk.1 h).1;rw[QVZ hlt,show l[i]=x from(QVk.1 h).2];rfl

def KcI (l:List SN)(t:Int)(k:Nat)(st:St):Prop :=
 ∃f fr i la,st=⟨f,[fr],[]⟩∧k=l.length-i∧i≤l.length∧J5 t none l=J5 t (ZK l i) (l.drop i)∧f 5=.str la∧(i=0∨ZK l i=some la)∧f 1=.int .i64 t∧f 12=.list (l.map fun n=>.agg n.cells)∧f 13=.int .i64 (l.length:Nat)∧f 14=.int .i64 (i:Nat)∧∀s∈[7],(fr s).isRow=false

theorem Qzf {M:Nat}(l:List SN)(hl:l.length≤maxLen)(hn:∀n∈l,n.ok M)(t:Int)(ht:t∈W0):Qj Tryz.prog 208 [.list (l.map fun n=>.agg n.cells),.int .i64 t] (.int .i64 (X6 l t)):=by
 unfold X6;refine QmU.fn (by simp) ?_;simp only[QWE,Qa,seval];by_cases h8:l.length > 8
 ·have d:decide ((l.length:Int) > 8)=true:=QXb (by omega);rw[QVq h8];simp only[d,Qa,seval]
 have d:decide ((l.length:Int) > 8)=false:=QW3 (by omega);rw[QVp h8];simp only[d,Qa,seval];refine Qf (KcI l t) _ ⟨_,_,0,[],rfl,rfl,QVr _,rfl,(by rfl),.inl rfl,(by rfl),(by rfl),(by simp only[QWE,Qa,seval]),(by rfl),by simp<;>rfl⟩ ?_;rintro _ st ⟨f0,fr0,i,la,rfl,rfl,hi,hc,h50,hla,h10,h120,h130,h140,r7⟩;refine QR (a:=_) [7] r7 ?_;intro f fr hff hm hn7;have h1:f 1=.int .i64 t:=by rw[hff,h10]<;>rfl
 have h5:f 5=.str la:=by rw[hff,h50]<;>rfl
 have h12:f 12=.list (l.map fun n=>.agg n.cells):=by rw[hff,h120]<;>rfl
 have h13:f 13=.int .i64 (l.length:Nat):=by rw[hff,h130]<;>rfl
 have h14:f 14=.int .i64 (i:Nat):=by rw[hff,h140]<;>rfl
 have n7:=hn7 7 (by decide);clear hff hm hn7 h10 h50 h120 h130 h140 r7;simp only[h13,h14,Qa,seval];by_cases hlt:i<l.length
 ·obtain⟨x,hi'⟩:∃x,l[i]? = some x:=⟨l[i],QVl hlt⟩;have hg:(l.map fun n=>AV.agg n.cells)[i]? = some (.agg x.cells):=by simp[hi']
  have e1:=Qh i _ hlt hl;have ho:=QPg x (hn x (QVw hi')) t ht la (decide ((i:Int) > 0));have hx:(if decide ((i:Int) > 0)=true then some la else none)=ZK l i:=by
   rcases QV4 i with h0|h0
   ·subst h0;rfl
   ·rw[QVq (QXb (by omega))];rcases hla with h|h
    ·omega
    ·exact h.symm
  rw[hx]at ho;rw[Nf hi']at hc;rw[WD]at hg ho;simp only[Qs hlt,Qd,QWH,Qb,hg,n7,h1,h5,h12,h14,eE,seval];refine aC ho ?_;by_cases hz:JO t (ZK l i) x=0
  ·have d0:(JO t (ZK l i) x != 0)=false:=by simp[hz]
   rw[QVq hz]at hc;simp only[d0,h14,e1,eE,seval];exact⟨l.length-(i+1),by omega,_,_,i+1,x.name,rfl,rfl,by omega,by rw[hc,Ko hi'],(by rfl),.inr (Ko hi'),(by exact h1),(by exact h12),(by exact h13),(by rfl),by simp<;>rfl⟩
  ·have d0:(JO t (ZK l i) x != 0)=true:=by simp[hz]
   rw[QVp hz]at hc;simp only[d0,hc,Qa,seval]
 ·rw[QVT (by omega)]at hc;have hc':J5 t none l=0:=hc;simp only[Qu hlt,hc',Qa,seval]

theorem Qzg (s:List UInt8):Qj Tryz.prog 158 [.str s] (.int .i64 (XY s)):=by
 cases hf:nK.find? (fun x=>x.1==s)with
 |some x=>
  obtain⟨hx,hs,hk,_,_⟩:=Yw hf;have h:=QVv.1 T2 x hx;rw[hs]at h;rw[hk];unfold pKi at h;split at h
  ·rename_i k m' h1;rw[QVG]at h;subst h;exact(XZ Ev.XX Wb (JJ Ev.XX Wb 300) _ _ _ _ _ h1).mono fun _ _ e=>e.1
  ·cases h
 |none=>
  have hno:=QW8.1 hf;have hb:∀x∈nK,(s==x.1)=false:=fun x hx=>by
   have:=hno x hx;rw[BEq.comm]
   simpa using this
  simp only[nK,List.forall_mem_cons,QXi,false_implies,implies_true,and_true]at hb;obtain⟨b1,b2,b3,b4,b5,b6,b7,b8,b9,b10,b11,b12,b13⟩:=hb;rw[Yx hf];refine Qwo.fn (by simp) ?_;simp only[Qz,b1,b2,b3,b4,b5,b6,b7,b8,b9,b10,b11,b12,b13,Qa,seval]
theorem QPh (s:List UInt8)(hs:XY s≠0)(t:Int)(ht:t∈W0):Qj Tryz.prog 159 [.str s,.int .i64 t] (.bool (Sb s t)):=by
 cases hf:nK.find? (fun x=>x.1==s)with
 |some x=>
  obtain⟨hx,hs,_,_,hk⟩:=Yw hf;have h:=QVv.1 (QVv.1 T3 x hx) t ht;rw[hs]at h;rw[hk t];unfold pKb at h;split at h
  ·rename_i k m' h1;rw[QVG]at h;subst h;exact(XZ Ev.XX Wb (JJ Ev.XX Wb 300) _ _ _ _ _ h1).mono fun _ _ e=>e.1
  ·cases h
 |none=>exact absurd (Yx hf) hs

theorem Qcp {n:V}{k:Int}(h:n.fitk k=true):n.kd=k:=by
 unfold V.fitk Jc at h;simp only[QVF,QVG]at h;exact h.1.1.1.1.1.2
section
variable {M:Nat}(n:SN)(hn:n.ok M)(hM:M+8≤maxLen)
include hn hM in
theorem QPi:Qj Tryz.prog 160 [.agg n.cells] (.bool (DQ n)):=by
 have hf:=Qza (XY n.name) n.val.kd n.val.bits n.val.text (n.val.list.map V.av) (n.val.pairs.map V.pav) (n.val.slots.map V.sav) (n.val.raws.map R.av) (by have:=hn.val.text;omega);have he:DQ n=(XY n.name != 0&&Jc (XY n.name) n.val.kd n.val.bits n.val.text (n.val.list.map V.av) (n.val.pairs.map V.pav) (n.val.slots.map V.sav) (n.val.raws.map R.av)):=rfl;have hk:n.val.fitk (XY n.name)=Jc (XY n.name) n.val.kd n.val.bits n.val.text (n.val.list.map V.av) (n.val.pairs.map V.pav) (n.val.slots.map V.sav) (n.val.raws.map R.av):=rfl;simp only[vo]at hf;rw[WD,he,←hk];rw[←hk]at hf;refine QNJ.fn (by simp) ?_;simp only[eE,seval];refine aC (Qzg n.name) ?_;cases h0:(XY n.name != 0)
 ·simp only[h0,QWL,Qa,seval]
 simp only[h0,QWY,eE,seval];cases a1:(n.val.kd==XY n.name)
 ·have e:n.val.fitk (XY n.name)=false:=by
   rw[QW6];intro h;rw[Qcp h]at a1;simp at a1
  simp only[e,Qa,seval]
 ·simp only[eE,seval];refine aC hf ?_;simp only[Qa,seval]
end

def ScI (l:List SN)(t:Int)(k:Nat)(st:St):Prop :=
 ∃f i,st=⟨f,[Qg],[]⟩∧k=l.length-i∧i≤l.length∧J5 t none l=J5 t (ZK l i) (l.drop i)∧f 0=.list (l.map fun n=>.agg n.cells)∧f 1=.int .i64 t∧f 5=.int .i64 (i:Nat)

theorem QPj {M:Nat}(hM:M+8≤maxLen)(l:List SN)(hl:l.length≤maxLen)(hn:∀n∈l,n.ok M)(t:Int)(ht:t∈W0):Qj Tryz.prog 128 [.list (l.map fun n=>.agg n.cells),.int .i64 t] (.int .i64 (X6 l t)):=by
 unfold X6;refine QNw.fn (by simp) ?_;simp only[QWE,Qa,seval];by_cases h8:l.length > 8
 ·have d:decide ((l.length:Int) > 8)=true:=QXb (by omega);rw[QVq h8];simp only[d,Qa,seval]
 have d:decide ((l.length:Int) > 8)=false:=QW3 (by omega);rw[QVp h8];simp only[d,Qa,seval];refine Qf (ScI l t) _ ⟨_,0,rfl,rfl,QVr _,rfl,(by rfl),(by rfl),(by rfl)⟩ ?_;rintro _ st ⟨f,i,rfl,rfl,hi,hc,h0,h1,h5⟩;simp only[QWE,h0,h5,Qa,seval];by_cases hlt:i<l.length
 case neg=>
  rw[QVT (by omega)]at hc;have hc':J5 t none l=0:=hc;simp only[Qu hlt,hc',Qa,seval]
 obtain⟨x,hi'⟩:∃x,l[i]? = some x:=⟨l[i],QVl hlt⟩;have hx:=hn x (QVw hi');have hg:(l.map fun n=>AV.agg n.cells)[i]? = some (.agg x.cells):=by simp[hi']
 have e1:=Qh i _ hlt hl;have hr:=QPi x hx hM;have hrt:DQ x=(XY x.name != 0&&x.val.fitk (XY x.name)):=rfl;rw[Nf hi']at hc;rw[WD]at hg hr;simp only[Qs hlt,Qd,QWH,Qb,hg,h0,h5,eE,seval];refine aC (Qzg x.name) ?_;by_cases hk:XY x.name=0
 ·have b0:(XY x.name==0)=true:=by simp[hk]
  have hz:JO t (ZK l i) x=8:=by unfold JO;rw[QVq hk]
  rw[hz,QVp (by decide)]at hc;simp only[b0,hc,Qa,seval]
 have b0:(XY x.name==0)=false:=by simp[hk]
 simp only[b0,Qd,QWH,Qb,hg,h0,h1,h5,eE,seval];refine aC (QPh x.name hk t ht) ?_;cases a1:Sb x.name t
 ·have hz:JO t (ZK l i) x=1:=by unfold JO;rw[QVp hk,QVq a1]
  rw[hz,QVp (by decide)]at hc;simp only[QWl,hc,Qa,seval]
 simp only[QWZ,Qd,QWH,Qb,hg,h0,h5,eE,seval];refine aC hr ?_;have hrt':DQ x=x.val.fitk (XY x.name):=by rw[hrt];simp[hk]
 rw[hrt'];cases a2:x.val.fitk (XY x.name)
 ·have hz:JO t (ZK l i) x=12:=by unfold JO;rw[QVp hk,QVp (by rw[a1];decide),QVq a2]
  rw[hz,QVp (by decide)]at hc;simp only[QWl,hc,Qa,seval]
 have hz:JO t (ZK l i) x=match ZK l i with
   |none=>0
   |some s=>if Op.bytesLess x.name s=true then 11 else if x.name=s then 9 else 0:=by
  unfold JO;rw[QVp hk,QVp (by rw[a1];decide),QVp (by rw[a2];decide)]<;>cases ZK l i<;>rfl
 cases i with
 |zero=>
  have c1:decide (((0:Nat):Int) > 0)=false:=rfl;have hz':JO t (ZK l 0) x=0:=hz;rw[QVq hz']at hc;simp only[QWZ,h5,Qa,seval];exact⟨l.length-(0+1),by omega,_,0+1,rfl,rfl,by omega,by rw[hc,Ko hi'],(by exact h0),(by exact h1),(by rfl)⟩
 |succ j=>
  obtain⟨p,hj⟩:∃p,l[j]? = some p:=⟨l[j],QVl (by omega)⟩;have hgj:(l.map fun n=>AV.agg n.cells)[j]? = some (.agg p.cells):=by simp[hj]
  have e2:=KA j _ hlt hl;have c1:decide (((j+1:Nat):Int) > 0)=true:=QXb (by omega);rw[Ko hj]at hz hc;dsimp only at hz;rw[WD]at hgj;simp only[QWZ,c1,e2,Qd,QWH,Qb,hg,hgj,Qz,h0,h5,eE,seval];cases a3:Op.bytesLess x.name p.name
  ·rw[a3,QVp (by decide)]at hz;by_cases a4:x.name=p.name
   ·have b4:(x.name==p.name)=true:=by simp[a4]
    rw[QVq a4]at hz;rw[hz,QVp (by decide)]at hc;simp only[b4,c1,e2,Qd,QWH,Qb,hg,hgj,Qz,hc,h0,h5,eE,seval]
   ·have b4:(x.name==p.name)=false:=by simp[a4]
    rw[QVp a4]at hz;rw[QVq hz]at hc;simp only[b4,c1,e2,Qd,QWH,Qb,hg,hgj,Qz,h0,h5,e1,eE,seval];exact⟨l.length-(j+1+1),by omega,_,j+1+1,rfl,rfl,by omega,by rw[hc,Ko hi'],(by exact h0),(by exact h1),(by rfl)⟩
  ·rw[a3,QVq rfl]at hz;rw[hz,QVp (by decide)]at hc;simp only[hc,Qa,seval]

def JP (S:SC)(n:List UInt8):Int:=QW (fun m:SM=>m.name==n) S.msgs 0
def Xg (S:SC)(F:List Bool)(m:SM):Bool:=(Ze m).any fun n=>decide (JP S n≥0) && !(F[(JP S n).toNat]?.getD false)
def Ku (S:SC)(F:List Bool)(i:Nat):List Bool:=match S.msgs[i]? with
 |none=>F
 |some m=>if F[i]? = some false∧Xg S F m=false then F.set i true else F
def Q6 (S:SC)(F:List Bool):Nat→List Bool
 |0=>F
 |i+1=>Ku S (Q6 S F i) i
def ZT (S:SC):Nat→List Bool→List Bool
 |0,F=>F
 |k+1,F=>if Q6 S F S.msgs.length=F then F else ZT S k (Q6 S F S.msgs.length)
def QT (S:SC):List Bool:=ZT S S.msgs.length (List.replicate S.msgs.length false)

theorem Qcq (S:SC)(F:List Bool)(i:Nat):(Ku S F i).length=F.length:=by
 unfold Ku;split
 ·rfl
 ·split
  ·exact List.length_set ..
  ·rfl
theorem KB (S:SC)(F:List Bool):∀i,(Q6 S F i).length=F.length
 |0=>rfl
 |i+1=>by rw[Q6,Qcq,KB S F i]
theorem Hn (S:SC):∀(k:Nat) (F:List Bool),(ZT S k F).length=F.length
 |0,_=>rfl
 |k+1,F=>by
  rw[ZT];split
  ·rfl
  ·rw[Hn S k,KB]

def YR (F:List Bool):Nat:=F.countP id
theorem VK {F:List Bool}{i:Nat}(h:F[i]? = some false):YR (F.set i true)=YR F+1:=by
 induction F generalizing i with
 |nil=>cases h
 |cons b F ih=>
  cases i with
  |zero=>
   simp only[QWf,QVJ]at h;subst h;simp[YR]
  |succ i=>
   simp only[QWk]at h;have:=ih h;unfold YR at this ⊢;rw[List.set_cons_succ,List.countP_cons,List.countP_cons,this];omega
theorem Qzh (F:List Bool):YR F≤F.length:=List.countP_le_length
theorem G9 (S:SC)(F:List Bool)(i:Nat):Ku S F i=F∨YR (Ku S F i)=YR F+1:=by
 unfold Ku;split
 ·exact .inl rfl
 ·split
  ·rename_i h;exact .inr (VK h.1)
  ·exact .inl rfl
theorem Wc (S:SC)(F:List Bool):∀i,Q6 S F i=F∨YR F<YR (Q6 S F i)
 |0=>.inl rfl
 |i+1=>by
  rw[Q6];rcases Wc S F i with h|h
  ·rw[h];rcases G9 S F i with g|g
   ·exact .inl g
   ·exact .inr (by omega)
  ·rcases G9 S (Q6 S F i) i with g|g
   ·exact .inr (by rw[g];exact h)
   ·exact .inr (by omega)
theorem Yy (S:SC):∀(k:Nat) (F:List Bool),F.length-YR F≤k→Q6 S (ZT S k F) S.msgs.length=ZT S k F
 |0,F,h=>by
  rw[ZT];rcases Wc S F S.msgs.length with g|g
  ·exact g
  ·have h1:=Qzh (Q6 S F S.msgs.length);rw[KB]at h1;omega
 |k+1,F,h=>by
  rw[ZT];split
  ·rename_i e;exact e
  ·rename_i e;refine Yy S k _ ?_;rcases Wc S F S.msgs.length with g|g
   ·exact absurd g e
   ·rw[KB];omega

theorem Ur (S:SC):∀(k:Nat) (F:List Bool),∃j,j≤k∧ZT S k F=Nat.repeat (fun F=>Q6 S F S.msgs.length) j F∧(j<k→Q6 S (ZT S k F) S.msgs.length=ZT S k F)
 |0,F=>⟨0,QVi _,rfl,fun h=>by omega⟩
 |k+1,F=>by
  by_cases e:Q6 S F S.msgs.length=F
  ·exact⟨0,QVr _,by rw[ZT,QVq e];rfl,fun _=>by rw[ZT,QVq e];exact e⟩
  ·obtain⟨j,h1,h2,h3⟩:=Ur S k (Q6 S F S.msgs.length);have hrep:∀(j:Nat) (F:List Bool),Nat.repeat (fun F=>Q6 S F S.msgs.length) (j+1) F=Nat.repeat (fun F=>Q6 S F S.msgs.length) j (Q6 S F S.msgs.length):=by
    intro j
    induction j with
    |zero=>intro F;rfl
    |succ j ih=>intro F;show Q6 S (Nat.repeat _ (j+1) F) _=_;rw[ih F];rfl
   refine⟨j+1,by omega,by rw[ZT,QVp e,h2,hrep],fun hj=>?_⟩;rw[ZT,QVp e];exact h3 (by omega)

def Us (S:SC)(F:List Bool)(X:List (List UInt8)):Prop:=F.length=S.msgs.length∧∀(i:Nat) (m:SM),S.msgs[i]? = some m→(X.contains m.name=true↔F[i]? = some true)
def IB (S:SC):Prop:=∀(i j:Nat) (m n:SM),S.msgs[i]? = some m→S.msgs[j]? = some n→m.name=n.name→i=j

section
variable {S:SC}(hD:IB S)
include hD
theorem Se {i:Nat}{m:SM}(h:S.msgs[i]? = some m):JP S m.name=(i:Int):=by
 unfold JP;rcases Xn (fun x:SM=>x.name==m.name) S.msgs 0 with⟨_,hn⟩|⟨k,o,h1,h2,h3⟩
 ·have:=QW8.1 hn m (QVw h);simp at this
 ·have hn:o.name=m.name:=by simpa using QXa h3
  have:=hD k i o m h2 h hn;rw[h1];omega
theorem Qcr {i:Nat}{m:SM}(h:S.msgs[i]? = some m):S.msgs.find? (fun x=>x.name==m.name)=some m:=by
 rcases Xn (fun x:SM=>x.name==m.name) S.msgs 0 with⟨_,hn⟩|⟨k,o,h1,h2,h3⟩
 ·have:=QW8.1 hn m (QVw h);simp at this
 ·have hn:o.name=m.name:=by simpa using QXa h3
  have:=hD k i o m h2 h hn;subst this;rw[h2]at h;cases h;exact h3
theorem VL {F:List Bool}{X:List (List UInt8)}(h:Us S F X)(m:SM):(Ze m).any (fun n=>Q2 S n && !X.contains n)=Xg S F m:=by
 unfold Xg;congr 1
 funext n;cases hm:Q2 S n with
 |false=>
  have:¬JP S n≥0:=by
   unfold JP;rcases Xn (fun x:SM=>x.name==n) S.msgs 0 with⟨h1,_⟩|⟨k,o,_,h2,h3⟩
   ·rw[h1];decide
   ·unfold Q2 at hm;have:=QW7.1 hm o (QVw h2);exact absurd (QXa h3) this
  rw[QW3 this];rfl
 |true=>
  unfold Q2 at hm;obtain⟨x,hx,hxn⟩:=QWR.1 hm;obtain⟨i,hi,rfl⟩:=List.getElem_of_mem hx;have hxi:S.msgs[i]? = some S.msgs[i]:=QVl hi;have hxn:S.msgs[i].name=n:=by simpa using hxn
  subst hxn;rw[Se hD hxi,QXb (by omega),QWH];obtain⟨hl,h2⟩:=h;have h3:=h2 i _ hxi;have hF:F[i]? = some (F[i]'(by omega)):=QVl (by omega);rw[hF]at h3 ⊢;simp only[QVJ,QWo]at h3 ⊢;cases hb:F[i]'(by omega)<;>cases hc:X.contains S.msgs[i].name<;>simp_all
theorem Qcs {F:List Bool}{X:List (List UInt8)}(h:Us S F X){i:Nat}{m:SM}(hm:S.msgs[i]? = some m):Us S (Ku S F i) (ZC S X m):=by
 have hne:=VL hD h m;unfold ZC Ku;rw[hm,Qcr hD hm];dsimp only;rw[hne];obtain⟨hl,h2⟩:=h;have h3:=h2 i m hm;have hi:i<S.msgs.length:=(QVk.1 hm).1;have hF:F[i]? = some (F[i]'(by omega)):=QVl (by omega);cases hs:Xg S F m with
 |true=>
  rw[QVq (show true=true from rfl),QVp (fun h:F[i]? = some false∧true=false=>by cases h.2)];exact⟨hl,h2⟩
 |false=>
  rw[QVp (show ¬(false=true)by decide)];by_cases hc:X.contains m.name=true
  ·have:=h3.1 hc;rw[QVq hc,QVp (fun h:F[i]? = some false∧false=false=>by rw[this]at h;cases h.1)];exact⟨hl,h2⟩
  ·have hf:F[i]? = some false:=by
    cases hb:F[i]'(by omega)with
    |false=>rw[hF,hb]
    |true=>exact absurd (h3.2 (by rw[hF,hb])) hc
   rw[QVp hc,QVq (show F[i]? = some false∧false=false from⟨hf,rfl⟩)];refine⟨by rw[List.length_set];exact hl,fun j n hn=>?_⟩;have h4:=h2 j n hn;rw[List.getElem?_set];by_cases hij:i=j
   ·subst hij;rw[hm]at hn;cases hn;rw[QVq rfl,QVq (by omega)];simp
   ·rw[QVp hij,←h4];have hnn:n.name≠m.name:=fun e=>hij (hD i j m n hm hn e.symm)
    simp only[QXj,QWw,QXk];exact⟨fun h=>h.resolve_right hnn,.inl⟩
theorem Ng {F:List Bool}{X:List (List UInt8)}(h:Us S F X):∀i,i≤S.msgs.length→Us S (Q6 S F i) ((S.msgs.take i).foldl (ZC S) X)
 |0,_=>by simpa [Q6]using h
 |i+1,hi=>by
  have ih:=Ng h i (by omega);have hm:S.msgs[i]? = some (S.msgs[i]'(by omega)):=QVl (by omega);rw[Q6,QWT,hm,List.foldl_append];exact Qcs hD ih hm
theorem Sf {F:List Bool}{X:List (List UInt8)}(h:Us S F X):Us S (Q6 S F S.msgs.length) (Hl S X):=by
 have:=Ng hD h S.msgs.length (QVi _)
 rwa [QWQ]at this
theorem Nh {F:List Bool}{X:List (List UInt8)}(h:Us S F X):∀(k:Nat),Us S (Nat.repeat (fun F=>Q6 S F S.msgs.length) k F) (Nat.repeat (Hl S) k X)
 |0=>h
 |k+1=>Sf hD (Nh h k)
theorem Qzi:Us S (QT S) (Yu S):=by
 have h0:Us S (List.replicate S.msgs.length false) []:=by
  refine⟨QWI,fun i m hm=>?_⟩;have hi:=(QVk.1 hm).1;rw[List.getElem?_replicate,QVq hi];simp
 obtain⟨j,h1,h2,h3⟩:=Ur S S.msgs.length (List.replicate S.msgs.length false);have hfix:Q6 S (QT S) S.msgs.length=QT S:=Yy S _ _ (by rw[QWI];omega);have hX:∀k,Yt S k=Nat.repeat (Hl S) k []:=by
  intro k
  induction k with
  |zero=>rfl
  |succ k ih=>rw[Yt,ih];rfl
 have hstay:∀d,Nat.repeat (fun F=>Q6 S F S.msgs.length) d (QT S)=QT S:=by
  intro d
  induction d with
  |zero=>rfl
  |succ d ih=>show Q6 S (Nat.repeat _ d (QT S)) _=_;rw[ih,hfix]
 have hadd:∀d (F:List Bool),Nat.repeat (fun F=>Q6 S F S.msgs.length) (d+j) F=Nat.repeat (fun F=>Q6 S F S.msgs.length) d (Nat.repeat (fun F=>Q6 S F S.msgs.length) j F):=by
  intro d
  induction d with
  |zero=>intro F;rw[QVH];rfl
  |succ d ih=>intro F;rw[show d+1+j=(d+j)+1 by omega];show Q6 S (Nat.repeat _ (d+j) F) _=_;rw[ih F];rfl
 have:=Nh hD h0 (S.msgs.length+1);rw[←hX,show S.msgs.length+1=(S.msgs.length+1-j)+j by omega,hadd,←h2,show ZT S S.msgs.length (List.replicate S.msgs.length false)=QT S from rfl,hstay]at this;rw[show(S.msgs.length+1-j)+j=S.msgs.length+1 by omega]at this;exact this
theorem Sg (m:SM):Gv S m=Xg S (QT S) m:=VL hD (Qzi hD) m
end

end Go.Proofs.YtjjmjopabpakoaaGreatDoor.Va

namespace Go.Proofs.YtjjmjopabpakoaaGreatDoor.Va
open Go Am Rc Bt Br Up

def _root_.Go.Proofs.YtjjmjopabpakoaaGreatDoor.Br.V.oth (v:V):Bool:=Va.oth v.kd v.bits v.text (v.list.map V.av) (v.pairs.map V.pav) (v.slots.map V.sav) (v.raws.map R.av)
def _root_.Go.Proofs.YtjjmjopabpakoaaGreatDoor.Br.V.one (P:PL)(k tg:Int)(v:V):Int:=QPd P k tg v.kd v.bits v.text (v.list.map V.av) (v.pairs.map V.pav) (v.slots.map V.sav) (v.raws.map R.av)

section
variable (m:PG→V→Int)(P:PL)
end

mutual
def _root_.Go.Proofs.YtjjmjopabpakoaaGreatDoor.Br.V.cnt:V→Nat
 |.mk _ _ _ l p s r=>1+r.length+Qzj l+Qzk p+Qzl s
def Qzj:List V→Nat
 | []=>0
 |x :: l=>x.cnt+Qzj l
def Qzk:List (V×V)→Nat
 | []=>0
 |(a,b) :: l=>a.cnt+b.cnt+Qzk l
def Qzl:List (Int×V)→Nat
 | []=>0
 |(_,a) :: l=>a.cnt+Qzl l
end

inductive Thin:V→Prop
 |mk {v:V} (n:v.list.length+2*v.pairs.length+v.slots.length≤1099511627776) (list:∀x∈v.list,Thin x) (keys:∀x∈v.pairs,Thin x.1) (vals:∀x∈v.pairs,Thin x.2) (slots:∀x∈v.slots,Thin x.2):Thin v

open So

section sorting
variable {α:Type}{lt:α→α→Bool}
end sorting

theorem Yz:∀ {a b c:List UInt8},Op.bytesLess a b=true→Op.bytesLess b c=true→Op.bytesLess a c=true
 |a,b,[],_,h=>by cases b<;>simp[Op.bytesLess]at h
 | [],_,_ :: _,_,_=>by simp[Op.bytesLess]
 |x :: a,[],_ :: _,h,_=>by simp[Op.bytesLess]at h
 |x :: a,y :: b,z :: c,h,k=>by
  simp only[Op.bytesLess,QWc,QVF,QWA,QVG]at h k ⊢;rcases h with h|⟨h1,h2⟩<;>rcases k with k|⟨k1,k2⟩
  ·exact .inl (UInt8.lt_trans h k)
  ·subst k1;exact .inl h
  ·subst h1;exact .inl k
  ·subst h1 k1;exact .inr ⟨rfl,Yz h2 k2⟩
theorem Ut:∀ {a b:List UInt8},Op.bytesLess a b=false→Op.bytesLess b a=false→a=b
 | [],[],_,_=>rfl
 | [],_ :: _,h,_=>by simp[Op.bytesLess]at h
 |_ :: _,[],_,h=>by simp[Op.bytesLess]at h
 |x :: a,y :: b,h,k=>by
  simp only[Op.bytesLess,QV6,QXh,QXc,QXd]at h k;have e:x=y:=by
   rcases Nat.lt_trichotomy x.toNat y.toNat with g|g|g
   ·exact absurd (UInt8.lt_iff_toNat_lt.2 g) h.1
   ·exact UInt8.toNat_inj.1 g
   ·exact absurd (UInt8.lt_iff_toNat_lt.2 g) k.1
  subst e;rw[Ut (h.2.resolve_left fun g=>g rfl) (k.2.resolve_left fun g=>g rfl)]
theorem J6:∀a:List UInt8,Op.bytesLess a a=false
 | []=>rfl
 |x :: a=>by simp[Op.bytesLess,J6 a]

def kl (k:Int)(a b:V):Bool :=
 if Wj k=true then Op.bytesLess a.text b.text else if (k==2||k==3)=true then decide (IntKind.i64.wrap (a.bits:Int)<IntKind.i64.wrap (b.bits:Int))else decide ((a.bits:Int)<(b.bits:Int))
section
variable (nm:PG→V→V)(P:PL)
end

theorem KC {α β:Type}(f:α→β)(lt:β→β→Bool)(l:List α):XN (l.map f) lt=XN l (fun x y=>lt (f x) (f y)):=by
 unfold XN;rw[QWE];refine Gr fun i hi=>?_
 cases i with
 |zero=>rfl
 |succ k=>
  rw[JL (x:=f (l[k]'(by omega))) (y:=f l[k+1]) (by rw[QWB,QVl (by omega)];rfl) (by rw[QWB,QVl hi];rfl)];rw[JL (QVl (by omega:k<l.length)) (QVl hi)]
theorem Ni {α β:Type}(f:α→β)(nm:β→List UInt8)(l:List α):Yr (l.map f) nm=Yr l (fun x=>nm (f x)):=by
 unfold Yr;rw[QWE];refine Gr fun i hi=>?_
 rw[WZ (x:=f l[i]) (by rw[QWB,QVl hi];rfl),WZ (QVl hi),←List.map_take,List.all_map];rfl

theorem Sh {α:Type}{f g:α→Bool}:∀ {l:List α},(∀x∈l,f x=g x)→l.any f=l.any g
 | [],_=>rfl
 |x :: l,h=>by rw[List.any_cons,List.any_cons,h x (by simp),Sh fun y hy=>h y (by simp[hy])]

structure Sok (S:SC):Prop where
 lm:S.msgs.length≤64∧S.enums.length≤64∧S.servs.length≤64
 om:XN S.msgs (Wk SM.name)=true
 oe:XN S.enums (Wk SE.name)=true
 ap:∀e∈S.enums,∀m∈S.msgs,m.name≠e.name
 ms:∀m∈S.msgs,G7 S m=true
 es:∀e∈S.enums,Yv e=true
theorem Si {S:SC}(h:XR S=true):Sok S:=by
 unfold XR at h;simp only[QVF,QVv]at h;obtain⟨⟨⟨⟨⟨h1,h2⟩,h3⟩,h4⟩,h5⟩,_⟩:=h;unfold T1 at h1;unfold T0 at h2;unfold JY at h3;simp only[QVF,QWA]at h1 h2 h3;refine⟨⟨h1.1.1,h1.1.2,h1.2⟩,h2.1.1,h2.1.2,fun e he m hm hn=>?_,h4,h5⟩;have:=h3.1.1;rw[QV9,QW7]at this;refine this e he (QWR.2 ⟨m,hm,?_⟩);simp[hn]

structure Mok (S:SC)(m:SM):Prop where
 name:XE m.name=true
 len:m.fields.length≤64
 flds:∀i,i<m.fields.length→Un S m i=true
 nc:Gv S m=false
theorem Kp {S:SC}{m:SM}(h:G7 S m=true):Mok S m:=by
 unfold G7 at h;simp only[QVF,QWA,QV9]at h;obtain⟨⟨⟨⟨⟨⟨⟨⟨h1,h2⟩,_⟩,_⟩,h3⟩,_⟩,_⟩,_⟩,h4⟩:=h;exact⟨h1,h2,QU.1 h3,h4⟩
structure Fok (S:SC)(m:SM)(i:Nat)(f:SF):Prop where
 num:1≤f.num∧f.num≤65535
 up:∀j y,i=j+1→m.fields[j]? = some y→y.num<f.num
 name:Xo f.name=true
 twice:((m.fields.take i).any fun x=>x.name==f.name)=false
 card:YP f=true
 typ:JD S f=true
 uni:Jm m i=true
 WC:WC S f=true
 notes:X6 f.notes 2=0
theorem Qzm {S:SC}{m:SM}{i:Nat}{f:SF}(hf:m.fields[i]? = some f)(h:Un S m i=true):Fok S m i f:=by
 unfold Un at h;rw[hf]at h;simp only[QVF,QWA,QV9,QVG]at h;obtain⟨⟨⟨⟨⟨⟨⟨⟨⟨⟨⟨h1,h2⟩,h3⟩,h4⟩,h5⟩,_⟩,_⟩,h6⟩,h7⟩,h8⟩,h9⟩,h10⟩:=h;refine⟨⟨h1,h2⟩,fun j y hj hy=>?_,h4,h5,h6,h7,h8,h9,h10⟩;subst hj;dsimp only at h3;rw[hy]at h3
 simpa using h3
theorem KR {S:SC}{m:SM}(hm:Mok S m){i:Nat}{f:SF}(hf:m.fields[i]? = some f):Fok S m i f:=Qzm hf (hm.flds i (QVk.1 hf).1)

theorem VM {t:Int}:∀ {l:List SN} {last:Option (List UInt8)},J5 t last l=0→∀n∈l,XY n.name≠0∧n.val.fitk (XY n.name)=true
 |n :: l,last,h,x,hx=>by
  rw[J5]at h;split at h
  ·rename_i h1;rcases QWy.1 hx with rfl|hx
   ·unfold JO at h1;split at h1
    ·cases h1
    ·rename_i h2;split at h1
     ·cases h1
     ·split at h1
      ·cases h1
      ·rename_i h3;exact⟨h2,by simpa using h3⟩
   ·exact VM h x hx
  ·rename_i h1;exact absurd h h1
theorem Qct {l:List SN}{t:Int}(h:X6 l t=0):∀n∈l,XY n.name≠0∧n.val.fitk (XY n.name)=true:=by
 unfold X6 at h;split at h
 ·cases h
 ·exact VM h
theorem T5:XY alias=7:=by decide
theorem DS {l:List SN}{t:Int}(h:X6 l t=0){v:V}(hv:Xc l=some v):v.fitk 7=true:=by
 unfold Xc at hv;cases hf:l.find? (fun n=>n.name==alias)with
 |none=>rw[hf]at hv;cases hv
 |some n=>
  rw[hf]at hv;cases hv;have hn:n.name=alias:=by simpa using QXa hf
  have:=(Qct h n (QW9 hf)).2
  rwa [hn,T5]at this
theorem Sj {v:V}(h:v.fitk 7=true):Ji v.text=true∧v.text.length≤4096:=by
 unfold V.fitk Jc at h;simp only[QVF,QWA,QWc]at h;refine⟨?_,by omega⟩;rcases h.2 with h|h
 ·exact absurd h (by decide)
 ·exact h

theorem Da {S:SC}(hS:XN S.msgs (Wk SM.name)=true):IB S:=by
 have hs:∀i (hi:i+1<S.msgs.length),Op.bytesLess S.msgs[i].name S.msgs[i+1].name=true:=by
  intro i hi;have h:=hS;unfold XN at h;have:=QU.1 h (i+1) hi;rw[JL (QVl (by omega:i<S.msgs.length)) (QVl hi)]at this;exact this
 have hp:∀(i j:Nat) (hi:i<S.msgs.length) (hj:j<S.msgs.length),i<j→Op.bytesLess S.msgs[i].name S.msgs[j].name=true:=by
  intro i j hi hj hij;obtain⟨d,rfl⟩:∃d,j=i+1+d:=⟨j-(i+1),by omega⟩;clear hij
  induction d with
  |zero=>exact hs i (by omega)
  |succ d ih=>exact Yz (ih (by omega)) (hs (i+1+d) (by omega))
 intro i j m n hm hn e;obtain⟨hi,rfl⟩:=QVk.1 hm;obtain⟨hj,rfl⟩:=QVk.1 hn;rcases Nat.lt_trichotomy i j with c|c|c
 ·have:=hp i j hi hj c;rw[e,J6]at this;cases this
 ·exact c
 ·have:=hp j i hj hi c;rw[e,J6]at this;cases this

section
variable {S:SC}(hS:Sok S)
include hS
theorem Nj:IB S:=Da hS.om

theorem Qcu:∀b∈QT S,b=true:=by
 have hfix:Q6 S (QT S) S.msgs.length=QT S:=Yy S _ _ (by rw[QWI];omega);have hlen:(QT S).length=S.msgs.length:=by unfold QT;rw[Hn,QWI]
 have hD:=Nj hS
 -- a step that changes something changes the count
 have hst:∀i,i≤S.msgs.length→Q6 S (QT S) i=QT S:=by
  intro i hi;have mono:∀i d,YR (Q6 S (QT S) i)≤YR (Q6 S (QT S) (i+d)):=by
   intro i d
   induction d with
   |zero=>exact QVi _
   |succ d ih=>
    rw[show i+(d+1)=(i+d)+1 by omega,Q6];rcases G9 S (Q6 S (QT S) (i+d)) (i+d)with g|g
    ·rw[g];exact ih
    ·omega
  rcases Wc S (QT S) i with g|g
  ·exact g
  ·have:=mono i (S.msgs.length-i);rw[show i+(S.msgs.length-i)=S.msgs.length by omega,hfix]at this;omega
 intro b hb;obtain⟨i,hi,rfl⟩:=List.getElem_of_mem hb;have hm:S.msgs[i]? = some (S.msgs[i]'(by omega)):=QVl (by omega);have h1:=hst (i+1) (by omega);rw[Q6,hst i (by omega)]at h1;unfold Ku at h1;rw[hm]at h1;have hc:=(Kp (hS.ms _ (List.getElem_mem (by omega:i<S.msgs.length)))).nc;rw[Sg hD]at hc;cases hF:(QT S)[i]with
 |true=>rfl
 |false=>
  change (if (QT S)[i]? = some false∧Xg S (QT S) (S.msgs[i]'(by omega))=false then(QT S).set i true else QT S)=QT S at h1
  rw[QVq ⟨by rw[QVl hi,hF],hc⟩]at h1;have:=congrArg (fun l:List Bool=>l[i]?) h1;rw[List.getElem?_set_self hi,QVl hi,hF]at this;cases this

theorem VN {m:SM}(hm:m∈S.msgs){f:SF}(hf:f∈m.fields)(hk:f.kind=10):∃(j:Nat) (n:SM),S.msgs[j]? = some n∧n.name=f.tname∧Jy S f=(j:Int)∧JP S f.tname=(j:Int)∧f.card≠3:=by
 obtain⟨i,hi⟩:=QVu.1 hf;have ht:=(KR (Kp (hS.ms m hm)) hi).typ;unfold JD at ht;rw[QVp (by omega),QVp (by omega),QVq hk]at ht;simp only[QVF,QVL]at ht;obtain⟨h1,h2⟩:=ht;unfold Q2 at h1;obtain⟨x,hx,hxn⟩:=QWR.1 h1;have hxn:x.name=f.tname:=by simpa using hxn
 obtain⟨j,hj⟩:=QVu.1 hx;have:=Se (Nj hS) hj;rw[hxn]at this;refine⟨j,x,hj,hxn,?_,this,h2⟩;unfold Jy;rw[QVq hk];exact this
theorem T6 {m:SM}(hm:m∈S.msgs){f:SF}(hf:f∈m.fields)(hk:f.kind=9):∃(j:Nat) (n:SE),S.enums[j]? = some n∧n.name=f.tname∧Jy S f=(j:Int):=by
 obtain⟨i,hi⟩:=QVu.1 hf;have ht:=(KR (Kp (hS.ms m hm)) hi).typ;unfold JD at ht;rw[QVp (by omega),QVq hk]at ht;unfold G5 at ht;obtain⟨x,hx,hxn⟩:=QWR.1 ht;unfold Jy;rw[QVp (by omega),QVq hk];rcases Xn (fun m:SE=>m.name==f.tname) S.enums 0 with⟨_,hn⟩|⟨k,o,h1,h2,h3⟩
 ·exact absurd hxn (QW8.1 hn x hx)
 ·exact⟨k,o,h2,by simpa using QXa h3,by rw[h1];omega⟩

theorem Qzn:fin (QE S)=true:=by
 have hD:=Nj hS;have hG:(QE S).progs=S.msgs.map (Zq S):=rfl
 -- what a program needs
 have hneed:∀(F:List Bool),F.length=S.msgs.length→∀m∈S.msgs,(Zq S m).ops.any (KV F)=Xg S F m:=by
  intro F _ m hm;unfold Xg Ze;rw[List.any_map,List.any_filter];show(m.fields.map (Kt S (unl [] m.fields))).any (KV F)=_;rw[List.any_map];refine Sh fun f hf=>?_
  show KV F (Kt S (unl [] m.fields) f)=_;unfold KV;show(f.card==1&&f.kind==10 && !(F[(Jy S f).toNat]?.getD false))=_;by_cases hc:f.card=1∧f.kind=10
  ·obtain⟨j,n,h1,h2,h3,h4,_⟩:=VN hS hm hf hc.2;simp only[Function.comp_apply,hc.1,hc.2,beq_self_eq_true,QWY,h3,h4];rw[QXb (by omega:(j:Int)≥0),QWY]
  ·have:(f.card==1&&f.kind==10)=false:=by
    rw[QXh,QXd,QXd];omega
   rw[this];rfl
 have hstp:∀(F:List Bool) (i:Nat),F.length=S.msgs.length→DR (QE S).progs F→YQ (QE S).progs F i=Ku S F i:=by
  intro F i hl hk;unfold Ku;cases hm:S.msgs[i]? with
  |none=>
   unfold YQ;rw[hG,QWB,hm];rfl
  |some m=>
   have hi:=(QVk.1 hm).1;have hg:(QE S).progs[i]? = some (Zq S m):=by rw[hG,QWB,hm];rfl
   have hb:F[i]? = some (F[i]'(by omega)):=QVl (by omega);rw[Qy9 hk hg hb,hneed F hl m (QVw hm)];dsimp only;cases hF:F[i]'(by omega)with
   |true=>
    rw[QVp (fun h=>by rw[hb,hF]at h;cases h.1),QW0,←hF];exact List.set_getElem_self _
   |false=>
    cases hs:Xg S F m with
    |true=>
     rw[QVp (fun h=>by cases h.2)];show F.set i false=F;rw[←hF];exact List.set_getElem_self _
    |false=>rw[QVq ⟨by rw[hb,hF],rfl⟩];rfl
 have hrnd:∀(F:List Bool),F.length=S.msgs.length→DR (QE S).progs F→∀i,Nc (QE S).progs F i=Q6 S F i:=by
  intro F hl hk i
  induction i with
  |zero=>rfl
  |succ i ih=>rw[Nc,Q6,←ih,hstp _ i (by rw[ih,KB,hl]) (G8 hk i)]
 have hits:∀k,its (QE S).progs k=Nat.repeat (fun F=>Q6 S F S.msgs.length) k (List.replicate S.msgs.length false):=by
  intro k
  induction k with
  |zero=>rw[its,hG,QWE];rfl
  |succ k ih=>
   have hpl:(QE S).progs.length=S.msgs.length:=by rw[hG,QWE]
   rw[its,hrnd _ (by rw[VF,hpl]) (VG _ k),ih,hpl];rfl
 obtain⟨j,h1,h2,h3⟩:=Ur S S.msgs.length (List.replicate S.msgs.length false);have hfix:Q6 S (QT S) S.msgs.length=QT S:=Yy S _ _ (by rw[QWI];omega);have hstay:∀d,Nat.repeat (fun F=>Q6 S F S.msgs.length) d (QT S)=QT S:=by
  intro d
  induction d with
  |zero=>rfl
  |succ d ih=>show Q6 S (Nat.repeat _ d (QT S)) _=_;rw[ih,hfix]
 have hadd:∀d (F:List Bool),Nat.repeat (fun F=>Q6 S F S.msgs.length) (d+j) F=Nat.repeat (fun F=>Q6 S F S.msgs.length) d (Nat.repeat (fun F=>Q6 S F S.msgs.length) j F):=by
  intro d
  induction d with
  |zero=>intro F;rw[QVH];rfl
  |succ d ih=>intro F;rw[show d+1+j=(d+j)+1 by omega];show Q6 S (Nat.repeat _ (d+j) F) _=_;rw[ih F];rfl
 have hkey:Nat.repeat (fun F=>Q6 S F S.msgs.length) S.msgs.length (List.replicate S.msgs.length false)=QT S:=by
  have e1:=hadd (S.msgs.length-j) (List.replicate S.msgs.length false);rw[Nat.sub_add_cancel h1,←h2,show ZT S S.msgs.length (List.replicate S.msgs.length false)=QT S from rfl,hstay]at e1;exact e1
 unfold fin;rw[show(QE S).progs.length=S.msgs.length by rw[hG,QWE],hits,hkey,QVv];exact Qcu hS
end

structure Eok (e:SE):Prop where
 name:XE e.name=true
 len:1≤e.items.length∧e.items.length≤64
 free:e.free.length≤16
 itms:∀i,i<e.items.length→WS e i=true
 spn:G6 0 2147483647 e.free=true
theorem Wm {e:SE}(h:Yv e=true):Eok e:=by
 unfold Yv at h;simp only[QVF,QWA]at h;obtain⟨⟨⟨⟨⟨⟨h1,h2⟩,h3⟩,h4⟩,h5⟩,h6⟩,_⟩:=h;exact⟨h1,⟨h2,h3⟩,h4,QU.1 h5,h6⟩
structure Iok (e:SE)(i:Nat)(x:SI):Prop where
 num:0≤x.num∧x.num≤2147483647
 fst:i=0→x.num=0
 up:∀j y,i=j+1→e.items[j]? = some y→y.num<x.num
 name:Xo x.name=true
 twice:((e.items.take i).any fun y=>y.name==x.name)=false
 kept:kept e.free x.num=false
 notes:X6 x.notes 4=0
theorem Wn {e:SE}(he:Eok e){i:Nat}{x:SI}(hx:e.items[i]? = some x):Iok e i x:=by
 have h:=he.itms i (QVk.1 hx).1;unfold WS at h;rw[hx]at h;simp only[QVF,QWA,QV9,QVG]at h;obtain⟨⟨⟨⟨⟨⟨h1,h2⟩,h3⟩,h4⟩,h5⟩,h6⟩,h7⟩:=h;refine⟨⟨h1,h2⟩,fun h0=>?_,fun j y hj hy=>?_,h4,h5,h6,h7⟩
 ·subst h0
  simpa using h3
 ·subst hj;dsimp only at h3;rw[hy]at h3
  simpa using h3

theorem Qzo {S:SC}(hS:Sok S):VC (QE S)=true:=by
 unfold VC;simp only[QVF,QWA,QVv];refine⟨⟨⟨?_,?_⟩,fun g hg=>?_⟩,fun e he=>?_⟩
 ·show(S.msgs.map (Zq S)).length≤64;rw[QWE];exact hS.lm.1
 ·show(S.enums.map ZS).length≤64;rw[QWE];exact hS.lm.2.1
 ·obtain⟨m,hm,rfl⟩:=QWz.1 hg;unfold TO;show decide ((m.fields.map _).length≤64)=true;rw[QWE];exact QXb (Kp (hS.ms m hm)).len
 ·obtain⟨x,hx,rfl⟩:=QWz.1 he;have:=Wm (hS.es x hx);unfold TP;show(decide (1≤(x.items.map ZJ).length)&&decide ((x.items.map ZJ).length≤64)&&decide (x.free.length≤16))=true;rw[QWE,QXb this.len.1,QXb this.len.2,QXb this.free];rfl
theorem Qzp {S:SC}(hS:Sok S):Iw (QE S)=true:=by
 unfold Iw;simp only[QVF,QVv];refine⟨fun g hg=>?_,fun e he=>?_⟩
 ·obtain⟨m,hm,rfl⟩:=QWz.1 hg;have hk:=Kp (hS.ms m hm);unfold QyL;simp only[QVF,QVv];refine⟨hk.name,fun o ho=>?_⟩;obtain⟨f,hf,rfl⟩:=QWz.1 ho;obtain⟨i,hi⟩:=QVu.1 hf;exact(KR hk hi).name
 ·obtain⟨x,hx,rfl⟩:=QWz.1 he;have hk:=Wm (hS.es x hx);unfold QyM;simp only[QVF,QVv];refine⟨hk.name,fun o ho=>?_⟩;obtain⟨f,hf,rfl⟩:=QWz.1 ho;obtain⟨i,hi⟩:=QVu.1 hf;exact(Wn hk hi).name
theorem Qzq {S:SC}(hS:Sok S):Iy (QE S)=true:=by
 unfold Iy;simp only[QVF,QVv];refine⟨⟨⟨?_,?_⟩,fun g hg=>?_⟩,fun e he=>?_⟩
 ·show XN (S.msgs.map (Zq S)) _=true;rw[KC];exact hS.om
 ·show XN (S.enums.map ZS) _=true;rw[KC];exact hS.oe
 ·obtain⟨m,hm,rfl⟩:=QWz.1 hg;have hk:=Kp (hS.ms m hm);unfold QyN;show XN (m.fields.map _) _=true;rw[KC];unfold XN;rw[QU];intro i hi;cases i with
  |zero=>rfl
  |succ k=>
   have h1:m.fields[k]? = some (m.fields[k]'(by omega)):=QVl (by omega);have h2:m.fields[k+1]? = some m.fields[k+1]:=QVl hi;rw[JL h1 h2];exact QXb ((KR hk h2).up k _ rfl h1)
 ·obtain⟨x,hx,rfl⟩:=QWz.1 he;have hk:=Wm (hS.es x hx);unfold QyO;show XN (x.items.map ZJ) _=true;rw[KC];unfold XN;rw[QU];intro i hi;cases i with
  |zero=>rfl
  |succ k=>
   have h1:x.items[k]? = some (x.items[k]'(by omega)):=QVl (by omega);have h2:x.items[k+1]? = some x.items[k+1]:=QVl hi;rw[JL h1 h2];exact QXb ((Wn hk h2).up k _ rfl h1)
theorem Qzr {S:SC}(hS:Sok S):Iz (QE S)=true:=by
 unfold Iz;simp only[QVF,QVv];refine⟨fun g hg=>?_,fun e he=>?_⟩
 ·obtain⟨m,hm,rfl⟩:=QWz.1 hg;have hk:=Kp (hS.ms m hm);unfold TQ;simp only[QVF,QVv];refine⟨fun e he=>?_,?_⟩
  ·obtain⟨x,hx,rfl⟩:=QWz.1 he;have:(ZS x).name≠(Zq S m).name:=fun h=>hS.ap x hx m hm h.symm
   simpa using this
  ·show Yr (m.fields.map _) _=true;rw[Ni];unfold Yr;rw[QU];intro i hi;have h2:m.fields[i]? = some m.fields[i]:=QVl hi;rw[WZ h2,VB,QV9];exact(KR hk h2).twice
 ·obtain⟨x,hx,rfl⟩:=QWz.1 he;have hk:=Wm (hS.es x hx);unfold QyP;show Yr (x.items.map ZJ) _=true;rw[Ni];unfold Yr;rw[QU];intro i hi;have h2:x.items[i]? = some x.items[i]:=QVl hi;rw[WZ h2,VB,QV9];exact(Wn hk h2).twice
theorem Qzs {S:SC}(hS:Sok S):rng (QE S)=true:=by
 unfold rng;simp only[QVF,QVv];refine⟨fun g hg o ho=>?_,fun e he=>?_⟩
 ·obtain⟨m,hm,rfl⟩:=QWz.1 hg;obtain⟨f,hf,rfl⟩:=QWz.1 ho;obtain⟨i,hi⟩:=QVu.1 hf;have:=(KR (Kp (hS.ms m hm)) hi).num;unfold QyQ;show(decide (f.num≥1)&&decide (f.num≤65535))=true;rw[QXb this.1,QXb this.2];rfl
 ·obtain⟨x,hx,rfl⟩:=QWz.1 he;have hk:=Wm (hS.es x hx);have hsp:=hk.spn;unfold G6 at hsp;simp only[QVF]at hsp;unfold QyT;simp only[QVF,QVv];refine⟨⟨⟨fun y hy=>QVv.1 hsp.1 y hy,hsp.2⟩,?_⟩,fun y hy=>?_⟩
  ·unfold QyS;show(match x.items.map ZJ with
    | []=>true
    |x :: _=>x.num==0)=true
   cases hi:x.items with
   |nil=>rfl
   |cons a l=>
    have:=(Wn hk (i:=0) (x:=a) (by rw[hi];rfl)).fst rfl;show(a.num==0)=true;rw[this];rfl
  ·obtain⟨z,hz,rfl⟩:=QWz.1 hy;obtain⟨i,hi⟩:=QVu.1 hz;have h1:=Wn hk hi;unfold QyR;show(decide (z.num≤2147483647) && !kept x.free z.num)=true;rw[QXb h1.num.2,h1.kept];rfl

theorem UE:∀(l:List SF) (us:List (List UInt8)),∃r,unl us l=us++r
 | [],us=>⟨[],by simp[unl]⟩
 |f :: l,us=>by
  rw[unl];split
  ·exact UE l us
  ·obtain⟨r,h⟩:=UE l (us++[f.union]);exact⟨f.union :: r,by rw[h];simp⟩
theorem UF:∀(l:List SF) (us:List (List UInt8)) (s:List UInt8),s∈unl us l↔s∈us∨(s≠[]∧∃f∈l,f.union=s)
 | [],us,s=>by simp[unl]
 |f :: l,us,s=>by
  rw[unl];split
  ·rename_i h;rw[UF l us s]
   constructor
   ·rintro(h1|⟨h1,g,hg,h2⟩)
    ·exact .inl h1
    ·exact .inr ⟨h1,g,by simp[hg],h2⟩
   ·rintro(h1|⟨h1,g,hg,h2⟩)
    ·exact .inl h1
    ·rcases QWy.1 hg with rfl|hg
     ·rcases h with h|h
      ·exact absurd (h2.symm.trans h) h1
      ·rw[h2]at h;exact .inl (by simpa using h)
     ·exact .inr ⟨h1,g,hg,h2⟩
  ·rename_i h;simp only[not_or]at h;rw[UF l _ s];simp only[QWw,QXk]
   constructor
   ·rintro((h1|h1)|⟨h1,g,hg,h2⟩)
    ·exact .inl h1
    ·exact .inr ⟨by rw[h1];exact h.1,f,by simp,h1.symm⟩
    ·exact .inr ⟨h1,g,by simp[hg],h2⟩
   ·rintro(h1|⟨h1,g,hg,h2⟩)
    ·exact .inl (.inl h1)
    ·rcases QWy.1 hg with rfl|hg
     ·exact .inl (.inr h2.symm)
     ·exact .inr ⟨h1,g,hg,h2⟩
theorem W2:∀(a b:List SF) (us:List (List UInt8)),unl us (a++b)=unl (unl us a) b
 | [],b,us=>rfl
 |f :: a,b,us=>by rw[QVD,unl,unl,W2 a b]
theorem Db {us r:List (List UInt8)}{s:List UInt8}(h:s∈us):XH (us++r) s=XH us s∧0≤XH us s∧XH us s<(us.length:Int):=by
 unfold XH;rcases Xn (fun u=>u==s) us 0 with⟨_,hn⟩|⟨k,o,h1,h2,h3⟩
 ·exact absurd (by simp) (QW8.1 hn s h)
 ·have hk:=(QVk.1 h2).1;have happ:∀(l:List (List UInt8)) (i:Nat),s∈l→QW (fun u=>u==s) (l++r) i=QW (fun u=>u==s) l i:=by
   intro l
   induction l with
   |nil=>intro i h;cases h
   |cons x l ih=>
    intro i h;rw[QVD,QW,QW];split
    ·rfl
    ·rename_i hx;exact ih _ ((QWy.1 h).resolve_left fun e=>hx (by simp[e]))
  refine⟨happ us 0 h,?_,?_⟩
  ·rw[h1];omega
  ·rw[h1];omega
theorem Qcv {us r:List (List UInt8)}{s:List UInt8}(h:s∉us):XH (us++s :: r) s=(us.length:Int):=by
 unfold XH;have:∀(l:List (List UInt8)) (i:Nat),s∉l→QW (fun u=>u==s) (l++s :: r) i=((i+l.length:Nat):Int):=by
  intro l
  induction l with
  |nil=>
   intro i _;rw[QVE,QW,QVq (by simp)];rfl
  |cons x l ih=>
   intro i h;simp only[QWy,not_or]at h;rw[QVD,QW,QVp (by simpa using fun e=>h.1 e.symm),ih (i+1) h.2,QVx];congr 1
   omega
 have:=this us 0 h
 simpa using this

def X2 (us:List (List UInt8))(f:SF):Int:=if f.union=[]then -1 else XH us f.union

theorem Nk {S:SC}{m:SM}(hu:∀i,i<m.fields.length→Jm m i=true):∀(b a:List SF),m.fields=a++b→Jx (b.map (Kt S (unl [] m.fields))) ((unl [] a).length:Int) (match a.getLast? with
   |none=>-1
   |some f=>X2 (unl [] m.fields) f)=some ((unl [] m.fields).length:Int)
 | [],a,h=>by
  rw[QWg]at h;rw[QWe,Jx,h]
 |f :: b,a,h=>by
  have h2:m.fields=(a++[f])++b:=by rw[h];simp
  have ih:=Nk (S:=S) hu b (a++[f]) h2;rw[List.getLast?_concat]at ih
  change Jx (b.map (Kt S (unl [] m.fields))) ((unl [] (a++[f])).length:Int) (X2 (unl [] m.fields) f)=_ at ih
  have hal:m.fields[a.length]? = some f:=by rw[h];simp
  have hun:=hu a.length (QVk.1 hal).1;obtain⟨r,hr⟩:=UE b (unl [] (a++[f]));have hfull:unl [] m.fields=unl [] (a++[f])++r:=by rw[h2,W2,hr]
  have hone:unl [] (a++[f])=if f.union=[]∨(unl [] a).contains f.union=true then unl [] a else unl [] a++[f.union]:=by rw[W2];rfl
  rw[QVP,Jx];show(if X2 (unl [] m.fields) f=((unl [] a).length:Int)then Jx (b.map _) (((unl [] a).length:Int)+1) ((unl [] a).length:Int)
   else if X2 (unl [] m.fields) f = -1∨X2 (unl [] m.fields) f=_ then Jx (b.map _) ((unl [] a).length:Int) (X2 (unl [] m.fields) f)else none)=_
  by_cases h0:f.union=[]
  ·have hf:X2 (unl [] m.fields) f = -1:=by unfold X2;rw[QVq h0]
   rw[QVq (.inl h0)]at hone;rw[hone]at ih;rw[hf]at ih ⊢;rw[QVp (by omega),QVq (.inl rfl)];exact ih
  ·by_cases hc:(unl [] a).contains f.union=true
   ·rw[QVq (.inr hc)]at hone;have hmem:f.union∈unl [] a:=by simpa using hc
    obtain⟨i1,i2,i3⟩:=Db (r:=r) hmem;have hf:X2 (unl [] m.fields) f=XH (unl [] a) f.union:=by
     unfold X2;rw[QVp h0,hfull,hone];exact i1
    rw[hone]at ih
    -- the field before has the same union
    have hprev:(match a.getLast? with
      |none=>-1
      |some g=>X2 (unl [] m.fields) g)=X2 (unl [] m.fields) f:=by
     have hex:=((UF a [] f.union).1 hmem).resolve_left (by simp);obtain⟨_,g,hg,hgu⟩:=hex;unfold Jm at hun;rw[hal]at hun;simp only[QWc,QVG,QVF,QV9]at hun;have hun:=(hun.resolve_left h0).2;have htk:m.fields.take a.length=a:=by rw[h];simp
     have hany:((m.fields.take a.length).any fun x=>x.union==f.union)=true:=by
      rw[htk];exact QWR.2 ⟨g,hg,by simp[hgu]⟩
     rw[hany]at hun;have hun:=hun.resolve_left (by decide);cases hla:a.getLast? with
     |none=>
      rw[List.getLast?_eq_none_iff]at hla;rw[hla]at hg;cases hg
     |some y=>
      dsimp only;obtain⟨a',rfl⟩:=List.getLast?_eq_some_iff.1 hla;rw[QVU,QWM]at hun;dsimp only at hun;have hy:m.fields[a'.length]? = some y:=by rw[h];simp
      rw[hy]at hun;have hyu:y.union=f.union:=by simpa using hun
      unfold X2;rw[hyu]
    rw[hprev,QVp (by rw[hf];omega),QVq (.inr rfl)];exact ih
   ·rw[QVp (not_or.2 ⟨h0,hc⟩)]at hone;have hnm:f.union∉unl [] a:=by simpa using hc
    have hf:X2 (unl [] m.fields) f=((unl [] a).length:Int):=by
     unfold X2;rw[QVp h0,hfull,hone,QVC];exact Qcv hnm
    rw[hone,QVU,QWM,hf]at ih;rw[QVq hf];exact ih

theorem Qcw {S:SC}(hS:Sok S):args (QE S)=true:=by
 unfold args;simp only[QVF,QVv];refine⟨fun g hg=>?_,fun e he=>?_⟩
 ·obtain⟨m,hm,rfl⟩:=QWz.1 hg;have hk:=Kp (hS.ms m hm);unfold C4;simp only[QVF,QVv];refine⟨?_,fun o ho=>?_⟩
  ·unfold TY;have:=Nk (S:=S) (m:=m) (fun i hi=>(KR hk (QVl hi)).uni) m.fields [] rfl;show(match Jx (m.fields.map (Kt S (unl [] m.fields))) 0 (-1)with
    |some n=>(Zq S m).unions==n
    |none=>false)=true
   have e:Jx (m.fields.map (Kt S (unl [] m.fields))) 0 (-1)=some ((unl [] m.fields).length:Int):=this;rw[e];show(((unl [] m.fields).length:Int)==((unl [] m.fields).length:Int))=true;simp
  ·obtain⟨f,hf,rfl⟩:=QWz.1 ho;obtain⟨i,hi⟩:=QVu.1 hf;have fo:=KR hk hi;have hc:=fo.card;unfold YP at hc;simp only[QVF,QWA]at hc;obtain⟨⟨c1,c2⟩,c3⟩:=hc;refine⟨?_,?_⟩
   ·unfold TX;simp only[QVF,QWA];have hal:Ji (Kt S (unl [] m.fields) f).alias=true∧(Kt S (unl [] m.fields) f).alias.length≤4096:=by
     show Ji (((Xc f.notes).map V.text).getD [])=true∧(((Xc f.notes).map V.text).getD []).length≤4096;cases hv:Xc f.notes with
     |none=>exact⟨by decide,QVr _⟩
     |some v=>exact Sj (DS fo.notes hv)
    refine⟨⟨⟨⟨⟨hal.1,by have:=hal.2;omega⟩,c1⟩,c2⟩,c3⟩,?_⟩;unfold aim;show(if f.kind=10 then decide (Jy S f≥0)&&decide (Jy S f<((S.msgs.map (Zq S)).length:Int))&&f.card != 3
     else if f.kind=9 then decide (Jy S f≥0)&&decide (Jy S f<((S.enums.map ZS).length:Int))else Uj f.kind&&Jy S f == -1)=true
    rw[QWE,QWE];by_cases DL:f.kind=10
    ·obtain⟨j,n,h1,_,h3,_,h5⟩:=VN hS hm hf DL;have:=(QVk.1 h1).1;rw[QVq DL,h3,QXb (by omega:(j:Int)≥0),QXb (by omega:(j:Int)<(S.msgs.length:Int))]
     simpa using h5
    rw[QVp DL];by_cases k9:f.kind=9
    ·obtain⟨j,n,h1,_,h3⟩:=T6 hS hm hf k9;have:=(QVk.1 h1).1;rw[QVq k9,h3,QXb (by omega:(j:Int)≥0),QXb (by omega:(j:Int)<(S.enums.length:Int))];rfl
    ·have ht:=fo.typ;unfold JD at ht;rw[QVp k9];by_cases k8:1≤f.kind∧f.kind≤8
     ·unfold Jy Uj;rw[QVp DL,QVp k9,QXb (by omega:f.kind≥1),QXb (by omega:f.kind≤9)];rfl
     ·rw[QVp k8,QVp k9,QVp DL]at ht;cases ht
   ·unfold uok;show((if f.union=[]then(-1:Int)else XH (unl [] m.fields) f.union) == -1||f.card==2)=true;by_cases h0:f.union=[]
    ·rw[QVq h0];rfl
    ·have hu:=fo.uni;unfold Jm at hu;rw[hi]at hu;simp only[QWc,QVG,QVF]at hu;have:=(hu.resolve_left h0).1.1.1;rw[this,QWc];exact .inr rfl
 ·obtain⟨x,hx,rfl⟩:=QWz.1 he;have hk:=Wm (hS.es x hx);unfold Qy4;simp only[QVF,QVv];refine⟨rfl,fun y hy=>?_⟩;obtain⟨z,hz,rfl⟩:=QWz.1 hy;obtain⟨i,hi⟩:=QVu.1 hz;have h1:=(Wn hk hi).notes;unfold nte ZJ;dsimp only;cases hv:Xc z.notes with
  |none=>rfl
  |some v=>
   have h2:=DS h1 hv;dsimp only;rw[V.eta];show(alias==alias&&Jc 7 v.kd (Int.toNat (v.bits:Int)) v.text _ _ _ _)=true;rw[QWH];unfold V.fitk at h2
   simpa using h2

theorem ZL {S:SC}(h:XR S=true):ck (QE S)=0:=by
 have hS:=Si h;unfold ck;rw[Qzo hS,Qzp hS,Qzq hS,Qzr hS,Qzs hS,Qcw hS,Qzn hS];rfl

structure PB where
 dfn:List UInt8
 num:Int
 err:Int
def PB.av (x:PB):AV:=.agg [.str x.dfn,.int .i64 x.num,.int .i64 x.err]
def pb (d:List UInt8)(n:Int)(ok:Bool)(e:Int):List PB:=bif ok then []else [⟨d,n,e⟩]
theorem Zr {d:List UInt8}{n:Int}{ok:Bool}{e:Int}:pb d n ok e=[]↔ok=true:=by
 cases ok<;>simp[pb]
def XJ (d:List UInt8)(n:Int)(l:List SN)(t:Int):List PB:=pb d n (X6 l t==0) (X6 l t)
def Kv {α:Type}(l:List α)(num:α→Int)(i:Nat)(x:α):Bool:=match i with
 |0=>true
 |j+1=>match l[j]? with
  |none=>true
  |some y=>decide (num x > num y)
def J7 (S:SC)(m:SM)(i:Nat)(f:SF):List PB :=
 pb m.name f.num (decide (f.num≥1)&&decide (f.num≤65535)) 6++pb m.name f.num (Kv m.fields SF.num i f) 11++pb m.name f.num (Xo f.name) 8 ++
 pb m.name f.num (!((m.fields.take i).any fun x=>x.name==f.name)) 9++pb m.name f.num (!(kept m.free f.num) && !(m.gone.contains f.name)) 21 ++
 pb m.name f.num (YP f) 1++pb m.name f.num (JD S f) 12++pb m.name f.num (Jm m i) 15++pb m.name f.num (WC S f) 1++XJ m.name f.num f.notes 2
def upto {α β:Type}(l:List α)(g:Nat→α→List β):Nat→List β
 |0=>[]
 |n+1=>upto l g n++(match l[n]? with
  |none=>[]
  |some x=>g n x)
def Kq (d:List UInt8)(lo hi:Int)(l:List PS)(i:Nat)(x:PS):List PB :=
 pb d (-1) (decide (x.lo≥lo)&&decide (x.hi≤hi)&&decide (x.lo≤x.hi)) 6++pb d (-1) (match i with
  |0=>true
  |j+1=>match l[j]? with
   |none=>true
   |some y=>decide (x.lo > y.hi)) 11
def Jn (S:SC)(cy:SM→Bool)(m:SM):List PB :=
 pb m.name (-1) (XE m.name) 8++pb m.name (-1) (decide (m.fields.length≤64)&&decide (m.free.length≤16)&&decide (m.gone.length≤16)) 3 ++
 upto m.fields (J7 S m) m.fields.length++upto m.free (Kq m.name 1 65535 m.free) m.free.length++upto m.gone (fun _ g=>pb m.name (-1) (Ji g) 7) m.gone.length ++
 XJ m.name (-1) m.notes 1++pb m.name (-1) (!cy m) 19
def Jo (e:SE)(i:Nat)(x:SI):List PB :=
 pb e.name x.num (decide (x.num≥0)&&decide (x.num≤2147483647)) 6++pb e.name x.num (Kv e.items SI.num i x) 11++pb e.name x.num (Xo x.name) 8 ++
 pb e.name x.num (!((e.items.take i).any fun y=>y.name==x.name)) 9++pb e.name x.num (!(kept e.free x.num)) 21++XJ e.name x.num x.notes 4
def ZU (e:SE):Bool:=match e.items with
 | []=>true
 |x :: _=>x.num==0
def Jj (e:SE):List PB :=
 pb e.name (-1) (XE e.name) 8++pb e.name (-1) (decide (e.items.length≥1)&&decide (e.items.length≤64)&&decide (e.free.length≤16)) 3++pb e.name (-1) (ZU e) 14 ++
 upto e.items (Jo e) e.items.length++upto e.free (Kq e.name 0 2147483647 e.free) e.free.length++XJ e.name (-1) e.notes 3
def J8 (S:SC)(v:SQ)(i:Nat)(x:SO):List PB :=
 pb v.name (i:Int) (Xo x.name) 8++pb v.name (i:Int) (match i with
  |0=>true
  |j+1=>match v.meths[j]? with
   |none=>true
   |some y=>Op.bytesLess y.name x.name) 11++pb v.name (i:Int) (Q2 S x.inn&&Q2 S x.out) 12++pb v.name (i:Int) (decide (x.shape≥1)&&decide (x.shape≤4)) 1++XJ v.name (i:Int) x.notes 6
def Jz (S:SC)(v:SQ):List PB :=
 pb v.name (-1) (XE v.name) 8++pb v.name (-1) (decide (v.meths.length≤64)) 3++upto v.meths (J8 S v) v.meths.length++XJ v.name (-1) v.notes 5
def Jp (l:List (List UInt8)):List PB:=pb [] (-1) (decide (l.length≤64)) 3++pb [] (-1) (XN l Op.bytesLess) 11
def W3 (S:SC)(cy:SM→Bool):List PB :=
 Jp (S.msgs.map SM.name)++Jp (S.enums.map SE.name)++Jp (S.servs.map SQ.name)++pb [] (-1) (JY S) 9 ++
 S.msgs.flatMap (Jn S cy)++S.enums.flatMap Jj++S.servs.flatMap (Jz S)

theorem Wo {α β:Type}{l:List α}{g:Nat→α→List β}{n:Nat}:upto l g n=[]↔∀i,i<n→∀x,l[i]? = some x→g i x=[]:=by
 induction n with
 |zero=>simp[upto]
 |succ n ih=>
  rw[upto,QXl,ih]
  constructor
  ·rintro⟨h1,h2⟩ i hi x hx;rcases QW5.1 hi with h|rfl
   ·exact h1 i h x hx
   ·rw[hx]at h2;exact h2
  ·intro h;refine⟨fun i hi=>h i (by omega),?_⟩;cases hx:l[n]? with
   |none=>rfl
   |some x=>exact h n (by omega) x hx
theorem VP {S:SC}{m:SM}{i:Nat}{f:SF}(hf:m.fields[i]? = some f):J7 S m i f=[]↔Un S m i=true:=by
 cases i with
 |zero=>
  unfold Un;rw[hf];unfold J7 XJ Kv;simp only[QXl,Zr,QVF,and_assoc]
 |succ j=>
  unfold Un;rw[hf];unfold J7 XJ Kv;simp only[QXl,Zr,QVF,and_assoc];cases m.fields[j]?<;>exact Iff.rfl
theorem VQ {d:List UInt8}{lo hi:Int}{l:List PS}:upto l (Kq d lo hi l) l.length=[]↔G6 lo hi l=true:=by
 rw[Wo];unfold G6;rw[QVF,QVv];unfold XN;rw[QU]
 constructor
 ·intro h;refine⟨fun x hx=>?_,fun i hi=>?_⟩
  ·obtain⟨i,hi⟩:=QVu.1 hx;have:=h i (QVk.1 hi).1 x hi;unfold Kq at this;simp only[QXl,Zr]at this;exact this.1
  ·cases i with
   |zero=>rfl
   |succ k=>
    have h1:l[k]? = some (l[k]'(by omega)):=QVl (by omega);have h2:l[k+1]? = some l[k+1]:=QVl hi;have:=h (k+1) hi _ h2;unfold Kq at this;simp only[QXl,Zr]at this;have:=this.2;rw[h1]at this;rw[JL h1 h2];exact this
 ·rintro⟨h1,h2⟩ i hi x hx;unfold Kq;simp only[QXl,Zr];refine⟨h1 x (QVw hx),?_⟩;cases i with
  |zero=>rfl
  |succ k=>
   have h3:l[k]? = some (l[k]'(by omega)):=QVl (by omega);have:=h2 (k+1) hi;rw[JL h3 hx]at this;dsimp only;rw[h3];exact this
theorem VR {S:SC}{cy:SM→Bool}{m:SM}(hc:cy m=Gv S m):Jn S cy m=[]↔G7 S m=true:=by
 have h1:upto m.fields (J7 S m) m.fields.length=[]↔Xq (Un S m) m.fields.length=true:=by
  rw[Wo,QU]
  constructor
  ·intro h i hi;have hx:m.fields[i]? = some m.fields[i]:=QVl hi;exact(VP hx).1 (h i hi _ hx)
  ·intro h i hi x hx;exact(VP hx).2 (h i hi)
 have h2:upto m.gone (fun _ g=>pb m.name (-1) (Ji g) 7) m.gone.length=[]↔m.gone.all Ji=true:=by
  rw[Wo,QVv]
  constructor
  ·intro h x hx;obtain⟨i,hi⟩:=QVu.1 hx;exact Zr.1 (h i (QVk.1 hi).1 x hi)
  ·intro h i hi x hx;exact Zr.2 (h x (QVw hx))
 unfold Jn G7 XJ;rw[hc];simp only[QXl,Zr,h1,h2,VQ,QVF,and_assoc]
theorem VS {e:SE}:Jj e=[]↔Yv e=true:=by
 have h1:(ZU e=true∧upto e.items (Jo e) e.items.length=[])↔Xq (WS e) e.items.length=true:=by
  rw[Wo,QU];have key:∀i x,e.items[i]? = some x→i≠0→(Jo e i x=[]↔WS e i=true):=by
   intro i x hx h0;obtain⟨j,rfl⟩:∃j,i=j+1:=⟨i-1,by omega⟩;unfold WS;rw[hx];unfold Jo XJ Kv;simp only[QXl,Zr,QVF,and_assoc];cases e.items[j]?<;>exact Iff.rfl
  have key0:∀x,e.items[0]? = some x→((ZU e=true∧Jo e 0 x=[])↔WS e 0=true):=by
   intro x hx;have hf:ZU e=(x.num==0):=by
    unfold ZU;cases hi:e.items with
    |nil=>rw[hi]at hx;cases hx
    |cons y l=>rw[hi]at hx;cases hx;rfl
   unfold WS;rw[hx,hf];unfold Jo XJ Kv;simp only[QXl,Zr,QVF,and_assoc,true_and]
   constructor
   ·rintro⟨a,b,c,f,g,h,i⟩;exact⟨b,c,a,f,g,h,i⟩
   ·rintro⟨b,c,a,f,g,h,i⟩;exact⟨a,b,c,f,g,h,i⟩
  constructor
  ·rintro⟨hf,h⟩ i hi;have hx:e.items[i]? = some e.items[i]:=QVl hi;by_cases h0:i=0
   ·subst h0;exact(key0 _ hx).1 ⟨hf,h 0 hi _ hx⟩
   ·exact(key i _ hx h0).1 (h i hi _ hx)
  ·intro h;refine⟨?_,fun i hi x hx=>?_⟩
   ·cases hi:e.items with
    |nil=>unfold ZU;rw[hi]
    |cons y l=>
     have hl:0<e.items.length:=by rw[hi];simp
     exact((key0 y (by rw[hi];rfl)).2 (h 0 hl)).1
   ·by_cases h0:i=0
    ·subst h0;exact((key0 x hx).2 (h 0 hi)).2
    ·exact(key i x hx h0).2 (h i hi)
 unfold Jj Yv XJ;simp only[QXl,Zr,VQ,QVF,and_assoc]
 constructor
 ·rintro⟨a,b,c,d,f,g,h,i⟩;exact⟨a,b,c,d,h1.1 ⟨f,g⟩,h,i⟩
 ·rintro⟨a,b,c,d,f,h,i⟩;exact⟨a,b,c,d,(h1.2 f).1,(h1.2 f).2,h,i⟩
theorem VT {S:SC}{v:SQ}:Jz S v=[]↔TZ S v=true:=by
 have h1:upto v.meths (J8 S v) v.meths.length=[]↔Xq (C5 S v) v.meths.length=true:=by
  rw[Wo,QU];have key:∀i x,v.meths[i]? = some x→(J8 S v i x=[]↔C5 S v i=true):=by
   intro i x hx;unfold C5;rw[hx];unfold J8 XJ;simp only[QXl,Zr,QVF,and_assoc]<;>exact Iff.rfl
  constructor
  ·intro h i hi;have hx:v.meths[i]? = some v.meths[i]:=QVl hi;exact(key i _ hx).1 (h i hi _ hx)
  ·intro h i hi x hx;exact(key i x hx).2 (h i hi)
 unfold Jz TZ XJ;simp only[QXl,Zr,h1,QVF,and_assoc]
theorem flatMap_nil {α β:Type}{l:List α}{g:α→List β}:l.flatMap g=[]↔∀x∈l,g x=[]:=List.flatMap_eq_nil_iff

theorem Qcx {l:List (List UInt8)}:Jp l=[]↔(decide (l.length≤64)=true∧XN l Op.bytesLess=true):=by
 unfold Jp;simp only[QXl,Zr]
theorem VU {S:SC}{cy:SM→Bool}(h:IB S→∀m∈S.msgs,cy m=Gv S m):W3 S cy=[]↔XR S=true:=by
 have e1:XN (S.msgs.map SM.name) Op.bytesLess=XN S.msgs (Wk SM.name):=KC ..;have e2:XN (S.enums.map SE.name) Op.bytesLess=XN S.enums (Wk SE.name):=KC ..;have e3:XN (S.servs.map SQ.name) Op.bytesLess=XN S.servs (Wk SQ.name):=KC ..;unfold W3 XR T1 T0;simp only[QXl,Qcx,Zr,flatMap_nil,QVF,QVv,QWE,e1,e2,e3]
 constructor
 ·rintro⟨⟨⟨⟨⟨⟨⟨a1,a2⟩,b1,b2⟩,c1,c2⟩,d⟩,f⟩,g⟩,i⟩;have hD:=Da a2;exact⟨⟨⟨⟨⟨⟨⟨a1,b1⟩,c1⟩,⟨a2,b2⟩,c2⟩,d⟩,fun m hm=>(VR (h hD m hm)).1 (f m hm)⟩,fun e he=>VS.1 (g e he)⟩,fun v hv=>VT.1 (i v hv)⟩
 ·rintro⟨⟨⟨⟨⟨⟨⟨a1,b1⟩,c1⟩,⟨a2,b2⟩,c2⟩,d⟩,f⟩,g⟩,i⟩;have hD:=Da a2;exact⟨⟨⟨⟨⟨⟨⟨a1,a2⟩,b1,b2⟩,c1,c2⟩,d⟩,fun m hm=>(VR (h hD m hm)).2 (f m hm)⟩,fun e he=>VS.2 (g e he)⟩,fun v hv=>VT.2 (i v hv)⟩
theorem Qcy {S:SC}:W3 S (Gv S)=[]↔XR S=true:=VU fun _ _ _=>rfl
theorem Qcz {S:SC}:W3 S (fun m=>Xg S (QT S) m)=[]↔XR S=true:=VU fun hD m _=>(Sg hD m).symm

def Q4 (x:SM):AV:=.agg x.cells
def X3 (x:SE):AV:=.agg x.cells
def XK (x:SF):AV:=.agg x.cells
def Z5 (x:SI):AV:=.agg x.cells
def Gw (x:SN):AV:=.agg x.cells
theorem QL (x:SF):x.cells=[.int .i64 x.num,.str x.name,.int .i64 x.card,.int .i64 x.key,.int .i64 x.kind,.str x.tname,.str x.union,.bool x.hasd,.int .i64 x.dflt.kd,.int .u64 (x.dflt.bits:Nat),.str x.dflt.text,.list (x.dflt.list.map V.av),.list (x.dflt.pairs.map V.pav),.list (x.dflt.slots.map V.sav),.list (x.dflt.raws.map R.av),.list (x.notes.map fun n=>.agg n.cells)]:=by
 rw[SF.cells,V.eta];rfl
theorem YA {α:Type}(p:α→Bool):∀l:List α,l.any p=(l.find? p).isSome
 | []=>rfl
 |x :: l=>by
  rw[List.any_cons,QW2,YA p l];cases p x<;>rfl

section
variable (L:List SM)(hl:L.length≤maxLen)(p:SM→Bool)(c:Nat)(cs:List AV)(m:Qo)

def JsM (k:Nat)(st:St):Prop :=
 ∃f i,st=⟨f,Qg :: m,[]⟩∧k=L.length-i∧QW p L 0=QW p (L.drop i) i∧f 0=.list (L.map Q4)∧f 1=.fn (.func c) [] (AV.shL cs)∧f 7=.int .i64 (L.length:Nat)∧f 8=.int .i64 (i:Nat)

include hl in
theorem Qzt (hc:∀o∈L,Qp Tryz.prog c (Q4 o :: AV.shL cs) (Qg :: m) fun y m1=>y=.bool (p o)∧m1=Qg :: m) :
  Qp Tryz.prog 138 [.list (L.map Q4),.fn (.func c) [] cs] m fun y m1=>y=.int .i64 (QW p L 0)∧m1=m:=by
 refine Qhi.go (by simp) ?_;simp only[QWE,Qa,seval];refine Qf (JsM L p c cs m) _ ⟨_,0,rfl,rfl,rfl,(by rfl),(by rfl),(by rfl),(by rfl)⟩ ?_;rintro _ st ⟨f,i,rfl,rfl,hx,h0,h1,h7,h8⟩;simp only[h7,h8,Qa,seval];by_cases hlt:i<L.length
 ·obtain⟨x,hi⟩:∃x,L[i]? = some x:=⟨L[i],QVl hlt⟩;have hcl:=hc x (QVw hi);have hg:(L.map Q4)[i]? = some (Q4 x):=by simp[hi]
  have e1:=Qh i _ hlt hl;simp only[Q4,SM.cells]at hcl;simp only[Qs hlt,Qd,QWH,Qb,hg,Q4,SM.cells,h0,h1,h8,eE,seval];refine Xp (fa:=[]) (fb:=AV.shL cs) (by rfl) hcl (by simp only[QVP,QWe,QVE,QVD,Qa,seval]) ?_;rw[XD p hi]at hx;cases hp:p x
  ·rw[hp]at hx;simp only[QVB,if_false]at hx;simp only[h8,e1,Qa,seval];exact⟨L.length-(i+1),by omega,_,i+1,rfl,rfl,hx,(by exact h0),(by exact h1),(by exact h7),(by rfl)⟩
  ·rw[hp]at hx;simp only[if_true]at hx;simp only[hx,Qa,seval]
 ·have hx':QW p L 0 = -1:=by rw[hx,QVT (by omega)];rfl
  simp only[Qu hlt,hx',Qa,seval]

end

section
variable (L:List SE)(hl:L.length≤maxLen)(p:SE→Bool)(c:Nat)(cs:List AV)(m:Qo)

def JsE (k:Nat)(st:St):Prop :=
 ∃f i,st=⟨f,Qg :: m,[]⟩∧k=L.length-i∧QW p L 0=QW p (L.drop i) i∧f 0=.list (L.map X3)∧f 1=.fn (.func c) [] (AV.shL cs)∧f 7=.int .i64 (L.length:Nat)∧f 8=.int .i64 (i:Nat)

include hl in
theorem Qzu (hc:∀o∈L,Qp Tryz.prog c (X3 o :: AV.shL cs) (Qg :: m) fun y m1=>y=.bool (p o)∧m1=Qg :: m) :
  Qp Tryz.prog 140 [.list (L.map X3),.fn (.func c) [] cs] m fun y m1=>y=.int .i64 (QW p L 0)∧m1=m:=by
 refine Qhz.go (by simp) ?_;simp only[QWE,Qa,seval];refine Qf (JsE L p c cs m) _ ⟨_,0,rfl,rfl,rfl,(by rfl),(by rfl),(by rfl),(by rfl)⟩ ?_;rintro _ st ⟨f,i,rfl,rfl,hx,h0,h1,h7,h8⟩;simp only[h7,h8,Qa,seval];by_cases hlt:i<L.length
 ·obtain⟨x,hi⟩:∃x,L[i]? = some x:=⟨L[i],QVl hlt⟩;have hcl:=hc x (QVw hi);have hg:(L.map X3)[i]? = some (X3 x):=by simp[hi]
  have e1:=Qh i _ hlt hl;simp only[X3,SE.cells]at hcl;simp only[Qs hlt,Qd,QWH,Qb,hg,X3,SE.cells,h0,h1,h8,eE,seval];refine Xp (fa:=[]) (fb:=AV.shL cs) (by rfl) hcl (by simp only[QVP,QWe,QVE,QVD,Qa,seval]) ?_;rw[XD p hi]at hx;cases hp:p x
  ·rw[hp]at hx;simp only[QVB,if_false]at hx;simp only[h8,e1,Qa,seval];exact⟨L.length-(i+1),by omega,_,i+1,rfl,rfl,hx,(by exact h0),(by exact h1),(by exact h7),(by rfl)⟩
  ·rw[hp]at hx;simp only[if_true]at hx;simp only[hx,Qa,seval]
 ·have hx':QW p L 0 = -1:=by rw[hx,QVT (by omega)];rfl
  simp only[Qu hlt,hx',Qa,seval]

end

section
variable (L:List SF)(hl:L.length≤maxLen)(p:SF→Bool)(c:Nat)(cs:List AV)(m:Qo)

def JsF (k:Nat)(st:St):Prop :=
 ∃f i,st=⟨f,Qg :: m,[]⟩∧k=L.length-i∧QW p L 0=QW p (L.drop i) i∧f 0=.list (L.map XK)∧f 1=.fn (.func c) [] (AV.shL cs)∧f 7=.int .i64 (L.length:Nat)∧f 8=.int .i64 (i:Nat)

include hl in
theorem QPk (hc:∀o∈L,Qp Tryz.prog c (XK o :: AV.shL cs) (Qg :: m) fun y m1=>y=.bool (p o)∧m1=Qg :: m) :
  Qp Tryz.prog 238 [.list (L.map XK),.fn (.func c) [] cs] m fun y m1=>y=.int .i64 (QW p L 0)∧m1=m:=by
 refine QqB.go (by simp) ?_;simp only[QWE,Qa,seval];refine Qf (JsF L p c cs m) _ ⟨_,0,rfl,rfl,rfl,(by rfl),(by rfl),(by rfl),(by rfl)⟩ ?_;rintro _ st ⟨f,i,rfl,rfl,hx,h0,h1,h7,h8⟩;simp only[h7,h8,Qa,seval];by_cases hlt:i<L.length
 ·obtain⟨x,hi⟩:∃x,L[i]? = some x:=⟨L[i],QVl hlt⟩;have hcl:=hc x (QVw hi);have hg:(L.map XK)[i]? = some (XK x):=by simp[hi]
  have e1:=Qh i _ hlt hl;simp only[XK,QL]at hcl;simp only[Qs hlt,Qd,QWH,Qb,hg,XK,QL,h0,h1,h8,eE,seval];refine Xp (fa:=[]) (fb:=AV.shL cs) (by rfl) hcl (by simp only[QVP,QWe,QVE,QVD,Qa,seval]) ?_;rw[XD p hi]at hx;cases hp:p x
  ·rw[hp]at hx;simp only[QVB,if_false]at hx;simp only[h8,e1,Qa,seval];exact⟨L.length-(i+1),by omega,_,i+1,rfl,rfl,hx,(by exact h0),(by exact h1),(by exact h7),(by rfl)⟩
  ·rw[hp]at hx;simp only[if_true]at hx;simp only[hx,Qa,seval]
 ·have hx':QW p L 0 = -1:=by rw[hx,QVT (by omega)];rfl
  simp only[Qu hlt,hx',Qa,seval]

include hl in
theorem T7 (hc:∀o∈L,Qp Tryz.prog c (XK o :: AV.shL (AV.shL cs)) (Qg :: Qg :: m) fun y m1=>y=.bool (p o)∧m1=Qg :: Qg :: m) :
  Qp Tryz.prog 222 [.list (L.map XK),.fn (.func c) [] cs] m fun y m1=>y=.bool (L.any p)∧m1=m:=by
 refine Qot.go (by simp) ?_;simp only[Qa,seval];refine Qc (QPk L hl p c (AV.shL cs) _ hc) (by simp only[QVP,QWe,Qa,seval]<;>rfl) ?_;simp only[Wl,Qa,seval]

end

section
variable (L:List SI)(hl:L.length≤maxLen)(p:SI→Bool)(c:Nat)(cs:List AV)(m:Qo)

def JsI (k:Nat)(st:St):Prop :=
 ∃f i,st=⟨f,Qg :: m,[]⟩∧k=L.length-i∧QW p L 0=QW p (L.drop i) i∧f 0=.list (L.map Z5)∧f 1=.fn (.func c) [] (AV.shL cs)∧f 7=.int .i64 (L.length:Nat)∧f 8=.int .i64 (i:Nat)

include hl in
theorem QPl (hc:∀o∈L,Qp Tryz.prog c (Z5 o :: AV.shL cs) (Qg :: m) fun y m1=>y=.bool (p o)∧m1=Qg :: m) :
  Qp Tryz.prog 232 [.list (L.map Z5),.fn (.func c) [] cs] m fun y m1=>y=.int .i64 (QW p L 0)∧m1=m:=by
 refine QpC.go (by simp) ?_;simp only[QWE,Qa,seval];refine Qf (JsI L p c cs m) _ ⟨_,0,rfl,rfl,rfl,(by rfl),(by rfl),(by rfl),(by rfl)⟩ ?_;rintro _ st ⟨f,i,rfl,rfl,hx,h0,h1,h7,h8⟩;simp only[h7,h8,Qa,seval];by_cases hlt:i<L.length
 ·obtain⟨x,hi⟩:∃x,L[i]? = some x:=⟨L[i],QVl hlt⟩;have hcl:=hc x (QVw hi);have hg:(L.map Z5)[i]? = some (Z5 x):=by simp[hi]
  have e1:=Qh i _ hlt hl;simp only[Z5,SI.cells]at hcl;simp only[Qs hlt,Qd,QWH,Qb,hg,Z5,SI.cells,h0,h1,h8,eE,seval];refine Xp (fa:=[]) (fb:=AV.shL cs) (by rfl) hcl (by simp only[QVP,QWe,QVE,QVD,Qa,seval]) ?_;rw[XD p hi]at hx;cases hp:p x
  ·rw[hp]at hx;simp only[QVB,if_false]at hx;simp only[h8,e1,Qa,seval];exact⟨L.length-(i+1),by omega,_,i+1,rfl,rfl,hx,(by exact h0),(by exact h1),(by exact h7),(by rfl)⟩
  ·rw[hp]at hx;simp only[if_true]at hx;simp only[hx,Qa,seval]
 ·have hx':QW p L 0 = -1:=by rw[hx,QVT (by omega)];rfl
  simp only[Qu hlt,hx',Qa,seval]

include hl in
theorem Qzv (hc:∀o∈L,Qp Tryz.prog c (Z5 o :: AV.shL (AV.shL cs)) (Qg :: Qg :: m) fun y m1=>y=.bool (p o)∧m1=Qg :: Qg :: m) :
  Qp Tryz.prog 211 [.list (L.map Z5),.fn (.func c) [] cs] m fun y m1=>y=.bool (L.any p)∧m1=m:=by
 refine Qnh.go (by simp) ?_;simp only[Qa,seval];refine Qc (QPl L hl p c (AV.shL cs) _ hc) (by simp only[QVP,QWe,Qa,seval]<;>rfl) ?_;simp only[Wl,Qa,seval]

end

section
variable (L:List SN)(hl:L.length≤maxLen)(p:SN→Bool)(c:Nat)(cs:List AV)(m:Qo)

def JsN (k:Nat)(st:St):Prop :=
 ∃f i,st=⟨f,Qg :: m,[]⟩∧k=L.length-i∧QW p L 0=QW p (L.drop i) i∧f 0=.list (L.map Gw)∧f 1=.fn (.func c) [] (AV.shL cs)∧f 7=.int .i64 (L.length:Nat)∧f 8=.int .i64 (i:Nat)

include hl in
theorem QPm (hc:∀o∈L,Qp Tryz.prog c (Gw o :: AV.shL cs) (Qg :: m) fun y m1=>y=.bool (p o)∧m1=Qg :: m) :
  Qp Tryz.prog 177 [.list (L.map Gw),.fn (.func c) [] cs] m fun y m1=>y=.int .i64 (QW p L 0)∧m1=m:=by
 refine Qj0.go (by simp) ?_;simp only[QWE,Qa,seval];refine Qf (JsN L p c cs m) _ ⟨_,0,rfl,rfl,rfl,(by rfl),(by rfl),(by rfl),(by rfl)⟩ ?_;rintro _ st ⟨f,i,rfl,rfl,hx,h0,h1,h7,h8⟩;simp only[h7,h8,Qa,seval];by_cases hlt:i<L.length
 ·obtain⟨x,hi⟩:∃x,L[i]? = some x:=⟨L[i],QVl hlt⟩;have hcl:=hc x (QVw hi);have hg:(L.map Gw)[i]? = some (Gw x):=by simp[hi]
  have e1:=Qh i _ hlt hl;simp only[Gw,WD]at hcl;simp only[Qs hlt,Qd,QWH,Qb,hg,Gw,WD,h0,h1,h8,eE,seval];refine Xp (fa:=[]) (fb:=AV.shL cs) (by rfl) hcl (by simp only[QVP,QWe,QVE,QVD,Qa,seval]) ?_;rw[XD p hi]at hx;cases hp:p x
  ·rw[hp]at hx;simp only[QVB,if_false]at hx;simp only[h8,e1,Qa,seval];exact⟨L.length-(i+1),by omega,_,i+1,rfl,rfl,hx,(by exact h0),(by exact h1),(by exact h7),(by rfl)⟩
  ·rw[hp]at hx;simp only[if_true]at hx;simp only[hx,Qa,seval]
 ·have hx':QW p L 0 = -1:=by rw[hx,QVT (by omega)];rfl
  simp only[Qu hlt,hx',Qa,seval]

end

theorem Wp (n:Nat):(((n:Nat):Int)==0)=(n==0):=QV7.2 (by simp only[QVG];omega)
theorem QcA (a b:Nat):(((a:Nat):Int) != ((b:Nat):Int))=!decide (a=b):=by
 show(!(((a:Nat):Int)==((b:Nat):Int)))=_;congr 1
 exact QV7.2 (by simp only[QVG,QWA];omega)
def Sk:SM:=⟨[],[],[],[],[]⟩
def Sl:SE:=⟨[],false,[],[],[]⟩

theorem QPn (o:SM)(fr:Nat→Ob)(n:List UInt8)(hf:fr 3=.cells [.str n]):Qp Tryz.prog 197 [Q4 o,.ptr 1 3 0] [Qg,fr] fun y m1=>y=.bool (o.name==n)∧m1=[Qg,fr]:=by
 refine Qlb.go (by simp) ?_;simp only[hf,Q4,SM.cells,Qz,eE,seval]

theorem Dc (S:SC)(hl:S.msgs.length≤maxLen)(n:List UInt8):Qj Tryz.prog 164 [S.av,.str n] (.tup [Q4 ((S.msgs.find? fun m=>m.name==n).getD Sk),.bool (Q2 S n)]):=by
 have e:Q2 S n=(S.msgs.find? fun m=>m.name==n).isSome:=YA _ _;refine QiZ.fn (by simp) ?_;simp only[SC.av,eE,seval];refine Qc (Qzt S.msgs hl (fun m=>m.name==n) 197 [.ptr 0 3 0] _ fun o _=>QPn o _ n (by rfl)) (by simp only[QVP,QWe,Qa,seval]<;>rfl) ?_;rcases Xn (fun m:SM=>m.name==n) S.msgs 0 with⟨h1,h2⟩|⟨j,o,h1,h2,h3⟩
 ·simp only[h1,e,h2,QWP,QV5,Sk,Q4,SM.cells,QWe,eE,seval]
 ·have hj:(S.msgs.map fun o=>AV.agg o.cells)[j]? = some (.agg o.cells):=by simp[h2]
  have d:decide ((j:Int)<0)=false:=QW3 (by omega);rw[QVH]at h1;simp only[SM.cells]at hj;simp only[h1,d,Qd,QWH,Qb,QVH,hj,e,h3,QWo,QW4,Q4,SM.cells,eE,seval]

theorem QPo (o:SE)(fr:Nat→Ob)(n:List UInt8)(hf:fr 3=.cells [.str n]):Qp Tryz.prog 239 [X3 o,.ptr 1 3 0] [Qg,fr] fun y m1=>y=.bool (o.name==n)∧m1=[Qg,fr]:=by
 refine QqG.go (by simp) ?_;simp only[hf,X3,SE.cells,Qz,eE,seval]

theorem Qzw (S:SC)(hl:S.enums.length≤maxLen)(n:List UInt8):Qj Tryz.prog 224 [S.av,.str n] (.tup [X3 ((S.enums.find? fun m=>m.name==n).getD Sl),.bool (G5 S n)]):=by
 have e:G5 S n=(S.enums.find? fun m=>m.name==n).isSome:=YA _ _;refine QoB.fn (by simp) ?_;simp only[SC.av,eE,seval];refine Qc (Qzu S.enums hl (fun m=>m.name==n) 239 [.ptr 0 3 0] _ fun o _=>QPo o _ n (by rfl)) (by simp only[QVP,QWe,Qa,seval]<;>rfl) ?_;rcases Xn (fun m:SE=>m.name==n) S.enums 0 with⟨h1,h2⟩|⟨j,o,h1,h2,h3⟩
 ·simp only[h1,e,h2,QWP,QV5,Sl,X3,SE.cells,QWe,eE,seval]
 ·have hj:(S.enums.map fun o=>AV.agg o.cells)[j]? = some (.agg o.cells):=by simp[h2]
  have d:decide ((j:Int)<0)=false:=QW3 (by omega);rw[QVH]at h1;simp only[SE.cells]at hj;simp only[h1,d,Qd,QWH,Qb,QVH,hj,e,h3,QWo,QW4,X3,SE.cells,eE,seval]

theorem QPp (c k:Int):Qj Tryz.prog 203 [.int .i64 c,.int .i64 k] (.bool (Nb c k)):=by
 refine QlV.fn (by simp) ?_;unfold Nb;by_cases h:c=5
 ·have d:(c != 5)=false:=by simp[h]
  rw[QVq h];simp only[d,Qa,seval];cases h1:decide (k≥1)<;>cases h2:decide (k≤7)<;>simp only[h2,QWY,QWL,Qa,seval]
 ·have d:(c != 5)=true:=by simp[h]
  rw[QVp h];simp only[d,Qa,seval]

section
variable {M:Nat}(S:SC)(hS:S.ok M)(hM:M≤1048576)(x:SF)(hx:x.ok M)
include hS hM in
theorem ZV:S.msgs.length≤maxLen∧S.enums.length≤maxLen∧S.servs.length≤maxLen:=by
 have a:=hS.len1;have b:=hS.len2;have c:=hS.len3;simp only[maxLen];omega

include hS hM in
theorem QPq:Qj Tryz.prog 204 [S.av,XK x] (.bool (JD S x)):=by
 obtain⟨l1,l2,_⟩:=ZV S hS hM;have hm:=Dc S l1 x.tname;have he:=Qzw S l2 x.tname;simp only[Q4,SM.cells,SC.av]at hm;simp only[X3,SE.cells,SC.av]at he;refine Ql8.fn (by simp) ?_;unfold JD;simp only[SC.av,XK,QL,eE,seval];by_cases h1:x.kind≥1
 ·have d1:decide (x.kind≥1)=true:=QXb h1;by_cases h2:x.kind≤8
  ·have d2:decide (x.kind≤8)=true:=QXb h2;rw[QVq ⟨h1,h2⟩];simp only[d1,d2,Qz,eE,seval]
  ·have d2:decide (x.kind≤8)=false:=QW3 h2;rw[QVp fun h=>h2 h.2];by_cases h3:x.kind=9
   ·have d3:(x.kind==9)=true:=by simp[h3]
    rw[QVq h3];simp only[d1,d2,d3,eE,seval];refine aC he ?_;simp only[eE,seval]
   ·have d3:(x.kind==9)=false:=by simp[h3]
    rw[QVp h3];by_cases h4:x.kind=10
    ·have d4:(x.kind==10)=true:=by simp[h4]
     rw[QVq h4];simp only[d1,d2,d3,d4,eE,seval];refine aC hm ?_;cases Q2 S x.tname<;>simp only[QWY,QWL,eE,seval]
    ·have d4:(x.kind==10)=false:=by simp[h4]
     rw[QVp h4];simp only[d1,d2,d3,d4,eE,seval]
 ·have d1:decide (x.kind≥1)=false:=QW3 h1;have d3:(x.kind==9)=false:=by rw[QXd];omega
  have d4:(x.kind==10)=false:=by rw[QXd];omega
  rw[QVp fun h=>h1 h.1,QVp (by omega),QVp (by omega)];simp only[d1,d3,d4,eE,seval]

theorem QPr (v:V)(hv:v.ok M):Qj Tryz.prog 227 [v.av] (.bool v.zro):=by
 have n1:=hv.nl;have n2:=hv.np;have n3:=hv.ns;have n4:=hv.nr;have w:IntKind.i64.wrap (IntKind.i64.wrap (IntKind.i64.wrap ((v.list.length:Int)+(v.pairs.length:Int))+(v.slots.length:Int))+(v.raws.length:Int))=(v.list.length+v.pairs.length+v.slots.length+v.raws.length:Nat):=by
  simp only[Jb];omega
 have eb:(((v.bits:Nat):Int)==0)=(v.bits==0):=Wp _;have es:(((v.list.length+v.pairs.length+v.slots.length+v.raws.length:Nat):Int)==0)=(v.list.length+v.pairs.length+v.slots.length+v.raws.length==0):=Wp _;refine QoQ.fn (by simp) ?_;unfold V.zro V.av;rw[V.eta];simp only[eE,seval];cases h1:(v.kd==0)
 ·simp only[QWL,Qa,seval]
 cases h2:(v.bits==0)
 ·simp only[h2,eb,QWL,QWY,eE,seval]
 cases h3:(v.text==[])
 ·simp only[h2,h3,eb,Qz,QWL,QWY,eE,seval]
 simp only[h2,h3,eb,Qz,w,es,QWE,QWY,eE,seval]

theorem QPs (o:SI)(fr:Nat→Ob)(hf:fr 3=.cells x.cells):Qp Tryz.prog 228 [Z5 o,.ptr 2 3 0] [Qg,Qg,fr] fun y m1=>y=.bool (IntKind.u64.wrap o.num==(x.dflt.bits:Int))∧m1=[Qg,Qg,fr]:=by
 rw[QL]at hf;refine QoV.go (by simp) ?_;simp only[hf,Z5,SI.cells,eE,seval]

section
variable (k:Int)(b:Nat)(hb:b<18446744073709551616)(t:List UInt8)(l p s r:List AV)
include hb
theorem QPt:Qj Tryz.prog 186 [vo k b t l p s r] (vo k (ZB k b) t l p s r):=by
 refine QkU.fn (by simp) ?_;simp only[vo,eE,seval];by_cases hk:k=6
 ·have b0:(k==6)=true:=by simp[hk]
  simp only[b0,eE,seval];refine aC (QPc b hb) ?_;simp only[Qy8,Qa,seval];by_cases hc:Gu b=0
  ·simp only[hc,ZB,hk,decide_true,QWh,eE,seval]
   try rfl
  ·simp only[hc,ZB,decide_false,and_false,eE,seval]
 ·have b0:(k==6)=false:=by simp[hk]
  simp only[b0,ZB,hk,false_and,eE,seval]
end

include hS hM hx in
theorem QPu:Qj Tryz.prog 206 [S.av,XK x] (.bool (WC S x)):=by
 obtain⟨l1,l2,_⟩:=ZV S hS hM;have he:=Qzw S l2 x.tname;have hv:=hx.dflt;have n1:=hv.nl;have n2:=hv.np;have n3:=hv.ns;have n4:=hv.nr;have hz:=QPr x.dflt hv;have hb:x.dflt.bits<18446744073709551616:=by have:=Qdm hv.bits;omega
 have hf:=Qy5 x.kind x.dflt.kd x.dflt.bits x.dflt.text (x.dflt.list.map V.av) (x.dflt.pairs.map V.pav) (x.dflt.slots.map V.sav) (x.dflt.raws.map R.av) (by simp;omega) (by simp;omega) (by simp;omega) (by simp;omega);have hn:=QPt x.dflt.kd x.dflt.bits hb x.dflt.text (x.dflt.list.map V.av) (x.dflt.pairs.map V.pav) (x.dflt.slots.map V.sav) (x.dflt.raws.map R.av);have ef:x.dflt.fitk x.kind=Jc x.kind x.dflt.kd x.dflt.bits x.dflt.text (x.dflt.list.map V.av) (x.dflt.pairs.map V.pav) (x.dflt.slots.map V.sav) (x.dflt.raws.map R.av):=rfl;have en:(((ZB x.dflt.kd x.dflt.bits:Nat):Int) != (x.dflt.bits:Nat))=!decide (ZB x.dflt.kd x.dflt.bits=x.dflt.bits):=QcA _ _;simp only[V.av]at hz;rw[V.eta]at hz;simp only[vo]at hf hn;simp only[X3,SE.cells,SC.av]at he;refine Qmv.fn (by simp) ?_;unfold WC;rw[ef];simp only[SC.av,XK,QL,eE,seval];cases hd:x.hasd
 ·rw[QVq rfl];simp only[eE,seval];refine aC hz ?_;simp only[Qa,seval]
 rw[QVp (by simp)];by_cases hc:x.card=2
 case neg=>
  have d1:(x.card != 2)=true:=by simp[hc]
  rw[QVp fun h=>hc h.1];simp only[d1,eE,seval]
 have d1:(x.card != 2)=false:=by simp[hc]
 by_cases hu:x.union=[]
 case neg=>
  have d2:(!(x.union==[]))=true:=by simp[hu]
  rw[QVp fun h=>hu h.2.1];simp only[d1,d2,Qz,eE,seval]
 have d2:(!(x.union==[]))=false:=by simp[hu]
 simp only[d1,d2,Qz,eE,seval];refine aC hf ?_;cases hfv:Jc x.kind x.dflt.kd x.dflt.bits x.dflt.text (x.dflt.list.map V.av) (x.dflt.pairs.map V.pav) (x.dflt.slots.map V.sav) (x.dflt.raws.map R.av)
 ·rw[QVp fun h=>Bool.false_ne_true h.2.2.1];simp only[Qa,seval]
 simp only[eE,seval];refine aC hn ?_;by_cases hnb:ZB x.dflt.kd x.dflt.bits=x.dflt.bits
 case neg=>
  rw[QVp fun h=>hnb h.2.2];simp only[en,hnb,decide_false,QWl,eE,seval]
 rw[QVq ⟨hc,hu,hnb⟩];have en':(((ZB x.dflt.kd x.dflt.bits:Nat):Int) != (x.dflt.bits:Nat))=false:=by rw[en,QXb hnb];rfl
 by_cases h9:x.kind=9
 case neg=>
  have d9:(x.kind != 9)=true:=by simp[h9]
  rw[QVp h9];simp only[en',d9,eE,seval]
 have d9:(x.kind != 9)=false:=by simp[h9]
 rw[QVq h9];simp only[en',d9,eE,seval];refine aC he ?_;have eh:G5 S x.tname=(S.enums.find? fun e=>e.name==x.tname).isSome:=YA _ _;cases hq:S.enums.find? fun e=>e.name==x.tname with
 |none=>
  rw[hq]at eh;simp only[eh,QV5,QWP,eE,seval]
 |some e=>
  rw[hq]at eh;have hem:=hS.enums e (QW9 hq);have hlm:=hem.len1;simp only[eh,QW4,QWo,eE,seval];refine Qc (Qzv e.items (by simp only[maxLen];omega) (fun it=>IntKind.u64.wrap it.num==(x.dflt.bits:Int)) 228 [.ptr 0 3 0] _ fun o _=>QPs x o _ (by rw[QL,hd];exact(by rfl))) (by simp only[QVP,QWe,Qa,seval]<;>rfl) ?_;simp only[Qa,seval]

theorem C6 (s:List UInt8):Qj Tryz.prog 173 [.str s] (.bool (Xo s)):=by
 refine QjJ.fn (by simp) ?_;simp only[Xo,Qa,seval];refine aC (QyV s) ?_;cases Q5 s
 ·simp only[QWL,Qa,seval]
 ·simp only[QWY,Qa,seval];refine aC (QOK s) ?_;simp only[Qa,seval]

theorem T9 (s:List UInt8)(hs:s.length≤17592186044000):Qj Tryz.prog 167 [.str s] (.bool (XE s)):=by
 have hl:=Ul s;have hc:s.count 46≤s.length:=List.count_le_length;refine Qjn.fn (by simp) ?_;simp only[XE,Qa,seval];refine aC (QOS s hs) ?_;cases hf:(decide (s.length≤120)&&(Qi s).all Q5)
 ·simp only[QWL,Qa,seval]
 ·simp only[QWY,Qa,seval];refine aC (Qy0 s hs) ?_;simp only[Qa,seval];refine Qc (C2 (Qi s) (by simp only[maxLen];omega) ZA 200 [] _ fun o _=>QJY o _) (by simp only[QVP,QWe,Qa,seval]<;>rfl) ?_;simp only[Qa,seval]
end

section
variable {M:Nat}(hM:M≤1048576)(m:SM)(hm:m.ok M)(i:Nat)(x:SF)(hi:m.fields[i]? = some x)

theorem QPv (o:SF)(fr:Nat→Ob)(hf:fr 5=.cells x.cells):Qp Tryz.prog 225 [XK o,.ptr 2 5 0] [Qg,Qg,fr] fun y m1=>y=.bool (o.name==x.union)∧m1=[Qg,Qg,fr]:=by
 rw[QL]at hf;refine QoG.go (by simp) ?_;simp only[hf,XK,QL,Qz,eE,seval]
theorem QPw (o:SF)(fr:Nat→Ob)(hf:fr 5=.cells x.cells):Qp Tryz.prog 226 [XK o,.ptr 2 5 0] [Qg,Qg,fr] fun y m1=>y=.bool (o.union==x.union)∧m1=[Qg,Qg,fr]:=by
 rw[QL]at hf;refine QoL.go (by simp) ?_;simp only[hf,XK,QL,Qz,eE,seval]

include hM hm hi in
theorem QPx:Qj Tryz.prog 205 [Q4 m,.int .i64 (i:Nat)] (.bool (Jm m i)):=by
 have hlt:i<m.fields.length:=(QVk.1 hi).1;have hl1:=hm.len1;have hlm:m.fields.length≤maxLen:=by simp only[maxLen];omega
 have hg:(m.fields.map fun n=>AV.agg n.cells)[i]? = some (.agg x.cells):=by simp[hi]
 have hg':=hg;rw[QL]at hg';have ht:(m.fields.map fun n=>AV.agg n.cells).take i=(m.fields.take i).map XK:=by rw[List.map_take];rfl
 have hsl:i≤(m.fields.map fun n=>AV.agg n.cells).length:=by rw[QWE];omega
 unfold Jm;rw[hi];refine Qmj.fn (by simp) ?_;simp only[Q4,SM.cells,Qd,QWH,Qb,hg',eE,seval];cases hu:(x.union==[])
 case true=>simp only[hu,Qz,QW0,Qa,seval]
 simp only[hu,Qz,QW1,eE,seval];by_cases hc:x.card=2
 case neg=>
  have d1:(x.card != 2)=true:=by simp[hc]
  have d2:(x.card==2)=false:=by simp[hc]
  simp only[d1,d2,QWL,Qa,seval]
 have d1:(x.card != 2)=false:=by simp[hc]
 have d2:(x.card==2)=true:=by simp[hc]
 simp only[d1,d2,QWY,eE,seval];refine aC (C6 x.union) ?_;cases Xo x.union
 ·simp only[QWL,QWl,Qa,seval]
 simp only[QWY,QWZ,eE,seval];refine Qc (T7 m.fields hlm (fun o=>o.name==x.union) 225 [.ptr 0 5 0] _ fun o _=>QPv x o _ (by rw[QL];exact(by rfl))) (by simp only[QVP,QWe,Qa,seval]<;>rfl) ?_;cases m.fields.any fun o=>o.name==x.union
 case true=>simp only[QWZ,QWL,Qa,seval]
 have hle:(i≤m.fields.length)=True:=eq_true (by omega);simp only[QWl,QWY,KN,Ja,XI,QWP,QWE,Qd,QWH,QVr,QVi,hle,true_or,QWb,←List.map_take,eE,seval];refine Qc (T7 (m.fields.take i) (by rw[QV8];omega) (fun o=>o.union==x.union) 226 [.ptr 0 5 0] _ fun o _=>QPw x o _ (by rw[QL];exact(by rfl))) (by simp only[QVP,QWe,Qa,seval]<;>rfl) ?_;cases he:(m.fields.take i).any fun o=>o.union==x.union
 ·simp only[QWl,QW0,Qa,seval]
 ·cases i with
  |zero=>simp at he
  |succ j=>
   obtain⟨y,hj⟩:∃y,m.fields[j]? = some y:=⟨m.fields[j]'(by omega),QVl (by omega)⟩;have hgj:(m.fields.map fun n=>AV.agg n.cells)[j]? = some (.agg y.cells):=by simp[hj]
   rw[QL]at hgj;have wj:=KA j _ hlt hlm;simp only[QWZ,QW1,wj,Qd,QWH,Qb,hgj,hj,Qz,eE,seval]
end

section
variable (m:Qo)(L:List SF)(hl:L.length≤maxLen)(i:Nat)(x:SF)(hi:L[i]? = some x)
theorem QPy (o:SF):Qj Tryz.prog 202 [XK o] (.str o.name):=by
 refine QlO.fn (by simp) ?_;simp only[XK,QL,eE,seval]
end
section
variable (m:Qo)(L:List SI)(hl:L.length≤maxLen)(i:Nat)(x:SI)(hi:L[i]? = some x)
theorem QPz (o:SI):Qj Tryz.prog 175 [Z5 o] (.str o.name):=by
 refine QNQ.fn (by simp) ?_;simp only[Z5,SI.cells,eE,seval]
end

section
variable (L:List SF)(hl:L.length≤maxLen)(i:Nat)(x:SF)(hi:L[i]? = some x)(c:Nat)(nm:SF→List UInt8)(hn:∀x,Qj Tryz.prog c [XK x] (.str (nm x)))
include hi hn in
theorem QPA (y:SF)(fr:Nat→Ob)(m:Qo)(h3:fr 3=.cells [.list (L.map XK)])(h4:fr 4=.cells [.int .i64 (i:Nat)])(h5:fr 5=.cells [.fn (.func c) [] []]) :
  Qp Tryz.prog 223 [XK y,.ptr 2 5 0,.ptr 2 3 0,.ptr 2 4 0] (Qg :: Qg :: fr :: m) fun r m1=>r=.bool (nm y==nm x)∧m1=Qg :: Qg :: fr :: m:=by
 have hy:=hn y;have hx:=hn x;have hg:(L.map XK)[i]? = some (XK x):=by simp[hi]
 have g3:∀n,AV.shN n (.fn (.func c) [] [])=.fn (.func c) [] []:=fun n=>Fs n c
 simp only[XK,QL]at hy hx hg;refine QNW.go (by simp) ?_;simp only[XK,QL,h5,g3,eE,seval];refine K8 (fa:=[]) (fb:=[]) (by rfl) hy rfl rfl rfl (.inl rfl) ?_;simp only[h3,h4,h5,g3,Qd,QWH,Qb,hg,eE,seval];refine K8 (fa:=[]) (fb:=[]) (by rfl) hx rfl rfl rfl (.inl rfl) ?_;simp only[Qz,Qa,seval]

include hi hn hl in
theorem QPB (m:Qo):Qp Tryz.prog 201 [.list (L.map XK),.int .i64 (i:Nat),.fn (.func c) [] []] m fun r m1=>r=.bool ((L.take i).any fun y=>nm y==nm x)∧m1=m:=by
 have hlt:i<L.length:=(QVk.1 hi).1;have hle:(i≤L.length)=True:=eq_true (by omega);have g3:∀n,AV.shN n (.fn (.func c) [] [])=.fn (.func c) [] []:=fun n=>Fs n c
 refine QlJ.go (by simp) ?_;simp only[KN,Ja,XI,QWP,QWE,Qd,QWH,QVr,QVi,hle,true_or,QWb,←List.map_take,eE,seval];refine Qc (T7 (L.take i) (by rw[QV8];omega) (fun y=>nm y==nm x) 223 [.ptr 0 5 0,.ptr 0 3 0,.ptr 0 4 0] _ fun o _=>QPA L i x hi c nm hn o _ _ (by rfl) (by rfl) (by rfl)) (by simp only[QVP,QWe,Qa,seval]<;>rfl) ?_;simp only[Qa,seval]
end

section
variable (L:List SI)(hl:L.length≤maxLen)(i:Nat)(x:SI)(hi:L[i]? = some x)(c:Nat)(nm:SI→List UInt8)(hn:∀x,Qj Tryz.prog c [Z5 x] (.str (nm x)))
include hi hn in
theorem QPC (y:SI)(fr:Nat→Ob)(m:Qo)(h3:fr 3=.cells [.list (L.map Z5)])(h4:fr 4=.cells [.int .i64 (i:Nat)])(h5:fr 5=.cells [.fn (.func c) [] []]) :
  Qp Tryz.prog 212 [Z5 y,.ptr 2 5 0,.ptr 2 3 0,.ptr 2 4 0] (Qg :: Qg :: fr :: m) fun r m1=>r=.bool (nm y==nm x)∧m1=Qg :: Qg :: fr :: m:=by
 have hy:=hn y;have hx:=hn x;have hg:(L.map Z5)[i]? = some (Z5 x):=by simp[hi]
 have g3:∀n,AV.shN n (.fn (.func c) [] [])=.fn (.func c) [] []:=fun n=>Fs n c
 simp only[Z5,SI.cells]at hy hx hg;refine QNT.go (by simp) ?_;simp only[Z5,SI.cells,h5,g3,eE,seval];refine K8 (fa:=[]) (fb:=[]) (by rfl) hy rfl rfl rfl (.inl rfl) ?_;simp only[h3,h4,h5,g3,Qd,QWH,Qb,hg,eE,seval];refine K8 (fa:=[]) (fb:=[]) (by rfl) hx rfl rfl rfl (.inl rfl) ?_;simp only[Qz,Qa,seval]

include hi hn hl in
theorem QPD (m:Qo):Qp Tryz.prog 174 [.list (L.map Z5),.int .i64 (i:Nat),.fn (.func c) [] []] m fun r m1=>r=.bool ((L.take i).any fun y=>nm y==nm x)∧m1=m:=by
 have hlt:i<L.length:=(QVk.1 hi).1;have hle:(i≤L.length)=True:=eq_true (by omega);have g3:∀n,AV.shN n (.fn (.func c) [] [])=.fn (.func c) [] []:=fun n=>Fs n c
 refine QNN.go (by simp) ?_;simp only[KN,Ja,XI,QWP,QWE,Qd,QWH,QVr,QVi,hle,true_or,QWb,←List.map_take,eE,seval];refine Qc (Qzv (L.take i) (by rw[QV8];omega) (fun y=>nm y==nm x) 212 [.ptr 0 5 0,.ptr 0 3 0,.ptr 0 4 0] _ fun o _=>QPC L i x hi c nm hn o _ _ (by rfl) (by rfl) (by rfl)) (by simp only[QVP,QWe,Qa,seval]<;>rfl) ?_;simp only[Qa,seval]
end

theorem J9 {P:Program}{its:List Am.Item}{f:Fr}{m:Qo}{ds:List DF}{d l:Nat}{K:St→Prop}{sz bytes el:Nat}{s r:RA}{site g n:Nat}{xs ys:List AV}(hs:s.ev f=.vec l site g 0 n false)(hl:Am.Qe m l site=.vec g sz xs)(ht:XC site el=true)(hn:n=xs.length)(hr:r.ev f=.list ys)(hz:ys.all (fun e=>e.cells.length==sz)=true)(hm:n+ys.length≤maxLen)(hb:(n+ys.length)*bytes≤140737488355328)
  (h:Ql P its ⟨Qn f d (.vec l site (g+1) 0 (n+ys.length) false),Am.put m l site (.vec (g+1) sz (xs++ys)),ds⟩ K):Ql P (⟨some d,.app sz bytes el s r,none⟩ :: its) ⟨f,m,ds⟩ K:=by
 refine⟨l,site,g,n,xs,ys,hs,hl,ht,by omega,?_,hz,hm,hb,?_⟩
 ·show Xj m (r.ev f)=some ys;rw[hr];rfl
 ·subst hn;rw[QWQ];exact h

def Qq (fr:Nat→Ob)(s R:Nat)(d:List UInt8)(n:Int)(l:List PB):Nat→Ob :=
 Qn (Qn fr R (.vec (1+l.length) 3 (l.map PB.av))) s (.cells [.str d,.int .i64 n,.vec 0 R (1+l.length) 0 l.length false])
section
variable (fr:Nat→Ob)(s R:Nat)(d:List UInt8)(n:Int)(l:List PB)(h:R≠s)
theorem JV:Qq fr s R d n l s=.cells [.str d,.int .i64 n,.vec 0 R (1+l.length) 0 l.length false]:=QP ..
include h in
theorem K9:Qq fr s R d n l R=.vec (1+l.length) 3 (l.map PB.av):=by rw[Qq,QX _ _ h,QP]
theorem QZ {k:Nat}(h1:k≠R)(h2:k≠s):Qq fr s R d n l k=fr k:=by rw[Qq,QX _ _ h2,QX _ _ h1]
theorem W4 (n':Int):Qn (Qq fr s R d n l) s (.cells [.str d,.int .i64 n',.vec 0 R (1+l.length) 0 l.length false])=Qq fr s R d n' l:=by rw[Qq,Jw,Qq]
include h in
theorem Dd (x:PB):Qn (Qn (Qq fr s R d n l) R (.vec (1+l.length+1) 3 (l.map PB.av++[x.av]))) s (.cells [.str d,.int .i64 n,.vec 0 R (1+l.length+1) 0 (l.length+1) false])=Qq fr s R d n (l++[x]):=by
 have e:(l++[x]).length=l.length+1:=by simp
 rw[Qq,Qq,e,QWS,Jl (Qn fr R _) s R _ _ (Ne.symm h),Jw,Jw];rfl
end

section
variable (fr:Nat→Ob)(s R:Nat)(d:List UInt8)(n:Int)(l:List PB)(h:R≠s)(hR:XC R 154=true)(hl:l.length≤1073741824)(ok:Bool)(e:Int)(m:Qo)
include h hR hl

theorem Xh  : Qp Tryz.prog 131 [.ptr 0 s 0,.bool ok,.int .i64 e] ( Qq fr s R d n l :: m) fun x m1=>x=.tup []∧m1 =  Qq fr s R d n (l++pb d n ok e) :: m:=by
 have hs:=JV fr s R d n l;have hr:=K9 fr s R d n l h;cases ok
 ·refine Hj.go (by simp) ?_;simp only[hs,eE,seval];refine QM rfl rfl (by decide) rfl rfl ?_;refine J9 (xs:=l.map PB.av) (by rfl) (by simp only[hr,F0,seval]) hR (by simp) (by rfl) rfl (by simp only[QVx,QWp,maxLen];omega) (by simp only[QVx,QWp];omega) ?_;have hb:(s==R)=false:=QXd.2 (Ne.symm h);have ha:=Dd fr s R d n l h ⟨d,n,e⟩;have ep:pb d n false e=[⟨d,n,e⟩]:=rfl;simp only[PB.av]at ha;simp only[hs,hb,nn0,QVP,QWe,cond_false,eE,seval];simp only[ha,ep,seval]
 ·refine Hj.go (by simp) ?_;have ep:pb d n true e=[]:=rfl;simp only[ep,QWg,Qa,seval]

theorem Zf (a:Nat→Ob):Qp Tryz.prog 131 [.ptr 1 s 0,.bool ok,.int .i64 e] (a :: Qq fr s R d n l :: m) fun x m1=>x=.tup []∧m1=a :: Qq fr s R d n (l++pb d n ok e) :: m:=by
 have hs:=JV fr s R d n l;have hr:=K9 fr s R d n l h;cases ok
 ·refine Hj.go (by simp) ?_;simp only[hs,eE,seval];refine QM rfl rfl (by decide) rfl rfl ?_;refine J9 (xs:=l.map PB.av) (by rfl) (by simp only[hr,F0,seval]) hR (by simp) (by rfl) rfl (by simp only[QVx,QWp,maxLen];omega) (by simp only[QVx,QWp];omega) ?_;have hb:(s==R)=false:=QXd.2 (Ne.symm h);have ha:=Dd fr s R d n l h ⟨d,n,e⟩;have ep:pb d n false e=[⟨d,n,e⟩]:=rfl;simp only[PB.av]at ha;simp only[hs,hb,nn0,QVP,QWe,cond_false,eE,seval];simp only[ha,ep,seval]
 ·refine Hj.go (by simp) ?_;have ep:pb d n true e=[]:=rfl;simp only[ep,QWg,Qa,seval]

theorem QJ4 (a b:Nat→Ob):Qp Tryz.prog 131 [.ptr 2 s 0,.bool ok,.int .i64 e] (a :: b :: Qq fr s R d n l :: m) fun x m1=>x=.tup []∧m1=a :: b :: Qq fr s R d n (l++pb d n ok e) :: m:=by
 have hs:=JV fr s R d n l;have hr:=K9 fr s R d n l h;cases ok
 ·refine Hj.go (by simp) ?_;simp only[hs,eE,seval];refine QM rfl rfl (by decide) rfl rfl ?_;refine J9 (xs:=l.map PB.av) (by rfl) (by simp only[hr,F0,seval]) hR (by simp) (by rfl) rfl (by simp only[QVx,QWp,maxLen];omega) (by simp only[QVx,QWp];omega) ?_;have hb:(s==R)=false:=QXd.2 (Ne.symm h);have ha:=Dd fr s R d n l h ⟨d,n,e⟩;have ep:pb d n false e=[⟨d,n,e⟩]:=rfl;simp only[PB.av]at ha;simp only[hs,hb,nn0,QVP,QWe,cond_false,eE,seval];simp only[ha,ep,seval]
 ·refine Hj.go (by simp) ?_;have ep:pb d n true e=[]:=rfl;simp only[ep,QWg,Qa,seval]

theorem Gx  {M:Nat}(N:List SN)(hN:N.length≤maxLen)(hn:∀x∈N,x.ok M)(t:Int)(ht:t∈W0):Qp Tryz.prog 171 [.ptr 0 s 0,.list (N.map fun x=>.agg x.cells),.int .i64 t] ( Qq fr s R d n l :: m) fun x m1=>x=.tup []∧m1 =  Qq fr s R d n (l++XJ d n N t) :: m:=by
 refine TF.go (by simp) ?_;simp only[Qa,seval];refine aC (Qzf N hN hn t ht) ?_;simp only[Qa,seval];refine Qc (Zf fr s R d n l h hR hl (X6 N t==0) (X6 N t) m Qg) rfl ?_;simp only[XJ,Qa,seval]

theorem QJ5 (a:Nat→Ob){M:Nat}(N:List SN)(hN:N.length≤maxLen)(hn:∀x∈N,x.ok M)(t:Int)(ht:t∈W0):Qp Tryz.prog 171 [.ptr 1 s 0,.list (N.map fun x=>.agg x.cells),.int .i64 t] (a :: Qq fr s R d n l :: m) fun x m1=>x=.tup []∧m1=a :: Qq fr s R d n (l++XJ d n N t) :: m:=by
 refine TF.go (by simp) ?_;simp only[Qa,seval];refine aC (Qzf N hN hn t ht) ?_;simp only[Qa,seval];refine Qc (QJ4 fr s R d n l h hR hl (X6 N t==0) (X6 N t) m Qg a) rfl ?_;simp only[XJ,Qa,seval]

end

theorem QY {α β:Type}{l:List α}{g:Nat→α→List β}{c:Nat}(hc:∀i x,(g i x).length≤c):∀n,(upto l g n).length≤c*n
 |0=>QVi _
 |n+1=>by
  have h1:=QY hc (l:=l) n;rw[upto,QVU,Nat.mul_succ];cases l[n]? with
  |none=>simp only[QWp];omega
  |some x=>have:=hc n x;simp only;omega
theorem Zl {α β:Type}{l:List α}{g:Nat→α→List β}{n:Nat}{x:α}(h:l[n]? = some x):upto l g (n+1)=upto l g n++g n x:=by
 rw[upto,h]
theorem Q3 (d:List UInt8)(n:Int)(ok:Bool)(e:Int):(pb d n ok e).length≤1:=by
 cases ok<;>simp[pb]

def Sm (l:List PS)(i:Nat)(x:PS):Bool:=match i with
 |0=>true
 |j+1=>match l[j]? with
  |none=>true
  |some y=>decide (x.lo > y.hi)
theorem Sn (d:List UInt8)(lo hi:Int)(l:List PS)(i:Nat)(x:PS):Kq d lo hi l i x=pb d (-1) (decide (x.lo≥lo)&&decide (x.hi≤hi)&&decide (x.lo≤x.hi)) 6++pb d (-1) (Sm l i x) 11:=by
 cases i<;>rfl
theorem Ka (d:List UInt8)(lo hi:Int)(F:List PS)(i:Nat)(x:PS):(Kq d lo hi F i x).length≤2:=by
 unfold Kq;rw[QVU];exact Nat.add_le_add (Q3 ..) (Q3 ..)

section
variable (fr:Nat→Ob)(s R:Nat)(d:List UInt8)(l:List PB)(h:R≠s)(hR:XC R 154=true)(lo hi:Int)(F:List PS)(hF:F.length≤1048576)(m:Qo)

def SqI (k:Nat)(st:St):Prop :=
 ∃f own i,st=⟨f,own :: Qq fr s R d (-1) (l++upto F (Kq d lo hi F) i) :: m,[]⟩∧k=F.length-i∧i≤F.length∧f 0=.ptr 1 s 0∧f 1=.list (F.map QV)∧f 2=.int .i64 lo∧f 3=.int .i64 hi∧f 10=.list (F.map QV)∧f 11=.int .i64 (F.length:Nat)∧f 12=.int .i64 (i:Nat)∧∀s∈[9],(own s).isRow=false

def SpF (F:List PS)(s:Nat)(lo hi:Int)(i:Nat)(f:Fr):Prop:=f 0=.ptr 1 s 0∧f 1=.list (F.map QV)∧f 2=.int .i64 lo∧f 3=.int .i64 hi∧f 8=.int .i64 (i:Nat)∧f 9=.ptr 0 9 0∧f 10=.list (F.map QV)∧f 11=.int .i64 (F.length:Nat)∧f 12=.int .i64 (i:Nat)

section
variable (i:Nat)(x:PS)(hx:F[i]? = some x)(own:Nat→Ob)(o9:own 9=.cells x.cells)(hl:l.length≤1073741824)(f:Fr)(hf:SpF F s lo hi i f)(K:St→Prop)
include h hR hl o9 hf
theorem sp3 (hK:∀f,SpF F s lo hi i f→K ⟨f,own :: Qq fr s R d (-1) (l++pb d (-1) (decide (x.lo≥lo)&&decide (x.hi≤hi)&&decide (x.lo≤x.hi)) 6) :: m,[]⟩):Ql Tryz.prog Bo ⟨f,own :: Qq fr s R d (-1) l :: m,[]⟩ K:=by
 have hK':=hK;obtain⟨h0,h1,h2,h3,h8,h9,h10,h11,h12⟩:=hf;simp only[PS.cells]at o9;simp only[Bo,h0,h2,h9,o9,eE,seval];cases a1:decide (x.lo≥lo)
 ·rw[a1]at hK';simp only[Qa,seval];refine Qc (Zf fr s R d (-1) l h hR hl false 6 m own) (by rfl) ?_;simp only[Qa,seval];exact hK' _ ⟨(by exact h0),(by exact h1),(by exact h2),(by exact h3),(by exact h8),(by exact h9),(by exact h10),(by exact h11),(by exact h12)⟩
 cases a2:decide (x.hi≤hi)
 ·rw[a1,a2]at hK';simp only[a2,h3,h9,o9,eE,seval];refine Qc (Zf fr s R d (-1) l h hR hl false 6 m own) (by rfl) ?_;simp only[Qa,seval];exact hK' _ ⟨(by exact h0),(by exact h1),(by exact h2),(by exact h3),(by exact h8),(by exact h9),(by exact h10),(by exact h11),(by exact h12)⟩
 rw[a1,a2]at hK';simp only[a2,h3,h9,o9,eE,seval];refine Qc (Zf fr s R d (-1) l h hR hl (decide (x.lo≤x.hi)) 6 m own) (by rfl) ?_;simp only[Qa,seval];exact hK' _ ⟨(by exact h0),(by exact h1),(by exact h2),(by exact h3),(by exact h8),(by exact h9),(by exact h10),(by exact h11),(by exact h12)⟩

include hx hF in
theorem sp4 (hK:∀f,SpF F s lo hi i f→K ⟨f,own :: Qq fr s R d (-1) (l++pb d (-1) (Sm F i x) 11) :: m,[]⟩):Ql Tryz.prog Gf ⟨f,own :: Qq fr s R d (-1) l :: m,[]⟩ K:=by
 obtain⟨h0,h1,h2,h3,h8,h9,h10,h11,h12⟩:=hf;have hlt:i<F.length:=(QVk.1 hx).1;simp only[PS.cells]at o9;cases i with
 |zero=>
  simp only[Gf,h0,h8,Qa,seval];refine Qc (Zf fr s R d (-1) l h hR hl true 11 m own) (by rfl) ?_;simp only[Qa,seval];exact hK _ ⟨(by exact h0),(by exact h1),(by exact h2),(by exact h3),(by exact h8),(by exact h9),(by exact h10),(by exact h11),(by exact h12)⟩
 |succ j=>
  obtain⟨y,hj⟩:∃y,F[j]? = some y:=⟨F[j]'(by omega),QVl (by omega)⟩;have hg:(F.map QV)[j]? = some (.agg [.int .i64 y.lo,.int .i64 y.hi]):=by rw[QWB,hj];rfl
  have wj:=KA j _ hlt (by simp only[maxLen];omega);have d0:(((j+1:Nat):Int)==0)=false:=by rw[QXd];omega
  simp only[Sm,hj]at hK;simp only[Gf,d0,wj,Qd,QWH,Qb,hg,h0,h1,h8,h9,o9,eE,seval];refine Qc (Zf fr s R d (-1) l h hR hl (decide (x.lo > y.hi)) 11 m own) (by rfl) ?_;simp only[Qa,seval];exact hK _ ⟨(by exact h0),(by exact h1),(by exact h2),(by exact h3),(by exact h8),(by exact h9),(by exact h10),(by exact h11),(by exact h12)⟩
end

include h hR hF in
theorem IC (hl:l.length≤1048576000):Qp Tryz.prog 169 [.ptr 0 s 0,.list (F.map QV),.int .i64 lo,.int .i64 hi] (Qq fr s R d (-1) l :: m) fun x m1=>x=.tup []∧m1=Qq fr s R d (-1) (l++upto F (Kq d lo hi F) F.length) :: m:=by
 have hul:∀n,n≤F.length→(l++upto F (Kq d lo hi F) n).length≤1051000000:=by
  intro n hn;have:=QY (l:=F) (Ka d lo hi F) n;rw[QVU];omega
 refine Qjq.go (by simp) ?_;simp only[PR,TD,TE,QWE,Qa,seval];refine Qf (SqI fr s R d l lo hi F m) _ ⟨_,_,0,by rw[upto,QWg],rfl,QVr _,(by rfl),(by rfl),(by rfl),(by rfl),(by rfl),(by rfl),(by rfl),by simp<;>rfl⟩ ?_;rintro _ st ⟨f0,own0,i,rfl,rfl,hi',h00,h10,h20,h30,h100,h110,h120,r9⟩;refine QR (a:=_) [9] r9 ?_;intro f own hf hm hn9;have h0:f 0=.ptr 1 s 0:=by rw[hf,h00]<;>rfl
 have h1:f 1=.list (F.map QV):=by rw[hf,h10]<;>rfl
 have h2:f 2=.int .i64 lo:=by rw[hf,h20]<;>rfl
 have h3:f 3=.int .i64 hi:=by rw[hf,h30]<;>rfl
 have h10':f 10=.list (F.map QV):=by rw[hf,h100]<;>rfl
 have h11:f 11=.int .i64 (F.length:Nat):=by rw[hf,h110]<;>rfl
 have h12:f 12=.int .i64 (i:Nat):=by rw[hf,h120]<;>rfl
 have n9:=hn9 9 (by decide);clear hf hm hn9 h00 h10 h20 h30 h100 h110 h120 r9;simp only[PT,h11,h12,Qa,seval];by_cases hlt:i<F.length
 case neg=>
  have e:i=F.length:=by omega
  subst e;simp only[Qu hlt,Qa,seval]
 obtain⟨x,hx⟩:∃x,F[i]? = some x:=⟨F[i],QVl hlt⟩;have hg:(F.map QV)[i]? = some (.agg [.int .i64 x.lo,.int .i64 x.hi]):=by rw[QWB,hx];rfl
 have e1:=Qh i _ hlt (by simp only[maxLen];omega);simp only[Qs hlt,n9,PU,Qd,QWH,Qb,hg,h10',h12,eE,seval];refine sp3 fr s R d _ h hR lo hi F m i x _ (by rfl) (QVj (hul i hi') (by decide)) _ ⟨(by exact h0),(by exact h1),(by exact h2),(by exact h3),(by rfl),(by rfl),(by exact h10'),(by exact h11),(by exact h12)⟩ _ (fun f hf=>?_);simp only[Qa,seval];refine sp4 fr s R d _ h hR lo hi F hF m i x hx _ (by rfl) ?_ _ hf _ (fun f hf=>?_)
 ·have a:=hul i hi';have b:=Q3 d (-1) (decide (x.lo≥lo)&&decide (x.hi≤hi)&&decide (x.lo≤x.hi)) 6;rw[QVU];omega
 obtain⟨h0,h1,h2,h3,h8,h9,h10,h11,h12⟩:=hf;simp only[PV,h12,e1,Qa,seval];exact⟨F.length-(i+1),by omega,_,_,i+1,by rw[Zl hx,Sn];simp only[QVC]<;>rfl,rfl,by omega,(by exact h0),(by exact h1),(by exact h2),(by exact h3),(by exact h10),(by exact h11),(by rfl),by simp<;>rfl⟩
end

end Go.Proofs.YtjjmjopabpakoaaGreatDoor.Va

set_option linter.unusedSectionVars false
namespace Go.Proofs.YtjjmjopabpakoaaGreatDoor.Va
open Go Am Rc Bt Br Up So

theorem Qzy (B:List (List UInt8))(hl:B.length≤maxLen)(v:List UInt8):Qj Tryz.prog 102 [.list (B.map Qk),.str v] (.int .i64 (QW (fun b=>b==v) B 0)):=by
 let I:Nat→St→Prop:=fun k st=>∃f i,st=⟨f,[Qg],[]⟩∧k=B.length-i∧QW (fun b=>b==v) B 0=QW (fun b=>b==v) (B.drop i) i∧f 0=.list (B.map Qk)∧f 1=.str v∧f 7=.int .i64 (B.length:Nat)∧f 8=.int .i64 (i:Nat)
 refine QeH.fn (by simp) ?_;simp only[QWE,Qa,seval];refine Qf I _ ⟨_,0,rfl,rfl,rfl,(by rfl),(by rfl),(by rfl),(by rfl)⟩ ?_;rintro _ st ⟨f,i,rfl,rfl,hx,h0,h1,h7,h8⟩;simp only[h7,h8,Qa,seval];by_cases hlt:i<B.length
 ·obtain⟨x,hi⟩:∃x,B[i]? = some x:=⟨B[i],QVl hlt⟩;have hg:(B.map Qk)[i]? = some (.str x):=by simp[hi,Qk]
  have e1:=Qh i _ hlt hl;have ec:(v==x)=(x==v):=BEq.comm;rw[XD _ hi]at hx;cases hv:(x==v)
  ·rw[hv,QVp (by decide)]at hx;simp only[Qs hlt,Qd,QWH,Qb,hg,Qz,ec,hv,h0,h1,h8,e1,eE,seval];exact⟨B.length-(i+1),by omega,_,i+1,rfl,rfl,hx,(by exact h0),(by exact h1),(by exact h7),(by rfl)⟩
  ·rw[hv,QVq rfl]at hx;simp only[Qs hlt,Qd,QWH,Qb,hg,Qz,ec,hv,h0,h1,h8,hx,eE,seval]
 ·have hx':QW (fun b=>b==v) B 0 = -1:=by rw[hx,QVT (by omega)];rfl
  simp only[Qu hlt,hx',Qa,seval]

theorem VV (B:List (List UInt8))(v:List UInt8):(B.any fun b=>b==v)=B.contains v:=by
 induction B with
 |nil=>rfl
 |cons b B ih=>
  rw[List.any_cons,List.contains_cons,ih,BEq.comm (a:=b)]
theorem Aa (B:List (List UInt8))(hl:B.length≤maxLen)(v:List UInt8):Qj Tryz.prog 101 [.list (B.map Qk),.str v] (.bool (B.contains v)):=by
 refine Qev.fn (by simp) ?_;simp only[Qa,seval];refine aC (Qzy B hl v) ?_;simp only[Wl,VV,Qa,seval]

theorem Qy {l:List PB}{a:Nat}(h:l.length≤a)(d:List UInt8)(n:Int)(ok:Bool)(e:Int):(l++pb d n ok e).length≤a+1:=by
 have:=Q3 d n ok e;rw[QVU];omega

theorem XL (x:SM):x.cells=[.str x.name,.list (x.fields.map fun n=>.agg n.cells),.list (x.free.map fun n=>.agg n.cells),.list (x.gone.map AV.str),.list (x.notes.map fun n=>.agg n.cells)]:=rfl
def FF (s i:Nat)(f:Fr):Prop:=f 0=.ptr 1 s 0∧f 3=.int .i64 (i:Nat)∧f 5=.ptr 0 5 0∧f 6=.ptr 0 6 0∧f 8=.ptr 0 8 0

section
variable (fr:Nat→Ob)(s R:Nat)(h:R≠s)(hR:XC R 154=true)(mm:Qo){M:Nat}(hM:M≤1048576)(S:SC)(hS:S.ok M)(m:SM)(hm:m.ok M)(i:Nat)(x:SF)(hi:m.fields[i]? = some x)
variable (own:Nat→Ob)(o5:own 5=.cells [.list (S.msgs.map fun n=>.agg n.cells),.list (S.enums.map fun n=>.agg n.cells),.list (S.servs.map fun n=>.agg n.cells)])(o6:own 6=.cells m.cells)(o8:own 8=.cells x.cells)
variable (l:List PB)(hl:l.length≤1073741824)(f:Fr)(hf:FF s i f)(K:St→Prop)
include h hR hl hf

include o8 in
theorem fk3 (hK:∀f,FF s i f→K ⟨f,own :: Qq fr s R m.name x.num (l++pb m.name x.num (decide (x.num≥1)&&decide (x.num≤65535)) 6) :: mm,[]⟩):Ql Tryz.prog Bi ⟨f,own :: Qq fr s R m.name x.num l :: mm,[]⟩ K:=by
 obtain⟨h0,h3,h5,h6,h8⟩:=hf;rw[QL]at o8;simp only[Bi,h0,h8,o8,eE,seval];cases a1:decide (x.num≥1)
 ·rw[a1]at hK;simp only[Qa,seval];refine Qc (Zf fr s R m.name x.num l h hR hl false 6 mm own) (by rfl) ?_;simp only[Qa,seval];exact hK _ ⟨(by exact h0),(by exact h3),(by exact h5),(by exact h6),(by exact h8)⟩
 ·rw[a1]at hK;simp only[h8,o8,eE,seval];refine Qc (Zf fr s R m.name x.num l h hR hl (decide (x.num≤65535)) 6 mm own) (by rfl) ?_;simp only[Qa,seval];exact hK _ ⟨(by exact h0),(by exact h3),(by exact h5),(by exact h6),(by exact h8)⟩

include o6 o8 hi hM hm in
theorem fk4 (hK:∀f,FF s i f→K ⟨f,own :: Qq fr s R m.name x.num (l++pb m.name x.num (Kv m.fields SF.num i x) 11) :: mm,[]⟩):Ql Tryz.prog Ge ⟨f,own :: Qq fr s R m.name x.num l :: mm,[]⟩ K:=by
 obtain⟨h0,h3,h5,h6,h8⟩:=hf;have hlt:i<m.fields.length:=(QVk.1 hi).1;have hl1:=hm.len1;rw[QL]at o8;simp only[SM.cells]at o6;cases i with
 |zero=>
  simp only[Ge,h0,h3,Qa,seval];refine Qc (Zf fr s R m.name x.num l h hR hl true 11 mm own) (by rfl) ?_;simp only[Qa,seval];exact hK _ ⟨(by exact h0),(by exact h3),(by exact h5),(by exact h6),(by exact h8)⟩
 |succ j=>
  obtain⟨y,hj⟩:∃y,m.fields[j]? = some y:=⟨m.fields[j]'(by omega),QVl (by omega)⟩;have hg:(m.fields.map fun n=>AV.agg n.cells)[j]? = some (.agg y.cells):=by rw[QWB,hj];rfl
  have wj:=KA j _ hlt (by simp only[maxLen];omega);have d0:(((j+1:Nat):Int)==0)=false:=by rw[QXd];omega
  rw[QL]at hg;simp only[Kv,hj]at hK;simp only[Ge,d0,wj,Qd,QWH,Qb,hg,h0,h3,h6,h8,o6,o8,eE,seval];refine Qc (Zf fr s R m.name x.num l h hR hl (decide (x.num > y.num)) 11 mm own) (by rfl) ?_;simp only[Qa,seval];exact hK _ ⟨(by exact h0),(by exact h3),(by exact h5),(by exact h6),(by exact h8)⟩

include o8 in
theorem fk5 (hK:∀f,FF s i f→K ⟨f,own :: Qq fr s R m.name x.num (l++pb m.name x.num (Xo x.name) 8) :: mm,[]⟩):Ql Tryz.prog Bj ⟨f,own :: Qq fr s R m.name x.num l :: mm,[]⟩ K:=by
 obtain⟨h0,h3,h5,h6,h8⟩:=hf;rw[QL]at o8;simp only[Bj,h0,h8,o8,eE,seval];refine aC (C6 x.name) ?_
 try simp only[eE,seval]
 refine Qc (Zf fr s R m.name x.num l h hR hl (Xo x.name) 8 mm own) (by rfl) ?_;simp only[Qa,seval];exact hK _ ⟨(by exact h0),(by exact h3),(by exact h5),(by exact h6),(by exact h8)⟩

include o6 hi hM hm in
theorem fk6 (hK:∀f,FF s i f→K ⟨f,own :: Qq fr s R m.name x.num (l++pb m.name x.num (!((m.fields.take i).any fun y=>y.name==x.name)) 9) :: mm,[]⟩):Ql Tryz.prog Bk ⟨f,own :: Qq fr s R m.name x.num l :: mm,[]⟩ K:=by
 obtain⟨h0,h3,h5,h6,h8⟩:=hf;have hl1:=hm.len1;have hsn:=QPB m.fields (by simp only[maxLen];omega) i x hi 202 SF.name QPy (own :: Qq fr s R m.name x.num l :: mm);simp only[SM.cells]at o6;simp only[Bk,h0,h3,h6,o6,eE,seval];refine Qc hsn (by simp only[QVP,QWe,Qa,seval]<;>rfl) ?_;simp only[Qa,seval];refine Qc (Zf fr s R m.name x.num l h hR hl _ 9 mm own) (by rfl) ?_;simp only[Qa,seval];exact hK _ ⟨(by exact h0),(by exact h3),(by exact h5),(by exact h6),(by exact h8)⟩

include o6 o8 hM hm in
theorem fk7 (hK:∀f,FF s i f→K ⟨f,own :: Qq fr s R m.name x.num (l++pb m.name x.num (!(kept m.free x.num) && !(m.gone.contains x.name)) 21) :: mm,[]⟩):Ql Tryz.prog Bl ⟨f,own :: Qq fr s R m.name x.num l :: mm,[]⟩ K:=by
 obtain⟨h0,h3,h5,h6,h8⟩:=hf;have hl1:=hm.len2;have hl2:=hm.len3;have hr:Qj Tryz.prog 176 [.list (m.free.map fun n=>AV.agg n.cells),.int .i64 x.num] (.bool (kept m.free x.num)):=Qy1 m.free (by simp only[maxLen];omega) x.num;have hc:Qj Tryz.prog 101 [.list (m.gone.map AV.str),.str x.name] (.bool (m.gone.contains x.name)):=Aa m.gone (by simp only[maxLen];omega) x.name;rw[QL]at o8;simp only[SM.cells]at o6;simp only[Bl,h0,h6,h8,o6,o8,eE,seval];refine aC hr ?_;cases a1:kept m.free x.num
 ·rw[a1]at hK;simp only[QWl,h6,h8,o6,o8,eE,seval];refine aC hc ?_;simp only[Qa,seval];refine Qc (Zf fr s R m.name x.num l h hR hl (!(m.gone.contains x.name)) 21 mm own) (by rfl) ?_;simp only[Qa,seval];exact hK _ ⟨(by exact h0),(by exact h3),(by exact h5),(by exact h6),(by exact h8)⟩
 ·rw[a1]at hK;simp only[QWZ,Qa,seval];refine Qc (Zf fr s R m.name x.num l h hR hl false 21 mm own) (by rfl) ?_;simp only[Qa,seval];exact hK _ ⟨(by exact h0),(by exact h3),(by exact h5),(by exact h6),(by exact h8)⟩

include o8 in
theorem fk8 (hK:∀f,FF s i f→K ⟨f,own :: Qq fr s R m.name x.num (l++pb m.name x.num (YP x) 1) :: mm,[]⟩):Ql Tryz.prog Bm ⟨f,own :: Qq fr s R m.name x.num l :: mm,[]⟩ K:=by
 obtain⟨h0,h3,h5,h6,h8⟩:=hf;rw[QL]at o8;unfold YP at hK;simp only[Bm,h0,h8,o8,eE,seval];cases a1:decide (x.card≥1)
 ·rw[a1]at hK;simp only[Qa,seval];refine Qc (Zf fr s R m.name x.num l h hR hl false 1 mm own) (by rfl) ?_;simp only[Qa,seval];exact hK _ ⟨(by exact h0),(by exact h3),(by exact h5),(by exact h6),(by exact h8)⟩
 cases a2:decide (x.card≤5)
 ·rw[a1,a2]at hK;simp only[a2,h8,o8,eE,seval];refine Qc (Zf fr s R m.name x.num l h hR hl false 1 mm own) (by rfl) ?_;simp only[Qa,seval];exact hK _ ⟨(by exact h0),(by exact h3),(by exact h5),(by exact h6),(by exact h8)⟩
 rw[a1,a2]at hK;simp only[a2,h8,o8,eE,seval];refine aC (QPp x.card x.key) ?_
 try simp only[Qa,seval]
 refine Qc (Zf fr s R m.name x.num l h hR hl (Nb x.card x.key) 1 mm own) (by rfl) ?_;simp only[Qa,seval];exact hK _ ⟨(by exact h0),(by exact h3),(by exact h5),(by exact h6),(by exact h8)⟩

include o5 o8 hS hM hm hi in
theorem fk9 (hK:∀f,FF s i f→K ⟨f,own :: Qq fr s R m.name x.num (l++pb m.name x.num (JD S x) 12) :: mm,[]⟩):Ql Tryz.prog Bn ⟨f,own :: Qq fr s R m.name x.num l :: mm,[]⟩ K:=by
 obtain⟨h0,h3,h5,h6,h8⟩:=hf;have hc:=QPq S hS hM x;simp only[SC.av,XK,QL]at hc;rw[QL]at o8;simp only[Bn,h0,h5,h8,o5,o8,eE,seval];refine aC hc ?_
 try simp only[eE,seval]
 refine Qc (Zf fr s R m.name x.num l h hR hl (JD S x) 12 mm own) (by rfl) ?_;simp only[Qa,seval];exact hK _ ⟨(by exact h0),(by exact h3),(by exact h5),(by exact h6),(by exact h8)⟩

include o5 o8 hS hM hm hi in
theorem QPE (hK:∀f,FF s i f→K ⟨f,own :: Qq fr s R m.name x.num (l++pb m.name x.num (WC S x) 1) :: mm,[]⟩):Ql Tryz.prog GR ⟨f,own :: Qq fr s R m.name x.num l :: mm,[]⟩ K:=by
 obtain⟨h0,h3,h5,h6,h8⟩:=hf;have hc:=QPu S hS hM x (hm.fields x (QVw hi));simp only[SC.av,XK,QL]at hc;rw[QL]at o8;simp only[GR,h0,h5,h8,o5,o8,eE,seval];refine aC hc ?_
 try simp only[eE,seval]
 refine Qc (Zf fr s R m.name x.num l h hR hl (WC S x) 1 mm own) (by rfl) ?_;simp only[Qa,seval];exact hK _ ⟨(by exact h0),(by exact h3),(by exact h5),(by exact h6),(by exact h8)⟩

include o6 hM hm hi in
theorem QPF (hK:∀f,FF s i f→K ⟨f,own :: Qq fr s R m.name x.num (l++pb m.name x.num (Jm m i) 15) :: mm,[]⟩):Ql Tryz.prog GQ ⟨f,own :: Qq fr s R m.name x.num l :: mm,[]⟩ K:=by
 obtain⟨h0,h3,h5,h6,h8⟩:=hf;have hc:=QPx hM m hm i x hi;simp only[Q4,SM.cells]at hc;simp only[SM.cells]at o6;simp only[GQ,h0,h3,h6,o6,eE,seval];refine aC hc ?_
 try simp only[eE,seval]
 refine Qc (Zf fr s R m.name x.num l h hR hl (Jm m i) 15 mm own) (by rfl) ?_;simp only[Qa,seval];exact hK _ ⟨(by exact h0),(by exact h3),(by exact h5),(by exact h6),(by exact h8)⟩

include o8 hM hm hi in
theorem QPG (hK:∀f,FF s i f→K ⟨f,own :: Qq fr s R m.name x.num (l++XJ m.name x.num x.notes 2) :: mm,[]⟩):Ql Tryz.prog GS ⟨f,own :: Qq fr s R m.name x.num l :: mm,[]⟩ K:=by
 obtain⟨h0,h3,h5,h6,h8⟩:=hf;have hx:=hm.fields x (QVw hi);have hln:=hx.len;rw[QL]at o8;simp only[GS,h0,h8,o8,eE,seval];refine Qc (QJ5 fr s R m.name x.num l h hR hl mm own x.notes (by simp only[maxLen];omega) hx.notes 2 (by decide)) (by rfl) ?_;simp only[Qa,seval];exact hK _ ⟨(by exact h0),(by exact h3),(by exact h5),(by exact h6),(by exact h8)⟩
end

theorem QPH (fr:Nat→Ob)(s R:Nat)(h:R≠s)(hR:XC R 154=true)(mm:Qo){M:Nat}(hM:M≤1048576)(S:SC)(hS:S.ok M)(m:SM)(hm:m.ok M)(i:Nat)(x:SF)(hi:m.fields[i]? = some x)(l:List PB)(hl:l.length≤1073741800)(n:Int) :
  Qp Tryz.prog 168 [.ptr 0 s 0,S.av,Q4 m,.int .i64 (i:Nat)] (Qq fr s R m.name n l :: mm) fun y m1=>y=.tup []∧m1=Qq fr s R m.name (-1) (l++J7 S m i x) :: mm:=by
 have hg:(m.fields.map fun n=>AV.agg n.cells)[i]? = some (.agg x.cells):=by rw[QWB,hi];rfl
 rw[QL]at hg;have hs:∀n l,Qq fr s R m.name n l s=.cells [.str m.name,.int .i64 n,.vec 0 R (1+l.length) 0 l.length false]:=fun n l=>JV fr s R m.name n l
 have hn:∀n l n',Qn (Qq fr s R m.name n l) s (.cells [.str m.name,.int .i64 n',.vec 0 R (1+l.length) 0 l.length false])=Qq fr s R m.name n' l:=fun n l n'=>W4 fr s R m.name n l n'
 refine Qjo.go (by simp) ?_;simp only[TB,TC,PM,PP,PQ,SC.av,Q4,XL m,Qd,QWH,Qb,hg,hs,hn,eE,seval];generalize hown:(Qn (Qn (Qn Qg 5 _) 6 _) 8 _:Nat→Ob)=own;have o5:own 5=.cells [.list (S.msgs.map fun n=>.agg n.cells),.list (S.enums.map fun n=>.agg n.cells),.list (S.servs.map fun n=>.agg n.cells)]:=by rw[←hown];exact(by rfl)
 have o6:own 6=.cells m.cells:=by rw[←hown,XL];exact(by rfl)
 have o8:own 8=.cells x.cells:=by rw[←hown,QL];exact(by rfl)
 have q0:l.length≤1073741800:=hl;refine fk3 fr s R h hR mm m i x own o8 l (by omega) _ ⟨(by rfl),(by rfl),(by rfl),(by rfl),(by rfl)⟩ _ (fun f hf=>?_);have q1:=Qy q0 m.name x.num (decide (x.num≥1)&&decide (x.num≤65535)) 6;simp only[Qa,seval];refine fk4 fr s R h hR mm hM m hm i x hi own o6 o8 _ (by omega) f hf _ (fun f hf=>?_);have q2:=Qy q1 m.name x.num (Kv m.fields SF.num i x) 11;simp only[Qa,seval];refine fk5 fr s R h hR mm m i x own o8 _ (by omega) f hf _ (fun f hf=>?_);have q3:=Qy q2 m.name x.num (Xo x.name) 8;simp only[Qa,seval];refine fk6 fr s R h hR mm hM m hm i x hi own o6 _ (by omega) f hf _ (fun f hf=>?_);have q4:=Qy q3 m.name x.num (!((m.fields.take i).any fun y=>y.name==x.name)) 9;simp only[Qa,seval];refine fk7 fr s R h hR mm hM m hm i x own o6 o8 _ (by omega) f hf _ (fun f hf=>?_);have q5:=Qy q4 m.name x.num (!(kept m.free x.num) && !(m.gone.contains x.name)) 21;simp only[Qa,seval];refine fk8 fr s R h hR mm m i x own o8 _ (by omega) f hf _ (fun f hf=>?_);have q6:=Qy q5 m.name x.num (YP x) 1;simp only[Qa,seval];refine fk9 fr s R h hR mm hM S hS m hm i x hi own o5 o8 _ (by omega) f hf _ (fun f hf=>?_);have q7:=Qy q6 m.name x.num (JD S x) 12;simp only[Qa,seval];refine QPF fr s R h hR mm hM m hm i x hi own o6 _ (by omega) f hf _ (fun f hf=>?_);have q8:=Qy q7 m.name x.num (Jm m i) 15;simp only[Qa,seval];refine QPE fr s R h hR mm hM S hS m hm i x hi own o5 o8 _ (by omega) f hf _ (fun f hf=>?_);have q9:=Qy q8 m.name x.num (WC S x) 1;simp only[Qa,seval];refine QPG fr s R h hR mm hM m hm i x hi own o8 _ (by omega) f hf _ (fun f hf=>?_);obtain⟨h0,h3,h5,h6,h8⟩:=hf;simp only[Vq,h0,hs,hn,eE,seval];unfold J7;simp only[QVC]

theorem ZD {P:Program}{its:List Am.Item}{f:Fr}{m:Qo}{ds:List DF}{d:Nat}{K:St→Prop}{z:AV}{r:RA}{w:List UInt8}(hr:r.ev f=.str w)(h:Ql P its ⟨Qn f d (.list [.str w]),m,ds⟩ K):Ql P (⟨some d,.bsl 1 1 [z] [(0,1,r)],none⟩ :: its) ⟨f,m,ds⟩ K:=by
 rw[show Ql P (⟨some d,.bsl 1 1 [z] [(0,1,r)],none⟩ :: its) ⟨f,m,ds⟩ K=Ql P its ⟨Qn f d (.list [.str w]),m,ds⟩ K from Cl (y:=[.str w]) (by simp[fill,hr,AV.cells,AV.leaf,Xt,List.range_succ,splice]) rfl rfl];exact h

def X0 (m:SM)(i:Nat):List (List UInt8):=((m.fields.take i).filter fun f=>f.card==1&&f.kind==10).map SF.tname
theorem DT {m:SM}{i:Nat}{x:SF}(h:m.fields[i]? = some x):X0 m (i+1)=if (x.card==1&&x.kind==10)=true then X0 m i++[x.tname]else X0 m i:=by
 unfold X0;rw[QWT,h,QWU,List.filter_append,QWS];cases hq:(x.card==1&&x.kind==10)
 ·rw[QVp (by decide),List.filter_cons,hq];simp
 ·rw[QVq rfl,List.filter_cons,hq];simp
theorem Ho (m:SM)(i:Nat):(X0 m i).length≤m.fields.length:=by
 unfold X0;rw[QWE];exact QVj (List.length_filter_le ..) (List.length_take_le' ..)

def NdI (m:SM)(k:Nat)(st:St):Prop :=
 ∃f fr i g,st=⟨f,[fr],[]⟩∧k=m.fields.length-i∧i≤m.fields.length∧f 3=.vec 0 3 g 0 (X0 m i).length false∧f 7=.list (m.fields.map XK)∧f 8=.int .i64 (m.fields.length:Nat)∧f 9=.int .i64 (i:Nat)∧fr 3=.vec g 1 ((X0 m i).map Qk)∧∀s∈[5],(fr s).isRow=false

theorem Qzz {M:Nat}(hM:M≤1048576)(m:SM)(hm:m.ok M):Qj Tryz.prog 165 [Q4 m] (.list ((Ze m).map Qk)):=by
 have hl1:=hm.len1;have hnd:Ze m=X0 m m.fields.length:=by unfold Ze X0;rw[QWQ]
 refine Qjc.fn (by simp) ?_;simp only[Q4,XL m,eE,seval];refine Zv rfl rfl ?_;simp only[QWE,eE,seval];refine Qf (NdI m) _ ⟨_,_,0,_,rfl,rfl,QVr _,(by rfl),(by rfl),(by rfl),(by rfl),(by rfl),by simp<;>rfl⟩ ?_;rintro _ st ⟨f0,fr0,i,g,rfl,rfl,hi,h30,h70,h80,h90,m30,r5⟩;refine QR (a:=_) [5] r5 ?_;intro f fr hf hmm hn5;have h3:f 3=.vec 0 3 g 0 (X0 m i).length false:=by rw[hf,h30]<;>rfl
 have h7:f 7=.list (m.fields.map XK):=by rw[hf,h70]<;>rfl
 have h8:f 8=.int .i64 (m.fields.length:Nat):=by rw[hf,h80]<;>rfl
 have h9:f 9=.int .i64 (i:Nat):=by rw[hf,h90]<;>rfl
 have m3:fr 3=.vec g 1 ((X0 m i).map Qk):=by rw[hmm 3 (by decide),m30]<;>rfl
 have n5:=hn5 5 (by decide);clear hf hmm hn5 h30 h70 h80 h90 m30 r5;simp only[h8,h9,Qa,seval];by_cases hlt:i<m.fields.length
 case neg=>
  have e:i=m.fields.length:=by omega
  subst e;rw[←hnd]at h3 m3;have ht:List.take (Ze m).length (List.map Qk (Ze m))=List.map Qk (Ze m):=QVQ (by rw[QWE];exact QVi _);simp only[Qu hlt,h3,m3,QWE,QVY,ht,QVH,QVi,QWn,AV.un,eE,seval]
 obtain⟨x,hx⟩:∃x,m.fields[i]? = some x:=⟨m.fields[i],QVl hlt⟩;have hg:(m.fields.map XK)[i]? = some (.agg x.cells):=by rw[QWB,hx];rfl
 rw[QL]at hg;have e1:=Qh i _ hlt (by simp only[maxLen];omega);have hln:=Ho m i;have hsu:=DT hx;have fin:∀(f:Fr) (fr:Nat→Ob) (g:Nat),f 3=.vec 0 3 g 0 (X0 m (i+1)).length false→f 7=.list (m.fields.map XK)→f 8=.int .i64 (m.fields.length:Nat)→f 9=.int .i64 ((i+1:Nat):Int)→fr 3=.vec g 1 ((X0 m (i+1)).map Qk)→(∀s∈[5],(fr s).isRow=false)→∃k,k<m.fields.length-i∧NdI m k ⟨f,[fr],[]⟩ :=
  fun f fr g a b c d e r=>⟨m.fields.length-(i+1),by omega,f,fr,i+1,g,rfl,rfl,by omega,a,b,c,d,e,r⟩
 simp only[Qs hlt,n5,Qd,QWH,Qb,hg,h7,h9,eE,seval];cases a1:(x.card==1)
 ·rw[a1,QWL,QVp (by decide)]at hsu;simp only[h9,e1,Qa,seval];exact fin _ _ g (by rw[hsu];exact(by exact h3)) (by exact h7) (by exact h8) (by rfl) (by rw[hsu];exact(by exact m3)) (by simp<;>rfl)
 cases a2:(x.kind==10)
 ·rw[a1,a2,QWY,QVp (by decide)]at hsu;simp only[a2,h9,e1,eE,seval];exact fin _ _ g (by rw[hsu];exact(by exact h3)) (by exact h7) (by exact h8) (by rfl) (by rw[hsu];exact(by exact m3)) (by simp<;>rfl)
 rw[a1,a2,QWY,QVq rfl]at hsu;simp only[a2,h3,eE,seval];refine ZD (w:=x.tname) rfl ?_;refine QI (xs:=(X0 m i).map Qk) (by rfl) (by exact m3) rfl (by simp) (by rfl) rfl (by simp only[QVx,QWp,maxLen];omega) (by simp only[QVx,QWp];omega) ?_;simp only[h9,e1,Qa,seval];have en:(X0 m (i+1)).length=(X0 m i).length+1:=by rw[hsu];simp
 exact fin _ _ (g+1) (by rw[en];exact(by rfl)) (by exact h7) (by exact h8) (by rfl) (by rw[hsu,QWS];exact(by rfl)) (by simp<;>rfl)

def Xr (X:List (List UInt8)):List AV:=X.map fun _=>.bool true
theorem QzA (X:List (List UInt8)):AV.grL (Xr X)=true:=by
 induction X with
 |nil=>rfl
 |cons x X ih=>rw[Xr,QVP,AV.grL,show AV.grL (X.map fun _=>.bool true)=true from ih];rfl
theorem QcB (X:List (List UInt8)):X.length=(Xr X).length:=by rw[Xr,QWE]
theorem WE (n:List UInt8)(X:List (List UInt8)):Jg n X (Xr X)=if X.contains n=true then some (.bool true)else none:=by
 induction X with
 |nil=>rfl
 |cons x X ih=>
  rw[Xr,QVP,Jg,List.contains_cons];cases h:(n==x)
  ·rw[QW1,←ih];rfl
  ·rw[QW0,QVq rfl];rfl
theorem Sp (n:List UInt8)(X:List (List UInt8)):XT n (.bool true) X (Xr X)=if X.contains n=true then(X,Xr X)else(X++[n],Xr (X++[n])):=by
 induction X with
 |nil=>rfl
 |cons x X ih=>
  rw[Xr,QVP,XT,List.contains_cons];cases h:(n==x)
  ·rw[show XT n (.bool true) X (X.map fun _=>.bool true)=_ from ih,QW1];cases X.contains n<;>rfl
  ·rw[QW0,QVq rfl];rfl

section
variable {M:Nat}(hM:M≤1048576)(S:SC)(hS:S.ok M)(n:List UInt8)(X:List (List UInt8))(fr:Nat→Ob)(o1:fr 1=.cells [.list (S.msgs.map fun n=>.agg n.cells),.list (S.enums.map fun n=>.agg n.cells),.list (S.servs.map fun n=>.agg n.cells)])
include hM hS in
theorem QPI (o1:fr 1=.cells [.list (S.msgs.map fun n=>.agg n.cells),.list (S.enums.map fun n=>.agg n.cells),.list (S.servs.map fun n=>.agg n.cells)])(o3:fr 3=.cells [.mptr 0 9])(o9:fr 9=.iter (.mp X (Xr X)) 0) :
  Qp Tryz.prog 166 [Qk n,.ptr 2 1 0,.ptr 2 3 0] [Qg,Qg,fr] fun y m1=>y=.bool (Q2 S n && !X.contains n)∧m1=[Qg,Qg,fr]:=by
 obtain⟨l1,_,_⟩:=ZV S hS hM;have hc:=Dc S l1 n;simp only[Q4,SM.cells,SC.av]at hc;have hg:AV.gr (.bool true)=true:=rfl;refine Qji.go (by simp) ?_;simp only[Qk,o1,eE,seval];refine aC hc ?_;cases Q2 S n
 ·simp only[QWL,eE,seval]
 cases hX:X.contains n
 ·simp only[QWl,Zw,WE,hX,QVB,o3,o9,eE,seval]
 ·simp only[QWY,QWZ,Zw,WE,hX,hg,o3,o9,eE,seval]

include hM hS in
theorem QPJ (o3:fr 3=.cells [.list (S.msgs.map fun n=>.agg n.cells),.list (S.enums.map fun n=>.agg n.cells),.list (S.servs.map fun n=>.agg n.cells)])(o5:fr 5=.cells [.mp X (Xr X)]) :
  Qp Tryz.prog 209 [Qk n,.ptr 2 3 0,.ptr 2 5 0] [Qg,Qg,fr] fun y m1=>y=.bool (Q2 S n && !X.contains n)∧m1=[Qg,Qg,fr]:=by
 obtain⟨l1,_,_⟩:=ZV S hS hM;have hc:=Dc S l1 n;simp only[Q4,SM.cells,SC.av]at hc;have hg:AV.gr (.bool true)=true:=rfl;refine Qm0.go (by simp) ?_;simp only[Qk,o3,eE,seval];refine aC hc ?_;cases Q2 S n
 ·simp only[QWL,eE,seval]
 cases hX:X.contains n
 ·simp only[QWl,Zw,WE,hX,QVB,o5,eE,seval]
 ·simp only[QWY,QWZ,Zw,WE,hX,hg,o5,eE,seval]

include hM hS in
theorem QPK (m:SM)(hm:m.ok M):Qj Tryz.prog 172 [S.av,Q4 m,.mp X (Xr X)] (.bool ((Ze m).any fun n=>Q2 S n && !X.contains n)):=by
 have hln:(Ze m).length≤maxLen:=by
  have h1:=Ho m m.fields.length;have h2:=hm.len1;have h3:Ze m=X0 m m.fields.length:=by unfold Ze X0;rw[QWQ]
  rw[h3];simp only[maxLen];omega
 have hc:=Qzz hM m hm;simp only[Q4,SM.cells]at hc;refine QjE.fn (by simp) ?_;simp only[SC.av,Q4,SM.cells,eE,seval];refine aC hc ?_;simp only[Qa,seval];refine Qc (C2 (Ze m) hln (fun n=>Q2 S n && !X.contains n) 209 [.ptr 0 3 0,.ptr 0 5 0] _ fun o _=>QPJ hM S hS o X _ (by rfl) (by rfl)) (by simp only[QVP,QWe,Qa,seval]<;>rfl) ?_;simp only[Qa,seval]
end

section
variable {M:Nat}(hM:M≤1048576)(S:SC)(hS:S.ok M)
def FoI (S:SC)(k:Nat)(st:St):Prop :=
 ∃f fr i,st=⟨f,[fr],[]⟩∧k=S.msgs.length+1-i∧i≤S.msgs.length+1∧f 1=.ptr 0 1 0∧f 3=.ptr 0 3 0∧f 13=.int .i64 ((S.msgs.length+1:Nat):Int)∧f 14=.int .i64 (i:Nat)∧
  fr 1=.cells [.list (S.msgs.map fun n=>.agg n.cells),.list (S.enums.map fun n=>.agg n.cells),.list (S.servs.map fun n=>.agg n.cells)]∧fr 3=.cells [.mptr 0 9]∧fr 9=.iter (.mp (Yt S i) (Xr (Yt S i))) 0∧∀s∈[5,6],(fr s).isRow=false

include hM hS in
theorem QzB (X:List (List UInt8))(f:Fr)(fr:Nat→Ob)(h1:f 1=.ptr 0 1 0)(h3:f 3=.ptr 0 3 0)(h17:f 17=.list (S.msgs.map Q4))(h18:f 18=.int .i64 (S.msgs.length:Nat))(h19:f 19=.int .i64 0)
  (m1:fr 1=.cells [.list (S.msgs.map fun n=>.agg n.cells),.list (S.enums.map fun n=>.agg n.cells),.list (S.servs.map fun n=>.agg n.cells)]) (m3:fr 3=.cells [.mptr 0 9]) (m9:fr 9=.iter (.mp X (Xr X)) 0) (WY:∀s∈[5,6],(fr s).isRow=false) (h13:f 13=.int .i64 ((S.msgs.length+1:Nat):Int)) (r:Int) (h14:f 14=.int .i64 r) (Q:Exit→St→Prop)
  (hq:∀(f:Fr) (fr:Nat→Ob),f 1=.ptr 0 1 0→f 3=.ptr 0 3 0→f 13=.int .i64 ((S.msgs.length+1:Nat):Int)→f 14=.int .i64 r→fr 1=.cells [.list (S.msgs.map fun n=>.agg n.cells),.list (S.enums.map fun n=>.agg n.cells),.list (S.servs.map fun n=>.agg n.cells)]→fr 3=.cells [.mptr 0 9]→fr 9=.iter (.mp (Hl S X) (Xr (Hl S X))) 0→(∀s∈[5,6],(fr s).isRow=false)→Q (.exit 2) ⟨f,[fr],[]⟩) :
  QJ Tryz.prog (.loop Pm) ⟨f,[fr],[]⟩ Q:=by
 obtain⟨l1,_,_⟩:=ZV S hS hM
 let I:Nat→St→Prop:=fun k st=>∃f fr i,st=⟨f,[fr],[]⟩∧k=S.msgs.length-i∧i≤S.msgs.length∧f 1=.ptr 0 1 0∧f 3=.ptr 0 3 0∧f 17=.list (S.msgs.map Q4)∧f 18=.int .i64 (S.msgs.length:Nat)∧f 19=.int .i64 (i:Nat)∧f 13=.int .i64 ((S.msgs.length+1:Nat):Int)∧f 14=.int .i64 r∧
  fr 1=.cells [.list (S.msgs.map fun n=>.agg n.cells),.list (S.enums.map fun n=>.agg n.cells),.list (S.servs.map fun n=>.agg n.cells)]∧fr 3=.cells [.mptr 0 9]∧fr 9=.iter (.mp ((S.msgs.take i).foldl (ZC S) X) (Xr ((S.msgs.take i).foldl (ZC S) X))) 0∧∀s∈[5,6],(fr s).isRow=false
 refine Qf I _ ⟨f,fr,0,rfl,rfl,QVr _,h1,h3,h17,h18,h19,h13,h14,m1,m3,m9,WY⟩ ?_;clear h1 h3 h17 h18 h19 h13 h14 m1 m3 m9 WY;rintro _ st ⟨f0,fr0,i,rfl,rfl,hi,h10,h30,h170,h180,h190,h130,h140,m10,m30,m90,WY⟩;refine QR (a:=_) [6,5] (by intro s hs;exact WY s (by simp only[QWy,QXi,or_false]at hs ⊢;omega)) ?_;intro f fr hf hmm hn;have h1:f 1=.ptr 0 1 0:=by rw[hf,h10]<;>rfl
 have h3:f 3=.ptr 0 3 0:=by rw[hf,h30]<;>rfl
 have h17:f 17=.list (S.msgs.map Q4):=by rw[hf,h170]<;>rfl
 have h18:f 18=.int .i64 (S.msgs.length:Nat):=by rw[hf,h180]<;>rfl
 have h19:f 19=.int .i64 (i:Nat):=by rw[hf,h190]<;>rfl
 have h13:f 13=.int .i64 ((S.msgs.length+1:Nat):Int):=by rw[hf,h130]<;>rfl
 have h14:f 14=.int .i64 r:=by rw[hf,h140]<;>rfl
 have m1:fr 1=.cells [.list (S.msgs.map fun n=>.agg n.cells),.list (S.enums.map fun n=>.agg n.cells),.list (S.servs.map fun n=>.agg n.cells)]:=by rw[hmm 1 (by decide),m10]<;>rfl
 have m3:fr 3=.cells [.mptr 0 9]:=by rw[hmm 3 (by decide),m30]<;>rfl
 have m9:fr 9=.iter (.mp ((S.msgs.take i).foldl (ZC S) X) (Xr ((S.msgs.take i).foldl (ZC S) X))) 0:=by rw[hmm 9 (by decide),m90]<;>rfl
 have n5:=hn 5 (by decide);have n6:=hn 6 (by decide);clear hf hmm hn h10 h30 h170 h180 h190 h130 h140 m10 m30 m90 WY;simp only[h18,h19,Qa,seval];by_cases hlt:i<S.msgs.length
 case neg=>
  have e:(S.msgs.take i).foldl (ZC S) X=Hl S X:=by rw[QVQ (by omega)];rfl
  rw[e]at m9;simp only[Qu hlt,Qa,seval];exact hq _ _ (by exact h1) (by exact h3) (by exact h13) (by exact h14) (by exact m1) (by exact m3) (by exact m9) (by simp only[QWy,QXi,or_false];rintro s (rfl|rfl)<;>simp only[n5,n6]<;>rfl)
 obtain⟨x,hx⟩:∃x,S.msgs[i]? = some x:=⟨S.msgs[i],QVl hlt⟩;have hmem:x∈S.msgs:=QVw hx;have hg:(S.msgs.map Q4)[i]? = some (.agg x.cells):=by rw[QWB,hx];rfl
 simp only[SM.cells]at hg;have e1:=Qh i _ hlt l1;have hc:=Dc S l1 x.name;simp only[Q4,SM.cells,SC.av]at hc;obtain⟨y,hy⟩:∃y,S.msgs.find? (fun m=>m.name==x.name)=some y:=by
  cases hq:S.msgs.find? (fun m=>m.name==x.name)with
  |none=>have:=QW8.1 hq x hmem;simp at this
  |some y=>exact⟨y,rfl⟩
 have hym:=hS.msgs y (QW9 hy);have hnl:(Ze y).length≤maxLen:=by
  have h1:=Ho y y.fields.length;have h2:=hym.len1;have h3:Ze y=X0 y y.fields.length:=by unfold Ze X0;rw[QWQ]
  rw[h3];simp only[maxLen];omega
 have hnd:=Qzz hM y hym;simp only[Q4,SM.cells]at hnd;rw[hy,QWo]at hc;have hst:(S.msgs.take (i+1)).foldl (ZC S) X=ZC S ((S.msgs.take i).foldl (ZC S) X) x:=by
  rw[QWT,hx,QWU,List.foldl_append];rfl
 have hfs:∀Y,ZC S Y x=if (Ze y).any (fun n=>Q2 S n && !Y.contains n)=true then Y else if Y.contains x.name=true then Y else Y++[x.name]:=by
  intro Y;unfold ZC;rw[hy]
 have fin:∀(f:Fr) (fr:Nat→Ob),f 1=.ptr 0 1 0→f 3=.ptr 0 3 0→f 17=.list (S.msgs.map Q4)→f 18=.int .i64 (S.msgs.length:Nat)→f 19=.int .i64 ((i+1:Nat):Int)→f 13=.int .i64 ((S.msgs.length+1:Nat):Int)→f 14=.int .i64 r→fr 1=.cells [.list (S.msgs.map fun n=>.agg n.cells),.list (S.enums.map fun n=>.agg n.cells),.list (S.servs.map fun n=>.agg n.cells)]→fr 3=.cells [.mptr 0 9]→fr 9=.iter (.mp ((S.msgs.take (i+1)).foldl (ZC S) X) (Xr ((S.msgs.take (i+1)).foldl (ZC S) X))) 0→(∀s∈[5,6],(fr s).isRow=false)→∃k,k<S.msgs.length-i∧I k ⟨f,[fr],[]⟩ :=
  fun f fr a b c d e g h j k l n=>⟨S.msgs.length-(i+1),by omega,f,fr,i+1,rfl,rfl,by omega,a,b,c,d,e,g,h,j,k,l,n⟩
 generalize hY:(S.msgs.take i).foldl (ZC S) X=Y at m9 hst;rw[hst,hfs]at fin;simp only[Qs hlt,n5,Qd,QWH,Qb,hg,m1,h1,h17,h19,eE,seval];refine aC hc ?_;simp only[n6,eE,seval];refine aC hnd ?_;simp only[Qa,seval];refine Qc (C2 (Ze y) hnl (fun n=>Q2 S n && !Y.contains n) 166 [.ptr 0 1 0,.ptr 0 3 0] _ fun o _=>QPI hM S hS o Y _ (by exact m1) (by exact m3) (by exact m9)) (by simp only[QVP,QWe,h1,h3,Qa,seval]<;>rfl) ?_;cases hb:(Ze y).any fun n=>Q2 S n && !Y.contains n
 ·rw[hb,QVp (by decide)]at fin;simp only[QWl,h3,m3,eE,seval];refine⟨0,9,Y,Xr Y,0,x.name,(by rfl),by simp only[m9,eE,seval],(by rfl),rfl,QzA Y,QcB Y,?_⟩;rw[show RA.ev _ (.c (.bool true))=AV.bool true from rfl,Sp];cases hYc:Y.contains x.name
  ·rw[hYc,QVp (by decide)]at fin;simp only[Qm,QVB,h19,e1,eE,seval];exact fin _ _ (by exact h1) (by exact h3) (by exact h17) (by exact h18) (by rfl) (by exact h13) (by exact h14) (by exact m1) (by exact m3) (by rfl) (by simp only[QWy,QXi,or_false];rintro s (rfl|rfl)<;>rfl)
  ·rw[hYc,QVq rfl]at fin;simp only[Qm,h19,e1,eE,seval];exact fin _ _ (by exact h1) (by exact h3) (by exact h17) (by exact h18) (by rfl) (by exact h13) (by exact h14) (by exact m1) (by exact m3) (by rfl) (by simp only[QWy,QXi,or_false];rintro s (rfl|rfl)<;>rfl)
 ·rw[hb,QVq rfl]at fin;simp only[QWZ,h19,e1,Qa,seval];exact fin _ _ (by exact h1) (by exact h3) (by exact h17) (by exact h18) (by rfl) (by exact h13) (by exact h14) (by exact m1) (by exact m3) (by exact m9) (by simp only[QWy,QXi,or_false];rintro s (rfl|rfl)<;>rfl)

include hM hS in
theorem QPL:Qj Tryz.prog 134 [S.av] (.mp (Yu S) (Xr (Yu S))):=by
 obtain⟨l1,_,_⟩:=ZV S hS hM;have hlm:=hS.len1;have w1:IntKind.i64.wrap ((S.msgs.length:Int)+1)=((S.msgs.length+1:Nat):Int):=by rw[Jb];omega
 refine Qg4.fn (by simp) ?_;simp only[SC.av,eE,seval];refine⟨rfl,?_⟩;simp only[Qm,QWE,w1,eE,seval];refine Qf (FoI S) _ ⟨_,_,0,rfl,rfl,QVr _,(by rfl),(by rfl),(by rfl),(by rfl),(by rfl),(by rfl),(by rfl),by intro s hs;simp only[QWy,QXi,or_false]at hs;rcases hs with rfl|rfl<;>rfl⟩ ?_;rintro _ st ⟨f0,fr0,i,rfl,rfl,hi,h10,h30,h130,h140,m10,m30,m90,WY⟩;refine QR (a:=_) [6,5] (by intro s hs;exact WY s (by simp only[QWy,QXi,or_false]at hs ⊢;omega)) ?_;intro f fr hf hmm hn;have h1:f 1=.ptr 0 1 0:=by rw[hf,h10]<;>rfl
 have h3:f 3=.ptr 0 3 0:=by rw[hf,h30]<;>rfl
 have h13:f 13=.int .i64 ((S.msgs.length+1:Nat):Int):=by rw[hf,h130]<;>rfl
 have h14:f 14=.int .i64 (i:Nat):=by rw[hf,h140]<;>rfl
 have m1:fr 1=.cells [.list (S.msgs.map fun n=>.agg n.cells),.list (S.enums.map fun n=>.agg n.cells),.list (S.servs.map fun n=>.agg n.cells)]:=by rw[hmm 1 (by decide),m10]<;>rfl
 have m3:fr 3=.cells [.mptr 0 9]:=by rw[hmm 3 (by decide),m30]<;>rfl
 have m9:fr 9=.iter (.mp (Yt S i) (Xr (Yt S i))) 0:=by rw[hmm 9 (by decide),m90]<;>rfl
 have n5:=hn 5 (by decide);have n6:=hn 6 (by decide);clear hf hmm hn h10 h30 h130 h140 m10 m30 m90 WY;simp only[h13,h14,Qa,seval];by_cases hlt:i<S.msgs.length+1
 case neg=>
  have e:i=S.msgs.length+1:=by omega
  subst e;simp only[Qu hlt,h3,m3,m9,eE,seval];rfl
 have e1:=Qh i _ hlt (by simp only[maxLen];omega);simp only[Qs hlt,m1,h1,QWE,eE,seval];refine QzB hM S hS (Yt S i) _ _ (by exact h1) (by exact h3) (by rfl) (by rfl) (by rfl) (by exact m1) (by exact m3) (by exact m9) (by simp only[QWy,QXi,or_false];rintro s (rfl|rfl)<;>simp only[n5,n6]<;>rfl) (by exact h13) _ (by exact h14) _ (fun f fr h1 h3 h13 h14 m1 m3 m9 WY=>?_);simp only[h14,e1,Qa,seval];exact⟨S.msgs.length+1-(i+1),by omega,_,_,i+1,rfl,rfl,by omega,(by exact h1),(by exact h3),(by exact h13),(by rfl),(by exact m1),(by exact m3),(by exact m9),WY⟩
end

theorem W5 (S:SC)(m:SM)(i:Nat)(x:SF):(J7 S m i x).length≤10:=by
 unfold J7 XJ;exact Qy (Qy (Qy (Qy (Qy (Qy (Qy (Qy (Qy (Q3 _ _ _ _) _ _ _ _) _ _ _ _) _ _ _ _) _ _ _ _) _ _ _ _) _ _ _ _) _ _ _ _) _ _ _ _) _ _ _ _
theorem UG {fr:Nat→Ob}{s R:Nat}{d:List UInt8}{n:Int}{l:List PB}(h1:fr s=.cells [.str d,.int .i64 n,.vec 0 R (1+l.length) 0 l.length false])(h2:fr R=.vec (1+l.length) 3 (l.map PB.av)):Qq fr s R d n l=fr:=by
 rw[Qq,UC _ _ _ h2,UC _ _ _ h1]
theorem Ft (fr:Nat→Ob)(s R:Nat)(d:List UInt8)(n:Int)(h:R≠s)(A:Ob):Qn (Qn (Qn fr s A) R (.vec 1 3 [])) s (.cells ([.str d,.int .i64 n,.nils].set 2 (.vec 0 R 1 0 0 false)))=Qq fr s R d n []:=by
 rw[Jl _ _ _ _ _ (Ne.symm h),Jw];rfl
theorem De {fr:Nat→Ob}{s R:Nat}{d:List UInt8}{n:Int}{l:List PB}{k:Nat}(h1:k≠R)(h2:k≠s)(o:Ob):Qn (Qq fr s R d n l) k o=Qq (Qn fr k o) s R d n l:=by
 rw[Qq,Qq,Jl _ _ _ _ _ (Ne.symm h2),Jl _ _ _ _ _ (Ne.symm h1)]

section
variable {M:Nat}(hM:M≤1048576)(S:SC)(hS:S.ok M)(m:SM)(hm:m.ok M)(X:List (List UInt8))(base:Nat→Ob)
variable (b3:base 3=.cells [.list (S.msgs.map fun n=>.agg n.cells),.list (S.enums.map fun n=>.agg n.cells),.list (S.servs.map fun n=>.agg n.cells)])(b4:base 4=.cells [.str m.name,.list (m.fields.map fun n=>.agg n.cells),.list (m.free.map fun n=>.agg n.cells),.list (m.gone.map AV.str),.list (m.notes.map fun n=>.agg n.cells)])

def MF (X:List (List UInt8))(f:Fr):Prop:=f 2=.mp X (Xr X)∧f 3=.ptr 0 3 0∧f 4=.ptr 0 4 0∧f 7=.ptr 0 14 0

include hM hS hm b3 b4 in
theorem Sq (l:List PB)(hl:l.length≤1000000)(f:Fr)(hf:MF X f)(h38:f 38=.int .i64 (m.fields.length:Nat))(h39:f 39=.int .i64 0)(Q:Exit→St→Prop)
  (hq:∀f,MF X f→Q (.exit 0) ⟨f,[Qq base 14 1100 m.name (-1) (l++upto m.fields (J7 S m) m.fields.length)],[]⟩):QJ Tryz.prog (.loop Bf) ⟨f,[Qq base 14 1100 m.name (-1) l],[]⟩ Q:=by
 let I:Nat→St→Prop:=fun k st=>∃f i,st=⟨f,[Qq base 14 1100 m.name (-1) (l++upto m.fields (J7 S m) i)],[]⟩∧k=m.fields.length-i∧i≤m.fields.length∧MF X f∧f 38=.int .i64 (m.fields.length:Nat)∧f 39=.int .i64 (i:Nat)
 have hl1:=hm.len1;have c3:∀n l,Qq base 14 1100 m.name n l 3=base 3:=fun n l=>QZ _ _ _ _ _ _ (by decide) (by decide)
 have c4:∀n l,Qq base 14 1100 m.name n l 4=base 4:=fun n l=>QZ _ _ _ _ _ _ (by decide) (by decide)
 refine Qf I _ ⟨f,0,by rw[upto,QWg],rfl,QVr _,hf,h38,h39⟩ ?_;clear hf h38 h39;rintro _ st ⟨f,i,rfl,rfl,hi,⟨h2,h3,h4,h7⟩,h38,h39⟩;simp only[Bf,Ps,h38,h39,Qa,seval];by_cases hlt:i<m.fields.length
 case neg=>
  have e:i=m.fields.length:=by omega
  subst e;simp only[Qu hlt,Qa,seval];exact hq _ ⟨(by exact h2),(by exact h3),(by exact h4),(by exact h7)⟩
 obtain⟨x,hx⟩:∃x,m.fields[i]? = some x:=⟨m.fields[i],QVl hlt⟩;have e1:=Qh i _ hlt (by simp only[maxLen];omega);have hul:=QY (l:=m.fields) (W5 S m) i;have hfl:=QPH base 14 1100 (by decide) rfl [] hM S hS m hm i x hx (l++upto m.fields (J7 S m) i) (by rw[QVU];omega) (-1);simp only[SC.av,Q4,XL m]at hfl;simp only[Qs hlt,Pt,Pu,Pv,c3,c4,b3,b4,h3,h4,h7,h39,eE,seval];refine Qc hfl (by simp only[QVP,QWe,Qa,seval]<;>rfl) ?_;simp only[h39,e1,Qa,seval];exact⟨m.fields.length-(i+1),by omega,_,i+1,by rw[Zl hx,QVC],rfl,by omega,⟨(by exact h2),(by exact h3),(by exact h4),(by exact h7)⟩,(by exact h38),(by rfl)⟩

include hM hm in
theorem QcC (l:List PB)(hl:l.length≤100000000)(f:Fr)(hf:MF X f)(h53:f 53=.list (m.gone.map AV.str))(h54:f 54=.int .i64 (m.gone.length:Nat))(h55:f 55=.int .i64 0)(Q:Exit→St→Prop)
  (hq:∀f,MF X f→Q (.exit 2) ⟨f,[Qq base 14 1100 m.name (-1) (l++upto m.gone (fun _ g=>pb m.name (-1) (Ji g) 7) m.gone.length)],[]⟩):QJ Tryz.prog (.loop Bg) ⟨f,[Qq base 14 1100 m.name (-1) l],[]⟩ Q:=by
 let I:Nat→St→Prop:=fun k st=>∃f i,st=⟨f,[Qq base 14 1100 m.name (-1) (l++upto m.gone (fun _ g=>pb m.name (-1) (Ji g) 7) i)],[]⟩∧k=m.gone.length-i∧i≤m.gone.length∧MF X f∧f 53=.list (m.gone.map AV.str)∧f 54=.int .i64 (m.gone.length:Nat)∧f 55=.int .i64 (i:Nat)
 have hl1:=hm.len3;refine Qf I _ ⟨f,0,by rw[upto,QWg],rfl,QVr _,hf,h53,h54,h55⟩ ?_;clear hf h53 h54 h55;rintro _ st ⟨f,i,rfl,rfl,hi,⟨h2,h3,h4,h7⟩,h53,h54,h55⟩;simp only[Bg,Vc,h54,h55,Qa,seval];by_cases hlt:i<m.gone.length
 case neg=>
  have e:i=m.gone.length:=by omega
  subst e;simp only[Qu hlt,Qa,seval];exact hq _ ⟨(by exact h2),(by exact h3),(by exact h4),(by exact h7)⟩
 obtain⟨x,hx⟩:∃x,m.gone[i]? = some x:=⟨m.gone[i],QVl hlt⟩;have hg:(m.gone.map AV.str)[i]? = some (.str x):=by rw[QWB,hx];rfl
 have hxl:=hm.gone x (QVw hx);have e1:=Qh i _ hlt (by simp only[maxLen];omega);have hul:=QY (l:=m.gone) (g:=fun _ g=>pb m.name (-1) (Ji g) 7) (c:=1) (fun _ g=>Q3 ..) i;have hfl:=Xh base 14 1100 m.name (-1) (l++upto m.gone (fun _ g=>pb m.name (-1) (Ji g) 7) i) (by decide) rfl (by rw[QVU];omega) (Ji x) 7 [];simp only[Qs hlt,Vd,Ve,Vf,Qd,QWH,Qb,hg,h7,h53,h55,eE,seval];refine aC (Qy2 x) ?_
 try simp only[eE,seval]
 refine Qc hfl (by simp only[QVP,QWe,Qa,seval]<;>rfl) ?_;simp only[h55,e1,Qa,seval];exact⟨m.gone.length-(i+1),by omega,_,i+1,by rw[Zl hx,QVC],rfl,by omega,⟨(by exact h2),(by exact h3),(by exact h4),(by exact h7)⟩,(by exact h53),(by exact h54),(by rfl)⟩

theorem QJ6 (a b:Nat):decide ((if (a:Int)<(b:Int)then(b:Int)else(a:Int))≤16)=(decide (a≤16)&&decide (b≤16)):=by
 rw[QV7,QVF,QWA,QWA,QWA];split<;>omega
theorem C7 (a:Nat):decide ((a:Int)≤64)=decide (a≤64):=(by rw[QV7];simp only[QWA];omega)

include hM hm b4 in
theorem im3 (l:List PB)(hl:l.length≤1000000)(f:Fr)(hf:MF X f)(K:St→Prop)
  (hK:∀f,MF X f→K ⟨f,[Qq base 14 1100 m.name (-1) (l++pb m.name (-1) (decide (m.fields.length≤64)&&decide (m.free.length≤16)&&decide (m.gone.length≤16)) 3)],[]⟩):Ql Tryz.prog Be ⟨f,[Qq base 14 1100 m.name (-1) l],[]⟩ K:=by
 obtain⟨h2,h3,h4,h7⟩:=hf;have c4:∀n l,Qq base 14 1100 m.name n l 4=base 4:=fun n l=>QZ _ _ _ _ _ _ (by decide) (by decide)
 rw[Bool.and_assoc]at hK;simp only[Be,c4,b4,QWE,C7,h4,h7,eE,seval];cases a1:decide (m.fields.length≤64)
 ·rw[a1]at hK;simp only[Qa,seval];refine Qc (Xh base 14 1100 m.name (-1) l (by decide) rfl (by omega) false 3 []) (by simp only[QVP,QWe,Qa,seval]<;>rfl) ?_;simp only[Qa,seval];exact hK _ ⟨(by exact h2),(by exact h3),(by exact h4),(by exact h7)⟩
 ·rw[a1]at hK;simp only[c4,b4,QWE,QJ6,h4,eE,seval];refine Qc (Xh base 14 1100 m.name (-1) l (by decide) rfl (by omega) (decide (m.free.length≤16)&&decide (m.gone.length≤16)) 3 []) (by simp only[QVP,QWe,Qa,seval]<;>rfl) ?_;simp only[Qa,seval];exact hK _ ⟨(by exact h2),(by exact h3),(by exact h4),(by exact h7)⟩
end

theorem QPM {M:Nat}(hM:M≤1048576)(S:SC)(hS:S.ok M)(m:SM)(hm:m.ok M)(X:List (List UInt8)):Qj Tryz.prog 135 [S.av,Q4 m,.mp X (Xr X)] (.list ((Jn S (fun m=>(Ze m).any fun n=>Q2 S n && !X.contains n) m).map PB.av)):=by
 have hl1:=hm.len1;have hl2:=hm.len2;have hl3:=hm.len3;have hl4:=hm.len4;have hnl:=hm.name;have hcy:=QPK hM S hS X m hm;simp only[SC.av,Q4,XL m]at hcy;refine Qg5.fn (by simp) ?_;simp only[Tw,Tx,Pn,Po,SC.av,Q4,XL m,eE,seval];refine Xm rfl rfl rfl rfl ?_;generalize hb:(Qn (Qn Qg 3 _) 4 _:Nat→Ob)=base;have b3:base 3=.cells [.list (S.msgs.map fun n=>.agg n.cells),.list (S.enums.map fun n=>.agg n.cells),.list (S.servs.map fun n=>.agg n.cells)]:=by rw[←hb];exact(by rfl)
 have b4:base 4=.cells [.str m.name,.list (m.fields.map fun n=>.agg n.cells),.list (m.free.map fun n=>.agg n.cells),.list (m.gone.map AV.str),.list (m.notes.map fun n=>.agg n.cells)]:=by rw[←hb];exact(by rfl)
 have c3:∀n l,Qq base 14 1100 m.name n l 3=base 3:=fun n l=>QZ _ _ _ _ _ _ (by decide) (by decide)
 have c4:∀n l,Qq base 14 1100 m.name n l 4=base 4:=fun n l=>QZ _ _ _ _ _ _ (by decide) (by decide)
 have cs:∀n l,Qq base 14 1100 m.name n l 14=.cells [.str m.name,.int .i64 n,.vec 0 1100 (1+l.length) 0 l.length false]:=fun n l=>JV base 14 1100 m.name n l
 have cR:∀n l,Qq base 14 1100 m.name n l 1100=.vec (1+l.length) 3 (l.map PB.av):=fun n l=>K9 base 14 1100 m.name n l (by decide)
 rw[Ft base 14 1100 m.name (-1) (by decide)];simp only[Pp,c4,b4,eE,seval];refine aC (T9 m.name (by omega)) ?_
 try simp only[eE,seval]
 refine Qc (Xh base 14 1100 m.name (-1) [] (by decide) rfl (by simp) (XE m.name) 8 []) (by simp only[QVP,QWe,Qa,seval]<;>rfl) ?_;simp only[QVE,Qa,seval];have q1:=Q3 m.name (-1) (XE m.name) 8;refine im3 hM m hm X base b4 _ (by omega) _ ⟨(by rfl),(by rfl),(by rfl),(by rfl)⟩ _ (fun f hf=>?_);have q2:=Qy q1 m.name (-1) (decide (m.fields.length≤64)&&decide (m.free.length≤16)&&decide (m.gone.length≤16)) 3;obtain⟨h2,h3,h4,h7⟩:=hf;simp only[Pr,c4,b4,QWE,h4,eE,seval];refine Sq hM S hS m hm X base b3 b4 _ (by omega) _ ⟨(by exact h2),(by exact h3),(by exact h4),(by exact h7)⟩ (by rfl) (by rfl) _ (fun f hf=>?_);clear h2 h3 h4 h7;have q3:=QY (l:=m.fields) (W5 S m) m.fields.length;obtain⟨h2,h3,h4,h7⟩:=hf;simp only[Pw,c4,b4,h4,h7,eE,seval];have hsp:=IC base 14 1100 m.name (pb m.name (-1) (XE m.name) 8++pb m.name (-1) (decide (m.fields.length≤64)&&decide (m.free.length≤16)&&decide (m.gone.length≤16)) 3++upto m.fields (J7 S m) m.fields.length) (by decide) rfl 1 65535 m.free (by omega) [] (by rw[QVU];omega);refine Qc hsp (by simp only[QVP,QWe,Qa,seval]<;>rfl) ?_;simp only[Vb,c4,b4,QWE,h4,eE,seval];have q4:=QY (l:=m.free) (Ka m.name 1 65535 m.free) m.free.length;have q5:(pb m.name (-1) (XE m.name) 8++pb m.name (-1) (decide (m.fields.length≤64)&&decide (m.free.length≤16)&&decide (m.gone.length≤16)) 3++upto m.fields (J7 S m) m.fields.length++upto m.free (Kq m.name 1 65535 m.free) m.free.length).length≤99000000:=by
  rw[QVU,QVU];omega
 refine QcC hM m hm X base _ (by omega) _ ⟨(by exact h2),(by exact h3),(by exact h4),(by exact h7)⟩ (by rfl) (by rfl) (by rfl) _ (fun f hf=>?_);clear h2 h3 h4 h7;have q6:=QY (l:=m.gone) (g:=fun _ g=>pb m.name (-1) (Ji g) 7) (c:=1) (fun _ g=>Q3 ..) m.gone.length;generalize hL:pb m.name (-1) (XE m.name) 8++pb m.name (-1) (decide (m.fields.length≤64)&&decide (m.free.length≤16)&&decide (m.gone.length≤16)) 3++upto m.fields (J7 S m) m.fields.length++upto m.free (Kq m.name 1 65535 m.free) m.free.length++upto m.gone (fun _ g=>pb m.name (-1) (Ji g) 7) m.gone.length=L;have q7:L.length≤101000000:=by
  rw[←hL,QVU];omega
 obtain⟨h2,h3,h4,h7⟩:=hf;simp only[Vg,c4,b4,h4,h7,eE,seval];refine Qc (Gx base 14 1100 m.name (-1) L (by decide) rfl (by omega) [] m.notes (by simp only[maxLen];omega) hm.notes 1 (by decide)) (by simp only[QVP,QWe,Qa,seval]<;>rfl) ?_;have q8:(L++XJ m.name (-1) m.notes 1).length≤101000001:=Qy q7 _ _ _ _;simp only[Vh,c3,c4,b3,b4,h2,h3,h4,h7,eE,seval];refine aC hcy ?_;simp only[Qa,seval];refine Qc (Xh base 14 1100 m.name (-1) (L++XJ m.name (-1) m.notes 1) (by decide) rfl (by omega) _ 19 []) (by simp only[QVP,QWe,Qa,seval]<;>rfl) ?_;have hfin:Jn S (fun m=>(Ze m).any fun n=>Q2 S n && !X.contains n) m=L++XJ m.name (-1) m.notes 1++pb m.name (-1) (!(Ze m).any fun n=>Q2 S n && !X.contains n) 19:=by rw[←hL];rfl
 rw[←hfin];have ht:∀l:List PB,List.take l.length (List.map PB.av l)=List.map PB.av l:=fun l=>QVQ (by rw[QWE];exact QVi _)
 simp only[Vi,cs,cR,h7,QWE,QVY,ht,QVH,QVi,QWh,QWn,AV.un,eE,seval]

theorem W6 (e:SE)(i:Nat)(x:SI):(Jo e i x).length≤6:=by
 unfold Jo XJ;exact Qy (Qy (Qy (Qy (Qy (Q3 _ _ _ _) _ _ _ _) _ _ _ _) _ _ _ _) _ _ _ _) _ _ _ _
theorem Jk (x:SI):x.cells=[.str x.name,.int .i64 x.num,.list (x.notes.map fun n=>.agg n.cells)]:=rfl
theorem X7 (x:SE):x.cells=[.str x.name,.bool x.opn,.list (x.items.map fun n=>.agg n.cells),.list (x.free.map fun n=>.agg n.cells),.list (x.notes.map fun n=>.agg n.cells)]:=rfl

def EF (e:SE)(i:Nat)(f:Fr):Prop:=f 1=.ptr 0 1 0∧f 3=.ptr 0 9 0∧f 4=.int .i64 (i:Nat)∧f 5=.ptr 0 5 0∧f 48=.list (e.items.map Z5)∧f 49=.int .i64 (e.items.length:Nat)∧f 50=.int .i64 (i:Nat)

section
variable {M:Nat}(hM:M≤1048576)(e:SE)(he:e.ok M)(i:Nat)(x:SI)(hi:e.items[i]? = some x)
variable (fr:Nat→Ob)(o1:fr 1=.cells e.cells)(o5:fr 5=.cells x.cells)
variable (l:List PB)(hl:l.length≤1073741824)(f:Fr)(hf:EF e i f)(K:St→Prop)
include hl hf

include o5 in
theorem en9 (hK:∀f,EF e i f→K ⟨f,[Qq fr 9 1100 e.name x.num (l++pb e.name x.num (decide (x.num≥0)&&decide (x.num≤2147483647)) 6)],[]⟩):Ql Tryz.prog B2 ⟨f,[Qq fr 9 1100 e.name x.num l],[]⟩ K:=by
 obtain⟨h1,h3,h4,h5,h48,h49,h50⟩:=hf;have c5:∀n l,Qq fr 9 1100 e.name n l 5=fr 5:=fun n l=>QZ _ _ _ _ _ _ (by decide) (by decide)
 rw[Jk]at o5;simp only[B2,h3,h5,c5,o5,eE,seval];cases a1:decide (x.num≥0)
 ·rw[a1]at hK;simp only[Qa,seval];refine Qc (Xh fr 9 1100 e.name x.num l (by decide) rfl hl false 6 []) (by simp only[QVP,QWe,Qa,seval]<;>rfl) ?_;simp only[Qa,seval];exact hK _ ⟨(by exact h1),(by exact h3),(by exact h4),(by exact h5),(by exact h48),(by exact h49),(by exact h50)⟩
 ·rw[a1]at hK;simp only[h5,c5,o5,eE,seval];refine Qc (Xh fr 9 1100 e.name x.num l (by decide) rfl hl (decide (x.num≤2147483647)) 6 []) (by simp only[QVP,QWe,Qa,seval]<;>rfl) ?_;simp only[Qa,seval];exact hK _ ⟨(by exact h1),(by exact h3),(by exact h4),(by exact h5),(by exact h48),(by exact h49),(by exact h50)⟩

include o1 o5 hi hM he in
theorem QPN (hK:∀f,EF e i f→K ⟨f,[Qq fr 9 1100 e.name x.num (l++pb e.name x.num (Kv e.items SI.num i x) 11)],[]⟩):Ql Tryz.prog UD ⟨f,[Qq fr 9 1100 e.name x.num l],[]⟩ K:=by
 obtain⟨h1,h3,h4,h5,h48,h49,h50⟩:=hf;have c1:∀n l,Qq fr 9 1100 e.name n l 1=fr 1:=fun n l=>QZ _ _ _ _ _ _ (by decide) (by decide)
 have c5:∀n l,Qq fr 9 1100 e.name n l 5=fr 5:=fun n l=>QZ _ _ _ _ _ _ (by decide) (by decide)
 have hlt:i<e.items.length:=(QVk.1 hi).1;have hl1:=he.len1;rw[Jk]at o5;rw[X7]at o1;cases i with
 |zero=>
  simp only[UD,h3,h4,Qa,seval];refine Qc (Xh fr 9 1100 e.name x.num l (by decide) rfl hl true 11 []) (by simp only[QVP,QWe,Qa,seval]<;>rfl) ?_;simp only[Qa,seval];exact hK _ ⟨(by exact h1),(by exact h3),(by exact h4),(by exact h5),(by exact h48),(by exact h49),(by exact h50)⟩
 |succ j=>
  obtain⟨y,hj⟩:∃y,e.items[j]? = some y:=⟨e.items[j]'(by omega),QVl (by omega)⟩;have hg:(e.items.map fun n=>AV.agg n.cells)[j]? = some (.agg y.cells):=by rw[QWB,hj];rfl
  have wj:=KA j _ hlt (by simp only[maxLen];omega);have d0:(((j+1:Nat):Int)==0)=false:=by rw[QXd];omega
  rw[Jk]at hg;simp only[Kv,hj]at hK;simp only[UD,d0,wj,Qd,QWH,Qb,hg,h1,h3,h4,h5,c1,c5,o1,o5,eE,seval];refine Qc (Xh fr 9 1100 e.name x.num l (by decide) rfl hl (decide (x.num > y.num)) 11 []) (by simp only[QVP,QWe,Qa,seval]<;>rfl) ?_;simp only[Qa,seval];exact hK _ ⟨(by exact h1),(by exact h3),(by exact h4),(by exact h5),(by exact h48),(by exact h49),(by exact h50)⟩

include o5 in
theorem QPO (hK:∀f,EF e i f→K ⟨f,[Qq fr 9 1100 e.name x.num (l++pb e.name x.num (Xo x.name) 8)],[]⟩):Ql Tryz.prog GX ⟨f,[Qq fr 9 1100 e.name x.num l],[]⟩ K:=by
 obtain⟨h1,h3,h4,h5,h48,h49,h50⟩:=hf;have c5:∀n l,Qq fr 9 1100 e.name n l 5=fr 5:=fun n l=>QZ _ _ _ _ _ _ (by decide) (by decide)
 rw[Jk]at o5;simp only[GX,h3,h5,c5,o5,eE,seval];refine aC (C6 x.name) ?_
 try simp only[eE,seval]
 refine Qc (Xh fr 9 1100 e.name x.num l (by decide) rfl hl (Xo x.name) 8 []) (by simp only[QVP,QWe,Qa,seval]<;>rfl) ?_;simp only[Qa,seval];exact hK _ ⟨(by exact h1),(by exact h3),(by exact h4),(by exact h5),(by exact h48),(by exact h49),(by exact h50)⟩

include o1 hi hM he in
theorem QPP (hK:∀f,EF e i f→K ⟨f,[Qq fr 9 1100 e.name x.num (l++pb e.name x.num (!((e.items.take i).any fun y=>y.name==x.name)) 9)],[]⟩):Ql Tryz.prog GY ⟨f,[Qq fr 9 1100 e.name x.num l],[]⟩ K:=by
 obtain⟨h1,h3,h4,h5,h48,h49,h50⟩:=hf;have c1:∀n l,Qq fr 9 1100 e.name n l 1=fr 1:=fun n l=>QZ _ _ _ _ _ _ (by decide) (by decide)
 have hl1:=he.len1;have hsn:=QPD e.items (by simp only[maxLen];omega) i x hi 175 SI.name QPz [Qq fr 9 1100 e.name x.num l];rw[X7]at o1;simp only[GY,h1,h3,h4,c1,o1,eE,seval];refine Qc hsn (by simp only[QVP,QWe,Qa,seval]<;>rfl) ?_;simp only[Qa,seval];refine Qc (Xh fr 9 1100 e.name x.num l (by decide) rfl hl _ 9 []) (by simp only[QVP,QWe,Qa,seval]<;>rfl) ?_;simp only[Qa,seval];exact hK _ ⟨(by exact h1),(by exact h3),(by exact h4),(by exact h5),(by exact h48),(by exact h49),(by exact h50)⟩

include o1 o5 hM he in
theorem QPQ (hK:∀f,EF e i f→K ⟨f,[Qq fr 9 1100 e.name x.num (l++pb e.name x.num (!(kept e.free x.num)) 21)],[]⟩):Ql Tryz.prog GZ ⟨f,[Qq fr 9 1100 e.name x.num l],[]⟩ K:=by
 obtain⟨h1,h3,h4,h5,h48,h49,h50⟩:=hf;have c1:∀n l,Qq fr 9 1100 e.name n l 1=fr 1:=fun n l=>QZ _ _ _ _ _ _ (by decide) (by decide)
 have c5:∀n l,Qq fr 9 1100 e.name n l 5=fr 5:=fun n l=>QZ _ _ _ _ _ _ (by decide) (by decide)
 have hl2:=he.len2;have hr:Qj Tryz.prog 176 [.list (e.free.map fun n=>AV.agg n.cells),.int .i64 x.num] (.bool (kept e.free x.num)):=Qy1 e.free (by simp only[maxLen];omega) x.num;rw[Jk]at o5;rw[X7]at o1;simp only[GZ,h1,h3,h5,c1,c5,o1,o5,eE,seval];refine aC hr ?_;simp only[Qa,seval];refine Qc (Xh fr 9 1100 e.name x.num l (by decide) rfl hl _ 21 []) (by simp only[QVP,QWe,Qa,seval]<;>rfl) ?_;simp only[Qa,seval];exact hK _ ⟨(by exact h1),(by exact h3),(by exact h4),(by exact h5),(by exact h48),(by exact h49),(by exact h50)⟩

include o5 hM he hi in
theorem QPR (hK:∀f,EF e i f→K ⟨f,[Qq fr 9 1100 e.name x.num (l++XJ e.name x.num x.notes 4)],[]⟩):Ql Tryz.prog G0 ⟨f,[Qq fr 9 1100 e.name x.num l],[]⟩ K:=by
 obtain⟨h1,h3,h4,h5,h48,h49,h50⟩:=hf;have c5:∀n l,Qq fr 9 1100 e.name n l 5=fr 5:=fun n l=>QZ _ _ _ _ _ _ (by decide) (by decide)
 have hx:=he.items x (QVw hi);have hln:=hx.len;rw[Jk]at o5;simp only[G0,h3,h5,c5,o5,eE,seval];refine Qc (Gx fr 9 1100 e.name x.num l (by decide) rfl hl [] x.notes (by simp only[maxLen];omega) hx.notes 4 (by decide)) (by simp only[QVP,QWe,Qa,seval]<;>rfl) ?_;simp only[Qa,seval];exact hK _ ⟨(by exact h1),(by exact h3),(by exact h4),(by exact h5),(by exact h48),(by exact h49),(by exact h50)⟩
end

section
variable {M:Nat}(hM:M≤1048576)(e:SE)(he:e.ok M)

include hM he in
theorem Ab (l:List PB)(hl:l.length≤1000000)(n:Int)(f:Fr)(fr:Nat→Ob)(h1:f 1=.ptr 0 1 0)(h3:f 3=.ptr 0 9 0)(h48:f 48=.list (e.items.map Z5))(h49:f 49=.int .i64 (e.items.length:Nat))(h50:f 50=.int .i64 0)(o1:fr 1=.cells e.cells)(o5:fr 5=.none)(Q:Exit→St→Prop)
  (hq:∀(f:Fr) (fr:Nat→Ob) (n:Int),f 1=.ptr 0 1 0→f 3=.ptr 0 9 0→fr 1=.cells e.cells→Q (.exit 0) ⟨f,[Qq fr 9 1100 e.name n (l++upto e.items (Jo e) e.items.length)],[]⟩):QJ Tryz.prog (.loop RN) ⟨f,[Qq fr 9 1100 e.name n l],[]⟩ Q:=by
 let I:Nat→St→Prop:=fun k st=>∃f fr n i,st=⟨f,[Qq fr 9 1100 e.name n (l++upto e.items (Jo e) i)],[]⟩∧k=e.items.length-i∧i≤e.items.length∧f 1=.ptr 0 1 0∧f 3=.ptr 0 9 0∧f 48=.list (e.items.map Z5)∧f 49=.int .i64 (e.items.length:Nat)∧f 50=.int .i64 (i:Nat)∧fr 1=.cells e.cells∧(fr 5).isRow=false
 have hl1:=he.len1;refine Qf I _ ⟨f,fr,n,0,by rw[upto,QWg],rfl,QVr _,h1,h3,h48,h49,h50,o1,by rw[o5];rfl⟩ ?_;clear h1 h3 h48 h49 h50 o1 o5;rintro _ st ⟨f0,fr0,n,i,rfl,rfl,hi,h10,h30,h480,h490,h500,XG,r5⟩;refine QR (a:=_) [5] (by intro s hs;simp only[QWy,QXi,or_false]at hs;subst hs;rw[QZ _ _ _ _ _ _ (by decide) (by decide)];exact r5) ?_;intro f fr hf hmm hn;have h1:f 1=.ptr 0 1 0:=by rw[hf,h10]<;>rfl
 have h3:f 3=.ptr 0 9 0:=by rw[hf,h30]<;>rfl
 have h48:f 48=.list (e.items.map Z5):=by rw[hf,h480]<;>rfl
 have h49:f 49=.int .i64 (e.items.length:Nat):=by rw[hf,h490]<;>rfl
 have h50:f 50=.int .i64 (i:Nat):=by rw[hf,h500]<;>rfl
 have o1:fr 1=.cells e.cells:=by rw[hmm 1 (by decide),QZ _ _ _ _ _ _ (by decide) (by decide),XG]<;>rfl
 have o9:fr 9=.cells [.str e.name,.int .i64 n,.vec 0 1100 (1+(l++upto e.items (Jo e) i).length) 0 (l++upto e.items (Jo e) i).length false]:=by rw[hmm 9 (by decide),JV]<;>rfl
 have oR:fr 1100=.vec (1+(l++upto e.items (Jo e) i).length) 3 ((l++upto e.items (Jo e) i).map PB.av):=by rw[hmm 1100 (by decide),K9 _ _ _ _ _ _ (by decide)]<;>rfl
 have n5:=hn 5 (by decide);clear hf hmm hn h10 h30 h480 h490 h500 XG r5;simp only[RK,h49,h50,Qa,seval];by_cases hlt:i<e.items.length
 case neg=>
  have ei:i=e.items.length:=by omega
  subst ei;simp only[Qu hlt,Qa,seval];rw[←UG o9 oR];exact hq _ _ _ (by exact h1) (by exact h3) o1
 obtain⟨x,hx⟩:∃x,e.items[i]? = some x:=⟨e.items[i],QVl hlt⟩;have hg:(e.items.map Z5)[i]? = some (.agg x.cells):=by rw[QWB,hx];rfl
 rw[Jk]at hg;have e1:=Qh i _ hlt (by simp only[maxLen];omega);have hul:=QY (l:=e.items) (W6 e) i;have q0:(l++upto e.items (Jo e) i).length≤100000000:=by rw[QVU];omega
 simp only[Qs hlt,n5,RL,Qd,QWH,Qb,hg,h48,h50,eE,seval];have hfe:Qn fr 5 (.cells [.str x.name,.int .i64 x.num,.list (x.notes.map fun n=>.agg n.cells)])=Qq (Qn fr 5 (.cells [.str x.name,.int .i64 x.num,.list (x.notes.map fun n=>.agg n.cells)])) 9 1100 e.name n (l++upto e.items (Jo e) i):=(UG (by exact o9) (by exact oR)).symm;rw[hfe];generalize hF:Qn fr 5 (.cells [.str x.name,.int .i64 x.num,.list (x.notes.map fun n=>.agg n.cells)])=F;have o1':F 1=.cells e.cells:=by rw[←hF];exact(by exact o1)
 have o5':F 5=.cells x.cells:=by rw[←hF,Jk];exact(by rfl)
 clear hfe hF o1 o9 oR n5;have cs:∀n l,Qq F 9 1100 e.name n l 9=.cells [.str e.name,.int .i64 n,.vec 0 1100 (1+l.length) 0 l.length false]:=fun n l=>JV F 9 1100 e.name n l
 have c5:∀n l,Qq F 9 1100 e.name n l 5=F 5:=fun n l=>QZ _ _ _ _ _ _ (by decide) (by decide)
 have cn:∀n l n',Qn (Qq F 9 1100 e.name n l) 9 (.cells [.str e.name,.int .i64 n',.vec 0 1100 (1+l.length) 0 l.length false])=Qq F 9 1100 e.name n' l:=fun n l n'=>W4 F 9 1100 e.name n l n'
 have o5s:=o5';rw[Jk]at o5s;simp only[RM,cs,c5,cn,o5s,h3,eE,seval];refine en9 e i x F o5' _ (by omega) _ ⟨(by exact h1),(by exact h3),(by rfl),(by rfl),(by exact h48),(by exact h49),(by exact h50)⟩ _ (fun f hf=>?_);have q1:=Qy q0 e.name x.num (decide (x.num≥0)&&decide (x.num≤2147483647)) 6;simp only[Qa,seval];refine QPN hM e he i x hx F o1' o5' _ (by omega) f hf _ (fun f hf=>?_);have q2:=Qy q1 e.name x.num (Kv e.items SI.num i x) 11;simp only[Qa,seval];refine QPO e i x F o5' _ (by omega) f hf _ (fun f hf=>?_);have q3:=Qy q2 e.name x.num (Xo x.name) 8;simp only[Qa,seval];refine QPP hM e he i x hx F o1' _ (by omega) f hf _ (fun f hf=>?_);have q4:=Qy q3 e.name x.num (!((e.items.take i).any fun y=>y.name==x.name)) 9;simp only[Qa,seval];refine QPQ hM e he i x F o1' o5' _ (by omega) f hf _ (fun f hf=>?_);have q5:=Qy q4 e.name x.num (!(kept e.free x.num)) 21;simp only[Qa,seval];refine QPR hM e he i x hx F o5' _ (by omega) f hf _ (fun f hf=>?_);clear h1 h3 h48 h49 h50;obtain⟨h1,h3,h4,h5,h48,h49,h50⟩:=hf;simp only[Vw,h50,e1,Qa,seval];exact⟨e.items.length-(i+1),by omega,_,F,x.num,i+1,by rw[Zl hx];unfold Jo;simp only[QVC]<;>rfl,rfl,by omega,(by exact h1),(by exact h3),(by exact h48),(by exact h49),(by rfl),o1',by rw[o5'];rfl⟩
end

section
variable {M:Nat}(hM:M≤1048576)(e:SE)(he:e.ok M)(base:Nat→Ob)(o1:base 1=.cells e.cells)
variable (l:List PB)(hl:l.length≤1000000)(f:Fr)(h1:f 1=.ptr 0 1 0)(h3:f 3=.ptr 0 9 0)(K:St→Prop)
include hM he o1 hl h1 h3

theorem en3 (hK:∀f:Fr,f 1=.ptr 0 1 0→f 3=.ptr 0 9 0→K ⟨f,[Qq base 9 1100 e.name (-1) (l++pb e.name (-1) (decide (e.items.length≥1)&&decide (e.items.length≤64)&&decide (e.free.length≤16)) 3)],[]⟩):Ql Tryz.prog B0 ⟨f,[Qq base 9 1100 e.name (-1) l],[]⟩ K:=by
 have c1:∀n l,Qq base 9 1100 e.name n l 1=base 1:=fun n l=>QZ _ _ _ _ _ _ (by decide) (by decide)
 have d1:decide ((e.items.length:Int)≥1)=decide (e.items.length≥1):=(by rw[QV7];simp only[QWA];omega);have d3:decide ((e.free.length:Int)≤16)=decide (e.free.length≤16):=(by rw[QV7];simp only[QWA];omega);rw[X7]at o1;simp only[B0,c1,o1,QWE,d1,h1,h3,eE,seval];cases a1:decide (e.items.length≥1)
 ·rw[a1]at hK;simp only[Qa,seval];refine Qc (Xh base 9 1100 e.name (-1) l (by decide) rfl (by omega) false 3 []) (by simp only[QVP,QWe,Qa,seval]<;>rfl) ?_;simp only[Qa,seval];exact hK _ (by exact h1) (by exact h3)
 simp only[c1,o1,QWE,C7,h1,eE,seval];cases a2:decide (e.items.length≤64)
 ·rw[a1,a2]at hK;simp only[Qa,seval];refine Qc (Xh base 9 1100 e.name (-1) l (by decide) rfl (by omega) false 3 []) (by simp only[QVP,QWe,Qa,seval]<;>rfl) ?_;simp only[Qa,seval];exact hK _ (by exact h1) (by exact h3)
 rw[a1,a2]at hK;simp only[c1,o1,QWE,d3,h1,eE,seval];refine Qc (Xh base 9 1100 e.name (-1) l (by decide) rfl (by omega) (decide (e.free.length≤16)) 3 []) (by simp only[QVP,QWe,Qa,seval]<;>rfl) ?_;simp only[Qa,seval];exact hK _ (by exact h1) (by exact h3)

theorem en4 (hK:∀f:Fr,f 1=.ptr 0 1 0→f 3=.ptr 0 9 0→K ⟨f,[Qq base 9 1100 e.name (-1) (l++pb e.name (-1) (ZU e) 14)],[]⟩):Ql Tryz.prog B1 ⟨f,[Qq base 9 1100 e.name (-1) l],[]⟩ K:=by
 have c1:∀n l,Qq base 9 1100 e.name n l 1=base 1:=fun n l=>QZ _ _ _ _ _ _ (by decide) (by decide)
 have z1:Int.toNat 0=0:=rfl;have z0:(0≤(0:Int))=True:=by simp
 rw[X7]at o1;simp only[B1,c1,o1,QWE,Wp,h1,h3,eE,seval];cases hi:e.items with
 |nil=>
  have e0:ZU e=true:=by unfold ZU;rw[hi]
  rw[e0]at hK;simp only[QWp,Qa,seval];refine Qc (Xh base 9 1100 e.name (-1) l (by decide) rfl (by omega) true 14 []) (by simp only[QVP,QWe,Qa,seval]<;>rfl) ?_;simp only[Qa,seval];exact hK _ (by exact h1) (by exact h3)
 |cons x r=>
  have e0:ZU e=(x.num==0):=by unfold ZU;rw[hi]
  have b0:((x :: r).length==0)=false:=rfl;have hg:((x :: r).map fun n:SI=>AV.agg n.cells)[0]? = some (.agg [.str x.name,.int .i64 x.num,.list (x.notes.map fun n=>.agg n.cells)]):=rfl;rw[e0]at hK;rw[hi]at o1;simp only[c1,o1,z0,z1,Qb,hg,h1,eE,seval];refine Qc (Xh base 9 1100 e.name (-1) l (by decide) rfl (by omega) (x.num==0) 14 []) (by simp only[QVP,QWe,Qa,seval]<;>rfl) ?_;simp only[Qa,seval];exact hK _ (by exact h1) (by exact h3)
end

theorem QPS {M:Nat}(hM:M≤1048576)(e:SE)(he:e.ok M):Qj Tryz.prog 136 [X3 e] (.list ((Jj e).map PB.av)):=by
 have hl1:=he.len1;have hl2:=he.len2;have hl3:=he.len3;have hnl:=he.name;refine QNK.fn (by simp) ?_;simp only[QwE,QwF,RG,RH,X3,X7 e,eE,seval];refine Xm rfl rfl rfl rfl ?_;generalize hb:(Qn Qg 1 _:Nat→Ob)=base;have o1:base 1=.cells e.cells:=by rw[←hb,X7];exact(by rfl)
 have c1:∀n l,Qq base 9 1100 e.name n l 1=base 1:=fun n l=>QZ _ _ _ _ _ _ (by decide) (by decide)
 have o1s:=o1;rw[X7]at o1s;rw[Ft base 9 1100 e.name (-1) (by decide)];simp only[RI,c1,o1s,eE,seval];refine aC (T9 e.name (by omega)) ?_
 try simp only[eE,seval]
 refine Qc (Xh base 9 1100 e.name (-1) [] (by decide) rfl (by simp) (XE e.name) 8 []) (by simp only[QVP,QWe,Qa,seval]<;>rfl) ?_;simp only[QVE,Qa,seval];have q1:=Q3 e.name (-1) (XE e.name) 8;refine en3 hM e he base o1 _ (by omega) _ (by rfl) (by rfl) _ (fun f h1 h3=>?_);have q2:=Qy q1 e.name (-1) (decide (e.items.length≥1)&&decide (e.items.length≤64)&&decide (e.free.length≤16)) 3;simp only[Qa,seval];refine en4 hM e he base o1 _ (by omega) _ h1 h3 _ (fun f h1 h3=>?_);have q3:=Qy q2 e.name (-1) (ZU e) 14;simp only[RJ,c1,o1s,QWE,h1,eE,seval];refine Ab hM e he _ (by omega) (-1) _ base (by exact h1) (by exact h3) (by rfl) (by rfl) (by rfl) o1 (by rw[←hb];exact(by rfl)) _ (fun f F n h1 h3 o1=>?_);clear c1 o1s hb;have q4:=QY (l:=e.items) (W6 e) e.items.length;have o1s:=o1;rw[X7]at o1s;have c1:∀n l,Qq F 9 1100 e.name n l 1=F 1:=fun n l=>QZ _ _ _ _ _ _ (by decide) (by decide)
 have cs:∀n l,Qq F 9 1100 e.name n l 9=.cells [.str e.name,.int .i64 n,.vec 0 1100 (1+l.length) 0 l.length false]:=fun n l=>JV F 9 1100 e.name n l
 have cn:∀n l n',Qn (Qq F 9 1100 e.name n l) 9 (.cells [.str e.name,.int .i64 n',.vec 0 1100 (1+l.length) 0 l.length false])=Qq F 9 1100 e.name n' l:=fun n l n'=>W4 F 9 1100 e.name n l n'
 have cR:∀n l,Qq F 9 1100 e.name n l 1100=.vec (1+l.length) 3 (l.map PB.av):=fun n l=>K9 F 9 1100 e.name n l (by decide)
 simp only[Vx,Vy,cs,cn,c1,o1s,h1,h3,eE,seval];generalize hL:pb e.name (-1) (XE e.name) 8++pb e.name (-1) (decide (e.items.length≥1)&&decide (e.items.length≤64)&&decide (e.free.length≤16)) 3++pb e.name (-1) (ZU e) 14++upto e.items (Jo e) e.items.length=L;have q5:L.length≤10000000:=by
  rw[←hL,QVU];omega
 have hsp:=IC F 9 1100 e.name L (by decide) rfl 0 2147483647 e.free (by omega) [] (by omega);refine Qc hsp (by simp only[QVP,QWe,Qa,seval]<;>rfl) ?_;have q6:=QY (l:=e.free) (Ka e.name 0 2147483647 e.free) e.free.length;have q7:(L++upto e.free (Kq e.name 0 2147483647 e.free) e.free.length).length≤20000000:=by
  rw[QVU];omega
 simp only[Vz,c1,o1s,h1,h3,eE,seval];refine Qc (Gx F 9 1100 e.name (-1) _ (by decide) rfl (by omega) [] e.notes (by simp only[maxLen];omega) he.notes 3 (by decide)) (by simp only[QVP,QWe,Qa,seval]<;>rfl) ?_;have hfin:Jj e=L++upto e.free (Kq e.name 0 2147483647 e.free) e.free.length++XJ e.name (-1) e.notes 3:=by rw[←hL];rfl
 rw[←hfin];have ht:∀l:List PB,List.take l.length (List.map PB.av l)=List.map PB.av l:=fun l=>QVQ (by rw[QWE];exact QVi _)
 simp only[VA,cs,cR,h3,QWE,QVY,ht,QVH,QVi,QWh,QWn,AV.un,eE,seval]

theorem W7 (S:SC)(v:SQ)(i:Nat)(x:SO):(J8 S v i x).length≤5:=by
 unfold J8 XJ;exact Qy (Qy (Qy (Qy (Q3 _ _ _ _) _ _ _ _) _ _ _ _) _ _ _ _) _ _ _ _
theorem KY (x:SO):x.cells=[.str x.name,.str x.inn,.str x.out,.int .i64 x.shape,.list (x.notes.map fun n=>.agg n.cells)]:=rfl
theorem KS (x:SQ):x.cells=[.str x.name,.list (x.meths.map fun n=>.agg n.cells),.list (x.notes.map fun n=>.agg n.cells)]:=rfl
def Sr (x:SO):AV:=.agg x.cells
def WF (x:SQ):AV:=.agg x.cells
def DU (l:List SO)(i:Nat)(x:SO):Bool:=match i with
 |0=>true
 |j+1=>match l[j]? with
  |none=>true
  |some y=>Op.bytesLess y.name x.name
theorem Ss (S:SC)(v:SQ)(i:Nat)(x:SO):J8 S v i x=pb v.name (i:Int) (Xo x.name) 8++pb v.name (i:Int) (DU v.meths i x) 11++pb v.name (i:Int) (Q2 S x.inn&&Q2 S x.out) 12++pb v.name (i:Int) (decide (x.shape≥1)&&decide (x.shape≤4)) 1++XJ v.name (i:Int) x.notes 6:=by
 cases i<;>rfl
theorem VW (a b:List UInt8):(!(Op.bytesLess a b||a==b))=Op.bytesLess b a:=by
 cases h1:Op.bytesLess a b
 ·cases h2:Op.bytesLess b a
  ·have:=Ut h1 h2;subst this;simp
  ·have hne:(a==b)=false:=by
    rw[QXd];rintro rfl;rw[J6]at h2;cases h2
   rw[hne];rfl
 ·cases h2:Op.bytesLess b a
  ·rfl
  ·have:=Yz h1 h2;rw[J6]at this;cases this

def QF (v:SQ)(i:Nat)(f:Fr):Prop:=f 2=.ptr 0 2 0∧f 3=.ptr 0 3 0∧f 5=.ptr 0 15 0∧f 6=.int .i64 (i:Nat)∧f 7=.ptr 0 7 0∧f 28=.list (v.meths.map Sr)∧f 29=.int .i64 (v.meths.length:Nat)∧f 30=.int .i64 (i:Nat)

section
variable {M:Nat}(hM:M≤1048576)(S:SC)(hS:S.ok M)(v:SQ)(hv:v.ok M)(i:Nat)(x:SO)(hi:v.meths[i]? = some x)
variable (fr:Nat→Ob)(o2:fr 2=.cells [.list (S.msgs.map fun n=>.agg n.cells),.list (S.enums.map fun n=>.agg n.cells),.list (S.servs.map fun n=>.agg n.cells)])(o3:fr 3=.cells v.cells)(o7:fr 7=.cells x.cells)
variable (l:List PB)(hl:l.length≤1073741824)(f:Fr)(hf:QF v i f)(K:St→Prop)
include hl hf

include o7 in
theorem sq8 (hK:∀f,QF v i f→K ⟨f,[Qq fr 15 1100 v.name (i:Int) (l++pb v.name (i:Int) (Xo x.name) 8)],[]⟩):Ql Tryz.prog Bh ⟨f,[Qq fr 15 1100 v.name (i:Int) l],[]⟩ K:=by
 obtain⟨h2,h3,h5,h6,h7,h28,h29,h30⟩:=hf;have c7:∀n l,Qq fr 15 1100 v.name n l 7=fr 7:=fun n l=>QZ _ _ _ _ _ _ (by decide) (by decide)
 rw[KY]at o7;simp only[Bh,h5,h7,c7,o7,eE,seval];refine aC (C6 x.name) ?_
 try simp only[eE,seval]
 refine Qc (Xh fr 15 1100 v.name (i:Int) l (by decide) rfl hl (Xo x.name) 8 []) (by simp only[QVP,QWe,Qa,seval]<;>rfl) ?_;simp only[Qa,seval];exact hK _ ⟨(by exact h2),(by exact h3),(by exact h5),(by exact h6),(by exact h7),(by exact h28),(by exact h29),(by exact h30)⟩

include o3 o7 hi hM hv in
theorem sq9 (hK:∀f,QF v i f→K ⟨f,[Qq fr 15 1100 v.name (i:Int) (l++pb v.name (i:Int) (DU v.meths i x) 11)],[]⟩):Ql Tryz.prog Gd ⟨f,[Qq fr 15 1100 v.name (i:Int) l],[]⟩ K:=by
 obtain⟨h2,h3,h5,h6,h7,h28,h29,h30⟩:=hf;have c3:∀n l,Qq fr 15 1100 v.name n l 3=fr 3:=fun n l=>QZ _ _ _ _ _ _ (by decide) (by decide)
 have c7:∀n l,Qq fr 15 1100 v.name n l 7=fr 7:=fun n l=>QZ _ _ _ _ _ _ (by decide) (by decide)
 have hlt:i<v.meths.length:=(QVk.1 hi).1;have hl1:=hv.len1;rw[KY]at o7;rw[KS]at o3;cases i with
 |zero=>
  simp only[Gd,h5,h6,Qa,seval];refine Qc (Xh fr 15 1100 v.name _ l (by decide) rfl hl true 11 []) (by simp only[QVP,QWe,Qa,seval]<;>rfl) ?_;simp only[Qa,seval];exact hK _ ⟨(by exact h2),(by exact h3),(by exact h5),(by exact h6),(by exact h7),(by exact h28),(by exact h29),(by exact h30)⟩
 |succ j=>
  obtain⟨y,hj⟩:∃y,v.meths[j]? = some y:=⟨v.meths[j]'(by omega),QVl (by omega)⟩;have hg:(v.meths.map fun n=>AV.agg n.cells)[j]? = some (.agg y.cells):=by rw[QWB,hj];rfl
  have wj:=KA j _ hlt (by simp only[maxLen];omega);have d0:(((j+1:Nat):Int)==0)=false:=by rw[QXd];omega
  have ha:Qz .gtr x.name y.name=some (.bool (Op.bytesLess y.name x.name)):=by rw[←VW];rfl
  rw[KY]at hg;simp only[DU,hj]at hK;simp only[Gd,d0,wj,ha,Qd,QWH,Qb,hg,h3,h5,h6,h7,c3,c7,o3,o7,eE,seval];refine Qc (Xh fr 15 1100 v.name _ l (by decide) rfl hl (Op.bytesLess y.name x.name) 11 []) (by simp only[QVP,QWe,Qa,seval]<;>rfl) ?_;simp only[Qa,seval];exact hK _ ⟨(by exact h2),(by exact h3),(by exact h5),(by exact h6),(by exact h7),(by exact h28),(by exact h29),(by exact h30)⟩

theorem QPT (a b:Bool)(h9:f 9=.bool a)(h11:f 11=.bool b)(hK:∀f,QF v i f→K ⟨f,[Qq fr 15 1100 v.name (i:Int) (l++pb v.name (i:Int) (a&&b) 12)],[]⟩):Ql Tryz.prog GM ⟨f,[Qq fr 15 1100 v.name (i:Int) l],[]⟩ K:=by
 obtain⟨h2,h3,h5,h6,h7,h28,h29,h30⟩:=hf;simp only[GM,h5,h9,Qa,seval];cases a
 ·simp only[Qa,seval];refine Qc (Xh fr 15 1100 v.name (i:Int) l (by decide) rfl hl false 12 []) (by simp only[QVP,QWe,Qa,seval]<;>rfl) ?_;simp only[Qa,seval];exact hK _ ⟨(by exact h2),(by exact h3),(by exact h5),(by exact h6),(by exact h7),(by exact h28),(by exact h29),(by exact h30)⟩
 ·rw[QWY]at hK;simp only[h11,Qa,seval];refine Qc (Xh fr 15 1100 v.name (i:Int) l (by decide) rfl hl b 12 []) (by simp only[QVP,QWe,Qa,seval]<;>rfl) ?_;simp only[Qa,seval];exact hK _ ⟨(by exact h2),(by exact h3),(by exact h5),(by exact h6),(by exact h7),(by exact h28),(by exact h29),(by exact h30)⟩

include o7 in
theorem QPU (hK:∀f,QF v i f→K ⟨f,[Qq fr 15 1100 v.name (i:Int) (l++pb v.name (i:Int) (decide (x.shape≥1)&&decide (x.shape≤4)) 1)],[]⟩):Ql Tryz.prog GN ⟨f,[Qq fr 15 1100 v.name (i:Int) l],[]⟩ K:=by
 obtain⟨h2,h3,h5,h6,h7,h28,h29,h30⟩:=hf;have c7:∀n l,Qq fr 15 1100 v.name n l 7=fr 7:=fun n l=>QZ _ _ _ _ _ _ (by decide) (by decide)
 rw[KY]at o7;simp only[GN,h5,h7,c7,o7,eE,seval];cases a1:decide (x.shape≥1)
 ·rw[a1]at hK;simp only[Qa,seval];refine Qc (Xh fr 15 1100 v.name (i:Int) l (by decide) rfl hl false 1 []) (by simp only[QVP,QWe,Qa,seval]<;>rfl) ?_;simp only[Qa,seval];exact hK _ ⟨(by exact h2),(by exact h3),(by exact h5),(by exact h6),(by exact h7),(by exact h28),(by exact h29),(by exact h30)⟩
 ·rw[a1]at hK;simp only[h7,c7,o7,eE,seval];refine Qc (Xh fr 15 1100 v.name (i:Int) l (by decide) rfl hl (decide (x.shape≤4)) 1 []) (by simp only[QVP,QWe,Qa,seval]<;>rfl) ?_;simp only[Qa,seval];exact hK _ ⟨(by exact h2),(by exact h3),(by exact h5),(by exact h6),(by exact h7),(by exact h28),(by exact h29),(by exact h30)⟩

include o7 hM hv hi in
theorem QPV (hK:∀f,QF v i f→K ⟨f,[Qq fr 15 1100 v.name (i:Int) (l++XJ v.name (i:Int) x.notes 6)],[]⟩):Ql Tryz.prog GP ⟨f,[Qq fr 15 1100 v.name (i:Int) l],[]⟩ K:=by
 obtain⟨h2,h3,h5,h6,h7,h28,h29,h30⟩:=hf;have c7:∀n l,Qq fr 15 1100 v.name n l 7=fr 7:=fun n l=>QZ _ _ _ _ _ _ (by decide) (by decide)
 have hx:=hv.meths x (QVw hi);have hln:=hx.len;rw[KY]at o7;simp only[GP,h5,h7,c7,o7,eE,seval];refine Qc (Gx fr 15 1100 v.name (i:Int) l (by decide) rfl hl [] x.notes (by simp only[maxLen];omega) hx.notes 6 (by decide)) (by simp only[QVP,QWe,Qa,seval]<;>rfl) ?_;simp only[Qa,seval];exact hK _ ⟨(by exact h2),(by exact h3),(by exact h5),(by exact h6),(by exact h7),(by exact h28),(by exact h29),(by exact h30)⟩
end

section
variable {M:Nat}(hM:M≤1048576)(S:SC)(hS:S.ok M)(v:SQ)(hv:v.ok M)

include hM hS hv in
theorem Ac (l:List PB)(hl:l.length≤1000000)(n:Int)(f:Fr)(fr:Nat→Ob)(h2:f 2=.ptr 0 2 0)(h3:f 3=.ptr 0 3 0)(h5:f 5=.ptr 0 15 0)(h28:f 28=.list (v.meths.map Sr))(h29:f 29=.int .i64 (v.meths.length:Nat))(h30:f 30=.int .i64 0)
  (o2:fr 2=.cells [.list (S.msgs.map fun n=>.agg n.cells),.list (S.enums.map fun n=>.agg n.cells),.list (S.servs.map fun n=>.agg n.cells)]) (o3:fr 3=.cells v.cells) (o7:∀s∈[7,8,10],fr s=.none) (Q:Exit→St→Prop)
  (hq:∀(f:Fr) (fr:Nat→Ob) (n:Int),f 3=.ptr 0 3 0→f 5=.ptr 0 15 0→fr 3=.cells v.cells→Q (.exit 0) ⟨f,[Qq fr 15 1100 v.name n (l++upto v.meths (J8 S v) v.meths.length)],[]⟩):QJ Tryz.prog (.loop PK) ⟨f,[Qq fr 15 1100 v.name n l],[]⟩ Q:=by
 let I:Nat→St→Prop:=fun k st=>∃f fr n i,st=⟨f,[Qq fr 15 1100 v.name n (l++upto v.meths (J8 S v) i)],[]⟩∧k=v.meths.length-i∧i≤v.meths.length∧f 2=.ptr 0 2 0∧f 3=.ptr 0 3 0∧f 5=.ptr 0 15 0∧f 28=.list (v.meths.map Sr)∧f 29=.int .i64 (v.meths.length:Nat)∧f 30=.int .i64 (i:Nat)∧
  fr 2=.cells [.list (S.msgs.map fun n=>.agg n.cells),.list (S.enums.map fun n=>.agg n.cells),.list (S.servs.map fun n=>.agg n.cells)]∧fr 3=.cells v.cells∧∀s∈[7,8,10],(fr s).isRow=false
 obtain⟨l1,_,_⟩:=ZV S hS hM;have hl1:=hv.len1;refine Qf I _ ⟨f,fr,n,0,by rw[upto,QWg],rfl,QVr _,h2,h3,h5,h28,h29,h30,o2,o3,fun s hs=>by rw[o7 s hs];rfl⟩ ?_;clear h2 h3 h5 h28 h29 h30 o2 o3 o7;rintro _ st ⟨f0,fr0,n,i,rfl,rfl,hi,h20,h30',h50,h280,h290,h300,J4,KO,r7⟩;refine QR (a:=_) [10,8,7] (by
  intro s hs;simp only[QWy,QXi,or_false]at hs;have h1:s≠1100∧s≠15:=by omega
  rw[QZ _ _ _ _ _ _ h1.1 h1.2];exact r7 s (by simp only[QWy,QXi,or_false];omega)) ?_
 intro f fr hf hmm hn;have h2:f 2=.ptr 0 2 0:=by rw[hf,h20]<;>rfl
 have h3:f 3=.ptr 0 3 0:=by rw[hf,h30']<;>rfl
 have h5:f 5=.ptr 0 15 0:=by rw[hf,h50]<;>rfl
 have h28:f 28=.list (v.meths.map Sr):=by rw[hf,h280]<;>rfl
 have h29:f 29=.int .i64 (v.meths.length:Nat):=by rw[hf,h290]<;>rfl
 have h30:f 30=.int .i64 (i:Nat):=by rw[hf,h300]<;>rfl
 have o2:fr 2=.cells [.list (S.msgs.map fun n=>.agg n.cells),.list (S.enums.map fun n=>.agg n.cells),.list (S.servs.map fun n=>.agg n.cells)]:=by rw[hmm 2 (by decide),QZ _ _ _ _ _ _ (by decide) (by decide),J4]<;>rfl
 have o3:fr 3=.cells v.cells:=by rw[hmm 3 (by decide),QZ _ _ _ _ _ _ (by decide) (by decide),KO]<;>rfl
 have o9:fr 15=.cells [.str v.name,.int .i64 n,.vec 0 1100 (1+(l++upto v.meths (J8 S v) i).length) 0 (l++upto v.meths (J8 S v) i).length false]:=by rw[hmm 15 (by decide),JV]<;>rfl
 have oR:fr 1100=.vec (1+(l++upto v.meths (J8 S v) i).length) 3 ((l++upto v.meths (J8 S v) i).map PB.av):=by rw[hmm 1100 (by decide),K9 _ _ _ _ _ _ (by decide)]<;>rfl
 have n7:=hn 7 (by decide);have n8:=hn 8 (by decide);have n10:=hn 10 (by decide);clear hf hmm hn h20 h30' h50 h280 h290 h300 J4 KO r7;simp only[PF,h29,h30,Qa,seval];by_cases hlt:i<v.meths.length
 case neg=>
  have ei:i=v.meths.length:=by omega
  subst ei;simp only[Qu hlt,Qa,seval];rw[←UG o9 oR];exact hq _ _ _ (by exact h3) (by exact h5) o3
 obtain⟨x,hx⟩:∃x,v.meths[i]? = some x:=⟨v.meths[i],QVl hlt⟩;have hg:(v.meths.map Sr)[i]? = some (.agg x.cells):=by rw[QWB,hx];rfl
 rw[KY]at hg;have e1:=Qh i _ hlt (by simp only[maxLen];omega);have hul:=QY (l:=v.meths) (W7 S v) i;have q0:(l++upto v.meths (J8 S v) i).length≤100000000:=by rw[QVU];omega
 simp only[Qs hlt,n7,PH,Qd,QWH,Qb,hg,h28,h30,eE,seval];have hfe:Qn fr 7 (.cells [.str x.name,.str x.inn,.str x.out,.int .i64 x.shape,.list (x.notes.map fun n=>.agg n.cells)])=Qq (Qn fr 7 (.cells [.str x.name,.str x.inn,.str x.out,.int .i64 x.shape,.list (x.notes.map fun n=>.agg n.cells)])) 15 1100 v.name n (l++upto v.meths (J8 S v) i):=(UG (by exact o9) (by exact oR)).symm;rw[hfe];generalize hF:Qn fr 7 (.cells [.str x.name,.str x.inn,.str x.out,.int .i64 x.shape,.list (x.notes.map fun n=>.agg n.cells)])=F;have o2':F 2=.cells [.list (S.msgs.map fun n=>.agg n.cells),.list (S.enums.map fun n=>.agg n.cells),.list (S.servs.map fun n=>.agg n.cells)]:=by rw[←hF];exact(by exact o2)
 have o3':F 3=.cells v.cells:=by rw[←hF];exact(by exact o3)
 have o7':F 7=.cells x.cells:=by rw[←hF,KY];exact(by rfl)
 have n8':F 8=.none:=by rw[←hF];exact(by exact n8)
 have n10':F 10=.none:=by rw[←hF];exact(by exact n10)
 clear hfe hF o2 o3 o9 oR n7 n8 n10;have cs:∀n l,Qq F 15 1100 v.name n l 15=.cells [.str v.name,.int .i64 n,.vec 0 1100 (1+l.length) 0 l.length false]:=fun n l=>JV F 15 1100 v.name n l
 have cn:∀n l n',Qn (Qq F 15 1100 v.name n l) 15 (.cells [.str v.name,.int .i64 n',.vec 0 1100 (1+l.length) 0 l.length false])=Qq F 15 1100 v.name n' l:=fun n l n'=>W4 F 15 1100 v.name n l n'
 simp only[PJ,cs,cn,h5,eE,seval];refine sq8 v i x F o7' _ (by omega) _ ⟨(by exact h2),(by exact h3),(by exact h5),(by rfl),(by rfl),(by exact h28),(by exact h29),(by exact h30)⟩ _ (fun f hf=>?_);have q1:=Qy q0 v.name (i:Int) (Xo x.name) 8;simp only[Qa,seval];refine sq9 hM v hv i x hx F o3' o7' _ (by omega) f hf _ (fun f hf=>?_);have q2:=Qy q1 v.name (i:Int) (DU v.meths i x) 11;clear h2 h3 h5 h28 h29 h30;obtain⟨h2,h3,h5,h6,h7,h28,h29,h30⟩:=hf;have hc1:=Dc S l1 x.inn;have hc2:=Dc S l1 x.out;simp only[Q4,SM.cells,SC.av]at hc1 hc2;have c2:∀n l,Qq F 15 1100 v.name n l 2=F 2:=fun n l=>QZ _ _ _ _ _ _ (by decide) (by decide)
 have c7:∀n l,Qq F 15 1100 v.name n l 7=F 7:=fun n l=>QZ _ _ _ _ _ _ (by decide) (by decide)
 have c8:∀n l,Qq F 15 1100 v.name n l 8=F 8:=fun n l=>QZ _ _ _ _ _ _ (by decide) (by decide)
 have c10:∀n l,Qq F 15 1100 v.name n l 10=F 10:=fun n l=>QZ _ _ _ _ _ _ (by decide) (by decide)
 have o7s:=o7';rw[KY]at o7s;simp only[Vj,c2,c7,o2',o7s,h2,h7,eE,seval];refine aC hc1 ?_;simp only[Vk,c2,c7,c8,o2',o7s,n8',h2,h7,eE,seval];refine aC hc2 ?_;simp only[c10,n10',eE,seval];rw[De (by decide) (by decide),De (by decide) (by decide)];generalize hF2:Qn (Qn F 8 _) 10 _=F2;have o2'':F2 2=F 2:=by rw[←hF2];exact(by rfl)
 have o3'':F2 3=F 3:=by rw[←hF2];exact(by rfl)
 have o7'':F2 7=F 7:=by rw[←hF2];exact(by rfl)
 have r8:(F2 8).isRow=false:=by rw[←hF2];rfl
 have Bb:(F2 10).isRow=false:=by rw[←hF2];rfl
 clear hF2;refine QPT v i F2 _ (by omega) _ ⟨(by exact h2),(by exact h3),(by exact h5),(by exact h6),(by exact h7),(by exact h28),(by exact h29),(by exact h30)⟩ _ (Q2 S x.inn) (Q2 S x.out) (by rfl) (by rfl) (fun f hf=>?_);have q3:=Qy q2 v.name (i:Int) (Q2 S x.inn&&Q2 S x.out) 12;simp only[Qa,seval];refine QPU v i x F2 (by rw[o7'',o7']) _ (by omega) f hf _ (fun f hf=>?_);have q4:=Qy q3 v.name (i:Int) (decide (x.shape≥1)&&decide (x.shape≤4)) 1;simp only[Qa,seval];refine QPV hM v hv i x hx F2 (by rw[o7'',o7']) _ (by omega) f hf _ (fun f hf=>?_);clear h2 h3 h5 h6 h7 h28 h29 h30;obtain⟨h2,h3,h5,h6,h7,h28,h29,h30⟩:=hf;simp only[Vl,h30,e1,Qa,seval];exact⟨v.meths.length-(i+1),by omega,_,F2,(i:Int),i+1,by rw[Zl hx,Ss];simp only[QVC]<;>rfl,rfl,by omega,(by exact h2),(by exact h3),(by exact h5),(by exact h28),(by exact h29),(by rfl),by rw[o2'',o2'],by rw[o3'',o3'],by
  intro s hs;simp only[QWy,QXi,or_false]at hs;rcases hs with rfl|rfl|rfl
  ·rw[o7'',o7'];rfl
  ·exact r8
  ·exact Bb⟩
end

theorem QPW {M:Nat}(hM:M≤1048576)(S:SC)(hS:S.ok M)(v:SQ)(hv:v.ok M):Qj Tryz.prog 137 [S.av,WF v] (.list ((Jz S v).map PB.av)):=by
 have hl1:=hv.len1;have hl2:=hv.len2;have hnl:=hv.name;refine Qg6.fn (by simp) ?_;simp only[Tz,TA,Px,Py,SC.av,WF,KS v,eE,seval];refine Xm rfl rfl rfl rfl ?_;generalize hb:(Qn (Qn Qg 2 _) 3 _:Nat→Ob)=base;have o2:base 2=.cells [.list (S.msgs.map fun n=>.agg n.cells),.list (S.enums.map fun n=>.agg n.cells),.list (S.servs.map fun n=>.agg n.cells)]:=by rw[←hb];exact(by rfl)
 have o3:base 3=.cells v.cells:=by rw[←hb,KS];exact(by rfl)
 have o7:∀s∈[7,8,10],base s=.none:=by
  intro s hs;rw[←hb];simp only[QWy,QXi,or_false]at hs;rcases hs with rfl|rfl|rfl<;>rfl
 clear hb;have c3:∀n l,Qq base 15 1100 v.name n l 3=base 3:=fun n l=>QZ _ _ _ _ _ _ (by decide) (by decide)
 have o3s:=o3;rw[KS]at o3s;rw[Ft base 15 1100 v.name (-1) (by decide)];simp only[Pz,c3,o3s,eE,seval];refine aC (T9 v.name (by omega)) ?_
 try simp only[eE,seval]
 refine Qc (Xh base 15 1100 v.name (-1) [] (by decide) rfl (by simp) (XE v.name) 8 []) (by simp only[QVP,QWe,Qa,seval]<;>rfl) ?_;have q1:=Q3 v.name (-1) (XE v.name) 8;simp only[PA,c3,o3s,QVE,QWE,C7,eE,seval];refine Qc (Xh base 15 1100 v.name (-1) _ (by decide) rfl (by omega) (decide (v.meths.length≤64)) 3 []) (by simp only[QVP,QWe,Qa,seval]<;>rfl) ?_;have q2:=Qy q1 v.name (-1) (decide (v.meths.length≤64)) 3;simp only[PD,c3,o3s,QWE,eE,seval];refine Ac hM S hS v hv _ (by omega) (-1) _ base (by rfl) (by rfl) (by rfl) (by rfl) (by rfl) (by rfl) o2 o3 o7 _ (fun f F n h3 h5 o3=>?_);clear c3 o3s o2 o7;have q3:=QY (l:=v.meths) (W7 S v) v.meths.length;have o3s:=o3;rw[KS]at o3s;have c3:∀n l,Qq F 15 1100 v.name n l 3=F 3:=fun n l=>QZ _ _ _ _ _ _ (by decide) (by decide)
 have cs:∀n l,Qq F 15 1100 v.name n l 15=.cells [.str v.name,.int .i64 n,.vec 0 1100 (1+l.length) 0 l.length false]:=fun n l=>JV F 15 1100 v.name n l
 have cn:∀n l n',Qn (Qq F 15 1100 v.name n l) 15 (.cells [.str v.name,.int .i64 n',.vec 0 1100 (1+l.length) 0 l.length false])=Qq F 15 1100 v.name n' l:=fun n l n'=>W4 F 15 1100 v.name n l n'
 have cR:∀n l,Qq F 15 1100 v.name n l 1100=.vec (1+l.length) 3 (l.map PB.av):=fun n l=>K9 F 15 1100 v.name n l (by decide)
 simp only[Vm,Vn,cs,cn,c3,o3s,h3,h5,eE,seval];generalize hL:pb v.name (-1) (XE v.name) 8++pb v.name (-1) (decide (v.meths.length≤64)) 3++upto v.meths (J8 S v) v.meths.length=L;have q5:L.length≤10000000:=by
  rw[←hL,QVU];omega
 refine Qc (Gx F 15 1100 v.name (-1) L (by decide) rfl (by omega) [] v.notes (by simp only[maxLen];omega) hv.notes 5 (by decide)) (by simp only[QVP,QWe,Qa,seval]<;>rfl) ?_;have hfin:Jz S v=L++XJ v.name (-1) v.notes 5:=by rw[←hL];rfl
 rw[←hfin];have ht:∀l:List PB,List.take l.length (List.map PB.av l)=List.map PB.av l:=fun l=>QVQ (by rw[QWE];exact QVi _)
 simp only[Vo,cs,cR,h5,QWE,QVY,ht,QVH,QVi,QWh,QWn,AV.un,eE,seval]

theorem C8 (a b:List UInt8):Qz .leq a b=some (.bool (!(Op.bytesLess b a))):=by
 rw[←VW a b,QXm];rfl

theorem QPX (L:List (List UInt8))(hl:L.length≤maxLen):Qj Tryz.prog 132 [.list (L.map Qk)] (.bool (XN L Op.bytesLess)):=by
 let I:Nat→St→Prop:=fun k st=>∃f i,st=⟨f,[Qg],[]⟩∧k=L.length-(i+1)∧Xq (Uk L Op.bytesLess) (i+1)=true∧f 0=.list (L.map Qk)∧f 3=.int .i64 ((i+1:Nat):Int)
 refine QgC.fn (by simp) ?_;simp only[Qa,seval];refine Qf I _ ⟨_,0,rfl,rfl,rfl,(by rfl),(by rfl)⟩ ?_;rintro _ st ⟨f,i,rfl,rfl,hx,h0,h3⟩;simp only[QWE,h0,h3,Qa,seval];by_cases hlt:i+1<L.length
 ·obtain⟨x,hi⟩:∃x,L[i]? = some x:=⟨L[i]'(by omega),QVl (by omega)⟩;obtain⟨y,hj⟩:∃y,L[i+1]? = some y:=⟨L[i+1],QVl hlt⟩;have hg:(L.map Qk)[i]? = some (.str x):=by simp[hi,Qk]
  have hh:(L.map Qk)[i+1]? = some (.str y):=by simp[hj,Qk]
  have e1:=Qh (i+1) _ hlt hl;have e2:=KA i _ hlt hl;simp only[Qs hlt,e2,C8,Qd,QWH,Qb,hg,hh,h0,h3,eE,seval];have hs:Xq (Uk L Op.bytesLess) (i+2)=Op.bytesLess x y:=by
   show(Xq (Uk L Op.bytesLess) (i+1)&&Uk L Op.bytesLess (i+1))=_;rw[hx,JL hi hj,QWY]
  cases hp:Op.bytesLess x y
  ·rw[hp]at hs;have hf:XN L Op.bytesLess=false:=by
    rw[QW6];intro h';rw[QU.2 fun k hk=>QU.1 h' k (by omega)]at hs;cases hs
   simp only[hf,QWl,Qa,seval]
  ·rw[hp]at hs;simp only[h3,e1,QWZ,Qa,seval];exact⟨L.length-(i+2),by omega,_,i+1,rfl,rfl,hs,(by exact h0),(by rfl)⟩
 ·have hf:XN L Op.bytesLess=true:=QU.2 fun k hk=>QU.1 hx k (by omega)
  simp only[Qu hlt,hf,Qa,seval]

structure Ls (fr:Nat→Ob)(A B C:List (List UInt8)):Prop where
 mk ::
 row:∃a b c,fr 3=.cells [.vec 0 1100 a 0 A.length false,.vec 0 1101 b 0 B.length false,.vec 0 1102 c 0 C.length false]∧fr 1100=.vec a 1 (A.map Qk)∧fr 1101=.vec b 1 (B.map Qk)∧fr 1102=.vec c 1 (C.map Qk)
 res:fr 2=.cells [.nils,.nils,.nils]

section
variable {M:Nat}(hM:M≤1048576)(S:SC)(hS:S.ok M)
include hM hS in
theorem QPY (A B C:List (List UInt8))(hABC:A.length≤1048576∧B.length≤1048576∧C.length≤1048576)(f:Fr)(fr:Nat→Ob)(h1:f 1=.ptr 0 1 0)(h3:f 3=.ptr 0 3 0)(h2:f 2=.ptr 0 2 0)(hw:f 11=.list (S.msgs.map Q4))(hz:f 12=.int .i64 (S.msgs.length:Nat))(hk:f 13=.int .i64 0)
  (o1:fr 1=.cells [.list (S.msgs.map fun n=>.agg n.cells),.list (S.enums.map fun n=>.agg n.cells),.list (S.servs.map fun n=>.agg n.cells)]) (hL:Ls fr A B C) (r5:∀s∈[5,7,9],(fr s).isRow=false) (Q:Exit→St→Prop)
  (hq:∀(f:Fr) (fr:Nat→Ob) (i:Nat),i=S.msgs.length→f 1=.ptr 0 1 0→f 3=.ptr 0 3 0→f 2=.ptr 0 2 0→fr 1=.cells [.list (S.msgs.map fun n=>.agg n.cells),.list (S.enums.map fun n=>.agg n.cells),.list (S.servs.map fun n=>.agg n.cells)]→Ls fr (A++(S.msgs.take i).map SM.name) B C→(∀s∈[5,7,9],(fr s).isRow=false)→Q (.exit 0) ⟨f,[fr],[]⟩):QJ Tryz.prog (.loop Pi) ⟨f,[fr],[]⟩ Q:=by
 let I:Nat→St→Prop:=fun k st=>∃f fr i,st=⟨f,[fr],[]⟩∧k=S.msgs.length-i∧i≤S.msgs.length∧f 1=.ptr 0 1 0∧f 3=.ptr 0 3 0∧f 2=.ptr 0 2 0∧f 11=.list (S.msgs.map Q4)∧f 12=.int .i64 (S.msgs.length:Nat)∧f 13=.int .i64 (i:Nat)∧
  fr 1=.cells [.list (S.msgs.map fun n=>.agg n.cells),.list (S.enums.map fun n=>.agg n.cells),.list (S.servs.map fun n=>.agg n.cells)]∧Ls fr (A++(S.msgs.take i).map SM.name) B C∧∀s∈[5,7,9],(fr s).isRow=false
 have hl1:=hS.len1;obtain⟨hA,hB,hC⟩:=hABC;refine Qf I _ ⟨f,fr,0,rfl,rfl,QVr _,h1,h3,h2,hw,hz,hk,o1,by simpa using hL,r5⟩ ?_;clear h1 h3 h2 hw hz hk o1 hL r5;rintro _ st ⟨f0,fr0,i,rfl,rfl,hi,h10,h30,h20,hw0,hz0,hk0,XG,hL0,r5⟩;refine QR (a:=_) [5] (by intro s hs;exact r5 s (by simp only[QWy,QXi,or_false]at hs ⊢;omega)) ?_;intro f fr hf hmm hn;have h1:f 1=.ptr 0 1 0:=by rw[hf,h10]<;>rfl
 have h3:f 3=.ptr 0 3 0:=by rw[hf,h30]<;>rfl
 have h2:f 2=.ptr 0 2 0:=by rw[hf,h20]<;>rfl
 have hw:f 11=.list (S.msgs.map Q4):=by rw[hf,hw0]<;>rfl
 have hz:f 12=.int .i64 (S.msgs.length:Nat):=by rw[hf,hz0]<;>rfl
 have hk:f 13=.int .i64 (i:Nat):=by rw[hf,hk0]<;>rfl
 have o1:fr 1=.cells [.list (S.msgs.map fun n=>.agg n.cells),.list (S.enums.map fun n=>.agg n.cells),.list (S.servs.map fun n=>.agg n.cells)]:=by rw[hmm 1 (by decide),XG]<;>rfl
 obtain⟨a,b,c,m30,m00,m10,m20⟩:=hL0.row;have m4:fr 2=.cells [.nils,.nils,.nils]:=by rw[hmm 2 (by decide),hL0.res]<;>rfl
 have m3:fr 3=.cells [.vec 0 1100 a 0 ((A++(S.msgs.take i).map SM.name)).length false,.vec 0 1101 b 0 (B).length false,.vec 0 1102 c 0 (C).length false]:=by rw[hmm 3 (by decide),m30]<;>rfl
 have m0:fr 1100=.vec a 1 (((A++(S.msgs.take i).map SM.name)).map Qk):=by rw[hmm 1100 (by decide),m00]<;>rfl
 have m1:fr 1101=.vec b 1 ((B).map Qk):=by rw[hmm 1101 (by decide),m10]<;>rfl
 have m2:fr 1102=.vec c 1 ((C).map Qk):=by rw[hmm 1102 (by decide),m20]<;>rfl
 have nv:=hn 5 (by decide);have r5':∀s∈[5,7,9],(fr s).isRow=false:=by
  intro s hs;by_cases hsv:s=5
  ·subst hsv;rw[nv];rfl
  ·rw[hmm s (by simp only[QWy,QXi,or_false];exact hsv)];have:=r5 s hs
   revert this
   cases fr0 s<;>intro h<;>first|rfl|exact h
 clear hf hmm hn h10 h30 h20 hw0 hz0 hk0 XG hL0 r5 m30 m00 m10 m20;simp only[hz,hk,Qa,seval];by_cases hlt:i<S.msgs.length
 case neg=>
  simp only[Qu hlt,Qa,seval];exact hq _ _ i (by omega) (by exact h1) (by exact h3) (by exact h2) o1 ⟨⟨a,b,c,m3,m0,m1,m2⟩,m4⟩ r5'
 obtain⟨x,hx⟩:∃x,S.msgs[i]? = some x:=⟨S.msgs[i],QVl hlt⟩;have hg:(S.msgs.map Q4)[i]? = some (.agg x.cells):=by rw[QWB,hx];rfl
 rw[XL]at hg;have e1:=Qh i _ hlt (by simp only[maxLen];omega);have ht:(S.msgs.take i).length≤i:=by rw[QV8];omega
 have hsu:(S.msgs.take (i+1)).map SM.name=(S.msgs.take i).map SM.name++[x.name]:=by rw[QWT,hx,QWU,QWS];rfl
 simp only[Qs hlt,nv,Qd,QWH,Qb,hg,h3,hw,hk,m3,eE,seval];refine ZD (w:=x.name) rfl ?_;refine QI (xs:=(A++(S.msgs.take i).map SM.name).map Qk) (by rfl) (by exact m0) rfl (by simp) (by rfl) rfl (by simp only[QVU,QWE,QVx,QWp,maxLen];omega) (by simp only[QVU,QWE,QVx,QWp];omega) ?_;simp only[h3,hk,m3,e1,Qb,eE,seval];have hs':A++(S.msgs.take (i+1)).map SM.name=(A++(S.msgs.take i).map SM.name)++[x.name]:=by rw[hsu];simp only[QVC]
 have hm':(A++(S.msgs.take (i+1)).map SM.name).map Qk=(A++(S.msgs.take i).map SM.name).map Qk++[.str x.name]:=by rw[hs',QWS];rfl
 have hn':(A++(S.msgs.take (i+1)).map SM.name).length=(A++(S.msgs.take i).map SM.name).length+1:=by rw[hs',QVU];rfl
 refine⟨S.msgs.length-(i+1),by omega,_,_,i+1,rfl,rfl,by omega,(by exact h1),(by exact h3),(by exact h2),(by exact hw),(by exact hz),(by rfl),(by exact o1),⟨⟨_,_,_,(by rw[hn'];rfl),?_,?_,?_⟩,(by exact m4)⟩,?_⟩
 ·first|(rw[hm'];rfl)|exact m0|simp only[m0,eE,seval]
 ·first|(rw[hm'];rfl)|exact m1|simp only[m1,eE,seval]
 ·first|(rw[hm'];rfl)|exact m2|simp only[m2,eE,seval]
 ·intro s hs;simp only[QWy,QXi,or_false]at hs;rcases hs with rfl|rfl|rfl<;>first|rfl|exact r5' _ (by decide)

include hM hS in
theorem QPZ (A B C:List (List UInt8))(hABC:A.length≤1048576∧B.length≤1048576∧C.length≤1048576)(f:Fr)(fr:Nat→Ob)(h1:f 1=.ptr 0 1 0)(h3:f 3=.ptr 0 3 0)(h2:f 2=.ptr 0 2 0)(hw:f 26=.list (S.enums.map X3))(hz:f 27=.int .i64 (S.enums.length:Nat))(hk:f 28=.int .i64 0)
  (o1:fr 1=.cells [.list (S.msgs.map fun n=>.agg n.cells),.list (S.enums.map fun n=>.agg n.cells),.list (S.servs.map fun n=>.agg n.cells)]) (hL:Ls fr A B C) (r5:∀s∈[5,7,9],(fr s).isRow=false) (Q:Exit→St→Prop)
  (hq:∀(f:Fr) (fr:Nat→Ob) (i:Nat),i=S.enums.length→f 1=.ptr 0 1 0→f 3=.ptr 0 3 0→f 2=.ptr 0 2 0→fr 1=.cells [.list (S.msgs.map fun n=>.agg n.cells),.list (S.enums.map fun n=>.agg n.cells),.list (S.servs.map fun n=>.agg n.cells)]→Ls fr A (B++(S.enums.take i).map SE.name) C→(∀s∈[5,7,9],(fr s).isRow=false)→Q (.exit 2) ⟨f,[fr],[]⟩):QJ Tryz.prog (.loop Pj) ⟨f,[fr],[]⟩ Q:=by
 let I:Nat→St→Prop:=fun k st=>∃f fr i,st=⟨f,[fr],[]⟩∧k=S.enums.length-i∧i≤S.enums.length∧f 1=.ptr 0 1 0∧f 3=.ptr 0 3 0∧f 2=.ptr 0 2 0∧f 26=.list (S.enums.map X3)∧f 27=.int .i64 (S.enums.length:Nat)∧f 28=.int .i64 (i:Nat)∧
  fr 1=.cells [.list (S.msgs.map fun n=>.agg n.cells),.list (S.enums.map fun n=>.agg n.cells),.list (S.servs.map fun n=>.agg n.cells)]∧Ls fr A (B++(S.enums.take i).map SE.name) C∧∀s∈[5,7,9],(fr s).isRow=false
 have hl1:=hS.len2;obtain⟨hA,hB,hC⟩:=hABC;refine Qf I _ ⟨f,fr,0,rfl,rfl,QVr _,h1,h3,h2,hw,hz,hk,o1,by simpa using hL,r5⟩ ?_;clear h1 h3 h2 hw hz hk o1 hL r5;rintro _ st ⟨f0,fr0,i,rfl,rfl,hi,h10,h30,h20,hw0,hz0,hk0,XG,hL0,r5⟩;refine QR (a:=_) [7] (by intro s hs;exact r5 s (by simp only[QWy,QXi,or_false]at hs ⊢;omega)) ?_;intro f fr hf hmm hn;have h1:f 1=.ptr 0 1 0:=by rw[hf,h10]<;>rfl
 have h3:f 3=.ptr 0 3 0:=by rw[hf,h30]<;>rfl
 have h2:f 2=.ptr 0 2 0:=by rw[hf,h20]<;>rfl
 have hw:f 26=.list (S.enums.map X3):=by rw[hf,hw0]<;>rfl
 have hz:f 27=.int .i64 (S.enums.length:Nat):=by rw[hf,hz0]<;>rfl
 have hk:f 28=.int .i64 (i:Nat):=by rw[hf,hk0]<;>rfl
 have o1:fr 1=.cells [.list (S.msgs.map fun n=>.agg n.cells),.list (S.enums.map fun n=>.agg n.cells),.list (S.servs.map fun n=>.agg n.cells)]:=by rw[hmm 1 (by decide),XG]<;>rfl
 obtain⟨a,b,c,m30,m00,m10,m20⟩:=hL0.row;have m4:fr 2=.cells [.nils,.nils,.nils]:=by rw[hmm 2 (by decide),hL0.res]<;>rfl
 have m3:fr 3=.cells [.vec 0 1100 a 0 (A).length false,.vec 0 1101 b 0 ((B++(S.enums.take i).map SE.name)).length false,.vec 0 1102 c 0 (C).length false]:=by rw[hmm 3 (by decide),m30]<;>rfl
 have m0:fr 1100=.vec a 1 ((A).map Qk):=by rw[hmm 1100 (by decide),m00]<;>rfl
 have m1:fr 1101=.vec b 1 (((B++(S.enums.take i).map SE.name)).map Qk):=by rw[hmm 1101 (by decide),m10]<;>rfl
 have m2:fr 1102=.vec c 1 ((C).map Qk):=by rw[hmm 1102 (by decide),m20]<;>rfl
 have nv:=hn 7 (by decide);have r5':∀s∈[5,7,9],(fr s).isRow=false:=by
  intro s hs;by_cases hsv:s=7
  ·subst hsv;rw[nv];rfl
  ·rw[hmm s (by simp only[QWy,QXi,or_false];exact hsv)];have:=r5 s hs
   revert this
   cases fr0 s<;>intro h<;>first|rfl|exact h
 clear hf hmm hn h10 h30 h20 hw0 hz0 hk0 XG hL0 r5 m30 m00 m10 m20;simp only[hz,hk,Qa,seval];by_cases hlt:i<S.enums.length
 case neg=>
  simp only[Qu hlt,Qa,seval];exact hq _ _ i (by omega) (by exact h1) (by exact h3) (by exact h2) o1 ⟨⟨a,b,c,m3,m0,m1,m2⟩,m4⟩ r5'
 obtain⟨x,hx⟩:∃x,S.enums[i]? = some x:=⟨S.enums[i],QVl hlt⟩;have hg:(S.enums.map X3)[i]? = some (.agg x.cells):=by rw[QWB,hx];rfl
 rw[X7]at hg;have e1:=Qh i _ hlt (by simp only[maxLen];omega);have ht:(S.enums.take i).length≤i:=by rw[QV8];omega
 have hsu:(S.enums.take (i+1)).map SE.name=(S.enums.take i).map SE.name++[x.name]:=by rw[QWT,hx,QWU,QWS];rfl
 simp only[Qs hlt,nv,Qd,QWH,Qb,hg,h3,hw,hk,m3,eE,seval];refine ZD (w:=x.name) rfl ?_;refine QI (xs:=(B++(S.enums.take i).map SE.name).map Qk) (by rfl) (by exact m1) rfl (by simp) (by rfl) rfl (by simp only[QVU,QWE,QVx,QWp,maxLen];omega) (by simp only[QVU,QWE,QVx,QWp];omega) ?_;simp only[h3,hk,m3,e1,Qb,eE,seval];have hs':B++(S.enums.take (i+1)).map SE.name=(B++(S.enums.take i).map SE.name)++[x.name]:=by rw[hsu];simp only[QVC]
 have hm':(B++(S.enums.take (i+1)).map SE.name).map Qk=(B++(S.enums.take i).map SE.name).map Qk++[.str x.name]:=by rw[hs',QWS];rfl
 have hn':(B++(S.enums.take (i+1)).map SE.name).length=(B++(S.enums.take i).map SE.name).length+1:=by rw[hs',QVU];rfl
 refine⟨S.enums.length-(i+1),by omega,_,_,i+1,rfl,rfl,by omega,(by exact h1),(by exact h3),(by exact h2),(by exact hw),(by exact hz),(by rfl),(by exact o1),⟨⟨_,_,_,(by rw[hn'];rfl),?_,?_,?_⟩,(by exact m4)⟩,?_⟩
 ·first|(rw[hm'];rfl)|exact m0|simp only[m0,eE,seval]
 ·first|(rw[hm'];rfl)|exact m1|simp only[m1,eE,seval]
 ·first|(rw[hm'];rfl)|exact m2|simp only[m2,eE,seval]
 ·intro s hs;simp only[QWy,QXi,or_false]at hs;rcases hs with rfl|rfl|rfl<;>first|rfl|exact r5' _ (by decide)

include hM hS in
theorem QP0 (A B C:List (List UInt8))(hABC:A.length≤1048576∧B.length≤1048576∧C.length≤1048576)(f:Fr)(fr:Nat→Ob)(h1:f 1=.ptr 0 1 0)(h3:f 3=.ptr 0 3 0)(h2:f 2=.ptr 0 2 0)(hw:f 41=.list (S.servs.map WF))(hz:f 42=.int .i64 (S.servs.length:Nat))(hk:f 43=.int .i64 0)
  (o1:fr 1=.cells [.list (S.msgs.map fun n=>.agg n.cells),.list (S.enums.map fun n=>.agg n.cells),.list (S.servs.map fun n=>.agg n.cells)]) (hL:Ls fr A B C) (r5:∀s∈[5,7,9],(fr s).isRow=false) (Q:Exit→St→Prop)
  (hq:∀(f:Fr) (fr:Nat→Ob) (i:Nat),i=S.servs.length→f 1=.ptr 0 1 0→f 3=.ptr 0 3 0→f 2=.ptr 0 2 0→fr 1=.cells [.list (S.msgs.map fun n=>.agg n.cells),.list (S.enums.map fun n=>.agg n.cells),.list (S.servs.map fun n=>.agg n.cells)]→Ls fr A B (C++(S.servs.take i).map SQ.name)→(∀s∈[5,7,9],(fr s).isRow=false)→Q (.exit 4) ⟨f,[fr],[]⟩):QJ Tryz.prog (.loop Pk) ⟨f,[fr],[]⟩ Q:=by
 let I:Nat→St→Prop:=fun k st=>∃f fr i,st=⟨f,[fr],[]⟩∧k=S.servs.length-i∧i≤S.servs.length∧f 1=.ptr 0 1 0∧f 3=.ptr 0 3 0∧f 2=.ptr 0 2 0∧f 41=.list (S.servs.map WF)∧f 42=.int .i64 (S.servs.length:Nat)∧f 43=.int .i64 (i:Nat)∧
  fr 1=.cells [.list (S.msgs.map fun n=>.agg n.cells),.list (S.enums.map fun n=>.agg n.cells),.list (S.servs.map fun n=>.agg n.cells)]∧Ls fr A B (C++(S.servs.take i).map SQ.name)∧∀s∈[5,7,9],(fr s).isRow=false
 have hl1:=hS.len3;obtain⟨hA,hB,hC⟩:=hABC;refine Qf I _ ⟨f,fr,0,rfl,rfl,QVr _,h1,h3,h2,hw,hz,hk,o1,by simpa using hL,r5⟩ ?_;clear h1 h3 h2 hw hz hk o1 hL r5;rintro _ st ⟨f0,fr0,i,rfl,rfl,hi,h10,h30,h20,hw0,hz0,hk0,XG,hL0,r5⟩;refine QR (a:=_) [9] (by intro s hs;exact r5 s (by simp only[QWy,QXi,or_false]at hs ⊢;omega)) ?_;intro f fr hf hmm hn;have h1:f 1=.ptr 0 1 0:=by rw[hf,h10]<;>rfl
 have h3:f 3=.ptr 0 3 0:=by rw[hf,h30]<;>rfl
 have h2:f 2=.ptr 0 2 0:=by rw[hf,h20]<;>rfl
 have hw:f 41=.list (S.servs.map WF):=by rw[hf,hw0]<;>rfl
 have hz:f 42=.int .i64 (S.servs.length:Nat):=by rw[hf,hz0]<;>rfl
 have hk:f 43=.int .i64 (i:Nat):=by rw[hf,hk0]<;>rfl
 have o1:fr 1=.cells [.list (S.msgs.map fun n=>.agg n.cells),.list (S.enums.map fun n=>.agg n.cells),.list (S.servs.map fun n=>.agg n.cells)]:=by rw[hmm 1 (by decide),XG]<;>rfl
 obtain⟨a,b,c,m30,m00,m10,m20⟩:=hL0.row;have m4:fr 2=.cells [.nils,.nils,.nils]:=by rw[hmm 2 (by decide),hL0.res]<;>rfl
 have m3:fr 3=.cells [.vec 0 1100 a 0 (A).length false,.vec 0 1101 b 0 (B).length false,.vec 0 1102 c 0 ((C++(S.servs.take i).map SQ.name)).length false]:=by rw[hmm 3 (by decide),m30]<;>rfl
 have m0:fr 1100=.vec a 1 ((A).map Qk):=by rw[hmm 1100 (by decide),m00]<;>rfl
 have m1:fr 1101=.vec b 1 ((B).map Qk):=by rw[hmm 1101 (by decide),m10]<;>rfl
 have m2:fr 1102=.vec c 1 (((C++(S.servs.take i).map SQ.name)).map Qk):=by rw[hmm 1102 (by decide),m20]<;>rfl
 have nv:=hn 9 (by decide);have r5':∀s∈[5,7,9],(fr s).isRow=false:=by
  intro s hs;by_cases hsv:s=9
  ·subst hsv;rw[nv];rfl
  ·rw[hmm s (by simp only[QWy,QXi,or_false];exact hsv)];have:=r5 s hs
   revert this
   cases fr0 s<;>intro h<;>first|rfl|exact h
 clear hf hmm hn h10 h30 h20 hw0 hz0 hk0 XG hL0 r5 m30 m00 m10 m20;simp only[hz,hk,Qa,seval];by_cases hlt:i<S.servs.length
 case neg=>
  simp only[Qu hlt,Qa,seval];exact hq _ _ i (by omega) (by exact h1) (by exact h3) (by exact h2) o1 ⟨⟨a,b,c,m3,m0,m1,m2⟩,m4⟩ r5'
 obtain⟨x,hx⟩:∃x,S.servs[i]? = some x:=⟨S.servs[i],QVl hlt⟩;have hg:(S.servs.map WF)[i]? = some (.agg x.cells):=by rw[QWB,hx];rfl
 rw[KS]at hg;have e1:=Qh i _ hlt (by simp only[maxLen];omega);have ht:(S.servs.take i).length≤i:=by rw[QV8];omega
 have hsu:(S.servs.take (i+1)).map SQ.name=(S.servs.take i).map SQ.name++[x.name]:=by rw[QWT,hx,QWU,QWS];rfl
 simp only[Qs hlt,nv,Qd,QWH,Qb,hg,h3,hw,hk,m3,eE,seval];refine ZD (w:=x.name) rfl ?_;refine QI (xs:=(C++(S.servs.take i).map SQ.name).map Qk) (by rfl) (by exact m2) rfl (by simp) (by rfl) rfl (by simp only[QVU,QWE,QVx,QWp,maxLen];omega) (by simp only[QVU,QWE,QVx,QWp];omega) ?_;simp only[h3,hk,m3,e1,Qb,eE,seval];have hs':C++(S.servs.take (i+1)).map SQ.name=(C++(S.servs.take i).map SQ.name)++[x.name]:=by rw[hsu];simp only[QVC]
 have hm':(C++(S.servs.take (i+1)).map SQ.name).map Qk=(C++(S.servs.take i).map SQ.name).map Qk++[.str x.name]:=by rw[hs',QWS];rfl
 have hn':(C++(S.servs.take (i+1)).map SQ.name).length=(C++(S.servs.take i).map SQ.name).length+1:=by rw[hs',QVU];rfl
 refine⟨S.servs.length-(i+1),by omega,_,_,i+1,rfl,rfl,by omega,(by exact h1),(by exact h3),(by exact h2),(by exact hw),(by exact hz),(by rfl),(by exact o1),⟨⟨_,_,_,(by rw[hn'];rfl),?_,?_,?_⟩,(by exact m4)⟩,?_⟩
 ·first|(rw[hm'];rfl)|exact m0|simp only[m0,eE,seval]
 ·first|(rw[hm'];rfl)|exact m1|simp only[m1,eE,seval]
 ·first|(rw[hm'];rfl)|exact m2|simp only[m2,eE,seval]
 ·intro s hs;simp only[QWy,QXi,or_false]at hs;rcases hs with rfl|rfl|rfl<;>first|rfl|exact r5' _ (by decide)

include hM hS in
theorem QP1:Qj Tryz.prog 130 [S.av] (.agg [.list ((S.msgs.map SM.name).map Qk),.list ((S.enums.map SE.name).map Qk),.list ((S.servs.map SQ.name).map Qk)]):=by
 have l1:=hS.len1;have l2:=hS.len2;have l3:=hS.len3;refine Qgn.fn (by simp) ?_;simp only[SC.av,eE,seval];refine Xm rfl rfl rfl rfl ?_;refine Xm rfl rfl rfl rfl ?_;refine Xm rfl rfl rfl rfl ?_;simp only[QWE,eE,seval];refine QPY hM S hS [] [] [] ⟨by simp,by simp,by simp⟩ _ _ (by rfl) (by rfl) (by rfl) (by rfl) (by rfl) (by rfl) (by rfl) ⟨⟨1,1,1,rfl,rfl,rfl,rfl⟩,rfl⟩ (by
  intro s hs;simp only[QWy,QXi,or_false]at hs;rcases hs with rfl|rfl|rfl<;>rfl) _ (fun f fr i hi h1 h3 h2 o1 hL r5=>?_)
 subst hi;rw[QVE,QWQ]at hL;simp only[h1,o1,QWE,eE,seval];refine QPZ hM S hS _ [] [] ⟨by rw[QWE];omega,by simp,by simp⟩ _ _ (by exact h1) (by exact h3) (by exact h2) (by rfl) (by rfl) (by rfl) o1 hL r5 _ (fun f fr i hi h1 h3 h2 o1 hL r5=>?_);subst hi;rw[QVE,QWQ]at hL;simp only[h1,o1,QWE,eE,seval];refine QP0 hM S hS _ _ [] ⟨by rw[QWE];omega,by rw[QWE];omega,by simp⟩ _ _ (by exact h1) (by exact h3) (by exact h2) (by rfl) (by rfl) (by rfl) o1 hL r5 _ (fun f fr i hi h1 h3 h2 o1 hL r5=>?_);subst hi;rw[QVE,QWQ]at hL;obtain⟨a,b,c,m3,m0,m1,m2⟩:=hL.row;have ht:∀l:List (List UInt8),List.take l.length (List.map Qk l)=List.map Qk l:=fun l=>QVQ (by rw[QWE];exact QVi _)
 have m4:=hL.res;simp only[h3,h2,m3,m0,m1,m2,m4,QVH,QVi,QWh,QWE,QVY,AV.un,eE,seval];rw[show List.take S.msgs.length (List.map Qk (List.map SM.name S.msgs))=List.map Qk (List.map SM.name S.msgs)from QVQ (by simp),show List.take S.enums.length (List.map Qk (List.map SE.name S.enums))=List.map Qk (List.map SE.name S.enums)from QVQ (by simp),show List.take S.servs.length (List.map Qk (List.map SQ.name S.servs))=List.map Qk (List.map SQ.name S.servs)from QVQ (by simp)]
end

theorem QP2 {k:Nat}(h:k<1):decide ((k:Int)<1)=true:=QXb (by omega)
theorem QP3 {k:Nat}(h:k<2):decide ((k:Int)<2)=true:=QXb (by omega)
def WT (A B C:List (List UInt8)):Nat→List (List UInt8)
 |0=>A
 |1=>B
 |_=>C

section
variable (A B C:List (List UInt8))(hA:A.length≤maxLen)(hB:B.length≤maxLen)(hC:C.length≤maxLen)

theorem QP4 (k:Nat)(hk:k<3)(hl:(WT A B C k).length≤maxLen)(fr:Nat→Ob)(o1:fr 1=.cells [.list (A.map Qk),.list (B.map Qk),.list (C.map Qk)])(o4:fr 4=.cells [.int .i64 (k:Nat)])(n:List UInt8) :
  Qp Tryz.prog 163 [Qk n,.ptr 2 1 0,.ptr 2 4 0] [Qg,Qg,fr] fun y m1=>y=.bool ((WT A B C k).contains n)∧m1=[Qg,Qg,fr]:=by
 have hc:=Aa _ hl n;have hlt:decide ((k:Int)<3)=true:=QXb (by omega);refine QiR.go (by simp) ?_;have hk3:k=0∨k=1∨k=2:=by omega
 rcases hk3 with rfl|rfl|rfl <;>
 ·simp only[Qk,o1,o4,Qb,eE,seval];refine aC hc ?_;simp only[Qa,seval]

def U3 (A B C:List (List UInt8))(i k:Nat):Bool:=(WT A B C i).any fun s=>(WT A B C k).contains s
def Uu (A B C:List (List UInt8)):Bool:=!U3 A B C 1 0 && !U3 A B C 2 0 && !U3 A B C 2 1

include hA hB hC in
theorem Nl (k:Nat):(WT A B C k).length≤maxLen:=by
 unfold WT;split<;>assumption

include hA hB hC in
theorem QJ7 (i:Nat)(hi:i<3)(f:Fr)(fr:Nat→Ob)(h1:f 1=.ptr 0 1 0)(h3:f 3=.int .i64 (i:Nat))(h5:f 5=.int .i64 (i:Nat))(h8:f 8=.int .i64 (i:Nat))(h9:f 9=.int .i64 0)(o1:fr 1=.cells [.list (A.map Qk),.list (B.map Qk),.list (C.map Qk)])(r4:(fr 4).isRow=false)(Q:Exit→St→Prop)
  (hq:∀(f:Fr) (fr:Nat→Ob),(∀k,k<i→U3 A B C i k=false)→f 1=.ptr 0 1 0→f 5=.int .i64 (i:Nat)→fr 1=.cells [.list (A.map Qk),.list (B.map Qk),.list (C.map Qk)]→(fr 4).isRow=false→Q (.exit 2) ⟨f,[fr],[]⟩)
  (hr:∀(f:Fr) (fr:Nat→Ob) (k:Nat),k<i→U3 A B C i k=true→f 2=.bool false→Q .ret ⟨f,[fr],[]⟩):QJ Tryz.prog (.loop Pl) ⟨f,[fr],[]⟩ Q:=by
 let I:Nat→St→Prop:=fun n st=>∃f fr k,st=⟨f,[fr],[]⟩∧n=i-k∧k≤i∧(∀j,j<k→U3 A B C i j=false)∧f 1=.ptr 0 1 0∧f 3=.int .i64 (i:Nat)∧f 5=.int .i64 (i:Nat)∧f 8=.int .i64 (i:Nat)∧f 9=.int .i64 (k:Nat)∧fr 1=.cells [.list (A.map Qk),.list (B.map Qk),.list (C.map Qk)]∧(fr 4).isRow=false
 refine Qf I _ ⟨f,fr,0,rfl,rfl,QVr _,fun j hj=>by omega,h1,h3,h5,h8,h9,o1,r4⟩ ?_;clear h1 h3 h5 h8 h9 o1 r4;rintro _ st ⟨f0,fr0,k,rfl,rfl,hk,hal,h10,h30,h50,h80,h90,XG,r4⟩;refine QR (a:=_) [4] (by intro s hs;simp only[QWy,QXi,or_false]at hs;subst hs;exact r4) ?_;intro f fr hf hmm hn;have h1:f 1=.ptr 0 1 0:=by rw[hf,h10]<;>rfl
 have h3:f 3=.int .i64 (i:Nat):=by rw[hf,h30]<;>rfl
 have h5:f 5=.int .i64 (i:Nat):=by rw[hf,h50]<;>rfl
 have h8:f 8=.int .i64 (i:Nat):=by rw[hf,h80]<;>rfl
 have h9:f 9=.int .i64 (k:Nat):=by rw[hf,h90]<;>rfl
 have o1:fr 1=.cells [.list (A.map Qk),.list (B.map Qk),.list (C.map Qk)]:=by rw[hmm 1 (by decide),XG]<;>rfl
 have n4:=hn 4 (by decide);clear hf hmm hn h10 h30 h50 h80 h90 XG r4;simp only[h8,h9,Qa,seval];by_cases hlt:k<i
 case neg=>
  have e:k=i:=by omega
  subst e;simp only[Qu hlt,Qa,seval];exact hq _ _ hal (by exact h1) (by exact h5) o1 (by rw[n4];rfl)
 have e1:=Qh k _ hlt (by simp only[maxLen];omega);have hcc:∀F:Nat→Ob,F 1=.cells [.list (A.map Qk),.list (B.map Qk),.list (C.map Qk)]→F 4=.cells [.int .i64 (k:Nat)]→Qp Tryz.prog 162 [.list ((WT A B C i).map Qk),.fn (.func 163) [] [.ptr 0 1 0,.ptr 0 4 0]] [F] fun y m1=>y=.bool (U3 A B C i k)∧m1=[F] :=
  fun F g1 g4=>C2 (WT A B C i) (Nl A B C hA hB hC i) (fun s=>(WT A B C k).contains s) 163 [.ptr 0 1 0,.ptr 0 4 0] [F] fun o _=>QP4 A B C k (by omega) (Nl A B C hA hB hC k) F g1 g4 o
 have hi3:i=1∨i=2:=by omega
 rcases hi3 with rfl|rfl <;>
 ·first
   |simp only[QP2 hlt,n4,o1,Qb,h1,h3,h9,eE,seval]
   |simp only[QP3 hlt,n4,o1,Qb,h1,h3,h9,eE,seval]
  refine Qc (hcc _ (by exact o1) (by rfl)) (by simp only[QVP,QWe,h1,WT,Qa,seval]<;>rfl) ?_;cases ha:U3 A B C _ k
  ·simp only[h9,e1,Qa,seval];exact⟨_,by omega,_,_,k+1,rfl,rfl,by omega,fun j hj=>(by rcases QW5.1 hj with h|rfl;exact hal j h;exact ha),(by exact h1),(by exact h3),(by exact h5),(by exact h8),(by rfl),(by exact o1),rfl⟩
  ·simp only[Qa,seval];exact hr _ _ k hlt ha (by rfl)

include hA hB hC in
theorem QP5:Qj Tryz.prog 133 [.agg [.list (A.map Qk),.list (B.map Qk),.list (C.map Qk)]] (.bool (Uu A B C)):=by
 let I:Nat→St→Prop:=fun n st=>∃f fr i,st=⟨f,[fr],[]⟩∧n=3-i∧i≤3∧(∀j,j<i→∀k,k<j→U3 A B C j k=false)∧f 1=.ptr 0 1 0∧f 5=.int .i64 (i:Nat)∧fr 1=.cells [.list (A.map Qk),.list (B.map Qk),.list (C.map Qk)]∧(fr 4).isRow=false
 refine QgQ.fn (by simp) ?_;simp only[eE,seval];refine Qf I _ ⟨_,_,0,rfl,rfl,by omega,fun j hj=>by omega,(by rfl),(by rfl),(by rfl),rfl⟩ ?_;rintro _ st ⟨f0,fr0,i,rfl,rfl,hi,hal,h10,h50,XG,r4⟩;refine QR (a:=_) [4] (by intro s hs;simp only[QWy,QXi,or_false]at hs;subst hs;exact r4) ?_;intro f fr hf hmm hn;have h1:f 1=.ptr 0 1 0:=by rw[hf,h10]<;>rfl
 have h5:f 5=.int .i64 (i:Nat):=by rw[hf,h50]<;>rfl
 have o1:fr 1=.cells [.list (A.map Qk),.list (B.map Qk),.list (C.map Qk)]:=by rw[hmm 1 (by decide),XG]<;>rfl
 have n4:=hn 4 (by decide);clear hf hmm hn h10 h50 XG r4;simp only[h5,Qa,seval];by_cases hlt:i<3
 case neg=>
  have e:i=3:=by omega
  subst e;have d:decide (((3:Nat):Int)<3)=false:=rfl;have hap:Uu A B C=true:=by
   unfold Uu;rw[hal 1 (by omega) 0 (by omega),hal 2 (by omega) 0 (by omega),hal 2 (by omega) 1 (by omega)];rfl
  simp only[hap,Qa,seval]
 have d:decide ((i:Int)<3)=true:=QXb (by omega);have e1:=Qh i 3 hlt (by simp only[maxLen];omega);simp only[d,h5,Qa,seval];refine QJ7 A B C hA hB hC i hlt _ _ (by exact h1) (by rfl) (by exact h5) (by rfl) (by rfl) o1 (by rw[n4];rfl) _ (fun f fr hk h1 h5 o1 r4=>?_) (fun f fr k hk ha h2=>?_)
 ·simp only[h5,e1,Qa,seval];exact⟨3-(i+1),by omega,_,_,i+1,rfl,rfl,by omega,fun j hj=>(by rcases QW5.1 hj with h|rfl;exact hal j h;exact hk),(by exact h1),(by rfl),o1,r4⟩
 ·have hap:Uu A B C=false:=by
   unfold Uu;have h3:(i=1∧k=0)∨(i=2∧k=0)∨(i=2∧k=1):=by omega
   rcases h3 with⟨rfl,rfl⟩|⟨rfl,rfl⟩|⟨rfl,rfl⟩<;>rw[ha]<;>simp
  simp only[h2,hap,Qa,seval]
end

theorem Su (S:SC):Uu (S.msgs.map SM.name) (S.enums.map SE.name) (S.servs.map SQ.name)=JY S:=by
 have key:∀ {α β:Type} (l:List α) (r:List β) (f:α→List UInt8) (g:β→List UInt8),((l.map f).any fun s=>(r.map g).contains s)=l.any fun x=>r.any fun y=>g y==f x:=by
  intro α β l r f g;rw[List.any_map];congr 1
  funext x;show(r.map g).contains (f x)=_;rw[←VV,List.any_map];rfl
 unfold Uu JY U3;show(!((S.enums.map SE.name).any fun s=>(S.msgs.map SM.name).contains s) && !((S.servs.map SQ.name).any fun s=>(S.msgs.map SM.name).contains s) && !((S.servs.map SQ.name).any fun s=>(S.enums.map SE.name).contains s))=_;rw[key,key,key]

theorem UH {M:Nat}(hM:M≤1048576)(S:SC)(cy:SM→Bool)(m:SM)(hm:m.ok M):(Jn S cy m).length≤14000000:=by
 have h1:=hm.len1;have h2:=hm.len2;have h3:=hm.len3;have a:=Q3 m.name (-1) (XE m.name) 8;have b:=Q3 m.name (-1) (decide (m.fields.length≤64)&&decide (m.free.length≤16)&&decide (m.gone.length≤16)) 3;have c:=QY (l:=m.fields) (W5 S m) m.fields.length;have d:=QY (l:=m.free) (Ka m.name 1 65535 m.free) m.free.length;have e:=QY (l:=m.gone) (g:=fun _ g=>pb m.name (-1) (Ji g) 7) (c:=1) (fun _ g=>Q3 ..) m.gone.length;have f:=Q3 m.name (-1) (X6 m.notes 1==0) (X6 m.notes 1);have g:=Q3 m.name (-1) (!cy m) 19;unfold Jn XJ;simp only[QVU];omega
theorem UI {M:Nat}(hM:M≤1048576)(e:SE)(he:e.ok M):(Jj e).length≤14000000:=by
 have h1:=he.len1;have h2:=he.len2;have a:=Q3 e.name (-1) (XE e.name) 8;have b:=Q3 e.name (-1) (decide (e.items.length≥1)&&decide (e.items.length≤64)&&decide (e.free.length≤16)) 3;have b2:=Q3 e.name (-1) (ZU e) 14;have c:=QY (l:=e.items) (W6 e) e.items.length;have d:=QY (l:=e.free) (Ka e.name 0 2147483647 e.free) e.free.length;have f:=Q3 e.name (-1) (X6 e.notes 3==0) (X6 e.notes 3);unfold Jj XJ;simp only[QVU];omega
theorem VX {M:Nat}(hM:M≤1048576)(S:SC)(v:SQ)(hv:v.ok M):(Jz S v).length≤14000000:=by
 have h1:=hv.len1;have a:=Q3 v.name (-1) (XE v.name) 8;have b:=Q3 v.name (-1) (decide (v.meths.length≤64)) 3;have c:=QY (l:=v.meths) (W7 S v) v.meths.length;have f:=Q3 v.name (-1) (X6 v.notes 5==0) (X6 v.notes 5);unfold Jz XJ;simp only[QVU];omega
theorem Df (l:List PB):(l.map PB.av).all (fun e=>e.cells.length==3)=true:=by
 rw[QVv];intro x hx;obtain⟨y,_,rfl⟩:=QWz.1 hx;rfl

theorem ZW (l:List (List UInt8)):(Jp l).length≤2:=by
 have a:=Q3 [] (-1) (decide (l.length≤64)) 3;have b:=Q3 [] (-1) (XN l Op.bytesLess) 11;unfold Jp;rw[QVU];omega
def JQ (A B C:List (List UInt8)):Nat→List PB
 |0=>[]
 |1=>Jp A
 |2=>Jp A++Jp B
 |_=>Jp A++Jp B++Jp C

section
variable (A B C:List (List UInt8))(hA:A.length≤1048576)(hB:B.length≤1048576)(hC:C.length≤1048576)(base:Nat→Ob)
def AF (f:Fr):Prop:=f 1=.ptr 0 1 0∧f 3=.ptr 0 15 0∧f 4=.ptr 0 4 0

include hA hB hC in
theorem QP6 (f:Fr)(hf:AF f)(h18:f 18=.agg [.list (A.map Qk),.list (B.map Qk),.list (C.map Qk)])(h19:f 19=.int .i64 0)(Q:Exit→St→Prop)
  (hq:∀f,AF f→Q (.exit 0) ⟨f,[Qq base 15 1100 [] (-1) (JQ A B C 3)],[]⟩):QJ Tryz.prog (.loop CI) ⟨f,[Qq base 15 1100 [] (-1) []],[]⟩ Q:=by
 let I:Nat→St→Prop:=fun n st=>∃f i,st=⟨f,[Qq base 15 1100 [] (-1) (JQ A B C i)],[]⟩∧n=3-i∧i≤3∧AF f∧f 18=.agg [.list (A.map Qk),.list (B.map Qk),.list (C.map Qk)]∧f 19=.int .i64 (i:Nat)
 refine Qf I _ ⟨f,0,rfl,rfl,by omega,hf,h18,h19⟩ ?_;clear hf h18 h19;rintro _ st ⟨f,i,rfl,rfl,hi,⟨h1,h3,h4⟩,h18,h19⟩;simp only[CI,A9,h19,Qa,seval];by_cases hlt:i<3
 case neg=>
  have e:i=3:=by omega
  subst e;have d:decide (((3:Nat):Int)<3)=false:=rfl;simp only[Qa,seval];exact hq _ ⟨(by exact h1),(by exact h3),(by exact h4)⟩
 have d:decide ((i:Int)<3)=true:=QXb (by omega);have e1:=Qh i 3 hlt (by simp only[maxLen];omega);have key:∀(L:List (List UInt8)) (hL:L.length≤1048576) (p:List PB) (hp:p.length≤100) (hs:JQ A B C (i+1)=p++Jp L) (f:Fr) (h1:f 1=.ptr 0 1 0) (h3:f 3=.ptr 0 15 0) (h4:f 4=.ptr 0 4 0) (h18:f 18=.agg [.list (A.map Qk),.list (B.map Qk),.list (C.map Qk)]) (h19:f 19=.int .i64 (i:Nat)) (h6:f 6=.list (L.map Qk)),
   Ql Tryz.prog CF ⟨f,[Qq base 15 1100 [] (-1) p],[]⟩ (Kc Tryz.prog (.reg CG) (Kb 1 (Kc Tryz.prog (.reg CH) (Kl I (3-i) Q))) Exit.normal):=by
  intro L hL p hp hs f h1 h3 h4 h18 h19 h6;simp only[CF,h3,h6,QWE,C7,Qa,seval];refine Qc (Xh base 15 1100 [] (-1) p (by decide) rfl (by omega) (decide (L.length≤64)) 3 []) (by simp only[QVP,QWe,Qa,seval]<;>rfl) ?_;simp only[CG,h3,h6,Qa,seval];refine aC (QPX L (by simp only[maxLen];omega)) ?_
  try simp only[eE,seval]
  have q1:=Qy hp [] (-1) (decide (L.length≤64)) 3;refine Qc (Xh base 15 1100 [] (-1) _ (by decide) rfl (by omega) (XN L Op.bytesLess) 11 []) (by simp only[QVP,QWe,Qa,seval]<;>rfl) ?_;simp only[CH,h19,e1,Qa,seval];exact⟨3-(i+1),by omega,_,i+1,by rw[hs,Jp,QVC],rfl,by omega,⟨(by exact h1),(by exact h3),(by exact h4)⟩,(by exact h18),(by rfl)⟩
 rcases(show i=0∨i=1∨i=2 by omega)with rfl|rfl|rfl
 ·simp only[Fe,h18,h19,Qa,seval];refine key A hA [] (by simp) rfl _ (by exact h1) (by exact h3) (by exact h4) (by exact h18) (by exact h19) (by rfl)
 ·simp only[Fe,h18,h19,Qa,seval];refine key B hB (Jp A) (by have:=ZW A;omega) rfl _ (by exact h1) (by exact h3) (by exact h4) (by exact h18) (by exact h19) (by rfl)
 ·simp only[Fe,h18,h19,Qa,seval];refine key C hC (Jp A++Jp B) (by have:=ZW A;have:=ZW B;simp only[QVU];omega) rfl _ (by exact h1) (by exact h3) (by exact h4) (by exact h18) (by exact h19) (by rfl)
end

theorem Zn {α β:Type}{l:List α}{g:α→List β}{i:Nat}{x:α}(h:l[i]? = some x):(l.take (i+1)).flatMap g=(l.take i).flatMap g++g x:=by
 rw[QWT,h,QWU,QXn,QWK,List.flatMap_nil,QWg]
theorem Jq {α β:Type}{l:List α}{g:α→List β}{c:Nat}(h:∀x∈l,(g x).length≤c):∀n,((l.take n).flatMap g).length≤c*n
 |0=>by simp
 |n+1=>by
  have ih:=Jq h n;rw[Nat.mul_add];cases hx:l[n]? with
  |none=>
   rw[QWT,hx,Option.toList_none,QWg];omega
  |some x=>
   have:=h x (QVw hx);rw[Zn hx,QVU];omega
def AR (fr:Nat→Ob)(L:List PB):Prop:=∃g,fr 15=.cells [.str [],.int .i64 (-1),.vec 0 1100 g 0 L.length false]∧fr 1100=.vec g 3 (L.map PB.av)

section
variable {M:Nat}(hM:M≤1048576)(S:SC)(hS:S.ok M)(X:List (List UInt8))
include hM hS in
theorem QP7 (l:List PB)(hl:l.length≤1000000000)(h8:S.msgs.length≤8)(f:Fr)(fr:Nat→Ob)(h1:f 1=.ptr 0 1 0)(h3:f 3=.ptr 0 15 0)(h7:f 7=.mp X (Xr X))(hw:f 39=.list (S.msgs.map Q4))(hz:f 40=.int .i64 (S.msgs.length:Nat))(hk:f 41=.int .i64 0)
  (o1:fr 1=.cells [.list (S.msgs.map fun n=>.agg n.cells),.list (S.enums.map fun n=>.agg n.cells),.list (S.servs.map fun n=>.agg n.cells)]) (hA:AR fr l) (rv:∀s∈[9,11,13],(fr s).isRow=false) (Q:Exit→St→Prop)
  (hq:∀(f:Fr) (fr:Nat→Ob),f 1=.ptr 0 1 0→f 3=.ptr 0 15 0→f 7=.mp X (Xr X)→fr 1=.cells [.list (S.msgs.map fun n=>.agg n.cells),.list (S.enums.map fun n=>.agg n.cells),.list (S.servs.map fun n=>.agg n.cells)]→AR fr (l++S.msgs.flatMap (Jn S (fun m=>(Ze m).any fun n=>Q2 S n && !X.contains n)))→(∀s∈[9,11,13],(fr s).isRow=false)→Q (.exit 2) ⟨f,[fr],[]⟩):QJ Tryz.prog (.loop Eb) ⟨f,[fr],[]⟩ Q:=by
 let I:Nat→St→Prop:=fun n st=>∃f fr i,st=⟨f,[fr],[]⟩∧n=S.msgs.length-i∧i≤S.msgs.length∧f 1=.ptr 0 1 0∧f 3=.ptr 0 15 0∧f 7=.mp X (Xr X)∧f 39=.list (S.msgs.map Q4)∧f 40=.int .i64 (S.msgs.length:Nat)∧f 41=.int .i64 (i:Nat)∧
  fr 1=.cells [.list (S.msgs.map fun n=>.agg n.cells),.list (S.enums.map fun n=>.agg n.cells),.list (S.servs.map fun n=>.agg n.cells)]∧AR fr (l++(S.msgs.take i).flatMap (Jn S (fun m=>(Ze m).any fun n=>Q2 S n && !X.contains n)))∧∀s∈[9,11,13],(fr s).isRow=false
 have hg:∀x∈S.msgs,((Jn S (fun m=>(Ze m).any fun n=>Q2 S n && !X.contains n)) x).length≤14000000:=fun x hx=>UH hM S _ x (hS.msgs x hx)
 refine Qf I _ ⟨f,fr,0,rfl,rfl,QVr _,h1,h3,h7,hw,hz,hk,o1,by simpa using hA,rv⟩ ?_;clear h1 h3 h7 hw hz hk o1 hA rv;rintro _ st ⟨f0,fr0,i,rfl,rfl,hi,h10,h30,h70,hw0,hz0,hk0,XG,⟨g,m15,mR⟩,rv⟩;refine QR (a:=_) [9] (by intro s hs;simp only[QWy,QXi,or_false]at hs;subst hs;exact rv _ (by decide)) ?_;intro f fr hf hmm hn;have h1:f 1=.ptr 0 1 0:=by rw[hf,h10]<;>rfl
 have h3:f 3=.ptr 0 15 0:=by rw[hf,h30]<;>rfl
 have h7:f 7=.mp X (Xr X):=by rw[hf,h70]<;>rfl
 have hw:f 39=.list (S.msgs.map Q4):=by rw[hf,hw0]<;>rfl
 have hz:f 40=.int .i64 (S.msgs.length:Nat):=by rw[hf,hz0]<;>rfl
 have hk:f 41=.int .i64 (i:Nat):=by rw[hf,hk0]<;>rfl
 have o1:fr 1=.cells [.list (S.msgs.map fun n=>.agg n.cells),.list (S.enums.map fun n=>.agg n.cells),.list (S.servs.map fun n=>.agg n.cells)]:=by rw[hmm 1 (by decide),XG]<;>rfl
 have oS:fr 15=.cells [.str [],.int .i64 (-1),.vec 0 1100 g 0 (l++(S.msgs.take i).flatMap (Jn S (fun m=>(Ze m).any fun n=>Q2 S n && !X.contains n))).length false]:=by rw[hmm 15 (by decide),m15]<;>rfl
 have oR:fr 1100=.vec g 3 ((l++(S.msgs.take i).flatMap (Jn S (fun m=>(Ze m).any fun n=>Q2 S n && !X.contains n))).map PB.av):=by rw[hmm 1100 (by decide),mR]<;>rfl
 have nv:=hn 9 (by decide);have rv':∀s∈[9,11,13],(fr s).isRow=false:=by
  intro s hs;by_cases hsv:s=9
  ·subst hsv;rw[nv];rfl
  ·rw[hmm s (by simp only[QWy,QXi,or_false];exact hsv)];have:=rv s hs
   revert this
   cases fr0 s<;>intro h<;>first|rfl|exact h
 clear hf hmm hn h10 h30 h70 hw0 hz0 hk0 XG m15 mR rv;simp only[M2,M3,M4,M5,hz,hk,Qa,seval];by_cases hlt:i<S.msgs.length
 case neg=>
  have e:i=S.msgs.length:=by omega
  subst e;simp only[Qu hlt,Qa,seval];rw[QWQ]at oS oR;exact hq _ _ (by exact h1) (by exact h3) (by exact h7) o1 ⟨g,oS,oR⟩ rv'
 obtain⟨x,hx⟩:∃x,S.msgs[i]? = some x:=⟨S.msgs[i],QVl hlt⟩;have hm:=QVw hx;have hgx:(S.msgs.map Q4)[i]? = some (.agg x.cells):=by rw[QWB,hx];rfl
 rw[XL]at hgx;have e1:=Qh i _ hlt (by simp only[maxLen];omega);have q1:=Jq hg i;have q2:=hg x hm;have hc:=QPM hM S hS x (hS.msgs x hm) X;simp only[Q4,XL,SC.av]at hc;simp only[Qs hlt,nv,Qd,QWH,Qb,hgx,h1,h3,h7,hw,hk,o1,oS,eE,seval];refine aC hc ?_;refine QI (xs:=(l++(S.msgs.take i).flatMap (Jn S (fun m=>(Ze m).any fun n=>Q2 S n && !X.contains n))).map PB.av) (by rfl) (by exact oR) rfl (by simp) (by rfl) (Df _) (by simp only[QVU,QWE,maxLen];omega) (by simp only[QVU,QWE];omega) ?_;simp only[hk,oS,e1,eE,seval];refine⟨S.msgs.length-(i+1),by omega,_,_,i+1,rfl,rfl,by omega,(by exact h1),(by exact h3),(by exact h7),(by exact hw),(by exact hz),(by rfl),(by exact o1),⟨g+1,?_,?_⟩,?_⟩
 ·rw[Zn hx,←QVC];simp only[QVU,QWE,Qa,seval]
 ·rw[Zn hx,←QVC];simp only[QWS,Qa,seval]
 ·intro s hs;simp only[QWy,QXi,or_false]at hs;rcases hs with rfl|rfl|rfl<;>first|rfl|exact rv' _ (by decide)

include hM hS in
theorem QP8 (l:List PB)(hl:l.length≤1000000000)(h8:S.enums.length≤8)(f:Fr)(fr:Nat→Ob)(h1:f 1=.ptr 0 1 0)(h3:f 3=.ptr 0 15 0)(h7:f 7=.mp X (Xr X))(hw:f 59=.list (S.enums.map X3))(hz:f 60=.int .i64 (S.enums.length:Nat))(hk:f 61=.int .i64 0)
  (o1:fr 1=.cells [.list (S.msgs.map fun n=>.agg n.cells),.list (S.enums.map fun n=>.agg n.cells),.list (S.servs.map fun n=>.agg n.cells)]) (hA:AR fr l) (rv:∀s∈[9,11,13],(fr s).isRow=false) (Q:Exit→St→Prop)
  (hq:∀(f:Fr) (fr:Nat→Ob),f 1=.ptr 0 1 0→f 3=.ptr 0 15 0→f 7=.mp X (Xr X)→fr 1=.cells [.list (S.msgs.map fun n=>.agg n.cells),.list (S.enums.map fun n=>.agg n.cells),.list (S.servs.map fun n=>.agg n.cells)]→AR fr (l++S.enums.flatMap (Jj))→(∀s∈[9,11,13],(fr s).isRow=false)→Q (.exit 4) ⟨f,[fr],[]⟩):QJ Tryz.prog (.loop Ec) ⟨f,[fr],[]⟩ Q:=by
 let I:Nat→St→Prop:=fun n st=>∃f fr i,st=⟨f,[fr],[]⟩∧n=S.enums.length-i∧i≤S.enums.length∧f 1=.ptr 0 1 0∧f 3=.ptr 0 15 0∧f 7=.mp X (Xr X)∧f 59=.list (S.enums.map X3)∧f 60=.int .i64 (S.enums.length:Nat)∧f 61=.int .i64 (i:Nat)∧
  fr 1=.cells [.list (S.msgs.map fun n=>.agg n.cells),.list (S.enums.map fun n=>.agg n.cells),.list (S.servs.map fun n=>.agg n.cells)]∧AR fr (l++(S.enums.take i).flatMap (Jj))∧∀s∈[9,11,13],(fr s).isRow=false
 have hg:∀x∈S.enums,((Jj) x).length≤14000000:=fun x hx=>UI hM x (hS.enums x hx)
 refine Qf I _ ⟨f,fr,0,rfl,rfl,QVr _,h1,h3,h7,hw,hz,hk,o1,by simpa using hA,rv⟩ ?_;clear h1 h3 h7 hw hz hk o1 hA rv;rintro _ st ⟨f0,fr0,i,rfl,rfl,hi,h10,h30,h70,hw0,hz0,hk0,XG,⟨g,m15,mR⟩,rv⟩;refine QR (a:=_) [11] (by intro s hs;simp only[QWy,QXi,or_false]at hs;subst hs;exact rv _ (by decide)) ?_;intro f fr hf hmm hn;have h1:f 1=.ptr 0 1 0:=by rw[hf,h10]<;>rfl
 have h3:f 3=.ptr 0 15 0:=by rw[hf,h30]<;>rfl
 have h7:f 7=.mp X (Xr X):=by rw[hf,h70]<;>rfl
 have hw:f 59=.list (S.enums.map X3):=by rw[hf,hw0]<;>rfl
 have hz:f 60=.int .i64 (S.enums.length:Nat):=by rw[hf,hz0]<;>rfl
 have hk:f 61=.int .i64 (i:Nat):=by rw[hf,hk0]<;>rfl
 have o1:fr 1=.cells [.list (S.msgs.map fun n=>.agg n.cells),.list (S.enums.map fun n=>.agg n.cells),.list (S.servs.map fun n=>.agg n.cells)]:=by rw[hmm 1 (by decide),XG]<;>rfl
 have oS:fr 15=.cells [.str [],.int .i64 (-1),.vec 0 1100 g 0 (l++(S.enums.take i).flatMap (Jj)).length false]:=by rw[hmm 15 (by decide),m15]<;>rfl
 have oR:fr 1100=.vec g 3 ((l++(S.enums.take i).flatMap (Jj)).map PB.av):=by rw[hmm 1100 (by decide),mR]<;>rfl
 have nv:=hn 11 (by decide);have rv':∀s∈[9,11,13],(fr s).isRow=false:=by
  intro s hs;by_cases hsv:s=11
  ·subst hsv;rw[nv];rfl
  ·rw[hmm s (by simp only[QWy,QXi,or_false];exact hsv)];have:=rv s hs
   revert this
   cases fr0 s<;>intro h<;>first|rfl|exact h
 clear hf hmm hn h10 h30 h70 hw0 hz0 hk0 XG m15 mR rv;simp only[M7,M8,M9,Pa,hz,hk,Qa,seval];by_cases hlt:i<S.enums.length
 case neg=>
  have e:i=S.enums.length:=by omega
  subst e;simp only[Qu hlt,Qa,seval];rw[QWQ]at oS oR;exact hq _ _ (by exact h1) (by exact h3) (by exact h7) o1 ⟨g,oS,oR⟩ rv'
 obtain⟨x,hx⟩:∃x,S.enums[i]? = some x:=⟨S.enums[i],QVl hlt⟩;have hm:=QVw hx;have hgx:(S.enums.map X3)[i]? = some (.agg x.cells):=by rw[QWB,hx];rfl
 rw[X7]at hgx;have e1:=Qh i _ hlt (by simp only[maxLen];omega);have q1:=Jq hg i;have q2:=hg x hm;have hc:=QPS hM x (hS.enums x hm);simp only[X3,X7]at hc;simp only[Qs hlt,nv,Qd,QWH,Qb,hgx,h3,hw,hk,oS,eE,seval];refine aC hc ?_;refine QI (xs:=(l++(S.enums.take i).flatMap (Jj)).map PB.av) (by rfl) (by exact oR) rfl (by simp) (by rfl) (Df _) (by simp only[QVU,QWE,maxLen];omega) (by simp only[QVU,QWE];omega) ?_;simp only[hk,oS,e1,eE,seval];refine⟨S.enums.length-(i+1),by omega,_,_,i+1,rfl,rfl,by omega,(by exact h1),(by exact h3),(by exact h7),(by exact hw),(by exact hz),(by rfl),(by exact o1),⟨g+1,?_,?_⟩,?_⟩
 ·rw[Zn hx,←QVC];simp only[QVU,QWE,Qa,seval]
 ·rw[Zn hx,←QVC];simp only[QWS,Qa,seval]
 ·intro s hs;simp only[QWy,QXi,or_false]at hs;rcases hs with rfl|rfl|rfl<;>first|rfl|exact rv' _ (by decide)

include hM hS in
theorem QP9 (l:List PB)(hl:l.length≤1000000000)(h8:S.servs.length≤8)(f:Fr)(fr:Nat→Ob)(h1:f 1=.ptr 0 1 0)(h3:f 3=.ptr 0 15 0)(h7:f 7=.mp X (Xr X))(hw:f 77=.list (S.servs.map WF))(hz:f 78=.int .i64 (S.servs.length:Nat))(hk:f 79=.int .i64 0)
  (o1:fr 1=.cells [.list (S.msgs.map fun n=>.agg n.cells),.list (S.enums.map fun n=>.agg n.cells),.list (S.servs.map fun n=>.agg n.cells)]) (hA:AR fr l) (rv:∀s∈[9,11,13],(fr s).isRow=false) (Q:Exit→St→Prop)
  (hq:∀(f:Fr) (fr:Nat→Ob),f 1=.ptr 0 1 0→f 3=.ptr 0 15 0→f 7=.mp X (Xr X)→fr 1=.cells [.list (S.msgs.map fun n=>.agg n.cells),.list (S.enums.map fun n=>.agg n.cells),.list (S.servs.map fun n=>.agg n.cells)]→AR fr (l++S.servs.flatMap (Jz S))→(∀s∈[9,11,13],(fr s).isRow=false)→Q (.exit 6) ⟨f,[fr],[]⟩):QJ Tryz.prog (.loop Ed) ⟨f,[fr],[]⟩ Q:=by
 let I:Nat→St→Prop:=fun n st=>∃f fr i,st=⟨f,[fr],[]⟩∧n=S.servs.length-i∧i≤S.servs.length∧f 1=.ptr 0 1 0∧f 3=.ptr 0 15 0∧f 7=.mp X (Xr X)∧f 77=.list (S.servs.map WF)∧f 78=.int .i64 (S.servs.length:Nat)∧f 79=.int .i64 (i:Nat)∧
  fr 1=.cells [.list (S.msgs.map fun n=>.agg n.cells),.list (S.enums.map fun n=>.agg n.cells),.list (S.servs.map fun n=>.agg n.cells)]∧AR fr (l++(S.servs.take i).flatMap (Jz S))∧∀s∈[9,11,13],(fr s).isRow=false
 have hg:∀x∈S.servs,((Jz S) x).length≤14000000:=fun x hx=>VX hM S x (hS.servs x hx)
 refine Qf I _ ⟨f,fr,0,rfl,rfl,QVr _,h1,h3,h7,hw,hz,hk,o1,by simpa using hA,rv⟩ ?_;clear h1 h3 h7 hw hz hk o1 hA rv;rintro _ st ⟨f0,fr0,i,rfl,rfl,hi,h10,h30,h70,hw0,hz0,hk0,XG,⟨g,m15,mR⟩,rv⟩;refine QR (a:=_) [13] (by intro s hs;simp only[QWy,QXi,or_false]at hs;subst hs;exact rv _ (by decide)) ?_;intro f fr hf hmm hn;have h1:f 1=.ptr 0 1 0:=by rw[hf,h10]<;>rfl
 have h3:f 3=.ptr 0 15 0:=by rw[hf,h30]<;>rfl
 have h7:f 7=.mp X (Xr X):=by rw[hf,h70]<;>rfl
 have hw:f 77=.list (S.servs.map WF):=by rw[hf,hw0]<;>rfl
 have hz:f 78=.int .i64 (S.servs.length:Nat):=by rw[hf,hz0]<;>rfl
 have hk:f 79=.int .i64 (i:Nat):=by rw[hf,hk0]<;>rfl
 have o1:fr 1=.cells [.list (S.msgs.map fun n=>.agg n.cells),.list (S.enums.map fun n=>.agg n.cells),.list (S.servs.map fun n=>.agg n.cells)]:=by rw[hmm 1 (by decide),XG]<;>rfl
 have oS:fr 15=.cells [.str [],.int .i64 (-1),.vec 0 1100 g 0 (l++(S.servs.take i).flatMap (Jz S)).length false]:=by rw[hmm 15 (by decide),m15]<;>rfl
 have oR:fr 1100=.vec g 3 ((l++(S.servs.take i).flatMap (Jz S)).map PB.av):=by rw[hmm 1100 (by decide),mR]<;>rfl
 have nv:=hn 13 (by decide);have rv':∀s∈[9,11,13],(fr s).isRow=false:=by
  intro s hs;by_cases hsv:s=13
  ·subst hsv;rw[nv];rfl
  ·rw[hmm s (by simp only[QWy,QXi,or_false];exact hsv)];have:=rv s hs
   revert this
   cases fr0 s<;>intro h<;>first|rfl|exact h
 clear hf hmm hn h10 h30 h70 hw0 hz0 hk0 XG m15 mR rv;simp only[Pd,Pe,Pf,Pg,hz,hk,Qa,seval];by_cases hlt:i<S.servs.length
 case neg=>
  have e:i=S.servs.length:=by omega
  subst e;simp only[Qu hlt,Qa,seval];rw[QWQ]at oS oR;exact hq _ _ (by exact h1) (by exact h3) (by exact h7) o1 ⟨g,oS,oR⟩ rv'
 obtain⟨x,hx⟩:∃x,S.servs[i]? = some x:=⟨S.servs[i],QVl hlt⟩;have hm:=QVw hx;have hgx:(S.servs.map WF)[i]? = some (.agg x.cells):=by rw[QWB,hx];rfl
 rw[KS]at hgx;have e1:=Qh i _ hlt (by simp only[maxLen];omega);have q1:=Jq hg i;have q2:=hg x hm;have hc:=QPW hM S hS x (hS.servs x hm);simp only[WF,KS,SC.av]at hc;simp only[Qs hlt,nv,Qd,QWH,Qb,hgx,h1,h3,hw,hk,o1,oS,eE,seval];refine aC hc ?_;refine QI (xs:=(l++(S.servs.take i).flatMap (Jz S)).map PB.av) (by rfl) (by exact oR) rfl (by simp) (by rfl) (Df _) (by simp only[QVU,QWE,maxLen];omega) (by simp only[QVU,QWE];omega) ?_;simp only[hk,oS,e1,eE,seval];refine⟨S.servs.length-(i+1),by omega,_,_,i+1,rfl,rfl,by omega,(by exact h1),(by exact h3),(by exact h7),(by exact hw),(by exact hz),(by rfl),(by exact o1),⟨g+1,?_,?_⟩,?_⟩
 ·rw[Zn hx,←QVC];simp only[QVU,QWE,Qa,seval]
 ·rw[Zn hx,←QVC];simp only[QWS,Qa,seval]
 ·intro s hs;simp only[QWy,QXi,or_false]at hs;rcases hs with rfl|rfl|rfl<;>first|rfl|exact rv' _ (by decide)

end

theorem s98 {M:Nat}(hM:M≤1048576)(S:SC)(hS:S.ok M)(h8:S.msgs.length≤8∧S.enums.length≤8∧S.servs.length≤8):Qj Tryz.prog 98 [S.av] (.list ((W3 S (Gv S)).map PB.av)):=by
 obtain⟨l1,l2,l3⟩:=h8;refine k98.fn (by simp) ?_;simp only[r98,o98,A5,A6,SC.av,eE,seval];refine Xm rfl rfl rfl rfl ?_;simp only[A7,eE,seval];have hc:=QP1 hM S hS;have hf:=QPL hM S hS;simp only[SC.av]at hc hf;refine aC hc ?_;rw[Ft _ 15 1100 [] (-1) (by decide)];generalize hb:(Qn Qg 1 _:Nat→Ob)=base;have c4:∀n l,Qq base 15 1100 [] n l 4=.none:=fun n l=>by rw[QZ _ _ _ _ _ _ (by decide) (by decide),←hb];rfl
 have o1:base 1=.cells [.list (S.msgs.map fun n=>.agg n.cells),.list (S.enums.map fun n=>.agg n.cells),.list (S.servs.map fun n=>.agg n.cells)]:=by rw[←hb];rfl
 have r9:∀s∈[9,11,13],base s=.none:=by
  intro s hs;rw[←hb];simp only[QWy,QXi,or_false]at hs;rcases hs with rfl|rfl|rfl<;>rfl
 clear hb;simp only[c4,A8,eE,seval];rw[De (by decide) (by decide)];generalize hA:S.msgs.map SM.name=A;generalize hB:S.enums.map SE.name=B;generalize hC:S.servs.map SQ.name=C;have lA:A.length≤8:=by rw[←hA,QWE];exact l1
 have lB:B.length≤8:=by rw[←hB,QWE];exact l2
 have lC:C.length≤8:=by rw[←hC,QWE];exact l3
 generalize hb:(Qn base 4 _:Nat→Ob)=b2;have p1:∀n l,Qq b2 15 1100 [] n l 1=.cells [.list (S.msgs.map fun n=>.agg n.cells),.list (S.enums.map fun n=>.agg n.cells),.list (S.servs.map fun n=>.agg n.cells)]:=fun n l=>by rw[QZ _ _ _ _ _ _ (by decide) (by decide),←hb];exact(by exact o1)
 have p4:∀n l,Qq b2 15 1100 [] n l 4=.cells [.list (A.map Qk),.list (B.map Qk),.list (C.map Qk)]:=fun n l=>by rw[QZ _ _ _ _ _ _ (by decide) (by decide),←hb];exact(by rfl)
 have p9:∀n l,∀s∈[9,11,13],(Qq b2 15 1100 [] n l s).isRow=false:=by
  intro n l s hs;have e:s≠1100∧s≠15∧s≠4:=by simp only[QWy,QXi,or_false]at hs;omega
  rw[QZ _ _ _ _ _ _ e.1 e.2.1,←hb,QX _ _ e.2.2,r9 s hs];rfl
 clear hb o1 r9 c4;refine QP6 A B C (by omega) (by omega) (by omega) b2 _ ⟨(by rfl),(by rfl),(by rfl)⟩ (by rfl) (by rfl) _ (fun f hf=>?_);obtain⟨h1,h3,h4⟩:=hf;have q0:(JQ A B C 3).length≤6:=by
  have a:=ZW A;have b:=ZW B;have c:=ZW C;simp only[JQ,QVU];omega
 simp only[Ea,h3,h4,p4,eE,seval];refine aC (QP5 A B C (by simp only[maxLen];omega) (by simp only[maxLen];omega) (by simp only[maxLen];omega)) ?_
 try simp only[eE,seval]
 refine Qc (Xh b2 15 1100 [] (-1) _ (by decide) rfl (by omega) (Uu A B C) 9 []) (by simp only[QVP,QWe,Qa,seval]<;>rfl) ?_;have q1:=Qy q0 [] (-1) (Uu A B C) 9;generalize hL:JQ A B C 3++pb [] (-1) (Uu A B C) 9=L at q1;simp only[M0,h1,p1,eE,seval];refine aC hf ?_;simp only[M1,h1,p1,QWE,eE,seval];refine QP7 hM S hS (Yu S) L (by omega) l1 _ _ (by exact h1) (by exact h3) (by rfl) (by rfl) (by rfl) (by rfl) (p1 _ _) ⟨_,JV _ _ _ _ _ _,K9 _ _ _ _ _ _ (by decide)⟩ (p9 _ _) _ (fun f fr h1 h3 h7 o1 hA1 r9=>?_);have q2:=Jq (l:=S.msgs) (fun x hx=>UH hM S (fun m=>(Ze m).any fun n=>Q2 S n && !(Yu S).contains n) x (hS.msgs x hx)) S.msgs.length;rw[QWQ]at q2;simp only[M6,h1,o1,QWE,eE,seval];refine QP8 hM S hS (Yu S) _ (by rw[QVU];omega) l2 _ _ (by exact h1) (by exact h3) (by exact h7) (by rfl) (by rfl) (by rfl) o1 hA1 r9 _ (fun f fr h1 h3 h7 o1 hA1 r9=>?_);have q3:=Jq (l:=S.enums) (fun x hx=>UI hM x (hS.enums x hx)) S.enums.length;rw[QWQ]at q3;simp only[Pb,h1,o1,QWE,eE,seval];refine QP9 hM S hS (Yu S) _ (by rw[QVU,QVU];omega) l3 _ _ (by exact h1) (by exact h3) (by exact h7) (by rfl) (by rfl) (by rfl) o1 hA1 r9 _ (fun f fr h1 h3 h7 o1 hA1 r9=>?_);obtain⟨g,oS,oR⟩:=hA1;have ht:∀l:List PB,List.take l.length (List.map PB.av l)=List.map PB.av l:=fun l=>QVQ (by rw[QWE];exact QVi _)
 have hfin:L++S.msgs.flatMap (Jn S (fun m=>(Ze m).any fun n=>Q2 S n && !(Yu S).contains n))++S.enums.flatMap Jj++S.servs.flatMap (Jz S)=W3 S (Gv S):=by
  rw[←hL];unfold W3 JQ;rw[hA,hB,hC,←hA,←hB,←hC,Su];rfl
 rw[hfin]at oS oR;simp only[Ph,h3,oS,oR,QWE,QVY,ht,QVH,QVi,QWh,QWn,AV.un,eE,seval]

theorem s57 {M:Nat}(hM:M≤1048576)(S:SC)(hS:S.ok M)(h8:S.msgs.length≤8∧S.enums.length≤8∧S.servs.length≤8):Qj Tryz.prog 57 [S.av] (.bool (XR S)):=by
 have hc:=s98 hM S hS h8;have hv:(((W3 S (Gv S)).length:Int)==0)=XR S:=by
  have e:=Qcy (S:=S);rw[QV7,QVG,←e]
  constructor
  ·intro h;exact QWi (by omega)
  ·intro h;rw[h];rfl
 refine k57.fn (by simp) ?_;simp only[SC.av,eE,seval];simp only[SC.av]at hc;refine aC hc ?_;simp only[QWE,hv,Qa,seval]

theorem u85 (L:List (List UInt8))(hl:L.length≤maxLen)(n:List UInt8):Qj Tryz.prog 85 [.list (L.map Qk),.str n] (.bool (L.contains n)):=by
 let I:Nat→St→Prop:=fun k st=>∃f i,st=⟨f,[Qg],[]⟩∧k=L.length-i∧L.contains n=(L.drop i).contains n∧f 0=.list (L.map Qk)∧f 1=.str n∧f 5=.int .i64 (i:Nat)
 refine k85.fn (by simp) ?_;simp only[Qa,seval];refine Qf I _ ⟨_,0,rfl,rfl,rfl,(by rfl),(by rfl),(by rfl)⟩ ?_;rintro _ st ⟨f,i,rfl,rfl,hx,h0,h1,h5⟩;simp only[QWE,h0,h5,Qa,seval];by_cases hlt:i<L.length
 ·obtain⟨x,hi⟩:∃x,L[i]? = some x:=⟨L[i],QVl hlt⟩;have hg:(L.map Qk)[i]? = some (.str x):=by simp[hi,Qk]
  have e1:=Qh i _ hlt hl;have hd:(L.drop i).contains n=((x==n)||(L.drop (i+1)).contains n):=by
   rw[QVZ hlt,show L[i]=x from(QVk.1 hi).2,List.contains_cons];congr 1
   rw[QV7,QVG,QVG];exact eq_comm
  simp only[Qs hlt,Qd,QWH,Qb,hg,h0,h1,h5,Qz,eE,seval];cases hp:(x==n)
  ·rw[hp,QW1]at hd;rw[hd]at hx;simp only[h5,e1,Qa,seval];exact⟨L.length-(i+1),by omega,_,i+1,rfl,rfl,hx,(by exact h0),(by exact h1),(by rfl)⟩
  ·rw[hp,QW0]at hd;rw[hd]at hx;simp only[hx,Qa,seval]
 ·have hx':L.contains n=false:=by rw[hx,QVT (by omega)];rfl
  simp only[Qu hlt,hx',Qa,seval]

theorem u70 (L:List (List UInt8))(hl:L.length≤maxLen)(n:List UInt8):Qj Tryz.prog 70 [.list (L.map Qk),.str n] (.bool (L.contains n)):=by
 let I:Nat→St→Prop:=fun k st=>∃f i,st=⟨f,[Qg],[]⟩∧k=L.length-i∧L.contains n=(L.drop i).contains n∧f 0=.list (L.map Qk)∧f 1=.str n∧f 5=.int .i64 (i:Nat)
 refine k70.fn (by simp) ?_;simp only[Qa,seval];refine Qf I _ ⟨_,0,rfl,rfl,rfl,(by rfl),(by rfl),(by rfl)⟩ ?_;rintro _ st ⟨f,i,rfl,rfl,hx,h0,h1,h5⟩;simp only[QWE,h0,h5,Qa,seval];by_cases hlt:i<L.length
 ·obtain⟨x,hi⟩:∃x,L[i]? = some x:=⟨L[i],QVl hlt⟩;have hg:(L.map Qk)[i]? = some (.str x):=by simp[hi,Qk]
  have e1:=Qh i _ hlt hl;have hd:(L.drop i).contains n=((x==n)||(L.drop (i+1)).contains n):=by
   rw[QVZ hlt,show L[i]=x from(QVk.1 hi).2,List.contains_cons];congr 1
   rw[QV7,QVG,QVG];exact eq_comm
  simp only[Qs hlt,Qd,QWH,Qb,hg,h0,h1,h5,Qz,eE,seval];cases hp:(x==n)
  ·rw[hp,QW1]at hd;rw[hd]at hx;simp only[h5,e1,Qa,seval];exact⟨L.length-(i+1),by omega,_,i+1,rfl,rfl,hx,(by exact h0),(by exact h1),(by rfl)⟩
  ·rw[hp,QW0]at hd;rw[hd]at hx;simp only[hx,Qa,seval]
 ·have hx':L.contains n=false:=by rw[hx,QVT (by omega)];rfl
  simp only[Qu hlt,hx',Qa,seval]

def U4 (S:SC)(n:List UInt8):Int:=QW (fun m:SE=>m.name==n) S.enums 0

theorem ID (S:SC)(hl:S.msgs.length≤maxLen)(s:List UInt8):Qj Tryz.prog 97 [S.av,.str s] (.int .i64 (JP S s)):=by
 let I:Nat→St→Prop:=fun k st=>∃f fr i,st=⟨f,[fr],[]⟩∧k=S.msgs.length-i∧JP S s=QW (fun g:SM=>g.name==s) (S.msgs.drop i) i∧f 1=.str s∧f 2=.ptr 0 2 0∧f 5=.int .i64 (i:Nat)∧fr 2=.cells [.list (S.msgs.map fun n=>.agg n.cells),.list (S.enums.map fun n=>.agg n.cells),.list (S.servs.map fun n=>.agg n.cells)]
 refine k97.fn (by simp) ?_;simp only[SC.av,eE,seval];refine Qf I _ ⟨_,_,0,rfl,rfl,rfl,(by rfl),(by rfl),(by rfl),(by rfl)⟩ ?_;rintro _ st ⟨f,fr,i,rfl,rfl,hx,h1,h2,h5,m2⟩;simp only[QWE,h2,h5,m2,eE,seval];by_cases hlt:i<S.msgs.length
 ·obtain⟨x,hi⟩:∃x,S.msgs[i]? = some x:=⟨S.msgs[i],QVl hlt⟩;have hg:(S.msgs.map fun n=>AV.agg n.cells)[i]? = some (.agg x.cells):=by rw[QWB,hi];rfl
  have e1:=Qh i _ hlt hl;rw[XL]at hg;rw[XD _ hi]at hx;simp only[Qs hlt,Qd,QWH,Qb,hg,h1,h2,h5,m2,Qz,eE,seval];cases hp:(x.name==s)
  ·rw[hp]at hx;simp only[QVB,if_false]at hx;simp only[h5,e1,Qa,seval];exact⟨S.msgs.length-(i+1),by omega,_,_,i+1,rfl,rfl,hx,(by exact h1),(by exact h2),(by rfl),m2⟩
  ·rw[hp]at hx;simp only[if_true]at hx;simp only[hx,h5,Qa,seval]
 ·have hx':JP S s = -1:=by rw[hx,QVT (by omega)];rfl
  simp only[Qu hlt,hx',Qa,seval]

theorem QzC (S:SC)(hl:S.enums.length≤maxLen)(s:List UInt8):Qj Tryz.prog 124 [S.av,.str s] (.int .i64 (U4 S s)):=by
 let I:Nat→St→Prop:=fun k st=>∃f fr i,st=⟨f,[fr],[]⟩∧k=S.enums.length-i∧U4 S s=QW (fun g:SE=>g.name==s) (S.enums.drop i) i∧f 1=.str s∧f 2=.ptr 0 2 0∧f 5=.int .i64 (i:Nat)∧fr 2=.cells [.list (S.msgs.map fun n=>.agg n.cells),.list (S.enums.map fun n=>.agg n.cells),.list (S.servs.map fun n=>.agg n.cells)]
 refine QNq.fn (by simp) ?_;simp only[SC.av,eE,seval];refine Qf I _ ⟨_,_,0,rfl,rfl,rfl,(by rfl),(by rfl),(by rfl),(by rfl)⟩ ?_;rintro _ st ⟨f,fr,i,rfl,rfl,hx,h1,h2,h5,m2⟩;simp only[QWE,h2,h5,m2,eE,seval];by_cases hlt:i<S.enums.length
 ·obtain⟨x,hi⟩:∃x,S.enums[i]? = some x:=⟨S.enums[i],QVl hlt⟩;have hg:(S.enums.map fun n=>AV.agg n.cells)[i]? = some (.agg x.cells):=by rw[QWB,hi];rfl
  have e1:=Qh i _ hlt hl;rw[X7]at hg;rw[XD _ hi]at hx;simp only[Qs hlt,Qd,QWH,Qb,hg,h1,h2,h5,m2,Qz,eE,seval];cases hp:(x.name==s)
  ·rw[hp]at hx;simp only[QVB,if_false]at hx;simp only[h5,e1,Qa,seval];exact⟨S.enums.length-(i+1),by omega,_,_,i+1,rfl,rfl,hx,(by exact h1),(by exact h2),(by rfl),m2⟩
  ·rw[hp]at hx;simp only[if_true]at hx;simp only[hx,h5,Qa,seval]
 ·have hx':U4 S s = -1:=by rw[hx,QVT (by omega)];rfl
  simp only[Qu hlt,hx',Qa,seval]

theorem Sv (S:SC)(n:List UInt8):decide (JP S n≥0)=Q2 S n:=VH _ _
theorem QzD (S:SC)(n:List UInt8):decide (U4 S n≥0)=G5 S n:=VH _ _
theorem Sw (S:SC)(n:List UInt8):decide (JP S n<0)=!Q2 S n:=by
 rw[←Sv];exact(by rw[QV7];simp only[QWA,QV9,QXc];omega)

theorem IE (s:List UInt8):Qj Tryz.prog 88 [.str s] (.bool (Xo s)):=by
 refine k88.fn (by simp) ?_;simp only[Xo,Qa,seval];refine aC (TU s) ?_;cases Q5 s
 ·simp only[QWL,Qa,seval]
 ·simp only[QWY,Qa,seval];refine aC (QyZ s) ?_;simp only[Qa,seval]

def UsI (s:List UInt8)(k:Nat)(st:St):Prop :=
 ∃f u i,st=⟨f,[Qg],[]⟩∧k=u.length∧u.length≤120∧i+u.length≤120∧(u≠[]→(Qi u).all Q5=true)∧(Qi s).any ZA=Sa u∧f 0=.str u∧f 3=.int .i64 (i:Nat)

theorem u87 (s:List UInt8):Qj Tryz.prog 87 [.str s] (.bool (XE s)):=by
 refine k87.fn (by simp) ?_;simp only[XE,Qa,seval];refine aC (QOQ s) ?_;cases hf:(decide (s.length≤120)&&(Qi s).all Q5)
 ·simp only[QWL,QWl,Qa,seval]
 simp only[QWY,QWZ,Qa,seval];obtain⟨hl,ha⟩:=QVm.1 hf;have hl:=of_decide_eq_true hl;have hne:s≠[]:=by
  rintro rfl;cases ha
 refine Qf (UsI s) _ ⟨_,s,0,rfl,rfl,hl,by omega,fun _=>ha,by unfold Sa;rw[QVp hne],(by rfl),(by rfl)⟩ ?_;rintro _ st ⟨f,u,i,rfl,rfl,hul,hui,hua,hx,h0,h3⟩;simp only[h3,Qa,seval];by_cases hu:u=[]
 ·subst hu;have b0:(!(([]:List UInt8)==[]))=false:=rfl;have e:(Qi s).any ZA=false:=hx;cases hd:decide ((i:Int)<120)<;>simp only[b0,e,h0,Qz,QWl,Qa,seval]
 ·have b0:(!(u==[]))=true:=by simp[hu]
  have hlp:0<u.length:=QWx.2 hu;have d:decide ((i:Int)<120)=true:=QXb (by omega);have e1:IntKind.i64.wrap ((i:Int)+1)=((i+1:Nat):Int):=by simp only[Jb];omega
  simp only[d,b0,h0,Qz,Qa,seval];refine aC (QOR u hul) ?_;simp only[Qa,seval];refine aC (QyZ (Z3 u).2) ?_;have hw:Sa u=(Sa (Z3 u).1||ZA (Z3 u).2):=by
   unfold Sa;rw[QVp hu];rcases B8 u with⟨h1,h2,h3⟩|⟨h1,h2⟩
   ·rw[h1,h2,QVq rfl,WA h3];simp
   ·have hp:Qi u=Qi (Z3 u).1++[(Z3 u).2]:=by
     conv=>lhs;rw[h1]
     exact Gt h2
    have ha':=hua hu;rw[hp,QWv,QVF]at ha';have hn:(Z3 u).1≠[]:=by
     intro h;rw[h]at ha';cases ha'.1
    rw[QVp hn,hp];simp
  cases hq:ZA (Z3 u).2
  ·rw[hq,QXf]at hw;have hlen:(Z3 u).1.length<u.length∧((Z3 u).1≠[]→(Qi (Z3 u).1).all Q5=true):=by
    rcases B8 u with⟨h1,h2,h3⟩|⟨h1,h2⟩
    ·rw[h1];exact⟨hlp,fun h=>absurd rfl h⟩
    ·have hp:Qi u=Qi (Z3 u).1++[(Z3 u).2]:=by
      conv=>lhs;rw[h1]
      exact Gt h2
     refine⟨?_,fun _=>?_⟩
     ·conv=>rhs;rw[h1]
      simp
     ·have ha':=hua hu;rw[hp,QWv,QVF]at ha';exact ha'.1
   simp only[h3,e1,Qa,seval];exact⟨(Z3 u).1.length,hlen.1,_,(Z3 u).1,i+1,rfl,rfl,by omega,by omega,hlen.2,by rw[hx,hw],(by rfl),(by rfl)⟩
  ·rw[hq,QXg]at hw;rw[hw]at hx;simp only[hx,QWZ,Qa,seval]

section
variable (k:Int)(b:Nat)(t:List UInt8)(l p s r:List AV)
theorem QQa:Qj Tryz.prog 127 [vo k b t l p s r] (vo k (ZB k b) t l p s r):=by
 refine Qsq.fn (by simp) ?_;simp only[vo,eE,seval];by_cases hk:k=6
 ·have b0:(k==6)=true:=by simp[hk]
  simp only[b0,eE,seval];refine aC (QPb b) ?_;simp only[Qy8,Qa,seval];by_cases hc:Gu b=0
  ·simp only[hc,ZB,hk,decide_true,QWh,eE,seval]
   try rfl
  ·simp only[hc,ZB,decide_false,and_false,eE,seval]
 ·have b0:(k==6)=false:=by simp[hk]
  simp only[b0,ZB,hk,false_and,eE,seval]

theorem Hp (a b:Nat)(h:a+b≤9223372036854775807):IntKind.i64.wrap ((a:Int)+(b:Int))=((a+b:Nat):Int):=by
 simp only[Jb];omega
theorem QQb (a b c d a2 b2 c2 d2:Nat)(h:a+b+c+d+(a2+b2+c2+d2)≤9223372036854775807):IntKind.i64.wrap (IntKind.i64.wrap (IntKind.i64.wrap (IntKind.i64.wrap (IntKind.i64.wrap (IntKind.i64.wrap (IntKind.i64.wrap ((a:Int)+(b:Int))+(c:Int))+(d:Int))+(a2:Int))+(b2:Int))+(c2:Int))+(d2:Int))=((a+b+c+d+(a2+b2+c2+d2):Nat):Int):=by
 rw[Hp a b (by omega),Hp (a+b) c (by omega),Hp (a+b+c) d (by omega),Hp (a+b+c+d) a2 (by omega),Hp (a+b+c+d+a2) b2 (by omega),Hp (a+b+c+d+a2+b2) c2 (by omega),Hp (a+b+c+d+a2+b2+c2) d2 (by omega)];congr 1
 omega

theorem QzF (k2:Int)(b2:Nat)(t2:List UInt8)(l2 p2 s2 r2:List AV)(h:l.length+p.length+s.length+r.length+(l2.length+p2.length+s2.length+r2.length)≤9223372036854775807) :
  Qj Tryz.prog 125 [vo k b t l p s r,vo k2 b2 t2 l2 p2 s2 r2] (.bool (k==k2&&(b:Int)==(b2:Int)&&t==t2&&((l.length+p.length+s.length+r.length+(l2.length+p2.length+s2.length+r2.length):Nat):Int)==0)):=by
 have w:=QQb _ _ _ _ _ _ _ _ h;refine QNt.fn (by simp) ?_;simp only[vo,eE,seval];cases h1:(k==k2)
 ·simp only[QWL,Qa,seval]
 cases h2:((b:Int)==(b2:Int))
 ·simp only[h2,QWL,QWY,eE,seval]
 cases h3:(t==t2)
 ·simp only[h2,h3,Qz,QWL,QWY,eE,seval]
 simp only[h2,h3,Qz,w,QWY,eE,seval]
end

theorem u90 (x:SF):Qj Tryz.prog 90 [XK x] (.bool (YP x)):=by
 refine k90.fn (by simp) ?_;simp only[XK,QL,eE,seval];unfold YP Nb;by_cases h5:x.card=5
 ·have d:(x.card != 5)=false:=by simp[h5]
  have q:(decide (x.card≥1)&&decide (x.card≤5))=true:=by rw[h5];rfl
  rw[q,QVq h5];rw[QWY];by_cases hk:x.key=1∨x.key=2∨x.key=3∨x.key=4∨x.key=5∨x.key=7
  ·have e:(decide (x.key≥1)&&decide (x.key≤7)&&x.key != 6)=true:=by simp only[QVF,QWA,QVL,ne_eq];omega
   rw[e];rcases hk with h|h|h|h|h|h<;>simp only[d,h,seval,eE]
  ·have e:(decide (x.key≥1)&&decide (x.key≤7)&&x.key != 6)=false:=by simp only[QXh,QXc,bne_eq_false_iff_eq];omega
   have k1:(x.key==1)=false:=by rw[QXd];omega
   have k2:(x.key==2)=false:=by rw[QXd];omega
   have k3:(x.key==3)=false:=by rw[QXd];omega
   have k4:(x.key==4)=false:=by rw[QXd];omega
   have k5:(x.key==5)=false:=by rw[QXd];omega
   have k7:(x.key==7)=false:=by rw[QXd];omega
   rw[e];simp only[d,k1,k2,k3,k4,k5,k7,eE,seval]
 ·have d:(x.card != 5)=true:=by simp[h5]
  rw[QVp h5];simp only[d,eE,seval];have q:decide (x.card≤5)=decide (x.card≤4):=(by rw[QV7];simp only[QWA];omega);rw[q];cases h1:decide (x.card≥1)
  ·simp only[QWL,Qa,seval]
  cases h2:decide (x.card≤4)
  ·simp only[h2,QWY,QWL,eE,seval]
  simp only[h2,QWY,eE,seval]

section
variable {M:Nat}(S:SC)(hS:S.ok M)(hM:M≤1048576)(x:SF)(hx:x.ok M)
include hS hM in
theorem u91:Qj Tryz.prog 91 [S.av,XK x] (.bool (JD S x)):=by
 obtain⟨l1,l2,_⟩:=ZV S hS hM;have hm:=ID S l1 x.tname;have he:=QzC S l2 x.tname;simp only[SC.av]at hm he;refine Uh.fn (by simp) ?_;unfold JD;simp only[SC.av,XK,QL,eE,seval];by_cases h3:x.kind=9
 ·have d3:(x.kind==9)=true:=by simp[h3]
  rw[QVp (by omega),QVq h3];simp only[d3,eE,seval];refine aC he ?_;simp only[QzD,Qa,seval]
 have d3:(x.kind==9)=false:=by simp[h3]
 by_cases h4:x.kind=10
 ·have d4:(x.kind==10)=true:=by simp[h4]
  rw[QVp (by omega),QVp h3,QVq h4];simp only[d3,d4,eE,seval];refine aC hm ?_;cases hh:Q2 S x.tname<;>simp only[Sv,hh,QWY,QWL,eE,seval]
 have d4:(x.kind==10)=false:=by simp[h4]
 by_cases h1:x.kind≥1
 ·have d1:decide (x.kind≥1)=true:=QXb h1;by_cases h2:x.kind≤8
  ·have d2:decide (x.kind≤8)=true:=QXb h2;rw[QVq ⟨h1,h2⟩];simp only[d1,d2,d3,d4,Qz,eE,seval]
  ·have d2:decide (x.kind≤8)=false:=QW3 h2;rw[QVp fun h=>h2 h.2,QVp h3,QVp h4];simp only[d1,d2,d3,d4,eE,seval]
 ·have d1:decide (x.kind≥1)=false:=QW3 h1;rw[QVp fun h=>h1 h.1,QVp h3,QVp h4];simp only[d1,d3,d4,eE,seval]
end

theorem Kd {α:Type}{l:List α}{q:α→Bool}{i:Nat}{x:α}(h:l[i]? = some x):(l.take (i+1)).any q=((l.take i).any q||q x):=by
 rw[QWT,h,QWU,List.any_append];simp

section
variable {M:Nat}(S:SC)(hS:S.ok M)(hM:M≤1048576)(x:SF)(hx:x.ok M)
include hS hM hx in
theorem u93:Qj Tryz.prog 93 [S.av,XK x] (.bool (WC S x)):=by
 obtain⟨l1,l2,_⟩:=ZV S hS hM;have he:=QzC S l2 x.tname;have hv:=hx.dflt;have n1:=hv.nl;have n2:=hv.np;have n3:=hv.ns;have n4:=hv.nr;have n5:=hv.text;have hz:=QzF x.dflt.kd x.dflt.bits x.dflt.text (x.dflt.list.map V.av) (x.dflt.pairs.map V.pav) (x.dflt.slots.map V.sav) (x.dflt.raws.map R.av) 0 0 [] [] [] [] [] (by simp;omega);have hq:=QzF x.dflt.kd x.dflt.bits x.dflt.text (x.dflt.list.map V.av) (x.dflt.pairs.map V.pav) (x.dflt.slots.map V.sav) (x.dflt.raws.map R.av) x.dflt.kd (ZB x.dflt.kd x.dflt.bits) x.dflt.text (x.dflt.list.map V.av) (x.dflt.pairs.map V.pav) (x.dflt.slots.map V.sav) (x.dflt.raws.map R.av) (by simp;omega);have hf:=Qza x.kind x.dflt.kd x.dflt.bits x.dflt.text (x.dflt.list.map V.av) (x.dflt.pairs.map V.pav) (x.dflt.slots.map V.sav) (x.dflt.raws.map R.av) (by simp only[maxLen];omega);have hn:=QQa x.dflt.kd x.dflt.bits x.dflt.text (x.dflt.list.map V.av) (x.dflt.pairs.map V.pav) (x.dflt.slots.map V.sav) (x.dflt.raws.map R.av);have ef:x.dflt.fitk x.kind=Jc x.kind x.dflt.kd x.dflt.bits x.dflt.text (x.dflt.list.map V.av) (x.dflt.pairs.map V.pav) (x.dflt.slots.map V.sav) (x.dflt.raws.map R.av):=rfl;have ez:(x.dflt.kd==0&&((x.dflt.bits:Nat):Int)==((0:Nat):Int)&&x.dflt.text==[]&&(((x.dflt.list.map V.av).length+(x.dflt.pairs.map V.pav).length+(x.dflt.slots.map V.sav).length+(x.dflt.raws.map R.av).length+(([]:List AV).length+([]:List AV).length+([]:List AV).length+([]:List AV).length):Nat):Int)==0)=x.dflt.zro:=by
  unfold V.zro;rw[show(((x.dflt.bits:Nat):Int)==((0:Nat):Int))=(x.dflt.bits==0)from Wp _,Wp];simp only[QWE,QWp,QVO]
 rw[ez]at hz;simp only[vo]at hf hn hz hq;simp only[SC.av]at he;refine k93.fn (by simp) ?_;unfold WC;rw[ef];simp only[SC.av,XK,QL,eE,seval];cases hd:x.hasd
 ·rw[QVq rfl];simp only[eE,seval];refine aC hz ?_;simp only[Qa,seval]
 rw[QVp (by simp)];by_cases hc:x.card=2
 case neg=>
  have d1:(x.card != 2)=true:=by simp[hc]
  rw[QVp fun h=>hc h.1];simp only[d1,eE,seval]
 have d1:(x.card != 2)=false:=by simp[hc]
 by_cases hu:x.union=[]
 case neg=>
  have d2:(!(x.union==[]))=true:=by simp[hu]
  rw[QVp fun h=>hu h.2.1];simp only[d1,d2,Qz,eE,seval]
 have d2:(!(x.union==[]))=false:=by simp[hu]
 simp only[d1,d2,Qz,eE,seval];refine aC hf ?_;cases hfv:Jc x.kind x.dflt.kd x.dflt.bits x.dflt.text (x.dflt.list.map V.av) (x.dflt.pairs.map V.pav) (x.dflt.slots.map V.sav) (x.dflt.raws.map R.av)
 ·rw[QVp fun h=>Bool.false_ne_true h.2.2.1];simp only[Qa,seval]
 simp only[eE,seval];refine aC hn ?_;simp only[Qa,seval];have eq2:(x.dflt.kd==x.dflt.kd&&((x.dflt.bits:Nat):Int)==((ZB x.dflt.kd x.dflt.bits:Nat):Int)&&x.dflt.text==x.dflt.text&&(((x.dflt.list.map V.av).length+(x.dflt.pairs.map V.pav).length+(x.dflt.slots.map V.sav).length+(x.dflt.raws.map R.av).length+((x.dflt.list.map V.av).length+(x.dflt.pairs.map V.pav).length+(x.dflt.slots.map V.sav).length+(x.dflt.raws.map R.av).length):Nat):Int)==0)=decide (ZB x.dflt.kd x.dflt.bits=x.dflt.bits):=by
  have hlon:YO (x.dflt.list.map V.av) (x.dflt.pairs.map V.pav) (x.dflt.slots.map V.sav) (x.dflt.raws.map R.av)=true:=by
   unfold Jc at hfv;simp only[QVF]at hfv;exact hfv.1.1.1.1.2
  unfold YO at hlon;simp only[QVF,QVG]at hlon;obtain⟨⟨⟨q1,q2⟩,q3⟩,q4⟩:=hlon;rw[QV7];simp only[QVF,QVG,QWA,true_and,and_true];omega
 rw[eq2]at hq;refine aC hq ?_;by_cases hnb:ZB x.dflt.kd x.dflt.bits=x.dflt.bits
 case neg=>
  rw[QVp fun h=>hnb h.2.2];simp only[hnb,decide_false,QWl,Qa,seval]
 rw[QVq ⟨hc,hu,hnb⟩];simp only[hnb,decide_true,QWZ,eE,seval];refine aC he ?_;by_cases h9:x.kind=9
 case neg=>
  have d9:(x.kind != 9)=true:=by simp[h9]
  rw[QVp h9];simp only[d9,eE,seval]
 have d9:(x.kind != 9)=false:=by simp[h9]
 rw[QVq h9];have e2:U4 S x.tname=QW (fun m:SE=>m.name==x.tname) S.enums 0:=rfl;rcases Xn (fun m:SE=>m.name==x.tname) S.enums 0 with⟨g1,g2⟩|⟨k,e,g1,g2,g3⟩
 ·rw[g1]at e2;simp only[e2,g2,d9,eE,seval]
 rw[g1,QVH]at e2;have hem:=hS.enums e (QVw g2);have hlm:=hem.len1;have hke:(S.enums.map fun n=>AV.agg n.cells)[k]? = some (.agg e.cells):=by rw[QWB,g2];rfl
 rw[X7]at hke;have dk:decide ((k:Int)<0)=false:=QW3 (by omega);simp only[e2,g3,d9,dk,eE,seval]
 let I:Nat→St→Prop:=fun n st=>∃f fr i,st=⟨f,[fr],[]⟩∧n=e.items.length-i∧i≤e.items.length∧(e.items.take i).any (fun it=>IntKind.u64.wrap it.num==(x.dflt.bits:Int))=false∧f 2=.ptr 0 2 0∧f 5=.ptr 0 5 0∧f 6=.int .i64 (k:Nat)∧f 7=.int .i64 (i:Nat)∧
  fr 2=.cells [.list (S.msgs.map fun n=>.agg n.cells),.list (S.enums.map fun n=>.agg n.cells),.list (S.servs.map fun n=>.agg n.cells)]∧fr 5=.cells [.int .i64 x.dflt.kd,.int .u64 (x.dflt.bits:Nat),.str x.dflt.text,.list (x.dflt.list.map V.av),.list (x.dflt.pairs.map V.pav),.list (x.dflt.slots.map V.sav),.list (x.dflt.raws.map R.av)]
 refine Qf I _ ⟨_,_,0,rfl,rfl,QVr _,rfl,(by rfl),(by rfl),(by rfl),(by rfl),(by rfl),(by rfl)⟩ ?_;rintro _ st ⟨f,fr,i,rfl,rfl,hi,hal,h2,h5,h6,h7,o2,o5⟩;simp only[Qd,QWH,Qb,hke,QWE,h2,h6,h7,o2,eE,seval];by_cases hlt:i<e.items.length
 ·obtain⟨y,hy⟩:∃y,e.items[i]? = some y:=⟨e.items[i],QVl hlt⟩;have hg:(e.items.map fun n=>AV.agg n.cells)[i]? = some (.agg y.cells):=by rw[QWB,hy];rfl
  rw[Jk]at hg;have e1:=Qh i _ hlt (by simp only[maxLen];omega);have ht:=Kd (q:=fun it:SI=>IntKind.u64.wrap it.num==(x.dflt.bits:Int)) hy;rw[hal,QW1]at ht;simp only[Qs hlt,Qd,QWH,Qb,hke,hg,h2,h5,h6,h7,o2,o5,eE,seval];cases hp:(IntKind.u64.wrap y.num==(x.dflt.bits:Int))
  ·rw[hp]at ht;simp only[h7,e1,Qa,seval];exact⟨e.items.length-(i+1),by omega,_,_,i+1,rfl,rfl,by omega,ht,(by exact h2),(by exact h5),(by exact h6),(by rfl),o2,o5⟩
  ·have hr:e.items.any (fun it=>IntKind.u64.wrap it.num==(x.dflt.bits:Int))=true:=QWR.2 ⟨y,QVw hy,hp⟩;simp only[hr,Qa,seval]
 ·have hr:e.items.any (fun it=>IntKind.u64.wrap it.num==(x.dflt.bits:Int))=false:=by rw[←hal,QVQ (by omega)]
  simp only[Qu hlt,hr,Qa,seval]
end

def upv (m:SM)(u:List UInt8):Nat→Bool
 |0=>true
 |j+1=>match m.fields[j]? with
  |none=>true
  |some y=>y.union==u
theorem QcD {m:SM}{i:Nat}{x:SF}(hi:m.fields[i]? = some x):Jm m i=(x.union==[]||(x.card==2&&Xo x.union && !(m.fields.any fun y=>y.name==x.union)&&(!((m.fields.take i).any fun y=>y.union==x.union)||upv m x.union i))):=by
 unfold Jm;rw[hi];cases i<;>rfl

section
variable {M:Nat}(hM:M≤1048576)(m:SM)(hm:m.ok M)(i:Nat)(x:SF)(hi:m.fields[i]? = some x)
include hM hm hi in
theorem u92:Qj Tryz.prog 92 [Q4 m,.int .i64 (i:Nat)] (.bool (Jm m i)):=by
 have hil:=(QVk.1 hi).1;have hl1:=hm.len1;have hg:(m.fields.map fun n=>AV.agg n.cells)[i]? = some (.agg x.cells):=by rw[QWB,hi];rfl
 rw[QL]at hg;have hun:=QcD hi;refine k92.fn (by simp) ?_;simp only[Q4,XL,Qd,QWH,Qb,hg,eE,seval];by_cases hu:x.union=[]
 ·have d:(x.union==[])=true:=by simp[hu]
  rw[d,QW0]at hun;simp only[d,hun,Qz,Qa,seval]
 have d:(x.union==[])=false:=by simp[hu]
 rw[d,QW1]at hun;by_cases hc:x.card=2
 case neg=>
  have d1:(x.card != 2)=true:=by simp[hc]
  have d1':(x.card==2)=false:=by simp[hc]
  rw[d1']at hun;simp only[QWL]at hun;simp only[d,d1,hun,Qz,eE,seval]
 have d1:(x.card != 2)=false:=by simp[hc]
 have d1':(x.card==2)=true:=by simp[hc]
 rw[d1',QWY]at hun;simp only[d,d1,Qz,eE,seval];refine aC (IE x.union) ?_;cases hus:Xo x.union
 ·rw[hus]at hun;simp only[QWL]at hun;simp only[hun,QWl,Qa,seval]
 rw[hus,QWY]at hun;simp only[QWZ,Qa,seval]
 let I:Nat→St→Prop:=fun n st=>∃f fr j,st=⟨f,[fr],[]⟩∧n=m.fields.length-j∧j≤m.fields.length∧(m.fields.take j).any (fun y=>y.name==x.union)=false∧f 1=.int .i64 (i:Nat)∧f 2=.ptr 0 2 0∧f 5=.ptr 0 5 0∧f 6=.bool ((m.fields.take (min j i)).any fun y=>y.union==x.union)∧f 7=.int .i64 (j:Nat)∧
  fr 2=.cells [.str m.name,.list (m.fields.map fun n=>.agg n.cells),.list (m.free.map fun n=>.agg n.cells),.list (m.gone.map AV.str),.list (m.notes.map fun n=>.agg n.cells)]∧fr 5=.cells x.cells
 refine Qf I _ ⟨_,_,0,rfl,rfl,QVr _,rfl,(by rfl),(by rfl),(by rfl),by rw[Nat.zero_min];exact(by rfl),(by rfl),(by rfl),by rw[QL];exact(by rfl)⟩ ?_;rintro _ st ⟨f,fr,j,rfl,rfl,hj,hal,h1,h2,h5,h6,h7,o2,o5⟩;rw[QL]at o5;simp only[QWE,h2,h7,o2,eE,seval];by_cases hlt:j<m.fields.length
 ·obtain⟨y,hy⟩:∃y,m.fields[j]? = some y:=⟨m.fields[j],QVl hlt⟩;have hgy:(m.fields.map fun n=>AV.agg n.cells)[j]? = some (.agg y.cells):=by rw[QWB,hy];rfl
  rw[QL]at hgy;have e1:=Qh j _ hlt (by simp only[maxLen];omega);have ht:=Kd (q:=fun y:SF=>y.name==x.union) hy;rw[hal,QW1]at ht;simp only[Qs hlt,Qd,QWH,Qb,hgy,h2,h5,h7,o2,o5,Qz,eE,seval];cases hp:(y.name==x.union)
  case true=>
   have hr:m.fields.any (fun y=>y.name==x.union)=true:=QWR.2 ⟨y,QVw hy,hp⟩;rw[hr]at hun;simp only[QWZ,QWL]at hun;simp only[hun,Qa,seval]
  rw[hp]at ht;simp only[h1,h7,Qa,seval];by_cases hji:j<i
  case neg=>
   have dji:decide ((j:Int)<(i:Nat))=false:=QW3 (by omega);have hmn:min (j+1) i=min j i:=by omega
   simp only[dji,h7,e1,Qa,seval];exact⟨m.fields.length-(j+1),by omega,_,_,j+1,rfl,rfl,by omega,ht,(by exact h1),(by exact h2),(by exact h5),by rw[hmn];exact(by exact h6),(by rfl),o2,by rw[QL];exact o5⟩
  have dji:decide ((j:Int)<(i:Nat))=true:=QXb (by omega);have hm1:min (j+1) i=j+1:=by omega
  have hm0:min j i=j:=by omega
  have ht2:=Kd (q:=fun y:SF=>y.union==x.union) hy;rw[hm0]at h6;simp only[dji,Qd,QWH,Qb,hgy,h2,h5,h7,o2,o5,Qz,eE,seval];cases hpu:(y.union==x.union)
  ·rw[hpu,QXf]at ht2;simp only[h7,e1,Qa,seval];exact⟨m.fields.length-(j+1),by omega,_,_,j+1,rfl,rfl,by omega,ht,(by exact h1),(by exact h2),(by exact h5),by rw[hm1,ht2];exact(by exact h6),(by rfl),o2,by rw[QL];exact o5⟩
  ·rw[hpu,QXg]at ht2;simp only[h7,e1,Qa,seval];exact⟨m.fields.length-(j+1),by omega,_,_,j+1,rfl,rfl,by omega,ht,(by exact h1),(by exact h2),(by exact h5),by rw[hm1,ht2];exact(by rfl),(by rfl),o2,by rw[QL];exact o5⟩
 have hjl:j=m.fields.length:=by omega
 have hmi:min j i=i:=by omega
 rw[hmi]at h6;rw[QVQ (by omega)]at hal;rw[hal]at hun;simp only[QWl,QWY]at hun;simp only[Qu hlt,h6,Qa,seval];cases hea:(m.fields.take i).any fun y=>y.union==x.union
 ·rw[hea]at hun;simp only[QWl,QW0]at hun;simp only[hun,QWl,Qa,seval]
 rw[hea]at hun;simp only[QWZ,QW1]at hun;cases i with
 |zero=>cases hea
 |succ k=>
  obtain⟨y,hy⟩:∃y,m.fields[k]? = some y:=⟨m.fields[k]'(by omega),QVl (by omega)⟩;have hgy:(m.fields.map fun n=>AV.agg n.cells)[k]? = some (.agg y.cells):=by rw[QWB,hy];rfl
  rw[QL]at hgy;have e2:=KA k _ hil (by simp only[maxLen];omega);rw[upv,hy]at hun;simp only[QWZ,e2,Qd,QWH,Qb,hgy,h1,h2,h5,o2,o5,Qz,hun,eE,seval]
end

section
variable {M:Nat}(hM:M≤1048576)(S:SC)(hS:S.ok M)(F:List Bool)(hF:F.length=S.msgs.length)
include hM hS hF in
theorem u86 (m:SM)(hm:m.ok M):Qj Tryz.prog 86 [S.av,Q4 m,.list (F.map AV.bool)] (.bool (Xg S F m)):=by
 obtain⟨l1,l2,_⟩:=ZV S hS hM;have hl1:=hm.len1;generalize hp:(fun n=>decide (JP S n≥0) && !(F[(JP S n).toNat]?.getD false))=p;have hs:Xg S F m=(X0 m m.fields.length).any p:=by
  unfold Xg X0 Ze;rw[QWQ,hp]
 let I:Nat→St→Prop:=fun n st=>∃f fr j,st=⟨f,[fr],[]⟩∧n=m.fields.length-j∧j≤m.fields.length∧(X0 m j).any p=false∧f 2=.list (F.map AV.bool)∧f 3=.ptr 0 3 0∧f 4=.ptr 0 4 0∧f 7=.int .i64 (j:Nat)∧
  fr 3=.cells [.list (S.msgs.map fun n=>.agg n.cells),.list (S.enums.map fun n=>.agg n.cells),.list (S.servs.map fun n=>.agg n.cells)]∧fr 4=.cells m.cells∧∀s∈[8],(fr s).isRow=false
 refine k86.fn (by simp) ?_;simp only[SC.av,Q4,XL,eE,seval];refine Qf I _ ⟨_,_,0,rfl,rfl,QVr _,rfl,(by rfl),(by rfl),(by rfl),(by rfl),(by rfl),by rw[XL];exact(by rfl),by intro s hs;simp only[QWy,QXi,or_false]at hs;subst hs;rfl⟩ ?_;rintro _ st ⟨f0,fr0,j,rfl,rfl,hj,hal,h20,h30,h40,h70,KO,KX,r8⟩;refine QR (a:=_) [8] r8 ?_;intro f fr hf hmm hn;have h2:f 2=.list (F.map AV.bool):=by rw[hf,h20]<;>rfl
 have h3:f 3=.ptr 0 3 0:=by rw[hf,h30]<;>rfl
 have h4:f 4=.ptr 0 4 0:=by rw[hf,h40]<;>rfl
 have h7:f 7=.int .i64 (j:Nat):=by rw[hf,h70]<;>rfl
 have o3:fr 3=.cells [.list (S.msgs.map fun n=>.agg n.cells),.list (S.enums.map fun n=>.agg n.cells),.list (S.servs.map fun n=>.agg n.cells)]:=by rw[hmm 3 (by decide),KO]<;>rfl
 have o4:fr 4=.cells m.cells:=by rw[hmm 4 (by decide),KX]<;>rfl
 have n8:=hn 8 (by decide);clear hf hmm hn h20 h30 h40 h70 KO KX r8;have o4':=o4;rw[XL]at o4;simp only[QWE,h4,h7,o4,eE,seval];by_cases hlt:j<m.fields.length
 case neg=>
  have ej:j=m.fields.length:=by omega
  subst ej;rw[hal]at hs;simp only[Qu hlt,hs,Qa,seval]
 obtain⟨x,hx⟩:∃x,m.fields[j]? = some x:=⟨m.fields[j],QVl hlt⟩;have hg:(m.fields.map fun n=>AV.agg n.cells)[j]? = some (.agg x.cells):=by rw[QWB,hx];rfl
 rw[QL]at hg;have e1:=Qh j _ hlt (by simp only[maxLen];omega);have hnd:=DT hx;simp only[Qs hlt,n8,Qd,QWH,Qb,hg,h4,h7,o4,eE,seval];have key:∀f:Fr,∀fr:Nat→Ob,(X0 m (j+1)).any p=false→f 2=.list (F.map AV.bool)→f 3=.ptr 0 3 0→f 4=.ptr 0 4 0→f 7=.int .i64 ((j+1:Nat):Int)→fr 3=.cells [.list (S.msgs.map fun n=>.agg n.cells),.list (S.enums.map fun n=>.agg n.cells),.list (S.servs.map fun n=>.agg n.cells)]→fr 4=.cells m.cells→(fr 8).isRow=false→∃k,k<m.fields.length-j∧I k ⟨f,[fr],[]⟩ :=
  fun f fr a b c d e g h i=>⟨m.fields.length-(j+1),by omega,f,fr,j+1,rfl,rfl,by omega,a,b,c,d,e,g,h,fun s hs=>by simp only[QWy,QXi,or_false]at hs;subst hs;exact i⟩
 by_cases hc:x.card=1
 case neg=>
  have d1:(x.card != 1)=true:=by simp[hc]
  rw[QVp (by simp[hc])]at hnd;simp only[d1,h7,e1,Qa,seval];exact key _ _ (by rw[hnd];exact hal) (by exact h2) (by exact h3) (by exact h4) (by rfl) (by exact o3) (by exact o4') rfl
 have d1:(x.card != 1)=false:=by simp[hc]
 by_cases hk:x.kind=10
 case neg=>
  have d2:(x.kind != 10)=true:=by simp[hk]
  rw[QVp (by simp[hk])]at hnd;simp only[d1,d2,h7,e1,eE,seval];exact key _ _ (by rw[hnd];exact hal) (by exact h2) (by exact h3) (by exact h4) (by rfl) (by exact o3) (by exact o4') rfl
 have d2:(x.kind != 10)=false:=by simp[hk]
 rw[QVq (by simp[hc,hk])]at hnd;have hh:=ID S l1 x.tname;simp only[SC.av]at hh;simp only[d1,d2,h3,o3,eE,seval];refine aC hh ?_;have hpn:(X0 m (j+1)).any p=p x.tname:=by
  rw[hnd,List.any_append,hal,QW1];simp
 rcases Xn (fun m:SM=>m.name==x.tname) S.msgs 0 with⟨g1,g2⟩|⟨k,y,g1,g2,g3⟩
 ·have e2:JP S x.tname = -1:=g1;have e3:p x.tname=false:=by rw[←hp];simp[e2]
  simp only[e2,h7,e1,Qa,seval];exact key _ _ (by rw[hpn,e3]) (by exact h2) (by exact h3) (by exact h4) (by rfl) (by exact o3) (by exact o4') rfl
 ·rw[QVH]at g1;have e2:JP S x.tname=(k:Int):=g1;have hkl:k<F.length:=by rw[hF];exact(QVk.1 g2).1
  have hFk:F[k]? = some F[k]:=QVl hkl;have hFm:(F.map AV.bool)[k]? = some (.bool F[k]):=by rw[QWB,hFk];rfl
  have dk:decide ((k:Int)≥0)=true:=QXb (by omega);have e3:p x.tname=!F[k]:=by
   rw[←hp];simp[e2,hFk]
  simp only[e2,Qd,QWH,Qb,hFm,h2,eE,seval];cases hb:F[k]
  ·rw[hb]at e3;have hr:Xg S F m=true:=by
    rw[hs];have hin:x.tname∈X0 m m.fields.length:=by
     unfold X0;rw[QWQ];exact QWz.2 ⟨x,QWN.2 ⟨QVw hx,by simp[hc,hk]⟩,rfl⟩
    exact QWR.2 ⟨_,hin,e3⟩
   simp only[hr,QWl,Qa,seval]
  ·rw[hb]at e3;simp only[h7,e1,QWZ,Qa,seval];exact key _ _ (by rw[hpn,e3];rfl) (by exact h2) (by exact h3) (by exact h4) (by rfl) (by exact o3) (by exact o4') rfl
end

structure FnS (S:SC)(B:List Bool)(a:Bool)(r:Nat)(f:Fr)(fr:Nat→Ob):Prop where
 h1:f 1=.ptr 0 1 0
 o1:fr 1=.cells [.list (S.msgs.map fun n=>.agg n.cells),.list (S.enums.map fun n=>.agg n.cells),.list (S.servs.map fun n=>.agg n.cells)]
 h3:f 3=.vec 0 10 1 0 S.msgs.length false
 m10:fr 10=.vec 1 1 (B.map AV.bool)
 h4:f 4=.bool a
 h5:f 5=.int .i64 (r:Nat)

section
variable {M:Nat}(hM:M≤1048576)(S:SC)(hS:S.ok M)
include hM hS
theorem QJ8 (r:Nat)(F:List Bool)(hF:F.length=S.msgs.length)(f:Fr)(fr:Nat→Ob)(H:FnS S F false r f fr)(h6:f 6=.int .i64 0)(Q:Exit→St→Prop)
  (hq:∀f fr,FnS S (Q6 S F S.msgs.length) (decide (Q6 S F S.msgs.length≠F)) r f fr→Q (.exit 2) ⟨f,[fr],[]⟩):QJ Tryz.prog (.loop Ex) ⟨f,[fr],[]⟩ Q:=by
 let I:Nat→St→Prop:=fun n st=>∃f fr i,st=⟨f,[fr],[]⟩∧n=S.msgs.length-i∧i≤S.msgs.length∧FnS S (Q6 S F i) (decide (Q6 S F i≠F)) r f fr∧f 6=.int .i64 (i:Nat)
 have hl1:=hS.len1;refine Qf I _ ⟨f,fr,0,rfl,rfl,QVr _,by rw[Q6,QW3 (by simp)];exact H,h6⟩ ?_;clear H h6;rintro _ st ⟨f,fr,i,rfl,rfl,hi,⟨h1,o1,h3,m10,h4,h5⟩,h6⟩;simp only[QWE,h1,h6,o1,eE,seval];by_cases hlt:i<S.msgs.length
 case neg=>
  have e:i=S.msgs.length:=by omega
  subst e;simp only[Qu hlt,Qa,seval];exact hq _ _ ⟨(by exact h1),o1,(by exact h3),m10,(by exact h4),(by exact h5)⟩
 obtain⟨x,hx⟩:∃x,S.msgs[i]? = some x:=⟨S.msgs[i],QVl hlt⟩;have hg:(S.msgs.map fun n=>AV.agg n.cells)[i]? = some (.agg x.cells):=by rw[QWB,hx];rfl
 rw[XL]at hg;have e1:=Qh i _ hlt (by simp only[maxLen];omega);have hsl:(Q6 S F i).length=S.msgs.length:=by rw[KB,hF]
 have hss:Q6 S F (i+1)=Ku S (Q6 S F i) i:=rfl;have htr:=Wc S F i;have htr2:=Wc S F (i+1);generalize Q6 S F i=B at *;obtain⟨b,hb⟩:∃b,B[i]? = some b:=⟨B[i]'(by omega),QVl (by omega)⟩;have hbm:(B.map AV.bool)[i]? = some (.bool b):=by rw[QWB,hb];rfl
 have ia:∀fr':Nat→Ob,fr' 10=.vec 1 1 (B.map AV.bool)→Qb [fr'] 1 none (.vec 0 10 1 0 S.msgs.length false) (i:Int)=some (.vptr 0 10 1 i 0):=by
  intro fr' h;have e:Am.Qe [fr'] 0 10=.vec 1 1 (B.map AV.bool):=h;simp only[Qb,e,Qd,if_true,QWH];simp;omega
 have il:∀fr':Nat→Ob,fr' 10=.vec 1 1 (B.map AV.bool)→Xy [fr'] none (.vptr 0 10 1 i 0)=some (.bool b):=by
  intro fr' h;have e:Am.Qe [fr'] 0 10=.vec 1 1 (B.map AV.bool):=h;simp[Xy,e,hb,AV.cells]<;>rfl
 cases b
 case true=>
  have hst:Ku S B i=B:=by
   unfold Ku;rw[hx];dsimp only;rw[QVp (by rw[hb];simp)]
  rw[hst]at hss;simp only[Qs hlt,ia _ m10,il _ m10,h3,h6,e1,Qa,seval];exact⟨S.msgs.length-(i+1),by omega,_,_,i+1,rfl,rfl,by omega,by rw[hss];exact⟨(by exact h1),o1,(by exact h3),m10,(by exact h4),(by exact h5)⟩,(by rfl)⟩
 have hc:=u86 hM S hS B hsl x (hS.msgs x (QVw hx));simp only[Q4,XL,SC.av]at hc;simp only[Qs hlt,ia _ m10,il _ m10,h1,h3,h6,o1,QWl,eE,seval];simp only[Qd,QWH,Qb,hg,eE,seval];refine Xe hc ?_ rfl rfl (.inr rfl) ?_
 ·have ht:List.take S.msgs.length (B.map AV.bool)=B.map AV.bool:=QVQ (by rw[QWE];omega);simp only[QVP,QWe,AV.stillL,AV.still,Am.Qe,m10,QWE,hsl,ht,QVY,QVH,QVi,QWh,QWL,QVB,Qa,seval]<;>rfl
 cases hn:Xg S B x
 case true=>
  have hst:Ku S B i=B:=by
   unfold Ku;rw[hx];dsimp only;rw[QVp (by rw[hn];simp)]
  rw[hst]at hss;simp only[h6,e1,QWZ,Qa,seval];exact⟨S.msgs.length-(i+1),by omega,_,_,i+1,rfl,rfl,by omega,by rw[hss];exact⟨(by exact h1),o1,(by exact h3),m10,(by exact h4),(by exact h5)⟩,(by rfl)⟩
 have hst:Ku S B i=B.set i true:=by
  unfold Ku;rw[hx];dsimp only;rw[QVq ⟨hb,hn⟩]
 rw[hst]at hss;have hne:decide (Q6 S F (i+1)≠F)=true:=by
  have h1:=VK hb;refine QXb fun h=>?_
  rw[hss]at h;rw[h]at h1;rcases htr with g|g
  ·rw[g]at h1;omega
  ·omega
 have ist:∀fr':Nat→Ob,fr' 10=.vec 1 1 (B.map AV.bool)→Xb [fr'] (.vptr 0 10 1 i 0) [.bool true]=some [Qn fr' 10 (.vec 1 1 ((B.set i true).map AV.bool))]:=by
  intro fr' h;have e:Am.Qe [fr'] 0 10=.vec 1 1 (B.map AV.bool):=h;rw[List.map_set];simp only[Xb,e,hbm];simp[AV.cells,AV.rfL,AV.rf,Am.put,J3]
 simp only[ia _ m10,ist _ m10,h3,h6,e1,QWl,eE,seval];exact⟨S.msgs.length-(i+1),by omega,_,_,i+1,rfl,rfl,by omega,by rw[hne,hss];exact⟨(by exact h1),(by exact o1),(by exact h3),(by rfl),(by rfl),(by exact h5)⟩,(by rfl)⟩

theorem u53:Qj Tryz.prog 53 [S.av] (.list ((QT S).map AV.bool)):=by
 have hl1:=hS.len1;have hz:Km 1 [AV.bool false]=.bool false:=rfl;have hr0:List.replicate S.msgs.length (AV.bool false)=(List.replicate S.msgs.length false).map AV.bool:=by simp
 let I:Nat→St→Prop:=fun n st=>∃f fr r F a,st=⟨f,[fr],[]⟩∧n=S.msgs.length-r∧r≤S.msgs.length∧F.length=S.msgs.length∧QT S=(if a=true then ZT S (S.msgs.length-r) F else F)∧FnS S F a r f fr
 refine k53.fn (by simp) ?_;simp only[SC.av,QWE,eE,seval];refine NS (n:=S.msgs.length) (k:=S.msgs.length) rfl rfl (QVi _) (by omega) (by omega) rfl ?_;simp only[hz,hr0,Qa,seval];refine Qf I _ ⟨_,_,0,List.replicate S.msgs.length false,true,rfl,rfl,QVr _,by simp,rfl,⟨(by rfl),(by rfl),(by rfl),(by rfl),(by rfl),(by rfl)⟩⟩ ?_;rintro _ st ⟨f,fr,r,F,a,rfl,rfl,hr,hF,hs,⟨h1,o1,h3,m10,h4,h5⟩⟩;simp only[QWE,h1,h5,o1,eE,seval];have hfin:∀B:List Bool,B.length=S.msgs.length→fr 10=.vec 1 1 (B.map AV.bool)→QT S=B→List.take S.msgs.length (B.map AV.bool)=(QT S).map AV.bool:=by
  intro B hB _ e;rw[e];exact QVQ (by rw[QWE];omega)
 by_cases hlt:r<S.msgs.length
 case neg=>
  have hsF:QT S=F:=by
   rw[hs];have e:S.msgs.length-r=0:=by omega
   rw[e,ZT];split<;>rfl
  have ht:=hfin F hF m10 hsF;simp only[Qu hlt,h3,m10,ht,hF,QWE,QVY,QVH,QVi,QWh,QWn,AV.un,eE,seval]
 cases a
 ·rw[QVp (by simp)]at hs;have ht:=hfin F hF m10 hs;simp only[Qs hlt,h3,h4,m10,ht,hF,QWE,QVY,QVH,QVi,QWh,QWn,AV.un,eE,seval]
 ·rw[QVq rfl]at hs;have e1:=Qh r _ hlt (by simp only[maxLen];omega);simp only[Qs hlt,h4,Qa,seval];refine QJ8 hM S hS r F hF _ _ ⟨(by exact h1),o1,(by exact h3),m10,(by rfl),(by exact h5)⟩ (by rfl) _ (fun f fr H=>?_);obtain⟨h1,o1,h3,m10,h4,h5⟩:=H;simp only[h5,e1,Qa,seval];refine⟨S.msgs.length-(r+1),by omega,_,_,r+1,Q6 S F S.msgs.length,decide (Q6 S F S.msgs.length≠F),rfl,rfl,by omega,by rw[KB,hF],?_,⟨(by exact h1),o1,(by exact h3),m10,(by exact h4),(by rfl)⟩⟩;rw[hs];have e:S.msgs.length-r=(S.msgs.length-(r+1))+1:=by omega
  rw[e,ZT];by_cases hh:Q6 S F S.msgs.length=F
  ·rw[QVq hh,QVp (by simp[hh])];exact hh.symm
  ·rw[QVp hh,QVq (by simp[hh])]
end

def Q7 (fr:Nat→Ob)(s R:Nat)(d:List UInt8)(l:List PB):Nat→Ob :=
 Qn (Qn fr R (.vec (1+l.length) 3 (l.map PB.av))) s (.cells [.str d,.vec 0 R (1+l.length) 0 l.length false])
section
variable (fr:Nat→Ob)(s R:Nat)(d:List UInt8)(l:List PB)(h:R≠s)
theorem QA (k:Nat):Q7 fr s R d l k=bif Nat.beq k s then .cells [.str d,.vec 0 R (1+l.length) 0 l.length false]else bif Nat.beq k R then .vec (1+l.length) 3 (l.map PB.av)else fr k:=id rfl
theorem UJ:Q7 fr s R d l s=.cells [.str d,.vec 0 R (1+l.length) 0 l.length false]:=QP ..
include h in
theorem UK:Q7 fr s R d l R=.vec (1+l.length) 3 (l.map PB.av):=by rw[Q7,QX _ _ h,QP]
theorem ZX {k:Nat}(h1:k≠R)(h2:k≠s):Q7 fr s R d l k=fr k:=by rw[Q7,QX _ _ h2,QX _ _ h1]
theorem Dg (h1:fr s=.cells [.str d,.vec 0 R (1+l.length) 0 l.length false])(h2:fr R=.vec (1+l.length) 3 (l.map PB.av)):Q7 fr s R d l=fr:=by
 rw[Q7,UC fr R _ h2,UC fr s _ h1]
theorem Dh {k:Nat}(h1:k≠R)(h2:k≠s)(o:Ob):Qn (Q7 fr s R d l) k o=Q7 (Qn fr k o) s R d l:=by
 rw[Q7,Q7,Jl _ s k _ _ (Ne.symm h2),Jl _ R k _ _ (Ne.symm h1)]
theorem Fu (A:Ob)(h:R≠s):Qn (Qn (Qn fr s A) R (.vec 1 3 [])) s (.cells ([.str d,.nils].set 1 (.vec 0 R 1 0 0 false)))=Q7 fr s R d []:=by
 rw[Q7,Jl fr s R _ _ (Ne.symm h),Jw];rfl
include h in
theorem VY (x:PB):Qn (Qn (Q7 fr s R d l) R (.vec (1+l.length+1) 3 (l.map PB.av++[x.av]))) s (.cells [.str d,.vec 0 R (1+l.length+1) 0 (l.length+1) false])=Q7 fr s R d (l++[x]):=by
 have e:(l++[x]).length=l.length+1:=by simp
 rw[Q7,Q7,e,QWS,Jl (Qn fr R _) s R _ _ (Ne.symm h),Jw,Jw];rfl
end

section
variable (fr:Nat→Ob)(s R:Nat)(d:List UInt8)(l:List PB)(h:R≠s)(hR:XC R 154=true)(hl:l.length≤1073741824)(n e:Int)(m:Qo)
include h hR hl

theorem QQc (Z4:Bool)  : Qp Tryz.prog 50 [.ptr 0 s 0,.bool Z4,.int .i64 n,.int .i64 e] ( Q7 fr s R d l :: m) fun x m1=>x=.tup []∧m1 =  Q7 fr s R d (l++pb d n (!Z4) e) :: m:=by
 have hs:=UJ fr s R d l;have hr:=UK fr s R d l h;cases Z4
 ·refine Ew.go (by simp) ?_;have ep:pb d n true e=[]:=rfl;simp only[QWl,ep,QWg,Qa,seval]
 ·refine Ew.go (by simp) ?_;simp only[hs,eE,seval];refine QM rfl rfl (by decide) rfl rfl ?_;refine J9 (xs:=l.map PB.av) (by rfl) (by simp only[hr,F0,seval]) hR (by simp) (by rfl) rfl (by simp only[QVx,QWp,maxLen];omega) (by simp only[QVx,QWp];omega) ?_;have hb:(s==R)=false:=QXd.2 (Ne.symm h);have ha:=VY fr s R d l h ⟨d,n,e⟩;have ep:pb d n false e=[⟨d,n,e⟩]:=rfl;simp only[PB.av]at ha;simp only[hs,hb,nn0,QVP,QWe,cond_false,eE,seval];simp only[ha,ep,seval]

theorem C9 (Z4:Bool)(a:Nat→Ob):Qp Tryz.prog 50 [.ptr 1 s 0,.bool Z4,.int .i64 n,.int .i64 e] (a :: Q7 fr s R d l :: m) fun x m1=>x=.tup []∧m1=a :: Q7 fr s R d (l++pb d n (!Z4) e) :: m:=by
 have hs:=UJ fr s R d l;have hr:=UK fr s R d l h;cases Z4
 ·refine Ew.go (by simp) ?_;have ep:pb d n true e=[]:=rfl;simp only[QWl,ep,QWg,Qa,seval]
 ·refine Ew.go (by simp) ?_;simp only[hs,eE,seval];refine QM rfl rfl (by decide) rfl rfl ?_;refine J9 (xs:=l.map PB.av) (by rfl) (by simp only[hr,F0,seval]) hR (by simp) (by rfl) rfl (by simp only[QVx,QWp,maxLen];omega) (by simp only[QVx,QWp];omega) ?_;have hb:(s==R)=false:=QXd.2 (Ne.symm h);have ha:=VY fr s R d l h ⟨d,n,e⟩;have ep:pb d n false e=[⟨d,n,e⟩]:=rfl;simp only[PB.av]at ha;simp only[hs,hb,nn0,QVP,QWe,cond_false,eE,seval];simp only[ha,ep,seval]

theorem QQd {M:Nat}(hM:M+8≤maxLen)(N:List SN)(hN:N.length≤maxLen)(hn:∀x∈N,x.ok M)(t:Int)(ht:t∈W0):Qp Tryz.prog 94 [.ptr 0 s 0,.list (N.map fun x=>.agg x.cells),.int .i64 t,.int .i64 n] (Q7 fr s R d l :: m) fun x m1=>x=.tup []∧m1=Q7 fr s R d (l++XJ d n N t) :: m:=by
 have e:pb d n (!(X6 N t != 0)) (X6 N t)=XJ d n N t:=by unfold XJ;rw[bne,QXm]
 refine k94.go (by simp) ?_;simp only[Qa,seval];refine aC (QPj hM N hN hn t ht) ?_;simp only[Qa,seval];refine Qc (C9 fr s R d l h hR hl n (X6 N t) m (X6 N t != 0) Qg) rfl ?_;simp only[e,Qa,seval]
end

def Hd (f:Fr):List (Nat×AV)→Prop
 | []=>True
 |(k,v) :: l=>f k=v∧Hd f l

section
variable (fr:Nat→Ob)(s R:Nat)(d:List UInt8)(h:R≠s)(hR:XC R 154=true)(lo hi:Int)(F:List PS)(hF:F.length≤1048576)(m:Qo)

def U5 (F:List PS)(s:Nat)(lo hi:Int)(i:Nat):List (Nat×AV):=[(0,.ptr 1 s 0),(1,.list (F.map QV)),(2,.int .i64 lo),(3,.int .i64 hi),(8,.int .i64 (i:Nat))]

section
variable (l:List PB)(i:Nat)(x:PS)(hx:F[i]? = some x)(own:Nat→Ob)(hl:l.length≤1073741824)(f:Fr)(hf:Hd f (U5 F s lo hi i))(K:St→Prop)
include h hR hl hf hx hF
theorem up3 (hK:∀f,Hd f (U5 F s lo hi i)→K ⟨f,own :: Q7 fr s R d (l++pb d (-1) (decide (x.lo≥lo)&&decide (x.hi≤hi)&&decide (x.lo≤x.hi)) 6) :: m,[]⟩):Ql Tryz.prog CR ⟨f,own :: Q7 fr s R d l :: m,[]⟩ K:=by
 obtain⟨h0,h1,h2,h3,h8,-⟩:=hf;have hb:(decide (x.lo≥lo)&&decide (x.hi≤hi)&&decide (x.lo≤x.hi))=!(decide (x.lo<lo)||decide (x.hi > hi)||decide (x.lo > x.hi)):=(by rw[QV7];simp only[QWA,QV9,QXc,QVF,QV6];omega);rw[hb]at hK;have hg:(F.map QV)[i]? = some (.agg [.int .i64 x.lo,.int .i64 x.hi]):=by rw[QWB,hx];rfl
 simp only[CR,Qd,QWH,Qb,hg,h0,h1,h2,h8,eE,seval];cases c1:decide (x.lo<lo)<;>cases c2:decide (x.hi > hi)<;>cases c3:decide (x.lo > x.hi) <;>
 ·rw[c1,c2,c3]at hK;simp only[c2,c3,Qd,QWH,Qb,hg,h1,h3,h8,eE,seval];refine Qc (C9 fr s R d l h hR hl (-1) 6 m _ own) (by simp only[QVP,QWe,Qa,seval]<;>rfl) ?_;simp only[Qa,seval];exact hK _ (by simp only[Hd,U5,QWh,h0,h1,h2,h3,h8,Qa,seval])

theorem up4 (hK:∀f,Hd f (U5 F s lo hi i)→K ⟨f,own :: Q7 fr s R d (l++pb d (-1) (Sm F i x) 11) :: m,[]⟩):Ql Tryz.prog Fp ⟨f,own :: Q7 fr s R d l :: m,[]⟩ K:=by
 obtain⟨h0,h1,h2,h3,h8,-⟩:=hf;have hlt:i<F.length:=(QVk.1 hx).1;have hg:(F.map QV)[i]? = some (.agg [.int .i64 x.lo,.int .i64 x.hi]):=by rw[QWB,hx];rfl
 cases i with
 |zero=>
  have d0:decide (((0:Nat):Int) > 0)=false:=rfl;simp only[Fp,h0,h8,Qa,seval];refine Qc (C9 fr s R d l h hR hl (-1) 11 m false own) (by simp only[QVP,QWe,Qa,seval]<;>rfl) ?_;simp only[Qa,seval];exact hK _ (by simp only[Hd,U5,QWh,h0,h1,h2,h3,h8,Qa,seval])
 |succ j=>
  obtain⟨y,hj⟩:∃y,F[j]? = some y:=⟨F[j]'(by omega),QVl (by omega)⟩;have hgj:(F.map QV)[j]? = some (.agg [.int .i64 y.lo,.int .i64 y.hi]):=by rw[QWB,hj];rfl
  have wj:=KA j _ hlt (by simp only[maxLen];omega);have d0:decide (((j+1:Nat):Int) > 0)=true:=QXb (by omega);have hb:decide (x.lo > y.hi)=!decide (x.lo≤y.hi):=(by rw[QV7];simp only[QWA,QV9,QXc];omega);simp only[Sm,hj,hb]at hK;simp only[Fp,d0,wj,Qd,QWH,Qb,hg,hgj,h0,h1,h8,eE,seval];refine Qc (C9 fr s R d l h hR hl (-1) 11 m (decide (x.lo≤y.hi)) own) (by simp only[QVP,QWe,Qa,seval]<;>rfl) ?_;simp only[Qa,seval];exact hK _ (by simp only[Hd,U5,QWh,h0,h1,h2,h3,h8,Qa,seval])
end

include h hR hF in
theorem QzG (l:List PB)(hl:l.length≤1048576000):Qp Tryz.prog 95 [.ptr 0 s 0,.list (F.map QV),.int .i64 lo,.int .i64 hi] (Q7 fr s R d l :: m) fun x m1=>x=.tup []∧m1=Q7 fr s R d (l++upto F (Kq d lo hi F) F.length) :: m:=by
 have hul:∀n,n≤F.length→(l++upto F (Kq d lo hi F) n).length≤1051000000:=by
  intro n hn;have:=QY (l:=F) (Ka d lo hi F) n;rw[QVU];omega
 let I:Nat→St→Prop:=fun k st=>∃f own i,st=⟨f,own :: Q7 fr s R d (l++upto F (Kq d lo hi F) i) :: m,[]⟩∧k=F.length-i∧i≤F.length∧Hd f (U5 F s lo hi i)
 refine k95.go (by simp) ?_;simp only[r95,o95,EZ,Qa,seval];refine Qf I _ ⟨_,_,0,by rw[upto,QWg],rfl,QVr _,by simp only[Hd,U5,QWh,Qa,seval]<;>exact⟨rfl,trivial⟩⟩ ?_;rintro _ st ⟨f,own,i,rfl,rfl,hil,hf⟩;have hf':=hf;obtain⟨h0,h1,h2,h3,h8,-⟩:=hf';simp only[E2,E0,QWE,h1,h8,Qa,seval];by_cases hlt:i<F.length
 case neg=>
  have e:i=F.length:=by omega
  subst e;simp only[Qu hlt,Qa,seval]
 obtain⟨x,hx⟩:∃x,F[i]? = some x:=⟨F[i],QVl hlt⟩;have e1:=Qh i _ hlt (by simp only[maxLen];omega);simp only[Qs hlt,Qa,seval];have q0:=hul i hil;refine up3 fr s R d h hR lo hi F hF m _ i x hx own (by omega) _ (by simp only[Hd,U5,QWh,h0,h1,h2,h3,h8,Qa,seval]) _ (fun f hf=>?_);simp only[Qa,seval];have q1:=Q3 d (-1) (decide (x.lo≥lo)&&decide (x.hi≤hi)&&decide (x.lo≤x.hi)) 6;refine up4 fr s R d h hR lo hi F hF m _ i x hx own (by rw[QVU];omega) _ hf _ (fun f hf=>?_);clear h0 h1 h2 h3 h8;obtain⟨h0,h1,h2,h3,h8,-⟩:=hf;simp only[E1,h8,e1,Qa,seval];exact⟨F.length-(i+1),by omega,_,own,i+1,by rw[Zl hx,Sn,QVC,QVC],rfl,by omega,by simp only[Hd,U5,QWh,h0,h1,h2,h3,Qa,seval]⟩
end

end Go.Proofs.YtjjmjopabpakoaaGreatDoor.Va

/- Parts of the proof, in order. -/
import Derived.Test.YtafhmlkilcmniaaGreatDoorMPlanAgrees3

set_option linter.unusedSimpArgs false
set_option linter.unusedSectionVars false
namespace Go.Proofs.YtafhmlkilcmniaaGreatDoor.Va
open Go Am Rc Bt Br Up So

theorem He {M:Nat}(hM:M≤1048576)(S:SC)(cy:SM→Bool)(m:SM)(hm:m.ok M):(JQ S cy m).length≤14000000:=by
 have h1:=hm.len1;have h2:=hm.len2;have h3:=hm.len3;have a:=Q7 m.name (-1) (XE m.name) 8;have b:=Q7 m.name (-1) (decide (m.fields.length≤64)&&decide (m.free.length≤16)&&decide (m.gone.length≤16)) 3;have c:=QZ (l:=m.fields) (YE S m) m.fields.length;have d:=QZ (l:=m.free) (Ku m.name 1 65535 m.free) m.free.length;have e:=QZ (l:=m.gone) (g:=fun _ g=>pb m.name (-1) (Z9 g) 7) (c:=1) (fun _ g=>Q7 ..) m.gone.length;have f:=Q7 m.name (-1) (Zo m.notes 1==0) (Zo m.notes 1);have g:=Q7 m.name (-1) (!cy m) 19;unfold JQ XJ;simp only[QZn];omega
theorem Hf {M:Nat}(hM:M≤1048576)(e:SE)(he:e.ok M):(JD e).length≤14000000:=by
 have h1:=he.len1;have h2:=he.len2;have a:=Q7 e.name (-1) (XE e.name) 8;have b:=Q7 e.name (-1) (decide (e.items.length≥1)&&decide (e.items.length≤64)&&decide (e.free.length≤16)) 3;have b2:=Q7 e.name (-1) (Z2 e) 14;have c:=QZ (l:=e.items) (YF e) e.items.length;have d:=QZ (l:=e.free) (Ku e.name 0 2147483647 e.free) e.free.length;have f:=Q7 e.name (-1) (Zo e.notes 3==0) (Zo e.notes 3);unfold JD XJ;simp only[QZn];omega
theorem Mj {M:Nat}(hM:M≤1048576)(S:SC)(v:SQ)(hv:v.ok M):(J0 S v).length≤14000000:=by
 have h1:=hv.len1;have a:=Q7 v.name (-1) (XE v.name) 8;have b:=Q7 v.name (-1) (decide (v.meths.length≤64)) 3;have c:=QZ (l:=v.meths) (YG S v) v.meths.length;have f:=Q7 v.name (-1) (Zo v.notes 5==0) (Zo v.notes 5);unfold J0 XJ;simp only[QZn];omega
theorem Fp (l:List PB):(l.map PB.av).all (fun e=>e.cells.length==3)=true:=by
 rw[QYX];intro x hx;obtain⟨y,_,rfl⟩:=QZ1.1 hx;rfl

theorem Z4 (l:List (List UInt8)):(JS l).length≤2:=by
 have a:=Q7 [] (-1) (decide (l.length≤64)) 3;have b:=Q7 [] (-1) (XN l Op.bytesLess) 11;unfold JS;rw[QZn];omega
def Ka (A B C:List (List UInt8)):Nat→List PB
 |0=>[]
 |1=>JS A
 |2=>JS A++JS B
 |_=>JS A++JS B++JS C

section
variable (A B C:List (List UInt8))(hA:A.length≤1048576)(hB:B.length≤1048576)(hC:C.length≤1048576)(base:Nat→Ob)
def AF (f:Fr):Prop:=f 1=.ptr 0 1 0∧f 3=.ptr 0 15 0∧f 4=.ptr 0 4 0

include hA hB hC in
theorem QS5 (f:Fr)(hf:AF f)(h18:f 18=.agg [.list (A.map Qo),.list (B.map Qo),.list (C.map Qo)])(h19:f 19=.int .i64 0)(Q:Exit→St→Prop)
  (hq:∀f,AF f→Q (.exit 0) ⟨f,[Qr base 15 1100 [] (-1) (Ka A B C 3)],[]⟩):QN Tryz.prog (.loop Pf) ⟨f,[Qr base 15 1100 [] (-1) []],[]⟩ Q:=by
 let I:Nat→St→Prop:=fun n st=>∃f i,st=⟨f,[Qr base 15 1100 [] (-1) (Ka A B C i)],[]⟩∧n=3-i∧i≤3∧AF f∧f 18=.agg [.list (A.map Qo),.list (B.map Qo),.list (C.map Qo)]∧f 19=.int .i64 (i:Nat)
 refine Qe I _ ⟨f,0,rfl,rfl,by omega,hf,h18,h19⟩ ?_;clear hf h18 h19;rintro _ st ⟨f,i,rfl,rfl,hi,⟨h1,h3,h4⟩,h18,h19⟩;simp only[Pf,Lv,h19,Qa,seval];by_cases hlt:i<3
 case neg=>
  have e:i=3:=by omega
  subst e;have d:decide (((3:Nat):Int)<3)=false:=rfl;simp only[Qa,seval];exact hq _ ⟨h1,h3,h4⟩
 have d:decide ((i:Int)<3)=true:=Q0D (by omega);have e1:=Ql i 3 hlt (by simp only[maxLen];omega);have key:∀(L:List (List UInt8)) (hL:L.length≤1048576) (p:List PB) (hp:p.length≤100) (hs:Ka A B C (i+1)=p++JS L) (f:Fr) (h1:f 1=.ptr 0 1 0) (h3:f 3=.ptr 0 15 0) (h4:f 4=.ptr 0 4 0) (h18:f 18=.agg [.list (A.map Qo),.list (B.map Qo),.list (C.map Qo)]) (h19:f 19=.int .i64 (i:Nat)) (h6:f 6=.list (L.map Qo)),
   Qq Tryz.prog Pb ⟨f,[Qr base 15 1100 [] (-1) p],[]⟩ (Kc Tryz.prog (.reg Pd) (Kb 1 (Kc Tryz.prog (.reg Pe) (Kl I (3-i) Q))) Exit.normal):=by
  intro L hL p hp hs f h1 h3 h4 h18 h19 h6;simp only[Pb,h3,h6,QZ5,PD,Qa,seval];refine Qb (XQ base 15 1100 [] (-1) p (by decide) rfl (by omega) (decide (L.length≤64)) 3 []) (by simp only[QZh,QZG,Qa,seval]<;>rfl) ?_;simp only[Pd,h3,h6,Qa,seval];refine aC (s98 L (by simp only[maxLen];omega)) ?_
  try simp only[eE,seval]
  have q1:=Qx hp [] (-1) (decide (L.length≤64)) 3;refine Qb (XQ base 15 1100 [] (-1) _ (by decide) rfl (by omega) (XN L Op.bytesLess) 11 []) (by simp only[QZh,QZG,Qa,seval]<;>rfl) ?_;simp only[Pe,h19,e1,Qa,seval];exact⟨3-(i+1),by omega,_,i+1,by rw[hs,JS,QY4],rfl,by omega,⟨(by exact h1),(by exact h3),(by exact h4)⟩,(by exact h18),(by rfl)⟩
 rcases(show i=0∨i=1∨i=2 by omega)with rfl|rfl|rfl
 ·simp only[Be,h18,h19,Qa,seval];refine key A hA [] (by simp) rfl _ h1 h3 h4 h18 h19 rfl
 ·simp only[Be,h18,h19,Qa,seval];refine key B hB (JS A) (by have:=Z4 A;omega) rfl _ h1 h3 h4 h18 h19 rfl
 ·simp only[Be,h18,h19,Qa,seval];refine key C hC (JS A++JS B) (by have:=Z4 A;have:=Z4 B;simp only[QZn];omega) rfl _ h1 h3 h4 h18 h19 rfl
end

theorem Zy {α β:Type}{l:List α}{g:α→List β}{i:Nat}{x:α}(h:l[i]? = some x):(l.take (i+1)).flatMap g=(l.take i).flatMap g++g x:=by
 rw[Q0j,h,Q0k,List.flatMap_append,Q0b,List.flatMap_nil,QZI]
theorem JU {α β:Type}{l:List α}{g:α→List β}{c:Nat}(h:∀x∈l,(g x).length≤c):∀n,((l.take n).flatMap g).length≤c*n
 |0=>by simp
 |n+1=>by
  have ih:=JU h n;rw[Nat.mul_add];cases hx:l[n]? with
  |none=>
   rw[Q0j,hx,Option.toList_none,QZI];omega
  |some x=>
   have:=h x (QYY hx);rw[Zy hx,QZn];omega
def AR (fr:Nat→Ob)(L:List PB):Prop:=∃g,fr 15=.cells [.str [],.int .i64 (-1),.vec 0 1100 g 0 L.length false]∧fr 1100=.vec g 3 (L.map PB.av)

section
variable {M:Nat}(hM:M≤1048576)(S:SC)(hS:S.ok M)(X:List (List UInt8))
include hM hS in
theorem QS6 (l:List PB)(hl:l.length≤1000000000)(h8:S.msgs.length≤8)(f:Fr)(fr:Nat→Ob)(h1:f 1=.ptr 0 1 0)(h3:f 3=.ptr 0 15 0)(h7:f 7=.mp X (Xr X))(hw:f 39=.list (S.msgs.map QM))(hz:f 40=.int .i64 (S.msgs.length:Nat))(hk:f 41=.int .i64 0)
  (o1:fr 1=.cells [.list (S.msgs.map fun n=>.agg n.cells),.list (S.enums.map fun n=>.agg n.cells),.list (S.servs.map fun n=>.agg n.cells)]) (hA:AR fr l) (rv:∀s∈[9,11,13],(fr s).isRow=false) (Q:Exit→St→Prop)
  (hq:∀(f:Fr) (fr:Nat→Ob),f 1=.ptr 0 1 0→f 3=.ptr 0 15 0→f 7=.mp X (Xr X)→fr 1=.cells [.list (S.msgs.map fun n=>.agg n.cells),.list (S.enums.map fun n=>.agg n.cells),.list (S.servs.map fun n=>.agg n.cells)]→AR fr (l++S.msgs.flatMap (JQ S (fun m=>(Zj m).any fun n=>Q6 S n && !X.contains n)))→(∀s∈[9,11,13],(fr s).isRow=false)→Q (.exit 2) ⟨f,[fr],[]⟩):QN Tryz.prog (.loop Lx) ⟨f,[fr],[]⟩ Q:=by
 let I:Nat→St→Prop:=fun n st=>∃f fr i,st=⟨f,[fr],[]⟩∧n=S.msgs.length-i∧i≤S.msgs.length∧f 1=.ptr 0 1 0∧f 3=.ptr 0 15 0∧f 7=.mp X (Xr X)∧f 39=.list (S.msgs.map QM)∧f 40=.int .i64 (S.msgs.length:Nat)∧f 41=.int .i64 (i:Nat)∧
  fr 1=.cells [.list (S.msgs.map fun n=>.agg n.cells),.list (S.enums.map fun n=>.agg n.cells),.list (S.servs.map fun n=>.agg n.cells)]∧AR fr (l++(S.msgs.take i).flatMap (JQ S (fun m=>(Zj m).any fun n=>Q6 S n && !X.contains n)))∧∀s∈[9,11,13],(fr s).isRow=false
 have hg:∀x∈S.msgs,((JQ S (fun m=>(Zj m).any fun n=>Q6 S n && !X.contains n)) x).length≤14000000:=fun x hx=>He hM S _ x (hS.msgs x hx)
 refine Qe I _ ⟨f,fr,0,rfl,rfl,QYT _,h1,h3,h7,hw,hz,hk,o1,by simpa using hA,rv⟩ ?_;clear h1 h3 h7 hw hz hk o1 hA rv;rintro _ st ⟨f0,fr0,i,rfl,rfl,hi,h10,h30,h70,hw0,hz0,hk0,X0,⟨g,m15,mR⟩,rv⟩;refine QH (a:=_) [9] (by intro s hs;simp only[QZ0,Q0Q,or_false]at hs;subst hs;exact rv _ (by decide)) ?_;intro f fr hf hmm hn;have h1:f 1=.ptr 0 1 0:=by rw[hf,h10]<;>rfl
 have h3:f 3=.ptr 0 15 0:=by rw[hf,h30]<;>rfl
 have h7:f 7=.mp X (Xr X):=by rw[hf,h70]<;>rfl
 have hw:f 39=.list (S.msgs.map QM):=by rw[hf,hw0]<;>rfl
 have hz:f 40=.int .i64 (S.msgs.length:Nat):=by rw[hf,hz0]<;>rfl
 have hk:f 41=.int .i64 (i:Nat):=by rw[hf,hk0]<;>rfl
 have o1:fr 1=.cells [.list (S.msgs.map fun n=>.agg n.cells),.list (S.enums.map fun n=>.agg n.cells),.list (S.servs.map fun n=>.agg n.cells)]:=by rw[hmm 1 (by decide),X0]<;>rfl
 have oS:fr 15=.cells [.str [],.int .i64 (-1),.vec 0 1100 g 0 (l++(S.msgs.take i).flatMap (JQ S (fun m=>(Zj m).any fun n=>Q6 S n && !X.contains n))).length false]:=by rw[hmm 15 (by decide),m15]<;>rfl
 have oR:fr 1100=.vec g 3 ((l++(S.msgs.take i).flatMap (JQ S (fun m=>(Zj m).any fun n=>Q6 S n && !X.contains n))).map PB.av):=by rw[hmm 1100 (by decide),mR]<;>rfl
 have nv:=hn 9 (by decide);have rv':∀s∈[9,11,13],(fr s).isRow=false:=by
  intro s hs;by_cases hsv:s=9
  ·subst hsv;rw[nv];rfl
  ·rw[hmm s (by simp only[QZ0,Q0Q,or_false];exact hsv)];have:=rv s hs
   revert this
   cases fr0 s<;>intro h<;>first|rfl|exact h
 clear hf hmm hn h10 h30 h70 hw0 hz0 hk0 X0 m15 mR rv;simp only[R1,R2,R3,R4,hz,hk,Qa,seval];by_cases hlt:i<S.msgs.length
 case neg=>
  have e:i=S.msgs.length:=by omega
  subst e;simp only[Qy hlt,Qa,seval];rw[Q0h]at oS oR;exact hq _ _ h1 h3 h7 o1 ⟨g,oS,oR⟩ rv'
 obtain⟨x,hx⟩:∃x,S.msgs[i]? = some x:=⟨S.msgs[i],QYN hlt⟩;have hm:=QYY hx;have hgx:(S.msgs.map QM)[i]? = some (.agg x.cells):=by rw[QZ3,hx];rfl
 rw[Xe]at hgx;have e1:=Ql i _ hlt (by simp only[maxLen];omega);have q1:=JU hg i;have q2:=hg x hm;have hc:=QSO hM S hS x (hS.msgs x hm) X;simp only[QM,Xe,SC.av]at hc;simp only[Qw hlt,nv,Qj,QZ8,Qd,hgx,h1,h3,h7,hw,hk,o1,oS,eE,seval];refine aC hc ?_;refine QJ (xs:=(l++(S.msgs.take i).flatMap (JQ S (fun m=>(Zj m).any fun n=>Q6 S n && !X.contains n))).map PB.av) rfl oR rfl (by simp) rfl (Fp _) (by simp only[QZn,QZ5,maxLen];omega) (by simp only[QZn,QZ5];omega) ?_;simp only[hk,oS,e1,eE,seval];refine⟨S.msgs.length-(i+1),by omega,_,_,i+1,rfl,rfl,by omega,h1,h3,h7,hw,hz,rfl,o1,⟨g+1,?_,?_⟩,?_⟩
 ·rw[Zy hx,←QY4];simp only[QZn,QZ5,Qa,seval]
 ·rw[Zy hx,←QY4];simp only[Q0i,Qa,seval]
 ·intro s hs;simp only[QZ0,Q0Q,or_false]at hs;rcases hs with rfl|rfl|rfl<;>first|rfl|exact rv' _ (by decide)

include hM hS in
theorem QS7 (l:List PB)(hl:l.length≤1000000000)(h8:S.enums.length≤8)(f:Fr)(fr:Nat→Ob)(h1:f 1=.ptr 0 1 0)(h3:f 3=.ptr 0 15 0)(h7:f 7=.mp X (Xr X))(hw:f 59=.list (S.enums.map Xl))(hz:f 60=.int .i64 (S.enums.length:Nat))(hk:f 61=.int .i64 0)
  (o1:fr 1=.cells [.list (S.msgs.map fun n=>.agg n.cells),.list (S.enums.map fun n=>.agg n.cells),.list (S.servs.map fun n=>.agg n.cells)]) (hA:AR fr l) (rv:∀s∈[9,11,13],(fr s).isRow=false) (Q:Exit→St→Prop)
  (hq:∀(f:Fr) (fr:Nat→Ob),f 1=.ptr 0 1 0→f 3=.ptr 0 15 0→f 7=.mp X (Xr X)→fr 1=.cells [.list (S.msgs.map fun n=>.agg n.cells),.list (S.enums.map fun n=>.agg n.cells),.list (S.servs.map fun n=>.agg n.cells)]→AR fr (l++S.enums.flatMap (JD))→(∀s∈[9,11,13],(fr s).isRow=false)→Q (.exit 4) ⟨f,[fr],[]⟩):QN Tryz.prog (.loop Ly) ⟨f,[fr],[]⟩ Q:=by
 let I:Nat→St→Prop:=fun n st=>∃f fr i,st=⟨f,[fr],[]⟩∧n=S.enums.length-i∧i≤S.enums.length∧f 1=.ptr 0 1 0∧f 3=.ptr 0 15 0∧f 7=.mp X (Xr X)∧f 59=.list (S.enums.map Xl)∧f 60=.int .i64 (S.enums.length:Nat)∧f 61=.int .i64 (i:Nat)∧
  fr 1=.cells [.list (S.msgs.map fun n=>.agg n.cells),.list (S.enums.map fun n=>.agg n.cells),.list (S.servs.map fun n=>.agg n.cells)]∧AR fr (l++(S.enums.take i).flatMap (JD))∧∀s∈[9,11,13],(fr s).isRow=false
 have hg:∀x∈S.enums,((JD) x).length≤14000000:=fun x hx=>Hf hM x (hS.enums x hx)
 refine Qe I _ ⟨f,fr,0,rfl,rfl,QYT _,h1,h3,h7,hw,hz,hk,o1,by simpa using hA,rv⟩ ?_;clear h1 h3 h7 hw hz hk o1 hA rv;rintro _ st ⟨f0,fr0,i,rfl,rfl,hi,h10,h30,h70,hw0,hz0,hk0,X0,⟨g,m15,mR⟩,rv⟩;refine QH (a:=_) [11] (by intro s hs;simp only[QZ0,Q0Q,or_false]at hs;subst hs;exact rv _ (by decide)) ?_;intro f fr hf hmm hn;have h1:f 1=.ptr 0 1 0:=by rw[hf,h10]<;>rfl
 have h3:f 3=.ptr 0 15 0:=by rw[hf,h30]<;>rfl
 have h7:f 7=.mp X (Xr X):=by rw[hf,h70]<;>rfl
 have hw:f 59=.list (S.enums.map Xl):=by rw[hf,hw0]<;>rfl
 have hz:f 60=.int .i64 (S.enums.length:Nat):=by rw[hf,hz0]<;>rfl
 have hk:f 61=.int .i64 (i:Nat):=by rw[hf,hk0]<;>rfl
 have o1:fr 1=.cells [.list (S.msgs.map fun n=>.agg n.cells),.list (S.enums.map fun n=>.agg n.cells),.list (S.servs.map fun n=>.agg n.cells)]:=by rw[hmm 1 (by decide),X0]<;>rfl
 have oS:fr 15=.cells [.str [],.int .i64 (-1),.vec 0 1100 g 0 (l++(S.enums.take i).flatMap (JD)).length false]:=by rw[hmm 15 (by decide),m15]<;>rfl
 have oR:fr 1100=.vec g 3 ((l++(S.enums.take i).flatMap (JD)).map PB.av):=by rw[hmm 1100 (by decide),mR]<;>rfl
 have nv:=hn 11 (by decide);have rv':∀s∈[9,11,13],(fr s).isRow=false:=by
  intro s hs;by_cases hsv:s=11
  ·subst hsv;rw[nv];rfl
  ·rw[hmm s (by simp only[QZ0,Q0Q,or_false];exact hsv)];have:=rv s hs
   revert this
   cases fr0 s<;>intro h<;>first|rfl|exact h
 clear hf hmm hn h10 h30 h70 hw0 hz0 hk0 X0 m15 mR rv;simp only[R7,R8,R9,Sa,hz,hk,Qa,seval];by_cases hlt:i<S.enums.length
 case neg=>
  have e:i=S.enums.length:=by omega
  subst e;simp only[Qy hlt,Qa,seval];rw[Q0h]at oS oR;exact hq _ _ h1 h3 h7 o1 ⟨g,oS,oR⟩ rv'
 obtain⟨x,hx⟩:∃x,S.enums[i]? = some x:=⟨S.enums[i],QYN hlt⟩;have hm:=QYY hx;have hgx:(S.enums.map Xl)[i]? = some (.agg x.cells):=by rw[QZ3,hx];rfl
 rw[XR]at hgx;have e1:=Ql i _ hlt (by simp only[maxLen];omega);have q1:=JU hg i;have q2:=hg x hm;have hc:=QSU hM x (hS.enums x hm);simp only[Xl,XR]at hc;simp only[Qw hlt,nv,Qj,QZ8,Qd,hgx,h3,hw,hk,oS,eE,seval];refine aC hc ?_;refine QJ (xs:=(l++(S.enums.take i).flatMap (JD)).map PB.av) rfl oR rfl (by simp) rfl (Fp _) (by simp only[QZn,QZ5,maxLen];omega) (by simp only[QZn,QZ5];omega) ?_;simp only[hk,oS,e1,eE,seval];refine⟨S.enums.length-(i+1),by omega,_,_,i+1,rfl,rfl,by omega,h1,h3,h7,hw,hz,rfl,o1,⟨g+1,?_,?_⟩,?_⟩
 ·rw[Zy hx,←QY4];simp only[QZn,QZ5,Qa,seval]
 ·rw[Zy hx,←QY4];simp only[Q0i,Qa,seval]
 ·intro s hs;simp only[QZ0,Q0Q,or_false]at hs;rcases hs with rfl|rfl|rfl<;>first|rfl|exact rv' _ (by decide)

include hM hS in
theorem QS8 (l:List PB)(hl:l.length≤1000000000)(h8:S.servs.length≤8)(f:Fr)(fr:Nat→Ob)(h1:f 1=.ptr 0 1 0)(h3:f 3=.ptr 0 15 0)(h7:f 7=.mp X (Xr X))(hw:f 77=.list (S.servs.map Yf))(hz:f 78=.int .i64 (S.servs.length:Nat))(hk:f 79=.int .i64 0)
  (o1:fr 1=.cells [.list (S.msgs.map fun n=>.agg n.cells),.list (S.enums.map fun n=>.agg n.cells),.list (S.servs.map fun n=>.agg n.cells)]) (hA:AR fr l) (rv:∀s∈[9,11,13],(fr s).isRow=false) (Q:Exit→St→Prop)
  (hq:∀(f:Fr) (fr:Nat→Ob),f 1=.ptr 0 1 0→f 3=.ptr 0 15 0→f 7=.mp X (Xr X)→fr 1=.cells [.list (S.msgs.map fun n=>.agg n.cells),.list (S.enums.map fun n=>.agg n.cells),.list (S.servs.map fun n=>.agg n.cells)]→AR fr (l++S.servs.flatMap (J0 S))→(∀s∈[9,11,13],(fr s).isRow=false)→Q (.exit 6) ⟨f,[fr],[]⟩):QN Tryz.prog (.loop Lz) ⟨f,[fr],[]⟩ Q:=by
 let I:Nat→St→Prop:=fun n st=>∃f fr i,st=⟨f,[fr],[]⟩∧n=S.servs.length-i∧i≤S.servs.length∧f 1=.ptr 0 1 0∧f 3=.ptr 0 15 0∧f 7=.mp X (Xr X)∧f 77=.list (S.servs.map Yf)∧f 78=.int .i64 (S.servs.length:Nat)∧f 79=.int .i64 (i:Nat)∧
  fr 1=.cells [.list (S.msgs.map fun n=>.agg n.cells),.list (S.enums.map fun n=>.agg n.cells),.list (S.servs.map fun n=>.agg n.cells)]∧AR fr (l++(S.servs.take i).flatMap (J0 S))∧∀s∈[9,11,13],(fr s).isRow=false
 have hg:∀x∈S.servs,((J0 S) x).length≤14000000:=fun x hx=>Mj hM S x (hS.servs x hx)
 refine Qe I _ ⟨f,fr,0,rfl,rfl,QYT _,h1,h3,h7,hw,hz,hk,o1,by simpa using hA,rv⟩ ?_;clear h1 h3 h7 hw hz hk o1 hA rv;rintro _ st ⟨f0,fr0,i,rfl,rfl,hi,h10,h30,h70,hw0,hz0,hk0,X0,⟨g,m15,mR⟩,rv⟩;refine QH (a:=_) [13] (by intro s hs;simp only[QZ0,Q0Q,or_false]at hs;subst hs;exact rv _ (by decide)) ?_;intro f fr hf hmm hn;have h1:f 1=.ptr 0 1 0:=by rw[hf,h10]<;>rfl
 have h3:f 3=.ptr 0 15 0:=by rw[hf,h30]<;>rfl
 have h7:f 7=.mp X (Xr X):=by rw[hf,h70]<;>rfl
 have hw:f 77=.list (S.servs.map Yf):=by rw[hf,hw0]<;>rfl
 have hz:f 78=.int .i64 (S.servs.length:Nat):=by rw[hf,hz0]<;>rfl
 have hk:f 79=.int .i64 (i:Nat):=by rw[hf,hk0]<;>rfl
 have o1:fr 1=.cells [.list (S.msgs.map fun n=>.agg n.cells),.list (S.enums.map fun n=>.agg n.cells),.list (S.servs.map fun n=>.agg n.cells)]:=by rw[hmm 1 (by decide),X0]<;>rfl
 have oS:fr 15=.cells [.str [],.int .i64 (-1),.vec 0 1100 g 0 (l++(S.servs.take i).flatMap (J0 S)).length false]:=by rw[hmm 15 (by decide),m15]<;>rfl
 have oR:fr 1100=.vec g 3 ((l++(S.servs.take i).flatMap (J0 S)).map PB.av):=by rw[hmm 1100 (by decide),mR]<;>rfl
 have nv:=hn 13 (by decide);have rv':∀s∈[9,11,13],(fr s).isRow=false:=by
  intro s hs;by_cases hsv:s=13
  ·subst hsv;rw[nv];rfl
  ·rw[hmm s (by simp only[QZ0,Q0Q,or_false];exact hsv)];have:=rv s hs
   revert this
   cases fr0 s<;>intro h<;>first|rfl|exact h
 clear hf hmm hn h10 h30 h70 hw0 hz0 hk0 X0 m15 mR rv;simp only[Sc,Sd,Se,Sf,hz,hk,Qa,seval];by_cases hlt:i<S.servs.length
 case neg=>
  have e:i=S.servs.length:=by omega
  subst e;simp only[Qy hlt,Qa,seval];rw[Q0h]at oS oR;exact hq _ _ h1 h3 h7 o1 ⟨g,oS,oR⟩ rv'
 obtain⟨x,hx⟩:∃x,S.servs[i]? = some x:=⟨S.servs[i],QYN hlt⟩;have hm:=QYY hx;have hgx:(S.servs.map Yf)[i]? = some (.agg x.cells):=by rw[QZ3,hx];rfl
 rw[Wf]at hgx;have e1:=Ql i _ hlt (by simp only[maxLen];omega);have q1:=JU hg i;have q2:=hg x hm;have hc:=QSY hM S hS x (hS.servs x hm);simp only[Yf,Wf,SC.av]at hc;simp only[Qw hlt,nv,Qj,QZ8,Qd,hgx,h1,h3,hw,hk,o1,oS,eE,seval];refine aC hc ?_;refine QJ (xs:=(l++(S.servs.take i).flatMap (J0 S)).map PB.av) rfl oR rfl (by simp) rfl (Fp _) (by simp only[QZn,QZ5,maxLen];omega) (by simp only[QZn,QZ5];omega) ?_;simp only[hk,oS,e1,eE,seval];refine⟨S.servs.length-(i+1),by omega,_,_,i+1,rfl,rfl,by omega,h1,h3,h7,hw,hz,rfl,o1,⟨g+1,?_,?_⟩,?_⟩
 ·rw[Zy hx,←QY4];simp only[QZn,QZ5,Qa,seval]
 ·rw[Zy hx,←QY4];simp only[Q0i,Qa,seval]
 ·intro s hs;simp only[QZ0,Q0Q,or_false]at hs;rcases hs with rfl|rfl|rfl<;>first|rfl|exact rv' _ (by decide)

end

theorem s47 {M:Nat}(hM:M≤1048576)(S:SC)(hS:S.ok M)(h8:S.msgs.length≤8∧S.enums.length≤8∧S.servs.length≤8):Qi Tryz.prog 47 [S.av] (.list ((YB S (Dc S)).map PB.av)):=by
 obtain⟨l1,l2,l3⟩:=h8;refine k47.fn (by simp) ?_;simp only[r47,o47,Lq,Lr,SC.av,eE,seval];refine Xf rfl rfl rfl rfl ?_;simp only[Lt,eE,seval];have hc:=s96 hM S hS;have hf:=QSN hM S hS;simp only[SC.av]at hc hf;refine aC hc ?_;rw[Bq _ 15 1100 [] (-1) (by decide)];generalize hb:(Qt Qc 1 _:Nat→Ob)=base;have c4:∀n l,Qr base 15 1100 [] n l 4=.none:=fun n l=>by rw[Q0 _ _ _ _ _ _ (by decide) (by decide),←hb];rfl
 have o1:base 1=.cells [.list (S.msgs.map fun n=>.agg n.cells),.list (S.enums.map fun n=>.agg n.cells),.list (S.servs.map fun n=>.agg n.cells)]:=by rw[←hb];rfl
 have r9:∀s∈[9,11,13],base s=.none:=by
  intro s hs;rw[←hb];simp only[QZ0,Q0Q,or_false]at hs;rcases hs with rfl|rfl|rfl<;>rfl
 clear hb;simp only[c4,Lu,eE,seval];rw[Fo (by decide) (by decide)];generalize hA:S.msgs.map SM.name=A;generalize hB:S.enums.map SE.name=B;generalize hC:S.servs.map SQ.name=C;have lA:A.length≤8:=by rw[←hA,QZ5];exact l1
 have lB:B.length≤8:=by rw[←hB,QZ5];exact l2
 have lC:C.length≤8:=by rw[←hC,QZ5];exact l3
 generalize hb:(Qt base 4 _:Nat→Ob)=b2;have p1:∀n l,Qr b2 15 1100 [] n l 1=.cells [.list (S.msgs.map fun n=>.agg n.cells),.list (S.enums.map fun n=>.agg n.cells),.list (S.servs.map fun n=>.agg n.cells)]:=fun n l=>by rw[Q0 _ _ _ _ _ _ (by decide) (by decide),←hb];exact o1
 have p4:∀n l,Qr b2 15 1100 [] n l 4=.cells [.list (A.map Qo),.list (B.map Qo),.list (C.map Qo)]:=fun n l=>by rw[Q0 _ _ _ _ _ _ (by decide) (by decide),←hb];exact rfl
 have p9:∀n l,∀s∈[9,11,13],(Qr b2 15 1100 [] n l s).isRow=false:=by
  intro n l s hs;have e:s≠1100∧s≠15∧s≠4:=by simp only[QZ0,Q0Q,or_false]at hs;omega
  rw[Q0 _ _ _ _ _ _ e.1 e.2.1,←hb,Q2 _ _ e.2.2,r9 s hs];rfl
 clear hb o1 r9 c4;refine QS5 A B C (by omega) (by omega) (by omega) b2 _ ⟨rfl,rfl,rfl⟩ rfl rfl _ (fun f hf=>?_);obtain⟨h1,h3,h4⟩:=hf;have q0:(Ka A B C 3).length≤6:=by
  have a:=Z4 A;have b:=Z4 B;have c:=Z4 C;simp only[Ka,QZn];omega
 simp only[Lw,h3,h4,p4,eE,seval];refine aC (s99 A B C (by simp only[maxLen];omega) (by simp only[maxLen];omega) (by simp only[maxLen];omega)) ?_
 try simp only[eE,seval]
 refine Qb (XQ b2 15 1100 [] (-1) _ (by decide) rfl (by omega) (UQ A B C) 9 []) (by simp only[QZh,QZG,Qa,seval]<;>rfl) ?_;have q1:=Qx q0 [] (-1) (UQ A B C) 9;generalize hL:Ka A B C 3++pb [] (-1) (UQ A B C) 9=L at q1;simp only[RZ,h1,p1,eE,seval];refine aC hf ?_;simp only[R0,h1,p1,QZ5,eE,seval];refine QS6 hM S hS (Y5 S) L (by omega) l1 _ _ (by exact h1) (by exact h3) (by rfl) (by rfl) (by rfl) (by rfl) (p1 _ _) ⟨_,Kf _ _ _ _ _ _,Wu _ _ _ _ _ _ (by decide)⟩ (p9 _ _) _ (fun f fr h1 h3 h7 o1 hA1 r9=>?_);have q2:=JU (l:=S.msgs) (fun x hx=>He hM S (fun m=>(Zj m).any fun n=>Q6 S n && !(Y5 S).contains n) x (hS.msgs x hx)) S.msgs.length;rw[Q0h]at q2;simp only[R6,h1,o1,QZ5,eE,seval];refine QS7 hM S hS (Y5 S) _ (by rw[QZn];omega) l2 _ _ (by exact h1) (by exact h3) (by exact h7) (by rfl) (by rfl) (by rfl) o1 hA1 r9 _ (fun f fr h1 h3 h7 o1 hA1 r9=>?_);have q3:=JU (l:=S.enums) (fun x hx=>Hf hM x (hS.enums x hx)) S.enums.length;rw[Q0h]at q3;simp only[Sb,h1,o1,QZ5,eE,seval];refine QS8 hM S hS (Y5 S) _ (by rw[QZn,QZn];omega) l3 _ _ (by exact h1) (by exact h3) (by exact h7) (by rfl) (by rfl) (by rfl) o1 hA1 r9 _ (fun f fr h1 h3 h7 o1 hA1 r9=>?_);obtain⟨g,oS,oR⟩:=hA1;have ht:∀l:List PB,List.take l.length (List.map PB.av l)=List.map PB.av l:=fun l=>QZj (by rw[QZ5];exact QYK _)
 have hfin:L++S.msgs.flatMap (JQ S (fun m=>(Zj m).any fun n=>Q6 S n && !(Y5 S).contains n))++S.enums.flatMap JD++S.servs.flatMap (J0 S)=YB S (Dc S):=by
  rw[←hL];unfold YB Ka;rw[hA,hB,hC,←hA,←hB,←hC,Al];rfl
 rw[hfin]at oS oR;simp only[Sg,h3,oS,oR,QZ5,QZs,ht,QY9,QYK,QZJ,QZP,AV.un,eE,seval]

theorem s17 {M:Nat}(hM:M≤1048576)(S:SC)(hS:S.ok M)(h8:S.msgs.length≤8∧S.enums.length≤8∧S.servs.length≤8):Qi Tryz.prog 17 [S.av] (.bool (JN S)):=by
 have hc:=s47 hM S hS h8;have hv:(((YB S (Dc S)).length:Int)==0)=JN S:=by
  have e:=QfP (S:=S);rw[QZB,QY8,←e]
  constructor
  ·intro h;exact QZK (by omega)
  ·intro h;rw[h];rfl
 refine k17.fn (by simp) ?_;simp only[SC.av,eE,seval];simp only[SC.av]at hc;refine aC hc ?_;simp only[QZ5,hv,Qa,seval]

theorem u83 (L:List (List UInt8))(hl:L.length≤maxLen)(n:List UInt8):Qi Tryz.prog 83 [.list (L.map Qo),.str n] (.bool (L.contains n)):=by
 let I:Nat→St→Prop:=fun k st=>∃f i,st=⟨f,[Qc],[]⟩∧k=L.length-i∧L.contains n=(L.drop i).contains n∧f 0=.list (L.map Qo)∧f 1=.str n∧f 5=.int .i64 (i:Nat)
 refine k83.fn (by simp) ?_;simp only[Qa,seval];refine Qe I _ ⟨_,0,rfl,rfl,rfl,rfl,rfl,rfl⟩ ?_;rintro _ st ⟨f,i,rfl,rfl,hx,h0,h1,h5⟩;simp only[QZ5,h0,h5,Qa,seval];by_cases hlt:i<L.length
 ·obtain⟨x,hi⟩:∃x,L[i]? = some x:=⟨L[i],QYN hlt⟩;have hg:(L.map Qo)[i]? = some (.str x):=by simp[hi,Qo]
  have e1:=Ql i _ hlt hl;have hd:(L.drop i).contains n=((x==n)||(L.drop (i+1)).contains n):=by
   rw[QZt hlt,show L[i]=x from(QYM.1 hi).2,List.contains_cons];congr 1
   rw[QZB,QY8,QY8];exact eq_comm
  simp only[Qw hlt,Qj,QZ8,Qd,hg,h0,h1,h5,Qs,eE,seval];cases hp:(x==n)
  ·rw[hp,Q0s]at hd;rw[hd]at hx;simp only[h5,e1,Qa,seval];exact⟨L.length-(i+1),by omega,_,i+1,rfl,rfl,hx,h0,h1,rfl⟩
  ·rw[hp,Q0r]at hd;rw[hd]at hx;simp only[hx,Qa,seval]
 ·have hx':L.contains n=false:=by rw[hx,QZm (by omega)];rfl
  simp only[Qy hlt,hx',Qa,seval]

def An (S:SC)(n:List UInt8):Int:=QS (fun m:SE=>m.name==n) S.enums 0

theorem u95 (S:SC)(hl:S.msgs.length≤maxLen)(s:List UInt8):Qi Tryz.prog 95 [S.av,.str s] (.int .i64 (Wm S s)):=by
 let I:Nat→St→Prop:=fun k st=>∃f fr i,st=⟨f,[fr],[]⟩∧k=S.msgs.length-i∧Wm S s=QS (fun g:SM=>g.name==s) (S.msgs.drop i) i∧f 1=.str s∧f 2=.ptr 0 2 0∧f 5=.int .i64 (i:Nat)∧fr 2=.cells [.list (S.msgs.map fun n=>.agg n.cells),.list (S.enums.map fun n=>.agg n.cells),.list (S.servs.map fun n=>.agg n.cells)]
 refine k95.fn (by simp) ?_;simp only[SC.av,eE,seval];refine Qe I _ ⟨_,_,0,rfl,rfl,rfl,rfl,rfl,rfl,rfl⟩ ?_;rintro _ st ⟨f,fr,i,rfl,rfl,hx,h1,h2,h5,m2⟩;simp only[QZ5,h2,h5,m2,eE,seval];by_cases hlt:i<S.msgs.length
 ·obtain⟨x,hi⟩:∃x,S.msgs[i]? = some x:=⟨S.msgs[i],QYN hlt⟩;have hg:(S.msgs.map fun n=>AV.agg n.cells)[i]? = some (.agg x.cells):=by rw[QZ3,hi];rfl
  have e1:=Ql i _ hlt hl;rw[Xe]at hg;rw[XD _ hi]at hx;simp only[Qw hlt,Qj,QZ8,Qd,hg,h1,h2,h5,m2,Qs,eE,seval];cases hp:(x.name==s)
  ·rw[hp]at hx;simp only[QY3,if_false]at hx;simp only[h5,e1,Qa,seval];exact⟨S.msgs.length-(i+1),by omega,_,_,i+1,rfl,rfl,hx,h1,h2,rfl,m2⟩
  ·rw[hp]at hx;simp only[if_true]at hx;simp only[hx,h5,Qa,seval]
 ·have hx':Wm S s = -1:=by rw[hx,QZm (by omega)];rfl
  simp only[Qy hlt,hx',Qa,seval]

theorem QDz (S:SC)(hl:S.enums.length≤maxLen)(s:List UInt8):Qi Tryz.prog 142 [S.av,.str s] (.int .i64 (An S s)):=by
 let I:Nat→St→Prop:=fun k st=>∃f fr i,st=⟨f,[fr],[]⟩∧k=S.enums.length-i∧An S s=QS (fun g:SE=>g.name==s) (S.enums.drop i) i∧f 1=.str s∧f 2=.ptr 0 2 0∧f 5=.int .i64 (i:Nat)∧fr 2=.cells [.list (S.msgs.map fun n=>.agg n.cells),.list (S.enums.map fun n=>.agg n.cells),.list (S.servs.map fun n=>.agg n.cells)]
 refine QRj.fn (by simp) ?_;simp only[SC.av,eE,seval];refine Qe I _ ⟨_,_,0,rfl,rfl,rfl,rfl,rfl,rfl,rfl⟩ ?_;rintro _ st ⟨f,fr,i,rfl,rfl,hx,h1,h2,h5,m2⟩;simp only[QZ5,h2,h5,m2,eE,seval];by_cases hlt:i<S.enums.length
 ·obtain⟨x,hi⟩:∃x,S.enums[i]? = some x:=⟨S.enums[i],QYN hlt⟩;have hg:(S.enums.map fun n=>AV.agg n.cells)[i]? = some (.agg x.cells):=by rw[QZ3,hi];rfl
  have e1:=Ql i _ hlt hl;rw[XR]at hg;rw[XD _ hi]at hx;simp only[Qw hlt,Qj,QZ8,Qd,hg,h1,h2,h5,m2,Qs,eE,seval];cases hp:(x.name==s)
  ·rw[hp]at hx;simp only[QY3,if_false]at hx;simp only[h5,e1,Qa,seval];exact⟨S.enums.length-(i+1),by omega,_,_,i+1,rfl,rfl,hx,h1,h2,rfl,m2⟩
  ·rw[hp]at hx;simp only[if_true]at hx;simp only[hx,h5,Qa,seval]
 ·have hx':An S s = -1:=by rw[hx,QZm (by omega)];rfl
  simp only[Qy hlt,hx',Qa,seval]

theorem Ao (S:SC)(n:List UInt8):decide (Wm S n≥0)=Q6 S n:=Yv _ _
theorem QDA (S:SC)(n:List UInt8):decide (An S n≥0)=D7 S n:=Yv _ _
theorem Ap (S:SC)(n:List UInt8):decide (Wm S n<0)=!Q6 S n:=by
 rw[←Ao];exact(by rw[QZB];simp only[QZ2,QZD,Q0E];omega)

theorem u86 (s:List UInt8):Qi Tryz.prog 86 [.str s] (.bool (Xo s)):=by
 refine k86.fn (by simp) ?_;simp only[Xo,Qa,seval];refine aC (ET s) ?_;cases Q9 s
 ·simp only[Q0c,Qa,seval]
 ·simp only[Q0p,Qa,seval];refine aC (QCM s) ?_;simp only[Qa,seval]

def UsI (s:List UInt8)(k:Nat)(st:St):Prop :=
 ∃f u i,st=⟨f,[Qc],[]⟩∧k=u.length∧u.length≤120∧i+u.length≤120∧(u≠[]→(Qm u).all Q9=true)∧(Qm s).any ZL=TR u∧f 0=.str u∧f 3=.int .i64 (i:Nat)

theorem u85 (s:List UInt8):Qi Tryz.prog 85 [.str s] (.bool (XE s)):=by
 refine k85.fn (by simp) ?_;simp only[XE,Qa,seval];refine aC (QRB s) ?_;cases hf:(decide (s.length≤120)&&(Qm s).all Q9)
 ·simp only[Q0c,QZN,Qa,seval]
 simp only[Q0p,Q0q,Qa,seval];obtain⟨hl,ha⟩:=QYO.1 hf;have hl:=of_decide_eq_true hl;have hne:s≠[]:=by
  rintro rfl;cases ha
 refine Qe (UsI s) _ ⟨_,s,0,rfl,rfl,hl,by omega,fun _=>ha,by unfold TR;rw[QYR hne],rfl,rfl⟩ ?_;rintro _ st ⟨f,u,i,rfl,rfl,hul,hui,hua,hx,h0,h3⟩;simp only[h3,Qa,seval];by_cases hu:u=[]
 ·subst hu;have b0:(!(([]:List UInt8)==[]))=false:=rfl;have e:(Qm s).any ZL=false:=hx;cases hd:decide ((i:Int)<120)<;>simp only[b0,e,h0,Qs,QZN,Qa,seval]
 ·have b0:(!(u==[]))=true:=by simp[hu]
  have hlp:0<u.length:=QZZ.2 hu;have d:decide ((i:Int)<120)=true:=Q0D (by omega);have e1:IntKind.i64.wrap ((i:Int)+1)=((i+1:Nat):Int):=by simp only[QU];omega
  simp only[d,b0,h0,Qs,Qa,seval];refine aC (QRC u hul) ?_;simp only[Qa,seval];refine aC (QCM (Z7 u).2) ?_;have hw:TR u=(TR (Z7 u).1||ZL (Z7 u).2):=by
   unfold TR;rw[QYR hu];rcases N4 u with⟨h1,h2,h3⟩|⟨h1,h2⟩
   ·rw[h1,h2,QYS rfl,W8 h3];simp
   ·have hp:Qm u=Qm (Z7 u).1++[(Z7 u).2]:=by
     conv=>lhs;rw[h1]
     exact Da h2
    have ha':=hua hu;rw[hp,QZW,QY7]at ha';have hn:(Z7 u).1≠[]:=by
     intro h;rw[h]at ha';cases ha'.1
    rw[QYR hn,hp];simp
  cases hq:ZL (Z7 u).2
  ·rw[hq,Q0H]at hw;have hlen:(Z7 u).1.length<u.length∧((Z7 u).1≠[]→(Qm (Z7 u).1).all Q9=true):=by
    rcases N4 u with⟨h1,h2,h3⟩|⟨h1,h2⟩
    ·rw[h1];exact⟨hlp,fun h=>absurd rfl h⟩
    ·have hp:Qm u=Qm (Z7 u).1++[(Z7 u).2]:=by
      conv=>lhs;rw[h1]
      exact Da h2
     refine⟨?_,fun _=>?_⟩
     ·conv=>rhs;rw[h1]
      simp
     ·have ha':=hua hu;rw[hp,QZW,QY7]at ha';exact ha'.1
   simp only[h3,e1,Qa,seval];exact⟨(Z7 u).1.length,hlen.1,_,(Z7 u).1,i+1,rfl,rfl,by omega,by omega,hlen.2,by rw[hx,hw],rfl,rfl⟩
  ·rw[hq,Q0I]at hw;rw[hw]at hx;simp only[hx,Q0q,Qa,seval]

section
variable (k:Int)(b:Nat)(t:List UInt8)(l p s r:List AV)
theorem QS9:Qi Tryz.prog 145 [vo k b t l p s r] (vo k (XG k b) t l p s r):=by
 refine QRp.fn (by simp) ?_;simp only[vo,eE,seval];by_cases hk:k=6
 ·have b0:(k==6)=true:=by simp[hk]
  simp only[b0,eE,seval];refine aC (QRV b) ?_;simp only[N7,Qa,seval];by_cases hc:KL b=0
  ·simp only[hc,XG,hk,decide_true,QZJ,eE,seval]
   try rfl
  ·simp only[hc,XG,decide_false,and_false,eE,seval]
 ·have b0:(k==6)=false:=by simp[hk]
  simp only[b0,XG,hk,false_and,eE,seval]

theorem H8 (a b:Nat)(h:a+b≤9223372036854775807):IntKind.i64.wrap ((a:Int)+(b:Int))=((a+b:Nat):Int):=by
 simp only[QU];omega
theorem QTa (a b c d a2 b2 c2 d2:Nat)(h:a+b+c+d+(a2+b2+c2+d2)≤9223372036854775807):IntKind.i64.wrap (IntKind.i64.wrap (IntKind.i64.wrap (IntKind.i64.wrap (IntKind.i64.wrap (IntKind.i64.wrap (IntKind.i64.wrap ((a:Int)+(b:Int))+(c:Int))+(d:Int))+(a2:Int))+(b2:Int))+(c2:Int))+(d2:Int))=((a+b+c+d+(a2+b2+c2+d2):Nat):Int):=by
 rw[H8 a b (by omega),H8 (a+b) c (by omega),H8 (a+b+c) d (by omega),H8 (a+b+c+d) a2 (by omega),H8 (a+b+c+d+a2) b2 (by omega),H8 (a+b+c+d+a2+b2) c2 (by omega),H8 (a+b+c+d+a2+b2+c2) d2 (by omega)];congr 1
 omega

theorem QDC (k2:Int)(b2:Nat)(t2:List UInt8)(l2 p2 s2 r2:List AV)(h:l.length+p.length+s.length+r.length+(l2.length+p2.length+s2.length+r2.length)≤9223372036854775807) :
  Qi Tryz.prog 143 [vo k b t l p s r,vo k2 b2 t2 l2 p2 s2 r2] (.bool (k==k2&&(b:Int)==(b2:Int)&&t==t2&&((l.length+p.length+s.length+r.length+(l2.length+p2.length+s2.length+r2.length):Nat):Int)==0)):=by
 have w:=QTa _ _ _ _ _ _ _ _ h;refine QRm.fn (by simp) ?_;simp only[vo,eE,seval];cases h1:(k==k2)
 ·simp only[Q0c,Qa,seval]
 cases h2:((b:Int)==(b2:Int))
 ·simp only[h2,Q0c,Q0p,eE,seval]
 cases h3:(t==t2)
 ·simp only[h2,h3,Qs,Q0c,Q0p,eE,seval]
 simp only[h2,h3,Qs,w,Q0p,eE,seval]
end

theorem u88 (x:SF):Qi Tryz.prog 88 [QL x] (.bool (Yu x)):=by
 refine k88.fn (by simp) ?_;simp only[QL,Qz,eE,seval];unfold Yu D8;by_cases h5:x.card=5
 ·have d:(x.card != 5)=false:=by simp[h5]
  have q:(decide (x.card≥1)&&decide (x.card≤5))=true:=by rw[h5];rfl
  rw[q,QYS h5];rw[Q0p];by_cases hk:x.key=1∨x.key=2∨x.key=3∨x.key=4∨x.key=5∨x.key=7
  ·have e:(decide (x.key≥1)&&decide (x.key≤7)&&x.key != 6)=true:=by simp only[QY7,QZ2,QZc,ne_eq];omega
   rw[e];rcases hk with h|h|h|h|h|h<;>simp only[d,h,seval,eE]
  ·have e:(decide (x.key≥1)&&decide (x.key≤7)&&x.key != 6)=false:=by simp only[Q0J,Q0E,bne_eq_false_iff_eq];omega
   have k1:(x.key==1)=false:=by rw[Q0F];omega
   have k2:(x.key==2)=false:=by rw[Q0F];omega
   have k3:(x.key==3)=false:=by rw[Q0F];omega
   have k4:(x.key==4)=false:=by rw[Q0F];omega
   have k5:(x.key==5)=false:=by rw[Q0F];omega
   have k7:(x.key==7)=false:=by rw[Q0F];omega
   rw[e];simp only[d,k1,k2,k3,k4,k5,k7,eE,seval]
 ·have d:(x.card != 5)=true:=by simp[h5]
  rw[QYR h5];simp only[d,eE,seval];have q:decide (x.card≤5)=decide (x.card≤4):=(by rw[QZB];simp only[QZ2];omega);rw[q];cases h1:decide (x.card≥1)
  ·simp only[Q0c,Qa,seval]
  cases h2:decide (x.card≤4)
  ·simp only[h2,Q0p,Q0c,eE,seval]
  simp only[h2,Q0p,eE,seval]

section
variable {M:Nat}(S:SC)(hS:S.ok M)(hM:M≤1048576)(x:SF)(hx:x.ok M)
include hS hM in
theorem u89:Qi Tryz.prog 89 [S.av,QL x] (.bool (JL S x)):=by
 obtain⟨l1,l2,_⟩:=Jr S hS hM;have hm:=u95 S l1 x.tname;have he:=QDz S l2 x.tname;simp only[SC.av]at hm he;refine k89.fn (by simp) ?_;unfold JL;simp only[SC.av,QL,Qz,eE,seval];by_cases h3:x.kind=9
 ·have d3:(x.kind==9)=true:=by simp[h3]
  rw[QYR (by omega),QYS h3];simp only[d3,eE,seval];refine aC he ?_;simp only[QDA,Qa,seval]
 have d3:(x.kind==9)=false:=by simp[h3]
 by_cases h4:x.kind=10
 ·have d4:(x.kind==10)=true:=by simp[h4]
  rw[QYR (by omega),QYR h3,QYS h4];simp only[d3,d4,eE,seval];refine aC hm ?_;cases hh:Q6 S x.tname<;>simp only[Ao,hh,Q0p,Q0c,eE,seval]
 have d4:(x.kind==10)=false:=by simp[h4]
 by_cases h1:x.kind≥1
 ·have d1:decide (x.kind≥1)=true:=Q0D h1;by_cases h2:x.kind≤8
  ·have d2:decide (x.kind≤8)=true:=Q0D h2;rw[QYS ⟨h1,h2⟩];simp only[d1,d2,d3,d4,Qs,eE,seval]
  ·have d2:decide (x.kind≤8)=false:=Q0u h2;rw[QYR fun h=>h2 h.2,QYR h3,QYR h4];simp only[d1,d2,d3,d4,eE,seval]
 ·have d1:decide (x.kind≥1)=false:=Q0u h1;rw[QYR fun h=>h1 h.1,QYR h3,QYR h4];simp only[d1,d3,d4,eE,seval]
end

theorem Kv {α:Type}{l:List α}{q:α→Bool}{i:Nat}{x:α}(h:l[i]? = some x):(l.take (i+1)).any q=((l.take i).any q||q x):=by
 rw[Q0j,h,Q0k,List.any_append];simp

section
variable {M:Nat}(S:SC)(hS:S.ok M)(hM:M≤1048576)(x:SF)(hx:x.ok M)
include hS hM hx in
theorem u91:Qi Tryz.prog 91 [S.av,QL x] (.bool (Yb S x)):=by
 obtain⟨l1,l2,_⟩:=Jr S hS hM;have he:=QDz S l2 x.tname;have hv:=hx.dflt;have n1:=hv.nl;have n2:=hv.np;have n3:=hv.ns;have n4:=hv.nr;have n5:=hv.text;have hz:=QDC x.dflt.kd x.dflt.bits x.dflt.text (x.dflt.list.map V.av) (x.dflt.pairs.map V.pav) (x.dflt.slots.map V.sav) (x.dflt.raws.map R.av) 0 0 [] [] [] [] [] (by simp;omega);have hq:=QDC x.dflt.kd x.dflt.bits x.dflt.text (x.dflt.list.map V.av) (x.dflt.pairs.map V.pav) (x.dflt.slots.map V.sav) (x.dflt.raws.map R.av) x.dflt.kd (XG x.dflt.kd x.dflt.bits) x.dflt.text (x.dflt.list.map V.av) (x.dflt.pairs.map V.pav) (x.dflt.slots.map V.sav) (x.dflt.raws.map R.av) (by simp;omega);have hf:=QDb x.kind x.dflt.kd x.dflt.bits x.dflt.text (x.dflt.list.map V.av) (x.dflt.pairs.map V.pav) (x.dflt.slots.map V.sav) (x.dflt.raws.map R.av) (by simp only[maxLen];omega);have hn:=QS9 x.dflt.kd x.dflt.bits x.dflt.text (x.dflt.list.map V.av) (x.dflt.pairs.map V.pav) (x.dflt.slots.map V.sav) (x.dflt.raws.map R.av);have ef:x.dflt.fitk x.kind=X8 x.kind x.dflt.kd x.dflt.bits x.dflt.text (x.dflt.list.map V.av) (x.dflt.pairs.map V.pav) (x.dflt.slots.map V.sav) (x.dflt.raws.map R.av):=rfl;have ez:(x.dflt.kd==0&&((x.dflt.bits:Nat):Int)==((0:Nat):Int)&&x.dflt.text==[]&&(((x.dflt.list.map V.av).length+(x.dflt.pairs.map V.pav).length+(x.dflt.slots.map V.sav).length+(x.dflt.raws.map R.av).length+(([]:List AV).length+([]:List AV).length+([]:List AV).length+([]:List AV).length):Nat):Int)==0)=x.dflt.zro:=by
  unfold V.zro;rw[show(((x.dflt.bits:Nat):Int)==((0:Nat):Int))=(x.dflt.bits==0)from Jg _,Jg];simp only[QZ5,QZR,QZg]
 rw[ez]at hz;simp only[vo]at hf hn hz hq;simp only[SC.av]at he;refine k91.fn (by simp) ?_;unfold Yb;rw[ef];simp only[SC.av,QL,Qz,eE,seval];cases hd:x.hasd
 ·rw[QYS rfl];simp only[eE,seval];refine aC hz ?_;simp only[Qa,seval]
 rw[QYR (by simp)];by_cases hc:x.card=2
 case neg=>
  have d1:(x.card != 2)=true:=by simp[hc]
  rw[QYR fun h=>hc h.1];simp only[d1,eE,seval]
 have d1:(x.card != 2)=false:=by simp[hc]
 by_cases hu:x.union=[]
 case neg=>
  have d2:(!(x.union==[]))=true:=by simp[hu]
  rw[QYR fun h=>hu h.2.1];simp only[d1,d2,Qs,eE,seval]
 have d2:(!(x.union==[]))=false:=by simp[hu]
 simp only[d1,d2,Qs,eE,seval];refine aC hf ?_;cases hfv:X8 x.kind x.dflt.kd x.dflt.bits x.dflt.text (x.dflt.list.map V.av) (x.dflt.pairs.map V.pav) (x.dflt.slots.map V.sav) (x.dflt.raws.map R.av)
 ·rw[QYR fun h=>Bool.false_ne_true h.2.2.1];simp only[Qa,seval]
 simp only[eE,seval];refine aC hn ?_;simp only[Qa,seval];have eq2:(x.dflt.kd==x.dflt.kd&&((x.dflt.bits:Nat):Int)==((XG x.dflt.kd x.dflt.bits:Nat):Int)&&x.dflt.text==x.dflt.text&&(((x.dflt.list.map V.av).length+(x.dflt.pairs.map V.pav).length+(x.dflt.slots.map V.sav).length+(x.dflt.raws.map R.av).length+((x.dflt.list.map V.av).length+(x.dflt.pairs.map V.pav).length+(x.dflt.slots.map V.sav).length+(x.dflt.raws.map R.av).length):Nat):Int)==0)=decide (XG x.dflt.kd x.dflt.bits=x.dflt.bits):=by
  have hlon:Wb (x.dflt.list.map V.av) (x.dflt.pairs.map V.pav) (x.dflt.slots.map V.sav) (x.dflt.raws.map R.av)=true:=by
   unfold X8 at hfv;simp only[QY7]at hfv;exact hfv.1.1.1.1.2
  unfold Wb at hlon;simp only[QY7,QY8]at hlon;obtain⟨⟨⟨q1,q2⟩,q3⟩,q4⟩:=hlon;rw[QZB];simp only[QY7,QY8,QZ2,true_and,and_true];omega
 rw[eq2]at hq;refine aC hq ?_;by_cases hnb:XG x.dflt.kd x.dflt.bits=x.dflt.bits
 case neg=>
  rw[QYR fun h=>hnb h.2.2];simp only[hnb,decide_false,QZN,Qa,seval]
 rw[QYS ⟨hc,hu,hnb⟩];simp only[hnb,decide_true,Q0q,eE,seval];refine aC he ?_;by_cases h9:x.kind=9
 case neg=>
  have d9:(x.kind != 9)=true:=by simp[h9]
  rw[QYR h9];simp only[d9,eE,seval]
 have d9:(x.kind != 9)=false:=by simp[h9]
 rw[QYS h9];have e2:An S x.tname=QS (fun m:SE=>m.name==x.tname) S.enums 0:=rfl;rcases Xi (fun m:SE=>m.name==x.tname) S.enums 0 with⟨g1,g2⟩|⟨k,e,g1,g2,g3⟩
 ·rw[g1]at e2;simp only[e2,g2,d9,eE,seval]
 rw[g1,QY9]at e2;have hem:=hS.enums e (QYY g2);have hlm:=hem.len1;have hke:(S.enums.map fun n=>AV.agg n.cells)[k]? = some (.agg e.cells):=by rw[QZ3,g2];rfl
 rw[XR]at hke;have dk:decide ((k:Int)<0)=false:=Q0u (by omega);simp only[e2,g3,d9,dk,eE,seval]
 let I:Nat→St→Prop:=fun n st=>∃f fr i,st=⟨f,[fr],[]⟩∧n=e.items.length-i∧i≤e.items.length∧(e.items.take i).any (fun it=>IntKind.u64.wrap it.num==(x.dflt.bits:Int))=false∧f 2=.ptr 0 2 0∧f 5=.ptr 0 5 0∧f 6=.int .i64 (k:Nat)∧f 7=.int .i64 (i:Nat)∧
  fr 2=.cells [.list (S.msgs.map fun n=>.agg n.cells),.list (S.enums.map fun n=>.agg n.cells),.list (S.servs.map fun n=>.agg n.cells)]∧fr 5=.cells [.int .i64 x.dflt.kd,.int .u64 (x.dflt.bits:Nat),.str x.dflt.text,.list (x.dflt.list.map V.av),.list (x.dflt.pairs.map V.pav),.list (x.dflt.slots.map V.sav),.list (x.dflt.raws.map R.av)]
 refine Qe I _ ⟨_,_,0,rfl,rfl,QYT _,rfl,rfl,rfl,rfl,rfl,rfl,rfl⟩ ?_;rintro _ st ⟨f,fr,i,rfl,rfl,hi,hal,h2,h5,h6,h7,o2,o5⟩;simp only[Qj,QZ8,Qd,hke,QZ5,h2,h6,h7,o2,eE,seval];by_cases hlt:i<e.items.length
 ·obtain⟨y,hy⟩:∃y,e.items[i]? = some y:=⟨e.items[i],QYN hlt⟩;have hg:(e.items.map fun n=>AV.agg n.cells)[i]? = some (.agg y.cells):=by rw[QZ3,hy];rfl
  rw[JT]at hg;have e1:=Ql i _ hlt (by simp only[maxLen];omega);have ht:=Kv (q:=fun it:SI=>IntKind.u64.wrap it.num==(x.dflt.bits:Int)) hy;rw[hal,Q0s]at ht;simp only[Qw hlt,Qj,QZ8,Qd,hke,hg,h2,h5,h6,h7,o2,o5,eE,seval];cases hp:(IntKind.u64.wrap y.num==(x.dflt.bits:Int))
  ·rw[hp]at ht;simp only[h7,e1,Qa,seval];exact⟨e.items.length-(i+1),by omega,_,_,i+1,rfl,rfl,by omega,ht,h2,h5,h6,rfl,o2,o5⟩
  ·have hr:e.items.any (fun it=>IntKind.u64.wrap it.num==(x.dflt.bits:Int))=true:=Q0A.2 ⟨y,QYY hy,hp⟩;simp only[hr,Qa,seval]
 ·have hr:e.items.any (fun it=>IntKind.u64.wrap it.num==(x.dflt.bits:Int))=false:=by rw[←hal,QZj (by omega)]
  simp only[Qy hlt,hr,Qa,seval]
end

def upv (m:SM)(u:List UInt8):Nat→Bool
 |0=>true
 |j+1=>match m.fields[j]? with
  |none=>true
  |some y=>y.union==u
theorem Qf1 {m:SM}{i:Nat}{x:SF}(hi:m.fields[i]? = some x):JM m i=(x.union==[]||(x.card==2&&Xo x.union && !(m.fields.any fun y=>y.name==x.union)&&(!((m.fields.take i).any fun y=>y.union==x.union)||upv m x.union i))):=by
 unfold JM;rw[hi];cases i<;>rfl

section
variable {M:Nat}(hM:M≤1048576)(m:SM)(hm:m.ok M)(i:Nat)(x:SF)(hi:m.fields[i]? = some x)
include hM hm hi in
theorem u90:Qi Tryz.prog 90 [QM m,.int .i64 (i:Nat)] (.bool (JM m i)):=by
 have hil:=(QYM.1 hi).1;have hl1:=hm.len1;have hg:(m.fields.map fun n=>AV.agg n.cells)[i]? = some (.agg x.cells):=by rw[QZ3,hi];rfl
 rw[Qz]at hg;have hun:=Qf1 hi;refine k90.fn (by simp) ?_;simp only[QM,Xe,Qj,QZ8,Qd,hg,eE,seval];by_cases hu:x.union=[]
 ·have d:(x.union==[])=true:=by simp[hu]
  rw[d,Q0r]at hun;simp only[d,hun,Qs,Qa,seval]
 have d:(x.union==[])=false:=by simp[hu]
 rw[d,Q0s]at hun;by_cases hc:x.card=2
 case neg=>
  have d1:(x.card != 2)=true:=by simp[hc]
  have d1':(x.card==2)=false:=by simp[hc]
  rw[d1']at hun;simp only[Q0c]at hun;simp only[d,d1,hun,Qs,eE,seval]
 have d1:(x.card != 2)=false:=by simp[hc]
 have d1':(x.card==2)=true:=by simp[hc]
 rw[d1',Q0p]at hun;simp only[d,d1,Qs,eE,seval];refine aC (u86 x.union) ?_;cases hus:Xo x.union
 ·rw[hus]at hun;simp only[Q0c]at hun;simp only[hun,QZN,Qa,seval]
 rw[hus,Q0p]at hun;simp only[Q0q,Qa,seval]
 let I:Nat→St→Prop:=fun n st=>∃f fr j,st=⟨f,[fr],[]⟩∧n=m.fields.length-j∧j≤m.fields.length∧(m.fields.take j).any (fun y=>y.name==x.union)=false∧f 1=.int .i64 (i:Nat)∧f 2=.ptr 0 2 0∧f 5=.ptr 0 5 0∧f 6=.bool ((m.fields.take (min j i)).any fun y=>y.union==x.union)∧f 7=.int .i64 (j:Nat)∧
  fr 2=.cells [.str m.name,.list (m.fields.map fun n=>.agg n.cells),.list (m.free.map fun n=>.agg n.cells),.list (m.gone.map AV.str),.list (m.notes.map fun n=>.agg n.cells)]∧fr 5=.cells x.cells
 refine Qe I _ ⟨_,_,0,rfl,rfl,QYT _,rfl,rfl,rfl,rfl,by rw[Nat.zero_min];exact rfl,rfl,rfl,by rw[Qz];exact rfl⟩ ?_;rintro _ st ⟨f,fr,j,rfl,rfl,hj,hal,h1,h2,h5,h6,h7,o2,o5⟩;rw[Qz]at o5;simp only[QZ5,h2,h7,o2,eE,seval];by_cases hlt:j<m.fields.length
 ·obtain⟨y,hy⟩:∃y,m.fields[j]? = some y:=⟨m.fields[j],QYN hlt⟩;have hgy:(m.fields.map fun n=>AV.agg n.cells)[j]? = some (.agg y.cells):=by rw[QZ3,hy];rfl
  rw[Qz]at hgy;have e1:=Ql j _ hlt (by simp only[maxLen];omega);have ht:=Kv (q:=fun y:SF=>y.name==x.union) hy;rw[hal,Q0s]at ht;simp only[Qw hlt,Qj,QZ8,Qd,hgy,h2,h5,h7,o2,o5,Qs,eE,seval];cases hp:(y.name==x.union)
  case true=>
   have hr:m.fields.any (fun y=>y.name==x.union)=true:=Q0A.2 ⟨y,QYY hy,hp⟩;rw[hr]at hun;simp only[Q0q,Q0c]at hun;simp only[hun,Qa,seval]
  rw[hp]at ht;simp only[h1,h7,Qa,seval];by_cases hji:j<i
  case neg=>
   have dji:decide ((j:Int)<(i:Nat))=false:=Q0u (by omega);have hmn:min (j+1) i=min j i:=by omega
   simp only[dji,h7,e1,Qa,seval];exact⟨m.fields.length-(j+1),by omega,_,_,j+1,rfl,rfl,by omega,ht,h1,h2,h5,by rw[hmn];exact h6,rfl,o2,by rw[Qz];exact o5⟩
  have dji:decide ((j:Int)<(i:Nat))=true:=Q0D (by omega);have hm1:min (j+1) i=j+1:=by omega
  have hm0:min j i=j:=by omega
  have ht2:=Kv (q:=fun y:SF=>y.union==x.union) hy;rw[hm0]at h6;simp only[dji,Qj,QZ8,Qd,hgy,h2,h5,h7,o2,o5,Qs,eE,seval];cases hpu:(y.union==x.union)
  ·rw[hpu,Q0H]at ht2;simp only[h7,e1,Qa,seval];exact⟨m.fields.length-(j+1),by omega,_,_,j+1,rfl,rfl,by omega,ht,h1,h2,h5,by rw[hm1,ht2];exact h6,rfl,o2,by rw[Qz];exact o5⟩
  ·rw[hpu,Q0I]at ht2;simp only[h7,e1,Qa,seval];exact⟨m.fields.length-(j+1),by omega,_,_,j+1,rfl,rfl,by omega,ht,h1,h2,h5,by rw[hm1,ht2];exact rfl,rfl,o2,by rw[Qz];exact o5⟩
 have hjl:j=m.fields.length:=by omega
 have hmi:min j i=i:=by omega
 rw[hmi]at h6;rw[QZj (by omega)]at hal;rw[hal]at hun;simp only[QZN,Q0p]at hun;simp only[Qy hlt,h6,Qa,seval];cases hea:(m.fields.take i).any fun y=>y.union==x.union
 ·rw[hea]at hun;simp only[QZN,Q0r]at hun;simp only[hun,QZN,Qa,seval]
 rw[hea]at hun;simp only[Q0q,Q0s]at hun;cases i with
 |zero=>cases hea
 |succ k=>
  obtain⟨y,hy⟩:∃y,m.fields[k]? = some y:=⟨m.fields[k]'(by omega),QYN (by omega)⟩;have hgy:(m.fields.map fun n=>AV.agg n.cells)[k]? = some (.agg y.cells):=by rw[QZ3,hy];rfl
  rw[Qz]at hgy;have e2:=KS k _ hil (by simp only[maxLen];omega);rw[upv,hy]at hun;simp only[Q0q,e2,Qj,QZ8,Qd,hgy,h1,h2,h5,o2,o5,Qs,hun,eE,seval]
end

section
variable {M:Nat}(hM:M≤1048576)(S:SC)(hS:S.ok M)(F:List Bool)(hF:F.length=S.msgs.length)
include hM hS hF in
theorem u84 (m:SM)(hm:m.ok M):Qi Tryz.prog 84 [S.av,QM m,.list (F.map AV.bool)] (.bool (Xm S F m)):=by
 obtain⟨l1,l2,_⟩:=Jr S hS hM;have hl1:=hm.len1;generalize hp:(fun n=>decide (Wm S n≥0) && !(F[(Wm S n).toNat]?.getD false))=p;have hs:Xm S F m=(X5 m m.fields.length).any p:=by
  unfold Xm X5 Zj;rw[Q0h,hp]
 let I:Nat→St→Prop:=fun n st=>∃f fr j,st=⟨f,[fr],[]⟩∧n=m.fields.length-j∧j≤m.fields.length∧(X5 m j).any p=false∧f 2=.list (F.map AV.bool)∧f 3=.ptr 0 3 0∧f 4=.ptr 0 4 0∧f 7=.int .i64 (j:Nat)∧
  fr 3=.cells [.list (S.msgs.map fun n=>.agg n.cells),.list (S.enums.map fun n=>.agg n.cells),.list (S.servs.map fun n=>.agg n.cells)]∧fr 4=.cells m.cells∧∀s∈[8],(fr s).isRow=false
 refine k84.fn (by simp) ?_;simp only[SC.av,QM,Xe,eE,seval];refine Qe I _ ⟨_,_,0,rfl,rfl,QYT _,rfl,rfl,rfl,rfl,rfl,rfl,by rw[Xe];exact rfl,by intro s hs;simp only[QZ0,Q0Q,or_false]at hs;subst hs;rfl⟩ ?_;rintro _ st ⟨f0,fr0,j,rfl,rfl,hj,hal,h20,h30,h40,h70,K8,Wl,r8⟩;refine QH (a:=_) [8] r8 ?_;intro f fr hf hmm hn;have h2:f 2=.list (F.map AV.bool):=by rw[hf,h20]<;>rfl
 have h3:f 3=.ptr 0 3 0:=by rw[hf,h30]<;>rfl
 have h4:f 4=.ptr 0 4 0:=by rw[hf,h40]<;>rfl
 have h7:f 7=.int .i64 (j:Nat):=by rw[hf,h70]<;>rfl
 have o3:fr 3=.cells [.list (S.msgs.map fun n=>.agg n.cells),.list (S.enums.map fun n=>.agg n.cells),.list (S.servs.map fun n=>.agg n.cells)]:=by rw[hmm 3 (by decide),K8]<;>rfl
 have o4:fr 4=.cells m.cells:=by rw[hmm 4 (by decide),Wl]<;>rfl
 have n8:=hn 8 (by decide);clear hf hmm hn h20 h30 h40 h70 K8 Wl r8;have o4':=o4;rw[Xe]at o4;simp only[QZ5,h4,h7,o4,eE,seval];by_cases hlt:j<m.fields.length
 case neg=>
  have ej:j=m.fields.length:=by omega
  subst ej;rw[hal]at hs;simp only[Qy hlt,hs,Qa,seval]
 obtain⟨x,hx⟩:∃x,m.fields[j]? = some x:=⟨m.fields[j],QYN hlt⟩;have hg:(m.fields.map fun n=>AV.agg n.cells)[j]? = some (.agg x.cells):=by rw[QZ3,hx];rfl
 rw[Qz]at hg;have e1:=Ql j _ hlt (by simp only[maxLen];omega);have hnd:=F3 hx;simp only[Qw hlt,n8,Qj,QZ8,Qd,hg,h4,h7,o4,eE,seval];have key:∀f:Fr,∀fr:Nat→Ob,(X5 m (j+1)).any p=false→f 2=.list (F.map AV.bool)→f 3=.ptr 0 3 0→f 4=.ptr 0 4 0→f 7=.int .i64 ((j+1:Nat):Int)→fr 3=.cells [.list (S.msgs.map fun n=>.agg n.cells),.list (S.enums.map fun n=>.agg n.cells),.list (S.servs.map fun n=>.agg n.cells)]→fr 4=.cells m.cells→(fr 8).isRow=false→∃k,k<m.fields.length-j∧I k ⟨f,[fr],[]⟩ :=
  fun f fr a b c d e g h i=>⟨m.fields.length-(j+1),by omega,f,fr,j+1,rfl,rfl,by omega,a,b,c,d,e,g,h,fun s hs=>by simp only[QZ0,Q0Q,or_false]at hs;subst hs;exact i⟩
 by_cases hc:x.card=1
 case neg=>
  have d1:(x.card != 1)=true:=by simp[hc]
  rw[QYR (by simp[hc])]at hnd;simp only[d1,h7,e1,Qa,seval];exact key _ _ (by rw[hnd];exact hal) h2 h3 h4 rfl o3 o4' rfl
 have d1:(x.card != 1)=false:=by simp[hc]
 by_cases hk:x.kind=10
 case neg=>
  have d2:(x.kind != 10)=true:=by simp[hk]
  rw[QYR (by simp[hk])]at hnd;simp only[d1,d2,h7,e1,eE,seval];exact key _ _ (by rw[hnd];exact hal) h2 h3 h4 rfl o3 o4' rfl
 have d2:(x.kind != 10)=false:=by simp[hk]
 rw[QYS (by simp[hc,hk])]at hnd;have hh:=u95 S l1 x.tname;simp only[SC.av]at hh;simp only[d1,d2,h3,o3,eE,seval];refine aC hh ?_;have hpn:(X5 m (j+1)).any p=p x.tname:=by
  rw[hnd,List.any_append,hal,Q0s];simp
 rcases Xi (fun m:SM=>m.name==x.tname) S.msgs 0 with⟨g1,g2⟩|⟨k,y,g1,g2,g3⟩
 ·have e2:Wm S x.tname = -1:=g1;have e3:p x.tname=false:=by rw[←hp];simp[e2]
  simp only[e2,h7,e1,Qa,seval];exact key _ _ (by rw[hpn,e3]) h2 h3 h4 rfl o3 o4' rfl
 ·rw[QY9]at g1;have e2:Wm S x.tname=(k:Int):=g1;have hkl:k<F.length:=by rw[hF];exact(QYM.1 g2).1
  have hFk:F[k]? = some F[k]:=QYN hkl;have hFm:(F.map AV.bool)[k]? = some (.bool F[k]):=by rw[QZ3,hFk];rfl
  have dk:decide ((k:Int)≥0)=true:=Q0D (by omega);have e3:p x.tname=!F[k]:=by
   rw[←hp];simp[e2,hFk]
  simp only[e2,Qj,QZ8,Qd,hFm,h2,eE,seval];cases hb:F[k]
  ·rw[hb]at e3;have hr:Xm S F m=true:=by
    rw[hs];have hin:x.tname∈X5 m m.fields.length:=by
     unfold X5;rw[Q0h];exact QZ1.2 ⟨x,List.mem_filter.2 ⟨QYY hx,by simp[hc,hk]⟩,rfl⟩
    exact Q0A.2 ⟨_,hin,e3⟩
   simp only[hr,QZN,Qa,seval]
  ·rw[hb]at e3;simp only[h7,e1,Q0q,Qa,seval];exact key _ _ (by rw[hpn,e3];rfl) h2 h3 h4 rfl o3 o4' rfl
end

structure FnS (S:SC)(B:List Bool)(a:Bool)(r:Nat)(f:Fr)(fr:Nat→Ob):Prop where
 h1:f 1=.ptr 0 1 0
 o1:fr 1=.cells [.list (S.msgs.map fun n=>.agg n.cells),.list (S.enums.map fun n=>.agg n.cells),.list (S.servs.map fun n=>.agg n.cells)]
 h3:f 3=.vec 0 10 1 0 S.msgs.length false
 m10:fr 10=.vec 1 1 (B.map AV.bool)
 h4:f 4=.bool a
 h5:f 5=.int .i64 (r:Nat)

section
variable {M:Nat}(hM:M≤1048576)(S:SC)(hS:S.ok M)
include hM hS
theorem QMc (r:Nat)(F:List Bool)(hF:F.length=S.msgs.length)(f:Fr)(fr:Nat→Ob)(H:FnS S F false r f fr)(h6:f 6=.int .i64 0)(Q:Exit→St→Prop)
  (hq:∀f fr,FnS S (Xc S F S.msgs.length) (decide (Xc S F S.msgs.length≠F)) r f fr→Q (.exit 2) ⟨f,[fr],[]⟩):QN Tryz.prog (.loop Qaz) ⟨f,[fr],[]⟩ Q:=by
 let I:Nat→St→Prop:=fun n st=>∃f fr i,st=⟨f,[fr],[]⟩∧n=S.msgs.length-i∧i≤S.msgs.length∧FnS S (Xc S F i) (decide (Xc S F i≠F)) r f fr∧f 6=.int .i64 (i:Nat)
 have hl1:=hS.len1;refine Qe I _ ⟨f,fr,0,rfl,rfl,QYT _,by rw[Xc,Q0u (by simp)];exact H,h6⟩ ?_;clear H h6;rintro _ st ⟨f,fr,i,rfl,rfl,hi,⟨h1,o1,h3,m10,h4,h5⟩,h6⟩;simp only[QZ5,h1,h6,o1,eE,seval];by_cases hlt:i<S.msgs.length
 case neg=>
  have e:i=S.msgs.length:=by omega
  subst e;simp only[Qy hlt,Qa,seval];exact hq _ _ ⟨h1,o1,h3,m10,h4,h5⟩
 obtain⟨x,hx⟩:∃x,S.msgs[i]? = some x:=⟨S.msgs[i],QYN hlt⟩;have hg:(S.msgs.map fun n=>AV.agg n.cells)[i]? = some (.agg x.cells):=by rw[QZ3,hx];rfl
 rw[Xe]at hg;have e1:=Ql i _ hlt (by simp only[maxLen];omega);have hsl:(Xc S F i).length=S.msgs.length:=by rw[KU,hF]
 have hss:Xc S F (i+1)=KM S (Xc S F i) i:=rfl;have htr:=Wy S F i;have htr2:=Wy S F (i+1);generalize Xc S F i=B at *;obtain⟨b,hb⟩:∃b,B[i]? = some b:=⟨B[i]'(by omega),QYN (by omega)⟩;have hbm:(B.map AV.bool)[i]? = some (.bool b):=by rw[QZ3,hb];rfl
 have ia:∀fr':Nat→Ob,fr' 10=.vec 1 1 (B.map AV.bool)→Qd [fr'] 1 none (.vec 0 10 1 0 S.msgs.length false) (i:Int)=some (.vptr 0 10 1 i 0):=by
  intro fr' h;have e:Am.Qh [fr'] 0 10=.vec 1 1 (B.map AV.bool):=h;simp only[Qd,e,Qj,if_true,QZ8];simp;omega
 have il:∀fr':Nat→Ob,fr' 10=.vec 1 1 (B.map AV.bool)→Q5 [fr'] none (.vptr 0 10 1 i 0)=some (.bool b):=by
  intro fr' h;have e:Am.Qh [fr'] 0 10=.vec 1 1 (B.map AV.bool):=h;simp[Q5,e,hb,AV.cells]<;>rfl
 cases b
 case true=>
  have hst:KM S B i=B:=by
   unfold KM;rw[hx];dsimp only;rw[QYR (by rw[hb];simp)]
  rw[hst]at hss;simp only[Qw hlt,ia _ m10,il _ m10,h3,h6,e1,Qa,seval];exact⟨S.msgs.length-(i+1),by omega,_,_,i+1,rfl,rfl,by omega,by rw[hss];exact⟨h1,o1,h3,m10,h4,h5⟩,rfl⟩
 have hc:=u84 hM S hS B hsl x (hS.msgs x (QYY hx));simp only[QM,Xe,SC.av]at hc;simp only[Qw hlt,ia _ m10,il _ m10,h1,h3,h6,o1,QZN,eE,seval];simp only[Qj,QZ8,Qd,hg,eE,seval];refine Xu hc ?_ rfl rfl (.inr rfl) ?_
 ·have ht:List.take S.msgs.length (B.map AV.bool)=B.map AV.bool:=QZj (by rw[QZ5];omega);simp only[QZh,QZG,AV.stillL,AV.still,Am.Qh,m10,QZ5,hsl,ht,QZs,QY9,QYK,QZJ,Q0c,QY3,Qa,seval]<;>rfl
 cases hn:Xm S B x
 case true=>
  have hst:KM S B i=B:=by
   unfold KM;rw[hx];dsimp only;rw[QYR (by rw[hn];simp)]
  rw[hst]at hss;simp only[h6,e1,Q0q,Qa,seval];exact⟨S.msgs.length-(i+1),by omega,_,_,i+1,rfl,rfl,by omega,by rw[hss];exact⟨h1,o1,h3,m10,h4,h5⟩,rfl⟩
 have hst:KM S B i=B.set i true:=by
  unfold KM;rw[hx];dsimp only;rw[QYS ⟨hb,hn⟩]
 rw[hst]at hss;have hne:decide (Xc S F (i+1)≠F)=true:=by
  have h1:=CY hb;refine Q0D fun h=>?_
  rw[hss]at h;rw[h]at h1;rcases htr with g|g
  ·rw[g]at h1;omega
  ·omega
 have ist:∀fr':Nat→Ob,fr' 10=.vec 1 1 (B.map AV.bool)→Q8 [fr'] (.vptr 0 10 1 i 0) [.bool true]=some [Qt fr' 10 (.vec 1 1 ((B.set i true).map AV.bool))]:=by
  intro fr' h;have e:Am.Qh [fr'] 0 10=.vec 1 1 (B.map AV.bool):=h;rw[List.map_set];simp only[Q8,e,hbm];simp[AV.cells,AV.rfL,AV.rf,Am.put,Jt]
 simp only[ia _ m10,ist _ m10,h3,h6,e1,QZN,eE,seval];exact⟨S.msgs.length-(i+1),by omega,_,_,i+1,rfl,rfl,by omega,by rw[hne,hss];exact⟨h1,o1,h3,rfl,rfl,h5⟩,rfl⟩

theorem u43:Qi Tryz.prog 43 [S.av] (.list ((QV S).map AV.bool)):=by
 have hl1:=hS.len1;have hz:X6 1 [AV.bool false]=.bool false:=rfl;have hr0:List.replicate S.msgs.length (AV.bool false)=(List.replicate S.msgs.length false).map AV.bool:=by simp
 let I:Nat→St→Prop:=fun n st=>∃f fr r F a,st=⟨f,[fr],[]⟩∧n=S.msgs.length-r∧r≤S.msgs.length∧F.length=S.msgs.length∧QV S=(if a=true then Z1 S (S.msgs.length-r) F else F)∧FnS S F a r f fr
 refine k43.fn (by simp) ?_;simp only[SC.av,QZ5,eE,seval];refine V9 (n:=S.msgs.length) (k:=S.msgs.length) rfl rfl (QYK _) (by omega) (by omega) rfl ?_;simp only[hz,hr0,Qa,seval];refine Qe I _ ⟨_,_,0,List.replicate S.msgs.length false,true,rfl,rfl,QYT _,by simp,rfl,⟨rfl,rfl,rfl,rfl,rfl,rfl⟩⟩ ?_;rintro _ st ⟨f,fr,r,F,a,rfl,rfl,hr,hF,hs,⟨h1,o1,h3,m10,h4,h5⟩⟩;simp only[QZ5,h1,h5,o1,eE,seval];have hfin:∀B:List Bool,B.length=S.msgs.length→fr 10=.vec 1 1 (B.map AV.bool)→QV S=B→List.take S.msgs.length (B.map AV.bool)=(QV S).map AV.bool:=by
  intro B hB _ e;rw[e];exact QZj (by rw[QZ5];omega)
 by_cases hlt:r<S.msgs.length
 case neg=>
  have hsF:QV S=F:=by
   rw[hs];have e:S.msgs.length-r=0:=by omega
   rw[e,Z1];split<;>rfl
  have ht:=hfin F hF m10 hsF;simp only[Qy hlt,h3,m10,ht,hF,QZ5,QZs,QY9,QYK,QZJ,QZP,AV.un,eE,seval]
 cases a
 ·rw[QYR (by simp)]at hs;have ht:=hfin F hF m10 hs;simp only[Qw hlt,h3,h4,m10,ht,hF,QZ5,QZs,QY9,QYK,QZJ,QZP,AV.un,eE,seval]
 ·rw[QYS rfl]at hs;have e1:=Ql r _ hlt (by simp only[maxLen];omega);simp only[Qw hlt,h4,Qa,seval];refine QMc hM S hS r F hF _ _ ⟨(by exact h1),o1,(by exact h3),m10,(by rfl),(by exact h5)⟩ (by rfl) _ (fun f fr H=>?_);obtain⟨h1,o1,h3,m10,h4,h5⟩:=H;simp only[h5,e1,Qa,seval];refine⟨S.msgs.length-(r+1),by omega,_,_,r+1,Xc S F S.msgs.length,decide (Xc S F S.msgs.length≠F),rfl,rfl,by omega,by rw[KU,hF],?_,⟨(by exact h1),o1,(by exact h3),m10,(by exact h4),(by rfl)⟩⟩;rw[hs];have e:S.msgs.length-r=(S.msgs.length-(r+1))+1:=by omega
  rw[e,Z1];by_cases hh:Xc S F S.msgs.length=F
  ·rw[QYS hh,QYR (by simp[hh])];exact hh.symm
  ·rw[QYR hh,QYS (by simp[hh])]
end

def ldr (fr:Nat→Ob)(s R:Nat)(d:List UInt8)(l:List PB):Nat→Ob :=
 Qt (Qt fr R (.vec (1+l.length) 3 (l.map PB.av))) s (.cells [.str d,.vec 0 R (1+l.length) 0 l.length false])
section
variable (fr:Nat→Ob)(s R:Nat)(d:List UInt8)(l:List PB)(h:R≠s)
theorem QC (k:Nat):ldr fr s R d l k=bif Nat.beq k s then .cells [.str d,.vec 0 R (1+l.length) 0 l.length false]else bif Nat.beq k R then .vec (1+l.length) 3 (l.map PB.av)else fr k:=id rfl
theorem Hg:ldr fr s R d l s=.cells [.str d,.vec 0 R (1+l.length) 0 l.length false]:=QY ..
include h in
theorem Hh:ldr fr s R d l R=.vec (1+l.length) 3 (l.map PB.av):=by rw[ldr,Q2 _ _ h,QY]
theorem Z5 {k:Nat}(h1:k≠R)(h2:k≠s):ldr fr s R d l k=fr k:=by rw[ldr,Q2 _ _ h2,Q2 _ _ h1]
theorem Fq (h1:fr s=.cells [.str d,.vec 0 R (1+l.length) 0 l.length false])(h2:fr R=.vec (1+l.length) 3 (l.map PB.av)):ldr fr s R d l=fr:=by
 rw[ldr,U1 fr R _ h2,U1 fr s _ h1]
theorem Fs {k:Nat}(h1:k≠R)(h2:k≠s)(o:Ob):Qt (ldr fr s R d l) k o=ldr (Qt fr k o) s R d l:=by
 rw[ldr,ldr,JH _ s k _ _ (Ne.symm h2),JH _ R k _ _ (Ne.symm h1)]
theorem Bs (A:Ob)(h:R≠s):Qt (Qt (Qt fr s A) R (.vec 1 3 [])) s (.cells ([.str d,.nils].set 1 (.vec 0 R 1 0 0 false)))=ldr fr s R d []:=by
 rw[ldr,JH fr s R _ _ (Ne.symm h),Kj];rfl
include h in
theorem Mk (x:PB):Qt (Qt (ldr fr s R d l) R (.vec (1+l.length+1) 3 (l.map PB.av++[x.av]))) s (.cells [.str d,.vec 0 R (1+l.length+1) 0 (l.length+1) false])=ldr fr s R d (l++[x]):=by
 have e:(l++[x]).length=l.length+1:=by simp
 rw[ldr,ldr,e,Q0i,JH (Qt fr R _) s R _ _ (Ne.symm h),Kj,Kj];rfl
end

section
variable (fr:Nat→Ob)(s R:Nat)(d:List UInt8)(l:List PB)(h:R≠s)(hR:Zr R 153=true)(hl:l.length≤1073741824)(n e:Int)(m:Qk)
include h hR hl

theorem QTb (Z8:Bool)  : Qf Tryz.prog 40 [.ptr 0 s 0,.bool Z8,.int .i64 n,.int .i64 e] ( ldr fr s R d l :: m) fun x m1=>x=.tup []∧m1 =  ldr fr s R d (l++pb d n (!Z8) e) :: m:=by
 have hs:=Hg fr s R d l;have hr:=Hh fr s R d l h;cases Z8
 ·refine k40.go (by simp) ?_;have ep:pb d n true e=[]:=rfl;simp only[QZN,ep,QZI,Qa,seval]
 ·refine k40.go (by simp) ?_;simp only[hs,eE,seval];refine Zu rfl rfl (by decide) rfl rfl ?_;refine We (xs:=l.map PB.av) rfl (by simp only[hr,B2,seval]) hR (by simp) rfl rfl (by simp only[QYZ,QZR,maxLen];omega) (by simp only[QYZ,QZR];omega) ?_;have hb:(s==R)=false:=Q0F.2 (Ne.symm h);have ha:=Mk fr s R d l h ⟨d,n,e⟩;have ep:pb d n false e=[⟨d,n,e⟩]:=rfl;simp only[PB.av]at ha;simp only[hs,hb,nn0,QZh,QZG,cond_false,eE,seval];simp only[ha,ep,seval]

theorem PH (Z8:Bool)(a:Nat→Ob):Qf Tryz.prog 40 [.ptr 1 s 0,.bool Z8,.int .i64 n,.int .i64 e] (a :: ldr fr s R d l :: m) fun x m1=>x=.tup []∧m1=a :: ldr fr s R d (l++pb d n (!Z8) e) :: m:=by
 have hs:=Hg fr s R d l;have hr:=Hh fr s R d l h;cases Z8
 ·refine k40.go (by simp) ?_;have ep:pb d n true e=[]:=rfl;simp only[QZN,ep,QZI,Qa,seval]
 ·refine k40.go (by simp) ?_;simp only[hs,eE,seval];refine Zu rfl rfl (by decide) rfl rfl ?_;refine We (xs:=l.map PB.av) rfl (by simp only[hr,B2,seval]) hR (by simp) rfl rfl (by simp only[QYZ,QZR,maxLen];omega) (by simp only[QYZ,QZR];omega) ?_;have hb:(s==R)=false:=Q0F.2 (Ne.symm h);have ha:=Mk fr s R d l h ⟨d,n,e⟩;have ep:pb d n false e=[⟨d,n,e⟩]:=rfl;simp only[PB.av]at ha;simp only[hs,hb,nn0,QZh,QZG,cond_false,eE,seval];simp only[ha,ep,seval]

theorem QTc {M:Nat}(hM:M+8≤maxLen)(N:List SN)(hN:N.length≤maxLen)(hn:∀x∈N,x.ok M)(t:Int)(ht:t∈YA):Qf Tryz.prog 92 [.ptr 0 s 0,.list (N.map fun x=>.agg x.cells),.int .i64 t,.int .i64 n] (ldr fr s R d l :: m) fun x m1=>x=.tup []∧m1=ldr fr s R d (l++XJ d n N t) :: m:=by
 have e:pb d n (!(Zo N t != 0)) (Zo N t)=XJ d n N t:=by unfold XJ;rw[bne,Q0S]
 refine k92.go (by simp) ?_;simp only[Qa,seval];refine aC (QR6 hM N hN hn t ht) ?_;simp only[Qa,seval];refine Qb (PH fr s R d l h hR hl n (Zo N t) m (Zo N t != 0) Qc) rfl ?_;simp only[e,Qa,seval]
end

def Hd (f:Fr):List (Nat×AV)→Prop
 | []=>True
 |(k,v) :: l=>f k=v∧Hd f l

section
variable (fr:Nat→Ob)(s R:Nat)(d:List UInt8)(h:R≠s)(hR:Zr R 153=true)(lo hi:Int)(F:List PS)(hF:F.length≤1048576)(m:Qk)

def HK (F:List PS)(s:Nat)(lo hi:Int)(i:Nat):List (Nat×AV):=[(0,.ptr 1 s 0),(1,.list (F.map Xd)),(2,.int .i64 lo),(3,.int .i64 hi),(8,.int .i64 (i:Nat))]

section
variable (l:List PB)(i:Nat)(x:PS)(hx:F[i]? = some x)(own:Nat→Ob)(hl:l.length≤1073741824)(f:Fr)(hf:Hd f (HK F s lo hi i))(K:St→Prop)
include h hR hl hf hx hF
theorem up3 (hK:∀f,Hd f (HK F s lo hi i)→K ⟨f,own :: ldr fr s R d (l++pb d (-1) (decide (x.lo≥lo)&&decide (x.hi≤hi)&&decide (x.lo≤x.hi)) 6) :: m,[]⟩):Qq Tryz.prog Pl ⟨f,own :: ldr fr s R d l :: m,[]⟩ K:=by
 obtain⟨h0,h1,h2,h3,h8,-⟩:=hf;have hb:(decide (x.lo≥lo)&&decide (x.hi≤hi)&&decide (x.lo≤x.hi))=!(decide (x.lo<lo)||decide (x.hi > hi)||decide (x.lo > x.hi)):=(by rw[QZB];simp only[QZ2,QZD,Q0E,QY7,QZA];omega);rw[hb]at hK;have hg:(F.map Xd)[i]? = some (.agg [.int .i64 x.lo,.int .i64 x.hi]):=by rw[QZ3,hx];rfl
 simp only[Pl,Qj,QZ8,Qd,hg,h0,h1,h2,h8,eE,seval];cases c1:decide (x.lo<lo)<;>cases c2:decide (x.hi > hi)<;>cases c3:decide (x.lo > x.hi) <;>
 ·rw[c1,c2,c3]at hK;simp only[c2,c3,Qj,QZ8,Qd,hg,h1,h3,h8,eE,seval];refine Qb (PH fr s R d l h hR hl (-1) 6 m _ own) (by simp only[QZh,QZG,Qa,seval]<;>rfl) ?_;simp only[Qa,seval];exact hK _ (by simp only[Hd,HK,QZJ,h0,h1,h2,h3,h8,Qa,seval])

theorem up4 (hK:∀f,Hd f (HK F s lo hi i)→K ⟨f,own :: ldr fr s R d (l++pb d (-1) (Ae F i x) 11) :: m,[]⟩):Qq Tryz.prog Bm ⟨f,own :: ldr fr s R d l :: m,[]⟩ K:=by
 obtain⟨h0,h1,h2,h3,h8,-⟩:=hf;have hlt:i<F.length:=(QYM.1 hx).1;have hg:(F.map Xd)[i]? = some (.agg [.int .i64 x.lo,.int .i64 x.hi]):=by rw[QZ3,hx];rfl
 cases i with
 |zero=>
  have d0:decide (((0:Nat):Int) > 0)=false:=rfl;simp only[Bm,h0,h8,Qa,seval];refine Qb (PH fr s R d l h hR hl (-1) 11 m false own) (by simp only[QZh,QZG,Qa,seval]<;>rfl) ?_;simp only[Qa,seval];exact hK _ (by simp only[Hd,HK,QZJ,h0,h1,h2,h3,h8,Qa,seval])
 |succ j=>
  obtain⟨y,hj⟩:∃y,F[j]? = some y:=⟨F[j]'(by omega),QYN (by omega)⟩;have hgj:(F.map Xd)[j]? = some (.agg [.int .i64 y.lo,.int .i64 y.hi]):=by rw[QZ3,hj];rfl
  have wj:=KS j _ hlt (by simp only[maxLen];omega);have d0:decide (((j+1:Nat):Int) > 0)=true:=Q0D (by omega);have hb:decide (x.lo > y.hi)=!decide (x.lo≤y.hi):=(by rw[QZB];simp only[QZ2,QZD,Q0E];omega);simp only[Ae,hj,hb]at hK;simp only[Bm,d0,wj,Qj,QZ8,Qd,hg,hgj,h0,h1,h8,eE,seval];refine Qb (PH fr s R d l h hR hl (-1) 11 m (decide (x.lo≤y.hi)) own) (by simp only[QZh,QZG,Qa,seval]<;>rfl) ?_;simp only[Qa,seval];exact hK _ (by simp only[Hd,HK,QZJ,h0,h1,h2,h3,h8,Qa,seval])
end

include h hR hF in
theorem QDD (l:List PB)(hl:l.length≤1048576000):Qf Tryz.prog 93 [.ptr 0 s 0,.list (F.map Xd),.int .i64 lo,.int .i64 hi] (ldr fr s R d l :: m) fun x m1=>x=.tup []∧m1=ldr fr s R d (l++upto F (KF d lo hi F) F.length) :: m:=by
 have hul:∀n,n≤F.length→(l++upto F (KF d lo hi F) n).length≤1051000000:=by
  intro n hn;have:=QZ (l:=F) (Ku d lo hi F) n;rw[QZn];omega
 let I:Nat→St→Prop:=fun k st=>∃f own i,st=⟨f,own :: ldr fr s R d (l++upto F (KF d lo hi F) i) :: m,[]⟩∧k=F.length-i∧i≤F.length∧Hd f (HK F s lo hi i)
 refine k93.go (by simp) ?_;simp only[r93,o93,Qam,Qa,seval];refine Qe I _ ⟨_,_,0,by rw[upto,QZI],rfl,QYT _,by simp only[Hd,HK,QZJ,Qa,seval]<;>exact⟨rfl,trivial⟩⟩ ?_;rintro _ st ⟨f,own,i,rfl,rfl,hil,hf⟩;have hf':=hf;obtain⟨h0,h1,h2,h3,h8,-⟩:=hf';simp only[Qap,Qan,QZ5,h1,h8,Qa,seval];by_cases hlt:i<F.length
 case neg=>
  have e:i=F.length:=by omega
  subst e;simp only[Qy hlt,Qa,seval]
 obtain⟨x,hx⟩:∃x,F[i]? = some x:=⟨F[i],QYN hlt⟩;have e1:=Ql i _ hlt (by simp only[maxLen];omega);simp only[Qw hlt,Qa,seval];have q0:=hul i hil;refine up3 fr s R d h hR lo hi F hF m _ i x hx own (by omega) _ (by simp only[Hd,HK,QZJ,h0,h1,h2,h3,h8,Qa,seval]) _ (fun f hf=>?_);simp only[Qa,seval];have q1:=Q7 d (-1) (decide (x.lo≥lo)&&decide (x.hi≤hi)&&decide (x.lo≤x.hi)) 6;refine up4 fr s R d h hR lo hi F hF m _ i x hx own (by rw[QZn];omega) _ hf _ (fun f hf=>?_);clear h0 h1 h2 h3 h8;obtain⟨h0,h1,h2,h3,h8,-⟩:=hf;simp only[Qao,h8,e1,Qa,seval];exact⟨F.length-(i+1),by omega,_,own,i+1,by rw[Zw hx,Af,QY4,QY4],rfl,by omega,by simp only[Hd,HK,QZJ,h0,h1,h2,h3,Qa,seval]⟩
end

theorem QT {fr:Nat→Ob}{s:Nat}{d:List UInt8}{l:List PB}{f:Fr}{K:St→Prop}{d0:Nat}{r0 r1 r2 r3:RA}{Z8:Bool}{n e:Int}(hs:(1100:Nat)≠s)(h0:r0.ev f=.ptr 0 s 0)(h1:r1.ev f=.bool Z8)(h2:r2.ev f=.int .i64 n)(h3:r3.ev f=.int .i64 e)(hl:l.length≤1073741824)
  (hk:K ⟨Qt f d0 (.tup []),[ldr fr s 1100 d (l++pb d n (!Z8) e)],[]⟩):Qq Tryz.prog [⟨some d0,.callF (.f 40) [r0,r1,r2,r3],none⟩] ⟨f,[ldr fr s 1100 d l],[]⟩ K :=
 Qb (QTb fr s 1100 d l hs rfl hl n e [] Z8) (by simp only[QZh,QZG,h0,h1,h2,h3]) hk
theorem KW {M:Nat}(hM:M+8≤maxLen){N:List SN}(hN:N.length≤maxLen)(hn:∀x∈N,x.ok M){fr:Nat→Ob}{s:Nat}{d:List UInt8}{l:List PB}{f:Fr}{K:St→Prop}{d0:Nat}{r0 r1 r2 r3:RA}{n t:Int}(hs:(1100:Nat)≠s)(h0:r0.ev f=.ptr 0 s 0)(h1:r1.ev f=.list (N.map fun x=>.agg x.cells))(h2:r2.ev f=.int .i64 t)(h3:r3.ev f=.int .i64 n)(ht:t∈YA)(hl:l.length≤1073741824)
  (hk:K ⟨Qt f d0 (.tup []),[ldr fr s 1100 d (l++XJ d n N t)],[]⟩):Qq Tryz.prog [⟨some d0,.callF (.f 92) [r0,r1,r2,r3],none⟩] ⟨f,[ldr fr s 1100 d l],[]⟩ K :=
 Qb (QTc fr s 1100 d l hs rfl hl n [] hM N hN hn t ht) (by simp only[QZh,QZG,h0,h1,h2,h3]) hk
def Kd (Qg:List Am.Item)(fr:Nat→Ob)(s:Nat)(d:List UInt8)(fl:List (Nat×AV))(p:List PB):Prop :=
 ∀(l:List PB) (f:Fr) (K:St→Prop),l.length≤1073741824→Hd f fl→(∀f,Hd f fl→K ⟨f,[ldr fr s 1100 d (l++p)],[]⟩)→Qq Tryz.prog Qg ⟨f,[ldr fr s 1100 d l],[]⟩ K
def ZP (Fb:List Bool)(i:Nat)(tw:Bool):List (Nat×AV):=[(2,.list (Fb.map AV.bool)),(3,.ptr 0 3 0),(4,.ptr 0 4 0),(7,.ptr 0 7 0),(8,.int .i64 (i:Nat)),(9,.ptr 0 9 0),(10,.bool tw)]

section
variable {M:Nat}(hM:M≤1048576)(S:SC)(hS:S.ok M)(m:SM)(hm:m.ok M)(Fb:List Bool)(i:Nat)(x:SF)(hi:m.fields[i]? = some x)(tw:Bool)(fr:Nat→Ob)
 (o3:fr 3=.cells [.list (S.msgs.map fun n=>.agg n.cells),.list (S.enums.map fun n=>.agg n.cells),.list (S.servs.map fun n=>.agg n.cells)]) (o4:fr 4=.cells m.cells) (o9:fr 9=.cells x.cells)

include o9 in
theorem QTd:Kd NM fr 7 m.name (ZP Fb i tw) (pb m.name x.num (decide (x.num≥1)&&decide (x.num≤65535)) 6):=by
 rintro l f K hl ⟨h2,h3,h4,h7,h8,h9,h10,-⟩ hK;rw[Qz]at o9;have hb:(decide (x.num≥1)&&decide (x.num≤65535))=!(decide (x.num<1)||decide (x.num > 65535)):=(by rw[QZB];simp only[QZ2,QZD,Q0E,QY7,QZA];omega);rw[hb]at hK;simp only[NM,QC,h9,o9,eE,seval];cases c1:decide (x.num<1)<;>cases c2:decide (x.num > 65535) <;>
 ·rw[c1,c2]at hK;simp only[c2,QC,h9,o9,eE,seval];exact QT (by decide) h7 rfl rfl rfl hl (hK _ (by simp only[Hd,ZP,QZJ,h2,h3,h4,h7,h8,h9,h10,Qa,seval]))

include o4 o9 hi hM hm in
theorem QTe:Kd G6 fr 7 m.name (ZP Fb i tw) (pb m.name x.num (KN m.fields SF.num i x) 11):=by
 rintro l f K hl ⟨h2,h3,h4,h7,h8,h9,h10,-⟩ hK;rw[Qz]at o9;rw[Xe]at o4;have hlt:i<m.fields.length:=(QYM.1 hi).1;have hl1:=hm.len1;cases i with
 |zero=>
  have d0:decide (((0:Nat):Int) > 0)=false:=rfl;simp only[G6,QC,h8,h9,o9,eE,seval];exact QT (by decide) h7 rfl rfl rfl hl (hK _ (by simp only[Hd,ZP,QZJ,h2,h3,h4,h7,h8,h9,h10,Qa,seval]))
 |succ j=>
  obtain⟨y,hj⟩:∃y,m.fields[j]? = some y:=⟨m.fields[j]'(by omega),QYN (by omega)⟩;have hgj:(m.fields.map fun n=>AV.agg n.cells)[j]? = some (.agg y.cells):=by rw[QZ3,hj];rfl
  rw[Qz]at hgj;have wj:=KS j _ hlt (by simp only[maxLen];omega);have d0:decide (((j+1:Nat):Int) > 0)=true:=Q0D (by omega);have hb:decide (x.num > y.num)=!decide (x.num≤y.num):=(by rw[QZB];simp only[QZ2,QZD,Q0E];omega);simp only[KN,hj,hb]at hK;simp only[G6,QC,Qj,QZ8,Qd,hgj,wj,h4,h8,h9,o4,o9,d0,eE,seval];exact QT (by decide) h7 rfl rfl rfl hl (hK _ (by simp only[Hd,ZP,QZJ,h2,h3,h4,h7,h8,h9,h10,Qa,seval]))

include o9 in
theorem QTf:Kd NN fr 7 m.name (ZP Fb i tw) (pb m.name x.num (Xo x.name) 8):=by
 rintro l f K hl ⟨h2,h3,h4,h7,h8,h9,h10,-⟩ hK;rw[Qz]at o9;rw[←Q0S (Xo x.name)]at hK;simp only[NN,QC,h9,o9,eE,seval];refine aC (u86 x.name) ?_;simp only[QC,h9,o9,eE,seval];exact QT (by decide) h7 rfl rfl rfl hl (hK _ (by simp only[Hd,ZP,QZJ,h2,h3,h4,h7,h8,h9,h10,Qa,seval]))

include o9 in
theorem QTg:Kd NO fr 7 m.name (ZP Fb i tw) (pb m.name x.num (!tw) 9):=by
 rintro l f K hl ⟨h2,h3,h4,h7,h8,h9,h10,-⟩ hK;rw[Qz]at o9;simp only[NO,QC,h9,h10,o9,eE,seval];exact QT (by decide) h7 rfl rfl rfl hl (hK _ (by simp only[Hd,ZP,QZJ,h2,h3,h4,h7,h8,h9,h10,Qa,seval]))

include o4 o9 hM hm in
theorem QTh:Kd NP fr 7 m.name (ZP Fb i tw) (pb m.name x.num (!(kept m.free x.num) && !(m.gone.contains x.name)) 21):=by
 rintro l f K hl ⟨h2,h3,h4,h7,h8,h9,h10,-⟩ hK;rw[Qz]at o9;rw[Xe]at o4;have hl2:=hm.len2;have hl3:=hm.len3;have hk:=z87 m.free (by simp only[maxLen];omega) x.num;have hh:=u83 m.gone (by simp only[maxLen];omega) x.name;rw[←Bool.not_or]at hK;simp only[NP,QC,h4,h9,o4,o9,eE,seval];refine aC hk ?_;cases a1:kept m.free x.num
 ·rw[a1,Q0s]at hK;simp only[QC,h4,h9,o4,o9,eE,seval];refine aC hh ?_;simp only[QC,h9,o9,eE,seval];exact QT (by decide) h7 rfl rfl rfl hl (hK _ (by simp only[Hd,ZP,QZJ,h2,h3,h4,h7,h8,h9,h10,Qa,seval]))
 ·rw[a1,Q0r]at hK;simp only[QC,h9,o9,eE,seval];exact QT (by decide) h7 rfl rfl rfl hl (hK _ (by simp only[Hd,ZP,QZJ,h2,h3,h4,h7,h8,h9,h10,Qa,seval]))

include o3 o4 o9 hi hM hm hS in
theorem QTi:Kd NQ fr 7 m.name (ZP Fb i tw) (pb m.name x.num (Yu x) 1):=by
 rintro l f K hl ⟨h2,h3,h4,h7,h8,h9,h10,-⟩ hK;have hc:=u88 x;simp only[QL]at hc
 try rw[Qz x]at hc
 rw[Qz]at o9;rw[Xe]at o4;rw[←Q0S (Yu x)]at hK;simp only[NQ,QC,h9,o9,eE,seval];refine aC hc ?_;simp only[QC,h9,o9,eE,seval];exact QT (by decide) h7 rfl rfl rfl hl (hK _ (by simp only[Hd,ZP,QZJ,h2,h3,h4,h7,h8,h9,h10,Qa,seval]))

include o3 o4 o9 hi hM hm hS in
theorem QTj:Kd NR fr 7 m.name (ZP Fb i tw) (pb m.name x.num (JL S x) 12):=by
 rintro l f K hl ⟨h2,h3,h4,h7,h8,h9,h10,-⟩ hK;have hc:=u89 S hS hM x;simp only[SC.av,QL]at hc
 try rw[Qz x]at hc
 rw[Qz]at o9;rw[Xe]at o4;rw[←Q0S (JL S x)]at hK;simp only[NR,QC,h3,h9,o3,o9,eE,seval];refine aC hc ?_;simp only[QC,h9,o9,eE,seval];exact QT (by decide) h7 rfl rfl rfl hl (hK _ (by simp only[Hd,ZP,QZJ,h2,h3,h4,h7,h8,h9,h10,Qa,seval]))

include o3 o4 o9 hi hM hm hS in
theorem QTk:Kd NS fr 7 m.name (ZP Fb i tw) (pb m.name x.num (JM m i) 15):=by
 rintro l f K hl ⟨h2,h3,h4,h7,h8,h9,h10,-⟩ hK;have hc:=u90 hM m hm i x hi;simp only[QM]at hc
 try rw[Qz x]at hc
 rw[Qz]at o9;rw[Xe]at o4;rw[←Q0S (JM m i)]at hK;simp only[NS,QC,h4,h8,o4,eE,seval];refine aC hc ?_;simp only[QC,h9,o9,eE,seval];exact QT (by decide) h7 rfl rfl rfl hl (hK _ (by simp only[Hd,ZP,QZJ,h2,h3,h4,h7,h8,h9,h10,Qa,seval]))

include o3 o4 o9 hi hM hm hS in
theorem QTl:Kd NT fr 7 m.name (ZP Fb i tw) (pb m.name x.num (Yb S x) 1):=by
 rintro l f K hl ⟨h2,h3,h4,h7,h8,h9,h10,-⟩ hK;have hc:=u91 S hS hM x (hm.fields x (QYY hi));simp only[SC.av,QL]at hc
 try rw[Qz x]at hc
 rw[Qz]at o9;rw[Xe]at o4;rw[←Q0S (Yb S x)]at hK;simp only[NT,QC,h3,h9,o3,o9,eE,seval];refine aC hc ?_;simp only[QC,h9,o9,eE,seval];exact QT (by decide) h7 rfl rfl rfl hl (hK _ (by simp only[Hd,ZP,QZJ,h2,h3,h4,h7,h8,h9,h10,Qa,seval]))

include o9 hi hM hm in
theorem QTm:Kd NU fr 7 m.name (ZP Fb i tw) (XJ m.name x.num x.notes 2):=by
 rintro l f K hl ⟨h2,h3,h4,h7,h8,h9,h10,-⟩ hK;have hx:=hm.fields x (QYY hi);have hln:=hx.len;rw[Qz]at o9;simp only[NU,QC,h9,o9,eE,seval];exact KW (by simp only[maxLen];omega) (by simp only[maxLen];omega) hx.notes (by decide) h7 rfl rfl rfl (by decide) hl (hK _ (by simp only[Hd,ZP,QZJ,h2,h3,h4,h7,h8,h9,h10,Qa,seval]))

include o4 o9 hi hM hm in
theorem QMd (F:Nat→Ob)(l:List PB)(hF:F=ldr fr 7 1100 m.name l)(f:Fr)(hf:Hd f (ZP Fb i false))(h11:f 11=.int .i64 0)(Q:Exit→St→Prop)
  (hq:∀f,Hd f (ZP Fb i ((m.fields.take i).any fun y=>y.name==x.name))→Q (.exit 2) ⟨f,[F],[]⟩):QN Tryz.prog (.loop Pn) ⟨f,[F],[]⟩ Q:=by
 let I:Nat→St→Prop:=fun n st=>∃f k,st=⟨f,[F],[]⟩∧n=i-k∧k≤i∧Hd f (ZP Fb i ((m.fields.take k).any fun y=>y.name==x.name))∧f 11=.int .i64 (k:Nat)
 have hil:i<m.fields.length:=(QYM.1 hi).1;have hl1:=hm.len1;rw[Qz]at o9;rw[Xe]at o4;have p4:F 4=fr 4:=by rw[hF,Z5 _ _ _ _ _ (by decide) (by decide)]
 have p9:F 9=fr 9:=by rw[hF,Z5 _ _ _ _ _ (by decide) (by decide)]
 rw[o4]at p4;rw[o9]at p9;refine Qe I _ ⟨f,0,rfl,rfl,QYT _,hf,h11⟩ ?_;clear hf h11;rintro _ st ⟨f,k,rfl,rfl,hk,hf,h11⟩;have hf':=hf;obtain⟨h2,h3,h4,h7,h8,h9,h10,-⟩:=hf';simp only[Pn,TH,h8,h11,Qa,seval];by_cases hlt:k<i
 case neg=>
  have e:k=i:=by omega
  subst e;simp only[Qy hlt,Qa,seval];exact hq _ (by simp only[Hd,ZP,QZJ,h2,h3,h4,h7,h8,h9,h10,Qa,seval])
 obtain⟨y,hy⟩:∃y,m.fields[k]? = some y:=⟨m.fields[k]'(by omega),QYN (by omega)⟩;have hg:(m.fields.map fun n=>AV.agg n.cells)[k]? = some (.agg y.cells):=by rw[QZ3,hy];rfl
 rw[Qz]at hg;have e1:=Ql k _ hlt (by simp only[maxLen];omega);have ht:=Kv (q:=fun y:SF=>y.name==x.name) hy;simp only[Qw hlt,TI,Qj,QZ8,Qd,hg,h4,h9,h11,p4,p9,Qs,eE,seval];cases hp:(y.name==x.name)
 ·rw[hp,Q0H]at ht;simp only[NL,h11,e1,Qa,seval];exact⟨i-(k+1),by omega,_,k+1,rfl,rfl,by omega,by simp only[ht,Hd,ZP,QZJ,h2,h3,h4,h7,h8,h9,h10,Qa,seval],rfl⟩
 ·rw[hp,Q0I]at ht;simp only[NL,TJ,h11,e1,Qa,seval];exact⟨i-(k+1),by omega,_,k+1,rfl,rfl,by omega,by simp only[ht,Hd,ZP,QZJ,h2,h3,h4,h7,h8,h9,Qa,seval],rfl⟩
end

section
variable {M:Nat}(hM:M≤1048576)(S:SC)(hS:S.ok M)(m:SM)(hm:m.ok M)(Fb:List Bool)
include hM hS hm in
theorem Aq (l:List PB)(hl:l.length≤1000000)(f:Fr)(fr:Nat→Ob)(h2:f 2=.list (Fb.map AV.bool))(h3:f 3=.ptr 0 3 0)(h4:f 4=.ptr 0 4 0)(h7:f 7=.ptr 0 7 0)(h8:f 8=.int .i64 0)
  (o3:fr 3=.cells [.list (S.msgs.map fun n=>.agg n.cells),.list (S.enums.map fun n=>.agg n.cells),.list (S.servs.map fun n=>.agg n.cells)]) (o4:fr 4=.cells m.cells) (o9:fr 9=.none) (Q:Exit→St→Prop)
  (hq:∀(f:Fr) (fr:Nat→Ob),f 2=.list (Fb.map AV.bool)→f 3=.ptr 0 3 0→f 4=.ptr 0 4 0→f 7=.ptr 0 7 0→fr 3=.cells [.list (S.msgs.map fun n=>.agg n.cells),.list (S.enums.map fun n=>.agg n.cells),.list (S.servs.map fun n=>.agg n.cells)]→fr 4=.cells m.cells→Q (.exit 0) ⟨f,[ldr fr 7 1100 m.name (l++upto m.fields (Kq S m) m.fields.length)],[]⟩) :
  QN Tryz.prog (.loop Po) ⟨f,[ldr fr 7 1100 m.name l],[]⟩ Q:=by
 let I:Nat→St→Prop:=fun n st=>∃f fr i,st=⟨f,[ldr fr 7 1100 m.name (l++upto m.fields (Kq S m) i)],[]⟩∧n=m.fields.length-i∧i≤m.fields.length∧f 2=.list (Fb.map AV.bool)∧f 3=.ptr 0 3 0∧f 4=.ptr 0 4 0∧f 7=.ptr 0 7 0∧f 8=.int .i64 (i:Nat)∧
  fr 3=.cells [.list (S.msgs.map fun n=>.agg n.cells),.list (S.enums.map fun n=>.agg n.cells),.list (S.servs.map fun n=>.agg n.cells)]∧fr 4=.cells m.cells∧(fr 9).isRow=false
 have hl1:=hm.len1;refine Qe I _ ⟨f,fr,0,by rw[upto,QZI],rfl,QYT _,h2,h3,h4,h7,h8,o3,o4,by rw[o9];rfl⟩ ?_;clear h2 h3 h4 h7 h8 o3 o4 o9;rintro _ st ⟨f0,fr0,i,rfl,rfl,hi,h20,h30,h40,h70,h80,K8,Wl,r9⟩;refine QH (a:=_) [9] (by
  intro s hs;simp only[QZ0,Q0Q,or_false]at hs;subst hs;rw[Z5 _ _ _ _ _ (by decide) (by decide)];exact r9) ?_
 intro f fr hf hmm hn;have h2:f 2=.list (Fb.map AV.bool):=by rw[hf,h20]<;>rfl
 have h3:f 3=.ptr 0 3 0:=by rw[hf,h30]<;>rfl
 have h4:f 4=.ptr 0 4 0:=by rw[hf,h40]<;>rfl
 have h7:f 7=.ptr 0 7 0:=by rw[hf,h70]<;>rfl
 have h8:f 8=.int .i64 (i:Nat):=by rw[hf,h80]<;>rfl
 have o3:fr 3=.cells [.list (S.msgs.map fun n=>.agg n.cells),.list (S.enums.map fun n=>.agg n.cells),.list (S.servs.map fun n=>.agg n.cells)]:=by rw[hmm 3 (by decide),Z5 _ _ _ _ _ (by decide) (by decide),K8]<;>rfl
 have o4:fr 4=.cells m.cells:=by rw[hmm 4 (by decide),Z5 _ _ _ _ _ (by decide) (by decide),Wl]<;>rfl
 have n9:=hn 9 (by decide);have q0:(l++upto m.fields (Kq S m) i).length≤100000000:=by
  have:=QZ (l:=m.fields) (YE S m) i;rw[QZn];omega
 have hfe:ldr fr 7 1100 m.name (l++upto m.fields (Kq S m) i)=fr:=Fq _ _ _ _ _ (by rw[hmm 7 (by decide),Hg]<;>rfl) (by rw[hmm 1100 (by decide),Hh _ _ _ _ _ (by decide)]<;>rfl);clear hf hmm hn h20 h30 h40 h70 h80 K8 Wl r9;have o4':=o4;rw[Xe]at o4';simp only[Qau,QZ5,h4,h8,o4',eE,seval];by_cases hlt:i<m.fields.length
 case neg=>
  have ei:i=m.fields.length:=by omega
  subst ei;simp only[Qy hlt,Qa,seval];rw[←hfe];exact hq _ _ h2 h3 h4 h7 o3 o4
 obtain⟨x,hx⟩:∃x,m.fields[i]? = some x:=⟨m.fields[i],QYN hlt⟩;have hg:(m.fields.map fun n=>AV.agg n.cells)[i]? = some (.agg x.cells):=by rw[QZ3,hx];rfl
 rw[Qz]at hg;have e1:=Ql i _ hlt (by simp only[maxLen];omega);simp only[Qw hlt,n9,Qav,Qaw,Qax,Qj,QZ8,Qd,hg,h4,h8,o4',eE,seval];rw[←hfe,Fs _ _ _ _ _ (by decide) (by decide)];generalize hF:Qt fr 9 _=F;have p3:F 3=.cells [.list (S.msgs.map fun n=>.agg n.cells),.list (S.enums.map fun n=>.agg n.cells),.list (S.servs.map fun n=>.agg n.cells)]:=by rw[←hF];exact o3
 have p4:F 4=.cells m.cells:=by rw[←hF];exact o4
 have p9:F 9=.cells x.cells:=by rw[←hF,Qz];exact rfl
 clear hF hfe o3 o4 o4' n9;refine QMd hM m hm Fb i x hx F p4 p9 _ _ rfl _ (by simp only[Hd,ZP,QZJ,h2,h3,h4,h7,h8,Qa,seval]) (by rfl) _ (fun f hf=>?_);clear h2 h3 h4 h7 h8;generalize hT:((m.fields.take i).any fun y=>y.name==x.name)=tw at hf;simp only[Qa,seval];refine QTd m Fb i x tw F p9 _ f _ (by omega) hf (fun f hf=>?_);have q1:=Qx q0 m.name x.num (decide (x.num≥1)&&decide (x.num≤65535)) 6;simp only[Qa,seval];refine QTe hM m hm Fb i x hx tw F p4 p9 _ f _ (by omega) hf (fun f hf=>?_);have q2:=Qx q1 m.name x.num (KN m.fields SF.num i x) 11;simp only[Qa,seval];refine QTf m Fb i x tw F p9 _ f _ (by omega) hf (fun f hf=>?_);have q3:=Qx q2 m.name x.num (Xo x.name) 8;simp only[Qa,seval];refine QTg m Fb i x tw F p9 _ f _ (by omega) hf (fun f hf=>?_);have q4:=Qx q3 m.name x.num (!tw) 9;simp only[Qa,seval];refine QTh hM m hm Fb i x tw F p4 p9 _ f _ (by omega) hf (fun f hf=>?_);have q5:=Qx q4 m.name x.num (!(kept m.free x.num) && !(m.gone.contains x.name)) 21;simp only[Qa,seval];refine QTi hM S hS m hm Fb i x hx tw F p3 p4 p9 _ f _ (by omega) hf (fun f hf=>?_);have q6:=Qx q5 m.name x.num (Yu x) 1;simp only[Qa,seval];refine QTj hM S hS m hm Fb i x hx tw F p3 p4 p9 _ f _ (by omega) hf (fun f hf=>?_);have q7:=Qx q6 m.name x.num (JL S x) 12;simp only[Qa,seval];refine QTk hM S hS m hm Fb i x hx tw F p3 p4 p9 _ f _ (by omega) hf (fun f hf=>?_);have q8:=Qx q7 m.name x.num (JM m i) 15;simp only[Qa,seval];refine QTl hM S hS m hm Fb i x hx tw F p3 p4 p9 _ f _ (by omega) hf (fun f hf=>?_);have q9:=Qx q8 m.name x.num (Yb S x) 1;simp only[Qa,seval];refine QTm hM m hm Fb i x hx tw F p9 _ f _ (by omega) hf (fun f hf=>?_);obtain⟨h2,h3,h4,h7,h8,h9,h10,-⟩:=hf;simp only[Qay,h8,e1,Qa,seval];exact⟨m.fields.length-(i+1),by omega,_,F,i+1,by rw[Zw hx];subst hT;unfold Kq;simp only[QY4]<;>rfl,rfl,by omega,(by exact h2),(by exact h3),(by exact h4),(by exact h7),(by rfl),p3,p4,by rw[p9];rfl⟩
end

section
variable {M:Nat}(hM:M≤1048576)(m:SM)(hm:m.ok M)
include hM hm in
theorem Qf2 (l:List PB)(hl:l.length≤1000000000)(f:Fr)(fr:Nat→Ob)(h3:f 3=.ptr 0 3 0)(h2:∃a,f 2=a)(h4:f 4=.ptr 0 4 0)(h7:f 7=.ptr 0 7 0)(h12:f 12=.int .i64 0)(o4:fr 4=.cells m.cells)(Q:Exit→St→Prop)
  (hq:∀f':Fr,f' 2=f 2→f' 3=.ptr 0 3 0→f' 4=.ptr 0 4 0→f' 7=.ptr 0 7 0→Q (.exit 4) ⟨f',[ldr fr 7 1100 m.name (l++upto m.gone (fun _ g=>pb m.name (-1) (Z9 g) 7) m.gone.length)],[]⟩):QN Tryz.prog (.loop Bn) ⟨f,[ldr fr 7 1100 m.name l],[]⟩ Q:=by
 obtain⟨a,h2⟩:=h2;rw[h2]at hq
 let I:Nat→St→Prop:=fun n st=>∃f i,st=⟨f,[ldr fr 7 1100 m.name (l++upto m.gone (fun _ g=>pb m.name (-1) (Z9 g) 7) i)],[]⟩∧n=m.gone.length-i∧i≤m.gone.length∧f 2=a∧f 3=.ptr 0 3 0∧f 4=.ptr 0 4 0∧f 7=.ptr 0 7 0∧f 12=.int .i64 (i:Nat)
 have hl3:=hm.len3;rw[Xe]at o4;refine Qe I _ ⟨f,0,by rw[upto,QZI],rfl,QYT _,h2,h3,h4,h7,h12⟩ ?_;clear h2 h3 h4 h7 h12;rintro _ st ⟨f,i,rfl,rfl,hi,h2,h3,h4,h7,h12⟩;simp only[Bn,TK,QC,QZ5,h4,h12,o4,eE,seval];by_cases hlt:i<m.gone.length
 case neg=>
  have ei:i=m.gone.length:=by omega
  subst ei;simp only[Qy hlt,Qa,seval];exact hq _ h2 h3 h4 h7
 obtain⟨x,hx⟩:∃x,m.gone[i]? = some x:=⟨m.gone[i],QYN hlt⟩;have hg:(m.gone.map AV.str)[i]? = some (.str x):=by rw[QZ3,hx];rfl
 have hxl:=hm.gone x (QYY hx);have e1:=Ql i _ hlt (by simp only[maxLen];omega);have hu:=QZ (l:=m.gone) (g:=fun _ g=>pb m.name (-1) (Z9 g) 7) (c:=1) (fun _ g=>Q7 ..) i;simp only[Qw hlt,TL,QC,Qj,QZ8,Qd,hg,h4,h12,o4,eE,seval];refine aC (c94 x (by simp only[maxLen];omega)) ?_;simp only[Qa,seval];refine QT (by decide) (by exact h7) rfl rfl rfl (by rw[QZn];omega) ?_;simp only[TM,h12,e1,Qa,seval];exact⟨m.gone.length-(i+1),by omega,_,i+1,by rw[Zw hx,Q0S,QY4],rfl,by omega,(by exact h2),(by exact h3),(by exact h4),(by exact h7),(by rfl)⟩

theorem Yg (l:List PB):List.take l.length (List.map PB.av l)=List.map PB.av l:=QZj (by rw[QZ5];exact QYK _)

theorem u44 {M:Nat}(hM:M≤1048576)(S:SC)(hS:S.ok M)(m:SM)(hm:m.ok M)(F:List Bool)(hF:F.length=S.msgs.length):Qi Tryz.prog 44 [S.av,QM m,.list (F.map AV.bool)] (.list ((JQ S (Xm S F) m).map PB.av)):=by
 have hl1:=hm.len1;have hl2:=hm.len2;have hl3:=hm.len3;have hl4:=hm.len4;have hnl:=hm.name;refine k44.fn (by simp) ?_;simp only[r44,TN,Qaq,Qar,SC.av,QM,Xe m,eE,seval];refine Xf rfl rfl rfl rfl ?_;generalize hb:(Qt (Qt Qc 3 _) 4 _:Nat→Ob)=base;have o3:base 3=.cells [.list (S.msgs.map fun n=>.agg n.cells),.list (S.enums.map fun n=>.agg n.cells),.list (S.servs.map fun n=>.agg n.cells)]:=by rw[←hb];exact rfl
 have o4:base 4=.cells m.cells:=by rw[←hb,Xe];exact rfl
 have o9:base 9=.none:=by rw[←hb];rfl
 clear hb;have o4s:=o4;rw[Xe]at o4s;rw[Bs base 7 1100 m.name _ (by decide)];simp only[Qas,QC,o4s,eE,seval];refine aC (u85 m.name) ?_;simp only[Qa,seval];refine QT (by decide) rfl rfl rfl rfl (by simp) ?_;rw[Q0S,QY6];have q1:=Q7 m.name (-1) (XE m.name) 8;generalize hL1:pb m.name (-1) (XE m.name) 8=L1 at q1;have hbb:(decide (m.fields.length≤64)&&decide (m.free.length≤16)&&decide (m.gone.length≤16))=!(decide ((m.fields.length:Int) > 64)||decide ((m.free.length:Int) > 16)||decide ((m.gone.length:Int) > 16)):=(by rw[QZB];simp only[QZ2,QZD,Q0E,QY7,QZA];omega);have q2:=Qx q1 m.name (-1) (decide (m.fields.length≤64)&&decide (m.free.length≤16)&&decide (m.gone.length≤16)) 3;have key:∀f:Fr,f 2=.list (F.map AV.bool)→f 3=.ptr 0 3 0→f 4=.ptr 0 4 0→f 7=.ptr 0 7 0→QN Tryz.prog (.seq (.seq (.reg Pm) (.block 0 (.loop Po))) (.seq (.reg NV) (.seq (.seq (.reg NW) (.block 4 (.loop Bn))) (.seq (.reg NX) (.seq (.reg NY) (.seq (.reg NZ) .ret))))))
   ⟨f,[ldr base 7 1100 m.name (L1++pb m.name (-1) (decide (m.fields.length≤64)&&decide (m.free.length≤16)&&decide (m.gone.length≤16)) 3)],[]⟩ (Za TN 0 fun x _=>x=.list ((JQ S (Xm S F) m).map PB.av)):=by
  intro f h2 h3 h4 h7;simp only[Pm,Qa,seval];refine Aq hM S hS m hm F _ (by omega) _ base (by exact h2) (by exact h3) (by exact h4) (by exact h7) (by rfl) o3 o4 o9 _ (fun f fr h2 h3 h4 h7 o3 o4=>?_);have o4s:=o4;rw[Xe]at o4s;have q3:=QZ (l:=m.fields) (YE S m) m.fields.length;have q4:=QZ (l:=m.free) (Ku m.name 1 65535 m.free) m.free.length;have q5:=QZ (l:=m.gone) (g:=fun _ g=>pb m.name (-1) (Z9 g) 7) (c:=1) (fun _ g=>Q7 ..) m.gone.length;have q6:=Q7 m.name (-1) (Zo m.notes 1==0) (Zo m.notes 1);simp only[NV,QC,h4,o4s,eE,seval];refine Qb (QDD fr 7 1100 m.name (by decide) rfl 1 65535 m.free (by omega) [] _ (by simp only[QZn]at q2 ⊢;omega)) (by simp only[QZh,QZG,h7,Qa,seval]<;>rfl) ?_;simp only[NW,Qa,seval];refine Qf2 hM m hm _ (by simp only[QZn]at q2 ⊢;omega) _ fr (by exact h3) ⟨_,rfl⟩ (by exact h4) (by exact h7) (by rfl) o4 _ (fun f2 k2 h3 h4 h7=>?_);have h2':f2 2=.list (F.map AV.bool):=by rw[k2];exact(by exact h2)
  clear k2 h2;simp only[NX,QC,h4,o4s,eE,seval];refine KW (by simp only[maxLen];omega) (by simp only[maxLen];omega) hm.notes (by decide) h7 rfl rfl rfl (by decide) (by simp only[QZn]at q2 ⊢;omega) ?_;have hc:=u84 hM S hS F hF m hm;simp only[SC.av,QM,Xe m]at hc;simp only[NY,QC,h2',h3,h4,o3,o4s,eE,seval];refine aC hc ?_
  try simp only[eE,seval]
  refine QT (by decide) h7 rfl rfl rfl (by simp only[QZn,XJ]at q2 ⊢;omega) ?_;generalize hL:_++pb m.name (-1) (!Xm S F m) 19=L;have hfin:JQ S (Xm S F) m=L:=by rw[←hL,←hL1];rfl
  rw[hfin];simp only[NZ,QC,h7,QZ5,QZs,Yg,QY9,QYK,QZJ,QZP,AV.un,TN,eE,seval]
 simp only[TN,Qa,seval]at key;rw[hbb]at key;simp only[Qat,QC,QZ5,o4s,eE,seval];cases c1:decide ((m.fields.length:Int) > 64)<;>cases c2:decide ((m.free.length:Int) > 16)<;>cases c3:decide ((m.gone.length:Int) > 16) <;>
 ·rw[c1,c2,c3]at key;simp only[c2,c3,QC,QZ5,o4s,eE,seval];refine QT (by decide) rfl rfl rfl rfl (by omega) ?_;simp only[Qa,seval];exact key _ rfl rfl rfl rfl
end

def Kw (i:Nat)(tw:Bool):List (Nat×AV):=[(1,.ptr 0 1 0),(3,.ptr 0 3 0),(4,.int .i64 (i:Nat)),(5,.ptr 0 5 0),(6,.bool tw)]
section
variable {M:Nat}(hM:M≤1048576)(m:SE)(hm:m.ok M)(i:Nat)(x:SI)(hi:m.items[i]? = some x)(tw:Bool)(fr:Nat→Ob)(o1:fr 1=.cells m.cells)(o5:fr 5=.cells x.cells)

include o5 in
theorem QTn:Kd NG fr 3 m.name (Kw i tw) (pb m.name x.num (decide (x.num≥0)&&decide (x.num≤2147483647)) 6):=by
 rintro l f K hl ⟨h1,h3,h4,h5,h6,-⟩ hK;rw[JT]at o5;have hb:(decide (x.num≥0)&&decide (x.num≤2147483647))=!(decide (x.num<0)||decide (x.num > 2147483647)):=(by rw[QZB];simp only[QZ2,QZD,Q0E,QY7,QZA];omega);rw[hb]at hK;simp only[NG,QC,h5,o5,eE,seval];cases c1:decide (x.num<0)<;>cases c2:decide (x.num > 2147483647) <;>
 ·rw[c1,c2]at hK;simp only[c2,QC,h5,o5,eE,seval];exact QT (by decide) h3 rfl rfl rfl hl (hK _ (by simp only[Hd,Kw,QZJ,h1,h3,h4,h5,h6,Qa,seval]))

include o1 o5 hi hM hm in
theorem QTo:Kd G0 fr 3 m.name (Kw i tw) (pb m.name x.num (KN m.items SI.num i x) 11):=by
 rintro l f K hl ⟨h1,h3,h4,h5,h6,-⟩ hK;rw[JT]at o5;rw[XR]at o1;have hlt:i<m.items.length:=(QYM.1 hi).1;have hl1:=hm.len1;cases i with
 |zero=>
  have d0:decide (((0:Nat):Int) > 0)=false:=rfl;simp only[G0,QC,h4,h5,o5,eE,seval];exact QT (by decide) h3 rfl rfl rfl hl (hK _ (by simp only[Hd,Kw,QZJ,h1,h3,h4,h5,h6,Qa,seval]))
 |succ j=>
  obtain⟨y,hj⟩:∃y,m.items[j]? = some y:=⟨m.items[j]'(by omega),QYN (by omega)⟩;have hgj:(m.items.map fun n=>AV.agg n.cells)[j]? = some (.agg y.cells):=by rw[QZ3,hj];rfl
  rw[JT]at hgj;have wj:=KS j _ hlt (by simp only[maxLen];omega);have d0:decide (((j+1:Nat):Int) > 0)=true:=Q0D (by omega);have hb:decide (x.num > y.num)=!decide (x.num≤y.num):=(by rw[QZB];simp only[QZ2,QZD,Q0E];omega);simp only[KN,hj,hb]at hK;simp only[G0,QC,Qj,QZ8,Qd,hgj,wj,h1,h4,h5,o1,o5,d0,eE,seval];exact QT (by decide) h3 rfl rfl rfl hl (hK _ (by simp only[Hd,Kw,QZJ,h1,h3,h4,h5,h6,Qa,seval]))

include o5 in
theorem QTp:Kd NH fr 3 m.name (Kw i tw) (pb m.name x.num (Xo x.name) 8):=by
 rintro l f K hl ⟨h1,h3,h4,h5,h6,-⟩ hK;rw[JT]at o5;rw[←Q0S (Xo x.name)]at hK;simp only[NH,QC,h5,o5,eE,seval];refine aC (u86 x.name) ?_;simp only[QC,h5,o5,eE,seval];exact QT (by decide) h3 rfl rfl rfl hl (hK _ (by simp only[Hd,Kw,QZJ,h1,h3,h4,h5,h6,Qa,seval]))

include o5 in
theorem QTq:Kd NI fr 3 m.name (Kw i tw) (pb m.name x.num (!tw) 9):=by
 rintro l f K hl ⟨h1,h3,h4,h5,h6,-⟩ hK;rw[JT]at o5;simp only[NI,QC,h5,h6,o5,eE,seval];exact QT (by decide) h3 rfl rfl rfl hl (hK _ (by simp only[Hd,Kw,QZJ,h1,h3,h4,h5,h6,Qa,seval]))

include o1 o5 hM hm in
theorem QTr:Kd NJ fr 3 m.name (Kw i tw) (pb m.name x.num (!(kept m.free x.num)) 21):=by
 rintro l f K hl ⟨h1,h3,h4,h5,h6,-⟩ hK;rw[JT]at o5;rw[XR]at o1;have hl2:=hm.len2;have hk:=z87 m.free (by simp only[maxLen];omega) x.num;simp only[NJ,QC,h1,h5,o1,o5,eE,seval];refine aC hk ?_;simp only[QC,h5,o5,eE,seval];exact QT (by decide) h3 rfl rfl rfl hl (hK _ (by simp only[Hd,Kw,QZJ,h1,h3,h4,h5,h6,Qa,seval]))

include o5 hi hM hm in
theorem QTs:Kd NK fr 3 m.name (Kw i tw) (XJ m.name x.num x.notes 4):=by
 rintro l f K hl ⟨h1,h3,h4,h5,h6,-⟩ hK;have hx:=hm.items x (QYY hi);have hln:=hx.len;rw[JT]at o5;simp only[NK,QC,h5,o5,eE,seval];exact KW (by simp only[maxLen];omega) (by simp only[maxLen];omega) hx.notes (by decide) h3 rfl rfl rfl (by decide) hl (hK _ (by simp only[Hd,Kw,QZJ,h1,h3,h4,h5,h6,Qa,seval]))

include o1 o5 hi hM hm in
theorem QMe (F:Nat→Ob)(l:List PB)(hF:F=ldr fr 3 1100 m.name l)(f:Fr)(hf:Hd f (Kw i false))(h7:f 7=.int .i64 0)(Q:Exit→St→Prop)
  (hq:∀f,Hd f (Kw i ((m.items.take i).any fun y=>y.name==x.name))→Q (.exit 2) ⟨f,[F],[]⟩):QN Tryz.prog (.loop Pk) ⟨f,[F],[]⟩ Q:=by
 let I:Nat→St→Prop:=fun n st=>∃f k,st=⟨f,[F],[]⟩∧n=i-k∧k≤i∧Hd f (Kw i ((m.items.take k).any fun y=>y.name==x.name))∧f 7=.int .i64 (k:Nat)
 have hil:i<m.items.length:=(QYM.1 hi).1;have hl1:=hm.len1;rw[JT]at o5;rw[XR]at o1;have p1:F 1=fr 1:=by rw[hF,Z5 _ _ _ _ _ (by decide) (by decide)]
 have p5:F 5=fr 5:=by rw[hF,Z5 _ _ _ _ _ (by decide) (by decide)]
 rw[o1]at p1;rw[o5]at p5;refine Qe I _ ⟨f,0,rfl,rfl,QYT _,hf,h7⟩ ?_;clear hf h7;rintro _ st ⟨f,k,rfl,rfl,hk,hf,h7⟩;have hf':=hf;obtain⟨h1,h3,h4,h5,h6,-⟩:=hf';simp only[Pk,TE,h4,h7,Qa,seval];by_cases hlt:k<i
 case neg=>
  have e:k=i:=by omega
  subst e;simp only[Qy hlt,Qa,seval];exact hq _ (by simp only[Hd,Kw,QZJ,h1,h3,h4,h5,h6,Qa,seval])
 obtain⟨y,hy⟩:∃y,m.items[k]? = some y:=⟨m.items[k]'(by omega),QYN (by omega)⟩;have hg:(m.items.map fun n=>AV.agg n.cells)[k]? = some (.agg y.cells):=by rw[QZ3,hy];rfl
 rw[JT]at hg;have e1:=Ql k _ hlt (by simp only[maxLen];omega);have ht:=Kv (q:=fun y:SI=>y.name==x.name) hy;simp only[Qw hlt,TF,Qj,QZ8,Qd,hg,h1,h5,h7,p1,p5,Qs,eE,seval];cases hp:(y.name==x.name)
 ·rw[hp,Q0H]at ht;simp only[NF,h7,e1,Qa,seval];exact⟨i-(k+1),by omega,_,k+1,rfl,rfl,by omega,by simp only[ht,Hd,Kw,QZJ,h1,h3,h4,h5,h6,Qa,seval],rfl⟩
 ·rw[hp,Q0I]at ht;simp only[NF,TG,h7,e1,Qa,seval];exact⟨i-(k+1),by omega,_,k+1,rfl,rfl,by omega,by simp only[ht,Hd,Kw,QZJ,h1,h3,h4,h5,Qa,seval],rfl⟩
end

section
variable {M:Nat}(hM:M≤1048576)(m:SE)(hm:m.ok M)
include hM hm in
theorem Iq (l:List PB)(hl:l.length≤1000000)(f:Fr)(fr:Nat→Ob)(h1:f 1=.ptr 0 1 0)(h3:f 3=.ptr 0 3 0)(h4:f 4=.int .i64 0)(o1:fr 1=.cells m.cells)(o5:fr 5=.none)(Q:Exit→St→Prop)
  (hq:∀(f:Fr) (fr:Nat→Ob),f 1=.ptr 0 1 0→f 3=.ptr 0 3 0→fr 1=.cells m.cells→Q (.exit 0) ⟨f,[ldr fr 3 1100 m.name (l++upto m.items (JR m) m.items.length)],[]⟩) :
  QN Tryz.prog (.loop Bl) ⟨f,[ldr fr 3 1100 m.name l],[]⟩ Q:=by
 let I:Nat→St→Prop:=fun n st=>∃f fr i,st=⟨f,[ldr fr 3 1100 m.name (l++upto m.items (JR m) i)],[]⟩∧n=m.items.length-i∧i≤m.items.length∧f 1=.ptr 0 1 0∧f 3=.ptr 0 3 0∧f 4=.int .i64 (i:Nat)∧fr 1=.cells m.cells∧(fr 5).isRow=false
 have hl1:=hm.len1;refine Qe I _ ⟨f,fr,0,by rw[upto,QZI],rfl,QYT _,h1,h3,h4,o1,by rw[o5];rfl⟩ ?_;clear h1 h3 h4 o1 o5;rintro _ st ⟨f0,fr0,i,rfl,rfl,hi,h10,h30,h40,X0,r5⟩;refine QH (a:=_) [5] (by
  intro s hs;simp only[QZ0,Q0Q,or_false]at hs;subst hs;rw[Z5 _ _ _ _ _ (by decide) (by decide)];exact r5) ?_
 intro f fr hf hmm hn;have h1:f 1=.ptr 0 1 0:=by rw[hf,h10]<;>rfl
 have h3:f 3=.ptr 0 3 0:=by rw[hf,h30]<;>rfl
 have h4:f 4=.int .i64 (i:Nat):=by rw[hf,h40]<;>rfl
 have o1:fr 1=.cells m.cells:=by rw[hmm 1 (by decide),Z5 _ _ _ _ _ (by decide) (by decide),X0]<;>rfl
 have n5:=hn 5 (by decide);have q0:(l++upto m.items (JR m) i).length≤100000000:=by
  have:=QZ (l:=m.items) (YF m) i;rw[QZn];omega
 have hfe:ldr fr 3 1100 m.name (l++upto m.items (JR m) i)=fr:=Fq _ _ _ _ _ (by rw[hmm 3 (by decide),Hg]<;>rfl) (by rw[hmm 1100 (by decide),Hh _ _ _ _ _ (by decide)]<;>rfl);clear hf hmm hn h10 h30 h40 X0 r5;have o1':=o1;rw[XR]at o1';simp only[Qai,QZ5,h1,h4,o1',eE,seval];by_cases hlt:i<m.items.length
 case neg=>
  have ei:i=m.items.length:=by omega
  subst ei;simp only[Qy hlt,Qa,seval];rw[←hfe];exact hq _ _ h1 h3 o1
 obtain⟨x,hx⟩:∃x,m.items[i]? = some x:=⟨m.items[i],QYN hlt⟩;have hg:(m.items.map fun n=>AV.agg n.cells)[i]? = some (.agg x.cells):=by rw[QZ3,hx];rfl
 rw[JT]at hg;have e1:=Ql i _ hlt (by simp only[maxLen];omega);simp only[Qw hlt,n5,Qaj,Qak,TD,Qj,QZ8,Qd,hg,h1,h4,o1',eE,seval];rw[←hfe,Fs _ _ _ _ _ (by decide) (by decide)];generalize hF:Qt fr 5 _=F;have p1:F 1=.cells m.cells:=by rw[←hF];exact o1
 have p5:F 5=.cells x.cells:=by rw[←hF,JT];exact rfl
 clear hF hfe o1 o1' n5;refine QMe hM m hm i x hx F p1 p5 _ _ rfl _ (by simp only[Hd,Kw,QZJ,h1,h3,h4,Qa,seval]) (by rfl) _ (fun f hf=>?_);clear h1 h3 h4;generalize hT:((m.items.take i).any fun y=>y.name==x.name)=tw at hf;simp only[Qa,seval];refine QTn m i x tw F p5 _ f _ (by omega) hf (fun f hf=>?_);have q1:=Qx q0 m.name x.num (decide (x.num≥0)&&decide (x.num≤2147483647)) 6;simp only[Qa,seval];refine QTo hM m hm i x hx tw F p1 p5 _ f _ (by omega) hf (fun f hf=>?_);have q2:=Qx q1 m.name x.num (KN m.items SI.num i x) 11;simp only[Qa,seval];refine QTp m i x tw F p5 _ f _ (by omega) hf (fun f hf=>?_);have q3:=Qx q2 m.name x.num (Xo x.name) 8;simp only[Qa,seval];refine QTq m i x tw F p5 _ f _ (by omega) hf (fun f hf=>?_);have q4:=Qx q3 m.name x.num (!tw) 9;simp only[Qa,seval];refine QTr hM m hm i x tw F p1 p5 _ f _ (by omega) hf (fun f hf=>?_);have q5:=Qx q4 m.name x.num (!(kept m.free x.num)) 21;simp only[Qa,seval];refine QTs hM m hm i x hx tw F p5 _ f _ (by omega) hf (fun f hf=>?_);obtain⟨h1,h3,h4,h5,h6,-⟩:=hf;simp only[Qal,h4,e1,Qa,seval];exact⟨m.items.length-(i+1),by omega,_,F,i+1,by rw[Zw hx];subst hT;unfold JR;simp only[QY4]<;>rfl,rfl,by omega,(by exact h1),(by exact h3),(by rfl),p1,by rw[p5];rfl⟩

include hM hm in
theorem u45:Qi Tryz.prog 45 [Xl m] (.list ((JD m).map PB.av)):=by
 have hl1:=hm.len1;have hl2:=hm.len2;have hl3:=hm.len3;have hnl:=hm.name;refine k45.fn (by simp) ?_;simp only[r45,o45,Qae,Qaf,Xl,XR m,eE,seval];refine Xf rfl rfl rfl rfl ?_;generalize hb:(Qt Qc 1 _:Nat→Ob)=base;have o1:base 1=.cells m.cells:=by rw[←hb,XR];exact rfl
 have o5:base 5=.none:=by rw[←hb];rfl
 clear hb;have o1s:=o1;rw[XR]at o1s;rw[Bs base 3 1100 m.name _ (by decide)];simp only[Qag,QC,o1s,eE,seval];refine aC (u85 m.name) ?_;simp only[Qa,seval];refine QT (by decide) rfl rfl rfl rfl (by simp) ?_;rw[Q0S,QY6];have q1:=Q7 m.name (-1) (XE m.name) 8;generalize hL1:pb m.name (-1) (XE m.name) 8=L1 at q1;have hbb:(decide (m.items.length≥1)&&decide (m.items.length≤64)&&decide (m.free.length≤16))=!(decide ((m.items.length:Int)<1)||decide ((m.items.length:Int) > 64)||decide ((m.free.length:Int) > 16)):=(by rw[QZB];simp only[QZ2,QZD,Q0E,QY7,QZA];omega);have q2:=Qx q1 m.name (-1) (decide (m.items.length≥1)&&decide (m.items.length≤64)&&decide (m.free.length≤16)) 3;generalize hL2:L1++pb m.name (-1) (decide (m.items.length≥1)&&decide (m.items.length≤64)&&decide (m.free.length≤16)) 3=L2 at q2;have q2b:=Qx q2 m.name (-1) (Z2 m) 14;have key2:∀f:Fr,f 1=.ptr 0 1 0→f 3=.ptr 0 3 0→QN Tryz.prog (.seq (.seq (.reg Bk) (.block 0 (.loop Bl))) (.seq (.reg G3) (.seq (.reg G4) (.seq (.reg G5) .ret))))
   ⟨f,[ldr base 3 1100 m.name (L2++pb m.name (-1) (Z2 m) 14)],[]⟩ (Za [.tmp 2] 0 fun x _=>x=.list ((JD m).map PB.av)):=by
  intro f h1 h3;simp only[Bk,Qa,seval];refine Iq hM m hm _ (by omega) _ base (by exact h1) (by exact h3) (by rfl) o1 o5 _ (fun f fr h1 h3 o1=>?_);have o1s:=o1;rw[XR]at o1s;have q3:=QZ (l:=m.items) (YF m) m.items.length;have q4:=QZ (l:=m.free) (Ku m.name 0 2147483647 m.free) m.free.length;simp only[G3,QC,h1,o1s,eE,seval];refine Qb (QDD fr 3 1100 m.name (by decide) rfl 0 2147483647 m.free (by omega) [] _ (by simp only[QZn]at q2b ⊢;omega)) (by simp only[QZh,QZG,h3,Qa,seval]<;>rfl) ?_;simp only[G4,QC,h1,o1s,eE,seval];refine KW (by simp only[maxLen];omega) (by simp only[maxLen];omega) hm.notes (by decide) (by exact h3) rfl rfl rfl (by decide) (by simp only[QZn]at q2b ⊢;omega) ?_;generalize hL:_++XJ m.name (-1) m.notes 3=L;have hfin:JD m=L:=by rw[←hL,←hL2,←hL1];rfl
  rw[hfin];simp only[G5,QC,h3,QZ5,QZs,Yg,QY9,QYK,QZJ,QZP,AV.un,eE,seval]
 simp only[Qa,seval]at key2;have key:∀f:Fr,f 1=.ptr 0 1 0→f 3=.ptr 0 3 0→QN Tryz.prog (.seq (.reg Bj) (.seq (.seq (.reg Bk) (.block 0 (.loop Bl))) (.seq (.reg G3) (.seq (.reg G4) (.seq (.reg G5) .ret)))))
   ⟨f,[ldr base 3 1100 m.name L2],[]⟩ (Za [.tmp 2] 0 fun x _=>x=.list ((JD m).map PB.av)):=by
  intro f h1 h3;cases hit:m.items with
  |nil=>
   have e0:Z2 m=!false:=by unfold Z2;rw[hit];rfl
   have d0:decide ((m.items.length:Int) > 0)=false:=by rw[hit];rfl
   rw[e0]at key2;rw[hit]at d0;rw[hit]at o1s;simp only[Bj,QC,h1,o1s,eE,seval];refine QT (by decide) h3 rfl rfl rfl (by omega) ?_;simp only[Qa,seval];exact key2 _ h1 h3
  |cons y l=>
   have e0:Z2 m=!(y.num != 0):=by unfold Z2;rw[hit,bne,Q0S]
   have d0:decide ((0:Int)<((l.length+1:Nat):Int))=true:=Q0D (by omega);rw[e0]at key2;rw[hit]at o1s;have hg:((y :: l).map fun n=>AV.agg n.cells)[0]? = some (.agg y.cells):=rfl;rw[JT]at hg;simp only[Bj,QC,QZ5,Qd,hg,h1,o1s,d0,eE,seval];refine QT (by decide) h3 rfl rfl rfl (by omega) ?_;simp only[Qa,seval];exact key2 _ h1 h3
 simp only[Qa,seval]at key;rw[hbb]at hL2;simp only[Qah,QC,QZ5,o1s,eE,seval];cases c1:decide ((m.items.length:Int)<1)<;>cases c2:decide ((m.items.length:Int) > 64)<;>cases c3:decide ((m.free.length:Int) > 16) <;>
 ·rw[c1,c2,c3]at hL2;subst hL2;simp only[c2,c3,QC,QZ5,o1s,eE,seval];refine QT (by decide) rfl rfl rfl rfl (by omega) ?_;simp only[Qa,seval];exact key _ rfl rfl
end

def YH (i:Nat):List (Nat×AV):=[(2,.ptr 0 2 0),(3,.ptr 0 3 0),(5,.ptr 0 5 0),(6,.int .i64 (i:Nat)),(7,.ptr 0 7 0)]
section
variable {M:Nat}(hM:M≤1048576)(S:SC)(hS:S.ok M)(m:SQ)(hm:m.ok M)(i:Nat)(x:SO)(hi:m.meths[i]? = some x)(fr:Nat→Ob)
 (o2:fr 2=.cells [.list (S.msgs.map fun n=>.agg n.cells),.list (S.enums.map fun n=>.agg n.cells),.list (S.servs.map fun n=>.agg n.cells)]) (o3:fr 3=.cells m.cells) (o7:fr 7=.cells x.cells)

include o7 in
theorem us8:Kd Pj fr 5 m.name (YH i) (pb m.name (i:Int) (Xo x.name) 8):=by
 rintro l f K hl ⟨h2,h3,h5,h6,h7,-⟩ hK;rw[Wn]at o7;rw[←Q0S (Xo x.name)]at hK;simp only[Pj,QC,h7,o7,eE,seval];refine aC (u86 x.name) ?_;simp only[h6,Qa,seval];exact QT (by decide) h5 rfl rfl rfl hl (hK _ (by simp only[Hd,YH,QZJ,h2,h3,h5,h6,h7,Qa,seval]))

include o3 o7 hi hM hm in
theorem us9:Kd Bi fr 5 m.name (YH i) (pb m.name (i:Int) (F4 m.meths i x) 11):=by
 rintro l f K hl ⟨h2,h3,h5,h6,h7,-⟩ hK;rw[Wn]at o7;rw[Wf]at o3;have hlt:i<m.meths.length:=(QYM.1 hi).1;have hl1:=hm.len1;cases i with
 |zero=>
  have d0:decide (((0:Nat):Int) > 0)=false:=rfl;simp only[Bi,h6,Qa,seval];exact QT (by decide) h5 rfl rfl rfl hl (hK _ (by simp only[Hd,YH,QZJ,h2,h3,h5,h6,h7,Qa,seval]))
 |succ j=>
  obtain⟨y,hj⟩:∃y,m.meths[j]? = some y:=⟨m.meths[j]'(by omega),QYN (by omega)⟩;have hgj:(m.meths.map fun n=>AV.agg n.cells)[j]? = some (.agg y.cells):=by rw[QZ3,hj];rfl
  rw[Wn]at hgj;have wj:=KS j _ hlt (by simp only[maxLen];omega);have d0:decide (((j+1:Nat):Int) > 0)=true:=Q0D (by omega);have hb:F4 m.meths (j+1) x=!(!(Op.bytesLess y.name x.name)):=by rw[Q0S];simp only[F4,hj]
  rw[hb]at hK;simp only[Bi,QC,Qj,QZ8,Qd,hgj,wj,PF,h3,h6,h7,o3,o7,d0,eE,seval];exact QT (by decide) h5 rfl rfl rfl hl (hK _ (by simp only[Hd,YH,QZJ,h2,h3,h5,h6,h7,Qa,seval]))

include o2 o7 hM hS in
theorem QTt:Kd Nz fr 5 m.name (YH i) (pb m.name (i:Int) (Q6 S x.inn&&Q6 S x.out) 12):=by
 rintro l f K hl ⟨h2,h3,h5,h6,h7,-⟩ hK;obtain⟨l1,_,_⟩:=Jr S hS hM;rw[Wn]at o7;have hc1:=u95 S l1 x.inn;have hc2:=u95 S l1 x.out;simp only[SC.av]at hc1 hc2;simp only[Nz,QC,h2,h7,o2,o7,eE,seval];refine aC hc1 ?_;simp only[Ap,Qa,seval];cases a1:Q6 S x.inn
 ·rw[a1]at hK;simp only[Q0c]at hK;simp only[h6,QZN,Qa,seval];exact QT (by decide) h5 rfl rfl rfl hl (hK _ (by simp only[Hd,YH,QZJ,h2,h3,h5,h6,h7,Qa,seval]))
 ·rw[a1,Q0p,←Q0S (Q6 S x.out)]at hK;simp only[QC,h2,h7,o2,o7,Q0q,eE,seval];refine aC hc2 ?_;simp only[Ap,h6,Qa,seval];exact QT (by decide) h5 rfl rfl rfl hl (hK _ (by simp only[Hd,YH,QZJ,h2,h3,h5,h6,h7,Qa,seval]))

include o7 in
theorem QTu:Kd NA fr 5 m.name (YH i) (pb m.name (i:Int) (decide (x.shape≥1)&&decide (x.shape≤4)) 1):=by
 rintro l f K hl ⟨h2,h3,h5,h6,h7,-⟩ hK;rw[Wn]at o7;have hb:(decide (x.shape≥1)&&decide (x.shape≤4))=!(decide (x.shape<1)||decide (x.shape > 4)):=(by rw[QZB];simp only[QZ2,QZD,Q0E,QY7,QZA];omega);rw[hb]at hK;simp only[NA,QC,h7,o7,eE,seval];cases c1:decide (x.shape<1)<;>cases c2:decide (x.shape > 4) <;>
 ·rw[c1,c2]at hK;simp only[c2,QC,h6,h7,o7,eE,seval];exact QT (by decide) h5 rfl rfl rfl hl (hK _ (by simp only[Hd,YH,QZJ,h2,h3,h5,h6,h7,Qa,seval]))

include o7 hi hM hm in
theorem QTv:Kd NB fr 5 m.name (YH i) (XJ m.name (i:Int) x.notes 6):=by
 rintro l f K hl ⟨h2,h3,h5,h6,h7,-⟩ hK;have hx:=hm.meths x (QYY hi);have hln:=hx.len;rw[Wn]at o7;simp only[NB,QC,h6,h7,o7,eE,seval];exact KW (by simp only[maxLen];omega) (by simp only[maxLen];omega) hx.notes (by decide) h5 rfl rfl rfl (by decide) hl (hK _ (by simp only[Hd,YH,QZJ,h2,h3,h5,h6,h7,Qa,seval]))
end

section
variable {M:Nat}(hM:M≤1048576)(S:SC)(hS:S.ok M)(m:SQ)(hm:m.ok M)
include hM hS hm in
theorem Ir (l:List PB)(hl:l.length≤1000000)(f:Fr)(fr:Nat→Ob)(h2:f 2=.ptr 0 2 0)(h3:f 3=.ptr 0 3 0)(h5:f 5=.ptr 0 5 0)(h6:f 6=.int .i64 0)
  (o2:fr 2=.cells [.list (S.msgs.map fun n=>.agg n.cells),.list (S.enums.map fun n=>.agg n.cells),.list (S.servs.map fun n=>.agg n.cells)]) (o3:fr 3=.cells m.cells) (o7:fr 7=.none) (Q:Exit→St→Prop)
  (hq:∀(f:Fr) (fr:Nat→Ob),f 3=.ptr 0 3 0→f 5=.ptr 0 5 0→fr 3=.cells m.cells→Q (.exit 0) ⟨f,[ldr fr 5 1100 m.name (l++upto m.meths (Kr S m) m.meths.length)],[]⟩) :
  QN Tryz.prog (.loop Qac) ⟨f,[ldr fr 5 1100 m.name l],[]⟩ Q:=by
 let I:Nat→St→Prop:=fun n st=>∃f fr i,st=⟨f,[ldr fr 5 1100 m.name (l++upto m.meths (Kr S m) i)],[]⟩∧n=m.meths.length-i∧i≤m.meths.length∧f 2=.ptr 0 2 0∧f 3=.ptr 0 3 0∧f 5=.ptr 0 5 0∧f 6=.int .i64 (i:Nat)∧
  fr 2=.cells [.list (S.msgs.map fun n=>.agg n.cells),.list (S.enums.map fun n=>.agg n.cells),.list (S.servs.map fun n=>.agg n.cells)]∧fr 3=.cells m.cells∧(fr 7).isRow=false
 have hl1:=hm.len1;refine Qe I _ ⟨f,fr,0,by rw[upto,QZI],rfl,QYT _,h2,h3,h5,h6,o2,o3,by rw[o7];rfl⟩ ?_;clear h2 h3 h5 h6 o2 o3 o7;rintro _ st ⟨f0,fr0,i,rfl,rfl,hi,h20,h30,h50,h60,KB,K8,r7⟩;refine QH (a:=_) [7] (by
  intro s hs;simp only[QZ0,Q0Q,or_false]at hs;subst hs;rw[Z5 _ _ _ _ _ (by decide) (by decide)];exact r7) ?_
 intro f fr hf hmm hn;have h2:f 2=.ptr 0 2 0:=by rw[hf,h20]<;>rfl
 have h3:f 3=.ptr 0 3 0:=by rw[hf,h30]<;>rfl
 have h5:f 5=.ptr 0 5 0:=by rw[hf,h50]<;>rfl
 have h6:f 6=.int .i64 (i:Nat):=by rw[hf,h60]<;>rfl
 have o2:fr 2=.cells [.list (S.msgs.map fun n=>.agg n.cells),.list (S.enums.map fun n=>.agg n.cells),.list (S.servs.map fun n=>.agg n.cells)]:=by rw[hmm 2 (by decide),Z5 _ _ _ _ _ (by decide) (by decide),KB]<;>rfl
 have o3:fr 3=.cells m.cells:=by rw[hmm 3 (by decide),Z5 _ _ _ _ _ (by decide) (by decide),K8]<;>rfl
 have n7:=hn 7 (by decide);have q0:(l++upto m.meths (Kr S m) i).length≤100000000:=by
  have:=QZ (l:=m.meths) (YG S m) i;rw[QZn];omega
 have hfe:ldr fr 5 1100 m.name (l++upto m.meths (Kr S m) i)=fr:=Fq _ _ _ _ _ (by rw[hmm 5 (by decide),Hg]<;>rfl) (by rw[hmm 1100 (by decide),Hh _ _ _ _ _ (by decide)]<;>rfl);clear hf hmm hn h20 h30 h50 h60 KB K8 r7;have o3':=o3;rw[Wf]at o3';simp only[L9,QZ5,h3,h6,o3',eE,seval];by_cases hlt:i<m.meths.length
 case neg=>
  have ei:i=m.meths.length:=by omega
  subst ei;simp only[Qy hlt,Qa,seval];rw[←hfe];exact hq _ _ h3 h5 o3
 obtain⟨x,hx⟩:∃x,m.meths[i]? = some x:=⟨m.meths[i],QYN hlt⟩;have hg:(m.meths.map fun n=>AV.agg n.cells)[i]? = some (.agg x.cells):=by rw[QZ3,hx];rfl
 rw[Wn]at hg;have e1:=Ql i _ hlt (by simp only[maxLen];omega);simp only[Qw hlt,n7,Qaa,Qj,QZ8,Qd,hg,h3,h6,o3',eE,seval];rw[←hfe,Fs _ _ _ _ _ (by decide) (by decide)];generalize hF:Qt fr 7 _=F;have p2:F 2=.cells [.list (S.msgs.map fun n=>.agg n.cells),.list (S.enums.map fun n=>.agg n.cells),.list (S.servs.map fun n=>.agg n.cells)]:=by rw[←hF];exact o2
 have p3:F 3=.cells m.cells:=by rw[←hF];exact o3
 have p7:F 7=.cells x.cells:=by rw[←hF,Wn];exact rfl
 clear hF hfe o2 o3 o3' n7;refine us8 m i x F p7 _ _ _ (by omega) (by simp only[Hd,YH,QZJ,h2,h3,h5,h6,Qa,seval]) (fun f hf=>?_);clear h2 h3 h5 h6;have q1:=Qx q0 m.name (i:Int) (Xo x.name) 8;simp only[Qa,seval];refine us9 hM m hm i x hx F p3 p7 _ f _ (by omega) hf (fun f hf=>?_);have q2:=Qx q1 m.name (i:Int) (F4 m.meths i x) 11;simp only[Qa,seval];refine QTt hM S hS m i x F p2 p7 _ f _ (by omega) hf (fun f hf=>?_);have q3:=Qx q2 m.name (i:Int) (Q6 S x.inn&&Q6 S x.out) 12;simp only[Qa,seval];refine QTu m i x F p7 _ f _ (by omega) hf (fun f hf=>?_);have q4:=Qx q3 m.name (i:Int) (decide (x.shape≥1)&&decide (x.shape≤4)) 1;simp only[Qa,seval];refine QTv hM m hm i x hx F p7 _ f _ (by omega) hf (fun f hf=>?_);obtain⟨h2,h3,h5,h6,h7,-⟩:=hf;simp only[Qab,h6,e1,Qa,seval];exact⟨m.meths.length-(i+1),by omega,_,F,i+1,by rw[Zw hx,Ak];simp only[QY4]<;>rfl,rfl,by omega,(by exact h2),(by exact h3),(by exact h5),(by rfl),p2,p3,by rw[p7];rfl⟩

include hM hS hm in
theorem u46:Qi Tryz.prog 46 [S.av,Yf m] (.list ((J0 S m).map PB.av)):=by
 have hl1:=hm.len1;have hl2:=hm.len2;have hnl:=hm.name;refine k46.fn (by simp) ?_;simp only[r46,o46,L0,L5,SC.av,Yf,Wf m,eE,seval];refine Xf rfl rfl rfl rfl ?_;generalize hb:(Qt (Qt Qc 2 _) 3 _:Nat→Ob)=base;have o2:base 2=.cells [.list (S.msgs.map fun n=>.agg n.cells),.list (S.enums.map fun n=>.agg n.cells),.list (S.servs.map fun n=>.agg n.cells)]:=by rw[←hb];exact rfl
 have o3:base 3=.cells m.cells:=by rw[←hb,Wf];exact rfl
 have o7:base 7=.none:=by rw[←hb];rfl
 clear hb;have o3s:=o3;rw[Wf]at o3s;rw[Bs base 5 1100 m.name _ (by decide)];simp only[L6,QC,o3s,eE,seval];refine aC (u85 m.name) ?_;simp only[Qa,seval];refine QT (by decide) rfl rfl rfl rfl (by simp) ?_;rw[Q0S,QY6];have q1:=Q7 m.name (-1) (XE m.name) 8;have hbb:decide (m.meths.length≤64)=!decide ((m.meths.length:Int) > 64):=(by rw[QZB];simp only[QZ2,QZD,Q0E];omega);have q2:=Qx q1 m.name (-1) (decide (m.meths.length≤64)) 3;simp only[L7,QC,QZ5,o3s,eE,seval];refine QT (by decide) rfl rfl rfl rfl (by omega) ?_;rw[←hbb];simp only[L8,Qa,seval];refine Ir hM S hS m hm _ (by omega) _ base rfl rfl rfl rfl o2 o3 o7 _ (fun f fr h3 h5 o3=>?_);have o3s:=o3;rw[Wf]at o3s;have q3:=QZ (l:=m.meths) (YG S m) m.meths.length;simp only[Tr,QC,h3,o3s,eE,seval];refine KW (by simp only[maxLen];omega) (by simp only[maxLen];omega) hm.notes (by decide) h5 rfl rfl rfl (by decide) (by simp only[QZn]at q2 ⊢;omega) ?_;generalize hL:_++XJ m.name (-1) m.notes 5=L;have hfin:J0 S m=L:=by rw[←hL];rfl
 rw[hfin];simp only[Ts,QC,h5,QZ5,QZs,Yg,QY9,QYK,QZJ,QZP,AV.un,eE,seval]
end

theorem u41 (L:List (List UInt8))(hl:L.length≤maxLen):Qi Tryz.prog 41 [.list (L.map Qo)] (.bool (XN L Op.bytesLess)):=by
 let I:Nat→St→Prop:=fun k st=>∃f i,st=⟨f,[Qc],[]⟩∧k=L.length-(i+1)∧Xq (K9 L Op.bytesLess) (i+1)=true∧f 0=.list (L.map Qo)∧f 3=.int .i64 ((i+1:Nat):Int)
 refine k41.fn (by simp) ?_;simp only[Qa,seval];refine Qe I _ ⟨_,0,rfl,rfl,rfl,rfl,rfl⟩ ?_;rintro _ st ⟨f,i,rfl,rfl,hx,h0,h3⟩;simp only[QZ5,h0,h3,Qa,seval];by_cases hlt:i+1<L.length
 ·obtain⟨x,hi⟩:∃x,L[i]? = some x:=⟨L[i]'(by omega),QYN (by omega)⟩;obtain⟨y,hj⟩:∃y,L[i+1]? = some y:=⟨L[i+1],QYN hlt⟩;have hg:(L.map Qo)[i]? = some (.str x):=by simp[hi,Qo]
  have hh:(L.map Qo)[i+1]? = some (.str y):=by simp[hj,Qo]
  have e1:=Ql (i+1) _ hlt hl;have e2:=KS i _ hlt hl;simp only[Qw hlt,e2,PF,Qj,QZ8,Qd,hg,hh,h0,h3,eE,seval];have hs:Xq (K9 L Op.bytesLess) (i+2)=Op.bytesLess x y:=by
   show(Xq (K9 L Op.bytesLess) (i+1)&&K9 L Op.bytesLess (i+1))=_;rw[hx,J7 hi hj,Q0p]
  cases hp:Op.bytesLess x y
  ·rw[hp]at hs;have hf:XN L Op.bytesLess=false:=by
    rw[Q0x];intro h';rw[Q1.2 fun k hk=>Q1.1 h' k (by omega)]at hs;cases hs
   simp only[hf,QZN,Qa,seval]
  ·rw[hp]at hs;simp only[h3,e1,Q0q,Qa,seval];exact⟨L.length-(i+2),by omega,_,i+1,rfl,rfl,hs,h0,rfl⟩
 ·have hf:XN L Op.bytesLess=true:=Q1.2 fun k hk=>Q1.1 hx k (by omega)
  simp only[Qy hlt,hf,Qa,seval]

theorem u42 (A B:List (List UInt8))(hA:A.length≤maxLen)(hB:B.length≤maxLen):Qi Tryz.prog 42 [.list (A.map Qo),.list (B.map Qo)] (.bool (A.any fun s=>B.contains s)):=by
 let I:Nat→St→Prop:=fun k st=>∃f i,st=⟨f,[Qc],[]⟩∧k=A.length-i∧i≤A.length∧(A.take i).any (fun s=>B.contains s)=false∧f 0=.list (A.map Qo)∧f 1=.list (B.map Qo)∧f 5=.int .i64 (i:Nat)
 refine k42.fn (by simp) ?_;simp only[Qa,seval];refine Qe I _ ⟨_,0,rfl,rfl,QYT _,rfl,rfl,rfl,rfl⟩ ?_;rintro _ st ⟨f,i,rfl,rfl,hil,hx,h0,h1,h5⟩;simp only[QZ5,h0,h5,Qa,seval];by_cases hlt:i<A.length
 ·obtain⟨x,hi⟩:∃x,A[i]? = some x:=⟨A[i],QYN hlt⟩;have hg:(A.map Qo)[i]? = some (.str x):=by simp[hi,Qo]
  have e1:=Ql i _ hlt hA;have ht:=Kv (q:=fun s=>B.contains s) hi;rw[hx,Q0s]at ht;simp only[Qw hlt,Qj,QZ8,Qd,hg,h0,h1,h5,eE,seval];refine aC (u83 B hB x) ?_;cases hp:B.contains x
  ·rw[hp]at ht;simp only[h5,e1,Qa,seval];exact⟨A.length-(i+1),by omega,_,i+1,rfl,rfl,by omega,ht,h0,h1,rfl⟩
  ·have hr:(A.any fun s=>B.contains s)=true:=Q0A.2 ⟨x,QYY hi,hp⟩;simp only[hr,Qa,seval]
 ·have hr:(A.any fun s=>B.contains s)=false:=by rw[←hx,QZj (by omega)]
  simp only[Qy hlt,hr,Qa,seval]

def Q4 (S:SC)(w:Int):List (List UInt8):=(if w=1 then S.msgs.map SM.name else [])++(if w=2 then S.enums.map SE.name else [])++(if w=3 then S.servs.map SQ.name else [])
section
variable {M:Nat}(hM:M≤1048576)(S:SC)(hS:S.ok M)(w:Int)
include hM hS in
theorem QTw (L:List (List UInt8))(hL:L.length≤10000000)(f:Fr)(fr:Nat→Ob)(g:Nat)(h1:f 1=.int .i64 w)(h2:f 2=.ptr 0 2 0)(h5:f 5=.vec 0 5 g 0 L.length false)(hk:f 6=.int .i64 0)
  (o2:fr 2=.cells [.list (S.msgs.map fun n=>.agg n.cells),.list (S.enums.map fun n=>.agg n.cells),.list (S.servs.map fun n=>.agg n.cells)]) (o5:fr 5=.vec g 1 (L.map Qo)) (Q:Exit→St→Prop)
  (hq:∀(f:Fr) (fr:Nat→Ob) (g:Nat) (L2:List (List UInt8)),L2=L++(if w=1 then S.msgs.map SM.name else [])→f 1=.int .i64 w→f 2=.ptr 0 2 0→f 5=.vec 0 5 g 0 L2.length false→fr 2=.cells [.list (S.msgs.map fun n=>.agg n.cells),.list (S.enums.map fun n=>.agg n.cells),.list (S.servs.map fun n=>.agg n.cells)]→fr 5=.vec g 1 (L2.map Qo)→Q (.exit 0) ⟨f,[fr],[]⟩):QN Tryz.prog (.loop QaA) ⟨f,[fr],[]⟩ Q:=by
 have hl1:=hS.len1;by_cases hw:w=1
 case neg=>
  have d:(w==1)=false:=by simp[hw]
  refine Qe (fun k st=>k=0∧st=⟨f,[fr],[]⟩) 0 ⟨rfl,rfl⟩ ?_;rintro _ st ⟨rfl,rfl⟩;simp only[h1,d,Qa,seval];exact hq _ _ g L (by rw[QYR hw,QZI]) h1 h2 h5 o2 o5
 have d:(w==1)=true:=by simp[hw]
 rw[QYS hw]at hq
 let I:Nat→St→Prop:=fun n st=>∃f fr i g L2,st=⟨f,[fr],[]⟩∧n=S.msgs.length-i∧i≤S.msgs.length∧L2=L++(S.msgs.take i).map SM.name∧f 1=.int .i64 w∧f 2=.ptr 0 2 0∧f 5=.vec 0 5 g 0 L2.length false∧f 6=.int .i64 (i:Nat)∧
  fr 2=.cells [.list (S.msgs.map fun n=>.agg n.cells),.list (S.enums.map fun n=>.agg n.cells),.list (S.servs.map fun n=>.agg n.cells)]∧fr 5=.vec g 1 (L2.map Qo)
 refine Qe I _ ⟨f,fr,0,g,L,rfl,rfl,QYT _,by simp,h1,h2,h5,hk,o2,o5⟩ ?_;clear h1 h2 h5 hk o2 o5;rintro _ st ⟨f,fr,i,g,L2,rfl,rfl,hi,hL2,h1,h2,h5,hk,o2,o5⟩;simp only[QZ5,h1,h2,hk,o2,d,eE,seval];by_cases hlt:i<S.msgs.length
 case neg=>
  simp only[Qy hlt,Qa,seval];rw[QZj (by omega)]at hL2;exact hq _ _ g L2 hL2 h1 h2 h5 o2 o5
 obtain⟨x,hx⟩:∃x,S.msgs[i]? = some x:=⟨S.msgs[i],QYN hlt⟩;have hg:(S.msgs.map fun n=>AV.agg n.cells)[i]? = some (.agg x.cells):=by rw[QZ3,hx];rfl
 rw[Xe]at hg;have e1:=Ql i _ hlt (by simp only[maxLen];omega);have hsu:L2++[x.name]=L++(S.msgs.take (i+1)).map SM.name:=by rw[Q0j,hx,Q0k,Q0i,hL2,QY4];rfl
 have hll:L2.length≤20000000:=by
  rw[hL2,QZn,QZ5,QZC];omega
 simp only[Qw hlt,Qj,QZ8,Qd,hg,h2,h5,hk,o2,eE,seval];refine Ja (w:=x.name) rfl ?_;refine QJ (xs:=L2.map Qo) rfl o5 rfl (by simp) rfl rfl (by simp only[QYZ,QZR,maxLen];omega) (by simp only[QYZ,QZR];omega) ?_;simp only[hk,e1,Qa,seval];exact⟨S.msgs.length-(i+1),by omega,_,_,i+1,g+1,L2++[x.name],rfl,rfl,by omega,hsu,h1,h2,by rw[QZn];exact rfl,rfl,o2,by rw[Q0i];exact rfl⟩

include hM hS in
theorem QTx (L:List (List UInt8))(hL:L.length≤10000000)(f:Fr)(fr:Nat→Ob)(g:Nat)(h1:f 1=.int .i64 w)(h2:f 2=.ptr 0 2 0)(h5:f 5=.vec 0 5 g 0 L.length false)(hk:f 7=.int .i64 0)
  (o2:fr 2=.cells [.list (S.msgs.map fun n=>.agg n.cells),.list (S.enums.map fun n=>.agg n.cells),.list (S.servs.map fun n=>.agg n.cells)]) (o5:fr 5=.vec g 1 (L.map Qo)) (Q:Exit→St→Prop)
  (hq:∀(f:Fr) (fr:Nat→Ob) (g:Nat) (L2:List (List UInt8)),L2=L++(if w=2 then S.enums.map SE.name else [])→f 1=.int .i64 w→f 2=.ptr 0 2 0→f 5=.vec 0 5 g 0 L2.length false→fr 2=.cells [.list (S.msgs.map fun n=>.agg n.cells),.list (S.enums.map fun n=>.agg n.cells),.list (S.servs.map fun n=>.agg n.cells)]→fr 5=.vec g 1 (L2.map Qo)→Q (.exit 2) ⟨f,[fr],[]⟩):QN Tryz.prog (.loop QaB) ⟨f,[fr],[]⟩ Q:=by
 have hl1:=hS.len2;by_cases hw:w=2
 case neg=>
  have d:(w==2)=false:=by simp[hw]
  refine Qe (fun k st=>k=0∧st=⟨f,[fr],[]⟩) 0 ⟨rfl,rfl⟩ ?_;rintro _ st ⟨rfl,rfl⟩;simp only[h1,d,Qa,seval];exact hq _ _ g L (by rw[QYR hw,QZI]) h1 h2 h5 o2 o5
 have d:(w==2)=true:=by simp[hw]
 rw[QYS hw]at hq
 let I:Nat→St→Prop:=fun n st=>∃f fr i g L2,st=⟨f,[fr],[]⟩∧n=S.enums.length-i∧i≤S.enums.length∧L2=L++(S.enums.take i).map SE.name∧f 1=.int .i64 w∧f 2=.ptr 0 2 0∧f 5=.vec 0 5 g 0 L2.length false∧f 7=.int .i64 (i:Nat)∧
  fr 2=.cells [.list (S.msgs.map fun n=>.agg n.cells),.list (S.enums.map fun n=>.agg n.cells),.list (S.servs.map fun n=>.agg n.cells)]∧fr 5=.vec g 1 (L2.map Qo)
 refine Qe I _ ⟨f,fr,0,g,L,rfl,rfl,QYT _,by simp,h1,h2,h5,hk,o2,o5⟩ ?_;clear h1 h2 h5 hk o2 o5;rintro _ st ⟨f,fr,i,g,L2,rfl,rfl,hi,hL2,h1,h2,h5,hk,o2,o5⟩;simp only[QZ5,h1,h2,hk,o2,d,eE,seval];by_cases hlt:i<S.enums.length
 case neg=>
  simp only[Qy hlt,Qa,seval];rw[QZj (by omega)]at hL2;exact hq _ _ g L2 hL2 h1 h2 h5 o2 o5
 obtain⟨x,hx⟩:∃x,S.enums[i]? = some x:=⟨S.enums[i],QYN hlt⟩;have hg:(S.enums.map fun n=>AV.agg n.cells)[i]? = some (.agg x.cells):=by rw[QZ3,hx];rfl
 rw[XR]at hg;have e1:=Ql i _ hlt (by simp only[maxLen];omega);have hsu:L2++[x.name]=L++(S.enums.take (i+1)).map SE.name:=by rw[Q0j,hx,Q0k,Q0i,hL2,QY4];rfl
 have hll:L2.length≤20000000:=by
  rw[hL2,QZn,QZ5,QZC];omega
 simp only[Qw hlt,Qj,QZ8,Qd,hg,h2,h5,hk,o2,eE,seval];refine Ja (w:=x.name) rfl ?_;refine QJ (xs:=L2.map Qo) rfl o5 rfl (by simp) rfl rfl (by simp only[QYZ,QZR,maxLen];omega) (by simp only[QYZ,QZR];omega) ?_;simp only[hk,e1,Qa,seval];exact⟨S.enums.length-(i+1),by omega,_,_,i+1,g+1,L2++[x.name],rfl,rfl,by omega,hsu,h1,h2,by rw[QZn];exact rfl,rfl,o2,by rw[Q0i];exact rfl⟩

include hM hS in
theorem QTy (L:List (List UInt8))(hL:L.length≤10000000)(f:Fr)(fr:Nat→Ob)(g:Nat)(h1:f 1=.int .i64 w)(h2:f 2=.ptr 0 2 0)(h5:f 5=.vec 0 5 g 0 L.length false)(hk:f 8=.int .i64 0)
  (o2:fr 2=.cells [.list (S.msgs.map fun n=>.agg n.cells),.list (S.enums.map fun n=>.agg n.cells),.list (S.servs.map fun n=>.agg n.cells)]) (o5:fr 5=.vec g 1 (L.map Qo)) (Q:Exit→St→Prop)
  (hq:∀(f:Fr) (fr:Nat→Ob) (g:Nat) (L2:List (List UInt8)),L2=L++(if w=3 then S.servs.map SQ.name else [])→f 1=.int .i64 w→f 2=.ptr 0 2 0→f 5=.vec 0 5 g 0 L2.length false→fr 2=.cells [.list (S.msgs.map fun n=>.agg n.cells),.list (S.enums.map fun n=>.agg n.cells),.list (S.servs.map fun n=>.agg n.cells)]→fr 5=.vec g 1 (L2.map Qo)→Q (.exit 4) ⟨f,[fr],[]⟩):QN Tryz.prog (.loop QaC) ⟨f,[fr],[]⟩ Q:=by
 have hl1:=hS.len3;by_cases hw:w=3
 case neg=>
  have d:(w==3)=false:=by simp[hw]
  refine Qe (fun k st=>k=0∧st=⟨f,[fr],[]⟩) 0 ⟨rfl,rfl⟩ ?_;rintro _ st ⟨rfl,rfl⟩;simp only[h1,d,Qa,seval];exact hq _ _ g L (by rw[QYR hw,QZI]) h1 h2 h5 o2 o5
 have d:(w==3)=true:=by simp[hw]
 rw[QYS hw]at hq
 let I:Nat→St→Prop:=fun n st=>∃f fr i g L2,st=⟨f,[fr],[]⟩∧n=S.servs.length-i∧i≤S.servs.length∧L2=L++(S.servs.take i).map SQ.name∧f 1=.int .i64 w∧f 2=.ptr 0 2 0∧f 5=.vec 0 5 g 0 L2.length false∧f 8=.int .i64 (i:Nat)∧
  fr 2=.cells [.list (S.msgs.map fun n=>.agg n.cells),.list (S.enums.map fun n=>.agg n.cells),.list (S.servs.map fun n=>.agg n.cells)]∧fr 5=.vec g 1 (L2.map Qo)
 refine Qe I _ ⟨f,fr,0,g,L,rfl,rfl,QYT _,by simp,h1,h2,h5,hk,o2,o5⟩ ?_;clear h1 h2 h5 hk o2 o5;rintro _ st ⟨f,fr,i,g,L2,rfl,rfl,hi,hL2,h1,h2,h5,hk,o2,o5⟩;simp only[QZ5,h1,h2,hk,o2,d,eE,seval];by_cases hlt:i<S.servs.length
 case neg=>
  simp only[Qy hlt,Qa,seval];rw[QZj (by omega)]at hL2;exact hq _ _ g L2 hL2 h1 h2 h5 o2 o5
 obtain⟨x,hx⟩:∃x,S.servs[i]? = some x:=⟨S.servs[i],QYN hlt⟩;have hg:(S.servs.map fun n=>AV.agg n.cells)[i]? = some (.agg x.cells):=by rw[QZ3,hx];rfl
 rw[Wf]at hg;have e1:=Ql i _ hlt (by simp only[maxLen];omega);have hsu:L2++[x.name]=L++(S.servs.take (i+1)).map SQ.name:=by rw[Q0j,hx,Q0k,Q0i,hL2,QY4];rfl
 have hll:L2.length≤20000000:=by
  rw[hL2,QZn,QZ5,QZC];omega
 simp only[Qw hlt,Qj,QZ8,Qd,hg,h2,h5,hk,o2,eE,seval];refine Ja (w:=x.name) rfl ?_;refine QJ (xs:=L2.map Qo) rfl o5 rfl (by simp) rfl rfl (by simp only[QYZ,QZR,maxLen];omega) (by simp only[QYZ,QZR];omega) ?_;simp only[hk,e1,Qa,seval];exact⟨S.servs.length-(i+1),by omega,_,_,i+1,g+1,L2++[x.name],rfl,rfl,by omega,hsu,h1,h2,by rw[QZn];exact rfl,rfl,o2,by rw[Q0i];exact rfl⟩

include hM hS in
theorem u39:Qi Tryz.prog 39 [S.av,.int .i64 w] (.list ((Q4 S w).map Qo)):=by
 have l1:=hS.len1;have l2:=hS.len2;have l3:=hS.len3;have hi:∀(p:Prop) [Decidable p] (l:List (List UInt8)),l.length≤1048576→(if p then l else []).length≤1048576:=by
  intro p _ l h;split
  ·exact h
  ·simp
 have m1:=hi (w=1) (S.msgs.map SM.name) (by rw[QZ5];omega);have m2:=hi (w=2) (S.enums.map SE.name) (by rw[QZ5];omega);have m3:=hi (w=3) (S.servs.map SQ.name) (by rw[QZ5];omega);refine k39.fn (by simp) ?_;simp only[SC.av,eE,seval];refine ZZ rfl rfl ?_;simp only[Qa,seval];refine QTw hM S hS w [] (by simp) _ _ 1 (by rfl) (by rfl) (by rfl) (by rfl) (by rfl) (by rfl) _ (fun f fr g L2 hL h1 h2 h5 o2 o5=>?_);simp only[Qa,seval];refine QTx hM S hS w L2 (by rw[hL,QY6];omega) _ _ g (by exact h1) (by exact h2) (by exact h5) (by rfl) o2 o5 _ (fun f fr g L3 hL3 h1 h2 h5 o2 o5=>?_);simp only[Qa,seval];refine QTy hM S hS w L3 (by rw[hL3,hL,QY6,QZn];omega) _ _ g (by exact h1) (by exact h2) (by exact h5) (by rfl) o2 o5 _ (fun f fr g L4 hL4 h1 h2 h5 o2 o5=>?_);have e:Q4 S w=L4:=by rw[hL4,hL3,hL];rfl
 have ht:List.take L4.length (L4.map Qo)=L4.map Qo:=QZj (by simp);rw[e];simp only[h5,o5,ht,QZ5,QZs,QY9,QYK,QZJ,QZP,AV.un,eE,seval]
end

theorem H9 (A B:List (List UInt8)):(A.any fun s=>B.contains s)=B.any fun s=>A.contains s:=by
 rw[QZB,Q0A,Q0A]
 constructor
 ·rintro⟨x,h1,h2⟩;exact⟨x,Q0N.1 h2,Q0N.2 h1⟩
 ·rintro⟨x,h1,h2⟩;exact⟨x,Q0N.1 h2,Q0N.2 h1⟩

section
variable {M:Nat}(hM:M≤1048576)(S:SC)(hS:S.ok M)(h8:S.msgs.length≤8∧S.enums.length≤8∧S.servs.length≤8)

include hM hS h8 in
theorem QTz (fr:Nat→Ob)(o1:fr 1=.cells [.list (S.msgs.map fun n=>.agg n.cells),.list (S.enums.map fun n=>.agg n.cells),.list (S.servs.map fun n=>.agg n.cells)])(f:Fr)(h1:f 1=.ptr 0 1 0)(h3:f 3=.ptr 0 3 0)(h4:f 4=.int .i64 1)(Q:Exit→St→Prop)
  (hq:∀f,f 1=.ptr 0 1 0→f 3=.ptr 0 3 0→Q (.exit 0) ⟨f,[ldr fr 3 1100 [] (Ka (Q4 S 1) (Q4 S 2) (Q4 S 3) 3)],[]⟩):QN Tryz.prog (.loop Pi) ⟨f,[ldr fr 3 1100 [] []],[]⟩ Q:=by
 obtain⟨l1,l2,l3⟩:=h8;have n1:(Q4 S 1).length≤8:=by simp[Q4];omega
 have n2:(Q4 S 2).length≤8:=by simp[Q4];omega
 have n3:(Q4 S 3).length≤8:=by simp[Q4];omega
 let I:Nat→St→Prop:=fun n st=>∃f i,st=⟨f,[ldr fr 3 1100 [] (Ka (Q4 S 1) (Q4 S 2) (Q4 S 3) i)],[]⟩∧n=3-i∧i≤3∧f 1=.ptr 0 1 0∧f 3=.ptr 0 3 0∧f 4=.int .i64 ((i+1:Nat):Int)
 refine Qe I _ ⟨f,0,rfl,rfl,by omega,h1,h3,h4⟩ ?_;clear h1 h3 h4;rintro _ st ⟨f,i,rfl,rfl,hi,h1,h3,h4⟩;simp only[Pi,LS,h4,Qa,seval];by_cases hlt:i<3
 case neg=>
  have e:i=3:=by omega
  subst e;have d:decide (((3+1:Nat):Int)≤3)=false:=rfl;simp only[Qa,seval];exact hq _ h1 h3
 have d:decide (((i+1:Nat):Int)≤3)=true:=Q0D (by omega);have e1:IntKind.i64.wrap (((i+1:Nat):Int)+1)=((i+1+1:Nat):Int):=by simp only[QU];omega
 have hc:=u39 hM S hS ((i+1:Nat):Int);simp only[SC.av]at hc;obtain⟨L,hLe,hLl,hp,hps⟩:∃L,Q4 S ((i+1:Nat):Int)=L∧L.length≤8∧(Ka (Q4 S 1) (Q4 S 2) (Q4 S 3) i).length≤100∧Ka (Q4 S 1) (Q4 S 2) (Q4 S 3) (i+1)=Ka (Q4 S 1) (Q4 S 2) (Q4 S 3) i++JS L:=by
  have b1:=Z4 (Q4 S 1);have b2:=Z4 (Q4 S 2);rcases(show i=0∨i=1∨i=2 by omega)with rfl|rfl|rfl
  ·exact⟨_,rfl,n1,by simp[Ka],rfl⟩
  ·exact⟨_,rfl,n2,by simp only[Ka];omega,rfl⟩
  ·exact⟨_,rfl,n3,by simp only[Ka,QZn];omega,rfl⟩
 rw[hLe]at hc;generalize Ka (Q4 S 1) (Q4 S 2) (Q4 S 3) i=p at *;have q1:=Qx hp [] (-1) (decide (L.length≤64)) 3;have hb:decide (L.length≤64)=!decide ((L.length:Int) > 64):=(by rw[QZB];simp only[QZ2,QZD,Q0E];omega);simp only[d,LU,QC,h1,h4,o1,eE,seval];refine aC hc ?_;simp only[LV,QZ5,Qa,seval];refine QT (by decide) (by exact h3) rfl rfl rfl (by omega) ?_;rw[←hb];simp only[LW,Qa,seval];refine aC (u41 L (by simp only[maxLen];omega)) ?_;simp only[Qa,seval];refine QT (by decide) (by exact h3) rfl rfl rfl (by omega) ?_;simp only[LX,h4,e1,Qa,seval];exact⟨3-(i+1),by omega,_,i+1,by rw[hps,JS,Q0S,QY4],rfl,by omega,(by exact h1),(by exact h3),(by rfl)⟩

def AS (fr:Nat→Ob)(L:List PB):Prop:=∃g,fr 3=.cells [.str [],.vec 0 1100 g 0 L.length false]∧fr 1100=.vec g 3 (L.map PB.av)

include hM hS in
theorem QTA (hF:(QV S).length=S.msgs.length)(l:List PB)(hl:l.length≤1000000000)(h8:S.msgs.length≤8)(f:Fr)(fr:Nat→Ob)(h1:f 1=.ptr 0 1 0)(h3:f 3=.ptr 0 3 0)(h9:f 9=.list ((QV S).map AV.bool))(hk:f 10=.int .i64 0)
  (o1:fr 1=.cells [.list (S.msgs.map fun n=>.agg n.cells),.list (S.enums.map fun n=>.agg n.cells),.list (S.servs.map fun n=>.agg n.cells)]) (hA:AS fr l) (Q:Exit→St→Prop)
  (hq:∀(f:Fr) (fr:Nat→Ob),f 1=.ptr 0 1 0→f 3=.ptr 0 3 0→f 9=.list ((QV S).map AV.bool)→fr 1=.cells [.list (S.msgs.map fun n=>.agg n.cells),.list (S.enums.map fun n=>.agg n.cells),.list (S.servs.map fun n=>.agg n.cells)]→AS fr (l++S.msgs.flatMap (JQ S (Xm S (QV S))))→Q (.exit 2) ⟨f,[fr],[]⟩):QN Tryz.prog (.loop Bf) ⟨f,[fr],[]⟩ Q:=by
 let I:Nat→St→Prop:=fun n st=>∃f fr i,st=⟨f,[fr],[]⟩∧n=S.msgs.length-i∧i≤S.msgs.length∧f 1=.ptr 0 1 0∧f 3=.ptr 0 3 0∧f 9=.list ((QV S).map AV.bool)∧f 10=.int .i64 (i:Nat)∧
  fr 1=.cells [.list (S.msgs.map fun n=>.agg n.cells),.list (S.enums.map fun n=>.agg n.cells),.list (S.servs.map fun n=>.agg n.cells)]∧AS fr (l++(S.msgs.take i).flatMap (JQ S (Xm S (QV S))))
 have hg:∀x∈S.msgs,((JQ S (Xm S (QV S))) x).length≤14000000:=fun x hx=>He hM S _ x (hS.msgs x hx)
 have _:=hF;refine Qe I _ ⟨f,fr,0,rfl,rfl,QYT _,h1,h3,h9,hk,o1,by simpa using hA⟩ ?_;clear h1 h3 h9 hk o1 hA;rintro _ st ⟨f,fr,i,rfl,rfl,hi,h1,h3,h9,hk,o1,⟨g,oS,oR⟩⟩;simp only[Bf,Ti,Tj,Tk,QZ5,h1,hk,o1,eE,seval];by_cases hlt:i<S.msgs.length
 case neg=>
  have e:i=S.msgs.length:=by omega
  subst e;simp only[Qy hlt,Qa,seval];rw[Q0h]at oS oR;exact hq _ _ h1 h3 h9 o1 ⟨g,oS,oR⟩
 obtain⟨x,hx⟩:∃x,S.msgs[i]? = some x:=⟨S.msgs[i],QYN hlt⟩;have hm:=QYY hx;have hgx:(S.msgs.map fun n=>AV.agg n.cells)[i]? = some (.agg x.cells):=by rw[QZ3,hx];rfl
 rw[Xe]at hgx;have e1:=Ql i _ hlt (by simp only[maxLen];omega);have q1:=JU hg i;have q2:=hg x hm;have hc:=u44 hM S hS x (hS.msgs x hm) (QV S) hF;simp only[QM,Xe x,SC.av]at hc;simp only[Qw hlt,Qj,QZ8,Qd,hgx,h1,h3,h9,hk,o1,oS,eE,seval];refine aC hc ?_;refine QJ (xs:=(l++(S.msgs.take i).flatMap (JQ S (Xm S (QV S)))).map PB.av) rfl oR rfl (by simp) rfl (Fp _) (by simp only[QZn,QZ5,maxLen];omega) (by simp only[QZn,QZ5];omega) ?_;simp only[h3,hk,oS,e1,eE,seval];refine⟨S.msgs.length-(i+1),by omega,_,_,i+1,rfl,rfl,by omega,h1,h3,h9,rfl,o1,⟨g+1,?_,?_⟩⟩
 ·rw[Zy hx,←QY4];simp only[QZn,QZ5,Qa,seval]
 ·rw[Zy hx,←QY4];simp only[Q0i,Qa,seval]

include hM hS in
theorem QTB (hF:(QV S).length=S.msgs.length)(l:List PB)(hl:l.length≤1000000000)(h8:S.enums.length≤8)(f:Fr)(fr:Nat→Ob)(h1:f 1=.ptr 0 1 0)(h3:f 3=.ptr 0 3 0)(h9:f 9=.list ((QV S).map AV.bool))(hk:f 11=.int .i64 0)
  (o1:fr 1=.cells [.list (S.msgs.map fun n=>.agg n.cells),.list (S.enums.map fun n=>.agg n.cells),.list (S.servs.map fun n=>.agg n.cells)]) (hA:AS fr l) (Q:Exit→St→Prop)
  (hq:∀(f:Fr) (fr:Nat→Ob),f 1=.ptr 0 1 0→f 3=.ptr 0 3 0→f 9=.list ((QV S).map AV.bool)→fr 1=.cells [.list (S.msgs.map fun n=>.agg n.cells),.list (S.enums.map fun n=>.agg n.cells),.list (S.servs.map fun n=>.agg n.cells)]→AS fr (l++S.enums.flatMap (JD))→Q (.exit 4) ⟨f,[fr],[]⟩):QN Tryz.prog (.loop Bg) ⟨f,[fr],[]⟩ Q:=by
 let I:Nat→St→Prop:=fun n st=>∃f fr i,st=⟨f,[fr],[]⟩∧n=S.enums.length-i∧i≤S.enums.length∧f 1=.ptr 0 1 0∧f 3=.ptr 0 3 0∧f 9=.list ((QV S).map AV.bool)∧f 11=.int .i64 (i:Nat)∧
  fr 1=.cells [.list (S.msgs.map fun n=>.agg n.cells),.list (S.enums.map fun n=>.agg n.cells),.list (S.servs.map fun n=>.agg n.cells)]∧AS fr (l++(S.enums.take i).flatMap (JD))
 have hg:∀x∈S.enums,((JD) x).length≤14000000:=fun x hx=>Hf hM x (hS.enums x hx)
 have _:=hF;refine Qe I _ ⟨f,fr,0,rfl,rfl,QYT _,h1,h3,h9,hk,o1,by simpa using hA⟩ ?_;clear h1 h3 h9 hk o1 hA;rintro _ st ⟨f,fr,i,rfl,rfl,hi,h1,h3,h9,hk,o1,⟨g,oS,oR⟩⟩;simp only[Bg,Tl,Tm,Tn,QZ5,h1,hk,o1,eE,seval];by_cases hlt:i<S.enums.length
 case neg=>
  have e:i=S.enums.length:=by omega
  subst e;simp only[Qy hlt,Qa,seval];rw[Q0h]at oS oR;exact hq _ _ h1 h3 h9 o1 ⟨g,oS,oR⟩
 obtain⟨x,hx⟩:∃x,S.enums[i]? = some x:=⟨S.enums[i],QYN hlt⟩;have hm:=QYY hx;have hgx:(S.enums.map fun n=>AV.agg n.cells)[i]? = some (.agg x.cells):=by rw[QZ3,hx];rfl
 rw[XR]at hgx;have e1:=Ql i _ hlt (by simp only[maxLen];omega);have q1:=JU hg i;have q2:=hg x hm;have hc:=u45 hM x (hS.enums x hm);simp only[Xl,XR x]at hc;simp only[Qw hlt,Qj,QZ8,Qd,hgx,h1,h3,hk,o1,oS,eE,seval];refine aC hc ?_;refine QJ (xs:=(l++(S.enums.take i).flatMap (JD)).map PB.av) rfl oR rfl (by simp) rfl (Fp _) (by simp only[QZn,QZ5,maxLen];omega) (by simp only[QZn,QZ5];omega) ?_;simp only[h3,hk,oS,e1,eE,seval];refine⟨S.enums.length-(i+1),by omega,_,_,i+1,rfl,rfl,by omega,h1,h3,h9,rfl,o1,⟨g+1,?_,?_⟩⟩
 ·rw[Zy hx,←QY4];simp only[QZn,QZ5,Qa,seval]
 ·rw[Zy hx,←QY4];simp only[Q0i,Qa,seval]

include hM hS in
theorem QTC (hF:(QV S).length=S.msgs.length)(l:List PB)(hl:l.length≤1000000000)(h8:S.servs.length≤8)(f:Fr)(fr:Nat→Ob)(h1:f 1=.ptr 0 1 0)(h3:f 3=.ptr 0 3 0)(h9:f 9=.list ((QV S).map AV.bool))(hk:f 12=.int .i64 0)
  (o1:fr 1=.cells [.list (S.msgs.map fun n=>.agg n.cells),.list (S.enums.map fun n=>.agg n.cells),.list (S.servs.map fun n=>.agg n.cells)]) (hA:AS fr l) (Q:Exit→St→Prop)
  (hq:∀(f:Fr) (fr:Nat→Ob),f 1=.ptr 0 1 0→f 3=.ptr 0 3 0→f 9=.list ((QV S).map AV.bool)→fr 1=.cells [.list (S.msgs.map fun n=>.agg n.cells),.list (S.enums.map fun n=>.agg n.cells),.list (S.servs.map fun n=>.agg n.cells)]→AS fr (l++S.servs.flatMap (J0 S))→Q (.exit 6) ⟨f,[fr],[]⟩):QN Tryz.prog (.loop Bh) ⟨f,[fr],[]⟩ Q:=by
 let I:Nat→St→Prop:=fun n st=>∃f fr i,st=⟨f,[fr],[]⟩∧n=S.servs.length-i∧i≤S.servs.length∧f 1=.ptr 0 1 0∧f 3=.ptr 0 3 0∧f 9=.list ((QV S).map AV.bool)∧f 12=.int .i64 (i:Nat)∧
  fr 1=.cells [.list (S.msgs.map fun n=>.agg n.cells),.list (S.enums.map fun n=>.agg n.cells),.list (S.servs.map fun n=>.agg n.cells)]∧AS fr (l++(S.servs.take i).flatMap (J0 S))
 have hg:∀x∈S.servs,((J0 S) x).length≤14000000:=fun x hx=>Mj hM S x (hS.servs x hx)
 have _:=hF;refine Qe I _ ⟨f,fr,0,rfl,rfl,QYT _,h1,h3,h9,hk,o1,by simpa using hA⟩ ?_;clear h1 h3 h9 hk o1 hA;rintro _ st ⟨f,fr,i,rfl,rfl,hi,h1,h3,h9,hk,o1,⟨g,oS,oR⟩⟩;simp only[Bh,To,Tp,Tq,QZ5,h1,hk,o1,eE,seval];by_cases hlt:i<S.servs.length
 case neg=>
  have e:i=S.servs.length:=by omega
  subst e;simp only[Qy hlt,Qa,seval];rw[Q0h]at oS oR;exact hq _ _ h1 h3 h9 o1 ⟨g,oS,oR⟩
 obtain⟨x,hx⟩:∃x,S.servs[i]? = some x:=⟨S.servs[i],QYN hlt⟩;have hm:=QYY hx;have hgx:(S.servs.map fun n=>AV.agg n.cells)[i]? = some (.agg x.cells):=by rw[QZ3,hx];rfl
 rw[Wf]at hgx;have e1:=Ql i _ hlt (by simp only[maxLen];omega);have q1:=JU hg i;have q2:=hg x hm;have hc:=u46 hM S hS x (hS.servs x hm);simp only[Yf,Wf x,SC.av]at hc;simp only[Qw hlt,Qj,QZ8,Qd,hgx,h1,h3,hk,o1,oS,eE,seval];refine aC hc ?_;refine QJ (xs:=(l++(S.servs.take i).flatMap (J0 S)).map PB.av) rfl oR rfl (by simp) rfl (Fp _) (by simp only[QZn,QZ5,maxLen];omega) (by simp only[QZn,QZ5];omega) ?_;simp only[h3,hk,oS,e1,eE,seval];refine⟨S.servs.length-(i+1),by omega,_,_,i+1,rfl,rfl,by omega,h1,h3,h9,rfl,o1,⟨g+1,?_,?_⟩⟩
 ·rw[Zy hx,←QY4];simp only[QZn,QZ5,Qa,seval]
 ·rw[Zy hx,←QY4];simp only[Q0i,Qa,seval]

theorem Ga (S:SC):(QV S).length=S.msgs.length:=by
 unfold QV;rw[H3,QZ9]

include hM hS h8 in
theorem u16:Qi Tryz.prog 16 [S.av] (.list ((YB S (Xm S (QV S))).map PB.av)):=by
 have h8':=h8;obtain⟨l1,l2,l3⟩:=h8';refine k16.fn (by simp) ?_;simp only[r16,o16,LP,LQ,SC.av,eE,seval];refine Xf rfl rfl rfl rfl ?_;generalize hb:(Qt Qc 1 _:Nat→Ob)=base;have o1:base 1=.cells [.list (S.msgs.map fun n=>.agg n.cells),.list (S.enums.map fun n=>.agg n.cells),.list (S.servs.map fun n=>.agg n.cells)]:=by rw[←hb];exact rfl
 clear hb;rw[Bs base 3 1100 [] _ (by decide)];simp only[LR,Qa,seval];refine QTz hM S hS h8 base o1 _ rfl rfl rfl _ (fun f h1 h3=>?_);have m1:=u39 hM S hS 1;have m2:=u39 hM S hS 2;have m3:=u39 hM S hS 3;have n1:(Q4 S 1).length≤8:=by simp[Q4];omega
 have n2:(Q4 S 2).length≤8:=by simp[Q4];omega
 have n3:(Q4 S 3).length≤8:=by simp[Q4];omega
 have eA:Q4 S 1=S.msgs.map SM.name:=by simp[Q4]
 have eB:Q4 S 2=S.enums.map SE.name:=by simp[Q4]
 have eC:Q4 S 3=S.servs.map SQ.name:=by simp[Q4]
 have hap:UQ (Q4 S 1) (Q4 S 2) (Q4 S 3)=Kh S:=by rw[eA,eB,eC];exact Al S
 have hlA:∀A B C:List (List UInt8),JS A++JS B++JS C=Ka A B C 3:=fun _ _ _=>rfl
 have hpa:YB S (Xm S (QV S))=Ka (Q4 S 1) (Q4 S 2) (Q4 S 3) 3++pb [] (-1) (Kh S) 9++S.msgs.flatMap (JQ S (Xm S (QV S)))++S.enums.flatMap JD++S.servs.flatMap (J0 S):=by
  unfold YB;rw[eA,eB,eC,hlA]
 rw[hpa];have q0:(Ka (Q4 S 1) (Q4 S 2) (Q4 S 3) 3).length≤6:=by
  have a:=Z4 (Q4 S 1);have b:=Z4 (Q4 S 2);have c:=Z4 (Q4 S 3);simp only[Ka,QZn];omega
 have hmt:Kh S=!((Q4 S 1).any (fun s=>(Q4 S 2).contains s)||(Q4 S 1).any (fun s=>(Q4 S 3).contains s)||(Q4 S 2).any (fun s=>(Q4 S 3).contains s)):=by
  rw[←hap,H9 (Q4 S 1) (Q4 S 2),H9 (Q4 S 1) (Q4 S 3),H9 (Q4 S 2) (Q4 S 3),Bool.not_or,Bool.not_or];rfl
 generalize Ka (Q4 S 1) (Q4 S 2) (Q4 S 3) 3=p at *;clear eA eB eC hap hlA hpa;generalize Q4 S 1=A at *;generalize Q4 S 2=B at *;generalize Q4 S 3=C at *;simp only[SC.av]at m1 m2 m3;have k1:=u42 A B (by simp only[maxLen];omega) (by simp only[maxLen];omega);have k2:=u42 A C (by simp only[maxLen];omega) (by simp only[maxLen];omega);have k3:=u42 B C (by simp only[maxLen];omega) (by simp only[maxLen];omega);simp only[LY,QC,h1,o1,eE,seval];refine aC m1 ?_;simp only[LZ,QC,h1,o1,eE,seval];refine aC m2 ?_;simp only[Tf,QC,h1,o1,eE,seval];refine aC m3 ?_;have key:∀f:Fr,f 1=.ptr 0 1 0→f 3=.ptr 0 3 0→QN Tryz.prog (.seq (.reg Nu) (.seq (.seq (.reg Nv) (.block 2 (.loop Bf))) (.seq (.seq (.reg Nw) (.block 4 (.loop Bg))) (.seq (.seq (.reg Nx) (.block 6 (.loop Bh))) (.seq (.reg Ny) .ret)))))
   ⟨f,[ldr base 3 1100 [] (p++pb [] (-1) (Kh S) 9)],[]⟩ (Za [.tmp 2] 0 fun x _=>x=.list ((p++pb [] (-1) (Kh S) 9++S.msgs.flatMap (JQ S (Xm S (QV S)))++S.enums.flatMap JD++S.servs.flatMap (J0 S)).map PB.av)):=by
  intro f h1 h3;have q1:=Qx q0 [] (-1) (Kh S) 9;generalize p++pb [] (-1) (Kh S) 9=L at *;have hf:=u43 hM S hS;simp only[SC.av]at hf;simp only[Nu,QC,h1,o1,eE,seval];refine aC hf ?_;simp only[Nv,Qa,seval];refine QTA hM S hS (Ga S) L (by omega) l1 _ _ (by exact h1) (by exact h3) (by rfl) (by rfl) (by rw[Z5 _ _ _ _ _ (by decide) (by decide)];exact o1) ⟨_,Hg _ _ _ _ _,Hh _ _ _ _ _ (by decide)⟩ _ (fun f fr h1 h3 h9 o1 hA=>?_);have q2:=JU (l:=S.msgs) (fun x hx=>He hM S (Xm S (QV S)) x (hS.msgs x hx)) S.msgs.length;rw[Q0h]at q2;simp only[Nw,Qa,seval];refine QTB hM S hS (Ga S) _ (by rw[QZn];omega) l2 _ _ (by exact h1) (by exact h3) (by exact h9) (by rfl) o1 hA _ (fun f fr h1 h3 h9 o1 hA=>?_);have q3:=JU (l:=S.enums) (fun x hx=>Hf hM x (hS.enums x hx)) S.enums.length;rw[Q0h]at q3;simp only[Nx,Qa,seval];refine QTC hM S hS (Ga S) _ (by rw[QZn,QZn];omega) l3 _ _ (by exact h1) (by exact h3) (by exact h9) (by rfl) o1 hA _ (fun f fr h1 h3 h9 o1 hA=>?_);obtain⟨g,oS,oR⟩:=hA;simp only[Ny,h3,oS,oR,QZ5,QZs,Yg,QY9,QYK,QZJ,QZP,AV.un,eE,seval]
 simp only[Qa,seval]at key;simp only[Th,Qa,seval];refine aC k1 ?_;cases c1:A.any fun s=>B.contains s
 ·simp only[Qa,seval];refine aC k2 ?_;cases c2:A.any fun s=>C.contains s
  ·simp only[Qa,seval];refine aC k3 ?_;simp only[Qa,seval];refine QT (by decide) h3 rfl rfl rfl (by omega) ?_;have e:(!(B.any fun s=>C.contains s))=Kh S:=by rw[hmt,c1,c2,Q0s,Q0s]
   rw[e];simp only[Qa,seval];exact key _ h1 h3
  ·have e:(!true)=Kh S:=by rw[hmt,c1,c2];rfl
   simp only[Qa,seval];refine QT (by decide) h3 rfl rfl rfl (by omega) ?_;rw[e];simp only[Qa,seval];exact key _ h1 h3
 ·have e:(!true)=Kh S:=by rw[hmt,c1];rfl
  simp only[Qa,seval];refine QT (by decide) h3 rfl rfl rfl (by omega) ?_;rw[e];simp only[Qa,seval];exact key _ h1 h3

include hM hS in
theorem u6 (h8:S.msgs.length≤8∧S.enums.length≤8∧S.servs.length≤8):Qi Tryz.prog 6 [S.av] (.bool (JN S)):=by
 have hc:=u16 hM S hS h8;have hv:(((YB S (Xm S (QV S))).length:Int)==0)=JN S:=by
  have e:YB S (Xm S (QV S))=[]↔JN S=true:=QfQ;rw[QZB,QY8,←e]
  constructor
  ·intro h;exact QZK (by omega)
  ·intro h;rw[h];rfl
 refine k6.fn (by simp) ?_;simp only[SC.av,eE,seval];simp only[SC.av]at hc;refine aC hc ?_;simp only[QZ5,hv,Qa,seval]
end

def V0:V:=.mk 0 0 [] [] [] [] []
theorem QTD (o:SN)(fr:Nat→Ob)(n:List UInt8)(hf:fr 3=.cells [.str n]):Qf Tryz.prog 164 [Df o,.ptr 1 3 0] [Qc,fr] fun y m1=>y=.bool (o.name==n)∧m1=[Qc,fr]:=by
 refine QnW.go (by simp) ?_;simp only[hf,Df,HH,Qs,eE,seval]

section
variable (l:List SN)(hl:l.length≤maxLen)(n:List UInt8)
include hl
theorem QTE:Qi Tryz.prog 108 [.list (l.map fun n=>.agg n.cells),.str n] (.int .i64 (QS (fun x:SN=>x.name==n) l 0)):=by
 refine QnF.fn (by simp) ?_;simp only[eE,seval];refine Qb (QR9 l hl (fun x=>x.name==n) 164 [.ptr 0 3 0] _ fun o _=>QTD o _ n rfl) (by simp only[QZh,QZG,Qa,seval]<;>rfl) ?_;simp only[Qa,seval]

theorem s53:Qi Tryz.prog 53 [.list (l.map fun n=>.agg n.cells),.str n] (.tup [(((l.find? fun x:SN=>x.name==n).map SN.val).getD V0).av,.bool (l.find? fun x:SN=>x.name==n).isSome]):=by
 refine k53.fn (by simp) ?_;simp only[eE,seval];refine aC (QTE l hl n) ?_;rcases Xi (fun x:SN=>x.name==n) l 0 with⟨h1,h2⟩|⟨j,o,h1,h2,h3⟩
 ·have e:V0.av=.agg [.int .i64 0,.int .u64 ((0:Nat):Int),.str [],.list [],.list [],.list [],.list []]:=by rw[V.av,V.eta];rfl
  simp only[h1,h2,Option.map_none,Q0g,QZy,e,eE,seval]
 ·have hj:(l.map fun o=>AV.agg o.cells)[j]? = some (.agg o.cells):=by simp[h2]
  have d:decide ((j:Int)<0)=false:=Q0u (by omega);rw[QY9]at h1;rw[HH]at hj;have e:o.val.av=.agg o.val.cells:=rfl;rw[V.eta]at e;simp only[h1,d,Qj,QZ8,Qd,hj,h3,QZa,QZQ,Q0v,e,eE,seval]

omit hl in
theorem Di:(l.find? fun x:SN=>x.name==alias).map SN.val=Xx l:=rfl

theorem s48:Qi Tryz.prog 48 [.list (l.map fun n=>.agg n.cells)] (.str (((Xx l).map V.text).getD [])):=by
 have hf:=s53 l hl alias;rw[Di]at hf;have e:((Xx l).map V.text).getD []=((Xx l).getD V0).text:=by cases Xx l<;>rfl
 rw[e];generalize (Xx l).getD V0=v at *;rw[V.av,V.eta]at hf;simp only[alias]at hf;refine k48.fn (by simp) ?_;simp only[Qa,seval];refine aC hf ?_;simp only[eE,seval]
end

theorem QTF (o:SM)(fr:Nat→Ob)(k:Int)(n:List UInt8)(hf:fr 3=.cells [.int .i64 k,.str n]):Qf Tryz.prog 105 [QM o,.ptr 1 3 0] [Qc,fr] fun y m1=>y=.bool (o.name==n)∧m1=[Qc,fr]:=by
 refine Qow.go (by simp) ?_;simp only[hf,QM,Xe,Qs,eE,seval]

theorem QTG (o:SE)(fr:Nat→Ob)(k:Int)(n:List UInt8)(hf:fr 3=.cells [.int .i64 k,.str n]):Qf Tryz.prog 107 [Xl o,.ptr 1 3 0] [Qc,fr] fun y m1=>y=.bool (o.name==n)∧m1=[Qc,fr]:=by
 refine Qof.go (by simp) ?_;simp only[hf,Xl,XR,Qs,eE,seval]

theorem s49 (S:SC)(l1:S.msgs.length≤maxLen)(l2:S.enums.length≤maxLen)(f:SF):Qi Tryz.prog 49 [S.av,.agg [.int .i64 f.kind,.str f.tname]] (.int .i64 (Zp S f)):=by
 refine k49.fn (by simp) ?_;unfold Zp;simp only[SC.av,eE,seval];by_cases h1:f.kind=10
 ·have d:(f.kind==10)=true:=by simp[h1]
  rw[QYS h1];simp only[d,eE,seval];refine Qb (QDi S.msgs l1 (fun m=>m.name==f.tname) 105 [.ptr 0 3 0] _ fun o _=>QTF o _ f.kind f.tname rfl) (by simp only[QZh,QZG,Qa,seval]<;>rfl) ?_;simp only[Qa,seval]
 have d:(f.kind==10)=false:=by simp[h1]
 rw[QYR h1];by_cases h2:f.kind=9
 ·have d2:(f.kind==9)=true:=by simp[h2]
  rw[QYS h2];simp only[d,d2,eE,seval];refine Qb (QDj S.enums l2 (fun m=>m.name==f.tname) 107 [.ptr 0 3 0] _ fun o _=>QTG o _ f.kind f.tname rfl) (by simp only[QZh,QZG,Qa,seval]<;>rfl) ?_;simp only[Qa,seval]
 have d2:(f.kind==9)=false:=by simp[h2]
 rw[QYR h2];simp only[d,d2,Qa,seval]

theorem Ar {sz:Nat}(h0:sz≠0){xs:List AV}(h:xs.all (fun e=>e.cells.length==sz)=true)(hf:QP xs=[]):xs=[]:=by
 cases xs with
 |nil=>rfl
 |cons x xs=>
  have hl:x.cells.length=sz:=by simpa using QYX.1 h x (by simp)
  have:x.cells=[]:=(Q0R.1 hf).1;rw[this]at hl;exact absurd hl.symm h0
theorem s52 (L:List PS)(hn:L.length≤1000000000):Qi Tryz.prog 52 [.list (L.map Xd)] (.list (L.map Xd)):=by
 have h:(L.map Xd).all (fun e=>e.cells.length==2)=true:=by
  rw[QYX];intro x hx;obtain⟨y,_,rfl⟩:=QZ1.1 hx;rfl
 have ht:List.take L.length (L.map Xd)=L.map Xd:=QZj (by simp);refine k52.fn (by simp) ?_;simp only[Qa,seval];refine JY (ys:=L.map Xd) (by simp only[Qa,seval]) ?_ ?_
 ·simp only[Qa,seval];refine Kk rfl ?_;simp only[Qa,seval];refine QJ (site:=5) (g:=1) (xs:=[]) (ys:=L.map Xd) rfl rfl rfl rfl rfl h (by simp only[QZ5,maxLen];omega) (by simp only[QZ5];omega) ?_;simp only[QZ5,QY6,QY9,QZs,ht,QYK,QZJ,QZP,AV.un,eE,seval]
 ·intro he;have hx:L=[]:=by
   rcases he with he|he
   ·exact List.map_eq_nil_iff.1 he
   ·exact List.map_eq_nil_iff.1 (Ar (by decide) h he)
  subst hx;simp only[Qa,seval];refine ZZ (by simp only[Qa,seval]) rfl ?_;simp only[QY9,QYK,QZJ,QZP,AV.un,eE,seval]

def un (l:List SF)(i:Nat):List (List UInt8):=unl [] (l.take i)
theorem Ml {l:List SF}{i:Nat}{x:SF}(h:l[i]? = some x):un l (i+1)=if x.union=[]∨(un l i).contains x.union=true then un l i else un l i++[x.union]:=by
 unfold un;rw[Q0j,h,Q0k,Yz];rfl
theorem Dj (l:List SF):∀i,(un l i).length≤i
 |0=>QYK _
 |i+1=>by
  have ih:=Dj l i;cases hx:l[i]? with
  |none=>
   have e:un l (i+1)=un l i:=by unfold un;rw[Q0j,hx,Option.toList_none,QZI]
   rw[e];omega
  |some x=>
   rw[Ml hx];split
   ·omega
   ·rw[QZn,Q0d];omega
theorem QDF {l:List SF}{i:Nat}{u:List UInt8}(h:(un l i).contains u=true):Zk (unl [] l) u=Zk (un l i) u:=by
 have e:unl [] l=unl (un l i) (l.drop i):=by
  unfold un;rw[←Yz,QZV]
 obtain⟨r,hr⟩:=U9 (l.drop i) (un l i);rw[e,hr];exact(Ha (Q0N.1 h)).1
theorem As (l:List SF):un l l.length=unl [] l:=by unfold un;rw[Q0h]

def Au:SF:=⟨0,[],0,0,0,[],[],false,V0,[]⟩
theorem YI (S:SC)(m:SM)(n:Int):X4 (QO S m) n=(m.fields.find? fun f=>f.num==n).map (QX S (unl [] m.fields)):=by
 unfold X4 QO;rw[List.find?_map];rfl
def Av (e:SE)(b:Nat):Bool:=e.opn||e.items.any fun x=>IntKind.u64.wrap x.num==(b:Int)

section
variable {S:SC}(hS:Sok S){m:SM}(hm:m∈S.msgs){f:SF}(hf:f∈m.fields)
include hS hm hf
theorem Aw (hk:f.kind=10):∃n,S.msgs.find? (fun x=>x.name==f.tname)=some n∧n∈S.msgs∧Jo (Qp S) (Zp S f)=QO S n:=by
 obtain⟨j,n,h1,h2,h3,h4,_⟩:=U8 hS hm hf hk;refine⟨n,?_,QYY h1,?_⟩
 ·rcases Xi (fun m:SM=>m.name==f.tname) S.msgs 0 with⟨hn,_⟩|⟨k,o,e1,e2,e3⟩
  ·unfold Zp at h3;rw[QYS hk]at h3;omega
  ·unfold Zp at h3;rw[QYS hk]at h3;have:k=j:=by omega
   subst this;rw[h1]at e2;cases e2;exact e3
 ·unfold Jo;rw[h3,QZ8];show((S.msgs.map (QO S))[j]?).getD _=_;rw[QZ3,h1];rfl
theorem QDG (hk:f.kind=9):∃e,S.enums.find? (fun x=>x.name==f.tname)=some e∧∀b,b≤2147483647→Wc (Qp S).enums (Zp S f) b=Av e b:=by
 obtain⟨j,n,h1,h2,h3⟩:=Vk hS hm hf hk;refine⟨n,?_,fun b hb=>?_⟩
 ·rcases Xi (fun m:SE=>m.name==f.tname) S.enums 0 with⟨hn,_⟩|⟨k,o,e1,e2,e3⟩
  ·unfold Zp at h3;rw[QYR (by omega),QYS hk]at h3;omega
  ·unfold Zp at h3;rw[QYR (by omega),QYS hk]at h3;have:k=j:=by omega
   subst this;rw[h1]at e2;cases e2;exact e3
 ·have hl:j<S.enums.length:=(QYM.1 h1).1;have hE:(Qp S).enums=S.enums.map Jm:=rfl;unfold Wc;rw[h3,QYS ⟨by omega,by rw[hE,QZ5];omega,hb⟩,QZ8,hE,QZ3,h1];show(n.opn||(n.items.map JO).any (C3 b))=_;rw[List.any_map];rfl
theorem Vs:(1≤f.card∧f.card≤5)∧(f.card=5→ZF f.key):=by
 obtain⟨i,hi⟩:=QYW.1 hf;have hc:=(Jq (ZN (hS.ms m hm)) hi).card;unfold Yu at hc;simp only[QY7,QZ2]at hc;refine⟨hc.1,fun h5=>?_⟩;have:=hc.2;unfold D8 at this;rw[QYS h5]at this;simp only[QY7,QZ2,QZc]at this;unfold ZF;omega
theorem QDH:f.kind=10∨(1≤f.kind∧f.kind≤9):=by
 obtain⟨i,hi⟩:=QYW.1 hf;have ht:=(Jq (ZN (hS.ms m hm)) hi).typ;unfold JL at ht;split at ht
 ·omega
 split at ht
 ·omega
 split at ht
 ·omega
 ·cases ht
omit hS hm in
theorem Mm (hu:f.union≠[]):f.union∈unl [] m.fields:=(Yy m.fields [] f.union).2 (.inr ⟨hu,f,hf,rfl⟩)
end

theorem Qf3 {us:List (List UInt8)}{s t:List UInt8}(hs:s∈us)(ht:t∈us):(Zk us s==Zk us t)=(s==t):=by
 rw[QZB,QY8,QY8];refine⟨fun h=>?_,fun h=>by rw[h]⟩;unfold Zk at h;rcases Xi (fun u=>u==s) us 0 with⟨_,hn⟩|⟨k,o,e1,e2,e3⟩
 ·exact absurd (by simp) (Q0z.1 hn s hs)
 rcases Xi (fun u=>u==t) us 0 with⟨_,hn⟩|⟨k',o',e1',e2',e3'⟩
 ·exact absurd (by simp) (Q0z.1 hn t ht)
 have:k=k':=by omega
 subst this;rw[e2]at e2';cases e2';have a:=Q0C e3;have b:=Q0C e3';simp only[QY8]at a b;rw[←a,b]

def PJ (m:SM)(f:SF)(l:List (Int×V)):Bool:=f.union != []&&m.fields.any fun g=>g.union==f.union&&(g.num != f.num&&l.any fun y=>y.1==g.num)
theorem QDI {S:SC}{m:SM}{f:SF}(hf:f∈m.fields){l:List (Int×V)}(h1:l.any (fun y=>y.1==f.num)=false)(h2:∀y∈l,(X4 (QO S m) y.1).isSome=true)(hd:∀g∈m.fields,m.fields.find? (fun h=>h.num==g.num)=some g) :
  l.any (Jv (QO S m) (QX S (unl [] m.fields) f))=PJ m f l:=by
 have eu:∀g:SF,(QX S (unl [] m.fields) g).union=ZB (unl [] m.fields) g:=fun _=>rfl
 unfold PJ;cases hu:f.union != []
 ·have hu:f.union=[]:=by simpa using hu
  rw[Q0c,Q0y];intro y _;unfold Jv;rw[eu,ZB,QYS hu];simp
 ·have hu:f.union≠[]:=by simpa using hu
  rw[Q0p,QZB,Q0A,Q0A];have hfm:=Mm hf hu;have hle:=(Ha (r:=[]) hfm).2.1;have e0:(QX S (unl [] m.fields) f).union=Zk (unl [] m.fields) f.union:=by rw[eu,ZB,QYR hu]
  have key:∀y g,m.fields.find? (fun h=>h.num==y)=some g→Jv (QO S m) (QX S (unl [] m.fields) f) (y,(V0:V))=(g.union==f.union):=by
   intro y g hg;unfold Jv;have hgm:=Q0B hg;rw[YI,hg];show(_&&((QX S (unl [] m.fields) g).union==_))=_;rw[e0,eu,ZB];have d:(Zk (unl [] m.fields) f.union != -1)=true:=by rw[QZc];omega
   rw[d,Q0p];split
   ·rename_i hg0;rw[hg0,QZB,QY8,QY8];exact⟨fun h=>by omega,fun h=>absurd h.symm hu⟩
   ·rename_i hg0;exact Qf3 (Mm hgm hg0) hfm
  constructor
  ·rintro⟨y,hy,hp⟩;have hs:=h2 y hy;rw[YI,Option.isSome_map]at hs;obtain⟨g,hg⟩:=Option.isSome_iff_exists.1 hs;have hk:=key y.1 g hg;have hp':Jv (QO S m) (QX S (unl [] m.fields) f) (y.1,(V0:V))=true:=hp;rw[hk]at hp';have hgn:g.num=y.1:=by simpa using Q0C hg
   refine⟨g,Q0B hg,?_⟩;have hne:y.1≠f.num:=by
    have:=Q0y.1 h1 y hy
    simpa using this
   rw[hp',Q0p,QY7,QZc];exact⟨by rw[hgn];exact hne,Q0A.2 ⟨y,hy,by simp[hgn]⟩⟩
  ·rintro⟨g,hg,hp⟩;simp only[QY7]at hp;obtain⟨hp1,hp2,hp3⟩:=hp;obtain⟨y,hy,hyn⟩:=Q0A.1 hp3;have hyn:y.1=g.num:=by simpa using hyn
   refine⟨y,hy,?_⟩;show Jv _ _ (y.1,(V0:V))=true;rw[key y.1 g (by rw[hyn];exact hd g hg)];exact hp1

theorem Qf4 (v:V)(hk:v.kd≠11∧v.kd≠12):v.nsc.emp=Db v.kd v.bits v.text (v.list.map V.av) (v.pairs.map V.pav) (v.slots.map V.sav) (v.raws.map R.av):=by
 show emp v.kd (XG v.kd v.bits) v.text _ _ _ _=_;have h1:(v.kd==11)=false:=by simp[hk.1]
 have h2:(v.kd==12)=false:=by simp[hk.2]
 unfold emp;rw[h1,h2,Q0c,Q0c,Q0s,Q0s];have hz:((XG v.kd v.bits:Nat):Int)==0↔((v.bits:Nat):Int)==0:=by
  unfold XG;split
  ·rename_i h
   constructor
   ·intro h';simp at h'
   ·intro h';have:v.bits=0:=by simpa using h'
    rw[this]at h;exact absurd h.2 (by decide)
  ·exact Iff.rfl
 unfold Db;rw[QZB.2 hz];cases v;rfl

end Go.Proofs.YtafhmlkilcmniaaGreatDoor.Va

namespace Go.Proofs.YtafhmlkilcmniaaGreatDoor.Am
open Go

variable {P:Program}{m:Qk}

def Ag {α:Type}(f:Nat→α)(L:List (Nat×α)):Prop:=L.map (fun p=>f p.1)=L.map Prod.snd
theorem Ag.iff {α:Type}{f:Nat→α}{L:List (Nat×α)}:Ag f L↔∀q∈L,f q.1=q.2:=List.map_inj_left
def Ji {α:Type}:List (Nat×α)→(Nat→α)→Nat→α
 | [],f=>f
 |p :: L,f=>Qt (Ji L f) p.1 p.2
theorem Gb {α:Type}{f:Nat→α}{d:Nat}{x:α}(h:f d=x):Qt f d x=f:=by
 funext i;by_cases e:i=d
 ·rw[e,QY,h]
 ·rw[Q2 _ _ e]
theorem Ft {α:Type}{f:Nat→α}:∀ {L:List (Nat×α)},Ag f L→Ji L f=f
 | [],_=>rfl
 |q :: L,h=>by
  rw[Ag.iff]at h;rw[Ji,Ft (Ag.iff.2 fun x hx=>h x (QY0 _ hx))];exact Gb (h q QY2)

def Ix {X:Type}(L:X→List (Nat×AV))(O:X→List (Nat×Ob))(l:List Nat)(mu:X→Nat)(p:X→Prop)(mm:X→Qk)(n:Nat)(st:St):Prop :=
 ∃x f fr,st=⟨f,fr :: mm x,[]⟩∧n=mu x∧p x∧Ag f (L x)∧Ag fr (O x)∧(l.all fun s=>!(fr s).isRow)=true
theorem Ix.go {X:Type}{L:X→List (Nat×AV)}{O:X→List (Nat×Ob)}{l:List Nat}{mu:X→Nat}{p:X→Prop}{mm:X→Qk}(x:X){n:Nat}{f:Fr}{fr:Nat→Ob}(hn:mu x<n)(hp:p x)(hf:Ag f (L x):=by exact rfl)(ho:Ag fr (O x):=by exact rfl)(hr:(l.all fun s=>!(fr s).isRow)=true:=by exact rfl) :
  ∃k,k<n∧Ix L O l mu p mm k ⟨f,fr :: mm x,[]⟩:=⟨mu x,hn,x,f,fr,rfl,rfl,hp,hf,ho,hr⟩

theorem Zl {X:Type}{a:RC}{Q:Exit→St→Prop}{f:Fr}{fr:Nat→Ob}(L:X→List (Nat×AV))(O:X→List (Nat×Ob))(l:List Nat)(mu:X→Nat)(p:X→Prop)(mm:X→Qk)(x0:X)(hp:p x0)
  (h:∀x f fr,p x→QN P a ⟨Ji (L x) f,Ji (O x++l.map fun s=>(s,.none)) fr :: mm x,[]⟩ (Kl (Ix L O l mu p mm) (mu x) Q))
  (hf:Ag f (L x0):=by exact rfl) (ho:Ag fr (O x0):=by exact rfl) (hr:(l.all fun s=>!(fr s).isRow)=true:=by exact rfl) (hm:m=mm x0:=by exact rfl)
  (hs:∀x,(L x).map (fun q=>M3 l q.2)=(L x).map Prod.snd:=by exact fun _=>rfl) (ht:∀x,(O x).map (fun q=>(l.contains q.1,GL l q.2))=(O x).map fun q=>(false,q.2):=by exact fun _=>rfl):QN P (.loop (GK l a)) ⟨f,fr :: m,[]⟩ Q:=by
 subst hm;refine Qe (Ix L O l mu p mm) (mu x0) ⟨x0,f,fr,rfl,rfl,hp,hf,ho,hr⟩ ?_;rintro _ _ ⟨x,f1,fr1,rfl,rfl,hp,hf,ho,hr⟩;refine QH l (fun s hs=>by simpa using QYX.1 hr s hs) ?_;intro f2 fr2 h1 h2 h3;have e1:Ag f2 (L x):=Ag.iff.2 fun q hq=>by
  rw[h1,Ag.iff.1 hf q hq];exact List.map_inj_left.1 (hs x) q hq
 have e2:Ag fr2 (O x++l.map fun s=>(s,.none)):=Ag.iff.2 fun q hq=>by
  rcases QZX.1 hq with hq|hq
  ·have:=List.map_inj_left.1 (ht x) q hq;simp only[Prod.mk.injEq]at this;rw[h2 _ (fun hi=>by rw[Q0N.2 hi]at this;cases this.1),Ag.iff.1 ho q hq];exact this.2
  ·obtain⟨s,hs,rfl⟩:=QZ1.1 hq;exact h3 s hs
 have:=h x f2 fr2 hp;rw[Ft e1,Ft e2]at this;exact this

theorem JE {α:Type}(l:List α)(i:Nat):(∃x,l[i]? = some x∧i<l.length)∨¬i<l.length:=by
 by_cases h:i<l.length
 ·exact .inl ⟨l[i],QYN h,h⟩
 ·exact .inr h

end Go.Proofs.YtafhmlkilcmniaaGreatDoor.Am

namespace Go.Proofs.YtafhmlkilcmniaaGreatDoor.Va
open Go Am Rc Bt Br Up So

theorem Ua {α:Type}{l:List α}{p:α→Bool}{k:Nat}{x:α}(hx:l[k]? = some x)(ht:(l.take k).find? p=none)(hp:p x=true):l.find? p=some x:=by
 have e:l=l.take (k+1)++l.drop (k+1):=(QZV _ _).symm;rw[e,List.find?_append,Q0j,hx,Q0k,List.find?_append,ht,Option.none_or,Q0t,hp];rfl
theorem Gc {α:Type}{l:List α}{p:α→Bool}{k:Nat}{x:α}(hx:l[k]? = some x)(ht:(l.take k).find? p=none)(hp:p x=false):(l.take (k+1)).find? p=none:=by
 rw[Q0j,hx,Q0k,List.find?_append,ht,Option.none_or,Q0t,hp];rfl

theorem s54 (L:List SM)(hl:L.length≤maxLen)(p:SM→Bool)(c:Nat)(F:Nat→Ob)(m:Qk)(hc:∀o∈L,∀fr,Qf Tryz.prog c [QM o,.ptr 1 3 0] (fr :: F :: m) fun y m1=>y=.bool (p o)∧m1=fr :: F :: m) :
  Qf Tryz.prog 54 [.list (L.map QM),.fn (.func c) [] [.ptr 0 3 0]] (F :: m) fun y m1=>y=.tup [QM ((L.find? p).getD Me),.bool (L.find? p).isSome]∧m1=F :: m:=by
 refine k54.go (by simp) ?_;simp only[QZ5,eE,seval];refine Zl (X:=Nat) (fun k=>[(1,.fn (.func c) [] [.ptr 1 3 0]),(4,.ptr 0 4 0),(9,.list (L.map QM)),(10,.int .i64 (L.length:Nat)),(11,.int .i64 (k:Nat))]) (fun _=>[(4,.cells [.str [],.nils,.nils,.nils,.nils]),(8,.none)]) [7] (fun k=>L.length-k) (fun k=>k≤L.length∧(L.take k).find? p=none) (fun _=>F :: m) 0 ⟨QYT _,rfl⟩ ?_;rintro k f fr ⟨hk,hz⟩;simp only[Ji,QZh,QZG,QY5,QY6,Qa,seval];rcases JE L k with⟨x,hx,hlt⟩|hlt
 case inr=>
  rw[QZj (by omega)]at hz;rw[hz];simp only[Qy hlt,Q0g,QZy,QM,Me,Xe,eE,seval]<;>rfl
 have hg:(L.map QM)[k]? = some (.agg x.cells):=by rw[QZ3,hx];rfl
 have e1:=Ql k _ hlt hl;have hcl:=hc x (QYY hx);simp only[QM,Xe]at hcl;rw[Xe]at hg;simp only[Qw hlt,Qj,QZ8,Qd,hg,eE,seval];refine Xa (fa:=[]) (fb:=[.ptr 1 3 0]) rfl (hcl _) (by simp only[QZh,QZG,QY6,QY5,Qa,seval]) ?_;cases hp:p x
 ·simp only[e1,Qa,seval];exact Ix.go (k+1) (by omega) ⟨by omega,Gc hx hz hp⟩
 ·rw[Ua hx hz hp];simp only[QZQ,Q0v,QM,Xe,eE,seval]

theorem QTH (L:List SE)(hl:L.length≤maxLen)(p:SE→Bool)(c:Nat)(F:Nat→Ob)(m:Qk)(hc:∀o∈L,∀fr,Qf Tryz.prog c [Xl o,.ptr 1 3 0] (fr :: F :: m) fun y m1=>y=.bool (p o)∧m1=fr :: F :: m) :
  Qf Tryz.prog 225 [.list (L.map Xl),.fn (.func c) [] [.ptr 0 3 0]] (F :: m) fun y m1=>y=.tup [Xl ((L.find? p).getD T7),.bool (L.find? p).isSome]∧m1=F :: m:=by
 refine QPV.go (by simp) ?_;simp only[QZ5,eE,seval];refine Zl (X:=Nat) (fun k=>[(1,.fn (.func c) [] [.ptr 1 3 0]),(4,.ptr 0 4 0),(9,.list (L.map Xl)),(10,.int .i64 (L.length:Nat)),(11,.int .i64 (k:Nat))]) (fun _=>[(4,.cells [.str [],.bool false,.nils,.nils,.nils]),(8,.none)]) [7] (fun k=>L.length-k) (fun k=>k≤L.length∧(L.take k).find? p=none) (fun _=>F :: m) 0 ⟨QYT _,rfl⟩ ?_;rintro k f fr ⟨hk,hz⟩;simp only[Ji,QZh,QZG,QY5,QY6,Qa,seval];rcases JE L k with⟨x,hx,hlt⟩|hlt
 case inr=>
  rw[QZj (by omega)]at hz;rw[hz];simp only[Qy hlt,Q0g,QZy,Xl,T7,XR,eE,seval]<;>rfl
 have hg:(L.map Xl)[k]? = some (.agg x.cells):=by rw[QZ3,hx];rfl
 have e1:=Ql k _ hlt hl;have hcl:=hc x (QYY hx);simp only[Xl,XR]at hcl;rw[XR]at hg;simp only[Qw hlt,Qj,QZ8,Qd,hg,eE,seval];refine Xa (fa:=[]) (fb:=[.ptr 1 3 0]) rfl (hcl _) (by simp only[QZh,QZG,QY6,QY5,Qa,seval]) ?_;cases hp:p x
 ·simp only[e1,Qa,seval];exact Ix.go (k+1) (by omega) ⟨by omega,Gc hx hz hp⟩
 ·rw[Ua hx hz hp];simp only[QZQ,Q0v,Xl,XR,eE,seval]

theorem s80 (L:List SF)(hl:L.length≤maxLen)(p:SF→Bool)(c:Nat)(F:Nat→Ob)(m:Qk)(hc:∀o∈L,∀fr,Qf Tryz.prog c [QL o,.ptr 1 3 0] (fr :: F :: m) fun y m1=>y=.bool (p o)∧m1=fr :: F :: m) :
  Qf Tryz.prog 80 [.list (L.map QL),.fn (.func c) [] [.ptr 0 3 0]] (F :: m) fun y m1=>y=.tup [QL ((L.find? p).getD Au),.bool (L.find? p).isSome]∧m1=F :: m:=by
 refine k80.go (by simp) ?_;simp only[QZ5,eE,seval];refine Zl (X:=Nat) (fun k=>[(1,.fn (.func c) [] [.ptr 1 3 0]),(4,.ptr 0 4 0),(9,.list (L.map QL)),(10,.int .i64 (L.length:Nat)),(11,.int .i64 (k:Nat))]) (fun _=>[(4,.cells [.int .i64 0,.str [],.int .i64 0,.int .i64 0,.int .i64 0,.str [],.str [],.bool false,.int .i64 0,.int .u64 0,.str [],.nils,.nils,.nils,.nils,.nils]),(8,.none)]) [7] (fun k=>L.length-k) (fun k=>k≤L.length∧(L.take k).find? p=none) (fun _=>F :: m) 0 ⟨QYT _,rfl⟩ ?_;rintro k f fr ⟨hk,hz⟩;simp only[Ji,QZh,QZG,QY5,QY6,Qa,seval];rcases JE L k with⟨x,hx,hlt⟩|hlt
 case inr=>
  rw[QZj (by omega)]at hz;rw[hz];simp only[Qy hlt,Q0g,QZy,QL,Au,Qz,eE,seval]<;>rfl
 have hg:(L.map QL)[k]? = some (.agg x.cells):=by rw[QZ3,hx];rfl
 have e1:=Ql k _ hlt hl;have hcl:=hc x (QYY hx);simp only[QL,Qz]at hcl;rw[Qz]at hg;simp only[Qw hlt,Qj,QZ8,Qd,hg,eE,seval];refine Xa (fa:=[]) (fb:=[.ptr 1 3 0]) rfl (hcl _) (by simp only[QZh,QZG,QY6,QY5,Qa,seval]) ?_;cases hp:p x
 ·simp only[e1,Qa,seval];exact Ix.go (k+1) (by omega) ⟨by omega,Gc hx hz hp⟩
 ·rw[Ua hx hz hp];simp only[QZQ,Q0v,QL,Qz,eE,seval]

theorem s55 (o:SM)(fr F:Nat→Ob)(n:List UInt8)(hf:F 3=.cells [.str n]):Qf Tryz.prog 55 [QM o,.ptr 1 3 0] [fr,F] fun y m1=>y=.bool (o.name==n)∧m1=[fr,F]:=by
 refine k55.go (by simp) ?_;simp only[hf,QM,Xe,Qs,eE,seval]

theorem QTI (o:SE)(fr F:Nat→Ob)(n:List UInt8)(hf:F 3=.cells [.str n]):Qf Tryz.prog 226 [Xl o,.ptr 1 3 0] [fr,F] fun y m1=>y=.bool (o.name==n)∧m1=[fr,F]:=by
 refine QPY.go (by simp) ?_;simp only[hf,Xl,XR,Qs,eE,seval]

theorem s81 (o:SF)(fr F:Nat→Ob)(n:Int)(hf:F 3=.cells [.int .i64 n]):Qf Tryz.prog 81 [QL o,.ptr 1 3 0] [fr,F] fun y m1=>y=.bool (o.num==n)∧m1=[fr,F]:=by
 refine k81.go (by simp) ?_;simp only[hf,QL,Qz,eE,seval]

theorem s22 (S:SC)(hl:S.msgs.length≤maxLen)(n:List UInt8):Qi Tryz.prog 22 [S.av,.str n] (.tup [QM ((S.msgs.find? fun x=>x.name==n).getD Me),.bool (S.msgs.find? fun x=>x.name==n).isSome]):=by
 refine k22.fn (by simp) ?_;simp only[SC.av,eE,seval];refine Qb (s54 S.msgs hl (fun x=>x.name==n) 55 _ [] fun o _ fr=>s55 o fr _ n rfl) (by simp only[QZh,QZG,Qa,seval]<;>rfl) ?_;generalize S.msgs.find? (fun x=>x.name==n)=x;simp only[QM,Xe,eE,seval]

theorem QDK (S:SC)(hl:S.enums.length≤maxLen)(n:List UInt8):Qi Tryz.prog 170 [S.av,.str n] (.tup [Xl ((S.enums.find? fun x=>x.name==n).getD T7),.bool (S.enums.find? fun x=>x.name==n).isSome]):=by
 refine QPS.fn (by simp) ?_;simp only[SC.av,eE,seval];refine Qb (QTH S.enums hl (fun x=>x.name==n) 226 _ [] fun o _ fr=>QTI o fr _ n rfl) (by simp only[QZh,QZG,Qa,seval]<;>rfl) ?_;generalize S.enums.find? (fun x=>x.name==n)=x;simp only[Xl,XR,eE,seval]

theorem s36 (m:SM)(hl:m.fields.length≤maxLen)(n:Int):Qi Tryz.prog 36 [QM m,.int .i64 n] (.tup [QL ((m.fields.find? fun x=>x.num==n).getD Au),.bool (m.fields.find? fun x=>x.num==n).isSome]):=by
 refine k36.fn (by simp) ?_;simp only[QM,Xe,eE,seval];refine Qb (s80 m.fields hl (fun x=>x.num==n) 81 _ [] fun o _ fr=>s81 o fr _ n rfl) (by simp only[QZh,QZG,Qa,seval]<;>rfl) ?_;generalize m.fields.find? (fun x=>x.num==n)=x;simp only[QL,Qz,eE,seval]

section
variable (k:Int)(b:Nat)(t:List UInt8)(l p s r:List AV)(hs:s.length≤140737488351232)(hr:r.length≤140737488351232)

set_option maxHeartbeats 2000000 in
include hs hr in
theorem s56:Qi Tryz.prog 56 [vo k b t l p s r] (.bool (oth k b t l p s r)):=by
 have w:IntKind.i64.wrap ((s.length:Int)+(r.length:Int))=((s.length+r.length:Nat):Int):=by simp only[QU];omega
 have n4:((b:Int) != 0)=!((b:Int)==0):=rfl;have n5:(t != [])=!(t==[]):=rfl;refine k56.fn (by simp) ?_;simp only[vo,oth,JA,n4,eE,seval];rcases(by omega:k=7∨k=8∨k=10∨k=11∨k=12∨(k≠7∧k≠8∧k≠10∧k≠11∧k≠12))with rfl|rfl|rfl|rfl|rfl|⟨h7,h8,h10,h11,h12⟩
 ·have b7:((7:Int)==7)=true:=by decide
  have b8:((7:Int)==8)=false:=by decide
  have b10:((7:Int)==10)=false:=by decide
  have b11:((7:Int)==11)=false:=by decide
  have b12:((7:Int)==12)=false:=by decide
  have c10:((7:Int) != 10)=true:=by decide
  have c11:((7:Int) != 11)=true:=by decide
  have c12:((7:Int) != 12)=true:=by decide
  have g1:decide ((7:Int)≥10)=false:=by decide
  have g2:decide ((7:Int)≤12)=true:=by decide
  simp only[b7,b8,b10,b11,b12,c10,c11,c12,Q0p,Q0H,Q0G,QZT,Q0q,eE,seval];cases a1:decide ((l.length:Int) > 0)<;>try simp only[c12,Q0s,Q0r,eE,seval]
  all_goals(cases a2:decide ((p.length:Int) > 0)<;>try simp only[c10,Q0s,Q0r,w,eE,seval])
  all_goals(cases a3:decide (((s.length+r.length:Nat):Int) > 0)<;>try simp only[Q0s,Q0r,eE,seval])
  all_goals(cases a4:((b:Int)==0)<;>try simp only[a4,n4,QZN,Q0q,Qs,eE,seval])
  all_goals(cases a5:(t==[])<;>try simp only[QZN,Q0q,Qa,seval])

 ·have b7:((8:Int)==7)=false:=by decide
  have b8:((8:Int)==8)=true:=by decide
  have b10:((8:Int)==10)=false:=by decide
  have b11:((8:Int)==11)=false:=by decide
  have b12:((8:Int)==12)=false:=by decide
  have c10:((8:Int) != 10)=true:=by decide
  have c11:((8:Int) != 11)=true:=by decide
  have c12:((8:Int) != 12)=true:=by decide
  have g1:decide ((8:Int)≥10)=false:=by decide
  have g2:decide ((8:Int)≤12)=true:=by decide
  simp only[b7,b8,b10,b11,b12,c10,c11,c12,Q0p,Q0H,Q0I,Q0G,QZT,Q0q,eE,seval];cases a1:decide ((l.length:Int) > 0)<;>try simp only[c12,Q0s,Q0r,eE,seval]
  all_goals(cases a2:decide ((p.length:Int) > 0)<;>try simp only[c10,Q0s,Q0r,w,eE,seval])
  all_goals(cases a3:decide (((s.length+r.length:Nat):Int) > 0)<;>try simp only[Q0s,Q0r,eE,seval])
  all_goals(cases a4:((b:Int)==0)<;>try simp only[a4,n4,QZN,Q0q,Qs,eE,seval])
  all_goals(cases a5:(t==[])<;>try simp only[QZN,Q0q,Qa,seval])

 ·have b7:((10:Int)==7)=false:=by decide
  have b8:((10:Int)==8)=false:=by decide
  have b10:((10:Int)==10)=true:=by decide
  have b11:((10:Int)==11)=false:=by decide
  have b12:((10:Int)==12)=false:=by decide
  have c10:((10:Int) != 10)=false:=by decide
  have c11:((10:Int) != 11)=true:=by decide
  have c12:((10:Int) != 12)=true:=by decide
  have g1:decide ((10:Int)≥10)=true:=by decide
  have g2:decide ((10:Int)≤12)=true:=by decide
  simp only[b7,b8,b10,b11,b12,c10,c11,c12,Q0p,Q0c,Q0H,Q0I,QZT,QZN,eE,seval];cases a1:decide ((l.length:Int) > 0)<;>try simp only[c12,Q0s,Q0r,eE,seval]
  all_goals(cases a2:decide ((p.length:Int) > 0)<;>try simp only[c10,Q0s,Q0r,eE,seval])
  all_goals(cases a3:decide (((s.length+r.length:Nat):Int) > 0)<;>try simp only[a3,g1,g2,b7,b8,b10,b11,b12,c10,c11,c12,Q0p,Q0c,Q0H,Q0I,Q0s,Q0r,Q0G,QZT,QZN,Q0q,w,Qs,eE,seval])
  all_goals(cases a4:((b:Int)==0)<;>try simp only[a4,n4,Q0s,Q0r,QZN,Q0q,Qs,eE,seval])
  all_goals(cases a5:(t==[])<;>try simp only[QZN,Q0q,Qa,seval])

 ·have b7:((11:Int)==7)=false:=by decide
  have b8:((11:Int)==8)=false:=by decide
  have b10:((11:Int)==10)=false:=by decide
  have b11:((11:Int)==11)=true:=by decide
  have b12:((11:Int)==12)=false:=by decide
  have c10:((11:Int) != 10)=true:=by decide
  have c11:((11:Int) != 11)=false:=by decide
  have c12:((11:Int) != 12)=true:=by decide
  have g1:decide ((11:Int)≥10)=true:=by decide
  have g2:decide ((11:Int)≤12)=true:=by decide
  simp only[b7,b8,b10,b11,b12,c10,c11,c12,Q0p,Q0c,Q0H,Q0I,Q0s,QZT,QZN,eE,seval];cases a1:decide ((l.length:Int) > 0)<;>try simp only[a1,g1,g2,b7,b8,b10,b11,b12,c10,c11,c12,Q0p,Q0c,Q0H,Q0I,Q0s,Q0r,Q0G,QZT,QZN,Q0q,w,Qs,eE,seval]
  all_goals(cases a2:decide ((p.length:Int) > 0)<;>try simp only[c10,Q0s,Q0r,w,eE,seval])
  all_goals(cases a3:decide (((s.length+r.length:Nat):Int) > 0)<;>try simp only[Q0s,Q0r,eE,seval])
  all_goals(cases a4:((b:Int)==0)<;>try simp only[a4,n4,Q0s,Q0r,QZN,Q0q,Qs,eE,seval])
  all_goals(cases a5:(t==[])<;>try simp only[QZN,Q0q,Qa,seval])

 ·have b7:((12:Int)==7)=false:=by decide
  have b8:((12:Int)==8)=false:=by decide
  have b10:((12:Int)==10)=false:=by decide
  have b11:((12:Int)==11)=false:=by decide
  have b12:((12:Int)==12)=true:=by decide
  have c10:((12:Int) != 10)=true:=by decide
  have c11:((12:Int) != 11)=true:=by decide
  have c12:((12:Int) != 12)=false:=by decide
  have g1:decide ((12:Int)≥10)=true:=by decide
  have g2:decide ((12:Int)≤12)=true:=by decide
  simp only[b7,b8,b10,b11,b12,c10,c11,c12,Q0p,Q0c,Q0H,Q0I,QZT,QZN,eE,seval];cases a1:decide ((l.length:Int) > 0)<;>try simp only[c10,c12,Q0s,Q0r,w,eE,seval]
  all_goals(cases a2:decide ((p.length:Int) > 0)<;>try simp only[a2,g1,g2,b7,b8,b10,b11,b12,c10,c11,c12,Q0p,Q0c,Q0H,Q0I,Q0s,Q0r,Q0G,QZT,QZN,Q0q,w,Qs,eE,seval])
  all_goals(cases a3:decide (((s.length+r.length:Nat):Int) > 0)<;>try simp only[Q0s,Q0r,eE,seval])
  all_goals(cases a4:((b:Int)==0)<;>try simp only[a4,n4,Q0s,Q0r,QZN,Q0q,Qs,eE,seval])
  all_goals(cases a5:(t==[])<;>try simp only[QZN,Q0q,Qa,seval])
 ·have b7:(k==7)=false:=by simp[h7]
  have b8:(k==8)=false:=by simp[h8]
  have b10:(k==10)=false:=by simp[h10]
  have b11:(k==11)=false:=by simp[h11]
  have b12:(k==12)=false:=by simp[h12]
  have c10:(k != 10)=true:=by simp[h10]
  have c11:(k != 11)=true:=by simp[h11]
  have c12:(k != 12)=true:=by simp[h12]
  rcases(by omega:(k≥10∧¬k≤12)∨¬k≥10)with⟨q1,q2⟩|q1
  ·have g1:decide (k≥10)=true:=Q0D q1;have g2:decide (k≤12)=false:=Q0u q2;simp only[b7,b8,b10,b11,b12,c10,c11,c12,Q0p,Q0H,Q0G,QZT,QZN,eE,seval];cases a1:decide ((l.length:Int) > 0)<;>try simp only[c12,Q0s,Q0r,eE,seval]
   all_goals(cases a2:decide ((p.length:Int) > 0)<;>try simp only[c10,Q0s,Q0r,w,eE,seval])
   all_goals(cases a3:decide (((s.length+r.length:Nat):Int) > 0)<;>try simp only[Q0s,Q0r,eE,seval])
   all_goals(cases a4:((b:Int)==0)<;>try simp only[a4,n4,g1,g2,QZN,Q0q,Qs,eE,seval])
   all_goals(cases a5:(t==[])<;>try simp only[QZN,Q0q,Qa,seval])
  ·have g1:decide (k≥10)=false:=Q0u q1;simp only[b7,b8,b10,b11,b12,c10,c11,c12,Q0p,Q0H,Q0G,QZT,QZN,eE,seval];cases a1:decide ((l.length:Int) > 0)<;>try simp only[c12,Q0s,Q0r,eE,seval]
   all_goals(cases a2:decide ((p.length:Int) > 0)<;>try simp only[c10,Q0s,Q0r,w,eE,seval])
   all_goals(cases a3:decide (((s.length+r.length:Nat):Int) > 0)<;>try simp only[Q0s,Q0r,eE,seval])
   all_goals(cases a4:((b:Int)==0)<;>try simp only[a4,n4,g1,QZN,Q0q,Qs,eE,seval])
   all_goals(cases a5:(t==[])<;>try simp only[QZN,Q0q,Qa,seval])

end

theorem QTJ (x:SI)(b:Nat)(frO:Nat→Ob)(hf:frO 3=.cells [.int .u64 (b:Nat)]):Qf Tryz.prog 227 [ZW x,.ptr 2 3 0] [Qc,Qc,frO] fun y m1=>y=.bool (IntKind.u64.wrap x.num==(b:Int))∧m1=[Qc,Qc,frO]:=by
 refine QPP.go (by simp) ?_;simp only[hf,ZW,SI.cells,eE,seval]

theorem QDM (e:SE)(hl:e.items.length≤maxLen)(b:Nat):Qi Tryz.prog 171 [Xl e,.int .u64 (b:Nat)] (.bool (Av e b)):=by
 unfold Av;refine QPM.fn (by simp) ?_;simp only[Xl,XR,eE,seval];cases ho:e.opn
 case true=>simp only[Q0r,cond_true,cond_false,Qa,seval]
 simp only[Q0s,cond_true,cond_false,eE,seval];refine Qb (E9 e.items hl (fun x=>IntKind.u64.wrap x.num==(b:Int)) 227 [.ptr 0 3 0] _ fun o _=>QTJ o b _ rfl) (by simp only[QZh,QZG,Qa,seval]<;>rfl) ?_;simp only[Qa,seval]

def EnK (S:SC)(k:Int)(n:List UInt8)(tg:Int):Prop:=k=9→∃e,S.enums.find? (fun x=>x.name==n)=some e∧e.items.length≤maxLen∧∀b,b≤2147483647→Wc (Qp S).enums tg b=Av e b

section
variable (S:SC)(hSl:S.enums.length≤maxLen)(k tg kd:Int)(nm:List UInt8)(b:Nat)(t:List UInt8)(l p s r:List AV)(hl:l.length≤140737488351232)(hp:p.length≤140737488351232)(hs:s.length≤140737488351232)(hr:r.length≤140737488351232)(hE:EnK S k nm tg)

include hSl hl hp hs hr hE in
theorem QTK:Qi Tryz.prog 222 [S.av,.agg [.int .i64 k,.str nm],vo kd b t l p s r] (.int .i64 (Ff (Qp S) k tg kd b t l p s r)):=by
 have ho:=s56 kd b t l p s r hs hr;have hf:=Px k kd b t l p s r hl hp hs hr;have hd:=QDK S hSl nm;simp only[vo]at ho hf;simp only[SC.av,Xl,XR]at hd;refine QQa.fn (by simp) ?_;simp only[SC.av,vo,Ff,eE,seval];cases a1:(kd != k)
 case true=>simp only[Q0r,Qa,seval]
 simp only[Q0s,eE,seval];refine aC ho ?_;cases oth kd b t l p s r
 case true=>simp only[Qa,seval]
 simp only[QY3,eE,seval];cases a2:decide ((t.length:Int) > 4096)
 case true=>simp only[Qa,seval]
 simp only[QY3,eE,seval];have tail7:(k==7)=true→(k==9)=false:=by
  intro h;rw[QY8]at h;subst h;rfl
 cases a3:(k==7)
 case' true=>
  simp only[Q0p,eE,seval];refine aC (Pu t) ?_;cases Z9 t
  case false=>simp only[QZN,Qa,seval]
  simp only[Q0q,QY3,eE,seval]
 case' false=>
  simp only[Q0c,QY3,eE,seval]
 all_goals
  refine aC hf ?_;cases hfv:X8 k kd b t l p s r
  ·simp only[QZN,Qa,seval]
  simp only[Q0q,QY3,eE,seval];refine aC hd ?_;by_cases h9:k=9
  case neg=>
   have a4:(k==9)=false:=by simp[h9]
   simp only[a4,Q0c,QY3,eE,seval]
  have a4:(k==9)=true:=by simp[h9]
  obtain⟨e,he,hel,hac⟩:=hE h9;have hb:b≤2147483647:=by
   subst h9;unfold X8 at hfv;simp only[QY7]at hfv;have:=hfv.1.1.2;unfold HX at this;have h':(b:Int)<2147483648:=by simpa using this
   omega
  have ha:=QDM e hel b;simp only[Xl,XR]at ha;simp only[a4,he,QZQ,Q0v,Q0p,eE,seval];refine aC ha ?_;rw[hac b hb];cases Av e b<;>simp only[QZN,Q0q,QY3,Qa,seval]
end

structure SLm (S:SC):Prop where
 ms:S.msgs.length≤maxLen
 es:S.enums.length≤maxLen
 it:∀e∈S.enums,e.items.length≤maxLen
 fs:∀m∈S.msgs,m.fields.length≤maxLen
structure FOf (S:SC)(m:SM)(f:SF):Prop where
 sk:Sok S
 lm:SLm S
 mm:m∈S.msgs
 fm:f∈m.fields
theorem Ax {S:SC}{m:SM}{f:SF}(h:FOf S m f):EnK S f.kind f.tname (Zp S f):=fun h9=>by
 obtain⟨e,he,ha⟩:=QDG h.sk h.mm h.fm h9;exact⟨e,he,h.lm.it e (Q0B he),ha⟩
theorem Qf5 {S:SC}{k:Int}(h:ZF k):EnK S k [] (-1):=fun h9=>by
 unfold ZF at h;omega

section
variable {M:Nat}(S:SC)(hl:SLm S)
include hl
theorem QaO (k tg:Int)(nm:List UInt8)(hE:EnK S k nm tg){v:V}(hv:v.ok M):Qi Tryz.prog 222 [S.av,.agg [.int .i64 k,.str nm],v.av] (.int .i64 (v.one (Qp S) k tg)):=by
 rw[U6];exact QTK S hl.es k tg _ nm _ _ _ _ _ _ (by have:=hv.nl;simp;omega) (by have:=hv.np;simp;omega) (by have:=hv.ns;simp;omega) (by have:=hv.nr;simp;omega) hE
end
theorem Fu {M:Nat}{v:V}(hv:v.ok M):Qi Tryz.prog 56 [v.av] (.bool v.oth):=by
 rw[U6];exact s56 _ _ _ _ _ _ _ (by have:=hv.ns;simp;omega) (by have:=hv.nr;simp;omega)

section
variable {M:Nat}(S:SC)(m:SM)(f:SF)(F:FOf S m f){mm:PG→V→Int}{lv:Nat}(hlv:lv≤16)(hms:∀n∈S.msgs,∀v:V,v.ok M→Qi Tryz.prog 23 [S.av,QM n,v.av,.int .i64 ((lv+1:Nat):Int)] (.int .i64 (mm (QO S n) v)))
include F hlv hms

theorem QDN {v:V}(hv:v.ok M):Qi Tryz.prog 168 [S.av,.agg [.int .i64 f.kind,.str f.tname],v.av,.int .i64 (lv:Nat)] (.int .i64 (Xt mm (Qp S) (QX S (unl [] m.fields) f) v)):=by
 have c1:=QaO S F.lm f.kind (Zp S f) f.tname (Ax F) hv;have cd:=s22 S F.lm.ms f.tname;have el:Xt mm (Qp S) (QX S (unl [] m.fields) f) v=if f.kind=10 then mm (Jo (Qp S) (Zp S f)) v else v.one (Qp S) f.kind (Zp S f):=rfl
 have e1:IntKind.i64.wrap ((lv:Int)+1)=((lv+1:Nat):Int):=by simp only[QU];omega
 rw[el];simp only[SC.av,QM,Xe,QE]at c1 cd hms;refine QP7.fn (by simp) ?_;simp only[SC.av,QE,eE,seval];by_cases hk:f.kind=10
 ·obtain⟨n,hn,hnm,hg⟩:=Aw F.sk F.mm F.fm hk;have d:(f.kind==10)=true:=by simp[hk]
  have c2:=hms n hnm v hv;rw[QYS hk,hg];simp only[d,eE,seval];refine aC cd ?_;simp only[hn,QZQ,Q0v,e1,eE,seval];refine aC c2 ?_;simp only[Qa,seval]
 ·have d:(f.kind==10)=false:=by simp[hk]
  rw[QYR hk];simp only[d,eE,seval];refine aC c1 ?_;simp only[Qa,seval]

omit F hlv hms in
theorem QTL {P:PL}{k:Int}(kk:ZF k)(q p:V×V)(hq:q.1.one P k (-1)=0)(hp:p.1.one P k (-1)=0)(bq:q.1.ok M)(bp:p.1.ok M)(frO:Nat→Ob)(hf:∀c,V.pav p=.agg c→frO 10=.cells c) :
  Qf Tryz.prog 224 [V.pav q,.ptr 2 10 0] [Qc,Qc,frO] fun y m1=>y=.bool (Ko q.1 p.1)∧m1=[Qc,Qc,frO]:=by
 have h:=Ib k kk q.1.bits p.1.bits q.1.text p.1.text;have hf:=hf _ (ZO p);rw[←(K2 hq).1,←(K2 hp).1,Fk kk hq hp (Ju bq) (Ju bp),QE,QE]at h;rw[ZO];refine QQg.go (by simp) ?_;simp only[hf,eE,seval];refine aC h ?_;simp only[Qa,seval]

theorem QTM (h5:f.card=5)(ps:List (V×V))(hn:ps.length≤maxLen)(hk:∀x∈ps,x.1.ok M)(hv:∀x∈ps,x.2.ok M):Qi Tryz.prog 169 [S.av,QL f,.list (ps.map V.pav),.int .i64 (lv:Nat)] (.int .i64 (Xj (J3 mm (Qp S) (QX S (unl [] m.fields) f) ps) ps.length 0)):=by
 have kk:ZF f.key:=(Vs F.sk F.mm F.fm).2 h5;have hen:∀i x,ps[i]? = some x→J3 mm (Qp S) (QX S (unl [] m.fields) f) ps i=if x.1.one (Qp S) f.key (-1)=0 then(if (ps.take i).any (fun q=>Ko q.1 x.1)=true then 9 else Xt mm (Qp S) (QX S (unl [] m.fields) f) x.2)else x.1.one (Qp S) f.key (-1):=fun i x hx=>Yw hx
 have cE:=fun(v:V) (hv:v.ok M)=>QDN S m f F hlv hms hv
 have cO:=fun(v:V) (hv:v.ok M)=>QaO S F.lm f.key (-1) [] (Qf5 kk) hv
 generalize J3 mm (Qp S) (QX S (unl [] m.fields) f) ps=E at *;generalize Xt mm (Qp S) (QX S (unl [] m.fields) f)=El at *;simp only[SC.av,QE]at cE cO;refine QQd.fn (by simp) ?_;simp only[SC.av,QL,Qz,QZ5,eE,seval]
 let SV:List AV:=[.list (S.msgs.map fun n=>.agg n.cells),.list (S.enums.map fun n=>.agg n.cells),.list (S.servs.map fun n=>.agg n.cells)]
 refine Zl (X:=Nat) (fun i=>[(2,.list (ps.map V.pav)),(3,.int .i64 (lv:Nat)),(4,.ptr 0 4 0),(5,.ptr 0 5 0),(13,.list (ps.map V.pav)),(14,.int .i64 (ps.length:Nat)),(15,.int .i64 (i:Nat))]) (fun _=>[(4,.cells SV),(5,.cells [.int .i64 f.num,.str f.name,.int .i64 f.card,.int .i64 f.key,.int .i64 f.kind,.str f.tname,.str f.union,.bool f.hasd,.int .i64 f.dflt.kd,.int .u64 (f.dflt.bits:Nat),.str f.dflt.text,.list (f.dflt.list.map V.av),.list (f.dflt.pairs.map V.pav),.list (f.dflt.slots.map V.sav),.list (f.dflt.raws.map R.av),.list (f.notes.map fun n=>.agg n.cells)])]) [10] (fun i=>ps.length-i) (fun i=>i≤ps.length∧Xj E ps.length 0=Xj E (ps.length-i) i∧∀j y,j<i→ps[j]? = some y→y.1.one (Qp S) f.key (-1)=0) (fun _=>[]) 0 ⟨QYT _,rfl,fun j y h=>by omega⟩ ?_;rintro i fr0 fr ⟨hi,hx,hks⟩;simp only[SV,Ji,QZh,QZG,QY5,QY6,Qa,seval];rcases JE ps i with⟨x,hpx,hlt⟩|hlt
 case inr=>
  rw[Kn hlt]at hx;simp only[Qy hlt,hx,Qa,seval]
 have hxm:=QYY hpx;have hg:=Yo hpx;have e1:=Ql i _ hlt hn;have hle:(i≤ps.length)=True:=eq_true (by omega);have hE:=hen i x hpx;have c1:=cO x.1 (hk x hxm);have c2:=cE x.2 (hv x hxm);simp only[Qw hlt,Qj,QZ8,Qd,hg,eE,seval];refine aC c1 ?_;by_cases hz:x.1.one (Qp S) f.key (-1)=0
 case neg=>
  rw[QYR hz]at hE;have hv':=Jn hlt hE hz;rw[hv']at hx;have d:(x.1.one (Qp S) f.key (-1) != 0)=true:=by simp[hz]
  simp only[d,hx,Qa,seval]
 rw[QYS hz]at hE;have d0:((0:Int) != 0)=false:=rfl;have hcl:=fun(fr:Nat→Ob) (h10:∀c,V.pav x=.agg c→fr 10=.cells c)=>QDp (ps.take i) (by rw[QZC];omega) (fun q=>Ko q.1 x.1) 224 (.ptr 0 10 0) [fr] fun q hq=>by
  obtain⟨j,hj⟩:=QYW.1 hq;have hlj:=(QYM.1 hj).1;rw[QZC]at hlj;rw[QZo,QYS (by omega)]at hj;exact QTL kk q x (hks j q (by omega) hj) hz (hk q (QYY hj)) (hk x hxm) fr h10
 simp only[hz,d0,Jx,Zm,Xg,Q0g,QZ5,Qj,QZ8,QYT,QYK,hle,true_or,QZY,←QZq,Qa,seval];refine Qb (hcl _ (fun c hc=>by rw[ZO]at hc;cases hc;exact rfl)) (by simp only[QZh,QZG,Qa,seval]<;>rfl) ?_;cases ha:(ps.take i).any (fun q=>Ko q.1 x.1)
 case true=>
  rw[ha,QYS rfl]at hE;rw[Jn hlt hE (by decide)]at hx;simp only[hx,Qa,seval]
 rw[ha,QYR (by simp)]at hE;simp only[eE,seval];refine aC c2 ?_;by_cases hy:El x.2=0
 ·rw[Wd hlt (hE.trans hy)]at hx;simp only[hy,d0,e1,Qa,seval];exact Ix.go (i+1) (by omega) ⟨by omega,hx,fun j y hj hjy=>by
   by_cases e:j=i
   ·subst e;rw[hpx]at hjy;cases hjy;exact hz
   ·exact hks j y (by omega) hjy⟩
 ·rw[Jn hlt hE hy]at hx;have d:(El x.2 != 0)=true:=by simp[hy]
  simp only[d,hx,Qa,seval]

theorem QTN {v:V}(hv:v.ok M):Qi Tryz.prog 112 [S.av,QL f,v.av,.int .i64 (lv:Nat)] (.int .i64 (Zq mm (Qp S) (QX S (unl [] m.fields) f) v)):=by
 have hfi:Zq mm (Qp S) (QX S (unl [] m.fields) f) v=if f.card=5 then(if (v.kd != 12||v.oth)=true then 12 else Xj (J3 mm (Qp S) (QX S (unl [] m.fields) f) v.pairs) v.pairs.length 0)else if f.card=4 then(if (v.kd != 11||v.oth)=true then 12 else Xj (WR mm (Qp S) (QX S (unl [] m.fields) f) v.list) v.list.length 0)else Xt mm (Qp S) (QX S (unl [] m.fields) f) v:=rfl
 rw[hfi];have cE:=fun(v:V) (hv:v.ok M)=>QDN S m f F hlv hms hv
 have cO:=Fu hv;have cN:=fun(h5:f.card=5)=>QTM S m f F hlv hms h5 v.pairs (by have:=hv.np;simp only[maxLen];omega) hv.keys hv.vals
 have hen:∀i x,v.list[i]? = some x→WR mm (Qp S) (QX S (unl [] m.fields) f) v.list i=Xt mm (Qp S) (QX S (unl [] m.fields) f) x:=fun i x hx=>Yx hx
 have hok:=hv.list;have hln:v.list.length≤maxLen:=by have:=hv.nl;simp only[maxLen];omega
 have c0:=cE v hv;generalize Xj (J3 mm (Qp S) (QX S (unl [] m.fields) f) v.pairs) v.pairs.length 0=R5 at *;generalize WR mm (Qp S) (QX S (unl [] m.fields) f) v.list=E at *;generalize Xt mm (Qp S) (QX S (unl [] m.fields) f)=El at *;simp only[SC.av,QL,Qz,QE]at cE cO cN c0;refine QP4.fn (by simp) ?_;simp only[SC.av,QL,Qz,QE,eE,seval];by_cases h4:f.card=4
 ·have d4:(f.card==4)=true:=by simp[h4]
  rw[QYR (show ¬f.card=5 by omega),QYS h4];simp only[d4,eE,seval];cases hk:(v.kd != 11)
  case true=>simp only[Q0r,Qa,seval]
  simp only[Q0s,eE,seval];refine aC cO ?_;cases ho:v.oth
  case true=>simp only[Qa,seval]
  simp only[QY3,QZ5,eE,seval]
  let SV:List AV:=[.list (S.msgs.map fun n=>.agg n.cells),.list (S.enums.map fun n=>.agg n.cells),.list (S.servs.map fun n=>.agg n.cells)]
  refine Zl (X:=Nat) (fun i=>[(3,.int .i64 (lv:Nat)),(4,.ptr 0 4 0),(5,.ptr 0 5 0),(24,.list (v.list.map V.av)),(25,.int .i64 (v.list.length:Nat)),(26,.int .i64 (i:Nat))]) (fun _=>[(4,.cells SV),(5,.cells [.int .i64 f.num,.str f.name,.int .i64 f.card,.int .i64 f.key,.int .i64 f.kind,.str f.tname,.str f.union,.bool f.hasd,.int .i64 f.dflt.kd,.int .u64 (f.dflt.bits:Nat),.str f.dflt.text,.list (f.dflt.list.map V.av),.list (f.dflt.pairs.map V.pav),.list (f.dflt.slots.map V.sav),.list (f.dflt.raws.map R.av),.list (f.notes.map fun n=>.agg n.cells)])]) [10] (fun i=>v.list.length-i) (fun i=>i≤v.list.length∧Xj E v.list.length 0=Xj E (v.list.length-i) i) (fun _=>[]) 0 ⟨QYT _,rfl⟩ ?_;rintro i fr0 fr ⟨hi,hx⟩;simp only[SV,Ji,QZh,QZG,QY5,QY6,Qa,seval];rcases JE v.list i with⟨x,hpx,hlt⟩|hlt
  case inr=>
   rw[Kn hlt]at hx;simp only[Qy hlt,hx,Qa,seval]
  have hxm:=QYY hpx;have hg:=H5 hpx;have e1:=Ql i _ hlt hln;have hE:=hen i x hpx;have c2:=cE x (hok x hxm);simp only[Qw hlt,Qj,QZ8,Qd,hg,eE,seval];refine aC c2 ?_;by_cases hy:El x=0
  ·have d0:((0:Int) != 0)=false:=rfl;rw[Wd hlt (hE.trans hy)]at hx;simp only[hy,d0,e1,Qa,seval];exact Ix.go (i+1) (by omega) ⟨by omega,hx⟩
  ·rw[Jn hlt hE hy]at hx;have d:(El x != 0)=true:=by simp[hy]
   simp only[d,hx,Qa,seval]
 have d4:(f.card==4)=false:=by simp[h4]
 by_cases h5:f.card=5
 ·have d5:(f.card==5)=true:=by simp[h5]
  have cn:=cN h5;rw[QYS h5];simp only[d4,d5,eE,seval];cases hk:(v.kd != 12)
  case true=>simp only[Q0r,Qa,seval]
  simp only[Q0s,eE,seval];refine aC cO ?_;cases ho:v.oth
  case true=>simp only[Qa,seval]
  simp only[QY3,eE,seval];refine aC cn ?_;simp only[Qa,seval]
 ·have d5:(f.card==5)=false:=by simp[h5]
  rw[QYR h5,QYR h4];simp only[d4,d5,eE,seval];refine aC c0 ?_;simp only[Qa,seval]
end

section
variable (sl:List (Int×V))(hl:sl.length≤maxLen)(c X:Nat)(q:Int→Bool)(F:Nat→Ob)(m:Qk)

theorem QTO (x:Int×V)(fH:Nat→Ob)(hf:fH 3=.cells [.fn (.func c) [] [.ptr 1 X 0]])(hc:∀f1,Qf Tryz.prog c [.int .i64 x.1,.ptr 4 X 0] (f1 :: Qc :: Qc :: fH :: F :: m) fun y m1=>y=.bool (q x.1)∧m1=f1 :: Qc :: Qc :: fH :: F :: m) :
  Qf Tryz.prog 113 [V.sav x,.ptr 2 3 0] (Qc :: Qc :: fH :: F :: m) fun y m1=>y=.bool (q x.1)∧m1=Qc :: Qc :: fH :: F :: m:=by
 rw[Jw];refine QP1.go (by simp) ?_;simp only[hf,eE,seval];refine Xa (fa:=[]) (fb:=[.ptr 4 X 0]) rfl (hc _) (by simp only[QZh,QZG,QY6,QY5,Qa,seval]) ?_;simp only[Qa,seval]

include hl in
theorem s58 (hc:∀x∈sl,∀f1 fH,Qf Tryz.prog c [.int .i64 x.1,.ptr 4 X 0] (f1 :: Qc :: Qc :: fH :: F :: m) fun y m1=>y=.bool (q x.1)∧m1=f1 :: Qc :: Qc :: fH :: F :: m) :
  Qf Tryz.prog 58 [.list (sl.map V.sav),.fn (.func c) [] [.ptr 0 X 0]] (F :: m) fun y m1=>y=.bool (sl.any fun x=>q x.1)∧m1=F :: m:=by
 refine k58.go (by simp) ?_;simp only[eE,seval];refine Qb (v64 sl hl (fun x=>q x.1) 113 (.ptr 0 3 0) (_ :: F :: m) fun x hx=>QTO c X q F m x _ rfl fun f1=>hc x hx f1 _) (by simp only[QZh,QZG,Qa,seval]<;>rfl) ?_;simp only[Qa,seval]
end

theorem QTP (n k:Int)(cs:List AV)(f1 fH F:Nat→Ob)(m:Qk)(hF:F 11=.cells (.int .i64 k :: cs)):Qf Tryz.prog 109 [.int .i64 n,.ptr 4 11 0] (f1 :: Qc :: Qc :: fH :: F :: m) fun y m1=>y=.bool (n==k)∧m1=f1 :: Qc :: Qc :: fH :: F :: m:=by
 refine QQw.go (by simp) ?_;simp only[hF,eE,seval]

theorem QTQ (n k:Int)(cs:List AV)(f1 fH F:Nat→Ob)(m:Qk)(hF:F 14=.cells (.int .i64 k :: cs)):Qf Tryz.prog 111 [.int .i64 n,.ptr 4 14 0] (f1 :: Qc :: Qc :: fH :: F :: m) fun y m1=>y=.bool (n==k)∧m1=f1 :: Qc :: Qc :: fH :: F :: m:=by
 refine QQj.go (by simp) ?_;simp only[hF,eE,seval]

theorem s59 (n k:Int)(cs:List AV)(f1 fH F:Nat→Ob)(m:Qk)(hF:F 12=.cells (.int .i64 k :: cs)):Qf Tryz.prog 59 [.int .i64 n,.ptr 4 12 0] (f1 :: Qc :: Qc :: fH :: F :: m) fun y m1=>y=.bool (n==k)∧m1=f1 :: Qc :: Qc :: fH :: F :: m:=by
 refine k59.go (by simp) ?_;simp only[hF,eE,seval]

section
variable (S:SC)(m:SM)(f:SF)(F:FOf S m f)
include F
theorem QTR (w:R):Qi Tryz.prog 114 [S.av,QL f,w.av] (.bool (K3 (Qp S) (QX S (unl [] m.fields) f) w)):=by
 have cd:=QDK S F.lm.es f.tname;have hke:K3 (Qp S) (QX S (unl [] m.fields) f) w=(f.kind==9&&f.card != 5&&w.wire==0&&decide ((w.bits:Int)≤2147483647) && !Wc (Qp S).enums (Zp S f) w.bits):=rfl;have hE:=Ax F;have hlt:decide ((w.bits:Int)<2147483648)=decide ((w.bits:Int)≤2147483647):=by rw[decide_eq_decide];omega
 rw[hke];simp only[SC.av,Xl,XR]at cd;refine QPJ.fn (by simp) ?_;simp only[SC.av,QL,Qz,R.av,eE,seval];refine aC cd ?_;by_cases h9:f.kind=9
 case neg=>
  have d:(f.kind==9)=false:=by simp[h9]
  cases(S.enums.find? fun x=>x.name==f.tname).isSome<;>simp only[d,Q0c,QZT,cond_true,cond_false,eE,seval]
 obtain⟨e,he,hel,hac⟩:=hE h9;have d:(f.kind==9)=true:=by simp[h9]
 have ha:=QDM e hel w.bits;simp only[Xl,XR]at ha;simp only[he,d,QZQ,Q0v,Q0p,QZT,cond_true,cond_false,eE,seval];cases a2:(f.card != 5)
 case false=>simp only[Q0c,cond_true,cond_false,Qa,seval]
 cases a3:(w.wire==0)
 case false=>simp only[a3,Q0c,Q0G,cond_true,cond_false,eE,seval]
 cases a4:decide ((w.bits:Int)≤2147483647)
 case false=>simp only[a3,a4,hlt,Q0c,QZT,Q0G,cond_true,cond_false,eE,seval]
 have hb:w.bits≤2147483647:=by
  have:=of_decide_eq_true a4;omega
 simp only[a3,a4,hlt,Q0p,QZT,cond_true,cond_false,eE,seval];refine aC ha ?_;rw[hac _ hb];simp only[Qa,seval]
end

section
variable (S:SC)(m:SM)(hsk:Sok S)(hlm:SLm S)(hmm:m∈S.msgs)
include hsk hlm hmm
set_option maxHeartbeats 2000000 in
theorem s60 (w:R):Qi Tryz.prog 60 [S.av,QM m,w.av] (.int .i64 (Wj (Qp S) (QO S m) w)):=by
 have co:=s36 m (hlm.fs m hmm) w.num;have nd:(w.data != [])=!(w.data==[]):=rfl;have nb:((w.bits:Int) != 0)=!((w.bits:Int)==0):=rfl;have hgt:decide (w.wire > 2)=!decide (w.wire≤2):=(by rw[QZB];simp only[QZ2,QZD,Q0E];omega);have hck:∀f,m.fields.find? (fun x=>x.num==w.num)=some f→Qi Tryz.prog 114 [S.av,QL f,w.av] (.bool (K3 (Qp S) (QX S (unl [] m.fields) f) w)):=fun f hf=>QTR S m f ⟨hsk,hlm,hmm,Q0B hf⟩ w
 have hko:(!Dd (Qp S) (QO S m) w)=(match m.fields.find? (fun x=>x.num==w.num)with
  |some f=>!K3 (Qp S) (QX S (unl [] m.fields) f) w
  |none=>false):=by
  rw[Vo,YI];cases m.fields.find? (fun x=>x.num==w.num)<;>rfl
 rw[Mg,hko];unfold Ie Ig Ih;rw[hgt];clear hko;have hco:∃x,(m.fields.find? fun x=>x.num==w.num).getD Au=x:=⟨_,rfl⟩;obtain⟨x0,hx0⟩:=hco;rw[hx0,QM,Xe m,QL,Qz x0]at co;simp only[SC.av,R.av,QL]at hck;refine k60.fn (by simp) ?_;simp only[SC.av,QM,Xe m,R.av,eE,seval];refine aC co ?_;cases r1:decide (w.num<1)
 case true=>simp only[r1,Q0r,eE,seval]
 cases r2:decide (w.num > 65535)
 case true=>simp only[r1,r2,Q0r,Q0s,eE,seval]
 cases r3:decide (w.wire<0)
 case true=>simp only[r1,r2,r3,Q0r,Q0s,eE,seval]
 cases r4:decide (w.wire > 6)
 case true=>simp only[r1,r2,r3,r4,Q0s,eE,seval]
 simp only[r1,r2,r3,r4,Q0s,QY3,eE,seval];cases hfd:m.fields.find? (fun x=>x.num==w.num)with
 |none=>
  cases s1:decide (w.wire≤2)<;>cases s2:((w.bits:Int)==0)<;>cases s3:(w.data==[])
  all_goals(simp only[s2,s3,nb,Qs,Q0g,QZy,QY3,QZT,Q0G,Q0I,Q0H,Q0q,QZN,cond_true,cond_false,eE,seval])
  all_goals(cases t1:(w.wire==3)<;>try simp only[Q0p,Q0c,Q0s,cond_true,cond_false,eE,seval])
  all_goals(cases t2:decide ((w.data.length:Int) > 4096)<;>try simp only[Q0r,Q0s,cond_true,cond_false,eE,seval])
  all_goals(cases t3:decide ((w.data.length:Int) > 65536)<;>try simp only[QY3,cond_true,cond_false,Qa,seval])
 |some f=>
  have ck:=hck f hfd;rw[hfd,QZQ]at hx0;subst hx0;rw[Qz f]at ck;clear hck;obtain⟨K,hK⟩:∃K,K3 (Qp S) (QX S (unl [] m.fields) f) w=K:=⟨_,rfl⟩;simp only[hK]at ck ⊢;cases s1:decide (w.wire≤2)<;>cases s2:((w.bits:Int)==0)<;>cases s3:(w.data==[])
  all_goals(simp only[s2,s3,nb,Qs,Q0v,QY3,QZT,Q0G,Q0I,Q0H,Q0q,QZN,cond_true,cond_false,eE,seval])
  all_goals(try(refine aC ck ?_;cases K<;>simp only[QY3,Q0q,QZN,cond_true,cond_false,eE,seval]))
  all_goals(cases t1:(w.wire==3)<;>try simp only[Q0p,Q0c,Q0s,cond_true,cond_false,eE,seval])
  all_goals(cases t2:decide ((w.data.length:Int) > 4096)<;>try simp only[Q0r,Q0s,cond_true,cond_false,eE,seval])
  all_goals(cases t3:decide ((w.data.length:Int) > 65536)<;>try simp only[QY3,cond_true,cond_false,Qa,seval])
end

section
variable {M:Nat}(S:SC)(m:SM)(hsk:Sok S)(hlm:SLm S)(hmm:m∈S.msgs){mm:PG→V→Int}{lv:Nat}(hlv:lv≤16){v:V}(hv:v.ok M)
variable (hsl:∀i x,v.slots[i]? = some x→(∀y∈v.slots.take i,(X4 (QO S m) y.1).isSome=true)→Qi Tryz.prog 57 [S.av,QM m,.list (v.slots.map V.sav),.int .i64 (i:Nat),.int .i64 (lv:Nat)] (.int .i64 (XB mm (Qp S) (QO S m) v.slots i)))
include hsk hlm hmm hlv hv hsl

set_option maxHeartbeats 2000000 in
theorem s23:Qi Tryz.prog 23 [S.av,QM m,v.av,.int .i64 (lv:Nat)] (.int .i64 (if (v.kd != 10||v.oth)=true then 12 else Yc mm (Qp S) (QO S m) v)):=by
 have cO:=Fu hv;have cR:=fun w=>s60 S m hsk hlm hmm w
 have hb:Yc mm (Qp S) (QO S m) v=if Xj (XB mm (Qp S) (QO S m) v.slots) v.slots.length 0=0 then(if Wk (QO S m) v.slots=true then 14 else Xj (JC (Qp S) (QO S m) v.raws) v.raws.length 0)else Xj (XB mm (Qp S) (QO S m) v.slots) v.slots.length 0:=rfl
 have hmis:Wk (QO S m) v.slots=m.fields.any fun o=>o.card==1 && !v.slots.any fun y=>y.1==o.num:=by
  unfold Wk QO;rw[List.any_map];rfl
 have hkn:∀i x,v.slots[i]? = some x→XB mm (Qp S) (QO S m) v.slots i=0→(X4 (QO S m) x.1).isSome=true:=by
  intro i x hx h;unfold XB at h;rw[hx]at h;dsimp only at h;cases ho:X4 (QO S m) x.1 with
  |none=>rw[ho]at h;cases h
  |some o=>rfl
 have hrw:∀i w,v.raws[i]? = some w→JC (Qp S) (QO S m) v.raws i=Wj (Qp S) (QO S m) w:=fun i w hw=>WS hw
 have hls:v.slots.length≤maxLen:=by have:=hv.ns;simp only[maxLen];omega
 have hlr:v.raws.length≤maxLen:=by have:=hv.nr;simp only[maxLen];omega
 have hlf:=hlm.fs m hmm;rw[hb,hmis];generalize XB mm (Qp S) (QO S m) v.slots=E at *;generalize JC (Qp S) (QO S m) v.raws=RF at *;generalize Wj (Qp S) (QO S m)=RW at *;clear hb hmis;simp only[SC.av,QM,QE,R.av]at cO cR hsl;rw[Xe m]at cR hsl;have hl16:decide ((lv:Int) > 16)=false:=Q0u (by omega);refine k23.fn (by simp) ?_;simp only[SC.av,QM,Xe m,QE,eE,seval];cases hk:(v.kd != 10)
 case true=>simp only[Q0r,Qa,seval]
 simp only[Q0s,eE,seval];refine aC cO ?_;cases ho:v.oth
 case true=>simp only[Qa,seval]
 simp only[hl16,QY3,QZ5,eE,seval]
 let SV:List AV:=[.list (S.msgs.map fun n=>.agg n.cells),.list (S.enums.map fun n=>.agg n.cells),.list (S.servs.map fun n=>.agg n.cells)]
 let MV:List AV:=[.str m.name,.list (m.fields.map fun n=>.agg n.cells),.list (m.free.map fun n=>.agg n.cells),.list (m.gone.map AV.str),.list (m.notes.map fun n=>.agg n.cells)]
 let VV:List AV:=[.int .i64 v.kd,.int .u64 (v.bits:Nat),.str v.text,.list (v.list.map V.av),.list (v.pairs.map V.pav),.list (v.slots.map V.sav),.list (v.raws.map R.av)]
 refine Zl (X:=Nat) (fun i=>[(3,.int .i64 (lv:Nat)),(4,.ptr 0 4 0),(5,.ptr 0 5 0),(6,.ptr 0 6 0),(29,.int .i64 (v.slots.length:Nat)),(30,.int .i64 (i:Nat))]) (fun _=>[(4,.cells SV),(5,.cells MV),(6,.cells VV),(12,.none),(14,.none)]) [] (fun i=>v.slots.length-i) (fun i=>i≤v.slots.length∧Xj E v.slots.length 0=Xj E (v.slots.length-i) i∧∀y∈v.slots.take i,(X4 (QO S m) y.1).isSome=true) (fun _=>[]) 0 ⟨QYT _,rfl,fun y hy=>by simp at hy⟩ ?_;rintro i f0 fr ⟨hi,hx,hks⟩;simp only[SV,MV,VV,Ji,QZG,Qa,seval];rcases JE v.slots i with⟨x,hsx,hlt⟩|hlt
 case inl=>
  have e1:=Ql i _ hlt hls;have c1:=hsl i x hsx hks;simp only[Qw hlt,eE,seval];refine aC c1 ?_;by_cases hy:E i=0
  ·have d0:((0:Int) != 0)=false:=rfl;have hx2:=hx;rw[Wd hlt hy]at hx2;simp only[hy,d0,e1,Qa,seval];exact Ix.go (i+1) (by omega) ⟨by omega,hx2,fun y hyt=>by
    rw[Q0j,hsx,Q0k]at hyt;rcases QZX.1 hyt with hyt|hyt
    ·exact hks y hyt
    ·rcases Q0K.1 hyt with rfl
     exact hkn i y hsx hy⟩
  ·rw[Jn hlt rfl hy]at hx;have d:(E i != 0)=true:=by simp[hy]
   rw[hx,QYR hy];simp only[d,Qa,seval]
 rw[Kn hlt]at hx;rw[hx,QYS rfl];simp only[Qy hlt,QZ5,eE,seval];clear hlt hi hks hx;refine Zl (X:=Nat) (fun i=>[(4,.ptr 0 4 0),(5,.ptr 0 5 0),(6,.ptr 0 6 0),(45,.list (m.fields.map fun n=>.agg n.cells)),(46,.int .i64 (m.fields.length:Nat)),(47,.int .i64 (i:Nat))]) (fun _=>[(4,.cells SV),(5,.cells MV),(6,.cells VV),(14,.none)]) [12] (fun i=>m.fields.length-i) (fun i=>i≤m.fields.length∧((m.fields.take i).any fun o=>o.card==1 && !v.slots.any fun y=>y.1==o.num)=false) (fun _=>[]) 0 ⟨QYT _,rfl⟩ ?_;rintro i f0 fr ⟨hi,hz⟩;simp only[SV,MV,VV,Ji,QZh,QZG,QY5,QY6,Qa,seval];rcases JE m.fields i with⟨g,hg,hlt⟩|hlt
 case inl=>
  have e1:=Ql i _ hlt hlf;have hgg:(m.fields.map fun n=>AV.agg n.cells)[i]? = some (.agg g.cells):=by rw[QZ3,hg];rfl
  rw[Qz g]at hgg;have hT:=N0 (q:=fun o:SF=>o.card==1 && !v.slots.any fun y=>y.1==o.num) hg;rw[hz,Q0s]at hT;simp only[Qw hlt,Qj,QZ8,Qd,hgg,eE,seval];cases hc:(g.card==1)
  ·simp only[e1,cond_true,cond_false,Qa,seval];exact Ix.go (i+1) (by omega) ⟨by omega,by rw[hT,hc];rfl⟩
  simp only[cond_true,cond_false,eE,seval];refine Qb (s58 v.slots hls 59 12 (fun n=>n==g.num) _ [] fun x _ f1 fH=>s59 x.1 g.num _ f1 fH _ [] rfl) (by simp only[QZh,QZG,Qa,seval]<;>rfl) ?_;cases hh:v.slots.any fun y=>y.1==g.num
  ·have:(m.fields.any fun o=>o.card==1 && !v.slots.any fun y=>y.1==o.num)=true:=Q0A.2 ⟨g,QYY hg,by rw[hc,hh];rfl⟩;rw[this,QYS rfl];simp only[QZN,cond_true,cond_false,Qa,seval]
  ·simp only[e1,Q0q,cond_true,cond_false,Qa,seval];exact Ix.go (i+1) (by omega) ⟨by omega,by rw[hT,hc,hh];rfl⟩
 rw[QZj (by omega)]at hz;rw[hz,QYR (by simp)];simp only[Qy hlt,QZ5,eE,seval];clear hlt hi hz;refine Zl (X:=Nat) (fun i=>[(4,.ptr 0 4 0),(5,.ptr 0 5 0),(63,.list (v.raws.map R.av)),(64,.int .i64 (v.raws.length:Nat)),(65,.int .i64 (i:Nat))]) (fun _=>[(4,.cells SV),(5,.cells MV)]) [14] (fun i=>v.raws.length-i) (fun i=>i≤v.raws.length∧Xj RF v.raws.length 0=Xj RF (v.raws.length-i) i) (fun _=>[]) 0 ⟨QYT _,rfl⟩ ?_;rintro i f0 fr ⟨hi,hx⟩;simp only[SV,MV,Ji,QZh,QZG,QY5,QY6,Qa,seval];rcases JE v.raws i with⟨w,hw,hlt⟩|hlt
 case inr=>
  rw[Kn hlt]at hx;simp only[Qy hlt,hx,Qa,seval]
 have e1:=Ql i _ hlt hlr;have hgw:(v.raws.map R.av)[i]? = some (.agg [.int .i64 w.num,.int .i64 w.wire,.int .u64 (w.bits:Nat),.str w.data]):=by rw[QZ3,hw];rfl
 have c1:=cR w;have hE:=hrw i w hw;simp only[Qw hlt,Qj,QZ8,Qd,hgw,eE,seval];refine aC c1 ?_;by_cases hy:RW w=0
 ·have d0:((0:Int) != 0)=false:=rfl;rw[Wd hlt (hE.trans hy)]at hx;simp only[hy,d0,e1,Qa,seval];exact Ix.go (i+1) (by omega) ⟨by omega,hx⟩
 ·rw[Jn hlt hE hy]at hx;have d:(RW w != 0)=true:=by simp[hy]
  simp only[d,hx,Qa,seval]
end

theorem Vt:∀ {l:List SF},(l.Pairwise fun a b=>a.num<b.num)→∀g∈l,l.find? (fun x=>x.num==g.num)=some g
 | [],_,g,hg=>by cases hg
 |a :: l,h,g,hg=>by
  rw[Q0f]at h;rw[Q0t];rcases QZ0.1 hg with rfl|hg
  ·simp
  ·have:=h.1 g hg;have d:(a.num==g.num)=false:=by rw[Q0F];omega
   rw[d];exact Vt h.2 g hg
theorem Mn {S:SC}(hsk:Sok S){m:SM}(hmm:m∈S.msgs):m.fields.Pairwise fun a b=>a.num<b.num:=by
 have hs:∀i (hi:i+1<m.fields.length),m.fields[i].num<m.fields[i+1].num:=fun i hi=>(Jq (ZN (hsk.ms m hmm)) (QYN hi)).up i _ rfl (QYN (by omega))
 rw[Q0L];intro i j hi hj hij;obtain⟨d,rfl⟩:∃d,j=i+1+d:=⟨j-(i+1),by omega⟩;clear hij
 induction d with
 |zero=>exact hs i (by omega)
 |succ d ih=>
  have a:=ih (by omega);have b:=hs (i+1+d) (by omega);exact Int.lt_trans a b

def UR (m:SM)(u:List UInt8):List SF:=if u=[]then []else m.fields.filter fun g=>g.union==u
theorem Qf6 (m:SM)(f:SF)(l:List (Int×V)):PJ m f l=(UR m f.union).any fun g=>g.num != f.num&&l.any fun y=>y.1==g.num:=by
 unfold PJ UR;by_cases hu:f.union=[]
 ·simp[hu]
 ·rw[QYR hu,List.any_filter];have d:(f.union != [])=true:=by simp[hu]
  rw[d,Q0p]

section
variable {M:Nat}(S:SC)(m:SM)(hsk:Sok S)(hlm:SLm S)(hmm:m∈S.msgs){mm:PG→V→Int}{lv:Nat}(hlv:lv≤16)(hms:∀n∈S.msgs,∀v:V,v.ok M→Qi Tryz.prog 23 [S.av,QM n,v.av,.int .i64 ((lv+1:Nat):Int)] (.int .i64 (mm (QO S n) v)))
variable (hun:∀u,Qi Tryz.prog 110 [QM m,.str u] (.list ((UR m u).map QL)))(sl:List (Int×V))(hls:sl.length≤maxLen)(hv:∀x∈sl,x.2.ok M)
include hsk hlm hmm hlv hms hun hls hv

set_option maxHeartbeats 2000000 in
theorem s57 (i:Nat)(x:Int×V)(hx:sl[i]? = some x)(hkn:∀y∈sl.take i,(X4 (QO S m) y.1).isSome=true):Qi Tryz.prog 57 [S.av,QM m,.list (sl.map V.sav),.int .i64 (i:Nat),.int .i64 (lv:Nat)] (.int .i64 (XB mm (Qp S) (QO S m) sl i)):=by
 have co:=s36 m (hlm.fs m hmm) x.1;have hg:=WY hx;have hpw:=Mn hsk hmm;have hil:=(QYM.1 hx).1;have hle:(i≤sl.length)=True:=eq_true (by omega);have htl:(sl.take i).length≤maxLen:=by rw[QZC];omega
 have hsf:XB mm (Qp S) (QO S m) sl i=match X4 (QO S m) x.1 with
  |none=>8
  |some o=>if (sl.take i).any (fun y=>y.1==x.1)=true then 9 else if (sl.take i).any (Jv (QO S m) o)=true then 15 else Zq mm (Qp S) o x.2:=by
  unfold XB;rw[hx];dsimp only;cases X4 (QO S m) x.1<;>rfl
 rw[hsf,YI];clear hsf;have hcf:∀f,m.fields.find? (fun y=>y.num==x.1)=some f→Qi Tryz.prog 112 [S.av,QL f,x.2.av,.int .i64 (lv:Nat)] (.int .i64 (Zq mm (Qp S) (QX S (unl [] m.fields) f) x.2)):=fun f hf=>QTN S m f ⟨hsk,hlm,hmm,Q0B hf⟩ hlv hms (hv x (QYY hx))
 have hum:∀f,m.fields.find? (fun y=>y.num==x.1)=some f→(sl.take i).any (fun y=>y.1==x.1)=false→(sl.take i).any (Jv (QO S m) (QX S (unl [] m.fields) f))=(UR m f.union).any fun g=>g.num != f.num&&(sl.take i).any fun y=>y.1==g.num:=by
  intro f hf h1;have hfn:f.num=x.1:=by simpa using Q0C hf
  rw[←hfn]at h1;rw[QDI (Q0B hf) h1 hkn (Vt hpw),Qf6]
 obtain⟨x0,hx0⟩:∃y,(m.fields.find? fun y=>y.num==x.1).getD Au=y:=⟨_,rfl⟩;rw[hx0,QM,Xe m,QL,Qz x0]at co;simp only[SC.av,QL,QE]at hcf;simp only[QM,Xe m]at hun;refine k57.fn (by simp) ?_;simp only[SC.av,QM,Xe m,Qj,QZ8,Qd,hg,eE,seval];refine aC co ?_;cases hfd:m.fields.find? (fun y=>y.num==x.1)with
 |none=>simp only[QZy,Option.map_none,QZT,QZN,cond_true,cond_false,eE,seval]
 |some f=>
  have cf:=hcf f hfd;have hu:=hum f hfd;have cu:=hun f.union;have hfn:f.num=x.1:=by simpa using Q0C hfd
  rw[hfd,QZQ]at hx0;subst hx0;rw[Qz f]at cf;clear hcf hum hun;simp only[Q0v,QZa,Jx,Zm,Xg,Q0g,QZ5,Qj,QZ8,QYT,QYK,hle,true_or,QZY,←QZq,QZT,Q0q,cond_true,cond_false,eE,seval];refine Qb (s58 (sl.take i) htl 109 11 (fun n=>n==f.num) _ [] fun y _ f1 fH=>QTP y.1 f.num _ f1 fH _ [] rfl) (by simp only[QZh,QZG,Qa,seval]<;>rfl) ?_;have hsame:((sl.take i).any fun y=>y.1==f.num)=(sl.take i).any fun y=>y.1==x.1:=by rw[hfn]
  rw[hsame];cases h9:(sl.take i).any fun y=>y.1==x.1
  case true=>simp only[cond_true,cond_false,Qa,seval]
  rw[hu h9];simp only[QY3,cond_true,cond_false,eE,seval];refine aC cu ?_;have hUl:(UR m f.union).length≤maxLen:=by
   unfold UR;split
   ·simp[maxLen]
   ·exact QYL (List.length_filter_le _ _) (hlm.fs m hmm)
  simp only[QZ5,Qa,seval];generalize UR m f.union=U at *
  let SV:List AV:=[.list (S.msgs.map fun n=>.agg n.cells),.list (S.enums.map fun n=>.agg n.cells),.list (S.servs.map fun n=>.agg n.cells)]
  let FV:List AV:=[.int .i64 f.num,.str f.name,.int .i64 f.card,.int .i64 f.key,.int .i64 f.kind,.str f.tname,.str f.union,.bool f.hasd,.int .i64 f.dflt.kd,.int .u64 (f.dflt.bits:Nat),.str f.dflt.text,.list (f.dflt.list.map V.av),.list (f.dflt.pairs.map V.pav),.list (f.dflt.slots.map V.sav),.list (f.dflt.raws.map R.av),.list (f.notes.map fun n=>.agg n.cells)]
  refine Zl (X:=Nat) (fun k=>[(2,.list (sl.map V.sav)),(3,.int .i64 (i:Nat)),(4,.int .i64 (lv:Nat)),(5,.ptr 0 5 0),(11,.ptr 0 11 0),(35,.list (U.map QL)),(36,.int .i64 (U.length:Nat)),(37,.int .i64 (k:Nat))]) (fun _=>[(5,.cells SV),(11,.cells FV)]) [14] (fun k=>U.length-k) (fun k=>k≤U.length∧((U.take k).any fun g=>g.num != f.num&&(sl.take i).any fun y=>y.1==g.num)=false) (fun _=>[]) 0 ⟨QYT _,rfl⟩ ?_;rintro k f0 fr ⟨hk,hz⟩;simp only[SV,FV,Ji,QZh,QZG,QY5,QY6,Qa,seval];rcases JE U k with⟨g,hgk,hlt⟩|hlt
  case inr=>
   rw[QZj (by omega)]at hz;rw[hz];simp only[Qy hlt,Qj,QZ8,Qd,hg,QY3,eE,seval];refine aC cf ?_;simp only[Qa,seval]
  have hgm:=QYY hgk;have hgg:(U.map QL)[k]? = some (.agg g.cells):=by rw[QZ3,hgk];rfl
  rw[Qz g]at hgg;have e1:=Ql k _ hlt hUl;have hT:=N0 (q:=fun g:SF=>g.num != f.num&&(sl.take i).any fun y=>y.1==g.num) hgk;rw[hz,Q0s]at hT;simp only[Qw hlt,Qj,QZ8,Qd,hgg,eE,seval];cases hn:(g.num != f.num)
  ·simp only[e1,cond_true,cond_false,Qa,seval];exact Ix.go (k+1) (by omega) ⟨by omega,by rw[hT,hn];rfl⟩
  simp only[Jx,Zm,Xg,Q0g,QZ5,Qj,QZ8,QYT,QYK,hle,true_or,QZY,←QZq,cond_true,cond_false,Qa,seval];refine Qb (s58 (sl.take i) htl 111 14 (fun n=>n==g.num) _ [] fun y _ f1 fH=>QTQ y.1 g.num _ f1 fH _ [] rfl) (by simp only[QZh,QZG,Qa,seval]<;>rfl) ?_;cases hh:(sl.take i).any fun y=>y.1==g.num
  ·simp only[e1,cond_true,cond_false,Qa,seval];exact Ix.go (k+1) (by omega) ⟨by omega,by rw[hT,hn,hh];rfl⟩
  ·have:(U.any fun g=>g.num != f.num&&(sl.take i).any fun y=>y.1==g.num)=true:=Q0A.2 ⟨g,hgm,by rw[hn,hh];rfl⟩;rw[this];simp only[cond_true,cond_false,Qa,seval]
end

end Go.Proofs.YtafhmlkilcmniaaGreatDoor.Va

namespace Go.Proofs.YtafhmlkilcmniaaGreatDoor.Va
open Go Am Rc Bt Br Up

theorem Dk (a b:Int):IntKind.i64.wrap (IntKind.i64.wrap a+IntKind.i64.wrap b)=IntKind.i64.wrap (a+b):=by
 simp only[QU];omega
section
variable {M:Nat}

def C1I (v:V)(k:Nat)(st:St):Prop :=
 ∃f fr i,st=⟨f,[fr],[]⟩∧k=v.list.length-i∧i≤v.list.length∧f 1=.ptr 0 1 0∧f 3=.int .i64 (IntKind.i64.wrap ((1+v.raws.length+Xy (v.list.take i):Nat):Int))∧f 4=.int .i64 (i:Nat)∧fr 1=.cells (vc v)
def C2I (v:V)(k:Nat)(st:St):Prop :=
 ∃f fr i,st=⟨f,[fr],[]⟩∧k=v.pairs.length-i∧i≤v.pairs.length∧f 1=.ptr 0 1 0∧f 3=.int .i64 (IntKind.i64.wrap ((1+v.raws.length+Xy v.list+XX (v.pairs.take i):Nat):Int))∧f 5=.int .i64 (i:Nat)∧fr 1=.cells (vc v)
def C3I (v:V)(k:Nat)(st:St):Prop :=
 ∃f fr i,st=⟨f,[fr],[]⟩∧k=v.slots.length-i∧i≤v.slots.length∧f 1=.ptr 0 1 0∧f 3=.int .i64 (IntKind.i64.wrap ((1+v.raws.length+Xy v.list+XX v.pairs+XI (v.slots.take i):Nat):Int))∧f 6=.int .i64 (i:Nat)∧fr 1=.cells (vc v)

theorem v15 (v:V)(hv:v.ok M):Qi Tryz.prog 15 [v.av] (.int .i64 (IntKind.i64.wrap (v.cnt:Int))):=by
 revert hv
 refine V.ind (P:=fun v=>v.ok M→Qi Tryz.prog 15 [v.av] (.int .i64 (IntKind.i64.wrap (v.cnt:Int)))) ?_ v;clear v;intro v hl hp hs hv;have n1:=hv.nl;have n2:=hv.np;have n3:=hv.ns;rw[QE];refine k15.fn (by simp) ?_;simp only[QZ5,eE,seval];refine Qe (C1I v) _ ⟨_,_,0,rfl,rfl,QYT _,rfl,(by simp only[QZO,Xy,QZg,Int.natCast_add,Int.natCast_one,Qa,seval]),rfl,rfl⟩ ?_;rintro _ st ⟨f,fr,i,rfl,rfl,hil,h1,h3,h4,m1⟩;have m1':=m1;simp only[vc]at m1;simp only[QZ5,h1,h4,m1,eE,seval];by_cases hlt:i<v.list.length
 ·obtain⟨x,hi⟩:∃x,v.list[i]? = some x:=⟨v.list[i],QYN hlt⟩;have hg:=H5 hi;have e1:=Ql i _ hlt (by simp only[maxLen];omega);have c1:=hl x (QYY hi) (hv.list x (QYY hi));rw[QE]at c1;simp only[Qw hlt,Qj,QZ8,Qd,hg,h1,h3,h4,m1,eE,seval];refine aC c1 ?_;simp only[h4,e1,Dk,Qa,seval];exact⟨v.list.length-(i+1),by omega,_,_,i+1,rfl,rfl,by omega,h1,(by rw[FY hi];simp only[h3,←Int.natCast_add,QYJ,Qa,seval]),rfl,m1'⟩
 have e:i=v.list.length:=by omega
 subst e;rw[Q0h]at h3;simp only[Qy hlt,Qa,seval];refine Qe (C2I v) _ ⟨_,_,0,rfl,rfl,QYT _,h1,(by simp only[QZO,XX,QZg,h3,Qa,seval]),rfl,m1'⟩ ?_;clear h1 h3 h4 m1 m1' hlt hil;rintro _ st ⟨f,fr,i,rfl,rfl,hil,h1,h3,h5,m1⟩;have m1':=m1;simp only[vc]at m1;simp only[QZ5,h1,h5,m1,eE,seval];by_cases hlt:i<v.pairs.length
 ·obtain⟨x,hi⟩:∃x,v.pairs[i]? = some x:=⟨v.pairs[i],QYN hlt⟩;have hg:=Yo hi;have e1:=Ql i _ hlt (by simp only[maxLen];omega);have hm:=QYY hi;have c1:=(hp x hm).1 (hv.keys x hm);have c2:=(hp x hm).2 (hv.vals x hm);rw[QE]at c1 c2;simp only[Qw hlt,Qj,QZ8,Qd,hg,QZi,QZO,QZs,h1,h3,h5,m1,eE,seval];refine aC c1 ?_;simp only[Qj,QZ8,Qd,hg,QZi,QZl,QZs,h1,h5,m1,eE,seval];refine aC c2 ?_;simp only[h5,e1,Dk,Qa,seval];exact⟨v.pairs.length-(i+1),by omega,_,_,i+1,rfl,rfl,by omega,h1,(by rw[T3 hi];simp only[h3,←Int.natCast_add,QYJ,Qa,seval]),rfl,m1'⟩
 have e:i=v.pairs.length:=by omega
 subst e;rw[Q0h]at h3;simp only[Qy hlt,Qa,seval];refine Qe (C3I v) _ ⟨_,_,0,rfl,rfl,QYT _,h1,(by simp only[QZO,XI,QZg,h3,Qa,seval]),rfl,m1'⟩ ?_;clear h1 h3 h5 m1 m1' hlt hil;rintro _ st ⟨f,fr,i,rfl,rfl,hil,h1,h3,h6,m1⟩;have m1':=m1;simp only[vc]at m1;simp only[QZ5,h1,h6,m1,eE,seval];by_cases hlt:i<v.slots.length
 ·obtain⟨x,hi⟩:∃x,v.slots[i]? = some x:=⟨v.slots[i],QYN hlt⟩;have hg:=WY hi;have e1:=Ql i _ hlt (by simp only[maxLen];omega);have hm:=QYY hi;have c1:=hs x hm (hv.slots x hm);rw[QE]at c1;simp only[Qw hlt,Qj,QZ8,Qd,hg,QZi,QZl,QZs,h1,h3,h6,m1,eE,seval];refine aC c1 ?_;simp only[h6,e1,Dk,Qa,seval];exact⟨v.slots.length-(i+1),by omega,_,_,i+1,rfl,rfl,by omega,h1,(by rw[T4 hi];simp only[h3,←Int.natCast_add,QYJ,Qa,seval]),rfl,m1'⟩
 have e:i=v.slots.length:=by omega
 subst e;rw[Q0h]at h3;simp only[Qy hlt,h3,XY,Qa,seval]

end

def inn (v:V):List V:=v.list++v.pairs.flatMap (fun p=>[p.1,p.2])++v.slots.map (·.2)

theorem Gd (a b:List V):Xy (a++b)=Xy a+Xy b:=by
 induction a with
 |nil=>simp[Xy]
 |cons x a ih=>simp only[QY5,Xy,ih];omega
theorem Qf7 (v:V):v.cnt=1+v.raws.length+Xy (inn v):=by
 have h1:∀l:List (V×V),Xy (l.flatMap fun p=>[p.1,p.2])=XX l:=by
  intro l
  induction l with
  |nil=>rfl
  |cons x l ih=>
   obtain⟨a,b⟩:=x;simp only[Q0b,Gd,ih,XX,Xy,QZg]
 have h2:∀l:List (Int×V),Xy (l.map (·.2))=XI l:=by
  intro l
  induction l with
  |nil=>rfl
  |cons x l ih=>
   obtain⟨a,b⟩:=x;simp only[QZh,Xy,ih,XI]
 rw[XY,inn,Gd,Gd,h1,h2];omega

theorem Ay {xs:List AV}(h:xs.all (fun e=>e.cells.length==7)=true)(hf:QP xs=[]):xs=[]:=by
 cases xs with
 |nil=>rfl
 |cons x xs=>
  have hl:x.cells.length=7:=by simpa using QYX.1 h x (by simp)
  have:x.cells=[]:=(Q0R.1 hf).1;rw[this]at hl;exact absurd hl.symm (by decide)

theorem QTS (xs:List AV)(fr:Nat→Ob)(m:Qk)(h:xs.all (fun e=>e.cells.length==7)=true)(hn:xs.length≤1099511627776)(hr:QI (fr 1000)=true) :
  Qf Tryz.prog 115 [.list xs] (fr :: m) (fun x m1=>x=.vec 0 1000 (Je (fr 1000)) 0 xs.length false∧m1=Qt fr 1000 (.vec (Je (fr 1000)) 7 xs) :: m):=by
 have hng:QK (fr :: m) 0 1000=Je (fr 1000):=K6;refine QgU.go (by simp) ?_;simp only[Ep,RP,RQ,Qa,seval];refine JY (ys:=xs) (by simp only[Qa,seval]) ?_ ?_
 ·simp only[RT,Qa,seval];refine Kk rfl ?_;simp only[Qa,seval];refine QJ (site:=5) (g:=1) (xs:=[]) (ys:=xs) rfl rfl rfl rfl rfl h (by simp[maxLen];omega) (by simp;omega) ?_;simp only[Qa,seval];refine ZS (l:=0) (site:=5) (g:=2) (o:=0) (n:=xs.length) (q:=false) (sz:=7) (xs:=xs) (by simp only[QY9,Qa,seval]) (by simp only[Qa,seval]) (by simp) (by decide) hr ?_;simp only[hng,M6,eE,seval]
  try simp[AV.still,AV.un,Jz,Zs]
 ·intro he;have hx:xs=[]:=by
   rcases he with he|he
   ·exact he
   ·exact Ay h he
  subst hx;simp only[RS,Qa,seval];refine ZZ (by simp only[Qa,seval]) rfl ?_;simp only[Qa,seval];refine ZS (l:=0) (site:=2) (g:=1) (o:=0) (n:=0) (q:=false) (sz:=7) (xs:=[]) (by simp only[Qa,seval]) (by simp only[Qa,seval]) (by simp) (by decide) hr ?_;simp only[hng,M6,eE,seval]
  try simp[AV.still,AV.un,Jz,Zs]

theorem Xn {P:Program}{K:St→Prop}{Qg:List Am.Item}{f:Fr}{m:Qk}{ds:List DF}{d sz len:Nat}{z y l:List AV}{ps:List (Nat×Nat×RA)}(hy:fill f ps (Jd z sz len)=some y)(h1:AV.rfL y=true)(h2:y.all AV.leaf=true)(hc:Jc sz len (y.map nn0)=l)(h:Qq P Qg ⟨Qt f d (.list l),m,ds⟩ K) :
  Qq P (⟨some d,.bsl sz len z ps,none⟩ :: Qg) ⟨f,m,ds⟩ K:=by
 subst hc;exact⟨y,hy,h1,h2,h⟩

def Wo (v:V)(i:Nat):List V:=v.list++(v.pairs.take i).flatMap fun p=>[p.1,p.2]
def WZ (v:V)(i:Nat):List V:=Wo v v.pairs.length++(v.slots.take i).map (·.2)

theorem Hi (v:V)(i:Nat)(h:i≤v.pairs.length):(Wo v i).length=v.list.length+2*i:=by
 have:∀l:List (V×V),(l.flatMap fun p=>[p.1,p.2]).length=2*l.length:=by
  intro l
  induction l with
  |nil=>rfl
  |cons x l ih=>simp only[Q0b,QZn,QYZ,QZR,ih];omega
 rw[Wo,QZn,this,QZC];omega
theorem Fv (v:V)(i:Nat)(h:i≤v.slots.length):(WZ v i).length=v.list.length+2*v.pairs.length+i:=by
 rw[WZ,QZn,Hi v _ (QYK _),QZ5,QZC];omega
theorem Is {v:V}{i:Nat}{x:V×V}(h:v.pairs[i]? = some x):(Wo v (i+1)).map V.av=(Wo v i).map V.av++[x.1.av,x.2.av]:=by
 unfold Wo;rw[Q0j,h];simp
theorem It {v:V}{i:Nat}{x:Int×V}(h:v.slots[i]? = some x):(WZ v (i+1)).map V.av=(WZ v i).map V.av++[x.2.av]:=by
 unfold WZ;rw[Q0j,h];simp
theorem Mo (v:V):WZ v v.slots.length=inn v:=by
 unfold WZ Wo inn;rw[Q0h,Q0h]
theorem Vu (l:List V):(l.map V.av).all (fun e=>e.cells.length==7)=true:=by
 rw[List.all_map,QYX];intro x _;simp[QE,AV.cells]

def I1 (v:V)(k:Nat)(st:St):Prop :=
 ∃f fr i g,st=⟨f,[fr],[]⟩∧k=v.pairs.length-i∧i≤v.pairs.length∧f 1=.ptr 0 1 0∧f 3=.vec 0 1000 g 0 (Wo v i).length false∧f 12=.list (v.pairs.map V.pav)∧f 13=.int .i64 (v.pairs.length:Nat)∧f 14=.int .i64 (i:Nat)∧fr 1=.cells (vc v)∧fr 1000=.vec g 7 ((Wo v i).map V.av)∧fr 7=.none∧∀s∈[5],(fr s).isRow=false
def I2 (v:V)(k:Nat)(st:St):Prop :=
 ∃f fr i g,st=⟨f,[fr],[]⟩∧k=v.slots.length-i∧i≤v.slots.length∧f 3=.vec 0 1000 g 0 (WZ v i).length false∧f 27=.list (v.slots.map V.sav)∧f 28=.int .i64 (v.slots.length:Nat)∧f 29=.int .i64 (i:Nat)∧fr 1000=.vec g 7 ((WZ v i).map V.av)∧∀s∈[7],(fr s).isRow=false

theorem v61 (v:V)(h:v.list.length+2*v.pairs.length+v.slots.length≤1099511627776):Qi Tryz.prog 61 [v.av] (.list ((inn v).map V.av)):=by
 have cl:=fun fr hr=>QTS (v.list.map V.av) fr [] (Vu _) (by rw[QZ5];omega) hr
 rw[QE];refine k61.fn (by simp) ?_;simp only[eE,seval];refine Qb (cl _ rfl) (by simp only[QZh,QZG,Qa,seval]) ?_;simp only[QZ5,eE,seval];have e0:(Wo v 0).map V.av=v.list.map V.av:=by unfold Wo;simp
 have l0:=Hi v 0 (QYT _);refine Qe (I1 v) _ ⟨_,_,0,_,rfl,rfl,QYT _,rfl,(by rw[l0];exact rfl),rfl,rfl,rfl,rfl,(by rw[e0];exact rfl),rfl,by simp<;>rfl⟩ ?_;rintro _ st ⟨f0,fr0,i,g,rfl,rfl,hil,h10,h30,h120,h130,h140,m10,mR0,n70,r5⟩;refine QH (a:=_) [5] r5 ?_;intro f fr hf hm hn;have h1:f 1=.ptr 0 1 0:=by rw[hf,h10]<;>rfl
 have h3:f 3=.vec 0 1000 g 0 (Wo v i).length false:=by rw[hf,h30]<;>rfl
 have h12:f 12=.list (v.pairs.map V.pav):=by rw[hf,h120]<;>rfl
 have h13:f 13=.int .i64 (v.pairs.length:Nat):=by rw[hf,h130]<;>rfl
 have h14:f 14=.int .i64 (i:Nat):=by rw[hf,h140]<;>rfl
 have m1:fr 1=.cells (vc v):=by rw[hm 1 (by decide),m10]<;>rfl
 have mR:fr 1000=.vec g 7 ((Wo v i).map V.av):=by rw[hm 1000 (by decide),mR0]<;>rfl
 have n7:fr 7=.none:=by rw[hm 7 (by decide),n70]<;>rfl
 have n5:=hn 5 (by decide);clear hf hm hn h10 h30 h120 h130 h140 m10 mR0 n70 r5 e0 l0;have m1':=m1;simp only[vc]at m1;simp only[h13,h14,Qa,seval];by_cases hlt:i<v.pairs.length
 ·obtain⟨x,hi⟩:∃x,v.pairs[i]? = some x:=⟨v.pairs[i],QYN hlt⟩;have hg:=Yo hi;have e1:=Ql i _ hlt (by simp only[maxLen];omega);have le:=Hi v i hil;have ln:=Hi v (i+1) hlt;simp only[Qw hlt,Qj,QZ8,Qd,hg,n5,h3,h12,h14,eE,seval];refine Xn (l:=[x.1.av,x.2.av]) rfl rfl rfl (by rw[QE,QE];rfl) ?_;refine QJ (site:=1000) (g:=g) (n:=(Wo v i).length) (xs:=(Wo v i).map V.av) (ys:=[x.1.av,x.2.av]) rfl mR rfl (by rw[QZ5]) rfl (Vu [x.1,x.2]) (by simp only[QYZ,QZR,maxLen];omega) (by simp only[QYZ,QZR];omega) ?_;simp only[h14,e1,Qa,seval];exact⟨v.pairs.length-(i+1),by omega,_,_,i+1,g+1,rfl,rfl,by omega,h1,(by rw[ln];simp only[le,Qa,seval];rfl),h12,h13,rfl,m1',(by rw[Is hi];exact rfl),n7,by simp<;>rfl⟩
 have e:i=v.pairs.length:=by omega
 subst e;simp only[Qy hlt,h1,m1,QZ5,eE,seval];have e0:WZ v 0=Wo v v.pairs.length:=by unfold WZ;simp
 refine Qe (I2 v) _ ⟨_,_,0,g,rfl,rfl,QYT _,(by rw[e0];exact h3),rfl,rfl,rfl,(by rw[e0];exact mR),by simp only[QZ0,Q0Q,or_false,forall_eq,n7]<;>rfl⟩ ?_;clear h1 h3 h12 h13 h14 m1 m1' mR n5 n7 hil hlt e0 g;rintro _ st ⟨f0,fr0,i,g,rfl,rfl,hil,h30,h270,h280,h290,mR0,r7⟩;refine QH (a:=_) [7] r7 ?_;intro f fr hf hm hn;have h3:f 3=.vec 0 1000 g 0 (WZ v i).length false:=by rw[hf,h30]<;>rfl
 have h27:f 27=.list (v.slots.map V.sav):=by rw[hf,h270]<;>rfl
 have h28:f 28=.int .i64 (v.slots.length:Nat):=by rw[hf,h280]<;>rfl
 have h29:f 29=.int .i64 (i:Nat):=by rw[hf,h290]<;>rfl
 have mR:fr 1000=.vec g 7 ((WZ v i).map V.av):=by rw[hm 1000 (by decide),mR0]<;>rfl
 have n7:=hn 7 (by decide);clear hf hm hn h30 h270 h280 h290 mR0 r7;simp only[h28,h29,Qa,seval];by_cases hlt:i<v.slots.length
 ·obtain⟨x,hi⟩:∃x,v.slots[i]? = some x:=⟨v.slots[i],QYN hlt⟩;have hg:=WY hi;have e1:=Ql i _ hlt (by simp only[maxLen];omega);have le:=Fv v i hil;have ln:=Fv v (i+1) hlt;simp only[Qw hlt,Qj,QZ8,Qd,hg,n7,h3,h27,h29,eE,seval];refine Xn (l:=[x.2.av]) rfl rfl rfl (by rw[QE];rfl) ?_;refine QJ (site:=1000) (g:=g) (n:=(WZ v i).length) (xs:=(WZ v i).map V.av) (ys:=[x.2.av]) rfl mR rfl (by rw[QZ5]) rfl (Vu [x.2]) (by simp only[QYZ,QZR,maxLen];omega) (by simp only[QYZ,QZR];omega) ?_;simp only[h29,e1,Qa,seval];exact⟨v.slots.length-(i+1),by omega,_,_,i+1,g+1,rfl,rfl,by omega,(by rw[ln];simp only[le,Qa,seval];rfl),h27,h28,rfl,(by rw[It hi];exact rfl),by simp<;>rfl⟩
 have e:i=v.slots.length:=by omega
 subst e;rw[Mo]at h3 mR;simp only[Qy hlt,h3,eE,seval];simp[AV.un,Jz,Zs,mR];rw[QZj (by rw[QZ5];exact QYK _)]

def VcI (v:V)(k:Nat)(st:St):Prop :=
 ∃f fr i,st=⟨f,[fr],[]⟩∧k=(inn v).length-i∧i≤(inn v).length∧f 3=.int .i64 (IntKind.i64.wrap ((1+v.raws.length+Xy ((inn v).take i):Nat):Int))∧f 11=.list ((inn v).map V.av)∧f 12=.int .i64 ((inn v).length:Nat)∧f 13=.int .i64 (i:Nat)∧∀s∈[5],(fr s).isRow=false

theorem Qf8 {v x:V}(h:x∈inn v):x∈v.list∨(∃p∈v.pairs,x=p.1∨x=p.2)∨∃s∈v.slots,x=s.2:=by
 unfold inn at h;simp only[QZX,List.mem_flatMap,QZ0,Q0Q,or_false,QZ1]at h;rcases h with(h|⟨p,hp,h⟩)|⟨s,hs,rfl⟩
 ·exact .inl h
 ·exact .inr (.inl ⟨p,hp,h⟩)
 ·exact .inr (.inr ⟨s,hs,rfl⟩)

theorem v24 (v:V)(hv:Thin v):Qi Tryz.prog 24 [v.av] (.int .i64 (IntKind.i64.wrap (v.cnt:Int))):=by
 revert hv
 refine V.ind (P:=fun v=>Thin v→Qi Tryz.prog 24 [v.av] (.int .i64 (IntKind.i64.wrap (v.cnt:Int)))) ?_ v;clear v;intro v hl hp hs hv;obtain⟨n,t1,t2,t3,t4⟩:=hv;have hall:∀x∈inn v,Qi Tryz.prog 24 [x.av] (.int .i64 (IntKind.i64.wrap (x.cnt:Int))):=by
  intro x hx;rcases Qf8 hx with h|⟨p,h,rfl|rfl⟩|⟨s,h,rfl⟩
  ·exact hl x h (t1 x h)
  ·exact(hp p h).1 (t2 p h)
  ·exact(hp p h).2 (t3 p h)
  ·exact hs s h (t4 s h)
 have hin:(inn v).length≤maxLen:=by
  rw[←Mo,Fv v _ (QYK _)];simp only[maxLen];omega
 have c0:=v61 v n;rw[QE]at c0;rw[QE];refine k24.fn (by simp) ?_;simp only[QZ5,eE,seval];refine aC c0 ?_;simp only[QZ5,Qa,seval];refine Qe (VcI v) _ ⟨_,_,0,rfl,rfl,QYT _,(by simp only[QZO,Xy,QZg,Int.natCast_add,Int.natCast_one,Qa,seval]),rfl,rfl,rfl,by simp<;>rfl⟩ ?_;rintro _ st ⟨f0,fr0,i,rfl,rfl,hil,h30,h110,h120,h130,r5⟩;refine QH (a:=_) [5] r5 ?_;intro f fr hf hm hn;have h3:f 3=.int .i64 (IntKind.i64.wrap ((1+v.raws.length+Xy ((inn v).take i):Nat):Int)):=by rw[hf,h30]<;>rfl
 have h11:f 11=.list ((inn v).map V.av):=by rw[hf,h110]<;>rfl
 have h12:f 12=.int .i64 ((inn v).length:Nat):=by rw[hf,h120]<;>rfl
 have h13:f 13=.int .i64 (i:Nat):=by rw[hf,h130]<;>rfl
 have n5:=hn 5 (by decide);clear hf hm hn h30 h110 h120 h130 r5;simp only[h12,h13,Qa,seval];by_cases hlt:i<(inn v).length
 ·obtain⟨x,hi⟩:∃x,(inn v)[i]? = some x:=⟨(inn v)[i],QYN hlt⟩;have hg:=H5 hi;have e1:=Ql i _ hlt hin;have c1:=hall x (QYY hi);rw[QE]at c1;simp only[Qw hlt,Qj,QZ8,Qd,hg,n5,h3,h11,h13,eE,seval];refine aC c1 ?_;simp only[h13,e1,Dk,Qa,seval];exact⟨(inn v).length-(i+1),by omega,_,_,i+1,rfl,rfl,by omega,(by rw[FY hi];simp only[h3,←Int.natCast_add,QYJ,Qa,seval]),h11,h12,rfl,by simp<;>rfl⟩
 have e:i=(inn v).length:=by omega
 subst e;rw[Q0h,←Qf7]at h3;simp only[Qy hlt,h3,Qa,seval]

open So

section
variable {M:Nat}(S:SC)(hsk:Sok S)(hlm:SLm S)(hun:∀m∈S.msgs,∀u,Qi Tryz.prog 110 [QM m,.str u] (.list ((UR m u).map QL)))
include hsk hlm hun

omit hsk hun in
theorem QDP (m:SM){v:V}(hv:v.ok M):Qi Tryz.prog 23 [S.av,QM m,v.av,.int .i64 17] (.int .i64 (XF (Qp S) 0 (QO S m) v)):=by
 have cO:=Fu hv;have hm0:XF (Qp S) 0 (QO S m) v=if (v.kd != 10||v.oth)=true then 12 else 17:=rfl
 rw[hm0];simp only[QE]at cO;refine k23.fn (by simp) ?_;simp only[SC.av,QM,Xe m,QE,eE,seval];cases hk:(v.kd != 10)
 case true=>simp only[Q0r,Qa,seval]
 simp only[Q0s,eE,seval];refine aC cO ?_;cases ho:v.oth
 case true=>simp only[Qa,seval]
 have d:decide ((17:Int) > 16)=true:=rfl;simp only[QY3,Qa,seval]

theorem QaP:∀(k lv:Nat),lv+k=17→∀m∈S.msgs,∀v:V,v.ok M→Qi Tryz.prog 23 [S.av,QM m,v.av,.int .i64 (lv:Nat)] (.int .i64 (XF (Qp S) k (QO S m) v))
 |0,lv,h,m,_,v,hv=>by
  have:lv=17:=by omega
  subst this;exact QDP S hlm m hv
 |k+1,lv,h,m,hmm,v,hv=>by
  have hms:∀n∈S.msgs,∀v:V,v.ok M→Qi Tryz.prog 23 [S.av,QM n,v.av,.int .i64 ((lv+1:Nat):Int)] (.int .i64 (XF (Qp S) k (QO S n) v)):=fun n hn v hv=>QaP k (lv+1) (by omega) n hn v hv
  have hls:v.slots.length≤maxLen:=by have:=hv.ns;simp only[maxLen];omega
  exact s23 S m hsk hlm hmm (by omega) hv (fun i x hx hkn=>s57 S m hsk hlm hmm (by omega) hms (hun m hmm) v.slots hls hv.slots i x hx hkn)

def Ub (S:SC)(n:List UInt8)(v:V):Int:=match S.msgs.find? (fun x=>x.name==n)with
 |none=>10
 |some m=>if XF (Qp S) 16 (QO S m) v=0 then(if IntKind.i64.wrap (v.cnt:Int) > 4096 then 3 else 0)else XF (Qp S) 16 (QO S m) v

theorem s9 (n:List UInt8){v:V}(hv:v.ok M):Qi Tryz.prog 9 [S.av,.str n,v.av] (.int .i64 (Ub S n v)):=by
 have cd:=s22 S hlm.ms n;have cc:=fun ht=>v24 v ht
 have cm:=fun m hm=>QaP S hsk hlm hun 16 1 rfl m hm v hv
 unfold Ub;obtain⟨x0,hx0⟩:∃y,(S.msgs.find? fun x=>x.name==n).getD Me=y:=⟨_,rfl⟩;rw[hx0,QM,Xe x0]at cd;simp only[SC.av,QE]at cd cc cm;refine k9.fn (by simp) ?_;simp only[SC.av,QE,eE,seval];refine aC cd ?_;cases hfd:S.msgs.find? (fun x=>x.name==n)with
 |none=>simp only[QZy,QZT,QZN,cond_true,cond_false,eE,seval]
 |some m=>
  have c1:=cm m (Q0B hfd);rw[hfd,QZQ]at hx0;subst hx0;rw[QM,Xe m]at c1;simp only[Q0v,QZT,Q0q,cond_true,cond_false,eE,seval];refine aC c1 ?_;by_cases hy:XF (Qp S) 16 (QO S m) v=0
  ·have d0:((0:Int) != 0)=false:=rfl;rw[QYS hy];simp only[hy,d0,eE,seval];refine aC (cc (Ve 16 _ v hv hy)) ?_;by_cases hc:IntKind.i64.wrap (v.cnt:Int) > 4096
   ·rw[QYS hc];simp only[Q0D hc,Qa,seval]
   ·rw[QYR hc];simp only[Q0u hc,Qa,seval]
  ·have d:(XF (Qp S) 16 (QO S m) v != 0)=true:=by simp[hy]
   rw[QYR hy];simp only[d,Qa,seval]
end

end Go.Proofs.YtafhmlkilcmniaaGreatDoor.Va

set_option linter.unusedVariables false
namespace Go.Proofs.YtafhmlkilcmniaaGreatDoor.Tg
open Go Am

def QaQ (z sr ro sm is st:Nat):List Am.Item:=[
  ⟨(some 10),.val (.mov (.c (.int .i64 0))),none⟩]
def QaR (z sr ro sm is st:Nat):List Am.Item:=[
  ⟨(some 11),.val (.mov (.t 10)),none⟩,
  ⟨(some 12),.val (.mov (.t 3)),none⟩,
  ⟨(some 13),.val (.bin .num .lss (.t 11) (.t 12)),none⟩]
def QaS (z sr ro sm is st:Nat):List Am.Item:=[
  ⟨(some 16),.val (.mov (.t 0)),none⟩,
  ⟨(some 17),.val (.mov (.t 1)),none⟩,
  ⟨(some 18),.val (.mov (.t 10)),none⟩,
  ⟨(some 19),.val (.bin .num .add (.t 17) (.t 18)),none⟩,
  ⟨(some 20),.val (.mov (.t 0)),none⟩,
  ⟨(some 21),.val (.mov (.t 2)),none⟩,
  ⟨(some 22),.val (.mov (.t 10)),none⟩,
  ⟨(some 23),.val (.bin .num .add (.t 21) (.t 22)),none⟩,
  ⟨(some 24),.val (.mov (.t 0)),none⟩,
  ⟨(some 25),.val (.mov (.t 2)),none⟩,
  ⟨(some 26),.val (.mov (.t 10)),none⟩,
  ⟨(some 27),.val (.bin .num .add (.t 25) (.t 26)),none⟩,
  ⟨(some 28),.val (.iaddr z none (.t 24) (.t 27)),none⟩,
  ⟨(some 29),.val (.loadr (some z) (.t 28)),none⟩,
  ⟨(some 30),.val (.mov (.t 0)),none⟩,
  ⟨(some 31),.val (.mov (.t 1)),none⟩,
  ⟨(some 32),.val (.mov (.t 10)),none⟩,
  ⟨(some 33),.val (.bin .num .add (.t 31) (.t 32)),none⟩,
  ⟨(some 34),.val (.iaddr z none (.t 30) (.t 33)),none⟩,
  ⟨(some 35),.val (.loadr (some z) (.t 34)),none⟩,
  ⟨(some 36),.val (.iaddr z none (.t 16) (.t 19)),none⟩,
  ⟨none,.store z (.t 36) (.t 29),none⟩,
  ⟨(some 37),.val (.iaddr z none (.t 20) (.t 23)),none⟩,
  ⟨none,.store z (.t 37) (.t 35),none⟩]
def QaT (z sr ro sm is st:Nat):List Am.Item:=[
  ⟨(some 14),.val (.mov (.t 10)),none⟩,
  ⟨(some 15),.val (.bin .num .add (.t 14) (.c (.int .i64 1))),none⟩,
  ⟨(some 10),.val (.mov (.t 15)),none⟩]
def QaU (z sr ro sm is st:Nat):RC:=.seq (.seq (.reg (QaR z sr ro sm is st)) (.cond (.t 13) (.skip) (.exit 0))) (.seq (.block 1 (.draw (QaS z sr ro sm is st))) (.reg (QaT z sr ro sm is st)))
def rsr (z sr ro sm is st:Nat):RC:=.seq (.reg (QaQ z sr ro sm is st)) (.block 0 (.loop (QaU z sr ro sm is st)))
def osr:List RR:=[]

def QaV (z sr ro sm is st:Nat):List Am.Item:=[
  ⟨(some 12),.val (.mov (.t 2)),none⟩,
  ⟨(some 13),.val (.mov (.t 1)),none⟩,
  ⟨(some 14),.val (.bin .num .sub (.t 12) (.t 13)),none⟩,
  ⟨(some 10),.val (.mov (.t 14)),none⟩]
def QaW (z sr ro sm is st:Nat):List Am.Item:=[
  ⟨(some 15),.val (.mov (.t 3)),none⟩,
  ⟨(some 16),.val (.mov (.t 2)),none⟩,
  ⟨(some 17),.val (.bin .num .sub (.t 15) (.t 16)),none⟩,
  ⟨(some 11),.val (.mov (.t 17)),none⟩]
def QaX (z sr ro sm is st:Nat):List Am.Item:=[
  ⟨(some 18),.val (.mov (.t 10)),none⟩,
  ⟨(some 19),.val (.mov (.t 11)),none⟩,
  ⟨(some 20),.val (.bin .num .neq (.t 18) (.t 19)),none⟩]
def QaY (z sr ro sm is st:Nat):List Am.Item:=[
  ⟨(some 21),.val (.mov (.t 10)),none⟩,
  ⟨(some 22),.val (.mov (.t 11)),none⟩,
  ⟨(some 23),.val (.bin .num .gtr (.t 21) (.t 22)),none⟩]
def QaZ (z sr ro sm is st:Nat):List Am.Item:=[
  ⟨(some 24),.val (.mov (.t 0)),none⟩,
  ⟨(some 25),.val (.mov (.t 2)),none⟩,
  ⟨(some 26),.val (.mov (.t 10)),none⟩,
  ⟨(some 27),.val (.bin .num .sub (.t 25) (.t 26)),none⟩,
  ⟨(some 28),.val (.mov (.t 2)),none⟩,
  ⟨(some 29),.val (.mov (.t 11)),none⟩,
  ⟨(some 30),.val (.mov (.t 4)),none⟩,
  ⟨(some 31),.callF (.f sr) [(.t 24),(.t 27),(.t 28),(.t 29),(.t 30)],none⟩]
def Qa0 (z sr ro sm is st:Nat):List Am.Item:=[
  ⟨(some 32),.val (.mov (.t 10)),none⟩,
  ⟨(some 33),.val (.mov (.t 11)),none⟩,
  ⟨(some 34),.val (.bin .num .sub (.t 32) (.t 33)),none⟩,
  ⟨(some 10),.val (.mov (.t 34)),none⟩]
def Qa1 (z sr ro sm is st:Nat):List Am.Item:=[
  ⟨(some 35),.val (.mov (.t 0)),none⟩,
  ⟨(some 36),.val (.mov (.t 2)),none⟩,
  ⟨(some 37),.val (.mov (.t 10)),none⟩,
  ⟨(some 38),.val (.bin .num .sub (.t 36) (.t 37)),none⟩,
  ⟨(some 39),.val (.mov (.t 2)),none⟩,
  ⟨(some 40),.val (.mov (.t 11)),none⟩,
  ⟨(some 41),.val (.bin .num .add (.t 39) (.t 40)),none⟩,
  ⟨(some 42),.val (.mov (.t 10)),none⟩,
  ⟨(some 43),.val (.bin .num .sub (.t 41) (.t 42)),none⟩,
  ⟨(some 44),.val (.mov (.t 10)),none⟩,
  ⟨(some 45),.val (.mov (.t 4)),none⟩,
  ⟨(some 46),.callF (.f sr) [(.t 35),(.t 38),(.t 43),(.t 44),(.t 45)],none⟩]
def Qa2 (z sr ro sm is st:Nat):List Am.Item:=[
  ⟨(some 47),.val (.mov (.t 11)),none⟩,
  ⟨(some 48),.val (.mov (.t 10)),none⟩,
  ⟨(some 49),.val (.bin .num .sub (.t 47) (.t 48)),none⟩,
  ⟨(some 11),.val (.mov (.t 49)),none⟩]
def Qa3 (z sr ro sm is st:Nat):RC:=.seq (.seq (.reg (QaX z sr ro sm is st)) (.cond (.t 20) (.skip) (.exit 0))) (.block 1 (.seq (.reg (QaY z sr ro sm is st)) (.cond (.t 23) (.seq (.reg (QaZ z sr ro sm is st)) (.reg (Qa0 z sr ro sm is st))) (.seq (.reg (Qa1 z sr ro sm is st)) (.reg (Qa2 z sr ro sm is st))))))
def Qa4 (z sr ro sm is st:Nat):List Am.Item:=[
  ⟨(some 50),.val (.mov (.t 0)),none⟩,
  ⟨(some 51),.val (.mov (.t 2)),none⟩,
  ⟨(some 52),.val (.mov (.t 10)),none⟩,
  ⟨(some 53),.val (.bin .num .sub (.t 51) (.t 52)),none⟩,
  ⟨(some 54),.val (.mov (.t 2)),none⟩,
  ⟨(some 55),.val (.mov (.t 10)),none⟩,
  ⟨(some 56),.val (.mov (.t 4)),none⟩,
  ⟨(some 57),.callF (.f sr) [(.t 50),(.t 53),(.t 54),(.t 55),(.t 56)],none⟩]
def rro (z sr ro sm is st:Nat):RC:=.seq (.reg (QaV z sr ro sm is st)) (.seq (.reg (QaW z sr ro sm is st)) (.seq (.block 0 (.loop (Qa3 z sr ro sm is st))) (.reg (Qa4 z sr ro sm is st))))
def oro:List RR:=[]

def Bu (z sr ro sm is st:Nat):List Am.Item:=[
  ⟨(some 25),.val (.mov (.t 2)),none⟩,
  ⟨(some 26),.val (.mov (.t 1)),none⟩,
  ⟨(some 27),.val (.bin .num .sub (.t 25) (.t 26)),none⟩,
  ⟨(some 28),.val (.bin .num .eql (.t 27) (.c (.int .i64 1))),none⟩]
def PK (z sr ro sm is st:Nat):List Am.Item:=[
  ⟨(some 29),.val (.mov (.t 2)),none⟩,
  ⟨(some 10),.val (.mov (.t 29)),none⟩]
def PM (z sr ro sm is st:Nat):List Am.Item:=[
  ⟨(some 30),.val (.mov (.t 3)),none⟩,
  ⟨(some 11),.val (.mov (.t 30)),none⟩]
def Qa5 (z sr ro sm is st:Nat):List Am.Item:=[
  ⟨(some 31),.val (.mov (.t 10)),none⟩,
  ⟨(some 32),.val (.mov (.t 11)),none⟩,
  ⟨(some 33),.val (.bin .num .lss (.t 31) (.t 32)),none⟩]
def Qa6 (z sr ro sm is st:Nat):List Am.Item:=[
  ⟨(some 34),.val (.mov (.t 10)),none⟩,
  ⟨(some 35),.val (.mov (.t 11)),none⟩,
  ⟨(some 36),.val (.bin .num .add (.t 34) (.t 35)),none⟩,
  ⟨(some 37),.val (.cvi .u64 (.t 36)),none⟩,
  ⟨(some 38),.val (.bin .num .shr (.t 37) (.c (.int .u64 1))),none⟩,
  ⟨(some 39),.val (.cvi .i64 (.t 38)),none⟩,
  ⟨(some 12),.val (.mov (.t 39)),none⟩]
def Qa7 (z sr ro sm is st:Nat):List Am.Item:=[
  ⟨(some 40),.val (.mov (.t 4)),none⟩,
  ⟨(some 41),.val (.mov (.t 0)),none⟩,
  ⟨(some 42),.val (.mov (.t 12)),none⟩,
  ⟨(some 43),.val (.iaddr z none (.t 41) (.t 42)),none⟩,
  ⟨(some 44),.val (.loadr (some z) (.t 43)),none⟩,
  ⟨(some 45),.val (.mov (.t 0)),none⟩,
  ⟨(some 46),.val (.mov (.t 1)),none⟩,
  ⟨(some 47),.val (.iaddr z none (.t 45) (.t 46)),none⟩,
  ⟨(some 48),.val (.loadr (some z) (.t 47)),none⟩,
  ⟨(some 49),.call (.t 40) [(.t 44),(.t 48)],none⟩,
  ⟨(some 50),.val (.bin .num .lss (.t 49) (.c (.int .i64 0))),none⟩]
def Qa8 (z sr ro sm is st:Nat):List Am.Item:=[
  ⟨(some 51),.val (.mov (.t 12)),none⟩,
  ⟨(some 52),.val (.bin .num .add (.t 51) (.c (.int .i64 1))),none⟩,
  ⟨(some 10),.val (.mov (.t 52)),none⟩]
def Qa9 (z sr ro sm is st:Nat):List Am.Item:=[
  ⟨(some 53),.val (.mov (.t 12)),none⟩,
  ⟨(some 11),.val (.mov (.t 53)),none⟩]
def Qba (z sr ro sm is st:Nat):RC:=.seq (.seq (.reg (Qa5 z sr ro sm is st)) (.cond (.t 33) (.skip) (.exit 0))) (.block 1 (.seq (.reg (Qa6 z sr ro sm is st)) (.seq (.draw (Qa7 z sr ro sm is st)) (.cond (.t 50) (.reg (Qa8 z sr ro sm is st)) (.reg (Qa9 z sr ro sm is st))))))
def PP (z sr ro sm is st:Nat):List Am.Item:=[
  ⟨(some 54),.val (.mov (.t 1)),none⟩,
  ⟨(some 13),.val (.mov (.t 54)),none⟩]
def Qbb (z sr ro sm is st:Nat):List Am.Item:=[
  ⟨(some 55),.val (.mov (.t 13)),none⟩,
  ⟨(some 56),.val (.mov (.t 10)),none⟩,
  ⟨(some 57),.val (.bin .num .sub (.t 56) (.c (.int .i64 1))),none⟩,
  ⟨(some 58),.val (.bin .num .lss (.t 55) (.t 57)),none⟩]
def Az (z sr ro sm is st:Nat):List Am.Item:=[
  ⟨(some 61),.val (.mov (.t 0)),none⟩,
  ⟨(some 62),.val (.mov (.t 13)),none⟩,
  ⟨(some 63),.val (.mov (.t 0)),none⟩,
  ⟨(some 64),.val (.mov (.t 13)),none⟩,
  ⟨(some 65),.val (.bin .num .add (.t 64) (.c (.int .i64 1))),none⟩,
  ⟨(some 66),.val (.mov (.t 0)),none⟩,
  ⟨(some 67),.val (.mov (.t 13)),none⟩,
  ⟨(some 68),.val (.bin .num .add (.t 67) (.c (.int .i64 1))),none⟩,
  ⟨(some 69),.val (.iaddr z none (.t 66) (.t 68)),none⟩,
  ⟨(some 70),.val (.loadr (some z) (.t 69)),none⟩,
  ⟨(some 71),.val (.mov (.t 0)),none⟩,
  ⟨(some 72),.val (.mov (.t 13)),none⟩,
  ⟨(some 73),.val (.iaddr z none (.t 71) (.t 72)),none⟩,
  ⟨(some 74),.val (.loadr (some z) (.t 73)),none⟩,
  ⟨(some 75),.val (.iaddr z none (.t 61) (.t 62)),none⟩,
  ⟨none,.store z (.t 75) (.t 70),none⟩,
  ⟨(some 76),.val (.iaddr z none (.t 63) (.t 65)),none⟩,
  ⟨none,.store z (.t 76) (.t 74),none⟩]
def AA (z sr ro sm is st:Nat):List Am.Item:=[
  ⟨(some 59),.val (.mov (.t 13)),none⟩,
  ⟨(some 60),.val (.bin .num .add (.t 59) (.c (.int .i64 1))),none⟩,
  ⟨(some 13),.val (.mov (.t 60)),none⟩]
def Qbc (z sr ro sm is st:Nat):RC:=.seq (.seq (.reg (Qbb z sr ro sm is st)) (.cond (.t 58) (.skip) (.exit 2))) (.seq (.block 3 (.draw (Az z sr ro sm is st))) (.reg (AA z sr ro sm is st)))
def Dl (z sr ro sm is st:Nat):List Am.Item:=[
  ⟨(some 77),.val (.mov (.t 3)),none⟩,
  ⟨(some 78),.val (.mov (.t 2)),none⟩,
  ⟨(some 79),.val (.bin .num .sub (.t 77) (.t 78)),none⟩,
  ⟨(some 80),.val (.bin .num .eql (.t 79) (.c (.int .i64 1))),none⟩]
def Vv (z sr ro sm is st:Nat):List Am.Item:=[
  ⟨(some 81),.val (.mov (.t 1)),none⟩,
  ⟨(some 14),.val (.mov (.t 81)),none⟩]
def Vw (z sr ro sm is st:Nat):List Am.Item:=[
  ⟨(some 82),.val (.mov (.t 2)),none⟩,
  ⟨(some 15),.val (.mov (.t 82)),none⟩]
def Vx (z sr ro sm is st:Nat):List Am.Item:=[
  ⟨(some 83),.val (.mov (.t 14)),none⟩,
  ⟨(some 84),.val (.mov (.t 15)),none⟩,
  ⟨(some 85),.val (.bin .num .lss (.t 83) (.t 84)),none⟩]
def Vy (z sr ro sm is st:Nat):List Am.Item:=[
  ⟨(some 86),.val (.mov (.t 14)),none⟩,
  ⟨(some 87),.val (.mov (.t 15)),none⟩,
  ⟨(some 88),.val (.bin .num .add (.t 86) (.t 87)),none⟩,
  ⟨(some 89),.val (.cvi .u64 (.t 88)),none⟩,
  ⟨(some 90),.val (.bin .num .shr (.t 89) (.c (.int .u64 1))),none⟩,
  ⟨(some 91),.val (.cvi .i64 (.t 90)),none⟩,
  ⟨(some 16),.val (.mov (.t 91)),none⟩]
def Vz (z sr ro sm is st:Nat):List Am.Item:=[
  ⟨(some 92),.val (.mov (.t 4)),none⟩,
  ⟨(some 93),.val (.mov (.t 0)),none⟩,
  ⟨(some 94),.val (.mov (.t 2)),none⟩,
  ⟨(some 95),.val (.iaddr z none (.t 93) (.t 94)),none⟩,
  ⟨(some 96),.val (.loadr (some z) (.t 95)),none⟩,
  ⟨(some 97),.val (.mov (.t 0)),none⟩,
  ⟨(some 98),.val (.mov (.t 16)),none⟩,
  ⟨(some 99),.val (.iaddr z none (.t 97) (.t 98)),none⟩,
  ⟨(some 100),.val (.loadr (some z) (.t 99)),none⟩,
  ⟨(some 101),.call (.t 92) [(.t 96),(.t 100)],none⟩,
  ⟨(some 102),.val (.bin .num .lss (.t 101) (.c (.int .i64 0))),none⟩,
  ⟨(some 103),.val (.un .not (.t 102)),none⟩]
def VA (z sr ro sm is st:Nat):List Am.Item:=[
  ⟨(some 104),.val (.mov (.t 16)),none⟩,
  ⟨(some 105),.val (.bin .num .add (.t 104) (.c (.int .i64 1))),none⟩,
  ⟨(some 14),.val (.mov (.t 105)),none⟩]
def VB (z sr ro sm is st:Nat):List Am.Item:=[
  ⟨(some 106),.val (.mov (.t 16)),none⟩,
  ⟨(some 15),.val (.mov (.t 106)),none⟩]
def PQ (z sr ro sm is st:Nat):RC:=.seq (.seq (.reg (Vx z sr ro sm is st)) (.cond (.t 85) (.skip) (.exit 4))) (.block 5 (.seq (.reg (Vy z sr ro sm is st)) (.seq (.draw (Vz z sr ro sm is st)) (.cond (.t 103) (.reg (VA z sr ro sm is st)) (.reg (VB z sr ro sm is st))))))
def VC (z sr ro sm is st:Nat):List Am.Item:=[
  ⟨(some 107),.val (.mov (.t 2)),none⟩,
  ⟨(some 17),.val (.mov (.t 107)),none⟩]
def VD (z sr ro sm is st:Nat):List Am.Item:=[
  ⟨(some 108),.val (.mov (.t 17)),none⟩,
  ⟨(some 109),.val (.mov (.t 14)),none⟩,
  ⟨(some 110),.val (.bin .num .gtr (.t 108) (.t 109)),none⟩]
def VE (z sr ro sm is st:Nat):List Am.Item:=[
  ⟨(some 113),.val (.mov (.t 0)),none⟩,
  ⟨(some 114),.val (.mov (.t 17)),none⟩,
  ⟨(some 115),.val (.mov (.t 0)),none⟩,
  ⟨(some 116),.val (.mov (.t 17)),none⟩,
  ⟨(some 117),.val (.bin .num .sub (.t 116) (.c (.int .i64 1))),none⟩,
  ⟨(some 118),.val (.mov (.t 0)),none⟩,
  ⟨(some 119),.val (.mov (.t 17)),none⟩,
  ⟨(some 120),.val (.bin .num .sub (.t 119) (.c (.int .i64 1))),none⟩,
  ⟨(some 121),.val (.iaddr z none (.t 118) (.t 120)),none⟩,
  ⟨(some 122),.val (.loadr (some z) (.t 121)),none⟩,
  ⟨(some 123),.val (.mov (.t 0)),none⟩,
  ⟨(some 124),.val (.mov (.t 17)),none⟩,
  ⟨(some 125),.val (.iaddr z none (.t 123) (.t 124)),none⟩,
  ⟨(some 126),.val (.loadr (some z) (.t 125)),none⟩,
  ⟨(some 127),.val (.iaddr z none (.t 113) (.t 114)),none⟩,
  ⟨none,.store z (.t 127) (.t 122),none⟩,
  ⟨(some 128),.val (.iaddr z none (.t 115) (.t 117)),none⟩,
  ⟨none,.store z (.t 128) (.t 126),none⟩]
def VF (z sr ro sm is st:Nat):List Am.Item:=[
  ⟨(some 111),.val (.mov (.t 17)),none⟩,
  ⟨(some 112),.val (.bin .num .sub (.t 111) (.c (.int .i64 1))),none⟩,
  ⟨(some 17),.val (.mov (.t 112)),none⟩]
def PR (z sr ro sm is st:Nat):RC:=.seq (.seq (.reg (VD z sr ro sm is st)) (.cond (.t 110) (.skip) (.exit 6))) (.seq (.block 7 (.draw (VE z sr ro sm is st))) (.reg (VF z sr ro sm is st)))
def Dm (z sr ro sm is st:Nat):List Am.Item:=[
  ⟨(some 129),.val (.mov (.t 1)),none⟩,
  ⟨(some 130),.val (.mov (.t 3)),none⟩,
  ⟨(some 131),.val (.bin .num .add (.t 129) (.t 130)),none⟩,
  ⟨(some 132),.val (.cvi .u64 (.t 131)),none⟩,
  ⟨(some 133),.val (.bin .num .shr (.t 132) (.c (.int .u64 1))),none⟩,
  ⟨(some 134),.val (.cvi .i64 (.t 133)),none⟩,
  ⟨(some 18),.val (.mov (.t 134)),none⟩]
def Dn (z sr ro sm is st:Nat):List Am.Item:=[
  ⟨(some 135),.val (.mov (.t 18)),none⟩,
  ⟨(some 136),.val (.mov (.t 2)),none⟩,
  ⟨(some 137),.val (.bin .num .add (.t 135) (.t 136)),none⟩,
  ⟨(some 19),.val (.mov (.t 137)),none⟩]
def Dp (z sr ro sm is st:Nat):List Am.Item:=[
  ⟨(some 20),.val (.mov (.c (.int .i64 0))),none⟩,
  ⟨(some 21),.val (.mov (.c (.int .i64 0))),none⟩]
def Dq (z sr ro sm is st:Nat):List Am.Item:=[
  ⟨(some 138),.val (.mov (.t 2)),none⟩,
  ⟨(some 139),.val (.mov (.t 18)),none⟩,
  ⟨(some 140),.val (.bin .num .gtr (.t 138) (.t 139)),none⟩]
def Dr (z sr ro sm is st:Nat):List Am.Item:=[
  ⟨(some 141),.val (.mov (.t 19)),none⟩,
  ⟨(some 142),.val (.mov (.t 3)),none⟩,
  ⟨(some 143),.val (.bin .num .sub (.t 141) (.t 142)),none⟩,
  ⟨(some 20),.val (.mov (.t 143)),none⟩]
def Ds (z sr ro sm is st:Nat):List Am.Item:=[
  ⟨(some 144),.val (.mov (.t 18)),none⟩,
  ⟨(some 21),.val (.mov (.t 144)),none⟩]
def Dt (z sr ro sm is st:Nat):List Am.Item:=[
  ⟨(some 145),.val (.mov (.t 1)),none⟩,
  ⟨(some 20),.val (.mov (.t 145)),none⟩]
def Du (z sr ro sm is st:Nat):List Am.Item:=[
  ⟨(some 146),.val (.mov (.t 2)),none⟩,
  ⟨(some 21),.val (.mov (.t 146)),none⟩]
def Dv (z sr ro sm is st:Nat):List Am.Item:=[
  ⟨(some 147),.val (.mov (.t 19)),none⟩,
  ⟨(some 148),.val (.bin .num .sub (.t 147) (.c (.int .i64 1))),none⟩,
  ⟨(some 22),.val (.mov (.t 148)),none⟩]
def Dw (z sr ro sm is st:Nat):List Am.Item:=[
  ⟨(some 149),.val (.mov (.t 20)),none⟩,
  ⟨(some 150),.val (.mov (.t 21)),none⟩,
  ⟨(some 151),.val (.bin .num .lss (.t 149) (.t 150)),none⟩]
def Dx (z sr ro sm is st:Nat):List Am.Item:=[
  ⟨(some 152),.val (.mov (.t 20)),none⟩,
  ⟨(some 153),.val (.mov (.t 21)),none⟩,
  ⟨(some 154),.val (.bin .num .add (.t 152) (.t 153)),none⟩,
  ⟨(some 155),.val (.cvi .u64 (.t 154)),none⟩,
  ⟨(some 156),.val (.bin .num .shr (.t 155) (.c (.int .u64 1))),none⟩,
  ⟨(some 157),.val (.cvi .i64 (.t 156)),none⟩,
  ⟨(some 23),.val (.mov (.t 157)),none⟩]
def Dy (z sr ro sm is st:Nat):List Am.Item:=[
  ⟨(some 158),.val (.mov (.t 4)),none⟩,
  ⟨(some 159),.val (.mov (.t 0)),none⟩,
  ⟨(some 160),.val (.mov (.t 22)),none⟩,
  ⟨(some 161),.val (.mov (.t 23)),none⟩,
  ⟨(some 162),.val (.bin .num .sub (.t 160) (.t 161)),none⟩,
  ⟨(some 163),.val (.iaddr z none (.t 159) (.t 162)),none⟩,
  ⟨(some 164),.val (.loadr (some z) (.t 163)),none⟩,
  ⟨(some 165),.val (.mov (.t 0)),none⟩,
  ⟨(some 166),.val (.mov (.t 23)),none⟩,
  ⟨(some 167),.val (.iaddr z none (.t 165) (.t 166)),none⟩,
  ⟨(some 168),.val (.loadr (some z) (.t 167)),none⟩,
  ⟨(some 169),.call (.t 158) [(.t 164),(.t 168)],none⟩,
  ⟨(some 170),.val (.bin .num .lss (.t 169) (.c (.int .i64 0))),none⟩,
  ⟨(some 171),.val (.un .not (.t 170)),none⟩]
def Dz (z sr ro sm is st:Nat):List Am.Item:=[
  ⟨(some 172),.val (.mov (.t 23)),none⟩,
  ⟨(some 173),.val (.bin .num .add (.t 172) (.c (.int .i64 1))),none⟩,
  ⟨(some 20),.val (.mov (.t 173)),none⟩]
def DA (z sr ro sm is st:Nat):List Am.Item:=[
  ⟨(some 174),.val (.mov (.t 23)),none⟩,
  ⟨(some 21),.val (.mov (.t 174)),none⟩]
def DB (z sr ro sm is st:Nat):RC:=.seq (.seq (.reg (Dw z sr ro sm is st)) (.cond (.t 151) (.skip) (.exit 8))) (.block 9 (.seq (.reg (Dx z sr ro sm is st)) (.seq (.draw (Dy z sr ro sm is st)) (.cond (.t 171) (.reg (Dz z sr ro sm is st)) (.reg (DA z sr ro sm is st))))))
def YJ (z sr ro sm is st:Nat):List Am.Item:=[
  ⟨(some 175),.val (.mov (.t 19)),none⟩,
  ⟨(some 176),.val (.mov (.t 20)),none⟩,
  ⟨(some 177),.val (.bin .num .sub (.t 175) (.t 176)),none⟩,
  ⟨(some 24),.val (.mov (.t 177)),none⟩]
def YK (z sr ro sm is st:Nat):List Am.Item:=[
  ⟨(some 178),.val (.mov (.t 20)),none⟩,
  ⟨(some 179),.val (.mov (.t 2)),none⟩,
  ⟨(some 180),.val (.bin .num .lss (.t 178) (.t 179)),none⟩,
  ⟨(some 181),.val (.mov (.t 180)),none⟩,
  ⟨(some 182),.val (.mov (.t 2)),(some (181,true))⟩,
  ⟨(some 183),.val (.mov (.t 24)),(some (181,true))⟩,
  ⟨(some 184),.val (.bin .num .lss (.t 182) (.t 183)),(some (181,true))⟩,
  ⟨(some 185),.val (.pick (.t 181) (.t 184) (.c (.bool false))),none⟩]
def YL (z sr ro sm is st:Nat):List Am.Item:=[
  ⟨(some 186),.val (.mov (.t 0)),none⟩,
  ⟨(some 187),.val (.mov (.t 20)),none⟩,
  ⟨(some 188),.val (.mov (.t 2)),none⟩,
  ⟨(some 189),.val (.mov (.t 24)),none⟩,
  ⟨(some 190),.val (.mov (.t 4)),none⟩,
  ⟨(some 191),.callF (.f ro) [(.t 186),(.t 187),(.t 188),(.t 189),(.t 190)],none⟩]
def W0 (z sr ro sm is st:Nat):List Am.Item:=[
  ⟨(some 192),.val (.mov (.t 1)),none⟩,
  ⟨(some 193),.val (.mov (.t 20)),none⟩,
  ⟨(some 194),.val (.bin .num .lss (.t 192) (.t 193)),none⟩,
  ⟨(some 195),.val (.mov (.t 194)),none⟩,
  ⟨(some 196),.val (.mov (.t 20)),(some (195,true))⟩,
  ⟨(some 197),.val (.mov (.t 18)),(some (195,true))⟩,
  ⟨(some 198),.val (.bin .num .lss (.t 196) (.t 197)),(some (195,true))⟩,
  ⟨(some 199),.val (.pick (.t 195) (.t 198) (.c (.bool false))),none⟩]
def W2 (z sr ro sm is st:Nat):List Am.Item:=[
  ⟨(some 200),.val (.mov (.t 0)),none⟩,
  ⟨(some 201),.val (.mov (.t 1)),none⟩,
  ⟨(some 202),.val (.mov (.t 20)),none⟩,
  ⟨(some 203),.val (.mov (.t 18)),none⟩,
  ⟨(some 204),.val (.mov (.t 4)),none⟩,
  ⟨(some 205),.callF (.f sm) [(.t 200),(.t 201),(.t 202),(.t 203),(.t 204)],none⟩]
def KH (z sr ro sm is st:Nat):List Am.Item:=[
  ⟨(some 206),.val (.mov (.t 18)),none⟩,
  ⟨(some 207),.val (.mov (.t 24)),none⟩,
  ⟨(some 208),.val (.bin .num .lss (.t 206) (.t 207)),none⟩,
  ⟨(some 209),.val (.mov (.t 208)),none⟩,
  ⟨(some 210),.val (.mov (.t 24)),(some (209,true))⟩,
  ⟨(some 211),.val (.mov (.t 3)),(some (209,true))⟩,
  ⟨(some 212),.val (.bin .num .lss (.t 210) (.t 211)),(some (209,true))⟩,
  ⟨(some 213),.val (.pick (.t 209) (.t 212) (.c (.bool false))),none⟩]
def KI (z sr ro sm is st:Nat):List Am.Item:=[
  ⟨(some 214),.val (.mov (.t 0)),none⟩,
  ⟨(some 215),.val (.mov (.t 18)),none⟩,
  ⟨(some 216),.val (.mov (.t 24)),none⟩,
  ⟨(some 217),.val (.mov (.t 3)),none⟩,
  ⟨(some 218),.val (.mov (.t 4)),none⟩,
  ⟨(some 219),.callF (.f sm) [(.t 214),(.t 215),(.t 216),(.t 217),(.t 218)],none⟩]
def rsm (z sr ro sm is st:Nat):RC:=.seq (.seq (.reg (Bu z sr ro sm is st)) (.cond (.t 28) (.seq (.reg (PK z sr ro sm is st)) (.seq (.reg (PM z sr ro sm is st)) (.seq (.block 0 (.loop (Qba z sr ro sm is st))) (.seq (.seq (.reg (PP z sr ro sm is st)) (.block 2 (.loop (Qbc z sr ro sm is st)))) (.ret))))) (.skip))) (.seq (.seq (.reg (Dl z sr ro sm is st)) (.cond (.t 80) (.seq (.reg (Vv z sr ro sm is st)) (.seq (.reg (Vw z sr ro sm is st)) (.seq (.block 4 (.loop (PQ z sr ro sm is st))) (.seq (.seq (.reg (VC z sr ro sm is st)) (.block 6 (.loop (PR z sr ro sm is st)))) (.ret))))) (.skip))) (.seq (.reg (Dm z sr ro sm is st)) (.seq (.reg (Dn z sr ro sm is st)) (.seq (.reg (Dp z sr ro sm is st)) (.seq (.seq (.reg (Dq z sr ro sm is st)) (.cond (.t 140) (.seq (.reg (Dr z sr ro sm is st)) (.reg (Ds z sr ro sm is st))) (.seq (.reg (Dt z sr ro sm is st)) (.reg (Du z sr ro sm is st))))) (.seq (.reg (Dv z sr ro sm is st)) (.seq (.block 8 (.loop (DB z sr ro sm is st))) (.seq (.reg (YJ z sr ro sm is st)) (.seq (.seq (.reg (YK z sr ro sm is st)) (.cond (.t 185) (.reg (YL z sr ro sm is st)) (.skip))) (.seq (.seq (.reg (W0 z sr ro sm is st)) (.cond (.t 199) (.reg (W2 z sr ro sm is st)) (.skip))) (.seq (.reg (KH z sr ro sm is st)) (.cond (.t 213) (.reg (KI z sr ro sm is st)) (.skip)))))))))))))
def DC:List RR:=[]

def Qbe (z sr ro sm is st:Nat):List Am.Item:=[
  ⟨(some 10),.val (.mov (.t 1)),none⟩,
  ⟨(some 11),.val (.bin .num .add (.t 10) (.c (.int .i64 1))),none⟩,
  ⟨(some 8),.val (.mov (.t 11)),none⟩]
def Qbf (z sr ro sm is st:Nat):List Am.Item:=[
  ⟨(some 12),.val (.mov (.t 8)),none⟩,
  ⟨(some 13),.val (.mov (.t 2)),none⟩,
  ⟨(some 14),.val (.bin .num .lss (.t 12) (.t 13)),none⟩]
def Qbg (z sr ro sm is st:Nat):List Am.Item:=[
  ⟨(some 17),.val (.mov (.t 8)),none⟩,
  ⟨(some 9),.val (.mov (.t 17)),none⟩]
def Qbh (z sr ro sm is st:Nat):List Am.Item:=[
  ⟨(some 18),.val (.mov (.t 9)),none⟩,
  ⟨(some 19),.val (.mov (.t 1)),none⟩,
  ⟨(some 20),.val (.bin .num .gtr (.t 18) (.t 19)),none⟩,
  ⟨(some 21),.val (.mov (.t 20)),none⟩,
  ⟨(some 22),.val (.mov (.t 3)),(some (21,true))⟩,
  ⟨(some 23),.val (.mov (.t 0)),(some (21,true))⟩,
  ⟨(some 24),.val (.mov (.t 9)),(some (21,true))⟩,
  ⟨(some 25),.val (.iaddr z none (.t 23) (.t 24)),(some (21,true))⟩,
  ⟨(some 26),.val (.loadr (some z) (.t 25)),(some (21,true))⟩,
  ⟨(some 27),.val (.mov (.t 0)),(some (21,true))⟩,
  ⟨(some 28),.val (.mov (.t 9)),(some (21,true))⟩,
  ⟨(some 29),.val (.bin .num .sub (.t 28) (.c (.int .i64 1))),(some (21,true))⟩,
  ⟨(some 30),.val (.iaddr z none (.t 27) (.t 29)),(some (21,true))⟩,
  ⟨(some 31),.val (.loadr (some z) (.t 30)),(some (21,true))⟩,
  ⟨(some 32),.call (.t 22) [(.t 26),(.t 31)],(some (21,true))⟩,
  ⟨(some 33),.val (.bin .num .lss (.t 32) (.c (.int .i64 0))),(some (21,true))⟩,
  ⟨(some 34),.val (.pick (.t 21) (.t 33) (.c (.bool false))),none⟩]
def Qbi (z sr ro sm is st:Nat):List Am.Item:=[
  ⟨(some 37),.val (.mov (.t 0)),none⟩,
  ⟨(some 38),.val (.mov (.t 9)),none⟩,
  ⟨(some 39),.val (.mov (.t 0)),none⟩,
  ⟨(some 40),.val (.mov (.t 9)),none⟩,
  ⟨(some 41),.val (.bin .num .sub (.t 40) (.c (.int .i64 1))),none⟩,
  ⟨(some 42),.val (.mov (.t 0)),none⟩,
  ⟨(some 43),.val (.mov (.t 9)),none⟩,
  ⟨(some 44),.val (.bin .num .sub (.t 43) (.c (.int .i64 1))),none⟩,
  ⟨(some 45),.val (.iaddr z none (.t 42) (.t 44)),none⟩,
  ⟨(some 46),.val (.loadr (some z) (.t 45)),none⟩,
  ⟨(some 47),.val (.mov (.t 0)),none⟩,
  ⟨(some 48),.val (.mov (.t 9)),none⟩,
  ⟨(some 49),.val (.iaddr z none (.t 47) (.t 48)),none⟩,
  ⟨(some 50),.val (.loadr (some z) (.t 49)),none⟩,
  ⟨(some 51),.val (.iaddr z none (.t 37) (.t 38)),none⟩,
  ⟨none,.store z (.t 51) (.t 46),none⟩,
  ⟨(some 52),.val (.iaddr z none (.t 39) (.t 41)),none⟩,
  ⟨none,.store z (.t 52) (.t 50),none⟩]
def Qbj (z sr ro sm is st:Nat):List Am.Item:=[
  ⟨(some 35),.val (.mov (.t 9)),none⟩,
  ⟨(some 36),.val (.bin .num .sub (.t 35) (.c (.int .i64 1))),none⟩,
  ⟨(some 9),.val (.mov (.t 36)),none⟩]
def Qbk (z sr ro sm is st:Nat):RC:=.seq (.seq (.draw (Qbh z sr ro sm is st)) (.cond (.t 34) (.skip) (.exit 2))) (.seq (.block 3 (.draw (Qbi z sr ro sm is st))) (.reg (Qbj z sr ro sm is st)))
def Qbl (z sr ro sm is st:Nat):List Am.Item:=[
  ⟨(some 15),.val (.mov (.t 8)),none⟩,
  ⟨(some 16),.val (.bin .num .add (.t 15) (.c (.int .i64 1))),none⟩,
  ⟨(some 8),.val (.mov (.t 16)),none⟩]
def Qbm (z sr ro sm is st:Nat):RC:=.seq (.seq (.reg (Qbf z sr ro sm is st)) (.cond (.t 14) (.skip) (.exit 0))) (.seq (.block 1 (.seq (.reg (Qbg z sr ro sm is st)) (.block 2 (.loop (Qbk z sr ro sm is st))))) (.reg (Qbl z sr ro sm is st)))
def ris (z sr ro sm is st:Nat):RC:=.seq (.reg (Qbe z sr ro sm is st)) (.block 0 (.loop (Qbm z sr ro sm is st)))
def ois:List RR:=[]

def Qbn (z sr ro sm is st:Nat):List Am.Item:=[
  ⟨(some 6),.val (.mov (.c (.int .i64 20))),none⟩]
def Qbo (z sr ro sm is st:Nat):List Am.Item:=[
  ⟨(some 10),.val (.mov (.t 6)),none⟩,
  ⟨(some 7),.val (.mov (.c (.int .i64 0))),none⟩,
  ⟨(some 8),.val (.mov (.t 10)),none⟩]
def Qbp (z sr ro sm is st:Nat):List Am.Item:=[
  ⟨(some 11),.val (.mov (.t 8)),none⟩,
  ⟨(some 12),.val (.mov (.t 1)),none⟩,
  ⟨(some 13),.val (.bin .num .leq (.t 11) (.t 12)),none⟩]
def Qbq (z sr ro sm is st:Nat):List Am.Item:=[
  ⟨(some 14),.val (.mov (.t 0)),none⟩,
  ⟨(some 15),.val (.mov (.t 7)),none⟩,
  ⟨(some 16),.val (.mov (.t 8)),none⟩,
  ⟨(some 17),.val (.mov (.t 2)),none⟩,
  ⟨(some 18),.callF (.f is) [(.t 14),(.t 15),(.t 16),(.t 17)],none⟩]
def Qbr (z sr ro sm is st:Nat):List Am.Item:=[
  ⟨(some 19),.val (.mov (.t 8)),none⟩,
  ⟨(some 7),.val (.mov (.t 19)),none⟩]
def Qbs (z sr ro sm is st:Nat):List Am.Item:=[
  ⟨(some 20),.val (.mov (.t 8)),none⟩,
  ⟨(some 21),.val (.mov (.t 6)),none⟩,
  ⟨(some 22),.val (.bin .num .add (.t 20) (.t 21)),none⟩,
  ⟨(some 8),.val (.mov (.t 22)),none⟩]
def Qbt (z sr ro sm is st:Nat):RC:=.seq (.seq (.reg (Qbp z sr ro sm is st)) (.cond (.t 13) (.skip) (.exit 0))) (.block 1 (.seq (.reg (Qbq z sr ro sm is st)) (.seq (.reg (Qbr z sr ro sm is st)) (.reg (Qbs z sr ro sm is st)))))
def Qbu (z sr ro sm is st:Nat):List Am.Item:=[
  ⟨(some 23),.val (.mov (.t 0)),none⟩,
  ⟨(some 24),.val (.mov (.t 7)),none⟩,
  ⟨(some 25),.val (.mov (.t 1)),none⟩,
  ⟨(some 26),.val (.mov (.t 2)),none⟩,
  ⟨(some 27),.callF (.f is) [(.t 23),(.t 24),(.t 25),(.t 26)],none⟩]
def Qbv (z sr ro sm is st:Nat):List Am.Item:=[
  ⟨(some 28),.val (.mov (.t 6)),none⟩,
  ⟨(some 29),.val (.mov (.t 1)),none⟩,
  ⟨(some 30),.val (.bin .num .lss (.t 28) (.t 29)),none⟩]
def Qbw (z sr ro sm is st:Nat):List Am.Item:=[
  ⟨(some 31),.val (.mov (.t 6)),none⟩,
  ⟨(some 32),.val (.bin .num .mul (.c (.int .i64 2)) (.t 31)),none⟩,
  ⟨(some 7),.val (.mov (.c (.int .i64 0))),none⟩,
  ⟨(some 8),.val (.mov (.t 32)),none⟩]
def Qbx (z sr ro sm is st:Nat):List Am.Item:=[
  ⟨(some 33),.val (.mov (.t 8)),none⟩,
  ⟨(some 34),.val (.mov (.t 1)),none⟩,
  ⟨(some 35),.val (.bin .num .leq (.t 33) (.t 34)),none⟩]
def AB (z sr ro sm is st:Nat):List Am.Item:=[
  ⟨(some 36),.val (.mov (.t 0)),none⟩,
  ⟨(some 37),.val (.mov (.t 7)),none⟩,
  ⟨(some 38),.val (.mov (.t 7)),none⟩,
  ⟨(some 39),.val (.mov (.t 6)),none⟩,
  ⟨(some 40),.val (.bin .num .add (.t 38) (.t 39)),none⟩,
  ⟨(some 41),.val (.mov (.t 8)),none⟩,
  ⟨(some 42),.val (.mov (.t 2)),none⟩,
  ⟨(some 43),.callF (.f sm) [(.t 36),(.t 37),(.t 40),(.t 41),(.t 42)],none⟩]
def AC (z sr ro sm is st:Nat):List Am.Item:=[
  ⟨(some 44),.val (.mov (.t 8)),none⟩,
  ⟨(some 7),.val (.mov (.t 44)),none⟩]
def AD (z sr ro sm is st:Nat):List Am.Item:=[
  ⟨(some 45),.val (.mov (.t 8)),none⟩,
  ⟨(some 46),.val (.mov (.t 6)),none⟩,
  ⟨(some 47),.val (.bin .num .mul (.c (.int .i64 2)) (.t 46)),none⟩,
  ⟨(some 48),.val (.bin .num .add (.t 45) (.t 47)),none⟩,
  ⟨(some 8),.val (.mov (.t 48)),none⟩]
def Qby (z sr ro sm is st:Nat):RC:=.seq (.seq (.reg (Qbx z sr ro sm is st)) (.cond (.t 35) (.skip) (.exit 4))) (.block 5 (.seq (.reg (AB z sr ro sm is st)) (.seq (.reg (AC z sr ro sm is st)) (.reg (AD z sr ro sm is st)))))
def AE (z sr ro sm is st:Nat):List Am.Item:=[
  ⟨(some 49),.val (.mov (.t 7)),none⟩,
  ⟨(some 50),.val (.mov (.t 6)),none⟩,
  ⟨(some 51),.val (.bin .num .add (.t 49) (.t 50)),none⟩,
  ⟨(some 9),.val (.mov (.t 51)),none⟩]
def AG (z sr ro sm is st:Nat):List Am.Item:=[
  ⟨(some 52),.val (.mov (.t 9)),none⟩,
  ⟨(some 53),.val (.mov (.t 1)),none⟩,
  ⟨(some 54),.val (.bin .num .lss (.t 52) (.t 53)),none⟩]
def AH (z sr ro sm is st:Nat):List Am.Item:=[
  ⟨(some 55),.val (.mov (.t 0)),none⟩,
  ⟨(some 56),.val (.mov (.t 7)),none⟩,
  ⟨(some 57),.val (.mov (.t 9)),none⟩,
  ⟨(some 58),.val (.mov (.t 1)),none⟩,
  ⟨(some 59),.val (.mov (.t 2)),none⟩,
  ⟨(some 60),.callF (.f sm) [(.t 55),(.t 56),(.t 57),(.t 58),(.t 59)],none⟩]
def VG (z sr ro sm is st:Nat):List Am.Item:=[
  ⟨(some 61),.val (.mov (.t 6)),none⟩,
  ⟨(some 62),.val (.bin .num .mul (.t 61) (.c (.int .i64 2))),none⟩,
  ⟨(some 6),.val (.mov (.t 62)),none⟩]
def Qbz (z sr ro sm is st:Nat):RC:=.seq (.seq (.reg (Qbv z sr ro sm is st)) (.cond (.t 30) (.skip) (.exit 2))) (.block 3 (.seq (.reg (Qbw z sr ro sm is st)) (.seq (.block 4 (.loop (Qby z sr ro sm is st))) (.seq (.seq (.reg (AE z sr ro sm is st)) (.seq (.reg (AG z sr ro sm is st)) (.cond (.t 54) (.reg (AH z sr ro sm is st)) (.skip)))) (.reg (VG z sr ro sm is st))))))
def rst (z sr ro sm is st:Nat):RC:=.seq (.reg (Qbn z sr ro sm is st)) (.seq (.reg (Qbo z sr ro sm is st)) (.seq (.block 0 (.loop (Qbt z sr ro sm is st))) (.seq (.reg (Qbu z sr ro sm is st)) (.block 2 (.loop (Qbz z sr ro sm is st))))))
def ost:List RR:=[]

def QbA (z sr ro sm is st:Nat):List Am.Item:=[
  ⟨(some 4),.val (.mov (.t 0)),none⟩,
  ⟨(some 5),.val (.mov (.t 0)),none⟩,
  ⟨(some 6),.val (.len 1 (.t 5)),none⟩,
  ⟨(some 7),.val (.mov (.t 1)),none⟩,
  ⟨(some 8),.callF (.f st) [(.t 4),(.t 6),(.t 7)],none⟩]
def rss (z sr ro sm is st:Nat):RC:=.reg (QbA z sr ro sm is st)
def oss:List RR:=[]

structure Cs (P:Program)(z sr ro sm is st ss:Nat):Prop where
 csr:CK P sr 38 (rsr z sr ro sm is st) osr
 cro:CK P ro 58 (rro z sr ro sm is st) oro
 csm:CK P sm 220 (rsm z sr ro sm is st) DC
 cis:CK P is 53 (ris z sr ro sm is st) ois
 cst:CK P st 63 (rst z sr ro sm is st) ost
 css:CK P ss 9 (rss z sr ro sm is st) oss

end Go.Proofs.YtafhmlkilcmniaaGreatDoor.Tg

namespace Go.Proofs.YtafhmlkilcmniaaGreatDoor.Am
open Go Bt

def Ez (E:AV→Prop)(sz:Nat)(x:AV):Prop:=E x∧∃l,x=.agg l∧l.length=sz∧AV.rfL l=true∧l.all AV.leaf=true∧∀m,AV.stillL false m l=some l

variable {E:AV→Prop}

theorem Ez.part {sz:Nat}{x:AV}(h:Ez E sz x):Am.part x.cells 0 (some sz)=some x:=by
 obtain⟨_,l,rfl,rfl,_,_,_⟩:=h;simp[Am.part,AV.cells]
theorem Ez.len {sz:Nat}{x:AV}(h:Ez E sz x):x.cells.length=sz:=by
 obtain⟨_,l,rfl,rfl,_,_,_⟩:=h;rfl
theorem Ez.leaf {sz:Nat}{x:AV}(h:Ez E sz x):x.cells.all AV.leaf=true:=by
 obtain⟨_,l,rfl,_,_,h,_⟩:=h;exact h
theorem Ez.rf {sz:Nat}{x:AV}(h:Ez E sz x):x.rf=true:=by
 obtain⟨_,l,rfl,_,h,_,_⟩:=h;exact h

theorem Ez.still {sz:Nat}{x:AV}(h:Ez E sz x)(m:Qk):x.still false m=some x:=by
 obtain⟨_,l,rfl,_,_,_,h⟩:=h;simp only[AV.still,h m,QZa]
theorem Yh {sz:Nat}{x y:AV}(h:Ez E sz x)(k:Ez E sz y)(m:Qk):AV.stillL false m [x,y]=some [x,y]:=by
 simp only[AV.stillL,h.still,k.still]
theorem Wg {sz:Nat}{x y:AV}(h:Ez E sz x)(k:Ez E sz y):AV.rfL [x,y]=true:=by
 simp only[AV.rfL,h.rf,k.rf,Bool.and_self]

theorem Wv {P:Program}{f:Fr}{m:Qk}{ds:List DF}{Qg:List Item}{d:Nat}{K:St→Prop}{k:Nat}{r:RA}{args:List RA}{ys:List AV}{v:AV}(hr:r.ev f=.fn (.func k) [] [])(hk:Qi P k ys v)(hy:AV.stillL false m (args.map (RA.ev f))=some ys)(h1:AV.rfL ys=true)(h2:v.rf=true)(h3:AV.rfL (args.map (RA.ev f))=true∨v.nl=true)(h:Qq P Qg ⟨Qt f d v,m,ds⟩ K) :
  Qq P (⟨some d,.call r args,none⟩ :: Qg) ⟨f,m,ds⟩ K:=by
 refine⟨k,[],[],ys,v,hr,?_,h1,hk,h2,?_,h⟩
 ·simpa using hy
 ·simpa using h3

theorem WA:∀ {m:Qk} {l s:Nat} {o o':Ob},Am.put (Am.put m l s o) l s o'=Am.put m l s o'
 | [],_,_,_,_=>rfl
 |fr :: m,0,s,o,o'=>by simp only[Am.put,upd_upd']
 |fr :: m,l+1,s,o,o'=>by simp only[Am.put,WA (m:=m)]
where
 upd_upd' {f:Nat→Ob} {d:Nat} {x y:Ob}:Qt (Qt f d x) d y=Qt f d y:=by
  funext i;simp only[Qt];cases Nat.beq i d<;>rfl

theorem JV:∀ {m:Qk} {l s:Nat} {o:Ob},Qh m l s=o→Am.put m l s o=m
 | [],_,_,_,_=>rfl
 |fr :: m,0,s,o,h=>by
  simp only[Am.put];congr 1
  funext i;simp only[Qt];cases hb:Nat.beq i s with
  |false=>rfl
  |true=>rw[QYI hb];exact h.symm
 |fr :: m,l+1,s,o,h=>by simp only[Am.put,JV (m:=m) h]

section
variable {m:Qk}{fr:Nat→Ob}{lv s g sz n i:Nat}{cur:List AV}{x y:AV}

theorem ldr (hlv:lv<m.length)(hx:cur[i]? = some x)(he:Ez E sz x):Q5 (fr :: Am.put m lv s (.vec g sz cur)) (some sz) (.vptr (lv+1) s g i 0)=some x:=by
 have e:Qh (fr :: Am.put m lv s (.vec g sz cur)) (lv+1) s=.vec g sz cur:=Qv hlv;simp only[Q5,e,if_true,hx,he.part]

theorem US (hlv:lv<m.length)(hx:cur[i]? = some x)(he:Ez E sz x)(hy:Ez E sz y)(h0:sz≠0):Q8 (fr :: Am.put m lv s (.vec g sz cur)) (.vptr (lv+1) s g i 0) y.cells=some (fr :: Am.put m lv s (.vec g sz (cur.set i y))):=by
 have e:Qh (fr :: Am.put m lv s (.vec g sz cur)) (lv+1) s=.vec g sz cur:=Qv hlv;obtain⟨_,l,rfl,hl,_,_,_⟩:=he;obtain⟨_,k,rfl,hk,hf,_,_⟩:=hy;have hc:0+(AV.agg k).cells.length≤(AV.agg l).cells.length∧(AV.agg k).cells.length≠0∧AV.rfL (AV.agg k).cells=true:=by
  simp only[AV.cells];exact⟨by omega,by omega,hf⟩
 simp only[Q8,e,if_true,hx,QYS hc];have hs:splice l 0 k=k:=by
  simp only[splice,QZO,QY6,QY9];rw[QZm (by omega),QZI]
 simp only[Jt,AV.cells,hs,Am.put,WA]

theorem Wp (hlv:lv<m.length)(hi:i<n):Qd (fr :: Am.put m lv s (.vec g sz cur)) sz none (.vec (lv+1) s g 0 n false) ((i:Nat):Int)=some (.vptr (lv+1) s g i 0):=by
 have e:Qh (fr :: Am.put m lv s (.vec g sz cur)) (lv+1) s=.vec g sz cur:=Qv hlv;simp only[Qd,e,QZ8];rw[QYS (by omega),QYS ⟨trivial,trivial,hi⟩,QY9]

end

theorem put_len:∀ {m:Qk} {l s:Nat} {o:Ob},(Am.put m l s o).length=m.length
 | [],_,_,_=>rfl
 |_ :: _,0,_,_=>rfl
 |fr :: m,l+1,s,o=>by simp only[Am.put,QYZ,put_len (m:=m)]

end Go.Proofs.YtafhmlkilcmniaaGreatDoor.Am

namespace Go.Proofs.YtafhmlkilcmniaaGreatDoor.Tz
open Go Am Bt Tg
variable {Pg:Program}{cz sr ro sm is st ss:Nat}(hC:Tg.Cs Pg cz sr ro sm is st ss)(hcz:cz≠0)

variable {E:AV→Prop}

def SwI (X cur:List AV)(p q i:Nat):Prop :=
 cur.length=X.length∧∀j,cur[j]? = if p≤j∧j<p+i then X[q+(j-p)]? else if q≤j∧j<q+i then X[p+(j-q)]? else X[j]?

theorem SwI.step {X cur:List AV}{p q i n:Nat}(h:SwI X cur p q i)(hi:i<n)(hpq:p+n≤q)(hq:q+n≤X.length){x y:AV}(hx:X[q+i]? = some x)(hy:X[p+i]? = some y) :
  SwI X ((cur.set (p+i) x).set (q+i) y) p q (i+1):=by
 obtain⟨h1,h2⟩:=h;refine⟨by simp[h1],fun j=>?_⟩;rw[List.getElem?_set,List.length_set,h1,List.getElem?_set,h1,h2 j];by_cases a:q+i=j
 ·subst a;rw[QYS rfl,QYS (by omega),QYR (by omega),QYS (by omega),show p+(q+i-q)=p+i by omega,hy]
 ·rw[QYR a];by_cases b:p+i=j
  ·subst b;rw[QYS rfl,QYS (by omega),QYS (by omega),show q+(p+i-p)=q+i by omega,hx]
  ·rw[QYR b]
   repeat' split
   all_goals first|rfl|(exfalso;omega)|(congr 1;omega)

theorem SwI.done {P A M B S cur:List AV}(h:SwI (P++A++M++B++S) cur P.length (P.length+A.length+M.length) A.length)(hAB:A.length=B.length):cur=P++B++M++A++S:=by
 apply List.ext_getElem?
 intro j;rw[h.2 j];simp only[List.getElem?_append,QZn]
 repeat' split
 all_goals first|rfl|(exfalso;omega)|(congr 1;omega)

def SwS (cz:Nat)(m:Qk)(lv s g N p q n:Nat)(X:List AV)(k:Nat)(st:St):Prop :=
 ∃f i cur,st=⟨f,[Qc]++Am.put m lv s (.vec g cz cur),[]⟩∧k=n-i∧i≤n∧SwI X cur p q i∧
  f 0=.vec (lv+1) s g 0 N false∧f 1=.int .i64 (p:Nat)∧f 2=.int .i64 (q:Nat)∧f 3=.int .i64 (n:Nat)∧f 10=.int .i64 (i:Nat)

include hC hcz in
theorem QTT (cmp:AV)(lv s g:Nat)(P A M B S:List AV)(m:Qk)(hl:Am.Qh m lv s=.vec g cz (P++A++M++B++S))(hAB:A.length=B.length)(he:∀x∈P++A++M++B++S,Ez E cz x)
  (hn:(P++A++M++B++S).length<4611686018427387904) :
  Qf Pg sr [.vec lv s g 0 (P++A++M++B++S).length false,.int .i64 (P.length:Nat),.int .i64 ((P.length+A.length+M.length:Nat):Int),.int .i64 (A.length:Nat),cmp] m
   (fun x m1=>x=.tup []∧m1=Am.put m lv s (.vec g cz (P++B++M++A++S))):=by
 have _:=hC;have _:=hcz;have hlv:lv<m.length:=Xb (by rw[hl];simp);have hlen:(P++A++M++B++S).length=P.length+A.length+M.length+B.length+S.length:=by simp only[QZn]
 refine hC.csr.go (by simp) ?_;simp only[QaQ,rsr,osr,Qa,seval];have h0:m=Am.put m lv s (.vec g cz (P++A++M++B++S)):=(JV hl).symm;generalize hX:P++A++M++B++S=X at *;generalize hp:P.length=p at *;generalize hq:p+A.length+M.length=q at *;generalize hnn:A.length=n at *;refine Qe (SwS cz m lv s g X.length p q n X) _ ⟨_,0,X,by rw[←h0]<;>rfl,rfl,QYT _,⟨rfl,fun j=>?_⟩,by simp only[Qa,seval],by simp only[Qa,seval],by simp only[Qa,seval],by simp only[Qa,seval],by simp only[Qa,seval]<;>rfl⟩ ?_
 ·rw[QYR (by omega),QYR (by omega)]
 rintro k st ⟨f,i,cur,rfl,rfl,hi,hsw,f0,f1,f2,f3,f10⟩;simp only[QaU,QaR,QaS,QaT,f3,f10,Qa,seval];by_cases hlt:i<n
 ·have d0:decide ((i:Int)<(n:Int))=true:=by simp;omega
  have e1:IntKind.i64.wrap ((p:Int)+(i:Int))=((p+i:Nat):Int):=by rw[QU];omega
  have e2:IntKind.i64.wrap ((q:Int)+(i:Int))=((q+i:Nat):Int):=by rw[QU];omega
  have e3:IntKind.i64.wrap ((i:Int)+1)=((i+1:Nat):Int):=by rw[QU];omega
  obtain⟨x,hx⟩:∃x,X[q+i]? = some x:=⟨_,QYN (by omega)⟩;obtain⟨y,hy⟩:∃y,X[p+i]? = some y:=⟨_,QYN (by omega)⟩;have ex:=he x (QYY hx);have ey:=he y (QYY hy);have cx:cur[q+i]? = some x:=by rw[hsw.2,QYR (by omega),QYR (by omega),hx]
  have cy:cur[p+i]? = some y:=by rw[hsw.2,QYR (by omega),QYR (by omega),hy]
  have cx':(cur.set (p+i) x)[q+i]? = some x:=by rw[Q0O (by omega),cx]
  simp only[d0,e1,e2,e3,f0,f1,f2,f10,Wp hlv (show q+i<X.length by omega),Wp hlv (show p+i<X.length by omega),ldr hlv cx ex,ldr hlv cy ey,ex.len,ey.len,ex.leaf,ey.leaf,US hlv cy ey ex hcz,US hlv cx' ex ey hcz,Qa,seval];exact⟨n-(i+1),by omega,_,i+1,_,rfl,rfl,by omega,hsw.step hlt (by omega) (by omega) hx hy,by simp only[f0,Qa,seval],by simp only[f1,Qa,seval],by simp only[f2,Qa,seval],by simp only[f3,Qa,seval],by simp only[Qa,seval]⟩
 ·have d0:decide ((i:Int)<(n:Int))=false:=by simp;omega
  have hin:i=n:=by omega
  subst hin;have hc:=SwI.done (P:=P) (A:=A) (M:=M) (B:=B) (S:=S) (cur:=cur) (by rw[hX,hp,hnn,hq];exact hsw) (by omega);simp only[d0,hc,put_len,Qa,seval]

include hC hcz in
theorem Fw (cmp:AV){fr:Nat→Ob}{lv s g N a b n:Nat}(P A M B S:List AV){m:Qk}(hlv:lv<m.length)(hAB:A.length=B.length)(he:∀x∈P++A++M++B++S,Ez E cz x)
  (hn:(P++A++M++B++S).length<4611686018427387904) (hN:N=(P++A++M++B++S).length) (ha:a=P.length) (hb:b=P.length+A.length+M.length) (hc:n=A.length) :
  Qf Pg sr [.vec (lv+1) s g 0 N false,.int .i64 (a:Nat),.int .i64 (b:Nat),.int .i64 (n:Nat),cmp] (fr :: Am.put m lv s (.vec g cz (P++A++M++B++S)))
   (fun x m1=>x=.tup []∧m1=fr :: Am.put m lv s (.vec g cz (P++B++M++A++S))):=by
 have _:=hC;have _:=hcz;subst hN ha hb hc;refine(QTT hC hcz cmp (lv+1) s g P A M B S (fr :: Am.put m lv s (.vec g cz (P++A++M++B++S))) (Qv (m:=m) hlv) hAB he hn).mono fun x m1 h=>⟨h.1,?_⟩
 rw[h.2];simp only[Am.put,WA]

def RoS (cz:Nat)(E:AV→Prop)(m:Qk)(lv s g N mid:Nat)(T:List AV)(cmp:AV)(k:Nat)(st:St):Prop :=
 ∃f P A B S,st=⟨f,[Qc]++Am.put m lv s (.vec g cz (P++A++B++S)),[]⟩∧k=A.length+B.length∧0<A.length∧0<B.length∧P.length+A.length=mid∧P++B++A++S=T∧(P++A++B++S).length=N∧(∀x∈P++A++B++S,Ez E cz x)∧
  f 0=.vec (lv+1) s g 0 N false∧f 2=.int .i64 (mid:Nat)∧f 4=cmp∧f 10=.int .i64 (A.length:Nat)∧f 11=.int .i64 (B.length:Nat)

include hC hcz in
theorem QTU (cmp:AV)(lv s g:Nat)(P X Y S:List AV)(m:Qk)(hl:Am.Qh m lv s=.vec g cz (P++X++Y++S))(hX:0<X.length)(hY:0<Y.length)(he:∀x∈P++X++Y++S,Ez E cz x)
  (hn:(P++X++Y++S).length<4611686018427387904) :
  Qf Pg ro [.vec lv s g 0 (P++X++Y++S).length false,.int .i64 (P.length:Nat),.int .i64 ((P.length+X.length:Nat):Int),.int .i64 ((P.length+X.length+Y.length:Nat):Int),cmp] m
   (fun x m1=>x=.tup []∧m1=Am.put m lv s (.vec g cz (P++Y++X++S))):=by
 have _:=hC;have _:=hcz;have hlv:lv<m.length:=Xb (by rw[hl];simp);have hlen:(P++X++Y++S).length=P.length+X.length+Y.length+S.length:=by simp only[QZn]
 refine hC.cro.go (by simp) ?_;have e1:IntKind.i64.wrap (((P.length+X.length:Nat):Int)-(P.length:Int))=((X.length:Nat):Int):=by rw[QU];omega
 have e2:IntKind.i64.wrap (((P.length+X.length+Y.length:Nat):Int)-((P.length+X.length:Nat):Int))=((Y.length:Nat):Int):=by rw[QU];omega
 simp only[QaV,QaW,Qa4,rro,oro,e1,e2,Qa,seval];have h0:m=Am.put m lv s (.vec g cz (P++X++Y++S)):=(JV hl).symm;refine Qe (RoS cz E m lv s g (P++X++Y++S).length (P.length+X.length) (P++Y++X++S) cmp.sh) _ ⟨_,P,X,Y,S,by rw[←h0]<;>rfl,rfl,hX,hY,rfl,rfl,rfl,he,by simp only[Qa,seval],by simp only[Qa,seval],by simp only[Qa,seval],by simp only[Qa,seval],by simp only[Qa,seval]⟩ ?_;generalize hT:P++Y++X++S=T;generalize hN:(P++X++Y++S).length=N at *;generalize hmid:P.length+X.length=mid at *;clear hl he h0 hX hY e1 e2;rintro k st ⟨f,P',A,B,S',rfl,rfl,hA,hB,hm,hTT,hNN,hee,f0,f2,f4,f10,f11⟩;have hlen':(P'++A++B++S').length=P'.length+A.length+B.length+S'.length:=by simp only[QZn]
 simp only[Qa3,QaX,QaY,QaZ,Qa0,Qa1,Qa2,f10,f11,Qa,seval];by_cases hij:A.length=B.length
 ·have d0:((A.length:Int) != (B.length:Int))=false:=by simp;omega
  have e1:IntKind.i64.wrap ((mid:Int)-(A.length:Int))=((P'.length:Nat):Int):=by rw[QU];omega
  simp only[d0,e1,f0,f2,f4,f10,Qa,seval];have hc:=Fw hC hcz cmp.sh (fr:=Qc) (g:=g) (s:=s) (N:=N) (a:=P'.length) (b:=mid) (n:=A.length) P' A [] B S' hlv hij (by simpa using hee) (by simp only[QZI];omega) (by simp only[QZI];omega) rfl (by simp only[QZR];omega) rfl;simp only[QZI]at hc;refine Qb hc rfl ?_;simp only[hTT,put_len,Qa,seval]
 ·have d0:((A.length:Int) != (B.length:Int))=true:=by simp;omega
  simp only[d0,f10,f11,Qa,seval];by_cases hgt:B.length<A.length
  ·have d1:decide ((A.length:Int) > (B.length:Int))=true:=by simp;omega
   have e1:IntKind.i64.wrap ((mid:Int)-(A.length:Int))=((P'.length:Nat):Int):=by rw[QU];omega
   have e2:IntKind.i64.wrap ((A.length:Int)-(B.length:Int))=((A.length-B.length:Nat):Int):=by rw[QU];omega
   simp only[d1,e1,f0,f2,f4,f10,f11,Qa,seval];have hcut:P'++A++B++S'=P'++A.take B.length++A.drop B.length++B++S':=by
    rw[QY4 P' (A.take _),QZV]
   have hl1:(A.take B.length).length=B.length:=by simp;omega
   rw[hcut]at hee hNN ⊢;refine Qb (Fw hC hcz cmp.sh (a:=P'.length) (b:=mid) (n:=B.length) P' (A.take B.length) (A.drop B.length) B S' hlv hl1 hee (by omega) hNN.symm rfl (by rw[hl1];simp;omega) hl1.symm) rfl ?_;simp only[e2,f10,f11,Qa,seval];have hcat:P'++B++A.drop B.length++A.take B.length++S'=(P'++B)++A.drop B.length++A.take B.length++S':=rfl;refine⟨(A.drop B.length).length+(A.take B.length).length,?_,_,P'++B,A.drop B.length,A.take B.length,S',rfl,rfl,by simp;omega,by omega,by simp;omega,?_,?_,?_,by simp only[f0,Qa,seval],by simp only[f2,Qa,seval],by simp only[f4,Qa,seval],by simp only[QZr,Qa,seval],by simp only[f11,hl1,Qa,seval]⟩
   ·simp;omega
   ·rw[←hTT];simp only[QY4];rw[←QY4 (A.take _),QZV]
   ·rw[←hNN];simp only[QZn];omega
   ·intro x hx;refine hee x ?_;simp only[QZX]at hx ⊢
    grind
  ·have d1:decide ((A.length:Int) > (B.length:Int))=false:=by simp;omega
   have e1:IntKind.i64.wrap ((mid:Int)-(A.length:Int))=((P'.length:Nat):Int):=by rw[QU];omega
   have e2:IntKind.i64.wrap ((B.length:Int)-(A.length:Int))=((B.length-A.length:Nat):Int):=by rw[QU];omega
   have e3:IntKind.i64.wrap ((mid:Int)+(B.length:Int))=((mid+B.length:Nat):Int):=by rw[QU];omega
   have e4:IntKind.i64.wrap (((mid+B.length:Nat):Int)-(A.length:Int))=((mid+B.length-A.length:Nat):Int):=by rw[QU];omega
   simp only[d1,e1,e3,e4,f0,f2,f4,f10,f11,Qa,seval];have hcut:P'++A++B++S'=P'++A++B.take (B.length-A.length)++B.drop (B.length-A.length)++S':=by
    rw[QY4 (P'++A) (B.take _),QZV]
   have hl1:(B.take (B.length-A.length)).length=B.length-A.length:=by simp
   have hl2:(B.drop (B.length-A.length)).length=A.length:=by simp;omega
   rw[hcut]at hee hNN ⊢;refine Qb (Fw hC hcz cmp.sh (a:=P'.length) (b:=mid+B.length-A.length) (n:=A.length) P' A (B.take (B.length-A.length)) (B.drop (B.length-A.length)) S' hlv hl2.symm hee (by omega) hNN.symm rfl (by rw[hl1];omega) rfl) rfl ?_;simp only[e2,f10,f11,Qa,seval];refine⟨(B.drop (B.length-A.length)).length+(B.take (B.length-A.length)).length,?_,_,P',B.drop (B.length-A.length),B.take (B.length-A.length),A++S',by simp only[QY4]<;>rfl,rfl,by omega,by omega,by omega,?_,?_,?_,by simp only[f0,Qa,seval],by simp only[f2,Qa,seval],by simp only[f4,Qa,seval],by simp only[f10,hl2,Qa,seval],by simp only[hl1,Qa,seval]⟩
   ·omega
   ·rw[←hTT];simp only[QY4];rw[←QY4 (B.take _),QZV]
   ·rw[←hNN];simp only[QZn];omega
   ·intro x hx;refine hee x ?_;simp only[QZX]at hx ⊢
    grind

end Go.Proofs.YtafhmlkilcmniaaGreatDoor.Tz

namespace Go.Proofs.YtafhmlkilcmniaaGreatDoor.Tz
open Go Am Bt Tg So
variable {Pg:Program}{cz sr ro sm is st ss:Nat}(hC:Tg.Cs Pg cz sr ro sm is st ss)(hcz:cz≠0)

variable {E:AV→Prop}

def lt (c:AV→AV→Int)(x y:AV):Bool:=decide (c x y<0)

structure Cp (Pg:Program)(cz:Nat)(E:AV→Prop)(kc:Nat)(c:AV→AV→Int):Prop where
 call:∀x y,Ez E cz x→Ez E cz y→Qi Pg kc [x,y] (.int .i64 (c x y))
 sw:SW (lt c)

def InS (cz:Nat)(m:Qk)(lv s g N i p:Nat)(kc:Nat)(c:AV→AV→Int)(P L S:List AV)(x:AV)(k:Nat)(st:St):Prop :=
 ∃f U V,st=⟨f,[Qc]++Am.put m lv s (.vec g cz (P++U++[x]++V++S)),[]⟩∧k=U.length∧U++V=L∧(∀v∈V,lt c x v=true)∧
  f 0=.vec (lv+1) s g 0 N false∧f 1=.int .i64 (P.length:Nat)∧f 2=.int .i64 (p:Nat)∧f 3=.fn (.func kc) [] []∧f 8=.int .i64 (i:Nat)∧f 9=.int .i64 ((P.length+U.length:Nat):Int)

def IoS (cz:Nat)(m:Qk)(lv s g N:Nat)(kc:Nat)(c:AV→AV→Int)(P X S:List AV)(k:Nat)(st:St):Prop :=
 ∃f i,st=⟨f,[Qc]++Am.put m lv s (.vec g cz (P++QD (lt c) (X.take i)++X.drop i++S)),[]⟩∧k=X.length+1-i∧1≤i∧(i≤X.length∨(i=1∧X=[]))∧
  f 0=.vec (lv+1) s g 0 N false∧f 1=.int .i64 (P.length:Nat)∧f 2=.int .i64 ((P.length+X.length:Nat):Int)∧f 3=.fn (.func kc) [] []∧f 8=.int .i64 ((P.length+i:Nat):Int)

theorem PT {α:Type}(U:List α)(h:0<U.length):∃W u,U=W++[u]:=by
 rcases List.eq_nil_or_concat U with rfl|⟨W,u,e⟩
 ·simp at h
 ·exact⟨W,u,by simpa using e⟩

theorem UT {α:Type}{P W V:List α}{u:α}{i:Nat}(h:i=P.length+W.length):(P++(W++[u])++V)[i]? = some u:=by
 subst h;simp

include hC hcz in
theorem QTV {kc:Nat}{c:AV→AV→Int}(hc:Cp Pg cz E kc c)(lv s g:Nat)(P X S:List AV)(m:Qk)(hl:Am.Qh m lv s=.vec g cz (P++X++S))(he:∀x∈P++X++S,Ez E cz x)
  (hn:(P++X++S).length<4611686018427387904) :
  Qf Pg is [.vec lv s g 0 (P++X++S).length false,.int .i64 (P.length:Nat),.int .i64 ((P.length+X.length:Nat):Int),.fn (.func kc) [] []] m
   (fun x m1=>x=.tup []∧m1=Am.put m lv s (.vec g cz (P++QD (lt c) X++S))):=by
 have _:=hC;have _:=hcz;have hlv:lv<m.length:=Xb (by rw[hl];simp);have hlen:(P++X++S).length=P.length+X.length+S.length:=by simp only[QZn]
 refine hC.cis.go (by simp) ?_;have e1:IntKind.i64.wrap ((P.length:Int)+1)=((P.length+1:Nat):Int):=by rw[QU];omega
 simp only[Qbe,ris,ois,e1,Qa,seval];have h0:m=Am.put m lv s (.vec g cz (P++QD (lt c) (X.take 1)++X.drop 1++S)):=by
  have:P++QD (lt c) (X.take 1)++X.drop 1++S=P++X++S:=by
   cases X with
   |nil=>simp[QD]
   |cons x X=>simp[QD,ZU]
  rw[this];exact(JV hl).symm
 generalize hN:(P++X++S).length=N at *;refine Qe (IoS cz m lv s g N kc c P X S) _ ⟨_,1,by rw[←h0]<;>rfl,rfl,QYK _,by
  cases X with
  |nil=>exact .inr ⟨rfl,rfl⟩
  |cons x X=>exact .inl (by simp),by simp only[Qa,seval],by simp only[Qa,seval],by simp only[Qa,seval],by simp only[Qa,seval],by simp only[Qa,seval]⟩ ?_
 clear h0 e1;rintro k st ⟨f,i,rfl,rfl,hi1,hi2,f0,f1,f2,f3,f8⟩;simp only[Qbk,Qbm,Qbf,Qbg,Qbh,Qbi,Qbj,Qbl,f2,f8,Qa,seval];by_cases hlt:i<X.length
 ·have d0:decide (((P.length+i:Nat):Int)<((P.length+X.length:Nat):Int))=true:=by simp only[QZ2];omega
  simp only[d0,f8,Qa,seval];obtain⟨x,hx⟩:∃x,X[i]? = some x:=⟨_,QYN hlt⟩;have ex:Ez E cz x:=he x (by simp[QYY hx]);have hL:(QD (lt c) (X.take i)).length=i:=by rw[JK,QZC];omega
  have heL:∀z∈QD (lt c) (X.take i),Ez E cz z:=fun z hz=>he z (by simp[QZw (UG hz)])
  have hdrop:X.drop i=[x]++X.drop (i+1):=by
   rw[List.singleton_append,QZt hlt];congr 1
   exact(QYM.1 hx).2
  have htake:QD (lt c) (X.take (i+1))=mg (lt c) (QD (lt c) (X.take i)) [x]:=by
   rw[Q0j,hx,Q0k,←HZ hc.sw]<;>rfl
  refine Qe (InS cz m lv s g N (P.length+i) (P.length+X.length) kc c P (QD (lt c) (X.take i)) (X.drop (i+1)++S) x) _ ⟨_,QD (lt c) (X.take i),[],by rw[hdrop];simp only[QY4,QZI]<;>rfl,rfl,QZI _,by simp,by simp only[f0,Qa,seval],by simp only[f1,Qa,seval],by simp only[f2,Qa,seval],by simp only[f3,Qa,seval],by simp only[f8,Qa,seval],by simp only[hL,Qa,seval]⟩ ?_;rintro k' st ⟨f,U,V,rfl,rfl,hUV,hV,f0,f1,f2,f3,f8,f9⟩;have hUVl:U.length+V.length=i:=by rw[←QZn,hUV,hL]
  have hrow:(P++U++[x]++V++(X.drop (i+1)++S)).length=N:=by
   rw[←hN];simp only[QZn,QZr,Q0d];omega
  simp only[f1,f9,Qa,seval];have e4:IntKind.i64.wrap (((P.length+i:Nat):Int)+1)=((P.length+(i+1):Nat):Int):=by rw[QU];omega
  have fin:(∀u∈U,lt c x u=false)→P++U++[x]++V++(X.drop (i+1)++S)=P++QD (lt c) (X.take (i+1))++X.drop (i+1)++S:=by
   intro h;rw[htake,←hUV,N8 h hV];simp
  by_cases hU:0<U.length
  ·obtain⟨W,u,rfl⟩:=PT U hU;simp only[QZn,Q0d]at hUVl hrow f9;have d1:decide (((P.length+(W.length+1):Nat):Int) > (P.length:Int))=true:=by simp only[QZ2];omega
   have e2:IntKind.i64.wrap (((P.length+(W.length+1):Nat):Int)-1)=((P.length+W.length:Nat):Int):=by rw[QU];omega
   have eu:Ez E cz u:=heL u (by rw[←hUV];simp);have hx1:(P++(W++[u])++[x]++V++(X.drop (i+1)++S))[P.length+(W.length+1)]? = some x:=by
    have:=UT (P:=P) (W:=W++[u]) (u:=x) (V:=V++(X.drop (i+1)++S)) (i:=P.length+(W.length+1)) (by simp)
    simpa only [QY4]using this
   have hu1:(P++(W++[u])++[x]++V++(X.drop (i+1)++S))[P.length+W.length]? = some u:=by
    have:=UT (P:=P) (W:=W) (u:=u) (V:=[x]++V++(X.drop (i+1)++S)) (i:=P.length+W.length) rfl
    simpa only [QY4]using this
   simp only[d1,e2,f0,f3,f9,QZn,Wp hlv (show P.length+(W.length+1)<N by omega),Wp hlv (show P.length+W.length<N by omega),ldr hlv hx1 ex,ldr hlv hu1 eu,Qa,seval];refine Wv (by simp only[Qa,seval]) (hc.call x u ex eu) (Yh ex eu _) (Wg ex eu) rfl (.inl (Wg ex eu)) ?_;cases hcx:decide (c x u<0)with
   |true=>
    have hset:((P++(W++[u])++[x]++V++(X.drop (i+1)++S)).set (P.length+(W.length+1)) u).set (P.length+W.length) x=P++W++[x]++([u]++V)++(X.drop (i+1)++S):=by
     simp[QY4]
    have hx2:((P++(W++[u])++[x]++V++(X.drop (i+1)++S)).set (P.length+(W.length+1)) u)[P.length+W.length]? = some u:=by
     rw[Q0O (by omega),hu1]
    simp only[hcx,e2,f0,f9,Wp hlv (show P.length+(W.length+1)<N by omega),Wp hlv (show P.length+W.length<N by omega),ldr hlv hx1 ex,ldr hlv hu1 eu,ex.len,eu.len,ex.leaf,eu.leaf,US hlv hx1 ex eu hcz,US hlv hx2 eu ex hcz,Qa,seval];exact⟨W.length,by simp,_,W,[u]++V,by rw[hset]<;>rfl,rfl,by rw[←hUV];simp,by
     intro v hv;rcases QZX.1 hv with hv|hv
     ·rw[Q0K.1 hv];exact hcx
     ·exact hV v hv,by simp only[f0,Qa,seval],by simp only[f1,Qa,seval],by simp only[f2,Qa,seval],by simp only[f3,Qa,seval],by simp only[f8,Qa,seval],by simp only[Qa,seval]⟩
   |false=>
    have hz:∀z∈W++[u],lt c x z=false:=by
     have hsrt:=JJ hc.sw (X.take i);have hsrt:ZV (lt c) ((W++[u])++V):=by rw[hUV];exact hsrt
     have hs2:=(List.pairwise_append.1 (List.pairwise_append.1 hsrt).1).2.2;intro z hz;rcases QZX.1 hz with hz|hz
     ·exact hc.sw.nt x u z hcx (hs2 z hz u (by simp))
     ·rw[Q0K.1 hz];exact hcx
    simp only[hcx,f8,e4,Qa,seval];exact⟨X.length+1-(i+1),by omega,_,i+1,by rw[fin hz]<;>rfl,rfl,by omega,.inl (by omega),by simp only[f0,Qa,seval],by simp only[f1,Qa,seval],by simp only[f2,Qa,seval],by simp only[f3,Qa,seval],by simp only[Qa,seval]⟩
  ·have hU0:U=[]:=QZK (by omega);subst hU0;have d1:decide (((P.length+0:Nat):Int) > (P.length:Int))=false:=by simp
   have fin0:=fin (by simp);simp only[QZI]at fin0;simp only[QZR]at f9;simp only[d1,f8,e4,QZR,Qa,seval];exact⟨X.length+1-(i+1),by omega,_,i+1,by rw[fin0]<;>rfl,rfl,by omega,.inl (by omega),by simp only[f0,Qa,seval],by simp only[f1,Qa,seval],by simp only[f2,Qa,seval],by simp only[f3,Qa,seval],by simp only[Qa,seval]⟩
 ·have d0:decide (((P.length+i:Nat):Int)<((P.length+X.length:Nat):Int))=false:=by simp only[Q0E];omega
  have hX:QD (lt c) (X.take i)++X.drop i=QD (lt c) X:=by
   rcases hi2 with h|⟨_,rfl⟩
   ·rw[QZj (by omega),QZm (by omega),QZI]
   ·simp[QD]
  have hX2:P++QD (lt c) (X.take i)++X.drop i++S=P++QD (lt c) X++S:=by rw[QY4 P (QD (lt c) (X.take i)) (X.drop i),hX]
  simp only[d0,hX2,put_len,Qa,seval]

end Go.Proofs.YtafhmlkilcmniaaGreatDoor.Tz

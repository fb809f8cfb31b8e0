/- Parts of the proof, in order. -/
import Derived.Test.YtaiflhahcglpgaaGreatDoorMPlanComplete3

set_option linter.unusedSimpArgs false
set_option linter.unusedSectionVars false
namespace Go.Proofs.YtaiflhahcglpgaaGreatDoor.Va
open Go Am Rc Bt Br Up So

def QU (S:SC)(w:Int):List (List UInt8):=(if w=1 then S.msgs.map SM.name else [])++(if w=2 then S.enums.map SE.name else [])++(if w=3 then S.servs.map SQ.name else [])
section
variable {M:Nat}(hM:M≤1048576)(S:SC)(hS:S.ok M)(w:Int)
include hM hS in
theorem QAo (L:List (List UInt8))(hL:L.length≤10000000)(f:Fr)(fr:Nat→Ob)(g:Nat)(h1:f 1=.int .i64 w)(h2:f 2=.ptr 0 2 0)(h5:f 5=.vec 0 5 g 0 L.length false)(hk:f 6=.int .i64 0)
  (o2:fr 2=.cells [.list (S.msgs.map fun n=>.agg n.cells),.list (S.enums.map fun n=>.agg n.cells),.list (S.servs.map fun n=>.agg n.cells)]) (o5:fr 5=.vec g 1 (L.map Qm)) (Q:Exit→St→Prop)
  (hq:∀(f:Fr) (fr:Nat→Ob) (g:Nat) (L2:List (List UInt8)),L2=L++(if w=1 then S.msgs.map SM.name else [])→f 1=.int .i64 w→f 2=.ptr 0 2 0→f 5=.vec 0 5 g 0 L2.length false→fr 2=.cells [.list (S.msgs.map fun n=>.agg n.cells),.list (S.enums.map fun n=>.agg n.cells),.list (S.servs.map fun n=>.agg n.cells)]→fr 5=.vec g 1 (L2.map Qm)→Q (.exit 0) ⟨f,[fr],[]⟩):QJ Tryz.prog (.loop RV) ⟨f,[fr],[]⟩ Q:=by
 have hl1:=hS.len1;by_cases hw:w=1
 case neg=>
  have d:(w==1)=false:=by simp[hw]
  refine Qg (fun k st=>k=0∧st=⟨f,[fr],[]⟩) 0 ⟨rfl,rfl⟩ ?_;rintro _ st ⟨rfl,rfl⟩;simp only[h1,d,Qa,seval];exact hq _ _ g L (by rw[QFE hw,QGq]) (by exact h1) (by exact h2) (by exact h5) o2 o5
 have d:(w==1)=true:=by simp[hw]
 rw[QFF hw]at hq
 let I:Nat→St→Prop:=fun n st=>∃f fr i g L2,st=⟨f,[fr],[]⟩∧n=S.msgs.length-i∧i≤S.msgs.length∧L2=L++(S.msgs.take i).map SM.name∧f 1=.int .i64 w∧f 2=.ptr 0 2 0∧f 5=.vec 0 5 g 0 L2.length false∧f 6=.int .i64 (i:Nat)∧
  fr 2=.cells [.list (S.msgs.map fun n=>.agg n.cells),.list (S.enums.map fun n=>.agg n.cells),.list (S.servs.map fun n=>.agg n.cells)]∧fr 5=.vec g 1 (L2.map Qm)
 refine Qg I _ ⟨f,fr,0,g,L,rfl,rfl,QFG _,by simp,h1,h2,h5,hk,o2,o5⟩ ?_;clear h1 h2 h5 hk o2 o5;rintro _ st ⟨f,fr,i,g,L2,rfl,rfl,hi,hL2,h1,h2,h5,hk,o2,o5⟩;simp only[QGK,h1,h2,hk,o2,d,eE,seval];by_cases hlt:i<S.msgs.length
 case neg=>
  simp only[QB hlt,Qa,seval];rw[QF4 (by omega)]at hL2;exact hq _ _ g L2 hL2 (by exact h1) (by exact h2) (by exact h5) o2 o5
 obtain⟨x,hx⟩:∃x,S.msgs[i]? = some x:=⟨S.msgs[i],QFA hlt⟩;have hg:(S.msgs.map fun n=>AV.agg n.cells)[i]? = some (.agg x.cells):=by rw[QGI,hx];rfl
 rw[Xs]at hg;have e1:=Qn i _ hlt (by simp only[maxLen];omega);have hsu:L2++[x.name]=L++(S.msgs.take (i+1)).map SM.name:=by rw[QGU,hx,QGV,QGT,hL2,QFR];rfl
 have hll:L2.length≤20000000:=by
  rw[hL2,QF7,QGK,QGk];omega
 simp only[Qz hlt,Qj,QGM,Qe,hg,h2,h5,hk,o2,eE,seval];refine ZL (w:=x.name) rfl ?_;refine Xa (xs:=L2.map Qm) (by rfl) o5 rfl (by simp) (by rfl) rfl (by simp only[QFM,QGy,maxLen];omega) (by simp only[QFM,QGy];omega) ?_;simp only[hk,e1,Qa,seval];exact⟨S.msgs.length-(i+1),by omega,_,_,i+1,g+1,L2++[x.name],rfl,rfl,by omega,hsu,(by exact h1),(by exact h2),by rw[QF7];exact(by rfl),(by rfl),(by exact o2),by rw[QGT];exact(by rfl)⟩

include hM hS in
theorem QAp (L:List (List UInt8))(hL:L.length≤10000000)(f:Fr)(fr:Nat→Ob)(g:Nat)(h1:f 1=.int .i64 w)(h2:f 2=.ptr 0 2 0)(h5:f 5=.vec 0 5 g 0 L.length false)(hk:f 7=.int .i64 0)
  (o2:fr 2=.cells [.list (S.msgs.map fun n=>.agg n.cells),.list (S.enums.map fun n=>.agg n.cells),.list (S.servs.map fun n=>.agg n.cells)]) (o5:fr 5=.vec g 1 (L.map Qm)) (Q:Exit→St→Prop)
  (hq:∀(f:Fr) (fr:Nat→Ob) (g:Nat) (L2:List (List UInt8)),L2=L++(if w=2 then S.enums.map SE.name else [])→f 1=.int .i64 w→f 2=.ptr 0 2 0→f 5=.vec 0 5 g 0 L2.length false→fr 2=.cells [.list (S.msgs.map fun n=>.agg n.cells),.list (S.enums.map fun n=>.agg n.cells),.list (S.servs.map fun n=>.agg n.cells)]→fr 5=.vec g 1 (L2.map Qm)→Q (.exit 2) ⟨f,[fr],[]⟩):QJ Tryz.prog (.loop RW) ⟨f,[fr],[]⟩ Q:=by
 have hl1:=hS.len2;by_cases hw:w=2
 case neg=>
  have d:(w==2)=false:=by simp[hw]
  refine Qg (fun k st=>k=0∧st=⟨f,[fr],[]⟩) 0 ⟨rfl,rfl⟩ ?_;rintro _ st ⟨rfl,rfl⟩;simp only[h1,d,Qa,seval];exact hq _ _ g L (by rw[QFE hw,QGq]) (by exact h1) (by exact h2) (by exact h5) o2 o5
 have d:(w==2)=true:=by simp[hw]
 rw[QFF hw]at hq
 let I:Nat→St→Prop:=fun n st=>∃f fr i g L2,st=⟨f,[fr],[]⟩∧n=S.enums.length-i∧i≤S.enums.length∧L2=L++(S.enums.take i).map SE.name∧f 1=.int .i64 w∧f 2=.ptr 0 2 0∧f 5=.vec 0 5 g 0 L2.length false∧f 7=.int .i64 (i:Nat)∧
  fr 2=.cells [.list (S.msgs.map fun n=>.agg n.cells),.list (S.enums.map fun n=>.agg n.cells),.list (S.servs.map fun n=>.agg n.cells)]∧fr 5=.vec g 1 (L2.map Qm)
 refine Qg I _ ⟨f,fr,0,g,L,rfl,rfl,QFG _,by simp,h1,h2,h5,hk,o2,o5⟩ ?_;clear h1 h2 h5 hk o2 o5;rintro _ st ⟨f,fr,i,g,L2,rfl,rfl,hi,hL2,h1,h2,h5,hk,o2,o5⟩;simp only[QGK,h1,h2,hk,o2,d,eE,seval];by_cases hlt:i<S.enums.length
 case neg=>
  simp only[QB hlt,Qa,seval];rw[QF4 (by omega)]at hL2;exact hq _ _ g L2 hL2 (by exact h1) (by exact h2) (by exact h5) o2 o5
 obtain⟨x,hx⟩:∃x,S.enums[i]? = some x:=⟨S.enums[i],QFA hlt⟩;have hg:(S.enums.map fun n=>AV.agg n.cells)[i]? = some (.agg x.cells):=by rw[QGI,hx];rfl
 rw[X1]at hg;have e1:=Qn i _ hlt (by simp only[maxLen];omega);have hsu:L2++[x.name]=L++(S.enums.take (i+1)).map SE.name:=by rw[QGU,hx,QGV,QGT,hL2,QFR];rfl
 have hll:L2.length≤20000000:=by
  rw[hL2,QF7,QGK,QGk];omega
 simp only[Qz hlt,Qj,QGM,Qe,hg,h2,h5,hk,o2,eE,seval];refine ZL (w:=x.name) rfl ?_;refine Xa (xs:=L2.map Qm) (by rfl) o5 rfl (by simp) (by rfl) rfl (by simp only[QFM,QGy,maxLen];omega) (by simp only[QFM,QGy];omega) ?_;simp only[hk,e1,Qa,seval];exact⟨S.enums.length-(i+1),by omega,_,_,i+1,g+1,L2++[x.name],rfl,rfl,by omega,hsu,(by exact h1),(by exact h2),by rw[QF7];exact(by rfl),(by rfl),(by exact o2),by rw[QGT];exact(by rfl)⟩

include hM hS in
theorem QAq (L:List (List UInt8))(hL:L.length≤10000000)(f:Fr)(fr:Nat→Ob)(g:Nat)(h1:f 1=.int .i64 w)(h2:f 2=.ptr 0 2 0)(h5:f 5=.vec 0 5 g 0 L.length false)(hk:f 8=.int .i64 0)
  (o2:fr 2=.cells [.list (S.msgs.map fun n=>.agg n.cells),.list (S.enums.map fun n=>.agg n.cells),.list (S.servs.map fun n=>.agg n.cells)]) (o5:fr 5=.vec g 1 (L.map Qm)) (Q:Exit→St→Prop)
  (hq:∀(f:Fr) (fr:Nat→Ob) (g:Nat) (L2:List (List UInt8)),L2=L++(if w=3 then S.servs.map SQ.name else [])→f 1=.int .i64 w→f 2=.ptr 0 2 0→f 5=.vec 0 5 g 0 L2.length false→fr 2=.cells [.list (S.msgs.map fun n=>.agg n.cells),.list (S.enums.map fun n=>.agg n.cells),.list (S.servs.map fun n=>.agg n.cells)]→fr 5=.vec g 1 (L2.map Qm)→Q (.exit 4) ⟨f,[fr],[]⟩):QJ Tryz.prog (.loop RX) ⟨f,[fr],[]⟩ Q:=by
 have hl1:=hS.len3;by_cases hw:w=3
 case neg=>
  have d:(w==3)=false:=by simp[hw]
  refine Qg (fun k st=>k=0∧st=⟨f,[fr],[]⟩) 0 ⟨rfl,rfl⟩ ?_;rintro _ st ⟨rfl,rfl⟩;simp only[h1,d,Qa,seval];exact hq _ _ g L (by rw[QFE hw,QGq]) (by exact h1) (by exact h2) (by exact h5) o2 o5
 have d:(w==3)=true:=by simp[hw]
 rw[QFF hw]at hq
 let I:Nat→St→Prop:=fun n st=>∃f fr i g L2,st=⟨f,[fr],[]⟩∧n=S.servs.length-i∧i≤S.servs.length∧L2=L++(S.servs.take i).map SQ.name∧f 1=.int .i64 w∧f 2=.ptr 0 2 0∧f 5=.vec 0 5 g 0 L2.length false∧f 8=.int .i64 (i:Nat)∧
  fr 2=.cells [.list (S.msgs.map fun n=>.agg n.cells),.list (S.enums.map fun n=>.agg n.cells),.list (S.servs.map fun n=>.agg n.cells)]∧fr 5=.vec g 1 (L2.map Qm)
 refine Qg I _ ⟨f,fr,0,g,L,rfl,rfl,QFG _,by simp,h1,h2,h5,hk,o2,o5⟩ ?_;clear h1 h2 h5 hk o2 o5;rintro _ st ⟨f,fr,i,g,L2,rfl,rfl,hi,hL2,h1,h2,h5,hk,o2,o5⟩;simp only[QGK,h1,h2,hk,o2,d,eE,seval];by_cases hlt:i<S.servs.length
 case neg=>
  simp only[QB hlt,Qa,seval];rw[QF4 (by omega)]at hL2;exact hq _ _ g L2 hL2 (by exact h1) (by exact h2) (by exact h5) o2 o5
 obtain⟨x,hx⟩:∃x,S.servs[i]? = some x:=⟨S.servs[i],QFA hlt⟩;have hg:(S.servs.map fun n=>AV.agg n.cells)[i]? = some (.agg x.cells):=by rw[QGI,hx];rfl
 rw[J9]at hg;have e1:=Qn i _ hlt (by simp only[maxLen];omega);have hsu:L2++[x.name]=L++(S.servs.take (i+1)).map SQ.name:=by rw[QGU,hx,QGV,QGT,hL2,QFR];rfl
 have hll:L2.length≤20000000:=by
  rw[hL2,QF7,QGK,QGk];omega
 simp only[Qz hlt,Qj,QGM,Qe,hg,h2,h5,hk,o2,eE,seval];refine ZL (w:=x.name) rfl ?_;refine Xa (xs:=L2.map Qm) (by rfl) o5 rfl (by simp) (by rfl) rfl (by simp only[QFM,QGy,maxLen];omega) (by simp only[QFM,QGy];omega) ?_;simp only[hk,e1,Qa,seval];exact⟨S.servs.length-(i+1),by omega,_,_,i+1,g+1,L2++[x.name],rfl,rfl,by omega,hsu,(by exact h1),(by exact h2),by rw[QF7];exact(by rfl),(by rfl),(by exact o2),by rw[QGT];exact(by rfl)⟩

include hM hS in
theorem SB:Qr Tryz.prog 46 [S.av,.int .i64 w] (.list ((QU S w).map Qm)):=by
 have l1:=hS.len1;have l2:=hS.len2;have l3:=hS.len3;have hi:∀(p:Prop) [Decidable p] (l:List (List UInt8)),l.length≤1048576→(if p then l else []).length≤1048576:=by
  intro p _ l h;split
  ·exact h
  ·simp
 have m1:=hi (w=1) (S.msgs.map SM.name) (by rw[QGK];omega);have m2:=hi (w=2) (S.enums.map SE.name) (by rw[QGK];omega);have m3:=hi (w=3) (S.servs.map SQ.name) (by rw[QGK];omega);refine k46.fn (by simp) ?_;simp only[SC.av,eE,seval];refine W3 rfl rfl ?_;simp only[Qa,seval];refine QAo hM S hS w [] (by simp) _ _ 1 (by rfl) (by rfl) (by rfl) (by rfl) (by rfl) (by rfl) _ (fun f fr g L2 hL h1 h2 h5 o2 o5=>?_);simp only[Qa,seval];refine QAp hM S hS w L2 (by rw[hL,QFT];omega) _ _ g (by exact h1) (by exact h2) (by exact h5) (by rfl) o2 o5 _ (fun f fr g L3 hL3 h1 h2 h5 o2 o5=>?_);simp only[Qa,seval];refine QAq hM S hS w L3 (by rw[hL3,hL,QFT,QF7];omega) _ _ g (by exact h1) (by exact h2) (by exact h5) (by rfl) o2 o5 _ (fun f fr g L4 hL4 h1 h2 h5 o2 o5=>?_);have e:QU S w=L4:=by rw[hL4,hL3,hL];rfl
 have ht:List.take L4.length (L4.map Qm)=L4.map Qm:=QF4 (by simp);rw[e];simp only[h5,o5,ht,QGK,QGb,QFW,QFx,QGr,QGw,AV.un,eE,seval]
end

theorem YM (A B:List (List UInt8)):(A.any fun s=>B.contains s)=B.any fun s=>A.contains s:=by
 rw[QGj,QG7,QG7]
 constructor
 ·rintro⟨x,h1,h2⟩;exact⟨x,QHl.1 h2,QHl.2 h1⟩
 ·rintro⟨x,h1,h2⟩;exact⟨x,QHl.1 h2,QHl.2 h1⟩

section
variable {M:Nat}(hM:M≤1048576)(S:SC)(hS:S.ok M)(h8:S.msgs.length≤8∧S.enums.length≤8∧S.servs.length≤8)

include hM hS h8 in
theorem QAr (fr:Nat→Ob)(o1:fr 1=.cells [.list (S.msgs.map fun n=>.agg n.cells),.list (S.enums.map fun n=>.agg n.cells),.list (S.servs.map fun n=>.agg n.cells)])(f:Fr)(h1:f 1=.ptr 0 1 0)(h3:f 3=.ptr 0 3 0)(h4:f 4=.int .i64 1)(Q:Exit→St→Prop)
  (hq:∀f,f 1=.ptr 0 1 0→f 3=.ptr 0 3 0→Q (.exit 0) ⟨f,[Q6 fr 3 1100 [] (Jo (QU S 1) (QU S 2) (QU S 3) 3)],[]⟩):QJ Tryz.prog (.loop B4) ⟨f,[Q6 fr 3 1100 [] []],[]⟩ Q:=by
 obtain⟨l1,l2,l3⟩:=h8;have n1:(QU S 1).length≤8:=by simp[QU];omega
 have n2:(QU S 2).length≤8:=by simp[QU];omega
 have n3:(QU S 3).length≤8:=by simp[QU];omega
 let I:Nat→St→Prop:=fun n st=>∃f i,st=⟨f,[Q6 fr 3 1100 [] (Jo (QU S 1) (QU S 2) (QU S 3) i)],[]⟩∧n=3-i∧i≤3∧f 1=.ptr 0 1 0∧f 3=.ptr 0 3 0∧f 4=.int .i64 ((i+1:Nat):Int)
 refine Qg I _ ⟨f,0,rfl,rfl,by omega,h1,h3,h4⟩ ?_;clear h1 h3 h4;rintro _ st ⟨f,i,rfl,rfl,hi,h1,h3,h4⟩;simp only[B4,RM,h4,Qa,seval];by_cases hlt:i<3
 case neg=>
  have e:i=3:=by omega
  subst e;have d:decide (((3+1:Nat):Int)≤3)=false:=rfl;simp only[Qa,seval];exact hq _ (by exact h1) (by exact h3)
 have d:decide (((i+1:Nat):Int)≤3)=true:=QHa (by omega);have e1:IntKind.i64.wrap (((i+1:Nat):Int)+1)=((i+1+1:Nat):Int):=by simp only[ZO];omega
 have hc:=SB hM S hS ((i+1:Nat):Int);simp only[SC.av]at hc;obtain⟨L,hLe,hLl,hp,hps⟩:∃L,QU S ((i+1:Nat):Int)=L∧L.length≤8∧(Jo (QU S 1) (QU S 2) (QU S 3) i).length≤100∧Jo (QU S 1) (QU S 2) (QU S 3) (i+1)=Jo (QU S 1) (QU S 2) (QU S 3) i++Z8 L:=by
  have b1:=ZF (QU S 1);have b2:=ZF (QU S 2);rcases(show i=0∨i=1∨i=2 by omega)with rfl|rfl|rfl
  ·exact⟨_,rfl,n1,by simp[Jo],rfl⟩
  ·exact⟨_,rfl,n2,by simp only[Jo];omega,rfl⟩
  ·exact⟨_,rfl,n3,by simp only[Jo,QF7];omega,rfl⟩
 rw[hLe]at hc;generalize Jo (QU S 1) (QU S 2) (QU S 3) i=p at *;have q1:=Qt hp [] (-1) (decide (L.length≤64)) 3;have hb:decide (L.length≤64)=!decide ((L.length:Int) > 64):=(by rw[QGj];simp only[QGH,QGl,QHb];omega);simp only[d,RN,Qw,h1,h4,o1,eE,seval];refine aC hc ?_;simp only[RP,QGK,Qa,seval];refine QI (by decide) (by exact h3) rfl rfl rfl (by omega) ?_;rw[←hb];simp only[RQ,Qa,seval];refine aC (u48 L (by simp only[maxLen];omega)) ?_;simp only[Qa,seval];refine QI (by decide) (by exact h3) rfl rfl rfl (by omega) ?_;simp only[RS,h4,e1,Qa,seval];exact⟨3-(i+1),by omega,_,i+1,by rw[hps,Z8,QHh,QFR],rfl,by omega,(by exact h1),(by exact h3),(by rfl)⟩

def AS (fr:Nat→Ob)(L:List PB):Prop:=∃g,fr 3=.cells [.str [],.vec 0 1100 g 0 L.length false]∧fr 1100=.vec g 3 (L.map PB.av)

include hM hS in
theorem QAs (hF:(QL S).length=S.msgs.length)(l:List PB)(hl:l.length≤1000000000)(h8:S.msgs.length≤8)(f:Fr)(fr:Nat→Ob)(h1:f 1=.ptr 0 1 0)(h3:f 3=.ptr 0 3 0)(h9:f 9=.list ((QL S).map AV.bool))(hk:f 10=.int .i64 0)
  (o1:fr 1=.cells [.list (S.msgs.map fun n=>.agg n.cells),.list (S.enums.map fun n=>.agg n.cells),.list (S.servs.map fun n=>.agg n.cells)]) (hA:AS fr l) (Q:Exit→St→Prop)
  (hq:∀(f:Fr) (fr:Nat→Ob),f 1=.ptr 0 1 0→f 3=.ptr 0 3 0→f 9=.list ((QL S).map AV.bool)→fr 1=.cells [.list (S.msgs.map fun n=>.agg n.cells),.list (S.enums.map fun n=>.agg n.cells),.list (S.servs.map fun n=>.agg n.cells)]→AS fr (l++S.msgs.flatMap (Z6 S (Xc S (QL S))))→Q (.exit 2) ⟨f,[fr],[]⟩):QJ Tryz.prog (.loop HY) ⟨f,[fr],[]⟩ Q:=by
 let I:Nat→St→Prop:=fun n st=>∃f fr i,st=⟨f,[fr],[]⟩∧n=S.msgs.length-i∧i≤S.msgs.length∧f 1=.ptr 0 1 0∧f 3=.ptr 0 3 0∧f 9=.list ((QL S).map AV.bool)∧f 10=.int .i64 (i:Nat)∧
  fr 1=.cells [.list (S.msgs.map fun n=>.agg n.cells),.list (S.enums.map fun n=>.agg n.cells),.list (S.servs.map fun n=>.agg n.cells)]∧AS fr (l++(S.msgs.take i).flatMap (Z6 S (Xc S (QL S))))
 have hg:∀x∈S.msgs,((Z6 S (Xc S (QL S))) x).length≤14000000:=fun x hx=>Yc hM S _ x (hS.msgs x hx)
 have _:=hF;refine Qg I _ ⟨f,fr,0,rfl,rfl,QFG _,h1,h3,h9,hk,o1,by simpa using hA⟩ ?_;clear h1 h3 h9 hk o1 hA;rintro _ st ⟨f,fr,i,rfl,rfl,hi,h1,h3,h9,hk,o1,⟨g,oS,oR⟩⟩;simp only[HY,VN,VP,VQ,QGK,h1,hk,o1,eE,seval];by_cases hlt:i<S.msgs.length
 case neg=>
  have e:i=S.msgs.length:=by omega
  subst e;simp only[QB hlt,Qa,seval];rw[QGS]at oS oR;exact hq _ _ (by exact h1) (by exact h3) (by exact h9) o1 ⟨g,oS,oR⟩
 obtain⟨x,hx⟩:∃x,S.msgs[i]? = some x:=⟨S.msgs[i],QFA hlt⟩;have hm:=QFL hx;have hgx:(S.msgs.map fun n=>AV.agg n.cells)[i]? = some (.agg x.cells):=by rw[QGI,hx];rfl
 rw[Xs]at hgx;have e1:=Qn i _ hlt (by simp only[maxLen];omega);have q1:=Ja hg i;have q2:=hg x hm;have hc:=u51 hM S hS x (hS.msgs x hm) (QL S) hF;simp only[QW,Xs x,SC.av]at hc;simp only[Qz hlt,Qj,QGM,Qe,hgx,h1,h3,h9,hk,o1,oS,eE,seval];refine aC hc ?_;refine Xa (xs:=(l++(S.msgs.take i).flatMap (Z6 S (Xc S (QL S)))).map PB.av) (by rfl) (by exact oR) rfl (by simp) (by rfl) (Hn _) (by simp only[QF7,QGK,maxLen];omega) (by simp only[QF7,QGK];omega) ?_;simp only[h3,hk,oS,e1,eE,seval];refine⟨S.msgs.length-(i+1),by omega,_,_,i+1,rfl,rfl,by omega,(by exact h1),(by exact h3),(by exact h9),(by rfl),(by exact o1),⟨g+1,?_,?_⟩⟩
 ·rw[X7 hx,←QFR];simp only[QF7,QGK,Qa,seval]
 ·rw[X7 hx,←QFR];simp only[QGT,Qa,seval]

include hM hS in
theorem QAt (hF:(QL S).length=S.msgs.length)(l:List PB)(hl:l.length≤1000000000)(h8:S.enums.length≤8)(f:Fr)(fr:Nat→Ob)(h1:f 1=.ptr 0 1 0)(h3:f 3=.ptr 0 3 0)(h9:f 9=.list ((QL S).map AV.bool))(hk:f 11=.int .i64 0)
  (o1:fr 1=.cells [.list (S.msgs.map fun n=>.agg n.cells),.list (S.enums.map fun n=>.agg n.cells),.list (S.servs.map fun n=>.agg n.cells)]) (hA:AS fr l) (Q:Exit→St→Prop)
  (hq:∀(f:Fr) (fr:Nat→Ob),f 1=.ptr 0 1 0→f 3=.ptr 0 3 0→f 9=.list ((QL S).map AV.bool)→fr 1=.cells [.list (S.msgs.map fun n=>.agg n.cells),.list (S.enums.map fun n=>.agg n.cells),.list (S.servs.map fun n=>.agg n.cells)]→AS fr (l++S.enums.flatMap (ZZ))→Q (.exit 4) ⟨f,[fr],[]⟩):QJ Tryz.prog (.loop HZ) ⟨f,[fr],[]⟩ Q:=by
 let I:Nat→St→Prop:=fun n st=>∃f fr i,st=⟨f,[fr],[]⟩∧n=S.enums.length-i∧i≤S.enums.length∧f 1=.ptr 0 1 0∧f 3=.ptr 0 3 0∧f 9=.list ((QL S).map AV.bool)∧f 11=.int .i64 (i:Nat)∧
  fr 1=.cells [.list (S.msgs.map fun n=>.agg n.cells),.list (S.enums.map fun n=>.agg n.cells),.list (S.servs.map fun n=>.agg n.cells)]∧AS fr (l++(S.enums.take i).flatMap (ZZ))
 have hg:∀x∈S.enums,((ZZ) x).length≤14000000:=fun x hx=>Yd hM x (hS.enums x hx)
 have _:=hF;refine Qg I _ ⟨f,fr,0,rfl,rfl,QFG _,h1,h3,h9,hk,o1,by simpa using hA⟩ ?_;clear h1 h3 h9 hk o1 hA;rintro _ st ⟨f,fr,i,rfl,rfl,hi,h1,h3,h9,hk,o1,⟨g,oS,oR⟩⟩;simp only[HZ,VR,VS,VT,QGK,h1,hk,o1,eE,seval];by_cases hlt:i<S.enums.length
 case neg=>
  have e:i=S.enums.length:=by omega
  subst e;simp only[QB hlt,Qa,seval];rw[QGS]at oS oR;exact hq _ _ (by exact h1) (by exact h3) (by exact h9) o1 ⟨g,oS,oR⟩
 obtain⟨x,hx⟩:∃x,S.enums[i]? = some x:=⟨S.enums[i],QFA hlt⟩;have hm:=QFL hx;have hgx:(S.enums.map fun n=>AV.agg n.cells)[i]? = some (.agg x.cells):=by rw[QGI,hx];rfl
 rw[X1]at hgx;have e1:=Qn i _ hlt (by simp only[maxLen];omega);have q1:=Ja hg i;have q2:=hg x hm;have hc:=u52 hM x (hS.enums x hm);simp only[XM,X1 x]at hc;simp only[Qz hlt,Qj,QGM,Qe,hgx,h1,h3,hk,o1,oS,eE,seval];refine aC hc ?_;refine Xa (xs:=(l++(S.enums.take i).flatMap (ZZ)).map PB.av) (by rfl) (by exact oR) rfl (by simp) (by rfl) (Hn _) (by simp only[QF7,QGK,maxLen];omega) (by simp only[QF7,QGK];omega) ?_;simp only[h3,hk,oS,e1,eE,seval];refine⟨S.enums.length-(i+1),by omega,_,_,i+1,rfl,rfl,by omega,(by exact h1),(by exact h3),(by exact h9),(by rfl),(by exact o1),⟨g+1,?_,?_⟩⟩
 ·rw[X7 hx,←QFR];simp only[QF7,QGK,Qa,seval]
 ·rw[X7 hx,←QFR];simp only[QGT,Qa,seval]

include hM hS in
theorem QAu (hF:(QL S).length=S.msgs.length)(l:List PB)(hl:l.length≤1000000000)(h8:S.servs.length≤8)(f:Fr)(fr:Nat→Ob)(h1:f 1=.ptr 0 1 0)(h3:f 3=.ptr 0 3 0)(h9:f 9=.list ((QL S).map AV.bool))(hk:f 12=.int .i64 0)
  (o1:fr 1=.cells [.list (S.msgs.map fun n=>.agg n.cells),.list (S.enums.map fun n=>.agg n.cells),.list (S.servs.map fun n=>.agg n.cells)]) (hA:AS fr l) (Q:Exit→St→Prop)
  (hq:∀(f:Fr) (fr:Nat→Ob),f 1=.ptr 0 1 0→f 3=.ptr 0 3 0→f 9=.list ((QL S).map AV.bool)→fr 1=.cells [.list (S.msgs.map fun n=>.agg n.cells),.list (S.enums.map fun n=>.agg n.cells),.list (S.servs.map fun n=>.agg n.cells)]→AS fr (l++S.servs.flatMap (Je S))→Q (.exit 6) ⟨f,[fr],[]⟩):QJ Tryz.prog (.loop H1) ⟨f,[fr],[]⟩ Q:=by
 let I:Nat→St→Prop:=fun n st=>∃f fr i,st=⟨f,[fr],[]⟩∧n=S.servs.length-i∧i≤S.servs.length∧f 1=.ptr 0 1 0∧f 3=.ptr 0 3 0∧f 9=.list ((QL S).map AV.bool)∧f 12=.int .i64 (i:Nat)∧
  fr 1=.cells [.list (S.msgs.map fun n=>.agg n.cells),.list (S.enums.map fun n=>.agg n.cells),.list (S.servs.map fun n=>.agg n.cells)]∧AS fr (l++(S.servs.take i).flatMap (Je S))
 have hg:∀x∈S.servs,((Je S) x).length≤14000000:=fun x hx=>Bo hM S x (hS.servs x hx)
 have _:=hF;refine Qg I _ ⟨f,fr,0,rfl,rfl,QFG _,h1,h3,h9,hk,o1,by simpa using hA⟩ ?_;clear h1 h3 h9 hk o1 hA;rintro _ st ⟨f,fr,i,rfl,rfl,hi,h1,h3,h9,hk,o1,⟨g,oS,oR⟩⟩;simp only[H1,VU,VV,VW,QGK,h1,hk,o1,eE,seval];by_cases hlt:i<S.servs.length
 case neg=>
  have e:i=S.servs.length:=by omega
  subst e;simp only[QB hlt,Qa,seval];rw[QGS]at oS oR;exact hq _ _ (by exact h1) (by exact h3) (by exact h9) o1 ⟨g,oS,oR⟩
 obtain⟨x,hx⟩:∃x,S.servs[i]? = some x:=⟨S.servs[i],QFA hlt⟩;have hm:=QFL hx;have hgx:(S.servs.map fun n=>AV.agg n.cells)[i]? = some (.agg x.cells):=by rw[QGI,hx];rfl
 rw[J9]at hgx;have e1:=Qn i _ hlt (by simp only[maxLen];omega);have q1:=Ja hg i;have q2:=hg x hm;have hc:=u53 hM S hS x (hS.servs x hm);simp only[KL,J9 x,SC.av]at hc;simp only[Qz hlt,Qj,QGM,Qe,hgx,h1,h3,hk,o1,oS,eE,seval];refine aC hc ?_;refine Xa (xs:=(l++(S.servs.take i).flatMap (Je S)).map PB.av) (by rfl) (by exact oR) rfl (by simp) (by rfl) (Hn _) (by simp only[QF7,QGK,maxLen];omega) (by simp only[QF7,QGK];omega) ?_;simp only[h3,hk,oS,e1,eE,seval];refine⟨S.servs.length-(i+1),by omega,_,_,i+1,rfl,rfl,by omega,(by exact h1),(by exact h3),(by exact h9),(by rfl),(by exact o1),⟨g+1,?_,?_⟩⟩
 ·rw[X7 hx,←QFR];simp only[QF7,QGK,Qa,seval]
 ·rw[X7 hx,←QFR];simp only[QGT,Qa,seval]

theorem YN (S:SC):(QL S).length=S.msgs.length:=by
 unfold QL;rw[YI,QGN]

include hM hS h8 in
theorem u23:Qr Tryz.prog 23 [S.av] (.list ((KZ S (Xc S (QL S))).map PB.av)):=by
 have h8':=h8;obtain⟨l1,l2,l3⟩:=h8';refine k23.fn (by simp) ?_;simp only[r23,o23,RJ,RK,SC.av,eE,seval];refine Xz rfl rfl rfl rfl ?_;generalize hb:(Qx Qc 1 _:Nat→Ob)=base;have o1:base 1=.cells [.list (S.msgs.map fun n=>.agg n.cells),.list (S.enums.map fun n=>.agg n.cells),.list (S.servs.map fun n=>.agg n.cells)]:=by rw[←hb];exact(by rfl)
 clear hb;rw[H8 base 3 1100 [] _ (by decide)];simp only[RL,Qa,seval];refine QAr hM S hS h8 base o1 _ (by rfl) (by rfl) (by rfl) _ (fun f h1 h3=>?_);have m1:=SB hM S hS 1;have m2:=SB hM S hS 2;have m3:=SB hM S hS 3;have n1:(QU S 1).length≤8:=by simp[QU];omega
 have n2:(QU S 2).length≤8:=by simp[QU];omega
 have n3:(QU S 3).length≤8:=by simp[QU];omega
 have eA:QU S 1=S.msgs.map SM.name:=by simp[QU]
 have eB:QU S 2=S.enums.map SE.name:=by simp[QU]
 have eC:QU S 3=S.servs.map SQ.name:=by simp[QU]
 have hap:WY (QU S 1) (QU S 2) (QU S 3)=Js S:=by rw[eA,eB,eC];exact Md S
 have hlA:∀A B C:List (List UInt8),Z8 A++Z8 B++Z8 C=Jo A B C 3:=fun _ _ _=>rfl
 have hpa:KZ S (Xc S (QL S))=Jo (QU S 1) (QU S 2) (QU S 3) 3++pb [] (-1) (Js S) 9++S.msgs.flatMap (Z6 S (Xc S (QL S)))++S.enums.flatMap ZZ++S.servs.flatMap (Je S):=by
  unfold KZ;rw[eA,eB,eC,hlA]
 rw[hpa];have q0:(Jo (QU S 1) (QU S 2) (QU S 3) 3).length≤6:=by
  have a:=ZF (QU S 1);have b:=ZF (QU S 2);have c:=ZF (QU S 3);simp only[Jo,QF7];omega
 have hmt:Js S=!((QU S 1).any (fun s=>(QU S 2).contains s)||(QU S 1).any (fun s=>(QU S 3).contains s)||(QU S 2).any (fun s=>(QU S 3).contains s)):=by
  rw[←hap,YM (QU S 1) (QU S 2),YM (QU S 1) (QU S 3),YM (QU S 2) (QU S 3),Bool.not_or,Bool.not_or];rfl
 generalize Jo (QU S 1) (QU S 2) (QU S 3) 3=p at *;clear eA eB eC hap hlA hpa;generalize QU S 1=A at *;generalize QU S 2=B at *;generalize QU S 3=C at *;simp only[SC.av]at m1 m2 m3;have k1:=u49 A B (by simp only[maxLen];omega) (by simp only[maxLen];omega);have k2:=u49 A C (by simp only[maxLen];omega) (by simp only[maxLen];omega);have k3:=u49 B C (by simp only[maxLen];omega) (by simp only[maxLen];omega);simp only[RT,Qw,h1,o1,eE,seval];refine aC m1 ?_;simp only[RU,Qw,h1,o1,eE,seval];refine aC m2 ?_;simp only[VL,Qw,h1,o1,eE,seval];refine aC m3 ?_;have key:∀f:Fr,f 1=.ptr 0 1 0→f 3=.ptr 0 3 0→QJ Tryz.prog (.seq (.reg GY) (.seq (.seq (.reg GZ) (.block 2 (.loop HY))) (.seq (.seq (.reg G0) (.block 4 (.loop HZ))) (.seq (.seq (.reg G3) (.block 6 (.loop H1))) (.seq (.reg G4) .ret)))))
   ⟨f,[Q6 base 3 1100 [] (p++pb [] (-1) (Js S) 9)],[]⟩ (Zu [.tmp 2] 0 fun x _=>x=.list ((p++pb [] (-1) (Js S) 9++S.msgs.flatMap (Z6 S (Xc S (QL S)))++S.enums.flatMap ZZ++S.servs.flatMap (Je S)).map PB.av)):=by
  intro f h1 h3;have q1:=Qt q0 [] (-1) (Js S) 9;generalize p++pb [] (-1) (Js S) 9=L at *;have hf:=u50 hM S hS;simp only[SC.av]at hf;simp only[GY,Qw,h1,o1,eE,seval];refine aC hf ?_;simp only[GZ,Qa,seval];refine QAs hM S hS (YN S) L (by omega) l1 _ _ (by exact h1) (by exact h3) (by rfl) (by rfl) (by rw[ZG _ _ _ _ _ (by decide) (by decide)];exact o1) ⟨_,Ye _ _ _ _ _,Yf _ _ _ _ _ (by decide)⟩ _ (fun f fr h1 h3 h9 o1 hA=>?_);have q2:=Ja (l:=S.msgs) (fun x hx=>Yc hM S (Xc S (QL S)) x (hS.msgs x hx)) S.msgs.length;rw[QGS]at q2;simp only[G0,Qa,seval];refine QAt hM S hS (YN S) _ (by rw[QF7];omega) l2 _ _ (by exact h1) (by exact h3) (by exact h9) (by rfl) o1 hA _ (fun f fr h1 h3 h9 o1 hA=>?_);have q3:=Ja (l:=S.enums) (fun x hx=>Yd hM x (hS.enums x hx)) S.enums.length;rw[QGS]at q3;simp only[G3,Qa,seval];refine QAu hM S hS (YN S) _ (by rw[QF7,QF7];omega) l3 _ _ (by exact h1) (by exact h3) (by exact h9) (by rfl) o1 hA _ (fun f fr h1 h3 h9 o1 hA=>?_);obtain⟨g,oS,oR⟩:=hA;simp only[G4,h3,oS,oR,QGK,QGb,KM,QFW,QFx,QGr,QGw,AV.un,eE,seval]
 simp only[Qa,seval]at key;simp only[VM,Qa,seval];refine aC k1 ?_;cases c1:A.any fun s=>B.contains s
 ·simp only[Qa,seval];refine aC k2 ?_;cases c2:A.any fun s=>C.contains s
  ·simp only[Qa,seval];refine aC k3 ?_;simp only[Qa,seval];refine QI (by decide) (by exact h3) rfl rfl rfl (by omega) ?_;have e:(!(B.any fun s=>C.contains s))=Js S:=by rw[hmt,c1,c2,QG3,QG3]
   rw[e];simp only[Qa,seval];exact key _ (by exact h1) (by exact h3)
  ·have e:(!true)=Js S:=by rw[hmt,c1,c2];rfl
   simp only[Qa,seval];refine QI (by decide) (by exact h3) rfl rfl rfl (by omega) ?_;rw[e];simp only[Qa,seval];exact key _ (by exact h1) (by exact h3)
 ·have e:(!true)=Js S:=by rw[hmt,c1];rfl
  simp only[Qa,seval];refine QI (by decide) (by exact h3) rfl rfl rfl (by omega) ?_;rw[e];simp only[Qa,seval];exact key _ (by exact h1) (by exact h3)

include hM hS in
theorem u10 (h8:S.msgs.length≤8∧S.enums.length≤8∧S.servs.length≤8):Qr Tryz.prog 10 [S.av] (.bool (Z3 S)):=by
 have hc:=u23 hM S hS h8;have hv:(((KZ S (Xc S (QL S))).length:Int)==0)=Z3 S:=by
  have e:KZ S (Xc S (QL S))=[]↔Z3 S=true:=EO;rw[QGj,QFV,←e]
  constructor
  ·intro h;exact QGs (by omega)
  ·intro h;rw[h];rfl
 refine GW.fn (by simp) ?_;simp only[SC.av,eE,seval];simp only[SC.av]at hc;refine aC hc ?_;simp only[QGK,hv,Qa,seval]
end

def V0:V:=.mk 0 0 [] [] [] [] []
theorem QAv (o:SN)(fr:Nat→Ob)(n:List UInt8)(hf:fr 3=.cells [.str n]):Qf Tryz.prog 160 [UB o,.ptr 1 3 0] [Qc,fr] fun y m1=>y=.bool (o.name==n)∧m1=[Qc,fr]:=by
 refine Qv1.go (by simp) ?_;simp only[hf,UB,Ys,Qy,eE,seval]

section
variable (l:List SN)(hl:l.length≤maxLen)(n:List UInt8)
include hl
theorem QAw:Qr Tryz.prog 109 [.list (l.map fun n=>.agg n.cells),.str n] (.int .i64 (QM (fun x:SN=>x.name==n) l 0)):=by
 refine Qao.fn (by simp) ?_;simp only[eE,seval];refine Qb (Qzb l hl (fun x=>x.name==n) 160 [.ptr 0 3 0] _ fun o _=>QAv o _ n (by rfl)) (by simp only[QF3,QGo,Qa,seval]<;>rfl) ?_;simp only[Qa,seval]

theorem s39:Qr Tryz.prog 39 [.list (l.map fun n=>.agg n.cells),.str n] (.tup [(((l.find? fun x:SN=>x.name==n).map SN.val).getD V0).av,.bool (l.find? fun x:SN=>x.name==n).isSome]):=by
 refine k39.fn (by simp) ?_;simp only[eE,seval];refine aC (QAw l hl n) ?_;rcases Xr (fun x:SN=>x.name==n) l 0 with⟨h1,h2⟩|⟨j,o,h1,h2,h3⟩
 ·have e:V0.av=.agg [.int .i64 0,.int .u64 ((0:Nat):Int),.str [],.list [],.list [],.list [],.list []]:=by rw[V.av,V.eta];rfl
  simp only[h1,h2,Option.map_none,QGR,QGh,e,eE,seval]
 ·have hj:(l.map fun o=>AV.agg o.cells)[j]? = some (.agg o.cells):=by simp[h2]
  have d:decide ((j:Int)<0)=false:=QHf (by omega);rw[QFW]at h1;rw[Ys]at hj;have e:o.val.av=.agg o.val.cells:=rfl;rw[V.eta]at e;simp only[h1,d,Qj,QGM,Qe,hj,h3,QFX,QGx,QHg,e,eE,seval]

omit hl in
theorem UE:(l.find? fun x:SN=>x.name==alias).map SN.val=Xk l:=rfl

theorem s34:Qr Tryz.prog 34 [.list (l.map fun n=>.agg n.cells)] (.str (((Xk l).map V.text).getD [])):=by
 have hf:=s39 l hl alias;rw[UE]at hf;have e:((Xk l).map V.text).getD []=((Xk l).getD V0).text:=by cases Xk l<;>rfl
 rw[e];generalize (Xk l).getD V0=v at *;rw[V.av,V.eta]at hf;simp only[alias]at hf;refine k34.fn (by simp) ?_;simp only[Qa,seval];refine aC hf ?_;simp only[eE,seval]
end

theorem QAx (o:SM)(fr:Nat→Ob)(k:Int)(n:List UInt8)(hf:fr 3=.cells [.int .i64 k,.str n]):Qf Tryz.prog 106 [QW o,.ptr 1 3 0] [Qc,fr] fun y m1=>y=.bool (o.name==n)∧m1=[Qc,fr]:=by
 refine QuB.go (by simp) ?_;simp only[hf,QW,Xs,Qy,eE,seval]

theorem QAy (o:SE)(fr:Nat→Ob)(k:Int)(n:List UInt8)(hf:fr 3=.cells [.int .i64 k,.str n]):Qf Tryz.prog 108 [XM o,.ptr 1 3 0] [Qc,fr] fun y m1=>y=.bool (o.name==n)∧m1=[Qc,fr]:=by
 refine QuG.go (by simp) ?_;simp only[hf,XM,X1,Qy,eE,seval]

theorem s35 (S:SC)(l1:S.msgs.length≤maxLen)(l2:S.enums.length≤maxLen)(f:SF):Qr Tryz.prog 35 [S.av,.agg [.int .i64 f.kind,.str f.tname]] (.int .i64 (Jw S f)):=by
 refine k35.fn (by simp) ?_;unfold Jw;simp only[SC.av,eE,seval];by_cases h1:f.kind=10
 ·have d:(f.kind==10)=true:=by simp[h1]
  rw[QFF h1];simp only[d,eE,seval];refine Qb (Qmg S.msgs l1 (fun m=>m.name==f.tname) 106 [.ptr 0 3 0] _ fun o _=>QAx o _ f.kind f.tname (by rfl)) (by simp only[QF3,QGo,Qa,seval]<;>rfl) ?_;simp only[Qa,seval]
 have d:(f.kind==10)=false:=by simp[h1]
 rw[QFE h1];by_cases h2:f.kind=9
 ·have d2:(f.kind==9)=true:=by simp[h2]
  rw[QFF h2];simp only[d,d2,eE,seval];refine Qb (Qmh S.enums l2 (fun m=>m.name==f.tname) 108 [.ptr 0 3 0] _ fun o _=>QAy o _ f.kind f.tname (by rfl)) (by simp only[QF3,QGo,Qa,seval]<;>rfl) ?_;simp only[Qa,seval]
 have d2:(f.kind==9)=false:=by simp[h2]
 rw[QFE h2];simp only[d,d2,Qa,seval]

theorem u31 (S:SC)(hl:S.msgs.length≤maxLen)(s:List UInt8):Qr Tryz.prog 31 [S.av,.str s] (.tup [QW ((S.msgs.find? fun m=>m.name==s).getD C5),.int .i64 (JO S s)]):=by
 let I:Nat→St→Prop:=fun k st=>∃f fr i,st=⟨f,[fr],[]⟩∧k=S.msgs.length-i∧JO S s=QM (fun g:SM=>g.name==s) (S.msgs.drop i) i∧(S.msgs.find? fun g:SM=>g.name==s)=((S.msgs.drop i).find? fun g:SM=>g.name==s)∧f 1=.str s∧f 2=.ptr 0 2 0∧f 4=.ptr 0 4 0∧f 6=.int .i64 (i:Nat)∧
  fr 2=.cells [.list (S.msgs.map fun n=>.agg n.cells),.list (S.enums.map fun n=>.agg n.cells),.list (S.servs.map fun n=>.agg n.cells)]∧∃a b c d e,fr 4=.cells [a,b,c,d,e]
 refine k31.fn (by simp) ?_;simp only[SC.av,eE,seval];refine Qg I _ ⟨_,_,0,rfl,rfl,rfl,rfl,(by rfl),(by rfl),(by rfl),(by rfl),(by rfl),⟨_,_,_,_,_,rfl⟩⟩ ?_;rintro _ st ⟨f,fr,i,rfl,rfl,hx,hy,h1,h2,h4,h6,m2,a,b,c,d,e,m4⟩;simp only[QGK,h2,h6,m2,eE,seval];by_cases hlt:i<S.msgs.length
 ·obtain⟨x,hi⟩:∃x,S.msgs[i]? = some x:=⟨S.msgs[i],QFA hlt⟩;have hg:(S.msgs.map fun n=>AV.agg n.cells)[i]? = some (.agg x.cells):=by rw[QGI,hi];rfl
  have e1:=Qn i _ hlt hl;rw[Xs]at hg;rw[Xj _ hi]at hx;rw[HJ _ hi]at hy;simp only[Qz hlt,Qj,QGM,Qe,hg,h1,h2,h6,m2,Qy,eE,seval];cases hp:(x.name==s)
  ·rw[hp]at hx hy;simp only[QFQ,if_false]at hx hy;simp only[h6,e1,Qa,seval];exact⟨S.msgs.length-(i+1),by omega,_,_,i+1,rfl,rfl,hx,hy,(by exact h1),(by exact h2),(by exact h4),(by rfl),m2,_,_,_,_,_,m4⟩
  ·rw[hp]at hx hy;simp only[if_true]at hx hy;simp only[hx,hy,QGx,QW,Xs x,Qj,QGM,Qe,hg,h2,h4,h6,m2,m4,eE,seval]
 ·have hx':JO S s = -1:=by rw[hx,QF6 (by omega)];rfl
  have hy':(S.msgs.find? fun g:SM=>g.name==s)=none:=by rw[hy,QF6 (by omega)];rfl
  simp only[QB hlt,hx',hy',QGR,C5,QW,Xs,QGo,h4,m4,eE,seval]

theorem u32 (S:SC)(hl:S.enums.length≤maxLen)(s:List UInt8):Qr Tryz.prog 32 [S.av,.str s] (.tup [XM ((S.enums.find? fun m=>m.name==s).getD C6),.int .i64 (UD S s)]):=by
 let I:Nat→St→Prop:=fun k st=>∃f fr i,st=⟨f,[fr],[]⟩∧k=S.enums.length-i∧UD S s=QM (fun g:SE=>g.name==s) (S.enums.drop i) i∧(S.enums.find? fun g:SE=>g.name==s)=((S.enums.drop i).find? fun g:SE=>g.name==s)∧f 1=.str s∧f 2=.ptr 0 2 0∧f 4=.ptr 0 4 0∧f 6=.int .i64 (i:Nat)∧
  fr 2=.cells [.list (S.msgs.map fun n=>.agg n.cells),.list (S.enums.map fun n=>.agg n.cells),.list (S.servs.map fun n=>.agg n.cells)]∧∃a b c d e,fr 4=.cells [a,b,c,d,e]
 refine k32.fn (by simp) ?_;simp only[SC.av,eE,seval];refine Qg I _ ⟨_,_,0,rfl,rfl,rfl,rfl,(by rfl),(by rfl),(by rfl),(by rfl),(by rfl),⟨_,_,_,_,_,rfl⟩⟩ ?_;rintro _ st ⟨f,fr,i,rfl,rfl,hx,hy,h1,h2,h4,h6,m2,a,b,c,d,e,m4⟩;simp only[QGK,h2,h6,m2,eE,seval];by_cases hlt:i<S.enums.length
 ·obtain⟨x,hi⟩:∃x,S.enums[i]? = some x:=⟨S.enums[i],QFA hlt⟩;have hg:(S.enums.map fun n=>AV.agg n.cells)[i]? = some (.agg x.cells):=by rw[QGI,hi];rfl
  have e1:=Qn i _ hlt hl;rw[X1]at hg;rw[Xj _ hi]at hx;rw[HJ _ hi]at hy;simp only[Qz hlt,Qj,QGM,Qe,hg,h1,h2,h6,m2,Qy,eE,seval];cases hp:(x.name==s)
  ·rw[hp]at hx hy;simp only[QFQ,if_false]at hx hy;simp only[h6,e1,Qa,seval];exact⟨S.enums.length-(i+1),by omega,_,_,i+1,rfl,rfl,hx,hy,(by exact h1),(by exact h2),(by exact h4),(by rfl),m2,_,_,_,_,_,m4⟩
  ·rw[hp]at hx hy;simp only[if_true]at hx hy;simp only[hx,hy,QGx,XM,X1 x,Qj,QGM,Qe,hg,h2,h4,h6,m2,m4,eE,seval]
 ·have hx':UD S s = -1:=by rw[hx,QF6 (by omega)];rfl
  have hy':(S.enums.find? fun g:SE=>g.name==s)=none:=by rw[hy,QF6 (by omega)];rfl
  simp only[QB hlt,hx',hy',QGR,C6,XM,X1,QGo,h4,m4,eE,seval]

theorem Mh {sz:Nat}(h0:sz≠0){xs:List AV}(h:xs.all (fun e=>e.cells.length==sz)=true)(hf:QK xs=[]):xs=[]:=by
 cases xs with
 |nil=>rfl
 |cons x xs=>
  have hl:x.cells.length=sz:=by simpa using QFK.1 h x (by simp)
  have:x.cells=[]:=(QHm.1 hf).1;rw[this]at hl;exact absurd hl.symm h0
theorem s38 (L:List PS)(hn:L.length≤1000000000):Qr Tryz.prog 38 [.list (L.map QV)] (.list (L.map QV)):=by
 have h:(L.map QV).all (fun e=>e.cells.length==2)=true:=by
  rw[QFK];intro x hx;obtain⟨y,_,rfl⟩:=QGG.1 hx;rfl
 have ht:List.take L.length (L.map QV)=L.map QV:=QF4 (by simp);refine k38.fn (by simp) ?_;simp only[Qa,seval];refine BW (ys:=L.map QV) (by simp only[Qa,seval]) ?_ ?_
 ·simp only[Qa,seval];refine NR rfl ?_;simp only[Qa,seval];refine Xa (site:=5) (g:=1) (xs:=[]) (ys:=L.map QV) rfl rfl rfl rfl rfl h (by simp only[QGK,maxLen];omega) (by simp only[QGK];omega) ?_;simp only[QGK,QFT,QFW,QGb,ht,QFx,QGr,QGw,AV.un,eE,seval]
 ·intro he;have hx:L=[]:=by
   rcases he with he|he
   ·exact List.map_eq_nil_iff.1 he
   ·exact List.map_eq_nil_iff.1 (Mh (by decide) h he)
  subst hx;simp only[Qa,seval];refine W3 (by simp only[Qa,seval]) rfl ?_;simp only[QFW,QFx,QGr,QGw,AV.un,eE,seval]

def un (l:List SF)(i:Nat):List (List UInt8):=unl [] (l.take i)
theorem Bq {l:List SF}{i:Nat}{x:SF}(h:l[i]? = some x):un l (i+1)=if x.union=[]∨(un l i).contains x.union=true then un l i else un l i++[x.union]:=by
 unfold un;rw[QGU,h,QGV,KY];rfl
theorem UF (l:List SF):∀i,(un l i).length≤i
 |0=>QFx _
 |i+1=>by
  have ih:=UF l i;cases hx:l[i]? with
  |none=>
   have e:un l (i+1)=un l i:=by unfold un;rw[QGU,hx,Option.toList_none,QGq]
   rw[e];omega
  |some x=>
   rw[Bq hx];split
   ·omega
   ·rw[QF7,List.length_singleton];omega
theorem Qmv {l:List SF}{i:Nat}{u:List UInt8}(h:(un l i).contains u=true):Zv (unl [] l) u=Zv (un l i) u:=by
 have e:unl [] l=unl (un l i) (l.drop i):=by
  unfold un;rw[←KY,QGB]
 obtain⟨r,hr⟩:=Ya (l.drop i) (un l i);rw[e,hr];exact(Hj (QHl.1 h)).1
theorem Mi (l:List SF):un l l.length=unl [] l:=by unfold un;rw[QGS]

def Wy (S:SC)(x:SF)(u:Int):List AV:=[.int .i64 x.num,.str x.name,.str (((Xk x.notes).map V.text).getD []),.int .i64 x.card,.int .i64 x.key,.int .i64 x.kind,.int .i64 (Jw S x),.int .i64 u]
theorem Mj (S:SC)(us:List (List UInt8))(x:SF):(Zm S us x).cells=Wy S x (Xp us x):=rfl

section
variable {M:Nat}(hM:M≤1048576)(S:SC)(hS:S.ok M)(m:SM)(hm:m.ok M)

def PgI (k:Nat)(st:St):Prop :=
 ∃f fr i g h,st=⟨f,[fr],[]⟩∧k=m.fields.length-i∧i≤m.fields.length∧f 2=.ptr 0 2 0∧f 4=.ptr 0 4 0∧f 5=.ptr 0 5 0∧f 6=.vec 0 6 g 0 (un m.fields i).length false∧f 14=.list (m.fields.map fun n=>.agg n.cells)∧f 15=.int .i64 (m.fields.length:Nat)∧f 16=.int .i64 (i:Nat)∧
  fr 2=.cells [.list (S.msgs.map fun n=>.agg n.cells),.list (S.enums.map fun n=>.agg n.cells),.list (S.servs.map fun n=>.agg n.cells)]∧fr 4=.cells [.str [],.nils,.int .i64 0]∧fr 5=.cells [.str m.name,.vec 0 1100 h 0 i false,.int .i64 0]∧fr 6=.vec g 1 ((un m.fields i).map Qm)∧
  fr 1100=.vec h 8 ((m.fields.take i).map fun x=>.agg (Zm S (unl [] m.fields) x).cells)∧∀s∈[9,8],(fr s).isRow=false

include hM hm in
theorem Mk (Q:Exit→St→Prop)(i:Nat)(x:SF)(hx:m.fields[i]? = some x)(f:Fr)(fr:Nat→Ob)(g h:Nat)(h2:f 2=.ptr 0 2 0)(h4:f 4=.ptr 0 4 0)(h5:f 5=.ptr 0 5 0)(h6:f 6=.vec 0 6 g 0 (un m.fields (i+1)).length false)(h9:f 9=.ptr 0 9 0)(h14:f 14=.list (m.fields.map fun n=>.agg n.cells))(h15:f 15=.int .i64 (m.fields.length:Nat))(h16:f 16=.int .i64 (i:Nat))
  (o2:fr 2=.cells [.list (S.msgs.map fun n=>.agg n.cells),.list (S.enums.map fun n=>.agg n.cells),.list (S.servs.map fun n=>.agg n.cells)]) (o4:fr 4=.cells [.str [],.nils,.int .i64 0]) (o5:fr 5=.cells [.str m.name,.vec 0 1100 h 0 i false,.int .i64 0]) (o6:fr 6=.vec g 1 ((un m.fields (i+1)).map Qm))
  (oR:fr 1100=.vec h 8 ((m.fields.take i).map fun x=>.agg (Zm S (unl [] m.fields) x).cells)) (o9:fr 9=.cells (Wy S x (Xp (unl [] m.fields) x))) (r8:(fr 8).isRow=false) :
  Qp Tryz.prog Uh ⟨f,[fr],[]⟩ (Kb 1 (Kc Tryz.prog (.reg Ui) (Kl (PgI S m) (m.fields.length-i) Q)) Exit.normal):=by
 have hlt:i<m.fields.length:=(QFz.1 hx).1;have hl1:=hm.len1;have e1:=Qn i _ hlt (by simp only[maxLen];omega);have ht:(m.fields.take i).length=i:=by rw[QGk];omega
 simp only[Wy]at o9;simp only[Uh,Ui,h5,h9,o5,o9,eE,seval];refine X4 rfl rfl (by decide) rfl rfl ?_;simp only[nn0,QF3,QGo,seval];refine Xa (xs:=(m.fields.take i).map fun x=>.agg (Zm S (unl [] m.fields) x).cells) (by rfl) (by exact oR) rfl (by rw[QGK,ht]) (by rfl) rfl (by simp only[QFM,QGy,maxLen];omega) (by simp only[QFM,QGy];omega) ?_;simp only[h5,h16,o5,e1,eE,seval];refine⟨m.fields.length-(i+1),by omega,_,_,i+1,g,h+1,rfl,rfl,by omega,(by exact h2),(by exact h4),(by exact h5),(by exact h6),(by exact h14),(by exact h15),(by rfl),(by exact o2),(by exact o4),(by rfl),(by exact o6),?_,?_⟩
 ·rw[QGU,hx,QGV,QGT];simp only[QF3,QGo,Mj,Wy,Qa,seval]
 ·intro s hs;simp only[QGF,QHk,or_false]at hs;rcases hs with rfl|rfl
  ·simp only[o9,Qa,seval]<;>rfl
  ·exact r8

include hM hm in
theorem Ml (Q:Exit→St→Prop)(i:Nat)(x:SF)(hx:m.fields[i]? = some x)(hu:x.union≠[])(hc:(un m.fields (i+1)).contains x.union=true)(f:Fr)(fr:Nat→Ob)(g h:Nat)(h2:f 2=.ptr 0 2 0)(h4:f 4=.ptr 0 4 0)(h5:f 5=.ptr 0 5 0)(h6:f 6=.vec 0 6 g 0 (un m.fields (i+1)).length false)(h8:f 8=.ptr 0 8 0)(h9:f 9=.ptr 0 9 0)(h14:f 14=.list (m.fields.map fun n=>.agg n.cells))(h15:f 15=.int .i64 (m.fields.length:Nat))(h16:f 16=.int .i64 (i:Nat))
  (o2:fr 2=.cells [.list (S.msgs.map fun n=>.agg n.cells),.list (S.enums.map fun n=>.agg n.cells),.list (S.servs.map fun n=>.agg n.cells)]) (o4:fr 4=.cells [.str [],.nils,.int .i64 0]) (o5:fr 5=.cells [.str m.name,.vec 0 1100 h 0 i false,.int .i64 0]) (o6:fr 6=.vec g 1 ((un m.fields (i+1)).map Qm))
  (oR:fr 1100=.vec h 8 ((m.fields.take i).map fun x=>.agg (Zm S (unl [] m.fields) x).cells)) (o9:fr 9=.cells (Wy S x (-1))) (o8:fr 8=.cells x.cells) :
  Qp Tryz.prog GJ ⟨f,[fr],[]⟩ (Kc Tryz.prog (.reg Uh) (Kb 1 (Kc Tryz.prog (.reg Ui) (Kl (PgI S m) (m.fields.length-i) Q))) Exit.normal):=by
 have hlt:i<m.fields.length:=(QFz.1 hx).1;have hl1:=hm.len1;have hul:=UF m.fields (i+1);have eu:Xp (unl [] m.fields) x=Zv (un m.fields (i+1)) x.union:=by
  rw[Xp,QFE hu];exact Qmv hc
 rw[QG]at o8;simp only[Wy]at o9;simp only[GJ,h6,h8,o8,eE,seval];refine Xd (s37 (un m.fields (i+1)) (by simp only[maxLen];omega) x.union) ?_ rfl rfl (.inr rfl) ?_
 ·have ht:List.take (un m.fields (i+1)).length ((un m.fields (i+1)).map Qm)=(un m.fields (i+1)).map Qm:=QF4 (by simp);simp only[QF3,QGo,AV.stillL,AV.still,Am.Qh,o6,QGK,ht,QGb,QFW,QFx,QGr,QGP,QFQ,Qa,seval]<;>rfl
 simp only[h9,o9,eE,seval];exact Mk hM S m hm _ i x hx _ _ g h (by exact h2) (by exact h4) (by exact h5) (by exact h6) (by exact h9) (by exact h14) (by exact h15) (by exact h16) (by exact o2) (by exact o4) (by exact o5) (by exact o6) (by exact oR) (by rw[eu];rfl) (by simp only[o8,Qa,seval]<;>rfl)

include hM hm hS in
theorem s14:Qr Tryz.prog 14 [S.av,QW m] (.agg (Xy S m).cells):=by
 obtain⟨l1,l2,_⟩:=Zn S hS hM;have hl1:=hm.len1;refine k14.fn (by simp) ?_;simp only[IX,IY,Rb,Rd,SC.av,QW,Xs m,eE,seval];refine Xz rfl rfl rfl rfl ?_;simp only[Re,Qa,seval];refine W3 rfl rfl ?_;simp only[Rf,QGK,eE,seval];refine Qg (PgI S m) _ ⟨_,_,0,1,1,rfl,rfl,QFG _,(by rfl),(by rfl),(by rfl),(by rfl),(by rfl),(by rfl),(by rfl),(by rfl),(by rfl),(by rfl),(by rfl),(by rfl),by intro s hs;simp only[QGF,QHk,or_false]at hs;rcases hs with rfl|rfl<;>rfl⟩ ?_;rintro _ st ⟨f0,fr0,i,g,h,rfl,rfl,hi,h20,h40,h50,h60,h140,h150,h160,JS,Kr,R0,Ss,oR0,r8⟩;refine QD (a:=_) [9,8] r8 ?_;intro f fr hf hmm hn;have h2:f 2=.ptr 0 2 0:=by rw[hf,h20]<;>rfl
 have h4:f 4=.ptr 0 4 0:=by rw[hf,h40]<;>rfl
 have h5:f 5=.ptr 0 5 0:=by rw[hf,h50]<;>rfl
 have h6:f 6=.vec 0 6 g 0 (un m.fields i).length false:=by rw[hf,h60]<;>rfl
 have h14:f 14=.list (m.fields.map fun n=>.agg n.cells):=by rw[hf,h140]<;>rfl
 have h15:f 15=.int .i64 (m.fields.length:Nat):=by rw[hf,h150]<;>rfl
 have h16:f 16=.int .i64 (i:Nat):=by rw[hf,h160]<;>rfl
 have o2:fr 2=.cells [.list (S.msgs.map fun n=>.agg n.cells),.list (S.enums.map fun n=>.agg n.cells),.list (S.servs.map fun n=>.agg n.cells)]:=by rw[hmm 2 (by decide),JS]<;>rfl
 have o4:fr 4=.cells [.str [],.nils,.int .i64 0]:=by rw[hmm 4 (by decide),Kr]<;>rfl
 have o5:fr 5=.cells [.str m.name,.vec 0 1100 h 0 i false,.int .i64 0]:=by rw[hmm 5 (by decide),R0]<;>rfl
 have o6:fr 6=.vec g 1 ((un m.fields i).map Qm):=by rw[hmm 6 (by decide),Ss]<;>rfl
 have oR:fr 1100=.vec h 8 ((m.fields.take i).map fun x=>.agg (Zm S (unl [] m.fields) x).cells):=by rw[hmm 1100 (by decide),oR0]<;>rfl
 have n8:=hn 8 (by decide);have n9:=hn 9 (by decide);clear hf hmm hn h20 h40 h50 h60 h140 h150 h160 JS Kr R0 Ss oR0 r8;simp only[Rg,h15,h16,Qa,seval];by_cases hlt:i<m.fields.length
 case neg=>
  have e:i=m.fields.length:=by omega
  subst e;have eG:(Xy S m).cells=[.str m.name,.list (m.fields.map fun x=>.agg (Zm S (unl [] m.fields) x).cells),.int .i64 ((un m.fields m.fields.length).length:Nat)]:=by
   rw[Mi];unfold PG.cells Xy;simp only[QGY];rfl
  have ht:List.take m.fields.length (m.fields.map fun x=>AV.agg (Zm S (unl [] m.fields) x).cells)=m.fields.map fun x=>AV.agg (Zm S (unl [] m.fields) x).cells:=QF4 (by simp)
  rw[QGS]at oR;simp only[QB hlt,N7,N8,h4,h5,h6,o4,o5,o6,oR,eG,ht,QGK,QGb,QFW,QFx,QGr,QGw,AV.un,AV.unL,eE,seval]
 obtain⟨x,hx⟩:∃x,m.fields[i]? = some x:=⟨m.fields[i],QFA hlt⟩;have hg:(m.fields.map fun n=>AV.agg n.cells)[i]? = some (.agg x.cells):=by rw[QGI,hx];rfl
 rw[QG]at hg;have hxo:=hm.fields x (QFL hx);have hln:=hxo.len;have hal:=s34 x.notes (by simp only[maxLen];omega);have htr:=s35 S l1 l2 x;simp only[SC.av]at htr;have hus:=Bq hx;have hul:=UF m.fields i;simp only[Qz hlt,n8,Rh,Ri,Qj,QGM,Qe,hg,h14,h16,eE,seval];refine aC hal ?_;simp only[h2,o2,eE,seval];refine aC htr ?_;simp only[n9,Rj,eE,seval];by_cases hu:x.union=[]
 ·have d:(x.union==[])=true:=by simp[hu]
  rw[QFF (.inl hu)]at hus;have eu:Xp (unl [] m.fields) x = -1:=QFF hu;simp only[d,Qy,QG1,Qa,seval];exact Mk hM S m hm _ i x hx _ _ g h (by exact h2) (by exact h4) (by exact h5) (by rw[hus];exact(by exact h6)) (by rfl) (by exact h14) (by exact h15) (by exact h16) (by exact o2) (by exact o4) (by exact o5) (by rw[hus];exact(by exact o6)) (by exact oR) (by rw[eu];rfl) rfl
 have d:(x.union==[])=false:=by simp[hu]
 have eu:Xp (unl [] m.fields) x=Zv (unl [] m.fields) x.union:=QFE hu;simp only[d,Qy,Rk,h6,QGv,eE,seval];refine Xd (s36 (un m.fields i) (by simp only[maxLen];omega) x.union) ?_ rfl rfl (.inr rfl) ?_
 ·have ht:List.take (un m.fields i).length ((un m.fields i).map Qm)=(un m.fields i).map Qm:=QF4 (by simp);simp only[QF3,QGo,AV.stillL,AV.still,Am.Qh,o6,QGK,ht,QGb,QFW,QFx,QGr,QGP,QFQ,Qa,seval]<;>rfl
 cases hc:(un m.fields i).contains x.union
 ·rw[QFE (by simp only[hu,hc,QFQ,or_self,not_false_eq_true])]at hus;have hcc:(un m.fields (i+1)).contains x.union=true:=by
   rw[hus];exact QHl.2 (List.mem_append_right _ (List.mem_singleton.2 rfl))
  simp only[Rl,h6,QGv,eE,seval];refine ZL (w:=x.union) rfl ?_;refine Xa (xs:=(un m.fields i).map Qm) (by rfl) (by exact o6) rfl (by simp) (by rfl) rfl (by simp only[QFM,QGy,maxLen];omega) (by simp only[QFM,QGy];omega) ?_;simp only[Qa,seval];exact Ml hM S m hm _ i x hx hu hcc _ _ (g+1) h (by exact h2) (by exact h4) (by exact h5) (by rw[hus,QF7];exact(by rfl)) (by rfl) (by rfl) (by exact h14) (by exact h15) (by exact h16) (by exact o2) (by exact o4) (by exact o5) (by rw[hus,QGT];exact(by rfl)) (by exact oR) rfl (by rw[QG];rfl)
 ·rw[QFF (.inr hc)]at hus;simp only[QG1,Qa,seval];exact Ml hM S m hm _ i x hx hu (by rw[hus];exact hc) _ _ g h (by exact h2) (by exact h4) (by exact h5) (by rw[hus];exact(by exact h6)) (by rfl) (by rfl) (by exact h14) (by exact h15) (by exact h16) (by exact o2) (by exact o4) (by exact o5) (by rw[hus];exact(by exact o6)) (by exact oR) rfl (by rw[QG];rfl)
end

theorem PK {x:SI}(h:Xk x.notes=none):(Z4 x).cells=[.str x.name,.int .i64 x.num,.list []]:=by
 unfold Z4 PI.cells;rw[h];rfl
theorem PM {x:SI}{v:V}(h:Xk x.notes=some v):(Z4 x).cells=[.str x.name,.int .i64 x.num,.list [.agg (.str alias :: v.cells)]]:=by
 unfold Z4 PI.cells;rw[h];simp only[QF3,QGo,PN.cells];rw[V.eta];rfl
section
variable {M:Nat}(hM:M≤1048576)(e:SE)(he:e.ok M)
def EnI (k:Nat)(st:St):Prop :=
 ∃f fr i h,st=⟨f,[fr],[]⟩∧k=e.items.length-i∧i≤e.items.length∧f 2=.ptr 0 2 0∧f 3=.ptr 0 3 0∧f 18=.list (e.items.map fun n=>.agg n.cells)∧f 19=.int .i64 (e.items.length:Nat)∧f 20=.int .i64 (i:Nat)∧
  fr 2=.cells [.str [],.bool false,.nils,.nils,.nils]∧fr 3=.cells [.str e.name,.bool e.opn,.vec 0 1100 h 0 i false,.list (e.free.map QV),.nils]∧
  fr 1100=.vec h 3 ((e.items.take i).map fun x=>.agg (Z4 x).cells)∧∀s∈[7,6,5],(fr s).isRow=false

include hM he in
theorem Mm (Q:Exit→St→Prop)(i:Nat)(x:SI)(hx:e.items[i]? = some x)(f:Fr)(fr:Nat→Ob)(h:Nat)(l:List AV)(hl:(Z4 x).cells=[.str x.name,.int .i64 x.num,.list l])(z:AV)(hz:nn0 z=.list l)(hzr:z.rf=true)(hzl:z.leaf=true)(h2:f 2=.ptr 0 2 0)(h3:f 3=.ptr 0 3 0)(h6:f 6=.ptr 0 6 0)(h18:f 18=.list (e.items.map fun n=>.agg n.cells))(h19:f 19=.int .i64 (e.items.length:Nat))(h20:f 20=.int .i64 (i:Nat))
  (o2:fr 2=.cells [.str [],.bool false,.nils,.nils,.nils]) (o3:fr 3=.cells [.str e.name,.bool e.opn,.vec 0 1100 h 0 i false,.list (e.free.map QV),.nils]) (oR:fr 1100=.vec h 3 ((e.items.take i).map fun x=>.agg (Z4 x).cells)) (o6:fr 6=.cells [.str x.name,.int .i64 x.num,z]) (r5:∀s∈[7,5],(fr s).isRow=false) :
  Qp Tryz.prog B3 ⟨f,[fr],[]⟩ (Kb 1 (Kc Tryz.prog (.reg GX) (Kl (EnI e) (e.items.length-i) Q)) Exit.normal):=by
 have hlt:i<e.items.length:=(QFz.1 hx).1;have hl1:=he.len1;have e1:=Qn i _ hlt (by simp only[maxLen];omega);have ht:(e.items.take i).length=i:=by rw[QGk];omega
 simp only[B3,GX,h3,h6,o3,o6,eE,seval];have hll:[AV.str x.name,.int .i64 x.num,z].all AV.leaf=true:=by
  simp only[QGz,List.all_nil,hzl,QGA];rfl
 have hnn:[AV.str x.name,.int .i64 x.num,z].map nn0=[.str x.name,.int .i64 x.num,.list l]:=by
  simp only[QF3,QGo,hz];rfl
 refine X4 rfl rfl (by decide) (by simp only[AV.rfL,AV.rf,hzr,Bool.and_self]) hll ?_;rw[hnn];refine Xa (xs:=(e.items.take i).map fun x=>.agg (Z4 x).cells) (by rfl) (by exact oR) rfl (by rw[QGK,ht]) (by rfl) rfl (by simp only[QFM,QGy,maxLen];omega) (by simp only[QFM,QGy];omega) ?_;simp only[h3,h20,o3,e1,eE,seval];refine⟨e.items.length-(i+1),by omega,_,_,i+1,h+1,rfl,rfl,by omega,(by exact h2),(by exact h3),(by exact h18),(by exact h19),(by rfl),(by exact o2),(by rfl),?_,?_⟩
 ·rw[QGU,hx,QGV,QGT];simp only[QF3,QGo,hl,Qa,seval]
 ·intro s hs;simp only[QGF,QHk,or_false]at hs;rcases hs with rfl|rfl|rfl
  ·exact r5 7 (by decide)
  ·simp only[o6,Qa,seval]<;>rfl
  ·exact r5 5 (by decide)

include hM he in
theorem s15:Qr Tryz.prog 15 [XM e] (.agg (X0 e).cells):=by
 have hl1:=he.len1;have hl2:=he.len2;have hc:=s38 e.free (by omega);refine k15.fn (by simp) ?_;simp only[r15,o15,Ry,Rz,XM,X1 e,eE,seval];refine aC hc ?_;simp only[eE,seval];refine Xz rfl rfl rfl rfl ?_;simp only[RD,QGK,eE,seval];refine Qg (EnI e) _ ⟨_,_,0,1,rfl,rfl,QFG _,(by rfl),(by rfl),(by rfl),(by rfl),(by rfl),(by rfl),(by rfl),(by rfl),by intro s hs;simp only[QGF,QHk,or_false]at hs;rcases hs with rfl|rfl|rfl<;>rfl⟩ ?_;rintro _ st ⟨f0,fr0,i,h,rfl,rfl,hi,h20',h30,h180,h190,h200,JS,JJ,oR0,r8⟩;refine QD (a:=_) [7,6,5] r8 ?_;intro f fr hf hmm hn;have h2:f 2=.ptr 0 2 0:=by rw[hf,h20']<;>rfl
 have h3:f 3=.ptr 0 3 0:=by rw[hf,h30]<;>rfl
 have h18:f 18=.list (e.items.map fun n=>.agg n.cells):=by rw[hf,h180]<;>rfl
 have h19:f 19=.int .i64 (e.items.length:Nat):=by rw[hf,h190]<;>rfl
 have h20:f 20=.int .i64 (i:Nat):=by rw[hf,h200]<;>rfl
 have o2:fr 2=.cells [.str [],.bool false,.nils,.nils,.nils]:=by rw[hmm 2 (by decide),JS]<;>rfl
 have o3:fr 3=.cells [.str e.name,.bool e.opn,.vec 0 1100 h 0 i false,.list (e.free.map QV),.nils]:=by rw[hmm 3 (by decide),JJ]<;>rfl
 have oR:fr 1100=.vec h 3 ((e.items.take i).map fun x=>.agg (Z4 x).cells):=by rw[hmm 1100 (by decide),oR0]<;>rfl
 have n5:=hn 5 (by decide);have n6:=hn 6 (by decide);have n7:=hn 7 (by decide);clear hf hmm hn h20' h30 h180 h190 h200 JS JJ oR0 r8;simp only[RE,h19,h20,Qa,seval];by_cases hlt:i<e.items.length
 case neg=>
  have ei:i=e.items.length:=by omega
  subst ei;have eG:(X0 e).cells=[.str e.name,.bool e.opn,.list (e.items.map fun x=>.agg (Z4 x).cells),.list (e.free.map QV),.list []]:=by
   unfold PE.cells X0;simp only[QGY];rfl
  have ht:List.take e.items.length (e.items.map fun x=>AV.agg (Z4 x).cells)=e.items.map fun x=>AV.agg (Z4 x).cells:=QF4 (by simp)
  rw[QGS]at oR;simp only[QB hlt,VK,h2,h3,o2,o3,oR,eG,ht,QGK,QGb,QFW,QFx,QGr,QGw,AV.un,AV.unL,eE,seval]
 obtain⟨x,hx⟩:∃x,e.items[i]? = some x:=⟨e.items[i],QFA hlt⟩;have hg:(e.items.map fun n=>AV.agg n.cells)[i]? = some (.agg x.cells):=by rw[QGI,hx];rfl
 rw[Z9]at hg;have hxo:=he.items x (QFL hx);have hln:=hxo.len;have hfd:=s39 x.notes (by simp only[maxLen];omega) alias;have eis:(x.notes.find? fun x=>x.name==alias).isSome=(Xk x.notes).isSome:=by unfold Xk;rw[Option.isSome_map]
 rw[UE,eis]at hfd;simp only[Qz hlt,n5,n6,RF,RG,RH,Qj,QGM,Qe,hg,h18,h20,eE,seval];cases hal:Xk x.notes with
 |none=>
  rw[hal]at hfd;simp only[QGR,QGh,alias]at hfd;rw[V.av,V.eta]at hfd;refine aC hfd ?_;simp only[n7,B2,eE,seval];exact Mm hM e he _ i x hx _ _ h [] (PK hal) .nils rfl rfl rfl (by exact h2) (by exact h3) (by rfl) (by exact h18) (by exact h19) (by exact h20) (by exact o2) (by exact o3) (by exact oR) (by rfl) (by intro s hs;simp only[QGF,QHk,or_false]at hs;rcases hs with rfl|rfl<;>rfl)
 |some v=>
  rw[hal]at hfd;simp only[QGx,QHg,alias]at hfd;rw[V.av,V.eta]at hfd;have hm:=PM hal;simp only[alias]at hm;rw[V.eta]at hm;refine aC hfd ?_;simp only[n7,B2,RI,eE,seval];refine X4 rfl rfl (by decide) rfl rfl ?_;simp only[nn0,QF3,QGo,eE,seval];exact Mm hM e he _ i x hx _ _ h _ hm _ rfl rfl rfl (by exact h2) (by exact h3) (by rfl) (by exact h18) (by exact h19) (by exact h20) (by exact o2) (by exact o3) (by exact oR) (by rfl) (by intro s hs;simp only[QGF,QHk,or_false]at hs;rcases hs with rfl|rfl<;>rfl)
end

def mkR (S:SC):AV:=if Z3 S=true then .tup [(ZB S).av,.int .i64 0]else .tup [.agg [.list [],.list []],.int .i64 1]

section
variable {M:Nat}(hM:M≤1048576)(S:SC)(hS:S.ok M)
def Bs (i j:Nat)(f:Fr)(fr:Nat→Ob):Prop:=f 1=.ptr 0 1 0∧f 2=.ptr 0 2 0∧f 4=.ptr 0 4 0∧(∃a b,fr 2=.cells [a,b])∧
  fr 1=.cells [.list (S.msgs.map fun n=>.agg n.cells),.list (S.enums.map fun n=>.agg n.cells),.list (S.servs.map fun n=>.agg n.cells)]∧(∀s∈[6,8],(fr s).isRow=false)∧
  ∃g h,fr 4=.cells [.vec 0 1100 g 0 i false,.vec 0 1101 h 0 j false]∧fr 1100=.vec g 3 ((S.msgs.take i).map fun m=>.agg (Xy S m).cells)∧fr 1101=.vec h 5 ((S.enums.take j).map fun e=>.agg (X0 e).cells)

include hM hS in
theorem QAz {i:Nat}(f:Fr)(fr:Nat→Ob)(H:Bs S (i) (0) f fr)(hi0:i=0)(hw:f 14=.list (S.msgs.map fun n=>.agg n.cells))(hz:f 15=.int .i64 (S.msgs.length:Nat))(hk:f 16=.int .i64 0)(Q:Exit→St→Prop)
  (hq:∀f fr,Bs S (S.msgs.length) (0) f fr→Q (.exit 0) ⟨f,[fr],[]⟩):QJ Tryz.prog (.loop IU) ⟨f,[fr],[]⟩ Q:=by
 let I:Nat→St→Prop:=fun n st=>∃f fr i,st=⟨f,[fr],[]⟩∧n=S.msgs.length-i∧i≤S.msgs.length∧Bs S (i) (0) f fr∧f 14=.list (S.msgs.map fun n=>.agg n.cells)∧f 15=.int .i64 (S.msgs.length:Nat)∧f 16=.int .i64 (i:Nat)
 have hl1:=hS.len1;subst hi0;refine Qg I _ ⟨f,fr,0,rfl,rfl,QFG _,H,hw,hz,hk⟩ ?_;clear H hw hz hk;rintro _ st ⟨f0,fr0,i,rfl,rfl,hi,⟨h10,h20,h40,⟨a,b,JS⟩,XE,r6,g,h,Kr,oR0,oT0⟩,hw0,hz0,hk0⟩;refine QD (a:=_) [6] (by intro s hs;exact r6 s (by simp only[QGF,QHk,or_false]at hs ⊢;omega)) ?_;intro f fr hf hmm hn;have h1:f 1=.ptr 0 1 0:=by rw[hf,h10]<;>rfl
 have h2:f 2=.ptr 0 2 0:=by rw[hf,h20]<;>rfl
 have h4:f 4=.ptr 0 4 0:=by rw[hf,h40]<;>rfl
 have hw:f 14=.list (S.msgs.map fun n=>.agg n.cells):=by rw[hf,hw0]<;>rfl
 have hz:f 15=.int .i64 (S.msgs.length:Nat):=by rw[hf,hz0]<;>rfl
 have hk:f 16=.int .i64 (i:Nat):=by rw[hf,hk0]<;>rfl
 have o1:fr 1=.cells [.list (S.msgs.map fun n=>.agg n.cells),.list (S.enums.map fun n=>.agg n.cells),.list (S.servs.map fun n=>.agg n.cells)]:=by rw[hmm 1 (by decide),XE]<;>rfl
 have o2:∃a b,fr 2=.cells [a,b]:=⟨_,_,by rw[hmm 2 (by decide),JS];rfl⟩;have o4:fr 4=.cells [.vec 0 1100 g 0 (i) false,.vec 0 1101 h 0 (0) false]:=by rw[hmm 4 (by decide),Kr]<;>rfl
 have oR:fr 1100=.vec g 3 ((S.msgs.take (i)).map fun m=>.agg (Xy S m).cells):=by rw[hmm 1100 (by decide),oR0]<;>rfl
 have oT:fr 1101=.vec h 5 ((S.enums.take (0)).map fun e=>.agg (X0 e).cells):=by rw[hmm 1101 (by decide),oT0]<;>rfl
 have nv:=hn 6 (by decide);have r6':∀s∈[6,8],(fr s).isRow=false:=by
  intro s hs;by_cases hsv:s=6
  ·subst hsv;rw[nv];rfl
  ·rw[hmm s (by simp only[QGF,QHk,or_false];exact hsv)];have:=r6 s hs
   revert this
   cases fr0 s<;>intro h<;>first|rfl|exact h
 clear hf hmm hn h10 h20 h40 JS XE r6 Kr oR0 oT0 hw0 hz0 hk0;simp only[IP,IQ,IR,IS,hz,hk,Qa,seval];by_cases hlt:i<S.msgs.length
 case neg=>
  have e:i=S.msgs.length:=by omega
  subst e;simp only[QB hlt,Qa,seval];exact hq _ _ ⟨(by exact h1),(by exact h2),(by exact h4),o2,o1,r6',g,h,o4,oR,oT⟩
 obtain⟨x,hx⟩:∃x,S.msgs[i]? = some x:=⟨S.msgs[i],QFA hlt⟩;have hm:=QFL hx;have hg:(S.msgs.map fun n=>AV.agg n.cells)[i]? = some (.agg x.cells):=by rw[QGI,hx];rfl
 rw[Xs]at hg;have e1:=Qn i _ hlt (by simp only[maxLen];omega);have htl:(S.msgs.take i).length=i:=by rw[QGk];omega
 have hc:=s14 hM S hS x (hS.msgs x hm);simp only[QW,Xs x,SC.av]at hc;simp only[Qz hlt,nv,Qj,QGM,Qe,hg,h1,h4,hw,hk,o1,o4,eE,seval];refine aC hc ?_;refine X4 rfl rfl (by decide) rfl rfl ?_;rw[show List.map nn0 (Xy S x).cells=(Xy S x).cells from rfl];refine Xa (xs:=(S.msgs.take i).map (fun m=>AV.agg (Xy S m).cells)) (by rfl) (by exact oR) rfl (by rw[QGK,htl]) (by rfl) rfl (by simp only[QFM,QGy,maxLen];omega) (by simp only[QFM,QGy];omega) ?_;simp only[h4,hk,o4,e1,eE,seval];obtain⟨a2,b2,o2⟩:=o2;have hsu:(S.msgs.take (i+1)).map (fun m=>AV.agg (Xy S m).cells)=(S.msgs.take i).map (fun m=>AV.agg (Xy S m).cells)++[(fun m=>AV.agg (Xy S m).cells) x]:=by rw[QGU,hx,QGV,QGT];rfl
 refine⟨S.msgs.length-(i+1),by omega,_,_,i+1,rfl,rfl,by omega,⟨(by exact h1),(by exact h2),(by exact h4),⟨a2,b2,(by exact o2)⟩,(by exact o1),?_,_,_,(by rfl),?_,?_⟩,(by exact hw),(by exact hz),(by rfl)⟩
 ·intro s hs;simp only[QGF,QHk,or_false]at hs;rcases hs with rfl|rfl<;>first|rfl|exact r6' _ (by decide)
 ·first|exact oR|(rw[hsu];rfl)|simp only[oR,eE,seval]
 ·first|exact oT|(rw[hsu];rfl)|simp only[oT,eE,seval]

include hM hS in
theorem QAA {i:Nat}(f:Fr)(fr:Nat→Ob)(H:Bs S (S.msgs.length) (i) f fr)(hi0:i=0)(hw:f 30=.list (S.enums.map fun n=>.agg n.cells))(hz:f 31=.int .i64 (S.enums.length:Nat))(hk:f 32=.int .i64 0)(Q:Exit→St→Prop)
  (hq:∀f fr,Bs S (S.msgs.length) (S.enums.length) f fr→Q (.exit 2) ⟨f,[fr],[]⟩):QJ Tryz.prog (.loop IW) ⟨f,[fr],[]⟩ Q:=by
 let I:Nat→St→Prop:=fun n st=>∃f fr i,st=⟨f,[fr],[]⟩∧n=S.enums.length-i∧i≤S.enums.length∧Bs S (S.msgs.length) (i) f fr∧f 30=.list (S.enums.map fun n=>.agg n.cells)∧f 31=.int .i64 (S.enums.length:Nat)∧f 32=.int .i64 (i:Nat)
 have hl1:=hS.len2;subst hi0;refine Qg I _ ⟨f,fr,0,rfl,rfl,QFG _,H,hw,hz,hk⟩ ?_;clear H hw hz hk;rintro _ st ⟨f0,fr0,i,rfl,rfl,hi,⟨h10,h20,h40,⟨a,b,JS⟩,XE,r6,g,h,Kr,oR0,oT0⟩,hw0,hz0,hk0⟩;refine QD (a:=_) [8] (by intro s hs;exact r6 s (by simp only[QGF,QHk,or_false]at hs ⊢;omega)) ?_;intro f fr hf hmm hn;have h1:f 1=.ptr 0 1 0:=by rw[hf,h10]<;>rfl
 have h2:f 2=.ptr 0 2 0:=by rw[hf,h20]<;>rfl
 have h4:f 4=.ptr 0 4 0:=by rw[hf,h40]<;>rfl
 have hw:f 30=.list (S.enums.map fun n=>.agg n.cells):=by rw[hf,hw0]<;>rfl
 have hz:f 31=.int .i64 (S.enums.length:Nat):=by rw[hf,hz0]<;>rfl
 have hk:f 32=.int .i64 (i:Nat):=by rw[hf,hk0]<;>rfl
 have o1:fr 1=.cells [.list (S.msgs.map fun n=>.agg n.cells),.list (S.enums.map fun n=>.agg n.cells),.list (S.servs.map fun n=>.agg n.cells)]:=by rw[hmm 1 (by decide),XE]<;>rfl
 have o2:∃a b,fr 2=.cells [a,b]:=⟨_,_,by rw[hmm 2 (by decide),JS];rfl⟩;have o4:fr 4=.cells [.vec 0 1100 g 0 (S.msgs.length) false,.vec 0 1101 h 0 (i) false]:=by rw[hmm 4 (by decide),Kr]<;>rfl
 have oR:fr 1100=.vec g 3 ((S.msgs.take (S.msgs.length)).map fun m=>.agg (Xy S m).cells):=by rw[hmm 1100 (by decide),oR0]<;>rfl
 have oT:fr 1101=.vec h 5 ((S.enums.take (i)).map fun e=>.agg (X0 e).cells):=by rw[hmm 1101 (by decide),oT0]<;>rfl
 have nv:=hn 8 (by decide);have r6':∀s∈[6,8],(fr s).isRow=false:=by
  intro s hs;by_cases hsv:s=8
  ·subst hsv;rw[nv];rfl
  ·rw[hmm s (by simp only[QGF,QHk,or_false];exact hsv)];have:=r6 s hs
   revert this
   cases fr0 s<;>intro h<;>first|rfl|exact h
 clear hf hmm hn h10 h20 h40 JS XE r6 Kr oR0 oT0 hw0 hz0 hk0;simp only[P6,P7,P8,P9,hz,hk,Qa,seval];by_cases hlt:i<S.enums.length
 case neg=>
  have e:i=S.enums.length:=by omega
  subst e;simp only[QB hlt,Qa,seval];exact hq _ _ ⟨(by exact h1),(by exact h2),(by exact h4),o2,o1,r6',g,h,o4,oR,oT⟩
 obtain⟨x,hx⟩:∃x,S.enums[i]? = some x:=⟨S.enums[i],QFA hlt⟩;have hm:=QFL hx;have hg:(S.enums.map fun n=>AV.agg n.cells)[i]? = some (.agg x.cells):=by rw[QGI,hx];rfl
 rw[X1]at hg;have e1:=Qn i _ hlt (by simp only[maxLen];omega);have htl:(S.enums.take i).length=i:=by rw[QGk];omega
 have hc:=s15 hM x (hS.enums x hm);simp only[XM,X1 x]at hc;simp only[Qz hlt,nv,Qj,QGM,Qe,hg,h4,hw,hk,o4,eE,seval];refine aC hc ?_;refine X4 rfl rfl (by decide) rfl rfl ?_;rw[show List.map nn0 (X0 x).cells=(X0 x).cells from rfl];refine Xa (xs:=(S.enums.take i).map (fun e=>AV.agg (X0 e).cells)) (by rfl) (by exact oT) rfl (by rw[QGK,htl]) (by rfl) rfl (by simp only[QFM,QGy,maxLen];omega) (by simp only[QFM,QGy];omega) ?_;simp only[h4,hk,o4,e1,eE,seval];obtain⟨a2,b2,o2⟩:=o2;have hsu:(S.enums.take (i+1)).map (fun e=>AV.agg (X0 e).cells)=(S.enums.take i).map (fun e=>AV.agg (X0 e).cells)++[(fun e=>AV.agg (X0 e).cells) x]:=by rw[QGU,hx,QGV,QGT];rfl
 refine⟨S.enums.length-(i+1),by omega,_,_,i+1,rfl,rfl,by omega,⟨(by exact h1),(by exact h2),(by exact h4),⟨a2,b2,(by exact o2)⟩,(by exact o1),?_,_,_,(by rfl),?_,?_⟩,(by exact hw),(by exact hz),(by rfl)⟩
 ·intro s hs;simp only[QGF,QHk,or_false]at hs;rcases hs with rfl|rfl<;>first|rfl|exact r6' _ (by decide)
 ·first|exact oR|(rw[hsu];rfl)|simp only[oR,eE,seval]
 ·first|exact oT|(rw[hsu];rfl)|simp only[oT,eE,seval]

include hM hS in
theorem s6 (h8:S.msgs.length≤8∧S.enums.length≤8∧S.servs.length≤8):Qr Tryz.prog 6 [S.av] (mkR S):=by
 have hv:=s13 hM S hS h8;simp only[SC.av]at hv;refine k6.fn (by simp) ?_;simp only[r6,o6,II,IJ,SC.av,eE,seval];refine aC hv ?_;unfold mkR;cases hs:Z3 S
 ·rw[QFE (by simp)];simp only[IK,QGv,eE,seval]
 rw[QFF rfl];simp only[IM,QG1,eE,seval];refine Xz rfl rfl rfl rfl ?_;refine Xz rfl rfl rfl rfl ?_;simp only[IN,QGK,eE,seval];refine QAz hM S hS (i:=0) _ _ ⟨(by rfl),(by rfl),(by rfl),⟨_,_,rfl⟩,(by rfl),by intro s hs;simp only[QGF,QHk,or_false]at hs;rcases hs with rfl|rfl<;>rfl,1,1,(by rfl),(by rfl),(by rfl)⟩ rfl (by rfl) (by rfl) (by rfl) _ (fun f fr H=>?_);obtain⟨h1,h2,h4,o2,o1,r6,g,h,o4,oR,oT⟩:=H;simp only[IV,h1,o1,QGK,eE,seval];refine QAA hM S hS (i:=0) _ _ ⟨(by exact h1),(by exact h2),(by exact h4),o2,o1,r6,g,h,o4,oR,oT⟩ rfl (by rfl) (by rfl) (by rfl) _ (fun f fr H=>?_);clear h1 h2 h4 o2 o1 r6 o4 oR oT;obtain⟨h1,h2,h4,⟨a,b,o2⟩,o1,r6,g,h,o4,oR,oT⟩:=H;have ht1:List.take S.msgs.length (S.msgs.map fun m=>AV.agg (Xy S m).cells)=S.msgs.map fun m=>AV.agg (Xy S m).cells:=QF4 (by simp)
 have ht2:List.take S.enums.length (S.enums.map fun m=>AV.agg (X0 m).cells)=S.enums.map fun m=>AV.agg (X0 m).cells:=QF4 (by simp)
 have eP:(ZB S).av=.agg [.list (S.msgs.map fun m=>.agg (Xy S m).cells),.list (S.enums.map fun e=>.agg (X0 e).cells)]:=by
  unfold PL.av ZB;simp only[QGY];rfl
 rw[QGS]at oR oT;simp only[Ra,h2,h4,o2,o4,oR,oT,eP,ht1,ht2,QGK,QGb,QFW,QFx,QGr,QGw,AV.un,AV.unL,eE,seval]
end

theorem K5 {k:Int}(h : -9223372036854775808≤k)(h':k<9223372036854775808):(Lit.int .i64 k).wf=true:=by
 simp[Lit.wf,IntKind.min,IntKind.max,IntKind.bits,IntKind.signed];omega
section
variable {P:Program}{M k:Nat}{t:TypeId}
theorem Mn {fs:Array Field}{cs:List AV}(hu:P.underlying t=some (.struct fs))(h:QS.HasL (QS P M k) fs.toList cs):QS P M (k+1) t cs:=by
 simp only[QS,hu];exact h
theorem Mo {ik:IntKind}{n:Int}(hu:P.underlying t=some (.int ik))(h:(Lit.int ik n).wf=true):QS P M (k+1) t [.int ik n]:=by
 simp only[QS,hu];exact⟨n,rfl,h⟩
theorem Qmy {s:List UInt8}(hu:P.underlying t=some .string)(h:s.length≤M):QS P M (k+1) t [.str s]:=by
 simp only[QS,hu];exact⟨s,rfl,h⟩
theorem UG {e:TypeId}(hu:P.underlying t=some (.slice e)):QS P M (k+1) t [.list []]:=by
 simp only[QS,hu];exact⟨[],rfl,⟨QFG _,fun _=>by simp⟩,fun c hc=>absurd hc QHk,QFG _⟩
theorem PP {f0 f1 f2 f3 f4 f5 f6:Field}{e3 e4 e5 e6:TypeId}(hu:P.underlying t=some (.struct #[f0,f1,f2,f3,f4,f5,f6]))(u0:P.underlying f0.type=some (.int .i64))(u1:P.underlying f1.type=some (.int .u64))(u2:P.underlying f2.type=some .string)
  (u3:P.underlying f3.type=some (.slice e3)) (u4:P.underlying f4.type=some (.slice e4)) (u5:P.underlying f5.type=some (.slice e5)) (u6:P.underlying f6.type=some (.slice e6)) {a b:Int} {s:List UInt8} (ha:(Lit.int .i64 a).wf=true) (hb:(Lit.int .u64 b).wf=true) (hs:s.length≤M) :
  ∃k,QS P M k t [.int .i64 a,.int .u64 b,.str s,.list [],.list [],.list [],.list []]:=by
 refine⟨2,Mn hu ?_⟩;simp only[QS.HasL];exact⟨[.int .i64 a],_,rfl,Mo u0 ha,[.int .u64 b],_,rfl,Mo u1 hb,[.str s],_,rfl,Qmy u2 hs,[.list []],_,rfl,UG u3,[.list []],_,rfl,UG u4,[.list []],_,rfl,UG u5,[.list []],_,rfl,UG u6,rfl⟩
end
theorem PQ {M M':Nat}{v:V}(hv:v.ok M)(hM:M≤M')(hf:v.fitk 7=true):∃k,QS Tryz.prog M' k 69 v.cells:=by
 have hlon:KF (v.list.map V.av) (v.pairs.map V.pav) (v.slots.map V.sav) (v.raws.map R.av)=true:=by
  unfold V.fitk XR at hf;simp only[QFU]at hf;exact hf.1.1.1.1.2
 unfold KF at hlon;rw[QFU,QFU,QFU,ZQ,ZQ,ZQ,ZQ,QGK,QGK,QGK,QGK]at hlon;have e1:v.list=[]:=QGs (eq_of_beq hlon.1.1.1);have e2:v.pairs=[]:=QGs (eq_of_beq hlon.1.1.2);have e3:v.slots=[]:=QGs (eq_of_beq hlon.1.2);have e4:v.raws=[]:=QGs (eq_of_beq hlon.2);rw[V.eta,e1,e2,e3,e4];exact PP Tryz.underlying69 Tryz.underlying3 Tryz.underlying63 Tryz.underlying9 Tryz.underlying64 Tryz.underlying65 Tryz.underlying66 Tryz.underlying67 hv.kd hv.bits (QFy hv.text hM)

theorem Qmz {M:Nat}(hM:M≤1048576){S:SC}(hS:S.ok M)(f:SF):(Lit.int .i64 (Jw S f)).wf=true:=by
 have l1:=hS.len1;have l2:=hS.len2;have key:∀ {α:Type} (p:α→Bool) (l:List α),l.length≤M→(Lit.int .i64 (QM p l 0)).wf=true:=by
  intro α p l hl;rcases Xr p l 0 with⟨h,_⟩|⟨k,o,h,ho,_⟩
  ·rw[h];exact K5 (by omega) (by omega)
  ·have:=(QFz.1 ho).1;rw[h];exact K5 (by omega) (by omega)
 unfold Jw;split
 ·exact key _ _ l1
 ·split
  ·exact key _ _ l2
  ·exact K5 (by omega) (by omega)
theorem UH {m:SM}{f:SF}(hf:f∈m.fields) : -1≤Xp (unl [] m.fields) f∧Xp (unl [] m.fields) f<((unl [] m.fields).length:Int)∧(decide (Xp (unl [] m.fields) f≥0)=!(f.union==[])):=by
 unfold Xp;by_cases hu:f.union=[]
 ·rw[QFF hu];have d:(f.union==[])=true:=by simp[hu]
  refine⟨by omega,by omega,?_⟩;rw[d];rfl
 ·have hm:f.union∈unl [] m.fields:=(KX m.fields [] f.union).2 (.inr ⟨hu,f,hf,rfl⟩);have h:=Hj (r:=[]) hm;rw[QGq]at h;have d:(f.union==[])=false:=by simp[hu]
  rw[QFE hu,d];refine⟨by omega,h.2.2,?_⟩;rw[QHa (by omega)];rfl
theorem EU (m:SM):(unl [] m.fields).length≤m.fields.length:=by
 have:=UF m.fields m.fields.length
 rwa [Mi]at this

section
variable {M:Nat}(hM:M≤1048576)(S:SC)(hS:S.ok M)(hv:Z3 S=true)
include hM hS hv in
theorem QmA:(ZB S).ok 1048576:=by
 have hk:=DY hv;have l1:=hS.len1;have l2:=hS.len2;refine⟨by unfold ZB;simp only[QGK,maxLen];omega,fun g hg=>?_,by unfold ZB;simp only[QGK,maxLen];omega,fun g hg=>?_⟩
 ·obtain⟨m,hm,rfl⟩:=QGG.1 hg;have hmo:=hS.msgs m hm;have hmk:=Jn (hk.ms m hm);have hl:=hmo.len1;have hul:=EU m;refine⟨by have:=hmo.name;simp only[Xy];omega,by simp only[Xy,QGK,maxLen];omega,fun o ho=>?_,K5 (by simp only[Xy];omega) (by simp only[Xy];omega)⟩;obtain⟨f,hf,rfl⟩:=QGG.1 ho;have hfo:=hmo.fields f hf;obtain⟨i,hi⟩:=QFJ.1 hf;have hfk:=JP hmk hi;have hu:=UH hf;refine⟨hfo.num,by have:=hfo.name;simp only[Zm];omega,?_,hfo.card,hfo.key,hfo.kind,Qmz hM hS f,K5 (by rw[show(Zm S (unl [] m.fields) f).union=Xp (unl [] m.fields) f from rfl];omega) (by rw[show(Zm S (unl [] m.fields) f).union=Xp (unl [] m.fields) f from rfl];omega)⟩;simp only[Zm];cases ha:Xk f.notes with
  |none=>simp
  |some v=>
   have:=(HL (KI hfk.notes ha)).2;simp only[QFX,QGx];omega
 ·obtain⟨e,he,rfl⟩:=QGG.1 hg;have heo:=hS.enums e he;have hek:=Ku (hk.es e he);have q1:=heo.len1;have q2:=heo.len2;refine⟨by have:=heo.name;simp only[X0];omega,by simp only[X0,QGK,maxLen];omega,fun x hx=>?_,by simp only[X0,maxLen];omega,heo.free,by simp only[X0,QGy,maxLen];omega,fun n hn=>by cases hn⟩;obtain⟨y,hy,rfl⟩:=QGG.1 hx;have hyo:=heo.items y hy;obtain⟨i,hi⟩:=QFJ.1 hy;have hik:=Kv hek hi;refine⟨by have:=hyo.name;simp only[Z4];omega,hyo.num,?_,fun n hn=>?_⟩
  ·simp only[Z4];split<;>simp[maxLen]
  ·simp only[Z4]at hn;cases ha:Xk y.notes with
   |none=>rw[ha]at hn;cases hn
   |some v=>
    rw[ha]at hn;rcases List.mem_singleton.1 hn with rfl
    have hf:=KI hik.notes ha;refine⟨by show(5:Nat)≤1048576;omega,PQ (M:=M) ?_ hM hf⟩;unfold Xk at ha;cases hq:y.notes.find? fun n=>n.name==alias with
    |none=>rw[hq]at ha;cases ha
    |some n=>
     rw[hq]at ha;cases ha;have hno:=hyo.notes n (QG8 hq);exact hno.val
end

end Go.Proofs.YtaiflhahcglpgaaGreatDoor.Va

namespace Go.Proofs.YtaiflhahcglpgaaGreatDoor.Rc
open Go Am
def QAB:IL:=[jg 1 1 0,je 2]
def QAC:IL:=[jj 7 3 1,js 8 5 7,jy 9 8]
def QAD:IL:=[yb 2]
def QAE:IL:=[jj 11 3 1,js 12 6 11,ja 10 12,jz 13 10 0,jz 14 10 1,HA 3 3,jo 2 3 13,ja 4 14]
def QAF:IL:=[jj 16 3 1,js 17 7 16,ja 15 17,jz 18 15 0,jz 19 15 1,HA 5 5,jo 2 5 18,ja 6 19]
def QAG:IL:=[ja 20 4,ja 21 6,zq 22 20 21,ja 23 22,Fv 24 2 3 23,Fv 25 2 5 23,Fs 26 8 24 25 23,ji 27 23 26,ja 28 27,⟨some 29,.call (.f 9) [],(some (28,true))⟩,ji 30 28 29,ja 2 30]
def r3:RC:=jQ QAB (.seq (jQ QAC (.cond (.t 9) (jQ QAD (.ret)) (.skip))) (jQ QAE (jQ QAF (jQ QAG (.ret)))))
def o3:List RR:=[.tmp 2]
theorem k3:CT 3 31 r3 o3:=ck Tryz.func3 Tryz.ntmps3 (by decide +kernel)
def QmB:IL:=[jg 1 1 0,je 2]
def QmC:IL:=[jj 9 3 1,js 10 5 9,jy 11 10,ja 12 11,zz 13 3 1 12,zg 14 10 13 12,zf 15 14 12,jq 16 12 15]
def PR:IL:=[yb 2]
def QmD:IL:=[jj 18 3 1,js 19 6 18,ja 17 19,jz 20 17 0,jz 21 17 1,HA 3 3,jo 2 3 20,ja 4 21]
def QmE:IL:=[ja 22 4,yo 23 22 0,ja 24 23,zz 25 2 3 24,zg 26 11 25 24,NW 27 26 0 24,jq 28 24 27,ja 29 28,jm 30 0 3 29,jv 31 30 29,yw 32 1 31 29,jm 33 0 1 29,jv 34 33 29,yw 35 1 34 29,zj 36 32 35 29,jq 37 29 36,ja 38 37,jm 39 1 3 38,jv 40 39 38,yw 41 1 40 38,jm 42 1 1 38,jv 43 42 38,yw 44 1 43 38,zj 45 41 44 38,jq 46 38 45]
def QAH:IL:=[je 2]
def QmF:IL:=[jd 5 0]
def QmG:IL:=[ja 47 5,jb 48 0 1,jc 49 48,jk 50 1 49,jr 51 47 50]
def QmH:IL:=[jb 54 0 1,jt 55 0 1 54,ja 56 5,jl 57 5 55 56,ym 58 5 57,jb 59 0 3,jt 60 0 3 59,ja 61 5,jl 62 3 60 61,ym 63 3 62,ze 6 6,NV 7 7,yz 0 6 5 6 58,yz 0 7 3 7 63]
def SD:IL:=[jb 64 0 7,jc 65 64,jb 66 0 6,jc 67 66,⟨some 68,.val (.bin .str .neq (.t 65) (.t 67)),none⟩,ja 69 68,jm 70 1 7 69,jv 71 70 69,yw 72 1 71 69,jm 73 1 6 69,jv 74 73 69,yw 75 1 74 69,zj 76 72 75 69,jq 77 69 76]
def QsP:IL:=[je 2]
def SG:IL:=[jd 8 0]
def SH:IL:=[ja 78 8,jb 79 1 6,jc 80 79,jk 81 1 80,jr 82 78 81]
def SJ:IL:=[jj 85 2 3,jj 86 3 1,jj 87 5 6,jj 88 3 7,ja 89 8,⟨some 90,.call (.f 12) [(.t 85),(.t 86),(.t 87),(.t 88),(.t 89)],none⟩,jy 91 90]
def QsQ:IL:=[je 2]
def SK:IL:=[ja 83 8,jn 84 83 1,ja 8 84]
def QmI:RC:=.seq (jQ SH (jX 82 2)) (.seq (.block 3 (jQ SJ (.cond (.t 91) (jQ QsQ (.ret)) (.skip)))) (.reg SK))
def QmJ:IL:=[ja 52 5,jn 53 52 1,ja 5 53]
def QAI:RC:=.gho (.drop 7) (.gho (.drop 6) (.seq (jQ QmG (jX 51 0)) (.seq (.block 1 (jD QmH (.seq (jQ SD (.cond (.t 77) (jQ QsP (.ret)) (.skip))) (jQ SG (.block 2 (.loop QmI)))))) (.reg QmJ))))
def SL:IL:=[⟨some 92,.call (.f 9) [],none⟩,ja 2 92]
def r4:RC:=jQ QmB (.seq (jQ QmC (.cond (.t 16) (jQ PR (.ret)) (.skip))) (jQ QmD (.seq (jQ QmE (.cond (.t 46) (jQ QAH (.ret)) (.skip))) (.seq (jQ QmF (.block 0 (.loop QAI))) (jQ SL (.ret))))))
def o4:List RR:=[.tmp 2]
theorem k4:CT 4 93 r4 o4:=ck Tryz.func4 Tryz.ntmps4 (by decide +kernel)
abbrev QAJ:IL:=[jg 1 1 0,je 2]
abbrev QAK:IL:=[jb 3 0 1,jc 4 3,jk 5 1 4,Fw 6 5 8,ja 7 6,jf 8 1 1 7,jp 9 8 7,ya 10 1 9 7,yn 11 10 8 7,ji 12 7 11,ja 13 12,jf 14 2 1 13,jp 15 14 13,ya 16 1 15 13,yn 17 16 8 13,ji 18 13 17,ja 2 18]
abbrev r5:RC:=jQ QAJ (jQ QAK (.ret))
abbrev o5:List RR:=[.tmp 2]
theorem k5:CT 5 19 r5 o5:=ck Tryz.func5 Tryz.ntmps5 (by decide +kernel)
def SP:IL:=[jg 5 5 0,jg 6 6 1,jg 7 7 2,jg 8 8 3,je 10]
def SR:IL:=[jb 18 1 7,jt 19 0 7 18,ja 20 4,jl 21 16 19 20,ym 22 16 21,jb 23 1 8,jt 24 0 8 23,ja 25 4,jl 26 8 24 25,ym 27 8 26,zt 11 11,NU 12 12,yz 0 11 16 11 22,yz 0 12 8 12 27]
def SS:IL:=[jb 28 0 12,jc 29 28,jb 30 0 11,jc 31 30,⟨some 32,.val (.bin .num .neq (.t 29) (.t 31)),none⟩,ja 33 32,jm 34 1 12 33,jv 35 34 33,jm 36 1 11 33,jv 37 36 33,⟨some 38,.val (.bin .str .neq (.t 35) (.t 37)),(some (33,false))⟩,jq 39 33 38,ja 40 39,jm 41 3 12 40,jv 42 41 40,jm 43 2 11 40,jv 44 43 40,zj 45 42 44 40,jq 46 40 45,ja 47 46,jm 48 4 12 47,jv 49 48 47,jm 50 3 11 47,jv 51 50 47,zj 52 49 51 47,jq 53 47 52,ja 54 53,jm 55 5 12 54,jv 56 55 54,jm 57 4 11 54,jm 58 0 57 54,jv 59 58 54,zj 60 56 59 54,jq 61 54 60,ja 62 61,jm 63 7 12 62,jv 64 63 62,⟨some 65,.val (.bin .num .geq (.t 64) (.c (.int .i64 0))),(some (62,false))⟩,jm 66 6 11 62,jv 67 66 62,⟨some 68,.val (.bin .str .neq (.t 67) (.c (.str []))),(some (62,false))⟩,⟨some 69,.val (.bin .bool .neq (.t 65) (.t 68)),(some (62,false))⟩,jq 70 62 69,ja 71 70,jm 72 7 12 71,jv 73 72 71,jm 74 2 8 71,jv 75 74 71,⟨some 76,.val (.bin .num .geq (.t 73) (.t 75)),(some (71,false))⟩,jq 77 71 76]
def QsR:IL:=[je 10]
def SU:IL:=[jd 13 0]
def SX:IL:=[ja 78 13,ja 79 4,jr 80 78 79]
def SY:IL:=[jb 83 1 7,jt 84 0 7 83,ja 85 13,jl 86 16 84 85,jb 87 6 86,yk 88 87,jb 89 6 11,jt 90 0 11 89,yf 91 88 90,ja 92 91,jf 93 6 11 92,yh 94 0 11 93 92,⟨some 95,.val (.bin .str .neq (.t 94) (.c (.str []))),(some (92,true))⟩,ji 96 92 95,jb 97 1 8,jt 98 0 8 97,ja 99 13,jl 100 8 98 99,jb 101 7 100,yk 102 101,jb 103 7 12,jt 104 0 12 103,zq 105 102 104,ja 106 105,jf 107 7 12 106,yh 108 0 12 107 106,zw 109 108 (-1) 106,ji 110 106 109,⟨some 111,.val (.bin .bool .neq (.t 96) (.t 110)),none⟩]
def QsS:IL:=[je 10]
def SZ:IL:=[ja 81 13,jn 82 81 1,ja 13 82]
def S0:RC:=.seq (jQ SX (jX 80 0)) (.seq (.block 1 (jD SY (.cond (.t 111) (jQ QsS (.ret)) (.skip)))) (.reg SZ))
def S1:IL:=[jj 113 3 6,jb 114 4 11,jb 115 1 114,jc 116 115,jx 117 31 113 116,ja 112 117,jz 118 112 0,jz 119 112 1,ze 14 14,jo 5 14 118,ja 15 119]
def Mp:IL:=[jj 121 3 6,jb 122 4 11,jb 123 1 122,jc 124 123,jx 125 32 121 124,ja 120 125,jz 126 120 0,jz 127 120 1,zm 16 16,jo 5 16 126,ja 17 127]
def Mq:IL:=[jb 128 5 12,jc 129 128]
def Mr:IL:=[ju 131 129 10,ja 130 131]
def Ms:IL:=[jb 132 6 12,jt 133 0 12 132,ja 134 15,zq 135 133 134,ja 136 135,jh 137 15 136,jf 138 0 5 136,yh 139 0 5 138 136,ya 140 1 139 136,zk 141 137 140 136,ji 142 136 141,ja 143 142,jf 144 0 5 143,yh 145 0 5 144 143,jh 146 15 143,yi 147 3 145 146 143,jf 148 0 147 143,yu 149 148 143,jf 150 4 11 143,jf 151 1 150 143,yh 152 0 11 151 143,HC 153 149 152 143,ji 154 143 153,ja 10 154]
def D3:IL:=[ju 156 129 9,ja 155 156]
def Mt:IL:=[jb 157 6 12,jt 158 0 12 157,ja 159 17,zq 160 158 159,ja 161 160,jh 162 17 161,jf 163 1 5 161,yh 164 0 5 163 161,ya 165 1 164 161,zk 166 162 165 161,ji 167 161 166,ja 168 167,jf 169 1 5 168,yh 170 0 5 169 168,jh 171 17 168,yi 172 5 170 171 168,jf 173 0 172 168,yu 174 173 168,jf 175 4 11 168,jf 176 1 175 168,yh 177 0 11 176 168,HC 178 174 177 168,ji 179 168 178,ja 10 179]
def Mu:IL:=[jb 180 6 12,jc 181 180,ju 182 181 (-1),ja 10 182]
def r12:RC:=jQ SP (jD SR (.seq (jQ SS (.cond (.t 77) (jQ QsR (.ret)) (.skip))) (.seq (jQ SU (.block 0 (.loop S0))) (jQ S1 (jQ Mp (.seq (jQ Mq (.block 2 (jQ Mr (.cond (.t 130) (jD Ms (.ret)) (jQ D3 (.cond (.t 155) (jD Mt (.ret)) (.skip))))))) (jQ Mu (.ret))))))))
def UI:List RR:=[.tmp 10]
theorem k12:CT 12 183 r12 UI:=ck Tryz.func12 Tryz.ntmps12 (by decide +kernel)
end Go.Proofs.YtaiflhahcglpgaaGreatDoor.Rc

namespace Go.Proofs.YtaiflhahcglpgaaGreatDoor.Va
open Go Am Rc Bt Br Up So

theorem z5 (S:SC):Qr Tryz.prog 5 [S.av] (.bool (decide ((S.msgs.length:Int)≤8)&&decide ((S.enums.length:Int)≤8)&&decide ((S.servs.length:Int)≤8))):=by
 refine k5.fn (by simp) ?_;simp only[SC.av,QGK,eE,seval];cases h1:decide ((S.msgs.length:Int)≤8)
 ·simp only[QGP,Qa,seval]
 cases h2:decide ((S.enums.length:Int)≤8)
 ·simp only[h2,QGK,QG0,QGP,eE,seval]
 simp only[h2,QGK,QG0,eE,seval]

theorem PT {m:SM}{x y:SF}(hx:x∈m.fields)(hy:y∈m.fields):(!((y.union==x.union && !(x.union==[]))==(Xp (unl [] m.fields) y==Xp (unl [] m.fields) x&&Xp (unl [] m.fields) x != -1)))=false:=by
 obtain⟨hx1,hx2,hx3⟩:=UH hx;obtain⟨hy1,hy2,hy3⟩:=UH hy;have key:(y.union==x.union && !(x.union==[]))=(Xp (unl [] m.fields) y==Xp (unl [] m.fields) x&&Xp (unl [] m.fields) x != -1):=by
  by_cases hu:x.union=[]
  ·have e:Xp (unl [] m.fields) x = -1:=QFF hu;rw[e,show(x.union==[])=true by simp[hu]];simp
  ·have d:(x.union==[])=false:=by simp[hu]
   rw[d]at hx3;have hne:(Xp (unl [] m.fields) x != -1)=true:=by
    have:=of_decide_eq_true hx3;rw[QFZ];omega
   rw[d,hne,QGv,QGA,QGA,QGj,QFV,QFV]
   constructor
   ·intro h;unfold Xp;rw[h]
   ·intro h;have hyu:y.union≠[]:=by
     intro hyu;have e:Xp (unl [] m.fields) y = -1:=QFF hyu;have:=of_decide_eq_true hx3;omega
    unfold Xp at h;rw[QFE hyu,QFE hu]at h;have m1:y.union∈unl [] m.fields:=(KX m.fields [] y.union).2 (.inr ⟨hyu,y,hy,rfl⟩);unfold Zv at h;rcases Xr (fun u=>u==y.union) (unl [] m.fields) 0 with⟨_,hn⟩|⟨k,o,h1,h2,h3⟩
    ·have:=QG6.1 hn _ m1;simp at this
    ·have o1:o=y.union:=by simpa using QG9 h3
     rcases Xr (fun u=>u==x.union) (unl [] m.fields) 0 with⟨g1,_⟩|⟨k',o',g1,g2,g3⟩
     ·omega
     ·have o2:o'=x.union:=by simpa using QG9 g3
      have ek:k=k':=by omega
      subst ek;rw[h2]at g2;cases g2;rw[←o1,o2]
 rw[key];simp

section
variable {M:Nat}(hM:M≤1048576)(S:SC)(hS:S.ok M)(hv:Z3 S=true)(m:SM)(hm:m∈S.msgs)(k:Nat)(x:SF)(hx:m.fields[k]? = some x)
include hM hS hv hm hx in
theorem c12:Qr Tryz.prog 12 [(ZB S).av,S.av,QW m,QR (Xy S m),.int .i64 (k:Nat)] (.bool true):=by
 obtain⟨l1,l2,_⟩:=Zn S hS hM;have hk:=DY hv;have hmo:=hS.msgs m hm;have hl1:=hmo.len1;have hxm:=QFL hx;obtain⟨u1,u2,u3⟩:=UH hxm;have hkl:=(QFz.1 hx).1;have u4:decide (Xp (unl [] m.fields) x≥((unl [] m.fields).length:Int))=false:=QHf (by omega);have eP:(ZB S).av=.agg [.list ((S.msgs.map (Xy S)).map QR),.list ((S.enums.map X0).map Q2)]:=rfl;have eG:QR (Xy S m)=.agg [.str m.name,.list ((m.fields.map (Zm S (unl [] m.fields))).map Q3),.int .i64 ((unl [] m.fields).length:Nat)]:=rfl;have hg:(m.fields.map fun n=>AV.agg n.cells)[k]? = some (.agg x.cells):=by rw[QGI,hx];rfl
 rw[QG]at hg;have ho:((m.fields.map (Zm S (unl [] m.fields))).map Q3)[k]? = some (.agg (Wy S x (Xp (unl [] m.fields) x))):=by rw[QGI,QGI,hx];rfl
 simp only[Wy]at ho;have b1:(x.num != x.num)=false:=by simp
 have b2:(x.name==x.name)=true:=by simp
 have b3:(x.card != x.card)=false:=by simp
 have b4:(x.key != x.key)=false:=by simp
 have b5:(x.kind != x.kind)=false:=by simp
 have b6:(!(decide (Xp (unl [] m.fields) x≥0) == !(x.union==[])))=false:=by rw[u3];simp
 have hc1:=u31 S l1 x.tname;have hc2:=u32 S l2 x.tname;generalize (S.msgs.find? fun m=>m.name==x.tname).getD C5=m0 at hc1;generalize (S.enums.find? fun m=>m.name==x.tname).getD C6=e0 at hc2;simp only[QW,Xs m0,SC.av]at hc1;simp only[XM,X1 e0,SC.av]at hc2;refine k12.fn (by simp) ?_;simp only[r12,UI,SP,SR,eP,eG,SC.av,QW,Xs m,Qj,QGM,Qe,hg,ho,eE,seval];simp only[SS,b1,b2,b3,b4,b5,b6,u4,Qy,QG1,eE,seval];simp only[SU,Qa,seval];generalize hfr:(Qx (Qx _ 11 _) 12 _:Nat→Ob)=fr;have o5:fr 5=.cells [.list ((S.msgs.map (Xy S)).map QR),.list ((S.enums.map X0).map Q2)]:=by rw[←hfr];exact(by rfl)
 have o6:fr 6=.cells [.list (S.msgs.map fun n=>.agg n.cells),.list (S.enums.map fun n=>.agg n.cells),.list (S.servs.map fun n=>.agg n.cells)]:=by rw[←hfr];exact(by rfl)
 have o7:fr 7=.cells [.str m.name,.list (m.fields.map fun n=>.agg n.cells),.list (m.free.map fun n=>.agg n.cells),.list (m.gone.map AV.str),.list (m.notes.map fun n=>.agg n.cells)]:=by rw[←hfr];exact(by rfl)
 have o8:fr 8=.cells [.str m.name,.list ((m.fields.map (Zm S (unl [] m.fields))).map Q3),.int .i64 ((unl [] m.fields).length:Nat)]:=by rw[←hfr];exact(by rfl)
 have Ul:fr 11=.cells x.cells:=by rw[←hfr,QG];exact(by rfl)
 have UI:fr 12=.cells (Wy S x (Xp (unl [] m.fields) x)):=by rw[←hfr];exact(by rfl)
 have n14:fr 14=.none:=by rw[←hfr];rfl
 have n16:fr 16=.none:=by rw[←hfr];rfl
 clear hfr;rw[QG]at Ul;simp only[Wy]at UI
 let L:List (Nat×AV):=[(4,.int .i64 (k:Nat)),(5,.ptr 0 5 0),(6,.ptr 0 6 0),(7,.ptr 0 7 0),(8,.ptr 0 8 0),(11,.ptr 0 11 0),(12,.ptr 0 12 0)]
 let I:Nat→St→Prop:=fun n st=>∃f i,st=⟨f,[fr],[]⟩∧n=k-i∧i≤k∧Hd f L∧f 13=.int .i64 (i:Nat)
 refine Qg I _ ⟨_,0,rfl,rfl,QFG _,by simp only[L,Hd,QGr,Qa,seval],(by rfl)⟩ ?_;rintro _ st ⟨f,i,rfl,rfl,hi,hf,h13⟩;have hf':=hf;obtain⟨h4,h5,h6,h7,h8,h11,h12,-⟩:=hf';simp only[S0,SX,h4,h13,Qa,seval];by_cases hlt:i<k
 case pos=>
  obtain⟨y,hy⟩:∃y,m.fields[i]? = some y:=⟨m.fields[i]'(by omega),QFA (by omega)⟩;have hgy:(m.fields.map fun n=>AV.agg n.cells)[i]? = some (.agg y.cells):=by rw[QGI,hy];rfl
  rw[QG]at hgy;have hoy:((m.fields.map (Zm S (unl [] m.fields))).map Q3)[i]? = some (.agg (Wy S y (Xp (unl [] m.fields) y))):=by rw[QGI,QGI,hy];rfl
  simp only[Wy]at hoy;have e1:=Qn i _ hlt (by simp only[maxLen];omega);have hun:=PT hxm (QFL hy);simp only[Qz hlt,SY,Qj,QGM,Qe,hgy,h7,h11,h13,o7,Ul,Qy,eE,seval];cases c1:(y.union==x.union)<;>cases c2:(Xp (unl [] m.fields) y==Xp (unl [] m.fields) x) <;>
  ·rw[c1,c2]at hun;simp only[QG0,QGP]at hun;simp only[c2,hun,Qj,QGM,Qe,hoy,h8,h11,h12,h13,o8,Ul,UI,e1,SZ,Qy,eE,seval];exact⟨k-(i+1),by omega,_,i+1,rfl,rfl,by omega,by simp only[L,Hd,QGr,h4,h5,h6,h7,h8,h11,h12,Qa,seval],(by rfl)⟩
 simp only[QB hlt,S1,h6,h11,o6,Ul,eE,seval];refine aC hc1 ?_;simp only[Mp,n14,h6,h11,o6,Ul,eE,seval];refine aC hc2 ?_;simp only[Mq,n16,h12,UI,eE,seval];simp only[Mr,Qa,seval];by_cases h10:x.kind=10
 ·obtain⟨j,n,t1,t2,t3,t4,_⟩:=Hi hk hm hxm h10;have d:(x.kind==10)=true:=by simp[h10]
  have hj:((S.msgs.map (Xy S)).map QR)[j]? = some (QR (Xy S n)):=by rw[QGI,QGI,t1];rfl
  have en:QR (Xy S n)=.agg [.str n.name,.list ((n.fields.map (Zm S (unl [] n.fields))).map Q3),.int .i64 ((unl [] n.fields).length:Nat)]:=rfl;rw[en]at hj;have q1:((j:Int)==(j:Int))=true:=by simp
  have q2:(n.name==x.tname)=true:=by simp[t2]
  have jl:=(QFz.1 t1).1;simp only[d,t3,t4,q1,q2,Qz jl,Ms,Qj,QGM,Qe,hj,QGK,h5,h11,h12,o5,Ul,UI,Qy,eE,seval]
 have d:(x.kind==10)=false:=by simp[h10]
 by_cases h9:x.kind=9
 ·obtain⟨j,n,t1,t2,t3⟩:=D0 hk hm hxm h9;have t4:UD S x.tname=(j:Int):=by rw[←t3];unfold Jw;rw[QFE h10,QFF h9];rfl
  have d2:(x.kind==9)=true:=by simp[h9]
  have hj:((S.enums.map X0).map Q2)[j]? = some (Q2 (X0 n)):=by rw[QGI,QGI,t1];rfl
  have en:Q2 (X0 n)=.agg [.str n.name,.bool n.opn,.list ((n.items.map Z4).map Xi),.list (n.free.map QV),.list []]:=rfl;rw[en]at hj;have q1:((j:Int)==(j:Int))=true:=by simp
  have q2:(n.name==x.tname)=true:=by simp[t2]
  have jl:=(QFz.1 t1).1;simp only[d,d2,t3,t4,q1,q2,Qz jl,D3,Mt,Qj,QGM,Qe,hj,QGK,h5,h11,h12,o5,Ul,UI,Qy,eE,seval]
 have d2:(x.kind==9)=false:=by simp[h9]
 have t3:Jw S x = -1:=by unfold Jw;rw[QFE h10,QFE h9]
 simp only[d,d2,t3,D3,Mu,h12,UI,seval,eE]

include hM hS in
theorem c4:Qr Tryz.prog 4 [S.av] (.bool true):=by
 obtain⟨l1,l2,_⟩:=Zn S hS hM;refine k4.fn (by simp) ?_;simp only[r4,o4,QmB,QmC,SC.av,eE,seval];refine aC (z5 S) ?_;cases h8:decide ((S.msgs.length:Int)≤8)&&decide ((S.enums.length:Int)≤8)&&decide ((S.servs.length:Int)≤8)
 ·simp only[PR,QGv,Qa,seval]
 simp only[QFU,QGH]at h8;have h8':S.msgs.length≤8∧S.enums.length≤8∧S.servs.length≤8:=by omega
 have hva:=u10 hM S hS h8';have hmk:=s6 hM S hS h8';simp only[SC.av]at hva hmk;simp only[QG1,eE,seval];refine aC hva ?_;cases hv:Z3 S
 ·simp only[PR,QGv,Qa,seval]
 have eP:(ZB S).av=.agg [.list ((S.msgs.map (Xy S)).map QR),.list ((S.enums.map X0).map Q2)]:=rfl;rw[mkR,QFF hv,eP]at hmk;have hck:=z11 (ZB S) (QmA hM S hS hv) (by omega);rw[QsH hv,eP]at hck;simp only[QmD,QG1,eE,seval];refine aC hmk ?_;simp only[QmE,seval,eE];refine aC hck ?_;have q1:((S.msgs.length:Int) != (S.msgs.length:Int))=false:=by simp
 have q2:((S.enums.length:Int) != (S.enums.length:Int))=false:=by simp
 simp only[QmF,QGK,q1,q2,seval,eE]
 let I:Nat→St→Prop:=fun n st=>∃f fr i,st=⟨f,[fr],[]⟩∧n=S.msgs.length-i∧i≤S.msgs.length∧f 1=.ptr 0 1 0∧f 3=.ptr 0 3 0∧f 5=.int .i64 (i:Nat)∧fr 1=.cells [.list (S.msgs.map fun n=>.agg n.cells),.list (S.enums.map fun n=>.agg n.cells),.list (S.servs.map fun n=>.agg n.cells)]∧fr 3=.cells [.list ((S.msgs.map (Xy S)).map QR),.list ((S.enums.map X0).map Q2)]∧∀s∈[7,6],(fr s).isRow=false
 refine Qg I _ ⟨_,_,0,rfl,rfl,QFG _,(by rfl),(by rfl),(by rfl),(by rfl),(by rfl),by intro s hs;simp only[QGF,QHk,or_false]at hs;rcases hs with rfl|rfl<;>rfl⟩ ?_;rintro _ st ⟨f0,fr0,i,rfl,rfl,hi,h10,h30,h50,XE,JJ,r7⟩;refine QD (a:=_) [7,6] r7 ?_;intro f fr hf hmm hn;have h1:f 1=.ptr 0 1 0:=by rw[hf,h10]<;>rfl
 have h3:f 3=.ptr 0 3 0:=by rw[hf,h30]<;>rfl
 have h5:f 5=.int .i64 (i:Nat):=by rw[hf,h50]<;>rfl
 have o1:fr 1=.cells [.list (S.msgs.map fun n=>.agg n.cells),.list (S.enums.map fun n=>.agg n.cells),.list (S.servs.map fun n=>.agg n.cells)]:=by rw[hmm 1 (by decide),XE]<;>rfl
 have o3:fr 3=.cells [.list ((S.msgs.map (Xy S)).map QR),.list ((S.enums.map X0).map Q2)]:=by rw[hmm 3 (by decide),JJ]<;>rfl
 have n6:=hn 6 (by decide);have n7:=hn 7 (by decide);clear hf hmm hn h10 h30 h50 XE JJ r7;simp only[QmG,QGK,h1,h5,o1,eE,seval];by_cases hlt:i<S.msgs.length
 case neg=>
  simp only[QB hlt,SL,Qa,seval];refine aC Ev.Pp ?_;simp only[Qa,seval]
 obtain⟨m,hm⟩:∃m,S.msgs[i]? = some m:=⟨S.msgs[i],QFA hlt⟩;have hmm:=QFL hm;have hg:(S.msgs.map fun n=>AV.agg n.cells)[i]? = some (.agg m.cells):=by rw[QGI,hm];rfl
 rw[Xs]at hg;have hl1:=(hS.msgs m hmm).len1;have hgp:((S.msgs.map (Xy S)).map QR)[i]? = some (QR (Xy S m)):=by rw[QGI,QGI,hm];rfl
 have eG:QR (Xy S m)=.agg [.str m.name,.list ((m.fields.map (Zm S (unl [] m.fields))).map Q3),.int .i64 ((unl [] m.fields).length:Nat)]:=rfl;rw[eG]at hgp;have e1:=Qn i _ hlt l1;have b1:(m.name==m.name)=true:=by simp
 have b2:((m.fields.length:Int) != (m.fields.length:Int))=false:=by simp
 simp only[Qz hlt,n6,n7,QmH,Qj,QGM,Qe,hg,hgp,h1,h3,h5,o1,o3,eE,seval];simp only[SD,b1,b2,QGK,Qy,QG1,eE,seval];simp only[SG,Qa,seval];generalize hfr:(Qx (Qx _ 6 _) 7 _:Nat→Ob)=F;have p1:F 1=.cells [.list (S.msgs.map fun n=>.agg n.cells),.list (S.enums.map fun n=>.agg n.cells),.list (S.servs.map fun n=>.agg n.cells)]:=by rw[←hfr];exact(by exact o1)
 have p3:F 3=.cells [.list ((S.msgs.map (Xy S)).map QR),.list ((S.enums.map X0).map Q2)]:=by rw[←hfr];exact(by exact o3)
 have p6:F 6=.cells [.str m.name,.list (m.fields.map fun n=>.agg n.cells),.list (m.free.map fun n=>.agg n.cells),.list (m.gone.map AV.str),.list (m.notes.map fun n=>.agg n.cells)]:=by rw[←hfr];exact(by rfl)
 have p7:F 7=.cells [.str m.name,.list ((m.fields.map (Zm S (unl [] m.fields))).map Q3),.int .i64 ((unl [] m.fields).length:Nat)]:=by rw[←hfr];exact(by rfl)
 clear hfr o1 o3 n6 n7
 let L:List (Nat×AV):=[(1,.ptr 0 1 0),(3,.ptr 0 3 0),(5,.int .i64 (i:Nat)),(6,.ptr 0 6 0),(7,.ptr 0 7 0)]
 let J:Nat→St→Prop:=fun n st=>∃f k,st=⟨f,[F],[]⟩∧n=m.fields.length-k∧k≤m.fields.length∧Hd f L∧f 8=.int .i64 (k:Nat)
 refine Qg J _ ⟨_,0,rfl,rfl,QFG _,by simp only[L,Hd,QGr,h1,h3,h5,Qa,seval],(by rfl)⟩ ?_;clear h1 h3 h5;rintro _ st ⟨f,k,rfl,rfl,hk,⟨h1,h3,h5,h6,h7,-⟩,h8⟩;simp only[QmI,SH,QGK,h6,h8,p6,eE,seval];by_cases hlk:k<m.fields.length
 ·obtain⟨x,hx⟩:∃x,m.fields[k]? = some x:=⟨m.fields[k],QFA hlk⟩;have e2:=Qn k _ hlk (by simp only[maxLen];omega);have hst:=c12 hM S hS hv m hmm k x hx;rw[eP,eG]at hst;simp only[SC.av,QW,Xs m]at hst;simp only[Qz hlk,SJ,h1,h3,h6,h7,h8,p1,p3,p6,p7,eE,seval];refine aC hst ?_;simp only[SK,h8,e2,QG1,Qa,seval];exact⟨m.fields.length-(k+1),by omega,_,k+1,rfl,rfl,by omega,by simp only[L,Hd,QGr,h1,h3,h5,h6,h7,Qa,seval],(by rfl)⟩
 ·simp only[QB hlk,QmJ,h5,e1,Qa,seval];exact⟨S.msgs.length-(i+1),by omega,_,F,i+1,rfl,rfl,by omega,(by exact h1),(by exact h3),(by rfl),p1,p3,by intro s hs;simp only[QGF,QHk,or_false]at hs;rcases hs with rfl|rfl<;>first|(rw[p7];rfl)|(rw[p6];rfl)⟩
end

end Go.Proofs.YtaiflhahcglpgaaGreatDoor.Va

namespace Go.Proofs.YtaiflhahcglpgaaGreatDoor.Br
open Go Am

theorem K6 (l:List SN):(l.map SN.cells).map XB=l.map fun n=>.agg n.cells:=by
 rw[QGY];exact QGW fun x _=>KU (by rw[SN.cells,QFM,V.cells_length];omega)
theorem QmK (l:List SF):(l.map SF.cells).map XB=l.map fun n=>.agg n.cells:=by
 rw[QGY];exact QGW fun x _=>KU (by simp only[SF.cells,QF7,QFM,QGy,V.cells_length];omega)

theorem K7 {M:Nat}(hM:M=reachBytes∨M≤1048576){k:Nat}{cs:List AV}(h:QS Tryz.prog M k 91 cs):∃x:SN,x.ok M∧cs=x.cells:=by
 obtain⟨k,h⟩:=Xx Tryz.underlying91 h;simp only[QS.HasL]at h;obtain⟨_,_,rfl,h0,a1,_,rfl,h1,rfl⟩:=h;obtain⟨a0,rfl,w0⟩:=XQ Tryz.underlying9 h0;obtain⟨v,hv,rfl⟩:=P4 hM h1;exact⟨⟨a0,v⟩,⟨w0,hv⟩,by simp[SN.cells]⟩

theorem PU {M k:Nat}{cs:List AV}(h:QS Tryz.prog M k 62 cs):∃(a:Int) (s:List UInt8),(Lit.int .i64 a).wf=true∧s.length≤M∧cs=[.int .i64 a,.str s]:=by
 obtain⟨k,h⟩:=Xx Tryz.underlying62 h;simp only[QS.HasL]at h;obtain⟨_,_,rfl,h0,_,_,rfl,h1,rfl⟩:=h;obtain⟨a0,rfl,w0⟩:=XJ Tryz.underlying3 h0;obtain⟨a1,rfl,w1⟩:=XQ Tryz.underlying9 h1;exact⟨a0,a1,w0,w1,rfl⟩

theorem Mv {M:Nat}(hM:M=reachBytes∨M≤1048576){k:Nat}{cs:List AV}(h:QS Tryz.prog M k 71 cs):∃x:SF,x.ok M∧cs=x.cells:=by
 obtain⟨k,h⟩:=Xx Tryz.underlying71 h;simp only[QS.HasL]at h;obtain⟨_,_,rfl,h0,_,_,rfl,h1,_,_,rfl,h2,_,_,rfl,h3,_,_,rfl,h4,_,_,rfl,h5,_,_,rfl,h6,_,_,rfl,h7,_,_,rfl,h8,rfl⟩:=h;obtain⟨a0,rfl,w0⟩:=XJ Tryz.underlying3 h0;obtain⟨a1,rfl,w1⟩:=XQ Tryz.underlying9 h1;obtain⟨a2,rfl,w2⟩:=XJ Tryz.underlying3 h2;obtain⟨a3,rfl,w3⟩:=XJ Tryz.underlying3 h3;obtain⟨a4,s4,w4,u4,rfl⟩:=PU h4;obtain⟨a5,rfl,w5⟩:=XQ Tryz.underlying9 h5;obtain⟨a6,rfl⟩:=GC Tryz.underlying4 h6;obtain⟨v7,w7,rfl⟩:=P4 hM h7;obtain⟨k8,l8,rfl,w8,hl8⟩:=Q1 Tryz.underlying40 h8;obtain⟨x8,rfl,o8⟩:=Xh (f:=SN.cells) (ok:=SN.ok M) fun c hc=>K7 hM (hl8 c hc)
 refine⟨⟨a0,a1,a2,a3,a4,s4,a5,a6,v7,x8⟩,⟨w0,w1,w2,w3,w4,u4,w5,w7,by simpa using w8,o8⟩,?_⟩;simp only[SF.cells,K6]
 try simp only[QFS,QFT]
 try rfl

theorem PV {M:Nat}(hM:M=reachBytes∨M≤1048576){k:Nat}{cs:List AV}(h:QS Tryz.prog M k 42 cs):∃x:SM,x.ok M∧cs=x.cells:=by
 obtain⟨k,h⟩:=Xx Tryz.underlying42 h;simp only[QS.HasL]at h;obtain⟨_,_,rfl,h0,_,_,rfl,h1,_,_,rfl,h2,_,_,rfl,h3,_,_,rfl,h4,rfl⟩:=h;obtain⟨a0,rfl,w0⟩:=XQ Tryz.underlying9 h0;obtain⟨k1,l1,rfl,w1,hl1⟩:=Q1 Tryz.underlying37 h1;obtain⟨k2,l2,rfl,w2,hl2⟩:=Q1 Tryz.underlying38 h2;obtain⟨k3,l3,rfl,w3,hl3⟩:=Q1 Tryz.underlying39 h3;obtain⟨k4,l4,rfl,w4,hl4⟩:=Q1 Tryz.underlying40 h4;obtain⟨x1,rfl,o1⟩:=Xh (f:=SF.cells) (ok:=SF.ok M) fun c hc=>Mv hM (hl1 c hc)
 obtain⟨x2,rfl,o2⟩:=Xh (f:=PS.cells) (ok:=PS.ok) fun c hc=>GD (hl2 c hc)
 obtain⟨x3,rfl,o3⟩:=Xh (f:=fun s:List UInt8=>[AV.str s]) (ok:=fun s=>s.length≤M) fun c hc=>(XQ Tryz.underlying9 (hl3 c hc)).elim fun s h=>⟨s,h.2,h.1⟩
 obtain⟨x4,rfl,o4⟩:=Xh (f:=SN.cells) (ok:=SN.ok M) fun c hc=>K7 hM (hl4 c hc)
 refine⟨⟨a0,x1,x2,x3,x4⟩,⟨w0,by simpa using w1,o1,by simpa using w2,o2,by simpa using w3,o3,by simpa using w4,o4⟩,?_⟩;simp only[SM.cells,K6,QmK]
 try simp only[QGY,QFS,QFT]
 try rfl

theorem Mw {M:Nat}(hM:M=reachBytes∨M≤1048576){k:Nat}{cs:List AV}(h:QS Tryz.prog M k 57 cs):∃x:SI,x.ok M∧cs=x.cells:=by
 obtain⟨k,h⟩:=Xx Tryz.underlying57 h;simp only[QS.HasL]at h;obtain⟨_,_,rfl,h0,_,_,rfl,h1,_,_,rfl,h2,rfl⟩:=h;obtain⟨a0,rfl,w0⟩:=XQ Tryz.underlying9 h0;obtain⟨a1,rfl,w1⟩:=XJ Tryz.underlying3 h1;obtain⟨k2,l2,rfl,w2,hl2⟩:=Q1 Tryz.underlying40 h2;obtain⟨x2,rfl,o2⟩:=Xh (f:=SN.cells) (ok:=SN.ok M) fun c hc=>K7 hM (hl2 c hc)
 refine⟨⟨a0,a1,x2⟩,⟨w0,w1,by simpa using w2,o2⟩,?_⟩;simp only[SI.cells,K6]
 try simp only[QFS,QFT]
 try rfl

theorem Mx {M:Nat}(hM:M=reachBytes∨M≤1048576){k:Nat}{cs:List AV}(h:QS Tryz.prog M k 50 cs):∃x:SE,x.ok M∧cs=x.cells:=by
 obtain⟨k,h⟩:=Xx Tryz.underlying50 h;simp only[QS.HasL]at h;obtain⟨_,_,rfl,h0,_,_,rfl,h1,_,_,rfl,h2,_,_,rfl,h3,_,_,rfl,h4,rfl⟩:=h;obtain⟨a0,rfl,w0⟩:=XQ Tryz.underlying9 h0;obtain⟨a1,rfl⟩:=GC Tryz.underlying4 h1;obtain⟨k2,l2,rfl,w2,hl2⟩:=Q1 Tryz.underlying48 h2;obtain⟨k3,l3,rfl,w3,hl3⟩:=Q1 Tryz.underlying38 h3;obtain⟨k4,l4,rfl,w4,hl4⟩:=Q1 Tryz.underlying40 h4;obtain⟨x2,rfl,o2⟩:=Xh (f:=SI.cells) (ok:=SI.ok M) fun c hc=>Mw hM (hl2 c hc)
 obtain⟨x3,rfl,o3⟩:=Xh (f:=PS.cells) (ok:=PS.ok) fun c hc=>GD (hl3 c hc)
 obtain⟨x4,rfl,o4⟩:=Xh (f:=SN.cells) (ok:=SN.ok M) fun c hc=>K7 hM (hl4 c hc)
 refine⟨⟨a0,a1,x2,x3,x4⟩,⟨w0,by simpa using w2,o2,by simpa using w3,o3,by simpa using w4,o4⟩,?_⟩;simp only[SE.cells,K6]
 try simp only[QGY,QFS,QFT]
 try rfl

theorem PW {M:Nat}(hM:M=reachBytes∨M≤1048576){k:Nat}{cs:List AV}(h:QS Tryz.prog M k 169 cs):∃x:SO,x.ok M∧cs=x.cells:=by
 obtain⟨k,h⟩:=Xx Tryz.underlying169 h;simp only[QS.HasL]at h;obtain⟨_,_,rfl,h0,_,_,rfl,h1,_,_,rfl,h2,_,_,rfl,h3,_,_,rfl,h4,rfl⟩:=h;obtain⟨a0,rfl,w0⟩:=XQ Tryz.underlying9 h0;obtain⟨a1,rfl,w1⟩:=XQ Tryz.underlying9 h1;obtain⟨a2,rfl,w2⟩:=XQ Tryz.underlying9 h2;obtain⟨a3,rfl,w3⟩:=XJ Tryz.underlying3 h3;obtain⟨k4,l4,rfl,w4,hl4⟩:=Q1 Tryz.underlying40 h4;obtain⟨x4,rfl,o4⟩:=Xh (f:=SN.cells) (ok:=SN.ok M) fun c hc=>K7 hM (hl4 c hc)
 refine⟨⟨a0,a1,a2,a3,x4⟩,⟨w0,w1,w2,w3,by simpa using w4,o4⟩,?_⟩;simp only[SO.cells,K6]
 try simp only[QFS,QFT]
 try rfl

theorem PX {M:Nat}(hM:M=reachBytes∨M≤1048576){k:Nat}{cs:List AV}(h:QS Tryz.prog M k 111 cs):∃x:SQ,x.ok M∧cs=x.cells:=by
 obtain⟨k,h⟩:=Xx Tryz.underlying111 h;simp only[QS.HasL]at h;obtain⟨_,_,rfl,h0,_,_,rfl,h1,_,_,rfl,h2,rfl⟩:=h;obtain⟨a0,rfl,w0⟩:=XQ Tryz.underlying9 h0;obtain⟨k1,l1,rfl,w1,hl1⟩:=Q1 Tryz.underlying109 h1;obtain⟨k2,l2,rfl,w2,hl2⟩:=Q1 Tryz.underlying40 h2;obtain⟨x1,rfl,o1⟩:=Xh (f:=SO.cells) (ok:=SO.ok M) fun c hc=>PW hM (hl1 c hc)
 obtain⟨x2,rfl,o2⟩:=Xh (f:=SN.cells) (ok:=SN.ok M) fun c hc=>K7 hM (hl2 c hc)
 refine⟨⟨a0,x1,x2⟩,⟨w0,by simpa using w1,o1,by simpa using w2,o2⟩,?_⟩;simp only[SQ.cells,K6]
 try simp only[QGY,QFS,QFT]
 try rfl

theorem Nn {M:Nat}(hM:M=reachBytes∨M≤1048576){k:Nat}{cs:List AV}(h:QS Tryz.prog M k 26 cs):∃x:SC,x.ok M∧.agg cs=x.av:=by
 obtain⟨k,h⟩:=Xx Tryz.underlying26 h;simp only[QS.HasL]at h;obtain⟨_,_,rfl,h0,_,_,rfl,h1,_,_,rfl,h2,rfl⟩:=h;obtain⟨k2,l2,rfl,w2,hl2⟩:=Q1 Tryz.underlying22 h0;obtain⟨k3,l3,rfl,w3,hl3⟩:=Q1 Tryz.underlying23 h1;obtain⟨k4,l4,rfl,w4,hl4⟩:=Q1 Tryz.underlying24 h2;obtain⟨x2,rfl,o2⟩:=Xh (f:=SM.cells) (ok:=SM.ok M) fun c hc=>PV hM (hl2 c hc)
 obtain⟨x3,rfl,o3⟩:=Xh (f:=SE.cells) (ok:=SE.ok M) fun c hc=>Mx hM (hl3 c hc)
 obtain⟨x4,rfl,o4⟩:=Xh (f:=SQ.cells) (ok:=SQ.ok M) fun c hc=>PX hM (hl4 c hc)
 refine⟨⟨x2,x3,x4⟩,⟨by simpa using w2,o2,by simpa using w3,o3,by simpa using w4,o4⟩,?_⟩;simp only[SC.av,QGY,QFS,QFT];rfl

end Go.Proofs.YtaiflhahcglpgaaGreatDoor.Br

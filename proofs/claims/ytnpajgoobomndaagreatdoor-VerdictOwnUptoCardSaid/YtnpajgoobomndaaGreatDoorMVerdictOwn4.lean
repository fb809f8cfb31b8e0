/- Parts of the proof, in order. -/
import Derived.Test.YtnpajgoobomndaaGreatDoorMVerdictOwn3

set_option linter.unusedSimpArgs false
set_option linter.unusedSectionVars false
namespace Go.Proofs.YtnpajgoobomndaaGreatDoor.Va
open Go Am Rc Bt Br Up So

def QT (S:SC)(w:Int):List (List UInt8):=(if w=1 then S.msgs.map SM.name else [])++(if w=2 then S.enums.map SE.name else [])++(if w=3 then S.servs.map SQ.name else [])
section
variable {M:Nat}(hM:M≤1048576)(S:SC)(hS:S.ok M)(w:Int)
include hM hS in
theorem QCa (L:List (List UInt8))(hL:L.length≤10000000)(f:Fr)(fr:Nat→Ob)(g:Nat)(h1:f 1=.int .i64 w)(h2:f 2=.ptr 0 2 0)(h5:f 5=.vec 0 5 g 0 L.length false)(hk:f 6=.int .i64 0)
  (o2:fr 2=.cells [.list (S.msgs.map fun n=>.agg n.cells),.list (S.enums.map fun n=>.agg n.cells),.list (S.servs.map fun n=>.agg n.cells)]) (o5:fr 5=.vec g 1 (L.map Qk)) (Q:Exit→St→Prop)
  (hq:∀(f:Fr) (fr:Nat→Ob) (g:Nat) (L2:List (List UInt8)),L2=L++(if w=1 then S.msgs.map SM.name else [])→f 1=.int .i64 w→f 2=.ptr 0 2 0→f 5=.vec 0 5 g 0 L2.length false→fr 2=.cells [.list (S.msgs.map fun n=>.agg n.cells),.list (S.enums.map fun n=>.agg n.cells),.list (S.servs.map fun n=>.agg n.cells)]→fr 5=.vec g 1 (L2.map Qk)→Q (.exit 0) ⟨f,[fr],[]⟩):QK Tryz.prog (.loop TF) ⟨f,[fr],[]⟩ Q:=by
 have hl1:=hS.len1;by_cases hw:w=1
 case neg=>
  have d:(w==1)=false:=by simp[hw]
  refine Qd (fun k st=>k=0∧st=⟨f,[fr],[]⟩) 0 ⟨rfl,rfl⟩ ?_;rintro _ st ⟨rfl,rfl⟩;simp only[h1,d,Qa,seval];exact hq _ _ g L (by rw[QFX hw,QGM]) (by exact h1) (by exact h2) (by exact h5) o2 o5
 have d:(w==1)=true:=by simp[hw]
 rw[QFY hw]at hq
 let I:Nat→St→Prop:=fun n st=>∃f fr i g L2,st=⟨f,[fr],[]⟩∧n=S.msgs.length-i∧i≤S.msgs.length∧L2=L++(S.msgs.take i).map SM.name∧f 1=.int .i64 w∧f 2=.ptr 0 2 0∧f 5=.vec 0 5 g 0 L2.length false∧f 6=.int .i64 (i:Nat)∧
  fr 2=.cells [.list (S.msgs.map fun n=>.agg n.cells),.list (S.enums.map fun n=>.agg n.cells),.list (S.servs.map fun n=>.agg n.cells)]∧fr 5=.vec g 1 (L2.map Qk)
 refine Qd I _ ⟨f,fr,0,g,L,rfl,rfl,QFZ _,by simp,h1,h2,h5,hk,o2,o5⟩ ?_;clear h1 h2 h5 hk o2 o5;rintro _ st ⟨f,fr,i,g,L2,rfl,rfl,hi,hL2,h1,h2,h5,hk,o2,o5⟩;simp only[QG7,h1,h2,hk,o2,d,eE,seval];by_cases hlt:i<S.msgs.length
 case neg=>
  simp only[QG hlt,Qa,seval];rw[QGo (by omega)]at hL2;exact hq _ _ g L2 hL2 (by exact h1) (by exact h2) (by exact h5) o2 o5
 obtain⟨x,hx⟩:∃x,S.msgs[i]? = some x:=⟨S.msgs[i],QFT hlt⟩;have hg:(S.msgs.map fun n=>AV.agg n.cells)[i]? = some (.agg x.cells):=by rw[QG5,hx];rfl
 rw[Xz]at hg;have e1:=Qo i _ hlt (by simp only[maxLen];omega);have hsu:L2++[x.name]=L++(S.msgs.take (i+1)).map SM.name:=by rw[QHk,hx,QHl,QHj,hL2,QGa];rfl
 have hll:L2.length≤20000000:=by
  rw[hL2,QGs,QG7,QGF];omega
 simp only[QC hlt,Qi,QHa,Qc,hg,h2,h5,hk,o2,eE,seval];refine ZE (w:=x.name) rfl ?_;refine Q8 (xs:=L2.map Qk) (by rfl) o5 rfl (by simp) (by rfl) rfl (by simp only[QF5,QGV,maxLen];omega) (by simp only[QF5,QGV];omega) ?_;simp only[hk,e1,Qa,seval];exact⟨S.msgs.length-(i+1),by omega,_,_,i+1,g+1,L2++[x.name],rfl,rfl,by omega,hsu,(by exact h1),(by exact h2),by rw[QGs];exact(by rfl),(by rfl),(by exact o2),by rw[QHj];exact(by rfl)⟩

include hM hS in
theorem QCb (L:List (List UInt8))(hL:L.length≤10000000)(f:Fr)(fr:Nat→Ob)(g:Nat)(h1:f 1=.int .i64 w)(h2:f 2=.ptr 0 2 0)(h5:f 5=.vec 0 5 g 0 L.length false)(hk:f 7=.int .i64 0)
  (o2:fr 2=.cells [.list (S.msgs.map fun n=>.agg n.cells),.list (S.enums.map fun n=>.agg n.cells),.list (S.servs.map fun n=>.agg n.cells)]) (o5:fr 5=.vec g 1 (L.map Qk)) (Q:Exit→St→Prop)
  (hq:∀(f:Fr) (fr:Nat→Ob) (g:Nat) (L2:List (List UInt8)),L2=L++(if w=2 then S.enums.map SE.name else [])→f 1=.int .i64 w→f 2=.ptr 0 2 0→f 5=.vec 0 5 g 0 L2.length false→fr 2=.cells [.list (S.msgs.map fun n=>.agg n.cells),.list (S.enums.map fun n=>.agg n.cells),.list (S.servs.map fun n=>.agg n.cells)]→fr 5=.vec g 1 (L2.map Qk)→Q (.exit 2) ⟨f,[fr],[]⟩):QK Tryz.prog (.loop TG) ⟨f,[fr],[]⟩ Q:=by
 have hl1:=hS.len2;by_cases hw:w=2
 case neg=>
  have d:(w==2)=false:=by simp[hw]
  refine Qd (fun k st=>k=0∧st=⟨f,[fr],[]⟩) 0 ⟨rfl,rfl⟩ ?_;rintro _ st ⟨rfl,rfl⟩;simp only[h1,d,Qa,seval];exact hq _ _ g L (by rw[QFX hw,QGM]) (by exact h1) (by exact h2) (by exact h5) o2 o5
 have d:(w==2)=true:=by simp[hw]
 rw[QFY hw]at hq
 let I:Nat→St→Prop:=fun n st=>∃f fr i g L2,st=⟨f,[fr],[]⟩∧n=S.enums.length-i∧i≤S.enums.length∧L2=L++(S.enums.take i).map SE.name∧f 1=.int .i64 w∧f 2=.ptr 0 2 0∧f 5=.vec 0 5 g 0 L2.length false∧f 7=.int .i64 (i:Nat)∧
  fr 2=.cells [.list (S.msgs.map fun n=>.agg n.cells),.list (S.enums.map fun n=>.agg n.cells),.list (S.servs.map fun n=>.agg n.cells)]∧fr 5=.vec g 1 (L2.map Qk)
 refine Qd I _ ⟨f,fr,0,g,L,rfl,rfl,QFZ _,by simp,h1,h2,h5,hk,o2,o5⟩ ?_;clear h1 h2 h5 hk o2 o5;rintro _ st ⟨f,fr,i,g,L2,rfl,rfl,hi,hL2,h1,h2,h5,hk,o2,o5⟩;simp only[QG7,h1,h2,hk,o2,d,eE,seval];by_cases hlt:i<S.enums.length
 case neg=>
  simp only[QG hlt,Qa,seval];rw[QGo (by omega)]at hL2;exact hq _ _ g L2 hL2 (by exact h1) (by exact h2) (by exact h5) o2 o5
 obtain⟨x,hx⟩:∃x,S.enums[i]? = some x:=⟨S.enums[i],QFT hlt⟩;have hg:(S.enums.map fun n=>AV.agg n.cells)[i]? = some (.agg x.cells):=by rw[QG5,hx];rfl
 rw[Zg]at hg;have e1:=Qo i _ hlt (by simp only[maxLen];omega);have hsu:L2++[x.name]=L++(S.enums.take (i+1)).map SE.name:=by rw[QHk,hx,QHl,QHj,hL2,QGa];rfl
 have hll:L2.length≤20000000:=by
  rw[hL2,QGs,QG7,QGF];omega
 simp only[QC hlt,Qi,QHa,Qc,hg,h2,h5,hk,o2,eE,seval];refine ZE (w:=x.name) rfl ?_;refine Q8 (xs:=L2.map Qk) (by rfl) o5 rfl (by simp) (by rfl) rfl (by simp only[QF5,QGV,maxLen];omega) (by simp only[QF5,QGV];omega) ?_;simp only[hk,e1,Qa,seval];exact⟨S.enums.length-(i+1),by omega,_,_,i+1,g+1,L2++[x.name],rfl,rfl,by omega,hsu,(by exact h1),(by exact h2),by rw[QGs];exact(by rfl),(by rfl),(by exact o2),by rw[QHj];exact(by rfl)⟩

include hM hS in
theorem QCc (L:List (List UInt8))(hL:L.length≤10000000)(f:Fr)(fr:Nat→Ob)(g:Nat)(h1:f 1=.int .i64 w)(h2:f 2=.ptr 0 2 0)(h5:f 5=.vec 0 5 g 0 L.length false)(hk:f 8=.int .i64 0)
  (o2:fr 2=.cells [.list (S.msgs.map fun n=>.agg n.cells),.list (S.enums.map fun n=>.agg n.cells),.list (S.servs.map fun n=>.agg n.cells)]) (o5:fr 5=.vec g 1 (L.map Qk)) (Q:Exit→St→Prop)
  (hq:∀(f:Fr) (fr:Nat→Ob) (g:Nat) (L2:List (List UInt8)),L2=L++(if w=3 then S.servs.map SQ.name else [])→f 1=.int .i64 w→f 2=.ptr 0 2 0→f 5=.vec 0 5 g 0 L2.length false→fr 2=.cells [.list (S.msgs.map fun n=>.agg n.cells),.list (S.enums.map fun n=>.agg n.cells),.list (S.servs.map fun n=>.agg n.cells)]→fr 5=.vec g 1 (L2.map Qk)→Q (.exit 4) ⟨f,[fr],[]⟩):QK Tryz.prog (.loop TH) ⟨f,[fr],[]⟩ Q:=by
 have hl1:=hS.len3;by_cases hw:w=3
 case neg=>
  have d:(w==3)=false:=by simp[hw]
  refine Qd (fun k st=>k=0∧st=⟨f,[fr],[]⟩) 0 ⟨rfl,rfl⟩ ?_;rintro _ st ⟨rfl,rfl⟩;simp only[h1,d,Qa,seval];exact hq _ _ g L (by rw[QFX hw,QGM]) (by exact h1) (by exact h2) (by exact h5) o2 o5
 have d:(w==3)=true:=by simp[hw]
 rw[QFY hw]at hq
 let I:Nat→St→Prop:=fun n st=>∃f fr i g L2,st=⟨f,[fr],[]⟩∧n=S.servs.length-i∧i≤S.servs.length∧L2=L++(S.servs.take i).map SQ.name∧f 1=.int .i64 w∧f 2=.ptr 0 2 0∧f 5=.vec 0 5 g 0 L2.length false∧f 8=.int .i64 (i:Nat)∧
  fr 2=.cells [.list (S.msgs.map fun n=>.agg n.cells),.list (S.enums.map fun n=>.agg n.cells),.list (S.servs.map fun n=>.agg n.cells)]∧fr 5=.vec g 1 (L2.map Qk)
 refine Qd I _ ⟨f,fr,0,g,L,rfl,rfl,QFZ _,by simp,h1,h2,h5,hk,o2,o5⟩ ?_;clear h1 h2 h5 hk o2 o5;rintro _ st ⟨f,fr,i,g,L2,rfl,rfl,hi,hL2,h1,h2,h5,hk,o2,o5⟩;simp only[QG7,h1,h2,hk,o2,d,eE,seval];by_cases hlt:i<S.servs.length
 case neg=>
  simp only[QG hlt,Qa,seval];rw[QGo (by omega)]at hL2;exact hq _ _ g L2 hL2 (by exact h1) (by exact h2) (by exact h5) o2 o5
 obtain⟨x,hx⟩:∃x,S.servs[i]? = some x:=⟨S.servs[i],QFT hlt⟩;have hg:(S.servs.map fun n=>AV.agg n.cells)[i]? = some (.agg x.cells):=by rw[QG5,hx];rfl
 rw[J5]at hg;have e1:=Qo i _ hlt (by simp only[maxLen];omega);have hsu:L2++[x.name]=L++(S.servs.take (i+1)).map SQ.name:=by rw[QHk,hx,QHl,QHj,hL2,QGa];rfl
 have hll:L2.length≤20000000:=by
  rw[hL2,QGs,QG7,QGF];omega
 simp only[QC hlt,Qi,QHa,Qc,hg,h2,h5,hk,o2,eE,seval];refine ZE (w:=x.name) rfl ?_;refine Q8 (xs:=L2.map Qk) (by rfl) o5 rfl (by simp) (by rfl) rfl (by simp only[QF5,QGV,maxLen];omega) (by simp only[QF5,QGV];omega) ?_;simp only[hk,e1,Qa,seval];exact⟨S.servs.length-(i+1),by omega,_,_,i+1,g+1,L2++[x.name],rfl,rfl,by omega,hsu,(by exact h1),(by exact h2),by rw[QGs];exact(by rfl),(by rfl),(by exact o2),by rw[QHj];exact(by rfl)⟩

include hM hS in
theorem AG:Qs Tryz.prog 16 [S.av,.int .i64 w] (.list ((QT S w).map Qk)):=by
 have l1:=hS.len1;have l2:=hS.len2;have l3:=hS.len3;have hi:∀(p:Prop) [Decidable p] (l:List (List UInt8)),l.length≤1048576→(if p then l else []).length≤1048576:=by
  intro p _ l h;split
  ·exact h
  ·simp
 have m1:=hi (w=1) (S.msgs.map SM.name) (by rw[QG7];omega);have m2:=hi (w=2) (S.enums.map SE.name) (by rw[QG7];omega);have m3:=hi (w=3) (S.servs.map SQ.name) (by rw[QG7];omega);refine k16.fn (by simp) ?_;simp only[SC.av,eE,seval];refine KS rfl rfl ?_;simp only[Qa,seval];refine QCa hM S hS w [] (by simp) _ _ 1 (by rfl) (by rfl) (by rfl) (by rfl) (by rfl) (by rfl) _ (fun f fr g L2 hL h1 h2 h5 o2 o5=>?_);simp only[Qa,seval];refine QCb hM S hS w L2 (by rw[hL,QGc];omega) _ _ g (by exact h1) (by exact h2) (by exact h5) (by rfl) o2 o5 _ (fun f fr g L3 hL3 h1 h2 h5 o2 o5=>?_);simp only[Qa,seval];refine QCc hM S hS w L3 (by rw[hL3,hL,QGc,QGs];omega) _ _ g (by exact h1) (by exact h2) (by exact h5) (by rfl) o2 o5 _ (fun f fr g L4 hL4 h1 h2 h5 o2 o5=>?_);have e:QT S w=L4:=by rw[hL4,hL3,hL];rfl
 have ht:List.take L4.length (L4.map Qk)=L4.map Qk:=QGo (by simp);rw[e];simp only[h5,o5,ht,QG7,QGw,QGf,QFQ,QGN,QGT,AV.un,eE,seval]
end

theorem YS (A B:List (List UInt8)):(A.any fun s=>B.contains s)=B.any fun s=>A.contains s:=by
 rw[QGE,QHi,QHi]
 constructor
 ·rintro⟨x,h1,h2⟩;exact⟨x,QHH.1 h2,QHH.2 h1⟩
 ·rintro⟨x,h1,h2⟩;exact⟨x,QHH.1 h2,QHH.2 h1⟩

section
variable {M:Nat}(hM:M≤1048576)(S:SC)(hS:S.ok M)(h8:S.msgs.length≤8∧S.enums.length≤8∧S.servs.length≤8)

include hM hS h8 in
theorem QCd (fr:Nat→Ob)(o1:fr 1=.cells [.list (S.msgs.map fun n=>.agg n.cells),.list (S.enums.map fun n=>.agg n.cells),.list (S.servs.map fun n=>.agg n.cells)])(f:Fr)(h1:f 1=.ptr 0 1 0)(h3:f 3=.ptr 0 3 0)(h4:f 4=.int .i64 1)(Q:Exit→St→Prop)
  (hq:∀f,f 1=.ptr 0 1 0→f 3=.ptr 0 3 0→Q (.exit 0) ⟨f,[Q1 fr 3 1100 [] (Ji (QT S 1) (QT S 2) (QT S 3) 3)],[]⟩):QK Tryz.prog (.loop Nm) ⟨f,[Q1 fr 3 1100 [] []],[]⟩ Q:=by
 obtain⟨l1,l2,l3⟩:=h8;have n1:(QT S 1).length≤8:=by simp[QT];omega
 have n2:(QT S 2).length≤8:=by simp[QT];omega
 have n3:(QT S 3).length≤8:=by simp[QT];omega
 let I:Nat→St→Prop:=fun n st=>∃f i,st=⟨f,[Q1 fr 3 1100 [] (Ji (QT S 1) (QT S 2) (QT S 3) i)],[]⟩∧n=3-i∧i≤3∧f 1=.ptr 0 1 0∧f 3=.ptr 0 3 0∧f 4=.int .i64 ((i+1:Nat):Int)
 refine Qd I _ ⟨f,0,rfl,rfl,by omega,h1,h3,h4⟩ ?_;clear h1 h3 h4;rintro _ st ⟨f,i,rfl,rfl,hi,h1,h3,h4⟩;simp only[Nm,Tx,h4,Qa,seval];by_cases hlt:i<3
 case neg=>
  have e:i=3:=by omega
  subst e;have d:decide (((3+1:Nat):Int)≤3)=false:=rfl;simp only[Qa,seval];exact hq _ (by exact h1) (by exact h3)
 have d:decide (((i+1:Nat):Int)≤3)=true:=QHA (by omega);have e1:IntKind.i64.wrap (((i+1:Nat):Int)+1)=((i+1+1:Nat):Int):=by simp only[ZM];omega
 have hc:=AG hM S hS ((i+1:Nat):Int);simp only[SC.av]at hc;obtain⟨L,hLe,hLl,hp,hps⟩:∃L,QT S ((i+1:Nat):Int)=L∧L.length≤8∧(Ji (QT S 1) (QT S 2) (QT S 3) i).length≤100∧Ji (QT S 1) (QT S 2) (QT S 3) (i+1)=Ji (QT S 1) (QT S 2) (QT S 3) i++ZZ L:=by
  have b1:=Zy (QT S 1);have b2:=Zy (QT S 2);rcases(show i=0∨i=1∨i=2 by omega)with rfl|rfl|rfl
  ·exact⟨_,rfl,n1,by simp[Ji],rfl⟩
  ·exact⟨_,rfl,n2,by simp only[Ji];omega,rfl⟩
  ·exact⟨_,rfl,n3,by simp only[Ji,QGs];omega,rfl⟩
 rw[hLe]at hc;generalize Ji (QT S 1) (QT S 2) (QT S 3) i=p at *;have q1:=Qu hp [] (-1) (decide (L.length≤64)) 3;have hb:decide (L.length≤64)=!decide ((L.length:Int) > 64):=(by rw[QGE];simp only[QG4,QGG,QHB];omega);simp only[d,Tz,Qv,h1,h4,o1,eE,seval];refine aC hc ?_;simp only[TA,QG7,Qa,seval];refine QH (by decide) (by exact h3) rfl rfl rfl (by omega) ?_;rw[←hb];simp only[TB,Qa,seval];refine aC (u18 L (by simp only[maxLen];omega)) ?_;simp only[Qa,seval];refine QH (by decide) (by exact h3) rfl rfl rfl (by omega) ?_;simp only[TC,h4,e1,Qa,seval];exact⟨3-(i+1),by omega,_,i+1,by rw[hps,ZZ,QHK,QGa],rfl,by omega,(by exact h1),(by exact h3),(by rfl)⟩

def AS (fr:Nat→Ob)(L:List PB):Prop:=∃g,fr 3=.cells [.str [],.vec 0 1100 g 0 L.length false]∧fr 1100=.vec g 3 (L.map PB.av)

include hM hS in
theorem QCe (hF:(QM S).length=S.msgs.length)(l:List PB)(hl:l.length≤1000000000)(h8:S.msgs.length≤8)(f:Fr)(fr:Nat→Ob)(h1:f 1=.ptr 0 1 0)(h3:f 3=.ptr 0 3 0)(h9:f 9=.list ((QM S).map AV.bool))(hk:f 10=.int .i64 0)
  (o1:fr 1=.cells [.list (S.msgs.map fun n=>.agg n.cells),.list (S.enums.map fun n=>.agg n.cells),.list (S.servs.map fun n=>.agg n.cells)]) (hA:AS fr l) (Q:Exit→St→Prop)
  (hq:∀(f:Fr) (fr:Nat→Ob),f 1=.ptr 0 1 0→f 3=.ptr 0 3 0→f 9=.list ((QM S).map AV.bool)→fr 1=.cells [.list (S.msgs.map fun n=>.agg n.cells),.list (S.enums.map fun n=>.agg n.cells),.list (S.servs.map fun n=>.agg n.cells)]→AS fr (l++S.msgs.flatMap (ZX S (Xa S (QM S))))→Q (.exit 2) ⟨f,[fr],[]⟩):QK Tryz.prog (.loop H4) ⟨f,[fr],[]⟩ Q:=by
 let I:Nat→St→Prop:=fun n st=>∃f fr i,st=⟨f,[fr],[]⟩∧n=S.msgs.length-i∧i≤S.msgs.length∧f 1=.ptr 0 1 0∧f 3=.ptr 0 3 0∧f 9=.list ((QM S).map AV.bool)∧f 10=.int .i64 (i:Nat)∧
  fr 1=.cells [.list (S.msgs.map fun n=>.agg n.cells),.list (S.enums.map fun n=>.agg n.cells),.list (S.servs.map fun n=>.agg n.cells)]∧AS fr (l++(S.msgs.take i).flatMap (ZX S (Xa S (QM S))))
 have hg:∀x∈S.msgs,((ZX S (Xa S (QM S))) x).length≤14000000:=fun x hx=>Yf hM S _ x (hS.msgs x hx)
 have _:=hF;refine Qd I _ ⟨f,fr,0,rfl,rfl,QFZ _,h1,h3,h9,hk,o1,by simpa using hA⟩ ?_;clear h1 h3 h9 hk o1 hA;rintro _ st ⟨f,fr,i,rfl,rfl,hi,h1,h3,h9,hk,o1,⟨g,oS,oR⟩⟩;simp only[H4,CY,CZ,C0,QG7,h1,hk,o1,eE,seval];by_cases hlt:i<S.msgs.length
 case neg=>
  have e:i=S.msgs.length:=by omega
  subst e;simp only[QG hlt,Qa,seval];rw[QHh]at oS oR;exact hq _ _ (by exact h1) (by exact h3) (by exact h9) o1 ⟨g,oS,oR⟩
 obtain⟨x,hx⟩:∃x,S.msgs[i]? = some x:=⟨S.msgs[i],QFT hlt⟩;have hm:=QF4 hx;have hgx:(S.msgs.map fun n=>AV.agg n.cells)[i]? = some (.agg x.cells):=by rw[QG5,hx];rfl
 rw[Xz]at hgx;have e1:=Qo i _ hlt (by simp only[maxLen];omega);have q1:=Z1 hg i;have q2:=hg x hm;have hc:=u21 hM S hS x (hS.msgs x hm) (QM S) hF;simp only[QY,Xz x,SC.av]at hc;simp only[QC hlt,Qi,QHa,Qc,hgx,h1,h3,h9,hk,o1,oS,eE,seval];refine aC hc ?_;refine Q8 (xs:=(l++(S.msgs.take i).flatMap (ZX S (Xa S (QM S)))).map PB.av) (by rfl) (by exact oR) rfl (by simp) (by rfl) (Ho _) (by simp only[QGs,QG7,maxLen];omega) (by simp only[QGs,QG7];omega) ?_;simp only[h3,hk,oS,e1,eE,seval];refine⟨S.msgs.length-(i+1),by omega,_,_,i+1,rfl,rfl,by omega,(by exact h1),(by exact h3),(by exact h9),(by rfl),(by exact o1),⟨g+1,?_,?_⟩⟩
 ·rw[X3 hx,←QGa];simp only[QGs,QG7,Qa,seval]
 ·rw[X3 hx,←QGa];simp only[QHj,Qa,seval]

include hM hS in
theorem QCf (hF:(QM S).length=S.msgs.length)(l:List PB)(hl:l.length≤1000000000)(h8:S.enums.length≤8)(f:Fr)(fr:Nat→Ob)(h1:f 1=.ptr 0 1 0)(h3:f 3=.ptr 0 3 0)(h9:f 9=.list ((QM S).map AV.bool))(hk:f 11=.int .i64 0)
  (o1:fr 1=.cells [.list (S.msgs.map fun n=>.agg n.cells),.list (S.enums.map fun n=>.agg n.cells),.list (S.servs.map fun n=>.agg n.cells)]) (hA:AS fr l) (Q:Exit→St→Prop)
  (hq:∀(f:Fr) (fr:Nat→Ob),f 1=.ptr 0 1 0→f 3=.ptr 0 3 0→f 9=.list ((QM S).map AV.bool)→fr 1=.cells [.list (S.msgs.map fun n=>.agg n.cells),.list (S.enums.map fun n=>.agg n.cells),.list (S.servs.map fun n=>.agg n.cells)]→AS fr (l++S.enums.flatMap (ZS))→Q (.exit 4) ⟨f,[fr],[]⟩):QK Tryz.prog (.loop H5) ⟨f,[fr],[]⟩ Q:=by
 let I:Nat→St→Prop:=fun n st=>∃f fr i,st=⟨f,[fr],[]⟩∧n=S.enums.length-i∧i≤S.enums.length∧f 1=.ptr 0 1 0∧f 3=.ptr 0 3 0∧f 9=.list ((QM S).map AV.bool)∧f 11=.int .i64 (i:Nat)∧
  fr 1=.cells [.list (S.msgs.map fun n=>.agg n.cells),.list (S.enums.map fun n=>.agg n.cells),.list (S.servs.map fun n=>.agg n.cells)]∧AS fr (l++(S.enums.take i).flatMap (ZS))
 have hg:∀x∈S.enums,((ZS) x).length≤14000000:=fun x hx=>Yg hM x (hS.enums x hx)
 have _:=hF;refine Qd I _ ⟨f,fr,0,rfl,rfl,QFZ _,h1,h3,h9,hk,o1,by simpa using hA⟩ ?_;clear h1 h3 h9 hk o1 hA;rintro _ st ⟨f,fr,i,rfl,rfl,hi,h1,h3,h9,hk,o1,⟨g,oS,oR⟩⟩;simp only[H5,C1,C2,C3,QG7,h1,hk,o1,eE,seval];by_cases hlt:i<S.enums.length
 case neg=>
  have e:i=S.enums.length:=by omega
  subst e;simp only[QG hlt,Qa,seval];rw[QHh]at oS oR;exact hq _ _ (by exact h1) (by exact h3) (by exact h9) o1 ⟨g,oS,oR⟩
 obtain⟨x,hx⟩:∃x,S.enums[i]? = some x:=⟨S.enums[i],QFT hlt⟩;have hm:=QF4 hx;have hgx:(S.enums.map fun n=>AV.agg n.cells)[i]? = some (.agg x.cells):=by rw[QG5,hx];rfl
 rw[Zg]at hgx;have e1:=Qo i _ hlt (by simp only[maxLen];omega);have q1:=Z1 hg i;have q2:=hg x hm;have hc:=u22 hM x (hS.enums x hm);simp only[XY,Zg x]at hc;simp only[QC hlt,Qi,QHa,Qc,hgx,h1,h3,hk,o1,oS,eE,seval];refine aC hc ?_;refine Q8 (xs:=(l++(S.enums.take i).flatMap (ZS)).map PB.av) (by rfl) (by exact oR) rfl (by simp) (by rfl) (Ho _) (by simp only[QGs,QG7,maxLen];omega) (by simp only[QGs,QG7];omega) ?_;simp only[h3,hk,oS,e1,eE,seval];refine⟨S.enums.length-(i+1),by omega,_,_,i+1,rfl,rfl,by omega,(by exact h1),(by exact h3),(by exact h9),(by rfl),(by exact o1),⟨g+1,?_,?_⟩⟩
 ·rw[X3 hx,←QGa];simp only[QGs,QG7,Qa,seval]
 ·rw[X3 hx,←QGa];simp only[QHj,Qa,seval]

include hM hS in
theorem QCg (hF:(QM S).length=S.msgs.length)(l:List PB)(hl:l.length≤1000000000)(h8:S.servs.length≤8)(f:Fr)(fr:Nat→Ob)(h1:f 1=.ptr 0 1 0)(h3:f 3=.ptr 0 3 0)(h9:f 9=.list ((QM S).map AV.bool))(hk:f 12=.int .i64 0)
  (o1:fr 1=.cells [.list (S.msgs.map fun n=>.agg n.cells),.list (S.enums.map fun n=>.agg n.cells),.list (S.servs.map fun n=>.agg n.cells)]) (hA:AS fr l) (Q:Exit→St→Prop)
  (hq:∀(f:Fr) (fr:Nat→Ob),f 1=.ptr 0 1 0→f 3=.ptr 0 3 0→f 9=.list ((QM S).map AV.bool)→fr 1=.cells [.list (S.msgs.map fun n=>.agg n.cells),.list (S.enums.map fun n=>.agg n.cells),.list (S.servs.map fun n=>.agg n.cells)]→AS fr (l++S.servs.flatMap (Z7 S))→Q (.exit 6) ⟨f,[fr],[]⟩):QK Tryz.prog (.loop H6) ⟨f,[fr],[]⟩ Q:=by
 let I:Nat→St→Prop:=fun n st=>∃f fr i,st=⟨f,[fr],[]⟩∧n=S.servs.length-i∧i≤S.servs.length∧f 1=.ptr 0 1 0∧f 3=.ptr 0 3 0∧f 9=.list ((QM S).map AV.bool)∧f 12=.int .i64 (i:Nat)∧
  fr 1=.cells [.list (S.msgs.map fun n=>.agg n.cells),.list (S.enums.map fun n=>.agg n.cells),.list (S.servs.map fun n=>.agg n.cells)]∧AS fr (l++(S.servs.take i).flatMap (Z7 S))
 have hg:∀x∈S.servs,((Z7 S) x).length≤14000000:=fun x hx=>Bz hM S x (hS.servs x hx)
 have _:=hF;refine Qd I _ ⟨f,fr,0,rfl,rfl,QFZ _,h1,h3,h9,hk,o1,by simpa using hA⟩ ?_;clear h1 h3 h9 hk o1 hA;rintro _ st ⟨f,fr,i,rfl,rfl,hi,h1,h3,h9,hk,o1,⟨g,oS,oR⟩⟩;simp only[H6,C4,C5,C6,QG7,h1,hk,o1,eE,seval];by_cases hlt:i<S.servs.length
 case neg=>
  have e:i=S.servs.length:=by omega
  subst e;simp only[QG hlt,Qa,seval];rw[QHh]at oS oR;exact hq _ _ (by exact h1) (by exact h3) (by exact h9) o1 ⟨g,oS,oR⟩
 obtain⟨x,hx⟩:∃x,S.servs[i]? = some x:=⟨S.servs[i],QFT hlt⟩;have hm:=QF4 hx;have hgx:(S.servs.map fun n=>AV.agg n.cells)[i]? = some (.agg x.cells):=by rw[QG5,hx];rfl
 rw[J5]at hgx;have e1:=Qo i _ hlt (by simp only[maxLen];omega);have q1:=Z1 hg i;have q2:=hg x hm;have hc:=u23 hM S hS x (hS.servs x hm);simp only[KL,J5 x,SC.av]at hc;simp only[QC hlt,Qi,QHa,Qc,hgx,h1,h3,hk,o1,oS,eE,seval];refine aC hc ?_;refine Q8 (xs:=(l++(S.servs.take i).flatMap (Z7 S)).map PB.av) (by rfl) (by exact oR) rfl (by simp) (by rfl) (Ho _) (by simp only[QGs,QG7,maxLen];omega) (by simp only[QGs,QG7];omega) ?_;simp only[h3,hk,oS,e1,eE,seval];refine⟨S.servs.length-(i+1),by omega,_,_,i+1,rfl,rfl,by omega,(by exact h1),(by exact h3),(by exact h9),(by rfl),(by exact o1),⟨g+1,?_,?_⟩⟩
 ·rw[X3 hx,←QGa];simp only[QGs,QG7,Qa,seval]
 ·rw[X3 hx,←QGa];simp only[QHj,Qa,seval]

theorem YT (S:SC):(QM S).length=S.msgs.length:=by
 unfold QM;rw[YO,QHb]

include hM hS h8 in
theorem u12:Qs Tryz.prog 12 [S.av] (.list ((K3 S (Xa S (QM S))).map PB.av)):=by
 have h8':=h8;obtain⟨l1,l2,l3⟩:=h8';refine k12.fn (by simp) ?_;simp only[WV,o12,Tu,Tv,SC.av,eE,seval];refine Xn rfl rfl rfl rfl ?_;generalize hb:(Qp Qf 1 _:Nat→Ob)=base;have o1:base 1=.cells [.list (S.msgs.map fun n=>.agg n.cells),.list (S.enums.map fun n=>.agg n.cells),.list (S.servs.map fun n=>.agg n.cells)]:=by rw[←hb];exact(by rfl)
 clear hb;rw[Gf base 3 1100 [] _ (by decide)];simp only[Tw,Qa,seval];refine QCd hM S hS h8 base o1 _ (by rfl) (by rfl) (by rfl) _ (fun f h1 h3=>?_);have m1:=AG hM S hS 1;have m2:=AG hM S hS 2;have m3:=AG hM S hS 3;have n1:(QT S 1).length≤8:=by simp[QT];omega
 have n2:(QT S 2).length≤8:=by simp[QT];omega
 have n3:(QT S 3).length≤8:=by simp[QT];omega
 have eA:QT S 1=S.msgs.map SM.name:=by simp[QT]
 have eB:QT S 2=S.enums.map SE.name:=by simp[QT]
 have eC:QT S 3=S.servs.map SQ.name:=by simp[QT]
 have hap:W7 (QT S 1) (QT S 2) (QT S 3)=Jm S:=by rw[eA,eB,eC];exact MU S
 have hlA:∀A B C:List (List UInt8),ZZ A++ZZ B++ZZ C=Ji A B C 3:=fun _ _ _=>rfl
 have hpa:K3 S (Xa S (QM S))=Ji (QT S 1) (QT S 2) (QT S 3) 3++pb [] (-1) (Jm S) 9++S.msgs.flatMap (ZX S (Xa S (QM S)))++S.enums.flatMap ZS++S.servs.flatMap (Z7 S):=by
  unfold K3;rw[eA,eB,eC,hlA]
 rw[hpa];have q0:(Ji (QT S 1) (QT S 2) (QT S 3) 3).length≤6:=by
  have a:=Zy (QT S 1);have b:=Zy (QT S 2);have c:=Zy (QT S 3);simp only[Ji,QGs];omega
 have hmt:Jm S=!((QT S 1).any (fun s=>(QT S 2).contains s)||(QT S 1).any (fun s=>(QT S 3).contains s)||(QT S 2).any (fun s=>(QT S 3).contains s)):=by
  rw[←hap,YS (QT S 1) (QT S 2),YS (QT S 1) (QT S 3),YS (QT S 2) (QT S 3),Bool.not_or,Bool.not_or];rfl
 generalize Ji (QT S 1) (QT S 2) (QT S 3) 3=p at *;clear eA eB eC hap hlA hpa;generalize QT S 1=A at *;generalize QT S 2=B at *;generalize QT S 3=C at *;simp only[SC.av]at m1 m2 m3;have k1:=u19 A B (by simp only[maxLen];omega) (by simp only[maxLen];omega);have k2:=u19 A C (by simp only[maxLen];omega) (by simp only[maxLen];omega);have k3:=u19 B C (by simp only[maxLen];omega) (by simp only[maxLen];omega);simp only[TD,Qv,h1,o1,eE,seval];refine aC m1 ?_;simp only[TE,Qv,h1,o1,eE,seval];refine aC m2 ?_;simp only[CW,Qv,h1,o1,eE,seval];refine aC m3 ?_;have key:∀f:Fr,f 1=.ptr 0 1 0→f 3=.ptr 0 3 0→QK Tryz.prog (.seq (.reg Da) (.seq (.seq (.reg Db) (.block 2 (.loop H4))) (.seq (.seq (.reg Dc) (.block 4 (.loop H5))) (.seq (.seq (.reg Dd) (.block 6 (.loop H6))) (.seq (.reg De) .ret)))))
   ⟨f,[Q1 base 3 1100 [] (p++pb [] (-1) (Jm S) 9)],[]⟩ (Zm [.tmp 2] 0 fun x _=>x=.list ((p++pb [] (-1) (Jm S) 9++S.msgs.flatMap (ZX S (Xa S (QM S)))++S.enums.flatMap ZS++S.servs.flatMap (Z7 S)).map PB.av)):=by
  intro f h1 h3;have q1:=Qu q0 [] (-1) (Jm S) 9;generalize p++pb [] (-1) (Jm S) 9=L at *;have hf:=u20 hM S hS;simp only[SC.av]at hf;simp only[Da,Qv,h1,o1,eE,seval];refine aC hf ?_;simp only[Db,Qa,seval];refine QCe hM S hS (YT S) L (by omega) l1 _ _ (by exact h1) (by exact h3) (by rfl) (by rfl) (by rw[Zz _ _ _ _ _ (by decide) (by decide)];exact o1) ⟨_,Yh _ _ _ _ _,Yi _ _ _ _ _ (by decide)⟩ _ (fun f fr h1 h3 h9 o1 hA=>?_);have q2:=Z1 (l:=S.msgs) (fun x hx=>Yf hM S (Xa S (QM S)) x (hS.msgs x hx)) S.msgs.length;rw[QHh]at q2;simp only[Dc,Qa,seval];refine QCf hM S hS (YT S) _ (by rw[QGs];omega) l2 _ _ (by exact h1) (by exact h3) (by exact h9) (by rfl) o1 hA _ (fun f fr h1 h3 h9 o1 hA=>?_);have q3:=Z1 (l:=S.enums) (fun x hx=>Yg hM x (hS.enums x hx)) S.enums.length;rw[QHh]at q3;simp only[Dd,Qa,seval];refine QCg hM S hS (YT S) _ (by rw[QGs,QGs];omega) l3 _ _ (by exact h1) (by exact h3) (by exact h9) (by rfl) o1 hA _ (fun f fr h1 h3 h9 o1 hA=>?_);obtain⟨g,oS,oR⟩:=hA;simp only[De,h3,oS,oR,QG7,QGw,KM,QGf,QFQ,QGN,QGT,AV.un,eE,seval]
 simp only[Qa,seval]at key;simp only[CX,Qa,seval];refine aC k1 ?_;cases c1:A.any fun s=>B.contains s
 ·simp only[Qa,seval];refine aC k2 ?_;cases c2:A.any fun s=>C.contains s
  ·simp only[Qa,seval];refine aC k3 ?_;simp only[Qa,seval];refine QH (by decide) (by exact h3) rfl rfl rfl (by omega) ?_;have e:(!(B.any fun s=>C.contains s))=Jm S:=by rw[hmt,c1,c2,QHs,QHs]
   rw[e];simp only[Qa,seval];exact key _ (by exact h1) (by exact h3)
  ·have e:(!true)=Jm S:=by rw[hmt,c1,c2];rfl
   simp only[Qa,seval];refine QH (by decide) (by exact h3) rfl rfl rfl (by omega) ?_;rw[e];simp only[Qa,seval];exact key _ (by exact h1) (by exact h3)
 ·have e:(!true)=Jm S:=by rw[hmt,c1];rfl
  simp only[Qa,seval];refine QH (by decide) (by exact h3) rfl rfl rfl (by omega) ?_;rw[e];simp only[Qa,seval];exact key _ (by exact h1) (by exact h3)

include hM hS in
theorem u8 (h8:S.msgs.length≤8∧S.enums.length≤8∧S.servs.length≤8):Qs Tryz.prog 8 [S.av] (.bool (ZO S)):=by
 have hc:=u12 hM S hS h8;have hv:(((K3 S (Xa S (QM S))).length:Int)==0)=ZO S:=by
  have e:K3 S (Xa S (QM S))=[]↔ZO S=true:=I4;rw[QGE,QGe,←e]
  constructor
  ·intro h;exact QGO (by omega)
  ·intro h;rw[h];rfl
 refine k8.fn (by simp) ?_;simp only[SC.av,eE,seval];simp only[SC.av]at hc;refine aC hc ?_;simp only[QG7,hv,Qa,seval]
end

def V0:V:=.mk 0 0 [] [] [] [] []
theorem QCh (o:SN)(fr:Nat→Ob)(n:List UInt8)(hf:fr 3=.cells [.str n]):Qn Tryz.prog 133 [US o,.ptr 1 3 0] [Qf,fr] fun y m1=>y=.bool (o.name==n)∧m1=[Qf,fr]:=by
 refine Qei.go (by simp) ?_;simp only[hf,US,Yx,QB,eE,seval]

section
variable (l:List SN)(hl:l.length≤maxLen)(n:List UInt8)
include hl
theorem QCi:Qs Tryz.prog 109 [.list (l.map fun n=>.agg n.cells),.str n] (.int .i64 (QS (fun x:SN=>x.name==n) l 0)):=by
 refine QbW.fn (by simp) ?_;simp only[eE,seval];refine Qb (QA1 l hl (fun x=>x.name==n) 133 [.ptr 0 3 0] _ fun o _=>QCh o _ n (by rfl)) (by simp only[QGn,QGK,Qa,seval]<;>rfl) ?_;simp only[Qa,seval]

theorem s77:Qs Tryz.prog 77 [.list (l.map fun n=>.agg n.cells),.str n] (.tup [(((l.find? fun x:SN=>x.name==n).map SN.val).getD V0).av,.bool (l.find? fun x:SN=>x.name==n).isSome]):=by
 refine k77.fn (by simp) ?_;simp only[eE,seval];refine aC (QCi l hl n) ?_;rcases Xo (fun x:SN=>x.name==n) l 0 with⟨h1,h2⟩|⟨j,o,h1,h2,h3⟩
 ·have e:V0.av=.agg [.int .i64 0,.int .u64 ((0:Nat):Int),.str [],.list [],.list [],.list [],.list []]:=by rw[V.av,V.eta];rfl
  simp only[h1,h2,Option.map_none,QHg,QGC,e,eE,seval]
 ·have hj:(l.map fun o=>AV.agg o.cells)[j]? = some (.agg o.cells):=by simp[h2]
  have d:decide ((j:Int)<0)=false:=QHt (by omega);rw[QGf]at h1;rw[Yx]at hj;have e:o.val.av=.agg o.val.cells:=rfl;rw[V.eta]at e;simp only[h1,d,Qi,QHa,Qc,hj,h3,QGg,QGU,QHu,e,eE,seval]

omit hl in
theorem UU:(l.find? fun x:SN=>x.name==alias).map SN.val=Xy l:=rfl

theorem s72:Qs Tryz.prog 72 [.list (l.map fun n=>.agg n.cells)] (.str (((Xy l).map V.text).getD [])):=by
 have hf:=s77 l hl alias;rw[UU]at hf;have e:((Xy l).map V.text).getD []=((Xy l).getD V0).text:=by cases Xy l<;>rfl
 rw[e];generalize (Xy l).getD V0=v at *;rw[V.av,V.eta]at hf;simp only[alias]at hf;refine k72.fn (by simp) ?_;simp only[Qa,seval];refine aC hf ?_;simp only[eE,seval]
end

theorem QCj (o:SM)(fr:Nat→Ob)(k:Int)(n:List UInt8)(hf:fr 3=.cells [.int .i64 k,.str n]):Qn Tryz.prog 106 [QY o,.ptr 1 3 0] [Qf,fr] fun y m1=>y=.bool (o.name==n)∧m1=[Qf,fr]:=by
 refine QbA.go (by simp) ?_;simp only[hf,QY,Xz,QB,eE,seval]

theorem QCk (o:SE)(fr:Nat→Ob)(k:Int)(n:List UInt8)(hf:fr 3=.cells [.int .i64 k,.str n]):Qn Tryz.prog 108 [XY o,.ptr 1 3 0] [Qf,fr] fun y m1=>y=.bool (o.name==n)∧m1=[Qf,fr]:=by
 refine QbR.go (by simp) ?_;simp only[hf,XY,Zg,QB,eE,seval]

theorem s73 (S:SC)(l1:S.msgs.length≤maxLen)(l2:S.enums.length≤maxLen)(f:SF):Qs Tryz.prog 73 [S.av,.agg [.int .i64 f.kind,.str f.tname]] (.int .i64 (Kx S f)):=by
 refine k73.fn (by simp) ?_;unfold Kx;simp only[SC.av,eE,seval];by_cases h1:f.kind=10
 ·have d:(f.kind==10)=true:=by simp[h1]
  rw[QFY h1];simp only[d,eE,seval];refine Qb (Qoz S.msgs l1 (fun m=>m.name==f.tname) 106 [.ptr 0 3 0] _ fun o _=>QCj o _ f.kind f.tname (by rfl)) (by simp only[QGn,QGK,Qa,seval]<;>rfl) ?_;simp only[Qa,seval]
 have d:(f.kind==10)=false:=by simp[h1]
 rw[QFX h1];by_cases h2:f.kind=9
 ·have d2:(f.kind==9)=true:=by simp[h2]
  rw[QFY h2];simp only[d,d2,eE,seval];refine Qb (QoA S.enums l2 (fun m=>m.name==f.tname) 108 [.ptr 0 3 0] _ fun o _=>QCk o _ f.kind f.tname (by rfl)) (by simp only[QGn,QGK,Qa,seval]<;>rfl) ?_;simp only[Qa,seval]
 have d2:(f.kind==9)=false:=by simp[h2]
 rw[QFX h2];simp only[d,d2,Qa,seval]

theorem MZ {sz:Nat}(h0:sz≠0){xs:List AV}(h:xs.all (fun e=>e.cells.length==sz)=true)(hf:QL xs=[]):xs=[]:=by
 cases xs with
 |nil=>rfl
 |cons x xs=>
  have hl:x.cells.length=sz:=by simpa using QF3.1 h x (by simp)
  have:x.cells=[]:=(QHJ.1 hf).1;rw[this]at hl;exact absurd hl.symm h0
theorem s76 (L:List PS)(hn:L.length≤1000000000):Qs Tryz.prog 76 [.list (L.map QU)] (.list (L.map QU)):=by
 have h:(L.map QU).all (fun e=>e.cells.length==2)=true:=by
  rw[QF3];intro x hx;obtain⟨y,_,rfl⟩:=QG3.1 hx;rfl
 have ht:List.take L.length (L.map QU)=L.map QU:=QGo (by simp);refine k76.fn (by simp) ?_;simp only[Qa,seval];refine B8 (ys:=L.map QU) (by simp only[Qa,seval]) ?_ ?_
 ·simp only[Qa,seval];refine Vi rfl ?_;simp only[Qa,seval];refine Q8 (site:=5) (g:=1) (xs:=[]) (ys:=L.map QU) rfl rfl rfl rfl rfl h (by simp only[QG7,maxLen];omega) (by simp only[QG7];omega) ?_;simp only[QG7,QGc,QGf,QGw,ht,QFQ,QGN,QGT,AV.un,eE,seval]
 ·intro he;have hx:L=[]:=by
   rcases he with he|he
   ·exact List.map_eq_nil_iff.1 he
   ·exact List.map_eq_nil_iff.1 (MZ (by decide) h he)
  subst hx;simp only[Qa,seval];refine KS (by simp only[Qa,seval]) rfl ?_;simp only[QGf,QFQ,QGN,QGT,AV.un,eE,seval]

def un (l:List SF)(i:Nat):List (List UInt8):=unl [] (l.take i)
theorem BB {l:List SF}{i:Nat}{x:SF}(h:l[i]? = some x):un l (i+1)=if x.union=[]∨(un l i).contains x.union=true then un l i else un l i++[x.union]:=by
 unfold un;rw[QHk,h,QHl,K1];rfl
theorem D5 (l:List SF):∀i,(un l i).length≤i
 |0=>QFQ _
 |i+1=>by
  have ih:=D5 l i;cases hx:l[i]? with
  |none=>
   have e:un l (i+1)=un l i:=by unfold un;rw[QHk,hx,Option.toList_none,QGM]
   rw[e];omega
  |some x=>
   rw[BB hx];split
   ·omega
   ·rw[QGs,QHe];omega
theorem QoM {l:List SF}{i:Nat}{u:List UInt8}(h:(un l i).contains u=true):ZF (unl [] l) u=ZF (un l i) u:=by
 have e:unl [] l=unl (un l i) (l.drop i):=by
  unfold un;rw[←K1,QGY]
 obtain⟨r,hr⟩:=Yd (l.drop i) (un l i);rw[e,hr];exact(Bn (QHH.1 h)).1
theorem QoN (l:List SF):un l l.length=unl [] l:=by unfold un;rw[QHh]

def BC (S:SC)(x:SF)(u:Int):List AV:=[.int .i64 x.num,.str x.name,.str (((Xy x.notes).map V.text).getD []),.int .i64 x.card,.int .i64 x.key,.int .i64 x.kind,.int .i64 (Kx S x),.int .i64 u]
theorem M0 (S:SC)(us:List (List UInt8))(x:SF):(JO S us x).cells=BC S x (Jh us x):=rfl

section
variable {M:Nat}(hM:M≤1048576)(S:SC)(hS:S.ok M)(m:SM)(hm:m.ok M)

def PgI (k:Nat)(st:St):Prop :=
 ∃f fr i g h,st=⟨f,[fr],[]⟩∧k=m.fields.length-i∧i≤m.fields.length∧f 2=.ptr 0 2 0∧f 4=.ptr 0 4 0∧f 5=.ptr 0 5 0∧f 6=.vec 0 6 g 0 (un m.fields i).length false∧f 14=.list (m.fields.map fun n=>.agg n.cells)∧f 15=.int .i64 (m.fields.length:Nat)∧f 16=.int .i64 (i:Nat)∧
  fr 2=.cells [.list (S.msgs.map fun n=>.agg n.cells),.list (S.enums.map fun n=>.agg n.cells),.list (S.servs.map fun n=>.agg n.cells)]∧fr 4=.cells [.str [],.nils,.int .i64 0]∧fr 5=.cells [.str m.name,.vec 0 1100 h 0 i false,.int .i64 0]∧fr 6=.vec g 1 ((un m.fields i).map Qk)∧
  fr 1100=.vec h 8 ((m.fields.take i).map fun x=>.agg (JO S (unl [] m.fields) x).cells)∧∀s∈[9,8],(fr s).isRow=false

include hM hm in
theorem M1 (Q:Exit→St→Prop)(i:Nat)(x:SF)(hx:m.fields[i]? = some x)(f:Fr)(fr:Nat→Ob)(g h:Nat)(h2:f 2=.ptr 0 2 0)(h4:f 4=.ptr 0 4 0)(h5:f 5=.ptr 0 5 0)(h6:f 6=.vec 0 6 g 0 (un m.fields (i+1)).length false)(h9:f 9=.ptr 0 9 0)(h14:f 14=.list (m.fields.map fun n=>.agg n.cells))(h15:f 15=.int .i64 (m.fields.length:Nat))(h16:f 16=.int .i64 (i:Nat))
  (o2:fr 2=.cells [.list (S.msgs.map fun n=>.agg n.cells),.list (S.enums.map fun n=>.agg n.cells),.list (S.servs.map fun n=>.agg n.cells)]) (o4:fr 4=.cells [.str [],.nils,.int .i64 0]) (o5:fr 5=.cells [.str m.name,.vec 0 1100 h 0 i false,.int .i64 0]) (o6:fr 6=.vec g 1 ((un m.fields (i+1)).map Qk))
  (oR:fr 1100=.vec h 8 ((m.fields.take i).map fun x=>.agg (JO S (unl [] m.fields) x).cells)) (o9:fr 9=.cells (BC S x (Jh (unl [] m.fields) x))) (r8:(fr 8).isRow=false) :
  Qj Tryz.prog UB ⟨f,[fr],[]⟩ (Kb 1 (Kc Tryz.prog (.reg UC) (Kl (PgI S m) (m.fields.length-i) Q)) Exit.normal):=by
 have hlt:i<m.fields.length:=(QFS.1 hx).1;have hl1:=hm.len1;have e1:=Qo i _ hlt (by simp only[maxLen];omega);have ht:(m.fields.take i).length=i:=by rw[QGF];omega
 simp only[BC]at o9;simp only[UB,UC,h5,h9,o5,o9,eE,seval];refine XN rfl rfl (by decide) rfl rfl ?_;simp only[nn0,QGn,QGK,seval];refine Q8 (xs:=(m.fields.take i).map fun x=>.agg (JO S (unl [] m.fields) x).cells) (by rfl) (by exact oR) rfl (by rw[QG7,ht]) (by rfl) rfl (by simp only[QF5,QGV,maxLen];omega) (by simp only[QF5,QGV];omega) ?_;simp only[h5,h16,o5,e1,eE,seval];refine⟨m.fields.length-(i+1),by omega,_,_,i+1,g,h+1,rfl,rfl,by omega,(by exact h2),(by exact h4),(by exact h5),(by exact h6),(by exact h14),(by exact h15),(by rfl),(by exact o2),(by exact o4),(by rfl),(by exact o6),?_,?_⟩
 ·rw[QHk,hx,QHl,QHj];simp only[QGn,QGK,M0,BC,Qa,seval]
 ·intro s hs;simp only[QG2,QHG,or_false]at hs;rcases hs with rfl|rfl
  ·simp only[o9,Qa,seval]<;>rfl
  ·exact r8

include hM hm in
theorem M2 (Q:Exit→St→Prop)(i:Nat)(x:SF)(hx:m.fields[i]? = some x)(hu:x.union≠[])(hc:(un m.fields (i+1)).contains x.union=true)(f:Fr)(fr:Nat→Ob)(g h:Nat)(h2:f 2=.ptr 0 2 0)(h4:f 4=.ptr 0 4 0)(h5:f 5=.ptr 0 5 0)(h6:f 6=.vec 0 6 g 0 (un m.fields (i+1)).length false)(h8:f 8=.ptr 0 8 0)(h9:f 9=.ptr 0 9 0)(h14:f 14=.list (m.fields.map fun n=>.agg n.cells))(h15:f 15=.int .i64 (m.fields.length:Nat))(h16:f 16=.int .i64 (i:Nat))
  (o2:fr 2=.cells [.list (S.msgs.map fun n=>.agg n.cells),.list (S.enums.map fun n=>.agg n.cells),.list (S.servs.map fun n=>.agg n.cells)]) (o4:fr 4=.cells [.str [],.nils,.int .i64 0]) (o5:fr 5=.cells [.str m.name,.vec 0 1100 h 0 i false,.int .i64 0]) (o6:fr 6=.vec g 1 ((un m.fields (i+1)).map Qk))
  (oR:fr 1100=.vec h 8 ((m.fields.take i).map fun x=>.agg (JO S (unl [] m.fields) x).cells)) (o9:fr 9=.cells (BC S x (-1))) (o8:fr 8=.cells x.cells) :
  Qj Tryz.prog GT ⟨f,[fr],[]⟩ (Kc Tryz.prog (.reg UB) (Kb 1 (Kc Tryz.prog (.reg UC) (Kl (PgI S m) (m.fields.length-i) Q))) Exit.normal):=by
 have hlt:i<m.fields.length:=(QFS.1 hx).1;have hl1:=hm.len1;have hul:=D5 m.fields (i+1);have eu:Jh (unl [] m.fields) x=ZF (un m.fields (i+1)) x.union:=by
  rw[Jh,QFX hu];exact QoM hc
 rw[QJ]at o8;simp only[BC]at o9;simp only[GT,h6,h8,o8,eE,seval];refine Xh (s75 (un m.fields (i+1)) (by simp only[maxLen];omega) x.union) ?_ rfl rfl (.inr rfl) ?_
 ·have ht:List.take (un m.fields (i+1)).length ((un m.fields (i+1)).map Qk)=(un m.fields (i+1)).map Qk:=QGo (by simp);simp only[QGn,QGK,AV.stillL,AV.still,Am.Qe,o6,QG7,ht,QGw,QGf,QFQ,QGN,QHd,QF9,Qa,seval]<;>rfl
 simp only[h9,o9,eE,seval];exact M1 hM S m hm _ i x hx _ _ g h (by exact h2) (by exact h4) (by exact h5) (by exact h6) (by exact h9) (by exact h14) (by exact h15) (by exact h16) (by exact o2) (by exact o4) (by exact o5) (by exact o6) (by exact oR) (by rw[eu];rfl) (by simp only[o8,Qa,seval]<;>rfl)

include hM hm hS in
theorem s49:Qs Tryz.prog 49 [S.av,QY m] (.agg (ZI S m).cells):=by
 obtain⟨l1,l2,_⟩:=Zw S hS hM;have hl1:=hm.len1;refine k49.fn (by simp) ?_;simp only[r49,o49,SB,SD,SC.av,QY,Xz m,eE,seval];refine Xn rfl rfl rfl rfl ?_;simp only[SG,Qa,seval];refine KS rfl rfl ?_;simp only[SH,QG7,eE,seval];refine Qd (PgI S m) _ ⟨_,_,0,1,1,rfl,rfl,QFZ _,(by rfl),(by rfl),(by rfl),(by rfl),(by rfl),(by rfl),(by rfl),(by rfl),(by rfl),(by rfl),(by rfl),(by rfl),by intro s hs;simp only[QG2,QHG,or_false]at hs;rcases hs with rfl|rfl<;>rfl⟩ ?_;rintro _ st ⟨f0,fr0,i,g,h,rfl,rfl,hi,h20,h40,h50,h60,h140,h150,h160,ZG,ZH,ZV,KF,oR0,r8⟩;refine Qz (a:=_) [9,8] r8 ?_;intro f fr hf hmm hn;have h2:f 2=.ptr 0 2 0:=by rw[hf,h20]<;>rfl
 have h4:f 4=.ptr 0 4 0:=by rw[hf,h40]<;>rfl
 have h5:f 5=.ptr 0 5 0:=by rw[hf,h50]<;>rfl
 have h6:f 6=.vec 0 6 g 0 (un m.fields i).length false:=by rw[hf,h60]<;>rfl
 have h14:f 14=.list (m.fields.map fun n=>.agg n.cells):=by rw[hf,h140]<;>rfl
 have h15:f 15=.int .i64 (m.fields.length:Nat):=by rw[hf,h150]<;>rfl
 have h16:f 16=.int .i64 (i:Nat):=by rw[hf,h160]<;>rfl
 have o2:fr 2=.cells [.list (S.msgs.map fun n=>.agg n.cells),.list (S.enums.map fun n=>.agg n.cells),.list (S.servs.map fun n=>.agg n.cells)]:=by rw[hmm 2 (by decide),ZG]<;>rfl
 have o4:fr 4=.cells [.str [],.nils,.int .i64 0]:=by rw[hmm 4 (by decide),ZH]<;>rfl
 have o5:fr 5=.cells [.str m.name,.vec 0 1100 h 0 i false,.int .i64 0]:=by rw[hmm 5 (by decide),ZV]<;>rfl
 have o6:fr 6=.vec g 1 ((un m.fields i).map Qk):=by rw[hmm 6 (by decide),KF]<;>rfl
 have oR:fr 1100=.vec h 8 ((m.fields.take i).map fun x=>.agg (JO S (unl [] m.fields) x).cells):=by rw[hmm 1100 (by decide),oR0]<;>rfl
 have n8:=hn 8 (by decide);have n9:=hn 9 (by decide);clear hf hmm hn h20 h40 h50 h60 h140 h150 h160 ZG ZH ZV KF oR0 r8;simp only[SJ,h15,h16,Qa,seval];by_cases hlt:i<m.fields.length
 case neg=>
  have e:i=m.fields.length:=by omega
  subst e;have eG:(ZI S m).cells=[.str m.name,.list (m.fields.map fun x=>.agg (JO S (unl [] m.fields) x).cells),.int .i64 ((un m.fields m.fields.length).length:Nat)]:=by
   rw[QoN];unfold PG.cells ZI;simp only[QHn];rfl
  have ht:List.take m.fields.length (m.fields.map fun x=>AV.agg (JO S (unl [] m.fields) x).cells)=m.fields.map fun x=>AV.agg (JO S (unl [] m.fields) x).cells:=QGo (by simp)
  rw[QHh]at oR;simp only[QG hlt,VP,VQ,h4,h5,h6,o4,o5,o6,oR,eG,ht,QG7,QGw,QGf,QFQ,QGN,QGT,AV.un,AV.unL,eE,seval]
 obtain⟨x,hx⟩:∃x,m.fields[i]? = some x:=⟨m.fields[i],QFT hlt⟩;have hg:(m.fields.map fun n=>AV.agg n.cells)[i]? = some (.agg x.cells):=by rw[QG5,hx];rfl
 rw[QJ]at hg;have hxo:=hm.fields x (QF4 hx);have hln:=hxo.len;have hal:=s72 x.notes (by simp only[maxLen];omega);have htr:=s73 S l1 l2 x;simp only[SC.av]at htr;have hus:=BB hx;have hul:=D5 m.fields i;simp only[QC hlt,n8,SK,SL,Qi,QHa,Qc,hg,h14,h16,eE,seval];refine aC hal ?_;simp only[h2,o2,eE,seval];refine aC htr ?_;simp only[n9,SP,eE,seval];by_cases hu:x.union=[]
 ·have d:(x.union==[])=true:=by simp[hu]
  rw[QFY (.inl hu)]at hus;have eu:Jh (unl [] m.fields) x = -1:=QFY hu;simp only[d,QB,QHq,Qa,seval];exact M1 hM S m hm _ i x hx _ _ g h (by exact h2) (by exact h4) (by exact h5) (by rw[hus];exact(by exact h6)) (by rfl) (by exact h14) (by exact h15) (by exact h16) (by exact o2) (by exact o4) (by exact o5) (by rw[hus];exact(by exact o6)) (by exact oR) (by rw[eu];rfl) rfl
 have d:(x.union==[])=false:=by simp[hu]
 have eu:Jh (unl [] m.fields) x=ZF (unl [] m.fields) x.union:=QFX hu;simp only[d,QB,SR,h6,QGR,eE,seval];refine Xh (s74 (un m.fields i) (by simp only[maxLen];omega) x.union) ?_ rfl rfl (.inr rfl) ?_
 ·have ht:List.take (un m.fields i).length ((un m.fields i).map Qk)=(un m.fields i).map Qk:=QGo (by simp);simp only[QGn,QGK,AV.stillL,AV.still,Am.Qe,o6,QG7,ht,QGw,QGf,QFQ,QGN,QHd,QF9,Qa,seval]<;>rfl
 cases hc:(un m.fields i).contains x.union
 ·rw[QFX (by simp only[hu,hc,QF9,or_self,not_false_eq_true])]at hus;have hcc:(un m.fields (i+1)).contains x.union=true:=by
   rw[hus];exact QHH.2 (List.mem_append_right _ (QHI.2 rfl))
  simp only[SS,h6,QGR,eE,seval];refine ZE (w:=x.union) rfl ?_;refine Q8 (xs:=(un m.fields i).map Qk) (by rfl) (by exact o6) rfl (by simp) (by rfl) rfl (by simp only[QF5,QGV,maxLen];omega) (by simp only[QF5,QGV];omega) ?_;simp only[Qa,seval];exact M2 hM S m hm _ i x hx hu hcc _ _ (g+1) h (by exact h2) (by exact h4) (by exact h5) (by rw[hus,QGs];exact(by rfl)) (by rfl) (by rfl) (by exact h14) (by exact h15) (by exact h16) (by exact o2) (by exact o4) (by exact o5) (by rw[hus,QHj];exact(by rfl)) (by exact oR) rfl (by rw[QJ];rfl)
 ·rw[QFY (.inr hc)]at hus;simp only[QHq,Qa,seval];exact M2 hM S m hm _ i x hx hu (by rw[hus];exact hc) _ _ g h (by exact h2) (by exact h4) (by exact h5) (by rw[hus];exact(by exact h6)) (by rfl) (by rfl) (by exact h14) (by exact h15) (by exact h16) (by exact o2) (by exact o4) (by exact o5) (by rw[hus];exact(by exact o6)) (by exact oR) rfl (by rw[QJ];rfl)
end

theorem Rm {x:SI}(h:Xy x.notes=none):(JJ x).cells=[.str x.name,.int .i64 x.num,.list []]:=by
 unfold JJ PI.cells;rw[h];rfl
theorem Rn {x:SI}{v:V}(h:Xy x.notes=some v):(JJ x).cells=[.str x.name,.int .i64 x.num,.list [.agg (.str alias :: v.cells)]]:=by
 unfold JJ PI.cells;rw[h];simp only[QGn,QGK,PN.cells];rw[V.eta];rfl
section
variable {M:Nat}(hM:M≤1048576)(e:SE)(he:e.ok M)
def EnI (k:Nat)(st:St):Prop :=
 ∃f fr i h,st=⟨f,[fr],[]⟩∧k=e.items.length-i∧i≤e.items.length∧f 2=.ptr 0 2 0∧f 3=.ptr 0 3 0∧f 18=.list (e.items.map fun n=>.agg n.cells)∧f 19=.int .i64 (e.items.length:Nat)∧f 20=.int .i64 (i:Nat)∧
  fr 2=.cells [.str [],.bool false,.nils,.nils,.nils]∧fr 3=.cells [.str e.name,.bool e.opn,.vec 0 1100 h 0 i false,.list (e.free.map QU),.nils]∧
  fr 1100=.vec h 3 ((e.items.take i).map fun x=>.agg (JJ x).cells)∧∀s∈[7,6,5],(fr s).isRow=false

include hM he in
theorem M3 (Q:Exit→St→Prop)(i:Nat)(x:SI)(hx:e.items[i]? = some x)(f:Fr)(fr:Nat→Ob)(h:Nat)(l:List AV)(hl:(JJ x).cells=[.str x.name,.int .i64 x.num,.list l])(z:AV)(hz:nn0 z=.list l)(hzr:z.rf=true)(hzl:z.leaf=true)(h2:f 2=.ptr 0 2 0)(h3:f 3=.ptr 0 3 0)(h6:f 6=.ptr 0 6 0)(h18:f 18=.list (e.items.map fun n=>.agg n.cells))(h19:f 19=.int .i64 (e.items.length:Nat))(h20:f 20=.int .i64 (i:Nat))
  (o2:fr 2=.cells [.str [],.bool false,.nils,.nils,.nils]) (o3:fr 3=.cells [.str e.name,.bool e.opn,.vec 0 1100 h 0 i false,.list (e.free.map QU),.nils]) (oR:fr 1100=.vec h 3 ((e.items.take i).map fun x=>.agg (JJ x).cells)) (o6:fr 6=.cells [.str x.name,.int .i64 x.num,z]) (r5:∀s∈[7,5],(fr s).isRow=false) :
  Qj Tryz.prog Nu ⟨f,[fr],[]⟩ (Kb 1 (Kc Tryz.prog (.reg DE) (Kl (EnI e) (e.items.length-i) Q)) Exit.normal):=by
 have hlt:i<e.items.length:=(QFS.1 hx).1;have hl1:=he.len1;have e1:=Qo i _ hlt (by simp only[maxLen];omega);have ht:(e.items.take i).length=i:=by rw[QGF];omega
 simp only[Nu,DE,h3,h6,o3,o6,eE,seval];have hll:[AV.str x.name,.int .i64 x.num,z].all AV.leaf=true:=by
  simp only[QGW,List.all_nil,hzl,QGX];rfl
 have hnn:[AV.str x.name,.int .i64 x.num,z].map nn0=[.str x.name,.int .i64 x.num,.list l]:=by
  simp only[QGn,QGK,hz];rfl
 refine XN rfl rfl (by decide) (by simp only[AV.rfL,AV.rf,hzr,Bool.and_self]) hll ?_;rw[hnn];refine Q8 (xs:=(e.items.take i).map fun x=>.agg (JJ x).cells) (by rfl) (by exact oR) rfl (by rw[QG7,ht]) (by rfl) rfl (by simp only[QF5,QGV,maxLen];omega) (by simp only[QF5,QGV];omega) ?_;simp only[h3,h20,o3,e1,eE,seval];refine⟨e.items.length-(i+1),by omega,_,_,i+1,h+1,rfl,rfl,by omega,(by exact h2),(by exact h3),(by exact h18),(by exact h19),(by rfl),(by exact o2),(by rfl),?_,?_⟩
 ·rw[QHk,hx,QHl,QHj];simp only[QGn,QGK,hl,Qa,seval]
 ·intro s hs;simp only[QG2,QHG,or_false]at hs;rcases hs with rfl|rfl|rfl
  ·exact r5 7 (by decide)
  ·simp only[o6,Qa,seval]<;>rfl
  ·exact r5 5 (by decide)

include hM he in
theorem s50:Qs Tryz.prog 50 [XY e] (.agg (Jt e).cells):=by
 have hl1:=he.len1;have hl2:=he.len2;have hc:=s76 e.free (by omega);refine k50.fn (by simp) ?_;simp only[r50,ZV,Ae,Af,XY,Zg e,eE,seval];refine aC hc ?_;simp only[eE,seval];refine Xn rfl rfl rfl rfl ?_;simp only[Ag,QG7,eE,seval];refine Qd (EnI e) _ ⟨_,_,0,1,rfl,rfl,QFZ _,(by rfl),(by rfl),(by rfl),(by rfl),(by rfl),(by rfl),(by rfl),(by rfl),by intro s hs;simp only[QG2,QHG,or_false]at hs;rcases hs with rfl|rfl|rfl<;>rfl⟩ ?_;rintro _ st ⟨f0,fr0,i,h,rfl,rfl,hi,h20',h30,h180,h190,h200,ZG,X8,oR0,r8⟩;refine Qz (a:=_) [7,6,5] r8 ?_;intro f fr hf hmm hn;have h2:f 2=.ptr 0 2 0:=by rw[hf,h20']<;>rfl
 have h3:f 3=.ptr 0 3 0:=by rw[hf,h30]<;>rfl
 have h18:f 18=.list (e.items.map fun n=>.agg n.cells):=by rw[hf,h180]<;>rfl
 have h19:f 19=.int .i64 (e.items.length:Nat):=by rw[hf,h190]<;>rfl
 have h20:f 20=.int .i64 (i:Nat):=by rw[hf,h200]<;>rfl
 have o2:fr 2=.cells [.str [],.bool false,.nils,.nils,.nils]:=by rw[hmm 2 (by decide),ZG]<;>rfl
 have o3:fr 3=.cells [.str e.name,.bool e.opn,.vec 0 1100 h 0 i false,.list (e.free.map QU),.nils]:=by rw[hmm 3 (by decide),X8]<;>rfl
 have oR:fr 1100=.vec h 3 ((e.items.take i).map fun x=>.agg (JJ x).cells):=by rw[hmm 1100 (by decide),oR0]<;>rfl
 have n5:=hn 5 (by decide);have n6:=hn 6 (by decide);have n7:=hn 7 (by decide);clear hf hmm hn h20' h30 h180 h190 h200 ZG X8 oR0 r8;simp only[Ah,h19,h20,Qa,seval];by_cases hlt:i<e.items.length
 case neg=>
  have ei:i=e.items.length:=by omega
  subst ei;have eG:(Jt e).cells=[.str e.name,.bool e.opn,.list (e.items.map fun x=>.agg (JJ x).cells),.list (e.free.map QU),.list []]:=by
   unfold PE.cells Jt;simp only[QHn];rfl
  have ht:List.take e.items.length (e.items.map fun x=>AV.agg (JJ x).cells)=e.items.map fun x=>AV.agg (JJ x).cells:=QGo (by simp)
  rw[QHh]at oR;simp only[QG hlt,Mk,h2,h3,o2,o3,oR,eG,ht,QG7,QGw,QGf,QFQ,QGN,QGT,AV.un,AV.unL,eE,seval]
 obtain⟨x,hx⟩:∃x,e.items[i]? = some x:=⟨e.items[i],QFT hlt⟩;have hg:(e.items.map fun n=>AV.agg n.cells)[i]? = some (.agg x.cells):=by rw[QG5,hx];rfl
 rw[Z0]at hg;have hxo:=he.items x (QF4 hx);have hln:=hxo.len;have hfd:=s77 x.notes (by simp only[maxLen];omega) alias;have eis:(x.notes.find? fun x=>x.name==alias).isSome=(Xy x.notes).isSome:=by unfold Xy;rw[Option.isSome_map]
 rw[UU,eis]at hfd;simp only[QC hlt,n5,n6,Ai,Aj,Ak,Qi,QHa,Qc,hg,h18,h20,eE,seval];cases hal:Xy x.notes with
 |none=>
  rw[hal]at hfd;simp only[QHg,QGC,alias]at hfd;rw[V.av,V.eta]at hfd;refine aC hfd ?_;simp only[n7,Nt,eE,seval];exact M3 hM e he _ i x hx _ _ h [] (Rm hal) .nils rfl rfl rfl (by exact h2) (by exact h3) (by rfl) (by exact h18) (by exact h19) (by exact h20) (by exact o2) (by exact o3) (by exact oR) (by rfl) (by intro s hs;simp only[QG2,QHG,or_false]at hs;rcases hs with rfl|rfl<;>rfl)
 |some v=>
  rw[hal]at hfd;simp only[QGU,QHu,alias]at hfd;rw[V.av,V.eta]at hfd;have hm:=Rn hal;simp only[alias]at hm;rw[V.eta]at hm;refine aC hfd ?_;simp only[n7,Nt,Al,eE,seval];refine XN rfl rfl (by decide) rfl rfl ?_;simp only[nn0,QGn,QGK,eE,seval];exact M3 hM e he _ i x hx _ _ h _ hm _ rfl rfl rfl (by exact h2) (by exact h3) (by rfl) (by exact h18) (by exact h19) (by exact h20) (by exact o2) (by exact o3) (by exact oR) (by rfl) (by intro s hs;simp only[QG2,QHG,or_false]at hs;rcases hs with rfl|rfl<;>rfl)
end

def mkR (S:SC):AV:=if ZO S=true then .tup [(X5 S).av,.int .i64 0]else .tup [.agg [.list [],.list []],.int .i64 1]

section
variable {M:Nat}(hM:M≤1048576)(S:SC)(hS:S.ok M)
def BD (i j:Nat)(f:Fr)(fr:Nat→Ob):Prop:=f 1=.ptr 0 1 0∧f 2=.ptr 0 2 0∧f 4=.ptr 0 4 0∧(∃a b,fr 2=.cells [a,b])∧
  fr 1=.cells [.list (S.msgs.map fun n=>.agg n.cells),.list (S.enums.map fun n=>.agg n.cells),.list (S.servs.map fun n=>.agg n.cells)]∧(∀s∈[6,8],(fr s).isRow=false)∧
  ∃g h,fr 4=.cells [.vec 0 1100 g 0 i false,.vec 0 1101 h 0 j false]∧fr 1100=.vec g 3 ((S.msgs.take i).map fun m=>.agg (ZI S m).cells)∧fr 1101=.vec h 5 ((S.enums.take j).map fun e=>.agg (Jt e).cells)

include hM hS in
theorem QCl {i:Nat}(f:Fr)(fr:Nat→Ob)(H:BD S (i) (0) f fr)(hi0:i=0)(hw:f 14=.list (S.msgs.map fun n=>.agg n.cells))(hz:f 15=.int .i64 (S.msgs.length:Nat))(hk:f 16=.int .i64 0)(Q:Exit→St→Prop)
  (hq:∀f fr,BD S (S.msgs.length) (0) f fr→Q (.exit 0) ⟨f,[fr],[]⟩):QK Tryz.prog (.loop R0) ⟨f,[fr],[]⟩ Q:=by
 let I:Nat→St→Prop:=fun n st=>∃f fr i,st=⟨f,[fr],[]⟩∧n=S.msgs.length-i∧i≤S.msgs.length∧BD S (i) (0) f fr∧f 14=.list (S.msgs.map fun n=>.agg n.cells)∧f 15=.int .i64 (S.msgs.length:Nat)∧f 16=.int .i64 (i:Nat)
 have hl1:=hS.len1;subst hi0;refine Qd I _ ⟨f,fr,0,rfl,rfl,QFZ _,H,hw,hz,hk⟩ ?_;clear H hw hz hk;rintro _ st ⟨f0,fr0,i,rfl,rfl,hi,⟨h10,h20,h40,⟨a,b,ZG⟩,Xw,r6,g,h,ZH,oR0,oT0⟩,hw0,hz0,hk0⟩;refine Qz (a:=_) [6] (by intro s hs;exact r6 s (by simp only[QG2,QHG,or_false]at hs ⊢;omega)) ?_;intro f fr hf hmm hn;have h1:f 1=.ptr 0 1 0:=by rw[hf,h10]<;>rfl
 have h2:f 2=.ptr 0 2 0:=by rw[hf,h20]<;>rfl
 have h4:f 4=.ptr 0 4 0:=by rw[hf,h40]<;>rfl
 have hw:f 14=.list (S.msgs.map fun n=>.agg n.cells):=by rw[hf,hw0]<;>rfl
 have hz:f 15=.int .i64 (S.msgs.length:Nat):=by rw[hf,hz0]<;>rfl
 have hk:f 16=.int .i64 (i:Nat):=by rw[hf,hk0]<;>rfl
 have o1:fr 1=.cells [.list (S.msgs.map fun n=>.agg n.cells),.list (S.enums.map fun n=>.agg n.cells),.list (S.servs.map fun n=>.agg n.cells)]:=by rw[hmm 1 (by decide),Xw]<;>rfl
 have o2:∃a b,fr 2=.cells [a,b]:=⟨_,_,by rw[hmm 2 (by decide),ZG];rfl⟩;have o4:fr 4=.cells [.vec 0 1100 g 0 (i) false,.vec 0 1101 h 0 (0) false]:=by rw[hmm 4 (by decide),ZH]<;>rfl
 have oR:fr 1100=.vec g 3 ((S.msgs.take (i)).map fun m=>.agg (ZI S m).cells):=by rw[hmm 1100 (by decide),oR0]<;>rfl
 have oT:fr 1101=.vec h 5 ((S.enums.take (0)).map fun e=>.agg (Jt e).cells):=by rw[hmm 1101 (by decide),oT0]<;>rfl
 have nv:=hn 6 (by decide);have r6':∀s∈[6,8],(fr s).isRow=false:=by
  intro s hs;by_cases hsv:s=6
  ·subst hsv;rw[nv];rfl
  ·rw[hmm s (by simp only[QG2,QHG,or_false];exact hsv)];have:=r6 s hs
   revert this
   cases fr0 s<;>intro h<;>first|rfl|exact h
 clear hf hmm hn h10 h20 h40 ZG Xw r6 ZH oR0 oT0 hw0 hz0 hk0;simp only[RW,RX,RY,RZ,hz,hk,Qa,seval];by_cases hlt:i<S.msgs.length
 case neg=>
  have e:i=S.msgs.length:=by omega
  subst e;simp only[QG hlt,Qa,seval];exact hq _ _ ⟨(by exact h1),(by exact h2),(by exact h4),o2,o1,r6',g,h,o4,oR,oT⟩
 obtain⟨x,hx⟩:∃x,S.msgs[i]? = some x:=⟨S.msgs[i],QFT hlt⟩;have hm:=QF4 hx;have hg:(S.msgs.map fun n=>AV.agg n.cells)[i]? = some (.agg x.cells):=by rw[QG5,hx];rfl
 rw[Xz]at hg;have e1:=Qo i _ hlt (by simp only[maxLen];omega);have htl:(S.msgs.take i).length=i:=by rw[QGF];omega
 have hc:=s49 hM S hS x (hS.msgs x hm);simp only[QY,Xz x,SC.av]at hc;simp only[QC hlt,nv,Qi,QHa,Qc,hg,h1,h4,hw,hk,o1,o4,eE,seval];refine aC hc ?_;refine XN rfl rfl (by decide) rfl rfl ?_;rw[show List.map nn0 (ZI S x).cells=(ZI S x).cells from rfl];refine Q8 (xs:=(S.msgs.take i).map (fun m=>AV.agg (ZI S m).cells)) (by rfl) (by exact oR) rfl (by rw[QG7,htl]) (by rfl) rfl (by simp only[QF5,QGV,maxLen];omega) (by simp only[QF5,QGV];omega) ?_;simp only[h4,hk,o4,e1,eE,seval];obtain⟨a2,b2,o2⟩:=o2;have hsu:(S.msgs.take (i+1)).map (fun m=>AV.agg (ZI S m).cells)=(S.msgs.take i).map (fun m=>AV.agg (ZI S m).cells)++[(fun m=>AV.agg (ZI S m).cells) x]:=by rw[QHk,hx,QHl,QHj];rfl
 refine⟨S.msgs.length-(i+1),by omega,_,_,i+1,rfl,rfl,by omega,⟨(by exact h1),(by exact h2),(by exact h4),⟨a2,b2,(by exact o2)⟩,(by exact o1),?_,_,_,(by rfl),?_,?_⟩,(by exact hw),(by exact hz),(by rfl)⟩
 ·intro s hs;simp only[QG2,QHG,or_false]at hs;rcases hs with rfl|rfl<;>first|rfl|exact r6' _ (by decide)
 ·first|exact oR|(rw[hsu];rfl)|simp only[oR,eE,seval]
 ·first|exact oT|(rw[hsu];rfl)|simp only[oT,eE,seval]

include hM hS in
theorem QCm {i:Nat}(f:Fr)(fr:Nat→Ob)(H:BD S (S.msgs.length) (i) f fr)(hi0:i=0)(hw:f 30=.list (S.enums.map fun n=>.agg n.cells))(hz:f 31=.int .i64 (S.enums.length:Nat))(hk:f 32=.int .i64 0)(Q:Exit→St→Prop)
  (hq:∀f fr,BD S (S.msgs.length) (S.enums.length) f fr→Q (.exit 2) ⟨f,[fr],[]⟩):QK Tryz.prog (.loop R2) ⟨f,[fr],[]⟩ Q:=by
 let I:Nat→St→Prop:=fun n st=>∃f fr i,st=⟨f,[fr],[]⟩∧n=S.enums.length-i∧i≤S.enums.length∧BD S (S.msgs.length) (i) f fr∧f 30=.list (S.enums.map fun n=>.agg n.cells)∧f 31=.int .i64 (S.enums.length:Nat)∧f 32=.int .i64 (i:Nat)
 have hl1:=hS.len2;subst hi0;refine Qd I _ ⟨f,fr,0,rfl,rfl,QFZ _,H,hw,hz,hk⟩ ?_;clear H hw hz hk;rintro _ st ⟨f0,fr0,i,rfl,rfl,hi,⟨h10,h20,h40,⟨a,b,ZG⟩,Xw,r6,g,h,ZH,oR0,oT0⟩,hw0,hz0,hk0⟩;refine Qz (a:=_) [8] (by intro s hs;exact r6 s (by simp only[QG2,QHG,or_false]at hs ⊢;omega)) ?_;intro f fr hf hmm hn;have h1:f 1=.ptr 0 1 0:=by rw[hf,h10]<;>rfl
 have h2:f 2=.ptr 0 2 0:=by rw[hf,h20]<;>rfl
 have h4:f 4=.ptr 0 4 0:=by rw[hf,h40]<;>rfl
 have hw:f 30=.list (S.enums.map fun n=>.agg n.cells):=by rw[hf,hw0]<;>rfl
 have hz:f 31=.int .i64 (S.enums.length:Nat):=by rw[hf,hz0]<;>rfl
 have hk:f 32=.int .i64 (i:Nat):=by rw[hf,hk0]<;>rfl
 have o1:fr 1=.cells [.list (S.msgs.map fun n=>.agg n.cells),.list (S.enums.map fun n=>.agg n.cells),.list (S.servs.map fun n=>.agg n.cells)]:=by rw[hmm 1 (by decide),Xw]<;>rfl
 have o2:∃a b,fr 2=.cells [a,b]:=⟨_,_,by rw[hmm 2 (by decide),ZG];rfl⟩;have o4:fr 4=.cells [.vec 0 1100 g 0 (S.msgs.length) false,.vec 0 1101 h 0 (i) false]:=by rw[hmm 4 (by decide),ZH]<;>rfl
 have oR:fr 1100=.vec g 3 ((S.msgs.take (S.msgs.length)).map fun m=>.agg (ZI S m).cells):=by rw[hmm 1100 (by decide),oR0]<;>rfl
 have oT:fr 1101=.vec h 5 ((S.enums.take (i)).map fun e=>.agg (Jt e).cells):=by rw[hmm 1101 (by decide),oT0]<;>rfl
 have nv:=hn 8 (by decide);have r6':∀s∈[6,8],(fr s).isRow=false:=by
  intro s hs;by_cases hsv:s=8
  ·subst hsv;rw[nv];rfl
  ·rw[hmm s (by simp only[QG2,QHG,or_false];exact hsv)];have:=r6 s hs
   revert this
   cases fr0 s<;>intro h<;>first|rfl|exact h
 clear hf hmm hn h10 h20 h40 ZG Xw r6 ZH oR0 oT0 hw0 hz0 hk0;simp only[VF,VG,VH,VI,hz,hk,Qa,seval];by_cases hlt:i<S.enums.length
 case neg=>
  have e:i=S.enums.length:=by omega
  subst e;simp only[QG hlt,Qa,seval];exact hq _ _ ⟨(by exact h1),(by exact h2),(by exact h4),o2,o1,r6',g,h,o4,oR,oT⟩
 obtain⟨x,hx⟩:∃x,S.enums[i]? = some x:=⟨S.enums[i],QFT hlt⟩;have hm:=QF4 hx;have hg:(S.enums.map fun n=>AV.agg n.cells)[i]? = some (.agg x.cells):=by rw[QG5,hx];rfl
 rw[Zg]at hg;have e1:=Qo i _ hlt (by simp only[maxLen];omega);have htl:(S.enums.take i).length=i:=by rw[QGF];omega
 have hc:=s50 hM x (hS.enums x hm);simp only[XY,Zg x]at hc;simp only[QC hlt,nv,Qi,QHa,Qc,hg,h4,hw,hk,o4,eE,seval];refine aC hc ?_;refine XN rfl rfl (by decide) rfl rfl ?_;rw[show List.map nn0 (Jt x).cells=(Jt x).cells from rfl];refine Q8 (xs:=(S.enums.take i).map (fun e=>AV.agg (Jt e).cells)) (by rfl) (by exact oT) rfl (by rw[QG7,htl]) (by rfl) rfl (by simp only[QF5,QGV,maxLen];omega) (by simp only[QF5,QGV];omega) ?_;simp only[h4,hk,o4,e1,eE,seval];obtain⟨a2,b2,o2⟩:=o2;have hsu:(S.enums.take (i+1)).map (fun e=>AV.agg (Jt e).cells)=(S.enums.take i).map (fun e=>AV.agg (Jt e).cells)++[(fun e=>AV.agg (Jt e).cells) x]:=by rw[QHk,hx,QHl,QHj];rfl
 refine⟨S.enums.length-(i+1),by omega,_,_,i+1,rfl,rfl,by omega,⟨(by exact h1),(by exact h2),(by exact h4),⟨a2,b2,(by exact o2)⟩,(by exact o1),?_,_,_,(by rfl),?_,?_⟩,(by exact hw),(by exact hz),(by rfl)⟩
 ·intro s hs;simp only[QG2,QHG,or_false]at hs;rcases hs with rfl|rfl<;>first|rfl|exact r6' _ (by decide)
 ·first|exact oR|(rw[hsu];rfl)|simp only[oR,eE,seval]
 ·first|exact oT|(rw[hsu];rfl)|simp only[oT,eE,seval]

include hM hS in
theorem s25 (h8:S.msgs.length≤8∧S.enums.length≤8∧S.servs.length≤8):Qs Tryz.prog 25 [S.av] (mkR S):=by
 have hv:=s48 hM S hS h8;simp only[SC.av]at hv;refine k25.fn (by simp) ?_;simp only[r25,o25,RQ,RS,SC.av,eE,seval];refine aC hv ?_;unfold mkR;cases hs:ZO S
 ·rw[QFX (by simp)];simp only[RT,QGR,eE,seval]
 rw[QFY rfl];simp only[RU,QHq,eE,seval];refine Xn rfl rfl rfl rfl ?_;refine Xn rfl rfl rfl rfl ?_;simp only[RV,QG7,eE,seval];refine QCl hM S hS (i:=0) _ _ ⟨(by rfl),(by rfl),(by rfl),⟨_,_,rfl⟩,(by rfl),by intro s hs;simp only[QG2,QHG,or_false]at hs;rcases hs with rfl|rfl<;>rfl,1,1,(by rfl),(by rfl),(by rfl)⟩ rfl (by rfl) (by rfl) (by rfl) _ (fun f fr H=>?_);obtain⟨h1,h2,h4,o2,o1,r6,g,h,o4,oR,oT⟩:=H;simp only[R1,h1,o1,QG7,eE,seval];refine QCm hM S hS (i:=0) _ _ ⟨(by exact h1),(by exact h2),(by exact h4),o2,o1,r6,g,h,o4,oR,oT⟩ rfl (by rfl) (by rfl) (by rfl) _ (fun f fr H=>?_);clear h1 h2 h4 o2 o1 r6 o4 oR oT;obtain⟨h1,h2,h4,⟨a,b,o2⟩,o1,r6,g,h,o4,oR,oT⟩:=H;have ht1:List.take S.msgs.length (S.msgs.map fun m=>AV.agg (ZI S m).cells)=S.msgs.map fun m=>AV.agg (ZI S m).cells:=QGo (by simp)
 have ht2:List.take S.enums.length (S.enums.map fun m=>AV.agg (Jt m).cells)=S.enums.map fun m=>AV.agg (Jt m).cells:=QGo (by simp)
 have eP:(X5 S).av=.agg [.list (S.msgs.map fun m=>.agg (ZI S m).cells),.list (S.enums.map fun e=>.agg (Jt e).cells)]:=by
  unfold PL.av X5;simp only[QHn];rfl
 rw[QHh]at oR oT;simp only[VJ,h2,h4,o2,o4,oR,oT,eP,ht1,ht2,QG7,QGw,QGf,QFQ,QGN,QGT,AV.un,AV.unL,eE,seval]
end

section
variable {P:Program}{M k:Nat}{t:TypeId}
end
section
variable {M:Nat}(hM:M≤1048576)(S:SC)(hS:S.ok M)(hv:ZO S=true)
end

theorem YU {α:Type}{p:α→Bool}:∀ {l:List α} {i:Nat} {x:α},l[i]? = some x→p x=true→(∀y∈l.take i,p y=false)→l.find? p=some x
 | [],_,_,h,_,_=>by simp at h
 |y :: l,0,x,h,hp,_=>by
  simp only[QGL,QGh]at h;subst h;rw[List.find?_cons,hp]
 |y :: l,i+1,x,h,hp,hn=>by
  rw[QGQ]at h;rw[List.find?_cons,hn y (by simp)];exact YU h hp fun z hz=>hn z (by simp[hz])
theorem La {ops:List PO}(h:Xx ops (NA PO.num)=true):ops.Pairwise fun a b=>a.num<b.num:=by
 have hs:∀i (hi:i+1<ops.length),ops[i].num<ops[i+1].num:=by
  intro i hi;unfold Xx at h;have:=QO.1 h (i+1) hi;rw[Je (QFT (by omega:i<ops.length)) (QFT hi)]at this;unfold NA at this
  simpa using this
 rw[List.pairwise_iff_getElem];intro i j hi hj hij;obtain⟨d,rfl⟩:∃d,j=i+1+d:=⟨j-(i+1),by omega⟩;clear hij
 induction d with
 |zero=>exact hs i (by omega)
 |succ d ih=>
  have a:=ih (by omega);have b:=hs (i+1+d) (by omega);exact Int.lt_trans a b
theorem Hr {ops:List PO}(h:ops.Pairwise fun a b=>a.num<b.num){i:Nat}{o x:PO}(ho:ops[i]? = some o)(hx:x∈ops.take i):x.num<o.num:=by
 obtain⟨j,hj,rfl⟩:=List.mem_iff_getElem.1 hx;rw[QGF]at hj;obtain⟨hi,e⟩:=QFS.1 ho;subst e;rw[List.getElem_take];exact List.pairwise_iff_getElem.1 h j i (by omega) hi (by omega)

structure OwnO (P:PL)(g:PG)(o:PO):Prop where
 num:g.ops.find? (fun x=>x.num==o.num)=some o
 nam:g.ops.find? (fun x=>x.name==o.name)=some o
 kd:1≤o.kind∧o.kind≤10
 key:o.card=5→1≤o.key∧o.key≤9
 tgP:o.kind=10→∃(j:Nat) (h:PG),P.progs[j]? = some h∧o.target=(j:Int)
 tgE:o.kind=9→∃(j:Nat) (e:PE),P.enums[j]? = some e∧o.target=(j:Int)
structure Own (P:PL):Prop where
 l1:P.progs.length≤64
 l2:P.enums.length≤64
 ops:∀g∈P.progs,g.ops.length≤64
 its:∀e∈P.enums,e.items.length≤64
 up:∀g∈P.progs,g.ops.Pairwise fun a b=>a.num<b.num
 op:∀g∈P.progs,∀o∈g.ops,OwnO P g o
theorem QoQ {P:PL}(h:ck P=0):Own P:=by
 unfold ck at h;split at h
 ·omega
 rename_i hl;split at h
 ·omega
 split at h
 ·omega
 rename_i ho;split at h
 ·omega
 rename_i hs;split at h
 ·omega
 split at h
 ·omega
 rename_i ha;rw[Bool.not_eq_false]at hl ho hs ha;obtain⟨l1,l2,l3,l4⟩:=ME hl;unfold Ax at ho;simp only[QGd,QF3]at ho;unfold Ay at hs;simp only[QGd,QF3]at hs;unfold args at ha;simp only[QGd,QF3]at ha;have hup:∀g∈P.progs,g.ops.Pairwise fun a b=>a.num<b.num:=fun g hg=>La (ho.1.2 g hg)
 refine⟨l1,l2,l3,fun e he=>(l4 e he).2.1,hup,fun g hg o hoo=>?_⟩;obtain⟨i,hi⟩:=QF2.1 hoo;have h1:=hs.1 g hg;unfold P0 at h1;simp only[QGd]at h1;have h2:=QO.1 h1.2 i (QFS.1 hi).1;rw[KX hi,QF3]at h2;have h3:=ha.1 g hg;unfold P6 at h3;simp only[QGd,QF3]at h3;have h4:=(h3.2 o hoo).1;unfold P5 at h4;simp only[QGd,QG4]at h4;obtain⟨⟨_,hk⟩,haim⟩:=h4;unfold aim at haim;refine⟨YU hi (by simp) fun y hy=>?_,YU hi (by simp) fun y hy=>by simpa using h2 y hy,?_,fun h5=>?_,fun h10=>?_,fun h9=>?_⟩
 ·have:=Hr (hup g hg) hi hy;rw[QHC];omega
 ·split at haim
  ·omega
  split at haim
  ·omega
  unfold WW at haim;simp only[QGd,QG4]at haim;omega
 ·unfold key at hk;rw[QFY h5]at hk;simp only[QGd,QG4]at hk;omega
 ·rw[QFY h10]at haim;simp only[QGd,QG4]at haim;exact⟨o.target.toNat,_,QFT (by omega),by omega⟩
 ·rw[QFX (by omega),QFY h9]at haim;simp only[QGd,QG4]at haim;exact⟨o.target.toNat,_,QFT (by omega),by omega⟩

def jav (P:PL)(fm:Int):AV:=.agg [.list (P.progs.map QV),.list (P.enums.map Q6),.list (P.progs.map QV),.list (P.enums.map Q6),.int .i64 fm]
theorem Jn (e:PE):Q6 e=.agg [.str e.name,.bool e.opn,.list (e.items.map Zc),.list (e.free.map QU),.list (e.notes.map fun n=>Q7 n.cells)]:=rfl
theorem JN (g:PG):QV g=.agg [.str g.name,.list (g.ops.map QD),.int .i64 g.unions]:=rfl
theorem Q5 (o:PO):QD o=.agg [.int .i64 o.num,.str o.name,.str o.alias,.int .i64 o.card,.int .i64 o.key,.int .i64 o.kind,.int .i64 o.target,.int .i64 o.union]:=rfl
theorem D6 (x:PI):Zc x=.agg [.str x.name,.int .i64 x.num,.list (x.notes.map fun n=>Q7 n.cells)]:=rfl

def QoR:Option (AV×Ql)→Bool
 |some (.int .i64 (.ofNat 2),[])=>true
 |_=>false
theorem Lb:(([1,2,4]:List Int).all fun fm=>([1,2,3,4,5,6,7,8,9]:List Int).all fun k=>QoR (JF Ev.XC Ev.tab (Zt Ev.XC Ev.tab 300) 111 [.int .i64 fm,.int .i64 k,.int .i64 k] []))=true:=by decide +kernel
def Fm (fm:Int):Prop:=fm=1∨fm=2∨fm=4
theorem QCn {fm k:Int}(hf:Fm fm)(hk:1≤k∧k≤9):Qs Tryz.prog 111 [.int .i64 fm,.int .i64 k,.int .i64 k] (.int .i64 2):=by
 have h:=Lb;simp only[QF3]at h;have h:=h fm (by rcases hf with rfl|rfl|rfl<;>simp) k (by
  have:k=1∨k=2∨k=3∨k=4∨k=5∨k=6∨k=7∨k=8∨k=9:=by omega
  rcases this with rfl|rfl|rfl|rfl|rfl|rfl|rfl|rfl|rfl<;>simp)
 unfold QoR at h;split at h
 ·rename_i h1;exact(ZU Ev.JG Ev.DU (WT Ev.JG Ev.DU 300) _ _ _ _ _ h1).mono fun _ _ e=>e.1
 ·cases h

section
variable (P:PL)(fm:Int)

theorem v82 {k:Int}(hf:Fm fm)(hk:1≤k∧k≤9):Qs Tryz.prog 82 [jav P fm,.int .i64 k,.int .i64 k] (.int .i64 0):=by
 refine k82.fn (by simp) ?_;simp only[jav,eE,seval];refine aC (QCn hf hk) ?_;simp only[seval,Qa]

theorem v57 (o:PO):Qs Tryz.prog 57 [QD o] (.bool (o.card != 4&&o.card != 5)):=by
 refine k57.fn (by simp) ?_;simp only[Q5,eE,seval];cases h:(o.card != 4)<;>simp only[QHp,QHd,eE,seval]

theorem v58 (a b:PO):Qs Tryz.prog 58 [QD a,QD b] (.bool (decide (a.union<0)||a.union != b.union)):=by
 refine k58.fn (by simp) ?_;simp only[Q5,eE,seval];cases h:decide (a.union<0)<;>simp only[QHr,QHs,eE,seval]

theorem v86 (e:PE)(hl:e.items.length≤64)(n:Int):Qs Tryz.prog 86 [Q6 e,.int .i64 n] (.bool (e.items.any fun x=>x.num==n)):=by
 let I:Nat→St→Prop:=fun m st=>∃f fr k,st=⟨f,[fr],[]⟩∧m=e.items.length-k∧k≤e.items.length∧f 1=.int .i64 n∧f 8=.list (e.items.map Zc)∧f 9=.int .i64 (e.items.length:Nat)∧f 10=.int .i64 (k:Nat)∧(e.items.take k).any (fun x=>x.num==n)=false∧∀s∈[6],(fr s).isRow=false
 refine k86.fn (by simp) ?_;simp only[Jn,QG7,eE,seval];refine Qd I _ ⟨_,_,0,rfl,rfl,QFZ _,(by rfl),(by rfl),(by rfl),(by rfl),rfl,by intro s hs;simp only[QG2,QHG,or_false]at hs;subst hs;rfl⟩ ?_;rintro _ st ⟨f0,fr0,k,rfl,rfl,hk,h10,h80,h90,h100,hq,r6⟩;refine Qz (a:=_) [6] r6 ?_;intro f fr hf hmm hn;have h1:f 1=.int .i64 n:=by rw[hf,h10]<;>rfl
 have h8:f 8=.list (e.items.map Zc):=by rw[hf,h80]<;>rfl
 have h9:f 9=.int .i64 (e.items.length:Nat):=by rw[hf,h90]<;>rfl
 have hx:f 10=.int .i64 (k:Nat):=by rw[hf,h100]<;>rfl
 have n6:=hn 6 (by decide);clear hf hmm hn h10 h80 h90 h100 r6;simp only[h9,hx,Qa,seval];by_cases hlt:k<e.items.length
 case neg=>
  rw[QGo (by omega)]at hq;simp only[QG hlt,hq,Qa,seval]
 obtain⟨x,hg⟩:∃x,e.items[k]? = some x:=⟨e.items[k],QFT hlt⟩;have hgi:(e.items.map Zc)[k]? = some (Zc x):=by rw[QG5,hg];rfl
 rw[D6]at hgi;have e1:=Qo k _ hlt (by simp only[maxLen];omega);have ht:=Wm (q:=fun x=>x.num==n) hg;rw[hq,QHs]at ht;simp only[QC hlt,n6,Qi,QHa,Qc,hgi,h1,h8,hx,eE,seval];cases hp:(x.num==n)
 ·rw[hp]at ht;simp only[hx,e1,Qa,seval];exact⟨e.items.length-(k+1),by omega,_,_,k+1,rfl,rfl,by omega,(by exact h1),(by exact h8),(by exact h9),(by rfl),ht,by intro s hs;simp only[QG2,QHG,or_false]at hs;subst hs;rfl⟩
 ·have:e.items.any (fun x=>x.num==n)=true:=QHi.2 ⟨x,QF4 hg,hp⟩;simp only[this,Qa,seval]

theorem QCo (e:PE)(hl:e.items.length≤64)(n:List UInt8):Qs Tryz.prog 114 [Q6 e,.str n] (.bool (e.items.any fun x=>x.name==n)):=by
 let I:Nat→St→Prop:=fun m st=>∃f fr k,st=⟨f,[fr],[]⟩∧m=e.items.length-k∧k≤e.items.length∧f 1=.str n∧f 8=.list (e.items.map Zc)∧f 9=.int .i64 (e.items.length:Nat)∧f 10=.int .i64 (k:Nat)∧(e.items.take k).any (fun x=>x.name==n)=false∧∀s∈[6],(fr s).isRow=false
 refine QcU.fn (by simp) ?_;simp only[Jn,QG7,eE,seval];refine Qd I _ ⟨_,_,0,rfl,rfl,QFZ _,(by rfl),(by rfl),(by rfl),(by rfl),rfl,by intro s hs;simp only[QG2,QHG,or_false]at hs;subst hs;rfl⟩ ?_;rintro _ st ⟨f0,fr0,k,rfl,rfl,hk,h10,h80,h90,h100,hq,r6⟩;refine Qz (a:=_) [6] r6 ?_;intro f fr hf hmm hn;have h1:f 1=.str n:=by rw[hf,h10]<;>rfl
 have h8:f 8=.list (e.items.map Zc):=by rw[hf,h80]<;>rfl
 have h9:f 9=.int .i64 (e.items.length:Nat):=by rw[hf,h90]<;>rfl
 have hx:f 10=.int .i64 (k:Nat):=by rw[hf,h100]<;>rfl
 have n6:=hn 6 (by decide);clear hf hmm hn h10 h80 h90 h100 r6;simp only[h9,hx,Qa,seval];by_cases hlt:k<e.items.length
 case neg=>
  rw[QGo (by omega)]at hq;simp only[QG hlt,hq,Qa,seval]
 obtain⟨x,hg⟩:∃x,e.items[k]? = some x:=⟨e.items[k],QFT hlt⟩;have hgi:(e.items.map Zc)[k]? = some (Zc x):=by rw[QG5,hg];rfl
 rw[D6]at hgi;have e1:=Qo k _ hlt (by simp only[maxLen];omega);have ht:=Wm (q:=fun x=>x.name==n) hg;rw[hq,QHs]at ht;simp only[QC hlt,n6,Qi,QHa,Qc,hgi,h1,h8,hx,QB,eE,seval];cases hp:(x.name==n)
 ·rw[hp]at ht;simp only[hx,e1,Qa,seval];exact⟨e.items.length-(k+1),by omega,_,_,k+1,rfl,rfl,by omega,(by exact h1),(by exact h8),(by exact h9),(by rfl),ht,by intro s hs;simp only[QG2,QHG,or_false]at hs;subst hs;rfl⟩
 ·have:e.items.any (fun x=>x.name==n)=true:=QHi.2 ⟨x,QF4 hg,hp⟩;simp only[this,Qa,seval]

theorem M4 (g:PG)(o:PO)(hl:g.ops.length≤64)(ho:OwnO P g o):Qs Tryz.prog 29 [jav P fm,QV g,QD o] (.tup [QD o,.bool true]):=by
 have h1:=y53 g (by simp only[maxLen];omega) o.name;have h2:=y54 g (by simp only[maxLen];omega) o.num;have e1:Aw o.name g.ops=.tup [QD o,.bool true]:=by simp[Aw,KW,ho.nam]
 have e2:KW (fun x=>x.num==o.num) g.ops=.tup [QD o,.bool true]:=by simp[KW,ho.num]
 rw[e1,JN,Q5]at h1;rw[e2,JN,Q5]at h2;refine k29.fn (by simp) ?_;simp only[jav,JN,Q5,eE,seval];by_cases h4:fm=4
 ·have d:(fm==4)=true:=by simp[h4]
  simp only[d,eE,seval];refine aC h1 ?_;simp only[eE,seval]
 ·have d:(fm==4)=false:=by simp[h4]
  simp only[d,eE,seval];refine aC h2 ?_;simp only[eE,seval]

def BE (P:PL)(o:PO):Bool:=if o.card=3∧o.kind=9 then(match P.enums[o.target.toNat]? with|some e=>e.opn||decide ((e.items.length:Int) > 1)|none=>true)else true
theorem v28 (g:PG)(o:PO)(ho:OwnO P g o):Qs Tryz.prog 28 [jav P fm,QD o] (.bool (BE P o)):=by
 refine k28.fn (by simp) ?_;simp only[jav,Q5,BE,eE,seval];by_cases h3:o.card=3
 case neg=>
  have d:(o.card != 3)=true:=by simp[h3]
  rw[QFX (fun h=>h3 h.1)];simp only[d,Qa,seval]
 have d:(o.card != 3)=false:=by simp[h3]
 by_cases h9:o.kind=9
 case neg=>
  have d2:(o.kind != 9)=true:=by simp[h9]
  rw[QFX (fun h=>h9 h.2)];simp only[d,d2,eE,seval]
 have d2:(o.kind != 9)=false:=by simp[h9]
 obtain⟨j,e,he,ht⟩:=ho.tgE h9;have hg:(P.enums.map Q6)[j]? = some (Q6 e):=by rw[QG5,he];rfl
 rw[Jn]at hg;rw[QFY ⟨h3,h9⟩,ht,QHa,he];simp only[d,d2,Qi,QHa,Qc,hg,eE,seval];cases ho:e.opn<;>simp only[QG7,QHr,QHs,eE,seval]

theorem v33 (o:PO):Qs Tryz.prog 33 [jav P fm,QD o,QD o] (.int .i64 0):=by
 have hp:=y60 o.num o.name o.alias o.card o.key o.kind o.target o.union;have hs:=v57 o;rw[Q5]at hs;rw[show oc o.num o.name o.alias o.card o.key o.kind o.target o.union=QD o from rfl,Q5]at hp;have hb:((o.card==5)==(o.card==5))=true:=by simp
 have hpk:pk o.card o.kind=true→o.card=4:=by
  unfold pk;intro h;simp only[QGd,QGe]at h;exact h.1
 refine k33.fn (by simp) ?_;simp only[jav,Q5,hb,QHq,eE,seval];cases h4:(o.card==4)
 ·have hk:pk o.card o.kind=false:=by
   cases hh:pk o.card o.kind with
   |false=>rfl
   |true=>have:=hpk hh;simp[this]at h4
  rw[hk]at hp;simp only[eE,seval];cases h1:(fm==1)
  ·simp only[h4,eE,seval]
  ·simp only[eE,seval];refine aC hp ?_;simp only[Qa,seval]
 ·have e4:o.card=4:=by simpa using h4
  have hs4:(o.card != 4&&o.card != 5)=false:=by simp[e4]
  rw[hs4]at hs;simp only[h4,eE,seval];cases h1:(fm==1)
  ·simp only[h4,QHq,eE,seval]
  ·simp only[eE,seval];refine aC hp ?_;cases hk:pk o.card o.kind
   ·rw[hk]at hp;simp only[eE,seval];refine aC hp ?_;simp only[eE,seval];refine aC hp ?_;simp only[beq_self_eq_true,QHq,Qa,seval]
   ·rw[hk]at hp;simp only[eE,seval];refine aC hs ?_;simp only[eE,seval];refine aC hp ?_;simp only[eE,seval];refine aC hp ?_;simp only[beq_self_eq_true,QHq,Qa,seval]
end

theorem BF {e:PE}{k:Nat}{x:PI}(h:e.items[k]? = some x):(e.items.any fun y=>y.num==x.num)=true:=QHi.2 ⟨x,QF4 h,by simp⟩
theorem Lc {e:PE}{k:Nat}{x:PI}(h:e.items[k]? = some x):(e.items.any fun y=>y.name==x.name)=true:=QHi.2 ⟨x,QF4 h,by simp⟩

section
variable (P:PL)(fm:Int)(e:PE)(j:Nat)(o:PO)(he:P.enums[j]? = some e)(ht:o.target=(j:Int))(h9:o.kind=9)(hl:e.items.length≤64)
include he ht h9 hl

theorem v59:Qs Tryz.prog 59 [jav P fm,Q6 e,QD o] (.bool true):=by
 have hg:(P.enums.map Q6)[j]? = some (Q6 e):=by rw[QG5,he];rfl
 rw[Jn]at hg;refine k59.fn (by simp) ?_;simp only[r59,o59,S2,S3,jav,Jn,Q5,h9,ht,eE,seval];cases ho:e.opn
 case true=>simp only[S4,Qa,seval]
 rw[ho]at hg;simp only[S5,S6,S7,S8,seval,Qi,QHa,Qc,hg,QG7,eE]
 let I:Nat→St→Prop:=fun m st=>∃f fr k,st=⟨f,[fr],[]⟩∧m=e.items.length-k∧k≤e.items.length∧f 4=.ptr 0 4 0∧f 31=.list (e.items.map Zc)∧f 32=.int .i64 (e.items.length:Nat)∧f 33=.int .i64 (k:Nat)∧fr 4=.cells [.str e.name,.bool false,.list (e.items.map Zc),.list (e.free.map QU),.list (e.notes.map fun n=>Q7 n.cells)]∧∀s∈[9],(fr s).isRow=false
 refine Qd I _ ⟨_,_,0,rfl,rfl,QFZ _,(by rfl),(by rfl),(by rfl),(by rfl),(by rfl),by intro s hs;simp only[QG2,QHG,or_false]at hs;subst hs;rfl⟩ ?_;rintro _ st ⟨f0,fr0,k,rfl,rfl,hk,h40,h310,h320,h330,ZH,r9⟩;refine Qz (a:=_) [9] r9 ?_;intro f fr hf hmm hn;have h4:f 4=.ptr 0 4 0:=by rw[hf,h40]<;>rfl
 have h31:f 31=.list (e.items.map Zc):=by rw[hf,h310]<;>rfl
 have h32:f 32=.int .i64 (e.items.length:Nat):=by rw[hf,h320]<;>rfl
 have h33:f 33=.int .i64 (k:Nat):=by rw[hf,h330]<;>rfl
 have o4:fr 4=.cells [.str e.name,.bool false,.list (e.items.map Zc),.list (e.free.map QU),.list (e.notes.map fun n=>Q7 n.cells)]:=by rw[hmm 4 (by decide),ZH]<;>rfl
 have n9:=hn 9 (by decide);clear hf hmm hn h40 h310 h320 h330 ZH r9;simp only[S9,h32,h33,Qa,seval];by_cases hlt:k<e.items.length
 case neg=>simp only[QG hlt,VU,Qa,seval]
 obtain⟨x,hx⟩:∃x,e.items[k]? = some x:=⟨e.items[k],QFT hlt⟩;have hgi:(e.items.map Zc)[k]? = some (Zc x):=by rw[QG5,hx];rfl
 rw[D6]at hgi;have e1:=Qo k _ hlt (by simp only[maxLen];omega);have hc:=v86 e hl x.num;rw[BF hx,Jn,ho]at hc;simp only[QC hlt,n9,VR,VS,Qi,QHa,Qc,hgi,h4,h31,h33,o4,eE,seval];refine aC hc ?_;simp only[VT,h33,e1,QHq,Qa,seval];exact⟨e.items.length-(k+1),by omega,_,_,k+1,rfl,rfl,by omega,(by exact h4),(by exact h31),(by exact h32),(by rfl),(by exact o4),by intro s hs;simp only[QG2,QHG,or_false]at hs;subst hs;rfl⟩

theorem v85:Qs Tryz.prog 85 [jav P fm,QD o,QD o] (.bool true):=by
 have hg:(P.enums.map Q6)[j]? = some (Q6 e):=by rw[QG5,he];rfl
 rw[Jn]at hg;refine k85.fn (by simp) ?_;simp only[r85,o85,Tj,Tk,Tl,jav,Q5,ht,Qi,QHa,Qc,hg,QG7,eE,seval]
 let E:List AV:=[.str e.name,.bool e.opn,.list (e.items.map Zc),.list (e.free.map QU),.list (e.notes.map fun n=>Q7 n.cells)]
 let I:Nat→St→Prop:=fun m st=>∃f fr k,st=⟨f,[fr],[]⟩∧m=e.items.length-k∧k≤e.items.length∧f 4=.ptr 0 4 0∧f 7=.ptr 0 7 0∧f 8=.ptr 0 8 0∧f 28=.list (e.items.map Zc)∧f 29=.int .i64 (e.items.length:Nat)∧f 30=.int .i64 (k:Nat)∧fr 4=.cells o.cells∧fr 7=.cells E∧fr 8=.cells E∧∀s∈[10,12],(fr s).isRow=false
 refine Qd I _ ⟨_,_,0,rfl,rfl,QFZ _,(by rfl),(by rfl),(by rfl),(by rfl),(by rfl),(by rfl),by rw[PO.cells,ht];exact(by rfl),(by rfl),(by rfl),by intro s hs;simp only[QG2,QHG,or_false]at hs;rcases hs with rfl|rfl<;>rfl⟩ ?_;rintro _ st ⟨f0,fr0,k,rfl,rfl,hk,h40,h70,h80,h280,h290,h300,ZH,Zl,Js,r9⟩;refine Qz (a:=_) [10] (fun s hs=>r9 s (by simp only[QG2,QHG,or_false]at hs ⊢;omega)) ?_;intro f fr hf hmm hn;have h4:f 4=.ptr 0 4 0:=by rw[hf,h40]<;>rfl
 have h7:f 7=.ptr 0 7 0:=by rw[hf,h70]<;>rfl
 have h8:f 8=.ptr 0 8 0:=by rw[hf,h80]<;>rfl
 have h28:f 28=.list (e.items.map Zc):=by rw[hf,h280]<;>rfl
 have h29:f 29=.int .i64 (e.items.length:Nat):=by rw[hf,h290]<;>rfl
 have h30:f 30=.int .i64 (k:Nat):=by rw[hf,h300]<;>rfl
 have o4:fr 4=.cells o.cells:=by rw[hmm 4 (by decide),ZH]<;>rfl
 have o7:fr 7=.cells E:=by rw[hmm 7 (by decide),Zl]<;>rfl
 have o8:fr 8=.cells E:=by rw[hmm 8 (by decide),Js]<;>rfl
 have n10:=hn 10 (by decide);have WV:(fr 12).isRow=false:=by
  rw[hmm 12 (by decide)];have:=r9 12 (by decide)
  revert this
  cases fr0 12<;>intro h<;>first|rfl|exact h
 clear hf hmm hn h40 h70 h80 h280 h290 h300 ZH Zl Js r9;simp only[Tm,h29,h30,Qa,seval];by_cases hlt:k<e.items.length
 case pos=>
  obtain⟨x,hx⟩:∃x,e.items[k]? = some x:=⟨e.items[k],QFT hlt⟩;have hgi:(e.items.map Zc)[k]? = some (Zc x):=by rw[QG5,hx];rfl
  rw[D6]at hgi;have e1:=Qo k _ hlt (by simp only[maxLen];omega);have hc:=QCo e hl x.name;rw[Lc hx,Jn]at hc;have o4':=o4;have o8':=o8;rw[PO.cells]at o4';simp only[E]at o8';simp only[QC hlt,n10,Tn,To,Qi,QHa,Qc,hgi,h28,h30,eE,seval];cases h1:(x.num != 0)
  ·cases h2:(o.card != 3)
   ·simp only[h4,h30,o4',h2,e1,H3,eE,seval];exact⟨e.items.length-(k+1),by omega,_,_,k+1,rfl,rfl,by omega,(by exact h4),(by exact h7),(by exact h8),(by exact h28),(by exact h29),(by rfl),(by exact o4),(by exact o7),(by exact o8),by intro s hs;simp only[QG2,QHG,or_false]at hs;rcases hs with rfl|rfl;rfl;exact WV⟩
   ·simp only[h4,h8,o4',o8',h2,eE,seval];refine aC hc ?_;simp only[h30,e1,H3,QHq,Qa,seval];exact⟨e.items.length-(k+1),by omega,_,_,k+1,rfl,rfl,by omega,(by exact h4),(by exact h7),(by exact h8),(by exact h28),(by exact h29),(by rfl),(by exact o4),(by exact o7),(by exact o8),by intro s hs;simp only[QG2,QHG,or_false]at hs;rcases hs with rfl|rfl;rfl;exact WV⟩
  ·simp only[h8,o8',eE,seval];refine aC hc ?_;simp only[h30,e1,H3,QHq,Qa,seval];exact⟨e.items.length-(k+1),by omega,_,_,k+1,rfl,rfl,by omega,(by exact h4),(by exact h7),(by exact h8),(by exact h28),(by exact h29),(by rfl),(by exact o4),(by exact o7),(by exact o8),by intro s hs;simp only[QG2,QHG,or_false]at hs;rcases hs with rfl|rfl;rfl;exact WV⟩
 simp only[E]at o7 o8;simp only[QG hlt,Tp,h7,o7,eE,seval];clear hlt;cases ho:e.opn
 ·simp only[Tq,QGR,Qa,seval]
 rw[ho]at o7 o8;simp only[Cd,h8,o8,QG7,QHq,eE,seval]
 let J:Nat→St→Prop:=fun m st=>∃f fr k,st=⟨f,[fr],[]⟩∧m=e.items.length-k∧k≤e.items.length∧f 7=.ptr 0 7 0∧f 8=.ptr 0 8 0∧f 54=.list (e.items.map Zc)∧f 55=.int .i64 (e.items.length:Nat)∧f 56=.int .i64 (k:Nat)∧fr 7=.cells [.str e.name,.bool true,.list (e.items.map Zc),.list (e.free.map QU),.list (e.notes.map fun n=>Q7 n.cells)]∧fr 8=.cells [.str e.name,.bool true,.list (e.items.map Zc),.list (e.free.map QU),.list (e.notes.map fun n=>Q7 n.cells)]∧∀s∈[12],(fr s).isRow=false
 refine Qd J _ ⟨_,_,0,rfl,rfl,QFZ _,(by exact h7),(by exact h8),(by rfl),(by rfl),(by rfl),(by exact o7),(by exact o8),by intro s hs;simp only[QG2,QHG,or_false]at hs;subst hs;exact WV⟩ ?_;clear h4 h7 h8 h28 h29 h30 o4 o7 o8 n10 WV;rintro _ st ⟨f0,fr0,k,rfl,rfl,hk,h70,h80,h540,h550,h560,Zl,Js,WV⟩;refine Qz (a:=_) [12] WV ?_;intro f fr hf hmm hn;have h7:f 7=.ptr 0 7 0:=by rw[hf,h70]<;>rfl
 have h8:f 8=.ptr 0 8 0:=by rw[hf,h80]<;>rfl
 have h54:f 54=.list (e.items.map Zc):=by rw[hf,h540]<;>rfl
 have h55:f 55=.int .i64 (e.items.length:Nat):=by rw[hf,h550]<;>rfl
 have h56:f 56=.int .i64 (k:Nat):=by rw[hf,h560]<;>rfl
 have o7:fr 7=.cells [.str e.name,.bool true,.list (e.items.map Zc),.list (e.free.map QU),.list (e.notes.map fun n=>Q7 n.cells)]:=by rw[hmm 7 (by decide),Zl]<;>rfl
 have o8:fr 8=.cells [.str e.name,.bool true,.list (e.items.map Zc),.list (e.free.map QU),.list (e.notes.map fun n=>Q7 n.cells)]:=by rw[hmm 8 (by decide),Js]<;>rfl
 have n12:=hn 12 (by decide);clear hf hmm hn h70 h80 h540 h550 h560 Zl Js WV;simp only[Ce,h55,h56,Qa,seval];by_cases hlt:k<e.items.length
 case neg=>simp only[QG hlt,Ci,h8,o8,eE,seval]
 obtain⟨x,hx⟩:∃x,e.items[k]? = some x:=⟨e.items[k],QFT hlt⟩;have hgi:(e.items.map Zc)[k]? = some (Zc x):=by rw[QG5,hx];rfl
 rw[D6]at hgi;have e1:=Qo k _ hlt (by simp only[maxLen];omega);have hc:=v86 e hl x.num;rw[BF hx,Jn,ho]at hc;simp only[QC hlt,n12,Cf,Cg,Qi,QHa,Qc,hgi,h7,h54,h56,o7,eE,seval];refine aC hc ?_;simp only[Ch,h56,e1,QHq,Qa,seval];exact⟨e.items.length-(k+1),by omega,_,_,k+1,rfl,rfl,by omega,(by exact h7),(by exact h8),(by exact h54),(by exact h55),(by rfl),(by exact o7),(by exact o8),by intro s hs;simp only[QG2,QHG,or_false]at hs;subst hs;rfl⟩
end

section
variable (P:PL)(fm:Int)(hf:Fm fm)(g:PG)(o:PO)(ho:OwnO P g o)(hl:∀e∈P.enums,e.items.length≤64)
include ho hl in
theorem v56:Qs Tryz.prog 56 [jav P fm,QD o,QD o] (.int .i64 0):=by
 refine k56.fn (by simp) ?_;by_cases h9:o.kind=9
 case neg=>
  have d:(o.kind != 9)=true:=by simp[h9]
  simp only[Kt,S1,Nd,Nf,SU,jav,Q5,d,eE,seval]
 have d:(o.kind != 9)=false:=by simp[h9]
 obtain⟨j,e,he,ht⟩:=ho.tgE h9;have hel:=hl e (QF4 he);have hg:(P.enums.map Q6)[j]? = some (Q6 e):=by rw[QG5,he];rfl
 have hc1:=v85 P fm e j o he ht h9 hel;have hc2:=v59 P fm e j o he ht h9 hel;rw[jav,Q5,ht]at hc1;rw[jav,Jn,Q5,ht]at hc2;rw[Jn]at hg;simp only[Kt,S1,Nd,Nf,SX,SY,jav,Q5,ht,d,eE,seval];cases h4:(fm==4)
 ·simp only[S0,eE,seval];cases h2:(fm==2)
  ·cases h5:(o.card==5)
   ·simp only[h5,UD,UE,eE,seval]
   ·simp only[h5,Ng,Qi,QHa,Qc,hg,eE,seval];refine aC hc2 ?_;simp only[UD,UE,Qa,seval]
  ·simp only[Ng,Qi,QHa,Qc,hg,eE,seval];refine aC hc2 ?_;simp only[UD,UE,Qa,seval]
 ·simp only[SZ,d,eE,seval];refine aC hc1 ?_;simp only[UD,UE,Qa,seval]

include ho hf in
theorem v55:Qs Tryz.prog 55 [jav P fm,QD o,QD o] (.int .i64 0):=by
 have hkd:=ho.kd;refine k55.fn (by simp) ?_;simp only[jav,Q5,eE,seval];cases h5:(o.card==5)
 ·simp only[eE,seval];cases Kr:(o.kind==10)
  case true=>simp only[Kr,eE,seval]
  cases k9:(o.kind==9)
  case true=>simp only[k9,eE,seval]
  have n10:o.kind≠10:=by simpa using Kr
  have n9:o.kind≠9:=by simpa using k9
  have hc:=v82 P fm hf (k:=o.kind) (by omega);rw[jav]at hc;simp only[k9,Kr,eE,seval];refine aC hc ?_;simp only[Qa,seval]
 ·have hc:=v82 P fm hf (k:=o.key) (ho.key (by simpa using h5));rw[jav]at hc;simp only[h5,eE,seval];refine aC hc ?_;simp only[seval,eE];cases Kr:(o.kind==10)
  case true=>simp only[Kr,eE,seval]
  cases k9:(o.kind==9)
  case true=>simp only[k9,eE,seval]
  have n10:o.kind≠10:=by simpa using Kr
  have n9:o.kind≠9:=by simpa using k9
  have hc:=v82 P fm hf (k:=o.kind) (by omega);rw[jav]at hc;simp only[k9,Kr,eE,seval];refine aC hc ?_;simp only[Qa,seval]

include ho hf hl in
theorem v30:Qs Tryz.prog 30 [jav P fm,QD o,QD o] (.int .i64 0):=by
 have c1:=v33 P fm o;have c2:=v55 P fm hf g o ho;have c3:=v56 P fm g o ho hl;have c4:=v57 o;rw[jav,Q5]at c1 c2 c3;rw[Q5]at c4;refine k30.fn (by simp) ?_;simp only[r30,X8,R3,R4,R5,jav,Q5,eE,seval];refine aC c1 ?_;simp only[seval,R6,R7,eE];refine aC c2 ?_;simp only[seval,R8,R9,eE];refine aC c3 ?_;simp only[seval,VK,eE];cases h4:(fm==4)
 ·simp only[Uz,Qa,seval]
 cases h5:(o.card==4)
 ·simp only[h5,Uz,eE,seval]
 have e4:o.card=4:=by simpa using h5
 have hs4:(o.card != 4&&o.card != 5)=false:=by simp[e4]
 rw[hs4]at c4;simp only[h5,eE,seval];refine aC c4 ?_;simp only[Uz,Qa,seval]
end

section
variable (P:PL)(hP:Own P)(fm:Int)(hf:Fm fm)(g:PG)(hgm:g∈P.progs)
include hP hgm

theorem v31 (i:Nat)(o:PO)(hi:g.ops[i]? = some o):Qs Tryz.prog 31 [jav P fm,QV g,QV g,.int .i64 (i:Nat),QD o] (.tup [.bool false,.bool false]):=by
 have hl:=hP.ops g hgm;have hil:=(QFS.1 hi).1;have hg:(g.ops.map QD)[i]? = some (QD o):=by rw[QG5,hi];rfl
 rw[Q5]at hg;have hle:(i≤g.ops.length)=True:=eq_true (by omega);refine k31.fn (by simp) ?_;simp only[r31,o31,Sa,Sb,Sc,Sd,jav,JN,Q5,Qi,QHa,Qc,hg,J0,ZL,Xr,QHg,QG7,QFZ,QFQ,hle,true_or,QGN,QGH,←List.map_take,eE,seval];have htl:(g.ops.take i).length=i:=by rw[QGF];omega
 simp only[htl,seval]
 let I:Nat→St→Prop:=fun m st=>∃f fr k,st=⟨f,[fr],[]⟩∧m=i-k∧k≤i∧Hd f [(5,.ptr 0 5 0),(7,.ptr 0 7 0),(9,.ptr 0 9 0),(12,.bool false),(13,.bool false),(14,.ptr 0 14 0),(27,.list ((g.ops.take i).map QD)),(28,.int .i64 (i:Nat))]∧f 29=.int .i64 (k:Nat)∧
  fr 5=.cells [.list (P.progs.map QV),.list (P.enums.map Q6),.list (P.progs.map QV),.list (P.enums.map Q6),.int .i64 fm]∧fr 7=.cells [.str g.name,.list (g.ops.map QD),.int .i64 g.unions]∧fr 9=.cells o.cells∧fr 14=.cells o.cells∧∀s∈[17,16],(fr s).isRow=false
 refine Qd I _ ⟨_,_,0,rfl,rfl,QFZ _,by simp only[Hd,QGN,Qa,seval],(by rfl),(by rfl),(by rfl),by rw[PO.cells];exact(by rfl),by rw[PO.cells];exact(by rfl),by intro s hs;simp only[QG2,QHG,or_false]at hs;rcases hs with rfl|rfl<;>rfl⟩ ?_;rintro _ st ⟨f0,fr0,k,rfl,rfl,hk,⟨h50,h70,h90,h120,h130,h140,h270,h280,-⟩,h290,ZV,Zl,DG,G9,r0⟩;refine Qz (a:=_) [17,16] r0 ?_;intro f fr hff hmm hn;have h5:f 5=.ptr 0 5 0:=by rw[hff,h50]<;>rfl
 have h7:f 7=.ptr 0 7 0:=by rw[hff,h70]<;>rfl
 have h9:f 9=.ptr 0 9 0:=by rw[hff,h90]<;>rfl
 have h12:f 12=.bool false:=by rw[hff,h120]<;>rfl
 have h13:f 13=.bool false:=by rw[hff,h130]<;>rfl
 have h14:f 14=.ptr 0 14 0:=by rw[hff,h140]<;>rfl
 have h27:f 27=.list ((g.ops.take i).map QD):=by rw[hff,h270]<;>rfl
 have h28:f 28=.int .i64 (i:Nat):=by rw[hff,h280]<;>rfl
 have h29:f 29=.int .i64 (k:Nat):=by rw[hff,h290]<;>rfl
 have o5:fr 5=.cells [.list (P.progs.map QV),.list (P.enums.map Q6),.list (P.progs.map QV),.list (P.enums.map Q6),.int .i64 fm]:=by rw[hmm 5 (by decide),ZV]<;>rfl
 have o7:fr 7=.cells [.str g.name,.list (g.ops.map QD),.int .i64 g.unions]:=by rw[hmm 7 (by decide),Zl]<;>rfl
 have o9:fr 9=.cells o.cells:=by rw[hmm 9 (by decide),DG]<;>rfl
 have FO:fr 14=.cells o.cells:=by rw[hmm 14 (by decide),G9]<;>rfl
 have n16:=hn 16 (by decide);have n17:=hn 17 (by decide);clear hff hmm hn h50 h70 h90 h120 h130 h140 h270 h280 h290 ZV Zl DG G9 r0;simp only[Se,h28,h29,Qa,seval];by_cases hlt:k<i
 case neg=>simp only[QG hlt,VM,h12,h13,Qa,seval]
 obtain⟨x,hx⟩:∃x,g.ops[k]? = some x:=⟨g.ops[k]'(by omega),QFT (by omega)⟩;have hxm:=QF4 hx;have hgx:((g.ops.take i).map QD)[k]? = some (QD x):=by rw[QG5,QGt,QFY hlt,hx];rfl
 have hlu:=Hr (hP.up g hgm) hi (x:=x) (QF2.2 ⟨k,by rw[QGt,QFY hlt,hx]⟩);have c1:=M4 P fm g x hl (hP.op g hgm x hxm);have c2:=v28 P fm g x (hP.op g hgm x hxm);have c3:=v58 x o;rw[jav,JN,Q5]at c1;rw[jav,Q5]at c2;rw[Q5,Q5]at c3;rw[Q5]at hgx;have e1:=Qo k _ hlt (by simp only[maxLen];omega);have o9':=o9;have o14':=FO;rw[PO.cells]at o9' o14';simp only[QC hlt,n16,Sf,Sg,Qi,QHa,Qc,hgx,h5,h7,h27,h29,o5,o7,eE,seval];refine aC c1 ?_;simp only[n17,Sh,h5,o5,QHq,eE,seval];refine aC c2 ?_;have fin:∀f',Hd f' [(5,.ptr 0 5 0),(7,.ptr 0 7 0),(9,.ptr 0 9 0),(12,.bool false),(13,.bool false),(14,.ptr 0 14 0),(27,.list ((g.ops.take i).map QD)),(28,.int .i64 (i:Nat))]→f' 29=.int .i64 ((k+1:Nat):Int)→∀fr',fr' 5=fr 5→fr' 7=fr 7→fr' 9=fr 9→fr' 14=fr 14→(∀s∈[17,16],(fr' s).isRow=false)→∃m,m<i-k∧I m ⟨f',[fr'],[]⟩:=by
  intro f' a1 a2 fr' b1 b2 b3 b4 b5;exact⟨i-(k+1),by omega,f',fr',k+1,rfl,rfl,by omega,a1,a2,b1.trans o5,b2.trans o7,b3.trans o9,b4.trans FO,b5⟩
 cases hb:BE P x
 ·simp only[WU,h29,e1,QGR,Qa,seval];exact fin _ (by simp only[Hd,QGN,h5,h7,h9,h12,h13,h14,h27,h28,Qa,seval]) (by rfl) _ (by rfl) (by rfl) (by rfl) (by rfl) (by intro s hs;simp only[QG2,QHG,or_false]at hs;rcases hs with rfl|rfl<;>rfl)
 simp only[h14,o14',QHq,eE,seval];refine aC c3 ?_;cases ha:(decide (x.union<0)||x.union != o.union)
 ·simp only[WU,h29,e1,QGR,Qa,seval];exact fin _ (by simp only[Hd,QGN,h5,h7,h9,h12,h13,h14,h27,h28,Qa,seval]) (by rfl) _ (by rfl) (by rfl) (by rfl) (by rfl) (by intro s hs;simp only[QG2,QHG,or_false]at hs;rcases hs with rfl|rfl<;>rfl)
 have d1:(x.num==o.num)=false:=by rw[QHC];omega
 simp only[Si,VL,h9,o9',d1,QHq,eE,seval];cases hu:decide (o.union≥0)
 ·simp only[WU,h29,e1,Qa,seval];exact fin _ (by simp only[Hd,QGN,h5,h7,h9,h12,h13,h14,h27,h28,Qa,seval]) (by rfl) _ (by rfl) (by rfl) (by rfl) (by rfl) (by intro s hs;simp only[QG2,QHG,or_false]at hs;rcases hs with rfl|rfl<;>rfl)
 ·have d2:(x.union==o.union)=false:=by
   rw[QHC];intro he;simp only[QGI,QG4,QGj]at ha hu;omega
  simp only[WU,h9,h29,o9',d2,e1,eE,seval];exact fin _ (by simp only[Hd,QGN,h5,h7,h9,h12,h13,h14,h27,h28,Qa,seval]) (by rfl) _ (by rfl) (by rfl) (by rfl) (by rfl) (by intro s hs;simp only[QG2,QHG,or_false]at hs;rcases hs with rfl|rfl<;>rfl)

theorem v32 (i:Nat)(o:PO)(hi:g.ops[i]? = some o)(hc:o.card=1):Qs Tryz.prog 32 [jav P fm,QV g,QV g,QD o] (.bool true):=by
 have hl:=hP.ops g hgm;have hil:=(QFS.1 hi).1;refine k32.fn (by simp) ?_;simp only[r32,o32,Sj,Sk,jav,JN,Q5,QG7,eE,seval]
 let I:Nat→St→Prop:=fun m st=>∃f fr k,st=⟨f,[fr],[]⟩∧m=i-k∧k≤i∧Hd f [(4,.ptr 0 4 0),(6,.ptr 0 6 0),(7,.ptr 0 7 0),(14,.list (g.ops.map QD)),(15,.int .i64 (g.ops.length:Nat))]∧f 16=.int .i64 (k:Nat)∧
  fr 4=.cells [.list (P.progs.map QV),.list (P.enums.map Q6),.list (P.progs.map QV),.list (P.enums.map Q6),.int .i64 fm]∧fr 6=.cells [.str g.name,.list (g.ops.map QD),.int .i64 g.unions]∧fr 7=.cells o.cells∧∀s∈[11,10],(fr s).isRow=false
 refine Qd I _ ⟨_,_,0,rfl,rfl,QFZ _,by simp only[Hd,QGN,Qa,seval],(by rfl),(by rfl),(by rfl),by rw[PO.cells];exact(by rfl),by intro s hs;simp only[QG2,QHG,or_false]at hs;rcases hs with rfl|rfl<;>rfl⟩ ?_;rintro _ st ⟨f0,fr0,k,rfl,rfl,hk,⟨h40,h60,h70,h140,h150,-⟩,h160,ZH,KF,Zl,r0⟩;refine Qz (a:=_) [11,10] r0 ?_;intro f fr hff hmm hn;have h4:f 4=.ptr 0 4 0:=by rw[hff,h40]<;>rfl
 have h6:f 6=.ptr 0 6 0:=by rw[hff,h60]<;>rfl
 have h7:f 7=.ptr 0 7 0:=by rw[hff,h70]<;>rfl
 have h14:f 14=.list (g.ops.map QD):=by rw[hff,h140]<;>rfl
 have h15:f 15=.int .i64 (g.ops.length:Nat):=by rw[hff,h150]<;>rfl
 have h16:f 16=.int .i64 (k:Nat):=by rw[hff,h160]<;>rfl
 have o4:fr 4=.cells [.list (P.progs.map QV),.list (P.enums.map Q6),.list (P.progs.map QV),.list (P.enums.map Q6),.int .i64 fm]:=by rw[hmm 4 (by decide),ZH]<;>rfl
 have o6:fr 6=.cells [.str g.name,.list (g.ops.map QD),.int .i64 g.unions]:=by rw[hmm 6 (by decide),KF]<;>rfl
 have o7:fr 7=.cells o.cells:=by rw[hmm 7 (by decide),Zl]<;>rfl
 have n10:=hn 10 (by decide);have n11:=hn 11 (by decide);clear hff hmm hn h40 h60 h70 h140 h150 h160 ZH KF Zl r0;have hlt:k<g.ops.length:=by omega
 obtain⟨x,hx⟩:∃x,g.ops[k]? = some x:=⟨g.ops[k],QFT hlt⟩;have hxm:=QF4 hx;have hgx:(g.ops.map QD)[k]? = some (QD x):=by rw[QG5,hx];rfl
 have c1:=M4 P fm g x hl (hP.op g hgm x hxm);rw[jav,JN,Q5]at c1;rw[Q5]at hgx;have e1:=Qo k _ hlt (by simp only[maxLen];omega);have o7':=o7;rw[PO.cells]at o7';simp only[Sl,QC hlt,n10,Sm,Sn,Qi,QHa,Qc,hgx,h4,h6,h14,h15,h16,o4,o6,eE,seval];refine aC c1 ?_;simp only[n11,Sp,h7,o7',QHq,eE,seval];by_cases hki:k=i
 case neg=>
  have hlu:=Hr (hP.up g hgm) hi (x:=x) (QF2.2 ⟨k,by rw[QGt,QFY (by omega),hx]⟩);have d1:(x.num != o.num)=true:=by rw[QGj];omega
  simp only[d1,h16,e1,Sr,Qa,seval];exact⟨i-(k+1),by omega,_,_,k+1,rfl,rfl,by omega,by simp only[Hd,QGN,h4,h6,h7,h14,h15,Qa,seval],(by rfl),(by exact o4),(by exact o6),(by exact o7),by intro s hs;simp only[QG2,QHG,or_false]at hs;rcases hs with rfl|rfl<;>rfl⟩
 subst hki;rw[hi]at hx;cases hx;have d1:(o.num != o.num)=false:=by simp
 have d3:(o.card != 1)=false:=by simp[hc]
 simp only[d1,d3,h4,o4,Sq,eE,seval];cases hm:(fm != 1)
 case true=>simp only[H1,Qa,seval]
 by_cases h9:o.kind=9
 case neg=>
  have d:(o.kind != 9)=true:=by simp[h9]
  simp only[h7,o7',d,H1,eE,seval]
 have d:(o.kind != 9)=false:=by simp[h9]
 obtain⟨j,e,he,ht⟩:=(hP.op g hgm o hxm).tgE h9;have hge:(P.enums.map Q6)[j]? = some (Q6 e):=by rw[QG5,he];rfl
 have c2:=v59 P fm e j o he ht h9 (hP.its e (QF4 he));rw[jav,Jn,Q5,ht]at c2;rw[Jn]at hge;rw[ht]at o7';simp only[ht,h4,h7,o4,o7',d,Qi,QHa,Qc,hge,eE,seval];refine aC c2 ?_;simp only[H1,Qa,seval]

def hid (fm:Int)(g:PG)(o:PO):Bool:=!(fm != 1||decide (o.union<0))&&g.ops.any fun p=>decide (p.num > o.num)&&p.card==1&&p.union==o.union && !(p.num==o.num)
theorem v34 (o:PO):Qs Tryz.prog 34 [jav P fm,QV g,QV g,QD o,QD o] (.bool (hid fm g o)):=by
 have hl:=hP.ops g hgm;refine k34.fn (by simp) ?_;simp only[r34,o34,Ss,Su,jav,JN,Q5,eE,seval];unfold hid;cases hm:(fm != 1)
 case true=>simp only[Nb,QHr,QHq,QHd,Qa,seval]
 cases hu:decide (o.union<0)
 case true=>simp only[hu,Nb,QHs,QHq,QHd,eE,seval]
 simp only[hu,Sv,QG7,QHs,QGR,QHp,eE,seval];generalize hq:(fun p:PO=>decide (p.num > o.num)&&p.card==1&&p.union==o.union && !(p.num==o.num))=q
 let I:Nat→St→Prop:=fun m st=>∃f fr k,st=⟨f,[fr],[]⟩∧m=g.ops.length-k∧k≤g.ops.length∧Hd f [(5,.ptr 0 5 0),(7,.ptr 0 7 0),(8,.ptr 0 8 0),(9,.ptr 0 9 0),(24,.list (g.ops.map QD)),(25,.int .i64 (g.ops.length:Nat))]∧f 26=.int .i64 (k:Nat)∧(g.ops.take k).any q=false∧
  fr 5=.cells [.list (P.progs.map QV),.list (P.enums.map Q6),.list (P.progs.map QV),.list (P.enums.map Q6),.int .i64 fm]∧fr 7=.cells [.str g.name,.list (g.ops.map QD),.int .i64 g.unions]∧fr 8=.cells o.cells∧fr 9=.cells o.cells∧∀s∈[13,12],(fr s).isRow=false
 refine Qd I _ ⟨_,_,0,rfl,rfl,QFZ _,by simp only[Hd,QGN,Qa,seval],(by rfl),rfl,(by rfl),(by rfl),by rw[PO.cells];exact(by rfl),by rw[PO.cells];exact(by rfl),by intro s hs;simp only[QG2,QHG,or_false]at hs;rcases hs with rfl|rfl<;>rfl⟩ ?_;rintro _ st ⟨f0,fr0,k,rfl,rfl,hk,⟨h50,h70,h80,h90,h240,h250,-⟩,h260,hqk,ZV,Zl,Js,DG,r0⟩;refine Qz (a:=_) [13,12] r0 ?_;intro f fr hff hmm hn;have h5:f 5=.ptr 0 5 0:=by rw[hff,h50]<;>rfl
 have h7:f 7=.ptr 0 7 0:=by rw[hff,h70]<;>rfl
 have h8:f 8=.ptr 0 8 0:=by rw[hff,h80]<;>rfl
 have h9:f 9=.ptr 0 9 0:=by rw[hff,h90]<;>rfl
 have h24:f 24=.list (g.ops.map QD):=by rw[hff,h240]<;>rfl
 have h25:f 25=.int .i64 (g.ops.length:Nat):=by rw[hff,h250]<;>rfl
 have h26:f 26=.int .i64 (k:Nat):=by rw[hff,h260]<;>rfl
 have o5:fr 5=.cells [.list (P.progs.map QV),.list (P.enums.map Q6),.list (P.progs.map QV),.list (P.enums.map Q6),.int .i64 fm]:=by rw[hmm 5 (by decide),ZV]<;>rfl
 have o7:fr 7=.cells [.str g.name,.list (g.ops.map QD),.int .i64 g.unions]:=by rw[hmm 7 (by decide),Zl]<;>rfl
 have o8:fr 8=.cells o.cells:=by rw[hmm 8 (by decide),Js]<;>rfl
 have o9:fr 9=.cells o.cells:=by rw[hmm 9 (by decide),DG]<;>rfl
 have n12:=hn 12 (by decide);have n13:=hn 13 (by decide);clear hff hmm hn h50 h70 h80 h90 h240 h250 h260 ZV Zl Js DG r0;simp only[Sw,h25,h26,Qa,seval];by_cases hlt:k<g.ops.length
 case neg=>
  rw[QGo (by omega)]at hqk;simp only[QG hlt,hqk,VN,Qa,seval]
 obtain⟨x,hx⟩:∃x,g.ops[k]? = some x:=⟨g.ops[k],QFT hlt⟩;have hxm:=QF4 hx;have hgx:(g.ops.map QD)[k]? = some (QD x):=by rw[QG5,hx];rfl
 have c1:=M4 P fm g x hl (hP.op g hgm x hxm);rw[jav,JN,Q5]at c1;rw[Q5]at hgx;have e1:=Qo k _ hlt (by simp only[maxLen];omega);have htk:=Wm (q:=q) hx;rw[hqk,QHs]at htk;have o8':=o8;have o9':=o9;rw[PO.cells]at o8' o9';have fin:∀f',q x=false→Hd f' [(5,.ptr 0 5 0),(7,.ptr 0 7 0),(8,.ptr 0 8 0),(9,.ptr 0 9 0),(24,.list (g.ops.map QD)),(25,.int .i64 (g.ops.length:Nat))]→f' 26=.int .i64 ((k+1:Nat):Int)→∀fr',fr' 5=fr 5→fr' 7=fr 7→fr' 8=fr 8→fr' 9=fr 9→(∀s∈[13,12],(fr' s).isRow=false)→∃m,m<g.ops.length-k∧I m ⟨f',[fr'],[]⟩:=by
  intro f' hqx a1 a2 fr' b1 b2 b3 b4 b5;exact⟨g.ops.length-(k+1),by omega,f',fr',k+1,rfl,rfl,by omega,a1,a2,htk.trans hqx,b1.trans o5,b2.trans o7,b3.trans o8,b4.trans o9,b5⟩
 have hqx:q x=(decide (x.num > o.num)&&x.card==1&&x.union==o.union && !(x.num==o.num)):=by rw[←hq]
 simp only[QC hlt,n12,Sx,Sy,Qi,QHa,Qc,hgx,h5,h7,h24,h26,o5,o7,eE,seval];refine aC c1 ?_;simp only[n13,Sz,h8,o8',QHq,eE,seval];cases d1:decide (x.num≤o.num)
 case true=>
  have hf0:q x=false:=by
   rw[hqx,QHt (by have:=of_decide_eq_true d1;omega)];simp only[QHd]
  simp only[h26,e1,UA,Qa,seval];exact fin _ hf0 (by simp only[Hd,QGN,h5,h7,h8,h9,h24,h25,Qa,seval]) (by rfl) _ (by rfl) (by rfl) (by rfl) (by rfl) (by intro s hs;simp only[QG2,QHG,or_false]at hs;rcases hs with rfl|rfl<;>rfl)
 cases d2:(x.card != 1)
 case true=>
  have hf0:q x=false:=by
   rw[hqx,QHC.2 (by simpa using d2)];simp only[QHD,QHd]
  simp only[d2,h26,e1,UA,eE,seval];exact fin _ hf0 (by simp only[Hd,QGN,h5,h7,h8,h9,h24,h25,Qa,seval]) (by rfl) _ (by rfl) (by rfl) (by rfl) (by rfl) (by intro s hs;simp only[QG2,QHG,or_false]at hs;rcases hs with rfl|rfl<;>rfl)
 cases d3:(x.union != o.union)
 case true=>
  have hf0:q x=false:=by
   rw[hqx,QHC.2 (by simpa using d3:x.union≠o.union)];simp only[QHD,QHd]
  simp only[d2,d3,h9,h26,o9',e1,UA,eE,seval];exact fin _ hf0 (by simp only[Hd,QGN,h5,h7,h8,h9,h24,h25,Qa,seval]) (by rfl) _ (by rfl) (by rfl) (by rfl) (by rfl) (by intro s hs;simp only[QG2,QHG,or_false]at hs;rcases hs with rfl|rfl<;>rfl)
 have d4:(x.num==o.num)=false:=by
  have:=of_decide_eq_false d1;rw[QHC];omega
 have hany:g.ops.any q=true:=QHi.2 ⟨x,hxm,by
  rw[hqx,QHA (by have:=of_decide_eq_false d1;omega),QGe.2 (by simpa using d2),QGe.2 (by simpa using d3:x.union=o.union),d4];rfl⟩
 simp only[d2,d3,d4,h9,o9',SA,eE,seval];by_cases h9k:x.kind=9
 case neg=>
  have d:(x.kind != 9)=true:=by simp[h9k]
  simp only[d,hany,Nc,Qa,seval]
 have d:(x.kind != 9)=false:=by simp[h9k]
 obtain⟨j,e,he,ht⟩:=(hP.op g hgm x hxm).tgE h9k;have hge:(P.enums.map Q6)[j]? = some (Q6 e):=by rw[QG5,he];rfl
 have c2:=v59 P fm e j x he ht h9k (hP.its e (QF4 he));rw[jav,Jn,Q5,ht]at c2;rw[Jn]at hge;simp only[ht,h5,o5,d,Qi,QHa,Qc,hge,eE,seval];refine aC c2 ?_;simp only[hany,Nc,Qa,seval]
end

structure Pr where
 t:Nat
 path:List Int
 hid:Bool
def iv (n:Int):AV:=.int .i64 n
def Pr.av (p:Pr):AV:=.agg [.int .i64 (p.t:Nat),.int .i64 (p.t:Nat),.list (p.path.map iv),.bool p.hid]

section
variable (P:PL)(hP:Own P)(fm:Int)(hf:Fm fm)
include hP hf
theorem v14 (p:Pr)(g:PG)(hg:P.progs[p.t]? = some g):Qs Tryz.prog 14 [jav P fm,p.av] (.list []):=by
 have hgm:=QF4 hg;have hl:=hP.ops g hgm;have hgp:(P.progs.map QV)[p.t]? = some (QV g):=by rw[QG5,hg];rfl
 rw[JN]at hgp;refine k14.fn (by simp) ?_;simp only[L0,FO,RF,RG,RH,jav,Pr.av,Qi,QHa,Qc,hgp,eE,seval];refine Xn rfl rfl rfl rfl ?_;simp only[RI,RJ,QG7,eE,seval]
 let K:List (Nat×AV):=[(2,.ptr 0 2 0),(3,.ptr 0 3 0),(5,.ptr 0 5 0),(6,.ptr 0 6 0),(7,.ptr 0 7 0),(34,.list (g.ops.map QD)),(35,.int .i64 (g.ops.length:Nat))]
 let C:(Nat→Ob)→Prop:=fun fr=>fr 2=.cells [.list (P.progs.map QV),.list (P.enums.map Q6),.list (P.progs.map QV),.list (P.enums.map Q6),.int .i64 fm]∧fr 3=.cells [.int .i64 (p.t:Nat),.int .i64 (p.t:Nat),.list (p.path.map iv),.bool p.hid]∧fr 5=.cells [.str g.name,.list (g.ops.map QD),.int .i64 g.unions]∧fr 6=.cells [.str g.name,.list (g.ops.map QD),.int .i64 g.unions]∧fr 7=.cells [.vec 0 1103 1 0 0 false]∧fr 1103=.vec 1 4 []
 let I:Nat→St→Prop:=fun m st=>∃f fr k,st=⟨f,[fr],[]⟩∧m=g.ops.length-k∧k≤g.ops.length∧Hd f K∧f 36=.int .i64 (k:Nat)∧C fr∧∀s∈[11,10,17],(fr s).isRow=false
 refine Qd I _ ⟨_,_,0,rfl,rfl,QFZ _,by simp only[K,Hd,QGN,Qa,seval],(by rfl),⟨(by rfl),(by rfl),(by rfl),(by rfl),(by rfl),(by rfl)⟩,by intro s hs;simp only[QG2,QHG,or_false]at hs;rcases hs with rfl|rfl|rfl<;>rfl⟩ ?_;rintro _ st ⟨f0,fr0,k,rfl,rfl,hk,⟨h20,h30,h50,h60,h70,h340,h350,-⟩,h360,⟨ZG,X8,ZV,KF,Zl,oR0⟩,r0⟩;refine Qz (a:=_) [11,10] (fun s hs=>r0 s (by simp only[QG2,QHG,or_false]at hs ⊢;omega)) ?_;intro f fr hff hmm hn;have h2:f 2=.ptr 0 2 0:=by rw[hff,h20]<;>rfl
 have h3:f 3=.ptr 0 3 0:=by rw[hff,h30]<;>rfl
 have h5:f 5=.ptr 0 5 0:=by rw[hff,h50]<;>rfl
 have h6:f 6=.ptr 0 6 0:=by rw[hff,h60]<;>rfl
 have h7:f 7=.ptr 0 7 0:=by rw[hff,h70]<;>rfl
 have h34:f 34=.list (g.ops.map QD):=by rw[hff,h340]<;>rfl
 have h35:f 35=.int .i64 (g.ops.length:Nat):=by rw[hff,h350]<;>rfl
 have h36:f 36=.int .i64 (k:Nat):=by rw[hff,h360]<;>rfl
 have o2:fr 2=.cells [.list (P.progs.map QV),.list (P.enums.map Q6),.list (P.progs.map QV),.list (P.enums.map Q6),.int .i64 fm]:=by rw[hmm 2 (by decide),ZG]<;>rfl
 have o3:fr 3=.cells [.int .i64 (p.t:Nat),.int .i64 (p.t:Nat),.list (p.path.map iv),.bool p.hid]:=by rw[hmm 3 (by decide),X8]<;>rfl
 have o5:fr 5=.cells [.str g.name,.list (g.ops.map QD),.int .i64 g.unions]:=by rw[hmm 5 (by decide),ZV]<;>rfl
 have o6:fr 6=.cells [.str g.name,.list (g.ops.map QD),.int .i64 g.unions]:=by rw[hmm 6 (by decide),KF]<;>rfl
 have o7:fr 7=.cells [.vec 0 1103 1 0 0 false]:=by rw[hmm 7 (by decide),Zl]<;>rfl
 have oR:fr 1103=.vec 1 4 []:=by rw[hmm 1103 (by decide),oR0]<;>rfl
 have n10:=hn 10 (by decide);have n11:=hn 11 (by decide);have F5:(fr 17).isRow=false:=by
  rw[hmm 17 (by decide)];have:=r0 17 (by decide)
  revert this
  cases fr0 17<;>intro h<;>first|rfl|exact h
 clear hff hmm hn h20 h30 h50 h60 h70 h340 h350 h360 ZG X8 ZV KF Zl oR0 r0;simp only[RK,h35,h36,Qa,seval];by_cases hlt:k<g.ops.length
 case pos=>
  obtain⟨x,hx⟩:∃x,g.ops[k]? = some x:=⟨g.ops[k],QFT hlt⟩;have hxm:=QF4 hx;have hox:=hP.op g hgm x hxm;have hgx:(g.ops.map QD)[k]? = some (QD x):=by rw[QG5,hx];rfl
  have c1:=v28 P fm g x hox;have c2:=M4 P fm g x hl hox;have c3:=v30 P fm hf g x hox hP.its;have c4:=v31 P hP fm g hgm k x hx;rw[jav,Q5]at c1 c3;rw[jav,JN,Q5]at c2 c4;rw[Q5]at hgx;have e1:=Qo k _ hlt (by simp only[maxLen];omega);have fin:∀f',Hd f' K→f' 36=.int .i64 ((k+1:Nat):Int)→∀fr',C fr'→(∀s∈[11,10,17],(fr' s).isRow=false)→∃m,m<g.ops.length-k∧I m ⟨f',[fr'],[]⟩:=by
   intro f' a1 a2 fr' b1 b5;exact⟨g.ops.length-(k+1),by omega,f',fr',k+1,rfl,rfl,by omega,a1,a2,b1,b5⟩
  simp only[QC hlt,n10,RL,RM,Qi,QHa,Qc,hgx,h2,h34,h36,o2,eE,seval];refine aC c1 ?_;cases hb:BE P x
  ·simp only[GS,h36,e1,QGR,Qa,seval];exact fin _ (by simp only[K,Hd,QGN,h2,h3,h5,h6,h7,h34,h35,Qa,seval]) (by rfl) _ ⟨(by exact o2),(by exact o3),(by exact o5),(by exact o6),(by exact o7),(by exact oR)⟩ (by intro s hs;simp only[QG2,QHG,or_false]at hs;rcases hs with rfl|rfl|rfl<;>first|exact F5|rfl|(simp only[n11,Qa,seval]<;>rfl))
  simp only[RN,h2,h6,o2,o6,QHq,eE,seval];refine aC c2 ?_;simp only[n11,RP,Vv,h2,o2,QHq,eE,seval];refine aC c3 ?_;simp only[Vw,Vx,h2,h5,h6,o2,o5,o6,seval,eE];refine aC c4 ?_;simp only[Vy,Vz,GS,h36,e1,Qa,seval];exact fin _ (by simp only[K,Hd,QGN,h2,h3,h5,h6,h7,h34,h35,Qa,seval]) (by rfl) _ ⟨(by exact o2),(by exact o3),(by exact o5),(by exact o6),(by exact o7),(by exact oR)⟩ (by intro s hs;simp only[QG2,QHG,or_false]at hs;rcases hs with rfl|rfl|rfl<;>first|exact F5|rfl)
 simp only[QG hlt,VA,h6,o6,QG7,eE,seval];clear hlt
 let K2:List (Nat×AV):=[(2,.ptr 0 2 0),(3,.ptr 0 3 0),(5,.ptr 0 5 0),(6,.ptr 0 6 0),(7,.ptr 0 7 0),(93,.list (g.ops.map QD)),(94,.int .i64 (g.ops.length:Nat))]
 let J:Nat→St→Prop:=fun m st=>∃f fr k,st=⟨f,[fr],[]⟩∧m=g.ops.length-k∧k≤g.ops.length∧Hd f K2∧f 95=.int .i64 (k:Nat)∧C fr∧∀s∈[17],(fr s).isRow=false
 refine Qd J _ ⟨_,_,0,rfl,rfl,QFZ _,by simp only[K2,Hd,QGN,h2,h3,h5,h6,h7,Qa,seval],(by rfl),⟨(by exact o2),(by exact o3),(by exact o5),(by exact o6),(by exact o7),(by exact oR)⟩,by intro s hs;simp only[QG2,QHG,or_false]at hs;subst hs;exact F5⟩ ?_;clear h2 h3 h5 h6 h7 h34 h35 h36 o2 o3 o5 o6 o7 oR n10 n11 F5 hk;rintro _ st ⟨f0,fr0,k,rfl,rfl,hk,⟨h20,h30,h50,h60,h70,h340,h350,-⟩,h360,⟨ZG,X8,ZV,KF,Zl,oR0⟩,r0⟩;refine Qz (a:=_) [17] r0 ?_;intro f fr hff hmm hn;have h2:f 2=.ptr 0 2 0:=by rw[hff,h20]<;>rfl
 have h3:f 3=.ptr 0 3 0:=by rw[hff,h30]<;>rfl
 have h5:f 5=.ptr 0 5 0:=by rw[hff,h50]<;>rfl
 have h6:f 6=.ptr 0 6 0:=by rw[hff,h60]<;>rfl
 have h7:f 7=.ptr 0 7 0:=by rw[hff,h70]<;>rfl
 have h93:f 93=.list (g.ops.map QD):=by rw[hff,h340]<;>rfl
 have h94:f 94=.int .i64 (g.ops.length:Nat):=by rw[hff,h350]<;>rfl
 have h95:f 95=.int .i64 (k:Nat):=by rw[hff,h360]<;>rfl
 have o2:fr 2=.cells [.list (P.progs.map QV),.list (P.enums.map Q6),.list (P.progs.map QV),.list (P.enums.map Q6),.int .i64 fm]:=by rw[hmm 2 (by decide),ZG]<;>rfl
 have o3:fr 3=.cells [.int .i64 (p.t:Nat),.int .i64 (p.t:Nat),.list (p.path.map iv),.bool p.hid]:=by rw[hmm 3 (by decide),X8]<;>rfl
 have o5:fr 5=.cells [.str g.name,.list (g.ops.map QD),.int .i64 g.unions]:=by rw[hmm 5 (by decide),ZV]<;>rfl
 have o6:fr 6=.cells [.str g.name,.list (g.ops.map QD),.int .i64 g.unions]:=by rw[hmm 6 (by decide),KF]<;>rfl
 have o7:fr 7=.cells [.vec 0 1103 1 0 0 false]:=by rw[hmm 7 (by decide),Zl]<;>rfl
 have oR:fr 1103=.vec 1 4 []:=by rw[hmm 1103 (by decide),oR0]<;>rfl
 have n17:=hn 17 (by decide);clear hff hmm hn h20 h30 h50 h60 h70 h340 h350 h360 ZG X8 ZV KF Zl oR0 r0;simp only[VB,h94,h95,Qa,seval];by_cases hlt:k<g.ops.length
 case neg=>simp only[QG hlt,VE,h7,o7,oR,QGV,QGf,QFQ,QGN,QGT,AV.un,eE,seval]
 obtain⟨x,hx⟩:∃x,g.ops[k]? = some x:=⟨g.ops[k],QFT hlt⟩;have hgx:(g.ops.map QD)[k]? = some (QD x):=by rw[QG5,hx];rfl
 rw[Q5]at hgx;have e1:=Qo k _ hlt (by simp only[maxLen];omega);have fin:∀f',Hd f' K2→f' 95=.int .i64 ((k+1:Nat):Int)→∀fr',C fr'→(∀s∈[17],(fr' s).isRow=false)→∃m,m<g.ops.length-k∧J m ⟨f',[fr'],[]⟩:=by
  intro f' a1 a2 fr' b1 b5;exact⟨g.ops.length-(k+1),by omega,f',fr',k+1,rfl,rfl,by omega,a1,a2,b1,b5⟩
 simp only[QC hlt,n17,VC,VD,Qi,QHa,Qc,hgx,h3,h93,h95,o3,eE,seval];cases hh:p.hid
 case true=>
  simp only[Uy,h95,e1,QHq,Qa,seval];exact fin _ (by simp only[K2,Hd,QGN,h2,h3,h5,h6,h7,h93,h94,Qa,seval]) (by rfl) _ ⟨(by exact o2),(by rw[hh]at o3 ⊢;exact(by exact o3)),(by exact o5),(by exact o6),(by exact o7),(by exact oR)⟩ (by intro s hs;simp only[QG2,QHG,or_false]at hs;subst hs;rfl)
 cases hcd:(x.card==1)
 case false=>
  simp only[hcd,Uy,h95,e1,QGR,eE,seval];exact fin _ (by simp only[K2,Hd,QGN,h2,h3,h5,h6,h7,h93,h94,Qa,seval]) (by rfl) _ ⟨(by exact o2),(by rw[hh]at o3 ⊢;exact(by exact o3)),(by exact o5),(by exact o6),(by exact o7),(by exact oR)⟩ (by intro s hs;simp only[QG2,QHG,or_false]at hs;subst hs;rfl)
 have c5:=v32 P hP fm g hgm k x hx (by simpa using hcd);rw[jav,JN,Q5]at c5;simp only[hcd,h2,h5,h6,o2,o5,o6,QGR,eE,seval];refine aC c5 ?_;simp only[Uy,h95,e1,QHq,Qa,seval];exact fin _ (by simp only[K2,Hd,QGN,h2,h3,h5,h6,h7,h93,h94,Qa,seval]) (by rfl) _ ⟨(by exact o2),(by rw[hh]at o3 ⊢;exact(by exact o3)),(by exact o5),(by exact o6),(by exact o7),(by exact oR)⟩ (by intro s hs;simp only[QG2,QHG,or_false]at hs;subst hs;rfl)
end

theorem M5 {P:Program}{its:List Am.Item}{d:Nat}{f:Fr}{m:Ql}{ds:List DF}{K:St→Prop}{sz bytes el:Nat}{s r:RA}{site g n:Nat}{fr F:Nat→Ob}{xs ys:List AV}(hs:s.ev f=.vec 1 site g 0 n false)(hl:F site=.vec g sz xs)(ht:Xu site el=true)(hn:n=xs.length)(hr:r.ev f=.list ys)(hz:ys.all (fun e=>e.cells.length==sz)=true)(hm:n+ys.length≤maxLen)(hb:(n+ys.length)*bytes≤140737488355328)
  (h:Qj P its ⟨Qp f d (.vec 1 site (g+1) 0 (n+ys.length) false),fr :: Qp F site (.vec (g+1) sz (xs++ys)) :: m,ds⟩ K):Qj P (⟨some d,.app sz bytes el s r,none⟩ :: its) ⟨f,fr :: F :: m,ds⟩ K:=by
 refine⟨1,site,g,n,xs,ys,hs,hl,ht,by omega,?_,hz,hm,hb,?_⟩
 ·show Xf (fr :: F :: m) (r.ev f)=some ys;rw[hr];rfl
 ·subst hn;rw[QHh];exact h

def NI (L:List Pr)(t:Int)(h:Bool):Bool:=L.any fun y=>((y.t:Int)==t)&&(!y.hid||h)
def Jb (P:PL)(fm:Int)(g:PG)(p:Pr)(L:List Pr)(x:PO):List Pr :=
 if BE P x=true∧x.kind=10 then(if NI L x.target (p.hid||hid fm g x)=true then L else L++[⟨x.target.toNat,p.path++[x.num],p.hid||hid fm g x⟩])else L
def Z2 (P:PL)(fm:Int)(g:PG)(p:Pr)(L:List Pr)(k:Nat):List Pr:=(g.ops.take k).foldl (Jb P fm g p) L
def HP (P:PL)(fm:Int)(g:PG)(p:Pr)(L:List Pr):List Pr:=g.ops.foldl (Jb P fm g p) L

section
variable {P:PL}{fm:Int}{g:PG}{p:Pr}
theorem HQ {L:List Pr}{k:Nat}{x:PO}(hx:g.ops[k]? = some x):Z2 P fm g p L (k+1)=Jb P fm g p (Z2 P fm g p L k) x:=by
 unfold Z2;rw[QHk,hx,QHl,List.foldl_append];rfl
theorem D7 (L:List Pr)(x:PO):L.length≤(Jb P fm g p L x).length∧(Jb P fm g p L x).length≤L.length+1:=by
 unfold Jb;split
 ·split
  ·omega
  ·rw[QGs,QHe];omega
 ·omega
theorem YV (L:List Pr):∀k,L.length≤(Z2 P fm g p L k).length∧(Z2 P fm g p L k).length≤L.length+k
 |0=>by simp[Z2]
 |k+1=>by
  have ih:=YV L k;cases hx:g.ops[k]? with
  |none=>
   have:Z2 P fm g p L (k+1)=Z2 P fm g p L k:=by unfold Z2;rw[QHk,hx,Option.toList_none,QGM]
   rw[this];omega
  |some x=>
   rw[HQ hx];have:=D7 (P:=P) (fm:=fm) (g:=g) (p:=p) (Z2 P fm g p L k) x;omega
end

section
variable (P:PL)(hP:Own P)(fm:Int)(hf:Fm fm)(p:Pr)(g:PG)(hg:P.progs[p.t]? = some g)(L:List Pr)(ge:Nat)(F:Nat→Ob)(m:Ql)(hF:F 35=.vec ge 4 (L.map Pr.av))(hL:L.length≤1000)(hpl:p.path.length≤1000)
def W8 (L':List Pr):Nat→Ob:=Qp F 35 (.vec (ge+(L'.length-L.length)) 4 (L'.map Pr.av))
def FlI (n k:Nat)(L':List Pr)(f:Fr)(fr:Nat→Ob):Prop :=
 f 1=.vec 1 35 (ge+(L'.length-L.length)) 0 L'.length false∧f 3=.ptr 0 3 0∧f 5=.ptr 0 5 0∧f 7=.ptr 0 7 0∧f 8=.ptr 0 8 0∧f 32=.list (g.ops.map QD)∧f 33=.int .i64 (n:Nat)∧f 34=.int .i64 (k:Nat)∧
 fr 3=.cells [.list (P.progs.map QV),.list (P.enums.map Q6),.list (P.progs.map QV),.list (P.enums.map Q6),.int .i64 fm]∧fr 5=.cells [.int .i64 (p.t:Nat),.int .i64 (p.t:Nat),.list (p.path.map iv),.bool p.hid]∧fr 7=.cells [.str g.name,.list (g.ops.map QD),.int .i64 g.unions]∧fr 8=.cells [.str g.name,.list (g.ops.map QD),.int .i64 g.unions]∧∀s∈[15,11,10],(fr s).isRow=false

include hP hf hg hF hL hpl in
theorem v15:Qn Tryz.prog 15 [jav P fm,.vec 0 35 ge 0 L.length false,p.av] (F :: m) fun y m1=>y=.vec 0 35 (ge+((HP P fm g p L).length-L.length)) 0 (HP P fm g p L).length false∧m1=W8 L ge F (HP P fm g p L) :: m:=by
 have hgm:=QF4 hg;have hl:=hP.ops g hgm;have hgp:(P.progs.map QV)[p.t]? = some (QV g):=by rw[QG5,hg];rfl
 rw[JN]at hgp;have hFe:F=W8 L ge F L:=by
  unfold W8;rw[Nat.sub_self,QGm,KT _ _ _ hF]
 refine k15.go (by simp) ?_;simp only[jav,Pr.av,Qi,QHa,Qc,hgp,eE,seval];simp only[QG7,seval]
 let I:Nat→St→Prop:=fun n st=>∃f fr k,st=⟨f,fr :: W8 L ge F (Z2 P fm g p L k) :: m,[]⟩∧n=g.ops.length-k∧k≤g.ops.length∧FlI P fm p g L ge g.ops.length k (Z2 P fm g p L k) f fr
 have h0:Z2 P fm g p L 0=L:=by simp[Z2]
 refine Qd I _ ⟨_,_,0,by rw[h0,←hFe],rfl,QFZ _,by rw[h0];exact⟨by rw[Nat.sub_self,QGm];exact(by rfl),(by rfl),(by rfl),(by rfl),(by rfl),(by rfl),(by rfl),(by rfl),(by rfl),(by rfl),(by rfl),(by rfl),by intro s hs;simp only[QG2,QHG,or_false]at hs;rcases hs with rfl|rfl|rfl<;>rfl⟩⟩ ?_;rintro _ st ⟨f0,fr0,k,rfl,rfl,hk,h10,h30,h50,h70,h80,h320,h330,h340,X8,ZV,Zl,Js,r0⟩;have hLk:=YV (P:=P) (fm:=fm) (g:=g) (p:=p) L k;generalize hLe:Z2 P fm g p L k=L' at *;refine Qz (a:=_) [15,11,10] r0 ?_;intro f fr hff hmm hn;have h1:f 1=.vec 1 35 (ge+(L'.length-L.length)) 0 L'.length false:=by rw[hff,h10]<;>rfl
 have h3:f 3=.ptr 0 3 0:=by rw[hff,h30]<;>rfl
 have h5:f 5=.ptr 0 5 0:=by rw[hff,h50]<;>rfl
 have h7:f 7=.ptr 0 7 0:=by rw[hff,h70]<;>rfl
 have h8:f 8=.ptr 0 8 0:=by rw[hff,h80]<;>rfl
 have h32:f 32=.list (g.ops.map QD):=by rw[hff,h320]<;>rfl
 have h33:f 33=.int .i64 (g.ops.length:Nat):=by rw[hff,h330]<;>rfl
 have h34:f 34=.int .i64 (k:Nat):=by rw[hff,h340]<;>rfl
 have o3:fr 3=.cells [.list (P.progs.map QV),.list (P.enums.map Q6),.list (P.progs.map QV),.list (P.enums.map Q6),.int .i64 fm]:=by rw[hmm 3 (by decide),X8]<;>rfl
 have o5:fr 5=.cells [.int .i64 (p.t:Nat),.int .i64 (p.t:Nat),.list (p.path.map iv),.bool p.hid]:=by rw[hmm 5 (by decide),ZV]<;>rfl
 have o7:fr 7=.cells [.str g.name,.list (g.ops.map QD),.int .i64 g.unions]:=by rw[hmm 7 (by decide),Zl]<;>rfl
 have o8:fr 8=.cells [.str g.name,.list (g.ops.map QD),.int .i64 g.unions]:=by rw[hmm 8 (by decide),Js]<;>rfl
 have n10:=hn 10 (by decide);have n11:=hn 11 (by decide);have n15:=hn 15 (by decide);clear hff hmm hn h10 h30 h50 h70 h80 h320 h330 h340 X8 ZV Zl Js r0;simp only[h33,h34,Qa,seval];by_cases hlt:k<g.ops.length
 case neg=>
  have e:HP P fm g p L=L':=by
   rw[←hLe];unfold HP Z2;rw[QGo (by omega)]
  rw[e];simp only[QG hlt,h1,Qa,seval]
 obtain⟨x,hx⟩:∃x,g.ops[k]? = some x:=⟨g.ops[k],QFT hlt⟩;have hxm:=QF4 hx;have hox:=hP.op g hgm x hxm;have hgx:(g.ops.map QD)[k]? = some (QD x):=by rw[QG5,hx];rfl
 have c1:=M4 P fm g x hl hox;have c2:=v28 P fm g x hox;have c3:=v33 P fm x;have c4:=v34 P hP fm g hgm x;rw[jav,JN,Q5]at c1 c4;rw[jav,Q5]at c2 c3;rw[Q5]at hgx;have e1:=Qo k _ hlt (by simp only[maxLen];omega);have hsu:=HQ (P:=P) (fm:=fm) (p:=p) (L:=L) hx;rw[hLe]at hsu;have stay:Jb P fm g p L' x=L'→∀f',f' 1=.vec 1 35 (ge+(L'.length-L.length)) 0 L'.length false∧f' 3=.ptr 0 3 0∧f' 5=.ptr 0 5 0∧f' 7=.ptr 0 7 0∧f' 8=.ptr 0 8 0∧f' 32=.list (g.ops.map QD)∧f' 33=.int .i64 (g.ops.length:Nat)∧f' 34=.int .i64 ((k+1:Nat):Int)→∀fr',fr' 3=.cells [.list (P.progs.map QV),.list (P.enums.map Q6),.list (P.progs.map QV),.list (P.enums.map Q6),.int .i64 fm]∧fr' 5=.cells [.int .i64 (p.t:Nat),.int .i64 (p.t:Nat),.list (p.path.map iv),.bool p.hid]∧fr' 7=.cells [.str g.name,.list (g.ops.map QD),.int .i64 g.unions]∧fr' 8=.cells [.str g.name,.list (g.ops.map QD),.int .i64 g.unions]→(∀s∈[15,11,10],(fr' s).isRow=false)→∃n,n<g.ops.length-k∧I n ⟨f',fr' :: W8 L ge F L' :: m,[]⟩:=by
  intro hs f' ha fr' hb hr;rw[hs]at hsu;exact⟨g.ops.length-(k+1),by omega,f',fr',k+1,by rw[hsu],rfl,by omega,by rw[hsu];exact⟨ha.1,ha.2.1,ha.2.2.1,ha.2.2.2.1,ha.2.2.2.2.1,ha.2.2.2.2.2.1,ha.2.2.2.2.2.2.1,ha.2.2.2.2.2.2.2,hb.1,hb.2.1,hb.2.2.1,hb.2.2.2,hr⟩⟩
 simp only[QC hlt,n10,Qi,QHa,Qc,hgx,h3,h8,h32,h34,o3,o8,eE,seval];refine aC c1 ?_;simp only[n11,h3,o3,QHq,eE,seval];refine aC c2 ?_;cases hb:BE P x
 ·have hs:Jb P fm g p L' x=L':=by unfold Jb;rw[QFX (by rw[hb];simp)]
  simp only[h34,e1,QGR,Qa,seval];exact stay hs _ ⟨(by exact h1),(by exact h3),(by exact h5),(by exact h7),(by exact h8),(by exact h32),(by exact h33),(by rfl)⟩ _ ⟨(by exact o3),(by exact o5),(by exact o7),(by exact o8)⟩ (by intro s hs;simp only[QG2,QHG,or_false]at hs;rcases hs with rfl|rfl|rfl<;>first|rfl|(simp only[n15,Qa,seval]<;>rfl))
 by_cases h10:x.kind=10
 case neg=>
  have d:(x.kind != 10)=true:=by simp[h10]
  have hs:Jb P fm g p L' x=L':=by unfold Jb;rw[QFX (fun h=>h10 h.2)]
  simp only[h34,d,e1,QHq,eE,seval];exact stay hs _ ⟨(by exact h1),(by exact h3),(by exact h5),(by exact h7),(by exact h8),(by exact h32),(by exact h33),(by rfl)⟩ _ ⟨(by exact o3),(by exact o5),(by exact o7),(by exact o8)⟩ (by intro s hs;simp only[QG2,QHG,or_false]at hs;rcases hs with rfl|rfl|rfl<;>first|rfl|(simp only[n15,Qa,seval]<;>rfl))
 have d:(x.kind != 10)=false:=by simp[h10]
 obtain⟨j,gj,hj,htg⟩:=hox.tgP h10;have hss:Jb P fm g p L' x=if NI L' x.target (p.hid||hid fm g x)=true then L' else L'++[⟨x.target.toNat,p.path++[x.num],p.hid||hid fm g x⟩]:=by unfold Jb;rw[QFY ⟨hb,h10⟩]
 obtain⟨hd,ehd⟩:∃hd,(p.hid||hid fm g x)=hd:=⟨_,rfl⟩;rw[ehd]at hss;have hFl:W8 L ge F L' 35=.vec (ge+(L'.length-L.length)) 4 (L'.map Pr.av):=QI _ _ _;have tl:L'.length=(L'.map Pr.av).length:=(QG7 ..).symm;generalize hFF:W8 L ge F L'=F' at *;generalize hG:ge+(L'.length-L.length)=G at *
 let C:(Nat→Ob)→Prop:=fun fr=>fr 3=.cells [.list (P.progs.map QV),.list (P.enums.map Q6),.list (P.progs.map QV),.list (P.enums.map Q6),.int .i64 fm]∧fr 5=.cells [.int .i64 (p.t:Nat),.int .i64 (p.t:Nat),.list (p.path.map iv),.bool p.hid]∧fr 7=.cells [.str g.name,.list (g.ops.map QD),.int .i64 g.unions]∧fr 8=.cells [.str g.name,.list (g.ops.map QD),.int .i64 g.unions]∧fr 10=.cells x.cells∧fr 11=.cells x.cells
 let K:List (Nat×AV):=[(1,.vec 1 35 G 0 L'.length false),(3,.ptr 0 3 0),(5,.ptr 0 5 0),(7,.ptr 0 7 0),(8,.ptr 0 8 0),(10,.ptr 0 10 0),(11,.ptr 0 11 0),(13,.bool hd),(32,.list (g.ops.map QD)),(33,.int .i64 (g.ops.length:Nat)),(34,.int .i64 (k:Nat)),(80,.vec 1 35 G 0 L'.length false),(81,.int .i64 (L'.length:Nat))]
 let J:Nat→St→Prop:=fun n st=>∃f fr i,st=⟨f,fr :: F' :: m,[]⟩∧n=L'.length-i∧i≤L'.length∧Hd f K∧f 82=.int .i64 (i:Nat)∧(L'.take i).any (fun y=>((y.t:Int)==x.target)&&(!y.hid||hd))=false∧C fr∧∀s∈[15],(fr s).isRow=false
 have ia:∀(fr':Nat→Ob) (i:Nat),i<L'.length→Qc (fr' :: F' :: m) 4 none (.vec 1 35 G 0 L'.length false) (i:Int)=some (.vptr 1 35 G i 0):=by
  intro fr' i hi;have e:Am.Qe (fr' :: F' :: m) 1 35=.vec G 4 (L'.map Pr.av):=hFl;simp only[Qc,e,Qi,if_true,QHa];simp[hi]
 have il:∀(fr':Nat→Ob) (i:Nat) (y:Pr),L'[i]? = some y→Xc (fr' :: F' :: m) (some 4) (.vptr 1 35 G i 0)=some (.agg [.int .i64 (y.t:Nat),.int .i64 (y.t:Nat),.list (y.path.map iv),.bool y.hid]):=by
  intro fr' i y hy;have e:Am.Qe (fr' :: F' :: m) 1 35=.vec G 4 (L'.map Pr.av):=hFl;have e2:(L'.map Pr.av)[i]? = some y.av:=by rw[QG5,hy];rfl
  simp only[Xc,e,e2,if_true];rfl
 simp only[d,h3,o3,QHq,eE,seval];refine aC c3 ?_;simp only[seval,h5,o5,eE];cases hh:p.hid
 case' true=>simp only[h1,hFl,eE,seval]
 case' false=>
  simp only[h3,h7,h8,o3,o7,o8,eE,seval];refine aC c4 ?_;simp only[h1,hFl,eE,seval]
 all_goals
  refine Qd J _ ⟨_,_,0,rfl,rfl,QFZ _,by simp only[K,Hd,QGN,←ehd,hh,QHr,QHs,h1,h3,h5,h7,h8,h32,h33,h34,Qa,seval],(by rfl),rfl,⟨(by exact o3),(by exact o5),(by exact o7),(by exact o8),by rw[PO.cells];exact(by rfl),by rw[PO.cells];exact(by rfl)⟩,by intro s hs;simp only[QG2,QHG,or_false]at hs;subst hs;first|rfl|(simp only[n15,Qa,seval]<;>rfl)⟩ ?_;clear h1 h3 h5 h7 h8 h32 h33 h34 o3 o5 o7 o8 n10 n11 n15;rintro _ st ⟨f0,fr0,i,rfl,rfl,hi,⟨h10,h30,h50,h70,h80,hx0,hy0,hz0,h320,h330,h340,ha0,hb0,-⟩,hc0,hq,⟨X8,ZV,Zl,Js,ox0,oy0⟩,r0⟩;refine Qz (a:=_) [15] r0 ?_;intro f fr hff hmm hn;have h1:f 1=.vec 1 35 G 0 L'.length false:=by rw[hff,h10]<;>rfl
  have h3:f 3=.ptr 0 3 0:=by rw[hff,h30]<;>rfl
  have h5:f 5=.ptr 0 5 0:=by rw[hff,h50]<;>rfl
  have h7:f 7=.ptr 0 7 0:=by rw[hff,h70]<;>rfl
  have h8:f 8=.ptr 0 8 0:=by rw[hff,h80]<;>rfl
  have hx1:f 10=.ptr 0 10 0:=by rw[hff,hx0]<;>rfl
  have hy1:f 11=.ptr 0 11 0:=by rw[hff,hy0]<;>rfl
  have hz1:f 13=.bool hd:=by rw[hff,hz0]<;>rfl
  have h32:f 32=.list (g.ops.map QD):=by rw[hff,h320]<;>rfl
  have h33:f 33=.int .i64 (g.ops.length:Nat):=by rw[hff,h330]<;>rfl
  have h34:f 34=.int .i64 (k:Nat):=by rw[hff,h340]<;>rfl
  have ha1:f 80=.vec 1 35 G 0 L'.length false:=by rw[hff,ha0]<;>rfl
  have hb1:f 81=.int .i64 (L'.length:Nat):=by rw[hff,hb0]<;>rfl
  have hc1:f 82=.int .i64 (i:Nat):=by rw[hff,hc0]<;>rfl
  have o3:fr 3=.cells [.list (P.progs.map QV),.list (P.enums.map Q6),.list (P.progs.map QV),.list (P.enums.map Q6),.int .i64 fm]:=by rw[hmm 3 (by decide),X8]<;>rfl
  have o5:fr 5=.cells [.int .i64 (p.t:Nat),.int .i64 (p.t:Nat),.list (p.path.map iv),.bool p.hid]:=by rw[hmm 5 (by decide),ZV]<;>rfl
  have o7:fr 7=.cells [.str g.name,.list (g.ops.map QD),.int .i64 g.unions]:=by rw[hmm 7 (by decide),Zl]<;>rfl
  have o8:fr 8=.cells [.str g.name,.list (g.ops.map QD),.int .i64 g.unions]:=by rw[hmm 8 (by decide),Js]<;>rfl
  have ox:fr 10=.cells x.cells:=by rw[hmm 10 (by decide),ox0]<;>rfl
  have oy:fr 11=.cells x.cells:=by rw[hmm 11 (by decide),oy0]<;>rfl
  have n15:=hn 15 (by decide);clear hff hmm hn h10 h30 h50 h70 h80 hx0 hy0 hz0 h320 h330 h340 ha0 hb0 hc0 X8 ZV Zl Js ox0 oy0 r0;have ox':=ox;have oy':=oy;rw[PO.cells]at ox' oy';simp only[hb1,hc1,Qa,seval];by_cases hli:i<L'.length
  case pos=>
   obtain⟨y,hy⟩:∃y,L'[i]? = some y:=⟨L'[i],QFT hli⟩;have e2:=Qo i _ hli (by simp only[maxLen];omega);have hta:=Wm (q:=fun y:Pr=>((y.t:Int)==x.target)&&(!y.hid||hd)) hy;rw[hq,QHs]at hta;have hany:(((y.t:Int)==x.target)&&(!y.hid||hd))=true→NI L' x.target hd=true:=fun h=>QHi.2 ⟨y,QF4 hy,h⟩
   have fin:(((y.t:Int)==x.target)&&(!y.hid||hd))=false→∀f',Hd f' K→f' 82=.int .i64 ((i+1:Nat):Int)→∀fr',C fr'→(∀s∈[15],(fr' s).isRow=false)→∃n,n<L'.length-i∧J n ⟨f',fr' :: F' :: m,[]⟩:=by
    intro hqy f' a1 a2 fr' b1 b2;exact⟨L'.length-(i+1),by omega,f',fr',i+1,rfl,rfl,by omega,a1,a2,hta.trans hqy,b1,b2⟩
   simp only[QC hli,n15,ia _ i hli,il _ i y hy,ha1,hc1,hx1,ox',eE,seval];cases q1:((y.t:Int)==x.target)
   ·simp only[hc1,e2,Qa,seval];exact fin (by rw[q1];rfl) _ (by simp only[K,Hd,QGN,h1,h3,h5,h7,h8,hx1,hy1,hz1,h32,h33,h34,ha1,hb1,Qa,seval]) (by rfl) _ ⟨(by exact o3),(by exact o5),(by exact o7),(by exact o8),(by exact ox),(by exact oy)⟩ (by intro s hs;simp only[QG2,QHG,or_false]at hs;subst hs;rfl)
   cases q2:y.hid
   ·have hs:=hss;rw[QFY (hany (by rw[q1,q2];rfl))]at hs;simp only[q1,h34,e1,hy1,oy',QGR,eE,seval];exact stay hs _ ⟨(by exact h1),(by exact h3),(by exact h5),(by exact h7),(by exact h8),(by exact h32),(by exact h33),(by rfl)⟩ _ ⟨(by exact o3),(by exact o5),(by exact o7),(by exact o8)⟩ (by intro s hs;simp only[QG2,QHG,or_false]at hs;rcases hs with rfl|rfl|rfl<;>first|rfl|(simp only[ox',oy',Qa,seval]<;>rfl))
   cases q3:hd
   ·simp only[q1,q3,hc1,e2,hy1,hz1,oy',QHq,eE,seval];exact fin (by rw[q1,q2,q3];rfl) _ (by simp only[K,Hd,QGN,h1,h3,h5,h7,h8,hx1,hy1,hz1,h32,h33,h34,ha1,hb1,Qa,seval]) (by rfl) _ ⟨(by exact o3),(by exact o5),(by exact o7),(by exact o8),(by exact ox),(by exact oy)⟩ (by intro s hs;simp only[QG2,QHG,or_false]at hs;subst hs;rfl)
   ·have hs:=hss;rw[QFY (hany (by rw[q1,q2,q3];rfl))]at hs;simp only[q1,q3,h34,e1,hy1,hz1,oy',QHq,eE,seval];exact stay hs _ ⟨(by exact h1),(by exact h3),(by exact h5),(by exact h7),(by exact h8),(by exact h32),(by exact h33),(by rfl)⟩ _ ⟨(by exact o3),(by exact o5),(by exact o7),(by exact o8)⟩ (by intro s hs;simp only[QG2,QHG,or_false]at hs;rcases hs with rfl|rfl|rfl<;>first|rfl|(simp only[ox',oy',Qa,seval]<;>rfl))
  rw[QGo (by omega)]at hq;rw[QFX (by unfold NI;rw[hq];simp)]at hss;rw[hss]at hsu;have etn:((x.target.toNat:Nat):Int)=x.target:=by rw[htg];rfl
  have hgen:W8 L ge F (L'++[⟨x.target.toNat,p.path++[x.num],hd⟩])=Qp F' 35 (.vec (G+1) 4 (L'.map Pr.av++[.agg [.int .i64 x.target,.int .i64 x.target,.list (p.path.map iv++[.int .i64 x.num]),.bool hd]])):=by
   rw[←hFF];unfold W8;rw[Z6,QHj,QGs,QHe,show ge+(L'.length+1-L.length)=G+1 by omega];simp only[QGn,QGK,Pr.av,etn,QHj,iv]
  have grow:∀f',f' 1=.vec 1 35 (G+1) 0 (L'.length+1) false∧f' 3=.ptr 0 3 0∧f' 5=.ptr 0 5 0∧f' 7=.ptr 0 7 0∧f' 8=.ptr 0 8 0∧f' 32=.list (g.ops.map QD)∧f' 33=.int .i64 (g.ops.length:Nat)∧f' 34=.int .i64 ((k+1:Nat):Int)→∀fr',fr' 3=fr 3∧fr' 5=fr 5∧fr' 7=fr 7∧fr' 8=fr 8→(∀s∈[15,11,10],(fr' s).isRow=false)→∃n,n<g.ops.length-k∧I n ⟨f',fr' :: Qp F' 35 (.vec (G+1) 4 (L'.map Pr.av++[.agg [.int .i64 x.target,.int .i64 x.target,.list (p.path.map iv++[.int .i64 x.num]),.bool hd]])) :: m,[]⟩:=by
   intro f' ha fr' hb hr;rw[o3,o5,o7,o8]at hb;rw[←hgen];refine⟨g.ops.length-(k+1),by omega,f',fr',k+1,by rw[hsu],rfl,by omega,?_⟩;rw[hsu];refine⟨?_,ha.2.1,ha.2.2.1,ha.2.2.2.1,ha.2.2.2.2.1,ha.2.2.2.2.2.1,ha.2.2.2.2.2.2.1,ha.2.2.2.2.2.2.2,hb.1,hb.2.1,hb.2.2.1,hb.2.2.2,hr⟩;rw[ha.1,QGs,QHe,show ge+(L'.length+1-L.length)=G+1 by omega]
  simp only[QG hli,h5,o5,QG7,eE,seval];simp only[h1,hx1,hy1,ox',oy',QGN,eE,seval];refine NY (by rfl) ?_;refine Vh (xs:=p.path.map iv) (ys:=[.int .i64 x.num]) (by rfl) (by rfl) (by rw[QF3];intro z hz;obtain⟨w,_,rfl⟩:=QG3.1 hz;rfl) rfl (by simp only[QG7,QF5,QGV,maxLen];omega) (by simp only[QG7,QF5,QGV];omega) ?_;simp only[hz1,eE,seval];refine XN rfl rfl (by decide) rfl rfl ?_;simp only[nn0,QGn,QGK,seval];refine M5 (xs:=L'.map Pr.av) (by rfl) hFl rfl tl (by rfl) rfl (by simp only[QF5,QGV,maxLen];omega) (by simp only[QF5,QGV];omega) ?_;simp only[h34,e1,Qa,seval];exact grow _ ⟨(by rfl),(by exact h3),(by exact h5),(by exact h7),(by exact h8),(by exact h32),(by exact h33),(by rfl)⟩ _ ⟨(by rfl),(by rfl),(by rfl),(by rfl)⟩ (by intro s hs;simp only[QG2,QHG,or_false]at hs;rcases hs with rfl|rfl|rfl<;>first|rfl|(simp only[n15,ox',oy',Qa,seval]<;>rfl))
end

theorem HR {α:Type}[DecidableEq α]:∀ {l r:List α},l.Nodup→(∀x∈l,x∈r)→l.length≤r.length
 | [],_,_,_=>QFZ _
 |x :: l,r,hd,hs=>by
  rw[List.nodup_cons]at hd;have hx:x∈r:=hs x (by simp);have ih:=HR (l:=l) (r:=r.erase x) hd.2 (fun y hy=>(List.mem_erase_of_ne (by rintro rfl;exact hd.1 hy)).2 (hs y (by simp[hy])));rw[List.length_erase_of_mem hx]at ih;have:=List.length_pos_of_mem hx;rw[QF5];omega

structure Prs (P:PL)(L:List Pr):Prop where
 nd:(L.map fun y=>(y.t,y.hid)).Nodup
 lt:∀y∈L,y.t<P.progs.length
 pth:∀(i:Nat) (y:Pr),L[i]? = some y→y.path.length≤i
theorem Ld {P:PL}(hP:Own P){L:List Pr}(h:Prs P L):L.length≤128:=by
 have:=HR (r:=(List.range 64).flatMap fun t=>[(t,false),(t,true)]) h.nd (fun x hx=>by
  obtain⟨y,hy,rfl⟩:=QG3.1 hx;have h1:=h.lt y hy;have h2:=hP.l1;rw[List.mem_flatMap];exact⟨y.t,QHf.2 (by omega),by cases y.hid<;>simp⟩)
 rw[QG7]at this;exact QFR this (by decide +kernel)
section
variable {P:PL}(hP:Own P){fm:Int}{g:PG}(hgm:g∈P.progs){p:Pr}
include hP hgm
theorem Ro {L:List Pr}{x:PO}(hx:x∈g.ops)(h:Prs P L)(hp:p.path.length+1≤L.length):Prs P (Jb P fm g p L x):=by
 unfold Jb;split
 ·rename_i hk;split
  ·exact h
  ·rename_i hn;obtain⟨j,gj,hj,ht⟩:=(hP.op g hgm x hx).tgP hk.2;have e:x.target.toNat=j:=by rw[ht];rfl
   refine⟨?_,fun y hy=>?_,fun i y hy=>?_⟩
   ·rw[QHj,List.nodup_append];refine⟨h.nd,by simp,fun a ha b hb=>?_⟩;simp only[QGn,QGK,QHI]at hb;subst hb;rintro rfl;obtain⟨y,hy,he⟩:=QG3.1 ha;refine hn (QHi.2 ⟨y,hy,?_⟩);simp only[Prod.mk.injEq]at he;rw[he.1,he.2,e,ht];cases(p.hid||hid fm g x)<;>simp
   ·rcases QG0.1 hy with hy|hy
    ·exact h.lt y hy
    ·rcases QHI.1 hy with rfl
     show x.target.toNat<_;rw[e];exact(QFS.1 hj).1
   ·by_cases hi:i<L.length
    ·rw[QG8 hi]at hy;exact h.pth i y hy
    ·rw[QG9 (by omega)]at hy;have:i-L.length=0:=by
      have:=(QFS.1 hy).1;simp at this;omega
     rw[this]at hy;simp only[QGL,QGh]at hy;subst hy;show(p.path++[x.num]).length≤i;rw[QGs,QHe];omega
 ·exact h
theorem Rp {L:List Pr}(l:List PO)(hl:∀x∈l,x∈g.ops)(h:Prs P L)(hp:p.path.length+1≤L.length):Prs P (l.foldl (Jb P fm g p) L):=by
 induction l generalizing L with
 |nil=>exact h
 |cons x l ih=>
  rw[List.foldl_cons];refine ih (fun y hy=>hl y (by simp[hy])) (Ro hP hgm (hl x (by simp)) h hp) ?_;have:=D7 (P:=P) (fm:=fm) (g:=g) (p:=p) L x;omega
theorem Le {L:List Pr}(h:Prs P L)(hp:p.path.length+1≤L.length):Prs P (HP P fm g p L):=Rp hP hgm g.ops (fun _ h=>h) h hp
end
theorem Lf {P:PL}{fm:Int}{g:PG}{p:Pr}(L:List Pr):L.length≤(HP P fm g p L).length:=by
 have:=YV (P:=P) (fm:=fm) (g:=g) (p:=p) L g.ops.length;unfold Z2 at this;rw[QHh]at this;exact this.1
theorem u4 (S:SC)(hl:S.msgs.length≤maxLen)(s:List UInt8):Qs Tryz.prog 4 [S.av,.str s] (.tup [QY ((S.msgs.find? fun m=>m.name==s).getD MM),.bool (S.msgs.find? fun m=>m.name==s).isSome]):=by
 let I:Nat→St→Prop:=fun k st=>∃f fr i,st=⟨f,[fr],[]⟩∧k=S.msgs.length-i∧(S.msgs.find? fun g:SM=>g.name==s)=((S.msgs.drop i).find? fun g:SM=>g.name==s)∧f 1=.str s∧f 2=.ptr 0 2 0∧f 4=.ptr 0 4 0∧f 6=.int .i64 (i:Nat)∧
  fr 2=.cells [.list (S.msgs.map fun n=>.agg n.cells),.list (S.enums.map fun n=>.agg n.cells),.list (S.servs.map fun n=>.agg n.cells)]∧∃a b c d e,fr 4=.cells [a,b,c,d,e]
 refine k4.fn (by simp) ?_;simp only[SC.av,eE,seval];refine Qd I _ ⟨_,_,0,rfl,rfl,rfl,(by rfl),(by rfl),(by rfl),(by rfl),(by rfl),⟨_,_,_,_,_,rfl⟩⟩ ?_;rintro _ st ⟨f,fr,i,rfl,rfl,hy,h1,h2,h4,h6,m2,a,b,c,d,e,m4⟩;simp only[QG7,h2,h6,m2,eE,seval];by_cases hlt:i<S.msgs.length
 ·obtain⟨x,hi⟩:∃x,S.msgs[i]? = some x:=⟨S.msgs[i],QFT hlt⟩;have hg:(S.msgs.map fun n=>AV.agg n.cells)[i]? = some (.agg x.cells):=by rw[QG5,hi];rfl
  have e1:=Qo i _ hlt hl;rw[Xz]at hg;rw[MG _ hi]at hy;simp only[QC hlt,Qi,QHa,Qc,hg,h1,h2,h6,m2,QB,eE,seval];cases hp:(x.name==s)
  ·rw[hp]at hy;simp only[QF9,if_false]at hy;simp only[h6,e1,Qa,seval];exact⟨S.msgs.length-(i+1),by omega,_,_,i+1,rfl,rfl,hy,(by exact h1),(by exact h2),(by exact h4),(by rfl),m2,_,_,_,_,_,m4⟩
  ·rw[hp]at hy;simp only[if_true]at hy;simp only[hy,QGU,QHu,QY,Xz x,Qi,QHa,Qc,hg,h2,h4,h6,m2,m4,eE,seval]
 ·have hy':(S.msgs.find? fun g:SM=>g.name==s)=none:=by rw[hy,QGr (by omega)];rfl
  simp only[QG hlt,hy',QHg,QGC,MM,QY,Xz,QGK,h4,m4,eE,seval]

end Go.Proofs.YtnpajgoobomndaaGreatDoor.Va

namespace Go.Proofs.YtnpajgoobomndaaGreatDoor.Rc
open Go Am
def QoV:IL:=[jg 2 2 0,jf 4]
def QoW:IL:=[je 8 3 2,ja 9 1,jx 10 4 8 9,ja 7 10,jt 11 7 0,jt 12 7 1,zf 5 5,jh 5 5 11,ja 6 12]
def QoX:IL:=[je 13 3 2,ju 14 5 13,jy 15 14,ja 16 15,jv 17 6 16,yt 18 17 16,jo 19 16 18]
def Rq:IL:=[⟨some 20,.call (.f 6) [],none⟩,ja 4 20]
def QoY:IL:=[je 21 3 2,je 22 3 2,ja 23 1,⟨some 24,.call (.f 7) [(.t 21),(.t 22),(.t 23),(.c (.int .i64 1))],none⟩,ja 25 24,zb 26 3 2 25,zb 27 3 2 25,jj 28 1 25,⟨some 29,.call (.f 7) [(.t 26),(.t 27),(.t 28),(.c (.int .i64 2))],(some (25,true))⟩,ji 30 25 29,ja 31 30,zb 32 3 2 31,zb 33 3 2 31,jj 34 1 31,⟨some 35,.call (.f 7) [(.t 32),(.t 33),(.t 34),(.c (.int .i64 4))],(some (31,true))⟩,ji 36 31 35,ja 37 36,⟨some 38,.call (.f 6) [],(some (37,true))⟩,ji 39 37 38,ja 4 39]
def r3:RC:=jQ QoV (jQ QoW (.seq (jQ QoX (.cond (.t 19) (jQ Rq (.ret)) (.skip))) (jQ QoY (.ret))))
def o3:List RR:=[.tmp 4]
theorem k3:CT 3 40 r3 o3:=ck Tryz.func3 Tryz.ntmps3 (by decide +kernel)
def QoZ:IL:=[jg 1 1 0,jf 2]
def Qo0:IL:=[jb 3 0 1,jc 4 3,jk 5 1 4,Ut 6 5 8,ja 7 6,jl 8 1 1 7,jq 9 8 7,ye 10 1 9 7,yq 11 10 8 7,ji 12 7 11,ja 13 12,jl 14 2 1 13,jq 15 14 13,ye 16 1 15 13,yq 17 16 8 13,ji 18 13 17,ja 19 18,zb 20 3 1 19,zk 21 8 20 19,ji 22 19 21,ja 2 22]
def r5:RC:=jQ QoZ (jQ Qo0 (.ret))
def o5:List RR:=[.tmp 2]
theorem k5:CT 5 23 r5 o5:=ck Tryz.func5 Tryz.ntmps5 (by decide +kernel)
end Go.Proofs.YtnpajgoobomndaaGreatDoor.Rc

namespace Go.Proofs.YtnpajgoobomndaaGreatDoor.Ev
open Go Am Rc

theorem M6:LR XC tab 6000 6 []=true:=by decide +kernel

theorem YW:Qs Tryz.prog 6 [] (.bool true):=Na JG DU M6

end Go.Proofs.YtnpajgoobomndaaGreatDoor.Ev

namespace Go.Proofs.YtnpajgoobomndaaGreatDoor.Va
open Go Am Rc Bt Br Up So

theorem v24 {fm:Int}(hf:Fm fm):Qs Tryz.prog 24 [.int .i64 fm] (.bool true):=by
 refine k24.fn (by simp) ?_;simp only[Qa,seval];rcases hf with rfl|rfl|rfl<;>simp only[seval,Qa]

section
variable {M:Nat}(hM:M≤1048576)(S:SC)(hS:S.ok M)(h8:S.msgs.length≤8∧S.enums.length≤8∧S.servs.length≤8)(hv:ZO S=true)(fm:Int)(hf:Fm fm)(s:List UInt8)(a:Nat)(ha:QS (fun g:PG=>g.name==s) (X5 S).progs 0=(a:Int))
include hM hS h8 hv hf ha

theorem v13 (F:Nat→Ob)(hF:F 1000=.none):Qn Tryz.prog 13 [S.av,S.av,.str s,.int .i64 fm] [F] fun y m1=>y=.tup [jav (X5 S) fm,.agg [.int .i64 (a:Nat),.int .i64 (a:Nat),.list [],.bool false],.vec 0 1000 1 0 0 false]∧m1=[Qp F 1000 (.vec 1 4 [])]:=by
 have hmk:=s25 hM S hS h8;rw[mkR,QFY hv]at hmk;have hfd:=y26 (X5 S) (by have:=h8.1;unfold X5;simp only[QG7,maxLen];omega) s;have e1:AA s (X5 S).progs=.tup [.int .i64 (a:Nat),.bool true]:=by
  unfold AA;rw[ha,QFX (by omega),QHA (by omega)]
 have eP:(X5 S).av=.agg [.list ((X5 S).progs.map QV),.list ((X5 S).enums.map Q6)]:=rfl;rw[e1]at hfd;rw[eP]at hmk hfd;simp only[SC.av]at hmk;refine k13.go (by simp) ?_;simp only[SC.av,eE,seval];refine aC (v24 hf) ?_;simp only[QHq,eE,seval];refine aC hmk ?_;simp only[eE,seval];refine aC hmk ?_;simp only[eE,seval];refine aC hfd ?_;simp only[eE,seval];refine aC hfd ?_;simp only[QHq,eE,seval];refine KS rfl rfl ?_;refine PA (fr:=_) rfl rfl (by simp) (by decide) (by simp only[Am.Qe,hF];rfl) ?_;have hng:Qy [F] 0 1000=1:=by rw[Vg,hF];rfl
 simp only[hng,jav,QGN,eE,seval]

theorem v11:Qs Tryz.prog 11 [S.av,S.av,.str s,.int .i64 fm] (.tup [.agg [.str [],.int .i64 0,.int .i64 0,.list []],.bool false]):=by
 have hP:=QoQ (QwP hv);have hbg:=v13 hM S hS h8 hv fm hf s a ha;generalize hPe:X5 S=P at *;have hat:a<P.progs.length:=by
  rcases Xo (fun g:PG=>g.name==s) P.progs 0 with⟨h,_⟩|⟨k,o,h,ho,_⟩
  ·rw[h]at ha;omega
  ·have:=(QFS.1 ho).1;omega
 simp only[SC.av,jav]at hbg;refine k11.fn (by simp) ?_;simp only[SC.av,eE,seval];refine Qb (hbg _ rfl) (by simp only[QGn,QGK,Qa,seval]<;>rfl) ?_;simp only[seval,eE];refine B9 (l:=[.int .i64 (a:Nat),.int .i64 (a:Nat),.list [],.bool false]) (by rfl) rfl (by decide) rfl rfl rfl ?_;simp only[nn0,QGn,QGK,Qa,seval]
 let Z:List AV:=[.str [],.int .i64 0,.int .i64 0,.nils]
 let I:Nat→St→Prop:=fun n st=>∃f fr i L G,st=⟨f,[fr],[]⟩∧n=129-i∧i≤L.length∧Prs P L∧1≤L.length∧Hd f [(8,.ptr 0 8 0),(9,.bool false),(10,.ptr 0 10 0),(13,.ptr 0 13 0),(14,.bool false)]∧f 15=.vec 0 35 G 0 L.length false∧f 16=.int .i64 (i:Nat)∧
  fr 8=.cells Z∧fr 13=.cells Z∧fr 10=.cells [.list (P.progs.map QV),.list (P.enums.map Q6),.list (P.progs.map QV),.list (P.enums.map Q6),.int .i64 fm]∧fr 35=.vec G 4 (L.map Pr.av)∧∀s∈[18],(fr s).isRow=false
 refine Qd I _ ⟨_,_,0,[⟨a,[],false⟩],1,rfl,rfl,QFZ _,⟨by simp,fun y hy=>by rcases QHI.1 hy with rfl;exact hat,fun i y hy=>by cases i with|zero=>simp only[QGL,QGh]at hy;subst hy;exact QFQ _|succ i=>simp at hy⟩,by simp,by simp only[Hd,QGN,Qa,seval],(by rfl),(by rfl),(by rfl),(by rfl),(by rfl),(by rfl),by intro s hs;simp only[QG2,QHG,or_false]at hs;subst hs;rfl⟩ ?_;rintro _ st ⟨f0,fr0,i,L,G,rfl,rfl,hi,hL,hL1,⟨h80,h90,h100,h130,h140,-⟩,h150,h160,Js,Ny,GV,oR0,r0⟩;refine Qz (a:=_) [18] r0 ?_;intro f fr hff hmm hn;have h8':f 8=.ptr 0 8 0:=by rw[hff,h80]<;>rfl
 have h9:f 9=.bool false:=by rw[hff,h90]<;>rfl
 have h10:f 10=.ptr 0 10 0:=by rw[hff,h100]<;>rfl
 have h13:f 13=.ptr 0 13 0:=by rw[hff,h130]<;>rfl
 have h14:f 14=.bool false:=by rw[hff,h140]<;>rfl
 have h15:f 15=.vec 0 35 G 0 L.length false:=by rw[hff,h150]<;>rfl
 have h16:f 16=.int .i64 (i:Nat):=by rw[hff,h160]<;>rfl
 have o8:fr 8=.cells Z:=by rw[hmm 8 (by decide),Js]<;>rfl
 have FN:fr 13=.cells Z:=by rw[hmm 13 (by decide),Ny]<;>rfl
 have Xw:fr 10=.cells [.list (P.progs.map QV),.list (P.enums.map Q6),.list (P.progs.map QV),.list (P.enums.map Q6),.int .i64 fm]:=by rw[hmm 10 (by decide),GV]<;>rfl
 have oR:fr 35=.vec G 4 (L.map Pr.av):=by rw[hmm 35 (by decide),oR0]<;>rfl
 have n18:=hn 18 (by decide);clear hff hmm hn h80 h90 h100 h130 h140 h150 h160 Js Ny GV oR0 r0;have hLl:=Ld hP hL;simp only[h15,h16,oR,eE,seval];by_cases hlt:i<L.length
 case neg=>
  simp only[Z]at o8 FN;simp only[QG hlt,h8',h13,h14,o8,FN,eE,seval]
 obtain⟨y,hy⟩:∃y,L[i]? = some y:=⟨L[i],QFT hlt⟩;have hyt:=hL.lt y (QF4 hy);have hyp:=hL.pth i y hy;obtain⟨g,hg⟩:∃g,P.progs[y.t]? = some g:=⟨P.progs[y.t],QFT hyt⟩;have hgm:=QF4 hg;have e1:=Qo i _ hlt (by simp only[maxLen];omega);have c1:=v14 P hP fm hf y g hg;simp only[jav,Pr.av]at c1;have ia:∀(fr':Nat→Ob),fr' 35=.vec G 4 (L.map Pr.av)→Qc [fr'] 4 none (.vec 0 35 G 0 L.length false) (i:Int)=some (.vptr 0 35 G i 0):=by
  intro fr' h;have e:Am.Qe [fr'] 0 35=.vec G 4 (L.map Pr.av):=h;simp only[Qc,e,Qi,if_true,QHa];simp[hlt]
 have il:∀(fr':Nat→Ob),fr' 35=.vec G 4 (L.map Pr.av)→Xc [fr'] (some 4) (.vptr 0 35 G i 0)=some (.agg [.int .i64 (y.t:Nat),.int .i64 (y.t:Nat),.list (y.path.map iv),.bool y.hid]):=by
  intro fr' h;have e:Am.Qe [fr'] 0 35=.vec G 4 (L.map Pr.av):=h;have e2:(L.map Pr.av)[i]? = some y.av:=by rw[QG5,hy];rfl
  simp only[Xc,e,e2,if_true];rfl
 simp only[QC hlt,ia fr oR,il fr oR,h10,h15,h16,Xw,eE,seval];refine aC c1 ?_;simp only[QGV,Qa,seval];refine Qd (fun _ st=>∃f' fr',st=⟨f',[fr'],[]⟩∧Hd f' [(8,.ptr 0 8 0),(9,.bool false),(10,.ptr 0 10 0),(13,.ptr 0 13 0),(14,.bool false),(15,.vec 0 35 G 0 L.length false),(16,.int .i64 (i:Nat)),(48,.int .i64 0),(49,.int .i64 0)]∧fr'=fr) 0 ⟨_,_,rfl,by simp only[Hd,QGN,h8',h9,h10,h13,h14,h15,h16,Qa,seval],rfl⟩ ?_;clear h8' h9 h10 h13 h14 h15 h16;rintro _ st ⟨f0,_,rfl,⟨h80,h90,h100,h130,h140,h150,h160,h480,h490,-⟩,rfl⟩;refine Qz (a:=_) [18] (by intro s hs;simp only[QG2,QHG,or_false]at hs;subst hs;rw[n18];rfl) ?_;intro f fr2 hff hmm hn;have h8':f 8=.ptr 0 8 0:=by rw[hff,h80]<;>rfl
 have h9:f 9=.bool false:=by rw[hff,h90]<;>rfl
 have h10:f 10=.ptr 0 10 0:=by rw[hff,h100]<;>rfl
 have h13:f 13=.ptr 0 13 0:=by rw[hff,h130]<;>rfl
 have h14:f 14=.bool false:=by rw[hff,h140]<;>rfl
 have h15:f 15=.vec 0 35 G 0 L.length false:=by rw[hff,h150]<;>rfl
 have h16:f 16=.int .i64 (i:Nat):=by rw[hff,h160]<;>rfl
 have h48:f 48=.int .i64 0:=by rw[hff,h480]<;>rfl
 have h49:f 49=.int .i64 0:=by rw[hff,h490]<;>rfl
 have p8:fr2 8=.cells Z:=by rw[hmm 8 (by decide),o8]<;>rfl
 have p13:fr2 13=.cells Z:=by rw[hmm 13 (by decide),FN]<;>rfl
 have p10:fr2 10=.cells [.list (P.progs.map QV),.list (P.enums.map Q6),.list (P.progs.map QV),.list (P.enums.map Q6),.int .i64 fm]:=by rw[hmm 10 (by decide),Xw]<;>rfl
 have pR:fr2 35=.vec G 4 (L.map Pr.av):=by rw[hmm 35 (by decide),oR]<;>rfl
 have n18':=hn 18 (by decide);have c2:=v15 P hP fm hf y g hg L G fr2 [] pR (by omega) (by omega);simp only[jav,Pr.av]at c2;simp only[h48,h49,ia fr2 pR,il fr2 pR,h10,h15,h16,p10,seval,eE];refine Qb c2 (by simp only[QGn,QGK,Qa,seval]<;>rfl) ?_;have hfl:=Lf (P:=P) (fm:=fm) (g:=g) (p:=y) L;have hpr:=Le hP (fm:=fm) hgm hL (p:=y) (by omega);generalize HP P fm g y L=L2 at *;simp only[h16,e1,Qa,seval];have q35:W8 L G fr2 L2 35=.vec (G+(L2.length-L.length)) 4 (L2.map Pr.av):=QI _ _ _;have qne:∀i,i≠35→W8 L G fr2 L2 i=fr2 i:=fun i hi=>QN _ _ hi
 exact⟨129-(i+1),by omega,_,_,i+1,L2,G+(L2.length-L.length),rfl,rfl,by omega,hpr,by omega,by simp only[Hd,QGN,h8',h9,h10,h13,h14,Qa,seval],(by rfl),(by rfl),(qne 8 (by decide)).trans p8,(qne 13 (by decide)).trans p13,(qne 10 (by decide)).trans p10,q35,by intro s hs;simp only[QG2,QHG,or_false]at hs;subst hs;rw[qne 18 (by decide),n18'];rfl⟩

theorem v7:Qs Tryz.prog 7 [S.av,S.av,.str s,.int .i64 fm] (.bool true):=by
 have hc:=v11 hM S hS h8 hv fm hf s a ha;simp only[SC.av]at hc;refine k7.fn (by simp) ?_;simp only[SC.av,eE,seval];refine aC hc ?_;simp only[QGR,eE,seval]
end

section
variable {M:Nat}(hM:M≤1048576)(S:SC)(hS:S.ok M)(s:List UInt8)
include hM hS
theorem v5:Qs Tryz.prog 5 [S.av] (.bool (decide ((S.msgs.length:Int)≤8)&&decide ((S.enums.length:Int)≤8)&&decide ((S.servs.length:Int)≤8)&&ZO S)):=by
 refine k5.fn (by simp) ?_;simp only[QoZ,Qo0,r5,o5,SC.av,QG7,eE,seval];cases h1:decide ((S.msgs.length:Int)≤8)
 ·simp only[QHd,Qa,seval]
 cases h2:decide ((S.enums.length:Int)≤8)
 ·simp only[h2,QG7,QHp,QHd,eE,seval]
 cases h3:decide ((S.servs.length:Int)≤8)
 ·simp only[h2,h3,QG7,QHp,QHd,eE,seval]
 simp only[QG4]at h1 h2 h3;have hv:=u8 hM S hS (by omega);simp only[SC.av]at hv;have d1:=QHA h1;have d2:=QHA h2;have d3:=QHA h3;simp only[d2,d3,QG7,QHp,eE,seval];refine aC hv ?_;simp only[Qa,seval]

theorem c3:Qs Tryz.prog 3 [S.av,.str s] (.bool true):=by
 obtain⟨l1,l2,_⟩:=Zw S hS hM;have hm:=u4 S l1 s;have hu:=v5 hM S hS;generalize hm0:(S.msgs.find? fun m=>m.name==s).getD MM=m0 at hm;rw[QY,Xz m0]at hm;simp only[SC.av]at hm hu;refine k3.fn (by simp) ?_;simp only[r3,o3,QoV,QoW,SC.av,eE,seval];refine aC hm ?_;simp only[QoX,eE,seval];refine aC hu ?_;cases hU:decide ((S.msgs.length:Int)≤8)&&decide ((S.enums.length:Int)≤8)&&decide ((S.servs.length:Int)≤8)&&ZO S
 ·simp only[Rq,QGR,Qa,seval];refine aC Ev.YW ?_;simp only[Qa,seval]
 cases hs:(S.msgs.find? fun m=>m.name==s).isSome
 ·simp only[Rq,QHq,QGR,Qa,seval];refine aC Ev.YW ?_;simp only[Qa,seval]
 simp only[QGd,QG4]at hU;obtain⟨hU,hv⟩:=hU;have h8:S.msgs.length≤8∧S.enums.length≤8∧S.servs.length≤8:=by omega
 obtain⟨a,ha⟩:∃a:Nat,QS (fun g:PG=>g.name==s) (X5 S).progs 0=(a:Int):=by
  rcases Xo (fun g:PG=>g.name==s) (X5 S).progs 0 with⟨_,hn⟩|⟨k,o,h,_,_⟩
  ·obtain⟨m,hm⟩:=QGi.1 hs;have h1:=QHy hm;have h2:=QHz hm;have:=QHx.1 hn (ZI S m) (QG3.2 ⟨m,h1,rfl⟩);exact absurd h2 this
  ·exact⟨k,by rw[h,QGf]⟩
 have r1:=v7 hM S hS h8 hv 1 (.inl rfl) s a ha;have r2:=v7 hM S hS h8 hv 2 (.inr (.inl rfl)) s a ha;have r4:=v7 hM S hS h8 hv 4 (.inr (.inr rfl)) s a ha;simp only[SC.av]at r1 r2 r4;simp only[QoY,QHq,eE,seval];refine aC r1 ?_;simp only[eE,seval];refine aC r2 ?_;simp only[eE,seval];refine aC r4 ?_;simp only[Qa,seval];refine aC Ev.YW ?_;simp only[Qa,seval]
end

end Go.Proofs.YtnpajgoobomndaaGreatDoor.Va

namespace Go.Proofs.YtnpajgoobomndaaGreatDoor.Br
open Go Am

theorem K9 (l:List SN):(l.map SN.cells).map Q7=l.map fun n=>.agg n.cells:=by
 rw[QHn];exact QHm fun x _=>KV (by rw[SN.cells,QF5,V.cells_length];omega)
theorem Qo1 (l:List SF):(l.map SF.cells).map Q7=l.map fun n=>.agg n.cells:=by
 rw[QHn];exact QHm fun x _=>KV (by simp only[SF.cells,QGs,QF5,QGV,V.cells_length];omega)

theorem Wa {M:Nat}(hM:M=reachBytes∨M≤1048576){k:Nat}{cs:List AV}(h:Q3 Tryz.prog M k 150 cs):∃x:SN,x.ok M∧cs=x.cells:=by
 obtain⟨k,h⟩:=XI Tryz.underlying150 h;simp only[Q3.HasL]at h;obtain⟨_,_,rfl,h0,a1,_,rfl,h1,rfl⟩:=h;obtain⟨a0,rfl,w0⟩:=XT Tryz.underlying9 h0;obtain⟨v,hv,rfl⟩:=RD hM h1;exact⟨⟨a0,v⟩,⟨w0,hv⟩,by simp[SN.cells]⟩

theorem Rr {M k:Nat}{cs:List AV}(h:Q3 Tryz.prog M k 63 cs):∃(a:Int) (s:List UInt8),(Lit.int .i64 a).wf=true∧s.length≤M∧cs=[.int .i64 a,.str s]:=by
 obtain⟨k,h⟩:=XI Tryz.underlying63 h;simp only[Q3.HasL]at h;obtain⟨_,_,rfl,h0,_,_,rfl,h1,rfl⟩:=h;obtain⟨a0,rfl,w0⟩:=XS Tryz.underlying3 h0;obtain⟨a1,rfl,w1⟩:=XT Tryz.underlying9 h1;exact⟨a0,a1,w0,w1,rfl⟩

theorem M7 {M:Nat}(hM:M=reachBytes∨M≤1048576){k:Nat}{cs:List AV}(h:Q3 Tryz.prog M k 72 cs):∃x:SF,x.ok M∧cs=x.cells:=by
 obtain⟨k,h⟩:=XI Tryz.underlying72 h;simp only[Q3.HasL]at h;obtain⟨_,_,rfl,h0,_,_,rfl,h1,_,_,rfl,h2,_,_,rfl,h3,_,_,rfl,h4,_,_,rfl,h5,_,_,rfl,h6,_,_,rfl,h7,_,_,rfl,h8,rfl⟩:=h;obtain⟨a0,rfl,w0⟩:=XS Tryz.underlying3 h0;obtain⟨a1,rfl,w1⟩:=XT Tryz.underlying9 h1;obtain⟨a2,rfl,w2⟩:=XS Tryz.underlying3 h2;obtain⟨a3,rfl,w3⟩:=XS Tryz.underlying3 h3;obtain⟨a4,s4,w4,u4,rfl⟩:=Rr h4;obtain⟨a5,rfl,w5⟩:=XT Tryz.underlying9 h5;obtain⟨a6,rfl⟩:=GH Tryz.underlying4 h6;obtain⟨v7,w7,rfl⟩:=RD hM h7;obtain⟨k8,l8,rfl,w8,hl8⟩:=Q9 Tryz.underlying30 h8;obtain⟨x8,rfl,o8⟩:=Xg (f:=SN.cells) (ok:=SN.ok M) fun c hc=>Wa hM (hl8 c hc)
 refine⟨⟨a0,a1,a2,a3,a4,s4,a5,a6,v7,x8⟩,⟨w0,w1,w2,w3,w4,u4,w5,w7,by simpa using w8,o8⟩,?_⟩;simp only[SF.cells,K9]
 try simp only[QGb,QGc]
 try rfl

theorem Rs {M:Nat}(hM:M=reachBytes∨M≤1048576){k:Nat}{cs:List AV}(h:Q3 Tryz.prog M k 32 cs):∃x:SM,x.ok M∧cs=x.cells:=by
 obtain⟨k,h⟩:=XI Tryz.underlying32 h;simp only[Q3.HasL]at h;obtain⟨_,_,rfl,h0,_,_,rfl,h1,_,_,rfl,h2,_,_,rfl,h3,_,_,rfl,h4,rfl⟩:=h;obtain⟨a0,rfl,w0⟩:=XT Tryz.underlying9 h0;obtain⟨k1,l1,rfl,w1,hl1⟩:=Q9 Tryz.underlying27 h1;obtain⟨k2,l2,rfl,w2,hl2⟩:=Q9 Tryz.underlying28 h2;obtain⟨k3,l3,rfl,w3,hl3⟩:=Q9 Tryz.underlying29 h3;obtain⟨k4,l4,rfl,w4,hl4⟩:=Q9 Tryz.underlying30 h4;obtain⟨x1,rfl,o1⟩:=Xg (f:=SF.cells) (ok:=SF.ok M) fun c hc=>M7 hM (hl1 c hc)
 obtain⟨x2,rfl,o2⟩:=Xg (f:=PS.cells) (ok:=PS.ok) fun c hc=>GI (hl2 c hc)
 obtain⟨x3,rfl,o3⟩:=Xg (f:=fun s:List UInt8=>[AV.str s]) (ok:=fun s=>s.length≤M) fun c hc=>(XT Tryz.underlying9 (hl3 c hc)).elim fun s h=>⟨s,h.2,h.1⟩
 obtain⟨x4,rfl,o4⟩:=Xg (f:=SN.cells) (ok:=SN.ok M) fun c hc=>Wa hM (hl4 c hc)
 refine⟨⟨a0,x1,x2,x3,x4⟩,⟨w0,by simpa using w1,o1,by simpa using w2,o2,by simpa using w3,o3,by simpa using w4,o4⟩,?_⟩;simp only[SM.cells,K9,Qo1]
 try simp only[QHn,QGb,QGc]
 try rfl

theorem M8 {M:Nat}(hM:M=reachBytes∨M≤1048576){k:Nat}{cs:List AV}(h:Q3 Tryz.prog M k 122 cs):∃x:SI,x.ok M∧cs=x.cells:=by
 obtain⟨k,h⟩:=XI Tryz.underlying122 h;simp only[Q3.HasL]at h;obtain⟨_,_,rfl,h0,_,_,rfl,h1,_,_,rfl,h2,rfl⟩:=h;obtain⟨a0,rfl,w0⟩:=XT Tryz.underlying9 h0;obtain⟨a1,rfl,w1⟩:=XS Tryz.underlying3 h1;obtain⟨k2,l2,rfl,w2,hl2⟩:=Q9 Tryz.underlying30 h2;obtain⟨x2,rfl,o2⟩:=Xg (f:=SN.cells) (ok:=SN.ok M) fun c hc=>Wa hM (hl2 c hc)
 refine⟨⟨a0,a1,x2⟩,⟨w0,w1,by simpa using w2,o2⟩,?_⟩;simp only[SI.cells,K9]
 try simp only[QGb,QGc]
 try rfl

theorem M9 {M:Nat}(hM:M=reachBytes∨M≤1048576){k:Nat}{cs:List AV}(h:Q3 Tryz.prog M k 85 cs):∃x:SE,x.ok M∧cs=x.cells:=by
 obtain⟨k,h⟩:=XI Tryz.underlying85 h;simp only[Q3.HasL]at h;obtain⟨_,_,rfl,h0,_,_,rfl,h1,_,_,rfl,h2,_,_,rfl,h3,_,_,rfl,h4,rfl⟩:=h;obtain⟨a0,rfl,w0⟩:=XT Tryz.underlying9 h0;obtain⟨a1,rfl⟩:=GH Tryz.underlying4 h1;obtain⟨k2,l2,rfl,w2,hl2⟩:=Q9 Tryz.underlying83 h2;obtain⟨k3,l3,rfl,w3,hl3⟩:=Q9 Tryz.underlying28 h3;obtain⟨k4,l4,rfl,w4,hl4⟩:=Q9 Tryz.underlying30 h4;obtain⟨x2,rfl,o2⟩:=Xg (f:=SI.cells) (ok:=SI.ok M) fun c hc=>M8 hM (hl2 c hc)
 obtain⟨x3,rfl,o3⟩:=Xg (f:=PS.cells) (ok:=PS.ok) fun c hc=>GI (hl3 c hc)
 obtain⟨x4,rfl,o4⟩:=Xg (f:=SN.cells) (ok:=SN.ok M) fun c hc=>Wa hM (hl4 c hc)
 refine⟨⟨a0,a1,x2,x3,x4⟩,⟨w0,by simpa using w2,o2,by simpa using w3,o3,by simpa using w4,o4⟩,?_⟩;simp only[SE.cells,K9]
 try simp only[QHn,QGb,QGc]
 try rfl

theorem Rt {M:Nat}(hM:M=reachBytes∨M≤1048576){k:Nat}{cs:List AV}(h:Q3 Tryz.prog M k 124 cs):∃x:SO,x.ok M∧cs=x.cells:=by
 obtain⟨k,h⟩:=XI Tryz.underlying124 h;simp only[Q3.HasL]at h;obtain⟨_,_,rfl,h0,_,_,rfl,h1,_,_,rfl,h2,_,_,rfl,h3,_,_,rfl,h4,rfl⟩:=h;obtain⟨a0,rfl,w0⟩:=XT Tryz.underlying9 h0;obtain⟨a1,rfl,w1⟩:=XT Tryz.underlying9 h1;obtain⟨a2,rfl,w2⟩:=XT Tryz.underlying9 h2;obtain⟨a3,rfl,w3⟩:=XS Tryz.underlying3 h3;obtain⟨k4,l4,rfl,w4,hl4⟩:=Q9 Tryz.underlying30 h4;obtain⟨x4,rfl,o4⟩:=Xg (f:=SN.cells) (ok:=SN.ok M) fun c hc=>Wa hM (hl4 c hc)
 refine⟨⟨a0,a1,a2,a3,x4⟩,⟨w0,w1,w2,w3,by simpa using w4,o4⟩,?_⟩;simp only[SO.cells,K9]
 try simp only[QGb,QGc]
 try rfl

theorem Ru {M:Nat}(hM:M=reachBytes∨M≤1048576){k:Nat}{cs:List AV}(h:Q3 Tryz.prog M k 89 cs):∃x:SQ,x.ok M∧cs=x.cells:=by
 obtain⟨k,h⟩:=XI Tryz.underlying89 h;simp only[Q3.HasL]at h;obtain⟨_,_,rfl,h0,_,_,rfl,h1,_,_,rfl,h2,rfl⟩:=h;obtain⟨a0,rfl,w0⟩:=XT Tryz.underlying9 h0;obtain⟨k1,l1,rfl,w1,hl1⟩:=Q9 Tryz.underlying87 h1;obtain⟨k2,l2,rfl,w2,hl2⟩:=Q9 Tryz.underlying30 h2;obtain⟨x1,rfl,o1⟩:=Xg (f:=SO.cells) (ok:=SO.ok M) fun c hc=>Rt hM (hl1 c hc)
 obtain⟨x2,rfl,o2⟩:=Xg (f:=SN.cells) (ok:=SN.ok M) fun c hc=>Wa hM (hl2 c hc)
 refine⟨⟨a0,x1,x2⟩,⟨w0,by simpa using w1,o1,by simpa using w2,o2⟩,?_⟩;simp only[SQ.cells,K9]
 try simp only[QHn,QGb,QGc]
 try rfl

theorem NJ {M:Nat}(hM:M=reachBytes∨M≤1048576){k:Nat}{cs:List AV}(h:Q3 Tryz.prog M k 26 cs):∃x:SC,x.ok M∧.agg cs=x.av:=by
 obtain⟨k,h⟩:=XI Tryz.underlying26 h;simp only[Q3.HasL]at h;obtain⟨_,_,rfl,h0,_,_,rfl,h1,_,_,rfl,h2,rfl⟩:=h;obtain⟨k2,l2,rfl,w2,hl2⟩:=Q9 Tryz.underlying22 h0;obtain⟨k3,l3,rfl,w3,hl3⟩:=Q9 Tryz.underlying23 h1;obtain⟨k4,l4,rfl,w4,hl4⟩:=Q9 Tryz.underlying24 h2;obtain⟨x2,rfl,o2⟩:=Xg (f:=SM.cells) (ok:=SM.ok M) fun c hc=>Rs hM (hl2 c hc)
 obtain⟨x3,rfl,o3⟩:=Xg (f:=SE.cells) (ok:=SE.ok M) fun c hc=>M9 hM (hl3 c hc)
 obtain⟨x4,rfl,o4⟩:=Xg (f:=SQ.cells) (ok:=SQ.ok M) fun c hc=>Ru hM (hl4 c hc)
 refine⟨⟨x2,x3,x4⟩,⟨by simpa using w2,o2,by simpa using w3,o3,by simpa using w4,o4⟩,?_⟩;simp only[SC.av,QHn,QGb,QGc];rfl

end Go.Proofs.YtnpajgoobomndaaGreatDoor.Br

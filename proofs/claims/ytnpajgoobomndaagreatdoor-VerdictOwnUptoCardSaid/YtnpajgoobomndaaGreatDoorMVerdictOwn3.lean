/- Parts of the proof, in order. -/
import Derived.Test.YtnpajgoobomndaaGreatDoorMVerdictOwn2

set_option linter.unusedSimpArgs false
namespace Go.Proofs.YtnpajgoobomndaaGreatDoor.Va
open Go Am Rc Bt Br Up So

def QY (x:SM):AV:=.agg x.cells
def XY (x:SE):AV:=.agg x.cells
def Xt (x:SF):AV:=.agg x.cells
def ZD (x:SI):AV:=.agg x.cells
def US (x:SN):AV:=.agg x.cells
theorem QJ (x:SF):x.cells=[.int .i64 x.num,.str x.name,.int .i64 x.card,.int .i64 x.key,.int .i64 x.kind,.str x.tname,.str x.union,.bool x.hasd,.int .i64 x.dflt.kd,.int .u64 (x.dflt.bits:Nat),.str x.dflt.text,.list (x.dflt.list.map V.av),.list (x.dflt.pairs.map V.pav),.list (x.dflt.slots.map V.sav),.list (x.dflt.raws.map R.av),.list (x.notes.map fun n=>.agg n.cells)]:=by
 rw[SF.cells,V.eta];rfl
theorem Wt {α:Type}(p:α→Bool):∀l:List α,l.any p=(l.find? p).isSome
 | []=>rfl
 |x :: l=>by
  rw[List.any_cons,List.find?_cons,Wt p l];cases p x<;>rfl

section
variable (L:List SM)(hl:L.length≤maxLen)(p:SM→Bool)(c:Nat)(cs:List AV)(m:Ql)

def JsM (k:Nat)(st:St):Prop :=
 ∃f i,st=⟨f,Qf :: m,[]⟩∧k=L.length-i∧QS p L 0=QS p (L.drop i) i∧f 0=.list (L.map QY)∧f 1=.fn (.func c) [] (AV.shL cs)∧f 7=.int .i64 (L.length:Nat)∧f 8=.int .i64 (i:Nat)

include hl in
theorem Qoz (hc:∀o∈L,Qn Tryz.prog c (QY o :: AV.shL cs) (Qf :: m) fun y m1=>y=.bool (p o)∧m1=Qf :: m) :
  Qn Tryz.prog 105 [.list (L.map QY),.fn (.func c) [] cs] m fun y m1=>y=.int .i64 (QS p L 0)∧m1=m:=by
 refine Qbv.go (by simp) ?_;simp only[QG7,Qa,seval];refine Qd (JsM L p c cs m) _ ⟨_,0,rfl,rfl,rfl,(by rfl),(by rfl),(by rfl),(by rfl)⟩ ?_;rintro _ st ⟨f,i,rfl,rfl,hx,h0,h1,h7,h8⟩;simp only[h7,h8,Qa,seval];by_cases hlt:i<L.length
 ·obtain⟨x,hi⟩:∃x,L[i]? = some x:=⟨L[i],QFT hlt⟩;have hcl:=hc x (QF4 hi);have hg:(L.map QY)[i]? = some (QY x):=by simp[hi]
  have e1:=Qo i _ hlt hl;simp only[QY,SM.cells]at hcl;simp only[QC hlt,Qi,QHa,Qc,hg,QY,SM.cells,h0,h1,h8,eE,seval];refine XZ (fa:=[]) (fb:=AV.shL cs) (by rfl) hcl (by simp only[QGn,QGK,QGc,QGb,Qa,seval]) ?_;rw[XW p hi]at hx;cases hp:p x
  ·rw[hp]at hx;simp only[QF9,if_false]at hx;simp only[h8,e1,Qa,seval];exact⟨L.length-(i+1),by omega,_,i+1,rfl,rfl,hx,(by exact h0),(by exact h1),(by exact h7),(by rfl)⟩
  ·rw[hp]at hx;simp only[if_true]at hx;simp only[hx,Qa,seval]
 ·have hx':QS p L 0 = -1:=by rw[hx,QGr (by omega)];rfl
  simp only[QG hlt,hx',Qa,seval]

end

section
variable (L:List SE)(hl:L.length≤maxLen)(p:SE→Bool)(c:Nat)(cs:List AV)(m:Ql)

def JsE (k:Nat)(st:St):Prop :=
 ∃f i,st=⟨f,Qf :: m,[]⟩∧k=L.length-i∧QS p L 0=QS p (L.drop i) i∧f 0=.list (L.map XY)∧f 1=.fn (.func c) [] (AV.shL cs)∧f 7=.int .i64 (L.length:Nat)∧f 8=.int .i64 (i:Nat)

include hl in
theorem QoA (hc:∀o∈L,Qn Tryz.prog c (XY o :: AV.shL cs) (Qf :: m) fun y m1=>y=.bool (p o)∧m1=Qf :: m) :
  Qn Tryz.prog 107 [.list (L.map XY),.fn (.func c) [] cs] m fun y m1=>y=.int .i64 (QS p L 0)∧m1=m:=by
 refine QbM.go (by simp) ?_;simp only[QG7,Qa,seval];refine Qd (JsE L p c cs m) _ ⟨_,0,rfl,rfl,rfl,(by rfl),(by rfl),(by rfl),(by rfl)⟩ ?_;rintro _ st ⟨f,i,rfl,rfl,hx,h0,h1,h7,h8⟩;simp only[h7,h8,Qa,seval];by_cases hlt:i<L.length
 ·obtain⟨x,hi⟩:∃x,L[i]? = some x:=⟨L[i],QFT hlt⟩;have hcl:=hc x (QF4 hi);have hg:(L.map XY)[i]? = some (XY x):=by simp[hi]
  have e1:=Qo i _ hlt hl;simp only[XY,SE.cells]at hcl;simp only[QC hlt,Qi,QHa,Qc,hg,XY,SE.cells,h0,h1,h8,eE,seval];refine XZ (fa:=[]) (fb:=AV.shL cs) (by rfl) hcl (by simp only[QGn,QGK,QGc,QGb,Qa,seval]) ?_;rw[XW p hi]at hx;cases hp:p x
  ·rw[hp]at hx;simp only[QF9,if_false]at hx;simp only[h8,e1,Qa,seval];exact⟨L.length-(i+1),by omega,_,i+1,rfl,rfl,hx,(by exact h0),(by exact h1),(by exact h7),(by rfl)⟩
  ·rw[hp]at hx;simp only[if_true]at hx;simp only[hx,Qa,seval]
 ·have hx':QS p L 0 = -1:=by rw[hx,QGr (by omega)];rfl
  simp only[QG hlt,hx',Qa,seval]

end

section
variable (L:List SF)(hl:L.length≤maxLen)(p:SF→Bool)(c:Nat)(cs:List AV)(m:Ql)

def JsF (k:Nat)(st:St):Prop :=
 ∃f i,st=⟨f,Qf :: m,[]⟩∧k=L.length-i∧QS p L 0=QS p (L.drop i) i∧f 0=.list (L.map Xt)∧f 1=.fn (.func c) [] (AV.shL cs)∧f 7=.int .i64 (L.length:Nat)∧f 8=.int .i64 (i:Nat)

include hl in
theorem QAZ (hc:∀o∈L,Qn Tryz.prog c (Xt o :: AV.shL cs) (Qf :: m) fun y m1=>y=.bool (p o)∧m1=Qf :: m) :
  Qn Tryz.prog 183 [.list (L.map Xt),.fn (.func c) [] cs] m fun y m1=>y=.int .i64 (QS p L 0)∧m1=m:=by
 refine QkN.go (by simp) ?_;simp only[QG7,Qa,seval];refine Qd (JsF L p c cs m) _ ⟨_,0,rfl,rfl,rfl,(by rfl),(by rfl),(by rfl),(by rfl)⟩ ?_;rintro _ st ⟨f,i,rfl,rfl,hx,h0,h1,h7,h8⟩;simp only[h7,h8,Qa,seval];by_cases hlt:i<L.length
 ·obtain⟨x,hi⟩:∃x,L[i]? = some x:=⟨L[i],QFT hlt⟩;have hcl:=hc x (QF4 hi);have hg:(L.map Xt)[i]? = some (Xt x):=by simp[hi]
  have e1:=Qo i _ hlt hl;simp only[Xt,QJ]at hcl;simp only[QC hlt,Qi,QHa,Qc,hg,Xt,QJ,h0,h1,h8,eE,seval];refine XZ (fa:=[]) (fb:=AV.shL cs) (by rfl) hcl (by simp only[QGn,QGK,QGc,QGb,Qa,seval]) ?_;rw[XW p hi]at hx;cases hp:p x
  ·rw[hp]at hx;simp only[QF9,if_false]at hx;simp only[h8,e1,Qa,seval];exact⟨L.length-(i+1),by omega,_,i+1,rfl,rfl,hx,(by exact h0),(by exact h1),(by exact h7),(by rfl)⟩
  ·rw[hp]at hx;simp only[if_true]at hx;simp only[hx,Qa,seval]
 ·have hx':QS p L 0 = -1:=by rw[hx,QGr (by omega)];rfl
  simp only[QG hlt,hx',Qa,seval]

include hl in
theorem Rg (hc:∀o∈L,Qn Tryz.prog c (Xt o :: AV.shL (AV.shL cs)) (Qf :: Qf :: m) fun y m1=>y=.bool (p o)∧m1=Qf :: Qf :: m) :
  Qn Tryz.prog 167 [.list (L.map Xt),.fn (.func c) [] cs] m fun y m1=>y=.bool (L.any p)∧m1=m:=by
 refine QiF.go (by simp) ?_;simp only[Qa,seval];refine Qb (QAZ L hl p c (AV.shL cs) _ hc) (by simp only[QGn,QGK,Qa,seval]<;>rfl) ?_;simp only[Kw,Qa,seval]

end

section
variable (L:List SI)(hl:L.length≤maxLen)(p:SI→Bool)(c:Nat)(cs:List AV)(m:Ql)

def JsI (k:Nat)(st:St):Prop :=
 ∃f i,st=⟨f,Qf :: m,[]⟩∧k=L.length-i∧QS p L 0=QS p (L.drop i) i∧f 0=.list (L.map ZD)∧f 1=.fn (.func c) [] (AV.shL cs)∧f 7=.int .i64 (L.length:Nat)∧f 8=.int .i64 (i:Nat)

include hl in
theorem QA0 (hc:∀o∈L,Qn Tryz.prog c (ZD o :: AV.shL cs) (Qf :: m) fun y m1=>y=.bool (p o)∧m1=Qf :: m) :
  Qn Tryz.prog 177 [.list (L.map ZD),.fn (.func c) [] cs] m fun y m1=>y=.int .i64 (QS p L 0)∧m1=m:=by
 refine QjO.go (by simp) ?_;simp only[QG7,Qa,seval];refine Qd (JsI L p c cs m) _ ⟨_,0,rfl,rfl,rfl,(by rfl),(by rfl),(by rfl),(by rfl)⟩ ?_;rintro _ st ⟨f,i,rfl,rfl,hx,h0,h1,h7,h8⟩;simp only[h7,h8,Qa,seval];by_cases hlt:i<L.length
 ·obtain⟨x,hi⟩:∃x,L[i]? = some x:=⟨L[i],QFT hlt⟩;have hcl:=hc x (QF4 hi);have hg:(L.map ZD)[i]? = some (ZD x):=by simp[hi]
  have e1:=Qo i _ hlt hl;simp only[ZD,SI.cells]at hcl;simp only[QC hlt,Qi,QHa,Qc,hg,ZD,SI.cells,h0,h1,h8,eE,seval];refine XZ (fa:=[]) (fb:=AV.shL cs) (by rfl) hcl (by simp only[QGn,QGK,QGc,QGb,Qa,seval]) ?_;rw[XW p hi]at hx;cases hp:p x
  ·rw[hp]at hx;simp only[QF9,if_false]at hx;simp only[h8,e1,Qa,seval];exact⟨L.length-(i+1),by omega,_,i+1,rfl,rfl,hx,(by exact h0),(by exact h1),(by exact h7),(by rfl)⟩
  ·rw[hp]at hx;simp only[if_true]at hx;simp only[hx,Qa,seval]
 ·have hx':QS p L 0 = -1:=by rw[hx,QGr (by omega)];rfl
  simp only[QG hlt,hx',Qa,seval]

include hl in
theorem QoB (hc:∀o∈L,Qn Tryz.prog c (ZD o :: AV.shL (AV.shL cs)) (Qf :: Qf :: m) fun y m1=>y=.bool (p o)∧m1=Qf :: Qf :: m) :
  Qn Tryz.prog 157 [.list (L.map ZD),.fn (.func c) [] cs] m fun y m1=>y=.bool (L.any p)∧m1=m:=by
 refine Qht.go (by simp) ?_;simp only[Qa,seval];refine Qb (QA0 L hl p c (AV.shL cs) _ hc) (by simp only[QGn,QGK,Qa,seval]<;>rfl) ?_;simp only[Kw,Qa,seval]

end

section
variable (L:List SN)(hl:L.length≤maxLen)(p:SN→Bool)(c:Nat)(cs:List AV)(m:Ql)

def JsN (k:Nat)(st:St):Prop :=
 ∃f i,st=⟨f,Qf :: m,[]⟩∧k=L.length-i∧QS p L 0=QS p (L.drop i) i∧f 0=.list (L.map US)∧f 1=.fn (.func c) [] (AV.shL cs)∧f 7=.int .i64 (L.length:Nat)∧f 8=.int .i64 (i:Nat)

include hl in
theorem QA1 (hc:∀o∈L,Qn Tryz.prog c (US o :: AV.shL cs) (Qf :: m) fun y m1=>y=.bool (p o)∧m1=Qf :: m) :
  Qn Tryz.prog 132 [.list (L.map US),.fn (.func c) [] cs] m fun y m1=>y=.int .i64 (QS p L 0)∧m1=m:=by
 refine Qed.go (by simp) ?_;simp only[QG7,Qa,seval];refine Qd (JsN L p c cs m) _ ⟨_,0,rfl,rfl,rfl,(by rfl),(by rfl),(by rfl),(by rfl)⟩ ?_;rintro _ st ⟨f,i,rfl,rfl,hx,h0,h1,h7,h8⟩;simp only[h7,h8,Qa,seval];by_cases hlt:i<L.length
 ·obtain⟨x,hi⟩:∃x,L[i]? = some x:=⟨L[i],QFT hlt⟩;have hcl:=hc x (QF4 hi);have hg:(L.map US)[i]? = some (US x):=by simp[hi]
  have e1:=Qo i _ hlt hl;simp only[US,Yx]at hcl;simp only[QC hlt,Qi,QHa,Qc,hg,US,Yx,h0,h1,h8,eE,seval];refine XZ (fa:=[]) (fb:=AV.shL cs) (by rfl) hcl (by simp only[QGn,QGK,QGc,QGb,Qa,seval]) ?_;rw[XW p hi]at hx;cases hp:p x
  ·rw[hp]at hx;simp only[QF9,if_false]at hx;simp only[h8,e1,Qa,seval];exact⟨L.length-(i+1),by omega,_,i+1,rfl,rfl,hx,(by exact h0),(by exact h1),(by exact h7),(by rfl)⟩
  ·rw[hp]at hx;simp only[if_true]at hx;simp only[hx,Qa,seval]
 ·have hx':QS p L 0 = -1:=by rw[hx,QGr (by omega)];rfl
  simp only[QG hlt,hx',Qa,seval]

end

theorem Kz (n:Nat):(((n:Nat):Int)==0)=(n==0):=QGE.2 (by simp only[QGe];omega)
theorem I5 (a b:Nat):(((a:Nat):Int) != ((b:Nat):Int))=!decide (a=b):=by
 show(!(((a:Nat):Int)==((b:Nat):Int)))=_;congr 1
 exact QGE.2 (by simp only[QGe,QG4];omega)
def MM:SM:=⟨[],[],[],[],[]⟩
def SE0:SE:=⟨[],false,[],[],[]⟩

theorem QA2 (o:SM)(fr:Nat→Ob)(n:List UInt8)(hf:fr 3=.cells [.str n]):Qn Tryz.prog 143 [QY o,.ptr 1 3 0] [Qf,fr] fun y m1=>y=.bool (o.name==n)∧m1=[Qf,fr]:=by
 refine Qfn.go (by simp) ?_;simp only[hf,QY,SM.cells,QB,eE,seval]

theorem Hl (S:SC)(hl:S.msgs.length≤maxLen)(n:List UInt8):Qs Tryz.prog 119 [S.av,.str n] (.tup [QY ((S.msgs.find? fun m=>m.name==n).getD MM),.bool (QW S n)]):=by
 have e:QW S n=(S.msgs.find? fun m=>m.name==n).isSome:=Wt _ _;refine Qdc.fn (by simp) ?_;simp only[SC.av,eE,seval];refine Qb (Qoz S.msgs hl (fun m=>m.name==n) 143 [.ptr 0 3 0] _ fun o _=>QA2 o _ n (by rfl)) (by simp only[QGn,QGK,Qa,seval]<;>rfl) ?_;rcases Xo (fun m:SM=>m.name==n) S.msgs 0 with⟨h1,h2⟩|⟨j,o,h1,h2,h3⟩
 ·simp only[h1,e,h2,QHg,QGC,MM,QY,SM.cells,QGK,eE,seval]
 ·have hj:(S.msgs.map fun o=>AV.agg o.cells)[j]? = some (.agg o.cells):=by simp[h2]
  have d:decide ((j:Int)<0)=false:=QHt (by omega);rw[QGf]at h1;simp only[SM.cells]at hj;simp only[h1,d,Qi,QHa,Qc,QGf,hj,e,h3,QGU,QHu,QY,SM.cells,eE,seval]

theorem QA3 (o:SE)(fr:Nat→Ob)(n:List UInt8)(hf:fr 3=.cells [.str n]):Qn Tryz.prog 184 [XY o,.ptr 1 3 0] [Qf,fr] fun y m1=>y=.bool (o.name==n)∧m1=[Qf,fr]:=by
 refine QkS.go (by simp) ?_;simp only[hf,XY,SE.cells,QB,eE,seval]

theorem QoC (S:SC)(hl:S.enums.length≤maxLen)(n:List UInt8):Qs Tryz.prog 169 [S.av,.str n] (.tup [XY ((S.enums.find? fun m=>m.name==n).getD SE0),.bool (Hc S n)]):=by
 have e:Hc S n=(S.enums.find? fun m=>m.name==n).isSome:=Wt _ _;refine QiN.fn (by simp) ?_;simp only[SC.av,eE,seval];refine Qb (QoA S.enums hl (fun m=>m.name==n) 184 [.ptr 0 3 0] _ fun o _=>QA3 o _ n (by rfl)) (by simp only[QGn,QGK,Qa,seval]<;>rfl) ?_;rcases Xo (fun m:SE=>m.name==n) S.enums 0 with⟨h1,h2⟩|⟨j,o,h1,h2,h3⟩
 ·simp only[h1,e,h2,QHg,QGC,SE0,XY,SE.cells,QGK,eE,seval]
 ·have hj:(S.enums.map fun o=>AV.agg o.cells)[j]? = some (.agg o.cells):=by simp[h2]
  have d:decide ((j:Int)<0)=false:=QHt (by omega);rw[QGf]at h1;simp only[SE.cells]at hj;simp only[h1,d,Qi,QHa,Qc,QGf,hj,e,h3,QGU,QHu,XY,SE.cells,eE,seval]

theorem QA4 (c k:Int):Qs Tryz.prog 149 [.int .i64 c,.int .i64 k] (.bool (DV c k)):=by
 refine Qf7.fn (by simp) ?_;unfold DV;by_cases h:c=5
 ·have d:(c != 5)=false:=by simp[h]
  rw[QFY h];simp only[d,Qa,seval];cases h1:decide (k≥1)<;>cases h2:decide (k≤7)<;>simp only[h2,QHp,QHd,Qa,seval]
 ·have d:(c != 5)=true:=by simp[h]
  rw[QFX h];simp only[d,Qa,seval]

section
variable {M:Nat}(S:SC)(hS:S.ok M)(hM:M≤1048576)(x:SF)(hx:x.ok M)
include hS hM in
theorem Zw:S.msgs.length≤maxLen∧S.enums.length≤maxLen∧S.servs.length≤maxLen:=by
 have a:=hS.len1;have b:=hS.len2;have c:=hS.len3;simp only[maxLen];omega

include hS hM in
theorem QA5:Qs Tryz.prog 150 [S.av,Xt x] (.bool (Ja S x)):=by
 obtain⟨l1,l2,_⟩:=Zw S hS hM;have hm:=Hl S l1 x.tname;have he:=QoC S l2 x.tname;simp only[QY,SM.cells,SC.av]at hm;simp only[XY,SE.cells,SC.av]at he;refine Qgk.fn (by simp) ?_;unfold Ja;simp only[SC.av,Xt,QJ,eE,seval];by_cases h1:x.kind≥1
 ·have d1:decide (x.kind≥1)=true:=QHA h1;by_cases h2:x.kind≤8
  ·have d2:decide (x.kind≤8)=true:=QHA h2;rw[QFY ⟨h1,h2⟩];simp only[d1,d2,QB,eE,seval]
  ·have d2:decide (x.kind≤8)=false:=QHt h2;rw[QFX fun h=>h2 h.2];by_cases h3:x.kind=9
   ·have d3:(x.kind==9)=true:=by simp[h3]
    rw[QFY h3];simp only[d1,d2,d3,eE,seval];refine aC he ?_;simp only[eE,seval]
   ·have d3:(x.kind==9)=false:=by simp[h3]
    rw[QFX h3];by_cases h4:x.kind=10
    ·have d4:(x.kind==10)=true:=by simp[h4]
     rw[QFY h4];simp only[d1,d2,d3,d4,eE,seval];refine aC hm ?_;cases QW S x.tname<;>simp only[QHp,QHd,eE,seval]
    ·have d4:(x.kind==10)=false:=by simp[h4]
     rw[QFX h4];simp only[d1,d2,d3,d4,eE,seval]
 ·have d1:decide (x.kind≥1)=false:=QHt h1;have d3:(x.kind==9)=false:=by rw[QHC];omega
  have d4:(x.kind==10)=false:=by rw[QHC];omega
  rw[QFX fun h=>h1 h.1,QFX (by omega),QFX (by omega)];simp only[d1,d3,d4,eE,seval]

theorem QA6 (v:V)(hv:v.ok M):Qs Tryz.prog 172 [v.av] (.bool v.zro):=by
 have n1:=hv.nl;have n2:=hv.np;have n3:=hv.ns;have n4:=hv.nr;have w:IntKind.i64.wrap (IntKind.i64.wrap (IntKind.i64.wrap ((v.list.length:Int)+(v.pairs.length:Int))+(v.slots.length:Int))+(v.raws.length:Int))=(v.list.length+v.pairs.length+v.slots.length+v.raws.length:Nat):=by
  simp only[ZM];omega
 have eb:(((v.bits:Nat):Int)==0)=(v.bits==0):=Kz _;have es:(((v.list.length+v.pairs.length+v.slots.length+v.raws.length:Nat):Int)==0)=(v.list.length+v.pairs.length+v.slots.length+v.raws.length==0):=Kz _;refine Qi2.fn (by simp) ?_;unfold V.zro V.av;rw[V.eta];simp only[eE,seval];cases h1:(v.kd==0)
 ·simp only[QHd,Qa,seval]
 cases h2:(v.bits==0)
 ·simp only[h2,eb,QHd,QHp,eE,seval]
 cases h3:(v.text==[])
 ·simp only[h2,h3,eb,QB,QHd,QHp,eE,seval]
 simp only[h2,h3,eb,QB,w,es,QG7,QHp,eE,seval]

theorem QA7 (o:SI)(fr:Nat→Ob)(hf:fr 3=.cells x.cells):Qn Tryz.prog 173 [ZD o,.ptr 2 3 0] [Qf,Qf,fr] fun y m1=>y=.bool (IntKind.u64.wrap o.num==(x.dflt.bits:Int))∧m1=[Qf,Qf,fr]:=by
 rw[QJ]at hf;refine Qi7.go (by simp) ?_;simp only[hf,ZD,SI.cells,eE,seval]

section
variable (k:Int)(b:Nat)(hb:b<18446744073709551616)(t:List UInt8)(l p s r:List AV)
include hb
theorem QA8:Qs Tryz.prog 141 [vo k b t l p s r] (vo k (Ze k b) t l p s r):=by
 refine Qe6.fn (by simp) ?_;simp only[vo,eE,seval];by_cases hk:k=6
 ·have b0:(k==6)=true:=by simp[hk]
  simp only[b0,eE,seval];refine aC (QAU b hb) ?_;simp only[Qof,Qa,seval];by_cases hc:UQ b=0
  ·simp only[hc,Ze,hk,decide_true,QGN,eE,seval]
   try rfl
  ·simp only[hc,Ze,decide_false,and_false,eE,seval]
 ·have b0:(k==6)=false:=by simp[hk]
  simp only[b0,Ze,hk,false_and,eE,seval]
end

include hS hM hx in
theorem QA9:Qs Tryz.prog 152 [S.av,Xt x] (.bool (KI S x)):=by
 obtain⟨l1,l2,_⟩:=Zw S hS hM;have he:=QoC S l2 x.tname;have hv:=hx.dflt;have n1:=hv.nl;have n2:=hv.np;have n3:=hv.ns;have n4:=hv.nr;have hz:=QA6 x.dflt hv;have hb:x.dflt.bits<18446744073709551616:=by have:=LL hv.bits;omega
 have hf:=Qoc x.kind x.dflt.kd x.dflt.bits x.dflt.text (x.dflt.list.map V.av) (x.dflt.pairs.map V.pav) (x.dflt.slots.map V.sav) (x.dflt.raws.map R.av) (by simp;omega) (by simp;omega) (by simp;omega) (by simp;omega);have hn:=QA8 x.dflt.kd x.dflt.bits hb x.dflt.text (x.dflt.list.map V.av) (x.dflt.pairs.map V.pav) (x.dflt.slots.map V.sav) (x.dflt.raws.map R.av);have ef:x.dflt.fitk x.kind=ZN x.kind x.dflt.kd x.dflt.bits x.dflt.text (x.dflt.list.map V.av) (x.dflt.pairs.map V.pav) (x.dflt.slots.map V.sav) (x.dflt.raws.map R.av):=rfl;have en:(((Ze x.dflt.kd x.dflt.bits:Nat):Int) != (x.dflt.bits:Nat))=!decide (Ze x.dflt.kd x.dflt.bits=x.dflt.bits):=I5 _ _;simp only[V.av]at hz;rw[V.eta]at hz;simp only[vo]at hf hn;simp only[XY,SE.cells,SC.av]at he;refine QgH.fn (by simp) ?_;unfold KI;rw[ef];simp only[SC.av,Xt,QJ,eE,seval];cases hd:x.hasd
 ·rw[QFY rfl];simp only[eE,seval];refine aC hz ?_;simp only[Qa,seval]
 rw[QFX (by simp)];by_cases hc:x.card=2
 case neg=>
  have d1:(x.card != 2)=true:=by simp[hc]
  rw[QFX fun h=>hc h.1];simp only[d1,eE,seval]
 have d1:(x.card != 2)=false:=by simp[hc]
 by_cases hu:x.union=[]
 case neg=>
  have d2:(!(x.union==[]))=true:=by simp[hu]
  rw[QFX fun h=>hu h.2.1];simp only[d1,d2,QB,eE,seval]
 have d2:(!(x.union==[]))=false:=by simp[hu]
 simp only[d1,d2,QB,eE,seval];refine aC hf ?_;cases hfv:ZN x.kind x.dflt.kd x.dflt.bits x.dflt.text (x.dflt.list.map V.av) (x.dflt.pairs.map V.pav) (x.dflt.slots.map V.sav) (x.dflt.raws.map R.av)
 ·rw[QFX fun h=>Bool.false_ne_true h.2.2.1];simp only[Qa,seval]
 simp only[eE,seval];refine aC hn ?_;by_cases hnb:Ze x.dflt.kd x.dflt.bits=x.dflt.bits
 case neg=>
  rw[QFX fun h=>hnb h.2.2];simp only[en,hnb,decide_false,QGR,eE,seval]
 rw[QFY ⟨hc,hu,hnb⟩];have en':(((Ze x.dflt.kd x.dflt.bits:Nat):Int) != (x.dflt.bits:Nat))=false:=by rw[en,QHA hnb];rfl
 by_cases h9:x.kind=9
 case neg=>
  have d9:(x.kind != 9)=true:=by simp[h9]
  rw[QFX h9];simp only[en',d9,eE,seval]
 have d9:(x.kind != 9)=false:=by simp[h9]
 rw[QFY h9];simp only[en',d9,eE,seval];refine aC he ?_;have eh:Hc S x.tname=(S.enums.find? fun e=>e.name==x.tname).isSome:=Wt _ _;cases hq:S.enums.find? fun e=>e.name==x.tname with
 |none=>
  rw[hq]at eh;simp only[eh,QGC,QHg,eE,seval]
 |some e=>
  rw[hq]at eh;have hem:=hS.enums e (QHy hq);have hlm:=hem.len1;simp only[eh,QHu,QGU,eE,seval];refine Qb (QoB e.items (by simp only[maxLen];omega) (fun it=>IntKind.u64.wrap it.num==(x.dflt.bits:Int)) 173 [.ptr 0 3 0] _ fun o _=>QA7 x o _ (by rw[QJ,hd];exact(by rfl))) (by simp only[QGn,QGK,Qa,seval]<;>rfl) ?_;simp only[Qa,seval]

theorem NE (s:List UInt8):Qs Tryz.prog 128 [.str s] (.bool (Xb s)):=by
 refine QdW.fn (by simp) ?_;simp only[Xb,Qa,seval];refine aC (Qn3 s) ?_;cases QZ s
 ·simp only[QHd,Qa,seval]
 ·simp only[QHp,Qa,seval];refine aC (QAy s) ?_;simp only[Qa,seval]

theorem Rh (s:List UInt8)(hs:s.length≤17592186044000):Qs Tryz.prog 122 [.str s] (.bool (Xp s)):=by
 have hl:=WY s;have hc:s.count 46≤s.length:=List.count_le_length;refine QdA.fn (by simp) ?_;simp only[Xp,Qa,seval];refine aC (QAE s hs) ?_;cases hf:(decide (s.length≤120)&&(Qg s).all QZ)
 ·simp only[QHd,Qa,seval]
 ·simp only[QHp,Qa,seval];refine aC (Qn6 s hs) ?_;simp only[Qa,seval];refine Qb (NB (Qg s) (by simp only[maxLen];omega) Zd 146 [] _ fun o _=>QwJ o _) (by simp only[QGn,QGK,Qa,seval]<;>rfl) ?_;simp only[Qa,seval]
end

section
variable {M:Nat}(hM:M≤1048576)(m:SM)(hm:m.ok M)(i:Nat)(x:SF)(hi:m.fields[i]? = some x)

theorem QBa (o:SF)(fr:Nat→Ob)(hf:fr 5=.cells x.cells):Qn Tryz.prog 170 [Xt o,.ptr 2 5 0] [Qf,Qf,fr] fun y m1=>y=.bool (o.name==x.union)∧m1=[Qf,Qf,fr]:=by
 rw[QJ]at hf;refine QiS.go (by simp) ?_;simp only[hf,Xt,QJ,QB,eE,seval]
theorem QBb (o:SF)(fr:Nat→Ob)(hf:fr 5=.cells x.cells):Qn Tryz.prog 171 [Xt o,.ptr 2 5 0] [Qf,Qf,fr] fun y m1=>y=.bool (o.union==x.union)∧m1=[Qf,Qf,fr]:=by
 rw[QJ]at hf;refine QiX.go (by simp) ?_;simp only[hf,Xt,QJ,QB,eE,seval]

include hM hm hi in
theorem QBc:Qs Tryz.prog 151 [QY m,.int .i64 (i:Nat)] (.bool (ZW m i)):=by
 have hlt:i<m.fields.length:=(QFS.1 hi).1;have hl1:=hm.len1;have hlm:m.fields.length≤maxLen:=by simp only[maxLen];omega
 have hg:(m.fields.map fun n=>AV.agg n.cells)[i]? = some (.agg x.cells):=by simp[hi]
 have hg':=hg;rw[QJ]at hg';have ht:(m.fields.map fun n=>AV.agg n.cells).take i=(m.fields.take i).map Xt:=by rw[List.map_take];rfl
 have hsl:i≤(m.fields.map fun n=>AV.agg n.cells).length:=by rw[QG7];omega
 unfold ZW;rw[hi];refine Qgv.fn (by simp) ?_;simp only[QY,SM.cells,Qi,QHa,Qc,hg',eE,seval];cases hu:(x.union==[])
 case true=>simp only[hu,QB,QHr,Qa,seval]
 simp only[hu,QB,QHs,eE,seval];by_cases hc:x.card=2
 case neg=>
  have d1:(x.card != 2)=true:=by simp[hc]
  have d2:(x.card==2)=false:=by simp[hc]
  simp only[d1,d2,QHd,Qa,seval]
 have d1:(x.card != 2)=false:=by simp[hc]
 have d2:(x.card==2)=true:=by simp[hc]
 simp only[d1,d2,QHp,eE,seval];refine aC (NE x.union) ?_;cases Xb x.union
 ·simp only[QHd,QGR,Qa,seval]
 simp only[QHp,QHq,eE,seval];refine Qb (Rg m.fields hlm (fun o=>o.name==x.union) 170 [.ptr 0 5 0] _ fun o _=>QBa x o _ (by rw[QJ];exact(by rfl))) (by simp only[QGn,QGK,Qa,seval]<;>rfl) ?_;cases m.fields.any fun o=>o.name==x.union
 case true=>simp only[QHq,QHd,Qa,seval]
 have hle:(i≤m.fields.length)=True:=eq_true (by omega);simp only[QGR,QHp,J0,ZL,Xr,QHg,QG7,Qi,QHa,QFZ,QFQ,hle,true_or,QGH,←List.map_take,eE,seval];refine Qb (Rg (m.fields.take i) (by rw[QGF];omega) (fun o=>o.union==x.union) 171 [.ptr 0 5 0] _ fun o _=>QBb x o _ (by rw[QJ];exact(by rfl))) (by simp only[QGn,QGK,Qa,seval]<;>rfl) ?_;cases he:(m.fields.take i).any fun o=>o.union==x.union
 ·simp only[QGR,QHr,Qa,seval]
 ·cases i with
  |zero=>simp at he
  |succ j=>
   obtain⟨y,hj⟩:∃y,m.fields[j]? = some y:=⟨m.fields[j]'(by omega),QFT (by omega)⟩;have hgj:(m.fields.map fun n=>AV.agg n.cells)[j]? = some (.agg y.cells):=by simp[hj]
   rw[QJ]at hgj;have wj:=JU j _ hlt hlm;simp only[QHq,QHs,wj,Qi,QHa,Qc,hgj,hj,QB,eE,seval]
end

section
variable (m:Ql)(L:List SF)(hl:L.length≤maxLen)(i:Nat)(x:SF)(hi:L[i]? = some x)
theorem QBd (o:SF):Qs Tryz.prog 148 [Xt o] (.str o.name):=by
 refine Qf0.fn (by simp) ?_;simp only[Xt,QJ,eE,seval]
end
section
variable (m:Ql)(L:List SI)(hl:L.length≤maxLen)(i:Nat)(x:SI)(hi:L[i]? = some x)
theorem QBe (o:SI):Qs Tryz.prog 130 [ZD o] (.str o.name):=by
 refine QAk.fn (by simp) ?_;simp only[ZD,SI.cells,eE,seval]
end

section
variable (L:List SF)(hl:L.length≤maxLen)(i:Nat)(x:SF)(hi:L[i]? = some x)(c:Nat)(nm:SF→List UInt8)(hn:∀x,Qs Tryz.prog c [Xt x] (.str (nm x)))
include hi hn in
theorem QBf (y:SF)(fr:Nat→Ob)(m:Ql)(h3:fr 3=.cells [.list (L.map Xt)])(h4:fr 4=.cells [.int .i64 (i:Nat)])(h5:fr 5=.cells [.fn (.func c) [] []]) :
  Qn Tryz.prog 168 [Xt y,.ptr 2 5 0,.ptr 2 3 0,.ptr 2 4 0] (Qf :: Qf :: fr :: m) fun r m1=>r=.bool (nm y==nm x)∧m1=Qf :: Qf :: fr :: m:=by
 have hy:=hn y;have hx:=hn x;have hg:(L.map Xt)[i]? = some (Xt x):=by simp[hi]
 have g3:∀n,AV.shN n (.fn (.func c) [] [])=.fn (.func c) [] []:=fun n=>Gd n c
 simp only[Xt,QJ]at hy hx hg;refine QAq.go (by simp) ?_;simp only[Xt,QJ,h5,g3,eE,seval];refine Kh (fa:=[]) (fb:=[]) (by rfl) hy rfl rfl rfl (.inl rfl) ?_;simp only[h3,h4,h5,g3,Qi,QHa,Qc,hg,eE,seval];refine Kh (fa:=[]) (fb:=[]) (by rfl) hx rfl rfl rfl (.inl rfl) ?_;simp only[QB,Qa,seval]

include hi hn hl in
theorem QBg (m:Ql):Qn Tryz.prog 147 [.list (L.map Xt),.int .i64 (i:Nat),.fn (.func c) [] []] m fun r m1=>r=.bool ((L.take i).any fun y=>nm y==nm x)∧m1=m:=by
 have hlt:i<L.length:=(QFS.1 hi).1;have hle:(i≤L.length)=True:=eq_true (by omega);have g3:∀n,AV.shN n (.fn (.func c) [] [])=.fn (.func c) [] []:=fun n=>Gd n c
 refine QfV.go (by simp) ?_;simp only[J0,ZL,Xr,QHg,QG7,Qi,QHa,QFZ,QFQ,hle,true_or,QGH,←List.map_take,eE,seval];refine Qb (Rg (L.take i) (by rw[QGF];omega) (fun y=>nm y==nm x) 168 [.ptr 0 5 0,.ptr 0 3 0,.ptr 0 4 0] _ fun o _=>QBf L i x hi c nm hn o _ _ (by rfl) (by rfl) (by rfl)) (by simp only[QGn,QGK,Qa,seval]<;>rfl) ?_;simp only[Qa,seval]
end

section
variable (L:List SI)(hl:L.length≤maxLen)(i:Nat)(x:SI)(hi:L[i]? = some x)(c:Nat)(nm:SI→List UInt8)(hn:∀x,Qs Tryz.prog c [ZD x] (.str (nm x)))
include hi hn in
theorem QBh (y:SI)(fr:Nat→Ob)(m:Ql)(h3:fr 3=.cells [.list (L.map ZD)])(h4:fr 4=.cells [.int .i64 (i:Nat)])(h5:fr 5=.cells [.fn (.func c) [] []]) :
  Qn Tryz.prog 158 [ZD y,.ptr 2 5 0,.ptr 2 3 0,.ptr 2 4 0] (Qf :: Qf :: fr :: m) fun r m1=>r=.bool (nm y==nm x)∧m1=Qf :: Qf :: fr :: m:=by
 have hy:=hn y;have hx:=hn x;have hg:(L.map ZD)[i]? = some (ZD x):=by simp[hi]
 have g3:∀n,AV.shN n (.fn (.func c) [] [])=.fn (.func c) [] []:=fun n=>Gd n c
 simp only[ZD,SI.cells]at hy hx hg;refine QAn.go (by simp) ?_;simp only[ZD,SI.cells,h5,g3,eE,seval];refine Kh (fa:=[]) (fb:=[]) (by rfl) hy rfl rfl rfl (.inl rfl) ?_;simp only[h3,h4,h5,g3,Qi,QHa,Qc,hg,eE,seval];refine Kh (fa:=[]) (fb:=[]) (by rfl) hx rfl rfl rfl (.inl rfl) ?_;simp only[QB,Qa,seval]

include hi hn hl in
theorem QBi (m:Ql):Qn Tryz.prog 129 [.list (L.map ZD),.int .i64 (i:Nat),.fn (.func c) [] []] m fun r m1=>r=.bool ((L.take i).any fun y=>nm y==nm x)∧m1=m:=by
 have hlt:i<L.length:=(QFS.1 hi).1;have hle:(i≤L.length)=True:=eq_true (by omega);have g3:∀n,AV.shN n (.fn (.func c) [] [])=.fn (.func c) [] []:=fun n=>Gd n c
 refine QAi.go (by simp) ?_;simp only[J0,ZL,Xr,QHg,QG7,Qi,QHa,QFZ,QFQ,hle,true_or,QGH,←List.map_take,eE,seval];refine Qb (QoB (L.take i) (by rw[QGF];omega) (fun y=>nm y==nm x) 158 [.ptr 0 5 0,.ptr 0 3 0,.ptr 0 4 0] _ fun o _=>QBh L i x hi c nm hn o _ _ (by rfl) (by rfl) (by rfl)) (by simp only[QGn,QGK,Qa,seval]<;>rfl) ?_;simp only[Qa,seval]
end

theorem J4 {P:Program}{its:List Am.Item}{f:Fr}{m:Ql}{ds:List DF}{d l:Nat}{K:St→Prop}{sz bytes el:Nat}{s r:RA}{site g n:Nat}{xs ys:List AV}(hs:s.ev f=.vec l site g 0 n false)(hl:Am.Qe m l site=.vec g sz xs)(ht:Xu site el=true)(hn:n=xs.length)(hr:r.ev f=.list ys)(hz:ys.all (fun e=>e.cells.length==sz)=true)(hm:n+ys.length≤maxLen)(hb:(n+ys.length)*bytes≤140737488355328)
  (h:Qj P its ⟨Qp f d (.vec l site (g+1) 0 (n+ys.length) false),Am.put m l site (.vec (g+1) sz (xs++ys)),ds⟩ K):Qj P (⟨some d,.app sz bytes el s r,none⟩ :: its) ⟨f,m,ds⟩ K:=by
 refine⟨l,site,g,n,xs,ys,hs,hl,ht,by omega,?_,hz,hm,hb,?_⟩
 ·show Xf m (r.ev f)=some ys;rw[hr];rfl
 ·subst hn;rw[QHh];exact h

def Qm (fr:Nat→Ob)(s R:Nat)(d:List UInt8)(n:Int)(l:List PB):Nat→Ob :=
 Qp (Qp fr R (.vec (1+l.length) 3 (l.map PB.av))) s (.cells [.str d,.int .i64 n,.vec 0 R (1+l.length) 0 l.length false])
section
variable (fr:Nat→Ob)(s R:Nat)(d:List UInt8)(n:Int)(l:List PB)(h:R≠s)
theorem Jk:Qm fr s R d n l s=.cells [.str d,.int .i64 n,.vec 0 R (1+l.length) 0 l.length false]:=QI ..
include h in
theorem Ki:Qm fr s R d n l R=.vec (1+l.length) 3 (l.map PB.av):=by rw[Qm,QN _ _ h,QI]
theorem QR {k:Nat}(h1:k≠R)(h2:k≠s):Qm fr s R d n l k=fr k:=by rw[Qm,QN _ _ h2,QN _ _ h1]
theorem K4 (n':Int):Qp (Qm fr s R d n l) s (.cells [.str d,.int .i64 n',.vec 0 R (1+l.length) 0 l.length false])=Qm fr s R d n' l:=by rw[Qm,Z6,Qm]
include h in
theorem Hm (x:PB):Qp (Qp (Qm fr s R d n l) R (.vec (1+l.length+1) 3 (l.map PB.av++[x.av]))) s (.cells [.str d,.int .i64 n,.vec 0 R (1+l.length+1) 0 (l.length+1) false])=Qm fr s R d n (l++[x]):=by
 have e:(l++[x]).length=l.length+1:=by simp
 rw[Qm,Qm,e,QHj,ZT (Qp fr R _) s R _ _ (Ne.symm h),Z6,Z6];rfl
end

section
variable (fr:Nat→Ob)(s R:Nat)(d:List UInt8)(n:Int)(l:List PB)(h:R≠s)(hR:Xu R 111=true)(hl:l.length≤1073741824)(ok:Bool)(e:Int)(m:Ql)
include h hR hl

theorem XB  : Qn Tryz.prog 98 [.ptr 0 s 0,.bool ok,.int .i64 e] ( Qm fr s R d n l :: m) fun x m1=>x=.tup []∧m1 =  Qm fr s R d n (l++pb d n ok e) :: m:=by
 have hs:=Jk fr s R d n l;have hr:=Ki fr s R d n l h;cases ok
 ·refine GU.go (by simp) ?_;simp only[hs,eE,seval];refine XN rfl rfl (by decide) rfl rfl ?_;refine J4 (xs:=l.map PB.av) (by rfl) (by simp only[hr,FC,seval]) hR (by simp) (by rfl) rfl (by simp only[QF5,QGV,maxLen];omega) (by simp only[QF5,QGV];omega) ?_;have hb:(s==R)=false:=QHC.2 (Ne.symm h);have ha:=Hm fr s R d n l h ⟨d,n,e⟩;have ep:pb d n false e=[⟨d,n,e⟩]:=rfl;simp only[PB.av]at ha;simp only[hs,hb,nn0,QGn,QGK,cond_false,eE,seval];simp only[ha,ep,seval]
 ·refine GU.go (by simp) ?_;have ep:pb d n true e=[]:=rfl;simp only[ep,QGM,Qa,seval]

theorem Zx (a:Nat→Ob):Qn Tryz.prog 98 [.ptr 1 s 0,.bool ok,.int .i64 e] (a :: Qm fr s R d n l :: m) fun x m1=>x=.tup []∧m1=a :: Qm fr s R d n (l++pb d n ok e) :: m:=by
 have hs:=Jk fr s R d n l;have hr:=Ki fr s R d n l h;cases ok
 ·refine GU.go (by simp) ?_;simp only[hs,eE,seval];refine XN rfl rfl (by decide) rfl rfl ?_;refine J4 (xs:=l.map PB.av) (by rfl) (by simp only[hr,FC,seval]) hR (by simp) (by rfl) rfl (by simp only[QF5,QGV,maxLen];omega) (by simp only[QF5,QGV];omega) ?_;have hb:(s==R)=false:=QHC.2 (Ne.symm h);have ha:=Hm fr s R d n l h ⟨d,n,e⟩;have ep:pb d n false e=[⟨d,n,e⟩]:=rfl;simp only[PB.av]at ha;simp only[hs,hb,nn0,QGn,QGK,cond_false,eE,seval];simp only[ha,ep,seval]
 ·refine GU.go (by simp) ?_;have ep:pb d n true e=[]:=rfl;simp only[ep,QGM,Qa,seval]

theorem QBj (a b:Nat→Ob):Qn Tryz.prog 98 [.ptr 2 s 0,.bool ok,.int .i64 e] (a :: b :: Qm fr s R d n l :: m) fun x m1=>x=.tup []∧m1=a :: b :: Qm fr s R d n (l++pb d n ok e) :: m:=by
 have hs:=Jk fr s R d n l;have hr:=Ki fr s R d n l h;cases ok
 ·refine GU.go (by simp) ?_;simp only[hs,eE,seval];refine XN rfl rfl (by decide) rfl rfl ?_;refine J4 (xs:=l.map PB.av) (by rfl) (by simp only[hr,FC,seval]) hR (by simp) (by rfl) rfl (by simp only[QF5,QGV,maxLen];omega) (by simp only[QF5,QGV];omega) ?_;have hb:(s==R)=false:=QHC.2 (Ne.symm h);have ha:=Hm fr s R d n l h ⟨d,n,e⟩;have ep:pb d n false e=[⟨d,n,e⟩]:=rfl;simp only[PB.av]at ha;simp only[hs,hb,nn0,QGn,QGK,cond_false,eE,seval];simp only[ha,ep,seval]
 ·refine GU.go (by simp) ?_;have ep:pb d n true e=[]:=rfl;simp only[ep,QGM,Qa,seval]

theorem UT  {M:Nat}(N:List SN)(hN:N.length≤maxLen)(hn:∀x∈N,x.ok M)(t:Int)(ht:t∈KY):Qn Tryz.prog 126 [.ptr 0 s 0,.list (N.map fun x=>.agg x.cells),.int .i64 t] ( Qm fr s R d n l :: m) fun x m1=>x=.tup []∧m1 =  Qm fr s R d n (l++Xs d n N t) :: m:=by
 refine PR.go (by simp) ?_;simp only[Qa,seval];refine aC (Qol N hN hn t ht) ?_;simp only[Qa,seval];refine Qb (Zx fr s R d n l h hR hl (XX N t==0) (XX N t) m Qf) rfl ?_;simp only[Xs,Qa,seval]

theorem QwQ (a:Nat→Ob){M:Nat}(N:List SN)(hN:N.length≤maxLen)(hn:∀x∈N,x.ok M)(t:Int)(ht:t∈KY):Qn Tryz.prog 126 [.ptr 1 s 0,.list (N.map fun x=>.agg x.cells),.int .i64 t] (a :: Qm fr s R d n l :: m) fun x m1=>x=.tup []∧m1=a :: Qm fr s R d n (l++Xs d n N t) :: m:=by
 refine PR.go (by simp) ?_;simp only[Qa,seval];refine aC (Qol N hN hn t ht) ?_;simp only[Qa,seval];refine Qb (QBj fr s R d n l h hR hl (XX N t==0) (XX N t) m Qf a) rfl ?_;simp only[Xs,Qa,seval]

end

theorem QP {α β:Type}{l:List α}{g:Nat→α→List β}{c:Nat}(hc:∀i x,(g i x).length≤c):∀n,(upto l g n).length≤c*n
 |0=>QFQ _
 |n+1=>by
  have h1:=QP hc (l:=l) n;rw[upto,QGs,Nat.mul_succ];cases l[n]? with
  |none=>simp only[QGV];omega
  |some x=>have:=hc n x;simp only;omega
theorem X1 {α β:Type}{l:List α}{g:Nat→α→List β}{n:Nat}{x:α}(h:l[n]? = some x):upto l g (n+1)=upto l g n++g n x:=by
 rw[upto,h]
theorem QX (d:List UInt8)(n:Int)(ok:Bool)(e:Int):(pb d n ok e).length≤1:=by
 cases ok<;>simp[pb]

def MN (l:List PS)(i:Nat)(x:PS):Bool:=match i with
 |0=>true
 |j+1=>match l[j]? with
  |none=>true
  |some y=>decide (x.lo > y.hi)
theorem MO (d:List UInt8)(lo hi:Int)(l:List PS)(i:Nat)(x:PS):JM d lo hi l i x=pb d (-1) (decide (x.lo≥lo)&&decide (x.hi≤hi)&&decide (x.lo≤x.hi)) 6++pb d (-1) (MN l i x) 11:=by
 cases i<;>rfl
theorem Jw (d:List UInt8)(lo hi:Int)(F:List PS)(i:Nat)(x:PS):(JM d lo hi F i x).length≤2:=by
 unfold JM;rw[QGs];exact Nat.add_le_add (QX ..) (QX ..)

section
variable (fr:Nat→Ob)(s R:Nat)(d:List UInt8)(l:List PB)(h:R≠s)(hR:Xu R 111=true)(lo hi:Int)(F:List PS)(hF:F.length≤1048576)(m:Ql)

def SqI (k:Nat)(st:St):Prop :=
 ∃f own i,st=⟨f,own :: Qm fr s R d (-1) (l++upto F (JM d lo hi F) i) :: m,[]⟩∧k=F.length-i∧i≤F.length∧f 0=.ptr 1 s 0∧f 1=.list (F.map QU)∧f 2=.int .i64 lo∧f 3=.int .i64 hi∧f 10=.list (F.map QU)∧f 11=.int .i64 (F.length:Nat)∧f 12=.int .i64 (i:Nat)∧∀s∈[9],(own s).isRow=false

def SpF (F:List PS)(s:Nat)(lo hi:Int)(i:Nat)(f:Fr):Prop:=f 0=.ptr 1 s 0∧f 1=.list (F.map QU)∧f 2=.int .i64 lo∧f 3=.int .i64 hi∧f 8=.int .i64 (i:Nat)∧f 9=.ptr 0 9 0∧f 10=.list (F.map QU)∧f 11=.int .i64 (F.length:Nat)∧f 12=.int .i64 (i:Nat)

section
variable (i:Nat)(x:PS)(hx:F[i]? = some x)(own:Nat→Ob)(o9:own 9=.cells x.cells)(hl:l.length≤1073741824)(f:Fr)(hf:SpF F s lo hi i f)(K:St→Prop)
include h hR hl o9 hf
theorem sp3 (hK:∀f,SpF F s lo hi i f→K ⟨f,own :: Qm fr s R d (-1) (l++pb d (-1) (decide (x.lo≥lo)&&decide (x.hi≤hi)&&decide (x.lo≤x.hi)) 6) :: m,[]⟩):Qj Tryz.prog G8 ⟨f,own :: Qm fr s R d (-1) l :: m,[]⟩ K:=by
 have hK':=hK;obtain⟨h0,h1,h2,h3,h8,h9,h10,h11,h12⟩:=hf;simp only[PS.cells]at o9;simp only[G8,h0,h2,h9,o9,eE,seval];cases a1:decide (x.lo≥lo)
 ·rw[a1]at hK';simp only[Qa,seval];refine Qb (Zx fr s R d (-1) l h hR hl false 6 m own) (by rfl) ?_;simp only[Qa,seval];exact hK' _ ⟨(by exact h0),(by exact h1),(by exact h2),(by exact h3),(by exact h8),(by exact h9),(by exact h10),(by exact h11),(by exact h12)⟩
 cases a2:decide (x.hi≤hi)
 ·rw[a1,a2]at hK';simp only[a2,h3,h9,o9,eE,seval];refine Qb (Zx fr s R d (-1) l h hR hl false 6 m own) (by rfl) ?_;simp only[Qa,seval];exact hK' _ ⟨(by exact h0),(by exact h1),(by exact h2),(by exact h3),(by exact h8),(by exact h9),(by exact h10),(by exact h11),(by exact h12)⟩
 rw[a1,a2]at hK';simp only[a2,h3,h9,o9,eE,seval];refine Qb (Zx fr s R d (-1) l h hR hl (decide (x.lo≤x.hi)) 6 m own) (by rfl) ?_;simp only[Qa,seval];exact hK' _ ⟨(by exact h0),(by exact h1),(by exact h2),(by exact h3),(by exact h8),(by exact h9),(by exact h10),(by exact h11),(by exact h12)⟩

include hx hF in
theorem sp4 (hK:∀f,SpF F s lo hi i f→K ⟨f,own :: Qm fr s R d (-1) (l++pb d (-1) (MN F i x) 11) :: m,[]⟩):Qj Tryz.prog UH ⟨f,own :: Qm fr s R d (-1) l :: m,[]⟩ K:=by
 obtain⟨h0,h1,h2,h3,h8,h9,h10,h11,h12⟩:=hf;have hlt:i<F.length:=(QFS.1 hx).1;simp only[PS.cells]at o9;cases i with
 |zero=>
  simp only[UH,h0,h8,Qa,seval];refine Qb (Zx fr s R d (-1) l h hR hl true 11 m own) (by rfl) ?_;simp only[Qa,seval];exact hK _ ⟨(by exact h0),(by exact h1),(by exact h2),(by exact h3),(by exact h8),(by exact h9),(by exact h10),(by exact h11),(by exact h12)⟩
 |succ j=>
  obtain⟨y,hj⟩:∃y,F[j]? = some y:=⟨F[j]'(by omega),QFT (by omega)⟩;have hg:(F.map QU)[j]? = some (.agg [.int .i64 y.lo,.int .i64 y.hi]):=by rw[QG5,hj];rfl
  have wj:=JU j _ hlt (by simp only[maxLen];omega);have d0:(((j+1:Nat):Int)==0)=false:=by rw[QHC];omega
  simp only[MN,hj]at hK;simp only[UH,d0,wj,Qi,QHa,Qc,hg,h0,h1,h8,h9,o9,eE,seval];refine Qb (Zx fr s R d (-1) l h hR hl (decide (x.lo > y.hi)) 11 m own) (by rfl) ?_;simp only[Qa,seval];exact hK _ ⟨(by exact h0),(by exact h1),(by exact h2),(by exact h3),(by exact h8),(by exact h9),(by exact h10),(by exact h11),(by exact h12)⟩
end

include h hR hF in
theorem AC (hl:l.length≤1048576000):Qn Tryz.prog 124 [.ptr 0 s 0,.list (F.map QU),.int .i64 lo,.int .i64 hi] (Qm fr s R d (-1) l :: m) fun x m1=>x=.tup []∧m1=Qm fr s R d (-1) (l++upto F (JM d lo hi F) F.length) :: m:=by
 have hul:∀n,n≤F.length→(l++upto F (JM d lo hi F) n).length≤1051000000:=by
  intro n hn;have:=QP (l:=F) (Jw d lo hi F) n;rw[QGs];omega
 refine QdD.go (by simp) ?_;simp only[CH,PP,PQ,QG7,Qa,seval];refine Qd (SqI fr s R d l lo hi F m) _ ⟨_,_,0,by rw[upto,QGM],rfl,QFZ _,(by rfl),(by rfl),(by rfl),(by rfl),(by rfl),(by rfl),(by rfl),by simp<;>rfl⟩ ?_;rintro _ st ⟨f0,own0,i,rfl,rfl,hi',h00,h10,h20,h30,h100,h110,h120,r9⟩;refine Qz (a:=_) [9] r9 ?_;intro f own hf hm hn9;have h0:f 0=.ptr 1 s 0:=by rw[hf,h00]<;>rfl
 have h1:f 1=.list (F.map QU):=by rw[hf,h10]<;>rfl
 have h2:f 2=.int .i64 lo:=by rw[hf,h20]<;>rfl
 have h3:f 3=.int .i64 hi:=by rw[hf,h30]<;>rfl
 have h10':f 10=.list (F.map QU):=by rw[hf,h100]<;>rfl
 have h11:f 11=.int .i64 (F.length:Nat):=by rw[hf,h110]<;>rfl
 have h12:f 12=.int .i64 (i:Nat):=by rw[hf,h120]<;>rfl
 have n9:=hn9 9 (by decide);clear hf hm hn9 h00 h10 h20 h30 h100 h110 h120 r9;simp only[CI,h11,h12,Qa,seval];by_cases hlt:i<F.length
 case neg=>
  have e:i=F.length:=by omega
  subst e;simp only[QG hlt,Qa,seval]
 obtain⟨x,hx⟩:∃x,F[i]? = some x:=⟨F[i],QFT hlt⟩;have hg:(F.map QU)[i]? = some (.agg [.int .i64 x.lo,.int .i64 x.hi]):=by rw[QG5,hx];rfl
 have e1:=Qo i _ hlt (by simp only[maxLen];omega);simp only[QC hlt,n9,CJ,Qi,QHa,Qc,hg,h10',h12,eE,seval];refine sp3 fr s R d _ h hR lo hi F m i x _ (by rfl) (QFR (hul i hi') (by decide)) _ ⟨(by exact h0),(by exact h1),(by exact h2),(by exact h3),(by rfl),(by rfl),(by exact h10'),(by exact h11),(by exact h12)⟩ _ (fun f hf=>?_);simp only[Qa,seval];refine sp4 fr s R d _ h hR lo hi F hF m i x hx _ (by rfl) ?_ _ hf _ (fun f hf=>?_)
 ·have a:=hul i hi';have b:=QX d (-1) (decide (x.lo≥lo)&&decide (x.hi≤hi)&&decide (x.lo≤x.hi)) 6;rw[QGs];omega
 obtain⟨h0,h1,h2,h3,h8,h9,h10,h11,h12⟩:=hf;simp only[CL,h12,e1,Qa,seval];exact⟨F.length-(i+1),by omega,_,_,i+1,by rw[X1 hx,MO];simp only[QGa]<;>rfl,rfl,by omega,(by exact h0),(by exact h1),(by exact h2),(by exact h3),(by exact h10),(by exact h11),(by rfl),by simp<;>rfl⟩
end

end Go.Proofs.YtnpajgoobomndaaGreatDoor.Va

set_option linter.unusedSectionVars false
namespace Go.Proofs.YtnpajgoobomndaaGreatDoor.Va
open Go Am Rc Bt Br Up So

theorem s75 (B:List (List UInt8))(hl:B.length≤maxLen)(v:List UInt8):Qs Tryz.prog 75 [.list (B.map Qk),.str v] (.int .i64 (QS (fun b=>b==v) B 0)):=by
 let I:Nat→St→Prop:=fun k st=>∃f i,st=⟨f,[Qf],[]⟩∧k=B.length-i∧QS (fun b=>b==v) B 0=QS (fun b=>b==v) (B.drop i) i∧f 0=.list (B.map Qk)∧f 1=.str v∧f 7=.int .i64 (B.length:Nat)∧f 8=.int .i64 (i:Nat)
 refine k75.fn (by simp) ?_;simp only[QG7,Qa,seval];refine Qd I _ ⟨_,0,rfl,rfl,rfl,(by rfl),(by rfl),(by rfl),(by rfl)⟩ ?_;rintro _ st ⟨f,i,rfl,rfl,hx,h0,h1,h7,h8⟩;simp only[h7,h8,Qa,seval];by_cases hlt:i<B.length
 ·obtain⟨x,hi⟩:∃x,B[i]? = some x:=⟨B[i],QFT hlt⟩;have hg:(B.map Qk)[i]? = some (.str x):=by simp[hi,Qk]
  have e1:=Qo i _ hlt hl;have ec:(v==x)=(x==v):=BEq.comm;rw[XW _ hi]at hx;cases hv:(x==v)
  ·rw[hv,QFX (by decide)]at hx;simp only[QC hlt,Qi,QHa,Qc,hg,QB,ec,hv,h0,h1,h8,e1,eE,seval];exact⟨B.length-(i+1),by omega,_,i+1,rfl,rfl,hx,(by exact h0),(by exact h1),(by exact h7),(by rfl)⟩
  ·rw[hv,QFY rfl]at hx;simp only[QC hlt,Qi,QHa,Qc,hg,QB,ec,hv,h0,h1,h8,hx,eE,seval]
 ·have hx':QS (fun b=>b==v) B 0 = -1:=by rw[hx,QGr (by omega)];rfl
  simp only[QG hlt,hx',Qa,seval]

theorem Bw (B:List (List UInt8))(v:List UInt8):(B.any fun b=>b==v)=B.contains v:=by
 induction B with
 |nil=>rfl
 |cons b B ih=>
  rw[List.any_cons,List.contains_cons,ih,BEq.comm (a:=b)]
theorem s74 (B:List (List UInt8))(hl:B.length≤maxLen)(v:List UInt8):Qs Tryz.prog 74 [.list (B.map Qk),.str v] (.bool (B.contains v)):=by
 refine k74.fn (by simp) ?_;simp only[Qa,seval];refine aC (s75 B hl v) ?_;simp only[Kw,Bw,Qa,seval]

theorem Qu {l:List PB}{a:Nat}(h:l.length≤a)(d:List UInt8)(n:Int)(ok:Bool)(e:Int):(l++pb d n ok e).length≤a+1:=by
 have:=QX d n ok e;rw[QGs];omega

theorem Xz (x:SM):x.cells=[.str x.name,.list (x.fields.map fun n=>.agg n.cells),.list (x.free.map fun n=>.agg n.cells),.list (x.gone.map AV.str),.list (x.notes.map fun n=>.agg n.cells)]:=rfl
def FF (s i:Nat)(f:Fr):Prop:=f 0=.ptr 1 s 0∧f 3=.int .i64 (i:Nat)∧f 5=.ptr 0 5 0∧f 6=.ptr 0 6 0∧f 8=.ptr 0 8 0

section
variable (fr:Nat→Ob)(s R:Nat)(h:R≠s)(hR:Xu R 111=true)(mm:Ql){M:Nat}(hM:M≤1048576)(S:SC)(hS:S.ok M)(m:SM)(hm:m.ok M)(i:Nat)(x:SF)(hi:m.fields[i]? = some x)
variable (own:Nat→Ob)(o5:own 5=.cells [.list (S.msgs.map fun n=>.agg n.cells),.list (S.enums.map fun n=>.agg n.cells),.list (S.servs.map fun n=>.agg n.cells)])(o6:own 6=.cells m.cells)(o8:own 8=.cells x.cells)
variable (l:List PB)(hl:l.length≤1073741824)(f:Fr)(hf:FF s i f)(K:St→Prop)
include h hR hl hf

include o8 in
theorem fk3 (hK:∀f,FF s i f→K ⟨f,own :: Qm fr s R m.name x.num (l++pb m.name x.num (decide (x.num≥1)&&decide (x.num≤65535)) 6) :: mm,[]⟩):Qj Tryz.prog G0 ⟨f,own :: Qm fr s R m.name x.num l :: mm,[]⟩ K:=by
 obtain⟨h0,h3,h5,h6,h8⟩:=hf;rw[QJ]at o8;simp only[G0,h0,h8,o8,eE,seval];cases a1:decide (x.num≥1)
 ·rw[a1]at hK;simp only[Qa,seval];refine Qb (Zx fr s R m.name x.num l h hR hl false 6 mm own) (by rfl) ?_;simp only[Qa,seval];exact hK _ ⟨(by exact h0),(by exact h3),(by exact h5),(by exact h6),(by exact h8)⟩
 ·rw[a1]at hK;simp only[h8,o8,eE,seval];refine Qb (Zx fr s R m.name x.num l h hR hl (decide (x.num≤65535)) 6 mm own) (by rfl) ?_;simp only[Qa,seval];exact hK _ ⟨(by exact h0),(by exact h3),(by exact h5),(by exact h6),(by exact h8)⟩

include o6 o8 hi hM hm in
theorem fk4 (hK:∀f,FF s i f→K ⟨f,own :: Qm fr s R m.name x.num (l++pb m.name x.num (JQ m.fields SF.num i x) 11) :: mm,[]⟩):Qj Tryz.prog UG ⟨f,own :: Qm fr s R m.name x.num l :: mm,[]⟩ K:=by
 obtain⟨h0,h3,h5,h6,h8⟩:=hf;have hlt:i<m.fields.length:=(QFS.1 hi).1;have hl1:=hm.len1;rw[QJ]at o8;simp only[SM.cells]at o6;cases i with
 |zero=>
  simp only[UG,h0,h3,Qa,seval];refine Qb (Zx fr s R m.name x.num l h hR hl true 11 mm own) (by rfl) ?_;simp only[Qa,seval];exact hK _ ⟨(by exact h0),(by exact h3),(by exact h5),(by exact h6),(by exact h8)⟩
 |succ j=>
  obtain⟨y,hj⟩:∃y,m.fields[j]? = some y:=⟨m.fields[j]'(by omega),QFT (by omega)⟩;have hg:(m.fields.map fun n=>AV.agg n.cells)[j]? = some (.agg y.cells):=by rw[QG5,hj];rfl
  have wj:=JU j _ hlt (by simp only[maxLen];omega);have d0:(((j+1:Nat):Int)==0)=false:=by rw[QHC];omega
  rw[QJ]at hg;simp only[JQ,hj]at hK;simp only[UG,d0,wj,Qi,QHa,Qc,hg,h0,h3,h6,h8,o6,o8,eE,seval];refine Qb (Zx fr s R m.name x.num l h hR hl (decide (x.num > y.num)) 11 mm own) (by rfl) ?_;simp only[Qa,seval];exact hK _ ⟨(by exact h0),(by exact h3),(by exact h5),(by exact h6),(by exact h8)⟩

include o8 in
theorem fk5 (hK:∀f,FF s i f→K ⟨f,own :: Qm fr s R m.name x.num (l++pb m.name x.num (Xb x.name) 8) :: mm,[]⟩):Qj Tryz.prog G3 ⟨f,own :: Qm fr s R m.name x.num l :: mm,[]⟩ K:=by
 obtain⟨h0,h3,h5,h6,h8⟩:=hf;rw[QJ]at o8;simp only[G3,h0,h8,o8,eE,seval];refine aC (NE x.name) ?_
 try simp only[eE,seval]
 refine Qb (Zx fr s R m.name x.num l h hR hl (Xb x.name) 8 mm own) (by rfl) ?_;simp only[Qa,seval];exact hK _ ⟨(by exact h0),(by exact h3),(by exact h5),(by exact h6),(by exact h8)⟩

include o6 hi hM hm in
theorem fk6 (hK:∀f,FF s i f→K ⟨f,own :: Qm fr s R m.name x.num (l++pb m.name x.num (!((m.fields.take i).any fun y=>y.name==x.name)) 9) :: mm,[]⟩):Qj Tryz.prog G4 ⟨f,own :: Qm fr s R m.name x.num l :: mm,[]⟩ K:=by
 obtain⟨h0,h3,h5,h6,h8⟩:=hf;have hl1:=hm.len1;have hsn:=QBg m.fields (by simp only[maxLen];omega) i x hi 148 SF.name QBd (own :: Qm fr s R m.name x.num l :: mm);simp only[SM.cells]at o6;simp only[G4,h0,h3,h6,o6,eE,seval];refine Qb hsn (by simp only[QGn,QGK,Qa,seval]<;>rfl) ?_;simp only[Qa,seval];refine Qb (Zx fr s R m.name x.num l h hR hl _ 9 mm own) (by rfl) ?_;simp only[Qa,seval];exact hK _ ⟨(by exact h0),(by exact h3),(by exact h5),(by exact h6),(by exact h8)⟩

include o6 o8 hM hm in
theorem fk7 (hK:∀f,FF s i f→K ⟨f,own :: Qm fr s R m.name x.num (l++pb m.name x.num (!(kept m.free x.num) && !(m.gone.contains x.name)) 21) :: mm,[]⟩):Qj Tryz.prog G5 ⟨f,own :: Qm fr s R m.name x.num l :: mm,[]⟩ K:=by
 obtain⟨h0,h3,h5,h6,h8⟩:=hf;have hl1:=hm.len2;have hl2:=hm.len3;have hr:Qs Tryz.prog 131 [.list (m.free.map fun n=>AV.agg n.cells),.int .i64 x.num] (.bool (kept m.free x.num)):=Qn7 m.free (by simp only[maxLen];omega) x.num;have hc:Qs Tryz.prog 74 [.list (m.gone.map AV.str),.str x.name] (.bool (m.gone.contains x.name)):=s74 m.gone (by simp only[maxLen];omega) x.name;rw[QJ]at o8;simp only[SM.cells]at o6;simp only[G5,h0,h6,h8,o6,o8,eE,seval];refine aC hr ?_;cases a1:kept m.free x.num
 ·rw[a1]at hK;simp only[QGR,h6,h8,o6,o8,eE,seval];refine aC hc ?_;simp only[Qa,seval];refine Qb (Zx fr s R m.name x.num l h hR hl (!(m.gone.contains x.name)) 21 mm own) (by rfl) ?_;simp only[Qa,seval];exact hK _ ⟨(by exact h0),(by exact h3),(by exact h5),(by exact h6),(by exact h8)⟩
 ·rw[a1]at hK;simp only[QHq,Qa,seval];refine Qb (Zx fr s R m.name x.num l h hR hl false 21 mm own) (by rfl) ?_;simp only[Qa,seval];exact hK _ ⟨(by exact h0),(by exact h3),(by exact h5),(by exact h6),(by exact h8)⟩

include o8 in
theorem fk8 (hK:∀f,FF s i f→K ⟨f,own :: Qm fr s R m.name x.num (l++pb m.name x.num (WC x) 1) :: mm,[]⟩):Qj Tryz.prog G6 ⟨f,own :: Qm fr s R m.name x.num l :: mm,[]⟩ K:=by
 obtain⟨h0,h3,h5,h6,h8⟩:=hf;rw[QJ]at o8;unfold WC at hK;simp only[G6,h0,h8,o8,eE,seval];cases a1:decide (x.card≥1)
 ·rw[a1]at hK;simp only[Qa,seval];refine Qb (Zx fr s R m.name x.num l h hR hl false 1 mm own) (by rfl) ?_;simp only[Qa,seval];exact hK _ ⟨(by exact h0),(by exact h3),(by exact h5),(by exact h6),(by exact h8)⟩
 cases a2:decide (x.card≤5)
 ·rw[a1,a2]at hK;simp only[a2,h8,o8,eE,seval];refine Qb (Zx fr s R m.name x.num l h hR hl false 1 mm own) (by rfl) ?_;simp only[Qa,seval];exact hK _ ⟨(by exact h0),(by exact h3),(by exact h5),(by exact h6),(by exact h8)⟩
 rw[a1,a2]at hK;simp only[a2,h8,o8,eE,seval];refine aC (QA4 x.card x.key) ?_
 try simp only[Qa,seval]
 refine Qb (Zx fr s R m.name x.num l h hR hl (DV x.card x.key) 1 mm own) (by rfl) ?_;simp only[Qa,seval];exact hK _ ⟨(by exact h0),(by exact h3),(by exact h5),(by exact h6),(by exact h8)⟩

include o5 o8 hS hM hm hi in
theorem fk9 (hK:∀f,FF s i f→K ⟨f,own :: Qm fr s R m.name x.num (l++pb m.name x.num (Ja S x) 12) :: mm,[]⟩):Qj Tryz.prog G7 ⟨f,own :: Qm fr s R m.name x.num l :: mm,[]⟩ K:=by
 obtain⟨h0,h3,h5,h6,h8⟩:=hf;have hc:=QA5 S hS hM x;simp only[SC.av,Xt,QJ]at hc;rw[QJ]at o8;simp only[G7,h0,h5,h8,o5,o8,eE,seval];refine aC hc ?_
 try simp only[eE,seval]
 refine Qb (Zx fr s R m.name x.num l h hR hl (Ja S x) 12 mm own) (by rfl) ?_;simp only[Qa,seval];exact hK _ ⟨(by exact h0),(by exact h3),(by exact h5),(by exact h6),(by exact h8)⟩

include o5 o8 hS hM hm hi in
theorem QBk (hK:∀f,FF s i f→K ⟨f,own :: Qm fr s R m.name x.num (l++pb m.name x.num (KI S x) 1) :: mm,[]⟩):Qj Tryz.prog U4 ⟨f,own :: Qm fr s R m.name x.num l :: mm,[]⟩ K:=by
 obtain⟨h0,h3,h5,h6,h8⟩:=hf;have hc:=QA9 S hS hM x (hm.fields x (QF4 hi));simp only[SC.av,Xt,QJ]at hc;rw[QJ]at o8;simp only[U4,h0,h5,h8,o5,o8,eE,seval];refine aC hc ?_
 try simp only[eE,seval]
 refine Qb (Zx fr s R m.name x.num l h hR hl (KI S x) 1 mm own) (by rfl) ?_;simp only[Qa,seval];exact hK _ ⟨(by exact h0),(by exact h3),(by exact h5),(by exact h6),(by exact h8)⟩

include o6 hM hm hi in
theorem QBl (hK:∀f,FF s i f→K ⟨f,own :: Qm fr s R m.name x.num (l++pb m.name x.num (ZW m i) 15) :: mm,[]⟩):Qj Tryz.prog U3 ⟨f,own :: Qm fr s R m.name x.num l :: mm,[]⟩ K:=by
 obtain⟨h0,h3,h5,h6,h8⟩:=hf;have hc:=QBc hM m hm i x hi;simp only[QY,SM.cells]at hc;simp only[SM.cells]at o6;simp only[U3,h0,h3,h6,o6,eE,seval];refine aC hc ?_
 try simp only[eE,seval]
 refine Qb (Zx fr s R m.name x.num l h hR hl (ZW m i) 15 mm own) (by rfl) ?_;simp only[Qa,seval];exact hK _ ⟨(by exact h0),(by exact h3),(by exact h5),(by exact h6),(by exact h8)⟩

include o8 hM hm hi in
theorem QBm (hK:∀f,FF s i f→K ⟨f,own :: Qm fr s R m.name x.num (l++Xs m.name x.num x.notes 2) :: mm,[]⟩):Qj Tryz.prog U5 ⟨f,own :: Qm fr s R m.name x.num l :: mm,[]⟩ K:=by
 obtain⟨h0,h3,h5,h6,h8⟩:=hf;have hx:=hm.fields x (QF4 hi);have hln:=hx.len;rw[QJ]at o8;simp only[U5,h0,h8,o8,eE,seval];refine Qb (QwQ fr s R m.name x.num l h hR hl mm own x.notes (by simp only[maxLen];omega) hx.notes 2 (by decide)) (by rfl) ?_;simp only[Qa,seval];exact hK _ ⟨(by exact h0),(by exact h3),(by exact h5),(by exact h6),(by exact h8)⟩
end

theorem QBn (fr:Nat→Ob)(s R:Nat)(h:R≠s)(hR:Xu R 111=true)(mm:Ql){M:Nat}(hM:M≤1048576)(S:SC)(hS:S.ok M)(m:SM)(hm:m.ok M)(i:Nat)(x:SF)(hi:m.fields[i]? = some x)(l:List PB)(hl:l.length≤1073741800)(n:Int) :
  Qn Tryz.prog 123 [.ptr 0 s 0,S.av,QY m,.int .i64 (i:Nat)] (Qm fr s R m.name n l :: mm) fun y m1=>y=.tup []∧m1=Qm fr s R m.name (-1) (l++Ju S m i x) :: mm:=by
 have hg:(m.fields.map fun n=>AV.agg n.cells)[i]? = some (.agg x.cells):=by rw[QG5,hi];rfl
 rw[QJ]at hg;have hs:∀n l,Qm fr s R m.name n l s=.cells [.str m.name,.int .i64 n,.vec 0 R (1+l.length) 0 l.length false]:=fun n l=>Jk fr s R m.name n l
 have hn:∀n l n',Qp (Qm fr s R m.name n l) s (.cells [.str m.name,.int .i64 n',.vec 0 R (1+l.length) 0 l.length false])=Qm fr s R m.name n' l:=fun n l n'=>K4 fr s R m.name n l n'
 refine QdB.go (by simp) ?_;simp only[PK,PM,CE,CF,CG,SC.av,QY,Xz m,Qi,QHa,Qc,hg,hs,hn,eE,seval];generalize hown:(Qp (Qp (Qp Qf 5 _) 6 _) 8 _:Nat→Ob)=own;have o5:own 5=.cells [.list (S.msgs.map fun n=>.agg n.cells),.list (S.enums.map fun n=>.agg n.cells),.list (S.servs.map fun n=>.agg n.cells)]:=by rw[←hown];exact(by rfl)
 have o6:own 6=.cells m.cells:=by rw[←hown,Xz];exact(by rfl)
 have o8:own 8=.cells x.cells:=by rw[←hown,QJ];exact(by rfl)
 have q0:l.length≤1073741800:=hl;refine fk3 fr s R h hR mm m i x own o8 l (by omega) _ ⟨(by rfl),(by rfl),(by rfl),(by rfl),(by rfl)⟩ _ (fun f hf=>?_);have q1:=Qu q0 m.name x.num (decide (x.num≥1)&&decide (x.num≤65535)) 6;simp only[Qa,seval];refine fk4 fr s R h hR mm hM m hm i x hi own o6 o8 _ (by omega) f hf _ (fun f hf=>?_);have q2:=Qu q1 m.name x.num (JQ m.fields SF.num i x) 11;simp only[Qa,seval];refine fk5 fr s R h hR mm m i x own o8 _ (by omega) f hf _ (fun f hf=>?_);have q3:=Qu q2 m.name x.num (Xb x.name) 8;simp only[Qa,seval];refine fk6 fr s R h hR mm hM m hm i x hi own o6 _ (by omega) f hf _ (fun f hf=>?_);have q4:=Qu q3 m.name x.num (!((m.fields.take i).any fun y=>y.name==x.name)) 9;simp only[Qa,seval];refine fk7 fr s R h hR mm hM m hm i x own o6 o8 _ (by omega) f hf _ (fun f hf=>?_);have q5:=Qu q4 m.name x.num (!(kept m.free x.num) && !(m.gone.contains x.name)) 21;simp only[Qa,seval];refine fk8 fr s R h hR mm m i x own o8 _ (by omega) f hf _ (fun f hf=>?_);have q6:=Qu q5 m.name x.num (WC x) 1;simp only[Qa,seval];refine fk9 fr s R h hR mm hM S hS m hm i x hi own o5 o8 _ (by omega) f hf _ (fun f hf=>?_);have q7:=Qu q6 m.name x.num (Ja S x) 12;simp only[Qa,seval];refine QBl fr s R h hR mm hM m hm i x hi own o6 _ (by omega) f hf _ (fun f hf=>?_);have q8:=Qu q7 m.name x.num (ZW m i) 15;simp only[Qa,seval];refine QBk fr s R h hR mm hM S hS m hm i x hi own o5 o8 _ (by omega) f hf _ (fun f hf=>?_);have q9:=Qu q8 m.name x.num (KI S x) 1;simp only[Qa,seval];refine QBm fr s R h hR mm hM m hm i x hi own o8 _ (by omega) f hf _ (fun f hf=>?_);obtain⟨h0,h3,h5,h6,h8⟩:=hf;simp only[F4,h0,hs,hn,eE,seval];unfold Ju;simp only[QGa]

theorem ZE {P:Program}{its:List Am.Item}{f:Fr}{m:Ql}{ds:List DF}{d:Nat}{K:St→Prop}{z:AV}{r:RA}{w:List UInt8}(hr:r.ev f=.str w)(h:Qj P its ⟨Qp f d (.list [.str w]),m,ds⟩ K):Qj P (⟨some d,.bsl 1 1 [z] [(0,1,r)],none⟩ :: its) ⟨f,m,ds⟩ K:=by
 rw[show Qj P (⟨some d,.bsl 1 1 [z] [(0,1,r)],none⟩ :: its) ⟨f,m,ds⟩ K=Qj P its ⟨Qp f d (.list [.str w]),m,ds⟩ K from BP (y:=[.str w]) (by simp[fill,hr,AV.cells,AV.leaf,Xk,List.range_succ,splice]) rfl rfl];exact h

def XK (m:SM)(i:Nat):List (List UInt8):=((m.fields.take i).filter fun f=>f.card==1&&f.kind==10).map SF.tname
theorem HN {m:SM}{i:Nat}{x:SF}(h:m.fields[i]? = some x):XK m (i+1)=if (x.card==1&&x.kind==10)=true then XK m i++[x.tname]else XK m i:=by
 unfold XK;rw[QHk,h,QHl,List.filter_append,QHj];cases hq:(x.card==1&&x.kind==10)
 ·rw[QFX (by decide),List.filter_cons,hq];simp
 ·rw[QFY rfl,List.filter_cons,hq];simp
theorem YQ (m:SM)(i:Nat):(XK m i).length≤m.fields.length:=by
 unfold XK;rw[QG7];exact QFR (List.length_filter_le ..) (List.length_take_le' ..)

def NdI (m:SM)(k:Nat)(st:St):Prop :=
 ∃f fr i g,st=⟨f,[fr],[]⟩∧k=m.fields.length-i∧i≤m.fields.length∧f 3=.vec 0 3 g 0 (XK m i).length false∧f 7=.list (m.fields.map Xt)∧f 8=.int .i64 (m.fields.length:Nat)∧f 9=.int .i64 (i:Nat)∧fr 3=.vec g 1 ((XK m i).map Qk)∧∀s∈[5],(fr s).isRow=false

theorem QoF {M:Nat}(hM:M≤1048576)(m:SM)(hm:m.ok M):Qs Tryz.prog 120 [QY m] (.list ((XU m).map Qk)):=by
 have hl1:=hm.len1;have hnd:XU m=XK m m.fields.length:=by unfold XU XK;rw[QHh]
 refine Qdp.fn (by simp) ?_;simp only[QY,Xz m,eE,seval];refine KS rfl rfl ?_;simp only[QG7,eE,seval];refine Qd (NdI m) _ ⟨_,_,0,_,rfl,rfl,QFZ _,(by rfl),(by rfl),(by rfl),(by rfl),(by rfl),by simp<;>rfl⟩ ?_;rintro _ st ⟨f0,fr0,i,g,rfl,rfl,hi,h30,h70,h80,h90,m30,r5⟩;refine Qz (a:=_) [5] r5 ?_;intro f fr hf hmm hn5;have h3:f 3=.vec 0 3 g 0 (XK m i).length false:=by rw[hf,h30]<;>rfl
 have h7:f 7=.list (m.fields.map Xt):=by rw[hf,h70]<;>rfl
 have h8:f 8=.int .i64 (m.fields.length:Nat):=by rw[hf,h80]<;>rfl
 have h9:f 9=.int .i64 (i:Nat):=by rw[hf,h90]<;>rfl
 have m3:fr 3=.vec g 1 ((XK m i).map Qk):=by rw[hmm 3 (by decide),m30]<;>rfl
 have n5:=hn5 5 (by decide);clear hf hmm hn5 h30 h70 h80 h90 m30 r5;simp only[h8,h9,Qa,seval];by_cases hlt:i<m.fields.length
 case neg=>
  have e:i=m.fields.length:=by omega
  subst e;rw[←hnd]at h3 m3;have ht:List.take (XU m).length (List.map Qk (XU m))=List.map Qk (XU m):=QGo (by rw[QG7];exact QFQ _);simp only[QG hlt,h3,m3,QG7,QGw,ht,QGf,QFQ,QGT,AV.un,eE,seval]
 obtain⟨x,hx⟩:∃x,m.fields[i]? = some x:=⟨m.fields[i],QFT hlt⟩;have hg:(m.fields.map Xt)[i]? = some (.agg x.cells):=by rw[QG5,hx];rfl
 rw[QJ]at hg;have e1:=Qo i _ hlt (by simp only[maxLen];omega);have hln:=YQ m i;have hsu:=HN hx;have fin:∀(f:Fr) (fr:Nat→Ob) (g:Nat),f 3=.vec 0 3 g 0 (XK m (i+1)).length false→f 7=.list (m.fields.map Xt)→f 8=.int .i64 (m.fields.length:Nat)→f 9=.int .i64 ((i+1:Nat):Int)→fr 3=.vec g 1 ((XK m (i+1)).map Qk)→(∀s∈[5],(fr s).isRow=false)→∃k,k<m.fields.length-i∧NdI m k ⟨f,[fr],[]⟩ :=
  fun f fr g a b c d e r=>⟨m.fields.length-(i+1),by omega,f,fr,i+1,g,rfl,rfl,by omega,a,b,c,d,e,r⟩
 simp only[QC hlt,n5,Qi,QHa,Qc,hg,h7,h9,eE,seval];cases a1:(x.card==1)
 ·rw[a1,QHd,QFX (by decide)]at hsu;simp only[h9,e1,Qa,seval];exact fin _ _ g (by rw[hsu];exact(by exact h3)) (by exact h7) (by exact h8) (by rfl) (by rw[hsu];exact(by exact m3)) (by simp<;>rfl)
 cases a2:(x.kind==10)
 ·rw[a1,a2,QHp,QFX (by decide)]at hsu;simp only[a2,h9,e1,eE,seval];exact fin _ _ g (by rw[hsu];exact(by exact h3)) (by exact h7) (by exact h8) (by rfl) (by rw[hsu];exact(by exact m3)) (by simp<;>rfl)
 rw[a1,a2,QHp,QFY rfl]at hsu;simp only[a2,h3,eE,seval];refine ZE (w:=x.tname) rfl ?_;refine Q8 (xs:=(XK m i).map Qk) (by rfl) (by exact m3) rfl (by simp) (by rfl) rfl (by simp only[QF5,QGV,maxLen];omega) (by simp only[QF5,QGV];omega) ?_;simp only[h9,e1,Qa,seval];have en:(XK m (i+1)).length=(XK m i).length+1:=by rw[hsu];simp
 exact fin _ _ (g+1) (by rw[en];exact(by rfl)) (by exact h7) (by exact h8) (by rfl) (by rw[hsu,QHj];exact(by rfl)) (by simp<;>rfl)

def Xe (X:List (List UInt8)):List AV:=X.map fun _=>.bool true
theorem QoG (X:List (List UInt8)):AV.grL (Xe X)=true:=by
 induction X with
 |nil=>rfl
 |cons x X ih=>rw[Xe,QGn,AV.grL,show AV.grL (X.map fun _=>.bool true)=true from ih];rfl
theorem I6 (X:List (List UInt8)):X.length=(Xe X).length:=by rw[Xe,QG7]
theorem KJ (n:List UInt8)(X:List (List UInt8)):ZP n X (Xe X)=if X.contains n=true then some (.bool true)else none:=by
 induction X with
 |nil=>rfl
 |cons x X ih=>
  rw[Xe,QGn,ZP,List.contains_cons];cases h:(n==x)
  ·rw[QHs,←ih];rfl
  ·rw[QHr,QFY rfl];rfl
theorem MP (n:List UInt8)(X:List (List UInt8)):XE n (.bool true) X (Xe X)=if X.contains n=true then(X,Xe X)else(X++[n],Xe (X++[n])):=by
 induction X with
 |nil=>rfl
 |cons x X ih=>
  rw[Xe,QGn,XE,List.contains_cons];cases h:(n==x)
  ·rw[show XE n (.bool true) X (X.map fun _=>.bool true)=_ from ih,QHs];cases X.contains n<;>rfl
  ·rw[QHr,QFY rfl];rfl

section
variable {M:Nat}(hM:M≤1048576)(S:SC)(hS:S.ok M)(n:List UInt8)(X:List (List UInt8))(fr:Nat→Ob)(o1:fr 1=.cells [.list (S.msgs.map fun n=>.agg n.cells),.list (S.enums.map fun n=>.agg n.cells),.list (S.servs.map fun n=>.agg n.cells)])
include hM hS in
theorem QBo (o1:fr 1=.cells [.list (S.msgs.map fun n=>.agg n.cells),.list (S.enums.map fun n=>.agg n.cells),.list (S.servs.map fun n=>.agg n.cells)])(o3:fr 3=.cells [.mptr 0 9])(o9:fr 9=.iter (.mp X (Xe X)) 0) :
  Qn Tryz.prog 121 [Qk n,.ptr 2 1 0,.ptr 2 3 0] [Qf,Qf,fr] fun y m1=>y=.bool (QW S n && !X.contains n)∧m1=[Qf,Qf,fr]:=by
 obtain⟨l1,_,_⟩:=Zw S hS hM;have hc:=Hl S l1 n;simp only[QY,SM.cells,SC.av]at hc;have hg:AV.gr (.bool true)=true:=rfl;refine Qdv.go (by simp) ?_;simp only[Qk,o1,eE,seval];refine aC hc ?_;cases QW S n
 ·simp only[QHd,eE,seval]
 cases hX:X.contains n
 ·simp only[QGR,Za,KJ,hX,QF9,o3,o9,eE,seval]
 ·simp only[QHp,QHq,Za,KJ,hX,hg,o3,o9,eE,seval]

include hM hS in
theorem QBp (o3:fr 3=.cells [.list (S.msgs.map fun n=>.agg n.cells),.list (S.enums.map fun n=>.agg n.cells),.list (S.servs.map fun n=>.agg n.cells)])(o5:fr 5=.cells [.mp X (Xe X)]) :
  Qn Tryz.prog 155 [Qk n,.ptr 2 3 0,.ptr 2 5 0] [Qf,Qf,fr] fun y m1=>y=.bool (QW S n && !X.contains n)∧m1=[Qf,Qf,fr]:=by
 obtain⟨l1,_,_⟩:=Zw S hS hM;have hc:=Hl S l1 n;simp only[QY,SM.cells,SC.av]at hc;have hg:AV.gr (.bool true)=true:=rfl;refine Qhc.go (by simp) ?_;simp only[Qk,o3,eE,seval];refine aC hc ?_;cases QW S n
 ·simp only[QHd,eE,seval]
 cases hX:X.contains n
 ·simp only[QGR,Za,KJ,hX,QF9,o5,eE,seval]
 ·simp only[QHp,QHq,Za,KJ,hX,hg,o5,eE,seval]

include hM hS in
theorem QBq (m:SM)(hm:m.ok M):Qs Tryz.prog 127 [S.av,QY m,.mp X (Xe X)] (.bool ((XU m).any fun n=>QW S n && !X.contains n)):=by
 have hln:(XU m).length≤maxLen:=by
  have h1:=YQ m m.fields.length;have h2:=hm.len1;have h3:XU m=XK m m.fields.length:=by unfold XU XK;rw[QHh]
  rw[h3];simp only[maxLen];omega
 have hc:=QoF hM m hm;simp only[QY,SM.cells]at hc;refine QdR.fn (by simp) ?_;simp only[SC.av,QY,SM.cells,eE,seval];refine aC hc ?_;simp only[Qa,seval];refine Qb (NB (XU m) hln (fun n=>QW S n && !X.contains n) 155 [.ptr 0 3 0,.ptr 0 5 0] _ fun o _=>QBp hM S hS o X _ (by rfl) (by rfl)) (by simp only[QGn,QGK,Qa,seval]<;>rfl) ?_;simp only[Qa,seval]
end

section
variable {M:Nat}(hM:M≤1048576)(S:SC)(hS:S.ok M)
def FoI (S:SC)(k:Nat)(st:St):Prop :=
 ∃f fr i,st=⟨f,[fr],[]⟩∧k=S.msgs.length+1-i∧i≤S.msgs.length+1∧f 1=.ptr 0 1 0∧f 3=.ptr 0 3 0∧f 13=.int .i64 ((S.msgs.length+1:Nat):Int)∧f 14=.int .i64 (i:Nat)∧
  fr 1=.cells [.list (S.msgs.map fun n=>.agg n.cells),.list (S.enums.map fun n=>.agg n.cells),.list (S.servs.map fun n=>.agg n.cells)]∧fr 3=.cells [.mptr 0 9]∧fr 9=.iter (.mp (Wo S i) (Xe (Wo S i))) 0∧∀s∈[5,6],(fr s).isRow=false

include hM hS in
theorem QoH (X:List (List UInt8))(f:Fr)(fr:Nat→Ob)(h1:f 1=.ptr 0 1 0)(h3:f 3=.ptr 0 3 0)(h17:f 17=.list (S.msgs.map QY))(h18:f 18=.int .i64 (S.msgs.length:Nat))(h19:f 19=.int .i64 0)
  (m1:fr 1=.cells [.list (S.msgs.map fun n=>.agg n.cells),.list (S.enums.map fun n=>.agg n.cells),.list (S.servs.map fun n=>.agg n.cells)]) (m3:fr 3=.cells [.mptr 0 9]) (m9:fr 9=.iter (.mp X (Xe X)) 0) (Kt:∀s∈[5,6],(fr s).isRow=false) (h13:f 13=.int .i64 ((S.msgs.length+1:Nat):Int)) (r:Int) (h14:f 14=.int .i64 r) (Q:Exit→St→Prop)
  (hq:∀(f:Fr) (fr:Nat→Ob),f 1=.ptr 0 1 0→f 3=.ptr 0 3 0→f 13=.int .i64 ((S.msgs.length+1:Nat):Int)→f 14=.int .i64 r→fr 1=.cells [.list (S.msgs.map fun n=>.agg n.cells),.list (S.enums.map fun n=>.agg n.cells),.list (S.servs.map fun n=>.agg n.cells)]→fr 3=.cells [.mptr 0 9]→fr 9=.iter (.mp (YM S X) (Xe (YM S X))) 0→(∀s∈[5,6],(fr s).isRow=false)→Q (.exit 2) ⟨f,[fr],[]⟩) :
  QK Tryz.prog (.loop Ck) ⟨f,[fr],[]⟩ Q:=by
 obtain⟨l1,_,_⟩:=Zw S hS hM
 let I:Nat→St→Prop:=fun k st=>∃f fr i,st=⟨f,[fr],[]⟩∧k=S.msgs.length-i∧i≤S.msgs.length∧f 1=.ptr 0 1 0∧f 3=.ptr 0 3 0∧f 17=.list (S.msgs.map QY)∧f 18=.int .i64 (S.msgs.length:Nat)∧f 19=.int .i64 (i:Nat)∧f 13=.int .i64 ((S.msgs.length+1:Nat):Int)∧f 14=.int .i64 r∧
  fr 1=.cells [.list (S.msgs.map fun n=>.agg n.cells),.list (S.enums.map fun n=>.agg n.cells),.list (S.servs.map fun n=>.agg n.cells)]∧fr 3=.cells [.mptr 0 9]∧fr 9=.iter (.mp ((S.msgs.take i).foldl (Zf S) X) (Xe ((S.msgs.take i).foldl (Zf S) X))) 0∧∀s∈[5,6],(fr s).isRow=false
 refine Qd I _ ⟨f,fr,0,rfl,rfl,QFZ _,h1,h3,h17,h18,h19,h13,h14,m1,m3,m9,Kt⟩ ?_;clear h1 h3 h17 h18 h19 h13 h14 m1 m3 m9 Kt;rintro _ st ⟨f0,fr0,i,rfl,rfl,hi,h10,h30,h170,h180,h190,h130,h140,m10,m30,m90,Kt⟩;refine Qz (a:=_) [6,5] (by intro s hs;exact Kt s (by simp only[QG2,QHG,or_false]at hs ⊢;omega)) ?_;intro f fr hf hmm hn;have h1:f 1=.ptr 0 1 0:=by rw[hf,h10]<;>rfl
 have h3:f 3=.ptr 0 3 0:=by rw[hf,h30]<;>rfl
 have h17:f 17=.list (S.msgs.map QY):=by rw[hf,h170]<;>rfl
 have h18:f 18=.int .i64 (S.msgs.length:Nat):=by rw[hf,h180]<;>rfl
 have h19:f 19=.int .i64 (i:Nat):=by rw[hf,h190]<;>rfl
 have h13:f 13=.int .i64 ((S.msgs.length+1:Nat):Int):=by rw[hf,h130]<;>rfl
 have h14:f 14=.int .i64 r:=by rw[hf,h140]<;>rfl
 have m1:fr 1=.cells [.list (S.msgs.map fun n=>.agg n.cells),.list (S.enums.map fun n=>.agg n.cells),.list (S.servs.map fun n=>.agg n.cells)]:=by rw[hmm 1 (by decide),m10]<;>rfl
 have m3:fr 3=.cells [.mptr 0 9]:=by rw[hmm 3 (by decide),m30]<;>rfl
 have m9:fr 9=.iter (.mp ((S.msgs.take i).foldl (Zf S) X) (Xe ((S.msgs.take i).foldl (Zf S) X))) 0:=by rw[hmm 9 (by decide),m90]<;>rfl
 have n5:=hn 5 (by decide);have n6:=hn 6 (by decide);clear hf hmm hn h10 h30 h170 h180 h190 h130 h140 m10 m30 m90 Kt;simp only[h18,h19,Qa,seval];by_cases hlt:i<S.msgs.length
 case neg=>
  have e:(S.msgs.take i).foldl (Zf S) X=YM S X:=by rw[QGo (by omega)];rfl
  rw[e]at m9;simp only[QG hlt,Qa,seval];exact hq _ _ (by exact h1) (by exact h3) (by exact h13) (by exact h14) (by exact m1) (by exact m3) (by exact m9) (by simp only[QG2,QHG,or_false];rintro s (rfl|rfl)<;>simp only[n5,n6]<;>rfl)
 obtain⟨x,hx⟩:∃x,S.msgs[i]? = some x:=⟨S.msgs[i],QFT hlt⟩;have hmem:x∈S.msgs:=QF4 hx;have hg:(S.msgs.map QY)[i]? = some (.agg x.cells):=by rw[QG5,hx];rfl
 simp only[SM.cells]at hg;have e1:=Qo i _ hlt l1;have hc:=Hl S l1 x.name;simp only[QY,SM.cells,SC.av]at hc;obtain⟨y,hy⟩:∃y,S.msgs.find? (fun m=>m.name==x.name)=some y:=by
  cases hq:S.msgs.find? (fun m=>m.name==x.name)with
  |none=>have:=QHx.1 hq x hmem;simp at this
  |some y=>exact⟨y,rfl⟩
 have hym:=hS.msgs y (QHy hy);have hnl:(XU y).length≤maxLen:=by
  have h1:=YQ y y.fields.length;have h2:=hym.len1;have h3:XU y=XK y y.fields.length:=by unfold XU XK;rw[QHh]
  rw[h3];simp only[maxLen];omega
 have hnd:=QoF hM y hym;simp only[QY,SM.cells]at hnd;rw[hy,QGU]at hc;have hst:(S.msgs.take (i+1)).foldl (Zf S) X=Zf S ((S.msgs.take i).foldl (Zf S) X) x:=by
  rw[QHk,hx,QHl,List.foldl_append];rfl
 have hfs:∀Y,Zf S Y x=if (XU y).any (fun n=>QW S n && !Y.contains n)=true then Y else if Y.contains x.name=true then Y else Y++[x.name]:=by
  intro Y;unfold Zf;rw[hy]
 have fin:∀(f:Fr) (fr:Nat→Ob),f 1=.ptr 0 1 0→f 3=.ptr 0 3 0→f 17=.list (S.msgs.map QY)→f 18=.int .i64 (S.msgs.length:Nat)→f 19=.int .i64 ((i+1:Nat):Int)→f 13=.int .i64 ((S.msgs.length+1:Nat):Int)→f 14=.int .i64 r→fr 1=.cells [.list (S.msgs.map fun n=>.agg n.cells),.list (S.enums.map fun n=>.agg n.cells),.list (S.servs.map fun n=>.agg n.cells)]→fr 3=.cells [.mptr 0 9]→fr 9=.iter (.mp ((S.msgs.take (i+1)).foldl (Zf S) X) (Xe ((S.msgs.take (i+1)).foldl (Zf S) X))) 0→(∀s∈[5,6],(fr s).isRow=false)→∃k,k<S.msgs.length-i∧I k ⟨f,[fr],[]⟩ :=
  fun f fr a b c d e g h j k l n=>⟨S.msgs.length-(i+1),by omega,f,fr,i+1,rfl,rfl,by omega,a,b,c,d,e,g,h,j,k,l,n⟩
 generalize hY:(S.msgs.take i).foldl (Zf S) X=Y at m9 hst;rw[hst,hfs]at fin;simp only[QC hlt,n5,Qi,QHa,Qc,hg,m1,h1,h17,h19,eE,seval];refine aC hc ?_;simp only[n6,eE,seval];refine aC hnd ?_;simp only[Qa,seval];refine Qb (NB (XU y) hnl (fun n=>QW S n && !Y.contains n) 121 [.ptr 0 1 0,.ptr 0 3 0] _ fun o _=>QBo hM S hS o Y _ (by exact m1) (by exact m3) (by exact m9)) (by simp only[QGn,QGK,h1,h3,Qa,seval]<;>rfl) ?_;cases hb:(XU y).any fun n=>QW S n && !Y.contains n
 ·rw[hb,QFX (by decide)]at fin;simp only[QGR,h3,m3,eE,seval];refine⟨0,9,Y,Xe Y,0,x.name,(by rfl),by simp only[m9,eE,seval],(by rfl),rfl,QoG Y,I6 Y,?_⟩;rw[show RA.ev _ (.c (.bool true))=AV.bool true from rfl,MP];cases hYc:Y.contains x.name
  ·rw[hYc,QFX (by decide)]at fin;simp only[Qh,QF9,h19,e1,eE,seval];exact fin _ _ (by exact h1) (by exact h3) (by exact h17) (by exact h18) (by rfl) (by exact h13) (by exact h14) (by exact m1) (by exact m3) (by rfl) (by simp only[QG2,QHG,or_false];rintro s (rfl|rfl)<;>rfl)
  ·rw[hYc,QFY rfl]at fin;simp only[Qh,h19,e1,eE,seval];exact fin _ _ (by exact h1) (by exact h3) (by exact h17) (by exact h18) (by rfl) (by exact h13) (by exact h14) (by exact m1) (by exact m3) (by rfl) (by simp only[QG2,QHG,or_false];rintro s (rfl|rfl)<;>rfl)
 ·rw[hb,QFY rfl]at fin;simp only[QHq,h19,e1,Qa,seval];exact fin _ _ (by exact h1) (by exact h3) (by exact h17) (by exact h18) (by rfl) (by exact h13) (by exact h14) (by exact m1) (by exact m3) (by exact m9) (by simp only[QG2,QHG,or_false];rintro s (rfl|rfl)<;>rfl)

include hM hS in
theorem QBr:Qs Tryz.prog 101 [S.av] (.mp (Wp S) (Xe (Wp S))):=by
 obtain⟨l1,_,_⟩:=Zw S hS hM;have hlm:=hS.len1;have w1:IntKind.i64.wrap ((S.msgs.length:Int)+1)=((S.msgs.length+1:Nat):Int):=by rw[ZM];omega
 refine Qbh.fn (by simp) ?_;simp only[SC.av,eE,seval];refine⟨rfl,?_⟩;simp only[Qh,QG7,w1,eE,seval];refine Qd (FoI S) _ ⟨_,_,0,rfl,rfl,QFZ _,(by rfl),(by rfl),(by rfl),(by rfl),(by rfl),(by rfl),(by rfl),by intro s hs;simp only[QG2,QHG,or_false]at hs;rcases hs with rfl|rfl<;>rfl⟩ ?_;rintro _ st ⟨f0,fr0,i,rfl,rfl,hi,h10,h30,h130,h140,m10,m30,m90,Kt⟩;refine Qz (a:=_) [6,5] (by intro s hs;exact Kt s (by simp only[QG2,QHG,or_false]at hs ⊢;omega)) ?_;intro f fr hf hmm hn;have h1:f 1=.ptr 0 1 0:=by rw[hf,h10]<;>rfl
 have h3:f 3=.ptr 0 3 0:=by rw[hf,h30]<;>rfl
 have h13:f 13=.int .i64 ((S.msgs.length+1:Nat):Int):=by rw[hf,h130]<;>rfl
 have h14:f 14=.int .i64 (i:Nat):=by rw[hf,h140]<;>rfl
 have m1:fr 1=.cells [.list (S.msgs.map fun n=>.agg n.cells),.list (S.enums.map fun n=>.agg n.cells),.list (S.servs.map fun n=>.agg n.cells)]:=by rw[hmm 1 (by decide),m10]<;>rfl
 have m3:fr 3=.cells [.mptr 0 9]:=by rw[hmm 3 (by decide),m30]<;>rfl
 have m9:fr 9=.iter (.mp (Wo S i) (Xe (Wo S i))) 0:=by rw[hmm 9 (by decide),m90]<;>rfl
 have n5:=hn 5 (by decide);have n6:=hn 6 (by decide);clear hf hmm hn h10 h30 h130 h140 m10 m30 m90 Kt;simp only[h13,h14,Qa,seval];by_cases hlt:i<S.msgs.length+1
 case neg=>
  have e:i=S.msgs.length+1:=by omega
  subst e;simp only[QG hlt,h3,m3,m9,eE,seval];rfl
 have e1:=Qo i _ hlt (by simp only[maxLen];omega);simp only[QC hlt,m1,h1,QG7,eE,seval];refine QoH hM S hS (Wo S i) _ _ (by exact h1) (by exact h3) (by rfl) (by rfl) (by rfl) (by exact m1) (by exact m3) (by exact m9) (by simp only[QG2,QHG,or_false];rintro s (rfl|rfl)<;>simp only[n5,n6]<;>rfl) (by exact h13) _ (by exact h14) _ (fun f fr h1 h3 h13 h14 m1 m3 m9 Kt=>?_);simp only[h14,e1,Qa,seval];exact⟨S.msgs.length+1-(i+1),by omega,_,_,i+1,rfl,rfl,by omega,(by exact h1),(by exact h3),(by exact h13),(by rfl),(by exact m1),(by exact m3),(by exact m9),Kt⟩
end

theorem K5 (S:SC)(m:SM)(i:Nat)(x:SF):(Ju S m i x).length≤10:=by
 unfold Ju Xs;exact Qu (Qu (Qu (Qu (Qu (Qu (Qu (Qu (Qu (QX _ _ _ _) _ _ _ _) _ _ _ _) _ _ _ _) _ _ _ _) _ _ _ _) _ _ _ _) _ _ _ _) _ _ _ _) _ _ _ _
theorem Ye {fr:Nat→Ob}{s R:Nat}{d:List UInt8}{n:Int}{l:List PB}(h1:fr s=.cells [.str d,.int .i64 n,.vec 0 R (1+l.length) 0 l.length false])(h2:fr R=.vec (1+l.length) 3 (l.map PB.av)):Qm fr s R d n l=fr:=by
 rw[Qm,KT _ _ _ h2,KT _ _ _ h1]
theorem Ge (fr:Nat→Ob)(s R:Nat)(d:List UInt8)(n:Int)(h:R≠s)(A:Ob):Qp (Qp (Qp fr s A) R (.vec 1 3 [])) s (.cells ([.str d,.int .i64 n,.nils].set 2 (.vec 0 R 1 0 0 false)))=Qm fr s R d n []:=by
 rw[ZT _ _ _ _ _ (Ne.symm h),Z6];rfl
theorem Hn {fr:Nat→Ob}{s R:Nat}{d:List UInt8}{n:Int}{l:List PB}{k:Nat}(h1:k≠R)(h2:k≠s)(o:Ob):Qp (Qm fr s R d n l) k o=Qm (Qp fr k o) s R d n l:=by
 rw[Qm,Qm,ZT _ _ _ _ _ (Ne.symm h2),ZT _ _ _ _ _ (Ne.symm h1)]

section
variable {M:Nat}(hM:M≤1048576)(S:SC)(hS:S.ok M)(m:SM)(hm:m.ok M)(X:List (List UInt8))(base:Nat→Ob)
variable (b3:base 3=.cells [.list (S.msgs.map fun n=>.agg n.cells),.list (S.enums.map fun n=>.agg n.cells),.list (S.servs.map fun n=>.agg n.cells)])(b4:base 4=.cells [.str m.name,.list (m.fields.map fun n=>.agg n.cells),.list (m.free.map fun n=>.agg n.cells),.list (m.gone.map AV.str),.list (m.notes.map fun n=>.agg n.cells)])

def MF (X:List (List UInt8))(f:Fr):Prop:=f 2=.mp X (Xe X)∧f 3=.ptr 0 3 0∧f 4=.ptr 0 4 0∧f 7=.ptr 0 14 0

include hM hS hm b3 b4 in
theorem MQ (l:List PB)(hl:l.length≤1000000)(f:Fr)(hf:MF X f)(h38:f 38=.int .i64 (m.fields.length:Nat))(h39:f 39=.int .i64 0)(Q:Exit→St→Prop)
  (hq:∀f,MF X f→Q (.exit 0) ⟨f,[Qm base 14 1100 m.name (-1) (l++upto m.fields (Ju S m) m.fields.length)],[]⟩):QK Tryz.prog (.loop GX) ⟨f,[Qm base 14 1100 m.name (-1) l],[]⟩ Q:=by
 let I:Nat→St→Prop:=fun k st=>∃f i,st=⟨f,[Qm base 14 1100 m.name (-1) (l++upto m.fields (Ju S m) i)],[]⟩∧k=m.fields.length-i∧i≤m.fields.length∧MF X f∧f 38=.int .i64 (m.fields.length:Nat)∧f 39=.int .i64 (i:Nat)
 have hl1:=hm.len1;have c3:∀n l,Qm base 14 1100 m.name n l 3=base 3:=fun n l=>QR _ _ _ _ _ _ (by decide) (by decide)
 have c4:∀n l,Qm base 14 1100 m.name n l 4=base 4:=fun n l=>QR _ _ _ _ _ _ (by decide) (by decide)
 refine Qd I _ ⟨f,0,by rw[upto,QGM],rfl,QFZ _,hf,h38,h39⟩ ?_;clear hf h38 h39;rintro _ st ⟨f,i,rfl,rfl,hi,⟨h2,h3,h4,h7⟩,h38,h39⟩;simp only[GX,Cq,h38,h39,Qa,seval];by_cases hlt:i<m.fields.length
 case neg=>
  have e:i=m.fields.length:=by omega
  subst e;simp only[QG hlt,Qa,seval];exact hq _ ⟨(by exact h2),(by exact h3),(by exact h4),(by exact h7)⟩
 obtain⟨x,hx⟩:∃x,m.fields[i]? = some x:=⟨m.fields[i],QFT hlt⟩;have e1:=Qo i _ hlt (by simp only[maxLen];omega);have hul:=QP (l:=m.fields) (K5 S m) i;have hfl:=QBn base 14 1100 (by decide) rfl [] hM S hS m hm i x hx (l++upto m.fields (Ju S m) i) (by rw[QGs];omega) (-1);simp only[SC.av,QY,Xz m]at hfl;simp only[QC hlt,Cr,Cs,Ct,c3,c4,b3,b4,h3,h4,h7,h39,eE,seval];refine Qb hfl (by simp only[QGn,QGK,Qa,seval]<;>rfl) ?_;simp only[h39,e1,Qa,seval];exact⟨m.fields.length-(i+1),by omega,_,i+1,by rw[X1 hx,QGa],rfl,by omega,⟨(by exact h2),(by exact h3),(by exact h4),(by exact h7)⟩,(by exact h38),(by rfl)⟩

include hM hm in
theorem I7 (l:List PB)(hl:l.length≤100000000)(f:Fr)(hf:MF X f)(h53:f 53=.list (m.gone.map AV.str))(h54:f 54=.int .i64 (m.gone.length:Nat))(h55:f 55=.int .i64 0)(Q:Exit→St→Prop)
  (hq:∀f,MF X f→Q (.exit 2) ⟨f,[Qm base 14 1100 m.name (-1) (l++upto m.gone (fun _ g=>pb m.name (-1) (ZR g) 7) m.gone.length)],[]⟩):QK Tryz.prog (.loop GY) ⟨f,[Qm base 14 1100 m.name (-1) l],[]⟩ Q:=by
 let I:Nat→St→Prop:=fun k st=>∃f i,st=⟨f,[Qm base 14 1100 m.name (-1) (l++upto m.gone (fun _ g=>pb m.name (-1) (ZR g) 7) i)],[]⟩∧k=m.gone.length-i∧i≤m.gone.length∧MF X f∧f 53=.list (m.gone.map AV.str)∧f 54=.int .i64 (m.gone.length:Nat)∧f 55=.int .i64 (i:Nat)
 have hl1:=hm.len3;refine Qd I _ ⟨f,0,by rw[upto,QGM],rfl,QFZ _,hf,h53,h54,h55⟩ ?_;clear hf h53 h54 h55;rintro _ st ⟨f,i,rfl,rfl,hi,⟨h2,h3,h4,h7⟩,h53,h54,h55⟩;simp only[GY,FQ,h54,h55,Qa,seval];by_cases hlt:i<m.gone.length
 case neg=>
  have e:i=m.gone.length:=by omega
  subst e;simp only[QG hlt,Qa,seval];exact hq _ ⟨(by exact h2),(by exact h3),(by exact h4),(by exact h7)⟩
 obtain⟨x,hx⟩:∃x,m.gone[i]? = some x:=⟨m.gone[i],QFT hlt⟩;have hg:(m.gone.map AV.str)[i]? = some (.str x):=by rw[QG5,hx];rfl
 have hxl:=hm.gone x (QF4 hx);have e1:=Qo i _ hlt (by simp only[maxLen];omega);have hul:=QP (l:=m.gone) (g:=fun _ g=>pb m.name (-1) (ZR g) 7) (c:=1) (fun _ g=>QX ..) i;have hfl:=XB base 14 1100 m.name (-1) (l++upto m.gone (fun _ g=>pb m.name (-1) (ZR g) 7) i) (by decide) rfl (by rw[QGs];omega) (ZR x) 7 [];simp only[QC hlt,FR,FS,FT,Qi,QHa,Qc,hg,h7,h53,h55,eE,seval];refine aC (Qn8 x) ?_
 try simp only[eE,seval]
 refine Qb hfl (by simp only[QGn,QGK,Qa,seval]<;>rfl) ?_;simp only[h55,e1,Qa,seval];exact⟨m.gone.length-(i+1),by omega,_,i+1,by rw[X1 hx,QGa],rfl,by omega,⟨(by exact h2),(by exact h3),(by exact h4),(by exact h7)⟩,(by exact h53),(by exact h54),(by rfl)⟩

theorem QwR (a b:Nat):decide ((if (a:Int)<(b:Int)then(b:Int)else(a:Int))≤16)=(decide (a≤16)&&decide (b≤16)):=by
 rw[QGE,QGd,QG4,QG4,QG4];split<;>omega
theorem NF (a:Nat):decide ((a:Int)≤64)=decide (a≤64):=(by rw[QGE];simp only[QG4];omega)

include hM hm b4 in
theorem im3 (l:List PB)(hl:l.length≤1000000)(f:Fr)(hf:MF X f)(K:St→Prop)
  (hK:∀f,MF X f→K ⟨f,[Qm base 14 1100 m.name (-1) (l++pb m.name (-1) (decide (m.fields.length≤64)&&decide (m.free.length≤16)&&decide (m.gone.length≤16)) 3)],[]⟩):Qj Tryz.prog GW ⟨f,[Qm base 14 1100 m.name (-1) l],[]⟩ K:=by
 obtain⟨h2,h3,h4,h7⟩:=hf;have c4:∀n l,Qm base 14 1100 m.name n l 4=base 4:=fun n l=>QR _ _ _ _ _ _ (by decide) (by decide)
 rw[Bool.and_assoc]at hK;simp only[GW,c4,b4,QG7,NF,h4,h7,eE,seval];cases a1:decide (m.fields.length≤64)
 ·rw[a1]at hK;simp only[Qa,seval];refine Qb (XB base 14 1100 m.name (-1) l (by decide) rfl (by omega) false 3 []) (by simp only[QGn,QGK,Qa,seval]<;>rfl) ?_;simp only[Qa,seval];exact hK _ ⟨(by exact h2),(by exact h3),(by exact h4),(by exact h7)⟩
 ·rw[a1]at hK;simp only[c4,b4,QG7,QwR,h4,eE,seval];refine Qb (XB base 14 1100 m.name (-1) l (by decide) rfl (by omega) (decide (m.free.length≤16)&&decide (m.gone.length≤16)) 3 []) (by simp only[QGn,QGK,Qa,seval]<;>rfl) ?_;simp only[Qa,seval];exact hK _ ⟨(by exact h2),(by exact h3),(by exact h4),(by exact h7)⟩
end

theorem QBs {M:Nat}(hM:M≤1048576)(S:SC)(hS:S.ok M)(m:SM)(hm:m.ok M)(X:List (List UInt8)):Qs Tryz.prog 102 [S.av,QY m,.mp X (Xe X)] (.list ((ZX S (fun m=>(XU m).any fun n=>QW S n && !X.contains n) m).map PB.av)):=by
 have hl1:=hm.len1;have hl2:=hm.len2;have hl3:=hm.len3;have hl4:=hm.len4;have hnl:=hm.name;have hcy:=QBq hM S hS X m hm;simp only[SC.av,QY,Xz m]at hcy;refine Qbi.fn (by simp) ?_;simp only[PD,PF,Cl,Cm,SC.av,QY,Xz m,eE,seval];refine Xn rfl rfl rfl rfl ?_;generalize hb:(Qp (Qp Qf 3 _) 4 _:Nat→Ob)=base;have b3:base 3=.cells [.list (S.msgs.map fun n=>.agg n.cells),.list (S.enums.map fun n=>.agg n.cells),.list (S.servs.map fun n=>.agg n.cells)]:=by rw[←hb];exact(by rfl)
 have b4:base 4=.cells [.str m.name,.list (m.fields.map fun n=>.agg n.cells),.list (m.free.map fun n=>.agg n.cells),.list (m.gone.map AV.str),.list (m.notes.map fun n=>.agg n.cells)]:=by rw[←hb];exact(by rfl)
 have c3:∀n l,Qm base 14 1100 m.name n l 3=base 3:=fun n l=>QR _ _ _ _ _ _ (by decide) (by decide)
 have c4:∀n l,Qm base 14 1100 m.name n l 4=base 4:=fun n l=>QR _ _ _ _ _ _ (by decide) (by decide)
 have cs:∀n l,Qm base 14 1100 m.name n l 14=.cells [.str m.name,.int .i64 n,.vec 0 1100 (1+l.length) 0 l.length false]:=fun n l=>Jk base 14 1100 m.name n l
 have cR:∀n l,Qm base 14 1100 m.name n l 1100=.vec (1+l.length) 3 (l.map PB.av):=fun n l=>Ki base 14 1100 m.name n l (by decide)
 rw[Ge base 14 1100 m.name (-1) (by decide)];simp only[Cn,c4,b4,eE,seval];refine aC (Rh m.name (by omega)) ?_
 try simp only[eE,seval]
 refine Qb (XB base 14 1100 m.name (-1) [] (by decide) rfl (by simp) (Xp m.name) 8 []) (by simp only[QGn,QGK,Qa,seval]<;>rfl) ?_;simp only[QGc,Qa,seval];have q1:=QX m.name (-1) (Xp m.name) 8;refine im3 hM m hm X base b4 _ (by omega) _ ⟨(by rfl),(by rfl),(by rfl),(by rfl)⟩ _ (fun f hf=>?_);have q2:=Qu q1 m.name (-1) (decide (m.fields.length≤64)&&decide (m.free.length≤16)&&decide (m.gone.length≤16)) 3;obtain⟨h2,h3,h4,h7⟩:=hf;simp only[Co,c4,b4,QG7,h4,eE,seval];refine MQ hM S hS m hm X base b3 b4 _ (by omega) _ ⟨(by exact h2),(by exact h3),(by exact h4),(by exact h7)⟩ (by rfl) (by rfl) _ (fun f hf=>?_);clear h2 h3 h4 h7;have q3:=QP (l:=m.fields) (K5 S m) m.fields.length;obtain⟨h2,h3,h4,h7⟩:=hf;simp only[Cu,c4,b4,h4,h7,eE,seval];have hsp:=AC base 14 1100 m.name (pb m.name (-1) (Xp m.name) 8++pb m.name (-1) (decide (m.fields.length≤64)&&decide (m.free.length≤16)&&decide (m.gone.length≤16)) 3++upto m.fields (Ju S m) m.fields.length) (by decide) rfl 1 65535 m.free (by omega) [] (by rw[QGs];omega);refine Qb hsp (by simp only[QGn,QGK,Qa,seval]<;>rfl) ?_;simp only[FP,c4,b4,QG7,h4,eE,seval];have q4:=QP (l:=m.free) (Jw m.name 1 65535 m.free) m.free.length;have q5:(pb m.name (-1) (Xp m.name) 8++pb m.name (-1) (decide (m.fields.length≤64)&&decide (m.free.length≤16)&&decide (m.gone.length≤16)) 3++upto m.fields (Ju S m) m.fields.length++upto m.free (JM m.name 1 65535 m.free) m.free.length).length≤99000000:=by
  rw[QGs,QGs];omega
 refine I7 hM m hm X base _ (by omega) _ ⟨(by exact h2),(by exact h3),(by exact h4),(by exact h7)⟩ (by rfl) (by rfl) (by rfl) _ (fun f hf=>?_);clear h2 h3 h4 h7;have q6:=QP (l:=m.gone) (g:=fun _ g=>pb m.name (-1) (ZR g) 7) (c:=1) (fun _ g=>QX ..) m.gone.length;generalize hL:pb m.name (-1) (Xp m.name) 8++pb m.name (-1) (decide (m.fields.length≤64)&&decide (m.free.length≤16)&&decide (m.gone.length≤16)) 3++upto m.fields (Ju S m) m.fields.length++upto m.free (JM m.name 1 65535 m.free) m.free.length++upto m.gone (fun _ g=>pb m.name (-1) (ZR g) 7) m.gone.length=L;have q7:L.length≤101000000:=by
  rw[←hL,QGs];omega
 obtain⟨h2,h3,h4,h7⟩:=hf;simp only[FU,c4,b4,h4,h7,eE,seval];refine Qb (UT base 14 1100 m.name (-1) L (by decide) rfl (by omega) [] m.notes (by simp only[maxLen];omega) hm.notes 1 (by decide)) (by simp only[QGn,QGK,Qa,seval]<;>rfl) ?_;have q8:(L++Xs m.name (-1) m.notes 1).length≤101000001:=Qu q7 _ _ _ _;simp only[FV,c3,c4,b3,b4,h2,h3,h4,h7,eE,seval];refine aC hcy ?_;simp only[Qa,seval];refine Qb (XB base 14 1100 m.name (-1) (L++Xs m.name (-1) m.notes 1) (by decide) rfl (by omega) _ 19 []) (by simp only[QGn,QGK,Qa,seval]<;>rfl) ?_;have hfin:ZX S (fun m=>(XU m).any fun n=>QW S n && !X.contains n) m=L++Xs m.name (-1) m.notes 1++pb m.name (-1) (!(XU m).any fun n=>QW S n && !X.contains n) 19:=by rw[←hL];rfl
 rw[←hfin];have ht:∀l:List PB,List.take l.length (List.map PB.av l)=List.map PB.av l:=fun l=>QGo (by rw[QG7];exact QFQ _)
 simp only[FW,cs,cR,h7,QG7,QGw,ht,QGf,QFQ,QGN,QGT,AV.un,eE,seval]

theorem K6 (e:SE)(i:Nat)(x:SI):(ZY e i x).length≤6:=by
 unfold ZY Xs;exact Qu (Qu (Qu (Qu (Qu (QX _ _ _ _) _ _ _ _) _ _ _ _) _ _ _ _) _ _ _ _) _ _ _ _
theorem Z0 (x:SI):x.cells=[.str x.name,.int .i64 x.num,.list (x.notes.map fun n=>.agg n.cells)]:=rfl
theorem Zg (x:SE):x.cells=[.str x.name,.bool x.opn,.list (x.items.map fun n=>.agg n.cells),.list (x.free.map fun n=>.agg n.cells),.list (x.notes.map fun n=>.agg n.cells)]:=rfl

def EF (e:SE)(i:Nat)(f:Fr):Prop:=f 1=.ptr 0 1 0∧f 3=.ptr 0 9 0∧f 4=.int .i64 (i:Nat)∧f 5=.ptr 0 5 0∧f 48=.list (e.items.map ZD)∧f 49=.int .i64 (e.items.length:Nat)∧f 50=.int .i64 (i:Nat)

section
variable {M:Nat}(hM:M≤1048576)(e:SE)(he:e.ok M)(i:Nat)(x:SI)(hi:e.items[i]? = some x)
variable (fr:Nat→Ob)(o1:fr 1=.cells e.cells)(o5:fr 5=.cells x.cells)
variable (l:List PB)(hl:l.length≤1073741824)(f:Fr)(hf:EF e i f)(K:St→Prop)
include hl hf

include o5 in
theorem en9 (hK:∀f,EF e i f→K ⟨f,[Qm fr 9 1100 e.name x.num (l++pb e.name x.num (decide (x.num≥0)&&decide (x.num≤2147483647)) 6)],[]⟩):Qj Tryz.prog DN ⟨f,[Qm fr 9 1100 e.name x.num l],[]⟩ K:=by
 obtain⟨h1,h3,h4,h5,h48,h49,h50⟩:=hf;have c5:∀n l,Qm fr 9 1100 e.name n l 5=fr 5:=fun n l=>QR _ _ _ _ _ _ (by decide) (by decide)
 rw[Z0]at o5;simp only[DN,h3,h5,c5,o5,eE,seval];cases a1:decide (x.num≥0)
 ·rw[a1]at hK;simp only[Qa,seval];refine Qb (XB fr 9 1100 e.name x.num l (by decide) rfl hl false 6 []) (by simp only[QGn,QGK,Qa,seval]<;>rfl) ?_;simp only[Qa,seval];exact hK _ ⟨(by exact h1),(by exact h3),(by exact h4),(by exact h5),(by exact h48),(by exact h49),(by exact h50)⟩
 ·rw[a1]at hK;simp only[h5,c5,o5,eE,seval];refine Qb (XB fr 9 1100 e.name x.num l (by decide) rfl hl (decide (x.num≤2147483647)) 6 []) (by simp only[QGn,QGK,Qa,seval]<;>rfl) ?_;simp only[Qa,seval];exact hK _ ⟨(by exact h1),(by exact h3),(by exact h4),(by exact h5),(by exact h48),(by exact h49),(by exact h50)⟩

include o1 o5 hi hM he in
theorem QBt (hK:∀f,EF e i f→K ⟨f,[Qm fr 9 1100 e.name x.num (l++pb e.name x.num (JQ e.items SI.num i x) 11)],[]⟩):Qj Tryz.prog Yc ⟨f,[Qm fr 9 1100 e.name x.num l],[]⟩ K:=by
 obtain⟨h1,h3,h4,h5,h48,h49,h50⟩:=hf;have c1:∀n l,Qm fr 9 1100 e.name n l 1=fr 1:=fun n l=>QR _ _ _ _ _ _ (by decide) (by decide)
 have c5:∀n l,Qm fr 9 1100 e.name n l 5=fr 5:=fun n l=>QR _ _ _ _ _ _ (by decide) (by decide)
 have hlt:i<e.items.length:=(QFS.1 hi).1;have hl1:=he.len1;rw[Z0]at o5;rw[Zg]at o1;cases i with
 |zero=>
  simp only[Yc,h3,h4,Qa,seval];refine Qb (XB fr 9 1100 e.name x.num l (by decide) rfl hl true 11 []) (by simp only[QGn,QGK,Qa,seval]<;>rfl) ?_;simp only[Qa,seval];exact hK _ ⟨(by exact h1),(by exact h3),(by exact h4),(by exact h5),(by exact h48),(by exact h49),(by exact h50)⟩
 |succ j=>
  obtain⟨y,hj⟩:∃y,e.items[j]? = some y:=⟨e.items[j]'(by omega),QFT (by omega)⟩;have hg:(e.items.map fun n=>AV.agg n.cells)[j]? = some (.agg y.cells):=by rw[QG5,hj];rfl
  have wj:=JU j _ hlt (by simp only[maxLen];omega);have d0:(((j+1:Nat):Int)==0)=false:=by rw[QHC];omega
  rw[Z0]at hg;simp only[JQ,hj]at hK;simp only[Yc,d0,wj,Qi,QHa,Qc,hg,h1,h3,h4,h5,c1,c5,o1,o5,eE,seval];refine Qb (XB fr 9 1100 e.name x.num l (by decide) rfl hl (decide (x.num > y.num)) 11 []) (by simp only[QGn,QGK,Qa,seval]<;>rfl) ?_;simp only[Qa,seval];exact hK _ ⟨(by exact h1),(by exact h3),(by exact h4),(by exact h5),(by exact h48),(by exact h49),(by exact h50)⟩

include o5 in
theorem QBu (hK:∀f,EF e i f→K ⟨f,[Qm fr 9 1100 e.name x.num (l++pb e.name x.num (Xb x.name) 8)],[]⟩):Qj Tryz.prog U6 ⟨f,[Qm fr 9 1100 e.name x.num l],[]⟩ K:=by
 obtain⟨h1,h3,h4,h5,h48,h49,h50⟩:=hf;have c5:∀n l,Qm fr 9 1100 e.name n l 5=fr 5:=fun n l=>QR _ _ _ _ _ _ (by decide) (by decide)
 rw[Z0]at o5;simp only[U6,h3,h5,c5,o5,eE,seval];refine aC (NE x.name) ?_
 try simp only[eE,seval]
 refine Qb (XB fr 9 1100 e.name x.num l (by decide) rfl hl (Xb x.name) 8 []) (by simp only[QGn,QGK,Qa,seval]<;>rfl) ?_;simp only[Qa,seval];exact hK _ ⟨(by exact h1),(by exact h3),(by exact h4),(by exact h5),(by exact h48),(by exact h49),(by exact h50)⟩

include o1 hi hM he in
theorem QBv (hK:∀f,EF e i f→K ⟨f,[Qm fr 9 1100 e.name x.num (l++pb e.name x.num (!((e.items.take i).any fun y=>y.name==x.name)) 9)],[]⟩):Qj Tryz.prog U7 ⟨f,[Qm fr 9 1100 e.name x.num l],[]⟩ K:=by
 obtain⟨h1,h3,h4,h5,h48,h49,h50⟩:=hf;have c1:∀n l,Qm fr 9 1100 e.name n l 1=fr 1:=fun n l=>QR _ _ _ _ _ _ (by decide) (by decide)
 have hl1:=he.len1;have hsn:=QBi e.items (by simp only[maxLen];omega) i x hi 130 SI.name QBe [Qm fr 9 1100 e.name x.num l];rw[Zg]at o1;simp only[U7,h1,h3,h4,c1,o1,eE,seval];refine Qb hsn (by simp only[QGn,QGK,Qa,seval]<;>rfl) ?_;simp only[Qa,seval];refine Qb (XB fr 9 1100 e.name x.num l (by decide) rfl hl _ 9 []) (by simp only[QGn,QGK,Qa,seval]<;>rfl) ?_;simp only[Qa,seval];exact hK _ ⟨(by exact h1),(by exact h3),(by exact h4),(by exact h5),(by exact h48),(by exact h49),(by exact h50)⟩

include o1 o5 hM he in
theorem QBw (hK:∀f,EF e i f→K ⟨f,[Qm fr 9 1100 e.name x.num (l++pb e.name x.num (!(kept e.free x.num)) 21)],[]⟩):Qj Tryz.prog U8 ⟨f,[Qm fr 9 1100 e.name x.num l],[]⟩ K:=by
 obtain⟨h1,h3,h4,h5,h48,h49,h50⟩:=hf;have c1:∀n l,Qm fr 9 1100 e.name n l 1=fr 1:=fun n l=>QR _ _ _ _ _ _ (by decide) (by decide)
 have c5:∀n l,Qm fr 9 1100 e.name n l 5=fr 5:=fun n l=>QR _ _ _ _ _ _ (by decide) (by decide)
 have hl2:=he.len2;have hr:Qs Tryz.prog 131 [.list (e.free.map fun n=>AV.agg n.cells),.int .i64 x.num] (.bool (kept e.free x.num)):=Qn7 e.free (by simp only[maxLen];omega) x.num;rw[Z0]at o5;rw[Zg]at o1;simp only[U8,h1,h3,h5,c1,c5,o1,o5,eE,seval];refine aC hr ?_;simp only[Qa,seval];refine Qb (XB fr 9 1100 e.name x.num l (by decide) rfl hl _ 21 []) (by simp only[QGn,QGK,Qa,seval]<;>rfl) ?_;simp only[Qa,seval];exact hK _ ⟨(by exact h1),(by exact h3),(by exact h4),(by exact h5),(by exact h48),(by exact h49),(by exact h50)⟩

include o5 hM he hi in
theorem QBx (hK:∀f,EF e i f→K ⟨f,[Qm fr 9 1100 e.name x.num (l++Xs e.name x.num x.notes 4)],[]⟩):Qj Tryz.prog U9 ⟨f,[Qm fr 9 1100 e.name x.num l],[]⟩ K:=by
 obtain⟨h1,h3,h4,h5,h48,h49,h50⟩:=hf;have c5:∀n l,Qm fr 9 1100 e.name n l 5=fr 5:=fun n l=>QR _ _ _ _ _ _ (by decide) (by decide)
 have hx:=he.items x (QF4 hi);have hln:=hx.len;rw[Z0]at o5;simp only[U9,h3,h5,c5,o5,eE,seval];refine Qb (UT fr 9 1100 e.name x.num l (by decide) rfl hl [] x.notes (by simp only[maxLen];omega) hx.notes 4 (by decide)) (by simp only[QGn,QGK,Qa,seval]<;>rfl) ?_;simp only[Qa,seval];exact hK _ ⟨(by exact h1),(by exact h3),(by exact h4),(by exact h5),(by exact h48),(by exact h49),(by exact h50)⟩
end

section
variable {M:Nat}(hM:M≤1048576)(e:SE)(he:e.ok M)

include hM he in
theorem Ri (l:List PB)(hl:l.length≤1000000)(n:Int)(f:Fr)(fr:Nat→Ob)(h1:f 1=.ptr 0 1 0)(h3:f 3=.ptr 0 9 0)(h48:f 48=.list (e.items.map ZD))(h49:f 49=.int .i64 (e.items.length:Nat))(h50:f 50=.int .i64 0)(o1:fr 1=.cells e.cells)(o5:fr 5=.none)(Q:Exit→St→Prop)
  (hq:∀(f:Fr) (fr:Nat→Ob) (n:Int),f 1=.ptr 0 1 0→f 3=.ptr 0 9 0→fr 1=.cells e.cells→Q (.exit 0) ⟨f,[Qm fr 9 1100 e.name n (l++upto e.items (ZY e) e.items.length)],[]⟩):QK Tryz.prog (.loop Mx) ⟨f,[Qm fr 9 1100 e.name n l],[]⟩ Q:=by
 let I:Nat→St→Prop:=fun k st=>∃f fr n i,st=⟨f,[Qm fr 9 1100 e.name n (l++upto e.items (ZY e) i)],[]⟩∧k=e.items.length-i∧i≤e.items.length∧f 1=.ptr 0 1 0∧f 3=.ptr 0 9 0∧f 48=.list (e.items.map ZD)∧f 49=.int .i64 (e.items.length:Nat)∧f 50=.int .i64 (i:Nat)∧fr 1=.cells e.cells∧(fr 5).isRow=false
 have hl1:=he.len1;refine Qd I _ ⟨f,fr,n,0,by rw[upto,QGM],rfl,QFZ _,h1,h3,h48,h49,h50,o1,by rw[o5];rfl⟩ ?_;clear h1 h3 h48 h49 h50 o1 o5;rintro _ st ⟨f0,fr0,n,i,rfl,rfl,hi,h10,h30,h480,h490,h500,Xw,r5⟩;refine Qz (a:=_) [5] (by intro s hs;simp only[QG2,QHG,or_false]at hs;subst hs;rw[QR _ _ _ _ _ _ (by decide) (by decide)];exact r5) ?_;intro f fr hf hmm hn;have h1:f 1=.ptr 0 1 0:=by rw[hf,h10]<;>rfl
 have h3:f 3=.ptr 0 9 0:=by rw[hf,h30]<;>rfl
 have h48:f 48=.list (e.items.map ZD):=by rw[hf,h480]<;>rfl
 have h49:f 49=.int .i64 (e.items.length:Nat):=by rw[hf,h490]<;>rfl
 have h50:f 50=.int .i64 (i:Nat):=by rw[hf,h500]<;>rfl
 have o1:fr 1=.cells e.cells:=by rw[hmm 1 (by decide),QR _ _ _ _ _ _ (by decide) (by decide),Xw]<;>rfl
 have o9:fr 9=.cells [.str e.name,.int .i64 n,.vec 0 1100 (1+(l++upto e.items (ZY e) i).length) 0 (l++upto e.items (ZY e) i).length false]:=by rw[hmm 9 (by decide),Jk]<;>rfl
 have oR:fr 1100=.vec (1+(l++upto e.items (ZY e) i).length) 3 ((l++upto e.items (ZY e) i).map PB.av):=by rw[hmm 1100 (by decide),Ki _ _ _ _ _ _ (by decide)]<;>rfl
 have n5:=hn 5 (by decide);clear hf hmm hn h10 h30 h480 h490 h500 Xw r5;simp only[Mu,h49,h50,Qa,seval];by_cases hlt:i<e.items.length
 case neg=>
  have ei:i=e.items.length:=by omega
  subst ei;simp only[QG hlt,Qa,seval];rw[←Ye o9 oR];exact hq _ _ _ (by exact h1) (by exact h3) o1
 obtain⟨x,hx⟩:∃x,e.items[i]? = some x:=⟨e.items[i],QFT hlt⟩;have hg:(e.items.map ZD)[i]? = some (.agg x.cells):=by rw[QG5,hx];rfl
 rw[Z0]at hg;have e1:=Qo i _ hlt (by simp only[maxLen];omega);have hul:=QP (l:=e.items) (K6 e) i;have q0:(l++upto e.items (ZY e) i).length≤100000000:=by rw[QGs];omega
 simp only[QC hlt,n5,Mv,Qi,QHa,Qc,hg,h48,h50,eE,seval];have hfe:Qp fr 5 (.cells [.str x.name,.int .i64 x.num,.list (x.notes.map fun n=>.agg n.cells)])=Qm (Qp fr 5 (.cells [.str x.name,.int .i64 x.num,.list (x.notes.map fun n=>.agg n.cells)])) 9 1100 e.name n (l++upto e.items (ZY e) i):=(Ye (by exact o9) (by exact oR)).symm;rw[hfe];generalize hF:Qp fr 5 (.cells [.str x.name,.int .i64 x.num,.list (x.notes.map fun n=>.agg n.cells)])=F;have o1':F 1=.cells e.cells:=by rw[←hF];exact(by exact o1)
 have o5':F 5=.cells x.cells:=by rw[←hF,Z0];exact(by rfl)
 clear hfe hF o1 o9 oR n5;have cs:∀n l,Qm F 9 1100 e.name n l 9=.cells [.str e.name,.int .i64 n,.vec 0 1100 (1+l.length) 0 l.length false]:=fun n l=>Jk F 9 1100 e.name n l
 have c5:∀n l,Qm F 9 1100 e.name n l 5=F 5:=fun n l=>QR _ _ _ _ _ _ (by decide) (by decide)
 have cn:∀n l n',Qp (Qm F 9 1100 e.name n l) 9 (.cells [.str e.name,.int .i64 n',.vec 0 1100 (1+l.length) 0 l.length false])=Qm F 9 1100 e.name n' l:=fun n l n'=>K4 F 9 1100 e.name n l n'
 have o5s:=o5';rw[Z0]at o5s;simp only[Mw,cs,c5,cn,o5s,h3,eE,seval];refine en9 e i x F o5' _ (by omega) _ ⟨(by exact h1),(by exact h3),(by rfl),(by rfl),(by exact h48),(by exact h49),(by exact h50)⟩ _ (fun f hf=>?_);have q1:=Qu q0 e.name x.num (decide (x.num≥0)&&decide (x.num≤2147483647)) 6;simp only[Qa,seval];refine QBt hM e he i x hx F o1' o5' _ (by omega) f hf _ (fun f hf=>?_);have q2:=Qu q1 e.name x.num (JQ e.items SI.num i x) 11;simp only[Qa,seval];refine QBu e i x F o5' _ (by omega) f hf _ (fun f hf=>?_);have q3:=Qu q2 e.name x.num (Xb x.name) 8;simp only[Qa,seval];refine QBv hM e he i x hx F o1' _ (by omega) f hf _ (fun f hf=>?_);have q4:=Qu q3 e.name x.num (!((e.items.take i).any fun y=>y.name==x.name)) 9;simp only[Qa,seval];refine QBw hM e he i x F o1' o5' _ (by omega) f hf _ (fun f hf=>?_);have q5:=Qu q4 e.name x.num (!(kept e.free x.num)) 21;simp only[Qa,seval];refine QBx hM e he i x hx F o5' _ (by omega) f hf _ (fun f hf=>?_);clear h1 h3 h48 h49 h50;obtain⟨h1,h3,h4,h5,h48,h49,h50⟩:=hf;simp only[F6,h50,e1,Qa,seval];exact⟨e.items.length-(i+1),by omega,_,F,x.num,i+1,by rw[X1 hx];unfold ZY;simp only[QGa]<;>rfl,rfl,by omega,(by exact h1),(by exact h3),(by exact h48),(by exact h49),(by rfl),o1',by rw[o5'];rfl⟩
end

section
variable {M:Nat}(hM:M≤1048576)(e:SE)(he:e.ok M)(base:Nat→Ob)(o1:base 1=.cells e.cells)
variable (l:List PB)(hl:l.length≤1000000)(f:Fr)(h1:f 1=.ptr 0 1 0)(h3:f 3=.ptr 0 9 0)(K:St→Prop)
include hM he o1 hl h1 h3

theorem en3 (hK:∀f:Fr,f 1=.ptr 0 1 0→f 3=.ptr 0 9 0→K ⟨f,[Qm base 9 1100 e.name (-1) (l++pb e.name (-1) (decide (e.items.length≥1)&&decide (e.items.length≤64)&&decide (e.free.length≤16)) 3)],[]⟩):Qj Tryz.prog DL ⟨f,[Qm base 9 1100 e.name (-1) l],[]⟩ K:=by
 have c1:∀n l,Qm base 9 1100 e.name n l 1=base 1:=fun n l=>QR _ _ _ _ _ _ (by decide) (by decide)
 have d1:decide ((e.items.length:Int)≥1)=decide (e.items.length≥1):=(by rw[QGE];simp only[QG4];omega);have d3:decide ((e.free.length:Int)≤16)=decide (e.free.length≤16):=(by rw[QGE];simp only[QG4];omega);rw[Zg]at o1;simp only[DL,c1,o1,QG7,d1,h1,h3,eE,seval];cases a1:decide (e.items.length≥1)
 ·rw[a1]at hK;simp only[Qa,seval];refine Qb (XB base 9 1100 e.name (-1) l (by decide) rfl (by omega) false 3 []) (by simp only[QGn,QGK,Qa,seval]<;>rfl) ?_;simp only[Qa,seval];exact hK _ (by exact h1) (by exact h3)
 simp only[c1,o1,QG7,NF,h1,eE,seval];cases a2:decide (e.items.length≤64)
 ·rw[a1,a2]at hK;simp only[Qa,seval];refine Qb (XB base 9 1100 e.name (-1) l (by decide) rfl (by omega) false 3 []) (by simp only[QGn,QGK,Qa,seval]<;>rfl) ?_;simp only[Qa,seval];exact hK _ (by exact h1) (by exact h3)
 rw[a1,a2]at hK;simp only[c1,o1,QG7,d3,h1,eE,seval];refine Qb (XB base 9 1100 e.name (-1) l (by decide) rfl (by omega) (decide (e.free.length≤16)) 3 []) (by simp only[QGn,QGK,Qa,seval]<;>rfl) ?_;simp only[Qa,seval];exact hK _ (by exact h1) (by exact h3)

theorem en4 (hK:∀f:Fr,f 1=.ptr 0 1 0→f 3=.ptr 0 9 0→K ⟨f,[Qm base 9 1100 e.name (-1) (l++pb e.name (-1) (Zv e) 14)],[]⟩):Qj Tryz.prog DM ⟨f,[Qm base 9 1100 e.name (-1) l],[]⟩ K:=by
 have c1:∀n l,Qm base 9 1100 e.name n l 1=base 1:=fun n l=>QR _ _ _ _ _ _ (by decide) (by decide)
 have z1:Int.toNat 0=0:=rfl;have z0:(0≤(0:Int))=True:=by simp
 rw[Zg]at o1;simp only[DM,c1,o1,QG7,Kz,h1,h3,eE,seval];cases hi:e.items with
 |nil=>
  have e0:Zv e=true:=by unfold Zv;rw[hi]
  rw[e0]at hK;simp only[QGV,Qa,seval];refine Qb (XB base 9 1100 e.name (-1) l (by decide) rfl (by omega) true 14 []) (by simp only[QGn,QGK,Qa,seval]<;>rfl) ?_;simp only[Qa,seval];exact hK _ (by exact h1) (by exact h3)
 |cons x r=>
  have e0:Zv e=(x.num==0):=by unfold Zv;rw[hi]
  have b0:((x :: r).length==0)=false:=rfl;have hg:((x :: r).map fun n:SI=>AV.agg n.cells)[0]? = some (.agg [.str x.name,.int .i64 x.num,.list (x.notes.map fun n=>.agg n.cells)]):=rfl;rw[e0]at hK;rw[hi]at o1;simp only[c1,o1,z0,z1,Qc,hg,h1,eE,seval];refine Qb (XB base 9 1100 e.name (-1) l (by decide) rfl (by omega) (x.num==0) 14 []) (by simp only[QGn,QGK,Qa,seval]<;>rfl) ?_;simp only[Qa,seval];exact hK _ (by exact h1) (by exact h3)
end

theorem QBy {M:Nat}(hM:M≤1048576)(e:SE)(he:e.ok M):Qs Tryz.prog 103 [XY e] (.list ((ZS e).map PB.av)):=by
 have hl1:=he.len1;have hl2:=he.len2;have hl3:=he.len3;have hnl:=he.name;refine Qz9.fn (by simp) ?_;simp only[Qny,Qnz,Mq,Mr,XY,Zg e,eE,seval];refine Xn rfl rfl rfl rfl ?_;generalize hb:(Qp Qf 1 _:Nat→Ob)=base;have o1:base 1=.cells e.cells:=by rw[←hb,Zg];exact(by rfl)
 have c1:∀n l,Qm base 9 1100 e.name n l 1=base 1:=fun n l=>QR _ _ _ _ _ _ (by decide) (by decide)
 have o1s:=o1;rw[Zg]at o1s;rw[Ge base 9 1100 e.name (-1) (by decide)];simp only[Ms,c1,o1s,eE,seval];refine aC (Rh e.name (by omega)) ?_
 try simp only[eE,seval]
 refine Qb (XB base 9 1100 e.name (-1) [] (by decide) rfl (by simp) (Xp e.name) 8 []) (by simp only[QGn,QGK,Qa,seval]<;>rfl) ?_;simp only[QGc,Qa,seval];have q1:=QX e.name (-1) (Xp e.name) 8;refine en3 hM e he base o1 _ (by omega) _ (by rfl) (by rfl) _ (fun f h1 h3=>?_);have q2:=Qu q1 e.name (-1) (decide (e.items.length≥1)&&decide (e.items.length≤64)&&decide (e.free.length≤16)) 3;simp only[Qa,seval];refine en4 hM e he base o1 _ (by omega) _ h1 h3 _ (fun f h1 h3=>?_);have q3:=Qu q2 e.name (-1) (Zv e) 14;simp only[Mt,c1,o1s,QG7,h1,eE,seval];refine Ri hM e he _ (by omega) (-1) _ base (by exact h1) (by exact h3) (by rfl) (by rfl) (by rfl) o1 (by rw[←hb];exact(by rfl)) _ (fun f F n h1 h3 o1=>?_);clear c1 o1s hb;have q4:=QP (l:=e.items) (K6 e) e.items.length;have o1s:=o1;rw[Zg]at o1s;have c1:∀n l,Qm F 9 1100 e.name n l 1=F 1:=fun n l=>QR _ _ _ _ _ _ (by decide) (by decide)
 have cs:∀n l,Qm F 9 1100 e.name n l 9=.cells [.str e.name,.int .i64 n,.vec 0 1100 (1+l.length) 0 l.length false]:=fun n l=>Jk F 9 1100 e.name n l
 have cn:∀n l n',Qp (Qm F 9 1100 e.name n l) 9 (.cells [.str e.name,.int .i64 n',.vec 0 1100 (1+l.length) 0 l.length false])=Qm F 9 1100 e.name n' l:=fun n l n'=>K4 F 9 1100 e.name n l n'
 have cR:∀n l,Qm F 9 1100 e.name n l 1100=.vec (1+l.length) 3 (l.map PB.av):=fun n l=>Ki F 9 1100 e.name n l (by decide)
 simp only[F7,F8,cs,cn,c1,o1s,h1,h3,eE,seval];generalize hL:pb e.name (-1) (Xp e.name) 8++pb e.name (-1) (decide (e.items.length≥1)&&decide (e.items.length≤64)&&decide (e.free.length≤16)) 3++pb e.name (-1) (Zv e) 14++upto e.items (ZY e) e.items.length=L;have q5:L.length≤10000000:=by
  rw[←hL,QGs];omega
 have hsp:=AC F 9 1100 e.name L (by decide) rfl 0 2147483647 e.free (by omega) [] (by omega);refine Qb hsp (by simp only[QGn,QGK,Qa,seval]<;>rfl) ?_;have q6:=QP (l:=e.free) (Jw e.name 0 2147483647 e.free) e.free.length;have q7:(L++upto e.free (JM e.name 0 2147483647 e.free) e.free.length).length≤20000000:=by
  rw[QGs];omega
 simp only[F9,c1,o1s,h1,h3,eE,seval];refine Qb (UT F 9 1100 e.name (-1) _ (by decide) rfl (by omega) [] e.notes (by simp only[maxLen];omega) he.notes 3 (by decide)) (by simp only[QGn,QGK,Qa,seval]<;>rfl) ?_;have hfin:ZS e=L++upto e.free (JM e.name 0 2147483647 e.free) e.free.length++Xs e.name (-1) e.notes 3:=by rw[←hL];rfl
 rw[←hfin];have ht:∀l:List PB,List.take l.length (List.map PB.av l)=List.map PB.av l:=fun l=>QGo (by rw[QG7];exact QFQ _)
 simp only[Ba,cs,cR,h3,QG7,QGw,ht,QGf,QFQ,QGN,QGT,AV.un,eE,seval]

theorem K7 (S:SC)(v:SQ)(i:Nat)(x:SO):(Jv S v i x).length≤5:=by
 unfold Jv Xs;exact Qu (Qu (Qu (Qu (QX _ _ _ _) _ _ _ _) _ _ _ _) _ _ _ _) _ _ _ _
theorem J9 (x:SO):x.cells=[.str x.name,.str x.inn,.str x.out,.int .i64 x.shape,.list (x.notes.map fun n=>.agg n.cells)]:=rfl
theorem J5 (x:SQ):x.cells=[.str x.name,.list (x.meths.map fun n=>.agg n.cells),.list (x.notes.map fun n=>.agg n.cells)]:=rfl
def MS (x:SO):AV:=.agg x.cells
def KL (x:SQ):AV:=.agg x.cells
def HO (l:List SO)(i:Nat)(x:SO):Bool:=match i with
 |0=>true
 |j+1=>match l[j]? with
  |none=>true
  |some y=>Op.bytesLess y.name x.name
theorem MT (S:SC)(v:SQ)(i:Nat)(x:SO):Jv S v i x=pb v.name (i:Int) (Xb x.name) 8++pb v.name (i:Int) (HO v.meths i x) 11++pb v.name (i:Int) (QW S x.inn&&QW S x.out) 12++pb v.name (i:Int) (decide (x.shape≥1)&&decide (x.shape≤4)) 1++Xs v.name (i:Int) x.notes 6:=by
 cases i<;>rfl
theorem Bx (a b:List UInt8):(!(Op.bytesLess a b||a==b))=Op.bytesLess b a:=by
 cases h1:Op.bytesLess a b
 ·cases h2:Op.bytesLess b a
  ·have:=HL h1 h2;subst this;simp
  ·have hne:(a==b)=false:=by
    rw[QHC];rintro rfl;rw[J2]at h2;cases h2
   rw[hne];rfl
 ·cases h2:Op.bytesLess b a
  ·rfl
  ·have:=YP h1 h2;rw[J2]at this;cases this

def QF (v:SQ)(i:Nat)(f:Fr):Prop:=f 2=.ptr 0 2 0∧f 3=.ptr 0 3 0∧f 5=.ptr 0 15 0∧f 6=.int .i64 (i:Nat)∧f 7=.ptr 0 7 0∧f 28=.list (v.meths.map MS)∧f 29=.int .i64 (v.meths.length:Nat)∧f 30=.int .i64 (i:Nat)

section
variable {M:Nat}(hM:M≤1048576)(S:SC)(hS:S.ok M)(v:SQ)(hv:v.ok M)(i:Nat)(x:SO)(hi:v.meths[i]? = some x)
variable (fr:Nat→Ob)(o2:fr 2=.cells [.list (S.msgs.map fun n=>.agg n.cells),.list (S.enums.map fun n=>.agg n.cells),.list (S.servs.map fun n=>.agg n.cells)])(o3:fr 3=.cells v.cells)(o7:fr 7=.cells x.cells)
variable (l:List PB)(hl:l.length≤1073741824)(f:Fr)(hf:QF v i f)(K:St→Prop)
include hl hf

include o7 in
theorem sq8 (hK:∀f,QF v i f→K ⟨f,[Qm fr 15 1100 v.name (i:Int) (l++pb v.name (i:Int) (Xb x.name) 8)],[]⟩):Qj Tryz.prog GZ ⟨f,[Qm fr 15 1100 v.name (i:Int) l],[]⟩ K:=by
 obtain⟨h2,h3,h5,h6,h7,h28,h29,h30⟩:=hf;have c7:∀n l,Qm fr 15 1100 v.name n l 7=fr 7:=fun n l=>QR _ _ _ _ _ _ (by decide) (by decide)
 rw[J9]at o7;simp only[GZ,h5,h7,c7,o7,eE,seval];refine aC (NE x.name) ?_
 try simp only[eE,seval]
 refine Qb (XB fr 15 1100 v.name (i:Int) l (by decide) rfl hl (Xb x.name) 8 []) (by simp only[QGn,QGK,Qa,seval]<;>rfl) ?_;simp only[Qa,seval];exact hK _ ⟨(by exact h2),(by exact h3),(by exact h5),(by exact h6),(by exact h7),(by exact h28),(by exact h29),(by exact h30)⟩

include o3 o7 hi hM hv in
theorem sq9 (hK:∀f,QF v i f→K ⟨f,[Qm fr 15 1100 v.name (i:Int) (l++pb v.name (i:Int) (HO v.meths i x) 11)],[]⟩):Qj Tryz.prog UF ⟨f,[Qm fr 15 1100 v.name (i:Int) l],[]⟩ K:=by
 obtain⟨h2,h3,h5,h6,h7,h28,h29,h30⟩:=hf;have c3:∀n l,Qm fr 15 1100 v.name n l 3=fr 3:=fun n l=>QR _ _ _ _ _ _ (by decide) (by decide)
 have c7:∀n l,Qm fr 15 1100 v.name n l 7=fr 7:=fun n l=>QR _ _ _ _ _ _ (by decide) (by decide)
 have hlt:i<v.meths.length:=(QFS.1 hi).1;have hl1:=hv.len1;rw[J9]at o7;rw[J5]at o3;cases i with
 |zero=>
  simp only[UF,h5,h6,Qa,seval];refine Qb (XB fr 15 1100 v.name _ l (by decide) rfl hl true 11 []) (by simp only[QGn,QGK,Qa,seval]<;>rfl) ?_;simp only[Qa,seval];exact hK _ ⟨(by exact h2),(by exact h3),(by exact h5),(by exact h6),(by exact h7),(by exact h28),(by exact h29),(by exact h30)⟩
 |succ j=>
  obtain⟨y,hj⟩:∃y,v.meths[j]? = some y:=⟨v.meths[j]'(by omega),QFT (by omega)⟩;have hg:(v.meths.map fun n=>AV.agg n.cells)[j]? = some (.agg y.cells):=by rw[QG5,hj];rfl
  have wj:=JU j _ hlt (by simp only[maxLen];omega);have d0:(((j+1:Nat):Int)==0)=false:=by rw[QHC];omega
  have ha:QB .gtr x.name y.name=some (.bool (Op.bytesLess y.name x.name)):=by rw[←Bx];rfl
  rw[J9]at hg;simp only[HO,hj]at hK;simp only[UF,d0,wj,ha,Qi,QHa,Qc,hg,h3,h5,h6,h7,c3,c7,o3,o7,eE,seval];refine Qb (XB fr 15 1100 v.name _ l (by decide) rfl hl (Op.bytesLess y.name x.name) 11 []) (by simp only[QGn,QGK,Qa,seval]<;>rfl) ?_;simp only[Qa,seval];exact hK _ ⟨(by exact h2),(by exact h3),(by exact h5),(by exact h6),(by exact h7),(by exact h28),(by exact h29),(by exact h30)⟩

theorem QBz (a b:Bool)(h9:f 9=.bool a)(h11:f 11=.bool b)(hK:∀f,QF v i f→K ⟨f,[Qm fr 15 1100 v.name (i:Int) (l++pb v.name (i:Int) (a&&b) 12)],[]⟩):Qj Tryz.prog U0 ⟨f,[Qm fr 15 1100 v.name (i:Int) l],[]⟩ K:=by
 obtain⟨h2,h3,h5,h6,h7,h28,h29,h30⟩:=hf;simp only[U0,h5,h9,Qa,seval];cases a
 ·simp only[Qa,seval];refine Qb (XB fr 15 1100 v.name (i:Int) l (by decide) rfl hl false 12 []) (by simp only[QGn,QGK,Qa,seval]<;>rfl) ?_;simp only[Qa,seval];exact hK _ ⟨(by exact h2),(by exact h3),(by exact h5),(by exact h6),(by exact h7),(by exact h28),(by exact h29),(by exact h30)⟩
 ·rw[QHp]at hK;simp only[h11,Qa,seval];refine Qb (XB fr 15 1100 v.name (i:Int) l (by decide) rfl hl b 12 []) (by simp only[QGn,QGK,Qa,seval]<;>rfl) ?_;simp only[Qa,seval];exact hK _ ⟨(by exact h2),(by exact h3),(by exact h5),(by exact h6),(by exact h7),(by exact h28),(by exact h29),(by exact h30)⟩

include o7 in
theorem QBA (hK:∀f,QF v i f→K ⟨f,[Qm fr 15 1100 v.name (i:Int) (l++pb v.name (i:Int) (decide (x.shape≥1)&&decide (x.shape≤4)) 1)],[]⟩):Qj Tryz.prog U1 ⟨f,[Qm fr 15 1100 v.name (i:Int) l],[]⟩ K:=by
 obtain⟨h2,h3,h5,h6,h7,h28,h29,h30⟩:=hf;have c7:∀n l,Qm fr 15 1100 v.name n l 7=fr 7:=fun n l=>QR _ _ _ _ _ _ (by decide) (by decide)
 rw[J9]at o7;simp only[U1,h5,h7,c7,o7,eE,seval];cases a1:decide (x.shape≥1)
 ·rw[a1]at hK;simp only[Qa,seval];refine Qb (XB fr 15 1100 v.name (i:Int) l (by decide) rfl hl false 1 []) (by simp only[QGn,QGK,Qa,seval]<;>rfl) ?_;simp only[Qa,seval];exact hK _ ⟨(by exact h2),(by exact h3),(by exact h5),(by exact h6),(by exact h7),(by exact h28),(by exact h29),(by exact h30)⟩
 ·rw[a1]at hK;simp only[h7,c7,o7,eE,seval];refine Qb (XB fr 15 1100 v.name (i:Int) l (by decide) rfl hl (decide (x.shape≤4)) 1 []) (by simp only[QGn,QGK,Qa,seval]<;>rfl) ?_;simp only[Qa,seval];exact hK _ ⟨(by exact h2),(by exact h3),(by exact h5),(by exact h6),(by exact h7),(by exact h28),(by exact h29),(by exact h30)⟩

include o7 hM hv hi in
theorem QBB (hK:∀f,QF v i f→K ⟨f,[Qm fr 15 1100 v.name (i:Int) (l++Xs v.name (i:Int) x.notes 6)],[]⟩):Qj Tryz.prog U2 ⟨f,[Qm fr 15 1100 v.name (i:Int) l],[]⟩ K:=by
 obtain⟨h2,h3,h5,h6,h7,h28,h29,h30⟩:=hf;have c7:∀n l,Qm fr 15 1100 v.name n l 7=fr 7:=fun n l=>QR _ _ _ _ _ _ (by decide) (by decide)
 have hx:=hv.meths x (QF4 hi);have hln:=hx.len;rw[J9]at o7;simp only[U2,h5,h7,c7,o7,eE,seval];refine Qb (UT fr 15 1100 v.name (i:Int) l (by decide) rfl hl [] x.notes (by simp only[maxLen];omega) hx.notes 6 (by decide)) (by simp only[QGn,QGK,Qa,seval]<;>rfl) ?_;simp only[Qa,seval];exact hK _ ⟨(by exact h2),(by exact h3),(by exact h5),(by exact h6),(by exact h7),(by exact h28),(by exact h29),(by exact h30)⟩
end

section
variable {M:Nat}(hM:M≤1048576)(S:SC)(hS:S.ok M)(v:SQ)(hv:v.ok M)

include hM hS hv in
theorem Rj (l:List PB)(hl:l.length≤1000000)(n:Int)(f:Fr)(fr:Nat→Ob)(h2:f 2=.ptr 0 2 0)(h3:f 3=.ptr 0 3 0)(h5:f 5=.ptr 0 15 0)(h28:f 28=.list (v.meths.map MS))(h29:f 29=.int .i64 (v.meths.length:Nat))(h30:f 30=.int .i64 0)
  (o2:fr 2=.cells [.list (S.msgs.map fun n=>.agg n.cells),.list (S.enums.map fun n=>.agg n.cells),.list (S.servs.map fun n=>.agg n.cells)]) (o3:fr 3=.cells v.cells) (o7:∀s∈[7,8,10],fr s=.none) (Q:Exit→St→Prop)
  (hq:∀(f:Fr) (fr:Nat→Ob) (n:Int),f 3=.ptr 0 3 0→f 5=.ptr 0 15 0→fr 3=.cells v.cells→Q (.exit 0) ⟨f,[Qm fr 15 1100 v.name n (l++upto v.meths (Jv S v) v.meths.length)],[]⟩):QK Tryz.prog (.loop CD) ⟨f,[Qm fr 15 1100 v.name n l],[]⟩ Q:=by
 let I:Nat→St→Prop:=fun k st=>∃f fr n i,st=⟨f,[Qm fr 15 1100 v.name n (l++upto v.meths (Jv S v) i)],[]⟩∧k=v.meths.length-i∧i≤v.meths.length∧f 2=.ptr 0 2 0∧f 3=.ptr 0 3 0∧f 5=.ptr 0 15 0∧f 28=.list (v.meths.map MS)∧f 29=.int .i64 (v.meths.length:Nat)∧f 30=.int .i64 (i:Nat)∧
  fr 2=.cells [.list (S.msgs.map fun n=>.agg n.cells),.list (S.enums.map fun n=>.agg n.cells),.list (S.servs.map fun n=>.agg n.cells)]∧fr 3=.cells v.cells∧∀s∈[7,8,10],(fr s).isRow=false
 obtain⟨l1,_,_⟩:=Zw S hS hM;have hl1:=hv.len1;refine Qd I _ ⟨f,fr,n,0,by rw[upto,QGM],rfl,QFZ _,h2,h3,h5,h28,h29,h30,o2,o3,fun s hs=>by rw[o7 s hs];rfl⟩ ?_;clear h2 h3 h5 h28 h29 h30 o2 o3 o7;rintro _ st ⟨f0,fr0,n,i,rfl,rfl,hi,h20,h30',h50,h280,h290,h300,ZG,X8,r7⟩;refine Qz (a:=_) [10,8,7] (by
  intro s hs;simp only[QG2,QHG,or_false]at hs;have h1:s≠1100∧s≠15:=by omega
  rw[QR _ _ _ _ _ _ h1.1 h1.2];exact r7 s (by simp only[QG2,QHG,or_false];omega)) ?_
 intro f fr hf hmm hn;have h2:f 2=.ptr 0 2 0:=by rw[hf,h20]<;>rfl
 have h3:f 3=.ptr 0 3 0:=by rw[hf,h30']<;>rfl
 have h5:f 5=.ptr 0 15 0:=by rw[hf,h50]<;>rfl
 have h28:f 28=.list (v.meths.map MS):=by rw[hf,h280]<;>rfl
 have h29:f 29=.int .i64 (v.meths.length:Nat):=by rw[hf,h290]<;>rfl
 have h30:f 30=.int .i64 (i:Nat):=by rw[hf,h300]<;>rfl
 have o2:fr 2=.cells [.list (S.msgs.map fun n=>.agg n.cells),.list (S.enums.map fun n=>.agg n.cells),.list (S.servs.map fun n=>.agg n.cells)]:=by rw[hmm 2 (by decide),QR _ _ _ _ _ _ (by decide) (by decide),ZG]<;>rfl
 have o3:fr 3=.cells v.cells:=by rw[hmm 3 (by decide),QR _ _ _ _ _ _ (by decide) (by decide),X8]<;>rfl
 have o9:fr 15=.cells [.str v.name,.int .i64 n,.vec 0 1100 (1+(l++upto v.meths (Jv S v) i).length) 0 (l++upto v.meths (Jv S v) i).length false]:=by rw[hmm 15 (by decide),Jk]<;>rfl
 have oR:fr 1100=.vec (1+(l++upto v.meths (Jv S v) i).length) 3 ((l++upto v.meths (Jv S v) i).map PB.av):=by rw[hmm 1100 (by decide),Ki _ _ _ _ _ _ (by decide)]<;>rfl
 have n7:=hn 7 (by decide);have n8:=hn 8 (by decide);have n10:=hn 10 (by decide);clear hf hmm hn h20 h30' h50 h280 h290 h300 ZG X8 r7;simp only[CA,h29,h30,Qa,seval];by_cases hlt:i<v.meths.length
 case neg=>
  have ei:i=v.meths.length:=by omega
  subst ei;simp only[QG hlt,Qa,seval];rw[←Ye o9 oR];exact hq _ _ _ (by exact h3) (by exact h5) o3
 obtain⟨x,hx⟩:∃x,v.meths[i]? = some x:=⟨v.meths[i],QFT hlt⟩;have hg:(v.meths.map MS)[i]? = some (.agg x.cells):=by rw[QG5,hx];rfl
 rw[J9]at hg;have e1:=Qo i _ hlt (by simp only[maxLen];omega);have hul:=QP (l:=v.meths) (K7 S v) i;have q0:(l++upto v.meths (Jv S v) i).length≤100000000:=by rw[QGs];omega
 simp only[QC hlt,n7,CB,Qi,QHa,Qc,hg,h28,h30,eE,seval];have hfe:Qp fr 7 (.cells [.str x.name,.str x.inn,.str x.out,.int .i64 x.shape,.list (x.notes.map fun n=>.agg n.cells)])=Qm (Qp fr 7 (.cells [.str x.name,.str x.inn,.str x.out,.int .i64 x.shape,.list (x.notes.map fun n=>.agg n.cells)])) 15 1100 v.name n (l++upto v.meths (Jv S v) i):=(Ye (by exact o9) (by exact oR)).symm;rw[hfe];generalize hF:Qp fr 7 (.cells [.str x.name,.str x.inn,.str x.out,.int .i64 x.shape,.list (x.notes.map fun n=>.agg n.cells)])=F;have o2':F 2=.cells [.list (S.msgs.map fun n=>.agg n.cells),.list (S.enums.map fun n=>.agg n.cells),.list (S.servs.map fun n=>.agg n.cells)]:=by rw[←hF];exact(by exact o2)
 have o3':F 3=.cells v.cells:=by rw[←hF];exact(by exact o3)
 have o7':F 7=.cells x.cells:=by rw[←hF,J9];exact(by rfl)
 have n8':F 8=.none:=by rw[←hF];exact(by exact n8)
 have n10':F 10=.none:=by rw[←hF];exact(by exact n10)
 clear hfe hF o2 o3 o9 oR n7 n8 n10;have cs:∀n l,Qm F 15 1100 v.name n l 15=.cells [.str v.name,.int .i64 n,.vec 0 1100 (1+l.length) 0 l.length false]:=fun n l=>Jk F 15 1100 v.name n l
 have cn:∀n l n',Qp (Qm F 15 1100 v.name n l) 15 (.cells [.str v.name,.int .i64 n',.vec 0 1100 (1+l.length) 0 l.length false])=Qm F 15 1100 v.name n' l:=fun n l n'=>K4 F 15 1100 v.name n l n'
 simp only[CC,cs,cn,h5,eE,seval];refine sq8 v i x F o7' _ (by omega) _ ⟨(by exact h2),(by exact h3),(by exact h5),(by rfl),(by rfl),(by exact h28),(by exact h29),(by exact h30)⟩ _ (fun f hf=>?_);have q1:=Qu q0 v.name (i:Int) (Xb x.name) 8;simp only[Qa,seval];refine sq9 hM v hv i x hx F o3' o7' _ (by omega) f hf _ (fun f hf=>?_);have q2:=Qu q1 v.name (i:Int) (HO v.meths i x) 11;clear h2 h3 h5 h28 h29 h30;obtain⟨h2,h3,h5,h6,h7,h28,h29,h30⟩:=hf;have hc1:=Hl S l1 x.inn;have hc2:=Hl S l1 x.out;simp only[QY,SM.cells,SC.av]at hc1 hc2;have c2:∀n l,Qm F 15 1100 v.name n l 2=F 2:=fun n l=>QR _ _ _ _ _ _ (by decide) (by decide)
 have c7:∀n l,Qm F 15 1100 v.name n l 7=F 7:=fun n l=>QR _ _ _ _ _ _ (by decide) (by decide)
 have c8:∀n l,Qm F 15 1100 v.name n l 8=F 8:=fun n l=>QR _ _ _ _ _ _ (by decide) (by decide)
 have c10:∀n l,Qm F 15 1100 v.name n l 10=F 10:=fun n l=>QR _ _ _ _ _ _ (by decide) (by decide)
 have o7s:=o7';rw[J9]at o7s;simp only[FX,c2,c7,o2',o7s,h2,h7,eE,seval];refine aC hc1 ?_;simp only[FY,c2,c7,c8,o2',o7s,n8',h2,h7,eE,seval];refine aC hc2 ?_;simp only[c10,n10',eE,seval];rw[Hn (by decide) (by decide),Hn (by decide) (by decide)];generalize hF2:Qp (Qp F 8 _) 10 _=F2;have o2'':F2 2=F 2:=by rw[←hF2];exact(by rfl)
 have o3'':F2 3=F 3:=by rw[←hF2];exact(by rfl)
 have o7'':F2 7=F 7:=by rw[←hF2];exact(by rfl)
 have r8:(F2 8).isRow=false:=by rw[←hF2];rfl
 have RE:(F2 10).isRow=false:=by rw[←hF2];rfl
 clear hF2;refine QBz v i F2 _ (by omega) _ ⟨(by exact h2),(by exact h3),(by exact h5),(by exact h6),(by exact h7),(by exact h28),(by exact h29),(by exact h30)⟩ _ (QW S x.inn) (QW S x.out) (by rfl) (by rfl) (fun f hf=>?_);have q3:=Qu q2 v.name (i:Int) (QW S x.inn&&QW S x.out) 12;simp only[Qa,seval];refine QBA v i x F2 (by rw[o7'',o7']) _ (by omega) f hf _ (fun f hf=>?_);have q4:=Qu q3 v.name (i:Int) (decide (x.shape≥1)&&decide (x.shape≤4)) 1;simp only[Qa,seval];refine QBB hM v hv i x hx F2 (by rw[o7'',o7']) _ (by omega) f hf _ (fun f hf=>?_);clear h2 h3 h5 h6 h7 h28 h29 h30;obtain⟨h2,h3,h5,h6,h7,h28,h29,h30⟩:=hf;simp only[FZ,h30,e1,Qa,seval];exact⟨v.meths.length-(i+1),by omega,_,F2,(i:Int),i+1,by rw[X1 hx,MT];simp only[QGa]<;>rfl,rfl,by omega,(by exact h2),(by exact h3),(by exact h5),(by exact h28),(by exact h29),(by rfl),by rw[o2'',o2'],by rw[o3'',o3'],by
  intro s hs;simp only[QG2,QHG,or_false]at hs;rcases hs with rfl|rfl|rfl
  ·rw[o7'',o7'];rfl
  ·exact r8
  ·exact RE⟩
end

theorem QBC {M:Nat}(hM:M≤1048576)(S:SC)(hS:S.ok M)(v:SQ)(hv:v.ok M):Qs Tryz.prog 104 [S.av,KL v] (.list ((Z7 S v).map PB.av)):=by
 have hl1:=hv.len1;have hl2:=hv.len2;have hnl:=hv.name;refine Qbj.fn (by simp) ?_;simp only[PH,PJ,Cv,Cw,SC.av,KL,J5 v,eE,seval];refine Xn rfl rfl rfl rfl ?_;generalize hb:(Qp (Qp Qf 2 _) 3 _:Nat→Ob)=base;have o2:base 2=.cells [.list (S.msgs.map fun n=>.agg n.cells),.list (S.enums.map fun n=>.agg n.cells),.list (S.servs.map fun n=>.agg n.cells)]:=by rw[←hb];exact(by rfl)
 have o3:base 3=.cells v.cells:=by rw[←hb,J5];exact(by rfl)
 have o7:∀s∈[7,8,10],base s=.none:=by
  intro s hs;rw[←hb];simp only[QG2,QHG,or_false]at hs;rcases hs with rfl|rfl|rfl<;>rfl
 clear hb;have c3:∀n l,Qm base 15 1100 v.name n l 3=base 3:=fun n l=>QR _ _ _ _ _ _ (by decide) (by decide)
 have o3s:=o3;rw[J5]at o3s;rw[Ge base 15 1100 v.name (-1) (by decide)];simp only[Cx,c3,o3s,eE,seval];refine aC (Rh v.name (by omega)) ?_
 try simp only[eE,seval]
 refine Qb (XB base 15 1100 v.name (-1) [] (by decide) rfl (by simp) (Xp v.name) 8 []) (by simp only[QGn,QGK,Qa,seval]<;>rfl) ?_;have q1:=QX v.name (-1) (Xp v.name) 8;simp only[Cy,c3,o3s,QGc,QG7,NF,eE,seval];refine Qb (XB base 15 1100 v.name (-1) _ (by decide) rfl (by omega) (decide (v.meths.length≤64)) 3 []) (by simp only[QGn,QGK,Qa,seval]<;>rfl) ?_;have q2:=Qu q1 v.name (-1) (decide (v.meths.length≤64)) 3;simp only[Cz,c3,o3s,QG7,eE,seval];refine Rj hM S hS v hv _ (by omega) (-1) _ base (by rfl) (by rfl) (by rfl) (by rfl) (by rfl) (by rfl) o2 o3 o7 _ (fun f F n h3 h5 o3=>?_);clear c3 o3s o2 o7;have q3:=QP (l:=v.meths) (K7 S v) v.meths.length;have o3s:=o3;rw[J5]at o3s;have c3:∀n l,Qm F 15 1100 v.name n l 3=F 3:=fun n l=>QR _ _ _ _ _ _ (by decide) (by decide)
 have cs:∀n l,Qm F 15 1100 v.name n l 15=.cells [.str v.name,.int .i64 n,.vec 0 1100 (1+l.length) 0 l.length false]:=fun n l=>Jk F 15 1100 v.name n l
 have cn:∀n l n',Qp (Qm F 15 1100 v.name n l) 15 (.cells [.str v.name,.int .i64 n',.vec 0 1100 (1+l.length) 0 l.length false])=Qm F 15 1100 v.name n' l:=fun n l n'=>K4 F 15 1100 v.name n l n'
 have cR:∀n l,Qm F 15 1100 v.name n l 1100=.vec (1+l.length) 3 (l.map PB.av):=fun n l=>Ki F 15 1100 v.name n l (by decide)
 simp only[F0,F1,cs,cn,c3,o3s,h3,h5,eE,seval];generalize hL:pb v.name (-1) (Xp v.name) 8++pb v.name (-1) (decide (v.meths.length≤64)) 3++upto v.meths (Jv S v) v.meths.length=L;have q5:L.length≤10000000:=by
  rw[←hL,QGs];omega
 refine Qb (UT F 15 1100 v.name (-1) L (by decide) rfl (by omega) [] v.notes (by simp only[maxLen];omega) hv.notes 5 (by decide)) (by simp only[QGn,QGK,Qa,seval]<;>rfl) ?_;have hfin:Z7 S v=L++Xs v.name (-1) v.notes 5:=by rw[←hL];rfl
 rw[←hfin];have ht:∀l:List PB,List.take l.length (List.map PB.av l)=List.map PB.av l:=fun l=>QGo (by rw[QG7];exact QFQ _)
 simp only[F3,cs,cR,h5,QG7,QGw,ht,QGf,QFQ,QGN,QGT,AV.un,eE,seval]

theorem NG (a b:List UInt8):QB .leq a b=some (.bool (!(Op.bytesLess b a))):=by
 rw[←Bx a b,QHK];rfl

theorem s99 (L:List (List UInt8))(hl:L.length≤maxLen):Qs Tryz.prog 99 [.list (L.map Qk)] (.bool (Xx L Op.bytesLess)):=by
 let I:Nat→St→Prop:=fun k st=>∃f i,st=⟨f,[Qf],[]⟩∧k=L.length-(i+1)∧Xd (WX L Op.bytesLess) (i+1)=true∧f 0=.list (L.map Qk)∧f 3=.int .i64 ((i+1:Nat):Int)
 refine k99.fn (by simp) ?_;simp only[Qa,seval];refine Qd I _ ⟨_,0,rfl,rfl,rfl,(by rfl),(by rfl)⟩ ?_;rintro _ st ⟨f,i,rfl,rfl,hx,h0,h3⟩;simp only[QG7,h0,h3,Qa,seval];by_cases hlt:i+1<L.length
 ·obtain⟨x,hi⟩:∃x,L[i]? = some x:=⟨L[i]'(by omega),QFT (by omega)⟩;obtain⟨y,hj⟩:∃y,L[i+1]? = some y:=⟨L[i+1],QFT hlt⟩;have hg:(L.map Qk)[i]? = some (.str x):=by simp[hi,Qk]
  have hh:(L.map Qk)[i+1]? = some (.str y):=by simp[hj,Qk]
  have e1:=Qo (i+1) _ hlt hl;have e2:=JU i _ hlt hl;simp only[QC hlt,e2,NG,Qi,QHa,Qc,hg,hh,h0,h3,eE,seval];have hs:Xd (WX L Op.bytesLess) (i+2)=Op.bytesLess x y:=by
   show(Xd (WX L Op.bytesLess) (i+1)&&WX L Op.bytesLess (i+1))=_;rw[hx,Je hi hj,QHp]
  cases hp:Op.bytesLess x y
  ·rw[hp]at hs;have hf:Xx L Op.bytesLess=false:=by
    rw[QHw];intro h';rw[QO.2 fun k hk=>QO.1 h' k (by omega)]at hs;cases hs
   simp only[hf,QGR,Qa,seval]
  ·rw[hp]at hs;simp only[h3,e1,QHq,Qa,seval];exact⟨L.length-(i+2),by omega,_,i+1,rfl,rfl,hs,(by exact h0),(by rfl)⟩
 ·have hf:Xx L Op.bytesLess=true:=QO.2 fun k hk=>QO.1 hx k (by omega)
  simp only[QG hlt,hf,Qa,seval]

structure Ls (fr:Nat→Ob)(A B C:List (List UInt8)):Prop where
 mk ::
 row:∃a b c,fr 3=.cells [.vec 0 1100 a 0 A.length false,.vec 0 1101 b 0 B.length false,.vec 0 1102 c 0 C.length false]∧fr 1100=.vec a 1 (A.map Qk)∧fr 1101=.vec b 1 (B.map Qk)∧fr 1102=.vec c 1 (C.map Qk)
 res:fr 2=.cells [.nils,.nils,.nils]

section
variable {M:Nat}(hM:M≤1048576)(S:SC)(hS:S.ok M)
include hM hS in
theorem QBD (A B C:List (List UInt8))(hABC:A.length≤1048576∧B.length≤1048576∧C.length≤1048576)(f:Fr)(fr:Nat→Ob)(h1:f 1=.ptr 0 1 0)(h3:f 3=.ptr 0 3 0)(h2:f 2=.ptr 0 2 0)(hw:f 11=.list (S.msgs.map QY))(hz:f 12=.int .i64 (S.msgs.length:Nat))(hk:f 13=.int .i64 0)
  (o1:fr 1=.cells [.list (S.msgs.map fun n=>.agg n.cells),.list (S.enums.map fun n=>.agg n.cells),.list (S.servs.map fun n=>.agg n.cells)]) (hL:Ls fr A B C) (r5:∀s∈[5,7,9],(fr s).isRow=false) (Q:Exit→St→Prop)
  (hq:∀(f:Fr) (fr:Nat→Ob) (i:Nat),i=S.msgs.length→f 1=.ptr 0 1 0→f 3=.ptr 0 3 0→f 2=.ptr 0 2 0→fr 1=.cells [.list (S.msgs.map fun n=>.agg n.cells),.list (S.enums.map fun n=>.agg n.cells),.list (S.servs.map fun n=>.agg n.cells)]→Ls fr (A++(S.msgs.take i).map SM.name) B C→(∀s∈[5,7,9],(fr s).isRow=false)→Q (.exit 0) ⟨f,[fr],[]⟩):QK Tryz.prog (.loop Tr) ⟨f,[fr],[]⟩ Q:=by
 let I:Nat→St→Prop:=fun k st=>∃f fr i,st=⟨f,[fr],[]⟩∧k=S.msgs.length-i∧i≤S.msgs.length∧f 1=.ptr 0 1 0∧f 3=.ptr 0 3 0∧f 2=.ptr 0 2 0∧f 11=.list (S.msgs.map QY)∧f 12=.int .i64 (S.msgs.length:Nat)∧f 13=.int .i64 (i:Nat)∧
  fr 1=.cells [.list (S.msgs.map fun n=>.agg n.cells),.list (S.enums.map fun n=>.agg n.cells),.list (S.servs.map fun n=>.agg n.cells)]∧Ls fr (A++(S.msgs.take i).map SM.name) B C∧∀s∈[5,7,9],(fr s).isRow=false
 have hl1:=hS.len1;obtain⟨hA,hB,hC⟩:=hABC;refine Qd I _ ⟨f,fr,0,rfl,rfl,QFZ _,h1,h3,h2,hw,hz,hk,o1,by simpa using hL,r5⟩ ?_;clear h1 h3 h2 hw hz hk o1 hL r5;rintro _ st ⟨f0,fr0,i,rfl,rfl,hi,h10,h30,h20,hw0,hz0,hk0,Xw,hL0,r5⟩;refine Qz (a:=_) [5] (by intro s hs;exact r5 s (by simp only[QG2,QHG,or_false]at hs ⊢;omega)) ?_;intro f fr hf hmm hn;have h1:f 1=.ptr 0 1 0:=by rw[hf,h10]<;>rfl
 have h3:f 3=.ptr 0 3 0:=by rw[hf,h30]<;>rfl
 have h2:f 2=.ptr 0 2 0:=by rw[hf,h20]<;>rfl
 have hw:f 11=.list (S.msgs.map QY):=by rw[hf,hw0]<;>rfl
 have hz:f 12=.int .i64 (S.msgs.length:Nat):=by rw[hf,hz0]<;>rfl
 have hk:f 13=.int .i64 (i:Nat):=by rw[hf,hk0]<;>rfl
 have o1:fr 1=.cells [.list (S.msgs.map fun n=>.agg n.cells),.list (S.enums.map fun n=>.agg n.cells),.list (S.servs.map fun n=>.agg n.cells)]:=by rw[hmm 1 (by decide),Xw]<;>rfl
 obtain⟨a,b,c,m30,m00,m10,m20⟩:=hL0.row;have m4:fr 2=.cells [.nils,.nils,.nils]:=by rw[hmm 2 (by decide),hL0.res]<;>rfl
 have m3:fr 3=.cells [.vec 0 1100 a 0 ((A++(S.msgs.take i).map SM.name)).length false,.vec 0 1101 b 0 (B).length false,.vec 0 1102 c 0 (C).length false]:=by rw[hmm 3 (by decide),m30]<;>rfl
 have m0:fr 1100=.vec a 1 (((A++(S.msgs.take i).map SM.name)).map Qk):=by rw[hmm 1100 (by decide),m00]<;>rfl
 have m1:fr 1101=.vec b 1 ((B).map Qk):=by rw[hmm 1101 (by decide),m10]<;>rfl
 have m2:fr 1102=.vec c 1 ((C).map Qk):=by rw[hmm 1102 (by decide),m20]<;>rfl
 have nv:=hn 5 (by decide);have r5':∀s∈[5,7,9],(fr s).isRow=false:=by
  intro s hs;by_cases hsv:s=5
  ·subst hsv;rw[nv];rfl
  ·rw[hmm s (by simp only[QG2,QHG,or_false];exact hsv)];have:=r5 s hs
   revert this
   cases fr0 s<;>intro h<;>first|rfl|exact h
 clear hf hmm hn h10 h30 h20 hw0 hz0 hk0 Xw hL0 r5 m30 m00 m10 m20;simp only[hz,hk,Qa,seval];by_cases hlt:i<S.msgs.length
 case neg=>
  simp only[QG hlt,Qa,seval];exact hq _ _ i (by omega) (by exact h1) (by exact h3) (by exact h2) o1 ⟨⟨a,b,c,m3,m0,m1,m2⟩,m4⟩ r5'
 obtain⟨x,hx⟩:∃x,S.msgs[i]? = some x:=⟨S.msgs[i],QFT hlt⟩;have hg:(S.msgs.map QY)[i]? = some (.agg x.cells):=by rw[QG5,hx];rfl
 rw[Xz]at hg;have e1:=Qo i _ hlt (by simp only[maxLen];omega);have ht:(S.msgs.take i).length≤i:=by rw[QGF];omega
 have hsu:(S.msgs.take (i+1)).map SM.name=(S.msgs.take i).map SM.name++[x.name]:=by rw[QHk,hx,QHl,QHj];rfl
 simp only[QC hlt,nv,Qi,QHa,Qc,hg,h3,hw,hk,m3,eE,seval];refine ZE (w:=x.name) rfl ?_;refine Q8 (xs:=(A++(S.msgs.take i).map SM.name).map Qk) (by rfl) (by exact m0) rfl (by simp) (by rfl) rfl (by simp only[QGs,QG7,QF5,QGV,maxLen];omega) (by simp only[QGs,QG7,QF5,QGV];omega) ?_;simp only[h3,hk,m3,e1,Qc,eE,seval];have hs':A++(S.msgs.take (i+1)).map SM.name=(A++(S.msgs.take i).map SM.name)++[x.name]:=by rw[hsu];simp only[QGa]
 have hm':(A++(S.msgs.take (i+1)).map SM.name).map Qk=(A++(S.msgs.take i).map SM.name).map Qk++[.str x.name]:=by rw[hs',QHj];rfl
 have hn':(A++(S.msgs.take (i+1)).map SM.name).length=(A++(S.msgs.take i).map SM.name).length+1:=by rw[hs',QGs];rfl
 refine⟨S.msgs.length-(i+1),by omega,_,_,i+1,rfl,rfl,by omega,(by exact h1),(by exact h3),(by exact h2),(by exact hw),(by exact hz),(by rfl),(by exact o1),⟨⟨_,_,_,(by rw[hn'];rfl),?_,?_,?_⟩,(by exact m4)⟩,?_⟩
 ·first|(rw[hm'];rfl)|exact m0|simp only[m0,eE,seval]
 ·first|(rw[hm'];rfl)|exact m1|simp only[m1,eE,seval]
 ·first|(rw[hm'];rfl)|exact m2|simp only[m2,eE,seval]
 ·intro s hs;simp only[QG2,QHG,or_false]at hs;rcases hs with rfl|rfl|rfl<;>first|rfl|exact r5' _ (by decide)

include hM hS in
theorem QBE (A B C:List (List UInt8))(hABC:A.length≤1048576∧B.length≤1048576∧C.length≤1048576)(f:Fr)(fr:Nat→Ob)(h1:f 1=.ptr 0 1 0)(h3:f 3=.ptr 0 3 0)(h2:f 2=.ptr 0 2 0)(hw:f 26=.list (S.enums.map XY))(hz:f 27=.int .i64 (S.enums.length:Nat))(hk:f 28=.int .i64 0)
  (o1:fr 1=.cells [.list (S.msgs.map fun n=>.agg n.cells),.list (S.enums.map fun n=>.agg n.cells),.list (S.servs.map fun n=>.agg n.cells)]) (hL:Ls fr A B C) (r5:∀s∈[5,7,9],(fr s).isRow=false) (Q:Exit→St→Prop)
  (hq:∀(f:Fr) (fr:Nat→Ob) (i:Nat),i=S.enums.length→f 1=.ptr 0 1 0→f 3=.ptr 0 3 0→f 2=.ptr 0 2 0→fr 1=.cells [.list (S.msgs.map fun n=>.agg n.cells),.list (S.enums.map fun n=>.agg n.cells),.list (S.servs.map fun n=>.agg n.cells)]→Ls fr A (B++(S.enums.take i).map SE.name) C→(∀s∈[5,7,9],(fr s).isRow=false)→Q (.exit 2) ⟨f,[fr],[]⟩):QK Tryz.prog (.loop Ts) ⟨f,[fr],[]⟩ Q:=by
 let I:Nat→St→Prop:=fun k st=>∃f fr i,st=⟨f,[fr],[]⟩∧k=S.enums.length-i∧i≤S.enums.length∧f 1=.ptr 0 1 0∧f 3=.ptr 0 3 0∧f 2=.ptr 0 2 0∧f 26=.list (S.enums.map XY)∧f 27=.int .i64 (S.enums.length:Nat)∧f 28=.int .i64 (i:Nat)∧
  fr 1=.cells [.list (S.msgs.map fun n=>.agg n.cells),.list (S.enums.map fun n=>.agg n.cells),.list (S.servs.map fun n=>.agg n.cells)]∧Ls fr A (B++(S.enums.take i).map SE.name) C∧∀s∈[5,7,9],(fr s).isRow=false
 have hl1:=hS.len2;obtain⟨hA,hB,hC⟩:=hABC;refine Qd I _ ⟨f,fr,0,rfl,rfl,QFZ _,h1,h3,h2,hw,hz,hk,o1,by simpa using hL,r5⟩ ?_;clear h1 h3 h2 hw hz hk o1 hL r5;rintro _ st ⟨f0,fr0,i,rfl,rfl,hi,h10,h30,h20,hw0,hz0,hk0,Xw,hL0,r5⟩;refine Qz (a:=_) [7] (by intro s hs;exact r5 s (by simp only[QG2,QHG,or_false]at hs ⊢;omega)) ?_;intro f fr hf hmm hn;have h1:f 1=.ptr 0 1 0:=by rw[hf,h10]<;>rfl
 have h3:f 3=.ptr 0 3 0:=by rw[hf,h30]<;>rfl
 have h2:f 2=.ptr 0 2 0:=by rw[hf,h20]<;>rfl
 have hw:f 26=.list (S.enums.map XY):=by rw[hf,hw0]<;>rfl
 have hz:f 27=.int .i64 (S.enums.length:Nat):=by rw[hf,hz0]<;>rfl
 have hk:f 28=.int .i64 (i:Nat):=by rw[hf,hk0]<;>rfl
 have o1:fr 1=.cells [.list (S.msgs.map fun n=>.agg n.cells),.list (S.enums.map fun n=>.agg n.cells),.list (S.servs.map fun n=>.agg n.cells)]:=by rw[hmm 1 (by decide),Xw]<;>rfl
 obtain⟨a,b,c,m30,m00,m10,m20⟩:=hL0.row;have m4:fr 2=.cells [.nils,.nils,.nils]:=by rw[hmm 2 (by decide),hL0.res]<;>rfl
 have m3:fr 3=.cells [.vec 0 1100 a 0 (A).length false,.vec 0 1101 b 0 ((B++(S.enums.take i).map SE.name)).length false,.vec 0 1102 c 0 (C).length false]:=by rw[hmm 3 (by decide),m30]<;>rfl
 have m0:fr 1100=.vec a 1 ((A).map Qk):=by rw[hmm 1100 (by decide),m00]<;>rfl
 have m1:fr 1101=.vec b 1 (((B++(S.enums.take i).map SE.name)).map Qk):=by rw[hmm 1101 (by decide),m10]<;>rfl
 have m2:fr 1102=.vec c 1 ((C).map Qk):=by rw[hmm 1102 (by decide),m20]<;>rfl
 have nv:=hn 7 (by decide);have r5':∀s∈[5,7,9],(fr s).isRow=false:=by
  intro s hs;by_cases hsv:s=7
  ·subst hsv;rw[nv];rfl
  ·rw[hmm s (by simp only[QG2,QHG,or_false];exact hsv)];have:=r5 s hs
   revert this
   cases fr0 s<;>intro h<;>first|rfl|exact h
 clear hf hmm hn h10 h30 h20 hw0 hz0 hk0 Xw hL0 r5 m30 m00 m10 m20;simp only[hz,hk,Qa,seval];by_cases hlt:i<S.enums.length
 case neg=>
  simp only[QG hlt,Qa,seval];exact hq _ _ i (by omega) (by exact h1) (by exact h3) (by exact h2) o1 ⟨⟨a,b,c,m3,m0,m1,m2⟩,m4⟩ r5'
 obtain⟨x,hx⟩:∃x,S.enums[i]? = some x:=⟨S.enums[i],QFT hlt⟩;have hg:(S.enums.map XY)[i]? = some (.agg x.cells):=by rw[QG5,hx];rfl
 rw[Zg]at hg;have e1:=Qo i _ hlt (by simp only[maxLen];omega);have ht:(S.enums.take i).length≤i:=by rw[QGF];omega
 have hsu:(S.enums.take (i+1)).map SE.name=(S.enums.take i).map SE.name++[x.name]:=by rw[QHk,hx,QHl,QHj];rfl
 simp only[QC hlt,nv,Qi,QHa,Qc,hg,h3,hw,hk,m3,eE,seval];refine ZE (w:=x.name) rfl ?_;refine Q8 (xs:=(B++(S.enums.take i).map SE.name).map Qk) (by rfl) (by exact m1) rfl (by simp) (by rfl) rfl (by simp only[QGs,QG7,QF5,QGV,maxLen];omega) (by simp only[QGs,QG7,QF5,QGV];omega) ?_;simp only[h3,hk,m3,e1,Qc,eE,seval];have hs':B++(S.enums.take (i+1)).map SE.name=(B++(S.enums.take i).map SE.name)++[x.name]:=by rw[hsu];simp only[QGa]
 have hm':(B++(S.enums.take (i+1)).map SE.name).map Qk=(B++(S.enums.take i).map SE.name).map Qk++[.str x.name]:=by rw[hs',QHj];rfl
 have hn':(B++(S.enums.take (i+1)).map SE.name).length=(B++(S.enums.take i).map SE.name).length+1:=by rw[hs',QGs];rfl
 refine⟨S.enums.length-(i+1),by omega,_,_,i+1,rfl,rfl,by omega,(by exact h1),(by exact h3),(by exact h2),(by exact hw),(by exact hz),(by rfl),(by exact o1),⟨⟨_,_,_,(by rw[hn'];rfl),?_,?_,?_⟩,(by exact m4)⟩,?_⟩
 ·first|(rw[hm'];rfl)|exact m0|simp only[m0,eE,seval]
 ·first|(rw[hm'];rfl)|exact m1|simp only[m1,eE,seval]
 ·first|(rw[hm'];rfl)|exact m2|simp only[m2,eE,seval]
 ·intro s hs;simp only[QG2,QHG,or_false]at hs;rcases hs with rfl|rfl|rfl<;>first|rfl|exact r5' _ (by decide)

include hM hS in
theorem QBF (A B C:List (List UInt8))(hABC:A.length≤1048576∧B.length≤1048576∧C.length≤1048576)(f:Fr)(fr:Nat→Ob)(h1:f 1=.ptr 0 1 0)(h3:f 3=.ptr 0 3 0)(h2:f 2=.ptr 0 2 0)(hw:f 41=.list (S.servs.map KL))(hz:f 42=.int .i64 (S.servs.length:Nat))(hk:f 43=.int .i64 0)
  (o1:fr 1=.cells [.list (S.msgs.map fun n=>.agg n.cells),.list (S.enums.map fun n=>.agg n.cells),.list (S.servs.map fun n=>.agg n.cells)]) (hL:Ls fr A B C) (r5:∀s∈[5,7,9],(fr s).isRow=false) (Q:Exit→St→Prop)
  (hq:∀(f:Fr) (fr:Nat→Ob) (i:Nat),i=S.servs.length→f 1=.ptr 0 1 0→f 3=.ptr 0 3 0→f 2=.ptr 0 2 0→fr 1=.cells [.list (S.msgs.map fun n=>.agg n.cells),.list (S.enums.map fun n=>.agg n.cells),.list (S.servs.map fun n=>.agg n.cells)]→Ls fr A B (C++(S.servs.take i).map SQ.name)→(∀s∈[5,7,9],(fr s).isRow=false)→Q (.exit 4) ⟨f,[fr],[]⟩):QK Tryz.prog (.loop Tt) ⟨f,[fr],[]⟩ Q:=by
 let I:Nat→St→Prop:=fun k st=>∃f fr i,st=⟨f,[fr],[]⟩∧k=S.servs.length-i∧i≤S.servs.length∧f 1=.ptr 0 1 0∧f 3=.ptr 0 3 0∧f 2=.ptr 0 2 0∧f 41=.list (S.servs.map KL)∧f 42=.int .i64 (S.servs.length:Nat)∧f 43=.int .i64 (i:Nat)∧
  fr 1=.cells [.list (S.msgs.map fun n=>.agg n.cells),.list (S.enums.map fun n=>.agg n.cells),.list (S.servs.map fun n=>.agg n.cells)]∧Ls fr A B (C++(S.servs.take i).map SQ.name)∧∀s∈[5,7,9],(fr s).isRow=false
 have hl1:=hS.len3;obtain⟨hA,hB,hC⟩:=hABC;refine Qd I _ ⟨f,fr,0,rfl,rfl,QFZ _,h1,h3,h2,hw,hz,hk,o1,by simpa using hL,r5⟩ ?_;clear h1 h3 h2 hw hz hk o1 hL r5;rintro _ st ⟨f0,fr0,i,rfl,rfl,hi,h10,h30,h20,hw0,hz0,hk0,Xw,hL0,r5⟩;refine Qz (a:=_) [9] (by intro s hs;exact r5 s (by simp only[QG2,QHG,or_false]at hs ⊢;omega)) ?_;intro f fr hf hmm hn;have h1:f 1=.ptr 0 1 0:=by rw[hf,h10]<;>rfl
 have h3:f 3=.ptr 0 3 0:=by rw[hf,h30]<;>rfl
 have h2:f 2=.ptr 0 2 0:=by rw[hf,h20]<;>rfl
 have hw:f 41=.list (S.servs.map KL):=by rw[hf,hw0]<;>rfl
 have hz:f 42=.int .i64 (S.servs.length:Nat):=by rw[hf,hz0]<;>rfl
 have hk:f 43=.int .i64 (i:Nat):=by rw[hf,hk0]<;>rfl
 have o1:fr 1=.cells [.list (S.msgs.map fun n=>.agg n.cells),.list (S.enums.map fun n=>.agg n.cells),.list (S.servs.map fun n=>.agg n.cells)]:=by rw[hmm 1 (by decide),Xw]<;>rfl
 obtain⟨a,b,c,m30,m00,m10,m20⟩:=hL0.row;have m4:fr 2=.cells [.nils,.nils,.nils]:=by rw[hmm 2 (by decide),hL0.res]<;>rfl
 have m3:fr 3=.cells [.vec 0 1100 a 0 (A).length false,.vec 0 1101 b 0 (B).length false,.vec 0 1102 c 0 ((C++(S.servs.take i).map SQ.name)).length false]:=by rw[hmm 3 (by decide),m30]<;>rfl
 have m0:fr 1100=.vec a 1 ((A).map Qk):=by rw[hmm 1100 (by decide),m00]<;>rfl
 have m1:fr 1101=.vec b 1 ((B).map Qk):=by rw[hmm 1101 (by decide),m10]<;>rfl
 have m2:fr 1102=.vec c 1 (((C++(S.servs.take i).map SQ.name)).map Qk):=by rw[hmm 1102 (by decide),m20]<;>rfl
 have nv:=hn 9 (by decide);have r5':∀s∈[5,7,9],(fr s).isRow=false:=by
  intro s hs;by_cases hsv:s=9
  ·subst hsv;rw[nv];rfl
  ·rw[hmm s (by simp only[QG2,QHG,or_false];exact hsv)];have:=r5 s hs
   revert this
   cases fr0 s<;>intro h<;>first|rfl|exact h
 clear hf hmm hn h10 h30 h20 hw0 hz0 hk0 Xw hL0 r5 m30 m00 m10 m20;simp only[hz,hk,Qa,seval];by_cases hlt:i<S.servs.length
 case neg=>
  simp only[QG hlt,Qa,seval];exact hq _ _ i (by omega) (by exact h1) (by exact h3) (by exact h2) o1 ⟨⟨a,b,c,m3,m0,m1,m2⟩,m4⟩ r5'
 obtain⟨x,hx⟩:∃x,S.servs[i]? = some x:=⟨S.servs[i],QFT hlt⟩;have hg:(S.servs.map KL)[i]? = some (.agg x.cells):=by rw[QG5,hx];rfl
 rw[J5]at hg;have e1:=Qo i _ hlt (by simp only[maxLen];omega);have ht:(S.servs.take i).length≤i:=by rw[QGF];omega
 have hsu:(S.servs.take (i+1)).map SQ.name=(S.servs.take i).map SQ.name++[x.name]:=by rw[QHk,hx,QHl,QHj];rfl
 simp only[QC hlt,nv,Qi,QHa,Qc,hg,h3,hw,hk,m3,eE,seval];refine ZE (w:=x.name) rfl ?_;refine Q8 (xs:=(C++(S.servs.take i).map SQ.name).map Qk) (by rfl) (by exact m2) rfl (by simp) (by rfl) rfl (by simp only[QGs,QG7,QF5,QGV,maxLen];omega) (by simp only[QGs,QG7,QF5,QGV];omega) ?_;simp only[h3,hk,m3,e1,Qc,eE,seval];have hs':C++(S.servs.take (i+1)).map SQ.name=(C++(S.servs.take i).map SQ.name)++[x.name]:=by rw[hsu];simp only[QGa]
 have hm':(C++(S.servs.take (i+1)).map SQ.name).map Qk=(C++(S.servs.take i).map SQ.name).map Qk++[.str x.name]:=by rw[hs',QHj];rfl
 have hn':(C++(S.servs.take (i+1)).map SQ.name).length=(C++(S.servs.take i).map SQ.name).length+1:=by rw[hs',QGs];rfl
 refine⟨S.servs.length-(i+1),by omega,_,_,i+1,rfl,rfl,by omega,(by exact h1),(by exact h3),(by exact h2),(by exact hw),(by exact hz),(by rfl),(by exact o1),⟨⟨_,_,_,(by rw[hn'];rfl),?_,?_,?_⟩,(by exact m4)⟩,?_⟩
 ·first|(rw[hm'];rfl)|exact m0|simp only[m0,eE,seval]
 ·first|(rw[hm'];rfl)|exact m1|simp only[m1,eE,seval]
 ·first|(rw[hm'];rfl)|exact m2|simp only[m2,eE,seval]
 ·intro s hs;simp only[QG2,QHG,or_false]at hs;rcases hs with rfl|rfl|rfl<;>first|rfl|exact r5' _ (by decide)

include hM hS in
theorem s97:Qs Tryz.prog 97 [S.av] (.agg [.list ((S.msgs.map SM.name).map Qk),.list ((S.enums.map SE.name).map Qk),.list ((S.servs.map SQ.name).map Qk)]):=by
 have l1:=hS.len1;have l2:=hS.len2;have l3:=hS.len3;refine k97.fn (by simp) ?_;simp only[SC.av,eE,seval];refine Xn rfl rfl rfl rfl ?_;refine Xn rfl rfl rfl rfl ?_;refine Xn rfl rfl rfl rfl ?_;simp only[QG7,eE,seval];refine QBD hM S hS [] [] [] ⟨by simp,by simp,by simp⟩ _ _ (by rfl) (by rfl) (by rfl) (by rfl) (by rfl) (by rfl) (by rfl) ⟨⟨1,1,1,rfl,rfl,rfl,rfl⟩,rfl⟩ (by
  intro s hs;simp only[QG2,QHG,or_false]at hs;rcases hs with rfl|rfl|rfl<;>rfl) _ (fun f fr i hi h1 h3 h2 o1 hL r5=>?_)
 subst hi;rw[QGc,QHh]at hL;simp only[h1,o1,QG7,eE,seval];refine QBE hM S hS _ [] [] ⟨by rw[QG7];omega,by simp,by simp⟩ _ _ (by exact h1) (by exact h3) (by exact h2) (by rfl) (by rfl) (by rfl) o1 hL r5 _ (fun f fr i hi h1 h3 h2 o1 hL r5=>?_);subst hi;rw[QGc,QHh]at hL;simp only[h1,o1,QG7,eE,seval];refine QBF hM S hS _ _ [] ⟨by rw[QG7];omega,by rw[QG7];omega,by simp⟩ _ _ (by exact h1) (by exact h3) (by exact h2) (by rfl) (by rfl) (by rfl) o1 hL r5 _ (fun f fr i hi h1 h3 h2 o1 hL r5=>?_);subst hi;rw[QGc,QHh]at hL;obtain⟨a,b,c,m3,m0,m1,m2⟩:=hL.row;have ht:∀l:List (List UInt8),List.take l.length (List.map Qk l)=List.map Qk l:=fun l=>QGo (by rw[QG7];exact QFQ _)
 have m4:=hL.res;simp only[h3,h2,m3,m0,m1,m2,m4,QGf,QFQ,QGN,QG7,QGw,AV.un,eE,seval];rw[show List.take S.msgs.length (List.map Qk (List.map SM.name S.msgs))=List.map Qk (List.map SM.name S.msgs)from QGo (by simp),show List.take S.enums.length (List.map Qk (List.map SE.name S.enums))=List.map Qk (List.map SE.name S.enums)from QGo (by simp),show List.take S.servs.length (List.map Qk (List.map SQ.name S.servs))=List.map Qk (List.map SQ.name S.servs)from QGo (by simp)]
end

theorem QBG {k:Nat}(h:k<1):decide ((k:Int)<1)=true:=QHA (by omega)
theorem QBH {k:Nat}(h:k<2):decide ((k:Int)<2)=true:=QHA (by omega)
def KQ (A B C:List (List UInt8)):Nat→List (List UInt8)
 |0=>A
 |1=>B
 |_=>C

section
variable (A B C:List (List UInt8))(hA:A.length≤maxLen)(hB:B.length≤maxLen)(hC:C.length≤maxLen)

theorem QBI (k:Nat)(hk:k<3)(hl:(KQ A B C k).length≤maxLen)(fr:Nat→Ob)(o1:fr 1=.cells [.list (A.map Qk),.list (B.map Qk),.list (C.map Qk)])(o4:fr 4=.cells [.int .i64 (k:Nat)])(n:List UInt8) :
  Qn Tryz.prog 118 [Qk n,.ptr 2 1 0,.ptr 2 4 0] [Qf,Qf,fr] fun y m1=>y=.bool ((KQ A B C k).contains n)∧m1=[Qf,Qf,fr]:=by
 have hc:=s74 _ hl n;have hlt:decide ((k:Int)<3)=true:=QHA (by omega);refine Qc4.go (by simp) ?_;have hk3:k=0∨k=1∨k=2:=by omega
 rcases hk3 with rfl|rfl|rfl <;>
 ·simp only[Qk,o1,o4,Qc,eE,seval];refine aC hc ?_;simp only[Qa,seval]

def Yy (A B C:List (List UInt8))(i k:Nat):Bool:=(KQ A B C i).any fun s=>(KQ A B C k).contains s
def W7 (A B C:List (List UInt8)):Bool:=!Yy A B C 1 0 && !Yy A B C 2 0 && !Yy A B C 2 1

include hA hB hC in
theorem D4 (k:Nat):(KQ A B C k).length≤maxLen:=by
 unfold KQ;split<;>assumption

include hA hB hC in
theorem QwS (i:Nat)(hi:i<3)(f:Fr)(fr:Nat→Ob)(h1:f 1=.ptr 0 1 0)(h3:f 3=.int .i64 (i:Nat))(h5:f 5=.int .i64 (i:Nat))(h8:f 8=.int .i64 (i:Nat))(h9:f 9=.int .i64 0)(o1:fr 1=.cells [.list (A.map Qk),.list (B.map Qk),.list (C.map Qk)])(r4:(fr 4).isRow=false)(Q:Exit→St→Prop)
  (hq:∀(f:Fr) (fr:Nat→Ob),(∀k,k<i→Yy A B C i k=false)→f 1=.ptr 0 1 0→f 5=.int .i64 (i:Nat)→fr 1=.cells [.list (A.map Qk),.list (B.map Qk),.list (C.map Qk)]→(fr 4).isRow=false→Q (.exit 2) ⟨f,[fr],[]⟩)
  (hr:∀(f:Fr) (fr:Nat→Ob) (k:Nat),k<i→Yy A B C i k=true→f 2=.bool false→Q .ret ⟨f,[fr],[]⟩):QK Tryz.prog (.loop Cj) ⟨f,[fr],[]⟩ Q:=by
 let I:Nat→St→Prop:=fun n st=>∃f fr k,st=⟨f,[fr],[]⟩∧n=i-k∧k≤i∧(∀j,j<k→Yy A B C i j=false)∧f 1=.ptr 0 1 0∧f 3=.int .i64 (i:Nat)∧f 5=.int .i64 (i:Nat)∧f 8=.int .i64 (i:Nat)∧f 9=.int .i64 (k:Nat)∧fr 1=.cells [.list (A.map Qk),.list (B.map Qk),.list (C.map Qk)]∧(fr 4).isRow=false
 refine Qd I _ ⟨f,fr,0,rfl,rfl,QFZ _,fun j hj=>by omega,h1,h3,h5,h8,h9,o1,r4⟩ ?_;clear h1 h3 h5 h8 h9 o1 r4;rintro _ st ⟨f0,fr0,k,rfl,rfl,hk,hal,h10,h30,h50,h80,h90,Xw,r4⟩;refine Qz (a:=_) [4] (by intro s hs;simp only[QG2,QHG,or_false]at hs;subst hs;exact r4) ?_;intro f fr hf hmm hn;have h1:f 1=.ptr 0 1 0:=by rw[hf,h10]<;>rfl
 have h3:f 3=.int .i64 (i:Nat):=by rw[hf,h30]<;>rfl
 have h5:f 5=.int .i64 (i:Nat):=by rw[hf,h50]<;>rfl
 have h8:f 8=.int .i64 (i:Nat):=by rw[hf,h80]<;>rfl
 have h9:f 9=.int .i64 (k:Nat):=by rw[hf,h90]<;>rfl
 have o1:fr 1=.cells [.list (A.map Qk),.list (B.map Qk),.list (C.map Qk)]:=by rw[hmm 1 (by decide),Xw]<;>rfl
 have n4:=hn 4 (by decide);clear hf hmm hn h10 h30 h50 h80 h90 Xw r4;simp only[h8,h9,Qa,seval];by_cases hlt:k<i
 case neg=>
  have e:k=i:=by omega
  subst e;simp only[QG hlt,Qa,seval];exact hq _ _ hal (by exact h1) (by exact h5) o1 (by rw[n4];rfl)
 have e1:=Qo k _ hlt (by simp only[maxLen];omega);have hcc:∀F:Nat→Ob,F 1=.cells [.list (A.map Qk),.list (B.map Qk),.list (C.map Qk)]→F 4=.cells [.int .i64 (k:Nat)]→Qn Tryz.prog 117 [.list ((KQ A B C i).map Qk),.fn (.func 118) [] [.ptr 0 1 0,.ptr 0 4 0]] [F] fun y m1=>y=.bool (Yy A B C i k)∧m1=[F] :=
  fun F g1 g4=>NB (KQ A B C i) (D4 A B C hA hB hC i) (fun s=>(KQ A B C k).contains s) 118 [.ptr 0 1 0,.ptr 0 4 0] [F] fun o _=>QBI A B C k (by omega) (D4 A B C hA hB hC k) F g1 g4 o
 have hi3:i=1∨i=2:=by omega
 rcases hi3 with rfl|rfl <;>
 ·first
   |simp only[QBG hlt,n4,o1,Qc,h1,h3,h9,eE,seval]
   |simp only[QBH hlt,n4,o1,Qc,h1,h3,h9,eE,seval]
  refine Qb (hcc _ (by exact o1) (by rfl)) (by simp only[QGn,QGK,h1,KQ,Qa,seval]<;>rfl) ?_;cases ha:Yy A B C _ k
  ·simp only[h9,e1,Qa,seval];exact⟨_,by omega,_,_,k+1,rfl,rfl,by omega,fun j hj=>(by rcases QHv.1 hj with h|rfl;exact hal j h;exact ha),(by exact h1),(by exact h3),(by exact h5),(by exact h8),(by rfl),(by exact o1),rfl⟩
  ·simp only[Qa,seval];exact hr _ _ k hlt ha (by rfl)

include hA hB hC in
theorem QBJ:Qs Tryz.prog 100 [.agg [.list (A.map Qk),.list (B.map Qk),.list (C.map Qk)]] (.bool (W7 A B C)):=by
 let I:Nat→St→Prop:=fun n st=>∃f fr i,st=⟨f,[fr],[]⟩∧n=3-i∧i≤3∧(∀j,j<i→∀k,k<j→Yy A B C j k=false)∧f 1=.ptr 0 1 0∧f 5=.int .i64 (i:Nat)∧fr 1=.cells [.list (A.map Qk),.list (B.map Qk),.list (C.map Qk)]∧(fr 4).isRow=false
 refine Qa3.fn (by simp) ?_;simp only[eE,seval];refine Qd I _ ⟨_,_,0,rfl,rfl,by omega,fun j hj=>by omega,(by rfl),(by rfl),(by rfl),rfl⟩ ?_;rintro _ st ⟨f0,fr0,i,rfl,rfl,hi,hal,h10,h50,Xw,r4⟩;refine Qz (a:=_) [4] (by intro s hs;simp only[QG2,QHG,or_false]at hs;subst hs;exact r4) ?_;intro f fr hf hmm hn;have h1:f 1=.ptr 0 1 0:=by rw[hf,h10]<;>rfl
 have h5:f 5=.int .i64 (i:Nat):=by rw[hf,h50]<;>rfl
 have o1:fr 1=.cells [.list (A.map Qk),.list (B.map Qk),.list (C.map Qk)]:=by rw[hmm 1 (by decide),Xw]<;>rfl
 have n4:=hn 4 (by decide);clear hf hmm hn h10 h50 Xw r4;simp only[h5,Qa,seval];by_cases hlt:i<3
 case neg=>
  have e:i=3:=by omega
  subst e;have d:decide (((3:Nat):Int)<3)=false:=rfl;have hap:W7 A B C=true:=by
   unfold W7;rw[hal 1 (by omega) 0 (by omega),hal 2 (by omega) 0 (by omega),hal 2 (by omega) 1 (by omega)];rfl
  simp only[hap,Qa,seval]
 have d:decide ((i:Int)<3)=true:=QHA (by omega);have e1:=Qo i 3 hlt (by simp only[maxLen];omega);simp only[d,h5,Qa,seval];refine QwS A B C hA hB hC i hlt _ _ (by exact h1) (by rfl) (by exact h5) (by rfl) (by rfl) o1 (by rw[n4];rfl) _ (fun f fr hk h1 h5 o1 r4=>?_) (fun f fr k hk ha h2=>?_)
 ·simp only[h5,e1,Qa,seval];exact⟨3-(i+1),by omega,_,_,i+1,rfl,rfl,by omega,fun j hj=>(by rcases QHv.1 hj with h|rfl;exact hal j h;exact hk),(by exact h1),(by rfl),o1,r4⟩
 ·have hap:W7 A B C=false:=by
   unfold W7;have h3:(i=1∧k=0)∨(i=2∧k=0)∨(i=2∧k=1):=by omega
   rcases h3 with⟨rfl,rfl⟩|⟨rfl,rfl⟩|⟨rfl,rfl⟩<;>rw[ha]<;>simp
  simp only[h2,hap,Qa,seval]
end

theorem MU (S:SC):W7 (S.msgs.map SM.name) (S.enums.map SE.name) (S.servs.map SQ.name)=Jm S:=by
 have key:∀ {α β:Type} (l:List α) (r:List β) (f:α→List UInt8) (g:β→List UInt8),((l.map f).any fun s=>(r.map g).contains s)=l.any fun x=>r.any fun y=>g y==f x:=by
  intro α β l r f g;rw[List.any_map];congr 1
  funext x;show(r.map g).contains (f x)=_;rw[←Bw,List.any_map];rfl
 unfold W7 Jm Yy;show(!((S.enums.map SE.name).any fun s=>(S.msgs.map SM.name).contains s) && !((S.servs.map SQ.name).any fun s=>(S.msgs.map SM.name).contains s) && !((S.servs.map SQ.name).any fun s=>(S.enums.map SE.name).contains s))=_;rw[key,key,key]

theorem Yf {M:Nat}(hM:M≤1048576)(S:SC)(cy:SM→Bool)(m:SM)(hm:m.ok M):(ZX S cy m).length≤14000000:=by
 have h1:=hm.len1;have h2:=hm.len2;have h3:=hm.len3;have a:=QX m.name (-1) (Xp m.name) 8;have b:=QX m.name (-1) (decide (m.fields.length≤64)&&decide (m.free.length≤16)&&decide (m.gone.length≤16)) 3;have c:=QP (l:=m.fields) (K5 S m) m.fields.length;have d:=QP (l:=m.free) (Jw m.name 1 65535 m.free) m.free.length;have e:=QP (l:=m.gone) (g:=fun _ g=>pb m.name (-1) (ZR g) 7) (c:=1) (fun _ g=>QX ..) m.gone.length;have f:=QX m.name (-1) (XX m.notes 1==0) (XX m.notes 1);have g:=QX m.name (-1) (!cy m) 19;unfold ZX Xs;simp only[QGs];omega
theorem Yg {M:Nat}(hM:M≤1048576)(e:SE)(he:e.ok M):(ZS e).length≤14000000:=by
 have h1:=he.len1;have h2:=he.len2;have a:=QX e.name (-1) (Xp e.name) 8;have b:=QX e.name (-1) (decide (e.items.length≥1)&&decide (e.items.length≤64)&&decide (e.free.length≤16)) 3;have b2:=QX e.name (-1) (Zv e) 14;have c:=QP (l:=e.items) (K6 e) e.items.length;have d:=QP (l:=e.free) (Jw e.name 0 2147483647 e.free) e.free.length;have f:=QX e.name (-1) (XX e.notes 3==0) (XX e.notes 3);unfold ZS Xs;simp only[QGs];omega
theorem Bz {M:Nat}(hM:M≤1048576)(S:SC)(v:SQ)(hv:v.ok M):(Z7 S v).length≤14000000:=by
 have h1:=hv.len1;have a:=QX v.name (-1) (Xp v.name) 8;have b:=QX v.name (-1) (decide (v.meths.length≤64)) 3;have c:=QP (l:=v.meths) (K7 S v) v.meths.length;have f:=QX v.name (-1) (XX v.notes 5==0) (XX v.notes 5);unfold Z7 Xs;simp only[QGs];omega
theorem Ho (l:List PB):(l.map PB.av).all (fun e=>e.cells.length==3)=true:=by
 rw[QF3];intro x hx;obtain⟨y,_,rfl⟩:=QG3.1 hx;rfl

theorem Zy (l:List (List UInt8)):(ZZ l).length≤2:=by
 have a:=QX [] (-1) (decide (l.length≤64)) 3;have b:=QX [] (-1) (Xx l Op.bytesLess) 11;unfold ZZ;rw[QGs];omega
def Ji (A B C:List (List UInt8)):Nat→List PB
 |0=>[]
 |1=>ZZ A
 |2=>ZZ A++ZZ B
 |_=>ZZ A++ZZ B++ZZ C

section
variable (A B C:List (List UInt8))(hA:A.length≤1048576)(hB:B.length≤1048576)(hC:C.length≤1048576)(base:Nat→Ob)
def AF (f:Fr):Prop:=f 1=.ptr 0 1 0∧f 3=.ptr 0 15 0∧f 4=.ptr 0 4 0

include hA hB hC in
theorem QBK (f:Fr)(hf:AF f)(h18:f 18=.agg [.list (A.map Qk),.list (B.map Qk),.list (C.map Qk)])(h19:f 19=.int .i64 0)(Q:Exit→St→Prop)
  (hq:∀f,AF f→Q (.exit 0) ⟨f,[Qm base 15 1100 [] (-1) (Ji A B C 3)],[]⟩):QK Tryz.prog (.loop Nk) ⟨f,[Qm base 15 1100 [] (-1) []],[]⟩ Q:=by
 let I:Nat→St→Prop:=fun n st=>∃f i,st=⟨f,[Qm base 15 1100 [] (-1) (Ji A B C i)],[]⟩∧n=3-i∧i≤3∧AF f∧f 18=.agg [.list (A.map Qk),.list (B.map Qk),.list (C.map Qk)]∧f 19=.int .i64 (i:Nat)
 refine Qd I _ ⟨f,0,rfl,rfl,by omega,hf,h18,h19⟩ ?_;clear hf h18 h19;rintro _ st ⟨f,i,rfl,rfl,hi,⟨h1,h3,h4⟩,h18,h19⟩;simp only[Nk,Te,h19,Qa,seval];by_cases hlt:i<3
 case neg=>
  have e:i=3:=by omega
  subst e;have d:decide (((3:Nat):Int)<3)=false:=rfl;simp only[Qa,seval];exact hq _ ⟨(by exact h1),(by exact h3),(by exact h4)⟩
 have d:decide ((i:Int)<3)=true:=QHA (by omega);have e1:=Qo i 3 hlt (by simp only[maxLen];omega);have key:∀(L:List (List UInt8)) (hL:L.length≤1048576) (p:List PB) (hp:p.length≤100) (hs:Ji A B C (i+1)=p++ZZ L) (f:Fr) (h1:f 1=.ptr 0 1 0) (h3:f 3=.ptr 0 15 0) (h4:f 4=.ptr 0 4 0) (h18:f 18=.agg [.list (A.map Qk),.list (B.map Qk),.list (C.map Qk)]) (h19:f 19=.int .i64 (i:Nat)) (h6:f 6=.list (L.map Qk)),
   Qj Tryz.prog Nh ⟨f,[Qm base 15 1100 [] (-1) p],[]⟩ (Kc Tryz.prog (.reg Ni) (Kb 1 (Kc Tryz.prog (.reg Nj) (Kl I (3-i) Q))) Exit.normal):=by
  intro L hL p hp hs f h1 h3 h4 h18 h19 h6;simp only[Nh,h3,h6,QG7,NF,Qa,seval];refine Qb (XB base 15 1100 [] (-1) p (by decide) rfl (by omega) (decide (L.length≤64)) 3 []) (by simp only[QGn,QGK,Qa,seval]<;>rfl) ?_;simp only[Ni,h3,h6,Qa,seval];refine aC (s99 L (by simp only[maxLen];omega)) ?_
  try simp only[eE,seval]
  have q1:=Qu hp [] (-1) (decide (L.length≤64)) 3;refine Qb (XB base 15 1100 [] (-1) _ (by decide) rfl (by omega) (Xx L Op.bytesLess) 11 []) (by simp only[QGn,QGK,Qa,seval]<;>rfl) ?_;simp only[Nj,h19,e1,Qa,seval];exact⟨3-(i+1),by omega,_,i+1,by rw[hs,ZZ,QGa],rfl,by omega,⟨(by exact h1),(by exact h3),(by exact h4)⟩,(by exact h18),(by rfl)⟩
 rcases(show i=0∨i=1∨i=2 by omega)with rfl|rfl|rfl
 ·simp only[H2,h18,h19,Qa,seval];refine key A hA [] (by simp) rfl _ (by exact h1) (by exact h3) (by exact h4) (by exact h18) (by exact h19) (by rfl)
 ·simp only[H2,h18,h19,Qa,seval];refine key B hB (ZZ A) (by have:=Zy A;omega) rfl _ (by exact h1) (by exact h3) (by exact h4) (by exact h18) (by exact h19) (by rfl)
 ·simp only[H2,h18,h19,Qa,seval];refine key C hC (ZZ A++ZZ B) (by have:=Zy A;have:=Zy B;simp only[QGs];omega) rfl _ (by exact h1) (by exact h3) (by exact h4) (by exact h18) (by exact h19) (by rfl)
end

theorem X3 {α β:Type}{l:List α}{g:α→List β}{i:Nat}{x:α}(h:l[i]? = some x):(l.take (i+1)).flatMap g=(l.take i).flatMap g++g x:=by
 rw[QHk,h,QHl,List.flatMap_append,List.flatMap_cons,List.flatMap_nil,QGM]
theorem Z1 {α β:Type}{l:List α}{g:α→List β}{c:Nat}(h:∀x∈l,(g x).length≤c):∀n,((l.take n).flatMap g).length≤c*n
 |0=>by simp
 |n+1=>by
  have ih:=Z1 h n;rw[Nat.mul_add];cases hx:l[n]? with
  |none=>
   rw[QHk,hx,Option.toList_none,QGM];omega
  |some x=>
   have:=h x (QF4 hx);rw[X3 hx,QGs];omega
def AR (fr:Nat→Ob)(L:List PB):Prop:=∃g,fr 15=.cells [.str [],.int .i64 (-1),.vec 0 1100 g 0 L.length false]∧fr 1100=.vec g 3 (L.map PB.av)

section
variable {M:Nat}(hM:M≤1048576)(S:SC)(hS:S.ok M)(X:List (List UInt8))
include hM hS in
theorem QBL (l:List PB)(hl:l.length≤1000000000)(h8:S.msgs.length≤8)(f:Fr)(fr:Nat→Ob)(h1:f 1=.ptr 0 1 0)(h3:f 3=.ptr 0 15 0)(h7:f 7=.mp X (Xe X))(hw:f 39=.list (S.msgs.map QY))(hz:f 40=.int .i64 (S.msgs.length:Nat))(hk:f 41=.int .i64 0)
  (o1:fr 1=.cells [.list (S.msgs.map fun n=>.agg n.cells),.list (S.enums.map fun n=>.agg n.cells),.list (S.servs.map fun n=>.agg n.cells)]) (hA:AR fr l) (rv:∀s∈[9,11,13],(fr s).isRow=false) (Q:Exit→St→Prop)
  (hq:∀(f:Fr) (fr:Nat→Ob),f 1=.ptr 0 1 0→f 3=.ptr 0 15 0→f 7=.mp X (Xe X)→fr 1=.cells [.list (S.msgs.map fun n=>.agg n.cells),.list (S.enums.map fun n=>.agg n.cells),.list (S.servs.map fun n=>.agg n.cells)]→AR fr (l++S.msgs.flatMap (ZX S (fun m=>(XU m).any fun n=>QW S n && !X.contains n)))→(∀s∈[9,11,13],(fr s).isRow=false)→Q (.exit 2) ⟨f,[fr],[]⟩):QK Tryz.prog (.loop Tg) ⟨f,[fr],[]⟩ Q:=by
 let I:Nat→St→Prop:=fun n st=>∃f fr i,st=⟨f,[fr],[]⟩∧n=S.msgs.length-i∧i≤S.msgs.length∧f 1=.ptr 0 1 0∧f 3=.ptr 0 15 0∧f 7=.mp X (Xe X)∧f 39=.list (S.msgs.map QY)∧f 40=.int .i64 (S.msgs.length:Nat)∧f 41=.int .i64 (i:Nat)∧
  fr 1=.cells [.list (S.msgs.map fun n=>.agg n.cells),.list (S.enums.map fun n=>.agg n.cells),.list (S.servs.map fun n=>.agg n.cells)]∧AR fr (l++(S.msgs.take i).flatMap (ZX S (fun m=>(XU m).any fun n=>QW S n && !X.contains n)))∧∀s∈[9,11,13],(fr s).isRow=false
 have hg:∀x∈S.msgs,((ZX S (fun m=>(XU m).any fun n=>QW S n && !X.contains n)) x).length≤14000000:=fun x hx=>Yf hM S _ x (hS.msgs x hx)
 refine Qd I _ ⟨f,fr,0,rfl,rfl,QFZ _,h1,h3,h7,hw,hz,hk,o1,by simpa using hA,rv⟩ ?_;clear h1 h3 h7 hw hz hk o1 hA rv;rintro _ st ⟨f0,fr0,i,rfl,rfl,hi,h10,h30,h70,hw0,hz0,hk0,Xw,⟨g,m15,mR⟩,rv⟩;refine Qz (a:=_) [9] (by intro s hs;simp only[QG2,QHG,or_false]at hs;subst hs;exact rv _ (by decide)) ?_;intro f fr hf hmm hn;have h1:f 1=.ptr 0 1 0:=by rw[hf,h10]<;>rfl
 have h3:f 3=.ptr 0 15 0:=by rw[hf,h30]<;>rfl
 have h7:f 7=.mp X (Xe X):=by rw[hf,h70]<;>rfl
 have hw:f 39=.list (S.msgs.map QY):=by rw[hf,hw0]<;>rfl
 have hz:f 40=.int .i64 (S.msgs.length:Nat):=by rw[hf,hz0]<;>rfl
 have hk:f 41=.int .i64 (i:Nat):=by rw[hf,hk0]<;>rfl
 have o1:fr 1=.cells [.list (S.msgs.map fun n=>.agg n.cells),.list (S.enums.map fun n=>.agg n.cells),.list (S.servs.map fun n=>.agg n.cells)]:=by rw[hmm 1 (by decide),Xw]<;>rfl
 have oS:fr 15=.cells [.str [],.int .i64 (-1),.vec 0 1100 g 0 (l++(S.msgs.take i).flatMap (ZX S (fun m=>(XU m).any fun n=>QW S n && !X.contains n))).length false]:=by rw[hmm 15 (by decide),m15]<;>rfl
 have oR:fr 1100=.vec g 3 ((l++(S.msgs.take i).flatMap (ZX S (fun m=>(XU m).any fun n=>QW S n && !X.contains n))).map PB.av):=by rw[hmm 1100 (by decide),mR]<;>rfl
 have nv:=hn 9 (by decide);have rv':∀s∈[9,11,13],(fr s).isRow=false:=by
  intro s hs;by_cases hsv:s=9
  ·subst hsv;rw[nv];rfl
  ·rw[hmm s (by simp only[QG2,QHG,or_false];exact hsv)];have:=rv s hs
   revert this
   cases fr0 s<;>intro h<;>first|rfl|exact h
 clear hf hmm hn h10 h30 h70 hw0 hz0 hk0 Xw m15 mR rv;simp only[VX,VY,VZ,V1,hz,hk,Qa,seval];by_cases hlt:i<S.msgs.length
 case neg=>
  have e:i=S.msgs.length:=by omega
  subst e;simp only[QG hlt,Qa,seval];rw[QHh]at oS oR;exact hq _ _ (by exact h1) (by exact h3) (by exact h7) o1 ⟨g,oS,oR⟩ rv'
 obtain⟨x,hx⟩:∃x,S.msgs[i]? = some x:=⟨S.msgs[i],QFT hlt⟩;have hm:=QF4 hx;have hgx:(S.msgs.map QY)[i]? = some (.agg x.cells):=by rw[QG5,hx];rfl
 rw[Xz]at hgx;have e1:=Qo i _ hlt (by simp only[maxLen];omega);have q1:=Z1 hg i;have q2:=hg x hm;have hc:=QBs hM S hS x (hS.msgs x hm) X;simp only[QY,Xz,SC.av]at hc;simp only[QC hlt,nv,Qi,QHa,Qc,hgx,h1,h3,h7,hw,hk,o1,oS,eE,seval];refine aC hc ?_;refine Q8 (xs:=(l++(S.msgs.take i).flatMap (ZX S (fun m=>(XU m).any fun n=>QW S n && !X.contains n))).map PB.av) (by rfl) (by exact oR) rfl (by simp) (by rfl) (Ho _) (by simp only[QGs,QG7,maxLen];omega) (by simp only[QGs,QG7];omega) ?_;simp only[hk,oS,e1,eE,seval];refine⟨S.msgs.length-(i+1),by omega,_,_,i+1,rfl,rfl,by omega,(by exact h1),(by exact h3),(by exact h7),(by exact hw),(by exact hz),(by rfl),(by exact o1),⟨g+1,?_,?_⟩,?_⟩
 ·rw[X3 hx,←QGa];simp only[QGs,QG7,Qa,seval]
 ·rw[X3 hx,←QGa];simp only[QHj,Qa,seval]
 ·intro s hs;simp only[QG2,QHG,or_false]at hs;rcases hs with rfl|rfl|rfl<;>first|rfl|exact rv' _ (by decide)

include hM hS in
theorem QBM (l:List PB)(hl:l.length≤1000000000)(h8:S.enums.length≤8)(f:Fr)(fr:Nat→Ob)(h1:f 1=.ptr 0 1 0)(h3:f 3=.ptr 0 15 0)(h7:f 7=.mp X (Xe X))(hw:f 59=.list (S.enums.map XY))(hz:f 60=.int .i64 (S.enums.length:Nat))(hk:f 61=.int .i64 0)
  (o1:fr 1=.cells [.list (S.msgs.map fun n=>.agg n.cells),.list (S.enums.map fun n=>.agg n.cells),.list (S.servs.map fun n=>.agg n.cells)]) (hA:AR fr l) (rv:∀s∈[9,11,13],(fr s).isRow=false) (Q:Exit→St→Prop)
  (hq:∀(f:Fr) (fr:Nat→Ob),f 1=.ptr 0 1 0→f 3=.ptr 0 15 0→f 7=.mp X (Xe X)→fr 1=.cells [.list (S.msgs.map fun n=>.agg n.cells),.list (S.enums.map fun n=>.agg n.cells),.list (S.servs.map fun n=>.agg n.cells)]→AR fr (l++S.enums.flatMap (ZS))→(∀s∈[9,11,13],(fr s).isRow=false)→Q (.exit 4) ⟨f,[fr],[]⟩):QK Tryz.prog (.loop Th) ⟨f,[fr],[]⟩ Q:=by
 let I:Nat→St→Prop:=fun n st=>∃f fr i,st=⟨f,[fr],[]⟩∧n=S.enums.length-i∧i≤S.enums.length∧f 1=.ptr 0 1 0∧f 3=.ptr 0 15 0∧f 7=.mp X (Xe X)∧f 59=.list (S.enums.map XY)∧f 60=.int .i64 (S.enums.length:Nat)∧f 61=.int .i64 (i:Nat)∧
  fr 1=.cells [.list (S.msgs.map fun n=>.agg n.cells),.list (S.enums.map fun n=>.agg n.cells),.list (S.servs.map fun n=>.agg n.cells)]∧AR fr (l++(S.enums.take i).flatMap (ZS))∧∀s∈[9,11,13],(fr s).isRow=false
 have hg:∀x∈S.enums,((ZS) x).length≤14000000:=fun x hx=>Yg hM x (hS.enums x hx)
 refine Qd I _ ⟨f,fr,0,rfl,rfl,QFZ _,h1,h3,h7,hw,hz,hk,o1,by simpa using hA,rv⟩ ?_;clear h1 h3 h7 hw hz hk o1 hA rv;rintro _ st ⟨f0,fr0,i,rfl,rfl,hi,h10,h30,h70,hw0,hz0,hk0,Xw,⟨g,m15,mR⟩,rv⟩;refine Qz (a:=_) [11] (by intro s hs;simp only[QG2,QHG,or_false]at hs;subst hs;exact rv _ (by decide)) ?_;intro f fr hf hmm hn;have h1:f 1=.ptr 0 1 0:=by rw[hf,h10]<;>rfl
 have h3:f 3=.ptr 0 15 0:=by rw[hf,h30]<;>rfl
 have h7:f 7=.mp X (Xe X):=by rw[hf,h70]<;>rfl
 have hw:f 59=.list (S.enums.map XY):=by rw[hf,hw0]<;>rfl
 have hz:f 60=.int .i64 (S.enums.length:Nat):=by rw[hf,hz0]<;>rfl
 have hk:f 61=.int .i64 (i:Nat):=by rw[hf,hk0]<;>rfl
 have o1:fr 1=.cells [.list (S.msgs.map fun n=>.agg n.cells),.list (S.enums.map fun n=>.agg n.cells),.list (S.servs.map fun n=>.agg n.cells)]:=by rw[hmm 1 (by decide),Xw]<;>rfl
 have oS:fr 15=.cells [.str [],.int .i64 (-1),.vec 0 1100 g 0 (l++(S.enums.take i).flatMap (ZS)).length false]:=by rw[hmm 15 (by decide),m15]<;>rfl
 have oR:fr 1100=.vec g 3 ((l++(S.enums.take i).flatMap (ZS)).map PB.av):=by rw[hmm 1100 (by decide),mR]<;>rfl
 have nv:=hn 11 (by decide);have rv':∀s∈[9,11,13],(fr s).isRow=false:=by
  intro s hs;by_cases hsv:s=11
  ·subst hsv;rw[nv];rfl
  ·rw[hmm s (by simp only[QG2,QHG,or_false];exact hsv)];have:=rv s hs
   revert this
   cases fr0 s<;>intro h<;>first|rfl|exact h
 clear hf hmm hn h10 h30 h70 hw0 hz0 hk0 Xw m15 mR rv;simp only[V3,V4,V5,V6,hz,hk,Qa,seval];by_cases hlt:i<S.enums.length
 case neg=>
  have e:i=S.enums.length:=by omega
  subst e;simp only[QG hlt,Qa,seval];rw[QHh]at oS oR;exact hq _ _ (by exact h1) (by exact h3) (by exact h7) o1 ⟨g,oS,oR⟩ rv'
 obtain⟨x,hx⟩:∃x,S.enums[i]? = some x:=⟨S.enums[i],QFT hlt⟩;have hm:=QF4 hx;have hgx:(S.enums.map XY)[i]? = some (.agg x.cells):=by rw[QG5,hx];rfl
 rw[Zg]at hgx;have e1:=Qo i _ hlt (by simp only[maxLen];omega);have q1:=Z1 hg i;have q2:=hg x hm;have hc:=QBy hM x (hS.enums x hm);simp only[XY,Zg]at hc;simp only[QC hlt,nv,Qi,QHa,Qc,hgx,h3,hw,hk,oS,eE,seval];refine aC hc ?_;refine Q8 (xs:=(l++(S.enums.take i).flatMap (ZS)).map PB.av) (by rfl) (by exact oR) rfl (by simp) (by rfl) (Ho _) (by simp only[QGs,QG7,maxLen];omega) (by simp only[QGs,QG7];omega) ?_;simp only[hk,oS,e1,eE,seval];refine⟨S.enums.length-(i+1),by omega,_,_,i+1,rfl,rfl,by omega,(by exact h1),(by exact h3),(by exact h7),(by exact hw),(by exact hz),(by rfl),(by exact o1),⟨g+1,?_,?_⟩,?_⟩
 ·rw[X3 hx,←QGa];simp only[QGs,QG7,Qa,seval]
 ·rw[X3 hx,←QGa];simp only[QHj,Qa,seval]
 ·intro s hs;simp only[QG2,QHG,or_false]at hs;rcases hs with rfl|rfl|rfl<;>first|rfl|exact rv' _ (by decide)

include hM hS in
theorem QBN (l:List PB)(hl:l.length≤1000000000)(h8:S.servs.length≤8)(f:Fr)(fr:Nat→Ob)(h1:f 1=.ptr 0 1 0)(h3:f 3=.ptr 0 15 0)(h7:f 7=.mp X (Xe X))(hw:f 77=.list (S.servs.map KL))(hz:f 78=.int .i64 (S.servs.length:Nat))(hk:f 79=.int .i64 0)
  (o1:fr 1=.cells [.list (S.msgs.map fun n=>.agg n.cells),.list (S.enums.map fun n=>.agg n.cells),.list (S.servs.map fun n=>.agg n.cells)]) (hA:AR fr l) (rv:∀s∈[9,11,13],(fr s).isRow=false) (Q:Exit→St→Prop)
  (hq:∀(f:Fr) (fr:Nat→Ob),f 1=.ptr 0 1 0→f 3=.ptr 0 15 0→f 7=.mp X (Xe X)→fr 1=.cells [.list (S.msgs.map fun n=>.agg n.cells),.list (S.enums.map fun n=>.agg n.cells),.list (S.servs.map fun n=>.agg n.cells)]→AR fr (l++S.servs.flatMap (Z7 S))→(∀s∈[9,11,13],(fr s).isRow=false)→Q (.exit 6) ⟨f,[fr],[]⟩):QK Tryz.prog (.loop Ti) ⟨f,[fr],[]⟩ Q:=by
 let I:Nat→St→Prop:=fun n st=>∃f fr i,st=⟨f,[fr],[]⟩∧n=S.servs.length-i∧i≤S.servs.length∧f 1=.ptr 0 1 0∧f 3=.ptr 0 15 0∧f 7=.mp X (Xe X)∧f 77=.list (S.servs.map KL)∧f 78=.int .i64 (S.servs.length:Nat)∧f 79=.int .i64 (i:Nat)∧
  fr 1=.cells [.list (S.msgs.map fun n=>.agg n.cells),.list (S.enums.map fun n=>.agg n.cells),.list (S.servs.map fun n=>.agg n.cells)]∧AR fr (l++(S.servs.take i).flatMap (Z7 S))∧∀s∈[9,11,13],(fr s).isRow=false
 have hg:∀x∈S.servs,((Z7 S) x).length≤14000000:=fun x hx=>Bz hM S x (hS.servs x hx)
 refine Qd I _ ⟨f,fr,0,rfl,rfl,QFZ _,h1,h3,h7,hw,hz,hk,o1,by simpa using hA,rv⟩ ?_;clear h1 h3 h7 hw hz hk o1 hA rv;rintro _ st ⟨f0,fr0,i,rfl,rfl,hi,h10,h30,h70,hw0,hz0,hk0,Xw,⟨g,m15,mR⟩,rv⟩;refine Qz (a:=_) [13] (by intro s hs;simp only[QG2,QHG,or_false]at hs;subst hs;exact rv _ (by decide)) ?_;intro f fr hf hmm hn;have h1:f 1=.ptr 0 1 0:=by rw[hf,h10]<;>rfl
 have h3:f 3=.ptr 0 15 0:=by rw[hf,h30]<;>rfl
 have h7:f 7=.mp X (Xe X):=by rw[hf,h70]<;>rfl
 have hw:f 77=.list (S.servs.map KL):=by rw[hf,hw0]<;>rfl
 have hz:f 78=.int .i64 (S.servs.length:Nat):=by rw[hf,hz0]<;>rfl
 have hk:f 79=.int .i64 (i:Nat):=by rw[hf,hk0]<;>rfl
 have o1:fr 1=.cells [.list (S.msgs.map fun n=>.agg n.cells),.list (S.enums.map fun n=>.agg n.cells),.list (S.servs.map fun n=>.agg n.cells)]:=by rw[hmm 1 (by decide),Xw]<;>rfl
 have oS:fr 15=.cells [.str [],.int .i64 (-1),.vec 0 1100 g 0 (l++(S.servs.take i).flatMap (Z7 S)).length false]:=by rw[hmm 15 (by decide),m15]<;>rfl
 have oR:fr 1100=.vec g 3 ((l++(S.servs.take i).flatMap (Z7 S)).map PB.av):=by rw[hmm 1100 (by decide),mR]<;>rfl
 have nv:=hn 13 (by decide);have rv':∀s∈[9,11,13],(fr s).isRow=false:=by
  intro s hs;by_cases hsv:s=13
  ·subst hsv;rw[nv];rfl
  ·rw[hmm s (by simp only[QG2,QHG,or_false];exact hsv)];have:=rv s hs
   revert this
   cases fr0 s<;>intro h<;>first|rfl|exact h
 clear hf hmm hn h10 h30 h70 hw0 hz0 hk0 Xw m15 mR rv;simp only[V8,V9,Ca,Cb,hz,hk,Qa,seval];by_cases hlt:i<S.servs.length
 case neg=>
  have e:i=S.servs.length:=by omega
  subst e;simp only[QG hlt,Qa,seval];rw[QHh]at oS oR;exact hq _ _ (by exact h1) (by exact h3) (by exact h7) o1 ⟨g,oS,oR⟩ rv'
 obtain⟨x,hx⟩:∃x,S.servs[i]? = some x:=⟨S.servs[i],QFT hlt⟩;have hm:=QF4 hx;have hgx:(S.servs.map KL)[i]? = some (.agg x.cells):=by rw[QG5,hx];rfl
 rw[J5]at hgx;have e1:=Qo i _ hlt (by simp only[maxLen];omega);have q1:=Z1 hg i;have q2:=hg x hm;have hc:=QBC hM S hS x (hS.servs x hm);simp only[KL,J5,SC.av]at hc;simp only[QC hlt,nv,Qi,QHa,Qc,hgx,h1,h3,hw,hk,o1,oS,eE,seval];refine aC hc ?_;refine Q8 (xs:=(l++(S.servs.take i).flatMap (Z7 S)).map PB.av) (by rfl) (by exact oR) rfl (by simp) (by rfl) (Ho _) (by simp only[QGs,QG7,maxLen];omega) (by simp only[QGs,QG7];omega) ?_;simp only[hk,oS,e1,eE,seval];refine⟨S.servs.length-(i+1),by omega,_,_,i+1,rfl,rfl,by omega,(by exact h1),(by exact h3),(by exact h7),(by exact hw),(by exact hz),(by rfl),(by exact o1),⟨g+1,?_,?_⟩,?_⟩
 ·rw[X3 hx,←QGa];simp only[QGs,QG7,Qa,seval]
 ·rw[X3 hx,←QGa];simp only[QHj,Qa,seval]
 ·intro s hs;simp only[QG2,QHG,or_false]at hs;rcases hs with rfl|rfl|rfl<;>first|rfl|exact rv' _ (by decide)

end

theorem s71 {M:Nat}(hM:M≤1048576)(S:SC)(hS:S.ok M)(h8:S.msgs.length≤8∧S.enums.length≤8∧S.servs.length≤8):Qs Tryz.prog 71 [S.av] (.list ((K3 S (UR S)).map PB.av)):=by
 obtain⟨l1,l2,l3⟩:=h8;refine k71.fn (by simp) ?_;simp only[r71,o71,Ta,Tb,SC.av,eE,seval];refine Xn rfl rfl rfl rfl ?_;simp only[Tc,eE,seval];have hc:=s97 hM S hS;have hf:=QBr hM S hS;simp only[SC.av]at hc hf;refine aC hc ?_;rw[Ge _ 15 1100 [] (-1) (by decide)];generalize hb:(Qp Qf 1 _:Nat→Ob)=base;have c4:∀n l,Qm base 15 1100 [] n l 4=.none:=fun n l=>by rw[QR _ _ _ _ _ _ (by decide) (by decide),←hb];rfl
 have o1:base 1=.cells [.list (S.msgs.map fun n=>.agg n.cells),.list (S.enums.map fun n=>.agg n.cells),.list (S.servs.map fun n=>.agg n.cells)]:=by rw[←hb];rfl
 have r9:∀s∈[9,11,13],base s=.none:=by
  intro s hs;rw[←hb];simp only[QG2,QHG,or_false]at hs;rcases hs with rfl|rfl|rfl<;>rfl
 clear hb;simp only[c4,Td,eE,seval];rw[Hn (by decide) (by decide)];generalize hA:S.msgs.map SM.name=A;generalize hB:S.enums.map SE.name=B;generalize hC:S.servs.map SQ.name=C;have lA:A.length≤8:=by rw[←hA,QG7];exact l1
 have lB:B.length≤8:=by rw[←hB,QG7];exact l2
 have lC:C.length≤8:=by rw[←hC,QG7];exact l3
 generalize hb:(Qp base 4 _:Nat→Ob)=b2;have p1:∀n l,Qm b2 15 1100 [] n l 1=.cells [.list (S.msgs.map fun n=>.agg n.cells),.list (S.enums.map fun n=>.agg n.cells),.list (S.servs.map fun n=>.agg n.cells)]:=fun n l=>by rw[QR _ _ _ _ _ _ (by decide) (by decide),←hb];exact(by exact o1)
 have p4:∀n l,Qm b2 15 1100 [] n l 4=.cells [.list (A.map Qk),.list (B.map Qk),.list (C.map Qk)]:=fun n l=>by rw[QR _ _ _ _ _ _ (by decide) (by decide),←hb];exact(by rfl)
 have p9:∀n l,∀s∈[9,11,13],(Qm b2 15 1100 [] n l s).isRow=false:=by
  intro n l s hs;have e:s≠1100∧s≠15∧s≠4:=by simp only[QG2,QHG,or_false]at hs;omega
  rw[QR _ _ _ _ _ _ e.1 e.2.1,←hb,QN _ _ e.2.2,r9 s hs];rfl
 clear hb o1 r9 c4;refine QBK A B C (by omega) (by omega) (by omega) b2 _ ⟨(by rfl),(by rfl),(by rfl)⟩ (by rfl) (by rfl) _ (fun f hf=>?_);obtain⟨h1,h3,h4⟩:=hf;have q0:(Ji A B C 3).length≤6:=by
  have a:=Zy A;have b:=Zy B;have c:=Zy C;simp only[Ji,QGs];omega
 simp only[Tf,h3,h4,p4,eE,seval];refine aC (QBJ A B C (by simp only[maxLen];omega) (by simp only[maxLen];omega) (by simp only[maxLen];omega)) ?_
 try simp only[eE,seval]
 refine Qb (XB b2 15 1100 [] (-1) _ (by decide) rfl (by omega) (W7 A B C) 9 []) (by simp only[QGn,QGK,Qa,seval]<;>rfl) ?_;have q1:=Qu q0 [] (-1) (W7 A B C) 9;generalize hL:Ji A B C 3++pb [] (-1) (W7 A B C) 9=L at q1;simp only[VV,h1,p1,eE,seval];refine aC hf ?_;simp only[VW,h1,p1,QG7,eE,seval];refine QBL hM S hS (Wp S) L (by omega) l1 _ _ (by exact h1) (by exact h3) (by rfl) (by rfl) (by rfl) (by rfl) (p1 _ _) ⟨_,Jk _ _ _ _ _ _,Ki _ _ _ _ _ _ (by decide)⟩ (p9 _ _) _ (fun f fr h1 h3 h7 o1 hA1 r9=>?_);have q2:=Z1 (l:=S.msgs) (fun x hx=>Yf hM S (fun m=>(XU m).any fun n=>QW S n && !(Wp S).contains n) x (hS.msgs x hx)) S.msgs.length;rw[QHh]at q2;simp only[V2,h1,o1,QG7,eE,seval];refine QBM hM S hS (Wp S) _ (by rw[QGs];omega) l2 _ _ (by exact h1) (by exact h3) (by exact h7) (by rfl) (by rfl) (by rfl) o1 hA1 r9 _ (fun f fr h1 h3 h7 o1 hA1 r9=>?_);have q3:=Z1 (l:=S.enums) (fun x hx=>Yg hM x (hS.enums x hx)) S.enums.length;rw[QHh]at q3;simp only[V7,h1,o1,QG7,eE,seval];refine QBN hM S hS (Wp S) _ (by rw[QGs,QGs];omega) l3 _ _ (by exact h1) (by exact h3) (by exact h7) (by rfl) (by rfl) (by rfl) o1 hA1 r9 _ (fun f fr h1 h3 h7 o1 hA1 r9=>?_);obtain⟨g,oS,oR⟩:=hA1;have ht:∀l:List PB,List.take l.length (List.map PB.av l)=List.map PB.av l:=fun l=>QGo (by rw[QG7];exact QFQ _)
 have hfin:L++S.msgs.flatMap (ZX S (fun m=>(XU m).any fun n=>QW S n && !(Wp S).contains n))++S.enums.flatMap ZS++S.servs.flatMap (Z7 S)=K3 S (UR S):=by
  rw[←hL];unfold K3 Ji;rw[hA,hB,hC,←hA,←hB,←hC,MU];rfl
 rw[hfin]at oS oR;simp only[Cc,h3,oS,oR,QG7,QGw,ht,QGf,QFQ,QGN,QGT,AV.un,eE,seval]

theorem s48 {M:Nat}(hM:M≤1048576)(S:SC)(hS:S.ok M)(h8:S.msgs.length≤8∧S.enums.length≤8∧S.servs.length≤8):Qs Tryz.prog 48 [S.av] (.bool (ZO S)):=by
 have hc:=s71 hM S hS h8;have hv:(((K3 S (UR S)).length:Int)==0)=ZO S:=by
  have e:=I3 (S:=S);rw[QGE,QGe,←e]
  constructor
  ·intro h;exact QGO (by omega)
  ·intro h;rw[h];rfl
 refine k48.fn (by simp) ?_;simp only[SC.av,eE,seval];simp only[SC.av]at hc;refine aC hc ?_;simp only[QG7,hv,Qa,seval]

theorem u35 (L:List (List UInt8))(hl:L.length≤maxLen)(n:List UInt8):Qs Tryz.prog 35 [.list (L.map Qk),.str n] (.bool (L.contains n)):=by
 let I:Nat→St→Prop:=fun k st=>∃f i,st=⟨f,[Qf],[]⟩∧k=L.length-i∧L.contains n=(L.drop i).contains n∧f 0=.list (L.map Qk)∧f 1=.str n∧f 5=.int .i64 (i:Nat)
 refine k35.fn (by simp) ?_;simp only[Qa,seval];refine Qd I _ ⟨_,0,rfl,rfl,rfl,(by rfl),(by rfl),(by rfl)⟩ ?_;rintro _ st ⟨f,i,rfl,rfl,hx,h0,h1,h5⟩;simp only[QG7,h0,h5,Qa,seval];by_cases hlt:i<L.length
 ·obtain⟨x,hi⟩:∃x,L[i]? = some x:=⟨L[i],QFT hlt⟩;have hg:(L.map Qk)[i]? = some (.str x):=by simp[hi,Qk]
  have e1:=Qo i _ hlt hl;have hd:(L.drop i).contains n=((x==n)||(L.drop (i+1)).contains n):=by
   rw[QGx hlt,show L[i]=x from(QFS.1 hi).2,List.contains_cons];congr 1
   rw[QGE,QGe,QGe];exact eq_comm
  simp only[QC hlt,Qi,QHa,Qc,hg,h0,h1,h5,QB,eE,seval];cases hp:(x==n)
  ·rw[hp,QHs]at hd;rw[hd]at hx;simp only[h5,e1,Qa,seval];exact⟨L.length-(i+1),by omega,_,i+1,rfl,rfl,hx,(by exact h0),(by exact h1),(by rfl)⟩
  ·rw[hp,QHr]at hd;rw[hd]at hx;simp only[hx,Qa,seval]
 ·have hx':L.contains n=false:=by rw[hx,QGr (by omega)];rfl
  simp only[QG hlt,hx',Qa,seval]

def MV (S:SC)(n:List UInt8):Int:=QS (fun m:SE=>m.name==n) S.enums 0

theorem AD (S:SC)(hl:S.msgs.length≤maxLen)(s:List UInt8):Qs Tryz.prog 47 [S.av,.str s] (.int .i64 (J8 S s)):=by
 let I:Nat→St→Prop:=fun k st=>∃f fr i,st=⟨f,[fr],[]⟩∧k=S.msgs.length-i∧J8 S s=QS (fun g:SM=>g.name==s) (S.msgs.drop i) i∧f 1=.str s∧f 2=.ptr 0 2 0∧f 5=.int .i64 (i:Nat)∧fr 2=.cells [.list (S.msgs.map fun n=>.agg n.cells),.list (S.enums.map fun n=>.agg n.cells),.list (S.servs.map fun n=>.agg n.cells)]
 refine k47.fn (by simp) ?_;simp only[SC.av,eE,seval];refine Qd I _ ⟨_,_,0,rfl,rfl,rfl,(by rfl),(by rfl),(by rfl),(by rfl)⟩ ?_;rintro _ st ⟨f,fr,i,rfl,rfl,hx,h1,h2,h5,m2⟩;simp only[QG7,h2,h5,m2,eE,seval];by_cases hlt:i<S.msgs.length
 ·obtain⟨x,hi⟩:∃x,S.msgs[i]? = some x:=⟨S.msgs[i],QFT hlt⟩;have hg:(S.msgs.map fun n=>AV.agg n.cells)[i]? = some (.agg x.cells):=by rw[QG5,hi];rfl
  have e1:=Qo i _ hlt hl;rw[Xz]at hg;rw[XW _ hi]at hx;simp only[QC hlt,Qi,QHa,Qc,hg,h1,h2,h5,m2,QB,eE,seval];cases hp:(x.name==s)
  ·rw[hp]at hx;simp only[QF9,if_false]at hx;simp only[h5,e1,Qa,seval];exact⟨S.msgs.length-(i+1),by omega,_,_,i+1,rfl,rfl,hx,(by exact h1),(by exact h2),(by rfl),m2⟩
  ·rw[hp]at hx;simp only[if_true]at hx;simp only[hx,h5,Qa,seval]
 ·have hx':J8 S s = -1:=by rw[hx,QGr (by omega)];rfl
  simp only[QG hlt,hx',Qa,seval]

theorem u65 (S:SC)(hl:S.enums.length≤maxLen)(s:List UInt8):Qs Tryz.prog 65 [S.av,.str s] (.int .i64 (MV S s)):=by
 let I:Nat→St→Prop:=fun k st=>∃f fr i,st=⟨f,[fr],[]⟩∧k=S.enums.length-i∧MV S s=QS (fun g:SE=>g.name==s) (S.enums.drop i) i∧f 1=.str s∧f 2=.ptr 0 2 0∧f 5=.int .i64 (i:Nat)∧fr 2=.cells [.list (S.msgs.map fun n=>.agg n.cells),.list (S.enums.map fun n=>.agg n.cells),.list (S.servs.map fun n=>.agg n.cells)]
 refine k65.fn (by simp) ?_;simp only[SC.av,eE,seval];refine Qd I _ ⟨_,_,0,rfl,rfl,rfl,(by rfl),(by rfl),(by rfl),(by rfl)⟩ ?_;rintro _ st ⟨f,fr,i,rfl,rfl,hx,h1,h2,h5,m2⟩;simp only[QG7,h2,h5,m2,eE,seval];by_cases hlt:i<S.enums.length
 ·obtain⟨x,hi⟩:∃x,S.enums[i]? = some x:=⟨S.enums[i],QFT hlt⟩;have hg:(S.enums.map fun n=>AV.agg n.cells)[i]? = some (.agg x.cells):=by rw[QG5,hi];rfl
  have e1:=Qo i _ hlt hl;rw[Zg]at hg;rw[XW _ hi]at hx;simp only[QC hlt,Qi,QHa,Qc,hg,h1,h2,h5,m2,QB,eE,seval];cases hp:(x.name==s)
  ·rw[hp]at hx;simp only[QF9,if_false]at hx;simp only[h5,e1,Qa,seval];exact⟨S.enums.length-(i+1),by omega,_,_,i+1,rfl,rfl,hx,(by exact h1),(by exact h2),(by rfl),m2⟩
  ·rw[hp]at hx;simp only[if_true]at hx;simp only[hx,h5,Qa,seval]
 ·have hx':MV S s = -1:=by rw[hx,QGr (by omega)];rfl
  simp only[QG hlt,hx',Qa,seval]

theorem MW (S:SC)(n:List UInt8):decide (J8 S n≥0)=QW S n:=Bh _ _
theorem QoI (S:SC)(n:List UInt8):decide (MV S n≥0)=Hc S n:=Bh _ _
theorem MX (S:SC)(n:List UInt8):decide (J8 S n<0)=!QW S n:=by
 rw[←MW];exact(by rw[QGE];simp only[QG4,QGG,QHB];omega)

theorem AE (s:List UInt8):Qs Tryz.prog 38 [.str s] (.bool (Xb s)):=by
 refine k38.fn (by simp) ?_;simp only[Xb,Qa,seval];refine aC (z64 s) ?_;cases QZ s
 ·simp only[QHd,Qa,seval]
 ·simp only[QHp,Qa,seval];refine aC (z63 s) ?_;simp only[Qa,seval]

def UsI (s:List UInt8)(k:Nat)(st:St):Prop :=
 ∃f u i,st=⟨f,[Qf],[]⟩∧k=u.length∧u.length≤120∧i+u.length≤120∧(u≠[]→(Qg u).all QZ=true)∧(Qg s).any Zd=MA u∧f 0=.str u∧f 3=.int .i64 (i:Nat)

theorem u37 (s:List UInt8):Qs Tryz.prog 37 [.str s] (.bool (Xp s)):=by
 refine k37.fn (by simp) ?_;simp only[Xp,Qa,seval];refine aC (z61 s) ?_;cases hf:(decide (s.length≤120)&&(Qg s).all QZ)
 ·simp only[QHd,QGR,Qa,seval]
 simp only[QHp,QHq,Qa,seval];obtain⟨hl,ha⟩:=QFU.1 hf;have hl:=of_decide_eq_true hl;have hne:s≠[]:=by
  rintro rfl;cases ha
 refine Qd (UsI s) _ ⟨_,s,0,rfl,rfl,hl,by omega,fun _=>ha,by unfold MA;rw[QFX hne],(by rfl),(by rfl)⟩ ?_;rintro _ st ⟨f,u,i,rfl,rfl,hul,hui,hua,hx,h0,h3⟩;simp only[h3,Qa,seval];by_cases hu:u=[]
 ·subst hu;have b0:(!(([]:List UInt8)==[]))=false:=rfl;have e:(Qg s).any Zd=false:=hx;cases hd:decide ((i:Int)<120)<;>simp only[b0,e,h0,QB,QGR,Qa,seval]
 ·have b0:(!(u==[]))=true:=by simp[hu]
  have hlp:0<u.length:=QG1.2 hu;have d:decide ((i:Int)<120)=true:=QHA (by omega);have e1:IntKind.i64.wrap ((i:Int)+1)=((i+1:Nat):Int):=by simp only[ZM];omega
  simp only[d,b0,h0,QB,Qa,seval];refine aC (z62 u hul) ?_;simp only[Qa,seval];refine aC (z63 (ZB u).2) ?_;have hw:MA u=(MA (ZB u).1||Zd (ZB u).2):=by
   unfold MA;rw[QFX hu];rcases DR u with⟨h1,h2,h3⟩|⟨h1,h2⟩
   ·rw[h1,h2,QFY rfl,KG h3];simp
   ·have hp:Qg u=Qg (ZB u).1++[(ZB u).2]:=by
     conv=>lhs;rw[h1]
     exact UP h2
    have ha':=hua hu;rw[hp,QGZ,QGd]at ha';have hn:(ZB u).1≠[]:=by
     intro h;rw[h]at ha';cases ha'.1
    rw[QFX hn,hp];simp
  cases hq:Zd (ZB u).2
  ·rw[hq,QHE]at hw;have hlen:(ZB u).1.length<u.length∧((ZB u).1≠[]→(Qg (ZB u).1).all QZ=true):=by
    rcases DR u with⟨h1,h2,h3⟩|⟨h1,h2⟩
    ·rw[h1];exact⟨hlp,fun h=>absurd rfl h⟩
    ·have hp:Qg u=Qg (ZB u).1++[(ZB u).2]:=by
      conv=>lhs;rw[h1]
      exact UP h2
     refine⟨?_,fun _=>?_⟩
     ·conv=>rhs;rw[h1]
      simp
     ·have ha':=hua hu;rw[hp,QGZ,QGd]at ha';exact ha'.1
   simp only[h3,e1,Qa,seval];exact⟨(ZB u).1.length,hlen.1,_,(ZB u).1,i+1,rfl,rfl,by omega,by omega,hlen.2,by rw[hx,hw],(by rfl),(by rfl)⟩
  ·rw[hq,Bool.or_true]at hw;rw[hw]at hx;simp only[hx,QHq,Qa,seval]

section
variable (k:Int)(b:Nat)(t:List UInt8)(l p s r:List AV)
theorem u68:Qs Tryz.prog 68 [vo k b t l p s r] (vo k (Ze k b) t l p s r):=by
 refine k68.fn (by simp) ?_;simp only[vo,eE,seval];by_cases hk:k=6
 ·have b0:(k==6)=true:=by simp[hk]
  simp only[b0,eE,seval];refine aC (x92 b) ?_;simp only[Qof,Qa,seval];by_cases hc:UQ b=0
  ·simp only[hc,Ze,hk,decide_true,QGN,eE,seval]
   try rfl
  ·simp only[hc,Ze,decide_false,and_false,eE,seval]
 ·have b0:(k==6)=false:=by simp[hk]
  simp only[b0,Ze,hk,false_and,eE,seval]

theorem YR (a b:Nat)(h:a+b≤9223372036854775807):IntKind.i64.wrap ((a:Int)+(b:Int))=((a+b:Nat):Int):=by
 simp only[ZM];omega
theorem QBO (a b c d a2 b2 c2 d2:Nat)(h:a+b+c+d+(a2+b2+c2+d2)≤9223372036854775807):IntKind.i64.wrap (IntKind.i64.wrap (IntKind.i64.wrap (IntKind.i64.wrap (IntKind.i64.wrap (IntKind.i64.wrap (IntKind.i64.wrap ((a:Int)+(b:Int))+(c:Int))+(d:Int))+(a2:Int))+(b2:Int))+(c2:Int))+(d2:Int))=((a+b+c+d+(a2+b2+c2+d2):Nat):Int):=by
 rw[YR a b (by omega),YR (a+b) c (by omega),YR (a+b+c) d (by omega),YR (a+b+c+d) a2 (by omega),YR (a+b+c+d+a2) b2 (by omega),YR (a+b+c+d+a2+b2) c2 (by omega),YR (a+b+c+d+a2+b2+c2) d2 (by omega)];congr 1
 omega

theorem u66 (k2:Int)(b2:Nat)(t2:List UInt8)(l2 p2 s2 r2:List AV)(h:l.length+p.length+s.length+r.length+(l2.length+p2.length+s2.length+r2.length)≤9223372036854775807) :
  Qs Tryz.prog 66 [vo k b t l p s r,vo k2 b2 t2 l2 p2 s2 r2] (.bool (k==k2&&(b:Int)==(b2:Int)&&t==t2&&((l.length+p.length+s.length+r.length+(l2.length+p2.length+s2.length+r2.length):Nat):Int)==0)):=by
 have w:=QBO _ _ _ _ _ _ _ _ h;refine k66.fn (by simp) ?_;simp only[vo,eE,seval];cases h1:(k==k2)
 ·simp only[QHd,Qa,seval]
 cases h2:((b:Int)==(b2:Int))
 ·simp only[h2,QHd,QHp,eE,seval]
 cases h3:(t==t2)
 ·simp only[h2,h3,QB,QHd,QHp,eE,seval]
 simp only[h2,h3,QB,w,QHp,eE,seval]
end

theorem u40 (x:SF):Qs Tryz.prog 40 [Xt x] (.bool (WC x)):=by
 refine k40.fn (by simp) ?_;simp only[Xt,QJ,eE,seval];unfold WC DV;by_cases h5:x.card=5
 ·have d:(x.card != 5)=false:=by simp[h5]
  have q:(decide (x.card≥1)&&decide (x.card≤5))=true:=by rw[h5];rfl
  rw[q,QFY h5];rw[QHp];by_cases hk:x.key=1∨x.key=2∨x.key=3∨x.key=4∨x.key=5∨x.key=7
  ·have e:(decide (x.key≥1)&&decide (x.key≤7)&&x.key != 6)=true:=by simp only[QGd,QG4,QGj,ne_eq];omega
   rw[e];rcases hk with h|h|h|h|h|h<;>simp only[d,h,seval,eE]
  ·have e:(decide (x.key≥1)&&decide (x.key≤7)&&x.key != 6)=false:=by simp only[QHF,QHB,bne_eq_false_iff_eq];omega
   have k1:(x.key==1)=false:=by rw[QHC];omega
   have k2:(x.key==2)=false:=by rw[QHC];omega
   have k3:(x.key==3)=false:=by rw[QHC];omega
   have k4:(x.key==4)=false:=by rw[QHC];omega
   have k5:(x.key==5)=false:=by rw[QHC];omega
   have k7:(x.key==7)=false:=by rw[QHC];omega
   rw[e];simp only[d,k1,k2,k3,k4,k5,k7,eE,seval]
 ·have d:(x.card != 5)=true:=by simp[h5]
  rw[QFX h5];simp only[d,eE,seval];have q:decide (x.card≤5)=decide (x.card≤4):=(by rw[QGE];simp only[QG4];omega);rw[q];cases h1:decide (x.card≥1)
  ·simp only[QHd,Qa,seval]
  cases h2:decide (x.card≤4)
  ·simp only[h2,QHp,QHd,eE,seval]
  simp only[h2,QHp,eE,seval]

section
variable {M:Nat}(S:SC)(hS:S.ok M)(hM:M≤1048576)(x:SF)(hx:x.ok M)
include hS hM in
theorem u41:Qs Tryz.prog 41 [S.av,Xt x] (.bool (Ja S x)):=by
 obtain⟨l1,l2,_⟩:=Zw S hS hM;have hm:=AD S l1 x.tname;have he:=u65 S l2 x.tname;simp only[SC.av]at hm he;refine k41.fn (by simp) ?_;unfold Ja;simp only[SC.av,Xt,QJ,eE,seval];by_cases h3:x.kind=9
 ·have d3:(x.kind==9)=true:=by simp[h3]
  rw[QFX (by omega),QFY h3];simp only[d3,eE,seval];refine aC he ?_;simp only[QoI,Qa,seval]
 have d3:(x.kind==9)=false:=by simp[h3]
 by_cases h4:x.kind=10
 ·have d4:(x.kind==10)=true:=by simp[h4]
  rw[QFX (by omega),QFX h3,QFY h4];simp only[d3,d4,eE,seval];refine aC hm ?_;cases hh:QW S x.tname<;>simp only[MW,hh,QHp,QHd,eE,seval]
 have d4:(x.kind==10)=false:=by simp[h4]
 by_cases h1:x.kind≥1
 ·have d1:decide (x.kind≥1)=true:=QHA h1;by_cases h2:x.kind≤8
  ·have d2:decide (x.kind≤8)=true:=QHA h2;rw[QFY ⟨h1,h2⟩];simp only[d1,d2,d3,d4,QB,eE,seval]
  ·have d2:decide (x.kind≤8)=false:=QHt h2;rw[QFX fun h=>h2 h.2,QFX h3,QFX h4];simp only[d1,d2,d3,d4,eE,seval]
 ·have d1:decide (x.kind≥1)=false:=QHt h1;rw[QFX fun h=>h1 h.1,QFX h3,QFX h4];simp only[d1,d3,d4,eE,seval]
end

theorem Jx {α:Type}{l:List α}{q:α→Bool}{i:Nat}{x:α}(h:l[i]? = some x):(l.take (i+1)).any q=((l.take i).any q||q x):=by
 rw[QHk,h,QHl,List.any_append];simp

section
variable {M:Nat}(S:SC)(hS:S.ok M)(hM:M≤1048576)(x:SF)(hx:x.ok M)
include hS hM hx in
theorem u43:Qs Tryz.prog 43 [S.av,Xt x] (.bool (KI S x)):=by
 obtain⟨l1,l2,_⟩:=Zw S hS hM;have he:=u65 S l2 x.tname;have hv:=hx.dflt;have n1:=hv.nl;have n2:=hv.np;have n3:=hv.ns;have n4:=hv.nr;have n5:=hv.text;have hz:=u66 x.dflt.kd x.dflt.bits x.dflt.text (x.dflt.list.map V.av) (x.dflt.pairs.map V.pav) (x.dflt.slots.map V.sav) (x.dflt.raws.map R.av) 0 0 [] [] [] [] [] (by simp;omega);have hq:=u66 x.dflt.kd x.dflt.bits x.dflt.text (x.dflt.list.map V.av) (x.dflt.pairs.map V.pav) (x.dflt.slots.map V.sav) (x.dflt.raws.map R.av) x.dflt.kd (Ze x.dflt.kd x.dflt.bits) x.dflt.text (x.dflt.list.map V.av) (x.dflt.pairs.map V.pav) (x.dflt.slots.map V.sav) (x.dflt.raws.map R.av) (by simp;omega);have hf:=v67 x.kind x.dflt.kd x.dflt.bits x.dflt.text (x.dflt.list.map V.av) (x.dflt.pairs.map V.pav) (x.dflt.slots.map V.sav) (x.dflt.raws.map R.av) (by simp only[maxLen];omega);have hn:=u68 x.dflt.kd x.dflt.bits x.dflt.text (x.dflt.list.map V.av) (x.dflt.pairs.map V.pav) (x.dflt.slots.map V.sav) (x.dflt.raws.map R.av);have ef:x.dflt.fitk x.kind=ZN x.kind x.dflt.kd x.dflt.bits x.dflt.text (x.dflt.list.map V.av) (x.dflt.pairs.map V.pav) (x.dflt.slots.map V.sav) (x.dflt.raws.map R.av):=rfl;have ez:(x.dflt.kd==0&&((x.dflt.bits:Nat):Int)==((0:Nat):Int)&&x.dflt.text==[]&&(((x.dflt.list.map V.av).length+(x.dflt.pairs.map V.pav).length+(x.dflt.slots.map V.sav).length+(x.dflt.raws.map R.av).length+(([]:List AV).length+([]:List AV).length+([]:List AV).length+([]:List AV).length):Nat):Int)==0)=x.dflt.zro:=by
  unfold V.zro;rw[show(((x.dflt.bits:Nat):Int)==((0:Nat):Int))=(x.dflt.bits==0)from Kz _,Kz];simp only[QG7,QGV,QGm]
 rw[ez]at hz;simp only[vo]at hf hn hz hq;simp only[SC.av]at he;refine k43.fn (by simp) ?_;unfold KI;rw[ef];simp only[SC.av,Xt,QJ,eE,seval];cases hd:x.hasd
 ·rw[QFY rfl];simp only[eE,seval];refine aC hz ?_;simp only[Qa,seval]
 rw[QFX (by simp)];by_cases hc:x.card=2
 case neg=>
  have d1:(x.card != 2)=true:=by simp[hc]
  rw[QFX fun h=>hc h.1];simp only[d1,eE,seval]
 have d1:(x.card != 2)=false:=by simp[hc]
 by_cases hu:x.union=[]
 case neg=>
  have d2:(!(x.union==[]))=true:=by simp[hu]
  rw[QFX fun h=>hu h.2.1];simp only[d1,d2,QB,eE,seval]
 have d2:(!(x.union==[]))=false:=by simp[hu]
 simp only[d1,d2,QB,eE,seval];refine aC hf ?_;cases hfv:ZN x.kind x.dflt.kd x.dflt.bits x.dflt.text (x.dflt.list.map V.av) (x.dflt.pairs.map V.pav) (x.dflt.slots.map V.sav) (x.dflt.raws.map R.av)
 ·rw[QFX fun h=>Bool.false_ne_true h.2.2.1];simp only[Qa,seval]
 simp only[eE,seval];refine aC hn ?_;simp only[Qa,seval];have eq2:(x.dflt.kd==x.dflt.kd&&((x.dflt.bits:Nat):Int)==((Ze x.dflt.kd x.dflt.bits:Nat):Int)&&x.dflt.text==x.dflt.text&&(((x.dflt.list.map V.av).length+(x.dflt.pairs.map V.pav).length+(x.dflt.slots.map V.sav).length+(x.dflt.raws.map R.av).length+((x.dflt.list.map V.av).length+(x.dflt.pairs.map V.pav).length+(x.dflt.slots.map V.sav).length+(x.dflt.raws.map R.av).length):Nat):Int)==0)=decide (Ze x.dflt.kd x.dflt.bits=x.dflt.bits):=by
  have hlon:WA (x.dflt.list.map V.av) (x.dflt.pairs.map V.pav) (x.dflt.slots.map V.sav) (x.dflt.raws.map R.av)=true:=by
   unfold ZN at hfv;simp only[QGd]at hfv;exact hfv.1.1.1.1.2
  unfold WA at hlon;simp only[QGd,QGe]at hlon;obtain⟨⟨⟨q1,q2⟩,q3⟩,q4⟩:=hlon;rw[QGE];simp only[QGd,QGe,QG4,true_and,and_true];omega
 rw[eq2]at hq;refine aC hq ?_;by_cases hnb:Ze x.dflt.kd x.dflt.bits=x.dflt.bits
 case neg=>
  rw[QFX fun h=>hnb h.2.2];simp only[hnb,decide_false,QGR,Qa,seval]
 rw[QFY ⟨hc,hu,hnb⟩];simp only[hnb,decide_true,QHq,eE,seval];refine aC he ?_;by_cases h9:x.kind=9
 case neg=>
  have d9:(x.kind != 9)=true:=by simp[h9]
  rw[QFX h9];simp only[d9,eE,seval]
 have d9:(x.kind != 9)=false:=by simp[h9]
 rw[QFY h9];have e2:MV S x.tname=QS (fun m:SE=>m.name==x.tname) S.enums 0:=rfl;rcases Xo (fun m:SE=>m.name==x.tname) S.enums 0 with⟨g1,g2⟩|⟨k,e,g1,g2,g3⟩
 ·rw[g1]at e2;simp only[e2,g2,d9,eE,seval]
 rw[g1,QGf]at e2;have hem:=hS.enums e (QF4 g2);have hlm:=hem.len1;have hke:(S.enums.map fun n=>AV.agg n.cells)[k]? = some (.agg e.cells):=by rw[QG5,g2];rfl
 rw[Zg]at hke;have dk:decide ((k:Int)<0)=false:=QHt (by omega);simp only[e2,g3,d9,dk,eE,seval]
 let I:Nat→St→Prop:=fun n st=>∃f fr i,st=⟨f,[fr],[]⟩∧n=e.items.length-i∧i≤e.items.length∧(e.items.take i).any (fun it=>IntKind.u64.wrap it.num==(x.dflt.bits:Int))=false∧f 2=.ptr 0 2 0∧f 5=.ptr 0 5 0∧f 6=.int .i64 (k:Nat)∧f 7=.int .i64 (i:Nat)∧
  fr 2=.cells [.list (S.msgs.map fun n=>.agg n.cells),.list (S.enums.map fun n=>.agg n.cells),.list (S.servs.map fun n=>.agg n.cells)]∧fr 5=.cells [.int .i64 x.dflt.kd,.int .u64 (x.dflt.bits:Nat),.str x.dflt.text,.list (x.dflt.list.map V.av),.list (x.dflt.pairs.map V.pav),.list (x.dflt.slots.map V.sav),.list (x.dflt.raws.map R.av)]
 refine Qd I _ ⟨_,_,0,rfl,rfl,QFZ _,rfl,(by rfl),(by rfl),(by rfl),(by rfl),(by rfl),(by rfl)⟩ ?_;rintro _ st ⟨f,fr,i,rfl,rfl,hi,hal,h2,h5,h6,h7,o2,o5⟩;simp only[Qi,QHa,Qc,hke,QG7,h2,h6,h7,o2,eE,seval];by_cases hlt:i<e.items.length
 ·obtain⟨y,hy⟩:∃y,e.items[i]? = some y:=⟨e.items[i],QFT hlt⟩;have hg:(e.items.map fun n=>AV.agg n.cells)[i]? = some (.agg y.cells):=by rw[QG5,hy];rfl
  rw[Z0]at hg;have e1:=Qo i _ hlt (by simp only[maxLen];omega);have ht:=Jx (q:=fun it:SI=>IntKind.u64.wrap it.num==(x.dflt.bits:Int)) hy;rw[hal,QHs]at ht;simp only[QC hlt,Qi,QHa,Qc,hke,hg,h2,h5,h6,h7,o2,o5,eE,seval];cases hp:(IntKind.u64.wrap y.num==(x.dflt.bits:Int))
  ·rw[hp]at ht;simp only[h7,e1,Qa,seval];exact⟨e.items.length-(i+1),by omega,_,_,i+1,rfl,rfl,by omega,ht,(by exact h2),(by exact h5),(by exact h6),(by rfl),o2,o5⟩
  ·have hr:e.items.any (fun it=>IntKind.u64.wrap it.num==(x.dflt.bits:Int))=true:=QHi.2 ⟨y,QF4 hy,hp⟩;simp only[hr,Qa,seval]
 ·have hr:e.items.any (fun it=>IntKind.u64.wrap it.num==(x.dflt.bits:Int))=false:=by rw[←hal,QGo (by omega)]
  simp only[QG hlt,hr,Qa,seval]
end

def upv (m:SM)(u:List UInt8):Nat→Bool
 |0=>true
 |j+1=>match m.fields[j]? with
  |none=>true
  |some y=>y.union==u
theorem I8 {m:SM}{i:Nat}{x:SF}(hi:m.fields[i]? = some x):ZW m i=(x.union==[]||(x.card==2&&Xb x.union && !(m.fields.any fun y=>y.name==x.union)&&(!((m.fields.take i).any fun y=>y.union==x.union)||upv m x.union i))):=by
 unfold ZW;rw[hi];cases i<;>rfl

section
variable {M:Nat}(hM:M≤1048576)(m:SM)(hm:m.ok M)(i:Nat)(x:SF)(hi:m.fields[i]? = some x)
include hM hm hi in
theorem u42:Qs Tryz.prog 42 [QY m,.int .i64 (i:Nat)] (.bool (ZW m i)):=by
 have hil:=(QFS.1 hi).1;have hl1:=hm.len1;have hg:(m.fields.map fun n=>AV.agg n.cells)[i]? = some (.agg x.cells):=by rw[QG5,hi];rfl
 rw[QJ]at hg;have hun:=I8 hi;refine k42.fn (by simp) ?_;simp only[QY,Xz,Qi,QHa,Qc,hg,eE,seval];by_cases hu:x.union=[]
 ·have d:(x.union==[])=true:=by simp[hu]
  rw[d,QHr]at hun;simp only[d,hun,QB,Qa,seval]
 have d:(x.union==[])=false:=by simp[hu]
 rw[d,QHs]at hun;by_cases hc:x.card=2
 case neg=>
  have d1:(x.card != 2)=true:=by simp[hc]
  have d1':(x.card==2)=false:=by simp[hc]
  rw[d1']at hun;simp only[QHd]at hun;simp only[d,d1,hun,QB,eE,seval]
 have d1:(x.card != 2)=false:=by simp[hc]
 have d1':(x.card==2)=true:=by simp[hc]
 rw[d1',QHp]at hun;simp only[d,d1,QB,eE,seval];refine aC (AE x.union) ?_;cases hus:Xb x.union
 ·rw[hus]at hun;simp only[QHd]at hun;simp only[hun,QGR,Qa,seval]
 rw[hus,QHp]at hun;simp only[QHq,Qa,seval]
 let I:Nat→St→Prop:=fun n st=>∃f fr j,st=⟨f,[fr],[]⟩∧n=m.fields.length-j∧j≤m.fields.length∧(m.fields.take j).any (fun y=>y.name==x.union)=false∧f 1=.int .i64 (i:Nat)∧f 2=.ptr 0 2 0∧f 5=.ptr 0 5 0∧f 6=.bool ((m.fields.take (min j i)).any fun y=>y.union==x.union)∧f 7=.int .i64 (j:Nat)∧
  fr 2=.cells [.str m.name,.list (m.fields.map fun n=>.agg n.cells),.list (m.free.map fun n=>.agg n.cells),.list (m.gone.map AV.str),.list (m.notes.map fun n=>.agg n.cells)]∧fr 5=.cells x.cells
 refine Qd I _ ⟨_,_,0,rfl,rfl,QFZ _,rfl,(by rfl),(by rfl),(by rfl),by rw[Nat.zero_min];exact(by rfl),(by rfl),(by rfl),by rw[QJ];exact(by rfl)⟩ ?_;rintro _ st ⟨f,fr,j,rfl,rfl,hj,hal,h1,h2,h5,h6,h7,o2,o5⟩;rw[QJ]at o5;simp only[QG7,h2,h7,o2,eE,seval];by_cases hlt:j<m.fields.length
 ·obtain⟨y,hy⟩:∃y,m.fields[j]? = some y:=⟨m.fields[j],QFT hlt⟩;have hgy:(m.fields.map fun n=>AV.agg n.cells)[j]? = some (.agg y.cells):=by rw[QG5,hy];rfl
  rw[QJ]at hgy;have e1:=Qo j _ hlt (by simp only[maxLen];omega);have ht:=Jx (q:=fun y:SF=>y.name==x.union) hy;rw[hal,QHs]at ht;simp only[QC hlt,Qi,QHa,Qc,hgy,h2,h5,h7,o2,o5,QB,eE,seval];cases hp:(y.name==x.union)
  case true=>
   have hr:m.fields.any (fun y=>y.name==x.union)=true:=QHi.2 ⟨y,QF4 hy,hp⟩;rw[hr]at hun;simp only[QHq,QHd]at hun;simp only[hun,Qa,seval]
  rw[hp]at ht;simp only[h1,h7,Qa,seval];by_cases hji:j<i
  case neg=>
   have dji:decide ((j:Int)<(i:Nat))=false:=QHt (by omega);have hmn:min (j+1) i=min j i:=by omega
   simp only[dji,h7,e1,Qa,seval];exact⟨m.fields.length-(j+1),by omega,_,_,j+1,rfl,rfl,by omega,ht,(by exact h1),(by exact h2),(by exact h5),by rw[hmn];exact(by exact h6),(by rfl),o2,by rw[QJ];exact o5⟩
  have dji:decide ((j:Int)<(i:Nat))=true:=QHA (by omega);have hm1:min (j+1) i=j+1:=by omega
  have hm0:min j i=j:=by omega
  have ht2:=Jx (q:=fun y:SF=>y.union==x.union) hy;rw[hm0]at h6;simp only[dji,Qi,QHa,Qc,hgy,h2,h5,h7,o2,o5,QB,eE,seval];cases hpu:(y.union==x.union)
  ·rw[hpu,QHE]at ht2;simp only[h7,e1,Qa,seval];exact⟨m.fields.length-(j+1),by omega,_,_,j+1,rfl,rfl,by omega,ht,(by exact h1),(by exact h2),(by exact h5),by rw[hm1,ht2];exact(by exact h6),(by rfl),o2,by rw[QJ];exact o5⟩
  ·rw[hpu,Bool.or_true]at ht2;simp only[h7,e1,Qa,seval];exact⟨m.fields.length-(j+1),by omega,_,_,j+1,rfl,rfl,by omega,ht,(by exact h1),(by exact h2),(by exact h5),by rw[hm1,ht2];exact(by rfl),(by rfl),o2,by rw[QJ];exact o5⟩
 have hjl:j=m.fields.length:=by omega
 have hmi:min j i=i:=by omega
 rw[hmi]at h6;rw[QGo (by omega)]at hal;rw[hal]at hun;simp only[QGR,QHp]at hun;simp only[QG hlt,h6,Qa,seval];cases hea:(m.fields.take i).any fun y=>y.union==x.union
 ·rw[hea]at hun;simp only[QGR,QHr]at hun;simp only[hun,QGR,Qa,seval]
 rw[hea]at hun;simp only[QHq,QHs]at hun;cases i with
 |zero=>cases hea
 |succ k=>
  obtain⟨y,hy⟩:∃y,m.fields[k]? = some y:=⟨m.fields[k]'(by omega),QFT (by omega)⟩;have hgy:(m.fields.map fun n=>AV.agg n.cells)[k]? = some (.agg y.cells):=by rw[QG5,hy];rfl
  rw[QJ]at hgy;have e2:=JU k _ hil (by simp only[maxLen];omega);rw[upv,hy]at hun;simp only[QHq,e2,Qi,QHa,Qc,hgy,h1,h2,h5,o2,o5,QB,hun,eE,seval]
end

section
variable {M:Nat}(hM:M≤1048576)(S:SC)(hS:S.ok M)(F:List Bool)(hF:F.length=S.msgs.length)
include hM hS hF in
theorem u36 (m:SM)(hm:m.ok M):Qs Tryz.prog 36 [S.av,QY m,.list (F.map AV.bool)] (.bool (Xa S F m)):=by
 obtain⟨l1,l2,_⟩:=Zw S hS hM;have hl1:=hm.len1;generalize hp:(fun n=>decide (J8 S n≥0) && !(F[(J8 S n).toNat]?.getD false))=p;have hs:Xa S F m=(XK m m.fields.length).any p:=by
  unfold Xa XK XU;rw[QHh,hp]
 let I:Nat→St→Prop:=fun n st=>∃f fr j,st=⟨f,[fr],[]⟩∧n=m.fields.length-j∧j≤m.fields.length∧(XK m j).any p=false∧f 2=.list (F.map AV.bool)∧f 3=.ptr 0 3 0∧f 4=.ptr 0 4 0∧f 7=.int .i64 (j:Nat)∧
  fr 3=.cells [.list (S.msgs.map fun n=>.agg n.cells),.list (S.enums.map fun n=>.agg n.cells),.list (S.servs.map fun n=>.agg n.cells)]∧fr 4=.cells m.cells∧∀s∈[8],(fr s).isRow=false
 refine k36.fn (by simp) ?_;simp only[SC.av,QY,Xz,eE,seval];refine Qd I _ ⟨_,_,0,rfl,rfl,QFZ _,rfl,(by rfl),(by rfl),(by rfl),(by rfl),(by rfl),by rw[Xz];exact(by rfl),by intro s hs;simp only[QG2,QHG,or_false]at hs;subst hs;rfl⟩ ?_;rintro _ st ⟨f0,fr0,j,rfl,rfl,hj,hal,h20,h30,h40,h70,X8,ZH,r8⟩;refine Qz (a:=_) [8] r8 ?_;intro f fr hf hmm hn;have h2:f 2=.list (F.map AV.bool):=by rw[hf,h20]<;>rfl
 have h3:f 3=.ptr 0 3 0:=by rw[hf,h30]<;>rfl
 have h4:f 4=.ptr 0 4 0:=by rw[hf,h40]<;>rfl
 have h7:f 7=.int .i64 (j:Nat):=by rw[hf,h70]<;>rfl
 have o3:fr 3=.cells [.list (S.msgs.map fun n=>.agg n.cells),.list (S.enums.map fun n=>.agg n.cells),.list (S.servs.map fun n=>.agg n.cells)]:=by rw[hmm 3 (by decide),X8]<;>rfl
 have o4:fr 4=.cells m.cells:=by rw[hmm 4 (by decide),ZH]<;>rfl
 have n8:=hn 8 (by decide);clear hf hmm hn h20 h30 h40 h70 X8 ZH r8;have o4':=o4;rw[Xz]at o4;simp only[QG7,h4,h7,o4,eE,seval];by_cases hlt:j<m.fields.length
 case neg=>
  have ej:j=m.fields.length:=by omega
  subst ej;rw[hal]at hs;simp only[QG hlt,hs,Qa,seval]
 obtain⟨x,hx⟩:∃x,m.fields[j]? = some x:=⟨m.fields[j],QFT hlt⟩;have hg:(m.fields.map fun n=>AV.agg n.cells)[j]? = some (.agg x.cells):=by rw[QG5,hx];rfl
 rw[QJ]at hg;have e1:=Qo j _ hlt (by simp only[maxLen];omega);have hnd:=HN hx;simp only[QC hlt,n8,Qi,QHa,Qc,hg,h4,h7,o4,eE,seval];have key:∀f:Fr,∀fr:Nat→Ob,(XK m (j+1)).any p=false→f 2=.list (F.map AV.bool)→f 3=.ptr 0 3 0→f 4=.ptr 0 4 0→f 7=.int .i64 ((j+1:Nat):Int)→fr 3=.cells [.list (S.msgs.map fun n=>.agg n.cells),.list (S.enums.map fun n=>.agg n.cells),.list (S.servs.map fun n=>.agg n.cells)]→fr 4=.cells m.cells→(fr 8).isRow=false→∃k,k<m.fields.length-j∧I k ⟨f,[fr],[]⟩ :=
  fun f fr a b c d e g h i=>⟨m.fields.length-(j+1),by omega,f,fr,j+1,rfl,rfl,by omega,a,b,c,d,e,g,h,fun s hs=>by simp only[QG2,QHG,or_false]at hs;subst hs;exact i⟩
 by_cases hc:x.card=1
 case neg=>
  have d1:(x.card != 1)=true:=by simp[hc]
  rw[QFX (by simp[hc])]at hnd;simp only[d1,h7,e1,Qa,seval];exact key _ _ (by rw[hnd];exact hal) (by exact h2) (by exact h3) (by exact h4) (by rfl) (by exact o3) (by exact o4') rfl
 have d1:(x.card != 1)=false:=by simp[hc]
 by_cases hk:x.kind=10
 case neg=>
  have d2:(x.kind != 10)=true:=by simp[hk]
  rw[QFX (by simp[hk])]at hnd;simp only[d1,d2,h7,e1,eE,seval];exact key _ _ (by rw[hnd];exact hal) (by exact h2) (by exact h3) (by exact h4) (by rfl) (by exact o3) (by exact o4') rfl
 have d2:(x.kind != 10)=false:=by simp[hk]
 rw[QFY (by simp[hc,hk])]at hnd;have hh:=AD S l1 x.tname;simp only[SC.av]at hh;simp only[d1,d2,h3,o3,eE,seval];refine aC hh ?_;have hpn:(XK m (j+1)).any p=p x.tname:=by
  rw[hnd,List.any_append,hal,QHs];simp
 rcases Xo (fun m:SM=>m.name==x.tname) S.msgs 0 with⟨g1,g2⟩|⟨k,y,g1,g2,g3⟩
 ·have e2:J8 S x.tname = -1:=g1;have e3:p x.tname=false:=by rw[←hp];simp[e2]
  simp only[e2,h7,e1,Qa,seval];exact key _ _ (by rw[hpn,e3]) (by exact h2) (by exact h3) (by exact h4) (by rfl) (by exact o3) (by exact o4') rfl
 ·rw[QGf]at g1;have e2:J8 S x.tname=(k:Int):=g1;have hkl:k<F.length:=by rw[hF];exact(QFS.1 g2).1
  have hFk:F[k]? = some F[k]:=QFT hkl;have hFm:(F.map AV.bool)[k]? = some (.bool F[k]):=by rw[QG5,hFk];rfl
  have dk:decide ((k:Int)≥0)=true:=QHA (by omega);have e3:p x.tname=!F[k]:=by
   rw[←hp];simp[e2,hFk]
  simp only[e2,Qi,QHa,Qc,hFm,h2,eE,seval];cases hb:F[k]
  ·rw[hb]at e3;have hr:Xa S F m=true:=by
    rw[hs];have hin:x.tname∈XK m m.fields.length:=by
     unfold XK;rw[QHh];exact QG3.2 ⟨x,List.mem_filter.2 ⟨QF4 hx,by simp[hc,hk]⟩,rfl⟩
    exact QHi.2 ⟨_,hin,e3⟩
   simp only[hr,QGR,Qa,seval]
  ·rw[hb]at e3;simp only[h7,e1,QHq,Qa,seval];exact key _ _ (by rw[hpn,e3];rfl) (by exact h2) (by exact h3) (by exact h4) (by rfl) (by exact o3) (by exact o4') rfl
end

structure FnS (S:SC)(B:List Bool)(a:Bool)(r:Nat)(f:Fr)(fr:Nat→Ob):Prop where
 h1:f 1=.ptr 0 1 0
 o1:fr 1=.cells [.list (S.msgs.map fun n=>.agg n.cells),.list (S.enums.map fun n=>.agg n.cells),.list (S.servs.map fun n=>.agg n.cells)]
 h3:f 3=.vec 0 10 1 0 S.msgs.length false
 m10:fr 10=.vec 1 1 (B.map AV.bool)
 h4:f 4=.bool a
 h5:f 5=.int .i64 (r:Nat)

section
variable {M:Nat}(hM:M≤1048576)(S:SC)(hS:S.ok M)
include hM hS
theorem QwT (r:Nat)(F:List Bool)(hF:F.length=S.msgs.length)(f:Fr)(fr:Nat→Ob)(H:FnS S F false r f fr)(h6:f 6=.int .i64 0)(Q:Exit→St→Prop)
  (hq:∀f fr,FnS S (Q0 S F S.msgs.length) (decide (Q0 S F S.msgs.length≠F)) r f fr→Q (.exit 2) ⟨f,[fr],[]⟩):QK Tryz.prog (.loop TJ) ⟨f,[fr],[]⟩ Q:=by
 let I:Nat→St→Prop:=fun n st=>∃f fr i,st=⟨f,[fr],[]⟩∧n=S.msgs.length-i∧i≤S.msgs.length∧FnS S (Q0 S F i) (decide (Q0 S F i≠F)) r f fr∧f 6=.int .i64 (i:Nat)
 have hl1:=hS.len1;refine Qd I _ ⟨f,fr,0,rfl,rfl,QFZ _,by rw[Q0,QHt (by simp)];exact H,h6⟩ ?_;clear H h6;rintro _ st ⟨f,fr,i,rfl,rfl,hi,⟨h1,o1,h3,m10,h4,h5⟩,h6⟩;simp only[QG7,h1,h6,o1,eE,seval];by_cases hlt:i<S.msgs.length
 case neg=>
  have e:i=S.msgs.length:=by omega
  subst e;simp only[QG hlt,Qa,seval];exact hq _ _ ⟨(by exact h1),o1,(by exact h3),m10,(by exact h4),(by exact h5)⟩
 obtain⟨x,hx⟩:∃x,S.msgs[i]? = some x:=⟨S.msgs[i],QFT hlt⟩;have hg:(S.msgs.map fun n=>AV.agg n.cells)[i]? = some (.agg x.cells):=by rw[QG5,hx];rfl
 rw[Xz]at hg;have e1:=Qo i _ hlt (by simp only[maxLen];omega);have hsl:(Q0 S F i).length=S.msgs.length:=by rw[JV,hF]
 have hss:Q0 S F (i+1)=JP S (Q0 S F i) i:=rfl;have htr:=Kk S F i;have htr2:=Kk S F (i+1);generalize Q0 S F i=B at *;obtain⟨b,hb⟩:∃b,B[i]? = some b:=⟨B[i]'(by omega),QFT (by omega)⟩;have hbm:(B.map AV.bool)[i]? = some (.bool b):=by rw[QG5,hb];rfl
 have ia:∀fr':Nat→Ob,fr' 10=.vec 1 1 (B.map AV.bool)→Qc [fr'] 1 none (.vec 0 10 1 0 S.msgs.length false) (i:Int)=some (.vptr 0 10 1 i 0):=by
  intro fr' h;have e:Am.Qe [fr'] 0 10=.vec 1 1 (B.map AV.bool):=h;simp only[Qc,e,Qi,if_true,QHa];simp;omega
 have il:∀fr':Nat→Ob,fr' 10=.vec 1 1 (B.map AV.bool)→Xc [fr'] none (.vptr 0 10 1 i 0)=some (.bool b):=by
  intro fr' h;have e:Am.Qe [fr'] 0 10=.vec 1 1 (B.map AV.bool):=h;simp[Xc,e,hb,AV.cells]<;>rfl
 cases b
 case true=>
  have hst:JP S B i=B:=by
   unfold JP;rw[hx];dsimp only;rw[QFX (by rw[hb];simp)]
  rw[hst]at hss;simp only[QC hlt,ia _ m10,il _ m10,h3,h6,e1,Qa,seval];exact⟨S.msgs.length-(i+1),by omega,_,_,i+1,rfl,rfl,by omega,by rw[hss];exact⟨(by exact h1),o1,(by exact h3),m10,(by exact h4),(by exact h5)⟩,(by rfl)⟩
 have hc:=u36 hM S hS B hsl x (hS.msgs x (QF4 hx));simp only[QY,Xz,SC.av]at hc;simp only[QC hlt,ia _ m10,il _ m10,h1,h3,h6,o1,QGR,eE,seval];simp only[Qi,QHa,Qc,hg,eE,seval];refine Xh hc ?_ rfl rfl (.inr rfl) ?_
 ·have ht:List.take S.msgs.length (B.map AV.bool)=B.map AV.bool:=QGo (by rw[QG7];omega);simp only[QGn,QGK,AV.stillL,AV.still,Am.Qe,m10,QG7,hsl,ht,QGw,QGf,QFQ,QGN,QHd,QF9,Qa,seval]<;>rfl
 cases hn:Xa S B x
 case true=>
  have hst:JP S B i=B:=by
   unfold JP;rw[hx];dsimp only;rw[QFX (by rw[hn];simp)]
  rw[hst]at hss;simp only[h6,e1,QHq,Qa,seval];exact⟨S.msgs.length-(i+1),by omega,_,_,i+1,rfl,rfl,by omega,by rw[hss];exact⟨(by exact h1),o1,(by exact h3),m10,(by exact h4),(by exact h5)⟩,(by rfl)⟩
 have hst:JP S B i=B.set i true:=by
  unfold JP;rw[hx];dsimp only;rw[QFY ⟨hb,hn⟩]
 rw[hst]at hss;have hne:decide (Q0 S F (i+1)≠F)=true:=by
  have h1:=Bj hb;refine QHA fun h=>?_
  rw[hss]at h;rw[h]at h1;rcases htr with g|g
  ·rw[g]at h1;omega
  ·omega
 have ist:∀fr':Nat→Ob,fr' 10=.vec 1 1 (B.map AV.bool)→Q4 [fr'] (.vptr 0 10 1 i 0) [.bool true]=some [Qp fr' 10 (.vec 1 1 ((B.set i true).map AV.bool))]:=by
  intro fr' h;have e:Am.Qe [fr'] 0 10=.vec 1 1 (B.map AV.bool):=h;rw[List.map_set];simp only[Q4,e,hbm];simp[AV.cells,AV.rfL,AV.rf,Am.put,Jr]
 simp only[ia _ m10,ist _ m10,h3,h6,e1,QGR,eE,seval];exact⟨S.msgs.length-(i+1),by omega,_,_,i+1,rfl,rfl,by omega,by rw[hne,hss];exact⟨(by exact h1),(by exact o1),(by exact h3),(by rfl),(by rfl),(by exact h5)⟩,(by rfl)⟩

theorem u20:Qs Tryz.prog 20 [S.av] (.list ((QM S).map AV.bool)):=by
 have hl1:=hS.len1;have hz:JE 1 [AV.bool false]=.bool false:=rfl;have hr0:List.replicate S.msgs.length (AV.bool false)=(List.replicate S.msgs.length false).map AV.bool:=by simp
 let I:Nat→St→Prop:=fun n st=>∃f fr r F a,st=⟨f,[fr],[]⟩∧n=S.msgs.length-r∧r≤S.msgs.length∧F.length=S.msgs.length∧QM S=(if a=true then Zu S (S.msgs.length-r) F else F)∧FnS S F a r f fr
 refine k20.fn (by simp) ?_;simp only[SC.av,QG7,eE,seval];refine Fv (n:=S.msgs.length) (k:=S.msgs.length) rfl rfl (QFQ _) (by omega) (by omega) rfl ?_;simp only[hz,hr0,Qa,seval];refine Qd I _ ⟨_,_,0,List.replicate S.msgs.length false,true,rfl,rfl,QFZ _,by simp,rfl,⟨(by rfl),(by rfl),(by rfl),(by rfl),(by rfl),(by rfl)⟩⟩ ?_;rintro _ st ⟨f,fr,r,F,a,rfl,rfl,hr,hF,hs,⟨h1,o1,h3,m10,h4,h5⟩⟩;simp only[QG7,h1,h5,o1,eE,seval];have hfin:∀B:List Bool,B.length=S.msgs.length→fr 10=.vec 1 1 (B.map AV.bool)→QM S=B→List.take S.msgs.length (B.map AV.bool)=(QM S).map AV.bool:=by
  intro B hB _ e;rw[e];exact QGo (by rw[QG7];omega)
 by_cases hlt:r<S.msgs.length
 case neg=>
  have hsF:QM S=F:=by
   rw[hs];have e:S.msgs.length-r=0:=by omega
   rw[e,Zu];split<;>rfl
  have ht:=hfin F hF m10 hsF;simp only[QG hlt,h3,m10,ht,hF,QG7,QGw,QGf,QFQ,QGN,QGT,AV.un,eE,seval]
 cases a
 ·rw[QFX (by simp)]at hs;have ht:=hfin F hF m10 hs;simp only[QC hlt,h3,h4,m10,ht,hF,QG7,QGw,QGf,QFQ,QGN,QGT,AV.un,eE,seval]
 ·rw[QFY rfl]at hs;have e1:=Qo r _ hlt (by simp only[maxLen];omega);simp only[QC hlt,h4,Qa,seval];refine QwT hM S hS r F hF _ _ ⟨(by exact h1),o1,(by exact h3),m10,(by rfl),(by exact h5)⟩ (by rfl) _ (fun f fr H=>?_);obtain⟨h1,o1,h3,m10,h4,h5⟩:=H;simp only[h5,e1,Qa,seval];refine⟨S.msgs.length-(r+1),by omega,_,_,r+1,Q0 S F S.msgs.length,decide (Q0 S F S.msgs.length≠F),rfl,rfl,by omega,by rw[JV,hF],?_,⟨(by exact h1),o1,(by exact h3),m10,(by exact h4),(by rfl)⟩⟩;rw[hs];have e:S.msgs.length-r=(S.msgs.length-(r+1))+1:=by omega
  rw[e,Zu];by_cases hh:Q0 S F S.msgs.length=F
  ·rw[QFY hh,QFX (by simp[hh])];exact hh.symm
  ·rw[QFX hh,QFY (by simp[hh])]
end

def Q1 (fr:Nat→Ob)(s R:Nat)(d:List UInt8)(l:List PB):Nat→Ob :=
 Qp (Qp fr R (.vec (1+l.length) 3 (l.map PB.av))) s (.cells [.str d,.vec 0 R (1+l.length) 0 l.length false])
section
variable (fr:Nat→Ob)(s R:Nat)(d:List UInt8)(l:List PB)(h:R≠s)
theorem Qv (k:Nat):Q1 fr s R d l k=bif Nat.beq k s then .cells [.str d,.vec 0 R (1+l.length) 0 l.length false]else bif Nat.beq k R then .vec (1+l.length) 3 (l.map PB.av)else fr k:=id rfl
theorem Yh:Q1 fr s R d l s=.cells [.str d,.vec 0 R (1+l.length) 0 l.length false]:=QI ..
include h in
theorem Yi:Q1 fr s R d l R=.vec (1+l.length) 3 (l.map PB.av):=by rw[Q1,QN _ _ h,QI]
theorem Zz {k:Nat}(h1:k≠R)(h2:k≠s):Q1 fr s R d l k=fr k:=by rw[Q1,QN _ _ h2,QN _ _ h1]
theorem Hp (h1:fr s=.cells [.str d,.vec 0 R (1+l.length) 0 l.length false])(h2:fr R=.vec (1+l.length) 3 (l.map PB.av)):Q1 fr s R d l=fr:=by
 rw[Q1,KT fr R _ h2,KT fr s _ h1]
theorem Hq {k:Nat}(h1:k≠R)(h2:k≠s)(o:Ob):Qp (Q1 fr s R d l) k o=Q1 (Qp fr k o) s R d l:=by
 rw[Q1,Q1,ZT _ s k _ _ (Ne.symm h2),ZT _ R k _ _ (Ne.symm h1)]
theorem Gf (A:Ob)(h:R≠s):Qp (Qp (Qp fr s A) R (.vec 1 3 [])) s (.cells ([.str d,.nils].set 1 (.vec 0 R 1 0 0 false)))=Q1 fr s R d []:=by
 rw[Q1,ZT fr s R _ _ (Ne.symm h),Z6];rfl
include h in
theorem BA (x:PB):Qp (Qp (Q1 fr s R d l) R (.vec (1+l.length+1) 3 (l.map PB.av++[x.av]))) s (.cells [.str d,.vec 0 R (1+l.length+1) 0 (l.length+1) false])=Q1 fr s R d (l++[x]):=by
 have e:(l++[x]).length=l.length+1:=by simp
 rw[Q1,Q1,e,QHj,ZT (Qp fr R _) s R _ _ (Ne.symm h),Z6,Z6];rfl
end

section
variable (fr:Nat→Ob)(s R:Nat)(d:List UInt8)(l:List PB)(h:R≠s)(hR:Xu R 111=true)(hl:l.length≤1073741824)(n e:Int)(m:Ql)
include h hR hl

theorem QBP (ZC:Bool)  : Qn Tryz.prog 17 [.ptr 0 s 0,.bool ZC,.int .i64 n,.int .i64 e] ( Q1 fr s R d l :: m) fun x m1=>x=.tup []∧m1 =  Q1 fr s R d (l++pb d n (!ZC) e) :: m:=by
 have hs:=Yh fr s R d l;have hr:=Yi fr s R d l h;cases ZC
 ·refine TI.go (by simp) ?_;have ep:pb d n true e=[]:=rfl;simp only[QGR,ep,QGM,Qa,seval]
 ·refine TI.go (by simp) ?_;simp only[hs,eE,seval];refine XN rfl rfl (by decide) rfl rfl ?_;refine J4 (xs:=l.map PB.av) (by rfl) (by simp only[hr,FC,seval]) hR (by simp) (by rfl) rfl (by simp only[QF5,QGV,maxLen];omega) (by simp only[QF5,QGV];omega) ?_;have hb:(s==R)=false:=QHC.2 (Ne.symm h);have ha:=BA fr s R d l h ⟨d,n,e⟩;have ep:pb d n false e=[⟨d,n,e⟩]:=rfl;simp only[PB.av]at ha;simp only[hs,hb,nn0,QGn,QGK,cond_false,eE,seval];simp only[ha,ep,seval]

theorem NH (ZC:Bool)(a:Nat→Ob):Qn Tryz.prog 17 [.ptr 1 s 0,.bool ZC,.int .i64 n,.int .i64 e] (a :: Q1 fr s R d l :: m) fun x m1=>x=.tup []∧m1=a :: Q1 fr s R d (l++pb d n (!ZC) e) :: m:=by
 have hs:=Yh fr s R d l;have hr:=Yi fr s R d l h;cases ZC
 ·refine TI.go (by simp) ?_;have ep:pb d n true e=[]:=rfl;simp only[QGR,ep,QGM,Qa,seval]
 ·refine TI.go (by simp) ?_;simp only[hs,eE,seval];refine XN rfl rfl (by decide) rfl rfl ?_;refine J4 (xs:=l.map PB.av) (by rfl) (by simp only[hr,FC,seval]) hR (by simp) (by rfl) rfl (by simp only[QF5,QGV,maxLen];omega) (by simp only[QF5,QGV];omega) ?_;have hb:(s==R)=false:=QHC.2 (Ne.symm h);have ha:=BA fr s R d l h ⟨d,n,e⟩;have ep:pb d n false e=[⟨d,n,e⟩]:=rfl;simp only[PB.av]at ha;simp only[hs,hb,nn0,QGn,QGK,cond_false,eE,seval];simp only[ha,ep,seval]

theorem QBQ {M:Nat}(hM:M+8≤maxLen)(N:List SN)(hN:N.length≤maxLen)(hn:∀x∈N,x.ok M)(t:Int)(ht:t∈KY):Qn Tryz.prog 44 [.ptr 0 s 0,.list (N.map fun x=>.agg x.cells),.int .i64 t,.int .i64 n] (Q1 fr s R d l :: m) fun x m1=>x=.tup []∧m1=Q1 fr s R d (l++Xs d n N t) :: m:=by
 have e:pb d n (!(XX N t != 0)) (XX N t)=Xs d n N t:=by unfold Xs;rw[bne,QHK]
 refine k44.go (by simp) ?_;simp only[Qa,seval];refine aC (y69 hM N hN hn t ht) ?_;simp only[Qa,seval];refine Qb (NH fr s R d l h hR hl n (XX N t) m (XX N t != 0) Qf) rfl ?_;simp only[e,Qa,seval]
end

def Hd (f:Fr):List (Nat×AV)→Prop
 | []=>True
 |(k,v) :: l=>f k=v∧Hd f l

section
variable (fr:Nat→Ob)(s R:Nat)(d:List UInt8)(h:R≠s)(hR:Xu R 111=true)(lo hi:Int)(F:List PS)(hF:F.length≤1048576)(m:Ql)

def Yz (F:List PS)(s:Nat)(lo hi:Int)(i:Nat):List (Nat×AV):=[(0,.ptr 1 s 0),(1,.list (F.map QU)),(2,.int .i64 lo),(3,.int .i64 hi),(8,.int .i64 (i:Nat))]

section
variable (l:List PB)(i:Nat)(x:PS)(hx:F[i]? = some x)(own:Nat→Ob)(hl:l.length≤1073741824)(f:Fr)(hf:Hd f (Yz F s lo hi i))(K:St→Prop)
include h hR hl hf hx hF
theorem up3 (hK:∀f,Hd f (Yz F s lo hi i)→K ⟨f,own :: Q1 fr s R d (l++pb d (-1) (decide (x.lo≥lo)&&decide (x.hi≤hi)&&decide (x.lo≤x.hi)) 6) :: m,[]⟩):Qj Tryz.prog Ns ⟨f,own :: Q1 fr s R d l :: m,[]⟩ K:=by
 obtain⟨h0,h1,h2,h3,h8,-⟩:=hf;have hb:(decide (x.lo≥lo)&&decide (x.hi≤hi)&&decide (x.lo≤x.hi))=!(decide (x.lo<lo)||decide (x.hi > hi)||decide (x.lo > x.hi)):=(by rw[QGE];simp only[QG4,QGG,QHB,QGd,QGD];omega);rw[hb]at hK;have hg:(F.map QU)[i]? = some (.agg [.int .i64 x.lo,.int .i64 x.hi]):=by rw[QG5,hx];rfl
 simp only[Ns,Qi,QHa,Qc,hg,h0,h1,h2,h8,eE,seval];cases c1:decide (x.lo<lo)<;>cases c2:decide (x.hi > hi)<;>cases c3:decide (x.lo > x.hi) <;>
 ·rw[c1,c2,c3]at hK;simp only[c2,c3,Qi,QHa,Qc,hg,h1,h3,h8,eE,seval];refine Qb (NH fr s R d l h hR hl (-1) 6 m _ own) (by simp only[QGn,QGK,Qa,seval]<;>rfl) ?_;simp only[Qa,seval];exact hK _ (by simp only[Hd,Yz,QGN,h0,h1,h2,h3,h8,Qa,seval])

theorem up4 (hK:∀f,Hd f (Yz F s lo hi i)→K ⟨f,own :: Q1 fr s R d (l++pb d (-1) (MN F i x) 11) :: m,[]⟩):Qj Tryz.prog Gc ⟨f,own :: Q1 fr s R d l :: m,[]⟩ K:=by
 obtain⟨h0,h1,h2,h3,h8,-⟩:=hf;have hlt:i<F.length:=(QFS.1 hx).1;have hg:(F.map QU)[i]? = some (.agg [.int .i64 x.lo,.int .i64 x.hi]):=by rw[QG5,hx];rfl
 cases i with
 |zero=>
  have d0:decide (((0:Nat):Int) > 0)=false:=rfl;simp only[Gc,h0,h8,Qa,seval];refine Qb (NH fr s R d l h hR hl (-1) 11 m false own) (by simp only[QGn,QGK,Qa,seval]<;>rfl) ?_;simp only[Qa,seval];exact hK _ (by simp only[Hd,Yz,QGN,h0,h1,h2,h3,h8,Qa,seval])
 |succ j=>
  obtain⟨y,hj⟩:∃y,F[j]? = some y:=⟨F[j]'(by omega),QFT (by omega)⟩;have hgj:(F.map QU)[j]? = some (.agg [.int .i64 y.lo,.int .i64 y.hi]):=by rw[QG5,hj];rfl
  have wj:=JU j _ hlt (by simp only[maxLen];omega);have d0:decide (((j+1:Nat):Int) > 0)=true:=QHA (by omega);have hb:decide (x.lo > y.hi)=!decide (x.lo≤y.hi):=(by rw[QGE];simp only[QG4,QGG,QHB];omega);simp only[MN,hj,hb]at hK;simp only[Gc,d0,wj,Qi,QHa,Qc,hg,hgj,h0,h1,h8,eE,seval];refine Qb (NH fr s R d l h hR hl (-1) 11 m (decide (x.lo≤y.hi)) own) (by simp only[QGn,QGK,Qa,seval]<;>rfl) ?_;simp only[Qa,seval];exact hK _ (by simp only[Hd,Yz,QGN,h0,h1,h2,h3,h8,Qa,seval])
end

include h hR hF in
theorem QoK (l:List PB)(hl:l.length≤1048576000):Qn Tryz.prog 45 [.ptr 0 s 0,.list (F.map QU),.int .i64 lo,.int .i64 hi] (Q1 fr s R d l :: m) fun x m1=>x=.tup []∧m1=Q1 fr s R d (l++upto F (JM d lo hi F) F.length) :: m:=by
 have hul:∀n,n≤F.length→(l++upto F (JM d lo hi F) n).length≤1051000000:=by
  intro n hn;have:=QP (l:=F) (Jw d lo hi F) n;rw[QGs];omega
 let I:Nat→St→Prop:=fun k st=>∃f own i,st=⟨f,own :: Q1 fr s R d (l++upto F (JM d lo hi F) i) :: m,[]⟩∧k=F.length-i∧i≤F.length∧Hd f (Yz F s lo hi i)
 refine k45.go (by simp) ?_;simp only[r45,o45,Aa,Qa,seval];refine Qd I _ ⟨_,_,0,by rw[upto,QGM],rfl,QFZ _,by simp only[Hd,Yz,QGN,Qa,seval]<;>exact⟨rfl,trivial⟩⟩ ?_;rintro _ st ⟨f,own,i,rfl,rfl,hil,hf⟩;have hf':=hf;obtain⟨h0,h1,h2,h3,h8,-⟩:=hf';simp only[Ad,Ab,QG7,h1,h8,Qa,seval];by_cases hlt:i<F.length
 case neg=>
  have e:i=F.length:=by omega
  subst e;simp only[QG hlt,Qa,seval]
 obtain⟨x,hx⟩:∃x,F[i]? = some x:=⟨F[i],QFT hlt⟩;have e1:=Qo i _ hlt (by simp only[maxLen];omega);simp only[QC hlt,Qa,seval];have q0:=hul i hil;refine up3 fr s R d h hR lo hi F hF m _ i x hx own (by omega) _ (by simp only[Hd,Yz,QGN,h0,h1,h2,h3,h8,Qa,seval]) _ (fun f hf=>?_);simp only[Qa,seval];have q1:=QX d (-1) (decide (x.lo≥lo)&&decide (x.hi≤hi)&&decide (x.lo≤x.hi)) 6;refine up4 fr s R d h hR lo hi F hF m _ i x hx own (by rw[QGs];omega) _ hf _ (fun f hf=>?_);clear h0 h1 h2 h3 h8;obtain⟨h0,h1,h2,h3,h8,-⟩:=hf;simp only[Ac,h8,e1,Qa,seval];exact⟨F.length-(i+1),by omega,_,own,i+1,by rw[X1 hx,MO,QGa,QGa],rfl,by omega,by simp only[Hd,Yz,QGN,h0,h1,h2,h3,Qa,seval]⟩
end

theorem QH {fr:Nat→Ob}{s:Nat}{d:List UInt8}{l:List PB}{f:Fr}{K:St→Prop}{d0:Nat}{r0 r1 r2 r3:RA}{ZC:Bool}{n e:Int}(hs:(1100:Nat)≠s)(h0:r0.ev f=.ptr 0 s 0)(h1:r1.ev f=.bool ZC)(h2:r2.ev f=.int .i64 n)(h3:r3.ev f=.int .i64 e)(hl:l.length≤1073741824)
  (hk:K ⟨Qp f d0 (.tup []),[Q1 fr s 1100 d (l++pb d n (!ZC) e)],[]⟩):Qj Tryz.prog [⟨some d0,.callF (.f 17) [r0,r1,r2,r3],none⟩] ⟨f,[Q1 fr s 1100 d l],[]⟩ K :=
 Qb (QBP fr s 1100 d l hs rfl hl n e [] ZC) (by simp only[QGn,QGK,h0,h1,h2,h3]) hk
theorem JX {M:Nat}(hM:M+8≤maxLen){N:List SN}(hN:N.length≤maxLen)(hn:∀x∈N,x.ok M){fr:Nat→Ob}{s:Nat}{d:List UInt8}{l:List PB}{f:Fr}{K:St→Prop}{d0:Nat}{r0 r1 r2 r3:RA}{n t:Int}(hs:(1100:Nat)≠s)(h0:r0.ev f=.ptr 0 s 0)(h1:r1.ev f=.list (N.map fun x=>.agg x.cells))(h2:r2.ev f=.int .i64 t)(h3:r3.ev f=.int .i64 n)(ht:t∈KY)(hl:l.length≤1073741824)
  (hk:K ⟨Qp f d0 (.tup []),[Q1 fr s 1100 d (l++Xs d n N t)],[]⟩):Qj Tryz.prog [⟨some d0,.callF (.f 44) [r0,r1,r2,r3],none⟩] ⟨f,[Q1 fr s 1100 d l],[]⟩ K :=
 Qb (QBQ fr s 1100 d l hs rfl hl n [] hM N hN hn t ht) (by simp only[QGn,QGK,h0,h1,h2,h3]) hk
def Jj (its:List Am.Item)(fr:Nat→Ob)(s:Nat)(d:List UInt8)(fl:List (Nat×AV))(p:List PB):Prop :=
 ∀(l:List PB) (f:Fr) (K:St→Prop),l.length≤1073741824→Hd f fl→(∀f,Hd f fl→K ⟨f,[Q1 fr s 1100 d (l++p)],[]⟩)→Qj Tryz.prog its ⟨f,[Q1 fr s 1100 d l],[]⟩ K
def Zh (Fb:List Bool)(i:Nat)(tw:Bool):List (Nat×AV):=[(2,.list (Fb.map AV.bool)),(3,.ptr 0 3 0),(4,.ptr 0 4 0),(7,.ptr 0 7 0),(8,.int .i64 (i:Nat)),(9,.ptr 0 9 0),(10,.bool tw)]

section
variable {M:Nat}(hM:M≤1048576)(S:SC)(hS:S.ok M)(m:SM)(hm:m.ok M)(Fb:List Bool)(i:Nat)(x:SF)(hi:m.fields[i]? = some x)(tw:Bool)(fr:Nat→Ob)
 (o3:fr 3=.cells [.list (S.msgs.map fun n=>.agg n.cells),.list (S.enums.map fun n=>.agg n.cells),.list (S.servs.map fun n=>.agg n.cells)]) (o4:fr 4=.cells m.cells) (o9:fr 9=.cells x.cells)

include o9 in
theorem QBR:Jj Dg fr 7 m.name (Zh Fb i tw) (pb m.name x.num (decide (x.num≥1)&&decide (x.num≤65535)) 6):=by
 rintro l f K hl ⟨h2,h3,h4,h7,h8,h9,h10,-⟩ hK;rw[QJ]at o9;have hb:(decide (x.num≥1)&&decide (x.num≤65535))=!(decide (x.num<1)||decide (x.num > 65535)):=(by rw[QGE];simp only[QG4,QGG,QHB,QGd,QGD];omega);rw[hb]at hK;simp only[Dg,Qv,h9,o9,eE,seval];cases c1:decide (x.num<1)<;>cases c2:decide (x.num > 65535) <;>
 ·rw[c1,c2]at hK;simp only[c2,Qv,h9,o9,eE,seval];exact QH (by decide) (by exact h7) rfl rfl rfl hl (hK _ (by simp only[Hd,Zh,QGN,h2,h3,h4,h7,h8,h9,h10,Qa,seval]))

include o4 o9 hi hM hm in
theorem QBS:Jj UI fr 7 m.name (Zh Fb i tw) (pb m.name x.num (JQ m.fields SF.num i x) 11):=by
 rintro l f K hl ⟨h2,h3,h4,h7,h8,h9,h10,-⟩ hK;rw[QJ]at o9;rw[Xz]at o4;have hlt:i<m.fields.length:=(QFS.1 hi).1;have hl1:=hm.len1;cases i with
 |zero=>
  have d0:decide (((0:Nat):Int) > 0)=false:=rfl;simp only[UI,Qv,h8,h9,o9,eE,seval];exact QH (by decide) (by exact h7) rfl rfl rfl hl (hK _ (by simp only[Hd,Zh,QGN,h2,h3,h4,h7,h8,h9,h10,Qa,seval]))
 |succ j=>
  obtain⟨y,hj⟩:∃y,m.fields[j]? = some y:=⟨m.fields[j]'(by omega),QFT (by omega)⟩;have hgj:(m.fields.map fun n=>AV.agg n.cells)[j]? = some (.agg y.cells):=by rw[QG5,hj];rfl
  rw[QJ]at hgj;have wj:=JU j _ hlt (by simp only[maxLen];omega);have d0:decide (((j+1:Nat):Int) > 0)=true:=QHA (by omega);have hb:decide (x.num > y.num)=!decide (x.num≤y.num):=(by rw[QGE];simp only[QG4,QGG,QHB];omega);simp only[JQ,hj,hb]at hK;simp only[UI,Qv,Qi,QHa,Qc,hgj,wj,h4,h8,h9,o4,o9,d0,eE,seval];exact QH (by decide) (by exact h7) rfl rfl rfl hl (hK _ (by simp only[Hd,Zh,QGN,h2,h3,h4,h7,h8,h9,h10,Qa,seval]))

include o9 in
theorem QBT:Jj Dh fr 7 m.name (Zh Fb i tw) (pb m.name x.num (Xb x.name) 8):=by
 rintro l f K hl ⟨h2,h3,h4,h7,h8,h9,h10,-⟩ hK;rw[QJ]at o9;rw[←QHK (Xb x.name)]at hK;simp only[Dh,Qv,h9,o9,eE,seval];refine aC (AE x.name) ?_;simp only[Qv,h9,o9,eE,seval];exact QH (by decide) (by exact h7) rfl rfl rfl hl (hK _ (by simp only[Hd,Zh,QGN,h2,h3,h4,h7,h8,h9,h10,Qa,seval]))

include o9 in
theorem QBU:Jj Di fr 7 m.name (Zh Fb i tw) (pb m.name x.num (!tw) 9):=by
 rintro l f K hl ⟨h2,h3,h4,h7,h8,h9,h10,-⟩ hK;rw[QJ]at o9;simp only[Di,Qv,h9,h10,o9,eE,seval];exact QH (by decide) (by exact h7) rfl rfl rfl hl (hK _ (by simp only[Hd,Zh,QGN,h2,h3,h4,h7,h8,h9,h10,Qa,seval]))

include o4 o9 hM hm in
theorem QBV:Jj Dj fr 7 m.name (Zh Fb i tw) (pb m.name x.num (!(kept m.free x.num) && !(m.gone.contains x.name)) 21):=by
 rintro l f K hl ⟨h2,h3,h4,h7,h8,h9,h10,-⟩ hK;rw[QJ]at o9;rw[Xz]at o4;have hl2:=hm.len2;have hl3:=hm.len3;have hk:=z39 m.free (by simp only[maxLen];omega) x.num;have hh:=u35 m.gone (by simp only[maxLen];omega) x.name;rw[←Bool.not_or]at hK;simp only[Dj,Qv,h4,h9,o4,o9,eE,seval];refine aC hk ?_;cases a1:kept m.free x.num
 ·rw[a1,QHs]at hK;simp only[Qv,h4,h9,o4,o9,eE,seval];refine aC hh ?_;simp only[Qv,h9,o9,eE,seval];exact QH (by decide) (by exact h7) rfl rfl rfl hl (hK _ (by simp only[Hd,Zh,QGN,h2,h3,h4,h7,h8,h9,h10,Qa,seval]))
 ·rw[a1,QHr]at hK;simp only[Qv,h9,o9,eE,seval];exact QH (by decide) (by exact h7) rfl rfl rfl hl (hK _ (by simp only[Hd,Zh,QGN,h2,h3,h4,h7,h8,h9,h10,Qa,seval]))

include o3 o4 o9 hi hM hm hS in
theorem QBW:Jj Dk fr 7 m.name (Zh Fb i tw) (pb m.name x.num (WC x) 1):=by
 rintro l f K hl ⟨h2,h3,h4,h7,h8,h9,h10,-⟩ hK;have hc:=u40 x;simp only[Xt]at hc
 try rw[QJ x]at hc
 rw[QJ]at o9;rw[Xz]at o4;rw[←QHK (WC x)]at hK;simp only[Dk,Qv,h9,o9,eE,seval];refine aC hc ?_;simp only[Qv,h9,o9,eE,seval];exact QH (by decide) (by exact h7) rfl rfl rfl hl (hK _ (by simp only[Hd,Zh,QGN,h2,h3,h4,h7,h8,h9,h10,Qa,seval]))

include o3 o4 o9 hi hM hm hS in
theorem QBX:Jj Dl fr 7 m.name (Zh Fb i tw) (pb m.name x.num (Ja S x) 12):=by
 rintro l f K hl ⟨h2,h3,h4,h7,h8,h9,h10,-⟩ hK;have hc:=u41 S hS hM x;simp only[SC.av,Xt]at hc
 try rw[QJ x]at hc
 rw[QJ]at o9;rw[Xz]at o4;rw[←QHK (Ja S x)]at hK;simp only[Dl,Qv,h3,h9,o3,o9,eE,seval];refine aC hc ?_;simp only[Qv,h9,o9,eE,seval];exact QH (by decide) (by exact h7) rfl rfl rfl hl (hK _ (by simp only[Hd,Zh,QGN,h2,h3,h4,h7,h8,h9,h10,Qa,seval]))

include o3 o4 o9 hi hM hm hS in
theorem QBY:Jj Dm fr 7 m.name (Zh Fb i tw) (pb m.name x.num (ZW m i) 15):=by
 rintro l f K hl ⟨h2,h3,h4,h7,h8,h9,h10,-⟩ hK;have hc:=u42 hM m hm i x hi;simp only[QY]at hc
 try rw[QJ x]at hc
 rw[QJ]at o9;rw[Xz]at o4;rw[←QHK (ZW m i)]at hK;simp only[Dm,Qv,h4,h8,o4,eE,seval];refine aC hc ?_;simp only[Qv,h9,o9,eE,seval];exact QH (by decide) (by exact h7) rfl rfl rfl hl (hK _ (by simp only[Hd,Zh,QGN,h2,h3,h4,h7,h8,h9,h10,Qa,seval]))

include o3 o4 o9 hi hM hm hS in
theorem QBZ:Jj Dn fr 7 m.name (Zh Fb i tw) (pb m.name x.num (KI S x) 1):=by
 rintro l f K hl ⟨h2,h3,h4,h7,h8,h9,h10,-⟩ hK;have hc:=u43 S hS hM x (hm.fields x (QF4 hi));simp only[SC.av,Xt]at hc
 try rw[QJ x]at hc
 rw[QJ]at o9;rw[Xz]at o4;rw[←QHK (KI S x)]at hK;simp only[Dn,Qv,h3,h9,o3,o9,eE,seval];refine aC hc ?_;simp only[Qv,h9,o9,eE,seval];exact QH (by decide) (by exact h7) rfl rfl rfl hl (hK _ (by simp only[Hd,Zh,QGN,h2,h3,h4,h7,h8,h9,h10,Qa,seval]))

include o9 hi hM hm in
theorem QB0:Jj Dp fr 7 m.name (Zh Fb i tw) (Xs m.name x.num x.notes 2):=by
 rintro l f K hl ⟨h2,h3,h4,h7,h8,h9,h10,-⟩ hK;have hx:=hm.fields x (QF4 hi);have hln:=hx.len;rw[QJ]at o9;simp only[Dp,Qv,h9,o9,eE,seval];exact JX (by simp only[maxLen];omega) (by simp only[maxLen];omega) hx.notes (by decide) (by exact h7) rfl rfl rfl (by decide) hl (hK _ (by simp only[Hd,Zh,QGN,h2,h3,h4,h7,h8,h9,h10,Qa,seval]))

include o4 o9 hi hM hm in
theorem QwU (F:Nat→Ob)(l:List PB)(hF:F=Q1 fr 7 1100 m.name l)(f:Fr)(hf:Hd f (Zh Fb i false))(h11:f 11=.int .i64 0)(Q:Exit→St→Prop)
  (hq:∀f,Hd f (Zh Fb i ((m.fields.take i).any fun y=>y.name==x.name))→Q (.exit 2) ⟨f,[F],[]⟩):QK Tryz.prog (.loop No) ⟨f,[F],[]⟩ Q:=by
 let I:Nat→St→Prop:=fun n st=>∃f k,st=⟨f,[F],[]⟩∧n=i-k∧k≤i∧Hd f (Zh Fb i ((m.fields.take k).any fun y=>y.name==x.name))∧f 11=.int .i64 (k:Nat)
 have hil:i<m.fields.length:=(QFS.1 hi).1;have hl1:=hm.len1;rw[QJ]at o9;rw[Xz]at o4;have p4:F 4=fr 4:=by rw[hF,Zz _ _ _ _ _ (by decide) (by decide)]
 have p9:F 9=fr 9:=by rw[hF,Zz _ _ _ _ _ (by decide) (by decide)]
 rw[o4]at p4;rw[o9]at p9;refine Qd I _ ⟨f,0,rfl,rfl,QFZ _,hf,h11⟩ ?_;clear hf h11;rintro _ st ⟨f,k,rfl,rfl,hk,hf,h11⟩;have hf':=hf;obtain⟨h2,h3,h4,h7,h8,h9,h10,-⟩:=hf';simp only[No,C7,h8,h11,Qa,seval];by_cases hlt:k<i
 case neg=>
  have e:k=i:=by omega
  subst e;simp only[QG hlt,Qa,seval];exact hq _ (by simp only[Hd,Zh,QGN,h2,h3,h4,h7,h8,h9,h10,Qa,seval])
 obtain⟨y,hy⟩:∃y,m.fields[k]? = some y:=⟨m.fields[k]'(by omega),QFT (by omega)⟩;have hg:(m.fields.map fun n=>AV.agg n.cells)[k]? = some (.agg y.cells):=by rw[QG5,hy];rfl
 rw[QJ]at hg;have e1:=Qo k _ hlt (by simp only[maxLen];omega);have ht:=Jx (q:=fun y:SF=>y.name==x.name) hy;simp only[QC hlt,C8,Qi,QHa,Qc,hg,h4,h9,h11,p4,p9,QB,eE,seval];cases hp:(y.name==x.name)
 ·rw[hp,QHE]at ht;simp only[Df,h11,e1,Qa,seval];exact⟨i-(k+1),by omega,_,k+1,rfl,rfl,by omega,by simp only[ht,Hd,Zh,QGN,h2,h3,h4,h7,h8,h9,h10,Qa,seval],(by rfl)⟩
 ·rw[hp,Bool.or_true]at ht;simp only[Df,C9,h11,e1,Qa,seval];exact⟨i-(k+1),by omega,_,k+1,rfl,rfl,by omega,by simp only[ht,Hd,Zh,QGN,h2,h3,h4,h7,h8,h9,Qa,seval],(by rfl)⟩
end

section
variable {M:Nat}(hM:M≤1048576)(S:SC)(hS:S.ok M)(m:SM)(hm:m.ok M)(Fb:List Bool)
include hM hS hm in
theorem MY (l:List PB)(hl:l.length≤1000000)(f:Fr)(fr:Nat→Ob)(h2:f 2=.list (Fb.map AV.bool))(h3:f 3=.ptr 0 3 0)(h4:f 4=.ptr 0 4 0)(h7:f 7=.ptr 0 7 0)(h8:f 8=.int .i64 0)
  (o3:fr 3=.cells [.list (S.msgs.map fun n=>.agg n.cells),.list (S.enums.map fun n=>.agg n.cells),.list (S.servs.map fun n=>.agg n.cells)]) (o4:fr 4=.cells m.cells) (o9:fr 9=.none) (Q:Exit→St→Prop)
  (hq:∀(f:Fr) (fr:Nat→Ob),f 2=.list (Fb.map AV.bool)→f 3=.ptr 0 3 0→f 4=.ptr 0 4 0→f 7=.ptr 0 7 0→fr 3=.cells [.list (S.msgs.map fun n=>.agg n.cells),.list (S.enums.map fun n=>.agg n.cells),.list (S.servs.map fun n=>.agg n.cells)]→fr 4=.cells m.cells→Q (.exit 0) ⟨f,[Q1 fr 7 1100 m.name (l++upto m.fields (Ju S m) m.fields.length)],[]⟩) :
  QK Tryz.prog (.loop Np) ⟨f,[Q1 fr 7 1100 m.name l],[]⟩ Q:=by
 let I:Nat→St→Prop:=fun n st=>∃f fr i,st=⟨f,[Q1 fr 7 1100 m.name (l++upto m.fields (Ju S m) i)],[]⟩∧n=m.fields.length-i∧i≤m.fields.length∧f 2=.list (Fb.map AV.bool)∧f 3=.ptr 0 3 0∧f 4=.ptr 0 4 0∧f 7=.ptr 0 7 0∧f 8=.int .i64 (i:Nat)∧
  fr 3=.cells [.list (S.msgs.map fun n=>.agg n.cells),.list (S.enums.map fun n=>.agg n.cells),.list (S.servs.map fun n=>.agg n.cells)]∧fr 4=.cells m.cells∧(fr 9).isRow=false
 have hl1:=hm.len1;refine Qd I _ ⟨f,fr,0,by rw[upto,QGM],rfl,QFZ _,h2,h3,h4,h7,h8,o3,o4,by rw[o9];rfl⟩ ?_;clear h2 h3 h4 h7 h8 o3 o4 o9;rintro _ st ⟨f0,fr0,i,rfl,rfl,hi,h20,h30,h40,h70,h80,X8,ZH,r9⟩;refine Qz (a:=_) [9] (by
  intro s hs;simp only[QG2,QHG,or_false]at hs;subst hs;rw[Zz _ _ _ _ _ (by decide) (by decide)];exact r9) ?_
 intro f fr hf hmm hn;have h2:f 2=.list (Fb.map AV.bool):=by rw[hf,h20]<;>rfl
 have h3:f 3=.ptr 0 3 0:=by rw[hf,h30]<;>rfl
 have h4:f 4=.ptr 0 4 0:=by rw[hf,h40]<;>rfl
 have h7:f 7=.ptr 0 7 0:=by rw[hf,h70]<;>rfl
 have h8:f 8=.int .i64 (i:Nat):=by rw[hf,h80]<;>rfl
 have o3:fr 3=.cells [.list (S.msgs.map fun n=>.agg n.cells),.list (S.enums.map fun n=>.agg n.cells),.list (S.servs.map fun n=>.agg n.cells)]:=by rw[hmm 3 (by decide),Zz _ _ _ _ _ (by decide) (by decide),X8]<;>rfl
 have o4:fr 4=.cells m.cells:=by rw[hmm 4 (by decide),Zz _ _ _ _ _ (by decide) (by decide),ZH]<;>rfl
 have n9:=hn 9 (by decide);have q0:(l++upto m.fields (Ju S m) i).length≤100000000:=by
  have:=QP (l:=m.fields) (K5 S m) i;rw[QGs];omega
 have hfe:Q1 fr 7 1100 m.name (l++upto m.fields (Ju S m) i)=fr:=Hp _ _ _ _ _ (by rw[hmm 7 (by decide),Yh]<;>rfl) (by rw[hmm 1100 (by decide),Yi _ _ _ _ _ (by decide)]<;>rfl);clear hf hmm hn h20 h30 h40 h70 h80 X8 ZH r9;have o4':=o4;rw[Xz]at o4';simp only[TO,QG7,h4,h8,o4',eE,seval];by_cases hlt:i<m.fields.length
 case neg=>
  have ei:i=m.fields.length:=by omega
  subst ei;simp only[QG hlt,Qa,seval];rw[←hfe];exact hq _ _ (by exact h2) (by exact h3) (by exact h4) (by exact h7) o3 o4
 obtain⟨x,hx⟩:∃x,m.fields[i]? = some x:=⟨m.fields[i],QFT hlt⟩;have hg:(m.fields.map fun n=>AV.agg n.cells)[i]? = some (.agg x.cells):=by rw[QG5,hx];rfl
 rw[QJ]at hg;have e1:=Qo i _ hlt (by simp only[maxLen];omega);simp only[QC hlt,n9,TP,TQ,TR,Qi,QHa,Qc,hg,h4,h8,o4',eE,seval];rw[←hfe,Hq _ _ _ _ _ (by decide) (by decide)];generalize hF:Qp fr 9 _=F;have p3:F 3=.cells [.list (S.msgs.map fun n=>.agg n.cells),.list (S.enums.map fun n=>.agg n.cells),.list (S.servs.map fun n=>.agg n.cells)]:=by rw[←hF];exact(by exact o3)
 have p4:F 4=.cells m.cells:=by rw[←hF];exact(by exact o4)
 have p9:F 9=.cells x.cells:=by rw[←hF,QJ];exact(by rfl)
 clear hF hfe o3 o4 o4' n9;refine QwU hM m hm Fb i x hx F p4 p9 _ _ rfl _ (by simp only[Hd,Zh,QGN,h2,h3,h4,h7,h8,Qa,seval]) (by rfl) _ (fun f hf=>?_);clear h2 h3 h4 h7 h8;generalize hT:((m.fields.take i).any fun y=>y.name==x.name)=tw at hf;simp only[Qa,seval];refine QBR m Fb i x tw F p9 _ f _ (by omega) hf (fun f hf=>?_);have q1:=Qu q0 m.name x.num (decide (x.num≥1)&&decide (x.num≤65535)) 6;simp only[Qa,seval];refine QBS hM m hm Fb i x hx tw F p4 p9 _ f _ (by omega) hf (fun f hf=>?_);have q2:=Qu q1 m.name x.num (JQ m.fields SF.num i x) 11;simp only[Qa,seval];refine QBT m Fb i x tw F p9 _ f _ (by omega) hf (fun f hf=>?_);have q3:=Qu q2 m.name x.num (Xb x.name) 8;simp only[Qa,seval];refine QBU m Fb i x tw F p9 _ f _ (by omega) hf (fun f hf=>?_);have q4:=Qu q3 m.name x.num (!tw) 9;simp only[Qa,seval];refine QBV hM m hm Fb i x tw F p4 p9 _ f _ (by omega) hf (fun f hf=>?_);have q5:=Qu q4 m.name x.num (!(kept m.free x.num) && !(m.gone.contains x.name)) 21;simp only[Qa,seval];refine QBW hM S hS m hm Fb i x hx tw F p3 p4 p9 _ f _ (by omega) hf (fun f hf=>?_);have q6:=Qu q5 m.name x.num (WC x) 1;simp only[Qa,seval];refine QBX hM S hS m hm Fb i x hx tw F p3 p4 p9 _ f _ (by omega) hf (fun f hf=>?_);have q7:=Qu q6 m.name x.num (Ja S x) 12;simp only[Qa,seval];refine QBY hM S hS m hm Fb i x hx tw F p3 p4 p9 _ f _ (by omega) hf (fun f hf=>?_);have q8:=Qu q7 m.name x.num (ZW m i) 15;simp only[Qa,seval];refine QBZ hM S hS m hm Fb i x hx tw F p3 p4 p9 _ f _ (by omega) hf (fun f hf=>?_);have q9:=Qu q8 m.name x.num (KI S x) 1;simp only[Qa,seval];refine QB0 hM m hm Fb i x hx tw F p9 _ f _ (by omega) hf (fun f hf=>?_);obtain⟨h2,h3,h4,h7,h8,h9,h10,-⟩:=hf;simp only[TS,h8,e1,Qa,seval];exact⟨m.fields.length-(i+1),by omega,_,F,i+1,by rw[X1 hx];subst hT;unfold Ju;simp only[QGa]<;>rfl,rfl,by omega,(by exact h2),(by exact h3),(by exact h4),(by exact h7),(by rfl),p3,p4,by rw[p9];rfl⟩
end

section
variable {M:Nat}(hM:M≤1048576)(m:SM)(hm:m.ok M)
include hM hm in
theorem I9 (l:List PB)(hl:l.length≤1000000000)(f:Fr)(fr:Nat→Ob)(h3:f 3=.ptr 0 3 0)(h2:∃a,f 2=a)(h4:f 4=.ptr 0 4 0)(h7:f 7=.ptr 0 7 0)(h12:f 12=.int .i64 0)(o4:fr 4=.cells m.cells)(Q:Exit→St→Prop)
  (hq:∀f':Fr,f' 2=f 2→f' 3=.ptr 0 3 0→f' 4=.ptr 0 4 0→f' 7=.ptr 0 7 0→Q (.exit 4) ⟨f',[Q1 fr 7 1100 m.name (l++upto m.gone (fun _ g=>pb m.name (-1) (ZR g) 7) m.gone.length)],[]⟩):QK Tryz.prog (.loop H7) ⟨f,[Q1 fr 7 1100 m.name l],[]⟩ Q:=by
 obtain⟨a,h2⟩:=h2;rw[h2]at hq
 let I:Nat→St→Prop:=fun n st=>∃f i,st=⟨f,[Q1 fr 7 1100 m.name (l++upto m.gone (fun _ g=>pb m.name (-1) (ZR g) 7) i)],[]⟩∧n=m.gone.length-i∧i≤m.gone.length∧f 2=a∧f 3=.ptr 0 3 0∧f 4=.ptr 0 4 0∧f 7=.ptr 0 7 0∧f 12=.int .i64 (i:Nat)
 have hl3:=hm.len3;rw[Xz]at o4;refine Qd I _ ⟨f,0,by rw[upto,QGM],rfl,QFZ _,h2,h3,h4,h7,h12⟩ ?_;clear h2 h3 h4 h7 h12;rintro _ st ⟨f,i,rfl,rfl,hi,h2,h3,h4,h7,h12⟩;simp only[H7,Ma,Qv,QG7,h4,h12,o4,eE,seval];by_cases hlt:i<m.gone.length
 case neg=>
  have ei:i=m.gone.length:=by omega
  subst ei;simp only[QG hlt,Qa,seval];exact hq _ (by exact h2) (by exact h3) (by exact h4) (by exact h7)
 obtain⟨x,hx⟩:∃x,m.gone[i]? = some x:=⟨m.gone[i],QFT hlt⟩;have hg:(m.gone.map AV.str)[i]? = some (.str x):=by rw[QG5,hx];rfl
 have hxl:=hm.gone x (QF4 hx);have e1:=Qo i _ hlt (by simp only[maxLen];omega);have hu:=QP (l:=m.gone) (g:=fun _ g=>pb m.name (-1) (ZR g) 7) (c:=1) (fun _ g=>QX ..) i;simp only[QC hlt,Mb,Qv,Qi,QHa,Qc,hg,h4,h12,o4,eE,seval];refine aC (c46 x (by simp only[maxLen];omega)) ?_;simp only[Qa,seval];refine QH (by decide) (by exact h7) rfl rfl rfl (by rw[QGs];omega) ?_;simp only[Mc,h12,e1,Qa,seval];exact⟨m.gone.length-(i+1),by omega,_,i+1,by rw[X1 hx,QHK,QGa],rfl,by omega,(by exact h2),(by exact h3),(by exact h4),(by exact h7),(by rfl)⟩

theorem KM (l:List PB):List.take l.length (List.map PB.av l)=List.map PB.av l:=QGo (by rw[QG7];exact QFQ _)

theorem u21 {M:Nat}(hM:M≤1048576)(S:SC)(hS:S.ok M)(m:SM)(hm:m.ok M)(F:List Bool)(hF:F.length=S.msgs.length):Qs Tryz.prog 21 [S.av,QY m,.list (F.map AV.bool)] (.list ((ZX S (Xa S F) m).map PB.av)):=by
 have hl1:=hm.len1;have hl2:=hm.len2;have hl3:=hm.len3;have hl4:=hm.len4;have hnl:=hm.name;refine k21.fn (by simp) ?_;simp only[r21,Md,TK,TL,SC.av,QY,Xz m,eE,seval];refine Xn rfl rfl rfl rfl ?_;generalize hb:(Qp (Qp Qf 3 _) 4 _:Nat→Ob)=base;have o3:base 3=.cells [.list (S.msgs.map fun n=>.agg n.cells),.list (S.enums.map fun n=>.agg n.cells),.list (S.servs.map fun n=>.agg n.cells)]:=by rw[←hb];exact(by rfl)
 have o4:base 4=.cells m.cells:=by rw[←hb,Xz];exact(by rfl)
 have o9:base 9=.none:=by rw[←hb];rfl
 clear hb;have o4s:=o4;rw[Xz]at o4s;rw[Gf base 7 1100 m.name _ (by decide)];simp only[TM,Qv,o4s,eE,seval];refine aC (u37 m.name) ?_;simp only[Qa,seval];refine QH (by decide) rfl rfl rfl rfl (by simp) ?_;rw[QHK,QGc];have q1:=QX m.name (-1) (Xp m.name) 8;generalize hL1:pb m.name (-1) (Xp m.name) 8=L1 at q1;have hbb:(decide (m.fields.length≤64)&&decide (m.free.length≤16)&&decide (m.gone.length≤16))=!(decide ((m.fields.length:Int) > 64)||decide ((m.free.length:Int) > 16)||decide ((m.gone.length:Int) > 16)):=(by rw[QGE];simp only[QG4,QGG,QHB,QGd,QGD];omega);have q2:=Qu q1 m.name (-1) (decide (m.fields.length≤64)&&decide (m.free.length≤16)&&decide (m.gone.length≤16)) 3;have key:∀f:Fr,f 2=.list (F.map AV.bool)→f 3=.ptr 0 3 0→f 4=.ptr 0 4 0→f 7=.ptr 0 7 0→QK Tryz.prog (.seq (.seq (.reg Nn) (.block 0 (.loop Np))) (.seq (.reg Dq) (.seq (.seq (.reg Dr) (.block 4 (.loop H7))) (.seq (.reg Ds) (.seq (.reg Dt) (.seq (.reg Du) .ret))))))
   ⟨f,[Q1 base 7 1100 m.name (L1++pb m.name (-1) (decide (m.fields.length≤64)&&decide (m.free.length≤16)&&decide (m.gone.length≤16)) 3)],[]⟩ (Zm Md 0 fun x _=>x=.list ((ZX S (Xa S F) m).map PB.av)):=by
  intro f h2 h3 h4 h7;simp only[Nn,Qa,seval];refine MY hM S hS m hm F _ (by omega) _ base (by exact h2) (by exact h3) (by exact h4) (by exact h7) (by rfl) o3 o4 o9 _ (fun f fr h2 h3 h4 h7 o3 o4=>?_);have o4s:=o4;rw[Xz]at o4s;have q3:=QP (l:=m.fields) (K5 S m) m.fields.length;have q4:=QP (l:=m.free) (Jw m.name 1 65535 m.free) m.free.length;have q5:=QP (l:=m.gone) (g:=fun _ g=>pb m.name (-1) (ZR g) 7) (c:=1) (fun _ g=>QX ..) m.gone.length;have q6:=QX m.name (-1) (XX m.notes 1==0) (XX m.notes 1);simp only[Dq,Qv,h4,o4s,eE,seval];refine Qb (QoK fr 7 1100 m.name (by decide) rfl 1 65535 m.free (by omega) [] _ (by simp only[QGs]at q2 ⊢;omega)) (by simp only[QGn,QGK,h7,Qa,seval]<;>rfl) ?_;simp only[Dr,Qa,seval];refine I9 hM m hm _ (by simp only[QGs]at q2 ⊢;omega) _ fr (by exact h3) ⟨_,rfl⟩ (by exact h4) (by exact h7) (by rfl) o4 _ (fun f2 k2 h3 h4 h7=>?_);have h2':f2 2=.list (F.map AV.bool):=by rw[k2];exact(by exact h2)
  clear k2 h2;simp only[Ds,Qv,h4,o4s,eE,seval];refine JX (by simp only[maxLen];omega) (by simp only[maxLen];omega) hm.notes (by decide) (by exact h7) rfl rfl rfl (by decide) (by simp only[QGs]at q2 ⊢;omega) ?_;have hc:=u36 hM S hS F hF m hm;simp only[SC.av,QY,Xz m]at hc;simp only[Dt,Qv,h2',h3,h4,o3,o4s,eE,seval];refine aC hc ?_
  try simp only[eE,seval]
  refine QH (by decide) (by exact h7) rfl rfl rfl (by simp only[QGs,Xs]at q2 ⊢;omega) ?_;generalize hL:_++pb m.name (-1) (!Xa S F m) 19=L;have hfin:ZX S (Xa S F) m=L:=by rw[←hL,←hL1];rfl
  rw[hfin];simp only[Du,Qv,h7,QG7,QGw,KM,QGf,QFQ,QGN,QGT,AV.un,Md,eE,seval]
 simp only[Md,Qa,seval]at key;rw[hbb]at key;simp only[TN,Qv,QG7,o4s,eE,seval];cases c1:decide ((m.fields.length:Int) > 64)<;>cases c2:decide ((m.free.length:Int) > 16)<;>cases c3:decide ((m.gone.length:Int) > 16) <;>
 ·rw[c1,c2,c3]at key;simp only[c2,c3,Qv,QG7,o4s,eE,seval];refine QH (by decide) rfl rfl rfl rfl (by omega) ?_;simp only[Qa,seval];exact key _ (by rfl) (by rfl) (by rfl) (by rfl)
end

def Jy (i:Nat)(tw:Bool):List (Nat×AV):=[(1,.ptr 0 1 0),(3,.ptr 0 3 0),(4,.int .i64 (i:Nat)),(5,.ptr 0 5 0),(6,.bool tw)]
section
variable {M:Nat}(hM:M≤1048576)(m:SE)(hm:m.ok M)(i:Nat)(x:SI)(hi:m.items[i]? = some x)(tw:Bool)(fr:Nat→Ob)(o1:fr 1=.cells m.cells)(o5:fr 5=.cells x.cells)

include o5 in
theorem QB1:Jj Dw fr 3 m.name (Jy i tw) (pb m.name x.num (decide (x.num≥0)&&decide (x.num≤2147483647)) 6):=by
 rintro l f K hl ⟨h1,h3,h4,h5,h6,-⟩ hK;rw[Z0]at o5;have hb:(decide (x.num≥0)&&decide (x.num≤2147483647))=!(decide (x.num<0)||decide (x.num > 2147483647)):=(by rw[QGE];simp only[QG4,QGG,QHB,QGd,QGD];omega);rw[hb]at hK;simp only[Dw,Qv,h5,o5,eE,seval];cases c1:decide (x.num<0)<;>cases c2:decide (x.num > 2147483647) <;>
 ·rw[c1,c2]at hK;simp only[c2,Qv,h5,o5,eE,seval];exact QH (by decide) (by exact h3) rfl rfl rfl hl (hK _ (by simp only[Hd,Jy,QGN,h1,h3,h4,h5,h6,Qa,seval]))

include o1 o5 hi hM hm in
theorem QB2:Jj UJ fr 3 m.name (Jy i tw) (pb m.name x.num (JQ m.items SI.num i x) 11):=by
 rintro l f K hl ⟨h1,h3,h4,h5,h6,-⟩ hK;rw[Z0]at o5;rw[Zg]at o1;have hlt:i<m.items.length:=(QFS.1 hi).1;have hl1:=hm.len1;cases i with
 |zero=>
  have d0:decide (((0:Nat):Int) > 0)=false:=rfl;simp only[UJ,Qv,h4,h5,o5,eE,seval];exact QH (by decide) (by exact h3) rfl rfl rfl hl (hK _ (by simp only[Hd,Jy,QGN,h1,h3,h4,h5,h6,Qa,seval]))
 |succ j=>
  obtain⟨y,hj⟩:∃y,m.items[j]? = some y:=⟨m.items[j]'(by omega),QFT (by omega)⟩;have hgj:(m.items.map fun n=>AV.agg n.cells)[j]? = some (.agg y.cells):=by rw[QG5,hj];rfl
  rw[Z0]at hgj;have wj:=JU j _ hlt (by simp only[maxLen];omega);have d0:decide (((j+1:Nat):Int) > 0)=true:=QHA (by omega);have hb:decide (x.num > y.num)=!decide (x.num≤y.num):=(by rw[QGE];simp only[QG4,QGG,QHB];omega);simp only[JQ,hj,hb]at hK;simp only[UJ,Qv,Qi,QHa,Qc,hgj,wj,h1,h4,h5,o1,o5,d0,eE,seval];exact QH (by decide) (by exact h3) rfl rfl rfl hl (hK _ (by simp only[Hd,Jy,QGN,h1,h3,h4,h5,h6,Qa,seval]))

include o5 in
theorem QB3:Jj Dx fr 3 m.name (Jy i tw) (pb m.name x.num (Xb x.name) 8):=by
 rintro l f K hl ⟨h1,h3,h4,h5,h6,-⟩ hK;rw[Z0]at o5;rw[←QHK (Xb x.name)]at hK;simp only[Dx,Qv,h5,o5,eE,seval];refine aC (AE x.name) ?_;simp only[Qv,h5,o5,eE,seval];exact QH (by decide) (by exact h3) rfl rfl rfl hl (hK _ (by simp only[Hd,Jy,QGN,h1,h3,h4,h5,h6,Qa,seval]))

include o5 in
theorem QB4:Jj Dy fr 3 m.name (Jy i tw) (pb m.name x.num (!tw) 9):=by
 rintro l f K hl ⟨h1,h3,h4,h5,h6,-⟩ hK;rw[Z0]at o5;simp only[Dy,Qv,h5,h6,o5,eE,seval];exact QH (by decide) (by exact h3) rfl rfl rfl hl (hK _ (by simp only[Hd,Jy,QGN,h1,h3,h4,h5,h6,Qa,seval]))

include o1 o5 hM hm in
theorem QB5:Jj Dz fr 3 m.name (Jy i tw) (pb m.name x.num (!(kept m.free x.num)) 21):=by
 rintro l f K hl ⟨h1,h3,h4,h5,h6,-⟩ hK;rw[Z0]at o5;rw[Zg]at o1;have hl2:=hm.len2;have hk:=z39 m.free (by simp only[maxLen];omega) x.num;simp only[Dz,Qv,h1,h5,o1,o5,eE,seval];refine aC hk ?_;simp only[Qv,h5,o5,eE,seval];exact QH (by decide) (by exact h3) rfl rfl rfl hl (hK _ (by simp only[Hd,Jy,QGN,h1,h3,h4,h5,h6,Qa,seval]))

include o5 hi hM hm in
theorem QB6:Jj DA fr 3 m.name (Jy i tw) (Xs m.name x.num x.notes 4):=by
 rintro l f K hl ⟨h1,h3,h4,h5,h6,-⟩ hK;have hx:=hm.items x (QF4 hi);have hln:=hx.len;rw[Z0]at o5;simp only[DA,Qv,h5,o5,eE,seval];exact JX (by simp only[maxLen];omega) (by simp only[maxLen];omega) hx.notes (by decide) (by exact h3) rfl rfl rfl (by decide) hl (hK _ (by simp only[Hd,Jy,QGN,h1,h3,h4,h5,h6,Qa,seval]))

include o1 o5 hi hM hm in
theorem QwV (F:Nat→Ob)(l:List PB)(hF:F=Q1 fr 3 1100 m.name l)(f:Fr)(hf:Hd f (Jy i false))(h7:f 7=.int .i64 0)(Q:Exit→St→Prop)
  (hq:∀f,Hd f (Jy i ((m.items.take i).any fun y=>y.name==x.name))→Q (.exit 2) ⟨f,[F],[]⟩):QK Tryz.prog (.loop Nq) ⟨f,[F],[]⟩ Q:=by
 let I:Nat→St→Prop:=fun n st=>∃f k,st=⟨f,[F],[]⟩∧n=i-k∧k≤i∧Hd f (Jy i ((m.items.take k).any fun y=>y.name==x.name))∧f 7=.int .i64 (k:Nat)
 have hil:i<m.items.length:=(QFS.1 hi).1;have hl1:=hm.len1;rw[Z0]at o5;rw[Zg]at o1;have p1:F 1=fr 1:=by rw[hF,Zz _ _ _ _ _ (by decide) (by decide)]
 have p5:F 5=fr 5:=by rw[hF,Zz _ _ _ _ _ (by decide) (by decide)]
 rw[o1]at p1;rw[o5]at p5;refine Qd I _ ⟨f,0,rfl,rfl,QFZ _,hf,h7⟩ ?_;clear hf h7;rintro _ st ⟨f,k,rfl,rfl,hk,hf,h7⟩;have hf':=hf;obtain⟨h1,h3,h4,h5,h6,-⟩:=hf';simp only[Nq,Mf,h4,h7,Qa,seval];by_cases hlt:k<i
 case neg=>
  have e:k=i:=by omega
  subst e;simp only[QG hlt,Qa,seval];exact hq _ (by simp only[Hd,Jy,QGN,h1,h3,h4,h5,h6,Qa,seval])
 obtain⟨y,hy⟩:∃y,m.items[k]? = some y:=⟨m.items[k]'(by omega),QFT (by omega)⟩;have hg:(m.items.map fun n=>AV.agg n.cells)[k]? = some (.agg y.cells):=by rw[QG5,hy];rfl
 rw[Z0]at hg;have e1:=Qo k _ hlt (by simp only[maxLen];omega);have ht:=Jx (q:=fun y:SI=>y.name==x.name) hy;simp only[QC hlt,Mg,Qi,QHa,Qc,hg,h1,h5,h7,p1,p5,QB,eE,seval];cases hp:(y.name==x.name)
 ·rw[hp,QHE]at ht;simp only[Dv,h7,e1,Qa,seval];exact⟨i-(k+1),by omega,_,k+1,rfl,rfl,by omega,by simp only[ht,Hd,Jy,QGN,h1,h3,h4,h5,h6,Qa,seval],(by rfl)⟩
 ·rw[hp,Bool.or_true]at ht;simp only[Dv,Mh,h7,e1,Qa,seval];exact⟨i-(k+1),by omega,_,k+1,rfl,rfl,by omega,by simp only[ht,Hd,Jy,QGN,h1,h3,h4,h5,Qa,seval],(by rfl)⟩
end

section
variable {M:Nat}(hM:M≤1048576)(m:SE)(hm:m.ok M)
include hM hm in
theorem Rk (l:List PB)(hl:l.length≤1000000)(f:Fr)(fr:Nat→Ob)(h1:f 1=.ptr 0 1 0)(h3:f 3=.ptr 0 3 0)(h4:f 4=.int .i64 0)(o1:fr 1=.cells m.cells)(o5:fr 5=.none)(Q:Exit→St→Prop)
  (hq:∀(f:Fr) (fr:Nat→Ob),f 1=.ptr 0 1 0→f 3=.ptr 0 3 0→fr 1=.cells m.cells→Q (.exit 0) ⟨f,[Q1 fr 3 1100 m.name (l++upto m.items (ZY m) m.items.length)],[]⟩) :
  QK Tryz.prog (.loop Ga) ⟨f,[Q1 fr 3 1100 m.name l],[]⟩ Q:=by
 let I:Nat→St→Prop:=fun n st=>∃f fr i,st=⟨f,[Q1 fr 3 1100 m.name (l++upto m.items (ZY m) i)],[]⟩∧n=m.items.length-i∧i≤m.items.length∧f 1=.ptr 0 1 0∧f 3=.ptr 0 3 0∧f 4=.int .i64 (i:Nat)∧fr 1=.cells m.cells∧(fr 5).isRow=false
 have hl1:=hm.len1;refine Qd I _ ⟨f,fr,0,by rw[upto,QGM],rfl,QFZ _,h1,h3,h4,o1,by rw[o5];rfl⟩ ?_;clear h1 h3 h4 o1 o5;rintro _ st ⟨f0,fr0,i,rfl,rfl,hi,h10,h30,h40,Xw,r5⟩;refine Qz (a:=_) [5] (by
  intro s hs;simp only[QG2,QHG,or_false]at hs;subst hs;rw[Zz _ _ _ _ _ (by decide) (by decide)];exact r5) ?_
 intro f fr hf hmm hn;have h1:f 1=.ptr 0 1 0:=by rw[hf,h10]<;>rfl
 have h3:f 3=.ptr 0 3 0:=by rw[hf,h30]<;>rfl
 have h4:f 4=.int .i64 (i:Nat):=by rw[hf,h40]<;>rfl
 have o1:fr 1=.cells m.cells:=by rw[hmm 1 (by decide),Zz _ _ _ _ _ (by decide) (by decide),Xw]<;>rfl
 have n5:=hn 5 (by decide);have q0:(l++upto m.items (ZY m) i).length≤100000000:=by
  have:=QP (l:=m.items) (K6 m) i;rw[QGs];omega
 have hfe:Q1 fr 3 1100 m.name (l++upto m.items (ZY m) i)=fr:=Hp _ _ _ _ _ (by rw[hmm 3 (by decide),Yh]<;>rfl) (by rw[hmm 1100 (by decide),Yi _ _ _ _ _ (by decide)]<;>rfl);clear hf hmm hn h10 h30 h40 Xw r5;have o1':=o1;rw[Zg]at o1';simp only[TX,QG7,h1,h4,o1',eE,seval];by_cases hlt:i<m.items.length
 case neg=>
  have ei:i=m.items.length:=by omega
  subst ei;simp only[QG hlt,Qa,seval];rw[←hfe];exact hq _ _ (by exact h1) (by exact h3) o1
 obtain⟨x,hx⟩:∃x,m.items[i]? = some x:=⟨m.items[i],QFT hlt⟩;have hg:(m.items.map fun n=>AV.agg n.cells)[i]? = some (.agg x.cells):=by rw[QG5,hx];rfl
 rw[Z0]at hg;have e1:=Qo i _ hlt (by simp only[maxLen];omega);simp only[QC hlt,n5,TY,TZ,Me,Qi,QHa,Qc,hg,h1,h4,o1',eE,seval];rw[←hfe,Hq _ _ _ _ _ (by decide) (by decide)];generalize hF:Qp fr 5 _=F;have p1:F 1=.cells m.cells:=by rw[←hF];exact(by exact o1)
 have p5:F 5=.cells x.cells:=by rw[←hF,Z0];exact(by rfl)
 clear hF hfe o1 o1' n5;refine QwV hM m hm i x hx F p1 p5 _ _ rfl _ (by simp only[Hd,Jy,QGN,h1,h3,h4,Qa,seval]) (by rfl) _ (fun f hf=>?_);clear h1 h3 h4;generalize hT:((m.items.take i).any fun y=>y.name==x.name)=tw at hf;simp only[Qa,seval];refine QB1 m i x tw F p5 _ f _ (by omega) hf (fun f hf=>?_);have q1:=Qu q0 m.name x.num (decide (x.num≥0)&&decide (x.num≤2147483647)) 6;simp only[Qa,seval];refine QB2 hM m hm i x hx tw F p1 p5 _ f _ (by omega) hf (fun f hf=>?_);have q2:=Qu q1 m.name x.num (JQ m.items SI.num i x) 11;simp only[Qa,seval];refine QB3 m i x tw F p5 _ f _ (by omega) hf (fun f hf=>?_);have q3:=Qu q2 m.name x.num (Xb x.name) 8;simp only[Qa,seval];refine QB4 m i x tw F p5 _ f _ (by omega) hf (fun f hf=>?_);have q4:=Qu q3 m.name x.num (!tw) 9;simp only[Qa,seval];refine QB5 hM m hm i x tw F p1 p5 _ f _ (by omega) hf (fun f hf=>?_);have q5:=Qu q4 m.name x.num (!(kept m.free x.num)) 21;simp only[Qa,seval];refine QB6 hM m hm i x hx tw F p5 _ f _ (by omega) hf (fun f hf=>?_);obtain⟨h1,h3,h4,h5,h6,-⟩:=hf;simp only[T0,h4,e1,Qa,seval];exact⟨m.items.length-(i+1),by omega,_,F,i+1,by rw[X1 hx];subst hT;unfold ZY;simp only[QGa]<;>rfl,rfl,by omega,(by exact h1),(by exact h3),(by rfl),p1,by rw[p5];rfl⟩

include hM hm in
theorem u22:Qs Tryz.prog 22 [XY m] (.list ((ZS m).map PB.av)):=by
 have hl1:=hm.len1;have hl2:=hm.len2;have hl3:=hm.len3;have hnl:=hm.name;refine k22.fn (by simp) ?_;simp only[r22,o22,TT,TU,XY,Zg m,eE,seval];refine Xn rfl rfl rfl rfl ?_;generalize hb:(Qp Qf 1 _:Nat→Ob)=base;have o1:base 1=.cells m.cells:=by rw[←hb,Zg];exact(by rfl)
 have o5:base 5=.none:=by rw[←hb];rfl
 clear hb;have o1s:=o1;rw[Zg]at o1s;rw[Gf base 3 1100 m.name _ (by decide)];simp only[TV,Qv,o1s,eE,seval];refine aC (u37 m.name) ?_;simp only[Qa,seval];refine QH (by decide) rfl rfl rfl rfl (by simp) ?_;rw[QHK,QGc];have q1:=QX m.name (-1) (Xp m.name) 8;generalize hL1:pb m.name (-1) (Xp m.name) 8=L1 at q1;have hbb:(decide (m.items.length≥1)&&decide (m.items.length≤64)&&decide (m.free.length≤16))=!(decide ((m.items.length:Int)<1)||decide ((m.items.length:Int) > 64)||decide ((m.free.length:Int) > 16)):=(by rw[QGE];simp only[QG4,QGG,QHB,QGd,QGD];omega);have q2:=Qu q1 m.name (-1) (decide (m.items.length≥1)&&decide (m.items.length≤64)&&decide (m.free.length≤16)) 3;generalize hL2:L1++pb m.name (-1) (decide (m.items.length≥1)&&decide (m.items.length≤64)&&decide (m.free.length≤16)) 3=L2 at q2;have q2b:=Qu q2 m.name (-1) (Zv m) 14;have key2:∀f:Fr,f 1=.ptr 0 1 0→f 3=.ptr 0 3 0→QK Tryz.prog (.seq (.seq (.reg H9) (.block 0 (.loop Ga))) (.seq (.reg UK) (.seq (.reg UL) (.seq (.reg UM) .ret))))
   ⟨f,[Q1 base 3 1100 m.name (L2++pb m.name (-1) (Zv m) 14)],[]⟩ (Zm [.tmp 2] 0 fun x _=>x=.list ((ZS m).map PB.av)):=by
  intro f h1 h3;simp only[H9,Qa,seval];refine Rk hM m hm _ (by omega) _ base (by exact h1) (by exact h3) (by rfl) o1 o5 _ (fun f fr h1 h3 o1=>?_);have o1s:=o1;rw[Zg]at o1s;have q3:=QP (l:=m.items) (K6 m) m.items.length;have q4:=QP (l:=m.free) (Jw m.name 0 2147483647 m.free) m.free.length;simp only[UK,Qv,h1,o1s,eE,seval];refine Qb (QoK fr 3 1100 m.name (by decide) rfl 0 2147483647 m.free (by omega) [] _ (by simp only[QGs]at q2b ⊢;omega)) (by simp only[QGn,QGK,h3,Qa,seval]<;>rfl) ?_;simp only[UL,Qv,h1,o1s,eE,seval];refine JX (by simp only[maxLen];omega) (by simp only[maxLen];omega) hm.notes (by decide) (by exact h3) rfl rfl rfl (by decide) (by simp only[QGs]at q2b ⊢;omega) ?_;generalize hL:_++Xs m.name (-1) m.notes 3=L;have hfin:ZS m=L:=by rw[←hL,←hL2,←hL1];rfl
  rw[hfin];simp only[UM,Qv,h3,QG7,QGw,KM,QGf,QFQ,QGN,QGT,AV.un,eE,seval]
 simp only[Qa,seval]at key2;have key:∀f:Fr,f 1=.ptr 0 1 0→f 3=.ptr 0 3 0→QK Tryz.prog (.seq (.reg H8) (.seq (.seq (.reg H9) (.block 0 (.loop Ga))) (.seq (.reg UK) (.seq (.reg UL) (.seq (.reg UM) .ret)))))
   ⟨f,[Q1 base 3 1100 m.name L2],[]⟩ (Zm [.tmp 2] 0 fun x _=>x=.list ((ZS m).map PB.av)):=by
  intro f h1 h3;cases hit:m.items with
  |nil=>
   have e0:Zv m=!false:=by unfold Zv;rw[hit];rfl
   have d0:decide ((m.items.length:Int) > 0)=false:=by rw[hit];rfl
   rw[e0]at key2;rw[hit]at d0;rw[hit]at o1s;simp only[H8,Qv,h1,o1s,eE,seval];refine QH (by decide) (by exact h3) rfl rfl rfl (by omega) ?_;simp only[Qa,seval];exact key2 _ (by exact h1) (by exact h3)
  |cons y l=>
   have e0:Zv m=!(y.num != 0):=by unfold Zv;rw[hit,bne,QHK]
   have d0:decide ((0:Int)<((l.length+1:Nat):Int))=true:=QHA (by omega);rw[e0]at key2;rw[hit]at o1s;have hg:((y :: l).map fun n=>AV.agg n.cells)[0]? = some (.agg y.cells):=rfl;rw[Z0]at hg;simp only[H8,Qv,QG7,Qc,hg,h1,o1s,d0,eE,seval];refine QH (by decide) (by exact h3) rfl rfl rfl (by omega) ?_;simp only[Qa,seval];exact key2 _ (by exact h1) (by exact h3)
 simp only[Qa,seval]at key;rw[hbb]at hL2;simp only[TW,Qv,QG7,o1s,eE,seval];cases c1:decide ((m.items.length:Int)<1)<;>cases c2:decide ((m.items.length:Int) > 64)<;>cases c3:decide ((m.free.length:Int) > 16) <;>
 ·rw[c1,c2,c3]at hL2;subst hL2;simp only[c2,c3,Qv,QG7,o1s,eE,seval];refine QH (by decide) rfl rfl rfl rfl (by omega) ?_;simp only[Qa,seval];exact key _ (by rfl) (by rfl)
end

def K8 (i:Nat):List (Nat×AV):=[(2,.ptr 0 2 0),(3,.ptr 0 3 0),(5,.ptr 0 5 0),(6,.int .i64 (i:Nat)),(7,.ptr 0 7 0)]
section
variable {M:Nat}(hM:M≤1048576)(S:SC)(hS:S.ok M)(m:SQ)(hm:m.ok M)(i:Nat)(x:SO)(hi:m.meths[i]? = some x)(fr:Nat→Ob)
 (o2:fr 2=.cells [.list (S.msgs.map fun n=>.agg n.cells),.list (S.enums.map fun n=>.agg n.cells),.list (S.servs.map fun n=>.agg n.cells)]) (o3:fr 3=.cells m.cells) (o7:fr 7=.cells x.cells)

include o7 in
theorem us8:Jj Nr fr 5 m.name (K8 i) (pb m.name (i:Int) (Xb x.name) 8):=by
 rintro l f K hl ⟨h2,h3,h5,h6,h7,-⟩ hK;rw[J9]at o7;rw[←QHK (Xb x.name)]at hK;simp only[Nr,Qv,h7,o7,eE,seval];refine aC (AE x.name) ?_;simp only[h6,Qa,seval];exact QH (by decide) (by exact h5) rfl rfl rfl hl (hK _ (by simp only[Hd,K8,QGN,h2,h3,h5,h6,h7,Qa,seval]))

include o3 o7 hi hM hm in
theorem us9:Jj Gb fr 5 m.name (K8 i) (pb m.name (i:Int) (HO m.meths i x) 11):=by
 rintro l f K hl ⟨h2,h3,h5,h6,h7,-⟩ hK;rw[J9]at o7;rw[J5]at o3;have hlt:i<m.meths.length:=(QFS.1 hi).1;have hl1:=hm.len1;cases i with
 |zero=>
  have d0:decide (((0:Nat):Int) > 0)=false:=rfl;simp only[Gb,h6,Qa,seval];exact QH (by decide) (by exact h5) rfl rfl rfl hl (hK _ (by simp only[Hd,K8,QGN,h2,h3,h5,h6,h7,Qa,seval]))
 |succ j=>
  obtain⟨y,hj⟩:∃y,m.meths[j]? = some y:=⟨m.meths[j]'(by omega),QFT (by omega)⟩;have hgj:(m.meths.map fun n=>AV.agg n.cells)[j]? = some (.agg y.cells):=by rw[QG5,hj];rfl
  rw[J9]at hgj;have wj:=JU j _ hlt (by simp only[maxLen];omega);have d0:decide (((j+1:Nat):Int) > 0)=true:=QHA (by omega);have hb:HO m.meths (j+1) x=!(!(Op.bytesLess y.name x.name)):=by rw[QHK];simp only[HO,hj]
  rw[hb]at hK;simp only[Gb,Qv,Qi,QHa,Qc,hgj,wj,NG,h3,h6,h7,o3,o7,d0,eE,seval];exact QH (by decide) (by exact h5) rfl rfl rfl hl (hK _ (by simp only[Hd,K8,QGN,h2,h3,h5,h6,h7,Qa,seval]))

include o2 o7 hM hS in
theorem QB7:Jj DB fr 5 m.name (K8 i) (pb m.name (i:Int) (QW S x.inn&&QW S x.out) 12):=by
 rintro l f K hl ⟨h2,h3,h5,h6,h7,-⟩ hK;obtain⟨l1,_,_⟩:=Zw S hS hM;rw[J9]at o7;have hc1:=AD S l1 x.inn;have hc2:=AD S l1 x.out;simp only[SC.av]at hc1 hc2;simp only[DB,Qv,h2,h7,o2,o7,eE,seval];refine aC hc1 ?_;simp only[MX,Qa,seval];cases a1:QW S x.inn
 ·rw[a1]at hK;simp only[QHd]at hK;simp only[h6,QGR,Qa,seval];exact QH (by decide) (by exact h5) rfl rfl rfl hl (hK _ (by simp only[Hd,K8,QGN,h2,h3,h5,h6,h7,Qa,seval]))
 ·rw[a1,QHp,←QHK (QW S x.out)]at hK;simp only[Qv,h2,h7,o2,o7,QHq,eE,seval];refine aC hc2 ?_;simp only[MX,h6,Qa,seval];exact QH (by decide) (by exact h5) rfl rfl rfl hl (hK _ (by simp only[Hd,K8,QGN,h2,h3,h5,h6,h7,Qa,seval]))

include o7 in
theorem QB8:Jj DC fr 5 m.name (K8 i) (pb m.name (i:Int) (decide (x.shape≥1)&&decide (x.shape≤4)) 1):=by
 rintro l f K hl ⟨h2,h3,h5,h6,h7,-⟩ hK;rw[J9]at o7;have hb:(decide (x.shape≥1)&&decide (x.shape≤4))=!(decide (x.shape<1)||decide (x.shape > 4)):=(by rw[QGE];simp only[QG4,QGG,QHB,QGd,QGD];omega);rw[hb]at hK;simp only[DC,Qv,h7,o7,eE,seval];cases c1:decide (x.shape<1)<;>cases c2:decide (x.shape > 4) <;>
 ·rw[c1,c2]at hK;simp only[c2,Qv,h6,h7,o7,eE,seval];exact QH (by decide) (by exact h5) rfl rfl rfl hl (hK _ (by simp only[Hd,K8,QGN,h2,h3,h5,h6,h7,Qa,seval]))

include o7 hi hM hm in
theorem QB9:Jj DD fr 5 m.name (K8 i) (Xs m.name (i:Int) x.notes 6):=by
 rintro l f K hl ⟨h2,h3,h5,h6,h7,-⟩ hK;have hx:=hm.meths x (QF4 hi);have hln:=hx.len;rw[J9]at o7;simp only[DD,Qv,h6,h7,o7,eE,seval];exact JX (by simp only[maxLen];omega) (by simp only[maxLen];omega) hx.notes (by decide) (by exact h5) rfl rfl rfl (by decide) hl (hK _ (by simp only[Hd,K8,QGN,h2,h3,h5,h6,h7,Qa,seval]))
end

section
variable {M:Nat}(hM:M≤1048576)(S:SC)(hS:S.ok M)(m:SQ)(hm:m.ok M)
include hM hS hm in
theorem Rl (l:List PB)(hl:l.length≤1000000)(f:Fr)(fr:Nat→Ob)(h2:f 2=.ptr 0 2 0)(h3:f 3=.ptr 0 3 0)(h5:f 5=.ptr 0 5 0)(h6:f 6=.int .i64 0)
  (o2:fr 2=.cells [.list (S.msgs.map fun n=>.agg n.cells),.list (S.enums.map fun n=>.agg n.cells),.list (S.servs.map fun n=>.agg n.cells)]) (o3:fr 3=.cells m.cells) (o7:fr 7=.none) (Q:Exit→St→Prop)
  (hq:∀(f:Fr) (fr:Nat→Ob),f 3=.ptr 0 3 0→f 5=.ptr 0 5 0→fr 3=.cells m.cells→Q (.exit 0) ⟨f,[Q1 fr 5 1100 m.name (l++upto m.meths (Jv S m) m.meths.length)],[]⟩) :
  QK Tryz.prog (.loop T9) ⟨f,[Q1 fr 5 1100 m.name l],[]⟩ Q:=by
 let I:Nat→St→Prop:=fun n st=>∃f fr i,st=⟨f,[Q1 fr 5 1100 m.name (l++upto m.meths (Jv S m) i)],[]⟩∧n=m.meths.length-i∧i≤m.meths.length∧f 2=.ptr 0 2 0∧f 3=.ptr 0 3 0∧f 5=.ptr 0 5 0∧f 6=.int .i64 (i:Nat)∧
  fr 2=.cells [.list (S.msgs.map fun n=>.agg n.cells),.list (S.enums.map fun n=>.agg n.cells),.list (S.servs.map fun n=>.agg n.cells)]∧fr 3=.cells m.cells∧(fr 7).isRow=false
 have hl1:=hm.len1;refine Qd I _ ⟨f,fr,0,by rw[upto,QGM],rfl,QFZ _,h2,h3,h5,h6,o2,o3,by rw[o7];rfl⟩ ?_;clear h2 h3 h5 h6 o2 o3 o7;rintro _ st ⟨f0,fr0,i,rfl,rfl,hi,h20,h30,h50,h60,ZG,X8,r7⟩;refine Qz (a:=_) [7] (by
  intro s hs;simp only[QG2,QHG,or_false]at hs;subst hs;rw[Zz _ _ _ _ _ (by decide) (by decide)];exact r7) ?_
 intro f fr hf hmm hn;have h2:f 2=.ptr 0 2 0:=by rw[hf,h20]<;>rfl
 have h3:f 3=.ptr 0 3 0:=by rw[hf,h30]<;>rfl
 have h5:f 5=.ptr 0 5 0:=by rw[hf,h50]<;>rfl
 have h6:f 6=.int .i64 (i:Nat):=by rw[hf,h60]<;>rfl
 have o2:fr 2=.cells [.list (S.msgs.map fun n=>.agg n.cells),.list (S.enums.map fun n=>.agg n.cells),.list (S.servs.map fun n=>.agg n.cells)]:=by rw[hmm 2 (by decide),Zz _ _ _ _ _ (by decide) (by decide),ZG]<;>rfl
 have o3:fr 3=.cells m.cells:=by rw[hmm 3 (by decide),Zz _ _ _ _ _ (by decide) (by decide),X8]<;>rfl
 have n7:=hn 7 (by decide);have q0:(l++upto m.meths (Jv S m) i).length≤100000000:=by
  have:=QP (l:=m.meths) (K7 S m) i;rw[QGs];omega
 have hfe:Q1 fr 5 1100 m.name (l++upto m.meths (Jv S m) i)=fr:=Hp _ _ _ _ _ (by rw[hmm 5 (by decide),Yh]<;>rfl) (by rw[hmm 1100 (by decide),Yi _ _ _ _ _ (by decide)]<;>rfl);clear hf hmm hn h20 h30 h50 h60 ZG X8 r7;have o3':=o3;rw[J5]at o3';simp only[T6,QG7,h3,h6,o3',eE,seval];by_cases hlt:i<m.meths.length
 case neg=>
  have ei:i=m.meths.length:=by omega
  subst ei;simp only[QG hlt,Qa,seval];rw[←hfe];exact hq _ _ (by exact h3) (by exact h5) o3
 obtain⟨x,hx⟩:∃x,m.meths[i]? = some x:=⟨m.meths[i],QFT hlt⟩;have hg:(m.meths.map fun n=>AV.agg n.cells)[i]? = some (.agg x.cells):=by rw[QG5,hx];rfl
 rw[J9]at hg;have e1:=Qo i _ hlt (by simp only[maxLen];omega);simp only[QC hlt,n7,T7,Qi,QHa,Qc,hg,h3,h6,o3',eE,seval];rw[←hfe,Hq _ _ _ _ _ (by decide) (by decide)];generalize hF:Qp fr 7 _=F;have p2:F 2=.cells [.list (S.msgs.map fun n=>.agg n.cells),.list (S.enums.map fun n=>.agg n.cells),.list (S.servs.map fun n=>.agg n.cells)]:=by rw[←hF];exact(by exact o2)
 have p3:F 3=.cells m.cells:=by rw[←hF];exact(by exact o3)
 have p7:F 7=.cells x.cells:=by rw[←hF,J9];exact(by rfl)
 clear hF hfe o2 o3 o3' n7;refine us8 m i x F p7 _ _ _ (by omega) (by simp only[Hd,K8,QGN,h2,h3,h5,h6,Qa,seval]) (fun f hf=>?_);clear h2 h3 h5 h6;have q1:=Qu q0 m.name (i:Int) (Xb x.name) 8;simp only[Qa,seval];refine us9 hM m hm i x hx F p3 p7 _ f _ (by omega) hf (fun f hf=>?_);have q2:=Qu q1 m.name (i:Int) (HO m.meths i x) 11;simp only[Qa,seval];refine QB7 hM S hS m i x F p2 p7 _ f _ (by omega) hf (fun f hf=>?_);have q3:=Qu q2 m.name (i:Int) (QW S x.inn&&QW S x.out) 12;simp only[Qa,seval];refine QB8 m i x F p7 _ f _ (by omega) hf (fun f hf=>?_);have q4:=Qu q3 m.name (i:Int) (decide (x.shape≥1)&&decide (x.shape≤4)) 1;simp only[Qa,seval];refine QB9 hM m hm i x hx F p7 _ f _ (by omega) hf (fun f hf=>?_);obtain⟨h2,h3,h5,h6,h7,-⟩:=hf;simp only[T8,h6,e1,Qa,seval];exact⟨m.meths.length-(i+1),by omega,_,F,i+1,by rw[X1 hx,MT];simp only[QGa]<;>rfl,rfl,by omega,(by exact h2),(by exact h3),(by exact h5),(by rfl),p2,p3,by rw[p7];rfl⟩

include hM hS hm in
theorem u23:Qs Tryz.prog 23 [S.av,KL m] (.list ((Z7 S m).map PB.av)):=by
 have hl1:=hm.len1;have hl2:=hm.len2;have hnl:=hm.name;refine k23.fn (by simp) ?_;simp only[r23,o23,T1,T2,SC.av,KL,J5 m,eE,seval];refine Xn rfl rfl rfl rfl ?_;generalize hb:(Qp (Qp Qf 2 _) 3 _:Nat→Ob)=base;have o2:base 2=.cells [.list (S.msgs.map fun n=>.agg n.cells),.list (S.enums.map fun n=>.agg n.cells),.list (S.servs.map fun n=>.agg n.cells)]:=by rw[←hb];exact(by rfl)
 have o3:base 3=.cells m.cells:=by rw[←hb,J5];exact(by rfl)
 have o7:base 7=.none:=by rw[←hb];rfl
 clear hb;have o3s:=o3;rw[J5]at o3s;rw[Gf base 5 1100 m.name _ (by decide)];simp only[T3,Qv,o3s,eE,seval];refine aC (u37 m.name) ?_;simp only[Qa,seval];refine QH (by decide) rfl rfl rfl rfl (by simp) ?_;rw[QHK,QGc];have q1:=QX m.name (-1) (Xp m.name) 8;have hbb:decide (m.meths.length≤64)=!decide ((m.meths.length:Int) > 64):=(by rw[QGE];simp only[QG4,QGG,QHB];omega);have q2:=Qu q1 m.name (-1) (decide (m.meths.length≤64)) 3;simp only[T4,Qv,QG7,o3s,eE,seval];refine QH (by decide) rfl rfl rfl rfl (by omega) ?_;rw[←hbb];simp only[T5,Qa,seval];refine Rl hM S hS m hm _ (by omega) _ base (by rfl) (by rfl) (by rfl) (by rfl) o2 o3 o7 _ (fun f fr h3 h5 o3=>?_);have o3s:=o3;rw[J5]at o3s;have q3:=QP (l:=m.meths) (K7 S m) m.meths.length;simp only[Mi,Qv,h3,o3s,eE,seval];refine JX (by simp only[maxLen];omega) (by simp only[maxLen];omega) hm.notes (by decide) (by exact h5) rfl rfl rfl (by decide) (by simp only[QGs]at q2 ⊢;omega) ?_;generalize hL:_++Xs m.name (-1) m.notes 5=L;have hfin:Z7 S m=L:=by rw[←hL];rfl
 rw[hfin];simp only[Mj,Qv,h5,QG7,QGw,KM,QGf,QFQ,QGN,QGT,AV.un,eE,seval]
end

theorem u18 (L:List (List UInt8))(hl:L.length≤maxLen):Qs Tryz.prog 18 [.list (L.map Qk)] (.bool (Xx L Op.bytesLess)):=by
 let I:Nat→St→Prop:=fun k st=>∃f i,st=⟨f,[Qf],[]⟩∧k=L.length-(i+1)∧Xd (WX L Op.bytesLess) (i+1)=true∧f 0=.list (L.map Qk)∧f 3=.int .i64 ((i+1:Nat):Int)
 refine k18.fn (by simp) ?_;simp only[Qa,seval];refine Qd I _ ⟨_,0,rfl,rfl,rfl,(by rfl),(by rfl)⟩ ?_;rintro _ st ⟨f,i,rfl,rfl,hx,h0,h3⟩;simp only[QG7,h0,h3,Qa,seval];by_cases hlt:i+1<L.length
 ·obtain⟨x,hi⟩:∃x,L[i]? = some x:=⟨L[i]'(by omega),QFT (by omega)⟩;obtain⟨y,hj⟩:∃y,L[i+1]? = some y:=⟨L[i+1],QFT hlt⟩;have hg:(L.map Qk)[i]? = some (.str x):=by simp[hi,Qk]
  have hh:(L.map Qk)[i+1]? = some (.str y):=by simp[hj,Qk]
  have e1:=Qo (i+1) _ hlt hl;have e2:=JU i _ hlt hl;simp only[QC hlt,e2,NG,Qi,QHa,Qc,hg,hh,h0,h3,eE,seval];have hs:Xd (WX L Op.bytesLess) (i+2)=Op.bytesLess x y:=by
   show(Xd (WX L Op.bytesLess) (i+1)&&WX L Op.bytesLess (i+1))=_;rw[hx,Je hi hj,QHp]
  cases hp:Op.bytesLess x y
  ·rw[hp]at hs;have hf:Xx L Op.bytesLess=false:=by
    rw[QHw];intro h';rw[QO.2 fun k hk=>QO.1 h' k (by omega)]at hs;cases hs
   simp only[hf,QGR,Qa,seval]
  ·rw[hp]at hs;simp only[h3,e1,QHq,Qa,seval];exact⟨L.length-(i+2),by omega,_,i+1,rfl,rfl,hs,(by exact h0),(by rfl)⟩
 ·have hf:Xx L Op.bytesLess=true:=QO.2 fun k hk=>QO.1 hx k (by omega)
  simp only[QG hlt,hf,Qa,seval]

theorem u19 (A B:List (List UInt8))(hA:A.length≤maxLen)(hB:B.length≤maxLen):Qs Tryz.prog 19 [.list (A.map Qk),.list (B.map Qk)] (.bool (A.any fun s=>B.contains s)):=by
 let I:Nat→St→Prop:=fun k st=>∃f i,st=⟨f,[Qf],[]⟩∧k=A.length-i∧i≤A.length∧(A.take i).any (fun s=>B.contains s)=false∧f 0=.list (A.map Qk)∧f 1=.list (B.map Qk)∧f 5=.int .i64 (i:Nat)
 refine k19.fn (by simp) ?_;simp only[Qa,seval];refine Qd I _ ⟨_,0,rfl,rfl,QFZ _,rfl,(by rfl),(by rfl),(by rfl)⟩ ?_;rintro _ st ⟨f,i,rfl,rfl,hil,hx,h0,h1,h5⟩;simp only[QG7,h0,h5,Qa,seval];by_cases hlt:i<A.length
 ·obtain⟨x,hi⟩:∃x,A[i]? = some x:=⟨A[i],QFT hlt⟩;have hg:(A.map Qk)[i]? = some (.str x):=by simp[hi,Qk]
  have e1:=Qo i _ hlt hA;have ht:=Jx (q:=fun s=>B.contains s) hi;rw[hx,QHs]at ht;simp only[QC hlt,Qi,QHa,Qc,hg,h0,h1,h5,eE,seval];refine aC (u35 B hB x) ?_;cases hp:B.contains x
  ·rw[hp]at ht;simp only[h5,e1,Qa,seval];exact⟨A.length-(i+1),by omega,_,i+1,rfl,rfl,by omega,ht,(by exact h0),(by exact h1),(by rfl)⟩
  ·have hr:(A.any fun s=>B.contains s)=true:=QHi.2 ⟨x,QF4 hi,hp⟩;simp only[hr,Qa,seval]
 ·have hr:(A.any fun s=>B.contains s)=false:=by rw[←hx,QGo (by omega)]
  simp only[QG hlt,hr,Qa,seval]

end Go.Proofs.YtnpajgoobomndaaGreatDoor.Va

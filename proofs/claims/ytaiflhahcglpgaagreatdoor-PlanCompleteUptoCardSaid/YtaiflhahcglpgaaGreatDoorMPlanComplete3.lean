/- Parts of the proof, in order. -/
import Derived.Test.YtaiflhahcglpgaaGreatDoorMPlanComplete2

set_option linter.unusedSimpArgs false
namespace Go.Proofs.YtaiflhahcglpgaaGreatDoor.Va
open Go Am Rc Bt Br Up So

structure PB where
 dfn:List UInt8
 num:Int
 err:Int
def PB.av (x:PB):AV:=.agg [.str x.dfn,.int .i64 x.num,.int .i64 x.err]
def pb (d:List UInt8)(n:Int)(ok:Bool)(e:Int):List PB:=bif ok then []else [⟨d,n,e⟩]
theorem Zc {d:List UInt8}{n:Int}{ok:Bool}{e:Int}:pb d n ok e=[]↔ok=true:=by
 cases ok<;>simp[pb]
def Xu (d:List UInt8)(n:Int)(l:List SN)(t:Int):List PB:=pb d n (XZ l t==0) (XZ l t)
def JU {α:Type}(l:List α)(num:α→Int)(i:Nat)(x:α):Bool:=match i with
 |0=>true
 |j+1=>match l[j]? with
  |none=>true
  |some y=>decide (num x > num y)
def Jx (S:SC)(m:SM)(i:Nat)(f:SF):List PB :=
 pb m.name f.num (decide (f.num≥1)&&decide (f.num≤65535)) 6++pb m.name f.num (JU m.fields SF.num i f) 11++pb m.name f.num (Q7 f.name) 8 ++
 pb m.name f.num (!((m.fields.take i).any fun x=>x.name==f.name)) 9++pb m.name f.num (!(kept m.free f.num) && !(m.gone.contains f.name)) 21 ++
 pb m.name f.num (Wv f) 1++pb m.name f.num (Ji S f) 12++pb m.name f.num (Z2 m i) 15++pb m.name f.num (KG S f) 1++Xu m.name f.num f.notes 2
def upto {α β:Type}(l:List α)(g:Nat→α→List β):Nat→List β
 |0=>[]
 |n+1=>upto l g n++(match l[n]? with
  |none=>[]
  |some x=>g n x)
def JQ (d:List UInt8)(lo hi:Int)(l:List PS)(i:Nat)(x:PS):List PB :=
 pb d (-1) (decide (x.lo≥lo)&&decide (x.hi≤hi)&&decide (x.lo≤x.hi)) 6++pb d (-1) (match i with
  |0=>true
  |j+1=>match l[j]? with
   |none=>true
   |some y=>decide (x.lo > y.hi)) 11
def Z6 (S:SC)(cy:SM→Bool)(m:SM):List PB :=
 pb m.name (-1) (Xe m.name) 8++pb m.name (-1) (decide (m.fields.length≤64)&&decide (m.free.length≤16)&&decide (m.gone.length≤16)) 3 ++
 upto m.fields (Jx S m) m.fields.length++upto m.free (JQ m.name 1 65535 m.free) m.free.length++upto m.gone (fun _ g=>pb m.name (-1) (ZR g) 7) m.gone.length ++
 Xu m.name (-1) m.notes 1++pb m.name (-1) (!cy m) 19
def Z7 (e:SE)(i:Nat)(x:SI):List PB :=
 pb e.name x.num (decide (x.num≥0)&&decide (x.num≤2147483647)) 6++pb e.name x.num (JU e.items SI.num i x) 11++pb e.name x.num (Q7 x.name) 8 ++
 pb e.name x.num (!((e.items.take i).any fun y=>y.name==x.name)) 9++pb e.name x.num (!(kept e.free x.num)) 21++Xu e.name x.num x.notes 4
def ZD (e:SE):Bool:=match e.items with
 | []=>true
 |x :: _=>x.num==0
def ZZ (e:SE):List PB :=
 pb e.name (-1) (Xe e.name) 8++pb e.name (-1) (decide (e.items.length≥1)&&decide (e.items.length≤64)&&decide (e.free.length≤16)) 3++pb e.name (-1) (ZD e) 14 ++
 upto e.items (Z7 e) e.items.length++upto e.free (JQ e.name 0 2147483647 e.free) e.free.length++Xu e.name (-1) e.notes 3
def Jy (S:SC)(v:SQ)(i:Nat)(x:SO):List PB :=
 pb v.name (i:Int) (Q7 x.name) 8++pb v.name (i:Int) (match i with
  |0=>true
  |j+1=>match v.meths[j]? with
   |none=>true
   |some y=>Op.bytesLess y.name x.name) 11++pb v.name (i:Int) (QZ S x.inn&&QZ S x.out) 12++pb v.name (i:Int) (decide (x.shape≥1)&&decide (x.shape≤4)) 1++Xu v.name (i:Int) x.notes 6
def Je (S:SC)(v:SQ):List PB :=
 pb v.name (-1) (Xe v.name) 8++pb v.name (-1) (decide (v.meths.length≤64)) 3++upto v.meths (Jy S v) v.meths.length++Xu v.name (-1) v.notes 5
def Z8 (l:List (List UInt8)):List PB:=pb [] (-1) (decide (l.length≤64)) 3++pb [] (-1) (Q8 l Op.bytesLess) 11
def KZ (S:SC)(cy:SM→Bool):List PB :=
 Z8 (S.msgs.map SM.name)++Z8 (S.enums.map SE.name)++Z8 (S.servs.map SQ.name)++pb [] (-1) (Js S) 9 ++
 S.msgs.flatMap (Z6 S cy)++S.enums.flatMap ZZ++S.servs.flatMap (Je S)

theorem Kw {α β:Type}{l:List α}{g:Nat→α→List β}{n:Nat}:upto l g n=[]↔∀i,i<n→∀x,l[i]? = some x→g i x=[]:=by
 induction n with
 |zero=>simp[upto]
 |succ n ih=>
  rw[upto,QHm,ih]
  constructor
  ·rintro⟨h1,h2⟩ i hi x hx;rcases QG4.1 hi with h|rfl
   ·exact h1 i h x hx
   ·rw[hx]at h2;exact h2
  ·intro h;refine⟨fun i hi=>h i (by omega),?_⟩;cases hx:l[n]? with
   |none=>rfl
   |some x=>exact h n (by omega) x hx
theorem Bg {S:SC}{m:SM}{i:Nat}{f:SF}(hf:m.fields[i]? = some f):Jx S m i f=[]↔WS S m i=true:=by
 cases i with
 |zero=>
  unfold WS;rw[hf];unfold Jx Xu JU;simp only[QHm,Zc,QFU,and_assoc]
 |succ j=>
  unfold WS;rw[hf];unfold Jx Xu JU;simp only[QHm,Zc,QFU,and_assoc];cases m.fields[j]?<;>exact Iff.rfl
theorem Bh {d:List UInt8}{lo hi:Int}{l:List PS}:upto l (JQ d lo hi l) l.length=[]↔Ha lo hi l=true:=by
 rw[Kw];unfold Ha;rw[QFU,QFK];unfold Q8;rw[Qq]
 constructor
 ·intro h;refine⟨fun x hx=>?_,fun i hi=>?_⟩
  ·obtain⟨i,hi⟩:=QFJ.1 hx;have:=h i (QFz.1 hi).1 x hi;unfold JQ at this;simp only[QHm,Zc]at this;exact this.1
  ·cases i with
   |zero=>rfl
   |succ k=>
    have h1:l[k]? = some (l[k]'(by omega)):=QFA (by omega);have h2:l[k+1]? = some l[k+1]:=QFA hi;have:=h (k+1) hi _ h2;unfold JQ at this;simp only[QHm,Zc]at this;have:=this.2;rw[h1]at this;rw[Zj h1 h2];exact this
 ·rintro⟨h1,h2⟩ i hi x hx;unfold JQ;simp only[QHm,Zc];refine⟨h1 x (QFL hx),?_⟩;cases i with
  |zero=>rfl
  |succ k=>
   have h3:l[k]? = some (l[k]'(by omega)):=QFA (by omega);have:=h2 (k+1) hi;rw[Zj h3 hx]at this;dsimp only;rw[h3];exact this
theorem Bi {S:SC}{cy:SM→Bool}{m:SM}(hc:cy m=UA S m):Z6 S cy m=[]↔Hb S m=true:=by
 have h1:upto m.fields (Jx S m) m.fields.length=[]↔QH (WS S m) m.fields.length=true:=by
  rw[Kw,Qq]
  constructor
  ·intro h i hi;have hx:m.fields[i]? = some m.fields[i]:=QFA hi;exact(Bg hx).1 (h i hi _ hx)
  ·intro h i hi x hx;exact(Bg hx).2 (h i hi)
 have h2:upto m.gone (fun _ g=>pb m.name (-1) (ZR g) 7) m.gone.length=[]↔m.gone.all ZR=true:=by
  rw[Kw,QFK]
  constructor
  ·intro h x hx;obtain⟨i,hi⟩:=QFJ.1 hx;exact Zc.1 (h i (QFz.1 hi).1 x hi)
  ·intro h i hi x hx;exact Zc.2 (h x (QFL hx))
 unfold Z6 Hb Xu;rw[hc];simp only[QHm,Zc,h1,h2,Bh,QFU,and_assoc]
theorem Bj {e:SE}:ZZ e=[]↔Hc e=true:=by
 have h1:(ZD e=true∧upto e.items (Z7 e) e.items.length=[])↔QH (WT e) e.items.length=true:=by
  rw[Kw,Qq];have key:∀i x,e.items[i]? = some x→i≠0→(Z7 e i x=[]↔WT e i=true):=by
   intro i x hx h0;obtain⟨j,rfl⟩:∃j,i=j+1:=⟨i-1,by omega⟩;unfold WT;rw[hx];unfold Z7 Xu JU;simp only[QHm,Zc,QFU,and_assoc];cases e.items[j]?<;>exact Iff.rfl
  have key0:∀x,e.items[0]? = some x→((ZD e=true∧Z7 e 0 x=[])↔WT e 0=true):=by
   intro x hx;have hf:ZD e=(x.num==0):=by
    unfold ZD;cases hi:e.items with
    |nil=>rw[hi]at hx;cases hx
    |cons y l=>rw[hi]at hx;cases hx;rfl
   unfold WT;rw[hx,hf];unfold Z7 Xu JU;simp only[QHm,Zc,QFU,and_assoc,true_and]
   constructor
   ·rintro⟨a,b,c,f,g,h,i⟩;exact⟨b,c,a,f,g,h,i⟩
   ·rintro⟨b,c,a,f,g,h,i⟩;exact⟨a,b,c,f,g,h,i⟩
  constructor
  ·rintro⟨hf,h⟩ i hi;have hx:e.items[i]? = some e.items[i]:=QFA hi;by_cases h0:i=0
   ·subst h0;exact(key0 _ hx).1 ⟨hf,h 0 hi _ hx⟩
   ·exact(key i _ hx h0).1 (h i hi _ hx)
  ·intro h;refine⟨?_,fun i hi x hx=>?_⟩
   ·cases hi:e.items with
    |nil=>unfold ZD;rw[hi]
    |cons y l=>
     have hl:0<e.items.length:=by rw[hi];simp
     exact((key0 y (by rw[hi];rfl)).2 (h 0 hl)).1
   ·by_cases h0:i=0
    ·subst h0;exact((key0 x hx).2 (h 0 hi)).2
    ·exact(key i x hx h0).2 (h i hi)
 unfold ZZ Hc Xu;simp only[QHm,Zc,Bh,QFU,and_assoc]
 constructor
 ·rintro⟨a,b,c,d,f,g,h,i⟩;exact⟨a,b,c,d,h1.1 ⟨f,g⟩,h,i⟩
 ·rintro⟨a,b,c,d,f,h,i⟩;exact⟨a,b,c,d,(h1.2 f).1,(h1.2 f).2,h,i⟩
theorem Bk {S:SC}{v:SQ}:Je S v=[]↔Pr S v=true:=by
 have h1:upto v.meths (Jy S v) v.meths.length=[]↔QH (Nf S v) v.meths.length=true:=by
  rw[Kw,Qq];have key:∀i x,v.meths[i]? = some x→(Jy S v i x=[]↔Nf S v i=true):=by
   intro i x hx;unfold Nf;rw[hx];unfold Jy Xu;simp only[QHm,Zc,QFU,and_assoc]<;>exact Iff.rfl
  constructor
  ·intro h i hi;have hx:v.meths[i]? = some v.meths[i]:=QFA hi;exact(key i _ hx).1 (h i hi _ hx)
  ·intro h i hi x hx;exact(key i x hx).2 (h i hi)
 unfold Je Pr Xu;simp only[QHm,Zc,h1,QFU,and_assoc]
theorem flatMap_nil {α β:Type}{l:List α}{g:α→List β}:l.flatMap g=[]↔∀x∈l,g x=[]:=List.flatMap_eq_nil_iff

theorem EM {l:List (List UInt8)}:Z8 l=[]↔(decide (l.length≤64)=true∧Q8 l Op.bytesLess=true):=by
 unfold Z8;simp only[QHm,Zc]
theorem Bl {S:SC}{cy:SM→Bool}(h:Sy S→∀m∈S.msgs,cy m=UA S m):KZ S cy=[]↔Z3 S=true:=by
 have e1:Q8 (S.msgs.map SM.name) Op.bytesLess=Q8 S.msgs (ZP SM.name):=J1 ..;have e2:Q8 (S.enums.map SE.name) Op.bytesLess=Q8 S.enums (ZP SE.name):=J1 ..;have e3:Q8 (S.servs.map SQ.name) Op.bytesLess=Q8 S.servs (ZP SQ.name):=J1 ..;unfold KZ Z3 Pt Ps;simp only[QHm,EM,Zc,flatMap_nil,QFU,QFK,QGK,e1,e2,e3]
 constructor
 ·rintro⟨⟨⟨⟨⟨⟨⟨a1,a2⟩,b1,b2⟩,c1,c2⟩,d⟩,f⟩,g⟩,i⟩;have hD:=Hh a2;exact⟨⟨⟨⟨⟨⟨⟨a1,b1⟩,c1⟩,⟨a2,b2⟩,c2⟩,d⟩,fun m hm=>(Bi (h hD m hm)).1 (f m hm)⟩,fun e he=>Bj.1 (g e he)⟩,fun v hv=>Bk.1 (i v hv)⟩
 ·rintro⟨⟨⟨⟨⟨⟨⟨a1,b1⟩,c1⟩,⟨a2,b2⟩,c2⟩,d⟩,f⟩,g⟩,i⟩;have hD:=Hh a2;exact⟨⟨⟨⟨⟨⟨⟨a1,a2⟩,b1,b2⟩,c1,c2⟩,d⟩,fun m hm=>(Bi (h hD m hm)).2 (f m hm)⟩,fun e he=>Bj.2 (g e he)⟩,fun v hv=>Bk.2 (i v hv)⟩
theorem EN {S:SC}:KZ S (UA S)=[]↔Z3 S=true:=Bl fun _ _ _=>rfl
theorem EO {S:SC}:KZ S (fun m=>Xc S (QL S) m)=[]↔Z3 S=true:=Bl fun hD m _=>(C3 hD m).symm

def QW (x:SM):AV:=.agg x.cells
def XM (x:SE):AV:=.agg x.cells
def Xv (x:SF):AV:=.agg x.cells
def ZK (x:SI):AV:=.agg x.cells
def UB (x:SN):AV:=.agg x.cells
theorem QG (x:SF):x.cells=[.int .i64 x.num,.str x.name,.int .i64 x.card,.int .i64 x.key,.int .i64 x.kind,.str x.tname,.str x.union,.bool x.hasd,.int .i64 x.dflt.kd,.int .u64 (x.dflt.bits:Nat),.str x.dflt.text,.list (x.dflt.list.map V.av),.list (x.dflt.pairs.map V.pav),.list (x.dflt.slots.map V.sav),.list (x.dflt.raws.map R.av),.list (x.notes.map fun n=>.agg n.cells)]:=by
 rw[SF.cells,V.eta];rfl
theorem Wm {α:Type}(p:α→Bool):∀l:List α,l.any p=(l.find? p).isSome
 | []=>rfl
 |x :: l=>by
  rw[List.any_cons,List.find?_cons,Wm p l];cases p x<;>rfl

section
variable (L:List SM)(hl:L.length≤maxLen)(p:SM→Bool)(c:Nat)(cs:List AV)(m:Ql)

def JsM (k:Nat)(st:St):Prop :=
 ∃f i,st=⟨f,Qc :: m,[]⟩∧k=L.length-i∧QM p L 0=QM p (L.drop i) i∧f 0=.list (L.map QW)∧f 1=.fn (.func c) [] (AV.shL cs)∧f 7=.int .i64 (L.length:Nat)∧f 8=.int .i64 (i:Nat)

include hl in
theorem Qmg (hc:∀o∈L,Qf Tryz.prog c (QW o :: AV.shL cs) (Qc :: m) fun y m1=>y=.bool (p o)∧m1=Qc :: m) :
  Qf Tryz.prog 105 [.list (L.map QW),.fn (.func c) [] cs] m fun y m1=>y=.int .i64 (QM p L 0)∧m1=m:=by
 refine Qaj.go (by simp) ?_;simp only[QGK,Qa,seval];refine Qg (JsM L p c cs m) _ ⟨_,0,rfl,rfl,rfl,(by rfl),(by rfl),(by rfl),(by rfl)⟩ ?_;rintro _ st ⟨f,i,rfl,rfl,hx,h0,h1,h7,h8⟩;simp only[h7,h8,Qa,seval];by_cases hlt:i<L.length
 ·obtain⟨x,hi⟩:∃x,L[i]? = some x:=⟨L[i],QFA hlt⟩;have hcl:=hc x (QFL hi);have hg:(L.map QW)[i]? = some (QW x):=by simp[hi]
  have e1:=Qn i _ hlt hl;simp only[QW,SM.cells]at hcl;simp only[Qz hlt,Qj,QGM,Qe,hg,QW,SM.cells,h0,h1,h8,eE,seval];refine Xb (fa:=[]) (fb:=AV.shL cs) (by rfl) hcl (by simp only[QF3,QGo,QFT,QFS,Qa,seval]) ?_;rw[Xj p hi]at hx;cases hp:p x
  ·rw[hp]at hx;simp only[QFQ,if_false]at hx;simp only[h8,e1,Qa,seval];exact⟨L.length-(i+1),by omega,_,i+1,rfl,rfl,hx,(by exact h0),(by exact h1),(by exact h7),(by rfl)⟩
  ·rw[hp]at hx;simp only[if_true]at hx;simp only[hx,Qa,seval]
 ·have hx':QM p L 0 = -1:=by rw[hx,QF6 (by omega)];rfl
  simp only[QB hlt,hx',Qa,seval]

end

section
variable (L:List SE)(hl:L.length≤maxLen)(p:SE→Bool)(c:Nat)(cs:List AV)(m:Ql)

def JsE (k:Nat)(st:St):Prop :=
 ∃f i,st=⟨f,Qc :: m,[]⟩∧k=L.length-i∧QM p L 0=QM p (L.drop i) i∧f 0=.list (L.map XM)∧f 1=.fn (.func c) [] (AV.shL cs)∧f 7=.int .i64 (L.length:Nat)∧f 8=.int .i64 (i:Nat)

include hl in
theorem Qmh (hc:∀o∈L,Qf Tryz.prog c (XM o :: AV.shL cs) (Qc :: m) fun y m1=>y=.bool (p o)∧m1=Qc :: m) :
  Qf Tryz.prog 107 [.list (L.map XM),.fn (.func c) [] cs] m fun y m1=>y=.int .i64 (QM p L 0)∧m1=m:=by
 refine Qfd.go (by simp) ?_;simp only[QGK,Qa,seval];refine Qg (JsE L p c cs m) _ ⟨_,0,rfl,rfl,rfl,(by rfl),(by rfl),(by rfl),(by rfl)⟩ ?_;rintro _ st ⟨f,i,rfl,rfl,hx,h0,h1,h7,h8⟩;simp only[h7,h8,Qa,seval];by_cases hlt:i<L.length
 ·obtain⟨x,hi⟩:∃x,L[i]? = some x:=⟨L[i],QFA hlt⟩;have hcl:=hc x (QFL hi);have hg:(L.map XM)[i]? = some (XM x):=by simp[hi]
  have e1:=Qn i _ hlt hl;simp only[XM,SE.cells]at hcl;simp only[Qz hlt,Qj,QGM,Qe,hg,XM,SE.cells,h0,h1,h8,eE,seval];refine Xb (fa:=[]) (fb:=AV.shL cs) (by rfl) hcl (by simp only[QF3,QGo,QFT,QFS,Qa,seval]) ?_;rw[Xj p hi]at hx;cases hp:p x
  ·rw[hp]at hx;simp only[QFQ,if_false]at hx;simp only[h8,e1,Qa,seval];exact⟨L.length-(i+1),by omega,_,i+1,rfl,rfl,hx,(by exact h0),(by exact h1),(by exact h7),(by rfl)⟩
  ·rw[hp]at hx;simp only[if_true]at hx;simp only[hx,Qa,seval]
 ·have hx':QM p L 0 = -1:=by rw[hx,QF6 (by omega)];rfl
  simp only[QB hlt,hx',Qa,seval]

end

section
variable (L:List SF)(hl:L.length≤maxLen)(p:SF→Bool)(c:Nat)(cs:List AV)(m:Ql)

def JsF (k:Nat)(st:St):Prop :=
 ∃f i,st=⟨f,Qc :: m,[]⟩∧k=L.length-i∧QM p L 0=QM p (L.drop i) i∧f 0=.list (L.map Xv)∧f 1=.fn (.func c) [] (AV.shL cs)∧f 7=.int .i64 (L.length:Nat)∧f 8=.int .i64 (i:Nat)

include hl in
theorem Qy9 (hc:∀o∈L,Qf Tryz.prog c (Xv o :: AV.shL cs) (Qc :: m) fun y m1=>y=.bool (p o)∧m1=Qc :: m) :
  Qf Tryz.prog 240 [.list (L.map Xv),.fn (.func c) [] cs] m fun y m1=>y=.int .i64 (QM p L 0)∧m1=m:=by
 refine QeG.go (by simp) ?_;simp only[QGK,Qa,seval];refine Qg (JsF L p c cs m) _ ⟨_,0,rfl,rfl,rfl,(by rfl),(by rfl),(by rfl),(by rfl)⟩ ?_;rintro _ st ⟨f,i,rfl,rfl,hx,h0,h1,h7,h8⟩;simp only[h7,h8,Qa,seval];by_cases hlt:i<L.length
 ·obtain⟨x,hi⟩:∃x,L[i]? = some x:=⟨L[i],QFA hlt⟩;have hcl:=hc x (QFL hi);have hg:(L.map Xv)[i]? = some (Xv x):=by simp[hi]
  have e1:=Qn i _ hlt hl;simp only[Xv,QG]at hcl;simp only[Qz hlt,Qj,QGM,Qe,hg,Xv,QG,h0,h1,h8,eE,seval];refine Xb (fa:=[]) (fb:=AV.shL cs) (by rfl) hcl (by simp only[QF3,QGo,QFT,QFS,Qa,seval]) ?_;rw[Xj p hi]at hx;cases hp:p x
  ·rw[hp]at hx;simp only[QFQ,if_false]at hx;simp only[h8,e1,Qa,seval];exact⟨L.length-(i+1),by omega,_,i+1,rfl,rfl,hx,(by exact h0),(by exact h1),(by exact h7),(by rfl)⟩
  ·rw[hp]at hx;simp only[if_true]at hx;simp only[hx,Qa,seval]
 ·have hx':QM p L 0 = -1:=by rw[hx,QF6 (by omega)];rfl
  simp only[QB hlt,hx',Qa,seval]

include hl in
theorem Pz (hc:∀o∈L,Qf Tryz.prog c (Xv o :: AV.shL (AV.shL cs)) (Qc :: Qc :: m) fun y m1=>y=.bool (p o)∧m1=Qc :: Qc :: m) :
  Qf Tryz.prog 219 [.list (L.map Xv),.fn (.func c) [] cs] m fun y m1=>y=.bool (L.any p)∧m1=m:=by
 refine QdM.go (by simp) ?_;simp only[Qa,seval];refine Qb (Qy9 L hl p c (AV.shL cs) _ hc) (by simp only[QF3,QGo,Qa,seval]<;>rfl) ?_;simp only[Zs,Qa,seval]

end

section
variable (L:List SI)(hl:L.length≤maxLen)(p:SI→Bool)(c:Nat)(cs:List AV)(m:Ql)

def JsI (k:Nat)(st:St):Prop :=
 ∃f i,st=⟨f,Qc :: m,[]⟩∧k=L.length-i∧QM p L 0=QM p (L.drop i) i∧f 0=.list (L.map ZK)∧f 1=.fn (.func c) [] (AV.shL cs)∧f 7=.int .i64 (L.length:Nat)∧f 8=.int .i64 (i:Nat)

include hl in
theorem Qza (hc:∀o∈L,Qf Tryz.prog c (ZK o :: AV.shL cs) (Qc :: m) fun y m1=>y=.bool (p o)∧m1=Qc :: m) :
  Qf Tryz.prog 182 [.list (L.map ZK),.fn (.func c) [] cs] m fun y m1=>y=.int .i64 (QM p L 0)∧m1=m:=by
 refine Qjq.go (by simp) ?_;simp only[QGK,Qa,seval];refine Qg (JsI L p c cs m) _ ⟨_,0,rfl,rfl,rfl,(by rfl),(by rfl),(by rfl),(by rfl)⟩ ?_;rintro _ st ⟨f,i,rfl,rfl,hx,h0,h1,h7,h8⟩;simp only[h7,h8,Qa,seval];by_cases hlt:i<L.length
 ·obtain⟨x,hi⟩:∃x,L[i]? = some x:=⟨L[i],QFA hlt⟩;have hcl:=hc x (QFL hi);have hg:(L.map ZK)[i]? = some (ZK x):=by simp[hi]
  have e1:=Qn i _ hlt hl;simp only[ZK,SI.cells]at hcl;simp only[Qz hlt,Qj,QGM,Qe,hg,ZK,SI.cells,h0,h1,h8,eE,seval];refine Xb (fa:=[]) (fb:=AV.shL cs) (by rfl) hcl (by simp only[QF3,QGo,QFT,QFS,Qa,seval]) ?_;rw[Xj p hi]at hx;cases hp:p x
  ·rw[hp]at hx;simp only[QFQ,if_false]at hx;simp only[h8,e1,Qa,seval];exact⟨L.length-(i+1),by omega,_,i+1,rfl,rfl,hx,(by exact h0),(by exact h1),(by exact h7),(by rfl)⟩
  ·rw[hp]at hx;simp only[if_true]at hx;simp only[hx,Qa,seval]
 ·have hx':QM p L 0 = -1:=by rw[hx,QF6 (by omega)];rfl
  simp only[QB hlt,hx',Qa,seval]

include hl in
theorem Qmi (hc:∀o∈L,Qf Tryz.prog c (ZK o :: AV.shL (AV.shL cs)) (Qc :: Qc :: m) fun y m1=>y=.bool (p o)∧m1=Qc :: Qc :: m) :
  Qf Tryz.prog 138 [.list (L.map ZK),.fn (.func c) [] cs] m fun y m1=>y=.bool (L.any p)∧m1=m:=by
 refine QgT.go (by simp) ?_;simp only[Qa,seval];refine Qb (Qza L hl p c (AV.shL cs) _ hc) (by simp only[QF3,QGo,Qa,seval]<;>rfl) ?_;simp only[Zs,Qa,seval]

end

section
variable (L:List SN)(hl:L.length≤maxLen)(p:SN→Bool)(c:Nat)(cs:List AV)(m:Ql)

def JsN (k:Nat)(st:St):Prop :=
 ∃f i,st=⟨f,Qc :: m,[]⟩∧k=L.length-i∧QM p L 0=QM p (L.drop i) i∧f 0=.list (L.map UB)∧f 1=.fn (.func c) [] (AV.shL cs)∧f 7=.int .i64 (L.length:Nat)∧f 8=.int .i64 (i:Nat)

include hl in
theorem Qzb (hc:∀o∈L,Qf Tryz.prog c (UB o :: AV.shL cs) (Qc :: m) fun y m1=>y=.bool (p o)∧m1=Qc :: m) :
  Qf Tryz.prog 159 [.list (L.map UB),.fn (.func c) [] cs] m fun y m1=>y=.int .i64 (QM p L 0)∧m1=m:=by
 refine QbC.go (by simp) ?_;simp only[QGK,Qa,seval];refine Qg (JsN L p c cs m) _ ⟨_,0,rfl,rfl,rfl,(by rfl),(by rfl),(by rfl),(by rfl)⟩ ?_;rintro _ st ⟨f,i,rfl,rfl,hx,h0,h1,h7,h8⟩;simp only[h7,h8,Qa,seval];by_cases hlt:i<L.length
 ·obtain⟨x,hi⟩:∃x,L[i]? = some x:=⟨L[i],QFA hlt⟩;have hcl:=hc x (QFL hi);have hg:(L.map UB)[i]? = some (UB x):=by simp[hi]
  have e1:=Qn i _ hlt hl;simp only[UB,Ys]at hcl;simp only[Qz hlt,Qj,QGM,Qe,hg,UB,Ys,h0,h1,h8,eE,seval];refine Xb (fa:=[]) (fb:=AV.shL cs) (by rfl) hcl (by simp only[QF3,QGo,QFT,QFS,Qa,seval]) ?_;rw[Xj p hi]at hx;cases hp:p x
  ·rw[hp]at hx;simp only[QFQ,if_false]at hx;simp only[h8,e1,Qa,seval];exact⟨L.length-(i+1),by omega,_,i+1,rfl,rfl,hx,(by exact h0),(by exact h1),(by exact h7),(by rfl)⟩
  ·rw[hp]at hx;simp only[if_true]at hx;simp only[hx,Qa,seval]
 ·have hx':QM p L 0 = -1:=by rw[hx,QF6 (by omega)];rfl
  simp only[QB hlt,hx',Qa,seval]

end

theorem ZQ (n:Nat):(((n:Nat):Int)==0)=(n==0):=QGj.2 (by simp only[QFV];omega)
theorem EP (a b:Nat):(((a:Nat):Int) != ((b:Nat):Int))=!decide (a=b):=by
 show(!(((a:Nat):Int)==((b:Nat):Int)))=_;congr 1
 exact QGj.2 (by simp only[QFV,QGH];omega)
def C5:SM:=⟨[],[],[],[],[]⟩
def C6:SE:=⟨[],false,[],[],[]⟩

theorem Qzc (o:SM)(fr:Nat→Ob)(n:List UInt8)(hf:fr 3=.cells [.str n]):Qf Tryz.prog 188 [QW o,.ptr 1 3 0] [Qc,fr] fun y m1=>y=.bool (o.name==n)∧m1=[Qc,fr]:=by
 refine QbT.go (by simp) ?_;simp only[hf,QW,SM.cells,Qy,eE,seval]

theorem Hk (S:SC)(hl:S.msgs.length≤maxLen)(n:List UInt8):Qr Tryz.prog 148 [S.av,.str n] (.tup [QW ((S.msgs.find? fun m=>m.name==n).getD C5),.bool (QZ S n)]):=by
 have e:QZ S n=(S.msgs.find? fun m=>m.name==n).isSome:=Wm _ _;refine QaM.fn (by simp) ?_;simp only[SC.av,eE,seval];refine Qb (Qmg S.msgs hl (fun m=>m.name==n) 188 [.ptr 0 3 0] _ fun o _=>Qzc o _ n (by rfl)) (by simp only[QF3,QGo,Qa,seval]<;>rfl) ?_;rcases Xr (fun m:SM=>m.name==n) S.msgs 0 with⟨h1,h2⟩|⟨j,o,h1,h2,h3⟩
 ·simp only[h1,e,h2,QGR,QGh,C5,QW,SM.cells,QGo,eE,seval]
 ·have hj:(S.msgs.map fun o=>AV.agg o.cells)[j]? = some (.agg o.cells):=by simp[h2]
  have d:decide ((j:Int)<0)=false:=QHf (by omega);rw[QFW]at h1;simp only[SM.cells]at hj;simp only[h1,d,Qj,QGM,Qe,QFW,hj,e,h3,QGx,QHg,QW,SM.cells,eE,seval]

theorem Qzd (o:SE)(fr:Nat→Ob)(n:List UInt8)(hf:fr 3=.cells [.str n]):Qf Tryz.prog 241 [XM o,.ptr 1 3 0] [Qc,fr] fun y m1=>y=.bool (o.name==n)∧m1=[Qc,fr]:=by
 refine Qx3.go (by simp) ?_;simp only[hf,XM,SE.cells,Qy,eE,seval]

theorem Qmj (S:SC)(hl:S.enums.length≤maxLen)(n:List UInt8):Qr Tryz.prog 221 [S.av,.str n] (.tup [XM ((S.enums.find? fun m=>m.name==n).getD C6),.bool (U9 S n)]):=by
 have e:U9 S n=(S.enums.find? fun m=>m.name==n).isSome:=Wm _ _;refine Qxy.fn (by simp) ?_;simp only[SC.av,eE,seval];refine Qb (Qmh S.enums hl (fun m=>m.name==n) 241 [.ptr 0 3 0] _ fun o _=>Qzd o _ n (by rfl)) (by simp only[QF3,QGo,Qa,seval]<;>rfl) ?_;rcases Xr (fun m:SE=>m.name==n) S.enums 0 with⟨h1,h2⟩|⟨j,o,h1,h2,h3⟩
 ·simp only[h1,e,h2,QGR,QGh,C6,XM,SE.cells,QGo,eE,seval]
 ·have hj:(S.enums.map fun o=>AV.agg o.cells)[j]? = some (.agg o.cells):=by simp[h2]
  have d:decide ((j:Int)<0)=false:=QHf (by omega);rw[QFW]at h1;simp only[SE.cells]at hj;simp only[h1,d,Qj,QGM,Qe,QFW,hj,e,h3,QGx,QHg,XM,SE.cells,eE,seval]

theorem Qze (c k:Int):Qr Tryz.prog 191 [.int .i64 c,.int .i64 k] (.bool (DS c k)):=by
 refine Qcy.fn (by simp) ?_;unfold DS;by_cases h:c=5
 ·have d:(c != 5)=false:=by simp[h]
  rw[QFF h];simp only[d,Qa,seval];cases h1:decide (k≥1)<;>cases h2:decide (k≤7)<;>simp only[h2,QG0,QGP,Qa,seval]
 ·have d:(c != 5)=true:=by simp[h]
  rw[QFE h];simp only[d,Qa,seval]

section
variable {M:Nat}(S:SC)(hS:S.ok M)(hM:M≤1048576)(x:SF)(hx:x.ok M)
include hS hM in
theorem Zn:S.msgs.length≤maxLen∧S.enums.length≤maxLen∧S.servs.length≤maxLen:=by
 have a:=hS.len1;have b:=hS.len2;have c:=hS.len3;simp only[maxLen];omega

include hS hM in
theorem Qzf:Qr Tryz.prog 192 [S.av,Xv x] (.bool (Ji S x)):=by
 obtain⟨l1,l2,_⟩:=Zn S hS hM;have hm:=Hk S l1 x.tname;have he:=Qmj S l2 x.tname;simp only[QW,SM.cells,SC.av]at hm;simp only[XM,SE.cells,SC.av]at he;refine QcL.fn (by simp) ?_;unfold Ji;simp only[SC.av,Xv,QG,eE,seval];by_cases h1:x.kind≥1
 ·have d1:decide (x.kind≥1)=true:=QHa h1;by_cases h2:x.kind≤8
  ·have d2:decide (x.kind≤8)=true:=QHa h2;rw[QFF ⟨h1,h2⟩];simp only[d1,d2,Qy,eE,seval]
  ·have d2:decide (x.kind≤8)=false:=QHf h2;rw[QFE fun h=>h2 h.2];by_cases h3:x.kind=9
   ·have d3:(x.kind==9)=true:=by simp[h3]
    rw[QFF h3];simp only[d1,d2,d3,eE,seval];refine aC he ?_;simp only[eE,seval]
   ·have d3:(x.kind==9)=false:=by simp[h3]
    rw[QFE h3];by_cases h4:x.kind=10
    ·have d4:(x.kind==10)=true:=by simp[h4]
     rw[QFF h4];simp only[d1,d2,d3,d4,eE,seval];refine aC hm ?_;cases QZ S x.tname<;>simp only[QG0,QGP,eE,seval]
    ·have d4:(x.kind==10)=false:=by simp[h4]
     rw[QFE h4];simp only[d1,d2,d3,d4,eE,seval]
 ·have d1:decide (x.kind≥1)=false:=QHf h1;have d3:(x.kind==9)=false:=by rw[QHc];omega
  have d4:(x.kind==10)=false:=by rw[QHc];omega
  rw[QFE fun h=>h1 h.1,QFE (by omega),QFE (by omega)];simp only[d1,d3,d4,eE,seval]

theorem Qzg (v:V)(hv:v.ok M):Qr Tryz.prog 224 [v.av] (.bool v.zro):=by
 have n1:=hv.nl;have n2:=hv.np;have n3:=hv.ns;have n4:=hv.nr;have w:IntKind.i64.wrap (IntKind.i64.wrap (IntKind.i64.wrap ((v.list.length:Int)+(v.pairs.length:Int))+(v.slots.length:Int))+(v.raws.length:Int))=(v.list.length+v.pairs.length+v.slots.length+v.raws.length:Nat):=by
  simp only[ZO];omega
 have eb:(((v.bits:Nat):Int)==0)=(v.bits==0):=ZQ _;have es:(((v.list.length+v.pairs.length+v.slots.length+v.raws.length:Nat):Int)==0)=(v.list.length+v.pairs.length+v.slots.length+v.raws.length==0):=ZQ _;refine QdR.fn (by simp) ?_;unfold V.zro V.av;rw[V.eta];simp only[eE,seval];cases h1:(v.kd==0)
 ·simp only[QGP,Qa,seval]
 cases h2:(v.bits==0)
 ·simp only[h2,eb,QGP,QG0,eE,seval]
 cases h3:(v.text==[])
 ·simp only[h2,h3,eb,Qy,QGP,QG0,eE,seval]
 simp only[h2,h3,eb,Qy,w,es,QGK,QG0,eE,seval]

theorem Qzh (o:SI)(fr:Nat→Ob)(hf:fr 3=.cells x.cells):Qf Tryz.prog 226 [ZK o,.ptr 2 3 0] [Qc,Qc,fr] fun y m1=>y=.bool (IntKind.u64.wrap o.num==(x.dflt.bits:Int))∧m1=[Qc,Qc,fr]:=by
 rw[QG]at hf;refine QxK.go (by simp) ?_;simp only[hf,ZK,SI.cells,eE,seval]

section
variable (k:Int)(b:Nat)(hb:b<18446744073709551616)(t:List UInt8)(l p s r:List AV)
include hb
theorem Qzi:Qr Tryz.prog 225 [vo k b t l p s r] (vo k (Zk k b) t l p s r):=by
 refine QxH.fn (by simp) ?_;simp only[vo,eE,seval];by_cases hk:k=6
 ·have b0:(k==6)=true:=by simp[hk]
  simp only[b0,eE,seval];refine aC (QyZ b hb) ?_;simp only[QlW,Qa,seval];by_cases hc:Uz b=0
  ·simp only[hc,Zk,hk,decide_true,QGr,eE,seval]
   try rfl
  ·simp only[hc,Zk,decide_false,and_false,eE,seval]
 ·have b0:(k==6)=false:=by simp[hk]
  simp only[b0,Zk,hk,false_and,eE,seval]
end

include hS hM hx in
theorem Qzj:Qr Tryz.prog 194 [S.av,Xv x] (.bool (KG S x)):=by
 obtain⟨l1,l2,_⟩:=Zn S hS hM;have he:=Qmj S l2 x.tname;have hv:=hx.dflt;have n1:=hv.nl;have n2:=hv.np;have n3:=hv.ns;have n4:=hv.nr;have hz:=Qzg x.dflt hv;have hb:x.dflt.bits<18446744073709551616:=by have:=Iq hv.bits;omega
 have hf:=Pq x.kind x.dflt.kd x.dflt.bits x.dflt.text (x.dflt.list.map V.av) (x.dflt.pairs.map V.pav) (x.dflt.slots.map V.sav) (x.dflt.raws.map R.av) (by simp;omega) (by simp;omega) (by simp;omega) (by simp;omega);have hn:=Qzi x.dflt.kd x.dflt.bits hb x.dflt.text (x.dflt.list.map V.av) (x.dflt.pairs.map V.pav) (x.dflt.slots.map V.sav) (x.dflt.raws.map R.av);have ef:x.dflt.fitk x.kind=XR x.kind x.dflt.kd x.dflt.bits x.dflt.text (x.dflt.list.map V.av) (x.dflt.pairs.map V.pav) (x.dflt.slots.map V.sav) (x.dflt.raws.map R.av):=rfl;have en:(((Zk x.dflt.kd x.dflt.bits:Nat):Int) != (x.dflt.bits:Nat))=!decide (Zk x.dflt.kd x.dflt.bits=x.dflt.bits):=EP _ _;simp only[V.av]at hz;rw[V.eta]at hz;simp only[vo]at hf hn;simp only[XM,SE.cells,SC.av]at he;refine Qc8.fn (by simp) ?_;unfold KG;rw[ef];simp only[SC.av,Xv,QG,eE,seval];cases hd:x.hasd
 ·rw[QFF rfl];simp only[eE,seval];refine aC hz ?_;simp only[Qa,seval]
 rw[QFE (by simp)];by_cases hc:x.card=2
 case neg=>
  have d1:(x.card != 2)=true:=by simp[hc]
  rw[QFE fun h=>hc h.1];simp only[d1,eE,seval]
 have d1:(x.card != 2)=false:=by simp[hc]
 by_cases hu:x.union=[]
 case neg=>
  have d2:(!(x.union==[]))=true:=by simp[hu]
  rw[QFE fun h=>hu h.2.1];simp only[d1,d2,Qy,eE,seval]
 have d2:(!(x.union==[]))=false:=by simp[hu]
 simp only[d1,d2,Qy,eE,seval];refine aC hf ?_;cases hfv:XR x.kind x.dflt.kd x.dflt.bits x.dflt.text (x.dflt.list.map V.av) (x.dflt.pairs.map V.pav) (x.dflt.slots.map V.sav) (x.dflt.raws.map R.av)
 ·rw[QFE fun h=>Bool.false_ne_true h.2.2.1];simp only[Qa,seval]
 simp only[eE,seval];refine aC hn ?_;by_cases hnb:Zk x.dflt.kd x.dflt.bits=x.dflt.bits
 case neg=>
  rw[QFE fun h=>hnb h.2.2];simp only[en,hnb,decide_false,QGv,eE,seval]
 rw[QFF ⟨hc,hu,hnb⟩];have en':(((Zk x.dflt.kd x.dflt.bits:Nat):Int) != (x.dflt.bits:Nat))=false:=by rw[en,QHa hnb];rfl
 by_cases h9:x.kind=9
 case neg=>
  have d9:(x.kind != 9)=true:=by simp[h9]
  rw[QFE h9];simp only[en',d9,eE,seval]
 have d9:(x.kind != 9)=false:=by simp[h9]
 rw[QFF h9];simp only[en',d9,eE,seval];refine aC he ?_;have eh:U9 S x.tname=(S.enums.find? fun e=>e.name==x.tname).isSome:=Wm _ _;cases hq:S.enums.find? fun e=>e.name==x.tname with
 |none=>
  rw[hq]at eh;simp only[eh,QGh,QGR,eE,seval]
 |some e=>
  rw[hq]at eh;have hem:=hS.enums e (QG8 hq);have hlm:=hem.len1;simp only[eh,QHg,QGx,eE,seval];refine Qb (Qmi e.items (by simp only[maxLen];omega) (fun it=>IntKind.u64.wrap it.num==(x.dflt.bits:Int)) 226 [.ptr 0 3 0] _ fun o _=>Qzh x o _ (by rw[QG,hd];exact(by rfl))) (by simp only[QF3,QGo,Qa,seval]<;>rfl) ?_;simp only[Qa,seval]

theorem Nh (s:List UInt8):Qr Tryz.prog 156 [.str s] (.bool (Q7 s)):=by
 refine Qbl.fn (by simp) ?_;simp only[Q7,Qa,seval];refine aC (Ph s) ?_;cases QY s
 ·simp only[QGP,Qa,seval]
 ·simp only[QG0,Qa,seval];refine aC (QlK s) ?_;simp only[Qa,seval]

theorem PA (s:List UInt8)(hs:s.length≤17592186044000):Qr Tryz.prog 151 [.str s] (.bool (Xe s)):=by
 have hl:=KD s;have hc:s.count 46≤s.length:=List.count_le_length;refine Qa4.fn (by simp) ?_;simp only[Xe,Qa,seval];refine aC (QlP s hs) ?_;cases hf:(decide (s.length≤120)&&(Qi s).all QY)
 ·simp only[QGP,Qa,seval]
 ·simp only[QG0,Qa,seval];refine aC (Pm s hs) ?_;simp only[Qa,seval];refine Qb (DK (Qi s) (by simp only[maxLen];omega) Zb 135 [] _ fun o _=>Sw o _) (by simp only[QF3,QGo,Qa,seval]<;>rfl) ?_;simp only[Qa,seval]
end

section
variable {M:Nat}(hM:M≤1048576)(m:SM)(hm:m.ok M)(i:Nat)(x:SF)(hi:m.fields[i]? = some x)

theorem Qzk (o:SF)(fr:Nat→Ob)(hf:fr 5=.cells x.cells):Qf Tryz.prog 222 [Xv o,.ptr 2 5 0] [Qc,Qc,fr] fun y m1=>y=.bool (o.name==x.union)∧m1=[Qc,Qc,fr]:=by
 rw[QG]at hf;refine QxB.go (by simp) ?_;simp only[hf,Xv,QG,Qy,eE,seval]
theorem Qzl (o:SF)(fr:Nat→Ob)(hf:fr 5=.cells x.cells):Qf Tryz.prog 223 [Xv o,.ptr 2 5 0] [Qc,Qc,fr] fun y m1=>y=.bool (o.union==x.union)∧m1=[Qc,Qc,fr]:=by
 rw[QG]at hf;refine QxE.go (by simp) ?_;simp only[hf,Xv,QG,Qy,eE,seval]

include hM hm hi in
theorem Qzm:Qr Tryz.prog 193 [QW m,.int .i64 (i:Nat)] (.bool (Z2 m i)):=by
 have hlt:i<m.fields.length:=(QFz.1 hi).1;have hl1:=hm.len1;have hlm:m.fields.length≤maxLen:=by simp only[maxLen];omega
 have hg:(m.fields.map fun n=>AV.agg n.cells)[i]? = some (.agg x.cells):=by simp[hi]
 have hg':=hg;rw[QG]at hg';have ht:(m.fields.map fun n=>AV.agg n.cells).take i=(m.fields.take i).map Xv:=by rw[List.map_take];rfl
 have hsl:i≤(m.fields.map fun n=>AV.agg n.cells).length:=by rw[QGK];omega
 unfold Z2;rw[hi];refine QcW.fn (by simp) ?_;simp only[QW,SM.cells,Qj,QGM,Qe,hg',eE,seval];cases hu:(x.union==[])
 case true=>simp only[hu,Qy,QG2,Qa,seval]
 simp only[hu,Qy,QG3,eE,seval];by_cases hc:x.card=2
 case neg=>
  have d1:(x.card != 2)=true:=by simp[hc]
  have d2:(x.card==2)=false:=by simp[hc]
  simp only[d1,d2,QGP,Qa,seval]
 have d1:(x.card != 2)=false:=by simp[hc]
 have d2:(x.card==2)=true:=by simp[hc]
 simp only[d1,d2,QG0,eE,seval];refine aC (Nh x.union) ?_;cases Q7 x.union
 ·simp only[QGP,QGv,Qa,seval]
 simp only[QG0,QG1,eE,seval];refine Qb (Pz m.fields hlm (fun o=>o.name==x.union) 222 [.ptr 0 5 0] _ fun o _=>Qzk x o _ (by rw[QG];exact(by rfl))) (by simp only[QF3,QGo,Qa,seval]<;>rfl) ?_;cases m.fields.any fun o=>o.name==x.union
 case true=>simp only[QG1,QGP,Qa,seval]
 have hle:(i≤m.fields.length)=True:=eq_true (by omega);simp only[QGv,QG0,JR,ZN,Xo,QGR,QGK,Qj,QGM,QFG,QFx,hle,true_or,QGD,←List.map_take,eE,seval];refine Qb (Pz (m.fields.take i) (by rw[QGk];omega) (fun o=>o.union==x.union) 223 [.ptr 0 5 0] _ fun o _=>Qzl x o _ (by rw[QG];exact(by rfl))) (by simp only[QF3,QGo,Qa,seval]<;>rfl) ?_;cases he:(m.fields.take i).any fun o=>o.union==x.union
 ·simp only[QGv,QG2,Qa,seval]
 ·cases i with
  |zero=>simp at he
  |succ j=>
   obtain⟨y,hj⟩:∃y,m.fields[j]? = some y:=⟨m.fields[j]'(by omega),QFA (by omega)⟩;have hgj:(m.fields.map fun n=>AV.agg n.cells)[j]? = some (.agg y.cells):=by simp[hj]
   rw[QG]at hgj;have wj:=ZV j _ hlt hlm;simp only[QG1,QG3,wj,Qj,QGM,Qe,hgj,hj,Qy,eE,seval]
end

section
variable (m:Ql)(L:List SF)(hl:L.length≤maxLen)(i:Nat)(x:SF)(hi:L[i]? = some x)
theorem Qzn (o:SF):Qr Tryz.prog 190 [Xv o] (.str o.name):=by
 refine QwO.fn (by simp) ?_;simp only[Xv,QG,eE,seval]
end
section
variable (m:Ql)(L:List SI)(hl:L.length≤maxLen)(i:Nat)(x:SI)(hi:L[i]? = some x)
theorem Qzo (o:SI):Qr Tryz.prog 158 [ZK o] (.str o.name):=by
 refine QvY.fn (by simp) ?_;simp only[ZK,SI.cells,eE,seval]
end

section
variable (L:List SF)(hl:L.length≤maxLen)(i:Nat)(x:SF)(hi:L[i]? = some x)(c:Nat)(nm:SF→List UInt8)(hn:∀x,Qr Tryz.prog c [Xv x] (.str (nm x)))
include hi hn in
theorem Qzp (y:SF)(fr:Nat→Ob)(m:Ql)(h3:fr 3=.cells [.list (L.map Xv)])(h4:fr 4=.cells [.int .i64 (i:Nat)])(h5:fr 5=.cells [.fn (.func c) [] []]) :
  Qf Tryz.prog 220 [Xv y,.ptr 2 5 0,.ptr 2 3 0,.ptr 2 4 0] (Qc :: Qc :: fr :: m) fun r m1=>r=.bool (nm y==nm x)∧m1=Qc :: Qc :: fr :: m:=by
 have hy:=hn y;have hx:=hn x;have hg:(L.map Xv)[i]? = some (Xv x):=by simp[hi]
 have g3:∀n,AV.shN n (.fn (.func c) [] [])=.fn (.func c) [] []:=fun n=>W7 n c
 simp only[Xv,QG]at hy hx hg;refine Qxv.go (by simp) ?_;simp only[Xv,QG,h5,g3,eE,seval];refine Zi (fa:=[]) (fb:=[]) (by rfl) hy rfl rfl rfl (.inl rfl) ?_;simp only[h3,h4,h5,g3,Qj,QGM,Qe,hg,eE,seval];refine Zi (fa:=[]) (fb:=[]) (by rfl) hx rfl rfl rfl (.inl rfl) ?_;simp only[Qy,Qa,seval]

include hi hn hl in
theorem Qzq (m:Ql):Qf Tryz.prog 189 [.list (L.map Xv),.int .i64 (i:Nat),.fn (.func c) [] []] m fun r m1=>r=.bool ((L.take i).any fun y=>nm y==nm x)∧m1=m:=by
 have hlt:i<L.length:=(QFz.1 hi).1;have hle:(i≤L.length)=True:=eq_true (by omega);have g3:∀n,AV.shN n (.fn (.func c) [] [])=.fn (.func c) [] []:=fun n=>W7 n c
 refine Qcr.go (by simp) ?_;simp only[JR,ZN,Xo,QGR,QGK,Qj,QGM,QFG,QFx,hle,true_or,QGD,←List.map_take,eE,seval];refine Qb (Pz (L.take i) (by rw[QGk];omega) (fun y=>nm y==nm x) 220 [.ptr 0 5 0,.ptr 0 3 0,.ptr 0 4 0] _ fun o _=>Qzp L i x hi c nm hn o _ _ (by rfl) (by rfl) (by rfl)) (by simp only[QF3,QGo,Qa,seval]<;>rfl) ?_;simp only[Qa,seval]
end

section
variable (L:List SI)(hl:L.length≤maxLen)(i:Nat)(x:SI)(hi:L[i]? = some x)(c:Nat)(nm:SI→List UInt8)(hn:∀x,Qr Tryz.prog c [ZK x] (.str (nm x)))
include hi hn in
theorem Qzr (y:SI)(fr:Nat→Ob)(m:Ql)(h3:fr 3=.cells [.list (L.map ZK)])(h4:fr 4=.cells [.int .i64 (i:Nat)])(h5:fr 5=.cells [.fn (.func c) [] []]) :
  Qf Tryz.prog 196 [ZK y,.ptr 2 5 0,.ptr 2 3 0,.ptr 2 4 0] (Qc :: Qc :: fr :: m) fun r m1=>r=.bool (nm y==nm x)∧m1=Qc :: Qc :: fr :: m:=by
 have hy:=hn y;have hx:=hn x;have hg:(L.map ZK)[i]? = some (ZK x):=by simp[hi]
 have g3:∀n,AV.shN n (.fn (.func c) [] [])=.fn (.func c) [] []:=fun n=>W7 n c
 simp only[ZK,SI.cells]at hy hx hg;refine QwU.go (by simp) ?_;simp only[ZK,SI.cells,h5,g3,eE,seval];refine Zi (fa:=[]) (fb:=[]) (by rfl) hy rfl rfl rfl (.inl rfl) ?_;simp only[h3,h4,h5,g3,Qj,QGM,Qe,hg,eE,seval];refine Zi (fa:=[]) (fb:=[]) (by rfl) hx rfl rfl rfl (.inl rfl) ?_;simp only[Qy,Qa,seval]

include hi hn hl in
theorem Qzs (m:Ql):Qf Tryz.prog 157 [.list (L.map ZK),.int .i64 (i:Nat),.fn (.func c) [] []] m fun r m1=>r=.bool ((L.take i).any fun y=>nm y==nm x)∧m1=m:=by
 have hlt:i<L.length:=(QFz.1 hi).1;have hle:(i≤L.length)=True:=eq_true (by omega);have g3:∀n,AV.shN n (.fn (.func c) [] [])=.fn (.func c) [] []:=fun n=>W7 n c
 refine QvV.go (by simp) ?_;simp only[JR,ZN,Xo,QGR,QGK,Qj,QGM,QFG,QFx,hle,true_or,QGD,←List.map_take,eE,seval];refine Qb (Qmi (L.take i) (by rw[QGk];omega) (fun y=>nm y==nm x) 196 [.ptr 0 5 0,.ptr 0 3 0,.ptr 0 4 0] _ fun o _=>Qzr L i x hi c nm hn o _ _ (by rfl) (by rfl) (by rfl)) (by simp only[QF3,QGo,Qa,seval]<;>rfl) ?_;simp only[Qa,seval]
end

theorem J8 {P:Program}{Qd:List Am.Item}{f:Fr}{m:Ql}{ds:List DF}{d l:Nat}{K:St→Prop}{sz bytes el:Nat}{s r:RA}{site g n:Nat}{xs ys:List AV}(hs:s.ev f=.vec l site g 0 n false)(hl:Am.Qh m l site=.vec g sz xs)(ht:X8 site el=true)(hn:n=xs.length)(hr:r.ev f=.list ys)(hz:ys.all (fun e=>e.cells.length==sz)=true)(hm:n+ys.length≤maxLen)(hb:(n+ys.length)*bytes≤140737488355328)
  (h:Qp P Qd ⟨Qx f d (.vec l site (g+1) 0 (n+ys.length) false),Am.put m l site (.vec (g+1) sz (xs++ys)),ds⟩ K):Qp P (⟨some d,.app sz bytes el s r,none⟩ :: Qd) ⟨f,m,ds⟩ K:=by
 refine⟨l,site,g,n,xs,ys,hs,hl,ht,by omega,?_,hz,hm,hb,?_⟩
 ·show XN m (r.ev f)=some ys;rw[hr];rfl
 ·subst hn;rw[QGS];exact h

def Qo (fr:Nat→Ob)(s R:Nat)(d:List UInt8)(n:Int)(l:List PB):Nat→Ob :=
 Qx (Qx fr R (.vec (1+l.length) 3 (l.map PB.av))) s (.cells [.str d,.int .i64 n,.vec 0 R (1+l.length) 0 l.length false])
section
variable (fr:Nat→Ob)(s R:Nat)(d:List UInt8)(n:Int)(l:List PB)(h:R≠s)
theorem Jr:Qo fr s R d n l s=.cells [.str d,.int .i64 n,.vec 0 R (1+l.length) 0 l.length false]:=QT ..
include h in
theorem Ki:Qo fr s R d n l R=.vec (1+l.length) 3 (l.map PB.av):=by rw[Qo,QX _ _ h,QT]
theorem QP {k:Nat}(h1:k≠R)(h2:k≠s):Qo fr s R d n l k=fr k:=by rw[Qo,QX _ _ h2,QX _ _ h1]
theorem K0 (n':Int):Qx (Qo fr s R d n l) s (.cells [.str d,.int .i64 n',.vec 0 R (1+l.length) 0 l.length false])=Qo fr s R d n' l:=by rw[Qo,Jv,Qo]
include h in
theorem Hl (x:PB):Qx (Qx (Qo fr s R d n l) R (.vec (1+l.length+1) 3 (l.map PB.av++[x.av]))) s (.cells [.str d,.int .i64 n,.vec 0 R (1+l.length+1) 0 (l.length+1) false])=Qo fr s R d n (l++[x]):=by
 have e:(l++[x]).length=l.length+1:=by simp
 rw[Qo,Qo,e,QGT,Z0 (Qx fr R _) s R _ _ (Ne.symm h),Jv,Jv];rfl
end

section
variable (fr:Nat→Ob)(s R:Nat)(d:List UInt8)(n:Int)(l:List PB)(h:R≠s)(hR:X8 R 160=true)(hl:l.length≤1073741824)(ok:Bool)(e:Int)(m:Ql)
include h hR hl

theorem XD  : Qf Tryz.prog 98 [.ptr 0 s 0,.bool ok,.int .i64 e] ( Qo fr s R d n l :: m) fun x m1=>x=.tup []∧m1 =  Qo fr s R d n (l++pb d n ok e) :: m:=by
 have hs:=Jr fr s R d n l;have hr:=Ki fr s R d n l h;cases ok
 ·refine GK.go (by simp) ?_;simp only[hs,eE,seval];refine X4 rfl rfl (by decide) rfl rfl ?_;refine J8 (xs:=l.map PB.av) (by rfl) (by simp only[hr,Fq,seval]) hR (by simp) (by rfl) rfl (by simp only[QFM,QGy,maxLen];omega) (by simp only[QFM,QGy];omega) ?_;have hb:(s==R)=false:=QHc.2 (Ne.symm h);have ha:=Hl fr s R d n l h ⟨d,n,e⟩;have ep:pb d n false e=[⟨d,n,e⟩]:=rfl;simp only[PB.av]at ha;simp only[hs,hb,nn0,QF3,QGo,cond_false,eE,seval];simp only[ha,ep,seval]
 ·refine GK.go (by simp) ?_;have ep:pb d n true e=[]:=rfl;simp only[ep,QGq,Qa,seval]

theorem ZE (a:Nat→Ob):Qf Tryz.prog 98 [.ptr 1 s 0,.bool ok,.int .i64 e] (a :: Qo fr s R d n l :: m) fun x m1=>x=.tup []∧m1=a :: Qo fr s R d n (l++pb d n ok e) :: m:=by
 have hs:=Jr fr s R d n l;have hr:=Ki fr s R d n l h;cases ok
 ·refine GK.go (by simp) ?_;simp only[hs,eE,seval];refine X4 rfl rfl (by decide) rfl rfl ?_;refine J8 (xs:=l.map PB.av) (by rfl) (by simp only[hr,Fq,seval]) hR (by simp) (by rfl) rfl (by simp only[QFM,QGy,maxLen];omega) (by simp only[QFM,QGy];omega) ?_;have hb:(s==R)=false:=QHc.2 (Ne.symm h);have ha:=Hl fr s R d n l h ⟨d,n,e⟩;have ep:pb d n false e=[⟨d,n,e⟩]:=rfl;simp only[PB.av]at ha;simp only[hs,hb,nn0,QF3,QGo,cond_false,eE,seval];simp only[ha,ep,seval]
 ·refine GK.go (by simp) ?_;have ep:pb d n true e=[]:=rfl;simp only[ep,QGq,Qa,seval]

theorem Qzt (a b:Nat→Ob):Qf Tryz.prog 98 [.ptr 2 s 0,.bool ok,.int .i64 e] (a :: b :: Qo fr s R d n l :: m) fun x m1=>x=.tup []∧m1=a :: b :: Qo fr s R d n (l++pb d n ok e) :: m:=by
 have hs:=Jr fr s R d n l;have hr:=Ki fr s R d n l h;cases ok
 ·refine GK.go (by simp) ?_;simp only[hs,eE,seval];refine X4 rfl rfl (by decide) rfl rfl ?_;refine J8 (xs:=l.map PB.av) (by rfl) (by simp only[hr,Fq,seval]) hR (by simp) (by rfl) rfl (by simp only[QFM,QGy,maxLen];omega) (by simp only[QFM,QGy];omega) ?_;have hb:(s==R)=false:=QHc.2 (Ne.symm h);have ha:=Hl fr s R d n l h ⟨d,n,e⟩;have ep:pb d n false e=[⟨d,n,e⟩]:=rfl;simp only[PB.av]at ha;simp only[hs,hb,nn0,QF3,QGo,cond_false,eE,seval];simp only[ha,ep,seval]
 ·refine GK.go (by simp) ?_;have ep:pb d n true e=[]:=rfl;simp only[ep,QGq,Qa,seval]

theorem UC  {M:Nat}(N:List SN)(hN:N.length≤maxLen)(hn:∀x∈N,x.ok M)(t:Int)(ht:t∈KW):Qf Tryz.prog 154 [.ptr 0 s 0,.list (N.map fun x=>.agg x.cells),.int .i64 t] ( Qo fr s R d n l :: m) fun x m1=>x=.tup []∧m1 =  Qo fr s R d n (l++Xu d n N t) :: m:=by
 refine M7.go (by simp) ?_;simp only[Qa,seval];refine aC (y94 N hN hn t ht) ?_;simp only[Qa,seval];refine Qb (ZE fr s R d n l h hR hl (XZ N t==0) (XZ N t) m Qc) rfl ?_;simp only[Xu,Qa,seval]

theorem QsI (a:Nat→Ob){M:Nat}(N:List SN)(hN:N.length≤maxLen)(hn:∀x∈N,x.ok M)(t:Int)(ht:t∈KW):Qf Tryz.prog 154 [.ptr 1 s 0,.list (N.map fun x=>.agg x.cells),.int .i64 t] (a :: Qo fr s R d n l :: m) fun x m1=>x=.tup []∧m1=a :: Qo fr s R d n (l++Xu d n N t) :: m:=by
 refine M7.go (by simp) ?_;simp only[Qa,seval];refine aC (y94 N hN hn t ht) ?_;simp only[Qa,seval];refine Qb (Qzt fr s R d n l h hR hl (XZ N t==0) (XZ N t) m Qc a) rfl ?_;simp only[Xu,Qa,seval]

end

theorem QN {α β:Type}{l:List α}{g:Nat→α→List β}{c:Nat}(hc:∀i x,(g i x).length≤c):∀n,(upto l g n).length≤c*n
 |0=>QFx _
 |n+1=>by
  have h1:=QN hc (l:=l) n;rw[upto,QF7,Nat.mul_succ];cases l[n]? with
  |none=>simp only[QGy];omega
  |some x=>have:=hc n x;simp only;omega
theorem X5 {α β:Type}{l:List α}{g:Nat→α→List β}{n:Nat}{x:α}(h:l[n]? = some x):upto l g (n+1)=upto l g n++g n x:=by
 rw[upto,h]
theorem Q0 (d:List UInt8)(n:Int)(ok:Bool)(e:Int):(pb d n ok e).length≤1:=by
 cases ok<;>simp[pb]

def C7 (l:List PS)(i:Nat)(x:PS):Bool:=match i with
 |0=>true
 |j+1=>match l[j]? with
  |none=>true
  |some y=>decide (x.lo > y.hi)
theorem C8 (d:List UInt8)(lo hi:Int)(l:List PS)(i:Nat)(x:PS):JQ d lo hi l i x=pb d (-1) (decide (x.lo≥lo)&&decide (x.hi≤hi)&&decide (x.lo≤x.hi)) 6++pb d (-1) (C7 l i x) 11:=by
 cases i<;>rfl
theorem Jz (d:List UInt8)(lo hi:Int)(F:List PS)(i:Nat)(x:PS):(JQ d lo hi F i x).length≤2:=by
 unfold JQ;rw[QF7];exact Nat.add_le_add (Q0 ..) (Q0 ..)

section
variable (fr:Nat→Ob)(s R:Nat)(d:List UInt8)(l:List PB)(h:R≠s)(hR:X8 R 160=true)(lo hi:Int)(F:List PS)(hF:F.length≤1048576)(m:Ql)

def SqI (k:Nat)(st:St):Prop :=
 ∃f own i,st=⟨f,own :: Qo fr s R d (-1) (l++upto F (JQ d lo hi F) i) :: m,[]⟩∧k=F.length-i∧i≤F.length∧f 0=.ptr 1 s 0∧f 1=.list (F.map QV)∧f 2=.int .i64 lo∧f 3=.int .i64 hi∧f 10=.list (F.map QV)∧f 11=.int .i64 (F.length:Nat)∧f 12=.int .i64 (i:Nat)∧∀s∈[9],(own s).isRow=false

def SpF (F:List PS)(s:Nat)(lo hi:Int)(i:Nat)(f:Fr):Prop:=f 0=.ptr 1 s 0∧f 1=.list (F.map QV)∧f 2=.int .i64 lo∧f 3=.int .i64 hi∧f 8=.int .i64 (i:Nat)∧f 9=.ptr 0 9 0∧f 10=.list (F.map QV)∧f 11=.int .i64 (F.length:Nat)∧f 12=.int .i64 (i:Nat)

section
variable (i:Nat)(x:PS)(hx:F[i]? = some x)(own:Nat→Ob)(o9:own 9=.cells x.cells)(hl:l.length≤1073741824)(f:Fr)(hf:SpF F s lo hi i f)(K:St→Prop)
include h hR hl o9 hf
theorem sp3 (hK:∀f,SpF F s lo hi i f→K ⟨f,own :: Qo fr s R d (-1) (l++pb d (-1) (decide (x.lo≥lo)&&decide (x.hi≤hi)&&decide (x.lo≤x.hi)) 6) :: m,[]⟩):Qp Tryz.prog GV ⟨f,own :: Qo fr s R d (-1) l :: m,[]⟩ K:=by
 have hK':=hK;obtain⟨h0,h1,h2,h3,h8,h9,h10,h11,h12⟩:=hf;simp only[PS.cells]at o9;simp only[GV,h0,h2,h9,o9,eE,seval];cases a1:decide (x.lo≥lo)
 ·rw[a1]at hK';simp only[Qa,seval];refine Qb (ZE fr s R d (-1) l h hR hl false 6 m own) (by rfl) ?_;simp only[Qa,seval];exact hK' _ ⟨(by exact h0),(by exact h1),(by exact h2),(by exact h3),(by exact h8),(by exact h9),(by exact h10),(by exact h11),(by exact h12)⟩
 cases a2:decide (x.hi≤hi)
 ·rw[a1,a2]at hK';simp only[a2,h3,h9,o9,eE,seval];refine Qb (ZE fr s R d (-1) l h hR hl false 6 m own) (by rfl) ?_;simp only[Qa,seval];exact hK' _ ⟨(by exact h0),(by exact h1),(by exact h2),(by exact h3),(by exact h8),(by exact h9),(by exact h10),(by exact h11),(by exact h12)⟩
 rw[a1,a2]at hK';simp only[a2,h3,h9,o9,eE,seval];refine Qb (ZE fr s R d (-1) l h hR hl (decide (x.lo≤x.hi)) 6 m own) (by rfl) ?_;simp only[Qa,seval];exact hK' _ ⟨(by exact h0),(by exact h1),(by exact h2),(by exact h3),(by exact h8),(by exact h9),(by exact h10),(by exact h11),(by exact h12)⟩

include hx hF in
theorem sp4 (hK:∀f,SpF F s lo hi i f→K ⟨f,own :: Qo fr s R d (-1) (l++pb d (-1) (C7 F i x) 11) :: m,[]⟩):Qp Tryz.prog Uk ⟨f,own :: Qo fr s R d (-1) l :: m,[]⟩ K:=by
 obtain⟨h0,h1,h2,h3,h8,h9,h10,h11,h12⟩:=hf;have hlt:i<F.length:=(QFz.1 hx).1;simp only[PS.cells]at o9;cases i with
 |zero=>
  simp only[Uk,h0,h8,Qa,seval];refine Qb (ZE fr s R d (-1) l h hR hl true 11 m own) (by rfl) ?_;simp only[Qa,seval];exact hK _ ⟨(by exact h0),(by exact h1),(by exact h2),(by exact h3),(by exact h8),(by exact h9),(by exact h10),(by exact h11),(by exact h12)⟩
 |succ j=>
  obtain⟨y,hj⟩:∃y,F[j]? = some y:=⟨F[j]'(by omega),QFA (by omega)⟩;have hg:(F.map QV)[j]? = some (.agg [.int .i64 y.lo,.int .i64 y.hi]):=by rw[QGI,hj];rfl
  have wj:=ZV j _ hlt (by simp only[maxLen];omega);have d0:(((j+1:Nat):Int)==0)=false:=by rw[QHc];omega
  simp only[C7,hj]at hK;simp only[Uk,d0,wj,Qj,QGM,Qe,hg,h0,h1,h8,h9,o9,eE,seval];refine Qb (ZE fr s R d (-1) l h hR hl (decide (x.lo > y.hi)) 11 m own) (by rfl) ?_;simp only[Qa,seval];exact hK _ ⟨(by exact h0),(by exact h1),(by exact h2),(by exact h3),(by exact h8),(by exact h9),(by exact h10),(by exact h11),(by exact h12)⟩
end

include h hR hF in
theorem Sz (hl:l.length≤1048576000):Qf Tryz.prog 153 [.ptr 0 s 0,.list (F.map QV),.int .i64 lo,.int .i64 hi] (Qo fr s R d (-1) l :: m) fun x m1=>x=.tup []∧m1=Qo fr s R d (-1) (l++upto F (JQ d lo hi F) F.length) :: m:=by
 have hul:∀n,n≤F.length→(l++upto F (JQ d lo hi F) n).length≤1051000000:=by
  intro n hn;have:=QN (l:=F) (Jz d lo hi F) n;rw[QF7];omega
 refine Qa7.go (by simp) ?_;simp only[VG,M5,M6,QGK,Qa,seval];refine Qg (SqI fr s R d l lo hi F m) _ ⟨_,_,0,by rw[upto,QGq],rfl,QFG _,(by rfl),(by rfl),(by rfl),(by rfl),(by rfl),(by rfl),(by rfl),by simp<;>rfl⟩ ?_;rintro _ st ⟨f0,own0,i,rfl,rfl,hi',h00,h10,h20,h30,h100,h110,h120,r9⟩;refine QD (a:=_) [9] r9 ?_;intro f own hf hm hn9;have h0:f 0=.ptr 1 s 0:=by rw[hf,h00]<;>rfl
 have h1:f 1=.list (F.map QV):=by rw[hf,h10]<;>rfl
 have h2:f 2=.int .i64 lo:=by rw[hf,h20]<;>rfl
 have h3:f 3=.int .i64 hi:=by rw[hf,h30]<;>rfl
 have h10':f 10=.list (F.map QV):=by rw[hf,h100]<;>rfl
 have h11:f 11=.int .i64 (F.length:Nat):=by rw[hf,h110]<;>rfl
 have h12:f 12=.int .i64 (i:Nat):=by rw[hf,h120]<;>rfl
 have n9:=hn9 9 (by decide);clear hf hm hn9 h00 h10 h20 h30 h100 h110 h120 r9;simp only[VH,h11,h12,Qa,seval];by_cases hlt:i<F.length
 case neg=>
  have e:i=F.length:=by omega
  subst e;simp only[QB hlt,Qa,seval]
 obtain⟨x,hx⟩:∃x,F[i]? = some x:=⟨F[i],QFA hlt⟩;have hg:(F.map QV)[i]? = some (.agg [.int .i64 x.lo,.int .i64 x.hi]):=by rw[QGI,hx];rfl
 have e1:=Qn i _ hlt (by simp only[maxLen];omega);simp only[Qz hlt,n9,VI,Qj,QGM,Qe,hg,h10',h12,eE,seval];refine sp3 fr s R d _ h hR lo hi F m i x _ (by rfl) (QFy (hul i hi') (by decide)) _ ⟨(by exact h0),(by exact h1),(by exact h2),(by exact h3),(by rfl),(by rfl),(by exact h10'),(by exact h11),(by exact h12)⟩ _ (fun f hf=>?_);simp only[Qa,seval];refine sp4 fr s R d _ h hR lo hi F hF m i x hx _ (by rfl) ?_ _ hf _ (fun f hf=>?_)
 ·have a:=hul i hi';have b:=Q0 d (-1) (decide (x.lo≥lo)&&decide (x.hi≤hi)&&decide (x.lo≤x.hi)) 6;rw[QF7];omega
 obtain⟨h0,h1,h2,h3,h8,h9,h10,h11,h12⟩:=hf;simp only[VJ,h12,e1,Qa,seval];exact⟨F.length-(i+1),by omega,_,_,i+1,by rw[X5 hx,C8];simp only[QFR]<;>rfl,rfl,by omega,(by exact h0),(by exact h1),(by exact h2),(by exact h3),(by exact h10),(by exact h11),(by rfl),by simp<;>rfl⟩
end

end Go.Proofs.YtaiflhahcglpgaaGreatDoor.Va

set_option linter.unusedSectionVars false
namespace Go.Proofs.YtaiflhahcglpgaaGreatDoor.Va
open Go Am Rc Bt Br Up So

theorem s37 (B:List (List UInt8))(hl:B.length≤maxLen)(v:List UInt8):Qr Tryz.prog 37 [.list (B.map Qm),.str v] (.int .i64 (QM (fun b=>b==v) B 0)):=by
 let I:Nat→St→Prop:=fun k st=>∃f i,st=⟨f,[Qc],[]⟩∧k=B.length-i∧QM (fun b=>b==v) B 0=QM (fun b=>b==v) (B.drop i) i∧f 0=.list (B.map Qm)∧f 1=.str v∧f 7=.int .i64 (B.length:Nat)∧f 8=.int .i64 (i:Nat)
 refine k37.fn (by simp) ?_;simp only[QGK,Qa,seval];refine Qg I _ ⟨_,0,rfl,rfl,rfl,(by rfl),(by rfl),(by rfl),(by rfl)⟩ ?_;rintro _ st ⟨f,i,rfl,rfl,hx,h0,h1,h7,h8⟩;simp only[h7,h8,Qa,seval];by_cases hlt:i<B.length
 ·obtain⟨x,hi⟩:∃x,B[i]? = some x:=⟨B[i],QFA hlt⟩;have hg:(B.map Qm)[i]? = some (.str x):=by simp[hi,Qm]
  have e1:=Qn i _ hlt hl;have ec:(v==x)=(x==v):=BEq.comm;rw[Xj _ hi]at hx;cases hv:(x==v)
  ·rw[hv,QFE (by decide)]at hx;simp only[Qz hlt,Qj,QGM,Qe,hg,Qy,ec,hv,h0,h1,h8,e1,eE,seval];exact⟨B.length-(i+1),by omega,_,i+1,rfl,rfl,hx,(by exact h0),(by exact h1),(by exact h7),(by rfl)⟩
  ·rw[hv,QFF rfl]at hx;simp only[Qz hlt,Qj,QGM,Qe,hg,Qy,ec,hv,h0,h1,h8,hx,eE,seval]
 ·have hx':QM (fun b=>b==v) B 0 = -1:=by rw[hx,QF6 (by omega)];rfl
  simp only[QB hlt,hx',Qa,seval]

theorem Bm (B:List (List UInt8))(v:List UInt8):(B.any fun b=>b==v)=B.contains v:=by
 induction B with
 |nil=>rfl
 |cons b B ih=>
  rw[List.any_cons,List.contains_cons,ih,BEq.comm (a:=b)]
theorem s36 (B:List (List UInt8))(hl:B.length≤maxLen)(v:List UInt8):Qr Tryz.prog 36 [.list (B.map Qm),.str v] (.bool (B.contains v)):=by
 refine k36.fn (by simp) ?_;simp only[Qa,seval];refine aC (s37 B hl v) ?_;simp only[Zs,Bm,Qa,seval]

theorem Qt {l:List PB}{a:Nat}(h:l.length≤a)(d:List UInt8)(n:Int)(ok:Bool)(e:Int):(l++pb d n ok e).length≤a+1:=by
 have:=Q0 d n ok e;rw[QF7];omega

theorem Xs (x:SM):x.cells=[.str x.name,.list (x.fields.map fun n=>.agg n.cells),.list (x.free.map fun n=>.agg n.cells),.list (x.gone.map AV.str),.list (x.notes.map fun n=>.agg n.cells)]:=rfl
def FF (s i:Nat)(f:Fr):Prop:=f 0=.ptr 1 s 0∧f 3=.int .i64 (i:Nat)∧f 5=.ptr 0 5 0∧f 6=.ptr 0 6 0∧f 8=.ptr 0 8 0

section
variable (fr:Nat→Ob)(s R:Nat)(h:R≠s)(hR:X8 R 160=true)(mm:Ql){M:Nat}(hM:M≤1048576)(S:SC)(hS:S.ok M)(m:SM)(hm:m.ok M)(i:Nat)(x:SF)(hi:m.fields[i]? = some x)
variable (own:Nat→Ob)(o5:own 5=.cells [.list (S.msgs.map fun n=>.agg n.cells),.list (S.enums.map fun n=>.agg n.cells),.list (S.servs.map fun n=>.agg n.cells)])(o6:own 6=.cells m.cells)(o8:own 8=.cells x.cells)
variable (l:List PB)(hl:l.length≤1073741824)(f:Fr)(hf:FF s i f)(K:St→Prop)
include h hR hl hf

include o8 in
theorem fk3 (hK:∀f,FF s i f→K ⟨f,own :: Qo fr s R m.name x.num (l++pb m.name x.num (decide (x.num≥1)&&decide (x.num≤65535)) 6) :: mm,[]⟩):Qp Tryz.prog GP ⟨f,own :: Qo fr s R m.name x.num l :: mm,[]⟩ K:=by
 obtain⟨h0,h3,h5,h6,h8⟩:=hf;rw[QG]at o8;simp only[GP,h0,h8,o8,eE,seval];cases a1:decide (x.num≥1)
 ·rw[a1]at hK;simp only[Qa,seval];refine Qb (ZE fr s R m.name x.num l h hR hl false 6 mm own) (by rfl) ?_;simp only[Qa,seval];exact hK _ ⟨(by exact h0),(by exact h3),(by exact h5),(by exact h6),(by exact h8)⟩
 ·rw[a1]at hK;simp only[h8,o8,eE,seval];refine Qb (ZE fr s R m.name x.num l h hR hl (decide (x.num≤65535)) 6 mm own) (by rfl) ?_;simp only[Qa,seval];exact hK _ ⟨(by exact h0),(by exact h3),(by exact h5),(by exact h6),(by exact h8)⟩

include o6 o8 hi hM hm in
theorem fk4 (hK:∀f,FF s i f→K ⟨f,own :: Qo fr s R m.name x.num (l++pb m.name x.num (JU m.fields SF.num i x) 11) :: mm,[]⟩):Qp Tryz.prog Uj ⟨f,own :: Qo fr s R m.name x.num l :: mm,[]⟩ K:=by
 obtain⟨h0,h3,h5,h6,h8⟩:=hf;have hlt:i<m.fields.length:=(QFz.1 hi).1;have hl1:=hm.len1;rw[QG]at o8;simp only[SM.cells]at o6;cases i with
 |zero=>
  simp only[Uj,h0,h3,Qa,seval];refine Qb (ZE fr s R m.name x.num l h hR hl true 11 mm own) (by rfl) ?_;simp only[Qa,seval];exact hK _ ⟨(by exact h0),(by exact h3),(by exact h5),(by exact h6),(by exact h8)⟩
 |succ j=>
  obtain⟨y,hj⟩:∃y,m.fields[j]? = some y:=⟨m.fields[j]'(by omega),QFA (by omega)⟩;have hg:(m.fields.map fun n=>AV.agg n.cells)[j]? = some (.agg y.cells):=by rw[QGI,hj];rfl
  have wj:=ZV j _ hlt (by simp only[maxLen];omega);have d0:(((j+1:Nat):Int)==0)=false:=by rw[QHc];omega
  rw[QG]at hg;simp only[JU,hj]at hK;simp only[Uj,d0,wj,Qj,QGM,Qe,hg,h0,h3,h6,h8,o6,o8,eE,seval];refine Qb (ZE fr s R m.name x.num l h hR hl (decide (x.num > y.num)) 11 mm own) (by rfl) ?_;simp only[Qa,seval];exact hK _ ⟨(by exact h0),(by exact h3),(by exact h5),(by exact h6),(by exact h8)⟩

include o8 in
theorem fk5 (hK:∀f,FF s i f→K ⟨f,own :: Qo fr s R m.name x.num (l++pb m.name x.num (Q7 x.name) 8) :: mm,[]⟩):Qp Tryz.prog GQ ⟨f,own :: Qo fr s R m.name x.num l :: mm,[]⟩ K:=by
 obtain⟨h0,h3,h5,h6,h8⟩:=hf;rw[QG]at o8;simp only[GQ,h0,h8,o8,eE,seval];refine aC (Nh x.name) ?_
 try simp only[eE,seval]
 refine Qb (ZE fr s R m.name x.num l h hR hl (Q7 x.name) 8 mm own) (by rfl) ?_;simp only[Qa,seval];exact hK _ ⟨(by exact h0),(by exact h3),(by exact h5),(by exact h6),(by exact h8)⟩

include o6 hi hM hm in
theorem fk6 (hK:∀f,FF s i f→K ⟨f,own :: Qo fr s R m.name x.num (l++pb m.name x.num (!((m.fields.take i).any fun y=>y.name==x.name)) 9) :: mm,[]⟩):Qp Tryz.prog GR ⟨f,own :: Qo fr s R m.name x.num l :: mm,[]⟩ K:=by
 obtain⟨h0,h3,h5,h6,h8⟩:=hf;have hl1:=hm.len1;have hsn:=Qzq m.fields (by simp only[maxLen];omega) i x hi 190 SF.name Qzn (own :: Qo fr s R m.name x.num l :: mm);simp only[SM.cells]at o6;simp only[GR,h0,h3,h6,o6,eE,seval];refine Qb hsn (by simp only[QF3,QGo,Qa,seval]<;>rfl) ?_;simp only[Qa,seval];refine Qb (ZE fr s R m.name x.num l h hR hl _ 9 mm own) (by rfl) ?_;simp only[Qa,seval];exact hK _ ⟨(by exact h0),(by exact h3),(by exact h5),(by exact h6),(by exact h8)⟩

include o6 o8 hM hm in
theorem fk7 (hK:∀f,FF s i f→K ⟨f,own :: Qo fr s R m.name x.num (l++pb m.name x.num (!(kept m.free x.num) && !(m.gone.contains x.name)) 21) :: mm,[]⟩):Qp Tryz.prog GS ⟨f,own :: Qo fr s R m.name x.num l :: mm,[]⟩ K:=by
 obtain⟨h0,h3,h5,h6,h8⟩:=hf;have hl1:=hm.len2;have hl2:=hm.len3;have hr:Qr Tryz.prog 142 [.list (m.free.map fun n=>AV.agg n.cells),.int .i64 x.num] (.bool (kept m.free x.num)):=Pn m.free (by simp only[maxLen];omega) x.num;have hc:Qr Tryz.prog 36 [.list (m.gone.map AV.str),.str x.name] (.bool (m.gone.contains x.name)):=s36 m.gone (by simp only[maxLen];omega) x.name;rw[QG]at o8;simp only[SM.cells]at o6;simp only[GS,h0,h6,h8,o6,o8,eE,seval];refine aC hr ?_;cases a1:kept m.free x.num
 ·rw[a1]at hK;simp only[QGv,h6,h8,o6,o8,eE,seval];refine aC hc ?_;simp only[Qa,seval];refine Qb (ZE fr s R m.name x.num l h hR hl (!(m.gone.contains x.name)) 21 mm own) (by rfl) ?_;simp only[Qa,seval];exact hK _ ⟨(by exact h0),(by exact h3),(by exact h5),(by exact h6),(by exact h8)⟩
 ·rw[a1]at hK;simp only[QG1,Qa,seval];refine Qb (ZE fr s R m.name x.num l h hR hl false 21 mm own) (by rfl) ?_;simp only[Qa,seval];exact hK _ ⟨(by exact h0),(by exact h3),(by exact h5),(by exact h6),(by exact h8)⟩

include o8 in
theorem fk8 (hK:∀f,FF s i f→K ⟨f,own :: Qo fr s R m.name x.num (l++pb m.name x.num (Wv x) 1) :: mm,[]⟩):Qp Tryz.prog GT ⟨f,own :: Qo fr s R m.name x.num l :: mm,[]⟩ K:=by
 obtain⟨h0,h3,h5,h6,h8⟩:=hf;rw[QG]at o8;unfold Wv at hK;simp only[GT,h0,h8,o8,eE,seval];cases a1:decide (x.card≥1)
 ·rw[a1]at hK;simp only[Qa,seval];refine Qb (ZE fr s R m.name x.num l h hR hl false 1 mm own) (by rfl) ?_;simp only[Qa,seval];exact hK _ ⟨(by exact h0),(by exact h3),(by exact h5),(by exact h6),(by exact h8)⟩
 cases a2:decide (x.card≤5)
 ·rw[a1,a2]at hK;simp only[a2,h8,o8,eE,seval];refine Qb (ZE fr s R m.name x.num l h hR hl false 1 mm own) (by rfl) ?_;simp only[Qa,seval];exact hK _ ⟨(by exact h0),(by exact h3),(by exact h5),(by exact h6),(by exact h8)⟩
 rw[a1,a2]at hK;simp only[a2,h8,o8,eE,seval];refine aC (Qze x.card x.key) ?_
 try simp only[Qa,seval]
 refine Qb (ZE fr s R m.name x.num l h hR hl (DS x.card x.key) 1 mm own) (by rfl) ?_;simp only[Qa,seval];exact hK _ ⟨(by exact h0),(by exact h3),(by exact h5),(by exact h6),(by exact h8)⟩

include o5 o8 hS hM hm hi in
theorem fk9 (hK:∀f,FF s i f→K ⟨f,own :: Qo fr s R m.name x.num (l++pb m.name x.num (Ji S x) 12) :: mm,[]⟩):Qp Tryz.prog GU ⟨f,own :: Qo fr s R m.name x.num l :: mm,[]⟩ K:=by
 obtain⟨h0,h3,h5,h6,h8⟩:=hf;have hc:=Qzf S hS hM x;simp only[SC.av,Xv,QG]at hc;rw[QG]at o8;simp only[GU,h0,h5,h8,o5,o8,eE,seval];refine aC hc ?_
 try simp only[eE,seval]
 refine Qb (ZE fr s R m.name x.num l h hR hl (Ji S x) 12 mm own) (by rfl) ?_;simp only[Qa,seval];exact hK _ ⟨(by exact h0),(by exact h3),(by exact h5),(by exact h6),(by exact h8)⟩

include o5 o8 hS hM hm hi in
theorem Qzu (hK:∀f,FF s i f→K ⟨f,own :: Qo fr s R m.name x.num (l++pb m.name x.num (KG S x) 1) :: mm,[]⟩):Qp Tryz.prog UQ ⟨f,own :: Qo fr s R m.name x.num l :: mm,[]⟩ K:=by
 obtain⟨h0,h3,h5,h6,h8⟩:=hf;have hc:=Qzj S hS hM x (hm.fields x (QFL hi));simp only[SC.av,Xv,QG]at hc;rw[QG]at o8;simp only[UQ,h0,h5,h8,o5,o8,eE,seval];refine aC hc ?_
 try simp only[eE,seval]
 refine Qb (ZE fr s R m.name x.num l h hR hl (KG S x) 1 mm own) (by rfl) ?_;simp only[Qa,seval];exact hK _ ⟨(by exact h0),(by exact h3),(by exact h5),(by exact h6),(by exact h8)⟩

include o6 hM hm hi in
theorem Qzv (hK:∀f,FF s i f→K ⟨f,own :: Qo fr s R m.name x.num (l++pb m.name x.num (Z2 m i) 15) :: mm,[]⟩):Qp Tryz.prog UP ⟨f,own :: Qo fr s R m.name x.num l :: mm,[]⟩ K:=by
 obtain⟨h0,h3,h5,h6,h8⟩:=hf;have hc:=Qzm hM m hm i x hi;simp only[QW,SM.cells]at hc;simp only[SM.cells]at o6;simp only[UP,h0,h3,h6,o6,eE,seval];refine aC hc ?_
 try simp only[eE,seval]
 refine Qb (ZE fr s R m.name x.num l h hR hl (Z2 m i) 15 mm own) (by rfl) ?_;simp only[Qa,seval];exact hK _ ⟨(by exact h0),(by exact h3),(by exact h5),(by exact h6),(by exact h8)⟩

include o8 hM hm hi in
theorem Qzw (hK:∀f,FF s i f→K ⟨f,own :: Qo fr s R m.name x.num (l++Xu m.name x.num x.notes 2) :: mm,[]⟩):Qp Tryz.prog UR ⟨f,own :: Qo fr s R m.name x.num l :: mm,[]⟩ K:=by
 obtain⟨h0,h3,h5,h6,h8⟩:=hf;have hx:=hm.fields x (QFL hi);have hln:=hx.len;rw[QG]at o8;simp only[UR,h0,h8,o8,eE,seval];refine Qb (QsI fr s R m.name x.num l h hR hl mm own x.notes (by simp only[maxLen];omega) hx.notes 2 (by decide)) (by rfl) ?_;simp only[Qa,seval];exact hK _ ⟨(by exact h0),(by exact h3),(by exact h5),(by exact h6),(by exact h8)⟩
end

theorem Qzx (fr:Nat→Ob)(s R:Nat)(h:R≠s)(hR:X8 R 160=true)(mm:Ql){M:Nat}(hM:M≤1048576)(S:SC)(hS:S.ok M)(m:SM)(hm:m.ok M)(i:Nat)(x:SF)(hi:m.fields[i]? = some x)(l:List PB)(hl:l.length≤1073741800)(n:Int) :
  Qf Tryz.prog 152 [.ptr 0 s 0,S.av,QW m,.int .i64 (i:Nat)] (Qo fr s R m.name n l :: mm) fun y m1=>y=.tup []∧m1=Qo fr s R m.name (-1) (l++Jx S m i x) :: mm:=by
 have hg:(m.fields.map fun n=>AV.agg n.cells)[i]? = some (.agg x.cells):=by rw[QGI,hi];rfl
 rw[QG]at hg;have hs:∀n l,Qo fr s R m.name n l s=.cells [.str m.name,.int .i64 n,.vec 0 R (1+l.length) 0 l.length false]:=fun n l=>Jr fr s R m.name n l
 have hn:∀n l n',Qx (Qo fr s R m.name n l) s (.cells [.str m.name,.int .i64 n',.vec 0 R (1+l.length) 0 l.length false])=Qo fr s R m.name n' l:=fun n l n'=>K0 fr s R m.name n l n'
 refine Qa5.go (by simp) ?_;simp only[M3,M4,VD,VE,VF,SC.av,QW,Xs m,Qj,QGM,Qe,hg,hs,hn,eE,seval];generalize hown:(Qx (Qx (Qx Qc 5 _) 6 _) 8 _:Nat→Ob)=own;have o5:own 5=.cells [.list (S.msgs.map fun n=>.agg n.cells),.list (S.enums.map fun n=>.agg n.cells),.list (S.servs.map fun n=>.agg n.cells)]:=by rw[←hown];exact(by rfl)
 have o6:own 6=.cells m.cells:=by rw[←hown,Xs];exact(by rfl)
 have o8:own 8=.cells x.cells:=by rw[←hown,QG];exact(by rfl)
 have q0:l.length≤1073741800:=hl;refine fk3 fr s R h hR mm m i x own o8 l (by omega) _ ⟨(by rfl),(by rfl),(by rfl),(by rfl),(by rfl)⟩ _ (fun f hf=>?_);have q1:=Qt q0 m.name x.num (decide (x.num≥1)&&decide (x.num≤65535)) 6;simp only[Qa,seval];refine fk4 fr s R h hR mm hM m hm i x hi own o6 o8 _ (by omega) f hf _ (fun f hf=>?_);have q2:=Qt q1 m.name x.num (JU m.fields SF.num i x) 11;simp only[Qa,seval];refine fk5 fr s R h hR mm m i x own o8 _ (by omega) f hf _ (fun f hf=>?_);have q3:=Qt q2 m.name x.num (Q7 x.name) 8;simp only[Qa,seval];refine fk6 fr s R h hR mm hM m hm i x hi own o6 _ (by omega) f hf _ (fun f hf=>?_);have q4:=Qt q3 m.name x.num (!((m.fields.take i).any fun y=>y.name==x.name)) 9;simp only[Qa,seval];refine fk7 fr s R h hR mm hM m hm i x own o6 o8 _ (by omega) f hf _ (fun f hf=>?_);have q5:=Qt q4 m.name x.num (!(kept m.free x.num) && !(m.gone.contains x.name)) 21;simp only[Qa,seval];refine fk8 fr s R h hR mm m i x own o8 _ (by omega) f hf _ (fun f hf=>?_);have q6:=Qt q5 m.name x.num (Wv x) 1;simp only[Qa,seval];refine fk9 fr s R h hR mm hM S hS m hm i x hi own o5 o8 _ (by omega) f hf _ (fun f hf=>?_);have q7:=Qt q6 m.name x.num (Ji S x) 12;simp only[Qa,seval];refine Qzv fr s R h hR mm hM m hm i x hi own o6 _ (by omega) f hf _ (fun f hf=>?_);have q8:=Qt q7 m.name x.num (Z2 m i) 15;simp only[Qa,seval];refine Qzu fr s R h hR mm hM S hS m hm i x hi own o5 o8 _ (by omega) f hf _ (fun f hf=>?_);have q9:=Qt q8 m.name x.num (KG S x) 1;simp only[Qa,seval];refine Qzw fr s R h hR mm hM m hm i x hi own o8 _ (by omega) f hf _ (fun f hf=>?_);obtain⟨h0,h3,h5,h6,h8⟩:=hf;simp only[FL,h0,hs,hn,eE,seval];unfold Jx;simp only[QFR]

theorem ZL {P:Program}{Qd:List Am.Item}{f:Fr}{m:Ql}{ds:List DF}{d:Nat}{K:St→Prop}{z:AV}{r:RA}{w:List UInt8}(hr:r.ev f=.str w)(h:Qp P Qd ⟨Qx f d (.list [.str w]),m,ds⟩ K):Qp P (⟨some d,.bsl 1 1 [z] [(0,1,r)],none⟩ :: Qd) ⟨f,m,ds⟩ K:=by
 rw[show Qp P (⟨some d,.bsl 1 1 [z] [(0,1,r)],none⟩ :: Qd) ⟨f,m,ds⟩ K=Qp P Qd ⟨Qx f d (.list [.str w]),m,ds⟩ K from P2 (y:=[.str w]) (by simp[fill,hr,AV.cells,AV.leaf,ZX,List.range_succ,splice]) rfl rfl];exact h

def XL (m:SM)(i:Nat):List (List UInt8):=((m.fields.take i).filter fun f=>f.card==1&&f.kind==10).map SF.tname
theorem HM {m:SM}{i:Nat}{x:SF}(h:m.fields[i]? = some x):XL m (i+1)=if (x.card==1&&x.kind==10)=true then XL m i++[x.tname]else XL m i:=by
 unfold XL;rw[QGU,h,QGV,List.filter_append,QGT];cases hq:(x.card==1&&x.kind==10)
 ·rw[QFE (by decide),List.filter_cons,hq];simp
 ·rw[QFF rfl,List.filter_cons,hq];simp
theorem YK (m:SM)(i:Nat):(XL m i).length≤m.fields.length:=by
 unfold XL;rw[QGK];exact QFy (List.length_filter_le ..) (List.length_take_le' ..)

def NdI (m:SM)(k:Nat)(st:St):Prop :=
 ∃f fr i g,st=⟨f,[fr],[]⟩∧k=m.fields.length-i∧i≤m.fields.length∧f 3=.vec 0 3 g 0 (XL m i).length false∧f 7=.list (m.fields.map Xv)∧f 8=.int .i64 (m.fields.length:Nat)∧f 9=.int .i64 (i:Nat)∧fr 3=.vec g 1 ((XL m i).map Qm)∧∀s∈[5],(fr s).isRow=false

theorem Qmm {M:Nat}(hM:M≤1048576)(m:SM)(hm:m.ok M):Qr Tryz.prog 149 [QW m] (.list ((XX m).map Qm)):=by
 have hl1:=hm.len1;have hnd:XX m=XL m m.fields.length:=by unfold XX XL;rw[QGS]
 refine QaZ.fn (by simp) ?_;simp only[QW,Xs m,eE,seval];refine W3 rfl rfl ?_;simp only[QGK,eE,seval];refine Qg (NdI m) _ ⟨_,_,0,_,rfl,rfl,QFG _,(by rfl),(by rfl),(by rfl),(by rfl),(by rfl),by simp<;>rfl⟩ ?_;rintro _ st ⟨f0,fr0,i,g,rfl,rfl,hi,h30,h70,h80,h90,m30,r5⟩;refine QD (a:=_) [5] r5 ?_;intro f fr hf hmm hn5;have h3:f 3=.vec 0 3 g 0 (XL m i).length false:=by rw[hf,h30]<;>rfl
 have h7:f 7=.list (m.fields.map Xv):=by rw[hf,h70]<;>rfl
 have h8:f 8=.int .i64 (m.fields.length:Nat):=by rw[hf,h80]<;>rfl
 have h9:f 9=.int .i64 (i:Nat):=by rw[hf,h90]<;>rfl
 have m3:fr 3=.vec g 1 ((XL m i).map Qm):=by rw[hmm 3 (by decide),m30]<;>rfl
 have n5:=hn5 5 (by decide);clear hf hmm hn5 h30 h70 h80 h90 m30 r5;simp only[h8,h9,Qa,seval];by_cases hlt:i<m.fields.length
 case neg=>
  have e:i=m.fields.length:=by omega
  subst e;rw[←hnd]at h3 m3;have ht:List.take (XX m).length (List.map Qm (XX m))=List.map Qm (XX m):=QF4 (by rw[QGK];exact QFx _);simp only[QB hlt,h3,m3,QGK,QGb,ht,QFW,QFx,QGw,AV.un,eE,seval]
 obtain⟨x,hx⟩:∃x,m.fields[i]? = some x:=⟨m.fields[i],QFA hlt⟩;have hg:(m.fields.map Xv)[i]? = some (.agg x.cells):=by rw[QGI,hx];rfl
 rw[QG]at hg;have e1:=Qn i _ hlt (by simp only[maxLen];omega);have hln:=YK m i;have hsu:=HM hx;have fin:∀(f:Fr) (fr:Nat→Ob) (g:Nat),f 3=.vec 0 3 g 0 (XL m (i+1)).length false→f 7=.list (m.fields.map Xv)→f 8=.int .i64 (m.fields.length:Nat)→f 9=.int .i64 ((i+1:Nat):Int)→fr 3=.vec g 1 ((XL m (i+1)).map Qm)→(∀s∈[5],(fr s).isRow=false)→∃k,k<m.fields.length-i∧NdI m k ⟨f,[fr],[]⟩ :=
  fun f fr g a b c d e r=>⟨m.fields.length-(i+1),by omega,f,fr,i+1,g,rfl,rfl,by omega,a,b,c,d,e,r⟩
 simp only[Qz hlt,n5,Qj,QGM,Qe,hg,h7,h9,eE,seval];cases a1:(x.card==1)
 ·rw[a1,QGP,QFE (by decide)]at hsu;simp only[h9,e1,Qa,seval];exact fin _ _ g (by rw[hsu];exact(by exact h3)) (by exact h7) (by exact h8) (by rfl) (by rw[hsu];exact(by exact m3)) (by simp<;>rfl)
 cases a2:(x.kind==10)
 ·rw[a1,a2,QG0,QFE (by decide)]at hsu;simp only[a2,h9,e1,eE,seval];exact fin _ _ g (by rw[hsu];exact(by exact h3)) (by exact h7) (by exact h8) (by rfl) (by rw[hsu];exact(by exact m3)) (by simp<;>rfl)
 rw[a1,a2,QG0,QFF rfl]at hsu;simp only[a2,h3,eE,seval];refine ZL (w:=x.tname) rfl ?_;refine Xa (xs:=(XL m i).map Qm) (by rfl) (by exact m3) rfl (by simp) (by rfl) rfl (by simp only[QFM,QGy,maxLen];omega) (by simp only[QFM,QGy];omega) ?_;simp only[h9,e1,Qa,seval];have en:(XL m (i+1)).length=(XL m i).length+1:=by rw[hsu];simp
 exact fin _ _ (g+1) (by rw[en];exact(by rfl)) (by exact h7) (by exact h8) (by rfl) (by rw[hsu,QGT];exact(by rfl)) (by simp<;>rfl)

def Xg (X:List (List UInt8)):List AV:=X.map fun _=>.bool true
theorem Qmn (X:List (List UInt8)):AV.grL (Xg X)=true:=by
 induction X with
 |nil=>rfl
 |cons x X ih=>rw[Xg,QF3,AV.grL,show AV.grL (X.map fun _=>.bool true)=true from ih];rfl
theorem EQ (X:List (List UInt8)):X.length=(Xg X).length:=by rw[Xg,QGK]
theorem KJ (n:List UInt8)(X:List (List UInt8)):Zt n X (Xg X)=if X.contains n=true then some (.bool true)else none:=by
 induction X with
 |nil=>rfl
 |cons x X ih=>
  rw[Xg,QF3,Zt,List.contains_cons];cases h:(n==x)
  ·rw[QG3,←ih];rfl
  ·rw[QG2,QFF rfl];rfl
theorem C9 (n:List UInt8)(X:List (List UInt8)):XH n (.bool true) X (Xg X)=if X.contains n=true then(X,Xg X)else(X++[n],Xg (X++[n])):=by
 induction X with
 |nil=>rfl
 |cons x X ih=>
  rw[Xg,QF3,XH,List.contains_cons];cases h:(n==x)
  ·rw[show XH n (.bool true) X (X.map fun _=>.bool true)=_ from ih,QG3];cases X.contains n<;>rfl
  ·rw[QG2,QFF rfl];rfl

section
variable {M:Nat}(hM:M≤1048576)(S:SC)(hS:S.ok M)(n:List UInt8)(X:List (List UInt8))(fr:Nat→Ob)(o1:fr 1=.cells [.list (S.msgs.map fun n=>.agg n.cells),.list (S.enums.map fun n=>.agg n.cells),.list (S.servs.map fun n=>.agg n.cells)])
include hM hS in
theorem Qzy (o1:fr 1=.cells [.list (S.msgs.map fun n=>.agg n.cells),.list (S.enums.map fun n=>.agg n.cells),.list (S.servs.map fun n=>.agg n.cells)])(o3:fr 3=.cells [.mptr 0 9])(o9:fr 9=.iter (.mp X (Xg X)) 0) :
  Qf Tryz.prog 150 [Qm n,.ptr 2 1 0,.ptr 2 3 0] [Qc,Qc,fr] fun y m1=>y=.bool (QZ S n && !X.contains n)∧m1=[Qc,Qc,fr]:=by
 obtain⟨l1,_,_⟩:=Zn S hS hM;have hc:=Hk S l1 n;simp only[QW,SM.cells,SC.av]at hc;have hg:AV.gr (.bool true)=true:=rfl;refine QvS.go (by simp) ?_;simp only[Qm,o1,eE,seval];refine aC hc ?_;cases QZ S n
 ·simp only[QGP,eE,seval]
 cases hX:X.contains n
 ·simp only[QGv,X3,KJ,hX,QFQ,o3,o9,eE,seval]
 ·simp only[QG0,QG1,X3,KJ,hX,hg,o3,o9,eE,seval]

include hM hS in
theorem Qzz (o3:fr 3=.cells [.list (S.msgs.map fun n=>.agg n.cells),.list (S.enums.map fun n=>.agg n.cells),.list (S.servs.map fun n=>.agg n.cells)])(o5:fr 5=.cells [.mp X (Xg X)]) :
  Qf Tryz.prog 195 [Qm n,.ptr 2 3 0,.ptr 2 5 0] [Qc,Qc,fr] fun y m1=>y=.bool (QZ S n && !X.contains n)∧m1=[Qc,Qc,fr]:=by
 obtain⟨l1,_,_⟩:=Zn S hS hM;have hc:=Hk S l1 n;simp only[QW,SM.cells,SC.av]at hc;have hg:AV.gr (.bool true)=true:=rfl;refine QwR.go (by simp) ?_;simp only[Qm,o3,eE,seval];refine aC hc ?_;cases QZ S n
 ·simp only[QGP,eE,seval]
 cases hX:X.contains n
 ·simp only[QGv,X3,KJ,hX,QFQ,o5,eE,seval]
 ·simp only[QG0,QG1,X3,KJ,hX,hg,o5,eE,seval]

include hM hS in
theorem QzA (m:SM)(hm:m.ok M):Qr Tryz.prog 155 [S.av,QW m,.mp X (Xg X)] (.bool ((XX m).any fun n=>QZ S n && !X.contains n)):=by
 have hln:(XX m).length≤maxLen:=by
  have h1:=YK m m.fields.length;have h2:=hm.len1;have h3:XX m=XL m m.fields.length:=by unfold XX XL;rw[QGS]
  rw[h3];simp only[maxLen];omega
 have hc:=Qmm hM m hm;simp only[QW,SM.cells]at hc;refine Qbg.fn (by simp) ?_;simp only[SC.av,QW,SM.cells,eE,seval];refine aC hc ?_;simp only[Qa,seval];refine Qb (DK (XX m) hln (fun n=>QZ S n && !X.contains n) 195 [.ptr 0 3 0,.ptr 0 5 0] _ fun o _=>Qzz hM S hS o X _ (by rfl) (by rfl)) (by simp only[QF3,QGo,Qa,seval]<;>rfl) ?_;simp only[Qa,seval]
end

section
variable {M:Nat}(hM:M≤1048576)(S:SC)(hS:S.ok M)
def FoI (S:SC)(k:Nat)(st:St):Prop :=
 ∃f fr i,st=⟨f,[fr],[]⟩∧k=S.msgs.length+1-i∧i≤S.msgs.length+1∧f 1=.ptr 0 1 0∧f 3=.ptr 0 3 0∧f 13=.int .i64 ((S.msgs.length+1:Nat):Int)∧f 14=.int .i64 (i:Nat)∧
  fr 1=.cells [.list (S.msgs.map fun n=>.agg n.cells),.list (S.enums.map fun n=>.agg n.cells),.list (S.servs.map fun n=>.agg n.cells)]∧fr 3=.cells [.mptr 0 9]∧fr 9=.iter (.mp (Wh S i) (Xg (Wh S i))) 0∧∀s∈[5,6],(fr s).isRow=false

include hM hS in
theorem Qmo (X:List (List UInt8))(f:Fr)(fr:Nat→Ob)(h1:f 1=.ptr 0 1 0)(h3:f 3=.ptr 0 3 0)(h17:f 17=.list (S.msgs.map QW))(h18:f 18=.int .i64 (S.msgs.length:Nat))(h19:f 19=.int .i64 0)
  (m1:fr 1=.cells [.list (S.msgs.map fun n=>.agg n.cells),.list (S.enums.map fun n=>.agg n.cells),.list (S.servs.map fun n=>.agg n.cells)]) (m3:fr 3=.cells [.mptr 0 9]) (m9:fr 9=.iter (.mp X (Xg X)) 0) (Wt:∀s∈[5,6],(fr s).isRow=false) (h13:f 13=.int .i64 ((S.msgs.length+1:Nat):Int)) (r:Int) (h14:f 14=.int .i64 r) (Q:Exit→St→Prop)
  (hq:∀(f:Fr) (fr:Nat→Ob),f 1=.ptr 0 1 0→f 3=.ptr 0 3 0→f 13=.int .i64 ((S.msgs.length+1:Nat):Int)→f 14=.int .i64 r→fr 1=.cells [.list (S.msgs.map fun n=>.agg n.cells),.list (S.enums.map fun n=>.agg n.cells),.list (S.servs.map fun n=>.agg n.cells)]→fr 3=.cells [.mptr 0 9]→fr 9=.iter (.mp (YG S X) (Xg (YG S X))) 0→(∀s∈[5,6],(fr s).isRow=false)→Q (.exit 2) ⟨f,[fr],[]⟩) :
  QJ Tryz.prog (.loop Vt) ⟨f,[fr],[]⟩ Q:=by
 obtain⟨l1,_,_⟩:=Zn S hS hM
 let I:Nat→St→Prop:=fun k st=>∃f fr i,st=⟨f,[fr],[]⟩∧k=S.msgs.length-i∧i≤S.msgs.length∧f 1=.ptr 0 1 0∧f 3=.ptr 0 3 0∧f 17=.list (S.msgs.map QW)∧f 18=.int .i64 (S.msgs.length:Nat)∧f 19=.int .i64 (i:Nat)∧f 13=.int .i64 ((S.msgs.length+1:Nat):Int)∧f 14=.int .i64 r∧
  fr 1=.cells [.list (S.msgs.map fun n=>.agg n.cells),.list (S.enums.map fun n=>.agg n.cells),.list (S.servs.map fun n=>.agg n.cells)]∧fr 3=.cells [.mptr 0 9]∧fr 9=.iter (.mp ((S.msgs.take i).foldl (Zl S) X) (Xg ((S.msgs.take i).foldl (Zl S) X))) 0∧∀s∈[5,6],(fr s).isRow=false
 refine Qg I _ ⟨f,fr,0,rfl,rfl,QFG _,h1,h3,h17,h18,h19,h13,h14,m1,m3,m9,Wt⟩ ?_;clear h1 h3 h17 h18 h19 h13 h14 m1 m3 m9 Wt;rintro _ st ⟨f0,fr0,i,rfl,rfl,hi,h10,h30,h170,h180,h190,h130,h140,m10,m30,m90,Wt⟩;refine QD (a:=_) [6,5] (by intro s hs;exact Wt s (by simp only[QGF,QHk,or_false]at hs ⊢;omega)) ?_;intro f fr hf hmm hn;have h1:f 1=.ptr 0 1 0:=by rw[hf,h10]<;>rfl
 have h3:f 3=.ptr 0 3 0:=by rw[hf,h30]<;>rfl
 have h17:f 17=.list (S.msgs.map QW):=by rw[hf,h170]<;>rfl
 have h18:f 18=.int .i64 (S.msgs.length:Nat):=by rw[hf,h180]<;>rfl
 have h19:f 19=.int .i64 (i:Nat):=by rw[hf,h190]<;>rfl
 have h13:f 13=.int .i64 ((S.msgs.length+1:Nat):Int):=by rw[hf,h130]<;>rfl
 have h14:f 14=.int .i64 r:=by rw[hf,h140]<;>rfl
 have m1:fr 1=.cells [.list (S.msgs.map fun n=>.agg n.cells),.list (S.enums.map fun n=>.agg n.cells),.list (S.servs.map fun n=>.agg n.cells)]:=by rw[hmm 1 (by decide),m10]<;>rfl
 have m3:fr 3=.cells [.mptr 0 9]:=by rw[hmm 3 (by decide),m30]<;>rfl
 have m9:fr 9=.iter (.mp ((S.msgs.take i).foldl (Zl S) X) (Xg ((S.msgs.take i).foldl (Zl S) X))) 0:=by rw[hmm 9 (by decide),m90]<;>rfl
 have n5:=hn 5 (by decide);have n6:=hn 6 (by decide);clear hf hmm hn h10 h30 h170 h180 h190 h130 h140 m10 m30 m90 Wt;simp only[h18,h19,Qa,seval];by_cases hlt:i<S.msgs.length
 case neg=>
  have e:(S.msgs.take i).foldl (Zl S) X=YG S X:=by rw[QF4 (by omega)];rfl
  rw[e]at m9;simp only[QB hlt,Qa,seval];exact hq _ _ (by exact h1) (by exact h3) (by exact h13) (by exact h14) (by exact m1) (by exact m3) (by exact m9) (by simp only[QGF,QHk,or_false];rintro s (rfl|rfl)<;>simp only[n5,n6]<;>rfl)
 obtain⟨x,hx⟩:∃x,S.msgs[i]? = some x:=⟨S.msgs[i],QFA hlt⟩;have hmem:x∈S.msgs:=QFL hx;have hg:(S.msgs.map QW)[i]? = some (.agg x.cells):=by rw[QGI,hx];rfl
 simp only[SM.cells]at hg;have e1:=Qn i _ hlt l1;have hc:=Hk S l1 x.name;simp only[QW,SM.cells,SC.av]at hc;obtain⟨y,hy⟩:∃y,S.msgs.find? (fun m=>m.name==x.name)=some y:=by
  cases hq:S.msgs.find? (fun m=>m.name==x.name)with
  |none=>have:=QG6.1 hq x hmem;simp at this
  |some y=>exact⟨y,rfl⟩
 have hym:=hS.msgs y (QG8 hy);have hnl:(XX y).length≤maxLen:=by
  have h1:=YK y y.fields.length;have h2:=hym.len1;have h3:XX y=XL y y.fields.length:=by unfold XX XL;rw[QGS]
  rw[h3];simp only[maxLen];omega
 have hnd:=Qmm hM y hym;simp only[QW,SM.cells]at hnd;rw[hy,QGx]at hc;have hst:(S.msgs.take (i+1)).foldl (Zl S) X=Zl S ((S.msgs.take i).foldl (Zl S) X) x:=by
  rw[QGU,hx,QGV,List.foldl_append];rfl
 have hfs:∀Y,Zl S Y x=if (XX y).any (fun n=>QZ S n && !Y.contains n)=true then Y else if Y.contains x.name=true then Y else Y++[x.name]:=by
  intro Y;unfold Zl;rw[hy]
 have fin:∀(f:Fr) (fr:Nat→Ob),f 1=.ptr 0 1 0→f 3=.ptr 0 3 0→f 17=.list (S.msgs.map QW)→f 18=.int .i64 (S.msgs.length:Nat)→f 19=.int .i64 ((i+1:Nat):Int)→f 13=.int .i64 ((S.msgs.length+1:Nat):Int)→f 14=.int .i64 r→fr 1=.cells [.list (S.msgs.map fun n=>.agg n.cells),.list (S.enums.map fun n=>.agg n.cells),.list (S.servs.map fun n=>.agg n.cells)]→fr 3=.cells [.mptr 0 9]→fr 9=.iter (.mp ((S.msgs.take (i+1)).foldl (Zl S) X) (Xg ((S.msgs.take (i+1)).foldl (Zl S) X))) 0→(∀s∈[5,6],(fr s).isRow=false)→∃k,k<S.msgs.length-i∧I k ⟨f,[fr],[]⟩ :=
  fun f fr a b c d e g h j k l n=>⟨S.msgs.length-(i+1),by omega,f,fr,i+1,rfl,rfl,by omega,a,b,c,d,e,g,h,j,k,l,n⟩
 generalize hY:(S.msgs.take i).foldl (Zl S) X=Y at m9 hst;rw[hst,hfs]at fin;simp only[Qz hlt,n5,Qj,QGM,Qe,hg,m1,h1,h17,h19,eE,seval];refine aC hc ?_;simp only[n6,eE,seval];refine aC hnd ?_;simp only[Qa,seval];refine Qb (DK (XX y) hnl (fun n=>QZ S n && !Y.contains n) 150 [.ptr 0 1 0,.ptr 0 3 0] _ fun o _=>Qzy hM S hS o Y _ (by exact m1) (by exact m3) (by exact m9)) (by simp only[QF3,QGo,h1,h3,Qa,seval]<;>rfl) ?_;cases hb:(XX y).any fun n=>QZ S n && !Y.contains n
 ·rw[hb,QFE (by decide)]at fin;simp only[QGv,h3,m3,eE,seval];refine⟨0,9,Y,Xg Y,0,x.name,(by rfl),by simp only[m9,eE,seval],(by rfl),rfl,Qmn Y,EQ Y,?_⟩;rw[show RA.ev _ (.c (.bool true))=AV.bool true from rfl,C9];cases hYc:Y.contains x.name
  ·rw[hYc,QFE (by decide)]at fin;simp only[Qk,QFQ,h19,e1,eE,seval];exact fin _ _ (by exact h1) (by exact h3) (by exact h17) (by exact h18) (by rfl) (by exact h13) (by exact h14) (by exact m1) (by exact m3) (by rfl) (by simp only[QGF,QHk,or_false];rintro s (rfl|rfl)<;>rfl)
  ·rw[hYc,QFF rfl]at fin;simp only[Qk,h19,e1,eE,seval];exact fin _ _ (by exact h1) (by exact h3) (by exact h17) (by exact h18) (by rfl) (by exact h13) (by exact h14) (by exact m1) (by exact m3) (by rfl) (by simp only[QGF,QHk,or_false];rintro s (rfl|rfl)<;>rfl)
 ·rw[hb,QFF rfl]at fin;simp only[QG1,h19,e1,Qa,seval];exact fin _ _ (by exact h1) (by exact h3) (by exact h17) (by exact h18) (by rfl) (by exact h13) (by exact h14) (by exact m1) (by exact m3) (by exact m9) (by simp only[QGF,QHk,or_false];rintro s (rfl|rfl)<;>rfl)

include hM hS in
theorem QzB:Qr Tryz.prog 101 [S.av] (.mp (Wi S) (Xg (Wi S))):=by
 obtain⟨l1,_,_⟩:=Zn S hS hM;have hlm:=hS.len1;have w1:IntKind.i64.wrap ((S.msgs.length:Int)+1)=((S.msgs.length+1:Nat):Int):=by rw[ZO];omega
 refine L6.fn (by simp) ?_;simp only[SC.av,eE,seval];refine⟨rfl,?_⟩;simp only[Qk,QGK,w1,eE,seval];refine Qg (FoI S) _ ⟨_,_,0,rfl,rfl,QFG _,(by rfl),(by rfl),(by rfl),(by rfl),(by rfl),(by rfl),(by rfl),by intro s hs;simp only[QGF,QHk,or_false]at hs;rcases hs with rfl|rfl<;>rfl⟩ ?_;rintro _ st ⟨f0,fr0,i,rfl,rfl,hi,h10,h30,h130,h140,m10,m30,m90,Wt⟩;refine QD (a:=_) [6,5] (by intro s hs;exact Wt s (by simp only[QGF,QHk,or_false]at hs ⊢;omega)) ?_;intro f fr hf hmm hn;have h1:f 1=.ptr 0 1 0:=by rw[hf,h10]<;>rfl
 have h3:f 3=.ptr 0 3 0:=by rw[hf,h30]<;>rfl
 have h13:f 13=.int .i64 ((S.msgs.length+1:Nat):Int):=by rw[hf,h130]<;>rfl
 have h14:f 14=.int .i64 (i:Nat):=by rw[hf,h140]<;>rfl
 have m1:fr 1=.cells [.list (S.msgs.map fun n=>.agg n.cells),.list (S.enums.map fun n=>.agg n.cells),.list (S.servs.map fun n=>.agg n.cells)]:=by rw[hmm 1 (by decide),m10]<;>rfl
 have m3:fr 3=.cells [.mptr 0 9]:=by rw[hmm 3 (by decide),m30]<;>rfl
 have m9:fr 9=.iter (.mp (Wh S i) (Xg (Wh S i))) 0:=by rw[hmm 9 (by decide),m90]<;>rfl
 have n5:=hn 5 (by decide);have n6:=hn 6 (by decide);clear hf hmm hn h10 h30 h130 h140 m10 m30 m90 Wt;simp only[h13,h14,Qa,seval];by_cases hlt:i<S.msgs.length+1
 case neg=>
  have e:i=S.msgs.length+1:=by omega
  subst e;simp only[QB hlt,h3,m3,m9,eE,seval];rfl
 have e1:=Qn i _ hlt (by simp only[maxLen];omega);simp only[Qz hlt,m1,h1,QGK,eE,seval];refine Qmo hM S hS (Wh S i) _ _ (by exact h1) (by exact h3) (by rfl) (by rfl) (by rfl) (by exact m1) (by exact m3) (by exact m9) (by simp only[QGF,QHk,or_false];rintro s (rfl|rfl)<;>simp only[n5,n6]<;>rfl) (by exact h13) _ (by exact h14) _ (fun f fr h1 h3 h13 h14 m1 m3 m9 Wt=>?_);simp only[h14,e1,Qa,seval];exact⟨S.msgs.length+1-(i+1),by omega,_,_,i+1,rfl,rfl,by omega,(by exact h1),(by exact h3),(by exact h13),(by rfl),(by exact m1),(by exact m3),(by exact m9),Wt⟩
end

theorem K1 (S:SC)(m:SM)(i:Nat)(x:SF):(Jx S m i x).length≤10:=by
 unfold Jx Xu;exact Qt (Qt (Qt (Qt (Qt (Qt (Qt (Qt (Qt (Q0 _ _ _ _) _ _ _ _) _ _ _ _) _ _ _ _) _ _ _ _) _ _ _ _) _ _ _ _) _ _ _ _) _ _ _ _) _ _ _ _
theorem Yb {fr:Nat→Ob}{s R:Nat}{d:List UInt8}{n:Int}{l:List PB}(h1:fr s=.cells [.str d,.int .i64 n,.vec 0 R (1+l.length) 0 l.length false])(h2:fr R=.vec (1+l.length) 3 (l.map PB.av)):Qo fr s R d n l=fr:=by
 rw[Qo,W4 _ _ _ h2,W4 _ _ _ h1]
theorem H7 (fr:Nat→Ob)(s R:Nat)(d:List UInt8)(n:Int)(h:R≠s)(A:Ob):Qx (Qx (Qx fr s A) R (.vec 1 3 [])) s (.cells ([.str d,.int .i64 n,.nils].set 2 (.vec 0 R 1 0 0 false)))=Qo fr s R d n []:=by
 rw[Z0 _ _ _ _ _ (Ne.symm h),Jv];rfl
theorem Hm {fr:Nat→Ob}{s R:Nat}{d:List UInt8}{n:Int}{l:List PB}{k:Nat}(h1:k≠R)(h2:k≠s)(o:Ob):Qx (Qo fr s R d n l) k o=Qo (Qx fr k o) s R d n l:=by
 rw[Qo,Qo,Z0 _ _ _ _ _ (Ne.symm h2),Z0 _ _ _ _ _ (Ne.symm h1)]

section
variable {M:Nat}(hM:M≤1048576)(S:SC)(hS:S.ok M)(m:SM)(hm:m.ok M)(X:List (List UInt8))(base:Nat→Ob)
variable (b3:base 3=.cells [.list (S.msgs.map fun n=>.agg n.cells),.list (S.enums.map fun n=>.agg n.cells),.list (S.servs.map fun n=>.agg n.cells)])(b4:base 4=.cells [.str m.name,.list (m.fields.map fun n=>.agg n.cells),.list (m.free.map fun n=>.agg n.cells),.list (m.gone.map AV.str),.list (m.notes.map fun n=>.agg n.cells)])

def MF (X:List (List UInt8))(f:Fr):Prop:=f 2=.mp X (Xg X)∧f 3=.ptr 0 3 0∧f 4=.ptr 0 4 0∧f 7=.ptr 0 14 0

include hM hS hm b3 b4 in
theorem Ma (l:List PB)(hl:l.length≤1000000)(f:Fr)(hf:MF X f)(h38:f 38=.int .i64 (m.fields.length:Nat))(h39:f 39=.int .i64 0)(Q:Exit→St→Prop)
  (hq:∀f,MF X f→Q (.exit 0) ⟨f,[Qo base 14 1100 m.name (-1) (l++upto m.fields (Jx S m) m.fields.length)],[]⟩):QJ Tryz.prog (.loop GM) ⟨f,[Qo base 14 1100 m.name (-1) l],[]⟩ Q:=by
 let I:Nat→St→Prop:=fun k st=>∃f i,st=⟨f,[Qo base 14 1100 m.name (-1) (l++upto m.fields (Jx S m) i)],[]⟩∧k=m.fields.length-i∧i≤m.fields.length∧MF X f∧f 38=.int .i64 (m.fields.length:Nat)∧f 39=.int .i64 (i:Nat)
 have hl1:=hm.len1;have c3:∀n l,Qo base 14 1100 m.name n l 3=base 3:=fun n l=>QP _ _ _ _ _ _ (by decide) (by decide)
 have c4:∀n l,Qo base 14 1100 m.name n l 4=base 4:=fun n l=>QP _ _ _ _ _ _ (by decide) (by decide)
 refine Qg I _ ⟨f,0,by rw[upto,QGq],rfl,QFG _,hf,h38,h39⟩ ?_;clear hf h38 h39;rintro _ st ⟨f,i,rfl,rfl,hi,⟨h2,h3,h4,h7⟩,h38,h39⟩;simp only[GM,Vy,h38,h39,Qa,seval];by_cases hlt:i<m.fields.length
 case neg=>
  have e:i=m.fields.length:=by omega
  subst e;simp only[QB hlt,Qa,seval];exact hq _ ⟨(by exact h2),(by exact h3),(by exact h4),(by exact h7)⟩
 obtain⟨x,hx⟩:∃x,m.fields[i]? = some x:=⟨m.fields[i],QFA hlt⟩;have e1:=Qn i _ hlt (by simp only[maxLen];omega);have hul:=QN (l:=m.fields) (K1 S m) i;have hfl:=Qzx base 14 1100 (by decide) rfl [] hM S hS m hm i x hx (l++upto m.fields (Jx S m) i) (by rw[QF7];omega) (-1);simp only[SC.av,QW,Xs m]at hfl;simp only[Qz hlt,Vz,VA,VB,c3,c4,b3,b4,h3,h4,h7,h39,eE,seval];refine Qb hfl (by simp only[QF3,QGo,Qa,seval]<;>rfl) ?_;simp only[h39,e1,Qa,seval];exact⟨m.fields.length-(i+1),by omega,_,i+1,by rw[X5 hx,QFR],rfl,by omega,⟨(by exact h2),(by exact h3),(by exact h4),(by exact h7)⟩,(by exact h38),(by rfl)⟩

include hM hm in
theorem ER (l:List PB)(hl:l.length≤100000000)(f:Fr)(hf:MF X f)(h53:f 53=.list (m.gone.map AV.str))(h54:f 54=.int .i64 (m.gone.length:Nat))(h55:f 55=.int .i64 0)(Q:Exit→St→Prop)
  (hq:∀f,MF X f→Q (.exit 2) ⟨f,[Qo base 14 1100 m.name (-1) (l++upto m.gone (fun _ g=>pb m.name (-1) (ZR g) 7) m.gone.length)],[]⟩):QJ Tryz.prog (.loop GN) ⟨f,[Qo base 14 1100 m.name (-1) l],[]⟩ Q:=by
 let I:Nat→St→Prop:=fun k st=>∃f i,st=⟨f,[Qo base 14 1100 m.name (-1) (l++upto m.gone (fun _ g=>pb m.name (-1) (ZR g) 7) i)],[]⟩∧k=m.gone.length-i∧i≤m.gone.length∧MF X f∧f 53=.list (m.gone.map AV.str)∧f 54=.int .i64 (m.gone.length:Nat)∧f 55=.int .i64 (i:Nat)
 have hl1:=hm.len3;refine Qg I _ ⟨f,0,by rw[upto,QGq],rfl,QFG _,hf,h53,h54,h55⟩ ?_;clear hf h53 h54 h55;rintro _ st ⟨f,i,rfl,rfl,hi,⟨h2,h3,h4,h7⟩,h53,h54,h55⟩;simp only[GN,FD,h54,h55,Qa,seval];by_cases hlt:i<m.gone.length
 case neg=>
  have e:i=m.gone.length:=by omega
  subst e;simp only[QB hlt,Qa,seval];exact hq _ ⟨(by exact h2),(by exact h3),(by exact h4),(by exact h7)⟩
 obtain⟨x,hx⟩:∃x,m.gone[i]? = some x:=⟨m.gone[i],QFA hlt⟩;have hg:(m.gone.map AV.str)[i]? = some (.str x):=by rw[QGI,hx];rfl
 have hxl:=hm.gone x (QFL hx);have e1:=Qn i _ hlt (by simp only[maxLen];omega);have hul:=QN (l:=m.gone) (g:=fun _ g=>pb m.name (-1) (ZR g) 7) (c:=1) (fun _ g=>Q0 ..) i;have hfl:=XD base 14 1100 m.name (-1) (l++upto m.gone (fun _ g=>pb m.name (-1) (ZR g) 7) i) (by decide) rfl (by rw[QF7];omega) (ZR x) 7 [];simp only[Qz hlt,FE,FG,FH,Qj,QGM,Qe,hg,h7,h53,h55,eE,seval];refine aC (x89 x) ?_
 try simp only[eE,seval]
 refine Qb hfl (by simp only[QF3,QGo,Qa,seval]<;>rfl) ?_;simp only[h55,e1,Qa,seval];exact⟨m.gone.length-(i+1),by omega,_,i+1,by rw[X5 hx,QFR],rfl,by omega,⟨(by exact h2),(by exact h3),(by exact h4),(by exact h7)⟩,(by exact h53),(by exact h54),(by rfl)⟩

theorem QsJ (a b:Nat):decide ((if (a:Int)<(b:Int)then(b:Int)else(a:Int))≤16)=(decide (a≤16)&&decide (b≤16)):=by
 rw[QGj,QFU,QGH,QGH,QGH];split<;>omega
theorem Ni (a:Nat):decide ((a:Int)≤64)=decide (a≤64):=(by rw[QGj];simp only[QGH];omega)

include hM hm b4 in
theorem im3 (l:List PB)(hl:l.length≤1000000)(f:Fr)(hf:MF X f)(K:St→Prop)
  (hK:∀f,MF X f→K ⟨f,[Qo base 14 1100 m.name (-1) (l++pb m.name (-1) (decide (m.fields.length≤64)&&decide (m.free.length≤16)&&decide (m.gone.length≤16)) 3)],[]⟩):Qp Tryz.prog GL ⟨f,[Qo base 14 1100 m.name (-1) l],[]⟩ K:=by
 obtain⟨h2,h3,h4,h7⟩:=hf;have c4:∀n l,Qo base 14 1100 m.name n l 4=base 4:=fun n l=>QP _ _ _ _ _ _ (by decide) (by decide)
 rw[Bool.and_assoc]at hK;simp only[GL,c4,b4,QGK,Ni,h4,h7,eE,seval];cases a1:decide (m.fields.length≤64)
 ·rw[a1]at hK;simp only[Qa,seval];refine Qb (XD base 14 1100 m.name (-1) l (by decide) rfl (by omega) false 3 []) (by simp only[QF3,QGo,Qa,seval]<;>rfl) ?_;simp only[Qa,seval];exact hK _ ⟨(by exact h2),(by exact h3),(by exact h4),(by exact h7)⟩
 ·rw[a1]at hK;simp only[c4,b4,QGK,QsJ,h4,eE,seval];refine Qb (XD base 14 1100 m.name (-1) l (by decide) rfl (by omega) (decide (m.free.length≤16)&&decide (m.gone.length≤16)) 3 []) (by simp only[QF3,QGo,Qa,seval]<;>rfl) ?_;simp only[Qa,seval];exact hK _ ⟨(by exact h2),(by exact h3),(by exact h4),(by exact h7)⟩
end

theorem QzC {M:Nat}(hM:M≤1048576)(S:SC)(hS:S.ok M)(m:SM)(hm:m.ok M)(X:List (List UInt8)):Qr Tryz.prog 102 [S.av,QW m,.mp X (Xg X)] (.list ((Z6 S (fun m=>(XX m).any fun n=>QZ S n && !X.contains n) m).map PB.av)):=by
 have hl1:=hm.len1;have hl2:=hm.len2;have hl3:=hm.len3;have hl4:=hm.len4;have hnl:=hm.name;have hcy:=QzA hM S hS X m hm;simp only[SC.av,QW,Xs m]at hcy;refine L7.fn (by simp) ?_;simp only[M1,M2,Vu,Vv,SC.av,QW,Xs m,eE,seval];refine Xz rfl rfl rfl rfl ?_;generalize hb:(Qx (Qx Qc 3 _) 4 _:Nat→Ob)=base;have b3:base 3=.cells [.list (S.msgs.map fun n=>.agg n.cells),.list (S.enums.map fun n=>.agg n.cells),.list (S.servs.map fun n=>.agg n.cells)]:=by rw[←hb];exact(by rfl)
 have b4:base 4=.cells [.str m.name,.list (m.fields.map fun n=>.agg n.cells),.list (m.free.map fun n=>.agg n.cells),.list (m.gone.map AV.str),.list (m.notes.map fun n=>.agg n.cells)]:=by rw[←hb];exact(by rfl)
 have c3:∀n l,Qo base 14 1100 m.name n l 3=base 3:=fun n l=>QP _ _ _ _ _ _ (by decide) (by decide)
 have c4:∀n l,Qo base 14 1100 m.name n l 4=base 4:=fun n l=>QP _ _ _ _ _ _ (by decide) (by decide)
 have cs:∀n l,Qo base 14 1100 m.name n l 14=.cells [.str m.name,.int .i64 n,.vec 0 1100 (1+l.length) 0 l.length false]:=fun n l=>Jr base 14 1100 m.name n l
 have cR:∀n l,Qo base 14 1100 m.name n l 1100=.vec (1+l.length) 3 (l.map PB.av):=fun n l=>Ki base 14 1100 m.name n l (by decide)
 rw[H7 base 14 1100 m.name (-1) (by decide)];simp only[Vw,c4,b4,eE,seval];refine aC (PA m.name (by omega)) ?_
 try simp only[eE,seval]
 refine Qb (XD base 14 1100 m.name (-1) [] (by decide) rfl (by simp) (Xe m.name) 8 []) (by simp only[QF3,QGo,Qa,seval]<;>rfl) ?_;simp only[QFT,Qa,seval];have q1:=Q0 m.name (-1) (Xe m.name) 8;refine im3 hM m hm X base b4 _ (by omega) _ ⟨(by rfl),(by rfl),(by rfl),(by rfl)⟩ _ (fun f hf=>?_);have q2:=Qt q1 m.name (-1) (decide (m.fields.length≤64)&&decide (m.free.length≤16)&&decide (m.gone.length≤16)) 3;obtain⟨h2,h3,h4,h7⟩:=hf;simp only[Vx,c4,b4,QGK,h4,eE,seval];refine Ma hM S hS m hm X base b3 b4 _ (by omega) _ ⟨(by exact h2),(by exact h3),(by exact h4),(by exact h7)⟩ (by rfl) (by rfl) _ (fun f hf=>?_);clear h2 h3 h4 h7;have q3:=QN (l:=m.fields) (K1 S m) m.fields.length;obtain⟨h2,h3,h4,h7⟩:=hf;simp only[VC,c4,b4,h4,h7,eE,seval];have hsp:=Sz base 14 1100 m.name (pb m.name (-1) (Xe m.name) 8++pb m.name (-1) (decide (m.fields.length≤64)&&decide (m.free.length≤16)&&decide (m.gone.length≤16)) 3++upto m.fields (Jx S m) m.fields.length) (by decide) rfl 1 65535 m.free (by omega) [] (by rw[QF7];omega);refine Qb hsp (by simp only[QF3,QGo,Qa,seval]<;>rfl) ?_;simp only[FC,c4,b4,QGK,h4,eE,seval];have q4:=QN (l:=m.free) (Jz m.name 1 65535 m.free) m.free.length;have q5:(pb m.name (-1) (Xe m.name) 8++pb m.name (-1) (decide (m.fields.length≤64)&&decide (m.free.length≤16)&&decide (m.gone.length≤16)) 3++upto m.fields (Jx S m) m.fields.length++upto m.free (JQ m.name 1 65535 m.free) m.free.length).length≤99000000:=by
  rw[QF7,QF7];omega
 refine ER hM m hm X base _ (by omega) _ ⟨(by exact h2),(by exact h3),(by exact h4),(by exact h7)⟩ (by rfl) (by rfl) (by rfl) _ (fun f hf=>?_);clear h2 h3 h4 h7;have q6:=QN (l:=m.gone) (g:=fun _ g=>pb m.name (-1) (ZR g) 7) (c:=1) (fun _ g=>Q0 ..) m.gone.length;generalize hL:pb m.name (-1) (Xe m.name) 8++pb m.name (-1) (decide (m.fields.length≤64)&&decide (m.free.length≤16)&&decide (m.gone.length≤16)) 3++upto m.fields (Jx S m) m.fields.length++upto m.free (JQ m.name 1 65535 m.free) m.free.length++upto m.gone (fun _ g=>pb m.name (-1) (ZR g) 7) m.gone.length=L;have q7:L.length≤101000000:=by
  rw[←hL,QF7];omega
 obtain⟨h2,h3,h4,h7⟩:=hf;simp only[FI,c4,b4,h4,h7,eE,seval];refine Qb (UC base 14 1100 m.name (-1) L (by decide) rfl (by omega) [] m.notes (by simp only[maxLen];omega) hm.notes 1 (by decide)) (by simp only[QF3,QGo,Qa,seval]<;>rfl) ?_;have q8:(L++Xu m.name (-1) m.notes 1).length≤101000001:=Qt q7 _ _ _ _;simp only[FJ,c3,c4,b3,b4,h2,h3,h4,h7,eE,seval];refine aC hcy ?_;simp only[Qa,seval];refine Qb (XD base 14 1100 m.name (-1) (L++Xu m.name (-1) m.notes 1) (by decide) rfl (by omega) _ 19 []) (by simp only[QF3,QGo,Qa,seval]<;>rfl) ?_;have hfin:Z6 S (fun m=>(XX m).any fun n=>QZ S n && !X.contains n) m=L++Xu m.name (-1) m.notes 1++pb m.name (-1) (!(XX m).any fun n=>QZ S n && !X.contains n) 19:=by rw[←hL];rfl
 rw[←hfin];have ht:∀l:List PB,List.take l.length (List.map PB.av l)=List.map PB.av l:=fun l=>QF4 (by rw[QGK];exact QFx _)
 simp only[FK,cs,cR,h7,QGK,QGb,ht,QFW,QFx,QGr,QGw,AV.un,eE,seval]

theorem K2 (e:SE)(i:Nat)(x:SI):(Z7 e i x).length≤6:=by
 unfold Z7 Xu;exact Qt (Qt (Qt (Qt (Qt (Q0 _ _ _ _) _ _ _ _) _ _ _ _) _ _ _ _) _ _ _ _) _ _ _ _
theorem Z9 (x:SI):x.cells=[.str x.name,.int .i64 x.num,.list (x.notes.map fun n=>.agg n.cells)]:=rfl
theorem X1 (x:SE):x.cells=[.str x.name,.bool x.opn,.list (x.items.map fun n=>.agg n.cells),.list (x.free.map fun n=>.agg n.cells),.list (x.notes.map fun n=>.agg n.cells)]:=rfl

def EF (e:SE)(i:Nat)(f:Fr):Prop:=f 1=.ptr 0 1 0∧f 3=.ptr 0 9 0∧f 4=.int .i64 (i:Nat)∧f 5=.ptr 0 5 0∧f 48=.list (e.items.map ZK)∧f 49=.int .i64 (e.items.length:Nat)∧f 50=.int .i64 (i:Nat)

section
variable {M:Nat}(hM:M≤1048576)(e:SE)(he:e.ok M)(i:Nat)(x:SI)(hi:e.items[i]? = some x)
variable (fr:Nat→Ob)(o1:fr 1=.cells e.cells)(o5:fr 5=.cells x.cells)
variable (l:List PB)(hl:l.length≤1073741824)(f:Fr)(hf:EF e i f)(K:St→Prop)
include hl hf

include o5 in
theorem en9 (hK:∀f,EF e i f→K ⟨f,[Qo fr 9 1100 e.name x.num (l++pb e.name x.num (decide (x.num≥0)&&decide (x.num≤2147483647)) 6)],[]⟩):Qp Tryz.prog Dw ⟨f,[Qo fr 9 1100 e.name x.num l],[]⟩ K:=by
 obtain⟨h1,h3,h4,h5,h48,h49,h50⟩:=hf;have c5:∀n l,Qo fr 9 1100 e.name n l 5=fr 5:=fun n l=>QP _ _ _ _ _ _ (by decide) (by decide)
 rw[Z9]at o5;simp only[Dw,h3,h5,c5,o5,eE,seval];cases a1:decide (x.num≥0)
 ·rw[a1]at hK;simp only[Qa,seval];refine Qb (XD fr 9 1100 e.name x.num l (by decide) rfl hl false 6 []) (by simp only[QF3,QGo,Qa,seval]<;>rfl) ?_;simp only[Qa,seval];exact hK _ ⟨(by exact h1),(by exact h3),(by exact h4),(by exact h5),(by exact h48),(by exact h49),(by exact h50)⟩
 ·rw[a1]at hK;simp only[h5,c5,o5,eE,seval];refine Qb (XD fr 9 1100 e.name x.num l (by decide) rfl hl (decide (x.num≤2147483647)) 6 []) (by simp only[QF3,QGo,Qa,seval]<;>rfl) ?_;simp only[Qa,seval];exact hK _ ⟨(by exact h1),(by exact h3),(by exact h4),(by exact h5),(by exact h48),(by exact h49),(by exact h50)⟩

include o1 o5 hi hM he in
theorem QzD (hK:∀f,EF e i f→K ⟨f,[Qo fr 9 1100 e.name x.num (l++pb e.name x.num (JU e.items SI.num i x) 11)],[]⟩):Qp Tryz.prog W6 ⟨f,[Qo fr 9 1100 e.name x.num l],[]⟩ K:=by
 obtain⟨h1,h3,h4,h5,h48,h49,h50⟩:=hf;have c1:∀n l,Qo fr 9 1100 e.name n l 1=fr 1:=fun n l=>QP _ _ _ _ _ _ (by decide) (by decide)
 have c5:∀n l,Qo fr 9 1100 e.name n l 5=fr 5:=fun n l=>QP _ _ _ _ _ _ (by decide) (by decide)
 have hlt:i<e.items.length:=(QFz.1 hi).1;have hl1:=he.len1;rw[Z9]at o5;rw[X1]at o1;cases i with
 |zero=>
  simp only[W6,h3,h4,Qa,seval];refine Qb (XD fr 9 1100 e.name x.num l (by decide) rfl hl true 11 []) (by simp only[QF3,QGo,Qa,seval]<;>rfl) ?_;simp only[Qa,seval];exact hK _ ⟨(by exact h1),(by exact h3),(by exact h4),(by exact h5),(by exact h48),(by exact h49),(by exact h50)⟩
 |succ j=>
  obtain⟨y,hj⟩:∃y,e.items[j]? = some y:=⟨e.items[j]'(by omega),QFA (by omega)⟩;have hg:(e.items.map fun n=>AV.agg n.cells)[j]? = some (.agg y.cells):=by rw[QGI,hj];rfl
  have wj:=ZV j _ hlt (by simp only[maxLen];omega);have d0:(((j+1:Nat):Int)==0)=false:=by rw[QHc];omega
  rw[Z9]at hg;simp only[JU,hj]at hK;simp only[W6,d0,wj,Qj,QGM,Qe,hg,h1,h3,h4,h5,c1,c5,o1,o5,eE,seval];refine Qb (XD fr 9 1100 e.name x.num l (by decide) rfl hl (decide (x.num > y.num)) 11 []) (by simp only[QF3,QGo,Qa,seval]<;>rfl) ?_;simp only[Qa,seval];exact hK _ ⟨(by exact h1),(by exact h3),(by exact h4),(by exact h5),(by exact h48),(by exact h49),(by exact h50)⟩

include o5 in
theorem QzE (hK:∀f,EF e i f→K ⟨f,[Qo fr 9 1100 e.name x.num (l++pb e.name x.num (Q7 x.name) 8)],[]⟩):Qp Tryz.prog US ⟨f,[Qo fr 9 1100 e.name x.num l],[]⟩ K:=by
 obtain⟨h1,h3,h4,h5,h48,h49,h50⟩:=hf;have c5:∀n l,Qo fr 9 1100 e.name n l 5=fr 5:=fun n l=>QP _ _ _ _ _ _ (by decide) (by decide)
 rw[Z9]at o5;simp only[US,h3,h5,c5,o5,eE,seval];refine aC (Nh x.name) ?_
 try simp only[eE,seval]
 refine Qb (XD fr 9 1100 e.name x.num l (by decide) rfl hl (Q7 x.name) 8 []) (by simp only[QF3,QGo,Qa,seval]<;>rfl) ?_;simp only[Qa,seval];exact hK _ ⟨(by exact h1),(by exact h3),(by exact h4),(by exact h5),(by exact h48),(by exact h49),(by exact h50)⟩

include o1 hi hM he in
theorem QzF (hK:∀f,EF e i f→K ⟨f,[Qo fr 9 1100 e.name x.num (l++pb e.name x.num (!((e.items.take i).any fun y=>y.name==x.name)) 9)],[]⟩):Qp Tryz.prog UT ⟨f,[Qo fr 9 1100 e.name x.num l],[]⟩ K:=by
 obtain⟨h1,h3,h4,h5,h48,h49,h50⟩:=hf;have c1:∀n l,Qo fr 9 1100 e.name n l 1=fr 1:=fun n l=>QP _ _ _ _ _ _ (by decide) (by decide)
 have hl1:=he.len1;have hsn:=Qzs e.items (by simp only[maxLen];omega) i x hi 158 SI.name Qzo [Qo fr 9 1100 e.name x.num l];rw[X1]at o1;simp only[UT,h1,h3,h4,c1,o1,eE,seval];refine Qb hsn (by simp only[QF3,QGo,Qa,seval]<;>rfl) ?_;simp only[Qa,seval];refine Qb (XD fr 9 1100 e.name x.num l (by decide) rfl hl _ 9 []) (by simp only[QF3,QGo,Qa,seval]<;>rfl) ?_;simp only[Qa,seval];exact hK _ ⟨(by exact h1),(by exact h3),(by exact h4),(by exact h5),(by exact h48),(by exact h49),(by exact h50)⟩

include o1 o5 hM he in
theorem QzG (hK:∀f,EF e i f→K ⟨f,[Qo fr 9 1100 e.name x.num (l++pb e.name x.num (!(kept e.free x.num)) 21)],[]⟩):Qp Tryz.prog UU ⟨f,[Qo fr 9 1100 e.name x.num l],[]⟩ K:=by
 obtain⟨h1,h3,h4,h5,h48,h49,h50⟩:=hf;have c1:∀n l,Qo fr 9 1100 e.name n l 1=fr 1:=fun n l=>QP _ _ _ _ _ _ (by decide) (by decide)
 have c5:∀n l,Qo fr 9 1100 e.name n l 5=fr 5:=fun n l=>QP _ _ _ _ _ _ (by decide) (by decide)
 have hl2:=he.len2;have hr:Qr Tryz.prog 142 [.list (e.free.map fun n=>AV.agg n.cells),.int .i64 x.num] (.bool (kept e.free x.num)):=Pn e.free (by simp only[maxLen];omega) x.num;rw[Z9]at o5;rw[X1]at o1;simp only[UU,h1,h3,h5,c1,c5,o1,o5,eE,seval];refine aC hr ?_;simp only[Qa,seval];refine Qb (XD fr 9 1100 e.name x.num l (by decide) rfl hl _ 21 []) (by simp only[QF3,QGo,Qa,seval]<;>rfl) ?_;simp only[Qa,seval];exact hK _ ⟨(by exact h1),(by exact h3),(by exact h4),(by exact h5),(by exact h48),(by exact h49),(by exact h50)⟩

include o5 hM he hi in
theorem QzH (hK:∀f,EF e i f→K ⟨f,[Qo fr 9 1100 e.name x.num (l++Xu e.name x.num x.notes 4)],[]⟩):Qp Tryz.prog UV ⟨f,[Qo fr 9 1100 e.name x.num l],[]⟩ K:=by
 obtain⟨h1,h3,h4,h5,h48,h49,h50⟩:=hf;have c5:∀n l,Qo fr 9 1100 e.name n l 5=fr 5:=fun n l=>QP _ _ _ _ _ _ (by decide) (by decide)
 have hx:=he.items x (QFL hi);have hln:=hx.len;rw[Z9]at o5;simp only[UV,h3,h5,c5,o5,eE,seval];refine Qb (UC fr 9 1100 e.name x.num l (by decide) rfl hl [] x.notes (by simp only[maxLen];omega) hx.notes 4 (by decide)) (by simp only[QF3,QGo,Qa,seval]<;>rfl) ?_;simp only[Qa,seval];exact hK _ ⟨(by exact h1),(by exact h3),(by exact h4),(by exact h5),(by exact h48),(by exact h49),(by exact h50)⟩
end

section
variable {M:Nat}(hM:M≤1048576)(e:SE)(he:e.ok M)

include hM he in
theorem PC (l:List PB)(hl:l.length≤1000000)(n:Int)(f:Fr)(fr:Nat→Ob)(h1:f 1=.ptr 0 1 0)(h3:f 3=.ptr 0 9 0)(h48:f 48=.list (e.items.map ZK))(h49:f 49=.int .i64 (e.items.length:Nat))(h50:f 50=.int .i64 0)(o1:fr 1=.cells e.cells)(o5:fr 5=.none)(Q:Exit→St→Prop)
  (hq:∀(f:Fr) (fr:Nat→Ob) (n:Int),f 1=.ptr 0 1 0→f 3=.ptr 0 9 0→fr 1=.cells e.cells→Q (.exit 0) ⟨f,[Qo fr 9 1100 e.name n (l++upto e.items (Z7 e) e.items.length)],[]⟩):QJ Tryz.prog (.loop Ci) ⟨f,[Qo fr 9 1100 e.name n l],[]⟩ Q:=by
 let I:Nat→St→Prop:=fun k st=>∃f fr n i,st=⟨f,[Qo fr 9 1100 e.name n (l++upto e.items (Z7 e) i)],[]⟩∧k=e.items.length-i∧i≤e.items.length∧f 1=.ptr 0 1 0∧f 3=.ptr 0 9 0∧f 48=.list (e.items.map ZK)∧f 49=.int .i64 (e.items.length:Nat)∧f 50=.int .i64 (i:Nat)∧fr 1=.cells e.cells∧(fr 5).isRow=false
 have hl1:=he.len1;refine Qg I _ ⟨f,fr,n,0,by rw[upto,QGq],rfl,QFG _,h1,h3,h48,h49,h50,o1,by rw[o5];rfl⟩ ?_;clear h1 h3 h48 h49 h50 o1 o5;rintro _ st ⟨f0,fr0,n,i,rfl,rfl,hi,h10,h30,h480,h490,h500,XE,r5⟩;refine QD (a:=_) [5] (by intro s hs;simp only[QGF,QHk,or_false]at hs;subst hs;rw[QP _ _ _ _ _ _ (by decide) (by decide)];exact r5) ?_;intro f fr hf hmm hn;have h1:f 1=.ptr 0 1 0:=by rw[hf,h10]<;>rfl
 have h3:f 3=.ptr 0 9 0:=by rw[hf,h30]<;>rfl
 have h48:f 48=.list (e.items.map ZK):=by rw[hf,h480]<;>rfl
 have h49:f 49=.int .i64 (e.items.length:Nat):=by rw[hf,h490]<;>rfl
 have h50:f 50=.int .i64 (i:Nat):=by rw[hf,h500]<;>rfl
 have o1:fr 1=.cells e.cells:=by rw[hmm 1 (by decide),QP _ _ _ _ _ _ (by decide) (by decide),XE]<;>rfl
 have o9:fr 9=.cells [.str e.name,.int .i64 n,.vec 0 1100 (1+(l++upto e.items (Z7 e) i).length) 0 (l++upto e.items (Z7 e) i).length false]:=by rw[hmm 9 (by decide),Jr]<;>rfl
 have oR:fr 1100=.vec (1+(l++upto e.items (Z7 e) i).length) 3 ((l++upto e.items (Z7 e) i).map PB.av):=by rw[hmm 1100 (by decide),Ki _ _ _ _ _ _ (by decide)]<;>rfl
 have n5:=hn 5 (by decide);clear hf hmm hn h10 h30 h480 h490 h500 XE r5;simp only[Cf,h49,h50,Qa,seval];by_cases hlt:i<e.items.length
 case neg=>
  have ei:i=e.items.length:=by omega
  subst ei;simp only[QB hlt,Qa,seval];rw[←Yb o9 oR];exact hq _ _ _ (by exact h1) (by exact h3) o1
 obtain⟨x,hx⟩:∃x,e.items[i]? = some x:=⟨e.items[i],QFA hlt⟩;have hg:(e.items.map ZK)[i]? = some (.agg x.cells):=by rw[QGI,hx];rfl
 rw[Z9]at hg;have e1:=Qn i _ hlt (by simp only[maxLen];omega);have hul:=QN (l:=e.items) (K2 e) i;have q0:(l++upto e.items (Z7 e) i).length≤100000000:=by rw[QF7];omega
 simp only[Qz hlt,n5,Cg,Qj,QGM,Qe,hg,h48,h50,eE,seval];have hfe:Qx fr 5 (.cells [.str x.name,.int .i64 x.num,.list (x.notes.map fun n=>.agg n.cells)])=Qo (Qx fr 5 (.cells [.str x.name,.int .i64 x.num,.list (x.notes.map fun n=>.agg n.cells)])) 9 1100 e.name n (l++upto e.items (Z7 e) i):=(Yb (by exact o9) (by exact oR)).symm;rw[hfe];generalize hF:Qx fr 5 (.cells [.str x.name,.int .i64 x.num,.list (x.notes.map fun n=>.agg n.cells)])=F;have o1':F 1=.cells e.cells:=by rw[←hF];exact(by exact o1)
 have o5':F 5=.cells x.cells:=by rw[←hF,Z9];exact(by rfl)
 clear hfe hF o1 o9 oR n5;have cs:∀n l,Qo F 9 1100 e.name n l 9=.cells [.str e.name,.int .i64 n,.vec 0 1100 (1+l.length) 0 l.length false]:=fun n l=>Jr F 9 1100 e.name n l
 have c5:∀n l,Qo F 9 1100 e.name n l 5=F 5:=fun n l=>QP _ _ _ _ _ _ (by decide) (by decide)
 have cn:∀n l n',Qx (Qo F 9 1100 e.name n l) 9 (.cells [.str e.name,.int .i64 n',.vec 0 1100 (1+l.length) 0 l.length false])=Qo F 9 1100 e.name n' l:=fun n l n'=>K0 F 9 1100 e.name n l n'
 have o5s:=o5';rw[Z9]at o5s;simp only[Ch,cs,c5,cn,o5s,h3,eE,seval];refine en9 e i x F o5' _ (by omega) _ ⟨(by exact h1),(by exact h3),(by rfl),(by rfl),(by exact h48),(by exact h49),(by exact h50)⟩ _ (fun f hf=>?_);have q1:=Qt q0 e.name x.num (decide (x.num≥0)&&decide (x.num≤2147483647)) 6;simp only[Qa,seval];refine QzD hM e he i x hx F o1' o5' _ (by omega) f hf _ (fun f hf=>?_);have q2:=Qt q1 e.name x.num (JU e.items SI.num i x) 11;simp only[Qa,seval];refine QzE e i x F o5' _ (by omega) f hf _ (fun f hf=>?_);have q3:=Qt q2 e.name x.num (Q7 x.name) 8;simp only[Qa,seval];refine QzF hM e he i x hx F o1' _ (by omega) f hf _ (fun f hf=>?_);have q4:=Qt q3 e.name x.num (!((e.items.take i).any fun y=>y.name==x.name)) 9;simp only[Qa,seval];refine QzG hM e he i x F o1' o5' _ (by omega) f hf _ (fun f hf=>?_);have q5:=Qt q4 e.name x.num (!(kept e.free x.num)) 21;simp only[Qa,seval];refine QzH hM e he i x hx F o5' _ (by omega) f hf _ (fun f hf=>?_);clear h1 h3 h48 h49 h50;obtain⟨h1,h3,h4,h5,h48,h49,h50⟩:=hf;simp only[FM,h50,e1,Qa,seval];exact⟨e.items.length-(i+1),by omega,_,F,x.num,i+1,by rw[X5 hx];unfold Z7;simp only[QFR]<;>rfl,rfl,by omega,(by exact h1),(by exact h3),(by exact h48),(by exact h49),(by rfl),o1',by rw[o5'];rfl⟩
end

section
variable {M:Nat}(hM:M≤1048576)(e:SE)(he:e.ok M)(base:Nat→Ob)(o1:base 1=.cells e.cells)
variable (l:List PB)(hl:l.length≤1000000)(f:Fr)(h1:f 1=.ptr 0 1 0)(h3:f 3=.ptr 0 9 0)(K:St→Prop)
include hM he o1 hl h1 h3

theorem en3 (hK:∀f:Fr,f 1=.ptr 0 1 0→f 3=.ptr 0 9 0→K ⟨f,[Qo base 9 1100 e.name (-1) (l++pb e.name (-1) (decide (e.items.length≥1)&&decide (e.items.length≤64)&&decide (e.free.length≤16)) 3)],[]⟩):Qp Tryz.prog Du ⟨f,[Qo base 9 1100 e.name (-1) l],[]⟩ K:=by
 have c1:∀n l,Qo base 9 1100 e.name n l 1=base 1:=fun n l=>QP _ _ _ _ _ _ (by decide) (by decide)
 have d1:decide ((e.items.length:Int)≥1)=decide (e.items.length≥1):=(by rw[QGj];simp only[QGH];omega);have d3:decide ((e.free.length:Int)≤16)=decide (e.free.length≤16):=(by rw[QGj];simp only[QGH];omega);rw[X1]at o1;simp only[Du,c1,o1,QGK,d1,h1,h3,eE,seval];cases a1:decide (e.items.length≥1)
 ·rw[a1]at hK;simp only[Qa,seval];refine Qb (XD base 9 1100 e.name (-1) l (by decide) rfl (by omega) false 3 []) (by simp only[QF3,QGo,Qa,seval]<;>rfl) ?_;simp only[Qa,seval];exact hK _ (by exact h1) (by exact h3)
 simp only[c1,o1,QGK,Ni,h1,eE,seval];cases a2:decide (e.items.length≤64)
 ·rw[a1,a2]at hK;simp only[Qa,seval];refine Qb (XD base 9 1100 e.name (-1) l (by decide) rfl (by omega) false 3 []) (by simp only[QF3,QGo,Qa,seval]<;>rfl) ?_;simp only[Qa,seval];exact hK _ (by exact h1) (by exact h3)
 rw[a1,a2]at hK;simp only[c1,o1,QGK,d3,h1,eE,seval];refine Qb (XD base 9 1100 e.name (-1) l (by decide) rfl (by omega) (decide (e.free.length≤16)) 3 []) (by simp only[QF3,QGo,Qa,seval]<;>rfl) ?_;simp only[Qa,seval];exact hK _ (by exact h1) (by exact h3)

theorem en4 (hK:∀f:Fr,f 1=.ptr 0 1 0→f 3=.ptr 0 9 0→K ⟨f,[Qo base 9 1100 e.name (-1) (l++pb e.name (-1) (ZD e) 14)],[]⟩):Qp Tryz.prog Dv ⟨f,[Qo base 9 1100 e.name (-1) l],[]⟩ K:=by
 have c1:∀n l,Qo base 9 1100 e.name n l 1=base 1:=fun n l=>QP _ _ _ _ _ _ (by decide) (by decide)
 have z1:Int.toNat 0=0:=rfl;have z0:(0≤(0:Int))=True:=by simp
 rw[X1]at o1;simp only[Dv,c1,o1,QGK,ZQ,h1,h3,eE,seval];cases hi:e.items with
 |nil=>
  have e0:ZD e=true:=by unfold ZD;rw[hi]
  rw[e0]at hK;simp only[QGy,Qa,seval];refine Qb (XD base 9 1100 e.name (-1) l (by decide) rfl (by omega) true 14 []) (by simp only[QF3,QGo,Qa,seval]<;>rfl) ?_;simp only[Qa,seval];exact hK _ (by exact h1) (by exact h3)
 |cons x r=>
  have e0:ZD e=(x.num==0):=by unfold ZD;rw[hi]
  have b0:((x :: r).length==0)=false:=rfl;have hg:((x :: r).map fun n:SI=>AV.agg n.cells)[0]? = some (.agg [.str x.name,.int .i64 x.num,.list (x.notes.map fun n=>.agg n.cells)]):=rfl;rw[e0]at hK;rw[hi]at o1;simp only[c1,o1,z0,z1,Qe,hg,h1,eE,seval];refine Qb (XD base 9 1100 e.name (-1) l (by decide) rfl (by omega) (x.num==0) 14 []) (by simp only[QF3,QGo,Qa,seval]<;>rfl) ?_;simp only[Qa,seval];exact hK _ (by exact h1) (by exact h3)
end

theorem QzI {M:Nat}(hM:M≤1048576)(e:SE)(he:e.ok M):Qr Tryz.prog 103 [XM e] (.list ((ZZ e).map PB.av)):=by
 have hl1:=he.len1;have hl2:=he.len2;have hl3:=he.len3;have hnl:=he.name;refine Qux.fn (by simp) ?_;simp only[QeY,QeZ,Cb,Cc,XM,X1 e,eE,seval];refine Xz rfl rfl rfl rfl ?_;generalize hb:(Qx Qc 1 _:Nat→Ob)=base;have o1:base 1=.cells e.cells:=by rw[←hb,X1];exact(by rfl)
 have c1:∀n l,Qo base 9 1100 e.name n l 1=base 1:=fun n l=>QP _ _ _ _ _ _ (by decide) (by decide)
 have o1s:=o1;rw[X1]at o1s;rw[H7 base 9 1100 e.name (-1) (by decide)];simp only[Cd,c1,o1s,eE,seval];refine aC (PA e.name (by omega)) ?_
 try simp only[eE,seval]
 refine Qb (XD base 9 1100 e.name (-1) [] (by decide) rfl (by simp) (Xe e.name) 8 []) (by simp only[QF3,QGo,Qa,seval]<;>rfl) ?_;simp only[QFT,Qa,seval];have q1:=Q0 e.name (-1) (Xe e.name) 8;refine en3 hM e he base o1 _ (by omega) _ (by rfl) (by rfl) _ (fun f h1 h3=>?_);have q2:=Qt q1 e.name (-1) (decide (e.items.length≥1)&&decide (e.items.length≤64)&&decide (e.free.length≤16)) 3;simp only[Qa,seval];refine en4 hM e he base o1 _ (by omega) _ h1 h3 _ (fun f h1 h3=>?_);have q3:=Qt q2 e.name (-1) (ZD e) 14;simp only[Ce,c1,o1s,QGK,h1,eE,seval];refine PC hM e he _ (by omega) (-1) _ base (by exact h1) (by exact h3) (by rfl) (by rfl) (by rfl) o1 (by rw[←hb];exact(by rfl)) _ (fun f F n h1 h3 o1=>?_);clear c1 o1s hb;have q4:=QN (l:=e.items) (K2 e) e.items.length;have o1s:=o1;rw[X1]at o1s;have c1:∀n l,Qo F 9 1100 e.name n l 1=F 1:=fun n l=>QP _ _ _ _ _ _ (by decide) (by decide)
 have cs:∀n l,Qo F 9 1100 e.name n l 9=.cells [.str e.name,.int .i64 n,.vec 0 1100 (1+l.length) 0 l.length false]:=fun n l=>Jr F 9 1100 e.name n l
 have cn:∀n l n',Qx (Qo F 9 1100 e.name n l) 9 (.cells [.str e.name,.int .i64 n',.vec 0 1100 (1+l.length) 0 l.length false])=Qo F 9 1100 e.name n' l:=fun n l n'=>K0 F 9 1100 e.name n l n'
 have cR:∀n l,Qo F 9 1100 e.name n l 1100=.vec (1+l.length) 3 (l.map PB.av):=fun n l=>Ki F 9 1100 e.name n l (by decide)
 simp only[FN,FO,cs,cn,c1,o1s,h1,h3,eE,seval];generalize hL:pb e.name (-1) (Xe e.name) 8++pb e.name (-1) (decide (e.items.length≥1)&&decide (e.items.length≤64)&&decide (e.free.length≤16)) 3++pb e.name (-1) (ZD e) 14++upto e.items (Z7 e) e.items.length=L;have q5:L.length≤10000000:=by
  rw[←hL,QF7];omega
 have hsp:=Sz F 9 1100 e.name L (by decide) rfl 0 2147483647 e.free (by omega) [] (by omega);refine Qb hsp (by simp only[QF3,QGo,Qa,seval]<;>rfl) ?_;have q6:=QN (l:=e.free) (Jz e.name 0 2147483647 e.free) e.free.length;have q7:(L++upto e.free (JQ e.name 0 2147483647 e.free) e.free.length).length≤20000000:=by
  rw[QF7];omega
 simp only[FP,c1,o1s,h1,h3,eE,seval];refine Qb (UC F 9 1100 e.name (-1) _ (by decide) rfl (by omega) [] e.notes (by simp only[maxLen];omega) he.notes 3 (by decide)) (by simp only[QF3,QGo,Qa,seval]<;>rfl) ?_;have hfin:ZZ e=L++upto e.free (JQ e.name 0 2147483647 e.free) e.free.length++Xu e.name (-1) e.notes 3:=by rw[←hL];rfl
 rw[←hfin];have ht:∀l:List PB,List.take l.length (List.map PB.av l)=List.map PB.av l:=fun l=>QF4 (by rw[QGK];exact QFx _)
 simp only[FQ,cs,cR,h3,QGK,QGb,ht,QFW,QFx,QGr,QGw,AV.un,eE,seval]

theorem K3 (S:SC)(v:SQ)(i:Nat)(x:SO):(Jy S v i x).length≤5:=by
 unfold Jy Xu;exact Qt (Qt (Qt (Qt (Q0 _ _ _ _) _ _ _ _) _ _ _ _) _ _ _ _) _ _ _ _
theorem Kd (x:SO):x.cells=[.str x.name,.str x.inn,.str x.out,.int .i64 x.shape,.list (x.notes.map fun n=>.agg n.cells)]:=rfl
theorem J9 (x:SQ):x.cells=[.str x.name,.list (x.meths.map fun n=>.agg n.cells),.list (x.notes.map fun n=>.agg n.cells)]:=rfl
def Mb (x:SO):AV:=.agg x.cells
def KL (x:SQ):AV:=.agg x.cells
def HN (l:List SO)(i:Nat)(x:SO):Bool:=match i with
 |0=>true
 |j+1=>match l[j]? with
  |none=>true
  |some y=>Op.bytesLess y.name x.name
theorem Mc (S:SC)(v:SQ)(i:Nat)(x:SO):Jy S v i x=pb v.name (i:Int) (Q7 x.name) 8++pb v.name (i:Int) (HN v.meths i x) 11++pb v.name (i:Int) (QZ S x.inn&&QZ S x.out) 12++pb v.name (i:Int) (decide (x.shape≥1)&&decide (x.shape≤4)) 1++Xu v.name (i:Int) x.notes 6:=by
 cases i<;>rfl
theorem Bn (a b:List UInt8):(!(Op.bytesLess a b||a==b))=Op.bytesLess b a:=by
 cases h1:Op.bytesLess a b
 ·cases h2:Op.bytesLess b a
  ·have:=HK h1 h2;subst this;simp
  ·have hne:(a==b)=false:=by
    rw[QHc];rintro rfl;rw[J7]at h2;cases h2
   rw[hne];rfl
 ·cases h2:Op.bytesLess b a
  ·rfl
  ·have:=YJ h1 h2;rw[J7]at this;cases this

def QF (v:SQ)(i:Nat)(f:Fr):Prop:=f 2=.ptr 0 2 0∧f 3=.ptr 0 3 0∧f 5=.ptr 0 15 0∧f 6=.int .i64 (i:Nat)∧f 7=.ptr 0 7 0∧f 28=.list (v.meths.map Mb)∧f 29=.int .i64 (v.meths.length:Nat)∧f 30=.int .i64 (i:Nat)

section
variable {M:Nat}(hM:M≤1048576)(S:SC)(hS:S.ok M)(v:SQ)(hv:v.ok M)(i:Nat)(x:SO)(hi:v.meths[i]? = some x)
variable (fr:Nat→Ob)(o2:fr 2=.cells [.list (S.msgs.map fun n=>.agg n.cells),.list (S.enums.map fun n=>.agg n.cells),.list (S.servs.map fun n=>.agg n.cells)])(o3:fr 3=.cells v.cells)(o7:fr 7=.cells x.cells)
variable (l:List PB)(hl:l.length≤1073741824)(f:Fr)(hf:QF v i f)(K:St→Prop)
include hl hf

include o7 in
theorem sq8 (hK:∀f,QF v i f→K ⟨f,[Qo fr 15 1100 v.name (i:Int) (l++pb v.name (i:Int) (Q7 x.name) 8)],[]⟩):Qp Tryz.prog Dx ⟨f,[Qo fr 15 1100 v.name (i:Int) l],[]⟩ K:=by
 obtain⟨h2,h3,h5,h6,h7,h28,h29,h30⟩:=hf;have c7:∀n l,Qo fr 15 1100 v.name n l 7=fr 7:=fun n l=>QP _ _ _ _ _ _ (by decide) (by decide)
 rw[Kd]at o7;simp only[Dx,h5,h7,c7,o7,eE,seval];refine aC (Nh x.name) ?_
 try simp only[eE,seval]
 refine Qb (XD fr 15 1100 v.name (i:Int) l (by decide) rfl hl (Q7 x.name) 8 []) (by simp only[QF3,QGo,Qa,seval]<;>rfl) ?_;simp only[Qa,seval];exact hK _ ⟨(by exact h2),(by exact h3),(by exact h5),(by exact h6),(by exact h7),(by exact h28),(by exact h29),(by exact h30)⟩

include o3 o7 hi hM hv in
theorem sq9 (hK:∀f,QF v i f→K ⟨f,[Qo fr 15 1100 v.name (i:Int) (l++pb v.name (i:Int) (HN v.meths i x) 11)],[]⟩):Qp Tryz.prog Us ⟨f,[Qo fr 15 1100 v.name (i:Int) l],[]⟩ K:=by
 obtain⟨h2,h3,h5,h6,h7,h28,h29,h30⟩:=hf;have c3:∀n l,Qo fr 15 1100 v.name n l 3=fr 3:=fun n l=>QP _ _ _ _ _ _ (by decide) (by decide)
 have c7:∀n l,Qo fr 15 1100 v.name n l 7=fr 7:=fun n l=>QP _ _ _ _ _ _ (by decide) (by decide)
 have hlt:i<v.meths.length:=(QFz.1 hi).1;have hl1:=hv.len1;rw[Kd]at o7;rw[J9]at o3;cases i with
 |zero=>
  simp only[Us,h5,h6,Qa,seval];refine Qb (XD fr 15 1100 v.name _ l (by decide) rfl hl true 11 []) (by simp only[QF3,QGo,Qa,seval]<;>rfl) ?_;simp only[Qa,seval];exact hK _ ⟨(by exact h2),(by exact h3),(by exact h5),(by exact h6),(by exact h7),(by exact h28),(by exact h29),(by exact h30)⟩
 |succ j=>
  obtain⟨y,hj⟩:∃y,v.meths[j]? = some y:=⟨v.meths[j]'(by omega),QFA (by omega)⟩;have hg:(v.meths.map fun n=>AV.agg n.cells)[j]? = some (.agg y.cells):=by rw[QGI,hj];rfl
  have wj:=ZV j _ hlt (by simp only[maxLen];omega);have d0:(((j+1:Nat):Int)==0)=false:=by rw[QHc];omega
  have ha:Qy .gtr x.name y.name=some (.bool (Op.bytesLess y.name x.name)):=by rw[←Bn];rfl
  rw[Kd]at hg;simp only[HN,hj]at hK;simp only[Us,d0,wj,ha,Qj,QGM,Qe,hg,h3,h5,h6,h7,c3,c7,o3,o7,eE,seval];refine Qb (XD fr 15 1100 v.name _ l (by decide) rfl hl (Op.bytesLess y.name x.name) 11 []) (by simp only[QF3,QGo,Qa,seval]<;>rfl) ?_;simp only[Qa,seval];exact hK _ ⟨(by exact h2),(by exact h3),(by exact h5),(by exact h6),(by exact h7),(by exact h28),(by exact h29),(by exact h30)⟩

theorem QzJ (a b:Bool)(h9:f 9=.bool a)(h11:f 11=.bool b)(hK:∀f,QF v i f→K ⟨f,[Qo fr 15 1100 v.name (i:Int) (l++pb v.name (i:Int) (a&&b) 12)],[]⟩):Qp Tryz.prog UW ⟨f,[Qo fr 15 1100 v.name (i:Int) l],[]⟩ K:=by
 obtain⟨h2,h3,h5,h6,h7,h28,h29,h30⟩:=hf;simp only[UW,h5,h9,Qa,seval];cases a
 ·simp only[Qa,seval];refine Qb (XD fr 15 1100 v.name (i:Int) l (by decide) rfl hl false 12 []) (by simp only[QF3,QGo,Qa,seval]<;>rfl) ?_;simp only[Qa,seval];exact hK _ ⟨(by exact h2),(by exact h3),(by exact h5),(by exact h6),(by exact h7),(by exact h28),(by exact h29),(by exact h30)⟩
 ·rw[QG0]at hK;simp only[h11,Qa,seval];refine Qb (XD fr 15 1100 v.name (i:Int) l (by decide) rfl hl b 12 []) (by simp only[QF3,QGo,Qa,seval]<;>rfl) ?_;simp only[Qa,seval];exact hK _ ⟨(by exact h2),(by exact h3),(by exact h5),(by exact h6),(by exact h7),(by exact h28),(by exact h29),(by exact h30)⟩

include o7 in
theorem QzK (hK:∀f,QF v i f→K ⟨f,[Qo fr 15 1100 v.name (i:Int) (l++pb v.name (i:Int) (decide (x.shape≥1)&&decide (x.shape≤4)) 1)],[]⟩):Qp Tryz.prog UX ⟨f,[Qo fr 15 1100 v.name (i:Int) l],[]⟩ K:=by
 obtain⟨h2,h3,h5,h6,h7,h28,h29,h30⟩:=hf;have c7:∀n l,Qo fr 15 1100 v.name n l 7=fr 7:=fun n l=>QP _ _ _ _ _ _ (by decide) (by decide)
 rw[Kd]at o7;simp only[UX,h5,h7,c7,o7,eE,seval];cases a1:decide (x.shape≥1)
 ·rw[a1]at hK;simp only[Qa,seval];refine Qb (XD fr 15 1100 v.name (i:Int) l (by decide) rfl hl false 1 []) (by simp only[QF3,QGo,Qa,seval]<;>rfl) ?_;simp only[Qa,seval];exact hK _ ⟨(by exact h2),(by exact h3),(by exact h5),(by exact h6),(by exact h7),(by exact h28),(by exact h29),(by exact h30)⟩
 ·rw[a1]at hK;simp only[h7,c7,o7,eE,seval];refine Qb (XD fr 15 1100 v.name (i:Int) l (by decide) rfl hl (decide (x.shape≤4)) 1 []) (by simp only[QF3,QGo,Qa,seval]<;>rfl) ?_;simp only[Qa,seval];exact hK _ ⟨(by exact h2),(by exact h3),(by exact h5),(by exact h6),(by exact h7),(by exact h28),(by exact h29),(by exact h30)⟩

include o7 hM hv hi in
theorem QzL (hK:∀f,QF v i f→K ⟨f,[Qo fr 15 1100 v.name (i:Int) (l++Xu v.name (i:Int) x.notes 6)],[]⟩):Qp Tryz.prog UY ⟨f,[Qo fr 15 1100 v.name (i:Int) l],[]⟩ K:=by
 obtain⟨h2,h3,h5,h6,h7,h28,h29,h30⟩:=hf;have c7:∀n l,Qo fr 15 1100 v.name n l 7=fr 7:=fun n l=>QP _ _ _ _ _ _ (by decide) (by decide)
 have hx:=hv.meths x (QFL hi);have hln:=hx.len;rw[Kd]at o7;simp only[UY,h5,h7,c7,o7,eE,seval];refine Qb (UC fr 15 1100 v.name (i:Int) l (by decide) rfl hl [] x.notes (by simp only[maxLen];omega) hx.notes 6 (by decide)) (by simp only[QF3,QGo,Qa,seval]<;>rfl) ?_;simp only[Qa,seval];exact hK _ ⟨(by exact h2),(by exact h3),(by exact h5),(by exact h6),(by exact h7),(by exact h28),(by exact h29),(by exact h30)⟩
end

section
variable {M:Nat}(hM:M≤1048576)(S:SC)(hS:S.ok M)(v:SQ)(hv:v.ok M)

include hM hS hv in
theorem PD (l:List PB)(hl:l.length≤1000000)(n:Int)(f:Fr)(fr:Nat→Ob)(h2:f 2=.ptr 0 2 0)(h3:f 3=.ptr 0 3 0)(h5:f 5=.ptr 0 15 0)(h28:f 28=.list (v.meths.map Mb))(h29:f 29=.int .i64 (v.meths.length:Nat))(h30:f 30=.int .i64 0)
  (o2:fr 2=.cells [.list (S.msgs.map fun n=>.agg n.cells),.list (S.enums.map fun n=>.agg n.cells),.list (S.servs.map fun n=>.agg n.cells)]) (o3:fr 3=.cells v.cells) (o7:∀s∈[7,8,10],fr s=.none) (Q:Exit→St→Prop)
  (hq:∀(f:Fr) (fr:Nat→Ob) (n:Int),f 3=.ptr 0 3 0→f 5=.ptr 0 15 0→fr 3=.cells v.cells→Q (.exit 0) ⟨f,[Qo fr 15 1100 v.name n (l++upto v.meths (Jy S v) v.meths.length)],[]⟩):QJ Tryz.prog (.loop Cs) ⟨f,[Qo fr 15 1100 v.name n l],[]⟩ Q:=by
 let I:Nat→St→Prop:=fun k st=>∃f fr n i,st=⟨f,[Qo fr 15 1100 v.name n (l++upto v.meths (Jy S v) i)],[]⟩∧k=v.meths.length-i∧i≤v.meths.length∧f 2=.ptr 0 2 0∧f 3=.ptr 0 3 0∧f 5=.ptr 0 15 0∧f 28=.list (v.meths.map Mb)∧f 29=.int .i64 (v.meths.length:Nat)∧f 30=.int .i64 (i:Nat)∧
  fr 2=.cells [.list (S.msgs.map fun n=>.agg n.cells),.list (S.enums.map fun n=>.agg n.cells),.list (S.servs.map fun n=>.agg n.cells)]∧fr 3=.cells v.cells∧∀s∈[7,8,10],(fr s).isRow=false
 obtain⟨l1,_,_⟩:=Zn S hS hM;have hl1:=hv.len1;refine Qg I _ ⟨f,fr,n,0,by rw[upto,QGq],rfl,QFG _,h2,h3,h5,h28,h29,h30,o2,o3,fun s hs=>by rw[o7 s hs];rfl⟩ ?_;clear h2 h3 h5 h28 h29 h30 o2 o3 o7;rintro _ st ⟨f0,fr0,n,i,rfl,rfl,hi,h20,h30',h50,h280,h290,h300,JS,JJ,r7⟩;refine QD (a:=_) [10,8,7] (by
  intro s hs;simp only[QGF,QHk,or_false]at hs;have h1:s≠1100∧s≠15:=by omega
  rw[QP _ _ _ _ _ _ h1.1 h1.2];exact r7 s (by simp only[QGF,QHk,or_false];omega)) ?_
 intro f fr hf hmm hn;have h2:f 2=.ptr 0 2 0:=by rw[hf,h20]<;>rfl
 have h3:f 3=.ptr 0 3 0:=by rw[hf,h30']<;>rfl
 have h5:f 5=.ptr 0 15 0:=by rw[hf,h50]<;>rfl
 have h28:f 28=.list (v.meths.map Mb):=by rw[hf,h280]<;>rfl
 have h29:f 29=.int .i64 (v.meths.length:Nat):=by rw[hf,h290]<;>rfl
 have h30:f 30=.int .i64 (i:Nat):=by rw[hf,h300]<;>rfl
 have o2:fr 2=.cells [.list (S.msgs.map fun n=>.agg n.cells),.list (S.enums.map fun n=>.agg n.cells),.list (S.servs.map fun n=>.agg n.cells)]:=by rw[hmm 2 (by decide),QP _ _ _ _ _ _ (by decide) (by decide),JS]<;>rfl
 have o3:fr 3=.cells v.cells:=by rw[hmm 3 (by decide),QP _ _ _ _ _ _ (by decide) (by decide),JJ]<;>rfl
 have o9:fr 15=.cells [.str v.name,.int .i64 n,.vec 0 1100 (1+(l++upto v.meths (Jy S v) i).length) 0 (l++upto v.meths (Jy S v) i).length false]:=by rw[hmm 15 (by decide),Jr]<;>rfl
 have oR:fr 1100=.vec (1+(l++upto v.meths (Jy S v) i).length) 3 ((l++upto v.meths (Jy S v) i).map PB.av):=by rw[hmm 1100 (by decide),Ki _ _ _ _ _ _ (by decide)]<;>rfl
 have n7:=hn 7 (by decide);have n8:=hn 8 (by decide);have n10:=hn 10 (by decide);clear hf hmm hn h20 h30' h50 h280 h290 h300 JS JJ r7;simp only[Co,h29,h30,Qa,seval];by_cases hlt:i<v.meths.length
 case neg=>
  have ei:i=v.meths.length:=by omega
  subst ei;simp only[QB hlt,Qa,seval];rw[←Yb o9 oR];exact hq _ _ _ (by exact h3) (by exact h5) o3
 obtain⟨x,hx⟩:∃x,v.meths[i]? = some x:=⟨v.meths[i],QFA hlt⟩;have hg:(v.meths.map Mb)[i]? = some (.agg x.cells):=by rw[QGI,hx];rfl
 rw[Kd]at hg;have e1:=Qn i _ hlt (by simp only[maxLen];omega);have hul:=QN (l:=v.meths) (K3 S v) i;have q0:(l++upto v.meths (Jy S v) i).length≤100000000:=by rw[QF7];omega
 simp only[Qz hlt,n7,Cq,Qj,QGM,Qe,hg,h28,h30,eE,seval];have hfe:Qx fr 7 (.cells [.str x.name,.str x.inn,.str x.out,.int .i64 x.shape,.list (x.notes.map fun n=>.agg n.cells)])=Qo (Qx fr 7 (.cells [.str x.name,.str x.inn,.str x.out,.int .i64 x.shape,.list (x.notes.map fun n=>.agg n.cells)])) 15 1100 v.name n (l++upto v.meths (Jy S v) i):=(Yb (by exact o9) (by exact oR)).symm;rw[hfe];generalize hF:Qx fr 7 (.cells [.str x.name,.str x.inn,.str x.out,.int .i64 x.shape,.list (x.notes.map fun n=>.agg n.cells)])=F;have o2':F 2=.cells [.list (S.msgs.map fun n=>.agg n.cells),.list (S.enums.map fun n=>.agg n.cells),.list (S.servs.map fun n=>.agg n.cells)]:=by rw[←hF];exact(by exact o2)
 have o3':F 3=.cells v.cells:=by rw[←hF];exact(by exact o3)
 have o7':F 7=.cells x.cells:=by rw[←hF,Kd];exact(by rfl)
 have n8':F 8=.none:=by rw[←hF];exact(by exact n8)
 have n10':F 10=.none:=by rw[←hF];exact(by exact n10)
 clear hfe hF o2 o3 o9 oR n7 n8 n10;have cs:∀n l,Qo F 15 1100 v.name n l 15=.cells [.str v.name,.int .i64 n,.vec 0 1100 (1+l.length) 0 l.length false]:=fun n l=>Jr F 15 1100 v.name n l
 have cn:∀n l n',Qx (Qo F 15 1100 v.name n l) 15 (.cells [.str v.name,.int .i64 n',.vec 0 1100 (1+l.length) 0 l.length false])=Qo F 15 1100 v.name n' l:=fun n l n'=>K0 F 15 1100 v.name n l n'
 simp only[Cr,cs,cn,h5,eE,seval];refine sq8 v i x F o7' _ (by omega) _ ⟨(by exact h2),(by exact h3),(by exact h5),(by rfl),(by rfl),(by exact h28),(by exact h29),(by exact h30)⟩ _ (fun f hf=>?_);have q1:=Qt q0 v.name (i:Int) (Q7 x.name) 8;simp only[Qa,seval];refine sq9 hM v hv i x hx F o3' o7' _ (by omega) f hf _ (fun f hf=>?_);have q2:=Qt q1 v.name (i:Int) (HN v.meths i x) 11;clear h2 h3 h5 h28 h29 h30;obtain⟨h2,h3,h5,h6,h7,h28,h29,h30⟩:=hf;have hc1:=Hk S l1 x.inn;have hc2:=Hk S l1 x.out;simp only[QW,SM.cells,SC.av]at hc1 hc2;have c2:∀n l,Qo F 15 1100 v.name n l 2=F 2:=fun n l=>QP _ _ _ _ _ _ (by decide) (by decide)
 have c7:∀n l,Qo F 15 1100 v.name n l 7=F 7:=fun n l=>QP _ _ _ _ _ _ (by decide) (by decide)
 have c8:∀n l,Qo F 15 1100 v.name n l 8=F 8:=fun n l=>QP _ _ _ _ _ _ (by decide) (by decide)
 have c10:∀n l,Qo F 15 1100 v.name n l 10=F 10:=fun n l=>QP _ _ _ _ _ _ (by decide) (by decide)
 have o7s:=o7';rw[Kd]at o7s;simp only[FR,c2,c7,o2',o7s,h2,h7,eE,seval];refine aC hc1 ?_;simp only[FS,c2,c7,c8,o2',o7s,n8',h2,h7,eE,seval];refine aC hc2 ?_;simp only[c10,n10',eE,seval];rw[Hm (by decide) (by decide),Hm (by decide) (by decide)];generalize hF2:Qx (Qx F 8 _) 10 _=F2;have o2'':F2 2=F 2:=by rw[←hF2];exact(by rfl)
 have o3'':F2 3=F 3:=by rw[←hF2];exact(by rfl)
 have o7'':F2 7=F 7:=by rw[←hF2];exact(by rfl)
 have r8:(F2 8).isRow=false:=by rw[←hF2];rfl
 have r10:(F2 10).isRow=false:=by rw[←hF2];rfl
 clear hF2;refine QzJ v i F2 _ (by omega) _ ⟨(by exact h2),(by exact h3),(by exact h5),(by exact h6),(by exact h7),(by exact h28),(by exact h29),(by exact h30)⟩ _ (QZ S x.inn) (QZ S x.out) (by rfl) (by rfl) (fun f hf=>?_);have q3:=Qt q2 v.name (i:Int) (QZ S x.inn&&QZ S x.out) 12;simp only[Qa,seval];refine QzK v i x F2 (by rw[o7'',o7']) _ (by omega) f hf _ (fun f hf=>?_);have q4:=Qt q3 v.name (i:Int) (decide (x.shape≥1)&&decide (x.shape≤4)) 1;simp only[Qa,seval];refine QzL hM v hv i x hx F2 (by rw[o7'',o7']) _ (by omega) f hf _ (fun f hf=>?_);clear h2 h3 h5 h6 h7 h28 h29 h30;obtain⟨h2,h3,h5,h6,h7,h28,h29,h30⟩:=hf;simp only[FT,h30,e1,Qa,seval];exact⟨v.meths.length-(i+1),by omega,_,F2,(i:Int),i+1,by rw[X5 hx,Mc];simp only[QFR]<;>rfl,rfl,by omega,(by exact h2),(by exact h3),(by exact h5),(by exact h28),(by exact h29),(by rfl),by rw[o2'',o2'],by rw[o3'',o3'],by
  intro s hs;simp only[QGF,QHk,or_false]at hs;rcases hs with rfl|rfl|rfl
  ·rw[o7'',o7'];rfl
  ·exact r8
  ·exact r10⟩
end

theorem QzM {M:Nat}(hM:M≤1048576)(S:SC)(hS:S.ok M)(v:SQ)(hv:v.ok M):Qr Tryz.prog 104 [S.av,KL v] (.list ((Je S v).map PB.av)):=by
 have hl1:=hv.len1;have hl2:=hv.len2;have hnl:=hv.name;refine Quy.fn (by simp) ?_;simp only[Qe0,Qe1,Cj,Ck,SC.av,KL,J9 v,eE,seval];refine Xz rfl rfl rfl rfl ?_;generalize hb:(Qx (Qx Qc 2 _) 3 _:Nat→Ob)=base;have o2:base 2=.cells [.list (S.msgs.map fun n=>.agg n.cells),.list (S.enums.map fun n=>.agg n.cells),.list (S.servs.map fun n=>.agg n.cells)]:=by rw[←hb];exact(by rfl)
 have o3:base 3=.cells v.cells:=by rw[←hb,J9];exact(by rfl)
 have o7:∀s∈[7,8,10],base s=.none:=by
  intro s hs;rw[←hb];simp only[QGF,QHk,or_false]at hs;rcases hs with rfl|rfl|rfl<;>rfl
 clear hb;have c3:∀n l,Qo base 15 1100 v.name n l 3=base 3:=fun n l=>QP _ _ _ _ _ _ (by decide) (by decide)
 have o3s:=o3;rw[J9]at o3s;rw[H7 base 15 1100 v.name (-1) (by decide)];simp only[Cl,c3,o3s,eE,seval];refine aC (PA v.name (by omega)) ?_
 try simp only[eE,seval]
 refine Qb (XD base 15 1100 v.name (-1) [] (by decide) rfl (by simp) (Xe v.name) 8 []) (by simp only[QF3,QGo,Qa,seval]<;>rfl) ?_;have q1:=Q0 v.name (-1) (Xe v.name) 8;simp only[Cm,c3,o3s,QFT,QGK,Ni,eE,seval];refine Qb (XD base 15 1100 v.name (-1) _ (by decide) rfl (by omega) (decide (v.meths.length≤64)) 3 []) (by simp only[QF3,QGo,Qa,seval]<;>rfl) ?_;have q2:=Qt q1 v.name (-1) (decide (v.meths.length≤64)) 3;simp only[Cn,c3,o3s,QGK,eE,seval];refine PD hM S hS v hv _ (by omega) (-1) _ base (by rfl) (by rfl) (by rfl) (by rfl) (by rfl) (by rfl) o2 o3 o7 _ (fun f F n h3 h5 o3=>?_);clear c3 o3s o2 o7;have q3:=QN (l:=v.meths) (K3 S v) v.meths.length;have o3s:=o3;rw[J9]at o3s;have c3:∀n l,Qo F 15 1100 v.name n l 3=F 3:=fun n l=>QP _ _ _ _ _ _ (by decide) (by decide)
 have cs:∀n l,Qo F 15 1100 v.name n l 15=.cells [.str v.name,.int .i64 n,.vec 0 1100 (1+l.length) 0 l.length false]:=fun n l=>Jr F 15 1100 v.name n l
 have cn:∀n l n',Qx (Qo F 15 1100 v.name n l) 15 (.cells [.str v.name,.int .i64 n',.vec 0 1100 (1+l.length) 0 l.length false])=Qo F 15 1100 v.name n' l:=fun n l n'=>K0 F 15 1100 v.name n l n'
 have cR:∀n l,Qo F 15 1100 v.name n l 1100=.vec (1+l.length) 3 (l.map PB.av):=fun n l=>Ki F 15 1100 v.name n l (by decide)
 simp only[FU,FV,cs,cn,c3,o3s,h3,h5,eE,seval];generalize hL:pb v.name (-1) (Xe v.name) 8++pb v.name (-1) (decide (v.meths.length≤64)) 3++upto v.meths (Jy S v) v.meths.length=L;have q5:L.length≤10000000:=by
  rw[←hL,QF7];omega
 refine Qb (UC F 15 1100 v.name (-1) L (by decide) rfl (by omega) [] v.notes (by simp only[maxLen];omega) hv.notes 5 (by decide)) (by simp only[QF3,QGo,Qa,seval]<;>rfl) ?_;have hfin:Je S v=L++Xu v.name (-1) v.notes 5:=by rw[←hL];rfl
 rw[←hfin];have ht:∀l:List PB,List.take l.length (List.map PB.av l)=List.map PB.av l:=fun l=>QF4 (by rw[QGK];exact QFx _)
 simp only[FW,cs,cR,h5,QGK,QGb,ht,QFW,QFx,QGr,QGw,AV.un,eE,seval]

theorem Nj (a b:List UInt8):Qy .leq a b=some (.bool (!(Op.bytesLess b a))):=by
 rw[←Bn a b,QHh];rfl

theorem s99 (L:List (List UInt8))(hl:L.length≤maxLen):Qr Tryz.prog 99 [.list (L.map Qm)] (.bool (Q8 L Op.bytesLess)):=by
 let I:Nat→St→Prop:=fun k st=>∃f i,st=⟨f,[Qc],[]⟩∧k=L.length-(i+1)∧QH (Zf L Op.bytesLess) (i+1)=true∧f 0=.list (L.map Qm)∧f 3=.int .i64 ((i+1:Nat):Int)
 refine k99.fn (by simp) ?_;simp only[Qa,seval];refine Qg I _ ⟨_,0,rfl,rfl,rfl,(by rfl),(by rfl)⟩ ?_;rintro _ st ⟨f,i,rfl,rfl,hx,h0,h3⟩;simp only[QGK,h0,h3,Qa,seval];by_cases hlt:i+1<L.length
 ·obtain⟨x,hi⟩:∃x,L[i]? = some x:=⟨L[i]'(by omega),QFA (by omega)⟩;obtain⟨y,hj⟩:∃y,L[i+1]? = some y:=⟨L[i+1],QFA hlt⟩;have hg:(L.map Qm)[i]? = some (.str x):=by simp[hi,Qm]
  have hh:(L.map Qm)[i+1]? = some (.str y):=by simp[hj,Qm]
  have e1:=Qn (i+1) _ hlt hl;have e2:=ZV i _ hlt hl;simp only[Qz hlt,e2,Nj,Qj,QGM,Qe,hg,hh,h0,h3,eE,seval];have hs:QH (Zf L Op.bytesLess) (i+2)=Op.bytesLess x y:=by
   show(QH (Zf L Op.bytesLess) (i+1)&&Zf L Op.bytesLess (i+1))=_;rw[hx,Zj hi hj,QG0]
  cases hp:Op.bytesLess x y
  ·rw[hp]at hs;have hf:Q8 L Op.bytesLess=false:=by
    rw[QG5];intro h';rw[Qq.2 fun k hk=>Qq.1 h' k (by omega)]at hs;cases hs
   simp only[hf,QGv,Qa,seval]
  ·rw[hp]at hs;simp only[h3,e1,QG1,Qa,seval];exact⟨L.length-(i+2),by omega,_,i+1,rfl,rfl,hs,(by exact h0),(by rfl)⟩
 ·have hf:Q8 L Op.bytesLess=true:=Qq.2 fun k hk=>Qq.1 hx k (by omega)
  simp only[QB hlt,hf,Qa,seval]

structure Ls (fr:Nat→Ob)(A B C:List (List UInt8)):Prop where
 mk ::
 row:∃a b c,fr 3=.cells [.vec 0 1100 a 0 A.length false,.vec 0 1101 b 0 B.length false,.vec 0 1102 c 0 C.length false]∧fr 1100=.vec a 1 (A.map Qm)∧fr 1101=.vec b 1 (B.map Qm)∧fr 1102=.vec c 1 (C.map Qm)
 res:fr 2=.cells [.nils,.nils,.nils]

section
variable {M:Nat}(hM:M≤1048576)(S:SC)(hS:S.ok M)
include hM hS in
theorem QzN (A B C:List (List UInt8))(hABC:A.length≤1048576∧B.length≤1048576∧C.length≤1048576)(f:Fr)(fr:Nat→Ob)(h1:f 1=.ptr 0 1 0)(h3:f 3=.ptr 0 3 0)(h2:f 2=.ptr 0 2 0)(hw:f 11=.list (S.msgs.map QW))(hz:f 12=.int .i64 (S.msgs.length:Nat))(hk:f 13=.int .i64 0)
  (o1:fr 1=.cells [.list (S.msgs.map fun n=>.agg n.cells),.list (S.enums.map fun n=>.agg n.cells),.list (S.servs.map fun n=>.agg n.cells)]) (hL:Ls fr A B C) (r5:∀s∈[5,7,9],(fr s).isRow=false) (Q:Exit→St→Prop)
  (hq:∀(f:Fr) (fr:Nat→Ob) (i:Nat),i=S.msgs.length→f 1=.ptr 0 1 0→f 3=.ptr 0 3 0→f 2=.ptr 0 2 0→fr 1=.cells [.list (S.msgs.map fun n=>.agg n.cells),.list (S.enums.map fun n=>.agg n.cells),.list (S.servs.map fun n=>.agg n.cells)]→Ls fr (A++(S.msgs.take i).map SM.name) B C→(∀s∈[5,7,9],(fr s).isRow=false)→Q (.exit 0) ⟨f,[fr],[]⟩):QJ Tryz.prog (.loop Rv) ⟨f,[fr],[]⟩ Q:=by
 let I:Nat→St→Prop:=fun k st=>∃f fr i,st=⟨f,[fr],[]⟩∧k=S.msgs.length-i∧i≤S.msgs.length∧f 1=.ptr 0 1 0∧f 3=.ptr 0 3 0∧f 2=.ptr 0 2 0∧f 11=.list (S.msgs.map QW)∧f 12=.int .i64 (S.msgs.length:Nat)∧f 13=.int .i64 (i:Nat)∧
  fr 1=.cells [.list (S.msgs.map fun n=>.agg n.cells),.list (S.enums.map fun n=>.agg n.cells),.list (S.servs.map fun n=>.agg n.cells)]∧Ls fr (A++(S.msgs.take i).map SM.name) B C∧∀s∈[5,7,9],(fr s).isRow=false
 have hl1:=hS.len1;obtain⟨hA,hB,hC⟩:=hABC;refine Qg I _ ⟨f,fr,0,rfl,rfl,QFG _,h1,h3,h2,hw,hz,hk,o1,by simpa using hL,r5⟩ ?_;clear h1 h3 h2 hw hz hk o1 hL r5;rintro _ st ⟨f0,fr0,i,rfl,rfl,hi,h10,h30,h20,hw0,hz0,hk0,XE,hL0,r5⟩;refine QD (a:=_) [5] (by intro s hs;exact r5 s (by simp only[QGF,QHk,or_false]at hs ⊢;omega)) ?_;intro f fr hf hmm hn;have h1:f 1=.ptr 0 1 0:=by rw[hf,h10]<;>rfl
 have h3:f 3=.ptr 0 3 0:=by rw[hf,h30]<;>rfl
 have h2:f 2=.ptr 0 2 0:=by rw[hf,h20]<;>rfl
 have hw:f 11=.list (S.msgs.map QW):=by rw[hf,hw0]<;>rfl
 have hz:f 12=.int .i64 (S.msgs.length:Nat):=by rw[hf,hz0]<;>rfl
 have hk:f 13=.int .i64 (i:Nat):=by rw[hf,hk0]<;>rfl
 have o1:fr 1=.cells [.list (S.msgs.map fun n=>.agg n.cells),.list (S.enums.map fun n=>.agg n.cells),.list (S.servs.map fun n=>.agg n.cells)]:=by rw[hmm 1 (by decide),XE]<;>rfl
 obtain⟨a,b,c,m30,m00,m10,m20⟩:=hL0.row;have m4:fr 2=.cells [.nils,.nils,.nils]:=by rw[hmm 2 (by decide),hL0.res]<;>rfl
 have m3:fr 3=.cells [.vec 0 1100 a 0 ((A++(S.msgs.take i).map SM.name)).length false,.vec 0 1101 b 0 (B).length false,.vec 0 1102 c 0 (C).length false]:=by rw[hmm 3 (by decide),m30]<;>rfl
 have m0:fr 1100=.vec a 1 (((A++(S.msgs.take i).map SM.name)).map Qm):=by rw[hmm 1100 (by decide),m00]<;>rfl
 have m1:fr 1101=.vec b 1 ((B).map Qm):=by rw[hmm 1101 (by decide),m10]<;>rfl
 have m2:fr 1102=.vec c 1 ((C).map Qm):=by rw[hmm 1102 (by decide),m20]<;>rfl
 have nv:=hn 5 (by decide);have r5':∀s∈[5,7,9],(fr s).isRow=false:=by
  intro s hs;by_cases hsv:s=5
  ·subst hsv;rw[nv];rfl
  ·rw[hmm s (by simp only[QGF,QHk,or_false];exact hsv)];have:=r5 s hs
   revert this
   cases fr0 s<;>intro h<;>first|rfl|exact h
 clear hf hmm hn h10 h30 h20 hw0 hz0 hk0 XE hL0 r5 m30 m00 m10 m20;simp only[hz,hk,Qa,seval];by_cases hlt:i<S.msgs.length
 case neg=>
  simp only[QB hlt,Qa,seval];exact hq _ _ i (by omega) (by exact h1) (by exact h3) (by exact h2) o1 ⟨⟨a,b,c,m3,m0,m1,m2⟩,m4⟩ r5'
 obtain⟨x,hx⟩:∃x,S.msgs[i]? = some x:=⟨S.msgs[i],QFA hlt⟩;have hg:(S.msgs.map QW)[i]? = some (.agg x.cells):=by rw[QGI,hx];rfl
 rw[Xs]at hg;have e1:=Qn i _ hlt (by simp only[maxLen];omega);have ht:(S.msgs.take i).length≤i:=by rw[QGk];omega
 have hsu:(S.msgs.take (i+1)).map SM.name=(S.msgs.take i).map SM.name++[x.name]:=by rw[QGU,hx,QGV,QGT];rfl
 simp only[Qz hlt,nv,Qj,QGM,Qe,hg,h3,hw,hk,m3,eE,seval];refine ZL (w:=x.name) rfl ?_;refine Xa (xs:=(A++(S.msgs.take i).map SM.name).map Qm) (by rfl) (by exact m0) rfl (by simp) (by rfl) rfl (by simp only[QF7,QGK,QFM,QGy,maxLen];omega) (by simp only[QF7,QGK,QFM,QGy];omega) ?_;simp only[h3,hk,m3,e1,Qe,eE,seval];have hs':A++(S.msgs.take (i+1)).map SM.name=(A++(S.msgs.take i).map SM.name)++[x.name]:=by rw[hsu];simp only[QFR]
 have hm':(A++(S.msgs.take (i+1)).map SM.name).map Qm=(A++(S.msgs.take i).map SM.name).map Qm++[.str x.name]:=by rw[hs',QGT];rfl
 have hn':(A++(S.msgs.take (i+1)).map SM.name).length=(A++(S.msgs.take i).map SM.name).length+1:=by rw[hs',QF7];rfl
 refine⟨S.msgs.length-(i+1),by omega,_,_,i+1,rfl,rfl,by omega,(by exact h1),(by exact h3),(by exact h2),(by exact hw),(by exact hz),(by rfl),(by exact o1),⟨⟨_,_,_,(by rw[hn'];rfl),?_,?_,?_⟩,(by exact m4)⟩,?_⟩
 ·first|(rw[hm'];rfl)|exact m0|simp only[m0,eE,seval]
 ·first|(rw[hm'];rfl)|exact m1|simp only[m1,eE,seval]
 ·first|(rw[hm'];rfl)|exact m2|simp only[m2,eE,seval]
 ·intro s hs;simp only[QGF,QHk,or_false]at hs;rcases hs with rfl|rfl|rfl<;>first|rfl|exact r5' _ (by decide)

include hM hS in
theorem QzO (A B C:List (List UInt8))(hABC:A.length≤1048576∧B.length≤1048576∧C.length≤1048576)(f:Fr)(fr:Nat→Ob)(h1:f 1=.ptr 0 1 0)(h3:f 3=.ptr 0 3 0)(h2:f 2=.ptr 0 2 0)(hw:f 26=.list (S.enums.map XM))(hz:f 27=.int .i64 (S.enums.length:Nat))(hk:f 28=.int .i64 0)
  (o1:fr 1=.cells [.list (S.msgs.map fun n=>.agg n.cells),.list (S.enums.map fun n=>.agg n.cells),.list (S.servs.map fun n=>.agg n.cells)]) (hL:Ls fr A B C) (r5:∀s∈[5,7,9],(fr s).isRow=false) (Q:Exit→St→Prop)
  (hq:∀(f:Fr) (fr:Nat→Ob) (i:Nat),i=S.enums.length→f 1=.ptr 0 1 0→f 3=.ptr 0 3 0→f 2=.ptr 0 2 0→fr 1=.cells [.list (S.msgs.map fun n=>.agg n.cells),.list (S.enums.map fun n=>.agg n.cells),.list (S.servs.map fun n=>.agg n.cells)]→Ls fr A (B++(S.enums.take i).map SE.name) C→(∀s∈[5,7,9],(fr s).isRow=false)→Q (.exit 2) ⟨f,[fr],[]⟩):QJ Tryz.prog (.loop Rw) ⟨f,[fr],[]⟩ Q:=by
 let I:Nat→St→Prop:=fun k st=>∃f fr i,st=⟨f,[fr],[]⟩∧k=S.enums.length-i∧i≤S.enums.length∧f 1=.ptr 0 1 0∧f 3=.ptr 0 3 0∧f 2=.ptr 0 2 0∧f 26=.list (S.enums.map XM)∧f 27=.int .i64 (S.enums.length:Nat)∧f 28=.int .i64 (i:Nat)∧
  fr 1=.cells [.list (S.msgs.map fun n=>.agg n.cells),.list (S.enums.map fun n=>.agg n.cells),.list (S.servs.map fun n=>.agg n.cells)]∧Ls fr A (B++(S.enums.take i).map SE.name) C∧∀s∈[5,7,9],(fr s).isRow=false
 have hl1:=hS.len2;obtain⟨hA,hB,hC⟩:=hABC;refine Qg I _ ⟨f,fr,0,rfl,rfl,QFG _,h1,h3,h2,hw,hz,hk,o1,by simpa using hL,r5⟩ ?_;clear h1 h3 h2 hw hz hk o1 hL r5;rintro _ st ⟨f0,fr0,i,rfl,rfl,hi,h10,h30,h20,hw0,hz0,hk0,XE,hL0,r5⟩;refine QD (a:=_) [7] (by intro s hs;exact r5 s (by simp only[QGF,QHk,or_false]at hs ⊢;omega)) ?_;intro f fr hf hmm hn;have h1:f 1=.ptr 0 1 0:=by rw[hf,h10]<;>rfl
 have h3:f 3=.ptr 0 3 0:=by rw[hf,h30]<;>rfl
 have h2:f 2=.ptr 0 2 0:=by rw[hf,h20]<;>rfl
 have hw:f 26=.list (S.enums.map XM):=by rw[hf,hw0]<;>rfl
 have hz:f 27=.int .i64 (S.enums.length:Nat):=by rw[hf,hz0]<;>rfl
 have hk:f 28=.int .i64 (i:Nat):=by rw[hf,hk0]<;>rfl
 have o1:fr 1=.cells [.list (S.msgs.map fun n=>.agg n.cells),.list (S.enums.map fun n=>.agg n.cells),.list (S.servs.map fun n=>.agg n.cells)]:=by rw[hmm 1 (by decide),XE]<;>rfl
 obtain⟨a,b,c,m30,m00,m10,m20⟩:=hL0.row;have m4:fr 2=.cells [.nils,.nils,.nils]:=by rw[hmm 2 (by decide),hL0.res]<;>rfl
 have m3:fr 3=.cells [.vec 0 1100 a 0 (A).length false,.vec 0 1101 b 0 ((B++(S.enums.take i).map SE.name)).length false,.vec 0 1102 c 0 (C).length false]:=by rw[hmm 3 (by decide),m30]<;>rfl
 have m0:fr 1100=.vec a 1 ((A).map Qm):=by rw[hmm 1100 (by decide),m00]<;>rfl
 have m1:fr 1101=.vec b 1 (((B++(S.enums.take i).map SE.name)).map Qm):=by rw[hmm 1101 (by decide),m10]<;>rfl
 have m2:fr 1102=.vec c 1 ((C).map Qm):=by rw[hmm 1102 (by decide),m20]<;>rfl
 have nv:=hn 7 (by decide);have r5':∀s∈[5,7,9],(fr s).isRow=false:=by
  intro s hs;by_cases hsv:s=7
  ·subst hsv;rw[nv];rfl
  ·rw[hmm s (by simp only[QGF,QHk,or_false];exact hsv)];have:=r5 s hs
   revert this
   cases fr0 s<;>intro h<;>first|rfl|exact h
 clear hf hmm hn h10 h30 h20 hw0 hz0 hk0 XE hL0 r5 m30 m00 m10 m20;simp only[hz,hk,Qa,seval];by_cases hlt:i<S.enums.length
 case neg=>
  simp only[QB hlt,Qa,seval];exact hq _ _ i (by omega) (by exact h1) (by exact h3) (by exact h2) o1 ⟨⟨a,b,c,m3,m0,m1,m2⟩,m4⟩ r5'
 obtain⟨x,hx⟩:∃x,S.enums[i]? = some x:=⟨S.enums[i],QFA hlt⟩;have hg:(S.enums.map XM)[i]? = some (.agg x.cells):=by rw[QGI,hx];rfl
 rw[X1]at hg;have e1:=Qn i _ hlt (by simp only[maxLen];omega);have ht:(S.enums.take i).length≤i:=by rw[QGk];omega
 have hsu:(S.enums.take (i+1)).map SE.name=(S.enums.take i).map SE.name++[x.name]:=by rw[QGU,hx,QGV,QGT];rfl
 simp only[Qz hlt,nv,Qj,QGM,Qe,hg,h3,hw,hk,m3,eE,seval];refine ZL (w:=x.name) rfl ?_;refine Xa (xs:=(B++(S.enums.take i).map SE.name).map Qm) (by rfl) (by exact m1) rfl (by simp) (by rfl) rfl (by simp only[QF7,QGK,QFM,QGy,maxLen];omega) (by simp only[QF7,QGK,QFM,QGy];omega) ?_;simp only[h3,hk,m3,e1,Qe,eE,seval];have hs':B++(S.enums.take (i+1)).map SE.name=(B++(S.enums.take i).map SE.name)++[x.name]:=by rw[hsu];simp only[QFR]
 have hm':(B++(S.enums.take (i+1)).map SE.name).map Qm=(B++(S.enums.take i).map SE.name).map Qm++[.str x.name]:=by rw[hs',QGT];rfl
 have hn':(B++(S.enums.take (i+1)).map SE.name).length=(B++(S.enums.take i).map SE.name).length+1:=by rw[hs',QF7];rfl
 refine⟨S.enums.length-(i+1),by omega,_,_,i+1,rfl,rfl,by omega,(by exact h1),(by exact h3),(by exact h2),(by exact hw),(by exact hz),(by rfl),(by exact o1),⟨⟨_,_,_,(by rw[hn'];rfl),?_,?_,?_⟩,(by exact m4)⟩,?_⟩
 ·first|(rw[hm'];rfl)|exact m0|simp only[m0,eE,seval]
 ·first|(rw[hm'];rfl)|exact m1|simp only[m1,eE,seval]
 ·first|(rw[hm'];rfl)|exact m2|simp only[m2,eE,seval]
 ·intro s hs;simp only[QGF,QHk,or_false]at hs;rcases hs with rfl|rfl|rfl<;>first|rfl|exact r5' _ (by decide)

include hM hS in
theorem QzP (A B C:List (List UInt8))(hABC:A.length≤1048576∧B.length≤1048576∧C.length≤1048576)(f:Fr)(fr:Nat→Ob)(h1:f 1=.ptr 0 1 0)(h3:f 3=.ptr 0 3 0)(h2:f 2=.ptr 0 2 0)(hw:f 41=.list (S.servs.map KL))(hz:f 42=.int .i64 (S.servs.length:Nat))(hk:f 43=.int .i64 0)
  (o1:fr 1=.cells [.list (S.msgs.map fun n=>.agg n.cells),.list (S.enums.map fun n=>.agg n.cells),.list (S.servs.map fun n=>.agg n.cells)]) (hL:Ls fr A B C) (r5:∀s∈[5,7,9],(fr s).isRow=false) (Q:Exit→St→Prop)
  (hq:∀(f:Fr) (fr:Nat→Ob) (i:Nat),i=S.servs.length→f 1=.ptr 0 1 0→f 3=.ptr 0 3 0→f 2=.ptr 0 2 0→fr 1=.cells [.list (S.msgs.map fun n=>.agg n.cells),.list (S.enums.map fun n=>.agg n.cells),.list (S.servs.map fun n=>.agg n.cells)]→Ls fr A B (C++(S.servs.take i).map SQ.name)→(∀s∈[5,7,9],(fr s).isRow=false)→Q (.exit 4) ⟨f,[fr],[]⟩):QJ Tryz.prog (.loop Rx) ⟨f,[fr],[]⟩ Q:=by
 let I:Nat→St→Prop:=fun k st=>∃f fr i,st=⟨f,[fr],[]⟩∧k=S.servs.length-i∧i≤S.servs.length∧f 1=.ptr 0 1 0∧f 3=.ptr 0 3 0∧f 2=.ptr 0 2 0∧f 41=.list (S.servs.map KL)∧f 42=.int .i64 (S.servs.length:Nat)∧f 43=.int .i64 (i:Nat)∧
  fr 1=.cells [.list (S.msgs.map fun n=>.agg n.cells),.list (S.enums.map fun n=>.agg n.cells),.list (S.servs.map fun n=>.agg n.cells)]∧Ls fr A B (C++(S.servs.take i).map SQ.name)∧∀s∈[5,7,9],(fr s).isRow=false
 have hl1:=hS.len3;obtain⟨hA,hB,hC⟩:=hABC;refine Qg I _ ⟨f,fr,0,rfl,rfl,QFG _,h1,h3,h2,hw,hz,hk,o1,by simpa using hL,r5⟩ ?_;clear h1 h3 h2 hw hz hk o1 hL r5;rintro _ st ⟨f0,fr0,i,rfl,rfl,hi,h10,h30,h20,hw0,hz0,hk0,XE,hL0,r5⟩;refine QD (a:=_) [9] (by intro s hs;exact r5 s (by simp only[QGF,QHk,or_false]at hs ⊢;omega)) ?_;intro f fr hf hmm hn;have h1:f 1=.ptr 0 1 0:=by rw[hf,h10]<;>rfl
 have h3:f 3=.ptr 0 3 0:=by rw[hf,h30]<;>rfl
 have h2:f 2=.ptr 0 2 0:=by rw[hf,h20]<;>rfl
 have hw:f 41=.list (S.servs.map KL):=by rw[hf,hw0]<;>rfl
 have hz:f 42=.int .i64 (S.servs.length:Nat):=by rw[hf,hz0]<;>rfl
 have hk:f 43=.int .i64 (i:Nat):=by rw[hf,hk0]<;>rfl
 have o1:fr 1=.cells [.list (S.msgs.map fun n=>.agg n.cells),.list (S.enums.map fun n=>.agg n.cells),.list (S.servs.map fun n=>.agg n.cells)]:=by rw[hmm 1 (by decide),XE]<;>rfl
 obtain⟨a,b,c,m30,m00,m10,m20⟩:=hL0.row;have m4:fr 2=.cells [.nils,.nils,.nils]:=by rw[hmm 2 (by decide),hL0.res]<;>rfl
 have m3:fr 3=.cells [.vec 0 1100 a 0 (A).length false,.vec 0 1101 b 0 (B).length false,.vec 0 1102 c 0 ((C++(S.servs.take i).map SQ.name)).length false]:=by rw[hmm 3 (by decide),m30]<;>rfl
 have m0:fr 1100=.vec a 1 ((A).map Qm):=by rw[hmm 1100 (by decide),m00]<;>rfl
 have m1:fr 1101=.vec b 1 ((B).map Qm):=by rw[hmm 1101 (by decide),m10]<;>rfl
 have m2:fr 1102=.vec c 1 (((C++(S.servs.take i).map SQ.name)).map Qm):=by rw[hmm 1102 (by decide),m20]<;>rfl
 have nv:=hn 9 (by decide);have r5':∀s∈[5,7,9],(fr s).isRow=false:=by
  intro s hs;by_cases hsv:s=9
  ·subst hsv;rw[nv];rfl
  ·rw[hmm s (by simp only[QGF,QHk,or_false];exact hsv)];have:=r5 s hs
   revert this
   cases fr0 s<;>intro h<;>first|rfl|exact h
 clear hf hmm hn h10 h30 h20 hw0 hz0 hk0 XE hL0 r5 m30 m00 m10 m20;simp only[hz,hk,Qa,seval];by_cases hlt:i<S.servs.length
 case neg=>
  simp only[QB hlt,Qa,seval];exact hq _ _ i (by omega) (by exact h1) (by exact h3) (by exact h2) o1 ⟨⟨a,b,c,m3,m0,m1,m2⟩,m4⟩ r5'
 obtain⟨x,hx⟩:∃x,S.servs[i]? = some x:=⟨S.servs[i],QFA hlt⟩;have hg:(S.servs.map KL)[i]? = some (.agg x.cells):=by rw[QGI,hx];rfl
 rw[J9]at hg;have e1:=Qn i _ hlt (by simp only[maxLen];omega);have ht:(S.servs.take i).length≤i:=by rw[QGk];omega
 have hsu:(S.servs.take (i+1)).map SQ.name=(S.servs.take i).map SQ.name++[x.name]:=by rw[QGU,hx,QGV,QGT];rfl
 simp only[Qz hlt,nv,Qj,QGM,Qe,hg,h3,hw,hk,m3,eE,seval];refine ZL (w:=x.name) rfl ?_;refine Xa (xs:=(C++(S.servs.take i).map SQ.name).map Qm) (by rfl) (by exact m2) rfl (by simp) (by rfl) rfl (by simp only[QF7,QGK,QFM,QGy,maxLen];omega) (by simp only[QF7,QGK,QFM,QGy];omega) ?_;simp only[h3,hk,m3,e1,Qe,eE,seval];have hs':C++(S.servs.take (i+1)).map SQ.name=(C++(S.servs.take i).map SQ.name)++[x.name]:=by rw[hsu];simp only[QFR]
 have hm':(C++(S.servs.take (i+1)).map SQ.name).map Qm=(C++(S.servs.take i).map SQ.name).map Qm++[.str x.name]:=by rw[hs',QGT];rfl
 have hn':(C++(S.servs.take (i+1)).map SQ.name).length=(C++(S.servs.take i).map SQ.name).length+1:=by rw[hs',QF7];rfl
 refine⟨S.servs.length-(i+1),by omega,_,_,i+1,rfl,rfl,by omega,(by exact h1),(by exact h3),(by exact h2),(by exact hw),(by exact hz),(by rfl),(by exact o1),⟨⟨_,_,_,(by rw[hn'];rfl),?_,?_,?_⟩,(by exact m4)⟩,?_⟩
 ·first|(rw[hm'];rfl)|exact m0|simp only[m0,eE,seval]
 ·first|(rw[hm'];rfl)|exact m1|simp only[m1,eE,seval]
 ·first|(rw[hm'];rfl)|exact m2|simp only[m2,eE,seval]
 ·intro s hs;simp only[QGF,QHk,or_false]at hs;rcases hs with rfl|rfl|rfl<;>first|rfl|exact r5' _ (by decide)

include hM hS in
theorem s97:Qr Tryz.prog 97 [S.av] (.agg [.list ((S.msgs.map SM.name).map Qm),.list ((S.enums.map SE.name).map Qm),.list ((S.servs.map SQ.name).map Qm)]):=by
 have l1:=hS.len1;have l2:=hS.len2;have l3:=hS.len3;refine k97.fn (by simp) ?_;simp only[SC.av,eE,seval];refine Xz rfl rfl rfl rfl ?_;refine Xz rfl rfl rfl rfl ?_;refine Xz rfl rfl rfl rfl ?_;simp only[QGK,eE,seval];refine QzN hM S hS [] [] [] ⟨by simp,by simp,by simp⟩ _ _ (by rfl) (by rfl) (by rfl) (by rfl) (by rfl) (by rfl) (by rfl) ⟨⟨1,1,1,rfl,rfl,rfl,rfl⟩,rfl⟩ (by
  intro s hs;simp only[QGF,QHk,or_false]at hs;rcases hs with rfl|rfl|rfl<;>rfl) _ (fun f fr i hi h1 h3 h2 o1 hL r5=>?_)
 subst hi;rw[QFT,QGS]at hL;simp only[h1,o1,QGK,eE,seval];refine QzO hM S hS _ [] [] ⟨by rw[QGK];omega,by simp,by simp⟩ _ _ (by exact h1) (by exact h3) (by exact h2) (by rfl) (by rfl) (by rfl) o1 hL r5 _ (fun f fr i hi h1 h3 h2 o1 hL r5=>?_);subst hi;rw[QFT,QGS]at hL;simp only[h1,o1,QGK,eE,seval];refine QzP hM S hS _ _ [] ⟨by rw[QGK];omega,by rw[QGK];omega,by simp⟩ _ _ (by exact h1) (by exact h3) (by exact h2) (by rfl) (by rfl) (by rfl) o1 hL r5 _ (fun f fr i hi h1 h3 h2 o1 hL r5=>?_);subst hi;rw[QFT,QGS]at hL;obtain⟨a,b,c,m3,m0,m1,m2⟩:=hL.row;have ht:∀l:List (List UInt8),List.take l.length (List.map Qm l)=List.map Qm l:=fun l=>QF4 (by rw[QGK];exact QFx _)
 have m4:=hL.res;simp only[h3,h2,m3,m0,m1,m2,m4,QFW,QFx,QGr,QGK,QGb,AV.un,eE,seval];rw[show List.take S.msgs.length (List.map Qm (List.map SM.name S.msgs))=List.map Qm (List.map SM.name S.msgs)from QF4 (by simp),show List.take S.enums.length (List.map Qm (List.map SE.name S.enums))=List.map Qm (List.map SE.name S.enums)from QF4 (by simp),show List.take S.servs.length (List.map Qm (List.map SQ.name S.servs))=List.map Qm (List.map SQ.name S.servs)from QF4 (by simp)]
end

theorem QzQ {k:Nat}(h:k<1):decide ((k:Int)<1)=true:=QHa (by omega)
theorem QzR {k:Nat}(h:k<2):decide ((k:Int)<2)=true:=QHa (by omega)
def KR (A B C:List (List UInt8)):Nat→List (List UInt8)
 |0=>A
 |1=>B
 |_=>C

section
variable (A B C:List (List UInt8))(hA:A.length≤maxLen)(hB:B.length≤maxLen)(hC:C.length≤maxLen)

theorem QzS (k:Nat)(hk:k<3)(hl:(KR A B C k).length≤maxLen)(fr:Nat→Ob)(o1:fr 1=.cells [.list (A.map Qm),.list (B.map Qm),.list (C.map Qm)])(o4:fr 4=.cells [.int .i64 (k:Nat)])(n:List UInt8) :
  Qf Tryz.prog 147 [Qm n,.ptr 2 1 0,.ptr 2 4 0] [Qc,Qc,fr] fun y m1=>y=.bool ((KR A B C k).contains n)∧m1=[Qc,Qc,fr]:=by
 have hc:=s36 _ hl n;have hlt:decide ((k:Int)<3)=true:=QHa (by omega);refine QvP.go (by simp) ?_;have hk3:k=0∨k=1∨k=2:=by omega
 rcases hk3 with rfl|rfl|rfl <;>
 ·simp only[Qm,o1,o4,Qe,eE,seval];refine aC hc ?_;simp only[Qa,seval]

def Yt (A B C:List (List UInt8))(i k:Nat):Bool:=(KR A B C i).any fun s=>(KR A B C k).contains s
def WY (A B C:List (List UInt8)):Bool:=!Yt A B C 1 0 && !Yt A B C 2 0 && !Yt A B C 2 1

include hA hB hC in
theorem D2 (k:Nat):(KR A B C k).length≤maxLen:=by
 unfold KR;split<;>assumption

include hA hB hC in
theorem QsK (i:Nat)(hi:i<3)(f:Fr)(fr:Nat→Ob)(h1:f 1=.ptr 0 1 0)(h3:f 3=.int .i64 (i:Nat))(h5:f 5=.int .i64 (i:Nat))(h8:f 8=.int .i64 (i:Nat))(h9:f 9=.int .i64 0)(o1:fr 1=.cells [.list (A.map Qm),.list (B.map Qm),.list (C.map Qm)])(r4:(fr 4).isRow=false)(Q:Exit→St→Prop)
  (hq:∀(f:Fr) (fr:Nat→Ob),(∀k,k<i→Yt A B C i k=false)→f 1=.ptr 0 1 0→f 5=.int .i64 (i:Nat)→fr 1=.cells [.list (A.map Qm),.list (B.map Qm),.list (C.map Qm)]→(fr 4).isRow=false→Q (.exit 2) ⟨f,[fr],[]⟩)
  (hr:∀(f:Fr) (fr:Nat→Ob) (k:Nat),k<i→Yt A B C i k=true→f 2=.bool false→Q .ret ⟨f,[fr],[]⟩):QJ Tryz.prog (.loop Vs) ⟨f,[fr],[]⟩ Q:=by
 let I:Nat→St→Prop:=fun n st=>∃f fr k,st=⟨f,[fr],[]⟩∧n=i-k∧k≤i∧(∀j,j<k→Yt A B C i j=false)∧f 1=.ptr 0 1 0∧f 3=.int .i64 (i:Nat)∧f 5=.int .i64 (i:Nat)∧f 8=.int .i64 (i:Nat)∧f 9=.int .i64 (k:Nat)∧fr 1=.cells [.list (A.map Qm),.list (B.map Qm),.list (C.map Qm)]∧(fr 4).isRow=false
 refine Qg I _ ⟨f,fr,0,rfl,rfl,QFG _,fun j hj=>by omega,h1,h3,h5,h8,h9,o1,r4⟩ ?_;clear h1 h3 h5 h8 h9 o1 r4;rintro _ st ⟨f0,fr0,k,rfl,rfl,hk,hal,h10,h30,h50,h80,h90,XE,r4⟩;refine QD (a:=_) [4] (by intro s hs;simp only[QGF,QHk,or_false]at hs;subst hs;exact r4) ?_;intro f fr hf hmm hn;have h1:f 1=.ptr 0 1 0:=by rw[hf,h10]<;>rfl
 have h3:f 3=.int .i64 (i:Nat):=by rw[hf,h30]<;>rfl
 have h5:f 5=.int .i64 (i:Nat):=by rw[hf,h50]<;>rfl
 have h8:f 8=.int .i64 (i:Nat):=by rw[hf,h80]<;>rfl
 have h9:f 9=.int .i64 (k:Nat):=by rw[hf,h90]<;>rfl
 have o1:fr 1=.cells [.list (A.map Qm),.list (B.map Qm),.list (C.map Qm)]:=by rw[hmm 1 (by decide),XE]<;>rfl
 have n4:=hn 4 (by decide);clear hf hmm hn h10 h30 h50 h80 h90 XE r4;simp only[h8,h9,Qa,seval];by_cases hlt:k<i
 case neg=>
  have e:k=i:=by omega
  subst e;simp only[QB hlt,Qa,seval];exact hq _ _ hal (by exact h1) (by exact h5) o1 (by rw[n4];rfl)
 have e1:=Qn k _ hlt (by simp only[maxLen];omega);have hcc:∀F:Nat→Ob,F 1=.cells [.list (A.map Qm),.list (B.map Qm),.list (C.map Qm)]→F 4=.cells [.int .i64 (k:Nat)]→Qf Tryz.prog 133 [.list ((KR A B C i).map Qm),.fn (.func 147) [] [.ptr 0 1 0,.ptr 0 4 0]] [F] fun y m1=>y=.bool (Yt A B C i k)∧m1=[F] :=
  fun F g1 g4=>DK (KR A B C i) (D2 A B C hA hB hC i) (fun s=>(KR A B C k).contains s) 147 [.ptr 0 1 0,.ptr 0 4 0] [F] fun o _=>QzS A B C k (by omega) (D2 A B C hA hB hC k) F g1 g4 o
 have hi3:i=1∨i=2:=by omega
 rcases hi3 with rfl|rfl <;>
 ·first
   |simp only[QzQ hlt,n4,o1,Qe,h1,h3,h9,eE,seval]
   |simp only[QzR hlt,n4,o1,Qe,h1,h3,h9,eE,seval]
  refine Qb (hcc _ (by exact o1) (by rfl)) (by simp only[QF3,QGo,h1,KR,Qa,seval]<;>rfl) ?_;cases ha:Yt A B C _ k
  ·simp only[h9,e1,Qa,seval];exact⟨_,by omega,_,_,k+1,rfl,rfl,by omega,fun j hj=>(by rcases QG4.1 hj with h|rfl;exact hal j h;exact ha),(by exact h1),(by exact h3),(by exact h5),(by exact h8),(by rfl),(by exact o1),rfl⟩
  ·simp only[Qa,seval];exact hr _ _ k hlt ha (by rfl)

include hA hB hC in
theorem QzT:Qr Tryz.prog 100 [.agg [.list (A.map Qm),.list (B.map Qm),.list (C.map Qm)]] (.bool (WY A B C)):=by
 let I:Nat→St→Prop:=fun n st=>∃f fr i,st=⟨f,[fr],[]⟩∧n=3-i∧i≤3∧(∀j,j<i→∀k,k<j→Yt A B C j k=false)∧f 1=.ptr 0 1 0∧f 5=.int .i64 (i:Nat)∧fr 1=.cells [.list (A.map Qm),.list (B.map Qm),.list (C.map Qm)]∧(fr 4).isRow=false
 refine LN.fn (by simp) ?_;simp only[eE,seval];refine Qg I _ ⟨_,_,0,rfl,rfl,by omega,fun j hj=>by omega,(by rfl),(by rfl),(by rfl),rfl⟩ ?_;rintro _ st ⟨f0,fr0,i,rfl,rfl,hi,hal,h10,h50,XE,r4⟩;refine QD (a:=_) [4] (by intro s hs;simp only[QGF,QHk,or_false]at hs;subst hs;exact r4) ?_;intro f fr hf hmm hn;have h1:f 1=.ptr 0 1 0:=by rw[hf,h10]<;>rfl
 have h5:f 5=.int .i64 (i:Nat):=by rw[hf,h50]<;>rfl
 have o1:fr 1=.cells [.list (A.map Qm),.list (B.map Qm),.list (C.map Qm)]:=by rw[hmm 1 (by decide),XE]<;>rfl
 have n4:=hn 4 (by decide);clear hf hmm hn h10 h50 XE r4;simp only[h5,Qa,seval];by_cases hlt:i<3
 case neg=>
  have e:i=3:=by omega
  subst e;have d:decide (((3:Nat):Int)<3)=false:=rfl;have hap:WY A B C=true:=by
   unfold WY;rw[hal 1 (by omega) 0 (by omega),hal 2 (by omega) 0 (by omega),hal 2 (by omega) 1 (by omega)];rfl
  simp only[hap,Qa,seval]
 have d:decide ((i:Int)<3)=true:=QHa (by omega);have e1:=Qn i 3 hlt (by simp only[maxLen];omega);simp only[d,h5,Qa,seval];refine QsK A B C hA hB hC i hlt _ _ (by exact h1) (by rfl) (by exact h5) (by rfl) (by rfl) o1 (by rw[n4];rfl) _ (fun f fr hk h1 h5 o1 r4=>?_) (fun f fr k hk ha h2=>?_)
 ·simp only[h5,e1,Qa,seval];exact⟨3-(i+1),by omega,_,_,i+1,rfl,rfl,by omega,fun j hj=>(by rcases QG4.1 hj with h|rfl;exact hal j h;exact hk),(by exact h1),(by rfl),o1,r4⟩
 ·have hap:WY A B C=false:=by
   unfold WY;have h3:(i=1∧k=0)∨(i=2∧k=0)∨(i=2∧k=1):=by omega
   rcases h3 with⟨rfl,rfl⟩|⟨rfl,rfl⟩|⟨rfl,rfl⟩<;>rw[ha]<;>simp
  simp only[h2,hap,Qa,seval]
end

theorem Md (S:SC):WY (S.msgs.map SM.name) (S.enums.map SE.name) (S.servs.map SQ.name)=Js S:=by
 have key:∀ {α β:Type} (l:List α) (r:List β) (f:α→List UInt8) (g:β→List UInt8),((l.map f).any fun s=>(r.map g).contains s)=l.any fun x=>r.any fun y=>g y==f x:=by
  intro α β l r f g;rw[List.any_map];congr 1
  funext x;show(r.map g).contains (f x)=_;rw[←Bm,List.any_map];rfl
 unfold WY Js Yt;show(!((S.enums.map SE.name).any fun s=>(S.msgs.map SM.name).contains s) && !((S.servs.map SQ.name).any fun s=>(S.msgs.map SM.name).contains s) && !((S.servs.map SQ.name).any fun s=>(S.enums.map SE.name).contains s))=_;rw[key,key,key]

theorem Yc {M:Nat}(hM:M≤1048576)(S:SC)(cy:SM→Bool)(m:SM)(hm:m.ok M):(Z6 S cy m).length≤14000000:=by
 have h1:=hm.len1;have h2:=hm.len2;have h3:=hm.len3;have a:=Q0 m.name (-1) (Xe m.name) 8;have b:=Q0 m.name (-1) (decide (m.fields.length≤64)&&decide (m.free.length≤16)&&decide (m.gone.length≤16)) 3;have c:=QN (l:=m.fields) (K1 S m) m.fields.length;have d:=QN (l:=m.free) (Jz m.name 1 65535 m.free) m.free.length;have e:=QN (l:=m.gone) (g:=fun _ g=>pb m.name (-1) (ZR g) 7) (c:=1) (fun _ g=>Q0 ..) m.gone.length;have f:=Q0 m.name (-1) (XZ m.notes 1==0) (XZ m.notes 1);have g:=Q0 m.name (-1) (!cy m) 19;unfold Z6 Xu;simp only[QF7];omega
theorem Yd {M:Nat}(hM:M≤1048576)(e:SE)(he:e.ok M):(ZZ e).length≤14000000:=by
 have h1:=he.len1;have h2:=he.len2;have a:=Q0 e.name (-1) (Xe e.name) 8;have b:=Q0 e.name (-1) (decide (e.items.length≥1)&&decide (e.items.length≤64)&&decide (e.free.length≤16)) 3;have b2:=Q0 e.name (-1) (ZD e) 14;have c:=QN (l:=e.items) (K2 e) e.items.length;have d:=QN (l:=e.free) (Jz e.name 0 2147483647 e.free) e.free.length;have f:=Q0 e.name (-1) (XZ e.notes 3==0) (XZ e.notes 3);unfold ZZ Xu;simp only[QF7];omega
theorem Bo {M:Nat}(hM:M≤1048576)(S:SC)(v:SQ)(hv:v.ok M):(Je S v).length≤14000000:=by
 have h1:=hv.len1;have a:=Q0 v.name (-1) (Xe v.name) 8;have b:=Q0 v.name (-1) (decide (v.meths.length≤64)) 3;have c:=QN (l:=v.meths) (K3 S v) v.meths.length;have f:=Q0 v.name (-1) (XZ v.notes 5==0) (XZ v.notes 5);unfold Je Xu;simp only[QF7];omega
theorem Hn (l:List PB):(l.map PB.av).all (fun e=>e.cells.length==3)=true:=by
 rw[QFK];intro x hx;obtain⟨y,_,rfl⟩:=QGG.1 hx;rfl

theorem ZF (l:List (List UInt8)):(Z8 l).length≤2:=by
 have a:=Q0 [] (-1) (decide (l.length≤64)) 3;have b:=Q0 [] (-1) (Q8 l Op.bytesLess) 11;unfold Z8;rw[QF7];omega
def Jo (A B C:List (List UInt8)):Nat→List PB
 |0=>[]
 |1=>Z8 A
 |2=>Z8 A++Z8 B
 |_=>Z8 A++Z8 B++Z8 C

section
variable (A B C:List (List UInt8))(hA:A.length≤1048576)(hB:B.length≤1048576)(hC:C.length≤1048576)(base:Nat→Ob)
def AF (f:Fr):Prop:=f 1=.ptr 0 1 0∧f 3=.ptr 0 15 0∧f 4=.ptr 0 4 0

include hA hB hC in
theorem QzU (f:Fr)(hf:AF f)(h18:f 18=.agg [.list (A.map Qm),.list (B.map Qm),.list (C.map Qm)])(h19:f 19=.int .i64 0)(Q:Exit→St→Prop)
  (hq:∀f,AF f→Q (.exit 0) ⟨f,[Qo base 15 1100 [] (-1) (Jo A B C 3)],[]⟩):QJ Tryz.prog (.loop B1) ⟨f,[Qo base 15 1100 [] (-1) []],[]⟩ Q:=by
 let I:Nat→St→Prop:=fun n st=>∃f i,st=⟨f,[Qo base 15 1100 [] (-1) (Jo A B C i)],[]⟩∧n=3-i∧i≤3∧AF f∧f 18=.agg [.list (A.map Qm),.list (B.map Qm),.list (C.map Qm)]∧f 19=.int .i64 (i:Nat)
 refine Qg I _ ⟨f,0,rfl,rfl,by omega,hf,h18,h19⟩ ?_;clear hf h18 h19;rintro _ st ⟨f,i,rfl,rfl,hi,⟨h1,h3,h4⟩,h18,h19⟩;simp only[B1,Rq,h19,Qa,seval];by_cases hlt:i<3
 case neg=>
  have e:i=3:=by omega
  subst e;have d:decide (((3:Nat):Int)<3)=false:=rfl;simp only[Qa,seval];exact hq _ ⟨(by exact h1),(by exact h3),(by exact h4)⟩
 have d:decide ((i:Int)<3)=true:=QHa (by omega);have e1:=Qn i 3 hlt (by simp only[maxLen];omega);have key:∀(L:List (List UInt8)) (hL:L.length≤1048576) (p:List PB) (hp:p.length≤100) (hs:Jo A B C (i+1)=p++Z8 L) (f:Fr) (h1:f 1=.ptr 0 1 0) (h3:f 3=.ptr 0 15 0) (h4:f 4=.ptr 0 4 0) (h18:f 18=.agg [.list (A.map Qm),.list (B.map Qm),.list (C.map Qm)]) (h19:f 19=.int .i64 (i:Nat)) (h6:f 6=.list (L.map Qm)),
   Qp Tryz.prog BY ⟨f,[Qo base 15 1100 [] (-1) p],[]⟩ (Kc Tryz.prog (.reg BZ) (Kb 1 (Kc Tryz.prog (.reg B0) (Kl I (3-i) Q))) Exit.normal):=by
  intro L hL p hp hs f h1 h3 h4 h18 h19 h6;simp only[BY,h3,h6,QGK,Ni,Qa,seval];refine Qb (XD base 15 1100 [] (-1) p (by decide) rfl (by omega) (decide (L.length≤64)) 3 []) (by simp only[QF3,QGo,Qa,seval]<;>rfl) ?_;simp only[BZ,h3,h6,Qa,seval];refine aC (s99 L (by simp only[maxLen];omega)) ?_
  try simp only[eE,seval]
  have q1:=Qt hp [] (-1) (decide (L.length≤64)) 3;refine Qb (XD base 15 1100 [] (-1) _ (by decide) rfl (by omega) (Q8 L Op.bytesLess) 11 []) (by simp only[QF3,QGo,Qa,seval]<;>rfl) ?_;simp only[B0,h19,e1,Qa,seval];exact⟨3-(i+1),by omega,_,i+1,by rw[hs,Z8,QFR],rfl,by omega,⟨(by exact h1),(by exact h3),(by exact h4)⟩,(by exact h18),(by rfl)⟩
 rcases(show i=0∨i=1∨i=2 by omega)with rfl|rfl|rfl
 ·simp only[HX,h18,h19,Qa,seval];refine key A hA [] (by simp) rfl _ (by exact h1) (by exact h3) (by exact h4) (by exact h18) (by exact h19) (by rfl)
 ·simp only[HX,h18,h19,Qa,seval];refine key B hB (Z8 A) (by have:=ZF A;omega) rfl _ (by exact h1) (by exact h3) (by exact h4) (by exact h18) (by exact h19) (by rfl)
 ·simp only[HX,h18,h19,Qa,seval];refine key C hC (Z8 A++Z8 B) (by have:=ZF A;have:=ZF B;simp only[QF7];omega) rfl _ (by exact h1) (by exact h3) (by exact h4) (by exact h18) (by exact h19) (by rfl)
end

theorem X7 {α β:Type}{l:List α}{g:α→List β}{i:Nat}{x:α}(h:l[i]? = some x):(l.take (i+1)).flatMap g=(l.take i).flatMap g++g x:=by
 rw[QGU,h,QGV,List.flatMap_append,List.flatMap_cons,List.flatMap_nil,QGq]
theorem Ja {α β:Type}{l:List α}{g:α→List β}{c:Nat}(h:∀x∈l,(g x).length≤c):∀n,((l.take n).flatMap g).length≤c*n
 |0=>by simp
 |n+1=>by
  have ih:=Ja h n;rw[Nat.mul_add];cases hx:l[n]? with
  |none=>
   rw[QGU,hx,Option.toList_none,QGq];omega
  |some x=>
   have:=h x (QFL hx);rw[X7 hx,QF7];omega
def AR (fr:Nat→Ob)(L:List PB):Prop:=∃g,fr 15=.cells [.str [],.int .i64 (-1),.vec 0 1100 g 0 L.length false]∧fr 1100=.vec g 3 (L.map PB.av)

section
variable {M:Nat}(hM:M≤1048576)(S:SC)(hS:S.ok M)(X:List (List UInt8))
include hM hS in
theorem QzV (l:List PB)(hl:l.length≤1000000000)(h8:S.msgs.length≤8)(f:Fr)(fr:Nat→Ob)(h1:f 1=.ptr 0 1 0)(h3:f 3=.ptr 0 15 0)(h7:f 7=.mp X (Xg X))(hw:f 39=.list (S.msgs.map QW))(hz:f 40=.int .i64 (S.msgs.length:Nat))(hk:f 41=.int .i64 0)
  (o1:fr 1=.cells [.list (S.msgs.map fun n=>.agg n.cells),.list (S.enums.map fun n=>.agg n.cells),.list (S.servs.map fun n=>.agg n.cells)]) (hA:AR fr l) (rv:∀s∈[9,11,13],(fr s).isRow=false) (Q:Exit→St→Prop)
  (hq:∀(f:Fr) (fr:Nat→Ob),f 1=.ptr 0 1 0→f 3=.ptr 0 15 0→f 7=.mp X (Xg X)→fr 1=.cells [.list (S.msgs.map fun n=>.agg n.cells),.list (S.enums.map fun n=>.agg n.cells),.list (S.servs.map fun n=>.agg n.cells)]→AR fr (l++S.msgs.flatMap (Z6 S (fun m=>(XX m).any fun n=>QZ S n && !X.contains n)))→(∀s∈[9,11,13],(fr s).isRow=false)→Q (.exit 2) ⟨f,[fr],[]⟩):QJ Tryz.prog (.loop Rs) ⟨f,[fr],[]⟩ Q:=by
 let I:Nat→St→Prop:=fun n st=>∃f fr i,st=⟨f,[fr],[]⟩∧n=S.msgs.length-i∧i≤S.msgs.length∧f 1=.ptr 0 1 0∧f 3=.ptr 0 15 0∧f 7=.mp X (Xg X)∧f 39=.list (S.msgs.map QW)∧f 40=.int .i64 (S.msgs.length:Nat)∧f 41=.int .i64 (i:Nat)∧
  fr 1=.cells [.list (S.msgs.map fun n=>.agg n.cells),.list (S.enums.map fun n=>.agg n.cells),.list (S.servs.map fun n=>.agg n.cells)]∧AR fr (l++(S.msgs.take i).flatMap (Z6 S (fun m=>(XX m).any fun n=>QZ S n && !X.contains n)))∧∀s∈[9,11,13],(fr s).isRow=false
 have hg:∀x∈S.msgs,((Z6 S (fun m=>(XX m).any fun n=>QZ S n && !X.contains n)) x).length≤14000000:=fun x hx=>Yc hM S _ x (hS.msgs x hx)
 refine Qg I _ ⟨f,fr,0,rfl,rfl,QFG _,h1,h3,h7,hw,hz,hk,o1,by simpa using hA,rv⟩ ?_;clear h1 h3 h7 hw hz hk o1 hA rv;rintro _ st ⟨f0,fr0,i,rfl,rfl,hi,h10,h30,h70,hw0,hz0,hk0,XE,⟨g,m15,mR⟩,rv⟩;refine QD (a:=_) [9] (by intro s hs;simp only[QGF,QHk,or_false]at hs;subst hs;exact rv _ (by decide)) ?_;intro f fr hf hmm hn;have h1:f 1=.ptr 0 1 0:=by rw[hf,h10]<;>rfl
 have h3:f 3=.ptr 0 15 0:=by rw[hf,h30]<;>rfl
 have h7:f 7=.mp X (Xg X):=by rw[hf,h70]<;>rfl
 have hw:f 39=.list (S.msgs.map QW):=by rw[hf,hw0]<;>rfl
 have hz:f 40=.int .i64 (S.msgs.length:Nat):=by rw[hf,hz0]<;>rfl
 have hk:f 41=.int .i64 (i:Nat):=by rw[hf,hk0]<;>rfl
 have o1:fr 1=.cells [.list (S.msgs.map fun n=>.agg n.cells),.list (S.enums.map fun n=>.agg n.cells),.list (S.servs.map fun n=>.agg n.cells)]:=by rw[hmm 1 (by decide),XE]<;>rfl
 have oS:fr 15=.cells [.str [],.int .i64 (-1),.vec 0 1100 g 0 (l++(S.msgs.take i).flatMap (Z6 S (fun m=>(XX m).any fun n=>QZ S n && !X.contains n))).length false]:=by rw[hmm 15 (by decide),m15]<;>rfl
 have oR:fr 1100=.vec g 3 ((l++(S.msgs.take i).flatMap (Z6 S (fun m=>(XX m).any fun n=>QZ S n && !X.contains n))).map PB.av):=by rw[hmm 1100 (by decide),mR]<;>rfl
 have nv:=hn 9 (by decide);have rv':∀s∈[9,11,13],(fr s).isRow=false:=by
  intro s hs;by_cases hsv:s=9
  ·subst hsv;rw[nv];rfl
  ·rw[hmm s (by simp only[QGF,QHk,or_false];exact hsv)];have:=rv s hs
   revert this
   cases fr0 s<;>intro h<;>first|rfl|exact h
 clear hf hmm hn h10 h30 h70 hw0 hz0 hk0 XE m15 mR rv;simp only[Vc,Vd,Ve,Vf,hz,hk,Qa,seval];by_cases hlt:i<S.msgs.length
 case neg=>
  have e:i=S.msgs.length:=by omega
  subst e;simp only[QB hlt,Qa,seval];rw[QGS]at oS oR;exact hq _ _ (by exact h1) (by exact h3) (by exact h7) o1 ⟨g,oS,oR⟩ rv'
 obtain⟨x,hx⟩:∃x,S.msgs[i]? = some x:=⟨S.msgs[i],QFA hlt⟩;have hm:=QFL hx;have hgx:(S.msgs.map QW)[i]? = some (.agg x.cells):=by rw[QGI,hx];rfl
 rw[Xs]at hgx;have e1:=Qn i _ hlt (by simp only[maxLen];omega);have q1:=Ja hg i;have q2:=hg x hm;have hc:=QzC hM S hS x (hS.msgs x hm) X;simp only[QW,Xs,SC.av]at hc;simp only[Qz hlt,nv,Qj,QGM,Qe,hgx,h1,h3,h7,hw,hk,o1,oS,eE,seval];refine aC hc ?_;refine Xa (xs:=(l++(S.msgs.take i).flatMap (Z6 S (fun m=>(XX m).any fun n=>QZ S n && !X.contains n))).map PB.av) (by rfl) (by exact oR) rfl (by simp) (by rfl) (Hn _) (by simp only[QF7,QGK,maxLen];omega) (by simp only[QF7,QGK];omega) ?_;simp only[hk,oS,e1,eE,seval];refine⟨S.msgs.length-(i+1),by omega,_,_,i+1,rfl,rfl,by omega,(by exact h1),(by exact h3),(by exact h7),(by exact hw),(by exact hz),(by rfl),(by exact o1),⟨g+1,?_,?_⟩,?_⟩
 ·rw[X7 hx,←QFR];simp only[QF7,QGK,Qa,seval]
 ·rw[X7 hx,←QFR];simp only[QGT,Qa,seval]
 ·intro s hs;simp only[QGF,QHk,or_false]at hs;rcases hs with rfl|rfl|rfl<;>first|rfl|exact rv' _ (by decide)

include hM hS in
theorem QzW (l:List PB)(hl:l.length≤1000000000)(h8:S.enums.length≤8)(f:Fr)(fr:Nat→Ob)(h1:f 1=.ptr 0 1 0)(h3:f 3=.ptr 0 15 0)(h7:f 7=.mp X (Xg X))(hw:f 59=.list (S.enums.map XM))(hz:f 60=.int .i64 (S.enums.length:Nat))(hk:f 61=.int .i64 0)
  (o1:fr 1=.cells [.list (S.msgs.map fun n=>.agg n.cells),.list (S.enums.map fun n=>.agg n.cells),.list (S.servs.map fun n=>.agg n.cells)]) (hA:AR fr l) (rv:∀s∈[9,11,13],(fr s).isRow=false) (Q:Exit→St→Prop)
  (hq:∀(f:Fr) (fr:Nat→Ob),f 1=.ptr 0 1 0→f 3=.ptr 0 15 0→f 7=.mp X (Xg X)→fr 1=.cells [.list (S.msgs.map fun n=>.agg n.cells),.list (S.enums.map fun n=>.agg n.cells),.list (S.servs.map fun n=>.agg n.cells)]→AR fr (l++S.enums.flatMap (ZZ))→(∀s∈[9,11,13],(fr s).isRow=false)→Q (.exit 4) ⟨f,[fr],[]⟩):QJ Tryz.prog (.loop Rt) ⟨f,[fr],[]⟩ Q:=by
 let I:Nat→St→Prop:=fun n st=>∃f fr i,st=⟨f,[fr],[]⟩∧n=S.enums.length-i∧i≤S.enums.length∧f 1=.ptr 0 1 0∧f 3=.ptr 0 15 0∧f 7=.mp X (Xg X)∧f 59=.list (S.enums.map XM)∧f 60=.int .i64 (S.enums.length:Nat)∧f 61=.int .i64 (i:Nat)∧
  fr 1=.cells [.list (S.msgs.map fun n=>.agg n.cells),.list (S.enums.map fun n=>.agg n.cells),.list (S.servs.map fun n=>.agg n.cells)]∧AR fr (l++(S.enums.take i).flatMap (ZZ))∧∀s∈[9,11,13],(fr s).isRow=false
 have hg:∀x∈S.enums,((ZZ) x).length≤14000000:=fun x hx=>Yd hM x (hS.enums x hx)
 refine Qg I _ ⟨f,fr,0,rfl,rfl,QFG _,h1,h3,h7,hw,hz,hk,o1,by simpa using hA,rv⟩ ?_;clear h1 h3 h7 hw hz hk o1 hA rv;rintro _ st ⟨f0,fr0,i,rfl,rfl,hi,h10,h30,h70,hw0,hz0,hk0,XE,⟨g,m15,mR⟩,rv⟩;refine QD (a:=_) [11] (by intro s hs;simp only[QGF,QHk,or_false]at hs;subst hs;exact rv _ (by decide)) ?_;intro f fr hf hmm hn;have h1:f 1=.ptr 0 1 0:=by rw[hf,h10]<;>rfl
 have h3:f 3=.ptr 0 15 0:=by rw[hf,h30]<;>rfl
 have h7:f 7=.mp X (Xg X):=by rw[hf,h70]<;>rfl
 have hw:f 59=.list (S.enums.map XM):=by rw[hf,hw0]<;>rfl
 have hz:f 60=.int .i64 (S.enums.length:Nat):=by rw[hf,hz0]<;>rfl
 have hk:f 61=.int .i64 (i:Nat):=by rw[hf,hk0]<;>rfl
 have o1:fr 1=.cells [.list (S.msgs.map fun n=>.agg n.cells),.list (S.enums.map fun n=>.agg n.cells),.list (S.servs.map fun n=>.agg n.cells)]:=by rw[hmm 1 (by decide),XE]<;>rfl
 have oS:fr 15=.cells [.str [],.int .i64 (-1),.vec 0 1100 g 0 (l++(S.enums.take i).flatMap (ZZ)).length false]:=by rw[hmm 15 (by decide),m15]<;>rfl
 have oR:fr 1100=.vec g 3 ((l++(S.enums.take i).flatMap (ZZ)).map PB.av):=by rw[hmm 1100 (by decide),mR]<;>rfl
 have nv:=hn 11 (by decide);have rv':∀s∈[9,11,13],(fr s).isRow=false:=by
  intro s hs;by_cases hsv:s=11
  ·subst hsv;rw[nv];rfl
  ·rw[hmm s (by simp only[QGF,QHk,or_false];exact hsv)];have:=rv s hs
   revert this
   cases fr0 s<;>intro h<;>first|rfl|exact h
 clear hf hmm hn h10 h30 h70 hw0 hz0 hk0 XE m15 mR rv;simp only[Vh,Vi,Vj,Vk,hz,hk,Qa,seval];by_cases hlt:i<S.enums.length
 case neg=>
  have e:i=S.enums.length:=by omega
  subst e;simp only[QB hlt,Qa,seval];rw[QGS]at oS oR;exact hq _ _ (by exact h1) (by exact h3) (by exact h7) o1 ⟨g,oS,oR⟩ rv'
 obtain⟨x,hx⟩:∃x,S.enums[i]? = some x:=⟨S.enums[i],QFA hlt⟩;have hm:=QFL hx;have hgx:(S.enums.map XM)[i]? = some (.agg x.cells):=by rw[QGI,hx];rfl
 rw[X1]at hgx;have e1:=Qn i _ hlt (by simp only[maxLen];omega);have q1:=Ja hg i;have q2:=hg x hm;have hc:=QzI hM x (hS.enums x hm);simp only[XM,X1]at hc;simp only[Qz hlt,nv,Qj,QGM,Qe,hgx,h3,hw,hk,oS,eE,seval];refine aC hc ?_;refine Xa (xs:=(l++(S.enums.take i).flatMap (ZZ)).map PB.av) (by rfl) (by exact oR) rfl (by simp) (by rfl) (Hn _) (by simp only[QF7,QGK,maxLen];omega) (by simp only[QF7,QGK];omega) ?_;simp only[hk,oS,e1,eE,seval];refine⟨S.enums.length-(i+1),by omega,_,_,i+1,rfl,rfl,by omega,(by exact h1),(by exact h3),(by exact h7),(by exact hw),(by exact hz),(by rfl),(by exact o1),⟨g+1,?_,?_⟩,?_⟩
 ·rw[X7 hx,←QFR];simp only[QF7,QGK,Qa,seval]
 ·rw[X7 hx,←QFR];simp only[QGT,Qa,seval]
 ·intro s hs;simp only[QGF,QHk,or_false]at hs;rcases hs with rfl|rfl|rfl<;>first|rfl|exact rv' _ (by decide)

include hM hS in
theorem QzX (l:List PB)(hl:l.length≤1000000000)(h8:S.servs.length≤8)(f:Fr)(fr:Nat→Ob)(h1:f 1=.ptr 0 1 0)(h3:f 3=.ptr 0 15 0)(h7:f 7=.mp X (Xg X))(hw:f 77=.list (S.servs.map KL))(hz:f 78=.int .i64 (S.servs.length:Nat))(hk:f 79=.int .i64 0)
  (o1:fr 1=.cells [.list (S.msgs.map fun n=>.agg n.cells),.list (S.enums.map fun n=>.agg n.cells),.list (S.servs.map fun n=>.agg n.cells)]) (hA:AR fr l) (rv:∀s∈[9,11,13],(fr s).isRow=false) (Q:Exit→St→Prop)
  (hq:∀(f:Fr) (fr:Nat→Ob),f 1=.ptr 0 1 0→f 3=.ptr 0 15 0→f 7=.mp X (Xg X)→fr 1=.cells [.list (S.msgs.map fun n=>.agg n.cells),.list (S.enums.map fun n=>.agg n.cells),.list (S.servs.map fun n=>.agg n.cells)]→AR fr (l++S.servs.flatMap (Je S))→(∀s∈[9,11,13],(fr s).isRow=false)→Q (.exit 6) ⟨f,[fr],[]⟩):QJ Tryz.prog (.loop Ru) ⟨f,[fr],[]⟩ Q:=by
 let I:Nat→St→Prop:=fun n st=>∃f fr i,st=⟨f,[fr],[]⟩∧n=S.servs.length-i∧i≤S.servs.length∧f 1=.ptr 0 1 0∧f 3=.ptr 0 15 0∧f 7=.mp X (Xg X)∧f 77=.list (S.servs.map KL)∧f 78=.int .i64 (S.servs.length:Nat)∧f 79=.int .i64 (i:Nat)∧
  fr 1=.cells [.list (S.msgs.map fun n=>.agg n.cells),.list (S.enums.map fun n=>.agg n.cells),.list (S.servs.map fun n=>.agg n.cells)]∧AR fr (l++(S.servs.take i).flatMap (Je S))∧∀s∈[9,11,13],(fr s).isRow=false
 have hg:∀x∈S.servs,((Je S) x).length≤14000000:=fun x hx=>Bo hM S x (hS.servs x hx)
 refine Qg I _ ⟨f,fr,0,rfl,rfl,QFG _,h1,h3,h7,hw,hz,hk,o1,by simpa using hA,rv⟩ ?_;clear h1 h3 h7 hw hz hk o1 hA rv;rintro _ st ⟨f0,fr0,i,rfl,rfl,hi,h10,h30,h70,hw0,hz0,hk0,XE,⟨g,m15,mR⟩,rv⟩;refine QD (a:=_) [13] (by intro s hs;simp only[QGF,QHk,or_false]at hs;subst hs;exact rv _ (by decide)) ?_;intro f fr hf hmm hn;have h1:f 1=.ptr 0 1 0:=by rw[hf,h10]<;>rfl
 have h3:f 3=.ptr 0 15 0:=by rw[hf,h30]<;>rfl
 have h7:f 7=.mp X (Xg X):=by rw[hf,h70]<;>rfl
 have hw:f 77=.list (S.servs.map KL):=by rw[hf,hw0]<;>rfl
 have hz:f 78=.int .i64 (S.servs.length:Nat):=by rw[hf,hz0]<;>rfl
 have hk:f 79=.int .i64 (i:Nat):=by rw[hf,hk0]<;>rfl
 have o1:fr 1=.cells [.list (S.msgs.map fun n=>.agg n.cells),.list (S.enums.map fun n=>.agg n.cells),.list (S.servs.map fun n=>.agg n.cells)]:=by rw[hmm 1 (by decide),XE]<;>rfl
 have oS:fr 15=.cells [.str [],.int .i64 (-1),.vec 0 1100 g 0 (l++(S.servs.take i).flatMap (Je S)).length false]:=by rw[hmm 15 (by decide),m15]<;>rfl
 have oR:fr 1100=.vec g 3 ((l++(S.servs.take i).flatMap (Je S)).map PB.av):=by rw[hmm 1100 (by decide),mR]<;>rfl
 have nv:=hn 13 (by decide);have rv':∀s∈[9,11,13],(fr s).isRow=false:=by
  intro s hs;by_cases hsv:s=13
  ·subst hsv;rw[nv];rfl
  ·rw[hmm s (by simp only[QGF,QHk,or_false];exact hsv)];have:=rv s hs
   revert this
   cases fr0 s<;>intro h<;>first|rfl|exact h
 clear hf hmm hn h10 h30 h70 hw0 hz0 hk0 XE m15 mR rv;simp only[Vm,Vn,Vo,Vq,hz,hk,Qa,seval];by_cases hlt:i<S.servs.length
 case neg=>
  have e:i=S.servs.length:=by omega
  subst e;simp only[QB hlt,Qa,seval];rw[QGS]at oS oR;exact hq _ _ (by exact h1) (by exact h3) (by exact h7) o1 ⟨g,oS,oR⟩ rv'
 obtain⟨x,hx⟩:∃x,S.servs[i]? = some x:=⟨S.servs[i],QFA hlt⟩;have hm:=QFL hx;have hgx:(S.servs.map KL)[i]? = some (.agg x.cells):=by rw[QGI,hx];rfl
 rw[J9]at hgx;have e1:=Qn i _ hlt (by simp only[maxLen];omega);have q1:=Ja hg i;have q2:=hg x hm;have hc:=QzM hM S hS x (hS.servs x hm);simp only[KL,J9,SC.av]at hc;simp only[Qz hlt,nv,Qj,QGM,Qe,hgx,h1,h3,hw,hk,o1,oS,eE,seval];refine aC hc ?_;refine Xa (xs:=(l++(S.servs.take i).flatMap (Je S)).map PB.av) (by rfl) (by exact oR) rfl (by simp) (by rfl) (Hn _) (by simp only[QF7,QGK,maxLen];omega) (by simp only[QF7,QGK];omega) ?_;simp only[hk,oS,e1,eE,seval];refine⟨S.servs.length-(i+1),by omega,_,_,i+1,rfl,rfl,by omega,(by exact h1),(by exact h3),(by exact h7),(by exact hw),(by exact hz),(by rfl),(by exact o1),⟨g+1,?_,?_⟩,?_⟩
 ·rw[X7 hx,←QFR];simp only[QF7,QGK,Qa,seval]
 ·rw[X7 hx,←QFR];simp only[QGT,Qa,seval]
 ·intro s hs;simp only[QGF,QHk,or_false]at hs;rcases hs with rfl|rfl|rfl<;>first|rfl|exact rv' _ (by decide)

end

theorem s33 {M:Nat}(hM:M≤1048576)(S:SC)(hS:S.ok M)(h8:S.msgs.length≤8∧S.enums.length≤8∧S.servs.length≤8):Qr Tryz.prog 33 [S.av] (.list ((KZ S (UA S)).map PB.av)):=by
 obtain⟨l1,l2,l3⟩:=h8;refine k33.fn (by simp) ?_;simp only[Lf,Lg,Rm,Rn,SC.av,eE,seval];refine Xz rfl rfl rfl rfl ?_;simp only[Ro,eE,seval];have hc:=s97 hM S hS;have hf:=QzB hM S hS;simp only[SC.av]at hc hf;refine aC hc ?_;rw[H7 _ 15 1100 [] (-1) (by decide)];generalize hb:(Qx Qc 1 _:Nat→Ob)=base;have c4:∀n l,Qo base 15 1100 [] n l 4=.none:=fun n l=>by rw[QP _ _ _ _ _ _ (by decide) (by decide),←hb];rfl
 have o1:base 1=.cells [.list (S.msgs.map fun n=>.agg n.cells),.list (S.enums.map fun n=>.agg n.cells),.list (S.servs.map fun n=>.agg n.cells)]:=by rw[←hb];rfl
 have r9:∀s∈[9,11,13],base s=.none:=by
  intro s hs;rw[←hb];simp only[QGF,QHk,or_false]at hs;rcases hs with rfl|rfl|rfl<;>rfl
 clear hb;simp only[c4,Rp,eE,seval];rw[Hm (by decide) (by decide)];generalize hA:S.msgs.map SM.name=A;generalize hB:S.enums.map SE.name=B;generalize hC:S.servs.map SQ.name=C;have lA:A.length≤8:=by rw[←hA,QGK];exact l1
 have lB:B.length≤8:=by rw[←hB,QGK];exact l2
 have lC:C.length≤8:=by rw[←hC,QGK];exact l3
 generalize hb:(Qx base 4 _:Nat→Ob)=b2;have p1:∀n l,Qo b2 15 1100 [] n l 1=.cells [.list (S.msgs.map fun n=>.agg n.cells),.list (S.enums.map fun n=>.agg n.cells),.list (S.servs.map fun n=>.agg n.cells)]:=fun n l=>by rw[QP _ _ _ _ _ _ (by decide) (by decide),←hb];exact(by exact o1)
 have p4:∀n l,Qo b2 15 1100 [] n l 4=.cells [.list (A.map Qm),.list (B.map Qm),.list (C.map Qm)]:=fun n l=>by rw[QP _ _ _ _ _ _ (by decide) (by decide),←hb];exact(by rfl)
 have p9:∀n l,∀s∈[9,11,13],(Qo b2 15 1100 [] n l s).isRow=false:=by
  intro n l s hs;have e:s≠1100∧s≠15∧s≠4:=by simp only[QGF,QHk,or_false]at hs;omega
  rw[QP _ _ _ _ _ _ e.1 e.2.1,←hb,QX _ _ e.2.2,r9 s hs];rfl
 clear hb o1 r9 c4;refine QzU A B C (by omega) (by omega) (by omega) b2 _ ⟨(by rfl),(by rfl),(by rfl)⟩ (by rfl) (by rfl) _ (fun f hf=>?_);obtain⟨h1,h3,h4⟩:=hf;have q0:(Jo A B C 3).length≤6:=by
  have a:=ZF A;have b:=ZF B;have c:=ZF C;simp only[Jo,QF7];omega
 simp only[Rr,h3,h4,p4,eE,seval];refine aC (QzT A B C (by simp only[maxLen];omega) (by simp only[maxLen];omega) (by simp only[maxLen];omega)) ?_
 try simp only[eE,seval]
 refine Qb (XD b2 15 1100 [] (-1) _ (by decide) rfl (by omega) (WY A B C) 9 []) (by simp only[QF3,QGo,Qa,seval]<;>rfl) ?_;have q1:=Qt q0 [] (-1) (WY A B C) 9;generalize hL:Jo A B C 3++pb [] (-1) (WY A B C) 9=L at q1;simp only[N9,h1,p1,eE,seval];refine aC hf ?_;simp only[Vb,h1,p1,QGK,eE,seval];refine QzV hM S hS (Wi S) L (by omega) l1 _ _ (by exact h1) (by exact h3) (by rfl) (by rfl) (by rfl) (by rfl) (p1 _ _) ⟨_,Jr _ _ _ _ _ _,Ki _ _ _ _ _ _ (by decide)⟩ (p9 _ _) _ (fun f fr h1 h3 h7 o1 hA1 r9=>?_);have q2:=Ja (l:=S.msgs) (fun x hx=>Yc hM S (fun m=>(XX m).any fun n=>QZ S n && !(Wi S).contains n) x (hS.msgs x hx)) S.msgs.length;rw[QGS]at q2;simp only[Vg,h1,o1,QGK,eE,seval];refine QzW hM S hS (Wi S) _ (by rw[QF7];omega) l2 _ _ (by exact h1) (by exact h3) (by exact h7) (by rfl) (by rfl) (by rfl) o1 hA1 r9 _ (fun f fr h1 h3 h7 o1 hA1 r9=>?_);have q3:=Ja (l:=S.enums) (fun x hx=>Yd hM x (hS.enums x hx)) S.enums.length;rw[QGS]at q3;simp only[Vl,h1,o1,QGK,eE,seval];refine QzX hM S hS (Wi S) _ (by rw[QF7,QF7];omega) l3 _ _ (by exact h1) (by exact h3) (by exact h7) (by rfl) (by rfl) (by rfl) o1 hA1 r9 _ (fun f fr h1 h3 h7 o1 hA1 r9=>?_);obtain⟨g,oS,oR⟩:=hA1;have ht:∀l:List PB,List.take l.length (List.map PB.av l)=List.map PB.av l:=fun l=>QF4 (by rw[QGK];exact QFx _)
 have hfin:L++S.msgs.flatMap (Z6 S (fun m=>(XX m).any fun n=>QZ S n && !(Wi S).contains n))++S.enums.flatMap ZZ++S.servs.flatMap (Je S)=KZ S (UA S):=by
  rw[←hL];unfold KZ Jo;rw[hA,hB,hC,←hA,←hB,←hC,Md];rfl
 rw[hfin]at oS oR;simp only[Vr,h3,oS,oR,QGK,QGb,ht,QFW,QFx,QGr,QGw,AV.un,eE,seval]

theorem s13 {M:Nat}(hM:M≤1048576)(S:SC)(hS:S.ok M)(h8:S.msgs.length≤8∧S.enums.length≤8∧S.servs.length≤8):Qr Tryz.prog 13 [S.av] (.bool (Z3 S)):=by
 have hc:=s33 hM S hS h8;have hv:(((KZ S (UA S)).length:Int)==0)=Z3 S:=by
  have e:=EN (S:=S);rw[QGj,QFV,←e]
  constructor
  ·intro h;exact QGs (by omega)
  ·intro h;rw[h];rfl
 refine k13.fn (by simp) ?_;simp only[SC.av,eE,seval];simp only[SC.av]at hc;refine aC hc ?_;simp only[QGK,hv,Qa,seval]

theorem Qmp (L:List (List UInt8))(hl:L.length≤maxLen)(n:List UInt8):Qr Tryz.prog 117 [.list (L.map Qm),.str n] (.bool (L.contains n)):=by
 let I:Nat→St→Prop:=fun k st=>∃f i,st=⟨f,[Qc],[]⟩∧k=L.length-i∧L.contains n=(L.drop i).contains n∧f 0=.list (L.map Qm)∧f 1=.str n∧f 5=.int .i64 (i:Nat)
 refine QuJ.fn (by simp) ?_;simp only[Qa,seval];refine Qg I _ ⟨_,0,rfl,rfl,rfl,(by rfl),(by rfl),(by rfl)⟩ ?_;rintro _ st ⟨f,i,rfl,rfl,hx,h0,h1,h5⟩;simp only[QGK,h0,h5,Qa,seval];by_cases hlt:i<L.length
 ·obtain⟨x,hi⟩:∃x,L[i]? = some x:=⟨L[i],QFA hlt⟩;have hg:(L.map Qm)[i]? = some (.str x):=by simp[hi,Qm]
  have e1:=Qn i _ hlt hl;have hd:(L.drop i).contains n=((x==n)||(L.drop (i+1)).contains n):=by
   rw[QGc hlt,show L[i]=x from(QFz.1 hi).2,List.contains_cons];congr 1
   rw[QGj,QFV,QFV];exact eq_comm
  simp only[Qz hlt,Qj,QGM,Qe,hg,h0,h1,h5,Qy,eE,seval];cases hp:(x==n)
  ·rw[hp,QG3]at hd;rw[hd]at hx;simp only[h5,e1,Qa,seval];exact⟨L.length-(i+1),by omega,_,i+1,rfl,rfl,hx,(by exact h0),(by exact h1),(by rfl)⟩
  ·rw[hp,QG2]at hd;rw[hd]at hx;simp only[hx,Qa,seval]
 ·have hx':L.contains n=false:=by rw[hx,QF6 (by omega)];rfl
  simp only[QB hlt,hx',Qa,seval]

def UD (S:SC)(n:List UInt8):Int:=QM (fun m:SE=>m.name==n) S.enums 0

theorem Nk (S:SC)(hl:S.msgs.length≤maxLen)(s:List UInt8):Qr Tryz.prog 129 [S.av,.str s] (.int .i64 (JO S s)):=by
 let I:Nat→St→Prop:=fun k st=>∃f fr i,st=⟨f,[fr],[]⟩∧k=S.msgs.length-i∧JO S s=QM (fun g:SM=>g.name==s) (S.msgs.drop i) i∧f 1=.str s∧f 2=.ptr 0 2 0∧f 5=.int .i64 (i:Nat)∧fr 2=.cells [.list (S.msgs.map fun n=>.agg n.cells),.list (S.enums.map fun n=>.agg n.cells),.list (S.servs.map fun n=>.agg n.cells)]
 refine Qvh.fn (by simp) ?_;simp only[SC.av,eE,seval];refine Qg I _ ⟨_,_,0,rfl,rfl,rfl,(by rfl),(by rfl),(by rfl),(by rfl)⟩ ?_;rintro _ st ⟨f,fr,i,rfl,rfl,hx,h1,h2,h5,m2⟩;simp only[QGK,h2,h5,m2,eE,seval];by_cases hlt:i<S.msgs.length
 ·obtain⟨x,hi⟩:∃x,S.msgs[i]? = some x:=⟨S.msgs[i],QFA hlt⟩;have hg:(S.msgs.map fun n=>AV.agg n.cells)[i]? = some (.agg x.cells):=by rw[QGI,hi];rfl
  have e1:=Qn i _ hlt hl;rw[Xs]at hg;rw[Xj _ hi]at hx;simp only[Qz hlt,Qj,QGM,Qe,hg,h1,h2,h5,m2,Qy,eE,seval];cases hp:(x.name==s)
  ·rw[hp]at hx;simp only[QFQ,if_false]at hx;simp only[h5,e1,Qa,seval];exact⟨S.msgs.length-(i+1),by omega,_,_,i+1,rfl,rfl,hx,(by exact h1),(by exact h2),(by rfl),m2⟩
  ·rw[hp]at hx;simp only[if_true]at hx;simp only[hx,h5,Qa,seval]
 ·have hx':JO S s = -1:=by rw[hx,QF6 (by omega)];rfl
  simp only[QB hlt,hx',Qa,seval]

theorem Qmq (S:SC)(hl:S.enums.length≤maxLen)(s:List UInt8):Qr Tryz.prog 171 [S.av,.str s] (.int .i64 (UD S s)):=by
 let I:Nat→St→Prop:=fun k st=>∃f fr i,st=⟨f,[fr],[]⟩∧k=S.enums.length-i∧UD S s=QM (fun g:SE=>g.name==s) (S.enums.drop i) i∧f 1=.str s∧f 2=.ptr 0 2 0∧f 5=.int .i64 (i:Nat)∧fr 2=.cells [.list (S.msgs.map fun n=>.agg n.cells),.list (S.enums.map fun n=>.agg n.cells),.list (S.servs.map fun n=>.agg n.cells)]
 refine Qwg.fn (by simp) ?_;simp only[SC.av,eE,seval];refine Qg I _ ⟨_,_,0,rfl,rfl,rfl,(by rfl),(by rfl),(by rfl),(by rfl)⟩ ?_;rintro _ st ⟨f,fr,i,rfl,rfl,hx,h1,h2,h5,m2⟩;simp only[QGK,h2,h5,m2,eE,seval];by_cases hlt:i<S.enums.length
 ·obtain⟨x,hi⟩:∃x,S.enums[i]? = some x:=⟨S.enums[i],QFA hlt⟩;have hg:(S.enums.map fun n=>AV.agg n.cells)[i]? = some (.agg x.cells):=by rw[QGI,hi];rfl
  have e1:=Qn i _ hlt hl;rw[X1]at hg;rw[Xj _ hi]at hx;simp only[Qz hlt,Qj,QGM,Qe,hg,h1,h2,h5,m2,Qy,eE,seval];cases hp:(x.name==s)
  ·rw[hp]at hx;simp only[QFQ,if_false]at hx;simp only[h5,e1,Qa,seval];exact⟨S.enums.length-(i+1),by omega,_,_,i+1,rfl,rfl,hx,(by exact h1),(by exact h2),(by rfl),m2⟩
  ·rw[hp]at hx;simp only[if_true]at hx;simp only[hx,h5,Qa,seval]
 ·have hx':UD S s = -1:=by rw[hx,QF6 (by omega)];rfl
  simp only[QB hlt,hx',Qa,seval]

theorem Me (S:SC)(n:List UInt8):decide (JO S n≥0)=QZ S n:=Bb _ _
theorem Qmr (S:SC)(n:List UInt8):decide (UD S n≥0)=U9 S n:=Bb _ _
theorem Mf (S:SC)(n:List UInt8):decide (JO S n<0)=!QZ S n:=by
 rw[←Me];exact(by rw[QGj];simp only[QGH,QGl,QHb];omega)

theorem Nl (s:List UInt8):Qr Tryz.prog 120 [.str s] (.bool (Q7 s)):=by
 refine QuS.fn (by simp) ?_;simp only[Q7,Qa,seval];refine aC (Pl s) ?_;cases QY s
 ·simp only[QGP,Qa,seval]
 ·simp only[QG0,Qa,seval];refine aC (QlO s) ?_;simp only[Qa,seval]

def UsI (s:List UInt8)(k:Nat)(st:St):Prop :=
 ∃f u i,st=⟨f,[Qc],[]⟩∧k=u.length∧u.length≤120∧i+u.length≤120∧(u≠[]→(Qi u).all QY=true)∧(Qi s).any Zb=CS u∧f 0=.str u∧f 3=.int .i64 (i:Nat)

theorem PF (s:List UInt8):Qr Tryz.prog 119 [.str s] (.bool (Xe s)):=by
 refine QuP.fn (by simp) ?_;simp only[Xe,Qa,seval];refine aC (Qyx s) ?_;cases hf:(decide (s.length≤120)&&(Qi s).all QY)
 ·simp only[QGP,QGv,Qa,seval]
 simp only[QG0,QG1,Qa,seval];obtain⟨hl,ha⟩:=QFB.1 hf;have hl:=of_decide_eq_true hl;have hne:s≠[]:=by
  rintro rfl;cases ha
 refine Qg (UsI s) _ ⟨_,s,0,rfl,rfl,hl,by omega,fun _=>ha,by unfold CS;rw[QFE hne],(by rfl),(by rfl)⟩ ?_;rintro _ st ⟨f,u,i,rfl,rfl,hul,hui,hua,hx,h0,h3⟩;simp only[h3,Qa,seval];by_cases hu:u=[]
 ·subst hu;have b0:(!(([]:List UInt8)==[]))=false:=rfl;have e:(Qi s).any Zb=false:=hx;cases hd:decide ((i:Int)<120)<;>simp only[b0,e,h0,Qy,QGv,Qa,seval]
 ·have b0:(!(u==[]))=true:=by simp[hu]
  have hlp:0<u.length:=QGE.2 hu;have d:decide ((i:Int)<120)=true:=QHa (by omega);have e1:IntKind.i64.wrap ((i:Int)+1)=((i+1:Nat):Int):=by simp only[ZO];omega
  simp only[d,b0,h0,Qy,Qa,seval];refine aC (Qyy u hul) ?_;simp only[Qa,seval];refine aC (QlO (ZI u).2) ?_;have hw:CS u=(CS (ZI u).1||Zb (ZI u).2):=by
   unfold CS;rw[QFE hu];rcases DO u with⟨h1,h2,h3⟩|⟨h1,h2⟩
   ·rw[h1,h2,QFF rfl,KC h3];simp
   ·have hp:Qi u=Qi (ZI u).1++[(ZI u).2]:=by
     conv=>lhs;rw[h1]
     exact Uw h2
    have ha':=hua hu;rw[hp,QGC,QFU]at ha';have hn:(ZI u).1≠[]:=by
     intro h;rw[h]at ha';cases ha'.1
    rw[QFE hn,hp];simp
  cases hq:Zb (ZI u).2
  ·rw[hq,QHe]at hw;have hlen:(ZI u).1.length<u.length∧((ZI u).1≠[]→(Qi (ZI u).1).all QY=true):=by
    rcases DO u with⟨h1,h2,h3⟩|⟨h1,h2⟩
    ·rw[h1];exact⟨hlp,fun h=>absurd rfl h⟩
    ·have hp:Qi u=Qi (ZI u).1++[(ZI u).2]:=by
      conv=>lhs;rw[h1]
      exact Uw h2
     refine⟨?_,fun _=>?_⟩
     ·conv=>rhs;rw[h1]
      simp
     ·have ha':=hua hu;rw[hp,QGC,QFU]at ha';exact ha'.1
   simp only[h3,e1,Qa,seval];exact⟨(ZI u).1.length,hlen.1,_,(ZI u).1,i+1,rfl,rfl,by omega,by omega,hlen.2,by rw[hx,hw],(by rfl),(by rfl)⟩
  ·rw[hq,Bool.or_true]at hw;rw[hw]at hx;simp only[hx,QG1,Qa,seval]

section
variable (k:Int)(b:Nat)(t:List UInt8)(l p s r:List AV)
theorem QzY:Qr Tryz.prog 174 [vo k b t l p s r] (vo k (Zk k b) t l p s r):=by
 refine Qwp.fn (by simp) ?_;simp only[vo,eE,seval];by_cases hk:k=6
 ·have b0:(k==6)=true:=by simp[hk]
  simp only[b0,eE,seval];refine aC (QyY b) ?_;simp only[QlW,Qa,seval];by_cases hc:Uz b=0
  ·simp only[hc,Zk,hk,decide_true,QGr,eE,seval]
   try rfl
  ·simp only[hc,Zk,decide_false,and_false,eE,seval]
 ·have b0:(k==6)=false:=by simp[hk]
  simp only[b0,Zk,hk,false_and,eE,seval]

theorem YL (a b:Nat)(h:a+b≤9223372036854775807):IntKind.i64.wrap ((a:Int)+(b:Int))=((a+b:Nat):Int):=by
 simp only[ZO];omega
theorem QzZ (a b c d a2 b2 c2 d2:Nat)(h:a+b+c+d+(a2+b2+c2+d2)≤9223372036854775807):IntKind.i64.wrap (IntKind.i64.wrap (IntKind.i64.wrap (IntKind.i64.wrap (IntKind.i64.wrap (IntKind.i64.wrap (IntKind.i64.wrap ((a:Int)+(b:Int))+(c:Int))+(d:Int))+(a2:Int))+(b2:Int))+(c2:Int))+(d2:Int))=((a+b+c+d+(a2+b2+c2+d2):Nat):Int):=by
 rw[YL a b (by omega),YL (a+b) c (by omega),YL (a+b+c) d (by omega),YL (a+b+c+d) a2 (by omega),YL (a+b+c+d+a2) b2 (by omega),YL (a+b+c+d+a2+b2) c2 (by omega),YL (a+b+c+d+a2+b2+c2) d2 (by omega)];congr 1
 omega

theorem Qms (k2:Int)(b2:Nat)(t2:List UInt8)(l2 p2 s2 r2:List AV)(h:l.length+p.length+s.length+r.length+(l2.length+p2.length+s2.length+r2.length)≤9223372036854775807) :
  Qr Tryz.prog 172 [vo k b t l p s r,vo k2 b2 t2 l2 p2 s2 r2] (.bool (k==k2&&(b:Int)==(b2:Int)&&t==t2&&((l.length+p.length+s.length+r.length+(l2.length+p2.length+s2.length+r2.length):Nat):Int)==0)):=by
 have w:=QzZ _ _ _ _ _ _ _ _ h;refine Qwj.fn (by simp) ?_;simp only[vo,eE,seval];cases h1:(k==k2)
 ·simp only[QGP,Qa,seval]
 cases h2:((b:Int)==(b2:Int))
 ·simp only[h2,QGP,QG0,eE,seval]
 cases h3:(t==t2)
 ·simp only[h2,h3,Qy,QGP,QG0,eE,seval]
 simp only[h2,h3,Qy,w,QG0,eE,seval]
end

theorem Qz0 (x:SF):Qr Tryz.prog 122 [Xv x] (.bool (Wv x)):=by
 refine QuY.fn (by simp) ?_;simp only[Xv,QG,eE,seval];unfold Wv DS;by_cases h5:x.card=5
 ·have d:(x.card != 5)=false:=by simp[h5]
  have q:(decide (x.card≥1)&&decide (x.card≤5))=true:=by rw[h5];rfl
  rw[q,QFF h5];rw[QG0];by_cases hk:x.key=1∨x.key=2∨x.key=3∨x.key=4∨x.key=5∨x.key=7
  ·have e:(decide (x.key≥1)&&decide (x.key≤7)&&x.key != 6)=true:=by simp only[QFU,QGH,QFZ,ne_eq];omega
   rw[e];rcases hk with h|h|h|h|h|h<;>simp only[d,h,seval,eE]
  ·have e:(decide (x.key≥1)&&decide (x.key≤7)&&x.key != 6)=false:=by simp only[QHi,QHb,bne_eq_false_iff_eq];omega
   have k1:(x.key==1)=false:=by rw[QHc];omega
   have k2:(x.key==2)=false:=by rw[QHc];omega
   have k3:(x.key==3)=false:=by rw[QHc];omega
   have k4:(x.key==4)=false:=by rw[QHc];omega
   have k5:(x.key==5)=false:=by rw[QHc];omega
   have k7:(x.key==7)=false:=by rw[QHc];omega
   rw[e];simp only[d,k1,k2,k3,k4,k5,k7,eE,seval]
 ·have d:(x.card != 5)=true:=by simp[h5]
  rw[QFE h5];simp only[d,eE,seval];have q:decide (x.card≤5)=decide (x.card≤4):=(by rw[QGj];simp only[QGH];omega);rw[q];cases h1:decide (x.card≥1)
  ·simp only[QGP,Qa,seval]
  cases h2:decide (x.card≤4)
  ·simp only[h2,QG0,QGP,eE,seval]
  simp only[h2,QG0,eE,seval]

section
variable {M:Nat}(S:SC)(hS:S.ok M)(hM:M≤1048576)(x:SF)(hx:x.ok M)
include hS hM in
theorem Qz1:Qr Tryz.prog 123 [S.av,Xv x] (.bool (Ji S x)):=by
 obtain⟨l1,l2,_⟩:=Zn S hS hM;have hm:=Nk S l1 x.tname;have he:=Qmq S l2 x.tname;simp only[SC.av]at hm he;refine Qu1.fn (by simp) ?_;unfold Ji;simp only[SC.av,Xv,QG,eE,seval];by_cases h3:x.kind=9
 ·have d3:(x.kind==9)=true:=by simp[h3]
  rw[QFE (by omega),QFF h3];simp only[d3,eE,seval];refine aC he ?_;simp only[Qmr,Qa,seval]
 have d3:(x.kind==9)=false:=by simp[h3]
 by_cases h4:x.kind=10
 ·have d4:(x.kind==10)=true:=by simp[h4]
  rw[QFE (by omega),QFE h3,QFF h4];simp only[d3,d4,eE,seval];refine aC hm ?_;cases hh:QZ S x.tname<;>simp only[Me,hh,QG0,QGP,eE,seval]
 have d4:(x.kind==10)=false:=by simp[h4]
 by_cases h1:x.kind≥1
 ·have d1:decide (x.kind≥1)=true:=QHa h1;by_cases h2:x.kind≤8
  ·have d2:decide (x.kind≤8)=true:=QHa h2;rw[QFF ⟨h1,h2⟩];simp only[d1,d2,d3,d4,Qy,eE,seval]
  ·have d2:decide (x.kind≤8)=false:=QHf h2;rw[QFE fun h=>h2 h.2,QFE h3,QFE h4];simp only[d1,d2,d3,d4,eE,seval]
 ·have d1:decide (x.kind≥1)=false:=QHf h1;rw[QFE fun h=>h1 h.1,QFE h3,QFE h4];simp only[d1,d3,d4,eE,seval]
end

theorem JA {α:Type}{l:List α}{q:α→Bool}{i:Nat}{x:α}(h:l[i]? = some x):(l.take (i+1)).any q=((l.take i).any q||q x):=by
 rw[QGU,h,QGV,List.any_append];simp

section
variable {M:Nat}(S:SC)(hS:S.ok M)(hM:M≤1048576)(x:SF)(hx:x.ok M)
include hS hM hx in
theorem Qz2:Qr Tryz.prog 125 [S.av,Xv x] (.bool (KG S x)):=by
 obtain⟨l1,l2,_⟩:=Zn S hS hM;have he:=Qmq S l2 x.tname;have hv:=hx.dflt;have n1:=hv.nl;have n2:=hv.np;have n3:=hv.ns;have n4:=hv.nr;have n5:=hv.text;have hz:=Qms x.dflt.kd x.dflt.bits x.dflt.text (x.dflt.list.map V.av) (x.dflt.pairs.map V.pav) (x.dflt.slots.map V.sav) (x.dflt.raws.map R.av) 0 0 [] [] [] [] [] (by simp;omega);have hq:=Qms x.dflt.kd x.dflt.bits x.dflt.text (x.dflt.list.map V.av) (x.dflt.pairs.map V.pav) (x.dflt.slots.map V.sav) (x.dflt.raws.map R.av) x.dflt.kd (Zk x.dflt.kd x.dflt.bits) x.dflt.text (x.dflt.list.map V.av) (x.dflt.pairs.map V.pav) (x.dflt.slots.map V.sav) (x.dflt.raws.map R.av) (by simp;omega);have hf:=QlY x.kind x.dflt.kd x.dflt.bits x.dflt.text (x.dflt.list.map V.av) (x.dflt.pairs.map V.pav) (x.dflt.slots.map V.sav) (x.dflt.raws.map R.av) (by simp only[maxLen];omega);have hn:=QzY x.dflt.kd x.dflt.bits x.dflt.text (x.dflt.list.map V.av) (x.dflt.pairs.map V.pav) (x.dflt.slots.map V.sav) (x.dflt.raws.map R.av);have ef:x.dflt.fitk x.kind=XR x.kind x.dflt.kd x.dflt.bits x.dflt.text (x.dflt.list.map V.av) (x.dflt.pairs.map V.pav) (x.dflt.slots.map V.sav) (x.dflt.raws.map R.av):=rfl;have ez:(x.dflt.kd==0&&((x.dflt.bits:Nat):Int)==((0:Nat):Int)&&x.dflt.text==[]&&(((x.dflt.list.map V.av).length+(x.dflt.pairs.map V.pav).length+(x.dflt.slots.map V.sav).length+(x.dflt.raws.map R.av).length+(([]:List AV).length+([]:List AV).length+([]:List AV).length+([]:List AV).length):Nat):Int)==0)=x.dflt.zro:=by
  unfold V.zro;rw[show(((x.dflt.bits:Nat):Int)==((0:Nat):Int))=(x.dflt.bits==0)from ZQ _,ZQ];simp only[QGK,QGy,QF2]
 rw[ez]at hz;simp only[vo]at hf hn hz hq;simp only[SC.av]at he;refine Qu7.fn (by simp) ?_;unfold KG;rw[ef];simp only[SC.av,Xv,QG,eE,seval];cases hd:x.hasd
 ·rw[QFF rfl];simp only[eE,seval];refine aC hz ?_;simp only[Qa,seval]
 rw[QFE (by simp)];by_cases hc:x.card=2
 case neg=>
  have d1:(x.card != 2)=true:=by simp[hc]
  rw[QFE fun h=>hc h.1];simp only[d1,eE,seval]
 have d1:(x.card != 2)=false:=by simp[hc]
 by_cases hu:x.union=[]
 case neg=>
  have d2:(!(x.union==[]))=true:=by simp[hu]
  rw[QFE fun h=>hu h.2.1];simp only[d1,d2,Qy,eE,seval]
 have d2:(!(x.union==[]))=false:=by simp[hu]
 simp only[d1,d2,Qy,eE,seval];refine aC hf ?_;cases hfv:XR x.kind x.dflt.kd x.dflt.bits x.dflt.text (x.dflt.list.map V.av) (x.dflt.pairs.map V.pav) (x.dflt.slots.map V.sav) (x.dflt.raws.map R.av)
 ·rw[QFE fun h=>Bool.false_ne_true h.2.2.1];simp only[Qa,seval]
 simp only[eE,seval];refine aC hn ?_;simp only[Qa,seval];have eq2:(x.dflt.kd==x.dflt.kd&&((x.dflt.bits:Nat):Int)==((Zk x.dflt.kd x.dflt.bits:Nat):Int)&&x.dflt.text==x.dflt.text&&(((x.dflt.list.map V.av).length+(x.dflt.pairs.map V.pav).length+(x.dflt.slots.map V.sav).length+(x.dflt.raws.map R.av).length+((x.dflt.list.map V.av).length+(x.dflt.pairs.map V.pav).length+(x.dflt.slots.map V.sav).length+(x.dflt.raws.map R.av).length):Nat):Int)==0)=decide (Zk x.dflt.kd x.dflt.bits=x.dflt.bits):=by
  have hlon:KF (x.dflt.list.map V.av) (x.dflt.pairs.map V.pav) (x.dflt.slots.map V.sav) (x.dflt.raws.map R.av)=true:=by
   unfold XR at hfv;simp only[QFU]at hfv;exact hfv.1.1.1.1.2
  unfold KF at hlon;simp only[QFU,QFV]at hlon;obtain⟨⟨⟨q1,q2⟩,q3⟩,q4⟩:=hlon;rw[QGj];simp only[QFU,QFV,QGH,true_and,and_true];omega
 rw[eq2]at hq;refine aC hq ?_;by_cases hnb:Zk x.dflt.kd x.dflt.bits=x.dflt.bits
 case neg=>
  rw[QFE fun h=>hnb h.2.2];simp only[hnb,decide_false,QGv,Qa,seval]
 rw[QFF ⟨hc,hu,hnb⟩];simp only[hnb,decide_true,QG1,eE,seval];refine aC he ?_;by_cases h9:x.kind=9
 case neg=>
  have d9:(x.kind != 9)=true:=by simp[h9]
  rw[QFE h9];simp only[d9,eE,seval]
 have d9:(x.kind != 9)=false:=by simp[h9]
 rw[QFF h9];have e2:UD S x.tname=QM (fun m:SE=>m.name==x.tname) S.enums 0:=rfl;rcases Xr (fun m:SE=>m.name==x.tname) S.enums 0 with⟨g1,g2⟩|⟨k,e,g1,g2,g3⟩
 ·rw[g1]at e2;simp only[e2,g2,d9,eE,seval]
 rw[g1,QFW]at e2;have hem:=hS.enums e (QFL g2);have hlm:=hem.len1;have hke:(S.enums.map fun n=>AV.agg n.cells)[k]? = some (.agg e.cells):=by rw[QGI,g2];rfl
 rw[X1]at hke;have dk:decide ((k:Int)<0)=false:=QHf (by omega);simp only[e2,g3,d9,dk,eE,seval]
 let I:Nat→St→Prop:=fun n st=>∃f fr i,st=⟨f,[fr],[]⟩∧n=e.items.length-i∧i≤e.items.length∧(e.items.take i).any (fun it=>IntKind.u64.wrap it.num==(x.dflt.bits:Int))=false∧f 2=.ptr 0 2 0∧f 5=.ptr 0 5 0∧f 6=.int .i64 (k:Nat)∧f 7=.int .i64 (i:Nat)∧
  fr 2=.cells [.list (S.msgs.map fun n=>.agg n.cells),.list (S.enums.map fun n=>.agg n.cells),.list (S.servs.map fun n=>.agg n.cells)]∧fr 5=.cells [.int .i64 x.dflt.kd,.int .u64 (x.dflt.bits:Nat),.str x.dflt.text,.list (x.dflt.list.map V.av),.list (x.dflt.pairs.map V.pav),.list (x.dflt.slots.map V.sav),.list (x.dflt.raws.map R.av)]
 refine Qg I _ ⟨_,_,0,rfl,rfl,QFG _,rfl,(by rfl),(by rfl),(by rfl),(by rfl),(by rfl),(by rfl)⟩ ?_;rintro _ st ⟨f,fr,i,rfl,rfl,hi,hal,h2,h5,h6,h7,o2,o5⟩;simp only[Qj,QGM,Qe,hke,QGK,h2,h6,h7,o2,eE,seval];by_cases hlt:i<e.items.length
 ·obtain⟨y,hy⟩:∃y,e.items[i]? = some y:=⟨e.items[i],QFA hlt⟩;have hg:(e.items.map fun n=>AV.agg n.cells)[i]? = some (.agg y.cells):=by rw[QGI,hy];rfl
  rw[Z9]at hg;have e1:=Qn i _ hlt (by simp only[maxLen];omega);have ht:=JA (q:=fun it:SI=>IntKind.u64.wrap it.num==(x.dflt.bits:Int)) hy;rw[hal,QG3]at ht;simp only[Qz hlt,Qj,QGM,Qe,hke,hg,h2,h5,h6,h7,o2,o5,eE,seval];cases hp:(IntKind.u64.wrap y.num==(x.dflt.bits:Int))
  ·rw[hp]at ht;simp only[h7,e1,Qa,seval];exact⟨e.items.length-(i+1),by omega,_,_,i+1,rfl,rfl,by omega,ht,(by exact h2),(by exact h5),(by exact h6),(by rfl),o2,o5⟩
  ·have hr:e.items.any (fun it=>IntKind.u64.wrap it.num==(x.dflt.bits:Int))=true:=QG7.2 ⟨y,QFL hy,hp⟩;simp only[hr,Qa,seval]
 ·have hr:e.items.any (fun it=>IntKind.u64.wrap it.num==(x.dflt.bits:Int))=false:=by rw[←hal,QF4 (by omega)]
  simp only[QB hlt,hr,Qa,seval]
end

def upv (m:SM)(u:List UInt8):Nat→Bool
 |0=>true
 |j+1=>match m.fields[j]? with
  |none=>true
  |some y=>y.union==u
theorem ES {m:SM}{i:Nat}{x:SF}(hi:m.fields[i]? = some x):Z2 m i=(x.union==[]||(x.card==2&&Q7 x.union && !(m.fields.any fun y=>y.name==x.union)&&(!((m.fields.take i).any fun y=>y.union==x.union)||upv m x.union i))):=by
 unfold Z2;rw[hi];cases i<;>rfl

section
variable {M:Nat}(hM:M≤1048576)(m:SM)(hm:m.ok M)(i:Nat)(x:SF)(hi:m.fields[i]? = some x)
include hM hm hi in
theorem Qz3:Qr Tryz.prog 124 [QW m,.int .i64 (i:Nat)] (.bool (Z2 m i)):=by
 have hil:=(QFz.1 hi).1;have hl1:=hm.len1;have hg:(m.fields.map fun n=>AV.agg n.cells)[i]? = some (.agg x.cells):=by rw[QGI,hi];rfl
 rw[QG]at hg;have hun:=ES hi;refine Qu4.fn (by simp) ?_;simp only[QW,Xs,Qj,QGM,Qe,hg,eE,seval];by_cases hu:x.union=[]
 ·have d:(x.union==[])=true:=by simp[hu]
  rw[d,QG2]at hun;simp only[d,hun,Qy,Qa,seval]
 have d:(x.union==[])=false:=by simp[hu]
 rw[d,QG3]at hun;by_cases hc:x.card=2
 case neg=>
  have d1:(x.card != 2)=true:=by simp[hc]
  have d1':(x.card==2)=false:=by simp[hc]
  rw[d1']at hun;simp only[QGP]at hun;simp only[d,d1,hun,Qy,eE,seval]
 have d1:(x.card != 2)=false:=by simp[hc]
 have d1':(x.card==2)=true:=by simp[hc]
 rw[d1',QG0]at hun;simp only[d,d1,Qy,eE,seval];refine aC (Nl x.union) ?_;cases hus:Q7 x.union
 ·rw[hus]at hun;simp only[QGP]at hun;simp only[hun,QGv,Qa,seval]
 rw[hus,QG0]at hun;simp only[QG1,Qa,seval]
 let I:Nat→St→Prop:=fun n st=>∃f fr j,st=⟨f,[fr],[]⟩∧n=m.fields.length-j∧j≤m.fields.length∧(m.fields.take j).any (fun y=>y.name==x.union)=false∧f 1=.int .i64 (i:Nat)∧f 2=.ptr 0 2 0∧f 5=.ptr 0 5 0∧f 6=.bool ((m.fields.take (min j i)).any fun y=>y.union==x.union)∧f 7=.int .i64 (j:Nat)∧
  fr 2=.cells [.str m.name,.list (m.fields.map fun n=>.agg n.cells),.list (m.free.map fun n=>.agg n.cells),.list (m.gone.map AV.str),.list (m.notes.map fun n=>.agg n.cells)]∧fr 5=.cells x.cells
 refine Qg I _ ⟨_,_,0,rfl,rfl,QFG _,rfl,(by rfl),(by rfl),(by rfl),by rw[Nat.zero_min];exact(by rfl),(by rfl),(by rfl),by rw[QG];exact(by rfl)⟩ ?_;rintro _ st ⟨f,fr,j,rfl,rfl,hj,hal,h1,h2,h5,h6,h7,o2,o5⟩;rw[QG]at o5;simp only[QGK,h2,h7,o2,eE,seval];by_cases hlt:j<m.fields.length
 ·obtain⟨y,hy⟩:∃y,m.fields[j]? = some y:=⟨m.fields[j],QFA hlt⟩;have hgy:(m.fields.map fun n=>AV.agg n.cells)[j]? = some (.agg y.cells):=by rw[QGI,hy];rfl
  rw[QG]at hgy;have e1:=Qn j _ hlt (by simp only[maxLen];omega);have ht:=JA (q:=fun y:SF=>y.name==x.union) hy;rw[hal,QG3]at ht;simp only[Qz hlt,Qj,QGM,Qe,hgy,h2,h5,h7,o2,o5,Qy,eE,seval];cases hp:(y.name==x.union)
  case true=>
   have hr:m.fields.any (fun y=>y.name==x.union)=true:=QG7.2 ⟨y,QFL hy,hp⟩;rw[hr]at hun;simp only[QG1,QGP]at hun;simp only[hun,Qa,seval]
  rw[hp]at ht;simp only[h1,h7,Qa,seval];by_cases hji:j<i
  case neg=>
   have dji:decide ((j:Int)<(i:Nat))=false:=QHf (by omega);have hmn:min (j+1) i=min j i:=by omega
   simp only[dji,h7,e1,Qa,seval];exact⟨m.fields.length-(j+1),by omega,_,_,j+1,rfl,rfl,by omega,ht,(by exact h1),(by exact h2),(by exact h5),by rw[hmn];exact(by exact h6),(by rfl),o2,by rw[QG];exact o5⟩
  have dji:decide ((j:Int)<(i:Nat))=true:=QHa (by omega);have hm1:min (j+1) i=j+1:=by omega
  have hm0:min j i=j:=by omega
  have ht2:=JA (q:=fun y:SF=>y.union==x.union) hy;rw[hm0]at h6;simp only[dji,Qj,QGM,Qe,hgy,h2,h5,h7,o2,o5,Qy,eE,seval];cases hpu:(y.union==x.union)
  ·rw[hpu,QHe]at ht2;simp only[h7,e1,Qa,seval];exact⟨m.fields.length-(j+1),by omega,_,_,j+1,rfl,rfl,by omega,ht,(by exact h1),(by exact h2),(by exact h5),by rw[hm1,ht2];exact(by exact h6),(by rfl),o2,by rw[QG];exact o5⟩
  ·rw[hpu,Bool.or_true]at ht2;simp only[h7,e1,Qa,seval];exact⟨m.fields.length-(j+1),by omega,_,_,j+1,rfl,rfl,by omega,ht,(by exact h1),(by exact h2),(by exact h5),by rw[hm1,ht2];exact(by rfl),(by rfl),o2,by rw[QG];exact o5⟩
 have hjl:j=m.fields.length:=by omega
 have hmi:min j i=i:=by omega
 rw[hmi]at h6;rw[QF4 (by omega)]at hal;rw[hal]at hun;simp only[QGv,QG0]at hun;simp only[QB hlt,h6,Qa,seval];cases hea:(m.fields.take i).any fun y=>y.union==x.union
 ·rw[hea]at hun;simp only[QGv,QG2]at hun;simp only[hun,QGv,Qa,seval]
 rw[hea]at hun;simp only[QG1,QG3]at hun;cases i with
 |zero=>cases hea
 |succ k=>
  obtain⟨y,hy⟩:∃y,m.fields[k]? = some y:=⟨m.fields[k]'(by omega),QFA (by omega)⟩;have hgy:(m.fields.map fun n=>AV.agg n.cells)[k]? = some (.agg y.cells):=by rw[QGI,hy];rfl
  rw[QG]at hgy;have e2:=ZV k _ hil (by simp only[maxLen];omega);rw[upv,hy]at hun;simp only[QG1,e2,Qj,QGM,Qe,hgy,h1,h2,h5,o2,o5,Qy,hun,eE,seval]
end

section
variable {M:Nat}(hM:M≤1048576)(S:SC)(hS:S.ok M)(F:List Bool)(hF:F.length=S.msgs.length)
include hM hS hF in
theorem Qmt (m:SM)(hm:m.ok M):Qr Tryz.prog 118 [S.av,QW m,.list (F.map AV.bool)] (.bool (Xc S F m)):=by
 obtain⟨l1,l2,_⟩:=Zn S hS hM;have hl1:=hm.len1;generalize hp:(fun n=>decide (JO S n≥0) && !(F[(JO S n).toNat]?.getD false))=p;have hs:Xc S F m=(XL m m.fields.length).any p:=by
  unfold Xc XL XX;rw[QGS,hp]
 let I:Nat→St→Prop:=fun n st=>∃f fr j,st=⟨f,[fr],[]⟩∧n=m.fields.length-j∧j≤m.fields.length∧(XL m j).any p=false∧f 2=.list (F.map AV.bool)∧f 3=.ptr 0 3 0∧f 4=.ptr 0 4 0∧f 7=.int .i64 (j:Nat)∧
  fr 3=.cells [.list (S.msgs.map fun n=>.agg n.cells),.list (S.enums.map fun n=>.agg n.cells),.list (S.servs.map fun n=>.agg n.cells)]∧fr 4=.cells m.cells∧∀s∈[8],(fr s).isRow=false
 refine QuM.fn (by simp) ?_;simp only[SC.av,QW,Xs,eE,seval];refine Qg I _ ⟨_,_,0,rfl,rfl,QFG _,rfl,(by rfl),(by rfl),(by rfl),(by rfl),(by rfl),by rw[Xs];exact(by rfl),by intro s hs;simp only[QGF,QHk,or_false]at hs;subst hs;rfl⟩ ?_;rintro _ st ⟨f0,fr0,j,rfl,rfl,hj,hal,h20,h30,h40,h70,JJ,Kr,r8⟩;refine QD (a:=_) [8] r8 ?_;intro f fr hf hmm hn;have h2:f 2=.list (F.map AV.bool):=by rw[hf,h20]<;>rfl
 have h3:f 3=.ptr 0 3 0:=by rw[hf,h30]<;>rfl
 have h4:f 4=.ptr 0 4 0:=by rw[hf,h40]<;>rfl
 have h7:f 7=.int .i64 (j:Nat):=by rw[hf,h70]<;>rfl
 have o3:fr 3=.cells [.list (S.msgs.map fun n=>.agg n.cells),.list (S.enums.map fun n=>.agg n.cells),.list (S.servs.map fun n=>.agg n.cells)]:=by rw[hmm 3 (by decide),JJ]<;>rfl
 have o4:fr 4=.cells m.cells:=by rw[hmm 4 (by decide),Kr]<;>rfl
 have n8:=hn 8 (by decide);clear hf hmm hn h20 h30 h40 h70 JJ Kr r8;have o4':=o4;rw[Xs]at o4;simp only[QGK,h4,h7,o4,eE,seval];by_cases hlt:j<m.fields.length
 case neg=>
  have ej:j=m.fields.length:=by omega
  subst ej;rw[hal]at hs;simp only[QB hlt,hs,Qa,seval]
 obtain⟨x,hx⟩:∃x,m.fields[j]? = some x:=⟨m.fields[j],QFA hlt⟩;have hg:(m.fields.map fun n=>AV.agg n.cells)[j]? = some (.agg x.cells):=by rw[QGI,hx];rfl
 rw[QG]at hg;have e1:=Qn j _ hlt (by simp only[maxLen];omega);have hnd:=HM hx;simp only[Qz hlt,n8,Qj,QGM,Qe,hg,h4,h7,o4,eE,seval];have key:∀f:Fr,∀fr:Nat→Ob,(XL m (j+1)).any p=false→f 2=.list (F.map AV.bool)→f 3=.ptr 0 3 0→f 4=.ptr 0 4 0→f 7=.int .i64 ((j+1:Nat):Int)→fr 3=.cells [.list (S.msgs.map fun n=>.agg n.cells),.list (S.enums.map fun n=>.agg n.cells),.list (S.servs.map fun n=>.agg n.cells)]→fr 4=.cells m.cells→(fr 8).isRow=false→∃k,k<m.fields.length-j∧I k ⟨f,[fr],[]⟩ :=
  fun f fr a b c d e g h i=>⟨m.fields.length-(j+1),by omega,f,fr,j+1,rfl,rfl,by omega,a,b,c,d,e,g,h,fun s hs=>by simp only[QGF,QHk,or_false]at hs;subst hs;exact i⟩
 by_cases hc:x.card=1
 case neg=>
  have d1:(x.card != 1)=true:=by simp[hc]
  rw[QFE (by simp[hc])]at hnd;simp only[d1,h7,e1,Qa,seval];exact key _ _ (by rw[hnd];exact hal) (by exact h2) (by exact h3) (by exact h4) (by rfl) (by exact o3) (by exact o4') rfl
 have d1:(x.card != 1)=false:=by simp[hc]
 by_cases hk:x.kind=10
 case neg=>
  have d2:(x.kind != 10)=true:=by simp[hk]
  rw[QFE (by simp[hk])]at hnd;simp only[d1,d2,h7,e1,eE,seval];exact key _ _ (by rw[hnd];exact hal) (by exact h2) (by exact h3) (by exact h4) (by rfl) (by exact o3) (by exact o4') rfl
 have d2:(x.kind != 10)=false:=by simp[hk]
 rw[QFF (by simp[hc,hk])]at hnd;have hh:=Nk S l1 x.tname;simp only[SC.av]at hh;simp only[d1,d2,h3,o3,eE,seval];refine aC hh ?_;have hpn:(XL m (j+1)).any p=p x.tname:=by
  rw[hnd,List.any_append,hal,QG3];simp
 rcases Xr (fun m:SM=>m.name==x.tname) S.msgs 0 with⟨g1,g2⟩|⟨k,y,g1,g2,g3⟩
 ·have e2:JO S x.tname = -1:=g1;have e3:p x.tname=false:=by rw[←hp];simp[e2]
  simp only[e2,h7,e1,Qa,seval];exact key _ _ (by rw[hpn,e3]) (by exact h2) (by exact h3) (by exact h4) (by rfl) (by exact o3) (by exact o4') rfl
 ·rw[QFW]at g1;have e2:JO S x.tname=(k:Int):=g1;have hkl:k<F.length:=by rw[hF];exact(QFz.1 g2).1
  have hFk:F[k]? = some F[k]:=QFA hkl;have hFm:(F.map AV.bool)[k]? = some (.bool F[k]):=by rw[QGI,hFk];rfl
  have dk:decide ((k:Int)≥0)=true:=QHa (by omega);have e3:p x.tname=!F[k]:=by
   rw[←hp];simp[e2,hFk]
  simp only[e2,Qj,QGM,Qe,hFm,h2,eE,seval];cases hb:F[k]
  ·rw[hb]at e3;have hr:Xc S F m=true:=by
    rw[hs];have hin:x.tname∈XL m m.fields.length:=by
     unfold XL;rw[QGS];exact QGG.2 ⟨x,List.mem_filter.2 ⟨QFL hx,by simp[hc,hk]⟩,rfl⟩
    exact QG7.2 ⟨_,hin,e3⟩
   simp only[hr,QGv,Qa,seval]
  ·rw[hb]at e3;simp only[h7,e1,QG1,Qa,seval];exact key _ _ (by rw[hpn,e3];rfl) (by exact h2) (by exact h3) (by exact h4) (by rfl) (by exact o3) (by exact o4') rfl
end

structure FnS (S:SC)(B:List Bool)(a:Bool)(r:Nat)(f:Fr)(fr:Nat→Ob):Prop where
 h1:f 1=.ptr 0 1 0
 o1:fr 1=.cells [.list (S.msgs.map fun n=>.agg n.cells),.list (S.enums.map fun n=>.agg n.cells),.list (S.servs.map fun n=>.agg n.cells)]
 h3:f 3=.vec 0 10 1 0 S.msgs.length false
 m10:fr 10=.vec 1 1 (B.map AV.bool)
 h4:f 4=.bool a
 h5:f 5=.int .i64 (r:Nat)

section
variable {M:Nat}(hM:M≤1048576)(S:SC)(hS:S.ok M)
include hM hS
theorem QsL (r:Nat)(F:List Bool)(hF:F.length=S.msgs.length)(f:Fr)(fr:Nat→Ob)(H:FnS S F false r f fr)(h6:f 6=.int .i64 0)(Q:Exit→St→Prop)
  (hq:∀f fr,FnS S (Q4 S F S.msgs.length) (decide (Q4 S F S.msgs.length≠F)) r f fr→Q (.exit 2) ⟨f,[fr],[]⟩):QJ Tryz.prog (.loop RZ) ⟨f,[fr],[]⟩ Q:=by
 let I:Nat→St→Prop:=fun n st=>∃f fr i,st=⟨f,[fr],[]⟩∧n=S.msgs.length-i∧i≤S.msgs.length∧FnS S (Q4 S F i) (decide (Q4 S F i≠F)) r f fr∧f 6=.int .i64 (i:Nat)
 have hl1:=hS.len1;refine Qg I _ ⟨f,fr,0,rfl,rfl,QFG _,by rw[Q4,QHf (by simp)];exact H,h6⟩ ?_;clear H h6;rintro _ st ⟨f,fr,i,rfl,rfl,hi,⟨h1,o1,h3,m10,h4,h5⟩,h6⟩;simp only[QGK,h1,h6,o1,eE,seval];by_cases hlt:i<S.msgs.length
 case neg=>
  have e:i=S.msgs.length:=by omega
  subst e;simp only[QB hlt,Qa,seval];exact hq _ _ ⟨(by exact h1),o1,(by exact h3),m10,(by exact h4),(by exact h5)⟩
 obtain⟨x,hx⟩:∃x,S.msgs[i]? = some x:=⟨S.msgs[i],QFA hlt⟩;have hg:(S.msgs.map fun n=>AV.agg n.cells)[i]? = some (.agg x.cells):=by rw[QGI,hx];rfl
 rw[Xs]at hg;have e1:=Qn i _ hlt (by simp only[maxLen];omega);have hsl:(Q4 S F i).length=S.msgs.length:=by rw[J0,hF]
 have hss:Q4 S F (i+1)=JT S (Q4 S F i) i:=rfl;have htr:=Km S F i;have htr2:=Km S F (i+1);generalize Q4 S F i=B at *;obtain⟨b,hb⟩:∃b,B[i]? = some b:=⟨B[i]'(by omega),QFA (by omega)⟩;have hbm:(B.map AV.bool)[i]? = some (.bool b):=by rw[QGI,hb];rfl
 have ia:∀fr':Nat→Ob,fr' 10=.vec 1 1 (B.map AV.bool)→Qe [fr'] 1 none (.vec 0 10 1 0 S.msgs.length false) (i:Int)=some (.vptr 0 10 1 i 0):=by
  intro fr' h;have e:Am.Qh [fr'] 0 10=.vec 1 1 (B.map AV.bool):=h;simp only[Qe,e,Qj,if_true,QGM];simp;omega
 have il:∀fr':Nat→Ob,fr' 10=.vec 1 1 (B.map AV.bool)→Xw [fr'] none (.vptr 0 10 1 i 0)=some (.bool b):=by
  intro fr' h;have e:Am.Qh [fr'] 0 10=.vec 1 1 (B.map AV.bool):=h;simp[Xw,e,hb,AV.cells]<;>rfl
 cases b
 case true=>
  have hst:JT S B i=B:=by
   unfold JT;rw[hx];dsimp only;rw[QFE (by rw[hb];simp)]
  rw[hst]at hss;simp only[Qz hlt,ia _ m10,il _ m10,h3,h6,e1,Qa,seval];exact⟨S.msgs.length-(i+1),by omega,_,_,i+1,rfl,rfl,by omega,by rw[hss];exact⟨(by exact h1),o1,(by exact h3),m10,(by exact h4),(by exact h5)⟩,(by rfl)⟩
 have hc:=Qmt hM S hS B hsl x (hS.msgs x (QFL hx));simp only[QW,Xs,SC.av]at hc;simp only[Qz hlt,ia _ m10,il _ m10,h1,h3,h6,o1,QGv,eE,seval];simp only[Qj,QGM,Qe,hg,eE,seval];refine Xd hc ?_ rfl rfl (.inr rfl) ?_
 ·have ht:List.take S.msgs.length (B.map AV.bool)=B.map AV.bool:=QF4 (by rw[QGK];omega);simp only[QF3,QGo,AV.stillL,AV.still,Am.Qh,m10,QGK,hsl,ht,QGb,QFW,QFx,QGr,QGP,QFQ,Qa,seval]<;>rfl
 cases hn:Xc S B x
 case true=>
  have hst:JT S B i=B:=by
   unfold JT;rw[hx];dsimp only;rw[QFE (by rw[hn];simp)]
  rw[hst]at hss;simp only[h6,e1,QG1,Qa,seval];exact⟨S.msgs.length-(i+1),by omega,_,_,i+1,rfl,rfl,by omega,by rw[hss];exact⟨(by exact h1),o1,(by exact h3),m10,(by exact h4),(by exact h5)⟩,(by rfl)⟩
 have hst:JT S B i=B.set i true:=by
  unfold JT;rw[hx];dsimp only;rw[QFF ⟨hb,hn⟩]
 rw[hst]at hss;have hne:decide (Q4 S F (i+1)≠F)=true:=by
  have h1:=Bd hb;refine QHa fun h=>?_
  rw[hss]at h;rw[h]at h1;rcases htr with g|g
  ·rw[g]at h1;omega
  ·omega
 have ist:∀fr':Nat→Ob,fr' 10=.vec 1 1 (B.map AV.bool)→Q5 [fr'] (.vptr 0 10 1 i 0) [.bool true]=some [Qx fr' 10 (.vec 1 1 ((B.set i true).map AV.bool))]:=by
  intro fr' h;have e:Am.Qh [fr'] 0 10=.vec 1 1 (B.map AV.bool):=h;rw[List.map_set];simp only[Q5,e,hbm];simp[AV.cells,AV.rfL,AV.rf,Am.put,Jb]
 simp only[ia _ m10,ist _ m10,h3,h6,e1,QGv,eE,seval];exact⟨S.msgs.length-(i+1),by omega,_,_,i+1,rfl,rfl,by omega,by rw[hne,hss];exact⟨(by exact h1),(by exact o1),(by exact h3),(by rfl),(by rfl),(by exact h5)⟩,(by rfl)⟩

theorem u50:Qr Tryz.prog 50 [S.av] (.list ((QL S).map AV.bool)):=by
 have hl1:=hS.len1;have hz:Jq 1 [AV.bool false]=.bool false:=rfl;have hr0:List.replicate S.msgs.length (AV.bool false)=(List.replicate S.msgs.length false).map AV.bool:=by simp
 let I:Nat→St→Prop:=fun n st=>∃f fr r F a,st=⟨f,[fr],[]⟩∧n=S.msgs.length-r∧r≤S.msgs.length∧F.length=S.msgs.length∧QL S=(if a=true then ZC S (S.msgs.length-r) F else F)∧FnS S F a r f fr
 refine k50.fn (by simp) ?_;simp only[SC.av,QGK,eE,seval];refine UO (n:=S.msgs.length) (k:=S.msgs.length) rfl rfl (QFx _) (by omega) (by omega) rfl ?_;simp only[hz,hr0,Qa,seval];refine Qg I _ ⟨_,_,0,List.replicate S.msgs.length false,true,rfl,rfl,QFG _,by simp,rfl,⟨(by rfl),(by rfl),(by rfl),(by rfl),(by rfl),(by rfl)⟩⟩ ?_;rintro _ st ⟨f,fr,r,F,a,rfl,rfl,hr,hF,hs,⟨h1,o1,h3,m10,h4,h5⟩⟩;simp only[QGK,h1,h5,o1,eE,seval];have hfin:∀B:List Bool,B.length=S.msgs.length→fr 10=.vec 1 1 (B.map AV.bool)→QL S=B→List.take S.msgs.length (B.map AV.bool)=(QL S).map AV.bool:=by
  intro B hB _ e;rw[e];exact QF4 (by rw[QGK];omega)
 by_cases hlt:r<S.msgs.length
 case neg=>
  have hsF:QL S=F:=by
   rw[hs];have e:S.msgs.length-r=0:=by omega
   rw[e,ZC];split<;>rfl
  have ht:=hfin F hF m10 hsF;simp only[QB hlt,h3,m10,ht,hF,QGK,QGb,QFW,QFx,QGr,QGw,AV.un,eE,seval]
 cases a
 ·rw[QFE (by simp)]at hs;have ht:=hfin F hF m10 hs;simp only[Qz hlt,h3,h4,m10,ht,hF,QGK,QGb,QFW,QFx,QGr,QGw,AV.un,eE,seval]
 ·rw[QFF rfl]at hs;have e1:=Qn r _ hlt (by simp only[maxLen];omega);simp only[Qz hlt,h4,Qa,seval];refine QsL hM S hS r F hF _ _ ⟨(by exact h1),o1,(by exact h3),m10,(by rfl),(by exact h5)⟩ (by rfl) _ (fun f fr H=>?_);obtain⟨h1,o1,h3,m10,h4,h5⟩:=H;simp only[h5,e1,Qa,seval];refine⟨S.msgs.length-(r+1),by omega,_,_,r+1,Q4 S F S.msgs.length,decide (Q4 S F S.msgs.length≠F),rfl,rfl,by omega,by rw[J0,hF],?_,⟨(by exact h1),o1,(by exact h3),m10,(by exact h4),(by rfl)⟩⟩;rw[hs];have e:S.msgs.length-r=(S.msgs.length-(r+1))+1:=by omega
  rw[e,ZC];by_cases hh:Q4 S F S.msgs.length=F
  ·rw[QFF hh,QFE (by simp[hh])];exact hh.symm
  ·rw[QFE hh,QFF (by simp[hh])]
end

def Q6 (fr:Nat→Ob)(s R:Nat)(d:List UInt8)(l:List PB):Nat→Ob :=
 Qx (Qx fr R (.vec (1+l.length) 3 (l.map PB.av))) s (.cells [.str d,.vec 0 R (1+l.length) 0 l.length false])
section
variable (fr:Nat→Ob)(s R:Nat)(d:List UInt8)(l:List PB)(h:R≠s)
theorem Qw (k:Nat):Q6 fr s R d l k=bif Nat.beq k s then .cells [.str d,.vec 0 R (1+l.length) 0 l.length false]else bif Nat.beq k R then .vec (1+l.length) 3 (l.map PB.av)else fr k:=id rfl
theorem Ye:Q6 fr s R d l s=.cells [.str d,.vec 0 R (1+l.length) 0 l.length false]:=QT ..
include h in
theorem Yf:Q6 fr s R d l R=.vec (1+l.length) 3 (l.map PB.av):=by rw[Q6,QX _ _ h,QT]
theorem ZG {k:Nat}(h1:k≠R)(h2:k≠s):Q6 fr s R d l k=fr k:=by rw[Q6,QX _ _ h2,QX _ _ h1]
theorem Ho (h1:fr s=.cells [.str d,.vec 0 R (1+l.length) 0 l.length false])(h2:fr R=.vec (1+l.length) 3 (l.map PB.av)):Q6 fr s R d l=fr:=by
 rw[Q6,W4 fr R _ h2,W4 fr s _ h1]
theorem Hp {k:Nat}(h1:k≠R)(h2:k≠s)(o:Ob):Qx (Q6 fr s R d l) k o=Q6 (Qx fr k o) s R d l:=by
 rw[Q6,Q6,Z0 _ s k _ _ (Ne.symm h2),Z0 _ R k _ _ (Ne.symm h1)]
theorem H8 (A:Ob)(h:R≠s):Qx (Qx (Qx fr s A) R (.vec 1 3 [])) s (.cells ([.str d,.nils].set 1 (.vec 0 R 1 0 0 false)))=Q6 fr s R d []:=by
 rw[Q6,Z0 fr s R _ _ (Ne.symm h),Jv];rfl
include h in
theorem Bp (x:PB):Qx (Qx (Q6 fr s R d l) R (.vec (1+l.length+1) 3 (l.map PB.av++[x.av]))) s (.cells [.str d,.vec 0 R (1+l.length+1) 0 (l.length+1) false])=Q6 fr s R d (l++[x]):=by
 have e:(l++[x]).length=l.length+1:=by simp
 rw[Q6,Q6,e,QGT,Z0 (Qx fr R _) s R _ _ (Ne.symm h),Jv,Jv];rfl
end

section
variable (fr:Nat→Ob)(s R:Nat)(d:List UInt8)(l:List PB)(h:R≠s)(hR:X8 R 160=true)(hl:l.length≤1073741824)(n e:Int)(m:Ql)
include h hR hl

theorem Qz4 (ZJ:Bool)  : Qf Tryz.prog 47 [.ptr 0 s 0,.bool ZJ,.int .i64 n,.int .i64 e] ( Q6 fr s R d l :: m) fun x m1=>x=.tup []∧m1 =  Q6 fr s R d (l++pb d n (!ZJ) e) :: m:=by
 have hs:=Ye fr s R d l;have hr:=Yf fr s R d l h;cases ZJ
 ·refine RY.go (by simp) ?_;have ep:pb d n true e=[]:=rfl;simp only[QGv,ep,QGq,Qa,seval]
 ·refine RY.go (by simp) ?_;simp only[hs,eE,seval];refine X4 rfl rfl (by decide) rfl rfl ?_;refine J8 (xs:=l.map PB.av) (by rfl) (by simp only[hr,Fq,seval]) hR (by simp) (by rfl) rfl (by simp only[QFM,QGy,maxLen];omega) (by simp only[QFM,QGy];omega) ?_;have hb:(s==R)=false:=QHc.2 (Ne.symm h);have ha:=Bp fr s R d l h ⟨d,n,e⟩;have ep:pb d n false e=[⟨d,n,e⟩]:=rfl;simp only[PB.av]at ha;simp only[hs,hb,nn0,QF3,QGo,cond_false,eE,seval];simp only[ha,ep,seval]

theorem Nm (ZJ:Bool)(a:Nat→Ob):Qf Tryz.prog 47 [.ptr 1 s 0,.bool ZJ,.int .i64 n,.int .i64 e] (a :: Q6 fr s R d l :: m) fun x m1=>x=.tup []∧m1=a :: Q6 fr s R d (l++pb d n (!ZJ) e) :: m:=by
 have hs:=Ye fr s R d l;have hr:=Yf fr s R d l h;cases ZJ
 ·refine RY.go (by simp) ?_;have ep:pb d n true e=[]:=rfl;simp only[QGv,ep,QGq,Qa,seval]
 ·refine RY.go (by simp) ?_;simp only[hs,eE,seval];refine X4 rfl rfl (by decide) rfl rfl ?_;refine J8 (xs:=l.map PB.av) (by rfl) (by simp only[hr,Fq,seval]) hR (by simp) (by rfl) rfl (by simp only[QFM,QGy,maxLen];omega) (by simp only[QFM,QGy];omega) ?_;have hb:(s==R)=false:=QHc.2 (Ne.symm h);have ha:=Bp fr s R d l h ⟨d,n,e⟩;have ep:pb d n false e=[⟨d,n,e⟩]:=rfl;simp only[PB.av]at ha;simp only[hs,hb,nn0,QF3,QGo,cond_false,eE,seval];simp only[ha,ep,seval]

theorem QsM {M:Nat}(hM:M+8≤maxLen)(N:List SN)(hN:N.length≤maxLen)(hn:∀x∈N,x.ok M)(t:Int)(ht:t∈KW):Qf Tryz.prog 126 [.ptr 0 s 0,.list (N.map fun x=>.agg x.cells),.int .i64 t,.int .i64 n] (Q6 fr s R d l :: m) fun x m1=>x=.tup []∧m1=Q6 fr s R d (l++Xu d n N t) :: m:=by
 have e:pb d n (!(XZ N t != 0)) (XZ N t)=Xu d n N t:=by unfold Xu;rw[bne,QHh]
 refine Qva.go (by simp) ?_;simp only[Qa,seval];refine aC (Qy8 hM N hN hn t ht) ?_;simp only[Qa,seval];refine Qb (Nm fr s R d l h hR hl n (XZ N t) m (XZ N t != 0) Qc) rfl ?_;simp only[e,Qa,seval]
end

def Hd (f:Fr):List (Nat×AV)→Prop
 | []=>True
 |(k,v) :: l=>f k=v∧Hd f l

section
variable (fr:Nat→Ob)(s R:Nat)(d:List UInt8)(h:R≠s)(hR:X8 R 160=true)(lo hi:Int)(F:List PS)(hF:F.length≤1048576)(m:Ql)

def Yu (F:List PS)(s:Nat)(lo hi:Int)(i:Nat):List (Nat×AV):=[(0,.ptr 1 s 0),(1,.list (F.map QV)),(2,.int .i64 lo),(3,.int .i64 hi),(8,.int .i64 (i:Nat))]

section
variable (l:List PB)(i:Nat)(x:PS)(hx:F[i]? = some x)(own:Nat→Ob)(hl:l.length≤1073741824)(f:Fr)(hf:Hd f (Yu F s lo hi i))(K:St→Prop)
include h hR hl hf hx hF
theorem up3 (hK:∀f,Hd f (Yu F s lo hi i)→K ⟨f,own :: Q6 fr s R d (l++pb d (-1) (decide (x.lo≥lo)&&decide (x.hi≤hi)&&decide (x.lo≤x.hi)) 6) :: m,[]⟩):Qp Tryz.prog Dy ⟨f,own :: Q6 fr s R d l :: m,[]⟩ K:=by
 obtain⟨h0,h1,h2,h3,h8,-⟩:=hf;have hb:(decide (x.lo≥lo)&&decide (x.hi≤hi)&&decide (x.lo≤x.hi))=!(decide (x.lo<lo)||decide (x.hi > hi)||decide (x.lo > x.hi)):=(by rw[QGj];simp only[QGH,QGl,QHb,QFU,QGi];omega);rw[hb]at hK;have hg:(F.map QV)[i]? = some (.agg [.int .i64 x.lo,.int .i64 x.hi]):=by rw[QGI,hx];rfl
 simp only[Dy,Qj,QGM,Qe,hg,h0,h1,h2,h8,eE,seval];cases c1:decide (x.lo<lo)<;>cases c2:decide (x.hi > hi)<;>cases c3:decide (x.lo > x.hi) <;>
 ·rw[c1,c2,c3]at hK;simp only[c2,c3,Qj,QGM,Qe,hg,h1,h3,h8,eE,seval];refine Qb (Nm fr s R d l h hR hl (-1) 6 m _ own) (by simp only[QF3,QGo,Qa,seval]<;>rfl) ?_;simp only[Qa,seval];exact hK _ (by simp only[Hd,Yu,QGr,h0,h1,h2,h3,h8,Qa,seval])

theorem up4 (hK:∀f,Hd f (Yu F s lo hi i)→K ⟨f,own :: Q6 fr s R d (l++pb d (-1) (C7 F i x) 11) :: m,[]⟩):Qp Tryz.prog Ut ⟨f,own :: Q6 fr s R d l :: m,[]⟩ K:=by
 obtain⟨h0,h1,h2,h3,h8,-⟩:=hf;have hlt:i<F.length:=(QFz.1 hx).1;have hg:(F.map QV)[i]? = some (.agg [.int .i64 x.lo,.int .i64 x.hi]):=by rw[QGI,hx];rfl
 cases i with
 |zero=>
  have d0:decide (((0:Nat):Int) > 0)=false:=rfl;simp only[Ut,h0,h8,Qa,seval];refine Qb (Nm fr s R d l h hR hl (-1) 11 m false own) (by simp only[QF3,QGo,Qa,seval]<;>rfl) ?_;simp only[Qa,seval];exact hK _ (by simp only[Hd,Yu,QGr,h0,h1,h2,h3,h8,Qa,seval])
 |succ j=>
  obtain⟨y,hj⟩:∃y,F[j]? = some y:=⟨F[j]'(by omega),QFA (by omega)⟩;have hgj:(F.map QV)[j]? = some (.agg [.int .i64 y.lo,.int .i64 y.hi]):=by rw[QGI,hj];rfl
  have wj:=ZV j _ hlt (by simp only[maxLen];omega);have d0:decide (((j+1:Nat):Int) > 0)=true:=QHa (by omega);have hb:decide (x.lo > y.hi)=!decide (x.lo≤y.hi):=(by rw[QGj];simp only[QGH,QGl,QHb];omega);simp only[C7,hj,hb]at hK;simp only[Ut,d0,wj,Qj,QGM,Qe,hg,hgj,h0,h1,h8,eE,seval];refine Qb (Nm fr s R d l h hR hl (-1) 11 m (decide (x.lo≤y.hi)) own) (by simp only[QF3,QGo,Qa,seval]<;>rfl) ?_;simp only[Qa,seval];exact hK _ (by simp only[Hd,Yu,QGr,h0,h1,h2,h3,h8,Qa,seval])
end

include h hR hF in
theorem SA (l:List PB)(hl:l.length≤1048576000):Qf Tryz.prog 127 [.ptr 0 s 0,.list (F.map QV),.int .i64 lo,.int .i64 hi] (Q6 fr s R d l :: m) fun x m1=>x=.tup []∧m1=Q6 fr s R d (l++upto F (JQ d lo hi F) F.length) :: m:=by
 have hul:∀n,n≤F.length→(l++upto F (JQ d lo hi F) n).length≤1051000000:=by
  intro n hn;have:=QN (l:=F) (Jz d lo hi F) n;rw[QF7];omega
 let I:Nat→St→Prop:=fun k st=>∃f own i,st=⟨f,own :: Q6 fr s R d (l++upto F (JQ d lo hi F) i) :: m,[]⟩∧k=F.length-i∧i≤F.length∧Hd f (Yu F s lo hi i)
 refine Qvb.go (by simp) ?_;simp only[Qgz,QgA,Ct,Qa,seval];refine Qg I _ ⟨_,_,0,by rw[upto,QGq],rfl,QFG _,by simp only[Hd,Yu,QGr,Qa,seval]<;>exact⟨rfl,trivial⟩⟩ ?_;rintro _ st ⟨f,own,i,rfl,rfl,hil,hf⟩;have hf':=hf;obtain⟨h0,h1,h2,h3,h8,-⟩:=hf';simp only[Cw,Cu,QGK,h1,h8,Qa,seval];by_cases hlt:i<F.length
 case neg=>
  have e:i=F.length:=by omega
  subst e;simp only[QB hlt,Qa,seval]
 obtain⟨x,hx⟩:∃x,F[i]? = some x:=⟨F[i],QFA hlt⟩;have e1:=Qn i _ hlt (by simp only[maxLen];omega);simp only[Qz hlt,Qa,seval];have q0:=hul i hil;refine up3 fr s R d h hR lo hi F hF m _ i x hx own (by omega) _ (by simp only[Hd,Yu,QGr,h0,h1,h2,h3,h8,Qa,seval]) _ (fun f hf=>?_);simp only[Qa,seval];have q1:=Q0 d (-1) (decide (x.lo≥lo)&&decide (x.hi≤hi)&&decide (x.lo≤x.hi)) 6;refine up4 fr s R d h hR lo hi F hF m _ i x hx own (by rw[QF7];omega) _ hf _ (fun f hf=>?_);clear h0 h1 h2 h3 h8;obtain⟨h0,h1,h2,h3,h8,-⟩:=hf;simp only[Cv,h8,e1,Qa,seval];exact⟨F.length-(i+1),by omega,_,own,i+1,by rw[X5 hx,C8,QFR,QFR],rfl,by omega,by simp only[Hd,Yu,QGr,h0,h1,h2,h3,Qa,seval]⟩
end

theorem QI {fr:Nat→Ob}{s:Nat}{d:List UInt8}{l:List PB}{f:Fr}{K:St→Prop}{d0:Nat}{r0 r1 r2 r3:RA}{ZJ:Bool}{n e:Int}(hs:(1100:Nat)≠s)(h0:r0.ev f=.ptr 0 s 0)(h1:r1.ev f=.bool ZJ)(h2:r2.ev f=.int .i64 n)(h3:r3.ev f=.int .i64 e)(hl:l.length≤1073741824)
  (hk:K ⟨Qx f d0 (.tup []),[Q6 fr s 1100 d (l++pb d n (!ZJ) e)],[]⟩):Qp Tryz.prog [⟨some d0,.callF (.f 47) [r0,r1,r2,r3],none⟩] ⟨f,[Q6 fr s 1100 d l],[]⟩ K :=
 Qb (Qz4 fr s 1100 d l hs rfl hl n e [] ZJ) (by simp only[QF3,QGo,h0,h1,h2,h3]) hk
theorem J2 {M:Nat}(hM:M+8≤maxLen){N:List SN}(hN:N.length≤maxLen)(hn:∀x∈N,x.ok M){fr:Nat→Ob}{s:Nat}{d:List UInt8}{l:List PB}{f:Fr}{K:St→Prop}{d0:Nat}{r0 r1 r2 r3:RA}{n t:Int}(hs:(1100:Nat)≠s)(h0:r0.ev f=.ptr 0 s 0)(h1:r1.ev f=.list (N.map fun x=>.agg x.cells))(h2:r2.ev f=.int .i64 t)(h3:r3.ev f=.int .i64 n)(ht:t∈KW)(hl:l.length≤1073741824)
  (hk:K ⟨Qx f d0 (.tup []),[Q6 fr s 1100 d (l++Xu d n N t)],[]⟩):Qp Tryz.prog [⟨some d0,.callF (.f 126) [r0,r1,r2,r3],none⟩] ⟨f,[Q6 fr s 1100 d l],[]⟩ K :=
 Qb (QsM fr s 1100 d l hs rfl hl n [] hM N hN hn t ht) (by simp only[QF3,QGo,h0,h1,h2,h3]) hk
def Jp (Qd:List Am.Item)(fr:Nat→Ob)(s:Nat)(d:List UInt8)(fl:List (Nat×AV))(p:List PB):Prop :=
 ∀(l:List PB) (f:Fr) (K:St→Prop),l.length≤1073741824→Hd f fl→(∀f,Hd f fl→K ⟨f,[Q6 fr s 1100 d (l++p)],[]⟩)→Qp Tryz.prog Qd ⟨f,[Q6 fr s 1100 d l],[]⟩ K
def Zo (Fb:List Bool)(i:Nat)(tw:Bool):List (Nat×AV):=[(2,.list (Fb.map AV.bool)),(3,.ptr 0 3 0),(4,.ptr 0 4 0),(7,.ptr 0 7 0),(8,.int .i64 (i:Nat)),(9,.ptr 0 9 0),(10,.bool tw)]

section
variable {M:Nat}(hM:M≤1048576)(S:SC)(hS:S.ok M)(m:SM)(hm:m.ok M)(Fb:List Bool)(i:Nat)(x:SF)(hi:m.fields[i]? = some x)(tw:Bool)(fr:Nat→Ob)
 (o3:fr 3=.cells [.list (S.msgs.map fun n=>.agg n.cells),.list (S.enums.map fun n=>.agg n.cells),.list (S.servs.map fun n=>.agg n.cells)]) (o4:fr 4=.cells m.cells) (o9:fr 9=.cells x.cells)

include o9 in
theorem Qz5:Jp G6 fr 7 m.name (Zo Fb i tw) (pb m.name x.num (decide (x.num≥1)&&decide (x.num≤65535)) 6):=by
 rintro l f K hl ⟨h2,h3,h4,h7,h8,h9,h10,-⟩ hK;rw[QG]at o9;have hb:(decide (x.num≥1)&&decide (x.num≤65535))=!(decide (x.num<1)||decide (x.num > 65535)):=(by rw[QGj];simp only[QGH,QGl,QHb,QFU,QGi];omega);rw[hb]at hK;simp only[G6,Qw,h9,o9,eE,seval];cases c1:decide (x.num<1)<;>cases c2:decide (x.num > 65535) <;>
 ·rw[c1,c2]at hK;simp only[c2,Qw,h9,o9,eE,seval];exact QI (by decide) (by exact h7) rfl rfl rfl hl (hK _ (by simp only[Hd,Zo,QGr,h2,h3,h4,h7,h8,h9,h10,Qa,seval]))

include o4 o9 hi hM hm in
theorem Qz6:Jp Um fr 7 m.name (Zo Fb i tw) (pb m.name x.num (JU m.fields SF.num i x) 11):=by
 rintro l f K hl ⟨h2,h3,h4,h7,h8,h9,h10,-⟩ hK;rw[QG]at o9;rw[Xs]at o4;have hlt:i<m.fields.length:=(QFz.1 hi).1;have hl1:=hm.len1;cases i with
 |zero=>
  have d0:decide (((0:Nat):Int) > 0)=false:=rfl;simp only[Um,Qw,h8,h9,o9,eE,seval];exact QI (by decide) (by exact h7) rfl rfl rfl hl (hK _ (by simp only[Hd,Zo,QGr,h2,h3,h4,h7,h8,h9,h10,Qa,seval]))
 |succ j=>
  obtain⟨y,hj⟩:∃y,m.fields[j]? = some y:=⟨m.fields[j]'(by omega),QFA (by omega)⟩;have hgj:(m.fields.map fun n=>AV.agg n.cells)[j]? = some (.agg y.cells):=by rw[QGI,hj];rfl
  rw[QG]at hgj;have wj:=ZV j _ hlt (by simp only[maxLen];omega);have d0:decide (((j+1:Nat):Int) > 0)=true:=QHa (by omega);have hb:decide (x.num > y.num)=!decide (x.num≤y.num):=(by rw[QGj];simp only[QGH,QGl,QHb];omega);simp only[JU,hj,hb]at hK;simp only[Um,Qw,Qj,QGM,Qe,hgj,wj,h4,h8,h9,o4,o9,d0,eE,seval];exact QI (by decide) (by exact h7) rfl rfl rfl hl (hK _ (by simp only[Hd,Zo,QGr,h2,h3,h4,h7,h8,h9,h10,Qa,seval]))

include o9 in
theorem Qz7:Jp G7 fr 7 m.name (Zo Fb i tw) (pb m.name x.num (Q7 x.name) 8):=by
 rintro l f K hl ⟨h2,h3,h4,h7,h8,h9,h10,-⟩ hK;rw[QG]at o9;rw[←QHh (Q7 x.name)]at hK;simp only[G7,Qw,h9,o9,eE,seval];refine aC (Nl x.name) ?_;simp only[Qw,h9,o9,eE,seval];exact QI (by decide) (by exact h7) rfl rfl rfl hl (hK _ (by simp only[Hd,Zo,QGr,h2,h3,h4,h7,h8,h9,h10,Qa,seval]))

include o9 in
theorem Qz8:Jp G8 fr 7 m.name (Zo Fb i tw) (pb m.name x.num (!tw) 9):=by
 rintro l f K hl ⟨h2,h3,h4,h7,h8,h9,h10,-⟩ hK;rw[QG]at o9;simp only[G8,Qw,h9,h10,o9,eE,seval];exact QI (by decide) (by exact h7) rfl rfl rfl hl (hK _ (by simp only[Hd,Zo,QGr,h2,h3,h4,h7,h8,h9,h10,Qa,seval]))

include o4 o9 hM hm in
theorem Qz9:Jp G9 fr 7 m.name (Zo Fb i tw) (pb m.name x.num (!(kept m.free x.num) && !(m.gone.contains x.name)) 21):=by
 rintro l f K hl ⟨h2,h3,h4,h7,h8,h9,h10,-⟩ hK;rw[QG]at o9;rw[Xs]at o4;have hl2:=hm.len2;have hl3:=hm.len3;have hk:=QlX m.free (by simp only[maxLen];omega) x.num;have hh:=Qmp m.gone (by simp only[maxLen];omega) x.name;rw[←Bool.not_or]at hK;simp only[G9,Qw,h4,h9,o4,o9,eE,seval];refine aC hk ?_;cases a1:kept m.free x.num
 ·rw[a1,QG3]at hK;simp only[Qw,h4,h9,o4,o9,eE,seval];refine aC hh ?_;simp only[Qw,h9,o9,eE,seval];exact QI (by decide) (by exact h7) rfl rfl rfl hl (hK _ (by simp only[Hd,Zo,QGr,h2,h3,h4,h7,h8,h9,h10,Qa,seval]))
 ·rw[a1,QG2]at hK;simp only[Qw,h9,o9,eE,seval];exact QI (by decide) (by exact h7) rfl rfl rfl hl (hK _ (by simp only[Hd,Zo,QGr,h2,h3,h4,h7,h8,h9,h10,Qa,seval]))

include o3 o4 o9 hi hM hm hS in
theorem QAa:Jp Da fr 7 m.name (Zo Fb i tw) (pb m.name x.num (Wv x) 1):=by
 rintro l f K hl ⟨h2,h3,h4,h7,h8,h9,h10,-⟩ hK;have hc:=Qz0 x;simp only[Xv]at hc
 try rw[QG x]at hc
 rw[QG]at o9;rw[Xs]at o4;rw[←QHh (Wv x)]at hK;simp only[Da,Qw,h9,o9,eE,seval];refine aC hc ?_;simp only[Qw,h9,o9,eE,seval];exact QI (by decide) (by exact h7) rfl rfl rfl hl (hK _ (by simp only[Hd,Zo,QGr,h2,h3,h4,h7,h8,h9,h10,Qa,seval]))

include o3 o4 o9 hi hM hm hS in
theorem QAb:Jp Db fr 7 m.name (Zo Fb i tw) (pb m.name x.num (Ji S x) 12):=by
 rintro l f K hl ⟨h2,h3,h4,h7,h8,h9,h10,-⟩ hK;have hc:=Qz1 S hS hM x;simp only[SC.av,Xv]at hc
 try rw[QG x]at hc
 rw[QG]at o9;rw[Xs]at o4;rw[←QHh (Ji S x)]at hK;simp only[Db,Qw,h3,h9,o3,o9,eE,seval];refine aC hc ?_;simp only[Qw,h9,o9,eE,seval];exact QI (by decide) (by exact h7) rfl rfl rfl hl (hK _ (by simp only[Hd,Zo,QGr,h2,h3,h4,h7,h8,h9,h10,Qa,seval]))

include o3 o4 o9 hi hM hm hS in
theorem QAc:Jp Dc fr 7 m.name (Zo Fb i tw) (pb m.name x.num (Z2 m i) 15):=by
 rintro l f K hl ⟨h2,h3,h4,h7,h8,h9,h10,-⟩ hK;have hc:=Qz3 hM m hm i x hi;simp only[QW]at hc
 try rw[QG x]at hc
 rw[QG]at o9;rw[Xs]at o4;rw[←QHh (Z2 m i)]at hK;simp only[Dc,Qw,h4,h8,o4,eE,seval];refine aC hc ?_;simp only[Qw,h9,o9,eE,seval];exact QI (by decide) (by exact h7) rfl rfl rfl hl (hK _ (by simp only[Hd,Zo,QGr,h2,h3,h4,h7,h8,h9,h10,Qa,seval]))

include o3 o4 o9 hi hM hm hS in
theorem QAd:Jp Dd fr 7 m.name (Zo Fb i tw) (pb m.name x.num (KG S x) 1):=by
 rintro l f K hl ⟨h2,h3,h4,h7,h8,h9,h10,-⟩ hK;have hc:=Qz2 S hS hM x (hm.fields x (QFL hi));simp only[SC.av,Xv]at hc
 try rw[QG x]at hc
 rw[QG]at o9;rw[Xs]at o4;rw[←QHh (KG S x)]at hK;simp only[Dd,Qw,h3,h9,o3,o9,eE,seval];refine aC hc ?_;simp only[Qw,h9,o9,eE,seval];exact QI (by decide) (by exact h7) rfl rfl rfl hl (hK _ (by simp only[Hd,Zo,QGr,h2,h3,h4,h7,h8,h9,h10,Qa,seval]))

include o9 hi hM hm in
theorem QAe:Jp De fr 7 m.name (Zo Fb i tw) (Xu m.name x.num x.notes 2):=by
 rintro l f K hl ⟨h2,h3,h4,h7,h8,h9,h10,-⟩ hK;have hx:=hm.fields x (QFL hi);have hln:=hx.len;rw[QG]at o9;simp only[De,Qw,h9,o9,eE,seval];exact J2 (by simp only[maxLen];omega) (by simp only[maxLen];omega) hx.notes (by decide) (by exact h7) rfl rfl rfl (by decide) hl (hK _ (by simp only[Hd,Zo,QGr,h2,h3,h4,h7,h8,h9,h10,Qa,seval]))

include o4 o9 hi hM hm in
theorem QsN (F:Nat→Ob)(l:List PB)(hF:F=Q6 fr 7 1100 m.name l)(f:Fr)(hf:Hd f (Zo Fb i false))(h11:f 11=.int .i64 0)(Q:Exit→St→Prop)
  (hq:∀f,Hd f (Zo Fb i ((m.fields.take i).any fun y=>y.name==x.name))→Q (.exit 2) ⟨f,[F],[]⟩):QJ Tryz.prog (.loop B6) ⟨f,[F],[]⟩ Q:=by
 let I:Nat→St→Prop:=fun n st=>∃f k,st=⟨f,[F],[]⟩∧n=i-k∧k≤i∧Hd f (Zo Fb i ((m.fields.take k).any fun y=>y.name==x.name))∧f 11=.int .i64 (k:Nat)
 have hil:i<m.fields.length:=(QFz.1 hi).1;have hl1:=hm.len1;rw[QG]at o9;rw[Xs]at o4;have p4:F 4=fr 4:=by rw[hF,ZG _ _ _ _ _ (by decide) (by decide)]
 have p9:F 9=fr 9:=by rw[hF,ZG _ _ _ _ _ (by decide) (by decide)]
 rw[o4]at p4;rw[o9]at p9;refine Qg I _ ⟨f,0,rfl,rfl,QFG _,hf,h11⟩ ?_;clear hf h11;rintro _ st ⟨f,k,rfl,rfl,hk,hf,h11⟩;have hf':=hf;obtain⟨h2,h3,h4,h7,h8,h9,h10,-⟩:=hf';simp only[B6,VX,h8,h11,Qa,seval];by_cases hlt:k<i
 case neg=>
  have e:k=i:=by omega
  subst e;simp only[QB hlt,Qa,seval];exact hq _ (by simp only[Hd,Zo,QGr,h2,h3,h4,h7,h8,h9,h10,Qa,seval])
 obtain⟨y,hy⟩:∃y,m.fields[k]? = some y:=⟨m.fields[k]'(by omega),QFA (by omega)⟩;have hg:(m.fields.map fun n=>AV.agg n.cells)[k]? = some (.agg y.cells):=by rw[QGI,hy];rfl
 rw[QG]at hg;have e1:=Qn k _ hlt (by simp only[maxLen];omega);have ht:=JA (q:=fun y:SF=>y.name==x.name) hy;simp only[Qz hlt,VY,Qj,QGM,Qe,hg,h4,h9,h11,p4,p9,Qy,eE,seval];cases hp:(y.name==x.name)
 ·rw[hp,QHe]at ht;simp only[G5,h11,e1,Qa,seval];exact⟨i-(k+1),by omega,_,k+1,rfl,rfl,by omega,by simp only[ht,Hd,Zo,QGr,h2,h3,h4,h7,h8,h9,h10,Qa,seval],(by rfl)⟩
 ·rw[hp,Bool.or_true]at ht;simp only[G5,VZ,h11,e1,Qa,seval];exact⟨i-(k+1),by omega,_,k+1,rfl,rfl,by omega,by simp only[ht,Hd,Zo,QGr,h2,h3,h4,h7,h8,h9,Qa,seval],(by rfl)⟩
end

section
variable {M:Nat}(hM:M≤1048576)(S:SC)(hS:S.ok M)(m:SM)(hm:m.ok M)(Fb:List Bool)
include hM hS hm in
theorem Mg (l:List PB)(hl:l.length≤1000000)(f:Fr)(fr:Nat→Ob)(h2:f 2=.list (Fb.map AV.bool))(h3:f 3=.ptr 0 3 0)(h4:f 4=.ptr 0 4 0)(h7:f 7=.ptr 0 7 0)(h8:f 8=.int .i64 0)
  (o3:fr 3=.cells [.list (S.msgs.map fun n=>.agg n.cells),.list (S.enums.map fun n=>.agg n.cells),.list (S.servs.map fun n=>.agg n.cells)]) (o4:fr 4=.cells m.cells) (o9:fr 9=.none) (Q:Exit→St→Prop)
  (hq:∀(f:Fr) (fr:Nat→Ob),f 2=.list (Fb.map AV.bool)→f 3=.ptr 0 3 0→f 4=.ptr 0 4 0→f 7=.ptr 0 7 0→fr 3=.cells [.list (S.msgs.map fun n=>.agg n.cells),.list (S.enums.map fun n=>.agg n.cells),.list (S.servs.map fun n=>.agg n.cells)]→fr 4=.cells m.cells→Q (.exit 0) ⟨f,[Q6 fr 7 1100 m.name (l++upto m.fields (Jx S m) m.fields.length)],[]⟩) :
  QJ Tryz.prog (.loop B7) ⟨f,[Q6 fr 7 1100 m.name l],[]⟩ Q:=by
 let I:Nat→St→Prop:=fun n st=>∃f fr i,st=⟨f,[Q6 fr 7 1100 m.name (l++upto m.fields (Jx S m) i)],[]⟩∧n=m.fields.length-i∧i≤m.fields.length∧f 2=.list (Fb.map AV.bool)∧f 3=.ptr 0 3 0∧f 4=.ptr 0 4 0∧f 7=.ptr 0 7 0∧f 8=.int .i64 (i:Nat)∧
  fr 3=.cells [.list (S.msgs.map fun n=>.agg n.cells),.list (S.enums.map fun n=>.agg n.cells),.list (S.servs.map fun n=>.agg n.cells)]∧fr 4=.cells m.cells∧(fr 9).isRow=false
 have hl1:=hm.len1;refine Qg I _ ⟨f,fr,0,by rw[upto,QGq],rfl,QFG _,h2,h3,h4,h7,h8,o3,o4,by rw[o9];rfl⟩ ?_;clear h2 h3 h4 h7 h8 o3 o4 o9;rintro _ st ⟨f0,fr0,i,rfl,rfl,hi,h20,h30,h40,h70,h80,JJ,Kr,r9⟩;refine QD (a:=_) [9] (by
  intro s hs;simp only[QGF,QHk,or_false]at hs;subst hs;rw[ZG _ _ _ _ _ (by decide) (by decide)];exact r9) ?_
 intro f fr hf hmm hn;have h2:f 2=.list (Fb.map AV.bool):=by rw[hf,h20]<;>rfl
 have h3:f 3=.ptr 0 3 0:=by rw[hf,h30]<;>rfl
 have h4:f 4=.ptr 0 4 0:=by rw[hf,h40]<;>rfl
 have h7:f 7=.ptr 0 7 0:=by rw[hf,h70]<;>rfl
 have h8:f 8=.int .i64 (i:Nat):=by rw[hf,h80]<;>rfl
 have o3:fr 3=.cells [.list (S.msgs.map fun n=>.agg n.cells),.list (S.enums.map fun n=>.agg n.cells),.list (S.servs.map fun n=>.agg n.cells)]:=by rw[hmm 3 (by decide),ZG _ _ _ _ _ (by decide) (by decide),JJ]<;>rfl
 have o4:fr 4=.cells m.cells:=by rw[hmm 4 (by decide),ZG _ _ _ _ _ (by decide) (by decide),Kr]<;>rfl
 have n9:=hn 9 (by decide);have q0:(l++upto m.fields (Jx S m) i).length≤100000000:=by
  have:=QN (l:=m.fields) (K1 S m) i;rw[QF7];omega
 have hfe:Q6 fr 7 1100 m.name (l++upto m.fields (Jx S m) i)=fr:=Ho _ _ _ _ _ (by rw[hmm 7 (by decide),Ye]<;>rfl) (by rw[hmm 1100 (by decide),Yf _ _ _ _ _ (by decide)]<;>rfl);clear hf hmm hn h20 h30 h40 h70 h80 JJ Kr r9;have o4':=o4;rw[Xs]at o4';simp only[R5,QGK,h4,h8,o4',eE,seval];by_cases hlt:i<m.fields.length
 case neg=>
  have ei:i=m.fields.length:=by omega
  subst ei;simp only[QB hlt,Qa,seval];rw[←hfe];exact hq _ _ (by exact h2) (by exact h3) (by exact h4) (by exact h7) o3 o4
 obtain⟨x,hx⟩:∃x,m.fields[i]? = some x:=⟨m.fields[i],QFA hlt⟩;have hg:(m.fields.map fun n=>AV.agg n.cells)[i]? = some (.agg x.cells):=by rw[QGI,hx];rfl
 rw[QG]at hg;have e1:=Qn i _ hlt (by simp only[maxLen];omega);simp only[Qz hlt,n9,R6,R7,R8,Qj,QGM,Qe,hg,h4,h8,o4',eE,seval];rw[←hfe,Hp _ _ _ _ _ (by decide) (by decide)];generalize hF:Qx fr 9 _=F;have p3:F 3=.cells [.list (S.msgs.map fun n=>.agg n.cells),.list (S.enums.map fun n=>.agg n.cells),.list (S.servs.map fun n=>.agg n.cells)]:=by rw[←hF];exact(by exact o3)
 have p4:F 4=.cells m.cells:=by rw[←hF];exact(by exact o4)
 have p9:F 9=.cells x.cells:=by rw[←hF,QG];exact(by rfl)
 clear hF hfe o3 o4 o4' n9;refine QsN hM m hm Fb i x hx F p4 p9 _ _ rfl _ (by simp only[Hd,Zo,QGr,h2,h3,h4,h7,h8,Qa,seval]) (by rfl) _ (fun f hf=>?_);clear h2 h3 h4 h7 h8;generalize hT:((m.fields.take i).any fun y=>y.name==x.name)=tw at hf;simp only[Qa,seval];refine Qz5 m Fb i x tw F p9 _ f _ (by omega) hf (fun f hf=>?_);have q1:=Qt q0 m.name x.num (decide (x.num≥1)&&decide (x.num≤65535)) 6;simp only[Qa,seval];refine Qz6 hM m hm Fb i x hx tw F p4 p9 _ f _ (by omega) hf (fun f hf=>?_);have q2:=Qt q1 m.name x.num (JU m.fields SF.num i x) 11;simp only[Qa,seval];refine Qz7 m Fb i x tw F p9 _ f _ (by omega) hf (fun f hf=>?_);have q3:=Qt q2 m.name x.num (Q7 x.name) 8;simp only[Qa,seval];refine Qz8 m Fb i x tw F p9 _ f _ (by omega) hf (fun f hf=>?_);have q4:=Qt q3 m.name x.num (!tw) 9;simp only[Qa,seval];refine Qz9 hM m hm Fb i x tw F p4 p9 _ f _ (by omega) hf (fun f hf=>?_);have q5:=Qt q4 m.name x.num (!(kept m.free x.num) && !(m.gone.contains x.name)) 21;simp only[Qa,seval];refine QAa hM S hS m hm Fb i x hx tw F p3 p4 p9 _ f _ (by omega) hf (fun f hf=>?_);have q6:=Qt q5 m.name x.num (Wv x) 1;simp only[Qa,seval];refine QAb hM S hS m hm Fb i x hx tw F p3 p4 p9 _ f _ (by omega) hf (fun f hf=>?_);have q7:=Qt q6 m.name x.num (Ji S x) 12;simp only[Qa,seval];refine QAc hM S hS m hm Fb i x hx tw F p3 p4 p9 _ f _ (by omega) hf (fun f hf=>?_);have q8:=Qt q7 m.name x.num (Z2 m i) 15;simp only[Qa,seval];refine QAd hM S hS m hm Fb i x hx tw F p3 p4 p9 _ f _ (by omega) hf (fun f hf=>?_);have q9:=Qt q8 m.name x.num (KG S x) 1;simp only[Qa,seval];refine QAe hM m hm Fb i x hx tw F p9 _ f _ (by omega) hf (fun f hf=>?_);obtain⟨h2,h3,h4,h7,h8,h9,h10,-⟩:=hf;simp only[R9,h8,e1,Qa,seval];exact⟨m.fields.length-(i+1),by omega,_,F,i+1,by rw[X5 hx];subst hT;unfold Jx;simp only[QFR]<;>rfl,rfl,by omega,(by exact h2),(by exact h3),(by exact h4),(by exact h7),(by rfl),p3,p4,by rw[p9];rfl⟩
end

section
variable {M:Nat}(hM:M≤1048576)(m:SM)(hm:m.ok M)
include hM hm in
theorem ET (l:List PB)(hl:l.length≤1000000000)(f:Fr)(fr:Nat→Ob)(h3:f 3=.ptr 0 3 0)(h2:∃a,f 2=a)(h4:f 4=.ptr 0 4 0)(h7:f 7=.ptr 0 7 0)(h12:f 12=.int .i64 0)(o4:fr 4=.cells m.cells)(Q:Exit→St→Prop)
  (hq:∀f':Fr,f' 2=f 2→f' 3=.ptr 0 3 0→f' 4=.ptr 0 4 0→f' 7=.ptr 0 7 0→Q (.exit 4) ⟨f',[Q6 fr 7 1100 m.name (l++upto m.gone (fun _ g=>pb m.name (-1) (ZR g) 7) m.gone.length)],[]⟩):QJ Tryz.prog (.loop H2) ⟨f,[Q6 fr 7 1100 m.name l],[]⟩ Q:=by
 obtain⟨a,h2⟩:=h2;rw[h2]at hq
 let I:Nat→St→Prop:=fun n st=>∃f i,st=⟨f,[Q6 fr 7 1100 m.name (l++upto m.gone (fun _ g=>pb m.name (-1) (ZR g) 7) i)],[]⟩∧n=m.gone.length-i∧i≤m.gone.length∧f 2=a∧f 3=.ptr 0 3 0∧f 4=.ptr 0 4 0∧f 7=.ptr 0 7 0∧f 12=.int .i64 (i:Nat)
 have hl3:=hm.len3;rw[Xs]at o4;refine Qg I _ ⟨f,0,by rw[upto,QGq],rfl,QFG _,h2,h3,h4,h7,h12⟩ ?_;clear h2 h3 h4 h7 h12;rintro _ st ⟨f,i,rfl,rfl,hi,h2,h3,h4,h7,h12⟩;simp only[H2,V1,Qw,QGK,h4,h12,o4,eE,seval];by_cases hlt:i<m.gone.length
 case neg=>
  have ei:i=m.gone.length:=by omega
  subst ei;simp only[QB hlt,Qa,seval];exact hq _ (by exact h2) (by exact h3) (by exact h4) (by exact h7)
 obtain⟨x,hx⟩:∃x,m.gone[i]? = some x:=⟨m.gone[i],QFA hlt⟩;have hg:(m.gone.map AV.str)[i]? = some (.str x):=by rw[QGI,hx];rfl
 have hxl:=hm.gone x (QFL hx);have e1:=Qn i _ hlt (by simp only[maxLen];omega);have hu:=QN (l:=m.gone) (g:=fun _ g=>pb m.name (-1) (ZR g) 7) (c:=1) (fun _ g=>Q0 ..) i;simp only[Qz hlt,V2,Qw,Qj,QGM,Qe,hg,h4,h12,o4,eE,seval];refine aC (QlQ x (by simp only[maxLen];omega)) ?_;simp only[Qa,seval];refine QI (by decide) (by exact h7) rfl rfl rfl (by rw[QF7];omega) ?_;simp only[V3,h12,e1,Qa,seval];exact⟨m.gone.length-(i+1),by omega,_,i+1,by rw[X5 hx,QHh,QFR],rfl,by omega,(by exact h2),(by exact h3),(by exact h4),(by exact h7),(by rfl)⟩

theorem KM (l:List PB):List.take l.length (List.map PB.av l)=List.map PB.av l:=QF4 (by rw[QGK];exact QFx _)

theorem u51 {M:Nat}(hM:M≤1048576)(S:SC)(hS:S.ok M)(m:SM)(hm:m.ok M)(F:List Bool)(hF:F.length=S.msgs.length):Qr Tryz.prog 51 [S.av,QW m,.list (F.map AV.bool)] (.list ((Z6 S (Xc S F) m).map PB.av)):=by
 have hl1:=hm.len1;have hl2:=hm.len2;have hl3:=hm.len3;have hl4:=hm.len4;have hnl:=hm.name;refine k51.fn (by simp) ?_;simp only[r51,V4,R1,R2,SC.av,QW,Xs m,eE,seval];refine Xz rfl rfl rfl rfl ?_;generalize hb:(Qx (Qx Qc 3 _) 4 _:Nat→Ob)=base;have o3:base 3=.cells [.list (S.msgs.map fun n=>.agg n.cells),.list (S.enums.map fun n=>.agg n.cells),.list (S.servs.map fun n=>.agg n.cells)]:=by rw[←hb];exact(by rfl)
 have o4:base 4=.cells m.cells:=by rw[←hb,Xs];exact(by rfl)
 have o9:base 9=.none:=by rw[←hb];rfl
 clear hb;have o4s:=o4;rw[Xs]at o4s;rw[H8 base 7 1100 m.name _ (by decide)];simp only[R3,Qw,o4s,eE,seval];refine aC (PF m.name) ?_;simp only[Qa,seval];refine QI (by decide) rfl rfl rfl rfl (by simp) ?_;rw[QHh,QFT];have q1:=Q0 m.name (-1) (Xe m.name) 8;generalize hL1:pb m.name (-1) (Xe m.name) 8=L1 at q1;have hbb:(decide (m.fields.length≤64)&&decide (m.free.length≤16)&&decide (m.gone.length≤16))=!(decide ((m.fields.length:Int) > 64)||decide ((m.free.length:Int) > 16)||decide ((m.gone.length:Int) > 16)):=(by rw[QGj];simp only[QGH,QGl,QHb,QFU,QGi];omega);have q2:=Qt q1 m.name (-1) (decide (m.fields.length≤64)&&decide (m.free.length≤16)&&decide (m.gone.length≤16)) 3;have key:∀f:Fr,f 2=.list (F.map AV.bool)→f 3=.ptr 0 3 0→f 4=.ptr 0 4 0→f 7=.ptr 0 7 0→QJ Tryz.prog (.seq (.seq (.reg B5) (.block 0 (.loop B7))) (.seq (.reg Df) (.seq (.seq (.reg Dg) (.block 4 (.loop H2))) (.seq (.reg Dh) (.seq (.reg Di) (.seq (.reg Dj) .ret))))))
   ⟨f,[Q6 base 7 1100 m.name (L1++pb m.name (-1) (decide (m.fields.length≤64)&&decide (m.free.length≤16)&&decide (m.gone.length≤16)) 3)],[]⟩ (Zu V4 0 fun x _=>x=.list ((Z6 S (Xc S F) m).map PB.av)):=by
  intro f h2 h3 h4 h7;simp only[B5,Qa,seval];refine Mg hM S hS m hm F _ (by omega) _ base (by exact h2) (by exact h3) (by exact h4) (by exact h7) (by rfl) o3 o4 o9 _ (fun f fr h2 h3 h4 h7 o3 o4=>?_);have o4s:=o4;rw[Xs]at o4s;have q3:=QN (l:=m.fields) (K1 S m) m.fields.length;have q4:=QN (l:=m.free) (Jz m.name 1 65535 m.free) m.free.length;have q5:=QN (l:=m.gone) (g:=fun _ g=>pb m.name (-1) (ZR g) 7) (c:=1) (fun _ g=>Q0 ..) m.gone.length;have q6:=Q0 m.name (-1) (XZ m.notes 1==0) (XZ m.notes 1);simp only[Df,Qw,h4,o4s,eE,seval];refine Qb (SA fr 7 1100 m.name (by decide) rfl 1 65535 m.free (by omega) [] _ (by simp only[QF7]at q2 ⊢;omega)) (by simp only[QF3,QGo,h7,Qa,seval]<;>rfl) ?_;simp only[Dg,Qa,seval];refine ET hM m hm _ (by simp only[QF7]at q2 ⊢;omega) _ fr (by exact h3) ⟨_,rfl⟩ (by exact h4) (by exact h7) (by rfl) o4 _ (fun f2 k2 h3 h4 h7=>?_);have h2':f2 2=.list (F.map AV.bool):=by rw[k2];exact(by exact h2)
  clear k2 h2;simp only[Dh,Qw,h4,o4s,eE,seval];refine J2 (by simp only[maxLen];omega) (by simp only[maxLen];omega) hm.notes (by decide) (by exact h7) rfl rfl rfl (by decide) (by simp only[QF7]at q2 ⊢;omega) ?_;have hc:=Qmt hM S hS F hF m hm;simp only[SC.av,QW,Xs m]at hc;simp only[Di,Qw,h2',h3,h4,o3,o4s,eE,seval];refine aC hc ?_
  try simp only[eE,seval]
  refine QI (by decide) (by exact h7) rfl rfl rfl (by simp only[QF7,Xu]at q2 ⊢;omega) ?_;generalize hL:_++pb m.name (-1) (!Xc S F m) 19=L;have hfin:Z6 S (Xc S F) m=L:=by rw[←hL,←hL1];rfl
  rw[hfin];simp only[Dj,Qw,h7,QGK,QGb,KM,QFW,QFx,QGr,QGw,AV.un,V4,eE,seval]
 simp only[V4,Qa,seval]at key;rw[hbb]at key;simp only[R4,Qw,QGK,o4s,eE,seval];cases c1:decide ((m.fields.length:Int) > 64)<;>cases c2:decide ((m.free.length:Int) > 16)<;>cases c3:decide ((m.gone.length:Int) > 16) <;>
 ·rw[c1,c2,c3]at key;simp only[c2,c3,Qw,QGK,o4s,eE,seval];refine QI (by decide) rfl rfl rfl rfl (by omega) ?_;simp only[Qa,seval];exact key _ (by rfl) (by rfl) (by rfl) (by rfl)
end

def JB (i:Nat)(tw:Bool):List (Nat×AV):=[(1,.ptr 0 1 0),(3,.ptr 0 3 0),(4,.int .i64 (i:Nat)),(5,.ptr 0 5 0),(6,.bool tw)]
section
variable {M:Nat}(hM:M≤1048576)(m:SE)(hm:m.ok M)(i:Nat)(x:SI)(hi:m.items[i]? = some x)(tw:Bool)(fr:Nat→Ob)(o1:fr 1=.cells m.cells)(o5:fr 5=.cells x.cells)

include o5 in
theorem QAf:Jp Dl fr 3 m.name (JB i tw) (pb m.name x.num (decide (x.num≥0)&&decide (x.num≤2147483647)) 6):=by
 rintro l f K hl ⟨h1,h3,h4,h5,h6,-⟩ hK;rw[Z9]at o5;have hb:(decide (x.num≥0)&&decide (x.num≤2147483647))=!(decide (x.num<0)||decide (x.num > 2147483647)):=(by rw[QGj];simp only[QGH,QGl,QHb,QFU,QGi];omega);rw[hb]at hK;simp only[Dl,Qw,h5,o5,eE,seval];cases c1:decide (x.num<0)<;>cases c2:decide (x.num > 2147483647) <;>
 ·rw[c1,c2]at hK;simp only[c2,Qw,h5,o5,eE,seval];exact QI (by decide) (by exact h3) rfl rfl rfl hl (hK _ (by simp only[Hd,JB,QGr,h1,h3,h4,h5,h6,Qa,seval]))

include o1 o5 hi hM hm in
theorem QAg:Jp Un fr 3 m.name (JB i tw) (pb m.name x.num (JU m.items SI.num i x) 11):=by
 rintro l f K hl ⟨h1,h3,h4,h5,h6,-⟩ hK;rw[Z9]at o5;rw[X1]at o1;have hlt:i<m.items.length:=(QFz.1 hi).1;have hl1:=hm.len1;cases i with
 |zero=>
  have d0:decide (((0:Nat):Int) > 0)=false:=rfl;simp only[Un,Qw,h4,h5,o5,eE,seval];exact QI (by decide) (by exact h3) rfl rfl rfl hl (hK _ (by simp only[Hd,JB,QGr,h1,h3,h4,h5,h6,Qa,seval]))
 |succ j=>
  obtain⟨y,hj⟩:∃y,m.items[j]? = some y:=⟨m.items[j]'(by omega),QFA (by omega)⟩;have hgj:(m.items.map fun n=>AV.agg n.cells)[j]? = some (.agg y.cells):=by rw[QGI,hj];rfl
  rw[Z9]at hgj;have wj:=ZV j _ hlt (by simp only[maxLen];omega);have d0:decide (((j+1:Nat):Int) > 0)=true:=QHa (by omega);have hb:decide (x.num > y.num)=!decide (x.num≤y.num):=(by rw[QGj];simp only[QGH,QGl,QHb];omega);simp only[JU,hj,hb]at hK;simp only[Un,Qw,Qj,QGM,Qe,hgj,wj,h1,h4,h5,o1,o5,d0,eE,seval];exact QI (by decide) (by exact h3) rfl rfl rfl hl (hK _ (by simp only[Hd,JB,QGr,h1,h3,h4,h5,h6,Qa,seval]))

include o5 in
theorem QAh:Jp Dm fr 3 m.name (JB i tw) (pb m.name x.num (Q7 x.name) 8):=by
 rintro l f K hl ⟨h1,h3,h4,h5,h6,-⟩ hK;rw[Z9]at o5;rw[←QHh (Q7 x.name)]at hK;simp only[Dm,Qw,h5,o5,eE,seval];refine aC (Nl x.name) ?_;simp only[Qw,h5,o5,eE,seval];exact QI (by decide) (by exact h3) rfl rfl rfl hl (hK _ (by simp only[Hd,JB,QGr,h1,h3,h4,h5,h6,Qa,seval]))

include o5 in
theorem QAi:Jp Dn fr 3 m.name (JB i tw) (pb m.name x.num (!tw) 9):=by
 rintro l f K hl ⟨h1,h3,h4,h5,h6,-⟩ hK;rw[Z9]at o5;simp only[Dn,Qw,h5,h6,o5,eE,seval];exact QI (by decide) (by exact h3) rfl rfl rfl hl (hK _ (by simp only[Hd,JB,QGr,h1,h3,h4,h5,h6,Qa,seval]))

include o1 o5 hM hm in
theorem QAj:Jp Dp fr 3 m.name (JB i tw) (pb m.name x.num (!(kept m.free x.num)) 21):=by
 rintro l f K hl ⟨h1,h3,h4,h5,h6,-⟩ hK;rw[Z9]at o5;rw[X1]at o1;have hl2:=hm.len2;have hk:=QlX m.free (by simp only[maxLen];omega) x.num;simp only[Dp,Qw,h1,h5,o1,o5,eE,seval];refine aC hk ?_;simp only[Qw,h5,o5,eE,seval];exact QI (by decide) (by exact h3) rfl rfl rfl hl (hK _ (by simp only[Hd,JB,QGr,h1,h3,h4,h5,h6,Qa,seval]))

include o5 hi hM hm in
theorem QAk:Jp Dq fr 3 m.name (JB i tw) (Xu m.name x.num x.notes 4):=by
 rintro l f K hl ⟨h1,h3,h4,h5,h6,-⟩ hK;have hx:=hm.items x (QFL hi);have hln:=hx.len;rw[Z9]at o5;simp only[Dq,Qw,h5,o5,eE,seval];exact J2 (by simp only[maxLen];omega) (by simp only[maxLen];omega) hx.notes (by decide) (by exact h3) rfl rfl rfl (by decide) hl (hK _ (by simp only[Hd,JB,QGr,h1,h3,h4,h5,h6,Qa,seval]))

include o1 o5 hi hM hm in
theorem QsO (F:Nat→Ob)(l:List PB)(hF:F=Q6 fr 3 1100 m.name l)(f:Fr)(hf:Hd f (JB i false))(h7:f 7=.int .i64 0)(Q:Exit→St→Prop)
  (hq:∀f,Hd f (JB i ((m.items.take i).any fun y=>y.name==x.name))→Q (.exit 2) ⟨f,[F],[]⟩):QJ Tryz.prog (.loop B8) ⟨f,[F],[]⟩ Q:=by
 let I:Nat→St→Prop:=fun n st=>∃f k,st=⟨f,[F],[]⟩∧n=i-k∧k≤i∧Hd f (JB i ((m.items.take k).any fun y=>y.name==x.name))∧f 7=.int .i64 (k:Nat)
 have hil:i<m.items.length:=(QFz.1 hi).1;have hl1:=hm.len1;rw[Z9]at o5;rw[X1]at o1;have p1:F 1=fr 1:=by rw[hF,ZG _ _ _ _ _ (by decide) (by decide)]
 have p5:F 5=fr 5:=by rw[hF,ZG _ _ _ _ _ (by decide) (by decide)]
 rw[o1]at p1;rw[o5]at p5;refine Qg I _ ⟨f,0,rfl,rfl,QFG _,hf,h7⟩ ?_;clear hf h7;rintro _ st ⟨f,k,rfl,rfl,hk,hf,h7⟩;have hf':=hf;obtain⟨h1,h3,h4,h5,h6,-⟩:=hf';simp only[B8,V6,h4,h7,Qa,seval];by_cases hlt:k<i
 case neg=>
  have e:k=i:=by omega
  subst e;simp only[QB hlt,Qa,seval];exact hq _ (by simp only[Hd,JB,QGr,h1,h3,h4,h5,h6,Qa,seval])
 obtain⟨y,hy⟩:∃y,m.items[k]? = some y:=⟨m.items[k]'(by omega),QFA (by omega)⟩;have hg:(m.items.map fun n=>AV.agg n.cells)[k]? = some (.agg y.cells):=by rw[QGI,hy];rfl
 rw[Z9]at hg;have e1:=Qn k _ hlt (by simp only[maxLen];omega);have ht:=JA (q:=fun y:SI=>y.name==x.name) hy;simp only[Qz hlt,V7,Qj,QGM,Qe,hg,h1,h5,h7,p1,p5,Qy,eE,seval];cases hp:(y.name==x.name)
 ·rw[hp,QHe]at ht;simp only[Dk,h7,e1,Qa,seval];exact⟨i-(k+1),by omega,_,k+1,rfl,rfl,by omega,by simp only[ht,Hd,JB,QGr,h1,h3,h4,h5,h6,Qa,seval],(by rfl)⟩
 ·rw[hp,Bool.or_true]at ht;simp only[Dk,V8,h7,e1,Qa,seval];exact⟨i-(k+1),by omega,_,k+1,rfl,rfl,by omega,by simp only[ht,Hd,JB,QGr,h1,h3,h4,h5,Qa,seval],(by rfl)⟩
end

section
variable {M:Nat}(hM:M≤1048576)(m:SE)(hm:m.ok M)
include hM hm in
theorem PH (l:List PB)(hl:l.length≤1000000)(f:Fr)(fr:Nat→Ob)(h1:f 1=.ptr 0 1 0)(h3:f 3=.ptr 0 3 0)(h4:f 4=.int .i64 0)(o1:fr 1=.cells m.cells)(o5:fr 5=.none)(Q:Exit→St→Prop)
  (hq:∀(f:Fr) (fr:Nat→Ob),f 1=.ptr 0 1 0→f 3=.ptr 0 3 0→fr 1=.cells m.cells→Q (.exit 0) ⟨f,[Q6 fr 3 1100 m.name (l++upto m.items (Z7 m) m.items.length)],[]⟩) :
  QJ Tryz.prog (.loop H5) ⟨f,[Q6 fr 3 1100 m.name l],[]⟩ Q:=by
 let I:Nat→St→Prop:=fun n st=>∃f fr i,st=⟨f,[Q6 fr 3 1100 m.name (l++upto m.items (Z7 m) i)],[]⟩∧n=m.items.length-i∧i≤m.items.length∧f 1=.ptr 0 1 0∧f 3=.ptr 0 3 0∧f 4=.int .i64 (i:Nat)∧fr 1=.cells m.cells∧(fr 5).isRow=false
 have hl1:=hm.len1;refine Qg I _ ⟨f,fr,0,by rw[upto,QGq],rfl,QFG _,h1,h3,h4,o1,by rw[o5];rfl⟩ ?_;clear h1 h3 h4 o1 o5;rintro _ st ⟨f0,fr0,i,rfl,rfl,hi,h10,h30,h40,XE,r5⟩;refine QD (a:=_) [5] (by
  intro s hs;simp only[QGF,QHk,or_false]at hs;subst hs;rw[ZG _ _ _ _ _ (by decide) (by decide)];exact r5) ?_
 intro f fr hf hmm hn;have h1:f 1=.ptr 0 1 0:=by rw[hf,h10]<;>rfl
 have h3:f 3=.ptr 0 3 0:=by rw[hf,h30]<;>rfl
 have h4:f 4=.int .i64 (i:Nat):=by rw[hf,h40]<;>rfl
 have o1:fr 1=.cells m.cells:=by rw[hmm 1 (by decide),ZG _ _ _ _ _ (by decide) (by decide),XE]<;>rfl
 have n5:=hn 5 (by decide);have q0:(l++upto m.items (Z7 m) i).length≤100000000:=by
  have:=QN (l:=m.items) (K2 m) i;rw[QF7];omega
 have hfe:Q6 fr 3 1100 m.name (l++upto m.items (Z7 m) i)=fr:=Ho _ _ _ _ _ (by rw[hmm 3 (by decide),Ye]<;>rfl) (by rw[hmm 1100 (by decide),Yf _ _ _ _ _ (by decide)]<;>rfl);clear hf hmm hn h10 h30 h40 XE r5;have o1':=o1;rw[X1]at o1';simp only[Se,QGK,h1,h4,o1',eE,seval];by_cases hlt:i<m.items.length
 case neg=>
  have ei:i=m.items.length:=by omega
  subst ei;simp only[QB hlt,Qa,seval];rw[←hfe];exact hq _ _ (by exact h1) (by exact h3) o1
 obtain⟨x,hx⟩:∃x,m.items[i]? = some x:=⟨m.items[i],QFA hlt⟩;have hg:(m.items.map fun n=>AV.agg n.cells)[i]? = some (.agg x.cells):=by rw[QGI,hx];rfl
 rw[Z9]at hg;have e1:=Qn i _ hlt (by simp only[maxLen];omega);simp only[Qz hlt,n5,Sf,Sg,V5,Qj,QGM,Qe,hg,h1,h4,o1',eE,seval];rw[←hfe,Hp _ _ _ _ _ (by decide) (by decide)];generalize hF:Qx fr 5 _=F;have p1:F 1=.cells m.cells:=by rw[←hF];exact(by exact o1)
 have p5:F 5=.cells x.cells:=by rw[←hF,Z9];exact(by rfl)
 clear hF hfe o1 o1' n5;refine QsO hM m hm i x hx F p1 p5 _ _ rfl _ (by simp only[Hd,JB,QGr,h1,h3,h4,Qa,seval]) (by rfl) _ (fun f hf=>?_);clear h1 h3 h4;generalize hT:((m.items.take i).any fun y=>y.name==x.name)=tw at hf;simp only[Qa,seval];refine QAf m i x tw F p5 _ f _ (by omega) hf (fun f hf=>?_);have q1:=Qt q0 m.name x.num (decide (x.num≥0)&&decide (x.num≤2147483647)) 6;simp only[Qa,seval];refine QAg hM m hm i x hx tw F p1 p5 _ f _ (by omega) hf (fun f hf=>?_);have q2:=Qt q1 m.name x.num (JU m.items SI.num i x) 11;simp only[Qa,seval];refine QAh m i x tw F p5 _ f _ (by omega) hf (fun f hf=>?_);have q3:=Qt q2 m.name x.num (Q7 x.name) 8;simp only[Qa,seval];refine QAi m i x tw F p5 _ f _ (by omega) hf (fun f hf=>?_);have q4:=Qt q3 m.name x.num (!tw) 9;simp only[Qa,seval];refine QAj hM m hm i x tw F p1 p5 _ f _ (by omega) hf (fun f hf=>?_);have q5:=Qt q4 m.name x.num (!(kept m.free x.num)) 21;simp only[Qa,seval];refine QAk hM m hm i x hx tw F p5 _ f _ (by omega) hf (fun f hf=>?_);obtain⟨h1,h3,h4,h5,h6,-⟩:=hf;simp only[Sh,h4,e1,Qa,seval];exact⟨m.items.length-(i+1),by omega,_,F,i+1,by rw[X5 hx];subst hT;unfold Z7;simp only[QFR]<;>rfl,rfl,by omega,(by exact h1),(by exact h3),(by rfl),p1,by rw[p5];rfl⟩

include hM hm in
theorem u52:Qr Tryz.prog 52 [XM m] (.list ((ZZ m).map PB.av)):=by
 have hl1:=hm.len1;have hl2:=hm.len2;have hl3:=hm.len3;have hnl:=hm.name;refine k52.fn (by simp) ?_;simp only[r52,o52,Sa,Sb,XM,X1 m,eE,seval];refine Xz rfl rfl rfl rfl ?_;generalize hb:(Qx Qc 1 _:Nat→Ob)=base;have o1:base 1=.cells m.cells:=by rw[←hb,X1];exact(by rfl)
 have o5:base 5=.none:=by rw[←hb];rfl
 clear hb;have o1s:=o1;rw[X1]at o1s;rw[H8 base 3 1100 m.name _ (by decide)];simp only[Sc,Qw,o1s,eE,seval];refine aC (PF m.name) ?_;simp only[Qa,seval];refine QI (by decide) rfl rfl rfl rfl (by simp) ?_;rw[QHh,QFT];have q1:=Q0 m.name (-1) (Xe m.name) 8;generalize hL1:pb m.name (-1) (Xe m.name) 8=L1 at q1;have hbb:(decide (m.items.length≥1)&&decide (m.items.length≤64)&&decide (m.free.length≤16))=!(decide ((m.items.length:Int)<1)||decide ((m.items.length:Int) > 64)||decide ((m.free.length:Int) > 16)):=(by rw[QGj];simp only[QGH,QGl,QHb,QFU,QGi];omega);have q2:=Qt q1 m.name (-1) (decide (m.items.length≥1)&&decide (m.items.length≤64)&&decide (m.free.length≤16)) 3;generalize hL2:L1++pb m.name (-1) (decide (m.items.length≥1)&&decide (m.items.length≤64)&&decide (m.free.length≤16)) 3=L2 at q2;have q2b:=Qt q2 m.name (-1) (ZD m) 14;have key2:∀f:Fr,f 1=.ptr 0 1 0→f 3=.ptr 0 3 0→QJ Tryz.prog (.seq (.seq (.reg H4) (.block 0 (.loop H5))) (.seq (.reg Uo) (.seq (.reg Uq) (.seq (.reg Ur) .ret))))
   ⟨f,[Q6 base 3 1100 m.name (L2++pb m.name (-1) (ZD m) 14)],[]⟩ (Zu [.tmp 2] 0 fun x _=>x=.list ((ZZ m).map PB.av)):=by
  intro f h1 h3;simp only[H4,Qa,seval];refine PH hM m hm _ (by omega) _ base (by exact h1) (by exact h3) (by rfl) o1 o5 _ (fun f fr h1 h3 o1=>?_);have o1s:=o1;rw[X1]at o1s;have q3:=QN (l:=m.items) (K2 m) m.items.length;have q4:=QN (l:=m.free) (Jz m.name 0 2147483647 m.free) m.free.length;simp only[Uo,Qw,h1,o1s,eE,seval];refine Qb (SA fr 3 1100 m.name (by decide) rfl 0 2147483647 m.free (by omega) [] _ (by simp only[QF7]at q2b ⊢;omega)) (by simp only[QF3,QGo,h3,Qa,seval]<;>rfl) ?_;simp only[Uq,Qw,h1,o1s,eE,seval];refine J2 (by simp only[maxLen];omega) (by simp only[maxLen];omega) hm.notes (by decide) (by exact h3) rfl rfl rfl (by decide) (by simp only[QF7]at q2b ⊢;omega) ?_;generalize hL:_++Xu m.name (-1) m.notes 3=L;have hfin:ZZ m=L:=by rw[←hL,←hL2,←hL1];rfl
  rw[hfin];simp only[Ur,Qw,h3,QGK,QGb,KM,QFW,QFx,QGr,QGw,AV.un,eE,seval]
 simp only[Qa,seval]at key2;have key:∀f:Fr,f 1=.ptr 0 1 0→f 3=.ptr 0 3 0→QJ Tryz.prog (.seq (.reg H3) (.seq (.seq (.reg H4) (.block 0 (.loop H5))) (.seq (.reg Uo) (.seq (.reg Uq) (.seq (.reg Ur) .ret)))))
   ⟨f,[Q6 base 3 1100 m.name L2],[]⟩ (Zu [.tmp 2] 0 fun x _=>x=.list ((ZZ m).map PB.av)):=by
  intro f h1 h3;cases hit:m.items with
  |nil=>
   have e0:ZD m=!false:=by unfold ZD;rw[hit];rfl
   have d0:decide ((m.items.length:Int) > 0)=false:=by rw[hit];rfl
   rw[e0]at key2;rw[hit]at d0;rw[hit]at o1s;simp only[H3,Qw,h1,o1s,eE,seval];refine QI (by decide) (by exact h3) rfl rfl rfl (by omega) ?_;simp only[Qa,seval];exact key2 _ (by exact h1) (by exact h3)
  |cons y l=>
   have e0:ZD m=!(y.num != 0):=by unfold ZD;rw[hit,bne,QHh]
   have d0:decide ((0:Int)<((l.length+1:Nat):Int))=true:=QHa (by omega);rw[e0]at key2;rw[hit]at o1s;have hg:((y :: l).map fun n=>AV.agg n.cells)[0]? = some (.agg y.cells):=rfl;rw[Z9]at hg;simp only[H3,Qw,QGK,Qe,hg,h1,o1s,d0,eE,seval];refine QI (by decide) (by exact h3) rfl rfl rfl (by omega) ?_;simp only[Qa,seval];exact key2 _ (by exact h1) (by exact h3)
 simp only[Qa,seval]at key;rw[hbb]at hL2;simp only[Sd,Qw,QGK,o1s,eE,seval];cases c1:decide ((m.items.length:Int)<1)<;>cases c2:decide ((m.items.length:Int) > 64)<;>cases c3:decide ((m.free.length:Int) > 16) <;>
 ·rw[c1,c2,c3]at hL2;subst hL2;simp only[c2,c3,Qw,QGK,o1s,eE,seval];refine QI (by decide) rfl rfl rfl rfl (by omega) ?_;simp only[Qa,seval];exact key _ (by rfl) (by rfl)
end

def K4 (i:Nat):List (Nat×AV):=[(2,.ptr 0 2 0),(3,.ptr 0 3 0),(5,.ptr 0 5 0),(6,.int .i64 (i:Nat)),(7,.ptr 0 7 0)]
section
variable {M:Nat}(hM:M≤1048576)(S:SC)(hS:S.ok M)(m:SQ)(hm:m.ok M)(i:Nat)(x:SO)(hi:m.meths[i]? = some x)(fr:Nat→Ob)
 (o2:fr 2=.cells [.list (S.msgs.map fun n=>.agg n.cells),.list (S.enums.map fun n=>.agg n.cells),.list (S.servs.map fun n=>.agg n.cells)]) (o3:fr 3=.cells m.cells) (o7:fr 7=.cells x.cells)

include o7 in
theorem us8:Jp B9 fr 5 m.name (K4 i) (pb m.name (i:Int) (Q7 x.name) 8):=by
 rintro l f K hl ⟨h2,h3,h5,h6,h7,-⟩ hK;rw[Kd]at o7;rw[←QHh (Q7 x.name)]at hK;simp only[B9,Qw,h7,o7,eE,seval];refine aC (Nl x.name) ?_;simp only[h6,Qa,seval];exact QI (by decide) (by exact h5) rfl rfl rfl hl (hK _ (by simp only[Hd,K4,QGr,h2,h3,h5,h6,h7,Qa,seval]))

include o3 o7 hi hM hm in
theorem us9:Jp H6 fr 5 m.name (K4 i) (pb m.name (i:Int) (HN m.meths i x) 11):=by
 rintro l f K hl ⟨h2,h3,h5,h6,h7,-⟩ hK;rw[Kd]at o7;rw[J9]at o3;have hlt:i<m.meths.length:=(QFz.1 hi).1;have hl1:=hm.len1;cases i with
 |zero=>
  have d0:decide (((0:Nat):Int) > 0)=false:=rfl;simp only[H6,h6,Qa,seval];exact QI (by decide) (by exact h5) rfl rfl rfl hl (hK _ (by simp only[Hd,K4,QGr,h2,h3,h5,h6,h7,Qa,seval]))
 |succ j=>
  obtain⟨y,hj⟩:∃y,m.meths[j]? = some y:=⟨m.meths[j]'(by omega),QFA (by omega)⟩;have hgj:(m.meths.map fun n=>AV.agg n.cells)[j]? = some (.agg y.cells):=by rw[QGI,hj];rfl
  rw[Kd]at hgj;have wj:=ZV j _ hlt (by simp only[maxLen];omega);have d0:decide (((j+1:Nat):Int) > 0)=true:=QHa (by omega);have hb:HN m.meths (j+1) x=!(!(Op.bytesLess y.name x.name)):=by rw[QHh];simp only[HN,hj]
  rw[hb]at hK;simp only[H6,Qw,Qj,QGM,Qe,hgj,wj,Nj,h3,h6,h7,o3,o7,d0,eE,seval];exact QI (by decide) (by exact h5) rfl rfl rfl hl (hK _ (by simp only[Hd,K4,QGr,h2,h3,h5,h6,h7,Qa,seval]))

include o2 o7 hM hS in
theorem QAl:Jp Dr fr 5 m.name (K4 i) (pb m.name (i:Int) (QZ S x.inn&&QZ S x.out) 12):=by
 rintro l f K hl ⟨h2,h3,h5,h6,h7,-⟩ hK;obtain⟨l1,_,_⟩:=Zn S hS hM;rw[Kd]at o7;have hc1:=Nk S l1 x.inn;have hc2:=Nk S l1 x.out;simp only[SC.av]at hc1 hc2;simp only[Dr,Qw,h2,h7,o2,o7,eE,seval];refine aC hc1 ?_;simp only[Mf,Qa,seval];cases a1:QZ S x.inn
 ·rw[a1]at hK;simp only[QGP]at hK;simp only[h6,QGv,Qa,seval];exact QI (by decide) (by exact h5) rfl rfl rfl hl (hK _ (by simp only[Hd,K4,QGr,h2,h3,h5,h6,h7,Qa,seval]))
 ·rw[a1,QG0,←QHh (QZ S x.out)]at hK;simp only[Qw,h2,h7,o2,o7,QG1,eE,seval];refine aC hc2 ?_;simp only[Mf,h6,Qa,seval];exact QI (by decide) (by exact h5) rfl rfl rfl hl (hK _ (by simp only[Hd,K4,QGr,h2,h3,h5,h6,h7,Qa,seval]))

include o7 in
theorem QAm:Jp Ds fr 5 m.name (K4 i) (pb m.name (i:Int) (decide (x.shape≥1)&&decide (x.shape≤4)) 1):=by
 rintro l f K hl ⟨h2,h3,h5,h6,h7,-⟩ hK;rw[Kd]at o7;have hb:(decide (x.shape≥1)&&decide (x.shape≤4))=!(decide (x.shape<1)||decide (x.shape > 4)):=(by rw[QGj];simp only[QGH,QGl,QHb,QFU,QGi];omega);rw[hb]at hK;simp only[Ds,Qw,h7,o7,eE,seval];cases c1:decide (x.shape<1)<;>cases c2:decide (x.shape > 4) <;>
 ·rw[c1,c2]at hK;simp only[c2,Qw,h6,h7,o7,eE,seval];exact QI (by decide) (by exact h5) rfl rfl rfl hl (hK _ (by simp only[Hd,K4,QGr,h2,h3,h5,h6,h7,Qa,seval]))

include o7 hi hM hm in
theorem QAn:Jp Dt fr 5 m.name (K4 i) (Xu m.name (i:Int) x.notes 6):=by
 rintro l f K hl ⟨h2,h3,h5,h6,h7,-⟩ hK;have hx:=hm.meths x (QFL hi);have hln:=hx.len;rw[Kd]at o7;simp only[Dt,Qw,h6,h7,o7,eE,seval];exact J2 (by simp only[maxLen];omega) (by simp only[maxLen];omega) hx.notes (by decide) (by exact h5) rfl rfl rfl (by decide) hl (hK _ (by simp only[Hd,K4,QGr,h2,h3,h5,h6,h7,Qa,seval]))
end

section
variable {M:Nat}(hM:M≤1048576)(S:SC)(hS:S.ok M)(m:SQ)(hm:m.ok M)
include hM hS hm in
theorem PJ (l:List PB)(hl:l.length≤1000000)(f:Fr)(fr:Nat→Ob)(h2:f 2=.ptr 0 2 0)(h3:f 3=.ptr 0 3 0)(h5:f 5=.ptr 0 5 0)(h6:f 6=.int .i64 0)
  (o2:fr 2=.cells [.list (S.msgs.map fun n=>.agg n.cells),.list (S.enums.map fun n=>.agg n.cells),.list (S.servs.map fun n=>.agg n.cells)]) (o3:fr 3=.cells m.cells) (o7:fr 7=.none) (Q:Exit→St→Prop)
  (hq:∀(f:Fr) (fr:Nat→Ob),f 3=.ptr 0 3 0→f 5=.ptr 0 5 0→fr 3=.cells m.cells→Q (.exit 0) ⟨f,[Q6 fr 5 1100 m.name (l++upto m.meths (Jy S m) m.meths.length)],[]⟩) :
  QJ Tryz.prog (.loop Sr) ⟨f,[Q6 fr 5 1100 m.name l],[]⟩ Q:=by
 let I:Nat→St→Prop:=fun n st=>∃f fr i,st=⟨f,[Q6 fr 5 1100 m.name (l++upto m.meths (Jy S m) i)],[]⟩∧n=m.meths.length-i∧i≤m.meths.length∧f 2=.ptr 0 2 0∧f 3=.ptr 0 3 0∧f 5=.ptr 0 5 0∧f 6=.int .i64 (i:Nat)∧
  fr 2=.cells [.list (S.msgs.map fun n=>.agg n.cells),.list (S.enums.map fun n=>.agg n.cells),.list (S.servs.map fun n=>.agg n.cells)]∧fr 3=.cells m.cells∧(fr 7).isRow=false
 have hl1:=hm.len1;refine Qg I _ ⟨f,fr,0,by rw[upto,QGq],rfl,QFG _,h2,h3,h5,h6,o2,o3,by rw[o7];rfl⟩ ?_;clear h2 h3 h5 h6 o2 o3 o7;rintro _ st ⟨f0,fr0,i,rfl,rfl,hi,h20,h30,h50,h60,JS,JJ,r7⟩;refine QD (a:=_) [7] (by
  intro s hs;simp only[QGF,QHk,or_false]at hs;subst hs;rw[ZG _ _ _ _ _ (by decide) (by decide)];exact r7) ?_
 intro f fr hf hmm hn;have h2:f 2=.ptr 0 2 0:=by rw[hf,h20]<;>rfl
 have h3:f 3=.ptr 0 3 0:=by rw[hf,h30]<;>rfl
 have h5:f 5=.ptr 0 5 0:=by rw[hf,h50]<;>rfl
 have h6:f 6=.int .i64 (i:Nat):=by rw[hf,h60]<;>rfl
 have o2:fr 2=.cells [.list (S.msgs.map fun n=>.agg n.cells),.list (S.enums.map fun n=>.agg n.cells),.list (S.servs.map fun n=>.agg n.cells)]:=by rw[hmm 2 (by decide),ZG _ _ _ _ _ (by decide) (by decide),JS]<;>rfl
 have o3:fr 3=.cells m.cells:=by rw[hmm 3 (by decide),ZG _ _ _ _ _ (by decide) (by decide),JJ]<;>rfl
 have n7:=hn 7 (by decide);have q0:(l++upto m.meths (Jy S m) i).length≤100000000:=by
  have:=QN (l:=m.meths) (K3 S m) i;rw[QF7];omega
 have hfe:Q6 fr 5 1100 m.name (l++upto m.meths (Jy S m) i)=fr:=Ho _ _ _ _ _ (by rw[hmm 5 (by decide),Ye]<;>rfl) (by rw[hmm 1100 (by decide),Yf _ _ _ _ _ (by decide)]<;>rfl);clear hf hmm hn h20 h30 h50 h60 JS JJ r7;have o3':=o3;rw[J9]at o3';simp only[Sn,QGK,h3,h6,o3',eE,seval];by_cases hlt:i<m.meths.length
 case neg=>
  have ei:i=m.meths.length:=by omega
  subst ei;simp only[QB hlt,Qa,seval];rw[←hfe];exact hq _ _ (by exact h3) (by exact h5) o3
 obtain⟨x,hx⟩:∃x,m.meths[i]? = some x:=⟨m.meths[i],QFA hlt⟩;have hg:(m.meths.map fun n=>AV.agg n.cells)[i]? = some (.agg x.cells):=by rw[QGI,hx];rfl
 rw[Kd]at hg;have e1:=Qn i _ hlt (by simp only[maxLen];omega);simp only[Qz hlt,n7,Sp,Qj,QGM,Qe,hg,h3,h6,o3',eE,seval];rw[←hfe,Hp _ _ _ _ _ (by decide) (by decide)];generalize hF:Qx fr 7 _=F;have p2:F 2=.cells [.list (S.msgs.map fun n=>.agg n.cells),.list (S.enums.map fun n=>.agg n.cells),.list (S.servs.map fun n=>.agg n.cells)]:=by rw[←hF];exact(by exact o2)
 have p3:F 3=.cells m.cells:=by rw[←hF];exact(by exact o3)
 have p7:F 7=.cells x.cells:=by rw[←hF,Kd];exact(by rfl)
 clear hF hfe o2 o3 o3' n7;refine us8 m i x F p7 _ _ _ (by omega) (by simp only[Hd,K4,QGr,h2,h3,h5,h6,Qa,seval]) (fun f hf=>?_);clear h2 h3 h5 h6;have q1:=Qt q0 m.name (i:Int) (Q7 x.name) 8;simp only[Qa,seval];refine us9 hM m hm i x hx F p3 p7 _ f _ (by omega) hf (fun f hf=>?_);have q2:=Qt q1 m.name (i:Int) (HN m.meths i x) 11;simp only[Qa,seval];refine QAl hM S hS m i x F p2 p7 _ f _ (by omega) hf (fun f hf=>?_);have q3:=Qt q2 m.name (i:Int) (QZ S x.inn&&QZ S x.out) 12;simp only[Qa,seval];refine QAm m i x F p7 _ f _ (by omega) hf (fun f hf=>?_);have q4:=Qt q3 m.name (i:Int) (decide (x.shape≥1)&&decide (x.shape≤4)) 1;simp only[Qa,seval];refine QAn hM m hm i x hx F p7 _ f _ (by omega) hf (fun f hf=>?_);obtain⟨h2,h3,h5,h6,h7,-⟩:=hf;simp only[Sq,h6,e1,Qa,seval];exact⟨m.meths.length-(i+1),by omega,_,F,i+1,by rw[X5 hx,Mc];simp only[QFR]<;>rfl,rfl,by omega,(by exact h2),(by exact h3),(by exact h5),(by rfl),p2,p3,by rw[p7];rfl⟩

include hM hS hm in
theorem u53:Qr Tryz.prog 53 [S.av,KL m] (.list ((Je S m).map PB.av)):=by
 have hl1:=hm.len1;have hl2:=hm.len2;have hnl:=hm.name;refine k53.fn (by simp) ?_;simp only[r53,o53,Si,Sj,SC.av,KL,J9 m,eE,seval];refine Xz rfl rfl rfl rfl ?_;generalize hb:(Qx (Qx Qc 2 _) 3 _:Nat→Ob)=base;have o2:base 2=.cells [.list (S.msgs.map fun n=>.agg n.cells),.list (S.enums.map fun n=>.agg n.cells),.list (S.servs.map fun n=>.agg n.cells)]:=by rw[←hb];exact(by rfl)
 have o3:base 3=.cells m.cells:=by rw[←hb,J9];exact(by rfl)
 have o7:base 7=.none:=by rw[←hb];rfl
 clear hb;have o3s:=o3;rw[J9]at o3s;rw[H8 base 5 1100 m.name _ (by decide)];simp only[Sk,Qw,o3s,eE,seval];refine aC (PF m.name) ?_;simp only[Qa,seval];refine QI (by decide) rfl rfl rfl rfl (by simp) ?_;rw[QHh,QFT];have q1:=Q0 m.name (-1) (Xe m.name) 8;have hbb:decide (m.meths.length≤64)=!decide ((m.meths.length:Int) > 64):=(by rw[QGj];simp only[QGH,QGl,QHb];omega);have q2:=Qt q1 m.name (-1) (decide (m.meths.length≤64)) 3;simp only[Sl,Qw,QGK,o3s,eE,seval];refine QI (by decide) rfl rfl rfl rfl (by omega) ?_;rw[←hbb];simp only[Sm,Qa,seval];refine PJ hM S hS m hm _ (by omega) _ base (by rfl) (by rfl) (by rfl) (by rfl) o2 o3 o7 _ (fun f fr h3 h5 o3=>?_);have o3s:=o3;rw[J9]at o3s;have q3:=QN (l:=m.meths) (K3 S m) m.meths.length;simp only[V9,Qw,h3,o3s,eE,seval];refine J2 (by simp only[maxLen];omega) (by simp only[maxLen];omega) hm.notes (by decide) (by exact h5) rfl rfl rfl (by decide) (by simp only[QF7]at q2 ⊢;omega) ?_;generalize hL:_++Xu m.name (-1) m.notes 5=L;have hfin:Je S m=L:=by rw[←hL];rfl
 rw[hfin];simp only[Ca,Qw,h5,QGK,QGb,KM,QFW,QFx,QGr,QGw,AV.un,eE,seval]
end

theorem u48 (L:List (List UInt8))(hl:L.length≤maxLen):Qr Tryz.prog 48 [.list (L.map Qm)] (.bool (Q8 L Op.bytesLess)):=by
 let I:Nat→St→Prop:=fun k st=>∃f i,st=⟨f,[Qc],[]⟩∧k=L.length-(i+1)∧QH (Zf L Op.bytesLess) (i+1)=true∧f 0=.list (L.map Qm)∧f 3=.int .i64 ((i+1:Nat):Int)
 refine k48.fn (by simp) ?_;simp only[Qa,seval];refine Qg I _ ⟨_,0,rfl,rfl,rfl,(by rfl),(by rfl)⟩ ?_;rintro _ st ⟨f,i,rfl,rfl,hx,h0,h3⟩;simp only[QGK,h0,h3,Qa,seval];by_cases hlt:i+1<L.length
 ·obtain⟨x,hi⟩:∃x,L[i]? = some x:=⟨L[i]'(by omega),QFA (by omega)⟩;obtain⟨y,hj⟩:∃y,L[i+1]? = some y:=⟨L[i+1],QFA hlt⟩;have hg:(L.map Qm)[i]? = some (.str x):=by simp[hi,Qm]
  have hh:(L.map Qm)[i+1]? = some (.str y):=by simp[hj,Qm]
  have e1:=Qn (i+1) _ hlt hl;have e2:=ZV i _ hlt hl;simp only[Qz hlt,e2,Nj,Qj,QGM,Qe,hg,hh,h0,h3,eE,seval];have hs:QH (Zf L Op.bytesLess) (i+2)=Op.bytesLess x y:=by
   show(QH (Zf L Op.bytesLess) (i+1)&&Zf L Op.bytesLess (i+1))=_;rw[hx,Zj hi hj,QG0]
  cases hp:Op.bytesLess x y
  ·rw[hp]at hs;have hf:Q8 L Op.bytesLess=false:=by
    rw[QG5];intro h';rw[Qq.2 fun k hk=>Qq.1 h' k (by omega)]at hs;cases hs
   simp only[hf,QGv,Qa,seval]
  ·rw[hp]at hs;simp only[h3,e1,QG1,Qa,seval];exact⟨L.length-(i+2),by omega,_,i+1,rfl,rfl,hs,(by exact h0),(by rfl)⟩
 ·have hf:Q8 L Op.bytesLess=true:=Qq.2 fun k hk=>Qq.1 hx k (by omega)
  simp only[QB hlt,hf,Qa,seval]

theorem u49 (A B:List (List UInt8))(hA:A.length≤maxLen)(hB:B.length≤maxLen):Qr Tryz.prog 49 [.list (A.map Qm),.list (B.map Qm)] (.bool (A.any fun s=>B.contains s)):=by
 let I:Nat→St→Prop:=fun k st=>∃f i,st=⟨f,[Qc],[]⟩∧k=A.length-i∧i≤A.length∧(A.take i).any (fun s=>B.contains s)=false∧f 0=.list (A.map Qm)∧f 1=.list (B.map Qm)∧f 5=.int .i64 (i:Nat)
 refine k49.fn (by simp) ?_;simp only[Qa,seval];refine Qg I _ ⟨_,0,rfl,rfl,QFG _,rfl,(by rfl),(by rfl),(by rfl)⟩ ?_;rintro _ st ⟨f,i,rfl,rfl,hil,hx,h0,h1,h5⟩;simp only[QGK,h0,h5,Qa,seval];by_cases hlt:i<A.length
 ·obtain⟨x,hi⟩:∃x,A[i]? = some x:=⟨A[i],QFA hlt⟩;have hg:(A.map Qm)[i]? = some (.str x):=by simp[hi,Qm]
  have e1:=Qn i _ hlt hA;have ht:=JA (q:=fun s=>B.contains s) hi;rw[hx,QG3]at ht;simp only[Qz hlt,Qj,QGM,Qe,hg,h0,h1,h5,eE,seval];refine aC (Qmp B hB x) ?_;cases hp:B.contains x
  ·rw[hp]at ht;simp only[h5,e1,Qa,seval];exact⟨A.length-(i+1),by omega,_,i+1,rfl,rfl,by omega,ht,(by exact h0),(by exact h1),(by rfl)⟩
  ·have hr:(A.any fun s=>B.contains s)=true:=QG7.2 ⟨x,QFL hi,hp⟩;simp only[hr,Qa,seval]
 ·have hr:(A.any fun s=>B.contains s)=false:=by rw[←hx,QF4 (by omega)]
  simp only[QB hlt,hr,Qa,seval]

end Go.Proofs.YtaiflhahcglpgaaGreatDoor.Va

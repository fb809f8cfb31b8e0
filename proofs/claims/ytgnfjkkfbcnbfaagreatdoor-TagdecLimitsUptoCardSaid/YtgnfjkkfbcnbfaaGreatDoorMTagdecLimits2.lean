/- Parts of the proof, in order. -/
import Derived.Lib.IndexLaws
import Derived.Test.YtgnfjkkfbcnbfaaGreatDoorMTagdecLimits1
set_option linter.unusedSimpArgs false
namespace Go.Proofs.YtgnfjkkfbcnbfaaGreatDoor.Va
open Go Am Rc Bt Br
def Jx (x:PS):AV:=.agg x.cells
theorem Gv (e:PE):QC e=.agg [.str e.name,.bool e.opn,.list (e.items.map XC),.list (e.free.map Jx),.list (e.notes.map fun n=>Zg n.cells)]:=rfl
theorem Gw (g:PG):Qn g=.agg [.str g.name,.list (g.ops.map Qv),.int .i64 g.unions]:=rfl
theorem Gx (o:PO):Qv o=.agg [.int .i64 o.num,.str o.name,.str o.alias,.int .i64 o.card,.int .i64 o.key,.int .i64 o.kind,.int .i64 o.target,.int .i64 o.union]:=rfl
theorem Na (x:PI):XC x=.agg [.str x.name,.int .i64 x.num,.list (x.notes.map fun n=>Zg n.cells)]:=rfl
def JV (x:List UInt8):AV:=.str x
theorem Wb {α:Type}(p:α→Bool)(l:List α):decide (Zo p l 0≥0)=l.any p:=by
 rcases Y9 p l 0 with⟨h1,h2⟩|⟨k,o,h1,_,h3⟩
 ·rw[h1];have:l.any p=false:=by
   rw[QpT];intro x hx;exact fun h=>by have:=QpU.1 h2 x hx;exact this h
  rw[this];rfl
 ·rw[h1];have:l.any p=true:=QpV.2 ⟨o,QpW h3,QpX h3⟩;rw[this];exact QpY (by omega)
theorem Gy (k n:Nat)(h:k+1<n)(hn:n≤maxLen):IntKind.i64.wrap (((k+1:Nat):Int)-1)=(k:Int):=by
 rw[Qz];simp only[maxLen]at hn;omega
section
variable (L:List PG)(hl:L.length≤maxLen)(p:PG→Bool)(c:Nat)(cs:List AV)(m:Qj)
include hl in
theorem z34 (hc:∀o∈L,Qe Tryz.prog c (Qn o :: AV.shL cs) (Qb :: m) fun y m1=>y=.bool (p o)∧m1=Qb :: m) :
  Qe Tryz.prog 34 [.list (L.map Qn),.fn (.func c) [] cs] m fun y m1=>y=.int .i64 (Zo p L 0)∧m1=m:=by
 refine wG Tryz.func34 ?_;simp only[eK,Tryz.f34,seval];exact Gt hl (av:=Qn) (n:=3) (s:=(some 3)) (fun _=>⟨rfl,rfl⟩) hc
include hl in
theorem Qjl (hc:∀o∈L,Qe Tryz.prog c (Qn o :: AV.shL (AV.shL cs)) (Qb :: Qb :: m) fun y m1=>y=.bool (p o)∧m1=Qb :: Qb :: m) :
  Qe Tryz.prog 191 [.list (L.map Qn),.fn (.func c) [] cs] m fun y m1=>y=.bool (L.any p)∧m1=m:=by
 refine wG Tryz.func191 ?_;simp only[eK,Tryz.f191,seval];simp only[Qa,seval];refine Qh (z34 L hl p c (AV.shL cs) _ hc) (by simp only[Qov,QoZ,Qa,seval]<;>rfl) ?_;simp only[Wb,Qa,seval]
include hl in
theorem Nb (hc:∀o∈L,Qe Tryz.prog c (Qn o :: AV.shL (AV.shL (AV.shL cs))) (Qb :: Qb :: Qb :: m) fun y m1=>y=.bool (p o)∧m1=Qb :: Qb :: Qb :: m) :
  Qe Tryz.prog 111 [.list (L.map Qn),.fn (.func c) [] cs] m fun y m1=>y=.bool (L.any p)∧m1=m:=by
 refine wG Tryz.func111 ?_;simp only[eK,Tryz.f111,seval];simp only[Qa,seval];refine Qh (Qjl L hl p c (AV.shL cs) _ hc) (by simp only[Qov,QoZ,Qa,seval]<;>rfl) ?_;simp only[Qa,seval]
end
section
variable (L:List PO)(hl:L.length≤maxLen)(p:PO→Bool)(c:Nat)(cs:List AV)(m:Qj)
include hl in
theorem Qjm (hc:∀o∈L,Qe Tryz.prog c (Qv o :: AV.shL cs) (Qb :: m) fun y m1=>y=.bool (p o)∧m1=Qb :: m) :
  Qe Tryz.prog 212 [.list (L.map Qv),.fn (.func c) [] cs] m fun y m1=>y=.int .i64 (Zo p L 0)∧m1=m:=by
 refine wG Tryz.func212 ?_;simp only[eK,Tryz.f212,seval];exact Gt hl (av:=Qv) (n:=8) (s:=(some 8)) (fun _=>⟨rfl,rfl⟩) hc
include hl in
theorem Qjn (hc:∀o∈L,Qe Tryz.prog c (Qv o :: AV.shL (AV.shL cs)) (Qb :: Qb :: m) fun y m1=>y=.bool (p o)∧m1=Qb :: Qb :: m) :
  Qe Tryz.prog 197 [.list (L.map Qv),.fn (.func c) [] cs] m fun y m1=>y=.bool (L.any p)∧m1=m:=by
 refine wG Tryz.func197 ?_;simp only[eK,Tryz.f197,seval];simp only[Qa,seval];refine Qh (Qjm L hl p c (AV.shL cs) _ hc) (by simp only[Qov,QoZ,Qa,seval]<;>rfl) ?_;simp only[Wb,Qa,seval]
include hl in
theorem Cu (hc:∀o∈L,Qe Tryz.prog c (Qv o :: AV.shL (AV.shL (AV.shL cs))) (Qb :: Qb :: Qb :: m) fun y m1=>y=.bool (p o)∧m1=Qb :: Qb :: Qb :: m) :
  Qe Tryz.prog 117 [.list (L.map Qv),.fn (.func c) [] cs] m fun y m1=>y=.bool (L.any p)∧m1=m:=by
 refine wG Tryz.func117 ?_;simp only[eK,Tryz.f117,seval];simp only[Qa,seval];refine Qh (Qjn L hl p c (AV.shL cs) _ hc) (by simp only[Qov,QoZ,Qa,seval]<;>rfl) ?_;simp only[Qa,seval]
end
section
variable (L:List PE)(hl:L.length≤maxLen)(p:PE→Bool)(c:Nat)(cs:List AV)(m:Qj)
include hl in
theorem Qjo (hc:∀o∈L,Qe Tryz.prog c (QC o :: AV.shL cs) (Qb :: m) fun y m1=>y=.bool (p o)∧m1=Qb :: m) :
  Qe Tryz.prog 244 [.list (L.map QC),.fn (.func c) [] cs] m fun y m1=>y=.int .i64 (Zo p L 0)∧m1=m:=by
 refine wG Tryz.func244 ?_;simp only[eK,Tryz.f244,seval];exact Gt hl (av:=QC) (n:=5) (s:=(some 5)) (fun _=>⟨rfl,rfl⟩) hc
include hl in
theorem Qjp (hc:∀o∈L,Qe Tryz.prog c (QC o :: AV.shL (AV.shL cs)) (Qb :: Qb :: m) fun y m1=>y=.bool (p o)∧m1=Qb :: Qb :: m) :
  Qe Tryz.prog 192 [.list (L.map QC),.fn (.func c) [] cs] m fun y m1=>y=.bool (L.any p)∧m1=m:=by
 refine wG Tryz.func192 ?_;simp only[eK,Tryz.f192,seval];simp only[Qa,seval];refine Qh (Qjo L hl p c (AV.shL cs) _ hc) (by simp only[Qov,QoZ,Qa,seval]<;>rfl) ?_;simp only[Wb,Qa,seval]
include hl in
theorem D9 (hc:∀o∈L,Qe Tryz.prog c (QC o :: AV.shL (AV.shL (AV.shL cs))) (Qb :: Qb :: Qb :: m) fun y m1=>y=.bool (p o)∧m1=Qb :: Qb :: Qb :: m) :
  Qe Tryz.prog 113 [.list (L.map QC),.fn (.func c) [] cs] m fun y m1=>y=.bool (L.any p)∧m1=m:=by
 refine wG Tryz.func113 ?_;simp only[eK,Tryz.f113,seval];simp only[Qa,seval];refine Qh (Qjp L hl p c (AV.shL cs) _ hc) (by simp only[Qov,QoZ,Qa,seval]<;>rfl) ?_;simp only[Qa,seval]
end
section
variable (L:List PI)(hl:L.length≤maxLen)(p:PI→Bool)(c:Nat)(cs:List AV)(m:Qj)
include hl in
theorem Qjq (hc:∀o∈L,Qe Tryz.prog c (XC o :: AV.shL cs) (Qb :: m) fun y m1=>y=.bool (p o)∧m1=Qb :: m) :
  Qe Tryz.prog 248 [.list (L.map XC),.fn (.func c) [] cs] m fun y m1=>y=.int .i64 (Zo p L 0)∧m1=m:=by
 refine wG Tryz.func248 ?_;simp only[eK,Tryz.f248,seval];exact Gt hl (av:=XC) (n:=3) (s:=(some 3)) (fun _=>⟨rfl,rfl⟩) hc
include hl in
theorem Qjr (hc:∀o∈L,Qe Tryz.prog c (XC o :: AV.shL (AV.shL cs)) (Qb :: Qb :: m) fun y m1=>y=.bool (p o)∧m1=Qb :: Qb :: m) :
  Qe Tryz.prog 199 [.list (L.map XC),.fn (.func c) [] cs] m fun y m1=>y=.bool (L.any p)∧m1=m:=by
 refine wG Tryz.func199 ?_;simp only[eK,Tryz.f199,seval];simp only[Qa,seval];refine Qh (Qjq L hl p c (AV.shL cs) _ hc) (by simp only[Qov,QoZ,Qa,seval]<;>rfl) ?_;simp only[Wb,Qa,seval]
include hl in
theorem R8 (hc:∀o∈L,Qe Tryz.prog c (XC o :: AV.shL (AV.shL (AV.shL cs))) (Qb :: Qb :: Qb :: m) fun y m1=>y=.bool (p o)∧m1=Qb :: Qb :: Qb :: m) :
  Qe Tryz.prog 121 [.list (L.map XC),.fn (.func c) [] cs] m fun y m1=>y=.bool (L.any p)∧m1=m:=by
 refine wG Tryz.func121 ?_;simp only[eK,Tryz.f121,seval];simp only[Qa,seval];refine Qh (Qjr L hl p c (AV.shL cs) _ hc) (by simp only[Qov,QoZ,Qa,seval]<;>rfl) ?_;simp only[Qa,seval]
end
section
variable (L:List PS)(hl:L.length≤maxLen)(p:PS→Bool)(c:Nat)(cs:List AV)(m:Qj)
include hl in
theorem Qjs (hc:∀o∈L,Qe Tryz.prog c (Jx o :: AV.shL cs) (Qb :: m) fun y m1=>y=.bool (p o)∧m1=Qb :: m) :
  Qe Tryz.prog 284 [.list (L.map Jx),.fn (.func c) [] cs] m fun y m1=>y=.int .i64 (Zo p L 0)∧m1=m:=by
 refine wG Tryz.func284 ?_;simp only[eK,Tryz.f284,seval];exact Gt hl (av:=Jx) (n:=2) (s:=(some 2)) (fun _=>⟨rfl,rfl⟩) hc
include hl in
theorem Qjt (hc:∀o∈L,Qe Tryz.prog c (Jx o :: AV.shL (AV.shL cs)) (Qb :: Qb :: m) fun y m1=>y=.bool (p o)∧m1=Qb :: Qb :: m) :
  Qe Tryz.prog 249 [.list (L.map Jx),.fn (.func c) [] cs] m fun y m1=>y=.bool (L.any p)∧m1=m:=by
 refine wG Tryz.func249 ?_;simp only[eK,Tryz.f249,seval];simp only[Qa,seval];refine Qh (Qjs L hl p c (AV.shL cs) _ hc) (by simp only[Qov,QoZ,Qa,seval]<;>rfl) ?_;simp only[Wb,Qa,seval]
end
section
variable (L:List (List UInt8))(hl:L.length≤maxLen)(p:(List UInt8)→Bool)(c:Nat)(cs:List AV)(m:Qj)
include hl in
theorem Qju (hc:∀o∈L,Qe Tryz.prog c (JV o :: AV.shL cs) (Qb :: m) fun y m1=>y=.bool (p o)∧m1=Qb :: m) :
  Qe Tryz.prog 245 [.list (L.map JV),.fn (.func c) [] cs] m fun y m1=>y=.int .i64 (Zo p L 0)∧m1=m:=by
 refine wG Tryz.func245 ?_;simp only[eK,Tryz.f245,seval];exact Gt hl (av:=JV) (n:=1) (s:=none) (fun _=>⟨rfl,rfl⟩) hc
include hl in
theorem Qjv (hc:∀o∈L,Qe Tryz.prog c (JV o :: AV.shL (AV.shL cs)) (Qb :: Qb :: m) fun y m1=>y=.bool (p o)∧m1=Qb :: Qb :: m) :
  Qe Tryz.prog 194 [.list (L.map JV),.fn (.func c) [] cs] m fun y m1=>y=.bool (L.any p)∧m1=m:=by
 refine wG Tryz.func194 ?_;simp only[eK,Tryz.f194,seval];simp only[Qa,seval];refine Qh (Qju L hl p c (AV.shL cs) _ hc) (by simp only[Qov,QoZ,Qa,seval]<;>rfl) ?_;simp only[Wb,Qa,seval]
end
abbrev riC (n:Nat):RC:=.seq (.reg [⟨some 4,.val (.mov (.c (.bool false))),none⟩]) (.seq (.seq (.reg [⟨some 5,.val (.mov (.c (.int .i64 1))),none⟩]) (.block 0 (.loop (.seq (.seq (.reg [⟨some 6,.val (.mov (.t 5)),none⟩,⟨some 7,.val (.mov (.t 0)),none⟩,⟨some 8,.val (.len 1 (.t 7)),none⟩,⟨some 9,.val (.bin .num .lss (.t 6) (.t 8)),none⟩]) (.cond (.t 9) (.skip) (.exit 0))) (.seq (.block 1 (.seq (.draw [⟨some 12,.val (.mov (.t 1)),none⟩,⟨some 13,.val (.mov (.t 0)),none⟩,⟨some 14,.val (.mov (.t 5)),none⟩,⟨some 15,.val (.bin .num .sub (.t 14) (.c (.int .i64 1))),none⟩,⟨some 16,.val (.iaddr n none (.t 13) (.t 15)),none⟩,⟨some 17,.val (.loadr (some n) (.t 16)),none⟩,⟨some 18,.val (.mov (.t 0)),none⟩,⟨some 19,.val (.mov (.t 5)),none⟩,⟨some 20,.val (.iaddr n none (.t 18) (.t 19)),none⟩,⟨some 21,.val (.loadr (some n) (.t 20)),none⟩,⟨some 22,.callF (.t 12) [(.t 17),(.t 21)],none⟩,⟨some 23,.val (.un .not (.t 22)),none⟩]) (.cond (.t 23) (.seq (.reg [⟨some 4,.val (.mov (.c (.bool false))),none⟩]) (.ret)) (.skip)))) (.reg [⟨some 10,.val (.mov (.t 5)),none⟩,⟨some 11,.val (.bin .num .add (.t 10) (.c (.int .i64 1))),none⟩,⟨some 5,.val (.mov (.t 11)),none⟩])))))) (.seq (.reg [⟨some 4,.val (.mov (.c (.bool true))),none⟩]) (.ret)))
theorem LF {X:Type}{L:List X}(hl:L.length≤maxLen){av:X→AV}{n:Nat}(he:∀x,(av x).cells.length=n∧Am.part (av x).cells 0 (some n)=some (av x)){lt:X→X→Bool}{c:Nat}{cs:List AV}{m:Qj}(hc:∀x∈L,∀y∈L,Qe Tryz.prog c (av x :: av y :: AV.shL cs) (Qb :: m) fun r m1=>r=.bool (lt x y)∧m1=Qb :: m) :
  Q2 Tryz.prog (riC n) (St.enter [.list (L.map av),.fn (.func c) [] cs] m) (ZY [.tmp 4] m.length fun y m1=>y=.bool (JB L lt)∧m1=m):=by
 let I:Nat→St→Prop:=fun j st=>∃f i,st=⟨f,Qb :: m,[]⟩∧j=L.length-(i+1)∧Qr (Zp L lt) (i+1)=true∧Ag f [(0,.list (L.map av)),(1,.fn (.func c) [] (AV.shL cs)),(5,.int .i64 ((i+1:Nat):Int))]
 simp only[riC,Qa,seval];refine Qi I _ ⟨_,0,rfl,rfl,rfl,rfl⟩ ?_;rintro _ _ ⟨f,i,rfl,rfl,hz,hf⟩;rw[←Hb hf];simp only[XF,QoS,Qa,seval];rcases XS L (i+1)with⟨y,hy,hlt⟩|hlt
 case inr=>
  have hf:JB L lt=true:=Q5.2 fun k hk=>Q5.1 hz k (by omega)
  simp only[QH hlt,hf,Qa,seval]
 obtain⟨x,hx⟩:∃x,L[i]? = some x:=⟨L[i]'(by omega),QnX (by omega)⟩;have hg:(L.map av)[i]? = some (av x):=by rw[Qpl,hx];rfl
 have hh:(L.map av)[i+1]? = some (av y):=by rw[Qpl,hy];rfl
 have hcl:=hc x (Qob hx) y (Qob hy);have e1:=Qs (i+1) _ hlt hl;have e2:=Gy i _ hlt hl;have hs:Qr (Zp L lt) (i+2)=lt x y:=by
  show(Qr (Zp L lt) (i+1)&&Zp L lt (i+1))=_;rw[hz,Yv hx hy,QpE]
 simp only[QA hlt,e2,Qp,Qpq,Qf,hg,hh,he,eE,seval];refine FU (fa:=[]) (fb:=AV.shL cs) rfl hcl rfl ?_;cases hp:lt x y
 ·have hf:JB L lt=false:=by
   rw[QpS];intro h';rw[hp,Q5.2 fun k hk=>Q5.1 h' k (by omega)]at hs;cases hs
  simp only[hf,Qa,seval]
 ·simp only[e1,Qa,seval];exact⟨_,by omega,_,i+1,rfl,rfl,by rw[hs,hp],rfl⟩
theorem Qjw (L:List PG)(hl:L.length≤maxLen)(lt:PG→PG→Bool)(c:Nat)(cs:List AV)(m:Qj)(hc:∀x∈L,∀y∈L,Qe Tryz.prog c (Qn x :: Qn y :: AV.shL cs) (Qb :: m) fun r m1=>r=.bool (lt x y)∧m1=Qb :: m) :
  Qe Tryz.prog 123 [.list (L.map Qn),.fn (.func c) [] cs] m fun y m1=>y=.bool (JB L lt)∧m1=m:=by
 refine wG Tryz.func123 ?_;simp only[eK,Tryz.f123,seval];exact LF hl (av:=Qn) (n:=3) (fun _=>⟨rfl,rfl⟩) hc
theorem Qjx (L:List PO)(hl:L.length≤maxLen)(lt:PO→PO→Bool)(c:Nat)(cs:List AV)(m:Qj)(hc:∀x∈L,∀y∈L,Qe Tryz.prog c (Qv x :: Qv y :: AV.shL cs) (Qb :: m) fun r m1=>r=.bool (lt x y)∧m1=Qb :: m) :
  Qe Tryz.prog 128 [.list (L.map Qv),.fn (.func c) [] cs] m fun y m1=>y=.bool (JB L lt)∧m1=m:=by
 refine wG Tryz.func128 ?_;simp only[eK,Tryz.f128,seval];exact LF hl (av:=Qv) (n:=8) (fun _=>⟨rfl,rfl⟩) hc
theorem Qjy (L:List PE)(hl:L.length≤maxLen)(lt:PE→PE→Bool)(c:Nat)(cs:List AV)(m:Qj)(hc:∀x∈L,∀y∈L,Qe Tryz.prog c (QC x :: QC y :: AV.shL cs) (Qb :: m) fun r m1=>r=.bool (lt x y)∧m1=Qb :: m) :
  Qe Tryz.prog 125 [.list (L.map QC),.fn (.func c) [] cs] m fun y m1=>y=.bool (JB L lt)∧m1=m:=by
 refine wG Tryz.func125 ?_;simp only[eK,Tryz.f125,seval];exact LF hl (av:=QC) (n:=5) (fun _=>⟨rfl,rfl⟩) hc
theorem Qjz (L:List PI)(hl:L.length≤maxLen)(lt:PI→PI→Bool)(c:Nat)(cs:List AV)(m:Qj)(hc:∀x∈L,∀y∈L,Qe Tryz.prog c (XC x :: XC y :: AV.shL cs) (Qb :: m) fun r m1=>r=.bool (lt x y)∧m1=Qb :: m) :
  Qe Tryz.prog 131 [.list (L.map XC),.fn (.func c) [] cs] m fun y m1=>y=.bool (JB L lt)∧m1=m:=by
 refine wG Tryz.func131 ?_;simp only[eK,Tryz.f131,seval];exact LF hl (av:=XC) (n:=3) (fun _=>⟨rfl,rfl⟩) hc
def cl (c:Nat):Int:=if 97≤c∧c≤122 then 1 else if 65≤c∧c≤90 then 2 else if 48≤c∧c≤57 then 3 else if c=95 then 4 else 0
theorem QjA (c:Nat):Qg Tryz.prog 247 [.int .i32 (c:Nat)] (.int .i64 (cl c)):=by
 refine wF Tryz.func247 ?_;simp only[eK,Tryz.f247,seval];simp only[Qa,seval]
 repeat' (first|(refine Q3 (fun h=>?_) (fun h=>?_)<;>simp only[h,Qa,seval])|(refine XZ (fun h=>?_) (fun h=>?_)<;>simp only[h,Ql,Qa,seval])|(refine X0 (fun h=>?_) (fun h=>?_)<;>simp only[h,Ql,eE,seval]))
 all_goals((try simp only[Qn1,QpZ,Qn2,QpK,ne_eq]at *)<;>unfold cl<;>(repeat' split)<;>first|rfl|(exfalso;omega))
theorem R9 {s:List UInt8}{i:Nat}{c:UInt8}(h:s[i]? = some c):(c.toNat<128→X6 s i=(c.toNat,1))∧(128≤c.toNat→128≤(X6 s i).1):=by
 have g0:(⟨⟨s⟩⟩:ByteArray).get! (i+0)=c:=by
  show(⟨s⟩:Array UInt8)[i+0]! = c;simp[h]
 constructor
 ·intro hc;simp only[X6,Utf8.decode,g0];rw[Qn5 hc]
 ·intro hc;simp only[X6,Utf8.decode,g0];rw[Qn4 (by omega)]
  (repeat' split)<;>simp only[ge_iff_le,Qol,Qn1,Utf8.runeError]at *<;>omega
def pq (s:List UInt8)(j:Nat):Bool:=match s[j]? with
 |some c=>if j=0 then K3 c else Kk c
 |none=>true
theorem UH {s:List UInt8}{j:Nat}{c:UInt8}(h:s[j]? = some c):pq s j=if j=0 then K3 c else Kk c:=by
 unfold pq;rw[h]
theorem Cv {c:UInt8}(h:K3 c=true):Kk c=true:=by unfold Kk;rw[h];rfl
theorem Yw (s:List UInt8):Xo s=(decide (1≤s.length)&&decide (s.length≤40)&&Qr (pq s) s.length):=by
 cases s with
 |nil=>rfl
 |cons c t=>
  have h1:decide (1≤(c :: t).length)=true:=by simp
  rw[h1,QpE];show(decide ((c :: t).length≤40)&&K3 c&&t.all Kk)=_;rw[QoI];congr 1
  rw[QoR,Qol,Q5,Qoa]
  constructor
  ·rintro⟨h2,h3⟩ i hi;cases i with
   |zero=>rw[UH (c:=c) rfl,Qn5 rfl];exact h2
   |succ i=>
    have hlt:i<t.length:=by simpa using hi
    rw[UH (c:=t[i]) (by simp[QnX hlt]),Qn4 (by omega)];exact h3 _ (QoP _)
  ·intro h;refine⟨?_,fun x hx=>?_⟩
   ·have:=h 0 (by simp)
    rwa [UH (c:=c) rfl,Qn5 rfl]at this
   ·obtain⟨i,hi⟩:=Qn9.1 hx;have hlt:=(QnW.1 hi).1;have:=h (i+1) (by simpa using hlt)
    rwa [UH (c:=x) (by simpa using hi),Qn4 (by omega)]at this
theorem Qhy {s:List UInt8}{i:Nat}{c:UInt8}(h:s[i]? = some c)(r:Nat)(hr:(c.toNat<128→r=c.toNat)∧(128≤c.toNat→128≤r)) :
  (cl r==0||((i:Int)==0&&(cl r != 1&&cl r != 2)))=!pq s i:=by
 rw[UH h];obtain⟨h1,h2⟩:=hr;have hc:=c.toNat_lt;unfold cl K3 Kk K3;generalize c.toNat=x at *;by_cases hx:x<128
 ·have e:=h1 hx;subst e;by_cases hi:i=0
  ·subst hi;rw[Qn5 rfl]
   (repeat' split)<;>simp<;>omega
  ·rw[Qn4 hi];have hz:((i:Int)==0)=false:=by simp;omega
   rw[hz]
   (repeat' split)<;>simp<;>omega
 ·have:=h2 (by omega);have e:(if 97≤r∧r≤122 then(1:Int)else if 65≤r∧r≤90 then 2 else if 48≤r∧r≤57 then 3 else if r=95 then 4 else 0)=0:=by
   rw[Qn4 (by omega),Qn4 (by omega),Qn4 (by omega),Qn4 (by omega)]
  rw[e];split<;>simp<;>omega
def PaI (s:List UInt8)(k:Nat)(st:St):Prop :=
 ∃f fr i,st=⟨f,[fr],[]⟩∧k=s.length-i∧i≤s.length∧Qr (pq s) i=true∧f 0=.str s∧f 7=.ptr 0 7 0∧fr 7=.iter (.str s) i
theorem QeT (s:List UInt8):Qg Tryz.prog 198 [.str s] (.bool (Xo s)):=by
 refine wF Tryz.func198 ?_;simp only[eK,Tryz.f198,seval];simp only[Qa,seval];refine NI rfl rfl ?_;simp only[Qa,seval];refine Qi (PaI s) s.length ⟨_,_,0,rfl,rfl,Qn6 _,rfl,rfl,rfl,rfl⟩ ?_;rintro _ st ⟨f,fr,i,rfl,rfl,hi,hx,h0,h7,m7⟩;simp only[Qa,seval];refine NJ h7 m7 (fun hlt=>?_) (fun hge=>?_)
 ·obtain⟨c,hc⟩:∃c,s[i]? = some c:=⟨s[i],QnX hlt⟩;obtain⟨u1,u2⟩:=R9 hc;have hcl:=QjA (X6 s i).1;have hq:=Qhy hc (X6 s i).1 ⟨fun h=>by rw[u1 h],u2⟩;have hw:pq s i=true→(X6 s i).2=1:=by
   intro h;rw[u1];rw[UH hc]at h;have hp:Kk c=true:=by
    split at h
    ·exact Cv h
    ·exact h
   unfold Kk K3 at hp;simp at hp;omega
  generalize X6 s i=cw at hcl hq hw;obtain⟨r,w⟩:=cw;simp only[Qa,seval];refine aC hcl ?_;have hstep:Qr (pq s) (i+1)=pq s i:=by rw[Qr,hx,QpE]
  have hend:pq s i=false→Xo s=false:=by
   intro h;rw[Yw,R7 hlt h,QpG]
  simp only at hq hw;generalize cl r=k at hq;cases hp:pq s i
  ·rw[hp]at hq;have he:=hend hp;simp only[he,Qa,seval];cases a1:(k==0)
   ·cases a2:((i:Int)==0)
    ·simp[a1,a2]at hq
    ·cases a3:(k != 1)
     ·simp[a1,a2,a3]at hq
     ·cases a4:(k != 2)
      ·simp[a1,a2,a3,a4]at hq
      ·simp only[a2,a3,a4,Qa,seval]
   ·simp only[Qa,seval]
  ·rw[hp]at hq;have hw:=hw hp;subst hw;simp only[Qa,seval];cases a1:(k==0)
   ·cases a2:((i:Int)==0)
    ·simp only[a2,Qa,seval];exact⟨s.length-(i+1),by omega,_,_,i+1,rfl,rfl,by omega,by rw[hstep,hp],h0,h7,rfl⟩
    ·cases a3:(k != 1)
     ·simp only[a2,a3,Qa,seval];exact⟨s.length-(i+1),by omega,_,_,i+1,rfl,rfl,by omega,by rw[hstep,hp],h0,h7,rfl⟩
     ·cases a4:(k != 2)
      ·simp only[a2,a3,a4,Qa,seval];exact⟨s.length-(i+1),by omega,_,_,i+1,rfl,rfl,by omega,by rw[hstep,hp],h0,h7,rfl⟩
      ·simp[a1,a2,a3,a4]at hq
   ·simp[a1]at hq
 ·have hii:i=s.length:=by omega
  subst hii;have e1:decide (((s.length:Nat):Int)≥1)=decide (1≤s.length):=by rw[decide_eq_decide];omega
  have e2:decide (((s.length:Nat):Int)≤40)=decide (s.length≤40):=by rw[decide_eq_decide];omega
  have e3:Xo s=(decide (1≤s.length)&&decide (s.length≤40)):=by rw[Yw,hx,Qpb]
  simp only[h0,e1,e3,Qa,seval];cases a1:decide (1≤s.length)<;>simp only[QpE,Qpu,h0,e2,Qa,seval]
theorem QjB (s:List UInt8):Qg Tryz.prog 196 [.str s] (.bool (Z8 s)):=by
 refine wF Tryz.func196 ?_;simp only[eK,Tryz.f196,seval];simp only[QP,Qa,seval];have e:Z8 s=HF.any fun w=>s==w:=rfl
 simp only[HF,List.any_cons,List.any_nil,Qp0]at e
 repeat' (first|(refine Q3 (fun h=>?_) (fun h=>?_)<;>simp only[h,QP,Qa,seval])|(refine XZ (fun h=>?_) (fun h=>?_)<;>simp only[h,Ql,QP,eE,seval])|(refine X0 (fun h=>?_) (fun h=>?_)<;>simp only[h,Ql,QP,eE,seval]))
 all_goals(simp only[*,QpI,Qp1,Qp0]at e;simp only[e])
theorem QjC (s:List UInt8):Qg Tryz.prog 282 [.str s,.str [46]] (.int .i64 (s.count 46:Nat)):=by
 refine wF Tryz.func282 ?_;simp only[eK,Tryz.f282,seval];have b0:(((1:Nat):Int)==0)=false:=rfl;have b1:(((1:Nat):Int)==1)=true:=rfl;have b2:([(46:UInt8)])[Int.toNat 0]? = some 46:=rfl;simp only[Qoc,QoT,Qom,Qa,seval];refine Po rfl rfl ?_;simp only[FJ,Lib.countByte,Qa,seval]
 try rfl
theorem QjD (s:List UInt8):Qg Tryz.prog 307 [.str s,.int .u8 46] (.int .i64 (Lib.indexByte s 46)):=by
 refine wF Tryz.func307 ?_;simp only[eK,Tryz.f307,seval];simp only[Qa,seval];refine Po rfl rfl ?_;simp only[FJ,Qog,Qa,seval]
 try rfl
theorem QjE (s:List UInt8):Qg Tryz.prog 300 [.str s,.str [46]] (.int .i64 (Lib.indexByte s 46)):=by
 refine Qjh.fn (by simp) ?_;have b0:(((1:Nat):Int)==0)=false:=rfl;have b1:(((1:Nat):Int)==1)=true:=rfl;have b2:([(46:UInt8)])[Int.toNat 0]? = some 46:=rfl;have hk:=QjD s;simp only[EO,TS,TT,TU,TV,TW,TX,TZ,T0,T1,EO,QeN,Qoc,QoT,Qom,QP,Qa,seval];cases h:(([46]:List UInt8)==s)
 ·simp only[Qa,seval];refine aC hk ?_;simp only[Qa,seval]
 ·have hs:s=[46]:=by simpa using (Qn2.1 h).symm
  subst hs;simp only[Qa,seval]
  try rfl
theorem QjF (s:List UInt8):Qg Tryz.prog 283 [.str s,.str [46]] (.int .i64 (Lib.indexByte s 46)):=by
 refine wF Tryz.func283 ?_;simp only[eK,Tryz.f283,seval];simp only[Qa,seval];refine aC (QjE s) ?_;simp only[Qa,seval]
theorem T6 {t:List UInt8}{o:Nat}(h:Lib.indexByte t 46=(o:Int)):o<t.length∧t=t.take o++46 :: t.drop (o+1)∧∀c∈t.take o,c≠46:=by
 obtain⟨h1,h2⟩:=Lib.indexByte_some h;have hlt:=(QnW.1 h1).1;refine⟨hlt,?_,?_⟩
 ·have h3:t[o]=46:=(QnW.1 h1).2;rw[←h3,←QoG hlt,Qpf]
 ·intro c hc e;subst e;obtain⟨k,hk⟩:=Qn9.1 hc;rw[QoC]at hk;split at hk
  ·exact h2 k ‹_› hk
  ·cases hk
theorem E2 {t:List UInt8}(h:Lib.indexByte t 46 = -1):Qm t=[t]:=by
 refine UG fun c hc e=>?_
 subst e;obtain⟨k,hk⟩:=Qn9.1 hc;exact Lib.indexByte_none h k hk
theorem T7 {t:List UInt8}{o:Nat}(h:Lib.indexByte t 46=(o:Int)):Qm t=t.take o :: Qm (t.drop (o+1)):=by
 obtain⟨_,h2,h3⟩:=T6 h
 conv=>lhs;rw[h2]
 exact F7 h3
theorem QeU (t:List UInt8):Lib.indexByte t 46 = -1∨∃o:Nat,Lib.indexByte t 46=(o:Int):=by
 have:=Lib.indexByte_ge t 46;by_cases h:Lib.indexByte t 46 = -1
 ·exact .inl h
 ·obtain⟨o,ho⟩:=QpH (a:=Lib.indexByte t 46) (by omega);exact .inr ⟨o,ho⟩
def SpI (s:List UInt8)(n:Nat)(k:Nat)(st:St):Prop :=
 ∃f fr t done,st=⟨f,[fr],[]⟩∧k=(Qm t).length∧Qm s=done++Qm t∧n=done.length+(Qm t).length∧t.length≤s.length∧
  f 0=.str t∧f 1=.str [46]∧f 2=.int .i64 0∧f 3=.int .i64 ((n-1:Nat):Int)∧f 9=.vec 0 31 1 0 n false∧f 10=.int .i64 (done.length:Nat)∧fr 31=.vec 1 1 (done.map JV++List.replicate (Qm t).length (.str []))
theorem E3 (done:List (List UInt8))(x:List UInt8)(n:Nat)(h:0<n):(done.map JV++List.replicate n (AV.str [])).set done.length (.str x)=(done++[x]).map JV++List.replicate (n-1) (AV.str []):=by
 obtain⟨k,rfl⟩:∃k,n=k+1:=⟨n-1,by omega⟩;rw[List.set_append_right _ _ (by simp)];simp[JV,List.replicate_succ]
theorem QjG (s:List UInt8)(hs:s.length≤17592186044000):Qg Tryz.prog 246 [.str s,.str [46],.int .i64 0,.int .i64 (-1)] (.list ((Qm s).map JV)):=by
 have hl:=Gu s;have hc:s.count 46≤s.length:=List.count_le_length;have hm:(Qm s).length≤s.length+1:=by omega
 have b0:((-1:Int)==0)=false:=rfl;have b1:decide ((-1:Int)<0)=true:=rfl;have e1:IntKind.i64.wrap ((s.count 46:Nat)+1:Int)=((Qm s).length:Nat):=by rw[Qz];omega
 have e2:IntKind.i64.wrap ((s.length:Nat)+1:Int)=((s.length+1:Nat):Int):=by rw[Qz];omega
 have e3':(((s.length+1:Nat):Int)<((Qm s).length:Nat))=False:=eq_false (by omega);have e4:IntKind.i64.wrap (((Qm s).length:Nat)-1:Int)=(((Qm s).length-1:Nat):Int):=by rw[Qz];omega
 have hz:K7 1 [AV.str []]=.str []:=rfl;refine wF Tryz.func246 ?_;simp only[eK,Tryz.f246,seval];simp only[b0,QP,Qa,seval];have b2:(([46]:List UInt8)==[])=false:=rfl;simp only[b2,Qa,seval];refine aC (QjC s) ?_;simp only[e1,e2,e3',Qa,seval];refine G9 (n:=(Qm s).length) (k:=(Qm s).length) rfl rfl (QnV _) (by omega) (by omega) rfl ?_;simp only[e4,hz,Qa,seval];refine Qi (SpI s (Qm s).length) _ ⟨_,_,s,[],rfl,rfl,rfl,by simp,QnV _,rfl,rfl,rfl,rfl,rfl,rfl,rfl⟩ ?_;rintro _ st ⟨f,fr,t,done,rfl,rfl,hp,hn,ht,h0,h1,h2,h3,h9,h10,m31⟩;simp only[h3,h10,Qa,seval];have hpos:0<(Qm t).length:=Qpj.2 (Ye t);have ia:Qf [fr] 1 none (.vec 0 31 1 0 (Qm s).length false) ((done.length:Nat):Int)=some (.vptr 0 31 1 done.length 0):=by
  have e:Am.Qd [fr] 0 31=.vec 1 1 (done.map JV++List.replicate (Qm t).length (.str [])):=m31;simp only[Qf,e,Qp,if_true,Qpq];simp;omega
 have ist:∀x:List UInt8,Xn [fr] (.vptr 0 31 1 done.length 0) [.str x]=some [QI fr 31 (.vec 1 1 ((done++[x]).map JV++List.replicate ((Qm t).length-1) (.str [])))]:=by
  intro x;have e:Am.Qd [fr] 0 31=.vec 1 1 (done.map JV++List.replicate (Qm t).length (.str [])):=m31;have hy:(done.map JV++List.replicate (Qm t).length (.str []))[done.length]? = some (.str []):=by
   rw[Qpp (by simp)];simp[hpos]
  have hx:JI (.str []) 0 [.str x]=.str x:=rfl;simp only[Xn,e,hy,if_true,←E3 done x _ hpos];simp[AV.cells,AV.rfL,AV.rf,Am.put,hx]
 have ew:IntKind.i64.wrap ((done.length:Nat)+1:Int)=((done.length+1:Nat):Int):=by rw[Qz];omega
 rcases QeU t with hd|⟨o,ho⟩
 ·have hp1:=E2 hd;have hl1:(Qm t).length=1:=by rw[hp1];rfl
  have d1:decide (((done.length:Nat):Int)<(((Qm s).length-1:Nat):Int))=false:=QpQ (by omega);have hi:=ist t;have hrow:(done++[t]).map JV++List.replicate ((Qm t).length-1) (AV.str [])=(Qm s).map JV:=by
   rw[hl1,hp,hp1];simp
  have hlen:done.length+1=(Qm s).length:=by omega
  rw[hrow]at hi;rw[hlen]at ew;have hle:((Qm s).length≤(Qm s).length)=True:=eq_true (QnV _);have ht:(((Qm s).map JV).drop 0).take (Qm s).length=(Qm s).map JV:=by rw[QoF];exact Qox (by simp)
  simp only[d1,ia,hi,h0,h9,h10,ew,eE,seval];simp only[Qp,if_true,Qpq,Qn6,hle,QoO,and_true,QoW,QoN,Qp0,XO,Qo8,ZE,QpR];have el:Am.Qd [QI fr 31 (Ob.vec 1 1 ((Qm s).map JV))] 0 31=.vec 1 1 ((Qm s).map JV):=Q4 _ _ _;simp only[AV.still,el,QpE,bne_self_eq_false,Qog,if_false,Qom,QoS,hle,and_self,if_true,ht,Option.bind_some,AV.un,QpR,Qo8]
 ·have hp1:=T7 ho;obtain⟨ho1,ho2,ho3⟩:=T6 ho;have hl1:(Qm t).length=(Qm (t.drop (o+1))).length+1:=by rw[hp1];simp
  have hpos2:0<(Qm (t.drop (o+1))).length:=Qpj.2 (Ye _);have d1:decide (((done.length:Nat):Int)<(((Qm s).length-1:Nat):Int))=true:=QpY (by omega);have d2:decide ((o:Int)<0)=false:=QpQ (by omega);have w1:IntKind.i64.wrap ((o:Int)+0)=(o:Int):=by rw[Qz];omega
  have w2:IntKind.i64.wrap ((o:Int)+1)=((o+1:Nat):Int):=by rw[Qz];omega
  have hi:=ist (t.take o);simp only[d1,h0,h1,Qa,seval];refine aC (QjF t) ?_;have hle1:(0≤o∧o≤t.length)=True:=eq_true ⟨Qn6 _,by omega⟩;have hle2:(o+1≤t.length∧t.length≤t.length)=True:=eq_true ⟨by omega,QnV _⟩;have ht2:(t.drop (o+1)).take (t.length-(o+1))=t.drop (o+1):=Qox (by simp);simp only[ho,d2,w1,w2,Qp,Qpq,hle1,hle2,ht2,QoW,h0,h1,h2,h9,h10,eE,seval];simp only[ia,hi,ew,Qa,seval];have hlen:(done++[t.take o]).length=done.length+1:=by simp
  have hk:(Qm t).length-1=(Qm (t.drop (o+1))).length:=by omega
  exact⟨(Qm (t.drop (o+1))).length,by omega,_,_,t.drop (o+1),done++[t.take o],rfl,rfl,by rw[hp,hp1];simp,by rw[hlen];omega,by simp;omega,rfl,h1,h2,h3,h9,by rw[hlen]<;>first|rfl|simp only[eE,seval],by rw[←hk]<;>exact Q4 _ _ _⟩
def Cw (c:UInt8):Bool:=decide (97≤c.toNat)&&decide (c.toNat≤122)
def Cx (c:UInt8):Bool:=decide (65≤c.toNat)&&decide (c.toNat≤90)
theorem QeV (c:UInt8):Qg Tryz.prog 187 [.int .u8 (c.toNat:Nat)] (.bool (Cw c)):=by
 refine wF Tryz.func187 ?_;simp only[eK,Tryz.f187,seval];have e1:decide ((c.toNat:Int)≥97)=decide (97≤c.toNat):=by rw[decide_eq_decide];omega
 have e2:decide ((c.toNat:Int)≤122)=decide (c.toNat≤122):=by rw[decide_eq_decide];omega
 simp only[e1,Cw,Qa,seval];cases h:decide (97≤c.toNat)<;>simp only[e2,QpE,Qpu,Qa,seval]
theorem QeW (c:UInt8):Qg Tryz.prog 188 [.int .u8 (c.toNat:Nat)] (.bool (Cx c)):=by
 refine wF Tryz.func188 ?_;simp only[eK,Tryz.f188,seval];have e1:decide ((c.toNat:Int)≥65)=decide (65≤c.toNat):=by rw[decide_eq_decide];omega
 have e2:decide ((c.toNat:Int)≤90)=decide (c.toNat≤90):=by rw[decide_eq_decide];omega
 simp only[e1,Cx,Qa,seval];cases h:decide (65≤c.toNat)<;>simp only[e2,QpE,Qpu,Qa,seval]
theorem E4 (c:UInt8):Kk c=(Cw c||Cx c || !((c.toNat:Int) != 95) || !(decide ((c.toNat:Int)<48)||decide ((c.toNat:Int) > 57))):=by
 unfold Kk K3 Cw Cx;generalize c.toNat=x;rw[QoR];simp only[Qn0,Qol,Qn1,Qn2,QoV,bne_eq_false_iff_eq,QoQ,QpZ];omega
def PrI (s:List UInt8)(k:Nat)(st:St):Prop :=
 ∃f i,st=⟨f,[Qb],[]⟩∧k=s.length-i∧1≤i∧Qr (pq s) i=true∧f 0=.str s∧f 3=.int .i64 (i:Nat)
theorem E5 (s:List UInt8):Qg Tryz.prog 105 [.str s] (.bool (Xo s)):=by
 refine Qjb.fn (by simp) ?_;simp only[Qa,seval];by_cases hl:s.length=0
 ·have d0:((s.length:Int)==0)=true:=by rw[hl];rfl
  have e:Xo s=false:=by rw[Yw,hl];rfl
  simp only[d0,e,Qa,seval]
 have d0:((s.length:Int)==0)=false:=by rw[QpK];omega
 by_cases hm:s.length≤40
 case neg=>
  have d1:decide ((s.length:Int) > 40)=true:=QpY (by omega);have e:Xo s=false:=by rw[Yw,QpQ hm,QpG,Qpu]
  simp only[d0,d1,e,Qa,seval]
 have d1:decide ((s.length:Int) > 40)=false:=QpQ (by omega);have hp:Xo s=Qr (pq s) s.length:=by rw[Yw,QpY hm,QpY (by omega:1≤s.length)];rfl
 obtain⟨c,hc⟩:∃c,s[0]? = some c:=⟨s[0]'(by omega),QnX (by omega)⟩;have hq0:Qr (pq s) 1=(Cw c||Cx c):=by
  show(true&&pq s 0)=_;rw[UH hc,Qn5 rfl];rfl
 have h1:=QeV c;have h2:=QeW c;have hn:Qr (pq s) 1=false→Xo s=false:=fun h=>by
  rw[hp,QpS];intro h';rw[Q5.2 fun k hk=>Q5.1 h' k (by omega)]at h;cases h
 have z1:Int.toNat 0=0:=rfl;have go:Qr (pq s) 1=true→∀(f:Fr),f 0=.str s→f 3=.int .i64 1→∀Q:Exit→St→Prop,(∀f,Qr (pq s) s.length=true→Q (.exit 0) ⟨f,[Qb],[]⟩)→(∀f,f 2=.bool false→Qr (pq s) s.length=false→Q .ret ⟨f,[Qb],[]⟩)→Q2 Tryz.prog (.loop TD) ⟨f,[Qb],[]⟩ Q:=by
  intro hq1 f h0 h3 Q hx hr;refine Qi (PrI s) _ ⟨_,1,rfl,rfl,QnV _,hq1,h0,h3⟩ ?_;clear h0 h3 hc hq0 h1 h2 hn;rintro _ st ⟨f,i,rfl,rfl,h1i,hx1,h0,h3⟩;simp only[h0,h3,Qa,seval];by_cases hlt:i<s.length
  ·obtain⟨c,hc⟩:∃c,s[i]? = some c:=⟨s[i],QnX hlt⟩;have e1:=Qs i _ hlt (by simp only[maxLen];omega);have hs1:=QeV c;have hs2:=QeW c;have hstep:Qr (pq s) (i+1)=Kk c:=by
    rw[Qr,hx1,QpE,UH hc,Qn4 (by omega)]
   have hend:Kk c=false→Qr (pq s) s.length=false:=fun h=>by
    rw[QpS];intro h';rw[Q5.2 fun k hk=>Q5.1 h' k (by omega)]at hstep;rw[h]at hstep;cases hstep
   have fin:∀f':Fr,Kk c=true→f' 0=.str s→f' 3=.int .i64 ((i+1:Nat):Int)→∃k,k<s.length-i∧PrI s k ⟨f',[Qb],[]⟩:=by
    intro f' hp h0 h3;exact⟨s.length-(i+1),by omega,f',i+1,rfl,rfl,by omega,by rw[hstep,hp],h0,h3⟩
   have hpc:=E4 c;simp only[QA hlt,Qp,Qpq,hc,h0,h3,Qa,seval];refine aC hs1 ?_;cases a1:Cw c
   ·simp only[Qp,Qpq,hc,h0,h3,Qo5,Qa,seval];refine aC hs2 ?_;cases a2:Cx c
    ·cases a3:((c.toNat:Int) != 95)
     ·rw[a1,a2,a3]at hpc;simp only[a3,Qp,Qpq,hc,h0,h3,e1,Qo5,Qa,seval];exact fin _ (by rw[hpc];rfl) h0 rfl
     ·cases a4:decide ((c.toNat:Int)<48)
      ·cases a5:decide ((c.toNat:Int) > 57)
       ·rw[a1,a2,a3,a4,a5]at hpc;simp only[a3,a4,a5,Qp,Qpq,hc,h0,h3,e1,Qo5,Qa,seval];exact fin _ (by rw[hpc];rfl) h0 rfl
       ·rw[a1,a2,a3,a4,a5]at hpc;simp only[a3,a4,a5,Qp,Qpq,hc,h0,h3,Qo5,Qa,seval];exact hr _ rfl (hend (by rw[hpc];rfl))
      ·rw[a1,a2,a3,a4]at hpc;simp only[a3,a4,Qp,Qpq,hc,h0,h3,Qo5,Qa,seval];exact hr _ rfl (hend (by rw[hpc];rfl))
    ·rw[a1,a2]at hpc;simp only[h3,e1,QpF,Qa,seval];exact fin _ (by rw[hpc];rfl) h0 rfl
   ·rw[a1]at hpc;simp only[h3,e1,QpF,Qa,seval];exact fin _ (by rw[hpc];rfl) h0 rfl
  ·simp only[QH hlt,Qa,seval];exact hx _ (Q5.2 fun k hk=>Q5.1 hx1 k (by omega))
 simp only[d0,d1,z1,hc,Qa,seval];refine aC h1 ?_;cases a1:Cw c
 ·simp only[z1,hc,Qo5,Qa,seval];refine aC h2 ?_;cases a2:Cx c
  ·rw[a1,a2]at hq0;simp only[hn hq0,Qo5,Qa,seval]
  ·rw[a1,a2]at hq0;simp only[QpF,Qa,seval];refine go hq0 _ rfl rfl _ (fun f h=>?_) (fun f h2 h=>?_)
   ·simp only[hp,h,Qa,seval]
   ·simp only[hp,h,h2,Qa,seval]
 ·rw[a1,QpI]at hq0;simp only[QpF,Qa,seval];refine go hq0 _ rfl rfl _ (fun f h=>?_) (fun f h2 h=>?_)
  ·simp only[hp,h,Qa,seval]
  ·simp only[hp,h,h2,Qa,seval]
theorem QeX (s:List UInt8):Qg Tryz.prog 104 [.str s] (.bool (Z8 s)):=by
 refine wF Tryz.func104 ?_;simp only[eK,Tryz.f104,seval];simp only[QP,Qa,seval];have e:Z8 s=HF.any fun w=>s==w:=rfl
 simp only[HF,List.any_cons,List.any_nil,Qp0]at e
 repeat' (first|(refine Q3 (fun h=>?_) (fun h=>?_)<;>simp only[h,QP,Qa,seval])|(refine XZ (fun h=>?_) (fun h=>?_)<;>simp only[h,Ql,QP,eE,seval])|(refine X0 (fun h=>?_) (fun h=>?_)<;>simp only[h,Ql,QP,eE,seval]))
 all_goals(simp only[*,QpI,Qp1,Qp0]at e;simp only[e])
theorem z53 (s:List UInt8):Qg Tryz.prog 53 [.str s] (.bool (WI s)):=by
 refine wF Tryz.func53 ?_;simp only[eK,Tryz.f53,seval];simp only[WI,Qa,seval];refine aC (E5 s) ?_;cases Xo s
 ·simp only[Qpu,Qa,seval]
 ·simp only[QpE,Qa,seval];refine aC (QeX s) ?_;simp only[Qa,seval]
def FuI (s:List UInt8)(k:Nat)(st:St):Prop :=
 ∃f i p,st=⟨f,[Qb],[]⟩∧k=s.length-i∧i≤s.length∧p.length≤i∧(∀c∈p,c≠(46:UInt8))∧(Qm s).all Xo=(Qm (p++s.drop i)).all Xo∧f 0=.str s∧f 3=.str p∧f 4=.int .i64 (i:Nat)
theorem QjH (s:List UInt8):Qg Tryz.prog 102 [.str s] (.bool (decide (s.length≤120)&&(Qm s).all Xo)):=by
 refine wF Tryz.func102 ?_;simp only[eK,Tryz.f102,seval];simp only[Qa,seval];by_cases hm:s.length≤120
 case neg=>
  have d1:decide ((s.length:Int) > 120)=true:=QpY (by omega);simp only[d1,QpQ hm,Qpu,Qa,seval]
 have d1:decide ((s.length:Int) > 120)=false:=QpQ (by omega);simp only[d1,QpY hm,QpE,Qa,seval];refine Qi (FuI s) _ ⟨_,0,[],rfl,rfl,Qn6 _,QnV _,by simp,rfl,rfl,rfl,rfl⟩ ?_;rintro _ st ⟨f,i,p,rfl,rfl,hi,hpl,hpd,hx,h0,h3,h4⟩;simp only[h0,h4,Qa,seval];by_cases hlt:i<s.length
 ·obtain⟨c,hc⟩:∃c,s[i]? = some c:=⟨s[i],QnX hlt⟩;have e1:=Qs i _ hlt (by simp only[maxLen];omega);have hd:s.drop i=c :: s.drop (i+1):=by
   rw[QoG hlt];congr 1
   exact(QnW.1 hc).2
  have hts:(s.drop i).take (i+1-i)=[c]:=by
   rw[hd,show i+1-i=1 by omega];rfl
  simp only[QA hlt,Qp,Qpq,hc,h0,h4,Qa,seval];by_cases hdot:c=46
  ·subst hdot;have b0:((((46:UInt8).toNat:Nat):Int) != 46)=false:=rfl;have hs:(Qm s).all Xo=(Xo p&&(Qm (s.drop (i+1))).all Xo):=by
    rw[hx,hd,F7 hpd];rfl
   simp only[h3,Qa,seval];refine aC (E5 p) ?_;cases hp:Xo p
   ·rw[hp,Qpu]at hs;simp only[hs,Qo5,Qa,seval]
   ·rw[hp,QpE]at hs;simp only[h4,e1,QpF,Qa,seval];exact⟨s.length-(i+1),by omega,_,i+1,[],rfl,rfl,by omega,Qn6 _,by simp,by rw[hs];rfl,h0,rfl,rfl⟩
  ·have b0:(((c.toNat:Nat):Int) != 46)=true:=by
    rw[Qoq];intro h
    apply hdot
    rw[←UInt8.toNat_inj];have:c.toNat=46:=by omega
    rw[this];rfl
   have hle:(i≤i+1∧i+1≤s.length)=True:=eq_true ⟨by omega,by omega⟩;have hsum:(p.length≤9223372036854775806)=True:=eq_true (by omega);simp only[b0,h0,h3,h4,e1,Jl,Z7,Xm,Qp,Qpq,hle,hts,QP,hsum,Qa,seval];exact⟨s.length-(i+1),by omega,_,i+1,p++[c],rfl,rfl,by omega,by simp;omega,fun x hx=>by
    rcases Qph.1 hx with h|h
    ·exact hpd x h
    ·simp at h;subst h;exact hdot,by rw[hx,hd];simp,h0,rfl,rfl⟩
 ·have hx':(Qm s).all Xo=Xo p:=by
   rw[hx,QoA (by omega),Qo1,UG hpd];simp
  simp only[QH hlt,h3,hx',Qa,seval];refine aC (E5 p) ?_;simp only[Qa,seval]
def UZ (s:List UInt8):Nat→Option Nat
 |0=>none
 |j+1=>if s[j]? = some 46 then some j else UZ s j
theorem Gz (s:List UInt8):∀n,match UZ s n with
  |none=>∀k,k<n→s[k]?≠some 46
  |some j=>j<n∧s[j]? = some 46∧∀k,j<k→k<n→s[k]?≠some 46
 |0=>by simp[UZ]
 |n+1=>by
  unfold UZ;split
  ·rename_i h;split at h
   ·cases h
   ·rename_i h';have:=Gz s n;rw[h]at this;intro k hk;rcases Nat.lt_succ_iff_lt_or_eq.1 hk with h1|rfl
    ·exact this k h1
    ·exact h'
  ·rename_i j h;split at h
   ·rename_i h';cases h;exact⟨by omega,h',fun k h1 h2=>by omega⟩
   ·rename_i h';have:=Gz s n;rw[h]at this;exact⟨by omega,this.2.1,fun k h1 h2=>by
     rcases Nat.lt_succ_iff_lt_or_eq.1 h2 with h3|rfl
     ·exact this.2.2 k h1 h3
     ·exact h'⟩
def JW (s:List UInt8):List UInt8×List UInt8:=match UZ s s.length with
 |none=>([],s)
 |some j=>(s.take j,s.drop (j+1))
theorem Cy (s:List UInt8):((JW s).1=[]∧(JW s).2=s∧∀c∈s,c≠46)∨(s=(JW s).1++46 :: (JW s).2∧∀c∈(JW s).2,c≠46):=by
 have h:=Gz s s.length;unfold JW;cases hl:UZ s s.length with
 |none=>
  rw[hl]at h;refine .inl ⟨rfl,rfl,fun c hc e=>?_⟩;subst e;obtain⟨k,hk⟩:=Qn9.1 hc;exact h k (QnW.1 hk).1 hk
 |some j=>
  rw[hl]at h;obtain⟨h1,h2,h3⟩:=h;refine .inr ⟨?_,fun c hc e=>?_⟩
  ·have:s[j]=46:=(QnW.1 h2).2;show s=s.take j++46 :: s.drop (j+1);rw[←this,←QoG h1,Qpf]
  ·subst e;obtain⟨k,hk⟩:=Qn9.1 hc;rw[QoD]at hk;exact h3 (j+1+k) (by omega) (QnW.1 hk).1 hk
def SdI (s:List UInt8)(k:Nat)(st:St):Prop :=
 ∃f,st=⟨f,[Qb],[]⟩∧k≤s.length∧UZ s s.length=UZ s k∧f 0=.str s∧f 4=.int .i64 ((k:Int)-1)
theorem QjI (s:List UInt8)(hs:s.length≤120):Qg Tryz.prog 103 [.str s] (.tup [.str (JW s).1,.str (JW s).2]):=by
 refine wF Tryz.func103 ?_;simp only[eK,Tryz.f103,seval];have w0:IntKind.i64.wrap ((s.length:Int)-1)=(s.length:Int)-1:=by rw[Qz];omega
 simp only[w0,Qa,seval];refine Qi (SdI s) _ ⟨_,rfl,QnV _,rfl,rfl,rfl⟩ ?_;rintro k st ⟨f,rfl,hk,hx,h0,h4⟩;simp only[h4,Qa,seval];cases k with
 |zero=>
  have d0:decide (((0:Nat):Int)-1≥0)=false:=rfl;have e:JW s=([],s):=by unfold JW;rw[hx];rfl
  simp only[e,h0,Qa,seval]
 |succ j=>
  have j1:((j+1:Nat):Int)-1=(j:Int):=by omega
  have d0:decide (((j:Nat):Int)≥0)=true:=QpY (by omega);have w1:IntKind.i64.wrap ((j:Int)-1)=(j:Int)-1:=by rw[Qz];omega
  have w2:IntKind.i64.wrap ((j:Int)+1)=((j+1:Nat):Int):=by rw[Qz];omega
  obtain⟨c,hc⟩:∃c,s[j]? = some c:=⟨s[j]'(by omega),QnX (by omega)⟩;simp only[j1,Qp,Qpq,hc,h0,h4,Qa,seval];by_cases hdot:c=46
  ·subst hdot;have b0:((((46:UInt8).toNat:Nat):Int)==46)=true:=rfl;have e:JW s=(s.take j,s.drop (j+1)):=by
    unfold JW;rw[hx];show(match (if s[j]? = some 46 then some j else UZ s j)with|none=>([],s)|some j=>(s.take j,s.drop (j+1)))=_;rw[Qn5 hc]
   have hle:(0≤j∧j≤s.length)=True:=eq_true ⟨by omega,by omega⟩;have hle2:(j+1≤s.length∧s.length≤s.length)=True:=eq_true ⟨by omega,QnV _⟩;have ht:((s.drop 0).take j)=s.take j:=by simp
   have ht2:((s.drop (j+1)).take (s.length-(j+1)))=s.drop (j+1):=Qox (by simp);simp only[w2,j1,e,Jl,Z7,Xm,QoW,Qp,Qpq,hle,hle2,ht2,h0,h4,Qa,seval]
  ·have b0:(((c.toNat:Nat):Int)==46)=false:=by
    rw[QpK];intro h
    apply hdot
    rw[←UInt8.toNat_inj];have:c.toNat=46:=by omega
    rw[this];rfl
   have hne:¬s[j]? = some 46:=fun h=>by rw[hc]at h;cases h;exact hdot rfl
   simp only[b0,j1,w1,h4,Qa,seval];exact⟨j,by omega,_,rfl,by omega,by rw[hx];show(if s[j]? = some 46 then some j else UZ s j)=_;rw[Qn4 hne],h0,rfl⟩
def T8 (u:List UInt8):Bool:=if u=[]then false else(Qm u).any Z8
def DfI (s:List UInt8)(k:Nat)(st:St):Prop :=
 ∃f u,st=⟨f,[Qb],[]⟩∧k=u.length∧u.length≤120∧(u≠[]→(Qm u).all Xo=true)∧(Qm s).any Z8=T8 u∧f 0=.str u
theorem z52 (s:List UInt8):Qg Tryz.prog 52 [.str s] (.bool (WJ s)):=by
 refine wF Tryz.func52 ?_;simp only[eK,Tryz.f52,seval];simp only[WJ,Qa,seval];refine aC (QjH s) ?_;cases hf:(decide (s.length≤120)&&(Qm s).all Xo)
 ·simp only[Qpu,Qo5,Qa,seval]
 simp only[QpE,QpF,Qa,seval];obtain⟨hl,ha⟩:=QnY.1 hf;have hl:=of_decide_eq_true hl;have hne:s≠[]:=by
  rintro rfl;cases ha
 refine Qi (DfI s) _ ⟨_,s,rfl,rfl,hl,fun _=>ha,by unfold T8;rw[Qn4 hne],rfl⟩ ?_;rintro _ st ⟨f,u,rfl,rfl,hul,hua,hx,h0⟩;simp only[h0,QP,Qa,seval];by_cases hu:u=[]
 ·subst hu;have b0:(!(([]:List UInt8)==[]))=false:=rfl;have e:(Qm s).any Z8=false:=hx;simp only[b0,e,Qo5,Qa,seval]
 ·have b0:(!(u==[]))=true:=by simp[hu]
  simp only[b0,h0,Qa,seval];refine aC (QjI u hul) ?_;simp only[Qa,seval];refine aC (QeX (JW u).2) ?_;have hw:T8 u=(T8 (JW u).1||Z8 (JW u).2):=by
   unfold T8;rw[Qn4 hu];rcases Cy u with⟨h1,h2,h3⟩|⟨h1,h2⟩
   ·rw[h1,h2,Qn5 rfl,UG h3];simp
   ·have hp:Qm u=Qm (JW u).1++[(JW u).2]:=by
     conv=>lhs;rw[h1]
     exact F8 h2
    have ha':=hua hu;rw[hp,Qpg,Qol]at ha';have hn:(JW u).1≠[]:=by
     intro h;rw[h]at ha';cases ha'.1
    rw[Qn4 hn,hp];simp
  cases hq:Z8 (JW u).2
  ·rw[hq,Qp0]at hw;simp only[Qa,seval];have hlen:(JW u).1.length<u.length∧((JW u).1≠[]→(Qm (JW u).1).all Xo=true):=by
    rcases Cy u with⟨h1,h2,h3⟩|⟨h1,h2⟩
    ·rw[h1];exact⟨Qpj.2 hu,fun h=>absurd rfl h⟩
    ·have hp:Qm u=Qm (JW u).1++[(JW u).2]:=by
      conv=>lhs;rw[h1]
      exact F8 h2
     have ha':=hua hu;rw[hp,Qpg,Qol]at ha';refine⟨?_,fun _=>ha'.1⟩;have:=congrArg List.length h1;simp at this;omega
   exact⟨(JW u).1.length,hlen.1,_,(JW u).1,rfl,rfl,by omega,hlen.2,by rw[hx,hw],rfl⟩
  ·rw[hq,Qp1]at hw;have e:(Qm s).any Z8=true:=hx.trans hw;simp only[e,QpF,Qa,seval]
theorem X8 {α:Type}{l:List α}{q:α→Bool}:(l.any fun x=>!q x)=!l.all q:=by
 induction l with
 |nil=>rfl
 |cons x l ih=>simp[ih]
theorem QeY (s:List UInt8)(hs:s.length≤17592186044000):Qg Tryz.prog 195 [.str s,.str [46]] (.list ((Qm s).map JV)):=by
 refine wF Tryz.func195 ?_;simp only[eK,Tryz.f195,seval];simp only[Qa,seval];refine aC (QjG s hs) ?_;simp only[Qa,seval]
def IfI (s:List UInt8)(k:Nat)(st:St):Prop :=
 ∃f i,st=⟨f,[Qb],[]⟩∧k=(Qm s).length-i∧((Qm s).take i).all Xo=true∧f 0=.str s∧f 6=.list ((Qm s).map JV)∧f 7=.int .i64 ((Qm s).length:Nat)∧f 8=.int .i64 (i:Nat)
theorem QjJ (s:List UInt8)(hs:s.length≤17592186044000):Qg Tryz.prog 193 [.str s] (.bool (decide (s.length≤120)&&(Qm s).all Xo)):=by
 have hl:=Gu s;have hc:s.count 46≤s.length:=List.count_le_length;refine wF Tryz.func193 ?_;simp only[eK,Tryz.f193,seval];simp only[Qa,seval];refine aC (QeY s hs) ?_;simp only[QoS,Qa,seval];refine Qi (IfI s) _ ⟨_,0,rfl,rfl,rfl,rfl,rfl,rfl,rfl⟩ ?_;rintro _ st ⟨f,i,rfl,rfl,hx,h0,h6,h7,h8⟩;simp only[h7,h8,Qa,seval];by_cases hlt:i<(Qm s).length
 ·obtain⟨x,hi⟩:∃x,(Qm s)[i]? = some x:=⟨(Qm s)[i],QnX hlt⟩;have hg:((Qm s).map JV)[i]? = some (.str x):=by simp[hi,JV]
  have e1:=Qs i _ hlt (by simp only[maxLen];omega);have ht:=HE (q:=Xo) hi;rw[hx,QpE]at ht;simp only[QA hlt,Qp,Qpq,Qf,hg,h6,h8,eE,seval];refine aC (QeT x) ?_;cases hp:Xo x
  ·have hf:(Qm s).all Xo=false:=by
    rw[QpS];intro h';rw[Qoa.1 h' x (Qob hi)]at hp;cases hp
   simp only[hf,Qo5,QpG,Qa,seval]
  ·rw[hp]at ht;simp only[h8,e1,QpF,Qa,seval];exact⟨(Qm s).length-(i+1),by omega,_,i+1,rfl,rfl,ht,h0,h6,h7,rfl⟩
 ·rw[Qox (by omega)]at hx;have e:decide ((s.length:Int)≤120)=decide (s.length≤120):=by rw[decide_eq_decide];omega
  simp only[QH hlt,h0,hx,e,Qpb,Qa,seval]
theorem Qhz (s:List UInt8)(m:Qj):Qe Tryz.prog 196 [JV s] m fun y m1=>y=.bool (Z8 s)∧m1=m:=by
 refine wG Tryz.func196 ?_;simp only[eK,Tryz.f196,seval];simp only[JV,QP,Qa,seval];have e:Z8 s=HF.any fun w=>s==w:=rfl
 simp only[HF,List.any_cons,List.any_nil,Qp0]at e
 repeat' (first|(refine Q3 (fun h=>?_) (fun h=>?_)<;>simp only[h,QP,Qa,seval])|(refine XZ (fun h=>?_) (fun h=>?_)<;>simp only[h,Ql,QP,eE,seval])|(refine X0 (fun h=>?_) (fun h=>?_)<;>simp only[h,Ql,QP,eE,seval]))
 all_goals(simp only[*,QpI,Qp1,Qp0]at e;simp only[e])
theorem QeZ (s:List UInt8):Qg Tryz.prog 119 [.str s] (.bool (WI s)):=by
 refine wF Tryz.func119 ?_;simp only[eK,Tryz.f119,seval];simp only[WI,Qa,seval];refine aC (QeT s) ?_;cases Xo s
 ·simp only[Qpu,Qa,seval]
 ·simp only[QpE,Qa,seval];refine aC (QjB s) ?_;simp only[Qa,seval]
theorem Qe0 (s:List UInt8)(hs:s.length≤17592186044000):Qg Tryz.prog 116 [.str s] (.bool (WJ s)):=by
 have hl:=Gu s;have hc:s.count 46≤s.length:=List.count_le_length;refine wF Tryz.func116 ?_;simp only[eK,Tryz.f116,seval];simp only[WJ,Qa,seval];refine aC (QjJ s hs) ?_;cases hf:(decide (s.length≤120)&&(Qm s).all Xo)
 ·simp only[Qpu,Qa,seval]
 ·simp only[QpE,Qa,seval];refine aC (QeY s hs) ?_;simp only[Qa,seval];refine Qh (Qjv (Qm s) (by simp only[maxLen];omega) Z8 196 [] _ fun o _=>Qhz o _) (by simp only[Qov,QoZ,Qa,seval]<;>rfl) ?_;simp only[Qa,seval]
section
variable (m:Qj)
theorem QjK (g:PG):Qe Tryz.prog 112 [Qn g] m fun y m1=>y=.bool (!WK g)∧m1=m:=by
 refine wG Tryz.func112 ?_;simp only[eK,Tryz.f112,seval];have e:decide ((g.ops.length:Int) > 64)=!WK g:=by unfold WK;exact(by rw[QoR];simp only[Qn1,QoV,QpZ];omega)
 simp only[Qn,PG.cells,QoS,e,eE,seval]
theorem QjL (x:PE):Qe Tryz.prog 114 [QC x] m fun y m1=>y=.bool (!Ub x)∧m1=m:=by
 refine wG Tryz.func114 ?_;simp only[eK,Tryz.f114,seval];have e1:decide ((x.items.length:Int)<1)=!decide (1≤x.items.length):=(by rw[QoR];simp only[Qn1,QoV,QpZ];omega);have e2:decide ((x.items.length:Int) > 64)=!decide (x.items.length≤64):=(by rw[QoR];simp only[Qn1,QoV,QpZ];omega);have e3:decide ((x.free.length:Int) > 16)=!decide (x.free.length≤16):=(by rw[QoR];simp only[Qn1,QoV,QpZ];omega);simp only[QC,PE.cells,QoS,e1,Ub,eE,seval];cases a1:decide (1≤x.items.length)<;>cases a2:decide (x.items.length≤64)<;>cases a3:decide (x.free.length≤16)<;>simp only[a2,a3,QpF,Qo5,Qpb,QpG,QoS,e2,e3,eE,seval]
theorem QjM (o:PO):Qe Tryz.prog 118 [Qv o] m fun y m1=>y=.bool (!WI o.name)∧m1=m:=by
 refine wG Tryz.func118 ?_;simp only[eK,Tryz.f118,seval];simp only[Qv,PO.cells,eE,seval];refine aC (QeZ o.name) ?_;simp only[Qa,seval]
theorem QjN (o:PI):Qe Tryz.prog 122 [XC o] m fun y m1=>y=.bool (!WI o.name)∧m1=m:=by
 refine wG Tryz.func122 ?_;simp only[eK,Tryz.f122,seval];simp only[XC,PI.cells,eE,seval];refine aC (QeZ o.name) ?_;simp only[Qa,seval]
theorem QjO (g:PG)(hs:g.name.length≤17592186044000)(hl:g.ops.length≤maxLen):Qe Tryz.prog 115 [Qn g] m fun y m1=>y=.bool (!Wa g)∧m1=m:=by
 refine wG Tryz.func115 ?_;simp only[eK,Tryz.f115,seval];simp only[Qn,PG.cells,Wa,eE,seval];refine aC (Qe0 g.name hs) ?_;cases WJ g.name
 ·simp only[Qpu,Qo5,Qa,seval]
 ·simp only[QpE,QpF,eE,seval];refine Qh (Cu g.ops hl (fun o=>!WI o.name) 118 [] _ fun o _=>QjM _ o) (by simp only[Qov,QoZ,Qa,seval]<;>rfl) ?_;simp only[X8,Qa,seval]
theorem QjP (x:PE)(hs:x.name.length≤17592186044000)(hl:x.items.length≤maxLen):Qe Tryz.prog 120 [QC x] m fun y m1=>y=.bool (!UX x)∧m1=m:=by
 refine wG Tryz.func120 ?_;simp only[eK,Tryz.f120,seval];simp only[QC,PE.cells,UX,eE,seval];refine aC (Qe0 x.name hs) ?_;cases WJ x.name
 ·simp only[Qpu,Qo5,Qa,seval]
 ·simp only[QpE,QpF,eE,seval];refine Qh (R8 x.items hl (fun o=>!WI o.name) 122 [] _ fun o _=>QjN _ o) (by simp only[Qov,QoZ,Qa,seval]<;>rfl) ?_;simp only[X8,Qa,seval]
theorem QjQ (x y:PG):Qe Tryz.prog 124 [Qn x,Qn y] m fun r m1=>r=.bool ((XT PG.name) x y)∧m1=m:=by
 refine wG Tryz.func124 ?_;simp only[eK,Tryz.f124,seval];simp only[Qn,PG.cells,QP,XT,eE,seval]
theorem QjR (x y:PE):Qe Tryz.prog 126 [QC x,QC y] m fun r m1=>r=.bool ((XT PE.name) x y)∧m1=m:=by
 refine wG Tryz.func126 ?_;simp only[eK,Tryz.f126,seval];simp only[QC,PE.cells,QP,XT,eE,seval]
theorem QjS (x y:PO):Qe Tryz.prog 129 [Qv x,Qv y] m fun r m1=>r=.bool ((KY PO.num) x y)∧m1=m:=by
 refine wG Tryz.func129 ?_;simp only[eK,Tryz.f129,seval];simp only[Qv,PO.cells,KY,eE,seval]
theorem QjT (x y:PI):Qe Tryz.prog 132 [XC x,XC y] m fun r m1=>r=.bool ((KY PI.num) x y)∧m1=m:=by
 refine wG Tryz.func132 ?_;simp only[eK,Tryz.f132,seval];simp only[XC,PI.cells,KY,eE,seval]
theorem QjU (g:PG)(hl:g.ops.length≤maxLen):Qe Tryz.prog 127 [Qn g] m fun y m1=>y=.bool (!WL g)∧m1=m:=by
 refine wG Tryz.func127 ?_;simp only[eK,Tryz.f127,seval];simp only[Qn,PG.cells,WL,eE,seval];refine Qh (Qjx g.ops hl (KY PO.num) 129 [] _ fun x _ y _=>QjS _ x y) (by simp only[Qov,QoZ,Qa,seval]<;>rfl) ?_;simp only[Qa,seval]
theorem QjV (x:PE)(hl:x.items.length≤maxLen):Qe Tryz.prog 130 [QC x] m fun y m1=>y=.bool (!UY x)∧m1=m:=by
 refine wG Tryz.func130 ?_;simp only[eK,Tryz.f130,seval];simp only[QC,PE.cells,UY,eE,seval];refine Qh (Qjz x.items hl (KY PI.num) 132 [] _ fun x _ y _=>QjT _ x y) (by simp only[Qov,QoZ,Qa,seval]<;>rfl) ?_;simp only[Qa,seval]
end
section
variable {M:Nat}(P:PL)(hP:P.ok M)(hM:M≤17592186044000)
include hP hM
omit hM in
theorem z58:Qg Tryz.prog 58 [P.av] (.bool (!DM P)):=by
 have e0:P.av=.agg [.list (P.progs.map Qn),.list (P.enums.map QC)]:=rfl;have e1:decide ((if (P.progs.length:Int)<(P.enums.length:Int)then(P.enums.length:Int)else(P.progs.length:Int)) > 64)=!(decide (P.progs.length≤64)&&decide (P.enums.length≤64)):=by
  rw[Bool.not_and];split<;>exact(by rw[QoR];simp only[Qn1,QoV,QpZ,Qn0];omega)
 refine wF Tryz.func58 ?_;simp only[eK,Tryz.f58,seval];simp only[e0,QoS,e1,DM,eE,seval];cases(decide (P.progs.length≤64)&&decide (P.enums.length≤64))
 ·simp only[Qo5,Qpu,Qa,seval]
 simp only[QpF,QpE,eE,seval];refine Qh (Nb P.progs hP.len1 (fun g=>!WK g) 112 [] _ fun o _=>QjK _ o) (by simp only[Qov,QoZ,Qa,seval]<;>rfl) ?_;simp only[X8,Qa,seval];cases P.progs.all WK
 ·simp only[Qo5,Qpu,Qa,seval]
 simp only[QpF,QpE,eE,seval];refine Qh (D9 P.enums hP.len2 (fun g=>!Ub g) 114 [] _ fun o _=>QjL _ o) (by simp only[Qov,QoZ,Qa,seval]<;>rfl) ?_;simp only[X8,Qa,seval]
omit hM in
theorem QjW (hN1:∀g∈P.progs,g.name.length≤17592186044000)(hN2:∀g∈P.enums,g.name.length≤17592186044000):Qg Tryz.prog 59 [P.av] (.bool (!F9 P)):=by
 have e0:P.av=.agg [.list (P.progs.map Qn),.list (P.enums.map QC)]:=rfl;refine wF Tryz.func59 ?_;simp only[eK,Tryz.f59,seval];simp only[e0,F9,eE,seval];refine Qh (Nb P.progs hP.len1 (fun g=>!Wa g) 115 [] _ fun o ho=>QjO _ o (hN1 o ho) (hP.progs o ho).len) (by simp only[Qov,QoZ,Qa,seval]<;>rfl) ?_;simp only[X8,Qa,seval];cases P.progs.all Wa
 ·simp only[Qo5,Qpu,Qa,seval]
 simp only[QpF,QpE,eE,seval];refine Qh (D9 P.enums hP.len2 (fun g=>!UX g) 120 [] _ fun o ho=>QjP _ o (hN2 o ho) (hP.enums o ho).len1) (by simp only[Qov,QoZ,Qa,seval]<;>rfl) ?_;simp only[X8,Qa,seval]
omit hM in
theorem z60:Qg Tryz.prog 60 [P.av] (.bool (!DN P)):=by
 have e0:P.av=.agg [.list (P.progs.map Qn),.list (P.enums.map QC)]:=rfl;refine wF Tryz.func60 ?_;simp only[eK,Tryz.f60,seval];simp only[e0,DN,eE,seval];refine Qh (Qjw P.progs hP.len1 (XT PG.name) 124 [] _ fun x _ y _=>QjQ _ x y) (by simp only[Qov,QoZ,Qa,seval]<;>rfl) ?_;simp only[Qa,seval];cases JB P.progs (XT PG.name)
 ·simp only[Qo5,Qpu,Qa,seval]
 simp only[QpF,QpE,eE,seval];refine Qh (Qjy P.enums hP.len2 (XT PE.name) 126 [] _ fun x _ y _=>QjR _ x y) (by simp only[Qov,QoZ,Qa,seval]<;>rfl) ?_;simp only[Qa,seval];cases JB P.enums (XT PE.name)
 ·simp only[Qo5,Qpu,Qa,seval]
 simp only[QpF,QpE,eE,seval];refine Qh (Nb P.progs hP.len1 (fun g=>!WL g) 127 [] _ fun o ho=>QjU _ o (hP.progs o ho).len) (by simp only[Qov,QoZ,Qa,seval]<;>rfl) ?_;simp only[X8,Qa,seval];cases P.progs.all WL
 ·simp only[Qo5,Qpu,Qa,seval]
 simp only[QpF,QpE,eE,seval];refine Qh (D9 P.enums hP.len2 (fun g=>!UY g) 130 [] _ fun o ho=>QjV _ o (hP.enums o ho).len1) (by simp only[Qov,QoZ,Qa,seval]<;>rfl) ?_;simp only[X8,Qa,seval]
end
theorem LG (n c:Nat):AV.shN n (.fn (.func c) [] [])=.fn (.func c) [] []:=by
 induction n with
 |zero=>rfl
 |succ n ih=>rw[AV.shN,ih];rfl
theorem QjX (nm:PO→List UInt8)(c:Nat)(hn:∀x,Qg Tryz.prog c [Qv x] (.str (nm x)))(y x:PO)(fr:Nat→Ob)(m:Qj)(h3:fr 3=.cells [.fn (.func c) [] []])(h6:fr 6=.cells x.cells) :
  Qe Tryz.prog 200 [Qv y,.ptr 3 3 0,.ptr 3 6 0] (Qb :: Qb :: Qb :: fr :: m) fun r m1=>r=.bool (nm y==nm x)∧m1=Qb :: Qb :: Qb :: fr :: m:=by
 have hy:=hn y;have hx:=hn x;have g3:∀n,AV.shN n (.fn (.func c) [] [])=.fn (.func c) [] []:=fun n=>LG n c
 simp only[Qv,PO.cells]at hy hx h6;refine wG Tryz.func200 ?_;simp only[eK,Tryz.f200,seval];simp only[Qv,PO.cells,h3,g3,eE,seval];refine WH (fa:=[]) (fb:=[]) rfl hy rfl rfl rfl (.inl rfl) ?_;simp only[h3,h6,g3,eE,seval];refine WH (fa:=[]) (fb:=[]) rfl hx rfl rfl rfl (.inl rfl) ?_;simp only[QP,Qa,seval]
section
variable (L:List PO)(hl:L.length≤maxLen)(nm:PO→List UInt8)(c:Nat)(m:Qj)
def ReO (k:Nat)(st:St):Prop :=
 ∃f fr i,st=⟨f,fr :: m,[]⟩∧k=L.length-i∧Qr (uniq L nm) i=true∧f 0=.list (L.map Qv)∧f 3=.ptr 0 3 0∧f 7=.list (L.map Qv)∧f 8=.int .i64 (L.length:Nat)∧f 9=.int .i64 (i:Nat)∧fr 3=.cells [.fn (.func c) [] []]∧∀s∈[6],(fr s).isRow=false
include hl in
theorem QjY (hn:∀x,Qg Tryz.prog c [Qv x] (.str (nm x))) :
  Qe Tryz.prog 135 [.list (L.map Qv),.fn (.func c) [] []] m fun y m1=>y=.bool (!Ua L nm)∧m1=m:=by
 refine wG Tryz.func135 ?_;simp only[eK,Tryz.f135,seval];simp only[QoS,eE,seval];refine Qi (ReO L nm c m) _ ⟨_,_,0,rfl,rfl,rfl,rfl,rfl,rfl,rfl,rfl,rfl,by simp<;>rfl⟩ ?_;rintro _ st ⟨f0,fr0,i,rfl,rfl,hx,h00,h30,h70,h80,h90,m30,r6⟩;refine QL (a:=_) [6] r6 ?_;intro f fr hf hm hn6;have h0:f 0=.list (L.map Qv):=by rw[hf,h00]<;>rfl
 have h3:f 3=.ptr 0 3 0:=by rw[hf,h30]<;>rfl
 have h7:f 7=.list (L.map Qv):=by rw[hf,h70]<;>rfl
 have h8:f 8=.int .i64 (L.length:Nat):=by rw[hf,h80]<;>rfl
 have h9:f 9=.int .i64 (i:Nat):=by rw[hf,h90]<;>rfl
 have m3:fr 3=.cells [.fn (.func c) [] []]:=by rw[hm 3 (by decide),m30]<;>rfl
 have n6:=hn6 6 (by decide);clear hf hm hn6 h00 h30 h70 h80 h90 m30 r6;simp only[h8,h9,Qa,seval];by_cases hlt:i<L.length
 ·obtain⟨x,hi⟩:∃x,L[i]? = some x:=⟨L[i],QnX hlt⟩;have hg:(L.map Qv)[i]? = some (Qv x):=by simp[hi]
  have e1:=Qs i _ hlt hl;have hle:(i≤L.length)=True:=eq_true (by omega);have ht:((L.map Qv).drop 0).take (i-0)=(L.take i).map Qv:=by simp
  have hstep:Qr (uniq L nm) (i+1)=!(L.take i).any fun y=>nm y==nm x:=by
   rw[Qr,hx,QpE,De hi,B9]
  have hcl:=fun(fr:Nat→Ob) (h3:fr 3=.cells [.fn (.func c) [] []]) (h6:fr 6=.cells x.cells)=>Cu (L.take i) (by simp;omega) (fun y=>nm y==nm x) 200 [.ptr 0 3 0,.ptr 0 6 0] (fr :: m) fun y _=>QjX nm c hn y x fr m h3 h6
  simp only[QA hlt,Qp,Qpq,Qf,hg,Qv,PO.cells,n6,h0,h7,h9,Jl,Z7,Xm,QpB,QoS,Qn6,QnV,hle,true_or,QoW,←List.map_take,eE,seval];refine Qh (hcl _ m3 rfl) (by simp only[Qov,QoZ,h3,Qa,seval]<;>rfl) ?_;cases hp:(L.take i).any fun y=>nm y==nm x
  ·rw[hp]at hstep;simp only[h9,e1,Qa,seval];exact⟨L.length-(i+1),by omega,_,_,i+1,rfl,rfl,hstep,h0,h3,h7,h8,rfl,m3,by simp<;>rfl⟩
  ·rw[hp]at hstep;have hf:Ua L nm=false:=by
    rw[QpS];intro h';rw[Q5.2 fun k hk=>Q5.1 h' k (by omega)]at hstep;cases hstep
   simp only[hf,Qo5,Qa,seval]
 ·have hf:Ua L nm=true:=Q5.2 fun k hk=>Q5.1 hx k (by omega)
  simp only[QH hlt,hf,QpF,Qa,seval]
end
theorem QjZ (nm:PI→List UInt8)(c:Nat)(hn:∀x,Qg Tryz.prog c [XC x] (.str (nm x)))(y x:PI)(fr:Nat→Ob)(m:Qj)(h3:fr 3=.cells [.fn (.func c) [] []])(h6:fr 6=.cells x.cells) :
  Qe Tryz.prog 201 [XC y,.ptr 3 3 0,.ptr 3 6 0] (Qb :: Qb :: Qb :: fr :: m) fun r m1=>r=.bool (nm y==nm x)∧m1=Qb :: Qb :: Qb :: fr :: m:=by
 have hy:=hn y;have hx:=hn x;have g3:∀n,AV.shN n (.fn (.func c) [] [])=.fn (.func c) [] []:=fun n=>LG n c
 simp only[XC,PI.cells]at hy hx h6;refine wG Tryz.func201 ?_;simp only[eK,Tryz.f201,seval];simp only[XC,PI.cells,h3,g3,eE,seval];refine WH (fa:=[]) (fb:=[]) rfl hy rfl rfl rfl (.inl rfl) ?_;simp only[h3,h6,g3,eE,seval];refine WH (fa:=[]) (fb:=[]) rfl hx rfl rfl rfl (.inl rfl) ?_;simp only[QP,Qa,seval]
section
variable (L:List PI)(hl:L.length≤maxLen)(nm:PI→List UInt8)(c:Nat)(m:Qj)
def ReI (k:Nat)(st:St):Prop :=
 ∃f fr i,st=⟨f,fr :: m,[]⟩∧k=L.length-i∧Qr (uniq L nm) i=true∧f 0=.list (L.map XC)∧f 3=.ptr 0 3 0∧f 7=.list (L.map XC)∧f 8=.int .i64 (L.length:Nat)∧f 9=.int .i64 (i:Nat)∧fr 3=.cells [.fn (.func c) [] []]∧∀s∈[6],(fr s).isRow=false
include hl in
theorem Qj0 (hn:∀x,Qg Tryz.prog c [XC x] (.str (nm x))) :
  Qe Tryz.prog 138 [.list (L.map XC),.fn (.func c) [] []] m fun y m1=>y=.bool (!Ua L nm)∧m1=m:=by
 refine wG Tryz.func138 ?_;simp only[eK,Tryz.f138,seval];simp only[QoS,eE,seval];refine Qi (ReI L nm c m) _ ⟨_,_,0,rfl,rfl,rfl,rfl,rfl,rfl,rfl,rfl,rfl,by simp<;>rfl⟩ ?_;rintro _ st ⟨f0,fr0,i,rfl,rfl,hx,h00,h30,h70,h80,h90,m30,r6⟩;refine QL (a:=_) [6] r6 ?_;intro f fr hf hm hn6;have h0:f 0=.list (L.map XC):=by rw[hf,h00]<;>rfl
 have h3:f 3=.ptr 0 3 0:=by rw[hf,h30]<;>rfl
 have h7:f 7=.list (L.map XC):=by rw[hf,h70]<;>rfl
 have h8:f 8=.int .i64 (L.length:Nat):=by rw[hf,h80]<;>rfl
 have h9:f 9=.int .i64 (i:Nat):=by rw[hf,h90]<;>rfl
 have m3:fr 3=.cells [.fn (.func c) [] []]:=by rw[hm 3 (by decide),m30]<;>rfl
 have n6:=hn6 6 (by decide);clear hf hm hn6 h00 h30 h70 h80 h90 m30 r6;simp only[h8,h9,Qa,seval];by_cases hlt:i<L.length
 ·obtain⟨x,hi⟩:∃x,L[i]? = some x:=⟨L[i],QnX hlt⟩;have hg:(L.map XC)[i]? = some (XC x):=by simp[hi]
  have e1:=Qs i _ hlt hl;have hle:(i≤L.length)=True:=eq_true (by omega);have ht:((L.map XC).drop 0).take (i-0)=(L.take i).map XC:=by simp
  have hstep:Qr (uniq L nm) (i+1)=!(L.take i).any fun y=>nm y==nm x:=by
   rw[Qr,hx,QpE,De hi,B9]
  have hcl:=fun(fr:Nat→Ob) (h3:fr 3=.cells [.fn (.func c) [] []]) (h6:fr 6=.cells x.cells)=>R8 (L.take i) (by simp;omega) (fun y=>nm y==nm x) 201 [.ptr 0 3 0,.ptr 0 6 0] (fr :: m) fun y _=>QjZ nm c hn y x fr m h3 h6
  simp only[QA hlt,Qp,Qpq,Qf,hg,XC,PI.cells,n6,h0,h7,h9,Jl,Z7,Xm,QpB,QoS,Qn6,QnV,hle,true_or,QoW,←List.map_take,eE,seval];refine Qh (hcl _ m3 rfl) (by simp only[Qov,QoZ,h3,Qa,seval]<;>rfl) ?_;cases hp:(L.take i).any fun y=>nm y==nm x
  ·rw[hp]at hstep;simp only[h9,e1,Qa,seval];exact⟨L.length-(i+1),by omega,_,_,i+1,rfl,rfl,hstep,h0,h3,h7,h8,rfl,m3,by simp<;>rfl⟩
  ·rw[hp]at hstep;have hf:Ua L nm=false:=by
    rw[QpS];intro h';rw[Q5.2 fun k hk=>Q5.1 h' k (by omega)]at hstep;cases hstep
   simp only[hf,Qo5,Qa,seval]
 ·have hf:Ua L nm=true:=Q5.2 fun k hk=>Q5.1 hx k (by omega)
  simp only[QH hlt,hf,QpF,Qa,seval]
end
theorem Qj1 (o:PO):Qg Tryz.prog 136 [Qv o] (.str o.name):=by
 refine wF Tryz.func136 ?_;simp only[eK,Tryz.f136,seval];simp only[Qv,PO.cells,eE,seval]
theorem Qj2 (o:PI):Qg Tryz.prog 139 [XC o] (.str o.name):=by
 refine wF Tryz.func139 ?_;simp only[eK,Tryz.f139,seval];simp only[XC,PI.cells,eE,seval]
theorem Qj3 (x:PE)(g:PG)(fr:Nat→Ob)(m:Qj)(h2:fr 2=.cells g.cells):Qe Tryz.prog 134 [QC x,.ptr 3 2 0] (Qb :: Qb :: Qb :: fr :: m) fun y m1=>y=.bool (x.name==g.name)∧m1=Qb :: Qb :: Qb :: fr :: m:=by
 simp only[PG.cells]at h2;refine wG Tryz.func134 ?_;simp only[eK,Tryz.f134,seval];simp only[QC,PE.cells,h2,QP,eE,seval]
theorem Qj4 (x:PE)(hl:x.items.length≤maxLen)(m:Qj):Qe Tryz.prog 137 [QC x] m fun y m1=>y=.bool (!HG x)∧m1=m:=by
 refine wG Tryz.func137 ?_;simp only[eK,Tryz.f137,seval];simp only[QC,PE.cells,HG,eE,seval];refine Qh (Qj0 x.items hl PI.name 139 _ Qj2) (by simp only[Qov,QoZ,Qa,seval]<;>rfl) ?_;simp only[Qa,seval]
section
variable {M:Nat}(P:PL)(hP:P.ok M)
include hP
theorem Qj5 (g:PG)(hl:g.ops.length≤maxLen)(fr:Nat→Ob)(h1:fr 1=.cells [.list (P.progs.map Qn),.list (P.enums.map QC)]) :
  Qe Tryz.prog 133 [Qn g,.ptr 3 1 0] [Qb,Qb,Qb,fr] fun y m1=>y=.bool (!Kx P g)∧m1=[Qb,Qb,Qb,fr]:=by
 have e:Kx P g=(!(P.enums.any fun e=>e.name==g.name)&&Ua g.ops PO.name):=by rw[Kx,B9]
 refine wG Tryz.func133 ?_;simp only[eK,Tryz.f133,seval];simp only[Qn,PG.cells,h1,e,eE,seval];refine Qh (D9 P.enums hP.len2 (fun e=>e.name==g.name) 134 [.ptr 0 2 0] _ fun o _=>Qj3 o g _ _ rfl) (by simp only[Qov,QoZ,Qa,seval]<;>rfl) ?_;cases P.enums.any fun e=>e.name==g.name
 ·simp only[Qo5,QpE,eE,seval];refine Qh (QjY g.ops hl PO.name 136 _ Qj1) (by simp only[Qov,QoZ,Qa,seval]<;>rfl) ?_;simp only[Qa,seval]
 ·simp only[QpF,Qpu,Qo5,Qa,seval]
theorem z61:Qg Tryz.prog 61 [P.av] (.bool (!Ct P)):=by
 have e0:P.av=.agg [.list (P.progs.map Qn),.list (P.enums.map QC)]:=rfl;refine wF Tryz.func61 ?_;simp only[eK,Tryz.f61,seval];simp only[e0,Ct,eE,seval];refine Qh (Nb P.progs hP.len1 (fun g=>!Kx P g) 133 [.ptr 0 1 0] _ fun o ho=>Qj5 P hP o (hP.progs o ho).len _ rfl) (by simp only[Qov,QoZ,Qa,seval]<;>rfl) ?_;simp only[X8,Qa,seval];cases P.progs.all (Kx P)
 ·simp only[Qo5,Qpu,Qa,seval]
 simp only[QpF,QpE,eE,seval];refine Qh (D9 P.enums hP.len2 (fun g=>!HG g) 137 [] _ fun o ho=>Qj4 o (hP.enums o ho).len1 _) (by simp only[Qov,QoZ,Qa,seval]<;>rfl) ?_;simp only[X8,Qa,seval]
end
theorem Qj6 (x:PS)(n:Int)(fr:Nat→Ob)(m:Qj)(h3:fr 3=.cells [.int .i64 n]):Qe Tryz.prog 250 [Jx x,.ptr 2 3 0] (Qb :: Qb :: fr :: m) fun y m1=>y=.bool (decide (x.lo≤n)&&decide (n≤x.hi))∧m1=Qb :: Qb :: fr :: m:=by
 refine wG Tryz.func250 ?_;simp only[eK,Tryz.f250,seval];simp only[Jx,PS.cells,h3,eE,seval];cases h:decide (x.lo≤n)<;>simp only[h3,QpE,Qpu,eE,seval]
theorem Qj7 (L:List PS)(hl:L.length≤maxLen)(n:Int):Qg Tryz.prog 203 [.list (L.map Jx),.int .i64 n] (.bool (kept L n)):=by
 refine wF Tryz.func203 ?_;simp only[eK,Tryz.f203,seval];simp only[eE,seval];refine Qh (Qjt L hl (fun x=>decide (x.lo≤n)&&decide (n≤x.hi)) 250 [.ptr 0 3 0] _ fun o _=>Qj6 o n _ _ rfl) (by simp only[Qov,QoZ,Qa,seval]<;>rfl) ?_;simp only[kept,Qa,seval]
theorem Qj8 (o:PO)(m:Qj):Qe Tryz.prog 141 [Qv o] m fun y m1=>y=.bool (!Kf o)∧m1=m:=by
 refine wG Tryz.func141 ?_;simp only[eK,Tryz.f141,seval];have e1:decide (o.num<1)=!decide (o.num≥1):=(by rw[QoR];simp only[Qn1,QoV,QpZ];omega);have e2:decide (o.num > 65535)=!decide (o.num≤65535):=(by rw[QoR];simp only[Qn1,QoV,QpZ];omega);simp only[Qv,PO.cells,Kf,e1,eE,seval];cases decide (o.num≥1)<;>simp only[QpF,Qo5,QpE,Qpu,e2,eE,seval]
theorem Qj9 (g:PG)(hl:g.ops.length≤maxLen)(m:Qj):Qe Tryz.prog 140 [Qn g] m fun y m1=>y=.bool (!g.ops.all Kf)∧m1=m:=by
 refine wG Tryz.func140 ?_;simp only[eK,Tryz.f140,seval];simp only[Qn,PG.cells,eE,seval];refine Qh (Cu g.ops hl (fun o=>!Kf o) 141 [] _ fun o _=>Qj8 o _) (by simp only[Qov,QoZ,Qa,seval]<;>rfl) ?_;simp only[X8,Qa,seval]
theorem Qka (o:PI)(x:PE)(hl:x.free.length≤maxLen)(fr:Nat→Ob)(m:Qj)(h1:fr 1=.cells x.cells):Qe Tryz.prog 202 [XC o,.ptr 3 1 0] (Qb :: Qb :: Qb :: fr :: m) fun y m1=>y=.bool (!Uc x o)∧m1=Qb :: Qb :: Qb :: fr :: m:=by
 have hr:Qg Tryz.prog 203 [.list (x.free.map fun n=>AV.agg n.cells),.int .i64 o.num] (.bool (kept x.free o.num)):=Qj7 x.free hl o.num;simp only[PE.cells]at h1;refine wG Tryz.func202 ?_;simp only[eK,Tryz.f202,seval];have e2:decide (o.num > 2147483647)=!decide (o.num≤2147483647):=(by rw[QoR];simp only[Qn1,QoV,QpZ];omega);simp only[XC,PI.cells,Uc,e2,eE,seval];cases decide (o.num≤2147483647)
 ·simp only[Qo5,Qpu,Qa,seval]
 ·simp only[QpF,QpE,h1,eE,seval];refine aC hr ?_;simp only[Bool.not_not,Qa,seval]
def UI (l:List PS)(i:Nat):Bool:=Xf l NP i&&Zp l Ba i
theorem Py (l:List PS):Qr (UI l) l.length=(l.all NP&&JB l Ba):=by
 unfold UI JB;rw[D8,HD]
def OuI (x:PE)(m:Qj)(k:Nat)(st:St):Prop :=
 ∃f fr i,st=⟨f,fr :: m,[]⟩∧k=x.free.length-i∧Qr (UI x.free) i=true∧f 1=.ptr 0 1 0∧f 6=.list (x.free.map Jx)∧f 7=.int .i64 (x.free.length:Nat)∧f 8=.int .i64 (i:Nat)∧fr 1=.cells x.cells∧∀s∈[4],(fr s).isRow=false
theorem Qkb (x:PE)(h0:x.items≠[])(hl1:x.items.length≤maxLen)(hl:x.free.length≤maxLen)(m:Qj):Qe Tryz.prog 142 [QC x] m fun y m1=>y=.bool (!Ud x)∧m1=m:=by
 have hsp:=Py x.free;have z1:Int.toNat 0=0:=rfl;have z0:(0≤(0:Int))=True:=by simp
 refine wG Tryz.func142 ?_;simp only[eK,Tryz.f142,seval];simp only[QC,PE.cells,QoS,eE,seval];refine Qi (OuI x m) _ ⟨_,_,0,rfl,rfl,rfl,rfl,rfl,rfl,rfl,rfl,by simp<;>rfl⟩ ?_;rintro _ st ⟨f0,fr0,i,rfl,rfl,hx,h10,h60,h70,h80,m10,r4⟩;refine QL (a:=_) [4] r4 ?_;intro f fr hf hm hn4;have h1:f 1=.ptr 0 1 0:=by rw[hf,h10]<;>rfl
 have h6:f 6=.list (x.free.map Jx):=by rw[hf,h60]<;>rfl
 have h7:f 7=.int .i64 (x.free.length:Nat):=by rw[hf,h70]<;>rfl
 have h8:f 8=.int .i64 (i:Nat):=by rw[hf,h80]<;>rfl
 have m1:fr 1=.cells x.cells:=by rw[hm 1 (by decide),m10]<;>rfl
 have n4:=hn4 4 (by decide);clear hf hm hn4 h10 h60 h70 h80 m10 r4;simp only[PE.cells]at m1;simp only[h7,h8,Qa,seval];by_cases hlt:i<x.free.length
 ·obtain⟨y,hi⟩:∃y,x.free[i]? = some y:=⟨x.free[i],QnX hlt⟩;have hg:(x.free.map Jx)[i]? = some (Jx y):=by simp[hi]
  have e1:=Qs i _ hlt hl;have hstep:Qr (UI x.free) (i+1)=(NP y&&Zp x.free Ba i):=by
   rw[Qr,hx,QpE,UI,XH hi]
  have hend:Qr (UI x.free) (i+1)=false→Ud x=false:=by
   intro h;unfold Ud;rw[←hsp];have:Qr (UI x.free) x.free.length=false:=by
    rw[QpS];intro h';rw[Q5.2 fun k hk=>Q5.1 h' k (by omega)]at h;cases h
   rw[this];rfl
  have fin:∀(f':Fr) (fr':Nat→Ob),Qr (UI x.free) (i+1)=true→f' 1=.ptr 0 1 0→f' 6=.list (x.free.map Jx)→f' 7=.int .i64 (x.free.length:Nat)→f' 8=.int .i64 ((i+1:Nat):Int)→fr' 1=.cells x.cells→(∀s∈[4],(fr' s).isRow=false)→∃k,k<x.free.length-i∧OuI x m k ⟨f',fr' :: m,[]⟩:=by
   intro f' fr' a b c d e g h;exact⟨x.free.length-(i+1),by omega,f',fr',i+1,rfl,rfl,a,b,c,d,e,g,h⟩
  have s1:NP y=(!decide (y.lo<0) && !decide (y.hi > 2147483647) && !decide (y.hi<y.lo)):=by
   unfold NP;exact(by rw[QoR];simp only[Qn1,QoV,QpZ,Qol];omega)
  rw[s1]at hstep;simp only[QA hlt,Qp,Qpq,Qf,hg,Jx,PS.cells,n4,h6,h8,eE,seval];cases a1:decide (y.lo<0)
  case true=>
   rw[a1,QpF,Qpu,Qpu,Qpu]at hstep;simp only[hend hstep,Qo5,Qa,seval]
  cases a2:decide (y.hi > 2147483647)
  case true=>
   rw[a1,a2,QpF,QpG,Qpu,Qpu]at hstep;simp only[a2,hend hstep,Qo5,eE,seval]
  cases a3:decide (y.hi<y.lo)
  case true=>
   rw[a1,a2,a3,QpF,QpG,Qpu]at hstep;simp only[a2,a3,hend hstep,Qo5,eE,seval]
  rw[a1,a2,a3]at hstep;simp only[Qo5,QpE]at hstep;cases i with
  |zero=>
   have d0:decide (((0:Nat):Int) > 0)=false:=rfl;rw[E1]at hstep;simp only[a2,a3,h8,eE,seval];exact fin _ _ hstep h1 h6 h7 rfl m1 (by simp<;>rfl)
  |succ j=>
   have d0:decide (((j+1:Nat):Int) > 0)=true:=QpY (by omega);obtain⟨z,hj⟩:∃z,x.free[j]? = some z:=⟨x.free[j]'(by omega),QnX (by omega)⟩;have hgj:(x.free.map fun n=>AV.agg n.cells)[j]? = some (.agg z.cells):=by simp[hj]
   simp only[PS.cells]at hgj;rw[Yv hj hi]at hstep;have w:=Gy j _ hlt hl;have s2:Ba z y=!decide (y.lo≤z.hi):=by unfold Ba;exact(by rw[QoR];simp only[Qn1,QoV,QpZ];omega)
   rw[s2]at hstep;simp only[a2,a3,d0,w,Qp,Qpq,Qf,hgj,PS.cells,h1,m1,eE,seval];cases a4:decide (y.lo≤z.hi)
   ·rw[a4]at hstep;simp only[h8,e1,Qa,seval];exact fin _ _ hstep h1 h6 h7 rfl m1 (by simp<;>rfl)
   ·rw[a4]at hstep;simp only[hend hstep,Qo5,Qa,seval]
 ·have hfr:Qr (UI x.free) x.free.length=true:=Q5.2 fun k hk=>Q5.1 hx k (by omega)
  obtain⟨it,its,hits⟩:∃it its,x.items=it :: its:=by
   cases h:x.items with
   |nil=>exact absurd h h0
   |cons a b=>exact⟨a,b,rfl⟩
  have hr:Ud x=(it.num==0&&x.items.all (Uc x)):=by
   unfold Ud;rw[←hsp,hfr,QpE,HH,hits]
  have hg0:(x.items.map fun n=>AV.agg n.cells)[0]? = some (.agg it.cells):=by simp[hits]
  have hne:(it.num != 0)=!(it.num==0):=rfl;simp only[PI.cells]at hg0;simp only[QH hlt,Qf,z0,z1,hg0,PI.cells,hr,hne,Qoc,QoT,h1,m1,eE,seval];cases it.num==0
  ·simp only[Qo5,Qpu,Qa,seval]
  ·simp only[QpF,QpE,m1,h1,eE,seval];refine Qh (R8 x.items hl1 (fun o=>!Uc x o) 202 [.ptr 0 1 0] _ fun o _=>Qka o x hl _ _ m1) (by simp only[Qov,QoZ,h1,Qa,seval]<;>rfl) ?_;simp only[X8,Qa,seval]
theorem z62 {M:Nat}(P:PL)(hP:P.ok M)(hi:∀e∈P.enums,e.items≠[]):Qg Tryz.prog 62 [P.av] (.bool (!Bb P)):=by
 have e0:P.av=.agg [.list (P.progs.map Qn),.list (P.enums.map QC)]:=rfl;refine wF Tryz.func62 ?_;simp only[eK,Tryz.f62,seval];simp only[e0,Bb,eE,seval];refine Qh (Nb P.progs hP.len1 (fun g=>!g.ops.all Kf) 140 [] _ fun o ho=>Qj9 o (hP.progs o ho).len _) (by simp only[Qov,QoZ,Qa,seval]<;>rfl) ?_;simp only[X8,Qa,seval];cases P.progs.all fun g=>g.ops.all Kf
 ·simp only[Qo5,Qpu,Qa,seval]
 simp only[QpF,QpE,eE,seval];refine Qh (D9 P.enums hP.len2 (fun g=>!Ud g) 142 [] _ fun o ho=>Qkb o (hi o ho) (hP.enums o ho).len1 (hP.enums o ho).len2 _) (by simp only[Qov,QoZ,Qa,seval]<;>rfl) ?_;simp only[X8,Qa,seval]
end Go.Proofs.YtgnfjkkfbcnbfaaGreatDoor.Va
namespace Go.Proofs.YtgnfjkkfbcnbfaaGreatDoor.Va
open Go Am Rc Bt
def bt (s:List UInt8)(i lo hi:Nat):Bool :=
 match s[i]? with
 |some b=>decide (lo≤b.toNat)&&decide (b.toNat≤hi)
 |none=>false
def tl (s:List UInt8):Nat→Nat→Bool
 |_,0=>true
 |i,n+1=>bt s i 128 191&&tl s (i+1) n
def NQ (s:List UInt8)(i b:Nat):Nat :=
 if b<128 then 1
 else if 194≤b∧b≤223∧tl s (i+1) 1=true then 2
 else if b=224∧bt s (i+1) 160 191=true∧tl s (i+2) 1=true then 3
 else if b=237∧bt s (i+1) 128 159=true∧tl s (i+2) 1=true then 3
 else if 225≤b∧b≤239∧b≠237∧tl s (i+1) 2=true then 3
 else if b=240∧bt s (i+1) 144 191=true∧tl s (i+2) 2=true then 4
 else if 241≤b∧b≤243∧tl s (i+1) 3=true then 4
 else if b=244∧bt s (i+1) 128 143=true∧tl s (i+2) 2=true then 4
 else 0
def sz (s:List UInt8)(i:Nat):Nat :=
 match s[i]? with
 |none=>0
 |some c=>NQ s i c.toNat
def UJ (s:List UInt8):Nat→Nat→Int
 |0,_=>-1
 |k+1,i=>if i<s.length then(if sz s i=0 then(i:Int)else UJ s k (i+sz s i))else -1
def YK (s:List UInt8):Bool:=decide (UJ s s.length 0<0)
theorem Qkc (c:UInt8)(n:Nat):decide ((c.toNat:Int)≥(n:Int))=decide (n≤c.toNat):=by simp
theorem Qkd (c:UInt8)(n:Nat):decide ((c.toNat:Int)≤(n:Int))=decide (c.toNat≤n):=by simp
theorem Cz (s:List UInt8)(i lo hi:Nat):Qg Tryz.prog 280 [.str s,.int .i64 (i:Nat),.int .u8 (lo:Nat),.int .u8 (hi:Nat)] (.bool (bt s i lo hi)):=by
 refine wF Tryz.func280 ?_;simp only[eK,Tryz.f280,seval];by_cases hlt:i<s.length
 ·obtain⟨c,hc⟩:∃c,s[i]? = some c:=⟨s[i],QnX hlt⟩;have hb:bt s i lo hi=(decide (lo≤c.toNat)&&decide (c.toNat≤hi)):=by simp only[bt,hc]
  simp only[QA hlt,Qp,Qpq,hc,Qkc,Qa,seval];by_cases h1:lo≤c.toNat
  ·have d1:decide (lo≤c.toNat)=true:=by simpa using h1
   simp only[d1,Qp,Qpq,hc,hb,Qkd,QpE,Qa,seval]
  ·have d1:decide (lo≤c.toNat)=false:=by simpa using h1
   simp only[d1,hb,Qpu,Qa,seval]
 ·have hb:bt s i lo hi=false:=by simp only[bt,Qpm (Nat.le_of_not_lt hlt)]
  simp only[QH hlt,hb,Qa,seval]
def QhA (s:List UInt8)(i n:Nat)(k:Nat)(st:St):Prop :=
 ∃f j,st=⟨f,[Qb],[]⟩∧k=n-j∧j≤n∧tl s i n=tl s (i+j) (n-j)∧f 0=.str s∧f 1=.int .i64 (i:Nat)∧f 2=.int .i64 (n:Nat)∧f 7=.int .i64 (j:Nat)
theorem KZ (a b:Nat)(h:a+b≤maxLen):IntKind.i64.wrap ((a:Int)+(b:Int))=((a+b:Nat):Int):=by
 simp only[maxLen]at h;rw[Qz];omega
theorem Fa (s:List UInt8)(i n:Nat)(hi:i+n≤maxLen):Qg Tryz.prog 279 [.str s,.int .i64 (i:Nat),.int .i64 (n:Nat)] (.bool (tl s i n)):=by
 refine wF Tryz.func279 ?_;simp only[eK,Tryz.f279,seval];simp only[Qa,seval];refine Qi (QhA s i n) _ ⟨_,0,rfl,rfl,Qn6 _,rfl,rfl,rfl,rfl,rfl⟩ ?_;rintro _ st ⟨f,j,rfl,rfl,hj,ht,h0,h1,h2,h7⟩;simp only[h2,h7,Qa,seval];by_cases hlt:j<n
 ·have e0:=KZ i j (by omega);have e1:=Qs j _ hlt (by omega);simp only[QA hlt,h0,h1,h7,e0,Qa,seval];refine aC (Cz s (i+j) 128 191) ?_;have hs:tl s i n=(bt s (i+j) 128 191&&tl s (i+(j+1)) (n-(j+1))):=by
   rw[ht];obtain⟨m,hm⟩:∃m,n-j=m+1:=⟨n-j-1,by omega⟩;rw[hm,show n-(j+1)=m by omega];rfl
  cases hb:bt s (i+j) 128 191
  ·rw[hb]at hs;simp only[hs,Qpu,Qa,seval]
  ·rw[hb,QpE]at hs;simp only[h7,e1,Qa,seval];exact⟨n-(j+1),by omega,_,j+1,rfl,rfl,by omega,hs,h0,h1,h2,rfl⟩
 ·have hs:tl s i n=true:=by
   rw[ht,show n-j=0 by omega];rfl
  simp only[QH hlt,hs,Qa,seval]
def CA (s:List UInt8)(i:Nat)(c:UInt8)(D:Nat)(cond:Prop)(g:List Am.Item):Prop :=
 ∀Q:St→Prop,(∀f' B,(B=true↔cond)→f' 0=.str s→f' 1=.int .i64 (i:Nat)→f' 5=.int .u8 (c.toNat:Nat)→f' D=.bool B→Q ⟨f',[Qb],[]⟩)→
  ∀f,f 0=.str s→f 1=.int .i64 (i:Nat)→f 5=.int .u8 (c.toNat:Nat)→QE Tryz.prog g ⟨f,[Qb],[]⟩ Q
section
variable {s:List UInt8}{i:Nat}{c:UInt8}(hi:i<s.length)(hs:s.length+8≤maxLen)
include hi hs
theorem Qke:CA s i c 12 (194≤c.toNat∧c.toNat≤223∧tl s (i+1) 1=true) Cd:=by
 intro Q hQ f h0 h1 h5;have e1:IntKind.i64.wrap ((i:Int)+1)=((i+1:Nat):Int):=KZ i 1 (by omega);have e2:IntKind.i64.wrap ((i:Int)+2)=((i+2:Nat):Int):=KZ i 2 (by omega);simp only[Cd,h5,Qa,seval]
 repeat' (first|(refine Q3 (fun h=>?_) (fun h=>?_)<;>simp only[h,h0,h1,h5,e1,e2,eE,seval])|(refine XZ (fun h=>?_) (fun h=>?_)<;>simp only[h,Ql,h0,h1,h5,e1,Qa,seval])|(refine X0 (fun h=>?_) (fun h=>?_)<;>simp only[h,Ql,h0,h1,h5,e1,e2,eE,seval])|((with_reducible apply Zf (k:=279));(case hy=>rfl);(case h1=>rfl);(case hk=>exact Fa s (i+1) 1 (by omega));(case h2=>rfl);(case h3=>first|exact .inl rfl|exact .inr rfl);simp only[Qa,seval]))
 all_goals(refine hQ _ _ ?_ h0 h1 h5 rfl)
 all_goals simp only[Qn1,QpZ]at *
 all_goals
  constructor
  ·intro hh
   first
    |cases hh
    |(refine⟨by omega,?_⟩;first|exact hh|(refine⟨by omega,?_⟩;first|exact hh|(refine⟨by omega,?_⟩;exact hh))|exact⟨by assumption,hh⟩)
  ·intro hh
   first
    |exact hh.2.2.2
    |exact hh.2.2
    |(exfalso;omega)
    |(exfalso;simp_all;done)
theorem Qkf:CA s i c 25 (c.toNat=224∧bt s (i+1) 160 191=true∧tl s (i+2) 1=true) Ce:=by
 intro Q hQ f h0 h1 h5;have e1:IntKind.i64.wrap ((i:Int)+1)=((i+1:Nat):Int):=KZ i 1 (by omega);have e2:IntKind.i64.wrap ((i:Int)+2)=((i+2:Nat):Int):=KZ i 2 (by omega);simp only[Ce,h5,Qa,seval]
 repeat' (first|(refine Q3 (fun h=>?_) (fun h=>?_)<;>simp only[h,h0,h1,h5,e1,e2,eE,seval])|(refine XZ (fun h=>?_) (fun h=>?_)<;>simp only[h,Ql,h0,h1,e1,e2,Qa,seval])|(refine X0 (fun h=>?_) (fun h=>?_)<;>simp only[h,Ql,h0,h1,h5,e1,e2,eE,seval])|((with_reducible apply Zf (k:=280));(case hy=>rfl);(case h1=>rfl);(case hk=>exact Cz s (i+1) 160 191);(case h2=>rfl);(case h3=>first|exact .inl rfl|exact .inr rfl);simp only[Qa,seval])|((with_reducible apply Zf (k:=279));(case hy=>rfl);(case h1=>rfl);(case hk=>exact Fa s (i+2) 1 (by omega));(case h2=>rfl);(case h3=>first|exact .inl rfl|exact .inr rfl);simp only[Qa,seval]))
 all_goals(refine hQ _ _ ?_ h0 h1 h5 rfl)
 all_goals simp only[Qn2,QpK,ne_eq]at *
 all_goals
  constructor
  ·intro hh
   first
    |cases hh
    |(refine⟨by omega,?_⟩;first|exact hh|(refine⟨by omega,?_⟩;first|exact hh|(refine⟨by omega,?_⟩;exact hh))|exact⟨by assumption,hh⟩)
  ·intro hh
   first
    |exact hh.2.2.2
    |exact hh.2.2
    |(exfalso;omega)
    |(exfalso;simp_all;done)
theorem Qkg:CA s i c 40 (c.toNat=237∧bt s (i+1) 128 159=true∧tl s (i+2) 1=true) Cf:=by
 intro Q hQ f h0 h1 h5;have e1:IntKind.i64.wrap ((i:Int)+1)=((i+1:Nat):Int):=KZ i 1 (by omega);have e2:IntKind.i64.wrap ((i:Int)+2)=((i+2:Nat):Int):=KZ i 2 (by omega);simp only[Cf,h5,Qa,seval]
 repeat' (first|(refine Q3 (fun h=>?_) (fun h=>?_)<;>simp only[h,h0,h1,h5,e1,e2,eE,seval])|(refine XZ (fun h=>?_) (fun h=>?_)<;>simp only[h,Ql,h0,h1,e1,e2,Qa,seval])|(refine X0 (fun h=>?_) (fun h=>?_)<;>simp only[h,Ql,h0,h1,h5,e1,e2,eE,seval])|((with_reducible apply Zf (k:=280));(case hy=>rfl);(case h1=>rfl);(case hk=>exact Cz s (i+1) 128 159);(case h2=>rfl);(case h3=>first|exact .inl rfl|exact .inr rfl);simp only[Qa,seval])|((with_reducible apply Zf (k:=279));(case hy=>rfl);(case h1=>rfl);(case hk=>exact Fa s (i+2) 1 (by omega));(case h2=>rfl);(case h3=>first|exact .inl rfl|exact .inr rfl);simp only[Qa,seval]))
 all_goals(refine hQ _ _ ?_ h0 h1 h5 rfl)
 all_goals simp only[Qn2,QpK,ne_eq]at *
 all_goals
  constructor
  ·intro hh
   first
    |cases hh
    |(refine⟨by omega,?_⟩;first|exact hh|(refine⟨by omega,?_⟩;first|exact hh|(refine⟨by omega,?_⟩;exact hh))|exact⟨by assumption,hh⟩)
  ·intro hh
   first
    |exact hh.2.2.2
    |exact hh.2.2
    |(exfalso;omega)
    |(exfalso;simp_all;done)
theorem QhB:CA s i c 55 (225≤c.toNat∧c.toNat≤239∧c.toNat≠237∧tl s (i+1) 2=true) B1:=by
 intro Q hQ f h0 h1 h5;have e1:IntKind.i64.wrap ((i:Int)+1)=((i+1:Nat):Int):=KZ i 1 (by omega);have e2:IntKind.i64.wrap ((i:Int)+2)=((i+2:Nat):Int):=KZ i 2 (by omega);simp only[B1,h5,Qa,seval]
 repeat' (first|(refine Q3 (fun h=>?_) (fun h=>?_)<;>simp only[h,h0,h1,h5,e1,e2,eE,seval])|(refine XZ (fun h=>?_) (fun h=>?_)<;>simp only[h,Ql,h0,h1,h5,e1,Qa,seval])|(refine X0 (fun h=>?_) (fun h=>?_)<;>simp only[h,Ql,h0,h1,h5,e1,e2,eE,seval])|((with_reducible apply Zf (k:=279));(case hy=>rfl);(case h1=>rfl);(case hk=>exact Fa s (i+1) 2 (by omega));(case h2=>rfl);(case h3=>first|exact .inl rfl|exact .inr rfl);simp only[Qa,seval]))
 all_goals(refine hQ _ _ ?_ h0 h1 h5 rfl)
 all_goals simp only[Qn1,QpZ,Qoq,bne_eq_false_iff_eq,ne_eq]at *
 all_goals
  constructor
  ·intro hh
   first
    |cases hh
    |(refine⟨by omega,?_⟩;first|exact hh|(refine⟨by omega,?_⟩;first|exact hh|(refine⟨by omega,?_⟩;exact hh))|exact⟨by assumption,hh⟩)
  ·intro hh
   first
    |exact hh.2.2.2
    |exact hh.2.2
    |(exfalso;omega)
    |(exfalso;simp_all;done)
theorem QhC:CA s i c 72 (c.toNat=240∧bt s (i+1) 144 191=true∧tl s (i+2) 2=true) B4:=by
 intro Q hQ f h0 h1 h5;have e1:IntKind.i64.wrap ((i:Int)+1)=((i+1:Nat):Int):=KZ i 1 (by omega);have e2:IntKind.i64.wrap ((i:Int)+2)=((i+2:Nat):Int):=KZ i 2 (by omega);simp only[B4,h5,Qa,seval]
 repeat' (first|(refine Q3 (fun h=>?_) (fun h=>?_)<;>simp only[h,h0,h1,h5,e1,e2,eE,seval])|(refine XZ (fun h=>?_) (fun h=>?_)<;>simp only[h,Ql,h0,h1,e1,e2,Qa,seval])|(refine X0 (fun h=>?_) (fun h=>?_)<;>simp only[h,Ql,h0,h1,h5,e1,e2,eE,seval])|((with_reducible apply Zf (k:=280));(case hy=>rfl);(case h1=>rfl);(case hk=>exact Cz s (i+1) 144 191);(case h2=>rfl);(case h3=>first|exact .inl rfl|exact .inr rfl);simp only[Qa,seval])|((with_reducible apply Zf (k:=279));(case hy=>rfl);(case h1=>rfl);(case hk=>exact Fa s (i+2) 2 (by omega));(case h2=>rfl);(case h3=>first|exact .inl rfl|exact .inr rfl);simp only[Qa,seval]))
 all_goals(refine hQ _ _ ?_ h0 h1 h5 rfl)
 all_goals simp only[Qn2,QpK,ne_eq]at *
 all_goals
  constructor
  ·intro hh
   first
    |cases hh
    |(refine⟨by omega,?_⟩;first|exact hh|(refine⟨by omega,?_⟩;first|exact hh|(refine⟨by omega,?_⟩;exact hh))|exact⟨by assumption,hh⟩)
  ·intro hh
   first
    |exact hh.2.2.2
    |exact hh.2.2
    |(exfalso;omega)
    |(exfalso;simp_all;done)
theorem QhD:CA s i c 87 (241≤c.toNat∧c.toNat≤243∧tl s (i+1) 3=true) B5:=by
 intro Q hQ f h0 h1 h5;have e1:IntKind.i64.wrap ((i:Int)+1)=((i+1:Nat):Int):=KZ i 1 (by omega);have e2:IntKind.i64.wrap ((i:Int)+2)=((i+2:Nat):Int):=KZ i 2 (by omega);simp only[B5,h5,Qa,seval]
 repeat' (first|(refine Q3 (fun h=>?_) (fun h=>?_)<;>simp only[h,h0,h1,h5,e1,e2,eE,seval])|(refine XZ (fun h=>?_) (fun h=>?_)<;>simp only[h,Ql,h0,h1,h5,e1,Qa,seval])|(refine X0 (fun h=>?_) (fun h=>?_)<;>simp only[h,Ql,h0,h1,h5,e1,e2,eE,seval])|((with_reducible apply Zf (k:=279));(case hy=>rfl);(case h1=>rfl);(case hk=>exact Fa s (i+1) 3 (by omega));(case h2=>rfl);(case h3=>first|exact .inl rfl|exact .inr rfl);simp only[Qa,seval]))
 all_goals(refine hQ _ _ ?_ h0 h1 h5 rfl)
 all_goals simp only[Qn1,QpZ]at *
 all_goals
  constructor
  ·intro hh
   first
    |cases hh
    |(refine⟨by omega,?_⟩;first|exact hh|(refine⟨by omega,?_⟩;first|exact hh|(refine⟨by omega,?_⟩;exact hh))|exact⟨by assumption,hh⟩)
  ·intro hh
   first
    |exact hh.2.2.2
    |exact hh.2.2
    |(exfalso;omega)
    |(exfalso;simp_all;done)
theorem QhE:CA s i c 100 (c.toNat=244∧bt s (i+1) 128 143=true∧tl s (i+2) 2=true) B6:=by
 intro Q hQ f h0 h1 h5;have e1:IntKind.i64.wrap ((i:Int)+1)=((i+1:Nat):Int):=KZ i 1 (by omega);have e2:IntKind.i64.wrap ((i:Int)+2)=((i+2:Nat):Int):=KZ i 2 (by omega);simp only[B6,h5,Qa,seval]
 repeat' (first|(refine Q3 (fun h=>?_) (fun h=>?_)<;>simp only[h,h0,h1,h5,e1,e2,eE,seval])|(refine XZ (fun h=>?_) (fun h=>?_)<;>simp only[h,Ql,h0,h1,e1,e2,Qa,seval])|(refine X0 (fun h=>?_) (fun h=>?_)<;>simp only[h,Ql,h0,h1,h5,e1,e2,eE,seval])|((with_reducible apply Zf (k:=280));(case hy=>rfl);(case h1=>rfl);(case hk=>exact Cz s (i+1) 128 143);(case h2=>rfl);(case h3=>first|exact .inl rfl|exact .inr rfl);simp only[Qa,seval])|((with_reducible apply Zf (k:=279));(case hy=>rfl);(case h1=>rfl);(case hk=>exact Fa s (i+2) 2 (by omega));(case h2=>rfl);(case h3=>first|exact .inl rfl|exact .inr rfl);simp only[Qa,seval]))
 all_goals(refine hQ _ _ ?_ h0 h1 h5 rfl)
 all_goals simp only[Qn2,QpK,ne_eq]at *
 all_goals
  constructor
  ·intro hh
   first
    |cases hh
    |(refine⟨by omega,?_⟩;first|exact hh|(refine⟨by omega,?_⟩;first|exact hh|(refine⟨by omega,?_⟩;exact hh))|exact⟨by assumption,hh⟩)
  ·intro hh
   first
    |exact hh.2.2.2
    |exact hh.2.2
    |(exfalso;omega)
    |(exfalso;simp_all;done)
end
theorem Qkh (s:List UInt8)(i:Nat)(hi:i<s.length)(hs:s.length+8≤maxLen):Qg Tryz.prog 243 [.str s,.int .i64 (i:Nat)] (.int .i64 (sz s i:Nat)):=by
 refine Qjg.fn (by simp) ?_;obtain⟨c,hc⟩:∃c,s[i]? = some c:=⟨s[i],QnX hi⟩;have hz:sz s i=NQ s i c.toNat:=by simp only[sz,hc]
 unfold NQ at hz;simp only[TL,TM,TN,TO,TP,TQ,TR,Pr,Ps,Pt,Pu,Pv,QeK,QeL,Qp,Qpq,hc,Qa,seval];refine Q3 (fun h=>?_) (fun h=>?_)
 ·have h:c.toNat<128:=by simp at h;omega
  rw[hz,Qn5 h];simp only[Qa,seval]
  try rfl
 have h:¬c.toNat<128:=by simp at h;omega
 rw[hz,Qn4 h];simp only[Qa,seval];refine Qke hi hs _ (fun f B hB h0 h1 h5 hd=>?_) _ rfl rfl rfl;by_cases hB1:B=true
 ·rw[Qn5 (hB.1 hB1)];subst hB1;simp only[hd,Qa,seval]
  try rfl
 rw[Qn4 (fun hh=>hB1 (hB.2 hh))];have hB2:B=false:=by simpa using hB1
 subst hB2;simp only[hd,Qa,seval];refine Qkf hi hs _ (fun f B hB h0 h1 h5 hd=>?_) _ h0 h1 h5;by_cases hB1:B=true
 ·rw[Qn5 (hB.1 hB1)];subst hB1;simp only[hd,Qa,seval]
  try rfl
 rw[Qn4 (fun hh=>hB1 (hB.2 hh))];have hB2:B=false:=by simpa using hB1
 subst hB2;simp only[hd,Qa,seval];refine Qkg hi hs _ (fun f B hB h0 h1 h5 hd=>?_) _ h0 h1 h5;by_cases hB1:B=true
 ·rw[Qn5 (hB.1 hB1)];subst hB1;simp only[hd,Qa,seval]
  try rfl
 rw[Qn4 (fun hh=>hB1 (hB.2 hh))];have hB2:B=false:=by simpa using hB1
 subst hB2;simp only[hd,Qa,seval];refine QhB hi hs _ (fun f B hB h0 h1 h5 hd=>?_) _ h0 h1 h5;by_cases hB1:B=true
 ·rw[Qn5 (hB.1 hB1)];subst hB1;simp only[hd,Qa,seval]
  try rfl
 rw[Qn4 (fun hh=>hB1 (hB.2 hh))];have hB2:B=false:=by simpa using hB1
 subst hB2;simp only[hd,Qa,seval];refine QhC hi hs _ (fun f B hB h0 h1 h5 hd=>?_) _ h0 h1 h5;by_cases hB1:B=true
 ·rw[Qn5 (hB.1 hB1)];subst hB1;simp only[hd,Qa,seval]
  try rfl
 rw[Qn4 (fun hh=>hB1 (hB.2 hh))];have hB2:B=false:=by simpa using hB1
 subst hB2;simp only[hd,Qa,seval];refine QhD hi hs _ (fun f B hB h0 h1 h5 hd=>?_) _ h0 h1 h5;by_cases hB1:B=true
 ·rw[Qn5 (hB.1 hB1)];subst hB1;simp only[hd,Qa,seval]
  try rfl
 rw[Qn4 (fun hh=>hB1 (hB.2 hh))];have hB2:B=false:=by simpa using hB1
 subst hB2;simp only[hd,Qa,seval];refine QhE hi hs _ (fun f B hB h0 h1 h5 hd=>?_) _ h0 h1 h5;by_cases hB1:B=true
 ·rw[Qn5 (hB.1 hB1)];subst hB1;simp only[hd,Qa,seval]
  try rfl
 rw[Qn4 (fun hh=>hB1 (hB.2 hh))];have hB2:B=false:=by simpa using hB1
 subst hB2;simp only[hd,Qa,seval]
 try rfl
theorem LH (s:List UInt8)(i:Nat)(hi:i<s.length)(_h:sz s i≠0):i+sz s i≤s.length:=by
 have tl1:∀n j,tl s j n=true→n≠0→j+n≤s.length:=by
  intro n
  induction n with
  |zero=>intro j _ h;exact absurd rfl h
  |succ n ih=>
   intro j hj _;simp only[tl,Qol]at hj;have hb:j<s.length:=by
    have h1:=hj.1;unfold bt at h1;split at h1
    ·rename_i b hb;exact(QnW.1 hb).1
    ·cases h1
   by_cases h0:n=0
   ·subst h0;omega
   ·have:=ih (j+1) hj.2 h0;omega
 obtain⟨c,hc⟩:∃c,s[i]? = some c:=⟨s[i],QnX hi⟩;simp only[sz,hc]at _h ⊢;unfold NQ at _h ⊢
 (repeat' split)<;>first
  |omega
  |(rename_i hh;have:=tl1 _ _ hh.2.2 (by decide);omega)
  |(rename_i hh;have:=tl1 _ _ hh.2.2.2 (by decide);omega)
  |simp_all
def Qki (s:List UInt8)(k:Nat)(st:St):Prop :=
 ∃f i,st=⟨f,[Qb],[]⟩∧i≤s.length∧s.length-i≤k∧UJ s s.length 0=UJ s k i∧f 0=.str s∧f 3=.int .i64 (i:Nat)
theorem Qkj (s:List UInt8)(hs:s.length+8≤maxLen):Qg Tryz.prog 190 [.str s] (.int .i64 (UJ s s.length 0)):=by
 refine wF Tryz.func190 ?_;simp only[eK,Tryz.f190,seval];simp only[Qa,seval];refine Qi (Qki s) s.length ⟨_,0,rfl,Qn6 _,QnV _,rfl,rfl,rfl⟩ ?_;rintro k st ⟨f,i,rfl,hi,hk,hb,h0,h3⟩;simp only[h0,h3,Qa,seval];by_cases hlt:i<s.length
 ·simp only[QA hlt,h0,h3,Qa,seval];refine aC (Qkh s i hlt hs) ?_;obtain⟨k,rfl⟩:∃n,k=n+1:=⟨k-1,by omega⟩;have hbk:UJ s (k+1) i=if sz s i=0 then(i:Int)else UJ s k (i+sz s i):=by
   show(if i<s.length then _ else _)=_;rw[Qn5 hlt]
  by_cases hz:sz s i=0
  ·have b0:((sz s i:Int)==0)=true:=by simp[hz]
   simp only[b0,h3,hb,hbk,Qn5 hz,Qa,seval]
  ·have b0:((sz s i:Int)==0)=false:=by simp;omega
   have hle:=LH s i hlt hz;have e0:=KZ i (sz s i) (by omega);simp only[b0,h3,e0,Qa,seval];exact⟨k,by omega,_,i+sz s i,rfl,hle,by omega,by rw[hb,hbk,Qn4 hz],h0,rfl⟩
 ·have hbk:UJ s k i = -1:=by
   cases k with
   |zero=>rfl
   |succ k=>
    show(if i<s.length then _ else _)=_;rw[Qn4 hlt]
  simp only[QH hlt,hb,hbk,Qa,seval]
theorem Qe1 (s:List UInt8)(hs:s.length+8≤maxLen):Qg Tryz.prog 109 [.str s] (.bool (YK s)):=by
 refine wF Tryz.func109 ?_;simp only[eK,Tryz.f109,seval];simp only[Qa,seval];refine aC (Qkj s hs) ?_;simp only[Qa,seval]
 try rfl
def YI (s:List UInt8)(i:Nat):Bool:=(s.drop i).take 3==[239,191,189]
theorem Qkk (s t:List UInt8):Qg Tryz.prog 301 [.str s,.str t] (.bool (s.take t.length==t)):=by
 refine wF Tryz.func301 ?_;simp only[eK,Tryz.f301,seval];by_cases h:t.length≤s.length
 ·have d0:decide ((s.length:Int)≥(t.length:Int))=true:=by simp;omega
  have s1:(0≤t.length∧t.length≤s.length)=True:=by simp;omega
  simp only[d0,Qp,s1,Qpq,QP,QoW,QoF,Qa,seval]
 ·have d0:decide ((s.length:Int)≥(t.length:Int))=false:=by simp;omega
  have e0:(s.take t.length==t)=false:=by
   rw[QpK];intro hh;have:=congrArg List.length hh;simp at this;omega
  simp only[d0,e0,Qa,seval]
theorem Qkl (s t:List UInt8):Qg Tryz.prog 285 [.str s,.str t] (.bool (s.take t.length==t)):=by
 refine wF Tryz.func285 ?_;simp only[eK,Tryz.f285,seval];simp only[Qa,seval];refine aC (Qkk s t) ?_;simp only[Qa,seval]
theorem Qkm (s:List UInt8)(i:Nat)(hi:i≤s.length)(c:Nat):Qg Tryz.prog 251 [.str s,.int .i64 (i:Nat),.int .i32 (c:Nat)] (.bool (decide (c=65533) && !YI s i)):=by
 refine wF Tryz.func251 ?_;simp only[eK,Tryz.f251,seval];by_cases hc:c=65533
 ·have b0:((c:Int)==65533)=true:=by simp[hc]
  have s1:(i≤s.length∧s.length≤s.length)=True:=by simp;omega
  simp only[b0,Qp,s1,Qpq,Qa,seval];refine aC (Qkl (List.take (s.length-i) (List.drop i s)) [239,191,189]) ?_;have ht:List.take (s.length-i) (List.drop i s)=List.drop i s:=Qox (by simp);simp only[ht,YI,hc,Qa,seval]
 ·have b0:((c:Int)==65533)=false:=by simp;omega
  simp only[b0,hc,Qa,seval];simp
end Go.Proofs.YtgnfjkkfbcnbfaaGreatDoor.Va
namespace Go.Proofs.YtgnfjkkfbcnbfaaGreatDoor.Vp
def Wc:Nat→Nat→List UInt8
 |0,u=>[UInt8.ofNat u]
 |k+1,u=>if u<128 then [UInt8.ofNat u]else UInt8.ofNat (u % 128+128) :: Wc k (u / 128)
def put (u:Nat):List UInt8:=Wc 9 u
def Ky:Nat→Nat→List UInt8→Nat×Nat×Nat
 |_,_,[]=>(0,0,4)
 |i,acc,c :: t=>
  if i=9∧1<c.toNat then(0,0,6)
  else if c.toNat<128 then(acc+c.toNat*128 ^ i,i+1,0)
  else Ky (i+1) (acc+(c.toNat-128)*128 ^ i) t
def take (s:List UInt8):Nat×Nat×Nat:=Ky 0 0 s
theorem toNat_ofNat (n:Nat)(h:n<256):(UInt8.ofNat n).toNat=n:=by
 simp[UInt8.toNat_ofNat'];omega
theorem E6 (k u:Nat):1≤(Wc k u).length∧(Wc k u).length≤k+1:=by
 induction k generalizing u with
 |zero=>simp[Wc]
 |succ k ih=>
  unfold Wc;split
  ·simp
  ·have:=ih (u / 128);simp;omega
theorem put_len (u:Nat):1≤(put u).length∧(put u).length≤10:=E6 9 u
theorem Bc (k u:Nat)(h:u<128):Wc k u=[UInt8.ofNat u]:=by
 cases k<;>simp[Wc,h]
theorem CB (k u:Nat)(h:¬u<128):Wc (k+1) u=UInt8.ofNat (u % 128+128) :: Wc k (u / 128):=by
 simp[Wc,h]
def GA (i:Nat):Nat:=2 ^ (64-7*i)
theorem NR (i u:Nat)(hi:i<9)(h:u<GA i):u / 128<GA (i+1):=by
 unfold GA at *;have e:64-7*i=(64-7*(i+1))+7:=by omega
 rw[e,Nat.pow_add]at h;omega
theorem Qcj (k i acc u:Nat)(t:List UInt8)(hk:k+i=9)(hu:u<GA i) :
  Ky i acc (Wc k u++t)=(acc+u*128 ^ i,i+(Wc k u).length,0):=by
 induction k generalizing i acc u with
 |zero=>
  obtain rfl:i=9:=by omega
  have hu2:u<2:=by simpa [GA]using hu
  have hc:=toNat_ofNat u (by omega);simp only[Wc,Qoj,Qok,Ky,hc];rw[Qn4 (by omega),Qn5 (by omega)];rfl
 |succ k ih=>
  by_cases h:u<128
  ·have hc:=toNat_ofNat u (by omega);rw[Bc _ _ h];simp only[Qoj,Qok,Ky,hc];rw[Qn4 (by omega),Qn5 h];rfl
  ·have hc:=toNat_ofNat (u % 128+128) (by omega);rw[CB _ _ h];simp only[Qoj,Ky,hc];rw[Qn4 (by omega),Qn4 (by omega),ih (i+1) _ (u / 128) (by omega) (NR i u (by omega) hu)];have e:acc+(u % 128+128-128)*128 ^ i+u / 128*128 ^ (i+1)=acc+u*128 ^ i:=by
    rw[Nat.pow_succ,Nat.add_sub_cancel,QnT,Nat.mul_comm (128 ^ i) 128,←Nat.mul_assoc,←Qoy];congr 2;omega
   rw[e];simp only[Qoc,Qpt,QoO,and_true];omega
theorem Yf (u:Nat)(t:List UInt8)(h:u<2 ^ 64):take (put u++t)=(u,(put u).length,0):=by
 have:=Qcj 9 0 0 u t rfl (by simpa [GA]using h)
 simpa [take,put]using this
theorem Sa (i acc:Nat)(s:List UInt8)(hi:i≤9)(ha:acc<128 ^ i)(h:(Ky i acc s).2.2=0) :
  i<(Ky i acc s).2.1∧(Ky i acc s).2.1≤i+s.length∧(Ky i acc s).2.1≤10∧(Ky i acc s).1<2 ^ 64:=by
 induction s generalizing i acc with
 |nil=>simp[Ky]at h
 |cons c t ih=>
  unfold Ky at h ⊢;split
  ·rename_i h1;rw[Qn5 h1]at h;simp at h
  ·rename_i h1;rw[Qn4 h1]at h;have hp:128 ^ i=2 ^ (7*i):=by rw[show(128:Nat)=2 ^ 7 from rfl,←Nat.pow_mul]
   split
   ·rename_i h2;refine⟨Nat.lt_succ_self i,by simp,by show i+1≤10;omega,?_⟩;show acc+c.toNat*128 ^ i<2 ^ 64;rcases Nat.lt_or_ge i 9 with h9|h9
    ·have:c.toNat*128 ^ i≤127*128 ^ i:=Qo3 _ (by omega);have h3:acc+c.toNat*128 ^ i<128 ^ (i+1):=by rw[Nat.pow_succ];omega
     have h4:128 ^ (i+1)≤128 ^ 9:=Nat.pow_le_pow_right (by omega) (by omega);omega
    ·obtain rfl:i=9:=by omega
     have:c.toNat≤1:=by omega
     omega
   ·rename_i h2;rw[Qn4 h2]at h;have h9:i<9:=by
     rcases Nat.lt_or_ge i 9 with h9|h9
     ·exact h9
     ·exact absurd ⟨by omega,by omega⟩ h1
    have hc:=c.toNat_lt;have h3:acc+(c.toNat-128)*128 ^ i<128 ^ (i+1):=by
     have:(c.toNat-128)*128 ^ i≤127*128 ^ i:=Qo3 _ (by omega);rw[Nat.pow_succ];omega
    obtain⟨a,b,d,e⟩:=ih (i+1) _ (by omega) h3 h;exact⟨by omega,by simp;omega,d,e⟩
theorem U0 (s:List UInt8)(h:(take s).2.2=0):0<(take s).2.1∧(take s).2.1≤s.length∧(take s).2.1≤10∧(take s).1<2 ^ 64:=by
 have:=Sa 0 0 s (by omega) (by omega) h
 simpa [take]using this
theorem Sb (i acc:Nat)(s t:List UInt8)(h:(Ky i acc s).2.2≠4):Ky i acc (s++t)=Ky i acc s:=by
 induction s generalizing i acc with
 |nil=>simp[Ky]at h
 |cons c r ih=>
  simp only[Qoj];unfold Ky at h ⊢;split
  ·rfl
  ·rename_i h1;rw[Qn4 h1]at h;split
   ·rfl
   ·rename_i h2;rw[Qn4 h2]at h;exact ih _ _ h
theorem Qck (i acc:Nat)(s:List UInt8)(hi:i≤9)(hl:10≤i+s.length):(Ky i acc s).2.2≠4:=by
 induction s generalizing i acc with
 |nil=>simp at hl;omega
 |cons c r ih=>
  unfold Ky;split
  ·simp
  ·rename_i h1;split
   ·simp
   ·rename_i h2;exact ih _ _ (by omega) (by simp at hl;omega)
theorem take_take (s:List UInt8):take (s.take 10)=take s:=by
 rcases Nat.lt_or_ge s.length 10 with h|h
 ·rw[Qox (by omega)]
 ·have:=Sb 0 0 (s.take 10) (s.drop 10) (Qck 0 0 _ (by omega) (by simp;omega));rw[Qpf]at this;exact this.symm
end Go.Proofs.YtgnfjkkfbcnbfaaGreatDoor.Vp
namespace Go.Proofs.YtgnfjkkfbcnbfaaGreatDoor.Va
open Go Am Rc Bt Vp
theorem K4 (s:List UInt8)(j:Nat)(c:UInt8)(h:s[j]? = some c):(⟨⟨s⟩⟩:ByteArray).get! j=c:=by
 show(⟨s⟩:Array UInt8)[j]! = c;simp[h]
theorem Nc (a:UInt8)(n:Nat)(hn:n<256):(a==UInt8.ofNat n)=decide (a.toNat=n):=by
 rw[QoR,Qn2,Qn1]
 constructor
 ·rintro rfl;rw[toNat_ofNat _ hn]
 ·intro h;rw[←UInt8.toNat_inj,toNat_ofNat _ hn,h]
set_option maxHeartbeats 4000000 in
theorem Qkn (s:List UInt8)(i:Nat)(a b c d:UInt8)(t:List UInt8)(hr:s.drop i=a :: b :: c :: d :: t):(decide ((X6 s i).1=65533) && !YI s i)=decide (sz s i=0)∧(sz s i≠0→(X6 s i).2=sz s i):=by
 have hsz:∀j,(s[i+j]? = (a :: b :: c :: d :: t)[j]?):=fun j=>by rw[←hr,QoD]
 have hn:ByteArray.size ⟨⟨s⟩⟩=s.length:=rfl;have hl:s.length=i+(a :: b :: c :: d :: t).length:=by
  have h:=congrArg List.length hr;simp at h ⊢;omega
 have h0:=hsz 0;have h1:=hsz 1;have h2:=hsz 2;have h3:=hsz 3;simp only[Qou]at h0;have g0:=K4 s i a h0;have g1:=K4 s (i+1) b h1;have g2:=K4 s (i+2) c h2;have g3:=K4 s (i+3) d h3;have l1:(i+1<s.length)=True:=by simp at hl ⊢;omega
 have l2:(i+2<s.length)=True:=by simp at hl ⊢;omega
 have l3:(i+3<s.length)=True:=by simp at hl ⊢;omega
 have wa:=a.toNat_lt;have wb:=b.toNat_lt;have wc:=c.toNat_lt;have wd:=d.toNat_lt;have hrep:YI s i=(decide (a.toNat=239)&&(decide (b.toNat=191)&&decide (c.toNat=189))):=by
  rw[←Nc a 239 (by decide),←Nc b 191 (by decide),←Nc c 189 (by decide)];simp[YI,hr]
 simp only[Qo4,Qo0]at h0 h1 h2 h3;generalize hD:X6 s i=D;generalize hS:sz s i=S;rw[hrep];simp only[X6,Utf8.decode,Utf8.valid,Utf8.runeError,hn,l1,l2,l3,Qou,g0,g1,g2,g3,sz,h0,NQ,tl,bt,QnT,seval,h1,h2,h3,decide_true,QpE,Qpb,Qol,Qn0,Qn1,Qn2,ge_iff_le]at hD hS;clear hsz hr hl h0 h1 h2 h3 g0 g1 g2 g3 l1 l2 l3 hrep hn;generalize a.toNat=x at *;generalize b.toNat=y at *;generalize c.toNat=z at *;generalize d.toNat=u at *
 (repeat' split at hD)<;>subst hD<;>(repeat' split at hS)<;>subst hS<;>refine⟨?_,?_⟩<;>(try rw[QoR])<;>(try simp only[Qol,Qn1,QoV,Qp2,QpZ])<;>first|omega|(intro _;rfl)|(simp;done)|(simp;omega)
theorem E7 (s:List UInt8)(i:Nat)(hi:i<s.length):(decide ((X6 s i).1=65533) && !YI s i)=decide (sz s i=0)∧(sz s i≠0→(X6 s i).2=sz s i):=by
 have hsz:∀j,(s[i+j]? = (s.drop i)[j]?):=fun j=>by rw[QoD]
 have hn:ByteArray.size ⟨⟨s⟩⟩=s.length:=rfl;have hl:s.length=i+(s.drop i).length:=by simp;omega
 generalize hr:s.drop i=r at hsz hl;have h0:=hsz 0;have h1:=hsz 1;have h2:=hsz 2;have h3:=hsz 3;simp only[Qou]at h0
 match r,hl with
 | [],hl=>simp at hl;omega
 | [a],hl=>
  have g0:=K4 s i a h0;have l1:(i+1<s.length)=False:=by simp at hl ⊢;omega
  have l2:(i+2<s.length)=False:=by simp at hl ⊢;omega
  have l3:(i+3<s.length)=False:=by simp at hl ⊢;omega
  have wa:=a.toNat_lt;have hrep:YI s i=false:=by simp[YI,hr]
  simp only[Qo4,List.getElem?_nil,Qo0]at h0 h1 h2 h3;simp only[X6,Utf8.decode,Utf8.runeError,hn,l1,l2,l3,Qou,g0,sz,h0,NQ,tl,bt,QnT,seval,h1,h2,h3,hrep,decide_false,Qpu,QpG,Qpb,Qog,and_false]
  (repeat' split)<;>refine⟨?_,?_⟩<;>(try rw[QoR])<;>(try simp only[Qn1,Qo5,Qpb])<;>first|omega|(intro _;rfl)|(intro _;omega)|(simp;done)|(simp;omega)
 | [a,b],hl=>
  have g0:=K4 s i a h0;have g1:=K4 s (i+1) b h1;have l1:(i+1<s.length)=True:=by simp at hl ⊢;omega
  have l2:(i+2<s.length)=False:=by simp at hl ⊢;omega
  have l3:(i+3<s.length)=False:=by simp at hl ⊢;omega
  have wa:=a.toNat_lt;have wb:=b.toNat_lt;have hrep:YI s i=false:=by simp[YI,hr]
  simp only[Qo4,List.getElem?_nil,Qo0]at h0 h1 h2 h3;simp only[X6,Utf8.decode,Utf8.runeError,hn,l1,l2,l3,Qou,g0,g1,sz,h0,NQ,tl,bt,QnT,seval,h1,h2,h3,hrep,decide_false,decide_true,Qpu,QpG,QpE,Qpb,Qog,and_false,Qol,Qn1,Qn2,ge_iff_le]
  (repeat' split)<;>refine⟨?_,?_⟩<;>(try rw[QoR])<;>(try simp only[Qn1,Qo5,Qpb])<;>first|omega|(intro _;rfl)|(intro _;omega)|(simp;done)|(simp;omega)
 | [a,b,c],hl=>
  have g0:=K4 s i a h0;have g1:=K4 s (i+1) b h1;have g2:=K4 s (i+2) c h2;have l1:(i+1<s.length)=True:=by simp at hl ⊢;omega
  have l2:(i+2<s.length)=True:=by simp at hl ⊢;omega
  have l3:(i+3<s.length)=False:=by simp at hl ⊢;omega
  have wa:=a.toNat_lt;have wb:=b.toNat_lt;have wc:=c.toNat_lt;have hrep:YI s i=(decide (a.toNat=239)&&(decide (b.toNat=191)&&decide (c.toNat=189))):=by
   rw[←Nc a 239 (by decide),←Nc b 191 (by decide),←Nc c 189 (by decide)];simp[YI,hr]
  simp only[Qo4,List.getElem?_nil,Qo0]at h0 h1 h2 h3;simp only[X6,Utf8.decode,Utf8.valid,Utf8.runeError,hn,l1,l2,l3,Qou,g0,g1,g2,sz,h0,NQ,tl,bt,QnT,seval,h1,h2,h3,hrep,decide_false,decide_true,Qpu,QpG,QpE,Qpb,Qog,and_false,Qol,Qn0,Qn1,Qn2,ge_iff_le]
  (repeat' split)<;>refine⟨?_,?_⟩<;>(try rw[QoR])<;>(try simp only[Qol,Qn1,QoV,QpZ,Qp2])<;>first|omega|(intro _;rfl)|(intro _;omega)|(simp;done)|(simp;omega)
 |a :: b :: c :: d :: t,hl=>exact Qkn s i a b c d t hr
def Qko (s:List UInt8)(k:Nat)(st:St):Prop :=
 ∃f fr i,st=⟨f,[fr],[]⟩∧i≤s.length∧s.length-i≤k∧UJ s s.length 0=UJ s k i∧f 0=.str s∧f 6=.ptr 0 6 0∧fr 6=.iter (.str s) i
theorem Qkp (s:List UInt8):Qg Tryz.prog 204 [.str s] (.int .i64 (UJ s s.length 0)):=by
 refine wF Tryz.func204 ?_;simp only[eK,Tryz.f204,seval];simp only[Qa,seval];refine NI rfl rfl ?_;simp only[Qa,seval];refine Qi (Qko s) s.length ⟨_,_,0,rfl,Qn6 _,QnV _,rfl,rfl,rfl,rfl⟩ ?_;rintro k st ⟨f,fr,i,rfl,hi,hk,hb,h0,h6,m6⟩;simp only[Qa,seval];refine NJ h6 m6 (fun hlt=>?_) (fun hge=>?_)
 ·obtain⟨hd,hw⟩:=E7 s i hlt;obtain⟨k,rfl⟩:∃n,k=n+1:=⟨k-1,by omega⟩;have hbk:UJ s (k+1) i=if sz s i=0 then(i:Int)else UJ s k (i+sz s i):=by
   show(if i<s.length then _ else _)=_;rw[Qn5 hlt]
  have hwr:=Qkm s i hi (X6 s i).1;rw[hd]at hwr;generalize X6 s i=cw at hw hwr;obtain⟨c,w⟩:=cw;simp only[h0,Qa,seval];refine aC hwr ?_;by_cases hz:sz s i=0
  ·simp only[hz,decide_true,hb,hbk,Qa,seval]
  ·have hw:=hw hz;simp only at hw;have hle:=LH s i hlt hz;simp only[hz,decide_false,Qa,seval];exact⟨k,by omega,_,_,i+sz s i,rfl,hle,by omega,by rw[hb,hbk,Qn4 hz],h0,h6,by rw[←hw]<;>first|rfl|simp only[eE,seval]⟩
 ·have hbk:UJ s k i = -1:=by
   cases k with
   |zero=>rfl
   |succ k=>
    show(if i<s.length then _ else _)=_;rw[Qn4 (by omega)]
  simp only[hb,hbk,Qa,seval]
theorem Sc (s:List UInt8):Qg Tryz.prog 146 [.str s] (.bool (YK s)):=by
 refine wF Tryz.func146 ?_;simp only[eK,Tryz.f146,seval];simp only[Qa,seval];refine aC (Qkp s) ?_;simp only[Qa,seval]
 try rfl
end Go.Proofs.YtgnfjkkfbcnbfaaGreatDoor.Va
namespace Go.Proofs.YtgnfjkkfbcnbfaaGreatDoor.Va
open Go Am Rc Bt
def Kz (k:Int)(b:Nat):Bool :=
 if k=1 then decide ((b:Int)≤1)else if k=2 then decide (IntKind.i64.wrap (b:Int)≥-2147483648)&&decide (IntKind.i64.wrap (b:Int)≤2147483647)
 else if k=4 then decide ((b:Int)<4294967296)else if k=9 then decide ((b:Int)<2147483648)else true
theorem Qkq (k:Int)(b:Nat):Qg Tryz.prog 296 [.int .i64 k,.int .u64 (b:Nat)] (.bool (Kz k b)):=by
 have e1:decide ((b:Int)≤4294967295)=decide ((b:Int)<4294967296):=by rw[decide_eq_decide];omega
 have e2:decide ((b:Int)≤2147483647)=decide ((b:Int)<2147483648):=by rw[decide_eq_decide];omega
 refine wF Tryz.func296 ?_;simp only[eK,Tryz.f296,seval];simp only[Qa,seval];unfold Kz;by_cases h1:k=1
 ·subst h1;have b1:((1:Int)==1)=true:=rfl;simp only[b1,Qa,seval]
 ·have b1:(k==1)=false:=by simp[h1]
  by_cases h2:k=2
  ·subst h2;have b2:((2:Int)==2)=true:=rfl;simp only[b1,b2,h1,Qa,seval];cases hd:decide (IntKind.i64.wrap (b:Int)≥-2147483648)<;>simp only[QpE,Qpu,Qa,seval]
  ·have b2:(k==2)=false:=by simp[h2]
   by_cases h9:k=9
   ·subst h9;have b9:((9:Int)==9)=true:=rfl;simp only[b1,b2,b9,h1,h2,e2,Qa,seval]
   ·have b9:(k==9)=false:=by simp[h9]
    by_cases h4:k=4
    ·subst h4;have b4:((4:Int)==4)=true:=rfl;simp only[b1,b2,b9,b4,h1,h2,e1,Qa,seval]
    ·have b4:(k==4)=false:=by simp[h4]
     simp only[b1,b2,b9,b4,h1,h2,h4,h9,Qa,seval]
end Go.Proofs.YtgnfjkkfbcnbfaaGreatDoor.Va
namespace Go.Proofs.YtgnfjkkfbcnbfaaGreatDoor.Ev
open Go Am Rc
noncomputable def tab:V2:=fun k=>match k with
 |25=>some (r25,o25,54)
 |71=>some (Lh,Pq,8)
 |48=>some (r48,o48,93)
 |179=>some (QdU,QdV,95)
 |159=>some (R2,BZ,8)
 |213=>some (R3,B0,8)
 |k=>ct k
theorem Qe2:FV Tryz.prog tab:=by
 intro k c rs N h;unfold tab at h;split at h
 ·cases h;exact k25
 ·cases h;exact k71
 ·cases h;exact k48
 ·cases h;exact QdW
 ·cases h;exact EL
 ·cases h;exact EM
 ·exact Qgp h
def nat:YJ:=fun _ _ _=>none
theorem nat_ok:YQ Tryz.prog nat:=by
 intro k args m v m' h;cases h
end Go.Proofs.YtgnfjkkfbcnbfaaGreatDoor.Ev
namespace Go.Proofs.YtgnfjkkfbcnbfaaGreatDoor.Va
open Go Am Rc Bt
def vo (k:Int)(b:Nat)(t:List UInt8)(l p s r:List AV):AV:=.agg [.int .i64 k,.int .u64 (b:Nat),.str t,.list l,.list p,.list s,.list r]
section
variable (k:Int)(b:Nat)(t:List UInt8)(l p s r:List AV)
def Ue:Bool:=(l.length:Int)==0&&(p.length:Int)==0&&(s.length:Int)==0&&(r.length:Int)==0
def CC:Bool:=isk k&&Ue l p s r&&(b:Int)==0&&t==[]
def emp:Bool:=(k==11&&(l.length:Int)==0)||(k==12&&(p.length:Int)==0)||CC k b t l p s r
theorem y89:Qg Tryz.prog 89 [vo k b t l p s r] (.bool (Ue l p s r)):=by
 refine wF Tryz.func89 ?_;simp only[eK,Tryz.f89,seval];simp only[vo,Ue,eE,seval];cases h0:((l.length:Int)==0)<;>cases h1:((p.length:Int)==0)<;>cases h2:((s.length:Int)==0)<;>simp only[h1,h2,QpE,Qpu,eE,seval]
theorem Qe3 (hl:l.length≤140737488351232)(hp:p.length≤140737488351232)(hs:s.length≤140737488351232)(hr:r.length≤140737488351232) :
  Qg Tryz.prog 219 [vo k b t l p s r] (.bool (Ue l p s r&&(if Zx k=true then(b:Int)==0 else t==[]))):=by
 refine wF Tryz.func219 ?_;simp only[eK,Tryz.f219,seval];have w:IntKind.i64.wrap (IntKind.i64.wrap (IntKind.i64.wrap ((l.length:Int)+(p.length:Int))+(s.length:Int))+(r.length:Int))=(l.length+p.length+s.length+r.length:Nat):=by
  simp only[Qz];omega
 simp only[vo,w,eE,seval];by_cases h:l.length+p.length+s.length+r.length=0
 ·have d:decide (((l.length+p.length+s.length+r.length:Nat):Int) > 0)=false:=QpQ (by omega);have e:Ue l p s r=true:=by
   unfold Ue;simp only[Qol,Qn2];omega
  simp only[d,e,QpE,eE,seval];refine aC (QeP k) ?_;cases Zx k
  ·simp only[Qog,QP,eE,seval]
  ·simp only[eE,seval]
 ·have d:decide (((l.length+p.length+s.length+r.length:Nat):Int) > 0)=true:=QpY (by omega);have e:Ue l p s r=false:=by
   unfold Ue;rw[QpS];simp only[ne_eq,Qol,Qn2];omega
  simp only[d,e,Qpu,Qa,seval]
end
open Br
def key (o:PO):Bool:=if o.card=5 then decide (o.key≥1)&&decide (o.key≤7)&&o.key != 6 else o.key==0
def Bd (P:PL)(o:PO):Bool :=
 if o.kind=10 then decide (o.target≥0)&&decide (o.target<(P.progs.length:Int))&&o.card != 3
 else if o.kind=9 then decide (o.target≥0)&&decide (o.target<(P.enums.length:Int))else isk o.kind&&o.target == -1
def K0 (P:PL)(o:PO):Bool:=YK o.alias&&decide ((o.alias.length:Int)≤4096)&&decide (o.card≥1)&&decide (o.card≤5)&&key o&&Bd P o
def JX (o:PO):Bool:=o.union == -1||o.card==2
def Km:List PO→Int→Int→Option Int
 | [],n,_=>some n
 |o :: l,n,b=>if o.union=n then Km l (n+1) n else if o.union = -1∨o.union=b then Km l n o.union else none
def Kh (g:PG):Bool:=match Km g.ops 0 (-1)with
 |some n=>g.unions==n
 |none=>false
def XQ (k kd:Int)(b:Nat)(t:List UInt8)(l p s r:List AV):Bool :=
 isk k&&kd==k&&Ue l p s r&&(if Zx kd=true then(b:Int)==0 else t==[])&&Kz k b&&decide ((t.length:Int)≤4096)&&(k != 7||YK t)
def alias:List UInt8:=[97,108,105,97,115]
def nok:List AV→Bool
 | [.int _ kd,.int _ b,.str t,.list l,.list p,.list s,.list r]=>XQ 7 kd b.toNat t l p s r
 |_=>false
def W4 (i:PI):Bool:=match i.notes with
 | []=>true
 | [n]=>n.name==alias&&nok n.val
 |_=>false
def WM (P:PL)(g:PG):Bool:=Kh g&&g.ops.all fun o=>K0 P o&&JX o
def WN (x:PE):Bool:=x.notes.isEmpty&&x.items.all W4
def args (P:PL):Bool:=P.progs.all (WM P)&&P.enums.all WN
theorem Qcl {α:Type}(l:List α)(p q:α→Bool):(l.all fun x=>p x&&q x)=(l.all p&&l.all q):=by
 induction l with
 |nil=>rfl
 |cons x l ih=>
  simp only[Qo9,ih];cases p x<;>cases q x<;>cases l.all p<;>cases l.all q<;>rfl
theorem E8 (k kd:Int)(b:Nat)(t:List UInt8)(l p s r:List AV)(hl:l.length≤140737488351232)(hp:p.length≤140737488351232)(hs:s.length≤140737488351232)(hr:r.length≤140737488351232) :
  Qg Tryz.prog 277 [.int .i64 k,vo kd b t l p s r] (.bool (XQ k kd b t l p s r)):=by
 have hle:=Qe3 kd b t l p s r hl hp hs hr;have hw:=Qkq k b;simp only[vo]at hle;have n1:(kd != k)=!(kd==k):=rfl;have n2:(k != 7)=!(k==7):=rfl;have n3:decide ((t.length:Int) > 4096)=!decide ((t.length:Int)≤4096):=(by rw[QoR];simp only[Qn1,QoV,QpZ];omega);refine wF Tryz.func277 ?_;simp only[eK,Tryz.f277,seval];simp only[vo,XQ,n2,eE,seval];refine aC (B7 k) ?_;cases isk k
 ·simp only[Qpu,Qo5,Qa,seval]
 simp only[QpE,QpF,n1,eE,seval];cases a1:(kd==k)
 ·simp only[Qpu,Qo5,Qa,seval]
 simp only[QpE,QpF,eE,seval];refine aC hle ?_;cases(Ue l p s r&&(if Zx kd=true then(b:Int)==0 else t==[]))
 ·simp only[Qpu,Qo5,Qa,seval]
 simp only[QpE,QpF,eE,seval];refine aC hw ?_;cases Kz k b
 ·simp only[Qpu,Qo5,Qa,seval]
 simp only[QpE,QpF,n3,eE,seval];cases a2:decide ((t.length:Int)≤4096)
 ·simp only[Qpu,Qo5,Qa,seval]
 simp only[QpE,QpF,n2,Qa,seval];cases a3:(k==7)
 ·simp only[Qo5,QpI,Qa,seval]
 ·simp only[QpF,QpJ,eE,seval];refine aC (Sc t) ?_;simp only[Qa,seval]
theorem Qkr (o:PO):Qg Tryz.prog 147 [Qv o] (.bool (key o)):=by
 refine wF Tryz.func147 ?_;simp only[eK,Tryz.f147,seval];simp only[Qv,PO.cells,key,eE,seval];by_cases h:o.card=5
 ·have b0:(o.card != 5)=false:=by simp[h]
  simp only[b0,Qn5 h,eE,seval];cases a1:decide (o.key≥1)<;>cases a2:decide (o.key≤7)<;>simp only[a2,QpE,Qpu,eE,seval]
 ·have b0:(o.card != 5)=true:=by simp[h]
  simp only[b0,Qn4 h,eE,seval]
section
variable (P:PL)
theorem Qks (o:PO):Qg Tryz.prog 148 [P.av,Qv o] (.bool (Bd P o)):=by
 have e0:P.av=.agg [.list (P.progs.map Qn),.list (P.enums.map QC)]:=rfl;refine wF Tryz.func148 ?_;simp only[eK,Tryz.f148,seval];simp only[e0,Qv,PO.cells,Bd,eE,seval];by_cases h:o.kind=10
 ·have b0:(o.kind==10)=true:=by simp[h]
  simp only[b0,Qn5 h,eE,seval];cases a1:decide (o.target≥0)<;>cases a2:decide (o.target<(P.progs.length:Int))<;>simp only[a2,QpE,Qpu,QoS,eE,seval]
 ·have b0:(o.kind==10)=false:=by simp[h]
  by_cases h9:o.kind=9
  ·have b1:(o.kind==9)=true:=by simp[h9]
   simp only[b0,b1,Qn4 h,Qn5 h9,eE,seval];cases a1:decide (o.target≥0)<;>simp only[QpE,Qpu,QoS,eE,seval]
  ·have b1:(o.kind==9)=false:=by simp[h9]
   simp only[b0,b1,Qn4 h,Qn4 h9,eE,seval];refine aC (B7 o.kind) ?_;cases isk o.kind<;>simp only[QpE,Qpu,eE,seval]
def UnI (g:PG)(k:Nat)(st:St):Prop :=
 ∃f fr i n b,st=⟨f,[fr],[]⟩∧k=g.ops.length-i∧i≤g.ops.length∧(g.ops.take i).all JX=true∧Km g.ops 0 (-1)=Km (g.ops.drop i) n b∧0≤n∧n≤i∧-1≤b∧b<n∧f 1=.ptr 0 1 0∧f 3=.int .i64 (n-1)∧f 4=.int .i64 b∧
  f 8=.list (g.ops.map fun o=>.agg o.cells)∧f 9=.int .i64 (g.ops.length:Nat)∧f 10=.int .i64 (i:Nat)∧fr 1=.cells g.cells∧∀s∈[6],(fr s).isRow=false
theorem Be {l:List PO}{i:Nat}{o:PO}(h:l[i]? = some o)(n b:Int):Km (l.drop i) n b=if o.union=n then Km (l.drop (i+1)) (n+1) n else if o.union = -1∨o.union=b then Km (l.drop (i+1)) n o.union else none:=by
 have hlt:i<l.length:=(QnW.1 h).1;rw[QoG hlt,show l[i]=o from(QnW.1 h).2];rfl
theorem Qkt (g:PG)(hl:g.ops.length≤9223372036854775000):Qg Tryz.prog 144 [Qn g] (.bool (g.ops.all JX&&Kh g)):=by
 refine wF Tryz.func144 ?_;simp only[eK,Tryz.f144,seval];simp only[Qn,PG.cells,QoS,eE,seval];refine Qi (UnI g) _ ⟨_,_,0,0,-1,rfl,rfl,Qn6 _,rfl,rfl,by decide,by decide,by decide,by decide,rfl,rfl,rfl,rfl,rfl,rfl,rfl,by simp<;>rfl⟩ ?_;rintro _ st ⟨f0,fr0,i,n,b,rfl,rfl,hil,hu,hj,hn0,hni,hb1,hbn,h10,h30,h40,h80,h90,hA0,m10,r6⟩;refine QL (a:=_) [6] r6 ?_;intro f fr hf hm hn6;have h1:f 1=.ptr 0 1 0:=by rw[hf,h10]<;>rfl
 have h3:f 3=.int .i64 (n-1):=by rw[hf,h30]<;>rfl
 have h4:f 4=.int .i64 b:=by rw[hf,h40]<;>rfl
 have h8:f 8=.list (g.ops.map fun o=>.agg o.cells):=by rw[hf,h80]<;>rfl
 have h9:f 9=.int .i64 (g.ops.length:Nat):=by rw[hf,h90]<;>rfl
 have hA:f 10=.int .i64 (i:Nat):=by rw[hf,hA0]<;>rfl
 have m1:fr 1=.cells g.cells:=by rw[hm 1 (by decide),m10]<;>rfl
 have n6:=hn6 6 (by decide);clear hf hm hn6 h10 h30 h40 h80 h90 hA0 m10 r6;simp only[PG.cells]at m1;have w0:IntKind.i64.wrap (n-1+1)=n:=by rw[Qz];omega
 simp only[h9,hA,Qa,seval];by_cases hlt:i<g.ops.length
 ·obtain⟨o,hi⟩:∃o,g.ops[i]? = some o:=⟨g.ops[i],QnX hlt⟩;have hg:(g.ops.map fun o=>AV.agg o.cells)[i]? = some (.agg o.cells):=by simp[hi]
  have e1:=Qs i _ hlt (by simp only[maxLen];omega);have ht:=HE (q:=JX) hi;rw[hu,QpE]at ht;have hbad:JX o=false→g.ops.all JX=false:=fun h=>by
   rw[QpS];intro h';rw[Qoa.1 h' o (Qob hi)]at h;cases h
  rw[Be hi]at hj;have fin:∀(f':Fr) (fr':Nat→Ob) (n':Int),JX o=true→(if o.union=n then n'=n+1 else n'=n)→Km g.ops 0 (-1)=Km (g.ops.drop (i+1)) n' o.union→(o.union=n∨o.union = -1∨o.union=b)→f' 1=.ptr 0 1 0→f' 3=.int .i64 (n'-1)→f' 4=.int .i64 o.union→
    f' 8=.list (g.ops.map fun o=>.agg o.cells)→f' 9=.int .i64 (g.ops.length:Nat)→f' 10=.int .i64 ((i+1:Nat):Int)→fr' 1=.cells g.cells→(∀s∈[6],(fr' s).isRow=false)→∃k,k<g.ops.length-i∧UnI g k ⟨f',[fr'],[]⟩:=by
   intro f' fr' n' a b' c d e1 e3 e4 e8 e9 eA em er;refine⟨g.ops.length-(i+1),by omega,f',fr',i+1,n',o.union,rfl,rfl,by omega,by rw[ht,a],c,?_,?_,?_,?_,e1,e3,e4,e8,e9,eA,em,er⟩<;>split at b'<;>omega
  simp only[PO.cells]at hg;simp only[QA hlt,Qp,Qpq,Qf,hg,PO.cells,n6,h8,hA,eE,seval];by_cases a1:o.union = -1
  ·have b1:(o.union != -1)=false:=by simp[a1]
   have hk:JX o=true:=by simp[JX,a1]
   rw[Qn4 (by omega),Qn5 (.inl a1)]at hj;have mx:(if n-1<o.union then o.union else n-1)=n-1:=Qn4 (by omega);simp only[b1,h3,hA,mx,e1,eE,seval];exact fin _ _ n hk (by rw[Qn4 (by omega)]) hj (.inr (.inl a1)) h1 rfl rfl h8 h9 rfl m1 (by simp<;>rfl)
  have b1:(o.union != -1)=true:=by simp[a1]
  by_cases a2:o.card=2
  case neg=>
   have b2:(o.card != 2)=true:=by simp[a2]
   have hk:JX o=false:=by simp[JX,a1,a2]
   simp only[b1,b2,hbad hk,Qpu,eE,seval]
  have b2:(o.card != 2)=false:=by simp[a2]
  have hk:JX o=true:=by simp[JX,a2]
  by_cases a3:o.union=n
  ·have b3:(o.union != n)=false:=by simp[a3]
   rw[Qn5 a3,←a3]at hj;have mx:(if n-1<o.union then o.union else n-1)=o.union:=Qn5 (by omega);simp only[b1,b2,b3,h3,hA,w0,mx,e1,eE,seval];exact fin _ _ (o.union+1) hk (by rw[Qn5 a3,a3]) hj (.inl a3) h1 (by simp only[Qa,seval];congr 1;omega) rfl h8 h9 rfl m1 (by simp<;>rfl)
  have b3:(o.union != n)=true:=by simp[a3]
  by_cases a4:o.union=b
  ·have b4:(o.union != b)=false:=by simp[a4]
   rw[Qn4 a3,Qn5 (.inr a4)]at hj;have mx:(if n-1<o.union then o.union else n-1)=n-1:=Qn4 (by omega);simp only[b1,b2,b3,b4,h3,h4,hA,w0,mx,e1,eE,seval];exact fin _ _ n hk (by rw[Qn4 a3]) hj (.inr (.inr a4)) h1 rfl rfl h8 h9 rfl m1 (by simp<;>rfl)
  ·have b4:(o.union != b)=true:=by simp[a4]
   rw[Qn4 a3,Qn4 (by omega)]at hj;have hun:Kh g=false:=by unfold Kh;rw[hj]
   simp only[b1,b2,b3,b4,hun,QpG,h3,h4,w0,eE,seval]
 ·rw[Qox (by omega)]at hu;rw[QoA (by omega)]at hj;have hun:Kh g=(g.unions==n):=by unfold Kh;rw[hj];rfl
  simp only[QH hlt,h1,h3,m1,w0,hu,hun,QpE,eE,seval]
theorem Qku (o:PO)(fr2 fr:Nat→Ob)(h1:fr 1=.cells [.list (P.progs.map Qn),.list (P.enums.map QC)]):Qe Tryz.prog 145 [Qv o,.ptr 7 1 0] [Qb,Qb,Qb,fr2,Qb,Qb,Qb,fr] fun y m1=>y=.bool (!K0 P o)∧m1=[Qb,Qb,Qb,fr2,Qb,Qb,Qb,fr]:=by
 have n1:decide ((o.alias.length:Int) > 4096)=!decide ((o.alias.length:Int)≤4096):=(by rw[QoR];simp only[Qn1,QoV,QpZ];omega);have n2:decide (o.card<1)=!decide (o.card≥1):=(by rw[QoR];simp only[Qn1,QoV,QpZ];omega);have n3:decide (o.card > 5)=!decide (o.card≤5):=(by rw[QoR];simp only[Qn1,QoV,QpZ];omega);have hk:=Qkr o;have ha:Qg Tryz.prog 148 [.agg [.list (P.progs.map Qn),.list (P.enums.map QC)],Qv o] (.bool (Bd P o)):=Qks P o;simp only[Qv,PO.cells]at hk ha;refine wG Tryz.func145 ?_;simp only[eK,Tryz.f145,seval];simp only[Qv,PO.cells,K0,eE,seval];refine aC (Sc o.alias) ?_;cases YK o.alias
 ·simp only[Qpu,Qo5,Qa,seval]
 simp only[QpE,QpF,n1,eE,seval];cases a1:decide ((o.alias.length:Int)≤4096)
 ·simp only[Qpu,Qo5,Qa,seval]
 simp only[n2,QpE,QpF,eE,seval];cases a2:decide (o.card≥1)
 ·simp only[Qpu,Qo5,Qa,seval]
 simp only[n3,QpE,QpF,eE,seval];cases a3:decide (o.card≤5)
 ·simp only[Qpu,Qo5,Qa,seval]
 simp only[QpE,QpF,eE,seval];refine aC hk ?_;cases key o
 ·simp only[Qpu,Qo5,Qa,seval]
 simp only[QpE,QpF,h1,eE,seval];refine aC ha ?_;simp only[Qa,seval]
theorem Qkv (g:PG)(hl:g.ops.length≤9223372036854775000)(fr:Nat→Ob)(h1:fr 1=.cells [.list (P.progs.map Qn),.list (P.enums.map QC)]) :
  Qe Tryz.prog 143 [Qn g,.ptr 3 1 0] [Qb,Qb,Qb,fr] fun y m1=>y=.bool (!WM P g)∧m1=[Qb,Qb,Qb,fr]:=by
 have hu:=Qkt g hl;have e:WM P g=((g.ops.all JX&&Kh g)&&g.ops.all (K0 P)):=by
  unfold WM;rw[show(g.ops.all fun o=>K0 P o&&JX o)=(g.ops.all (K0 P)&&g.ops.all JX)from Qcl ..];cases Kh g<;>cases g.ops.all (K0 P)<;>cases g.ops.all JX<;>rfl
 simp only[Qn,PG.cells]at hu;refine wG Tryz.func143 ?_;simp only[eK,Tryz.f143,seval];simp only[Qn,PG.cells,e,eE,seval];refine aC hu ?_;cases(g.ops.all JX&&Kh g)
 ·simp only[Qpu,Qo5,Qa,seval]
 simp only[QpE,QpF,eE,seval];refine Qh (Cu g.ops (by simp only[maxLen];omega) (fun o=>!K0 P o) 145 [.ptr 4 1 0] _ fun o _=>Qku P o _ fr h1) (by simp only[Qov,QoZ,Qa,seval]<;>rfl) ?_;simp only[X8,Qa,seval]
end
noncomputable def Sd:V2:=fun k=>match k with
 |252=>some (rk 252 Tryz.f252,Cg.rs Tryz.f252,Tryz.f252.ntmps)
 |_=>none
theorem Pz:FV Tryz.prog Sd:=by
 intro k c rs N h;unfold Sd at h;split at h
 ·cases h;exact kc Tryz.func252 rfl (by decide)
 ·cases h
def T9:Option (AV×Qj)→Bool
 |some (.mp ks vs,_)=>match K6 alias ks vs with
  |some (.agg [.int .i64 a,.int .i64 b])=>a==7&&b==84
  |_=>false
 |_=>false
theorem Aa:T9 (U8 Ev.nat Sd (Ki Ev.nat Sd 300) 252 [] [])=true:=by decide +kernel
theorem Qe5:∃ks vs,Qg Tryz.prog 252 [] (.mp ks vs)∧K6 alias ks vs=some (.agg [.int .i64 7,.int .i64 84]):=by
 have h:=Aa;unfold T9 at h;split at h
 ·rename_i ks vs m' h1;split at h
  ·rename_i a b h2;simp only[Qol,Qn2]at h;obtain⟨rfl,rfl⟩:=h;exact⟨ks,vs,(UE Ev.nat_ok Pz (TA Ev.nat_ok Pz 300) _ _ _ _ _ h1).mono fun _ _ e=>e.1,h2⟩
  ·cases h
 ·cases h
theorem Qkw:Qg Tryz.prog 286 [.str alias] (.int .i64 7):=by
 obtain⟨ks,vs,h1,h2⟩:=Qe5;have hg:AV.gr (.agg [.int .i64 7,.int .i64 84])=true:=rfl;refine wF Tryz.func286 ?_;simp only[eK,Tryz.f286,seval];simp only[Qa,seval];refine aC h1 ?_;simp only[Uw,h2,hg,Qa,seval]
section
variable (kd:Int)(b:Nat)(t:List UInt8)(l p s r:List AV)(hl:l.length≤140737488351232)(hp:p.length≤140737488351232)(hs:s.length≤140737488351232)(hr:r.length≤140737488351232)
def nv:AV:=.agg [.str alias,.int .i64 kd,.int .u64 (b:Nat),.str t,.list l,.list p,.list s,.list r]
include hl hp hs hr in
theorem Qkx:Qg Tryz.prog 253 [nv kd b t l p s r] (.bool (XQ 7 kd b t l p s r)):=by
 have hf:=E8 7 kd b t l p s r hl hp hs hr;have b0:((7:Int) != 0)=true:=rfl;simp only[vo]at hf;refine wF Tryz.func253 ?_;simp only[eK,Tryz.f253,seval];simp only[nv,eE,seval];refine aC Qkw ?_;simp only[b0,eE,seval];refine aC hf ?_;simp only[Qa,seval]
include hl hp hs hr in
theorem Qky (last:List UInt8):Qg Tryz.prog 206 [nv kd b t l p s r,.int .i64 4,.str last,.bool false] (.int .i64 (if XQ 7 kd b t l p s r=true then 0 else 12)):=by
 have hf:=Qkx kd b t l p s r hl hp hs hr;obtain⟨ks,vs,h1,h2⟩:=Qe5;have hg:AV.gr (.agg [.int .i64 7,.int .i64 84])=true:=rfl;have b0:decide ((4:Int)<1)=false:=rfl;have b1:decide ((4:Int) > 6)=false:=rfl;have b2:(0≤(4:Int))=True:=by simp
 have b3:(bits .and .i64 (Int.fdiv 84 (2 ^ min 4 64)) 1==0)=false:=by decide
 have b4:(bits .and .i64 ((84:Int).fdiv (2 ^ (min (4:Int).toNat IntKind.i64.bits))) 1==0)=false:=by decide
 simp only[nv]at hf;refine wF Tryz.func206 ?_;simp only[eK,Tryz.f206,seval];simp only[nv,eE,seval];refine aC h1 ?_;simp only[h2,hg,b2,b3,eE,seval];refine aC hf ?_;cases XQ 7 kd b t l p s r
 ·simp only[Qo5,Qog,Qa,seval]
 ·simp only[QpF,Qa,seval]
def NcI (k:Nat)(st:St):Prop :=
 ∃f fr i,st=⟨f,[fr],[]⟩∧k=1-i∧i≤1∧(i=0→∃last,f 5=.str last)∧(i=1→XQ 7 kd b t l p s r=true)∧f 1=.int .i64 4∧f 12=.list [nv kd b t l p s r]∧f 13=.int .i64 1∧f 14=.int .i64 (i:Nat)∧∀s∈[7],(fr s).isRow=false
include hl hp hs hr in
theorem Qkz:Qg Tryz.prog 151 [.list [nv kd b t l p s r],.int .i64 4] (.int .i64 (if XQ 7 kd b t l p s r=true then 0 else 12)):=by
 have b0:decide (((1:Nat):Int) > 8)=false:=rfl;refine wF Tryz.func151 ?_;simp only[eK,Tryz.f151,seval];simp only[Qoc,QoT,Qom,Qa,seval];refine Qi (NcI kd b t l p s r) 1 ⟨_,_,0,rfl,rfl,Qn6 _,fun _=>⟨[],rfl⟩,(fun h=>by cases h),rfl,rfl,rfl,rfl,by simp<;>rfl⟩ ?_;rintro _ st ⟨f0,fr0,i,rfl,rfl,hi,hl5,hf,h10,h120,h130,h140,r7⟩;refine QL (a:=_) [7] r7 ?_;intro f fr hff hm hn7;have h1:f 1=.int .i64 4:=by rw[hff,h10]<;>rfl
 have h12:f 12=.list [nv kd b t l p s r]:=by rw[hff,h120]<;>rfl
 have h13:f 13=.int .i64 1:=by rw[hff,h130]<;>rfl
 have h14:f 14=.int .i64 (i:Nat):=by rw[hff,h140]<;>rfl
 have h5:i=0→∃last,f 5=.str last:=fun h=>by
  obtain⟨la,e⟩:=hl5 h;exact⟨la,by rw[hff,e]<;>rfl⟩
 have n7:=hn7 7 (by decide);clear hff hm hn7 h10 h120 h130 h140 r7 hl5;have ho:=fun la=>Qky kd b t l p s r hl hp hs hr la
 simp only[nv]at ho h12;simp only[h13,h14,Qa,seval];rcases Nat.le_one_iff_eq_zero_or_eq_one.1 hi with rfl|rfl
 ·obtain⟨la,h5⟩:=h5 rfl;have c0:decide (((0:Nat):Int)<1)=true:=rfl;have c1:decide (((0:Nat):Int) > 0)=false:=rfl;have e1:IntKind.i64.wrap (((0:Nat):Int)+1)=((1:Nat):Int):=rfl;have z0:(0≤((0:Nat):Int))=True:=by simp
  have z1:Int.toNat ((0:Nat):Int)=0:=rfl;simp only[Qf,n7,h1,h5,h12,h14,eE,seval];refine aC (ho la) ?_;cases hfv:XQ 7 kd b t l p s r
  ·have d0:((12:Int) != 0)=true:=rfl;simp only[d0,Qog,Qa,seval]
  ·have d0:((0:Int) != 0)=false:=rfl;simp only[d0,h14,eE,seval];exact⟨0,by omega,_,_,1,rfl,rfl,QnV _,(fun h=>by cases h),fun _=>hfv,h1,h12,h13,rfl,by simp<;>rfl⟩
 ·have c0:decide (((1:Nat):Int)<1)=false:=rfl;simp only[hf rfl,Qa,seval]
end
theorem LI {M:Nat}{n:PN}(h:n.ok Tryz.prog M 32)(hM:M≤140737488351232):∃kd b t l p s r,n.val=[.int .i64 kd,.int .u64 ((b:Nat):Int),.str t,.list l,.list p,.list s,.list r]∧t.length≤M∧l.length≤140737488351232∧p.length≤140737488351232∧s.length≤140737488351232∧r.length≤140737488351232:=by
 obtain⟨_,k,hk⟩:=h;obtain⟨k,h⟩:=ZZ Tryz.underlying32 hk;simp only[Xx.HasL]at h;obtain⟨_,_,e,h0,_,_,rfl,h1,_,_,rfl,h2,_,_,rfl,h3,_,_,rfl,h4,_,_,rfl,h5,_,_,rfl,h6,rfl⟩:=h;obtain⟨a0,rfl,w0⟩:=Zk Tryz.underlying3 h0;obtain⟨a1,rfl,w1⟩:=Zk Tryz.underlying26 h1;obtain⟨a2,rfl,w2⟩:=KQ Tryz.underlying9 h2;obtain⟨_,l3,rfl,w3,_⟩:=YR Tryz.underlying27 h3;obtain⟨_,l4,rfl,w4,_⟩:=YR Tryz.underlying28 h4;obtain⟨_,l5,rfl,w5,_⟩:=YR Tryz.underlying29 h5;obtain⟨_,l6,rfl,w6,_⟩:=YR Tryz.underlying30 h6;have hb:0≤a1:=V0 w1;obtain⟨b,rfl⟩:=QpH hb;exact⟨a0,b,a2,_,_,_,_,e,w2,by simp;omega,by simp;omega,by simp;omega,by simp;omega⟩
theorem QkA {M:Nat}(hM:M≤140737488351232)(x:PI)(hx:x.ok M)(m:Qj):Qe Tryz.prog 150 [XC x] m fun y m1=>y=.bool (!W4 x)∧m1=m:=by
 have z0:(0≤(0:Int))=True:=by simp
 have z1:Int.toNat 0=0:=rfl;refine wG Tryz.func150 ?_;simp only[eK,Tryz.f150,seval];simp only[XC,PI.cells,QoS,eE,seval];rcases hn:x.notes with _|⟨n,_|⟨n2,ns⟩⟩
 ·have c0:decide (((0:Nat):Int) > 1)=false:=rfl;have c1:(((0:Nat):Int)==1)=false:=rfl;have e:W4 x=true:=by unfold W4;rw[hn]
  simp only[QoT,QoZ,e,QpF,eE,seval]
 ·obtain⟨kd,b,t,l,p,s,r,hv,ht,h3,h4,h5,h6⟩:=LI (hx.notes n (by rw[hn];simp)) hM;have c0:decide (((1:Nat):Int) > 1)=false:=rfl;have c1:(((1:Nat):Int)==1)=true:=rfl;have e:W4 x=(n.name==alias&&XQ 7 kd b t l p s r):=by
   unfold W4;rw[hn];show(n.name==alias&&nok n.val)=_;rw[hv];rfl
  have en:Zg n.cells=.agg [.str n.name,.int .i64 kd,.int .u64 ((b:Nat):Int),.str t,.list l,.list p,.list s,.list r]:=by
   rw[PN.cells,hv];rfl
  have hne:(!(n.name==[97,108,105,97,115]))=!(n.name==alias):=rfl;have hc:=Qkz kd b t l p s r h3 h4 h5 h6;simp only[nv]at hc;simp only[Qoc,QoT,Qov,QoZ,Qom,en,Qf,z0,z1,Qo0,QP,hne,e,eE,seval];by_cases ha:n.name=alias
  ·have b0:(n.name==alias)=true:=by simp[ha]
   rw[←ha]at hc;simp only[b0,QpF,QpE,eE,seval];refine aC hc ?_;cases XQ 7 kd b t l p s r
   ·have d0:((12:Int) != 0)=true:=rfl;simp only[Qog,d0,Qo5,Qa,seval]
   ·have d0:((0:Int) != 0)=false:=rfl;simp only[d0,QpF,Qa,seval]
  ·have b0:(n.name==alias)=false:=by simp[ha]
   simp only[b0,Qo5,Qpu,Qa,seval]
 ·have c0:decide ((((ns.length+1+1:Nat)):Int) > 1)=true:=QpY (by omega);have e:W4 x=false:=by unfold W4;rw[hn]
  simp only[Qoc,c0,e,Qo5,Qa,seval]
theorem QkB {M:Nat}(hM:M≤140737488351232)(x:PE)(hx:x.ok M)(m:Qj):Qe Tryz.prog 149 [QC x] m fun y m1=>y=.bool (!WN x)∧m1=m:=by
 have n1:decide ((x.notes.length:Int) > 0)=!x.notes.isEmpty:=by
  cases x.notes with
  |nil=>rfl
  |cons a l=>simp
 refine wG Tryz.func149 ?_;simp only[eK,Tryz.f149,seval];simp only[QC,PE.cells,QoS,WN,n1,eE,seval];cases a1:x.notes.isEmpty
 ·simp only[Qo5,Qpu,Qa,seval]
 simp only[QpF,QpE,eE,seval];refine Qh (R8 x.items hx.len1 (fun o=>!W4 o) 150 [] _ fun o ho=>QkA hM o (hx.items o ho) _) (by simp only[Qov,QoZ,Qa,seval]<;>rfl) ?_;simp only[X8,Qa,seval]
theorem z63 {M:Nat}(hM:M≤140737488351232)(P:PL)(hP:P.ok M)(hl:∀g∈P.progs,g.ops.length≤64):Qg Tryz.prog 63 [P.av] (.bool (!args P)):=by
 have e0:P.av=.agg [.list (P.progs.map Qn),.list (P.enums.map QC)]:=rfl;refine wF Tryz.func63 ?_;simp only[eK,Tryz.f63,seval];simp only[e0,args,eE,seval];refine Qh (Nb P.progs hP.len1 (fun g=>!WM P g) 143 [.ptr 0 1 0] _ fun o ho=>Qkv P o (QnU (hl o ho) (by decide)) _ rfl) (by simp only[Qov,QoZ,Qa,seval]<;>rfl) ?_;simp only[X8,Qa,seval];cases P.progs.all (WM P)
 ·simp only[Qo5,Qpu,Qa,seval]
 simp only[QpF,QpE,eE,seval];refine Qh (D9 P.enums hP.len2 (fun g=>!WN g) 149 [] _ fun o ho=>QkB hM o (hP.enums o ho) _) (by simp only[Qov,QoZ,Qa,seval]<;>rfl) ?_;simp only[X8,Qa,seval]
def ZU (B:List Bool)(o:PO):Bool:=o.card==1&&o.kind==10 && !(B[o.target.toNat]?.getD false)
def GB (G:List PG)(B:List Bool)(i:Nat):List Bool:=match G[i]? with
 |some g=>B.set i (!g.ops.any (ZU B))
 |none=>B
def Kn (G:List PG)(B:List Bool):Nat→List Bool
 |0=>B
 |i+1=>GB G (Kn G B i) i
def its (G:List PG):Nat→List Bool
 |0=>List.replicate G.length false
 |c+1=>Kn G (its G c) G.length
def fin (P:PL):Bool:=(its P.progs P.progs.length).all id
def Tgt (P:PL):Prop:=∀g∈P.progs,∀o∈g.ops,o.kind=10→0≤o.target∧o.target<(P.progs.length:Int)
theorem Qcm (G:List PG)(B:List Bool)(i:Nat):(GB G B i).length=B.length:=by
 unfold GB;split<;>simp
theorem Df (G:List PG)(B:List Bool):∀i,(Kn G B i).length=B.length
 |0=>rfl
 |i+1=>by rw[Kn,Qcm,Df G B i]
theorem Dg (G:List PG):∀c,(its G c).length=G.length
 |0=>by simp[its]
 |c+1=>by rw[its,Df,Dg G c]
def PA (G:List PG)(B:List Bool):Prop:=∀(i:Nat) (g:PG),G[i]? = some g→B[i]? = some true→g.ops.any (ZU B)=false
theorem Ab {B B':List Bool}(h:∀k:Nat,B[k]?.getD false=true→B'[k]?.getD false=true){o:PO}(hn:ZU B o=false):ZU B' o=false:=by
 unfold ZU at *;cases hc:(o.card==1&&o.kind==10)
 ·rfl
 ·rw[hc]at hn;simp only[QpE,Bool.not_eq_false']at hn ⊢;rw[h _ hn]
theorem Qcn {G:List PG}{B:List Bool}(h:PA G B)(i:Nat):PA G (GB G B i)∧∀k:Nat,B[k]?.getD false=true→(GB G B i)[k]?.getD false=true:=by
 have mono:∀k:Nat,B[k]?.getD false=true→(GB G B i)[k]?.getD false=true:=by
  intro k hk;unfold GB;split
  ·rename_i g hg;by_cases hki:i=k
   ·subst hki;have hb:B[i]? = some true:=by
     cases hB:B[i]? with
     |none=>rw[hB]at hk;cases hk
     |some b=>rw[hB]at hk;simp at hk;rw[hk]
    have hlt:=(QnW.1 hb).1;rw[List.getElem?_set_self hlt,h i g hg hb];rfl
   ·rw[Qp3 hki];exact hk
  ·exact hk
 refine⟨fun j g hg hb=>?_,mono⟩;rw[QpT];intro o ho;rw[Qp4];have hB:B[j]? = some true∨g.ops.any (ZU B)=false:=by
  unfold GB at hb;split at hb
  ·rename_i g' hg';by_cases hij:i=j
   ·subst hij;rw[hg]at hg';cases hg'
    right
    by_cases hlt:i<B.length
    ·rw[List.getElem?_set_self hlt]at hb
     simpa using hb
    ·rw[Qpm (by simp;omega)]at hb;cases hb
   ·rw[Qp3 hij]at hb;exact .inl hb
  ·exact .inl hb
 have ha:g.ops.any (ZU B)=false:=hB.elim (h j g hg) id;rw[QpT]at ha;exact Ab mono (by simpa using ha o ho)
theorem Nd {G:List PG}{B:List Bool}(h:PA G B):∀i,PA G (Kn G B i)
 |0=>h
 |i+1=>(Qcn (Nd h i) i).1
theorem PB (G:List PG):∀c,PA G (its G c)
 |0=>by
  intro i g _ hb;rw[its,List.getElem?_replicate]at hb;split at hb<;>cases hb
 |c+1=>Nd (PB G c) _
theorem Qe7 {G:List PG}{B:List Bool}(h:PA G B){i:Nat}{g:PG}{b:Bool}(hg:G[i]? = some g)(hb:B[i]? = some b):GB G B i=B.set i (b || !g.ops.any (ZU B)):=by
 unfold GB;rw[hg];cases b with
 |false=>rfl
 |true=>
  show B.set i _=B.set i (true||_);rw[h i g hg hb];rfl
theorem Se {P:Program}{f:Fr}{d:Nat}{its:List Am.Item}{m:Qj}{ds:List DF}{K:St→Prop}{k l s:Nat}{args:List RA}{ys:List AV}{v:AV}(hk:Qe P k ys m fun x m1=>x=v∧m1=m)(hy:args.map (RA.ev f)=ys)(h:QE P its ⟨QI f d v,m,ds⟩ K) :
  QE P (⟨some d,.callK l s (.f k) args,none⟩ :: its) ⟨f,m,ds⟩ K:=by
 refine⟨k,[],[],v,m,rfl,?_,rfl,h⟩;show Qe P k (args.map (RA.ev f)++[]) m fun x m1=>x=v∧m1=m
 rw[Qo1,hy];exact hk
theorem QkC (B:List Bool)(hl:B.length≤maxLen):Qg Tryz.prog 207 [.list (B.map AV.bool),.bool false] (.int .i64 (Zo (fun b=>!b) B 0)):=by
 let I:Nat→St→Prop:=fun k st=>∃f i,st=⟨f,[Qb],[]⟩∧k=B.length-i∧Zo (fun b=>!b) B 0=Zo (fun b=>!b) (B.drop i) i∧f 0=.list (B.map AV.bool)∧f 1=.bool false∧f 7=.int .i64 (B.length:Nat)∧f 8=.int .i64 (i:Nat)
 refine wF Tryz.func207 ?_;simp only[eK,Tryz.f207,seval];simp only[QoS,Qa,seval];refine Qi I _ ⟨_,0,rfl,rfl,rfl,rfl,rfl,rfl,rfl⟩ ?_;rintro _ st ⟨f,i,rfl,rfl,hx,h0,h1,h7,h8⟩;simp only[h7,h8,Qa,seval];by_cases hlt:i<B.length
 ·obtain⟨x,hi⟩:∃x,B[i]? = some x:=⟨B[i],QnX hlt⟩;have hg:(B.map AV.bool)[i]? = some (.bool x):=by simp[hi]
  have e1:=Qs i _ hlt hl;rw[D7 _ hi]at hx;cases x
  ·rw[Qn5 (show(!false)=true from rfl)]at hx;have b0:(false==false)=true:=rfl;simp only[QA hlt,Qp,Qpq,Qf,hg,b0,h0,h1,h8,hx,eE,seval]
  ·rw[Qn4 (by decide)]at hx;have b0:(false==true)=false:=rfl;simp only[QA hlt,Qp,Qpq,Qf,hg,b0,h0,h1,h8,e1,eE,seval];exact⟨B.length-(i+1),by omega,_,i+1,rfl,rfl,hx,h0,h1,h7,rfl⟩
 ·have hx':Zo (fun b=>!b) B 0 = -1:=by rw[hx,QoA (by omega)];rfl
  simp only[QH hlt,hx',Qa,seval]
theorem QkD (B:List Bool)(hl:B.length≤maxLen):Qg Tryz.prog 153 [.list (B.map AV.bool),.bool false] (.bool (!B.all id)):=by
 have e:(!B.all id)=B.any fun b=>!b:=by rw[X8];rfl
 refine wF Tryz.func153 ?_;simp only[eK,Tryz.f153,seval];simp only[Qa,seval];refine aC (QkC B hl) ?_;simp only[Wb,e,Qa,seval]
theorem QkE (o:PO)(n:Nat)(B:List Bool)(hB:B.length=n)(ht:o.kind=10→0≤o.target∧o.target<(n:Int))(fr:Nat→Ob)(m:Qj)(h3:fr 3=.cells [.vec 0 9 1 0 n false])(h9:fr 9=.vec 1 1 (B.map AV.bool)) :
  Qe Tryz.prog 152 [Qv o,.ptr 3 3 0] (Qb :: Qb :: Qb :: fr :: m) fun y m1=>y=.bool (ZU B o)∧m1=Qb :: Qb :: Qb :: fr :: m:=by
 refine wG Tryz.func152 ?_;simp only[eK,Tryz.f152,seval];simp only[Qv,PO.cells,ZU,eE,seval];cases a1:(o.card==1)
 ·simp only[Qpu,Qa,seval]
 cases a2:(o.kind==10)
 ·simp only[a2,Qpu,QpG,eE,seval]
 obtain⟨t1,t2⟩:=ht (by simpa using a2);obtain⟨t,hte⟩:=QpH t1;obtain⟨y,hy⟩:∃y,B[t]? = some y:=⟨B[t]'(by omega),QnX (by omega)⟩;have hg:(B.map AV.bool)[t]? = some (.bool y):=by simp[hy]
 have hlt:(t<n)=True:=eq_true (by omega);simp only[a2,hte,hy,hg,hlt,h3,h9,Qf,Qp,Qpq,Qo8,QpE,Qom,eE,seval]
structure En (P:PL)(c:Nat)(B:List Bool)(f:Fr)(fr:Nat→Ob):Prop where
 h1:f 1=.ptr 0 1 0
 m1:fr 1=.cells [.list (P.progs.map Qn),.list (P.enums.map QC)]
 h3:f 3=.ptr 0 3 0
 m3:fr 3=.cells [.vec 0 9 1 0 P.progs.length false]
 m9:fr 9=.vec 1 1 (B.map AV.bool)
 h12:f 12=.int .i64 (P.progs.length:Nat)
 h13:f 13=.int .i64 (c:Nat)
 r5:∀s∈[5],(fr s).isRow=false
theorem En.drop {P:PL}{c:Nat}{B:List Bool}{f f':Fr}{fr fr':Nat→Ob}(h:En P c B f fr)(hf:∀i,f' i=D4 [5] (f i))(hm:∀i,i∉[5]→fr' i=Dd [5] (fr i))(hn:∀i∈[5],fr' i=.none):En P c B f' fr' where
 h1:=by rw[hf,h.h1]<;>rfl
 m1:=by rw[hm 1 (by decide),h.m1]<;>rfl
 h3:=by rw[hf,h.h3]<;>rfl
 m3:=by rw[hm 3 (by decide),h.m3]<;>rfl
 m9:=by rw[hm 9 (by decide),h.m9]<;>rfl
 h12:=by rw[hf,h.h12]<;>rfl
 h13:=by rw[hf,h.h13]<;>rfl
 r5:=fun s hs=>by rw[hn s hs]<;>rfl
def EnA (P:PL)(k:Nat)(st:St):Prop:=∃f fr c,st=⟨f,[fr],[]⟩∧k=P.progs.length-c∧c≤P.progs.length∧En P c (its P.progs c) f fr
def EnB (P:PL)(c:Nat)(k:Nat)(st:St):Prop:=∃f fr i,st=⟨f,[fr],[]⟩∧k=P.progs.length-i∧i≤P.progs.length∧En P c (Kn P.progs (its P.progs c) i) f fr∧f 16=.list (P.progs.map Qn)∧f 17=.int .i64 (P.progs.length:Nat)∧f 18=.int .i64 (i:Nat)
theorem z64 {M:Nat}(P:PL)(hP:P.ok M)(hl:P.progs.length≤64)(hT:Tgt P):Qg Tryz.prog 64 [P.av] (.bool (!fin P)):=by
 have e0:P.av=.agg [.list (P.progs.map Qn),.list (P.enums.map QC)]:=rfl;have hmx:P.progs.length≤maxLen:=by simp only[maxLen];omega
 have hz:K7 1 [AV.bool false]=.bool false:=rfl;have hr0:(List.replicate P.progs.length (AV.bool false))=(its P.progs 0).map AV.bool:=by simp[its]
 refine wF Tryz.func64 ?_;simp only[eK,Tryz.f64,seval];simp only[e0,QoS,eE,seval];refine G9 (n:=P.progs.length) (k:=P.progs.length) rfl rfl (QnV _) (by omega) (by omega) rfl ?_;simp only[hz,hr0,QoS,eE,seval];refine Qi (EnA P) _ ⟨_,_,0,rfl,rfl,Qn6 _,⟨rfl,rfl,rfl,rfl,rfl,rfl,rfl,by simp<;>rfl⟩⟩ ?_;rintro _ st ⟨f0,fr0,c,rfl,rfl,hc,H0⟩;refine QL (a:=_) [5] H0.r5 ?_;intro f fr hf hm hn;have H:=H0.drop hf hm hn;clear hf hm hn;obtain⟨h1,m1,h3,m3,m9,h12,h13,r5⟩:=id H;simp only[h12,h13,Qa,seval];by_cases hlt:c<P.progs.length
 ·have e1:=Qs c _ hlt hmx;simp only[QA hlt,h1,m1,QoS,eE,seval];refine Qi (EnB P c) _ ⟨_,_,0,rfl,rfl,Qn6 _,⟨h1,m1,h3,m3,m9,h12,h13,r5⟩,rfl,rfl,rfl⟩ ?_;rintro _ st ⟨f0,fr0,i,rfl,rfl,hi,H0,h160,h170,h180⟩;refine QL (a:=_) [5] H0.r5 ?_;intro f fr hf hm hn;have H:=H0.drop hf hm hn;have h16:f 16=.list (P.progs.map Qn):=by rw[hf,h160]<;>rfl
  have h17:f 17=.int .i64 (P.progs.length:Nat):=by rw[hf,h170]<;>rfl
  have h18:f 18=.int .i64 (i:Nat):=by rw[hf,h180]<;>rfl
  have n5:=hn 5 (by decide);clear hf hm hn;obtain⟨h1,m1,h3,m3,m9,h12,h13,r5⟩:=id H;simp only[h17,h18,Qa,seval];by_cases hli:i<P.progs.length
  ·obtain⟨g,hg⟩:∃g,P.progs[i]? = some g:=⟨P.progs[i],QnX hli⟩;have hgm:(P.progs.map Qn)[i]? = some (Qn g):=by simp[hg]
   have hBl:(Kn P.progs (its P.progs c) i).length=P.progs.length:=by rw[Df,Dg]
   obtain⟨b,hb⟩:∃b,(Kn P.progs (its P.progs c) i)[i]? = some b:=⟨_,QnX (by omega)⟩;have hbm:((Kn P.progs (its P.progs c) i).map AV.bool)[i]? = some (.bool b):=by simp[hb]
   have hst:=Qe7 (Nd (PB P.progs c) i) hg hb;have e2:=Qs i _ hli hmx;have s1:(i<P.progs.length)=True:=eq_true hli;have hTg:=hT g (Qob hg);generalize hBB:Kn P.progs (its P.progs c) i=B at *;have fin2:∀(f':Fr) (fr':Nat→Ob) (v:Bool),(b || !g.ops.any (ZU B))=v→f' 1=.ptr 0 1 0→fr' 1=.cells [.list (P.progs.map Qn),.list (P.enums.map QC)]→f' 3=.ptr 0 3 0→fr' 3=.cells [.vec 0 9 1 0 P.progs.length false]→
     fr' 9=.vec 1 1 ((B.map AV.bool).set i (.bool v))→f' 12=.int .i64 (P.progs.length:Nat)→f' 13=.int .i64 (c:Nat)→(∀s∈[5],(fr' s).isRow=false)→f' 16=.list (P.progs.map Qn)→f' 17=.int .i64 (P.progs.length:Nat)→f' 18=.int .i64 ((i+1:Nat):Int)→∃k,k<P.progs.length-i∧EnB P c k ⟨f',[fr'],[]⟩:=by
    intro f' fr' v hv a1 a2 a3 a4 a5 a6 a7 a8 a9 a10 a11;have hB':Kn P.progs (its P.progs c) (i+1)=B.set i v:=by rw[Kn,hBB,hst,hv]
    exact⟨P.progs.length-(i+1),by omega,f',fr',i+1,rfl,rfl,by omega,⟨a1,a2,a3,a4,by rw[hB',a5,List.map_set],a6,a7,a8⟩,a9,a10,a11⟩
   have ist:∀(fr':Nat→Ob) (v:Bool),fr' 9=.vec 1 1 (B.map AV.bool)→Xn [fr'] (.vptr 0 9 1 i 0) [.bool v]=some [QI fr' 9 (.vec 1 1 ((B.map AV.bool).set i (.bool v)))]:=by
    intro fr' v h9;have e:Am.Qd [fr'] 0 9=.vec 1 1 (B.map AV.bool):=h9;simp only[Xn,e,hbm];simp[AV.cells,AV.rfL,AV.rf,Am.put,JI]
   have ia:∀fr':Nat→Ob,fr' 9=.vec 1 1 (B.map AV.bool)→Qf [fr'] 1 none (.vec 0 9 1 0 P.progs.length false) (i:Int)=some (.vptr 0 9 1 i 0):=by
    intro fr' h9;have e:Am.Qd [fr'] 0 9=.vec 1 1 (B.map AV.bool):=h9;simp only[Qf,e,Qp,if_true,Qpq];simp;omega
   have hcl:=fun(fr':Nat→Ob) (h3:fr' 3=.cells [.vec 0 9 1 0 P.progs.length false]) (h9:fr' 9=.vec 1 1 (B.map AV.bool))=>Cu g.ops (hP.progs g (Qob hg)).len (ZU B) 152 [.ptr 0 3 0] [fr'] fun o ho=>QkE o P.progs.length B hBl (hTg o ho) fr' _ h3 h9
   simp only[QA hli,Qp,Qpq,Qf,hgm,Qn,PG.cells,n5,hbm,s1,Qom,h3,h16,h18,m3,m9,eE,seval];cases b
   ·simp only[eE,seval];refine Se (hcl _ m3 m9) (by simp only[Qov,QoZ,h3,Qa,seval]<;>rfl) ?_;generalize hav:g.ops.any (ZU B)=av;rw[hav]at fin2;simp only[ia,ist,h18,m9,e2,eE,seval];exact fin2 _ _ _ rfl h1 m1 h3 m3 rfl h12 h13 (by simp<;>rfl) h16 h17 rfl
   ·simp only[ia,ist,h18,m9,e2,eE,seval];exact fin2 _ _ _ rfl h1 m1 h3 m3 rfl h12 h13 (by simp<;>rfl) h16 h17 rfl
  ·have hii:i=P.progs.length:=by omega
   subst hii;simp only[QH hli,h13,e1,Qa,seval];exact⟨P.progs.length-(c+1),by omega,_,_,c+1,rfl,rfl,by omega,⟨h1,m1,h3,m3,m9,h12,rfl,r5⟩⟩
 ·have hcc:c=P.progs.length:=by omega
  subst hcc;have hBl:=Dg P.progs P.progs.length;simp only[QH hlt,h3,m3,eE,seval];refine Zf (QkD (its P.progs P.progs.length) (by omega)) ?_ rfl rfl (.inr rfl) ?_
  ·have el:Am.Qd [fr] 0 9=.vec 1 1 ((its P.progs P.progs.length).map AV.bool):=m9;simp only[Qov,QoZ,AV.stillL,AV.still,el,Qa,seval];have hle:(0+P.progs.length≤((its P.progs P.progs.length).map AV.bool).length)=True:=eq_true (by simp;omega);have ht:((its P.progs P.progs.length).map AV.bool).take P.progs.length=(its P.progs P.progs.length).map AV.bool:=Qox (by simp;omega);simp only[Qpu,Qog,if_false,hle,if_true,ht]
  ·simp only[fin,Qa,seval]
def ck (P:PL):Int :=
 if DM P=false then 3 else if F9 P=false then 8 else if DN P=false then 11 else if Ct P=false then 9 else if Bb P=false then 6 else if args P=false then 1 else if fin P=false then 19 else 0
theorem GC {P:PL}(h:DM P=true):P.progs.length≤64∧P.enums.length≤64∧(∀g∈P.progs,g.ops.length≤64)∧∀e∈P.enums,1≤e.items.length∧e.items.length≤64∧e.free.length≤16:=by
 unfold DM at h;simp only[Qol,Qn1,Qoa]at h;obtain⟨⟨⟨h1,h2⟩,h3⟩,h4⟩:=h;refine⟨h1,h2,fun g hg=>?_,fun e he=>?_⟩
 ·have:=h3 g hg;unfold WK at this;exact of_decide_eq_true this
 ·have:=h4 e he;unfold Ub at this;simp only[Qol,Qn1]at this;exact⟨this.1.1,this.1.2,this.2⟩
theorem CD {P:PL}(h:args P=true):Tgt P:=by
 intro g hg o ho hk;unfold args at h;simp only[Qol,Qoa]at h;have h1:=h.1 g hg;unfold WM at h1;simp only[Qol,Qoa]at h1;have h2:=(h1.2 o ho).1;unfold K0 at h2;simp only[Qol]at h2;have h3:=h2.2;unfold Bd at h3;rw[Qn5 hk]at h3;simp only[Qol,Qn1]at h3;exact⟨h3.1.1,h3.1.2⟩
theorem QkF {M:Nat}(P:PL)(hP:P.ok M)(hM:M≤140737488351232)(hN1:∀g∈P.progs,g.name.length≤17592186044000)(hN2:∀g∈P.enums,g.name.length≤17592186044000):Qg Tryz.prog 36 [P.av] (.int .i64 (ck P)):=by
 have e0:P.av=.agg [.list (P.progs.map Qn),.list (P.enums.map QC)]:=rfl;have c1:=z58 P hP;have c2:=QjW P hP hN1 hN2;have c3:=z60 P hP;have c4:=z61 P hP;refine wF Tryz.func36 ?_;simp only[eK,Tryz.f36,seval];simp only[e0,ck,eE,seval];refine aC c1 ?_;cases hl:DM P
 ·simp only[Qo5,Qa,seval]
 obtain⟨l1,l2,l3,l4⟩:=GC hl;have c5:=z62 P hP fun e he h=>by have:=(l4 e he).1;rw[h]at this;simp at this
 have c6:=z63 hM P hP l3;simp only[QpF,Qp5,eE,seval];refine aC c2 ?_;cases F9 P
 ·simp only[Qo5,Qa,seval]
 simp only[QpF,Qp5,eE,seval];refine aC c3 ?_;cases DN P
 ·simp only[Qo5,Qa,seval]
 simp only[QpF,Qp5,eE,seval];refine aC c4 ?_;cases Ct P
 ·simp only[Qo5,Qa,seval]
 simp only[QpF,Qp5,eE,seval];refine aC c5 ?_;cases Bb P
 ·simp only[Qo5,Qa,seval]
 simp only[QpF,Qp5,eE,seval];refine aC c6 ?_;cases ha:args P
 ·simp only[Qo5,Qa,seval]
 have c7:=z64 P hP l1 (CD ha);simp only[QpF,Qp5,eE,seval];refine aC c7 ?_;cases fin P
 ·simp only[Qo5,Qa,seval]
 ·simp only[QpF,Qp5,Qa,seval]
def Pc (P:PL):List AV:=[.list (P.progs.map Qn),.list (P.enums.map QC)]
theorem GD (P:PL):P.av=.agg [.list (P.progs.map Qn),.list (P.enums.map QC)]:=rfl
theorem E9 (b:Bool)(q:Nat→Bool)(i:Nat):(b&&Qr q (i+1))=((b&&Qr q i)&&q i):=by rw[Qr,QoI]
def Ac (n s:Nat)(q:Nat→Bool)(b:Bool)(c:Nat)(L:List (Nat×AV))(O:List (Nat×Ob))(l:List Nat)(m:Qj):Nat→St→Prop :=
 Ix (fun k=>(3,.bool (b&&Qr q k)) :: (c,.int .i64 (k:Nat)) :: L) (fun _=>O) l (fun k=>n-k) (fun k=>s≤k∧(k≤n∨k=s)) (fun _=>m)
section
variable {P:Program}{a:RC}{Q:Exit→St→Prop}{f:Fr}{fr:Nat→Ob}{m:Qj}{n s k:Nat}{q:Nat→Bool}{b:Bool}{c:Nat}{L:List (Nat×AV)}{O:List (Nat×Ob)}{l:List Nat}
theorem CE (k:Int):∀l,D4 l (.int .i64 k)=.int .i64 k
 | []=>rfl
 |_ :: l=>CE k l
theorem NS (b:Bool):∀l,D4 l (.bool b)=.bool b
 | []=>rfl
 |_ :: l=>NS b l
theorem Xr (n s:Nat)(q:Nat→Bool)(b:Bool)(c:Nat)(L:List (Nat×AV))(O:List (Nat×Ob))(l:List Nat)(h0:(b&&Qr q s)=b)
  (h:∀(k:Nat) f fr,s≤k∧(k≤n∨k=s)→Q2 P a ⟨XF ((3,.bool (b&&Qr q k)) :: (c,.int .i64 (k:Nat)) :: L) f,XF (O++l.map fun s=>(s,.none)) fr :: m,[]⟩ (Kl (Ac n s q b c L O l m) (n-k) Q))
  (hf:Ag f ((3,.bool b) :: (c,.int .i64 (s:Nat)) :: L):=by exact rfl) (ho:Ag fr O:=by exact rfl) (hr:(l.all fun s=>!(fr s).isRow)=true:=by exact rfl)
  (hs:L.map (fun q=>D4 l q.2)=L.map Prod.snd:=by exact rfl) (ht:O.map (fun q=>(l.contains q.1,Dd l q.2))=O.map fun q=>(false,q.2):=by exact rfl):Q2 P (.loop (Dc l a)) ⟨f,fr :: m,[]⟩ Q :=
 Hc (X:=Nat) (fun k=>(3,.bool (b&&Qr q k)) :: (c,.int .i64 (k:Nat)) :: L) (fun _=>O) l (fun k=>n-k) (fun k=>s≤k∧(k≤n∨k=s)) (fun _=>m) s ⟨QnV _,.inr rfl⟩ h (by rw[h0];exact hf) ho hr rfl (fun k=>by simp only[Qov,hs,CE,NS]) (fun _=>ht)
theorem Ac.go {v:Bool}(hk:s≤k∧(k≤n∨k=s))(hlt:k<n)(hf:Ag f ((3,.bool v) :: (c,.int .i64 ((k+1:Nat):Int)) :: L))(hv:((b&&Qr q k)&&q k)=v)(ho:Ag fr O:=by exact rfl)(hr:(l.all fun s=>!(fr s).isRow)=true:=by exact rfl) :
  ∃j,j<n-k∧Ac n s q b c L O l m j ⟨f,fr :: m,[]⟩ :=
 Ix.go (k+1) (by omega) ⟨by omega,.inl (by omega)⟩ (by rw[E9,hv];exact hf) ho hr
theorem JM (h0:∀i,i<s→q i=true)(hk:s≤k∧(k≤n∨k=s))(hn:¬k<n):Qr q k=Qr q n:=by
 rcases Nat.lt_or_ge n k with h|h
 ·rw[Q5.2 fun i hi=>h0 i (by omega),Q5.2 fun i hi=>h0 i (by omega)]
 ·rw[show k=n by omega]
theorem ZA {α:Type}{l:List α}{q:α→Bool}{k:Nat}(hk:0≤k∧(k≤l.length∨k=0))(hn:¬k<l.length):Qr (Xf l q) k=l.all q:=by
 rw[JM (fun i hi=>absurd hi (Qp6 i)) hk hn,HD]
end
theorem Xe {α:Type}{l:List α}{i:Nat}{x:α}(g:α→AV)(h:l[i]? = some x):(l.map g)[i]? = some (g x):=by
 rw[Qpl,h];rfl
section
variable {M:Nat}(P:PL)(hP:P.ok M)
include hP
theorem z27:Qg Tryz.prog 27 [P.av] (.bool (DM P)):=by
 obtain⟨B,hB⟩:∃B,(decide ((P.progs.length:Int)≤64)&&decide ((P.enums.length:Int)≤64))=B:=⟨_,rfl⟩;have hl:DM P=((B&&P.progs.all WK)&&P.enums.all Ub):=by
  rw[←hB,show decide ((P.progs.length:Int)≤64)=decide (P.progs.length≤64)by rw[decide_eq_decide];omega,show decide ((P.enums.length:Int)≤64)=decide (P.enums.length≤64)by rw[decide_eq_decide];omega];rfl
 refine wF Tryz.func27 ?_;simp only[eK,Tryz.f27,seval];simp only[GD,QoS,eE,seval];cases c1:decide ((P.progs.length:Int)≤64)
 all_goals
  rw[c1]at hB;simp only[QpE,Qpu]at hB;simp only[QoS,cond_true,cond_false,eE,seval];refine Xr P.progs.length 0 (Xf P.progs WK) B 4 [(1,.ptr 0 1 0)] [(1,.cells (Pc P))] [] (by simp[Qr]) ?_ (by rw[←hB];rfl);rintro k f fr hk;simp only[Pc,QoS,XF,QoZ,eE,seval];rcases XS P.progs k with⟨x,hx,hlt⟩|hlt
  ·have hg:=Xe Qn hx;have e1:=Qs k _ hlt hP.len1;have e3:decide ((x.ops.length:Int)≤64)=WK x:=by unfold WK;exact(by rw[QoR];simp only[Qn1];omega)
   rw[Gw]at hg;cases hb:(B&&Qr (Xf P.progs WK) k)
   ·simp only[QA hlt,e1,cond_true,cond_false,Qa,seval];exact Ac.go hk hlt rfl (by rw[hb];rfl)
   ·simp only[QA hlt,Qp,Qpq,Qf,hg,QoS,e1,e3,cond_true,cond_false,eE,seval];exact Ac.go hk hlt rfl (by rw[hb,XH hx];rfl)
  simp only[QH hlt,ZA hk hlt,Qa,seval];refine Xr P.enums.length 0 (Xf P.enums Ub) (B&&P.progs.all WK) 5 [(1,.ptr 0 1 0)] [(1,.cells (Pc P))] [] (by simp[Qr]) ?_;rintro k f fr hk;simp only[Pc,QoS,XF,QoZ,eE,seval];rcases XS P.enums k with⟨x,hx,hlt⟩|hlt
  ·have hg:=Xe QC hx;have e1:=Qs k _ hlt hP.len2;have e3:((decide ((x.items.length:Int)≥1)&&decide ((x.items.length:Int)≤64))&&decide ((x.free.length:Int)≤16))=Ub x:=by unfold Ub;exact(by rw[QoR];simp only[Qn1,Qol];omega)
   rw[Gv]at hg;simp only[QA hlt,Qp,Qpq,Qf,hg,QoS,eE,seval];cases hb:((B&&P.progs.all WK)&&Qr (Xf P.enums Ub) k)
   ·simp only[e1,cond_true,cond_false,Qa,seval];exact Ac.go hk hlt rfl (by rw[hb];rfl)
   cases c2:decide ((x.items.length:Int)≥1)<;>cases c3:decide ((x.items.length:Int)≤64) <;>
   ·rw[c2,c3]at e3;simp only[Qp,Qpq,Qf,hg,QoS,c2,c3,e1,cond_true,cond_false,eE,seval];exact Ac.go (v:=(Ub x)) hk hlt (by rw[←e3];rfl) (by rw[hb,XH hx];rfl)
  simp only[QH hlt,ZA hk hlt,hl,Qa,seval]
theorem z28:Qg Tryz.prog 28 [P.av] (.bool (F9 P)):=by
 have hn:F9 P=(P.progs.all Wa&&P.enums.all UX):=rfl;obtain⟨T,hT⟩:∃T,T=true:=⟨_,rfl⟩;refine wF Tryz.func28 ?_;simp only[eK,Tryz.f28,seval];simp only[GD,eE,seval];refine Xr P.progs.length 0 (Xf P.progs Wa) T 4 [(1,.ptr 0 1 0)] [(1,.cells (Pc P))] [] (by simp[Qr]) ?_ (by(rw[hT];rfl));rintro k f fr hk;simp only[Pc,QoS,XF,QoZ,eE,seval];rcases XS P.progs k with⟨x,hx,hlt⟩|hlt
 ·have hg:=Xe Qn hx;have e1:=Qs k _ hlt hP.len1;have hsl:=(hP.progs x (Qob hx)).len;rw[Gw]at hg;simp only[QA hlt,Qa,seval];cases hb:(T&&Qr (Xf P.progs Wa) k)
  case' false=>simp only[cond_true,cond_false,Qa,seval]
  case' true=>
   simp only[Qp,Qpq,Qf,hg,cond_true,cond_false,eE,seval];refine aC (z52 x.name) ?_;simp only[cond_true,cond_false,Qa,seval]
  all_goals
   refine Xr x.ops.length 0 (Xf x.ops fun o=>WI o.name) ((T&&Qr (Xf P.progs Wa) k)&&WJ x.name) 5 [(1,.ptr 0 1 0),(4,.int .i64 (k:Nat))] [(1,.cells (Pc P))] [] (by simp[Qr]) ?_ (by rw[hb];rfl);rintro j f fr hj;simp only[Pc,Qp,Qpq,Qf,hg,QoS,XF,QoZ,eE,seval];rcases XS x.ops j with⟨o,ho,hlj⟩|hlj
   ·have hgo:=Xe Qv ho;have e2:=Qs j _ hlj hsl;rw[Gx]at hgo;cases hc:((T&&Qr (Xf P.progs Wa) k)&&WJ x.name)&&Qr (Xf x.ops fun o=>WI o.name) j
    ·simp only[QA hlj,e2,cond_true,cond_false,Qa,seval];exact Ac.go hj hlj rfl (by rw[hc];rfl)
    ·simp only[QA hlj,Qp,Qpq,Qf,hg,hgo,cond_true,cond_false,eE,seval];refine aC (z53 o.name) ?_;simp only[e2,cond_true,cond_false,Qa,seval];exact Ac.go hj hlj rfl (by rw[hc,XH ho];rfl)
   simp only[QH hlj,ZA hj hlj,e1,Qa,seval];exact Ac.go hk hlt rfl (by rw[XH hx];exact(QoI ..).symm)
 simp only[QH hlt,ZA hk hlt,hT,QpE,Qa,seval]
 refine Xr P.enums.length 0 (Xf P.enums UX) (P.progs.all Wa) 6 [(1,.ptr 0 1 0)] [(1,.cells (Pc P))] [] (by simp[Qr]) ?_ rfl;rintro k f fr hk;simp only[Pc,QoS,XF,QoZ,eE,seval];rcases XS P.enums k with⟨x,hx,hlt⟩|hlt
 ·have hg:=Xe QC hx;have e1:=Qs k _ hlt hP.len2;have hsl:=(hP.enums x (Qob hx)).len1;rw[Gv]at hg;simp only[QA hlt,Qa,seval];cases hb:((P.progs.all Wa)&&Qr (Xf P.enums UX) k)
  case' false=>simp only[cond_true,cond_false,Qa,seval]
  case' true=>
   simp only[Qp,Qpq,Qf,hg,cond_true,cond_false,eE,seval];refine aC (z52 x.name) ?_;simp only[cond_true,cond_false,Qa,seval]
  all_goals
   refine Xr x.items.length 0 (Xf x.items fun o=>WI o.name) (((P.progs.all Wa)&&Qr (Xf P.enums UX) k)&&WJ x.name) 7 [(1,.ptr 0 1 0),(6,.int .i64 (k:Nat))] [(1,.cells (Pc P))] [] (by simp[Qr]) ?_ (by rw[hb];rfl);rintro j f fr hj;simp only[Pc,Qp,Qpq,Qf,hg,QoS,XF,QoZ,eE,seval];rcases XS x.items j with⟨o,ho,hlj⟩|hlj
   ·have hgo:=Xe XC ho;have e2:=Qs j _ hlj hsl;rw[Na]at hgo;cases hc:(((P.progs.all Wa)&&Qr (Xf P.enums UX) k)&&WJ x.name)&&Qr (Xf x.items fun o=>WI o.name) j
    ·simp only[QA hlj,e2,cond_true,cond_false,Qa,seval];exact Ac.go hj hlj rfl (by rw[hc];rfl)
    ·simp only[QA hlj,Qp,Qpq,Qf,hg,hgo,cond_true,cond_false,eE,seval];refine aC (z53 o.name) ?_;simp only[e2,cond_true,cond_false,Qa,seval];exact Ac.go hj hlj rfl (by rw[hc,XH ho];rfl)
   simp only[QH hlj,ZA hj hlj,e1,Qa,seval];exact Ac.go hk hlt rfl (by rw[XH hx];exact(QoI ..).symm)
 simp only[QH hlt,ZA hk hlt,hn,Qa,seval]
theorem z29:Qg Tryz.prog 29 [P.av] (.bool (DN P)):=by
 have hn:DN P=((JB P.progs (XT PG.name)&&P.progs.all WL)&&(JB P.enums (XT PE.name)&&P.enums.all UY)):=by
  unfold DN;cases JB P.progs (XT PG.name)<;>cases P.progs.all WL<;>cases JB P.enums (XT PE.name)<;>rfl
 obtain⟨T,hT⟩:∃T,T=true:=⟨_,rfl⟩;refine wF Tryz.func29 ?_;simp only[eK,Tryz.f29,seval];simp only[GD,eE,seval];refine Xr P.progs.length 0 (fun i=>Zp P.progs (XT PG.name) i&&Xf P.progs WL i) T 4 [(1,.ptr 0 1 0)] [(1,.cells (Pc P))] [] (by simp[Qr]) ?_ (by(rw[hT];rfl));rintro k f fr hk;simp only[Pc,QoS,XF,QoZ,eE,seval];rcases XS P.progs k with⟨x,hx,hlt⟩|hlt
 ·have hg:=Xe Qn hx;have e1:=Qs k _ hlt hP.len1;have hsl:=(hP.progs x (Qob hx)).len;rw[Gw]at hg;simp only[QA hlt,Qa,seval];obtain⟨A,hA⟩:∃A,(T&&Qr (fun i=>Zp P.progs (XT PG.name) i&&Xf P.progs WL i) k)=A:=⟨_,rfl⟩;rcases (show(A=false)∨(A=true∧k=0)∨(A=true∧∃j y,k=j+1∧P.progs[j]? = some y)by
   cases A
   ·exact .inl rfl
   ·cases k with
    |zero=>exact .inr (.inl ⟨rfl,rfl⟩)
    |succ j=>exact .inr (.inr ⟨rfl,j,P.progs[j]'(by omega),rfl,QnX (by omega)⟩))with h|⟨h,h0⟩|⟨h,j,y,h0,hy⟩
  case' inl=>
   have hv:(A&&Zp P.progs (XT PG.name) k)=false:=by rw[h];rfl
   simp only[hA,h,cond_true,cond_false,Qa,seval]
  case' inr.inl=>
   have hv:(A&&Zp P.progs (XT PG.name) k)=true:=by rw[h,h0];rfl
   have b0:((k:Int)==0)=true:=by rw[h0];rfl
   simp only[hA,h,b0,cond_true,cond_false,Qa,seval]
  case' inr.inr=>
   have hgy:=Xe Qn hy;have hv:(A&&Zp P.progs (XT PG.name) k)=(XT PG.name) y x:=by
    subst h0;rw[h,Yv hy hx];rfl
   have b0:((k:Int)==0)=false:=by rw[QpK];omega
   have wj:IntKind.i64.wrap ((k:Int)-1)=(j:Int):=by
    subst h0;exact Gy j _ hlt hP.len1
   rw[Gw]at hgy;simp only[hA,h,b0,wj,Qp,Qpq,Qf,hg,hgy,QP,cond_true,cond_false,eE,seval]
  all_goals
   refine Xr x.ops.length 1 (Zp x.ops (KY PO.num)) (A&&Zp P.progs (XT PG.name) k) 5 [(1,.ptr 0 1 0),(4,.int .i64 (k:Nat))] [(1,.cells (Pc P))] [] (by simp[Qr,Zp]) ?_ (by rw[hv];rfl);rintro i f fr hi;simp only[Pc,Qp,Qpq,Qf,hg,QoS,XF,QoZ,eE,seval];rcases XS x.ops i with⟨o,ho,hli⟩|hli
   ·obtain⟨i,rfl⟩:∃n,i=n+1:=⟨i-1,by omega⟩;obtain⟨z,hz⟩:∃z,x.ops[i]? = some z:=⟨x.ops[i]'(by omega),QnX (by omega)⟩;have hgo:=Xe Qv ho;have hgz:=Xe Qv hz;have e2:=Qs (i+1) _ hli hsl;have wi:=Gy i _ hli hsl;rw[Gx]at hgo hgz;cases hc:(A&&Zp P.progs (XT PG.name) k)&&Qr (Zp x.ops (KY PO.num)) (i+1)
    ·simp only[QA hli,e2,cond_true,cond_false,Qa,seval];exact Ac.go hi hli rfl (by rw[hc];rfl)
    ·simp only[QA hli,Qp,Qpq,Qf,hg,hgo,hgz,wi,e2,cond_true,cond_false,eE,seval];exact Ac.go hi hli rfl (by rw[hc,Yv hz ho];rfl)
   have he:Qr (Zp x.ops (KY PO.num)) i=WL x:=JM (fun i hi=>by rw[show i=0 by omega];rfl) hi hli;simp only[QH hli,he,e1,Qa,seval];exact Ac.go hk hlt rfl (by rw[hA,XH hx,QoI])
 have he:Qr (fun i=>Zp P.progs (XT PG.name) i&&Xf P.progs WL i) k=(JB P.progs (XT PG.name)&&P.progs.all WL):=by
  rw[JM (fun i hi=>absurd hi (Qp6 i)) hk hlt,D8,HD];rfl
 simp only[QH hlt,he,hT,QpE,Qa,seval]
 refine Xr P.enums.length 0 (fun i=>Zp P.enums (XT PE.name) i&&Xf P.enums UY i) (JB P.progs (XT PG.name)&&P.progs.all WL) 6 [(1,.ptr 0 1 0)] [(1,.cells (Pc P))] [] (by simp[Qr]) ?_ rfl;rintro k f fr hk;simp only[Pc,QoS,XF,QoZ,eE,seval];rcases XS P.enums k with⟨x,hx,hlt⟩|hlt
 ·have hg:=Xe QC hx;have e1:=Qs k _ hlt hP.len2;have hsl:=(hP.enums x (Qob hx)).len1;rw[Gv]at hg;simp only[QA hlt,Qa,seval];obtain⟨A,hA⟩:∃A,((JB P.progs (XT PG.name)&&P.progs.all WL)&&Qr (fun i=>Zp P.enums (XT PE.name) i&&Xf P.enums UY i) k)=A:=⟨_,rfl⟩;rcases (show(A=false)∨(A=true∧k=0)∨(A=true∧∃j y,k=j+1∧P.enums[j]? = some y)by
   cases A
   ·exact .inl rfl
   ·cases k with
    |zero=>exact .inr (.inl ⟨rfl,rfl⟩)
    |succ j=>exact .inr (.inr ⟨rfl,j,P.enums[j]'(by omega),rfl,QnX (by omega)⟩))with h|⟨h,h0⟩|⟨h,j,y,h0,hy⟩
  case' inl=>
   have hv:(A&&Zp P.enums (XT PE.name) k)=false:=by rw[h];rfl
   simp only[hA,h,cond_true,cond_false,Qa,seval]
  case' inr.inl=>
   have hv:(A&&Zp P.enums (XT PE.name) k)=true:=by rw[h,h0];rfl
   have b0:((k:Int)==0)=true:=by rw[h0];rfl
   simp only[hA,h,b0,cond_true,cond_false,Qa,seval]
  case' inr.inr=>
   have hgy:=Xe QC hy;have hv:(A&&Zp P.enums (XT PE.name) k)=(XT PE.name) y x:=by
    subst h0;rw[h,Yv hy hx];rfl
   have b0:((k:Int)==0)=false:=by rw[QpK];omega
   have wj:IntKind.i64.wrap ((k:Int)-1)=(j:Int):=by
    subst h0;exact Gy j _ hlt hP.len2
   rw[Gv]at hgy;simp only[hA,h,b0,wj,Qp,Qpq,Qf,hg,hgy,QP,cond_true,cond_false,eE,seval]
  all_goals
   refine Xr x.items.length 1 (Zp x.items (KY PI.num)) (A&&Zp P.enums (XT PE.name) k) 7 [(1,.ptr 0 1 0),(6,.int .i64 (k:Nat))] [(1,.cells (Pc P))] [] (by simp[Qr,Zp]) ?_ (by rw[hv];rfl);rintro i f fr hi;simp only[Pc,Qp,Qpq,Qf,hg,QoS,XF,QoZ,eE,seval];rcases XS x.items i with⟨o,ho,hli⟩|hli
   ·obtain⟨i,rfl⟩:∃n,i=n+1:=⟨i-1,by omega⟩;obtain⟨z,hz⟩:∃z,x.items[i]? = some z:=⟨x.items[i]'(by omega),QnX (by omega)⟩;have hgo:=Xe XC ho;have hgz:=Xe XC hz;have e2:=Qs (i+1) _ hli hsl;have wi:=Gy i _ hli hsl;rw[Na]at hgo hgz;cases hc:(A&&Zp P.enums (XT PE.name) k)&&Qr (Zp x.items (KY PI.num)) (i+1)
    ·simp only[QA hli,e2,cond_true,cond_false,Qa,seval];exact Ac.go hi hli rfl (by rw[hc];rfl)
    ·simp only[QA hli,Qp,Qpq,Qf,hg,hgo,hgz,wi,e2,cond_true,cond_false,eE,seval];exact Ac.go hi hli rfl (by rw[hc,Yv hz ho];rfl)
   have he:Qr (Zp x.items (KY PI.num)) i=UY x:=JM (fun i hi=>by rw[show i=0 by omega];rfl) hi hli;simp only[QH hli,he,e1,Qa,seval];exact Ac.go hk hlt rfl (by rw[hA,XH hx,QoI])
 have he:Qr (fun i=>Zp P.enums (XT PE.name) i&&Xf P.enums UY i) k=(JB P.enums (XT PE.name)&&P.enums.all UY):=by
  rw[JM (fun i hi=>absurd hi (Qp6 i)) hk hlt,D8,HD];rfl
 simp only[QH hlt,he,hn,Qa,seval]
end
theorem z54 (L:List PS)(hl:L.length≤maxLen)(n:Int):Qg Tryz.prog 54 [.list (L.map Jx),.int .i64 n] (.bool (kept L n)):=by
 refine wF Tryz.func54 ?_;simp only[eK,Tryz.f54,seval];simp only[Qa,seval];refine Hc (X:=Nat) (fun k=>[(0,.list (L.map Jx)),(1,.int .i64 n),(5,.int .i64 (k:Nat))]) (fun _=>[]) [] (fun k=>L.length-k) (fun k=>k≤L.length∧kept (L.take k) n=false) (fun _=>[]) 0 ⟨Qn6 _,rfl⟩ ?_;rintro k f fr ⟨hk,hz⟩;simp only[QoS,XF,QoZ,Qa,seval];rcases XS L k with⟨x,hx,hlt⟩|hlt
 case inr=>
  rw[Qox (by omega)]at hz;simp only[QH hlt,hz,Qa,seval]
 have hg:=Xe Jx hx;have e1:=Qs k _ hlt hl;have ht:kept (L.take (k+1)) n=_:=Cr hx;have hyes:(decide (x.lo≤n)&&decide (n≤x.hi))=true→kept L n=true:=fun h=>QpV.2 ⟨x,Qob hx,h⟩
 rw[show((L.take k).any fun x=>decide (x.lo≤n)&&decide (n≤x.hi))=false from hz,QpJ]at ht;simp only[Jx,PS.cells]at hg;simp only[QA hlt,Qp,Qpq,Qf,hg,eE,seval];cases a1:decide (x.lo≤n)
 ·simp only[e1,cond_true,cond_false,Qa,seval];exact Ix.go (k+1) (by omega) ⟨by omega,by rw[ht,a1];rfl⟩
 cases a2:decide (n≤x.hi)
 ·simp only[a2,Qp,Qpq,Qf,hg,e1,cond_true,cond_false,eE,seval];exact Ix.go (k+1) (by omega) ⟨by omega,by rw[ht,a1,a2];rfl⟩
 ·rw[hyes (by rw[a1,a2];rfl)];simp only[a2,Qp,Qpq,Qf,hg,cond_true,cond_false,eE,seval]
theorem GE {α:Type}{l:List α}{p:α→Bool}:∀ {j:Nat},j≤l.length→Qr (Xf l p) j=(l.take j).all p
 |0,_=>by simp[Qr]
 |j+1,h=>by
  have hx:l[j]? = some l[j]:=QnX (by omega);rw[Qr,GE (by omega),HE hx,XH hx]
theorem z30 {M:Nat}(P:PL)(hP:P.ok M):Qg Tryz.prog 30 [P.av] (.bool (Ct P)):=by
 have hn:Ct P=(P.progs.all (Kx P)&&P.enums.all HG):=rfl;obtain⟨T,hT⟩:∃T,T=true:=⟨_,rfl⟩;refine wF Tryz.func30 ?_;simp only[eK,Tryz.f30,seval];simp only[GD,eE,seval];refine Xr P.progs.length 0 (Xf P.progs (Kx P)) T 4 [(1,.ptr 0 1 0)] [(1,.cells (Pc P))] [] (by simp[Qr]) ?_ (by rw[hT];rfl);rintro k f fr hk;simp only[Pc,QoS,XF,QoZ,eE,seval];rcases XS P.progs k with⟨x,hx,hlt⟩|hlt
 ·have hg:=Xe Qn hx;have e1:=Qs k _ hlt hP.len1;have hsl:=(hP.progs x (Qob hx)).len;rw[Gw]at hg;simp only[QA hlt,Qa,seval];refine Xr P.enums.length 0 (Xf P.enums fun e=>!(e.name==x.name)) (T&&Qr (Xf P.progs (Kx P)) k) 5 [(1,.ptr 0 1 0),(4,.int .i64 (k:Nat))] [(1,.cells (Pc P))] [] (by simp[Qr]) ?_;rintro j f fr hj;simp only[Pc,QoS,XF,QoZ,eE,seval];rcases XS P.enums j with⟨y,hy,hlj⟩|hlj
  ·have hgy:=Xe QC hy;have e2:=Qs j _ hlj hP.len2;have hcm:(x.name==y.name)=(y.name==x.name):=by rw[QoR,Qn2,Qn2];exact⟨Eq.symm,Eq.symm⟩
   rw[Gv]at hgy;cases hc:(T&&Qr (Xf P.progs (Kx P)) k)&&Qr (Xf P.enums fun e=>!(e.name==x.name)) j
   ·simp only[QA hlj,e2,cond_true,cond_false,Qa,seval];exact Ac.go hj hlj rfl (by rw[hc];rfl)
   ·simp only[QA hlj,Qp,Qpq,Qf,hg,hgy,QP,hcm,e2,cond_true,cond_false,eE,seval];exact Ac.go hj hlj rfl (by rw[hc,XH hy];rfl)
  simp only[QH hlj,ZA hj hlj,Qp,Qpq,Qf,hg,eE,seval];refine Xr x.ops.length 0 (uniq x.ops PO.name) ((T&&Qr (Xf P.progs (Kx P)) k)&&P.enums.all fun e=>!(e.name==x.name)) 7 [(1,.ptr 0 1 0),(4,.int .i64 (k:Nat)),(6,.list (x.ops.map Qv))] [(1,.cells (Pc P))] [] (by simp[Qr]) ?_;rintro i f fr hi;simp only[Pc,QoS,XF,QoZ,Qa,seval];rcases XS x.ops i with⟨o,ho,hli⟩|hli
  ·have hgo:=Xe Qv ho;have e2:=Qs i _ hli hsl;rw[Gx]at hgo;simp only[QA hli,Qa,seval];refine Xr i 0 (Xf x.ops fun y=>!(y.name==o.name)) (((T&&Qr (Xf P.progs (Kx P)) k)&&P.enums.all fun e=>!(e.name==x.name))&&Qr (uniq x.ops PO.name) i) 8 [(1,.ptr 0 1 0),(4,.int .i64 (k:Nat)),(6,.list (x.ops.map Qv)),(7,.int .i64 (i:Nat))] [(1,.cells (Pc P))] [] (by simp[Qr]) ?_;rintro n f fr hn';simp only[Pc,XF,QoZ,Qa,seval];by_cases hln:n<i
   ·obtain⟨z,hz⟩:∃z,x.ops[n]? = some z:=⟨x.ops[n]'(by omega),QnX (by omega)⟩;have hgz:=Xe Qv hz;have e3:=Qs n _ (show n<x.ops.length by omega) hsl;rw[Gx]at hgz;cases hc:(((T&&Qr (Xf P.progs (Kx P)) k)&&P.enums.all fun e=>!(e.name==x.name))&&Qr (uniq x.ops PO.name) i)&&Qr (Xf x.ops fun y=>!(y.name==o.name)) n
    ·simp only[QA hln,e3,cond_true,cond_false,Qa,seval];exact Ac.go hn' hln rfl (by rw[hc];rfl)
    ·simp only[QA hln,Qp,Qpq,Qf,hgo,hgz,QP,e3,cond_true,cond_false,eE,seval];exact Ac.go hn' hln rfl (by rw[hc,XH hz];rfl)
   have he:Qr (Xf x.ops fun y=>!(y.name==o.name)) n=uniq x.ops PO.name i:=by
    rw[JM (fun i hi=>absurd hi (Qp6 i)) hn' hln,GE (by omega),De ho]
   simp only[QH hln,he,e2,Qa,seval];exact Ac.go hi hli rfl rfl
  have he:Qr (uniq x.ops PO.name) i=Ua x.ops PO.name:=JM (fun i hi=>absurd hi (Qp6 i)) hi hli;simp only[QH hli,he,e1,Qa,seval];exact Ac.go hk hlt rfl (by rw[XH hx];exact(QoI ..).symm)
 simp only[QH hlt,ZA hk hlt,hT,QpE,Qa,seval];refine Xr P.enums.length 0 (Xf P.enums HG) (P.progs.all (Kx P)) 9 [(1,.ptr 0 1 0)] [(1,.cells (Pc P))] [] (by simp[Qr]) ?_;rintro k f fr hk;simp only[Pc,QoS,XF,QoZ,eE,seval];rcases XS P.enums k with⟨x,hx,hlt⟩|hlt
 ·have hg:=Xe QC hx;have e1:=Qs k _ hlt hP.len2;have hsl:=(hP.enums x (Qob hx)).len1;rw[Gv]at hg;simp only[QA hlt,Qp,Qpq,Qf,hg,eE,seval];refine Xr x.items.length 0 (uniq x.items PI.name) (P.progs.all (Kx P)&&Qr (Xf P.enums HG) k) 11 [(1,.ptr 0 1 0),(9,.int .i64 (k:Nat)),(10,.list (x.items.map XC))] [(1,.cells (Pc P))] [] (by simp[Qr]) ?_;rintro i f fr hi;simp only[Pc,QoS,XF,QoZ,Qa,seval];rcases XS x.items i with⟨o,ho,hli⟩|hli
  ·have hgo:=Xe XC ho;have e2:=Qs i _ hli hsl;rw[Na]at hgo;simp only[QA hli,Qa,seval];refine Xr i 0 (Xf x.items fun y=>!(y.name==o.name)) ((P.progs.all (Kx P)&&Qr (Xf P.enums HG) k)&&Qr (uniq x.items PI.name) i) 12 [(1,.ptr 0 1 0),(9,.int .i64 (k:Nat)),(10,.list (x.items.map XC)),(11,.int .i64 (i:Nat))] [(1,.cells (Pc P))] [] (by simp[Qr]) ?_;rintro n f fr hn';simp only[Pc,XF,QoZ,Qa,seval];by_cases hln:n<i
   ·obtain⟨z,hz⟩:∃z,x.items[n]? = some z:=⟨x.items[n]'(by omega),QnX (by omega)⟩;have hgz:=Xe XC hz;have e3:=Qs n _ (show n<x.items.length by omega) hsl;rw[Na]at hgz;cases hc:((P.progs.all (Kx P)&&Qr (Xf P.enums HG) k)&&Qr (uniq x.items PI.name) i)&&Qr (Xf x.items fun y=>!(y.name==o.name)) n
    ·simp only[QA hln,e3,cond_true,cond_false,Qa,seval];exact Ac.go hn' hln rfl (by rw[hc];rfl)
    ·simp only[QA hln,Qp,Qpq,Qf,hgo,hgz,QP,e3,cond_true,cond_false,eE,seval];exact Ac.go hn' hln rfl (by rw[hc,XH hz];rfl)
   have he:Qr (Xf x.items fun y=>!(y.name==o.name)) n=uniq x.items PI.name i:=by
    rw[JM (fun i hi=>absurd hi (Qp6 i)) hn' hln,GE (by omega),De ho]
   simp only[QH hln,he,e2,Qa,seval];exact Ac.go hi hli rfl rfl
  have he:Qr (uniq x.items PI.name) i=Ua x.items PI.name:=JM (fun i hi=>absurd hi (Qp6 i)) hi hli;simp only[QH hli,he,e1,Qa,seval];exact Ac.go hk hlt rfl (by rw[XH hx];exact rfl)
 simp only[QH hlt,ZA hk hlt,hn,Qa,seval]
theorem Qe8:Qg Tryz.prog 106 [.str alias] (.int .i64 7):=by
 refine wF Tryz.func106 ?_;simp only[eK,Tryz.f106,seval];have b1:(alias==([100,101,112,114,101,99,97,116,101,100]:List UInt8))=false:=by decide
 have b2:(alias==([115,101,99,114,101,116]:List UInt8))=false:=by decide
 have b3:(alias==([105,100,101,109,112,111,116,101,110,116]:List UInt8))=false:=by decide
 have b4:(alias==([100,111,99]:List UInt8))=false:=by decide
 have b5:(alias==([97,108,105,97,115]:List UInt8))=true:=by decide
 simp only[QP,b1,b2,b3,b4,b5,Qa,seval]
theorem QkG:Qg Tryz.prog 107 [.str alias,.int .i64 4] (.bool true):=by
 refine wF Tryz.func107 ?_;simp only[eK,Tryz.f107,seval];have b1:(alias==([100,101,112,114,101,99,97,116,101,100]:List UInt8))=false:=by decide
 have b4:(alias==([100,111,99]:List UInt8))=false:=by decide
 have b5:(alias==([97,108,105,97,115]:List UInt8))=true:=by decide
 have c2:((4:Int)==2)=false:=rfl;have c4:((4:Int)==4)=true:=rfl;simp only[QP,b1,b4,b5,c2,c4,Qa,seval]
section
variable (kd:Int)(b:Nat)(t:List UInt8)(l p s r:List AV)(ht:t.length+8≤maxLen)
include ht
theorem QkH:Qg Tryz.prog 189 [.int .i64 7,vo kd b t l p s r] (.bool (XQ 7 kd b t l p s r)):=by
 have hl:=y89 kd b t l p s r;simp only[vo]at hl;have n1:(kd != 7)=!(kd==7):=rfl;have k7:isk 7=true:=rfl;have t7:Zx 7=true:=rfl;have f7:Kz 7 b=true:=rfl;have c8:((7:Int)==8)=false:=rfl;have c7:((7:Int) != 7)=false:=rfl;refine wF Tryz.func189 ?_;simp only[eK,Tryz.f189,seval];simp only[vo,XQ,k7,f7,c7,QpE,Qpb,QpJ,eE,seval];refine aC (LD 7) ?_;simp only[k7,n1,QpF,eE,seval];by_cases hk:kd=7
 ·subst hk;have a1:((7:Int)==7)=true:=rfl;simp only[a1,QpF,QpE,t7,eE,seval];refine aC hl ?_;cases Ue l p s r
  ·simp only[Qo5,Qpu,Qa,seval]
  simp only[QpF,QpE,Qa,seval];refine aC (Y8 7) ?_;simp only[t7,eE,seval];cases a2:((b:Int)==0)
  ·simp only[Qpu,Qa,seval]
  cases a3:decide ((t.length:Int)≤4096)
  ·simp only[a3,Qpu,QpG,eE,seval]
  simp only[a3,c8,QpE,eE,seval];refine aC (Qe1 t ht) ?_;simp only[Qa,seval]
 ·have a1:(kd==7)=false:=by simp[hk]
  simp only[a1,Qo5,Qpu,Qa,seval]
theorem QkI:Qg Tryz.prog 108 [nv kd b t l p s r] (.bool (XQ 7 kd b t l p s r)):=by
 have hf:=QkH kd b t l p s r ht;have b0:((7:Int) != 0)=true:=rfl;simp only[vo]at hf;refine wF Tryz.func108 ?_;simp only[eK,Tryz.f108,seval];simp only[nv,eE,seval];refine aC Qe8 ?_;simp only[b0,eE,seval];cases a1:(kd==7)
 ·have e:XQ 7 kd b t l p s r=false:=by unfold XQ;rw[a1];rfl
  simp only[e,Qa,seval]
 ·simp only[eE,seval];refine aC hf ?_;simp only[Qa,seval]
def RcI (k:Nat)(st:St):Prop :=
 ∃f i,st=⟨f,[Qb],[]⟩∧k=1-i∧i≤1∧(i=1→XQ 7 kd b t l p s r=true)∧f 0=.list [nv kd b t l p s r]∧f 1=.int .i64 4∧f 5=.int .i64 (i:Nat)
theorem z55:Qg Tryz.prog 55 [.list [nv kd b t l p s r],.int .i64 4] (.int .i64 (if XQ 7 kd b t l p s r=true then 0 else 12)):=by
 have b0:decide (((1:Nat):Int) > 8)=false:=rfl;have hr:=QkI kd b t l p s r ht;simp only[nv]at hr;refine wF Tryz.func55 ?_;simp only[eK,Tryz.f55,seval];simp only[Qoc,QoT,Qom,Qa,seval];refine Qi (RcI kd b t l p s r) 1 ⟨_,0,rfl,rfl,Qn6 _,(fun h=>by cases h),rfl,rfl,rfl⟩ ?_;rintro _ st ⟨f,i,rfl,rfl,hi,hf,h0,h1,h5⟩;simp only[nv]at h0;simp only[h0,h5,Qoc,QoT,Qom,Qa,seval];rcases Nat.le_one_iff_eq_zero_or_eq_one.1 hi with rfl|rfl
 ·have c0:decide (((0:Nat):Int)<((1:Nat):Int))=true:=rfl;have c1:decide (((0:Nat):Int) > 0)=false:=rfl;have d7:((7:Int)==0)=false:=rfl;have e1:IntKind.i64.wrap (((0:Nat):Int)+1)=((1:Nat):Int):=rfl;have z0:(0≤((0:Nat):Int))=True:=by simp
  have z1:Int.toNat ((0:Nat):Int)=0:=rfl;simp only[Qf,Qo0,h0,h5,eE,seval];refine aC Qe8 ?_;simp only[d7,Qf,Qo0,h0,h1,h5,eE,seval];refine aC QkG ?_;simp only[QpF,Qf,Qo0,h0,h5,eE,seval];refine aC hr ?_;cases hfv:XQ 7 kd b t l p s r
  ·simp only[Qo5,Qog,Qa,seval]
  ·simp only[QpF,h5,Qa,seval];exact⟨0,by omega,_,1,rfl,rfl,QnV _,fun _=>hfv,h0,h1,rfl⟩
 ·have c0:decide (((1:Nat):Int)<((1:Nat):Int))=false:=rfl;simp only[hf rfl,Qa,seval]
end
section
variable (P:PL)
def HI (P:PL)(o:PO):Bool :=
 if o.kind=10 then decide (o.target≥0)&&decide (o.target<(P.progs.length:Int))&&o.card != 3
 else if o.kind=9 then decide (o.target≥0)&&decide (o.target<(P.enums.length:Int))else o.target == -1
theorem QkJ (o:PO):Qg Tryz.prog 110 [P.av,Qv o] (.bool (HI P o)):=by
 have e0:P.av=.agg [.list (P.progs.map Qn),.list (P.enums.map QC)]:=rfl;refine wF Tryz.func110 ?_;simp only[eK,Tryz.f110,seval];simp only[e0,Qv,PO.cells,HI,eE,seval];by_cases h:o.kind=10
 ·have b0:(o.kind==10)=true:=by simp[h]
  simp only[b0,Qn5 h,eE,seval];cases a1:decide (o.target≥0)<;>cases a2:decide (o.target<(P.progs.length:Int))<;>simp only[a2,QpE,Qpu,QoS,eE,seval]
 ·have b0:(o.kind==10)=false:=by simp[h]
  by_cases h9:o.kind=9
  ·have b1:(o.kind==9)=true:=by simp[h9]
   simp only[b0,b1,Qn4 h,Qn5 h9,eE,seval];cases a1:decide (o.target≥0)<;>simp only[QpE,Qpu,QoS,eE,seval]
  ·have b1:(o.kind==9)=false:=by simp[h9]
   simp only[b0,b1,Qn4 h,Qn4 h9,eE,seval]
theorem Qe9 (o:PO):(K0 P o&&JX o)=(YK o.alias&&(decide ((o.alias.length:Int)≤4096)&&(decide (o.card≥1)&&(decide (o.card≤5)&&(decide (o.kind≥1)&&(decide (o.kind≤10)&&(key o&&HI P o&&JX o))))))):=by
 have h:Bd P o=(decide (o.kind≥1)&&decide (o.kind≤10)&&HI P o):=by
  unfold Bd HI;by_cases h:o.kind=10
  ·rw[Qn5 h,Qn5 h,h];rfl
  ·rw[Qn4 h,Qn4 h];by_cases h9:o.kind=9
   ·rw[Qn5 h9,Qn5 h9,h9];rfl
   ·rw[Qn4 h9,Qn4 h9];congr 1
    unfold isk;rw[QoR,Qol,Qol];simp only[Qn1];omega
 unfold K0;rw[h];cases YK o.alias<;>cases decide ((o.alias.length:Int)≤4096)<;>cases decide (o.card≥1)<;>cases decide (o.card≤5)<;>cases decide (o.kind≥1)<;>cases decide (o.kind≤10)<;>cases key o<;>cases HI P o<;>cases JX o<;>rfl
theorem z57 (o:PO)(ha:o.alias.length+8≤maxLen):Qg Tryz.prog 57 [P.av,Qv o] (.bool (K0 P o&&JX o)):=by
 have e0:P.av=.agg [.list (P.progs.map Qn),.list (P.enums.map QC)]:=rfl;have n1:decide ((o.alias.length:Int) > 4096)=!decide ((o.alias.length:Int)≤4096):=(by rw[QoR];simp only[Qn1,QoV,QpZ];omega);have n2:decide (o.card<1)=!decide (o.card≥1):=(by rw[QoR];simp only[Qn1,QoV,QpZ];omega);have n3:decide (o.card > 5)=!decide (o.card≤5):=(by rw[QoR];simp only[Qn1,QoV,QpZ];omega);have n4:decide (o.kind<1)=!decide (o.kind≥1):=(by rw[QoR];simp only[Qn1,QoV,QpZ];omega);have n5:decide (o.kind > 10)=!decide (o.kind≤10):=(by rw[QoR];simp only[Qn1,QoV,QpZ];omega);have ht:Qg Tryz.prog 110 [.agg [.list (P.progs.map Qn),.list (P.enums.map QC)],Qv o] (.bool (HI P o)):=QkJ P o;have hk1:o.card≠5→key o=(o.key==0):=fun h=>by unfold key;rw[Qn4 h]
 have hk2:o.card=5→key o=((decide (o.key≥1)&&decide (o.key≤5))||o.key==7):=fun h=>by
  unfold key;rw[Qn5 h,QoR];simp only[Qol,Qn0,Qn1,Qn2,Qoq,ne_eq];omega
 have hu:JX o=(o.union == -1||o.card==2):=rfl;simp only[Qv,PO.cells]at ht;rw[Qe9];refine k57.fn (by simp) ?_;simp only[Ls,Lt,Lu,Lv,Lw,Lx,r57,o57,e0,Qv,PO.cells,eE,seval];refine aC (Qe1 o.alias ha) ?_;cases YK o.alias
 ·simp only[Qo5,Qpu,Qa,seval]
 cases a1:decide ((o.alias.length:Int)≤4096)
 ·simp only[QpF,Qo5,QpE,n1,a1,Qpu,eE,seval]
 cases a2:decide (o.card≥1)
 ·simp only[QpF,Qo5,QpE,n1,n2,a1,a2,Qpu,eE,seval]
 cases a3:decide (o.card≤5)
 ·simp only[QpF,Qo5,QpE,n1,n2,n3,a1,a2,a3,Qpu,eE,seval]
 cases a4:decide (o.kind≥1)
 ·simp only[QpF,Qo5,QpE,n1,n2,n3,n4,a1,a2,a3,a4,Qpu,eE,seval]
 cases a5:decide (o.kind≤10)
 ·simp only[QpF,Qo5,QpE,n1,n2,n3,n4,n5,a1,a2,a3,a4,a5,Qpu,eE,seval]
 have fin:∀(f:Fr) (fr:Nat→Ob) (kb:Bool),kb=key o→f 2=.ptr 0 2 0→fr 2=.cells [.list (P.progs.map Qn),.list (P.enums.map QC)]→f 3=.ptr 0 3 0→fr 3=.cells [.int .i64 o.num,.str o.name,.str o.alias,.int .i64 o.card,.int .i64 o.key,.int .i64 o.kind,.int .i64 o.target,.int .i64 o.union]→f 5=.bool kb→
   QE Tryz.prog R4 ⟨f,[fr],[]⟩ (Kc Tryz.prog .ret (ZY [.tmp 4] 0 fun x _=>x=.bool (key o&&HI P o&&JX o)) .normal):=by
  intro f fr kb hkb h2 m2 h3 m3 h5;subst hkb;simp only[R4,h5,Qa,seval];cases key o
  ·simp only[Qpu,Qa,seval]
  simp only[h2,m2,h3,m3,QpE,eE,seval];refine aC ht ?_;cases HI P o
  ·simp only[Qpu,Qa,seval]
  rw[hu];cases c1:(o.union == -1)<;>simp only[h3,m3,c1,QpE,QpI,QpJ,eE,seval]
 by_cases h5:o.card=5
 ·have b5:(o.card != 5)=false:=by simp[h5]
  have hk:=hk2 h5;simp only[QpF,QpE,n1,n2,n3,n4,n5,a1,a2,a3,a4,a5,eE,seval];cases c1:decide (o.key≥1)<;>cases c2:decide (o.key≤5)<;>cases c3:(o.key==7)<;>simp only[c2,c3,b5,eE,seval]
  all_goals
   rw[c1,c2,c3]at hk;exact fin _ _ _ hk.symm rfl rfl rfl rfl rfl
 ·have b5:(o.card != 5)=true:=by simp[h5]
  have hk:=hk1 h5;simp only[QpF,QpE,n1,n2,n3,n4,n5,a1,a2,a3,a4,a5,eE,seval];cases c1:decide (o.key≥1)<;>cases c2:decide (o.key≤5)<;>cases c3:(o.key==7)<;>simp only[c2,c3,b5,eE,seval]
  all_goals exact fin _ _ _ hk.symm rfl rfl rfl rfl rfl
end
end Go.Proofs.YtgnfjkkfbcnbfaaGreatDoor.Va
namespace Go.Proofs.YtgnfjkkfbcnbfaaGreatDoor.Cp
open Go Am Bt Vp
structure C where
 d:List UInt8
 a:Int
 e:Int
 dp:Int
 nd:Int
 tx:Int
def C.av (c:C):AV:=.agg [.str c.d,.int .i64 c.a,.int .i64 c.e,.int .i64 c.dp,.int .i64 c.nd,.int .i64 c.tx]
def zc:C:=⟨[],0,0,0,0,0⟩
structure L where
 b:Int
 dp:Int
 nd:Int
 tx:Int
def L.av (l:L):AV:=.agg [.int .i64 l.b,.int .i64 l.dp,.int .i64 l.nd,.int .i64 l.tx]
def C.sound (c:C):Bool:=decide (0≤c.a)&&decide (c.a≤c.e)&&decide (c.e≤(c.d.length:Int))
def C.rest (c:C):List UInt8:=bif c.sound then(c.d.drop c.a.toNat).take (c.e.toNat-c.a.toNat)else []
def C.left (c:C):Int:=(c.rest.length:Int)
def C.ahead (c:C)(n:Int):C:={ c with a:=IntKind.i64.wrap (c.a+n) }
def opn (s:List UInt8)(l:L):C×Nat :=
 if l.b<0∨l.dp<0∨l.nd<0∨l.tx<0 then(zc,1)else if l.b<(s.length:Int)then(zc,3)else(⟨s,0,s.length,l.dp,l.nd,l.tx⟩,0)
def C.varint (c:C):Nat×C×Nat :=
 let r:=Vp.take c.rest
 if r.2.2=0 then(r.1,c.ahead r.2.1,0)else(0,c,r.2.2)
def Uf (s:List UInt8):Nat:=(s.take 8).foldr (fun b u=>256*u+b.toNat) 0
def C.fixed (c:C):Nat×C×Nat :=
 if c.rest.length<8 then(0,c,4)else(Uf c.rest,c.ahead 8,0)
def C.spend (c:C)(n:Int):C×Nat :=
 if n<0 then(c,1)else if c.nd<n then(c,3)else({ c with nd:=IntKind.i64.wrap (c.nd-n) },0)
def We (r:Nat×C×Nat):AV:=.tup [.int .u64 (r.1:Nat),r.2.1.av,.int .i64 (r.2.2:Nat)]
def Hd (r:C×Nat):AV:=.tup [r.1.av,.int .i64 (r.2:Nat)]
theorem C.sound_iff (c:C):c.sound=true↔0≤c.a∧c.a≤c.e∧c.e≤(c.d.length:Int):=by
 simp[C.sound,and_assoc]
theorem C.rest_len (c:C):c.left=if c.sound=true then c.e-c.a else 0:=by
 unfold C.left C.rest;split
 ·rename_i h;rw[h];have:=(C.sound_iff c).1 h;simp;omega
 ·rename_i h;have h:c.sound=false:=by simpa using h
  rw[h];rfl
theorem C.rest_of {c:C}(h:c.sound=true):c.rest=(c.d.drop c.a.toNat).take (c.e.toNat-c.a.toNat):=by
 unfold C.rest;rw[h];rfl
theorem C.rest_no {c:C}(h:c.sound=false):c.rest=[]:=by
 unfold C.rest;rw[h];rfl
theorem C.head_of {c:C}(h:c.sound=true)(n:Nat)(k:Int)(hk:k=if c.a+n<c.e then c.a+n else c.e):c.rest.take n=(c.d.drop c.a.toNat).take (k.toNat-c.a.toNat):=by
 have hs:=(C.sound_iff c).1 h;rw[C.rest_of h,Qpd];congr 1
 split at hk<;>omega
end Go.Proofs.YtgnfjkkfbcnbfaaGreatDoor.Cp
namespace Go.Proofs.YtgnfjkkfbcnbfaaGreatDoor.Up
open Go Am Bt Vp Cp
structure R where
 num:Int
 wire:Int
 bits:Nat
 data:List UInt8
 deriving DecidableEq
def R.av (f:R):AV:=.agg [.int .i64 f.num,.int .i64 f.wire,.int .u64 (f.bits:Nat),.str f.data]
def zr:R:=⟨0,0,0,[]⟩
def ZR (num wire:Int):List UInt8×Nat :=
 if num<1∨65535<num∨wire<0∨6<wire then([],6)else(Vp.put (num*8+wire).toNat,0)
def Sf (r:List UInt8×Nat):AV:=.tup [.str r.1,.int .i64 (r.2:Nat)]
def QF (c:C):Int×Int×C×Nat :=
 let r:=c.varint
 if r.2.2=0 then
  if r.1 % 8=7 then(0,0,c,5)else if r.1 / 8<1∨65535<r.1 / 8 then(0,0,c,6)else((r.1 / 8:Nat),(r.1 % 8:Nat),r.2.1,0)
 else(0,0,c,r.2.2)
def NT (r:Int×Int×C×Nat):AV:=.tup [.int .i64 r.1,.int .i64 r.2.1,r.2.2.1.av,.int .i64 (r.2.2.2:Nat)]
def Zb (wire:Int):Bool:=wire==0||wire==1||wire==2
def JY (c:C)(wire:Int):List UInt8×C×Nat :=
 let r:=c.varint
 if r.2.2=0 then
  if r.2.1.left<(r.1:Int)then([],c,4)
  else if (if wire=3 then c.tx else 65536)<(r.1:Int)then([],c,3)
  else((r.2.1.d.drop r.2.1.a.toNat).take r.1,r.2.1.ahead r.1,0)
 else([],c,r.2.2)
def GF (r:List UInt8×C×Nat):AV:=.tup [.str r.1,r.2.1.av,.int .i64 (r.2.2:Nat)]
def Zl (c:C)(f:R):R×C×Nat :=
 if f.wire=2 then({ f with bits:=c.fixed.1 },c.fixed.2.1,c.fixed.2.2)
 else if f.wire=0∨f.wire=1 then({ f with bits:=c.varint.1 },c.varint.2.1,c.varint.2.2)
 else({ f with data:=(JY c f.wire).1 },(JY c f.wire).2.1,(JY c f.wire).2.2)
def XJ (c:C):R×C×Nat :=
 let t:=QF c
 if t.2.2.2=0 then
  let s:=t.2.2.1.spend 1
  if s.2=0 then
   let k:=Zl s.1 { num:=t.1,wire:=t.2.1,bits:=0,data:=[] }
   if k.2.2=0 then k else(zr,c,k.2.2)
  else(zr,c,s.2)
 else(zr,c,t.2.2.2)
def Nf (r:R×C×Nat):AV:=.tup [r.1.av,r.2.1.av,.int .i64 (r.2.2:Nat)]
theorem CF {c:C}(h:c.rest≠[]):c.sound=true:=by
 cases hs:c.sound with
 |true=>rfl
 |false=>exact absurd (C.rest_no hs) h
theorem Z4 {c:C}(hl:c.d.length≤9223372036854775807)(h:c.varint.2.2=0):∃n:Nat,0<n∧n≤10∧(n:Int)≤c.left∧c.varint.2.1={ c with a:=c.a+n }∧c.sound=true∧c.varint.2.1.sound=true∧c.varint.1<2 ^ 64:=by
 unfold C.varint at h ⊢;have hb:=U0 c.rest;generalize Vp.take c.rest=r at h hb ⊢;obtain⟨u,n,e⟩:=r;simp only at h hb ⊢;split at h
 ·rename_i he;subst he;obtain⟨h1,h2,h3,h4⟩:=hb rfl;have hne:c.rest≠[]:=by intro e;rw[e]at h2;simp at h2;omega
  have hs:=CF hne;have hs':=(C.sound_iff c).1 hs;have hle:=c.rest_len;rw[Qn5 hs]at hle;have hw:IntKind.i64.wrap (c.a+(n:Int))=c.a+n:=by
   have:(n:Int)≤c.left:=by unfold C.left;omega
   rw[Qz];omega
  have hnl:(n:Int)≤c.left:=by unfold C.left;omega
  refine⟨n,h1,h3,hnl,?_,hs,?_,?_⟩
  ·rw[Qn5 rfl];simp only[C.ahead,hw]
  ·rw[Qn5 rfl];rw[C.sound_iff];simp only[C.ahead,hw];omega
  ·rw[Qn5 rfl];exact h4
 ·rename_i he;exact absurd h he
end Go.Proofs.YtgnfjkkfbcnbfaaGreatDoor.Up
namespace Go.Proofs.YtgnfjkkfbcnbfaaGreatDoor.Br
open Go Am Up
theorem Qco {M k:Nat}{cs:List AV}(h:Xx Tryz.prog M k 68 cs):∃f:R,((Lit.int .i64 f.num).wf=true∧(Lit.int .i64 f.wire).wf=true∧(Lit.int .u64 (f.bits:Int)).wf=true∧f.data.length≤M)∧.agg cs=f.av:=by
 obtain⟨k,h⟩:=ZZ Tryz.underlying68 h;simp only[Xx.HasL]at h;obtain⟨_,_,rfl,h0,_,_,rfl,h1,_,_,rfl,h2,_,_,rfl,h3,rfl⟩:=h;obtain⟨a0,rfl,w0⟩:=Zk Tryz.underlying3 h0;obtain⟨a1,rfl,w1⟩:=Zk Tryz.underlying3 h1;obtain⟨a2,rfl,w2⟩:=Zk Tryz.underlying26 h2;obtain⟨a3,rfl,w3⟩:=KQ Tryz.underlying9 h3;have hn:0≤a2:=V0 w2;obtain⟨n,rfl⟩:=QpH hn;exact⟨⟨a0,a1,n,a3⟩,⟨w0,w1,w2,w3⟩,rfl⟩
inductive V where
 |mk (k:Int) (b:Nat) (t:List UInt8) (l:List V) (p:List (V×V)) (s:List (Int×V)) (r:List R)
 deriving Inhabited
mutual
def V.cells:V→List AV
 |.mk k b t l p s r=>[.int .i64 k,.int .u64 (b:Nat),.str t,.list (V.cl l),.list (V.cp p),.list (V.cs s),.list (r.map R.av)]
def V.cl:List V→List AV
 | []=>[]
 |x :: l=>.agg x.cells :: V.cl l
def V.cp:List (V×V)→List AV
 | []=>[]
 |(a,b) :: l=>.agg (a.cells++b.cells) :: V.cp l
def V.cs:List (Int×V)→List AV
 | []=>[]
 |(n,a) :: l=>.agg (.int .i64 n :: a.cells) :: V.cs l
end
def V.kd:V→Int|.mk k _ _ _ _ _ _=>k
def V.bits:V→Nat|.mk _ b _ _ _ _ _=>b
def V.text:V→List UInt8|.mk _ _ t _ _ _ _=>t
def V.list:V→List V|.mk _ _ _ l _ _ _=>l
def V.pairs:V→List (V×V)|.mk _ _ _ _ p _ _=>p
def V.slots:V→List (Int×V)|.mk _ _ _ _ _ s _=>s
def V.raws:V→List R|.mk _ _ _ _ _ _ r=>r
def V.av (v:V):AV:=.agg v.cells
def V.pav (p:V×V):AV:=.agg (p.1.cells++p.2.cells)
def V.sav (s:Int×V):AV:=.agg (.int .i64 s.1 :: s.2.cells)
theorem V.cl_eq:∀l:List V,V.cl l=l.map V.av
 | []=>rfl
 |x :: l=>by rw[V.cl,V.cl_eq l];rfl
theorem V.cp_eq:∀l:List (V×V),V.cp l=l.map V.pav
 | []=>rfl
 |(a,b) :: l=>by rw[V.cp,V.cp_eq l];rfl
theorem V.cs_eq:∀l:List (Int×V),V.cs l=l.map V.sav
 | []=>rfl
 |(n,a) :: l=>by rw[V.cs,V.cs_eq l];rfl
theorem V.eta:∀v:V,v.cells=[.int .i64 v.kd,.int .u64 (v.bits:Nat),.str v.text,.list (v.list.map V.av),.list (v.pairs.map V.pav),.list (v.slots.map V.sav),.list (v.raws.map R.av)]
 |.mk k b t l p s r=>by rw[V.cells,V.cl_eq,V.cp_eq,V.cs_eq];rfl
theorem V.ind {P:V→Prop}(h:∀v:V,(∀x∈v.list,P x)→(∀x∈v.pairs,P x.1∧P x.2)→(∀x∈v.slots,P x.2)→P v)(v:V):P v :=
 V.rec (motive_1:=P) (motive_2:=fun l=>∀x∈l,P x) (motive_3:=fun p=>∀x∈p,P x.1∧P x.2) (motive_4:=fun s=>∀x∈s,P x.2) (motive_5:=fun q=>P q.1∧P q.2) (motive_6:=fun q=>P q.2)
  (fun k b t l p s r hl hp hs=>h (.mk k b t l p s r) hl hp hs)
  (by simp) (fun a l ha hl=>by simpa using ⟨ha,hl⟩)
  (by simp) (fun a l ha hl=>by simp only[Qpk,forall_eq_or_imp];exact⟨ha,hl⟩)
  (by simp) (fun a l ha hl=>by simp only[Qpk,forall_eq_or_imp];exact⟨ha,hl⟩)
  (fun a b ha hb=>⟨ha,hb⟩) (fun n a ha=>ha) v
structure _root_.Go.Proofs.YtgnfjkkfbcnbfaaGreatDoor.Up.R.ok (M:Nat)(f:R):Prop where
 num:(Lit.int .i64 f.num).wf=true
 wire:(Lit.int .i64 f.wire).wf=true
 bits:(Lit.int .u64 (f.bits:Int)).wf=true
 data:f.data.length≤M
inductive V.ok (M:Nat):V→Prop
 |mk {v:V} (kd:(Lit.int .i64 v.kd).wf=true) (bits:(Lit.int .u64 (v.bits:Int)).wf=true) (text:v.text.length≤M) (nl:v.list.length≤1099511627776) (np:v.pairs.length≤549755813888) (ns:v.slots.length≤1099511627776) (nr:v.raws.length≤70368744177664)
   (list:∀x∈v.list,V.ok M x) (keys:∀x∈v.pairs,V.ok M x.1) (vals:∀x∈v.pairs,V.ok M x.2) (nums:∀x∈v.slots,(Lit.int .i64 x.1).wf=true) (slots:∀x∈v.slots,V.ok M x.2) (raws:∀x∈v.raws,x.ok M):V.ok M v
section
variable {M:Nat}{v:V}(h:v.ok M)
include h
theorem V.ok.kd:(Lit.int .i64 v.kd).wf=true:=by cases h;assumption
theorem V.ok.bits:(Lit.int .u64 (v.bits:Int)).wf=true:=by cases h;assumption
theorem V.ok.text:v.text.length≤M:=by cases h;assumption
theorem V.ok.nl:v.list.length≤1099511627776:=by cases h;assumption
theorem V.ok.np:v.pairs.length≤549755813888:=by cases h;assumption
theorem V.ok.ns:v.slots.length≤1099511627776:=by cases h;assumption
theorem V.ok.nr:v.raws.length≤70368744177664:=by cases h;assumption
theorem V.ok.list:∀x∈v.list,x.ok M:=by cases h;assumption
theorem V.ok.keys:∀x∈v.pairs,x.1.ok M:=by cases h;assumption
theorem V.ok.vals:∀x∈v.pairs,x.2.ok M:=by cases h;assumption
theorem V.ok.nums:∀x∈v.slots,(Lit.int .i64 x.1).wf=true:=by cases h;assumption
theorem V.ok.slots:∀x∈v.slots,x.2.ok M:=by cases h;assumption
theorem V.ok.raws:∀x∈v.raws,x.ok M:=by cases h;assumption
end
theorem V.cells_length (v:V):v.cells.length=7:=by rw[V.eta];rfl
theorem Ng {c:List AV}(h:2≤c.length):Zg c=.agg c:=by
 match c,h with
 |_ :: _ :: _,_=>rfl
theorem QhF {M:Nat}(hM:M=reachBytes∨M≤1048576):∀ {k:Nat} {cs:List AV},Xx Tryz.prog M k 32 cs→∃v:V,v.ok M∧cs=v.cells:=by
 intro k
 induction k using Nat.strongRecOn with
 |ind k ih=>
 intro cs h;cases k with
 |zero=>cases h
 |succ k=>
 simp only[Xx,Tryz.underlying32,Xx.HasL]at h;obtain⟨_,_,rfl,h0,_,_,rfl,h1,_,_,rfl,h2,_,_,rfl,h3,_,_,rfl,h4,_,_,rfl,h5,_,_,rfl,h6,rfl⟩:=h;obtain⟨a0,rfl,w0⟩:=Zk Tryz.underlying3 h0;obtain⟨a1,rfl,w1⟩:=Zk Tryz.underlying26 h1;obtain⟨a2,rfl,w2⟩:=KQ Tryz.underlying9 h2;have hb:0≤a1:=V0 w1;obtain⟨b,rfl⟩:=QpH hb;have sl:∀ {k0:Nat} {t e:TypeId} {cs:List AV},k0≤k→Tryz.prog.underlying t=some (.slice e)→Xx Tryz.prog M k0 t cs→∃(k':Nat) (l:List (List AV)),k'<k∧cs=[.list (l.map Zg)]∧(l.length≤M∧(M=reachBytes→l.length*Tryz.prog.bytesOf e≤M))∧∀c∈l,Xx Tryz.prog M k' e c:=by
  intro k0 t e cs hk hu h;cases k0 with
  |zero=>cases h
  |succ k0=>
   simp only[Xx,hu]at h;obtain⟨l,h1,h4,h3,h2⟩:=h;exact⟨k0,l,by omega,h1,⟨h2,h4.2⟩,h3⟩
 have nb:∀ {n b:Nat} (c:Nat),(n≤M∧(M=reachBytes→n*b≤M))→1048576≤c→(n*b≤140737488351232→n≤c)→n≤c:=fun c h1 h2 h3=>by
  rcases hM with e|e
  ·refine h3 (QnU (h1.2 e) ?_);rw[e];exact QnV _
  ·exact QnU h1.1 (QnU e h2)
 have y1:Tryz.prog.bytesOf 32=128:=by decide +kernel
 have y2:Tryz.prog.bytesOf 50=256:=by decide +kernel
 have y3:Tryz.prog.bytesOf 52=136:=by decide +kernel
 have y4:Tryz.prog.bytesOf 68=40:=by decide +kernel
 obtain⟨k3,l3,b3,rfl,w3,hl3⟩:=sl (QnV _) Tryz.underlying27 h3;obtain⟨k4,l4,b4,rfl,w4,hl4⟩:=sl (QnV _) Tryz.underlying28 h4;obtain⟨k5,l5,b5,rfl,w5,hl5⟩:=sl (QnV _) Tryz.underlying29 h5;obtain⟨k6,l6,b6,rfl,w6,hl6⟩:=sl (QnV _) Tryz.underlying30 h6;obtain⟨vs,rfl,hvs⟩:=Jk (f:=V.cells) (ok:=V.ok M) fun c hc=>ih k3 (by omega) (hl3 c hc)
 obtain⟨ps,rfl,hps⟩:=Jk (l:=l4) (f:=fun p:V×V=>p.1.cells++p.2.cells) (ok:=fun p=>p.1.ok M∧p.2.ok M) fun c hc=>by
  have h:=hl4 c hc;cases k4 with
  |zero=>cases h
  |succ k4=>
  simp only[Xx,Tryz.underlying50,Xx.HasL]at h;obtain⟨a,_,rfl,h0,b,_,rfl,h1,rfl⟩:=h;obtain⟨x,hx,rfl⟩:=ih k4 (by omega) h0;obtain⟨y,hy,rfl⟩:=ih k4 (by omega) h1;exact⟨(x,y),⟨hx,hy⟩,by simp⟩
 obtain⟨ss,rfl,hss⟩:=Jk (l:=l5) (f:=fun s:Int×V=>.int .i64 s.1 :: s.2.cells) (ok:=fun s=>(Lit.int .i64 s.1).wf=true∧s.2.ok M) fun c hc=>by
  have h:=hl5 c hc;cases k5 with
  |zero=>cases h
  |succ k5=>
  simp only[Xx,Tryz.underlying52,Xx.HasL]at h;obtain⟨_,_,rfl,h0,b,_,rfl,h1,rfl⟩:=h;obtain⟨a0,rfl,w0⟩:=Zk Tryz.underlying3 h0;obtain⟨y,hy,rfl⟩:=ih k5 (by omega) h1;exact⟨(a0,y),⟨w0,hy⟩,by simp⟩
 obtain⟨rs,rfl,hrs⟩:=Jk (l:=l6) (f:=fun r:R=>r.av.cells) (ok:=R.ok M) fun c hc=>by
  obtain⟨f,⟨g1,g2,g3,g4⟩,e⟩:=Qco (hl6 c hc);refine⟨f,⟨g1,g2,g3,g4⟩,?_⟩;rw[←e];rfl
 refine⟨.mk a0 b a2 vs ps ss rs,.mk w0 w1 w2 (by rw[QoS,y1]at w3;exact nb _ w3 (by decide) (by omega)) (by rw[QoS,y2]at w4;exact nb _ w4 (by decide) (by omega)) (by rw[QoS,y3]at w5;exact nb _ w5 (by decide) (by omega)) (by rw[QoS,y4]at w6;exact nb _ w6 (by decide) (by omega)) hvs (fun x hx=>(hps x hx).1) (fun x hx=>(hps x hx).2) (fun x hx=>(hss x hx).1) (fun x hx=>(hss x hx).2) hrs,?_⟩;rw[V.eta];have e3:(vs.map V.cells).map Zg=vs.map V.av:=by
  rw[QpO];exact QpN fun c _=>Ng (by rw[V.cells_length];omega)
 have e4:(ps.map (fun p=>p.1.cells++p.2.cells)).map Zg=ps.map V.pav:=by
  rw[QpO];exact QpN fun p _=>Ng (by rw[QoB,V.cells_length];omega)
 have e5:(ss.map (fun s=>AV.int .i64 s.1 :: s.2.cells)).map Zg=ss.map V.sav:=by
  rw[QpO];exact QpN fun p _=>Ng (by rw[Qoc,V.cells_length];omega)
 have e6:(rs.map (fun r=>r.av.cells)).map Zg=rs.map R.av:=by
  rw[QpO];exact QpN fun r _=>rfl
 rw[e3,e4,e5,e6];rfl
end Go.Proofs.YtgnfjkkfbcnbfaaGreatDoor.Br
namespace Go.Proofs.YtgnfjkkfbcnbfaaGreatDoor.Va
open Go Am Rc Bt Br
def oth (k:Int)(b:Nat)(t:List UInt8)(l p s r:List AV):Bool :=
 (k != 11&&decide ((l.length:Int) > 0))||(k != 12&&decide ((p.length:Int) > 0))||(k != 10&&decide (((s.length+r.length:Nat):Int) > 0))||((b:Int) != 0&&(Zx k||k==10||k==11||k==12))||(!(t==[]) && !Zx k)
section
variable (k:Int)(b:Nat)(t:List UInt8)(l p s r:List AV)(hs:s.length≤140737488351232)(hr:r.length≤140737488351232)
set_option maxHeartbeats 2000000 in
include hs hr in
theorem z65:Qg Tryz.prog 65 [vo k b t l p s r] (.bool (oth k b t l p s r)):=by
 have w:IntKind.i64.wrap ((s.length:Int)+(r.length:Int))=((s.length+r.length:Nat):Int):=by simp only[Qz];omega
 have n4:((b:Int) != 0)=!((b:Int)==0):=rfl;have n5:(t != [])=!(t==[]):=rfl;refine wF Tryz.func65 ?_;simp only[eK,Tryz.f65,seval];simp only[vo,oth,Zx,n4,eE,seval];rcases(by omega:k=7∨k=8∨k=10∨k=11∨k=12∨(k≠7∧k≠8∧k≠10∧k≠11∧k≠12))with rfl|rfl|rfl|rfl|rfl|⟨h7,h8,h10,h11,h12⟩
 ·have b7:((7:Int)==7)=true:=by decide
  have b8:((7:Int)==8)=false:=by decide
  have b10:((7:Int)==10)=false:=by decide
  have b11:((7:Int)==11)=false:=by decide
  have b12:((7:Int)==12)=false:=by decide
  have c10:((7:Int) != 10)=true:=by decide
  have c11:((7:Int) != 11)=true:=by decide
  have c12:((7:Int) != 12)=true:=by decide
  have g1:decide ((7:Int)≥10)=false:=by decide
  have g2:decide ((7:Int)≤12)=true:=by decide
  simp only[b7,b8,b10,b11,b12,c10,c11,c12,QpE,Qp0,QpG,Qpb,QpF,eE,seval];cases a1:decide ((l.length:Int) > 0)<;>try simp only[c12,QpJ,QpI,eE,seval]
  all_goals(cases a2:decide ((p.length:Int) > 0)<;>try simp only[c10,QpJ,QpI,w,eE,seval])
  all_goals(cases a3:decide (((s.length+r.length:Nat):Int) > 0)<;>try simp only[QpJ,QpI,eE,seval])
  all_goals(cases a4:((b:Int)==0)<;>try simp only[a4,n4,Qo5,QpF,QP,eE,seval])
  all_goals(cases a5:(t==[])<;>try simp only[Qo5,QpF,Qa,seval])
 ·have b7:((8:Int)==7)=false:=by decide
  have b8:((8:Int)==8)=true:=by decide
  have b10:((8:Int)==10)=false:=by decide
  have b11:((8:Int)==11)=false:=by decide
  have b12:((8:Int)==12)=false:=by decide
  have c10:((8:Int) != 10)=true:=by decide
  have c11:((8:Int) != 11)=true:=by decide
  have c12:((8:Int) != 12)=true:=by decide
  have g1:decide ((8:Int)≥10)=false:=by decide
  have g2:decide ((8:Int)≤12)=true:=by decide
  simp only[b7,b8,b10,b11,b12,c10,c11,c12,QpE,Qp0,Qp1,QpG,Qpb,QpF,eE,seval];cases a1:decide ((l.length:Int) > 0)<;>try simp only[c12,QpJ,QpI,eE,seval]
  all_goals(cases a2:decide ((p.length:Int) > 0)<;>try simp only[c10,QpJ,QpI,w,eE,seval])
  all_goals(cases a3:decide (((s.length+r.length:Nat):Int) > 0)<;>try simp only[QpJ,QpI,eE,seval])
  all_goals(cases a4:((b:Int)==0)<;>try simp only[a4,n4,Qo5,QpF,QP,eE,seval])
  all_goals(cases a5:(t==[])<;>try simp only[Qo5,QpF,Qa,seval])
 ·have b7:((10:Int)==7)=false:=by decide
  have b8:((10:Int)==8)=false:=by decide
  have b10:((10:Int)==10)=true:=by decide
  have b11:((10:Int)==11)=false:=by decide
  have b12:((10:Int)==12)=false:=by decide
  have c10:((10:Int) != 10)=false:=by decide
  have c11:((10:Int) != 11)=true:=by decide
  have c12:((10:Int) != 12)=true:=by decide
  have g1:decide ((10:Int)≥10)=true:=by decide
  have g2:decide ((10:Int)≤12)=true:=by decide
  simp only[b7,b8,b10,b11,b12,c10,c11,c12,QpE,Qpu,Qp0,Qp1,Qpb,Qo5,eE,seval];cases a1:decide ((l.length:Int) > 0)<;>try simp only[c12,QpJ,QpI,eE,seval]
  all_goals(cases a2:decide ((p.length:Int) > 0)<;>try simp only[c10,QpJ,QpI,eE,seval])
  all_goals(cases a3:decide (((s.length+r.length:Nat):Int) > 0)<;>try simp only[a3,g1,g2,b7,b8,b10,b11,b12,c10,c11,c12,QpE,Qpu,Qp0,Qp1,QpJ,QpI,QpG,Qpb,Qo5,QpF,w,QP,eE,seval])
  all_goals(cases a4:((b:Int)==0)<;>try simp only[a4,n4,QpJ,QpI,Qo5,QpF,QP,eE,seval])
  all_goals(cases a5:(t==[])<;>try simp only[Qo5,QpF,Qa,seval])
 ·have b7:((11:Int)==7)=false:=by decide
  have b8:((11:Int)==8)=false:=by decide
  have b10:((11:Int)==10)=false:=by decide
  have b11:((11:Int)==11)=true:=by decide
  have b12:((11:Int)==12)=false:=by decide
  have c10:((11:Int) != 10)=true:=by decide
  have c11:((11:Int) != 11)=false:=by decide
  have c12:((11:Int) != 12)=true:=by decide
  have g1:decide ((11:Int)≥10)=true:=by decide
  have g2:decide ((11:Int)≤12)=true:=by decide
  simp only[b7,b8,b10,b11,b12,c10,c11,c12,QpE,Qpu,Qp0,Qp1,QpJ,Qpb,Qo5,eE,seval];cases a1:decide ((l.length:Int) > 0)<;>try simp only[a1,g1,g2,b7,b8,b10,b11,b12,c10,c11,c12,QpE,Qpu,Qp0,Qp1,QpJ,QpI,QpG,Qpb,Qo5,QpF,w,QP,eE,seval]
  all_goals(cases a2:decide ((p.length:Int) > 0)<;>try simp only[c10,QpJ,QpI,w,eE,seval])
  all_goals(cases a3:decide (((s.length+r.length:Nat):Int) > 0)<;>try simp only[QpJ,QpI,eE,seval])
  all_goals(cases a4:((b:Int)==0)<;>try simp only[a4,n4,QpJ,QpI,Qo5,QpF,QP,eE,seval])
  all_goals(cases a5:(t==[])<;>try simp only[Qo5,QpF,Qa,seval])
 ·have b7:((12:Int)==7)=false:=by decide
  have b8:((12:Int)==8)=false:=by decide
  have b10:((12:Int)==10)=false:=by decide
  have b11:((12:Int)==11)=false:=by decide
  have b12:((12:Int)==12)=true:=by decide
  have c10:((12:Int) != 10)=true:=by decide
  have c11:((12:Int) != 11)=true:=by decide
  have c12:((12:Int) != 12)=false:=by decide
  have g1:decide ((12:Int)≥10)=true:=by decide
  have g2:decide ((12:Int)≤12)=true:=by decide
  simp only[b7,b8,b10,b11,b12,c10,c11,c12,QpE,Qpu,Qp0,Qp1,Qpb,Qo5,eE,seval];cases a1:decide ((l.length:Int) > 0)<;>try simp only[c10,c12,QpJ,QpI,w,eE,seval]
  all_goals(cases a2:decide ((p.length:Int) > 0)<;>try simp only[a2,g1,g2,b7,b8,b10,b11,b12,c10,c11,c12,QpE,Qpu,Qp0,Qp1,QpJ,QpI,QpG,Qpb,Qo5,QpF,w,QP,eE,seval])
  all_goals(cases a3:decide (((s.length+r.length:Nat):Int) > 0)<;>try simp only[QpJ,QpI,eE,seval])
  all_goals(cases a4:((b:Int)==0)<;>try simp only[a4,n4,QpJ,QpI,Qo5,QpF,QP,eE,seval])
  all_goals(cases a5:(t==[])<;>try simp only[Qo5,QpF,Qa,seval])
 ·have b7:(k==7)=false:=by simp[h7]
  have b8:(k==8)=false:=by simp[h8]
  have b10:(k==10)=false:=by simp[h10]
  have b11:(k==11)=false:=by simp[h11]
  have b12:(k==12)=false:=by simp[h12]
  have c10:(k != 10)=true:=by simp[h10]
  have c11:(k != 11)=true:=by simp[h11]
  have c12:(k != 12)=true:=by simp[h12]
  rcases(by omega:(k≥10∧¬k≤12)∨¬k≥10)with⟨q1,q2⟩|q1
  ·have g1:decide (k≥10)=true:=QpY q1;have g2:decide (k≤12)=false:=QpQ q2;simp only[b7,b8,b10,b11,b12,c10,c11,c12,QpE,Qp0,QpG,Qpb,Qo5,eE,seval];cases a1:decide ((l.length:Int) > 0)<;>try simp only[c12,QpJ,QpI,eE,seval]
   all_goals(cases a2:decide ((p.length:Int) > 0)<;>try simp only[c10,QpJ,QpI,w,eE,seval])
   all_goals(cases a3:decide (((s.length+r.length:Nat):Int) > 0)<;>try simp only[QpJ,QpI,eE,seval])
   all_goals(cases a4:((b:Int)==0)<;>try simp only[a4,n4,g1,g2,Qo5,QpF,QP,eE,seval])
   all_goals(cases a5:(t==[])<;>try simp only[Qo5,QpF,Qa,seval])
  ·have g1:decide (k≥10)=false:=QpQ q1;simp only[b7,b8,b10,b11,b12,c10,c11,c12,QpE,Qp0,QpG,Qpb,Qo5,eE,seval];cases a1:decide ((l.length:Int) > 0)<;>try simp only[c12,QpJ,QpI,eE,seval]
   all_goals(cases a2:decide ((p.length:Int) > 0)<;>try simp only[c10,QpJ,QpI,w,eE,seval])
   all_goals(cases a3:decide (((s.length+r.length:Nat):Int) > 0)<;>try simp only[QpJ,QpI,eE,seval])
   all_goals(cases a4:((b:Int)==0)<;>try simp only[a4,n4,g1,Qo5,QpF,QP,eE,seval])
   all_goals(cases a5:(t==[])<;>try simp only[Qo5,QpF,Qa,seval])
end
section
variable (k:Int)(b:Nat)(t:List UInt8)(l p s r:List AV)(hs:s.length≤140737488351232)(hr:r.length≤140737488351232)
end
section progs
variable (L:List PG)(hl:L.length≤maxLen)(p:PG→Bool)(c:Nat)(cap:AV)(m:Qj)
include hl in
theorem y34 (hc:∀o∈L,Qe Tryz.prog c [Qn o,cap.sh] (Qb :: m) fun y m1=>y=.bool (p o)∧m1=Qb :: m) :
  Qe Tryz.prog 34 [.list (L.map Qn),.fn (.func c) [] [cap]] m fun y m1=>y=.int .i64 (Zo p L 0)∧m1=m:=by
 refine wG Tryz.func34 ?_;simp only[eK,Tryz.f34,seval];exact Gt hl (av:=Qn) (n:=3) (s:=some 3) (cs:=[cap]) (fun _=>⟨rfl,rfl⟩) hc
end progs
section items
variable (L:List PI)(hl:L.length≤maxLen)(p:PI→Bool)(c:Nat)(cap:AV)(m:Qj)
include hl in
theorem QkK (hc:∀o∈L,Qe Tryz.prog c [XC o,cap.sh] (Qb :: m) fun y m1=>y=.bool (p o)∧m1=Qb :: m) :
  Qe Tryz.prog 248 [.list (L.map XC),.fn (.func c) [] [cap]] m fun y m1=>y=.int .i64 (Zo p L 0)∧m1=m:=by
 refine wG Tryz.func248 ?_;simp only[eK,Tryz.f248,seval];exact Gt hl (av:=XC) (n:=3) (s:=some 3) (cs:=[cap]) (fun _=>⟨rfl,rfl⟩) hc
theorem Nh {α:Type}(p:α→Bool)(l:List α):decide (Zo p l 0≥0)=l.any p:=by
 rcases Y9 p l 0 with⟨h1,h2⟩|⟨k,o,h1,_,h3⟩
 ·rw[h1];have:l.any p=false:=by
   rw[QpT];intro x hx;exact fun h=>by have:=QpU.1 h2 x hx;exact this h
  rw[this];rfl
 ·rw[h1];have:l.any p=true:=QpV.2 ⟨o,QpW h3,QpX h3⟩;rw[this];exact QpY (by omega)
include hl in
theorem QkL (hc:∀o∈L,Qe Tryz.prog c [XC o,cap.sh.sh] (Qb :: Qb :: m) fun y m1=>y=.bool (p o)∧m1=Qb :: Qb :: m) :
  Qe Tryz.prog 199 [.list (L.map XC),.fn (.func c) [] [cap]] m fun y m1=>y=.bool (L.any p)∧m1=m:=by
 refine wG Tryz.func199 ?_;simp only[eK,Tryz.f199,seval];simp only[Qa,seval];refine Qh (QkK L hl p c cap.sh _ hc) (by simp only[Qov,QoZ,Qa,seval]) ?_;simp only[Nh,Qa,seval]
end items
def Ad (b:Nat)(x:PI):Bool:=IntKind.u64.wrap x.num==(b:Int)
theorem y35 (g:PG)(frO:Nat→Ob)(s:List UInt8)(hf:frO 3=.cells [.str s]):Qe Tryz.prog 35 [Qn g,.ptr 1 3 0] [Qb,frO] fun y m1=>y=.bool (g.name==s)∧m1=[Qb,frO]:=by
 refine wG Tryz.func35 ?_;simp only[eK,Tryz.f35,seval];simp only[hf,Qn,PG.cells,QP,eE,seval]
theorem QkM (x:PI)(b:Nat)(frO:Nat→Ob)(hf:frO 5=.cells [.int .u64 (b:Nat)]):Qe Tryz.prog 210 [XC x,.ptr 2 5 0] [Qb,Qb,frO] fun y m1=>y=.bool (Ad b x)∧m1=[Qb,Qb,frO]:=by
 refine wG Tryz.func210 ?_;simp only[eK,Tryz.f210,seval];simp only[hf,XC,PI.cells,Ad,eE,seval]
def Bf (s:List UInt8)(L:List PG):AV:=.tup [.int .i64 (if Zo (fun g:PG=>g.name==s) L 0<0 then 0 else Zo (fun g:PG=>g.name==s) L 0),.bool (decide (Zo (fun g:PG=>g.name==s) L 0≥0))]
theorem y15 (P:PL)(hl:P.progs.length≤maxLen)(s:List UInt8):Qg Tryz.prog 15 [P.av,.str s] (Bf s P.progs):=by
 refine wF Tryz.func15 ?_;simp only[eK,Tryz.f15,seval];simp only[PL.av,eE,seval];refine Qh (y34 P.progs hl (fun g=>g.name==s) 35 (.ptr 0 3 0) _ fun g _=>y35 g _ s rfl) (by simp only[Qov,QoZ,Qa,seval]<;>rfl) ?_;unfold Bf;by_cases h:Zo (fun g:PG=>g.name==s) P.progs 0<0
 ·have d:decide (Zo (fun g:PG=>g.name==s) P.progs 0<0)=true:=QpY h;simp only[Qn5 h,Qa,seval]
 ·have d:decide (Zo (fun g:PG=>g.name==s) P.progs 0<0)=false:=QpQ h;simp only[Qn4 h,Qa,seval]
def FdI (P:PL)(s:List UInt8)(k:Nat)(st:St):Prop :=
 ∃f fr i,st=⟨f,[fr],[]⟩∧k=P.progs.length-i∧Zo (fun g:PG=>g.name==s) P.progs 0=Zo (fun g:PG=>g.name==s) (P.progs.drop i) i∧f 1=.str s∧f 2=.ptr 0 2 0∧f 6=.int .i64 (i:Nat)∧fr 2=.cells [.list (P.progs.map Qn),.list (P.enums.map QC)]
theorem y8 (P:PL)(hl:P.progs.length≤maxLen)(s:List UInt8):Qg Tryz.prog 8 [P.av,.str s] (Bf s P.progs):=by
 have e0:P.av=.agg [.list (P.progs.map Qn),.list (P.enums.map QC)]:=rfl;refine wF Tryz.func8 ?_;simp only[eK,Tryz.f8,seval];simp only[e0,eE,seval];refine Qi (FdI P s) _ ⟨_,_,0,rfl,rfl,rfl,rfl,rfl,rfl,rfl⟩ ?_;rintro _ st ⟨f,fr,i,rfl,rfl,hx,h1,h2,h6,m2⟩;simp only[QoS,h2,h6,m2,eE,seval];by_cases hlt:i<P.progs.length
 ·obtain⟨x,hi⟩:∃x,P.progs[i]? = some x:=⟨P.progs[i],QnX hlt⟩;have hg:(P.progs.map Qn)[i]? = some (.agg x.cells):=by simp[hi,Qn]
  have e1:=Qs i _ hlt hl;simp only[PG.cells]at hg;rw[D7 _ hi]at hx;simp only[QA hlt,Qp,Qpq,Qf,hg,h1,h2,h6,m2,QP,eE,seval];cases hp:(x.name==s)
  ·rw[hp]at hx;simp only[Qog,if_false]at hx;simp only[h6,e1,Qa,seval];exact⟨P.progs.length-(i+1),by omega,_,_,i+1,rfl,rfl,hx,h1,h2,rfl,m2⟩
  ·rw[hp]at hx;simp only[if_true]at hx;have d1:¬((i:Int)<0):=by omega
   have d2:decide ((i:Int)≥0)=true:=QpY (by omega);simp only[Bf,hx,Qn4 d1,d2,h6,Qa,seval]
 ·have hx':Zo (fun g:PG=>g.name==s) P.progs 0 = -1:=by rw[hx,QoA (by omega)];rfl
  have d1:((-1:Int)<0):=by omega
  have d2:decide ((-1:Int)≥0)=false:=QpQ (by omega);simp only[QH hlt,Bf,hx',Qa,seval]
def WO (E:List PE)(t:Int)(b:Nat):Bool :=
 if 0≤t∧t<E.length∧b≤2147483647 then
  match E[t.toNat]? with
  |some x=>x.opn||x.items.any (Ad b)
  |none=>false
 else false
theorem Ia {M:Nat}(P:PL)(hP:P.ok M)(t:Int)(b:Nat):Qg Tryz.prog 157 [P.av,.int .i64 t,.int .u64 (b:Nat)] (.bool (WO P.enums t b)):=by
 have e0:P.av=.agg [.list (P.progs.map Qn),.list (P.enums.map QC)]:=rfl;refine wF Tryz.func157 ?_;simp only[eK,Tryz.f157,seval];simp only[e0,eE,seval];by_cases h1:0≤t
 ·have d1:decide (t<0)=false:=QpQ (by omega);by_cases h2:t<P.enums.length
  ·have d2:decide (t≥(P.enums.length:Int))=false:=QpQ (by omega);by_cases h3:b≤2147483647
   ·have d3:decide ((b:Int) > 2147483647)=false:=QpQ (by omega);obtain⟨n,rfl⟩:=QpH h1;have hn:n<P.enums.length:=by omega
    obtain⟨x,hi⟩:∃x,P.enums[n]? = some x:=⟨P.enums[n],QnX hn⟩;have hx:=hP.enums x (Qob hi);have hg:(P.enums.map QC)[n]? = some (.agg x.cells):=by simp[hi,QC]
    simp only[PE.cells]at hg;have ha:WO P.enums (n:Int) b=(x.opn||x.items.any (Ad b)):=by
     unfold WO;rw[Qn5 ⟨h1,h2,h3⟩,Qpq,hi]
    simp only[d1,d2,QoS,d3,Qp,Qpq,Qf,hg,ha,eE,seval];cases ho:x.opn
    ·simp only[QpJ,eE,seval];refine Qh (QkL x.items hx.len1 (Ad b) 210 (.ptr 0 5 0) _ fun y _=>QkM y b _ rfl) (by simp only[Qov,QoZ,Qa,seval]<;>rfl) ?_;simp only[Qa,seval]
    ·simp only[QpI,Qa,seval]
   ·have d3:decide ((b:Int) > 2147483647)=true:=QpY (by omega);have ha:WO P.enums t b=false:=by
     unfold WO;rw[Qn4 (by omega)]
    simp only[d1,d2,QoS,d3,ha,eE,seval]
  ·have d2:decide (t≥(P.enums.length:Int))=true:=QpY (by omega);have ha:WO P.enums t b=false:=by
    unfold WO;rw[Qn4 (by omega)]
   simp only[d1,d2,QoS,ha,eE,seval]
 ·have d1:decide (t<0)=true:=QpY (by omega);have ha:WO P.enums t b=false:=by
   unfold WO;rw[Qn4 (by omega)]
  simp only[d1,ha,Qa,seval]
def WP (P:PL)(k tg kd:Int)(b:Nat)(t:List UInt8)(l p s r:List AV):Int :=
 if (kd != k||oth kd b t l p s r)=true then 12 else if decide ((t.length:Int) > 4096)=true then 3 else if (k==7 && !YK t)=true then 7
 else if (!XQ k kd b t l p s r)=true then 12 else if (k==9 && !WO P.enums tg b)=true then 16 else 0
section
variable {M:Nat}(P:PL)(hP:P.ok M)(k tg kd:Int)(b:Nat)(t:List UInt8)(l p s r:List AV)(hl:l.length≤140737488351232)(hp:p.length≤140737488351232)(hs:s.length≤140737488351232)(hr:r.length≤140737488351232)
include hP hl hp hs hr in
theorem QkN:Qg Tryz.prog 254 [P.av,.int .i64 k,.int .i64 tg,vo kd b t l p s r] (.int .i64 (WP P k tg kd b t l p s r)):=by
 have e0:P.av=.agg [.list (P.progs.map Qn),.list (P.enums.map QC)]:=rfl;have ho:=z65 kd b t l p s r hs hr;have hf:=E8 k kd b t l p s r hl hp hs hr;have ha:=Ia P hP tg b;simp only[vo]at ho hf;simp only[e0]at ha;refine wF Tryz.func254 ?_;simp only[eK,Tryz.f254,seval];simp only[e0,vo,WP,eE,seval];cases a1:(kd != k)
 ·simp only[QpJ,eE,seval];refine aC ho ?_;cases oth kd b t l p s r
  ·simp only[Qog,eE,seval];cases a2:decide ((t.length:Int) > 4096)
   ·simp only[Qog,Qa,seval];have fin:∀c:Bool,True:=fun _=>trivial
    cases a3:(k==7)
    ·simp only[Qpu,Qog,eE,seval];refine aC hf ?_;cases XQ k kd b t l p s r
     ·simp only[Qo5,Qa,seval]
     ·simp only[QpF,Qog,Qa,seval];cases a4:(k==9)
      ·simp only[Qpu,Qog,Qa,seval]
      ·simp only[QpE,eE,seval];refine aC ha ?_;cases WO P.enums tg b<;>simp only[Qo5,QpF,Qog,Qa,seval]
    ·simp only[QpE,eE,seval];refine aC (Sc t) ?_;cases YK t
     ·simp only[Qo5,Qa,seval]
     ·have a4:(k==9)=false:=by
       rw[Qn2]at a3;subst a3;rfl
      simp only[QpF,Qog,eE,seval];refine aC hf ?_;cases XQ k kd b t l p s r
      ·simp only[Qo5,Qa,seval]
      ·simp only[QpF,a4,Qpu,Qog,Qa,seval]
   ·simp only[Qa,seval]
  ·simp only[Qa,seval]
 ·simp only[QpI,Qa,seval]
end
open Up
def ZL (f:Nat→Int):Nat→Nat→Int
 |0,_=>0
 |k+1,i=>if f i=0 then ZL f k (i+1)else f i
theorem Ae {f:Nat→Int}{n i:Nat}(h:i<n):ZL f (n-i) i=if f i=0 then ZL f (n-(i+1)) (i+1)else f i:=by
 rw[show n-i=(n-(i+1))+1 by omega];rfl
theorem Bg {f:Nat→Int}{n i:Nat}(h:i<n)(e:f i=0):ZL f (n-i) i=ZL f (n-(i+1)) (i+1):=by
 rw[Ae h,Qn5 e]
theorem He {f:Nat→Int}{n i:Nat}{v:Int}(h:i<n)(e:f i=v)(hv:v≠0):ZL f (n-i) i=v:=by
 rw[Ae h,Qn4 (by rw[e];exact hv),e]
theorem Dh {f:Nat→Int}{n i:Nat}(h:¬i<n):ZL f (n-i) i=0:=by
 rw[show n-i=0 by omega];rfl
theorem KA {f:Nat→Int}:∀ {k i:Nat},ZL f k i=0→∀j,i≤j→j<i+k→f j=0
 |0,_,_,_,h1,h2=>by omega
 |k+1,i,h,j,h1,h2=>by
  rw[ZL]at h;split at h
  ·rename_i h0;by_cases e:j=i
   ·rw[e];exact h0
   ·exact KA h j (by omega) (by omega)
  ·rename_i h0;exact absurd h h0
def _root_.Go.Proofs.YtgnfjkkfbcnbfaaGreatDoor.Br.V.oth (v:V):Bool:=Va.oth v.kd v.bits v.text (v.list.map V.av) (v.pairs.map V.pav) (v.slots.map V.sav) (v.raws.map R.av)
def _root_.Go.Proofs.YtgnfjkkfbcnbfaaGreatDoor.Br.V.one (P:PL)(k tg:Int)(v:V):Int:=WP P k tg v.kd v.bits v.text (v.list.map V.av) (v.pairs.map V.pav) (v.slots.map V.sav) (v.raws.map R.av)
theorem Bh (v:V):v.av=vo v.kd v.bits v.text (v.list.map V.av) (v.pairs.map V.pav) (v.slots.map V.sav) (v.raws.map R.av):=by
 rw[V.av,V.eta];rfl
def Qk (P:PL)(t:Int):PG:=P.progs[t.toNat]?.getD ⟨[],[],0⟩
def Xz (a b:V):Bool:=a.bits==b.bits&&a.text==b.text
def Xv (g:PG)(n:Int):Option PO:=g.ops.find? fun o=>o.num==n
section
variable (m:PG→V→Int)(P:PL)
def QN (o:PO)(v:V):Int:=if o.kind=10 then m (Qk P o.target) v else v.one P o.kind o.target
def U1 (o:PO)(ps:List (V×V))(i:Nat):Int:=match ps[i]? with
 |none=>0
 |some x=>if x.1.one P o.key (-1)=0 then(if (ps.take i).any (fun q=>Xz q.1 x.1)=true then 9 else QN m P o x.2)else x.1.one P o.key (-1)
def Fb (o:PO)(l:List V)(i:Nat):Int:=match l[i]? with
 |none=>0
 |some x=>QN m P o x
def Xw (o:PO)(v:V):Int :=
 if o.card=5 then(if (v.kd != 12||v.oth)=true then 12 else ZL (U1 m P o v.pairs) v.pairs.length 0)
 else if o.card=4 then(if (v.kd != 11||v.oth)=true then 12 else ZL (Fb m P o v.list) v.list.length 0)
 else QN m P o v
def WQ (g:PG)(o:PO)(y:Int×V):Bool:=o.union != -1&&(((Xv g y.1).getD DL).union==o.union)
def Jo (g:PG)(sl:List (Int×V))(i:Nat):Int:=match sl[i]? with
 |none=>0
 |some x=>match Xv g x.1 with
  |none=>8
  |some o=>if (sl.take i).any (fun y=>y.1==x.1)=true then 9 else if (sl.take i).any (WQ g o)=true then 15 else Xw m P o x.2
def Di (g:PG)(f:R):Bool:=match Xv g f.num with
 |none=>true
 |some o=>o.kind==9&&o.card != 5&&f.wire==0&&decide ((f.bits:Int)≤2147483647) && !WO P.enums o.target f.bits
def JN (g:PG)(f:R):Int :=
 if (decide (f.num<1)||decide (f.num > 65535)||decide (f.wire<0)||decide (f.wire > 6))=true then 1
 else if (decide (f.wire≤2) && !(f.data==[])||decide (f.wire > 2) && !((f.bits:Int)==0))=true then 1
 else if (!Di P g f)=true then 1
 else if (f.wire==3&&decide ((f.data.length:Int) > 4096)||decide ((f.data.length:Int) > 65536))=true then 3 else 0
def YS (g:PG)(l:List R)(i:Nat):Int:=match l[i]? with
 |none=>0
 |some f=>JN P g f
def U2 (g:PG)(sl:List (Int×V)):Bool:=g.ops.any fun o=>o.card==1 && !sl.any fun y=>y.1==o.num
def UK (g:PG)(v:V):Int :=
 if ZL (Jo m P g v.slots) v.slots.length 0=0 then
  (if U2 g v.slots=true then 14 else ZL (YS P g v.raws) v.raws.length 0)
 else ZL (Jo m P g v.slots) v.slots.length 0
end
theorem Dj {m:PG→V→Int}{P:PL}{o:PO}{ps:List (V×V)}{i:Nat}{x:V×V}(h:ps[i]? = some x) :
  U1 m P o ps i=if x.1.one P o.key (-1)=0 then(if (ps.take i).any (fun q=>Xz q.1 x.1)=true then 9 else QN m P o x.2)else x.1.one P o.key (-1):=by
 unfold U1;rw[h]
theorem Dk {m:PG→V→Int}{P:PL}{o:PO}{l:List V}{i:Nat}{x:V}(h:l[i]? = some x):Fb m P o l i=QN m P o x:=by
 unfold Fb;rw[h]
theorem HJ {P:PL}{g:PG}{l:List R}{i:Nat}{x:R}(h:l[i]? = some x):YS P g l i=JN P g x:=by
 unfold YS;rw[h]
def Xp (P:PL):Nat→PG→V→Int
 |0,_,v=>if (v.kd != 10||v.oth)=true then 12 else 17
 |n+1,g,v=>if (v.kd != 10||v.oth)=true then 12 else UK (Xp P n) P g v
mutual
def _root_.Go.Proofs.YtgnfjkkfbcnbfaaGreatDoor.Br.V.cnt:V→Nat
 |.mk _ _ _ l p s r=>1+r.length+Q6 l+Xd p+Q9 s
def Q6:List V→Nat
 | []=>0
 |x :: l=>x.cnt+Q6 l
def Xd:List (V×V)→Nat
 | []=>0
 |(a,b) :: l=>a.cnt+b.cnt+Xd l
def Q9:List (Int×V)→Nat
 | []=>0
 |(_,a) :: l=>a.cnt+Q9 l
end
theorem Q1:∀v:V,v.cnt=1+v.raws.length+Q6 v.list+Xd v.pairs+Q9 v.slots
 |.mk k b t l p s r=>by rw[V.cnt];rfl
theorem NU {l:List V}{i:Nat}{x:V}(h:l[i]? = some x):Q6 (l.take (i+1))=Q6 (l.take i)+x.cnt:=by
 induction l generalizing i with
 |nil=>simp at h
 |cons y l ih=>
  cases i with
  |zero=>simp at h;subst h;simp[Q6]
  |succ i=>
   simp only[Qow,Q6];rw[ih (by simpa using h)];omega
theorem Ah {l:List (V×V)}{i:Nat}{x:V×V}(h:l[i]? = some x):Xd (l.take (i+1))=Xd (l.take i)+(x.1.cnt+x.2.cnt):=by
 induction l generalizing i with
 |nil=>simp at h
 |cons y l ih=>
  obtain⟨y1,y2⟩:=y;cases i with
  |zero=>simp at h;subst h;simp[Xd]
  |succ i=>
   simp only[Qow,Xd];rw[ih (by simpa using h)];omega
theorem Ai {l:List (Int×V)}{i:Nat}{x:Int×V}(h:l[i]? = some x):Q9 (l.take (i+1))=Q9 (l.take i)+x.2.cnt:=by
 induction l generalizing i with
 |nil=>simp at h
 |cons y l ih=>
  obtain⟨y1,y2⟩:=y;cases i with
  |zero=>simp at h;subst h;simp[Q9]
  |succ i=>
   simp only[Qow,Q9];rw[ih (by simpa using h)];omega
inductive Thin:V→Prop
 |mk {v:V} (n:v.list.length+2*v.pairs.length+v.slots.length≤1099511627776) (list:∀x∈v.list,Thin x) (keys:∀x∈v.pairs,Thin x.1) (vals:∀x∈v.pairs,Thin x.2) (slots:∀x∈v.slots,Thin x.2):Thin v
theorem Dl {v:V}(h:v.oth=false):(v.kd≠11→v.list=[])∧(v.kd≠12→v.pairs=[])∧(v.kd≠10→v.slots=[]):=by
 unfold V.oth Va.oth at h;simp only[QoQ,Qp2,bne_eq_false_iff_eq,QpZ,QoS]at h;obtain⟨⟨⟨⟨h1,h2⟩,h3⟩,_⟩,_⟩:=h;refine⟨fun h=>?_,fun h=>?_,fun h=>?_⟩
 ·rcases h1 with h1|h1
  ·exact absurd h1 h
  ·exact Qp7.1 (by omega)
 ·rcases h2 with h2|h2
  ·exact absurd h2 h
  ·exact Qp7.1 (by omega)
 ·rcases h3 with h3|h3
  ·exact absurd h3 h
  ·exact Qp7.1 (by omega)
theorem Hf {P:PL}{k tg:Int}{v:V}(h:v.one P k tg=0):v.kd=k∧v.oth=false∧XQ k v.kd v.bits v.text (v.list.map V.av) (v.pairs.map V.pav) (v.slots.map V.sav) (v.raws.map R.av)=true:=by
 unfold V.one WP at h;split at h
 ·omega
 ·rename_i h1;split at h
  ·omega
  ·split at h
   ·omega
   ·split at h
    ·omega
    ·rename_i h2;simp only[Qp4,QoQ,bne_eq_false_iff_eq]at h1;exact⟨h1.1,h1.2,by simpa using h2⟩
theorem CG {k kd:Int}{b:Nat}{t:List UInt8}{l p s r:List AV}(h:XQ k kd b t l p s r=true):isk k=true:=by
 unfold XQ at h;simp only[Qol]at h;exact h.1.1.1.1.1.1
theorem Qfb {k:Int}(h:isk k=true):k≠10∧k≠11∧k≠12:=by
 unfold isk at h;simp only[Qol,Qn1]at h;omega
theorem CH {P:PL}{k tg:Int}{v:V}(h:v.one P k tg=0):Thin v:=by
 obtain⟨h1,h2,h3⟩:=Hf h;obtain⟨i1,i2,i3⟩:=Qfb (CG h3);obtain⟨o1,o2,o3⟩:=Dl h2;rw[←h1]at i1 i2 i3;refine .mk ?_ ?_ ?_ ?_ ?_
 ·rw[o1 i2,o2 i3,o3 i1];simp
 ·rw[o1 i2];simp
 ·rw[o2 i3];simp
 ·rw[o2 i3];simp
 ·rw[o3 i1];simp
theorem Ib {P:PL}{M:Nat}:∀(n:Nat) (g:PG) (v:V),v.ok M→Xp P n g v=0→Thin v:=by
 intro n
 induction n with
 |zero=>
  intro g v _ h;unfold Xp at h;split at h<;>omega
 |succ n ih=>
  intro g v hv h;unfold Xp at h;split at h
  ·omega
  rename_i h0;simp only[Qp4,QoQ,bne_eq_false_iff_eq]at h0;obtain⟨o1,o2,o3⟩:=Dl h0.2;have e1:=o1 (by omega);have e2:=o2 (by omega);unfold UK at h;have hs:ZL (Jo (Xp P n) P g v.slots) v.slots.length 0=0:=by
   split at h
   ·assumption
   ·exact h
  refine .mk ?_ (by rw[e1];simp) (by rw[e2];simp) (by rw[e2];simp) ?_
  ·rw[e1,e2];have:=hv.ns;simp;omega
  ·intro x hx;obtain⟨i,hi⟩:=Qn9.1 hx;have hlt:=(QnW.1 hi).1;have h1:=KA hs i (Qn6 _) (by omega);unfold Jo at h1;rw[hi]at h1;dsimp only at h1;split at h1
   ·omega
   rename_i o _;split at h1
   ·omega
   split at h1
   ·omega
   have hx2:=hv.slots x hx;have helem:∀y:V,y.ok M→QN (Xp P n) P o y=0→Thin y:=by
    intro y hy he;unfold QN at he;split at he
    ·exact ih _ _ hy he
    ·exact CH he
   unfold Xw at h1;split at h1
   ·split at h1
    ·omega
    rename_i h2;simp only[Qp4,QoQ,bne_eq_false_iff_eq]at h2;obtain⟨o1,o2,o3⟩:=Dl h2.2;have e1:=o1 (by omega);have e3:=o3 (by omega);have hp:∀y∈x.2.pairs,Thin y.1∧Thin y.2:=by
     intro y hy;obtain⟨j,hj⟩:=Qn9.1 hy;have hlt:=(QnW.1 hj).1;have h3:=KA h1 j (Qn6 _) (by omega);unfold U1 at h3;rw[hj]at h3;dsimp only at h3;split at h3
     ·rename_i hk;split at h3
      ·omega
      ·exact⟨CH hk,helem _ (hx2.vals y hy) h3⟩
     ·rename_i hk;exact absurd h3 hk
    refine .mk ?_ (by rw[e1];simp) (fun y hy=>(hp y hy).1) (fun y hy=>(hp y hy).2) (by rw[e3];simp);rw[e1,e3];have:=hx2.np;simp;omega
   ·split at h1
    ·split at h1
     ·omega
     rename_i h2;simp only[Qp4,QoQ,bne_eq_false_iff_eq]at h2;obtain⟨o1,o2,o3⟩:=Dl h2.2;have e2:=o2 (by omega);have e3:=o3 (by omega);refine .mk ?_ ?_ (by rw[e2];simp) (by rw[e2];simp) (by rw[e3];simp)
     ·rw[e2,e3];have:=hx2.nl;simp;omega
     ·intro y hy;obtain⟨j,hj⟩:=Qn9.1 hy;have hlt:=(QnW.1 hj).1;have h3:=KA h1 j (Qn6 _) (by omega);unfold Fb at h3;rw[hj]at h3;exact helem _ (hx2.list y hy) h3
    ·exact helem _ hx2 h1
end Go.Proofs.YtgnfjkkfbcnbfaaGreatDoor.Va
namespace Go.Proofs.YtgnfjkkfbcnbfaaGreatDoor.So
section
variable {α:Type}
def JC (lt:α→α→Bool)(a:α):List α→List α
 | []=>[a]
 |x :: l=>bif lt x a then x :: JC lt a l else a :: x :: l
def QG (lt:α→α→Bool):List α→List α
 | []=>[]
 |a :: l=>JC lt a (QG lt l)
def mg (lt:α→α→Bool):List α→List α→List α
 | [],Y=>Y
 |x :: X,[]=>x :: X
 |x :: X,y :: Y=>bif lt y x then y :: mg lt (x :: X) Y else x :: mg lt X (y :: Y)
termination_by X Y=>X.length+Y.length
structure SW (lt:α→α→Bool):Prop where
 irr:∀x,lt x x=false
 tr:∀x y z,lt x y=true→lt y z=true→lt x z=true
 nt:∀x y z,lt x y=false→lt y z=false→lt x z=false
variable {lt:α→α→Bool}
theorem SW.as (h:SW lt){x y:α}(hx:lt x y=true):lt y x=false:=by
 cases hy:lt y x with
 |false=>rfl
 |true=>
  have:=h.tr x y x hx hy;rw[h.irr]at this;cases this
theorem KB (X:List α):mg lt X []=X:=by cases X<;>simp[mg]
theorem J5 (Y:List α):mg lt [] Y=Y:=by simp[mg]
theorem Ug {x y:α}{X Y:List α}(h:lt y x=true):mg lt (x :: X) (y :: Y)=y :: mg lt (x :: X) Y:=by rw[mg,h];rfl
theorem U3 {x y:α}{X Y:List α}(h:lt y x=false):mg lt (x :: X) (y :: Y)=x :: mg lt X (y :: Y):=by rw[mg,h];rfl
theorem UL {a x:α}{l:List α}(h:lt x a=true):JC lt a (x :: l)=x :: JC lt a l:=by rw[JC,h];rfl
theorem UM {a x:α}{l:List α}(h:lt x a=false):JC lt a (x :: l)=a :: x :: l:=by rw[JC,h];rfl
theorem Aj (a:α):∀Y:List α,mg lt [a] Y=JC lt a Y
 | []=>by rw[KB];rfl
 |y :: Y=>by
  cases h:lt y a with
  |true=>rw[Ug h,UL h,Aj a Y]
  |false=>rw[U3 h,UM h,J5]
theorem Qfc (h:SW lt)(a:α):∀(n:Nat) (X Y:List α),X.length+Y.length=n→mg lt (JC lt a X) Y=JC lt a (mg lt X Y):=by
 intro n
 induction n using Nat.strongRecOn with
 |_ n ih=>
 intro X Y hn;cases X with
 |nil=>
  show mg lt [a] Y=JC lt a (mg lt [] Y);rw[J5,Aj]
 |cons x X=>
  cases Y with
  |nil=>rw[KB,KB]
  |cons y Y=>
   simp only[Qoc]at hn;cases hxa:lt x a with
   |false=>
    have hi:JC lt a (x :: X)=a :: x :: X:=UM hxa;cases hya:lt y a with
    |true=>
     cases hyx:lt y x with
     |true=>
      have i:=ih (n-1) (by omega) (x :: X) Y (by simp only[Qoc];omega);rw[hi]at i ⊢;rw[Ug hya,Ug hyx,UL hya,i]
     |false=>
      have:=h.nt y x a hyx hxa;rw[hya]at this;cases this
    |false=>
     rw[hi,U3 hya];cases hyx:lt y x with
     |true=>rw[Ug hyx,UM hya]
     |false=>rw[U3 hyx,UM hxa]
   |true=>
    have hi:JC lt a (x :: X)=x :: JC lt a X:=UL hxa;cases hyx:lt y x with
    |true=>
     have i:=ih (n-1) (by omega) (x :: X) Y (by simp only[Qoc];omega);rw[hi]at i ⊢;rw[Ug hyx,Ug hyx,UL (h.tr y x a hyx hxa),i]
    |false=>
     have i:=ih (n-1) (by omega) X (y :: Y) (by simp only[Qoc];omega);rw[hi,U3 hyx,U3 hyx,UL hxa,i]
theorem Yg (h:SW lt):∀A B:List α,mg lt (QG lt A) (QG lt B)=QG lt (A++B)
 | [],B=>J5 _
 |a :: A,B=>by
  show mg lt (JC lt a (QG lt A)) (QG lt B)=JC lt a (QG lt (A++B));rw[Qfc h a _ _ _ rfl,Yg h A B]
theorem Uh:∀(n:Nat) (X1 Y1 X2 Y2:List α),X1.length+Y1.length=n→(∀y∈Y1,∀x∈X2,lt y x=true)→(∀x∈X1,∀y∈Y2,lt y x=false)→
  mg lt (X1++X2) (Y1++Y2)=mg lt X1 Y1++mg lt X2 Y2:=by
 intro n
 induction n using Nat.strongRecOn with
 |_ n ih=>
 intro X1 Y1 X2 Y2 hn h1 h2;cases X1 with
 |nil=>
  cases Y1 with
  |nil=>rw[J5];rfl
  |cons y Y1=>
   cases X2 with
   |nil=>simp[J5]
   |cons x X2=>
    simp only[Qoc,QoT]at hn;have i:=ih (n-1) (by omega) [] Y1 (x :: X2) Y2 (by simp only[QoT];omega) (fun z hz=>h1 z (Qod _ hz)) h2;simp only[Qok,Qoj,J5]at i ⊢;rw[Ug (h1 y (by simp) x (by simp)),i]
 |cons x X1=>
  simp only[Qoc]at hn;cases Y1 with
  |nil=>
   cases Y2 with
   |nil=>simp[KB]
   |cons y Y2=>
    have i:=ih (n-1) (by omega) X1 [] X2 (y :: Y2) (by simp only[QoT]at hn ⊢;omega) h1 (fun z hz=>h2 z (Qod _ hz));simp only[Qok,Qoj,KB]at i ⊢;rw[U3 (h2 x (by simp) y (by simp)),i]
  |cons y Y1=>
   simp only[Qoc]at hn;simp only[Qoj];cases hyx:lt y x with
   |true=>
    have i:=ih (n-1) (by omega) (x :: X1) Y1 X2 Y2 (by simp only[Qoc];omega) (fun z hz=>h1 z (Qod _ hz)) h2;simp only[Qoj]at i;rw[Ug hyx,Ug hyx,i];rfl
   |false=>
    have i:=ih (n-1) (by omega) X1 (y :: Y1) X2 Y2 (by simp only[Qoc];omega) h1 (fun z hz=>h2 z (Qod _ hz));simp only[Qoj]at i;rw[U3 hyx,U3 hyx,i];rfl
theorem Qcp {x:α}{Y1 Y2:List α}(h1:∀y∈Y1,lt y x=true)(h2:∀y∈Y2,lt y x=false):mg lt [x] (Y1++Y2)=Y1++x :: Y2:=by
 have a:=Uh (lt:=lt) _ [] Y1 [x] Y2 rfl (fun y hy z hz=>by rw[Qp8.1 hz];exact h1 y hy) (by simp);have b:=Uh (lt:=lt) _ [x] [] [] Y2 rfl (by simp) (fun z hz y hy=>by rw[Qp8.1 hz];exact h2 y hy);simp only[Qok,Qo1,J5,KB]at a b;rw[a,b];rfl
theorem Ui {y:α}{X1 X2:List α}(h1:∀x∈X1,lt y x=false)(h2:∀x∈X2,lt y x=true):mg lt (X1++X2) [y]=X1++y :: X2:=by
 have a:=Uh (lt:=lt) _ X1 [y] X2 [] rfl (fun z hz x hx=>by rw[Qp8.1 hz];exact h2 x hx) (by simp);have b:=Uh (lt:=lt) _ X1 [] [] [y] rfl (by simp) (fun x hx z hz=>by rw[Qp8.1 hz];exact h1 x hx);simp only[Qok,Qo1,J5,KB]at a b;rw[a,b];simp
def Zm (lt:α→α→Bool)(l:List α):Prop:=l.Pairwise fun x y=>lt y x=false
theorem Ni {a z:α}:∀ {l:List α},z∈JC lt a l→z=a∨z∈l
 | [],h=>.inl (Qp8.1 h)
 |x :: l,h=>by
  cases hx:lt x a with
  |true=>
   rw[UL hx]at h;rcases Qpk.1 h with rfl|h
   ·exact .inr Qof
   ·rcases Ni h with h|h
    ·exact .inl h
    ·exact .inr (Qod _ h)
  |false=>
   rw[UM hx]at h;rcases Qpk.1 h with rfl|h
   ·exact .inl rfl
   ·exact .inr h
theorem GG {z:α}:∀ {l:List α},z∈QG lt l→z∈l
 | [],h=>h
 |a :: l,h=>by
  rcases Ni (l:=QG lt l) h with rfl|h
  ·exact Qof
  ·exact Qod _ (GG h)
theorem PC (h:SW lt)(a:α):∀ {l:List α},Zm lt l→Zm lt (JC lt a l)
 | [],_=>Qp9 _ _
 |x :: l,hs=>by
  obtain⟨h1,h2⟩:=Qpy.1 hs;cases hx:lt x a with
  |true=>
   rw[UL hx];refine Qpy.2 ⟨fun z hz=>?_,PC h a h2⟩;rcases Ni hz with rfl|hz
   ·exact h.as hx
   ·exact h1 z hz
  |false=>
   rw[UM hx];refine Qpy.2 ⟨fun z hz=>?_,hs⟩;rcases Qpk.1 hz with rfl|hz
   ·exact hx
   ·exact h.nt z x a (h1 z hz) hx
theorem Zh (h:SW lt):∀l:List α,Zm lt (QG lt l)
 | []=>List.Pairwise.nil
 |a :: l=>PC h a (Zh h l)
theorem PD (a:α):∀l:List α,(JC lt a l).length=l.length+1
 | []=>rfl
 |x :: l=>by
  cases hx:lt x a with
  |true=>rw[UL hx,Qoc,PD a l,Qoc]
  |false=>rw[UM hx];rfl
theorem KC:∀l:List α,(QG lt l).length=l.length
 | []=>rfl
 |a :: l=>by show(JC lt a (QG lt l)).length=_;rw[PD,KC l];rfl
theorem Qfd:∀(n:Nat) (X Y:List α),X.length+Y.length=n→(mg lt X Y).length=n:=by
 intro n
 induction n using Nat.strongRecOn with
 |_ n ih=>
 intro X Y hn;cases X with
 |nil=>rw[J5];simpa using hn
 |cons x X=>
  cases Y with
  |nil=>rw[KB];simpa using hn
  |cons y Y=>
   simp only[Qoc]at hn;cases hyx:lt y x with
   |true=>
    rw[Ug hyx,Qoc,ih (n-1) (by omega) (x :: X) Y (by simp only[Qoc];omega)];omega
   |false=>
    rw[U3 hyx,Qoc,ih (n-1) (by omega) X (y :: Y) (by simp only[Qoc];omega)];omega
theorem Qfe {z:α}:∀(n:Nat) (X Y:List α),X.length+Y.length=n→z∈mg lt X Y→z∈X∨z∈Y:=by
 intro n
 induction n using Nat.strongRecOn with
 |_ n ih=>
 intro X Y hn hz;cases X with
 |nil=>rw[J5]at hz;exact .inr hz
 |cons x X=>
  cases Y with
  |nil=>rw[KB]at hz;exact .inl hz
  |cons y Y=>
   simp only[Qoc]at hn;cases hyx:lt y x with
   |true=>
    rw[Ug hyx]at hz;rcases Qpk.1 hz with rfl|hz
    ·exact .inr Qof
    ·exact(ih (n-1) (by omega) (x :: X) Y (by simp only[Qoc];omega) hz).imp id (Qod _)
   |false=>
    rw[U3 hyx]at hz;rcases Qpk.1 hz with rfl|hz
    ·exact .inl Qof
    ·exact(ih (n-1) (by omega) X (y :: Y) (by simp only[Qoc];omega) hz).imp (Qod _) id
theorem Yh (h:SW lt){l:List α}(hs:Zm lt l){i j:Nat}{u v x:α}(hij:i≤j)(hi:l[i]? = some u)(hj:l[j]? = some v)(hv:lt v x=true):lt u x=true:=by
 rcases Nat.lt_or_eq_of_le hij with hlt|rfl
 ·obtain⟨h1,rfl⟩:=QnW.1 hi;obtain⟨h2,rfl⟩:=QnW.1 hj;have:=Qqa.1 hs i j h1 h2 hlt;cases hu:lt l[i] x with
  |true=>rfl
  |false=>
   have:=h.nt _ _ _ this hu;rw[hv]at this;cases this
 ·rw[hi]at hj;cases hj;exact hv
theorem Yx {l:List α}(hs:Zm lt l)(h:SW lt){i j:Nat}{u v:α}(hij:i≤j)(hi:l[i]? = some u)(hj:l[j]? = some v):lt v u=false:=by
 rcases Nat.lt_or_eq_of_le hij with hlt|rfl
 ·obtain⟨h1,rfl⟩:=QnW.1 hi;obtain⟨h2,rfl⟩:=QnW.1 hj;exact Qqa.1 hs i j h1 h2 hlt
 ·rw[hi]at hj;cases hj;exact h.irr _
def XA (lt:α→α→Bool)(s:Nat):Nat→List α→List α
 |0,_=>[]
 |n+1,l=>QG lt (l.take s)++XA lt s n (l.drop s)
theorem Nj (s:Nat):∀k,XA lt s k []=[]
 |0=>rfl
 |k+1=>by rw[XA,List.take_nil,Qpc,Nj s k];rfl
theorem Dm (s:Nat):∀(k:Nat) (l:List α),(XA lt s k l).length=min (s*k) l.length
 |0,l=>by simp[XA]
 |k+1,l=>by
  rw[XA,QoB,KC,Dm s k,QoU,QoE,Nat.mul_succ];omega
theorem Y0 {s:Nat}{z:α}:∀ {k:Nat} {l:List α},z∈XA lt s k l→z∈l
 |0,l,h=>by cases h
 |k+1,l,h=>by
  rw[XA]at h;rcases Qph.1 h with h|h
  ·exact QoL (GG h)
  ·exact QoK (Y0 h)
theorem HK (s:Nat):∀(k:Nat) (l:List α),XA lt s (k+1) l=XA lt s k l++QG lt ((l.drop (s*k)).take s)
 |0,l=>by simp[XA]
 |k+1,l=>by
  rw[XA,HK s k (l.drop s),XA,Qoi,Qos,Nat.mul_succ,Nat.add_comm s (s*k)]
theorem PF {s k:Nat}{l:List α}(h:l.length≤s)(hk:l.length≤s*k):XA lt s k l=QG lt l:=by
 cases k with
 |zero=>
  have:l=[]:=Qo2 (by omega);subst this;rfl
 |succ k=>rw[XA,Qox h,QoA h,Nj,Qo1]
theorem Ic (s:Nat)(l:List α):l.take s++(l.drop s).take s=l.take (2*s):=by
 rw[show 2*s=s+s by omega,List.take_add]
end
end Go.Proofs.YtgnfjkkfbcnbfaaGreatDoor.So
namespace Go.Proofs.YtgnfjkkfbcnbfaaGreatDoor.Va
open Go Am Rc Bt
def Yy (b:Nat):Nat :=
 let z:=b % 9223372036854775808
 if z > 9218868437227405312 then 0 else if z=9218868437227405312 then 1 else if z=0 then 2 else if z<4503599627370496 then 3 else 4
theorem Ak (b:Nat):b &&& 4503599627370495=b % 4503599627370496:=Nat.and_two_pow_sub_one_eq_mod b 52
theorem Al (b:Nat):b &&& 9218868437227405312=(b / 4503599627370496 % 2048)*4503599627370496:=by
 have h1:(9218868437227405312:Nat)=2047 <<< 52:=by decide
 have h2:(b / 4503599627370496 % 2048)*4503599627370496=(b >>> 52 % 2 ^ 11) <<< 52:=by
  rw[Nat.shiftLeft_eq,Nat.shiftRight_eq_div_pow]
 rw[h1,h2]
 apply Nat.eq_of_testBit_eq
 intro i;rw[Nat.testBit_and,Nat.testBit_shiftLeft,Nat.testBit_shiftLeft,Nat.testBit_mod_two_pow,Nat.testBit_shiftRight,show(2047:Nat)=2 ^ 11-1 by decide,Nat.testBit_two_pow_sub_one];by_cases h:i≥52
 ·rw[show 52+(i-52)=i by omega];simp[h,Bool.and_comm]
 ·simp[h]
theorem QkO (b:Nat)(hb:b<18446744073709551616):Qg Tryz.prog 218 [.int .u64 (b:Nat)] (.int .i64 (Yy b:Nat)):=by
 refine wF Tryz.func218 ?_;simp only[eK,Tryz.f218,seval];have a1:bits .and .u64 (b:Int) 9218868437227405312=(((b / 4503599627370496 % 2048)*4503599627370496:Nat):Int):=by
  have:=U9 b 9218868437227405312 hb (by decide);rw[Al]at this;exact this
 have a2:bits .and .u64 (b:Int) 4503599627370495=((b % 4503599627370496:Nat):Int):=by
  have:=U9 b 4503599627370495 hb (by decide);rw[Ak]at this;exact this
 simp only[a1,a2,Qa,seval];unfold Yy
 repeat' (first|(refine Q3 (fun h=>?_) (fun h=>?_)<;>simp only[h,Qa,seval])|(refine XZ (fun h=>?_) (fun h=>?_)<;>simp only[h,Ql,Qa,seval])|(refine X0 (fun h=>?_) (fun h=>?_)<;>simp only[h,Ql,eE,seval]))
 all_goals(simp only[Qn2,Qoq,bne_eq_false_iff_eq,QpK,ne_eq]at *)
 all_goals((repeat' split)<;>first|rfl|(exfalso;omega))
def Xu (k:Int)(b:Nat):Nat:=if k=6∧Yy b=0 then 9221120237041090560 else b
theorem CJ (b:Nat):((Yy b:Int)==0)=decide (Yy b=0):=by
 rw[QoR,Qn2,Qn1];omega
open Br Up So
section sorting
variable {α:Type}{lt:α→α→Bool}
theorem CL (a:α):∀l:List α,(JC lt a l).Perm (a :: l)
 | []=>.refl _
 |x :: l=>by
  rw[JC];cases lt x a
  ·exact .refl _
  ·exact((CL a l).cons x).trans (.swap a x l)
theorem QR:∀l:List α,(QG lt l).Perm l
 | []=>.refl _
 |a :: l=>(CL a _).trans ((QR l).cons a)
theorem HL:∀ {l:List α},Zm lt l→QG lt l=l
 | [],_=>rfl
 |a :: l,h=>by
  obtain⟨h1,h2⟩:=Qpy.1 h;rw[QG,HL h2];cases l with
  |nil=>rfl
  |cons x l=>exact UM (h1 x (by simp))
end sorting
theorem Fc:∀ {a b c:List UInt8},Op.bytesLess a b=true→Op.bytesLess b c=true→Op.bytesLess a c=true
 |a,b,[],_,h=>by cases b<;>simp[Op.bytesLess]at h
 | [],_,_ :: _,_,_=>by simp[Op.bytesLess]
 |x :: a,[],_ :: _,h,_=>by simp[Op.bytesLess]at h
 |x :: a,y :: b,z :: c,h,k=>by
  simp only[Op.bytesLess,Qn0,Qol,Qn1,Qn2]at h k ⊢;rcases h with h|⟨h1,h2⟩<;>rcases k with k|⟨k1,k2⟩
  ·exact .inl (UInt8.lt_trans h k)
  ·subst k1;exact .inl h
  ·subst h1;exact .inl k
  ·subst h1 k1;exact .inr ⟨rfl,Fc h2 k2⟩
theorem GH:∀ {a b:List UInt8},Op.bytesLess a b=false→Op.bytesLess b a=false→a=b
 | [],[],_,_=>rfl
 | [],_ :: _,h,_=>by simp[Op.bytesLess]at h
 |_ :: _,[],_,h=>by simp[Op.bytesLess]at h
 |x :: a,y :: b,h,k=>by
  simp only[Op.bytesLess,QoQ,Qp2,QpZ,QpK]at h k;have e:x=y:=by
   rcases Nat.lt_trichotomy x.toNat y.toNat with g|g|g
   ·exact absurd (UInt8.lt_iff_toNat_lt.2 g) h.1
   ·exact UInt8.toNat_inj.1 g
   ·exact absurd (UInt8.lt_iff_toNat_lt.2 g) k.1
  subst e;rw[GH (h.2.resolve_left fun g=>g rfl) (k.2.resolve_left fun g=>g rfl)]
theorem NV:∀a:List UInt8,Op.bytesLess a a=false
 | []=>rfl
 |x :: a=>by simp[Op.bytesLess,NV a]
def kl (k:Int)(a b:V):Bool :=
 if Zx k=true then Op.bytesLess a.text b.text else if (k==2||k==3)=true then decide (IntKind.i64.wrap (a.bits:Int)<IntKind.i64.wrap (b.bits:Int))else decide ((a.bits:Int)<(b.bits:Int))
theorem J2 (k:Int):SW fun x y:V×V=>kl k x.1 y.1 where
 irr x:=by
  unfold kl;split
  ·exact NV _
  ·split<;>simp
 tr x y z h g:=by
  unfold kl at *;split
  ·rename_i ht;rw[Qn5 ht]at h g;exact Fc h g
  ·rename_i ht;rw[Qn4 ht]at h g;split
   ·rename_i hs;rw[Qn5 hs]at h g;simp only[Qn1]at *;omega
   ·rename_i hs;rw[Qn4 hs]at h g;simp only[Qn1]at *;omega
 nt x y z h g:=by
  unfold kl at *;split
  ·rename_i ht;rw[Qn5 ht]at h g;cases hc:Op.bytesLess x.1.text z.1.text with
   |false=>rfl
   |true=>
    cases hy:Op.bytesLess y.1.text x.1.text with
    |true=>rw[Fc hy hc]at g;cases g
    |false=>
     rw[GH h hy]at hc;rw[hc]at g;cases g
  ·rename_i ht;rw[Qn4 ht]at h g;split
   ·rename_i hs;rw[Qn5 hs]at h g;simp only[QpZ]at *;omega
   ·rename_i hs;rw[Qn4 hs]at h g;simp only[QpZ]at *;omega
def QX (k:Int)(l:List (V×V)):List (V×V):=QG (fun x y=>kl k x.1 y.1) l
def ZN (l:List R):List R:=QG (fun x y=>decide (x.num<y.num)) l
theorem CM:SW fun x y:R=>decide (x.num<y.num) where
 irr x:=by simp
 tr x y z h k:=by simp only[Qn1]at *;omega
 nt x y z h k:=by simp only[QpZ]at *;omega
def _root_.Go.Proofs.YtgnfjkkfbcnbfaaGreatDoor.Br.V.nsc (v:V):V:=.mk v.kd (Xu v.kd v.bits) v.text v.list v.pairs v.slots v.raws
def _root_.Go.Proofs.YtgnfjkkfbcnbfaaGreatDoor.Br.V.emp (v:V):Bool:=Va.emp v.kd v.bits v.text (v.list.map V.av) (v.pairs.map V.pav) (v.slots.map V.sav) (v.raws.map R.av)
section
variable (nm:PG→V→V)(P:PL)
def Xq (o:PO)(v:V):V:=if o.kind=10 then nm (Qk P o.target) v else v.nsc
def XN (o:PO)(v:V):V :=
 if o.card=4 then .mk 11 0 [] (v.list.map (Xq nm P o)) [] [] []else if o.card=5 then .mk 12 0 [] [] ((QX o.key v.pairs).map fun p=>(p.1.nsc,Xq nm P o p.2)) [] []else Xq nm P o v
def Xg (sl:List (Int×V))(o:PO):List (Int×V):=match sl.find? (fun s=>s.1==o.num)with
 |none=>[]
 |some s=>if (decide (o.card<3) || !(XN nm P o s.2).emp)=true then [(o.num,XN nm P o s.2)]else []
def Uj (g:PG)(v:V):V:=.mk 10 0 [] [] [] (g.ops.flatMap (Xg nm P v.slots)) (ZN v.raws)
end
def nrm (P:PL):Nat→PG→V→V
 |0,_,v=>v
 |n+1,g,v=>Uj (nrm P n) P g v
theorem PH (v:V):v.nsc.cnt=v.cnt:=by
 rw[Q1,Q1 v];rfl
theorem CN {f:V→V}(h:∀v,(f v).cnt≤v.cnt):∀l:List V,Q6 (l.map f)≤Q6 l
 | []=>QnV _
 |x :: l=>by
  have:=h x;have:=CN h l;simp only[Qov,Q6];omega
theorem CO {f g:V→V}(h:∀v,(f v).cnt≤v.cnt)(k:∀v,(g v).cnt≤v.cnt):∀l:List (V×V),Xd (l.map fun p=>(f p.1,g p.2))≤Xd l
 | []=>QnV _
 |(a,b) :: l=>by
  have:=h a;have:=k b;have:=CO h k l;simp only[Qov,Xd];omega
theorem NW {a b:List (V×V)}(h:a.Perm b):Xd a=Xd b:=by
 induction h with
 |nil=>rfl
 |cons x _ ih=>obtain⟨p,q⟩:=x;simp only[Xd,ih]
 |swap x y l=>obtain⟨p,q⟩:=x;obtain⟨r,s⟩:=y;simp only[Xd];omega
 |trans _ _ h1 h2=>rw[h1,h2]
theorem Fe (a b:List (Int×V)):Q9 (a++b)=Q9 a+Q9 b:=by
 induction a with
 |nil=>simp[Q9]
 |cons x a ih=>obtain⟨n,v⟩:=x;simp only[Qoj,Q9,ih];omega
theorem Nk {nm:PG→V→V}{P:PL}(h:∀t v,(nm (Qk P t) v).cnt≤v.cnt)(o:PO)(v:V):(Xq nm P o v).cnt≤v.cnt:=by
 unfold Xq;split
 ·exact h _ _
 ·rw[PH];exact QnV _
theorem PJ {nm:PG→V→V}{P:PL}(h:∀t v,(nm (Qk P t) v).cnt≤v.cnt)(o:PO)(v:V):(XN nm P o v).cnt≤v.cnt:=by
 unfold XN;split
 ·have:=CN (Nk (P:=P) h o) v.list;rw[Q1,Q1 v];simp only[V.raws,V.list,V.pairs,V.slots,QoT,Xd,Q9];simp only[V.list]at this;omega
 ·split
  ·have h1:=CO (f:=V.nsc) (g:=Xq nm P o) (fun v=>by rw[PH];exact QnV _) (Nk (P:=P) h o) (QX o.key v.pairs);have h2:Xd (QX o.key v.pairs)=Xd v.pairs:=NW (QR _);rw[Q1,Q1 v];simp only[V.raws,V.list,V.pairs,V.slots,QoT,Q6,Q9];simp only[V.pairs]at h1 h2;omega
  ·exact Nk h o v
def wS (sl:List (Int×V))(n:Int):Nat:=Q9 (sl.filter fun s=>s.1==n)
theorem Qff (ops:List PO)(hd:ops.Pairwise fun a b=>a.num<b.num)(n:Int)(w:Nat):(ops.map fun o=>if n=o.num then w else 0).sum≤w:=by
 induction ops with
 |nil=>simp
 |cons o ops ih=>
  obtain⟨h1,h2⟩:=Qpy.1 hd;simp only[Qov,Qqb];by_cases e:n=o.num
  ·have:(ops.map fun o=>if n=o.num then w else 0).sum=0:=by
    have:∀l:List PO,(∀x∈l,n≠x.num)→(l.map fun o=>if n=o.num then w else 0).sum=0:=by
     intro l
     induction l with
     |nil=>intro _;rfl
     |cons x l ih=>
      intro h;rw[Qov,Qqb,Qn4 (h x (by simp)),ih fun y hy=>h y (by simp[hy])]
    exact this ops fun x hx=>by have:=h1 x hx;omega
   rw[Qn5 e,this];omega
  ·rw[Qn4 e];have:=ih h2;omega
theorem Qfg (ops:List PO)(hd:ops.Pairwise fun a b=>a.num<b.num)(sl:List (Int×V)):(ops.map fun o=>wS sl o.num).sum≤Q9 sl:=by
 induction sl with
 |nil=>
  have:∀l:List PO,(l.map fun o=>wS [] o.num).sum=0:=by
   intro l
   induction l with
   |nil=>rfl
   |cons x l ih=>rw[Qov,Qqb,ih];rfl
  rw[this];exact Qn6 _
 |cons s sl ih=>
  obtain⟨n,v⟩:=s;have h1:=Qff ops hd n v.cnt;have h2:∀l:List PO,(l.map fun o=>wS ((n,v) :: sl) o.num).sum=(l.map fun o=>if n=o.num then v.cnt else 0).sum+(l.map fun o=>wS sl o.num).sum:=by
   intro l
   induction l with
   |nil=>rfl
   |cons o l ih=>
    simp only[Qov,Qqb,ih];have:wS ((n,v) :: sl) o.num=(if n=o.num then v.cnt else 0)+wS sl o.num:=by
     unfold wS;by_cases e:n=o.num
     ·rw[List.filter_cons_of_pos (by simpa using e),Qn5 e,Q9]
     ·rw[List.filter_cons_of_neg (by simpa using e),Qn4 e,Qom]
    omega
  rw[h2,Q9];omega
theorem Qcq {sl:List (Int×V)}{n:Int}{s:Int×V}(h:sl.find? (fun s=>s.1==n)=some s):s.2.cnt≤wS sl n:=by
 unfold wS
 induction sl with
 |nil=>cases h
 |cons x sl ih=>
  obtain⟨m,v⟩:=x;rw[QpP]at h;by_cases e:m=n
  ·have hb:((m,v).1==n)=true:=by simpa using e
   rw[hb]at h;cases h;rw[List.filter_cons_of_pos (by simpa using e),Q9];exact Nat.le_add_right _ _
  ·have hb:((m,v).1==n)=false:=by simpa using e
   rw[hb]at h;rw[List.filter_cons_of_neg (by simpa using e)];exact ih h
theorem Ie {nm:PG→V→V}{P:PL}(h':∀t v,(nm (Qk P t) v).cnt≤v.cnt)(g:PG)(hd:g.ops.Pairwise fun a b=>a.num<b.num)(v:V):(Uj nm P g v).cnt≤v.cnt:=by
 have h1:Q9 (g.ops.flatMap (Xg nm P v.slots))≤(g.ops.map fun o=>wS v.slots o.num).sum:=by
  clear hd
  induction g.ops with
  |nil=>exact QnV _
  |cons o l ih=>
   have:Q9 (Xg nm P v.slots o)≤wS v.slots o.num:=by
    unfold Xg;cases hf:v.slots.find? (fun s=>s.1==o.num)with
    |none=>exact Qn6 _
    |some s=>
     have a:=Qcq hf;have b:=PJ (P:=P) h' o s.2;dsimp only;split
     ·simp only[Q9];omega
     ·exact Qn6 _
   rw[Qps,Fe,Qov,Qqb];omega
 have h2:=Qfg g.ops hd v.slots;have h3:(ZN v.raws).length=v.raws.length:=(QR _).length_eq;rw[Q1,Q1 v];simp only[Uj,V.raws,V.list,V.pairs,V.slots,Q6,Xd]at *;omega
def Zi (P:PL):Prop:=∀g∈P.progs,g.ops.Pairwise fun a b=>a.num<b.num
theorem Wo {P:PL}(h:Zi P)(t:Int):(Qk P t).ops.Pairwise fun a b=>a.num<b.num:=by
 unfold Qk;cases hg:P.progs[t.toNat]? with
 |none=>exact .nil
 |some g=>exact h g (Qob hg)
theorem Y3 {P:PL}(h:Zi P):∀(n:Nat) (g:PG),(g.ops.Pairwise fun a b=>a.num<b.num)→∀v:V,(nrm P n g v).cnt≤v.cnt
 |0,_,_,_=>QnV _
 |n+1,g,hg,v=>Ie (fun t v=>Y3 h n _ (Wo h t) v) g hg v
end Go.Proofs.YtgnfjkkfbcnbfaaGreatDoor.Va
namespace Go.Proofs.YtgnfjkkfbcnbfaaGreatDoor.Va
open Go Am Rc Bt Br
def JoI (g:PG)(k:Nat)(st:St):Prop :=
 ∃f fr i n b,st=⟨f,[fr],[]⟩∧k=g.ops.length-i∧Km g.ops 0 (-1)=Km (g.ops.drop i) n b∧0≤n∧n≤(i:Int)∧((i=0∧b = -1)∨∃j o,i=j+1∧g.ops[j]? = some o∧b=o.union)∧f 1=.ptr 0 1 0∧f 3=.int .i64 n∧f 4=.int .i64 (i:Nat)∧fr 1=.cells g.cells
theorem z56 (g:PG)(hl:g.ops.length≤9223372036854775000):Qg Tryz.prog 56 [Qn g] (.bool (Kh g)):=by
 refine wF Tryz.func56 ?_;simp only[eK,Tryz.f56,seval];simp only[Qn,PG.cells,eE,seval];refine Qi (JoI g) _ ⟨_,_,0,0,-1,rfl,rfl,rfl,by decide,by decide,.inl ⟨rfl,rfl⟩,rfl,rfl,rfl,rfl⟩ ?_;rintro _ st ⟨f,fr,i,n,b,rfl,rfl,hj,hn0,hni,hb,h1,h3,h4,m1⟩;simp only[PG.cells]at m1;simp only[QoS,h1,h4,m1,eE,seval];by_cases hlt:i<g.ops.length
 ·obtain⟨o,hi⟩:∃o,g.ops[i]? = some o:=⟨g.ops[i],QnX hlt⟩;have hg:(g.ops.map fun o=>AV.agg o.cells)[i]? = some (.agg o.cells):=by simp[hi]
  have e1:=Qs i _ hlt (by simp only[maxLen];omega);have en:IntKind.i64.wrap (n+1)=n+1:=by rw[Qz];omega
  rw[Be hi]at hj;have fin:∀(f':Fr) (n':Int),(if o.union=n then n'=n+1 else n'=n)→Km g.ops 0 (-1)=Km (g.ops.drop (i+1)) n' o.union→f' 1=.ptr 0 1 0→f' 3=.int .i64 n'→f' 4=.int .i64 ((i+1:Nat):Int)→∃k,k<g.ops.length-i∧JoI g k ⟨f',[fr],[]⟩:=by
   intro f' n' a c d e f4;refine⟨g.ops.length-(i+1),by omega,f',fr,i+1,n',o.union,rfl,rfl,c,?_,?_,.inr ⟨i,o,rfl,hi,rfl⟩,d,e,f4,m1⟩<;>split at a<;>omega
  simp only[PO.cells]at hg;simp only[QA hlt,Qp,Qpq,Qf,hg,PO.cells,h1,h3,h4,m1,eE,seval];by_cases a1:o.union=n
  ·have b1:(o.union==n)=true:=by simp[a1]
   rw[Qn5 a1,←a1]at hj;simp only[b1,h3,h4,en,e1,Qa,seval];exact fin _ (n+1) (by rw[Qn5 a1]) (by rw[hj,a1]) h1 rfl rfl
  have b1:(o.union==n)=false:=by simp[a1]
  rw[Qn4 a1]at hj;by_cases a2:o.union = -1
  ·have b2:(o.union != -1)=false:=by simp[a2]
   rw[Qn5 (.inl a2)]at hj;simp only[b1,b2,h4,e1,Qa,seval];exact fin _ n (by rw[Qn4 a1]) hj h1 h3 rfl
  have b2:(o.union != -1)=true:=by simp[a2]
  rcases hb with⟨rfl,rfl⟩|⟨j,p,rfl,hjp,rfl⟩
  ·have b3:(((0:Nat):Int)==0)=true:=rfl;rw[Qn4 (by omega)]at hj;have hun:Kh g=false:=by unfold Kh;rw[hj]
   simp only[b1,b2,h4,hun,Qa,seval]
  ·have b3:(((j+1:Nat):Int)==0)=false:=by rw[QpK];omega
   have hgj:(g.ops.map fun o=>AV.agg o.cells)[j]? = some (.agg p.cells):=by simp[hjp]
   have e2:=Gy j _ hlt (by simp only[maxLen];omega);simp only[PO.cells]at hgj;by_cases a4:o.union=p.union
   ·have b4:(p.union != o.union)=false:=by simp[a4]
    rw[Qn5 (.inr a4)]at hj;simp only[b1,b2,b3,b4,e2,Qp,Qpq,Qf,hgj,PO.cells,h1,h4,m1,e1,eE,seval];exact fin _ n (by rw[Qn4 a1]) hj h1 h3 rfl
   ·have b4:(p.union != o.union)=true:=by simp;exact fun h=>a4 h.symm
    rw[Qn4 (by omega)]at hj;have hun:Kh g=false:=by unfold Kh;rw[hj]
    simp only[b1,b2,b3,b4,e2,Qp,Qpq,Qf,hgj,PO.cells,h1,h4,m1,hun,eE,seval]
 ·rw[QoA (by omega)]at hj;have hun:Kh g=(g.unions==n):=by unfold Kh;rw[hj];rfl
  simp only[QH hlt,h1,h3,m1,hun,eE,seval]
theorem z32 {M:Nat}(hM:M≤140737488351232)(P:PL)(hP:P.ok M)(hl:∀g∈P.progs,g.ops.length≤64):Qg Tryz.prog 32 [P.av] (.bool (args P)):=by
 have e:args P=(P.enums.all WN&&P.progs.all (WM P)):=Bool.and_comm _ _;have z0:(0≤(0:Int))=True:=by simp
 have z1:Int.toNat 0=0:=rfl;obtain⟨T,hT⟩:∃T,T=true:=⟨_,rfl⟩;refine wF Tryz.func32 ?_;simp only[eK,Tryz.f32,seval];simp only[GD,eE,seval];refine Xr P.enums.length 0 (Xf P.enums WN) T 4 [(1,.ptr 0 1 0)] [(1,.cells (Pc P))] [] (by simp[Qr]) ?_ (by rw[hT];rfl);rintro k f fr hk;simp only[Pc,QoS,XF,QoZ,eE,seval];rcases XS P.enums k with⟨x,hx,hlt⟩|hlt
 ·have hg:=Xe QC hx;have e1:=Qs k _ hlt hP.len2;have hxo:=hP.enums x (Qob hx);have hie:((x.notes.length:Int)==0)=x.notes.isEmpty:=by
   cases x.notes with
   |nil=>rfl
   |cons a l=>simp;omega
  rw[Gv]at hg;cases hb:T&&Qr (Xf P.enums WN) k
  case' false=>simp only[QA hlt,cond_true,cond_false,Qa,seval]
  case' true=>simp only[QA hlt,Qp,Qpq,Qf,hg,QoS,hie,cond_true,cond_false,eE,seval]
  all_goals
   refine Xr x.items.length 0 (Xf x.items W4) ((T&&Qr (Xf P.enums WN) k)&&x.notes.isEmpty) 5 [(1,.ptr 0 1 0),(4,.int .i64 (k:Nat))] [(1,.cells (Pc P))] [] (by simp[Qr]) ?_ (by rw[hb];rfl);rintro j f fr hj;simp only[Pc,Qp,Qpq,Qf,hg,QoS,XF,QoZ,eE,seval];rcases XS x.items j with⟨o,ho,hlj⟩|hlj
   ·have hgo:=Xe XC ho;have e2:=Qs j _ hlj hxo.len1;have hoo:=hxo.items o (Qob ho);rw[Na]at hgo;simp only[QA hlj,Qp,Qpq,Qf,hg,hgo,eE,seval];cases hc:((T&&Qr (Xf P.enums WN) k)&&x.notes.isEmpty)&&Qr (Xf x.items W4) j
    ·simp only[e2,cond_true,cond_false,Qa,seval];exact Ac.go hj hlj rfl (by rw[hc];rfl)
    have fin:∀v,W4 o=v→((((T&&Qr (Xf P.enums WN) k)&&x.notes.isEmpty)&&Qr (Xf x.items W4) j)&&Xf x.items W4 j)=v:=fun v h=>by rw[hc,XH ho];exact h
    rcases hn:o.notes with _|⟨n,_|⟨n2,ns⟩⟩
    ·have c0:(((0:Nat):Int)==0)=true:=rfl;simp only[QoZ,QoT,e2,cond_true,cond_false,Qa,seval];exact Ac.go hj hlj rfl (fin _ (by unfold W4;rw[hn]))
    ·obtain⟨kd,b',t,l,p,s,r,hv,htl,h3',h4',h5',h6'⟩:=LI (hoo.notes n (by rw[hn];simp)) hM;have c0:(((1:Nat):Int)==0)=false:=rfl;have c1:(((1:Nat):Int)==1)=true:=rfl;have e3:W4 o=(n.name==alias&&XQ 7 kd b' t l p s r):=by
      unfold W4;rw[hn];show(n.name==alias&&nok n.val)=_;rw[hv];rfl
     have en:Zg n.cells=.agg [.str n.name,.int .i64 kd,.int .u64 ((b':Nat):Int),.str t,.list l,.list p,.list s,.list r]:=by
      rw[PN.cells,hv];rfl
     have hne:(n.name==[97,108,105,97,115])=(n.name==alias):=rfl;have hck:=z55 kd b' t l p s r (by simp only[maxLen];omega);simp only[nv]at hck;simp only[Qov,QoZ,en,Qoc,QoT,Qom,Qf,z0,z1,Qo0,QP,hne,cond_true,cond_false,eE,seval];by_cases hal:n.name=alias
     ·have b0:(n.name==alias)=true:=by simp[hal]
      rw[←hal]at hck;rw[b0,QpE]at e3;simp only[b0,cond_true,cond_false,Qa,seval];refine aC hck ?_;cases hfv:XQ 7 kd b' t l p s r
      ·have d0:((12:Int)==0)=false:=rfl;simp only[Qog,d0,e2,Qa,seval];exact Ac.go hj hlj rfl (fin _ (e3.trans hfv))
      ·have d0:((0:Int)==0)=true:=rfl;simp only[d0,e2,Qa,seval];exact Ac.go hj hlj rfl (fin _ (e3.trans hfv))
     ·have b0:(n.name==alias)=false:=by simp[hal]
      simp only[b0,e2,cond_true,cond_false,Qa,seval];exact Ac.go hj hlj rfl (fin _ (by rw[e3,b0];rfl))
    ·have c0:((((ns.length+1+1:Nat)):Int)==0)=false:=by rw[QpK];omega
     have c1:((((ns.length+1+1:Nat)):Int)==1)=false:=by rw[QpK];omega
     simp only[Qov,Qoc,QoS,c0,c1,e2,cond_true,cond_false,Qa,seval];exact Ac.go hj hlj rfl (fin _ (by unfold W4;rw[hn]))
   simp only[QH hlj,ZA hj hlj,e1,Qa,seval];exact Ac.go hk hlt rfl (by rw[XH hx];exact(QoI ..).symm)
 simp only[QH hlt,ZA hk hlt,hT,QpE,Qa,seval];refine Xr P.progs.length 0 (Xf P.progs (WM P)) (P.enums.all WN) 7 [(1,.ptr 0 1 0)] [(1,.cells (Pc P))] [] (by simp[Qr]) ?_;rintro k f fr hk;simp only[Pc,QoS,XF,QoZ,eE,seval];rcases XS P.progs k with⟨x,hx,hlt⟩|hlt
 ·have hg:=Xe Qn hx;have e1:=Qs k _ hlt hP.len1;have hxo:=hP.progs x (Qob hx);have hjo:=z56 x (QnU (hl x (Qob hx)) (by decide));rw[Gw]at hg hjo;cases hb:P.enums.all WN&&Qr (Xf P.progs (WM P)) k
  case' false=>simp only[QA hlt,cond_true,cond_false,Qa,seval]
  case' true=>
   simp only[QA hlt,Qp,Qpq,Qf,hg,cond_true,cond_false,eE,seval];refine aC hjo ?_;simp only[cond_true,cond_false,Qa,seval]
  all_goals
   refine Xr x.ops.length 0 (Xf x.ops fun o=>K0 P o&&JX o) ((P.enums.all WN&&Qr (Xf P.progs (WM P)) k)&&Kh x) 8 [(1,.ptr 0 1 0),(7,.int .i64 (k:Nat))] [(1,.cells (Pc P))] [] (by simp[Qr]) ?_ (by rw[hb];rfl);rintro j f fr hj;simp only[Pc,Qp,Qpq,Qf,hg,QoS,XF,QoZ,eE,seval];rcases XS x.ops j with⟨o,ho,hlj⟩|hlj
   ·have hgo:=Xe Qv ho;have e2:=Qs j _ hlj hxo.len;have hop:=z57 P o (by have:=(hxo.ops o (Qob ho)).alias;simp only[maxLen];omega);rw[Gx]at hgo;rw[GD,Gx]at hop;cases hc:((P.enums.all WN&&Qr (Xf P.progs (WM P)) k)&&Kh x)&&Qr (Xf x.ops fun o=>K0 P o&&JX o) j
    ·simp only[QA hlj,e2,cond_true,cond_false,Qa,seval];exact Ac.go hj hlj rfl (by rw[hc];rfl)
    ·simp only[QA hlj,Qp,Qpq,Qf,hg,hgo,cond_true,cond_false,eE,seval];refine aC hop ?_;simp only[e2,cond_true,cond_false,Qa,seval];exact Ac.go hj hlj rfl (by rw[hc,XH ho];rfl)
   simp only[QH hlj,ZA hj hlj,e1,Qa,seval];exact Ac.go hk hlt rfl (by rw[XH hx];exact(QoI ..).symm)
 simp only[QH hlt,ZA hk hlt,e,Qa,seval]
def Bi (x:PE)(i:Nat):Bool:=match x.items[i]? with
 |some o=>(i != 0||o.num==0)&&Uc x o
 |none=>true
theorem Qcr (x:PE):Qr (Bi x) x.items.length=(HH x&&x.items.all (Uc x)):=by
 rw[QoR,Qol,Q5,Qoa]
 constructor
 ·intro h;refine⟨?_,fun o ho=>?_⟩
  ·unfold HH;cases hi:x.items with
   |nil=>rfl
   |cons a l=>
    have:=h 0 (by rw[hi];simp);unfold Bi at this;rw[hi]at this;simp only[Qo0,Qol]at this
    simpa using this.1
  ·obtain⟨i,hi⟩:=Qn9.1 ho;have:=h i (QnW.1 hi).1;unfold Bi at this;rw[hi]at this;simp only[Qol]at this;exact this.2
 ·rintro⟨h1,h2⟩ i _;unfold Bi;cases hg:x.items[i]? with
  |none=>rfl
  |some o=>
   simp only[Qol];refine⟨?_,h2 o (Qob hg)⟩;cases i with
   |zero=>
    unfold HH at h1;cases hx:x.items with
    |nil=>rw[hx]at hg;cases hg
    |cons a l=>
     rw[hx]at h1 hg;cases hg
     simpa using h1
   |succ k=>rfl
theorem z31 {M:Nat}(P:PL)(hP:P.ok M):Qg Tryz.prog 31 [P.av] (.bool (Bb P)):=by
 have hn:Bb P=(P.progs.all (fun g=>g.ops.all Kf)&&P.enums.all Ud):=rfl;obtain⟨T,hT⟩:∃T,T=true:=⟨_,rfl⟩;refine wF Tryz.func31 ?_;simp only[eK,Tryz.f31,seval];simp only[GD,eE,seval];refine Xr P.progs.length 0 (Xf P.progs fun g=>g.ops.all Kf) T 4 [(1,.ptr 0 1 0)] [(1,.cells (Pc P)),(8,.none),(12,.none)] [] (by simp[Qr]) ?_ (by rw[hT];rfl);rintro k f fr hk;simp only[Pc,QoS,XF,QoZ,eE,seval];rcases XS P.progs k with⟨x,hx,hlt⟩|hlt
 ·have hg:=Xe Qn hx;have e1:=Qs k _ hlt hP.len1;have hsl:=(hP.progs x (Qob hx)).len;rw[Gw]at hg;simp only[QA hlt,Qa,seval];refine Xr x.ops.length 0 (Xf x.ops Kf) (T&&Qr (Xf P.progs fun g=>g.ops.all Kf) k) 5 [(1,.ptr 0 1 0),(4,.int .i64 (k:Nat))] [(1,.cells (Pc P)),(8,.none),(12,.none)] [] (by simp[Qr]) ?_;rintro j f fr hj;simp only[Pc,Qp,Qpq,Qf,hg,QoS,XF,QoZ,eE,seval];rcases XS x.ops j with⟨o,ho,hlj⟩|hlj
  ·have hgo:=Xe Qv ho;have e2:=Qs j _ hlj hsl;have hq:Kf o=(decide (o.num≥1)&&decide (o.num≤65535)):=rfl;rw[Gx]at hgo;simp only[QA hlj,Qp,Qpq,Qf,hg,hgo,eE,seval];cases hc:(T&&Qr (Xf P.progs fun g=>g.ops.all Kf) k)&&Qr (Xf x.ops Kf) j
   ·simp only[e2,cond_true,cond_false,Qa,seval];exact Ac.go hj hlj rfl (by rw[hc];rfl)
   cases a1:decide (o.num≥1) <;>
   ·rw[a1]at hq;simp only[a1,e2,cond_true,cond_false,Qa,seval];exact Ac.go (v:=(Kf o)) hj hlj (by rw[hq];rfl) (by rw[hc,XH ho];rfl)
  simp only[QH hlj,ZA hj hlj,e1,Qa,seval];exact Ac.go hk hlt rfl (by rw[XH hx])
 simp only[QH hlt,ZA hk hlt,hT,QpE,Qa,seval];refine Xr P.enums.length 0 (Xf P.enums Ud) (P.progs.all fun g=>g.ops.all Kf) 7 [(1,.ptr 0 1 0)] [(1,.cells (Pc P))] [12,8] (by simp[Qr]) ?_;rintro k f fr hk;simp only[Pc,QoS,XF,Qov,QoZ,Qoj,Qok,eE,seval];rcases XS P.enums k with⟨x,hx,hlt⟩|hlt
 ·have hg:=Xe QC hx;have e1:=Qs k _ hlt hP.len2;have hxo:=hP.enums x (Qob hx);obtain⟨A,hA⟩:∃A,((P.progs.all fun g=>g.ops.all Kf)&&Qr (Xf P.enums Ud) k)=A:=⟨_,rfl⟩;rw[Gv]at hg;simp only[QA hlt,hA,Qp,Qpq,Qf,hg,eE,seval];refine Xr x.items.length 0 (Bi x) A 9 [(1,.ptr 0 1 0),(7,.int .i64 (k:Nat)),(8,.ptr 0 8 0)] [(1,.cells (Pc P)),(8,.cells x.cells),(12,.none)] [] (by simp[Qr]) ?_;rintro j f fr hj;simp only[PE.cells,QoS,XF,QoZ,eE,seval];rcases XS x.items j with⟨o,ho,hlj⟩|hlj
  ·have hgo:(x.items.map fun n=>AV.agg n.cells)[j]? = _:=Xe XC ho;have e2:=Qs j _ hlj hxo.len1;have hr:Qg Tryz.prog 54 [.list (x.free.map fun n=>AV.agg n.cells),.int .i64 o.num] (.bool (kept x.free o.num)):=z54 x.free hxo.len2 o.num;have hq:Bi x j=((j != 0||o.num==0)&&(decide (o.num≤2147483647) && !kept x.free o.num)):=by unfold Bi;rw[ho];rfl
   rw[Na]at hgo;simp only[QA hlj,Qp,Qpq,Qf,hgo,eE,seval];cases hc:A&&Qr (Bi x) j
   ·simp only[e2,cond_true,cond_false,Qa,seval];exact Ac.go hj hlj rfl (by rw[hc];rfl)
   cases a1:decide (o.num≤2147483647)
   ·simp only[a1,e2,cond_true,cond_false,Qa,seval];exact Ac.go hj hlj rfl (by rw[hc,hq,a1,Qpu,QpG];rfl)
   rcases (show(decide ((j:Int) > 0)=true∧(j != 0||o.num==0)=true)∨(decide ((j:Int) > 0)=false∧(j != 0||o.num==0)=(o.num==0))by
    cases j with
    |zero=>exact .inr ⟨rfl,rfl⟩
    |succ k=>exact .inl ⟨QpY (by omega),rfl⟩)with⟨g1,g2⟩|⟨g1,g2⟩
   case' inr=>cases a2:(o.num==0)
   case' inr.false=>
    simp only[a1,a2,g1,e2,cond_true,cond_false,Qa,seval];exact Ac.go hj hlj rfl (by rw[hc,hq,g2,a2];rfl)
   case' inl=>have a2:True:=trivial
   all_goals
    simp only[a1,a2,g1,cond_true,cond_false,eE,seval];refine aC hr ?_;simp only[e2,cond_true,cond_false,Qa,seval];exact Ac.go hj hlj rfl (by rw[hc,hq,a1,g2];simp[a2])
  have he:Qr (Bi x) j=(HH x&&x.items.all (Uc x)):=(JM (fun i hi=>absurd hi (Qp6 i)) hj hlj).trans (Qcr x);simp only[QH hlj,he,Qa,seval];refine Xr x.free.length 0 (UI x.free) (A&&(HH x&&x.items.all (Uc x))) 11 [(1,.ptr 0 1 0),(7,.int .i64 (k:Nat)),(8,.ptr 0 8 0)] [(1,.cells (Pc P)),(8,.cells x.cells)] [12] (by simp[Qr]) ?_;rintro i f fr hi;simp only[PE.cells,QoS,XF,Qov,QoZ,Qoj,Qok,eE,seval];rcases XS x.free i with⟨y,hy,hli⟩|hli
  ·have hgy:(x.free.map fun n=>AV.agg n.cells)[i]? = some (.agg [.int .i64 y.lo,.int .i64 y.hi]):=Xe Jx hy;have e2:=Qs i _ hli hxo.len2;have hq:UI x.free i=(((decide (y.lo≥0)&&decide (y.hi≤2147483647))&&decide (y.lo≤y.hi))&&Zp x.free Ba i):=by unfold UI;rw[XH hy];rfl
   simp only[QA hli,Qp,Qpq,Qf,hgy,eE,seval];cases hc:(A&&(HH x&&x.items.all (Uc x)))&&Qr (UI x.free) i
   ·simp only[e2,cond_true,cond_false,Qa,seval];exact Ac.go hi hli rfl (by rw[hc];rfl)
   cases a1:decide (y.lo≥0)
   ·simp only[a1,e2,cond_true,cond_false,eE,seval];exact Ac.go hi hli rfl (by rw[hc,hq,a1];rfl)
   cases a2:decide (y.hi≤2147483647)
   ·simp only[a1,a2,e2,cond_true,cond_false,eE,seval];exact Ac.go hi hli rfl (by rw[hc,hq,a1,a2];rfl)
   cases a3:decide (y.lo≤y.hi)
   ·simp only[a1,a2,a3,e2,cond_true,cond_false,eE,seval];exact Ac.go hi hli rfl (by rw[hc,hq,a1,a2,a3];rfl)
   cases i with
   |zero=>
    have d0:(((0:Nat):Int)==0)=true:=rfl;simp only[a1,a2,a3,d0,e2,cond_true,cond_false,eE,Nat.reduceBEq,↓reduceIte,Nat.reduceAdd];exact Ac.go hi hli rfl (by rw[hc,hq,a1,a2,a3];rfl)
   |succ n=>
    obtain⟨z,hz⟩:∃z,x.free[n]? = some z:=⟨x.free[n]'(by omega),QnX (by omega)⟩;have hgz:(x.free.map fun n=>AV.agg n.cells)[n]? = some (.agg [.int .i64 z.lo,.int .i64 z.hi]):=Xe Jx hz;have d0:(((n+1:Nat):Int)==0)=false:=by rw[QpK];omega
    have wn:=Gy n _ hli hxo.len2;simp only[a1,a2,a3,d0,wn,Qp,Qpq,Qf,hgz,e2,cond_true,cond_false,eE,seval];exact Ac.go hi hli rfl (by rw[hc,hq,a1,a2,a3,Yv hz hy];rfl)
  have he2:Qr (UI x.free) i=(x.free.all NP&&JB x.free Ba):=(JM (fun i hi=>absurd hi (Qp6 i)) hi hli).trans (Py _);simp only[QH hli,he2,e1,Qa,seval];exact Ac.go hk hlt rfl (by
   rw[hA,XH hx];unfold Ud;cases A<;>cases x.free.all NP<;>cases JB x.free Ba<;>cases HH x<;>cases x.items.all (Uc x)<;>rfl)
 simp only[QH hlt,ZA hk hlt,hn,Qa,seval]
section
variable (k kd:Int)(b:Nat)(t:List UInt8)(l p s r:List AV)(ht:t.length+8≤maxLen)
end
section
variable {M:Nat}(P:PL)(hP:P.ok M)(k tg kd:Int)(b:Nat)(t:List UInt8)(l p s r:List AV)(ht:t.length+8≤maxLen)(hs:s.length≤140737488351232)(hr:r.length≤140737488351232)
end
def kv (k:Int)(b:Nat)(t:List UInt8):AV:=.agg [.int .i64 k,.int .u64 (b:Nat),.str t,.list [],.list [],.list [],.list []]
def XU (k:Int):Prop:=(1≤k∧k≤5)∨k=7
theorem XU.isk {k:Int}(h:XU k):isk k=true:=by
 rcases h with h|rfl
 ·simp[Va.isk];omega
 ·rfl
theorem KR:∀s:List UInt8,Op.bytesLess s s=false
 | []=>rfl
 |a :: l=>by simp[Op.bytesLess,KR l]
theorem Qfh (a:Int):Qg Tryz.prog 169 [.int .i64 a] (.bool false):=by
 refine wF Tryz.func169 ?_;simp only[eK,Tryz.f169,seval];simp only[bne_self_eq_false,Qa,seval]
theorem Qfi (a:Int):Qg Tryz.prog 305 [.int .u64 a] (.bool false):=by
 refine wF Tryz.func305 ?_;simp only[eK,Tryz.f305,seval];simp only[bne_self_eq_false,Qa,seval]
theorem Qfj (a:List UInt8):Qg Tryz.prog 304 [.str a] (.bool false):=by
 have e:QP .neq a a=some (.bool false):=by simp[QP]
 refine wF Tryz.func304 ?_;simp only[eK,Tryz.f304,seval];simp only[e,Qa,seval]
def cN (a b:Int):Int:=if a<b then -1 else if b<a then 1 else 0
theorem Dn {a b:Int}:cN a b=0↔a=b:=by
 unfold cN;split
 ·omega
 ·split<;>omega
theorem LJ (a b:Int):Qg Tryz.prog 78 [.int .i64 a,.int .i64 b] (.int .i64 (cN a b)):=by
 refine wF Tryz.func78 ?_;simp only[eK,Tryz.f78,seval];simp only[Qa,seval];refine aC (Qfh a) ?_;simp only[Qa,seval];refine aC (Qfh b) ?_;simp only[Qa,seval];by_cases h1:a<b
 ·have d1:decide (a<b)=true:=by simpa using h1
  simp only[d1,cN,Qn5 h1,Qa,seval]
 ·have d1:decide (a<b)=false:=by simpa using h1
  by_cases h2:b<a
  ·have d2:decide (a > b)=true:=by simpa using h2
   simp only[d1,d2,cN,Qn4 h1,Qn5 h2,Qa,seval]
  ·have d2:decide (a > b)=false:=by simpa using h2
   simp only[d1,d2,cN,Qn4 h1,Qn4 h2,Qa,seval]
theorem QkP (a b:Int):Qg Tryz.prog 292 [.int .u64 a,.int .u64 b] (.int .i64 (cN a b)):=by
 refine wF Tryz.func292 ?_;simp only[eK,Tryz.f292,seval];simp only[Qa,seval];refine aC (Qfi a) ?_;simp only[Qa,seval];refine aC (Qfi b) ?_;simp only[Qa,seval];by_cases h1:a<b
 ·have d1:decide (a<b)=true:=by simpa using h1
  simp only[d1,cN,Qn5 h1,Qa,seval]
 ·have d1:decide (a<b)=false:=by simpa using h1
  by_cases h2:b<a
  ·have d2:decide (a > b)=true:=by simpa using h2
   simp only[d1,d2,cN,Qn4 h1,Qn5 h2,Qa,seval]
  ·have d2:decide (a > b)=false:=by simpa using h2
   simp only[d1,d2,cN,Qn4 h1,Qn4 h2,Qa,seval]
def cS (a b:List UInt8):Int:=if Op.bytesLess a b=true then -1 else if a==b then 0 else 1
theorem PK {a b:List UInt8}:cS a b=0↔a=b:=by
 unfold cS
 constructor
 ·intro h;split at h
  ·omega
  ·split at h
   ·rename_i h2;simpa using h2
   ·omega
 ·rintro rfl;simp[KR]
theorem QkQ (a b:List UInt8):Qg Tryz.prog 291 [.str a,.str b] (.int .i64 (cS a b)):=by
 refine wF Tryz.func291 ?_;simp only[eK,Tryz.f291,seval];simp only[Qa,seval];refine aC (Qfj a) ?_;simp only[Qa,seval];refine aC (Qfj b) ?_;simp only[QP,cS,Qa,seval];cases h1:Op.bytesLess a b
 ·cases h2:(a==b)<;>simp only[QP,h1,h2,QpJ,QpF,Qo5,Qog,Qa,seval]
 ·simp only[Qa,seval]
def DO (k:Int)(a:Nat)(s:List UInt8)(b:Nat)(t:List UInt8):Int :=
 if Zx k=true then cS s t else if (k==2||k==3)=true then cN (IntKind.i64.wrap (a:Int)) (IntKind.i64.wrap (b:Int))else cN (a:Int) (b:Int)
theorem QkR (k:Int)(hk:XU k)(a b:Nat)(s t:List UInt8):Qg Tryz.prog 261 [kv k a s,kv k b t] (.int .i64 (DO k a s b t)):=by
 have hi:=hk.isk;have k6:(k==6)=false:=by
  rcases hk with h|rfl
  ·simp;omega
  ·rfl
 refine wF Tryz.func261 ?_;simp only[eK,Tryz.f261,seval];simp only[kv,DO,bne_self_eq_false,eE,seval];refine aC (B7 k) ?_;simp only[hi,eE,seval];refine aC (QeP k) ?_;cases h1:Zx k
 ·simp only[Qog,eE,seval];cases h2:(k==2)
  ·cases h3:(k==3)
   ·simp only[h3,k6,Qp0,Qog,eE,seval];refine aC (QkP _ _) ?_;simp only[Qa,seval]
   ·simp only[h3,QpJ,eE,seval];refine aC (LJ _ _) ?_;simp only[Qa,seval]
  ·simp only[QpI,eE,seval];refine aC (LJ _ _) ?_;simp only[Qa,seval]
 ·simp only[eE,seval];refine aC (QkQ s t) ?_;simp only[Qa,seval]
theorem Qfk (k:Int)(hk:XU k)(b:Nat)(t:List UInt8):Qg Tryz.prog 260 [kv k b t] (.iface 252 (kv k b t)):=by
 have hi:=hk.isk;refine wF Tryz.func260 ?_;simp only[eK,Tryz.f260,seval];simp only[kv,eE,seval];refine aC (B7 k) ?_;simp only[hi,eE,seval]
theorem Qfl (k:Int)(hk:XU k)(a b:Nat)(s t:List UInt8):Qg Tryz.prog 216 [kv k a s,kv k b t] (.int .i64 (DO k a s b t)):=by
 have h1:=Qfk k hk a s;have h2:=Qfk k hk b t;have h3:=QkR k hk a b s t;simp only[kv]at h1 h2 h3;refine wF Tryz.func216 ?_;simp only[eK,Tryz.f216,seval];simp only[kv,bne_self_eq_false,eE,seval];refine aC h2 ?_;simp only[eE,seval];refine aC h1 ?_;simp only[eE,seval];refine aC h3 ?_;simp only[Qa,seval]
theorem Ig (k:Int)(hk:XU k)(a b:Nat)(s t:List UInt8):Qg Tryz.prog 217 [kv k a s,kv k b t] (.bool (DO k a s b t==0)):=by
 have h1:=Qfl k hk a b s t;simp only[kv]at h1;refine wF Tryz.func217 ?_;simp only[eK,Tryz.f217,seval];simp only[kv,eE,seval];refine aC h1 ?_;simp only[Qa,seval]
def W5 (k:Int)(b:Nat):Int:=if (k==2||k==3)=true then IntKind.u64.wrap ((b:Int)+9223372036854775808)else(b:Int)
theorem Qfm (k:Int):Qg Tryz.prog 242 [.int .i64 k] (.bool (k==2||k==3)):=by
 refine wF Tryz.func242 ?_;simp only[eK,Tryz.f242,seval];simp only[Qa,seval];cases h:(k==2)<;>simp only[QpI,QpJ,Qa,seval]
theorem Qfn (k:Int)(k6:(k != 6)=true)(b:Nat)(t:List UInt8):Qg Tryz.prog 186 [kv k b t] (.int .u64 (W5 k b)):=by
 refine wF Tryz.func186 ?_;simp only[eK,Tryz.f186,seval];simp only[kv,eE,seval];refine aC (Qfm k) ?_;unfold W5;cases h1:(k==2||k==3)
 ·simp only[k6,Qog,eE,seval]
 ·simp only[eE,seval]
def DP (k:Int)(a:Nat)(s:List UInt8)(b:Nat)(t:List UInt8):Int:=if Zx k=true then cS s t else cN (W5 k a) (W5 k b)
theorem QkS (k:Int)(hk:XU k)(a b:Nat)(s t:List UInt8):Qg Tryz.prog 101 [kv k a s,kv k b t] (.int .i64 (DP k a s b t)):=by
 have hi:=hk.isk;have k6:(k != 6)=true:=by
  rcases hk with h|rfl
  ·simp;omega
  ·rfl
 have d1:decide (k<k)=false:=by simp
 have d2:decide (k > k)=false:=by simp
 have hr:=Qfn k k6 a s;have hq:=Qfn k k6 b t;simp only[kv]at hr hq;refine wF Tryz.func101 ?_;simp only[eK,Tryz.f101,seval];simp only[kv,DP,d1,eE,seval];refine aC (LD k) ?_;simp only[hi,eE,seval];refine aC (Y8 k) ?_;cases h2:Zx k
 ·simp only[Qog,eE,seval];refine aC (Y8 k) ?_;simp only[h2,eE,seval];refine aC (Y8 k) ?_;simp only[h2,eE,seval];refine aC hr ?_;simp only[eE,seval];refine aC hq ?_;simp only[Qa,seval];by_cases c1:W5 k a<W5 k b
  ·have e1:decide (W5 k a<W5 k b)=true:=QpY c1;simp only[e1,cN,Qn5 c1,Qa,seval]
  ·have e1:decide (W5 k a<W5 k b)=false:=QpQ c1;simp only[e1,cN,Qn4 c1,eE,seval];refine aC hr ?_;simp only[eE,seval];refine aC hq ?_;by_cases c2:W5 k b<W5 k a
   ·have e2:decide (W5 k a > W5 k b)=true:=QpY c2;simp only[e2,Qn5 c2,Qa,seval]
   ·have e2:decide (W5 k a > W5 k b)=false:=QpQ c2;simp only[e2,Qn4 c2,Qa,seval]
 ·simp only[QP,cS,eE,seval];cases h1:Op.bytesLess s t
  ·simp only[Qog,eE,seval];refine aC (Y8 k) ?_;cases h3:(s==t)
   ·simp only[h1,h2,h3,QP,QpJ,Qo5,Qog,eE,seval]
   ·simp only[h1,h2,h3,QP,QpJ,QpF,eE,seval];refine aC (Y8 k) ?_;simp only[h2,Qa,seval]
  ·simp only[Qa,seval]
theorem v51 (k:Int)(hk:XU k)(a b:Nat)(s t:List UInt8):Qg Tryz.prog 51 [kv k a s,kv k b t] (.int .i64 (DP k a s b t)):=by
 have b1:(k==11)=false:=by rcases hk with h|rfl<;>simp<;>omega
 have b2:(k==12)=false:=by rcases hk with h|rfl<;>simp<;>omega
 have b3:(k==10)=false:=by rcases hk with h|rfl<;>simp<;>omega
 have hr:=QkS k hk a b s t;simp only[kv]at hr;refine wF Tryz.func51 ?_;simp only[eK,Tryz.f51,seval];simp only[kv,bne_self_eq_false,b1,b2,b3,eE,seval];refine aC hr ?_;simp only[Qa,seval]
theorem JF {v:V}{P:PL}{k tg:Int}(h:v.one P k tg=0):v.av=kv k v.bits v.text∧(Zx k=true→(v.bits:Int)=0)∧(Zx k=false→v.text=[]):=by
 obtain⟨h1,_,h3⟩:=Hf h;rw[Bh,h1];rw[h1]at h3;unfold XQ Ue at h3;simp only[Qol,Qn2]at h3;obtain⟨⟨⟨⟨⟨_,⟨⟨⟨e1,e2⟩,e3⟩,e4⟩⟩,h4⟩,_⟩,_⟩,_⟩:=h3;have f1:=Qp7.1 (Int.ofNat_eq_zero.1 e1);have f2:=Qp7.1 (Int.ofNat_eq_zero.1 e2);have f3:=Qp7.1 (Int.ofNat_eq_zero.1 e3);have f4:=Qp7.1 (Int.ofNat_eq_zero.1 e4);rw[f1,f2,f3,f4];refine⟨rfl,fun ht=>?_,fun ht=>?_⟩
 ·rw[Qn5 ht]at h4;simpa using h4
 ·rw[Qn4 (by simp[ht])]at h4;simpa using h4
theorem Nl {x y:V}{P:PL}{k tg:Int}(_hk:XU k)(hx:x.one P k tg=0)(hy:y.one P k tg=0)(bx:x.bits<18446744073709551616)(bY:y.bits<18446744073709551616):(DO k x.bits x.text y.bits y.text==0)=Xz x y:=by
 obtain⟨_,x1,x2⟩:=JF hx;obtain⟨_,y1,y2⟩:=JF hy;rw[QoR,Qn2];unfold Xz DO;simp only[Qol,Qn2];split
 ·rename_i ht;have:=x1 ht;have:=y1 ht;rw[PK];exact⟨fun h=>⟨by omega,h⟩,fun h=>h.2⟩
 ·rename_i ht;have ht:Zx k=false:=by simpa using ht
  rw[x2 ht,y2 ht];split
  ·rw[Dn,Qz,Qz];exact⟨fun h=>⟨by omega,rfl⟩,fun h=>by rw[h.1]⟩
  ·rw[Dn];exact⟨fun h=>⟨by omega,rfl⟩,fun h=>by rw[h.1]⟩
theorem Qcs {x y:V}{P:PL}{k tg:Int}(_hk:XU k)(hx:x.one P k tg=0)(hy:y.one P k tg=0)(bx:x.bits<18446744073709551616)(bY:y.bits<18446744073709551616):(DP k x.bits x.text y.bits y.text==0)=Xz x y:=by
 obtain⟨_,x1,x2⟩:=JF hx;obtain⟨_,y1,y2⟩:=JF hy;rw[QoR,Qn2];unfold Xz DP;simp only[Qol,Qn2];split
 ·rename_i ht;have:=x1 ht;have:=y1 ht;rw[PK];exact⟨fun h=>⟨by omega,h⟩,fun h=>h.2⟩
 ·rename_i ht;have ht:Zx k=false:=by simpa using ht
  rw[x2 ht,y2 ht];unfold W5;split
  ·rw[Dn,Jj,Jj];exact⟨fun h=>⟨by omega,rfl⟩,fun h=>by rw[h.1]⟩
  ·rw[Dn];exact⟨fun h=>⟨by omega,rfl⟩,fun h=>by rw[h.1]⟩
open Up
def vc (x:V):List AV:=[.int .i64 x.kd,.int .u64 (x.bits:Nat),.str x.text,.list (x.list.map V.av),.list (x.pairs.map V.pav),.list (x.slots.map V.sav),.list (x.raws.map R.av)]
theorem Qc (x:V):x.av=.agg [.int .i64 x.kd,.int .u64 (x.bits:Nat),.str x.text,.list (x.list.map V.av),.list (x.pairs.map V.pav),.list (x.slots.map V.sav),.list (x.raws.map R.av)]:=by
 rw[V.av,V.eta]
theorem Z0 (p:V×V):V.pav p=.agg [.int .i64 p.1.kd,.int .u64 (p.1.bits:Nat),.str p.1.text,.list (p.1.list.map V.av),.list (p.1.pairs.map V.pav),.list (p.1.slots.map V.sav),.list (p.1.raws.map R.av),.int .i64 p.2.kd,.int .u64 (p.2.bits:Nat),.str p.2.text,.list (p.2.list.map V.av),.list (p.2.pairs.map V.pav),.list (p.2.slots.map V.sav),.list (p.2.raws.map R.av)]:=by
 rw[V.pav,V.eta,V.eta];rfl
theorem Z1 (s:Int×V):V.sav s=.agg [.int .i64 s.1,.int .i64 s.2.kd,.int .u64 (s.2.bits:Nat),.str s.2.text,.list (s.2.list.map V.av),.list (s.2.pairs.map V.pav),.list (s.2.slots.map V.sav),.list (s.2.raws.map R.av)]:=by
 rw[V.sav,V.eta]
theorem U4 {l:List V}{i:Nat}{x:V}(h:l[i]? = some x):(l.map V.av)[i]? = some (.agg [.int .i64 x.kd,.int .u64 (x.bits:Nat),.str x.text,.list (x.list.map V.av),.list (x.pairs.map V.pav),.list (x.slots.map V.sav),.list (x.raws.map R.av)]):=by
 rw[Qpl,h,Qon,Qc]
theorem J3 {l:List (V×V)}{i:Nat}{p:V×V}(h:l[i]? = some p):(l.map V.pav)[i]? = some (.agg [.int .i64 p.1.kd,.int .u64 (p.1.bits:Nat),.str p.1.text,.list (p.1.list.map V.av),.list (p.1.pairs.map V.pav),.list (p.1.slots.map V.sav),.list (p.1.raws.map R.av),.int .i64 p.2.kd,.int .u64 (p.2.bits:Nat),.str p.2.text,.list (p.2.list.map V.av),.list (p.2.pairs.map V.pav),.list (p.2.slots.map V.sav),.list (p.2.raws.map R.av)]):=by
 rw[Qpl,h,Qon,Z0]
theorem WR {l:List (Int×V)}{i:Nat}{s:Int×V}(h:l[i]? = some s):(l.map V.sav)[i]? = some (.agg [.int .i64 s.1,.int .i64 s.2.kd,.int .u64 (s.2.bits:Nat),.str s.2.text,.list (s.2.list.map V.av),.list (s.2.pairs.map V.pav),.list (s.2.slots.map V.sav),.list (s.2.raws.map R.av)]):=by
 rw[Qpl,h,Qon,Z1]
structure UO (P:PL)(o:PO):Prop where
 tgt:o.kind=10→0≤o.target∧o.target<(P.progs.length:Int)
 enm:o.kind=9→0≤o.target∧o.target<(P.enums.length:Int)
 key:o.card=5→XU o.key
def J6 (P:PL):Prop:=∀g∈P.progs,∀o∈g.ops,UO P o
theorem Yz {P:PL}(h:ck P=0):J6 P:=by
 unfold ck at h;split at h
 ·omega
 split at h
 ·omega
 split at h
 ·omega
 split at h
 ·omega
 split at h
 ·omega
 split at h
 ·omega
 rename_i ha;have ha:args P=true:=by simpa using ha
 intro g hg o ho;unfold args at ha;simp only[Qol,Qoa]at ha;have h1:=ha.1 g hg;unfold WM at h1;simp only[Qol,Qoa]at h1;have h2:=(h1.2 o ho).1;unfold K0 at h2;simp only[Qol,Qn1]at h2;obtain⟨⟨_,hk⟩,hm⟩:=h2;refine⟨fun h=>?_,fun h=>?_,fun h=>?_⟩
 ·unfold Bd at hm;rw[Qn5 h]at hm;simp only[Qol,Qn1]at hm;exact hm.1
 ·unfold Bd at hm;rw[Qn4 (by omega),Qn5 h]at hm;simp only[Qol,Qn1]at hm;exact hm
 ·unfold Va.key at hk;rw[Qn5 h]at hk;simp only[Qol,Qn1,Qoq]at hk;unfold XU;omega
section
variable {M:Nat}{P:PL}(hP:P.ok M)(hM:M≤140737488351232){m:PG→V→Int}{lv lv1:Int}(hw:IntKind.i64.wrap (lv+1)=lv1)
include hP in
theorem LK (k tg:Int){v:V}(hv:v.ok M):Qg Tryz.prog 254 [P.av,.int .i64 k,.int .i64 tg,v.av] (.int .i64 (v.one P k tg)):=by
 rw[Bh];exact QkN P hP k tg _ _ _ _ _ _ _ (by have:=hv.nl;simp;omega) (by have:=hv.np;simp;omega) (by have:=hv.ns;simp;omega) (by have:=hv.nr;simp;omega)
include hP hw in
theorem QkT (hm:∀g∈P.progs,∀v:V,v.ok M→Qg Tryz.prog 37 [P.av,Qn g,v.av,.int .i64 lv1] (.int .i64 (m g v)))(o:PO)(ho:UO P o)(v:V)(hv:v.ok M) :
  Qg Tryz.prog 208 [P.av,Qv o,v.av,.int .i64 lv] (.int .i64 (QN m P o v)):=by
 have e0:P.av=.agg [.list (P.progs.map Qn),.list (P.enums.map QC)]:=rfl;have h1:=LK hP o.kind o.target hv;rw[e0,Qc]at h1;rw[Qc];refine wF Tryz.func208 ?_;simp only[eK,Tryz.f208,seval];simp only[e0,Qv,PO.cells,QN,eE,seval];by_cases hk:o.kind=10
 ·have b:(o.kind==10)=true:=by simp[hk]
  obtain⟨t0,t1⟩:=ho.tgt hk;obtain⟨i,hi⟩:=QpH t0;have hlt:i<P.progs.length:=by omega
  obtain⟨g,hg⟩:∃g,P.progs[i]? = some g:=⟨P.progs[i],QnX hlt⟩;have hga:(P.progs.map Qn)[i]? = some (.agg g.cells):=by simp[hg,Qn]
  have hq:Qk P o.target=g:=by unfold Qk;rw[hi,Qpq,hg];rfl
  have h2:=hm g (Qob hg) v hv;rw[e0,Qc]at h2;simp only[Qn,PG.cells]at h2;simp only[PG.cells]at hga;rw[Qn5 hk,hq];simp only[b,hi,Qp,Qpq,Qf,hga,hw,eE,seval];refine aC h2 ?_;simp only[Qa,seval]
 ·have b:(o.kind==10)=false:=by simp[hk]
  rw[Qn4 hk];simp only[b,eE,seval];refine aC h1 ?_;simp only[Qa,seval]
end
section pairs
variable (L:List (V×V))(hl:L.length≤maxLen)(p:V×V→Bool)(c:Nat)(cap:AV)(m:Qj)
include hl in
theorem QkU (hc:∀o∈L,Qe Tryz.prog c [V.pav o,cap.sh] (Qb :: m) fun y m1=>y=.bool (p o)∧m1=Qb :: m) :
  Qe Tryz.prog 287 [.list (L.map V.pav),.fn (.func c) [] [cap]] m fun y m1=>y=.int .i64 (Zo p L 0)∧m1=m:=by
 refine wG Tryz.func287 ?_;simp only[eK,Tryz.f287,seval];exact Gt hl (av:=V.pav) (n:=14) (s:=some 14) (cs:=[cap]) (fun x=>by rw[Z0];exact⟨rfl,rfl⟩) hc
include hl in
theorem QkV (hc:∀o∈L,Qe Tryz.prog c [V.pav o,cap.sh.sh] (Qb :: Qb :: m) fun y m1=>y=.bool (p o)∧m1=Qb :: Qb :: m) :
  Qe Tryz.prog 255 [.list (L.map V.pav),.fn (.func c) [] [cap]] m fun y m1=>y=.bool (L.any p)∧m1=m:=by
 refine wG Tryz.func255 ?_;simp only[eK,Tryz.f255,seval];simp only[Qa,seval];refine Qh (QkU L hl p c cap.sh _ hc) (by simp only[Qov,QoZ,Qa,seval]) ?_;simp only[Nh,Qa,seval]
end pairs
section slots
variable (L:List (Int×V))(hl:L.length≤maxLen)(p:Int×V→Bool)(c:Nat)(cap:AV)(m:Qj)
include hl in
theorem QkW (hc:∀o∈L,Qe Tryz.prog c [V.sav o,cap.sh] (Qb :: m) fun y m1=>y=.bool (p o)∧m1=Qb :: m) :
  Qe Tryz.prog 156 [.list (L.map V.sav),.fn (.func c) [] [cap]] m fun y m1=>y=.int .i64 (Zo p L 0)∧m1=m:=by
 refine wG Tryz.func156 ?_;simp only[eK,Tryz.f156,seval];exact Gt hl (av:=V.sav) (n:=8) (s:=some 8) (cs:=[cap]) (fun x=>by rw[Z1];exact⟨rfl,rfl⟩) hc
include hl in
theorem v67 (hc:∀o∈L,Qe Tryz.prog c [V.sav o,cap.sh.sh] (Qb :: Qb :: m) fun y m1=>y=.bool (p o)∧m1=Qb :: Qb :: m) :
  Qe Tryz.prog 67 [.list (L.map V.sav),.fn (.func c) [] [cap]] m fun y m1=>y=.bool (L.any p)∧m1=m:=by
 refine wG Tryz.func67 ?_;simp only[eK,Tryz.f67,seval];simp only[Qa,seval];refine Qh (QkW L hl p c cap.sh _ hc) (by simp only[Qov,QoZ,Qa,seval]) ?_;simp only[Nh,Qa,seval]
end slots
end Go.Proofs.YtgnfjkkfbcnbfaaGreatDoor.Va

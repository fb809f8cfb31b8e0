/- Parts of the proof, in order. -/
import Derived.Test.YtdhlbgejhcejcaaGreatDoorProg
import Derived.Test.YtdhlbgejhcejcaaGreatDoorMTagencFields3

namespace Go.Proofs.YtdhlbgejhcejcaaGreatDoor.Am
open Go Bt

def Ez (E:AV→Prop)(sz:Nat)(x:AV):Prop:=E x∧∃l,x=.agg l∧l.length=sz∧AV.rfL l=true∧l.all AV.leaf=true∧∀m,AV.stillL false m l=some l

variable {E:AV→Prop}

theorem Ez.part {sz:Nat}{x:AV}(h:Ez E sz x):Am.part x.cells 0 (some sz)=some x:=by
 obtain⟨_,l,rfl,rfl,_,_,_⟩:=h;simp[Am.part,AV.cells]
theorem Ez.len {sz:Nat}{x:AV}(h:Ez E sz x):x.cells.length=sz:=by
 obtain⟨_,l,rfl,rfl,_,_,_⟩:=h;rfl
theorem Ez.leaf {sz:Nat}{x:AV}(h:Ez E sz x):x.cells.all AV.leaf=true:=by
 obtain⟨_,l,rfl,_,_,h,_⟩:=h;exact h
theorem Ez.rf {sz:Nat}{x:AV}(h:Ez E sz x):x.rf=true:=by
 obtain⟨_,l,rfl,_,h,_,_⟩:=h;exact h

theorem Ez.still {sz:Nat}{x:AV}(h:Ez E sz x)(m:Qn):x.still false m=some x:=by
 obtain⟨_,l,rfl,_,_,_,h⟩:=h;simp only[AV.still,h m,QW6]
theorem WU {sz:Nat}{x y:AV}(h:Ez E sz x)(k:Ez E sz y)(m:Qn):AV.stillL false m [x,y]=some [x,y]:=by
 simp only[AV.stillL,h.still,k.still]
theorem KQ {sz:Nat}{x y:AV}(h:Ez E sz x)(k:Ez E sz y):AV.rfL [x,y]=true:=by
 simp only[AV.rfL,h.rf,k.rf,Bool.and_self]

theorem K8 {P:Program}{f:Fr}{m:Qn}{ds:List DF}{Qe:List Item}{d:Nat}{K:St→Prop}{k:Nat}{r:RA}{args:List RA}{ys:List AV}{v:AV}(hr:r.ev f=.fn (.func k) [] [])(hk:Qi P k ys v)(hy:AV.stillL false m (args.map (RA.ev f))=some ys)(h1:AV.rfL ys=true)(h2:v.rf=true)(h3:AV.rfL (args.map (RA.ev f))=true∨v.nl=true)(h:QE P Qe ⟨QH f d v,m,ds⟩ K) :
  QE P (⟨some d,.call r args,none⟩ :: Qe) ⟨f,m,ds⟩ K:=by
 refine⟨k,[],[],ys,v,hr,?_,h1,hk,h2,?_,h⟩
 ·simpa using hy
 ·simpa using h3

theorem Wf:∀ {m:Qn} {l s:Nat} {o o':Ob},Am.put (Am.put m l s o) l s o'=Am.put m l s o'
 | [],_,_,_,_=>rfl
 |fr :: m,0,s,o,o'=>by simp only[Am.put,upd_upd']
 |fr :: m,l+1,s,o,o'=>by simp only[Am.put,Wf (m:=m)]
where
 upd_upd' {f:Nat→Ob} {d:Nat} {x y:Ob}:QH (QH f d x) d y=QH f d y:=by
  funext i;simp only[QH];cases Nat.beq i d<;>rfl

theorem Jm:∀ {m:Qn} {l s:Nat} {o:Ob},Qf m l s=o→Am.put m l s o=m
 | [],_,_,_,_=>rfl
 |fr :: m,0,s,o,h=>by
  simp only[Am.put];congr 1
  funext i;simp only[QH];cases hb:Nat.beq i s with
  |false=>rfl
  |true=>rw[QWc hb];exact h.symm
 |fr :: m,l+1,s,o,h=>by simp only[Am.put,Jm (m:=m) h]

section
variable {m:Qn}{fr:Nat→Ob}{lv s g sz n i:Nat}{cur:List AV}{x y:AV}

theorem KY (hlv:lv<m.length)(hx:cur[i]? = some x)(he:Ez E sz x):Q8 (fr :: Am.put m lv s (.vec g sz cur)) (some sz) (.vptr (lv+1) s g i 0)=some x:=by
 have e:Qf (fr :: Am.put m lv s (.vec g sz cur)) (lv+1) s=.vec g sz cur:=Qy hlv;simp only[Q8,e,if_true,hx,he.part]

theorem Uu (hlv:lv<m.length)(hx:cur[i]? = some x)(he:Ez E sz x)(hy:Ez E sz y)(h0:sz≠0):QX (fr :: Am.put m lv s (.vec g sz cur)) (.vptr (lv+1) s g i 0) y.cells=some (fr :: Am.put m lv s (.vec g sz (cur.set i y))):=by
 have e:Qf (fr :: Am.put m lv s (.vec g sz cur)) (lv+1) s=.vec g sz cur:=Qy hlv;obtain⟨_,l,rfl,hl,_,_,_⟩:=he;obtain⟨_,k,rfl,hk,hf,_,_⟩:=hy;have hc:0+(AV.agg k).cells.length≤(AV.agg l).cells.length∧(AV.agg k).cells.length≠0∧AV.rfL (AV.agg k).cells=true:=by
  simp only[AV.cells];exact⟨by omega,by omega,hf⟩
 simp only[QX,e,if_true,hx,QWJ hc];have hs:splice l 0 k=k:=by
  simp only[splice,QXp,QWD,QWW];rw[QWR (by omega),QXj]
 simp only[ZF,AV.cells,hs,Am.put,Wf]

theorem KZ (hlv:lv<m.length)(hi:i<n):Qb (fr :: Am.put m lv s (.vec g sz cur)) sz none (.vec (lv+1) s g 0 n false) ((i:Nat):Int)=some (.vptr (lv+1) s g i 0):=by
 have e:Qf (fr :: Am.put m lv s (.vec g sz cur)) (lv+1) s=.vec g sz cur:=Qy hlv;simp only[Qb,e,QXI];rw[QWJ (by omega),QWJ ⟨trivial,trivial,hi⟩,QWW]

end

theorem put_len:∀ {m:Qn} {l s:Nat} {o:Ob},(Am.put m l s o).length=m.length
 | [],_,_,_=>rfl
 |_ :: _,0,_,_=>rfl
 |fr :: m,l+1,s,o=>by simp only[Am.put,QWv,put_len (m:=m)]

end Go.Proofs.YtdhlbgejhcejcaaGreatDoor.Am

set_option linter.unusedSimpArgs false
namespace Go.Proofs.YtdhlbgejhcejcaaGreatDoor.Tz
open Go Am Bt Tg
variable {Pg:Program}{cz sr ro sm is st ss:Nat}(hC:Tg.Cs Pg cz sr ro sm is st ss)(hcz:cz≠0)

variable {E:AV→Prop}

def SwI (X cur:List AV)(p q i:Nat):Prop :=
 cur.length=X.length∧∀j,cur[j]? = if p≤j∧j<p+i then X[q+(j-p)]? else if q≤j∧j<q+i then X[p+(j-q)]? else X[j]?

theorem SwI.step {X cur:List AV}{p q i n:Nat}(h:SwI X cur p q i)(hi:i<n)(hpq:p+n≤q)(hq:q+n≤X.length){x y:AV}(hx:X[q+i]? = some x)(hy:X[p+i]? = some y) :
  SwI X ((cur.set (p+i) x).set (q+i) y) p q (i+1):=by
 obtain⟨h1,h2⟩:=h;refine⟨by simp[h1],fun j=>?_⟩;rw[List.getElem?_set,List.length_set,h1,List.getElem?_set,h1,h2 j];by_cases a:q+i=j
 ·subst a;rw[QWJ rfl,QWJ (by omega),QWu (by omega),QWJ (by omega),show p+(q+i-q)=p+i by omega,hy]
 ·rw[QWu a];by_cases b:p+i=j
  ·subst b;rw[QWJ rfl,QWJ (by omega),QWJ (by omega),show q+(p+i-p)=q+i by omega,hx]
  ·rw[QWu b]
   repeat' split
   all_goals first|rfl|(exfalso;omega)|(congr 1;omega)

theorem SwI.done {P A M B S cur:List AV}(h:SwI (P++A++M++B++S) cur P.length (P.length+A.length+M.length) A.length)(hAB:A.length=B.length):cur=P++B++M++A++S:=by
 apply List.ext_getElem?
 intro j;rw[h.2 j];simp only[List.getElem?_append,QWS]
 repeat' split
 all_goals first|rfl|(exfalso;omega)|(congr 1;omega)

def SwS (cz:Nat)(m:Qn)(lv s g N p q n:Nat)(X:List AV)(k:Nat)(st:St):Prop :=
 ∃f i cur,st=⟨f,[Qd]++Am.put m lv s (.vec g cz cur),[]⟩∧k=n-i∧i≤n∧SwI X cur p q i∧
  f 0=.vec (lv+1) s g 0 N false∧f 1=.int .i64 (p:Nat)∧f 2=.int .i64 (q:Nat)∧f 3=.int .i64 (n:Nat)∧f 10=.int .i64 (i:Nat)

include hC hcz in
theorem QQT (cmp:AV)(lv s g:Nat)(P A M B S:List AV)(m:Qn)(hl:Am.Qf m lv s=.vec g cz (P++A++M++B++S))(hAB:A.length=B.length)(he:∀x∈P++A++M++B++S,Ez E cz x)
  (hn:(P++A++M++B++S).length<4611686018427387904) :
  Qh Pg sr [.vec lv s g 0 (P++A++M++B++S).length false,.int .i64 (P.length:Nat),.int .i64 ((P.length+A.length+M.length:Nat):Int),.int .i64 (A.length:Nat),cmp] m
   (fun x m1=>x=.tup []∧m1=Am.put m lv s (.vec g cz (P++B++M++A++S))):=by
 have _:=hC;have _:=hcz;have hlv:lv<m.length:=QZ (by rw[hl];simp);have hlen:(P++A++M++B++S).length=P.length+A.length+M.length+B.length+S.length:=by simp only[QWS]
 refine hC.csr.go (by simp) ?_;simp only[TK,rsr,osr,Qa,seval];have h0:m=Am.put m lv s (.vec g cz (P++A++M++B++S)):=(Jm hl).symm;generalize hX:P++A++M++B++S=X at *;generalize hp:P.length=p at *;generalize hq:p+A.length+M.length=q at *;generalize hnn:A.length=n at *;refine Qc (SwS cz m lv s g X.length p q n X) _ ⟨_,0,X,by rw[←h0]<;>rfl,rfl,QWo _,⟨rfl,fun j=>?_⟩,by simp only[Qa,seval],by simp only[Qa,seval],by simp only[Qa,seval],by simp only[Qa,seval],by simp only[Qa,seval]<;>rfl⟩ ?_
 ·rw[QWu (by omega),QWu (by omega)]
 rintro k st ⟨f,i,cur,rfl,rfl,hi,hsw,f0,f1,f2,f3,f10⟩;simp only[TO,TL,TM,TN,f3,f10,Qa,seval];by_cases hlt:i<n
 ·have d0:decide ((i:Int)<(n:Int))=true:=by simp;omega
  have e1:IntKind.i64.wrap ((p:Int)+(i:Int))=((p+i:Nat):Int):=by rw[QC];omega
  have e2:IntKind.i64.wrap ((q:Int)+(i:Int))=((q+i:Nat):Int):=by rw[QC];omega
  have e3:IntKind.i64.wrap ((i:Int)+1)=((i+1:Nat):Int):=by rw[QC];omega
  obtain⟨x,hx⟩:∃x,X[q+i]? = some x:=⟨_,QWh (by omega)⟩;obtain⟨y,hy⟩:∃y,X[p+i]? = some y:=⟨_,QWh (by omega)⟩;have ex:=he x (QWt hx);have ey:=he y (QWt hy);have cx:cur[q+i]? = some x:=by rw[hsw.2,QWu (by omega),QWu (by omega),hx]
  have cy:cur[p+i]? = some y:=by rw[hsw.2,QWu (by omega),QWu (by omega),hy]
  have cx':(cur.set (p+i) x)[q+i]? = some x:=by rw[QYg (by omega),cx]
  simp only[d0,e1,e2,e3,f0,f1,f2,f10,KZ hlv (show q+i<X.length by omega),KZ hlv (show p+i<X.length by omega),KY hlv cx ex,KY hlv cy ey,ex.len,ey.len,ex.leaf,ey.leaf,Uu hlv cy ey ex hcz,Uu hlv cx' ex ey hcz,Qa,seval];exact⟨n-(i+1),by omega,_,i+1,_,rfl,rfl,by omega,hsw.step hlt (by omega) (by omega) hx hy,by simp only[f0,Qa,seval],by simp only[f1,Qa,seval],by simp only[f2,Qa,seval],by simp only[f3,Qa,seval],by simp only[Qa,seval]⟩
 ·have d0:decide ((i:Int)<(n:Int))=false:=by simp;omega
  have hin:i=n:=by omega
  subst hin;have hc:=SwI.done (P:=P) (A:=A) (M:=M) (B:=B) (S:=S) (cur:=cur) (by rw[hX,hp,hnn,hq];exact hsw) (by omega);simp only[d0,hc,put_len,Qa,seval]

include hC hcz in
theorem DH (cmp:AV){fr:Nat→Ob}{lv s g N a b n:Nat}(P A M B S:List AV){m:Qn}(hlv:lv<m.length)(hAB:A.length=B.length)(he:∀x∈P++A++M++B++S,Ez E cz x)
  (hn:(P++A++M++B++S).length<4611686018427387904) (hN:N=(P++A++M++B++S).length) (ha:a=P.length) (hb:b=P.length+A.length+M.length) (hc:n=A.length) :
  Qh Pg sr [.vec (lv+1) s g 0 N false,.int .i64 (a:Nat),.int .i64 (b:Nat),.int .i64 (n:Nat),cmp] (fr :: Am.put m lv s (.vec g cz (P++A++M++B++S)))
   (fun x m1=>x=.tup []∧m1=fr :: Am.put m lv s (.vec g cz (P++B++M++A++S))):=by
 have _:=hC;have _:=hcz;subst hN ha hb hc;refine(QQT hC hcz cmp (lv+1) s g P A M B S (fr :: Am.put m lv s (.vec g cz (P++A++M++B++S))) (Qy (m:=m) hlv) hAB he hn).mono fun x m1 h=>⟨h.1,?_⟩
 rw[h.2];simp only[Am.put,Wf]

def RoS (cz:Nat)(E:AV→Prop)(m:Qn)(lv s g N mid:Nat)(T:List AV)(cmp:AV)(k:Nat)(st:St):Prop :=
 ∃f P A B S,st=⟨f,[Qd]++Am.put m lv s (.vec g cz (P++A++B++S)),[]⟩∧k=A.length+B.length∧0<A.length∧0<B.length∧P.length+A.length=mid∧P++B++A++S=T∧(P++A++B++S).length=N∧(∀x∈P++A++B++S,Ez E cz x)∧
  f 0=.vec (lv+1) s g 0 N false∧f 2=.int .i64 (mid:Nat)∧f 4=cmp∧f 10=.int .i64 (A.length:Nat)∧f 11=.int .i64 (B.length:Nat)

include hC hcz in
theorem QQU (cmp:AV)(lv s g:Nat)(P X Y S:List AV)(m:Qn)(hl:Am.Qf m lv s=.vec g cz (P++X++Y++S))(hX:0<X.length)(hY:0<Y.length)(he:∀x∈P++X++Y++S,Ez E cz x)
  (hn:(P++X++Y++S).length<4611686018427387904) :
  Qh Pg ro [.vec lv s g 0 (P++X++Y++S).length false,.int .i64 (P.length:Nat),.int .i64 ((P.length+X.length:Nat):Int),.int .i64 ((P.length+X.length+Y.length:Nat):Int),cmp] m
   (fun x m1=>x=.tup []∧m1=Am.put m lv s (.vec g cz (P++Y++X++S))):=by
 have _:=hC;have _:=hcz;have hlv:lv<m.length:=QZ (by rw[hl];simp);have hlen:(P++X++Y++S).length=P.length+X.length+Y.length+S.length:=by simp only[QWS]
 refine hC.cro.go (by simp) ?_;have e1:IntKind.i64.wrap (((P.length+X.length:Nat):Int)-(P.length:Int))=((X.length:Nat):Int):=by rw[QC];omega
 have e2:IntKind.i64.wrap (((P.length+X.length+Y.length:Nat):Int)-((P.length+X.length:Nat):Int))=((Y.length:Nat):Int):=by rw[QC];omega
 simp only[TP,TQ,TY,rro,oro,e1,e2,Qa,seval];have h0:m=Am.put m lv s (.vec g cz (P++X++Y++S)):=(Jm hl).symm;refine Qc (RoS cz E m lv s g (P++X++Y++S).length (P.length+X.length) (P++Y++X++S) cmp.sh) _ ⟨_,P,X,Y,S,by rw[←h0]<;>rfl,rfl,hX,hY,rfl,rfl,rfl,he,by simp only[Qa,seval],by simp only[Qa,seval],by simp only[Qa,seval],by simp only[Qa,seval],by simp only[Qa,seval]⟩ ?_;generalize hT:P++Y++X++S=T;generalize hN:(P++X++Y++S).length=N at *;generalize hmid:P.length+X.length=mid at *;clear hl he h0 hX hY e1 e2;rintro k st ⟨f,P',A,B,S',rfl,rfl,hA,hB,hm,hTT,hNN,hee,f0,f2,f4,f10,f11⟩;have hlen':(P'++A++B++S').length=P'.length+A.length+B.length+S'.length:=by simp only[QWS]
 simp only[TX,TR,TS,TT,TU,TV,TW,f10,f11,Qa,seval];by_cases hij:A.length=B.length
 ·have d0:((A.length:Int) != (B.length:Int))=false:=by simp;omega
  have e1:IntKind.i64.wrap ((mid:Int)-(A.length:Int))=((P'.length:Nat):Int):=by rw[QC];omega
  simp only[d0,e1,f0,f2,f4,f10,Qa,seval];have hc:=DH hC hcz cmp.sh (fr:=Qd) (g:=g) (s:=s) (N:=N) (a:=P'.length) (b:=mid) (n:=A.length) P' A [] B S' hlv hij (by simpa using hee) (by simp only[QXj];omega) (by simp only[QXj];omega) rfl (by simp only[QXc];omega) rfl;simp only[QXj]at hc;refine Qj hc rfl ?_;simp only[hTT,put_len,Qa,seval]
 ·have d0:((A.length:Int) != (B.length:Int))=true:=by simp;omega
  simp only[d0,f10,f11,Qa,seval];by_cases hgt:B.length<A.length
  ·have d1:decide ((A.length:Int) > (B.length:Int))=true:=by simp;omega
   have e1:IntKind.i64.wrap ((mid:Int)-(A.length:Int))=((P'.length:Nat):Int):=by rw[QC];omega
   have e2:IntKind.i64.wrap ((A.length:Int)-(B.length:Int))=((A.length-B.length:Nat):Int):=by rw[QC];omega
   simp only[d1,e1,f0,f2,f4,f10,f11,Qa,seval];have hcut:P'++A++B++S'=P'++A.take B.length++A.drop B.length++B++S':=by
    rw[QWB P' (A.take _),QXx]
   have hl1:(A.take B.length).length=B.length:=by simp;omega
   rw[hcut]at hee hNN ⊢;refine Qj (DH hC hcz cmp.sh (a:=P'.length) (b:=mid) (n:=B.length) P' (A.take B.length) (A.drop B.length) B S' hlv hl1 hee (by omega) hNN.symm rfl (by rw[hl1];simp;omega) hl1.symm) rfl ?_;simp only[e2,f10,f11,Qa,seval];have hcat:P'++B++A.drop B.length++A.take B.length++S'=(P'++B)++A.drop B.length++A.take B.length++S':=rfl;refine⟨(A.drop B.length).length+(A.take B.length).length,?_,_,P'++B,A.drop B.length,A.take B.length,S',rfl,rfl,by simp;omega,by omega,by simp;omega,?_,?_,?_,by simp only[f0,Qa,seval],by simp only[f2,Qa,seval],by simp only[f4,Qa,seval],by simp only[QWV,Qa,seval],by simp only[f11,hl1,Qa,seval]⟩
   ·simp;omega
   ·rw[←hTT];simp only[QWB];rw[←QWB (A.take _),QXx]
   ·rw[←hNN];simp only[QWS];omega
   ·intro x hx;refine hee x ?_;simp only[QXz]at hx ⊢
    grind
  ·have d1:decide ((A.length:Int) > (B.length:Int))=false:=by simp;omega
   have e1:IntKind.i64.wrap ((mid:Int)-(A.length:Int))=((P'.length:Nat):Int):=by rw[QC];omega
   have e2:IntKind.i64.wrap ((B.length:Int)-(A.length:Int))=((B.length-A.length:Nat):Int):=by rw[QC];omega
   have e3:IntKind.i64.wrap ((mid:Int)+(B.length:Int))=((mid+B.length:Nat):Int):=by rw[QC];omega
   have e4:IntKind.i64.wrap (((mid+B.length:Nat):Int)-(A.length:Int))=((mid+B.length-A.length:Nat):Int):=by rw[QC];omega
   simp only[d1,e1,e3,e4,f0,f2,f4,f10,f11,Qa,seval];have hcut:P'++A++B++S'=P'++A++B.take (B.length-A.length)++B.drop (B.length-A.length)++S':=by
    rw[QWB (P'++A) (B.take _),QXx]
   have hl1:(B.take (B.length-A.length)).length=B.length-A.length:=by simp
   have hl2:(B.drop (B.length-A.length)).length=A.length:=by simp;omega
   rw[hcut]at hee hNN ⊢;refine Qj (DH hC hcz cmp.sh (a:=P'.length) (b:=mid+B.length-A.length) (n:=A.length) P' A (B.take (B.length-A.length)) (B.drop (B.length-A.length)) S' hlv hl2.symm hee (by omega) hNN.symm rfl (by rw[hl1];omega) rfl) rfl ?_;simp only[e2,f10,f11,Qa,seval];refine⟨(B.drop (B.length-A.length)).length+(B.take (B.length-A.length)).length,?_,_,P',B.drop (B.length-A.length),B.take (B.length-A.length),A++S',by simp only[QWB]<;>rfl,rfl,by omega,by omega,by omega,?_,?_,?_,by simp only[f0,Qa,seval],by simp only[f2,Qa,seval],by simp only[f4,Qa,seval],by simp only[f10,hl2,Qa,seval],by simp only[hl1,Qa,seval]⟩
   ·omega
   ·rw[←hTT];simp only[QWB];rw[←QWB (B.take _),QXx]
   ·rw[←hNN];simp only[QWS];omega
   ·intro x hx;refine hee x ?_;simp only[QXz]at hx ⊢
    grind

end Go.Proofs.YtdhlbgejhcejcaaGreatDoor.Tz

namespace Go.Proofs.YtdhlbgejhcejcaaGreatDoor.Tz
open Go Am Bt Tg So
variable {Pg:Program}{cz sr ro sm is st ss:Nat}(hC:Tg.Cs Pg cz sr ro sm is st ss)(hcz:cz≠0)

variable {E:AV→Prop}

def lt (c:AV→AV→Int)(x y:AV):Bool:=decide (c x y<0)

structure Cp (Pg:Program)(cz:Nat)(E:AV→Prop)(kc:Nat)(c:AV→AV→Int):Prop where
 call:∀x y,Ez E cz x→Ez E cz y→Qi Pg kc [x,y] (.int .i64 (c x y))
 sw:SW (lt c)

def InS (cz:Nat)(m:Qn)(lv s g N i p:Nat)(kc:Nat)(c:AV→AV→Int)(P L S:List AV)(x:AV)(k:Nat)(st:St):Prop :=
 ∃f U V,st=⟨f,[Qd]++Am.put m lv s (.vec g cz (P++U++[x]++V++S)),[]⟩∧k=U.length∧U++V=L∧(∀v∈V,lt c x v=true)∧
  f 0=.vec (lv+1) s g 0 N false∧f 1=.int .i64 (P.length:Nat)∧f 2=.int .i64 (p:Nat)∧f 3=.fn (.func kc) [] []∧f 8=.int .i64 (i:Nat)∧f 9=.int .i64 ((P.length+U.length:Nat):Int)

def IoS (cz:Nat)(m:Qn)(lv s g N:Nat)(kc:Nat)(c:AV→AV→Int)(P X S:List AV)(k:Nat)(st:St):Prop :=
 ∃f i,st=⟨f,[Qd]++Am.put m lv s (.vec g cz (P++QD (lt c) (X.take i)++X.drop i++S)),[]⟩∧k=X.length+1-i∧1≤i∧(i≤X.length∨(i=1∧X=[]))∧
  f 0=.vec (lv+1) s g 0 N false∧f 1=.int .i64 (P.length:Nat)∧f 2=.int .i64 ((P.length+X.length:Nat):Int)∧f 3=.fn (.func kc) [] []∧f 8=.int .i64 ((P.length+i:Nat):Int)

theorem CI {α:Type}(U:List α)(h:0<U.length):∃W u,U=W++[u]:=by
 rcases List.eq_nil_or_concat U with rfl|⟨W,u,e⟩
 ·simp at h
 ·exact⟨W,u,by simpa using e⟩

theorem Uv {α:Type}{P W V:List α}{u:α}{i:Nat}(h:i=P.length+W.length):(P++(W++[u])++V)[i]? = some u:=by
 subst h;simp

include hC hcz in
theorem QQV {kc:Nat}{c:AV→AV→Int}(hc:Cp Pg cz E kc c)(lv s g:Nat)(P X S:List AV)(m:Qn)(hl:Am.Qf m lv s=.vec g cz (P++X++S))(he:∀x∈P++X++S,Ez E cz x)
  (hn:(P++X++S).length<4611686018427387904) :
  Qh Pg is [.vec lv s g 0 (P++X++S).length false,.int .i64 (P.length:Nat),.int .i64 ((P.length+X.length:Nat):Int),.fn (.func kc) [] []] m
   (fun x m1=>x=.tup []∧m1=Am.put m lv s (.vec g cz (P++QD (lt c) X++S))):=by
 have _:=hC;have _:=hcz;have hlv:lv<m.length:=QZ (by rw[hl];simp);have hlen:(P++X++S).length=P.length+X.length+S.length:=by simp only[QWS]
 refine hC.cis.go (by simp) ?_;have e1:IntKind.i64.wrap ((P.length:Int)+1)=((P.length+1:Nat):Int):=by rw[QC];omega
 simp only[T8,ris,ois,e1,Qa,seval];have h0:m=Am.put m lv s (.vec g cz (P++QD (lt c) (X.take 1)++X.drop 1++S)):=by
  have:P++QD (lt c) (X.take 1)++X.drop 1++S=P++X++S:=by
   cases X with
   |nil=>simp[QD]
   |cons x X=>simp[QD,ZB]
  rw[this];exact(Jm hl).symm
 generalize hN:(P++X++S).length=N at *;refine Qc (IoS cz m lv s g N kc c P X S) _ ⟨_,1,by rw[←h0]<;>rfl,rfl,QWe _,by
  cases X with
  |nil=>exact .inr ⟨rfl,rfl⟩
  |cons x X=>exact .inl (by simp),by simp only[Qa,seval],by simp only[Qa,seval],by simp only[Qa,seval],by simp only[Qa,seval],by simp only[Qa,seval]⟩ ?_
 clear h0 e1;rintro k st ⟨f,i,rfl,rfl,hi1,hi2,f0,f1,f2,f3,f8⟩;simp only[Ae,Ag,T9,Aa,Ab,Ac,Ad,Af,f2,f8,Qa,seval];by_cases hlt:i<X.length
 ·have d0:decide (((P.length+i:Nat):Int)<((P.length+X.length:Nat):Int))=true:=by simp only[QWl];omega
  simp only[d0,f8,Qa,seval];obtain⟨x,hx⟩:∃x,X[i]? = some x:=⟨_,QWh hlt⟩;have ex:Ez E cz x:=he x (by simp[QWt hx]);have hL:(QD (lt c) (X.take i)).length=i:=by rw[Jk,QXd];omega
  have heL:∀z∈QD (lt c) (X.take i),Ez E cz z:=fun z hz=>he z (by simp[QW3 (Uq hz)])
  have hdrop:X.drop i=[x]++X.drop (i+1):=by
   rw[List.singleton_append,QWY hlt];congr 1
   exact(QWg.1 hx).2
  have htake:QD (lt c) (X.take (i+1))=mg (lt c) (QD (lt c) (X.take i)) [x]:=by
   rw[QX0,hx,QX1,←Ws hc.sw]<;>rfl
  refine Qc (InS cz m lv s g N (P.length+i) (P.length+X.length) kc c P (QD (lt c) (X.take i)) (X.drop (i+1)++S) x) _ ⟨_,QD (lt c) (X.take i),[],by rw[hdrop];simp only[QWB,QXj]<;>rfl,rfl,QXj _,by simp,by simp only[f0,Qa,seval],by simp only[f1,Qa,seval],by simp only[f2,Qa,seval],by simp only[f3,Qa,seval],by simp only[f8,Qa,seval],by simp only[hL,Qa,seval]⟩ ?_;rintro k' st ⟨f,U,V,rfl,rfl,hUV,hV,f0,f1,f2,f3,f8,f9⟩;have hUVl:U.length+V.length=i:=by rw[←QWS,hUV,hL]
  have hrow:(P++U++[x]++V++(X.drop (i+1)++S)).length=N:=by
   rw[←hN];simp only[QWS,QWV,QXN];omega
  simp only[f1,f9,Qa,seval];have e4:IntKind.i64.wrap (((P.length+i:Nat):Int)+1)=((P.length+(i+1):Nat):Int):=by rw[QC];omega
  have fin:(∀u∈U,lt c x u=false)→P++U++[x]++V++(X.drop (i+1)++S)=P++QD (lt c) (X.take (i+1))++X.drop (i+1)++S:=by
   intro h;rw[htake,←hUV,YF h hV];simp
  by_cases hU:0<U.length
  ·obtain⟨W,u,rfl⟩:=CI U hU;simp only[QWS,QXN]at hUVl hrow f9;have d1:decide (((P.length+(W.length+1):Nat):Int) > (P.length:Int))=true:=by simp only[QWl];omega
   have e2:IntKind.i64.wrap (((P.length+(W.length+1):Nat):Int)-1)=((P.length+W.length:Nat):Int):=by rw[QC];omega
   have eu:Ez E cz u:=heL u (by rw[←hUV];simp);have hx1:(P++(W++[u])++[x]++V++(X.drop (i+1)++S))[P.length+(W.length+1)]? = some x:=by
    have:=Uv (P:=P) (W:=W++[u]) (u:=x) (V:=V++(X.drop (i+1)++S)) (i:=P.length+(W.length+1)) (by simp)
    simpa only [QWB]using this
   have hu1:(P++(W++[u])++[x]++V++(X.drop (i+1)++S))[P.length+W.length]? = some u:=by
    have:=Uv (P:=P) (W:=W) (u:=u) (V:=[x]++V++(X.drop (i+1)++S)) (i:=P.length+W.length) rfl
    simpa only [QWB]using this
   simp only[d1,e2,f0,f3,f9,QWS,KZ hlv (show P.length+(W.length+1)<N by omega),KZ hlv (show P.length+W.length<N by omega),KY hlv hx1 ex,KY hlv hu1 eu,Qa,seval];refine K8 (by simp only[Qa,seval]) (hc.call x u ex eu) (WU ex eu _) (KQ ex eu) rfl (.inl (KQ ex eu)) ?_;cases hcx:decide (c x u<0)with
   |true=>
    have hset:((P++(W++[u])++[x]++V++(X.drop (i+1)++S)).set (P.length+(W.length+1)) u).set (P.length+W.length) x=P++W++[x]++([u]++V)++(X.drop (i+1)++S):=by
     simp[QWB]
    have hx2:((P++(W++[u])++[x]++V++(X.drop (i+1)++S)).set (P.length+(W.length+1)) u)[P.length+W.length]? = some u:=by
     rw[QYg (by omega),hu1]
    simp only[hcx,e2,f0,f9,KZ hlv (show P.length+(W.length+1)<N by omega),KZ hlv (show P.length+W.length<N by omega),KY hlv hx1 ex,KY hlv hu1 eu,ex.len,eu.len,ex.leaf,eu.leaf,Uu hlv hx1 ex eu hcz,Uu hlv hx2 eu ex hcz,Qa,seval];exact⟨W.length,by simp,_,W,[u]++V,by rw[hset]<;>rfl,rfl,by rw[←hUV];simp,by
     intro v hv;rcases QXz.1 hv with hv|hv
     ·rw[QYi.1 hv];exact hcx
     ·exact hV v hv,by simp only[f0,Qa,seval],by simp only[f1,Qa,seval],by simp only[f2,Qa,seval],by simp only[f3,Qa,seval],by simp only[f8,Qa,seval],by simp only[Qa,seval]⟩
   |false=>
    have hz:∀z∈W++[u],lt c x z=false:=by
     have hsrt:=XS hc.sw (X.take i);have hsrt:X6 (lt c) ((W++[u])++V):=by rw[hUV];exact hsrt
     have hs2:=(List.pairwise_append.1 (List.pairwise_append.1 hsrt).1).2.2;intro z hz;rcases QXz.1 hz with hz|hz
     ·exact hc.sw.nt x u z hcx (hs2 z hz u (by simp))
     ·rw[QYi.1 hz];exact hcx
    simp only[hcx,f8,e4,Qa,seval];exact⟨X.length+1-(i+1),by omega,_,i+1,by rw[fin hz]<;>rfl,rfl,by omega,.inl (by omega),by simp only[f0,Qa,seval],by simp only[f1,Qa,seval],by simp only[f2,Qa,seval],by simp only[f3,Qa,seval],by simp only[Qa,seval]⟩
  ·have hU0:U=[]:=QXl (by omega);subst hU0;have d1:decide (((P.length+0:Nat):Int) > (P.length:Int))=false:=by simp
   have fin0:=fin (by simp);simp only[QXj]at fin0;simp only[QXc]at f9;simp only[d1,f8,e4,QXc,Qa,seval];exact⟨X.length+1-(i+1),by omega,_,i+1,by rw[fin0]<;>rfl,rfl,by omega,.inl (by omega),by simp only[f0,Qa,seval],by simp only[f1,Qa,seval],by simp only[f2,Qa,seval],by simp only[f3,Qa,seval],by simp only[Qa,seval]⟩
 ·have d0:decide (((P.length+i:Nat):Int)<((P.length+X.length:Nat):Int))=false:=by simp only[QYb];omega
  have hX:QD (lt c) (X.take i)++X.drop i=QD (lt c) X:=by
   rcases hi2 with h|⟨_,rfl⟩
   ·rw[QWO (by omega),QWR (by omega),QXj]
   ·simp[QD]
  have hX2:P++QD (lt c) (X.take i)++X.drop i++S=P++QD (lt c) X++S:=by rw[QWB P (QD (lt c) (X.take i)) (X.drop i),hX]
  simp only[d0,hX2,put_len,Qa,seval]

end Go.Proofs.YtdhlbgejhcejcaaGreatDoor.Tz

namespace Go.Proofs.YtdhlbgejhcejcaaGreatDoor.Tz
open Go Am Bt Tg So
variable {Pg:Program}{cz sr ro sm is st ss:Nat}(hC:Tg.Cs Pg cz sr ro sm is st ss)(hcz:cz≠0)

variable {E:AV→Prop}

theorem CJ (a b:Nat)(h:a+b<9223372036854775808):IntKind.i64.wrap ((IntKind.u64.wrap ((a+b:Nat):Int)).fdiv (2 ^ min 1 64))=(((a+b) / 2:Nat):Int):=by
 rw[QC,ZS,show min 1 64=1 from rfl,show(2:Int) ^ 1=2 from rfl];have:(((a+b:Nat):Int) % 18446744073709551616)=((a+b:Nat):Int):=by omega
 rw[this,QYp _ (by omega)];omega

def SaS (cz:Nat)(m:Qn)(lv s g N:Nat)(kc:Nat)(c:AV→AV→Int)(P Y S:List AV)(x:AV)(k:Nat)(st:St):Prop :=
 ∃f i j,st=⟨f,[Qd]++Am.put m lv s (.vec g cz (P++[x]++Y++S)),[]⟩∧k=j-i∧i≤j∧j≤Y.length∧(∀k y,k<i→Y[k]? = some y→lt c y x=true)∧(∀k y,j≤k→Y[k]? = some y→lt c y x=false)∧
  f 0=.vec (lv+1) s g 0 N false∧f 1=.int .i64 (P.length:Nat)∧f 4=.fn (.func kc) [] []∧f 10=.int .i64 ((P.length+1+i:Nat):Int)∧f 11=.int .i64 ((P.length+1+j:Nat):Int)

def SaT (cz:Nat)(m:Qn)(lv s g N i:Nat)(P Y S:List AV)(x:AV)(k:Nat)(st:St):Prop :=
 ∃f t,st=⟨f,[Qd]++Am.put m lv s (.vec g cz (P++Y.take t++[x]++Y.drop t++S)),[]⟩∧k=i-t∧t≤i∧
  f 0=.vec (lv+1) s g 0 N false∧f 10=.int .i64 ((P.length+1+i:Nat):Int)∧f 13=.int .i64 ((P.length+t:Nat):Int)

include hC hcz in
theorem QQW {kc:Nat}{c:AV→AV→Int}(hc:Cp Pg cz E kc c)(lv s g:Nat)(P:List AV)(x:AV)(Y S:List AV)(m:Qn)(hl:Am.Qf m lv s=.vec g cz (P++[x]++Y++S))(he:∀z∈P++[x]++Y++S,Ez E cz z)
  (hn:(P++[x]++Y++S).length<4611686018427387904) (hY:X6 (lt c) Y) :
  Qh Pg sm [.vec lv s g 0 (P++[x]++Y++S).length false,.int .i64 (P.length:Nat),.int .i64 ((P.length+1:Nat):Int),.int .i64 ((P.length+1+Y.length:Nat):Int),.fn (.func kc) [] []] m
   (fun v m1=>v=.tup []∧m1=Am.put m lv s (.vec g cz (P++mg (lt c) [x] Y++S))):=by
 have _:=hC;have _:=hcz;have hlv:lv<m.length:=QZ (by rw[hl];simp);have hlen:(P++[x]++Y++S).length=P.length+1+Y.length+S.length:=by simp only[QWS,QXN]
 have ex:Ez E cz x:=he x (by simp);have eY:∀y∈Y,Ez E cz y:=fun y hy=>he y (by simp[hy])
 refine hC.csm.go (by simp) ?_;have e1:IntKind.i64.wrap (((P.length+1:Nat):Int)-(P.length:Int))=1:=by rw[QC];omega
 simp only[FA,CD,CE,CF,GP,BT,BU,B1,GQ,GR,GS,GT,GU,GV,GW,GX,GY,Yh,Yi,Yj,Wu,Wv,Kh,Ki,T7,G7,e1,QXq,Qa,seval];have h0:m=Am.put m lv s (.vec g cz (P++[x]++Y++S)):=(Jm hl).symm;generalize hN:(P++[x]++Y++S).length=N at *;refine Qc (SaS cz m lv s g N kc c P Y S x) _ ⟨_,0,Y.length,by rw[←h0]<;>rfl,rfl,QWo _,QWe _,(by intro k y hk;exact absurd hk (Nat.not_lt_zero _)),(by intro k y hk hy;rw[QXF hk]at hy;cases hy),by simp only[Qa,seval],by simp only[Qa,seval],by simp only[Qa,seval],by simp only[QWL,Qa,seval],by simp only[Qa,seval]⟩ ?_;clear h0 e1;rintro k st ⟨f,i,j,rfl,rfl,hij,hj,hp,hq,f0,f1,f4,f10,f11⟩;simp only[T4,T6,CG,CH,G6,TZ,T0,T1,T2,T3,T5,PW,PX,BW,BX,BY,BZ,B0,B4,B5,B6,GZ,G0,G3,G4,G5,f10,f11,Qa,seval];by_cases hlt:i<j
 ·have d0:decide (((P.length+1+i:Nat):Int)<((P.length+1+j:Nat):Int))=true:=by simp only[QWl];omega
  have e2:IntKind.i64.wrap (((P.length+1+i:Nat):Int)+((P.length+1+j:Nat):Int))=(((P.length+1+i)+(P.length+1+j):Nat):Int):=by rw[QC];omega
  have e3:=CJ (P.length+1+i) (P.length+1+j) (by omega);have e4:((P.length+1+i)+(P.length+1+j)) / 2=P.length+1+(i+j) / 2:=by omega
  rw[e4]at e3;generalize hh:(i+j) / 2=h at *;have hh1:h<j:=by omega
  have hh2:i≤h:=by omega
  have e5:IntKind.i64.wrap (((P.length+1+h:Nat):Int)+1)=((P.length+1+(h+1):Nat):Int):=by rw[QC];omega
  obtain⟨y,hy⟩:∃y,Y[h]? = some y:=⟨_,QWh (by omega)⟩;have ey:=eY y (QWt hy);have gy:(P++[x]++Y++S)[P.length+1+h]? = some y:=by
   rw[QXG (by simp only[QWS,QXN];omega),QXH (by simp only[QWS,QXN];omega)];rw[←hy];congr 1;simp only[QWS,QXN];omega
  have gx:(P++[x]++Y++S)[P.length]? = some x:=by
   have:=Uv (P:=P) (W:=[]) (u:=x) (V:=Y++S) (i:=P.length) rfl
   simpa only [QWB,QWD]using this
  simp only[d0,e2,e3,f0,f1,f4,f10,f11,KZ hlv (show P.length+1+h<N by omega),KZ hlv (show P.length<N by omega),KY hlv gy ey,KY hlv gx ex,Qa,seval];refine K8 (by simp only[Qa,seval]) (hc.call y x ey ex) (WU ey ex _) (KQ ey ex) rfl (.inl (KQ ey ex)) ?_;cases hcx:decide (c y x<0)with
  |true=>
   simp only[hcx,e5,Qa,seval];exact⟨j-(h+1),by omega,_,h+1,j,rfl,rfl,by omega,hj,fun k z hk hz=>KC hc.sw hY (Nat.le_of_lt_succ hk) hz hy hcx,hq,by simp only[f0,Qa,seval],by simp only[f1,Qa,seval],by simp only[f4,Qa,seval],by simp only[Qa,seval],by simp only[f11,Qa,seval]⟩
  |false=>
   simp only[hcx,Qa,seval];exact⟨h-i,by omega,_,i,h,rfl,rfl,by omega,by omega,hp,fun k z hk hz=>by
    cases hb:lt c z x with
    |false=>rfl
    |true=>exact absurd (KC hc.sw hY hk hy hz hb) (by show ¬(decide _=true);rw[hcx];simp),by simp only[f0,Qa,seval],by simp only[f1,Qa,seval],by simp only[f4,Qa,seval],by simp only[f10,Qa,seval],by simp only[Qa,seval]⟩
 ·have d0:decide (((P.length+1+i:Nat):Int)<((P.length+1+j:Nat):Int))=false:=by simp only[QYb];omega
  have hij':j=i:=by omega
  subst hij';simp only[d0,f1,Qa,seval];have hres:mg (lt c) [x] Y=Y.take j++x :: Y.drop j:=by
   have:=Qag (lt:=lt c) (x:=x) (Y1:=Y.take j) (Y2:=Y.drop j) (fun y hy=>by
    obtain⟨k,hk⟩:=QYq hy;rw[QWT]at hk;split at hk
    ·rename_i h;exact hp k y h hk
    ·cases hk) (fun y hy=>by
    obtain⟨k,hk⟩:=QYq hy;rw[QWU]at hk;exact hq _ y (by omega) hk)
   rwa [QXx]at this
  refine Qc (SaT cz m lv s g N j P Y S x) _ ⟨_,0,by rw[show P++Y.take 0++[x]++Y.drop 0++S=P++[x]++Y++S by simp]<;>rfl,rfl,QWo _,by simp only[f0,Qa,seval],by simp only[f10,Qa,seval],by simp only[QWL,Qa,seval]⟩ ?_;clear f0 f1 f4 f10 f11 d0 hp hq f;rintro k st ⟨f,t,rfl,rfl,ht,f0,f10,f13⟩;have e6:IntKind.i64.wrap (((P.length+1+j:Nat):Int)-1)=((P.length+j:Nat):Int):=by rw[QC];omega
  have e7:IntKind.i64.wrap (((P.length+t:Nat):Int)+1)=((P.length+(t+1):Nat):Int):=by rw[QC];omega
  simp only[e6,f10,f13,Qa,seval];by_cases hlt:t<j
  ·have d0:decide (((P.length+t:Nat):Int)<((P.length+j:Nat):Int))=true:=by simp only[QWl];omega
   obtain⟨y,hy⟩:∃y,Y[t]? = some y:=⟨_,QWh (by omega)⟩;have ey:=eY y (QWt hy);have hdrop:Y.drop t=[y]++Y.drop (t+1):=by
    rw[List.singleton_append,QWY (by omega)];congr 1
    exact(QWg.1 hy).2
   have htake:Y.take (t+1)=Y.take t++[y]:=by rw[QX0,hy]<;>rfl
   have hlt':(Y.take t).length=t:=by rw[QXd];omega
   have g1:(P++Y.take t++[x]++Y.drop t++S)[P.length+t]? = some x:=by
    have:=Uv (P:=P) (W:=Y.take t) (u:=x) (V:=Y.drop t++S) (i:=P.length+t) (by rw[hlt'])
    simpa only [QWB]using this
   have g2:(P++Y.take t++[x]++Y.drop t++S)[P.length+(t+1)]? = some y:=by
    have:=Uv (P:=P) (W:=Y.take t++[x]) (u:=y) (V:=Y.drop (t+1)++S) (i:=P.length+(t+1)) (by rw[QWS,hlt']<;>rfl);rw[hdrop]
    simpa only [QWB]using this
   have g3:((P++Y.take t++[x]++Y.drop t++S).set (P.length+t) y)[P.length+(t+1)]? = some y:=by
    rw[QYg (by omega),g2]
   have hset:((P++Y.take t++[x]++Y.drop t++S).set (P.length+t) y).set (P.length+(t+1)) x=P++Y.take (t+1)++[x]++Y.drop (t+1)++S:=by
    rw[hdrop,htake];simp[hlt']
   simp only[d0,e7,f0,f13,KZ hlv (show P.length+(t+1)<N by omega),KZ hlv (show P.length+t<N by omega),KY hlv g1 ex,KY hlv g2 ey,ex.len,ey.len,ex.leaf,ey.leaf,Uu hlv g1 ex ey hcz,Uu hlv g3 ey ex hcz,Qa,seval];exact⟨j-(t+1),by omega,_,t+1,by rw[hset]<;>rfl,rfl,by omega,by simp only[f0,Qa,seval],by simp only[f10,Qa,seval],by simp only[Qa,seval]⟩
  ·have d0:decide (((P.length+t:Nat):Int)<((P.length+j:Nat):Int))=false:=by simp only[QYb];omega
   have htj:t=j:=by omega
   subst htj;have hfin:P++Y.take t++[x]++Y.drop t++S=P++mg (lt c) [x] Y++S:=by rw[hres];simp
   simp only[d0,hfin,put_len,Qa,seval]

end Go.Proofs.YtdhlbgejhcejcaaGreatDoor.Tz

namespace Go.Proofs.YtdhlbgejhcejcaaGreatDoor.Tz
open Go Am Bt Tg So
variable {Pg:Program}{cz sr ro sm is st ss:Nat}(hC:Tg.Cs Pg cz sr ro sm is st ss)(hcz:cz≠0)

variable {E:AV→Prop}

def SbS (cz:Nat)(m:Qn)(lv s g N:Nat)(kc:Nat)(c:AV→AV→Int)(P X S:List AV)(y:AV)(k:Nat)(st:St):Prop :=
 ∃f i j,st=⟨f,[Qd]++Am.put m lv s (.vec g cz (P++X++[y]++S)),[]⟩∧k=j-i∧i≤j∧j≤X.length∧(∀k x,k<i→X[k]? = some x→lt c y x=false)∧(∀k x,j≤k→X[k]? = some x→lt c y x=true)∧
  f 0=.vec (lv+1) s g 0 N false∧f 2=.int .i64 ((P.length+X.length:Nat):Int)∧f 4=.fn (.func kc) [] []∧f 14=.int .i64 ((P.length+i:Nat):Int)∧f 15=.int .i64 ((P.length+j:Nat):Int)

def SbT (cz:Nat)(m:Qn)(lv s g N i:Nat)(P X S:List AV)(y:AV)(k:Nat)(st:St):Prop :=
 ∃f t,st=⟨f,[Qd]++Am.put m lv s (.vec g cz (P++X.take t++[y]++X.drop t++S)),[]⟩∧k=t-i∧i≤t∧t≤X.length∧
  f 0=.vec (lv+1) s g 0 N false∧f 14=.int .i64 ((P.length+i:Nat):Int)∧f 17=.int .i64 ((P.length+t:Nat):Int)

include hC hcz in
theorem QQX {kc:Nat}{c:AV→AV→Int}(hc:Cp Pg cz E kc c)(lv s g:Nat)(P X:List AV)(y:AV)(S:List AV)(m:Qn)(hl:Am.Qf m lv s=.vec g cz (P++X++[y]++S))(he:∀x∈P++X++[y]++S,Ez E cz x)
  (hn:(P++X++[y]++S).length<4611686018427387904) (hX:X6 (lt c) X) (hX1:X.length≠1) :
  Qh Pg sm [.vec lv s g 0 (P++X++[y]++S).length false,.int .i64 (P.length:Nat),.int .i64 ((P.length+X.length:Nat):Int),.int .i64 ((P.length+X.length+1:Nat):Int),.fn (.func kc) [] []] m
   (fun v m1=>v=.tup []∧m1=Am.put m lv s (.vec g cz (P++mg (lt c) X [y]++S))):=by
 have _:=hC;have _:=hcz;have hlv:lv<m.length:=QZ (by rw[hl];simp);have hlen:(P++X++[y]++S).length=P.length+X.length+1+S.length:=by simp only[QWS,QXN]
 have ey:Ez E cz y:=he y (by simp);have eX:∀x∈X,Ez E cz x:=fun x hx=>he x (by simp[hx])
 refine hC.csm.go (by simp) ?_;have e1:(IntKind.i64.wrap (((P.length+X.length:Nat):Int)-(P.length:Int))==1)=false:=by rw[QC];simp only[QXY,ne_eq];omega
 have e2:(IntKind.i64.wrap (((P.length+X.length+1:Nat):Int)-((P.length+X.length:Nat):Int))==1)=true:=by rw[QC];simp only[QWm];omega
 simp only[FA,CD,CE,CF,GP,BT,BU,B1,GQ,GR,GS,GT,GU,GV,GW,GX,GY,Yh,Yi,Yj,Wu,Wv,Kh,Ki,T7,G7,e1,e2,Qa,seval];have h0:m=Am.put m lv s (.vec g cz (P++X++[y]++S)):=(Jm hl).symm;generalize hN:(P++X++[y]++S).length=N at *;refine Qc (SbS cz m lv s g N kc c P X S y) _ ⟨_,0,X.length,by rw[←h0]<;>rfl,rfl,QWo _,QWe _,(by intro k y hk;exact absurd hk (Nat.not_lt_zero _)),(by intro k y hk hy;rw[QXF hk]at hy;cases hy),by simp only[Qa,seval],by simp only[Qa,seval],by simp only[Qa,seval],by simp only[QWL,Qa,seval],by simp only[Qa,seval]⟩ ?_;clear h0 e1 e2;rintro k st ⟨f,i,j,rfl,rfl,hij,hj,hp,hq,f0,f2,f4,f14,f15⟩;simp only[CG,CH,G6,BW,BX,BY,BZ,B0,B4,B5,B6,GZ,G0,G3,G4,G5,f14,f15,Qa,seval];by_cases hlt:i<j
 ·have d0:decide (((P.length+i:Nat):Int)<((P.length+j:Nat):Int))=true:=by simp only[QWl];omega
  have e2:IntKind.i64.wrap (((P.length+i:Nat):Int)+((P.length+j:Nat):Int))=(((P.length+i)+(P.length+j):Nat):Int):=by rw[QC];omega
  have e3:=CJ (P.length+i) (P.length+j) (by omega);have e4:((P.length+i)+(P.length+j)) / 2=P.length+(i+j) / 2:=by omega
  rw[e4]at e3;generalize hh:(i+j) / 2=h at *;have hh1:h<j:=by omega
  have hh2:i≤h:=by omega
  have e5:IntKind.i64.wrap (((P.length+h:Nat):Int)+1)=((P.length+(h+1):Nat):Int):=by rw[QC];omega
  obtain⟨x,hx⟩:∃x,X[h]? = some x:=⟨_,QWh (by omega)⟩;have ex:=eX x (QWt hx);have gx:(P++X++[y]++S)[P.length+h]? = some x:=by
   rw[QWB,QWB,QXH (by omega),QXG (by omega),←hx];congr 1;omega
  have gy:(P++X++[y]++S)[P.length+X.length]? = some y:=by
   have:=Uv (P:=P) (W:=X) (u:=y) (V:=S) (i:=P.length+X.length) rfl
   simpa only [QWB]using this
  simp only[d0,e2,e3,f0,f2,f4,f14,f15,KZ hlv (show P.length+h<N by omega),KZ hlv (show P.length+X.length<N by omega),KY hlv gy ey,KY hlv gx ex,Qa,seval];refine K8 (by simp only[Qa,seval]) (hc.call y x ey ex) (WU ey ex _) (KQ ey ex) rfl (.inl (KQ ey ex)) ?_;cases hcx:decide (c y x<0)with
  |true=>
   simp only[hcx,Qa,seval];exact⟨h-i,by omega,_,i,h,rfl,rfl,by omega,by omega,hp,fun k z hk hz=>by
    have:=KP hX hc.sw hk hx hz;cases hb:lt c y z with
    |true=>rfl
    |false=>exact absurd (hc.sw.nt y z x hb this) (by show ¬(decide _=false);rw[hcx];simp),by simp only[f0,Qa,seval],by simp only[f2,Qa,seval],by simp only[f4,Qa,seval],by simp only[f14,Qa,seval],by simp only[Qa,seval]⟩
  |false=>
   simp only[hcx,e5,Qa,seval];exact⟨j-(h+1),by omega,_,h+1,j,rfl,rfl,by omega,hj,fun k z hk hz=>hc.sw.nt y x z hcx (KP hX hc.sw (Nat.le_of_lt_succ hk) hz hx),hq,by simp only[f0,Qa,seval],by simp only[f2,Qa,seval],by simp only[f4,Qa,seval],by simp only[Qa,seval],by simp only[f15,Qa,seval]⟩
 ·have d0:decide (((P.length+i:Nat):Int)<((P.length+j:Nat):Int))=false:=by simp only[QYb];omega
  have hij':j=i:=by omega
  subst hij';simp only[d0,f2,Qa,seval];have hres:mg (lt c) X [y]=X.take j++y :: X.drop j:=by
   have:=YF (lt:=lt c) (y:=y) (X1:=X.take j) (X2:=X.drop j) (fun x hx=>by
    obtain⟨k,hk⟩:=QYq hx;rw[QWT]at hk;split at hk
    ·rename_i h;exact hp k x h hk
    ·cases hk) (fun x hx=>by
    obtain⟨k,hk⟩:=QYq hx;rw[QWU]at hk;exact hq _ x (by omega) hk)
   rwa [QXx]at this
  refine Qc (SbT cz m lv s g N j P X S y) _ ⟨_,X.length,by rw[show P++X.take X.length++[y]++X.drop X.length++S=P++X++[y]++S by simp]<;>rfl,rfl,hj,QWe _,by simp only[f0,Qa,seval],by simp only[f14,Qa,seval],by simp only[Qa,seval]⟩ ?_;clear f0 f2 f4 f14 f15 d0 hp hq f;rintro k st ⟨f,t,rfl,rfl,ht,htl,f0,f14,f17⟩;simp only[f14,f17,Qa,seval];by_cases hlt:j<t
  ·have d0:decide (((P.length+t:Nat):Int) > ((P.length+j:Nat):Int))=true:=by simp only[QWl];omega
   obtain⟨r,rfl⟩:∃r,t=r+1:=⟨t-1,by omega⟩;have e7:IntKind.i64.wrap (((P.length+(r+1):Nat):Int)-1)=((P.length+r:Nat):Int):=by rw[QC];omega
   obtain⟨x,hx⟩:∃x,X[r]? = some x:=⟨_,QWh (by omega)⟩;have ex:=eX x (QWt hx);have hdrop:X.drop r=[x]++X.drop (r+1):=by
    rw[List.singleton_append,QWY (by omega)];congr 1
    exact(QWg.1 hx).2
   have htake:X.take (r+1)=X.take r++[x]:=by rw[QX0,hx]<;>rfl
   have hlt':(X.take r).length=r:=by rw[QXd];omega
   have g1:(P++X.take (r+1)++[y]++X.drop (r+1)++S)[P.length+r]? = some x:=by
    have:=Uv (P:=P) (W:=X.take r) (u:=x) (V:=[y]++X.drop (r+1)++S) (i:=P.length+r) (by rw[hlt']);rw[htake]
    simpa only [QWB]using this
   have g2:(P++X.take (r+1)++[y]++X.drop (r+1)++S)[P.length+(r+1)]? = some y:=by
    have:=Uv (P:=P) (W:=X.take (r+1)) (u:=y) (V:=X.drop (r+1)++S) (i:=P.length+(r+1)) (by rw[QXd];omega)
    simpa only [QWB]using this
   have g3:((P++X.take (r+1)++[y]++X.drop (r+1)++S).set (P.length+(r+1)) x)[P.length+r]? = some x:=by
    rw[QYg (by omega),g1]
   have hset:((P++X.take (r+1)++[y]++X.drop (r+1)++S).set (P.length+(r+1)) x).set (P.length+r) y=P++X.take r++[y]++X.drop r++S:=by
    rw[hdrop,htake];simp[hlt']
   simp only[d0,e7,f0,f17,KZ hlv (show P.length+(r+1)<N by omega),KZ hlv (show P.length+r<N by omega),KY hlv g1 ex,KY hlv g2 ey,ex.len,ey.len,ex.leaf,ey.leaf,Uu hlv g2 ey ex hcz,Uu hlv g3 ex ey hcz,Qa,seval];exact⟨r-j,by omega,_,r,by rw[hset]<;>rfl,rfl,by omega,by omega,by simp only[f0,Qa,seval],by simp only[f14,Qa,seval],by simp only[Qa,seval]⟩
  ·have d0:decide (((P.length+t:Nat):Int) > ((P.length+j:Nat):Int))=false:=by simp only[QYb];omega
   have htj:t=j:=by omega
   subst htj;have hfin:P++X.take t++[y]++X.drop t++S=P++mg (lt c) X [y]++S:=by rw[hres];simp
   simp only[d0,hfin,put_len,Qa,seval]

end Go.Proofs.YtdhlbgejhcejcaaGreatDoor.Tz

namespace Go.Proofs.YtdhlbgejhcejcaaGreatDoor.Tz
open Go Am Bt Tg So
variable {Pg:Program}{cz sr ro sm is st ss:Nat}(hC:Tg.Cs Pg cz sr ro sm is st ss)(hcz:cz≠0)

variable {E:AV→Prop}

include hC hcz in
theorem Qao (cmp:AV){fr:Nat→Ob}{lv s g N a b n:Nat}(P X Y S:List AV){m:Qn}(hlv:lv<m.length)(hX:0<X.length)(hY:0<Y.length)(he:∀x∈P++X++Y++S,Ez E cz x)
  (hn:(P++X++Y++S).length<4611686018427387904) (hN:N=(P++X++Y++S).length) (ha:a=P.length) (hb:b=P.length+X.length) (hc:n=P.length+X.length+Y.length) :
  Qh Pg ro [.vec (lv+1) s g 0 N false,.int .i64 (a:Nat),.int .i64 (b:Nat),.int .i64 (n:Nat),cmp] (fr :: Am.put m lv s (.vec g cz (P++X++Y++S)))
   (fun x m1=>x=.tup []∧m1=fr :: Am.put m lv s (.vec g cz (P++Y++X++S))):=by
 have _:=hC;have _:=hcz;subst hN ha hb hc;refine(QQU hC hcz cmp (lv+1) s g P X Y S (fr :: Am.put m lv s (.vec g cz (P++X++Y++S))) (Qy (m:=m) hlv) hX hY he hn).mono fun x m1 h=>⟨h.1,?_⟩
 rw[h.2];simp only[Am.put,Wf]

def UW (Pg:Program)(cz sm:Nat)(E:AV→Prop)(kc:Nat)(c:AV→AV→Int)(n:Nat):Prop :=
 ∀(lv s g:Nat) (P X Y S:List AV) (m:Qn),X.length+Y.length=n→0<X.length→0<Y.length→Am.Qf m lv s=.vec g cz (P++X++Y++S)→(∀x∈P++X++Y++S,Ez E cz x)→
  (P++X++Y++S).length<4611686018427387904→X6 (lt c) X→X6 (lt c) Y→
  Qh Pg sm [.vec lv s g 0 (P++X++Y++S).length false,.int .i64 (P.length:Nat),.int .i64 ((P.length+X.length:Nat):Int),.int .i64 ((P.length+X.length+Y.length:Nat):Int),.fn (.func kc) [] []] m
   (fun v m1=>v=.tup []∧m1=Am.put m lv s (.vec g cz (P++mg (lt c) X Y++S)))

include hC hcz in
theorem YM {kc:Nat}{c:AV→AV→Int}{n:Nat}(h:UW Pg cz sm E kc c n){fr:Nat→Ob}{lv s g N a b e:Nat}(P X Y S:List AV){m:Qn}(hlv:lv<m.length)(hXY:X.length+Y.length=n)(hX:0<X.length)(hY:0<Y.length)(he:∀x∈P++X++Y++S,Ez E cz x)
  (hn:(P++X++Y++S).length<4611686018427387904) (sX:X6 (lt c) X) (sY:X6 (lt c) Y) (hN:N=(P++X++Y++S).length) (ha:a=P.length) (hb:b=P.length+X.length) (hc:e=P.length+X.length+Y.length) :
  Qh Pg sm [.vec (lv+1) s g 0 N false,.int .i64 (a:Nat),.int .i64 (b:Nat),.int .i64 (e:Nat),.fn (.func kc) [] []] (fr :: Am.put m lv s (.vec g cz (P++X++Y++S)))
   (fun x m1=>x=.tup []∧m1=fr :: Am.put m lv s (.vec g cz (P++mg (lt c) X Y++S))):=by
 have _:=hC;have _:=hcz;subst hN ha hb hc;refine(h (lv+1) s g P X Y S (fr :: Am.put m lv s (.vec g cz (P++X++Y++S))) hXY hX hY (Qy (m:=m) hlv) he hn sX sY).mono fun x m1 h=>⟨h.1,?_⟩
 rw[h.2];simp only[Am.put,Wf]

def ScS (cz:Nat)(m:Qn)(lv s g N mid s0 r0:Nat)(kc:Nat)(c:AV→AV→Int)(P X Y S:List AV)(k:Nat)(st:St):Prop :=
 ∃f i j,st=⟨f,[Qd]++Am.put m lv s (.vec g cz (P++X++Y++S)),[]⟩∧k=j-i∧s0≤i∧i≤j∧j≤r0∧
  (∀k x y,s0≤k→k<i→X[k-P.length]? = some x→Y[mid-1-k]? = some y→lt c y x=false)∧(∀k x y,j≤k→k<r0→X[k-P.length]? = some x→Y[mid-1-k]? = some y→lt c y x=true)∧
  f 0=.vec (lv+1) s g 0 N false∧f 1=.int .i64 (P.length:Nat)∧f 2=.int .i64 ((P.length+X.length:Nat):Int)∧f 3=.int .i64 ((P.length+X.length+Y.length:Nat):Int)∧f 4=.fn (.func kc) [] []∧
  f 18=.int .i64 (mid:Nat)∧f 19=.int .i64 ((mid+(P.length+X.length):Nat):Int)∧f 22=.int .i64 ((mid+(P.length+X.length)-1:Nat):Int)∧f 20=.int .i64 (i:Nat)∧f 21=.int .i64 (j:Nat)

theorem Sf {c:AV→AV→Int}(hsw:SW (lt c)){X Y:List AV}{p mid t:Nat}{s0 r0:Nat}(sX:X6 (lt c) X)(sY:X6 (lt c) Y)(h1:s0≤t)(h2:t≤r0)(hp:p≤t)(htm:t≤mid)(hr:r0=mid∨r0=p+X.length)(hs:mid-s0≥Y.length∨s0=p)(hs2:mid-s0≤Y.length)(hr2:r0≤p+X.length)
  (hlow:∀k x y,s0≤k→k<t→X[k-p]? = some x→Y[mid-1-k]? = some y→lt c y x=false) (hhigh:∀k x y,t≤k→k<r0→X[k-p]? = some x→Y[mid-1-k]? = some y→lt c y x=true) :
  mg (lt c) X Y=mg (lt c) (X.take (t-p)) (Y.take (mid-t))++mg (lt c) (X.drop (t-p)) (Y.drop (mid-t)):=by
 have key:=Wt (lt:=lt c) _ (X.take (t-p)) (Y.take (mid-t)) (X.drop (t-p)) (Y.drop (mid-t)) rfl ?_ ?_
 ·rwa [QXx,QXx]at key
 ·intro y hy x hx;obtain⟨k,hk⟩:=QYq hy;obtain⟨l,hl⟩:=QYq hx;rw[QWT]at hk;split at hk
  ·rename_i hkt;rw[QWU]at hl;have hlX:t-p+l<X.length:=(QWg.1 hl).1;have hkY:k<Y.length:=(QWg.1 hk).1;have htr:t<r0:=by rcases hr with h|h<;>omega
   by_cases hY2:mid-1-t<Y.length
   ·obtain⟨x0,hx0⟩:∃x,X[t-p]? = some x:=⟨_,QWh (by omega)⟩;obtain⟨y0,hy0⟩:∃y,Y[mid-1-t]? = some y:=⟨_,QWh hY2⟩;have h0:=hhigh t x0 y0 (QWe _) htr hx0 hy0;have h3:=KC hsw sY (show k≤mid-1-t by omega) hk hy0 h0;have h4:=KP sX hsw (show t-p≤t-p+l by omega) hx0 hl;cases hb:lt c y x with
    |true=>rfl
    |false=>
     have:=hsw.nt y x x0 hb h4;rw[h3]at this;cases this
   ·exfalso;omega
  ·cases hk
 ·intro x hx y hy;obtain⟨k,hk⟩:=QYq hy;obtain⟨l,hl⟩:=QYq hx;rw[QWT]at hl;split at hl
  ·rename_i hlt;rw[QWU]at hk;have hkY:mid-t+k<Y.length:=(QWg.1 hk).1;have hlX:l<X.length:=(QWg.1 hl).1;have hst:s0<t:=by rcases hs with h|h<;>omega
   by_cases hX2:t-1-p<X.length
   ·obtain⟨x0,hx0⟩:∃x,X[t-1-p]? = some x:=⟨_,QWh hX2⟩;obtain⟨y0,hy0⟩:∃y,Y[mid-1-(t-1)]? = some y:=⟨_,QWh (by omega)⟩;have h0:=hlow (t-1) x0 y0 (by omega) (by omega) hx0 hy0;have h3:=KP sX hsw (show l≤t-1-p by omega) hl hx0;have h4:lt c y x0=false:=by
     cases hb:lt c y x0 with
     |false=>rfl
     |true=>
      have:=KC hsw sY (show mid-1-(t-1)≤mid-t+k by omega) hy0 hk hb;rw[h0]at this;cases this
    exact hsw.nt y x0 x h4 h3
   ·exfalso;omega
  ·cases hl

section
variable {kc:Nat}{c:AV→AV→Int}{nn lv s g N:Nat}{P X1 X2 Y1 Y2 S:List AV}{m:Qn}{f:Fr}

include hC hcz in
theorem QHR (ih:∀n,n<nn→UW Pg cz sm E kc c n)(hnn:X2.length+Y2.length<nn)(hlv:lv<m.length)(he:∀x∈P++X2++Y2++S,Ez E cz x)(hN:N=(P++X2++Y2++S).length)(hn:N<4611686018427387904)
  (sX:X6 (lt c) X2) (sY:X6 (lt c) Y2) (f0:f 0=.vec (lv+1) s g 0 N false) (f3:f 3=.int .i64 ((P.length+X2.length+Y2.length:Nat):Int)) (f4:f 4=.fn (.func kc) [] []) (f18:f 18=.int .i64 (P.length:Nat)) (f24:f 24=.int .i64 ((P.length+X2.length:Nat):Int)) :
  QG Pg (.seq (.reg (Kh cz sr ro sm is st)) (.cond (.t 213) (.reg (Ki cz sr ro sm is st)) (.skip))) ⟨f,Qd :: Am.put m lv s (.vec g cz (P++X2++Y2++S)),[]⟩
   (Zo G7 m.length (fun v m1=>v=.tup []∧m1=Am.put m lv s (.vec g cz (P++mg (lt c) X2 Y2++S)))):=by
 have _:=hC;have _:=hcz;simp only[Kh,Ki,G7,f18,f24,Qa,seval];by_cases h1:0<X2.length
 ·have d1:decide ((P.length:Int)<((P.length+X2.length:Nat):Int))=true:=by simp only[QWl];omega
  by_cases h2:0<Y2.length
  ·have d2:decide (((P.length+X2.length:Nat):Int)<((P.length+X2.length+Y2.length:Nat):Int))=true:=by simp only[QWl];omega
   simp only[d1,d2,f0,f3,f4,f18,f24,Qa,seval];refine Qj (YM hC hcz (ih _ hnn) P X2 Y2 S hlv rfl h1 h2 he (by omega) sX sY hN rfl rfl rfl) rfl ?_;simp only[put_len,Qa,seval]
  ·have d2:decide (((P.length+X2.length:Nat):Int)<((P.length+X2.length+Y2.length:Nat):Int))=false:=by simp only[QYb];omega
   have hy:Y2=[]:=QXl (by omega);have hfin:P++X2++Y2++S=P++mg (lt c) X2 Y2++S:=by rw[hy,Jj];simp
   simp only[d1,d2,f3,f24,hfin,put_len,Qa,seval]
 ·have d1:decide ((P.length:Int)<((P.length+X2.length:Nat):Int))=false:=by simp only[QYb];omega
  have hx:X2=[]:=QXl (by omega);have hfin:P++X2++Y2++S=P++mg (lt c) X2 Y2++S:=by rw[hx,ZW];simp
  simp only[d1,hfin,put_len,Qa,seval]

include hC hcz in
theorem QHS (ih:∀n,n<nn→UW Pg cz sm E kc c n)(hn1:X1.length+Y1.length<nn)(hn2:X2.length+Y2.length<nn)(hlv:lv<m.length)(he:∀x∈P++X1++Y1++(X2++Y2++S),Ez E cz x)(hN:N=(P++X1++Y1++(X2++Y2++S)).length)(hn:N<4611686018427387904)
  (sX1:X6 (lt c) X1) (sY1:X6 (lt c) Y1) (sX:X6 (lt c) X2) (sY:X6 (lt c) Y2) (f0:f 0=.vec (lv+1) s g 0 N false) (f1:f 1=.int .i64 (P.length:Nat)) (f3:f 3=.int .i64 ((P.length+X1.length+Y1.length+X2.length+Y2.length:Nat):Int)) (f4:f 4=.fn (.func kc) [] []) (f18:f 18=.int .i64 ((P.length+X1.length+Y1.length:Nat):Int)) (f20:f 20=.int .i64 ((P.length+X1.length:Nat):Int)) (f24:f 24=.int .i64 ((P.length+X1.length+Y1.length+X2.length:Nat):Int)) :
  QG Pg (.seq (.seq (.reg (Wu cz sr ro sm is st)) (.cond (.t 199) (.reg (Wv cz sr ro sm is st)) (.skip))) (.seq (.reg (Kh cz sr ro sm is st)) (.cond (.t 213) (.reg (Ki cz sr ro sm is st)) (.skip)))) ⟨f,Qd :: Am.put m lv s (.vec g cz (P++X1++Y1++(X2++Y2++S))),[]⟩
   (Zo G7 m.length (fun v m1=>v=.tup []∧m1=Am.put m lv s (.vec g cz (P++(mg (lt c) X1 Y1++mg (lt c) X2 Y2)++S)))):=by
 have _:=hC;have _:=hcz;have hlm:(mg (lt c) X1 Y1).length=X1.length+Y1.length:=Qwe _ _ _ rfl;have hlen:N=P.length+X1.length+Y1.length+X2.length+Y2.length+S.length:=by rw[hN];simp only[QWS];omega
 have hem:∀x∈P++mg (lt c) X1 Y1++X2++Y2++S,Ez E cz x:=by
  intro x hx;refine he x ?_;simp only[QXz]at hx ⊢;rcases hx with(((hx|hx)|hx)|hx)|hx
  ·exact .inl (.inl (.inl hx))
  ·exact(Qwf _ _ _ rfl hx).elim (fun h=>.inl (.inl (.inr h))) (fun h=>.inl (.inr h))
  ·exact .inr (.inl (.inl hx))
  ·exact .inr (.inl (.inr hx))
  ·exact .inr (.inr hx)
 have go:∀f:Fr,f 0=.vec (lv+1) s g 0 N false→f 3=.int .i64 ((P.length+X1.length+Y1.length+X2.length+Y2.length:Nat):Int)→f 4=.fn (.func kc) [] []→f 18=.int .i64 ((P.length+X1.length+Y1.length:Nat):Int)→f 24=.int .i64 ((P.length+X1.length+Y1.length+X2.length:Nat):Int)→
   QG Pg (.seq (.reg (Kh cz sr ro sm is st)) (.cond (.t 213) (.reg (Ki cz sr ro sm is st)) (.skip))) ⟨f,Qd :: Am.put m lv s (.vec g cz (P++mg (lt c) X1 Y1++(X2++Y2++S))),[]⟩
   (Zo G7 m.length (fun v m1=>v=.tup []∧m1=Am.put m lv s (.vec g cz (P++(mg (lt c) X1 Y1++mg (lt c) X2 Y2)++S)))):=by
  intro f f0 f3 f4 f18 f24;have hpl:(P++mg (lt c) X1 Y1).length=P.length+X1.length+Y1.length:=by rw[QWS,hlm];omega
  have:=QHR hC hcz (P:=P++mg (lt c) X1 Y1) (X2:=X2) (Y2:=Y2) (S:=S) (m:=m) (f:=f) (g:=g) (s:=s) ih hn2 hlv hem (by rw[hlen];simp only[QWS,hlm];omega) hn sX sY f0 (by rw[hpl];exact f3) f4 (by rw[hpl];exact f18) (by rw[hpl];exact f24);rw[show P++mg (lt c) X1 Y1++(X2++Y2++S)=P++mg (lt c) X1 Y1++X2++Y2++S by simp only[QWB],show P++(mg (lt c) X1 Y1++mg (lt c) X2 Y2)++S=P++mg (lt c) X1 Y1++mg (lt c) X2 Y2++S by simp only[QWB]];exact this
 rw[Yt,Yt];simp only[Wu,Wv,f1,f20,Ys,J7,ZH,J6,J8,Ha,Ue,Qq,QT,Q4,cond_true,cond_false,QW7,seval,Jc];by_cases h1:0<X1.length
 ·have d1:decide ((P.length:Int)<((P.length+X1.length:Nat):Int))=true:=by simp only[QWl];omega
  by_cases h2:0<Y1.length
  ·have d2:decide (((P.length+X1.length:Nat):Int)<((P.length+X1.length+Y1.length:Nat):Int))=true:=by simp only[QWl];omega
   simp only[d1,d2,f0,f1,f4,f18,f20,Ys,ZG,J5,J7,ZH,J6,J8,Ha,Kw,Ue,DW,KM,Yu,Qq,QT,Q4,cond_true,cond_false,QW7,seval,Jc];refine Qj (YM hC hcz (ih _ hn1) P X1 Y1 (X2++Y2++S) hlv rfl h1 h2 he (by omega) sX1 sY1 hN rfl rfl rfl) rfl ?_;rw[J5,ZG];refine go _ ?_ ?_ ?_ ?_ ?_
   ·simp only[f0,Qa,seval]
   ·simp only[f3,Qa,seval]
   ·simp only[f4,Qa,seval]
   ·simp only[f18,Qa,seval]
   ·simp only[f24,Qa,seval]
  ·have d2:decide (((P.length+X1.length:Nat):Int)<((P.length+X1.length+Y1.length:Nat):Int))=false:=by simp only[QYb];omega
   have hy:Y1=[]:=QXl (by omega);have hres:mg (lt c) X1 Y1=X1++Y1:=by rw[hy,Jj,QXj]
   rw[hres,←QWB P X1 Y1]at go;simp only[d1,d2,hres,f18,f20,ZG,J5,J7,ZH,J6,J8,Ha,Kw,Ue,DW,KM,Kv,W9,Qq,QT,Q4,cond_true,cond_false,QW7,seval,Jc];refine go _ ?_ ?_ ?_ ?_ ?_
   ·simp only[f0,Qa,seval]
   ·simp only[f3,Qa,seval]
   ·simp only[f4,Qa,seval]
   ·simp only[f18,Qa,seval]
   ·simp only[f24,Qa,seval]
 ·have d1:decide ((P.length:Int)<((P.length+X1.length:Nat):Int))=false:=by simp only[QYb];omega
  have hx:X1=[]:=QXl (by omega);have hres:mg (lt c) X1 Y1=X1++Y1:=by rw[hx,ZW,QWD]
  rw[hres,←QWB P X1 Y1]at go;simp only[d1,hres,ZG,J5,J7,ZH,J6,J8,Ha,WK,Ue,DW,KM,Kv,W9,Qq,cond_true,cond_false,QW7,seval,Jc];refine go _ ?_ ?_ ?_ ?_ ?_
  ·simp only[f0,Qa,seval]
  ·simp only[f3,Qa,seval]
  ·simp only[f4,Qa,seval]
  ·simp only[f18,Qa,seval]
  ·simp only[f24,Qa,seval]

include hC hcz in
theorem QHT (ih:∀n,n<nn→UW Pg cz sm E kc c n)(hn1:X1.length+Y1.length<nn)(hn2:X2.length+Y2.length<nn)(hlv:lv<m.length)(he:∀x∈P++X1++X2++Y1++(Y2++S),Ez E cz x)(hN:N=(P++X1++X2++Y1++(Y2++S)).length)(hn:N<4611686018427387904)
  (sX1:X6 (lt c) X1) (sY1:X6 (lt c) Y1) (sX:X6 (lt c) X2) (sY:X6 (lt c) Y2) (f0:f 0=.vec (lv+1) s g 0 N false) (f1:f 1=.int .i64 (P.length:Nat)) (f2:f 2=.int .i64 ((P.length+X1.length+X2.length:Nat):Int)) (f3:f 3=.int .i64 ((P.length+X1.length+Y1.length+X2.length+Y2.length:Nat):Int)) (f4:f 4=.fn (.func kc) [] []) (f18:f 18=.int .i64 ((P.length+X1.length+Y1.length:Nat):Int)) (f19:f 19=.int .i64 ((P.length+X1.length+Y1.length+(P.length+X1.length+X2.length):Nat):Int)) (f20:f 20=.int .i64 ((P.length+X1.length:Nat):Int)) :
  QG Pg (.seq (.reg (Yh cz sr ro sm is st)) (.seq (.seq (.reg (Yi cz sr ro sm is st)) (.cond (.t 185) (.reg (Yj cz sr ro sm is st)) (.skip))) (.seq (.seq (.reg (Wu cz sr ro sm is st)) (.cond (.t 199) (.reg (Wv cz sr ro sm is st)) (.skip))) (.seq (.reg (Kh cz sr ro sm is st)) (.cond (.t 213) (.reg (Ki cz sr ro sm is st)) (.skip)))))) ⟨f,Qd :: Am.put m lv s (.vec g cz (P++X1++X2++Y1++(Y2++S))),[]⟩
   (Zo G7 m.length (fun v m1=>v=.tup []∧m1=Am.put m lv s (.vec g cz (P++(mg (lt c) X1 Y1++mg (lt c) X2 Y2)++S)))):=by
 have _:=hC;have _:=hcz;have hlen:N=P.length+X1.length+Y1.length+X2.length+Y2.length+S.length:=by rw[hN];simp only[QWS];omega
 have hem:∀x∈P++X1++Y1++(X2++Y2++S),Ez E cz x:=by
  intro x hx;refine he x ?_;simp only[QXz]at hx ⊢;rcases hx with((hx|hx)|hx)|((hx|hx)|hx)
  ·exact .inl (.inl (.inl (.inl hx)))
  ·exact .inl (.inl (.inl (.inr hx)))
  ·exact .inl (.inr hx)
  ·exact .inl (.inl (.inr hx))
  ·exact .inr (.inl hx)
  ·exact .inr (.inr hx)
 have go:∀f:Fr,f 0=.vec (lv+1) s g 0 N false→f 1=.int .i64 (P.length:Nat)→f 3=.int .i64 ((P.length+X1.length+Y1.length+X2.length+Y2.length:Nat):Int)→f 4=.fn (.func kc) [] []→f 18=.int .i64 ((P.length+X1.length+Y1.length:Nat):Int)→f 20=.int .i64 ((P.length+X1.length:Nat):Int)→f 24=.int .i64 ((P.length+X1.length+Y1.length+X2.length:Nat):Int)→_ :=
  fun f f0 f1 f3 f4 f18 f20 f24=>QHS hC hcz (P:=P) (X1:=X1) (Y1:=Y1) (X2:=X2) (Y2:=Y2) (S:=S) (m:=m) (f:=f) (g:=g) (s:=s) ih hn1 hn2 hlv hem (by rw[hlen];simp only[QWS];omega) hn sX1 sY1 sX sY f0 f1 f3 f4 f18 f20 f24
 have e1:IntKind.i64.wrap (((P.length+X1.length+Y1.length+(P.length+X1.length+X2.length):Nat):Int)-((P.length+X1.length:Nat):Int))=((P.length+X1.length+Y1.length+X2.length:Nat):Int):=by rw[QC];omega
 rw[Yt];simp only[Yh,e1,f19,f20,Ys,ZG,J5,J7,ZH,J6,J8,Ue,Qq,QT,Q4,cond_true,cond_false,QW7,seval,Jc];rw[Yt,Yt];simp only[Yi,f2,f20,Ys,J7,ZH,J6,J8,Ha,Ue,Qq,QT,Q4,cond_true,cond_false,QW7,seval,Jc];by_cases h1:0<X2.length
 ·have d1:decide (((P.length+X1.length:Nat):Int)<((P.length+X1.length+X2.length:Nat):Int))=true:=by simp only[QWl];omega
  by_cases h2:0<Y1.length
  ·have d2:decide (((P.length+X1.length+X2.length:Nat):Int)<((P.length+X1.length+Y1.length+X2.length:Nat):Int))=true:=by simp only[QWl];omega
   simp only[Yj,d1,d2,f0,f2,f4,f20,Ys,ZG,J5,J7,ZH,J6,J8,Ha,Kw,Ue,DW,KM,Yu,Qq,QT,Q4,cond_true,cond_false,QW7,seval,Jc];refine Qj (Qao hC hcz (.fn (.func kc) [] []) (P++X1) X2 Y1 (Y2++S) (n:=P.length+X1.length+Y1.length+X2.length) hlv h1 h2 he (by omega) hN (by rw[QWS]) (by rw[QWS]) (by rw[QWS];omega)) rfl ?_;rw[J5,ZG];rw[show P++X1++Y1++X2++(Y2++S)=P++X1++Y1++(X2++Y2++S)by simp only[QWB]];refine go _ ?_ ?_ ?_ ?_ ?_ ?_ ?_
   ·simp only[f0,Qa,seval]
   ·simp only[f1,Qa,seval]
   ·simp only[f3,Qa,seval]
   ·simp only[f4,Qa,seval]
   ·simp only[f18,Qa,seval]
   ·simp only[f20,Qa,seval]
   ·simp only[Qa,seval]
  ·have d2:decide (((P.length+X1.length+X2.length:Nat):Int)<((P.length+X1.length+Y1.length+X2.length:Nat):Int))=false:=by simp only[QYb];omega
   have hy:Y1=[]:=QXl (by omega);have hrow:P++X1++X2++Y1++(Y2++S)=P++X1++Y1++(X2++Y2++S):=by rw[hy];simp
   simp only[d1,d2,hrow,f2,ZG,J5,J7,ZH,J6,J8,Ha,Kw,Ue,DW,KM,Kv,W9,Qq,QT,Q4,cond_true,cond_false,QW7,seval,Jc];refine go _ ?_ ?_ ?_ ?_ ?_ ?_ ?_
   ·simp only[f0,Qa,seval]
   ·simp only[f1,Qa,seval]
   ·simp only[f3,Qa,seval]
   ·simp only[f4,Qa,seval]
   ·simp only[f18,Qa,seval]
   ·simp only[f20,Qa,seval]
   ·simp only[Qa,seval]
 ·have d1:decide (((P.length+X1.length:Nat):Int)<((P.length+X1.length+X2.length:Nat):Int))=false:=by simp only[QYb];omega
  have hx:X2=[]:=QXl (by omega);have hrow:P++X1++X2++Y1++(Y2++S)=P++X1++Y1++(X2++Y2++S):=by rw[hx];simp
  simp only[d1,hrow,ZG,J5,J7,ZH,J6,J8,Ha,WK,Ue,DW,KM,Kv,W9,Qq,cond_true,cond_false,QW7,seval,Jc];refine go _ ?_ ?_ ?_ ?_ ?_ ?_ ?_
  ·simp only[f0,Qa,seval]
  ·simp only[f1,Qa,seval]
  ·simp only[f3,Qa,seval]
  ·simp only[f4,Qa,seval]
  ·simp only[f18,Qa,seval]
  ·simp only[f20,Qa,seval]
  ·simp only[Qa,seval]

end

set_option maxHeartbeats 1000000 in
include hC hcz in
theorem QQY {kc:Nat}{c:AV→AV→Int}(hc:Cp Pg cz E kc c)(nn:Nat)(ih:∀n,n<nn→UW Pg cz sm E kc c n)(lv s g:Nat)(P X Y S:List AV)(m:Qn)(hXY:X.length+Y.length=nn)(hX1:1<X.length)(hY1:1<Y.length)(hl:Am.Qf m lv s=.vec g cz (P++X++Y++S))(he:∀x∈P++X++Y++S,Ez E cz x)
  (hn:(P++X++Y++S).length<4611686018427387904) (sX:X6 (lt c) X) (sY:X6 (lt c) Y) :
  Qh Pg sm [.vec lv s g 0 (P++X++Y++S).length false,.int .i64 (P.length:Nat),.int .i64 ((P.length+X.length:Nat):Int),.int .i64 ((P.length+X.length+Y.length:Nat):Int),.fn (.func kc) [] []] m
   (fun v m1=>v=.tup []∧m1=Am.put m lv s (.vec g cz (P++mg (lt c) X Y++S))):=by
 have _:=hC;have _:=hcz;have hlv:lv<m.length:=QZ (by rw[hl];simp);have hlen:(P++X++Y++S).length=P.length+X.length+Y.length+S.length:=by simp only[QWS]
 refine hC.csm.go (by simp) ?_;have e1:(IntKind.i64.wrap (((P.length+X.length:Nat):Int)-(P.length:Int))==1)=false:=by rw[QC];simp only[QXY,ne_eq];omega
 have e2:(IntKind.i64.wrap (((P.length+X.length+Y.length:Nat):Int)-((P.length+X.length:Nat):Int))==1)=false:=by rw[QC];simp only[QXY,ne_eq];omega
 have e3:IntKind.i64.wrap ((P.length:Int)+((P.length+X.length+Y.length:Nat):Int))=((P.length+(P.length+X.length+Y.length):Nat):Int):=by rw[QC];omega
 have e4:=CJ P.length (P.length+X.length+Y.length) (by omega);generalize hmid:(P.length+(P.length+X.length+Y.length)) / 2=mid at *;have e5:IntKind.i64.wrap ((mid:Int)+((P.length+X.length:Nat):Int))=((mid+(P.length+X.length):Nat):Int):=by rw[QC];omega
 have e6:IntKind.i64.wrap (((mid+(P.length+X.length):Nat):Int)-((P.length+X.length+Y.length:Nat):Int))=((mid+(P.length+X.length)-(P.length+X.length+Y.length):Nat):Int)∨mid<Y.length:=by
  by_cases h:mid<Y.length
  ·exact .inr h
  ·refine .inl ?_;rw[QC];omega
 have e7:IntKind.i64.wrap (((mid+(P.length+X.length):Nat):Int)-1)=((mid+(P.length+X.length)-1:Nat):Int):=by rw[QC];omega
 simp only[T7,FA,GP,GQ,GR,GS,GT,GU,GV,GW,GX,GY,e1,e2,e3,e4,e5,Qa,seval];have h0:m=Am.put m lv s (.vec g cz (P++X++Y++S)):=(Jm hl).symm;generalize hN:(P++X++Y++S).length=N at *
 -- the search, from whatever bounds
 have main:∀(Q:Exit→St→Prop) (f:Fr) (s0 r0:Nat),s0≤r0→r0≤mid→(r0=mid∨r0=P.length+X.length)→(mid-s0≥Y.length∨s0=P.length)→mid-s0≤Y.length→r0≤P.length+X.length→P.length≤s0→
   f 0=.vec (lv+1) s g 0 N false→f 1=.int .i64 (P.length:Nat)→f 2=.int .i64 ((P.length+X.length:Nat):Int)→f 3=.int .i64 ((P.length+X.length+Y.length:Nat):Int)→f 4=.fn (.func kc) [] []→
   f 18=.int .i64 (mid:Nat)→f 19=.int .i64 ((mid+(P.length+X.length):Nat):Int)→f 22=.int .i64 ((mid+(P.length+X.length)-1:Nat):Int)→f 20=.int .i64 (s0:Nat)→f 21=.int .i64 (r0:Nat)→
   (∀(f:Fr) (t:Nat),s0≤t→t≤r0→mg (lt c) X Y=mg (lt c) (X.take (t-P.length)) (Y.take (mid-t))++mg (lt c) (X.drop (t-P.length)) (Y.drop (mid-t))→
    f 0=.vec (lv+1) s g 0 N false→f 1=.int .i64 (P.length:Nat)→f 2=.int .i64 ((P.length+X.length:Nat):Int)→f 3=.int .i64 ((P.length+X.length+Y.length:Nat):Int)→f 4=.fn (.func kc) [] []→
    f 18=.int .i64 (mid:Nat)→f 19=.int .i64 ((mid+(P.length+X.length):Nat):Int)→f 20=.int .i64 (t:Nat)→Q (.exit 8) ⟨f,Qd :: Am.put m lv s (.vec g cz (P++X++Y++S)),[]⟩)→
   QG Pg (.loop (G6 cz sr ro sm is st)) ⟨f,Qd :: m,[]⟩ Q:=by
  intro Q f s0 r0 hsr hrm hr hs hs2 hr2 hps f0 f1 f2 f3 f4 f18 f19 f22 f20 f21 hQ;refine Qc (ScS cz m lv s g N mid s0 r0 kc c P X Y S) _ ⟨_,s0,r0,by rw[←h0]<;>rfl,rfl,QWe _,hsr,QWe _,(by intro k x y h1 h2;omega),(by intro k x y h1 h2;omega),f0,f1,f2,f3,f4,f18,f19,f22,f20,f21⟩ ?_;clear f0 f1 f2 f3 f4 f18 f19 f22 f20 f21 f;rintro k st ⟨f,i,j,rfl,rfl,hsi,hij,hj,hp,hq,f0,f1,f2,f3,f4,f18,f19,f22,f20,f21⟩;simp only[G6,GZ,G0,G3,G4,G5,f20,f21,Qa,seval];by_cases hlt:i<j
  ·have d0:decide ((i:Int)<(j:Int))=true:=by simp only[QWl];omega
   have e8:IntKind.i64.wrap ((i:Int)+(j:Int))=((i+j:Nat):Int):=by rw[QC];omega
   have e9:=CJ i j (by omega);generalize hh:(i+j) / 2=h at *;have hh1:h<j:=by omega
   have hh2:i≤h:=by omega
   have ea:IntKind.i64.wrap ((h:Int)+1)=((h+1:Nat):Int):=by rw[QC];omega
   have eb:IntKind.i64.wrap (((mid+(P.length+X.length)-1:Nat):Int)-(h:Int))=((P.length+X.length+(mid-1-h):Nat):Int):=by rw[QC];omega
   obtain⟨x,hx⟩:∃x,X[h-P.length]? = some x:=⟨_,QWh (by omega)⟩;obtain⟨y,hy⟩:∃y,Y[mid-1-h]? = some y:=⟨_,QWh (by omega)⟩;have ex:Ez E cz x:=he x (by simp[QWt hx]);have ey:Ez E cz y:=he y (by simp[QWt hy]);have gx:(P++X++Y++S)[h]? = some x:=by
    rw[QWB,QWB,QXH (by omega),QXG (by omega),hx]
   have gy:(P++X++Y++S)[P.length+X.length+(mid-1-h)]? = some y:=by
    rw[QWB,QXH (by rw[QWS];omega),QXG (by rw[QWS];omega),←hy];congr 1;rw[QWS];omega
   simp only[d0,e8,e9,eb,f0,f4,f20,f21,f22,KZ hlv (show P.length+X.length+(mid-1-h)<N by omega),KZ hlv (show h<N by omega),KY hlv gy ey,KY hlv gx ex,Qa,seval];refine K8 (by simp only[Qa,seval]) (hc.call y x ey ex) (WU ey ex _) (KQ ey ex) rfl (.inl (KQ ey ex)) ?_;cases hcx:decide (c y x<0)with
   |true=>
    simp only[hcx,Qa,seval];have hq':∀k x' y',h≤k→k<r0→X[k-P.length]? = some x'→Y[mid-1-k]? = some y'→lt c y' x'=true:=by
     intro k x' y' hk hk2 hx' hy';have h3:=KC hc.sw sY (show mid-1-k≤mid-1-h by omega) hy' hy hcx;have h4:=KP sX hc.sw (show h-P.length≤k-P.length by omega) hx hx';cases hb:lt c y' x' with
     |true=>rfl
     |false=>
      have:=hc.sw.nt y' x' x hb h4;rw[h3]at this;cases this
    exact⟨h-i,by omega,_,i,h,rfl,rfl,hsi,by omega,by omega,hp,hq',by simp only[f0,Qa,seval],by simp only[f1,Qa,seval],by simp only[f2,Qa,seval],by simp only[f3,Qa,seval],by simp only[f4,Qa,seval],by simp only[f18,Qa,seval],by simp only[f19,Qa,seval],by simp only[f22,Qa,seval],by simp only[f20,Qa,seval],by simp only[Qa,seval]⟩
   |false=>
    simp only[hcx,ea,Qa,seval];exact⟨j-(h+1),by omega,_,h+1,j,rfl,rfl,by omega,by omega,hj,fun k x' y' hk hk2 hx' hy'=>by
     have h3:=KP sX hc.sw (show k-P.length≤h-P.length by omega) hx' hx;have h4:lt c y' x=false:=by
      cases hb:lt c y' x with
      |false=>rfl
      |true=>exact absurd (KC hc.sw sY (show mid-1-h≤mid-1-k by omega) hy hy' hb) (by show ¬(decide _=true);rw[hcx];simp)
     exact hc.sw.nt y' x x' h4 h3,hq,by simp only[f0,Qa,seval],by simp only[f1,Qa,seval],by simp only[f2,Qa,seval],by simp only[f3,Qa,seval],by simp only[f4,Qa,seval],by simp only[f18,Qa,seval],by simp only[f19,Qa,seval],by simp only[f22,Qa,seval],by simp only[Qa,seval],by simp only[f21,Qa,seval]⟩
  ·have d0:decide ((i:Int)<(j:Int))=false:=by simp only[QYb];omega
   have hij':j=i:=by omega
   subst hij';simp only[d0,Qa,seval];refine hQ _ j (by omega) (by omega) (Sf hc.sw sX sY hsi hj (by omega) (by omega) hr hs hs2 hr2 hp hq) ?_ ?_ ?_ ?_ ?_ ?_ ?_ ?_
   ·simp only[f0,Qa,seval]
   ·simp only[f1,Qa,seval]
   ·simp only[f2,Qa,seval]
   ·simp only[f3,Qa,seval]
   ·simp only[f4,Qa,seval]
   ·simp only[f18,Qa,seval]
   ·simp only[f19,Qa,seval]
   ·simp only[f20,Qa,seval]
 have hb1:mid≤P.length+X.length+Y.length:=by omega
 have fin:∀(f:Fr) (t:Nat),P.length≤t→t≤mid→t≤P.length+X.length→mid-t≤Y.length→mg (lt c) X Y=mg (lt c) (X.take (t-P.length)) (Y.take (mid-t))++mg (lt c) (X.drop (t-P.length)) (Y.drop (mid-t))→
    f 0=.vec (lv+1) s g 0 N false→f 1=.int .i64 (P.length:Nat)→f 2=.int .i64 ((P.length+X.length:Nat):Int)→f 3=.int .i64 ((P.length+X.length+Y.length:Nat):Int)→f 4=.fn (.func kc) [] []→
    f 18=.int .i64 (mid:Nat)→f 19=.int .i64 ((mid+(P.length+X.length):Nat):Int)→f 20=.int .i64 (t:Nat)→
   QG Pg (.seq (.reg (Yh cz sr ro sm is st)) (.seq (.seq (.reg (Yi cz sr ro sm is st)) (.cond (.t 185) (.reg (Yj cz sr ro sm is st)) (.skip))) (.seq (.seq (.reg (Wu cz sr ro sm is st)) (.cond (.t 199) (.reg (Wv cz sr ro sm is st)) (.skip))) (.seq (.reg (Kh cz sr ro sm is st)) (.cond (.t 213) (.reg (Ki cz sr ro sm is st)) (.skip)))))) ⟨f,Qd :: Am.put m lv s (.vec g cz (P++X++Y++S)),[]⟩
   (Zo G7 m.length (fun v m1=>v=.tup []∧m1=Am.put m lv s (.vec g cz (P++mg (lt c) X Y++S)))):=by
  intro f t h1 h2 h3 h4 hmg f0 f1 f2 f3 f4 f18 f19 f20;have l1:(X.take (t-P.length)).length=t-P.length:=by rw[QXd];omega
  have l2:(X.drop (t-P.length)).length=P.length+X.length-t:=by rw[QWV];omega
  have l3:(Y.take (mid-t)).length=mid-t:=by rw[QXd];omega
  have l4:(Y.drop (mid-t)).length=Y.length-(mid-t):=by rw[QWV]
  have hrow:P++X.take (t-P.length)++X.drop (t-P.length)++Y.take (mid-t)++(Y.drop (mid-t)++S)=P++X++Y++S:=by
   rw[QWB P,QXx,←QWB _ _ S,QWB (P++X),QXx]
  have:=QHT hC hcz (kc:=kc) (c:=c) (nn:=nn) (lv:=lv) (s:=s) (g:=g) (N:=N) (P:=P) (X1:=X.take (t-P.length)) (X2:=X.drop (t-P.length)) (Y1:=Y.take (mid-t)) (Y2:=Y.drop (mid-t)) (S:=S) (m:=m) (f:=f) ih
   (by rw[l1,l3];omega) (by rw[l2,l4];omega) hlv (by rw[hrow];exact he) (by rw[hrow,hN]) hn
   (List.Pairwise.sublist (List.take_sublist _ _) sX) (List.Pairwise.sublist (List.take_sublist _ _) sY) (List.Pairwise.sublist (List.drop_sublist _ _) sX) (List.Pairwise.sublist (List.drop_sublist _ _) sY)
   f0 f1 (by rw[f2,l1,l2];congr 2;omega) (by rw[f3,l1,l2,l3,l4];congr 2;omega) f4 (by rw[f18,l1,l3];congr 2;omega) (by rw[f19,l1,l2,l3];congr 2;omega) (by rw[f20,l1];congr 2;omega)
  rw[hrow,←hmg]at this;exact this
 by_cases hgt:mid<P.length+X.length
 ·have d0:decide (((P.length+X.length:Nat):Int) > (mid:Int))=true:=by simp only[QWl];omega
  have hmy:Y.length≤mid:=by omega
  have e6':=e6.resolve_right (by omega);simp only[d0,e6',e7,Qa,seval];refine main _ _ (mid+(P.length+X.length)-(P.length+X.length+Y.length)) mid (by omega) (by omega) (.inl rfl) (.inl (by omega)) (by omega) (by omega) (by omega) ?_ ?_ ?_ ?_ ?_ ?_ ?_ ?_ ?_ ?_ ?_
  case refine_11=>
   intro f t h1 h2 hmg f0 f1 f2 f3 f4 f18 f19 f20;rw[Gb,QWJ rfl,ZG];exact fin f t (by omega) (by omega) (by omega) (by omega) hmg f0 f1 f2 f3 f4 f18 f19 f20
  all_goals simp only[Qa,seval]
 ·have d0:decide (((P.length+X.length:Nat):Int) > (mid:Int))=false:=by simp only[QYb];omega
  simp only[d0,e7,Qa,seval];refine main _ _ P.length (P.length+X.length) (by omega) (by omega) (.inr rfl) (.inr rfl) (by omega) (by omega) (by omega) ?_ ?_ ?_ ?_ ?_ ?_ ?_ ?_ ?_ ?_ ?_
  case refine_11=>
   intro f t h1 h2 hmg f0 f1 f2 f3 f4 f18 f19 f20;rw[Gb,QWJ rfl,ZG];exact fin f t (by omega) (by omega) (by omega) (by omega) hmg f0 f1 f2 f3 f4 f18 f19 f20
  all_goals simp only[Qa,seval]

include hC hcz in
theorem sym {kc:Nat}{c:AV→AV→Int}(hc:Cp Pg cz E kc c):∀n,UW Pg cz sm E kc c n:=by
 have _:=hC;have _:=hcz;intro n
 induction n using Nat.strongRecOn with
 |_ n ih=>
 intro lv s g P X Y S m hXY hX hY hl he hn sX sY;by_cases h1:X.length=1
 ·obtain⟨x,rfl⟩:=List.length_eq_one_iff.1 h1;exact QQW hC hcz hc lv s g P x Y S m hl he hn sY
 ·by_cases h2:Y.length=1
  ·obtain⟨y,rfl⟩:=List.length_eq_one_iff.1 h2;exact QQX hC hcz hc lv s g P X y S m hl he hn sX h1
  ·exact QQY hC hcz hc n ih lv s g P X Y S m hXY (by omega) (by omega) hl he hn sX sY

end Go.Proofs.YtdhlbgejhcejcaaGreatDoor.Tz

namespace Go.Proofs.YtdhlbgejhcejcaaGreatDoor.Tz
open Go Am Bt Tg So
variable {Pg:Program}{cz sr ro sm is st ss:Nat}(hC:Tg.Cs Pg cz sr ro sm is st ss)(hcz:cz≠0)

variable {E:AV→Prop}

include hC hcz in
theorem Vu {kc:Nat}{c:AV→AV→Int}(hc:Cp Pg cz E kc c){fr:Nat→Ob}{lv s g N a b:Nat}(P X S:List AV){m:Qn}(hlv:lv<m.length)(he:∀x∈P++X++S,Ez E cz x)
  (hn:(P++X++S).length<4611686018427387904) (hN:N=(P++X++S).length) (ha:a=P.length) (hb:b=P.length+X.length) :
  Qh Pg is [.vec (lv+1) s g 0 N false,.int .i64 (a:Nat),.int .i64 (b:Nat),.fn (.func kc) [] []] (fr :: Am.put m lv s (.vec g cz (P++X++S)))
   (fun x m1=>x=.tup []∧m1=fr :: Am.put m lv s (.vec g cz (P++QD (lt c) X++S))):=by
 have _:=hC;have _:=hcz;subst hN ha hb;refine(QQV hC hcz hc (lv+1) s g P X S (fr :: Am.put m lv s (.vec g cz (P++X++S))) (Qy (m:=m) hlv) he hn).mono fun x m1 h=>⟨h.1,?_⟩
 rw[h.2];simp only[Am.put,Wf]

def St1 (cz:Nat)(m:Qn)(lv s g:Nat)(kc:Nat)(c:AV→AV→Int)(xs:List AV)(k:Nat)(st:St):Prop :=
 ∃f i,st=⟨f,[Qd]++Am.put m lv s (.vec g cz (Q7 (lt c) 20 i xs++xs.drop (20*i))),[]⟩∧k=xs.length-20*i∧20*i≤xs.length∧
  f 0=.vec (lv+1) s g 0 xs.length false∧f 1=.int .i64 (xs.length:Nat)∧f 2=.fn (.func kc) [] []∧f 6=.int .i64 20∧f 7=.int .i64 ((20*i:Nat):Int)∧f 8=.int .i64 ((20*(i+1):Nat):Int)

def St2 (cz:Nat)(m:Qn)(lv s g:Nat)(kc:Nat)(c:AV→AV→Int)(xs:List AV)(k:Nat)(st:St):Prop :=
 ∃f b n,st=⟨f,[Qd]++Am.put m lv s (.vec g cz (Q7 (lt c) b n xs)),[]⟩∧k=xs.length-b∧0<b∧b<2305843009213693952∧xs.length≤b*n∧
  f 0=.vec (lv+1) s g 0 xs.length false∧f 1=.int .i64 (xs.length:Nat)∧f 2=.fn (.func kc) [] []∧f 6=.int .i64 (b:Nat)

def St3 (cz:Nat)(m:Qn)(lv s g:Nat)(kc:Nat)(c:AV→AV→Int)(xs:List AV)(b:Nat)(k:Nat)(st:St):Prop :=
 ∃f i n,st=⟨f,[Qd]++Am.put m lv s (.vec g cz (Q7 (lt c) (2*b) i xs++Q7 (lt c) b n (xs.drop (2*b*i)))),[]⟩∧k=xs.length-2*b*i∧2*b*i≤xs.length∧xs.length-2*b*i≤b*n∧
  f 0=.vec (lv+1) s g 0 xs.length false∧f 1=.int .i64 (xs.length:Nat)∧f 2=.fn (.func kc) [] []∧f 6=.int .i64 (b:Nat)∧f 7=.int .i64 ((2*b*i:Nat):Int)∧f 8=.int .i64 ((2*b*(i+1):Nat):Int)

set_option maxHeartbeats 1000000 in
include hC hcz in
theorem QQZ {kc:Nat}{c:AV→AV→Int}(hc:Cp Pg cz E kc c)(lv s g:Nat)(xs:List AV)(m:Qn)(hl:Am.Qf m lv s=.vec g cz xs)(he:∀x∈xs,Ez E cz x)
  (hn:xs.length<1152921504606846976) :
  Qh Pg st [.vec lv s g 0 xs.length false,.int .i64 (xs.length:Nat),.fn (.func kc) [] []] m
   (fun x m1=>x=.tup []∧m1=Am.put m lv s (.vec g cz (QD (lt c) xs))):=by
 have _:=hC;have _:=hcz;have hlv:lv<m.length:=QZ (by rw[hl];simp);refine hC.cst.go (by simp) ?_;have h0:m=Am.put m lv s (.vec g cz xs):=(Jm hl).symm;simp only[rst,Ah,Ai,Qa,seval];refine Qc (St1 cz m lv s g kc c xs) _ ⟨_,0,by rw[show Q7 (lt c) 20 0 xs++xs.drop (20*0)=xs by simp[Q7],←h0]<;>rfl,rfl,by omega,by simp only[Qa,seval],by simp only[Qa,seval],by simp only[Qa,seval],by simp only[Qa,seval],by simp only[Qa,seval]<;>rfl,by simp only[Qa,seval]<;>rfl⟩ ?_;clear h0;rintro k st ⟨f,i,rfl,rfl,hi,f0,f1,f2,f6,f7,f8⟩;simp only[Ao,Aj,f1,f8,Qa,seval];have hbl:(Q7 (lt c) 20 i xs).length=20*i:=by rw[US];omega
 by_cases hlt:20*(i+1)≤xs.length
 ·have d0:decide (((20*(i+1):Nat):Int)≤(xs.length:Int))=true:=by simp only[QWl];omega
  have e1:IntKind.i64.wrap (((20*(i+1):Nat):Int)+20)=((20*(i+1+1):Nat):Int):=by rw[QC];omega
  have hcut:Q7 (lt c) 20 i xs++xs.drop (20*i)=Q7 (lt c) 20 i xs++(xs.drop (20*i)).take 20++xs.drop (20*(i+1)):=by
   rw[QWB,show 20*(i+1)=20*i+20 by omega,←QWI,QXx]
  have hx1:((xs.drop (20*i)).take 20).length=20:=by rw[QXd,QWV];omega
  have hee:∀x∈Q7 (lt c) 20 i xs++(xs.drop (20*i)).take 20++xs.drop (20*(i+1)),Ez E cz x:=by
   intro x hx;refine he x ?_;rcases QXz.1 hx with hx|hx
   ·rcases QXz.1 hx with hx|hx
    ·exact We hx
    ·exact QW2 (QW3 hx)
   ·exact QW2 hx
  have hNN:(Q7 (lt c) 20 i xs++(xs.drop (20*i)).take 20++xs.drop (20*(i+1))).length=xs.length:=by
   rw[QWS,QWS,hx1,hbl,QWV];omega
  simp only[d0,hcut,Ak,f0,f2,f7,f8,Qa,seval];refine Qj (Vu hC hcz hc (a:=20*i) (b:=20*(i+1)) (Q7 (lt c) 20 i xs) ((xs.drop (20*i)).take 20) (xs.drop (20*(i+1))) hlv hee (by omega) hNN.symm hbl.symm (by rw[hbl,hx1];omega)) rfl ?_;simp only[Al,An,e1,f6,f8,Qa,seval];exact⟨xs.length-20*(i+1),by omega,_,i+1,by rw[YG]<;>rfl,rfl,hlt,by simp only[f0,Qa,seval],by simp only[f1,Qa,seval],by simp only[f2,Qa,seval],by simp only[f6,Qa,seval],by simp only[Qa,seval],by simp only[Qa,seval]⟩
 ·have d0:decide (((20*(i+1):Nat):Int)≤(xs.length:Int))=false:=by simp only[QYb];omega
  have hee:∀x∈Q7 (lt c) 20 i xs++xs.drop (20*i)++[],Ez E cz x:=by
   intro x hx;refine he x ?_;rw[QXj]at hx;rcases QXz.1 hx with hx|hx
   ·exact We hx
   ·exact QW2 hx
  have hNN:(Q7 (lt c) 20 i xs++xs.drop (20*i)++[]).length=xs.length:=by
   rw[QXj,QWS,hbl,QWV];omega
  have hic:=Vu hC hcz hc (fr:=Qd) (g:=g) (s:=s) (N:=xs.length) (a:=20*i) (b:=xs.length) (Q7 (lt c) 20 i xs) (xs.drop (20*i)) [] hlv hee (by omega) hNN.symm hbl.symm (by rw[hbl,QWV];omega);have hsn:Q7 (lt c) 20 i xs++QD (lt c) (xs.drop (20*i))=Q7 (lt c) 20 (i+1) xs:=by
   rw[YG,QWO (by rw[QWV];omega)]
  rw[QXj,QXj,hsn]at hic;simp only[d0,Ap,f0,f1,f2,f7,Qa,seval];refine Qj hic rfl ?_;simp only[Qa,seval];refine Qc (St2 cz m lv s g kc c xs) _ ⟨_,20,i+1,rfl,rfl,by omega,by omega,by omega,by simp only[f0,Qa,seval],by simp only[f1,Qa,seval],by simp only[f2,Qa,seval],by simp only[f6,Qa,seval]<;>rfl⟩ ?_;clear f0 f1 f2 f6 f7 f8 hic hsn hNN hee d0 hlt hbl hi f i;rintro k st ⟨f,b,n,rfl,rfl,hb0,hb1,hbn,f0,f1,f2,f6⟩;simp only[Av,Aq,f1,f6,Qa,seval];by_cases hlt:b<xs.length
  ·have d0:decide ((b:Int)<(xs.length:Int))=true:=by simp only[QWl];omega
   have e1:IntKind.i64.wrap (2*(b:Int))=((2*b:Nat):Int):=by rw[QC];omega
   have e1':IntKind.i64.wrap ((b:Int)*2)=((2*b:Nat):Int):=by rw[QC];omega
   simp only[d0,Ar,e1,f6,Qa,seval];refine Qc (St3 cz m lv s g kc c xs b) _ ⟨_,0,n,by simp only[Q7,Nat.mul_zero,QWX,QWD]<;>rfl,rfl,by omega,by omega,by simp only[f0,Qa,seval],by simp only[f1,Qa,seval],by simp only[f2,Qa,seval],by simp only[f6,Qa,seval],by simp only[Qa,seval]<;>rfl,by simp only[QWW,Nat.mul_one,Qa,seval]⟩ ?_;clear f0 f1 f2 f6 f;rintro k st ⟨f,i,n',rfl,rfl,hi,hn',f0,f1,f2,f6,f7,f8⟩;have hA1:2*b*(i+1)=2*b*i+2*b:=Nat.mul_succ _ _;have hA2:2*b*(i+1+1)=2*b*i+2*b+2*b:=by rw[Nat.mul_succ,hA1]
   have hbl:(Q7 (lt c) (2*b) i xs).length=2*b*i:=by rw[US];omega
   have hsnoc:=YG (lt:=lt c) (2*b) i xs;rw[hA1]at f8;clear hbn;generalize hA:2*b*i=A at *;simp only[Au,As,f1,f8,Qa,seval];generalize hL:xs.drop A=L at *;have hLl:L.length=xs.length-A:=by rw[←hL,QWV]
   have hLe:∀z∈L,Ez E cz z:=fun z hz=>he z (QW2 (by rw[hL];exact hz))
   have hPe:∀z∈Q7 (lt c) (2*b) i xs,Ez E cz z:=fun z hz=>he z (We hz)
   have e2:IntKind.i64.wrap (((A:Nat):Int)+(b:Int))=((A+b:Nat):Int):=by rw[QC];omega
   -- Xa blocks and the rest
   have Xa:b<L.length→∃n'',n'=n''+2∧Q7 (lt c) b n' L=QD (lt c) (L.take b)++QD (lt c) ((L.drop b).take b)++Q7 (lt c) b n'' (L.drop (2*b))∧mg (lt c) (QD (lt c) (L.take b)) (QD (lt c) ((L.drop b).take b))=QD (lt c) (L.take (2*b)):=by
    intro h
    match n',hn' with
    |0,hn'=>omega
    |1,hn'=>omega
    |n''+2,_=>
     refine⟨n'',rfl,?_,?_⟩
     ·rw[Q7,Q7,QWB,QWI,show b+b=2*b by omega]
     ·rw[Ws hc.sw,R9]
   by_cases hlt2:A+2*b≤xs.length
   ·have d1:decide (((A+2*b:Nat):Int)≤(xs.length:Int))=true:=by simp only[QWl];omega
    obtain⟨n'',rfl,hrow,hmg⟩:=Xa (by omega);have hn2:b*(n''+2)=b*n''+2*b:=by rw[Nat.mul_add,Nat.mul_comm b 2]
    rw[hn2]at hn';clear Xa;generalize hZ:b*n''=Z at *;have e3:IntKind.i64.wrap (((A+2*b:Nat):Int)+((2*b:Nat):Int))=((A+2*b+2*b:Nat):Int):=by
     rw[QC];omega
    have l1:(QD (lt c) (L.take b)).length=b:=by rw[Jk,QXd];omega
    have l2:(QD (lt c) ((L.drop b).take b)).length=b:=by rw[Jk,QXd,QWV];omega
    have l3:(Q7 (lt c) b n'' (L.drop (2*b))).length=L.length-2*b:=by
     rw[US,QWV,hZ];omega
    have hcut:Q7 (lt c) (2*b) i xs++Q7 (lt c) b (n''+2) L=Q7 (lt c) (2*b) i xs++QD (lt c) (L.take b)++QD (lt c) ((L.drop b).take b)++Q7 (lt c) b n'' (L.drop (2*b)):=by
     rw[hrow];simp only[QWB]
    have hee:∀x∈Q7 (lt c) (2*b) i xs++QD (lt c) (L.take b)++QD (lt c) ((L.drop b).take b)++Q7 (lt c) b n'' (L.drop (2*b)),Ez E cz x:=by
     rw[←hcut];intro x hx;rcases QXz.1 hx with hx|hx
     ·exact hPe x hx
     ·exact hLe x (We hx)
    have hNN:(Q7 (lt c) (2*b) i xs++QD (lt c) (L.take b)++QD (lt c) ((L.drop b).take b)++Q7 (lt c) b n'' (L.drop (2*b))).length=xs.length:=by
     rw[QWS,QWS,QWS,l1,l2,l3,hbl];omega
    simp only[d1,hcut,e2,PY,f0,f2,f6,f7,f8,Qa,seval];refine Qj (YM hC hcz (sym hC hcz hc _) (a:=A) (b:=A+b) (e:=A+2*b) (Q7 (lt c) (2*b) i xs) (QD (lt c) (L.take b)) (QD (lt c) ((L.drop b).take b)) (Q7 (lt c) b n'' (L.drop (2*b))) hlv rfl (by omega) (by omega) hee (by omega) (XS hc.sw _) (XS hc.sw _) hNN.symm hbl.symm (by rw[hbl,l1]) (by rw[hbl,l1,l2];omega)) rfl ?_;simp only[PZ,P0,e1,e3,f6,f8,Qa,seval];refine⟨xs.length-(A+2*b),by omega,_,i+1,n'',by rw[hsnoc,hmg,hA1,←QWI,hL]<;>rfl,by rw[hA1],by rw[hA1];exact hlt2,?_,by simp only[f0,Qa,seval],by simp only[f1,Qa,seval],by simp only[f2,Qa,seval],by simp only[f6,Qa,seval],by simp only[hA1,Qa,seval],by simp only[hA2,Qa,seval]⟩
    ·rw[hA1,hZ];omega
   ·have d1:decide (((A+2*b:Nat):Int)≤(xs.length:Int))=false:=by simp only[QYb];omega
    have hfin:Q7 (lt c) (2*b) i xs++QD (lt c) L=Q7 (lt c) (2*b) (i+1) xs:=by
     rw[hsnoc,QWO (by omega)]
    simp only[d1,e2,P1,P2,f1,f6,f7,Qa,seval];by_cases hm:A+b<xs.length
    ·have d2:decide (((A+b:Nat):Int)<(xs.length:Int))=true:=by simp only[QWl];omega
     obtain⟨n'',rfl,hrow,hmg⟩:=Xa (by omega);clear Xa hn';have hr0:L.drop (2*b)=[]:=QWR (by omega);have hr1:(L.drop b).take b=L.drop b:=QWO (by rw[QWV];omega);have hr2:L.take (2*b)=L:=QWO (by omega);rw[hr0,DC,QXj,hr1]at hrow;rw[hr1,hr2]at hmg;have l1:(QD (lt c) (L.take b)).length=b:=by rw[Jk,QXd];omega
     have l2:(QD (lt c) (L.drop b)).length=L.length-b:=by rw[Jk,QWV]
     have hee:∀x∈Q7 (lt c) (2*b) i xs++QD (lt c) (L.take b)++QD (lt c) (L.drop b)++[],Ez E cz x:=by
      intro x hx;rw[QXj,QWB,←hrow]at hx;rcases QXz.1 hx with hx|hx
      ·exact hPe x hx
      ·exact hLe x (We hx)
     have hNN:(Q7 (lt c) (2*b) i xs++QD (lt c) (L.take b)++QD (lt c) (L.drop b)++[]).length=xs.length:=by
      rw[QXj,QWS,QWS,l1,l2,hbl];omega
     have hsc:=YM hC hcz (sym hC hcz hc _) (fr:=Qd) (s:=s) (g:=g) (N:=xs.length) (a:=A) (b:=A+b) (e:=xs.length) (Q7 (lt c) (2*b) i xs) (QD (lt c) (L.take b)) (QD (lt c) (L.drop b)) [] hlv rfl (by omega) (by omega) hee (by omega) (XS hc.sw _) (XS hc.sw _) hNN.symm hbl.symm (by rw[hbl,l1]) (by rw[hbl,l1,l2];omega);rw[QXj,QXj,hmg,hfin,QWB,←hrow]at hsc;simp only[d2,P3,f0,f1,f2,f7,Qa,seval];refine Qj hsc rfl ?_;simp only[B7,e1',f6,Qa,seval];exact⟨xs.length-2*b,by omega,_,2*b,i+1,rfl,rfl,by omega,by omega,by rw[hA1];omega,by simp only[f0,Qa,seval],by simp only[f1,Qa,seval],by simp only[f2,Qa,seval],by simp only[Qa,seval]⟩
    ·have d2:decide (((A+b:Nat):Int)<(xs.length:Int))=false:=by simp only[QYb];omega
     have hrow:Q7 (lt c) b n' L=QD (lt c) L:=Vl (by omega) (by omega);simp only[d2,hrow,hfin,B7,e1',f6,Qa,seval];exact⟨xs.length-2*b,by omega,_,2*b,i+1,rfl,rfl,by omega,by omega,by rw[hA1];omega,by simp only[f0,Qa,seval],by simp only[f1,Qa,seval],by simp only[f2,Qa,seval],by simp only[Qa,seval]⟩
  ·have d0:decide ((b:Int)<(xs.length:Int))=false:=by simp only[QYb];omega
   have hfin:Q7 (lt c) b n xs=QD (lt c) xs:=Vl (by omega) hbn;simp only[d0,hfin,put_len,ost,Qa,seval]

include hC hcz in
theorem Sg {kc:Nat}{c:AV→AV→Int}(hc:Cp Pg cz E kc c)(lv s g:Nat)(xs:List AV)(m:Qn)(hl:Am.Qf m lv s=.vec g cz xs)(he:∀x∈xs,Ez E cz x)
  (hn:xs.length<1152921504606846976) :
  Qh Pg ss [.vec lv s g 0 xs.length false,.fn (.func kc) [] []] m
   (fun x m1=>x=.tup []∧m1=Am.put m lv s (.vec g cz (QD (lt c) xs))):=by
 have _:=hC;have _:=hcz;have hlv:lv<m.length:=QZ (by rw[hl];simp);refine hC.css.go (by simp) ?_;have hl2:Am.Qf (Qd :: m) (lv+1) s=.vec g cz xs:=hl;simp only[Aw,rss,oss,hl2,Qa,seval];refine Qj ((QQZ hC hcz hc (lv+1) s g xs (Qd :: m) hl he hn).mono fun x m1 h=>⟨h.1,h.2.trans rfl⟩) rfl ?_;simp only[Am.put,put_len,Qa,seval]

end Go.Proofs.YtdhlbgejhcejcaaGreatDoor.Tz

namespace Go.Proofs.YtdhlbgejhcejcaaGreatDoor.Tg
open Go Am

theorem QHU:Cs Tryz.prog 4 283 266 235 234 191 99 where
 csr:=ck Tryz.func283 Tryz.ntmps283 (by decide +kernel)
 cro:=ck Tryz.func266 Tryz.ntmps266 (by decide +kernel)
 csm:=ck Tryz.func235 Tryz.ntmps235 (by decide +kernel)
 cis:=ck Tryz.func234 Tryz.ntmps234 (by decide +kernel)
 cst:=ck Tryz.func191 Tryz.ntmps191 (by decide +kernel)
 css:=ck Tryz.func99 Tryz.ntmps99 (by decide +kernel)

theorem Qws:Cs Tryz.prog 8 290 277 253 252 227 186 where
 csr:=ck Tryz.func290 Tryz.ntmps290 (by decide +kernel)
 cro:=ck Tryz.func277 Tryz.ntmps277 (by decide +kernel)
 csm:=ck Tryz.func253 Tryz.ntmps253 (by decide +kernel)
 cis:=ck Tryz.func252 Tryz.ntmps252 (by decide +kernel)
 cst:=ck Tryz.func227 Tryz.ntmps227 (by decide +kernel)
 css:=ck Tryz.func186 Tryz.ntmps186 (by decide +kernel)

theorem Qwt:Cs Tryz.prog 14 299 291 279 278 254 229 where
 csr:=ck Tryz.func299 Tryz.ntmps299 (by decide +kernel)
 cro:=ck Tryz.func291 Tryz.ntmps291 (by decide +kernel)
 csm:=ck Tryz.func279 Tryz.ntmps279 (by decide +kernel)
 cis:=ck Tryz.func278 Tryz.ntmps278 (by decide +kernel)
 cst:=ck Tryz.func254 Tryz.ntmps254 (by decide +kernel)
 css:=ck Tryz.func229 Tryz.ntmps229 (by decide +kernel)

end Go.Proofs.YtdhlbgejhcejcaaGreatDoor.Tg

namespace Go.Proofs.YtdhlbgejhcejcaaGreatDoor.Rc
open Go Am
abbrev QQ0:IL:=[je 4 4 0,je 6 6 2,je 7 7 3,jh 8]
abbrev QQ1:IL:=[jf 16 2 4,⟨some 17,.callR (.f 5) [(.t 16)],none⟩,jz 18 17,ja 19 18,yu 20 7 6 19,⟨some 21,.callR (.f 6) [(.t 20),(.c (.int .i64 300))],(some (19,false))⟩,zb 22 21 19,jo 23 19 22,ja 24 23,yu 25 7 7 24,⟨some 26,.callR (.f 6) [(.t 25),(.c (.int .i64 300))],(some (24,false))⟩,zb 27 26 24,jo 28 24 27,ja 29 28,yu 30 2 4 29,jv 31 1 29,yu 32 7 6 29,MX 33 7 30 31 32 29,D0 34 33 0 29,jo 35 29 34,ja 36 35,yu 37 2 4 36,jv 38 1 36,yu 39 7 7 36,MX 40 7 37 38 39 36,D0 41 40 0 36,jo 42 36 41]
abbrev QQ2:IL:=[DY 43 8,ja 8 43]
abbrev QQ3:IL:=[jf 44 2 4,ja 45 1,jf 46 7 6,yh 47 9 44 45 46,yk 9 9,jq 7 9 47]
abbrev QQ4:IL:=[jf 48 2 4,ja 49 1,jf 50 7 7,yh 51 9 48 49 50,yk 10 10,jq 7 10 51]
abbrev QQ5:IL:=[jb 52 0 4,jc 53 52,ja 54 1,jl 55 3 53 54,jb 56 0 55,jc 57 56,ja 11 57]
abbrev QQ6:IL:=[jf 59 2 4,ja 60 11,jf 61 7 6,yh 62 10 59 60 61,ja 58 62,jx 63 58 0,jx 64 58 1,ja 12 63,ja 13 64]
abbrev QQ7:IL:=[jf 66 2 4,ja 67 11,jf 68 7 9,yh 69 10 66 67 68,ja 65 69,jx 70 65 0,jx 71 65 1,ja 14 70,ja 15 71]
abbrev QQ8:IL:=[ja 72 12,ja 73 14,⟨some 74,.val (.bin .str .neq (.t 72) (.t 73)),none⟩,ja 75 74,jv 76 13 75,jv 77 15 75,zu 78 76 77 75,jo 79 75 78,ja 80 79,MT 81 0 4 2 4 80,jv 82 1 80,MT 83 0 6 7 6 80,MX 84 11 81 82 83 80,MT 85 0 4 2 4 80,jv 86 1 80,MT 87 0 9 7 9 80,MX 88 11 85 86 87 80,⟨some 89,.val (.bin .str .neq (.t 84) (.t 88)),(some (80,false))⟩,jo 90 80 89]
abbrev QQ9:IL:=[jh 8]
abbrev QHV:IL:=[jw 91 0 4 2 4,ja 92 1,jw 93 0 6 7 6,yh 94 11 91 92 93,jw 95 0 4 2 4,ja 96 1,jw 97 0 7 7 7,yh 98 11 95 96 97,MK 99 94 98,jw 100 0 9 7 9,jw 101 0 10 7 10,jy 102 12 100 101,⟨some 103,.val (.bin .bool .eql (.t 99) (.t 102)),none⟩,ja 104 103,MG 105 8 104,jj 106 104 105,ja 8 106]
abbrev r3:RC:=jQ QQ0 (.seq (jQ QQ1 (.cond (.t 42) (jQ QQ2 (.ret)) (.skip))) (jQ QQ3 (jQ QQ4 (jQ QQ5 (jQ QQ6 (jQ QQ7 (.seq (jD QQ8 (.cond (.t 90) (jQ QQ9 (.ret)) (.skip))) (jD QHV (.ret)))))))))
abbrev o3:List RR:=[.tmp 8]
theorem k3:CT 3 107 r3 o3:=ck Tryz.func3 Tryz.ntmps3 (by decide +kernel)
abbrev QRa:IL:=[je 3 3 0,je 5 5 2,jh 6]
abbrev QRb:IL:=[jf 14 2 3,⟨some 15,.callR (.f 5) [(.t 14)],none⟩,jz 16 15,ja 17 16,yu 18 7 5 17,⟨some 19,.callR (.f 6) [(.t 18),(.c (.int .i64 300))],(some (17,false))⟩,zb 20 19 17,jo 21 17 20,ja 22 21,yu 23 2 3 22,jv 24 1 22,yu 25 7 5 22,MX 26 13 23 24 25 22,zb 27 26 22,jo 28 22 27]
abbrev QRc:IL:=[DY 29 8,ja 6 29]
abbrev QRd:IL:=[jf 31 2 3,ja 32 1,jf 33 7 5,yh 34 11 31 32 33,⟨some 35,.val (.build [.int .i64 0,.int .i64 0,.int .i64 0,.int .i64 0] [(0,1,(.c (.int .i64 1073741824))),(1,1,(.c (.int .i64 100))),(2,1,(.c (.int .i64 1073741824))),(3,1,(.c (.int .i64 1073741824)))]),none⟩,jy 36 14 34 35,ja 30 36,jx 37 30 0,jx 38 30 1,ja 7 37,ja 8 38]
abbrev QRe:IL:=[ja 39 8,js 40 39 3]
abbrev QRf:IL:=[DY 41 8,ja 6 41]
abbrev QRg:IL:=[jd 9 0]
abbrev QRh:IL:=[jd 10 0]
abbrev QRi:IL:=[jd 11 0]
abbrev QRj:IL:=[ja 42 11,jb 43 5 5,jc 44 43,ji 45 1 44,jp 46 42 45]
abbrev QHW:IL:=[ja 49 10,jb 50 6 5,yb 51 0 5 50,ji 52 1 51,jp 53 49 52,ja 54 53,jk 55 6 5 54,yy 56 0 5 55 54,jg 57 10 54,ya 58 4 56 57 54,jk 59 0 58 54,ym 60 59 54,jk 61 5 5 54,yy 62 0 5 61 54,jg 63 11 54,ya 64 8 62 63 54,jk 65 0 64 54,ym 66 65 54,Gr 67 60 66 54,jj 68 54 67]
abbrev QHX:IL:=[ja 69 9,ja 70 7,ji 71 1 70,⟨some 72,.val (.bin .num .geq (.t 69) (.t 71)),none⟩,ja 73 72,jv 74 7 73,jv 75 9 73,jv 76 9 73,ML 77 76 1 73,⟨some 78,.val (.slcp (some 4) (.t 74) (some (.t 75)) (some (.t 77)) none),(some (73,false))⟩,jn 79 6 5 73,zk 80 0 5 79 73,jv 81 10 73,jv 82 10 73,ML 83 82 1 73,⟨some 84,.val (.slcp (some 4) (.t 80) (some (.t 81)) (some (.t 83)) none),(some (73,false))⟩,D2 85 15 78 84 73,zb 86 85 73,jo 87 73 86]
abbrev QHY:IL:=[jh 6]
abbrev QHZ:IL:=[ja 88 9,jm 89 88 1,ja 9 89]
abbrev QH0:IL:=[ja 90 10,jm 91 90 1,ja 10 91]
abbrev Qwu:RC:=.seq (jD QHW (jX 68 2)) (.block 3 (.seq (jD QHX (.cond (.t 87) (jQ QHY (.ret)) (.skip))) (jQ QHZ (.reg QH0))))
abbrev QH1:IL:=[jw 92 0 3 2 3,ja 93 1,jb 94 5 5,yb 95 0 5 94,ja 96 11,jl 97 8 95 96,yd 98 8 97,yh 99 16 92 93 98,ja 12 99]
abbrev QH2:IL:=[ja 100 12,ji 101 1 100,js 102 101 0,ja 103 102,jv 104 12 103,ye 105 1 104 103,jv 106 7 103,ye 107 1 106 103,jv 108 9 103,⟨some 109,.val (.bin .num .sub (.t 107) (.t 108)),(some (103,false))⟩,⟨some 110,.val (.bin .num .gtr (.t 105) (.t 109)),(some (103,false))⟩,jo 111 103 110,ja 112 111,jv 113 7 112,jv 114 9 112,jv 115 9 112,jv 116 12 112,ye 117 1 116 112,⟨some 118,.val (.bin .num .add (.t 115) (.t 117)),(some (112,false))⟩,⟨some 119,.val (.slcp (some 4) (.t 113) (some (.t 114)) (some (.t 118)) none),(some (112,false))⟩,jv 120 12 112,D2 121 15 119 120 112,zb 122 121 112,jo 123 112 122]
abbrev QH3:IL:=[jh 6]
abbrev QH4:IL:=[ja 124 9,ja 125 12,ji 126 1 125,yi 127 124 126,ja 9 127]
abbrev QH5:IL:=[ja 47 11,jm 48 47 1,ja 11 48]
abbrev QRk:RC:=.seq (jQ QRj (jX 46 0)) (.seq (.block 1 (.seq (.block 2 (.loop Qwu)) (jD QH1 (.seq (jQ QH2 (.cond (.t 123) (jQ QH3 (.ret)) (.skip))) (.reg QH4))))) (.reg QH5))
abbrev QH6:IL:=[jd 13 1]
abbrev QH7:IL:=[ja 128 13,ja 129 7,ji 130 1 129,jp 131 128 130]
abbrev QH8:IL:=[ja 134 7,ja 135 13,jl 136 4 134 135,jb 137 0 136,zo 138 137,ja 139 7,ja 140 13,zi 141 140 1,jl 142 4 139 141,jb 143 0 142,zo 144 143,jp 145 138 144]
abbrev QH9:IL:=[jh 6]
abbrev QIa:IL:=[ja 132 13,jm 133 132 1,ja 13 133]
abbrev Qwv:RC:=.seq (jQ QH7 (jX 131 4)) (.seq (.block 5 (jD QH8 (.cond (.t 145) (jQ QH9 (.ret)) (.skip)))) (.reg QIa))
abbrev QIb:IL:=[ja 146 8,js 147 146 0,ja 148 147,jg 149 7 148,jg 150 9 148,⟨some 151,.val (.slcp (some 4) (.t 149) (some (.t 150)) none none),(some (148,true))⟩,jk 152 6 5 148,yy 153 0 5 152 148,jg 154 10 148,⟨some 155,.val (.slcp (some 4) (.t 153) (some (.t 154)) none none),(some (148,true))⟩,Hb 156 15 151 155 148,jj 157 148 156,ja 158 157,MG 159 8 158,jj 160 158 159,ja 6 160]
abbrev r4:RC:=jQ QRa (.seq (jQ QRb (.cond (.t 28) (jQ QRc (.ret)) (.skip))) (jQ QRd (.seq (jQ QRe (.cond (.t 40) (jQ QRf (.ret)) (.skip))) (jQ QRg (jQ QRh (.seq (jQ QRi (.block 0 (.loop QRk))) (.seq (jQ QH6 (.block 4 (.loop Qwv))) (jD QIb (.ret)))))))))
abbrev o4:List RR:=[.tmp 6]
theorem k4:CT 4 161 r4 o4:=ck Tryz.func4 Tryz.ntmps4 (by decide +kernel)
abbrev QRl:IL:=[je 1 1 0,jh 2]
abbrev QRm:IL:=[jf 3 2 1,⟨some 4,.callR (.f 17) [(.t 3)],none⟩,ja 5 4,zp 6 2 1 5,zg 7 18 6 5,yl 8 7 0 5,jj 9 5 8,ja 2 9]
abbrev r5:RC:=jQ QRl (jQ QRm (.ret))
abbrev o5:List RR:=[.tmp 2]
theorem k5:CT 5 10 r5 o5:=ck Tryz.func5 Tryz.ntmps5 (by decide +kernel)
abbrev QRn:IL:=[je 2 2 0,jh 4]
abbrev QRo:IL:=[jf 5 7 2,ja 6 1,⟨some 7,.callR (.f 19) [(.t 5),(.c (.int .i64 1)),(.t 6)],none⟩,yo 8 7 0,ja 4 8]
abbrev r6:RC:=jQ QRn (jQ QRo (.ret))
abbrev o6:List RR:=[.tmp 4]
theorem k6:CT 6 9 r6 o6:=ck Tryz.func6 Tryz.ntmps6 (by decide +kernel)
abbrev QIc:IL:=[je 3 3 0,je 5 5 2,jh 6]
abbrev QId:IL:=[jw 7 0 3 2 3,ja 8 1,jw 9 0 5 7 5,yh 10 7 7 8 9,js 11 10 0,ja 12 11,DZ 13 0 5 7 5 12,DZ 14 0 3 2 3 12,jg 15 1 12,DZ 16 0 5 7 5 12,⟨some 17,.call (.f 9) [(.t 14),(.t 15),(.t 16)],(some (12,true))⟩,Hb 18 12 13 17 12,jj 19 12 18,ja 6 19]
abbrev Ax:RC:=jQ QIc (jD QId (.ret))
abbrev o13:List RR:=[.tmp 6]
theorem k13:CT 13 20 Ax o13:=ck Tryz.func13 Tryz.ntmps13 (by decide +kernel)
abbrev QIe:IL:=[je 1 1 0,jh 2]
abbrev QIf:IL:=[jb 9 0 1,jc 10 9,ji 11 1 10,yn 12 11 60,ja 13 12,jn 14 1 1 13,jt 15 14 13,ye 16 1 15 13,yr 17 16 60 13,jo 18 13 17]
abbrev QIg:IL:=[jh 2]
abbrev QIh:IL:=[jd 3 400]
abbrev QIi:IL:=[jd 4 0]
abbrev QIj:IL:=[ja 19 4,jb 20 0 1,jc 21 20,ji 22 1 21,jp 23 19 22,ja 24 23,jg 25 3 24,Gs 26 25 0 24,jj 27 24 26]
abbrev QIk:IL:=[ja 30 3,jb 31 0 1,jc 32 31,ja 33 4,jl 34 3 32 33,jb 35 1 34,jc 36 35,ji 37 1 36,N3 38 30 37,ja 3 38]
abbrev QIl:IL:=[ja 39 3,yw 40 39 0,ja 41 40,jn 42 0 1 41,jt 43 42 41,jv 44 4 41,yz 45 3 43 44 41,jn 46 0 45 41,jt 47 46 41,ye 48 0 47 41,yr 49 48 300 41,jo 50 41 49]
abbrev QIm:IL:=[jh 2]
abbrev Qww:IL:=[jd 5 0]
abbrev Qwx:IL:=[ja 51 5,jb 52 0 1,jc 53 52,ja 54 4,jl 55 3 53 54,jb 56 1 55,jc 57 56,ji 58 1 57,jp 59 51 58]
abbrev Qwy:IL:=[jb 62 0 1,jc 63 62,ja 64 4,jl 65 3 63 64,jb 66 1 65,jc 67 66,ja 68 5,jl 69 8 67 68,jb 70 1 69,jc 71 70,ji 72 0 71,yn 73 72 300,ja 74 73,jn 75 0 1 74,jt 76 75 74,jv 77 4 74,yz 78 3 76 77 74,jn 79 1 78 74,jt 80 79 74,jv 81 5 74,yz 82 8 80 81 74,jn 83 2 82 74,jt 84 83 74,ye 85 0 84 74,yr 86 85 300 74,jo 87 74 86]
abbrev Qwz:IL:=[jh 2]
abbrev QwA:IL:=[ja 60 5,jm 61 60 1,ja 5 61]
abbrev Ay:RC:=.seq (jQ Qwx (jX 59 2)) (.seq (.block 3 (jQ Qwy (.cond (.t 87) (jQ Qwz (.ret)) (.skip)))) (.reg QwA))
abbrev QIn:IL:=[ja 28 4,jm 29 28 1,ja 4 29]
abbrev Az:RC:=.seq (jQ QIj (jX 27 0)) (.seq (.block 1 (jQ QIk (.seq (jQ QIl (.cond (.t 50) (jQ QIm (.ret)) (.skip))) (jQ Qww (.block 2 (.loop Ay)))))) (.reg QIn))
abbrev QwB:IL:=[jd 6 0]
abbrev QwC:IL:=[ja 88 6,jb 89 1 1,jc 90 89,ji 91 1 90,jp 92 88 91,ja 93 92,jg 94 3 93,Gs 95 94 0 93,jj 96 93 95]
abbrev QwD:IL:=[jb 99 1 1,jc 100 99,ja 101 6,jl 102 5 100 101,jf 103 5 102,⟨some 7,.allocN 7 [.str [],.bool false,.nils,.nils,.nils],none⟩,jq 5 7 103]
abbrev QwE:IL:=[jb 104 2 7,jc 105 104,ji 106 1 105,ja 107 3,zy 108 106 107,ja 109 108,jn 110 3 7 109,jt 111 110 109,ye 112 1 111 109,jv 113 3 109,⟨some 114,.val (.bin .num .gtr (.t 112) (.t 113)),(some (109,false))⟩,jo 115 109 114,ja 116 115,jn 117 0 7 116,jt 118 117 116,ye 119 0 118 116,yr 120 119 300 116,jo 121 116 120]
abbrev QwF:IL:=[jh 2]
abbrev QwG:IL:=[ja 122 3,jb 123 2 7,jc 124 123,ji 125 1 124,N3 126 122 125,jb 127 3 7,jc 128 127,ji 129 1 128,N3 130 126 129,ja 3 130]
abbrev QwH:IL:=[jd 8 0]
abbrev QwI:IL:=[ja 131 8,jb 132 2 7,jc 133 132,ji 134 1 133,jp 135 131 134]
abbrev QwJ:IL:=[jb 138 2 7,jc 139 138,ja 140 8,jl 141 3 139 140,jb 142 0 141,jc 143 142,ji 144 0 143,yn 145 144 300,ja 146 145,jn 147 2 7 146,jt 148 147 146,jv 149 8 146,yz 150 3 148 149 146,jn 151 2 150 146,jt 152 151 146,ye 153 1 152 146,yr 154 153 1 146,jo 155 146 154,ja 156 155,jn 157 2 7 156,jt 158 157 156,jv 159 8 156,yz 160 3 158 159 156,jn 161 2 160 156,jt 162 161 156,ye 163 1 162 156,yq 164 163 1 156,jv 165 164 156,jk 166 2 7 165,ju 167 166 165,jg 168 8 165,ya 169 3 167 168 165,jk 170 2 169 165,ju 171 170 165,NY 172 8 171 0 165,jk 173 1 172 165,jk 174 2 173 165,ju 175 174 165,ys 176 0 175 165,N1 177 176 300 165,yx 178 165 177 156,jo 179 156 178]
abbrev QwK:IL:=[jh 2]
abbrev QwL:IL:=[ja 136 8,jm 137 136 1,ja 8 137]
abbrev AA:RC:=.seq (jQ QwI (jX 135 6)) (.seq (.block 7 (jQ QwJ (.cond (.t 179) (jQ QwK (.ret)) (.skip)))) (.reg QwL))
abbrev QwM:IL:=[ja 97 6,jm 98 97 1,ja 6 98]
abbrev AB:RC:=.gho (.drop 7) (.seq (jQ QwC (jX 96 4)) (.seq (.block 5 (jQ QwD (.seq (jQ QwE (.cond (.t 121) (jQ QwF (.ret)) (.skip))) (jQ QwG (jQ QwH (.block 6 (.loop AA))))))) (.reg QwM)))
abbrev QwN:IL:=[ja 180 3,yo 181 180 0,ja 2 181]
abbrev B8:RC:=jQ QIe (.seq (jQ QIf (.cond (.t 18) (jQ QIg (.ret)) (.skip))) (jQ QIh (.seq (jQ QIi (.block 0 (.loop Az))) (.seq (jQ QwB (.block 4 (.loop AB))) (jQ QwN (.ret))))))
abbrev o17:List RR:=[.tmp 2]
theorem k17:CT 17 182 B8 o17:=ck Tryz.func17 Tryz.ntmps17 (by decide +kernel)
abbrev QIo:IL:=[je 3 3 0,jd 6 0]
abbrev QIp:IL:=[ja 11 2,zi 12 11 1,ja 2 12]
abbrev QIq:IL:=[ja 13 1,yn 14 13 40,ja 15 14,jn 16 2 3 15,jt 17 16 15,ye 18 0 17 15,yr 19 18 5000 15,jo 20 15 19,ja 21 20,jn 22 6 3 21,jt 23 22 21,ye 24 1 23 21,jv 25 2 21,⟨some 26,.val (.bin .num .gtr (.t 24) (.t 25)),(some (21,false))⟩,jo 27 21 26]
abbrev QIr:IL:=[jd 6 (-1)]
abbrev QIs:IL:=[ja 28 2,jb 29 6 3,jc 30 29,ji 31 1 30,N3 32 28 31,ja 2 32]
abbrev QIt:IL:=[jd 7 0]
abbrev QIu:IL:=[ja 33 7,jb 34 6 3,jc 35 34,ji 36 1 35,jp 37 33 36]
abbrev QIv:IL:=[jb 40 6 3,jc 41 40,ja 42 7,jl 43 4 41 42,jb 44 3 43,jc 45 44,ji 46 0 45,yn 47 46 5000]
abbrev QIw:IL:=[jd 6 (-1)]
abbrev QIx:IL:=[ja 38 7,jm 39 38 1,ja 7 39]
abbrev QIy:RC:=.seq (jQ QIu (jX 37 0)) (.seq (.block 1 (jQ QIv (.cond (.t 47) (jQ QIw (.ret)) (.skip)))) (.reg QIx))
abbrev QwP:IL:=[jd 8 0]
abbrev QwQ:IL:=[ja 48 8,jb 49 3 3,jc 50 49,ji 51 1 50,jp 52 48 51,ja 53 52,jg 54 2 53,Gs 55 54 0 53,jj 56 53 55]
abbrev QwR:IL:=[jb 59 3 3,jc 60 59,ja 61 8,jl 62 7 60 61,jf 63 7 62,ja 64 1,jm 65 64 1,ja 66 2,⟨some 67,.callR (.f 19) [(.t 63),(.t 65),(.t 66)],none⟩,ja 2 67]
abbrev QwS:IL:=[ja 57 8,jm 58 57 1,ja 8 58]
abbrev AC:RC:=.seq (jQ QwQ (jX 56 2)) (.seq (.block 3 (.reg QwR)) (.reg QwS))
abbrev QwT:IL:=[jd 9 0]
abbrev QwU:IL:=[ja 68 9,jb 69 4 3,jc 70 69,ji 71 1 70,jp 72 68 71,ja 73 72,jg 74 2 73,Gs 75 74 0 73,jj 76 73 75]
abbrev QwV:IL:=[jb 79 4 3,jc 80 79,ja 81 9,jl 82 14 80 81,jb 83 0 82,jf 84 7 83,ja 85 1,jm 86 85 1,ja 87 2,⟨some 88,.callR (.f 19) [(.t 84),(.t 86),(.t 87)],none⟩,ja 2 88]
abbrev QwW:IL:=[ja 89 2,yo 90 89 0]
abbrev QwX:IL:=[jb 91 4 3,jc 92 91,ja 93 9,jl 94 14 92 93,jb 95 7 94,jf 96 7 95,ja 97 1,jm 98 97 1,ja 99 2,⟨some 100,.callR (.f 19) [(.t 96),(.t 98),(.t 99)],none⟩,ja 2 100]
abbrev QwY:IL:=[ja 77 9,jm 78 77 1,ja 9 78]
abbrev AD:RC:=.seq (jQ QwU (jX 76 4)) (.seq (.block 5 (jQ QwV (jQ QwW (.cond (.t 90) (.reg QwX) (.skip))))) (.reg QwY))
abbrev QwZ:IL:=[jd 10 0]
abbrev Qw0:IL:=[ja 101 10,jb 102 5 3,jc 103 102,ji 104 1 103,jp 105 101 104,ja 106 105,jg 107 2 106,Gs 108 107 0 106,jj 109 106 108]
abbrev Qw1:IL:=[jb 112 5 3,jc 113 112,ja 114 10,jl 115 8 113 114,jb 116 1 115,jf 117 7 116,ja 118 1,jm 119 118 1,ja 120 2,⟨some 121,.callR (.f 19) [(.t 117),(.t 119),(.t 120)],none⟩,ja 2 121]
abbrev Qw2:IL:=[ja 110 10,jm 111 110 1,ja 10 111]
abbrev AE:RC:=.seq (jQ Qw0 (jX 109 6)) (.seq (.block 7 (.reg Qw1)) (.reg Qw2))
abbrev Qw3:IL:=[ja 122 2,ja 6 122]
abbrev r19:RC:=jQ QIo (jQ QIp (.seq (jQ QIq (.cond (.t 27) (jQ QIr (.ret)) (.skip))) (jQ QIs (.seq (jQ QIt (.block 0 (.loop QIy))) (.seq (jQ QwP (.block 2 (.loop AC))) (.seq (jQ QwT (.block 4 (.loop AD))) (.seq (jQ QwZ (.block 6 (.loop AE))) (jQ Qw3 (.ret)))))))))
abbrev o19:List RR:=[.tmp 6]
theorem k19:CT 19 123 r19 o19:=ck Tryz.func19 Tryz.ntmps19 (by decide +kernel)
end Go.Proofs.YtdhlbgejhcejcaaGreatDoor.Rc

namespace Go.Proofs.YtdhlbgejhcejcaaGreatDoor.Va
open Go Am Rc Bt Br Up So

section
variable {α β:Type}{lt:β→β→Bool}{lt':α→α→Bool}{F:α→β}(h:∀x y,lt (F x) (F y)=lt' x y)
include h
theorem B9 (a:α):∀l:List α,ZB lt (F a) (l.map F)=(ZB lt' a l).map F
 | []=>rfl
 |x :: l=>by
  rw[QWM,ZB,ZB,h x a];cases lt' x a
  ·rfl
  ·show F x :: ZB lt (F a) (l.map F)=_;rw[B9 a l];rfl
theorem K9:∀l:List α,QD lt (l.map F)=(QD lt' l).map F
 | []=>rfl
 |a :: l=>by
  rw[QWM,QD,K9 l,B9 h a];rfl
end
theorem Na {α β:Type}{lt:β→β→Bool}(h:SW lt)(f:α→β):SW fun x y=>lt (f x) (f y) where
 irr _:=h.irr _
 tr _ _ _:=h.tr _ _ _
 nt _ _ _:=h.nt _ _ _
theorem Qw4:SW fun a b:Int=>decide (a<b) where
 irr x:=by simp
 tr x y z h k:=by simp only[QWl]at *;omega
 nt x y z h k:=by simp only[QYb]at *;omega
theorem FB (a b:Int):decide (cN a b<0)=decide (a<b):=by
 unfold cN;split
 ·rename_i h;simp[h]
 ·rename_i h;split<;>simp[h]
theorem AF (a b:List UInt8):decide (cS a b<0)=Op.bytesLess a b:=by
 unfold cS;cases Op.bytesLess a b
 ·cases(a==b)<;>simp
 ·simp

theorem Uw {z:Nat}(hz:z≠0){xs:List AV}(h:xs.all (fun e=>e.cells.length==z)=true)(hf:QK xs=[]):xs=[]:=by
 cases xs with
 |nil=>rfl
 |cons x xs=>
  have hl:x.cells.length=z:=by simpa using QWs.1 h x (by simp)
  have:x.cells=[]:=(List.append_eq_nil_iff.1 hf).1;rw[this]at hl;exact absurd hl.symm hz

theorem v95 (xs:List AV)(fr:Nat→Ob)(m:Qn)(h:xs.all (fun e=>e.cells.length==4)=true)(hn:xs.length≤1048576)(hr:Qt (fr 1000)=true) :
  Qh Tryz.prog 95 [.list xs] (fr :: m) (fun x m1=>x=.vec 0 1000 (Xy (fr 1000)) 0 xs.length false∧m1=QH fr 1000 (.vec (Xy (fr 1000)) 4 xs) :: m):=by
 have hng:QF (fr :: m) 0 1000=Xy (fr 1000):=JW;refine k95.go (by simp) ?_;simp only[SL,V7,V8,Qa,seval];refine Jq (ys:=xs) (by simp only[Qa,seval]) ?_ ?_
 ·simp only[Ca,Qa,seval];refine ZN rfl ?_;simp only[Qa,seval];refine QM (site:=5) (g:=1) (xs:=[]) (ys:=xs) rfl rfl rfl rfl rfl h (by simp[maxLen];omega) (by simp;omega) ?_;simp only[Qa,seval];refine X8 (l:=0) (site:=5) (g:=2) (o:=0) (n:=xs.length) (q:=false) (sz:=4) (xs:=xs) (by simp only[QWW,Qa,seval]) (by simp only[Qa,seval]) (by simp) (by decide) hr ?_;simp only[hng,N4,eE,seval]
  try simp[AV.still,AV.un,Zv,XL]
 ·intro he;have hx:xs=[]:=by
   rcases he with he|he
   ·exact he
   ·exact Uw (by decide) h he
  subst hx;simp only[V9,Qa,seval];refine Zj (by simp only[Qa,seval]) rfl ?_;simp only[Qa,seval];refine X8 (l:=0) (site:=2) (g:=1) (o:=0) (n:=0) (q:=false) (sz:=4) (xs:=[]) (by simp only[Qa,seval]) (by simp only[Qa,seval]) (by simp) (by decide) hr ?_;simp only[hng,N4,eE,seval]
  try simp[AV.still,AV.un,Zv,XL]

theorem QRp (xs:List AV)(fr:Nat→Ob)(m:Qn)(h:xs.all (fun e=>e.cells.length==8)=true)(hn:xs.length≤1048576)(hr:Qt (fr 1000)=true) :
  Qh Tryz.prog 185 [.list xs] (fr :: m) (fun x m1=>x=.vec 0 1000 (Xy (fr 1000)) 0 xs.length false∧m1=QH fr 1000 (.vec (Xy (fr 1000)) 8 xs) :: m):=by
 have hng:QF (fr :: m) 0 1000=Xy (fr 1000):=JW;refine RF.go (by simp) ?_;simp only[Cc,Bi,Bj,Qa,seval];refine Jq (ys:=xs) (by simp only[Qa,seval]) ?_ ?_
 ·simp only[Bl,Qa,seval];refine ZN rfl ?_;simp only[Qa,seval];refine QM (site:=5) (g:=1) (xs:=[]) (ys:=xs) rfl rfl rfl rfl rfl h (by simp[maxLen];omega) (by simp;omega) ?_;simp only[Qa,seval];refine X8 (l:=0) (site:=5) (g:=2) (o:=0) (n:=xs.length) (q:=false) (sz:=8) (xs:=xs) (by simp only[QWW,Qa,seval]) (by simp only[Qa,seval]) (by simp) (by decide) hr ?_;simp only[hng,Dp,eE,seval]
  try simp[AV.still,AV.un,Zv,XL]
 ·intro he;have hx:xs=[]:=by
   rcases he with he|he
   ·exact he
   ·exact Uw (by decide) h he
  subst hx;simp only[Bk,Qa,seval];refine Zj (by simp only[Qa,seval]) rfl ?_;simp only[Qa,seval];refine X8 (l:=0) (site:=2) (g:=1) (o:=0) (n:=0) (q:=false) (sz:=8) (xs:=[]) (by simp only[Qa,seval]) (by simp only[Qa,seval]) (by simp) (by decide) hr ?_;simp only[hng,Dp,eE,seval]
  try simp[AV.still,AV.un,Zv,XL]

theorem QRq (xs:List AV)(fr:Nat→Ob)(m:Qn)(h:xs.all (fun e=>e.cells.length==14)=true)(hn:xs.length≤1048576)(hr:Qt (fr 1000)=true) :
  Qh Tryz.prog 228 [.list xs] (fr :: m) (fun x m1=>x=.vec 0 1000 (Xy (fr 1000)) 0 xs.length false∧m1=QH fr 1000 (.vec (Xy (fr 1000)) 14 xs) :: m):=by
 have hng:QF (fr :: m) 0 1000=Xy (fr 1000):=JW;refine QN2.go (by simp) ?_;simp only[Qt3,Pd,Pe,Qa,seval];refine Jq (ys:=xs) (by simp only[Qa,seval]) ?_ ?_
 ·simp only[Ph,Qa,seval];refine ZN rfl ?_;simp only[Qa,seval];refine QM (site:=5) (g:=1) (xs:=[]) (ys:=xs) rfl rfl rfl rfl rfl h (by simp[maxLen];omega) (by simp;omega) ?_;simp only[Qa,seval];refine X8 (l:=0) (site:=5) (g:=2) (o:=0) (n:=xs.length) (q:=false) (sz:=14) (xs:=xs) (by simp only[QWW,Qa,seval]) (by simp only[Qa,seval]) (by simp) (by decide) hr ?_;simp only[hng,RL,eE,seval]
  try simp[AV.still,AV.un,Zv,XL]
 ·intro he;have hx:xs=[]:=by
   rcases he with he|he
   ·exact he
   ·exact Uw (by decide) h he
  subst hx;simp only[Pf,Qa,seval];refine Zj (by simp only[Qa,seval]) rfl ?_;simp only[Qa,seval];refine X8 (l:=0) (site:=2) (g:=1) (o:=0) (n:=0) (q:=false) (sz:=14) (xs:=[]) (by simp only[Qa,seval]) (by simp only[Qa,seval]) (by simp) (by decide) hr ?_;simp only[hng,RL,eE,seval]
  try simp[AV.still,AV.un,Zv,XL]

section rows
variable {fr:Nat→Ob}{m:Qn}{s g z n i:Nat}{xs l:List AV}
theorem Qw5 (h:fr s=.vec g z xs)(hi:i<n):Qb (fr :: m) z none (.vec 0 s g 0 n false) ((i:Nat):Int)=some (.vptr 0 s g i 0):=by
 have e:Am.Qf (fr :: m) 0 s=.vec g z xs:=h;simp only[Qb,e,QXI];rw[QWJ (by omega),QWJ ⟨trivial,trivial,hi⟩,QWW]
theorem Sh {k:Nat}(h:fr s=.vec g z xs)(hx:xs[i]? = some (.agg l))(hk:k≤l.length):Q8 (fr :: m) (some k) (.vptr 0 s g i 0)=some (.agg (l.take k)):=by
 have e:Am.Qf (fr :: m) 0 s=.vec g z xs:=h;simp only[Q8,e,if_true,hx,Am.part];show(if 0+k≤l.length then some (AV.agg ((l.drop 0).take k))else none)=_;rw[QWJ (by omega),QWX]
theorem QRr {o:Nat}(h:fr s=.vec g z xs)(hx:xs[i]? = some (.agg l)):Q8 (fr :: m) none (.vptr 0 s g i o)=l[o]?:=by
 have e:Am.Qf (fr :: m) 0 s=.vec g z xs:=h;simp only[Q8,e,if_true,hx,Am.part,AV.cells]
end rows

def eS (x:AV):Prop:=∃s:Int×V,x=V.sav s
theorem QIz (s:Int×V):Ez eS 8 (V.sav s):=by
 refine⟨⟨s,rfl⟩,?_⟩;rw[ZK];exact⟨_,rfl,rfl,rfl,rfl,fun _=>rfl⟩
def nA:AV→Int
 |.agg (.int _ n :: _)=>n
 |_=>0
def cA (x y:AV):Int:=cN (nA x) (nA y)
theorem CL (x y:AV):Tz.lt cA x y=decide (nA x<nA y):=FB _ _
theorem AG:SW (Tz.lt cA):=by
 have e:Tz.lt cA=fun x y=>decide (nA x<nA y):=by funext x y;exact CL x y
 rw[e];exact Na Qw4 nA
theorem G8 (s:Int×V):nA (V.sav s)=s.1:=by rw[ZK];rfl

theorem QRs (x y:Int×V):Qi Tryz.prog 187 [V.sav x,V.sav y] (.int .i64 (cN x.1 y.1)):=by
 rw[ZK,ZK];refine Qg1.fn (by simp) ?_;simp only[eE,seval];refine aC (Cz x.1 y.1) ?_;simp only[Qa,seval]

theorem QRt:Tz.Cp Tryz.prog 8 eS 187 cA where
 call x y hx hy:=by
  obtain⟨s,rfl⟩:=hx.1;obtain⟨t,rfl⟩:=hy.1;unfold cA;rw[G8,G8];exact QRs s t
 sw:=AG

theorem Si (l:List (Int×V)):QD (Tz.lt cA) (l.map V.sav)=(JS l).map V.sav:=K9 (fun x y=>by rw[CL,G8,G8]) l
theorem W7 (l:List (Int×V)):(l.map V.sav).all (fun e=>e.cells.length==8)=true:=by
 rw[List.all_map,QWs];intro x _;simp[ZK,AV.cells]
theorem ezS (l:List (Int×V)):∀x∈l.map V.sav,Ez eS 8 x:=by
 intro x hx;obtain⟨s,_,rfl⟩:=QXB.1 hx;exact QIz s

def SoI (T:List (Int×V))(k:Nat)(st:St):Prop :=
 ∃f fr i g h,st=⟨f,[fr],[]⟩∧k=T.length-i∧i≤T.length∧f 3=.vec 0 1000 g 0 T.length false∧f 4=.vec 0 4 h 0 i false∧f 11=.vec 0 1000 g 0 T.length false∧f 12=.int .i64 (T.length:Nat)∧f 13=.int .i64 (i:Nat)∧fr 1000=.vec g 8 (T.map V.sav)∧fr 4=.vec h 8 ((T.take i).map V.sav)∧∀s∈[6],(fr s).isRow=false

theorem v96 (sl:List (Int×V))(hn:sl.length≤1048576)(hu:sl.Pairwise fun y x=>(y.1==x.1)=false):Qi Tryz.prog 96 [.list (sl.map V.sav)] (.list ((JS sl).map V.sav)):=by
 have cl:=fun fr hr=>QRp (sl.map V.sav) fr [] (W7 sl) (by rw[QXb];exact hn) hr
 have cs:=fun g (m:Qn) (hl:Am.Qf m 0 1000=.vec g 8 (sl.map V.sav))=>Tz.Sg Tg.Qws (by decide) QRt 0 1000 g (sl.map V.sav) m hl (ezS sl) (by rw[QXb];omega)
 simp only[Si,QXb]at cs;have hperm:(JS sl).Perm sl:=Q3 _;have hlen:(JS sl).length=sl.length:=hperm.length_eq;have hun:(JS sl).Pairwise fun y x=>(y.1==x.1)=false:=(hperm.pairwise_iff fun {a b} h=>by rw[Bool.beq_comm];exact h).2 hu
 generalize JS sl=T at *;refine k96.fn (by simp) ?_;simp only[Qa,seval];refine Qj (cl _ rfl) (by simp only[QWM,QXh,Qa,seval]) ?_;simp only[QXb,Qa,seval];refine Qj (cs _ _ (by simp only[eE,seval]<;>rfl)) (by simp only[QWM,QXh,Qa,seval]) ?_;simp only[eE,seval];refine Zj (by simp only[Qa,seval]) (by simp only[Qa,seval]) ?_;simp only[eE,seval];refine Qc (SoI T) _ ⟨_,_,0,_,_,rfl,rfl,QWo _,(by rw[hlen];exact(by rfl)),(by rfl),(by rw[hlen];exact(by rfl)),(by rw[hlen];exact(by rfl)),(by rfl),(by rfl),(by rfl),by simp<;>rfl⟩ ?_;rintro _ st ⟨f0,fr0,i,g,h,rfl,rfl,hil,h30,h40,h110,h120,h130,mR0,m40,r6⟩;refine QN (a:=_) [6] r6 ?_;intro f fr hf hm hn6;have h3:f 3=.vec 0 1000 g 0 T.length false:=by rw[hf,h30]<;>rfl
 have h4:f 4=.vec 0 4 h 0 i false:=by rw[hf,h40]<;>rfl
 have h11:f 11=.vec 0 1000 g 0 T.length false:=by rw[hf,h110]<;>rfl
 have h12:f 12=.int .i64 (T.length:Nat):=by rw[hf,h120]<;>rfl
 have h13:f 13=.int .i64 (i:Nat):=by rw[hf,h130]<;>rfl
 have mR:fr 1000=.vec g 8 (T.map V.sav):=by rw[hm 1000 (by decide),mR0]<;>rfl
 have m4:fr 4=.vec h 8 ((T.take i).map V.sav):=by rw[hm 4 (by decide),m40]<;>rfl
 have n6:=hn6 6 (by decide);clear hf hm hn6 h30 h40 h110 h120 h130 mR0 m40 r6;simp only[h12,h13,Qa,seval];by_cases hlt:i<T.length
 ·obtain⟨x,hi⟩:∃x,T[i]? = some x:=⟨T[i],QWh hlt⟩;have hg:=JQ hi;have e1:=Qo i _ hlt (by simp only[maxLen];omega);have ia:∀(fr:Nat→Ob) (j:Nat),fr 1000=.vec g 8 (T.map V.sav)→j<T.length→Qb [fr] 8 none (.vec 0 1000 g 0 T.length false) ((j:Nat):Int)=some (.vptr 0 1000 g j 0):=fun fr j h hj=>Qw5 h hj
  have la:∀(fr:Nat→Ob),fr 1000=.vec g 8 (T.map V.sav)→Q8 [fr] (some 8) (.vptr 0 1000 g i 0)=some (.agg [.int .i64 x.1,.int .i64 x.2.kd,.int .u64 (x.2.bits:Nat),.str x.2.text,.list (x.2.list.map V.av),.list (x.2.pairs.map V.pav),.list (x.2.slots.map V.sav),.list (x.2.raws.map R.av)]):=fun fr h=>Sh h hg (by simp)
  have fin:∀(f':Fr) (fr':Nat→Ob) (h':Nat),f' 3=.vec 0 1000 g 0 T.length false→f' 4=.vec 0 4 h' 0 (i+1) false→f' 11=.vec 0 1000 g 0 T.length false→f' 12=.int .i64 (T.length:Nat)→f' 13=.int .i64 ((i+1:Nat):Int)→fr' 1000=.vec g 8 (T.map V.sav)→fr' 4=.vec h' 8 ((T.take i).map V.sav++[V.sav x])→(∀s∈[6],(fr' s).isRow=false)→∃k,k<T.length-i∧SoI T k ⟨f',[fr'],[]⟩:=by
   intro f' fr' h' a3 a4 a11 a12 a13 b1 b4 b6;exact⟨T.length-(i+1),by omega,f',fr',i+1,g,h',rfl,rfl,by omega,a3,a4,a11,a12,a13,b1,by rw[b4,QX0,hi];simp,b6⟩
  have hti:((T.take i).map V.sav).length=i:=by rw[QXb,QXd];omega
  simp only[Ql hlt,ia,la,mR,hlt,n6,h3,h11,h13,e1,eE,seval];by_cases hl:i+1=T.length
  ·have d1:(((i+1:Nat):Int)==(T.length:Int))=true:=by simp;omega
   simp only[d1,h4,eE,seval];refine QY (l:=[V.sav x]) rfl rfl rfl (by rw[ZK];rfl) ?_;refine QM (site:=4) (g:=h) (n:=i) (xs:=(T.take i).map V.sav) (ys:=[V.sav x]) (by rfl) (by exact m4) rfl hti.symm rfl (W7 [x]) (by simp only[QWv,QXc,maxLen];omega) (by simp only[QWv,QXc];omega) ?_;simp only[h13,e1,Qa,seval];exact fin _ _ (h+1) (by exact h3) (by rfl) (by exact h11) (by exact h12) (by rfl) (by exact mR) (by rfl) (by simp<;>rfl)
  ·have d1:(((i+1:Nat):Int)==(T.length:Int))=false:=by simp;omega
   have hlt1:i+1<T.length:=by omega
   obtain⟨y,hj⟩:∃y,T[i+1]? = some y:=⟨T[i+1],QWh hlt1⟩;have hgj:=JQ hj;have lc:∀(fr:Nat→Ob),fr 1000=.vec g 8 (T.map V.sav)→Q8 [fr] none (.vptr 0 1000 g (i+1) 0)=some (.int .i64 y.1):=fun fr h=>QRr h hgj
   have hne:(x.1 != y.1)=true:=by
    rw[QYj]at hun;have:=hun i (i+1) hlt hlt1 (by omega);rw[(QWg.1 hi).2,(QWg.1 hj).2]at this
    simpa using this
   simp only[d1,ia,lc,mR,hlt1,hne,Wh,QWW,h3,h4,e1,eE,seval];refine QY (l:=[V.sav x]) rfl rfl rfl (by rw[ZK];rfl) ?_;refine QM (site:=4) (g:=h) (n:=i) (xs:=(T.take i).map V.sav) (ys:=[V.sav x]) (by rfl) (by exact m4) rfl hti.symm rfl (W7 [x]) (by simp only[QWv,QXc,maxLen];omega) (by simp only[QWv,QXc];omega) ?_;simp only[h13,e1,Qa,seval];exact fin _ _ (h+1) (by exact h3) (by rfl) (by exact h11) (by exact h12) (by rfl) (by exact mR) (by rfl) (by simp<;>rfl)
 ·have e:i=T.length:=by omega
  subst e;rw[QXR]at m4;simp only[QA hlt,h4,eE,seval];simp[AV.un,Zv,XL,m4];rw[QWO (by rw[QXb];exact QWe _)]

def eP (P:PL)(k:Int)(x:AV):Prop:=∃p:V×V,x=V.pav p∧p.1.one P k (-1)=0∧p.1.bits<18446744073709551616
theorem ezP {P:PL}{k:Int}{p:V×V}(h:p.1.one P k (-1)=0)(hb:p.1.bits<18446744073709551616):Ez (eP P k) 14 (V.pav p):=by
 refine⟨⟨p,rfl,h,hb⟩,?_⟩;rw[Ke];exact⟨_,rfl,rfl,rfl,rfl,fun _=>rfl⟩
def kV:AV→V
 |.agg (_ :: .int _ b :: .str t :: _)=>.mk 0 b.toNat t [] [] [] []
 |_=>.mk 0 0 [] [] [] [] []
theorem G9 (p:V×V):kV (V.pav p)=.mk 0 p.1.bits p.1.text [] [] [] []:=by rw[Ke];rfl
def cP (k:Int)(x y:AV):Int:=Hl k (kV x).bits (kV x).text (kV y).bits (kV y).text
theorem P4 (k:Int)(a b:V):decide (Hl k a.bits a.text b.bits b.text<0)=kl k a b:=by
 unfold Hl kl;split
 ·exact AF _ _
 ·split
  ·exact FB _ _
  ·exact FB _ _
theorem QIA (k:Int):SW (Tz.lt (cP k)):=by
 have e:Tz.lt (cP k)=fun x y=>kl k (kV x,kV x).1 (kV y,kV y).1:=by funext x y;exact P4 k _ _
 rw[e];exact Na (YH k) fun x=>(kV x,kV x)

theorem QRu {P:PL}{k:Int}(hk:Zb k)(x y:V×V)(hx:x.1.one P k (-1)=0)(hy:y.1.one P k (-1)=0):Qi Tryz.prog 230 [V.pav x,V.pav y] (.int .i64 (Hl k x.1.bits x.1.text y.1.bits y.1.text)):=by
 have h:=Qwo k hk x.1.bits y.1.bits x.1.text y.1.text;rw[←(Z8 hx).1,←(Z8 hy).1,Qw,Qw]at h;rw[Ke,Ke];refine QN5.fn (by simp) ?_;simp only[QWN,QXp,QWX,eE,seval];refine aC h ?_;simp only[Qa,seval]

theorem QRv {P:PL}{k:Int}(hk:Zb k):Tz.Cp Tryz.prog 14 (eP P k) 230 (cP k) where
 call x y hx hy:=by
  obtain⟨p,rfl,h1,_⟩:=hx.1;obtain⟨q,rfl,h2,_⟩:=hy.1;unfold cP;rw[G9,G9];exact QRu hk p q h1 h2
 sw:=QIA k

theorem Sj (k:Int)(l:List (V×V)):QD (Tz.lt (cP k)) (l.map V.pav)=(Q0 k l).map V.pav:=K9 (fun x y=>by
 show decide (cP k (V.pav x) (V.pav y)<0)=_;unfold cP;rw[G9,G9];exact P4 k x.1 y.1) l
theorem Wa (l:List (V×V)):(l.map V.pav).all (fun e=>e.cells.length==14)=true:=by
 rw[List.all_map,QWs];intro x _;simp[Ke,AV.cells]

def PoI (T:List (V×V))(k:Nat)(st:St):Prop :=
 ∃f fr i g h,st=⟨f,[fr],[]⟩∧k=T.length-i∧i≤T.length∧f 3=.vec 0 1000 g 0 T.length false∧f 4=.vec 0 4 h 0 i false∧f 11=.vec 0 1000 g 0 T.length false∧f 12=.int .i64 (T.length:Nat)∧f 13=.int .i64 (i:Nat)∧fr 1000=.vec g 14 (T.map V.pav)∧fr 4=.vec h 14 ((T.take i).map V.pav)∧∀s∈[6],(fr s).isRow=false

theorem QRw {P:PL}{k:Int}(hk:Zb k)(ps:List (V×V))(hn:ps.length≤1048576)(h1:∀p∈ps,p.1.one P k (-1)=0)(hb:∀p∈ps,p.1.bits<18446744073709551616)(hu:ps.Pairwise fun q p=>ZJ q.1 p.1=false):Qi Tryz.prog 189 [.list (ps.map V.pav)] (.list ((Q0 k ps).map V.pav)):=by
 have cl:=fun fr hr=>QRq (ps.map V.pav) fr [] (Wa ps) (by rw[QXb];exact hn) hr
 have ez:∀x∈ps.map V.pav,Ez (eP P k) 14 x:=by
  intro x hx;obtain⟨p,hp,rfl⟩:=QXB.1 hx;exact ezP (h1 p hp) (hb p hp)
 have cs:=fun g (m:Qn) (hl:Am.Qf m 0 1000=.vec g 14 (ps.map V.pav))=>Tz.Sg Tg.Qwt (by decide) (QRv (P:=P) hk) 0 1000 g (ps.map V.pav) m hl ez (by rw[QXb];omega)
 simp only[Sj,QXb]at cs;have hperm:(Q0 k ps).Perm ps:=Q3 _;have hlen:(Q0 k ps).length=ps.length:=hperm.length_eq;have hun:(Q0 k ps).Pairwise fun q p=>ZJ q.1 p.1=false:=(hperm.pairwise_iff fun {a b} h=>by unfold ZJ at *;rw[←h,Bool.beq_comm (a:=b.1.bits),Bool.beq_comm (a:=b.1.text)]).2 hu
 have h1T:∀p∈Q0 k ps,p.1.one P k (-1)=0:=fun p hp=>h1 p (hperm.mem_iff.1 hp)
 have hbT:∀p∈Q0 k ps,p.1.bits<18446744073709551616:=fun p hp=>hb p (hperm.mem_iff.1 hp)
 generalize Q0 k ps=T at *;refine QNp.fn (by simp) ?_;simp only[Qa,seval];refine Qj (cl _ rfl) (by simp only[QWM,QXh,Qa,seval]) ?_;simp only[QXb,Qa,seval];refine Qj (cs _ _ (by simp only[eE,seval]<;>rfl)) (by simp only[QWM,QXh,Qa,seval]) ?_;simp only[eE,seval];refine Zj (by simp only[Qa,seval]) (by simp only[Qa,seval]) ?_;simp only[eE,seval];refine Qc (PoI T) _ ⟨_,_,0,_,_,rfl,rfl,QWo _,(by rw[hlen];exact(by rfl)),(by rfl),(by rw[hlen];exact(by rfl)),(by rw[hlen];exact(by rfl)),(by rfl),(by rfl),(by rfl),by simp<;>rfl⟩ ?_;rintro _ st ⟨f0,fr0,i,g,h,rfl,rfl,hil,h30,h40,h110,h120,h130,mR0,m40,r6⟩;refine QN (a:=_) [6] r6 ?_;intro f fr hf hm hn6;have h3:f 3=.vec 0 1000 g 0 T.length false:=by rw[hf,h30]<;>rfl
 have h4:f 4=.vec 0 4 h 0 i false:=by rw[hf,h40]<;>rfl
 have h11:f 11=.vec 0 1000 g 0 T.length false:=by rw[hf,h110]<;>rfl
 have h12:f 12=.int .i64 (T.length:Nat):=by rw[hf,h120]<;>rfl
 have h13:f 13=.int .i64 (i:Nat):=by rw[hf,h130]<;>rfl
 have mR:fr 1000=.vec g 14 (T.map V.pav):=by rw[hm 1000 (by decide),mR0]<;>rfl
 have m4:fr 4=.vec h 14 ((T.take i).map V.pav):=by rw[hm 4 (by decide),m40]<;>rfl
 have n6:=hn6 6 (by decide);clear hf hm hn6 h30 h40 h110 h120 h130 mR0 m40 r6;simp only[h12,h13,Qa,seval];by_cases hlt:i<T.length
 ·obtain⟨x,hi⟩:∃x,T[i]? = some x:=⟨T[i],QWh hlt⟩;have hg:=Jl hi;have e1:=Qo i _ hlt (by simp only[maxLen];omega);have ia:∀(fr:Nat→Ob) (j:Nat),fr 1000=.vec g 14 (T.map V.pav)→j<T.length→Qb [fr] 14 none (.vec 0 1000 g 0 T.length false) ((j:Nat):Int)=some (.vptr 0 1000 g j 0):=fun fr j h hj=>Qw5 h hj
  have la:∀(fr:Nat→Ob),fr 1000=.vec g 14 (T.map V.pav)→Q8 [fr] (some 14) (.vptr 0 1000 g i 0)=some (.agg [.int .i64 x.1.kd,.int .u64 (x.1.bits:Nat),.str x.1.text,.list (x.1.list.map V.av),.list (x.1.pairs.map V.pav),.list (x.1.slots.map V.sav),.list (x.1.raws.map R.av),.int .i64 x.2.kd,.int .u64 (x.2.bits:Nat),.str x.2.text,.list (x.2.list.map V.av),.list (x.2.pairs.map V.pav),.list (x.2.slots.map V.sav),.list (x.2.raws.map R.av)]):=fun fr h=>Sh h hg (by simp)
  have fin:∀(f':Fr) (fr':Nat→Ob) (h':Nat),f' 3=.vec 0 1000 g 0 T.length false→f' 4=.vec 0 4 h' 0 (i+1) false→f' 11=.vec 0 1000 g 0 T.length false→f' 12=.int .i64 (T.length:Nat)→f' 13=.int .i64 ((i+1:Nat):Int)→fr' 1000=.vec g 14 (T.map V.pav)→fr' 4=.vec h' 14 ((T.take i).map V.pav++[V.pav x])→(∀s∈[6],(fr' s).isRow=false)→∃k,k<T.length-i∧PoI T k ⟨f',[fr'],[]⟩:=by
   intro f' fr' h' a3 a4 a11 a12 a13 b1 b4 b6;exact⟨T.length-(i+1),by omega,f',fr',i+1,g,h',rfl,rfl,by omega,a3,a4,a11,a12,a13,b1,by rw[b4,QX0,hi];simp,b6⟩
  have hti:((T.take i).map V.pav).length=i:=by rw[QXb,QXd];omega
  simp only[Ql hlt,ia,la,mR,hlt,n6,h3,h11,h13,e1,eE,seval];by_cases hl:i+1=T.length
  ·have d1:(((i+1:Nat):Int)==(T.length:Int))=true:=by simp;omega
   simp only[d1,h4,eE,seval];refine QY (l:=[V.pav x]) rfl rfl rfl (by rw[Ke];rfl) ?_;refine QM (site:=4) (g:=h) (n:=i) (xs:=(T.take i).map V.pav) (ys:=[V.pav x]) (by rfl) (by exact m4) rfl hti.symm rfl (Wa [x]) (by simp only[QWv,QXc,maxLen];omega) (by simp only[QWv,QXc];omega) ?_;simp only[h13,e1,Qa,seval];exact fin _ _ (h+1) (by exact h3) (by rfl) (by exact h11) (by exact h12) (by rfl) (by exact mR) (by rfl) (by simp<;>rfl)
  ·have d1:(((i+1:Nat):Int)==(T.length:Int))=false:=by simp;omega
   have hlt1:i+1<T.length:=by omega
   obtain⟨y,hj⟩:∃y,T[i+1]? = some y:=⟨T[i+1],QWh hlt1⟩;have hgj:=Jl hj;have lc:∀(fr:Nat→Ob),fr 1000=.vec g 14 (T.map V.pav)→Q8 [fr] (some 7) (.vptr 0 1000 g (i+1) 0)=some (.agg [.int .i64 y.1.kd,.int .u64 (y.1.bits:Nat),.str y.1.text,.list (y.1.list.map V.av),.list (y.1.pairs.map V.pav),.list (y.1.slots.map V.sav),.list (y.1.raws.map R.av)]):=fun fr h=>by
    rw[Sh h hgj (by simp)];rfl
   have hx1:=h1T x (QWt hi);have hy1:=h1T y (QWt hj);have hne:ZJ x.1 y.1=false:=by
    rw[QYj]at hun;have:=hun i (i+1) hlt hlt1 (by omega);rw[(QWg.1 hi).2,(QWg.1 hj).2]at this;exact this
   have hq:=QQN k hk x.1.bits y.1.bits x.1.text y.1.text;rw[←(Z8 hx1).1,←(Z8 hy1).1,Qaj hk hx1 hy1 (hbT x (QWt hi)) (hbT y (QWt hj)),hne,Qw,Qw]at hq;simp only[d1,ia,lc,mR,hlt1,Wh,QWW,QWN,QXp,QWX,h3,e1,eE,seval];refine aC hq ?_;simp only[h4,eE,seval];refine QY (l:=[V.pav x]) rfl rfl rfl (by rw[Ke];rfl) ?_;refine QM (site:=4) (g:=h) (n:=i) (xs:=(T.take i).map V.pav) (ys:=[V.pav x]) (by rfl) (by exact m4) rfl hti.symm rfl (Wa [x]) (by simp only[QWv,QXc,maxLen];omega) (by simp only[QWv,QXc];omega) ?_;simp only[h13,e1,Qa,seval];exact fin _ _ (h+1) (by exact h3) (by rfl) (by exact h11) (by exact h12) (by rfl) (by exact mR) (by rfl) (by simp<;>rfl)
 ·have e:i=T.length:=by omega
  subst e;rw[QXR]at m4;simp only[QA hlt,h4,eE,seval];simp[AV.un,Zv,XL,m4];rw[QWO (by rw[QXb];exact QWe _)]

def eR (x:AV):Prop:=∃f:R,x=f.av
theorem QIB (f:R):Ez eR 4 f.av:=⟨⟨f,rfl⟩,_,rfl,rfl,rfl,rfl,fun _=>rfl⟩
theorem QRx (x y:R):Qi Tryz.prog 100 [x.av,y.av] (.int .i64 (cN x.num y.num)):=by
 refine QLC.fn (by simp) ?_;simp only[R.av,eE,seval];refine aC (Cz x.num y.num) ?_;simp only[Qa,seval]
theorem QRy:Tz.Cp Tryz.prog 4 eR 100 cA where
 call x y hx hy:=by
  obtain⟨s,rfl⟩:=hx.1;obtain⟨t,rfl⟩:=hy.1;exact QRx s t
 sw:=AG
theorem Sk (l:List R):QD (Tz.lt cA) (l.map R.av)=(XU l).map R.av:=K9 (fun x y=>by rw[CL];rfl) l
theorem JA (l:List R):(l.map R.av).all (fun e=>e.cells.length==4)=true:=by
 rw[List.all_map,QWs];intro x _;rfl
theorem ezR (l:List R):∀x∈l.map R.av,Ez eR 4 x:=by
 intro x hx;obtain⟨s,_,rfl⟩:=QXB.1 hx;exact QIB s

theorem P5 (v:V):v.nsc.av=.agg [.int .i64 v.kd,.int .u64 ((Xt v.kd v.bits:Nat):Int),.str v.text,.list (v.list.map V.av),.list (v.pairs.map V.pav),.list (v.slots.map V.sav),.list (v.raws.map R.av)]:=by
 rw[Qw];rfl
theorem w79 (b:Nat):Qi Tryz.prog 79 [.int .u64 (b:Nat)] (.int .i64 (Ye b:Nat)):=by
 refine k79.fn (by simp) ?_;have hm:(b:Int).tmod 9223372036854775808=((b % 9223372036854775808:Nat):Int):=by
  rw[QYr (by omega)];omega
 simp only[hm,Qa,seval];unfold Ye;generalize b % 9223372036854775808=z
 repeat' (first|(refine QP (fun h=>?_) (fun h=>?_)<;>simp only[h,Qa,seval])|(refine Xl (fun h=>?_) (fun h=>?_)<;>simp only[h,Qk,eE,seval])|(refine Xm (fun h=>?_) (fun h=>?_)<;>simp only[h,Qk,eE,seval]))
 all_goals(simp only[QWl,QYb,QWm,QXY,ne_eq]at *)
 all_goals((repeat' split)<;>first|rfl|(exfalso;omega))

theorem w77 (b:Nat)(hb:b<18446744073709551616):Qi Tryz.prog 77 [.int .u64 (b:Nat)] (.int .i64 (Ye b:Nat)):=by
 refine k77.fn (by simp) ?_;have a1:bits .and .u64 (b:Int) 9218868437227405312=(((b / 4503599627370496 % 2048)*4503599627370496:Nat):Int):=by
  have:=UJ b 9218868437227405312 hb (by decide);rw[PD]at this;exact this
 have a2:bits .and .u64 (b:Int) 4503599627370495=((b % 4503599627370496:Nat):Int):=by
  have:=UJ b 4503599627370495 hb (by decide);rw[PC]at this;exact this
 simp only[a1,a2,Qa,seval];unfold Ye
 repeat' (first|(refine QP (fun h=>?_) (fun h=>?_)<;>simp only[h,Qa,seval])|(refine Xl (fun h=>?_) (fun h=>?_)<;>simp only[h,Qk,Qa,seval])|(refine Xm (fun h=>?_) (fun h=>?_)<;>simp only[h,Qk,eE,seval]))
 all_goals(simp only[QWm,QWG,bne_eq_false_iff_eq,QXY,ne_eq]at *)
 all_goals((repeat' split)<;>first|rfl|(exfalso;omega))

theorem v50 (v:V)(hb:v.bits<18446744073709551616):Qi Tryz.prog 50 [v.av] v.nsc.av:=by
 rw[P5,Qw];refine k50.fn (by simp) ?_;simp only[eE,seval];by_cases hk:v.kd=6
 ·have b0:(v.kd==6)=true:=by simp[hk]
  simp only[b0,eE,seval];refine aC (w77 v.bits hb) ?_;simp only[Sa,Qa,seval];by_cases hc:Ye v.bits=0
  ·simp only[hc,Xt,hk,decide_true,QXk,splice,QWN,QXp,QWQ,QWX,QWC,QWD,QWv,QXc,eE,seval]
   try rfl
  ·simp only[hc,Xt,decide_false,and_false,eE,seval]
 ·have b0:(v.kd==6)=false:=by simp[hk]
  simp only[b0,Xt,hk,false_and,eE,seval]

theorem v53 (v:V)(_hb:v.bits<18446744073709551616):Qi Tryz.prog 53 [v.av] v.nsc.av:=by
 rw[P5,Qw];refine k53.fn (by simp) ?_;simp only[eE,seval];by_cases hk:v.kd=6
 ·have b0:(v.kd==6)=true:=by simp[hk]
  simp only[b0,eE,seval];refine aC (w79 v.bits) ?_;simp only[Sa,Qa,seval];by_cases hc:Ye v.bits=0
  ·simp only[hc,Xt,hk,decide_true,QXk,splice,QWN,QXp,QWQ,QWX,QWC,QWD,QWv,QXc,eE,seval]
   try rfl
  ·simp only[hc,Xt,decide_false,and_false,eE,seval]
 ·have b0:(v.kd==6)=false:=by simp[hk]
  simp only[b0,Xt,hk,false_and,eE,seval]

def EW (m:PG→V→Prop)(P:PL)(o:PO)(v:V):Prop:=o.kind=10→m (QR P o.target) v
def FW (m:PG→V→Prop)(P:PL)(o:PO)(v:V):Prop :=
 if o.card=4 then ∀x∈v.list,EW m P o x
 else if o.card=5 then(∀p∈v.pairs,p.1.one P o.key (-1)=0∧EW m P o p.2)∧v.pairs.Pairwise fun q p=>ZJ q.1 p.1=false
 else EW m P o v
def MW (P:PL):Nat→PG→V→Prop
 |0,_,_=>False
 |n+1,g,v=>(∀s∈v.slots,∃o,Zg g s.1=some o∧FW (MW P n) P o s.2)∧v.slots.Pairwise fun y x=>(y.1==x.1)=false

theorem CM {m:PG→V→Int}{w:PG→V→Prop}(h:∀g v,m g v=0→w g v){P:PL}{o:PO}{v:V}(he:QU m P o v=0):EW w P o v:=by
 intro hk;unfold QU at he;rw[QWJ hk]at he;exact h _ _ he
theorem QIC {m:PG→V→Int}{w:PG→V→Prop}(h:∀g v,m g v=0→w g v){P:PL}{o:PO}{v:V}(he:Xc m P o v=0):FW w P o v:=by
 unfold Xc at he;unfold FW;by_cases h4:o.card=4
 ·rw[QWu (by omega),QWJ h4]at he;rw[QWJ h4];split at he
  ·omega
  exact fun x hx=>CM h (KE.1 he x hx)
 ·rw[QWu h4];by_cases h5:o.card=5
  ·rw[QWJ h5]at he;rw[QWJ h5];split at he
   ·omega
   have hE:=KD.1 he;exact⟨fun p hp=>⟨(hE.1 p hp).1,CM h (hE.1 p hp).2⟩,hE.2⟩
  ·rw[QWu h5,QWu h4]at he;rw[QWu h5];exact CM h he
theorem Da {P:PL}:∀(n:Nat) (g:PG) (v:V),XJ P n g v=0→MW P n g v
 |0,g,v,h=>by
  unfold XJ at h;split at h<;>omega
 |n+1,g,v,h=>by
  obtain⟨_,⟨s1,s2,_⟩,_,_⟩:=ZZ.1 h;refine⟨fun s hs=>?_,s2⟩;obtain⟨o,ho,hf⟩:=s1 s hs;exact⟨o,ho,QIC (Da n) hf⟩
theorem Qap {P:PL}{o:PO}(ho:o.card=5→Zb o.key)(h5:o.card=5){ps:List (V×V)}(h:∀p∈ps,p.1.one P o.key (-1)=0):∀p∈ps,p.1.nsc=p.1:=by
 intro p hp;have e:=(Uo (h p hp)).1;refine BO ?_;have:=ho h5;unfold Zb at this;omega

theorem Nb {x:V}:∀ {l:List V},x∈l→x.cnt≤XT l
 |y :: l,h=>by
  rw[XT];rcases QXD.1 h with rfl|h
  ·omega
  ·have:=Nb h;omega
theorem HI {x:V×V}:∀ {l:List (V×V)},x∈l→x.1.cnt+x.2.cnt≤Xz l
 |(a,b) :: l,h=>by
  rw[Xz];rcases QXD.1 h with rfl|h
  ·dsimp only;omega
  ·have:=HI h;omega
theorem Nc {x:Int×V}:∀ {l:List (Int×V)},x∈l→x.2.cnt≤Xf l
 |(a,b) :: l,h=>by
  rw[Xf];rcases QXD.1 h with rfl|h
  ·dsimp only;omega
  ·have:=Nc h;omega
theorem KF (v:V):1≤v.cnt:=by rw[Xn];omega
theorem HJ:∀l:List V,l.length≤XT l
 | []=>QWe _
 |x :: l=>by
  have:=KF x;have:=HJ l;simp only[XT,QWv];omega
theorem Nd:∀l:List (V×V),2*l.length≤Xz l
 | []=>QWe _
 |(a,b) :: l=>by
  have:=KF a;have:=KF b;have:=Nd l;simp only[Xz,QWv];omega
theorem Nf:∀l:List (Int×V),l.length≤Xf l
 | []=>QWe _
 |(a,b) :: l=>by
  have:=KF b;have:=Nf l;simp only[Xf,QWv];omega
theorem YN {v x:V}(h:x∈v.list):x.cnt≤v.cnt:=by have:=Nb h;rw[Xn v];omega
theorem Vv {v:V}{x:V×V}(h:x∈v.pairs):x.1.cnt≤v.cnt:=by have:=HI h;rw[Xn v];omega
theorem UX {v:V}{x:V×V}(h:x∈v.pairs):x.2.cnt≤v.cnt:=by have:=HI h;rw[Xn v];omega
theorem Ww {v:V}{x:Int×V}(h:x∈v.slots):x.2.cnt≤v.cnt:=by have:=Nc h;rw[Xn v];omega
theorem KG (v:V):v.list.length≤v.cnt:=by have:=HJ v.list;rw[Xn v];omega
theorem WV (v:V):v.pairs.length≤v.cnt:=by have:=Nd v.pairs;rw[Xn v];omega
theorem KR (v:V):v.slots.length≤v.cnt:=by have:=Nf v.slots;rw[Xn v];omega
theorem YO (v:V):v.raws.length≤v.cnt:=by rw[Xn v];omega

section
variable {M:Nat}{P:PL}{m:PG→V→Prop}{nm:PG→V→V}(o:PO)(ho:UO P o)

include ho in
theorem QRz (hm:∀(t:Int) (g:PG),P.progs[t.toNat]? = some g→0≤t→∀v:V,v.ok M→v.cnt≤1048576→m g v→Qi Tryz.prog 60 [P.av,.int .i64 t,v.av] (nm g v).av)(v:V)(hv:v.ok M)(hc:v.cnt≤1048576)(he:EW m P o v) :
  Qi Tryz.prog 188 [P.av,Qv o,v.av] (Xu nm P o v).av:=by
 have e0:P.av=.agg [.list (P.progs.map Qp),.list (P.enums.map Qr)]:=rfl;unfold Xu;by_cases hk:o.kind=10
 ·have b:(o.kind==10)=true:=by simp[hk]
  have he:=he hk;rw[QWJ hk];obtain⟨t0,t1⟩:=ho.tgt hk;obtain⟨g,hg⟩:∃g,P.progs[o.target.toNat]? = some g:=⟨P.progs[o.target.toNat]'(by omega),QWh (by omega)⟩;have hq:QR P o.target=g:=by unfold QR;rw[hg];rfl
  rw[hq]at he ⊢;have h2:=hm o.target g hg t0 v hv hc he;generalize nm g v=z at h2 ⊢;rw[e0,Qw,Qw]at h2;rw[Qw,Qw];refine RG.fn (by simp) ?_;simp only[e0,Qv,PO.cells,b,eE,seval];refine aC h2 ?_;simp only[eE,seval]
 ·have b:(o.kind==10)=false:=by simp[hk]
  rw[QWu hk];have h1:=v50 v (JY hv);generalize v.nsc=z at h1 ⊢;rw[Qw,Qw]at h1;rw[Qw,Qw];refine RG.fn (by simp) ?_;simp only[e0,Qv,PO.cells,b,eE,seval];refine aC h1 ?_;simp only[eE,seval]

def NlI (P:PL)(o:PO)(l:List V)(F:V→V)(k:Nat)(st:St):Prop :=
 ∃f fr i g,st=⟨f,[fr],[]⟩∧k=l.length-i∧i≤l.length∧f 3=.ptr 0 3 0∧f 4=.ptr 0 4 0∧f 6=.ptr 0 6 0∧f 7=.ptr 0 7 0∧f 19=.list (l.map V.av)∧f 20=.int .i64 (l.length:Nat)∧f 21=.int .i64 (i:Nat)∧fr 3=.cells [.list (P.progs.map Qp),.list (P.enums.map Qr)]∧fr 4=.cells o.cells∧fr 6=.cells [.int .i64 0,.int .u64 0,.str [],.nils,.nils,.nils,.nils]∧fr 7=.cells [.int .i64 11,.int .u64 0,.str [],.vec 0 1100 g 0 i false,.nils,.nils,.nils]∧fr 1100=.vec g 7 ((l.take i).map fun x=>(F x).av)∧∀s∈[9],(fr s).isRow=false

def NpI (P:PL)(o:PO)(T:List (V×V))(F:V×V→V×V)(k:Nat)(st:St):Prop :=
 ∃f fr i g,st=⟨f,[fr],[]⟩∧k=T.length-i∧i≤T.length∧f 3=.ptr 0 3 0∧f 4=.ptr 0 4 0∧f 6=.ptr 0 6 0∧f 10=.ptr 0 10 0∧f 41=.list (T.map V.pav)∧f 42=.int .i64 (T.length:Nat)∧f 43=.int .i64 (i:Nat)∧fr 3=.cells [.list (P.progs.map Qp),.list (P.enums.map Qr)]∧fr 4=.cells o.cells∧fr 6=.cells [.int .i64 0,.int .u64 0,.str [],.nils,.nils,.nils,.nils]∧fr 10=.cells [.int .i64 12,.int .u64 0,.str [],.nils,.vec 0 1101 g 0 i false,.nils,.nils]∧fr 1101=.vec g 14 ((T.take i).map fun x=>V.pav (F x))∧∀s∈[12],(fr s).isRow=false

theorem AH (l:List V)(F:V→V):(l.map fun x=>(F x).av)=(l.map F).map V.av:=by rw[QX3];rfl
theorem P6 (l:List (V×V))(F:V×V→V×V):(l.map fun x=>V.pav (F x))=(l.map F).map V.pav:=by rw[QX3];rfl

set_option maxHeartbeats 1000000 in
include ho in
theorem v97 (hel:∀v:V,v.ok M→v.cnt≤1048576→EW m P o v→Qi Tryz.prog 188 [P.av,Qv o,v.av] (Xu nm P o v).av)(v:V)(hv:v.ok M)(hc:v.cnt≤1048576)(he:FW m P o v) :
  Qi Tryz.prog 97 [P.av,Qv o,v.av] (XB nm P o v).av:=by
 have e0:P.av=.agg [.list (P.progs.map Qp),.list (P.enums.map Qr)]:=rfl;unfold XB;unfold FW at he;by_cases h4:o.card=4
 ·have b4:(o.card==4)=true:=by simp[h4]
  rw[QWJ h4]at he;rw[QWJ h4];have hL:=he;have hlen:=KG v;rw[Qw v];generalize hF:Xu nm P o=F at hel ⊢;rw[show(V.mk 11 0 [] (v.list.map F) [] [] []).av=.agg [.int .i64 11,.int .u64 0,.str [],.list ((v.list.map F).map V.av),.list [],.list [],.list []]from Qw _];refine SM.fn (by simp) ?_;simp only[e0,Qv,PO.cells,b4,eE,seval];refine JK (by simp only[Qa,seval]<;>rfl) rfl (by simp only[Qa,seval]<;>rfl) rfl ?_;simp only[List.set,QXb,eE,seval];refine Qc (NlI P o v.list F) _ ⟨_,_,0,_,rfl,rfl,QWo _,(by rfl),(by rfl),(by rfl),(by rfl),(by rfl),(by rfl),(by rfl),(by rfl),(by rfl),(by rfl),(by rfl),(by rfl),by simp<;>rfl⟩ ?_;rintro _ st ⟨f0,fr0,i,g,rfl,rfl,hil,h30,h40,h60,h70,h190,h200,h210,m30,m40,m60,m70,mR0,r9⟩;refine QN (a:=_) [9] r9 ?_;intro f fr hf hm hn9;have h3:f 3=.ptr 0 3 0:=by rw[hf,h30]<;>rfl
  have h4:f 4=.ptr 0 4 0:=by rw[hf,h40]<;>rfl
  have h6:f 6=.ptr 0 6 0:=by rw[hf,h60]<;>rfl
  have h7:f 7=.ptr 0 7 0:=by rw[hf,h70]<;>rfl
  have h19:f 19=.list (v.list.map V.av):=by rw[hf,h190]<;>rfl
  have h20:f 20=.int .i64 (v.list.length:Nat):=by rw[hf,h200]<;>rfl
  have h21:f 21=.int .i64 (i:Nat):=by rw[hf,h210]<;>rfl
  have m3:fr 3=.cells [.list (P.progs.map Qp),.list (P.enums.map Qr)]:=by rw[hm 3 (by decide),m30]<;>rfl
  have m4:fr 4=.cells o.cells:=by rw[hm 4 (by decide),m40]<;>rfl
  have m6:fr 6=.cells [.int .i64 0,.int .u64 0,.str [],.nils,.nils,.nils,.nils]:=by rw[hm 6 (by decide),m60]<;>rfl
  have m7:fr 7=.cells [.int .i64 11,.int .u64 0,.str [],.vec 0 1100 g 0 i false,.nils,.nils,.nils]:=by rw[hm 7 (by decide),m70]<;>rfl
  have mR:fr 1100=.vec g 7 ((v.list.take i).map fun x=>(F x).av):=by rw[hm 1100 (by decide),mR0]<;>rfl
  have n9:=hn9 9 (by decide);clear hf hm hn9 h30 h40 h60 h70 h190 h200 h210 m30 m40 m60 m70 mR0 r9;have m4':=m4;simp only[PO.cells]at m4;simp only[h20,h21,Qa,seval];by_cases hlt:i<v.list.length
  ·obtain⟨x,hi⟩:∃x,v.list[i]? = some x:=⟨v.list[i],QWh hlt⟩;have hx:=QWt hi;have hg:=YI hi;have e1:=Qo i _ hlt (by simp only[maxLen];omega);have c1:=hel x (hv.list x hx) (QWf (YN hx) hc) (hL x hx);have hti:((v.list.take i).map fun x=>(F x).av).length=i:=by rw[QXb,QXd];omega
   have hts:(v.list.take (i+1)).map (fun x=>(F x).av)=(v.list.take i).map (fun x=>(F x).av)++[(F x).av]:=by rw[QX0,hi];simp
   generalize F x=z at c1 hts;rw[e0,Qw,Qw z]at c1;simp only[Qv,PO.cells]at c1;simp only[Ql hlt,Qg,QXI,Qb,hg,n9,h3,h4,h7,h19,h21,m3,m4,m7,eE,seval];refine aC c1 ?_;refine QY (l:=[z.av]) rfl rfl rfl (by rw[Qw];rfl) ?_;refine QM (site:=1100) (g:=g) (n:=i) (xs:=(v.list.take i).map fun x=>(F x).av) (ys:=[z.av]) (by rfl) (by exact mR) rfl hti.symm rfl (Qwr [z]) (by simp only[QWv,QXc,maxLen];omega) (by simp only[QWv,QXc];omega) ?_;simp only[h7,h21,m7,e1,eE,seval];exact⟨v.list.length-(i+1),by omega,_,_,i+1,g+1,rfl,rfl,by omega,(by exact h3),(by exact h4),(by exact h6),(by exact h7),(by exact h19),(by exact h20),(by rfl),(by exact m3),(by exact m4'),(by exact m6),(by rfl),(by rw[hts];exact(by rfl)),by simp<;>rfl⟩
  ·have e:i=v.list.length:=by omega
   subst e;rw[QXR,AH]at mR;simp only[QA hlt,h6,h7,m6,m7,eE,seval];simp[AV.un,AV.unL,Zv,XL,mR,QWO]
 ·have b4:(o.card==4)=false:=by simp[h4]
  rw[QWu h4];by_cases h5:o.card=5
  ·have b5:(o.card==5)=true:=by simp[h5]
   rw[QWu h4,QWJ h5]at he;rw[QWJ h5];have hE:=he;have hlen:=WV v;have hk:=ho.key h5;have hkn:=Qap ho.key h5 fun p hp=>(hE.1 p hp).1
   have cp:=QRw hk v.pairs (by omega) (fun p hp=>(hE.1 p hp).1) (fun p hp=>JY (hv.keys p hp)) hE.2;have hperm:(Q0 o.key v.pairs).Perm v.pairs:=Q3 _;have hTl:(Q0 o.key v.pairs).length=v.pairs.length:=hperm.length_eq;have hTm:∀p∈Q0 o.key v.pairs,p∈v.pairs:=fun p h=>hperm.mem_iff.1 h
   generalize Q0 o.key v.pairs=T at *;rw[Qw v];generalize hF:(fun p:V×V=>(p.1.nsc,Xu nm P o p.2))=F;rw[show(V.mk 12 0 [] [] (T.map F) [] []).av=.agg [.int .i64 12,.int .u64 0,.str [],.list [],.list ((T.map F).map V.pav),.list [],.list []]from Qw _];refine SM.fn (by simp) ?_;simp only[e0,Qv,PO.cells,b4,b5,eE,seval];refine JK (by simp only[Qa,seval]<;>rfl) rfl (by simp only[Qa,seval]<;>rfl) rfl ?_;simp only[List.set,eE,seval];refine aC cp ?_;simp only[QXb,Qa,seval];refine Qc (NpI P o T F) _ ⟨_,_,0,_,rfl,rfl,QWo _,(by rfl),(by rfl),(by rfl),(by rfl),(by rfl),(by rfl),(by rfl),(by rfl),(by rfl),(by rfl),(by rfl),(by rfl),by simp<;>rfl⟩ ?_;rintro _ st ⟨f0,fr0,i,g,rfl,rfl,hil,h30,h40,h60,h100,h410,h420,h430,m30,m40,m60,m100,mR0,Yb⟩;refine QN (a:=_) [12] Yb ?_;intro f fr hf hm hn12;have h3:f 3=.ptr 0 3 0:=by rw[hf,h30]<;>rfl
   have h4:f 4=.ptr 0 4 0:=by rw[hf,h40]<;>rfl
   have h6:f 6=.ptr 0 6 0:=by rw[hf,h60]<;>rfl
   have h10:f 10=.ptr 0 10 0:=by rw[hf,h100]<;>rfl
   have h41:f 41=.list (T.map V.pav):=by rw[hf,h410]<;>rfl
   have h42:f 42=.int .i64 (T.length:Nat):=by rw[hf,h420]<;>rfl
   have h43:f 43=.int .i64 (i:Nat):=by rw[hf,h430]<;>rfl
   have m3:fr 3=.cells [.list (P.progs.map Qp),.list (P.enums.map Qr)]:=by rw[hm 3 (by decide),m30]<;>rfl
   have m4:fr 4=.cells o.cells:=by rw[hm 4 (by decide),m40]<;>rfl
   have m6:fr 6=.cells [.int .i64 0,.int .u64 0,.str [],.nils,.nils,.nils,.nils]:=by rw[hm 6 (by decide),m60]<;>rfl
   have m10:fr 10=.cells [.int .i64 12,.int .u64 0,.str [],.nils,.vec 0 1101 g 0 i false,.nils,.nils]:=by rw[hm 10 (by decide),m100]<;>rfl
   have mR:fr 1101=.vec g 14 ((T.take i).map fun x=>V.pav (F x)):=by rw[hm 1101 (by decide),mR0]<;>rfl
   have n12:=hn12 12 (by decide);clear hf hm hn12 h30 h40 h60 h100 h410 h420 h430 m30 m40 m60 m100 mR0 Yb;have m4':=m4;simp only[PO.cells]at m4;simp only[h42,h43,Qa,seval];by_cases hlt:i<T.length
   ·obtain⟨x,hi⟩:∃x,T[i]? = some x:=⟨T[i],QWh hlt⟩;have hx:=hTm x (QWt hi);have hg:=Jl hi;have e1:=Qo i _ hlt (by simp only[maxLen];omega);have c0:=v50 x.1 (JY (hv.keys x hx));have c1:=hel x.2 (hv.vals x hx) (QWf (UX hx) hc) (hE.1 x hx).2;have hti:((T.take i).map fun x=>V.pav (F x)).length=i:=by rw[QXb,QXd];omega
    have hFx:F x=(x.1.nsc,Xu nm P o x.2):=by rw[←hF]
    have hts:(T.take (i+1)).map (fun x=>V.pav (F x))=(T.take i).map (fun x=>V.pav (F x))++[V.pav (x.1.nsc,Xu nm P o x.2)]:=by rw[QX0,hi,←hFx];simp
    generalize x.1.nsc=y at c0 hts;generalize Xu nm P o x.2=z at c1 hts;rw[Qw,Qw y]at c0;rw[e0,Qw,Qw z]at c1;simp only[Qv,PO.cells]at c1;simp only[Ql hlt,Qg,QXI,Qb,hg,n12,h10,h41,h43,m10,eE,seval];refine aC c0 ?_;simp only[QWN,QWQ,QWX,h3,h4,m3,m4,eE,seval];refine aC c1 ?_;simp only[eE,seval];refine QY (l:=[V.pav (y,z)]) rfl rfl rfl (by rw[Ke];rfl) ?_;refine QM (site:=1101) (g:=g) (n:=i) (xs:=(T.take i).map fun x=>V.pav (F x)) (ys:=[V.pav (y,z)]) (by rfl) (by exact mR) rfl hti.symm rfl (Wa [(y,z)]) (by simp only[QWv,QXc,maxLen];omega) (by simp only[QWv,QXc];omega) ?_;simp only[h10,h43,m10,e1,eE,seval];exact⟨T.length-(i+1),by omega,_,_,i+1,g+1,rfl,rfl,by omega,(by exact h3),(by exact h4),(by exact h6),(by exact h10),(by exact h41),(by exact h42),(by rfl),(by exact m3),(by exact m4'),(by exact m6),(by rfl),(by rw[hts];exact(by rfl)),by simp<;>rfl⟩
   ·have e:i=T.length:=by omega
    subst e;rw[QXR,P6]at mR;simp only[QA hlt,h6,h10,m6,m10,eE,seval];simp[AV.un,AV.unL,Zv,XL,mR,QWO]
  ·have b5:(o.card==5)=false:=by simp[h5]
   rw[QWu h4,QWu h5]at he;rw[QWu h5];have c1:=hel v hv hc he;generalize Xu nm P o v=z at c1 ⊢;rw[e0,Qw v,Qw z]at c1;simp only[Qv,PO.cells]at c1;rw[Qw v,Qw z];refine SM.fn (by simp) ?_;simp only[e0,Qv,PO.cells,b4,b5,eE,seval];refine aC c1 ?_;simp only[eE,seval]

end

theorem Qw6 {ops:List PO}(h:XX ops (Ze PO.num)=true):ops.Pairwise fun a b=>a.num<b.num:=by
 have hs:∀i (hi:i+1<ops.length),ops[i].num<ops[i+1].num:=by
  intro i hi;unfold XX at h;have:=QI.1 h (i+1) hi;rw[Jf (QWh (by omega:i<ops.length)) (QWh hi)]at this;unfold Ze at this
  simpa using this
 rw[QYj];intro i j hi hj hij;obtain⟨d,rfl⟩:∃d,j=i+1+d:=⟨j-(i+1),by omega⟩;clear hij
 induction d with
 |zero=>exact hs i (by omega)
 |succ d ih=>
  have a:=ih (by omega);have b:=hs (i+1+d) (by omega);exact Int.lt_trans a b

theorem Ng {P:PL}(h:ck P=0):Hi P=true∧args P=true:=by
 unfold ck at h;split at h
 ·omega
 split at h
 ·omega
 split at h
 ·omega
 rename_i ho;split at h
 ·omega
 split at h
 ·omega
 split at h
 ·omega
 rename_i ha;exact⟨by simpa using ho,by simpa using ha⟩
theorem Jn {P:PL}(h:ck P=0):Kd P:=by
 have ho:=(Ng h).1;unfold Hi at ho;simp only[QWE,QWs]at ho;intro g hg;exact Qw6 (ho.1.2 g hg)
def CN (P:PL):Prop:=∀g∈P.progs,∀o∈g.ops,1≤o.card∧o.card≤5
theorem Nh {P:PL}(h:ck P=0):CN P:=by
 have ha:=(Ng h).2;intro g hg o ho;unfold args at ha;simp only[QWE,QWs]at ha;have h1:=ha.1 g hg;unfold Z1 at h1;simp only[QWE,QWs]at h1;have h2:=(h1.2 o ho).1;unfold Za at h2;simp only[QWE,QWl]at h2;exact⟨h2.1.1.1.2,h2.1.1.2⟩

theorem YP {fr:Nat→Ob}{a b c:Nat}(h1:(fr a).isRow=false)(h2:(fr b).isRow=false)(h3:(fr c).isRow=false):∀s∈[a,b,c],(fr s).isRow=false:=by
 intro s hs;simp only[QXD,QYn,or_false]at hs;rcases hs with rfl|rfl|rfl
 ·exact h1
 ·exact h2
 ·exact h3

section
variable (k:Int)(b:Nat)(t:List UInt8)(l p s r:List AV)

theorem w54:Qi Tryz.prog 54 [vo k b t l p s r] (.bool (BI k b t l p s r)):=by
 have hl:=y81 k b t l p s r;simp only[vo]at hl;refine k54.fn (by simp) ?_;simp only[vo,BI,eE,seval];refine aC (TC k) ?_;cases isk k
 ·simp only[QXM,Qa,seval]
 ·simp only[QXT,eE,seval];cases h1:((b:Int)==0)
  ·simp only[QYc,QXM,Qa,seval]
  ·cases h2:(t==[])
   ·simp only[h2,QYc,QL,eE,seval]
   ·simp only[h2,QXu,QL,eE,seval];refine aC hl ?_;simp only[Qa,seval]

theorem QRA (hl:l.length≤140737488351232)(hp:p.length≤140737488351232)(hs:s.length≤140737488351232)(hr:r.length≤140737488351232) :
  Qi Tryz.prog 190 [vo k b t l p s r] (.bool (BI k b t l p s r)):=by
 have hle:=Qv6 k b t l p s r hl hp hs hr;simp only[vo]at hle;refine Qhc.fn (by simp) ?_;simp only[vo,BI,eE,seval];refine aC (Bu k) ?_;cases isk k
 ·simp only[QXM,Qa,seval]
 ·simp only[QXT,eE,seval];refine aC hle ?_;cases WQ l p s r
  ·simp only[QXM,Qa,seval]
  ·cases h1:((b:Int)==0)<;>cases h2:(t==[])<;>cases h3:Zc k<;>simp only[h1,h2,QXu,QYc,QWz,QL,eE,seval]

theorem w27:Qi Tryz.prog 27 [vo k b t l p s r] (.bool (emp k b t l p s r)):=by
 have hz:=w54 k b t l p s r;simp only[vo]at hz;refine k27.fn (by simp) ?_;simp only[vo,emp,eE,seval];by_cases h1:k=11
 ·subst h1;have e:BI 11 b t l p s r=false:=rfl;have e1:((11:Int)==11)=true:=rfl;have e2:((11:Int)==12)=false:=rfl;simp only[e,e1,e2,QXT,QXM,QYd,eE,seval]
 ·have e1:(k==11)=false:=by simp[h1]
  by_cases h2:k=12
  ·subst h2;have e:BI 12 b t l p s r=false:=rfl;have e2:((12:Int)==12)=true:=rfl;simp only[e,e1,e2,QXT,QXM,QYd,QXX,eE,seval]
  ·have e2:(k==12)=false:=by simp[h2]
   simp only[e1,e2,QXM,QXX,eE,seval];refine aC hz ?_;simp only[Qa,seval]

theorem w98 (hl:l.length≤140737488351232)(hp:p.length≤140737488351232)(hs:s.length≤140737488351232)(hr:r.length≤140737488351232):Qi Tryz.prog 98 [vo k b t l p s r] (.bool (emp k b t l p s r)):=by
 have hz:=QRA k b t l p s r hl hp hs hr;simp only[vo]at hz;refine k98.fn (by simp) ?_;simp only[vo,emp,eE,seval];cases h1:(k==11)<;>cases h2:((l.length:Int)==0)<;>cases h3:(k==12)<;>cases h4:((p.length:Int)==0)<;>simp only[h2,h3,h4,QXT,QXM,QXW,QXX,QYd,eE,seval]
 all_goals(refine aC hz ?_;simp only[Qa,seval])

end
theorem QID (v:V)(hc:v.cnt≤1048576):Qi Tryz.prog 98 [v.av] (.bool v.emp):=by
 have h1:=KG v;have h2:=WV v;have h3:=KR v;have h4:=YO v;rw[GL];exact w98 _ _ _ _ _ _ _ (by simp;omega) (by simp;omega) (by simp;omega) (by simp;omega)
theorem QIE (v:V):Qi Tryz.prog 27 [v.av] (.bool v.emp):=by
 rw[GL];exact w27 _ _ _ _ _ _ _

def NgI (P:PL)(K:Nat→List (Int×V))(T:List (Int×V))(t:Nat)(rw':List R)(k:Nat)(st:St):Prop :=
 ∃f fr i g h,st=⟨f,[fr],[]⟩∧k=T.length-i∧i≤T.length∧f 1=.int .i64 (t:Nat)∧f 3=.ptr 0 3 0∧f 6=.ptr 0 6 0∧f 7=.ptr 0 7 0∧f 30=.list (T.map V.sav)∧f 31=.int .i64 (T.length:Nat)∧f 32=.int .i64 (i:Nat)∧fr 3=.cells [.list (P.progs.map Qp),.list (P.enums.map Qr)]∧fr 6=.cells [.int .i64 0,.int .u64 0,.str [],.nils,.nils,.nils,.nils]∧fr 7=.cells [.int .i64 10,.int .u64 0,.str [],.nils,.nils,.vec 0 1100 g 0 (K i).length false,.vec 0 1000 h 0 rw'.length false]∧fr 1100=.vec g 8 ((K i).map V.sav)∧fr 1000=.vec h 4 (rw'.map R.av)∧∀s∈[13,10,9],(fr s).isRow=false

section
variable {M:Nat}{P:PL}(hP:P.ok M)

set_option maxHeartbeats 2000000 in
include hP in
theorem v60 (hU:Y0 P)(hr:Kd P)(hcd:CN P):∀(n:Nat) (t:Int) (g:PG),P.progs[t.toNat]? = some g→0≤t→∀v:V,v.ok M→v.cnt≤1048576→MW P n g v→Qi Tryz.prog 60 [P.av,.int .i64 t,v.av] (nrm P n g v).av:=by
 have e0:P.av=.agg [.list (P.progs.map Qp),.list (P.enums.map Qr)]:=rfl;intro n
 induction n with
 |zero=>
  intro t g _ _ v _ _ h;exact h.elim
 |succ n ih=>
  intro t g hgt t0 v hv hc h;have hgm:=QWt hgt;have hg:=hP.progs g hgm;have hu:=hU g hgm;have hd:=hr g hgm;obtain⟨s1,s2⟩:=h;have hnel:=fun(o:PO) (ho:o∈g.ops) (x:V) (hx:x.ok M) (hxc:x.cnt≤1048576) (he:EW (MW P n) P o x)=>QRz o (hu o ho) (fun t g a b v c d e=>ih t g a b v c d e) x hx hxc he
  have hnfl:=fun(o:PO) (ho:o∈g.ops) (x:V) (hx:x.ok M) (hxc:x.cnt≤1048576) (he:FW (MW P n) P o x)=>v97 o (hu o ho) (hnel o ho) x hx hxc he
  have hcn:∀(o:PO) (x:V),(XB (nrm P n) P o x).cnt≤x.cnt:=fun o x=>Vn (fun t v=>UT hr n _ (Us hr t) v) o x
  have lS:=KR v;have lR:=YO v;have clR:=fun fr hr=>v95 (v.raws.map R.av) fr [] (JA v.raws) (by rw[QXb];omega) hr
  have csR:=fun g (m:Qn) (hl:Am.Qf m 0 1000=.vec g 4 (v.raws.map R.av))=>Tz.Sg Tg.QHU (by decide) QRy 0 1000 g (v.raws.map R.av) m hl (ezR v.raws) (by rw[QXb];omega)
  simp only[Sk,QXb]at csR;have csl:=v96 v.slots (by omega) s2;have hTp:(JS v.slots).Perm v.slots:=Q3 _;have hTl:(JS v.slots).length=v.slots.length:=hTp.length_eq;have hTm:∀s∈JS v.slots,s∈v.slots:=fun s h=>hTp.mem_iff.1 h
  have hfin:=Se (nrm P n) P hd s2;have hrl:(XU v.raws).length=v.raws.length:=(Q3 v.raws).length_eq;generalize JS v.slots=T at *;obtain⟨ti,hti⟩:=QXV t0;subst hti;rw[QXI]at hgt;have hga:(P.progs.map Qp)[ti]? = some (.agg g.cells):=by simp[hgt,Qp]
  simp only[PG.cells]at hga;have htl:ti<P.progs.length:=(QWg.1 hgt).1;have d0:decide ((ti:Int)<0)=false:=QX5 (by omega);have d1:decide ((ti:Int)≥(P.progs.length:Int))=false:=QX5 (by omega);have co:=fun n=>y66 g hg.len n
  simp only[Yf]at co;simp only[Qp,PG.cells]at co;show Qi _ _ _ (V.mk 10 0 [] [] [] (g.ops.flatMap (QV (nrm P n) P v.slots)) (XU v.raws)).av;rw[←hfin,Qw v];generalize hK:(fun i=>(T.take i).flatMap (Z9 (nrm P n) P g))=K;have hK0:K 0=[]:=by rw[←hK];simp
  have hKn:T.flatMap (Z9 (nrm P n) P g)=K T.length:=by rw[←hK];simp
  have hKl:∀i,i≤T.length→(K i).length≤i:=by
   intro i hi;rw[←hK];show((T.take i).flatMap _).length≤i;have:∀l:List (Int×V),(l.flatMap (Z9 (nrm P n) P g)).length≤l.length:=by
    intro l
    induction l with
    |nil=>exact QWe _
    |cons s l ih=>
     have:(Z9 (nrm P n) P g s).length≤1:=by
      unfold Z9;split
      ·simp
      ·unfold ZD;split<;>simp
     rw[QXK,QWS,QWv];omega
   exact QWf (this _) (by rw[QXd];omega)
  rw[hKn,show(V.mk 10 0 [] [] [] (K T.length) (XU v.raws)).av=.agg [.int .i64 10,.int .u64 0,.str [],.list [],.list [],.list ((K T.length).map V.sav),.list ((XU v.raws).map R.av)]from Qw _];refine k60.fn (by simp) ?_;simp only[e0,eE,seval];refine Qj (clR _ rfl) (by simp only[QWM,QXh,Qa,seval]) ?_;simp only[QXb,eE,seval];refine JK (by simp only[Qa,seval]<;>rfl) rfl (by simp only[Qa,seval]<;>rfl) rfl ?_;simp only[List.set,d0,d1,QXb,eE,seval];refine aC csl ?_;simp only[QXb,Qa,seval];refine Qc (NgI P K T ti v.raws) _ ⟨_,_,0,_,_,rfl,rfl,QWo _,(by rfl),(by rfl),(by rfl),(by rfl),(by rfl),(by rfl),(by rfl),(by rfl),(by rfl),(by rw[hK0];exact(by rfl)),(by rw[hK0];exact(by rfl)),(by rfl),YP rfl rfl rfl⟩ ?_;rintro _ st ⟨f0,fr0,i,gs,hs,rfl,rfl,hil,h10,h30,h60,h70,h300,h310,h320,m30,m60,m70,mS0,mR0,Ax⟩;refine QN (a:=_) [13,10,9] Ax ?_;intro f fr hf hm hn13;have h1:f 1=.int .i64 (ti:Nat):=by rw[hf,h10]<;>rfl
  have h3:f 3=.ptr 0 3 0:=by rw[hf,h30]<;>rfl
  have h6:f 6=.ptr 0 6 0:=by rw[hf,h60]<;>rfl
  have h7:f 7=.ptr 0 7 0:=by rw[hf,h70]<;>rfl
  have h30':f 30=.list (T.map V.sav):=by rw[hf,h300]<;>rfl
  have h31:f 31=.int .i64 (T.length:Nat):=by rw[hf,h310]<;>rfl
  have h32:f 32=.int .i64 (i:Nat):=by rw[hf,h320]<;>rfl
  have m3:fr 3=.cells [.list (P.progs.map Qp),.list (P.enums.map Qr)]:=by rw[hm 3 (by decide),m30]<;>rfl
  have m6:fr 6=.cells [.int .i64 0,.int .u64 0,.str [],.nils,.nils,.nils,.nils]:=by rw[hm 6 (by decide),m60]<;>rfl
  have m7:fr 7=.cells [.int .i64 10,.int .u64 0,.str [],.nils,.nils,.vec 0 1100 gs 0 (K i).length false,.vec 0 1000 hs 0 v.raws.length false]:=by rw[hm 7 (by decide),m70]<;>rfl
  have mS:fr 1100=.vec gs 8 ((K i).map V.sav):=by rw[hm 1100 (by decide),mS0]<;>rfl
  have mR:fr 1000=.vec hs 4 (v.raws.map R.av):=by rw[hm 1000 (by decide),mR0]<;>rfl
  have n13:=hn13 13 (by decide);have n10:=hn13 10 (by decide);have n9:=hn13 9 (by decide);clear hf hm hn13 h10 h30 h60 h70 h300 h310 h320 m30 m60 m70 mS0 mR0 Ax;simp only[h31,h32,Qa,seval];by_cases hlt:i<T.length
  ·obtain⟨x,hi⟩:∃x,T[i]? = some x:=⟨T[i],QWh hlt⟩;have hx:=hTm x (QWt hi);have hgs:=JQ hi;have e1:=Qo i _ hlt (by simp only[maxLen];omega);obtain⟨o,ho,hfo⟩:=s1 x hx;obtain⟨hom,hon⟩:=ZL ho;have hcard:=hcd g hgm o hom;have c1:=co x.1;rw[ho]at c1;have hxc:=QWf (Ww hx) hc;have c2:=hnfl o hom x.2 (hv.slots x hx) hxc hfo;have c3:=QID (XB (nrm P n) P o x.2) (QWf (hcn o x.2) hxc);have hKs:K (i+1)=K i++ZD (nrm P n) P o x:=by
    rw[←hK];show(T.take (i+1)).flatMap _=(T.take i).flatMap _++_;rw[QX0,hi,List.flatMap_append];have:Z9 (nrm P n) P g x=ZD (nrm P n) P o x:=by unfold Z9;rw[ho]
    simp[this]
   have hkO:ZD (nrm P n) P o x=if (decide (o.card<3) || !(XB (nrm P n) P o x.2).emp)=true then [(x.1,XB (nrm P n) P o x.2)]else []:=by
    unfold ZD;rw[hon]
   have hKi:=hKl i (by omega);rw[hkO]at hKs;clear hkO;generalize XB (nrm P n) P o x.2=z at c2 c3 hKs;rw[e0,Qw x.2,Qw z]at c2;rw[Qw z]at c3;simp only[Qv,PO.cells]at c2;have fin:∀(f':Fr) (fr':Nat→Ob) (gs':Nat),f' 1=.int .i64 (ti:Nat)→f' 3=.ptr 0 3 0→f' 6=.ptr 0 6 0→f' 7=.ptr 0 7 0→f' 30=.list (T.map V.sav)→f' 31=.int .i64 (T.length:Nat)→f' 32=.int .i64 ((i+1:Nat):Int)→fr' 3=.cells [.list (P.progs.map Qp),.list (P.enums.map Qr)]→fr' 6=.cells [.int .i64 0,.int .u64 0,.str [],.nils,.nils,.nils,.nils]→fr' 7=.cells [.int .i64 10,.int .u64 0,.str [],.nils,.nils,.vec 0 1100 gs' 0 (K (i+1)).length false,.vec 0 1000 hs 0 v.raws.length false]→fr' 1100=.vec gs' 8 ((K (i+1)).map V.sav)→fr' 1000=.vec hs 4 (v.raws.map R.av)→(∀s∈[13,10,9],(fr' s).isRow=false)→∃k,k<T.length-i∧NgI P K T ti v.raws k ⟨f',[fr'],[]⟩:=by
    intro f' fr' gs' a1 a3 a6 a7 a30 a31 a32 b3 b6 b7 bS bR br;exact⟨T.length-(i+1),by omega,f',fr',i+1,gs',hs,rfl,rfl,by omega,a1,a3,a6,a7,a30,a31,a32,b3,b6,b7,bS,bR,br⟩
   simp only[Ql hlt,Qg,QXI,Qb,hgs,hga,n9,h1,h3,h30',h32,m3,eE,seval];refine aC c1 ?_;simp only[QXr,QX6,Qv,PO.cells,n10,eE,seval];rcases(by omega:o.card=1∨o.card=2∨o.card=3∨o.card=4∨o.card=5)with cc|cc|cc|cc|cc
   ·have b3:(o.card==3)=false:=by simp[cc]
    have b4:(o.card==4)=false:=by simp[cc]
    have b5:(o.card==5)=false:=by simp[cc]
    rw[QWJ (by simp[cc])]at hKs;simp only[b3,b4,b5,QWN,QWQ,QWX,h3,m3,eE,seval];refine aC c2 ?_;simp only[n13,h7,m7,eE,seval];refine QY (l:=[V.sav (x.1,z)]) rfl rfl rfl (by rw[ZK];rfl) ?_;refine QM (site:=1100) (g:=gs) (n:=(K i).length) (xs:=(K i).map V.sav) (ys:=[V.sav (x.1,z)]) (by rfl) (by exact mS) rfl (by rw[QXb]) rfl (W7 [(x.1,z)]) (by simp only[QWv,QXc,maxLen];omega) (by simp only[QWv,QXc];omega) ?_;simp only[h7,h32,m7,e1,eE,seval];exact fin _ _ (gs+1) (by exact h1) (by exact h3) (by exact h6) (by exact h7) (by exact h30') (by exact h31) (by rfl) (by exact m3) (by exact m6) (by rw[hKs,QWS];exact(by rfl)) (by rw[hKs,QXZ];exact(by rfl)) (by exact mR) (YP rfl rfl rfl)

   ·have b3:(o.card==3)=false:=by simp[cc]
    have b4:(o.card==4)=false:=by simp[cc]
    have b5:(o.card==5)=false:=by simp[cc]
    rw[QWJ (by simp[cc])]at hKs;simp only[b3,b4,b5,QWN,QWQ,QWX,h3,m3,eE,seval];refine aC c2 ?_;simp only[n13,h7,m7,eE,seval];refine QY (l:=[V.sav (x.1,z)]) rfl rfl rfl (by rw[ZK];rfl) ?_;refine QM (site:=1100) (g:=gs) (n:=(K i).length) (xs:=(K i).map V.sav) (ys:=[V.sav (x.1,z)]) (by rfl) (by exact mS) rfl (by rw[QXb]) rfl (W7 [(x.1,z)]) (by simp only[QWv,QXc,maxLen];omega) (by simp only[QWv,QXc];omega) ?_;simp only[h7,h32,m7,e1,eE,seval];exact fin _ _ (gs+1) (by exact h1) (by exact h3) (by exact h6) (by exact h7) (by exact h30') (by exact h31) (by rfl) (by exact m3) (by exact m6) (by rw[hKs,QWS];exact(by rfl)) (by rw[hKs,QXZ];exact(by rfl)) (by exact mR) (YP rfl rfl rfl)
   ·have b3:(o.card==3)=true:=by simp[cc]
    have b4:(o.card==4)=false:=by simp[cc]
    have b5:(o.card==5)=false:=by simp[cc]
    have l3:decide (o.card<3)=false:=by simp[cc]
    rw[l3,QXX]at hKs;simp only[b3,QWN,QWQ,QWX,h3,m3,eE,seval];refine aC c2 ?_;simp only[n13,eE,seval];refine aC c3 ?_;cases hz:z.emp
    ·rw[hz,QWJ (show(!false)=true from rfl)]at hKs;simp only[h7,m7,eE,seval];refine QY (l:=[V.sav (x.1,z)]) rfl rfl rfl (by rw[ZK];rfl) ?_;refine QM (site:=1100) (g:=gs) (n:=(K i).length) (xs:=(K i).map V.sav) (ys:=[V.sav (x.1,z)]) (by rfl) (by exact mS) rfl (by rw[QXb]) rfl (W7 [(x.1,z)]) (by simp only[QWv,QXc,maxLen];omega) (by simp only[QWv,QXc];omega) ?_;simp only[h7,h32,m7,e1,eE,seval];exact fin _ _ (gs+1) (by exact h1) (by exact h3) (by exact h6) (by exact h7) (by exact h30') (by exact h31) (by rfl) (by exact m3) (by exact m6) (by rw[hKs,QWS];exact(by rfl)) (by rw[hKs,QXZ];exact(by rfl)) (by exact mR) (YP rfl rfl rfl)
    ·rw[hz,QWu (by simp),QXj]at hKs;simp only[h32,e1,Qa,seval];exact fin _ _ gs (by exact h1) (by exact h3) (by exact h6) (by exact h7) (by exact h30') (by exact h31) (by rfl) (by exact m3) (by exact m6) (by rw[hKs];exact(by exact m7)) (by rw[hKs];exact(by exact mS)) (by exact mR) (YP rfl rfl rfl)

   ·have b3:(o.card==3)=false:=by simp[cc]
    have b4:(o.card==4)=true:=by simp[cc]
    have b5:(o.card==5)=false:=by simp[cc]
    have l3:decide (o.card<3)=false:=by simp[cc]
    rw[l3,QXX]at hKs;simp only[b3,b4,QWN,QWQ,QWX,h3,m3,eE,seval];refine aC c2 ?_;simp only[n13,eE,seval];refine aC c3 ?_;cases hz:z.emp
    ·rw[hz,QWJ (show(!false)=true from rfl)]at hKs;simp only[h7,m7,eE,seval];refine QY (l:=[V.sav (x.1,z)]) rfl rfl rfl (by rw[ZK];rfl) ?_;refine QM (site:=1100) (g:=gs) (n:=(K i).length) (xs:=(K i).map V.sav) (ys:=[V.sav (x.1,z)]) (by rfl) (by exact mS) rfl (by rw[QXb]) rfl (W7 [(x.1,z)]) (by simp only[QWv,QXc,maxLen];omega) (by simp only[QWv,QXc];omega) ?_;simp only[h7,h32,m7,e1,eE,seval];exact fin _ _ (gs+1) (by exact h1) (by exact h3) (by exact h6) (by exact h7) (by exact h30') (by exact h31) (by rfl) (by exact m3) (by exact m6) (by rw[hKs,QWS];exact(by rfl)) (by rw[hKs,QXZ];exact(by rfl)) (by exact mR) (YP rfl rfl rfl)
    ·rw[hz,QWu (by simp),QXj]at hKs;simp only[h32,e1,Qa,seval];exact fin _ _ gs (by exact h1) (by exact h3) (by exact h6) (by exact h7) (by exact h30') (by exact h31) (by rfl) (by exact m3) (by exact m6) (by rw[hKs];exact(by exact m7)) (by rw[hKs];exact(by exact mS)) (by exact mR) (YP rfl rfl rfl)

   ·have b3:(o.card==3)=false:=by simp[cc]
    have b4:(o.card==4)=false:=by simp[cc]
    have b5:(o.card==5)=true:=by simp[cc]
    have l3:decide (o.card<3)=false:=by simp[cc]
    rw[l3,QXX]at hKs;simp only[b3,b4,b5,QWN,QWQ,QWX,h3,m3,eE,seval];refine aC c2 ?_;simp only[n13,eE,seval];refine aC c3 ?_;cases hz:z.emp
    ·rw[hz,QWJ (show(!false)=true from rfl)]at hKs;simp only[h7,m7,eE,seval];refine QY (l:=[V.sav (x.1,z)]) rfl rfl rfl (by rw[ZK];rfl) ?_;refine QM (site:=1100) (g:=gs) (n:=(K i).length) (xs:=(K i).map V.sav) (ys:=[V.sav (x.1,z)]) (by rfl) (by exact mS) rfl (by rw[QXb]) rfl (W7 [(x.1,z)]) (by simp only[QWv,QXc,maxLen];omega) (by simp only[QWv,QXc];omega) ?_;simp only[h7,h32,m7,e1,eE,seval];exact fin _ _ (gs+1) (by exact h1) (by exact h3) (by exact h6) (by exact h7) (by exact h30') (by exact h31) (by rfl) (by exact m3) (by exact m6) (by rw[hKs,QWS];exact(by rfl)) (by rw[hKs,QXZ];exact(by rfl)) (by exact mR) (YP rfl rfl rfl)
    ·rw[hz,QWu (by simp),QXj]at hKs;simp only[h32,e1,Qa,seval];exact fin _ _ gs (by exact h1) (by exact h3) (by exact h6) (by exact h7) (by exact h30') (by exact h31) (by rfl) (by exact m3) (by exact m6) (by rw[hKs];exact(by exact m7)) (by rw[hKs];exact(by exact mS)) (by exact mR) (YP rfl rfl rfl)
  ·have e:i=T.length:=by omega
   subst e;simp only[QA hlt,h7,m7,eE,seval];refine Qj (csR _ _ (by simp only[mR,eEX,seval]<;>rfl)) (by simp only[QWM,QXh,Qa,seval]) ?_;simp only[h6,h7,m6,m7,eE,seval];simp[AV.un,AV.unL,Zv,XL,mS,QWO,hrl]

end
end Go.Proofs.YtdhlbgejhcejcaaGreatDoor.Va

namespace Go.Proofs.YtdhlbgejhcejcaaGreatDoor.Va
open Go Am Rc Bt

def Ux (u:Int):Int:=if 0≤u then 2*u else -2*u-1
theorem c49 (u:Int)(h0 : -9223372036854775808≤u)(h1:u<9223372036854775808):Qi Tryz.prog 49 [.int .i64 u] (.int .u64 (Ux u)):=by
 refine k49.fn (by simp) ?_;simp only[ZU,seval];congr 1
 simp only[show min 63 64=63 from rfl,show min 1 64=1 from rfl,seval,ZS,Ux,QYp _ (show(0:Int)≤9223372036854775808 by decide)];by_cases h:0≤u
 ·rw[show u / 9223372036854775808=0 by omega,QWJ h,show(0:Int) % 18446744073709551616=0 from rfl,Bq _ (by omega) (by omega)];omega
 ·rw[show u / 9223372036854775808 = -1 by omega,QWu h,show(-1:Int) % 18446744073709551616=18446744073709551615 from rfl,Bs _ (by omega) (by omega)];omega

theorem Db (u:Int):0≤Ux u:=by unfold Ux;split<;>omega
theorem Qw7 (u:Int)(h0 : -9223372036854775808≤u)(h1:u<9223372036854775808):Ux u<18446744073709551616:=by unfold Ux;split<;>omega
open Br Up

def vv (k:Int)(b:Nat)(t:List UInt8)(l p s r:List AV):AV:=.agg [.int .i64 k,.int .u64 (b:Nat),.str t,.list l,.list p,.list s,.list r]

section
variable (k:Int)(b:Nat)(hb:b<18446744073709551616)(t:List UInt8)(l p s r:List AV)
include hb

theorem y50:Qi Tryz.prog 50 [vv k b t l p s r] (vv k (Xt k b) t l p s r):=by
 refine k50.fn (by simp) ?_;simp only[vv,eE,seval];by_cases hk:k=6
 ·have b0:(k==6)=true:=by simp[hk]
  simp only[b0,eE,seval];refine aC (x77 b hb) ?_;simp only[Sa,Qa,seval];by_cases hc:Ye b=0
  ·simp only[hc,Xt,hk,decide_true,QXk,splice,QWN,QXp,QWQ,QWX,QWC,QWD,QWv,QXc,eE,seval]
   try rfl
  ·simp only[hc,Xt,decide_false,and_false,eE,seval]
 ·have b0:(k==6)=false:=by simp[hk]
  simp only[b0,Xt,hk,false_and,eE,seval]

def XP:R :=
 if k=1∨k=4∨k=5∨k=9 then⟨0,0,b,[]⟩else if k=2∨k=3 then⟨0,1,(Ux (IntKind.i64.wrap (b:Int))).toNat,[]⟩
 else if k=6 then⟨0,2,Xt k b,[]⟩else if k=7∨k=8 then⟨0,3,0,t⟩else zr

theorem y23:Qi Tryz.prog 23 [vv k b t l p s r] (XP k b t).av:=by
  have hn:=y50 k b hb t l p s r;simp only[vv]at hn;have hw0 : -9223372036854775808≤IntKind.i64.wrap (b:Int):=by rw[QC];omega
  have hw1:IntKind.i64.wrap (b:Int)<9223372036854775808:=by rw[QC];omega
  have hz:=c49 (IntKind.i64.wrap (b:Int)) hw0 hw1;have hzn:(((Ux (IntKind.i64.wrap (b:Int))).toNat:Nat):Int)=Ux (IntKind.i64.wrap (b:Int)):=Int.toNat_of_nonneg (Db _);refine k23.fn (by simp) ?_;simp only[vv,eE,seval];by_cases h1:k=1∨k=4∨k=5∨k=9
  · have hs:XP k b t=⟨0,0,b,[]⟩:=by unfold XP;rw[QWJ h1]
    rcases h1 with rfl|rfl|rfl|rfl<;>simp only[hs,R.av,seval,splice,QWN,QXp,QWQ,QWX,QWC,QWD,QWv,QXc,eE]<;>rfl
  have hk1:(k==1)=false:=by simp;omega
  have hk4:(k==4)=false:=by simp;omega
  have hk5:(k==5)=false:=by simp;omega
  have hk9:(k==9)=false:=by simp;omega
  by_cases h2:k=2∨k=3
  · have hs:XP k b t=⟨0,1,(Ux (IntKind.i64.wrap (b:Int))).toNat,[]⟩:=by unfold XP;rw[QWu h1,QWJ h2]
    rcases h2 with rfl|rfl <;>
      (simp only[seval,eE]
       refine aC hz ?_;simp only[hs,R.av,hzn,splice,QWN,QXp,QWQ,QWX,QWC,QWD,QWv,QXc,eE,seval])
  have hk2:(k==2)=false:=by simp;omega
  have hk3:(k==3)=false:=by simp;omega
  by_cases h6:k=6
  · have hs:XP k b t=⟨0,2,Xt k b,[]⟩:=by unfold XP;rw[QWu h1,QWu h2,QWJ h6]
    have b6:(k==6)=true:=by simp[h6]
    simp only[hk1,hk4,hk5,hk9,hk2,hk3,b6,QWN,QWX,QWv,QXc,eE,seval];refine aC hn ?_;simp only[hs,R.av,splice,QWN,QXp,QWQ,QWX,QWC,QWD,QWv,QXc,eE,seval]
  have hk6:(k==6)=false:=by simp;omega
  by_cases h7:k=7∨k=8
  · have hs:XP k b t=⟨0,3,0,t⟩:=by unfold XP;rw[QWu h1,QWu h2,QWu h6,QWJ h7]
    rcases h7 with rfl|rfl<;>simp only[hs,R.av,seval,splice,QWN,QXp,QWQ,QWX,QWC,QWD,QWv,QXc,eE]<;>rfl
  have hk7:(k==7)=false:=by simp;omega
  have hk8:(k==8)=false:=by simp;omega
  have hs:XP k b t=zr:=by unfold XP;rw[QWu h1,QWu h2,QWu h6,QWu h7]
  simp only[hk1,hk4,hk5,hk9,hk2,hk3,hk6,hk7,hk8,hs,zr,R.av,splice,QWN,QXp,QWQ,QWX,QWD,QWv,QXc,eE,seval]
  try rfl

end

end Go.Proofs.YtdhlbgejhcejcaaGreatDoor.Va

namespace Go.Proofs.YtdhlbgejhcejcaaGreatDoor.Va
open Go Am Rc Bt Vp

def bl (l:List UInt8):List AV:=l.map fun b=>.int .u8 (b.toNat:Int)
theorem Ff (a b:List UInt8):bl (a++b)=bl a++bl b:=by simp[bl]
theorem Fg (a:List UInt8):(bl a).length=a.length:=by simp[bl]
theorem YQ (l:List UInt8):bytesOf (bl l)=some l:=by
 induction l with
 |nil=>rfl
 |cons b l ih=>
  show(bytesOf (bl l)).map _=_;rw[ih];simp

theorem QIF (u:Nat):(u:Int).fdiv (2 ^ min 7 64)=((u / 128:Nat):Int):=by
 rw[show min 7 64=7 from rfl,QYp _ (show(0:Int)≤2 ^ 7 by decide)];omega

theorem QIG (u:Nat):bits .or .u8 (IntKind.u8.wrap (u:Int)) 128=((UInt8.ofNat (u % 128+128)).toNat:Int):=by
 rw[wu8];have h:∀n:Fin 256,bits .or .u8 ((n.val:Nat):Int) 128=((n.val % 128+128:Nat):Int):=by decide +kernel
 have:=h ⟨u % 256,by omega⟩;simp only at this;rw[show((u:Int) % 256)=((u % 256:Nat):Int)by omega,this,toNat_ofNat _ (by omega)];omega

theorem QRB (u:Nat)(h:u<128):IntKind.u8.wrap (u:Int)=((UInt8.ofNat u).toNat:Int):=by
 rw[wu8,toNat_ofNat _ (by omega)];omega

def QRC (u0:Nat)(k:Nat)(st:St):Prop :=
 ∃f fr u g j l,st=⟨f,[fr],[]⟩∧k=u∧f 0=.int .u64 (u:Nat)∧f 3=.vec 0 3 g 0 l.length false∧fr 3=.vec g 1 (bl l)∧u<Uk (9-j)∧l.length+j=9∧l++JN j u=Vp.put u0

theorem CO (u:Nat)(hu:u<18446744073709551616):Qi Tryz.prog 107 [.int .u64 u] (.str (Vp.put u)):=by
 refine QcZ.fn (by simp) ?_;simp only[ZU,seval];refine Zj rfl rfl ?_;simp only[ZU,seval];refine Qc (QRC u) u ⟨_,_,u,1,9,[],rfl,rfl,rfl,rfl,rfl,hu,rfl,rfl⟩ ?_;rintro n st ⟨f,fr,v,g,j,l,rfl,rfl,h0,h3,hv,hlt,hj,hl⟩;simp only[h0,ZU,seval];refine QP (fun h=>?_) (fun h=>?_)
 ·have h:128≤n:=by(have h:(128:Int)≤n:=(by simpa using h));omega
  obtain⟨j,rfl⟩:∃i,j=i+1:=⟨j-1,by
   rcases QW4 j with rfl|hp
   ·simp[Uk]at hlt;omega
   ·omega⟩
  simp only[h0,h3,ZU,seval];refine DR rfl ?_;refine QM rfl hv rfl (Fg l).symm rfl rfl (by simp[maxLen];omega) (by simp;omega) ?_;simp only[h0,QIF,QIG,ZU,seval];refine⟨n / 128,by omega,_,_,n / 128,g+1,j,l++[UInt8.ofNat (n % 128+128)],rfl,rfl,rfl,?_,?_,?_,?_,?_⟩
  ·simp only[QWS,QWv,QXc,ZU,seval]
  ·simp only[QS,Ff]<;>rfl
  ·have:=D8 (9-(j+1)) n (by omega) hlt
   rwa [show 9-(j+1)+1=9-j by omega]at this
  ·simp;omega
  ·rw[←hl,BH j n (by omega)];simp
 ·have h:n<128:=by(have h:(n:Int)<128:=(by simpa using h));omega
  simp only[h0,h3,ZU,seval];refine DR rfl ?_;refine QM rfl hv rfl (Fg l).symm rfl rfl (by simp[maxLen];omega) (by simp;omega) ?_;have he:=WJ (m:=[]) (fr:=QH fr 3 (.vec (g+1) 1 (bl l++[.int .u8 ((UInt8.ofNat n).toNat:Int)]))) (site:=3) (g:=g+1) (sz:=1) (n:=l.length+(0+1)) (q:=false) rfl (by simp[bl]);have hb:bytesOf (bl l++[.int .u8 ((UInt8.ofNat n).toNat:Int)])=some (l++[UInt8.ofNat n]):=by
   have:=YQ (l++[UInt8.ofNat n])
   rwa [Ff]at this
  simp only[QRB n h,he,hb,ZU,seval];rw[←hl,GD j n h]

theorem Vw (n:Nat):(n:Int).tmod 128=((n % 128:Nat):Int):=by
 rw[QYr (by omega)];omega

def tk (r:Nat×Nat×Nat):AV:=.tup [.int .u64 (r.1:Nat),.int .i64 (r.2.1:Nat),.int .i64 (r.2.2:Nat)]

theorem Qw8:tk (0,0,4)=.tup [.int .u64 0,.int .i64 0,.int .i64 4]:=rfl
theorem Qw9:tk (0,0,6)=.tup [.int .u64 0,.int .i64 0,.int .i64 6]:=rfl
theorem AI (v n:Nat):tk (v,n,0)=.tup [.int .u64 (v:Nat),.int .i64 (n:Nat),.int .i64 0]:=rfl

theorem Sl {acc d i:Nat}(ha:acc<128 ^ i)(hd:d<128):acc+d*128 ^ i<128 ^ (i+1):=by
 have:d*128 ^ i≤127*128 ^ i:=QXm _ (by omega);rw[Nat.pow_succ];omega

theorem Ni {l t:List UInt8}{c:UInt8}{i:Nat}(h:l.drop i=c :: t):l[i]? = some c∧l.drop (i+1)=t∧i<l.length:=by
 have hi:i<l.length:=by
  rcases Nat.lt_or_ge i l.length with h'|h'
  ·exact h'
  ·rw[QWR h']at h;cases h
 rw[QWY hi]at h
 injection h with h1 h2
 exact⟨by rw[QWh hi,h1],h2,hi⟩

theorem Qxa {acc i:Nat}(hi:i≤9)(ha:acc<128 ^ i):acc<9223372036854775808:=by
 refine Nat.lt_of_lt_of_le ha ?_
 calc 128 ^ i≤128 ^ 9:=QYe (by omega) hi
  _≤_:=by decide
theorem Qxb {i:Nat}(hi:i≤9):128 ^ i≤9223372036854775808:=by
 calc 128 ^ i≤128 ^ 9:=QYe (by omega) hi
  _≤_:=by decide
theorem P7 {d i:Nat}(hi:i≤9)(hd:d<128)(h9:i=9→d≤1):d*128 ^ i≤9223372036854775808:=by
 rcases Nat.lt_or_ge i 9 with h|h
 ·have h1:128 ^ i≤128 ^ 8:=QYe (by omega) (by omega)
  calc d*128 ^ i≤127*128 ^ 8:=Nat.mul_le_mul (by omega) h1
   _≤_:=by decide
 ·have:i=9:=by omega
  calc d*128 ^ i≤1*9223372036854775808:=Nat.mul_le_mul (h9 this) (Qxb hi)
   _≤_:=by decide
theorem Fh (d i:Nat)(hi:i≤9)(hd:d<128)(h9:i=9→d≤1):IntKind.u64.wrap ((d:Int)*((128 ^ i:Nat):Int))=((d*128 ^ i:Nat):Int):=by
 have hb:=P7 hi hd h9;have:((d*128 ^ i:Nat):Int)=(d:Int)*((128 ^ i:Nat):Int):=Int.natCast_mul ..;rw[ZS,←this];omega
theorem Dc (acc d i:Nat)(hi:i≤9)(ha:acc<128 ^ i)(hd:d<128)(h9:i=9→d≤1):IntKind.u64.wrap ((acc:Int)+((d*128 ^ i:Nat):Int))=((acc+d*128 ^ i:Nat):Int):=by
 have hb:=P7 hi hd h9;have hc:=Qxa hi ha;rw[ZS];omega
theorem Sm (i:Nat)(hi:i<9):IntKind.u64.wrap (((128 ^ i:Nat):Int)*128)=((128 ^ (i+1):Nat):Int):=by
 have h:128 ^ i≤128 ^ 8:=QYe (by omega) (by omega);have h2:(128:Nat) ^ 8=72057594037927936:=by decide
 rw[ZS,Nat.pow_succ];omega

def Qxc (s:List UInt8)(k:Nat)(st:St):Prop :=
 ∃f i acc,st=⟨f,[Qd],[]⟩∧k=s.length-i∧f 0=.str s∧f 5=.int .u64 (acc:Nat)∧f 6=.int .u64 ((128 ^ i:Nat):Int)∧f 7=.int .i64 (i:Nat)∧i≤s.length∧i≤9∧acc<128 ^ i∧Z5 i acc (s.drop i)=Vp.take s

theorem QRD (s:List UInt8):Qi Tryz.prog 194 [.str s] (tk (Vp.take s)):=by
 refine QNs.fn (by simp) ?_;simp only[ZU,seval];refine Qc (Qxc s) _ ⟨_,0,0,rfl,rfl,rfl,rfl,rfl,rfl,QWo _,QWo _,by decide,rfl⟩ ?_;rintro n st ⟨f,i,acc,rfl,rfl,h0,h5,h6,h7,hil,hi,ha,hv⟩;have e10:decide ((i:Int)<10)=true:=by simp;omega
 simp only[h0,h7,e10,ZU,seval];refine QP (fun h=>?_) (fun h=>?_)
 ·have h:i=s.length:=by(have h:(s.length:Int)≤i:=(by simpa using h));omega
  rw[QWR (by omega)]at hv;simp only[←hv,Z5,Qw8,ZU,seval]
 ·have h:i<s.length:=by(have h:(i:Int)<s.length:=(by simpa using h));omega
  obtain⟨c,t,hc⟩:∃c t,s.drop i=c :: t:=by
   cases hd:s.drop i with
   |nil=>have:=congrArg List.length hd;simp at this;omega
   |cons c t=>exact⟨c,t,rfl⟩
  obtain⟨g1,g2,_⟩:=Ni hc;rw[hc]at hv;have n0:(0≤(i:Int))=True:=by simp
  have e1:IntKind.i64.wrap ((i:Int)+1)=((i+1:Nat):Int):=by rw[QC];omega
  have hcl:=c.toNat_lt;have ec:IntKind.u64.wrap (c.toNat:Int)=(c.toNat:Int):=by rw[ZS];omega
  rw[Z5]at hv;simp only[h0,h7,n0,g1,ec,QXI,ZU,seval];by_cases h9:i=9
  ·have e9:((i:Int)==9)=true:=by simp;omega
   simp only[e9,ZU,seval];refine QP (fun hc1=>?_) (fun hc1=>?_)
   ·have hc1:1<c.toNat:=by(have hc1:(1:Int)<c.toNat:=(by simpa using hc1));omega
    rw[QWJ ⟨h9,hc1⟩]at hv;simp only[←hv,Qw9,ZU,seval]
   ·have hc1:c.toNat≤1:=by(have hc1:(c.toNat:Int)≤1:=(by simpa using hc1));omega
    have hbad:¬(i=9∧1<c.toNat):=by omega
    rw[QWu hbad]at hv;have hm:=Fh (c.toNat % 128) i hi (by omega) (fun _=>by omega);have hd:=Dc acc (c.toNat % 128) i hi ha (by omega) (fun _=>by omega);simp only[Vw,hm,hd,h5,h6,ZU,seval];refine QP (fun hlt=>?_) (fun hlt=>?_)
    ·have hlt:c.toNat<128:=by omega
     rw[QWJ hlt]at hv;simp only[←hv,AI,Nat.mod_eq_of_lt hlt,e1,h5,h7,ZU,seval]
    ·exfalso;have hlt:(128:Int)≤c.toNat:=by simpa using hlt
     omega
  ·have hbad:¬(i=9∧1<c.toNat):=by omega
   rw[QWu hbad]at hv;have e9:((i:Int)==9)=false:=by simp;omega
   have hm:=Fh (c.toNat % 128) i hi (by omega) (fun e=>absurd e h9);have hd:=Dc acc (c.toNat % 128) i hi ha (by omega) (fun e=>absurd e h9);have hp:=Sm i (by omega);simp only[e9,Vw,hm,hd,h5,h6,ZU,seval];refine QP (fun hlt=>?_) (fun hlt=>?_)
   ·have hlt:c.toNat<128:=by(have hlt:(c.toNat:Int)<128:=(by simpa using hlt));omega
    rw[QWJ hlt]at hv;simp only[←hv,AI,Nat.mod_eq_of_lt hlt,e1,h5,h7,ZU,seval]
   ·have hlt:128≤c.toNat:=by(have hlt:(128:Int)≤c.toNat:=(by simpa using hlt));omega
    rw[QWu (by omega)]at hv;simp only[hp,e1,h6,h7,ZU,seval];refine⟨s.length-(i+1),by omega,_,i+1,acc+c.toNat % 128*128 ^ i,rfl,rfl,?_,?_,?_,?_,by omega,by omega,Sl ha (by omega),?_⟩
    ·simp only[h0,ZU,seval]
    ·simp only[ZU,seval]
    ·simp only[ZU,seval]
    ·simp only[ZU,seval]
    ·rw[g2,←hv];rw[show c.toNat % 128=c.toNat-128 by omega]

open Cp

theorem QRE (c:C):Qi Tryz.prog 109 [c.av] (.bool c.sound):=by
 refine QLI.fn (by simp) ?_;simp only[C.av,eE,seval]
 repeat' (first|(refine QP (fun h=>?_) (fun h=>?_)<;>simp only[h,eE,seval])|(refine Xl (fun h=>?_) (fun h=>?_)<;>simp only[h,Qk,eE,seval])|(refine Xm (fun h=>?_) (fun h=>?_)<;>simp only[h,Qk,eE,seval]))
 all_goals(simp_all[C.sound]<;>omega)

theorem Qxd (c:C)(n:Int):Qi Tryz.prog 195 [c.av,.int .i64 n] (c.ahead n).av:=by
 refine QNv.fn (by simp) ?_;simp only[C.av,C.ahead,eE,seval]

theorem c32 (s:List UInt8)(l:L):Qi Tryz.prog 32 [.str s,l.av] (TG (opn s l)):=by
 refine k32.fn (by simp) ?_;simp only[L.av,eE,seval]
 repeat' (first|(refine QP (fun h=>?_) (fun h=>?_)<;>simp only[h,eE,seval])|(refine Xl (fun h=>?_) (fun h=>?_)<;>simp only[h,Qk,eE,seval])|(refine Xm (fun h=>?_) (fun h=>?_)<;>simp only[h,Qk,eE,seval]))
 all_goals((try simp only[QWl,QYb]at *)<;>unfold opn<;>(repeat' split)<;>first|rfl|(exfalso;omega))

theorem c64 (c:C)(n:Int):Qi Tryz.prog 64 [c.av,.int .i64 n] (TG (c.spend n)):=by
 refine k64.fn (by simp) ?_;simp only[C.av,eE,seval]
 repeat' (first|(refine QP (fun h=>?_) (fun h=>?_)<;>simp only[h,eE,seval])|(refine Xl (fun h=>?_) (fun h=>?_)<;>simp only[h,Qk,eE,seval])|(refine Xm (fun h=>?_) (fun h=>?_)<;>simp only[h,Qk,eE,seval]))
 all_goals((try simp only[QWl,QYb]at *)<;>unfold C.spend<;>(repeat' split)<;>first|rfl|(exfalso;omega))

theorem c62 (c:C):Qi Tryz.prog 62 [c.av] (.str c.rest):=by
 refine k62.fn (by simp) ?_;simp only[C.av,eE,seval];refine aC (QRE c) ?_;cases hs:c.sound with
 |false=>
  simp only[QXo,C.rest_no hs,Qa,seval]
 |true=>
  have h:=(C.sound_iff c).1 hs;have n1:(0≤c.a)=True:=eq_true h.1;have n2:(0≤c.e)=True:=eq_true (by omega);have n3:(c.a.toNat≤c.e.toNat∧c.e.toNat≤c.d.length)=True:=eq_true (by omega);simp only[QXU,n1,n2,n3,C.rest_of hs,eE,seval]

theorem c33 (c:C):Qi Tryz.prog 33 [c.av] (.int .i64 c.left):=by
 refine k33.fn (by simp) ?_;simp only[C.av,eE,seval];refine aC (c62 c) ?_;simp only[C.left,Qa,seval]

theorem Qxf (c:C):Qi Tryz.prog 110 [c.av] (YB c.varint):=by
 refine QLL.fn (by simp) ?_;simp only[C.av,eE,seval];refine aC (c62 c) ?_;refine aC (QRD c.rest) ?_;unfold C.varint;generalize Vp.take c.rest=r;obtain⟨u,n,e⟩:=r;simp only[tk,Qa,seval];refine QP (fun h=>?_) (fun h=>?_)
 ·have h:¬e=0:=by simpa using h
  simp only[h,YB,C.av,eE,seval]
  try rfl
 ·have h:e=0:=by simpa using h
  subst h;simp only[eE,seval];refine aC (Qxd c (n:Int)) ?_;simp only[YB,C.av,C.ahead,eE,seval]
  try rfl

theorem Wx {a:Nat}(h:¬a=0):((a:Int) != 0)=true:=by simp[h]
def fx:Nat→Nat→List UInt8
 |0,_=>[]
 |k+1,u=>UInt8.ofNat (u % 256) :: fx k (u / 256)

theorem Wy (k u:Nat):(fx k u).length=k:=by
 induction k generalizing u with
 |zero=>rfl
 |succ k ih=>simp[fx,ih]

theorem Qaq (k u:Nat):fx (k+1) u=fx k u++[UInt8.ofNat (u / 256 ^ k % 256)]:=by
 induction k generalizing u with
 |zero=>simp[fx]
 |succ k ih=>
  rw[fx,ih (u / 256)];simp only[fx,QWC,Nat.div_div_eq_div_mul,Nat.pow_succ,Nat.mul_comm]

theorem Vx:∀(k u:Nat),u<256 ^ k→(fx k u).foldr (fun b v=>256*v+b.toNat) 0=u
 |0,u,h=>by simp at h;simp[fx,h]
 |k+1,u,h=>by
  rw[fx,List.foldr_cons,Vx k (u / 256) (by rw[Nat.pow_succ]at h;omega),toNat_ofNat _ (by omega)];omega

theorem Qar (u:Nat)(t:List UInt8)(h:u<2 ^ 64):Dy (fx 8 u++t)=u:=by
 unfold Dy;rw[List.take_left' (Wy 8 u)]
 exact Vx 8 u (Nat.lt_of_lt_of_eq h (by decide))

theorem CP (s:List UInt8)(k:Nat)(h:k<s.length)(hk:k<8):((s.take 8).drop k).foldr (fun b v=>256*v+b.toNat) 0=256*((s.take 8).drop (k+1)).foldr (fun b v=>256*v+b.toNat) 0+((s[k]?).getD 0).toNat:=by
 have hl:k<(s.take 8).length:=by simp;omega
 rw[QWY hl,List.foldr_cons];rw[QWh h];simp

theorem HK:∀(l:List UInt8),l.foldr (fun b v=>256*v+b.toNat) 0<256 ^ l.length
 | []=>by simp
 |b :: l=>by
  have h:=HK l;have hb:=b.toNat_lt;rw[List.foldr_cons,QWv,Nat.pow_succ];omega

def Uy (s:List UInt8)(i:Nat):Nat:=((s.take 8).drop i).foldr (fun b v=>256*v+b.toNat) 0

theorem Sn (s:List UInt8)(i:Nat)(hi:i<8)(hs:8≤s.length)(c:UInt8)(hc:s[i]? = some c):IntKind.u64.wrap (IntKind.u64.wrap ((Uy s (i+1):Nat)*256:Int)+IntKind.u64.wrap (c.toNat:Int))=((Uy s i:Nat):Int)∧IntKind.u64.wrap (IntKind.u64.wrap (256*(Uy s (i+1):Nat):Int)+IntKind.u64.wrap (c.toNat:Int))=((Uy s i:Nat):Int):=by
 have h:=CP s i (by omega) hi;rw[hc]at h;simp only[QXr]at h;have h:Uy s i=256*Uy s (i+1)+c.toNat:=h;have hlt:Uy s i<256 ^ (8-i):=by
  have:=HK ((s.take 8).drop i);rw[QWV,QXd,QXw hs]at this;exact this
 have h8:256 ^ (8-i)≤256 ^ 8:=QYe (by omega) (by omega);have h88:(256:Nat) ^ 8=18446744073709551616:=by decide
 have hcl:=c.toNat_lt
 constructor<;>(simp only[ZS];omega)

def Qas (s:List UInt8)(fr:Nat→Ob)(k:Nat)(st:St):Prop :=
 ∃f,∃i:Nat,st=⟨f,[fr],[]⟩∧k=i∧i≤8∧f 1=.ptr 0 1 0∧f 3=.ptr 0 3 0∧f 5=.str s∧f 6=.int .u64 (Uy s i:Nat)∧f 7=.int .i64 ((i:Int)-1)

theorem QRF (c:C):Qi Tryz.prog 111 [c.av] (YB c.fixed):=by
 refine QLO.fn (by simp) ?_;simp only[C.av,eE,seval];refine aC (c62 c) ?_;simp only[Qa,seval];refine QP (fun h=>?_) (fun h=>?_)
 ·have h:c.rest.length<8:=by(have h:(c.rest.length:Int)<8:=(by simpa using h));omega
  simp only[C.fixed,YB,h,C.av,eE,seval]
  try rfl
 ·have h:¬c.rest.length<8:=by(have h:¬(c.rest.length:Int)<8:=(by simpa using h));omega
  simp only[Qa,seval];refine Qc (Qas c.rest _) _ ⟨_,8,rfl,rfl,by omega,rfl,rfl,rfl,?_,rfl⟩ ?_
  ·simp[Uy,ZU,seval]
  rintro n st ⟨f,i,rfl,rfl,hi,h1,h3,h5,h6,h7⟩;simp only[h7,Qa,seval];refine QP (fun hc=>?_) (fun hc=>?_)
  ·have hc:1≤n:=by(have hc:(0:Int)≤(n:Int)-1:=(by simpa using hc));omega
   obtain⟨i,rfl⟩:∃i,n=i+1:=⟨n-1,by omega⟩;have e0:(((i+1:Nat):Int)-1)=(i:Int):=by omega
   have n0:(0≤(i:Int))=True:=by simp
   obtain⟨b,hb⟩:∃b,c.rest[i]? = some b:=⟨c.rest[i],QWh (by omega)⟩;have e1:IntKind.i64.wrap ((i:Int)-1)=(i:Int)-1:=by rw[QC];omega
   have ha:=(Sn c.rest i (by omega) (by omega) b hb).1;simp only[e0,n0,QXI,hb,ha,e1,h5,h6,h7,Qa,seval];exact⟨i,by omega,_,i,rfl,rfl,by omega,by simp only[h1,Qa,seval],by simp only[h3,Qa,seval],by simp only[h5,Qa,seval],by simp only[Qa,seval],by simp only[Qa,seval]⟩
  ·have hc:n=0:=by(have hc:¬(0:Int)≤(n:Int)-1:=(by simpa using hc));omega
   subst hc;simp only[h1,h6,eE,seval];refine aC (Qxd c 8) ?_;simp only[YB,C.fixed,h,C.av,C.ahead,h3,eE,seval]
   try rfl

open Up

theorem Qxg (w:Int):Qi Tryz.prog 106 [.int .i64 w] (.bool (Xb w)):=by
 refine QcP.fn (by simp) ?_;simp only[Qa,seval]
 repeat' (first|(refine QP (fun h=>?_) (fun h=>?_)<;>simp only[h,eE,seval])|(refine Xl (fun h=>?_) (fun h=>?_)<;>simp only[h,Qk,eE,seval])|(refine Xm (fun h=>?_) (fun h=>?_)<;>simp only[h,Qk,Qa,seval]))
 all_goals simp_all[Xb]

theorem QRG (w:Int):Qi Tryz.prog 112 [.int .i64 w] (.bool (Xb w)):=by
 refine QLR.fn (by simp) ?_;simp only[Qa,seval]
 repeat' (first|(refine QP (fun h=>?_) (fun h=>?_)<;>simp only[h,eE,seval])|(refine Xl (fun h=>?_) (fun h=>?_)<;>simp only[h,Qk,eE,seval])|(refine Xm (fun h=>?_) (fun h=>?_)<;>simp only[h,Qk,Qa,seval]))
 all_goals simp_all[Xb]

theorem P8 {n w:Int}(h:¬(n<1∨65535<n∨w<0∨6<w)):IntKind.u64.wrap (IntKind.i64.wrap (IntKind.i64.wrap (n*8)+w))=((n*8+w).toNat:Nat)∧(n*8+w).toNat<18446744073709551616:=by
 simp only[ZS,QC];omega

theorem Qxh (n w:Int):Qi Tryz.prog 103 [.int .i64 n,.int .i64 w] (Cy (Zm n w)):=by
 refine QcD.fn (by simp) ?_;simp only[Qa,seval];by_cases hb:n<1∨65535<n∨w<0∨6<w
 ·repeat' (first|(refine QP (fun h=>?_) (fun h=>?_)<;>simp only[h,Qa,seval])|(refine Xl (fun h=>?_) (fun h=>?_)<;>simp only[h,Qk,eE,seval])|(refine Xm (fun h=>?_) (fun h=>?_)<;>simp only[h,Qk,Qa,seval]))
  all_goals first
   |(rw[Zm,QWJ hb]<;>rfl)
   |(exfalso;simp only[QYb]at *;omega)
 ·obtain⟨e1,e2⟩:=P8 hb;have d1:decide (n<1)=false:=by simp;omega
  have d2:decide (65535<n)=false:=by simp;omega
  have d3:decide (w<0)=false:=by simp;omega
  have d4:decide (6<w)=false:=by simp;omega
  simp only[d1,d2,d3,d4,e1,Qa,seval];refine aC (CO _ e2) ?_;rw[Zm,QWu hb];simp only[Cy,Qa,seval]
  try rfl

theorem Sp {u:Nat}(h:¬(u / 8<1∨65535<u / 8)):IntKind.i64.wrap (IntKind.u64.wrap ((u:Int).tdiv 8))=((u / 8:Nat):Int)∧IntKind.i64.wrap ((u:Int).tmod 8)=((u % 8:Nat):Int):=by
 have e1:(u:Int).tdiv 8=((u / 8:Nat):Int):=by rw[Int.tdiv_eq_ediv_of_nonneg (by omega)];omega
 have e2:(u:Int).tmod 8=((u % 8:Nat):Int):=by rw[QYr (by omega)];omega
 rw[e1,e2];simp only[ZS,QC];omega

theorem c63 (c:C)(hl:c.d.length≤9223372036854770000):Qi Tryz.prog 63 [c.av] (Vh (XW c)):=by
 refine k63.fn (by simp) ?_;simp only[C.av,eE,seval];refine aC (Qxf c) ?_;have hv:=fun h=>Zf (c:=c) (by omega) h
 unfold XW;generalize c.varint=r at hv ⊢;obtain⟨u,d,e⟩:=r;simp only[YB,C.av,eE,seval]at hv ⊢;refine QP (fun h=>?_) (fun h=>?_)
 ·have h:¬e=0:=by simpa using h
  simp only[h,Vh,C.av,eE,seval]
 ·have h:e=0:=by simpa using h
  subst h;obtain⟨n,_,_,_,_,_,_,hu⟩:=hv rfl;have e1:(u:Int).tdiv 8=((u / 8:Nat):Int):=by rw[Int.tdiv_eq_ediv_of_nonneg (by omega)];omega
  have e2:(u:Int).tmod 8=((u % 8:Nat):Int):=by rw[QYr (by omega)];omega
  have e3:IntKind.u64.wrap ((u / 8:Nat):Int)=((u / 8:Nat):Int):=by rw[ZS];omega
  simp only[e2,show(((8:Int)=0))=False from by simp,Qa,seval];refine QP (fun h=>?_) (fun h=>?_)
  ·have h:u % 8=7:=by(have h:((u % 8:Nat):Int)=7:=(by simpa using h));omega
   simp only[h,Vh,C.av,eE,seval]
   try rfl
  ·have h7:¬u % 8=7:=by(have h:¬((u % 8:Nat):Int)=7:=(by simpa using h));omega
   simp only[e1,e3,show(((8:Int)=0))=False from by simp,Qa,seval];by_cases hb:u / 8<1∨65535<u / 8
   ·repeat' (first|(refine QP (fun h=>?_) (fun h=>?_)<;>simp only[h,e1,e2,e3,show(((8:Int)=0))=False from by simp,eE,seval])|(refine Xl (fun h=>?_) (fun h=>?_)<;>simp only[h,Qk,e1,e2,e3,show(((8:Int)=0))=False from by simp,if_false,eE,seval])|(refine Xm (fun h=>?_) (fun h=>?_)<;>simp only[h,Qk,e1,e3,show(((8:Int)=0))=False from by simp,eE,seval]))
    all_goals first
     |(simp only[h7,hb,Vh,C.av,seval]<;>rfl)
     |(exfalso;simp only[QYb]at *;omega)
   ·obtain⟨t1,t2⟩:=Sp hb;rw[e1,e3]at t1;rw[e2]at t2;have d1:decide (((u / 8:Nat):Int)<1)=false:=by simp;omega
    have d2:decide (65535<((u / 8:Nat):Int))=false:=by simp;omega
    simp only[d1,d2,e1,e2,e3,t1,t2,show(((8:Int)=0))=False from by simp,eE,seval];simp only[h7,hb,Vh,C.av,seval]
    try rfl

theorem Qxi {c d:C}{u:Nat}(hl:c.d.length≤9223372036854770000)(hd:c.varint=(u,d,0))(hu:¬d.left<(u:Int)) :
  d.a+u≤d.d.length∧0≤d.a∧(u:Int)≤9223372036854770000∧d.d.length=c.d.length:=by
 obtain⟨n,h1,h2,h3,h4,h5,h6,h7⟩:=Zf (c:=c) (by omega) (by rw[hd]);rw[hd]at h4 h6;simp only at h4 h6;have hs:=(C.sound_iff d).1 h6;have hr:=d.rest_len;rw[QWJ h6]at hr;have:d.d=c.d:=by rw[h4]
 have e:d.d.length=c.d.length:=by rw[this]
 omega

theorem Qat {c d:C}{u:Nat}(hl:c.d.length≤9223372036854770000)(hd:c.varint=(u,d,0)):d.d.length≤9223372036854770000:=by
 obtain⟨n,h1,h2,h3,h4,h5,h6,h7⟩:=Zf (c:=c) (by omega) (by rw[hd]);rw[hd]at h4;simp only at h4;rw[h4];exact hl

theorem Wb (d:C):0≤d.left∧d.left≤(d.d.length:Int):=by
 have hr:=d.rest_len;have hs:=C.sound_iff d;split at hr
 ·rename_i h;have:=hs.1 h;omega
 ·omega

theorem Qau {c:C}(hl:c.d.length≤9223372036854770000):(XW c).2.2.1.d.length≤9223372036854770000:=by
 unfold XW;simp only;split
 ·rename_i h0;split
  ·exact hl
  ·split
   ·exact hl
   ·obtain⟨n,_,_,_,h4,_⟩:=Zf (c:=c) (by omega) h0;show c.varint.2.1.d.length≤_;rw[h4];exact hl
 ·exact hl

theorem P9 {c:C}{n:Int}(hl:c.d.length≤9223372036854770000):(c.spend n).1.d.length≤9223372036854770000:=by
 unfold C.spend;split
 ·exact hl
 ·split<;>exact hl

def YR (c:C)(f:R):R×C×Nat :=
 if f.wire=2 then({ f with bits:=c.fixed.1 },c.fixed.2.1,c.fixed.2.2)
 else if c.varint.2.2≠0∨Xb f.wire=true then({ f with bits:=c.varint.1 },c.varint.2.1,c.varint.2.2)
 else if c.varint.2.1.left<(c.varint.1:Int)then(f,c,4)
 else if (f.wire=3∧c.varint.2.1.tx<(c.varint.1:Int))∨(f.wire≠3∧65536<c.varint.1)then(f,c,3)
 else({ f with data:=(c.varint.2.1.d.drop c.varint.2.1.a.toNat).take c.varint.1 },c.varint.2.1.ahead c.varint.1,0)

theorem c65 (c:C)(f:R)(hl:c.d.length≤9223372036854770000):Qi Tryz.prog 65 [f.av,c.av] (JO (YR c f)):=by
 refine k65.fn (by simp) ?_;simp only[C.av,R.av,eE,seval];by_cases h2:f.wire=2
 ·have d2:(f.wire==2)=true:=by simpa using h2
  simp only[d2,eE,seval];refine aC (QRF c) ?_;simp only[YB,JO,YR,h2,C.av,R.av,eE,seval]
 ·have d2:(f.wire==2)=false:=by simpa using h2
  simp only[d2,eE,seval];refine aC (Qxf c) ?_;have hcut:=fun u d h hu=>Qxi (c:=c) (d:=d) (u:=u) hl h hu
  have hdl:=fun u d h=>Qat (c:=c) (d:=d) (u:=u) hl h
  unfold YR;generalize c.varint=r at hcut hdl ⊢;obtain⟨u,d,e⟩:=r;simp only[YB,C.av,eE,seval];by_cases he:e=0
  ·subst he;simp only[eE,seval];refine aC (QRG f.wire) ?_;cases hn:Xb f.wire with
   |true=>simp only[JO,R.av,C.av,h2,or_true,eE,seval]
   |false=>
    have hdl:=hdl u d rfl;have hlf:=Wb d;have e0:IntKind.u64.wrap d.left=d.left:=by rw[ZS];omega
    simp only[eE,seval];refine aC (c33 d) ?_;have hcut:=hcut u d rfl;by_cases hu:d.left<(u:Int)
    ·simp only[e0,hu,JO,R.av,C.av,h2,or_self,eE,seval]
     try rfl
    ·obtain⟨k1,k2,k3,k4⟩:=hcut hu;have e1:IntKind.i64.wrap (u:Int)=u:=by rw[QC];omega
     have e2:IntKind.i64.wrap (d.a+(u:Int))=d.a+u:=by rw[QC];omega
     have n1:(0≤d.a)=True:=eq_true k2;have n2:(0≤d.a+(u:Int))=True:=eq_true (by omega);have n3:(d.a.toNat≤(d.a+(u:Int)).toNat∧(d.a+(u:Int)).toNat≤d.d.length)=True:=eq_true (by omega);have n4:(d.a+(u:Int)).toNat-d.a.toNat=u:=by omega
     have d1:decide (d.left<(u:Int))=false:=by simpa using hu
     simp only[e0,d1,eE,seval];by_cases hw:f.wire=3
     ·have dw:(f.wire==3)=true:=by simpa using hw
      by_cases hm:d.tx<(u:Int)
      ·have d2:decide (d.tx<(u:Int))=true:=by simpa using hm
       simp only[e1,hu,hm,hw,QXq,JO,R.av,C.av,or_self,true_or,eE,seval]
       try rfl
      ·have d2:decide (d.tx<(u:Int))=false:=by simpa using hm
       simp only[e1,e2,n1,n2,n3,n4,hu,hm,hw,QXq,bne_self_eq_false,JO,R.av,C.av,C.ahead,or_self,and_false,false_and,eE,seval]
       try rfl
     ·have dw:(f.wire==3)=false:=by simpa using hw
      have dw':(f.wire != 3)=true:=by simpa using hw
      by_cases hm:65536<(u:Int)
      ·have d2:decide (65536<(u:Int))=true:=by simpa using hm
       have hm':65536<u:=by omega
       simp only[dw,dw',d2,hu,hm',hw,h2,JO,R.av,C.av,or_self,or_true,false_and,QXk,eE,seval]
       try rfl
      ·have d2:decide (65536<(u:Int))=false:=by simpa using hm
       have hm':¬65536<u:=by omega
       simp only[dw,dw',d2,e1,e2,n1,n2,n3,n4,hu,hm',hw,h2,JO,R.av,C.av,C.ahead,or_self,and_false,false_and,eE,seval]
       try rfl
  ·simp only[Wx he,he,h2,JO,R.av,C.av,true_or,eE,seval]

theorem CQ (c:C)(f:R)(hl:c.d.length≤9223372036854770000):(YR c f).2.2=(Z2 c f).2.2∧((Z2 c f).2.2=0→YR c f=Z2 c f):=by
 unfold YR Z2 Kn;by_cases h2:f.wire=2
 ·simp[h2]
 ·by_cases hv:c.varint.2.2=0
  ·obtain⟨n,_,_,_,h4,_⟩:=Zf (c:=c) (by omega) hv;have htx:c.varint.2.1.tx=c.tx:=by rw[h4]
   by_cases hn:f.wire=0∨f.wire=1
   ·have:Xb f.wire=true:=by rcases hn with h|h<;>simp[Xb,h]
    simp[h2,hn,this]
   ·have:Xb f.wire=false:=by
     simp only[not_or]at hn;simp[Xb,hn.1,hn.2,h2]
    simp only[h2,hn,hv,this,htx,ne_eq,not_true_eq_false,or_self,if_false,if_true,QWz];by_cases hu:c.varint.2.1.left<(c.varint.1:Int)
    ·simp[hu]
    ·simp only[hu,if_false];by_cases hw:f.wire=3
     ·by_cases hm:c.tx<(c.varint.1:Int)<;>simp[hw,hm]
     ·by_cases hm:65536<c.varint.1
      ·have hm':(65536:Int)<(c.varint.1:Int):=by omega
       simp[hw,hm,hm']
      ·have hm':¬(65536:Int)<(c.varint.1:Int):=by omega
       simp[hw,hm,hm']
  ·simp only[h2,hv,ne_eq,not_false_eq_true,true_or,if_true,if_false];by_cases hn:f.wire=0∨f.wire=1
   ·simp[hn]
   ·simp[hn,hv]

theorem c34 (c:C)(hl:c.d.length≤9223372036854770000):Qi Tryz.prog 34 [c.av] (JO (ZP c)):=by
 refine k34.fn (by simp) ?_;simp only[C.av,eE,seval];refine aC (c63 c (by omega)) ?_;have htl:=Qau hl;unfold ZP;generalize XW c=t at htl ⊢;obtain⟨num,wire,d,e⟩:=t;simp only[Vh,C.av,eE,seval]at htl ⊢;by_cases he:e=0
 ·subst he;simp only[eE,seval];refine aC (c64 d 1) ?_;have hsl:=P9 (n:=1) htl;generalize d.spend 1=sp at hsl ⊢;obtain⟨d2,e2⟩:=sp;simp only[TG,C.av,eE,seval]at hsl ⊢;by_cases he2:e2=0
  ·subst he2;simp only[eE,seval];refine aC (c65 d2 ⟨num,wire,0,[]⟩ hsl) ?_;obtain⟨q1,q2⟩:=CQ d2 ⟨num,wire,0,[]⟩ hsl;generalize Z2 d2 ⟨num,wire,0,[]⟩=k at q1 q2 ⊢;generalize YR d2 ⟨num,wire,0,[]⟩=rk at q1 q2 ⊢;obtain⟨f,d3,e3⟩:=k;obtain⟨rf,rd3,re3⟩:=rk;simp only at q1 q2;subst q1;by_cases he3:re3=0
   ·have q2:=q2 he3;simp only[QXL]at q2;obtain⟨rfl,rfl,_⟩:=q2;subst he3;simp only[JO,R.av,C.av,eE,seval]
    try rfl
   ·simp only[Wx he3,he3,JO,zr,R.av,C.av,eE,seval]
    try rfl
  ·simp only[Wx he2,he2,JO,zr,R.av,C.av,eE,seval]
   try rfl
 ·simp only[Wx he,he,JO,zr,R.av,C.av,eE,seval]
  try rfl

def sg:Nat→C→List R×Nat
 |0,_=>([],0)
 |k+1,c=>
  if 0<c.left then
   let r:=ZP c
   if r.2.2=0 then
    let t:=sg k r.2.1
    if t.2=0 then(r.1 :: t.1,0)else([],t.2)
   else([],r.2.2)
  else([],0)

def Wz (s:List UInt8)(l:L):List R×Nat :=
 let o:=opn s l
 if o.2=0 then sg s.length o.1 else([],o.2)

def Jv (l:List R):List AV:=l.map R.av
def Vy (r:List R×Nat):AV:=.tup [.list (Jv r.1),.int .i64 (r.2:Nat)]

theorem CR (a b:List R):Jv (a++b)=Jv a++Jv b:=by simp[Jv]
theorem UY (a:List R):(Jv a).length=a.length:=by simp[Jv]

theorem CS {c:C}(hl:c.d.length≤9223372036854775807)(h:c.fixed.2.2=0):c.sound=true∧8≤c.left∧c.fixed.2.1={ c with a:=c.a+8 }∧c.fixed.1<2 ^ 64:=by
 unfold C.fixed at h ⊢;split at h
 ·cases h
 ·rename_i hr;have hne:c.rest≠[]:=by intro e;rw[e]at hr;simp at hr
  have hs:=BK hne;have hs':=(C.sound_iff c).1 hs;have hle:=c.rest_len;rw[QWJ hs]at hle;have h8:8≤c.left:=by unfold C.left;omega
  have hw:IntKind.i64.wrap (c.a+8)=c.a+8:=by rw[QC];omega
  refine⟨hs,h8,?_,?_⟩
  ·rw[QWu hr];simp only[C.ahead,hw]
  ·rw[QWu hr];have h1:=HK (c.rest.take 8);rw[QXd,QXw (by omega)]at h1;have:(256:Nat) ^ 8=2 ^ 64:=by decide
   show Dy c.rest<2 ^ 64;unfold Dy;omega

structure Step (c d:C):Prop where
 n:∃k:Nat,d={ c with a:=c.a+k,nd:=d.nd }∧0<k∧(k:Int)≤c.left
 sound:c.sound=true

theorem Step.left {c d:C}(h:Step c d):d.sound=true∧d.left<c.left∧0≤d.left∧d.d=c.d∧d.left=c.left-(d.a-c.a):=by
 obtain⟨⟨k,h1,h2,h3⟩,h4⟩:=h;have hs:=(C.sound_iff c).1 h4;have hc:=c.rest_len;rw[QWJ h4]at hc;have e1:d.a=c.a+k:=by rw[h1]
 have e2:d.e=c.e:=by rw[h1]
 have e3:d.d=c.d:=by rw[h1]
 have hd:d.sound=true:=by
  rw[C.sound_iff,e1,e2,e3];omega
 have hdl:=d.rest_len;rw[QWJ hd]at hdl;exact⟨hd,by omega,by omega,e3,by omega⟩

theorem Nj {c:C}(hl:c.d.length≤9223372036854770000)(h:(ZP c).2.2=0):Step c (ZP c).2.1:=by
 unfold ZP at h ⊢;simp only at h ⊢;split at h
 ·rename_i ht;split at h
  ·rename_i hs;split at h
   ·rename_i hk;rw[QWJ ht,QWJ hs,QWJ hk]
    -- the Zm
    unfold XW at ht hs hk ⊢;simp only at ht hs hk ⊢;split at ht
    ·rename_i hv;rw[QWJ hv]at hs hk ⊢;split at ht
     ·cases ht
     ·rename_i h7;rw[QWu h7]at hs hk ⊢;split at ht
      ·cases ht
      ·rename_i h8;rw[QWu h8]at hs hk ⊢;simp only at hs hk ⊢;obtain⟨n,g1,g2,g3,g4,g5,g6,g7⟩:=Zf (c:=c) (by omega) hv;rw[g4]at hs hk ⊢;have hsc:=(C.sound_iff c).1 g5;have hcl:=c.rest_len;rw[QWJ g5]at hcl
       -- the value FC
       unfold C.spend at hs hk ⊢;split at hs
       ·cases hs
       ·rename_i s1;rw[QWu s1]at hk ⊢;split at hs
        ·cases hs
        ·rename_i s2;rw[QWu s2]at hk ⊢;simp only at hk ⊢;generalize hd:({ d:=c.d,a:=c.a+n,e:=c.e,dp:=c.dp,nd:=IntKind.i64.wrap (c.nd-1),tx:=c.tx }:C)=d at hk ⊢;have q1:d.d=c.d:=by rw[←hd]
         have q2:d.a=c.a+n:=by rw[←hd]
         have q3:d.e=c.e:=by rw[←hd]
         have q4:d.dp=c.dp:=by rw[←hd]
         have q5:d.tx=c.tx:=by rw[←hd]
         have hdl:d.left≤c.left-n:=by
          have:=d.rest_len;split at this
          ·omega
          ·omega
         have mk:∀(d':C) (j:Nat),d'={ d with a:=d.a+j }→(j:Int)≤d.left→Step c d':=by
          intro d' j e hj;refine⟨⟨n+j,?_,by omega,by omega⟩,g5⟩;rw[e];obtain⟨_,_,_,_,_,_⟩:=d;simp only at q1 q2 q3 q4 q5;subst q1 q2 q3 q4 q5;simp only[C.mk.injEq,QW7,and_true];omega
         -- the contents
         unfold Z2 at hk ⊢;split at hk
         ·rename_i w2;rw[QWJ w2];obtain⟨f1,f2,f3,f4⟩:=CS (c:=d) (by rw[q1];omega) hk;exact mk _ 8 f3 f2
         ·rename_i w2;rw[QWu w2];split at hk
          ·rename_i w1;rw[QWJ w1];obtain⟨j,f1,f2,f3,f4,f5,f6,f7⟩:=Zf (c:=d) (by rw[q1];omega) hk;exact mk _ j f4 f3
          ·rename_i w1;rw[QWu w1];simp only at hk ⊢;unfold Kn at hk ⊢;simp only at hk ⊢;split at hk
           ·rename_i hv2;rw[QWJ hv2];by_cases hu:d.varint.2.1.left<(d.varint.1:Int)
            ·rw[QWJ hu]at hk;cases hk
            ·rw[QWu hu]at hk ⊢;by_cases hm:(if ((c.varint.1 % 8:Nat):Int)=3 then d.tx else 65536)<(d.varint.1:Int)
             ·rw[QWJ hm]at hk;cases hk
             ·rw[QWu hm];obtain⟨j,f1,f2,f3,f4,f5,f6,f7⟩:=Zf (c:=d) (by rw[q1];omega) hv2;have hs2:=(C.sound_iff d).1 f5;have hl2:=d.rest_len;rw[QWJ f5]at hl2;have hl3:=d.varint.2.1.rest_len;rw[QWJ f6,f4]at hl3;rw[f4]at hu;simp only at hl3;have hdl':(d.d.length:Int)=c.d.length:=by rw[q1]
              have hw:IntKind.i64.wrap (d.a+(j:Int)+(d.varint.1:Int))=d.a+j+d.varint.1:=by
               rw[QC];omega
              refine mk _ (j+d.varint.1) ?_ (by omega);rw[f4];simp only[C.ahead,hw,C.mk.injEq,QW7,and_true];omega
           ·rename_i hv2;exact absurd hk hv2
    ·rename_i hv;exact absurd ht hv
   ·rename_i hk;exact absurd h hk
  ·rename_i hs;exact absurd h hs
 ·rename_i ht;exact absurd h ht

structure ScanS (s:List UInt8)(l:L)(c:C)(acc:List R):Prop where
 len:c.d.length=s.length
 all:Wz s l=(if (sg c.left.toNat c).2=0 then(acc++(sg c.left.toNat c).1,0)else([],(sg c.left.toNat c).2))
 acc:(acc.length:Int)+c.left≤s.length

theorem UZ:∀(k:Nat) (c:C),c.d.length≤9223372036854770000→c.left≤k→sg k c=sg c.left.toNat c
 |0,c,hl,h=>by
  have:=(Wb c).1;rw[show c.left.toNat=0 by omega]
 |k+1,c,hl,h=>by
  have hlb:=Wb c;by_cases h0:0<c.left
  ·obtain⟨j,hj⟩:∃j,c.left.toNat=j+1:=⟨c.left.toNat-1,by omega⟩;rw[hj,sg,sg,QWJ h0,QWJ h0];by_cases hn:(ZP c).2.2=0
   ·obtain⟨_,s2,s3,s4,_⟩:=(Nj hl hn).left;simp only[hn,if_true];have hl':(ZP c).2.1.d.length≤9223372036854770000:=by rw[s4];exact hl
    rw[UZ k _ hl' (by omega),UZ j _ hl' (by omega)]
   ·simp only[hn,if_false]
  ·have e:c.left.toNat=0:=by omega
   rw[e];simp only[sg,h0,if_false]

theorem CU {s:List UInt8}{l:L}(hl:s.length≤9223372036854770000)(h:(opn s l).2=0):ScanS s l (opn s l).1 []:=by
 have ho:(opn s l).1=⟨s,0,s.length,l.dp,l.nd,l.tx⟩:=by
  unfold opn at h ⊢;split
  ·rename_i h1;rw[QWJ h1]at h;cases h
  ·rename_i h1;rw[QWu h1]at h;split
   ·rename_i h2;rw[QWJ h2]at h;cases h
   ·rfl
 have hsnd:(opn s l).1.sound=true:=by rw[ho,C.sound_iff];simp
 have hleft:(opn s l).1.left=s.length:=by
  have:=(opn s l).1.rest_len;rw[QWJ hsnd]at this;rw[this,ho];simp
 refine⟨by rw[ho],?_,by rw[hleft];simp⟩;unfold Wz;simp only[h,if_true];rw[UZ s.length _ (by rw[ho];exact hl) (by rw[hleft];omega)];split
 ·rename_i h';rw[QWD];exact Prod.ext rfl h'
 ·rename_i h';refine Prod.ext ?_ rfl;show(sg _ _).1=[];generalize (opn s l).1.left.toNat=k at h' ⊢;generalize (opn s l).1=c at h' ⊢;cases k with
  |zero=>rfl
  |succ k=>
   rw[sg]at h' ⊢;simp only at h' ⊢;split
   ·rename_i h0;rw[QWJ h0]at h';split
    ·rename_i h1;rw[QWJ h1]at h';split
     ·rename_i h2;rw[QWJ h2]at h';exact absurd rfl h'
     ·rfl
    ·rfl
   ·rfl

theorem ScanS.done {s:List UInt8}{l:L}{c:C}{acc:List R}(h:ScanS s l c acc)(h0:¬0<c.left):Wz s l=(acc,0):=by
 have:=h.all;have hb:=(Wb c).1;rw[show c.left.toNat=0 by omega]at this
 simpa [sg]using this

theorem ScanS.err {s:List UInt8}{l:L}{c:C}{acc:List R}(h:ScanS s l c acc)(h0:0<c.left)(hn:¬(ZP c).2.2=0):Wz s l=([],(ZP c).2.2):=by
 have:=h.all;obtain⟨j,hj⟩:∃j,c.left.toNat=j+1:=⟨c.left.toNat-1,by omega⟩;rw[hj,sg]at this
 simpa only [h0,hn,if_true,if_false]using this

theorem ScanS.step {s:List UInt8}{l:L}{c:C}{acc:List R}(hl:s.length≤9223372036854770000)(h:ScanS s l c acc)(h0:0<c.left)(hn:(ZP c).2.2=0):ScanS s l (ZP c).2.1 (acc++[(ZP c).1])∧(ZP c).2.1.left<c.left∧0≤(ZP c).2.1.left:=by
 have hcl:c.d.length≤9223372036854770000:=by rw[h.len];exact hl
 obtain⟨_,s2,s3,s4,_⟩:=(Nj hcl hn).left;refine⟨⟨by rw[s4];exact h.len,?_,?_⟩,s2,s3⟩
 ·have:=h.all;obtain⟨j,hj⟩:∃j,c.left.toNat=j+1:=⟨c.left.toNat-1,by omega⟩;rw[hj,sg]at this;simp only[h0,hn,if_true]at this;rw[UZ j _ (by rw[s4];exact hcl) (by omega)]at this;rw[this];by_cases hs:(sg (ZP c).2.1.left.toNat (ZP c).2.1).2=0
  ·simp[hs]
  ·simp[hs]
 ·have:=h.acc;simp;omega

def Qxj (s:List UInt8)(l:L)(k:Nat)(st:St):Prop :=
 ∃f fr c acc g,st=⟨f,[fr],[]⟩∧k=c.left.toNat∧ScanS s l c acc∧f 6=.ptr 0 6 0∧f 8=.vec 0 8 g 0 acc.length false∧fr 6=.cells c.av.cells∧fr 8=.vec g 4 (Jv acc)∧(fr 9).isRow=false∧(fr 10).isRow=false

theorem c14 (s:List UInt8)(l:L)(hl:s.length≤1000000000000):Qi Tryz.prog 14 [.str s,l.av] (Vy (Wz s l)):=by
 refine k14.fn (by simp) ?_;simp only[L.av,eE,seval];refine aC (c32 s l) ?_;have hst:=CU (s:=s) (l:=l) (by omega);have hsc:¬(opn s l).2=0→Wz s l=([],(opn s l).2):=fun h=>by simp[Wz,h]
 generalize opn s l=o at hst hsc ⊢;obtain⟨c0,e⟩:=o;simp only[TG,C.av,eE,seval]at hst hsc ⊢;by_cases he:e=0
 ·subst he;simp only[Qa,seval];refine Zj rfl rfl ?_;simp only[Qa,seval];refine Qc (Qxj s l) _ ⟨_,_,c0,[],1,rfl,rfl,hst rfl,rfl,rfl,rfl,rfl,rfl,rfl⟩ ?_;rintro n st ⟨f,fr,c,acc,g,rfl,rfl,hS,h6,h8,m6,m8,m9,m10⟩;have hcl:c.d.length≤9223372036854770000:=by rw[hS.len];omega
  simp only[C.av,AV.cells]at m6;simp only[h6,m6,m9,m10,eE,seval];refine aC (c33 c) ?_;simp only[Qa,seval];by_cases h0:0<c.left
  ·have d0:decide (0<c.left)=true:=by simpa using h0
   simp only[d0,h6,m6,eE,seval];refine aC (c34 c hcl) ?_;have hstep:=hS.step (by omega) h0;have herr:=hS.err h0;generalize ZP c=r at hstep herr ⊢;obtain⟨fd,c',e⟩:=r;simp only at hstep herr;simp only[JO,R.av,C.av,eE,seval];by_cases he:e=0
   ·subst he;obtain⟨hS',hlt,hge⟩:=hstep rfl;have hacc:=hS'.acc;have hal:(acc++[fd]).length=acc.length+1:=by simp
    rw[hal]at hacc;simp only[h8,eE,seval];refine Mr rfl rfl (by decide) rfl rfl ?_;refine QM rfl (by simp only[m8,Qa,seval]) rfl (UY acc).symm rfl rfl (by simp[maxLen];omega) (by simp;omega) ?_;simp only[h6,m6,eE,seval];refine⟨c'.left.toNat,by omega,_,_,c',acc++[fd],g+1,rfl,rfl,hS',?_,?_,?_,?_,?_,?_⟩
    ·simp only[h6,Qa,seval]
    ·simp only[hal,Qa,seval]
    ·simp only[C.av,eE,seval]
    ·simp only[CR,Qa,seval]
     try rfl
    ·simp only[Qa,seval]
    ·simp only[Qa,seval]
   ·rw[herr he];simp only[Wx he,Vy,Jv,Qa,seval]
  ·have d0:decide (0<c.left)=false:=by simpa using h0
   have hd:=hS.done h0;have hle:(0+acc.length≤(Jv acc).length)=True:=eq_true (by rw[UY];omega);have ht:List.take acc.length (Jv acc)=Jv acc:=QWO (by rw[UY];exact QWe _);simp only[d0,h8,m8,hd,Vy,hle,ht,bne_self_eq_false,eE,seval]
   try rfl
 ·rw[hsc he];simp only[Wx he,Vy,Jv,QXh,Qa,seval]

end Go.Proofs.YtdhlbgejhcejcaaGreatDoor.Va

namespace Go.Proofs.YtdhlbgejhcejcaaGreatDoor.Va
open Go Am Rc Bt Vp Cp

def Qxk (u:Nat)(k:Nat)(st:St):Prop :=
 ∃f fr i,st=⟨f,[fr],[]⟩∧k=8-i∧i≤8∧f 0=.int .u64 (u:Nat)∧f 3=.vec 0 5 1 0 8 false∧f 7=.int .i64 8∧f 8=.int .i64 (i:Nat)∧fr 5=.vec 1 1 (Qz (fx i u)++List.replicate (8-i) (AV.int .u8 0))

theorem Qav (u i:Nat)(hi:i<8):IntKind.u8.wrap ((u:Int).fdiv (2 ^ min (8*i) 64))=((UInt8.ofNat (u / 256 ^ i % 256)).toNat:Int):=by
 have hp:(256:Nat) ^ i=2 ^ (8*i):=by rw[Nat.pow_mul]
 rw[QXw (by omega),QYp _ (Int.le_of_lt (Int.pow_pos (by decide))),toNat_ofNat _ (Nat.mod_lt _ (by decide)),hp,wu8];have:(u:Int) / 2 ^ (8*i)=((u / 2 ^ (8*i):Nat):Int):=by push_cast;rfl
 rw[this];omega

theorem Qxl (u:Nat):Qi Tryz.prog 105 [.int .u64 u] (.str (fx 8 u)):=by
 refine QLF.fn (by simp) ?_;simp only[Qa,seval];refine UI (n:=8) (k:=8) rfl rfl (QWe _) (by decide) (by decide) rfl ?_;simp only[eE,seval];refine Qc (Qxk u) 8 ?_ ?_
 ·exact⟨_,_,0,rfl,rfl,by omega,rfl,rfl,rfl,rfl,rfl⟩
 rintro n st ⟨f,fr,i,rfl,rfl,hi,h0,h3,h7,h8,m5⟩;simp only[h7,h8,Qa,seval];have hlen:(Qz (fx i u)).length=i:=by simp[Qz,Wy]
 by_cases hlt:i<8
 ·have d0:decide ((i:Int)<8)=true:=by simp;omega
  have e0:IntKind.i64.wrap (8*(i:Int))=((8*i:Nat):Int):=by rw[QC];omega
  have n0:(0≤((8*i:Nat):Int))=True:=eq_true (by omega);have n1:(0≤(i:Int))=True:=by simp
  have n2:(i<8)=True:=eq_true hlt;have e1:IntKind.i64.wrap ((i:Int)+1)=((i+1:Nat):Int):=by rw[QC];omega
  have hb:=Qav u i hlt;obtain⟨j,hj⟩:∃j,8-i=j+1:=⟨7-i,by omega⟩;have hget:(Qz (fx i u)++List.replicate (8-i) (AV.int .u8 0))[0+i]? = some (.int .u8 0):=by
   rw[QWW,QXH (by omega),hlen,Nat.sub_self,hj];rfl
  have hset:(Qz (fx i u)++List.replicate (8-i) (AV.int .u8 0)).set (0+i) (AV.int .u8 ((UInt8.ofNat (u / 256 ^ i % 256)).toNat:Int))=Qz (fx (i+1) u)++List.replicate (8-(i+1)) (AV.int .u8 0):=by
   rw[QWW,Qaq,List.set_append_right _ _ (by omega),hlen,Nat.sub_self,hj,show 8-(i+1)=j by omega];simp[Qz,List.replicate_succ]
  simp only[d0,e0,n0,n1,n2,e1,hb,QXI,Qb,hget,ZF,AV.rfL,AV.rf,hset,h0,h3,h8,m5,eE,seval];exact⟨8-(i+1),by omega,_,_,i+1,rfl,rfl,by omega,by simp only[h0,Qa,seval],by simp only[h3,Qa,seval],by simp only[h7,Qa,seval],by simp only[Qa,seval],by simp only[Qa,seval]⟩
 ·have Uy:i=8:=by omega
  subst Uy;have d0:decide (((8:Nat):Int)<8)=false:=rfl;rw[Nat.sub_self,List.replicate_zero,QXj]at m5;have he:=WJ (m:=[]) (fr:=fr) (site:=5) (g:=1) (sz:=1) (n:=8) (q:=false) m5 (by simp[Qz,Wy]);have hbo:bytesOf (Qz (fx 8 u))=some (fx 8 u):=YQ _;simp only[he,hbo,h3,Qa,seval]

open Up

def valid (f:R):Bool:=(Zm f.num f.wire).2==0&&(if Xb f.wire then f.data==[]else f.bits==0)

theorem Qaw (n:Nat):(((n:Nat):Int)==0)=(n==0):=by
 by_cases h:n=0
 ·subst h;rfl
 ·rw[QXY.2 h,QXY.2 (by omega)]

theorem QRH (f:R):Qi Tryz.prog 102 [f.av] (.bool (valid f)):=by
 refine Qcw.fn (by simp) ?_;simp only[R.av,eE,seval];refine aC (Qxh f.num f.wire) ?_;unfold valid;generalize Zm f.num f.wire=t;obtain⟨s,e⟩:=t;simp only[Cy,Qa,seval];by_cases he:e=0
 ·subst he;simp only[eE,seval];refine aC (Qxg f.wire) ?_;cases hn:Xb f.wire with
  |true=>
   simp only[QL,QXq,eE,seval]
  |false=>
   simp only[Qaw,QXq,eE,seval]
 ·simp only[Wx he,Qa,seval];simp[he]

theorem QRI (p v:AV)(h fr:Nat→Ob)(m:Qn)(hs:fr 2141=.cells [p,v])(hp:p=.nilp∨p=.ptr 0 2141 0) :
  Qh Tryz.prog 193 [.ptr 1 2141 0] (h :: fr :: m) fun x m1=>x=.tup []∧m1=h :: QH fr 2141 (.cells [.ptr 0 2141 0,v]) :: m:=by
 refine QhC.go (by simp) ?_;rcases hp with rfl|rfl
 ·simp only[hs,RR.evL,eE,seval]
 ·simp only[hs,RR.evL,AY _ _ _ hs,eE,seval]

structure Bld (fr:Nat→Ob)(bs:List UInt8):Prop where
 mk ::
 cell:∃p g,fr 2141=.cells [p,.vec 0 2005 g 0 bs.length false]∧fr 2005=.vec g 1 (Qz bs)∧(p=.nilp∨p=.ptr 0 2141 0)

def Kj (fr:Nat→Ob)(g:Nat)(bs:List UInt8):Nat→Ob :=
 QH (QH fr 2005 (.vec g 1 (Qz bs))) 2141 (.cells [.ptr 0 2141 0,.vec 0 2005 g 0 bs.length false])

theorem KS (fr:Nat→Ob)(g:Nat)(bs:List UInt8):Bld (Kj fr g bs) bs :=
 ⟨_,g,by rw[Kj,QS],by rw[Kj,QO _ _ (by decide),QS],.inr rfl⟩

theorem WA {fr:Nat→Ob}{g:Nat}{bs:List UInt8}{s:Nat}(h1:s≠2005)(h2:s≠2141):Kj fr g bs s=fr s:=by
 rw[Kj,QO _ _ h2,QO _ _ h1]

theorem Nk (bs t:List UInt8)(fr:Nat→Ob)(m:Qn)(h:Bld fr bs)(hl:bs.length+t.length≤140737488355328) :
  ∃g,Qh Tryz.prog 104 [.ptr 0 2141 0,.str t] (fr :: m) fun x m1=>x=.tup [.int .i64 (t.length:Int),.nili]∧m1=Kj fr g (bs++t) :: m:=by
 obtain⟨p,g,h1,h2,h3⟩:=h.cell;refine⟨g+1,?_⟩;refine QcK.go (by simp) ?_;simp only[Qa,seval];refine Qj (QRI p _ _ fr m h1 h3) rfl ?_;simp only[h1,eE,seval];refine Ud (xs:=Qz bs) rfl (by simp only[h2,eE,seval]) rfl (by simp[Qz]) rfl hl ?_;have hb:Qz bs++Qz t=Qz (bs++t):=by simp[Qz]
 have hn:bs.length+t.length=(bs++t).length:=by simp
 simp only[h1,hb,hn,eE,seval];rw[F4 _ _ _ _ _ (by decide),Dn,F4 _ _ _ _ _ (by decide),Kj]

def FC (fr:Nat→Ob)(bs:List UInt8):Nat→Ob :=
 if bs.length=0 then fr else match fr 2005 with
  |.vec g _ _=>QH fr 2005 (.vec (g+1) 1 [])
  |_=>fr

theorem QRJ (bs:List UInt8)(fr:Nat→Ob)(m:Qn)(h:Bld fr bs)(hl:bs.length≤140737488355328) :
  Qh Tryz.prog 108 [.ptr 0 2141 0] (fr :: m) fun x m1=>x=.str bs∧m1=FC fr bs :: m:=by
 obtain⟨p,g,h1,h2,h3⟩:=h.cell;refine Qc4.go (by simp) ?_;simp only[h1,eE,seval];refine⟨1,2005,g,bs.length,1,Qz bs,by decide,rfl,h2,?_⟩;by_cases h0:bs.length=0
 ·have hb:bs=[]:=QXl h0;subst hb;simp only[Qk,h1,h2,QXc,Int.natCast_zero,eE,seval];refine .inl ⟨rfl,rfl,?_⟩;simp only[Qk,FC,QXc,Qa,seval]
 ·simp only[h0,Qk,h1,h2,eE,seval];refine .inr ⟨1,g,bs.length,Qz bs,bs,rfl,rfl,h2,by simp[Qz],h0,QWO (by simp[Qz]),?_⟩;simp only[h0,Qk,h2,FC,eE,seval]

def body (f:R):List UInt8:=if f.wire=2 then fx 8 f.bits else if Xb f.wire then Vp.put f.bits else Vp.put f.data.length++f.data
def Zq (f:R):List UInt8:=if valid f then(Zm f.num f.wire).1++body f else []
def QW (l:List R):List UInt8:=l.flatMap Zq

theorem Bld.drop {fr:Nat→Ob}{bs:List UInt8}(h:Bld fr bs):Bld (QH (fun i=>(fr i).scrub 5) 5 .none) bs:=by
 obtain⟨p,g,h1,h2,h3⟩:=h.cell;refine⟨p,g,?_,?_,h3⟩
 ·rw[QO _ _ (by decide),h1];rcases h3 with rfl|rfl<;>rfl
 ·rw[QO _ _ (by decide),h2];rfl

theorem Bld.put {fr:Nat→Ob}{bs:List UInt8}(h:Bld fr bs)(o:Ob):Bld (QH fr 5 o) bs:=by
 obtain⟨p,g,h1,h2,h3⟩:=h.cell;exact⟨p,g,by rw[QO _ _ (by decide)];exact h1,by rw[QO _ _ (by decide)];exact h2,h3⟩

def AJ (l:List R)(k:Nat)(st:St):Prop :=
 ∃f fr i,st=⟨f,[fr],[]⟩∧k=l.length-i∧i≤l.length∧f 3=.ptr 0 2141 0∧f 8=.list (Jv l)∧f 9=.int .i64 (l.length:Int)∧f 10=.int .i64 (i:Nat)∧(fr 5).isRow=false∧Bld fr (QW (l.take i))

theorem Fj (l:List R)(i:Nat)(fd:R)(h:l[i]? = some fd):QW (l.take (i+1))=QW (l.take i)++Zq fd:=by
 obtain⟨hi,e⟩:=QWg.1 h;rw[QWA hi,e];simp[QW]

theorem Qax (l:List R)(i:Nat)(fd:R)(h:l[i]? = some fd):(QW (l.take i)).length+(Zq fd).length≤(QW l).length:=by
 have e:QW l=QW (l.take (i+1))++QW (l.drop (i+1)):=by
  unfold QW;rw[←List.flatMap_append,QXx]
 rw[e,Fj l i fd h];simp

theorem c61 (l:List R)(hb:∀fd∈l,fd.bits<18446744073709551616∧fd.data.length<9223372036854775807)(hn:l.length<9223372036854775807)(hl:(QW l).length≤140737488355328):Qi Tryz.prog 61 [.list (Jv l)] (.str (QW l)):=by
 refine k61.fn (by simp) ?_;simp only[eE,seval];refine JK rfl rfl rfl rfl ?_;simp only[UY,Qa,seval];refine Qc (AJ l) _ ⟨_,_,0,rfl,rfl,QWo _,rfl,rfl,rfl,rfl,rfl,?_⟩ ?_
 ·exact⟨.nilp,1,rfl,rfl,.inl rfl⟩
 rintro n st ⟨f,fr,i,rfl,rfl,hi,h3,h8,h9,h10,m5,hB⟩;simp only[h9,h10,m5,Qa,seval];by_cases hlt:i<l.length
 ·obtain⟨fd,hfd⟩:∃fd,l[i]? = some fd:=⟨l[i],QWh hlt⟩;have hmem:=QWt hfd;obtain⟨hb1,hb2⟩:=hb fd hmem;have hfa:(Jv l)[i]? = some fd.av:=by simp[Jv,hfd]
  have hps:=Fj l i fd hfd;have hple:=Qax l i fd hfd;have d0:decide ((i:Int)<(l.length:Int))=true:=by simp;omega
  have n0:(0≤(i:Int))=True:=by simp
  have e1:IntKind.i64.wrap ((i:Int)+1)=((i+1:Nat):Int):=by rw[QC];omega
  -- how a round ends
  have fin:∀(f':Fr) (fr':Nat→Ob) (bs':List UInt8),f' 3=.ptr 0 2141 0→f' 8=.list (Jv l)→f' 9=.int .i64 (l.length:Int)→f' 10=.int .i64 (((i+1:Nat):Nat):Int)→(fr' 5).isRow=false→Bld fr' bs'→bs'=QW (l.take i)++Zq fd→∃k,k<l.length-i∧AJ l k ⟨f',[fr'],[]⟩:=by
   intro f' fr' bs' g1 g2 g3 g4 g5 g6 g7;exact⟨l.length-(i+1),by omega,f',fr',i+1,rfl,rfl,by omega,g1,g2,g3,g4,g5,by rw[hps,←g7];exact g6⟩
  have hB1:=(hB.drop).put (.cells [.int .i64 fd.num,.int .i64 fd.wire,.int .u64 (fd.bits:Nat),.str fd.data]);rw[Dn]at hB1;simp only[d0,n0,QXI,Qb,hfa,R.av,h8,h10,eE,seval];refine aC (QRH fd) ?_;cases hv:valid fd with
  |false=>
   simp only[e1,h10,Qa,seval];refine fin _ _ _ ?_ ?_ ?_ ?_ ?_ hB1 ?_
   ·simp only[h3,Qa,seval]
   ·simp only[h8,Qa,seval]
   ·simp only[h9,Qa,seval]
   ·simp only[Qa,seval]
   ·simp only[Qa,seval]
   ·simp[Zq,hv]
  |true=>
   simp only[eE,seval];refine aC (Qxh fd.num fd.wire) ?_;simp only[Cy,Qa,seval];have hp:Zq fd=(Zm fd.num fd.wire).1++body fd:=by simp[Zq,hv]
   have hpl:=congrArg List.length hp;rw[QWS]at hpl;have hbl:∀x:Nat,x≤(body fd).length→(QW (l.take i)).length+(Zm fd.num fd.wire).1.length+x≤140737488355328:=by intro x hx;omega
   have hbody:body fd=if fd.wire=2 then fx 8 fd.bits else if Xb fd.wire then Vp.put fd.bits else Vp.put fd.data.length++fd.data:=rfl
   obtain⟨g1,hw1⟩:=Nk (QW (l.take i)) (Zm fd.num fd.wire).1 _ [] hB1 (by have:=hbl 0 (by omega);omega);refine Qj hw1 (by simp only[QWM,h3,Qa,seval]) ?_;have B2:=KS (QH (fun i=>(fr i).scrub 5) 5 (.cells [.int .i64 fd.num,.int .i64 fd.wire,.int .u64 (fd.bits:Nat),.str fd.data])) g1 (QW (l.take i)++(Zm fd.num fd.wire).1);have w5:Kj (QH (fun i=>(fr i).scrub 5) 5 (.cells [.int .i64 fd.num,.int .i64 fd.wire,.int .u64 (fd.bits:Nat),.str fd.data])) g1 (QW (l.take i)++(Zm fd.num fd.wire).1) 5=.cells [.int .i64 fd.num,.int .i64 fd.wire,.int .u64 (fd.bits:Nat),.str fd.data]:=by
    rw[WA (by decide) (by decide),QS]
   have hlen2:(QW (l.take i)++(Zm fd.num fd.wire).1).length=(QW (l.take i)).length+(Zm fd.num fd.wire).1.length:=by simp
   generalize hfr2:Kj (QH (fun i=>(fr i).scrub 5) 5 (.cells [.int .i64 fd.num,.int .i64 fd.wire,.int .u64 (fd.bits:Nat),.str fd.data])) g1 (QW (l.take i)++(Zm fd.num fd.wire).1)=fr2 at B2 w5;simp only[w5,eE,seval];by_cases w2:fd.wire=2
   ·have dw:(fd.wire==2)=true:=by simpa using w2
    have hbo:body fd=fx 8 fd.bits:=by rw[hbody,QWJ w2]
    simp only[dw,w5,eE,seval];refine aC (Qxl fd.bits) ?_;obtain⟨g2,hw2⟩:=Nk _ (fx 8 fd.bits) _ [] B2 (by rw[hlen2];exact hbl _ (by rw[hbo];exact QWe _));refine Qj hw2 (by simp only[QWM,h3,Qa,seval]) ?_;simp only[e1,h10,Qa,seval];refine fin _ _ _ ?_ ?_ ?_ ?_ ?_ (KS _ _ _) ?_
    ·simp only[h3,Qa,seval]
    ·simp only[h8,Qa,seval]
    ·simp only[h9,Qa,seval]
    ·simp only[Qa,seval]
    ·rw[WA (by decide) (by decide),w5]<;>rfl
    ·rw[hp,hbo,QWB]
   ·have dw:(fd.wire==2)=false:=by simpa using w2
    simp only[dw,w5,eE,seval];refine aC (Qxg fd.wire) ?_;cases hnu:Xb fd.wire with
    |true=>
     have hbo:body fd=Vp.put fd.bits:=by rw[hbody,QWu w2,QWJ hnu]
     simp only[w5,eE,seval];refine aC (CO fd.bits hb1) ?_;obtain⟨g2,hw2⟩:=Nk _ (Vp.put fd.bits) _ [] B2 (by rw[hlen2];exact hbl _ (by rw[hbo];exact QWe _));refine Qj hw2 (by simp only[QWM,h3,Qa,seval]) ?_;simp only[e1,h10,Qa,seval];refine fin _ _ _ ?_ ?_ ?_ ?_ ?_ (KS _ _ _) ?_
     ·simp only[h3,Qa,seval]
     ·simp only[h8,Qa,seval]
     ·simp only[h9,Qa,seval]
     ·simp only[Qa,seval]
     ·rw[WA (by decide) (by decide),w5]<;>rfl
     ·rw[hp,hbo,QWB]
    |false=>
     have hbo:body fd=Vp.put fd.data.length++fd.data:=by rw[hbody,QWu w2,QWu (by rw[hnu];simp)]
     have hbn:=congrArg List.length hbo;rw[QWS]at hbn;have eu:IntKind.u64.wrap (fd.data.length:Int)=(fd.data.length:Nat):=by rw[ZS];omega
     simp only[eu,w5,eE,seval];refine aC (CO fd.data.length (by omega)) ?_;obtain⟨g2,hw2⟩:=Nk _ (Vp.put fd.data.length) _ [] B2 (by rw[hlen2];exact hbl _ (by omega));refine Qj hw2 (by simp only[QWM,h3,Qa,seval]) ?_;have B3:=KS fr2 g2 (QW (l.take i)++(Zm fd.num fd.wire).1++Vp.put fd.data.length);have w6:Kj fr2 g2 (QW (l.take i)++(Zm fd.num fd.wire).1++Vp.put fd.data.length) 5=.cells [.int .i64 fd.num,.int .i64 fd.wire,.int .u64 (fd.bits:Nat),.str fd.data]:=by
      rw[WA (by decide) (by decide),w5]
     have hlen3:(QW (l.take i)++(Zm fd.num fd.wire).1++Vp.put fd.data.length).length=(QW (l.take i)).length+(Zm fd.num fd.wire).1.length+(Vp.put fd.data.length).length:=by simp;omega
     generalize hfr3:Kj fr2 g2 (QW (l.take i)++(Zm fd.num fd.wire).1++Vp.put fd.data.length)=fr3 at B3 w6;simp only[w6,eE,seval];obtain⟨g3,hw3⟩:=Nk _ fd.data _ [] B3 (by rw[hlen3];have:=hbl (body fd).length (QWe _);omega);refine Qj hw3 (by simp only[QWM,h3,Qa,seval]) ?_;simp only[e1,h10,Qa,seval];refine fin _ _ _ ?_ ?_ ?_ ?_ ?_ (KS _ _ _) ?_
     ·simp only[h3,Qa,seval]
     ·simp only[h8,Qa,seval]
     ·simp only[h9,Qa,seval]
     ·simp only[Qa,seval]
     ·rw[WA (by decide) (by decide),w6]<;>rfl
     ·rw[hp,hbo,QWB,QWB]
 ·have d0:decide ((i:Int)<(l.length:Int))=false:=by simp;omega
  have hil:i=l.length:=by omega
  subst hil;rw[QXR]at hB;simp only[d0,Qa,seval];refine Qj (QRJ (QW l) _ [] hB.drop hl) (by simp only[QWM,h3,Qa,seval]) ?_;simp only[Qa,seval]

end Go.Proofs.YtdhlbgejhcejcaaGreatDoor.Va

namespace Go.Proofs.YtdhlbgejhcejcaaGreatDoor.Va
open Go Am Rc Bt Br Up So

def JF (n:Int)(x:V):R:={ XP x.kd x.bits x.text with num:=n }
section
variable (bd:Int→V→List UInt8)
def Xo (o:PO)(n:Int)(x:V):R:=if o.kind=10 then⟨n,4,0,bd o.target x⟩else JF n x
def KH (o:PO)(p:V×V):R:=⟨o.num,6,0,QW [JF 1 p.1,Xo bd o 2 p.2]⟩
def Nl (w:Int)(b:Nat):List UInt8:=if w=2 then fx 8 b else Vp.put b
def Hm (w:Int)(x:V):List UInt8:=Nl w (XP x.kd x.bits x.text).bits
def Nm (o:PO)(l:List V):R:=⟨o.num,5,0,UInt8.ofNat (wk o.kind).toNat :: l.flatMap (Hm (wk o.kind))⟩
def WB (o:PO)(x:V):List R :=
 if o.card=5 then x.pairs.map (KH bd o)
 else if pk o.card o.kind=true then [Nm o x.list]
 else if o.card=4 then x.list.map (Xo bd o o.num)
 else [Xo bd o o.num x]
def Kk (g:PG)(s:Int×V):List R:=match Zg g s.1 with
 |none=>[]
 |some o=>WB bd o s.2
def Xd (g:PG):List (Int×V)→List R→List R
 | [],rs=>rs
 |s :: sl,rs=>rs.takeWhile (fun r=>decide (r.num<s.1))++Kk bd g s++Xd g sl (rs.dropWhile fun r=>decide (r.num<s.1))
end
def Zx (P:PL):Nat→Int→V→List UInt8
 |0,_,_=>[]
 |n+1,t,v=>QW (Xd (Zx P n) (QR P t) (nrm P (n+1) (QR P t) v).slots (nrm P (n+1) (QR P t) v).raws)

theorem Qxm (n w:Int):(Zm n w).1.length≤10:=by
 unfold Zm;split
 ·exact QWo _
 ·exact(Vp.put_len _).2
theorem Qxn (f:R):(Zq f).length≤20+f.data.length:=by
 unfold Zq;split
 ·have h1:=Qxm f.num f.wire;have h2:(body f).length≤10+f.data.length:=by
   unfold body;split
   ·rw[Wy];omega
   ·split
    ·have:=(Vp.put_len f.bits).2;omega
    ·have:=(Vp.put_len f.data.length).2;rw[QWS];omega
  rw[QWS];omega
 ·exact QWo _
def ZQ (l:List R):Nat:=(l.map fun f=>20+f.data.length).sum
theorem YS:∀l:List R,(QW l).length≤ZQ l
 | []=>QWe _
 |f :: l=>by
  have h1:=Qxn f;have h2:=YS l;unfold QW ZQ at h2 ⊢;rw[QXK,QWS,QWM,QYk];omega
theorem Vz (a b:List R):ZQ (a++b)=ZQ a+ZQ b:=by
 unfold ZQ;rw[QXZ,List.sum_append]
theorem VA (f:R):ZQ [f]=20+f.data.length:=by simp[ZQ]
theorem DI {P:PL}{k tg:Int}{v:V}(h:v.one P k tg=0):v.text.length≤4096:=by
 unfold V.one Un at h;split at h
 ·omega
 split at h
 ·omega
 rename_i h1 h2;simp only[QWl]at h2;omega
theorem Fk (k:Int)(b:Nat)(t:List UInt8):(XP k b t).data.length≤t.length:=by
 unfold XP zr
 repeat' split
 all_goals first|exact QWo _|exact QWe _
theorem Nn (n:Int)(v:V):(JF n v).data.length≤v.text.length:=Fk _ _ _

section
variable {P:PL}{m:PG→V→Int}{bd:Int→V→List UInt8}
variable (hbd:∀(t:Int) (v:V),(0≤t∧t<(P.progs.length:Int))→m (QR P t) v=0→(bd t v).length+70000≤70000*v.cnt)
include hbd
theorem U0 {o:PO}(ho:UO P o){n:Int}{x:V}(h:QU m P o x=0):(Xo bd o n x).data.length+5000≤70000*x.cnt:=by
 have hc:=KF x;unfold QU at h;unfold Xo;split
 ·rename_i hk;rw[QWJ hk]at h;have:=hbd _ _ (ho.tgt hk) h;dsimp only;omega
 ·rename_i hk;rw[QWu hk]at h;have h1:=DI h;have h2:=Nn n x;omega
theorem VB {o:PO}(ho:UO P o){p:V×V}(h1:p.1.one P o.key (-1)=0)(h2:QU m P o p.2=0):20+ZQ [JF 1 p.1,Xo bd o 2 p.2]≤70000*(p.1.cnt+p.2.cnt):=by
 have h3:=U0 hbd ho (n:=2) h2;have h4:=DI h1;have h5:=Nn 1 p.1;have hc:=KF p.1;have e:ZQ [JF 1 p.1,Xo bd o 2 p.2]=(20+(JF 1 p.1).data.length)+(20+(Xo bd o 2 p.2).data.length):=by simp[ZQ]
 omega
theorem No {o:PO}(ho:UO P o){p:V×V}(h1:p.1.one P o.key (-1)=0)(h2:QU m P o p.2=0):20+(KH bd o p).data.length≤70000*(p.1.cnt+p.2.cnt):=by
 have h3:=VB hbd ho h1 h2;have h6:=YS [JF 1 p.1,Xo bd o 2 p.2];unfold KH;dsimp only;omega
omit hbd in
theorem VC (w:Int)(x:V):(Hm w x).length≤10:=by
 unfold Hm Nl;split
 ·rw[Wy];omega
 ·exact(Vp.put_len _).2
omit hbd in
theorem U1 (w:Int):∀l:List V,(l.flatMap (Hm w)).length≤10*l.length
 | []=>QWe _
 |x :: l=>by
  have h1:=VC w x;have h2:=U1 w l;rw[QXK,QWS,QWv];omega
theorem Qay {o:PO}(ho:UO P o){x:V}(h:Xc m P o x=0):ZQ (WB bd o x)≤70000*x.cnt:=by
 have hc:=Xn x;have hp:=KF x;unfold Xc at h;unfold WB;by_cases h5:o.card=5
 ·rw[QWJ h5]at h;rw[QWJ h5];split at h
  ·omega
  have hE:=(KD.1 h).1;have key:∀l:List (V×V),(∀p∈l,p.1.one P o.key (-1)=0∧QU m P o p.2=0)→ZQ (l.map (KH bd o))≤70000*Xz l:=by
   intro l
   induction l with
   |nil=>intro _;exact QWo _
   |cons p l ih=>
    intro hl;have i1:=ih fun q hq=>hl q (by simp[hq])
    obtain⟨a,b⟩:=hl p (by simp);have i2:=No hbd ho a b;obtain⟨pa,pb⟩:=p;unfold ZQ at i1 ⊢;simp only[QWM,QYk,Xz];dsimp only at i2;omega
  have:=key _ hE;omega
 ·rw[QWu h5]at h;rw[QWu h5];split
  ·have h1:=U1 (wk o.kind) x.list;have h2:=HJ x.list;rw[VA];unfold Nm;simp only[QWv];omega
  ·by_cases h4:o.card=4
   ·rw[QWJ h4]at h;rw[QWJ h4];split at h
    ·omega
    have hL:=KE.1 h;have key:∀l:List V,(∀y∈l,QU m P o y=0)→ZQ (l.map (Xo bd o o.num))≤70000*XT l:=by
     intro l
     induction l with
     |nil=>intro _;exact QWo _
     |cons y l ih=>
      intro hl;have i1:=ih fun q hq=>hl q (by simp[hq])
      have i2:=U0 hbd ho (n:=o.num) (hl y (by simp));unfold ZQ at i1 ⊢;simp only[QWM,QYk,XT];omega
    have:=key _ hL;omega
   ·rw[QWu h4]at h;rw[QWu h4,VA];have:=U0 hbd ho (n:=o.num) h;omega
omit hbd in
theorem Np {g:PG}{f:R}(h:JP P g f=0):f.data.length≤65536:=by
 unfold JP at h;split at h
 ·omega
 split at h
 ·omega
 split at h
 ·omega
 split at h
 ·omega
 rename_i h4;simp only[QWk,QWl,not_or]at h4;omega
theorem HL {g:PG}:∀(sl:List (Int×V)) (rs:List R),(∀x∈sl,∃o,Zg g x.1=some o∧UO P o∧Xc m P o x.2=0)→(∀f∈rs,JP P g f=0)→ZQ (Xd bd g sl rs)≤70000*(rs.length+Xf sl)
 | [],rs,_,hr=>by
  unfold Xd;have:∀l:List R,(∀f∈l,JP P g f=0)→ZQ l≤70000*l.length:=by
   intro l
   induction l with
   |nil=>intro _;exact QWo _
   |cons f l ih=>
    intro hl;have i1:=ih fun q hq=>hl q (by simp[hq])
    have i2:=Np (hl f (by simp));unfold ZQ at i1 ⊢;simp only[QWM,QYk,QWv];omega
  have:=this rs hr;omega
 |s :: sl,rs,hs,hr=>by
  obtain⟨o,h1,ho,h2⟩:=hs s (by simp);have h3:=Qay hbd ho h2;have ih:=HL sl (rs.dropWhile fun r=>decide (r.num<s.1)) (fun x hx=>hs x (by simp[hx])) (fun f hf=>hr f ((QYs _).mem hf));have h4:∀l:List R,(∀f∈l,JP P g f=0)→ZQ l≤70000*l.length:=by
   intro l
   induction l with
   |nil=>intro _;exact QWo _
   |cons f l ih=>
    intro hl;have i1:=ih fun q hq=>hl q (by simp[hq])
    have i2:=Np (hl f (by simp));unfold ZQ at i1 ⊢;simp only[QWM,QYk,QWv];omega
  have h5:=h4 (rs.takeWhile fun r=>decide (r.num<s.1)) (fun f hf=>hr f ((QYt _).mem hf));have h6:(rs.takeWhile fun r=>decide (r.num<s.1)).length+(rs.dropWhile fun r=>decide (r.num<s.1)).length=rs.length:=by
   rw[←QWS,List.takeWhile_append_dropWhile]
  obtain⟨sn,sx⟩:=s;rw[Xd,Vz,Vz];unfold Kk;rw[h1];simp only[Xf];dsimp only at h3 h5 h6 ih ⊢;omega
end

theorem Yk {P:PL}(hU:Y0 P)(hr:Kd P):∀(n:Nat) (t:Int) (v:V),(0≤t∧t<(P.progs.length:Int))→XJ P n (QR P t) v=0→(Zx P n t v).length+70000≤70000*v.cnt
 |0,t,v,_,h=>(Da 0 _ _ h).elim
 |n+1,t,v,ht,h=>by
  have hg:QR P t∈P.progs:=by
   unfold QR;rw[QWh (by omega:t.toNat<P.progs.length)];exact QW8 _
  have hf:=YL hU hr (n+1) (QR P t) hg v h;have hc:=UT hr (n+1) (QR P t) (Us hr t) v;rw[Zx];generalize nrm P (n+1) (QR P t) v=w at hf hc;obtain⟨_,⟨s1,_,_⟩,_,s4⟩:=ZZ.1 hf;have h1:=YS (Xd (Zx P n) (QR P t) w.slots w.raws);have h2:=Xn w;have h3:=HL (m:=XJ P n) (bd:=Zx P n) (fun t v ht hm=>Yk hU hr n t v ht hm) w.slots w.raws (fun x hx=>by
   obtain⟨o,ho,hx⟩:=s1 x hx;exact⟨o,ho,hU _ hg o (ZL ho).1,hx⟩) s4
  omega

def Wd (P:PL)(m:PG→V→Int)(g:PG)(s:Int×V):Prop:=∃o,Zg g s.1=some o∧Xc m P o s.2=0∧(o.card<3∨s.2.emp=false)
theorem Ra {P:PL}(hU:Y0 P)(hr:Kd P){n:Nat}{g:PG}(hg:g∈P.progs){v:V}(h:XJ P (n+1) g v=0):∀s∈(nrm P (n+1) g v).slots,Wd P (XJ P n) g s:=by
 have hf:=YL hU hr (n+1) g hg v h;obtain⟨_,⟨s1,_,_⟩,_,_⟩:=ZZ.1 hf;intro s hs;obtain⟨o,ho,hx⟩:=s1 s hs;refine⟨o,ho,hx,?_⟩;have hs':s∈g.ops.flatMap (QV (nrm P n) P v.slots):=hs;obtain⟨q,hq,hsq⟩:=QW1.1 hs';unfold QV at hsq;split at hsq
 ·cases hsq
 ·split at hsq
  ·rename_i hc;rw[QYi]at hsq;subst hsq;have e:Zg g q.num=some q:=XO (hr g hg) hq;rw[e]at ho;cases ho;simp only[QWk,QWl,QXe]at hc;exact hc
  ·cases hsq

theorem Sq {c k:Int}(h:pk c k=true):c=4∧(k=1∨k=2∨k=3∨k=4∨k=5∨k=6∨k=9):=by
 unfold pk at h;simp only[QWE,QWk,QWl,QWm]at h;omega
theorem QIH {c k:Int}(h:pk c k=true):wk k=0∨wk k=1∨wk k=2:=by
 obtain⟨_,h⟩:=Sq h;rcases h with rfl|rfl|rfl|rfl|rfl|rfl|rfl<;>decide
theorem Uz {k:Int}{b:Nat}(hb:b<18446744073709551616)(t:List UInt8):(XP k b t).bits<18446744073709551616:=by
 unfold XP;split
 ·exact hb
 split
 ·have h1:=Qw7 (IntKind.i64.wrap (b:Int)) (by rw[QC];omega) (by rw[QC];omega);have h2:=Db (IntKind.i64.wrap (b:Int));show(Ux _).toNat<_;omega
 split
 ·show Xt k b<_;unfold Xt;split
  ·decide
  ·exact hb
 split
 ·exact(by decide:(0:Nat)<18446744073709551616)
 ·exact(by decide:(0:Nat)<18446744073709551616)
theorem AK {M:Nat}{v:V}(hv:v.ok M):v.bits<18446744073709551616:=by
 have:=Gg hv.bits;omega
def Rb (f:R):Prop:=f.bits<18446744073709551616
theorem Rd {M:Nat}{v:V}(hv:v.ok M)(n:Int):Rb (JF n v):=Uz (AK hv) _
theorem Nq {M:Nat}{v:V}(hv:v.ok M)(bd:Int→V→List UInt8)(o:PO)(n:Int):Rb (Xo bd o n v):=by
 unfold Xo;split
 ·exact(by decide:(0:Nat)<18446744073709551616)
 ·exact Rd hv n
theorem Qxo {M:Nat}{v:V}(hv:v.ok M)(bd:Int→V→List UInt8)(o:PO):∀f∈WB bd o v,Rb f:=by
 have z:(0:Nat)<18446744073709551616:=by decide
 unfold WB;split
 ·intro f hf;obtain⟨p,_,rfl⟩:=QXB.1 hf;exact z
 split
 ·intro f hf;rw[QYi]at hf;subst hf;exact z
 split
 ·intro f hf;obtain⟨y,hy,rfl⟩:=QXB.1 hf;exact Nq (hv.list y hy) _ _ _
 ·intro f hf;rw[QYi]at hf;subst hf;exact Nq hv _ _ _
theorem VD {M:Nat}(bd:Int→V→List UInt8)(g:PG):∀(sl:List (Int×V)) (rs:List R),(∀s∈sl,s.2.ok M)→(∀f∈rs,Rb f)→∀f∈Xd bd g sl rs,Rb f
 | [],_,_,hr,f,hf=>hr f hf
 |s :: sl,rs,hs,hr,f,hf=>by
  rw[Xd,QXz,QXz]at hf;rcases hf with(hf|hf)|hf
  ·exact hr f ((QYt _).mem hf)
  ·unfold Kk at hf;split at hf
   ·cases hf
   ·exact Qxo (hs s (by simp)) bd _ f hf
  ·exact VD bd g sl _ (fun x hx=>hs x (by simp[hx])) (fun f hf=>hr f ((QYs _).mem hf)) f hf
theorem DJ:∀l:List R,20*l.length≤ZQ l
 | []=>QWo _
 |f :: l=>by
  have:=DJ l;unfold ZQ at this ⊢;simp only[QWM,QYk,QWv];omega
theorem Qaz {l:List R}{f:R}(h:f∈l):f.data.length≤ZQ l:=by
 induction l with
 |nil=>cases h
 |cons x l ih=>
  unfold ZQ at ih ⊢;simp only[QWM,QYk];rcases QXD.1 h with rfl|h
  ·omega
  ·have:=ih h;omega
theorem Nr {l:List R}(hb:∀f∈l,Rb f)(hw:ZQ l≤140737488355328):(∀fd∈l,fd.bits<18446744073709551616∧fd.data.length<9223372036854775807)∧l.length<9223372036854775807∧(QW l).length≤140737488355328:=by
 have h1:=DJ l;have h2:=YS l;exact⟨fun fd hf=>⟨hb fd hf,by have:=Qaz hf;omega⟩,by omega,by omega⟩

end Go.Proofs.YtdhlbgejhcejcaaGreatDoor.Va

namespace Go.Proofs.YtdhlbgejhcejcaaGreatDoor.Va
open Go Am Rc Bt Vp Cp Up

theorem take_append (s t:List UInt8)(h:(Vp.take s).2.2=0):Vp.take (s++t)=Vp.take s :=
 GE 0 0 s t (by rw[show(Z5 0 0 s).2.2=0 from h];decide)

def rd (s:List UInt8)(tx:Int):Option (R×Nat) :=
 let t:=Vp.take s
 if t.2.2≠0∨t.1 % 8=7∨t.1 / 8<1∨65535<t.1 / 8 then none
 else
  let s1:=s.drop t.2.1
  if t.1 % 8=2 then if s1.length<8 then none else some (⟨(t.1 / 8:Nat),(t.1 % 8:Nat),Dy s1,[]⟩,t.2.1+8)
  else
   let b:=Vp.take s1
   if b.2.2≠0 then none
   else if t.1 % 8=0∨t.1 % 8=1 then some (⟨(t.1 / 8:Nat),(t.1 % 8:Nat),b.1,[]⟩,t.2.1+b.2.1)
   else if (s1.drop b.2.1).length<b.1∨(if t.1 % 8=3 then tx else 65536)<(b.1:Int)then none
   else some (⟨(t.1 / 8:Nat),(t.1 % 8:Nat),0,(s1.drop b.2.1).take b.1⟩,t.2.1+b.2.1+b.1)

def CV (f:R)(tx:Int):Prop:=Xb f.wire=false→(f.data.length:Int)≤if f.wire=3 then tx else 65536

theorem Qxp {f:R}{tx:Int}(hv:valid f=true)(hb:f.bits<2 ^ 64)(hd:f.data.length<2 ^ 64)(hf:CV f tx)(t:List UInt8):rd (Zq f++t) tx=some (f,(Zq f).length):=by
 obtain⟨num,wire,bits,data⟩:=f;have hv':=hv;unfold valid at hv';simp only[QWE,QWm]at hv' hb hd;obtain⟨h1,h2⟩:=hv';have hr:¬(num<1∨65535<num∨wire<0∨6<wire):=fun h=>by
  unfold Zm at h1;rw[QWJ h]at h1;cases h1
 have htag:Zm num wire=(Vp.put (num*8+wire).toNat,0):=by unfold Zm;rw[QWu hr]
 simp only[not_or,Int.not_lt]at hr;obtain⟨n,rfl⟩:=QXV (show 0≤num by omega);obtain⟨w,rfl⟩:=QXV (show 0≤wire by omega);rw[show((n:Int)*8+(w:Int)).toNat=n*8+w by omega]at htag;have hp:Zq ⟨n,w,bits,data⟩=Vp.put (n*8+w)++body ⟨n,w,bits,data⟩:=by rw[Zq,QWJ hv];simp only[htag]
 have htk:∀z,Vp.take (Vp.put (n*8+w)++z)=(n*8+w,(Vp.put (n*8+w)).length,0):=fun z=>Wo _ z (by omega)
 rw[hp,QWB];unfold rd;simp only[htk,List.drop_left'];rw[QWu (by omega),show(n*8+w) % 8=w by omega,show(n*8+w) / 8=n by omega];by_cases w2:w=2
 ·subst w2;have hbo:body ⟨n,(2:Nat),bits,data⟩=fx 8 bits:=by rw[body];exact QWJ rfl
  have hda:data=[]:=by simpa [Xb]using h2
  subst hda;rw[QWJ rfl,hbo,QWu (by simp only[QWS,Wy];omega),Qar bits t hb,QWS,Wy]
 ·rw[QWu w2];by_cases w01:w=0∨w=1
  ·have hnum:Xb (w:Int)=true:=by rcases w01 with h|h<;>rw[h]<;>rfl
   have hbo:body ⟨n,w,bits,data⟩=Vp.put bits:=by
    rw[body];simp only[hnum];rw[QWu (by omega)];simp
   have hda:data=[]:=by simpa [hnum]using h2
   subst hda;rw[hbo,Wo bits t hb];simp only[ne_eq,not_true_eq_false,if_false,w01,if_true,QWS]
  ·have hnum:Xb (w:Int)=false:=by
    have:w=3∨w=4∨w=5∨w=6:=by omega
    rcases this with h|h|h|h<;>rw[h]<;>rfl
   have hbo:body ⟨n,w,bits,data⟩=Vp.put data.length++data:=by
    rw[body];simp only[hnum];rw[QWu (by omega)];simp
   have hbi:bits=0:=by simpa [hnum]using h2
   subst hbi;rw[hbo,QWB,Wo data.length _ hd];have hf':=hf hnum;simp only at hf';simp only[ne_eq,not_true_eq_false,if_false,w01,List.drop_left',QWS];rw[QWu,List.take_left',QWd]
   ·rfl
   ·simp only[not_or];refine⟨by omega,?_⟩;split at hf'
    ·rename_i h3;rw[QWJ (by omega)];omega
    ·rename_i h3;rw[QWu (by omega)];omega

theorem JT {c:C}(hl:c.d.length≤9223372036854770000)(hs:c.sound=true)(n:Nat)(hn:(n:Int)≤c.left) :
  c.ahead n={ c with a:=c.a+n }∧(c.ahead n).sound=true∧(c.ahead n).rest=c.rest.drop n:=by
 have h:=(C.sound_iff c).1 hs;have hr:=c.rest_len;rw[QWJ hs]at hr;have hw:IntKind.i64.wrap (c.a+(n:Int))=c.a+n:=by rw[QC];omega
 have e:c.ahead n={ c with a:=c.a+n }:=by simp only[C.ahead,hw]
 have hs':(c.ahead n).sound=true:=by
  rw[e,C.sound_iff];exact⟨by show 0≤c.a+n;omega,by show c.a+n≤c.e;omega,h.2.2⟩
 refine⟨e,hs',?_⟩;rw[C.rest_of hs',C.rest_of hs,e];simp only;rw[List.drop_take,QWI,show(c.a+(n:Int)).toNat=c.a.toNat+n by omega];congr 1
 omega

theorem Fl {c:C}(hn:1≤c.nd)(hm:c.nd<9223372036854775808):c.spend 1=({ c with nd:=c.nd-1 },0):=by
 unfold C.spend;rw[QWu (by omega),QWu (by omega),show IntKind.i64.wrap (c.nd-1)=c.nd-1 by rw[QC];omega]

theorem Qxq {c:C}(hl:c.d.length≤9223372036854770000)(hs:c.sound=true)(hn:1≤c.nd)(hm:c.nd<9223372036854775808) :
  (∀f k,rd c.rest c.tx=some (f,k)→ZP c=(f,{ c with a:=c.a+k,nd:=c.nd-1 },0))∧(rd c.rest c.tx=none→(ZP c).2.2≠0):=by
 have hvar:c.varint=if (Vp.take c.rest).2.2=0 then((Vp.take c.rest).1,c.ahead (Vp.take c.rest).2.1,0)else(0,c,(Vp.take c.rest).2.2):=rfl
 have hb:=W4 c.rest;unfold rd;simp only;generalize Vp.take c.rest=T at hvar hb ⊢;obtain⟨u,n,e⟩:=T;simp only at hvar hb ⊢;by_cases he:e=0
 ·subst he;rw[QWJ rfl]at hvar;obtain⟨b1,b2,b3,b4⟩:=hb rfl;obtain⟨a1,a2,a3⟩:=JT hl hs n (by unfold C.left;omega);have hal:(c.ahead n).d.length≤9223372036854770000:=hl;by_cases hbad:u % 8=7∨u / 8<1∨65535<u / 8
  ·rw[QWJ (by omega)];refine⟨fun f k h=>(by cases h),fun _=>?_⟩;have ht:(XW c).2.2.2≠0:=by
    unfold XW;simp only[hvar,if_true];by_cases h7:u % 8=7
    ·rw[QWJ h7];exact(by decide:(5:Nat)≠0)
    ·rw[QWu h7,QWJ (by omega)];exact(by decide:(6:Nat)≠0)
   unfold ZP;simp only[ht,if_false];exact ht
  ·rw[QWu (by omega)];have ht:XW c=(((u / 8:Nat):Int),((u % 8:Nat):Int),c.ahead n,0):=by
    unfold XW;simp only[hvar,if_true];rw[QWu (by omega),QWu (by omega)]
   have hsp:(c.ahead n).spend 1=({ c.ahead n with nd:=c.nd-1 },0):=Fl (c:=c.ahead n) hn hm;generalize hD:({ c.ahead n with nd:=c.nd-1 }:C)=D at hsp;have hDs:D.sound=true:=by rw[←hD];exact a2
   have hDl:D.d.length≤9223372036854770000:=by rw[←hD];exact hl
   have hDr:D.rest=c.rest.drop n:=by rw[←hD,←a3];rfl
   have hDe:∀k:Nat,({ D with a:=D.a+k }:C)={ c with a:=c.a+(n+k:Nat),nd:=c.nd-1,tx:=D.tx }:=by
    intro k;rw[←hD,a1];simp only[C.mk.injEq,QW7,and_true];omega
   have hnx:ZP c=if (Z2 D ⟨(u / 8:Nat),(u % 8:Nat),0,[]⟩).2.2=0 then Z2 D ⟨(u / 8:Nat),(u % 8:Nat),0,[]⟩else(zr,c,(Z2 D ⟨(u / 8:Nat),(u % 8:Nat),0,[]⟩).2.2):=by
    unfold ZP;simp only[ht,hsp,if_true]
   have htx:D.tx=c.tx:=by rw[←hD];rfl
   rw[hnx,←hDr,←htx];by_cases h2:u % 8=2
   ·rw[QWJ h2];have hc:Z2 D ⟨(u / 8:Nat),(u % 8:Nat),0,[]⟩=(⟨(u / 8:Nat),(u % 8:Nat),D.fixed.1,[]⟩,D.fixed.2.1,D.fixed.2.2):=by
     unfold Z2;rw[QWJ (by simp only;omega)]
    rw[hc];unfold C.fixed;by_cases h8:D.rest.length<8
    ·simp only[h8,if_true];exact⟨fun f k h=>(by cases h),fun _=>by simp⟩
    ·simp only[h8,if_false,if_true];refine⟨fun f k h=>?_,fun h=>(by cases h)⟩;simp only[QWF,QXL]at h;obtain⟨rfl,rfl⟩:=h;have e8:D.ahead 8={ D with a:=D.a+((8:Nat):Int) }:=(JT hDl hDs 8 (by unfold C.left;omega)).1;rw[e8,hDe 8]
   ·rw[QWu h2];have hbv:=W4 D.rest;have hDv:D.varint=if (Vp.take D.rest).2.2=0 then((Vp.take D.rest).1,D.ahead (Vp.take D.rest).2.1,0)else(0,D,(Vp.take D.rest).2.2):=rfl
    generalize Vp.take D.rest=B at hDv hbv ⊢;obtain⟨v,m,e⟩:=B;simp only at hDv hbv ⊢;have hcd:¬(u % 8=0∨u % 8=1)→Z2 D ⟨(u / 8:Nat),(u % 8:Nat),0,[]⟩=(⟨(u / 8:Nat),(u % 8:Nat),0,(Kn D (u % 8:Nat)).1⟩,(Kn D (u % 8:Nat)).2.1,(Kn D (u % 8:Nat)).2.2):=by
     intro h;unfold Z2;rw[QWu (by simp only;omega),QWu (by simp only;omega)]
    have hcn:(u % 8=0∨u % 8=1)→Z2 D ⟨(u / 8:Nat),(u % 8:Nat),0,[]⟩=(⟨(u / 8:Nat),(u % 8:Nat),D.varint.1,[]⟩,D.varint.2.1,D.varint.2.2):=by
     intro h;unfold Z2;rw[QWu (by simp only;omega),QWJ (by simp only;omega)]
    by_cases he:e=0
    ·subst he;rw[QWJ rfl]at hDv;obtain⟨c1,c2,c3,c4⟩:=hbv rfl;obtain⟨d1,d2,d3⟩:=JT hDl hDs m (by unfold C.left;omega);rw[QWu (by simp)];by_cases h01:u % 8=0∨u % 8=1
     ·rw[QWJ h01,hcn h01,hDv];simp only[if_true];refine⟨fun f k h=>?_,fun h=>(by cases h)⟩;simp only[QWF,QXL]at h;obtain⟨rfl,rfl⟩:=h;rw[d1,hDe m]
     ·rw[QWu h01,hcd h01];have hdt:Kn D ((u % 8:Nat):Int)=if (D.ahead m).left<(v:Int)then([],D,4)else if (if u % 8=3 then D.tx else 65536)<(v:Int)then([],D,3)else(((D.ahead m).d.drop (D.ahead m).a.toNat).take v,(D.ahead m).ahead v,0):=by
       unfold Kn;simp only[hDv,if_true];have:(if ((u % 8:Nat):Int)=3 then D.tx else 65536)=if u % 8=3 then D.tx else 65536:=by
        by_cases h:u % 8=3
        ·rw[QWJ h,QWJ (by omega)]
        ·rw[QWu h,QWu (by omega)]
       rw[this]
      have hlf:(D.ahead m).left=((D.rest.drop m).length:Int):=by unfold C.left;rw[d3]
      rw[hdt,hlf];by_cases hq:(D.rest.drop m).length<v
      ·rw[QWJ (.inl hq),QWJ (show((D.rest.drop m).length:Int)<(v:Int)by omega)];exact⟨fun f k h=>(by cases h),fun _=>by simp⟩
      ·rw[QWu (show ¬((D.rest.drop m).length:Int)<(v:Int)by omega)];by_cases hr:(if u % 8=3 then D.tx else 65536)<(v:Int)
       ·rw[QWJ (.inr hr),QWJ hr];exact⟨fun f k h=>(by cases h),fun _=>by simp⟩
       ·rw[QWu (by simp only[not_or];exact⟨hq,hr⟩),QWu hr];simp only[if_true];refine⟨fun f k h=>?_,fun h=>(by cases h)⟩;simp only[QWF,QXL]at h;obtain⟨rfl,rfl⟩:=h;have hal2:=JT (c:=D.ahead m) hDl d2 v (by rw[hlf];omega);have hrd:((D.ahead m).d.drop (D.ahead m).a.toNat).take v=(D.rest.drop m).take v:=by
         rw[←d3,C.rest_of d2,List.take_take,QXw];have h1:=(C.sound_iff _).1 d2;have h2:=(D.ahead m).rest_len;rw[QWJ d2,hlf]at h2;omega
        rw[hrd,hal2.1];have:({ D.ahead m with a:=(D.ahead m).a+v }:C)={ D with a:=D.a+(m+v:Nat) }:=by
         rw[d1];simp only[C.mk.injEq,QW7,and_true];omega
        rw[this,hDe (m+v),QWd]
    ·rw[QWu he]at hDv;rw[QWJ (by simpa using he)];refine⟨fun f k h=>(by cases h),fun _=>?_⟩;by_cases h01:u % 8=0∨u % 8=1
     ·rw[hcn h01,hDv];simp only[he,if_false];exact he
     ·rw[hcd h01];have hdt:Kn D ((u % 8:Nat):Int)=([],D,e):=by
       unfold Kn;simp only[hDv,he,if_false]
      rw[hdt];simp only[he,if_false];exact he
 ·rw[QWu he]at hvar;rw[QWJ (.inl he)];refine⟨fun f k h=>(by cases h),fun _=>?_⟩;have ht:XW c=(0,0,c,e):=by
   unfold XW;simp only[hvar,he,if_false]
  unfold ZP;simp only[ht,he,if_false];exact he

def okl (s:List UInt8)(l:L):Prop:=0≤l.b∧0≤l.dp∧0≤l.nd∧0≤l.tx∧(s.length:Int)≤l.b

theorem QaA {s:List UInt8}{l:L}(h:okl s l):opn s l=(⟨s,0,s.length,l.dp,l.nd,l.tx⟩,0):=by
 obtain⟨h1,h2,h3,h4,h5⟩:=h;unfold opn;rw[QWu (by omega),QWu (by omega)]

theorem Re (s:List UInt8)(x y z:Int):(⟨s,0,s.length,x,y,z⟩:C).sound=true∧(⟨s,0,s.length,x,y,z⟩:C).rest=s:=by
 have hs:(⟨s,0,s.length,x,y,z⟩:C).sound=true:=(C.sound_iff _).2 ⟨Int.le_refl _,by simp,Int.le_refl _⟩;refine⟨hs,?_⟩;rw[C.rest_of hs];simp

theorem VE {f:R}(h:valid f=true):0<(Zq f).length:=by
 rw[Zq,QWJ h,QWS];have h':=h;unfold valid at h';simp only[QWE,QWm]at h';unfold Zm at h' ⊢;split
 ·rename_i hb;rw[QWJ hb]at h';exact absurd h'.1 (by decide)
 ·have:=(put_len (f.num*8+f.wire).toNat).1;simp only;omega

open Br So

def Gf (f:R):Prop:=valid f=true∧f.bits<18446744073709551616∧f.data.length<18446744073709551616

theorem Sr {f:R}(hf:Gf f):∃n w:Nat,f.num=(n:Int)∧f.wire=(w:Int)∧w≤6∧n≤65535∧Zq f=Vp.put (n*8+w)++body f∧((w=2∧f.data=[]∧body f=fx 8 f.bits)∨(w≤1∧f.data=[]∧body f=Vp.put f.bits)∨(3≤w∧f.bits=0∧body f=Vp.put f.data.length++f.data)):=by
 obtain⟨hv,hb,hd⟩:=hf;obtain⟨num,wire,bits,data⟩:=f;have hv':=hv;unfold valid at hv';simp only[QWE,QWm]at hv' hb hd;obtain⟨h1,h2⟩:=hv';have hr:¬(num<1∨65535<num∨wire<0∨6<wire):=fun h=>by
  unfold Zm at h1;rw[QWJ h]at h1;cases h1
 have htag:Zm num wire=(Vp.put (num*8+wire).toNat,0):=by unfold Zm;rw[QWu hr]
 simp only[not_or,Int.not_lt]at hr;obtain⟨n,rfl⟩:=QXV (show 0≤num by omega);obtain⟨w,rfl⟩:=QXV (show 0≤wire by omega);rw[show((n:Int)*8+(w:Int)).toNat=n*8+w by omega]at htag;have hp:Zq ⟨n,w,bits,data⟩=Vp.put (n*8+w)++body ⟨n,w,bits,data⟩:=by rw[Zq,QWJ hv];simp only[htag]
 refine⟨n,w,rfl,rfl,by omega,by omega,hp,?_⟩;by_cases w2:w=2
 ·subst w2;exact .inl ⟨rfl,by simpa [Xb]using h2,by rw[body];exact QWJ rfl⟩
 ·by_cases w01:w≤1
  ·have hnum:Xb (w:Int)=true:=by
    have:w=0∨w=1:=by omega
    rcases this with h|h<;>rw[h]<;>rfl
   exact .inr (.inl ⟨w01,by simpa [hnum]using h2,by rw[body];simp only[hnum];rw[QWu (by omega)];simp⟩)
  ·have hnum:Xb (w:Int)=false:=by
    have:w=3∨w=4∨w=5∨w=6:=by omega
    rcases this with h|h|h|h<;>rw[h]<;>rfl
   exact .inr (.inr ⟨by omega,by simpa [hnum]using h2,by rw[body];simp only[hnum];rw[QWu (by omega)];simp⟩)

theorem Qxr {f:R}(hf:Gf f):Zq f≠[]:=by
 have:=VE hf.1;intro e;rw[e]at this;simp at this
theorem Ss {P:PL}{k tg:Int}{v:V}(h:v.one P k tg=0):v.kd=k∧1≤k∧k≤9∧v.list=[]∧v.pairs=[]∧v.slots=[]∧v.raws=[]∧(if k=7∨k=8 then v.bits=0 else v.text=[]):=by
 obtain⟨h1,h2,h3⟩:=Uo h;have hk:=R8 h3;unfold isk at hk;simp only[QWE,QWl]at hk;unfold V.oth oth at h2;simp only[QW9,QYf,bne_eq_false_iff_eq,QYb,QXb]at h2;obtain⟨⟨⟨⟨a1,a2⟩,a3⟩,_⟩,_⟩:=h2;have b1:v.list.length=0:=by rcases a1 with a|a<;>omega
 have b2:v.pairs.length=0:=by rcases a2 with a|a<;>omega
 have b3:v.slots.length+v.raws.length=0:=by rcases a3 with a|a<;>omega
 refine⟨h1,hk.1,hk.2,QYl.1 b1,QYl.1 b2,QYl.1 (by omega),QYl.1 (by omega),?_⟩;unfold Xk at h3;simp only[QWE]at h3;have h4:=h3.1.1.1.2;rw[h1]at h4;unfold Zc at h4;by_cases c:k=7∨k=8
 ·rw[QWJ c];rw[QWJ (by rcases c with c|c<;>simp[c])]at h4
  simpa using h4
 ·rw[QWu c];simp only[not_or]at c;rw[QWu (by simp[c.1,c.2])]at h4
  simpa using h4

end Go.Proofs.YtdhlbgejhcejcaaGreatDoor.Va

namespace Go.Proofs.YtdhlbgejhcejcaaGreatDoor.Va
open Go Am Rc Bt Br

structure Fi (P:PL)(c:Nat)(B:List Bool)(a:Bool)(f:Fr)(fr:Nat→Ob):Prop where
 h1:f 1=.ptr 0 1 0
 m1:fr 1=.cells (Pc P)
 h3:f 3=.vec 0 12 1 0 P.progs.length false
 m12:fr 12=.vec 1 1 (B.map AV.bool)
 h4:f 4=.bool a
 h19:f 19=.int .i64 (P.progs.length:Nat)
 h20:f 20=.int .i64 (c:Nat)
 r8:∀s∈[8],(fr s).isRow=false

theorem Fi.drop {P:PL}{c:Nat}{B:List Bool}{a:Bool}{f f':Fr}{fr fr':Nat→Ob}(h:Fi P c B a f fr)(hf:∀i,f' i=V4 [8] (f i))(hm:∀i,i∉[8]→fr' i=Gi [8] (fr i))(hn:∀i∈[8],fr' i=.none):Fi P c B a f' fr' where
 h1:=by rw[hf,h.h1]<;>rfl
 m1:=by rw[hm 1 (by decide),h.m1]<;>rfl
 h3:=by rw[hf,h.h3]<;>rfl
 m12:=by rw[hm 12 (by decide),h.m12]<;>rfl
 h4:=by rw[hf,h.h4]<;>rfl
 h19:=by rw[hf,h.h19]<;>rfl
 h20:=by rw[hf,h.h20]<;>rfl
 r8:=fun s hs=>by rw[hn s hs]<;>rfl

section
variable {M:Nat}(P:PL)(hP:P.ok M)(hl:P.progs.length≤64)(hT:Px P)(c:Nat)(B:List Bool)(hB:B.length=P.progs.length)(a:Bool)
include hP hT hB

theorem QRK (i:Nat)(g:PG)(hg:P.progs[i]? = some g)(f:Fr)(fr:Nat→Ob)(H:Fi P c B a f fr)(h5:f 5=.int .i64 (i:Nat))(h6:f 6=.bool true)(h7:f 7=.int .i64 0)(Q:Exit→St→Prop)
  (hx:∀f fr,Fi P c B a f fr→f 5=.int .i64 (i:Nat)→f 6=.bool (!g.ops.any (XD B))→Q (.exit 4) (⟨f,[fr],[]⟩:St)):QG Tryz.prog (.loop Tp) ⟨f,[fr],[]⟩ Q:=by
 let I:Nat→St→Prop:=fun k st=>∃f fr j,st=⟨f,[fr],[]⟩∧k=g.ops.length-j∧j≤g.ops.length∧Fi P c B a f fr∧f 5=.int .i64 (i:Nat)∧f 6=.bool (!(g.ops.take j).any (XD B))∧f 7=.int .i64 (j:Nat)
 have hgm:(P.progs.map Qp)[i]? = some (.agg g.cells):=by simp[hg,Qp]
 have hgo:=hP.progs g (QWt hg);refine Qc I _ ⟨f,fr,0,rfl,rfl,QWo _,H,h5,by rw[h6];simp,h7⟩ ?_;clear H h5 h6 h7;simp only[PG.cells]at hgm;rintro _ st ⟨f0,fr0,j,rfl,rfl,hj,H0,h50,h60,h70⟩;refine QN (a:=_) [8] H0.r8 ?_;intro f fr hf hm hn;have H:=H0.drop hf hm hn;have h5:f 5=.int .i64 (i:Nat):=by rw[hf,h50]<;>rfl
 have h6:f 6=.bool (!(g.ops.take j).any (XD B)):=by rw[hf,h60]<;>rfl
 have h7:f 7=.int .i64 (j:Nat):=by rw[hf,h70]<;>rfl
 have n8:=hn 8 (by decide);clear hf hm hn H0 h50 h60 h70;obtain⟨h1,m1,h3,m12,h4,h19,h20,r8⟩:=id H;simp only[Pc]at m1;simp only[Qg,QXI,Qb,hgm,QXb,h1,m1,h5,h7,eE,seval];by_cases hlt:j<g.ops.length
 ·obtain⟨o,ho⟩:∃o,g.ops[j]? = some o:=⟨g.ops[j],QWh hlt⟩;have hom:(g.ops.map fun o=>AV.agg o.cells)[j]? = some (.agg o.cells):=by simp[ho]
  have e1:=Qo j _ hlt hgo.len;have htg:=hT g (QWt hg) o (QWt ho);have ht:=RZ (q:=XD B) ho;have fin2:∀(f':Fr) (fr':Nat→Ob) (v:Bool),(!(g.ops.take j).any (XD B) && !XD B o)=v→Fi P c B a f' fr'→f' 5=.int .i64 (i:Nat)→f' 6=.bool v→f' 7=.int .i64 ((j+1:Nat):Int)→∃k,k<g.ops.length-j∧I k ⟨f',[fr'],[]⟩:=by
   intro f' fr' v hv b1 b2 b3 b4;exact⟨g.ops.length-(j+1),by omega,f',fr',j+1,rfl,rfl,by omega,b1,b2,by rw[b3,ht,Bool.not_or,hv],b4⟩
  simp only[PO.cells]at hom;have m1':fr 1=.cells (Pc P):=by rw[m1]<;>rfl
  cases hb : !(g.ops.take j).any (XD B)
  ·rw[hb]at fin2 h6;simp only[QXM]at fin2;simp only[Ql hlt,Qg,QXI,Qb,hgm,hom,PO.cells,n8,h1,m1,h5,h6,h7,e1,eE,seval];exact fin2 _ _ _ rfl ⟨(by exact h1),(by exact m1'),(by exact h3),(by exact m12),(by exact h4),(by exact h19),(by exact h20),by simp<;>rfl⟩ (by exact h5) (by rfl) (by rfl)
  rw[hb]at fin2 h6;simp only[QXT]at fin2;cases c1:(o.card==1)
  ·have c1':(o.card != 1)=true:=by rw[bne,c1];rfl
   have hne:(!XD B o)=true:=by unfold XD;rw[c1];rfl
   rw[hne]at fin2;simp only[Ql hlt,Qg,QXI,Qb,hgm,hom,PO.cells,n8,c1',h1,m1,h5,h6,h7,e1,eE,seval];exact fin2 _ _ _ rfl ⟨(by exact h1),(by exact m1'),(by exact h3),(by exact m12),(by exact h4),(by exact h19),(by exact h20),by simp<;>rfl⟩ (by exact h5) (by rfl) (by rfl)
  have c1':(o.card != 1)=false:=by rw[bne,c1];rfl
  cases c2:(o.kind==10)
  ·have c2':(o.kind != 10)=true:=by rw[bne,c2];rfl
   have hne:(!XD B o)=true:=by unfold XD;rw[c1,c2];rfl
   rw[hne]at fin2;simp only[Ql hlt,Qg,QXI,Qb,hgm,hom,PO.cells,n8,c1',c2',h1,m1,h5,h6,h7,e1,eE,seval];exact fin2 _ _ _ rfl ⟨(by exact h1),(by exact m1'),(by exact h3),(by exact m12),(by exact h4),(by exact h19),(by exact h20),by simp<;>rfl⟩ (by exact h5) (by rfl) (by rfl)
  have c2':(o.kind != 10)=false:=by rw[bne,c2];rfl
  obtain⟨t1,t2⟩:=htg (by simpa using c2);obtain⟨t,hte⟩:=QXV t1;obtain⟨y,hy⟩:∃y,B[t]? = some y:=⟨B[t]'(by omega),QWh (by omega)⟩;have hym:(B.map AV.bool)[t]? = some (.bool y):=by simp[hy]
  have hlt2:(t<P.progs.length)=True:=eq_true (by omega);have hne:(!XD B o)=y:=by unfold XD;rw[c1,c2,hte,QXI,hy];cases y<;>rfl
  rw[hne]at fin2;simp only[Ql hlt,Qg,QXI,Qb,hgm,hom,PO.cells,n8,c1',c2',hte,hym,hlt2,m12,QWW,h1,m1,h3,h5,h6,h7,e1,eE,seval];exact fin2 _ _ _ rfl ⟨(by exact h1),(by exact m1'),(by exact h3),(by exact m12),(by exact h4),(by exact h19),(by exact h20),by simp<;>rfl⟩ (by exact h5) (by rfl) (by rfl)
 ·have hf:(g.ops.take j).any (XD B)=g.ops.any (XD B):=by rw[QWO (by omega)]
  rw[hf]at h6;simp only[QA hlt,Qa,seval];refine hx _ _ ⟨(by exact h1),by rw[m1]<;>rfl,(by exact h3),(by exact m12),(by exact h4),(by exact h19),(by exact h20),r8⟩ (by exact h5) (by exact h6)

end

theorem Su {B:List Bool}{i:Nat}(h:i<B.length)(v:Bool):((B.set i v).take (i+1)).all id=((B.take i).all id&&v):=by
 have h1:(B.set i v)[i]? = some v:=List.getElem?_set_self h;rw[Q5 h1,List.take_set_of_le (QWe _)];rfl

section
variable {M:Nat}(P:PL)(hP:P.ok M)(hl:P.progs.length≤64)(hT:Px P)(c:Nat)
include hP hl hT

theorem QRL (f:Fr)(fr:Nat→Ob)(H:Fi P c (Qe P.progs c) true f fr)(h5:f 5=.int .i64 0)(Q:Exit→St→Prop)(hx:∀f fr,Fi P c (Qe P.progs (c+1)) ((Qe P.progs (c+1)).all id) f fr→Q (.exit 2) (⟨f,[fr],[]⟩:St)):QG Tryz.prog (.loop Tq) ⟨f,[fr],[]⟩ Q:=by
 let I:Nat→St→Prop:=fun k st=>∃f fr i,st=⟨f,[fr],[]⟩∧k=P.progs.length-i∧i≤P.progs.length∧Fi P c (Z7 P.progs (Qe P.progs c) i) (((Z7 P.progs (Qe P.progs c) i).take i).all id) f fr∧f 5=.int .i64 (i:Nat)
 refine Qc I _ ⟨f,fr,0,rfl,rfl,QWo _,H,h5⟩ ?_;clear H h5;rintro _ st ⟨f0,fr0,i,rfl,rfl,hi,H0,h50⟩;refine QN (a:=_) [8] H0.r8 ?_;intro f fr hf hm hn;have H:=H0.drop hf hm hn;have h5:f 5=.int .i64 (i:Nat):=by rw[hf,h50]<;>rfl
 clear hf hm hn H0 h50;have hBl:(Z7 P.progs (Qe P.progs c) i).length=P.progs.length:=by rw[UL,UM]
 obtain⟨h1,m1,h3,m12,h4,h19,h20,r8⟩:=id H;have m1':=m1;simp only[Pc]at m1;simp only[QXb,h1,m1,h5,eE,seval];by_cases hlt:i<P.progs.length
 ·obtain⟨g,hg⟩:∃g,P.progs[i]? = some g:=⟨P.progs[i],QWh hlt⟩;have e1:=Qo i _ hlt (by simp only[maxLen];omega);have hst:Z7 P.progs (Qe P.progs c) (i+1)=(Z7 P.progs (Qe P.progs c) i).set i (!g.ops.any (XD (Z7 P.progs (Qe P.progs c) i))):=by
   rw[Z7]
   conv=>lhs;unfold Ul
   rw[hg]
  have htk:=Su (B:=Z7 P.progs (Qe P.progs c) i) (i:=i) (by omega) (!g.ops.any (XD (Z7 P.progs (Qe P.progs c) i)));rw[←hst]at htk;simp only[Ql hlt,Qa,seval];refine QRK P hP hT c _ hBl _ i g hg _ fr ⟨(by exact h1),m1',(by exact h3),m12,(by exact h4),(by exact h19),(by exact h20),r8⟩ (by exact h5) (by rfl) (by rfl) _ (fun f fr H h5 h6=>?_);generalize hBB:Z7 P.progs (Qe P.progs c) i=B at *;generalize hv:(!g.ops.any (XD B))=v at *;obtain⟨h1,m1,h3,m12,h4,h19,h20,r8⟩:=H;obtain⟨y,hy⟩:∃y,B[i]? = some y:=⟨B[i]'(by omega),QWh (by omega)⟩;have hym:(B.map AV.bool)[i]? = some (.bool y):=by simp[hy]
  have ia:Qb [fr] 1 none (.vec 0 12 1 0 P.progs.length false) (i:Int)=some (.vptr 0 12 1 i 0):=by
   have e:Am.Qf [fr] 0 12=.vec 1 1 (B.map AV.bool):=m12;simp only[Qb,e,Qg,if_true,QXI];simp;omega
  have ist:QX [fr] (.vptr 0 12 1 i 0) [.bool v]=some [QH fr 12 (.vec 1 1 ((B.map AV.bool).set i (.bool v)))]:=by
   have e:Am.Qf [fr] 0 12=.vec 1 1 (B.map AV.bool):=m12;simp only[QX,e,hym];simp[AV.cells,AV.rfL,AV.rf,Am.put,ZF]
  have hset:(B.map AV.bool).set i (.bool v)=(Z7 P.progs (Qe P.progs c) (i+1)).map AV.bool:=by rw[hst,List.map_set]
  rw[hset]at ist;cases hal:(B.take i).all id
  ·rw[hal]at h4 htk;simp only[ia,ist,h3,h4,h5,h6,e1,eE,seval];exact⟨P.progs.length-(i+1),by omega,_,_,i+1,rfl,rfl,by omega,⟨(by exact h1),(by exact m1),(by exact h3),(by rfl),by rw[htk]<;>first|exact h4|simp only[h4,QXM,Qa,seval],(by exact h19),(by exact h20),fun s hs=>by simp at hs;subst hs;rw[QO _ _ (by decide)];exact r8 8 (by simp)⟩,(by rfl)⟩
  ·rw[hal]at h4 htk;simp only[ia,ist,h3,h4,h5,h6,e1,eE,seval];exact⟨P.progs.length-(i+1),by omega,_,_,i+1,rfl,rfl,by omega,⟨(by exact h1),(by exact m1),(by exact h3),(by rfl),by rw[htk,QXT]<;>first|rfl|simp only[eE,seval],(by exact h19),(by exact h20),fun s hs=>by simp at hs;subst hs;rw[QO _ _ (by decide)];exact r8 8 (by simp)⟩,(by rfl)⟩
 ·have hii:i=P.progs.length:=by omega
  subst hii;have hits:Z7 P.progs (Qe P.progs c) P.progs.length=Qe P.progs (c+1):=rfl;rw[hits]at H hBl m12 h4;rw[QWO (by omega)]at h4;simp only[QA hlt,Qa,seval];exact hx _ _ ⟨(by exact h1),m1',(by exact h3),m12,(by exact h4),(by exact h19),(by exact h20),r8⟩

end

theorem z42 {M:Nat}(P:PL)(hP:P.ok M)(hl:P.progs.length≤64)(hT:Px P):Qi Tryz.prog 42 [P.av] (.bool (fin P)):=by
 have e0:P.av=.agg [.list (P.progs.map Qp),.list (P.enums.map Qr)]:=rfl;have hmx:P.progs.length≤maxLen:=by simp only[maxLen];omega
 have hz:JI 1 [AV.bool false]=.bool false:=rfl;have hr0:(List.replicate P.progs.length (AV.bool false))=(Qe P.progs 0).map AV.bool:=by simp[Qe]
 let A:Nat→Bool:=fun c=>if c=0 then(P.progs.length:Int)==0 else(Qe P.progs c).all id
 have hA:A P.progs.length=fin P:=by
  show(if P.progs.length=0 then(P.progs.length:Int)==0 else(Qe P.progs P.progs.length).all id)=(Qe P.progs P.progs.length).all id;split
  ·rename_i h;rw[h];simp[Qe,h]
  ·rfl
 let I:Nat→St→Prop:=fun k st=>∃f fr c,st=⟨f,[fr],[]⟩∧k=P.progs.length-c∧c≤P.progs.length∧Fi P c (Qe P.progs c) (A c) f fr
 refine k42.fn (by simp) ?_;simp only[e0,QXb,eE,seval];refine UI (n:=P.progs.length) (k:=P.progs.length) rfl rfl (QWe _) (by omega) (by omega) rfl ?_;simp only[hz,hr0,QXb,eE,seval];refine Qc I _ ⟨_,_,0,rfl,rfl,QWo _,⟨(by rfl),(by rfl),(by rfl),(by rfl),(by rfl),(by rfl),(by rfl),by simp<;>rfl⟩⟩ ?_;rintro _ st ⟨f0,fr0,c,rfl,rfl,hc,H0⟩;refine QN (a:=_) [8] H0.r8 ?_;intro f fr hf hm hn;have H:=H0.drop hf hm hn;clear hf hm hn H0;obtain⟨h1,m1,h3,m12,h4,h19,h20,r8⟩:=id H;simp only[h19,h20,Qa,seval];by_cases hlt:c<P.progs.length
 ·have e1:=Qo c _ hlt hmx;simp only[Ql hlt,Qa,seval];refine QRL P hP hl hT c _ fr ⟨(by exact h1),m1,(by exact h3),m12,(by rfl),(by exact h19),(by exact h20),r8⟩ (by rfl) _ (fun f fr H=>?_);obtain⟨h1,m1,h3,m12,h4,h19,h20,r8⟩:=H;simp only[h20,e1,Qa,seval];exact⟨P.progs.length-(c+1),by omega,_,fr,c+1,rfl,rfl,by omega,⟨(by exact h1),m1,(by exact h3),m12,(by exact h4),(by exact h19),(by rfl),r8⟩⟩
 ·have hcc:c=P.progs.length:=by omega
  subst hcc;rw[hA]at h4;simp only[QA hlt,h4,Qa,seval]

theorem z18 {M:Nat}(P:PL)(hP:P.ok M)(hM:M≤140737488351232):Qi Tryz.prog 18 [P.av] (.int .i64 (ck P)):=by
 have e0:P.av=.agg [.list (P.progs.map Qp),.list (P.enums.map Qr)]:=rfl;have c1:=z36 P hP;have c2:=z37 P hP;have c3:=z38 P hP;have c4:=z39 P hP;have c5:=z40 P hP;refine k18.fn (by simp) ?_;simp only[e0,ck,eE,seval];refine aC c1 ?_;cases hl:Hh P
 ·simp only[QXo,Qa,seval]
 obtain⟨l1,l2,l3,l4⟩:=Um hl;have c6:=z41 hM P hP l3;simp only[QXU,QYh,eE,seval];refine aC c2 ?_;cases Bx P
 ·simp only[QXo,Qa,seval]
 simp only[QXU,QYh,eE,seval];refine aC c3 ?_;cases Hi P
 ·simp only[QXo,Qa,seval]
 simp only[QXU,QYh,eE,seval];refine aC c4 ?_;cases Bz P
 ·simp only[QXo,Qa,seval]
 simp only[QXU,QYh,eE,seval];refine aC c5 ?_;cases GC P
 ·simp only[QXo,Qa,seval]
 simp only[QXU,QYh,eE,seval];refine aC c6 ?_;cases ha:args P
 ·simp only[QXo,Qa,seval]
 have c7:=z42 P hP l1 (BJ ha);simp only[QXU,QYh,eE,seval];refine aC c7 ?_;cases fin P
 ·simp only[QXo,Qa,seval]
 ·simp only[QXU,QYh,Qa,seval]

open Up

section
variable {M:Nat}{P:PL}(hP:P.ok M)(hM:M≤140737488351232){m:PG→V→Int}{lv:Int}(g:PG)(hg:g.ok M)(v:V)(hv:v.ok M)

def SwI (P:PL)(g:PG)(v:V)(k:Nat)(st:St):Prop :=
 ∃f fr i,st=⟨f,[fr],[]⟩∧k=v.raws.length-i∧XR (Jt P g v.raws) v.raws.length 0=XR (Jt P g v.raws) (v.raws.length-i) i∧f 4=.ptr 0 4 0∧f 6=.ptr 0 6 0∧f 9=.ptr 0 9 0∧f 16=.int .i64 (i:Nat)∧fr 4=.cells [.list (P.progs.map Qp),.list (P.enums.map Qr)]∧fr 6=.cells (vc v)∧fr 9=.cells g.cells∧∀s∈[17],(fr s).isRow=false

include hP hg hv in
theorem CW (hu:∀o∈g.ops,UO P o)(f:Fr)(fr:Nat→Ob)(h4:f 4=.ptr 0 4 0)(h6:f 6=.ptr 0 6 0)(h9:f 9=.ptr 0 9 0)(h16:f 16=.int .i64 0)
  (m4:fr 4=.cells [.list (P.progs.map Qp),.list (P.enums.map Qr)]) (m6:fr 6=.cells (vc v)) (m9:fr 9=.cells g.cells) (B8:∀s∈[17],(fr s).isRow=false) (Q:Exit→St→Prop)
  (q1:XR (Jt P g v.raws) v.raws.length 0≠0→∀f fr,f 8=.int .i64 (XR (Jt P g v.raws) v.raws.length 0)→Q .ret (⟨f,[fr],[]⟩:St))
  (q2:XR (Jt P g v.raws) v.raws.length 0=0→∀f fr,Q (.exit 4) (⟨f,[fr],[]⟩:St)):QG Tryz.prog (.loop SU) ⟨f,[fr],[]⟩ Q:=by
 have e0:P.av=.agg [.list (P.progs.map Qp),.list (P.enums.map Qr)]:=rfl;refine Qc (SwI P g v) _ ⟨f,fr,0,rfl,rfl,rfl,h4,h6,h9,h16,m4,m6,m9,B8⟩ ?_;clear h4 h6 h9 h16 m4 m6 m9 B8;rintro _ st ⟨f0,fr0,i,rfl,rfl,hx,h40,h60,h90,h160,m40,m60,m90,B8⟩;refine QN (a:=_) [17] B8 ?_;intro f fr hf hm hn;have h4:f 4=.ptr 0 4 0:=by rw[hf,h40]<;>rfl
 have h6:f 6=.ptr 0 6 0:=by rw[hf,h60]<;>rfl
 have h9:f 9=.ptr 0 9 0:=by rw[hf,h90]<;>rfl
 have h16:f 16=.int .i64 (i:Nat):=by rw[hf,h160]<;>rfl
 have m4:fr 4=.cells [.list (P.progs.map Qp),.list (P.enums.map Qr)]:=by rw[hm 4 (by decide),m40]<;>rfl
 have m6:fr 6=.cells (vc v):=by rw[hm 6 (by decide),m60]<;>rfl
 have m9:fr 9=.cells g.cells:=by rw[hm 9 (by decide),m90]<;>rfl
 have UB:=hn 17 (by decide);clear hf hm hn h40 h60 h90 h160 m40 m60 m90 B8;have m6':=m6;have m9':=m9;simp only[PG.cells]at m9;simp only[vc]at m6;simp only[QXb,h6,h16,m6,eE,seval];by_cases hlt:i<v.raws.length
 ·obtain⟨x,hi⟩:∃x,v.raws[i]? = some x:=⟨v.raws[i],QWh hlt⟩;have hgi:=YJ hi;have e1:=Qo i _ hlt (by have:=hv.nr;simp only[maxLen];omega);have c1:=v48 hP g hg hu x;have hr:Jt P g v.raws i=if (!UV P g x)=true then 1 else if DG x=true then 3 else 0:=by rw[HC hi,PM]
  rw[e0]at c1;simp only[Qp,PG.cells,R.av]at c1;simp only[Ql hlt,Qg,QXI,Qb,hgi,UB,h4,h6,h9,h16,m4,m6,m9,eE,seval];refine aC c1 ?_;cases hp:UV P g x
  ·rw[hp,QWJ (by rfl)]at hr;rw[KO hlt hr (by decide)]at hx;simp only[Qa,seval];exact q1 (by rw[hx];decide) _ _ (by rw[hx];exact(by rfl))
  ·rw[hp,QWu (by simp)]at hr;have hb:DG x=(x.wire==3&&decide ((x.data.length:Int) > 4096)||decide ((x.data.length:Int) > 65536)):=rfl;have ok:DG x=false→XR (Jt P g v.raws) v.raws.length 0=XR (Jt P g v.raws) (v.raws.length-(i+1)) (i+1):=fun h=>by
    rw[h,QWu (by simp)]at hr;rw[hx,GK hlt hr]
   have no:DG x=true→XR (Jt P g v.raws) v.raws.length 0=3:=fun h=>by
    rw[h,QWJ rfl]at hr;rw[hx,KO hlt hr (by decide)]
   simp only[eE,seval];cases t1:(x.wire==3)
   ·cases t3:decide ((x.data.length:Int) > 65536)
    ·rw[t1,t3]at hb;simp only[t3,h16,e1,eE,seval];exact⟨v.raws.length-(i+1),by omega,_,_,i+1,rfl,rfl,ok hb,(by exact h4),(by exact h6),(by exact h9),(by rfl),(by exact m4),(by exact m6'),(by exact m9'),by simp<;>rfl⟩
    ·rw[t1,t3]at hb;simp only[t3,eE,seval];exact q1 (by rw[no hb];decide) _ _ (by rw[no hb];exact(by rfl))
   ·cases t2:decide ((x.data.length:Int) > 4096)
    ·cases t3:decide ((x.data.length:Int) > 65536)
     ·rw[t1,t2,t3]at hb;simp only[t2,t3,h16,e1,eE,seval];exact⟨v.raws.length-(i+1),by omega,_,_,i+1,rfl,rfl,ok hb,(by exact h4),(by exact h6),(by exact h9),(by rfl),(by exact m4),(by exact m6'),(by exact m9'),by simp<;>rfl⟩
     ·rw[t1,t2,t3]at hb;simp only[t2,t3,eE,seval];exact q1 (by rw[no hb];decide) _ _ (by rw[no hb];exact(by rfl))
    ·rw[t1,t2]at hb;simp only[t2,eE,seval];exact q1 (by rw[no hb];decide) _ _ (by rw[no hb];exact(by rfl))
 ·rw[UN hlt]at hx;simp only[QA hlt,Qa,seval];exact q2 hx _ _

include hg hv in
theorem Rf (fr:Nat→Ob)(m6:fr 6=.cells (vc v))(m9:fr 9=.cells g.cells)(f:Fr)(h4:f 4=.ptr 0 4 0)(h6:f 6=.ptr 0 6 0)(h9:f 9=.ptr 0 9 0)(h15:f 15=.int .i64 0)(Q:Exit→St→Prop)
  (q1:YD g v.slots=true→∀f,f 8=.int .i64 14→Q .ret (⟨f,[fr],[]⟩:St))
  (q2:YD g v.slots=false→∀f,f 4=.ptr 0 4 0→f 6=.ptr 0 6 0→f 9=.ptr 0 9 0→Q (.exit 2) (⟨f,[fr],[]⟩:St)):QG Tryz.prog (.loop SS) ⟨f,[fr],[]⟩ Q:=by
 let I:Nat→St→Prop:=fun k st=>∃f i,st=⟨f,[fr],[]⟩∧k=g.ops.length-i∧i≤g.ops.length∧(g.ops.take i).any (HF v.slots)=false∧f 4=.ptr 0 4 0∧f 6=.ptr 0 6 0∧f 9=.ptr 0 9 0∧f 15=.int .i64 (i:Nat)
 refine Qc I _ ⟨f,0,rfl,rfl,QWo _,by simp,h4,h6,h9,h15⟩ ?_;clear h4 h6 h9 h15;rintro _ st ⟨f,i,rfl,rfl,hil,hq,h4,h6,h9,h15⟩;simp only[PG.cells]at m9;simp only[vc]at m6;simp only[QXb,h9,h15,m9,eE,seval];by_cases hlt:i<g.ops.length
 ·obtain⟨o,hi⟩:∃o,g.ops[i]? = some o:=⟨g.ops[i],QWh hlt⟩;have hgi:=QQR hi;have e1:=Qo i _ hlt hg.len;have c1:=v47 v (by have:=hv.ns;simp only[maxLen];omega) o.num;rw[Qw]at c1;have ht:(g.ops.take (i+1)).any (HF v.slots)=HF v.slots o:=by
   rw[QX0,hi,List.any_append,hq];simp
  have hmi:HF v.slots o=(o.card==1 && !v.slots.any fun y=>y.1==o.num):=rfl;simp only[Ql hlt,Qg,QXI,Qb,hgi,h9,h15,m9,eE,seval];cases a1:(o.card==1)
  ·rw[a1,QXM]at hmi;simp only[h15,e1,Qa,seval];exact⟨g.ops.length-(i+1),by omega,_,i+1,rfl,rfl,by omega,by rw[ht,hmi],(by exact h4),(by exact h6),(by exact h9),(by rfl)⟩
  ·rw[a1,QXT]at hmi;simp only[Qg,QXI,Qb,hgi,h6,h9,h15,m6,m9,eE,seval];refine aC c1 ?_;cases a2:v.slots.any (fun y=>y.1==o.num)
   ·rw[a2]at hmi;have hany:YD g v.slots=true:=QX8.2 ⟨o,QWt hi,by show HF v.slots o=true;rw[hmi];rfl⟩;simp only[Qa,seval];exact q1 hany _ (by rfl)
   ·rw[a2]at hmi;simp only[h15,e1,Qa,seval];exact⟨g.ops.length-(i+1),by omega,_,i+1,rfl,rfl,by omega,by rw[ht,hmi];rfl,(by exact h4),(by exact h6),(by exact h9),(by rfl)⟩
 ·have hq':YD g v.slots=false:=by rw[Vr,←hq,QWO (by omega)]
  simp only[QA hlt,Qa,seval];exact q2 hq' _ (by exact h4) (by exact h6) (by exact h9)

def SsI (m:PG→V→Int)(P:PL)(lv:Int)(g:PG)(v:V)(k:Nat)(st:St):Prop :=
 ∃f fr i,st=⟨f,[fr],[]⟩∧k=v.slots.length-i∧XR (Js m P g v.slots) v.slots.length 0=XR (Js m P g v.slots) (v.slots.length-i) i∧f 3=.int .i64 lv∧f 4=.ptr 0 4 0∧f 6=.ptr 0 6 0∧f 9=.ptr 0 9 0∧f 10=.int .i64 (i:Nat)∧fr 4=.cells [.list (P.progs.map Qp),.list (P.enums.map Qr)]∧fr 6=.cells (vc v)∧fr 9=.cells g.cells∧fr 17=.none∧∀s∈[12],(fr s).isRow=false

include hg hv in
theorem NI (hfi:∀o∈g.ops,∀v:V,v.ok M→Qi Tryz.prog 46 [P.av,Qv o,v.av,.int .i64 lv] (.int .i64 (Xc m P o v)))
  (f:Fr) (fr:Nat→Ob) (h3:f 3=.int .i64 lv) (h4:f 4=.ptr 0 4 0) (h6:f 6=.ptr 0 6 0) (h9:f 9=.ptr 0 9 0) (h10:f 10=.int .i64 0)
  (m4:fr 4=.cells [.list (P.progs.map Qp),.list (P.enums.map Qr)]) (m6:fr 6=.cells (vc v)) (m9:fr 9=.cells g.cells) (UB:fr 17=.none) (Yb:∀s∈[12],(fr s).isRow=false) (Q:Exit→St→Prop)
  (q1:XR (Js m P g v.slots) v.slots.length 0≠0→∀f fr,f 8=.int .i64 (XR (Js m P g v.slots) v.slots.length 0)→Q .ret (⟨f,[fr],[]⟩:St))
  (q2:XR (Js m P g v.slots) v.slots.length 0=0→∀f fr,f 4=.ptr 0 4 0→f 6=.ptr 0 6 0→f 9=.ptr 0 9 0→fr 4=.cells [.list (P.progs.map Qp),.list (P.enums.map Qr)]→fr 6=.cells (vc v)→fr 9=.cells g.cells→fr 17=.none→Q (.exit 0) (⟨f,[fr],[]⟩:St)) :
  QG Tryz.prog (.loop SR) ⟨f,[fr],[]⟩ Q:=by
 have e0:P.av=.agg [.list (P.progs.map Qp),.list (P.enums.map Qr)]:=rfl;have hn:v.slots.length≤maxLen:=by have:=hv.ns;simp only[maxLen];omega
 have co:=fun n=>y45 g hg.len n
 simp only[Yf]at co;simp only[Qp,PG.cells]at co;refine Qc (SsI m P lv g v) _ ⟨f,fr,0,rfl,rfl,rfl,h3,h4,h6,h9,h10,m4,m6,m9,UB,Yb⟩ ?_;clear h3 h4 h6 h9 h10 m4 m6 m9 UB Yb;rintro _ st ⟨f0,fr0,i,rfl,rfl,hx,h30,h40,h60,h90,h100,m40,m60,m90,n170,Yb⟩;refine QN (a:=_) [12] Yb ?_;intro f fr hf hm hn12;have h3:f 3=.int .i64 lv:=by rw[hf,h30]<;>rfl
 have h4:f 4=.ptr 0 4 0:=by rw[hf,h40]<;>rfl
 have h6:f 6=.ptr 0 6 0:=by rw[hf,h60]<;>rfl
 have h9:f 9=.ptr 0 9 0:=by rw[hf,h90]<;>rfl
 have h10:f 10=.int .i64 (i:Nat):=by rw[hf,h100]<;>rfl
 have m4:fr 4=.cells [.list (P.progs.map Qp),.list (P.enums.map Qr)]:=by rw[hm 4 (by decide),m40]<;>rfl
 have m6:fr 6=.cells (vc v):=by rw[hm 6 (by decide),m60]<;>rfl
 have m9:fr 9=.cells g.cells:=by rw[hm 9 (by decide),m90]<;>rfl
 have UB:fr 17=.none:=by rw[hm 17 (by decide),n170]<;>rfl
 have n12:=hn12 12 (by decide);clear hf hm hn12 h30 h40 h60 h90 h100 m40 m60 m90 n170 Yb;have m6':=m6;have m9':=m9;simp only[PG.cells]at m9;simp only[vc]at m6;simp only[QXb,h6,h10,m6,eE,seval];by_cases hlt:i<v.slots.length
 ·obtain⟨x,hi⟩:∃x,v.slots[i]? = some x:=⟨v.slots[i],QWh hlt⟩;have hgi:=JQ hi;have e1:=Qo i _ hlt hn;have c1:=v44 g hg v.slots hn i hlt;simp only[Qp,PG.cells]at c1;obtain⟨sA,sB⟩:=Qak (m:=m) (P:=P) (g:=g) hi;simp only[Ql hlt,h6,h9,h10,m6,m9,eE,seval];refine aC c1 ?_;by_cases hz:WT g v.slots i=0
  ·have d0:((0:Int) != 0)=false:=rfl;obtain⟨o,ho,hF⟩:=sB hz;have hom:=(ZL ho).1;have c2:=co x.1;rw[ho]at c2;have c3:=hfi o hom x.2 (hv.slots x (QWt hi));rw[e0,Qw]at c3;simp only[Qv,PO.cells]at c3;simp only[hz,d0,Qg,QXI,Qb,hgi,QWN,QWX,h6,h9,h10,m6,m9,eE,seval];refine aC c2 ?_;simp only[QXr,QX6,Qv,PO.cells,n12,Qg,QXI,Qb,hgi,h3,h4,h6,h10,m4,m6,eE,seval];refine aC c3 ?_;by_cases hy:Xc m P o x.2=0
   ·rw[GK hlt (hF.trans hy)]at hx;simp only[hy,d0,h10,e1,Qa,seval];exact⟨v.slots.length-(i+1),by omega,_,_,i+1,rfl,rfl,hx,(by exact h3),(by exact h4),(by exact h6),(by exact h9),(by rfl),(by exact m4),(by exact m6'),(by exact m9'),(by exact UB),by simp<;>rfl⟩
   ·rw[KO hlt hF hy]at hx;have d1:(Xc m P o x.2 != 0)=true:=by simp[hy]
    simp only[d1,Qa,seval];exact q1 (by rw[hx];exact hy) _ _ (by rw[hx];exact(by rfl))
  ·rw[KO hlt (sA hz) hz]at hx;have d1:(WT g v.slots i != 0)=true:=by simp[hz]
   simp only[d1,Qa,seval];exact q1 (by rw[hx];exact hz) _ _ (by rw[hx];exact(by rfl))
 ·rw[UN hlt]at hx;simp only[QA hlt,Qa,seval];exact q2 hx _ _ (by exact h4) (by exact h6) (by exact h9) (by exact m4) (by exact m6') (by exact m9') (by exact UB)

include hP hM in
theorem v20 (hU:Y0 P):∀n:Nat,n≤16→∀(t:Int) (g:PG),P.progs[t.toNat]? = some g→0≤t→∀v:V,v.ok M→Qi Tryz.prog 20 [P.av,.int .i64 t,v.av,.int .i64 (17-(n:Int))] (.int .i64 (XJ P n g v)):=by
 have e0:P.av=.agg [.list (P.progs.map Qp),.list (P.enums.map Qr)]:=rfl;intro n
 induction n with
 |zero=>
  intro _ t g _ _ v hv;have co:=CA v hv;rw[Qw]at co;rw[Qw];have d0:decide ((17:Int)-((0:Nat):Int) > 16)=true:=rfl;refine k20.fn (by simp) ?_;simp only[e0,XJ,eE,seval];cases a1:(v.kd != 10)
  ·simp only[QXX,eE,seval];refine aC co ?_;cases v.oth
   ·simp only[QWz,Qa,seval]
   ·simp only[Qa,seval]
  ·simp only[QXW,Qa,seval]
 |succ n ih=>
  intro hn16 t g ht t0 v hv;have hgm:=QWt ht;have hg:=hP.progs g hgm;have hu:=hU g hgm;have hw:IntKind.i64.wrap (17-((n+1:Nat):Int)+1)=17-(n:Int):=by rw[QC];omega
  have hel:=fun(o:PO) (ho:o∈g.ops) (x:V) (hx:x.ok M)=>v75 hP hM hw (fun t g ht t0 v hv=>ih (by omega) t g ht t0 v hv) o (hu o ho) x hx
  have hfi:=fun(o:PO) (ho:o∈g.ops) (x:V) (hx:x.ok M)=>v46 hP hM o (hu o ho) x hx (hel o ho)
  have co:=CA v hv;rw[Qw]at co;rw[Qw];obtain⟨i,hti⟩:=QXV t0;rw[hti,QXI]at ht;have hga:(P.progs.map Qp)[i]? = some (.agg g.cells):=by simp[ht,Qp]
  simp only[PG.cells]at hga;have d0:decide ((17:Int)-((n+1:Nat):Int) > 16)=false:=QX5 (by omega);refine k20.fn (by simp) ?_;simp only[e0,hti,XJ,eE,seval];cases a1:(v.kd != 10)
  ·simp only[QXX,eE,seval];refine aC co ?_;cases v.oth
   ·simp only[d0,Qg,QXI,Qb,hga,QWz,eE,seval];unfold YE;refine NI (lv:=17-((n+1:Nat):Int)) g hg v hv hfi _ _ (by rfl) (by rfl) (by rfl) (by rfl) (by rfl) (by rfl) (by rfl) (by rfl) (by rfl) (by simp<;>rfl) _ (fun hx f fr h8=>?_) (fun hx f fr h4 h6 h9 m4 m6 m9 UB=>?_)
    ·rw[QWu hx];simp only[h8,Qa,seval]
    ·rw[QWJ hx];simp only[Qa,seval];refine Rf g hg v hv fr m6 m9 _ (by exact h4) (by exact h6) (by exact h9) (by rfl) _ (fun hx f h8=>?_) (fun hx f h4 h6 h9=>?_)
     ·rw[hx];simp only[h8,Qa,seval]
     ·rw[hx];simp only[QWz,Qa,seval];refine CW hP g hg v hv hu _ _ (by exact h4) (by exact h6) (by exact h9) (by rfl) m4 m6 m9 (by simp only[QXD,QYn,or_false,forall_eq,UB]<;>rfl) _ (fun hx f fr h8=>?_) (fun hx f fr=>?_)
      ·simp only[h8,Qa,seval]
      ·simp only[hx,Qa,seval]
   ·simp only[Qa,seval]
  ·simp only[QXW,Qa,seval]

end

def Km (P:PL)(t:Int)(v:V):Int :=
 if t<0∨t≥(P.progs.length:Int)then 10 else if XJ P 16 (QR P t) v=0 then(if IntKind.i64.wrap (v.cnt:Int) > 4096 then 3 else 0)else XJ P 16 (QR P t) v

section
variable {M:Nat}{P:PL}(hP:P.ok M)(hM:M≤140737488351232)(hU:Y0 P)(t:Int)(v:V)(hv:v.ok M)

include hP hM hU hv in
theorem v7:Qi Tryz.prog 7 [P.av,.int .i64 t,v.av] (.int .i64 (Km P t v)):=by
 have e0:P.av=.agg [.list (P.progs.map Qp),.list (P.enums.map Qr)]:=rfl;rw[Qw];refine k7.fn (by simp) ?_;simp only[Qmp,Qmq,Qmr,Qms,Qmt,Qmu,Qmv,Qmw,Qmx,r7,o7,e0,eE,seval];unfold Km;by_cases t0:t<0
 ·have d0:decide (t<0)=true:=QYa t0;rw[QWJ (.inl t0)];simp only[d0,Qa,seval]
 have d0:decide (t<0)=false:=QX5 t0;by_cases t1:t≥(P.progs.length:Int)
 ·have d1:decide (t≥(P.progs.length:Int))=true:=QYa t1;rw[QWJ (.inr t1)];simp only[d0,d1,QXb,eE,seval]
 have d1:decide (t≥(P.progs.length:Int))=false:=QX5 t1;rw[QWu (by omega)];have hlt:t.toNat<P.progs.length:=by omega
 obtain⟨g,hg⟩:∃g,P.progs[t.toNat]? = some g:=⟨P.progs[t.toNat],QWh hlt⟩;have hq:QR P t=g:=by unfold QR;rw[hg];rfl
 have c1:=v20 hP hM hU 16 (QWe _) t g hg (by omega) v hv;have e16:(17:Int)-((16:Nat):Int)=1:=rfl;rw[e16,e0,Qw]at c1;rw[hq];simp only[d0,d1,QXb,eE,seval];refine aC c1 ?_;by_cases hz:XJ P 16 g v=0
 ·have c2:=v21 v hv;rw[Qw]at c2;have b0:((0:Int) != 0)=false:=rfl;rw[QWJ hz];simp only[hz,b0,eE,seval];refine aC c2 ?_;by_cases hc:IntKind.i64.wrap (v.cnt:Int) > 4096
  ·have d2:decide (IntKind.i64.wrap (v.cnt:Int) > 4096)=true:=QYa hc;rw[QWJ hc];simp only[d2,Qa,seval]
  ·have d2:decide (IntKind.i64.wrap (v.cnt:Int) > 4096)=false:=QX5 hc;rw[QWu hc];simp only[d2,Qa,seval]
 ·have b1:(XJ P 16 g v != 0)=true:=by simp[hz]
  rw[QWu hz];simp only[b1,Qa,seval]

end
end Go.Proofs.YtdhlbgejhcejcaaGreatDoor.Va

namespace Go.Proofs.YtdhlbgejhcejcaaGreatDoor.Va
open Go Am Rc Bt Br

open Up So

theorem Fm {P:Program}{K:St→Prop}{Qe:List Am.Item}{f:Fr}{m:Qn}{ds:List DF}{d:Nat}{sz bytes el:Nat}{s r:RA}{site g n site' g' n':Nat}{fr:Nat→Ob}{xs ys:List AV}(hs:s.ev f=.vec 0 site g 0 n false)(hl:fr site=.vec g sz xs)(ht:XK site el=true)(hn:n=xs.length)
  (hr:r.ev f=.vec 0 site' g' 0 n' false) (hr2:fr site'=.vec g' sz ys) (hn':n'=ys.length) (hz:ys.all (fun e=>e.cells.length==sz)=true) (hm:n+ys.length≤maxLen) (hb:(n+ys.length)*bytes≤140737488355328)
  (h:QE P Qe ⟨QH f d (.vec 0 site (g+1) 0 (n+ys.length) false),QH fr site (.vec (g+1) sz (xs++ys)) :: m,ds⟩ K):QE P (⟨some d,.app sz bytes el s r,none⟩ :: Qe) ⟨f,fr :: m,ds⟩ K:=by
 refine⟨0,site,g,n,xs,ys,hs,hl,ht,by omega,?_,hz,hm,hb,?_⟩
 ·show Q9 (fr :: m) (r.ev f)=some ys;rw[hr];exact WJ hr2 hn'
 ·subst hn;rw[QXR];exact h

theorem QaB (l O:List R)(i:Nat)(x:R)(hx:l[i]? = some x)(hO:O.length≤maxLen)(hs:X6 (fun x y:R=>decide (x.num<y.num)) O)(fr:Nat→Ob)(f:Fr)(h0:f 0=.list (l.map R.av))(h3:f 3=.list (O.map R.av))(h4:f 4=.int .i64 (i:Nat))(h5:f 5=.int .i64 (O.length:Nat))(Q:Exit→St→Prop)
  (q:∀(t:Nat) (f:Fr),t≤O.length→(∀j u,t≤j→O[j]? = some u→decide (x.num<u.num)=true)→(∀j u,j<t→O[j]? = some u→decide (x.num<u.num)=false)→f 0=.list (l.map R.av)→f 3=.list (O.map R.av)→f 4=.int .i64 (i:Nat)→f 5=.int .i64 (t:Nat)→Q (.exit 2) (⟨f,[fr],[]⟩:St)) :
  QG Tryz.prog (.loop SX) ⟨f,[fr],[]⟩ Q:=by
 let I:Nat→St→Prop:=fun k st=>∃f t,st=⟨f,[fr],[]⟩∧k=t∧t≤O.length∧(∀j u,t≤j→O[j]? = some u→decide (x.num<u.num)=true)∧f 0=.list (l.map R.av)∧f 3=.list (O.map R.av)∧f 4=.int .i64 (i:Nat)∧f 5=.int .i64 (t:Nat)
 refine Qc I _ ⟨f,O.length,rfl,rfl,QWe _,(by intro j u hj hu;rw[QXF hj]at hu;cases hu),h0,h3,h4,h5⟩ ?_;clear h0 h3 h4 h5;rintro t st ⟨f,_,rfl,rfl,ht,hv,h0,h3,h4,h5⟩;have hxa:=YJ hx;simp only[h5,Qa,seval];cases t with
 |zero=>
  have d1:decide (((0:Nat):Int) > 0)=false:=by simp
  simp only[Qa,seval];exact q 0 _ (QWo _) hv (fun j u hj=>by omega) (by exact h0) (by exact h3) (by exact h4) (by exact h5)
 |succ r=>
  obtain⟨u,hu⟩:∃u,O[r]? = some u:=⟨O[r]'(by omega),QWh (by omega)⟩;have hua:=YJ hu;have d1:decide (((r+1:Nat):Int) > 0)=true:=by simp only[QWl];omega
  have e2:IntKind.i64.wrap (((r+1:Nat):Int)-1)=((r:Nat):Int):=by
   simp only[maxLen]at hO;rw[QC];omega
  simp only[d1,e2,Qg,QXI,Qb,hxa,hua,h0,h3,h4,h5,eE,seval];cases hcx:decide (u.num > x.num)
  ·simp only[Qa,seval];refine q (r+1) _ ht hv (fun j u' hj hu'=>?_) (by exact h0) (by exact h3) (by exact h4) (by exact h5);have:=KP hs DD (show j≤r by omega) hu' hu;exact DD.nt x u u' hcx this
  ·simp only[e2,h5,Qa,seval];exact⟨r,by omega,_,r,rfl,rfl,by omega,(by
    intro j v hj hv';rcases Nat.lt_or_eq_of_le hj with h|h
    ·exact hv j v h hv'
    ·subst h;rw[hu]at hv';cases hv';exact hcx),(by exact h0),(by exact h3),(by exact h4),(by rfl)⟩

def RwI (l:List R)(k:Nat)(st:St):Prop :=
 ∃f fr i,st=⟨f,[fr],[]⟩∧k=l.length-i∧i≤l.length∧f 0=.list (l.map R.av)∧f 3=.list ((XU (l.take i)).map R.av)∧f 4=.int .i64 (i:Nat)∧Qt (fr 37)=true∧Qt (fr 42)=true

set_option maxHeartbeats 1000000 in
theorem v25 (l:List R)(hn:l.length≤1048576):Qi Tryz.prog 25 [.list (l.map R.av)] (.list ((XU l).map R.av)):=by
 refine k25.fn (by simp) ?_;simp only[Qa,seval];refine F7 (by simp only[Qa,seval]) ?_;simp only[Qa,seval];refine Qc (RwI l) _ ⟨_,_,0,rfl,rfl,QWo _,(by rfl),rfl,(by rfl),rfl,rfl⟩ ?_;rintro _ st ⟨f,fr,i,rfl,rfl,hil,h0,h3,h4,r37,r42⟩;simp only[QXb,h0,h4,Qa,seval];by_cases hlt:i<l.length
 ·obtain⟨x,hi⟩:∃x,l[i]? = some x:=⟨l[i],QWh hlt⟩;have hxa:=YJ hi;have e1:=Qo i _ hlt (by simp only[maxLen];omega);have hp:(XU (l.take i)).Perm (l.take i):=Q3 _;have hO:(XU (l.take i)).length=i:=by rw[hp.length_eq,QXd];omega
  clear hp;have hstep:XU (l.take (i+1))=mg (fun x y:R=>decide (x.num<y.num)) (XU (l.take i)) [x]:=by
   rw[QX0,hi,QX1];exact(Ws DD (l.take i) [x]).symm
  have hsrt:X6 (fun x y:R=>decide (x.num<y.num)) (XU (l.take i)):=XS DD _;generalize XU (l.take i)=O at *;simp only[Ql hlt,QXb,h3,Qa,seval];refine QaB l O i x hi (by simp only[maxLen];omega) hsrt fr _ (by exact h0) (by exact h3) (by exact h4) (by rfl) _ (fun t f ht hv hlow h0 h3 h4 h5=>?_);have hfin:(O.take t).map R.av++([x.av]++(O.drop t).map R.av)=(XU (l.take (i+1))).map R.av:=by
   have:=YF (lt:=fun x y:R=>decide (x.num<y.num)) (y:=x) (X1:=O.take t) (X2:=O.drop t) (fun u hu=>by
    obtain⟨j,hj⟩:=QYq hu;rw[QWT]at hj;split at hj
    ·rename_i hjt;exact hlow j u hjt hj
    ·cases hj) (fun u hu=>by
    obtain⟨j,hj⟩:=QYq hu;rw[QWU]at hj;exact hv _ u (by omega) hj)
   rw[QXx]at this;rw[hstep,this];simp
  have hle:(t≤O.length)=True:=eq_true ht;have hdt:∀l':List AV,l'.length=O.length→(l'.drop t).take (O.length-t)=l'.drop t:=fun l' h=>QWO (by rw[QWV];omega)
  have hd1:((O.drop t).map R.av).length=i-t:=by rw[QXb,QWV];omega
  have hd2:((O.take t).map R.av).length=t:=by rw[QXb,QXd];omega
  have hT:∀j,i+1≤j→List.take j ((O.take t).map R.av++([x.av]++(O.drop t).map R.av))=(XU (l.take (i+1))).map R.av:=fun j hj=>by
   rw[QWO (by simp only[QWS,QWv,QXc,hd1,hd2];omega),hfin]
  simp only[Qg,QXI,Qb,hxa,h0,h4,eE,seval];refine Gj (l:=[.int .i64 x.num,.int .i64 x.wire,.int .u64 (x.bits:Nat),.str x.data]) rfl rfl (by decide) rfl rfl r37 ?_;simp only[nn0,QWM,QXh,QXb,Zt,Q1,QXQ,Qg,QXI,hle,QWe,or_true,JA,hdt _ (QXb ..),h3,h5,Qa,seval];refine QM (site:=37) (g:=Xy (fr 37)) (n:=1) (xs:=[x.av]) (ys:=(O.drop t).map R.av) (by simp only[Qa,seval]) (by simp only[R.av,Qa,seval]) rfl rfl (by simp only[List.map_drop,Qa,seval]) (JA _) (by rw[hd1];simp only[maxLen];omega) (by rw[hd1];omega) ?_;simp only[Qa,seval];refine ZN (by simp only[Qa,seval];exact r42) ?_;simp only[QXb,Zt,ZE,Q1,QXQ,Qg,QXI,QWo,QWe,hle,true_or,QXA,QWX,←List.map_take,h3,h5,Qa,seval];refine QM (site:=42) (g:=_) (n:=0) (xs:=[]) (ys:=(O.take t).map R.av) (by simp only[Qa,seval]<;>rfl) (by simp only[Qa,seval]) rfl rfl (by simp only[Qa,seval]) (JA _) (by rw[hd2];simp only[maxLen];omega) (by rw[hd2];omega) ?_;simp only[Qa,seval];refine Fm (site:=42) (g:=_) (n:=0+((O.take t).map R.av).length) (xs:=(O.take t).map R.av) (ys:=[x.av]++(O.drop t).map R.av) (by simp only[Qa,seval]<;>rfl) (by simp only[Qa,seval]) rfl (by omega) (by simp only[Qa,seval]<;>rfl) (by simp only[Qa,seval]) (by simp only[QWS,QWv,QXc,QXb]<;>omega) (JA (x :: O.drop t)) (by simp only[QWS,QWv,QXc,hd1,hd2,maxLen];omega) (by simp only[QWS,QWv,QXc,hd1,hd2];omega) ?_;simp only[Qa,seval];refine NV (site:=42) (g:=_) (sz:=4) (n:=_) (xs:=(O.take t).map R.av++([x.av]++(O.drop t).map R.av)) (by simp only[Qa,seval]<;>rfl) (by simp only[Qa,seval]) (by simp only[QWS,QWv,QXc,hd1,hd2];omega) ?_;rw[hT];rotate_left
  ·simp only[hd1,hd2];omega
  simp only[e1,h4,Qa,seval];exact⟨l.length-(i+1),by omega,_,_,i+1,rfl,rfl,by omega,(by exact h0),(by rfl),(by rfl),rfl,rfl⟩
 ·have hli:l.take i=l:=QWO (by omega);rw[hli]at h3;simp only[QA hlt,h3,Qa,seval]

end Go.Proofs.YtdhlbgejhcejcaaGreatDoor.Va

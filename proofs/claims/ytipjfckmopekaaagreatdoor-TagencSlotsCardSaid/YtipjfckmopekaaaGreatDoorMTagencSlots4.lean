/- Parts of the proof, in order. -/
import Derived.Test.YtipjfckmopekaaaGreatDoorProg
import Derived.Test.YtipjfckmopekaaaGreatDoorMTagencSlots3

set_option linter.unusedSimpArgs false
namespace Go.Proofs.YtipjfckmopekaaaGreatDoor.Tz
open Go Am Bt Tg
variable {Pg:Program}{cz sr ro sm is st ss:Nat}(hC:Tg.Cs Pg cz sr ro sm is st ss)(hcz:cz≠0)

variable {E:AV→Prop}

def SwI (X cur:List AV)(p q i:Nat):Prop :=
 cur.length=X.length∧∀j,cur[j]? = if p≤j∧j<p+i then X[q+(j-p)]? else if q≤j∧j<q+i then X[p+(j-q)]? else X[j]?

theorem SwI.step {X cur:List AV}{p q i n:Nat}(h:SwI X cur p q i)(hi:i<n)(hpq:p+n≤q)(hq:q+n≤X.length){x y:AV}(hx:X[q+i]? = some x)(hy:X[p+i]? = some y) :
  SwI X ((cur.set (p+i) x).set (q+i) y) p q (i+1):=by
 obtain⟨h1,h2⟩:=h;refine⟨by simp[h1],fun j=>?_⟩;rw[List.getElem?_set,List.length_set,h1,List.getElem?_set,h1,h2 j];by_cases a:q+i=j
 ·subst a;rw[QWg rfl,QWg (by omega),QV1 (by omega),QWg (by omega),show p+(q+i-q)=p+i by omega,hy]
 ·rw[QV1 a];by_cases b:p+i=j
  ·subst b;rw[QWg rfl,QWg (by omega),QWg (by omega),show q+(p+i-p)=q+i by omega,hx]
  ·rw[QV1 b]
   repeat' split
   all_goals first|rfl|(exfalso;omega)|(congr 1;omega)

theorem SwI.done {P A M B S cur:List AV}(h:SwI (P++A++M++B++S) cur P.length (P.length+A.length+M.length) A.length)(hAB:A.length=B.length):cur=P++B++M++A++S:=by
 apply List.ext_getElem?
 intro j;rw[h.2 j];simp only[List.getElem?_append,QWp]
 repeat' split
 all_goals first|rfl|(exfalso;omega)|(congr 1;omega)

def SwS (cz:Nat)(m:Qq)(lv s g N p q n:Nat)(X:List AV)(k:Nat)(st:St):Prop :=
 ∃f i cur,st=⟨f,[Qe]++Am.put m lv s (.vec g cz cur),[]⟩∧k=n-i∧i≤n∧SwI X cur p q i∧
  f 0=.vec (lv+1) s g 0 N false∧f 1=.int .i64 (p:Nat)∧f 2=.int .i64 (q:Nat)∧f 3=.int .i64 (n:Nat)∧f 10=.int .i64 (i:Nat)

include hC hcz in
theorem QQq (cmp:AV)(lv s g:Nat)(P A M B S:List AV)(m:Qq)(hl:Am.Qg m lv s=.vec g cz (P++A++M++B++S))(hAB:A.length=B.length)(he:∀x∈P++A++M++B++S,Ez E cz x)
  (hn:(P++A++M++B++S).length<4611686018427387904) :
  Qi Pg sr [.vec lv s g 0 (P++A++M++B++S).length false,.int .i64 (P.length:Nat),.int .i64 ((P.length+A.length+M.length:Nat):Int),.int .i64 (A.length:Nat),cmp] m
   (fun x m1=>x=.tup []∧m1=Am.put m lv s (.vec g cz (P++B++M++A++S))):=by
 have _:=hC;have _:=hcz;have hlv:lv<m.length:=QX (by rw[hl];simp);have hlen:(P++A++M++B++S).length=P.length+A.length+M.length+B.length+S.length:=by simp only[QWp]
 refine hC.csr.go (by simp) ?_;simp only[S3,rsr,osr,Qa,seval];have h0:m=Am.put m lv s (.vec g cz (P++A++M++B++S)):=(Jm hl).symm;generalize hX:P++A++M++B++S=X at *;generalize hp:P.length=p at *;generalize hq:p+A.length+M.length=q at *;generalize hnn:A.length=n at *;refine Qd (SwS cz m lv s g X.length p q n X) _ ⟨_,0,X,by rw[←h0]<;>rfl,rfl,QVV _,⟨rfl,fun j=>?_⟩,by simp only[Qa,seval],by simp only[Qa,seval],by simp only[Qa,seval],by simp only[Qa,seval],by simp only[Qa,seval]<;>rfl⟩ ?_
 ·rw[QV1 (by omega),QV1 (by omega)]
 rintro k st ⟨f,i,cur,rfl,rfl,hi,hsw,f0,f1,f2,f3,f10⟩;simp only[S7,S4,S5,S6,f3,f10,Qa,seval];by_cases hlt:i<n
 ·have d0:decide ((i:Int)<(n:Int))=true:=by simp;omega
  have e1:IntKind.i64.wrap ((p:Int)+(i:Int))=((p+i:Nat):Int):=by rw[QG];omega
  have e2:IntKind.i64.wrap ((q:Int)+(i:Int))=((q+i:Nat):Int):=by rw[QG];omega
  have e3:IntKind.i64.wrap ((i:Int)+1)=((i+1:Nat):Int):=by rw[QG];omega
  obtain⟨x,hx⟩:∃x,X[q+i]? = some x:=⟨_,QVO (by omega)⟩;obtain⟨y,hy⟩:∃y,X[p+i]? = some y:=⟨_,QVO (by omega)⟩;have ex:=he x (QV0 hx);have ey:=he y (QV0 hy);have cx:cur[q+i]? = some x:=by rw[hsw.2,QV1 (by omega),QV1 (by omega),hx]
  have cy:cur[p+i]? = some y:=by rw[hsw.2,QV1 (by omega),QV1 (by omega),hy]
  have cx':(cur.set (p+i) x)[q+i]? = some x:=by rw[QXH (by omega),cx]
  simp only[d0,e1,e2,e3,f0,f1,f2,f10,KZ hlv (show q+i<X.length by omega),KZ hlv (show p+i<X.length by omega),KY hlv cx ex,KY hlv cy ey,ex.len,ey.len,ex.leaf,ey.leaf,Ut hlv cy ey ex hcz,Ut hlv cx' ex ey hcz,Qa,seval];exact⟨n-(i+1),by omega,_,i+1,_,rfl,rfl,by omega,hsw.step hlt (by omega) (by omega) hx hy,by simp only[f0,Qa,seval],by simp only[f1,Qa,seval],by simp only[f2,Qa,seval],by simp only[f3,Qa,seval],by simp only[Qa,seval]⟩
 ·have d0:decide ((i:Int)<(n:Int))=false:=by simp;omega
  have hin:i=n:=by omega
  subst hin;have hc:=SwI.done (P:=P) (A:=A) (M:=M) (B:=B) (S:=S) (cur:=cur) (by rw[hX,hp,hnn,hq];exact hsw) (by omega);simp only[d0,hc,put_len,Qa,seval]

include hC hcz in
theorem Dt (cmp:AV){fr:Nat→Ob}{lv s g N a b n:Nat}(P A M B S:List AV){m:Qq}(hlv:lv<m.length)(hAB:A.length=B.length)(he:∀x∈P++A++M++B++S,Ez E cz x)
  (hn:(P++A++M++B++S).length<4611686018427387904) (hN:N=(P++A++M++B++S).length) (ha:a=P.length) (hb:b=P.length+A.length+M.length) (hc:n=A.length) :
  Qi Pg sr [.vec (lv+1) s g 0 N false,.int .i64 (a:Nat),.int .i64 (b:Nat),.int .i64 (n:Nat),cmp] (fr :: Am.put m lv s (.vec g cz (P++A++M++B++S)))
   (fun x m1=>x=.tup []∧m1=fr :: Am.put m lv s (.vec g cz (P++B++M++A++S))):=by
 have _:=hC;have _:=hcz;subst hN ha hb hc;refine(QQq hC hcz cmp (lv+1) s g P A M B S (fr :: Am.put m lv s (.vec g cz (P++A++M++B++S))) (QA (m:=m) hlv) hAB he hn).mono fun x m1 h=>⟨h.1,?_⟩
 rw[h.2];simp only[Am.put,Wi]

def RoS (cz:Nat)(E:AV→Prop)(m:Qq)(lv s g N mid:Nat)(T:List AV)(cmp:AV)(k:Nat)(st:St):Prop :=
 ∃f P A B S,st=⟨f,[Qe]++Am.put m lv s (.vec g cz (P++A++B++S)),[]⟩∧k=A.length+B.length∧0<A.length∧0<B.length∧P.length+A.length=mid∧P++B++A++S=T∧(P++A++B++S).length=N∧(∀x∈P++A++B++S,Ez E cz x)∧
  f 0=.vec (lv+1) s g 0 N false∧f 2=.int .i64 (mid:Nat)∧f 4=cmp∧f 10=.int .i64 (A.length:Nat)∧f 11=.int .i64 (B.length:Nat)

include hC hcz in
theorem QQr (cmp:AV)(lv s g:Nat)(P X Y S:List AV)(m:Qq)(hl:Am.Qg m lv s=.vec g cz (P++X++Y++S))(hX:0<X.length)(hY:0<Y.length)(he:∀x∈P++X++Y++S,Ez E cz x)
  (hn:(P++X++Y++S).length<4611686018427387904) :
  Qi Pg ro [.vec lv s g 0 (P++X++Y++S).length false,.int .i64 (P.length:Nat),.int .i64 ((P.length+X.length:Nat):Int),.int .i64 ((P.length+X.length+Y.length:Nat):Int),cmp] m
   (fun x m1=>x=.tup []∧m1=Am.put m lv s (.vec g cz (P++Y++X++S))):=by
 have _:=hC;have _:=hcz;have hlv:lv<m.length:=QX (by rw[hl];simp);have hlen:(P++X++Y++S).length=P.length+X.length+Y.length+S.length:=by simp only[QWp]
 refine hC.cro.go (by simp) ?_;have e1:IntKind.i64.wrap (((P.length+X.length:Nat):Int)-(P.length:Int))=((X.length:Nat):Int):=by rw[QG];omega
 have e2:IntKind.i64.wrap (((P.length+X.length+Y.length:Nat):Int)-((P.length+X.length:Nat):Int))=((Y.length:Nat):Int):=by rw[QG];omega
 simp only[S8,S9,Ti,rro,oro,e1,e2,Qa,seval];have h0:m=Am.put m lv s (.vec g cz (P++X++Y++S)):=(Jm hl).symm;refine Qd (RoS cz E m lv s g (P++X++Y++S).length (P.length+X.length) (P++Y++X++S) cmp.sh) _ ⟨_,P,X,Y,S,by rw[←h0]<;>rfl,rfl,hX,hY,rfl,rfl,rfl,he,by simp only[Qa,seval],by simp only[Qa,seval],by simp only[Qa,seval],by simp only[Qa,seval],by simp only[Qa,seval]⟩ ?_;generalize hT:P++Y++X++S=T;generalize hN:(P++X++Y++S).length=N at *;generalize hmid:P.length+X.length=mid at *;clear hl he h0 hX hY e1 e2;rintro k st ⟨f,P',A,B,S',rfl,rfl,hA,hB,hm,hTT,hNN,hee,f0,f2,f4,f10,f11⟩;have hlen':(P'++A++B++S').length=P'.length+A.length+B.length+S'.length:=by simp only[QWp]
 simp only[Th,Ta,Tb,Tc,Td,Te,Tf,f10,f11,Qa,seval];by_cases hij:A.length=B.length
 ·have d0:((A.length:Int) != (B.length:Int))=false:=by simp;omega
  have e1:IntKind.i64.wrap ((mid:Int)-(A.length:Int))=((P'.length:Nat):Int):=by rw[QG];omega
  simp only[d0,e1,f0,f2,f4,f10,Qa,seval];have hc:=Dt hC hcz cmp.sh (fr:=Qe) (g:=g) (s:=s) (N:=N) (a:=P'.length) (b:=mid) (n:=A.length) P' A [] B S' hlv hij (by simpa using hee) (by simp only[QWQ];omega) (by simp only[QWQ];omega) rfl (by simp only[QWJ];omega) rfl;simp only[QWQ]at hc;refine Qk hc rfl ?_;simp only[hTT,put_len,Qa,seval]
 ·have d0:((A.length:Int) != (B.length:Int))=true:=by simp;omega
  simp only[d0,f10,f11,Qa,seval];by_cases hgt:B.length<A.length
  ·have d1:decide ((A.length:Int) > (B.length:Int))=true:=by simp;omega
   have e1:IntKind.i64.wrap ((mid:Int)-(A.length:Int))=((P'.length:Nat):Int):=by rw[QG];omega
   have e2:IntKind.i64.wrap ((A.length:Int)-(B.length:Int))=((A.length-B.length:Nat):Int):=by rw[QG];omega
   simp only[d1,e1,f0,f2,f4,f10,f11,Qa,seval];have hcut:P'++A++B++S'=P'++A.take B.length++A.drop B.length++B++S':=by
    rw[QV8 P' (A.take _),QW3]
   have hl1:(A.take B.length).length=B.length:=by simp;omega
   rw[hcut]at hee hNN ⊢;refine Qk (Dt hC hcz cmp.sh (a:=P'.length) (b:=mid) (n:=B.length) P' (A.take B.length) (A.drop B.length) B S' hlv hl1 hee (by omega) hNN.symm rfl (by rw[hl1];simp;omega) hl1.symm) rfl ?_;simp only[e2,f10,f11,Qa,seval];have hcat:P'++B++A.drop B.length++A.take B.length++S'=(P'++B)++A.drop B.length++A.take B.length++S':=rfl;refine⟨(A.drop B.length).length+(A.take B.length).length,?_,_,P'++B,A.drop B.length,A.take B.length,S',rfl,rfl,by simp;omega,by omega,by simp;omega,?_,?_,?_,by simp only[f0,Qa,seval],by simp only[f2,Qa,seval],by simp only[f4,Qa,seval],by simp only[QWs,Qa,seval],by simp only[f11,hl1,Qa,seval]⟩
   ·simp;omega
   ·rw[←hTT];simp only[QV8];rw[←QV8 (A.take _),QW3]
   ·rw[←hNN];simp only[QWp];omega
   ·intro x hx;refine hee x ?_;simp only[QW5]at hx ⊢
    grind
  ·have d1:decide ((A.length:Int) > (B.length:Int))=false:=by simp;omega
   have e1:IntKind.i64.wrap ((mid:Int)-(A.length:Int))=((P'.length:Nat):Int):=by rw[QG];omega
   have e2:IntKind.i64.wrap ((B.length:Int)-(A.length:Int))=((B.length-A.length:Nat):Int):=by rw[QG];omega
   have e3:IntKind.i64.wrap ((mid:Int)+(B.length:Int))=((mid+B.length:Nat):Int):=by rw[QG];omega
   have e4:IntKind.i64.wrap (((mid+B.length:Nat):Int)-(A.length:Int))=((mid+B.length-A.length:Nat):Int):=by rw[QG];omega
   simp only[d1,e1,e3,e4,f0,f2,f4,f10,f11,Qa,seval];have hcut:P'++A++B++S'=P'++A++B.take (B.length-A.length)++B.drop (B.length-A.length)++S':=by
    rw[QV8 (P'++A) (B.take _),QW3]
   have hl1:(B.take (B.length-A.length)).length=B.length-A.length:=by simp
   have hl2:(B.drop (B.length-A.length)).length=A.length:=by simp;omega
   rw[hcut]at hee hNN ⊢;refine Qk (Dt hC hcz cmp.sh (a:=P'.length) (b:=mid+B.length-A.length) (n:=A.length) P' A (B.take (B.length-A.length)) (B.drop (B.length-A.length)) S' hlv hl2.symm hee (by omega) hNN.symm rfl (by rw[hl1];omega) rfl) rfl ?_;simp only[e2,f10,f11,Qa,seval];refine⟨(B.drop (B.length-A.length)).length+(B.take (B.length-A.length)).length,?_,_,P',B.drop (B.length-A.length),B.take (B.length-A.length),A++S',by simp only[QV8]<;>rfl,rfl,by omega,by omega,by omega,?_,?_,?_,by simp only[f0,Qa,seval],by simp only[f2,Qa,seval],by simp only[f4,Qa,seval],by simp only[f10,hl2,Qa,seval],by simp only[hl1,Qa,seval]⟩
   ·omega
   ·rw[←hTT];simp only[QV8];rw[←QV8 (B.take _),QW3]
   ·rw[←hNN];simp only[QWp];omega
   ·intro x hx;refine hee x ?_;simp only[QW5]at hx ⊢
    grind

end Go.Proofs.YtipjfckmopekaaaGreatDoor.Tz

namespace Go.Proofs.YtipjfckmopekaaaGreatDoor.Tz
open Go Am Bt Tg So
variable {Pg:Program}{cz sr ro sm is st ss:Nat}(hC:Tg.Cs Pg cz sr ro sm is st ss)(hcz:cz≠0)

variable {E:AV→Prop}

def lt (c:AV→AV→Int)(x y:AV):Bool:=decide (c x y<0)

structure Cp (Pg:Program)(cz:Nat)(E:AV→Prop)(kc:Nat)(c:AV→AV→Int):Prop where
 call:∀x y,Ez E cz x→Ez E cz y→Qj Pg kc [x,y] (.int .i64 (c x y))
 sw:SW (lt c)

def InS (cz:Nat)(m:Qq)(lv s g N i p:Nat)(kc:Nat)(c:AV→AV→Int)(P L S:List AV)(x:AV)(k:Nat)(st:St):Prop :=
 ∃f U V,st=⟨f,[Qe]++Am.put m lv s (.vec g cz (P++U++[x]++V++S)),[]⟩∧k=U.length∧U++V=L∧(∀v∈V,lt c x v=true)∧
  f 0=.vec (lv+1) s g 0 N false∧f 1=.int .i64 (P.length:Nat)∧f 2=.int .i64 (p:Nat)∧f 3=.fn (.func kc) [] []∧f 8=.int .i64 (i:Nat)∧f 9=.int .i64 ((P.length+U.length:Nat):Int)

def IoS (cz:Nat)(m:Qq)(lv s g N:Nat)(kc:Nat)(c:AV→AV→Int)(P X S:List AV)(k:Nat)(st:St):Prop :=
 ∃f i,st=⟨f,[Qe]++Am.put m lv s (.vec g cz (P++QE (lt c) (X.take i)++X.drop i++S)),[]⟩∧k=X.length+1-i∧1≤i∧(i≤X.length∨(i=1∧X=[]))∧
  f 0=.vec (lv+1) s g 0 N false∧f 1=.int .i64 (P.length:Nat)∧f 2=.int .i64 ((P.length+X.length:Nat):Int)∧f 3=.fn (.func kc) [] []∧f 8=.int .i64 ((P.length+i:Nat):Int)

theorem Cj {α:Type}(U:List α)(h:0<U.length):∃W u,U=W++[u]:=by
 rcases List.eq_nil_or_concat U with rfl|⟨W,u,e⟩
 ·simp at h
 ·exact⟨W,u,by simpa using e⟩

theorem Uu {α:Type}{P W V:List α}{u:α}{i:Nat}(h:i=P.length+W.length):(P++(W++[u])++V)[i]? = some u:=by
 subst h;simp

include hC hcz in
theorem QQs {kc:Nat}{c:AV→AV→Int}(hc:Cp Pg cz E kc c)(lv s g:Nat)(P X S:List AV)(m:Qq)(hl:Am.Qg m lv s=.vec g cz (P++X++S))(he:∀x∈P++X++S,Ez E cz x)
  (hn:(P++X++S).length<4611686018427387904) :
  Qi Pg is [.vec lv s g 0 (P++X++S).length false,.int .i64 (P.length:Nat),.int .i64 ((P.length+X.length:Nat):Int),.fn (.func kc) [] []] m
   (fun x m1=>x=.tup []∧m1=Am.put m lv s (.vec g cz (P++QE (lt c) X++S))):=by
 have _:=hC;have _:=hcz;have hlv:lv<m.length:=QX (by rw[hl];simp);have hlen:(P++X++S).length=P.length+X.length+S.length:=by simp only[QWp]
 refine hC.cis.go (by simp) ?_;have e1:IntKind.i64.wrap ((P.length:Int)+1)=((P.length+1:Nat):Int):=by rw[QG];omega
 simp only[Ts,ris,ois,e1,Qa,seval];have h0:m=Am.put m lv s (.vec g cz (P++QE (lt c) (X.take 1)++X.drop 1++S)):=by
  have:P++QE (lt c) (X.take 1)++X.drop 1++S=P++X++S:=by
   cases X with
   |nil=>simp[QE]
   |cons x X=>simp[QE,Zw]
  rw[this];exact(Jm hl).symm
 generalize hN:(P++X++S).length=N at *;refine Qd (IoS cz m lv s g N kc c P X S) _ ⟨_,1,by rw[←h0]<;>rfl,rfl,QVL _,by
  cases X with
  |nil=>exact .inr ⟨rfl,rfl⟩
  |cons x X=>exact .inl (by simp),by simp only[Qa,seval],by simp only[Qa,seval],by simp only[Qa,seval],by simp only[Qa,seval],by simp only[Qa,seval]⟩ ?_
 clear h0 e1;rintro k st ⟨f,i,rfl,rfl,hi1,hi2,f0,f1,f2,f3,f8⟩;simp only[TA,TC,Tt,Tu,Tv,Tw,Tx,TB,f2,f8,Qa,seval];by_cases hlt:i<X.length
 ·have d0:decide (((P.length+i:Nat):Int)<((P.length+X.length:Nat):Int))=true:=by simp only[QVS];omega
  simp only[d0,f8,Qa,seval];obtain⟨x,hx⟩:∃x,X[i]? = some x:=⟨_,QVO hlt⟩;have ex:Ez E cz x:=he x (by simp[QV0 hx]);have hL:(QE (lt c) (X.take i)).length=i:=by rw[Jk,QWK];omega
  have heL:∀z∈QE (lt c) (X.take i),Ez E cz z:=fun z hz=>he z (by simp[QWA (Un hz)])
  have hdrop:X.drop i=[x]++X.drop (i+1):=by
   rw[List.singleton_append,QWv hlt];congr 1
   exact(QVN.1 hx).2
  have htake:QE (lt c) (X.take (i+1))=mg (lt c) (QE (lt c) (X.take i)) [x]:=by
   rw[QXv,hx,QXw,←Wv hc.sw]<;>rfl
  refine Qd (InS cz m lv s g N (P.length+i) (P.length+X.length) kc c P (QE (lt c) (X.take i)) (X.drop (i+1)++S) x) _ ⟨_,QE (lt c) (X.take i),[],by rw[hdrop];simp only[QV8,QWQ]<;>rfl,rfl,QWQ _,by simp,by simp only[f0,Qa,seval],by simp only[f1,Qa,seval],by simp only[f2,Qa,seval],by simp only[f3,Qa,seval],by simp only[f8,Qa,seval],by simp only[hL,Qa,seval]⟩ ?_;rintro k' st ⟨f,U,V,rfl,rfl,hUV,hV,f0,f1,f2,f3,f8,f9⟩;have hUVl:U.length+V.length=i:=by rw[←QWp,hUV,hL]
  have hrow:(P++U++[x]++V++(X.drop (i+1)++S)).length=N:=by
   rw[←hN];simp only[QWp,QWs,QXi];omega
  simp only[f1,f9,Qa,seval];have e4:IntKind.i64.wrap (((P.length+i:Nat):Int)+1)=((P.length+(i+1):Nat):Int):=by rw[QG];omega
  have fin:(∀u∈U,lt c x u=false)→P++U++[x]++V++(X.drop (i+1)++S)=P++QE (lt c) (X.take (i+1))++X.drop (i+1)++S:=by
   intro h;rw[htake,←hUV,YE h hV];simp
  by_cases hU:0<U.length
  ·obtain⟨W,u,rfl⟩:=Cj U hU;simp only[QWp,QXi]at hUVl hrow f9;have d1:decide (((P.length+(W.length+1):Nat):Int) > (P.length:Int))=true:=by simp only[QVS];omega
   have e2:IntKind.i64.wrap (((P.length+(W.length+1):Nat):Int)-1)=((P.length+W.length:Nat):Int):=by rw[QG];omega
   have eu:Ez E cz u:=heL u (by rw[←hUV];simp);have hx1:(P++(W++[u])++[x]++V++(X.drop (i+1)++S))[P.length+(W.length+1)]? = some x:=by
    have:=Uu (P:=P) (W:=W++[u]) (u:=x) (V:=V++(X.drop (i+1)++S)) (i:=P.length+(W.length+1)) (by simp)
    simpa only [QV8]using this
   have hu1:(P++(W++[u])++[x]++V++(X.drop (i+1)++S))[P.length+W.length]? = some u:=by
    have:=Uu (P:=P) (W:=W) (u:=u) (V:=[x]++V++(X.drop (i+1)++S)) (i:=P.length+W.length) rfl
    simpa only [QV8]using this
   simp only[d1,e2,f0,f3,f9,QWp,KZ hlv (show P.length+(W.length+1)<N by omega),KZ hlv (show P.length+W.length<N by omega),KY hlv hx1 ex,KY hlv hu1 eu,Qa,seval];refine Wb (by simp only[Qa,seval]) (hc.call x u ex eu) (WU ex eu _) (KJ ex eu) rfl (.inl (KJ ex eu)) ?_;cases hcx:decide (c x u<0)with
   |true=>
    have hset:((P++(W++[u])++[x]++V++(X.drop (i+1)++S)).set (P.length+(W.length+1)) u).set (P.length+W.length) x=P++W++[x]++([u]++V)++(X.drop (i+1)++S):=by
     simp[QV8]
    have hx2:((P++(W++[u])++[x]++V++(X.drop (i+1)++S)).set (P.length+(W.length+1)) u)[P.length+W.length]? = some u:=by
     rw[QXH (by omega),hu1]
    simp only[hcx,e2,f0,f9,KZ hlv (show P.length+(W.length+1)<N by omega),KZ hlv (show P.length+W.length<N by omega),KY hlv hx1 ex,KY hlv hu1 eu,ex.len,eu.len,ex.leaf,eu.leaf,Ut hlv hx1 ex eu hcz,Ut hlv hx2 eu ex hcz,Qa,seval];exact⟨W.length,by simp,_,W,[u]++V,by rw[hset]<;>rfl,rfl,by rw[←hUV];simp,by
     intro v hv;rcases QW5.1 hv with hv|hv
     ·rw[QXJ.1 hv];exact hcx
     ·exact hV v hv,by simp only[f0,Qa,seval],by simp only[f1,Qa,seval],by simp only[f2,Qa,seval],by simp only[f3,Qa,seval],by simp only[f8,Qa,seval],by simp only[Qa,seval]⟩
   |false=>
    have hz:∀z∈W++[u],lt c x z=false:=by
     have hsrt:=Zr hc.sw (X.take i);have hsrt:Zf (lt c) ((W++[u])++V):=by rw[hUV];exact hsrt
     have hs2:=(List.pairwise_append.1 (List.pairwise_append.1 hsrt).1).2.2;intro z hz;rcases QW5.1 hz with hz|hz
     ·exact hc.sw.nt x u z hcx (hs2 z hz u (by simp))
     ·rw[QXJ.1 hz];exact hcx
    simp only[hcx,f8,e4,Qa,seval];exact⟨X.length+1-(i+1),by omega,_,i+1,by rw[fin hz]<;>rfl,rfl,by omega,.inl (by omega),by simp only[f0,Qa,seval],by simp only[f1,Qa,seval],by simp only[f2,Qa,seval],by simp only[f3,Qa,seval],by simp only[Qa,seval]⟩
  ·have hU0:U=[]:=QWR (by omega);subst hU0;have d1:decide (((P.length+0:Nat):Int) > (P.length:Int))=false:=by simp
   have fin0:=fin (by simp);simp only[QWQ]at fin0;simp only[QWJ]at f9;simp only[d1,f8,e4,QWJ,Qa,seval];exact⟨X.length+1-(i+1),by omega,_,i+1,by rw[fin0]<;>rfl,rfl,by omega,.inl (by omega),by simp only[f0,Qa,seval],by simp only[f1,Qa,seval],by simp only[f2,Qa,seval],by simp only[f3,Qa,seval],by simp only[Qa,seval]⟩
 ·have d0:decide (((P.length+i:Nat):Int)<((P.length+X.length:Nat):Int))=false:=by simp only[QXE];omega
  have hX:QE (lt c) (X.take i)++X.drop i=QE (lt c) X:=by
   rcases hi2 with h|⟨_,rfl⟩
   ·rw[QWl (by omega),QWo (by omega),QWQ]
   ·simp[QE]
  have hX2:P++QE (lt c) (X.take i)++X.drop i++S=P++QE (lt c) X++S:=by rw[QV8 P (QE (lt c) (X.take i)) (X.drop i),hX]
  simp only[d0,hX2,put_len,Qa,seval]

end Go.Proofs.YtipjfckmopekaaaGreatDoor.Tz

namespace Go.Proofs.YtipjfckmopekaaaGreatDoor.Tz
open Go Am Bt Tg So
variable {Pg:Program}{cz sr ro sm is st ss:Nat}(hC:Tg.Cs Pg cz sr ro sm is st ss)(hcz:cz≠0)

variable {E:AV→Prop}

theorem Ck (a b:Nat)(h:a+b<9223372036854775808):IntKind.i64.wrap ((IntKind.u64.wrap ((a+b:Nat):Int)).fdiv (2 ^ min 1 64))=(((a+b) / 2:Nat):Int):=by
 rw[QG,Jc,show min 1 64=1 from rfl,show(2:Int) ^ 1=2 from rfl];have:(((a+b:Nat):Int) % 18446744073709551616)=((a+b:Nat):Int):=by omega
 rw[this,QXQ _ (by omega)];omega

def SaS (cz:Nat)(m:Qq)(lv s g N:Nat)(kc:Nat)(c:AV→AV→Int)(P Y S:List AV)(x:AV)(k:Nat)(st:St):Prop :=
 ∃f i j,st=⟨f,[Qe]++Am.put m lv s (.vec g cz (P++[x]++Y++S)),[]⟩∧k=j-i∧i≤j∧j≤Y.length∧(∀k y,k<i→Y[k]? = some y→lt c y x=true)∧(∀k y,j≤k→Y[k]? = some y→lt c y x=false)∧
  f 0=.vec (lv+1) s g 0 N false∧f 1=.int .i64 (P.length:Nat)∧f 4=.fn (.func kc) [] []∧f 10=.int .i64 ((P.length+1+i:Nat):Int)∧f 11=.int .i64 ((P.length+1+j:Nat):Int)

def SaT (cz:Nat)(m:Qq)(lv s g N i:Nat)(P Y S:List AV)(x:AV)(k:Nat)(st:St):Prop :=
 ∃f t,st=⟨f,[Qe]++Am.put m lv s (.vec g cz (P++Y.take t++[x]++Y.drop t++S)),[]⟩∧k=i-t∧t≤i∧
  f 0=.vec (lv+1) s g 0 N false∧f 10=.int .i64 ((P.length+1+i:Nat):Int)∧f 13=.int .i64 ((P.length+t:Nat):Int)

include hC hcz in
theorem QQt {kc:Nat}{c:AV→AV→Int}(hc:Cp Pg cz E kc c)(lv s g:Nat)(P:List AV)(x:AV)(Y S:List AV)(m:Qq)(hl:Am.Qg m lv s=.vec g cz (P++[x]++Y++S))(he:∀z∈P++[x]++Y++S,Ez E cz z)
  (hn:(P++[x]++Y++S).length<4611686018427387904) (hY:Zf (lt c) Y) :
  Qi Pg sm [.vec lv s g 0 (P++[x]++Y++S).length false,.int .i64 (P.length:Nat),.int .i64 ((P.length+1:Nat):Int),.int .i64 ((P.length+1+Y.length:Nat):Int),.fn (.func kc) [] []] m
   (fun v m1=>v=.tup []∧m1=Am.put m lv s (.vec g cz (P++mg (lt c) [x] Y++S))):=by
 have _:=hC;have _:=hcz;have hlv:lv<m.length:=QX (by rw[hl];simp);have hlen:(P++[x]++Y++S).length=P.length+1+Y.length+S.length:=by simp only[QWp,QXi]
 have ex:Ez E cz x:=he x (by simp);have eY:∀y∈Y,Ez E cz y:=fun y hy=>he y (by simp[hy])
 refine hC.csm.go (by simp) ?_;have e1:IntKind.i64.wrap (((P.length+1:Nat):Int)-(P.length:Int))=1:=by rw[QG];omega
 simp only[Fc,Ce,Cf,Cg,GE,BA,BB,BH,GF,GG,GH,GI,GJ,GK,GL,GM,GN,Yf,Yg,Yh,WB,WC,Kh,Ki,Tr,GV,e1,QWW,Qa,seval];have h0:m=Am.put m lv s (.vec g cz (P++[x]++Y++S)):=(Jm hl).symm;generalize hN:(P++[x]++Y++S).length=N at *;refine Qd (SaS cz m lv s g N kc c P Y S x) _ ⟨_,0,Y.length,by rw[←h0]<;>rfl,rfl,QVV _,QVL _,(by intro k y hk;exact absurd hk (Nat.not_lt_zero _)),(by intro k y hk hy;rw[QXb hk]at hy;cases hy),by simp only[Qa,seval],by simp only[Qa,seval],by simp only[Qa,seval],by simp only[QWi,Qa,seval],by simp only[Qa,seval]⟩ ?_;clear h0 e1;rintro k st ⟨f,i,j,rfl,rfl,hij,hj,hp,hq,f0,f1,f4,f10,f11⟩;simp only[To,Tq,Ch,Ci,GU,Tj,Tk,Tl,Tm,Tn,Tp,Po,Pp,BC,BD,BE,BF,BG,BI,BJ,BK,GP,GQ,GR,GS,GT,f10,f11,Qa,seval];by_cases hlt:i<j
 ·have d0:decide (((P.length+1+i:Nat):Int)<((P.length+1+j:Nat):Int))=true:=by simp only[QVS];omega
  have e2:IntKind.i64.wrap (((P.length+1+i:Nat):Int)+((P.length+1+j:Nat):Int))=(((P.length+1+i)+(P.length+1+j):Nat):Int):=by rw[QG];omega
  have e3:=Ck (P.length+1+i) (P.length+1+j) (by omega);have e4:((P.length+1+i)+(P.length+1+j)) / 2=P.length+1+(i+j) / 2:=by omega
  rw[e4]at e3;generalize hh:(i+j) / 2=h at *;have hh1:h<j:=by omega
  have hh2:i≤h:=by omega
  have e5:IntKind.i64.wrap (((P.length+1+h:Nat):Int)+1)=((P.length+1+(h+1):Nat):Int):=by rw[QG];omega
  obtain⟨y,hy⟩:∃y,Y[h]? = some y:=⟨_,QVO (by omega)⟩;have ey:=eY y (QV0 hy);have gy:(P++[x]++Y++S)[P.length+1+h]? = some y:=by
   rw[QXc (by simp only[QWp,QXi];omega),QXd (by simp only[QWp,QXi];omega)];rw[←hy];congr 1;simp only[QWp,QXi];omega
  have gx:(P++[x]++Y++S)[P.length]? = some x:=by
   have:=Uu (P:=P) (W:=[]) (u:=x) (V:=Y++S) (i:=P.length) rfl
   simpa only [QV8,QWa]using this
  simp only[d0,e2,e3,f0,f1,f4,f10,f11,KZ hlv (show P.length+1+h<N by omega),KZ hlv (show P.length<N by omega),KY hlv gy ey,KY hlv gx ex,Qa,seval];refine Wb (by simp only[Qa,seval]) (hc.call y x ey ex) (WU ey ex _) (KJ ey ex) rfl (.inl (KJ ey ex)) ?_;cases hcx:decide (c y x<0)with
  |true=>
   simp only[hcx,e5,Qa,seval];exact⟨j-(h+1),by omega,_,h+1,j,rfl,rfl,by omega,hj,fun k z hk hz=>Kz hc.sw hY (Nat.le_of_lt_succ hk) hz hy hcx,hq,by simp only[f0,Qa,seval],by simp only[f1,Qa,seval],by simp only[f4,Qa,seval],by simp only[Qa,seval],by simp only[f11,Qa,seval]⟩
  |false=>
   simp only[hcx,Qa,seval];exact⟨h-i,by omega,_,i,h,rfl,rfl,by omega,by omega,hp,fun k z hk hz=>by
    cases hb:lt c z x with
    |false=>rfl
    |true=>exact absurd (Kz hc.sw hY hk hy hz hb) (by show ¬(decide _=true);rw[hcx];simp),by simp only[f0,Qa,seval],by simp only[f1,Qa,seval],by simp only[f4,Qa,seval],by simp only[f10,Qa,seval],by simp only[Qa,seval]⟩
 ·have d0:decide (((P.length+1+i:Nat):Int)<((P.length+1+j:Nat):Int))=false:=by simp only[QXE];omega
  have hij':j=i:=by omega
  subst hij';simp only[d0,f1,Qa,seval];have hres:mg (lt c) [x] Y=Y.take j++x :: Y.drop j:=by
   have:=LP (lt:=lt c) (x:=x) (Y1:=Y.take j) (Y2:=Y.drop j) (fun y hy=>by
    obtain⟨k,hk⟩:=QXR hy;rw[QWq]at hk;split at hk
    ·rename_i h;exact hp k y h hk
    ·cases hk) (fun y hy=>by
    obtain⟨k,hk⟩:=QXR hy;rw[QWr]at hk;exact hq _ y (by omega) hk)
   rwa [QW3]at this
  refine Qd (SaT cz m lv s g N j P Y S x) _ ⟨_,0,by rw[show P++Y.take 0++[x]++Y.drop 0++S=P++[x]++Y++S by simp]<;>rfl,rfl,QVV _,by simp only[f0,Qa,seval],by simp only[f10,Qa,seval],by simp only[QWi,Qa,seval]⟩ ?_;clear f0 f1 f4 f10 f11 d0 hp hq f;rintro k st ⟨f,t,rfl,rfl,ht,f0,f10,f13⟩;have e6:IntKind.i64.wrap (((P.length+1+j:Nat):Int)-1)=((P.length+j:Nat):Int):=by rw[QG];omega
  have e7:IntKind.i64.wrap (((P.length+t:Nat):Int)+1)=((P.length+(t+1):Nat):Int):=by rw[QG];omega
  simp only[e6,f10,f13,Qa,seval];by_cases hlt:t<j
  ·have d0:decide (((P.length+t:Nat):Int)<((P.length+j:Nat):Int))=true:=by simp only[QVS];omega
   obtain⟨y,hy⟩:∃y,Y[t]? = some y:=⟨_,QVO (by omega)⟩;have ey:=eY y (QV0 hy);have hdrop:Y.drop t=[y]++Y.drop (t+1):=by
    rw[List.singleton_append,QWv (by omega)];congr 1
    exact(QVN.1 hy).2
   have htake:Y.take (t+1)=Y.take t++[y]:=by rw[QXv,hy]<;>rfl
   have hlt':(Y.take t).length=t:=by rw[QWK];omega
   have g1:(P++Y.take t++[x]++Y.drop t++S)[P.length+t]? = some x:=by
    have:=Uu (P:=P) (W:=Y.take t) (u:=x) (V:=Y.drop t++S) (i:=P.length+t) (by rw[hlt'])
    simpa only [QV8]using this
   have g2:(P++Y.take t++[x]++Y.drop t++S)[P.length+(t+1)]? = some y:=by
    have:=Uu (P:=P) (W:=Y.take t++[x]) (u:=y) (V:=Y.drop (t+1)++S) (i:=P.length+(t+1)) (by rw[QWp,hlt']<;>rfl);rw[hdrop]
    simpa only [QV8]using this
   have g3:((P++Y.take t++[x]++Y.drop t++S).set (P.length+t) y)[P.length+(t+1)]? = some y:=by
    rw[QXH (by omega),g2]
   have hset:((P++Y.take t++[x]++Y.drop t++S).set (P.length+t) y).set (P.length+(t+1)) x=P++Y.take (t+1)++[x]++Y.drop (t+1)++S:=by
    rw[hdrop,htake];simp[hlt']
   simp only[d0,e7,f0,f13,KZ hlv (show P.length+(t+1)<N by omega),KZ hlv (show P.length+t<N by omega),KY hlv g1 ex,KY hlv g2 ey,ex.len,ey.len,ex.leaf,ey.leaf,Ut hlv g1 ex ey hcz,Ut hlv g3 ey ex hcz,Qa,seval];exact⟨j-(t+1),by omega,_,t+1,by rw[hset]<;>rfl,rfl,by omega,by simp only[f0,Qa,seval],by simp only[f10,Qa,seval],by simp only[Qa,seval]⟩
  ·have d0:decide (((P.length+t:Nat):Int)<((P.length+j:Nat):Int))=false:=by simp only[QXE];omega
   have htj:t=j:=by omega
   subst htj;have hfin:P++Y.take t++[x]++Y.drop t++S=P++mg (lt c) [x] Y++S:=by rw[hres];simp
   simp only[d0,hfin,put_len,Qa,seval]

end Go.Proofs.YtipjfckmopekaaaGreatDoor.Tz

namespace Go.Proofs.YtipjfckmopekaaaGreatDoor.Tz
open Go Am Bt Tg So
variable {Pg:Program}{cz sr ro sm is st ss:Nat}(hC:Tg.Cs Pg cz sr ro sm is st ss)(hcz:cz≠0)

variable {E:AV→Prop}

def SbS (cz:Nat)(m:Qq)(lv s g N:Nat)(kc:Nat)(c:AV→AV→Int)(P X S:List AV)(y:AV)(k:Nat)(st:St):Prop :=
 ∃f i j,st=⟨f,[Qe]++Am.put m lv s (.vec g cz (P++X++[y]++S)),[]⟩∧k=j-i∧i≤j∧j≤X.length∧(∀k x,k<i→X[k]? = some x→lt c y x=false)∧(∀k x,j≤k→X[k]? = some x→lt c y x=true)∧
  f 0=.vec (lv+1) s g 0 N false∧f 2=.int .i64 ((P.length+X.length:Nat):Int)∧f 4=.fn (.func kc) [] []∧f 14=.int .i64 ((P.length+i:Nat):Int)∧f 15=.int .i64 ((P.length+j:Nat):Int)

def SbT (cz:Nat)(m:Qq)(lv s g N i:Nat)(P X S:List AV)(y:AV)(k:Nat)(st:St):Prop :=
 ∃f t,st=⟨f,[Qe]++Am.put m lv s (.vec g cz (P++X.take t++[y]++X.drop t++S)),[]⟩∧k=t-i∧i≤t∧t≤X.length∧
  f 0=.vec (lv+1) s g 0 N false∧f 14=.int .i64 ((P.length+i:Nat):Int)∧f 17=.int .i64 ((P.length+t:Nat):Int)

include hC hcz in
theorem QQu {kc:Nat}{c:AV→AV→Int}(hc:Cp Pg cz E kc c)(lv s g:Nat)(P X:List AV)(y:AV)(S:List AV)(m:Qq)(hl:Am.Qg m lv s=.vec g cz (P++X++[y]++S))(he:∀x∈P++X++[y]++S,Ez E cz x)
  (hn:(P++X++[y]++S).length<4611686018427387904) (hX:Zf (lt c) X) (hX1:X.length≠1) :
  Qi Pg sm [.vec lv s g 0 (P++X++[y]++S).length false,.int .i64 (P.length:Nat),.int .i64 ((P.length+X.length:Nat):Int),.int .i64 ((P.length+X.length+1:Nat):Int),.fn (.func kc) [] []] m
   (fun v m1=>v=.tup []∧m1=Am.put m lv s (.vec g cz (P++mg (lt c) X [y]++S))):=by
 have _:=hC;have _:=hcz;have hlv:lv<m.length:=QX (by rw[hl];simp);have hlen:(P++X++[y]++S).length=P.length+X.length+1+S.length:=by simp only[QWp,QXi]
 have ey:Ez E cz y:=he y (by simp);have eX:∀x∈X,Ez E cz x:=fun x hx=>he x (by simp[hx])
 refine hC.csm.go (by simp) ?_;have e1:(IntKind.i64.wrap (((P.length+X.length:Nat):Int)-(P.length:Int))==1)=false:=by rw[QG];simp only[QXt,ne_eq];omega
 have e2:(IntKind.i64.wrap (((P.length+X.length+1:Nat):Int)-((P.length+X.length:Nat):Int))==1)=true:=by rw[QG];simp only[QVT];omega
 simp only[Fc,Ce,Cf,Cg,GE,BA,BB,BH,GF,GG,GH,GI,GJ,GK,GL,GM,GN,Yf,Yg,Yh,WB,WC,Kh,Ki,Tr,GV,e1,e2,Qa,seval];have h0:m=Am.put m lv s (.vec g cz (P++X++[y]++S)):=(Jm hl).symm;generalize hN:(P++X++[y]++S).length=N at *;refine Qd (SbS cz m lv s g N kc c P X S y) _ ⟨_,0,X.length,by rw[←h0]<;>rfl,rfl,QVV _,QVL _,(by intro k y hk;exact absurd hk (Nat.not_lt_zero _)),(by intro k y hk hy;rw[QXb hk]at hy;cases hy),by simp only[Qa,seval],by simp only[Qa,seval],by simp only[Qa,seval],by simp only[QWi,Qa,seval],by simp only[Qa,seval]⟩ ?_;clear h0 e1 e2;rintro k st ⟨f,i,j,rfl,rfl,hij,hj,hp,hq,f0,f2,f4,f14,f15⟩;simp only[Ch,Ci,GU,BC,BD,BE,BF,BG,BI,BJ,BK,GP,GQ,GR,GS,GT,f14,f15,Qa,seval];by_cases hlt:i<j
 ·have d0:decide (((P.length+i:Nat):Int)<((P.length+j:Nat):Int))=true:=by simp only[QVS];omega
  have e2:IntKind.i64.wrap (((P.length+i:Nat):Int)+((P.length+j:Nat):Int))=(((P.length+i)+(P.length+j):Nat):Int):=by rw[QG];omega
  have e3:=Ck (P.length+i) (P.length+j) (by omega);have e4:((P.length+i)+(P.length+j)) / 2=P.length+(i+j) / 2:=by omega
  rw[e4]at e3;generalize hh:(i+j) / 2=h at *;have hh1:h<j:=by omega
  have hh2:i≤h:=by omega
  have e5:IntKind.i64.wrap (((P.length+h:Nat):Int)+1)=((P.length+(h+1):Nat):Int):=by rw[QG];omega
  obtain⟨x,hx⟩:∃x,X[h]? = some x:=⟨_,QVO (by omega)⟩;have ex:=eX x (QV0 hx);have gx:(P++X++[y]++S)[P.length+h]? = some x:=by
   rw[QV8,QV8,QXd (by omega),QXc (by omega),←hx];congr 1;omega
  have gy:(P++X++[y]++S)[P.length+X.length]? = some y:=by
   have:=Uu (P:=P) (W:=X) (u:=y) (V:=S) (i:=P.length+X.length) rfl
   simpa only [QV8]using this
  simp only[d0,e2,e3,f0,f2,f4,f14,f15,KZ hlv (show P.length+h<N by omega),KZ hlv (show P.length+X.length<N by omega),KY hlv gy ey,KY hlv gx ex,Qa,seval];refine Wb (by simp only[Qa,seval]) (hc.call y x ey ex) (WU ey ex _) (KJ ey ex) rfl (.inl (KJ ey ex)) ?_;cases hcx:decide (c y x<0)with
  |true=>
   simp only[hcx,Qa,seval];exact⟨h-i,by omega,_,i,h,rfl,rfl,by omega,by omega,hp,fun k z hk hz=>by
    have:=KI hX hc.sw hk hx hz;cases hb:lt c y z with
    |true=>rfl
    |false=>exact absurd (hc.sw.nt y z x hb this) (by show ¬(decide _=false);rw[hcx];simp),by simp only[f0,Qa,seval],by simp only[f2,Qa,seval],by simp only[f4,Qa,seval],by simp only[f14,Qa,seval],by simp only[Qa,seval]⟩
  |false=>
   simp only[hcx,e5,Qa,seval];exact⟨j-(h+1),by omega,_,h+1,j,rfl,rfl,by omega,hj,fun k z hk hz=>hc.sw.nt y x z hcx (KI hX hc.sw (Nat.le_of_lt_succ hk) hz hx),hq,by simp only[f0,Qa,seval],by simp only[f2,Qa,seval],by simp only[f4,Qa,seval],by simp only[Qa,seval],by simp only[f15,Qa,seval]⟩
 ·have d0:decide (((P.length+i:Nat):Int)<((P.length+j:Nat):Int))=false:=by simp only[QXE];omega
  have hij':j=i:=by omega
  subst hij';simp only[d0,f2,Qa,seval];have hres:mg (lt c) X [y]=X.take j++y :: X.drop j:=by
   have:=YE (lt:=lt c) (y:=y) (X1:=X.take j) (X2:=X.drop j) (fun x hx=>by
    obtain⟨k,hk⟩:=QXR hx;rw[QWq]at hk;split at hk
    ·rename_i h;exact hp k x h hk
    ·cases hk) (fun x hx=>by
    obtain⟨k,hk⟩:=QXR hx;rw[QWr]at hk;exact hq _ x (by omega) hk)
   rwa [QW3]at this
  refine Qd (SbT cz m lv s g N j P X S y) _ ⟨_,X.length,by rw[show P++X.take X.length++[y]++X.drop X.length++S=P++X++[y]++S by simp]<;>rfl,rfl,hj,QVL _,by simp only[f0,Qa,seval],by simp only[f14,Qa,seval],by simp only[Qa,seval]⟩ ?_;clear f0 f2 f4 f14 f15 d0 hp hq f;rintro k st ⟨f,t,rfl,rfl,ht,htl,f0,f14,f17⟩;simp only[f14,f17,Qa,seval];by_cases hlt:j<t
  ·have d0:decide (((P.length+t:Nat):Int) > ((P.length+j:Nat):Int))=true:=by simp only[QVS];omega
   obtain⟨r,rfl⟩:∃r,t=r+1:=⟨t-1,by omega⟩;have e7:IntKind.i64.wrap (((P.length+(r+1):Nat):Int)-1)=((P.length+r:Nat):Int):=by rw[QG];omega
   obtain⟨x,hx⟩:∃x,X[r]? = some x:=⟨_,QVO (by omega)⟩;have ex:=eX x (QV0 hx);have hdrop:X.drop r=[x]++X.drop (r+1):=by
    rw[List.singleton_append,QWv (by omega)];congr 1
    exact(QVN.1 hx).2
   have htake:X.take (r+1)=X.take r++[x]:=by rw[QXv,hx]<;>rfl
   have hlt':(X.take r).length=r:=by rw[QWK];omega
   have g1:(P++X.take (r+1)++[y]++X.drop (r+1)++S)[P.length+r]? = some x:=by
    have:=Uu (P:=P) (W:=X.take r) (u:=x) (V:=[y]++X.drop (r+1)++S) (i:=P.length+r) (by rw[hlt']);rw[htake]
    simpa only [QV8]using this
   have g2:(P++X.take (r+1)++[y]++X.drop (r+1)++S)[P.length+(r+1)]? = some y:=by
    have:=Uu (P:=P) (W:=X.take (r+1)) (u:=y) (V:=X.drop (r+1)++S) (i:=P.length+(r+1)) (by rw[QWK];omega)
    simpa only [QV8]using this
   have g3:((P++X.take (r+1)++[y]++X.drop (r+1)++S).set (P.length+(r+1)) x)[P.length+r]? = some x:=by
    rw[QXH (by omega),g1]
   have hset:((P++X.take (r+1)++[y]++X.drop (r+1)++S).set (P.length+(r+1)) x).set (P.length+r) y=P++X.take r++[y]++X.drop r++S:=by
    rw[hdrop,htake];simp[hlt']
   simp only[d0,e7,f0,f17,KZ hlv (show P.length+(r+1)<N by omega),KZ hlv (show P.length+r<N by omega),KY hlv g1 ex,KY hlv g2 ey,ex.len,ey.len,ex.leaf,ey.leaf,Ut hlv g2 ey ex hcz,Ut hlv g3 ex ey hcz,Qa,seval];exact⟨r-j,by omega,_,r,by rw[hset]<;>rfl,rfl,by omega,by omega,by simp only[f0,Qa,seval],by simp only[f14,Qa,seval],by simp only[Qa,seval]⟩
  ·have d0:decide (((P.length+t:Nat):Int) > ((P.length+j:Nat):Int))=false:=by simp only[QXE];omega
   have htj:t=j:=by omega
   subst htj;have hfin:P++X.take t++[y]++X.drop t++S=P++mg (lt c) X [y]++S:=by rw[hres];simp
   simp only[d0,hfin,put_len,Qa,seval]

end Go.Proofs.YtipjfckmopekaaaGreatDoor.Tz

namespace Go.Proofs.YtipjfckmopekaaaGreatDoor.Tz
open Go Am Bt Tg So
variable {Pg:Program}{cz sr ro sm is st ss:Nat}(hC:Tg.Cs Pg cz sr ro sm is st ss)(hcz:cz≠0)

variable {E:AV→Prop}

include hC hcz in
theorem LX (cmp:AV){fr:Nat→Ob}{lv s g N a b n:Nat}(P X Y S:List AV){m:Qq}(hlv:lv<m.length)(hX:0<X.length)(hY:0<Y.length)(he:∀x∈P++X++Y++S,Ez E cz x)
  (hn:(P++X++Y++S).length<4611686018427387904) (hN:N=(P++X++Y++S).length) (ha:a=P.length) (hb:b=P.length+X.length) (hc:n=P.length+X.length+Y.length) :
  Qi Pg ro [.vec (lv+1) s g 0 N false,.int .i64 (a:Nat),.int .i64 (b:Nat),.int .i64 (n:Nat),cmp] (fr :: Am.put m lv s (.vec g cz (P++X++Y++S)))
   (fun x m1=>x=.tup []∧m1=fr :: Am.put m lv s (.vec g cz (P++Y++X++S))):=by
 have _:=hC;have _:=hcz;subst hN ha hb hc;refine(QQr hC hcz cmp (lv+1) s g P X Y S (fr :: Am.put m lv s (.vec g cz (P++X++Y++S))) (QA (m:=m) hlv) hX hY he hn).mono fun x m1 h=>⟨h.1,?_⟩
 rw[h.2];simp only[Am.put,Wi]

def UU (Pg:Program)(cz sm:Nat)(E:AV→Prop)(kc:Nat)(c:AV→AV→Int)(n:Nat):Prop :=
 ∀(lv s g:Nat) (P X Y S:List AV) (m:Qq),X.length+Y.length=n→0<X.length→0<Y.length→Am.Qg m lv s=.vec g cz (P++X++Y++S)→(∀x∈P++X++Y++S,Ez E cz x)→
  (P++X++Y++S).length<4611686018427387904→Zf (lt c) X→Zf (lt c) Y→
  Qi Pg sm [.vec lv s g 0 (P++X++Y++S).length false,.int .i64 (P.length:Nat),.int .i64 ((P.length+X.length:Nat):Int),.int .i64 ((P.length+X.length+Y.length:Nat):Int),.fn (.func kc) [] []] m
   (fun v m1=>v=.tup []∧m1=Am.put m lv s (.vec g cz (P++mg (lt c) X Y++S)))

include hC hcz in
theorem YG {kc:Nat}{c:AV→AV→Int}{n:Nat}(h:UU Pg cz sm E kc c n){fr:Nat→Ob}{lv s g N a b e:Nat}(P X Y S:List AV){m:Qq}(hlv:lv<m.length)(hXY:X.length+Y.length=n)(hX:0<X.length)(hY:0<Y.length)(he:∀x∈P++X++Y++S,Ez E cz x)
  (hn:(P++X++Y++S).length<4611686018427387904) (sX:Zf (lt c) X) (sY:Zf (lt c) Y) (hN:N=(P++X++Y++S).length) (ha:a=P.length) (hb:b=P.length+X.length) (hc:e=P.length+X.length+Y.length) :
  Qi Pg sm [.vec (lv+1) s g 0 N false,.int .i64 (a:Nat),.int .i64 (b:Nat),.int .i64 (e:Nat),.fn (.func kc) [] []] (fr :: Am.put m lv s (.vec g cz (P++X++Y++S)))
   (fun x m1=>x=.tup []∧m1=fr :: Am.put m lv s (.vec g cz (P++mg (lt c) X Y++S))):=by
 have _:=hC;have _:=hcz;subst hN ha hb hc;refine(h (lv+1) s g P X Y S (fr :: Am.put m lv s (.vec g cz (P++X++Y++S))) hXY hX hY (QA (m:=m) hlv) he hn sX sY).mono fun x m1 h=>⟨h.1,?_⟩
 rw[h.2];simp only[Am.put,Wi]

def ScS (cz:Nat)(m:Qq)(lv s g N mid s0 r0:Nat)(kc:Nat)(c:AV→AV→Int)(P X Y S:List AV)(k:Nat)(st:St):Prop :=
 ∃f i j,st=⟨f,[Qe]++Am.put m lv s (.vec g cz (P++X++Y++S)),[]⟩∧k=j-i∧s0≤i∧i≤j∧j≤r0∧
  (∀k x y,s0≤k→k<i→X[k-P.length]? = some x→Y[mid-1-k]? = some y→lt c y x=false)∧(∀k x y,j≤k→k<r0→X[k-P.length]? = some x→Y[mid-1-k]? = some y→lt c y x=true)∧
  f 0=.vec (lv+1) s g 0 N false∧f 1=.int .i64 (P.length:Nat)∧f 2=.int .i64 ((P.length+X.length:Nat):Int)∧f 3=.int .i64 ((P.length+X.length+Y.length:Nat):Int)∧f 4=.fn (.func kc) [] []∧
  f 18=.int .i64 (mid:Nat)∧f 19=.int .i64 ((mid+(P.length+X.length):Nat):Int)∧f 22=.int .i64 ((mid+(P.length+X.length)-1:Nat):Int)∧f 20=.int .i64 (i:Nat)∧f 21=.int .i64 (j:Nat)

theorem RF {c:AV→AV→Int}(hsw:SW (lt c)){X Y:List AV}{p mid t:Nat}{s0 r0:Nat}(sX:Zf (lt c) X)(sY:Zf (lt c) Y)(h1:s0≤t)(h2:t≤r0)(hp:p≤t)(htm:t≤mid)(hr:r0=mid∨r0=p+X.length)(hs:mid-s0≥Y.length∨s0=p)(hs2:mid-s0≤Y.length)(hr2:r0≤p+X.length)
  (hlow:∀k x y,s0≤k→k<t→X[k-p]? = some x→Y[mid-1-k]? = some y→lt c y x=false) (hhigh:∀k x y,t≤k→k<r0→X[k-p]? = some x→Y[mid-1-k]? = some y→lt c y x=true) :
  mg (lt c) X Y=mg (lt c) (X.take (t-p)) (Y.take (mid-t))++mg (lt c) (X.drop (t-p)) (Y.drop (mid-t)):=by
 have key:=Ww (lt:=lt c) _ (X.take (t-p)) (Y.take (mid-t)) (X.drop (t-p)) (Y.drop (mid-t)) rfl ?_ ?_
 ·rwa [QW3,QW3]at key
 ·intro y hy x hx;obtain⟨k,hk⟩:=QXR hy;obtain⟨l,hl⟩:=QXR hx;rw[QWq]at hk;split at hk
  ·rename_i hkt;rw[QWr]at hl;have hlX:t-p+l<X.length:=(QVN.1 hl).1;have hkY:k<Y.length:=(QVN.1 hk).1;have htr:t<r0:=by rcases hr with h|h<;>omega
   by_cases hY2:mid-1-t<Y.length
   ·obtain⟨x0,hx0⟩:∃x,X[t-p]? = some x:=⟨_,QVO (by omega)⟩;obtain⟨y0,hy0⟩:∃y,Y[mid-1-t]? = some y:=⟨_,QVO hY2⟩;have h0:=hhigh t x0 y0 (QVL _) htr hx0 hy0;have h3:=Kz hsw sY (show k≤mid-1-t by omega) hk hy0 h0;have h4:=KI sX hsw (show t-p≤t-p+l by omega) hx0 hl;cases hb:lt c y x with
    |true=>rfl
    |false=>
     have:=hsw.nt y x x0 hb h4;rw[h3]at this;cases this
   ·exfalso;omega
  ·cases hk
 ·intro x hx y hy;obtain⟨k,hk⟩:=QXR hy;obtain⟨l,hl⟩:=QXR hx;rw[QWq]at hl;split at hl
  ·rename_i hlt;rw[QWr]at hk;have hkY:mid-t+k<Y.length:=(QVN.1 hk).1;have hlX:l<X.length:=(QVN.1 hl).1;have hst:s0<t:=by rcases hs with h|h<;>omega
   by_cases hX2:t-1-p<X.length
   ·obtain⟨x0,hx0⟩:∃x,X[t-1-p]? = some x:=⟨_,QVO hX2⟩;obtain⟨y0,hy0⟩:∃y,Y[mid-1-(t-1)]? = some y:=⟨_,QVO (by omega)⟩;have h0:=hlow (t-1) x0 y0 (by omega) (by omega) hx0 hy0;have h3:=KI sX hsw (show l≤t-1-p by omega) hl hx0;have h4:lt c y x0=false:=by
     cases hb:lt c y x0 with
     |false=>rfl
     |true=>
      have:=Kz hsw sY (show mid-1-(t-1)≤mid-t+k by omega) hy0 hk hb;rw[h0]at this;cases this
    exact hsw.nt y x0 x h4 h3
   ·exfalso;omega
  ·cases hl

section
variable {kc:Nat}{c:AV→AV→Int}{nn lv s g N:Nat}{P X1 X2 Y1 Y2 S:List AV}{m:Qq}{f:Fr}

include hC hcz in
theorem QGC (ih:∀n,n<nn→UU Pg cz sm E kc c n)(hnn:X2.length+Y2.length<nn)(hlv:lv<m.length)(he:∀x∈P++X2++Y2++S,Ez E cz x)(hN:N=(P++X2++Y2++S).length)(hn:N<4611686018427387904)
  (sX:Zf (lt c) X2) (sY:Zf (lt c) Y2) (f0:f 0=.vec (lv+1) s g 0 N false) (f3:f 3=.int .i64 ((P.length+X2.length+Y2.length:Nat):Int)) (f4:f 4=.fn (.func kc) [] []) (f18:f 18=.int .i64 (P.length:Nat)) (f24:f 24=.int .i64 ((P.length+X2.length:Nat):Int)) :
  QH Pg (.seq (.reg (Kh cz sr ro sm is st)) (.cond (.t 213) (.reg (Ki cz sr ro sm is st)) (.skip))) ⟨f,Qe :: Am.put m lv s (.vec g cz (P++X2++Y2++S)),[]⟩
   (Zi GV m.length (fun v m1=>v=.tup []∧m1=Am.put m lv s (.vec g cz (P++mg (lt c) X2 Y2++S)))):=by
 have _:=hC;have _:=hcz;simp only[Kh,Ki,GV,f18,f24,Qa,seval];by_cases h1:0<X2.length
 ·have d1:decide ((P.length:Int)<((P.length+X2.length:Nat):Int))=true:=by simp only[QVS];omega
  by_cases h2:0<Y2.length
  ·have d2:decide (((P.length+X2.length:Nat):Int)<((P.length+X2.length+Y2.length:Nat):Int))=true:=by simp only[QVS];omega
   simp only[d1,d2,f0,f3,f4,f18,f24,Qa,seval];refine Qk (YG hC hcz (ih _ hnn) P X2 Y2 S hlv rfl h1 h2 he (by omega) sX sY hN rfl rfl rfl) rfl ?_;simp only[put_len,Qa,seval]
  ·have d2:decide (((P.length+X2.length:Nat):Int)<((P.length+X2.length+Y2.length:Nat):Int))=false:=by simp only[QXE];omega
   have hy:Y2=[]:=QWR (by omega);have hfin:P++X2++Y2++S=P++mg (lt c) X2 Y2++S:=by rw[hy,Jj];simp
   simp only[d1,d2,f3,f24,hfin,put_len,Qa,seval]
 ·have d1:decide ((P.length:Int)<((P.length+X2.length:Nat):Int))=false:=by simp only[QXE];omega
  have hx:X2=[]:=QWR (by omega);have hfin:P++X2++Y2++S=P++mg (lt c) X2 Y2++S:=by rw[hx,ZT];simp
  simp only[d1,hfin,put_len,Qa,seval]

include hC hcz in
theorem QGD (ih:∀n,n<nn→UU Pg cz sm E kc c n)(hn1:X1.length+Y1.length<nn)(hn2:X2.length+Y2.length<nn)(hlv:lv<m.length)(he:∀x∈P++X1++Y1++(X2++Y2++S),Ez E cz x)(hN:N=(P++X1++Y1++(X2++Y2++S)).length)(hn:N<4611686018427387904)
  (sX1:Zf (lt c) X1) (sY1:Zf (lt c) Y1) (sX:Zf (lt c) X2) (sY:Zf (lt c) Y2) (f0:f 0=.vec (lv+1) s g 0 N false) (f1:f 1=.int .i64 (P.length:Nat)) (f3:f 3=.int .i64 ((P.length+X1.length+Y1.length+X2.length+Y2.length:Nat):Int)) (f4:f 4=.fn (.func kc) [] []) (f18:f 18=.int .i64 ((P.length+X1.length+Y1.length:Nat):Int)) (f20:f 20=.int .i64 ((P.length+X1.length:Nat):Int)) (f24:f 24=.int .i64 ((P.length+X1.length+Y1.length+X2.length:Nat):Int)) :
  QH Pg (.seq (.seq (.reg (WB cz sr ro sm is st)) (.cond (.t 199) (.reg (WC cz sr ro sm is st)) (.skip))) (.seq (.reg (Kh cz sr ro sm is st)) (.cond (.t 213) (.reg (Ki cz sr ro sm is st)) (.skip)))) ⟨f,Qe :: Am.put m lv s (.vec g cz (P++X1++Y1++(X2++Y2++S))),[]⟩
   (Zi GV m.length (fun v m1=>v=.tup []∧m1=Am.put m lv s (.vec g cz (P++(mg (lt c) X1 Y1++mg (lt c) X2 Y2)++S)))):=by
 have _:=hC;have _:=hcz;have hlm:(mg (lt c) X1 Y1).length=X1.length+Y1.length:=QvN _ _ _ rfl;have hlen:N=P.length+X1.length+Y1.length+X2.length+Y2.length+S.length:=by rw[hN];simp only[QWp];omega
 have hem:∀x∈P++mg (lt c) X1 Y1++X2++Y2++S,Ez E cz x:=by
  intro x hx;refine he x ?_;simp only[QW5]at hx ⊢;rcases hx with(((hx|hx)|hx)|hx)|hx
  ·exact .inl (.inl (.inl hx))
  ·exact(QvO _ _ _ rfl hx).elim (fun h=>.inl (.inl (.inr h))) (fun h=>.inl (.inr h))
  ·exact .inr (.inl (.inl hx))
  ·exact .inr (.inl (.inr hx))
  ·exact .inr (.inr hx)
 have go:∀f:Fr,f 0=.vec (lv+1) s g 0 N false→f 3=.int .i64 ((P.length+X1.length+Y1.length+X2.length+Y2.length:Nat):Int)→f 4=.fn (.func kc) [] []→f 18=.int .i64 ((P.length+X1.length+Y1.length:Nat):Int)→f 24=.int .i64 ((P.length+X1.length+Y1.length+X2.length:Nat):Int)→
   QH Pg (.seq (.reg (Kh cz sr ro sm is st)) (.cond (.t 213) (.reg (Ki cz sr ro sm is st)) (.skip))) ⟨f,Qe :: Am.put m lv s (.vec g cz (P++mg (lt c) X1 Y1++(X2++Y2++S))),[]⟩
   (Zi GV m.length (fun v m1=>v=.tup []∧m1=Am.put m lv s (.vec g cz (P++(mg (lt c) X1 Y1++mg (lt c) X2 Y2)++S)))):=by
  intro f f0 f3 f4 f18 f24;have hpl:(P++mg (lt c) X1 Y1).length=P.length+X1.length+Y1.length:=by rw[QWp,hlm];omega
  have:=QGC hC hcz (P:=P++mg (lt c) X1 Y1) (X2:=X2) (Y2:=Y2) (S:=S) (m:=m) (f:=f) (g:=g) (s:=s) ih hn2 hlv hem (by rw[hlen];simp only[QWp,hlm];omega) hn sX sY f0 (by rw[hpl];exact f3) f4 (by rw[hpl];exact f18) (by rw[hpl];exact f24);rw[show P++mg (lt c) X1 Y1++(X2++Y2++S)=P++mg (lt c) X1 Y1++X2++Y2++S by simp only[QV8],show P++(mg (lt c) X1 Y1++mg (lt c) X2 Y2)++S=P++mg (lt c) X1 Y1++mg (lt c) X2 Y2++S by simp only[QV8]];exact this
 rw[Yt,Yt];simp only[WB,WC,f1,f20,Ys,J7,ZE,J6,J8,U6,Ub,Qs,QU,Q0,cond_true,cond_false,QWE,seval,Jb];by_cases h1:0<X1.length
 ·have d1:decide ((P.length:Int)<((P.length+X1.length:Nat):Int))=true:=by simp only[QVS];omega
  by_cases h2:0<Y1.length
  ·have d2:decide (((P.length+X1.length:Nat):Int)<((P.length+X1.length+Y1.length:Nat):Int))=true:=by simp only[QVS];omega
   simp only[d1,d2,f0,f1,f4,f18,f20,Ys,ZD,J5,J7,ZE,J6,J8,U6,Kt,Ub,DM,KF,Yu,Qs,QU,Q0,cond_true,cond_false,QWE,seval,Jb];refine Qk (YG hC hcz (ih _ hn1) P X1 Y1 (X2++Y2++S) hlv rfl h1 h2 he (by omega) sX1 sY1 hN rfl rfl rfl) rfl ?_;rw[J5,ZD];refine go _ ?_ ?_ ?_ ?_ ?_
   ·simp only[f0,Qa,seval]
   ·simp only[f3,Qa,seval]
   ·simp only[f4,Qa,seval]
   ·simp only[f18,Qa,seval]
   ·simp only[f24,Qa,seval]
  ·have d2:decide (((P.length+X1.length:Nat):Int)<((P.length+X1.length+Y1.length:Nat):Int))=false:=by simp only[QXE];omega
   have hy:Y1=[]:=QWR (by omega);have hres:mg (lt c) X1 Y1=X1++Y1:=by rw[hy,Jj,QWQ]
   rw[hres,←QV8 P X1 Y1]at go;simp only[d1,d2,hres,f18,f20,ZD,J5,J7,ZE,J6,J8,U6,Kt,Ub,DM,KF,Kr,W7,Qs,QU,Q0,cond_true,cond_false,QWE,seval,Jb];refine go _ ?_ ?_ ?_ ?_ ?_
   ·simp only[f0,Qa,seval]
   ·simp only[f3,Qa,seval]
   ·simp only[f4,Qa,seval]
   ·simp only[f18,Qa,seval]
   ·simp only[f24,Qa,seval]
 ·have d1:decide ((P.length:Int)<((P.length+X1.length:Nat):Int))=false:=by simp only[QXE];omega
  have hx:X1=[]:=QWR (by omega);have hres:mg (lt c) X1 Y1=X1++Y1:=by rw[hx,ZT,QWa]
  rw[hres,←QV8 P X1 Y1]at go;simp only[d1,hres,ZD,J5,J7,ZE,J6,J8,U6,WK,Ub,DM,KF,Kr,W7,Qs,cond_true,cond_false,QWE,seval,Jb];refine go _ ?_ ?_ ?_ ?_ ?_
  ·simp only[f0,Qa,seval]
  ·simp only[f3,Qa,seval]
  ·simp only[f4,Qa,seval]
  ·simp only[f18,Qa,seval]
  ·simp only[f24,Qa,seval]

include hC hcz in
theorem QGE (ih:∀n,n<nn→UU Pg cz sm E kc c n)(hn1:X1.length+Y1.length<nn)(hn2:X2.length+Y2.length<nn)(hlv:lv<m.length)(he:∀x∈P++X1++X2++Y1++(Y2++S),Ez E cz x)(hN:N=(P++X1++X2++Y1++(Y2++S)).length)(hn:N<4611686018427387904)
  (sX1:Zf (lt c) X1) (sY1:Zf (lt c) Y1) (sX:Zf (lt c) X2) (sY:Zf (lt c) Y2) (f0:f 0=.vec (lv+1) s g 0 N false) (f1:f 1=.int .i64 (P.length:Nat)) (f2:f 2=.int .i64 ((P.length+X1.length+X2.length:Nat):Int)) (f3:f 3=.int .i64 ((P.length+X1.length+Y1.length+X2.length+Y2.length:Nat):Int)) (f4:f 4=.fn (.func kc) [] []) (f18:f 18=.int .i64 ((P.length+X1.length+Y1.length:Nat):Int)) (f19:f 19=.int .i64 ((P.length+X1.length+Y1.length+(P.length+X1.length+X2.length):Nat):Int)) (f20:f 20=.int .i64 ((P.length+X1.length:Nat):Int)) :
  QH Pg (.seq (.reg (Yf cz sr ro sm is st)) (.seq (.seq (.reg (Yg cz sr ro sm is st)) (.cond (.t 185) (.reg (Yh cz sr ro sm is st)) (.skip))) (.seq (.seq (.reg (WB cz sr ro sm is st)) (.cond (.t 199) (.reg (WC cz sr ro sm is st)) (.skip))) (.seq (.reg (Kh cz sr ro sm is st)) (.cond (.t 213) (.reg (Ki cz sr ro sm is st)) (.skip)))))) ⟨f,Qe :: Am.put m lv s (.vec g cz (P++X1++X2++Y1++(Y2++S))),[]⟩
   (Zi GV m.length (fun v m1=>v=.tup []∧m1=Am.put m lv s (.vec g cz (P++(mg (lt c) X1 Y1++mg (lt c) X2 Y2)++S)))):=by
 have _:=hC;have _:=hcz;have hlen:N=P.length+X1.length+Y1.length+X2.length+Y2.length+S.length:=by rw[hN];simp only[QWp];omega
 have hem:∀x∈P++X1++Y1++(X2++Y2++S),Ez E cz x:=by
  intro x hx;refine he x ?_;simp only[QW5]at hx ⊢;rcases hx with((hx|hx)|hx)|((hx|hx)|hx)
  ·exact .inl (.inl (.inl (.inl hx)))
  ·exact .inl (.inl (.inl (.inr hx)))
  ·exact .inl (.inr hx)
  ·exact .inl (.inl (.inr hx))
  ·exact .inr (.inl hx)
  ·exact .inr (.inr hx)
 have go:∀f:Fr,f 0=.vec (lv+1) s g 0 N false→f 1=.int .i64 (P.length:Nat)→f 3=.int .i64 ((P.length+X1.length+Y1.length+X2.length+Y2.length:Nat):Int)→f 4=.fn (.func kc) [] []→f 18=.int .i64 ((P.length+X1.length+Y1.length:Nat):Int)→f 20=.int .i64 ((P.length+X1.length:Nat):Int)→f 24=.int .i64 ((P.length+X1.length+Y1.length+X2.length:Nat):Int)→_ :=
  fun f f0 f1 f3 f4 f18 f20 f24=>QGD hC hcz (P:=P) (X1:=X1) (Y1:=Y1) (X2:=X2) (Y2:=Y2) (S:=S) (m:=m) (f:=f) (g:=g) (s:=s) ih hn1 hn2 hlv hem (by rw[hlen];simp only[QWp];omega) hn sX1 sY1 sX sY f0 f1 f3 f4 f18 f20 f24
 have e1:IntKind.i64.wrap (((P.length+X1.length+Y1.length+(P.length+X1.length+X2.length):Nat):Int)-((P.length+X1.length:Nat):Int))=((P.length+X1.length+Y1.length+X2.length:Nat):Int):=by rw[QG];omega
 rw[Yt];simp only[Yf,e1,f19,f20,Ys,ZD,J5,J7,ZE,J6,J8,Ub,Qs,QU,Q0,cond_true,cond_false,QWE,seval,Jb];rw[Yt,Yt];simp only[Yg,f2,f20,Ys,J7,ZE,J6,J8,U6,Ub,Qs,QU,Q0,cond_true,cond_false,QWE,seval,Jb];by_cases h1:0<X2.length
 ·have d1:decide (((P.length+X1.length:Nat):Int)<((P.length+X1.length+X2.length:Nat):Int))=true:=by simp only[QVS];omega
  by_cases h2:0<Y1.length
  ·have d2:decide (((P.length+X1.length+X2.length:Nat):Int)<((P.length+X1.length+Y1.length+X2.length:Nat):Int))=true:=by simp only[QVS];omega
   simp only[Yh,d1,d2,f0,f2,f4,f20,Ys,ZD,J5,J7,ZE,J6,J8,U6,Kt,Ub,DM,KF,Yu,Qs,QU,Q0,cond_true,cond_false,QWE,seval,Jb];refine Qk (LX hC hcz (.fn (.func kc) [] []) (P++X1) X2 Y1 (Y2++S) (n:=P.length+X1.length+Y1.length+X2.length) hlv h1 h2 he (by omega) hN (by rw[QWp]) (by rw[QWp]) (by rw[QWp];omega)) rfl ?_;rw[J5,ZD];rw[show P++X1++Y1++X2++(Y2++S)=P++X1++Y1++(X2++Y2++S)by simp only[QV8]];refine go _ ?_ ?_ ?_ ?_ ?_ ?_ ?_
   ·simp only[f0,Qa,seval]
   ·simp only[f1,Qa,seval]
   ·simp only[f3,Qa,seval]
   ·simp only[f4,Qa,seval]
   ·simp only[f18,Qa,seval]
   ·simp only[f20,Qa,seval]
   ·simp only[Qa,seval]
  ·have d2:decide (((P.length+X1.length+X2.length:Nat):Int)<((P.length+X1.length+Y1.length+X2.length:Nat):Int))=false:=by simp only[QXE];omega
   have hy:Y1=[]:=QWR (by omega);have hrow:P++X1++X2++Y1++(Y2++S)=P++X1++Y1++(X2++Y2++S):=by rw[hy];simp
   simp only[d1,d2,hrow,f2,ZD,J5,J7,ZE,J6,J8,U6,Kt,Ub,DM,KF,Kr,W7,Qs,QU,Q0,cond_true,cond_false,QWE,seval,Jb];refine go _ ?_ ?_ ?_ ?_ ?_ ?_ ?_
   ·simp only[f0,Qa,seval]
   ·simp only[f1,Qa,seval]
   ·simp only[f3,Qa,seval]
   ·simp only[f4,Qa,seval]
   ·simp only[f18,Qa,seval]
   ·simp only[f20,Qa,seval]
   ·simp only[Qa,seval]
 ·have d1:decide (((P.length+X1.length:Nat):Int)<((P.length+X1.length+X2.length:Nat):Int))=false:=by simp only[QXE];omega
  have hx:X2=[]:=QWR (by omega);have hrow:P++X1++X2++Y1++(Y2++S)=P++X1++Y1++(X2++Y2++S):=by rw[hx];simp
  simp only[d1,hrow,ZD,J5,J7,ZE,J6,J8,U6,WK,Ub,DM,KF,Kr,W7,Qs,cond_true,cond_false,QWE,seval,Jb];refine go _ ?_ ?_ ?_ ?_ ?_ ?_ ?_
  ·simp only[f0,Qa,seval]
  ·simp only[f1,Qa,seval]
  ·simp only[f3,Qa,seval]
  ·simp only[f4,Qa,seval]
  ·simp only[f18,Qa,seval]
  ·simp only[f20,Qa,seval]
  ·simp only[Qa,seval]

end

set_option maxHeartbeats 1000000 in
include hC hcz in
theorem QQv {kc:Nat}{c:AV→AV→Int}(hc:Cp Pg cz E kc c)(nn:Nat)(ih:∀n,n<nn→UU Pg cz sm E kc c n)(lv s g:Nat)(P X Y S:List AV)(m:Qq)(hXY:X.length+Y.length=nn)(hX1:1<X.length)(hY1:1<Y.length)(hl:Am.Qg m lv s=.vec g cz (P++X++Y++S))(he:∀x∈P++X++Y++S,Ez E cz x)
  (hn:(P++X++Y++S).length<4611686018427387904) (sX:Zf (lt c) X) (sY:Zf (lt c) Y) :
  Qi Pg sm [.vec lv s g 0 (P++X++Y++S).length false,.int .i64 (P.length:Nat),.int .i64 ((P.length+X.length:Nat):Int),.int .i64 ((P.length+X.length+Y.length:Nat):Int),.fn (.func kc) [] []] m
   (fun v m1=>v=.tup []∧m1=Am.put m lv s (.vec g cz (P++mg (lt c) X Y++S))):=by
 have _:=hC;have _:=hcz;have hlv:lv<m.length:=QX (by rw[hl];simp);have hlen:(P++X++Y++S).length=P.length+X.length+Y.length+S.length:=by simp only[QWp]
 refine hC.csm.go (by simp) ?_;have e1:(IntKind.i64.wrap (((P.length+X.length:Nat):Int)-(P.length:Int))==1)=false:=by rw[QG];simp only[QXt,ne_eq];omega
 have e2:(IntKind.i64.wrap (((P.length+X.length+Y.length:Nat):Int)-((P.length+X.length:Nat):Int))==1)=false:=by rw[QG];simp only[QXt,ne_eq];omega
 have e3:IntKind.i64.wrap ((P.length:Int)+((P.length+X.length+Y.length:Nat):Int))=((P.length+(P.length+X.length+Y.length):Nat):Int):=by rw[QG];omega
 have e4:=Ck P.length (P.length+X.length+Y.length) (by omega);generalize hmid:(P.length+(P.length+X.length+Y.length)) / 2=mid at *;have e5:IntKind.i64.wrap ((mid:Int)+((P.length+X.length:Nat):Int))=((mid+(P.length+X.length):Nat):Int):=by rw[QG];omega
 have e6:IntKind.i64.wrap (((mid+(P.length+X.length):Nat):Int)-((P.length+X.length+Y.length:Nat):Int))=((mid+(P.length+X.length)-(P.length+X.length+Y.length):Nat):Int)∨mid<Y.length:=by
  by_cases h:mid<Y.length
  ·exact .inr h
  ·refine .inl ?_;rw[QG];omega
 have e7:IntKind.i64.wrap (((mid+(P.length+X.length):Nat):Int)-1)=((mid+(P.length+X.length)-1:Nat):Int):=by rw[QG];omega
 simp only[Tr,Fc,GE,GF,GG,GH,GI,GJ,GK,GL,GM,GN,e1,e2,e3,e4,e5,Qa,seval];have h0:m=Am.put m lv s (.vec g cz (P++X++Y++S)):=(Jm hl).symm;generalize hN:(P++X++Y++S).length=N at *
 -- the search, from whatever bounds
 have main:∀(Q:Exit→St→Prop) (f:Fr) (s0 r0:Nat),s0≤r0→r0≤mid→(r0=mid∨r0=P.length+X.length)→(mid-s0≥Y.length∨s0=P.length)→mid-s0≤Y.length→r0≤P.length+X.length→P.length≤s0→
   f 0=.vec (lv+1) s g 0 N false→f 1=.int .i64 (P.length:Nat)→f 2=.int .i64 ((P.length+X.length:Nat):Int)→f 3=.int .i64 ((P.length+X.length+Y.length:Nat):Int)→f 4=.fn (.func kc) [] []→
   f 18=.int .i64 (mid:Nat)→f 19=.int .i64 ((mid+(P.length+X.length):Nat):Int)→f 22=.int .i64 ((mid+(P.length+X.length)-1:Nat):Int)→f 20=.int .i64 (s0:Nat)→f 21=.int .i64 (r0:Nat)→
   (∀(f:Fr) (t:Nat),s0≤t→t≤r0→mg (lt c) X Y=mg (lt c) (X.take (t-P.length)) (Y.take (mid-t))++mg (lt c) (X.drop (t-P.length)) (Y.drop (mid-t))→
    f 0=.vec (lv+1) s g 0 N false→f 1=.int .i64 (P.length:Nat)→f 2=.int .i64 ((P.length+X.length:Nat):Int)→f 3=.int .i64 ((P.length+X.length+Y.length:Nat):Int)→f 4=.fn (.func kc) [] []→
    f 18=.int .i64 (mid:Nat)→f 19=.int .i64 ((mid+(P.length+X.length):Nat):Int)→f 20=.int .i64 (t:Nat)→Q (.exit 8) ⟨f,Qe :: Am.put m lv s (.vec g cz (P++X++Y++S)),[]⟩)→
   QH Pg (.loop (GU cz sr ro sm is st)) ⟨f,Qe :: m,[]⟩ Q:=by
  intro Q f s0 r0 hsr hrm hr hs hs2 hr2 hps f0 f1 f2 f3 f4 f18 f19 f22 f20 f21 hQ;refine Qd (ScS cz m lv s g N mid s0 r0 kc c P X Y S) _ ⟨_,s0,r0,by rw[←h0]<;>rfl,rfl,QVL _,hsr,QVL _,(by intro k x y h1 h2;omega),(by intro k x y h1 h2;omega),f0,f1,f2,f3,f4,f18,f19,f22,f20,f21⟩ ?_;clear f0 f1 f2 f3 f4 f18 f19 f22 f20 f21 f;rintro k st ⟨f,i,j,rfl,rfl,hsi,hij,hj,hp,hq,f0,f1,f2,f3,f4,f18,f19,f22,f20,f21⟩;simp only[GU,GP,GQ,GR,GS,GT,f20,f21,Qa,seval];by_cases hlt:i<j
  ·have d0:decide ((i:Int)<(j:Int))=true:=by simp only[QVS];omega
   have e8:IntKind.i64.wrap ((i:Int)+(j:Int))=((i+j:Nat):Int):=by rw[QG];omega
   have e9:=Ck i j (by omega);generalize hh:(i+j) / 2=h at *;have hh1:h<j:=by omega
   have hh2:i≤h:=by omega
   have ea:IntKind.i64.wrap ((h:Int)+1)=((h+1:Nat):Int):=by rw[QG];omega
   have eb:IntKind.i64.wrap (((mid+(P.length+X.length)-1:Nat):Int)-(h:Int))=((P.length+X.length+(mid-1-h):Nat):Int):=by rw[QG];omega
   obtain⟨x,hx⟩:∃x,X[h-P.length]? = some x:=⟨_,QVO (by omega)⟩;obtain⟨y,hy⟩:∃y,Y[mid-1-h]? = some y:=⟨_,QVO (by omega)⟩;have ex:Ez E cz x:=he x (by simp[QV0 hx]);have ey:Ez E cz y:=he y (by simp[QV0 hy]);have gx:(P++X++Y++S)[h]? = some x:=by
    rw[QV8,QV8,QXd (by omega),QXc (by omega),hx]
   have gy:(P++X++Y++S)[P.length+X.length+(mid-1-h)]? = some y:=by
    rw[QV8,QXd (by rw[QWp];omega),QXc (by rw[QWp];omega),←hy];congr 1;rw[QWp];omega
   simp only[d0,e8,e9,eb,f0,f4,f20,f21,f22,KZ hlv (show P.length+X.length+(mid-1-h)<N by omega),KZ hlv (show h<N by omega),KY hlv gy ey,KY hlv gx ex,Qa,seval];refine Wb (by simp only[Qa,seval]) (hc.call y x ey ex) (WU ey ex _) (KJ ey ex) rfl (.inl (KJ ey ex)) ?_;cases hcx:decide (c y x<0)with
   |true=>
    simp only[hcx,Qa,seval];have hq':∀k x' y',h≤k→k<r0→X[k-P.length]? = some x'→Y[mid-1-k]? = some y'→lt c y' x'=true:=by
     intro k x' y' hk hk2 hx' hy';have h3:=Kz hc.sw sY (show mid-1-k≤mid-1-h by omega) hy' hy hcx;have h4:=KI sX hc.sw (show h-P.length≤k-P.length by omega) hx hx';cases hb:lt c y' x' with
     |true=>rfl
     |false=>
      have:=hc.sw.nt y' x' x hb h4;rw[h3]at this;cases this
    exact⟨h-i,by omega,_,i,h,rfl,rfl,hsi,by omega,by omega,hp,hq',by simp only[f0,Qa,seval],by simp only[f1,Qa,seval],by simp only[f2,Qa,seval],by simp only[f3,Qa,seval],by simp only[f4,Qa,seval],by simp only[f18,Qa,seval],by simp only[f19,Qa,seval],by simp only[f22,Qa,seval],by simp only[f20,Qa,seval],by simp only[Qa,seval]⟩
   |false=>
    simp only[hcx,ea,Qa,seval];exact⟨j-(h+1),by omega,_,h+1,j,rfl,rfl,by omega,by omega,hj,fun k x' y' hk hk2 hx' hy'=>by
     have h3:=KI sX hc.sw (show k-P.length≤h-P.length by omega) hx' hx;have h4:lt c y' x=false:=by
      cases hb:lt c y' x with
      |false=>rfl
      |true=>exact absurd (Kz hc.sw sY (show mid-1-h≤mid-1-k by omega) hy hy' hb) (by show ¬(decide _=true);rw[hcx];simp)
     exact hc.sw.nt y' x x' h4 h3,hq,by simp only[f0,Qa,seval],by simp only[f1,Qa,seval],by simp only[f2,Qa,seval],by simp only[f3,Qa,seval],by simp only[f4,Qa,seval],by simp only[f18,Qa,seval],by simp only[f19,Qa,seval],by simp only[f22,Qa,seval],by simp only[Qa,seval],by simp only[f21,Qa,seval]⟩
  ·have d0:decide ((i:Int)<(j:Int))=false:=by simp only[QXE];omega
   have hij':j=i:=by omega
   subst hij';simp only[d0,Qa,seval];refine hQ _ j (by omega) (by omega) (RF hc.sw sX sY hsi hj (by omega) (by omega) hr hs hs2 hr2 hp hq) ?_ ?_ ?_ ?_ ?_ ?_ ?_ ?_
   ·simp only[f0,Qa,seval]
   ·simp only[f1,Qa,seval]
   ·simp only[f2,Qa,seval]
   ·simp only[f3,Qa,seval]
   ·simp only[f4,Qa,seval]
   ·simp only[f18,Qa,seval]
   ·simp only[f19,Qa,seval]
   ·simp only[f20,Qa,seval]
 have hb1:mid≤P.length+X.length+Y.length:=by omega
 have fin:∀(f:Fr) (t:Nat),P.length≤t→t≤mid→t≤P.length+X.length→mid-t≤Y.length→mg (lt c) X Y=mg (lt c) (X.take (t-P.length)) (Y.take (mid-t))++mg (lt c) (X.drop (t-P.length)) (Y.drop (mid-t))→
    f 0=.vec (lv+1) s g 0 N false→f 1=.int .i64 (P.length:Nat)→f 2=.int .i64 ((P.length+X.length:Nat):Int)→f 3=.int .i64 ((P.length+X.length+Y.length:Nat):Int)→f 4=.fn (.func kc) [] []→
    f 18=.int .i64 (mid:Nat)→f 19=.int .i64 ((mid+(P.length+X.length):Nat):Int)→f 20=.int .i64 (t:Nat)→
   QH Pg (.seq (.reg (Yf cz sr ro sm is st)) (.seq (.seq (.reg (Yg cz sr ro sm is st)) (.cond (.t 185) (.reg (Yh cz sr ro sm is st)) (.skip))) (.seq (.seq (.reg (WB cz sr ro sm is st)) (.cond (.t 199) (.reg (WC cz sr ro sm is st)) (.skip))) (.seq (.reg (Kh cz sr ro sm is st)) (.cond (.t 213) (.reg (Ki cz sr ro sm is st)) (.skip)))))) ⟨f,Qe :: Am.put m lv s (.vec g cz (P++X++Y++S)),[]⟩
   (Zi GV m.length (fun v m1=>v=.tup []∧m1=Am.put m lv s (.vec g cz (P++mg (lt c) X Y++S)))):=by
  intro f t h1 h2 h3 h4 hmg f0 f1 f2 f3 f4 f18 f19 f20;have l1:(X.take (t-P.length)).length=t-P.length:=by rw[QWK];omega
  have l2:(X.drop (t-P.length)).length=P.length+X.length-t:=by rw[QWs];omega
  have l3:(Y.take (mid-t)).length=mid-t:=by rw[QWK];omega
  have l4:(Y.drop (mid-t)).length=Y.length-(mid-t):=by rw[QWs]
  have hrow:P++X.take (t-P.length)++X.drop (t-P.length)++Y.take (mid-t)++(Y.drop (mid-t)++S)=P++X++Y++S:=by
   rw[QV8 P,QW3,←QV8 _ _ S,QV8 (P++X),QW3]
  have:=QGE hC hcz (kc:=kc) (c:=c) (nn:=nn) (lv:=lv) (s:=s) (g:=g) (N:=N) (P:=P) (X1:=X.take (t-P.length)) (X2:=X.drop (t-P.length)) (Y1:=Y.take (mid-t)) (Y2:=Y.drop (mid-t)) (S:=S) (m:=m) (f:=f) ih
   (by rw[l1,l3];omega) (by rw[l2,l4];omega) hlv (by rw[hrow];exact he) (by rw[hrow,hN]) hn
   (List.Pairwise.sublist (List.take_sublist _ _) sX) (List.Pairwise.sublist (List.take_sublist _ _) sY) (List.Pairwise.sublist (List.drop_sublist _ _) sX) (List.Pairwise.sublist (List.drop_sublist _ _) sY)
   f0 f1 (by rw[f2,l1,l2];congr 2;omega) (by rw[f3,l1,l2,l3,l4];congr 2;omega) f4 (by rw[f18,l1,l3];congr 2;omega) (by rw[f19,l1,l2,l3];congr 2;omega) (by rw[f20,l1];congr 2;omega)
  rw[hrow,←hmg]at this;exact this
 by_cases hgt:mid<P.length+X.length
 ·have d0:decide (((P.length+X.length:Nat):Int) > (mid:Int))=true:=by simp only[QVS];omega
  have hmy:Y.length≤mid:=by omega
  have e6':=e6.resolve_right (by omega);simp only[d0,e6',e7,Qa,seval];refine main _ _ (mid+(P.length+X.length)-(P.length+X.length+Y.length)) mid (by omega) (by omega) (.inl rfl) (.inl (by omega)) (by omega) (by omega) (by omega) ?_ ?_ ?_ ?_ ?_ ?_ ?_ ?_ ?_ ?_ ?_
  case refine_11=>
   intro f t h1 h2 hmg f0 f1 f2 f3 f4 f18 f19 f20;rw[H5,QWg rfl,ZD];exact fin f t (by omega) (by omega) (by omega) (by omega) hmg f0 f1 f2 f3 f4 f18 f19 f20
  all_goals simp only[Qa,seval]
 ·have d0:decide (((P.length+X.length:Nat):Int) > (mid:Int))=false:=by simp only[QXE];omega
  simp only[d0,e7,Qa,seval];refine main _ _ P.length (P.length+X.length) (by omega) (by omega) (.inr rfl) (.inr rfl) (by omega) (by omega) (by omega) ?_ ?_ ?_ ?_ ?_ ?_ ?_ ?_ ?_ ?_ ?_
  case refine_11=>
   intro f t h1 h2 hmg f0 f1 f2 f3 f4 f18 f19 f20;rw[H5,QWg rfl,ZD];exact fin f t (by omega) (by omega) (by omega) (by omega) hmg f0 f1 f2 f3 f4 f18 f19 f20
  all_goals simp only[Qa,seval]

include hC hcz in
theorem sym {kc:Nat}{c:AV→AV→Int}(hc:Cp Pg cz E kc c):∀n,UU Pg cz sm E kc c n:=by
 have _:=hC;have _:=hcz;intro n
 induction n using Nat.strongRecOn with
 |_ n ih=>
 intro lv s g P X Y S m hXY hX hY hl he hn sX sY;by_cases h1:X.length=1
 ·obtain⟨x,rfl⟩:=List.length_eq_one_iff.1 h1;exact QQt hC hcz hc lv s g P x Y S m hl he hn sY
 ·by_cases h2:Y.length=1
  ·obtain⟨y,rfl⟩:=List.length_eq_one_iff.1 h2;exact QQu hC hcz hc lv s g P X y S m hl he hn sX h1
  ·exact QQv hC hcz hc n ih lv s g P X Y S m hXY (by omega) (by omega) hl he hn sX sY

end Go.Proofs.YtipjfckmopekaaaGreatDoor.Tz

namespace Go.Proofs.YtipjfckmopekaaaGreatDoor.Tz
open Go Am Bt Tg So
variable {Pg:Program}{cz sr ro sm is st ss:Nat}(hC:Tg.Cs Pg cz sr ro sm is st ss)(hcz:cz≠0)

variable {E:AV→Prop}

include hC hcz in
theorem N7 {kc:Nat}{c:AV→AV→Int}(hc:Cp Pg cz E kc c){fr:Nat→Ob}{lv s g N a b:Nat}(P X S:List AV){m:Qq}(hlv:lv<m.length)(he:∀x∈P++X++S,Ez E cz x)
  (hn:(P++X++S).length<4611686018427387904) (hN:N=(P++X++S).length) (ha:a=P.length) (hb:b=P.length+X.length) :
  Qi Pg is [.vec (lv+1) s g 0 N false,.int .i64 (a:Nat),.int .i64 (b:Nat),.fn (.func kc) [] []] (fr :: Am.put m lv s (.vec g cz (P++X++S)))
   (fun x m1=>x=.tup []∧m1=fr :: Am.put m lv s (.vec g cz (P++QE (lt c) X++S))):=by
 have _:=hC;have _:=hcz;subst hN ha hb;refine(QQs hC hcz hc (lv+1) s g P X S (fr :: Am.put m lv s (.vec g cz (P++X++S))) (QA (m:=m) hlv) he hn).mono fun x m1 h=>⟨h.1,?_⟩
 rw[h.2];simp only[Am.put,Wi]

def St1 (cz:Nat)(m:Qq)(lv s g:Nat)(kc:Nat)(c:AV→AV→Int)(xs:List AV)(k:Nat)(st:St):Prop :=
 ∃f i,st=⟨f,[Qe]++Am.put m lv s (.vec g cz (Q7 (lt c) 20 i xs++xs.drop (20*i))),[]⟩∧k=xs.length-20*i∧20*i≤xs.length∧
  f 0=.vec (lv+1) s g 0 xs.length false∧f 1=.int .i64 (xs.length:Nat)∧f 2=.fn (.func kc) [] []∧f 6=.int .i64 20∧f 7=.int .i64 ((20*i:Nat):Int)∧f 8=.int .i64 ((20*(i+1):Nat):Int)

def St2 (cz:Nat)(m:Qq)(lv s g:Nat)(kc:Nat)(c:AV→AV→Int)(xs:List AV)(k:Nat)(st:St):Prop :=
 ∃f b n,st=⟨f,[Qe]++Am.put m lv s (.vec g cz (Q7 (lt c) b n xs)),[]⟩∧k=xs.length-b∧0<b∧b<2305843009213693952∧xs.length≤b*n∧
  f 0=.vec (lv+1) s g 0 xs.length false∧f 1=.int .i64 (xs.length:Nat)∧f 2=.fn (.func kc) [] []∧f 6=.int .i64 (b:Nat)

def St3 (cz:Nat)(m:Qq)(lv s g:Nat)(kc:Nat)(c:AV→AV→Int)(xs:List AV)(b:Nat)(k:Nat)(st:St):Prop :=
 ∃f i n,st=⟨f,[Qe]++Am.put m lv s (.vec g cz (Q7 (lt c) (2*b) i xs++Q7 (lt c) b n (xs.drop (2*b*i)))),[]⟩∧k=xs.length-2*b*i∧2*b*i≤xs.length∧xs.length-2*b*i≤b*n∧
  f 0=.vec (lv+1) s g 0 xs.length false∧f 1=.int .i64 (xs.length:Nat)∧f 2=.fn (.func kc) [] []∧f 6=.int .i64 (b:Nat)∧f 7=.int .i64 ((2*b*i:Nat):Int)∧f 8=.int .i64 ((2*b*(i+1):Nat):Int)

set_option maxHeartbeats 1000000 in
include hC hcz in
theorem QQw {kc:Nat}{c:AV→AV→Int}(hc:Cp Pg cz E kc c)(lv s g:Nat)(xs:List AV)(m:Qq)(hl:Am.Qg m lv s=.vec g cz xs)(he:∀x∈xs,Ez E cz x)
  (hn:xs.length<1152921504606846976) :
  Qi Pg st [.vec lv s g 0 xs.length false,.int .i64 (xs.length:Nat),.fn (.func kc) [] []] m
   (fun x m1=>x=.tup []∧m1=Am.put m lv s (.vec g cz (QE (lt c) xs))):=by
 have _:=hC;have _:=hcz;have hlv:lv<m.length:=QX (by rw[hl];simp);refine hC.cst.go (by simp) ?_;have h0:m=Am.put m lv s (.vec g cz xs):=(Jm hl).symm;simp only[rst,TD,TE,Qa,seval];refine Qd (St1 cz m lv s g kc c xs) _ ⟨_,0,by rw[show Q7 (lt c) 20 0 xs++xs.drop (20*0)=xs by simp[Q7],←h0]<;>rfl,rfl,by omega,by simp only[Qa,seval],by simp only[Qa,seval],by simp only[Qa,seval],by simp only[Qa,seval],by simp only[Qa,seval]<;>rfl,by simp only[Qa,seval]<;>rfl⟩ ?_;clear h0;rintro k st ⟨f,i,rfl,rfl,hi,f0,f1,f2,f6,f7,f8⟩;simp only[TJ,TF,f1,f8,Qa,seval];have hbl:(Q7 (lt c) 20 i xs).length=20*i:=by rw[UQ];omega
 by_cases hlt:20*(i+1)≤xs.length
 ·have d0:decide (((20*(i+1):Nat):Int)≤(xs.length:Int))=true:=by simp only[QVS];omega
  have e1:IntKind.i64.wrap (((20*(i+1):Nat):Int)+20)=((20*(i+1+1):Nat):Int):=by rw[QG];omega
  have hcut:Q7 (lt c) 20 i xs++xs.drop (20*i)=Q7 (lt c) 20 i xs++(xs.drop (20*i)).take 20++xs.drop (20*(i+1)):=by
   rw[QV8,show 20*(i+1)=20*i+20 by omega,←QWf,QW3]
  have hx1:((xs.drop (20*i)).take 20).length=20:=by rw[QWK,QWs];omega
  have hee:∀x∈Q7 (lt c) 20 i xs++(xs.drop (20*i)).take 20++xs.drop (20*(i+1)),Ez E cz x:=by
   intro x hx;refine he x ?_;rcases QW5.1 hx with hx|hx
   ·rcases QW5.1 hx with hx|hx
    ·exact Wf hx
    ·exact QWz (QWA hx)
   ·exact QWz hx
  have hNN:(Q7 (lt c) 20 i xs++(xs.drop (20*i)).take 20++xs.drop (20*(i+1))).length=xs.length:=by
   rw[QWp,QWp,hx1,hbl,QWs];omega
  simp only[d0,hcut,TG,f0,f2,f7,f8,Qa,seval];refine Qk (N7 hC hcz hc (a:=20*i) (b:=20*(i+1)) (Q7 (lt c) 20 i xs) ((xs.drop (20*i)).take 20) (xs.drop (20*(i+1))) hlv hee (by omega) hNN.symm hbl.symm (by rw[hbl,hx1];omega)) rfl ?_;simp only[TH,TI,e1,f6,f8,Qa,seval];exact⟨xs.length-20*(i+1),by omega,_,i+1,by rw[YF]<;>rfl,rfl,hlt,by simp only[f0,Qa,seval],by simp only[f1,Qa,seval],by simp only[f2,Qa,seval],by simp only[f6,Qa,seval],by simp only[Qa,seval],by simp only[Qa,seval]⟩
 ·have d0:decide (((20*(i+1):Nat):Int)≤(xs.length:Int))=false:=by simp only[QXE];omega
  have hee:∀x∈Q7 (lt c) 20 i xs++xs.drop (20*i)++[],Ez E cz x:=by
   intro x hx;refine he x ?_;rw[QWQ]at hx;rcases QW5.1 hx with hx|hx
   ·exact Wf hx
   ·exact QWz hx
  have hNN:(Q7 (lt c) 20 i xs++xs.drop (20*i)++[]).length=xs.length:=by
   rw[QWQ,QWp,hbl,QWs];omega
  have hic:=N7 hC hcz hc (fr:=Qe) (g:=g) (s:=s) (N:=xs.length) (a:=20*i) (b:=xs.length) (Q7 (lt c) 20 i xs) (xs.drop (20*i)) [] hlv hee (by omega) hNN.symm hbl.symm (by rw[hbl,QWs];omega);have hsn:Q7 (lt c) 20 i xs++QE (lt c) (xs.drop (20*i))=Q7 (lt c) 20 (i+1) xs:=by
   rw[YF,QWl (by rw[QWs];omega)]
  rw[QWQ,QWQ,hsn]at hic;simp only[d0,TK,f0,f1,f2,f7,Qa,seval];refine Qk hic rfl ?_;simp only[Qa,seval];refine Qd (St2 cz m lv s g kc c xs) _ ⟨_,20,i+1,rfl,rfl,by omega,by omega,by omega,by simp only[f0,Qa,seval],by simp only[f1,Qa,seval],by simp only[f2,Qa,seval],by simp only[f6,Qa,seval]<;>rfl⟩ ?_;clear f0 f1 f2 f6 f7 f8 hic hsn hNN hee d0 hlt hbl hi f i;rintro k st ⟨f,b,n,rfl,rfl,hb0,hb1,hbn,f0,f1,f2,f6⟩;simp only[TP,TL,f1,f6,Qa,seval];by_cases hlt:b<xs.length
  ·have d0:decide ((b:Int)<(xs.length:Int))=true:=by simp only[QVS];omega
   have e1:IntKind.i64.wrap (2*(b:Int))=((2*b:Nat):Int):=by rw[QG];omega
   have e1':IntKind.i64.wrap ((b:Int)*2)=((2*b:Nat):Int):=by rw[QG];omega
   simp only[d0,TM,e1,f6,Qa,seval];refine Qd (St3 cz m lv s g kc c xs b) _ ⟨_,0,n,by simp only[Q7,Nat.mul_zero,QWu,QWa]<;>rfl,rfl,by omega,by omega,by simp only[f0,Qa,seval],by simp only[f1,Qa,seval],by simp only[f2,Qa,seval],by simp only[f6,Qa,seval],by simp only[Qa,seval]<;>rfl,by simp only[QWt,Nat.mul_one,Qa,seval]⟩ ?_;clear f0 f1 f2 f6 f;rintro k st ⟨f,i,n',rfl,rfl,hi,hn',f0,f1,f2,f6,f7,f8⟩;have hA1:2*b*(i+1)=2*b*i+2*b:=Nat.mul_succ _ _;have hA2:2*b*(i+1+1)=2*b*i+2*b+2*b:=by rw[Nat.mul_succ,hA1]
   have hbl:(Q7 (lt c) (2*b) i xs).length=2*b*i:=by rw[UQ];omega
   have hsnoc:=YF (lt:=lt c) (2*b) i xs;rw[hA1]at f8;clear hbn;generalize hA:2*b*i=A at *;simp only[TO,TN,f1,f8,Qa,seval];generalize hL:xs.drop A=L at *;have hLl:L.length=xs.length-A:=by rw[←hL,QWs]
   have hLe:∀z∈L,Ez E cz z:=fun z hz=>he z (QWz (by rw[hL];exact hz))
   have hPe:∀z∈Q7 (lt c) (2*b) i xs,Ez E cz z:=fun z hz=>he z (Wf hz)
   have e2:IntKind.i64.wrap (((A:Nat):Int)+(b:Int))=((A+b:Nat):Int):=by rw[QG];omega
   -- Xc blocks and the rest
   have Xc:b<L.length→∃n'',n'=n''+2∧Q7 (lt c) b n' L=QE (lt c) (L.take b)++QE (lt c) ((L.drop b).take b)++Q7 (lt c) b n'' (L.drop (2*b))∧mg (lt c) (QE (lt c) (L.take b)) (QE (lt c) ((L.drop b).take b))=QE (lt c) (L.take (2*b)):=by
    intro h
    match n',hn' with
    |0,hn'=>omega
    |1,hn'=>omega
    |n''+2,_=>
     refine⟨n'',rfl,?_,?_⟩
     ·rw[Q7,Q7,QV8,QWf,show b+b=2*b by omega]
     ·rw[Wv hc.sw,Rx]
   by_cases hlt2:A+2*b≤xs.length
   ·have d1:decide (((A+2*b:Nat):Int)≤(xs.length:Int))=true:=by simp only[QVS];omega
    obtain⟨n'',rfl,hrow,hmg⟩:=Xc (by omega);have hn2:b*(n''+2)=b*n''+2*b:=by rw[Nat.mul_add,Nat.mul_comm b 2]
    rw[hn2]at hn';clear Xc;generalize hZ:b*n''=Z at *;have e3:IntKind.i64.wrap (((A+2*b:Nat):Int)+((2*b:Nat):Int))=((A+2*b+2*b:Nat):Int):=by
     rw[QG];omega
    have l1:(QE (lt c) (L.take b)).length=b:=by rw[Jk,QWK];omega
    have l2:(QE (lt c) ((L.drop b).take b)).length=b:=by rw[Jk,QWK,QWs];omega
    have l3:(Q7 (lt c) b n'' (L.drop (2*b))).length=L.length-2*b:=by
     rw[UQ,QWs,hZ];omega
    have hcut:Q7 (lt c) (2*b) i xs++Q7 (lt c) b (n''+2) L=Q7 (lt c) (2*b) i xs++QE (lt c) (L.take b)++QE (lt c) ((L.drop b).take b)++Q7 (lt c) b n'' (L.drop (2*b)):=by
     rw[hrow];simp only[QV8]
    have hee:∀x∈Q7 (lt c) (2*b) i xs++QE (lt c) (L.take b)++QE (lt c) ((L.drop b).take b)++Q7 (lt c) b n'' (L.drop (2*b)),Ez E cz x:=by
     rw[←hcut];intro x hx;rcases QW5.1 hx with hx|hx
     ·exact hPe x hx
     ·exact hLe x (Wf hx)
    have hNN:(Q7 (lt c) (2*b) i xs++QE (lt c) (L.take b)++QE (lt c) ((L.drop b).take b)++Q7 (lt c) b n'' (L.drop (2*b))).length=xs.length:=by
     rw[QWp,QWp,QWp,l1,l2,l3,hbl];omega
    simp only[d1,hcut,e2,Pq,f0,f2,f6,f7,f8,Qa,seval];refine Qk (YG hC hcz (sym hC hcz hc _) (a:=A) (b:=A+b) (e:=A+2*b) (Q7 (lt c) (2*b) i xs) (QE (lt c) (L.take b)) (QE (lt c) ((L.drop b).take b)) (Q7 (lt c) b n'' (L.drop (2*b))) hlv rfl (by omega) (by omega) hee (by omega) (Zr hc.sw _) (Zr hc.sw _) hNN.symm hbl.symm (by rw[hbl,l1]) (by rw[hbl,l1,l2];omega)) rfl ?_;simp only[Pr,Ps,e1,e3,f6,f8,Qa,seval];refine⟨xs.length-(A+2*b),by omega,_,i+1,n'',by rw[hsnoc,hmg,hA1,←QWf,hL]<;>rfl,by rw[hA1],by rw[hA1];exact hlt2,?_,by simp only[f0,Qa,seval],by simp only[f1,Qa,seval],by simp only[f2,Qa,seval],by simp only[f6,Qa,seval],by simp only[hA1,Qa,seval],by simp only[hA2,Qa,seval]⟩
    ·rw[hA1,hZ];omega
   ·have d1:decide (((A+2*b:Nat):Int)≤(xs.length:Int))=false:=by simp only[QXE];omega
    have hfin:Q7 (lt c) (2*b) i xs++QE (lt c) L=Q7 (lt c) (2*b) (i+1) xs:=by
     rw[hsnoc,QWl (by omega)]
    simp only[d1,e2,Pt,Pu,f1,f6,f7,Qa,seval];by_cases hm:A+b<xs.length
    ·have d2:decide (((A+b:Nat):Int)<(xs.length:Int))=true:=by simp only[QVS];omega
     obtain⟨n'',rfl,hrow,hmg⟩:=Xc (by omega);clear Xc hn';have hr0:L.drop (2*b)=[]:=QWo (by omega);have hr1:(L.drop b).take b=L.drop b:=QWl (by rw[QWs];omega);have hr2:L.take (2*b)=L:=QWl (by omega);rw[hr0,Dq,QWQ,hr1]at hrow;rw[hr1,hr2]at hmg;have l1:(QE (lt c) (L.take b)).length=b:=by rw[Jk,QWK];omega
     have l2:(QE (lt c) (L.drop b)).length=L.length-b:=by rw[Jk,QWs]
     have hee:∀x∈Q7 (lt c) (2*b) i xs++QE (lt c) (L.take b)++QE (lt c) (L.drop b)++[],Ez E cz x:=by
      intro x hx;rw[QWQ,QV8,←hrow]at hx;rcases QW5.1 hx with hx|hx
      ·exact hPe x hx
      ·exact hLe x (Wf hx)
     have hNN:(Q7 (lt c) (2*b) i xs++QE (lt c) (L.take b)++QE (lt c) (L.drop b)++[]).length=xs.length:=by
      rw[QWQ,QWp,QWp,l1,l2,hbl];omega
     have hsc:=YG hC hcz (sym hC hcz hc _) (fr:=Qe) (s:=s) (g:=g) (N:=xs.length) (a:=A) (b:=A+b) (e:=xs.length) (Q7 (lt c) (2*b) i xs) (QE (lt c) (L.take b)) (QE (lt c) (L.drop b)) [] hlv rfl (by omega) (by omega) hee (by omega) (Zr hc.sw _) (Zr hc.sw _) hNN.symm hbl.symm (by rw[hbl,l1]) (by rw[hbl,l1,l2];omega);rw[QWQ,QWQ,hmg,hfin,QV8,←hrow]at hsc;simp only[d2,Pv,f0,f1,f2,f7,Qa,seval];refine Qk hsc rfl ?_;simp only[BL,e1',f6,Qa,seval];exact⟨xs.length-2*b,by omega,_,2*b,i+1,rfl,rfl,by omega,by omega,by rw[hA1];omega,by simp only[f0,Qa,seval],by simp only[f1,Qa,seval],by simp only[f2,Qa,seval],by simp only[Qa,seval]⟩
    ·have d2:decide (((A+b:Nat):Int)<(xs.length:Int))=false:=by simp only[QXE];omega
     have hrow:Q7 (lt c) b n' L=QE (lt c) L:=N0 (by omega) (by omega);simp only[d2,hrow,hfin,BL,e1',f6,Qa,seval];exact⟨xs.length-2*b,by omega,_,2*b,i+1,rfl,rfl,by omega,by omega,by rw[hA1];omega,by simp only[f0,Qa,seval],by simp only[f1,Qa,seval],by simp only[f2,Qa,seval],by simp only[Qa,seval]⟩
  ·have d0:decide ((b:Int)<(xs.length:Int))=false:=by simp only[QXE];omega
   have hfin:Q7 (lt c) b n xs=QE (lt c) xs:=N0 (by omega) hbn;simp only[d0,hfin,put_len,ost,Qa,seval]

include hC hcz in
theorem RG {kc:Nat}{c:AV→AV→Int}(hc:Cp Pg cz E kc c)(lv s g:Nat)(xs:List AV)(m:Qq)(hl:Am.Qg m lv s=.vec g cz xs)(he:∀x∈xs,Ez E cz x)
  (hn:xs.length<1152921504606846976) :
  Qi Pg ss [.vec lv s g 0 xs.length false,.fn (.func kc) [] []] m
   (fun x m1=>x=.tup []∧m1=Am.put m lv s (.vec g cz (QE (lt c) xs))):=by
 have _:=hC;have _:=hcz;have hlv:lv<m.length:=QX (by rw[hl];simp);refine hC.css.go (by simp) ?_;have hl2:Am.Qg (Qe :: m) (lv+1) s=.vec g cz xs:=hl;simp only[TQ,rss,oss,hl2,Qa,seval];refine Qk ((QQw hC hcz hc (lv+1) s g xs (Qe :: m) hl he hn).mono fun x m1 h=>⟨h.1,h.2.trans rfl⟩) rfl ?_;simp only[Am.put,put_len,Qa,seval]

end Go.Proofs.YtipjfckmopekaaaGreatDoor.Tz

namespace Go.Proofs.YtipjfckmopekaaaGreatDoor.Tg
open Go Am

theorem QGF:Cs Tryz.prog 4 287 268 231 230 187 100 where
 csr:=ck Tryz.func287 Tryz.ntmps287 (by decide +kernel)
 cro:=ck Tryz.func268 Tryz.ntmps268 (by decide +kernel)
 csm:=ck Tryz.func231 Tryz.ntmps231 (by decide +kernel)
 cis:=ck Tryz.func230 Tryz.ntmps230 (by decide +kernel)
 cst:=ck Tryz.func187 Tryz.ntmps187 (by decide +kernel)
 css:=ck Tryz.func100 Tryz.ntmps100 (by decide +kernel)

theorem Qv2:Cs Tryz.prog 8 295 281 255 254 223 182 where
 csr:=ck Tryz.func295 Tryz.ntmps295 (by decide +kernel)
 cro:=ck Tryz.func281 Tryz.ntmps281 (by decide +kernel)
 csm:=ck Tryz.func255 Tryz.ntmps255 (by decide +kernel)
 cis:=ck Tryz.func254 Tryz.ntmps254 (by decide +kernel)
 cst:=ck Tryz.func223 Tryz.ntmps223 (by decide +kernel)
 css:=ck Tryz.func182 Tryz.ntmps182 (by decide +kernel)

theorem Qv3:Cs Tryz.prog 14 304 296 283 282 256 225 where
 csr:=ck Tryz.func304 Tryz.ntmps304 (by decide +kernel)
 cro:=ck Tryz.func296 Tryz.ntmps296 (by decide +kernel)
 csm:=ck Tryz.func283 Tryz.ntmps283 (by decide +kernel)
 cis:=ck Tryz.func282 Tryz.ntmps282 (by decide +kernel)
 cst:=ck Tryz.func256 Tryz.ntmps256 (by decide +kernel)
 css:=ck Tryz.func225 Tryz.ntmps225 (by decide +kernel)

end Go.Proofs.YtipjfckmopekaaaGreatDoor.Tg

namespace Go.Proofs.YtipjfckmopekaaaGreatDoor.Rc
open Go Am
abbrev QQx:IL:=[je 3 3 0,je 5 5 2,jh 6]
abbrev QQy:IL:=[jf 11 2 3,Mp 12 7 11,jz 13 12,ja 14 13,jv 15 1 14,yf 16 0 15 14,yk 17 16 300 14,jo 18 14 17,ja 19 18,yv 20 7 5 19,⟨some 21,.callR (.f 8) [(.t 20),(.c (.int .i64 500))],(some (19,false))⟩,ze 22 21 19,jo 23 19 22]
abbrev QQz:IL:=[zz 24 9,ja 6 24]
abbrev QQA:IL:=[jf 26 2 3,ja 27 1,jf 28 7 5,yd 29 10 26 27 28,ja 25 29,jx 30 25 0,jx 31 25 1,ja 7 30,ja 8 31]
abbrev QQB:IL:=[jf 33 2 3,ja 34 1,jf 35 7 5,yd 36 11 33 34 35,ja 32 36,jx 37 32 0,jx 38 32 1,ja 9 37,ja 10 38]
abbrev QQC:IL:=[ja 39 7,ja 40 9,Nx 41 39 40,ja 42 41,jg 43 8 42,jg 44 10 42,Mg 45 43 44 42,jj 46 42 45,ja 47 46,zt 48 0 3 2 3 47,jg 49 1 47,zt 50 0 5 7 5 47,FT 51 12 48 49 50 47,zt 52 0 3 2 3 47,jg 53 1 47,zt 54 0 5 7 5 47,FT 55 13 52 53 54 47,Mg 56 51 55 47,jj 57 47 56,ja 58 57,FU 59 9 58,jj 60 58 59,ja 6 60]
abbrev r3:RC:=jQ QQx (.seq (jQ QQy (.cond (.t 23) (jQ QQz (.ret)) (.skip))) (jQ QQA (jQ QQB (jD QQC (.ret)))))
abbrev o3:List RR:=[.tmp 6]
theorem k3:CT 3 61 r3 o3:=ck Tryz.func3 Tryz.ntmps3 (by decide +kernel)
abbrev QQD:IL:=[je 3 3 0,je 5 5 2,jh 6]
abbrev QQE:IL:=[jf 7 2 3,Mp 8 7 7,jz 9 8,ja 10 9,yv 11 7 5 10,⟨some 12,.callR (.f 8) [(.t 11),(.c (.int .i64 500))],(some (10,false))⟩,ze 13 12 10,jo 14 10 13,ja 15 14,yv 16 2 3 15,jv 17 1 15,yv 18 7 5 15,⟨some 19,.call (.f 14) [(.t 16),(.t 17),(.t 18)],(some (15,false))⟩,NE 20 19 0 15,jo 21 15 20]
abbrev QQF:IL:=[zz 22 9,ja 6 22]
abbrev QQG:IL:=[jw 23 0 3 2 3,ja 24 1,jw 25 0 5 7 5,yd 26 15 23 24 25,jw 27 0 3 2 3,ja 28 1,jw 29 0 5 7 5,yd 30 16 27 28 29,Nx 31 26 30,ja 32 31,FU 33 9 32,jj 34 32 33,ja 6 34]
abbrev r4:RC:=jQ QQD (.seq (jQ QQE (.cond (.t 21) (jQ QQF (.ret)) (.skip))) (jD QQG (.ret)))
abbrev o4:List RR:=[.tmp 6]
theorem k4:CT 4 35 r4 o4:=ck Tryz.func4 Tryz.ntmps4 (by decide +kernel)
abbrev QQH:IL:=[je 3 3 0,je 5 5 2,jh 6]
abbrev QQI:IL:=[jf 8 2 3,Mp 9 7 8,jz 10 9,ja 11 10,yv 12 7 5 11,⟨some 13,.callR (.f 8) [(.t 12),(.c (.int .i64 500))],(some (11,false))⟩,ze 14 13 11,jo 15 11 14,ja 16 15,yv 17 2 3 16,jv 18 1 16,yv 19 7 5 16,⟨some 20,.call (.f 17) [(.t 17),(.t 18),(.t 19)],(some (16,false))⟩,ze 21 20 16,jo 22 16 21]
abbrev QQJ:IL:=[zz 23 9,ja 6 23]
abbrev QQK:IL:=[jd 7 0]
abbrev QQL:IL:=[ja 24 7,jb 25 5 5,jc 26 25,ji 27 1 26,jn 28 24 27]
abbrev QQM:IL:=[jw 31 0 3 2 3,ja 32 1,jb 33 5 5,yb 34 0 5 33,ja 35 7,jk 36 8 34 35,ya 37 8 36,yd 38 19 31 32 37,jw 39 0 3 2 3,ja 40 1,jb 41 5 5,yb 42 0 5 41,ja 43 7,jk 44 8 42 43,ya 45 8 44,yd 46 20 39 40 45,jy 47 18 38 46,jz 48 47]
abbrev QQN:IL:=[jh 6]
abbrev QQO:IL:=[ja 29 7,jm 30 29 1,ja 7 30]
abbrev QQP:RC:=.seq (jQ QQL (jX 28 0)) (.seq (.block 1 (jD QQM (.cond (.t 48) (jQ QQN (.ret)) (.skip)))) (.reg QQO))
abbrev QQQ:IL:=[zz 49 9,ja 6 49]
abbrev r5:RC:=jQ QQH (.seq (jQ QQI (.cond (.t 22) (jQ QQJ (.ret)) (.skip))) (.seq (jQ QQK (.block 0 (.loop QQP))) (jQ QQQ (.ret))))
abbrev o5:List RR:=[.tmp 6]
theorem k5:CT 5 50 r5 o5:=ck Tryz.func5 Tryz.ntmps5 (by decide +kernel)
abbrev QQR:IL:=[je 3 3 0,je 5 5 2,jh 6]
abbrev QQS:IL:=[jf 9 2 3,Mp 10 7 9,jz 11 10,ja 12 11,jv 13 1 12,yf 14 0 13 12,yk 15 14 300 12,jo 16 12 15,ja 17 16,yv 18 7 5 17,⟨some 19,.callR (.f 8) [(.t 18),(.c (.int .i64 500))],(some (17,false))⟩,ze 20 19 17,jo 21 17 20]
abbrev QQT:IL:=[zz 22 9,ja 6 22]
abbrev QQU:IL:=[jf 24 2 3,ja 25 1,jf 26 7 5,yd 27 10 24 25 26,ja 23 27,jx 28 23 0,jx 29 23 1,ja 7 28,ja 8 29]
abbrev QQV:IL:=[ja 30 8,yg 31 30 0]
abbrev QQW:IL:=[ja 32 7,⟨some 33,.val (.bin .str .eql (.t 32) (.c (.str []))),none⟩,ja 34 33,zk 35 2 3 34,jg 36 1 34,zk 37 7 5 34,FT 38 12 35 36 37 34,ym 39 38 (-1) 34,jj 40 34 39,ja 41 40,FU 42 9 41,jj 43 41 42,ja 6 43]
abbrev QQX:IL:=[jf 44 2 3,ja 45 1,jf 46 7 5,yd 47 12 44 45 46,ja 48 7,ji 49 0 48,zm 50 47 49,ja 51 50,jg 52 7 51,yt 53 0 52 51,yy 54 53 65536 51,jj 55 51 54,ja 56 55,FU 57 9 56,jj 58 56 57,ja 6 58]
abbrev r6:RC:=jQ QQR (.seq (jQ QQS (.cond (.t 21) (jQ QQT (.ret)) (.skip))) (jQ QQU (.seq (jQ QQV (.cond (.t 31) (jQ QQW (.ret)) (.skip))) (jQ QQX (.ret)))))
abbrev o6:List RR:=[.tmp 6]
theorem k6:CT 6 59 r6 o6:=ck Tryz.func6 Tryz.ntmps6 (by decide +kernel)
abbrev QQY:IL:=[je 1 1 0,jh 2]
abbrev QQZ:IL:=[jf 3 2 1,Mp 4 21 3,ja 5 4,zk 6 2 1 5,zh 7 22 6 5,ym 8 7 0 5,jj 9 5 8,ja 2 9]
abbrev r7:RC:=jQ QQY (jQ QQZ (.ret))
abbrev o7:List RR:=[.tmp 2]
theorem k7:CT 7 10 r7 o7:=ck Tryz.func7 Tryz.ntmps7 (by decide +kernel)
abbrev QQ0:IL:=[je 2 2 0,jh 4]
abbrev QQ1:IL:=[jf 5 7 2,ja 6 1,⟨some 7,.callR (.f 23) [(.t 5),(.c (.int .i64 1)),(.t 6)],none⟩,yn 8 7 0,ja 4 8]
abbrev r8:RC:=jQ QQ0 (jQ QQ1 (.ret))
abbrev o8:List RR:=[.tmp 4]
theorem k8:CT 8 9 r8 o8:=ck Tryz.func8 Tryz.ntmps8 (by decide +kernel)
abbrev QGG:IL:=[je 3 3 0,je 5 5 2,yi 6,jd 7 0]
abbrev QGH:IL:=[jf 13 2 3,ja 14 1,jy 15 30 13 14,ja 12 15,jx 16 12 0,jx 17 12 1,ja 8 16,ja 9 17]
abbrev QGI:IL:=[ja 18 9,jz 19 18]
abbrev QGJ:IL:=[yi 6,jd 7 10]
abbrev QGK:IL:=[jf 20 2 3,ja 21 8,jf 22 7 5,yd 23 14 20 21 22,ja 10 23]
abbrev QGL:IL:=[ja 24 10,yg 25 24 0]
abbrev QGM:IL:=[ja 26 10,yi 6,ja 7 26]
abbrev QGN:IL:=[jf 27 2 3,ja 28 8,jf 29 7 5,yd 30 16 27 28 29,ja 11 30]
abbrev QGO:IL:=[ja 31 11,ji 32 0 31,yq 33 32 65536]
abbrev QGP:IL:=[yi 6,jd 7 3]
abbrev Qv4:IL:=[ja 34 11,ja 6 34,jd 7 0]
abbrev Z8:RC:=jQ QGG (jQ QGH (.seq (jQ QGI (.cond (.t 19) (jQ QGJ (.ret)) (.skip))) (jQ QGK (.seq (jQ QGL (.cond (.t 25) (jQ QGM (.ret)) (.skip))) (jQ QGN (.seq (jQ QGO (.cond (.t 33) (jQ QGP (.ret)) (.skip))) (jQ Qv4 (.ret))))))))
abbrev QGQ:IL:=[je 3 3 0,je 5 5 2,jd 6 0]
abbrev QGR:IL:=[jf 10 2 3,ja 11 1,jf 12 7 5,yd 13 11 10 11 12,ja 9 13,jx 14 9 0,jx 15 9 1,ja 7 14,ja 8 15]
abbrev QGS:IL:=[ja 16 8,yg 17 16 0]
abbrev QGT:IL:=[jd 6 (-1)]
abbrev QGU:IL:=[ja 18 7,ji 19 0 18,ja 6 19]
abbrev r13:RC:=jQ QGQ (jQ QGR (.seq (jQ QGS (.cond (.t 17) (jQ QGT (.ret)) (.skip))) (jQ QGU (.ret))))
abbrev QGV:IL:=[je 3 3 0,je 5 5 2,yi 6]
abbrev QGW:IL:=[ja 7 1,yo 8 7 0,ja 9 8,jv 10 1 9,jp 11 0 3 9,jt 12 11 9,yf 13 1 12 9,FQ 14 10 13 9,jo 15 9 14]
abbrev QGX:IL:=[yi 6]
abbrev QGY:IL:=[jw 16 0 3 2 3,ja 17 1,jw 18 0 3 2 3,ja 19 1,jw 20 0 5 7 5,yd 21 35 18 19 20,yd 22 34 16 17 21,jr 23 33 22,ja 6 23]
abbrev r16:RC:=jQ QGV (.seq (jQ QGW (.cond (.t 15) (jQ QGX (.ret)) (.skip))) (jD QGY (.ret)))
abbrev o16:List RR:=[.tmp 6]
theorem k16:CT 16 24 r16 o16:=ck Tryz.func16 Tryz.ntmps16 (by decide +kernel)
abbrev QGZ:IL:=[je 3 3 0,je 5 5 2,jh 6]
abbrev QG0:IL:=[jw 7 0 3 2 3,ja 8 1,jw 9 0 5 7 5,yd 10 14 7 8 9,jq 11 10 0,ja 12 11,zt 13 0 5 7 5 12,zt 14 0 3 2 3 12,jg 15 1 12,zt 16 0 5 7 5 12,FT 17 35 14 15 16 12,Gk 18 36 13 17 12,jj 19 12 18,ja 6 19]
abbrev BM:RC:=jQ QGZ (jD QG0 (.ret))
abbrev o17:List RR:=[.tmp 6]
theorem k17:CT 17 20 BM o17:=ck Tryz.func17 Tryz.ntmps17 (by decide +kernel)
abbrev QG1:IL:=[je 3 3 0,je 5 5 2,ye 6]
abbrev QG2:IL:=[ja 14 1,yo 15 14 0,ja 16 15,jv 17 1 16,jp 18 0 3 16,jt 19 18 16,yf 20 1 19 16,FQ 21 17 20 16,jo 22 16 21]
abbrev QG3:IL:=[ye 6]
abbrev QG4:IL:=[jb 24 0 3,yb 25 0 3 24,ja 26 1,jk 27 3 25 26,ya 28 3 27,jb 29 0 5,yb 30 0 5 29,jy 31 38 28 30,ja 23 31,jx 32 23 0,jx 33 23 1,zd 7 7,zp 0 7 8 7 32,ja 8 33]
abbrev QG5:IL:=[ja 34 8,jz 35 34]
abbrev QG6:IL:=[ye 6]
abbrev QG7:IL:=[ye 9]
abbrev QG8:IL:=[jb 47 3 7,jc 48 47,jq 49 48 5,ja 46 49]
abbrev QG9:IL:=[jd 10 0]
abbrev Qv6:IL:=[ja 50 10,jb 51 1 5,jb 52 4 51,jc 53 52,ji 54 1 53,jn 55 50 54]
abbrev Qv7:IL:=[jb 58 1 5,jb 59 4 58,jc 60 59,ja 61 10,jk 62 14 60 61,jb 63 0 62,jf 64 7 63,jr 65 39 64,zn 11 11,js 4 11 65]
abbrev Qv8:IL:=[jb 66 0 11,⟨none,.store 1 (.t 66) (.c (.int .i64 1)),none⟩]
abbrev Qv9:IL:=[jw 67 0 11 4 11,jw 68 0 3 2 3,jw 69 0 7 8 7,jb 70 1 5,jb 71 4 70,yb 72 0 5 71,ja 73 10,jk 74 14 72 73,jb 75 7 74,ya 76 7 75,⟨some 77,.call (.f 40) [(.t 68),(.t 69),(.c (.int .i64 2)),(.t 76)],none⟩,⟨some 78,.bsl 4 2 [.int .i64 0,.int .i64 0,.int .u64 0,.str []] [(0,4,(.t 67)),(4,4,(.t 77))],none⟩,ja 12 78]
abbrev Qwa:IL:=[ja 79 9,jb 80 0 5,yb 81 0 5 80,ja 82 12,jr 83 33 82,⟨some 84,.val (.build [.int .i64 0,.int .i64 0,.int .u64 0,.str []] [(0,1,(.t 81)),(1,1,(.c (.int .i64 6))),(3,1,(.t 83))]),none⟩,zw 85 4 1 0 4 84,yh 86 4 40 52 79 85,ja 9 86]
abbrev Qwb:IL:=[ja 56 10,jm 57 56 1,ja 10 57]
abbrev TR:RC:=.gho (.drop 11) (.seq (jQ Qv6 (jX 55 1)) (.seq (.block 2 (jQ Qv7 (jQ Qv8 (jD Qv9 (.draw Qwa))))) (.reg Qwb)))
abbrev Qwc:IL:=[jf 88 8 7,jr 89 41 88,ja 87 89]
abbrev Qwd:IL:=[ja 90 9,jb 91 0 5,yb 92 0 5 91,jb 93 1 5,jb 94 3 93,yb 95 0 5 94,jr 96 42 95,⟨some 97,.val (.build [.int .i64 0,.int .i64 0,.int .u64 0,.str []] [(0,1,(.t 92)),(1,1,(.c (.int .i64 5))),(3,1,(.t 96))]),none⟩,zw 98 4 1 0 4 97,yh 99 4 40 52 90 98,ja 9 99]
abbrev Qwe:IL:=[jb 101 3 7,jc 102 101,jq 103 102 4,ja 100 103]
abbrev Qwf:IL:=[jd 13 0]
abbrev Qwg:IL:=[ja 104 13,jb 105 1 5,jb 106 3 105,jc 107 106,ji 108 1 107,jn 109 104 108]
abbrev Qwh:IL:=[ja 112 9,jw 113 0 3 2 3,jw 114 0 7 8 7,jb 115 0 5,yb 116 0 5 115,jb 117 1 5,jb 118 3 117,yb 119 0 5 118,ja 120 13,jk 121 7 119 120,ya 122 7 121,zj 123 40 113 114 116 122,zw 124 4 1 0 4 123,yh 125 4 40 52 112 124,ja 9 125]
abbrev Qwi:IL:=[ja 110 13,jm 111 110 1,ja 13 111]
abbrev TS:RC:=.seq (jQ Qwg (jX 109 3)) (.seq (.block 4 (.draw Qwh)) (.reg Qwi))
abbrev QHa:IL:=[ja 36 9,jf 37 2 3,jf 38 8 7,jb 39 0 5,jc 40 39,jb 41 1 5,jf 42 7 41,zj 43 40 37 38 40 42,zw 44 4 1 0 4 43,yh 45 4 40 52 36 44,ja 9 45]
abbrev Qwj:IL:=[ja 126 9,ja 6 126]
abbrev r20:RC:=jQ QG1 (.seq (jQ QG2 (.cond (.t 22) (jQ QG3 (.ret)) (.skip))) (jD QG4 (.seq (jQ QG5 (.cond (.t 35) (jQ QG6 (.ret)) (.skip))) (jQ QG7 (.gho (.vec 9 9 4) (.seq (.block 0 (jQ QG8 (.cond (.t 46) (jQ QG9 (.block 1 (.loop TR))) (jQ Qwc (.cond (.t 87) (.draw Qwd) (jQ Qwe (.cond (.t 100) (jQ Qwf (.block 3 (.loop TS))) (.reg QHa)))))))) (jQ Qwj (.ret))))))))
abbrev o20:List RR:=[.tmp 6]
theorem k20:CT 20 127 r20 o20:=ck Tryz.func20 Tryz.ntmps20 (by decide +kernel)
abbrev QHb:IL:=[je 1 1 0,jh 2]
abbrev QHc:IL:=[jb 9 0 1,jc 10 9,ji 11 1 10,yq 12 11 60,ja 13 12,jp 14 1 1 13,jt 15 14 13,yf 16 1 15 13,yk 17 16 60 13,jo 18 13 17]
abbrev QHd:IL:=[jh 2]
abbrev QHe:IL:=[jd 3 400]
abbrev QHf:IL:=[jd 4 0]
abbrev QHg:IL:=[ja 19 4,jb 20 0 1,jc 21 20,ji 22 1 21,jn 23 19 22,ja 24 23,jg 25 3 24,U9 26 25 0 24,jj 27 24 26]
abbrev QHh:IL:=[ja 30 3,jb 31 0 1,jc 32 31,ja 33 4,jk 34 3 32 33,jb 35 1 34,jc 36 35,ji 37 1 36,zg 38 30 37,ja 3 38]
abbrev QHi:IL:=[ja 39 3,yo 40 39 0,ja 41 40,jp 42 0 1 41,jt 43 42 41,jv 44 4 41,yz 45 3 43 44 41,jp 46 0 45 41,jt 47 46 41,yf 48 0 47 41,yk 49 48 300 41,jo 50 41 49]
abbrev QHj:IL:=[jh 2]
abbrev Qwk:IL:=[jd 5 0]
abbrev Qwl:IL:=[ja 51 5,jb 52 0 1,jc 53 52,ja 54 4,jk 55 3 53 54,jb 56 1 55,jc 57 56,ji 58 1 57,jn 59 51 58]
abbrev Qwm:IL:=[jb 62 0 1,jc 63 62,ja 64 4,jk 65 3 63 64,jb 66 1 65,jc 67 66,ja 68 5,jk 69 8 67 68,jb 70 1 69,jc 71 70,ji 72 0 71,yq 73 72 300,ja 74 73,jp 75 0 1 74,jt 76 75 74,jv 77 4 74,yz 78 3 76 77 74,jp 79 1 78 74,jt 80 79 74,jv 81 5 74,yz 82 8 80 81 74,jp 83 2 82 74,jt 84 83 74,yf 85 0 84 74,yk 86 85 300 74,jo 87 74 86]
abbrev Qwn:IL:=[jh 2]
abbrev Qwo:IL:=[ja 60 5,jm 61 60 1,ja 5 61]
abbrev TT:RC:=.seq (jQ Qwl (jX 59 2)) (.seq (.block 3 (jQ Qwm (.cond (.t 87) (jQ Qwn (.ret)) (.skip)))) (.reg Qwo))
abbrev QHk:IL:=[ja 28 4,jm 29 28 1,ja 4 29]
abbrev TU:RC:=.seq (jQ QHg (jX 27 0)) (.seq (.block 1 (jQ QHh (.seq (jQ QHi (.cond (.t 50) (jQ QHj (.ret)) (.skip))) (jQ Qwk (.block 2 (.loop TT)))))) (.reg QHk))
abbrev Qwp:IL:=[jd 6 0]
abbrev Qwq:IL:=[ja 88 6,jb 89 1 1,jc 90 89,ji 91 1 90,jn 92 88 91,ja 93 92,jg 94 3 93,U9 95 94 0 93,jj 96 93 95]
abbrev Qwr:IL:=[jb 99 1 1,jc 100 99,ja 101 6,jk 102 5 100 101,jf 103 5 102,⟨some 7,.allocN 7 [.str [],.bool false,.nils,.nils,.nils],none⟩,js 5 7 103]
abbrev Qws:IL:=[jb 104 2 7,jc 105 104,ji 106 1 105,ja 107 3,FO 108 106 107,ja 109 108,jp 110 3 7 109,jt 111 110 109,yf 112 1 111 109,jv 113 3 109,⟨some 114,.val (.bin .num .gtr (.t 112) (.t 113)),(some (109,false))⟩,jo 115 109 114,ja 116 115,jp 117 0 7 116,jt 118 117 116,yf 119 0 118 116,yk 120 119 300 116,jo 121 116 120]
abbrev Qwt:IL:=[jh 2]
abbrev Qwu:IL:=[ja 122 3,jb 123 2 7,jc 124 123,ji 125 1 124,zg 126 122 125,jb 127 3 7,jc 128 127,ji 129 1 128,zg 130 126 129,ja 3 130]
abbrev Qwv:IL:=[jd 8 0]
abbrev Qww:IL:=[ja 131 8,jb 132 2 7,jc 133 132,ji 134 1 133,jn 135 131 134]
abbrev Qwx:IL:=[jb 138 2 7,jc 139 138,ja 140 8,jk 141 3 139 140,jb 142 0 141,jc 143 142,ji 144 0 143,yq 145 144 300,ja 146 145,jp 147 2 7 146,jt 148 147 146,jv 149 8 146,yz 150 3 148 149 146,jp 151 2 150 146,jt 152 151 146,yf 153 1 152 146,yk 154 153 1 146,jo 155 146 154,ja 156 155,jp 157 2 7 156,jt 158 157 156,jv 159 8 156,yz 160 3 158 159 156,jp 161 2 160 156,jt 162 161 156,yf 163 1 162 156,ys 164 163 1 156,jv 165 164 156,jl 166 2 7 165,ju 167 166 165,jg 168 8 165,yc 169 3 167 168 165,jl 170 2 169 165,ju 171 170 165,NB 172 8 171 0 165,jl 173 1 172 165,jl 174 2 173 165,ju 175 174 165,yt 176 0 175 165,Ny 177 176 300 165,yw 178 165 177 156,jo 179 156 178]
abbrev Qwy:IL:=[jh 2]
abbrev Qwz:IL:=[ja 136 8,jm 137 136 1,ja 8 137]
abbrev TV:RC:=.seq (jQ Qww (jX 135 6)) (.seq (.block 7 (jQ Qwx (.cond (.t 179) (jQ Qwy (.ret)) (.skip)))) (.reg Qwz))
abbrev QwA:IL:=[ja 97 6,jm 98 97 1,ja 6 98]
abbrev TW:RC:=.gho (.drop 7) (.seq (jQ Qwq (jX 96 4)) (.seq (.block 5 (jQ Qwr (.seq (jQ Qws (.cond (.t 121) (jQ Qwt (.ret)) (.skip))) (jQ Qwu (jQ Qwv (.block 6 (.loop TV))))))) (.reg QwA)))
abbrev QwB:IL:=[ja 180 3,yn 181 180 0,ja 2 181]
abbrev r21:RC:=jQ QHb (.seq (jQ QHc (.cond (.t 18) (jQ QHd (.ret)) (.skip))) (jQ QHe (.seq (jQ QHf (.block 0 (.loop TU))) (.seq (jQ Qwp (.block 4 (.loop TW))) (jQ QwB (.ret))))))
abbrev o21:List RR:=[.tmp 2]
theorem k21:CT 21 182 r21 o21:=ck Tryz.func21 Tryz.ntmps21 (by decide +kernel)
abbrev QHl:IL:=[je 3 3 0,jd 6 0]
abbrev QHm:IL:=[ja 11 2,za 12 11 1,ja 2 12]
abbrev QHn:IL:=[ja 13 1,yq 14 13 40,ja 15 14,jp 16 2 3 15,jt 17 16 15,yf 18 0 17 15,yk 19 18 5000 15,jo 20 15 19,ja 21 20,jp 22 6 3 21,jt 23 22 21,yf 24 1 23 21,jv 25 2 21,⟨some 26,.val (.bin .num .gtr (.t 24) (.t 25)),(some (21,false))⟩,jo 27 21 26]
abbrev QHo:IL:=[jd 6 (-1)]
abbrev QHp:IL:=[ja 28 2,jb 29 6 3,jc 30 29,ji 31 1 30,zg 32 28 31,ja 2 32]
abbrev QHq:IL:=[jd 7 0]
abbrev QHr:IL:=[ja 33 7,jb 34 6 3,jc 35 34,ji 36 1 35,jn 37 33 36]
abbrev QHs:IL:=[jb 40 6 3,jc 41 40,ja 42 7,jk 43 4 41 42,jb 44 3 43,jc 45 44,ji 46 0 45,yq 47 46 5000]
abbrev QHt:IL:=[jd 6 (-1)]
abbrev QHu:IL:=[ja 38 7,jm 39 38 1,ja 7 39]
abbrev QHv:RC:=.seq (jQ QHr (jX 37 0)) (.seq (.block 1 (jQ QHs (.cond (.t 47) (jQ QHt (.ret)) (.skip)))) (.reg QHu))
abbrev QwD:IL:=[jd 8 0]
abbrev QwE:IL:=[ja 48 8,jb 49 3 3,jc 50 49,ji 51 1 50,jn 52 48 51,ja 53 52,jg 54 2 53,U9 55 54 0 53,jj 56 53 55]
abbrev QwF:IL:=[jb 59 3 3,jc 60 59,ja 61 8,jk 62 7 60 61,jf 63 7 62,ja 64 1,jm 65 64 1,ja 66 2,⟨some 67,.callR (.f 23) [(.t 63),(.t 65),(.t 66)],none⟩,ja 2 67]
abbrev QwG:IL:=[ja 57 8,jm 58 57 1,ja 8 58]
abbrev TX:RC:=.seq (jQ QwE (jX 56 2)) (.seq (.block 3 (.reg QwF)) (.reg QwG))
abbrev QwH:IL:=[jd 9 0]
abbrev QwI:IL:=[ja 68 9,jb 69 4 3,jc 70 69,ji 71 1 70,jn 72 68 71,ja 73 72,jg 74 2 73,U9 75 74 0 73,jj 76 73 75]
abbrev QwJ:IL:=[jb 79 4 3,jc 80 79,ja 81 9,jk 82 14 80 81,jb 83 0 82,jf 84 7 83,ja 85 1,jm 86 85 1,ja 87 2,⟨some 88,.callR (.f 23) [(.t 84),(.t 86),(.t 87)],none⟩,ja 2 88]
abbrev QwK:IL:=[ja 89 2,yn 90 89 0]
abbrev QwL:IL:=[jb 91 4 3,jc 92 91,ja 93 9,jk 94 14 92 93,jb 95 7 94,jf 96 7 95,ja 97 1,jm 98 97 1,ja 99 2,⟨some 100,.callR (.f 23) [(.t 96),(.t 98),(.t 99)],none⟩,ja 2 100]
abbrev QwM:IL:=[ja 77 9,jm 78 77 1,ja 9 78]
abbrev TY:RC:=.seq (jQ QwI (jX 76 4)) (.seq (.block 5 (jQ QwJ (jQ QwK (.cond (.t 90) (.reg QwL) (.skip))))) (.reg QwM))
abbrev QwN:IL:=[jd 10 0]
abbrev QwO:IL:=[ja 101 10,jb 102 5 3,jc 103 102,ji 104 1 103,jn 105 101 104,ja 106 105,jg 107 2 106,U9 108 107 0 106,jj 109 106 108]
abbrev QwP:IL:=[jb 112 5 3,jc 113 112,ja 114 10,jk 115 8 113 114,jb 116 1 115,jf 117 7 116,ja 118 1,jm 119 118 1,ja 120 2,⟨some 121,.callR (.f 23) [(.t 117),(.t 119),(.t 120)],none⟩,ja 2 121]
abbrev QwQ:IL:=[ja 110 10,jm 111 110 1,ja 10 111]
abbrev TZ:RC:=.seq (jQ QwO (jX 109 6)) (.seq (.block 7 (.reg QwP)) (.reg QwQ))
abbrev QwR:IL:=[ja 122 2,ja 6 122]
abbrev r23:RC:=jQ QHl (jQ QHm (.seq (jQ QHn (.cond (.t 27) (jQ QHo (.ret)) (.skip))) (jQ QHp (.seq (jQ QHq (.block 0 (.loop QHv))) (.seq (jQ QwD (.block 2 (.loop TX))) (.seq (jQ QwH (.block 4 (.loop TY))) (.seq (jQ QwN (.block 6 (.loop TZ))) (jQ QwR (.ret)))))))))
abbrev o23:List RR:=[.tmp 6]
theorem k23:CT 23 123 r23 o23:=ck Tryz.func23 Tryz.ntmps23 (by decide +kernel)
abbrev QHw:IL:=[je 3 3 0,je 5 5 2,ye 6]
abbrev QHx:IL:=[ye 7]
abbrev QHy:IL:=[jd 8 0]
abbrev QHz:IL:=[jd 9 0]
abbrev QHA:IL:=[ja 10 9,jb 11 5 5,jc 12 11,ji 13 1 12,jn 14 10 13]
abbrev QHB:IL:=[ja 17 8,jb 18 6 5,yb 19 0 5 18,ji 20 1 19,jn 21 17 20,ja 22 21,jl 23 6 5 22,zb 24 0 5 23 22,jg 25 8 22,yc 26 4 24 25 22,jl 27 0 26 22,yp 28 27 22,jl 29 5 5 22,zb 30 0 5 29 22,jg 31 9 22,yc 32 8 30 31 22,jl 33 0 32 22,yp 34 33 22,zu 35 28 34 22,jj 36 22 35]
abbrev QHC:IL:=[ja 37 7,jb 38 6 5,jc 39 38,ja 40 8,jk 41 4 39 40,jf 42 4 41,zw 43 4 1 0 4 42,yh 44 4 40 52 37 43,ja 7 44]
abbrev QHD:IL:=[ja 45 8,jm 46 45 1,ja 8 46]
abbrev T0:RC:=.seq (jD QHB (jX 36 2)) (.block 3 (jQ QHC (.reg QHD)))
abbrev QHE:IL:=[ja 47 7,jw 48 0 3 2 3,ja 49 1,jb 50 5 5,yb 51 0 5 50,ja 52 9,jk 53 8 51 52,ya 54 8 53,yd 55 20 48 49 54,yh 56 4 40 52 47 55,ja 7 56]
abbrev QHF:IL:=[ja 15 9,jm 16 15 1,ja 9 16]
abbrev QHG:RC:=.seq (jQ QHA (jX 14 0)) (.seq (.block 1 (.seq (.block 2 (.loop T0)) (.draw QHE))) (.reg QHF))
abbrev QwS:IL:=[ja 57 8,jb 58 6 5,jc 59 58,ji 60 1 59,jn 61 57 60]
abbrev QwT:IL:=[ja 62 7,jb 63 6 5,jc 64 63,ja 65 8,jk 66 4 64 65,jf 67 4 66,zw 68 4 1 0 4 67,yh 69 4 40 52 62 68,ja 7 69]
abbrev QwU:IL:=[ja 70 8,jm 71 70 1,ja 8 71]
abbrev T1:RC:=.seq (jQ QwS (jX 61 4)) (.block 5 (jQ QwT (.reg QwU)))
abbrev QwV:IL:=[ja 72 7,ja 6 72]
abbrev r34:RC:=jQ QHw (jQ QHx (.gho (.vec 7 7 4) (jQ QHy (.seq (jQ QHz (.block 0 (.loop QHG))) (.seq (.block 4 (.loop T1)) (jQ QwV (.ret)))))))
abbrev o34:List RR:=[.tmp 6]
theorem k34:CT 34 73 r34 o34:=ck Tryz.func34 Tryz.ntmps34 (by decide +kernel)
abbrev QHH:IL:=[je 1 1 0,zn 2 2]
abbrev QHI:IL:=[jb 3 0 1,jc 4 3]
abbrev QHJ:IL:=[jq 6 4 1,ja 5 6]
abbrev QHK:IL:=[jq 7 4 4,ja 5 7]
abbrev QHL:IL:=[jq 8 4 5,ja 5 8]
abbrev QHM:IL:=[jq 9 4 9,ja 5 9]
abbrev QHN:IL:=[jb 10 1 1,jc 11 10,⟨some 12,.val (.build [.int .i64 0,.int .i64 0,.int .u64 0,.str []] [(1,1,(.c (.int .i64 0))),(2,1,(.t 11))]),none⟩,js 4 2 12]
abbrev QHO:IL:=[jq 14 4 2,ja 13 14]
abbrev QHP:IL:=[jq 15 4 3,ja 13 15]
abbrev QHQ:IL:=[jb 16 1 1,jc 17 16,Nw 18 17,jr 19 74 18,⟨some 20,.val (.build [.int .i64 0,.int .i64 0,.int .u64 0,.str []] [(1,1,(.c (.int .i64 1))),(2,1,(.t 19))]),none⟩,js 4 2 20]
abbrev QwW:IL:=[jq 22 4 6,ja 21 22]
abbrev QwX:IL:=[jf 23 7 1,jr 24 75 23,⟨some 25,.val (.fld 1 none (.t 24)),none⟩,⟨some 26,.val (.build [.int .i64 0,.int .i64 0,.int .u64 0,.str []] [(1,1,(.c (.int .i64 2))),(2,1,(.t 25))]),none⟩,js 4 2 26]
abbrev QwY:IL:=[jq 28 4 7,ja 27 28]
abbrev QwZ:IL:=[jq 29 4 8,ja 27 29]
abbrev Qw0:IL:=[jb 30 2 1,jc 31 30,⟨some 32,.val (.build [.int .i64 0,.int .i64 0,.int .u64 0,.str []] [(1,1,(.c (.int .i64 3))),(3,1,(.t 31))]),none⟩,js 4 2 32]
abbrev Qw1:IL:=[⟨some 33,.val (.build [.int .i64 0,.int .i64 0,.int .u64 0,.str []] []),none⟩,js 4 2 33]
abbrev r39:RC:=jQ QHH (.seq (jQ QHI (.block 0 (.seq (jQ QHJ (.cond (.t 5) (.skip) (jQ QHK (.cond (.t 5) (.skip) (jQ QHL (.cond (.t 5) (.skip) (.reg QHM))))))) (.cond (.t 5) (jQ QHN (.ret)) (.seq (jQ QHO (.cond (.t 13) (.skip) (.reg QHP))) (.cond (.t 13) (jQ QHQ (.ret)) (jQ QwW (.cond (.t 21) (jQ QwX (.ret)) (.seq (jQ QwY (.cond (.t 27) (.skip) (.reg QwZ))) (.cond (.t 27) (jQ Qw0 (.ret)) (.skip))))))))))) (jQ Qw1 (.ret)))
abbrev o39:List RR:=[.cell 2 (some 4)]
theorem k39:CT 39 34 r39 o39:=ck Tryz.func39 Tryz.ntmps39 (by decide +kernel)
abbrev QHR:IL:=[je 4 4 0,je 5 5 1,je 7 7 3,zn 8 8]
abbrev QHS:IL:=[jf 10 7 7,jr 11 39 10,zn 9 9,js 4 9 11]
abbrev QHT:IL:=[jb 12 5 5,jc 13 12,jq 14 13 10]
abbrev QHU:IL:=[jf 15 2 4,jb 16 6 5,jc 17 16,jf 18 7 7,yd 19 16 15 17 18,⟨some 20,.val (.build [.int .i64 0,.int .i64 0,.int .u64 0,.str []] [(1,1,(.c (.int .i64 4))),(3,1,(.t 19))]),none⟩,js 4 9 20]
abbrev QHV:IL:=[ja 21 2,jb 22 0 9,js 1 22 21]
abbrev QHW:IL:=[jf 23 4 9,js 4 8 23]
abbrev r40:RC:=jQ QHR (jQ QHS (.seq (jQ QHT (.cond (.t 14) (.reg QHU) (.skip))) (jQ QHV (jQ QHW (.ret)))))
abbrev o40:List RR:=[.cell 8 (some 4)]
theorem k40:CT 40 24 r40 o40:=ck Tryz.func40 Tryz.ntmps40 (by decide +kernel)
abbrev QHX:IL:=[yi 2]
abbrev QHY:IL:=[yi 3]
abbrev QHZ:IL:=[jd 4 0]
abbrev QH0:IL:=[ja 6 4,ja 7 0,ji 8 1 7,jn 9 6 8]
abbrev QH1:IL:=[ja 12 0,ja 13 4,jk 14 7 12 13,jf 15 7 14,jr 16 39 15,zn 5 5,js 4 5 16]
abbrev QH2:IL:=[ja 17 4,jq 18 17 0]
abbrev QH3:IL:=[jb 19 1 5,jc 20 19,DO 21 20,NG 22 1 1 0 1 21,NH 23 22,ja 3 23]
abbrev QH4:IL:=[jb 24 1 5,jc 25 24,jq 26 25 2]
abbrev QH5:IL:=[ja 27 3,jb 28 2 5,jc 29 28,jr 30 66 29,DQ 31 27 30,ja 3 31]
abbrev Qw2:IL:=[ja 32 3,jb 33 2 5,jc 34 33,jr 35 68 34,DQ 36 32 35,ja 3 36]
abbrev QH6:IL:=[ja 10 4,jm 11 10 1,ja 4 11]
abbrev QH7:RC:=.gho (.drop 5) (.seq (jQ QH0 (jX 9 0)) (.seq (.block 1 (jQ QH1 (.seq (jQ QH2 (.cond (.t 18) (.reg QH3) (.skip))) (jQ QH4 (.cond (.t 26) (.reg QH5) (.reg Qw2)))))) (.reg QH6)))
abbrev Qw3:IL:=[ja 37 3,ja 2 37]
abbrev r42:RC:=jQ QHX (jQ QHY (.seq (jQ QHZ (.block 0 (.loop QH7))) (jQ Qw3 (.ret))))
abbrev o42:List RR:=[.tmp 2]
theorem k42:CT 42 38 r42 o42:=ck Tryz.func42 Tryz.ntmps42 (by decide +kernel)
end Go.Proofs.YtipjfckmopekaaaGreatDoor.Rc

namespace Go.Proofs.YtipjfckmopekaaaGreatDoor.Va
open Go Am Rc Bt Br Up So

section
variable {α β:Type}{lt:β→β→Bool}{lt':α→α→Bool}{F:α→β}(h:∀x y,lt (F x) (F y)=lt' x y)
include h
theorem BN (a:α):∀l:List α,Zw lt (F a) (l.map F)=(Zw lt' a l).map F
 | []=>rfl
 |x :: l=>by
  rw[QWj,Zw,Zw,h x a];cases lt' x a
  ·rfl
  ·show F x :: Zw lt (F a) (l.map F)=_;rw[BN a l];rfl
theorem Wc:∀l:List α,QE lt (l.map F)=(QE lt' l).map F
 | []=>rfl
 |a :: l=>by
  rw[QWj,QE,Wc l,BN h a];rfl
end
theorem BO {α β:Type}{lt:β→β→Bool}(h:SW lt)(f:α→β):SW fun x y=>lt (f x) (f y) where
 irr _:=h.irr _
 tr _ _ _:=h.tr _ _ _
 nt _ _ _:=h.nt _ _ _
theorem Qw5:SW fun a b:Int=>decide (a<b) where
 irr x:=by simp
 tr x y z h k:=by simp only[QVS]at *;omega
 nt x y z h k:=by simp only[QXE]at *;omega
theorem Fd (a b:Int):decide (cN a b<0)=decide (a<b):=by
 unfold cN;split
 ·rename_i h;simp[h]
 ·rename_i h;split<;>simp[h]
theorem T2 (a b:List UInt8):decide (cS a b<0)=Op.bytesLess a b:=by
 unfold cS;cases Op.bytesLess a b
 ·cases(a==b)<;>simp
 ·simp

theorem Uv {z:Nat}(hz:z≠0){xs:List AV}(h:xs.all (fun e=>e.cells.length==z)=true)(hf:QN xs=[]):xs=[]:=by
 cases xs with
 |nil=>rfl
 |cons x xs=>
  have hl:x.cells.length=z:=by simpa using QVZ.1 h x (by simp)
  have:x.cells=[]:=(List.append_eq_nil_iff.1 hf).1;rw[this]at hl;exact absurd hl.symm hz

theorem v96 (xs:List AV)(fr:Nat→Ob)(m:Qq)(h:xs.all (fun e=>e.cells.length==4)=true)(hn:xs.length≤1048576)(hr:Qv (fr 1000)=true) :
  Qi Tryz.prog 96 [.list xs] (fr :: m) (fun x m1=>x=.vec 0 1000 (Xr (fr 1000)) 0 xs.length false∧m1=QJ fr 1000 (.vec (Xr (fr 1000)) 4 xs) :: m):=by
 have hng:QD (fr :: m) 0 1000=Xr (fr 1000):=JU;refine k96.go (by simp) ?_;simp only[R9,VH,VI,Qa,seval];refine Jp (ys:=xs) (by simp only[Qa,seval]) ?_ ?_
 ·simp only[VK,Qa,seval];refine ZL rfl ?_;simp only[Qa,seval];refine QI (site:=5) (g:=1) (xs:=[]) (ys:=xs) rfl rfl rfl rfl rfl h (by simp[maxLen];omega) (by simp;omega) ?_;simp only[Qa,seval];refine X0 (l:=0) (site:=5) (g:=2) (o:=0) (n:=xs.length) (q:=false) (sz:=4) (xs:=xs) (by simp only[QWt,Qa,seval]) (by simp only[Qa,seval]) (by simp) (by decide) hr ?_;simp only[hng,NK,eE,seval]
  try simp[AV.still,AV.un,X8,Xq]
 ·intro he;have hx:xs=[]:=by
   rcases he with he|he
   ·exact he
   ·exact Uv (by decide) h he
  subst hx;simp only[VJ,Qa,seval];refine XL (by simp only[Qa,seval]) rfl ?_;simp only[Qa,seval];refine X0 (l:=0) (site:=2) (g:=1) (o:=0) (n:=0) (q:=false) (sz:=4) (xs:=[]) (by simp only[Qa,seval]) (by simp only[Qa,seval]) (by simp) (by decide) hr ?_;simp only[hng,NK,eE,seval]
  try simp[AV.still,AV.un,X8,Xq]

theorem QQ2 (xs:List AV)(fr:Nat→Ob)(m:Qq)(h:xs.all (fun e=>e.cells.length==8)=true)(hn:xs.length≤1048576)(hr:Qv (fr 1000)=true) :
  Qi Tryz.prog 181 [.list xs] (fr :: m) (fun x m1=>x=.vec 0 1000 (Xr (fr 1000)) 0 xs.length false∧m1=QJ fr 1000 (.vec (Xr (fr 1000)) 8 xs) :: m):=by
 have hng:QD (fr :: m) 0 1000=Xr (fr 1000):=JU;refine P4.go (by simp) ?_;simp only[VM,FZ,F0,Qa,seval];refine Jp (ys:=xs) (by simp only[Qa,seval]) ?_ ?_
 ·simp only[F2,Qa,seval];refine ZL rfl ?_;simp only[Qa,seval];refine QI (site:=5) (g:=1) (xs:=[]) (ys:=xs) rfl rfl rfl rfl rfl h (by simp[maxLen];omega) (by simp;omega) ?_;simp only[Qa,seval];refine X0 (l:=0) (site:=5) (g:=2) (o:=0) (n:=xs.length) (q:=false) (sz:=8) (xs:=xs) (by simp only[QWt,Qa,seval]) (by simp only[Qa,seval]) (by simp) (by decide) hr ?_;simp only[hng,Dd,eE,seval]
  try simp[AV.still,AV.un,X8,Xq]
 ·intro he;have hx:xs=[]:=by
   rcases he with he|he
   ·exact he
   ·exact Uv (by decide) h he
  subst hx;simp only[F1,Qa,seval];refine XL (by simp only[Qa,seval]) rfl ?_;simp only[Qa,seval];refine X0 (l:=0) (site:=2) (g:=1) (o:=0) (n:=0) (q:=false) (sz:=8) (xs:=[]) (by simp only[Qa,seval]) (by simp only[Qa,seval]) (by simp) (by decide) hr ?_;simp only[hng,Dd,eE,seval]
  try simp[AV.still,AV.un,X8,Xq]

theorem QQ3 (xs:List AV)(fr:Nat→Ob)(m:Qq)(h:xs.all (fun e=>e.cells.length==14)=true)(hn:xs.length≤1048576)(hr:Qv (fr 1000)=true) :
  Qi Tryz.prog 224 [.list xs] (fr :: m) (fun x m1=>x=.vec 0 1000 (Xr (fr 1000)) 0 xs.length false∧m1=QJ fr 1000 (.vec (Xr (fr 1000)) 14 xs) :: m):=by
 have hng:QD (fr :: m) 0 1000=Xr (fr 1000):=JU;refine QNn.go (by simp) ?_;simp only[Qth,MI,MJ,Qa,seval];refine Jp (ys:=xs) (by simp only[Qa,seval]) ?_ ?_
 ·simp only[ML,Qa,seval];refine ZL rfl ?_;simp only[Qa,seval];refine QI (site:=5) (g:=1) (xs:=[]) (ys:=xs) rfl rfl rfl rfl rfl h (by simp[maxLen];omega) (by simp;omega) ?_;simp only[Qa,seval];refine X0 (l:=0) (site:=5) (g:=2) (o:=0) (n:=xs.length) (q:=false) (sz:=14) (xs:=xs) (by simp only[QWt,Qa,seval]) (by simp only[Qa,seval]) (by simp) (by decide) hr ?_;simp only[hng,Ra,eE,seval]
  try simp[AV.still,AV.un,X8,Xq]
 ·intro he;have hx:xs=[]:=by
   rcases he with he|he
   ·exact he
   ·exact Uv (by decide) h he
  subst hx;simp only[MK,Qa,seval];refine XL (by simp only[Qa,seval]) rfl ?_;simp only[Qa,seval];refine X0 (l:=0) (site:=2) (g:=1) (o:=0) (n:=0) (q:=false) (sz:=14) (xs:=[]) (by simp only[Qa,seval]) (by simp only[Qa,seval]) (by simp) (by decide) hr ?_;simp only[hng,Ra,eE,seval]
  try simp[AV.still,AV.un,X8,Xq]

section rows
variable {fr:Nat→Ob}{m:Qq}{s g z n i:Nat}{xs l:List AV}
theorem Qw6 (h:fr s=.vec g z xs)(hi:i<n):Qc (fr :: m) z none (.vec 0 s g 0 n false) ((i:Nat):Int)=some (.vptr 0 s g i 0):=by
 have e:Am.Qg (fr :: m) 0 s=.vec g z xs:=h;simp only[Qc,e,QXe];rw[QWg (by omega),QWg ⟨trivial,trivial,hi⟩,QWt]
theorem RH {k:Nat}(h:fr s=.vec g z xs)(hx:xs[i]? = some (.agg l))(hk:k≤l.length):Q9 (fr :: m) (some k) (.vptr 0 s g i 0)=some (.agg (l.take k)):=by
 have e:Am.Qg (fr :: m) 0 s=.vec g z xs:=h;simp only[Q9,e,if_true,hx,Am.part];show(if 0+k≤l.length then some (AV.agg ((l.drop 0).take k))else none)=_;rw[QWg (by omega),QWu]
theorem QQ4 {o:Nat}(h:fr s=.vec g z xs)(hx:xs[i]? = some (.agg l)):Q9 (fr :: m) none (.vptr 0 s g i o)=l[o]?:=by
 have e:Am.Qg (fr :: m) 0 s=.vec g z xs:=h;simp only[Q9,e,if_true,hx,Am.part,AV.cells]
end rows

def eS (x:AV):Prop:=∃s:Int×V,x=V.sav s
theorem QH8 (s:Int×V):Ez eS 8 (V.sav s):=by
 refine⟨⟨s,rfl⟩,?_⟩;rw[Zm];exact⟨_,rfl,rfl,rfl,rfl,fun _=>rfl⟩
def nA:AV→Int
 |.agg (.int _ n :: _)=>n
 |_=>0
def cA (x y:AV):Int:=cN (nA x) (nA y)
theorem Cm (x y:AV):Tz.lt cA x y=decide (nA x<nA y):=Fd _ _
theorem T3:SW (Tz.lt cA):=by
 have e:Tz.lt cA=fun x y=>decide (nA x<nA y):=by funext x y;exact Cm x y
 rw[e];exact BO Qw5 nA
theorem GW (s:Int×V):nA (V.sav s)=s.1:=by rw[Zm];rfl

theorem QQ5 (x y:Int×V):Qj Tryz.prog 183 [V.sav x,V.sav y] (.int .i64 (cN x.1 y.1)):=by
 rw[Zm,Zm];refine Qgv.fn (by simp) ?_;simp only[eE,seval];refine Qb (Ca x.1 y.1) rfl rfl rfl (.inl rfl) ?_;simp only[Qa,seval]

theorem QQ6:Tz.Cp Tryz.prog 8 eS 183 cA where
 call x y hx hy:=by
  obtain⟨s,rfl⟩:=hx.1;obtain⟨t,rfl⟩:=hy.1;unfold cA;rw[GW,GW];exact QQ5 s t
 sw:=T3

theorem RI (l:List (Int×V)):QE (Tz.lt cA) (l.map V.sav)=(JM l).map V.sav:=Wc (fun x y=>by rw[Cm,GW,GW]) l
theorem W5 (l:List (Int×V)):(l.map V.sav).all (fun e=>e.cells.length==8)=true:=by
 rw[List.all_map,QVZ];intro x _;simp[Zm,AV.cells]
theorem ezS (l:List (Int×V)):∀x∈l.map V.sav,Ez eS 8 x:=by
 intro x hx;obtain⟨s,_,rfl⟩:=QW7.1 hx;exact QH8 s

def SoI (T:List (Int×V))(k:Nat)(st:St):Prop :=
 ∃f fr i g h,st=⟨f,[fr],[]⟩∧k=T.length-i∧i≤T.length∧f 3=.vec 0 1000 g 0 T.length false∧f 4=.vec 0 4 h 0 i false∧f 11=.vec 0 1000 g 0 T.length false∧f 12=.int .i64 (T.length:Nat)∧f 13=.int .i64 (i:Nat)∧fr 1000=.vec g 8 (T.map V.sav)∧fr 4=.vec h 8 ((T.take i).map V.sav)∧∀s∈[6],(fr s).isRow=false

theorem v97 (sl:List (Int×V))(hn:sl.length≤1048576)(hu:sl.Pairwise fun y x=>(y.1==x.1)=false):Qj Tryz.prog 97 [.list (sl.map V.sav)] (.list ((JM sl).map V.sav)):=by
 have cl:=fun fr hr=>QQ2 (sl.map V.sav) fr [] (W5 sl) (by rw[QWI];exact hn) hr
 have cs:=fun g (m:Qq) (hl:Am.Qg m 0 1000=.vec g 8 (sl.map V.sav))=>Tz.RG Tg.Qv2 (by decide) QQ6 0 1000 g (sl.map V.sav) m hl (ezS sl) (by rw[QWI];omega)
 simp only[RI,QWI]at cs;have hperm:(JM sl).Perm sl:=Xa _;have hlen:(JM sl).length=sl.length:=hperm.length_eq;have hun:(JM sl).Pairwise fun y x=>(y.1==x.1)=false:=(hperm.pairwise_iff fun {a b} h=>by rw[Bool.beq_comm];exact h).2 hu
 generalize JM sl=T at *;refine k97.fn (by simp) ?_;simp only[Qa,seval];refine Qk (cl _ rfl) (by simp only[QWj,QWO,Qa,seval]) ?_;simp only[QWI,Qa,seval];refine Qk (cs _ _ (by simp only[eE,seval]<;>rfl)) (by simp only[QWj,QWO,Qa,seval]) ?_;simp only[eE,seval];refine XL (by simp only[Qa,seval]) (by simp only[Qa,seval]) ?_;simp only[eE,seval];refine Qd (SoI T) _ ⟨_,_,0,_,_,rfl,rfl,QVV _,(by rw[hlen];exact(by rfl)),(by rfl),(by rw[hlen];exact(by rfl)),(by rw[hlen];exact(by rfl)),(by rfl),(by rfl),(by rfl),by simp<;>rfl⟩ ?_;rintro _ st ⟨f0,fr0,i,g,h,rfl,rfl,hil,h30,h40,h110,h120,h130,mR0,m40,r6⟩;refine QO (a:=_) [6] r6 ?_;intro f fr hf hm hn6;have h3:f 3=.vec 0 1000 g 0 T.length false:=by rw[hf,h30]<;>rfl
 have h4:f 4=.vec 0 4 h 0 i false:=by rw[hf,h40]<;>rfl
 have h11:f 11=.vec 0 1000 g 0 T.length false:=by rw[hf,h110]<;>rfl
 have h12:f 12=.int .i64 (T.length:Nat):=by rw[hf,h120]<;>rfl
 have h13:f 13=.int .i64 (i:Nat):=by rw[hf,h130]<;>rfl
 have mR:fr 1000=.vec g 8 (T.map V.sav):=by rw[hm 1000 (by decide),mR0]<;>rfl
 have m4:fr 4=.vec h 8 ((T.take i).map V.sav):=by rw[hm 4 (by decide),m40]<;>rfl
 have n6:=hn6 6 (by decide);clear hf hm hn6 h30 h40 h110 h120 h130 mR0 m40 r6;simp only[h12,h13,Qa,seval];by_cases hlt:i<T.length
 ·obtain⟨x,hi⟩:∃x,T[i]? = some x:=⟨T[i],QVO hlt⟩;have hg:=JA hi;have e1:=Qm i _ hlt (by simp only[maxLen];omega);have ia:∀(fr:Nat→Ob) (j:Nat),fr 1000=.vec g 8 (T.map V.sav)→j<T.length→Qc [fr] 8 none (.vec 0 1000 g 0 T.length false) ((j:Nat):Int)=some (.vptr 0 1000 g j 0):=fun fr j h hj=>Qw6 h hj
  have la:∀(fr:Nat→Ob),fr 1000=.vec g 8 (T.map V.sav)→Q9 [fr] (some 8) (.vptr 0 1000 g i 0)=some (.agg [.int .i64 x.1,.int .i64 x.2.kd,.int .u64 (x.2.bits:Nat),.str x.2.text,.list (x.2.list.map V.av),.list (x.2.pairs.map V.pav),.list (x.2.slots.map V.sav),.list (x.2.raws.map R.av)]):=fun fr h=>RH h hg (by simp)
  have fin:∀(f':Fr) (fr':Nat→Ob) (h':Nat),f' 3=.vec 0 1000 g 0 T.length false→f' 4=.vec 0 4 h' 0 (i+1) false→f' 11=.vec 0 1000 g 0 T.length false→f' 12=.int .i64 (T.length:Nat)→f' 13=.int .i64 ((i+1:Nat):Int)→fr' 1000=.vec g 8 (T.map V.sav)→fr' 4=.vec h' 8 ((T.take i).map V.sav++[V.sav x])→(∀s∈[6],(fr' s).isRow=false)→∃k,k<T.length-i∧SoI T k ⟨f',[fr'],[]⟩:=by
   intro f' fr' h' a3 a4 a11 a12 a13 b1 b4 b6;exact⟨T.length-(i+1),by omega,f',fr',i+1,g,h',rfl,rfl,by omega,a3,a4,a11,a12,a13,b1,by rw[b4,QXv,hi];simp,b6⟩
  have hti:((T.take i).map V.sav).length=i:=by rw[QWI,QWK];omega
  simp only[Ql hlt,ia,la,mR,hlt,n6,h3,h11,h13,e1,eE,seval];by_cases hl:i+1=T.length
  ·have d1:(((i+1:Nat):Int)==(T.length:Int))=true:=by simp;omega
   simp only[d1,h4,eE,seval];refine QP (l:=[V.sav x]) rfl rfl rfl (by rw[Zm];rfl) ?_;refine QI (site:=4) (g:=h) (n:=i) (xs:=(T.take i).map V.sav) (ys:=[V.sav x]) (by rfl) (by exact m4) rfl hti.symm rfl (W5 [x]) (by simp only[QV2,QWJ,maxLen];omega) (by simp only[QV2,QWJ];omega) ?_;simp only[h13,e1,Qa,seval];exact fin _ _ (h+1) (by exact h3) (by rfl) (by exact h11) (by exact h12) (by rfl) (by exact mR) (by rfl) (by simp<;>rfl)
  ·have d1:(((i+1:Nat):Int)==(T.length:Int))=false:=by simp;omega
   have hlt1:i+1<T.length:=by omega
   obtain⟨y,hj⟩:∃y,T[i+1]? = some y:=⟨T[i+1],QVO hlt1⟩;have hgj:=JA hj;have lc:∀(fr:Nat→Ob),fr 1000=.vec g 8 (T.map V.sav)→Q9 [fr] none (.vptr 0 1000 g (i+1) 0)=some (.int .i64 y.1):=fun fr h=>QQ4 h hgj
   have hne:(x.1 != y.1)=true:=by
    rw[QXK]at hun;have:=hun i (i+1) hlt hlt1 (by omega);rw[(QVN.1 hi).2,(QVN.1 hj).2]at this
    simpa using this
   simp only[d1,ia,lc,mR,hlt1,hne,Wl,QWt,h3,h4,e1,eE,seval];refine QP (l:=[V.sav x]) rfl rfl rfl (by rw[Zm];rfl) ?_;refine QI (site:=4) (g:=h) (n:=i) (xs:=(T.take i).map V.sav) (ys:=[V.sav x]) (by rfl) (by exact m4) rfl hti.symm rfl (W5 [x]) (by simp only[QV2,QWJ,maxLen];omega) (by simp only[QV2,QWJ];omega) ?_;simp only[h13,e1,Qa,seval];exact fin _ _ (h+1) (by exact h3) (by rfl) (by exact h11) (by exact h12) (by rfl) (by exact mR) (by rfl) (by simp<;>rfl)
 ·have e:i=T.length:=by omega
  subst e;rw[QXm]at m4;simp only[Qy hlt,h4,eE,seval];simp[AV.un,X8,Xq,m4];rw[QWl (by rw[QWI];exact QVL _)]

def eP (P:PL)(k:Int)(x:AV):Prop:=∃p:V×V,x=V.pav p∧p.1.one P k (-1)=0∧p.1.bits<18446744073709551616
theorem ezP {P:PL}{k:Int}{p:V×V}(h:p.1.one P k (-1)=0)(hb:p.1.bits<18446744073709551616):Ez (eP P k) 14 (V.pav p):=by
 refine⟨⟨p,rfl,h,hb⟩,?_⟩;rw[Kf];exact⟨_,rfl,rfl,rfl,rfl,fun _=>rfl⟩
def kV:AV→V
 |.agg (_ :: .int _ b :: .str t :: _)=>.mk 0 b.toNat t [] [] [] []
 |_=>.mk 0 0 [] [] [] [] []
theorem GX (p:V×V):kV (V.pav p)=.mk 0 p.1.bits p.1.text [] [] [] []:=by rw[Kf];rfl
def cP (k:Int)(x y:AV):Int:=Hj k (kV x).bits (kV x).text (kV y).bits (kV y).text
theorem Pw (k:Int)(a b:V):decide (Hj k a.bits a.text b.bits b.text<0)=kl k a b:=by
 unfold Hj kl;split
 ·exact T2 _ _
 ·split
  ·exact Fd _ _
  ·exact Fd _ _
theorem QH9 (k:Int):SW (Tz.lt (cP k)):=by
 have e:Tz.lt (cP k)=fun x y=>kl k (kV x,kV x).1 (kV y,kV y).1:=by funext x y;exact Pw k _ _
 rw[e];exact BO (UR k) fun x=>(kV x,kV x)

theorem QQ7 {P:PL}{k:Int}(hk:X5 k)(x y:V×V)(hx:x.1.one P k (-1)=0)(hy:y.1.one P k (-1)=0):Qj Tryz.prog 226 [V.pav x,V.pav y] (.int .i64 (Hj k x.1.bits x.1.text y.1.bits y.1.text)):=by
 have h:=QvX k hk x.1.bits y.1.bits x.1.text y.1.text;rw[←(Z6 hx).1,←(Z6 hy).1,Qw,Qw]at h;rw[Kf,Kf];refine QNq.fn (by simp) ?_;simp only[QWk,QWV,QWu,eE,seval];refine Qb h rfl rfl rfl (.inl rfl) ?_;simp only[Qa,seval]

theorem QQ8 {P:PL}{k:Int}(hk:X5 k):Tz.Cp Tryz.prog 14 (eP P k) 226 (cP k) where
 call x y hx hy:=by
  obtain⟨p,rfl,h1,_⟩:=hx.1;obtain⟨q,rfl,h2,_⟩:=hy.1;unfold cP;rw[GX,GX];exact QQ7 hk p q h1 h2
 sw:=QH9 k

theorem RJ (k:Int)(l:List (V×V)):QE (Tz.lt (cP k)) (l.map V.pav)=(Xe k l).map V.pav:=Wc (fun x y=>by
 show decide (cP k (V.pav x) (V.pav y)<0)=_;unfold cP;rw[GX,GX];exact Pw k x.1 y.1) l
theorem We (l:List (V×V)):(l.map V.pav).all (fun e=>e.cells.length==14)=true:=by
 rw[List.all_map,QVZ];intro x _;simp[Kf,AV.cells]

def PoI (T:List (V×V))(k:Nat)(st:St):Prop :=
 ∃f fr i g h,st=⟨f,[fr],[]⟩∧k=T.length-i∧i≤T.length∧f 3=.vec 0 1000 g 0 T.length false∧f 4=.vec 0 4 h 0 i false∧f 11=.vec 0 1000 g 0 T.length false∧f 12=.int .i64 (T.length:Nat)∧f 13=.int .i64 (i:Nat)∧fr 1000=.vec g 14 (T.map V.pav)∧fr 4=.vec h 14 ((T.take i).map V.pav)∧∀s∈[6],(fr s).isRow=false

theorem QQ9 {P:PL}{k:Int}(hk:X5 k)(ps:List (V×V))(hn:ps.length≤1048576)(h1:∀p∈ps,p.1.one P k (-1)=0)(hb:∀p∈ps,p.1.bits<18446744073709551616)(hu:ps.Pairwise fun q p=>ZH q.1 p.1=false):Qj Tryz.prog 185 [.list (ps.map V.pav)] (.list ((Xe k ps).map V.pav)):=by
 have cl:=fun fr hr=>QQ3 (ps.map V.pav) fr [] (We ps) (by rw[QWI];exact hn) hr
 have ez:∀x∈ps.map V.pav,Ez (eP P k) 14 x:=by
  intro x hx;obtain⟨p,hp,rfl⟩:=QW7.1 hx;exact ezP (h1 p hp) (hb p hp)
 have cs:=fun g (m:Qq) (hl:Am.Qg m 0 1000=.vec g 14 (ps.map V.pav))=>Tz.RG Tg.Qv3 (by decide) (QQ8 (P:=P) hk) 0 1000 g (ps.map V.pav) m hl ez (by rw[QWI];omega)
 simp only[RJ,QWI]at cs;have hperm:(Xe k ps).Perm ps:=Xa _;have hlen:(Xe k ps).length=ps.length:=hperm.length_eq;have hun:(Xe k ps).Pairwise fun q p=>ZH q.1 p.1=false:=(hperm.pairwise_iff fun {a b} h=>by unfold ZH at *;rw[←h,Bool.beq_comm (a:=b.1.bits),Bool.beq_comm (a:=b.1.text)]).2 hu
 have h1T:∀p∈Xe k ps,p.1.one P k (-1)=0:=fun p hp=>h1 p (hperm.mem_iff.1 hp)
 have hbT:∀p∈Xe k ps,p.1.bits<18446744073709551616:=fun p hp=>hb p (hperm.mem_iff.1 hp)
 generalize Xe k ps=T at *;refine QMH.fn (by simp) ?_;simp only[Qa,seval];refine Qk (cl _ rfl) (by simp only[QWj,QWO,Qa,seval]) ?_;simp only[QWI,Qa,seval];refine Qk (cs _ _ (by simp only[eE,seval]<;>rfl)) (by simp only[QWj,QWO,Qa,seval]) ?_;simp only[eE,seval];refine XL (by simp only[Qa,seval]) (by simp only[Qa,seval]) ?_;simp only[eE,seval];refine Qd (PoI T) _ ⟨_,_,0,_,_,rfl,rfl,QVV _,(by rw[hlen];exact(by rfl)),(by rfl),(by rw[hlen];exact(by rfl)),(by rw[hlen];exact(by rfl)),(by rfl),(by rfl),(by rfl),by simp<;>rfl⟩ ?_;rintro _ st ⟨f0,fr0,i,g,h,rfl,rfl,hil,h30,h40,h110,h120,h130,mR0,m40,r6⟩;refine QO (a:=_) [6] r6 ?_;intro f fr hf hm hn6;have h3:f 3=.vec 0 1000 g 0 T.length false:=by rw[hf,h30]<;>rfl
 have h4:f 4=.vec 0 4 h 0 i false:=by rw[hf,h40]<;>rfl
 have h11:f 11=.vec 0 1000 g 0 T.length false:=by rw[hf,h110]<;>rfl
 have h12:f 12=.int .i64 (T.length:Nat):=by rw[hf,h120]<;>rfl
 have h13:f 13=.int .i64 (i:Nat):=by rw[hf,h130]<;>rfl
 have mR:fr 1000=.vec g 14 (T.map V.pav):=by rw[hm 1000 (by decide),mR0]<;>rfl
 have m4:fr 4=.vec h 14 ((T.take i).map V.pav):=by rw[hm 4 (by decide),m40]<;>rfl
 have n6:=hn6 6 (by decide);clear hf hm hn6 h30 h40 h110 h120 h130 mR0 m40 r6;simp only[h12,h13,Qa,seval];by_cases hlt:i<T.length
 ·obtain⟨x,hi⟩:∃x,T[i]? = some x:=⟨T[i],QVO hlt⟩;have hg:=Z0 hi;have e1:=Qm i _ hlt (by simp only[maxLen];omega);have ia:∀(fr:Nat→Ob) (j:Nat),fr 1000=.vec g 14 (T.map V.pav)→j<T.length→Qc [fr] 14 none (.vec 0 1000 g 0 T.length false) ((j:Nat):Int)=some (.vptr 0 1000 g j 0):=fun fr j h hj=>Qw6 h hj
  have la:∀(fr:Nat→Ob),fr 1000=.vec g 14 (T.map V.pav)→Q9 [fr] (some 14) (.vptr 0 1000 g i 0)=some (.agg [.int .i64 x.1.kd,.int .u64 (x.1.bits:Nat),.str x.1.text,.list (x.1.list.map V.av),.list (x.1.pairs.map V.pav),.list (x.1.slots.map V.sav),.list (x.1.raws.map R.av),.int .i64 x.2.kd,.int .u64 (x.2.bits:Nat),.str x.2.text,.list (x.2.list.map V.av),.list (x.2.pairs.map V.pav),.list (x.2.slots.map V.sav),.list (x.2.raws.map R.av)]):=fun fr h=>RH h hg (by simp)
  have fin:∀(f':Fr) (fr':Nat→Ob) (h':Nat),f' 3=.vec 0 1000 g 0 T.length false→f' 4=.vec 0 4 h' 0 (i+1) false→f' 11=.vec 0 1000 g 0 T.length false→f' 12=.int .i64 (T.length:Nat)→f' 13=.int .i64 ((i+1:Nat):Int)→fr' 1000=.vec g 14 (T.map V.pav)→fr' 4=.vec h' 14 ((T.take i).map V.pav++[V.pav x])→(∀s∈[6],(fr' s).isRow=false)→∃k,k<T.length-i∧PoI T k ⟨f',[fr'],[]⟩:=by
   intro f' fr' h' a3 a4 a11 a12 a13 b1 b4 b6;exact⟨T.length-(i+1),by omega,f',fr',i+1,g,h',rfl,rfl,by omega,a3,a4,a11,a12,a13,b1,by rw[b4,QXv,hi];simp,b6⟩
  have hti:((T.take i).map V.pav).length=i:=by rw[QWI,QWK];omega
  simp only[Ql hlt,ia,la,mR,hlt,n6,h3,h11,h13,e1,eE,seval];by_cases hl:i+1=T.length
  ·have d1:(((i+1:Nat):Int)==(T.length:Int))=true:=by simp;omega
   simp only[d1,h4,eE,seval];refine QP (l:=[V.pav x]) rfl rfl rfl (by rw[Kf];rfl) ?_;refine QI (site:=4) (g:=h) (n:=i) (xs:=(T.take i).map V.pav) (ys:=[V.pav x]) (by rfl) (by exact m4) rfl hti.symm rfl (We [x]) (by simp only[QV2,QWJ,maxLen];omega) (by simp only[QV2,QWJ];omega) ?_;simp only[h13,e1,Qa,seval];exact fin _ _ (h+1) (by exact h3) (by rfl) (by exact h11) (by exact h12) (by rfl) (by exact mR) (by rfl) (by simp<;>rfl)
  ·have d1:(((i+1:Nat):Int)==(T.length:Int))=false:=by simp;omega
   have hlt1:i+1<T.length:=by omega
   obtain⟨y,hj⟩:∃y,T[i+1]? = some y:=⟨T[i+1],QVO hlt1⟩;have hgj:=Z0 hj;have lc:∀(fr:Nat→Ob),fr 1000=.vec g 14 (T.map V.pav)→Q9 [fr] (some 7) (.vptr 0 1000 g (i+1) 0)=some (.agg [.int .i64 y.1.kd,.int .u64 (y.1.bits:Nat),.str y.1.text,.list (y.1.list.map V.av),.list (y.1.pairs.map V.pav),.list (y.1.slots.map V.sav),.list (y.1.raws.map R.av)]):=fun fr h=>by
    rw[RH h hgj (by simp)];rfl
   have hx1:=h1T x (QV0 hi);have hy1:=h1T y (QV0 hj);have hne:ZH x.1 y.1=false:=by
    rw[QXK]at hun;have:=hun i (i+1) hlt hlt1 (by omega);rw[(QVN.1 hi).2,(QVN.1 hj).2]at this;exact this
   have hq:=QQi k hk x.1.bits y.1.bits x.1.text y.1.text;rw[←(Z6 hx1).1,←(Z6 hy1).1,LS hk hx1 hy1 (hbT x (QV0 hi)) (hbT y (QV0 hj)),hne,Qw,Qw]at hq;simp only[d1,ia,lc,mR,hlt1,Wl,QWt,QWk,QWV,QWu,h3,e1,eE,seval];refine Qb hq rfl rfl rfl (.inl rfl) ?_;simp only[h4,eE,seval];refine QP (l:=[V.pav x]) rfl rfl rfl (by rw[Kf];rfl) ?_;refine QI (site:=4) (g:=h) (n:=i) (xs:=(T.take i).map V.pav) (ys:=[V.pav x]) (by rfl) (by exact m4) rfl hti.symm rfl (We [x]) (by simp only[QV2,QWJ,maxLen];omega) (by simp only[QV2,QWJ];omega) ?_;simp only[h13,e1,Qa,seval];exact fin _ _ (h+1) (by exact h3) (by rfl) (by exact h11) (by exact h12) (by rfl) (by exact mR) (by rfl) (by simp<;>rfl)
 ·have e:i=T.length:=by omega
  subst e;rw[QXm]at m4;simp only[Qy hlt,h4,eE,seval];simp[AV.un,X8,Xq,m4];rw[QWl (by rw[QWI];exact QVL _)]

def eR (x:AV):Prop:=∃f:R,x=f.av
theorem QIa (f:R):Ez eR 4 f.av:=⟨⟨f,rfl⟩,_,rfl,rfl,rfl,rfl,fun _=>rfl⟩
theorem QRa (x y:R):Qj Tryz.prog 101 [x.av,y.av] (.int .i64 (cN x.num y.num)):=by
 refine QKW.fn (by simp) ?_;simp only[R.av,eE,seval];refine Qb (Ca x.num y.num) rfl rfl rfl (.inl rfl) ?_;simp only[Qa,seval]
theorem QRb:Tz.Cp Tryz.prog 4 eR 101 cA where
 call x y hx hy:=by
  obtain⟨s,rfl⟩:=hx.1;obtain⟨t,rfl⟩:=hy.1;exact QRa s t
 sw:=T3
theorem RK (l:List R):QE (Tz.lt cA) (l.map R.av)=(Zv l).map R.av:=Wc (fun x y=>by rw[Cm];rfl) l
theorem Z1 (l:List R):(l.map R.av).all (fun e=>e.cells.length==4)=true:=by
 rw[List.all_map,QVZ];intro x _;rfl
theorem ezR (l:List R):∀x∈l.map R.av,Ez eR 4 x:=by
 intro x hx;obtain⟨s,_,rfl⟩:=QW7.1 hx;exact QIa s

theorem Px (v:V):v.nsc.av=.agg [.int .i64 v.kd,.int .u64 ((XD v.kd v.bits:Nat):Int),.str v.text,.list (v.list.map V.av),.list (v.pairs.map V.pav),.list (v.slots.map V.sav),.list (v.raws.map R.av)]:=by
 rw[Qw];rfl
theorem QRc (b:Nat):Qj Tryz.prog 123 [.int .u64 (b:Nat)] (.int .i64 (Wx b:Nat)):=by
 refine QpQ.fn (by simp) ?_;have hm:(b:Int).tmod 9223372036854775808=((b % 9223372036854775808:Nat):Int):=by
  rw[QXL (by omega)];omega
 simp only[hm,Qa,seval];unfold Wx;generalize b % 9223372036854775808=z
 repeat' (first|(refine Q1 (fun h=>?_) (fun h=>?_)<;>simp only[h,Qa,seval])|(refine Xz (fun h=>?_) (fun h=>?_)<;>simp only[h,Qo,eE,seval])|(refine XA (fun h=>?_) (fun h=>?_)<;>simp only[h,Qo,eE,seval]))
 all_goals(simp only[QVS,QXE,QVT,QXt,ne_eq]at *)
 all_goals((repeat' split)<;>first|rfl|(exfalso;omega))

theorem w82 (b:Nat)(hb:b<18446744073709551616):Qj Tryz.prog 82 [.int .u64 (b:Nat)] (.int .i64 (Wx b:Nat)):=by
 refine k82.fn (by simp) ?_;have a1:bits .and .u64 (b:Int) 9218868437227405312=(((b / 4503599627370496 % 2048)*4503599627370496:Nat):Int):=by
  have:=UH b 9218868437227405312 hb (by decide);rw[Pa]at this;exact this
 have a2:bits .and .u64 (b:Int) 4503599627370495=((b % 4503599627370496:Nat):Int):=by
  have:=UH b 4503599627370495 hb (by decide);rw[M9]at this;exact this
 simp only[a1,a2,Qa,seval];unfold Wx
 repeat' (first|(refine Q1 (fun h=>?_) (fun h=>?_)<;>simp only[h,Qa,seval])|(refine Xz (fun h=>?_) (fun h=>?_)<;>simp only[h,Qo,Qa,seval])|(refine XA (fun h=>?_) (fun h=>?_)<;>simp only[h,Qo,eE,seval]))
 all_goals(simp only[QVT,QWd,bne_eq_false_iff_eq,QXt,ne_eq]at *)
 all_goals((repeat' split)<;>first|rfl|(exfalso;omega))

theorem v51 (v:V)(hb:v.bits<18446744073709551616):Qj Tryz.prog 51 [v.av] v.nsc.av:=by
 rw[Px,Qw];refine k51.fn (by simp) ?_;simp only[eE,seval];by_cases hk:v.kd=6
 ·have b0:(v.kd==6)=true:=by simp[hk]
  simp only[b0,eE,seval];refine Qb (w82 v.bits hb) rfl rfl rfl (.inl rfl) ?_;simp only[V8,Qa,seval];by_cases hc:Wx v.bits=0
  ·simp only[hc,XD,hk,decide_true,and_self,splice,QWk,QWV,QWn,QWu,QV9,QWa,QV2,QWJ,eE,seval]
   try rfl
  ·simp only[hc,XD,decide_false,and_false,eE,seval]
 ·have b0:(v.kd==6)=false:=by simp[hk]
  simp only[b0,XD,hk,false_and,eE,seval]

theorem v75 (v:V)(_hb:v.bits<18446744073709551616):Qj Tryz.prog 75 [v.av] v.nsc.av:=by
 rw[Px,Qw];refine k75.fn (by simp) ?_;simp only[eE,seval];by_cases hk:v.kd=6
 ·have b0:(v.kd==6)=true:=by simp[hk]
  simp only[b0,eE,seval];refine Qb (QRc v.bits) rfl rfl rfl (.inl rfl) ?_;simp only[V8,Qa,seval];by_cases hc:Wx v.bits=0
  ·simp only[hc,XD,hk,decide_true,and_self,splice,QWk,QWV,QWn,QWu,QV9,QWa,QV2,QWJ,eE,seval]
   try rfl
  ·simp only[hc,XD,decide_false,and_false,eE,seval]
 ·have b0:(v.kd==6)=false:=by simp[hk]
  simp only[b0,XD,hk,false_and,eE,seval]

def EW (m:PG→V→Prop)(P:PL)(o:PO)(v:V):Prop:=o.kind=10→m (QW P o.target) v
def FW (m:PG→V→Prop)(P:PL)(o:PO)(v:V):Prop :=
 if o.card=4 then ∀x∈v.list,EW m P o x
 else if o.card=5 then(∀p∈v.pairs,p.1.one P o.key (-1)=0∧EW m P o p.2)∧v.pairs.Pairwise fun q p=>ZH q.1 p.1=false
 else EW m P o v
def MW (P:PL):Nat→PG→V→Prop
 |0,_,_=>False
 |n+1,g,v=>(∀s∈v.slots,∃o,Ze g s.1=some o∧FW (MW P n) P o s.2)∧v.slots.Pairwise fun y x=>(y.1==x.1)=false

theorem Cn {m:PG→V→Int}{w:PG→V→Prop}(h:∀g v,m g v=0→w g v){P:PL}{o:PO}{v:V}(he:QT m P o v=0):EW w P o v:=by
 intro hk;unfold QT at he;rw[QWg hk]at he;exact h _ _ he
theorem QIb {m:PG→V→Int}{w:PG→V→Prop}(h:∀g v,m g v=0→w g v){P:PL}{o:PO}{v:V}(he:Xd m P o v=0):FW w P o v:=by
 unfold Xd at he;unfold FW;by_cases h4:o.card=4
 ·rw[QV1 (by omega),QWg h4]at he;rw[QWg h4];split at he
  ·omega
  exact fun x hx=>Cn h (KA.1 he x hx)
 ·rw[QV1 h4];by_cases h5:o.card=5
  ·rw[QWg h5]at he;rw[QWg h5];split at he
   ·omega
   have hE:=Wh.1 he;exact⟨fun p hp=>⟨(hE.1 p hp).1,Cn h (hE.1 p hp).2⟩,hE.2⟩
  ·rw[QV1 h5,QV1 h4]at he;rw[QV1 h5];exact Cn h he
theorem YH {P:PL}:∀(n:Nat) (g:PG) (v:V),XK P n g v=0→MW P n g v
 |0,g,v,h=>by
  unfold XK at h;split at h<;>omega
 |n+1,g,v,h=>by
  obtain⟨_,⟨s1,s2,_⟩,_,_⟩:=JX.1 h;refine⟨fun s hs=>?_,s2⟩;obtain⟨o,ho,hf⟩:=s1 s hs;exact⟨o,ho,QIb (YH n) hf⟩
theorem LY {P:PL}{o:PO}(ho:o.card=5→X5 o.key)(h5:o.card=5){ps:List (V×V)}(h:∀p∈ps,p.1.one P o.key (-1)=0):∀p∈ps,p.1.nsc=p.1:=by
 intro p hp;have e:=(Um (h p hp)).1;refine Bw ?_;have:=ho h5;unfold X5 at this;omega

theorem BP {x:V}:∀ {l:List V},x∈l→x.cnt≤XO l
 |y :: l,h=>by
  rw[XO];rcases QW9.1 h with rfl|h
  ·omega
  ·have:=BP h;omega
theorem HF {x:V×V}:∀ {l:List (V×V)},x∈l→x.1.cnt+x.2.cnt≤Xs l
 |(a,b) :: l,h=>by
  rw[Xs];rcases QW9.1 h with rfl|h
  ·dsimp only;omega
  ·have:=HF h;omega
theorem BQ {x:Int×V}:∀ {l:List (Int×V)},x∈l→x.2.cnt≤Xf l
 |(a,b) :: l,h=>by
  rw[Xf];rcases QW9.1 h with rfl|h
  ·dsimp only;omega
  ·have:=BQ h;omega
theorem KB (v:V):1≤v.cnt:=by rw[Xh];omega
theorem HG:∀l:List V,l.length≤XO l
 | []=>QVL _
 |x :: l=>by
  have:=KB x;have:=HG l;simp only[XO,QV2];omega
theorem BR:∀l:List (V×V),2*l.length≤Xs l
 | []=>QVL _
 |(a,b) :: l=>by
  have:=KB a;have:=KB b;have:=BR l;simp only[Xs,QV2];omega
theorem BS:∀l:List (Int×V),l.length≤Xf l
 | []=>QVL _
 |(a,b) :: l=>by
  have:=KB b;have:=BS l;simp only[Xf,QV2];omega
theorem YI {v x:V}(h:x∈v.list):x.cnt≤v.cnt:=by have:=BP h;rw[Xh v];omega
theorem N8 {v:V}{x:V×V}(h:x∈v.pairs):x.1.cnt≤v.cnt:=by have:=HF h;rw[Xh v];omega
theorem UV {v:V}{x:V×V}(h:x∈v.pairs):x.2.cnt≤v.cnt:=by have:=HF h;rw[Xh v];omega
theorem JN {v:V}{x:Int×V}(h:x∈v.slots):x.2.cnt≤v.cnt:=by have:=BQ h;rw[Xh v];omega
theorem JO (v:V):v.list.length≤v.cnt:=by have:=HG v.list;rw[Xh v];omega
theorem KL (v:V):v.pairs.length≤v.cnt:=by have:=BR v.pairs;rw[Xh v];omega
theorem JY (v:V):v.slots.length≤v.cnt:=by have:=BS v.slots;rw[Xh v];omega
theorem YJ (v:V):v.raws.length≤v.cnt:=by rw[Xh v];omega

section
variable {M:Nat}{P:PL}{m:PG→V→Prop}{nm:PG→V→V}(o:PO)(ho:UO P o)

include ho in
theorem QRd (hm:∀(t:Int) (g:PG),P.progs[t.toNat]? = some g→0≤t→∀v:V,v.ok M→v.cnt≤1048576→m g v→Qj Tryz.prog 57 [P.av,.int .i64 t,v.av] (nm g v).av)(v:V)(hv:v.ok M)(hc:v.cnt≤1048576)(he:EW m P o v) :
  Qj Tryz.prog 184 [P.av,Qt o,v.av] (Zx nm P o v).av:=by
 have e0:P.av=.agg [.list (P.progs.map Qn),.list (P.enums.map Qr)]:=rfl;unfold Zx;by_cases hk:o.kind=10
 ·have b:(o.kind==10)=true:=by simp[hk]
  have he:=he hk;rw[QWg hk];obtain⟨t0,t1⟩:=ho.tgt hk;obtain⟨g,hg⟩:∃g,P.progs[o.target.toNat]? = some g:=⟨P.progs[o.target.toNat]'(by omega),QVO (by omega)⟩;have hq:QW P o.target=g:=by unfold QW;rw[hg];rfl
  rw[hq]at he ⊢;have h2:=hm o.target g hg t0 v hv hc he;generalize nm g v=z at h2 ⊢;rw[e0,Qw,Qw]at h2;rw[Qw,Qw];refine P5.fn (by simp) ?_;simp only[e0,Qt,PO.cells,b,eE,seval];refine Qb h2 rfl rfl rfl (.inl rfl) ?_;simp only[eE,seval]
 ·have b:(o.kind==10)=false:=by simp[hk]
  rw[QV1 hk];have h1:=v51 v (JV hv);generalize v.nsc=z at h1 ⊢;rw[Qw,Qw]at h1;rw[Qw,Qw];refine P5.fn (by simp) ?_;simp only[e0,Qt,PO.cells,b,eE,seval];refine Qb h1 rfl rfl rfl (.inl rfl) ?_;simp only[eE,seval]

def NlI (P:PL)(o:PO)(l:List V)(F:V→V)(k:Nat)(st:St):Prop :=
 ∃f fr i g,st=⟨f,[fr],[]⟩∧k=l.length-i∧i≤l.length∧f 3=.ptr 0 3 0∧f 4=.ptr 0 4 0∧f 6=.ptr 0 6 0∧f 7=.ptr 0 7 0∧f 19=.list (l.map V.av)∧f 20=.int .i64 (l.length:Nat)∧f 21=.int .i64 (i:Nat)∧fr 3=.cells [.list (P.progs.map Qn),.list (P.enums.map Qr)]∧fr 4=.cells o.cells∧fr 6=.cells [.int .i64 0,.int .u64 0,.str [],.nils,.nils,.nils,.nils]∧fr 7=.cells [.int .i64 11,.int .u64 0,.str [],.vec 0 1100 g 0 i false,.nils,.nils,.nils]∧fr 1100=.vec g 7 ((l.take i).map fun x=>(F x).av)∧∀s∈[9],(fr s).isRow=false

def NpI (P:PL)(o:PO)(T:List (V×V))(F:V×V→V×V)(k:Nat)(st:St):Prop :=
 ∃f fr i g,st=⟨f,[fr],[]⟩∧k=T.length-i∧i≤T.length∧f 3=.ptr 0 3 0∧f 4=.ptr 0 4 0∧f 6=.ptr 0 6 0∧f 10=.ptr 0 10 0∧f 41=.list (T.map V.pav)∧f 42=.int .i64 (T.length:Nat)∧f 43=.int .i64 (i:Nat)∧fr 3=.cells [.list (P.progs.map Qn),.list (P.enums.map Qr)]∧fr 4=.cells o.cells∧fr 6=.cells [.int .i64 0,.int .u64 0,.str [],.nils,.nils,.nils,.nils]∧fr 10=.cells [.int .i64 12,.int .u64 0,.str [],.nils,.vec 0 1101 g 0 i false,.nils,.nils]∧fr 1101=.vec g 14 ((T.take i).map fun x=>V.pav (F x))∧∀s∈[12],(fr s).isRow=false

theorem T4 (l:List V)(F:V→V):(l.map fun x=>(F x).av)=(l.map F).map V.av:=by rw[QXx];rfl
theorem Py (l:List (V×V))(F:V×V→V×V):(l.map fun x=>V.pav (F x))=(l.map F).map V.pav:=by rw[QXx];rfl

set_option maxHeartbeats 1000000 in
include ho in
theorem v98 (hel:∀v:V,v.ok M→v.cnt≤1048576→EW m P o v→Qj Tryz.prog 184 [P.av,Qt o,v.av] (Zx nm P o v).av)(v:V)(hv:v.ok M)(hc:v.cnt≤1048576)(he:FW m P o v) :
  Qj Tryz.prog 98 [P.av,Qt o,v.av] (ZN nm P o v).av:=by
 have e0:P.av=.agg [.list (P.progs.map Qn),.list (P.enums.map Qr)]:=rfl;unfold ZN;unfold FW at he;by_cases h4:o.card=4
 ·have b4:(o.card==4)=true:=by simp[h4]
  rw[QWg h4]at he;rw[QWg h4];have hL:=he;have hlen:=JO v;rw[Qw v];generalize hF:Zx nm P o=F at hel ⊢;rw[show(V.mk 11 0 [] (v.list.map F) [] [] []).av=.agg [.int .i64 11,.int .u64 0,.str [],.list ((v.list.map F).map V.av),.list [],.list [],.list []]from Qw _];refine Sa.fn (by simp) ?_;simp only[e0,Qt,PO.cells,b4,eE,seval];refine JJ (by simp only[Qa,seval]<;>rfl) rfl (by simp only[Qa,seval]<;>rfl) rfl ?_;simp only[List.set,QWI,eE,seval];refine Qd (NlI P o v.list F) _ ⟨_,_,0,_,rfl,rfl,QVV _,(by rfl),(by rfl),(by rfl),(by rfl),(by rfl),(by rfl),(by rfl),(by rfl),(by rfl),(by rfl),(by rfl),(by rfl),by simp<;>rfl⟩ ?_;rintro _ st ⟨f0,fr0,i,g,rfl,rfl,hil,h30,h40,h60,h70,h190,h200,h210,m30,m40,m60,m70,mR0,r9⟩;refine QO (a:=_) [9] r9 ?_;intro f fr hf hm hn9;have h3:f 3=.ptr 0 3 0:=by rw[hf,h30]<;>rfl
  have h4:f 4=.ptr 0 4 0:=by rw[hf,h40]<;>rfl
  have h6:f 6=.ptr 0 6 0:=by rw[hf,h60]<;>rfl
  have h7:f 7=.ptr 0 7 0:=by rw[hf,h70]<;>rfl
  have h19:f 19=.list (v.list.map V.av):=by rw[hf,h190]<;>rfl
  have h20:f 20=.int .i64 (v.list.length:Nat):=by rw[hf,h200]<;>rfl
  have h21:f 21=.int .i64 (i:Nat):=by rw[hf,h210]<;>rfl
  have m3:fr 3=.cells [.list (P.progs.map Qn),.list (P.enums.map Qr)]:=by rw[hm 3 (by decide),m30]<;>rfl
  have m4:fr 4=.cells o.cells:=by rw[hm 4 (by decide),m40]<;>rfl
  have m6:fr 6=.cells [.int .i64 0,.int .u64 0,.str [],.nils,.nils,.nils,.nils]:=by rw[hm 6 (by decide),m60]<;>rfl
  have m7:fr 7=.cells [.int .i64 11,.int .u64 0,.str [],.vec 0 1100 g 0 i false,.nils,.nils,.nils]:=by rw[hm 7 (by decide),m70]<;>rfl
  have mR:fr 1100=.vec g 7 ((v.list.take i).map fun x=>(F x).av):=by rw[hm 1100 (by decide),mR0]<;>rfl
  have n9:=hn9 9 (by decide);clear hf hm hn9 h30 h40 h60 h70 h190 h200 h210 m30 m40 m60 m70 mR0 r9;have m4':=m4;simp only[PO.cells]at m4;simp only[h20,h21,Qa,seval];by_cases hlt:i<v.list.length
  ·obtain⟨x,hi⟩:∃x,v.list[i]? = some x:=⟨v.list[i],QVO hlt⟩;have hx:=QV0 hi;have hg:=Wy hi;have e1:=Qm i _ hlt (by simp only[maxLen];omega);have c1:=hel x (hv.list x hx) (QVM (YI hx) hc) (hL x hx);have hti:((v.list.take i).map fun x=>(F x).av).length=i:=by rw[QWI,QWK];omega
   have hts:(v.list.take (i+1)).map (fun x=>(F x).av)=(v.list.take i).map (fun x=>(F x).av)++[(F x).av]:=by rw[QXv,hi];simp
   generalize F x=z at c1 hts;rw[e0,Qw,Qw z]at c1;simp only[Qt,PO.cells]at c1;simp only[Ql hlt,Qh,QXe,Qc,hg,n9,h3,h4,h7,h19,h21,m3,m4,m7,eE,seval];refine Qb c1 rfl rfl rfl (.inl rfl) ?_;refine QP (l:=[z.av]) rfl rfl rfl (by rw[Qw];rfl) ?_;refine QI (site:=1100) (g:=g) (n:=i) (xs:=(v.list.take i).map fun x=>(F x).av) (ys:=[z.av]) (by rfl) (by exact mR) rfl hti.symm rfl (Qv1 [z]) (by simp only[QV2,QWJ,maxLen];omega) (by simp only[QV2,QWJ];omega) ?_;simp only[h7,h21,m7,e1,eE,seval];exact⟨v.list.length-(i+1),by omega,_,_,i+1,g+1,rfl,rfl,by omega,(by exact h3),(by exact h4),(by exact h6),(by exact h7),(by exact h19),(by exact h20),(by rfl),(by exact m3),(by exact m4'),(by exact m6),(by rfl),(by rw[hts];exact(by rfl)),by simp<;>rfl⟩
  ·have e:i=v.list.length:=by omega
   subst e;rw[QXm,T4]at mR;simp only[Qy hlt,h6,h7,m6,m7,eE,seval];simp[AV.un,AV.unL,X8,Xq,mR,QWl]
 ·have b4:(o.card==4)=false:=by simp[h4]
  rw[QV1 h4];by_cases h5:o.card=5
  ·have b5:(o.card==5)=true:=by simp[h5]
   rw[QV1 h4,QWg h5]at he;rw[QWg h5];have hE:=he;have hlen:=KL v;have hk:=ho.key h5;have hkn:=LY ho.key h5 fun p hp=>(hE.1 p hp).1
   have cp:=QQ9 hk v.pairs (by omega) (fun p hp=>(hE.1 p hp).1) (fun p hp=>JV (hv.keys p hp)) hE.2;have hperm:(Xe o.key v.pairs).Perm v.pairs:=Xa _;have hTl:(Xe o.key v.pairs).length=v.pairs.length:=hperm.length_eq;have hTm:∀p∈Xe o.key v.pairs,p∈v.pairs:=fun p h=>hperm.mem_iff.1 h
   generalize Xe o.key v.pairs=T at *;rw[Qw v];generalize hF:(fun p:V×V=>(p.1.nsc,Zx nm P o p.2))=F;rw[show(V.mk 12 0 [] [] (T.map F) [] []).av=.agg [.int .i64 12,.int .u64 0,.str [],.list [],.list ((T.map F).map V.pav),.list [],.list []]from Qw _];refine Sa.fn (by simp) ?_;simp only[e0,Qt,PO.cells,b4,b5,eE,seval];refine JJ (by simp only[Qa,seval]<;>rfl) rfl (by simp only[Qa,seval]<;>rfl) rfl ?_;simp only[List.set,eE,seval];refine Qb cp rfl rfl rfl (.inl rfl) ?_;simp only[QWI,Qa,seval];refine Qd (NpI P o T F) _ ⟨_,_,0,_,rfl,rfl,QVV _,(by rfl),(by rfl),(by rfl),(by rfl),(by rfl),(by rfl),(by rfl),(by rfl),(by rfl),(by rfl),(by rfl),(by rfl),by simp<;>rfl⟩ ?_;rintro _ st ⟨f0,fr0,i,g,rfl,rfl,hil,h30,h40,h60,h100,h410,h420,h430,m30,m40,m60,m100,mR0,WM⟩;refine QO (a:=_) [12] WM ?_;intro f fr hf hm hn12;have h3:f 3=.ptr 0 3 0:=by rw[hf,h30]<;>rfl
   have h4:f 4=.ptr 0 4 0:=by rw[hf,h40]<;>rfl
   have h6:f 6=.ptr 0 6 0:=by rw[hf,h60]<;>rfl
   have h10:f 10=.ptr 0 10 0:=by rw[hf,h100]<;>rfl
   have h41:f 41=.list (T.map V.pav):=by rw[hf,h410]<;>rfl
   have h42:f 42=.int .i64 (T.length:Nat):=by rw[hf,h420]<;>rfl
   have h43:f 43=.int .i64 (i:Nat):=by rw[hf,h430]<;>rfl
   have m3:fr 3=.cells [.list (P.progs.map Qn),.list (P.enums.map Qr)]:=by rw[hm 3 (by decide),m30]<;>rfl
   have m4:fr 4=.cells o.cells:=by rw[hm 4 (by decide),m40]<;>rfl
   have m6:fr 6=.cells [.int .i64 0,.int .u64 0,.str [],.nils,.nils,.nils,.nils]:=by rw[hm 6 (by decide),m60]<;>rfl
   have m10:fr 10=.cells [.int .i64 12,.int .u64 0,.str [],.nils,.vec 0 1101 g 0 i false,.nils,.nils]:=by rw[hm 10 (by decide),m100]<;>rfl
   have mR:fr 1101=.vec g 14 ((T.take i).map fun x=>V.pav (F x)):=by rw[hm 1101 (by decide),mR0]<;>rfl
   have n12:=hn12 12 (by decide);clear hf hm hn12 h30 h40 h60 h100 h410 h420 h430 m30 m40 m60 m100 mR0 WM;have m4':=m4;simp only[PO.cells]at m4;simp only[h42,h43,Qa,seval];by_cases hlt:i<T.length
   ·obtain⟨x,hi⟩:∃x,T[i]? = some x:=⟨T[i],QVO hlt⟩;have hx:=hTm x (QV0 hi);have hg:=Z0 hi;have e1:=Qm i _ hlt (by simp only[maxLen];omega);have c0:=v51 x.1 (JV (hv.keys x hx));have c1:=hel x.2 (hv.vals x hx) (QVM (UV hx) hc) (hE.1 x hx).2;have hti:((T.take i).map fun x=>V.pav (F x)).length=i:=by rw[QWI,QWK];omega
    have hFx:F x=(x.1.nsc,Zx nm P o x.2):=by rw[←hF]
    have hts:(T.take (i+1)).map (fun x=>V.pav (F x))=(T.take i).map (fun x=>V.pav (F x))++[V.pav (x.1.nsc,Zx nm P o x.2)]:=by rw[QXv,hi,←hFx];simp
    generalize x.1.nsc=y at c0 hts;generalize Zx nm P o x.2=z at c1 hts;rw[Qw,Qw y]at c0;rw[e0,Qw,Qw z]at c1;simp only[Qt,PO.cells]at c1;simp only[Ql hlt,Qh,QXe,Qc,hg,n12,h10,h41,h43,m10,eE,seval];refine Qb c0 rfl rfl rfl (.inl rfl) ?_;simp only[QWk,QWn,QWu,h3,h4,m3,m4,eE,seval];refine Qb c1 rfl rfl rfl (.inl rfl) ?_;simp only[eE,seval];refine QP (l:=[V.pav (y,z)]) rfl rfl rfl (by rw[Kf];rfl) ?_;refine QI (site:=1101) (g:=g) (n:=i) (xs:=(T.take i).map fun x=>V.pav (F x)) (ys:=[V.pav (y,z)]) (by rfl) (by exact mR) rfl hti.symm rfl (We [(y,z)]) (by simp only[QV2,QWJ,maxLen];omega) (by simp only[QV2,QWJ];omega) ?_;simp only[h10,h43,m10,e1,eE,seval];exact⟨T.length-(i+1),by omega,_,_,i+1,g+1,rfl,rfl,by omega,(by exact h3),(by exact h4),(by exact h6),(by exact h10),(by exact h41),(by exact h42),(by rfl),(by exact m3),(by exact m4'),(by exact m6),(by rfl),(by rw[hts];exact(by rfl)),by simp<;>rfl⟩
   ·have e:i=T.length:=by omega
    subst e;rw[QXm,Py]at mR;simp only[Qy hlt,h6,h10,m6,m10,eE,seval];simp[AV.un,AV.unL,X8,Xq,mR,QWl]
  ·have b5:(o.card==5)=false:=by simp[h5]
   rw[QV1 h4,QV1 h5]at he;rw[QV1 h5];have c1:=hel v hv hc he;generalize Zx nm P o v=z at c1 ⊢;rw[e0,Qw v,Qw z]at c1;simp only[Qt,PO.cells]at c1;rw[Qw v,Qw z];refine Sa.fn (by simp) ?_;simp only[e0,Qt,PO.cells,b4,b5,eE,seval];refine Qb c1 rfl rfl rfl (.inl rfl) ?_;simp only[eE,seval]

end

theorem Qw7 {ops:List PO}(h:XR ops (X7 PO.num)=true):ops.Pairwise fun a b=>a.num<b.num:=by
 have hs:∀i (hi:i+1<ops.length),ops[i].num<ops[i+1].num:=by
  intro i hi;unfold XR at h;have:=QK.1 h (i+1) hi;rw[Jf (QVO (by omega:i<ops.length)) (QVO hi)]at this;unfold X7 at this
  simpa using this
 rw[QXK];intro i j hi hj hij;obtain⟨d,rfl⟩:∃d,j=i+1+d:=⟨j-(i+1),by omega⟩;clear hij
 induction d with
 |zero=>exact hs i (by omega)
 |succ d ih=>
  have a:=ih (by omega);have b:=hs (i+1+d) (by omega);exact Int.lt_trans a b

theorem BT {P:PL}(h:ck P=0):Hg P=true∧args P=true:=by
 unfold ck at h;split at h
 ·omega
 split at h
 ·omega
 split at h
 ·omega
 rename_i ho;split at h
 ·omega
 split at h
 ·omega
 split at h
 ·omega
 rename_i ha;exact⟨by simpa using ho,by simpa using ha⟩
theorem JP {P:PL}(h:ck P=0):Ke P:=by
 have ho:=(BT h).1;unfold Hg at ho;simp only[QWb,QVZ]at ho;intro g hg;exact Qw7 (ho.1.2 g hg)
def Co (P:PL):Prop:=∀g∈P.progs,∀o∈g.ops,1≤o.card∧o.card≤5
theorem RL {P:PL}(h:ck P=0):Co P:=by
 have ha:=(BT h).2;intro g hg o ho;unfold args at ha;simp only[QWb,QVZ]at ha;have h1:=ha.1 g hg;unfold ZZ at h1;simp only[QWb,QVZ]at h1;have h2:=(h1.2 o ho).1;unfold X4 at h2;simp only[QWb,QVS]at h2;exact⟨h2.1.1.1.2,h2.1.1.2⟩

theorem YK {fr:Nat→Ob}{a b c:Nat}(h1:(fr a).isRow=false)(h2:(fr b).isRow=false)(h3:(fr c).isRow=false):∀s∈[a,b,c],(fr s).isRow=false:=by
 intro s hs;simp only[QW9,QXP,or_false]at hs;rcases hs with rfl|rfl|rfl
 ·exact h1
 ·exact h2
 ·exact h3

section
variable (k:Int)(b:Nat)(t:List UInt8)(l p s r:List AV)

theorem QRe:Qj Tryz.prog 115 [vo k b t l p s r] (.bool (Bn k b t l p s r)):=by
 have hl:=Rt k b t l p s r;simp only[vo]at hl;refine QLg.fn (by simp) ?_;simp only[vo,Bn,eE,seval];refine Qb (VQ k) rfl rfl rfl (.inl rfl) ?_;cases isk k
 ·simp only[QXh,Qa,seval]
 ·simp only[QXo,eE,seval];cases h1:((b:Int)==0)
  ·simp only[QXF,QXh,Qa,seval]
  ·cases h2:(t==[])
   ·simp only[h2,QXF,QL,eE,seval]
   ·simp only[h2,QW0,QL,eE,seval];refine Qb hl rfl rfl rfl (.inl rfl) ?_;simp only[Qa,seval]

theorem QRf (hl:l.length≤140737488351232)(hp:p.length≤140737488351232)(hs:s.length≤140737488351232)(hr:r.length≤140737488351232) :
  Qj Tryz.prog 186 [vo k b t l p s r] (.bool (Bn k b t l p s r)):=by
 have hle:=QvE k b t l p s r hl hp hs hr;simp only[vo]at hle;refine QgG.fn (by simp) ?_;simp only[vo,Bn,eE,seval];refine Qb (F9 k) rfl rfl rfl (.inl rfl) ?_;cases isk k
 ·simp only[QXh,Qa,seval]
 ·simp only[QXo,eE,seval];refine Qb hle rfl rfl rfl (.inl rfl) ?_;cases WR l p s r
  ·simp only[QXh,Qa,seval]
  ·cases h1:((b:Int)==0)<;>cases h2:(t==[])<;>cases h3:X9 k<;>simp only[h1,h2,QW0,QXF,QV6,QL,eE,seval]

theorem w71:Qj Tryz.prog 71 [vo k b t l p s r] (.bool (emp k b t l p s r)):=by
 have hz:=QRe k b t l p s r;simp only[vo]at hz;refine k71.fn (by simp) ?_;simp only[vo,emp,eE,seval];by_cases h1:k=11
 ·subst h1;have e:Bn 11 b t l p s r=false:=rfl;have e1:((11:Int)==11)=true:=rfl;have e2:((11:Int)==12)=false:=rfl;simp only[e,e1,e2,QXo,QXh,QXG,eE,seval]
 ·have e1:(k==11)=false:=by simp[h1]
  by_cases h2:k=12
  ·subst h2;have e:Bn 12 b t l p s r=false:=rfl;have e2:((12:Int)==12)=true:=rfl;simp only[e,e1,e2,QXo,QXh,QXG,QXs,eE,seval]
  ·have e2:(k==12)=false:=by simp[h2]
   simp only[e1,e2,QXh,QXs,eE,seval];refine Qb hz rfl rfl rfl (.inl rfl) ?_;simp only[Qa,seval]

theorem w99 (hl:l.length≤140737488351232)(hp:p.length≤140737488351232)(hs:s.length≤140737488351232)(hr:r.length≤140737488351232):Qj Tryz.prog 99 [vo k b t l p s r] (.bool (emp k b t l p s r)):=by
 have hz:=QRf k b t l p s r hl hp hs hr;simp only[vo]at hz;refine k99.fn (by simp) ?_;simp only[vo,emp,eE,seval];cases h1:(k==11)<;>cases h2:((l.length:Int)==0)<;>cases h3:(k==12)<;>cases h4:((p.length:Int)==0)<;>simp only[h2,h3,h4,QXo,QXh,QXr,QXs,QXG,eE,seval]
 all_goals(refine Qb hz rfl rfl rfl (.inl rfl) ?_;simp only[Qa,seval])

end
theorem QIc (v:V)(hc:v.cnt≤1048576):Qj Tryz.prog 99 [v.av] (.bool v.emp):=by
 have h1:=JO v;have h2:=KL v;have h3:=JY v;have h4:=YJ v;rw[GB];exact w99 _ _ _ _ _ _ _ (by simp;omega) (by simp;omega) (by simp;omega) (by simp;omega)
theorem QId (v:V):Qj Tryz.prog 71 [v.av] (.bool v.emp):=by
 rw[GB];exact w71 _ _ _ _ _ _ _

def NgI (P:PL)(K:Nat→List (Int×V))(T:List (Int×V))(t:Nat)(rw':List R)(k:Nat)(st:St):Prop :=
 ∃f fr i g h,st=⟨f,[fr],[]⟩∧k=T.length-i∧i≤T.length∧f 1=.int .i64 (t:Nat)∧f 3=.ptr 0 3 0∧f 6=.ptr 0 6 0∧f 7=.ptr 0 7 0∧f 30=.list (T.map V.sav)∧f 31=.int .i64 (T.length:Nat)∧f 32=.int .i64 (i:Nat)∧fr 3=.cells [.list (P.progs.map Qn),.list (P.enums.map Qr)]∧fr 6=.cells [.int .i64 0,.int .u64 0,.str [],.nils,.nils,.nils,.nils]∧fr 7=.cells [.int .i64 10,.int .u64 0,.str [],.nils,.nils,.vec 0 1100 g 0 (K i).length false,.vec 0 1000 h 0 rw'.length false]∧fr 1100=.vec g 8 ((K i).map V.sav)∧fr 1000=.vec h 4 (rw'.map R.av)∧∀s∈[13,10,9],(fr s).isRow=false

section
variable {M:Nat}{P:PL}(hP:P.ok M)

set_option maxHeartbeats 2000000 in
include hP in
theorem v57 (hU:Yd P)(hr:Ke P)(hcd:Co P):∀(n:Nat) (t:Int) (g:PG),P.progs[t.toNat]? = some g→0≤t→∀v:V,v.ok M→v.cnt≤1048576→MW P n g v→Qj Tryz.prog 57 [P.av,.int .i64 t,v.av] (Xb P n g v).av:=by
 have e0:P.av=.agg [.list (P.progs.map Qn),.list (P.enums.map Qr)]:=rfl;intro n
 induction n with
 |zero=>
  intro t g _ _ v _ _ h;exact h.elim
 |succ n ih=>
  intro t g hgt t0 v hv hc h;have hgm:=QV0 hgt;have hg:=hP.progs g hgm;have hu:=hU g hgm;have hd:=hr g hgm;obtain⟨s1,s2⟩:=h;have hnel:=fun(o:PO) (ho:o∈g.ops) (x:V) (hx:x.ok M) (hxc:x.cnt≤1048576) (he:EW (MW P n) P o x)=>QRd o (hu o ho) (fun t g a b v c d e=>ih t g a b v c d e) x hx hxc he
  have hnfl:=fun(o:PO) (ho:o∈g.ops) (x:V) (hx:x.ok M) (hxc:x.cnt≤1048576) (he:FW (MW P n) P o x)=>v98 o (hu o ho) (hnel o ho) x hx hxc he
  have hcn:∀(o:PO) (x:V),(ZN (Xb P n) P o x).cnt≤x.cnt:=fun o x=>N2 (fun t v=>Yc hr n _ (Uq hr t) v) o x
  have lS:=JY v;have lR:=YJ v;have clR:=fun fr hr=>v96 (v.raws.map R.av) fr [] (Z1 v.raws) (by rw[QWI];omega) hr
  have csR:=fun g (m:Qq) (hl:Am.Qg m 0 1000=.vec g 4 (v.raws.map R.av))=>Tz.RG Tg.QGF (by decide) QRb 0 1000 g (v.raws.map R.av) m hl (ezR v.raws) (by rw[QWI];omega)
  simp only[RK,QWI]at csR;have csl:=v97 v.slots (by omega) s2;have hTp:(JM v.slots).Perm v.slots:=Xa _;have hTl:(JM v.slots).length=v.slots.length:=hTp.length_eq;have hTm:∀s∈JM v.slots,s∈v.slots:=fun s h=>hTp.mem_iff.1 h
  have hfin:=RE (Xb P n) P hd s2;have hrl:(Zv v.raws).length=v.raws.length:=(Xa v.raws).length_eq;generalize JM v.slots=T at *;obtain⟨ti,hti⟩:=QXq t0;subst hti;rw[QXe]at hgt;have hga:(P.progs.map Qn)[ti]? = some (.agg g.cells):=by simp[hgt,Qn]
  simp only[PG.cells]at hga;have htl:ti<P.progs.length:=(QVN.1 hgt).1;have d0:decide ((ti:Int)<0)=false:=QXy (by omega);have d1:decide ((ti:Int)≥(P.progs.length:Int))=false:=QXy (by omega);have co:=fun n=>y72 g hg.len n
  simp only[Wg]at co;simp only[Qn,PG.cells]at co;show Qj _ _ _ (V.mk 10 0 [] [] [] (g.ops.flatMap (Xv (Xb P n) P v.slots)) (Zv v.raws)).av;rw[←hfin,Qw v];generalize hK:(fun i=>(T.take i).flatMap (Z7 (Xb P n) P g))=K;have hK0:K 0=[]:=by rw[←hK];simp
  have hKn:T.flatMap (Z7 (Xb P n) P g)=K T.length:=by rw[←hK];simp
  have hKl:∀i,i≤T.length→(K i).length≤i:=by
   intro i hi;rw[←hK];show((T.take i).flatMap _).length≤i;have:∀l:List (Int×V),(l.flatMap (Z7 (Xb P n) P g)).length≤l.length:=by
    intro l
    induction l with
    |nil=>exact QVL _
    |cons s l ih=>
     have:(Z7 (Xb P n) P g s).length≤1:=by
      unfold Z7;split
      ·simp
      ·unfold Zz;split<;>simp
     rw[QXg,QWp,QV2];omega
   exact QVM (this _) (by rw[QWK];omega)
  rw[hKn,show(V.mk 10 0 [] [] [] (K T.length) (Zv v.raws)).av=.agg [.int .i64 10,.int .u64 0,.str [],.list [],.list [],.list ((K T.length).map V.sav),.list ((Zv v.raws).map R.av)]from Qw _];refine k57.fn (by simp) ?_;simp only[e0,eE,seval];refine Qk (clR _ rfl) (by simp only[QWj,QWO,Qa,seval]) ?_;simp only[QWI,eE,seval];refine JJ (by simp only[Qa,seval]<;>rfl) rfl (by simp only[Qa,seval]<;>rfl) rfl ?_;simp only[List.set,d0,d1,QWI,eE,seval];refine Qb csl rfl rfl rfl (.inl rfl) ?_;simp only[QWI,Qa,seval];refine Qd (NgI P K T ti v.raws) _ ⟨_,_,0,_,_,rfl,rfl,QVV _,(by rfl),(by rfl),(by rfl),(by rfl),(by rfl),(by rfl),(by rfl),(by rfl),(by rfl),(by rw[hK0];exact(by rfl)),(by rw[hK0];exact(by rfl)),(by rfl),YK rfl rfl rfl⟩ ?_;rintro _ st ⟨f0,fr0,i,gs,hs,rfl,rfl,hil,h10,h30,h60,h70,h300,h310,h320,m30,m60,m70,mS0,mR0,r13⟩;refine QO (a:=_) [13,10,9] r13 ?_;intro f fr hf hm hn13;have h1:f 1=.int .i64 (ti:Nat):=by rw[hf,h10]<;>rfl
  have h3:f 3=.ptr 0 3 0:=by rw[hf,h30]<;>rfl
  have h6:f 6=.ptr 0 6 0:=by rw[hf,h60]<;>rfl
  have h7:f 7=.ptr 0 7 0:=by rw[hf,h70]<;>rfl
  have h30':f 30=.list (T.map V.sav):=by rw[hf,h300]<;>rfl
  have h31:f 31=.int .i64 (T.length:Nat):=by rw[hf,h310]<;>rfl
  have h32:f 32=.int .i64 (i:Nat):=by rw[hf,h320]<;>rfl
  have m3:fr 3=.cells [.list (P.progs.map Qn),.list (P.enums.map Qr)]:=by rw[hm 3 (by decide),m30]<;>rfl
  have m6:fr 6=.cells [.int .i64 0,.int .u64 0,.str [],.nils,.nils,.nils,.nils]:=by rw[hm 6 (by decide),m60]<;>rfl
  have m7:fr 7=.cells [.int .i64 10,.int .u64 0,.str [],.nils,.nils,.vec 0 1100 gs 0 (K i).length false,.vec 0 1000 hs 0 v.raws.length false]:=by rw[hm 7 (by decide),m70]<;>rfl
  have mS:fr 1100=.vec gs 8 ((K i).map V.sav):=by rw[hm 1100 (by decide),mS0]<;>rfl
  have mR:fr 1000=.vec hs 4 (v.raws.map R.av):=by rw[hm 1000 (by decide),mR0]<;>rfl
  have n13:=hn13 13 (by decide);have n10:=hn13 10 (by decide);have n9:=hn13 9 (by decide);clear hf hm hn13 h10 h30 h60 h70 h300 h310 h320 m30 m60 m70 mS0 mR0 r13;simp only[h31,h32,Qa,seval];by_cases hlt:i<T.length
  ·obtain⟨x,hi⟩:∃x,T[i]? = some x:=⟨T[i],QVO hlt⟩;have hx:=hTm x (QV0 hi);have hgs:=JA hi;have e1:=Qm i _ hlt (by simp only[maxLen];omega);obtain⟨o,ho,hfo⟩:=s1 x hx;obtain⟨hom,hon⟩:=Zo ho;have hcard:=hcd g hgm o hom;have c1:=co x.1;rw[ho]at c1;have hxc:=QVM (JN hx) hc;have c2:=hnfl o hom x.2 (hv.slots x hx) hxc hfo;have c3:=QIc (ZN (Xb P n) P o x.2) (QVM (hcn o x.2) hxc);have hKs:K (i+1)=K i++Zz (Xb P n) P o x:=by
    rw[←hK];show(T.take (i+1)).flatMap _=(T.take i).flatMap _++_;rw[QXv,hi,QXS];have:Z7 (Xb P n) P g x=Zz (Xb P n) P o x:=by unfold Z7;rw[ho]
    simp[this]
   have hkO:Zz (Xb P n) P o x=if (decide (o.card<3) || !(ZN (Xb P n) P o x.2).emp)=true then [(x.1,ZN (Xb P n) P o x.2)]else []:=by
    unfold Zz;rw[hon]
   have hKi:=hKl i (by omega);rw[hkO]at hKs;clear hkO;generalize ZN (Xb P n) P o x.2=z at c2 c3 hKs;rw[e0,Qw x.2,Qw z]at c2;rw[Qw z]at c3;simp only[Qt,PO.cells]at c2;have fin:∀(f':Fr) (fr':Nat→Ob) (gs':Nat),f' 1=.int .i64 (ti:Nat)→f' 3=.ptr 0 3 0→f' 6=.ptr 0 6 0→f' 7=.ptr 0 7 0→f' 30=.list (T.map V.sav)→f' 31=.int .i64 (T.length:Nat)→f' 32=.int .i64 ((i+1:Nat):Int)→fr' 3=.cells [.list (P.progs.map Qn),.list (P.enums.map Qr)]→fr' 6=.cells [.int .i64 0,.int .u64 0,.str [],.nils,.nils,.nils,.nils]→fr' 7=.cells [.int .i64 10,.int .u64 0,.str [],.nils,.nils,.vec 0 1100 gs' 0 (K (i+1)).length false,.vec 0 1000 hs 0 v.raws.length false]→fr' 1100=.vec gs' 8 ((K (i+1)).map V.sav)→fr' 1000=.vec hs 4 (v.raws.map R.av)→(∀s∈[13,10,9],(fr' s).isRow=false)→∃k,k<T.length-i∧NgI P K T ti v.raws k ⟨f',[fr'],[]⟩:=by
    intro f' fr' gs' a1 a3 a6 a7 a30 a31 a32 b3 b6 b7 bS bR br;exact⟨T.length-(i+1),by omega,f',fr',i+1,gs',hs,rfl,rfl,by omega,a1,a3,a6,a7,a30,a31,a32,b3,b6,b7,bS,bR,br⟩
   simp only[Ql hlt,Qh,QXe,Qc,hgs,hga,n9,h1,h3,h30',h32,m3,eE,seval];refine Qb c1 rfl rfl rfl (.inl rfl) ?_;simp only[QWX,QXz,Qt,PO.cells,n10,eE,seval];rcases(by omega:o.card=1∨o.card=2∨o.card=3∨o.card=4∨o.card=5)with cc|cc|cc|cc|cc
   ·have b3:(o.card==3)=false:=by simp[cc]
    have b4:(o.card==4)=false:=by simp[cc]
    have b5:(o.card==5)=false:=by simp[cc]
    rw[QWg (by simp[cc])]at hKs;simp only[b3,b4,b5,QWk,QWn,QWu,h3,m3,eE,seval];refine Qb c2 rfl rfl rfl (.inl rfl) ?_;simp only[n13,h7,m7,eE,seval];refine QP (l:=[V.sav (x.1,z)]) rfl rfl rfl (by rw[Zm];rfl) ?_;refine QI (site:=1100) (g:=gs) (n:=(K i).length) (xs:=(K i).map V.sav) (ys:=[V.sav (x.1,z)]) (by rfl) (by exact mS) rfl (by rw[QWI]) rfl (W5 [(x.1,z)]) (by simp only[QV2,QWJ,maxLen];omega) (by simp only[QV2,QWJ];omega) ?_;simp only[h7,h32,m7,e1,eE,seval];exact fin _ _ (gs+1) (by exact h1) (by exact h3) (by exact h6) (by exact h7) (by exact h30') (by exact h31) (by rfl) (by exact m3) (by exact m6) (by rw[hKs,QWp];exact(by rfl)) (by rw[hKs,QXu];exact(by rfl)) (by exact mR) (YK rfl rfl rfl)

   ·have b3:(o.card==3)=false:=by simp[cc]
    have b4:(o.card==4)=false:=by simp[cc]
    have b5:(o.card==5)=false:=by simp[cc]
    rw[QWg (by simp[cc])]at hKs;simp only[b3,b4,b5,QWk,QWn,QWu,h3,m3,eE,seval];refine Qb c2 rfl rfl rfl (.inl rfl) ?_;simp only[n13,h7,m7,eE,seval];refine QP (l:=[V.sav (x.1,z)]) rfl rfl rfl (by rw[Zm];rfl) ?_;refine QI (site:=1100) (g:=gs) (n:=(K i).length) (xs:=(K i).map V.sav) (ys:=[V.sav (x.1,z)]) (by rfl) (by exact mS) rfl (by rw[QWI]) rfl (W5 [(x.1,z)]) (by simp only[QV2,QWJ,maxLen];omega) (by simp only[QV2,QWJ];omega) ?_;simp only[h7,h32,m7,e1,eE,seval];exact fin _ _ (gs+1) (by exact h1) (by exact h3) (by exact h6) (by exact h7) (by exact h30') (by exact h31) (by rfl) (by exact m3) (by exact m6) (by rw[hKs,QWp];exact(by rfl)) (by rw[hKs,QXu];exact(by rfl)) (by exact mR) (YK rfl rfl rfl)
   ·have b3:(o.card==3)=true:=by simp[cc]
    have b4:(o.card==4)=false:=by simp[cc]
    have b5:(o.card==5)=false:=by simp[cc]
    have l3:decide (o.card<3)=false:=by simp[cc]
    rw[l3,QXs]at hKs;simp only[b3,QWk,QWn,QWu,h3,m3,eE,seval];refine Qb c2 rfl rfl rfl (.inl rfl) ?_;simp only[n13,eE,seval];refine Qb c3 rfl rfl rfl (.inl rfl) ?_;cases hz:z.emp
    ·rw[hz,QWg (show(!false)=true from rfl)]at hKs;simp only[h7,m7,eE,seval];refine QP (l:=[V.sav (x.1,z)]) rfl rfl rfl (by rw[Zm];rfl) ?_;refine QI (site:=1100) (g:=gs) (n:=(K i).length) (xs:=(K i).map V.sav) (ys:=[V.sav (x.1,z)]) (by rfl) (by exact mS) rfl (by rw[QWI]) rfl (W5 [(x.1,z)]) (by simp only[QV2,QWJ,maxLen];omega) (by simp only[QV2,QWJ];omega) ?_;simp only[h7,h32,m7,e1,eE,seval];exact fin _ _ (gs+1) (by exact h1) (by exact h3) (by exact h6) (by exact h7) (by exact h30') (by exact h31) (by rfl) (by exact m3) (by exact m6) (by rw[hKs,QWp];exact(by rfl)) (by rw[hKs,QXu];exact(by rfl)) (by exact mR) (YK rfl rfl rfl)
    ·rw[hz,QV1 (by simp),QWQ]at hKs;simp only[h32,e1,Qa,seval];exact fin _ _ gs (by exact h1) (by exact h3) (by exact h6) (by exact h7) (by exact h30') (by exact h31) (by rfl) (by exact m3) (by exact m6) (by rw[hKs];exact(by exact m7)) (by rw[hKs];exact(by exact mS)) (by exact mR) (YK rfl rfl rfl)

   ·have b3:(o.card==3)=false:=by simp[cc]
    have b4:(o.card==4)=true:=by simp[cc]
    have b5:(o.card==5)=false:=by simp[cc]
    have l3:decide (o.card<3)=false:=by simp[cc]
    rw[l3,QXs]at hKs;simp only[b3,b4,QWk,QWn,QWu,h3,m3,eE,seval];refine Qb c2 rfl rfl rfl (.inl rfl) ?_;simp only[n13,eE,seval];refine Qb c3 rfl rfl rfl (.inl rfl) ?_;cases hz:z.emp
    ·rw[hz,QWg (show(!false)=true from rfl)]at hKs;simp only[h7,m7,eE,seval];refine QP (l:=[V.sav (x.1,z)]) rfl rfl rfl (by rw[Zm];rfl) ?_;refine QI (site:=1100) (g:=gs) (n:=(K i).length) (xs:=(K i).map V.sav) (ys:=[V.sav (x.1,z)]) (by rfl) (by exact mS) rfl (by rw[QWI]) rfl (W5 [(x.1,z)]) (by simp only[QV2,QWJ,maxLen];omega) (by simp only[QV2,QWJ];omega) ?_;simp only[h7,h32,m7,e1,eE,seval];exact fin _ _ (gs+1) (by exact h1) (by exact h3) (by exact h6) (by exact h7) (by exact h30') (by exact h31) (by rfl) (by exact m3) (by exact m6) (by rw[hKs,QWp];exact(by rfl)) (by rw[hKs,QXu];exact(by rfl)) (by exact mR) (YK rfl rfl rfl)
    ·rw[hz,QV1 (by simp),QWQ]at hKs;simp only[h32,e1,Qa,seval];exact fin _ _ gs (by exact h1) (by exact h3) (by exact h6) (by exact h7) (by exact h30') (by exact h31) (by rfl) (by exact m3) (by exact m6) (by rw[hKs];exact(by exact m7)) (by rw[hKs];exact(by exact mS)) (by exact mR) (YK rfl rfl rfl)

   ·have b3:(o.card==3)=false:=by simp[cc]
    have b4:(o.card==4)=false:=by simp[cc]
    have b5:(o.card==5)=true:=by simp[cc]
    have l3:decide (o.card<3)=false:=by simp[cc]
    rw[l3,QXs]at hKs;simp only[b3,b4,b5,QWk,QWn,QWu,h3,m3,eE,seval];refine Qb c2 rfl rfl rfl (.inl rfl) ?_;simp only[n13,eE,seval];refine Qb c3 rfl rfl rfl (.inl rfl) ?_;cases hz:z.emp
    ·rw[hz,QWg (show(!false)=true from rfl)]at hKs;simp only[h7,m7,eE,seval];refine QP (l:=[V.sav (x.1,z)]) rfl rfl rfl (by rw[Zm];rfl) ?_;refine QI (site:=1100) (g:=gs) (n:=(K i).length) (xs:=(K i).map V.sav) (ys:=[V.sav (x.1,z)]) (by rfl) (by exact mS) rfl (by rw[QWI]) rfl (W5 [(x.1,z)]) (by simp only[QV2,QWJ,maxLen];omega) (by simp only[QV2,QWJ];omega) ?_;simp only[h7,h32,m7,e1,eE,seval];exact fin _ _ (gs+1) (by exact h1) (by exact h3) (by exact h6) (by exact h7) (by exact h30') (by exact h31) (by rfl) (by exact m3) (by exact m6) (by rw[hKs,QWp];exact(by rfl)) (by rw[hKs,QXu];exact(by rfl)) (by exact mR) (YK rfl rfl rfl)
    ·rw[hz,QV1 (by simp),QWQ]at hKs;simp only[h32,e1,Qa,seval];exact fin _ _ gs (by exact h1) (by exact h3) (by exact h6) (by exact h7) (by exact h30') (by exact h31) (by rfl) (by exact m3) (by exact m6) (by rw[hKs];exact(by exact m7)) (by rw[hKs];exact(by exact mS)) (by exact mR) (YK rfl rfl rfl)
  ·have e:i=T.length:=by omega
   subst e;simp only[Qy hlt,h7,m7,eE,seval];refine Qk (csR _ _ (by simp only[mR,eEX,seval]<;>rfl)) (by simp only[QWj,QWO,Qa,seval]) ?_;simp only[h6,h7,m6,m7,eE,seval];simp[AV.un,AV.unL,X8,Xq,mS,QWl,hrl]

end
end Go.Proofs.YtipjfckmopekaaaGreatDoor.Va

namespace Go.Proofs.YtipjfckmopekaaaGreatDoor.Va
open Go Am Rc Bt

def KM (u:Int):Int:=if 0≤u then 2*u else -2*u-1
theorem c50 (u:Int)(h0 : -9223372036854775808≤u)(h1:u<9223372036854775808):Qj Tryz.prog 50 [.int .i64 u] (.int .u64 (KM u)):=by
 refine k50.fn (by simp) ?_;simp only[Ka,seval];congr 1
 simp only[show min 63 64=63 from rfl,show min 1 64=1 from rfl,seval,Jc,KM,QXQ _ (show(0:Int)≤9223372036854775808 by decide)];by_cases h:0≤u
 ·rw[show u / 9223372036854775808=0 by omega,QWg h,show(0:Int) % 18446744073709551616=0 from rfl,F7 _ (by omega) (by omega)];omega
 ·rw[show u / 9223372036854775808 = -1 by omega,QV1 h,show(-1:Int) % 18446744073709551616=18446744073709551615 from rfl,F8 _ (by omega) (by omega)];omega

theorem c74 (u:Int)(h0 : -9223372036854775808≤u)(h1:u<9223372036854775808):Qj Tryz.prog 74 [.int .i64 u] (.int .u64 (KM u)):=by
 refine k74.fn (by simp) ?_;simp only[Ka,seval];refine Q1 (fun h=>?_) (fun h=>?_)<;>simp only[Ka,seval]
 ·have h:0≤u:=by simpa using h
  congr 1
  simp only[Jc,KM,QWg h];omega
 ·have h:¬0≤u:=by simpa using h
  congr 1
  simp only[Jc,QG,KM,QV1 h];omega

theorem YL (u:Int):0≤KM u:=by unfold KM;split<;>omega
theorem Qw8 (u:Int)(h0 : -9223372036854775808≤u)(h1:u<9223372036854775808):KM u<18446744073709551616:=by unfold KM;split<;>omega
open Br Up

def vv (k:Int)(b:Nat)(t:List UInt8)(l p s r:List AV):AV:=.agg [.int .i64 k,.int .u64 (b:Nat),.str t,.list l,.list p,.list s,.list r]

section
variable (k:Int)(b:Nat)(hb:b<18446744073709551616)(t:List UInt8)(l p s r:List AV)
include hb

theorem y51:Qj Tryz.prog 51 [vv k b t l p s r] (vv k (XD k b) t l p s r):=by
 refine k51.fn (by simp) ?_;simp only[vv,eE,seval];by_cases hk:k=6
 ·have b0:(k==6)=true:=by simp[hk]
  simp only[b0,eE,seval];refine Qb (x82 b hb) rfl rfl rfl (.inl rfl) ?_;simp only[V8,Qa,seval];by_cases hc:Wx b=0
  ·simp only[hc,XD,hk,decide_true,and_self,splice,QWk,QWV,QWn,QWu,QV9,QWa,QV2,QWJ,eE,seval]
   try rfl
  ·simp only[hc,XD,decide_false,and_false,eE,seval]
 ·have b0:(k==6)=false:=by simp[hk]
  simp only[b0,XD,hk,false_and,eE,seval]

omit hb in
theorem y75:Qj Tryz.prog 75 [vv k b t l p s r] (vv k (XD k b) t l p s r):=by
 refine k75.fn (by simp) ?_;simp only[vv,eE,seval];by_cases hk:k=6
 ·have b0:(k==6)=true:=by simp[hk]
  simp only[b0,eE,seval];refine Qb (QP7 b) rfl rfl rfl (.inl rfl) ?_;simp only[V8,Qa,seval];by_cases hc:Wx b=0
  ·simp only[hc,XD,hk,decide_true,and_self,splice,QWk,QWV,QWn,QWu,QV9,QWa,QV2,QWJ,eE,seval]
   try rfl
  ·simp only[hc,XD,decide_false,and_false,eE,seval]
 ·have b0:(k==6)=false:=by simp[hk]
  simp only[b0,XD,hk,false_and,eE,seval]

def Q8:R :=
 if k=1∨k=4∨k=5∨k=9 then⟨0,0,b,[]⟩else if k=2∨k=3 then⟨0,1,(KM (IntKind.i64.wrap (b:Int))).toNat,[]⟩
 else if k=6 then⟨0,2,XD k b,[]⟩else if k=7∨k=8 then⟨0,3,0,t⟩else zr

theorem y25:Qj Tryz.prog 25 [vv k b t l p s r] (Q8 k b t).av:=by
  have hn:=y51 k b hb t l p s r;simp only[vv]at hn;have hw0 : -9223372036854775808≤IntKind.i64.wrap (b:Int):=by rw[QG];omega
  have hw1:IntKind.i64.wrap (b:Int)<9223372036854775808:=by rw[QG];omega
  have hz:=c50 (IntKind.i64.wrap (b:Int)) hw0 hw1;have hzn:(((KM (IntKind.i64.wrap (b:Int))).toNat:Nat):Int)=KM (IntKind.i64.wrap (b:Int)):=Int.toNat_of_nonneg (YL _);refine k25.fn (by simp) ?_;simp only[vv,eE,seval];by_cases h1:k=1∨k=4∨k=5∨k=9
  · have hs:Q8 k b t=⟨0,0,b,[]⟩:=by unfold Q8;rw[QWg h1]
    rcases h1 with rfl|rfl|rfl|rfl<;>simp only[hs,R.av,seval,splice,QWk,QWV,QWn,QWu,QV9,QWa,QV2,QWJ,eE]<;>rfl
  have hk1:(k==1)=false:=by simp;omega
  have hk4:(k==4)=false:=by simp;omega
  have hk5:(k==5)=false:=by simp;omega
  have hk9:(k==9)=false:=by simp;omega
  by_cases h2:k=2∨k=3
  · have hs:Q8 k b t=⟨0,1,(KM (IntKind.i64.wrap (b:Int))).toNat,[]⟩:=by unfold Q8;rw[QV1 h1,QWg h2]
    rcases h2 with rfl|rfl <;>
      (simp only[seval,eE]
       refine Qb hz rfl rfl rfl (.inl rfl) ?_;simp only[hs,R.av,hzn,splice,QWk,QWV,QWn,QWu,QV9,QWa,QV2,QWJ,eE,seval])
  have hk2:(k==2)=false:=by simp;omega
  have hk3:(k==3)=false:=by simp;omega
  by_cases h6:k=6
  · have hs:Q8 k b t=⟨0,2,XD k b,[]⟩:=by unfold Q8;rw[QV1 h1,QV1 h2,QWg h6]
    have b6:(k==6)=true:=by simp[h6]
    simp only[hk1,hk4,hk5,hk9,hk2,hk3,b6,QWk,QWu,QV2,QWJ,eE,seval];refine Qb hn rfl rfl rfl (.inl rfl) ?_;simp only[hs,R.av,splice,QWk,QWV,QWn,QWu,QV9,QWa,QV2,QWJ,eE,seval]
  have hk6:(k==6)=false:=by simp;omega
  by_cases h7:k=7∨k=8
  · have hs:Q8 k b t=⟨0,3,0,t⟩:=by unfold Q8;rw[QV1 h1,QV1 h2,QV1 h6,QWg h7]
    rcases h7 with rfl|rfl<;>simp only[hs,R.av,seval,splice,QWk,QWV,QWn,QWu,QV9,QWa,QV2,QWJ,eE]<;>rfl
  have hk7:(k==7)=false:=by simp;omega
  have hk8:(k==8)=false:=by simp;omega
  have hs:Q8 k b t=zr:=by unfold Q8;rw[QV1 h1,QV1 h2,QV1 h6,QV1 h7]
  simp only[hk1,hk4,hk5,hk9,hk2,hk3,hk6,hk7,hk8,hs,zr,R.av,splice,QWk,QWV,QWn,QWu,QWa,QV2,QWJ,eE,seval]
  try rfl

omit hb in
theorem y39:Qj Tryz.prog 39 [vv k b t l p s r] (Q8 k b t).av:=by
  have hn:=y75 k b t l p s r;simp only[vv]at hn;have hw0 : -9223372036854775808≤IntKind.i64.wrap (b:Int):=by rw[QG];omega
  have hw1:IntKind.i64.wrap (b:Int)<9223372036854775808:=by rw[QG];omega
  have hz:=c74 (IntKind.i64.wrap (b:Int)) hw0 hw1;have hzn:(((KM (IntKind.i64.wrap (b:Int))).toNat:Nat):Int)=KM (IntKind.i64.wrap (b:Int)):=Int.toNat_of_nonneg (YL _);refine k39.fn (by simp) ?_;simp only[vv,eE,seval];by_cases h1:k=1∨k=4∨k=5∨k=9
  · have hs:Q8 k b t=⟨0,0,b,[]⟩:=by unfold Q8;rw[QWg h1]
    rcases h1 with rfl|rfl|rfl|rfl<;>simp only[hs,R.av,seval,splice,QWk,QWV,QWn,QWu,QV9,QWa,QV2,QWJ,eE]<;>rfl
  have hk1:(k==1)=false:=by simp;omega
  have hk4:(k==4)=false:=by simp;omega
  have hk5:(k==5)=false:=by simp;omega
  have hk9:(k==9)=false:=by simp;omega
  by_cases h2:k=2∨k=3
  · have hs:Q8 k b t=⟨0,1,(KM (IntKind.i64.wrap (b:Int))).toNat,[]⟩:=by unfold Q8;rw[QV1 h1,QWg h2]
    rcases h2 with rfl|rfl <;>
      (simp only[seval,eE]
       refine Qb hz rfl rfl rfl (.inl rfl) ?_;simp only[hs,R.av,hzn,splice,QWk,QWV,QWn,QWu,QV9,QWa,QV2,QWJ,eE,seval])
  have hk2:(k==2)=false:=by simp;omega
  have hk3:(k==3)=false:=by simp;omega
  by_cases h6:k=6
  · have hs:Q8 k b t=⟨0,2,XD k b,[]⟩:=by unfold Q8;rw[QV1 h1,QV1 h2,QWg h6]
    have b6:(k==6)=true:=by simp[h6]
    simp only[hk1,hk4,hk5,hk9,hk2,hk3,b6,QWk,QWu,QV2,QWJ,eE,seval];refine Qb hn rfl rfl rfl (.inl rfl) ?_;simp only[hs,R.av,splice,QWk,QWV,QWn,QWu,QV9,QWa,QV2,QWJ,eE,seval]
  have hk6:(k==6)=false:=by simp;omega
  by_cases h7:k=7∨k=8
  · have hs:Q8 k b t=⟨0,3,0,t⟩:=by unfold Q8;rw[QV1 h1,QV1 h2,QV1 h6,QWg h7]
    rcases h7 with rfl|rfl<;>simp only[hs,R.av,seval,splice,QWk,QWV,QWn,QWu,QV9,QWa,QV2,QWJ,eE]<;>rfl
  have hk7:(k==7)=false:=by simp;omega
  have hk8:(k==8)=false:=by simp;omega
  have hs:Q8 k b t=zr:=by unfold Q8;rw[QV1 h1,QV1 h2,QV1 h6,QV1 h7]
  simp only[hk1,hk4,hk5,hk9,hk2,hk3,hk6,hk7,hk8,hs,zr,R.av,splice,QWk,QWV,QWn,QWu,QWa,QV2,QWJ,eE,seval]
  try rfl

end

end Go.Proofs.YtipjfckmopekaaaGreatDoor.Va

namespace Go.Proofs.YtipjfckmopekaaaGreatDoor.Va
open Go Am Rc Bt Vp

def bl (l:List UInt8):List AV:=l.map fun b=>.int .u8 (b.toNat:Int)
theorem KN (a b:List UInt8):bl (a++b)=bl a++bl b:=by simp[bl]
theorem KO (a:List UInt8):(bl a).length=a.length:=by simp[bl]
theorem Jt (l:List UInt8):bytesOf (bl l)=some l:=by
 induction l with
 |nil=>rfl
 |cons b l ih=>
  show(bytesOf (bl l)).map _=_;rw[ih];simp

theorem QIe (u:Nat):(u:Int).fdiv (2 ^ min 7 64)=((u / 128:Nat):Int):=by
 rw[show min 7 64=7 from rfl,QXQ _ (show(0:Int)≤2 ^ 7 by decide)];omega

theorem QIf (u:Nat):bits .or .u8 (IntKind.u8.wrap (u:Int)) 128=((UInt8.ofNat (u % 128+128)).toNat:Int):=by
 rw[MU];have h:∀n:Fin 256,bits .or .u8 ((n.val:Nat):Int) 128=((n.val % 128+128:Nat):Int):=by decide +kernel
 have:=h ⟨u % 256,by omega⟩;simp only at this;rw[show((u:Int) % 256)=((u % 256:Nat):Int)by omega,this,toNat_ofNat _ (by omega)];omega

theorem Qw9 (u:Nat)(h:u<128):IntKind.u8.wrap (u:Int)=((UInt8.ofNat u).toNat:Int):=by
 rw[MU,toNat_ofNat _ (by omega)];omega

def Qxa (u0:Nat)(k:Nat)(st:St):Prop :=
 ∃f fr u g j l,st=⟨f,[fr],[]⟩∧k=u∧f 0=.int .u64 (u:Nat)∧f 3=.vec 0 3 g 0 l.length false∧fr 3=.vec g 1 (bl l)∧u<Uh (9-j)∧l.length+j=9∧l++KT j u=Vp.put u0

theorem Cq (u:Nat)(hu:u<18446744073709551616):Qj Tryz.prog 108 [.int .u64 u] (.str (Vp.put u)):=by
 refine Qct.fn (by simp) ?_;simp only[Ka,seval];refine XL rfl rfl ?_;simp only[Ka,seval];refine Qd (Qxa u) u ⟨_,_,u,1,9,[],rfl,rfl,rfl,rfl,rfl,hu,rfl,rfl⟩ ?_;rintro n st ⟨f,fr,v,g,j,l,rfl,rfl,h0,h3,hv,hlt,hj,hl⟩;simp only[h0,Ka,seval];refine Q1 (fun h=>?_) (fun h=>?_)
 ·have h:128≤n:=by(have h:(128:Int)≤n:=(by simpa using h));omega
  obtain⟨j,rfl⟩:∃i,j=i+1:=⟨j-1,by
   rcases QWB j with rfl|hp
   ·simp[Uh]at hlt;omega
   ·omega⟩
  simp only[h0,h3,Ka,seval];refine JS rfl ?_;refine QI rfl hv rfl (KO l).symm rfl rfl (by simp[maxLen];omega) (by simp;omega) ?_;simp only[h0,QIe,QIf,Ka,seval];refine⟨n / 128,by omega,_,_,n / 128,g+1,j,l++[UInt8.ofNat (n % 128+128)],rfl,rfl,rfl,?_,?_,?_,?_,?_⟩
  ·simp only[QWp,QV2,QWJ,Ka,seval]
  ·simp only[QR,KN]<;>rfl
  ·have:=DU (9-(j+1)) n (by omega) hlt
   rwa [show 9-(j+1)+1=9-j by omega]at this
  ·simp;omega
  ·rw[←hl,Bm j n (by omega)];simp
 ·have h:n<128:=by(have h:(n:Int)<128:=(by simpa using h));omega
  simp only[h0,h3,Ka,seval];refine JS rfl ?_;refine QI rfl hv rfl (KO l).symm rfl rfl (by simp[maxLen];omega) (by simp;omega) ?_;have he:=JT (m:=[]) (fr:=QJ fr 3 (.vec (g+1) 1 (bl l++[.int .u8 ((UInt8.ofNat n).toNat:Int)]))) (site:=3) (g:=g+1) (sz:=1) (n:=l.length+(0+1)) (q:=false) rfl (by simp[bl]);have hb:bytesOf (bl l++[.int .u8 ((UInt8.ofNat n).toNat:Int)])=some (l++[UInt8.ofNat n]):=by
   have:=Jt (l++[UInt8.ofNat n])
   rwa [KN]at this
  simp only[Qw9 n h,he,hb,Ka,seval];rw[←hl,Gu j n h]

theorem LZ (n:Nat):(n:Int).tmod 128=((n % 128:Nat):Int):=by
 rw[QXL (by omega)];omega
theorem L0 (n:Nat)(h:n<18446744073709551616):IntKind.u64.wrap ((n:Int).tdiv 128)=((n / 128:Nat):Int):=by
 rw[Int.tdiv_eq_ediv_of_nonneg (by omega),Jc];omega
theorem Qxb (n:Nat):IntKind.u8.wrap (IntKind.u64.wrap (((n % 128:Nat):Int)+128))=((UInt8.ofNat (n % 128+128)).toNat:Int):=by
 rw[Jc,MU,toNat_ofNat _ (by omega)];omega
theorem L1 (i n:Nat)(h:n<Uh i):n<18446744073709551616:=by
 refine Nat.lt_of_lt_of_le h ?_;unfold Uh;exact Nat.pow_le_pow_right (by omega) (by omega:64-7*i≤64)

theorem Pz (u:Nat)(hu:u<18446744073709551616):Qj Tryz.prog 68 [.int .u64 u] (.str (Vp.put u)):=by
 refine k68.fn (by simp) ?_;simp only[Ka,seval];refine XL rfl rfl ?_;simp only[Ka,seval];refine Qd (Qxa u) u ⟨_,_,u,1,9,[],rfl,rfl,rfl,rfl,rfl,hu,rfl,rfl⟩ ?_;rintro n st ⟨f,fr,v,g,j,l,rfl,rfl,h0,h3,hv,hlt,hj,hl⟩;simp only[h0,Ka,seval];refine Q1 (fun h=>?_) (fun h=>?_)
 ·have h:128≤n:=by(have h:(128:Int)≤n:=(by simpa using h));omega
  obtain⟨j,rfl⟩:∃i,j=i+1:=⟨j-1,by
   rcases QWB j with rfl|hp
   ·simp[Uh]at hlt;omega
   ·omega⟩
  simp only[h0,h3,LZ,Qxb,seval,Ka];refine JS rfl ?_;refine QI rfl hv rfl (KO l).symm rfl rfl (by simp[maxLen];omega) (by simp;omega) ?_;simp only[h0,L0 n (L1 _ _ hlt),Ka,seval];refine⟨n / 128,by omega,_,_,n / 128,g+1,j,l++[UInt8.ofNat (n % 128+128)],rfl,rfl,rfl,?_,?_,?_,?_,?_⟩
  ·simp only[QWp,QV2,QWJ,Ka,seval]
  ·simp only[QR,KN]<;>rfl
  ·have:=DU (9-(j+1)) n (by omega) hlt
   rwa [show 9-(j+1)+1=9-j by omega]at this
  ·simp;omega
  ·rw[←hl,Bm j n (by omega)];simp
 ·have h:n<128:=by(have h:(n:Int)<128:=(by simpa using h));omega
  simp only[h0,h3,Ka,seval];refine JS rfl ?_;refine QI rfl hv rfl (KO l).symm rfl rfl (by simp[maxLen];omega) (by simp;omega) ?_;have he:=JT (m:=[]) (fr:=QJ fr 3 (.vec (g+1) 1 (bl l++[.int .u8 ((UInt8.ofNat n).toNat:Int)]))) (site:=3) (g:=g+1) (sz:=1) (n:=l.length+(0+1)) (q:=false) rfl (by simp[bl]);have hb:bytesOf (bl l++[.int .u8 ((UInt8.ofNat n).toNat:Int)])=some (l++[UInt8.ofNat n]):=by
   have:=Jt (l++[UInt8.ofNat n])
   rwa [KN]at this
  simp only[Qw9 n h,he,hb,Ka,seval];rw[←hl,Gu j n h]

open Cp

theorem Qxc {a:Nat}(h:¬a=0):((a:Int) != 0)=true:=by simp[h]
def fx:Nat→Nat→List UInt8
 |0,_=>[]
 |k+1,u=>UInt8.ofNat (u % 256) :: fx k (u / 256)

theorem GY (k u:Nat):(fx k u).length=k:=by
 induction k generalizing u with
 |zero=>rfl
 |succ k ih=>simp[fx,ih]

theorem L2 (k u:Nat):fx (k+1) u=fx k u++[UInt8.ofNat (u / 256 ^ k % 256)]:=by
 induction k generalizing u with
 |zero=>simp[fx]
 |succ k ih=>
  rw[fx,ih (u / 256)];simp only[fx,QV9,Nat.div_div_eq_div_mul,Nat.pow_succ,Nat.mul_comm]

theorem BU:∀(l:List UInt8),l.foldr (fun b v=>256*v+b.toNat) 0<256 ^ l.length
 | []=>by simp
 |b :: l=>by
  have h:=BU l;have hb:=b.toNat_lt;rw[List.foldr_cons,QV2,Nat.pow_succ];omega

def hi8 (s:List UInt8)(i:Nat):Nat:=((s.take 8).drop i).foldr (fun b v=>256*v+b.toNat) 0

open Up

theorem Qxd (w:Int):Qj Tryz.prog 107 [.int .i64 w] (.bool (ZG w)):=by
 refine Qcj.fn (by simp) ?_;simp only[Qa,seval]
 repeat' (first|(refine Q1 (fun h=>?_) (fun h=>?_)<;>simp only[h,eE,seval])|(refine Xz (fun h=>?_) (fun h=>?_)<;>simp only[h,Qo,eE,seval])|(refine XA (fun h=>?_) (fun h=>?_)<;>simp only[h,Qo,Qa,seval]))
 all_goals simp_all[ZG]

theorem c67 (w:Int):Qj Tryz.prog 67 [.int .i64 w] (.bool (ZG w)):=by
 refine k67.fn (by simp) ?_;simp only[Qa,seval]
 repeat' (first|(refine Q1 (fun h=>?_) (fun h=>?_)<;>simp only[h,eE,seval])|(refine Xz (fun h=>?_) (fun h=>?_)<;>simp only[h,Qo,eE,seval])|(refine XA (fun h=>?_) (fun h=>?_)<;>simp only[h,Qo,Qa,seval]))
 all_goals simp_all[ZG]

theorem DZ {n w:Int}(h:¬(n<1∨65535<n∨w<0∨6<w)):IntKind.u64.wrap (IntKind.i64.wrap (IntKind.i64.wrap (n*8)+w))=((n*8+w).toNat:Nat)∧(n*8+w).toNat<18446744073709551616:=by
 simp only[Jc,QG];omega

theorem Qxe (n w:Int):Qj Tryz.prog 104 [.int .i64 n,.int .i64 w] (Uk (XY n w)):=by
 refine Qb7.fn (by simp) ?_;simp only[Qa,seval];by_cases hb:n<1∨65535<n∨w<0∨6<w
 ·repeat' (first|(refine Q1 (fun h=>?_) (fun h=>?_)<;>simp only[h,Qa,seval])|(refine Xz (fun h=>?_) (fun h=>?_)<;>simp only[h,Qo,eE,seval])|(refine XA (fun h=>?_) (fun h=>?_)<;>simp only[h,Qo,Qa,seval]))
  all_goals first
   |(rw[XY,QWg hb]<;>rfl)
   |(exfalso;simp only[QXE]at *;omega)
 ·obtain⟨e1,e2⟩:=DZ hb;have d1:decide (n<1)=false:=by simp;omega
  have d2:decide (65535<n)=false:=by simp;omega
  have d3:decide (w<0)=false:=by simp;omega
  have d4:decide (6<w)=false:=by simp;omega
  simp only[d1,d2,d3,d4,e1,Qa,seval];refine Qb (Cq _ e2) rfl rfl rfl (.inl rfl) ?_;rw[XY,QV1 hb];simp only[Uk,Qa,seval]
  try rfl

theorem c65 (n w:Int):Qj Tryz.prog 65 [.int .i64 n,.int .i64 w] (Uk (XY n w)):=by
 refine k65.fn (by simp) ?_;simp only[Qa,seval];by_cases hb:n<1∨65535<n∨w<0∨6<w
 ·repeat' (first|(refine Q1 (fun h=>?_) (fun h=>?_)<;>simp only[h,Qa,seval])|(refine Xz (fun h=>?_) (fun h=>?_)<;>simp only[h,Qo,eE,seval])|(refine XA (fun h=>?_) (fun h=>?_)<;>simp only[h,Qo,Qa,seval]))
  all_goals first
   |(rw[XY,QWg hb]<;>rfl)
   |(exfalso;simp only[QXE]at *;omega)
 ·obtain⟨e1,e2⟩:=DZ hb;have d1:decide (n<1)=false:=by simp;omega
  have d2:decide (65535<n)=false:=by simp;omega
  have d3:decide (w<0)=false:=by simp;omega
  have d4:decide (6<w)=false:=by simp;omega
  simp only[d1,d2,d3,d4,e1,Qa,seval];refine Qb (Pz _ e2) rfl rfl rfl (.inl rfl) ?_;rw[XY,QV1 hb];simp only[Uk,Qa,seval]
  try rfl

theorem YM (d:C):0≤d.left∧d.left≤(d.d.length:Int):=by
 have hr:=d.rest_len;have hs:=C.sound_iff d;split at hr
 ·rename_i h;have:=hs.1 h;omega
 ·omega

def sg:Nat→C→List R×Nat
 |0,_=>([],0)
 |k+1,c=>
  if 0<c.left then
   let r:=Yb c
   if r.2.2=0 then
    let t:=sg k r.2.1
    if t.2=0 then(r.1 :: t.1,0)else([],t.2)
   else([],r.2.2)
  else([],0)

def Qxf (s:List UInt8)(l:L):List R×Nat :=
 let o:=opn s l
 if o.2=0 then sg s.length o.1 else([],o.2)

def K0 (l:List R):List AV:=l.map R.av
theorem N9 (a:List R):(K0 a).length=a.length:=by simp[K0]

theorem Cr {c:C}(hl:c.d.length≤9223372036854775807)(h:c.fixed.2.2=0):c.sound=true∧8≤c.left∧c.fixed.2.1={ c with a:=c.a+8 }∧c.fixed.1<2 ^ 64:=by
 unfold C.fixed at h ⊢;split at h
 ·cases h
 ·rename_i hr;have hne:c.rest≠[]:=by intro e;rw[e]at hr;simp at hr
  have hs:=Bq hne;have hs':=(C.sound_iff c).1 hs;have hle:=c.rest_len;rw[QWg hs]at hle;have h8:8≤c.left:=by unfold C.left;omega
  have hw:IntKind.i64.wrap (c.a+8)=c.a+8:=by rw[QG];omega
  refine⟨hs,h8,?_,?_⟩
  ·rw[QV1 hr];simp only[C.ahead,hw]
  ·rw[QV1 hr];have h1:=BU (c.rest.take 8);rw[QWK,QW2 (by omega)]at h1;have:(256:Nat) ^ 8=2 ^ 64:=by decide
   show Rw c.rest<2 ^ 64;unfold Rw;omega

structure Step (c d:C):Prop where
 n:∃k:Nat,d={ c with a:=c.a+k,nd:=d.nd }∧0<k∧(k:Int)≤c.left
 sound:c.sound=true

theorem Step.left {c d:C}(h:Step c d):d.sound=true∧d.left<c.left∧0≤d.left∧d.d=c.d∧d.left=c.left-(d.a-c.a):=by
 obtain⟨⟨k,h1,h2,h3⟩,h4⟩:=h;have hs:=(C.sound_iff c).1 h4;have hc:=c.rest_len;rw[QWg h4]at hc;have e1:d.a=c.a+k:=by rw[h1]
 have e2:d.e=c.e:=by rw[h1]
 have e3:d.d=c.d:=by rw[h1]
 have hd:d.sound=true:=by
  rw[C.sound_iff,e1,e2,e3];omega
 have hdl:=d.rest_len;rw[QWg hd]at hdl;exact⟨hd,by omega,by omega,e3,by omega⟩

theorem BW {c:C}(hl:c.d.length≤9223372036854770000)(h:(Yb c).2.2=0):Step c (Yb c).2.1:=by
 unfold Yb at h ⊢;simp only at h ⊢;split at h
 ·rename_i ht;split at h
  ·rename_i hs;split at h
   ·rename_i hk;rw[QWg ht,QWg hs,QWg hk]
    -- the XY
    unfold NW at ht hs hk ⊢;simp only at ht hs hk ⊢;split at ht
    ·rename_i hv;rw[QWg hv]at hs hk ⊢;split at ht
     ·cases ht
     ·rename_i h7;rw[QV1 h7]at hs hk ⊢;split at ht
      ·cases ht
      ·rename_i h8;rw[QV1 h8]at hs hk ⊢;simp only at hs hk ⊢;obtain⟨n,g1,g2,g3,g4,g5,g6,g7⟩:=W3 (c:=c) (by omega) hv;rw[g4]at hs hk ⊢;have hsc:=(C.sound_iff c).1 g5;have hcl:=c.rest_len;rw[QWg g5]at hcl
       -- the value Fe
       unfold C.spend at hs hk ⊢;split at hs
       ·cases hs
       ·rename_i s1;rw[QV1 s1]at hk ⊢;split at hs
        ·cases hs
        ·rename_i s2;rw[QV1 s2]at hk ⊢;simp only at hk ⊢;generalize hd:({ d:=c.d,a:=c.a+n,e:=c.e,dp:=c.dp,nd:=IntKind.i64.wrap (c.nd-1),tx:=c.tx }:C)=d at hk ⊢;have q1:d.d=c.d:=by rw[←hd]
         have q2:d.a=c.a+n:=by rw[←hd]
         have q3:d.e=c.e:=by rw[←hd]
         have q4:d.dp=c.dp:=by rw[←hd]
         have q5:d.tx=c.tx:=by rw[←hd]
         have hdl:d.left≤c.left-n:=by
          have:=d.rest_len;split at this
          ·omega
          ·omega
         have mk:∀(d':C) (j:Nat),d'={ d with a:=d.a+j }→(j:Int)≤d.left→Step c d':=by
          intro d' j e hj;refine⟨⟨n+j,?_,by omega,by omega⟩,g5⟩;rw[e];obtain⟨_,_,_,_,_,_⟩:=d;simp only at q1 q2 q3 q4 q5;subst q1 q2 q3 q4 q5;simp only[C.mk.injEq,QWE,and_true];omega
         -- the contents
         unfold QvK at hk ⊢;split at hk
         ·rename_i w2;rw[QWg w2];obtain⟨f1,f2,f3,f4⟩:=Cr (c:=d) (by rw[q1];omega) hk;exact mk _ 8 f3 f2
         ·rename_i w2;rw[QV1 w2];split at hk
          ·rename_i w1;rw[QWg w1];obtain⟨j,f1,f2,f3,f4,f5,f6,f7⟩:=W3 (c:=d) (by rw[q1];omega) hk;exact mk _ j f4 f3
          ·rename_i w1;rw[QV1 w1];simp only at hk ⊢;unfold Bp at hk ⊢;simp only at hk ⊢;split at hk
           ·rename_i hv2;rw[QWg hv2];by_cases hu:d.varint.2.1.left<(d.varint.1:Int)
            ·rw[QWg hu]at hk;cases hk
            ·rw[QV1 hu]at hk ⊢;by_cases hm:(if ((c.varint.1 % 8:Nat):Int)=3 then d.tx else 65536)<(d.varint.1:Int)
             ·rw[QWg hm]at hk;cases hk
             ·rw[QV1 hm];obtain⟨j,f1,f2,f3,f4,f5,f6,f7⟩:=W3 (c:=d) (by rw[q1];omega) hv2;have hs2:=(C.sound_iff d).1 f5;have hl2:=d.rest_len;rw[QWg f5]at hl2;have hl3:=d.varint.2.1.rest_len;rw[QWg f6,f4]at hl3;rw[f4]at hu;simp only at hl3;have hdl':(d.d.length:Int)=c.d.length:=by rw[q1]
              have hw:IntKind.i64.wrap (d.a+(j:Int)+(d.varint.1:Int))=d.a+j+d.varint.1:=by
               rw[QG];omega
              refine mk _ (j+d.varint.1) ?_ (by omega);rw[f4];simp only[C.ahead,hw,C.mk.injEq,QWE,and_true];omega
           ·rename_i hv2;exact absurd hk hv2
    ·rename_i hv;exact absurd ht hv
   ·rename_i hk;exact absurd h hk
  ·rename_i hs;exact absurd h hs
 ·rename_i ht;exact absurd h ht

structure ScanS (s:List UInt8)(l:L)(c:C)(acc:List R):Prop where
 len:c.d.length=s.length
 all:Qxf s l=(if (sg c.left.toNat c).2=0 then(acc++(sg c.left.toNat c).1,0)else([],(sg c.left.toNat c).2))
 acc:(acc.length:Int)+c.left≤s.length

theorem Du:∀(k:Nat) (c:C),c.d.length≤9223372036854770000→c.left≤k→sg k c=sg c.left.toNat c
 |0,c,hl,h=>by
  have:=(YM c).1;rw[show c.left.toNat=0 by omega]
 |k+1,c,hl,h=>by
  have hlb:=YM c;by_cases h0:0<c.left
  ·obtain⟨j,hj⟩:∃j,c.left.toNat=j+1:=⟨c.left.toNat-1,by omega⟩;rw[hj,sg,sg,QWg h0,QWg h0];by_cases hn:(Yb c).2.2=0
   ·obtain⟨_,s2,s3,s4,_⟩:=(BW hl hn).left;simp only[hn,if_true];have hl':(Yb c).2.1.d.length≤9223372036854770000:=by rw[s4];exact hl
    rw[Du k _ hl' (by omega),Du j _ hl' (by omega)]
   ·simp only[hn,if_false]
  ·have e:c.left.toNat=0:=by omega
   rw[e];simp only[sg,h0,if_false]

theorem ScanS.done {s:List UInt8}{l:L}{c:C}{acc:List R}(h:ScanS s l c acc)(h0:¬0<c.left):Qxf s l=(acc,0):=by
 have:=h.all;have hb:=(YM c).1;rw[show c.left.toNat=0 by omega]at this
 simpa [sg]using this

theorem ScanS.step {s:List UInt8}{l:L}{c:C}{acc:List R}(hl:s.length≤9223372036854770000)(h:ScanS s l c acc)(h0:0<c.left)(hn:(Yb c).2.2=0):ScanS s l (Yb c).2.1 (acc++[(Yb c).1])∧(Yb c).2.1.left<c.left∧0≤(Yb c).2.1.left:=by
 have hcl:c.d.length≤9223372036854770000:=by rw[h.len];exact hl
 obtain⟨_,s2,s3,s4,_⟩:=(BW hcl hn).left;refine⟨⟨by rw[s4];exact h.len,?_,?_⟩,s2,s3⟩
 ·have:=h.all;obtain⟨j,hj⟩:∃j,c.left.toNat=j+1:=⟨c.left.toNat-1,by omega⟩;rw[hj,sg]at this;simp only[h0,hn,if_true]at this;rw[Du j _ (by rw[s4];exact hcl) (by omega)]at this;rw[this];by_cases hs:(sg (Yb c).2.1.left.toNat (Yb c).2.1).2=0
  ·simp[hs]
  ·simp[hs]
 ·have:=h.acc;simp;omega

end Go.Proofs.YtipjfckmopekaaaGreatDoor.Va

namespace Go.Proofs.YtipjfckmopekaaaGreatDoor.Va
open Go Am Rc Bt Vp Cp

def Qxg (u:Nat)(k:Nat)(st:St):Prop :=
 ∃f fr i,st=⟨f,[fr],[]⟩∧k=8-i∧i≤8∧f 0=.int .u64 (u:Nat)∧f 3=.vec 0 5 1 0 8 false∧f 7=.int .i64 8∧f 8=.int .i64 (i:Nat)∧fr 5=.vec 1 1 (QB (fx i u)++List.replicate (8-i) (AV.int .u8 0))

theorem L3 (u i:Nat)(hi:i<8):IntKind.u8.wrap ((u:Int).fdiv (2 ^ min (8*i) 64))=((UInt8.ofNat (u / 256 ^ i % 256)).toNat:Int):=by
 have hp:(256:Nat) ^ i=2 ^ (8*i):=by rw[Nat.pow_mul]
 rw[QW2 (by omega),QXQ _ (Int.le_of_lt (Int.pow_pos (by decide))),toNat_ofNat _ (Nat.mod_lt _ (by decide)),hp,MU];have:(u:Int) / 2 ^ (8*i)=((u / 2 ^ (8*i):Nat):Int):=by push_cast;rfl
 rw[this];omega

theorem Qxh (u:Nat):Qj Tryz.prog 106 [.int .u64 u] (.str (fx 8 u)):=by
 refine QKZ.fn (by simp) ?_;simp only[Qa,seval];refine UG (n:=8) (k:=8) rfl rfl (QVL _) (by decide) (by decide) rfl ?_;simp only[eE,seval];refine Qd (Qxg u) 8 ?_ ?_
 ·exact⟨_,_,0,rfl,rfl,by omega,rfl,rfl,rfl,rfl,rfl⟩
 rintro n st ⟨f,fr,i,rfl,rfl,hi,h0,h3,h7,h8,m5⟩;simp only[h7,h8,Qa,seval];have hlen:(QB (fx i u)).length=i:=by simp[QB,GY]
 by_cases hlt:i<8
 ·have d0:decide ((i:Int)<8)=true:=by simp;omega
  have e0:IntKind.i64.wrap (8*(i:Int))=((8*i:Nat):Int):=by rw[QG];omega
  have n0:(0≤((8*i:Nat):Int))=True:=eq_true (by omega);have n1:(0≤(i:Int))=True:=by simp
  have n2:(i<8)=True:=eq_true hlt;have e1:IntKind.i64.wrap ((i:Int)+1)=((i+1:Nat):Int):=by rw[QG];omega
  have hb:=L3 u i hlt;obtain⟨j,hj⟩:∃j,8-i=j+1:=⟨7-i,by omega⟩;have hget:(QB (fx i u)++List.replicate (8-i) (AV.int .u8 0))[0+i]? = some (.int .u8 0):=by
   rw[QWt,QXd (by omega),hlen,Nat.sub_self,hj];rfl
  have hset:(QB (fx i u)++List.replicate (8-i) (AV.int .u8 0)).set (0+i) (AV.int .u8 ((UInt8.ofNat (u / 256 ^ i % 256)).toNat:Int))=QB (fx (i+1) u)++List.replicate (8-(i+1)) (AV.int .u8 0):=by
   rw[QWt,L2,List.set_append_right _ _ (by omega),hlen,Nat.sub_self,hj,show 8-(i+1)=j by omega];simp[QB,List.replicate_succ]
  simp only[d0,e0,n0,n1,n2,e1,hb,QXe,Qc,hget,ZC,AV.rfL,AV.rf,hset,h0,h3,h8,m5,eE,seval];exact⟨8-(i+1),by omega,_,_,i+1,rfl,rfl,by omega,by simp only[h0,Qa,seval],by simp only[h3,Qa,seval],by simp only[h7,Qa,seval],by simp only[Qa,seval],by simp only[Qa,seval]⟩
 ·have hi8:i=8:=by omega
  subst hi8;have d0:decide (((8:Nat):Int)<8)=false:=rfl;rw[Nat.sub_self,List.replicate_zero,QWQ]at m5;have he:=JT (m:=[]) (fr:=fr) (site:=5) (g:=1) (sz:=1) (n:=8) (q:=false) m5 (by simp[QB,GY]);have hbo:bytesOf (QB (fx 8 u))=some (fx 8 u):=Jt _;simp only[he,hbo,h3,Qa,seval]

open Up

def valid (f:R):Bool:=(XY f.num f.wire).2==0&&(if ZG f.wire then f.data==[]else f.bits==0)

theorem Vb (n:Nat):(((n:Nat):Int)==0)=(n==0):=by
 by_cases h:n=0
 ·subst h;rfl
 ·rw[QXt.2 h,QXt.2 (by omega)]

theorem QRg (f:R):Qj Tryz.prog 103 [f.av] (.bool (valid f)):=by
 refine Qb0.fn (by simp) ?_;simp only[R.av,eE,seval];refine Qb (Qxe f.num f.wire) rfl rfl rfl (.inl rfl) ?_;unfold valid;generalize XY f.num f.wire=t;obtain⟨s,e⟩:=t;simp only[Uk,Qa,seval];by_cases he:e=0
 ·subst he;simp only[eE,seval];refine Qb (Qxd f.wire) rfl rfl rfl (.inl rfl) ?_;cases hn:ZG f.wire with
  |true=>
   simp only[QL,QWW,eE,seval]
  |false=>
   simp only[Vb,QWW,eE,seval]
 ·simp only[Qxc he,Qa,seval];simp[he]

theorem c64 (f:R):Qj Tryz.prog 64 [f.av] (.bool (valid f)):=by
 refine k64.fn (by simp) ?_;simp only[R.av,eE,seval];refine Qb (c65 f.num f.wire) rfl rfl rfl (.inl rfl) ?_;unfold valid;generalize XY f.num f.wire=t;obtain⟨s,e⟩:=t;simp only[Uk,eE,seval];refine Qb (c67 f.wire) rfl rfl rfl (.inl rfl) ?_;by_cases he:e=0
 ·have h1:((e:Int)==0)=true:=by simp[he]
  cases hn:ZG f.wire with
  |true=>simp only[h1,show(e==0)=true by simp[he],QL,QWW,eE,seval]
  |false=>simp only[h1,show(e==0)=true by simp[he],Vb,QWW,eE,seval]
 ·have h1:((e:Int)==0)=false:=by simp;omega
  have h2:(e==0)=false:=by simp[he]
  cases hn:ZG f.wire with
  |true=>simp only[h1,h2,QXh,Qa,seval]
  |false=>simp only[h1,h2,QXh,Qa,seval]

theorem QRh (p v:AV)(h fr:Nat→Ob)(m:Qq)(hs:fr 2128=.cells [p,v])(hp:p=.nilp∨p=.ptr 0 2128 0) :
  Qi Tryz.prog 189 [.ptr 1 2128 0] (h :: fr :: m) fun x m1=>x=.tup []∧m1=h :: QJ fr 2128 (.cells [.ptr 0 2128 0,v]) :: m:=by
 refine Qg6.go (by simp) ?_;rcases hp with rfl|rfl
 ·simp only[hs,RR.evL,eE,seval]
 ·simp only[hs,RR.evL,Al _ _ _ hs,eE,seval]

structure Bld (fr:Nat→Ob)(bs:List UInt8):Prop where
 mk ::
 cell:∃p g,fr 2128=.cells [p,.vec 0 2005 g 0 bs.length false]∧fr 2005=.vec g 1 (QB bs)∧(p=.nilp∨p=.ptr 0 2128 0)

def Kj (fr:Nat→Ob)(g:Nat)(bs:List UInt8):Nat→Ob :=
 QJ (QJ fr 2005 (.vec g 1 (QB bs))) 2128 (.cells [.ptr 0 2128 0,.vec 0 2005 g 0 bs.length false])

theorem KP (fr:Nat→Ob)(g:Nat)(bs:List UInt8):Bld (Kj fr g bs) bs :=
 ⟨_,g,by rw[Kj,QR],by rw[Kj,QS _ _ (by decide),QR],.inr rfl⟩

theorem WD {fr:Nat→Ob}{g:Nat}{bs:List UInt8}{s:Nat}(h1:s≠2005)(h2:s≠2128):Kj fr g bs s=fr s:=by
 rw[Kj,QS _ _ h2,QS _ _ h1]

theorem BX (bs t:List UInt8)(fr:Nat→Ob)(m:Qq)(h:Bld fr bs)(hl:bs.length+t.length≤140737488355328) :
  ∃g,Qi Tryz.prog 105 [.ptr 0 2128 0,.str t] (fr :: m) fun x m1=>x=.tup [.int .i64 (t.length:Int),.nili]∧m1=Kj fr g (bs++t) :: m:=by
 obtain⟨p,g,h1,h2,h3⟩:=h.cell;refine⟨g+1,?_⟩;refine Qce.go (by simp) ?_;simp only[Qa,seval];refine Qk (QRh p _ _ fr m h1 h3) rfl ?_;simp only[h1,eE,seval];refine Ua (xs:=QB bs) rfl (by simp only[h2,eE,seval]) rfl (by simp[QB]) rfl hl ?_;have hb:QB bs++QB t=QB (bs++t):=by simp[QB]
 have hn:bs.length+t.length=(bs++t).length:=by simp
 simp only[h1,hb,hn,eE,seval];rw[FI _ _ _ _ _ (by decide),Dc,FI _ _ _ _ _ (by decide),Kj]

def Fe (fr:Nat→Ob)(bs:List UInt8):Nat→Ob :=
 if bs.length=0 then fr else match fr 2005 with
  |.vec g _ _=>QJ fr 2005 (.vec (g+1) 1 [])
  |_=>fr

theorem QRi (bs:List UInt8)(fr:Nat→Ob)(m:Qq)(h:Bld fr bs)(hl:bs.length≤140737488355328) :
  Qi Tryz.prog 109 [.ptr 0 2128 0] (fr :: m) fun x m1=>x=.str bs∧m1=Fe fr bs :: m:=by
 obtain⟨p,g,h1,h2,h3⟩:=h.cell;refine Qcy.go (by simp) ?_;simp only[h1,eE,seval];refine⟨1,2005,g,bs.length,1,QB bs,by decide,rfl,h2,?_⟩;by_cases h0:bs.length=0
 ·have hb:bs=[]:=QWR h0;subst hb;simp only[Qo,h1,h2,QWJ,Int.natCast_zero,eE,seval];refine .inl ⟨rfl,rfl,?_⟩;simp only[Qo,Fe,QWJ,Qa,seval]
 ·simp only[h0,Qo,h1,h2,eE,seval];refine .inr ⟨1,g,bs.length,QB bs,bs,rfl,rfl,h2,by simp[QB],h0,QWl (by simp[QB]),?_⟩;simp only[h0,Qo,h2,Fe,eE,seval]

def body (f:R):List UInt8:=if f.wire=2 then fx 8 f.bits else if ZG f.wire then Vp.put f.bits else Vp.put f.data.length++f.data
def Yi (f:R):List UInt8:=if valid f then(XY f.num f.wire).1++body f else []
def QZ (l:List R):List UInt8:=l.flatMap Yi

theorem Bld.drop {fr:Nat→Ob}{bs:List UInt8}(h:Bld fr bs):Bld (QJ (fun i=>(fr i).scrub 5) 5 .none) bs:=by
 obtain⟨p,g,h1,h2,h3⟩:=h.cell;refine⟨p,g,?_,?_,h3⟩
 ·rw[QS _ _ (by decide),h1];rcases h3 with rfl|rfl<;>rfl
 ·rw[QS _ _ (by decide),h2];rfl

theorem Bld.put {fr:Nat→Ob}{bs:List UInt8}(h:Bld fr bs)(o:Ob):Bld (QJ fr 5 o) bs:=by
 obtain⟨p,g,h1,h2,h3⟩:=h.cell;exact⟨p,g,by rw[QS _ _ (by decide)];exact h1,by rw[QS _ _ (by decide)];exact h2,h3⟩

def T5 (l:List R)(k:Nat)(st:St):Prop :=
 ∃f fr i,st=⟨f,[fr],[]⟩∧k=l.length-i∧i≤l.length∧f 3=.ptr 0 2128 0∧f 8=.list (K0 l)∧f 9=.int .i64 (l.length:Int)∧f 10=.int .i64 (i:Nat)∧(fr 5).isRow=false∧Bld fr (QZ (l.take i))

theorem Uw (l:List R)(i:Nat)(fd:R)(h:l[i]? = some fd):QZ (l.take (i+1))=QZ (l.take i)++Yi fd:=by
 obtain⟨hi,e⟩:=QVN.1 h;rw[QV7 hi,e];simp[QZ]

theorem Vc (l:List R)(i:Nat)(fd:R)(h:l[i]? = some fd):(QZ (l.take i)).length+(Yi fd).length≤(QZ l).length:=by
 have e:QZ l=QZ (l.take (i+1))++QZ (l.drop (i+1)):=by
  unfold QZ;rw[←QXS,QW3]
 rw[e,Uw l i fd h];simp

theorem c58 (l:List R)(hb:∀fd∈l,fd.bits<18446744073709551616∧fd.data.length<9223372036854775807)(hn:l.length<9223372036854775807)(hl:(QZ l).length≤140737488355328):Qj Tryz.prog 58 [.list (K0 l)] (.str (QZ l)):=by
 refine k58.fn (by simp) ?_;simp only[eE,seval];refine JJ rfl rfl rfl rfl ?_;simp only[N9,Qa,seval];refine Qd (T5 l) _ ⟨_,_,0,rfl,rfl,QVV _,rfl,rfl,rfl,rfl,rfl,?_⟩ ?_
 ·exact⟨.nilp,1,rfl,rfl,.inl rfl⟩
 rintro n st ⟨f,fr,i,rfl,rfl,hi,h3,h8,h9,h10,m5,hB⟩;simp only[h9,h10,m5,Qa,seval];by_cases hlt:i<l.length
 ·obtain⟨fd,hfd⟩:∃fd,l[i]? = some fd:=⟨l[i],QVO hlt⟩;have hmem:=QV0 hfd;obtain⟨hb1,hb2⟩:=hb fd hmem;have hfa:(K0 l)[i]? = some fd.av:=by simp[K0,hfd]
  have hps:=Uw l i fd hfd;have hple:=Vc l i fd hfd;have d0:decide ((i:Int)<(l.length:Int))=true:=by simp;omega
  have n0:(0≤(i:Int))=True:=by simp
  have e1:IntKind.i64.wrap ((i:Int)+1)=((i+1:Nat):Int):=by rw[QG];omega
  -- how a round ends
  have fin:∀(f':Fr) (fr':Nat→Ob) (bs':List UInt8),f' 3=.ptr 0 2128 0→f' 8=.list (K0 l)→f' 9=.int .i64 (l.length:Int)→f' 10=.int .i64 (((i+1:Nat):Nat):Int)→(fr' 5).isRow=false→Bld fr' bs'→bs'=QZ (l.take i)++Yi fd→∃k,k<l.length-i∧T5 l k ⟨f',[fr'],[]⟩:=by
   intro f' fr' bs' g1 g2 g3 g4 g5 g6 g7;exact⟨l.length-(i+1),by omega,f',fr',i+1,rfl,rfl,by omega,g1,g2,g3,g4,g5,by rw[hps,←g7];exact g6⟩
  have hB1:=(hB.drop).put (.cells [.int .i64 fd.num,.int .i64 fd.wire,.int .u64 (fd.bits:Nat),.str fd.data]);rw[Dc]at hB1;simp only[d0,n0,QXe,Qc,hfa,R.av,h8,h10,eE,seval];refine Qb (QRg fd) rfl rfl rfl (.inl rfl) ?_;cases hv:valid fd with
  |false=>
   simp only[e1,h10,Qa,seval];refine fin _ _ _ ?_ ?_ ?_ ?_ ?_ hB1 ?_
   ·simp only[h3,Qa,seval]
   ·simp only[h8,Qa,seval]
   ·simp only[h9,Qa,seval]
   ·simp only[Qa,seval]
   ·simp only[Qa,seval]
   ·simp[Yi,hv]
  |true=>
   simp only[eE,seval];refine Qb (Qxe fd.num fd.wire) rfl rfl rfl (.inl rfl) ?_;simp only[Uk,Qa,seval];have hp:Yi fd=(XY fd.num fd.wire).1++body fd:=by simp[Yi,hv]
   have hpl:=congrArg List.length hp;rw[QWp]at hpl;have hbl:∀x:Nat,x≤(body fd).length→(QZ (l.take i)).length+(XY fd.num fd.wire).1.length+x≤140737488355328:=by intro x hx;omega
   have hbody:body fd=if fd.wire=2 then fx 8 fd.bits else if ZG fd.wire then Vp.put fd.bits else Vp.put fd.data.length++fd.data:=rfl
   obtain⟨g1,hw1⟩:=BX (QZ (l.take i)) (XY fd.num fd.wire).1 _ [] hB1 (by have:=hbl 0 (by omega);omega);refine Qk hw1 (by simp only[QWj,h3,Qa,seval]) ?_;have B2:=KP (QJ (fun i=>(fr i).scrub 5) 5 (.cells [.int .i64 fd.num,.int .i64 fd.wire,.int .u64 (fd.bits:Nat),.str fd.data])) g1 (QZ (l.take i)++(XY fd.num fd.wire).1);have w5:Kj (QJ (fun i=>(fr i).scrub 5) 5 (.cells [.int .i64 fd.num,.int .i64 fd.wire,.int .u64 (fd.bits:Nat),.str fd.data])) g1 (QZ (l.take i)++(XY fd.num fd.wire).1) 5=.cells [.int .i64 fd.num,.int .i64 fd.wire,.int .u64 (fd.bits:Nat),.str fd.data]:=by
    rw[WD (by decide) (by decide),QR]
   have hlen2:(QZ (l.take i)++(XY fd.num fd.wire).1).length=(QZ (l.take i)).length+(XY fd.num fd.wire).1.length:=by simp
   generalize hfr2:Kj (QJ (fun i=>(fr i).scrub 5) 5 (.cells [.int .i64 fd.num,.int .i64 fd.wire,.int .u64 (fd.bits:Nat),.str fd.data])) g1 (QZ (l.take i)++(XY fd.num fd.wire).1)=fr2 at B2 w5;simp only[w5,eE,seval];by_cases w2:fd.wire=2
   ·have dw:(fd.wire==2)=true:=by simpa using w2
    have hbo:body fd=fx 8 fd.bits:=by rw[hbody,QWg w2]
    simp only[dw,w5,eE,seval];refine Qb (Qxh fd.bits) rfl rfl rfl (.inl rfl) ?_;obtain⟨g2,hw2⟩:=BX _ (fx 8 fd.bits) _ [] B2 (by rw[hlen2];exact hbl _ (by rw[hbo];exact QVL _));refine Qk hw2 (by simp only[QWj,h3,Qa,seval]) ?_;simp only[e1,h10,Qa,seval];refine fin _ _ _ ?_ ?_ ?_ ?_ ?_ (KP _ _ _) ?_
    ·simp only[h3,Qa,seval]
    ·simp only[h8,Qa,seval]
    ·simp only[h9,Qa,seval]
    ·simp only[Qa,seval]
    ·rw[WD (by decide) (by decide),w5]<;>rfl
    ·rw[hp,hbo,QV8]
   ·have dw:(fd.wire==2)=false:=by simpa using w2
    simp only[dw,w5,eE,seval];refine Qb (Qxd fd.wire) rfl rfl rfl (.inl rfl) ?_;cases hnu:ZG fd.wire with
    |true=>
     have hbo:body fd=Vp.put fd.bits:=by rw[hbody,QV1 w2,QWg hnu]
     simp only[w5,eE,seval];refine Qb (Cq fd.bits hb1) rfl rfl rfl (.inl rfl) ?_;obtain⟨g2,hw2⟩:=BX _ (Vp.put fd.bits) _ [] B2 (by rw[hlen2];exact hbl _ (by rw[hbo];exact QVL _));refine Qk hw2 (by simp only[QWj,h3,Qa,seval]) ?_;simp only[e1,h10,Qa,seval];refine fin _ _ _ ?_ ?_ ?_ ?_ ?_ (KP _ _ _) ?_
     ·simp only[h3,Qa,seval]
     ·simp only[h8,Qa,seval]
     ·simp only[h9,Qa,seval]
     ·simp only[Qa,seval]
     ·rw[WD (by decide) (by decide),w5]<;>rfl
     ·rw[hp,hbo,QV8]
    |false=>
     have hbo:body fd=Vp.put fd.data.length++fd.data:=by rw[hbody,QV1 w2,QV1 (by rw[hnu];simp)]
     have hbn:=congrArg List.length hbo;rw[QWp]at hbn;have eu:IntKind.u64.wrap (fd.data.length:Int)=(fd.data.length:Nat):=by rw[Jc];omega
     simp only[eu,w5,eE,seval];refine Qb (Cq fd.data.length (by omega)) rfl rfl rfl (.inl rfl) ?_;obtain⟨g2,hw2⟩:=BX _ (Vp.put fd.data.length) _ [] B2 (by rw[hlen2];exact hbl _ (by omega));refine Qk hw2 (by simp only[QWj,h3,Qa,seval]) ?_;have B3:=KP fr2 g2 (QZ (l.take i)++(XY fd.num fd.wire).1++Vp.put fd.data.length);have w6:Kj fr2 g2 (QZ (l.take i)++(XY fd.num fd.wire).1++Vp.put fd.data.length) 5=.cells [.int .i64 fd.num,.int .i64 fd.wire,.int .u64 (fd.bits:Nat),.str fd.data]:=by
      rw[WD (by decide) (by decide),w5]
     have hlen3:(QZ (l.take i)++(XY fd.num fd.wire).1++Vp.put fd.data.length).length=(QZ (l.take i)).length+(XY fd.num fd.wire).1.length+(Vp.put fd.data.length).length:=by simp;omega
     generalize hfr3:Kj fr2 g2 (QZ (l.take i)++(XY fd.num fd.wire).1++Vp.put fd.data.length)=fr3 at B3 w6;simp only[w6,eE,seval];obtain⟨g3,hw3⟩:=BX _ fd.data _ [] B3 (by rw[hlen3];have:=hbl (body fd).length (QVL _);omega);refine Qk hw3 (by simp only[QWj,h3,Qa,seval]) ?_;simp only[e1,h10,Qa,seval];refine fin _ _ _ ?_ ?_ ?_ ?_ ?_ (KP _ _ _) ?_
     ·simp only[h3,Qa,seval]
     ·simp only[h8,Qa,seval]
     ·simp only[h9,Qa,seval]
     ·simp only[Qa,seval]
     ·rw[WD (by decide) (by decide),w6]<;>rfl
     ·rw[hp,hbo,QV8,QV8]
 ·have d0:decide ((i:Int)<(l.length:Int))=false:=by simp;omega
  have hil:i=l.length:=by omega
  subst hil;rw[QXm]at hB;simp only[d0,Qa,seval];refine Qk (QRi (QZ l) _ [] hB.drop hl) (by simp only[QWj,h3,Qa,seval]) ?_;simp only[Qa,seval]

end Go.Proofs.YtipjfckmopekaaaGreatDoor.Va

namespace Go.Proofs.YtipjfckmopekaaaGreatDoor.Va
open Go Am Rc Bt Br Up So

def ZU (n:Int)(x:V):R:={ Q8 x.kd x.bits x.text with num:=n }
section
variable (bd:Int→V→List UInt8)
def Q2 (o:PO)(n:Int)(x:V):R:=if o.kind=10 then⟨n,4,0,bd o.target x⟩else ZU n x
def ZI (o:PO)(p:V×V):R:=⟨o.num,6,0,QZ [ZU 1 p.1,Q2 bd o 2 p.2]⟩
def K1 (w:Int)(b:Nat):List UInt8:=if w=2 then fx 8 b else Vp.put b
def K2 (w:Int)(x:V):List UInt8:=K1 w (Q8 x.kd x.bits x.text).bits
def Dv (o:PO)(l:List V):R:=⟨o.num,5,0,UInt8.ofNat (wk o.kind).toNat :: l.flatMap (K2 (wk o.kind))⟩
def Yj (o:PO)(x:V):List R :=
 if o.card=5 then x.pairs.map (ZI bd o)
 else if pk o.card o.kind=true then [Dv o x.list]
 else if o.card=4 then x.list.map (Q2 bd o o.num)
 else [Q2 bd o o.num x]
def JZ (g:PG)(s:Int×V):List R:=match Ze g s.1 with
 |none=>[]
 |some o=>Yj bd o s.2
def Xt (g:PG):List (Int×V)→List R→List R
 | [],rs=>rs
 |s :: sl,rs=>rs.takeWhile (fun r=>decide (r.num<s.1))++JZ bd g s++Xt g sl (rs.dropWhile fun r=>decide (r.num<s.1))
end
def Za (P:PL):Nat→Int→V→List UInt8
 |0,_,_=>[]
 |n+1,t,v=>QZ (Xt (Za P n) (QW P t) (Xb P (n+1) (QW P t) v).slots (Xb P (n+1) (QW P t) v).raws)

theorem Qxi (n w:Int):(XY n w).1.length≤10:=by
 unfold XY;split
 ·exact QVV _
 ·exact(Vp.put_len _).2
theorem Qxj (f:R):(Yi f).length≤20+f.data.length:=by
 unfold Yi;split
 ·have h1:=Qxi f.num f.wire;have h2:(body f).length≤10+f.data.length:=by
   unfold body;split
   ·rw[GY];omega
   ·split
    ·have:=(Vp.put_len f.bits).2;omega
    ·have:=(Vp.put_len f.data.length).2;rw[QWp];omega
  rw[QWp];omega
 ·exact QVV _
def ZP (l:List R):Nat:=(l.map fun f=>20+f.data.length).sum
theorem YN:∀l:List R,(QZ l).length≤ZP l
 | []=>QVL _
 |f :: l=>by
  have h1:=Qxj f;have h2:=YN l;unfold QZ ZP at h2 ⊢;rw[QXg,QWp,QWj,QXM];omega
theorem Vd (a b:List R):ZP (a++b)=ZP a+ZP b:=by
 unfold ZP;rw[QXu,List.sum_append]
theorem Ve (f:R):ZP [f]=20+f.data.length:=by simp[ZP]
theorem Vf {P:PL}{k tg:Int}{v:V}(h:v.one P k tg=0):v.text.length≤4096:=by
 unfold V.one Ul at h;split at h
 ·omega
 split at h
 ·omega
 rename_i h1 h2;simp only[QVS]at h2;omega
theorem PA (k:Int)(b:Nat)(t:List UInt8):(Q8 k b t).data.length≤t.length:=by
 unfold Q8 zr
 repeat' split
 all_goals first|exact QVV _|exact QVL _
theorem BY (n:Int)(v:V):(ZU n v).data.length≤v.text.length:=PA _ _ _

section
variable {P:PL}{m:PG→V→Int}{bd:Int→V→List UInt8}
variable (hbd:∀(t:Int) (v:V),(0≤t∧t<(P.progs.length:Int))→m (QW P t) v=0→(bd t v).length+70000≤70000*v.cnt)
include hbd
theorem Dw {o:PO}(ho:UO P o){n:Int}{x:V}(h:QT m P o x=0):(Q2 bd o n x).data.length+5000≤70000*x.cnt:=by
 have hc:=KB x;unfold QT at h;unfold Q2;split
 ·rename_i hk;rw[QWg hk]at h;have:=hbd _ _ (ho.tgt hk) h;dsimp only;omega
 ·rename_i hk;rw[QV1 hk]at h;have h1:=Vf h;have h2:=BY n x;omega
theorem Dx {o:PO}(ho:UO P o){p:V×V}(h1:p.1.one P o.key (-1)=0)(h2:QT m P o p.2=0):20+ZP [ZU 1 p.1,Q2 bd o 2 p.2]≤70000*(p.1.cnt+p.2.cnt):=by
 have h3:=Dw hbd ho (n:=2) h2;have h4:=Vf h1;have h5:=BY 1 p.1;have hc:=KB p.1;have e:ZP [ZU 1 p.1,Q2 bd o 2 p.2]=(20+(ZU 1 p.1).data.length)+(20+(Q2 bd o 2 p.2).data.length):=by simp[ZP]
 omega
theorem RM {o:PO}(ho:UO P o){p:V×V}(h1:p.1.one P o.key (-1)=0)(h2:QT m P o p.2=0):20+(ZI bd o p).data.length≤70000*(p.1.cnt+p.2.cnt):=by
 have h3:=Dx hbd ho h1 h2;have h6:=YN [ZU 1 p.1,Q2 bd o 2 p.2];unfold ZI;dsimp only;omega
omit hbd in
theorem Dy (w:Int)(x:V):(K2 w x).length≤10:=by
 unfold K2 K1;split
 ·rw[GY];omega
 ·exact(Vp.put_len _).2
omit hbd in
theorem UW (w:Int):∀l:List V,(l.flatMap (K2 w)).length≤10*l.length
 | []=>QVL _
 |x :: l=>by
  have h1:=Dy w x;have h2:=UW w l;rw[QXg,QWp,QV2];omega
theorem Vg {o:PO}(ho:UO P o){x:V}(h:Xd m P o x=0):ZP (Yj bd o x)≤70000*x.cnt:=by
 have hc:=Xh x;have hp:=KB x;unfold Xd at h;unfold Yj;by_cases h5:o.card=5
 ·rw[QWg h5]at h;rw[QWg h5];split at h
  ·omega
  have hE:=(Wh.1 h).1;have key:∀l:List (V×V),(∀p∈l,p.1.one P o.key (-1)=0∧QT m P o p.2=0)→ZP (l.map (ZI bd o))≤70000*Xs l:=by
   intro l
   induction l with
   |nil=>intro _;exact QVV _
   |cons p l ih=>
    intro hl;have i1:=ih fun q hq=>hl q (by simp[hq])
    obtain⟨a,b⟩:=hl p (by simp);have i2:=RM hbd ho a b;obtain⟨pa,pb⟩:=p;unfold ZP at i1 ⊢;simp only[QWj,QXM,Xs];dsimp only at i2;omega
  have:=key _ hE;omega
 ·rw[QV1 h5]at h;rw[QV1 h5];split
  ·have h1:=UW (wk o.kind) x.list;have h2:=HG x.list;rw[Ve];unfold Dv;simp only[QV2];omega
  ·by_cases h4:o.card=4
   ·rw[QWg h4]at h;rw[QWg h4];split at h
    ·omega
    have hL:=KA.1 h;have key:∀l:List V,(∀y∈l,QT m P o y=0)→ZP (l.map (Q2 bd o o.num))≤70000*XO l:=by
     intro l
     induction l with
     |nil=>intro _;exact QVV _
     |cons y l ih=>
      intro hl;have i1:=ih fun q hq=>hl q (by simp[hq])
      have i2:=Dw hbd ho (n:=o.num) (hl y (by simp));unfold ZP at i1 ⊢;simp only[QWj,QXM,XO];omega
    have:=key _ hL;omega
   ·rw[QV1 h4]at h;rw[QV1 h4,Ve];have:=Dw hbd ho (n:=o.num) h;omega
omit hbd in
theorem BZ {g:PG}{f:R}(h:KU P g f=0):f.data.length≤65536:=by
 unfold KU at h;split at h
 ·omega
 split at h
 ·omega
 split at h
 ·omega
 split at h
 ·omega
 rename_i h4;simp only[QVR,QVS,not_or]at h4;omega
theorem YO {g:PG}:∀(sl:List (Int×V)) (rs:List R),(∀x∈sl,∃o,Ze g x.1=some o∧UO P o∧Xd m P o x.2=0)→(∀f∈rs,KU P g f=0)→ZP (Xt bd g sl rs)≤70000*(rs.length+Xf sl)
 | [],rs,_,hr=>by
  unfold Xt;have:∀l:List R,(∀f∈l,KU P g f=0)→ZP l≤70000*l.length:=by
   intro l
   induction l with
   |nil=>intro _;exact QVV _
   |cons f l ih=>
    intro hl;have i1:=ih fun q hq=>hl q (by simp[hq])
    have i2:=BZ (hl f (by simp));unfold ZP at i1 ⊢;simp only[QWj,QXM,QV2];omega
  have:=this rs hr;omega
 |s :: sl,rs,hs,hr=>by
  obtain⟨o,h1,ho,h2⟩:=hs s (by simp);have h3:=Vg hbd ho h2;have ih:=YO sl (rs.dropWhile fun r=>decide (r.num<s.1)) (fun x hx=>hs x (by simp[hx])) (fun f hf=>hr f ((List.dropWhile_sublist _).mem hf));have h4:∀l:List R,(∀f∈l,KU P g f=0)→ZP l≤70000*l.length:=by
   intro l
   induction l with
   |nil=>intro _;exact QVV _
   |cons f l ih=>
    intro hl;have i1:=ih fun q hq=>hl q (by simp[hq])
    have i2:=BZ (hl f (by simp));unfold ZP at i1 ⊢;simp only[QWj,QXM,QV2];omega
  have h5:=h4 (rs.takeWhile fun r=>decide (r.num<s.1)) (fun f hf=>hr f ((List.takeWhile_sublist _).mem hf));have h6:(rs.takeWhile fun r=>decide (r.num<s.1)).length+(rs.dropWhile fun r=>decide (r.num<s.1)).length=rs.length:=by
   rw[←QWp,List.takeWhile_append_dropWhile]
  obtain⟨sn,sx⟩:=s;rw[Xt,Vd,Vd];unfold JZ;rw[h1];simp only[Xf];dsimp only at h3 h5 h6 ih ⊢;omega
end

theorem Wj {P:PL}(hU:Yd P)(hr:Ke P):∀(n:Nat) (t:Int) (v:V),(0≤t∧t<(P.progs.length:Int))→XK P n (QW P t) v=0→(Za P n t v).length+70000≤70000*v.cnt
 |0,t,v,_,h=>(YH 0 _ _ h).elim
 |n+1,t,v,ht,h=>by
  have hg:QW P t∈P.progs:=by
   unfold QW;rw[QVO (by omega:t.toNat<P.progs.length)];exact QWF _
  have hf:=WA hU hr (n+1) (QW P t) hg v h;have hc:=Yc hr (n+1) (QW P t) (Uq hr t) v;rw[Za];generalize Xb P (n+1) (QW P t) v=w at hf hc;obtain⟨_,⟨s1,_,_⟩,_,s4⟩:=JX.1 hf;have h1:=YN (Xt (Za P n) (QW P t) w.slots w.raws);have h2:=Xh w;have h3:=YO (m:=XK P n) (bd:=Za P n) (fun t v ht hm=>Wj hU hr n t v ht hm) w.slots w.raws (fun x hx=>by
   obtain⟨o,ho,hx⟩:=s1 x hx;exact⟨o,ho,hU _ hg o (Zo ho).1,hx⟩) s4
  omega

def Wd (P:PL)(m:PG→V→Int)(g:PG)(s:Int×V):Prop:=∃o,Ze g s.1=some o∧Xd m P o s.2=0∧(o.card<3∨s.2.emp=false)
theorem B0 {P:PL}(hU:Yd P)(hr:Ke P){n:Nat}{g:PG}(hg:g∈P.progs){v:V}(h:XK P (n+1) g v=0):∀s∈(Xb P (n+1) g v).slots,Wd P (XK P n) g s:=by
 have hf:=WA hU hr (n+1) g hg v h;obtain⟨_,⟨s1,_,_⟩,_,_⟩:=JX.1 hf;intro s hs;obtain⟨o,ho,hx⟩:=s1 s hs;refine⟨o,ho,hx,?_⟩;have hs':s∈g.ops.flatMap (Xv (Xb P n) P v.slots):=hs;obtain⟨q,hq,hsq⟩:=QWy.1 hs';unfold Xv at hsq;split at hsq
 ·cases hsq
 ·split at hsq
  ·rename_i hc;rw[QXJ]at hsq;subst hsq;have e:Ze g q.num=some q:=Zg (hr g hg) hq;rw[e]at ho;cases ho;simp only[QVR,QVS,QWL]at hc;exact hc
  ·cases hsq

theorem YP {c k:Int}(h:pk c k=true):c=4∧(k=1∨k=2∨k=3∨k=4∨k=5∨k=6∨k=9):=by
 unfold pk at h;simp only[QWb,QVR,QVS,QVT]at h;omega
theorem T6 {c k:Int}(h:pk c k=true):wk k=0∨wk k=1∨wk k=2:=by
 obtain⟨_,h⟩:=YP h;rcases h with rfl|rfl|rfl|rfl|rfl|rfl|rfl<;>decide
theorem PB {c k:Int}(h:pk c k=true)(b:Nat)(t:List UInt8):(Q8 k b t).wire=wk k:=by
 obtain⟨_,h⟩:=YP h;rcases h with rfl|rfl|rfl|rfl|rfl|rfl|rfl<;>rfl
theorem RP {v:V}(hk:v.kd=11)(h:v.emp=false):v.list≠[]:=by
 intro e;unfold V.emp Va.emp at h;rw[hk,e]at h;simp at h
theorem L4 {P:PL}{m:PG→V→Int}{o:PO}{x:V}(hp:pk o.card o.kind=true)(h:Xd m P o x=0):x.kd=11∧∀y∈x.list,y.kd=o.kind:=by
 obtain⟨h4,hk⟩:=YP hp;unfold Xd at h;rw[QV1 (by omega),QWg h4]at h;split at h
 ·omega
 rename_i hv;simp only[QVR,QWd,not_or,Decidable.not_not,ne_eq]at hv;refine⟨hv.1,fun y hy=>?_⟩;have:=KA.1 h y hy;unfold QT at this;rw[QV1 (by omega)]at this;exact(Um this).1

theorem Ux {k:Int}{b:Nat}(hb:b<18446744073709551616)(t:List UInt8):(Q8 k b t).bits<18446744073709551616:=by
 unfold Q8;split
 ·exact hb
 split
 ·have h1:=Qw8 (IntKind.i64.wrap (b:Int)) (by rw[QG];omega) (by rw[QG];omega);have h2:=YL (IntKind.i64.wrap (b:Int));show(KM _).toNat<_;omega
 split
 ·show XD k b<_;unfold XD;split
  ·decide
  ·exact hb
 split
 ·exact(by decide:(0:Nat)<18446744073709551616)
 ·exact(by decide:(0:Nat)<18446744073709551616)
theorem T7 {M:Nat}{v:V}(hv:v.ok M):v.bits<18446744073709551616:=by
 have:=H8 hv.bits;omega
def Rb (f:R):Prop:=f.bits<18446744073709551616
theorem B1 {M:Nat}{v:V}(hv:v.ok M)(n:Int):Rb (ZU n v):=Ux (T7 hv) _
theorem GZ {M:Nat}{v:V}(hv:v.ok M)(bd:Int→V→List UInt8)(o:PO)(n:Int):Rb (Q2 bd o n v):=by
 unfold Q2;split
 ·exact(by decide:(0:Nat)<18446744073709551616)
 ·exact B1 hv n
theorem Qxk {M:Nat}{v:V}(hv:v.ok M)(bd:Int→V→List UInt8)(o:PO):∀f∈Yj bd o v,Rb f:=by
 have z:(0:Nat)<18446744073709551616:=by decide
 unfold Yj;split
 ·intro f hf;obtain⟨p,_,rfl⟩:=QW7.1 hf;exact z
 split
 ·intro f hf;rw[QXJ]at hf;subst hf;exact z
 split
 ·intro f hf;obtain⟨y,hy,rfl⟩:=QW7.1 hf;exact GZ (hv.list y hy) _ _ _
 ·intro f hf;rw[QXJ]at hf;subst hf;exact GZ hv _ _ _
theorem Dz {M:Nat}(bd:Int→V→List UInt8)(g:PG):∀(sl:List (Int×V)) (rs:List R),(∀s∈sl,s.2.ok M)→(∀f∈rs,Rb f)→∀f∈Xt bd g sl rs,Rb f
 | [],_,_,hr,f,hf=>hr f hf
 |s :: sl,rs,hs,hr,f,hf=>by
  rw[Xt,QW5,QW5]at hf;rcases hf with(hf|hf)|hf
  ·exact hr f ((List.takeWhile_sublist _).mem hf)
  ·unfold JZ at hf;split at hf
   ·cases hf
   ·exact Qxk (hs s (by simp)) bd _ f hf
  ·exact Dz bd g sl _ (fun x hx=>hs x (by simp[hx])) (fun f hf=>hr f ((List.dropWhile_sublist _).mem hf)) f hf
theorem Yk:∀l:List R,20*l.length≤ZP l
 | []=>QVV _
 |f :: l=>by
  have:=Yk l;unfold ZP at this ⊢;simp only[QWj,QXM,QV2];omega
theorem L5 {l:List R}{f:R}(h:f∈l):f.data.length≤ZP l:=by
 induction l with
 |nil=>cases h
 |cons x l ih=>
  unfold ZP at ih ⊢;simp only[QWj,QXM];rcases QW9.1 h with rfl|h
  ·omega
  ·have:=ih h;omega
theorem YQ {l:List R}(hb:∀f∈l,Rb f)(hw:ZP l≤140737488355328):(∀fd∈l,fd.bits<18446744073709551616∧fd.data.length<9223372036854775807)∧l.length<9223372036854775807∧(QZ l).length≤140737488355328:=by
 have h1:=Yk l;have h2:=YN l;exact⟨fun fd hf=>⟨hb fd hf,by have:=L5 hf;omega⟩,by omega,by omega⟩

end Go.Proofs.YtipjfckmopekaaaGreatDoor.Va

namespace Go.Proofs.YtipjfckmopekaaaGreatDoor.Va
open Go Am Rc Bt Br

structure Fi (P:PL)(c:Nat)(B:List Bool)(a:Bool)(f:Fr)(fr:Nat→Ob):Prop where
 h1:f 1=.ptr 0 1 0
 m1:fr 1=.cells (Pc P)
 h3:f 3=.vec 0 12 1 0 P.progs.length false
 m12:fr 12=.vec 1 1 (B.map AV.bool)
 h4:f 4=.bool a
 h19:f 19=.int .i64 (P.progs.length:Nat)
 h20:f 20=.int .i64 (c:Nat)
 r8:∀s∈[8],(fr s).isRow=false

theorem Fi.drop {P:PL}{c:Nat}{B:List Bool}{a:Bool}{f f':Fr}{fr fr':Nat→Ob}(h:Fi P c B a f fr)(hf:∀i,f' i=VE [8] (f i))(hm:∀i,i∉[8]→fr' i=H9 [8] (fr i))(hn:∀i∈[8],fr' i=.none):Fi P c B a f' fr' where
 h1:=by rw[hf,h.h1]<;>rfl
 m1:=by rw[hm 1 (by decide),h.m1]<;>rfl
 h3:=by rw[hf,h.h3]<;>rfl
 m12:=by rw[hm 12 (by decide),h.m12]<;>rfl
 h4:=by rw[hf,h.h4]<;>rfl
 h19:=by rw[hf,h.h19]<;>rfl
 h20:=by rw[hf,h.h20]<;>rfl
 r8:=fun s hs=>by rw[hn s hs]<;>rfl

section
variable {M:Nat}(P:PL)(hP:P.ok M)(hl:P.progs.length≤64)(hT:M4 P)(c:Nat)(B:List Bool)(hB:B.length=P.progs.length)(a:Bool)
include hP hT hB

theorem QRj (i:Nat)(g:PG)(hg:P.progs[i]? = some g)(f:Fr)(fr:Nat→Ob)(H:Fi P c B a f fr)(h5:f 5=.int .i64 (i:Nat))(h6:f 6=.bool true)(h7:f 7=.int .i64 0)(Q:Exit→St→Prop)
  (hx:∀f fr,Fi P c B a f fr→f 5=.int .i64 (i:Nat)→f 6=.bool (!g.ops.any (Xy B))→Q (.exit 4) (⟨f,[fr],[]⟩:St)):QH Tryz.prog (.loop SL) ⟨f,[fr],[]⟩ Q:=by
 let I:Nat→St→Prop:=fun k st=>∃f fr j,st=⟨f,[fr],[]⟩∧k=g.ops.length-j∧j≤g.ops.length∧Fi P c B a f fr∧f 5=.int .i64 (i:Nat)∧f 6=.bool (!(g.ops.take j).any (Xy B))∧f 7=.int .i64 (j:Nat)
 have hgm:(P.progs.map Qn)[i]? = some (.agg g.cells):=by simp[hg,Qn]
 have hgo:=hP.progs g (QV0 hg);refine Qd I _ ⟨f,fr,0,rfl,rfl,QVV _,H,h5,by rw[h6];simp,h7⟩ ?_;clear H h5 h6 h7;simp only[PG.cells]at hgm;rintro _ st ⟨f0,fr0,j,rfl,rfl,hj,H0,h50,h60,h70⟩;refine QO (a:=_) [8] H0.r8 ?_;intro f fr hf hm hn;have H:=H0.drop hf hm hn;have h5:f 5=.int .i64 (i:Nat):=by rw[hf,h50]<;>rfl
 have h6:f 6=.bool (!(g.ops.take j).any (Xy B)):=by rw[hf,h60]<;>rfl
 have h7:f 7=.int .i64 (j:Nat):=by rw[hf,h70]<;>rfl
 have n8:=hn 8 (by decide);clear hf hm hn H0 h50 h60 h70;obtain⟨h1,m1,h3,m12,h4,h19,h20,r8⟩:=id H;simp only[Pc]at m1;simp only[Qh,QXe,Qc,hgm,QWI,h1,m1,h5,h7,eE,seval];by_cases hlt:j<g.ops.length
 ·obtain⟨o,ho⟩:∃o,g.ops[j]? = some o:=⟨g.ops[j],QVO hlt⟩;have hom:(g.ops.map fun o=>AV.agg o.cells)[j]? = some (.agg o.cells):=by simp[ho]
  have e1:=Qm j _ hlt hgo.len;have htg:=hT g (QV0 hg) o (QV0 ho);have ht:=Rm (q:=Xy B) ho;have fin2:∀(f':Fr) (fr':Nat→Ob) (v:Bool),(!(g.ops.take j).any (Xy B) && !Xy B o)=v→Fi P c B a f' fr'→f' 5=.int .i64 (i:Nat)→f' 6=.bool v→f' 7=.int .i64 ((j+1:Nat):Int)→∃k,k<g.ops.length-j∧I k ⟨f',[fr'],[]⟩:=by
   intro f' fr' v hv b1 b2 b3 b4;exact⟨g.ops.length-(j+1),by omega,f',fr',j+1,rfl,rfl,by omega,b1,b2,by rw[b3,ht,Bool.not_or,hv],b4⟩
  simp only[PO.cells]at hom;have m1':fr 1=.cells (Pc P):=by rw[m1]<;>rfl
  cases hb : !(g.ops.take j).any (Xy B)
  ·rw[hb]at fin2 h6;simp only[QXh]at fin2;simp only[Ql hlt,Qh,QXe,Qc,hgm,hom,PO.cells,n8,h1,m1,h5,h6,h7,e1,eE,seval];exact fin2 _ _ _ rfl ⟨(by exact h1),(by exact m1'),(by exact h3),(by exact m12),(by exact h4),(by exact h19),(by exact h20),by simp<;>rfl⟩ (by exact h5) (by rfl) (by rfl)
  rw[hb]at fin2 h6;simp only[QXo]at fin2;cases c1:(o.card==1)
  ·have c1':(o.card != 1)=true:=by rw[bne,c1];rfl
   have hne:(!Xy B o)=true:=by unfold Xy;rw[c1];rfl
   rw[hne]at fin2;simp only[Ql hlt,Qh,QXe,Qc,hgm,hom,PO.cells,n8,c1',h1,m1,h5,h6,h7,e1,eE,seval];exact fin2 _ _ _ rfl ⟨(by exact h1),(by exact m1'),(by exact h3),(by exact m12),(by exact h4),(by exact h19),(by exact h20),by simp<;>rfl⟩ (by exact h5) (by rfl) (by rfl)
  have c1':(o.card != 1)=false:=by rw[bne,c1];rfl
  cases c2:(o.kind==10)
  ·have c2':(o.kind != 10)=true:=by rw[bne,c2];rfl
   have hne:(!Xy B o)=true:=by unfold Xy;rw[c1,c2];rfl
   rw[hne]at fin2;simp only[Ql hlt,Qh,QXe,Qc,hgm,hom,PO.cells,n8,c1',c2',h1,m1,h5,h6,h7,e1,eE,seval];exact fin2 _ _ _ rfl ⟨(by exact h1),(by exact m1'),(by exact h3),(by exact m12),(by exact h4),(by exact h19),(by exact h20),by simp<;>rfl⟩ (by exact h5) (by rfl) (by rfl)
  have c2':(o.kind != 10)=false:=by rw[bne,c2];rfl
  obtain⟨t1,t2⟩:=htg (by simpa using c2);obtain⟨t,hte⟩:=QXq t1;obtain⟨y,hy⟩:∃y,B[t]? = some y:=⟨B[t]'(by omega),QVO (by omega)⟩;have hym:(B.map AV.bool)[t]? = some (.bool y):=by simp[hy]
  have hlt2:(t<P.progs.length)=True:=eq_true (by omega);have hne:(!Xy B o)=y:=by unfold Xy;rw[c1,c2,hte,QXe,hy];cases y<;>rfl
  rw[hne]at fin2;simp only[Ql hlt,Qh,QXe,Qc,hgm,hom,PO.cells,n8,c1',c2',hte,hym,hlt2,m12,QWt,h1,m1,h3,h5,h6,h7,e1,eE,seval];exact fin2 _ _ _ rfl ⟨(by exact h1),(by exact m1'),(by exact h3),(by exact m12),(by exact h4),(by exact h19),(by exact h20),by simp<;>rfl⟩ (by exact h5) (by rfl) (by rfl)
 ·have hf:(g.ops.take j).any (Xy B)=g.ops.any (Xy B):=by rw[QWl (by omega)]
  rw[hf]at h6;simp only[Qy hlt,Qa,seval];refine hx _ _ ⟨(by exact h1),by rw[m1]<;>rfl,(by exact h3),(by exact m12),(by exact h4),(by exact h19),(by exact h20),r8⟩ (by exact h5) (by exact h6)

end

theorem RQ {B:List Bool}{i:Nat}(h:i<B.length)(v:Bool):((B.set i v).take (i+1)).all id=((B.take i).all id&&v):=by
 have h1:(B.set i v)[i]? = some v:=List.getElem?_set_self h;rw[Q3 h1,List.take_set_of_le (QVL _)];rfl

section
variable {M:Nat}(P:PL)(hP:P.ok M)(hl:P.progs.length≤64)(hT:M4 P)(c:Nat)
include hP hl hT

theorem QRk (f:Fr)(fr:Nat→Ob)(H:Fi P c (Qf P.progs c) true f fr)(h5:f 5=.int .i64 0)(Q:Exit→St→Prop)(hx:∀f fr,Fi P c (Qf P.progs (c+1)) ((Qf P.progs (c+1)).all id) f fr→Q (.exit 2) (⟨f,[fr],[]⟩:St)):QH Tryz.prog (.loop SM) ⟨f,[fr],[]⟩ Q:=by
 let I:Nat→St→Prop:=fun k st=>∃f fr i,st=⟨f,[fr],[]⟩∧k=P.progs.length-i∧i≤P.progs.length∧Fi P c (Z5 P.progs (Qf P.progs c) i) (((Z5 P.progs (Qf P.progs c) i).take i).all id) f fr∧f 5=.int .i64 (i:Nat)
 refine Qd I _ ⟨f,fr,0,rfl,rfl,QVV _,H,h5⟩ ?_;clear H h5;rintro _ st ⟨f0,fr0,i,rfl,rfl,hi,H0,h50⟩;refine QO (a:=_) [8] H0.r8 ?_;intro f fr hf hm hn;have H:=H0.drop hf hm hn;have h5:f 5=.int .i64 (i:Nat):=by rw[hf,h50]<;>rfl
 clear hf hm hn H0 h50;have hBl:(Z5 P.progs (Qf P.progs c) i).length=P.progs.length:=by rw[UJ,UK]
 obtain⟨h1,m1,h3,m12,h4,h19,h20,r8⟩:=id H;have m1':=m1;simp only[Pc]at m1;simp only[QWI,h1,m1,h5,eE,seval];by_cases hlt:i<P.progs.length
 ·obtain⟨g,hg⟩:∃g,P.progs[i]? = some g:=⟨P.progs[i],QVO hlt⟩;have e1:=Qm i _ hlt (by simp only[maxLen];omega);have hst:Z5 P.progs (Qf P.progs c) (i+1)=(Z5 P.progs (Qf P.progs c) i).set i (!g.ops.any (Xy (Z5 P.progs (Qf P.progs c) i))):=by
   rw[Z5]
   conv=>lhs;unfold Ui
   rw[hg]
  have htk:=RQ (B:=Z5 P.progs (Qf P.progs c) i) (i:=i) (by omega) (!g.ops.any (Xy (Z5 P.progs (Qf P.progs c) i)));rw[←hst]at htk;simp only[Ql hlt,Qa,seval];refine QRj P hP hT c _ hBl _ i g hg _ fr ⟨(by exact h1),m1',(by exact h3),m12,(by exact h4),(by exact h19),(by exact h20),r8⟩ (by exact h5) (by rfl) (by rfl) _ (fun f fr H h5 h6=>?_);generalize hBB:Z5 P.progs (Qf P.progs c) i=B at *;generalize hv:(!g.ops.any (Xy B))=v at *;obtain⟨h1,m1,h3,m12,h4,h19,h20,r8⟩:=H;obtain⟨y,hy⟩:∃y,B[i]? = some y:=⟨B[i]'(by omega),QVO (by omega)⟩;have hym:(B.map AV.bool)[i]? = some (.bool y):=by simp[hy]
  have ia:Qc [fr] 1 none (.vec 0 12 1 0 P.progs.length false) (i:Int)=some (.vptr 0 12 1 i 0):=by
   have e:Am.Qg [fr] 0 12=.vec 1 1 (B.map AV.bool):=m12;simp only[Qc,e,Qh,if_true,QXe];simp;omega
  have ist:QV [fr] (.vptr 0 12 1 i 0) [.bool v]=some [QJ fr 12 (.vec 1 1 ((B.map AV.bool).set i (.bool v)))]:=by
   have e:Am.Qg [fr] 0 12=.vec 1 1 (B.map AV.bool):=m12;simp only[QV,e,hym];simp[AV.cells,AV.rfL,AV.rf,Am.put,ZC]
  have hset:(B.map AV.bool).set i (.bool v)=(Z5 P.progs (Qf P.progs c) (i+1)).map AV.bool:=by rw[hst,List.map_set]
  rw[hset]at ist;cases hal:(B.take i).all id
  ·rw[hal]at h4 htk;simp only[ia,ist,h3,h4,h5,h6,e1,eE,seval];exact⟨P.progs.length-(i+1),by omega,_,_,i+1,rfl,rfl,by omega,⟨(by exact h1),(by exact m1),(by exact h3),(by rfl),by rw[htk]<;>first|exact h4|simp only[h4,QXh,Qa,seval],(by exact h19),(by exact h20),fun s hs=>by simp at hs;subst hs;rw[QS _ _ (by decide)];exact r8 8 (by simp)⟩,(by rfl)⟩
  ·rw[hal]at h4 htk;simp only[ia,ist,h3,h4,h5,h6,e1,eE,seval];exact⟨P.progs.length-(i+1),by omega,_,_,i+1,rfl,rfl,by omega,⟨(by exact h1),(by exact m1),(by exact h3),(by rfl),by rw[htk,QXo]<;>first|rfl|simp only[eE,seval],(by exact h19),(by exact h20),fun s hs=>by simp at hs;subst hs;rw[QS _ _ (by decide)];exact r8 8 (by simp)⟩,(by rfl)⟩
 ·have hii:i=P.progs.length:=by omega
  subst hii;have hits:Z5 P.progs (Qf P.progs c) P.progs.length=Qf P.progs (c+1):=rfl;rw[hits]at H hBl m12 h4;rw[QWl (by omega)]at h4;simp only[Qy hlt,Qa,seval];exact hx _ _ ⟨(by exact h1),m1',(by exact h3),m12,(by exact h4),(by exact h19),(by exact h20),r8⟩

end

theorem z49 {M:Nat}(P:PL)(hP:P.ok M)(hl:P.progs.length≤64)(hT:M4 P):Qj Tryz.prog 49 [P.av] (.bool (fin P)):=by
 have e0:P.av=.agg [.list (P.progs.map Qn),.list (P.enums.map Qr)]:=rfl;have hmx:P.progs.length≤maxLen:=by simp only[maxLen];omega
 have hz:JH 1 [AV.bool false]=.bool false:=rfl;have hr0:(List.replicate P.progs.length (AV.bool false))=(Qf P.progs 0).map AV.bool:=by simp[Qf]
 let A:Nat→Bool:=fun c=>if c=0 then(P.progs.length:Int)==0 else(Qf P.progs c).all id
 have hA:A P.progs.length=fin P:=by
  show(if P.progs.length=0 then(P.progs.length:Int)==0 else(Qf P.progs P.progs.length).all id)=(Qf P.progs P.progs.length).all id;split
  ·rename_i h;rw[h];simp[Qf,h]
  ·rfl
 let I:Nat→St→Prop:=fun k st=>∃f fr c,st=⟨f,[fr],[]⟩∧k=P.progs.length-c∧c≤P.progs.length∧Fi P c (Qf P.progs c) (A c) f fr
 refine k49.fn (by simp) ?_;simp only[e0,QWI,eE,seval];refine UG (n:=P.progs.length) (k:=P.progs.length) rfl rfl (QVL _) (by omega) (by omega) rfl ?_;simp only[hz,hr0,QWI,eE,seval];refine Qd I _ ⟨_,_,0,rfl,rfl,QVV _,⟨(by rfl),(by rfl),(by rfl),(by rfl),(by rfl),(by rfl),(by rfl),by simp<;>rfl⟩⟩ ?_;rintro _ st ⟨f0,fr0,c,rfl,rfl,hc,H0⟩;refine QO (a:=_) [8] H0.r8 ?_;intro f fr hf hm hn;have H:=H0.drop hf hm hn;clear hf hm hn H0;obtain⟨h1,m1,h3,m12,h4,h19,h20,r8⟩:=id H;simp only[h19,h20,Qa,seval];by_cases hlt:c<P.progs.length
 ·have e1:=Qm c _ hlt hmx;simp only[Ql hlt,Qa,seval];refine QRk P hP hl hT c _ fr ⟨(by exact h1),m1,(by exact h3),m12,(by rfl),(by exact h19),(by exact h20),r8⟩ (by rfl) _ (fun f fr H=>?_);obtain⟨h1,m1,h3,m12,h4,h19,h20,r8⟩:=H;simp only[h20,e1,Qa,seval];exact⟨P.progs.length-(c+1),by omega,_,fr,c+1,rfl,rfl,by omega,⟨(by exact h1),m1,(by exact h3),m12,(by exact h4),(by exact h19),(by rfl),r8⟩⟩
 ·have hcc:c=P.progs.length:=by omega
  subst hcc;rw[hA]at h4;simp only[Qy hlt,h4,Qa,seval]

theorem z22 {M:Nat}(P:PL)(hP:P.ok M)(hM:M≤140737488351232):Qj Tryz.prog 22 [P.av] (.int .i64 (ck P)):=by
 have e0:P.av=.agg [.list (P.progs.map Qn),.list (P.enums.map Qr)]:=rfl;have c1:=z43 P hP;have c2:=z44 P hP;have c3:=z45 P hP;have c4:=z46 P hP;have c5:=z47 P hP;refine k22.fn (by simp) ?_;simp only[e0,ck,eE,seval];refine Qb c1 rfl rfl rfl (.inl rfl) ?_;cases hl:Hf P
 ·simp only[QWU,Qa,seval]
 obtain⟨l1,l2,l3,l4⟩:=Uj hl;have c6:=z48 hM P hP l3;simp only[QXp,QXI,eE,seval];refine Qb c2 rfl rfl rfl (.inl rfl) ?_;cases Bc P
 ·simp only[QWU,Qa,seval]
 simp only[QXp,QXI,eE,seval];refine Qb c3 rfl rfl rfl (.inl rfl) ?_;cases Hg P
 ·simp only[QWU,Qa,seval]
 simp only[QXp,QXI,eE,seval];refine Qb c4 rfl rfl rfl (.inl rfl) ?_;cases Bd P
 ·simp only[QWU,Qa,seval]
 simp only[QXp,QXI,eE,seval];refine Qb c5 rfl rfl rfl (.inl rfl) ?_;cases Be P
 ·simp only[QWU,Qa,seval]
 simp only[QXp,QXI,eE,seval];refine Qb c6 rfl rfl rfl (.inl rfl) ?_;cases ha:args P
 ·simp only[QWU,Qa,seval]
 have c7:=z49 P hP l1 (Bo ha);simp only[QXp,QXI,eE,seval];refine Qb c7 rfl rfl rfl (.inl rfl) ?_;cases fin P
 ·simp only[QWU,Qa,seval]
 ·simp only[QXp,QXI,Qa,seval]

open Up

section
variable {M:Nat}{P:PL}(hP:P.ok M)(hM:M≤140737488351232){m:PG→V→Int}{lv:Int}(g:PG)(hg:g.ok M)(v:V)(hv:v.ok M)

def SwI (P:PL)(g:PG)(v:V)(k:Nat)(st:St):Prop :=
 ∃f fr i,st=⟨f,[fr],[]⟩∧k=v.raws.length-i∧XN (Js P g v.raws) v.raws.length 0=XN (Js P g v.raws) (v.raws.length-i) i∧f 4=.ptr 0 4 0∧f 6=.ptr 0 6 0∧f 9=.ptr 0 9 0∧f 16=.int .i64 (i:Nat)∧fr 4=.cells [.list (P.progs.map Qn),.list (P.enums.map Qr)]∧fr 6=.cells (vc v)∧fr 9=.cells g.cells∧∀s∈[17],(fr s).isRow=false

include hP hg hv in
theorem Ct (hu:∀o∈g.ops,UO P o)(f:Fr)(fr:Nat→Ob)(h4:f 4=.ptr 0 4 0)(h6:f 6=.ptr 0 6 0)(h9:f 9=.ptr 0 9 0)(h16:f 16=.int .i64 0)
  (m4:fr 4=.cells [.list (P.progs.map Qn),.list (P.enums.map Qr)]) (m6:fr 6=.cells (vc v)) (m9:fr 9=.cells g.cells) (BM:∀s∈[17],(fr s).isRow=false) (Q:Exit→St→Prop)
  (q1:XN (Js P g v.raws) v.raws.length 0≠0→∀f fr,f 8=.int .i64 (XN (Js P g v.raws) v.raws.length 0)→Q .ret (⟨f,[fr],[]⟩:St))
  (q2:XN (Js P g v.raws) v.raws.length 0=0→∀f fr,Q (.exit 4) (⟨f,[fr],[]⟩:St)):QH Tryz.prog (.loop Sd) ⟨f,[fr],[]⟩ Q:=by
 have e0:P.av=.agg [.list (P.progs.map Qn),.list (P.enums.map Qr)]:=rfl;refine Qd (SwI P g v) _ ⟨f,fr,0,rfl,rfl,rfl,h4,h6,h9,h16,m4,m6,m9,BM⟩ ?_;clear h4 h6 h9 h16 m4 m6 m9 BM;rintro _ st ⟨f0,fr0,i,rfl,rfl,hx,h40,h60,h90,h160,m40,m60,m90,BM⟩;refine QO (a:=_) [17] BM ?_;intro f fr hf hm hn;have h4:f 4=.ptr 0 4 0:=by rw[hf,h40]<;>rfl
 have h6:f 6=.ptr 0 6 0:=by rw[hf,h60]<;>rfl
 have h9:f 9=.ptr 0 9 0:=by rw[hf,h90]<;>rfl
 have h16:f 16=.int .i64 (i:Nat):=by rw[hf,h160]<;>rfl
 have m4:fr 4=.cells [.list (P.progs.map Qn),.list (P.enums.map Qr)]:=by rw[hm 4 (by decide),m40]<;>rfl
 have m6:fr 6=.cells (vc v):=by rw[hm 6 (by decide),m60]<;>rfl
 have m9:fr 9=.cells g.cells:=by rw[hm 9 (by decide),m90]<;>rfl
 have n17:=hn 17 (by decide);clear hf hm hn h40 h60 h90 h160 m40 m60 m90 BM;have m6':=m6;have m9':=m9;simp only[PG.cells]at m9;simp only[vc]at m6;simp only[QWI,h6,h16,m6,eE,seval];by_cases hlt:i<v.raws.length
 ·obtain⟨x,hi⟩:∃x,v.raws[i]? = some x:=⟨v.raws[i],QVO hlt⟩;have hgi:=Us hi;have e1:=Qm i _ hlt (by have:=hv.nr;simp only[maxLen];omega);have c1:=v63 hP g hg hu x;have hr:Js P g v.raws i=if (!UT P g x)=true then 1 else if Ds x=true then 3 else 0:=by rw[Hz hi,Ph]
  rw[e0]at c1;simp only[Qn,PG.cells,R.av]at c1;simp only[Ql hlt,Qh,QXe,Qc,hgi,n17,h4,h6,h9,h16,m4,m6,m9,eE,seval];refine Qb c1 rfl rfl rfl (.inl rfl) ?_;cases hp:UT P g x
  ·rw[hp,QWg (by rfl)]at hr;rw[KH hlt hr (by decide)]at hx;simp only[Qa,seval];exact q1 (by rw[hx];decide) _ _ (by rw[hx];exact(by rfl))
  ·rw[hp,QV1 (by simp)]at hr;have hb:Ds x=(x.wire==3&&decide ((x.data.length:Int) > 4096)||decide ((x.data.length:Int) > 65536)):=rfl;have ok:Ds x=false→XN (Js P g v.raws) v.raws.length 0=XN (Js P g v.raws) (v.raws.length-(i+1)) (i+1):=fun h=>by
    rw[h,QV1 (by simp)]at hr;rw[hx,GA hlt hr]
   have no:Ds x=true→XN (Js P g v.raws) v.raws.length 0=3:=fun h=>by
    rw[h,QWg rfl]at hr;rw[hx,KH hlt hr (by decide)]
   simp only[eE,seval];cases t1:(x.wire==3)
   ·cases t3:decide ((x.data.length:Int) > 65536)
    ·rw[t1,t3]at hb;simp only[t3,h16,e1,eE,seval];exact⟨v.raws.length-(i+1),by omega,_,_,i+1,rfl,rfl,ok hb,(by exact h4),(by exact h6),(by exact h9),(by rfl),(by exact m4),(by exact m6'),(by exact m9'),by simp<;>rfl⟩
    ·rw[t1,t3]at hb;simp only[t3,eE,seval];exact q1 (by rw[no hb];decide) _ _ (by rw[no hb];exact(by rfl))
   ·cases t2:decide ((x.data.length:Int) > 4096)
    ·cases t3:decide ((x.data.length:Int) > 65536)
     ·rw[t1,t2,t3]at hb;simp only[t2,t3,h16,e1,eE,seval];exact⟨v.raws.length-(i+1),by omega,_,_,i+1,rfl,rfl,ok hb,(by exact h4),(by exact h6),(by exact h9),(by rfl),(by exact m4),(by exact m6'),(by exact m9'),by simp<;>rfl⟩
     ·rw[t1,t2,t3]at hb;simp only[t2,t3,eE,seval];exact q1 (by rw[no hb];decide) _ _ (by rw[no hb];exact(by rfl))
    ·rw[t1,t2]at hb;simp only[t2,eE,seval];exact q1 (by rw[no hb];decide) _ _ (by rw[no hb];exact(by rfl))
 ·rw[UL hlt]at hx;simp only[Qy hlt,Qa,seval];exact q2 hx _ _

include hg hv in
theorem PC (fr:Nat→Ob)(m6:fr 6=.cells (vc v))(m9:fr 9=.cells g.cells)(f:Fr)(h4:f 4=.ptr 0 4 0)(h6:f 6=.ptr 0 6 0)(h9:f 9=.ptr 0 9 0)(h15:f 15=.int .i64 0)(Q:Exit→St→Prop)
  (q1:YC g v.slots=true→∀f,f 8=.int .i64 14→Q .ret (⟨f,[fr],[]⟩:St))
  (q2:YC g v.slots=false→∀f,f 4=.ptr 0 4 0→f 6=.ptr 0 6 0→f 9=.ptr 0 9 0→Q (.exit 2) (⟨f,[fr],[]⟩:St)):QH Tryz.prog (.loop Sc) ⟨f,[fr],[]⟩ Q:=by
 let I:Nat→St→Prop:=fun k st=>∃f i,st=⟨f,[fr],[]⟩∧k=g.ops.length-i∧i≤g.ops.length∧(g.ops.take i).any (HC v.slots)=false∧f 4=.ptr 0 4 0∧f 6=.ptr 0 6 0∧f 9=.ptr 0 9 0∧f 15=.int .i64 (i:Nat)
 refine Qd I _ ⟨f,0,rfl,rfl,QVV _,by simp,h4,h6,h9,h15⟩ ?_;clear h4 h6 h9 h15;rintro _ st ⟨f,i,rfl,rfl,hil,hq,h4,h6,h9,h15⟩;simp only[PG.cells]at m9;simp only[vc]at m6;simp only[QWI,h9,h15,m9,eE,seval];by_cases hlt:i<g.ops.length
 ·obtain⟨o,hi⟩:∃o,g.ops[i]? = some o:=⟨g.ops[i],QVO hlt⟩;have hgi:=QQo hi;have e1:=Qm i _ hlt hg.len;have c1:=v62 v (by have:=hv.ns;simp only[maxLen];omega) o.num;rw[Qw]at c1;have ht:(g.ops.take (i+1)).any (HC v.slots)=HC v.slots o:=by
   rw[QXv,hi,List.any_append,hq];simp
  have hmi:HC v.slots o=(o.card==1 && !v.slots.any fun y=>y.1==o.num):=rfl;simp only[Ql hlt,Qh,QXe,Qc,hgi,h9,h15,m9,eE,seval];cases a1:(o.card==1)
  ·rw[a1,QXh]at hmi;simp only[h15,e1,Qa,seval];exact⟨g.ops.length-(i+1),by omega,_,i+1,rfl,rfl,by omega,by rw[ht,hmi],(by exact h4),(by exact h6),(by exact h9),(by rfl)⟩
  ·rw[a1,QXo]at hmi;simp only[Qh,QXe,Qc,hgi,h6,h9,h15,m6,m9,eE,seval];refine Qb c1 rfl rfl rfl (.inl rfl) ?_;cases a2:v.slots.any (fun y=>y.1==o.num)
   ·rw[a2]at hmi;have hany:YC g v.slots=true:=QXB.2 ⟨o,QV0 hi,by show HC v.slots o=true;rw[hmi];rfl⟩;simp only[Qa,seval];exact q1 hany _ (by rfl)
   ·rw[a2]at hmi;simp only[h15,e1,Qa,seval];exact⟨g.ops.length-(i+1),by omega,_,i+1,rfl,rfl,by omega,by rw[ht,hmi];rfl,(by exact h4),(by exact h6),(by exact h9),(by rfl)⟩
 ·have hq':YC g v.slots=false:=by rw[N5,←hq,QWl (by omega)]
  simp only[Qy hlt,Qa,seval];exact q2 hq' _ (by exact h4) (by exact h6) (by exact h9)

def SsI (m:PG→V→Int)(P:PL)(lv:Int)(g:PG)(v:V)(k:Nat)(st:St):Prop :=
 ∃f fr i,st=⟨f,[fr],[]⟩∧k=v.slots.length-i∧XN (Jr m P g v.slots) v.slots.length 0=XN (Jr m P g v.slots) (v.slots.length-i) i∧f 3=.int .i64 lv∧f 4=.ptr 0 4 0∧f 6=.ptr 0 6 0∧f 9=.ptr 0 9 0∧f 10=.int .i64 (i:Nat)∧fr 4=.cells [.list (P.progs.map Qn),.list (P.enums.map Qr)]∧fr 6=.cells (vc v)∧fr 9=.cells g.cells∧fr 17=.none∧∀s∈[12],(fr s).isRow=false

include hg hv in
theorem Nh (hfi:∀o∈g.ops,∀v:V,v.ok M→Qj Tryz.prog 61 [P.av,Qt o,v.av,.int .i64 lv] (.int .i64 (Xd m P o v)))
  (f:Fr) (fr:Nat→Ob) (h3:f 3=.int .i64 lv) (h4:f 4=.ptr 0 4 0) (h6:f 6=.ptr 0 6 0) (h9:f 9=.ptr 0 9 0) (h10:f 10=.int .i64 0)
  (m4:fr 4=.cells [.list (P.progs.map Qn),.list (P.enums.map Qr)]) (m6:fr 6=.cells (vc v)) (m9:fr 9=.cells g.cells) (n17:fr 17=.none) (WM:∀s∈[12],(fr s).isRow=false) (Q:Exit→St→Prop)
  (q1:XN (Jr m P g v.slots) v.slots.length 0≠0→∀f fr,f 8=.int .i64 (XN (Jr m P g v.slots) v.slots.length 0)→Q .ret (⟨f,[fr],[]⟩:St))
  (q2:XN (Jr m P g v.slots) v.slots.length 0=0→∀f fr,f 4=.ptr 0 4 0→f 6=.ptr 0 6 0→f 9=.ptr 0 9 0→fr 4=.cells [.list (P.progs.map Qn),.list (P.enums.map Qr)]→fr 6=.cells (vc v)→fr 9=.cells g.cells→fr 17=.none→Q (.exit 0) (⟨f,[fr],[]⟩:St)) :
  QH Tryz.prog (.loop Sb) ⟨f,[fr],[]⟩ Q:=by
 have e0:P.av=.agg [.list (P.progs.map Qn),.list (P.enums.map Qr)]:=rfl;have hn:v.slots.length≤maxLen:=by have:=hv.ns;simp only[maxLen];omega
 have co:=fun n=>SZ g hg.len n
 simp only[Wg]at co;simp only[Qn,PG.cells]at co;refine Qd (SsI m P lv g v) _ ⟨f,fr,0,rfl,rfl,rfl,h3,h4,h6,h9,h10,m4,m6,m9,n17,WM⟩ ?_;clear h3 h4 h6 h9 h10 m4 m6 m9 n17 WM;rintro _ st ⟨f0,fr0,i,rfl,rfl,hx,h30,h40,h60,h90,h100,m40,m60,m90,n170,WM⟩;refine QO (a:=_) [12] WM ?_;intro f fr hf hm hn12;have h3:f 3=.int .i64 lv:=by rw[hf,h30]<;>rfl
 have h4:f 4=.ptr 0 4 0:=by rw[hf,h40]<;>rfl
 have h6:f 6=.ptr 0 6 0:=by rw[hf,h60]<;>rfl
 have h9:f 9=.ptr 0 9 0:=by rw[hf,h90]<;>rfl
 have h10:f 10=.int .i64 (i:Nat):=by rw[hf,h100]<;>rfl
 have m4:fr 4=.cells [.list (P.progs.map Qn),.list (P.enums.map Qr)]:=by rw[hm 4 (by decide),m40]<;>rfl
 have m6:fr 6=.cells (vc v):=by rw[hm 6 (by decide),m60]<;>rfl
 have m9:fr 9=.cells g.cells:=by rw[hm 9 (by decide),m90]<;>rfl
 have n17:fr 17=.none:=by rw[hm 17 (by decide),n170]<;>rfl
 have n12:=hn12 12 (by decide);clear hf hm hn12 h30 h40 h60 h90 h100 m40 m60 m90 n170 WM;have m6':=m6;have m9':=m9;simp only[PG.cells]at m9;simp only[vc]at m6;simp only[QWI,h6,h10,m6,eE,seval];by_cases hlt:i<v.slots.length
 ·obtain⟨x,hi⟩:∃x,v.slots[i]? = some x:=⟨v.slots[i],QVO hlt⟩;have hgi:=JA hi;have e1:=Qm i _ hlt hn;have c1:=v60 g hg v.slots hn i hlt;simp only[Qn,PG.cells]at c1;obtain⟨sA,sB⟩:=LT (m:=m) (P:=P) (g:=g) hi;simp only[Ql hlt,h6,h9,h10,m6,m9,eE,seval];refine Qb c1 rfl rfl rfl (.inl rfl) ?_;by_cases hz:WT g v.slots i=0
  ·have d0:((0:Int) != 0)=false:=rfl;obtain⟨o,ho,hF⟩:=sB hz;have hom:=(Zo ho).1;have c2:=co x.1;rw[ho]at c2;have c3:=hfi o hom x.2 (hv.slots x (QV0 hi));rw[e0,Qw]at c3;simp only[Qt,PO.cells]at c3;simp only[hz,d0,Qh,QXe,Qc,hgi,QWk,QWu,h6,h9,h10,m6,m9,eE,seval];refine Qb c2 rfl rfl rfl (.inl rfl) ?_;simp only[QWX,QXz,Qt,PO.cells,n12,Qh,QXe,Qc,hgi,h3,h4,h6,h10,m4,m6,eE,seval];refine Qb c3 rfl rfl rfl (.inl rfl) ?_;by_cases hy:Xd m P o x.2=0
   ·rw[GA hlt (hF.trans hy)]at hx;simp only[hy,d0,h10,e1,Qa,seval];exact⟨v.slots.length-(i+1),by omega,_,_,i+1,rfl,rfl,hx,(by exact h3),(by exact h4),(by exact h6),(by exact h9),(by rfl),(by exact m4),(by exact m6'),(by exact m9'),(by exact n17),by simp<;>rfl⟩
   ·rw[KH hlt hF hy]at hx;have d1:(Xd m P o x.2 != 0)=true:=by simp[hy]
    simp only[d1,Qa,seval];exact q1 (by rw[hx];exact hy) _ _ (by rw[hx];exact(by rfl))
  ·rw[KH hlt (sA hz) hz]at hx;have d1:(WT g v.slots i != 0)=true:=by simp[hz]
   simp only[d1,Qa,seval];exact q1 (by rw[hx];exact hz) _ _ (by rw[hx];exact(by rfl))
 ·rw[UL hlt]at hx;simp only[Qy hlt,Qa,seval];exact q2 hx _ _ (by exact h4) (by exact h6) (by exact h9) (by exact m4) (by exact m6') (by exact m9') (by exact n17)

include hP hM in
theorem v31 (hU:Yd P):∀n:Nat,n≤16→∀(t:Int) (g:PG),P.progs[t.toNat]? = some g→0≤t→∀v:V,v.ok M→Qj Tryz.prog 31 [P.av,.int .i64 t,v.av,.int .i64 (17-(n:Int))] (.int .i64 (XK P n g v)):=by
 have e0:P.av=.agg [.list (P.progs.map Qn),.list (P.enums.map Qr)]:=rfl;intro n
 induction n with
 |zero=>
  intro _ t g _ _ v hv;have co:=Cb v hv;rw[Qw]at co;rw[Qw];have d0:decide ((17:Int)-((0:Nat):Int) > 16)=true:=rfl;refine k31.fn (by simp) ?_;simp only[e0,XK,eE,seval];cases a1:(v.kd != 10)
  ·simp only[QXs,eE,seval];refine Qb co rfl rfl rfl (.inl rfl) ?_;cases v.oth
   ·simp only[QV6,Qa,seval]
   ·simp only[Qa,seval]
  ·simp only[QXr,Qa,seval]
 |succ n ih=>
  intro hn16 t g ht t0 v hv;have hgm:=QV0 ht;have hg:=hP.progs g hgm;have hu:=hU g hgm;have hw:IntKind.i64.wrap (17-((n+1:Nat):Int)+1)=17-(n:Int):=by rw[QG];omega
  have hel:=fun(o:PO) (ho:o∈g.ops) (x:V) (hx:x.ok M)=>QQm hP hM hw (fun t g ht t0 v hv=>ih (by omega) t g ht t0 v hv) o (hu o ho) x hx
  have hfi:=fun(o:PO) (ho:o∈g.ops) (x:V) (hx:x.ok M)=>v61 hP hM o (hu o ho) x hx (hel o ho)
  have co:=Cb v hv;rw[Qw]at co;rw[Qw];obtain⟨i,hti⟩:=QXq t0;rw[hti,QXe]at ht;have hga:(P.progs.map Qn)[i]? = some (.agg g.cells):=by simp[ht,Qn]
  simp only[PG.cells]at hga;have d0:decide ((17:Int)-((n+1:Nat):Int) > 16)=false:=QXy (by omega);refine k31.fn (by simp) ?_;simp only[e0,hti,XK,eE,seval];cases a1:(v.kd != 10)
  ·simp only[QXs,eE,seval];refine Qb co rfl rfl rfl (.inl rfl) ?_;cases v.oth
   ·simp only[d0,Qh,QXe,Qc,hga,QV6,eE,seval];unfold UM;refine Nh (lv:=17-((n+1:Nat):Int)) g hg v hv hfi _ _ (by rfl) (by rfl) (by rfl) (by rfl) (by rfl) (by rfl) (by rfl) (by rfl) (by rfl) (by simp<;>rfl) _ (fun hx f fr h8=>?_) (fun hx f fr h4 h6 h9 m4 m6 m9 n17=>?_)
    ·rw[QV1 hx];simp only[h8,Qa,seval]
    ·rw[QWg hx];simp only[Qa,seval];refine PC g hg v hv fr m6 m9 _ (by exact h4) (by exact h6) (by exact h9) (by rfl) _ (fun hx f h8=>?_) (fun hx f h4 h6 h9=>?_)
     ·rw[hx];simp only[h8,Qa,seval]
     ·rw[hx];simp only[QV6,Qa,seval];refine Ct hP g hg v hv hu _ _ (by exact h4) (by exact h6) (by exact h9) (by rfl) m4 m6 m9 (by simp only[QW9,QXP,or_false,forall_eq,n17]<;>rfl) _ (fun hx f fr h8=>?_) (fun hx f fr=>?_)
      ·simp only[h8,Qa,seval]
      ·simp only[hx,Qa,seval]
   ·simp only[Qa,seval]
  ·simp only[QXr,Qa,seval]

end

def Ju (P:PL)(t:Int)(v:V):Int :=
 if t<0∨t≥(P.progs.length:Int)then 10 else if XK P 16 (QW P t) v=0 then(if IntKind.i64.wrap (v.cnt:Int) > 4096 then 3 else 0)else XK P 16 (QW P t) v

section
variable {M:Nat}{P:PL}(hP:P.ok M)(hM:M≤140737488351232)(hU:Yd P)(t:Int)(v:V)(hv:v.ok M)

include hP hM hU hv in
theorem v14:Qj Tryz.prog 14 [P.av,.int .i64 t,v.av] (.int .i64 (Ju P t v)):=by
 have e0:P.av=.agg [.list (P.progs.map Qn),.list (P.enums.map Qr)]:=rfl;rw[Qw];refine k14.fn (by simp) ?_;simp only[e0,eE,seval];unfold Ju;by_cases t0:t<0
 ·have d0:decide (t<0)=true:=QXD t0;rw[QWg (.inl t0)];simp only[d0,Qa,seval]
 have d0:decide (t<0)=false:=QXy t0;by_cases t1:t≥(P.progs.length:Int)
 ·have d1:decide (t≥(P.progs.length:Int))=true:=QXD t1;rw[QWg (.inr t1)];simp only[d0,d1,QWI,eE,seval]
 have d1:decide (t≥(P.progs.length:Int))=false:=QXy t1;rw[QV1 (by omega)];have hlt:t.toNat<P.progs.length:=by omega
 obtain⟨g,hg⟩:∃g,P.progs[t.toNat]? = some g:=⟨P.progs[t.toNat],QVO hlt⟩;have hq:QW P t=g:=by unfold QW;rw[hg];rfl
 have c1:=v31 hP hM hU 16 (QVL _) t g hg (by omega) v hv;have e16:(17:Int)-((16:Nat):Int)=1:=rfl;rw[e16,e0,Qw]at c1;rw[hq];simp only[d0,d1,QWI,eE,seval];refine Qb c1 rfl rfl rfl (.inl rfl) ?_;by_cases hz:XK P 16 g v=0
 ·have c2:=v32 v hv;rw[Qw]at c2;have b0:((0:Int) != 0)=false:=rfl;rw[QWg hz];simp only[hz,b0,eE,seval];refine Qb c2 rfl rfl rfl (.inl rfl) ?_;by_cases hc:IntKind.i64.wrap (v.cnt:Int) > 4096
  ·have d2:decide (IntKind.i64.wrap (v.cnt:Int) > 4096)=true:=QXD hc;rw[QWg hc];simp only[d2,Qa,seval]
  ·have d2:decide (IntKind.i64.wrap (v.cnt:Int) > 4096)=false:=QXy hc;rw[QV1 hc];simp only[d2,Qa,seval]
 ·have b1:(XK P 16 g v != 0)=true:=by simp[hz]
  rw[QV1 hz];simp only[b1,Qa,seval]

end
end Go.Proofs.YtipjfckmopekaaaGreatDoor.Va

namespace Go.Proofs.YtipjfckmopekaaaGreatDoor.Va
open Go Am Rc Bt Br

open Up So

theorem D0 {P:Program}{K:St→Prop}{Qf:List Am.Item}{f:Fr}{m:Qq}{ds:List DF}{d:Nat}{sz bytes el:Nat}{s r:RA}{site g n site' g' n':Nat}{fr:Nat→Ob}{xs ys:List AV}(hs:s.ev f=.vec 0 site g 0 n false)(hl:fr site=.vec g sz xs)(ht:XI site el=true)(hn:n=xs.length)
  (hr:r.ev f=.vec 0 site' g' 0 n' false) (hr2:fr site'=.vec g' sz ys) (hn':n'=ys.length) (hz:ys.all (fun e=>e.cells.length==sz)=true) (hm:n+ys.length≤maxLen) (hb:(n+ys.length)*bytes≤140737488355328)
  (h:QF P Qf ⟨QJ f d (.vec 0 site (g+1) 0 (n+ys.length) false),QJ fr site (.vec (g+1) sz (xs++ys)) :: m,ds⟩ K):QF P (⟨some d,.app sz bytes el s r,none⟩ :: Qf) ⟨f,fr :: m,ds⟩ K:=by
 refine⟨0,site,g,n,xs,ys,hs,hl,ht,by omega,?_,hz,hm,hb,?_⟩
 ·show Q4 (fr :: m) (r.ev f)=some ys;rw[hr];exact JT hr2 hn'
 ·subst hn;rw[QXm];exact h

theorem L6 (l O:List R)(i:Nat)(x:R)(hx:l[i]? = some x)(hO:O.length≤maxLen)(hs:Zf (fun x y:R=>decide (x.num<y.num)) O)(fr:Nat→Ob)(f:Fr)(h0:f 0=.list (l.map R.av))(h3:f 3=.list (O.map R.av))(h4:f 4=.int .i64 (i:Nat))(h5:f 5=.int .i64 (O.length:Nat))(Q:Exit→St→Prop)
  (q:∀(t:Nat) (f:Fr),t≤O.length→(∀j u,t≤j→O[j]? = some u→decide (x.num<u.num)=true)→(∀j u,j<t→O[j]? = some u→decide (x.num<u.num)=false)→f 0=.list (l.map R.av)→f 3=.list (O.map R.av)→f 4=.int .i64 (i:Nat)→f 5=.int .i64 (t:Nat)→Q (.exit 2) (⟨f,[fr],[]⟩:St)) :
  QH Tryz.prog (.loop SN) ⟨f,[fr],[]⟩ Q:=by
 let I:Nat→St→Prop:=fun k st=>∃f t,st=⟨f,[fr],[]⟩∧k=t∧t≤O.length∧(∀j u,t≤j→O[j]? = some u→decide (x.num<u.num)=true)∧f 0=.list (l.map R.av)∧f 3=.list (O.map R.av)∧f 4=.int .i64 (i:Nat)∧f 5=.int .i64 (t:Nat)
 refine Qd I _ ⟨f,O.length,rfl,rfl,QVL _,(by intro j u hj hu;rw[QXb hj]at hu;cases hu),h0,h3,h4,h5⟩ ?_;clear h0 h3 h4 h5;rintro t st ⟨f,_,rfl,rfl,ht,hv,h0,h3,h4,h5⟩;have hxa:=Us hx;simp only[h5,Qa,seval];cases t with
 |zero=>
  have d1:decide (((0:Nat):Int) > 0)=false:=by simp
  simp only[Qa,seval];exact q 0 _ (QVV _) hv (fun j u hj=>by omega) (by exact h0) (by exact h3) (by exact h4) (by exact h5)
 |succ r=>
  obtain⟨u,hu⟩:∃u,O[r]? = some u:=⟨O[r]'(by omega),QVO (by omega)⟩;have hua:=Us hu;have d1:decide (((r+1:Nat):Int) > 0)=true:=by simp only[QVS];omega
  have e2:IntKind.i64.wrap (((r+1:Nat):Int)-1)=((r:Nat):Int):=by
   simp only[maxLen]at hO;rw[QG];omega
  simp only[d1,e2,Qh,QXe,Qc,hxa,hua,h0,h3,h4,h5,eE,seval];cases hcx:decide (u.num > x.num)
  ·simp only[Qa,seval];refine q (r+1) _ ht hv (fun j u' hj hu'=>?_) (by exact h0) (by exact h3) (by exact h4) (by exact h5);have:=KI hs V9 (show j≤r by omega) hu' hu;exact V9.nt x u u' hcx this
  ·simp only[e2,h5,Qa,seval];exact⟨r,by omega,_,r,rfl,rfl,by omega,(by
    intro j v hj hv';rcases Nat.lt_or_eq_of_le hj with h|h
    ·exact hv j v h hv'
    ·subst h;rw[hu]at hv';cases hv';exact hcx),(by exact h0),(by exact h3),(by exact h4),(by rfl)⟩

def RwI (l:List R)(k:Nat)(st:St):Prop :=
 ∃f fr i,st=⟨f,[fr],[]⟩∧k=l.length-i∧i≤l.length∧f 0=.list (l.map R.av)∧f 3=.list ((Zv (l.take i)).map R.av)∧f 4=.int .i64 (i:Nat)∧Qv (fr 37)=true∧Qv (fr 42)=true

set_option maxHeartbeats 1000000 in
theorem v69 (l:List R)(hn:l.length≤1048576):Qj Tryz.prog 69 [.list (l.map R.av)] (.list ((Zv l).map R.av)):=by
 refine k69.fn (by simp) ?_;simp only[Qa,seval];refine FL (by simp only[Qa,seval]) ?_;simp only[Qa,seval];refine Qd (RwI l) _ ⟨_,_,0,rfl,rfl,QVV _,(by rfl),rfl,(by rfl),rfl,rfl⟩ ?_;rintro _ st ⟨f,fr,i,rfl,rfl,hil,h0,h3,h4,R8,r42⟩;simp only[QWI,h0,h4,Qa,seval];by_cases hlt:i<l.length
 ·obtain⟨x,hi⟩:∃x,l[i]? = some x:=⟨l[i],QVO hlt⟩;have hxa:=Us hi;have e1:=Qm i _ hlt (by simp only[maxLen];omega);have hp:(Zv (l.take i)).Perm (l.take i):=Xa _;have hO:(Zv (l.take i)).length=i:=by rw[hp.length_eq,QWK];omega
  clear hp;have hstep:Zv (l.take (i+1))=mg (fun x y:R=>decide (x.num<y.num)) (Zv (l.take i)) [x]:=by
   rw[QXv,hi,QXw];exact(Wv V9 (l.take i) [x]).symm
  have hsrt:Zf (fun x y:R=>decide (x.num<y.num)) (Zv (l.take i)):=Zr V9 _;generalize Zv (l.take i)=O at *;simp only[Ql hlt,QWI,h3,Qa,seval];refine L6 l O i x hi (by simp only[maxLen];omega) hsrt fr _ (by exact h0) (by exact h3) (by exact h4) (by rfl) _ (fun t f ht hv hlow h0 h3 h4 h5=>?_);have hfin:(O.take t).map R.av++([x.av]++(O.drop t).map R.av)=(Zv (l.take (i+1))).map R.av:=by
   have:=YE (lt:=fun x y:R=>decide (x.num<y.num)) (y:=x) (X1:=O.take t) (X2:=O.drop t) (fun u hu=>by
    obtain⟨j,hj⟩:=QXR hu;rw[QWq]at hj;split at hj
    ·rename_i hjt;exact hlow j u hjt hj
    ·cases hj) (fun u hu=>by
    obtain⟨j,hj⟩:=QXR hu;rw[QWr]at hj;exact hv _ u (by omega) hj)
   rw[QW3]at this;rw[hstep,this];simp
  have hle:(t≤O.length)=True:=eq_true ht;have hdt:∀l':List AV,l'.length=O.length→(l'.drop t).take (O.length-t)=l'.drop t:=fun l' h=>QWl (by rw[QWs];omega)
  have hd1:((O.drop t).map R.av).length=i-t:=by rw[QWI,QWs];omega
  have hd2:((O.take t).map R.av).length=t:=by rw[QWI,QWK];omega
  have hT:∀j,i+1≤j→List.take j ((O.take t).map R.av++([x.av]++(O.drop t).map R.av))=(Zv (l.take (i+1))).map R.av:=fun j hj=>by
   rw[QWl (by simp only[QWp,QV2,QWJ,hd1,hd2];omega),hfin]
  simp only[Qh,QXe,Qc,hxa,h0,h4,eE,seval];refine Ga (l:=[.int .i64 x.num,.int .i64 x.wire,.int .u64 (x.bits:Nat),.str x.data]) rfl rfl (by decide) rfl rfl R8 ?_;simp only[nn0,QWj,QWO,QWI,ZJ,Q5,QXl,Qh,QXe,hle,QVL,or_true,Z1,hdt _ (QWI ..),h3,h5,Qa,seval];refine QI (site:=37) (g:=Xr (fr 37)) (n:=1) (xs:=[x.av]) (ys:=(O.drop t).map R.av) (by simp only[Qa,seval]) (by simp only[R.av,Qa,seval]) rfl rfl (by simp only[List.map_drop,Qa,seval]) (Z1 _) (by rw[hd1];simp only[maxLen];omega) (by rw[hd1];omega) ?_;simp only[Qa,seval];refine ZL (by simp only[Qa,seval];exact r42) ?_;simp only[QWI,ZJ,ZB,Q5,QXl,Qh,QXe,QVV,QVL,hle,true_or,QW6,QWu,←List.map_take,h3,h5,Qa,seval];refine QI (site:=42) (g:=_) (n:=0) (xs:=[]) (ys:=(O.take t).map R.av) (by simp only[Qa,seval]<;>rfl) (by simp only[Qa,seval]) rfl rfl (by simp only[Qa,seval]) (Z1 _) (by rw[hd2];simp only[maxLen];omega) (by rw[hd2];omega) ?_;simp only[Qa,seval];refine D0 (site:=42) (g:=_) (n:=0+((O.take t).map R.av).length) (xs:=(O.take t).map R.av) (ys:=[x.av]++(O.drop t).map R.av) (by simp only[Qa,seval]<;>rfl) (by simp only[Qa,seval]) rfl (by omega) (by simp only[Qa,seval]<;>rfl) (by simp only[Qa,seval]) (by simp only[QWp,QV2,QWJ,QWI]<;>omega) (Z1 (x :: O.drop t)) (by simp only[QWp,QV2,QWJ,hd1,hd2,maxLen];omega) (by simp only[QWp,QV2,QWJ,hd1,hd2];omega) ?_;simp only[Qa,seval];refine Nu (site:=42) (g:=_) (sz:=4) (n:=_) (xs:=(O.take t).map R.av++([x.av]++(O.drop t).map R.av)) (by simp only[Qa,seval]<;>rfl) (by simp only[Qa,seval]) (by simp only[QWp,QV2,QWJ,hd1,hd2];omega) ?_;rw[hT];rotate_left
  ·simp only[hd1,hd2];omega
  simp only[e1,h4,Qa,seval];exact⟨l.length-(i+1),by omega,_,_,i+1,rfl,rfl,by omega,(by exact h0),(by rfl),(by rfl),rfl,rfl⟩
 ·have hli:l.take i=l:=QWl (by omega);rw[hli]at h3;simp only[Qy hlt,h3,Qa,seval]

theorem Qxl (k:Int)(a b:V)(_ha:a.bits<18446744073709551616)(_hb:b.bits<18446744073709551616):decide (Ur k a.bits a.text b.bits b.text<0)=kl k a b:=by
 unfold Ur kl;split
 ·exact T2 _ _
 ·rw[Fd];unfold Kk;split
  ·rw[decide_eq_decide,Jc,Jc,QG,QG];omega
  ·rfl

section
variable {P:PL}{k:Int}(hk:X5 k)(ps:List (V×V))(hn:ps.length≤1048576)(h1:∀p∈ps,p.1.one P k (-1)=0)(hb:∀p∈ps,p.1.bits<18446744073709551616)

include hk in
theorem B4 {p q:V×V}(hp:p.1.one P k (-1)=0)(hq:q.1.one P k (-1)=0):Qj Tryz.prog 192 [p.1.av,q.1.av] (.int .i64 (Ur k p.1.bits p.1.text q.1.bits q.1.text)):=by
 have h:=QvZ k hk p.1.bits q.1.bits p.1.text q.1.text;rw[←(Z6 hp).1,←(Z6 hq).1]at h;exact h

theorem PD (hk:X5 k)(hn:ps.length≤1048576)(h1:∀p∈ps,p.1.one P k (-1)=0)(hb:∀p∈ps,p.1.bits<18446744073709551616)(hu:ps.Pairwise fun q p=>ZH q.1 p.1=false)(O:List (V×V))(i:Nat)(x:V×V)(hx:ps[i]? = some x)(fr:Nat→Ob)(f:Fr)(h0:f 0=.list (ps.map V.pav))(h3:f 3=.list (O.map V.pav))(h4:f 4=.int .i64 (i:Nat))(h5:f 5=.bool true)(h6:f 6=.int .i64 ((i+1:Nat):Int))(Q:Exit→St→Prop)
  (q:∀f:Fr,f 0=.list (ps.map V.pav)→f 3=.list (O.map V.pav)→f 4=.int .i64 (i:Nat)→f 5=.bool true→Q (.exit 2) (⟨f,[fr],[]⟩:St)) :
  QH Tryz.prog (.loop MF) ⟨f,[fr],[]⟩ Q:=by
 let I:Nat→St→Prop:=fun n st=>∃f j,st=⟨f,[fr],[]⟩∧n=ps.length-j∧i<j∧f 0=.list (ps.map V.pav)∧f 3=.list (O.map V.pav)∧f 4=.int .i64 (i:Nat)∧f 5=.bool true∧f 6=.int .i64 (j:Nat)
 refine Qd I _ ⟨f,i+1,rfl,rfl,by omega,h0,h3,h4,h5,h6⟩ ?_;clear h0 h3 h4 h5 h6;rintro _ st ⟨f,j,rfl,rfl,hij,h0,h3,h4,h5,h6⟩;simp only[QWI,h0,h6,Qa,seval];by_cases hlt:j<ps.length
 ·obtain⟨y,hj⟩:∃y,ps[j]? = some y:=⟨ps[j],QVO hlt⟩;have hgx:=Z0 hx;have hgy:=Z0 hj;have e1:=Qm j _ hlt (by simp only[maxLen];omega);have hxm:=QV0 hx;have hym:=QV0 hj;have c1:=B4 hk (h1 x hxm) (h1 y hym);have hne:Ur k x.1.bits x.1.text y.1.bits y.1.text≠0:=by
   have h:=N4 hk (h1 x hxm) (h1 y hym) (hb x hxm) (hb y hym);rw[QXK]at hu;have:=hu i j (QVN.1 hx).1 hlt hij;rw[(QVN.1 hx).2,(QVN.1 hj).2]at this;rw[this]at h
   simpa using h
  have d1:(Ur k x.1.bits x.1.text y.1.bits y.1.text != 0)=true:=by simp[hne]
  rw[Qw,Qw]at c1;simp only[Ql hlt,Qh,QXe,Qc,hgx,hgy,QWk,QWV,QWu,h0,h4,h5,h6,eE,seval];refine Qb c1 rfl rfl rfl (.inl rfl) ?_;simp only[d1,h6,e1,Qa,seval];exact⟨ps.length-(j+1),by omega,_,j+1,rfl,rfl,by omega,(by exact h0),(by exact h3),(by exact h4),(by rfl),(by rfl)⟩
 ·simp only[Qy hlt,Qa,seval];exact q _ (by exact h0) (by exact h3) (by exact h4) (by exact h5)

theorem Cu (hk:X5 k)(O:List (V×V))(hO:O.length≤1048576)(hO1:∀p∈O,p.1.one P k (-1)=0)(hOb:∀p∈O,p.1.bits<18446744073709551616)(i:Nat)(x:V×V)(hx:ps[i]? = some x)(hx1:x.1.one P k (-1)=0)(hxb:x.1.bits<18446744073709551616)(fr:Nat→Ob)(f:Fr)(h0:f 0=.list (ps.map V.pav))(h3:f 3=.list (O.map V.pav))(h4:f 4=.int .i64 (i:Nat))(h7:f 7=.int .i64 0)(Q:Exit→St→Prop)
  (q:∀(t:Nat) (f:Fr),t≤O.length→(∀j u,j<t→O[j]? = some u→kl k u.1 x.1=true)→(∀u,O[t]? = some u→kl k u.1 x.1=false)→f 0=.list (ps.map V.pav)→f 3=.list (O.map V.pav)→f 4=.int .i64 (i:Nat)→f 7=.int .i64 (t:Nat)→Q (.exit 4) (⟨f,[fr],[]⟩:St)) :
  QH Tryz.prog (.loop MG) ⟨f,[fr],[]⟩ Q:=by
 let I:Nat→St→Prop:=fun n st=>∃f t,st=⟨f,[fr],[]⟩∧n=O.length-t∧t≤O.length∧(∀j u,j<t→O[j]? = some u→kl k u.1 x.1=true)∧f 0=.list (ps.map V.pav)∧f 3=.list (O.map V.pav)∧f 4=.int .i64 (i:Nat)∧f 7=.int .i64 (t:Nat)
 refine Qd I _ ⟨f,0,rfl,rfl,QVV _,(by intro j u hj;omega),h0,h3,h4,h7⟩ ?_;clear h0 h3 h4 h7;rintro _ st ⟨f,t,rfl,rfl,ht,hv,h0,h3,h4,h7⟩;simp only[QWI,h3,h7,Qa,seval];by_cases hlt:t<O.length
 ·obtain⟨u,hu⟩:∃u,O[t]? = some u:=⟨O[t],QVO hlt⟩;have hgx:=Z0 hx;have hgu:=Z0 hu;have hum:=QV0 hu;have e1:=Qm t _ hlt (by simp only[maxLen];omega);have c1:=B4 hk (hO1 u hum) hx1;have hc:=Qxl k u.1 x.1 (hOb u hum) hxb;rw[Qw,Qw]at c1;simp only[Ql hlt,Qh,QXe,Qc,hgx,hgu,QWk,QWV,QWu,h0,h3,h4,h7,eE,seval];refine Qb c1 rfl rfl rfl (.inl rfl) ?_;cases hl:kl k u.1 x.1
  ·rw[hl]at hc;simp only[hc,Qa,seval];exact q t _ (by omega) hv (fun u' hu'=>by rw[hu]at hu';cases hu';exact hl) (by exact h0) (by exact h3) (by exact h4) (by exact h7)
  ·rw[hl]at hc;simp only[hc,h7,e1,Qa,seval];exact⟨O.length-(t+1),by omega,_,t+1,rfl,rfl,by omega,(by
    intro j u' hj hu';rcases Nat.lt_or_eq_of_le (show j≤t by omega)with h|h
    ·exact hv j u' h hu'
    ·subst h;rw[hu]at hu';cases hu';exact hl),(by exact h0),(by exact h3),(by exact h4),(by rfl)⟩
 ·simp only[Qy hlt,Qa,seval];exact q t _ ht hv (fun u hu=>by rw[QXb (by omega)]at hu;cases hu) (by exact h0) (by exact h3) (by exact h4) (by exact h7)

end

theorem Qxm {k:Int}{P:PL}{a b:V}(ha:a.one P k (-1)=0)(hb:b.one P k (-1)=0)(ba:a.bits<18446744073709551616)(bb:b.bits<18446744073709551616)(h1:kl k a b=false)(h2:ZH a b=false):kl k b a=true:=by
 obtain⟨_,a1,a2⟩:=Z6 ha;obtain⟨_,b1,b2⟩:=Z6 hb;cases hc:kl k b a with
 |true=>rfl
 |false=>
  exfalso;unfold kl at h1 hc;unfold ZH at h2;split at h1
  ·rename_i ht;rw[QWg ht]at hc;have e:=Uo h1 hc;have e1:=a1 ht;have e2:=b1 ht;rw[e,show a.bits=b.bits by omega]at h2;simp at h2
  ·rename_i ht;rw[QV1 ht]at hc;have ht:X9 k=false:=by simpa using ht
   rw[a2 ht,b2 ht]at h2;split at h1
   ·rename_i hs;rw[QWg hs]at hc;simp only[QXE]at h1 hc;rw[QG,QG]at h1 hc;rw[show a.bits=b.bits by omega]at h2;simp at h2
   ·rename_i hs;rw[QV1 hs]at hc;simp only[QXE]at h1 hc;rw[show a.bits=b.bits by omega]at h2;simp at h2

def PwI (k:Int)(ps:List (V×V))(n:Nat)(st:St):Prop :=
 ∃f fr i,st=⟨f,[fr],[]⟩∧n=ps.length-i∧i≤ps.length∧f 0=.list (ps.map V.pav)∧f 3=.list ((Xe k (ps.take i)).map V.pav)∧f 4=.int .i64 (i:Nat)∧Qv (fr 63)=true∧Qv (fr 68)=true

set_option maxHeartbeats 1000000 in
theorem QRl {P:PL}{k:Int}(hk:X5 k)(ps:List (V×V))(hn:ps.length≤1048576)(h1:∀p∈ps,p.1.one P k (-1)=0)(hb:∀p∈ps,p.1.bits<18446744073709551616)(hu:ps.Pairwise fun q p=>ZH q.1 p.1=false):Qj Tryz.prog 114 [.list (ps.map V.pav)] (.list ((Xe k ps).map V.pav)):=by
 refine QLd.fn (by simp) ?_;simp only[Qa,seval];refine FL (by simp only[Qa,seval]) ?_;simp only[Qa,seval];refine Qd (PwI k ps) _ ⟨_,_,0,rfl,rfl,QVV _,(by rfl),rfl,(by rfl),rfl,rfl⟩ ?_;rintro _ st ⟨f,fr,i,rfl,rfl,hil,h0,h3,h4,r63,r68⟩;simp only[QWI,h0,h4,Qa,seval];by_cases hlt:i<ps.length
 ·obtain⟨x,hi⟩:∃x,ps[i]? = some x:=⟨ps[i],QVO hlt⟩;have hxm:=QV0 hi;have hxa:=Z0 hi;have e1:=Qm i _ hlt (by simp only[maxLen];omega);have hperm:(Xe k (ps.take i)).Perm (ps.take i):=Xa _;have hO:(Xe k (ps.take i)).length=i:=by rw[hperm.length_eq,QWK];omega
  have hstep:Xe k (ps.take (i+1))=mg (fun x y:V×V=>kl k x.1 y.1) (Xe k (ps.take i)) [x]:=by
   rw[QXv,hi,QXw];exact(Wv (UR k) (ps.take i) [x]).symm
  have hsrt:Zf (fun x y:V×V=>kl k x.1 y.1) (Xe k (ps.take i)):=Zr (UR k) _;have hOm:∀p∈Xe k (ps.take i),p∈ps:=fun p hp=>QWA (hperm.mem_iff.1 hp)
  have hOk:∀p∈Xe k (ps.take i),ZH p.1 x.1=false:=by
   intro p hp;obtain⟨j,hj⟩:=QVY.1 (hperm.mem_iff.1 hp);have hjl:=(QVN.1 hj).1;rw[QWK]at hjl;rw[QWq,QWg (by omega)]at hj;rw[QXK]at hu;have:=hu j i (by omega) hlt (by omega);rw[(QVN.1 hj).2,(QVN.1 hi).2]at this;exact this
  generalize Xe k (ps.take i)=O at *;simp only[Ql hlt,e1,h4,Qa,seval];refine PD ps hk hn h1 hb hu O i x hi fr _ (by exact h0) (by exact h3) (by exact h4) (by rfl) (by rfl) _ (fun f h0 h3 h4 h5=>?_);simp only[h5,Qa,seval];refine Cu (P:=P) ps hk O (by omega) (fun p hp=>h1 p (hOm p hp)) (fun p hp=>hb p (hOm p hp)) i x hi (h1 x hxm) (hb x hxm) fr _ (by exact h0) (by exact h3) (by exact h4) (by rfl) _ (fun t f ht hlow hup h0 h3 h4 h7=>?_);have hfin:(O.take t).map V.pav++([V.pav x]++(O.drop t).map V.pav)=(Xe k (ps.take (i+1))).map V.pav:=by
   have:=YE (lt:=fun x y:V×V=>kl k x.1 y.1) (y:=x) (X1:=O.take t) (X2:=O.drop t) (fun u hu=>by
    obtain⟨j,hj⟩:=QXR hu;rw[QWq]at hj;split at hj
    ·rename_i hjt;exact(UR k).as (hlow j u hjt hj)
    ·cases hj) (fun u hu'=>by
    obtain⟨j,hj⟩:=QXR hu';rw[QWr]at hj;have hum:=QV0 hj;refine Qxm (h1 u (hOm u hum)) (h1 x hxm) (hb u (hOm u hum)) (hb x hxm) ?_ (hOk u hum);obtain⟨w,hw⟩:∃w,O[t]? = some w:=⟨O[t]'(by have:=(QVN.1 hj).1;omega),QVO _⟩;have h2:=KI hsrt (UR k) (Nat.le_add_right t j) hw hj;exact(UR k).nt u w x h2 (hup w hw))
   rw[QW3]at this;rw[hstep,this];simp
  have hle:(t≤O.length)=True:=eq_true ht;have hdt:∀l':List AV,l'.length=O.length→(l'.drop t).take (O.length-t)=l'.drop t:=fun l' h=>QWl (by rw[QWs];omega)
  have hd1:((O.drop t).map V.pav).length=i-t:=by rw[QWI,QWs];omega
  have hd2:((O.take t).map V.pav).length=t:=by rw[QWI,QWK];omega
  have hT:∀j,i+1≤j→List.take j ((O.take t).map V.pav++([V.pav x]++(O.drop t).map V.pav))=(Xe k (ps.take (i+1))).map V.pav:=fun j hj=>by
   rw[QWl (by simp only[QWp,QV2,QWJ,hd1,hd2];omega),hfin]
  simp only[Qh,QXe,Qc,hxa,QWk,QWu,h0,h4,eE,seval];refine Ga (l:=[.int .i64 x.1.kd,.int .u64 (x.1.bits:Nat),.str x.1.text,.list (x.1.list.map V.av),.list (x.1.pairs.map V.pav),.list (x.1.slots.map V.sav),.list (x.1.raws.map R.av),.int .i64 x.2.kd,.int .u64 (x.2.bits:Nat),.str x.2.text,.list (x.2.list.map V.av),.list (x.2.pairs.map V.pav),.list (x.2.slots.map V.sav),.list (x.2.raws.map R.av)]) rfl rfl (by decide) rfl rfl r63 ?_;simp only[nn0,QWj,QWO,QWI,ZJ,Q5,QXl,Qh,QXe,hle,QVL,or_true,We,hdt _ (QWI ..),h3,h7,Qa,seval];refine QI (site:=63) (g:=Xr (fr 63)) (n:=1) (xs:=[V.pav x]) (ys:=(O.drop t).map V.pav) (by simp only[Qa,seval]) (by simp only[Kf,Qa,seval]) rfl rfl (by simp only[List.map_drop,Qa,seval]) (We _) (by rw[hd1];simp only[maxLen];omega) (by rw[hd1];omega) ?_;simp only[Qa,seval];refine ZL (by simp only[Qa,seval];exact r68) ?_;simp only[QWI,ZJ,ZB,Q5,QXl,Qh,QXe,QVV,QVL,hle,true_or,QW6,QWu,←List.map_take,h3,h7,Qa,seval];refine QI (site:=68) (g:=_) (n:=0) (xs:=[]) (ys:=(O.take t).map V.pav) (by simp only[Qa,seval]<;>rfl) (by simp only[Qa,seval]) rfl rfl (by simp only[Qa,seval]) (We _) (by rw[hd2];simp only[maxLen];omega) (by rw[hd2];omega) ?_;simp only[Qa,seval];refine D0 (site:=68) (g:=_) (n:=0+((O.take t).map V.pav).length) (xs:=(O.take t).map V.pav) (ys:=[V.pav x]++(O.drop t).map V.pav) (by simp only[Qa,seval]<;>rfl) (by simp only[Qa,seval]) rfl (by omega) (by simp only[Qa,seval]<;>rfl) (by simp only[Qa,seval]) (by simp only[QWp,QV2,QWJ,QWI]<;>omega) (We (x :: O.drop t)) (by simp only[QWp,QV2,QWJ,hd1,hd2,maxLen];omega) (by simp only[QWp,QV2,QWJ,hd1,hd2];omega) ?_;simp only[Qa,seval];refine Nu (site:=68) (g:=_) (sz:=14) (n:=_) (xs:=(O.take t).map V.pav++([V.pav x]++(O.drop t).map V.pav)) (by simp only[Qa,seval]<;>rfl) (by simp only[Qa,seval]) (by simp only[QWp,QV2,QWJ,hd1,hd2];omega) ?_;rw[hT];rotate_left
  ·simp only[hd1,hd2];omega
  simp only[e1,h4,Qa,seval];exact⟨ps.length-(i+1),by omega,_,_,i+1,rfl,rfl,by omega,(by exact h0),(by rfl),(by rfl),rfl,rfl⟩
 ·have hli:ps.take i=ps:=QWl (by omega);rw[hli]at h3;simp only[Qy hlt,h3,Qa,seval]

section
variable {M:Nat}{P:PL}{m:PG→V→Prop}{nm:PG→V→V}(o:PO)(ho:UO P o)

include ho in
theorem QRm (hm:∀(t:Int) (g:PG),P.progs[t.toNat]? = some g→0≤t→∀v:V,v.ok M→v.cnt≤1048576→m g v→Qj Tryz.prog 35 [P.av,.int .i64 t,v.av] (nm g v).av)(v:V)(hv:v.ok M)(hc:v.cnt≤1048576)(he:EW m P o v) :
  Qj Tryz.prog 113 [P.av,Qt o,v.av] (Zx nm P o v).av:=by
 have e0:P.av=.agg [.list (P.progs.map Qn),.list (P.enums.map Qr)]:=rfl;unfold Zx;by_cases hk:o.kind=10
 ·have b:(o.kind==10)=true:=by simp[hk]
  have he:=he hk;rw[QWg hk];obtain⟨t0,t1⟩:=ho.tgt hk;obtain⟨g,hg⟩:∃g,P.progs[o.target.toNat]? = some g:=⟨P.progs[o.target.toNat]'(by omega),QVO (by omega)⟩;have hq:QW P o.target=g:=by unfold QW;rw[hg];rfl
  rw[hq]at he ⊢;have h2:=hm o.target g hg t0 v hv hc he;generalize nm g v=z at h2 ⊢;rw[e0,Qw,Qw]at h2;rw[Qw,Qw];refine Qo9.fn (by simp) ?_;simp only[e0,Qt,PO.cells,b,eE,seval];refine Qb h2 rfl rfl rfl (.inl rfl) ?_;simp only[eE,seval]
 ·have b:(o.kind==10)=false:=by simp[hk]
  rw[QV1 hk];have h1:=v75 v (JV hv);generalize v.nsc=z at h1 ⊢;rw[Qw,Qw]at h1;rw[Qw,Qw];refine Qo9.fn (by simp) ?_;simp only[e0,Qt,PO.cells,b,eE,seval];refine Qb h1 rfl rfl rfl (.inl rfl) ?_;simp only[eE,seval]

def WlI (P:PL)(o:PO)(v:V)(F:V→V)(k:Nat)(st:St):Prop :=
 ∃f fr i g,st=⟨f,[fr],[]⟩∧k=v.list.length-i∧i≤v.list.length∧f 3=.ptr 0 3 0∧f 4=.ptr 0 4 0∧f 5=.ptr 0 5 0∧f 6=.ptr 0 6 0∧f 7=.ptr 0 7 0∧f 8=.int .i64 (i:Nat)∧fr 3=.cells [.list (P.progs.map Qn),.list (P.enums.map Qr)]∧fr 4=.cells o.cells∧fr 5=.cells [.int .i64 v.kd,.int .u64 (v.bits:Nat),.str v.text,.list (v.list.map V.av),.list (v.pairs.map V.pav),.list (v.slots.map V.sav),.list (v.raws.map R.av)]∧fr 6=.cells [.int .i64 0,.int .u64 0,.str [],.nils,.nils,.nils,.nils]∧fr 7=.cells [.int .i64 11,.int .u64 0,.str [],.vec 0 1100 g 0 i false,.nils,.nils,.nils]∧fr 1100=.vec g 7 ((v.list.take i).map fun x=>(F x).av)

def WpI (P:PL)(o:PO)(T:List (V×V))(F:V×V→V×V)(k:Nat)(st:St):Prop :=
 ∃f fr i g,st=⟨f,[fr],[]⟩∧k=T.length-i∧i≤T.length∧f 3=.ptr 0 3 0∧f 4=.ptr 0 4 0∧f 6=.ptr 0 6 0∧f 9=.ptr 0 9 0∧f 10=.list (T.map V.pav)∧f 11=.int .i64 (i:Nat)∧fr 3=.cells [.list (P.progs.map Qn),.list (P.enums.map Qr)]∧fr 4=.cells o.cells∧fr 6=.cells [.int .i64 0,.int .u64 0,.str [],.nils,.nils,.nils,.nils]∧fr 9=.cells [.int .i64 12,.int .u64 0,.str [],.nils,.vec 0 1101 g 0 i false,.nils,.nils]∧fr 1101=.vec g 14 ((T.take i).map fun x=>V.pav (F x))

set_option maxHeartbeats 1000000 in
include ho in
theorem v70 (hel:∀v:V,v.ok M→v.cnt≤1048576→EW m P o v→Qj Tryz.prog 113 [P.av,Qt o,v.av] (Zx nm P o v).av)(v:V)(hv:v.ok M)(hc:v.cnt≤1048576)(he:FW m P o v) :
  Qj Tryz.prog 70 [P.av,Qt o,v.av] (ZN nm P o v).av:=by
 have e0:P.av=.agg [.list (P.progs.map Qn),.list (P.enums.map Qr)]:=rfl;unfold ZN;unfold FW at he;by_cases h4:o.card=4
 ·have b4:(o.card==4)=true:=by simp[h4]
  rw[QWg h4]at he;rw[QWg h4];have hL:=he;have hlen:=JO v;rw[Qw v];generalize hF:Zx nm P o=F at hel ⊢;rw[show(V.mk 11 0 [] (v.list.map F) [] [] []).av=.agg [.int .i64 11,.int .u64 0,.str [],.list ((v.list.map F).map V.av),.list [],.list [],.list []]from Qw _];refine k70.fn (by simp) ?_;simp only[e0,Qt,PO.cells,b4,eE,seval];refine JJ (by simp only[Qa,seval]<;>rfl) rfl (by simp only[Qa,seval]<;>rfl) rfl ?_;simp only[List.set,Qa,seval];refine Qd (WlI P o v F) _ ⟨_,_,0,_,rfl,rfl,QVV _,(by rfl),(by rfl),(by rfl),(by rfl),(by rfl),(by rfl),(by rfl),(by rfl),(by rfl),(by rfl),(by rfl),(by rfl)⟩ ?_;rintro _ st ⟨f,fr,i,g,rfl,rfl,hil,h3,h4,h5,h6,h7,h8,m3,m4,m5,m6,m7,mR⟩;have m4':=m4;simp only[PO.cells]at m4;simp only[QWI,h5,h8,m5,eE,seval];by_cases hlt:i<v.list.length
  ·obtain⟨x,hi⟩:∃x,v.list[i]? = some x:=⟨v.list[i],QVO hlt⟩;have hx:=QV0 hi;have hg:=Wy hi;have e1:=Qm i _ hlt (by simp only[maxLen];omega);have c1:=hel x (hv.list x hx) (QVM (YI hx) hc) (hL x hx);have hti:((v.list.take i).map fun x=>(F x).av).length=i:=by rw[QWI,QWK];omega
   have hts:(v.list.take (i+1)).map (fun x=>(F x).av)=(v.list.take i).map (fun x=>(F x).av)++[(F x).av]:=by rw[QXv,hi];simp
   generalize F x=z at c1 hts;rw[e0,Qw x,Qw z]at c1;simp only[Qt,PO.cells]at c1;simp only[Ql hlt,Qh,QXe,Qc,hg,h3,h4,h5,h7,h8,m3,m4,m5,m7,eE,seval];refine Qb c1 rfl rfl rfl (.inl rfl) ?_;refine QP (l:=[z.av]) rfl rfl rfl (by rw[Qw];rfl) ?_;refine QI (site:=1100) (g:=g) (n:=i) (xs:=(v.list.take i).map fun x=>(F x).av) (ys:=[z.av]) (by rfl) (by exact mR) rfl hti.symm rfl (Qv1 [z]) (by simp only[QV2,QWJ,maxLen];omega) (by simp only[QV2,QWJ];omega) ?_;simp only[h7,h8,m7,e1,eE,seval];exact⟨v.list.length-(i+1),by omega,_,_,i+1,g+1,rfl,rfl,by omega,(by exact h3),(by exact h4),(by exact h5),(by exact h6),(by exact h7),(by rfl),(by exact m3),(by exact m4'),(by exact m5),(by exact m6),(by rfl),(by rw[hts];exact(by rfl))⟩
  ·have e:i=v.list.length:=by omega
   subst e;rw[QXm,T4]at mR;simp only[Qy hlt,h6,h7,m6,m7,eE,seval];simp[AV.un,AV.unL,X8,Xq,mR,QWl]
 ·have b4:(o.card==4)=false:=by simp[h4]
  rw[QV1 h4];by_cases h5:o.card=5
  ·have b5:(o.card==5)=true:=by simp[h5]
   rw[QV1 h4,QWg h5]at he;rw[QWg h5];have hE:=he;have hlen:=KL v;have hk:=ho.key h5;have cp:=QRl hk v.pairs (by omega) (fun p hp=>(hE.1 p hp).1) (fun p hp=>JV (hv.keys p hp)) hE.2;have hperm:(Xe o.key v.pairs).Perm v.pairs:=Xa _;have hTl:(Xe o.key v.pairs).length=v.pairs.length:=hperm.length_eq;have hTm:∀p∈Xe o.key v.pairs,p∈v.pairs:=fun p h=>hperm.mem_iff.1 h
   generalize Xe o.key v.pairs=T at *;rw[Qw v];generalize hF:(fun p:V×V=>(p.1.nsc,Zx nm P o p.2))=F;rw[show(V.mk 12 0 [] [] (T.map F) [] []).av=.agg [.int .i64 12,.int .u64 0,.str [],.list [],.list ((T.map F).map V.pav),.list [],.list []]from Qw _];refine k70.fn (by simp) ?_;simp only[e0,Qt,PO.cells,b4,b5,eE,seval];refine JJ (by simp only[Qa,seval]<;>rfl) rfl (by simp only[Qa,seval]<;>rfl) rfl ?_;simp only[List.set,eE,seval];refine Qb cp rfl rfl rfl (.inl rfl) ?_;simp only[Qa,seval];refine Qd (WpI P o T F) _ ⟨_,_,0,_,rfl,rfl,QVV _,(by rfl),(by rfl),(by rfl),(by rfl),(by rfl),(by rfl),(by rfl),(by rfl),(by rfl),(by rfl),(by rfl)⟩ ?_;rintro _ st ⟨f,fr,i,g,rfl,rfl,hil,h3,h4,h6,h9,h10,h11,m3,m4,m6,m9,mR⟩;have m4':=m4;simp only[PO.cells]at m4;simp only[QWI,h10,h11,Qa,seval];by_cases hlt:i<T.length
   ·obtain⟨x,hi⟩:∃x,T[i]? = some x:=⟨T[i],QVO hlt⟩;have hx:=hTm x (QV0 hi);have hg:=Z0 hi;have e1:=Qm i _ hlt (by simp only[maxLen];omega);have c0:=v75 x.1 (JV (hv.keys x hx));have c1:=hel x.2 (hv.vals x hx) (QVM (UV hx) hc) (hE.1 x hx).2;have hti:((T.take i).map fun x=>V.pav (F x)).length=i:=by rw[QWI,QWK];omega
    have hFx:F x=(x.1.nsc,Zx nm P o x.2):=by rw[←hF]
    have hts:(T.take (i+1)).map (fun x=>V.pav (F x))=(T.take i).map (fun x=>V.pav (F x))++[V.pav (x.1.nsc,Zx nm P o x.2)]:=by rw[QXv,hi,←hFx];simp
    generalize x.1.nsc=y at c0 hts;generalize Zx nm P o x.2=z at c1 hts;rw[Qw,Qw y]at c0;rw[e0,Qw,Qw z]at c1;simp only[Qt,PO.cells]at c1;simp only[Ql hlt,Qh,QXe,Qc,hg,h9,h10,h11,m9,eE,seval];refine Qb c0 rfl rfl rfl (.inl rfl) ?_;simp only[Qh,QXe,Qc,hg,QWk,QWn,QWu,h3,h4,h10,h11,m3,m4,eE,seval];refine Qb c1 rfl rfl rfl (.inl rfl) ?_;simp only[eE,seval];refine QP (l:=[V.pav (y,z)]) rfl rfl rfl (by rw[Kf];rfl) ?_;refine QI (site:=1101) (g:=g) (n:=i) (xs:=(T.take i).map fun x=>V.pav (F x)) (ys:=[V.pav (y,z)]) (by rfl) (by exact mR) rfl hti.symm rfl (We [(y,z)]) (by simp only[QV2,QWJ,maxLen];omega) (by simp only[QV2,QWJ];omega) ?_;simp only[h9,h11,m9,e1,eE,seval];exact⟨T.length-(i+1),by omega,_,_,i+1,g+1,rfl,rfl,by omega,(by exact h3),(by exact h4),(by exact h6),(by exact h9),(by exact h10),(by rfl),(by exact m3),(by exact m4'),(by exact m6),(by rfl),(by rw[hts];exact(by rfl))⟩
   ·have e:i=T.length:=by omega
    subst e;rw[QXm,Py]at mR;simp only[Qy hlt,h6,h9,m6,m9,eE,seval];simp[AV.un,AV.unL,X8,Xq,mR,QWl]
  ·have b5:(o.card==5)=false:=by simp[h5]
   rw[QV1 h4,QV1 h5]at he;rw[QV1 h5];have c1:=hel v hv hc he;generalize Zx nm P o v=z at c1 ⊢;rw[e0,Qw v,Qw z]at c1;simp only[Qt,PO.cells]at c1;rw[Qw v,Qw z];refine k70.fn (by simp) ?_;simp only[e0,Qt,PO.cells,b4,b5,eE,seval];refine Qb c1 rfl rfl rfl (.inl rfl) ?_;simp only[eE,seval]

end
end Go.Proofs.YtipjfckmopekaaaGreatDoor.Va

/- Parts of the proof, in order. -/
import Derived.Test.YtipjfckmopekaaaGreatDoorProg
import Derived.Test.YtipjfckmopekaaaGreatDoorMTagencSizes3

set_option linter.unusedSimpArgs false
namespace Go.Proofs.YtipjfckmopekaaaGreatDoor.Tz
open Go Am Bt Tg So
variable {Pg:Program}{cz sr ro sm is st ss:Nat}(hC:Tg.Cs Pg cz sr ro sm is st ss)(hcz:cz≠0)

variable {E:AV→Prop}

include hC hcz in
theorem IA (cmp:AV){fr:Nat→Ob}{lv s g N a b n:Nat}(P X Y S:List AV){m:Ql}(hlv:lv<m.length)(hX:0<X.length)(hY:0<Y.length)(he:∀x∈P++X++Y++S,Ez E cz x)
  (hn:(P++X++Y++S).length<4611686018427387904) (hN:N=(P++X++Y++S).length) (ha:a=P.length) (hb:b=P.length+X.length) (hc:n=P.length+X.length+Y.length) :
  Qh Pg ro [.vec (lv+1) s g 0 N false,.int .i64 (a:Nat),.int .i64 (b:Nat),.int .i64 (n:Nat),cmp] (fr :: Am.put m lv s (.vec g cz (P++X++Y++S)))
   (fun x m1=>x=.tup []∧m1=fr :: Am.put m lv s (.vec g cz (P++Y++X++S))):=by
 have _:=hC;have _:=hcz;subst hN ha hb hc;refine(QIv hC hcz cmp (lv+1) s g P X Y S (fr :: Am.put m lv s (.vec g cz (P++X++Y++S))) (Qx (m:=m) hlv) hX hY he hn).mono fun x m1 h=>⟨h.1,?_⟩
 rw[h.2];simp only[Am.put,KG]

def Uc (Pg:Program)(cz sm:Nat)(E:AV→Prop)(kc:Nat)(c:AV→AV→Int)(n:Nat):Prop :=
 ∀(lv s g:Nat) (P X Y S:List AV) (m:Ql),X.length+Y.length=n→0<X.length→0<Y.length→Am.Qg m lv s=.vec g cz (P++X++Y++S)→(∀x∈P++X++Y++S,Ez E cz x)→
  (P++X++Y++S).length<4611686018427387904→Zo (lt c) X→Zo (lt c) Y→
  Qh Pg sm [.vec lv s g 0 (P++X++Y++S).length false,.int .i64 (P.length:Nat),.int .i64 ((P.length+X.length:Nat):Int),.int .i64 ((P.length+X.length+Y.length:Nat):Int),.fn (.func kc) [] []] m
   (fun v m1=>v=.tup []∧m1=Am.put m lv s (.vec g cz (P++mg (lt c) X Y++S)))

include hC hcz in
theorem W8 {kc:Nat}{c:AV→AV→Int}{n:Nat}(h:Uc Pg cz sm E kc c n){fr:Nat→Ob}{lv s g N a b e:Nat}(P X Y S:List AV){m:Ql}(hlv:lv<m.length)(hXY:X.length+Y.length=n)(hX:0<X.length)(hY:0<Y.length)(he:∀x∈P++X++Y++S,Ez E cz x)
  (hn:(P++X++Y++S).length<4611686018427387904) (sX:Zo (lt c) X) (sY:Zo (lt c) Y) (hN:N=(P++X++Y++S).length) (ha:a=P.length) (hb:b=P.length+X.length) (hc:e=P.length+X.length+Y.length) :
  Qh Pg sm [.vec (lv+1) s g 0 N false,.int .i64 (a:Nat),.int .i64 (b:Nat),.int .i64 (e:Nat),.fn (.func kc) [] []] (fr :: Am.put m lv s (.vec g cz (P++X++Y++S)))
   (fun x m1=>x=.tup []∧m1=fr :: Am.put m lv s (.vec g cz (P++mg (lt c) X Y++S))):=by
 have _:=hC;have _:=hcz;subst hN ha hb hc;refine(h (lv+1) s g P X Y S (fr :: Am.put m lv s (.vec g cz (P++X++Y++S))) hXY hX hY (Qx (m:=m) hlv) he hn sX sY).mono fun x m1 h=>⟨h.1,?_⟩
 rw[h.2];simp only[Am.put,KG]

def ScS (cz:Nat)(m:Ql)(lv s g N mid s0 r0:Nat)(kc:Nat)(c:AV→AV→Int)(P X Y S:List AV)(k:Nat)(st:St):Prop :=
 ∃f i j,st=⟨f,[Qc]++Am.put m lv s (.vec g cz (P++X++Y++S)),[]⟩∧k=j-i∧s0≤i∧i≤j∧j≤r0∧
  (∀k x y,s0≤k→k<i→X[k-P.length]? = some x→Y[mid-1-k]? = some y→lt c y x=false)∧(∀k x y,j≤k→k<r0→X[k-P.length]? = some x→Y[mid-1-k]? = some y→lt c y x=true)∧
  f 0=.vec (lv+1) s g 0 N false∧f 1=.int .i64 (P.length:Nat)∧f 2=.int .i64 ((P.length+X.length:Nat):Int)∧f 3=.int .i64 ((P.length+X.length+Y.length:Nat):Int)∧f 4=.fn (.func kc) [] []∧
  f 18=.int .i64 (mid:Nat)∧f 19=.int .i64 ((mid+(P.length+X.length):Nat):Int)∧f 22=.int .i64 ((mid+(P.length+X.length)-1:Nat):Int)∧f 20=.int .i64 (i:Nat)∧f 21=.int .i64 (j:Nat)

theorem PQ {c:AV→AV→Int}(hsw:SW (lt c)){X Y:List AV}{p mid t:Nat}{s0 r0:Nat}(sX:Zo (lt c) X)(sY:Zo (lt c) Y)(h1:s0≤t)(h2:t≤r0)(hp:p≤t)(htm:t≤mid)(hr:r0=mid∨r0=p+X.length)(hs:mid-s0≥Y.length∨s0=p)(hs2:mid-s0≤Y.length)(hr2:r0≤p+X.length)
  (hlow:∀k x y,s0≤k→k<t→X[k-p]? = some x→Y[mid-1-k]? = some y→lt c y x=false) (hhigh:∀k x y,t≤k→k<r0→X[k-p]? = some x→Y[mid-1-k]? = some y→lt c y x=true) :
  mg (lt c) X Y=mg (lt c) (X.take (t-p)) (Y.take (mid-t))++mg (lt c) (X.drop (t-p)) (Y.drop (mid-t)):=by
 have key:=KS (lt:=lt c) _ (X.take (t-p)) (Y.take (mid-t)) (X.drop (t-p)) (Y.drop (mid-t)) rfl ?_ ?_
 ·rwa [QNi,QNi]at key
 ·intro y hy x hx;obtain⟨k,hk⟩:=QN6 hy;obtain⟨l,hl⟩:=QN6 hx;rw[QMI]at hk;split at hk
  ·rename_i hkt;rw[QMJ]at hl;have hlX:t-p+l<X.length:=(QL5.1 hl).1;have hkY:k<Y.length:=(QL5.1 hk).1;have htr:t<r0:=by rcases hr with h|h<;>omega
   by_cases hY2:mid-1-t<Y.length
   ·obtain⟨x0,hx0⟩:∃x,X[t-p]? = some x:=⟨_,QL6 (by omega)⟩;obtain⟨y0,hy0⟩:∃y,Y[mid-1-t]? = some y:=⟨_,QL6 hY2⟩;have h0:=hhigh t x0 y0 (QL3 _) htr hx0 hy0;have h3:=J0 hsw sY (show k≤mid-1-t by omega) hk hy0 h0;have h4:=WA sX hsw (show t-p≤t-p+l by omega) hx0 hl;cases hb:lt c y x with
    |true=>rfl
    |false=>
     have:=hsw.nt y x x0 hb h4;rw[h3]at this;cases this
   ·exfalso;omega
  ·cases hk
 ·intro x hx y hy;obtain⟨k,hk⟩:=QN6 hy;obtain⟨l,hl⟩:=QN6 hx;rw[QMI]at hl;split at hl
  ·rename_i hlt;rw[QMJ]at hk;have hkY:mid-t+k<Y.length:=(QL5.1 hk).1;have hlX:l<X.length:=(QL5.1 hl).1;have hst:s0<t:=by rcases hs with h|h<;>omega
   by_cases hX2:t-1-p<X.length
   ·obtain⟨x0,hx0⟩:∃x,X[t-1-p]? = some x:=⟨_,QL6 hX2⟩;obtain⟨y0,hy0⟩:∃y,Y[mid-1-(t-1)]? = some y:=⟨_,QL6 (by omega)⟩;have h0:=hlow (t-1) x0 y0 (by omega) (by omega) hx0 hy0;have h3:=WA sX hsw (show l≤t-1-p by omega) hl hx0;have h4:lt c y x0=false:=by
     cases hb:lt c y x0 with
     |false=>rfl
     |true=>
      have:=J0 hsw sY (show mid-1-(t-1)≤mid-t+k by omega) hy0 hk hb;rw[h0]at this;cases this
    exact hsw.nt y x0 x h4 h3
   ·exfalso;omega
  ·cases hl

section
variable {kc:Nat}{c:AV→AV→Int}{nn lv s g N:Nat}{P X1 X2 Y1 Y2 S:List AV}{m:Ql}{f:Fr}

include hC hcz in
theorem QzM (ih:∀n,n<nn→Uc Pg cz sm E kc c n)(hnn:X2.length+Y2.length<nn)(hlv:lv<m.length)(he:∀x∈P++X2++Y2++S,Ez E cz x)(hN:N=(P++X2++Y2++S).length)(hn:N<4611686018427387904)
  (sX:Zo (lt c) X2) (sY:Zo (lt c) Y2) (f0:f 0=.vec (lv+1) s g 0 N false) (f3:f 3=.int .i64 ((P.length+X2.length+Y2.length:Nat):Int)) (f4:f 4=.fn (.func kc) [] []) (f18:f 18=.int .i64 (P.length:Nat)) (f24:f 24=.int .i64 ((P.length+X2.length:Nat):Int)) :
  QJ Pg (.seq (.reg (JK cz sr ro sm is st)) (.cond (.t 213) (.reg (JL cz sr ro sm is st)) (.skip))) ⟨f,Qc :: Am.put m lv s (.vec g cz (P++X2++Y2++S)),[]⟩
   (X7 H6 m.length (fun v m1=>v=.tup []∧m1=Am.put m lv s (.vec g cz (P++mg (lt c) X2 Y2++S)))):=by
 have _:=hC;have _:=hcz;simp only[JK,JL,H6,f18,f24,Qa,seval];by_cases h1:0<X2.length
 ·have d1:decide ((P.length:Int)<((P.length+X2.length:Nat):Int))=true:=by simp only[QMa];omega
  by_cases h2:0<Y2.length
  ·have d2:decide (((P.length+X2.length:Nat):Int)<((P.length+X2.length+Y2.length:Nat):Int))=true:=by simp only[QMa];omega
   simp only[d1,d2,f0,f3,f4,f18,f24,Qa,seval];refine Qi (W8 hC hcz (ih _ hnn) P X2 Y2 S hlv rfl h1 h2 he (by omega) sX sY hN rfl rfl rfl) rfl ?_;simp only[put_len,Qa,seval]
  ·have d2:decide (((P.length+X2.length:Nat):Int)<((P.length+X2.length+Y2.length:Nat):Int))=false:=by simp only[QNR];omega
   have hy:Y2=[]:=QM8 (by omega);have hfin:P++X2++Y2++S=P++mg (lt c) X2 Y2++S:=by rw[hy,Z3];simp
   simp only[d1,d2,f3,f24,hfin,put_len,Qa,seval]
 ·have d1:decide ((P.length:Int)<((P.length+X2.length:Nat):Int))=false:=by simp only[QNR];omega
  have hx:X2=[]:=QM8 (by omega);have hfin:P++X2++Y2++S=P++mg (lt c) X2 Y2++S:=by rw[hx,ZE];simp
  simp only[d1,hfin,put_len,Qa,seval]

include hC hcz in
theorem QzN (ih:∀n,n<nn→Uc Pg cz sm E kc c n)(hn1:X1.length+Y1.length<nn)(hn2:X2.length+Y2.length<nn)(hlv:lv<m.length)(he:∀x∈P++X1++Y1++(X2++Y2++S),Ez E cz x)(hN:N=(P++X1++Y1++(X2++Y2++S)).length)(hn:N<4611686018427387904)
  (sX1:Zo (lt c) X1) (sY1:Zo (lt c) Y1) (sX:Zo (lt c) X2) (sY:Zo (lt c) Y2) (f0:f 0=.vec (lv+1) s g 0 N false) (f1:f 1=.int .i64 (P.length:Nat)) (f3:f 3=.int .i64 ((P.length+X1.length+Y1.length+X2.length+Y2.length:Nat):Int)) (f4:f 4=.fn (.func kc) [] []) (f18:f 18=.int .i64 ((P.length+X1.length+Y1.length:Nat):Int)) (f20:f 20=.int .i64 ((P.length+X1.length:Nat):Int)) (f24:f 24=.int .i64 ((P.length+X1.length+Y1.length+X2.length:Nat):Int)) :
  QJ Pg (.seq (.seq (.reg (KV cz sr ro sm is st)) (.cond (.t 199) (.reg (KW cz sr ro sm is st)) (.skip))) (.seq (.reg (JK cz sr ro sm is st)) (.cond (.t 213) (.reg (JL cz sr ro sm is st)) (.skip)))) ⟨f,Qc :: Am.put m lv s (.vec g cz (P++X1++Y1++(X2++Y2++S))),[]⟩
   (X7 H6 m.length (fun v m1=>v=.tup []∧m1=Am.put m lv s (.vec g cz (P++(mg (lt c) X1 Y1++mg (lt c) X2 Y2)++S)))):=by
 have _:=hC;have _:=hcz;have hlm:(mg (lt c) X1 Y1).length=X1.length+Y1.length:=Qsl _ _ _ rfl;have hlen:N=P.length+X1.length+Y1.length+X2.length+Y2.length+S.length:=by rw[hN];simp only[QMH];omega
 have hem:∀x∈P++mg (lt c) X1 Y1++X2++Y2++S,Ez E cz x:=by
  intro x hx;refine he x ?_;simp only[QNk]at hx ⊢;rcases hx with(((hx|hx)|hx)|hx)|hx
  ·exact .inl (.inl (.inl hx))
  ·exact(Qsm _ _ _ rfl hx).elim (fun h=>.inl (.inl (.inr h))) (fun h=>.inl (.inr h))
  ·exact .inr (.inl (.inl hx))
  ·exact .inr (.inl (.inr hx))
  ·exact .inr (.inr hx)
 have go:∀f:Fr,f 0=.vec (lv+1) s g 0 N false→f 3=.int .i64 ((P.length+X1.length+Y1.length+X2.length+Y2.length:Nat):Int)→f 4=.fn (.func kc) [] []→f 18=.int .i64 ((P.length+X1.length+Y1.length:Nat):Int)→f 24=.int .i64 ((P.length+X1.length+Y1.length+X2.length:Nat):Int)→
   QJ Pg (.seq (.reg (JK cz sr ro sm is st)) (.cond (.t 213) (.reg (JL cz sr ro sm is st)) (.skip))) ⟨f,Qc :: Am.put m lv s (.vec g cz (P++mg (lt c) X1 Y1++(X2++Y2++S))),[]⟩
   (X7 H6 m.length (fun v m1=>v=.tup []∧m1=Am.put m lv s (.vec g cz (P++(mg (lt c) X1 Y1++mg (lt c) X2 Y2)++S)))):=by
  intro f f0 f3 f4 f18 f24;have hpl:(P++mg (lt c) X1 Y1).length=P.length+X1.length+Y1.length:=by rw[QMH,hlm];omega
  have:=QzM hC hcz (P:=P++mg (lt c) X1 Y1) (X2:=X2) (Y2:=Y2) (S:=S) (m:=m) (f:=f) (g:=g) (s:=s) ih hn2 hlv hem (by rw[hlen];simp only[QMH,hlm];omega) hn sX sY f0 (by rw[hpl];exact f3) f4 (by rw[hpl];exact f18) (by rw[hpl];exact f24);rw[show P++mg (lt c) X1 Y1++(X2++Y2++S)=P++mg (lt c) X1 Y1++X2++Y2++S by simp only[QMq],show P++(mg (lt c) X1 Y1++mg (lt c) X2 Y2)++S=P++mg (lt c) X1 Y1++mg (lt c) X2 Y2++S by simp only[QMq]];exact this
 rw[WQ,WQ];simp only[KV,KW,f1,f20,WP,JD,Zs,JC,JE,Uk,Yw,Qr,QS,QY,cond_true,cond_false,QMV,seval,ZU];by_cases h1:0<X1.length
 ·have d1:decide ((P.length:Int)<((P.length+X1.length:Nat):Int))=true:=by simp only[QMa];omega
  by_cases h2:0<Y1.length
  ·have d2:decide (((P.length+X1.length:Nat):Int)<((P.length+X1.length+Y1.length:Nat):Int))=true:=by simp only[QMa];omega
   simp only[d1,d2,f0,f1,f4,f18,f20,WP,Zr,JB,JD,Zs,JC,JE,Uk,JT,Yw,G0,J8,WR,Qr,QS,QY,cond_true,cond_false,QMV,seval,ZU];refine Qi (W8 hC hcz (ih _ hn1) P X1 Y1 (X2++Y2++S) hlv rfl h1 h2 he (by omega) sX1 sY1 hN rfl rfl rfl) rfl ?_;rw[JB,Zr];refine go _ ?_ ?_ ?_ ?_ ?_
   ·simp only[f0,Qa,seval]
   ·simp only[f3,Qa,seval]
   ·simp only[f4,Qa,seval]
   ·simp only[f18,Qa,seval]
   ·simp only[f24,Qa,seval]
  ·have d2:decide (((P.length+X1.length:Nat):Int)<((P.length+X1.length+Y1.length:Nat):Int))=false:=by simp only[QNR];omega
   have hy:Y1=[]:=QM8 (by omega);have hres:mg (lt c) X1 Y1=X1++Y1:=by rw[hy,Z3,QM7]
   rw[hres,←QMq P X1 Y1]at go;simp only[d1,d2,hres,f18,f20,Zr,JB,JD,Zs,JC,JE,Uk,JT,Yw,G0,J8,JS,Ws,Qr,QS,QY,cond_true,cond_false,QMV,seval,ZU];refine go _ ?_ ?_ ?_ ?_ ?_
   ·simp only[f0,Qa,seval]
   ·simp only[f3,Qa,seval]
   ·simp only[f4,Qa,seval]
   ·simp only[f18,Qa,seval]
   ·simp only[f24,Qa,seval]
 ·have d1:decide ((P.length:Int)<((P.length+X1.length:Nat):Int))=false:=by simp only[QNR];omega
  have hx:X1=[]:=QM8 (by omega);have hres:mg (lt c) X1 Y1=X1++Y1:=by rw[hx,ZE,QMs]
  rw[hres,←QMq P X1 Y1]at go;simp only[d1,hres,Zr,JB,JD,Zs,JC,JE,Uk,K5,Yw,G0,J8,JS,Ws,Qr,cond_true,cond_false,QMV,seval,ZU];refine go _ ?_ ?_ ?_ ?_ ?_
  ·simp only[f0,Qa,seval]
  ·simp only[f3,Qa,seval]
  ·simp only[f4,Qa,seval]
  ·simp only[f18,Qa,seval]
  ·simp only[f24,Qa,seval]

include hC hcz in
theorem QzO (ih:∀n,n<nn→Uc Pg cz sm E kc c n)(hn1:X1.length+Y1.length<nn)(hn2:X2.length+Y2.length<nn)(hlv:lv<m.length)(he:∀x∈P++X1++X2++Y1++(Y2++S),Ez E cz x)(hN:N=(P++X1++X2++Y1++(Y2++S)).length)(hn:N<4611686018427387904)
  (sX1:Zo (lt c) X1) (sY1:Zo (lt c) Y1) (sX:Zo (lt c) X2) (sY:Zo (lt c) Y2) (f0:f 0=.vec (lv+1) s g 0 N false) (f1:f 1=.int .i64 (P.length:Nat)) (f2:f 2=.int .i64 ((P.length+X1.length+X2.length:Nat):Int)) (f3:f 3=.int .i64 ((P.length+X1.length+Y1.length+X2.length+Y2.length:Nat):Int)) (f4:f 4=.fn (.func kc) [] []) (f18:f 18=.int .i64 ((P.length+X1.length+Y1.length:Nat):Int)) (f19:f 19=.int .i64 ((P.length+X1.length+Y1.length+(P.length+X1.length+X2.length):Nat):Int)) (f20:f 20=.int .i64 ((P.length+X1.length:Nat):Int)) :
  QJ Pg (.seq (.reg (WF cz sr ro sm is st)) (.seq (.seq (.reg (WG cz sr ro sm is st)) (.cond (.t 185) (.reg (WH cz sr ro sm is st)) (.skip))) (.seq (.seq (.reg (KV cz sr ro sm is st)) (.cond (.t 199) (.reg (KW cz sr ro sm is st)) (.skip))) (.seq (.reg (JK cz sr ro sm is st)) (.cond (.t 213) (.reg (JL cz sr ro sm is st)) (.skip)))))) ⟨f,Qc :: Am.put m lv s (.vec g cz (P++X1++X2++Y1++(Y2++S))),[]⟩
   (X7 H6 m.length (fun v m1=>v=.tup []∧m1=Am.put m lv s (.vec g cz (P++(mg (lt c) X1 Y1++mg (lt c) X2 Y2)++S)))):=by
 have _:=hC;have _:=hcz;have hlen:N=P.length+X1.length+Y1.length+X2.length+Y2.length+S.length:=by rw[hN];simp only[QMH];omega
 have hem:∀x∈P++X1++Y1++(X2++Y2++S),Ez E cz x:=by
  intro x hx;refine he x ?_;simp only[QNk]at hx ⊢;rcases hx with((hx|hx)|hx)|((hx|hx)|hx)
  ·exact .inl (.inl (.inl (.inl hx)))
  ·exact .inl (.inl (.inl (.inr hx)))
  ·exact .inl (.inr hx)
  ·exact .inl (.inl (.inr hx))
  ·exact .inr (.inl hx)
  ·exact .inr (.inr hx)
 have go:∀f:Fr,f 0=.vec (lv+1) s g 0 N false→f 1=.int .i64 (P.length:Nat)→f 3=.int .i64 ((P.length+X1.length+Y1.length+X2.length+Y2.length:Nat):Int)→f 4=.fn (.func kc) [] []→f 18=.int .i64 ((P.length+X1.length+Y1.length:Nat):Int)→f 20=.int .i64 ((P.length+X1.length:Nat):Int)→f 24=.int .i64 ((P.length+X1.length+Y1.length+X2.length:Nat):Int)→_ :=
  fun f f0 f1 f3 f4 f18 f20 f24=>QzN hC hcz (P:=P) (X1:=X1) (Y1:=Y1) (X2:=X2) (Y2:=Y2) (S:=S) (m:=m) (f:=f) (g:=g) (s:=s) ih hn1 hn2 hlv hem (by rw[hlen];simp only[QMH];omega) hn sX1 sY1 sX sY f0 f1 f3 f4 f18 f20 f24
 have e1:IntKind.i64.wrap (((P.length+X1.length+Y1.length+(P.length+X1.length+X2.length):Nat):Int)-((P.length+X1.length:Nat):Int))=((P.length+X1.length+Y1.length+X2.length:Nat):Int):=by rw[QF];omega
 rw[WQ];simp only[WF,e1,f19,f20,WP,Zr,JB,JD,Zs,JC,JE,Yw,Qr,QS,QY,cond_true,cond_false,QMV,seval,ZU];rw[WQ,WQ];simp only[WG,f2,f20,WP,JD,Zs,JC,JE,Uk,Yw,Qr,QS,QY,cond_true,cond_false,QMV,seval,ZU];by_cases h1:0<X2.length
 ·have d1:decide (((P.length+X1.length:Nat):Int)<((P.length+X1.length+X2.length:Nat):Int))=true:=by simp only[QMa];omega
  by_cases h2:0<Y1.length
  ·have d2:decide (((P.length+X1.length+X2.length:Nat):Int)<((P.length+X1.length+Y1.length+X2.length:Nat):Int))=true:=by simp only[QMa];omega
   simp only[WH,d1,d2,f0,f2,f4,f20,WP,Zr,JB,JD,Zs,JC,JE,Uk,JT,Yw,G0,J8,WR,Qr,QS,QY,cond_true,cond_false,QMV,seval,ZU];refine Qi (IA hC hcz (.fn (.func kc) [] []) (P++X1) X2 Y1 (Y2++S) (n:=P.length+X1.length+Y1.length+X2.length) hlv h1 h2 he (by omega) hN (by rw[QMH]) (by rw[QMH]) (by rw[QMH];omega)) rfl ?_;rw[JB,Zr];rw[show P++X1++Y1++X2++(Y2++S)=P++X1++Y1++(X2++Y2++S)by simp only[QMq]];refine go _ ?_ ?_ ?_ ?_ ?_ ?_ ?_
   ·simp only[f0,Qa,seval]
   ·simp only[f1,Qa,seval]
   ·simp only[f3,Qa,seval]
   ·simp only[f4,Qa,seval]
   ·simp only[f18,Qa,seval]
   ·simp only[f20,Qa,seval]
   ·simp only[Qa,seval]
  ·have d2:decide (((P.length+X1.length+X2.length:Nat):Int)<((P.length+X1.length+Y1.length+X2.length:Nat):Int))=false:=by simp only[QNR];omega
   have hy:Y1=[]:=QM8 (by omega);have hrow:P++X1++X2++Y1++(Y2++S)=P++X1++Y1++(X2++Y2++S):=by rw[hy];simp
   simp only[d1,d2,hrow,f2,Zr,JB,JD,Zs,JC,JE,Uk,JT,Yw,G0,J8,JS,Ws,Qr,QS,QY,cond_true,cond_false,QMV,seval,ZU];refine go _ ?_ ?_ ?_ ?_ ?_ ?_ ?_
   ·simp only[f0,Qa,seval]
   ·simp only[f1,Qa,seval]
   ·simp only[f3,Qa,seval]
   ·simp only[f4,Qa,seval]
   ·simp only[f18,Qa,seval]
   ·simp only[f20,Qa,seval]
   ·simp only[Qa,seval]
 ·have d1:decide (((P.length+X1.length:Nat):Int)<((P.length+X1.length+X2.length:Nat):Int))=false:=by simp only[QNR];omega
  have hx:X2=[]:=QM8 (by omega);have hrow:P++X1++X2++Y1++(Y2++S)=P++X1++Y1++(X2++Y2++S):=by rw[hx];simp
  simp only[d1,hrow,Zr,JB,JD,Zs,JC,JE,Uk,K5,Yw,G0,J8,JS,Ws,Qr,cond_true,cond_false,QMV,seval,ZU];refine go _ ?_ ?_ ?_ ?_ ?_ ?_ ?_
  ·simp only[f0,Qa,seval]
  ·simp only[f1,Qa,seval]
  ·simp only[f3,Qa,seval]
  ·simp only[f4,Qa,seval]
  ·simp only[f18,Qa,seval]
  ·simp only[f20,Qa,seval]
  ·simp only[Qa,seval]

end

set_option maxHeartbeats 1000000 in
include hC hcz in
theorem QIz {kc:Nat}{c:AV→AV→Int}(hc:Cp Pg cz E kc c)(nn:Nat)(ih:∀n,n<nn→Uc Pg cz sm E kc c n)(lv s g:Nat)(P X Y S:List AV)(m:Ql)(hXY:X.length+Y.length=nn)(hX1:1<X.length)(hY1:1<Y.length)(hl:Am.Qg m lv s=.vec g cz (P++X++Y++S))(he:∀x∈P++X++Y++S,Ez E cz x)
  (hn:(P++X++Y++S).length<4611686018427387904) (sX:Zo (lt c) X) (sY:Zo (lt c) Y) :
  Qh Pg sm [.vec lv s g 0 (P++X++Y++S).length false,.int .i64 (P.length:Nat),.int .i64 ((P.length+X.length:Nat):Int),.int .i64 ((P.length+X.length+Y.length:Nat):Int),.fn (.func kc) [] []] m
   (fun v m1=>v=.tup []∧m1=Am.put m lv s (.vec g cz (P++mg (lt c) X Y++S))):=by
 have _:=hC;have _:=hcz;have hlv:lv<m.length:=QV (by rw[hl];simp);have hlen:(P++X++Y++S).length=P.length+X.length+Y.length+S.length:=by simp only[QMH]
 refine hC.csm.go (by simp) ?_;have e1:(IntKind.i64.wrap (((P.length+X.length:Nat):Int)-(P.length:Int))==1)=false:=by rw[QF];simp only[QNI,ne_eq];omega
 have e2:(IntKind.i64.wrap (((P.length+X.length+Y.length:Nat):Int)-((P.length+X.length:Nat):Int))==1)=false:=by rw[QF];simp only[QNI,ne_eq];omega
 have e3:IntKind.i64.wrap ((P.length:Int)+((P.length+X.length+Y.length:Nat):Int))=((P.length+(P.length+X.length+Y.length):Nat):Int):=by rw[QF];omega
 have e4:=Vv P.length (P.length+X.length+Y.length) (by omega);generalize hmid:(P.length+(P.length+X.length+Y.length)) / 2=mid at *;have e5:IntKind.i64.wrap ((mid:Int)+((P.length+X.length:Nat):Int))=((mid+(P.length+X.length):Nat):Int):=by rw[QF];omega
 have e6:IntKind.i64.wrap (((mid+(P.length+X.length):Nat):Int)-((P.length+X.length+Y.length:Nat):Int))=((mid+(P.length+X.length)-(P.length+X.length+Y.length):Nat):Int)∨mid<Y.length:=by
  by_cases h:mid<Y.length
  ·exact .inr h
  ·refine .inl ?_;rw[QF];omega
 have e7:IntKind.i64.wrap (((mid+(P.length+X.length):Nat):Int)-1)=((mid+(P.length+X.length)-1:Nat):Int):=by rw[QF];omega
 simp only[SA,Dr,HP,HQ,HR,HS,HT,HU,HV,HW,HX,HY,e1,e2,e3,e4,e5,Qa,seval];have h0:m=Am.put m lv s (.vec g cz (P++X++Y++S)):=(Z6 hl).symm;generalize hN:(P++X++Y++S).length=N at *
 -- the search, from whatever bounds
 have main:∀(Q:Exit→St→Prop) (f:Fr) (s0 r0:Nat),s0≤r0→r0≤mid→(r0=mid∨r0=P.length+X.length)→(mid-s0≥Y.length∨s0=P.length)→mid-s0≤Y.length→r0≤P.length+X.length→P.length≤s0→
   f 0=.vec (lv+1) s g 0 N false→f 1=.int .i64 (P.length:Nat)→f 2=.int .i64 ((P.length+X.length:Nat):Int)→f 3=.int .i64 ((P.length+X.length+Y.length:Nat):Int)→f 4=.fn (.func kc) [] []→
   f 18=.int .i64 (mid:Nat)→f 19=.int .i64 ((mid+(P.length+X.length):Nat):Int)→f 22=.int .i64 ((mid+(P.length+X.length)-1:Nat):Int)→f 20=.int .i64 (s0:Nat)→f 21=.int .i64 (r0:Nat)→
   (∀(f:Fr) (t:Nat),s0≤t→t≤r0→mg (lt c) X Y=mg (lt c) (X.take (t-P.length)) (Y.take (mid-t))++mg (lt c) (X.drop (t-P.length)) (Y.drop (mid-t))→
    f 0=.vec (lv+1) s g 0 N false→f 1=.int .i64 (P.length:Nat)→f 2=.int .i64 ((P.length+X.length:Nat):Int)→f 3=.int .i64 ((P.length+X.length+Y.length:Nat):Int)→f 4=.fn (.func kc) [] []→
    f 18=.int .i64 (mid:Nat)→f 19=.int .i64 ((mid+(P.length+X.length):Nat):Int)→f 20=.int .i64 (t:Nat)→Q (.exit 8) ⟨f,Qc :: Am.put m lv s (.vec g cz (P++X++Y++S)),[]⟩)→
   QJ Pg (.loop (H5 cz sr ro sm is st)) ⟨f,Qc :: m,[]⟩ Q:=by
  intro Q f s0 r0 hsr hrm hr hs hs2 hr2 hps f0 f1 f2 f3 f4 f18 f19 f22 f20 f21 hQ;refine Qf (ScS cz m lv s g N mid s0 r0 kc c P X Y S) _ ⟨_,s0,r0,by rw[←h0]<;>rfl,rfl,QL3 _,hsr,QL3 _,(by intro k x y h1 h2;omega),(by intro k x y h1 h2;omega),f0,f1,f2,f3,f4,f18,f19,f22,f20,f21⟩ ?_;clear f0 f1 f2 f3 f4 f18 f19 f22 f20 f21 f;rintro k st ⟨f,i,j,rfl,rfl,hsi,hij,hj,hp,hq,f0,f1,f2,f3,f4,f18,f19,f22,f20,f21⟩;simp only[H5,HZ,H1,H2,H3,H4,f20,f21,Qa,seval];by_cases hlt:i<j
  ·have d0:decide ((i:Int)<(j:Int))=true:=by simp only[QMa];omega
   have e8:IntKind.i64.wrap ((i:Int)+(j:Int))=((i+j:Nat):Int):=by rw[QF];omega
   have e9:=Vv i j (by omega);generalize hh:(i+j) / 2=h at *;have hh1:h<j:=by omega
   have hh2:i≤h:=by omega
   have ea:IntKind.i64.wrap ((h:Int)+1)=((h+1:Nat):Int):=by rw[QF];omega
   have eb:IntKind.i64.wrap (((mid+(P.length+X.length)-1:Nat):Int)-(h:Int))=((P.length+X.length+(mid-1-h):Nat):Int):=by rw[QF];omega
   obtain⟨x,hx⟩:∃x,X[h-P.length]? = some x:=⟨_,QL6 (by omega)⟩;obtain⟨y,hy⟩:∃y,Y[mid-1-h]? = some y:=⟨_,QL6 (by omega)⟩;have ex:Ez E cz x:=he x (by simp[QMi hx]);have ey:Ez E cz y:=he y (by simp[QMi hy]);have gx:(P++X++Y++S)[h]? = some x:=by
    rw[QMq,QMq,QNs (by omega),QNr (by omega),hx]
   have gy:(P++X++Y++S)[P.length+X.length+(mid-1-h)]? = some y:=by
    rw[QMq,QNs (by rw[QMH];omega),QNr (by rw[QMH];omega),←hy];congr 1;rw[QMH];omega
   simp only[d0,e8,e9,eb,f0,f4,f20,f21,f22,Kq hlv (show P.length+X.length+(mid-1-h)<N by omega),Kq hlv (show h<N by omega),Kp hlv gy ey,Kp hlv gx ex,Qa,seval];refine KA (by simp only[Qa,seval]) (hc.call y x ey ex) (Wh ey ex _) (Kd ey ex) rfl (.inl (Kd ey ex)) ?_;cases hcx:decide (c y x<0)with
   |true=>
    simp only[hcx,Qa,seval];have hq':∀k x' y',h≤k→k<r0→X[k-P.length]? = some x'→Y[mid-1-k]? = some y'→lt c y' x'=true:=by
     intro k x' y' hk hk2 hx' hy';have h3:=J0 hc.sw sY (show mid-1-k≤mid-1-h by omega) hy' hy hcx;have h4:=WA sX hc.sw (show h-P.length≤k-P.length by omega) hx hx';cases hb:lt c y' x' with
     |true=>rfl
     |false=>
      have:=hc.sw.nt y' x' x hb h4;rw[h3]at this;cases this
    exact⟨h-i,by omega,_,i,h,rfl,rfl,hsi,by omega,by omega,hp,hq',by simp only[f0,Qa,seval],by simp only[f1,Qa,seval],by simp only[f2,Qa,seval],by simp only[f3,Qa,seval],by simp only[f4,Qa,seval],by simp only[f18,Qa,seval],by simp only[f19,Qa,seval],by simp only[f22,Qa,seval],by simp only[f20,Qa,seval],by simp only[Qa,seval]⟩
   |false=>
    simp only[hcx,ea,Qa,seval];exact⟨j-(h+1),by omega,_,h+1,j,rfl,rfl,by omega,by omega,hj,fun k x' y' hk hk2 hx' hy'=>by
     have h3:=WA sX hc.sw (show k-P.length≤h-P.length by omega) hx' hx;have h4:lt c y' x=false:=by
      cases hb:lt c y' x with
      |false=>rfl
      |true=>exact absurd (J0 hc.sw sY (show mid-1-h≤mid-1-k by omega) hy hy' hb) (by show ¬(decide _=true);rw[hcx];simp)
     exact hc.sw.nt y' x x' h4 h3,hq,by simp only[f0,Qa,seval],by simp only[f1,Qa,seval],by simp only[f2,Qa,seval],by simp only[f3,Qa,seval],by simp only[f4,Qa,seval],by simp only[f18,Qa,seval],by simp only[f19,Qa,seval],by simp only[f22,Qa,seval],by simp only[Qa,seval],by simp only[f21,Qa,seval]⟩
  ·have d0:decide ((i:Int)<(j:Int))=false:=by simp only[QNR];omega
   have hij':j=i:=by omega
   subst hij';simp only[d0,Qa,seval];refine hQ _ j (by omega) (by omega) (PQ hc.sw sX sY hsi hj (by omega) (by omega) hr hs hs2 hr2 hp hq) ?_ ?_ ?_ ?_ ?_ ?_ ?_ ?_
   ·simp only[f0,Qa,seval]
   ·simp only[f1,Qa,seval]
   ·simp only[f2,Qa,seval]
   ·simp only[f3,Qa,seval]
   ·simp only[f4,Qa,seval]
   ·simp only[f18,Qa,seval]
   ·simp only[f19,Qa,seval]
   ·simp only[f20,Qa,seval]
 have hb1:mid≤P.length+X.length+Y.length:=by omega
 have fin:∀(f:Fr) (t:Nat),P.length≤t→t≤mid→t≤P.length+X.length→mid-t≤Y.length→mg (lt c) X Y=mg (lt c) (X.take (t-P.length)) (Y.take (mid-t))++mg (lt c) (X.drop (t-P.length)) (Y.drop (mid-t))→
    f 0=.vec (lv+1) s g 0 N false→f 1=.int .i64 (P.length:Nat)→f 2=.int .i64 ((P.length+X.length:Nat):Int)→f 3=.int .i64 ((P.length+X.length+Y.length:Nat):Int)→f 4=.fn (.func kc) [] []→
    f 18=.int .i64 (mid:Nat)→f 19=.int .i64 ((mid+(P.length+X.length):Nat):Int)→f 20=.int .i64 (t:Nat)→
   QJ Pg (.seq (.reg (WF cz sr ro sm is st)) (.seq (.seq (.reg (WG cz sr ro sm is st)) (.cond (.t 185) (.reg (WH cz sr ro sm is st)) (.skip))) (.seq (.seq (.reg (KV cz sr ro sm is st)) (.cond (.t 199) (.reg (KW cz sr ro sm is st)) (.skip))) (.seq (.reg (JK cz sr ro sm is st)) (.cond (.t 213) (.reg (JL cz sr ro sm is st)) (.skip)))))) ⟨f,Qc :: Am.put m lv s (.vec g cz (P++X++Y++S)),[]⟩
   (X7 H6 m.length (fun v m1=>v=.tup []∧m1=Am.put m lv s (.vec g cz (P++mg (lt c) X Y++S)))):=by
  intro f t h1 h2 h3 h4 hmg f0 f1 f2 f3 f4 f18 f19 f20;have l1:(X.take (t-P.length)).length=t-P.length:=by rw[QM1];omega
  have l2:(X.drop (t-P.length)).length=P.length+X.length-t:=by rw[QMK];omega
  have l3:(Y.take (mid-t)).length=mid-t:=by rw[QM1];omega
  have l4:(Y.drop (mid-t)).length=Y.length-(mid-t):=by rw[QMK]
  have hrow:P++X.take (t-P.length)++X.drop (t-P.length)++Y.take (mid-t)++(Y.drop (mid-t)++S)=P++X++Y++S:=by
   rw[QMq P,QNi,←QMq _ _ S,QMq (P++X),QNi]
  have:=QzO hC hcz (kc:=kc) (c:=c) (nn:=nn) (lv:=lv) (s:=s) (g:=g) (N:=N) (P:=P) (X1:=X.take (t-P.length)) (X2:=X.drop (t-P.length)) (Y1:=Y.take (mid-t)) (Y2:=Y.drop (mid-t)) (S:=S) (m:=m) (f:=f) ih
   (by rw[l1,l3];omega) (by rw[l2,l4];omega) hlv (by rw[hrow];exact he) (by rw[hrow,hN]) hn
   (List.Pairwise.sublist (List.take_sublist _ _) sX) (List.Pairwise.sublist (List.take_sublist _ _) sY) (List.Pairwise.sublist (List.drop_sublist _ _) sX) (List.Pairwise.sublist (List.drop_sublist _ _) sY)
   f0 f1 (by rw[f2,l1,l2];congr 2;omega) (by rw[f3,l1,l2,l3,l4];congr 2;omega) f4 (by rw[f18,l1,l3];congr 2;omega) (by rw[f19,l1,l2,l3];congr 2;omega) (by rw[f20,l1];congr 2;omega)
  rw[hrow,←hmg]at this;exact this
 by_cases hgt:mid<P.length+X.length
 ·have d0:decide (((P.length+X.length:Nat):Int) > (mid:Int))=true:=by simp only[QMa];omega
  have hmy:Y.length≤mid:=by omega
  have e6':=e6.resolve_right (by omega);simp only[d0,e6',e7,Qa,seval];refine main _ _ (mid+(P.length+X.length)-(P.length+X.length+Y.length)) mid (by omega) (by omega) (.inl rfl) (.inl (by omega)) (by omega) (by omega) (by omega) ?_ ?_ ?_ ?_ ?_ ?_ ?_ ?_ ?_ ?_ ?_
  case refine_11=>
   intro f t h1 h2 hmg f0 f1 f2 f3 f4 f18 f19 f20;rw[Hl,QMy rfl,Zr];exact fin f t (by omega) (by omega) (by omega) (by omega) hmg f0 f1 f2 f3 f4 f18 f19 f20
  all_goals simp only[Qa,seval]
 ·have d0:decide (((P.length+X.length:Nat):Int) > (mid:Int))=false:=by simp only[QNR];omega
  simp only[d0,e7,Qa,seval];refine main _ _ P.length (P.length+X.length) (by omega) (by omega) (.inr rfl) (.inr rfl) (by omega) (by omega) (by omega) ?_ ?_ ?_ ?_ ?_ ?_ ?_ ?_ ?_ ?_ ?_
  case refine_11=>
   intro f t h1 h2 hmg f0 f1 f2 f3 f4 f18 f19 f20;rw[Hl,QMy rfl,Zr];exact fin f t (by omega) (by omega) (by omega) (by omega) hmg f0 f1 f2 f3 f4 f18 f19 f20
  all_goals simp only[Qa,seval]

include hC hcz in
theorem sym {kc:Nat}{c:AV→AV→Int}(hc:Cp Pg cz E kc c):∀n,Uc Pg cz sm E kc c n:=by
 have _:=hC;have _:=hcz;intro n
 induction n using Nat.strongRecOn with
 |_ n ih=>
 intro lv s g P X Y S m hXY hX hY hl he hn sX sY;by_cases h1:X.length=1
 ·obtain⟨x,rfl⟩:=List.length_eq_one_iff.1 h1;exact QIx hC hcz hc lv s g P x Y S m hl he hn sY
 ·by_cases h2:Y.length=1
  ·obtain⟨y,rfl⟩:=List.length_eq_one_iff.1 h2;exact QIy hC hcz hc lv s g P X y S m hl he hn sX h1
  ·exact QIz hC hcz hc n ih lv s g P X Y S m hXY (by omega) (by omega) hl he hn sX sY

end Go.Proofs.YtipjfckmopekaaaGreatDoor.Tz

namespace Go.Proofs.YtipjfckmopekaaaGreatDoor.Tz
open Go Am Bt Tg So
variable {Pg:Program}{cz sr ro sm is st ss:Nat}(hC:Tg.Cs Pg cz sr ro sm is st ss)(hcz:cz≠0)

variable {E:AV→Prop}

include hC hcz in
theorem Ni {kc:Nat}{c:AV→AV→Int}(hc:Cp Pg cz E kc c){fr:Nat→Ob}{lv s g N a b:Nat}(P X S:List AV){m:Ql}(hlv:lv<m.length)(he:∀x∈P++X++S,Ez E cz x)
  (hn:(P++X++S).length<4611686018427387904) (hN:N=(P++X++S).length) (ha:a=P.length) (hb:b=P.length+X.length) :
  Qh Pg is [.vec (lv+1) s g 0 N false,.int .i64 (a:Nat),.int .i64 (b:Nat),.fn (.func kc) [] []] (fr :: Am.put m lv s (.vec g cz (P++X++S)))
   (fun x m1=>x=.tup []∧m1=fr :: Am.put m lv s (.vec g cz (P++QC (lt c) X++S))):=by
 have _:=hC;have _:=hcz;subst hN ha hb;refine(QIw hC hcz hc (lv+1) s g P X S (fr :: Am.put m lv s (.vec g cz (P++X++S))) (Qx (m:=m) hlv) he hn).mono fun x m1 h=>⟨h.1,?_⟩
 rw[h.2];simp only[Am.put,KG]

def St1 (cz:Nat)(m:Ql)(lv s g:Nat)(kc:Nat)(c:AV→AV→Int)(xs:List AV)(k:Nat)(st:St):Prop :=
 ∃f i,st=⟨f,[Qc]++Am.put m lv s (.vec g cz (Q3 (lt c) 20 i xs++xs.drop (20*i))),[]⟩∧k=xs.length-20*i∧20*i≤xs.length∧
  f 0=.vec (lv+1) s g 0 xs.length false∧f 1=.int .i64 (xs.length:Nat)∧f 2=.fn (.func kc) [] []∧f 6=.int .i64 20∧f 7=.int .i64 ((20*i:Nat):Int)∧f 8=.int .i64 ((20*(i+1):Nat):Int)

def St2 (cz:Nat)(m:Ql)(lv s g:Nat)(kc:Nat)(c:AV→AV→Int)(xs:List AV)(k:Nat)(st:St):Prop :=
 ∃f b n,st=⟨f,[Qc]++Am.put m lv s (.vec g cz (Q3 (lt c) b n xs)),[]⟩∧k=xs.length-b∧0<b∧b<2305843009213693952∧xs.length≤b*n∧
  f 0=.vec (lv+1) s g 0 xs.length false∧f 1=.int .i64 (xs.length:Nat)∧f 2=.fn (.func kc) [] []∧f 6=.int .i64 (b:Nat)

def St3 (cz:Nat)(m:Ql)(lv s g:Nat)(kc:Nat)(c:AV→AV→Int)(xs:List AV)(b:Nat)(k:Nat)(st:St):Prop :=
 ∃f i n,st=⟨f,[Qc]++Am.put m lv s (.vec g cz (Q3 (lt c) (2*b) i xs++Q3 (lt c) b n (xs.drop (2*b*i)))),[]⟩∧k=xs.length-2*b*i∧2*b*i≤xs.length∧xs.length-2*b*i≤b*n∧
  f 0=.vec (lv+1) s g 0 xs.length false∧f 1=.int .i64 (xs.length:Nat)∧f 2=.fn (.func kc) [] []∧f 6=.int .i64 (b:Nat)∧f 7=.int .i64 ((2*b*i:Nat):Int)∧f 8=.int .i64 ((2*b*(i+1):Nat):Int)

set_option maxHeartbeats 1000000 in
include hC hcz in
theorem QIA {kc:Nat}{c:AV→AV→Int}(hc:Cp Pg cz E kc c)(lv s g:Nat)(xs:List AV)(m:Ql)(hl:Am.Qg m lv s=.vec g cz xs)(he:∀x∈xs,Ez E cz x)
  (hn:xs.length<1152921504606846976) :
  Qh Pg st [.vec lv s g 0 xs.length false,.int .i64 (xs.length:Nat),.fn (.func kc) [] []] m
   (fun x m1=>x=.tup []∧m1=Am.put m lv s (.vec g cz (QC (lt c) xs))):=by
 have _:=hC;have _:=hcz;have hlv:lv<m.length:=QV (by rw[hl];simp);refine hC.cst.go (by simp) ?_;have h0:m=Am.put m lv s (.vec g cz xs):=(Z6 hl).symm;simp only[rst,SK,SL,Qa,seval];refine Qf (St1 cz m lv s g kc c xs) _ ⟨_,0,by rw[show Q3 (lt c) 20 0 xs++xs.drop (20*0)=xs by simp[Q3],←h0]<;>rfl,rfl,by omega,by simp only[Qa,seval],by simp only[Qa,seval],by simp only[Qa,seval],by simp only[Qa,seval],by simp only[Qa,seval]<;>rfl,by simp only[Qa,seval]<;>rfl⟩ ?_;clear h0;rintro k st ⟨f,i,rfl,rfl,hi,f0,f1,f2,f6,f7,f8⟩;simp only[SQ,SM,f1,f8,Qa,seval];have hbl:(Q3 (lt c) 20 i xs).length=20*i:=by rw[Y8];omega
 by_cases hlt:20*(i+1)≤xs.length
 ·have d0:decide (((20*(i+1):Nat):Int)≤(xs.length:Int))=true:=by simp only[QMa];omega
  have e1:IntKind.i64.wrap (((20*(i+1):Nat):Int)+20)=((20*(i+1+1):Nat):Int):=by rw[QF];omega
  have hcut:Q3 (lt c) 20 i xs++xs.drop (20*i)=Q3 (lt c) 20 i xs++(xs.drop (20*i)).take 20++xs.drop (20*(i+1)):=by
   rw[QMq,show 20*(i+1)=20*i+20 by omega,←QMx,QNi]
  have hx1:((xs.drop (20*i)).take 20).length=20:=by rw[QM1,QMK];omega
  have hee:∀x∈Q3 (lt c) 20 i xs++(xs.drop (20*i)).take 20++xs.drop (20*(i+1)),Ez E cz x:=by
   intro x hx;refine he x ?_;rcases QNk.1 hx with hx|hx
   ·rcases QNk.1 hx with hx|hx
    ·exact KE hx
    ·exact QMR (QMS hx)
   ·exact QMR hx
  have hNN:(Q3 (lt c) 20 i xs++(xs.drop (20*i)).take 20++xs.drop (20*(i+1))).length=xs.length:=by
   rw[QMH,QMH,hx1,hbl,QMK];omega
  simp only[d0,hcut,SN,f0,f2,f7,f8,Qa,seval];refine Qi (Ni hC hcz hc (a:=20*i) (b:=20*(i+1)) (Q3 (lt c) 20 i xs) ((xs.drop (20*i)).take 20) (xs.drop (20*(i+1))) hlv hee (by omega) hNN.symm hbl.symm (by rw[hbl,hx1];omega)) rfl ?_;simp only[SO,SP,e1,f6,f8,Qa,seval];exact⟨xs.length-20*(i+1),by omega,_,i+1,by rw[W4]<;>rfl,rfl,hlt,by simp only[f0,Qa,seval],by simp only[f1,Qa,seval],by simp only[f2,Qa,seval],by simp only[f6,Qa,seval],by simp only[Qa,seval],by simp only[Qa,seval]⟩
 ·have d0:decide (((20*(i+1):Nat):Int)≤(xs.length:Int))=false:=by simp only[QNR];omega
  have hee:∀x∈Q3 (lt c) 20 i xs++xs.drop (20*i)++[],Ez E cz x:=by
   intro x hx;refine he x ?_;rw[QM7]at hx;rcases QNk.1 hx with hx|hx
   ·exact KE hx
   ·exact QMR hx
  have hNN:(Q3 (lt c) 20 i xs++xs.drop (20*i)++[]).length=xs.length:=by
   rw[QM7,QMH,hbl,QMK];omega
  have hic:=Ni hC hcz hc (fr:=Qc) (g:=g) (s:=s) (N:=xs.length) (a:=20*i) (b:=xs.length) (Q3 (lt c) 20 i xs) (xs.drop (20*i)) [] hlv hee (by omega) hNN.symm hbl.symm (by rw[hbl,QMK];omega);have hsn:Q3 (lt c) 20 i xs++QC (lt c) (xs.drop (20*i))=Q3 (lt c) 20 (i+1) xs:=by
   rw[W4,QMD (by rw[QMK];omega)]
  rw[QM7,QM7,hsn]at hic;simp only[d0,SR,f0,f1,f2,f7,Qa,seval];refine Qi hic rfl ?_;simp only[Qa,seval];refine Qf (St2 cz m lv s g kc c xs) _ ⟨_,20,i+1,rfl,rfl,by omega,by omega,by omega,by simp only[f0,Qa,seval],by simp only[f1,Qa,seval],by simp only[f2,Qa,seval],by simp only[f6,Qa,seval]<;>rfl⟩ ?_;clear f0 f1 f2 f6 f7 f8 hic hsn hNN hee d0 hlt hbl hi f i;rintro k st ⟨f,b,n,rfl,rfl,hb0,hb1,hbn,f0,f1,f2,f6⟩;simp only[SY,SS,f1,f6,Qa,seval];by_cases hlt:b<xs.length
  ·have d0:decide ((b:Int)<(xs.length:Int))=true:=by simp only[QMa];omega
   have e1:IntKind.i64.wrap (2*(b:Int))=((2*b:Nat):Int):=by rw[QF];omega
   have e1':IntKind.i64.wrap ((b:Int)*2)=((2*b:Nat):Int):=by rw[QF];omega
   simp only[d0,Tg.ST,e1,f6,Qa,seval];refine Qf (St3 cz m lv s g kc c xs b) _ ⟨_,0,n,by simp only[Q3,Nat.mul_zero,QMM,QMs]<;>rfl,rfl,by omega,by omega,by simp only[f0,Qa,seval],by simp only[f1,Qa,seval],by simp only[f2,Qa,seval],by simp only[f6,Qa,seval],by simp only[Qa,seval]<;>rfl,by simp only[QML,Nat.mul_one,Qa,seval]⟩ ?_;clear f0 f1 f2 f6 f;rintro k st ⟨f,i,n',rfl,rfl,hi,hn',f0,f1,f2,f6,f7,f8⟩;have hA1:2*b*(i+1)=2*b*i+2*b:=Nat.mul_succ _ _;have hA2:2*b*(i+1+1)=2*b*i+2*b+2*b:=by rw[Nat.mul_succ,hA1]
   have hbl:(Q3 (lt c) (2*b) i xs).length=2*b*i:=by rw[Y8];omega
   have hsnoc:=W4 (lt:=lt c) (2*b) i xs;rw[hA1]at f8;clear hbn;generalize hA:2*b*i=A at *;simp only[SX,SU,f1,f8,Qa,seval];generalize hL:xs.drop A=L at *;have hLl:L.length=xs.length-A:=by rw[←hL,QMK]
   have hLe:∀z∈L,Ez E cz z:=fun z hz=>he z (QMR (by rw[hL];exact hz))
   have hPe:∀z∈Q3 (lt c) (2*b) i xs,Ez E cz z:=fun z hz=>he z (KE hz)
   have e2:IntKind.i64.wrap (((A:Nat):Int)+(b:Int))=((A+b:Nat):Int):=by rw[QF];omega
   -- Q7 blocks and the rest
   have Q7:b<L.length→∃n'',n'=n''+2∧Q3 (lt c) b n' L=QC (lt c) (L.take b)++QC (lt c) ((L.drop b).take b)++Q3 (lt c) b n'' (L.drop (2*b))∧mg (lt c) (QC (lt c) (L.take b)) (QC (lt c) ((L.drop b).take b))=QC (lt c) (L.take (2*b)):=by
    intro h
    match n',hn' with
    |0,hn'=>omega
    |1,hn'=>omega
    |n''+2,_=>
     refine⟨n'',rfl,?_,?_⟩
     ·rw[Q3,Q3,QMq,QMx,show b+b=2*b by omega]
     ·rw[UM hc.sw,Pz]
   by_cases hlt2:A+2*b≤xs.length
   ·have d1:decide (((A+2*b:Nat):Int)≤(xs.length:Int))=true:=by simp only[QMa];omega
    obtain⟨n'',rfl,hrow,hmg⟩:=Q7 (by omega);have hn2:b*(n''+2)=b*n''+2*b:=by rw[Nat.mul_add,Nat.mul_comm b 2]
    rw[hn2]at hn';clear Q7;generalize hZ:b*n''=Z at *;have e3:IntKind.i64.wrap (((A+2*b:Nat):Int)+((2*b:Nat):Int))=((A+2*b+2*b:Nat):Int):=by
     rw[QF];omega
    have l1:(QC (lt c) (L.take b)).length=b:=by rw[Z5,QM1];omega
    have l2:(QC (lt c) ((L.drop b).take b)).length=b:=by rw[Z5,QM1,QMK];omega
    have l3:(Q3 (lt c) b n'' (L.drop (2*b))).length=L.length-2*b:=by
     rw[Y8,QMK,hZ];omega
    have hcut:Q3 (lt c) (2*b) i xs++Q3 (lt c) b (n''+2) L=Q3 (lt c) (2*b) i xs++QC (lt c) (L.take b)++QC (lt c) ((L.drop b).take b)++Q3 (lt c) b n'' (L.drop (2*b)):=by
     rw[hrow];simp only[QMq]
    have hee:∀x∈Q3 (lt c) (2*b) i xs++QC (lt c) (L.take b)++QC (lt c) ((L.drop b).take b)++Q3 (lt c) b n'' (L.drop (2*b)),Ez E cz x:=by
     rw[←hcut];intro x hx;rcases QNk.1 hx with hx|hx
     ·exact hPe x hx
     ·exact hLe x (KE hx)
    have hNN:(Q3 (lt c) (2*b) i xs++QC (lt c) (L.take b)++QC (lt c) ((L.drop b).take b)++Q3 (lt c) b n'' (L.drop (2*b))).length=xs.length:=by
     rw[QMH,QMH,QMH,l1,l2,l3,hbl];omega
    simp only[d1,hcut,e2,My,f0,f2,f6,f7,f8,Qa,seval];refine Qi (W8 hC hcz (sym hC hcz hc _) (a:=A) (b:=A+b) (e:=A+2*b) (Q3 (lt c) (2*b) i xs) (QC (lt c) (L.take b)) (QC (lt c) ((L.drop b).take b)) (Q3 (lt c) b n'' (L.drop (2*b))) hlv rfl (by omega) (by omega) hee (by omega) (Z4 hc.sw _) (Z4 hc.sw _) hNN.symm hbl.symm (by rw[hbl,l1]) (by rw[hbl,l1,l2];omega)) rfl ?_;simp only[Mz,MA,e1,e3,f6,f8,Qa,seval];refine⟨xs.length-(A+2*b),by omega,_,i+1,n'',by rw[hsnoc,hmg,hA1,←QMx,hL]<;>rfl,by rw[hA1],by rw[hA1];exact hlt2,?_,by simp only[f0,Qa,seval],by simp only[f1,Qa,seval],by simp only[f2,Qa,seval],by simp only[f6,Qa,seval],by simp only[hA1,Qa,seval],by simp only[hA2,Qa,seval]⟩
    ·rw[hA1,hZ];omega
   ·have d1:decide (((A+2*b:Nat):Int)≤(xs.length:Int))=false:=by simp only[QNR];omega
    have hfin:Q3 (lt c) (2*b) i xs++QC (lt c) L=Q3 (lt c) (2*b) (i+1) xs:=by
     rw[hsnoc,QMD (by omega)]
    simp only[d1,e2,MB,MD,f1,f6,f7,Qa,seval];by_cases hm:A+b<xs.length
    ·have d2:decide (((A+b:Nat):Int)<(xs.length:Int))=true:=by simp only[QMa];omega
     obtain⟨n'',rfl,hrow,hmg⟩:=Q7 (by omega);clear Q7 hn';have hr0:L.drop (2*b)=[]:=QMG (by omega);have hr1:(L.drop b).take b=L.drop b:=QMD (by rw[QMK];omega);have hr2:L.take (2*b)=L:=QMD (by omega);rw[hr0,GF,QM7,hr1]at hrow;rw[hr1,hr2]at hmg;have l1:(QC (lt c) (L.take b)).length=b:=by rw[Z5,QM1];omega
     have l2:(QC (lt c) (L.drop b)).length=L.length-b:=by rw[Z5,QMK]
     have hee:∀x∈Q3 (lt c) (2*b) i xs++QC (lt c) (L.take b)++QC (lt c) (L.drop b)++[],Ez E cz x:=by
      intro x hx;rw[QM7,QMq,←hrow]at hx;rcases QNk.1 hx with hx|hx
      ·exact hPe x hx
      ·exact hLe x (KE hx)
     have hNN:(Q3 (lt c) (2*b) i xs++QC (lt c) (L.take b)++QC (lt c) (L.drop b)++[]).length=xs.length:=by
      rw[QM7,QMH,QMH,l1,l2,hbl];omega
     have hsc:=W8 hC hcz (sym hC hcz hc _) (fr:=Qc) (s:=s) (g:=g) (N:=xs.length) (a:=A) (b:=A+b) (e:=xs.length) (Q3 (lt c) (2*b) i xs) (QC (lt c) (L.take b)) (QC (lt c) (L.drop b)) [] hlv rfl (by omega) (by omega) hee (by omega) (Z4 hc.sw _) (Z4 hc.sw _) hNN.symm hbl.symm (by rw[hbl,l1]) (by rw[hbl,l1,l2];omega);rw[QM7,QM7,hmg,hfin,QMq,←hrow]at hsc;simp only[d2,ME,f0,f1,f2,f7,Qa,seval];refine Qi hsc rfl ?_;simp only[FZ,e1',f6,Qa,seval];exact⟨xs.length-2*b,by omega,_,2*b,i+1,rfl,rfl,by omega,by omega,by rw[hA1];omega,by simp only[f0,Qa,seval],by simp only[f1,Qa,seval],by simp only[f2,Qa,seval],by simp only[Qa,seval]⟩
    ·have d2:decide (((A+b:Nat):Int)<(xs.length:Int))=false:=by simp only[QNR];omega
     have hrow:Q3 (lt c) b n' L=QC (lt c) L:=B9 (by omega) (by omega);simp only[d2,hrow,hfin,FZ,e1',f6,Qa,seval];exact⟨xs.length-2*b,by omega,_,2*b,i+1,rfl,rfl,by omega,by omega,by rw[hA1];omega,by simp only[f0,Qa,seval],by simp only[f1,Qa,seval],by simp only[f2,Qa,seval],by simp only[Qa,seval]⟩
  ·have d0:decide ((b:Int)<(xs.length:Int))=false:=by simp only[QNR];omega
   have hfin:Q3 (lt c) b n xs=QC (lt c) xs:=B9 (by omega) hbn;simp only[d0,hfin,put_len,ost,Qa,seval]

include hC hcz in
theorem PR {kc:Nat}{c:AV→AV→Int}(hc:Cp Pg cz E kc c)(lv s g:Nat)(xs:List AV)(m:Ql)(hl:Am.Qg m lv s=.vec g cz xs)(he:∀x∈xs,Ez E cz x)
  (hn:xs.length<1152921504606846976) :
  Qh Pg ss [.vec lv s g 0 xs.length false,.fn (.func kc) [] []] m
   (fun x m1=>x=.tup []∧m1=Am.put m lv s (.vec g cz (QC (lt c) xs))):=by
 have _:=hC;have _:=hcz;have hlv:lv<m.length:=QV (by rw[hl];simp);refine hC.css.go (by simp) ?_;have hl2:Am.Qg (Qc :: m) (lv+1) s=.vec g cz xs:=hl;simp only[SZ,rss,oss,hl2,Qa,seval];refine Qi ((QIA hC hcz hc (lv+1) s g xs (Qc :: m) hl he hn).mono fun x m1 h=>⟨h.1,h.2.trans rfl⟩) rfl ?_;simp only[Am.put,put_len,Qa,seval]

end Go.Proofs.YtipjfckmopekaaaGreatDoor.Tz

namespace Go.Proofs.YtipjfckmopekaaaGreatDoor.Tg
open Go Am

theorem QzP:Cs Tryz.prog 4 287 268 231 230 187 100 where
 csr:=ck Tryz.func287 Tryz.ntmps287 (by decide +kernel)
 cro:=ck Tryz.func268 Tryz.ntmps268 (by decide +kernel)
 csm:=ck Tryz.func231 Tryz.ntmps231 (by decide +kernel)
 cis:=ck Tryz.func230 Tryz.ntmps230 (by decide +kernel)
 cst:=ck Tryz.func187 Tryz.ntmps187 (by decide +kernel)
 css:=ck Tryz.func100 Tryz.ntmps100 (by decide +kernel)

theorem QsD:Cs Tryz.prog 8 295 281 255 254 223 182 where
 csr:=ck Tryz.func295 Tryz.ntmps295 (by decide +kernel)
 cro:=ck Tryz.func281 Tryz.ntmps281 (by decide +kernel)
 csm:=ck Tryz.func255 Tryz.ntmps255 (by decide +kernel)
 cis:=ck Tryz.func254 Tryz.ntmps254 (by decide +kernel)
 cst:=ck Tryz.func223 Tryz.ntmps223 (by decide +kernel)
 css:=ck Tryz.func182 Tryz.ntmps182 (by decide +kernel)

theorem QsE:Cs Tryz.prog 14 304 296 283 282 256 225 where
 csr:=ck Tryz.func304 Tryz.ntmps304 (by decide +kernel)
 cro:=ck Tryz.func296 Tryz.ntmps296 (by decide +kernel)
 csm:=ck Tryz.func283 Tryz.ntmps283 (by decide +kernel)
 cis:=ck Tryz.func282 Tryz.ntmps282 (by decide +kernel)
 cst:=ck Tryz.func256 Tryz.ntmps256 (by decide +kernel)
 css:=ck Tryz.func225 Tryz.ntmps225 (by decide +kernel)

end Go.Proofs.YtipjfckmopekaaaGreatDoor.Tg

namespace Go.Proofs.YtipjfckmopekaaaGreatDoor.Rc
open Go Am
abbrev QIB:IL:=[je 3 3 0,je 5 5 2,jh 6]
abbrev QIC:IL:=[jf 11 2 3,CE 12 7 11,jz 13 12,ja 14 13,jv 15 1 14,yf 16 0 15 14,yk 17 16 300 14,jo 18 14 17,ja 19 18,yv 20 7 5 19,⟨some 21,.callR (.f 8) [(.t 20),(.c (.int .i64 500))],(some (19,false))⟩,ze 22 21 19,jo 23 19 22]
abbrev QID:IL:=[zz 24 9,ja 6 24]
abbrev QIE:IL:=[jf 26 2 3,ja 27 1,jf 28 7 5,yd 29 10 26 27 28,ja 25 29,jx 30 25 0,jx 31 25 1,ja 7 30,ja 8 31]
abbrev QIF:IL:=[jf 33 2 3,ja 34 1,jf 35 7 5,yd 36 11 33 34 35,ja 32 36,jx 37 32 0,jx 38 32 1,ja 9 37,ja 10 38]
abbrev QIG:IL:=[ja 39 7,ja 40 9,BJ 41 39 40,ja 42 41,jg 43 8 42,jg 44 10 42,Rg 45 43 44 42,jj 46 42 45,ja 47 46,zt 48 0 3 2 3 47,jg 49 1 47,zt 50 0 5 7 5 47,Cq 51 12 48 49 50 47,zt 52 0 3 2 3 47,jg 53 1 47,zt 54 0 5 7 5 47,Cq 55 13 52 53 54 47,Rg 56 51 55 47,jj 57 47 56,ja 58 57,D4 59 9 58,jj 60 58 59,ja 6 60]
abbrev r3:RC:=jQ QIB (.seq (jQ QIC (.cond (.t 23) (jQ QID (.ret)) (.skip))) (jQ QIE (jQ QIF (jD QIG (.ret)))))
abbrev o3:List RR:=[.tmp 6]
theorem k3:CT 3 61 r3 o3:=ck Tryz.func3 Tryz.ntmps3 (by decide +kernel)
abbrev QIH:IL:=[je 3 3 0,je 5 5 2,jh 6]
abbrev QII:IL:=[jf 7 2 3,CE 8 7 7,jz 9 8,ja 10 9,yv 11 7 5 10,⟨some 12,.callR (.f 8) [(.t 11),(.c (.int .i64 500))],(some (10,false))⟩,ze 13 12 10,jo 14 10 13,ja 15 14,yv 16 2 3 15,jv 17 1 15,yv 18 7 5 15,⟨some 19,.call (.f 14) [(.t 16),(.t 17),(.t 18)],(some (15,false))⟩,Ct 20 19 0 15,jo 21 15 20]
abbrev QIJ:IL:=[zz 22 9,ja 6 22]
abbrev QIK:IL:=[jw 23 0 3 2 3,ja 24 1,jw 25 0 5 7 5,yd 26 15 23 24 25,jw 27 0 3 2 3,ja 28 1,jw 29 0 5 7 5,yd 30 16 27 28 29,BJ 31 26 30,ja 32 31,D4 33 9 32,jj 34 32 33,ja 6 34]
abbrev r4:RC:=jQ QIH (.seq (jQ QII (.cond (.t 21) (jQ QIJ (.ret)) (.skip))) (jD QIK (.ret)))
abbrev o4:List RR:=[.tmp 6]
theorem k4:CT 4 35 r4 o4:=ck Tryz.func4 Tryz.ntmps4 (by decide +kernel)
abbrev QIL:IL:=[je 3 3 0,je 5 5 2,jh 6]
abbrev QIM:IL:=[jf 8 2 3,CE 9 7 8,jz 10 9,ja 11 10,yv 12 7 5 11,⟨some 13,.callR (.f 8) [(.t 12),(.c (.int .i64 500))],(some (11,false))⟩,ze 14 13 11,jo 15 11 14,ja 16 15,yv 17 2 3 16,jv 18 1 16,yv 19 7 5 16,⟨some 20,.call (.f 17) [(.t 17),(.t 18),(.t 19)],(some (16,false))⟩,ze 21 20 16,jo 22 16 21]
abbrev QIN:IL:=[zz 23 9,ja 6 23]
abbrev QIO:IL:=[jd 7 0]
abbrev QIP:IL:=[ja 24 7,jb 25 5 5,jc 26 25,ji 27 1 26,jn 28 24 27]
abbrev QIQ:IL:=[jw 31 0 3 2 3,ja 32 1,jb 33 5 5,yb 34 0 5 33,ja 35 7,jk 36 8 34 35,ya 37 8 36,yd 38 19 31 32 37,jw 39 0 3 2 3,ja 40 1,jb 41 5 5,yb 42 0 5 41,ja 43 7,jk 44 8 42 43,ya 45 8 44,yd 46 20 39 40 45,jy 47 18 38 46,jz 48 47]
abbrev QIR:IL:=[jh 6]
abbrev QIS:IL:=[ja 29 7,jm 30 29 1,ja 7 30]
abbrev QIT:RC:=.seq (jQ QIP (jX 28 0)) (.seq (.block 1 (jD QIQ (.cond (.t 48) (jQ QIR (.ret)) (.skip)))) (.reg QIS))
abbrev QIU:IL:=[zz 49 9,ja 6 49]
abbrev r5:RC:=jQ QIL (.seq (jQ QIM (.cond (.t 22) (jQ QIN (.ret)) (.skip))) (.seq (jQ QIO (.block 0 (.loop QIT))) (jQ QIU (.ret))))
abbrev o5:List RR:=[.tmp 6]
theorem k5:CT 5 50 r5 o5:=ck Tryz.func5 Tryz.ntmps5 (by decide +kernel)
abbrev QIV:IL:=[je 3 3 0,je 5 5 2,jh 6]
abbrev QIW:IL:=[jf 9 2 3,CE 10 7 9,jz 11 10,ja 12 11,jv 13 1 12,yf 14 0 13 12,yk 15 14 300 12,jo 16 12 15,ja 17 16,yv 18 7 5 17,⟨some 19,.callR (.f 8) [(.t 18),(.c (.int .i64 500))],(some (17,false))⟩,ze 20 19 17,jo 21 17 20]
abbrev QIX:IL:=[zz 22 9,ja 6 22]
abbrev QIY:IL:=[jf 24 2 3,ja 25 1,jf 26 7 5,yd 27 10 24 25 26,ja 23 27,jx 28 23 0,jx 29 23 1,ja 7 28,ja 8 29]
abbrev QIZ:IL:=[ja 30 8,yg 31 30 0]
abbrev QI0:IL:=[ja 32 7,⟨some 33,.val (.bin .str .eql (.t 32) (.c (.str []))),none⟩,ja 34 33,zk 35 2 3 34,jg 36 1 34,zk 37 7 5 34,Cq 38 12 35 36 37 34,ym 39 38 (-1) 34,jj 40 34 39,ja 41 40,D4 42 9 41,jj 43 41 42,ja 6 43]
abbrev QI1:IL:=[jf 44 2 3,ja 45 1,jf 46 7 5,yd 47 12 44 45 46,ja 48 7,ji 49 0 48,zm 50 47 49,ja 51 50,jg 52 7 51,yt 53 0 52 51,yy 54 53 65536 51,jj 55 51 54,ja 56 55,D4 57 9 56,jj 58 56 57,ja 6 58]
abbrev r6:RC:=jQ QIV (.seq (jQ QIW (.cond (.t 21) (jQ QIX (.ret)) (.skip))) (jQ QIY (.seq (jQ QIZ (.cond (.t 31) (jQ QI0 (.ret)) (.skip))) (jQ QI1 (.ret)))))
abbrev o6:List RR:=[.tmp 6]
theorem k6:CT 6 59 r6 o6:=ck Tryz.func6 Tryz.ntmps6 (by decide +kernel)
abbrev QI2:IL:=[je 1 1 0,jh 2]
abbrev QI3:IL:=[jf 3 2 1,CE 4 21 3,ja 5 4,zk 6 2 1 5,zh 7 22 6 5,ym 8 7 0 5,jj 9 5 8,ja 2 9]
abbrev r7:RC:=jQ QI2 (jQ QI3 (.ret))
abbrev o7:List RR:=[.tmp 2]
theorem k7:CT 7 10 r7 o7:=ck Tryz.func7 Tryz.ntmps7 (by decide +kernel)
abbrev QI4:IL:=[je 2 2 0,jh 4]
abbrev QI5:IL:=[jf 5 7 2,ja 6 1,⟨some 7,.callR (.f 23) [(.t 5),(.c (.int .i64 1)),(.t 6)],none⟩,yn 8 7 0,ja 4 8]
abbrev r8:RC:=jQ QI4 (jQ QI5 (.ret))
abbrev o8:List RR:=[.tmp 4]
theorem k8:CT 8 9 r8 o8:=ck Tryz.func8 Tryz.ntmps8 (by decide +kernel)
abbrev QzQ:IL:=[je 3 3 0,je 5 5 2,yi 6,jd 7 0]
abbrev QzR:IL:=[jf 13 2 3,ja 14 1,jy 15 30 13 14,ja 12 15,jx 16 12 0,jx 17 12 1,ja 8 16,ja 9 17]
abbrev QzS:IL:=[ja 18 9,jz 19 18]
abbrev QzT:IL:=[yi 6,jd 7 10]
abbrev QzU:IL:=[jf 20 2 3,ja 21 8,jf 22 7 5,yd 23 14 20 21 22,ja 10 23]
abbrev QzV:IL:=[ja 24 10,yg 25 24 0]
abbrev QzW:IL:=[ja 26 10,yi 6,ja 7 26]
abbrev QzX:IL:=[jf 27 2 3,ja 28 8,jf 29 7 5,yd 30 16 27 28 29,ja 11 30]
abbrev QzY:IL:=[ja 31 11,ji 32 0 31,yq 33 32 65536]
abbrev QzZ:IL:=[yi 6,jd 7 3]
abbrev QsF:IL:=[ja 34 11,ja 6 34,jd 7 0]
abbrev Nj:RC:=jQ QzQ (jQ QzR (.seq (jQ QzS (.cond (.t 19) (jQ QzT (.ret)) (.skip))) (jQ QzU (.seq (jQ QzV (.cond (.t 25) (jQ QzW (.ret)) (.skip))) (jQ QzX (.seq (jQ QzY (.cond (.t 33) (jQ QzZ (.ret)) (.skip))) (jQ QsF (.ret))))))))
abbrev Qz0:IL:=[je 3 3 0,je 5 5 2,jd 6 0]
abbrev Qz1:IL:=[jf 10 2 3,ja 11 1,jf 12 7 5,yd 13 11 10 11 12,ja 9 13,jx 14 9 0,jx 15 9 1,ja 7 14,ja 8 15]
abbrev Qz2:IL:=[ja 16 8,yg 17 16 0]
abbrev Qz3:IL:=[jd 6 (-1)]
abbrev Qz4:IL:=[ja 18 7,ji 19 0 18,ja 6 19]
abbrev r13:RC:=jQ Qz0 (jQ Qz1 (.seq (jQ Qz2 (.cond (.t 17) (jQ Qz3 (.ret)) (.skip))) (jQ Qz4 (.ret))))
abbrev Qz5:IL:=[je 1 1 0,jh 2]
abbrev Qz6:IL:=[jb 9 0 1,jc 10 9,ji 11 1 10,yq 12 11 60,ja 13 12,jp 14 1 1 13,jt 15 14 13,yf 16 1 15 13,yk 17 16 60 13,jo 18 13 17]
abbrev Qz7:IL:=[jh 2]
abbrev Qz8:IL:=[jd 3 400]
abbrev Qz9:IL:=[jd 4 0]
abbrev QAa:IL:=[ja 19 4,jb 20 0 1,jc 21 20,ji 22 1 21,jn 23 19 22,ja 24 23,jg 25 3 24,Hv 26 25 0 24,jj 27 24 26]
abbrev QAb:IL:=[ja 30 3,jb 31 0 1,jc 32 31,ja 33 4,jk 34 3 32 33,jb 35 1 34,jc 36 35,ji 37 1 36,zg 38 30 37,ja 3 38]
abbrev QAc:IL:=[ja 39 3,yo 40 39 0,ja 41 40,jp 42 0 1 41,jt 43 42 41,jv 44 4 41,yz 45 3 43 44 41,jp 46 0 45 41,jt 47 46 41,yf 48 0 47 41,yk 49 48 300 41,jo 50 41 49]
abbrev QAd:IL:=[jh 2]
abbrev QsH:IL:=[jd 5 0]
abbrev QsI:IL:=[ja 51 5,jb 52 0 1,jc 53 52,ja 54 4,jk 55 3 53 54,jb 56 1 55,jc 57 56,ji 58 1 57,jn 59 51 58]
abbrev QsJ:IL:=[jb 62 0 1,jc 63 62,ja 64 4,jk 65 3 63 64,jb 66 1 65,jc 67 66,ja 68 5,jk 69 8 67 68,jb 70 1 69,jc 71 70,ji 72 0 71,yq 73 72 300,ja 74 73,jp 75 0 1 74,jt 76 75 74,jv 77 4 74,yz 78 3 76 77 74,jp 79 1 78 74,jt 80 79 74,jv 81 5 74,yz 82 8 80 81 74,jp 83 2 82 74,jt 84 83 74,yf 85 0 84 74,yk 86 85 300 74,jo 87 74 86]
abbrev QsK:IL:=[jh 2]
abbrev QsL:IL:=[ja 60 5,jm 61 60 1,ja 5 61]
abbrev S0:RC:=.seq (jQ QsI (jX 59 2)) (.seq (.block 3 (jQ QsJ (.cond (.t 87) (jQ QsK (.ret)) (.skip)))) (.reg QsL))
abbrev QAe:IL:=[ja 28 4,jm 29 28 1,ja 4 29]
abbrev S1:RC:=.seq (jQ QAa (jX 27 0)) (.seq (.block 1 (jQ QAb (.seq (jQ QAc (.cond (.t 50) (jQ QAd (.ret)) (.skip))) (jQ QsH (.block 2 (.loop S0)))))) (.reg QAe))
abbrev QsM:IL:=[jd 6 0]
abbrev QsN:IL:=[ja 88 6,jb 89 1 1,jc 90 89,ji 91 1 90,jn 92 88 91,ja 93 92,jg 94 3 93,Hv 95 94 0 93,jj 96 93 95]
abbrev QsO:IL:=[jb 99 1 1,jc 100 99,ja 101 6,jk 102 5 100 101,jf 103 5 102,⟨some 7,.allocN 7 [.str [],.bool false,.nils,.nils,.nils],none⟩,js 5 7 103]
abbrev QsP:IL:=[jb 104 2 7,jc 105 104,ji 106 1 105,ja 107 3,Cm 108 106 107,ja 109 108,jp 110 3 7 109,jt 111 110 109,yf 112 1 111 109,jv 113 3 109,⟨some 114,.val (.bin .num .gtr (.t 112) (.t 113)),(some (109,false))⟩,jo 115 109 114,ja 116 115,jp 117 0 7 116,jt 118 117 116,yf 119 0 118 116,yk 120 119 300 116,jo 121 116 120]
abbrev QsQ:IL:=[jh 2]
abbrev QsR:IL:=[ja 122 3,jb 123 2 7,jc 124 123,ji 125 1 124,zg 126 122 125,jb 127 3 7,jc 128 127,ji 129 1 128,zg 130 126 129,ja 3 130]
abbrev QsS:IL:=[jd 8 0]
abbrev QsT:IL:=[ja 131 8,jb 132 2 7,jc 133 132,ji 134 1 133,jn 135 131 134]
abbrev QsU:IL:=[jb 138 2 7,jc 139 138,ja 140 8,jk 141 3 139 140,jb 142 0 141,jc 143 142,ji 144 0 143,yq 145 144 300,ja 146 145,jp 147 2 7 146,jt 148 147 146,jv 149 8 146,yz 150 3 148 149 146,jp 151 2 150 146,jt 152 151 146,yf 153 1 152 146,yk 154 153 1 146,jo 155 146 154,ja 156 155,jp 157 2 7 156,jt 158 157 156,jv 159 8 156,yz 160 3 158 159 156,jp 161 2 160 156,jt 162 161 156,yf 163 1 162 156,ys 164 163 1 156,jv 165 164 156,jl 166 2 7 165,ju 167 166 165,jg 168 8 165,yc 169 3 167 168 165,jl 170 2 169 165,ju 171 170 165,BM 172 8 171 0 165,jl 173 1 172 165,jl 174 2 173 165,ju 175 174 165,yt 176 0 175 165,BK 177 176 300 165,yw 178 165 177 156,jo 179 156 178]
abbrev QsV:IL:=[jh 2]
abbrev QsW:IL:=[ja 136 8,jm 137 136 1,ja 8 137]
abbrev S2:RC:=.seq (jQ QsT (jX 135 6)) (.seq (.block 7 (jQ QsU (.cond (.t 179) (jQ QsV (.ret)) (.skip)))) (.reg QsW))
abbrev QsX:IL:=[ja 97 6,jm 98 97 1,ja 6 98]
abbrev S3:RC:=.gho (.drop 7) (.seq (jQ QsN (jX 96 4)) (.seq (.block 5 (jQ QsO (.seq (jQ QsP (.cond (.t 121) (jQ QsQ (.ret)) (.skip))) (jQ QsR (jQ QsS (.block 6 (.loop S2))))))) (.reg QsX)))
abbrev QsY:IL:=[ja 180 3,yn 181 180 0,ja 2 181]
abbrev r21:RC:=jQ Qz5 (.seq (jQ Qz6 (.cond (.t 18) (jQ Qz7 (.ret)) (.skip))) (jQ Qz8 (.seq (jQ Qz9 (.block 0 (.loop S1))) (.seq (jQ QsM (.block 4 (.loop S3))) (jQ QsY (.ret))))))
abbrev o21:List RR:=[.tmp 2]
theorem k21:CT 21 182 r21 o21:=ck Tryz.func21 Tryz.ntmps21 (by decide +kernel)
abbrev QAf:IL:=[je 3 3 0,jd 6 0]
abbrev QAg:IL:=[ja 11 2,za 12 11 1,ja 2 12]
abbrev QAh:IL:=[ja 13 1,yq 14 13 40,ja 15 14,jp 16 2 3 15,jt 17 16 15,yf 18 0 17 15,yk 19 18 5000 15,jo 20 15 19,ja 21 20,jp 22 6 3 21,jt 23 22 21,yf 24 1 23 21,jv 25 2 21,⟨some 26,.val (.bin .num .gtr (.t 24) (.t 25)),(some (21,false))⟩,jo 27 21 26]
abbrev QAi:IL:=[jd 6 (-1)]
abbrev QAj:IL:=[ja 28 2,jb 29 6 3,jc 30 29,ji 31 1 30,zg 32 28 31,ja 2 32]
abbrev QAk:IL:=[jd 7 0]
abbrev QAl:IL:=[ja 33 7,jb 34 6 3,jc 35 34,ji 36 1 35,jn 37 33 36]
abbrev QAm:IL:=[jb 40 6 3,jc 41 40,ja 42 7,jk 43 4 41 42,jb 44 3 43,jc 45 44,ji 46 0 45,yq 47 46 5000]
abbrev QAn:IL:=[jd 6 (-1)]
abbrev QAo:IL:=[ja 38 7,jm 39 38 1,ja 7 39]
abbrev QAp:RC:=.seq (jQ QAl (jX 37 0)) (.seq (.block 1 (jQ QAm (.cond (.t 47) (jQ QAn (.ret)) (.skip)))) (.reg QAo))
abbrev Qs0:IL:=[jd 8 0]
abbrev Qs1:IL:=[ja 48 8,jb 49 3 3,jc 50 49,ji 51 1 50,jn 52 48 51,ja 53 52,jg 54 2 53,Hv 55 54 0 53,jj 56 53 55]
abbrev Qs2:IL:=[jb 59 3 3,jc 60 59,ja 61 8,jk 62 7 60 61,jf 63 7 62,ja 64 1,jm 65 64 1,ja 66 2,⟨some 67,.callR (.f 23) [(.t 63),(.t 65),(.t 66)],none⟩,ja 2 67]
abbrev Qs3:IL:=[ja 57 8,jm 58 57 1,ja 8 58]
abbrev S4:RC:=.seq (jQ Qs1 (jX 56 2)) (.seq (.block 3 (.reg Qs2)) (.reg Qs3))
abbrev Qs4:IL:=[jd 9 0]
abbrev Qs5:IL:=[ja 68 9,jb 69 4 3,jc 70 69,ji 71 1 70,jn 72 68 71,ja 73 72,jg 74 2 73,Hv 75 74 0 73,jj 76 73 75]
abbrev Qs6:IL:=[jb 79 4 3,jc 80 79,ja 81 9,jk 82 14 80 81,jb 83 0 82,jf 84 7 83,ja 85 1,jm 86 85 1,ja 87 2,⟨some 88,.callR (.f 23) [(.t 84),(.t 86),(.t 87)],none⟩,ja 2 88]
abbrev Qs7:IL:=[ja 89 2,yn 90 89 0]
abbrev Qs8:IL:=[jb 91 4 3,jc 92 91,ja 93 9,jk 94 14 92 93,jb 95 7 94,jf 96 7 95,ja 97 1,jm 98 97 1,ja 99 2,⟨some 100,.callR (.f 23) [(.t 96),(.t 98),(.t 99)],none⟩,ja 2 100]
abbrev Qs9:IL:=[ja 77 9,jm 78 77 1,ja 9 78]
abbrev S5:RC:=.seq (jQ Qs5 (jX 76 4)) (.seq (.block 5 (jQ Qs6 (jQ Qs7 (.cond (.t 90) (.reg Qs8) (.skip))))) (.reg Qs9))
abbrev Qta:IL:=[jd 10 0]
abbrev Qtb:IL:=[ja 101 10,jb 102 5 3,jc 103 102,ji 104 1 103,jn 105 101 104,ja 106 105,jg 107 2 106,Hv 108 107 0 106,jj 109 106 108]
abbrev Qtc:IL:=[jb 112 5 3,jc 113 112,ja 114 10,jk 115 8 113 114,jb 116 1 115,jf 117 7 116,ja 118 1,jm 119 118 1,ja 120 2,⟨some 121,.callR (.f 23) [(.t 117),(.t 119),(.t 120)],none⟩,ja 2 121]
abbrev Qtd:IL:=[ja 110 10,jm 111 110 1,ja 10 111]
abbrev S6:RC:=.seq (jQ Qtb (jX 109 6)) (.seq (.block 7 (.reg Qtc)) (.reg Qtd))
abbrev Qte:IL:=[ja 122 2,ja 6 122]
abbrev r23:RC:=jQ QAf (jQ QAg (.seq (jQ QAh (.cond (.t 27) (jQ QAi (.ret)) (.skip))) (jQ QAj (.seq (jQ QAk (.block 0 (.loop QAp))) (.seq (jQ Qs0 (.block 2 (.loop S4))) (.seq (jQ Qs4 (.block 4 (.loop S5))) (.seq (jQ Qta (.block 6 (.loop S6))) (jQ Qte (.ret)))))))))
abbrev o23:List RR:=[.tmp 6]
theorem k23:CT 23 123 r23 o23:=ck Tryz.func23 Tryz.ntmps23 (by decide +kernel)
end Go.Proofs.YtipjfckmopekaaaGreatDoor.Rc

namespace Go.Proofs.YtipjfckmopekaaaGreatDoor.Va
open Go Am Rc Bt Br Up So

section
variable {α β:Type}{lt:β→β→Bool}{lt':α→α→Bool}{F:α→β}(h:∀x y,lt (F x) (F y)=lt' x y)
include h
theorem F0 (a:α):∀l:List α,Zn lt (F a) (l.map F)=(Zn lt' a l).map F
 | []=>rfl
 |x :: l=>by
  rw[QMB,Zn,Zn,h x a];cases lt' x a
  ·rfl
  ·show F x :: Zn lt (F a) (l.map F)=_;rw[F0 a l];rfl
theorem KB:∀l:List α,QC lt (l.map F)=(QC lt' l).map F
 | []=>rfl
 |a :: l=>by
  rw[QMB,QC,KB l,F0 h a];rfl
end
theorem F1 {α β:Type}{lt:β→β→Bool}(h:SW lt)(f:α→β):SW fun x y=>lt (f x) (f y) where
 irr _:=h.irr _
 tr _ _ _:=h.tr _ _ _
 nt _ _ _:=h.nt _ _ _
theorem Qtf:SW fun a b:Int=>decide (a<b) where
 irr x:=by simp
 tr x y z h k:=by simp only[QMa]at *;omega
 nt x y z h k:=by simp only[QNR]at *;omega
theorem Vw (a b:Int):decide (cN a b<0)=decide (a<b):=by
 unfold cN;split
 ·rename_i h;simp[h]
 ·rename_i h;split<;>simp[h]
theorem QAq (a b:List UInt8):decide (cS a b<0)=Op.bytesLess a b:=by
 unfold cS;cases Op.bytesLess a b
 ·cases(a==b)<;>simp
 ·simp

theorem YM {z:Nat}(hz:z≠0){xs:List AV}(h:xs.all (fun e=>e.cells.length==z)=true)(hf:QK xs=[]):xs=[]:=by
 cases xs with
 |nil=>rfl
 |cons x xs=>
  have hl:x.cells.length=z:=by simpa using QMh.1 h x (by simp)
  have:x.cells=[]:=(List.append_eq_nil_iff.1 hf).1;rw[this]at hl;exact absurd hl.symm hz

theorem v96 (xs:List AV)(fr:Nat→Ob)(m:Ql)(h:xs.all (fun e=>e.cells.length==4)=true)(hn:xs.length≤1048576)(hr:Qv (fr 1000)=true) :
  Qh Tryz.prog 96 [.list xs] (fr :: m) (fun x m1=>x=.vec 0 1000 (Xp (fr 1000)) 0 xs.length false∧m1=QI fr 1000 (.vec (Xp (fr 1000)) 4 xs) :: m):=by
 have hng:QB (fr :: m) 0 1000=Xp (fr 1000):=ZV;refine L5.go (by simp) ?_;simp only[Rl,NR,NS,Qa,seval];refine ZA (ys:=xs) (by simp only[Qa,seval]) ?_ ?_
 ·simp only[NU,Qa,seval];refine ZW rfl ?_;simp only[Qa,seval];refine QR (site:=5) (g:=1) (xs:=[]) (ys:=xs) rfl rfl rfl rfl rfl h (by simp[maxLen];omega) (by simp;omega) ?_;simp only[Qa,seval];refine XA (l:=0) (site:=5) (g:=2) (o:=0) (n:=xs.length) (q:=false) (sz:=4) (xs:=xs) (by simp only[QML,Qa,seval]) (by simp only[Qa,seval]) (by simp) (by decide) hr ?_;simp only[hng,BQ,eE,seval]
  try simp[AV.still,AV.un,Zf,Xz]
 ·intro he;have hx:xs=[]:=by
   rcases he with he|he
   ·exact he
   ·exact YM (by decide) h he
  subst hx;simp only[NT,Qa,seval];refine X4 (by simp only[Qa,seval]) rfl ?_;simp only[Qa,seval];refine XA (l:=0) (site:=2) (g:=1) (o:=0) (n:=0) (q:=false) (sz:=4) (xs:=[]) (by simp only[Qa,seval]) (by simp only[Qa,seval]) (by simp) (by decide) hr ?_;simp only[hng,BQ,eE,seval]
  try simp[AV.still,AV.un,Zf,Xz]

theorem QI6 (xs:List AV)(fr:Nat→Ob)(m:Ql)(h:xs.all (fun e=>e.cells.length==8)=true)(hn:xs.length≤1048576)(hr:Qv (fr 1000)=true) :
  Qh Tryz.prog 181 [.list xs] (fr :: m) (fun x m1=>x=.vec 0 1000 (Xp (fr 1000)) 0 xs.length false∧m1=QI fr 1000 (.vec (Xp (fr 1000)) 8 xs) :: m):=by
 have hng:QB (fr :: m) 0 1000=Xp (fr 1000):=ZV;refine M3.go (by simp) ?_;simp only[NW,Fc,Rc.Fd,Qa,seval];refine ZA (ys:=xs) (by simp only[Qa,seval]) ?_ ?_
 ·simp only[Ff,Qa,seval];refine ZW rfl ?_;simp only[Qa,seval];refine QR (site:=5) (g:=1) (xs:=[]) (ys:=xs) rfl rfl rfl rfl rfl h (by simp[maxLen];omega) (by simp;omega) ?_;simp only[Qa,seval];refine XA (l:=0) (site:=5) (g:=2) (o:=0) (n:=xs.length) (q:=false) (sz:=8) (xs:=xs) (by simp only[QML,Qa,seval]) (by simp only[Qa,seval]) (by simp) (by decide) hr ?_;simp only[hng,Gs,eE,seval]
  try simp[AV.still,AV.un,Zf,Xz]
 ·intro he;have hx:xs=[]:=by
   rcases he with he|he
   ·exact he
   ·exact YM (by decide) h he
  subst hx;simp only[Fe,Qa,seval];refine X4 (by simp only[Qa,seval]) rfl ?_;simp only[Qa,seval];refine XA (l:=0) (site:=2) (g:=1) (o:=0) (n:=0) (q:=false) (sz:=8) (xs:=[]) (by simp only[Qa,seval]) (by simp only[Qa,seval]) (by simp) (by decide) hr ?_;simp only[hng,Gs,eE,seval]
  try simp[AV.still,AV.un,Zf,Xz]

theorem QI7 (xs:List AV)(fr:Nat→Ob)(m:Ql)(h:xs.all (fun e=>e.cells.length==14)=true)(hn:xs.length≤1048576)(hr:Qv (fr 1000)=true) :
  Qh Tryz.prog 224 [.list xs] (fr :: m) (fun x m1=>x=.vec 0 1000 (Xp (fr 1000)) 0 xs.length false∧m1=QI fr 1000 (.vec (Xp (fr 1000)) 14 xs) :: m):=by
 have hng:QB (fr :: m) 0 1000=Xp (fr 1000):=ZV;refine QFj.go (by simp) ?_;simp only[QpS,CR,CS,Qa,seval];refine ZA (ys:=xs) (by simp only[Qa,seval]) ?_ ?_
 ·simp only[CV,Qa,seval];refine ZW rfl ?_;simp only[Qa,seval];refine QR (site:=5) (g:=1) (xs:=[]) (ys:=xs) rfl rfl rfl rfl rfl h (by simp[maxLen];omega) (by simp;omega) ?_;simp only[Qa,seval];refine XA (l:=0) (site:=5) (g:=2) (o:=0) (n:=xs.length) (q:=false) (sz:=14) (xs:=xs) (by simp only[QML,Qa,seval]) (by simp only[Qa,seval]) (by simp) (by decide) hr ?_;simp only[hng,M9,eE,seval]
  try simp[AV.still,AV.un,Zf,Xz]
 ·intro he;have hx:xs=[]:=by
   rcases he with he|he
   ·exact he
   ·exact YM (by decide) h he
  subst hx;simp only[CU,Qa,seval];refine X4 (by simp only[Qa,seval]) rfl ?_;simp only[Qa,seval];refine XA (l:=0) (site:=2) (g:=1) (o:=0) (n:=0) (q:=false) (sz:=14) (xs:=[]) (by simp only[Qa,seval]) (by simp only[Qa,seval]) (by simp) (by decide) hr ?_;simp only[hng,M9,eE,seval]
  try simp[AV.still,AV.un,Zf,Xz]

section rows
variable {fr:Nat→Ob}{m:Ql}{s g z n i:Nat}{xs l:List AV}
theorem Qtg (h:fr s=.vec g z xs)(hi:i<n):Qd (fr :: m) z none (.vec 0 s g 0 n false) ((i:Nat):Int)=some (.vptr 0 s g i 0):=by
 have e:Am.Qg (fr :: m) 0 s=.vec g z xs:=h;simp only[Qd,e,QNt];rw[QMy (by omega),QMy ⟨trivial,trivial,hi⟩,QML]
theorem PT {k:Nat}(h:fr s=.vec g z xs)(hx:xs[i]? = some (.agg l))(hk:k≤l.length):Q4 (fr :: m) (some k) (.vptr 0 s g i 0)=some (.agg (l.take k)):=by
 have e:Am.Qg (fr :: m) 0 s=.vec g z xs:=h;simp only[Q4,e,if_true,hx,Am.part];show(if 0+k≤l.length then some (AV.agg ((l.drop 0).take k))else none)=_;rw[QMy (by omega),QMM]
theorem QI8 {o:Nat}(h:fr s=.vec g z xs)(hx:xs[i]? = some (.agg l)):Q4 (fr :: m) none (.vptr 0 s g i o)=l[o]?:=by
 have e:Am.Qg (fr :: m) 0 s=.vec g z xs:=h;simp only[Q4,e,if_true,hx,Am.part,AV.cells]
end rows

def eS (x:AV):Prop:=∃s:Int×V,x=V.sav s
theorem QAr (s:Int×V):Ez eS 8 (V.sav s):=by
 refine⟨⟨s,rfl⟩,?_⟩;rw[ZK];exact⟨_,rfl,rfl,rfl,rfl,fun _=>rfl⟩
def nA:AV→Int
 |.agg (.int _ n :: _)=>n
 |_=>0
def cA (x y:AV):Int:=cN (nA x) (nA y)
theorem Vx (x y:AV):Tz.lt cA x y=decide (nA x<nA y):=Vw _ _
theorem S7:SW (Tz.lt cA):=by
 have e:Tz.lt cA=fun x y=>decide (nA x<nA y):=by funext x y;exact Vx x y
 rw[e];exact F1 Qtf nA
theorem H7 (s:Int×V):nA (V.sav s)=s.1:=by rw[ZK];rfl

theorem QI9 (x y:Int×V):Qp Tryz.prog 183 [V.sav x,V.sav y] (.int .i64 (cN x.1 y.1)):=by
 rw[ZK,ZK];refine Qfc.fn (by simp) ?_;simp only[eE,seval];refine Qb (Vk x.1 y.1) rfl rfl rfl (.inl rfl) ?_;simp only[Qa,seval]

theorem QJa:Tz.Cp Tryz.prog 8 eS 183 cA where
 call x y hx hy:=by
  obtain⟨s,rfl⟩:=hx.1;obtain⟨t,rfl⟩:=hy.1;unfold cA;rw[H7,H7];exact QI9 s t
 sw:=S7

theorem PU (l:List (Int×V)):QC (Tz.lt cA) (l.map V.sav)=(Js l).map V.sav:=KB (fun x y=>by rw[Vx,H7,H7]) l
theorem YN (l:List (Int×V)):(l.map V.sav).all (fun e=>e.cells.length==8)=true:=by
 rw[List.all_map,QMh];intro x _;simp[ZK,AV.cells]
theorem ezS (l:List (Int×V)):∀x∈l.map V.sav,Ez eS 8 x:=by
 intro x hx;obtain⟨s,_,rfl⟩:=QNm.1 hx;exact QAr s

def SoI (T:List (Int×V))(k:Nat)(st:St):Prop :=
 ∃f fr i g h,st=⟨f,[fr],[]⟩∧k=T.length-i∧i≤T.length∧f 3=.vec 0 1000 g 0 T.length false∧f 4=.vec 0 4 h 0 i false∧f 11=.vec 0 1000 g 0 T.length false∧f 12=.int .i64 (T.length:Nat)∧f 13=.int .i64 (i:Nat)∧fr 1000=.vec g 8 (T.map V.sav)∧fr 4=.vec h 8 ((T.take i).map V.sav)∧∀s∈[6],(fr s).isRow=false

theorem v97 (sl:List (Int×V))(hn:sl.length≤1048576)(hu:sl.Pairwise fun y x=>(y.1==x.1)=false):Qp Tryz.prog 97 [.list (sl.map V.sav)] (.list ((Js sl).map V.sav)):=by
 have cl:=fun fr hr=>QI6 (sl.map V.sav) fr [] (YN sl) (by rw[QMZ];exact hn) hr
 have cs:=fun g (m:Ql) (hl:Am.Qg m 0 1000=.vec g 8 (sl.map V.sav))=>Tz.PR Tg.QsD (by decide) QJa 0 1000 g (sl.map V.sav) m hl (ezS sl) (by rw[QMZ];omega)
 simp only[PU,QMZ]at cs;have hperm:(Js sl).Perm sl:=Xf _;have hlen:(Js sl).length=sl.length:=hperm.length_eq;have hun:(Js sl).Pairwise fun y x=>(y.1==x.1)=false:=(hperm.pairwise_iff fun {a b} h=>by rw[Bool.beq_comm];exact h).2 hu
 generalize Js sl=T at *;refine k97.fn (by simp) ?_;simp only[Qa,seval];refine Qi (cl _ rfl) (by simp only[QMB,QM5,Qa,seval]) ?_;simp only[QMZ,Qa,seval];refine Qi (cs _ _ (by simp only[eE,seval]<;>rfl)) (by simp only[QMB,QM5,Qa,seval]) ?_;simp only[eE,seval];refine X4 (by simp only[Qa,seval]) (by simp only[Qa,seval]) ?_;simp only[eE,seval];refine Qf (SoI T) _ ⟨_,_,0,_,_,rfl,rfl,QMd _,(by rw[hlen];exact(by rfl)),(by rfl),(by rw[hlen];exact(by rfl)),(by rw[hlen];exact(by rfl)),(by rfl),(by rfl),(by rfl),by simp<;>rfl⟩ ?_;rintro _ st ⟨f0,fr0,i,g,h,rfl,rfl,hil,h30,h40,h110,h120,h130,mR0,m40,r6⟩;refine QM (a:=_) [6] r6 ?_;intro f fr hf hm hn6;have h3:f 3=.vec 0 1000 g 0 T.length false:=by rw[hf,h30]<;>rfl
 have h4:f 4=.vec 0 4 h 0 i false:=by rw[hf,h40]<;>rfl
 have h11:f 11=.vec 0 1000 g 0 T.length false:=by rw[hf,h110]<;>rfl
 have h12:f 12=.int .i64 (T.length:Nat):=by rw[hf,h120]<;>rfl
 have h13:f 13=.int .i64 (i:Nat):=by rw[hf,h130]<;>rfl
 have mR:fr 1000=.vec g 8 (T.map V.sav):=by rw[hm 1000 (by decide),mR0]<;>rfl
 have m4:fr 4=.vec h 8 ((T.take i).map V.sav):=by rw[hm 4 (by decide),m40]<;>rfl
 have n6:=hn6 6 (by decide);clear hf hm hn6 h30 h40 h110 h120 h130 mR0 m40 r6;simp only[h12,h13,Qa,seval];by_cases hlt:i<T.length
 ·obtain⟨x,hi⟩:∃x,T[i]? = some x:=⟨T[i],QL6 hlt⟩;have hg:=W6 hi;have e1:=Qq i _ hlt (by simp only[maxLen];omega);have ia:∀(fr:Nat→Ob) (j:Nat),fr 1000=.vec g 8 (T.map V.sav)→j<T.length→Qd [fr] 8 none (.vec 0 1000 g 0 T.length false) ((j:Nat):Int)=some (.vptr 0 1000 g j 0):=fun fr j h hj=>Qtg h hj
  have la:∀(fr:Nat→Ob),fr 1000=.vec g 8 (T.map V.sav)→Q4 [fr] (some 8) (.vptr 0 1000 g i 0)=some (.agg [.int .i64 x.1,.int .i64 x.2.kd,.int .u64 (x.2.bits:Nat),.str x.2.text,.list (x.2.list.map V.av),.list (x.2.pairs.map V.pav),.list (x.2.slots.map V.sav),.list (x.2.raws.map R.av)]):=fun fr h=>PT h hg (by simp)
  have fin:∀(f':Fr) (fr':Nat→Ob) (h':Nat),f' 3=.vec 0 1000 g 0 T.length false→f' 4=.vec 0 4 h' 0 (i+1) false→f' 11=.vec 0 1000 g 0 T.length false→f' 12=.int .i64 (T.length:Nat)→f' 13=.int .i64 ((i+1:Nat):Int)→fr' 1000=.vec g 8 (T.map V.sav)→fr' 4=.vec h' 8 ((T.take i).map V.sav++[V.sav x])→(∀s∈[6],(fr' s).isRow=false)→∃k,k<T.length-i∧SoI T k ⟨f',[fr'],[]⟩:=by
   intro f' fr' h' a3 a4 a11 a12 a13 b1 b4 b6;exact⟨T.length-(i+1),by omega,f',fr',i+1,g,h',rfl,rfl,by omega,a3,a4,a11,a12,a13,b1,by rw[b4,QNK,hi];simp,b6⟩
  have hti:((T.take i).map V.sav).length=i:=by rw[QMZ,QM1];omega
  simp only[Qo hlt,ia,la,mR,hlt,n6,h3,h11,h13,e1,eE,seval];by_cases hl:i+1=T.length
  ·have d1:(((i+1:Nat):Int)==(T.length:Int))=true:=by simp;omega
   simp only[d1,h4,eE,seval];refine QZ (l:=[V.sav x]) rfl rfl rfl (by rw[ZK];rfl) ?_;refine QR (site:=4) (g:=h) (n:=i) (xs:=(T.take i).map V.sav) (ys:=[V.sav x]) (by rfl) (by exact m4) rfl hti.symm rfl (YN [x]) (by simp only[QMk,QM0,maxLen];omega) (by simp only[QMk,QM0];omega) ?_;simp only[h13,e1,Qa,seval];exact fin _ _ (h+1) (by exact h3) (by rfl) (by exact h11) (by exact h12) (by rfl) (by exact mR) (by rfl) (by simp<;>rfl)
  ·have d1:(((i+1:Nat):Int)==(T.length:Int))=false:=by simp;omega
   have hlt1:i+1<T.length:=by omega
   obtain⟨y,hj⟩:∃y,T[i+1]? = some y:=⟨T[i+1],QL6 hlt1⟩;have hgj:=W6 hj;have lc:∀(fr:Nat→Ob),fr 1000=.vec g 8 (T.map V.sav)→Q4 [fr] none (.vptr 0 1000 g (i+1) 0)=some (.int .i64 y.1):=fun fr h=>QI8 h hgj
   have hne:(x.1 != y.1)=true:=by
    rw[QN1]at hun;have:=hun i (i+1) hlt hlt1 (by omega);rw[(QL5.1 hi).2,(QL5.1 hj).2]at this
    simpa using this
   simp only[d1,ia,lc,mR,hlt1,hne,KH,QML,h3,h4,e1,eE,seval];refine QZ (l:=[V.sav x]) rfl rfl rfl (by rw[ZK];rfl) ?_;refine QR (site:=4) (g:=h) (n:=i) (xs:=(T.take i).map V.sav) (ys:=[V.sav x]) (by rfl) (by exact m4) rfl hti.symm rfl (YN [x]) (by simp only[QMk,QM0,maxLen];omega) (by simp only[QMk,QM0];omega) ?_;simp only[h13,e1,Qa,seval];exact fin _ _ (h+1) (by exact h3) (by rfl) (by exact h11) (by exact h12) (by rfl) (by exact mR) (by rfl) (by simp<;>rfl)
 ·have e:i=T.length:=by omega
  subst e;rw[QNB]at m4;simp only[QE hlt,h4,eE,seval];simp[AV.un,Zf,Xz,m4];rw[QMD (by rw[QMZ];exact QL3 _)]

def eP (P:PL)(k:Int)(x:AV):Prop:=∃p:V×V,x=V.pav p∧p.1.one P k (-1)=0∧p.1.bits<18446744073709551616
theorem ezP {P:PL}{k:Int}{p:V×V}(h:p.1.one P k (-1)=0)(hb:p.1.bits<18446744073709551616):Ez (eP P k) 14 (V.pav p):=by
 refine⟨⟨p,rfl,h,hb⟩,?_⟩;rw[Ja];exact⟨_,rfl,rfl,rfl,rfl,fun _=>rfl⟩
def kV:AV→V
 |.agg (_ :: .int _ b :: .str t :: _)=>.mk 0 b.toNat t [] [] [] []
 |_=>.mk 0 0 [] [] [] [] []
theorem H8 (p:V×V):kV (V.pav p)=.mk 0 p.1.bits p.1.text [] [] [] []:=by rw[Ja];rfl
def cP (k:Int)(x y:AV):Int:=Uw k (kV x).bits (kV x).text (kV y).bits (kV y).text
theorem MF (k:Int)(a b:V):decide (Uw k a.bits a.text b.bits b.text<0)=kl k a b:=by
 unfold Uw kl;split
 ·exact QAq _ _
 ·split
  ·exact Vw _ _
  ·exact Vw _ _
theorem QAs (k:Int):SW (Tz.lt (cP k)):=by
 have e:Tz.lt (cP k)=fun x y=>kl k (kV x,kV x).1 (kV y,kV y).1:=by funext x y;exact MF k _ _
 rw[e];exact F1 (QzK k) fun x=>(kV x,kV x)

theorem QJb {P:PL}{k:Int}(hk:ZJ k)(x y:V×V)(hx:x.1.one P k (-1)=0)(hy:y.1.one P k (-1)=0):Qp Tryz.prog 226 [V.pav x,V.pav y] (.int .i64 (Uw k x.1.bits x.1.text y.1.bits y.1.text)):=by
 have h:=Qsw k hk x.1.bits y.1.bits x.1.text y.1.text;rw[←(Wg hx).1,←(Wg hy).1,QL,QL]at h;rw[Ja,Ja];refine QFm.fn (by simp) ?_;simp only[QMC,QNc,QMM,eE,seval];refine Qb h rfl rfl rfl (.inl rfl) ?_;simp only[Qa,seval]

theorem QJc {P:PL}{k:Int}(hk:ZJ k):Tz.Cp Tryz.prog 14 (eP P k) 226 (cP k) where
 call x y hx hy:=by
  obtain⟨p,rfl,h1,_⟩:=hx.1;obtain⟨q,rfl,h2,_⟩:=hy.1;unfold cP;rw[H8,H8];exact QJb hk p q h1 h2
 sw:=QAs k

theorem PV (k:Int)(l:List (V×V)):QC (Tz.lt (cP k)) (l.map V.pav)=(Zl k l).map V.pav:=KB (fun x y=>by
 show decide (cP k (V.pav x) (V.pav y)<0)=_;unfold cP;rw[H8,H8];exact MF k x.1 y.1) l
theorem Ds (l:List (V×V)):(l.map V.pav).all (fun e=>e.cells.length==14)=true:=by
 rw[List.all_map,QMh];intro x _;simp[Ja,AV.cells]

def PoI (T:List (V×V))(k:Nat)(st:St):Prop :=
 ∃f fr i g h,st=⟨f,[fr],[]⟩∧k=T.length-i∧i≤T.length∧f 3=.vec 0 1000 g 0 T.length false∧f 4=.vec 0 4 h 0 i false∧f 11=.vec 0 1000 g 0 T.length false∧f 12=.int .i64 (T.length:Nat)∧f 13=.int .i64 (i:Nat)∧fr 1000=.vec g 14 (T.map V.pav)∧fr 4=.vec h 14 ((T.take i).map V.pav)∧∀s∈[6],(fr s).isRow=false

theorem QJd {P:PL}{k:Int}(hk:ZJ k)(ps:List (V×V))(hn:ps.length≤1048576)(h1:∀p∈ps,p.1.one P k (-1)=0)(hb:∀p∈ps,p.1.bits<18446744073709551616)(hu:ps.Pairwise fun q p=>Ka q.1 p.1=false):Qp Tryz.prog 185 [.list (ps.map V.pav)] (.list ((Zl k ps).map V.pav)):=by
 have cl:=fun fr hr=>QI7 (ps.map V.pav) fr [] (Ds ps) (by rw[QMZ];exact hn) hr
 have ez:∀x∈ps.map V.pav,Ez (eP P k) 14 x:=by
  intro x hx;obtain⟨p,hp,rfl⟩:=QNm.1 hx;exact ezP (h1 p hp) (hb p hp)
 have cs:=fun g (m:Ql) (hl:Am.Qg m 0 1000=.vec g 14 (ps.map V.pav))=>Tz.PR Tg.QsE (by decide) (QJc (P:=P) hk) 0 1000 g (ps.map V.pav) m hl ez (by rw[QMZ];omega)
 simp only[PV,QMZ]at cs;have hperm:(Zl k ps).Perm ps:=Xf _;have hlen:(Zl k ps).length=ps.length:=hperm.length_eq;have hun:(Zl k ps).Pairwise fun q p=>Ka q.1 p.1=false:=(hperm.pairwise_iff fun {a b} h=>by unfold Ka at *;rw[←h,Bool.beq_comm (a:=b.1.bits),Bool.beq_comm (a:=b.1.text)]).2 hu
 have h1T:∀p∈Zl k ps,p.1.one P k (-1)=0:=fun p hp=>h1 p (hperm.mem_iff.1 hp)
 have hbT:∀p∈Zl k ps,p.1.bits<18446744073709551616:=fun p hp=>hb p (hperm.mem_iff.1 hp)
 generalize Zl k ps=T at *;refine QEG.fn (by simp) ?_;simp only[Qa,seval];refine Qi (cl _ rfl) (by simp only[QMB,QM5,Qa,seval]) ?_;simp only[QMZ,Qa,seval];refine Qi (cs _ _ (by simp only[eE,seval]<;>rfl)) (by simp only[QMB,QM5,Qa,seval]) ?_;simp only[eE,seval];refine X4 (by simp only[Qa,seval]) (by simp only[Qa,seval]) ?_;simp only[eE,seval];refine Qf (PoI T) _ ⟨_,_,0,_,_,rfl,rfl,QMd _,(by rw[hlen];exact(by rfl)),(by rfl),(by rw[hlen];exact(by rfl)),(by rw[hlen];exact(by rfl)),(by rfl),(by rfl),(by rfl),by simp<;>rfl⟩ ?_;rintro _ st ⟨f0,fr0,i,g,h,rfl,rfl,hil,h30,h40,h110,h120,h130,mR0,m40,r6⟩;refine QM (a:=_) [6] r6 ?_;intro f fr hf hm hn6;have h3:f 3=.vec 0 1000 g 0 T.length false:=by rw[hf,h30]<;>rfl
 have h4:f 4=.vec 0 4 h 0 i false:=by rw[hf,h40]<;>rfl
 have h11:f 11=.vec 0 1000 g 0 T.length false:=by rw[hf,h110]<;>rfl
 have h12:f 12=.int .i64 (T.length:Nat):=by rw[hf,h120]<;>rfl
 have h13:f 13=.int .i64 (i:Nat):=by rw[hf,h130]<;>rfl
 have mR:fr 1000=.vec g 14 (T.map V.pav):=by rw[hm 1000 (by decide),mR0]<;>rfl
 have m4:fr 4=.vec h 14 ((T.take i).map V.pav):=by rw[hm 4 (by decide),m40]<;>rfl
 have n6:=hn6 6 (by decide);clear hf hm hn6 h30 h40 h110 h120 h130 mR0 m40 r6;simp only[h12,h13,Qa,seval];by_cases hlt:i<T.length
 ·obtain⟨x,hi⟩:∃x,T[i]? = some x:=⟨T[i],QL6 hlt⟩;have hg:=YI hi;have e1:=Qq i _ hlt (by simp only[maxLen];omega);have ia:∀(fr:Nat→Ob) (j:Nat),fr 1000=.vec g 14 (T.map V.pav)→j<T.length→Qd [fr] 14 none (.vec 0 1000 g 0 T.length false) ((j:Nat):Int)=some (.vptr 0 1000 g j 0):=fun fr j h hj=>Qtg h hj
  have la:∀(fr:Nat→Ob),fr 1000=.vec g 14 (T.map V.pav)→Q4 [fr] (some 14) (.vptr 0 1000 g i 0)=some (.agg [.int .i64 x.1.kd,.int .u64 (x.1.bits:Nat),.str x.1.text,.list (x.1.list.map V.av),.list (x.1.pairs.map V.pav),.list (x.1.slots.map V.sav),.list (x.1.raws.map R.av),.int .i64 x.2.kd,.int .u64 (x.2.bits:Nat),.str x.2.text,.list (x.2.list.map V.av),.list (x.2.pairs.map V.pav),.list (x.2.slots.map V.sav),.list (x.2.raws.map R.av)]):=fun fr h=>PT h hg (by simp)
  have fin:∀(f':Fr) (fr':Nat→Ob) (h':Nat),f' 3=.vec 0 1000 g 0 T.length false→f' 4=.vec 0 4 h' 0 (i+1) false→f' 11=.vec 0 1000 g 0 T.length false→f' 12=.int .i64 (T.length:Nat)→f' 13=.int .i64 ((i+1:Nat):Int)→fr' 1000=.vec g 14 (T.map V.pav)→fr' 4=.vec h' 14 ((T.take i).map V.pav++[V.pav x])→(∀s∈[6],(fr' s).isRow=false)→∃k,k<T.length-i∧PoI T k ⟨f',[fr'],[]⟩:=by
   intro f' fr' h' a3 a4 a11 a12 a13 b1 b4 b6;exact⟨T.length-(i+1),by omega,f',fr',i+1,g,h',rfl,rfl,by omega,a3,a4,a11,a12,a13,b1,by rw[b4,QNK,hi];simp,b6⟩
  have hti:((T.take i).map V.pav).length=i:=by rw[QMZ,QM1];omega
  simp only[Qo hlt,ia,la,mR,hlt,n6,h3,h11,h13,e1,eE,seval];by_cases hl:i+1=T.length
  ·have d1:(((i+1:Nat):Int)==(T.length:Int))=true:=by simp;omega
   simp only[d1,h4,eE,seval];refine QZ (l:=[V.pav x]) rfl rfl rfl (by rw[Ja];rfl) ?_;refine QR (site:=4) (g:=h) (n:=i) (xs:=(T.take i).map V.pav) (ys:=[V.pav x]) (by rfl) (by exact m4) rfl hti.symm rfl (Ds [x]) (by simp only[QMk,QM0,maxLen];omega) (by simp only[QMk,QM0];omega) ?_;simp only[h13,e1,Qa,seval];exact fin _ _ (h+1) (by exact h3) (by rfl) (by exact h11) (by exact h12) (by rfl) (by exact mR) (by rfl) (by simp<;>rfl)
  ·have d1:(((i+1:Nat):Int)==(T.length:Int))=false:=by simp;omega
   have hlt1:i+1<T.length:=by omega
   obtain⟨y,hj⟩:∃y,T[i+1]? = some y:=⟨T[i+1],QL6 hlt1⟩;have hgj:=YI hj;have lc:∀(fr:Nat→Ob),fr 1000=.vec g 14 (T.map V.pav)→Q4 [fr] (some 7) (.vptr 0 1000 g (i+1) 0)=some (.agg [.int .i64 y.1.kd,.int .u64 (y.1.bits:Nat),.str y.1.text,.list (y.1.list.map V.av),.list (y.1.pairs.map V.pav),.list (y.1.slots.map V.sav),.list (y.1.raws.map R.av)]):=fun fr h=>by
    rw[PT h hgj (by simp)];rfl
   have hx1:=h1T x (QMi hi);have hy1:=h1T y (QMi hj);have hne:Ka x.1 y.1=false:=by
    rw[QN1]at hun;have:=hun i (i+1) hlt hlt1 (by omega);rw[(QL5.1 hi).2,(QL5.1 hj).2]at this;exact this
   have hq:=Qsx k hk x.1.bits y.1.bits x.1.text y.1.text;rw[←(Wg hx1).1,←(Wg hy1).1,Nd hk hx1 hy1 (hbT x (QMi hi)) (hbT y (QMi hj)),hne,QL,QL]at hq;simp only[d1,ia,lc,mR,hlt1,KH,QML,QMC,QNc,QMM,h3,e1,eE,seval];refine Qb hq rfl rfl rfl (.inl rfl) ?_;simp only[h4,eE,seval];refine QZ (l:=[V.pav x]) rfl rfl rfl (by rw[Ja];rfl) ?_;refine QR (site:=4) (g:=h) (n:=i) (xs:=(T.take i).map V.pav) (ys:=[V.pav x]) (by rfl) (by exact m4) rfl hti.symm rfl (Ds [x]) (by simp only[QMk,QM0,maxLen];omega) (by simp only[QMk,QM0];omega) ?_;simp only[h13,e1,Qa,seval];exact fin _ _ (h+1) (by exact h3) (by rfl) (by exact h11) (by exact h12) (by rfl) (by exact mR) (by rfl) (by simp<;>rfl)
 ·have e:i=T.length:=by omega
  subst e;rw[QNB]at m4;simp only[QE hlt,h4,eE,seval];simp[AV.un,Zf,Xz,m4];rw[QMD (by rw[QMZ];exact QL3 _)]

def eR (x:AV):Prop:=∃f:R,x=f.av
theorem QAt (f:R):Ez eR 4 f.av:=⟨⟨f,rfl⟩,_,rfl,rfl,rfl,rfl,fun _=>rfl⟩
theorem QJe (x y:R):Qp Tryz.prog 101 [x.av,y.av] (.int .i64 (cN x.num y.num)):=by
 refine QDb.fn (by simp) ?_;simp only[R.av,eE,seval];refine Qb (Vk x.num y.num) rfl rfl rfl (.inl rfl) ?_;simp only[Qa,seval]
theorem QJf:Tz.Cp Tryz.prog 4 eR 101 cA where
 call x y hx hy:=by
  obtain⟨s,rfl⟩:=hx.1;obtain⟨t,rfl⟩:=hy.1;exact QJe s t
 sw:=S7
theorem PW (l:List R):QC (Tz.lt cA) (l.map R.av)=(W5 l).map R.av:=KB (fun x y=>by rw[Vx];rfl) l
theorem UT (l:List R):(l.map R.av).all (fun e=>e.cells.length==4)=true:=by
 rw[List.all_map,QMh];intro x _;rfl
theorem ezR (l:List R):∀x∈l.map R.av,Ez eR 4 x:=by
 intro x hx;obtain⟨s,_,rfl⟩:=QNm.1 hx;exact QAt s

theorem Qth (v:V):v.nsc.av=.agg [.int .i64 v.kd,.int .u64 ((Zp v.kd v.bits:Nat):Int),.str v.text,.list (v.list.map V.av),.list (v.pairs.map V.pav),.list (v.slots.map V.sav),.list (v.raws.map R.av)]:=by
 rw[QL];rfl
theorem w82 (b:Nat)(hb:b<18446744073709551616):Qp Tryz.prog 82 [.int .u64 (b:Nat)] (.int .i64 (HK b:Nat)):=by
 refine k82.fn (by simp) ?_;have a1:bits .and .u64 (b:Int) 9218868437227405312=(((b / 4503599627370496 % 2048)*4503599627370496:Nat):Int):=by
  have:=YY b 9218868437227405312 hb (by decide);rw[Mk]at this;exact this
 have a2:bits .and .u64 (b:Int) 4503599627370495=((b % 4503599627370496:Nat):Int):=by
  have:=YY b 4503599627370495 hb (by decide);rw[Mj]at this;exact this
 simp only[a1,a2,Qa,seval];unfold HK
 repeat' (first|(refine Xl (fun h=>?_) (fun h=>?_)<;>simp only[h,Qa,seval])|(refine XV (fun h=>?_) (fun h=>?_)<;>simp only[h,Qn,Qa,seval])|(refine XW (fun h=>?_) (fun h=>?_)<;>simp only[h,Qn,eE,seval]))
 all_goals(simp only[QMb,QMv,bne_eq_false_iff_eq,QNI,ne_eq]at *)
 all_goals((repeat' split)<;>first|rfl|(exfalso;omega))

theorem v51 (v:V)(hb:v.bits<18446744073709551616):Qp Tryz.prog 51 [v.av] v.nsc.av:=by
 rw[Qth,QL];refine Lk.fn (by simp) ?_;simp only[eE,seval];by_cases hk:v.kd=6
 ·have b0:(v.kd==6)=true:=by simp[hk]
  simp only[b0,eE,seval];refine Qb (w82 v.bits hb) rfl rfl rfl (.inl rfl) ?_;simp only[Qsn,Qa,seval];by_cases hc:HK v.bits=0
  ·simp only[hc,Zp,hk,decide_true,and_self,splice,QMC,QNc,QMF,QMM,QMr,QMs,QMk,QM0,eE,seval]
   try rfl
  ·simp only[hc,Zp,decide_false,and_false,eE,seval]
 ·have b0:(v.kd==6)=false:=by simp[hk]
  simp only[b0,Zp,hk,false_and,eE,seval]

def EW (m:PG→V→Prop)(P:PL)(o:PO)(v:V):Prop:=o.kind=10→m (Xb P o.target) v
def FW (m:PG→V→Prop)(P:PL)(o:PO)(v:V):Prop :=
 if o.card=4 then ∀x∈v.list,EW m P o x
 else if o.card=5 then(∀p∈v.pairs,p.1.one P o.key (-1)=0∧EW m P o p.2)∧v.pairs.Pairwise fun q p=>Ka q.1 p.1=false
 else EW m P o v
def MW (P:PL):Nat→PG→V→Prop
 |0,_,_=>False
 |n+1,g,v=>(∀s∈v.slots,∃o,XZ g s.1=some o∧FW (MW P n) P o s.2)∧v.slots.Pairwise fun y x=>(y.1==x.1)=false

theorem Vy {m:PG→V→Int}{w:PG→V→Prop}(h:∀g v,m g v=0→w g v){P:PL}{o:PO}{v:V}(he:QT m P o v=0):EW w P o v:=by
 intro hk;unfold QT at he;rw[QMy hk]at he;exact h _ _ he
theorem QAu {m:PG→V→Int}{w:PG→V→Prop}(h:∀g v,m g v=0→w g v){P:PL}{o:PO}{v:V}(he:XB m P o v=0):FW w P o v:=by
 unfold XB at he;unfold FW;by_cases h4:o.card=4
 ·rw[QMj (by omega),QMy h4]at he;rw[QMy h4];split at he
  ·omega
  exact fun x hx=>Vy h (WE.1 he x hx)
 ·rw[QMj h4];by_cases h5:o.card=5
  ·rw[QMy h5]at he;rw[QMy h5];split at he
   ·omega
   have hE:=WD.1 he;exact⟨fun p hp=>⟨(hE.1 p hp).1,Vy h (hE.1 p hp).2⟩,hE.2⟩
  ·rw[QMj h5,QMj h4]at he;rw[QMj h5];exact Vy h he
theorem Dt {P:PL}:∀(n:Nat) (g:PG) (v:V),XC P n g v=0→MW P n g v
 |0,g,v,h=>by
  unfold XC at h;split at h<;>omega
 |n+1,g,v,h=>by
  obtain⟨_,⟨s1,s2,_⟩,_,_⟩:=KF.1 h;refine⟨fun s hs=>?_,s2⟩;obtain⟨o,ho,hf⟩:=s1 s hs;exact⟨o,ho,QAu (Dt n) hf⟩
theorem IB {P:PL}{o:PO}(ho:o.card=5→ZJ o.key)(h5:o.card=5){ps:List (V×V)}(h:∀p∈ps,p.1.one P o.key (-1)=0):∀p∈ps,p.1.nsc=p.1:=by
 intro p hp;have e:=(YF (h p hp)).1;refine FM ?_;have:=ho h5;unfold ZJ at this;omega

theorem F2 {x:V}:∀ {l:List V},x∈l→x.cnt≤Q9 l
 |y :: l,h=>by
  rw[Q9];rcases QNo.1 h with rfl|h
  ·omega
  ·have:=F2 h;omega
theorem UU {x:V×V}:∀ {l:List (V×V)},x∈l→x.1.cnt+x.2.cnt≤Xt l
 |(a,b) :: l,h=>by
  rw[Xt];rcases QNo.1 h with rfl|h
  ·dsimp only;omega
  ·have:=UU h;omega
theorem F3 {x:Int×V}:∀ {l:List (Int×V)},x∈l→x.2.cnt≤Xa l
 |(a,b) :: l,h=>by
  rw[Xa];rcases QNo.1 h with rfl|h
  ·dsimp only;omega
  ·have:=F3 h;omega
theorem J2 (v:V):1≤v.cnt:=by rw[Xg];omega
theorem UV:∀l:List V,l.length≤Q9 l
 | []=>QL3 _
 |x :: l=>by
  have:=J2 x;have:=UV l;simp only[Q9,QMk];omega
theorem F4:∀l:List (V×V),2*l.length≤Xt l
 | []=>QL3 _
 |(a,b) :: l=>by
  have:=J2 a;have:=J2 b;have:=F4 l;simp only[Xt,QMk];omega
theorem F5:∀l:List (Int×V),l.length≤Xa l
 | []=>QL3 _
 |(a,b) :: l=>by
  have:=J2 b;have:=F5 l;simp only[Xa,QMk];omega
theorem F6 {v x:V}(h:x∈v.list):x.cnt≤v.cnt:=by have:=F2 h;rw[Xg v];omega
theorem IC {v:V}{x:V×V}(h:x∈v.pairs):x.1.cnt≤v.cnt:=by have:=UU h;rw[Xg v];omega
theorem Nk {v:V}{x:V×V}(h:x∈v.pairs):x.2.cnt≤v.cnt:=by have:=UU h;rw[Xg v];omega
theorem F7 {v:V}{x:Int×V}(h:x∈v.slots):x.2.cnt≤v.cnt:=by have:=F3 h;rw[Xg v];omega
theorem W9 (v:V):v.list.length≤v.cnt:=by have:=UV v.list;rw[Xg v];omega
theorem YO (v:V):v.pairs.length≤v.cnt:=by have:=F4 v.pairs;rw[Xg v];omega
theorem YP (v:V):v.slots.length≤v.cnt:=by have:=F5 v.slots;rw[Xg v];omega
theorem F8 (v:V):v.raws.length≤v.cnt:=by rw[Xg v];omega

section
variable {M:Nat}{P:PL}{m:PG→V→Prop}{nm:PG→V→V}(o:PO)(ho:UO P o)

include ho in
theorem QJg (hm:∀(t:Int) (g:PG),P.progs[t.toNat]? = some g→0≤t→∀v:V,v.ok M→v.cnt≤1048576→m g v→Qp Tryz.prog 57 [P.av,.int .i64 t,v.av] (nm g v).av)(v:V)(hv:v.ok M)(hc:v.cnt≤1048576)(he:EW m P o v) :
  Qp Tryz.prog 184 [P.av,QA o,v.av] (JJ nm P o v).av:=by
 have e0:P.av=.agg [.list (P.progs.map Qj),.list (P.enums.map Qt)]:=rfl;unfold JJ;by_cases hk:o.kind=10
 ·have b:(o.kind==10)=true:=by simp[hk]
  have he:=he hk;rw[QMy hk];obtain⟨t0,t1⟩:=ho.tgt hk;obtain⟨g,hg⟩:∃g,P.progs[o.target.toNat]? = some g:=⟨P.progs[o.target.toNat]'(by omega),QL6 (by omega)⟩;have hq:Xb P o.target=g:=by unfold Xb;rw[hg];rfl
  rw[hq]at he ⊢;have h2:=hm o.target g hg t0 v hv hc he;generalize nm g v=z at h2 ⊢;rw[e0,QL,QL]at h2;rw[QL,QL];refine M4.fn (by simp) ?_;simp only[e0,QA,PO.cells,b,eE,seval];refine Qb h2 rfl rfl rfl (.inl rfl) ?_;simp only[eE,seval]
 ·have b:(o.kind==10)=false:=by simp[hk]
  rw[QMj hk];have h1:=v51 v (WB hv);generalize v.nsc=z at h1 ⊢;rw[QL,QL]at h1;rw[QL,QL];refine M4.fn (by simp) ?_;simp only[e0,QA,PO.cells,b,eE,seval];refine Qb h1 rfl rfl rfl (.inl rfl) ?_;simp only[eE,seval]

def NlI (P:PL)(o:PO)(l:List V)(F:V→V)(k:Nat)(st:St):Prop :=
 ∃f fr i g,st=⟨f,[fr],[]⟩∧k=l.length-i∧i≤l.length∧f 3=.ptr 0 3 0∧f 4=.ptr 0 4 0∧f 6=.ptr 0 6 0∧f 7=.ptr 0 7 0∧f 19=.list (l.map V.av)∧f 20=.int .i64 (l.length:Nat)∧f 21=.int .i64 (i:Nat)∧fr 3=.cells [.list (P.progs.map Qj),.list (P.enums.map Qt)]∧fr 4=.cells o.cells∧fr 6=.cells [.int .i64 0,.int .u64 0,.str [],.nils,.nils,.nils,.nils]∧fr 7=.cells [.int .i64 11,.int .u64 0,.str [],.vec 0 1100 g 0 i false,.nils,.nils,.nils]∧fr 1100=.vec g 7 ((l.take i).map fun x=>(F x).av)∧∀s∈[9],(fr s).isRow=false

def NpI (P:PL)(o:PO)(T:List (V×V))(F:V×V→V×V)(k:Nat)(st:St):Prop :=
 ∃f fr i g,st=⟨f,[fr],[]⟩∧k=T.length-i∧i≤T.length∧f 3=.ptr 0 3 0∧f 4=.ptr 0 4 0∧f 6=.ptr 0 6 0∧f 10=.ptr 0 10 0∧f 41=.list (T.map V.pav)∧f 42=.int .i64 (T.length:Nat)∧f 43=.int .i64 (i:Nat)∧fr 3=.cells [.list (P.progs.map Qj),.list (P.enums.map Qt)]∧fr 4=.cells o.cells∧fr 6=.cells [.int .i64 0,.int .u64 0,.str [],.nils,.nils,.nils,.nils]∧fr 10=.cells [.int .i64 12,.int .u64 0,.str [],.nils,.vec 0 1101 g 0 i false,.nils,.nils]∧fr 1101=.vec g 14 ((T.take i).map fun x=>V.pav (F x))∧∀s∈[12],(fr s).isRow=false

theorem QAv (l:List V)(F:V→V):(l.map fun x=>(F x).av)=(l.map F).map V.av:=by rw[QNL];rfl
theorem Qti (l:List (V×V))(F:V×V→V×V):(l.map fun x=>V.pav (F x))=(l.map F).map V.pav:=by rw[QNL];rfl

set_option maxHeartbeats 1000000 in
include ho in
theorem v98 (hel:∀v:V,v.ok M→v.cnt≤1048576→EW m P o v→Qp Tryz.prog 184 [P.av,QA o,v.av] (JJ nm P o v).av)(v:V)(hv:v.ok M)(hc:v.cnt≤1048576)(he:FW m P o v) :
  Qp Tryz.prog 98 [P.av,QA o,v.av] (Jk nm P o v).av:=by
 have e0:P.av=.agg [.list (P.progs.map Qj),.list (P.enums.map Qt)]:=rfl;unfold Jk;unfold FW at he;by_cases h4:o.card=4
 ·have b4:(o.card==4)=true:=by simp[h4]
  rw[QMy h4]at he;rw[QMy h4];have hL:=he;have hlen:=W9 v;rw[QL v];generalize hF:JJ nm P o=F at hel ⊢;rw[show(V.mk 11 0 [] (v.list.map F) [] [] []).av=.agg [.int .i64 11,.int .u64 0,.str [],.list ((v.list.map F).map V.av),.list [],.list [],.list []]from QL _];refine Rm.fn (by simp) ?_;simp only[e0,QA,PO.cells,b4,eE,seval];refine WS (by simp only[Qa,seval]<;>rfl) rfl (by simp only[Qa,seval]<;>rfl) rfl ?_;simp only[List.set,QMZ,eE,seval];refine Qf (NlI P o v.list F) _ ⟨_,_,0,_,rfl,rfl,QMd _,(by rfl),(by rfl),(by rfl),(by rfl),(by rfl),(by rfl),(by rfl),(by rfl),(by rfl),(by rfl),(by rfl),(by rfl),by simp<;>rfl⟩ ?_;rintro _ st ⟨f0,fr0,i,g,rfl,rfl,hil,h30,h40,h60,h70,h190,h200,h210,m30,m40,m60,m70,mR0,r9⟩;refine QM (a:=_) [9] r9 ?_;intro f fr hf hm hn9;have h3:f 3=.ptr 0 3 0:=by rw[hf,h30]<;>rfl
  have h4:f 4=.ptr 0 4 0:=by rw[hf,h40]<;>rfl
  have h6:f 6=.ptr 0 6 0:=by rw[hf,h60]<;>rfl
  have h7:f 7=.ptr 0 7 0:=by rw[hf,h70]<;>rfl
  have h19:f 19=.list (v.list.map V.av):=by rw[hf,h190]<;>rfl
  have h20:f 20=.int .i64 (v.list.length:Nat):=by rw[hf,h200]<;>rfl
  have h21:f 21=.int .i64 (i:Nat):=by rw[hf,h210]<;>rfl
  have m3:fr 3=.cells [.list (P.progs.map Qj),.list (P.enums.map Qt)]:=by rw[hm 3 (by decide),m30]<;>rfl
  have m4:fr 4=.cells o.cells:=by rw[hm 4 (by decide),m40]<;>rfl
  have m6:fr 6=.cells [.int .i64 0,.int .u64 0,.str [],.nils,.nils,.nils,.nils]:=by rw[hm 6 (by decide),m60]<;>rfl
  have m7:fr 7=.cells [.int .i64 11,.int .u64 0,.str [],.vec 0 1100 g 0 i false,.nils,.nils,.nils]:=by rw[hm 7 (by decide),m70]<;>rfl
  have mR:fr 1100=.vec g 7 ((v.list.take i).map fun x=>(F x).av):=by rw[hm 1100 (by decide),mR0]<;>rfl
  have n9:=hn9 9 (by decide);clear hf hm hn9 h30 h40 h60 h70 h190 h200 h210 m30 m40 m60 m70 mR0 r9;have m4':=m4;simp only[PO.cells]at m4;simp only[h20,h21,Qa,seval];by_cases hlt:i<v.list.length
  ·obtain⟨x,hi⟩:∃x,v.list[i]? = some x:=⟨v.list[i],QL6 hlt⟩;have hx:=QMi hi;have hg:=GH hi;have e1:=Qq i _ hlt (by simp only[maxLen];omega);have c1:=hel x (hv.list x hx) (QL4 (F6 hx) hc) (hL x hx);have hti:((v.list.take i).map fun x=>(F x).av).length=i:=by rw[QMZ,QM1];omega
   have hts:(v.list.take (i+1)).map (fun x=>(F x).av)=(v.list.take i).map (fun x=>(F x).av)++[(F x).av]:=by rw[QNK,hi];simp
   generalize F x=z at c1 hts;rw[e0,QL,QL z]at c1;simp only[QA,PO.cells]at c1;simp only[Qo hlt,Qm,QNt,Qd,hg,n9,h3,h4,h7,h19,h21,m3,m4,m7,eE,seval];refine Qb c1 rfl rfl rfl (.inl rfl) ?_;refine QZ (l:=[z.av]) rfl rfl rfl (by rw[QL];rfl) ?_;refine QR (site:=1100) (g:=g) (n:=i) (xs:=(v.list.take i).map fun x=>(F x).av) (ys:=[z.av]) (by rfl) (by exact mR) rfl hti.symm rfl (Vn [z]) (by simp only[QMk,QM0,maxLen];omega) (by simp only[QMk,QM0];omega) ?_;simp only[h7,h21,m7,e1,eE,seval];exact⟨v.list.length-(i+1),by omega,_,_,i+1,g+1,rfl,rfl,by omega,(by exact h3),(by exact h4),(by exact h6),(by exact h7),(by exact h19),(by exact h20),(by rfl),(by exact m3),(by exact m4'),(by exact m6),(by rfl),(by rw[hts];exact(by rfl)),by simp<;>rfl⟩
  ·have e:i=v.list.length:=by omega
   subst e;rw[QNB,QAv]at mR;simp only[QE hlt,h6,h7,m6,m7,eE,seval];simp[AV.un,AV.unL,Zf,Xz,mR,QMD]
 ·have b4:(o.card==4)=false:=by simp[h4]
  rw[QMj h4];by_cases h5:o.card=5
  ·have b5:(o.card==5)=true:=by simp[h5]
   rw[QMj h4,QMy h5]at he;rw[QMy h5];have hE:=he;have hlen:=YO v;have hk:=ho.key h5;have hkn:=IB ho.key h5 fun p hp=>(hE.1 p hp).1
   have cp:=QJd hk v.pairs (by omega) (fun p hp=>(hE.1 p hp).1) (fun p hp=>WB (hv.keys p hp)) hE.2;have hperm:(Zl o.key v.pairs).Perm v.pairs:=Xf _;have hTl:(Zl o.key v.pairs).length=v.pairs.length:=hperm.length_eq;have hTm:∀p∈Zl o.key v.pairs,p∈v.pairs:=fun p h=>hperm.mem_iff.1 h
   generalize Zl o.key v.pairs=T at *;rw[QL v];generalize hF:(fun p:V×V=>(p.1.nsc,JJ nm P o p.2))=F;rw[show(V.mk 12 0 [] [] (T.map F) [] []).av=.agg [.int .i64 12,.int .u64 0,.str [],.list [],.list ((T.map F).map V.pav),.list [],.list []]from QL _];refine Rm.fn (by simp) ?_;simp only[e0,QA,PO.cells,b4,b5,eE,seval];refine WS (by simp only[Qa,seval]<;>rfl) rfl (by simp only[Qa,seval]<;>rfl) rfl ?_;simp only[List.set,eE,seval];refine Qb cp rfl rfl rfl (.inl rfl) ?_;simp only[QMZ,Qa,seval];refine Qf (NpI P o T F) _ ⟨_,_,0,_,rfl,rfl,QMd _,(by rfl),(by rfl),(by rfl),(by rfl),(by rfl),(by rfl),(by rfl),(by rfl),(by rfl),(by rfl),(by rfl),(by rfl),by simp<;>rfl⟩ ?_;rintro _ st ⟨f0,fr0,i,g,rfl,rfl,hil,h30,h40,h60,h100,h410,h420,h430,m30,m40,m60,m100,mR0,K7⟩;refine QM (a:=_) [12] K7 ?_;intro f fr hf hm hn12;have h3:f 3=.ptr 0 3 0:=by rw[hf,h30]<;>rfl
   have h4:f 4=.ptr 0 4 0:=by rw[hf,h40]<;>rfl
   have h6:f 6=.ptr 0 6 0:=by rw[hf,h60]<;>rfl
   have h10:f 10=.ptr 0 10 0:=by rw[hf,h100]<;>rfl
   have h41:f 41=.list (T.map V.pav):=by rw[hf,h410]<;>rfl
   have h42:f 42=.int .i64 (T.length:Nat):=by rw[hf,h420]<;>rfl
   have h43:f 43=.int .i64 (i:Nat):=by rw[hf,h430]<;>rfl
   have m3:fr 3=.cells [.list (P.progs.map Qj),.list (P.enums.map Qt)]:=by rw[hm 3 (by decide),m30]<;>rfl
   have m4:fr 4=.cells o.cells:=by rw[hm 4 (by decide),m40]<;>rfl
   have m6:fr 6=.cells [.int .i64 0,.int .u64 0,.str [],.nils,.nils,.nils,.nils]:=by rw[hm 6 (by decide),m60]<;>rfl
   have m10:fr 10=.cells [.int .i64 12,.int .u64 0,.str [],.nils,.vec 0 1101 g 0 i false,.nils,.nils]:=by rw[hm 10 (by decide),m100]<;>rfl
   have mR:fr 1101=.vec g 14 ((T.take i).map fun x=>V.pav (F x)):=by rw[hm 1101 (by decide),mR0]<;>rfl
   have n12:=hn12 12 (by decide);clear hf hm hn12 h30 h40 h60 h100 h410 h420 h430 m30 m40 m60 m100 mR0 K7;have m4':=m4;simp only[PO.cells]at m4;simp only[h42,h43,Qa,seval];by_cases hlt:i<T.length
   ·obtain⟨x,hi⟩:∃x,T[i]? = some x:=⟨T[i],QL6 hlt⟩;have hx:=hTm x (QMi hi);have hg:=YI hi;have e1:=Qq i _ hlt (by simp only[maxLen];omega);have c0:=v51 x.1 (WB (hv.keys x hx));have c1:=hel x.2 (hv.vals x hx) (QL4 (Nk hx) hc) (hE.1 x hx).2;have hti:((T.take i).map fun x=>V.pav (F x)).length=i:=by rw[QMZ,QM1];omega
    have hFx:F x=(x.1.nsc,JJ nm P o x.2):=by rw[←hF]
    have hts:(T.take (i+1)).map (fun x=>V.pav (F x))=(T.take i).map (fun x=>V.pav (F x))++[V.pav (x.1.nsc,JJ nm P o x.2)]:=by rw[QNK,hi,←hFx];simp
    generalize x.1.nsc=y at c0 hts;generalize JJ nm P o x.2=z at c1 hts;rw[QL,QL y]at c0;rw[e0,QL,QL z]at c1;simp only[QA,PO.cells]at c1;simp only[Qo hlt,Qm,QNt,Qd,hg,n12,h10,h41,h43,m10,eE,seval];refine Qb c0 rfl rfl rfl (.inl rfl) ?_;simp only[QMC,QMF,QMM,h3,h4,m3,m4,eE,seval];refine Qb c1 rfl rfl rfl (.inl rfl) ?_;simp only[eE,seval];refine QZ (l:=[V.pav (y,z)]) rfl rfl rfl (by rw[Ja];rfl) ?_;refine QR (site:=1101) (g:=g) (n:=i) (xs:=(T.take i).map fun x=>V.pav (F x)) (ys:=[V.pav (y,z)]) (by rfl) (by exact mR) rfl hti.symm rfl (Ds [(y,z)]) (by simp only[QMk,QM0,maxLen];omega) (by simp only[QMk,QM0];omega) ?_;simp only[h10,h43,m10,e1,eE,seval];exact⟨T.length-(i+1),by omega,_,_,i+1,g+1,rfl,rfl,by omega,(by exact h3),(by exact h4),(by exact h6),(by exact h10),(by exact h41),(by exact h42),(by rfl),(by exact m3),(by exact m4'),(by exact m6),(by rfl),(by rw[hts];exact(by rfl)),by simp<;>rfl⟩
   ·have e:i=T.length:=by omega
    subst e;rw[QNB,Qti]at mR;simp only[QE hlt,h6,h10,m6,m10,eE,seval];simp[AV.un,AV.unL,Zf,Xz,mR,QMD]
  ·have b5:(o.card==5)=false:=by simp[h5]
   rw[QMj h4,QMj h5]at he;rw[QMj h5];have c1:=hel v hv hc he;generalize JJ nm P o v=z at c1 ⊢;rw[e0,QL v,QL z]at c1;simp only[QA,PO.cells]at c1;rw[QL v,QL z];refine Rm.fn (by simp) ?_;simp only[e0,QA,PO.cells,b4,b5,eE,seval];refine Qb c1 rfl rfl rfl (.inl rfl) ?_;simp only[eE,seval]

end

theorem Qtj {ops:List PO}(h:XH ops (XY PO.num)=true):ops.Pairwise fun a b=>a.num<b.num:=by
 have hs:∀i (hi:i+1<ops.length),ops[i].num<ops[i+1].num:=by
  intro i hi;unfold XH at h;have:=QG.1 h (i+1) hi;rw[ZY (QL6 (by omega:i<ops.length)) (QL6 hi)]at this;unfold XY at this
  simpa using this
 rw[QN1];intro i j hi hj hij;obtain⟨d,rfl⟩:∃d,j=i+1+d:=⟨j-(i+1),by omega⟩;clear hij
 induction d with
 |zero=>exact hs i (by omega)
 |succ d ih=>
  have a:=ih (by omega);have b:=hs (i+1+d) (by omega);exact Int.lt_trans a b

theorem F9 {P:PL}(h:ck P=0):Ut P=true∧args P=true:=by
 unfold ck at h;split at h
 ·omega
 split at h
 ·omega
 split at h
 ·omega
 rename_i ho;split at h
 ·omega
 split at h
 ·omega
 split at h
 ·omega
 rename_i ha;exact⟨by simpa using ho,by simpa using ha⟩
theorem PX {P:PL}(h:ck P=0):Wf P:=by
 have ho:=(F9 h).1;unfold Ut at ho;simp only[QMt,QMh]at ho;intro g hg;exact Qtj (ho.1.2 g hg)
def Vz (P:PL):Prop:=∀g∈P.progs,∀o∈g.ops,1≤o.card∧o.card≤5
theorem PY {P:PL}(h:ck P=0):Vz P:=by
 have ha:=(F9 h).2;intro g hg o ho;unfold args at ha;simp only[QMt,QMh]at ha;have h1:=ha.1 g hg;unfold ZI at h1;simp only[QMt,QMh]at h1;have h2:=(h1.2 o ho).1;unfold XU at h2;simp only[QMt,QMa]at h2;exact⟨h2.1.1.1.2,h2.1.1.2⟩

theorem Ya {fr:Nat→Ob}{a b c:Nat}(h1:(fr a).isRow=false)(h2:(fr b).isRow=false)(h3:(fr c).isRow=false):∀s∈[a,b,c],(fr s).isRow=false:=by
 intro s hs;simp only[QNo,QN3,or_false]at hs;rcases hs with rfl|rfl|rfl
 ·exact h1
 ·exact h2
 ·exact h3

section
variable (k:Int)(b:Nat)(t:List UInt8)(l p s r:List AV)

theorem QJh (hl:l.length≤140737488351232)(hp:p.length≤140737488351232)(hs:s.length≤140737488351232)(hr:r.length≤140737488351232) :
  Qp Tryz.prog 186 [vo k b t l p s r] (.bool (zer k b t l p s r)):=by
 have hle:=Qr9 k b t l p s r hl hp hs hr;simp only[vo]at hle;refine Qfn.fn (by simp) ?_;simp only[vo,zer,eE,seval];refine Qb (Fp k) rfl rfl rfl (.inl rfl) ?_;cases isk k
 ·simp only[QNw,Qa,seval]
 ·simp only[QND,eE,seval];refine Qb hle rfl rfl rfl (.inl rfl) ?_;cases Ww l p s r
  ·simp only[QNw,Qa,seval]
  ·cases h1:((b:Int)==0)<;>cases h2:(t==[])<;>cases h3:ZN k<;>simp only[h1,h2,QNf,QNS,QMo,QN,eE,seval]

theorem w99 (hl:l.length≤140737488351232)(hp:p.length≤140737488351232)(hs:s.length≤140737488351232)(hr:r.length≤140737488351232):Qp Tryz.prog 99 [vo k b t l p s r] (.bool (emp k b t l p s r)):=by
 have hz:=QJh k b t l p s r hl hp hs hr;simp only[vo]at hz;refine k99.fn (by simp) ?_;simp only[vo,emp,eE,seval];cases h1:(k==11)<;>cases h2:((l.length:Int)==0)<;>cases h3:(k==12)<;>cases h4:((p.length:Int)==0)<;>simp only[h2,h3,h4,QND,QNw,QNG,QNH,QNT,eE,seval]
 all_goals(refine Qb hz rfl rfl rfl (.inl rfl) ?_;simp only[Qa,seval])

end
theorem QAw (v:V)(hc:v.cnt≤1048576):Qp Tryz.prog 99 [v.av] (.bool v.emp):=by
 have h1:=W9 v;have h2:=YO v;have h3:=YP v;have h4:=F8 v;rw[Dp];exact w99 _ _ _ _ _ _ _ (by simp;omega) (by simp;omega) (by simp;omega) (by simp;omega)
def NgI (P:PL)(K:Nat→List (Int×V))(T:List (Int×V))(t:Nat)(rw':List R)(k:Nat)(st:St):Prop :=
 ∃f fr i g h,st=⟨f,[fr],[]⟩∧k=T.length-i∧i≤T.length∧f 1=.int .i64 (t:Nat)∧f 3=.ptr 0 3 0∧f 6=.ptr 0 6 0∧f 7=.ptr 0 7 0∧f 30=.list (T.map V.sav)∧f 31=.int .i64 (T.length:Nat)∧f 32=.int .i64 (i:Nat)∧fr 3=.cells [.list (P.progs.map Qj),.list (P.enums.map Qt)]∧fr 6=.cells [.int .i64 0,.int .u64 0,.str [],.nils,.nils,.nils,.nils]∧fr 7=.cells [.int .i64 10,.int .u64 0,.str [],.nils,.nils,.vec 0 1100 g 0 (K i).length false,.vec 0 1000 h 0 rw'.length false]∧fr 1100=.vec g 8 ((K i).map V.sav)∧fr 1000=.vec h 4 (rw'.map R.av)∧∀s∈[13,10,9],(fr s).isRow=false

section
variable {M:Nat}{P:PL}(hP:P.ok M)

set_option maxHeartbeats 2000000 in
include hP in
theorem v57 (hU:HM P)(hr:Wf P)(hcd:Vz P):∀(n:Nat) (t:Int) (g:PG),P.progs[t.toNat]? = some g→0≤t→∀v:V,v.ok M→v.cnt≤1048576→MW P n g v→Qp Tryz.prog 57 [P.av,.int .i64 t,v.av] (Zu P n g v).av:=by
 have e0:P.av=.agg [.list (P.progs.map Qj),.list (P.enums.map Qt)]:=rfl;intro n
 induction n with
 |zero=>
  intro t g _ _ v _ _ h;exact h.elim
 |succ n ih=>
  intro t g hgt t0 v hv hc h;have hgm:=QMi hgt;have hg:=hP.progs g hgm;have hu:=hU g hgm;have hd:=hr g hgm;obtain⟨s1,s2⟩:=h;have hnel:=fun(o:PO) (ho:o∈g.ops) (x:V) (hx:x.ok M) (hxc:x.cnt≤1048576) (he:EW (MW P n) P o x)=>QJg o (hu o ho) (fun t g a b v c d e=>ih t g a b v c d e) x hx hxc he
  have hnfl:=fun(o:PO) (ho:o∈g.ops) (x:V) (hx:x.ok M) (hxc:x.cnt≤1048576) (he:FW (MW P n) P o x)=>v98 o (hu o ho) (hnel o ho) x hx hxc he
  have hcn:∀(o:PO) (x:V),(Jk (Zu P n) P o x).cnt≤x.cnt:=fun o x=>Nb (fun t v=>Y9 hr n _ (YH hr t) v) o x
  have lS:=YP v;have lR:=F8 v;have clR:=fun fr hr=>v96 (v.raws.map R.av) fr [] (UT v.raws) (by rw[QMZ];omega) hr
  have csR:=fun g (m:Ql) (hl:Am.Qg m 0 1000=.vec g 4 (v.raws.map R.av))=>Tz.PR Tg.QzP (by decide) QJf 0 1000 g (v.raws.map R.av) m hl (ezR v.raws) (by rw[QMZ];omega)
  simp only[PW,QMZ]at csR;have csl:=v97 v.slots (by omega) s2;have hTp:(Js v.slots).Perm v.slots:=Xf _;have hTl:(Js v.slots).length=v.slots.length:=hTp.length_eq;have hTm:∀s∈Js v.slots,s∈v.slots:=fun s h=>hTp.mem_iff.1 h
  have hfin:=PK (Zu P n) P hd s2;have hrl:(W5 v.raws).length=v.raws.length:=(Xf v.raws).length_eq;generalize Js v.slots=T at *;obtain⟨ti,hti⟩:=QNF t0;subst hti;rw[QNt]at hgt;have hga:(P.progs.map Qj)[ti]? = some (.agg g.cells):=by simp[hgt,Qj]
  simp only[PG.cells]at hga;have htl:ti<P.progs.length:=(QL5.1 hgt).1;have d0:decide ((ti:Int)<0)=false:=QNM (by omega);have d1:decide ((ti:Int)≥(P.progs.length:Int))=false:=QNM (by omega);have co:=fun n=>R7 g hg.len n
  simp only[Ua]at co;simp only[Qj,PG.cells]at co;show Qp _ _ _ (V.mk 10 0 [] [] [] (g.ops.flatMap (XM (Zu P n) P v.slots)) (W5 v.raws)).av;rw[←hfin,QL v];generalize hK:(fun i=>(T.take i).flatMap (ZR (Zu P n) P g))=K;have hK0:K 0=[]:=by rw[←hK];simp
  have hKn:T.flatMap (ZR (Zu P n) P g)=K T.length:=by rw[←hK];simp
  have hKl:∀i,i≤T.length→(K i).length≤i:=by
   intro i hi;rw[←hK];show((T.take i).flatMap _).length≤i;have:∀l:List (Int×V),(l.flatMap (ZR (Zu P n) P g)).length≤l.length:=by
    intro l
    induction l with
    |nil=>exact QL3 _
    |cons s l ih=>
     have:(ZR (Zu P n) P g s).length≤1:=by
      unfold ZR;split
      ·simp
      ·unfold J5;split<;>simp
     rw[QNv,QMH,QMk];omega
   exact QL4 (this _) (by rw[QM1];omega)
  rw[hKn,show(V.mk 10 0 [] [] [] (K T.length) (W5 v.raws)).av=.agg [.int .i64 10,.int .u64 0,.str [],.list [],.list [],.list ((K T.length).map V.sav),.list ((W5 v.raws).map R.av)]from QL _];refine k57.fn (by simp) ?_;simp only[e0,eE,seval];refine Qi (clR _ rfl) (by simp only[QMB,QM5,Qa,seval]) ?_;simp only[QMZ,eE,seval];refine WS (by simp only[Qa,seval]<;>rfl) rfl (by simp only[Qa,seval]<;>rfl) rfl ?_;simp only[List.set,d0,d1,QMZ,eE,seval];refine Qb csl rfl rfl rfl (.inl rfl) ?_;simp only[QMZ,Qa,seval];refine Qf (NgI P K T ti v.raws) _ ⟨_,_,0,_,_,rfl,rfl,QMd _,(by rfl),(by rfl),(by rfl),(by rfl),(by rfl),(by rfl),(by rfl),(by rfl),(by rfl),(by rw[hK0];exact(by rfl)),(by rw[hK0];exact(by rfl)),(by rfl),Ya rfl rfl rfl⟩ ?_;rintro _ st ⟨f0,fr0,i,gs,hs,rfl,rfl,hil,h10,h30,h60,h70,h300,h310,h320,m30,m60,m70,mS0,mR0,r13⟩;refine QM (a:=_) [13,10,9] r13 ?_;intro f fr hf hm hn13;have h1:f 1=.int .i64 (ti:Nat):=by rw[hf,h10]<;>rfl
  have h3:f 3=.ptr 0 3 0:=by rw[hf,h30]<;>rfl
  have h6:f 6=.ptr 0 6 0:=by rw[hf,h60]<;>rfl
  have h7:f 7=.ptr 0 7 0:=by rw[hf,h70]<;>rfl
  have h30':f 30=.list (T.map V.sav):=by rw[hf,h300]<;>rfl
  have h31:f 31=.int .i64 (T.length:Nat):=by rw[hf,h310]<;>rfl
  have h32:f 32=.int .i64 (i:Nat):=by rw[hf,h320]<;>rfl
  have m3:fr 3=.cells [.list (P.progs.map Qj),.list (P.enums.map Qt)]:=by rw[hm 3 (by decide),m30]<;>rfl
  have m6:fr 6=.cells [.int .i64 0,.int .u64 0,.str [],.nils,.nils,.nils,.nils]:=by rw[hm 6 (by decide),m60]<;>rfl
  have m7:fr 7=.cells [.int .i64 10,.int .u64 0,.str [],.nils,.nils,.vec 0 1100 gs 0 (K i).length false,.vec 0 1000 hs 0 v.raws.length false]:=by rw[hm 7 (by decide),m70]<;>rfl
  have mS:fr 1100=.vec gs 8 ((K i).map V.sav):=by rw[hm 1100 (by decide),mS0]<;>rfl
  have mR:fr 1000=.vec hs 4 (v.raws.map R.av):=by rw[hm 1000 (by decide),mR0]<;>rfl
  have n13:=hn13 13 (by decide);have n10:=hn13 10 (by decide);have n9:=hn13 9 (by decide);clear hf hm hn13 h10 h30 h60 h70 h300 h310 h320 m30 m60 m70 mS0 mR0 r13;simp only[h31,h32,Qa,seval];by_cases hlt:i<T.length
  ·obtain⟨x,hi⟩:∃x,T[i]? = some x:=⟨T[i],QL6 hlt⟩;have hx:=hTm x (QMi hi);have hgs:=W6 hi;have e1:=Qq i _ hlt (by simp only[maxLen];omega);obtain⟨o,ho,hfo⟩:=s1 x hx;obtain⟨hom,hon⟩:=J1 ho;have hcard:=hcd g hgm o hom;have c1:=co x.1;rw[ho]at c1;have hxc:=QL4 (F7 hx) hc;have c2:=hnfl o hom x.2 (hv.slots x hx) hxc hfo;have c3:=QAw (Jk (Zu P n) P o x.2) (QL4 (hcn o x.2) hxc);have hKs:K (i+1)=K i++J5 (Zu P n) P o x:=by
    rw[←hK];show(T.take (i+1)).flatMap _=(T.take i).flatMap _++_;rw[QNK,hi,List.flatMap_append];have:ZR (Zu P n) P g x=J5 (Zu P n) P o x:=by unfold ZR;rw[ho]
    simp[this]
   have hkO:J5 (Zu P n) P o x=if (decide (o.card<3) || !(Jk (Zu P n) P o x.2).emp)=true then [(x.1,Jk (Zu P n) P o x.2)]else []:=by
    unfold J5;rw[hon]
   have hKi:=hKl i (by omega);rw[hkO]at hKs;clear hkO;generalize Jk (Zu P n) P o x.2=z at c2 c3 hKs;rw[e0,QL x.2,QL z]at c2;rw[QL z]at c3;simp only[QA,PO.cells]at c2;have fin:∀(f':Fr) (fr':Nat→Ob) (gs':Nat),f' 1=.int .i64 (ti:Nat)→f' 3=.ptr 0 3 0→f' 6=.ptr 0 6 0→f' 7=.ptr 0 7 0→f' 30=.list (T.map V.sav)→f' 31=.int .i64 (T.length:Nat)→f' 32=.int .i64 ((i+1:Nat):Int)→fr' 3=.cells [.list (P.progs.map Qj),.list (P.enums.map Qt)]→fr' 6=.cells [.int .i64 0,.int .u64 0,.str [],.nils,.nils,.nils,.nils]→fr' 7=.cells [.int .i64 10,.int .u64 0,.str [],.nils,.nils,.vec 0 1100 gs' 0 (K (i+1)).length false,.vec 0 1000 hs 0 v.raws.length false]→fr' 1100=.vec gs' 8 ((K (i+1)).map V.sav)→fr' 1000=.vec hs 4 (v.raws.map R.av)→(∀s∈[13,10,9],(fr' s).isRow=false)→∃k,k<T.length-i∧NgI P K T ti v.raws k ⟨f',[fr'],[]⟩:=by
    intro f' fr' gs' a1 a3 a6 a7 a30 a31 a32 b3 b6 b7 bS bR br;exact⟨T.length-(i+1),by omega,f',fr',i+1,gs',hs,rfl,rfl,by omega,a1,a3,a6,a7,a30,a31,a32,b3,b6,b7,bS,bR,br⟩
   simp only[Qo hlt,Qm,QNt,Qd,hgs,hga,n9,h1,h3,h30',h32,m3,eE,seval];refine Qb c1 rfl rfl rfl (.inl rfl) ?_;simp only[QNd,QNN,QA,PO.cells,n10,eE,seval];rcases(by omega:o.card=1∨o.card=2∨o.card=3∨o.card=4∨o.card=5)with cc|cc|cc|cc|cc
   ·have b3:(o.card==3)=false:=by simp[cc]
    have b4:(o.card==4)=false:=by simp[cc]
    have b5:(o.card==5)=false:=by simp[cc]
    rw[QMy (by simp[cc])]at hKs;simp only[b3,b4,b5,QMC,QMF,QMM,h3,m3,eE,seval];refine Qb c2 rfl rfl rfl (.inl rfl) ?_;simp only[n13,h7,m7,eE,seval];refine QZ (l:=[V.sav (x.1,z)]) rfl rfl rfl (by rw[ZK];rfl) ?_;refine QR (site:=1100) (g:=gs) (n:=(K i).length) (xs:=(K i).map V.sav) (ys:=[V.sav (x.1,z)]) (by rfl) (by exact mS) rfl (by rw[QMZ]) rfl (YN [(x.1,z)]) (by simp only[QMk,QM0,maxLen];omega) (by simp only[QMk,QM0];omega) ?_;simp only[h7,h32,m7,e1,eE,seval];exact fin _ _ (gs+1) (by exact h1) (by exact h3) (by exact h6) (by exact h7) (by exact h30') (by exact h31) (by rfl) (by exact m3) (by exact m6) (by rw[hKs,QMH];exact(by rfl)) (by rw[hKs,QNJ];exact(by rfl)) (by exact mR) (Ya rfl rfl rfl)

   ·have b3:(o.card==3)=false:=by simp[cc]
    have b4:(o.card==4)=false:=by simp[cc]
    have b5:(o.card==5)=false:=by simp[cc]
    rw[QMy (by simp[cc])]at hKs;simp only[b3,b4,b5,QMC,QMF,QMM,h3,m3,eE,seval];refine Qb c2 rfl rfl rfl (.inl rfl) ?_;simp only[n13,h7,m7,eE,seval];refine QZ (l:=[V.sav (x.1,z)]) rfl rfl rfl (by rw[ZK];rfl) ?_;refine QR (site:=1100) (g:=gs) (n:=(K i).length) (xs:=(K i).map V.sav) (ys:=[V.sav (x.1,z)]) (by rfl) (by exact mS) rfl (by rw[QMZ]) rfl (YN [(x.1,z)]) (by simp only[QMk,QM0,maxLen];omega) (by simp only[QMk,QM0];omega) ?_;simp only[h7,h32,m7,e1,eE,seval];exact fin _ _ (gs+1) (by exact h1) (by exact h3) (by exact h6) (by exact h7) (by exact h30') (by exact h31) (by rfl) (by exact m3) (by exact m6) (by rw[hKs,QMH];exact(by rfl)) (by rw[hKs,QNJ];exact(by rfl)) (by exact mR) (Ya rfl rfl rfl)
   ·have b3:(o.card==3)=true:=by simp[cc]
    have b4:(o.card==4)=false:=by simp[cc]
    have b5:(o.card==5)=false:=by simp[cc]
    have l3:decide (o.card<3)=false:=by simp[cc]
    rw[l3,QNH]at hKs;simp only[b3,QMC,QMF,QMM,h3,m3,eE,seval];refine Qb c2 rfl rfl rfl (.inl rfl) ?_;simp only[n13,eE,seval];refine Qb c3 rfl rfl rfl (.inl rfl) ?_;cases hz:z.emp
    ·rw[hz,QMy (show(!false)=true from rfl)]at hKs;simp only[h7,m7,eE,seval];refine QZ (l:=[V.sav (x.1,z)]) rfl rfl rfl (by rw[ZK];rfl) ?_;refine QR (site:=1100) (g:=gs) (n:=(K i).length) (xs:=(K i).map V.sav) (ys:=[V.sav (x.1,z)]) (by rfl) (by exact mS) rfl (by rw[QMZ]) rfl (YN [(x.1,z)]) (by simp only[QMk,QM0,maxLen];omega) (by simp only[QMk,QM0];omega) ?_;simp only[h7,h32,m7,e1,eE,seval];exact fin _ _ (gs+1) (by exact h1) (by exact h3) (by exact h6) (by exact h7) (by exact h30') (by exact h31) (by rfl) (by exact m3) (by exact m6) (by rw[hKs,QMH];exact(by rfl)) (by rw[hKs,QNJ];exact(by rfl)) (by exact mR) (Ya rfl rfl rfl)
    ·rw[hz,QMj (by simp),QM7]at hKs;simp only[h32,e1,Qa,seval];exact fin _ _ gs (by exact h1) (by exact h3) (by exact h6) (by exact h7) (by exact h30') (by exact h31) (by rfl) (by exact m3) (by exact m6) (by rw[hKs];exact(by exact m7)) (by rw[hKs];exact(by exact mS)) (by exact mR) (Ya rfl rfl rfl)

   ·have b3:(o.card==3)=false:=by simp[cc]
    have b4:(o.card==4)=true:=by simp[cc]
    have b5:(o.card==5)=false:=by simp[cc]
    have l3:decide (o.card<3)=false:=by simp[cc]
    rw[l3,QNH]at hKs;simp only[b3,b4,QMC,QMF,QMM,h3,m3,eE,seval];refine Qb c2 rfl rfl rfl (.inl rfl) ?_;simp only[n13,eE,seval];refine Qb c3 rfl rfl rfl (.inl rfl) ?_;cases hz:z.emp
    ·rw[hz,QMy (show(!false)=true from rfl)]at hKs;simp only[h7,m7,eE,seval];refine QZ (l:=[V.sav (x.1,z)]) rfl rfl rfl (by rw[ZK];rfl) ?_;refine QR (site:=1100) (g:=gs) (n:=(K i).length) (xs:=(K i).map V.sav) (ys:=[V.sav (x.1,z)]) (by rfl) (by exact mS) rfl (by rw[QMZ]) rfl (YN [(x.1,z)]) (by simp only[QMk,QM0,maxLen];omega) (by simp only[QMk,QM0];omega) ?_;simp only[h7,h32,m7,e1,eE,seval];exact fin _ _ (gs+1) (by exact h1) (by exact h3) (by exact h6) (by exact h7) (by exact h30') (by exact h31) (by rfl) (by exact m3) (by exact m6) (by rw[hKs,QMH];exact(by rfl)) (by rw[hKs,QNJ];exact(by rfl)) (by exact mR) (Ya rfl rfl rfl)
    ·rw[hz,QMj (by simp),QM7]at hKs;simp only[h32,e1,Qa,seval];exact fin _ _ gs (by exact h1) (by exact h3) (by exact h6) (by exact h7) (by exact h30') (by exact h31) (by rfl) (by exact m3) (by exact m6) (by rw[hKs];exact(by exact m7)) (by rw[hKs];exact(by exact mS)) (by exact mR) (Ya rfl rfl rfl)

   ·have b3:(o.card==3)=false:=by simp[cc]
    have b4:(o.card==4)=false:=by simp[cc]
    have b5:(o.card==5)=true:=by simp[cc]
    have l3:decide (o.card<3)=false:=by simp[cc]
    rw[l3,QNH]at hKs;simp only[b3,b4,b5,QMC,QMF,QMM,h3,m3,eE,seval];refine Qb c2 rfl rfl rfl (.inl rfl) ?_;simp only[n13,eE,seval];refine Qb c3 rfl rfl rfl (.inl rfl) ?_;cases hz:z.emp
    ·rw[hz,QMy (show(!false)=true from rfl)]at hKs;simp only[h7,m7,eE,seval];refine QZ (l:=[V.sav (x.1,z)]) rfl rfl rfl (by rw[ZK];rfl) ?_;refine QR (site:=1100) (g:=gs) (n:=(K i).length) (xs:=(K i).map V.sav) (ys:=[V.sav (x.1,z)]) (by rfl) (by exact mS) rfl (by rw[QMZ]) rfl (YN [(x.1,z)]) (by simp only[QMk,QM0,maxLen];omega) (by simp only[QMk,QM0];omega) ?_;simp only[h7,h32,m7,e1,eE,seval];exact fin _ _ (gs+1) (by exact h1) (by exact h3) (by exact h6) (by exact h7) (by exact h30') (by exact h31) (by rfl) (by exact m3) (by exact m6) (by rw[hKs,QMH];exact(by rfl)) (by rw[hKs,QNJ];exact(by rfl)) (by exact mR) (Ya rfl rfl rfl)
    ·rw[hz,QMj (by simp),QM7]at hKs;simp only[h32,e1,Qa,seval];exact fin _ _ gs (by exact h1) (by exact h3) (by exact h6) (by exact h7) (by exact h30') (by exact h31) (by rfl) (by exact m3) (by exact m6) (by rw[hKs];exact(by exact m7)) (by rw[hKs];exact(by exact mS)) (by exact mR) (Ya rfl rfl rfl)
  ·have e:i=T.length:=by omega
   subst e;simp only[QE hlt,h7,m7,eE,seval];refine Qi (csR _ _ (by simp only[mR,eEX,seval]<;>rfl)) (by simp only[QMB,QM5,Qa,seval]) ?_;simp only[h6,h7,m6,m7,eE,seval];simp[AV.un,AV.unL,Zf,Xz,mS,QMD,hrl]

end
end Go.Proofs.YtipjfckmopekaaaGreatDoor.Va

namespace Go.Proofs.YtipjfckmopekaaaGreatDoor.Va
open Go Am Rc Bt

def YQ (u:Int):Int:=if 0≤u then 2*u else -2*u-1
theorem c50 (u:Int)(h0 : -9223372036854775808≤u)(h1:u<9223372036854775808):Qp Tryz.prog 50 [.int .i64 u] (.int .u64 (YQ u)):=by
 refine k50.fn (by simp) ?_;simp only[Hu,seval];congr 1
 simp only[show min 63 64=63 from rfl,show min 1 64=1 from rfl,seval,Gx,YQ,QN5 _ (show(0:Int)≤9223372036854775808 by decide)];by_cases h:0≤u
 ·rw[show u / 9223372036854775808=0 by omega,QMy h,show(0:Int) % 18446744073709551616=0 from rfl,Fm _ (by omega) (by omega)];omega
 ·rw[show u / 9223372036854775808 = -1 by omega,QMj h,show(-1:Int) % 18446744073709551616=18446744073709551615 from rfl,Fo _ (by omega) (by omega)];omega

theorem H9 (u:Int):0≤YQ u:=by unfold YQ;split<;>omega
theorem Qtk (u:Int)(h0 : -9223372036854775808≤u)(h1:u<9223372036854775808):YQ u<18446744073709551616:=by unfold YQ;split<;>omega
open Br Up

def vv (k:Int)(b:Nat)(t:List UInt8)(l p s r:List AV):AV:=.agg [.int .i64 k,.int .u64 (b:Nat),.str t,.list l,.list p,.list s,.list r]

section
variable (k:Int)(b:Nat)(hb:b<18446744073709551616)(t:List UInt8)(l p s r:List AV)
include hb

theorem y51:Qp Tryz.prog 51 [vv k b t l p s r] (vv k (Zp k b) t l p s r):=by
 refine Lk.fn (by simp) ?_;simp only[vv,eE,seval];by_cases hk:k=6
 ·have b0:(k==6)=true:=by simp[hk]
  simp only[b0,eE,seval];refine Qb (x82 b hb) rfl rfl rfl (.inl rfl) ?_;simp only[Qsn,Qa,seval];by_cases hc:HK b=0
  ·simp only[hc,Zp,hk,decide_true,and_self,splice,QMC,QNc,QMF,QMM,QMr,QMs,QMk,QM0,eE,seval]
   try rfl
  ·simp only[hc,Zp,decide_false,and_false,eE,seval]
 ·have b0:(k==6)=false:=by simp[hk]
  simp only[b0,Zp,hk,false_and,eE,seval]

def Zb:R :=
 if k=1∨k=4∨k=5∨k=9 then⟨0,0,b,[]⟩else if k=2∨k=3 then⟨0,1,(YQ (IntKind.i64.wrap (b:Int))).toNat,[]⟩
 else if k=6 then⟨0,2,Zp k b,[]⟩else if k=7∨k=8 then⟨0,3,0,t⟩else zr

theorem y25:Qp Tryz.prog 25 [vv k b t l p s r] (Zb k b t).av:=by
  have hn:=y51 k b hb t l p s r;simp only[vv]at hn;have hw0 : -9223372036854775808≤IntKind.i64.wrap (b:Int):=by rw[QF];omega
  have hw1:IntKind.i64.wrap (b:Int)<9223372036854775808:=by rw[QF];omega
  have hz:=c50 (IntKind.i64.wrap (b:Int)) hw0 hw1;have hzn:(((YQ (IntKind.i64.wrap (b:Int))).toNat:Nat):Int)=YQ (IntKind.i64.wrap (b:Int)):=Int.toNat_of_nonneg (H9 _);refine k25.fn (by simp) ?_;simp only[vv,eE,seval];by_cases h1:k=1∨k=4∨k=5∨k=9
  · have hs:Zb k b t=⟨0,0,b,[]⟩:=by unfold Zb;rw[QMy h1]
    rcases h1 with rfl|rfl|rfl|rfl<;>simp only[hs,R.av,seval,splice,QMC,QNc,QMF,QMM,QMr,QMs,QMk,QM0,eE]<;>rfl
  have hk1:(k==1)=false:=by simp;omega
  have hk4:(k==4)=false:=by simp;omega
  have hk5:(k==5)=false:=by simp;omega
  have hk9:(k==9)=false:=by simp;omega
  by_cases h2:k=2∨k=3
  · have hs:Zb k b t=⟨0,1,(YQ (IntKind.i64.wrap (b:Int))).toNat,[]⟩:=by unfold Zb;rw[QMj h1,QMy h2]
    rcases h2 with rfl|rfl <;>
      (simp only[seval,eE]
       refine Qb hz rfl rfl rfl (.inl rfl) ?_;simp only[hs,R.av,hzn,splice,QMC,QNc,QMF,QMM,QMr,QMs,QMk,QM0,eE,seval])
  have hk2:(k==2)=false:=by simp;omega
  have hk3:(k==3)=false:=by simp;omega
  by_cases h6:k=6
  · have hs:Zb k b t=⟨0,2,Zp k b,[]⟩:=by unfold Zb;rw[QMj h1,QMj h2,QMy h6]
    have b6:(k==6)=true:=by simp[h6]
    simp only[hk1,hk4,hk5,hk9,hk2,hk3,b6,QMC,QMM,QMk,QM0,eE,seval];refine Qb hn rfl rfl rfl (.inl rfl) ?_;simp only[hs,R.av,splice,QMC,QNc,QMF,QMM,QMr,QMs,QMk,QM0,eE,seval]
  have hk6:(k==6)=false:=by simp;omega
  by_cases h7:k=7∨k=8
  · have hs:Zb k b t=⟨0,3,0,t⟩:=by unfold Zb;rw[QMj h1,QMj h2,QMj h6,QMy h7]
    rcases h7 with rfl|rfl<;>simp only[hs,R.av,seval,splice,QMC,QNc,QMF,QMM,QMr,QMs,QMk,QM0,eE]<;>rfl
  have hk7:(k==7)=false:=by simp;omega
  have hk8:(k==8)=false:=by simp;omega
  have hs:Zb k b t=zr:=by unfold Zb;rw[QMj h1,QMj h2,QMj h6,QMj h7]
  simp only[hk1,hk4,hk5,hk9,hk2,hk3,hk6,hk7,hk8,hs,zr,R.av,splice,QMC,QNc,QMF,QMM,QMs,QMk,QM0,eE,seval]
  try rfl

end

end Go.Proofs.YtipjfckmopekaaaGreatDoor.Va

namespace Go.Proofs.YtipjfckmopekaaaGreatDoor.Va
open Go Am Rc Bt Vp

def bl (l:List UInt8):List AV:=l.map fun b=>.int .u8 (b.toNat:Int)
theorem Db (a b:List UInt8):bl (a++b)=bl a++bl b:=by simp[bl]
theorem Dc (a:List UInt8):(bl a).length=a.length:=by simp[bl]
theorem Yb (l:List UInt8):bytesOf (bl l)=some l:=by
 induction l with
 |nil=>rfl
 |cons b l ih=>
  show(bytesOf (bl l)).map _=_;rw[ih];simp

theorem QAx (u:Nat):(u:Int).fdiv (2 ^ min 7 64)=((u / 128:Nat):Int):=by
 rw[show min 7 64=7 from rfl,QN5 _ (show(0:Int)≤2 ^ 7 by decide)];omega

theorem QAy (u:Nat):bits .or .u8 (IntKind.u8.wrap (u:Int)) 128=((UInt8.ofNat (u % 128+128)).toNat:Int):=by
 rw[wu8];have h:∀n:Fin 256,bits .or .u8 ((n.val:Nat):Int) 128=((n.val % 128+128:Nat):Int):=by decide +kernel
 have:=h ⟨u % 256,by omega⟩;simp only at this;rw[show((u:Int) % 256)=((u % 256:Nat):Int)by omega,this,toNat_ofNat _ (by omega)];omega

theorem QJi (u:Nat)(h:u<128):IntKind.u8.wrap (u:Int)=((UInt8.ofNat u).toNat:Int):=by
 rw[wu8,toNat_ofNat _ (by omega)];omega

def QJj (u0:Nat)(k:Nat)(st:St):Prop :=
 ∃f fr u g j l,st=⟨f,[fr],[]⟩∧k=u∧f 0=.int .u64 (u:Nat)∧f 3=.vec 0 3 g 0 l.length false∧fr 3=.vec g 1 (bl l)∧u<FD (9-j)∧l.length+j=9∧l++Kj j u=Vp.put u0

theorem VA (u:Nat)(hu:u<18446744073709551616):Qp Tryz.prog 108 [.int .u64 u] (.str (Vp.put u)):=by
 refine Qa8.fn (by simp) ?_;simp only[Hu,seval];refine X4 rfl rfl ?_;simp only[Hu,seval];refine Qf (QJj u) u ⟨_,_,u,1,9,[],rfl,rfl,rfl,rfl,rfl,hu,rfl,rfl⟩ ?_;rintro n st ⟨f,fr,v,g,j,l,rfl,rfl,h0,h3,hv,hlt,hj,hl⟩;simp only[h0,Hu,seval];refine Xl (fun h=>?_) (fun h=>?_)
 ·have h:128≤n:=by(have h:(128:Int)≤n:=(by simpa using h));omega
  obtain⟨j,rfl⟩:∃i,j=i+1:=⟨j-1,by
   rcases QMT j with rfl|hp
   ·simp[FD]at hlt;omega
   ·omega⟩
  simp only[h0,h3,Hu,seval];refine GV rfl ?_;refine QR rfl hv rfl (Dc l).symm rfl rfl (by simp[maxLen];omega) (by simp;omega) ?_;simp only[h0,QAx,QAy,Hu,seval];refine⟨n / 128,by omega,_,_,n / 128,g+1,j,l++[UInt8.ofNat (n % 128+128)],rfl,rfl,rfl,?_,?_,?_,?_,?_⟩
  ·simp only[QMH,QMk,QM0,Hu,seval]
  ·simp only[QP,Db]<;>rfl
  ·have:=C9 (9-(j+1)) n (by omega) hlt
   rwa [show 9-(j+1)+1=9-j by omega]at this
  ·simp;omega
  ·rw[←hl,Pr j n (by omega)];simp
 ·have h:n<128:=by(have h:(n:Int)<128:=(by simpa using h));omega
  simp only[h0,h3,Hu,seval];refine GV rfl ?_;refine QR rfl hv rfl (Dc l).symm rfl rfl (by simp[maxLen];omega) (by simp;omega) ?_;have he:=Yu (m:=[]) (fr:=QI fr 3 (.vec (g+1) 1 (bl l++[.int .u8 ((UInt8.ofNat n).toNat:Int)]))) (site:=3) (g:=g+1) (sz:=1) (n:=l.length+(0+1)) (q:=false) rfl (by simp[bl]);have hb:bytesOf (bl l++[.int .u8 ((UInt8.ofNat n).toNat:Int)])=some (l++[UInt8.ofNat n]):=by
   have:=Yb (l++[UInt8.ofNat n])
   rwa [Db]at this
  simp only[QJi n h,he,hb,Hu,seval];rw[←hl,N4 j n h]

open Cp

theorem Qtl {a:Nat}(h:¬a=0):((a:Int) != 0)=true:=by simp[h]
def fx:Nat→Nat→List UInt8
 |0,_=>[]
 |k+1,u=>UInt8.ofNat (u % 256) :: fx k (u / 256)

theorem Ga (k u:Nat):(fx k u).length=k:=by
 induction k generalizing u with
 |zero=>rfl
 |succ k ih=>simp[fx,ih]

theorem ID (k u:Nat):fx (k+1) u=fx k u++[UInt8.ofNat (u / 256 ^ k % 256)]:=by
 induction k generalizing u with
 |zero=>simp[fx]
 |succ k ih=>
  rw[fx,ih (u / 256)];simp only[fx,QMr,Nat.div_div_eq_div_mul,Nat.pow_succ,Nat.mul_comm]

theorem Ba:∀(l:List UInt8),l.foldr (fun b v=>256*v+b.toNat) 0<256 ^ l.length
 | []=>by simp
 |b :: l=>by
  have h:=Ba l;have hb:=b.toNat_lt;rw[List.foldr_cons,QMk,Nat.pow_succ];omega

def hi8 (s:List UInt8)(i:Nat):Nat:=((s.take 8).drop i).foldr (fun b v=>256*v+b.toNat) 0

open Up

theorem Qtm (w:Int):Qp Tryz.prog 107 [.int .i64 w] (.bool (KQ w)):=by
 refine QaY.fn (by simp) ?_;simp only[Qa,seval]
 repeat' (first|(refine Xl (fun h=>?_) (fun h=>?_)<;>simp only[h,eE,seval])|(refine XV (fun h=>?_) (fun h=>?_)<;>simp only[h,Qn,eE,seval])|(refine XW (fun h=>?_) (fun h=>?_)<;>simp only[h,Qn,Qa,seval]))
 all_goals simp_all[KQ]

theorem MG {n w:Int}(h:¬(n<1∨65535<n∨w<0∨6<w)):IntKind.u64.wrap (IntKind.i64.wrap (IntKind.i64.wrap (n*8)+w))=((n*8+w).toNat:Nat)∧(n*8+w).toNat<18446744073709551616:=by
 simp only[Gx,QF];omega

theorem Qtn (n w:Int):Qp Tryz.prog 104 [.int .i64 n,.int .i64 w] (Vj (Jb n w)):=by
 refine QaM.fn (by simp) ?_;simp only[Qa,seval];by_cases hb:n<1∨65535<n∨w<0∨6<w
 ·repeat' (first|(refine Xl (fun h=>?_) (fun h=>?_)<;>simp only[h,Qa,seval])|(refine XV (fun h=>?_) (fun h=>?_)<;>simp only[h,Qn,eE,seval])|(refine XW (fun h=>?_) (fun h=>?_)<;>simp only[h,Qn,Qa,seval]))
  all_goals first
   |(rw[Jb,QMy hb]<;>rfl)
   |(exfalso;simp only[QNR]at *;omega)
 ·obtain⟨e1,e2⟩:=MG hb;have d1:decide (n<1)=false:=by simp;omega
  have d2:decide (65535<n)=false:=by simp;omega
  have d3:decide (w<0)=false:=by simp;omega
  have d4:decide (6<w)=false:=by simp;omega
  simp only[d1,d2,d3,d4,e1,Qa,seval];refine Qb (VA _ e2) rfl rfl rfl (.inl rfl) ?_;rw[Jb,QMj hb];simp only[Vj,Qa,seval]
  try rfl

theorem Yc (d:C):0≤d.left∧d.left≤(d.d.length:Int):=by
 have hr:=d.rest_len;have hs:=C.sound_iff d;split at hr
 ·rename_i h;have:=hs.1 h;omega
 ·omega

def sg:Nat→C→List R×Nat
 |0,_=>([],0)
 |k+1,c=>
  if 0<c.left then
   let r:=Wx c
   if r.2.2=0 then
    let t:=sg k r.2.1
    if t.2=0 then(r.1 :: t.1,0)else([],t.2)
   else([],r.2.2)
  else([],0)

def Qto (s:List UInt8)(l:L):List R×Nat :=
 let o:=opn s l
 if o.2=0 then sg s.length o.1 else([],o.2)

def Gb (l:List R):List AV:=l.map R.av
theorem IE (a:List R):(Gb a).length=a.length:=by simp[Gb]

theorem VB {c:C}(hl:c.d.length≤9223372036854775807)(h:c.fixed.2.2=0):c.sound=true∧8≤c.left∧c.fixed.2.1={ c with a:=c.a+8 }∧c.fixed.1<2 ^ 64:=by
 unfold C.fixed at h ⊢;split at h
 ·cases h
 ·rename_i hr;have hne:c.rest≠[]:=by intro e;rw[e]at hr;simp at hr
  have hs:=FG hne;have hs':=(C.sound_iff c).1 hs;have hle:=c.rest_len;rw[QMy hs]at hle;have h8:8≤c.left:=by unfold C.left;omega
  have hw:IntKind.i64.wrap (c.a+8)=c.a+8:=by rw[QF];omega
  refine⟨hs,h8,?_,?_⟩
  ·rw[QMj hr];simp only[C.ahead,hw]
  ·rw[QMj hr];have h1:=Ba (c.rest.take 8);rw[QM1,QNh (by omega)]at h1;have:(256:Nat) ^ 8=2 ^ 64:=by decide
   show Pw c.rest<2 ^ 64;unfold Pw;omega

structure Step (c d:C):Prop where
 n:∃k:Nat,d={ c with a:=c.a+k,nd:=d.nd }∧0<k∧(k:Int)≤c.left
 sound:c.sound=true

theorem Step.left {c d:C}(h:Step c d):d.sound=true∧d.left<c.left∧0≤d.left∧d.d=c.d∧d.left=c.left-(d.a-c.a):=by
 obtain⟨⟨k,h1,h2,h3⟩,h4⟩:=h;have hs:=(C.sound_iff c).1 h4;have hc:=c.rest_len;rw[QMy h4]at hc;have e1:d.a=c.a+k:=by rw[h1]
 have e2:d.e=c.e:=by rw[h1]
 have e3:d.d=c.d:=by rw[h1]
 have hd:d.sound=true:=by
  rw[C.sound_iff,e1,e2,e3];omega
 have hdl:=d.rest_len;rw[QMy hd]at hdl;exact⟨hd,by omega,by omega,e3,by omega⟩

theorem Bb {c:C}(hl:c.d.length≤9223372036854770000)(h:(Wx c).2.2=0):Step c (Wx c).2.1:=by
 unfold Wx at h ⊢;simp only at h ⊢;split at h
 ·rename_i ht;split at h
  ·rename_i hs;split at h
   ·rename_i hk;rw[QMy ht,QMy hs,QMy hk]
    -- the Jb
    unfold B6 at ht hs hk ⊢;simp only at ht hs hk ⊢;split at ht
    ·rename_i hv;rw[QMy hv]at hs hk ⊢;split at ht
     ·cases ht
     ·rename_i h7;rw[QMj h7]at hs hk ⊢;split at ht
      ·cases ht
      ·rename_i h8;rw[QMj h8]at hs hk ⊢;simp only at hs hk ⊢;obtain⟨n,g1,g2,g3,g4,g5,g6,g7⟩:=Wo (c:=c) (by omega) hv;rw[g4]at hs hk ⊢;have hsc:=(C.sound_iff c).1 g5;have hcl:=c.rest_len;rw[QMy g5]at hcl
       -- the value Du
       unfold C.spend at hs hk ⊢;split at hs
       ·cases hs
       ·rename_i s1;rw[QMj s1]at hk ⊢;split at hs
        ·cases hs
        ·rename_i s2;rw[QMj s2]at hk ⊢;simp only at hk ⊢;generalize hd:({ d:=c.d,a:=c.a+n,e:=c.e,dp:=c.dp,nd:=IntKind.i64.wrap (c.nd-1),tx:=c.tx }:C)=d at hk ⊢;have q1:d.d=c.d:=by rw[←hd]
         have q2:d.a=c.a+n:=by rw[←hd]
         have q3:d.e=c.e:=by rw[←hd]
         have q4:d.dp=c.dp:=by rw[←hd]
         have q5:d.tx=c.tx:=by rw[←hd]
         have hdl:d.left≤c.left-n:=by
          have:=d.rest_len;split at this
          ·omega
          ·omega
         have mk:∀(d':C) (j:Nat),d'={ d with a:=d.a+j }→(j:Int)≤d.left→Step c d':=by
          intro d' j e hj;refine⟨⟨n+j,?_,by omega,by omega⟩,g5⟩;rw[e];obtain⟨_,_,_,_,_,_⟩:=d;simp only at q1 q2 q3 q4 q5;subst q1 q2 q3 q4 q5;simp only[C.mk.injEq,QMV,and_true];omega
         -- the contents
         unfold Qsg at hk ⊢;split at hk
         ·rename_i w2;rw[QMy w2];obtain⟨f1,f2,f3,f4⟩:=VB (c:=d) (by rw[q1];omega) hk;exact mk _ 8 f3 f2
         ·rename_i w2;rw[QMj w2];split at hk
          ·rename_i w1;rw[QMy w1];obtain⟨j,f1,f2,f3,f4,f5,f6,f7⟩:=Wo (c:=d) (by rw[q1];omega) hk;exact mk _ j f4 f3
          ·rename_i w1;rw[QMj w1];simp only at hk ⊢;unfold FF at hk ⊢;simp only at hk ⊢;split at hk
           ·rename_i hv2;rw[QMy hv2];by_cases hu:d.varint.2.1.left<(d.varint.1:Int)
            ·rw[QMy hu]at hk;cases hk
            ·rw[QMj hu]at hk ⊢;by_cases hm:(if ((c.varint.1 % 8:Nat):Int)=3 then d.tx else 65536)<(d.varint.1:Int)
             ·rw[QMy hm]at hk;cases hk
             ·rw[QMj hm];obtain⟨j,f1,f2,f3,f4,f5,f6,f7⟩:=Wo (c:=d) (by rw[q1];omega) hv2;have hs2:=(C.sound_iff d).1 f5;have hl2:=d.rest_len;rw[QMy f5]at hl2;have hl3:=d.varint.2.1.rest_len;rw[QMy f6,f4]at hl3;rw[f4]at hu;simp only at hl3;have hdl':(d.d.length:Int)=c.d.length:=by rw[q1]
              have hw:IntKind.i64.wrap (d.a+(j:Int)+(d.varint.1:Int))=d.a+j+d.varint.1:=by
               rw[QF];omega
              refine mk _ (j+d.varint.1) ?_ (by omega);rw[f4];simp only[C.ahead,hw,C.mk.injEq,QMV,and_true];omega
           ·rename_i hv2;exact absurd hk hv2
    ·rename_i hv;exact absurd ht hv
   ·rename_i hk;exact absurd h hk
  ·rename_i hs;exact absurd h hs
 ·rename_i ht;exact absurd h ht

structure ScanS (s:List UInt8)(l:L)(c:C)(acc:List R):Prop where
 len:c.d.length=s.length
 all:Qto s l=(if (sg c.left.toNat c).2=0 then(acc++(sg c.left.toNat c).1,0)else([],(sg c.left.toNat c).2))
 acc:(acc.length:Int)+c.left≤s.length

theorem GK:∀(k:Nat) (c:C),c.d.length≤9223372036854770000→c.left≤k→sg k c=sg c.left.toNat c
 |0,c,hl,h=>by
  have:=(Yc c).1;rw[show c.left.toNat=0 by omega]
 |k+1,c,hl,h=>by
  have hlb:=Yc c;by_cases h0:0<c.left
  ·obtain⟨j,hj⟩:∃j,c.left.toNat=j+1:=⟨c.left.toNat-1,by omega⟩;rw[hj,sg,sg,QMy h0,QMy h0];by_cases hn:(Wx c).2.2=0
   ·obtain⟨_,s2,s3,s4,_⟩:=(Bb hl hn).left;simp only[hn,if_true];have hl':(Wx c).2.1.d.length≤9223372036854770000:=by rw[s4];exact hl
    rw[GK k _ hl' (by omega),GK j _ hl' (by omega)]
   ·simp only[hn,if_false]
  ·have e:c.left.toNat=0:=by omega
   rw[e];simp only[sg,h0,if_false]

theorem ScanS.done {s:List UInt8}{l:L}{c:C}{acc:List R}(h:ScanS s l c acc)(h0:¬0<c.left):Qto s l=(acc,0):=by
 have:=h.all;have hb:=(Yc c).1;rw[show c.left.toNat=0 by omega]at this
 simpa [sg]using this

theorem ScanS.step {s:List UInt8}{l:L}{c:C}{acc:List R}(hl:s.length≤9223372036854770000)(h:ScanS s l c acc)(h0:0<c.left)(hn:(Wx c).2.2=0):ScanS s l (Wx c).2.1 (acc++[(Wx c).1])∧(Wx c).2.1.left<c.left∧0≤(Wx c).2.1.left:=by
 have hcl:c.d.length≤9223372036854770000:=by rw[h.len];exact hl
 obtain⟨_,s2,s3,s4,_⟩:=(Bb hcl hn).left;refine⟨⟨by rw[s4];exact h.len,?_,?_⟩,s2,s3⟩
 ·have:=h.all;obtain⟨j,hj⟩:∃j,c.left.toNat=j+1:=⟨c.left.toNat-1,by omega⟩;rw[hj,sg]at this;simp only[h0,hn,if_true]at this;rw[GK j _ (by rw[s4];exact hcl) (by omega)]at this;rw[this];by_cases hs:(sg (Wx c).2.1.left.toNat (Wx c).2.1).2=0
  ·simp[hs]
  ·simp[hs]
 ·have:=h.acc;simp;omega

end Go.Proofs.YtipjfckmopekaaaGreatDoor.Va

namespace Go.Proofs.YtipjfckmopekaaaGreatDoor.Va
open Go Am Rc Bt Vp Cp

def Qtp (u:Nat)(k:Nat)(st:St):Prop :=
 ∃f fr i,st=⟨f,[fr],[]⟩∧k=8-i∧i≤8∧f 0=.int .u64 (u:Nat)∧f 3=.vec 0 5 1 0 8 false∧f 7=.int .i64 8∧f 8=.int .i64 (i:Nat)∧fr 5=.vec 1 1 (Qy (fx i u)++List.replicate (8-i) (AV.int .u8 0))

theorem IF (u i:Nat)(hi:i<8):IntKind.u8.wrap ((u:Int).fdiv (2 ^ min (8*i) 64))=((UInt8.ofNat (u / 256 ^ i % 256)).toNat:Int):=by
 have hp:(256:Nat) ^ i=2 ^ (8*i):=by rw[Nat.pow_mul]
 rw[QNh (by omega),QN5 _ (Int.le_of_lt (Int.pow_pos (by decide))),toNat_ofNat _ (Nat.mod_lt _ (by decide)),hp,wu8];have:(u:Int) / 2 ^ (8*i)=((u / 2 ^ (8*i):Nat):Int):=by push_cast;rfl
 rw[this];omega

theorem Qtq (u:Nat):Qp Tryz.prog 106 [.int .u64 u] (.str (fx 8 u)):=by
 refine QDe.fn (by simp) ?_;simp only[Qa,seval];refine YX (n:=8) (k:=8) rfl rfl (QL3 _) (by decide) (by decide) rfl ?_;simp only[eE,seval];refine Qf (Qtp u) 8 ?_ ?_
 ·exact⟨_,_,0,rfl,rfl,by omega,rfl,rfl,rfl,rfl,rfl⟩
 rintro n st ⟨f,fr,i,rfl,rfl,hi,h0,h3,h7,h8,m5⟩;simp only[h7,h8,Qa,seval];have hlen:(Qy (fx i u)).length=i:=by simp[Qy,Ga]
 by_cases hlt:i<8
 ·have d0:decide ((i:Int)<8)=true:=by simp;omega
  have e0:IntKind.i64.wrap (8*(i:Int))=((8*i:Nat):Int):=by rw[QF];omega
  have n0:(0≤((8*i:Nat):Int))=True:=eq_true (by omega);have n1:(0≤(i:Int))=True:=by simp
  have n2:(i<8)=True:=eq_true hlt;have e1:IntKind.i64.wrap ((i:Int)+1)=((i+1:Nat):Int):=by rw[QF];omega
  have hb:=IF u i hlt;obtain⟨j,hj⟩:∃j,8-i=j+1:=⟨7-i,by omega⟩;have hget:(Qy (fx i u)++List.replicate (8-i) (AV.int .u8 0))[0+i]? = some (.int .u8 0):=by
   rw[QML,QNs (by omega),hlen,Nat.sub_self,hj];rfl
  have hset:(Qy (fx i u)++List.replicate (8-i) (AV.int .u8 0)).set (0+i) (AV.int .u8 ((UInt8.ofNat (u / 256 ^ i % 256)).toNat:Int))=Qy (fx (i+1) u)++List.replicate (8-(i+1)) (AV.int .u8 0):=by
   rw[QML,ID,List.set_append_right _ _ (by omega),hlen,Nat.sub_self,hj,show 8-(i+1)=j by omega];simp[Qy,List.replicate_succ]
  simp only[d0,e0,n0,n1,n2,e1,hb,QNt,Qd,hget,Zq,AV.rfL,AV.rf,hset,h0,h3,h8,m5,eE,seval];exact⟨8-(i+1),by omega,_,_,i+1,rfl,rfl,by omega,by simp only[h0,Qa,seval],by simp only[h3,Qa,seval],by simp only[h7,Qa,seval],by simp only[Qa,seval],by simp only[Qa,seval]⟩
 ·have hi8:i=8:=by omega
  subst hi8;have d0:decide (((8:Nat):Int)<8)=false:=rfl;rw[Nat.sub_self,List.replicate_zero,QM7]at m5;have he:=Yu (m:=[]) (fr:=fr) (site:=5) (g:=1) (sz:=1) (n:=8) (q:=false) m5 (by simp[Qy,Ga]);have hbo:bytesOf (Qy (fx 8 u))=some (fx 8 u):=Yb _;simp only[he,hbo,h3,Qa,seval]

open Up

def valid (f:R):Bool:=(Jb f.num f.wire).2==0&&(if KQ f.wire then f.data==[]else f.bits==0)

theorem IG (n:Nat):(((n:Nat):Int)==0)=(n==0):=by
 by_cases h:n=0
 ·subst h;rfl
 ·rw[QNI.2 h,QNI.2 (by omega)]

theorem QJk (f:R):Qp Tryz.prog 103 [f.av] (.bool (valid f)):=by
 refine QaF.fn (by simp) ?_;simp only[R.av,eE,seval];refine Qb (Qtn f.num f.wire) rfl rfl rfl (.inl rfl) ?_;unfold valid;generalize Jb f.num f.wire=t;obtain⟨s,e⟩:=t;simp only[Vj,Qa,seval];by_cases he:e=0
 ·subst he;simp only[eE,seval];refine Qb (Qtm f.wire) rfl rfl rfl (.inl rfl) ?_;cases hn:KQ f.wire with
  |true=>
   simp only[QN,beq_self_eq_true,eE,seval]
  |false=>
   simp only[IG,beq_self_eq_true,eE,seval]
 ·simp only[Qtl he,Qa,seval];simp[he]

theorem QJl (p v:AV)(h fr:Nat→Ob)(m:Ql)(hs:fr 2128=.cells [p,v])(hp:p=.nilp∨p=.ptr 0 2128 0) :
  Qh Tryz.prog 189 [.ptr 1 2128 0] (h :: fr :: m) fun x m1=>x=.tup []∧m1=h :: QI fr 2128 (.cells [.ptr 0 2128 0,v]) :: m:=by
 refine QfN.go (by simp) ?_;rcases hp with rfl|rfl
 ·simp only[hs,RR.evL,eE,seval]
 ·simp only[hs,RR.evL,Tl _ _ _ hs,eE,seval]

structure Bld (fr:Nat→Ob)(bs:List UInt8):Prop where
 mk ::
 cell:∃p g,fr 2128=.cells [p,.vec 0 2005 g 0 bs.length false]∧fr 2005=.vec g 1 (Qy bs)∧(p=.nilp∨p=.ptr 0 2128 0)

def JM (fr:Nat→Ob)(g:Nat)(bs:List UInt8):Nat→Ob :=
 QI (QI fr 2005 (.vec g 1 (Qy bs))) 2128 (.cells [.ptr 0 2128 0,.vec 0 2005 g 0 bs.length false])

theorem Ke (fr:Nat→Ob)(g:Nat)(bs:List UInt8):Bld (JM fr g bs) bs :=
 ⟨_,g,by rw[JM,QP],by rw[JM,QO _ _ (by decide),QP],.inr rfl⟩

theorem KX {fr:Nat→Ob}{g:Nat}{bs:List UInt8}{s:Nat}(h1:s≠2005)(h2:s≠2128):JM fr g bs s=fr s:=by
 rw[JM,QO _ _ h2,QO _ _ h1]

theorem Bc (bs t:List UInt8)(fr:Nat→Ob)(m:Ql)(h:Bld fr bs)(hl:bs.length+t.length≤140737488355328) :
  ∃g,Qh Tryz.prog 105 [.ptr 0 2128 0,.str t] (fr :: m) fun x m1=>x=.tup [.int .i64 (t.length:Int),.nili]∧m1=JM fr g (bs++t) :: m:=by
 obtain⟨p,g,h1,h2,h3⟩:=h.cell;refine⟨g+1,?_⟩;refine QaT.go (by simp) ?_;simp only[Qa,seval];refine Qi (QJl p _ _ fr m h1 h3) rfl ?_;simp only[h1,eE,seval];refine Yv (xs:=Qy bs) rfl (by simp only[h2,eE,seval]) rfl (by simp[Qy]) rfl hl ?_;have hb:Qy bs++Qy t=Qy (bs++t):=by simp[Qy]
 have hn:bs.length+t.length=(bs++t).length:=by simp
 simp only[h1,hb,hn,eE,seval];rw[DW _ _ _ _ _ (by decide),Gq,DW _ _ _ _ _ (by decide),JM]

def Du (fr:Nat→Ob)(bs:List UInt8):Nat→Ob :=
 if bs.length=0 then fr else match fr 2005 with
  |.vec g _ _=>QI fr 2005 (.vec (g+1) 1 [])
  |_=>fr

theorem QJm (bs:List UInt8)(fr:Nat→Ob)(m:Ql)(h:Bld fr bs)(hl:bs.length≤140737488355328) :
  Qh Tryz.prog 109 [.ptr 0 2128 0] (fr :: m) fun x m1=>x=.str bs∧m1=Du fr bs :: m:=by
 obtain⟨p,g,h1,h2,h3⟩:=h.cell;refine Qbd.go (by simp) ?_;simp only[h1,eE,seval];refine⟨1,2005,g,bs.length,1,Qy bs,by decide,rfl,h2,?_⟩;by_cases h0:bs.length=0
 ·have hb:bs=[]:=QM8 h0;subst hb;simp only[Qn,h1,h2,QM0,Int.natCast_zero,eE,seval];refine .inl ⟨rfl,rfl,?_⟩;simp only[Qn,Du,QM0,Qa,seval]
 ·simp only[h0,Qn,h1,h2,eE,seval];refine .inr ⟨1,g,bs.length,Qy bs,bs,rfl,rfl,h2,by simp[Qy],h0,QMD (by simp[Qy]),?_⟩;simp only[h0,Qn,h2,Du,eE,seval]

def body (f:R):List UInt8:=if f.wire=2 then fx 8 f.bits else if KQ f.wire then Vp.put f.bits else Vp.put f.data.length++f.data
def Gc (f:R):List UInt8:=if valid f then(Jb f.num f.wire).1++body f else []
def Xi (l:List R):List UInt8:=l.flatMap Gc

theorem Bld.drop {fr:Nat→Ob}{bs:List UInt8}(h:Bld fr bs):Bld (QI (fun i=>(fr i).scrub 5) 5 .none) bs:=by
 obtain⟨p,g,h1,h2,h3⟩:=h.cell;refine⟨p,g,?_,?_,h3⟩
 ·rw[QO _ _ (by decide),h1];rcases h3 with rfl|rfl<;>rfl
 ·rw[QO _ _ (by decide),h2];rfl

theorem Bld.put {fr:Nat→Ob}{bs:List UInt8}(h:Bld fr bs)(o:Ob):Bld (QI fr 5 o) bs:=by
 obtain⟨p,g,h1,h2,h3⟩:=h.cell;exact⟨p,g,by rw[QO _ _ (by decide)];exact h1,by rw[QO _ _ (by decide)];exact h2,h3⟩

def S8 (l:List R)(k:Nat)(st:St):Prop :=
 ∃f fr i,st=⟨f,[fr],[]⟩∧k=l.length-i∧i≤l.length∧f 3=.ptr 0 2128 0∧f 8=.list (Gb l)∧f 9=.int .i64 (l.length:Int)∧f 10=.int .i64 (i:Nat)∧(fr 5).isRow=false∧Bld fr (Xi (l.take i))

theorem Dd (l:List R)(i:Nat)(fd:R)(h:l[i]? = some fd):Xi (l.take (i+1))=Xi (l.take i)++Gc fd:=by
 obtain⟨hi,e⟩:=QL5.1 h;rw[QMp hi,e];simp[Xi]

theorem IH (l:List R)(i:Nat)(fd:R)(h:l[i]? = some fd):(Xi (l.take i)).length+(Gc fd).length≤(Xi l).length:=by
 have e:Xi l=Xi (l.take (i+1))++Xi (l.drop (i+1)):=by
  unfold Xi;rw[←List.flatMap_append,QNi]
 rw[e,Dd l i fd h];simp

theorem c58 (l:List R)(hb:∀fd∈l,fd.bits<18446744073709551616∧fd.data.length<9223372036854775807)(hn:l.length<9223372036854775807)(hl:(Xi l).length≤140737488355328):Qp Tryz.prog 58 [.list (Gb l)] (.str (Xi l)):=by
 refine k58.fn (by simp) ?_;simp only[eE,seval];refine WS rfl rfl rfl rfl ?_;simp only[IE,Qa,seval];refine Qf (S8 l) _ ⟨_,_,0,rfl,rfl,QMd _,rfl,rfl,rfl,rfl,rfl,?_⟩ ?_
 ·exact⟨.nilp,1,rfl,rfl,.inl rfl⟩
 rintro n st ⟨f,fr,i,rfl,rfl,hi,h3,h8,h9,h10,m5,hB⟩;simp only[h9,h10,m5,Qa,seval];by_cases hlt:i<l.length
 ·obtain⟨fd,hfd⟩:∃fd,l[i]? = some fd:=⟨l[i],QL6 hlt⟩;have hmem:=QMi hfd;obtain⟨hb1,hb2⟩:=hb fd hmem;have hfa:(Gb l)[i]? = some fd.av:=by simp[Gb,hfd]
  have hps:=Dd l i fd hfd;have hple:=IH l i fd hfd;have d0:decide ((i:Int)<(l.length:Int))=true:=by simp;omega
  have n0:(0≤(i:Int))=True:=by simp
  have e1:IntKind.i64.wrap ((i:Int)+1)=((i+1:Nat):Int):=by rw[QF];omega
  -- how a round ends
  have fin:∀(f':Fr) (fr':Nat→Ob) (bs':List UInt8),f' 3=.ptr 0 2128 0→f' 8=.list (Gb l)→f' 9=.int .i64 (l.length:Int)→f' 10=.int .i64 (((i+1:Nat):Nat):Int)→(fr' 5).isRow=false→Bld fr' bs'→bs'=Xi (l.take i)++Gc fd→∃k,k<l.length-i∧S8 l k ⟨f',[fr'],[]⟩:=by
   intro f' fr' bs' g1 g2 g3 g4 g5 g6 g7;exact⟨l.length-(i+1),by omega,f',fr',i+1,rfl,rfl,by omega,g1,g2,g3,g4,g5,by rw[hps,←g7];exact g6⟩
  have hB1:=(hB.drop).put (.cells [.int .i64 fd.num,.int .i64 fd.wire,.int .u64 (fd.bits:Nat),.str fd.data]);rw[Gq]at hB1;simp only[d0,n0,QNt,Qd,hfa,R.av,h8,h10,eE,seval];refine Qb (QJk fd) rfl rfl rfl (.inl rfl) ?_;cases hv:valid fd with
  |false=>
   simp only[e1,h10,Qa,seval];refine fin _ _ _ ?_ ?_ ?_ ?_ ?_ hB1 ?_
   ·simp only[h3,Qa,seval]
   ·simp only[h8,Qa,seval]
   ·simp only[h9,Qa,seval]
   ·simp only[Qa,seval]
   ·simp only[Qa,seval]
   ·simp[Gc,hv]
  |true=>
   simp only[eE,seval];refine Qb (Qtn fd.num fd.wire) rfl rfl rfl (.inl rfl) ?_;simp only[Vj,Qa,seval];have hp:Gc fd=(Jb fd.num fd.wire).1++body fd:=by simp[Gc,hv]
   have hpl:=congrArg List.length hp;rw[QMH]at hpl;have hbl:∀x:Nat,x≤(body fd).length→(Xi (l.take i)).length+(Jb fd.num fd.wire).1.length+x≤140737488355328:=by intro x hx;omega
   have hbody:body fd=if fd.wire=2 then fx 8 fd.bits else if KQ fd.wire then Vp.put fd.bits else Vp.put fd.data.length++fd.data:=rfl
   obtain⟨g1,hw1⟩:=Bc (Xi (l.take i)) (Jb fd.num fd.wire).1 _ [] hB1 (by have:=hbl 0 (by omega);omega);refine Qi hw1 (by simp only[QMB,h3,Qa,seval]) ?_;have B2:=Ke (QI (fun i=>(fr i).scrub 5) 5 (.cells [.int .i64 fd.num,.int .i64 fd.wire,.int .u64 (fd.bits:Nat),.str fd.data])) g1 (Xi (l.take i)++(Jb fd.num fd.wire).1);have w5:JM (QI (fun i=>(fr i).scrub 5) 5 (.cells [.int .i64 fd.num,.int .i64 fd.wire,.int .u64 (fd.bits:Nat),.str fd.data])) g1 (Xi (l.take i)++(Jb fd.num fd.wire).1) 5=.cells [.int .i64 fd.num,.int .i64 fd.wire,.int .u64 (fd.bits:Nat),.str fd.data]:=by
    rw[KX (by decide) (by decide),QP]
   have hlen2:(Xi (l.take i)++(Jb fd.num fd.wire).1).length=(Xi (l.take i)).length+(Jb fd.num fd.wire).1.length:=by simp
   generalize hfr2:JM (QI (fun i=>(fr i).scrub 5) 5 (.cells [.int .i64 fd.num,.int .i64 fd.wire,.int .u64 (fd.bits:Nat),.str fd.data])) g1 (Xi (l.take i)++(Jb fd.num fd.wire).1)=fr2 at B2 w5;simp only[w5,eE,seval];by_cases w2:fd.wire=2
   ·have dw:(fd.wire==2)=true:=by simpa using w2
    have hbo:body fd=fx 8 fd.bits:=by rw[hbody,QMy w2]
    simp only[dw,w5,eE,seval];refine Qb (Qtq fd.bits) rfl rfl rfl (.inl rfl) ?_;obtain⟨g2,hw2⟩:=Bc _ (fx 8 fd.bits) _ [] B2 (by rw[hlen2];exact hbl _ (by rw[hbo];exact QL3 _));refine Qi hw2 (by simp only[QMB,h3,Qa,seval]) ?_;simp only[e1,h10,Qa,seval];refine fin _ _ _ ?_ ?_ ?_ ?_ ?_ (Ke _ _ _) ?_
    ·simp only[h3,Qa,seval]
    ·simp only[h8,Qa,seval]
    ·simp only[h9,Qa,seval]
    ·simp only[Qa,seval]
    ·rw[KX (by decide) (by decide),w5]<;>rfl
    ·rw[hp,hbo,QMq]
   ·have dw:(fd.wire==2)=false:=by simpa using w2
    simp only[dw,w5,eE,seval];refine Qb (Qtm fd.wire) rfl rfl rfl (.inl rfl) ?_;cases hnu:KQ fd.wire with
    |true=>
     have hbo:body fd=Vp.put fd.bits:=by rw[hbody,QMj w2,QMy hnu]
     simp only[w5,eE,seval];refine Qb (VA fd.bits hb1) rfl rfl rfl (.inl rfl) ?_;obtain⟨g2,hw2⟩:=Bc _ (Vp.put fd.bits) _ [] B2 (by rw[hlen2];exact hbl _ (by rw[hbo];exact QL3 _));refine Qi hw2 (by simp only[QMB,h3,Qa,seval]) ?_;simp only[e1,h10,Qa,seval];refine fin _ _ _ ?_ ?_ ?_ ?_ ?_ (Ke _ _ _) ?_
     ·simp only[h3,Qa,seval]
     ·simp only[h8,Qa,seval]
     ·simp only[h9,Qa,seval]
     ·simp only[Qa,seval]
     ·rw[KX (by decide) (by decide),w5]<;>rfl
     ·rw[hp,hbo,QMq]
    |false=>
     have hbo:body fd=Vp.put fd.data.length++fd.data:=by rw[hbody,QMj w2,QMj (by rw[hnu];simp)]
     have hbn:=congrArg List.length hbo;rw[QMH]at hbn;have eu:IntKind.u64.wrap (fd.data.length:Int)=(fd.data.length:Nat):=by rw[Gx];omega
     simp only[eu,w5,eE,seval];refine Qb (VA fd.data.length (by omega)) rfl rfl rfl (.inl rfl) ?_;obtain⟨g2,hw2⟩:=Bc _ (Vp.put fd.data.length) _ [] B2 (by rw[hlen2];exact hbl _ (by omega));refine Qi hw2 (by simp only[QMB,h3,Qa,seval]) ?_;have B3:=Ke fr2 g2 (Xi (l.take i)++(Jb fd.num fd.wire).1++Vp.put fd.data.length);have w6:JM fr2 g2 (Xi (l.take i)++(Jb fd.num fd.wire).1++Vp.put fd.data.length) 5=.cells [.int .i64 fd.num,.int .i64 fd.wire,.int .u64 (fd.bits:Nat),.str fd.data]:=by
      rw[KX (by decide) (by decide),w5]
     have hlen3:(Xi (l.take i)++(Jb fd.num fd.wire).1++Vp.put fd.data.length).length=(Xi (l.take i)).length+(Jb fd.num fd.wire).1.length+(Vp.put fd.data.length).length:=by simp;omega
     generalize hfr3:JM fr2 g2 (Xi (l.take i)++(Jb fd.num fd.wire).1++Vp.put fd.data.length)=fr3 at B3 w6;simp only[w6,eE,seval];obtain⟨g3,hw3⟩:=Bc _ fd.data _ [] B3 (by rw[hlen3];have:=hbl (body fd).length (QL3 _);omega);refine Qi hw3 (by simp only[QMB,h3,Qa,seval]) ?_;simp only[e1,h10,Qa,seval];refine fin _ _ _ ?_ ?_ ?_ ?_ ?_ (Ke _ _ _) ?_
     ·simp only[h3,Qa,seval]
     ·simp only[h8,Qa,seval]
     ·simp only[h9,Qa,seval]
     ·simp only[Qa,seval]
     ·rw[KX (by decide) (by decide),w6]<;>rfl
     ·rw[hp,hbo,QMq,QMq]
 ·have d0:decide ((i:Int)<(l.length:Int))=false:=by simp;omega
  have hil:i=l.length:=by omega
  subst hil;rw[QNB]at hB;simp only[d0,Qa,seval];refine Qi (QJm (Xi l) _ [] hB.drop hl) (by simp only[QMB,h3,Qa,seval]) ?_;simp only[Qa,seval]

end Go.Proofs.YtipjfckmopekaaaGreatDoor.Va

namespace Go.Proofs.YtipjfckmopekaaaGreatDoor.Va
open Go Am Rc Bt Br Up So

def Jv (n:Int)(x:V):R:={ Zb x.kd x.bits x.text with num:=n }
section
variable (bd:Int→V→List UInt8)
def Xu (o:PO)(n:Int)(x:V):R:=if o.kind=10 then⟨n,4,0,bd o.target x⟩else Jv n x
def J3 (o:PO)(p:V×V):R:=⟨o.num,6,0,Xi [Jv 1 p.1,Xu bd o 2 p.2]⟩
def Bd (w:Int)(b:Nat):List UInt8:=if w=2 then fx 8 b else Vp.put b
def Ge (w:Int)(x:V):List UInt8:=Bd w (Zb x.kd x.bits x.text).bits
def Be (o:PO)(l:List V):R:=⟨o.num,5,0,UInt8.ofNat (wk o.kind).toNat :: l.flatMap (Ge (wk o.kind))⟩
def Gf (o:PO)(x:V):List R :=
 if o.card=5 then x.pairs.map (J3 bd o)
 else if pk o.card o.kind=true then [Be o x.list]
 else if o.card=4 then x.list.map (Xu bd o o.num)
 else [Xu bd o o.num x]
def Gg (g:PG)(s:Int×V):List R:=match XZ g s.1 with
 |none=>[]
 |some o=>Gf bd o s.2
def Zc (g:PG):List (Int×V)→List R→List R
 | [],rs=>rs
 |s :: sl,rs=>rs.takeWhile (fun r=>decide (r.num<s.1))++Gg bd g s++Zc g sl (rs.dropWhile fun r=>decide (r.num<s.1))
end
def Jl (P:PL):Nat→Int→V→List UInt8
 |0,_,_=>[]
 |n+1,t,v=>Xi (Zc (Jl P n) (Xb P t) (Zu P (n+1) (Xb P t) v).slots (Zu P (n+1) (Xb P t) v).raws)

theorem Qtr (n w:Int):(Jb n w).1.length≤10:=by
 unfold Jb;split
 ·exact QMd _
 ·exact(Vp.put_len _).2
theorem Qts (f:R):(Gc f).length≤20+f.data.length:=by
 unfold Gc;split
 ·have h1:=Qtr f.num f.wire;have h2:(body f).length≤10+f.data.length:=by
   unfold body;split
   ·rw[Ga];omega
   ·split
    ·have:=(Vp.put_len f.bits).2;omega
    ·have:=(Vp.put_len f.data.length).2;rw[QMH];omega
  rw[QMH];omega
 ·exact QMd _
def Zy (l:List R):Nat:=(l.map fun f=>20+f.data.length).sum
theorem Yd:∀l:List R,(Xi l).length≤Zy l
 | []=>QL3 _
 |f :: l=>by
  have h1:=Qts f;have h2:=Yd l;unfold Xi Zy at h2 ⊢;rw[QNv,QMH,QMB,QN2];omega
theorem Nl (a b:List R):Zy (a++b)=Zy a+Zy b:=by
 unfold Zy;rw[QNJ,List.sum_append]
theorem Nm (f:R):Zy [f]=20+f.data.length:=by simp[Zy]
theorem Nn {P:PL}{k tg:Int}{v:V}(h:v.one P k tg=0):v.text.length≤4096:=by
 unfold V.one YE at h;split at h
 ·omega
 split at h
 ·omega
 rename_i h1 h2;simp only[QMa]at h2;omega
theorem MH (k:Int)(b:Nat)(t:List UInt8):(Zb k b t).data.length≤t.length:=by
 unfold Zb zr
 repeat' split
 all_goals first|exact QMd _|exact QL3 _
theorem Bf (n:Int)(v:V):(Jv n v).data.length≤v.text.length:=MH _ _ _

section
variable {P:PL}{m:PG→V→Int}{bd:Int→V→List UInt8}
variable (hbd:∀(t:Int) (v:V),(0≤t∧t<(P.progs.length:Int))→m (Xb P t) v=0→(bd t v).length+70000≤70000*v.cnt)
include hbd
theorem GL {o:PO}(ho:UO P o){n:Int}{x:V}(h:QT m P o x=0):(Xu bd o n x).data.length+5000≤70000*x.cnt:=by
 have hc:=J2 x;unfold QT at h;unfold Xu;split
 ·rename_i hk;rw[QMy hk]at h;have:=hbd _ _ (ho.tgt hk) h;dsimp only;omega
 ·rename_i hk;rw[QMj hk]at h;have h1:=Nn h;have h2:=Bf n x;omega
theorem No {o:PO}(ho:UO P o){p:V×V}(h1:p.1.one P o.key (-1)=0)(h2:QT m P o p.2=0):20+Zy [Jv 1 p.1,Xu bd o 2 p.2]≤70000*(p.1.cnt+p.2.cnt):=by
 have h3:=GL hbd ho (n:=2) h2;have h4:=Nn h1;have h5:=Bf 1 p.1;have hc:=J2 p.1;have e:Zy [Jv 1 p.1,Xu bd o 2 p.2]=(20+(Jv 1 p.1).data.length)+(20+(Xu bd o 2 p.2).data.length):=by simp[Zy]
 omega
theorem PZ {o:PO}(ho:UO P o){p:V×V}(h1:p.1.one P o.key (-1)=0)(h2:QT m P o p.2=0):20+(J3 bd o p).data.length≤70000*(p.1.cnt+p.2.cnt):=by
 have h3:=No hbd ho h1 h2;have h6:=Yd [Jv 1 p.1,Xu bd o 2 p.2];unfold J3;dsimp only;omega
omit hbd in
theorem Np (w:Int)(x:V):(Ge w x).length≤10:=by
 unfold Ge Bd;split
 ·rw[Ga];omega
 ·exact(Vp.put_len _).2
omit hbd in
theorem GM (w:Int):∀l:List V,(l.flatMap (Ge w)).length≤10*l.length
 | []=>QL3 _
 |x :: l=>by
  have h1:=Np w x;have h2:=GM w l;rw[QNv,QMH,QMk];omega
theorem II {o:PO}(ho:UO P o){x:V}(h:XB m P o x=0):Zy (Gf bd o x)≤70000*x.cnt:=by
 have hc:=Xg x;have hp:=J2 x;unfold XB at h;unfold Gf;by_cases h5:o.card=5
 ·rw[QMy h5]at h;rw[QMy h5];split at h
  ·omega
  have hE:=(WD.1 h).1;have key:∀l:List (V×V),(∀p∈l,p.1.one P o.key (-1)=0∧QT m P o p.2=0)→Zy (l.map (J3 bd o))≤70000*Xt l:=by
   intro l
   induction l with
   |nil=>intro _;exact QMd _
   |cons p l ih=>
    intro hl;have i1:=ih fun q hq=>hl q (by simp[hq])
    obtain⟨a,b⟩:=hl p (by simp);have i2:=PZ hbd ho a b;obtain⟨pa,pb⟩:=p;unfold Zy at i1 ⊢;simp only[QMB,QN2,Xt];dsimp only at i2;omega
  have:=key _ hE;omega
 ·rw[QMj h5]at h;rw[QMj h5];split
  ·have h1:=GM (wk o.kind) x.list;have h2:=UV x.list;rw[Nm];unfold Be;simp only[QMk];omega
  ·by_cases h4:o.card=4
   ·rw[QMy h4]at h;rw[QMy h4];split at h
    ·omega
    have hL:=WE.1 h;have key:∀l:List V,(∀y∈l,QT m P o y=0)→Zy (l.map (Xu bd o o.num))≤70000*Q9 l:=by
     intro l
     induction l with
     |nil=>intro _;exact QMd _
     |cons y l ih=>
      intro hl;have i1:=ih fun q hq=>hl q (by simp[hq])
      have i2:=GL hbd ho (n:=o.num) (hl y (by simp));unfold Zy at i1 ⊢;simp only[QMB,QN2,Q9];omega
    have:=key _ hL;omega
   ·rw[QMj h4]at h;rw[QMj h4,Nm];have:=GL hbd ho (n:=o.num) h;omega
omit hbd in
theorem Bg {g:PG}{f:R}(h:JH P g f=0):f.data.length≤65536:=by
 unfold JH at h;split at h
 ·omega
 split at h
 ·omega
 split at h
 ·omega
 split at h
 ·omega
 rename_i h4;simp only[QL9,QMa,not_or]at h4;omega
theorem UW {g:PG}:∀(sl:List (Int×V)) (rs:List R),(∀x∈sl,∃o,XZ g x.1=some o∧UO P o∧XB m P o x.2=0)→(∀f∈rs,JH P g f=0)→Zy (Zc bd g sl rs)≤70000*(rs.length+Xa sl)
 | [],rs,_,hr=>by
  unfold Zc;have:∀l:List R,(∀f∈l,JH P g f=0)→Zy l≤70000*l.length:=by
   intro l
   induction l with
   |nil=>intro _;exact QMd _
   |cons f l ih=>
    intro hl;have i1:=ih fun q hq=>hl q (by simp[hq])
    have i2:=Bg (hl f (by simp));unfold Zy at i1 ⊢;simp only[QMB,QN2,QMk];omega
  have:=this rs hr;omega
 |s :: sl,rs,hs,hr=>by
  obtain⟨o,h1,ho,h2⟩:=hs s (by simp);have h3:=II hbd ho h2;have ih:=UW sl (rs.dropWhile fun r=>decide (r.num<s.1)) (fun x hx=>hs x (by simp[hx])) (fun f hf=>hr f ((List.dropWhile_sublist _).mem hf));have h4:∀l:List R,(∀f∈l,JH P g f=0)→Zy l≤70000*l.length:=by
   intro l
   induction l with
   |nil=>intro _;exact QMd _
   |cons f l ih=>
    intro hl;have i1:=ih fun q hq=>hl q (by simp[hq])
    have i2:=Bg (hl f (by simp));unfold Zy at i1 ⊢;simp only[QMB,QN2,QMk];omega
  have h5:=h4 (rs.takeWhile fun r=>decide (r.num<s.1)) (fun f hf=>hr f ((List.takeWhile_sublist _).mem hf));have h6:(rs.takeWhile fun r=>decide (r.num<s.1)).length+(rs.dropWhile fun r=>decide (r.num<s.1)).length=rs.length:=by
   rw[←QMH,List.takeWhile_append_dropWhile]
  obtain⟨sn,sx⟩:=s;rw[Zc,Nl,Nl];unfold Gg;rw[h1];simp only[Xa];dsimp only at h3 h5 h6 ih ⊢;omega
end

theorem Nq {P:PL}(hU:HM P)(hr:Wf P):∀(n:Nat) (t:Int) (v:V),(0≤t∧t<(P.progs.length:Int))→XC P n (Xb P t) v=0→(Jl P n t v).length+70000≤70000*v.cnt
 |0,t,v,_,h=>(Dt 0 _ _ h).elim
 |n+1,t,v,ht,h=>by
  have hg:Xb P t∈P.progs:=by
   unfold Xb;rw[QL6 (by omega:t.toNat<P.progs.length)];exact QMW _
  have hf:=W7 hU hr (n+1) (Xb P t) hg v h;have hc:=Y9 hr (n+1) (Xb P t) (YH hr t) v;rw[Jl];generalize Zu P (n+1) (Xb P t) v=w at hf hc;obtain⟨_,⟨s1,_,_⟩,_,s4⟩:=KF.1 hf;have h1:=Yd (Zc (Jl P n) (Xb P t) w.slots w.raws);have h2:=Xg w;have h3:=UW (m:=XC P n) (bd:=Jl P n) (fun t v ht hm=>Nq hU hr n t v ht hm) w.slots w.raws (fun x hx=>by
   obtain⟨o,ho,hx⟩:=s1 x hx;exact⟨o,ho,hU _ hg o (J1 ho).1,hx⟩) s4
  omega

def Wd (P:PL)(m:PG→V→Int)(g:PG)(s:Int×V):Prop:=∃o,XZ g s.1=some o∧XB m P o s.2=0∧(o.card<3∨s.2.emp=false)
theorem Qtt {P:PL}(hU:HM P)(hr:Wf P){n:Nat}{g:PG}(hg:g∈P.progs){v:V}(h:XC P (n+1) g v=0):∀s∈(Zu P (n+1) g v).slots,Wd P (XC P n) g s:=by
 have hf:=W7 hU hr (n+1) g hg v h;obtain⟨_,⟨s1,_,_⟩,_,_⟩:=KF.1 hf;intro s hs;obtain⟨o,ho,hx⟩:=s1 s hs;refine⟨o,ho,hx,?_⟩;have hs':s∈g.ops.flatMap (XM (Zu P n) P v.slots):=hs;obtain⟨q,hq,hsq⟩:=QMQ.1 hs';unfold XM at hsq;split at hsq
 ·cases hsq
 ·split at hsq
  ·rename_i hc;rw[QN0]at hsq;subst hsq;have e:XZ g q.num=some q:=Zm (hr g hg) hq;rw[e]at ho;cases ho;simp only[QL9,QMa,QM2]at hc;exact hc
  ·cases hsq

theorem P0 {c k:Int}(h:pk c k=true):c=4∧(k=1∨k=2∨k=3∨k=4∨k=5∨k=6∨k=9):=by
 unfold pk at h;simp only[QMt,QL9,QMa,QMb]at h;omega
theorem QAz {c k:Int}(h:pk c k=true):wk k=0∨wk k=1∨wk k=2:=by
 obtain⟨_,h⟩:=P0 h;rcases h with rfl|rfl|rfl|rfl|rfl|rfl|rfl<;>decide
theorem De {k:Int}{b:Nat}(hb:b<18446744073709551616)(t:List UInt8):(Zb k b t).bits<18446744073709551616:=by
 unfold Zb;split
 ·exact hb
 split
 ·have h1:=Qtk (IntKind.i64.wrap (b:Int)) (by rw[QF];omega) (by rw[QF];omega);have h2:=H9 (IntKind.i64.wrap (b:Int));show(YQ _).toNat<_;omega
 split
 ·show Zp k b<_;unfold Zp;split
  ·decide
  ·exact hb
 split
 ·exact(by decide:(0:Nat)<18446744073709551616)
 ·exact(by decide:(0:Nat)<18446744073709551616)
theorem okb {M:Nat}{v:V}(hv:v.ok M):v.bits<18446744073709551616:=by
 have:=DZ hv.bits;omega
def Rb (f:R):Prop:=f.bits<18446744073709551616
theorem MI {M:Nat}{v:V}(hv:v.ok M)(n:Int):Rb (Jv n v):=De (okb hv) _
theorem Bh {M:Nat}{v:V}(hv:v.ok M)(bd:Int→V→List UInt8)(o:PO)(n:Int):Rb (Xu bd o n v):=by
 unfold Xu;split
 ·exact(by decide:(0:Nat)<18446744073709551616)
 ·exact MI hv n
theorem Qtv {M:Nat}{v:V}(hv:v.ok M)(bd:Int→V→List UInt8)(o:PO):∀f∈Gf bd o v,Rb f:=by
 have z:(0:Nat)<18446744073709551616:=by decide
 unfold Gf;split
 ·intro f hf;obtain⟨p,_,rfl⟩:=QNm.1 hf;exact z
 split
 ·intro f hf;rw[QN0]at hf;subst hf;exact z
 split
 ·intro f hf;obtain⟨y,hy,rfl⟩:=QNm.1 hf;exact Bh (hv.list y hy) _ _ _
 ·intro f hf;rw[QN0]at hf;subst hf;exact Bh hv _ _ _
theorem Nr {M:Nat}(bd:Int→V→List UInt8)(g:PG):∀(sl:List (Int×V)) (rs:List R),(∀s∈sl,s.2.ok M)→(∀f∈rs,Rb f)→∀f∈Zc bd g sl rs,Rb f
 | [],_,_,hr,f,hf=>hr f hf
 |s :: sl,rs,hs,hr,f,hf=>by
  rw[Zc,QNk,QNk]at hf;rcases hf with(hf|hf)|hf
  ·exact hr f ((List.takeWhile_sublist _).mem hf)
  ·unfold Gg at hf;split at hf
   ·cases hf
   ·exact Qtv (hs s (by simp)) bd _ f hf
  ·exact Nr bd g sl _ (fun x hx=>hs x (by simp[hx])) (fun f hf=>hr f ((List.dropWhile_sublist _).mem hf)) f hf
theorem GN:∀l:List R,20*l.length≤Zy l
 | []=>QMd _
 |f :: l=>by
  have:=GN l;unfold Zy at this ⊢;simp only[QMB,QN2,QMk];omega
theorem IJ {l:List R}{f:R}(h:f∈l):f.data.length≤Zy l:=by
 induction l with
 |nil=>cases h
 |cons x l ih=>
  unfold Zy at ih ⊢;simp only[QMB,QN2];rcases QNo.1 h with rfl|h
  ·omega
  ·have:=ih h;omega
theorem Bi {l:List R}(hb:∀f∈l,Rb f)(hw:Zy l≤140737488355328):(∀fd∈l,fd.bits<18446744073709551616∧fd.data.length<9223372036854775807)∧l.length<9223372036854775807∧(Xi l).length≤140737488355328:=by
 have h1:=GN l;have h2:=Yd l;exact⟨fun fd hf=>⟨hb fd hf,by have:=IJ hf;omega⟩,by omega,by omega⟩

end Go.Proofs.YtipjfckmopekaaaGreatDoor.Va

namespace Go.Proofs.YtipjfckmopekaaaGreatDoor.Va
open Go Am Rc Bt Br

structure Fi (P:PL)(c:Nat)(B:List Bool)(a:Bool)(f:Fr)(fr:Nat→Ob):Prop where
 h1:f 1=.ptr 0 1 0
 m1:fr 1=.cells (Pc P)
 h3:f 3=.vec 0 12 1 0 P.progs.length false
 m12:fr 12=.vec 1 1 (B.map AV.bool)
 h4:f 4=.bool a
 h19:f 19=.int .i64 (P.progs.length:Nat)
 h20:f 20=.int .i64 (c:Nat)
 r8:∀s∈[8],(fr s).isRow=false

theorem Fi.drop {P:PL}{c:Nat}{B:List Bool}{a:Bool}{f f':Fr}{fr fr':Nat→Ob}(h:Fi P c B a f fr)(hf:∀i,f' i=NO [8] (f i))(hm:∀i,i∉[8]→fr' i=Ho [8] (fr i))(hn:∀i∈[8],fr' i=.none):Fi P c B a f' fr' where
 h1:=by rw[hf,h.h1]<;>rfl
 m1:=by rw[hm 1 (by decide),h.m1]<;>rfl
 h3:=by rw[hf,h.h3]<;>rfl
 m12:=by rw[hm 12 (by decide),h.m12]<;>rfl
 h4:=by rw[hf,h.h4]<;>rfl
 h19:=by rw[hf,h.h19]<;>rfl
 h20:=by rw[hf,h.h20]<;>rfl
 r8:=fun s hs=>by rw[hn s hs]<;>rfl

section
variable {M:Nat}(P:PL)(hP:P.ok M)(hl:P.progs.length≤64)(hT:Mc P)(c:Nat)(B:List Bool)(hB:B.length=P.progs.length)(a:Bool)
include hP hT hB

theorem QJn (i:Nat)(g:PG)(hg:P.progs[i]? = some g)(f:Fr)(fr:Nat→Ob)(H:Fi P c B a f fr)(h5:f 5=.int .i64 (i:Nat))(h6:f 6=.bool true)(h7:f 7=.int .i64 0)(Q:Exit→St→Prop)
  (hx:∀f fr,Fi P c B a f fr→f 5=.int .i64 (i:Nat)→f 6=.bool (!g.ops.any (Xs B))→Q (.exit 4) (⟨f,[fr],[]⟩:St)):QJ Tryz.prog (.loop RT) ⟨f,[fr],[]⟩ Q:=by
 let I:Nat→St→Prop:=fun k st=>∃f fr j,st=⟨f,[fr],[]⟩∧k=g.ops.length-j∧j≤g.ops.length∧Fi P c B a f fr∧f 5=.int .i64 (i:Nat)∧f 6=.bool (!(g.ops.take j).any (Xs B))∧f 7=.int .i64 (j:Nat)
 have hgm:(P.progs.map Qj)[i]? = some (.agg g.cells):=by simp[hg,Qj]
 have hgo:=hP.progs g (QMi hg);refine Qf I _ ⟨f,fr,0,rfl,rfl,QMd _,H,h5,by rw[h6];simp,h7⟩ ?_;clear H h5 h6 h7;simp only[PG.cells]at hgm;rintro _ st ⟨f0,fr0,j,rfl,rfl,hj,H0,h50,h60,h70⟩;refine QM (a:=_) [8] H0.r8 ?_;intro f fr hf hm hn;have H:=H0.drop hf hm hn;have h5:f 5=.int .i64 (i:Nat):=by rw[hf,h50]<;>rfl
 have h6:f 6=.bool (!(g.ops.take j).any (Xs B)):=by rw[hf,h60]<;>rfl
 have h7:f 7=.int .i64 (j:Nat):=by rw[hf,h70]<;>rfl
 have n8:=hn 8 (by decide);clear hf hm hn H0 h50 h60 h70;obtain⟨h1,m1,h3,m12,h4,h19,h20,r8⟩:=id H;simp only[Pc]at m1;simp only[Qm,QNt,Qd,hgm,QMZ,h1,m1,h5,h7,eE,seval];by_cases hlt:j<g.ops.length
 ·obtain⟨o,ho⟩:∃o,g.ops[j]? = some o:=⟨g.ops[j],QL6 hlt⟩;have hom:(g.ops.map fun o=>AV.agg o.cells)[j]? = some (.agg o.cells):=by simp[ho]
  have e1:=Qq j _ hlt hgo.len;have htg:=hT g (QMi hg) o (QMi ho);have ht:=Pl (q:=Xs B) ho;have fin2:∀(f':Fr) (fr':Nat→Ob) (v:Bool),(!(g.ops.take j).any (Xs B) && !Xs B o)=v→Fi P c B a f' fr'→f' 5=.int .i64 (i:Nat)→f' 6=.bool v→f' 7=.int .i64 ((j+1:Nat):Int)→∃k,k<g.ops.length-j∧I k ⟨f',[fr'],[]⟩:=by
   intro f' fr' v hv b1 b2 b3 b4;exact⟨g.ops.length-(j+1),by omega,f',fr',j+1,rfl,rfl,by omega,b1,b2,by rw[b3,ht,Bool.not_or,hv],b4⟩
  simp only[PO.cells]at hom;have m1':fr 1=.cells (Pc P):=by rw[m1]<;>rfl
  cases hb : !(g.ops.take j).any (Xs B)
  ·rw[hb]at fin2 h6;simp only[QNw]at fin2;simp only[Qo hlt,Qm,QNt,Qd,hgm,hom,PO.cells,n8,h1,m1,h5,h6,h7,e1,eE,seval];exact fin2 _ _ _ rfl ⟨(by exact h1),(by exact m1'),(by exact h3),(by exact m12),(by exact h4),(by exact h19),(by exact h20),by simp<;>rfl⟩ (by exact h5) (by rfl) (by rfl)
  rw[hb]at fin2 h6;simp only[QND]at fin2;cases c1:(o.card==1)
  ·have c1':(o.card != 1)=true:=by rw[bne,c1];rfl
   have hne:(!Xs B o)=true:=by unfold Xs;rw[c1];rfl
   rw[hne]at fin2;simp only[Qo hlt,Qm,QNt,Qd,hgm,hom,PO.cells,n8,c1',h1,m1,h5,h6,h7,e1,eE,seval];exact fin2 _ _ _ rfl ⟨(by exact h1),(by exact m1'),(by exact h3),(by exact m12),(by exact h4),(by exact h19),(by exact h20),by simp<;>rfl⟩ (by exact h5) (by rfl) (by rfl)
  have c1':(o.card != 1)=false:=by rw[bne,c1];rfl
  cases c2:(o.kind==10)
  ·have c2':(o.kind != 10)=true:=by rw[bne,c2];rfl
   have hne:(!Xs B o)=true:=by unfold Xs;rw[c1,c2];rfl
   rw[hne]at fin2;simp only[Qo hlt,Qm,QNt,Qd,hgm,hom,PO.cells,n8,c1',c2',h1,m1,h5,h6,h7,e1,eE,seval];exact fin2 _ _ _ rfl ⟨(by exact h1),(by exact m1'),(by exact h3),(by exact m12),(by exact h4),(by exact h19),(by exact h20),by simp<;>rfl⟩ (by exact h5) (by rfl) (by rfl)
  have c2':(o.kind != 10)=false:=by rw[bne,c2];rfl
  obtain⟨t1,t2⟩:=htg (by simpa using c2);obtain⟨t,hte⟩:=QNF t1;obtain⟨y,hy⟩:∃y,B[t]? = some y:=⟨B[t]'(by omega),QL6 (by omega)⟩;have hym:(B.map AV.bool)[t]? = some (.bool y):=by simp[hy]
  have hlt2:(t<P.progs.length)=True:=eq_true (by omega);have hne:(!Xs B o)=y:=by unfold Xs;rw[c1,c2,hte,QNt,hy];cases y<;>rfl
  rw[hne]at fin2;simp only[Qo hlt,Qm,QNt,Qd,hgm,hom,PO.cells,n8,c1',c2',hte,hym,hlt2,m12,QML,h1,m1,h3,h5,h6,h7,e1,eE,seval];exact fin2 _ _ _ rfl ⟨(by exact h1),(by exact m1'),(by exact h3),(by exact m12),(by exact h4),(by exact h19),(by exact h20),by simp<;>rfl⟩ (by exact h5) (by rfl) (by rfl)
 ·have hf:(g.ops.take j).any (Xs B)=g.ops.any (Xs B):=by rw[QMD (by omega)]
  rw[hf]at h6;simp only[QE hlt,Qa,seval];refine hx _ _ ⟨(by exact h1),by rw[m1]<;>rfl,(by exact h3),(by exact m12),(by exact h4),(by exact h19),(by exact h20),r8⟩ (by exact h5) (by exact h6)

end

theorem P1 {B:List Bool}{i:Nat}(h:i<B.length)(v:Bool):((B.set i v).take (i+1)).all id=((B.take i).all id&&v):=by
 have h1:(B.set i v)[i]? = some v:=List.getElem?_set_self h;rw[Q1 h1,List.take_set_of_le (QL3 _)];rfl

section
variable {M:Nat}(P:PL)(hP:P.ok M)(hl:P.progs.length≤64)(hT:Mc P)(c:Nat)
include hP hl hT

theorem QJo (f:Fr)(fr:Nat→Ob)(H:Fi P c (Qe P.progs c) true f fr)(h5:f 5=.int .i64 0)(Q:Exit→St→Prop)(hx:∀f fr,Fi P c (Qe P.progs (c+1)) ((Qe P.progs (c+1)).all id) f fr→Q (.exit 2) (⟨f,[fr],[]⟩:St)):QJ Tryz.prog (.loop RU) ⟨f,[fr],[]⟩ Q:=by
 let I:Nat→St→Prop:=fun k st=>∃f fr i,st=⟨f,[fr],[]⟩∧k=P.progs.length-i∧i≤P.progs.length∧Fi P c (ZQ P.progs (Qe P.progs c) i) (((ZQ P.progs (Qe P.progs c) i).take i).all id) f fr∧f 5=.int .i64 (i:Nat)
 refine Qf I _ ⟨f,fr,0,rfl,rfl,QMd _,H,h5⟩ ?_;clear H h5;rintro _ st ⟨f0,fr0,i,rfl,rfl,hi,H0,h50⟩;refine QM (a:=_) [8] H0.r8 ?_;intro f fr hf hm hn;have H:=H0.drop hf hm hn;have h5:f 5=.int .i64 (i:Nat):=by rw[hf,h50]<;>rfl
 clear hf hm hn H0 h50;have hBl:(ZQ P.progs (Qe P.progs c) i).length=P.progs.length:=by rw[Y0,Y3]
 obtain⟨h1,m1,h3,m12,h4,h19,h20,r8⟩:=id H;have m1':=m1;simp only[Pc]at m1;simp only[QMZ,h1,m1,h5,eE,seval];by_cases hlt:i<P.progs.length
 ·obtain⟨g,hg⟩:∃g,P.progs[i]? = some g:=⟨P.progs[i],QL6 hlt⟩;have e1:=Qq i _ hlt (by simp only[maxLen];omega);have hst:ZQ P.progs (Qe P.progs c) (i+1)=(ZQ P.progs (Qe P.progs c) i).set i (!g.ops.any (Xs (ZQ P.progs (Qe P.progs c) i))):=by
   rw[ZQ]
   conv=>lhs;unfold YC
   rw[hg]
  have htk:=P1 (B:=ZQ P.progs (Qe P.progs c) i) (i:=i) (by omega) (!g.ops.any (Xs (ZQ P.progs (Qe P.progs c) i)));rw[←hst]at htk;simp only[Qo hlt,Qa,seval];refine QJn P hP hT c _ hBl _ i g hg _ fr ⟨(by exact h1),m1',(by exact h3),m12,(by exact h4),(by exact h19),(by exact h20),r8⟩ (by exact h5) (by rfl) (by rfl) _ (fun f fr H h5 h6=>?_);generalize hBB:ZQ P.progs (Qe P.progs c) i=B at *;generalize hv:(!g.ops.any (Xs B))=v at *;obtain⟨h1,m1,h3,m12,h4,h19,h20,r8⟩:=H;obtain⟨y,hy⟩:∃y,B[i]? = some y:=⟨B[i]'(by omega),QL6 (by omega)⟩;have hym:(B.map AV.bool)[i]? = some (.bool y):=by simp[hy]
  have ia:Qd [fr] 1 none (.vec 0 12 1 0 P.progs.length false) (i:Int)=some (.vptr 0 12 1 i 0):=by
   have e:Am.Qg [fr] 0 12=.vec 1 1 (B.map AV.bool):=m12;simp only[Qd,e,Qm,if_true,QNt];simp;omega
  have ist:QU [fr] (.vptr 0 12 1 i 0) [.bool v]=some [QI fr 12 (.vec 1 1 ((B.map AV.bool).set i (.bool v)))]:=by
   have e:Am.Qg [fr] 0 12=.vec 1 1 (B.map AV.bool):=m12;simp only[QU,e,hym];simp[AV.cells,AV.rfL,AV.rf,Am.put,Zq]
  have hset:(B.map AV.bool).set i (.bool v)=(ZQ P.progs (Qe P.progs c) (i+1)).map AV.bool:=by rw[hst,List.map_set]
  rw[hset]at ist;cases hal:(B.take i).all id
  ·rw[hal]at h4 htk;simp only[ia,ist,h3,h4,h5,h6,e1,eE,seval];exact⟨P.progs.length-(i+1),by omega,_,_,i+1,rfl,rfl,by omega,⟨(by exact h1),(by exact m1),(by exact h3),(by rfl),by rw[htk]<;>first|exact h4|simp only[h4,QNw,Qa,seval],(by exact h19),(by exact h20),fun s hs=>by simp at hs;subst hs;rw[QO _ _ (by decide)];exact r8 8 (by simp)⟩,(by rfl)⟩
  ·rw[hal]at h4 htk;simp only[ia,ist,h3,h4,h5,h6,e1,eE,seval];exact⟨P.progs.length-(i+1),by omega,_,_,i+1,rfl,rfl,by omega,⟨(by exact h1),(by exact m1),(by exact h3),(by rfl),by rw[htk,QND]<;>first|rfl|simp only[eE,seval],(by exact h19),(by exact h20),fun s hs=>by simp at hs;subst hs;rw[QO _ _ (by decide)];exact r8 8 (by simp)⟩,(by rfl)⟩
 ·have hii:i=P.progs.length:=by omega
  subst hii;have hits:ZQ P.progs (Qe P.progs c) P.progs.length=Qe P.progs (c+1):=rfl;rw[hits]at H hBl m12 h4;rw[QMD (by omega)]at h4;simp only[QE hlt,Qa,seval];exact hx _ _ ⟨(by exact h1),m1',(by exact h3),m12,(by exact h4),(by exact h19),(by exact h20),r8⟩

end

theorem z49 {M:Nat}(P:PL)(hP:P.ok M)(hl:P.progs.length≤64)(hT:Mc P):Qp Tryz.prog 49 [P.av] (.bool (fin P)):=by
 have e0:P.av=.agg [.list (P.progs.map Qj),.list (P.enums.map Qt)]:=rfl;have hmx:P.progs.length≤maxLen:=by simp only[maxLen];omega
 have hz:Jo 1 [AV.bool false]=.bool false:=rfl;have hr0:(List.replicate P.progs.length (AV.bool false))=(Qe P.progs 0).map AV.bool:=by simp[Qe]
 let A:Nat→Bool:=fun c=>if c=0 then(P.progs.length:Int)==0 else(Qe P.progs c).all id
 have hA:A P.progs.length=fin P:=by
  show(if P.progs.length=0 then(P.progs.length:Int)==0 else(Qe P.progs P.progs.length).all id)=(Qe P.progs P.progs.length).all id;split
  ·rename_i h;rw[h];simp[Qe,h]
  ·rfl
 let I:Nat→St→Prop:=fun k st=>∃f fr c,st=⟨f,[fr],[]⟩∧k=P.progs.length-c∧c≤P.progs.length∧Fi P c (Qe P.progs c) (A c) f fr
 refine k49.fn (by simp) ?_;simp only[e0,QMZ,eE,seval];refine YX (n:=P.progs.length) (k:=P.progs.length) rfl rfl (QL3 _) (by omega) (by omega) rfl ?_;simp only[hz,hr0,QMZ,eE,seval];refine Qf I _ ⟨_,_,0,rfl,rfl,QMd _,⟨(by rfl),(by rfl),(by rfl),(by rfl),(by rfl),(by rfl),(by rfl),by simp<;>rfl⟩⟩ ?_;rintro _ st ⟨f0,fr0,c,rfl,rfl,hc,H0⟩;refine QM (a:=_) [8] H0.r8 ?_;intro f fr hf hm hn;have H:=H0.drop hf hm hn;clear hf hm hn H0;obtain⟨h1,m1,h3,m12,h4,h19,h20,r8⟩:=id H;simp only[h19,h20,Qa,seval];by_cases hlt:c<P.progs.length
 ·have e1:=Qq c _ hlt hmx;simp only[Qo hlt,Qa,seval];refine QJo P hP hl hT c _ fr ⟨(by exact h1),m1,(by exact h3),m12,(by rfl),(by exact h19),(by exact h20),r8⟩ (by rfl) _ (fun f fr H=>?_);obtain⟨h1,m1,h3,m12,h4,h19,h20,r8⟩:=H;simp only[h20,e1,Qa,seval];exact⟨P.progs.length-(c+1),by omega,_,fr,c+1,rfl,rfl,by omega,⟨(by exact h1),m1,(by exact h3),m12,(by exact h4),(by exact h19),(by rfl),r8⟩⟩
 ·have hcc:c=P.progs.length:=by omega
  subst hcc;rw[hA]at h4;simp only[QE hlt,h4,Qa,seval]

theorem z22 {M:Nat}(P:PL)(hP:P.ok M)(hM:M≤140737488351232):Qp Tryz.prog 22 [P.av] (.int .i64 (ck P)):=by
 have e0:P.av=.agg [.list (P.progs.map Qj),.list (P.enums.map Qt)]:=rfl;have c1:=z43 P hP;have c2:=z44 P hP;have c3:=z45 P hP;have c4:=z46 P hP;have c5:=z47 P hP;refine k22.fn (by simp) ?_;simp only[e0,ck,eE,seval];refine Qb c1 rfl rfl rfl (.inl rfl) ?_;cases hl:Us P
 ·simp only[QNb,Qa,seval]
 obtain⟨l1,l2,l3,l4⟩:=YD hl;have c6:=z48 hM P hP l3;simp only[QNE,QNY,eE,seval];refine Qb c2 rfl rfl rfl (.inl rfl) ?_;cases Ft P
 ·simp only[QNb,Qa,seval]
 simp only[QNE,QNY,eE,seval];refine Qb c3 rfl rfl rfl (.inl rfl) ?_;cases Ut P
 ·simp only[QNb,Qa,seval]
 simp only[QNE,QNY,eE,seval];refine Qb c4 rfl rfl rfl (.inl rfl) ?_;cases Fu P
 ·simp only[QNb,Qa,seval]
 simp only[QNE,QNY,eE,seval];refine Qb c5 rfl rfl rfl (.inl rfl) ?_;cases Fv P
 ·simp only[QNb,Qa,seval]
 simp only[QNE,QNY,eE,seval];refine Qb c6 rfl rfl rfl (.inl rfl) ?_;cases ha:args P
 ·simp only[QNb,Qa,seval]
 have c7:=z49 P hP l1 (FE ha);simp only[QNE,QNY,eE,seval];refine Qb c7 rfl rfl rfl (.inl rfl) ?_;cases fin P
 ·simp only[QNb,Qa,seval]
 ·simp only[QNE,QNY,Qa,seval]

open Up

section
variable {M:Nat}{P:PL}(hP:P.ok M)(hM:M≤140737488351232){m:PG→V→Int}{lv:Int}(g:PG)(hg:g.ok M)(v:V)(hv:v.ok M)

def SwI (P:PL)(g:PG)(v:V)(k:Nat)(st:St):Prop :=
 ∃f fr i,st=⟨f,[fr],[]⟩∧k=v.raws.length-i∧XE (JI P g v.raws) v.raws.length 0=XE (JI P g v.raws) (v.raws.length-i) i∧f 4=.ptr 0 4 0∧f 6=.ptr 0 6 0∧f 9=.ptr 0 9 0∧f 16=.int .i64 (i:Nat)∧fr 4=.cells [.list (P.progs.map Qj),.list (P.enums.map Qt)]∧fr 6=.cells (vc v)∧fr 9=.cells g.cells∧∀s∈[17],(fr s).isRow=false

end

def KC (P:PL)(t:Int)(v:V):Int :=
 if t<0∨t≥(P.progs.length:Int)then 10 else if XC P 16 (Xb P t) v=0 then(if IntKind.i64.wrap (v.cnt:Int) > 4096 then 3 else 0)else XC P 16 (Xb P t) v

section
variable {M:Nat}{P:PL}(hP:P.ok M)(hM:M≤140737488351232)(hU:HM P)(t:Int)(v:V)(hv:v.ok M)

include hP hU hv in
theorem v28:Qp Tryz.prog 28 [P.av,.int .i64 t,v.av] (.int .i64 (KC P t v)):=by
 have e0:P.av=.agg [.list (P.progs.map Qj),.list (P.enums.map Qt)]:=rfl;rw[QL];refine k28.fn (by simp) ?_;simp only[e0,eE,seval];unfold KC;by_cases t0:t<0
 ·have d0:decide (t<0)=true:=QNQ t0;rw[QMy (.inl t0)];simp only[d0,Qa,seval]
 have d0:decide (t<0)=false:=QNM t0;by_cases t1:t≥(P.progs.length:Int)
 ·have d1:decide (t≥(P.progs.length:Int))=true:=QNQ t1;rw[QMy (.inr t1)];simp only[d0,d1,QMZ,eE,seval]
 have d1:decide (t≥(P.progs.length:Int))=false:=QNM t1;rw[QMj (by omega)];obtain⟨i,hi⟩:=QNF (by omega:0≤t);subst hi;have hlt:i<P.progs.length:=by omega
 obtain⟨g,hg⟩:∃g,P.progs[i]? = some g:=⟨P.progs[i],QL6 hlt⟩;have hga:(P.progs.map Qj)[i]? = some (.agg g.cells):=by simp[hg,Qj]
 have hq:Xb P (i:Int)=g:=by unfold Xb;rw[QNt,hg];rfl
 have c1:=v55 hP hU 16 (QL3 _) g (QMi hg) v hv;have e16:(17:Int)-((16:Nat):Int)=1:=rfl;have ht:=Py (P:=P) 16 g v hv;rw[e16,e0,QL]at c1;simp only[Qj,PG.cells]at c1;simp only[PG.cells]at hga;rw[hq];simp only[d0,d1,Qm,QNt,Qd,hga,QMZ,QMC,QNc,QMF,QMM,splice,eE,seval];refine Qb c1 rfl rfl rfl (.inl rfl) ?_;by_cases hz:XC P 16 g v=0
 ·have c2:=v56 v (ht hz);rw[QL]at c2;have b0:((0:Int) != 0)=false:=rfl;rw[QMy hz];simp only[hz,b0,eE,seval];refine Qb c2 rfl rfl rfl (.inl rfl) ?_;by_cases hc:IntKind.i64.wrap (v.cnt:Int) > 4096
  ·have d2:decide (IntKind.i64.wrap (v.cnt:Int) > 4096)=true:=QNQ hc;rw[QMy hc];simp only[d2,Qa,seval]
  ·have d2:decide (IntKind.i64.wrap (v.cnt:Int) > 4096)=false:=QNM hc;rw[QMj hc];simp only[d2,Qa,seval]
 ·have b1:(XC P 16 g v != 0)=true:=by simp[hz]
  rw[QMj hz];simp only[b1,Qa,seval]

end
end Go.Proofs.YtipjfckmopekaaaGreatDoor.Va

namespace Go.Proofs.YtipjfckmopekaaaGreatDoor.Va
open Go Am Rc Bt Br

open Up So

section
variable {P:PL}{k:Int}(hk:ZJ k)(ps:List (V×V))(hn:ps.length≤1048576)(h1:∀p∈ps,p.1.one P k (-1)=0)(hb:∀p∈ps,p.1.bits<18446744073709551616)

end

section
variable {M:Nat}{P:PL}{m:PG→V→Prop}{nm:PG→V→V}(o:PO)(ho:UO P o)

end

section
variable {M:Nat}{P:PL}

end

theorem MJ {M:Nat}{v:V}(h:v.ok M):v.nsc.ok M:=by
 refine .mk h.kd ?_ h.text h.nl h.np h.ns h.nr h.list h.keys h.vals h.nums h.slots h.raws;show(Lit.int .u64 ((Zp v.kd v.bits:Nat):Int)).wf=true;unfold Zp;split
 ·rfl
 ·exact h.bits

def Gd (g:PG):Prop:=g.ops.length≤64∧∀o∈g.ops,(Lit.int .i64 o.num).wf=true

section
variable {M:Nat}{P:PL}{nm:PG→V→V}(h:∀t v,v.ok M→(nm (Xb P t) v).ok M)
include h
theorem Bj (o:PO){v:V}(hv:v.ok M):(JJ nm P o v).ok M:=by
 unfold JJ;split
 ·exact h _ v hv
 ·exact MJ hv
theorem Qtw (o:PO){v:V}(hv:v.ok M):(Jk nm P o v).ok M:=by
 unfold Jk;split
 ·refine .mk rfl rfl (QMd _) ?_ (QMd _) (QMd _) (QMd _) ?_ (fun x hx=>nomatch hx) (fun x hx=>nomatch hx) (fun x hx=>nomatch hx) (fun x hx=>nomatch hx) (fun x hx=>nomatch hx)
  ·show(v.list.map _).length≤_;rw[QMZ];exact hv.nl
  ·intro x hx;obtain⟨y,hy,rfl⟩:=QNm.1 hx;exact Bj h o (hv.list y hy)
 ·split
  ·have hp:(Zl o.key v.pairs).Perm v.pairs:=Xf _;refine .mk rfl rfl (QMd _) (QMd _) ?_ (QMd _) (QMd _) (fun x hx=>nomatch hx) ?_ ?_ (fun x hx=>nomatch hx) (fun x hx=>nomatch hx) (fun x hx=>nomatch hx)
   ·show((Zl o.key v.pairs).map _).length≤_;rw[QMZ,hp.length_eq];exact hv.np
   ·intro x hx;obtain⟨y,hy,rfl⟩:=QNm.1 hx;exact MJ (hv.keys y (hp.mem_iff.1 hy))
   ·intro x hx;obtain⟨y,hy,rfl⟩:=QNm.1 hx;exact Bj h o (hv.vals y (hp.mem_iff.1 hy))
  ·exact Bj h o hv
theorem IK {g:PG}(hg:Gd g){v:V}(hv:v.ok M):(UP nm P g v).ok M:=by
 unfold UP;have hp:(W5 v.raws).Perm v.raws:=Xf _;have hs:∀x∈g.ops.flatMap (XM nm P v.slots),(Lit.int .i64 x.1).wf=true∧x.2.ok M:=by
  intro x hx;obtain⟨o,ho,hx⟩:=QMQ.1 hx;obtain⟨e1,s,hs,_,e2⟩:=Zx hx;rw[e1,e2];exact⟨hg.2 o ho,Qtw h o (hv.slots s hs)⟩
 have hl:∀l:List PO,(l.flatMap (XM nm P v.slots)).length≤l.length:=by
  intro l
  induction l with
  |nil=>exact QL3 _
  |cons o l ih=>
   have:(XM nm P v.slots o).length≤1:=by
    unfold XM;split
    ·simp
    ·split<;>simp
   rw[QNv,QMH,QMk];omega
 refine .mk rfl rfl (QMd _) (QMd _) (QMd _) ?_ ?_ (fun x hx=>nomatch hx) (fun x hx=>nomatch hx) (fun x hx=>nomatch hx) (fun x hx=>(hs x hx).1) (fun x hx=>(hs x hx).2) ?_
 ·show(g.ops.flatMap (XM nm P v.slots)).length≤_;have:=hl g.ops;have:=hg.1;omega
 ·show(W5 v.raws).length≤_;rw[hp.length_eq];exact hv.nr
 ·intro x hx;exact hv.raws x (hp.mem_iff.1 hx)
end
theorem MK {M:Nat}{P:PL}(hg:∀t,Gd (Xb P t)):∀(n:Nat) (t:Int) (v:V),v.ok M→(Zu P n (Xb P t) v).ok M
 |0,_,_,h=>h
 |n+1,t,_,h=>IK (fun t v hv=>MK hg n t v hv) (hg t) h

theorem QAA {M:Nat}{P:PL}(hP:P.ok M)(hl:∀g∈P.progs,g.ops.length≤64)(t:Int):Gd (Xb P t):=by
 unfold Xb;cases hg:P.progs[t.toNat]? with
 |none=>exact⟨QMd _,fun o ho=>nomatch ho⟩
 |some g=>
  have hm:=QMi hg;exact⟨hl g hm,fun o ho=>((hP.progs g hm).ops o ho).num⟩
theorem Qtx {P:PL}(h:ck P=0):∀g∈P.progs,g.ops.length≤64:=by
 unfold ck at h;split at h
 ·omega
 rename_i hl;exact(YD (by simpa using hl)).2.2.1

open Vp Cp

theorem Qty (x:V):Jv 0 x=Zb x.kd x.bits x.text:=by
 unfold Jv Zb zr
 repeat' split
 all_goals rfl
theorem GP (bd:Int→V→List UInt8)(o:PO)(n:Int)(x:V):({ Xu bd o 0 x with num:=n }:R)=Xu bd o n x:=by
 unfold Xu;split
 ·rfl
 ·rfl
theorem Qtz {α:Type}(l:List α)(F:α→R):(l.map fun x=>(F x).av)=(l.map F).map R.av:=by rw[QNL];rfl
theorem KD {fr:Nat→Ob}{a:Nat}(h1:(fr a).isRow=false):∀s∈[a],(fr s).isRow=false:=by
 intro s hs;simp only[QNo,QN3,or_false]at hs;subst hs;exact h1

theorem VC (n:Int)(f:R):Qp Tryz.prog 196 [.int .i64 n,f.av] ({ f with num:=n }:R).av:=by
 refine Qf4.fn (by simp) ?_;simp only[R.av,eE,seval]

theorem t25 {M:Nat}{v:V}(hv:v.ok M):Qp Tryz.prog 25 [v.av] (Jv 0 v).av:=by
 rw[Qty,QL];exact y25 v.kd v.bits (okb hv) v.text _ _ _ _

section
variable {M:Nat}{P:PL}{m:PG→V→Int}{bd:Int→V→List UInt8}(o:PO)(ho:UO P o)

include ho in
theorem QJp (hb:∀(t:Int) (g:PG),P.progs[t.toNat]? = some g→0≤t→∀v:V,v.ok M→v.cnt≤1048576→m g v=0→Qp Tryz.prog 29 [P.av,.int .i64 t,v.av] (.str (bd t v)))(x:V)(hx:x.ok M)(hc:x.cnt≤1048576)(he:QT m P o x=0) :
  Qp Tryz.prog 197 [P.av,QA o,x.av] (Xu bd o 0 x).av:=by
 have e0:P.av=.agg [.list (P.progs.map Qj),.list (P.enums.map Qt)]:=rfl;unfold Xu;by_cases hk:o.kind=10
 ·have b:(o.kind==10)=true:=by simp[hk]
  rw[QMy hk];unfold QT at he;rw[QMy hk]at he;obtain⟨t0,t1⟩:=ho.tgt hk;obtain⟨g,hg⟩:∃g,P.progs[o.target.toNat]? = some g:=⟨P.progs[o.target.toNat]'(by omega),QL6 (by omega)⟩;have hq:Xb P o.target=g:=by unfold Xb;rw[hg];rfl
  rw[hq]at he;have h2:=hb o.target g hg t0 x hx hc he;rw[e0,QL]at h2;rw[QL];refine M6.fn (by simp) ?_;simp only[e0,QA,PO.cells,b,R.av,eE,seval];refine Qb h2 rfl rfl rfl (.inl rfl) ?_;simp only[eE,seval]
 ·have b:(o.kind==10)=false:=by simp[hk]
  rw[QMj hk];have h1:=t25 hx;generalize Jv 0 x=z at h1 ⊢;rw[QL]at h1;rw[QL];simp only[R.av]at h1;refine M6.fn (by simp) ?_;simp only[e0,QA,PO.cells,b,R.av,eE,seval];refine Qb h1 rfl rfl rfl (.inl rfl) ?_;simp only[eE,seval]

def QJq (P:PL)(o:PO)(l:List V)(F:V→R)(k:Nat)(st:St):Prop :=
 ∃f fr i g,st=⟨f,[fr],[]⟩∧k=l.length-i∧i≤l.length∧f 3=.ptr 0 3 0∧f 4=.ptr 0 4 0∧f 7=.vec 0 7 g 0 i false∧f 11=.list (l.map V.av)∧f 12=.int .i64 (l.length:Nat)∧f 13=.int .i64 (i:Nat)∧fr 3=.cells [.list (P.progs.map Qj),.list (P.enums.map Qt)]∧fr 4=.cells o.cells∧fr 7=.vec g 4 ((l.take i).map fun x=>(F x).av)∧∀s∈[9],(fr s).isRow=false

def QJr (P:PL)(o:PO)(l:List (V×V))(F:V×V→R)(k:Nat)(st:St):Prop :=
 ∃f fr i g,st=⟨f,[fr],[]⟩∧k=l.length-i∧i≤l.length∧f 3=.ptr 0 3 0∧f 4=.ptr 0 4 0∧f 7=.vec 0 7 g 0 i false∧f 12=.list (l.map V.pav)∧f 13=.int .i64 (l.length:Nat)∧f 14=.int .i64 (i:Nat)∧fr 3=.cells [.list (P.progs.map Qj),.list (P.enums.map Qt)]∧fr 4=.cells o.cells∧fr 7=.vec g 4 ((l.take i).map fun x=>(F x).av)∧∀s∈[9],(fr s).isRow=false

theorem QJs (hel:∀x:V,x.ok M→x.cnt≤1048576→QT m P o x=0→Qp Tryz.prog 197 [P.av,QA o,x.av] (Xu bd o 0 x).av)(v:V)(hv:v.ok M)(hc:v.cnt≤1048576)(hL:∀x∈v.list,QT m P o x=0) :
  Qp Tryz.prog 121 [P.av,QA o,v.av] (.list ((v.list.map (Xu bd o o.num)).map R.av)):=by
 have e0:P.av=.agg [.list (P.progs.map Qj),.list (P.enums.map Qt)]:=rfl;have hlen:=W9 v;rw[QL v];refine QDk.fn (by simp) ?_;simp only[e0,QA,PO.cells,eE,seval];refine X4 rfl rfl ?_;simp only[QMZ,eE,seval];refine Qf (QJq P o v.list (Xu bd o o.num)) _ ⟨_,_,0,_,rfl,rfl,QMd _,(by rfl),(by rfl),(by rfl),(by rfl),(by rfl),(by rfl),(by rfl),(by rfl),(by rfl),KD rfl⟩ ?_;rintro _ st ⟨f0,fr0,i,g,rfl,rfl,hil,h30,h40,h70,h110,h120,h130,m30,m40,mR0,r9⟩;refine QM (a:=_) [9] r9 ?_;intro f fr hf hm hn9;have h3:f 3=.ptr 0 3 0:=by rw[hf,h30]<;>rfl
 have h4:f 4=.ptr 0 4 0:=by rw[hf,h40]<;>rfl
 have h7:f 7=.vec 0 7 g 0 i false:=by rw[hf,h70]<;>rfl
 have h11:f 11=.list (v.list.map V.av):=by rw[hf,h110]<;>rfl
 have h12:f 12=.int .i64 (v.list.length:Nat):=by rw[hf,h120]<;>rfl
 have h13:f 13=.int .i64 (i:Nat):=by rw[hf,h130]<;>rfl
 have m3:fr 3=.cells [.list (P.progs.map Qj),.list (P.enums.map Qt)]:=by rw[hm 3 (by decide),m30]<;>rfl
 have m4':fr 4=.cells o.cells:=by rw[hm 4 (by decide),m40]<;>rfl
 have mR:fr 7=.vec g 4 ((v.list.take i).map fun x=>(Xu bd o o.num x).av):=by rw[hm 7 (by decide),mR0]<;>rfl
 have n9:=hn9 9 (by decide);clear hf hm hn9 h30 h40 h70 h110 h120 h130 m30 m40 mR0 r9;have m4:=m4';simp only[PO.cells]at m4;simp only[h12,h13,Qa,seval];by_cases hlt:i<v.list.length
 ·obtain⟨x,hi⟩:∃x,v.list[i]? = some x:=⟨v.list[i],QL6 hlt⟩;have hx:=QMi hi;have hg:=GH hi;have e1:=Qq i _ hlt (by simp only[maxLen];omega);have c1:=hel x (hv.list x hx) (QL4 (F6 hx) hc) (hL x hx);have c2:=VC o.num (Xu bd o 0 x);rw[GP]at c2;have hti:((v.list.take i).map fun x=>(Xu bd o o.num x).av).length=i:=by rw[QMZ,QM1];omega
  have hts:(v.list.take (i+1)).map (fun x=>(Xu bd o o.num x).av)=(v.list.take i).map (fun x=>(Xu bd o o.num x).av)++[(Xu bd o o.num x).av]:=by rw[QNK,hi];simp
  generalize Xu bd o 0 x=y at c1 c2;generalize Xu bd o o.num x=z at c2 hts;rw[e0,QL x]at c1;simp only[QA,PO.cells,R.av]at c1 c2;simp only[Qo hlt,Qm,QNt,Qd,hg,n9,h3,h4,h7,h11,h13,m3,m4,eE,seval];refine Qb c1 rfl rfl rfl (.inl rfl) ?_;refine Qb c2 rfl rfl rfl (.inl rfl) ?_;refine QZ (l:=[z.av]) rfl rfl rfl rfl ?_;refine QR (site:=7) (g:=g) (n:=i) (xs:=(v.list.take i).map fun x=>(Xu bd o o.num x).av) (ys:=[z.av]) (by rfl) (by exact mR) rfl hti.symm rfl (UT [z]) (by simp only[QMk,QM0,maxLen];omega) (by simp only[QMk,QM0];omega) ?_;simp only[h13,e1,Qa,seval];exact⟨v.list.length-(i+1),by omega,_,_,i+1,g+1,rfl,rfl,by omega,(by exact h3),(by exact h4),(by rfl),(by exact h11),(by exact h12),(by rfl),(by exact m3),(by exact m4'),(by rw[hts];exact(by rfl)),KD rfl⟩
 ·have e:i=v.list.length:=by omega
  subst e;rw[QNB,Qtz]at mR;simp only[QE hlt,h7,mR,eE,seval];simp[AV.un,Zf,Xz,QMD]

include ho in
theorem QJt (hbd:∀(t:Int) (v:V),(0≤t∧t<(P.progs.length:Int))→m (Xb P t) v=0→(bd t v).length+70000≤70000*v.cnt)(hel:∀x:V,x.ok M→x.cnt≤1048576→QT m P o x=0→Qp Tryz.prog 197 [P.av,QA o,x.av] (Xu bd o 0 x).av)(v:V)(hv:v.ok M)(hc:v.cnt≤1048576)(hE:∀p∈v.pairs,p.1.one P o.key (-1)=0∧QT m P o p.2=0) :
  Qp Tryz.prog 118 [P.av,QA o,v.av] (.list ((v.pairs.map (J3 bd o)).map R.av)):=by
 have e0:P.av=.agg [.list (P.progs.map Qj),.list (P.enums.map Qt)]:=rfl;have hlen:=YO v;rw[QL v];refine QDh.fn (by simp) ?_;simp only[e0,QA,PO.cells,eE,seval];refine X4 rfl rfl ?_;simp only[QMZ,eE,seval];refine Qf (QJr P o v.pairs (J3 bd o)) _ ⟨_,_,0,_,rfl,rfl,QMd _,(by rfl),(by rfl),(by rfl),(by rfl),(by rfl),(by rfl),(by rfl),(by rfl),(by rfl),KD rfl⟩ ?_;rintro _ st ⟨f0,fr0,i,g,rfl,rfl,hil,h30,h40,h70,h120,h130,h140,m30,m40,mR0,r9⟩;refine QM (a:=_) [9] r9 ?_;intro f fr hf hm hn9;have h3:f 3=.ptr 0 3 0:=by rw[hf,h30]<;>rfl
 have h4:f 4=.ptr 0 4 0:=by rw[hf,h40]<;>rfl
 have h7:f 7=.vec 0 7 g 0 i false:=by rw[hf,h70]<;>rfl
 have h12:f 12=.list (v.pairs.map V.pav):=by rw[hf,h120]<;>rfl
 have h13:f 13=.int .i64 (v.pairs.length:Nat):=by rw[hf,h130]<;>rfl
 have h14:f 14=.int .i64 (i:Nat):=by rw[hf,h140]<;>rfl
 have m3:fr 3=.cells [.list (P.progs.map Qj),.list (P.enums.map Qt)]:=by rw[hm 3 (by decide),m30]<;>rfl
 have m4':fr 4=.cells o.cells:=by rw[hm 4 (by decide),m40]<;>rfl
 have mR:fr 7=.vec g 4 ((v.pairs.take i).map fun x=>(J3 bd o x).av):=by rw[hm 7 (by decide),mR0]<;>rfl
 have n9:=hn9 9 (by decide);clear hf hm hn9 h30 h40 h70 h120 h130 h140 m30 m40 mR0 r9;have m4:=m4';simp only[PO.cells]at m4;simp only[h13,h14,Qa,seval];by_cases hlt:i<v.pairs.length
 ·obtain⟨x,hi⟩:∃x,v.pairs[i]? = some x:=⟨v.pairs[i],QL6 hlt⟩;have hx:=QMi hi;have hg:=YI hi;have e1:=Qq i _ hlt (by simp only[maxLen];omega);have hcc:=Nk hx;have hck:=IC hx;have c0:=t25 (hv.keys x hx);have c1:=VC 1 (Jv 0 x.1);rw[show({ Jv 0 x.1 with num:=1 }:R)=Jv 1 x.1 from rfl]at c1;have c2:=hel x.2 (hv.vals x hx) (QL4 hcc hc) (hE x hx).2;have c3:=VC 2 (Xu bd o 0 x.2);rw[GP]at c3;have hpn:=Bi (l:=[Jv 1 x.1,Xu bd o 2 x.2]) (fun f hf=>by
   rcases QNo.1 hf with rfl|hf
   ·exact MI (hv.keys x hx) 1
   ·rw[QN0]at hf;subst hf;exact Bh (hv.vals x hx) bd o 2) (by have:=No hbd ho (hE x hx).1 (hE x hx).2;omega)
  have c4:=c58 [Jv 1 x.1,Xu bd o 2 x.2] hpn.1 hpn.2.1 hpn.2.2;have hen:J3 bd o x=⟨o.num,6,0,Xi [Jv 1 x.1,Xu bd o 2 x.2]⟩:=rfl;have hti:((v.pairs.take i).map fun x=>(J3 bd o x).av).length=i:=by rw[QMZ,QM1];omega
  have hts:(v.pairs.take (i+1)).map (fun x=>(J3 bd o x).av)=(v.pairs.take i).map (fun x=>(J3 bd o x).av)++[(J3 bd o x).av]:=by rw[QNK,hi];simp
  rw[hen]at hts;clear hpn hen;generalize Jv 0 x.1=y0 at c0 c1;generalize Xu bd o 0 x.2=y2 at c2 c3;generalize Jv 1 x.1=z1 at c1 c4 hts;generalize Xu bd o 2 x.2=z2 at c3 c4 hts;generalize Xi [z1,z2]=d at c4 hts;rw[QL x.1]at c0;rw[e0,QL x.2]at c2;simp only[QA,PO.cells,R.av,Gb,QMB,QM5]at c0 c1 c2 c3 c4;simp only[Qo hlt,Qm,QNt,Qd,hg,n9,h12,h14,eE,seval];refine Qb c0 rfl rfl rfl (.inl rfl) ?_;refine Qb c1 rfl rfl rfl (.inl rfl) ?_;simp only[h3,h4,m3,m4,eE,seval];refine Qb c2 rfl rfl rfl (.inl rfl) ?_;refine Qb c3 rfl rfl rfl (.inl rfl) ?_;refine QZ (l:=[z1.av,z2.av]) rfl rfl rfl rfl ?_;simp only[h4,h7,m4,eE,seval];refine Qb c4 rfl rfl rfl (.inl rfl) ?_;simp only[eE,seval];refine QZ (l:=[(R.mk o.num 6 0 d).av]) rfl rfl rfl rfl ?_;refine QR (site:=7) (g:=g) (n:=i) (xs:=(v.pairs.take i).map fun x=>(J3 bd o x).av) (ys:=[(R.mk o.num 6 0 d).av]) (by rfl) (by exact mR) rfl hti.symm rfl (UT [_]) (by simp only[QMk,QM0,maxLen];omega) (by simp only[QMk,QM0];omega) ?_;simp only[h14,e1,Qa,seval];exact⟨v.pairs.length-(i+1),by omega,_,_,i+1,g+1,rfl,rfl,by omega,(by exact h3),(by exact h4),(by rfl),(by exact h12),(by exact h13),(by rfl),(by exact m3),(by exact m4'),(by rw[hts];exact(by rfl)),KD rfl⟩
 ·have e:i=v.pairs.length:=by omega
  subst e;rw[QNB,Qtz]at mR;simp only[QE hlt,h7,mR,eE,seval];simp[AV.un,Zf,Xz,QMD]

end

section
variable {M:Nat}{P:PL}{m:PG→V→Int}{bd:Int→V→List UInt8}(o:PO)(ho:UO P o)

def PkI (o:PO)(l:List V)(F:Nat→List UInt8)(k:Nat)(st:St):Prop :=
 ∃f fr i g,st=⟨f,[fr],[]⟩∧k=l.length-i∧i≤l.length∧f 4=.ptr 0 4 0∧f 8=.int .i64 (wk o.kind)∧f 9=.vec 0 19 g 0 (F i).length false∧f 21=.list (l.map V.av)∧f 22=.int .i64 (l.length:Nat)∧f 23=.int .i64 (i:Nat)∧fr 4=.cells o.cells∧fr 19=.vec g 1 (Qy (F i))∧∀s∈[11],(fr s).isRow=false

theorem QJu (hp:pk o.card o.kind=true)(v:V)(hv:v.ok M)(hc:v.cnt≤1048576) :
  Qp Tryz.prog 120 [P.av,QA o,v.av] (.list ([Be o v.list].map R.av)):=by
 have e0:P.av=.agg [.list (P.progs.map Qj),.list (P.enums.map Qt)]:=rfl;have hlen:=W9 v;have cw:=QGx o.num o.name o.alias 2 o.key o.kind o.target o.union;have hw2:C3 2 o.kind=wk o.kind:=by
  have e:pk 2 o.kind=false:=by simp[pk]
  unfold C3;rw[e];rfl
 rw[hw2]at cw;simp only[oc]at cw;have hcv:∃b:UInt8,IntKind.u8.wrap (wk o.kind)=(b.toNat:Int)∧UInt8.ofNat (wk o.kind).toNat=b:=by
  rcases QAz hp with h|h|h<;>rw[h]
  ·exact⟨0,rfl,rfl⟩
  ·exact⟨1,rfl,rfl⟩
  ·exact⟨2,rfl,rfl⟩
 obtain⟨b0,hb0,hb1⟩:=hcv;have hpk:Be o v.list=⟨o.num,5,0,b0 :: v.list.flatMap (Ge (wk o.kind))⟩:=by unfold Be;rw[hb1]
 rw[hpk];clear hpk hb1
 let F:Nat→List UInt8:=fun i=>b0 :: (v.list.take i).flatMap (Ge (wk o.kind))
 have hF0:F 0=[b0]:=by simp[F]
 have hFn:F v.list.length=b0 :: v.list.flatMap (Ge (wk o.kind)):=by simp[F]
 have hFl:∀i,i≤v.list.length→(F i).length≤1+10*i:=by
  intro i hi;have:=GM (wk o.kind) (v.list.take i);rw[QM1]at this;simp only[F,QMk];omega
 have hFs:∀i x,v.list[i]? = some x→F (i+1)=F i++Ge (wk o.kind) x:=by
  intro i x hx;simp only[F];rw[QNK,hx,List.flatMap_append];simp
 rw[←hFn]
 clear_value F
 clear hFn;have hbl:∀s:List UInt8,(Qy s).length=s.length:=fun s=>by simp[Qy]
 rw[QL v];refine QbJ.fn (by simp) ?_;simp only[e0,QA,PO.cells,eE,seval];refine Qb cw rfl rfl rfl (.inl rfl) ?_;simp only[hb0,Qa,seval];refine Cf (y:=[.int .u8 (b0.toNat:Int)]) rfl rfl rfl rfl ?_;simp only[QMZ,eE,seval];refine Qf (PkI o v.list F) _ ⟨_,_,0,_,rfl,rfl,QMd _,(by rfl),(by rfl),(by rw[hF0];exact(by rfl)),(by rfl),(by rfl),(by rfl),(by rfl),(by rw[hF0];exact(by rfl)),KD rfl⟩ ?_;rintro _ st ⟨f0,fr0,i,g,rfl,rfl,hil,h40,h80,h90,h210,h220,h230,m40,mR0,Nj⟩;refine QM (a:=_) [11] Nj ?_;intro f fr hf hm hn11;have h4:f 4=.ptr 0 4 0:=by rw[hf,h40]<;>rfl
 have h8:f 8=.int .i64 (wk o.kind):=by rw[hf,h80]<;>rfl
 have h9:f 9=.vec 0 19 g 0 (F i).length false:=by rw[hf,h90]<;>rfl
 have h21:f 21=.list (v.list.map V.av):=by rw[hf,h210]<;>rfl
 have h22:f 22=.int .i64 (v.list.length:Nat):=by rw[hf,h220]<;>rfl
 have h23:f 23=.int .i64 (i:Nat):=by rw[hf,h230]<;>rfl
 have m4':fr 4=.cells o.cells:=by rw[hm 4 (by decide),m40]<;>rfl
 have mR:fr 19=.vec g 1 (Qy (F i)):=by rw[hm 19 (by decide),mR0]<;>rfl
 have n11:=hn11 11 (by decide);clear hf hm hn11 h40 h80 h90 h210 h220 h230 m40 mR0 Nj;have m4:=m4';simp only[PO.cells]at m4;simp only[h22,h23,Qa,seval];by_cases hlt:i<v.list.length
 ·obtain⟨x,hi⟩:∃x,v.list[i]? = some x:=⟨v.list[i],QL6 hlt⟩;have hx:=QMi hi;have hg:=GH hi;have e1:=Qq i _ hlt (by simp only[maxLen];omega);have c1:=t25 (hv.list x hx);rw[Qty]at c1;have hbb:(Zb x.kd x.bits x.text).bits<18446744073709551616:=De (okb (hv.list x hx)) _;have hFi:=hFl i (by omega);have hFx:=hFs i x hi;have hpx:=Np (wk o.kind) x;have epx:Ge (wk o.kind) x=Bd (wk o.kind) (Zb x.kd x.bits x.text).bits:=rfl;rw[epx]at hFx hpx;clear epx;generalize Zb x.kd x.bits x.text=z at c1 hbb hFx hpx;rw[QL x]at c1;simp only[R.av]at c1;simp only[Qo hlt,Qm,QNt,Qd,hg,n11,h21,h23,eE,seval];refine Qb c1 rfl rfl rfl (.inl rfl) ?_;by_cases w2:wk o.kind=2
  ·have b2:(wk o.kind==2)=true:=by simp[w2]
   have epb:Bd (wk o.kind) z.bits=fx 8 z.bits:=by unfold Bd;rw[QMy w2]
   rw[epb]at hFx hpx;simp only[b2,h8,h9,Qa,seval];refine Qb (Qtq z.bits) rfl rfl rfl (.inl rfl) ?_;refine Yv (site:=19) (g:=g) (xs:=Qy (F i)) (by rfl) (by exact mR) rfl (hbl _).symm rfl (by omega) ?_;simp only[h23,e1,eE,seval];exact⟨v.list.length-(i+1),by omega,_,_,i+1,g+1,rfl,rfl,by omega,(by exact h4),(by exact h8),(by rw[hFx,QMH];exact(by rfl)),(by exact h21),(by exact h22),(by rfl),(by exact m4'),(by rw[hFx,show Qy (F i++fx 8 z.bits)=Qy (F i)++Qy (fx 8 z.bits)by simp[Qy]];exact(by rfl)),KD rfl⟩
  ·have b2:(wk o.kind==2)=false:=by simp[w2]
   have epb:Bd (wk o.kind) z.bits=Vp.put z.bits:=by unfold Bd;rw[QMj w2]
   rw[epb]at hFx hpx;simp only[b2,h8,h9,Qa,seval];refine Qb (VA z.bits hbb) rfl rfl rfl (.inl rfl) ?_;refine Yv (site:=19) (g:=g) (xs:=Qy (F i)) (by rfl) (by exact mR) rfl (hbl _).symm rfl (by omega) ?_;simp only[h23,e1,eE,seval];exact⟨v.list.length-(i+1),by omega,_,_,i+1,g+1,rfl,rfl,by omega,(by exact h4),(by exact h8),(by rw[hFx,QMH];exact(by rfl)),(by exact h21),(by exact h22),(by rfl),(by exact m4'),(by rw[hFx,show Qy (F i++Vp.put z.bits)=Qy (F i)++Qy (Vp.put z.bits)by simp[Qy]];exact(by rfl)),KD rfl⟩
 ·have e:i=v.list.length:=by omega
  subst e;have he:Q8 [fr] (.vec 0 19 g 0 (F v.list.length).length false)=some (Qy (F v.list.length)):=Yu mR (hbl _).symm;have hbo:bytesOf (Qy (F v.list.length))=some (F v.list.length):=Yb _;simp only[QE hlt,h4,h9,m4,he,hbo,eE,seval];refine QZ (l:=[(R.mk o.num 5 0 (F v.list.length)).av]) rfl rfl rfl rfl ?_;simp only[QMB,QM5,Qa,seval]

def Bk (o:PO):Nat:=if o.card=5 then 118 else if pk o.card o.kind=true then 120 else if o.card=4 then 121 else 122

theorem t73:Qp Tryz.prog 73 [QA o] (.fn (.func (Bk o)) [] []):=by
 have cp:=QrU o.num o.name o.alias o.card o.key o.kind o.target o.union;simp only[oc]at cp;unfold Bk;refine k73.fn (by simp) ?_;simp only[QA,PO.cells,eE,seval];by_cases h5:o.card=5
 ·have b5:(o.card==5)=true:=by simp[h5]
  rw[QMy h5];simp only[b5,Qa,seval]
 have b5:(o.card==5)=false:=by simp[h5]
 rw[QMj h5];simp only[b5,eE,seval];refine Qb cp rfl rfl rfl (.inl rfl) ?_;cases hp:pk o.card o.kind
 case true=>simp only[Qa,seval]
 simp only[eE,seval];by_cases h4:o.card=4
 ·have b4:(o.card==4)=true:=by simp[h4]
  simp only[h4,Qa,seval]
 ·have b4:(o.card==4)=false:=by simp[h4]
  simp only[b4,h4,Qa,seval]

theorem QJv (hel:∀x:V,x.ok M→x.cnt≤1048576→QT m P o x=0→Qp Tryz.prog 197 [P.av,QA o,x.av] (Xu bd o 0 x).av)(v:V)(hv:v.ok M)(hc:v.cnt≤1048576)(he:QT m P o v=0) :
  Qp Tryz.prog 122 [P.av,QA o,v.av] (.list ([Xu bd o o.num v].map R.av)):=by
 have e0:P.av=.agg [.list (P.progs.map Qj),.list (P.enums.map Qt)]:=rfl;have c1:=hel v hv hc he;have c2:=VC o.num (Xu bd o 0 v);rw[GP]at c2;generalize Xu bd o 0 v=y at c1 c2;generalize Xu bd o o.num v=z at c2 ⊢;rw[e0,QL v]at c1;simp only[QA,PO.cells,R.av]at c1 c2;rw[QL v];refine QbO.fn (by simp) ?_;simp only[e0,QA,PO.cells,eE,seval];refine Qb c1 rfl rfl rfl (.inl rfl) ?_;refine Qb c2 rfl rfl rfl (.inl rfl) ?_;refine QZ (l:=[z.av]) rfl rfl rfl rfl ?_;simp only[QMB,QM5,Qa,seval]

include ho in
theorem QAB (hbd:∀(t:Int) (v:V),(0≤t∧t<(P.progs.length:Int))→m (Xb P t) v=0→(bd t v).length+70000≤70000*v.cnt)(hb:∀(t:Int) (g:PG),P.progs[t.toNat]? = some g→0≤t→∀v:V,v.ok M→v.cnt≤1048576→m g v=0→Qp Tryz.prog 29 [P.av,.int .i64 t,v.av] (.str (bd t v)))(v:V)(hv:v.ok M)(hc:v.cnt≤1048576)(hf:XB m P o v=0) :
  Qp Tryz.prog (Bk o) [P.av,QA o,v.av] (.list ((Gf bd o v).map R.av)):=by
 have hel:=fun(x:V) (hx:x.ok M) (hxc:x.cnt≤1048576) (he:QT m P o x=0)=>QJp o ho hb x hx hxc he
 unfold Bk Gf;unfold XB at hf;by_cases h5:o.card=5
 ·rw[QMy h5]at hf;rw[QMy h5,QMy h5];split at hf
  ·omega
  exact QJt o ho hbd hel v hv hc (WD.1 hf).1
 rw[QMj h5]at hf;rw[QMj h5,QMj h5];by_cases hp:pk o.card o.kind=true
 ·rw[QMy hp,QMy hp];exact QJu o hp v hv hc
 rw[QMj hp,QMj hp];by_cases h4:o.card=4
 ·rw[QMy h4]at hf;rw[QMy h4,QMy h4];split at hf
  ·omega
  exact QJs o hel v hv hc (WE.1 hf)
 ·rw[QMj h4]at hf;rw[QMj h4,QMj h4];exact QJv o hel v hv hc hf
end

section
variable {M:Nat}{P:PL}{m:PG→V→Int}{bd:Int→V→List UInt8}

theorem t37 (hU:HM P)(hP:P.ok M)(hbd:∀(t:Int) (v:V),(0≤t∧t<(P.progs.length:Int))→m (Xb P t) v=0→(bd t v).length+70000≤70000*v.cnt)(hb:∀(t:Int) (g:PG),P.progs[t.toNat]? = some g→0≤t→∀v:V,v.ok M→v.cnt≤1048576→m g v=0→Qp Tryz.prog 29 [P.av,.int .i64 t,v.av] (.str (bd t v)))(t:Int)(g:PG)(hgt:P.progs[t.toNat]? = some g)(t0:0≤t)(s:Int×V)(hv:s.2.ok M)(hc:s.2.cnt≤1048576)(o:PO)(ho:XZ g s.1=some o)(hf:XB m P o s.2=0) :
  Qp Tryz.prog 37 [P.av,.int .i64 t,V.sav s] (.list ((Gg bd g s).map R.av)):=by
 have e0:P.av=.agg [.list (P.progs.map Qj),.list (P.enums.map Qt)]:=rfl;have hgm:=QMi hgt;obtain⟨hom,hon⟩:=J1 ho;have c1:=R7 g (hP.progs g hgm).len s.1;rw[Ua,ho]at c1;have c2:=t73 o;have c3:=QAB o (hU g hgm o hom) hbd hb s.2 hv hc hf;have hsl:Gg bd g s=Gf bd o s.2:=by unfold Gg;rw[ho]
 rw[hsl];obtain⟨ti,hti⟩:=QNF t0;subst hti;rw[QNt]at hgt;have hga:(P.progs.map Qj)[ti]? = some (.agg g.cells):=by simp[hgt,Qj]
 generalize Gf bd o s.2=z at c3 ⊢;generalize Bk o=k at c2 c3;simp only[PG.cells]at hga;rw[e0,QL s.2]at c3;simp only[Qj,QA,PG.cells,PO.cells,QNd,QNN]at c1 c2 c3;rw[ZK];refine k37.fn (by simp) ?_;simp only[e0,Qm,QNt,Qd,hga,eE,seval];refine Qb c1 rfl rfl rfl (.inl rfl) ?_;simp only[eE,seval];refine Qb c2 rfl rfl rfl (.inl rfl) ?_;simp only[eE,seval];refine JF (fa:=[]) (fb:=[]) (by rfl) c3 rfl rfl rfl (.inl rfl) ?_;simp only[Qa,seval]

end

section
variable (bd:Int→V→List UInt8)(g:PG)
theorem IM {s:Int×V}{sl:List (Int×V)}{r:R}{rs:List R}(h:r.num<s.1):Zc bd g (s :: sl) (r :: rs)=r :: Zc bd g (s :: sl) rs:=by
 have d:decide (r.num<s.1)=true:=QNQ h;rw[Zc,Zc,List.takeWhile_cons,List.dropWhile_cons,QMy d,QMy d];rfl
theorem Ns {s:Int×V}{sl:List (Int×V)}{rs:List R}(h:∀r l,rs=r :: l→¬r.num<s.1):Zc bd g (s :: sl) rs=Gg bd g s++Zc bd g sl rs:=by
 rw[Zc];cases rs with
 |nil=>rfl
 |cons r l=>
  have d:¬decide (r.num<s.1)=true:=fun e=>h r l rfl (of_decide_eq_true e)
  rw[List.takeWhile_cons,List.dropWhile_cons,QMj d,QMj d];rfl
end

structure BoF (P:PL)(t:Nat)(S:List (Int×V))(f:Fr)(fr:Nat→Ob)(i g:Nat)(out rest:List R):Prop where
 f1:f 1=.int .i64 (t:Nat)
 f3:f 3=.ptr 0 3 0
 f8:f 8=.vec 0 8 g 0 out.length false
 f9:f 9=.list (rest.map R.av)
 f20:f 20=.list (S.map V.sav)
 f21:f 21=.int .i64 (S.length:Nat)
 f22:f 22=.int .i64 (i:Nat)
 m3:fr 3=.cells [.list (P.progs.map Qj),.list (P.enums.map Qt)]
 mR:fr 8=.vec g 4 (out.map R.av)

section
variable {M:Nat}{P:PL}

theorem QAC (bd:Int→V→List UInt8)(g:PG)(t:Nat)(S:List (Int×V))(i:Nat)(s:Int×V)(sl:List (Int×V))(T:List R)(hT:T.length≤3000000000000)(f:Fr)(fr:Nat→Ob)(gn:Nat)(out rest:List R)(h:BoF P t S f fr i gn out rest)(h11:f 11=.ptr 0 11 0)(m11:fr 11=.cells [.int .i64 s.1,.int .i64 s.2.kd,.int .u64 (s.2.bits:Nat),.str s.2.text,.list (s.2.list.map V.av),.list (s.2.pairs.map V.pav),.list (s.2.slots.map V.sav),.list (s.2.raws.map R.av)])(hi:out++Zc bd g (s :: sl) rest=T)(Q:Exit→St→Prop)
  (q:∀f fr gn out rest,BoF P t S f fr i gn out rest→f 11=.ptr 0 11 0→fr 11=.cells [.int .i64 s.1,.int .i64 s.2.kd,.int .u64 (s.2.bits:Nat),.str s.2.text,.list (s.2.list.map V.av),.list (s.2.pairs.map V.pav),.list (s.2.slots.map V.sav),.list (s.2.raws.map R.av)]→out++(Gg bd g s++Zc bd g sl rest)=T→Q (.exit 2) (⟨f,[fr],[]⟩:St)) :
  QJ Tryz.prog (.loop Rh) ⟨f,[fr],[]⟩ Q:=by
 let I:Nat→St→Prop:=fun k st=>∃f fr gn out rest,st=⟨f,[fr],[]⟩∧k=rest.length∧BoF P t S f fr i gn out rest∧f 11=.ptr 0 11 0∧fr 11=.cells [.int .i64 s.1,.int .i64 s.2.kd,.int .u64 (s.2.bits:Nat),.str s.2.text,.list (s.2.list.map V.av),.list (s.2.pairs.map V.pav),.list (s.2.slots.map V.sav),.list (s.2.raws.map R.av)]∧out++Zc bd g (s :: sl) rest=T
 refine Qf I _ ⟨f,fr,gn,out,rest,rfl,rfl,h,h11,m11,hi⟩ ?_;clear h h11 m11 hi;rintro _ st ⟨f,fr,gn,out,rest,rfl,rfl,⟨h1,h3,h8,h9,h20,h21,h22,m3,mR⟩,h11,m11,hi⟩;simp only[Qa,seval];cases rest with
 |nil=>
  have d1:decide (((0:Nat):Int) > 0)=false:=rfl;simp only[QM5,QM0,h9,Qa,seval];exact q _ _ gn out [] ⟨(by exact h1),(by exact h3),(by exact h8),(by exact h9),(by exact h20),(by exact h21),(by exact h22),m3,mR⟩ (by exact h11) m11 (by rw[←hi,Ns];intro r l e;cases e)
 |cons r l=>
  have d1:decide (((l.length+1:Nat):Int) > 0)=true:=QNQ (by omega);have hml:(l.map R.av).length=l.length:=QMZ ..;by_cases hr:r.num<s.1
  ·have d2:decide (r.num<s.1)=true:=QNQ hr;rw[IM bd g hr]at hi;have hol:out.length+1≤T.length:=by rw[←hi];simp
   have hs1:(1≤((r :: l).map R.av).length)=True:=eq_true (by simp);have hs3:=UT (r :: l);have hs2:List.take (((r :: l).map R.av).length-1) (List.drop 1 ((r :: l).map R.av))=l.map R.av:=by simp[QMD]
   simp only[QMB,QMk,hml,d1,d2,R.av,QM6,Qd,h8,h9,h11,m11,eE,seval];refine QZ (l:=[r.av]) rfl rfl rfl rfl ?_;refine QR (site:=8) (g:=gn) (n:=out.length) (xs:=out.map R.av) (ys:=[r.av]) (by rfl) (by exact mR) rfl (by rw[QMZ]) rfl (UT [r]) (by simp only[QMk,QM0,maxLen];omega) (by simp only[QMk,QM0];omega) ?_;simp only[ZC,Zi,Q5,QNA,hs1,hs2,hs3,QL3,or_true,and_self,QMk,QM0,h9,Qa,seval];exact⟨l.length,by simp,_,_,gn+1,out++[r],l,rfl,rfl,⟨(by exact h1),(by exact h3),by rw[QMH];exact(by rfl),(by rfl),(by exact h20),(by exact h21),(by exact h22),(by exact m3),by rw[QNJ];exact(by rfl)⟩,(by exact h11),(by exact m11),by rw[←hi];simp⟩
  ·have d2:decide (r.num<s.1)=false:=QNM hr;simp only[QMB,QMk,hml,d1,d2,R.av,QM6,Qd,h9,h11,m11,eE,seval];exact q _ _ gn out (r :: l) ⟨(by exact h1),(by exact h3),(by exact h8),(by exact h9),(by exact h20),(by exact h21),(by exact h22),m3,mR⟩ (by exact h11) m11 (by rw[←hi,Ns];intro r' l' e;cases e;exact hr)

def BoI (P:PL)(bd:Int→V→List UInt8)(g:PG)(t:Nat)(S:List (Int×V))(T:List R)(k:Nat)(st:St):Prop :=
 ∃f fr i gn out rest,st=⟨f,[fr],[]⟩∧k=S.length-i∧i≤S.length∧BoF P t S f fr i gn out rest∧out++Zc bd g (S.drop i) rest=T∧∀s∈[11],(fr s).isRow=false

theorem t29 (hP:P.ok M)(hU:HM P)(hr:Wf P)(hcd:Vz P)(hG:∀t,Gd (Xb P t)):∀(n:Nat) (t:Int) (g:PG),P.progs[t.toNat]? = some g→0≤t→∀v:V,v.ok M→v.cnt≤1048576→XC P n g v=0→Qp Tryz.prog 29 [P.av,.int .i64 t,v.av] (.str (Jl P n t v)):=by
 have e0:P.av=.agg [.list (P.progs.map Qj),.list (P.enums.map Qt)]:=rfl;intro n
 induction n with
 |zero=>
  intro t g _ _ v _ _ h;exact(Dt 0 _ _ h).elim
 |succ n ih=>
  intro t g hgt t0 v hv hc h;have hgm:=QMi hgt;have hq:Xb P t=g:=by unfold Xb;rw[hgt];rfl
  have cn:=v57 hP hU hr hcd (n+1) t g hgt t0 v hv hc (Dt _ _ _ h);have hw:=Qtt hU hr hgm h;have hnok:=MK hG (n+1) t v hv;have hncn:=Y9 hr (n+1) g (hr g hgm) v;have hfit:=W7 hU hr (n+1) g hgm v h;obtain⟨_,_,_,hraw⟩:=KF.1 hfit;rw[hq]at hnok;rw[Jl,hq];generalize Zu P (n+1) g v=w at cn hw hnok hncn hraw;have hwc:w.cnt≤1048576:=by omega
  have hbl:=fun t v ht hm=>Nq hU hr n t v ht hm
  have hrw:=UW (m:=XC P n) (bd:=Jl P n) (g:=g) hbl w.slots w.raws (fun x hx=>by
   obtain⟨o,ho,hx,_⟩:=hw x hx;exact⟨o,ho,hU _ hgm o (J1 ho).1,hx⟩) hraw
  have hcs:w.raws.length+Xa w.slots≤w.cnt:=by rw[Xg w];omega
  have hpn:=Bi (l:=Zc (Jl P n) g w.slots w.raws) (Nr (Jl P n) g w.slots w.raws (fun s hs=>hnok.slots s hs) (fun f hf=>by
   have:=DZ (hnok.raws f hf).bits;show f.bits<_;omega)) (by omega)
  have cput:=c58 _ hpn.1 hpn.2.1 hpn.2.2;have hTl:=GN (Zc (Jl P n) g w.slots w.raws);have csl:=fun(s:Int×V) (hs:s∈w.slots)=>(hw s hs).elim fun o ho=>t37 hU hP hbl ih t g hgt t0 s (hnok.slots s hs) (QL4 (F7 hs) hwc) o ho.1 ho.2.1
  have ls:=YP w;generalize hTe:Zc (Jl P n) g w.slots w.raws=T at hrw hpn cput hTl;have hTm:T.length≤3000000000000:=by omega
  clear hpn hraw hrw hw hfit;obtain⟨ti,hti⟩:=QNF t0;subst hti;rw[e0,QL v,QL w]at cn;rw[QL v];refine k29.fn (by simp) ?_;simp only[e0,eE,seval];refine Qb cn rfl rfl rfl (.inl rfl) ?_;simp only[eE,seval];refine X4 rfl rfl ?_;simp only[QMZ,eE,seval];refine Qf (BoI P (Jl P n) g ti w.slots T) _ ⟨_,_,0,_,[],w.raws,rfl,rfl,QMd _,⟨(by rfl),(by rfl),(by rfl),(by rfl),(by rfl),(by rfl),(by rfl),(by rfl),(by rfl)⟩,hTe,KD rfl⟩ ?_;rintro _ st ⟨f0,fr0,i,gn,out,rest,rfl,rfl,hil,⟨h10,h30,h80,h90,h200,h210,h220,m30,mR0⟩,hi0,Nj⟩;refine QM (a:=_) [11] Nj ?_;intro f fr hf hm hn11;have h1:f 1=.int .i64 (ti:Nat):=by rw[hf,h10]<;>rfl
  have h3:f 3=.ptr 0 3 0:=by rw[hf,h30]<;>rfl
  have h8:f 8=.vec 0 8 gn 0 out.length false:=by rw[hf,h80]<;>rfl
  have h9:f 9=.list (rest.map R.av):=by rw[hf,h90]<;>rfl
  have h20:f 20=.list (w.slots.map V.sav):=by rw[hf,h200]<;>rfl
  have h21:f 21=.int .i64 (w.slots.length:Nat):=by rw[hf,h210]<;>rfl
  have h22:f 22=.int .i64 (i:Nat):=by rw[hf,h220]<;>rfl
  have m3:fr 3=.cells [.list (P.progs.map Qj),.list (P.enums.map Qt)]:=by rw[hm 3 (by decide),m30]<;>rfl
  have mR:fr 8=.vec gn 4 (out.map R.av):=by rw[hm 8 (by decide),mR0]<;>rfl
  have n11:=hn11 11 (by decide);clear hf hm hn11 h10 h30 h80 h90 h200 h210 h220 m30 mR0 Nj;simp only[h21,h22,Qa,seval];by_cases hlt:i<w.slots.length
  ·obtain⟨x,hi⟩:∃x,w.slots[i]? = some x:=⟨w.slots[i],QL6 hlt⟩;have hx:=QMi hi;have hgs:=W6 hi;have e1:=Qq i _ hlt (by simp only[maxLen];omega);have hdr:w.slots.drop i=x :: w.slots.drop (i+1):=by rw[QMN hlt,(QL5.1 hi).2]
   have c1:=csl x hx;rw[hdr]at hi0;simp only[Qo hlt,Qm,QNt,Qd,hgs,n11,h20,h22,eE,seval];refine QAC (Jl P n) g ti w.slots i x (w.slots.drop (i+1)) T hTm _ _ gn out rest ⟨(by exact h1),(by exact h3),(by exact h8),(by exact h9),(by exact h20),(by exact h21),(by exact h22),(by exact m3),(by exact mR)⟩ (by rfl) (by rfl) hi0 _ ?_;clear h1 h3 h8 h9 h20 h21 h22 m3 mR n11 hi0 out rest gn f fr;rintro f fr gn out rest ⟨h1,h3,h8,h9,h20,h21,h22,m3,mR⟩ h11 m11 hi0;rw[e0,ZK x]at c1;generalize Gg (Jl P n) g x=z at c1 hi0;have hol:out.length+z.length≤T.length:=by rw[←hi0];simp
   simp only[h1,h3,h8,h11,m3,m11,eE,seval];refine Qb c1 rfl rfl rfl (.inl rfl) ?_;refine QR (site:=8) (g:=gn) (n:=out.length) (xs:=out.map R.av) (ys:=z.map R.av) (by rfl) (by exact mR) rfl (by rw[QMZ]) rfl (UT z) (by simp only[QMZ,maxLen];omega) (by simp only[QMZ];omega) ?_;simp only[QMZ,h22,e1,Qa,seval];exact⟨w.slots.length-(i+1),by omega,_,_,i+1,gn+1,out++z,rest,rfl,rfl,by omega,⟨(by exact h1),(by exact h3),by rw[QMH];exact(by rfl),(by exact h9),(by exact h20),(by exact h21),(by rfl),(by exact m3),by rw[QNJ];exact(by rfl)⟩,by rw[←hi0,QMq],KD (by simp only[m11,Qa,seval]<;>rfl)⟩
  ·have e:i=w.slots.length:=by omega
   subst e;have hi1:out++rest=T:=by rw[←hi0,List.drop_length];rfl
   have hol:out.length+rest.length=T.length:=by rw[←hi1];simp
   simp only[QE hlt,h8,h9,Qa,seval];refine QR (site:=8) (g:=gn) (n:=out.length) (xs:=out.map R.av) (ys:=rest.map R.av) (by rfl) (by exact mR) rfl (by rw[QMZ]) (by rfl) (UT rest) (by simp only[QMZ,maxLen];omega) (by simp only[QMZ];omega) ?_;rw[←hi1]at cput;refine Qb cput ?_ rfl rfl (.inr rfl) ?_
   ·simp only[QMB,QM5,AV.stillL,AV.still,QMZ,eE,seval];simp[Gb,QMD]
   rw[←hi1];simp only[Qa,seval]

end
end Go.Proofs.YtipjfckmopekaaaGreatDoor.Va

namespace Go.Proofs.YtipjfckmopekaaaGreatDoor.Va
open Go Am Rc Bt Br Up

def Ux (p:Prop)(v:AV):Prop:=∃b,v=.bool b∧(b=true→p)
theorem Ux.rf {p:Prop}{v:AV}{l:List AV}(h:Ux p v):v.rf=true∧(AV.rfL l=true∨v.nl=true):=by
 obtain⟨b,rfl,_⟩:=h;exact⟨rfl,.inr rfl⟩

def RN (n:Nat)(lf:Int)(a:AV):Prop:=∃r:Int,a=.int .i64 r∧-1≤r∧(0≤r→(n:Int)+r≤lf)
theorem RN.rf {n:Nat}{lf:Int}{v:AV}{l:List AV}(h:RN n lf v):v.rf=true∧(AV.rfL l=true∨v.nl=true):=by
 obtain⟨b,rfl,_⟩:=h;exact⟨rfl,.inr rfl⟩
theorem Gi (n:Nat)(lf:Int):RN n lf (.int .i64 (-1)):=⟨-1,rfl,by omega,by omega⟩
theorem QAD {n:Nat}{lf r:Int}(h : -1≤r)(h1:0≤r→(n:Int)+r≤lf):RN n lf (.int .i64 r):=⟨r,rfl,h,h1⟩

def CnI (v:V)(lv lf:Int)(a:Nat)(S:Nat→Nat)(len:Nat)(k:Nat)(st:St):Prop :=
 ∃f fr i,∃r:Int,st=⟨f,[fr],[]⟩∧k=len-i∧i≤len∧f 3=.ptr 0 3 0∧fr 3=.cells (vc v)∧f 1=.int .i64 lv∧f 2=.int .i64 r∧f a=.int .i64 (i:Nat)∧-1≤r∧(0≤r→(S i:Int)+r≤lf)

def CrI (v:V)(lv lf:Int)(k:Nat)(st:St):Prop :=
 ∃f fr i,st=⟨f,[fr],[]⟩∧k=v.raws.length-i∧i≤v.raws.length∧f 3=.ptr 0 3 0∧fr 3=.cells (vc v)∧f 1=.int .i64 lv∧f 2=.int .i64 lf∧f 7=.int .i64 (i:Nat)

section
variable {M:Nat}

theorem IN {v:V}(hv:v.ok M){lv lf:Int}(l0:0≤lv)(l1:lv≤40){b:Nat}(hlf:lf≤1000000)
  (hx:∀x∈v.list,∀lf:Int,0≤lf→lf≤1000000→K2 Tryz.prog 23 [(x).av,.int .i64 (lv+1),.int .i64 lf] (RN (x).cnt lf))
  (f:Fr) (fr:Nat→Ob) (r:Int) (h3:f 3=.ptr 0 3 0) (m3:fr 3=.cells (vc v)) (h1:f 1=.int .i64 lv) (h2:f 2=.int .i64 r) (ha:f 8=.int .i64 0) (r0 : -1≤r) (r1:0≤r→(b:Int)+r≤lf) (Q:Exit→St→Prop)
  (q:∀(f:Fr) (fr:Nat→Ob) (r:Int),f 3=.ptr 0 3 0→fr 3=.cells (vc v)→f 1=.int .i64 lv→f 2=.int .i64 r→-1≤r→(0≤r→((b+Q9 v.list:Nat):Int)+r≤lf)→Q (.exit 2) (⟨f,[fr],[]⟩:St)) :
  QJ Tryz.prog (.loop S4) ⟨f,[fr],[]⟩ Q:=by
 have n1:=hv.nl;have n2:=hv.np;have n3:=hv.ns;refine Qf (CnI v lv lf 8 (fun i=>b+Q9 (v.list.take i)) v.list.length) _ ⟨f,fr,0,r,rfl,rfl,QMd _,h3,m3,h1,h2,ha,r0,fun h=>by have:=r1 h;simp only[QNc,Q9,QMA];omega⟩ ?_;clear h3 m3 h1 h2 ha r0 r1;rintro _ st ⟨f,fr,i,r,rfl,rfl,hil,h3,m3',h1,h2,ha,r0,r1⟩;dsimp only at r1;have m3:=m3';simp only[vc]at m3;simp only[QMZ,h3,m3,ha,eE,seval];by_cases hlt:i<v.list.length
 ·have d:∀r:Int,0≤r→decide (r≥0)=true:=fun r h=>QNQ h
  have d':∀r:Int,¬0≤r→decide (r≥0)=false:=fun r h=>QNM h
  by_cases hr:0≤r
  ·obtain⟨x,hi⟩:∃x,v.list[i]? = some x:=⟨v.list[i],QL6 hlt⟩;have hm:=QMi hi;have hg:=GH hi;have e1:=Qq i _ hlt (by simp only[maxLen];omega);have e2:IntKind.i64.wrap (lv+1)=lv+1:=by rw[QF];omega
   have rr:=r1 hr;have c1:=hx x hm r hr (by omega);rw[QL]at c1;simp only[Qo hlt,d r hr,Qm,QNt,Qd,hg,QMC,QMM,h3,m3,h1,h2,ha,e2,eE,seval];refine Zg (R:=RN (x).cnt r) c1 rfl rfl (fun _ h=>h.rf) ?_;rintro _ ⟨s,rfl,s0,s1⟩;simp only[ha,e1,Qa,seval];exact⟨v.list.length-(i+1),by omega,_,_,i+1,s,rfl,rfl,by omega,(by exact h3),(by exact m3'),(by exact h1),(by rfl),(by rfl),s0,fun h=>by show((b+Q9 (v.list.take (i+1)):Nat):Int)+s≤lf;rw[G8 hi];have:=s1 h;omega⟩
  ·simp only[Qo hlt,d' r hr,h2,Qa,seval];exact q _ _ r (by exact h3) (by exact m3') (by exact h1) (by exact h2) r0 (fun h=>absurd h hr)
 ·have e:i=v.list.length:=by omega
  subst e;simp only[QNB]at r1;simp only[QE hlt,Qa,seval];exact q _ _ r (by exact h3) (by exact m3') (by exact h1) (by exact h2) r0 r1

theorem IP {v:V}(hv:v.ok M){lv lf:Int}(l0:0≤lv)(l1:lv≤40){b:Nat}(hlf:lf≤1000000)
  (hx:∀x∈v.slots,∀lf:Int,0≤lf→lf≤1000000→K2 Tryz.prog 23 [(x.2).av,.int .i64 (lv+1),.int .i64 lf] (RN (x.2).cnt lf))
  (f:Fr) (fr:Nat→Ob) (r:Int) (h3:f 3=.ptr 0 3 0) (m3:fr 3=.cells (vc v)) (h1:f 1=.int .i64 lv) (h2:f 2=.int .i64 r) (ha:f 10=.int .i64 0) (r0 : -1≤r) (r1:0≤r→(b:Int)+r≤lf) (Q:Exit→St→Prop)
  (q:∀(f:Fr) (fr:Nat→Ob) (r:Int),f 3=.ptr 0 3 0→fr 3=.cells (vc v)→f 1=.int .i64 lv→f 2=.int .i64 r→-1≤r→(0≤r→((b+Xa v.slots:Nat):Int)+r≤lf)→Q (.exit 6) (⟨f,[fr],[]⟩:St)) :
  QJ Tryz.prog (.loop S6) ⟨f,[fr],[]⟩ Q:=by
 have n1:=hv.nl;have n2:=hv.np;have n3:=hv.ns;refine Qf (CnI v lv lf 10 (fun i=>b+Xa (v.slots.take i)) v.slots.length) _ ⟨f,fr,0,r,rfl,rfl,QMd _,h3,m3,h1,h2,ha,r0,fun h=>by have:=r1 h;simp only[QNc,Xa,QMA];omega⟩ ?_;clear h3 m3 h1 h2 ha r0 r1;rintro _ st ⟨f,fr,i,r,rfl,rfl,hil,h3,m3',h1,h2,ha,r0,r1⟩;dsimp only at r1;have m3:=m3';simp only[vc]at m3;simp only[QMZ,h3,m3,ha,eE,seval];by_cases hlt:i<v.slots.length
 ·have d:∀r:Int,0≤r→decide (r≥0)=true:=fun r h=>QNQ h
  have d':∀r:Int,¬0≤r→decide (r≥0)=false:=fun r h=>QNM h
  by_cases hr:0≤r
  ·obtain⟨x,hi⟩:∃x,v.slots[i]? = some x:=⟨v.slots[i],QL6 hlt⟩;have hm:=QMi hi;have hg:=W6 hi;have e1:=Qq i _ hlt (by simp only[maxLen];omega);have e2:IntKind.i64.wrap (lv+1)=lv+1:=by rw[QF];omega
   have rr:=r1 hr;have c1:=hx x hm r hr (by omega);rw[QL]at c1;simp only[Qo hlt,d r hr,Qm,QNt,Qd,hg,QMC,QMF,QMM,h3,m3,h1,h2,ha,e2,eE,seval];refine Zg (R:=RN (x.2).cnt r) c1 rfl rfl (fun _ h=>h.rf) ?_;rintro _ ⟨s,rfl,s0,s1⟩;simp only[ha,e1,Qa,seval];exact⟨v.slots.length-(i+1),by omega,_,_,i+1,s,rfl,rfl,by omega,(by exact h3),(by exact m3'),(by exact h1),(by rfl),(by rfl),s0,fun h=>by show((b+Xa (v.slots.take (i+1)):Nat):Int)+s≤lf;rw[Mh hi];have:=s1 h;omega⟩
  ·simp only[Qo hlt,d' r hr,h2,Qa,seval];exact q _ _ r (by exact h3) (by exact m3') (by exact h1) (by exact h2) r0 (fun h=>absurd h hr)
 ·have e:i=v.slots.length:=by omega
  subst e;simp only[QNB]at r1;simp only[QE hlt,Qa,seval];exact q _ _ r (by exact h3) (by exact m3') (by exact h1) (by exact h2) r0 r1

theorem IQ {v:V}(hv:v.ok M){lv lf:Int}(l0:0≤lv)(l1:lv≤40){b:Nat}(hlf:lf≤1000000)
  (hx:∀x∈v.pairs,∀lf:Int,0≤lf→lf≤1000000→K2 Tryz.prog 23 [x.1.av,.int .i64 (lv+1),.int .i64 lf] (RN x.1.cnt lf)∧K2 Tryz.prog 23 [x.2.av,.int .i64 (lv+1),.int .i64 lf] (RN x.2.cnt lf))
  (f:Fr) (fr:Nat→Ob) (r:Int) (h3:f 3=.ptr 0 3 0) (m3:fr 3=.cells (vc v)) (h1:f 1=.int .i64 lv) (h2:f 2=.int .i64 r) (ha:f 9=.int .i64 0) (r0 : -1≤r) (r1:0≤r→(b:Int)+r≤lf) (Q:Exit→St→Prop)
  (q:∀(f:Fr) (fr:Nat→Ob) (r:Int),f 3=.ptr 0 3 0→fr 3=.cells (vc v)→f 1=.int .i64 lv→f 2=.int .i64 r→-1≤r→(0≤r→((b+Xt v.pairs:Nat):Int)+r≤lf)→Q (.exit 4) (⟨f,[fr],[]⟩:St)) :
  QJ Tryz.prog (.loop S5) ⟨f,[fr],[]⟩ Q:=by
 have n2:=hv.np;refine Qf (CnI v lv lf 9 (fun i=>b+Xt (v.pairs.take i)) v.pairs.length) _ ⟨f,fr,0,r,rfl,rfl,QMd _,h3,m3,h1,h2,ha,r0,fun h=>by have:=r1 h;simp only[QNc,Xt,QMA];omega⟩ ?_;clear h3 m3 h1 h2 ha r0 r1;rintro _ st ⟨f,fr,i,r,rfl,rfl,hil,h3,m3',h1,h2,ha,r0,r1⟩;dsimp only at r1;have m3:=m3';simp only[vc]at m3;simp only[QMZ,h3,m3,ha,eE,seval];by_cases hlt:i<v.pairs.length
 ·have d:∀r:Int,0≤r→decide (r≥0)=true:=fun r h=>QNQ h
  have d':∀r:Int,¬0≤r→decide (r≥0)=false:=fun r h=>QNM h
  by_cases hr:0≤r
  ·obtain⟨x,hi⟩:∃x,v.pairs[i]? = some x:=⟨v.pairs[i],QL6 hlt⟩;have hm:=QMi hi;have hg:=YI hi;have e1:=Qq i _ hlt (by simp only[maxLen];omega);have e2:IntKind.i64.wrap (lv+1)=lv+1:=by rw[QF];omega
   have rr:=r1 hr;have c1:=(hx x hm r hr (by omega)).1;rw[QL]at c1;simp only[Qo hlt,d r hr,Qm,QNt,Qd,hg,QMC,QNc,QMM,h3,m3,h1,h2,ha,e2,eE,seval];refine Zg (R:=RN x.1.cnt r) c1 rfl rfl (fun _ h=>h.rf) ?_;rintro _ ⟨s,rfl,s0,s1⟩;by_cases hs:0≤s
   ·have ss:=s1 hs;have c2:=(hx x hm s hs (by omega)).2;rw[QL]at c2;simp only[d s hs,Qm,QNt,Qd,hg,QMC,QMF,QMM,h3,m3,h1,h2,ha,e2,eE,seval];refine Zg (R:=RN x.2.cnt s) c2 rfl rfl (fun _ h=>h.rf) ?_;rintro _ ⟨u,rfl,u0,u1⟩;simp only[ha,e1,Qa,seval];exact⟨v.pairs.length-(i+1),by omega,_,_,i+1,u,rfl,rfl,by omega,(by exact h3),(by exact m3'),(by exact h1),(by rfl),(by rfl),u0,fun h=>by show((b+Xt (v.pairs.take (i+1)):Nat):Int)+u≤lf;rw[Mg hi];have:=u1 h;omega⟩
   ·simp only[d' s hs,h2,ha,e1,Qa,seval];exact⟨v.pairs.length-(i+1),by omega,_,_,i+1,s,rfl,rfl,by omega,(by exact h3),(by exact m3'),(by exact h1),(by rfl),(by rfl),s0,fun h=>absurd h hs⟩
  ·simp only[Qo hlt,d' r hr,h2,Qa,seval];exact q _ _ r (by exact h3) (by exact m3') (by exact h1) (by exact h2) r0 (fun h=>absurd h hr)
 ·have e:i=v.pairs.length:=by omega
  subst e;simp only[QNB]at r1;simp only[QE hlt,Qa,seval];exact q _ _ r (by exact h3) (by exact m3') (by exact h1) (by exact h2) r0 r1

theorem n23 (v:V)(hv:v.ok M):∀lv lf:Int,0≤lv→lv≤41→0≤lf→lf≤1000000→K2 Tryz.prog 23 [v.av,.int .i64 lv,.int .i64 lf] (RN v.cnt lf):=by
 revert hv
 refine V.ind (P:=fun v=>v.ok M→∀lv lf:Int,0≤lv→lv≤41→0≤lf→lf≤1000000→K2 Tryz.prog 23 [v.av,.int .i64 lv,.int .i64 lf] (RN v.cnt lf)) ?_ v;clear v;intro v hl hp hs hv lv lf a0 a1 b0 b1;have n4:=hv.nr;rw[QL];have e2:IntKind.i64.wrap (lf-1)=lf-1:=by rw[QF];omega
 refine k23.rl (by simp) ?_;simp only[e2,eE,seval];by_cases d1:lv > 40
 ·have d1':decide (lv > 40)=true:=QNQ d1;simp only[d1',Gi,Qa,seval]
 have d1':decide (lv > 40)=false:=QNM d1;simp only[d1',eE,seval];cases d2:decide ((v.text.length:Int) > 5000)
 case true=>simp only[Gi,Qa,seval]
 simp only[QMZ,eE,seval];by_cases d3:(v.raws.length:Int) > lf-1
 ·have d3':decide ((v.raws.length:Int) > lf-1)=true:=QNQ d3;simp only[d3',Gi,Qa,seval]
 have d3':decide ((v.raws.length:Int) > lf-1)=false:=QNM d3;have e3:IntKind.i64.wrap (lf-1-(v.raws.length:Int))=lf-1-(v.raws.length:Int):=by rw[QF];omega
 simp only[d3',e3,QMZ,eE,seval];refine Qf (CrI v lv (lf-1-(v.raws.length:Int))) _ ⟨_,_,0,rfl,rfl,QMd _,(by rfl),(by rfl),(by rfl),(by rfl),(by rfl)⟩ ?_;rintro _ st ⟨f,fr,i,rfl,rfl,hil,h3,m3',h1,h2,h7⟩;have m3:=m3';simp only[vc]at m3;simp only[QMZ,h3,m3,h7,eE,seval];by_cases hlt:i<v.raws.length
 ·obtain⟨x,hi⟩:∃x,v.raws[i]? = some x:=⟨v.raws[i],QL6 hlt⟩;have hg:(v.raws.map R.av)[i]? = some x.av:=by simp[hi]
  have e1:=Qq i _ hlt (by simp only[maxLen];omega);simp only[Qo hlt,R.av,Qm,QNt,Qd,hg,h3,m3,h7,eE,seval];cases d4:decide ((x.data.length:Int) > 5000)
  case true=>simp only[Gi,Qa,seval]
  simp only[h7,e1,Qa,seval];exact⟨v.raws.length-(i+1),by omega,_,_,i+1,rfl,rfl,by omega,(by exact h3),(by exact m3'),(by exact h1),(by exact h2),(by rfl)⟩
 simp only[QE hlt,Qa,seval];clear hlt h7 m3 hil;refine IN hv a0 (by omega) (b:=1+v.raws.length) (lf:=lf) b1 (fun x hx lf p q=>hl x hx (hv.list x hx) _ _ (by omega) (by omega) p q) _ _ _ (by exact h3) (by exact m3') (by exact h1) (by exact h2) (by rfl) (by omega) (by omega) _ ?_;clear h3 m3' h1 h2;intro f fr r h3 m3 h1 h2 r0 r1;simp only[Qa,seval];refine IQ hv a0 (by omega) (b:=1+v.raws.length+Q9 v.list) (lf:=lf) b1 (fun x hx lf p q=>⟨(hp x hx).1 (hv.keys x hx) _ _ (by omega) (by omega) p q,(hp x hx).2 (hv.vals x hx) _ _ (by omega) (by omega) p q⟩) _ _ _ (by exact h3) (by exact m3) (by exact h1) (by exact h2) (by rfl) r0 r1 _ ?_;clear h3 m3 h1 h2 r0 r1;intro f fr r h3 m3 h1 h2 r0 r1;simp only[Qa,seval];refine IP hv a0 (by omega) (b:=1+v.raws.length+Q9 v.list+Xt v.pairs) (lf:=lf) b1 (fun x hx lf p q=>hs x hx (hv.slots x hx) _ _ (by omega) (by omega) p q) _ _ _ (by exact h3) (by exact m3) (by exact h1) (by exact h2) (by rfl) r0 r1 _ ?_;clear h3 m3 h1 h2 r0 r1;intro f fr r h3 m3 h1 h2 r0 r1;simp only[h2,Qa,seval];exact QAD r0 (by rw[Xg];exact r1)

theorem n8 (v:V)(hv:v.ok M)(lf:Int)(b0:0≤lf)(b1:lf≤1000000):K2 Tryz.prog 8 [v.av,.int .i64 lf] (Ux ((v.cnt:Int)≤lf)):=by
 have hc:=n23 v hv 1 lf (by omega) (by omega) b0 b1;rw[QL]at hc ⊢;refine k8.rl (by simp) ?_;simp only[eE,seval];refine Zg (R:=RN v.cnt lf) hc rfl rfl (fun _ h=>h.rf) ?_;rintro _ ⟨r,rfl,r0,r1⟩;simp only[Qa,seval];refine⟨_,rfl,fun h=>?_⟩;have h0:0≤r:=by simpa using h
 have:=r1 h0;omega

end

def UX (P:PL):Prop:=(∀g∈P.progs,g.name.length≤300)∧∀e∈P.enums,e.name.length≤300
theorem Gj (p:Prop):Ux p (.bool false):=⟨false,rfl,fun h=>by cases h⟩

section
variable {M:Nat}(hM:M≤140737488351232)(P:PL)(hP:P.ok M)

include hP in
theorem QtC (fr:Nat→Ob)(m1':fr 1=.cells (Pc P))(i:Nat)(g:PG)(hg:P.progs[i]? = some g)(lf:Int)(f:Fr)(h1:f 1=.ptr 0 1 0)(h3:f 3=.int .i64 lf)(h4:f 4=.int .i64 (i:Nat))(h5:f 5=.int .i64 0)(Q:Exit→St→Prop)
  (q:∀f:Fr,f 1=.ptr 0 1 0→f 3=.int .i64 lf→f 4=.int .i64 (i:Nat)→Q (.exit 2) (⟨f,[fr],[]⟩:St)) (qr:∀f:Fr,f 2=.bool false→Q .ret (⟨f,[fr],[]⟩:St)) :
  QJ Tryz.prog (.loop S0) ⟨f,[fr],[]⟩ Q:=by
 have hgo:=(hP.progs g (QMi hg)).len;have hga:(P.progs.map Qj)[i]? = some (.agg g.cells):=by simp[hg,Qj]
 let I:Nat→St→Prop:=fun d st=>∃f k,st=⟨f,[fr],[]⟩∧d=g.ops.length-k∧f 1=.ptr 0 1 0∧f 3=.int .i64 lf∧f 4=.int .i64 (i:Nat)∧f 5=.int .i64 (k:Nat)
 refine Qf I _ ⟨f,0,rfl,rfl,h1,h3,h4,h5⟩ ?_;clear h1 h3 h4 h5;rintro _ st ⟨f,k,rfl,rfl,h1,h3,h4,h5⟩;have m1:=m1';simp only[Pc]at m1;simp only[PG.cells]at hga;simp only[Qm,QNt,Qd,hga,QMZ,h1,h4,h5,m1,eE,seval];by_cases hlt:k<g.ops.length
 ·obtain⟨o,ho⟩:∃o,g.ops[k]? = some o:=⟨g.ops[k],QL6 hlt⟩;have hoa:(g.ops.map fun o=>AV.agg o.cells)[k]? = some (.agg o.cells):=by simp[ho]
  have e1:=Qq k _ hlt hgo;simp only[PO.cells]at hoa;cases d1:decide ((o.name.length:Int) > 300)
  case true=>
   simp only[Qo hlt,Qm,QNt,Qd,hga,hoa,PO.cells,d1,h1,h4,h5,m1,eE,seval];exact qr _ (by rfl)
  cases d2:decide ((o.alias.length:Int) > 300)
  case true=>
   simp only[Qo hlt,Qm,QNt,Qd,hga,hoa,PO.cells,d1,d2,h1,h4,h5,m1,eE,seval];exact qr _ (by rfl)
  simp only[Qo hlt,Qm,QNt,Qd,hga,hoa,PO.cells,d1,d2,h1,h4,h5,m1,e1,eE,seval];exact⟨g.ops.length-(k+1),by omega,_,k+1,rfl,rfl,(by exact h1),(by exact h3),(by exact h4),(by rfl)⟩
 ·simp only[QE hlt,Qa,seval];exact q _ (by exact h1) (by exact h3) (by exact h4)

include hM in
theorem P2 (fr:Nat→Ob)(e:PE)(he:e.ok M)(m7':fr 7=.cells e.cells)(i:Nat)(lf:Int)(f:Fr)(h1:f 1=.ptr 0 1 0)(h3:f 3=.int .i64 lf)(h6:f 6=.int .i64 (i:Nat))(h7:f 7=.ptr 0 7 0)(h8:f 8=.int .i64 0)(Q:Exit→St→Prop)
  (q:∀f:Fr,f 1=.ptr 0 1 0→f 3=.int .i64 lf→f 6=.int .i64 (i:Nat)→Q (.exit 6) (⟨f,[fr],[]⟩:St)) (qr:∀f:Fr,f 2=.bool false→Q .ret (⟨f,[fr],[]⟩:St)) :
  QJ Tryz.prog (.loop S2) ⟨f,[fr],[]⟩ Q:=by
 let I:Nat→St→Prop:=fun d st=>∃f k,st=⟨f,[fr],[]⟩∧d=e.items.length-k∧f 1=.ptr 0 1 0∧f 3=.int .i64 lf∧f 6=.int .i64 (i:Nat)∧f 7=.ptr 0 7 0∧f 8=.int .i64 (k:Nat)
 refine Qf I _ ⟨f,0,rfl,rfl,h1,h3,h6,h7,h8⟩ ?_;clear h1 h3 h6 h7 h8;rintro _ st ⟨f,k,rfl,rfl,h1,h3,h6,h7,h8⟩;have m7:=m7';simp only[PE.cells]at m7;simp only[QMZ,h7,h8,m7,eE,seval];by_cases hlt:k<e.items.length
 ·obtain⟨o,ho⟩:∃o,e.items[k]? = some o:=⟨e.items[k],QL6 hlt⟩;have hoa:(e.items.map fun n=>AV.agg n.cells)[k]? = some (.agg o.cells):=by simp[ho]
  have hok:=he.items o (QMi ho);have e1:=Qq k _ hlt he.len1;simp only[PI.cells]at hoa;cases d1:decide ((o.name.length:Int) > 300)
  case true=>
   simp only[Qo hlt,Qm,QNt,Qd,hoa,PI.cells,d1,h7,h8,m7,eE,seval];exact qr _ (by rfl)
  rcases hn:o.notes with _|⟨n,_|⟨n2,ns⟩⟩
  ·have c0:decide (((0:Nat):Int) > 1)=false:=rfl;have c1:(((0:Nat):Int)==1)=false:=rfl;rw[hn]at hoa;simp only[Qo hlt,Qm,QNt,Qd,hoa,PI.cells,QM5,QM0,d1,h7,h8,m7,e1,eE,seval];exact⟨e.items.length-(k+1),by omega,_,k+1,rfl,rfl,(by exact h1),(by exact h3),(by exact h6),(by exact h7),(by rfl)⟩
  ·obtain⟨kd,b',t,l,p,s,r,hv,htl,h3',h4',h5',h6'⟩:=N8 (hok.notes n (by rw[hn];simp)) hM;have c0:decide (((1:Nat):Int) > 1)=false:=rfl;have z0:(0≤(0:Int))=True:=eq_true (Int.le_refl 0);have c1:(((1:Nat):Int)==1)=true:=rfl;have en:Xk n.cells=.agg [.str n.name,.int .i64 kd,.int .u64 ((b':Nat):Int),.str t,.list l,.list p,.list s,.list r]:=by
    rw[PN.cells,hv];rfl
   rw[hn]at hoa;simp only[QMB,QM5,en]at hoa;cases d2:decide ((t.length:Int) > 300)
   case true=>
    simp only[Qo hlt,Qm,QNt,Qd,hoa,PI.cells,QMk,QM0,QML,z0,QM6,d1,d2,h7,h8,m7,eE,seval];exact qr _ (by rfl)
   simp only[Qo hlt,Qm,QNt,Qd,hoa,PI.cells,QMk,QM0,QML,z0,QM6,d1,d2,h7,h8,m7,e1,eE,seval];exact⟨e.items.length-(k+1),by omega,_,k+1,rfl,rfl,(by exact h1),(by exact h3),(by exact h6),(by exact h7),(by rfl)⟩
  ·have c0:decide ((((ns.map fun n=>Xk n.cells).length+1+1:Nat):Int) > 1)=true:=QNQ (by omega);rw[hn]at hoa;simp only[QMB]at hoa;simp only[Qo hlt,Qm,QNt,Qd,hoa,PI.cells,QMk,c0,d1,h7,h8,m7,eE,seval];exact qr _ (by rfl)
 ·simp only[QE hlt,Qa,seval];exact q _ (by exact h1) (by exact h3) (by exact h6)

include hP in
theorem P3 (hN:P.progs.length≤60)(fr:Nat→Ob)(m1':fr 1=.cells (Pc P))(f:Fr)(h1:f 1=.ptr 0 1 0)(h3:f 3=.int .i64 400)(h4:f 4=.int .i64 0)(Q:Exit→St→Prop)
  (q:∀(f:Fr) (lf:Int),f 1=.ptr 0 1 0→f 3=.int .i64 lf→0≤lf→lf≤400→(∀g∈P.progs,g.name.length≤300)→Q (.exit 0) (⟨f,[fr],[]⟩:St)) (qr:∀f:Fr,f 2=.bool false→Q .ret (⟨f,[fr],[]⟩:St)) :
  QJ Tryz.prog (.loop S1) ⟨f,[fr],[]⟩ Q:=by
 let I:Nat→St→Prop:=fun d st=>∃f i,∃lf:Int,st=⟨f,[fr],[]⟩∧d=P.progs.length-i∧0≤lf∧lf≤400∧(∀g∈P.progs.take i,g.name.length≤300)∧f 1=.ptr 0 1 0∧f 3=.int .i64 lf∧f 4=.int .i64 (i:Nat)
 refine Qf I _ ⟨f,0,400,rfl,rfl,by omega,by omega,(by intro g hg;cases hg),h1,h3,h4⟩ ?_;clear h1 h3 h4;rintro _ st ⟨f,i,lf,rfl,rfl,l0,l1,hs,h1,h3,h4⟩;have m1:=m1';simp only[Pc]at m1;have dl:decide (lf≥0)=true:=QNQ l0;simp only[QMZ,h1,h4,m1,eE,seval];by_cases hlt:i<P.progs.length
 ·obtain⟨g,hg⟩:∃g,P.progs[i]? = some g:=⟨P.progs[i],QL6 hlt⟩;have hga:(P.progs.map Qj)[i]? = some (.agg g.cells):=by simp[hg,Qj]
  have hgo:=(hP.progs g (QMi hg)).len;have e1:=Qq i _ hlt (by simp only[maxLen];omega);have e2:IntKind.i64.wrap (lf-(g.ops.length:Int))=lf-(g.ops.length:Int):=by
   simp only[maxLen]at hgo;rw[QF];omega
  simp only[PG.cells]at hga;by_cases hn:lf-(g.ops.length:Int)<0
  ·have d1:decide (lf-(g.ops.length:Int)<0)=true:=QNQ hn;simp only[Qo hlt,Qm,QNt,Qd,hga,QMZ,e2,d1,dl,h1,h3,h4,m1,eE,seval];exact qr _ (by rfl)
  have d1:decide (lf-(g.ops.length:Int)<0)=false:=QNM hn;by_cases hm:g.name.length≤300
  case neg=>
   have d2:decide ((g.name.length:Int) > 300)=true:=QNQ (by omega);simp only[Qo hlt,Qm,QNt,Qd,hga,QMZ,e2,d1,d2,dl,h1,h3,h4,m1,eE,seval];exact qr _ (by rfl)
  have d2:decide ((g.name.length:Int) > 300)=false:=QNM (by omega);simp only[Qo hlt,Qm,QNt,Qd,hga,QMZ,e2,d1,d2,dl,h1,h3,h4,m1,eE,seval];refine QtC P hP fr m1' i g hg (lf-(g.ops.length:Int)) _ (by exact h1) (by rfl) (by exact h4) (by rfl) _ (fun f h1 h3 h4=>?_) (fun f h2=>?_)
  ·simp only[h4,e1,Qa,seval];exact⟨P.progs.length-(i+1),by omega,_,i+1,lf-(g.ops.length:Int),rfl,rfl,by omega,by omega,(by
    rw[QNK,hg];intro x hx;simp only[Option.toList_some,QNk,QN0]at hx;rcases hx with hx|rfl
    ·exact hs x hx
    ·exact hm),(by exact h1),(by exact h3),(by rfl)⟩
  ·simp only[Qa,seval];exact qr _ h2
 ·rw[QMD (by omega)]at hs;simp only[QE hlt,Qa,seval];exact q _ lf (by exact h1) (by exact h3) l0 l1 hs

include hM hP in
theorem P4 (hN:P.enums.length≤60)(fr:Nat→Ob)(m1':fr 1=.cells (Pc P))(r7:∀s∈[7],(fr s).isRow=false)(f:Fr)(lf:Int)(h1:f 1=.ptr 0 1 0)(h3:f 3=.int .i64 lf)(l0:0≤lf)(l1:lf≤400)(h6:f 6=.int .i64 0)(Q:Exit→St→Prop)
  (q:∀(f:Fr) (fr:Nat→Ob) (lf:Int),f 3=.int .i64 lf→(0≤lf→∀e∈P.enums,e.name.length≤300)→Q (.exit 4) (⟨f,[fr],[]⟩:St)) (qr:∀(f:Fr) (fr:Nat→Ob),f 2=.bool false→Q .ret (⟨f,[fr],[]⟩:St)) :
  QJ Tryz.prog (.loop S3) ⟨f,[fr],[]⟩ Q:=by
 let I:Nat→St→Prop:=fun d st=>∃f fr i,∃lf:Int,st=⟨f,[fr],[]⟩∧d=P.enums.length-i∧-800≤lf∧lf≤400∧(0≤lf→∀e∈P.enums.take i,e.name.length≤300)∧f 1=.ptr 0 1 0∧f 3=.int .i64 lf∧f 6=.int .i64 (i:Nat)∧fr 1=.cells (Pc P)∧∀s∈[7],(fr s).isRow=false
 refine Qf I _ ⟨f,fr,0,lf,rfl,rfl,by omega,l1,(by intro _ g hg;cases hg),h1,h3,h6,m1',r7⟩ ?_;clear h1 h3 h6 m1' r7 l0 l1;rintro _ st ⟨f0,fr0,i,lf,rfl,rfl,l0,l1,hs,h10,h30,h60,m10,r7⟩;refine QM (a:=_) [7] r7 ?_;intro f fr hf hm hn7;have h1:f 1=.ptr 0 1 0:=by rw[hf,h10]<;>rfl
 have h3:f 3=.int .i64 lf:=by rw[hf,h30]<;>rfl
 have h6:f 6=.int .i64 (i:Nat):=by rw[hf,h60]<;>rfl
 have m1':fr 1=.cells (Pc P):=by rw[hm 1 (by decide),m10]<;>rfl
 have n7:=hn7 7 (by decide);clear hf hm hn7 h10 h30 h60 m10 r7;have m1:=m1';simp only[Pc]at m1;simp only[QMZ,h1,h6,m1,eE,seval];by_cases hlt:i<P.enums.length
 ·obtain⟨e,he⟩:∃e,P.enums[i]? = some e:=⟨P.enums[i],QL6 hlt⟩;have hea:(P.enums.map Qt)[i]? = some (.agg e.cells):=by simp[he,Qt]
  have heo:=hP.enums e (QMi he);have e1:=Qq i _ hlt (by simp only[maxLen];omega);simp only[PE.cells]at hea;by_cases hl:0≤lf
  case neg=>
   have dl:decide (lf≥0)=false:=QNM hl;simp only[Qo hlt,dl,h3,Qa,seval];exact q _ _ lf (by exact h3) (fun h=>absurd h hl)
  have dl:decide (lf≥0)=true:=QNQ hl;by_cases q1:(e.items.length:Int) > lf
  ·have d1:decide ((e.items.length:Int) > lf)=true:=QNQ q1;simp only[Qo hlt,Qm,QNt,Qd,hea,QMZ,n7,d1,dl,h1,h3,h6,m1,eE,seval];exact qr _ _ (by rfl)
  have d1:decide ((e.items.length:Int) > lf)=false:=QNM q1;by_cases q2:(e.free.length:Int) > lf
  ·have d2:decide ((e.free.length:Int) > lf)=true:=QNQ q2;simp only[Qo hlt,Qm,QNt,Qd,hea,QMZ,n7,d1,d2,dl,h1,h3,h6,m1,eE,seval];exact qr _ _ (by rfl)
  have d2:decide ((e.free.length:Int) > lf)=false:=QNM q2;by_cases hm:e.name.length≤300
  case neg=>
   have d3:decide ((e.name.length:Int) > 300)=true:=QNQ (by omega);simp only[Qo hlt,Qm,QNt,Qd,hea,QMZ,n7,d1,d2,d3,dl,h1,h3,h6,m1,eE,seval];exact qr _ _ (by rfl)
  have d3:decide ((e.name.length:Int) > 300)=false:=QNM (by omega);have e2:IntKind.i64.wrap (lf-(e.items.length:Int))=lf-(e.items.length:Int):=by rw[QF];omega
  have e3:IntKind.i64.wrap (lf-(e.items.length:Int)-(e.free.length:Int))=lf-(e.items.length:Int)-(e.free.length:Int):=by rw[QF];omega
  simp only[Qo hlt,Qm,QNt,Qd,hea,QMZ,n7,e2,e3,d1,d2,d3,dl,h1,h3,h6,m1,eE,seval];refine P2 hM _ e heo (by rfl) i (lf-(e.items.length:Int)-(e.free.length:Int)) _ (by exact h1) (by rfl) (by exact h6) (by rfl) (by rfl) _ (fun f h1 h3 h6=>?_) (fun f h2=>?_)
  ·simp only[h6,e1,Qa,seval];exact⟨P.enums.length-(i+1),by omega,_,_,i+1,lf-(e.items.length:Int)-(e.free.length:Int),rfl,rfl,by omega,by omega,(by
    intro _;rw[QNK,he];intro x hx;simp only[Option.toList_some,QNk,QN0]at hx;rcases hx with hx|rfl
    ·exact hs hl x hx
    ·exact hm),(by exact h1),(by exact h3),(by rfl),(by exact m1'),(by
    intro s hs;simp only[QNo,QN3,or_false]at hs;subst hs;rfl)⟩
  ·simp only[Qa,seval];exact qr _ _ h2
 ·rw[QMD (by omega)]at hs;simp only[QE hlt,Qa,seval];exact q _ _ lf (by exact h3) hs

include hM hP in
theorem n21:K2 Tryz.prog 21 [P.av] (Ux (UX P)):=by
 rw[show P.av=.agg (Pc P)from rfl];by_cases q1:P.progs.length≤60
 case neg=>
  have d1:decide ((P.progs.length:Int) > 60)=true:=QNQ (by omega);refine k21.rl (by simp) ?_;simp only[Pc,QMZ,d1,Gj,eE,seval]
 have d1:decide ((P.progs.length:Int) > 60)=false:=QNM (by omega);by_cases q2:P.enums.length≤60
 case neg=>
  have d2:decide ((P.enums.length:Int) > 60)=true:=QNQ (by omega);refine k21.rl (by simp) ?_;simp only[Pc,QMZ,d1,d2,Gj,eE,seval]
 have d2:decide ((P.enums.length:Int) > 60)=false:=QNM (by omega);refine k21.rl (by simp) ?_;simp only[Pc,QMZ,d1,d2,eE,seval];refine P3 P hP q1 _ (by rfl) _ (by rfl) (by rfl) (by rfl) _ (fun f lf h1 h3 l0 l1 hs=>?_) (fun f h2=>?_)
 ·simp only[Qa,seval];refine P4 hM P hP q2 _ (by rfl) (by
    intro s hs;simp only[QNo,QN3,or_false]at hs;subst hs;rfl) _ lf (by exact h1) (by exact h3) l0 l1 (by rfl) _ (fun f fr lf h3 hs2=>?_) (fun f fr h2=>?_)
  ·simp only[h3,Qa,seval];exact⟨_,rfl,fun h=>⟨hs,hs2 (by simpa using h)⟩⟩
  ·simp only[h2,Gj,Qa,seval]
 ·simp only[h2,Gj,Qa,seval]

end
open So Vp Cp

def Kr (s:List UInt8)(P:PL):Int:=QW (fun g:PG=>g.name==s) P.progs 0
theorem ML (s:List UInt8)(P:PL):Kr s P = -1∨(0≤Kr s P∧Kr s P<(P.progs.length:Int)):=by
 unfold Kr;rcases KN (fun g:PG=>g.name==s) P.progs 0 with⟨h,_⟩|⟨k,o,h,h1,_⟩
 ·exact .inl h
 ·have:=(QL5.1 h1).1;exact .inr ⟨by rw[h];omega,by rw[h];omega⟩
def XI (P:PL)(s:List UInt8)(v:V):List UInt8×Int :=
 if Kr s P<0 then([],10)
 else if KC P (Kr s P) v≠0 then([],KC P (Kr s P) v)
 else if (Jl P 16 (Kr s P) v).length > 65536 then([],3)
 else(Jl P 16 (Kr s P) v,0)
def siz (r:List UInt8×Int):Int:=if r.2≠0 then -1 else(r.1.length:Int)
theorem QtE (P:PL)(s:List UInt8)(v:V):(XI P s v).2≠0→(XI P s v).1=[]:=by
 unfold XI;split
 ·exact fun _=>rfl
 split
 ·exact fun _=>rfl
 split
 ·exact fun _=>rfl
 ·exact fun h=>absurd rfl h
theorem QtF (P:PL)(s:List UInt8)(v:V):(XI P s v).1.length≤65536:=by
 unfold XI;split
 ·exact QMd _
 split
 ·exact QMd _
 split
 ·exact QMd _
 ·rename_i h;exact Nat.le_of_not_lt h
theorem VD {P:PL}{t:Int}{v:V}(h:KC P t v=0):(0≤t∧t<(P.progs.length:Int))∧XC P 16 (Xb P t) v=0:=by
 unfold KC at h;split at h
 ·omega
 rename_i ht;split at h
 ·rename_i hm;exact⟨by omega,hm⟩
 ·rename_i hm;exact absurd h hm
theorem QtG {P:PL}{t:Int}(ht:0≤t∧t<(P.progs.length:Int)):P.progs[t.toNat]? = some (Xb P t):=by
 unfold Xb;rw[QL6 (by omega:t.toNat<P.progs.length)];rfl

section
variable {M:Nat}(hM:M≤140737488351232)(P:PL)(hP:P.ok M)(hS:UX P)

include hM hP hS in
theorem t54:Qp Tryz.prog 54 [P.av] (.int .i64 (ck P)) :=
 QHW P hP hM (fun g h=>QL4 (hS.1 g h) (by decide)) (fun g h=>QL4 (hS.2 g h) (by decide))

include hM hP hS in
theorem t27 (t:Int)(ht:0≤t∧t<(P.progs.length:Int))(hk:ck P=0):Qp Tryz.prog 27 [P.av,.int .i64 t] (.bool true):=by
 have e0:P.av=.agg [.list (P.progs.map Qj),.list (P.enums.map Qt)]:=rfl;have d1:decide (t≥0)=true:=QNQ ht.1;have d2:decide (t<(P.progs.length:Int))=true:=QNQ ht.2;have cc:=t54 hM P hP hS;have z0:((0:Int)==0)=true:=rfl;rw[hk,e0]at cc;refine k27.fn (by simp) ?_;simp only[e0,d1,d2,QMZ,eE,seval];refine Qb cc rfl rfl rfl (.inl rfl) ?_;simp only[z0,Qa,seval]

include hP in
theorem QtH (hk:ck P=0)(t:Int)(v:V)(hv:v.ok M)(hc:v.cnt≤1048576)(ht:0≤t∧t<(P.progs.length:Int))(hm:XC P 16 (Xb P t) v=0):Qp Tryz.prog 29 [P.av,.int .i64 t,v.av] (.str (Jl P 16 t v)) :=
 t29 hP (Mo hk) (PX hk) (PY hk) (QAA hP (Qtx hk)) 16 t (Xb P t) (QtG ht) ht.1 v hv hc hm

include hM hP hS in
theorem t10 (hk:ck P=0)(s:List UInt8)(v:V)(hv:v.ok M)(hc:v.cnt≤1048576):Qp Tryz.prog 10 [P.av,.str s,v.av] (.tup [.str (XI P s v).1,.int .i64 (XI P s v).2]):=by
 have e0:P.av=.agg [.list (P.progs.map Qj),.list (P.enums.map Qt)]:=rfl;have cf:=y26 P hP.len1 s;unfold pfr at cf;rw[show QW (fun g:PG=>g.name==s) P.progs 0=Kr s P from rfl,e0]at cf;unfold XI;by_cases hp:Kr s P<0
 ·have d0:decide (Kr s P≥0)=false:=QNM (by omega);rw[QMy hp];rw[QMy hp,d0]at cf;rw[QL v];refine Lj.fn (by simp) ?_;simp only[e0,eE,seval];refine Qb cf rfl rfl rfl (.inl rfl) ?_;simp only[Qa,seval]
 have d0:decide (Kr s P≥0)=true:=QNQ (by omega);rw[QMj hp];rw[QMj hp,d0]at cf;have ht:0≤Kr s P∧Kr s P<(P.progs.length:Int):=by
  rcases ML s P with h|h
  ·omega
  ·exact h
 generalize Kr s P=t at *;have cu:=t27 hM P hP hS t ht hk;have cx:=v28 hP (Mo hk) t v hv;have cb:=fun hm=>QtH P hP hk t v hv hc ht hm
 rw[e0]at cu;rw[e0,QL v]at cx cb;rw[QL v];refine Lj.fn (by simp) ?_;simp only[e0,eE,seval];refine Qb cf rfl rfl rfl (.inl rfl) ?_;simp only[eE,seval];refine Qb cu rfl rfl rfl (.inl rfl) ?_;simp only[eE,seval];refine Qb cx rfl rfl rfl (.inl rfl) ?_;by_cases hf:KC P t v=0
 case neg=>
  have b0:(KC P t v != 0)=true:=by simp[hf]
  simp only[QMy hf,b0,Qa,seval]
 have b0:(KC P t v != 0)=false:=by simp[hf]
 rw[QMj (fun h=>h hf)];simp only[b0,eE,seval];refine Qb (cb (VD hf).2) rfl rfl rfl (.inl rfl) ?_;by_cases hl:(Jl P 16 t v).length > 65536
 ·have d1:decide (((Jl P 16 t v).length:Int) > 65536)=true:=QNQ (by omega);simp only[QMy hl,d1,Qa,seval]
 ·have d1:decide (((Jl P 16 t v).length:Int) > 65536)=false:=QNM (by omega);simp only[QMj hl,d1,Qa,seval]

include hM hP hS in
theorem t12 (hk:ck P=0)(s:List UInt8)(v:V)(hv:v.ok M)(hc:v.cnt≤1048576):Qp Tryz.prog 12 [P.av,.str s,v.av] (.int .i64 (siz (XI P s v))):=by
 have e0:P.av=.agg [.list (P.progs.map Qj),.list (P.enums.map Qt)]:=rfl;have ce:=t10 hM P hP hS hk s v hv hc;unfold siz;generalize XI P s v=r at ce ⊢;obtain⟨d,e⟩:=r;dsimp only at ce ⊢;rw[e0,QL v]at ce;rw[QL v];refine k12.fn (by simp) ?_;simp only[e0,eE,seval];refine Qb ce rfl rfl rfl (.inl rfl) ?_;by_cases he:e=0
 ·have b0:(e != 0)=false:=by simp[he]
  rw[QMj (fun h=>h he)];simp only[b0,Qa,seval]
 ·have b0:(e != 0)=true:=by simp[he]
  rw[QMy he];simp only[b0,Qa,seval]

end
end Go.Proofs.YtipjfckmopekaaaGreatDoor.Va

namespace Go.Proofs.YtipjfckmopekaaaGreatDoor.Cl
open Go Am Rc Bt

theorem YR {sz:Nat}(h0:sz≠0){xs:List AV}(h:xs.all (fun e=>e.cells.length==sz)=true)(hf:QK xs=[]):xs=[]:=by
 cases xs with
 |nil=>rfl
 |cons x xs=>
  have hl:x.cells.length=sz:=by simpa using QMh.1 h x (by simp)
  have:x.cells=[]:=(List.append_eq_nil_iff.1 hf).1;rw[this]at hl;exact absurd hl.symm h0

def YS (sz:Nat)(args:List AV)(m:Ql):Option (AV×Ql) :=
 match args,m with
 | [.list xs],fr :: m=>bif xs.all (fun e=>e.cells.length==sz)&&Nat.ble xs.length 1000000&&Qv (fr 1000)then some (.vec 0 1000 (Xp (fr 1000)) 0 xs.length false,QI fr 1000 (.vec (Xp (fr 1000)) sz xs) :: m)else none
 |_,_=>none

theorem YT {P:Program}{k sz:Nat}(hk:∀(xs:List AV) (fr:Nat→Ob) (m:Ql),xs.all (fun e=>e.cells.length==sz)=true→xs.length≤1000000→Qv (fr 1000)=true→
  Qh P k [.list xs] (fr :: m) (fun x m1=>x=.vec 0 1000 (Xp (fr 1000)) 0 xs.length false∧m1=QI fr 1000 (.vec (Xp (fr 1000)) sz xs) :: m)) {args:List AV} {m m':Ql} {v:AV} (h:YS sz args m=some (v,m')):Qh P k args m fun x m1=>x=v∧m1=m':=by
 unfold YS at h;split at h
 ·rename_i xs fr m0;cases hb:(xs.all (fun e=>e.cells.length==sz)&&Nat.ble xs.length 1000000&&Qv (fr 1000))with
  |false=>rw[hb]at h;cases h
  |true=>
   rw[hb]at h;simp only[cond_true,QMu,Prod.mk.injEq]at h;simp only[QMt]at hb;obtain⟨rfl,rfl⟩:=h;exact hk xs fr m0 hb.1.1 (QNu hb.1.2) hb.2
 ·cases h

theorem c96 (xs:List AV)(fr:Nat→Ob)(m:Ql)(h:xs.all (fun e=>e.cells.length==4)=true)(hn:xs.length≤1000000)(hr:Qv (fr 1000)=true) :
  Qh Tryz.prog 96 [.list xs] (fr :: m) (fun x m1=>x=.vec 0 1000 (Xp (fr 1000)) 0 xs.length false∧m1=QI fr 1000 (.vec (Xp (fr 1000)) 4 xs) :: m):=by
 have hng:QB (fr :: m) 0 1000=Xp (fr 1000):=ZV;refine L5.go (by simp) ?_;simp only[Rl,NR,NS,Qa,seval];refine ZA (ys:=xs) (by simp only[Qa,seval]) ?_ ?_
 ·simp only[NU,Qa,seval];refine ZW rfl ?_;simp only[Qa,seval];refine QR (site:=5) (g:=1) (xs:=[]) (ys:=xs) rfl rfl rfl rfl rfl h (by simp[maxLen];omega) (by simp;omega) ?_;simp only[Qa,seval];refine XA (l:=0) (site:=5) (g:=2) (o:=0) (n:=xs.length) (q:=false) (sz:=4) (xs:=xs) (by simp only[QML,Qa,seval]) (by simp only[Qa,seval]) (by simp) (by decide) hr ?_;simp only[hng,BQ,eE,seval]
  try simp[AV.still,AV.un,Zf,Xz]
 ·intro he;have hx:xs=[]:=by
   rcases he with he|he
   ·exact he
   ·exact YR (by decide) h he
  subst hx;simp only[NT,Qa,seval];refine X4 (by simp only[Qa,seval]) rfl ?_;simp only[Qa,seval];refine XA (l:=0) (site:=2) (g:=1) (o:=0) (n:=0) (q:=false) (sz:=4) (xs:=[]) (by simp only[Qa,seval]) (by simp only[Qa,seval]) (by simp) (by decide) hr ?_;simp only[hng,BQ,eE,seval]
  try simp[AV.still,AV.un,Zf,Xz]

theorem QJw (xs:List AV)(fr:Nat→Ob)(m:Ql)(h:xs.all (fun e=>e.cells.length==8)=true)(hn:xs.length≤1000000)(hr:Qv (fr 1000)=true) :
  Qh Tryz.prog 181 [.list xs] (fr :: m) (fun x m1=>x=.vec 0 1000 (Xp (fr 1000)) 0 xs.length false∧m1=QI fr 1000 (.vec (Xp (fr 1000)) 8 xs) :: m):=by
 have hng:QB (fr :: m) 0 1000=Xp (fr 1000):=ZV;refine M3.go (by simp) ?_;simp only[NW,Fc,Rc.Fd,Qa,seval];refine ZA (ys:=xs) (by simp only[Qa,seval]) ?_ ?_
 ·simp only[Ff,Qa,seval];refine ZW rfl ?_;simp only[Qa,seval];refine QR (site:=5) (g:=1) (xs:=[]) (ys:=xs) rfl rfl rfl rfl rfl h (by simp[maxLen];omega) (by simp;omega) ?_;simp only[Qa,seval];refine XA (l:=0) (site:=5) (g:=2) (o:=0) (n:=xs.length) (q:=false) (sz:=8) (xs:=xs) (by simp only[QML,Qa,seval]) (by simp only[Qa,seval]) (by simp) (by decide) hr ?_;simp only[hng,Gs,eE,seval]
  try simp[AV.still,AV.un,Zf,Xz]
 ·intro he;have hx:xs=[]:=by
   rcases he with he|he
   ·exact he
   ·exact YR (by decide) h he
  subst hx;simp only[Fe,Qa,seval];refine X4 (by simp only[Qa,seval]) rfl ?_;simp only[Qa,seval];refine XA (l:=0) (site:=2) (g:=1) (o:=0) (n:=0) (q:=false) (sz:=8) (xs:=[]) (by simp only[Qa,seval]) (by simp only[Qa,seval]) (by simp) (by decide) hr ?_;simp only[hng,Gs,eE,seval]
  try simp[AV.still,AV.un,Zf,Xz]

theorem QJx (xs:List AV)(fr:Nat→Ob)(m:Ql)(h:xs.all (fun e=>e.cells.length==7)=true)(hn:xs.length≤1000000)(hr:Qv (fr 1000)=true) :
  Qh Tryz.prog 180 [.list xs] (fr :: m) (fun x m1=>x=.vec 0 1000 (Xp (fr 1000)) 0 xs.length false∧m1=QI fr 1000 (.vec (Xp (fr 1000)) 7 xs) :: m):=by
 have hng:QB (fr :: m) 0 1000=Xp (fr 1000):=ZV;refine M2.go (by simp) ?_;simp only[NV,D8,D9,Qa,seval];refine ZA (ys:=xs) (by simp only[Qa,seval]) ?_ ?_
 ·simp only[Fb,Qa,seval];refine ZW rfl ?_;simp only[Qa,seval];refine QR (site:=5) (g:=1) (xs:=[]) (ys:=xs) rfl rfl rfl rfl rfl h (by simp[maxLen];omega) (by simp;omega) ?_;simp only[Qa,seval];refine XA (l:=0) (site:=5) (g:=2) (o:=0) (n:=xs.length) (q:=false) (sz:=7) (xs:=xs) (by simp only[QML,Qa,seval]) (by simp only[Qa,seval]) (by simp) (by decide) hr ?_;simp only[hng,Gr,eE,seval]
  try simp[AV.still,AV.un,Zf,Xz]
 ·intro he;have hx:xs=[]:=by
   rcases he with he|he
   ·exact he
   ·exact YR (by decide) h he
  subst hx;simp only[Fa,Qa,seval];refine X4 (by simp only[Qa,seval]) rfl ?_;simp only[Qa,seval];refine XA (l:=0) (site:=2) (g:=1) (o:=0) (n:=0) (q:=false) (sz:=7) (xs:=[]) (by simp only[Qa,seval]) (by simp only[Qa,seval]) (by simp) (by decide) hr ?_;simp only[hng,Gr,eE,seval]
  try simp[AV.still,AV.un,Zf,Xz]

end Go.Proofs.YtipjfckmopekaaaGreatDoor.Cl

namespace Go.Proofs.YtipjfckmopekaaaGreatDoor.Ew
open Go Am Rc Cl

def nat:Kk:=fun k args m=>
 if k=96 then YS 4 args m
 else if k=181 then YS 8 args m
 else if k=180 then YS 7 args m
 else none

theorem nat_ok:Kx Tryz.prog nat:=by
 intro k args m v m' h;unfold nat at h;split at h
 ·rename_i e;subst e;exact YT c96 h
 split at h
 ·rename_i e;subst e;exact YT QJw h
 split at h
 ·rename_i e;subst e;exact YT QJx h
 ·cases h

theorem MM:I6 nat Ev.tab 3000 9 []=true:=by decide +kernel

theorem KY:Qp Tryz.prog 9 [] (.bool true):=NQ nat_ok Ev.Qr7 MM

end Go.Proofs.YtipjfckmopekaaaGreatDoor.Ew

namespace Go.Proofs.YtipjfckmopekaaaGreatDoor.Va
open Go Am Rc Bt Br Up So Vp Cp

theorem QAE {p:Prop}{b:Bool}(h:b=true→p):Ux p (.bool b):=⟨b,rfl,h⟩

section
variable {M:Nat}(P:PL)(hP:P.ok M)(hM:M≤140737488351232)(s:List UInt8)(v:V)(hv:v.ok M)

include hP hM in
theorem n7:K2 Tryz.prog 7 [P.av] (Ux (UX P∧ck P=0)):=by
 have e0:P.av=.agg [.list (P.progs.map Qj),.list (P.enums.map Qt)]:=rfl;have c1:=n21 hM P hP;have c2:=z22 P hP hM;rw[e0]at c1 c2 ⊢;refine k7.rl (by simp) ?_;simp only[eE,seval];refine Zg (R:=Ux (UX P)) c1 rfl rfl (fun _ h=>h.rf) ?_;rintro _ ⟨b,rfl,hb⟩;cases b
 ·simp only[Gj,Qa,seval]
 simp only[eE,seval];refine Qb c2 rfl rfl rfl (.inl rfl) ?_;simp only[Qa,seval];exact QAE fun h=>⟨hb rfl,by simpa using h⟩

include hP hM hv in
theorem c6:Qp Tryz.prog 6 [P.av,.str s,v.av] (.bool true):=by
 have e0:P.av=.agg [.list (P.progs.map Qj),.list (P.enums.map Qt)]:=rfl;have c1:=n7 P hP hM;have c2:=n8 v hv 500 (by decide) (by decide);have c3:=fun(hg:UX P∧ck P=0) (hc:v.cnt≤1048576)=>t10 hM P hP hg.1 hg.2 s v hv hc
 have c4:=fun(hg:UX P∧ck P=0) (hc:v.cnt≤1048576)=>t12 hM P hP hg.1 hg.2 s v hv hc
 have h1:=QtE P s v;have h2:=QtF P s v;unfold siz at c4;generalize XI P s v=q at c3 c4 h1 h2;obtain⟨d,e⟩:=q;dsimp only at c3 c4 h1 h2;rw[e0]at c1;rw[e0,QL v]at c3 c4;rw[QL v]at c2;rw[e0,QL v];refine k6.fn (by simp) ?_;simp only[eE,seval];refine Zg (R:=Ux (UX P∧ck P=0)) c1 rfl rfl (fun _ h=>h.rf) ?_;rintro _ ⟨b,rfl,hg⟩;cases b
 ·simp only[Qa,seval];refine Qb Ew.KY rfl rfl rfl (.inl rfl) ?_;simp only[Qa,seval]
 replace hg:=hg rfl;cases d1:decide ((s.length:Int) > 300)
 case true=>
  simp only[d1,Qa,seval];refine Qb Ew.KY rfl rfl rfl (.inl rfl) ?_;simp only[Qa,seval]
 simp only[d1,eE,seval];refine Zg (R:=Ux ((v.cnt:Int)≤500)) c2 rfl rfl (fun _ h=>h.rf) ?_;rintro _ ⟨b,rfl,hc⟩;cases b
 ·simp only[Qa,seval];refine Qb Ew.KY rfl rfl rfl (.inl rfl) ?_;simp only[Qa,seval]
 replace hc:=hc rfl;have hc':v.cnt≤1048576:=by omega
 simp only[eE,seval];refine Qb (c3 hg hc') rfl rfl rfl (.inl rfl) ?_;by_cases he:e=0
 ·have b0:(e != 0)=false:=by simp[he]
  have d2:decide ((d.length:Int)≤65536)=true:=QNQ (by omega);replace c4:=c4 hg hc';rw[QMj fun h=>h he]at c4;simp only[b0,eE,seval];refine Qb c4 rfl rfl rfl (.inl rfl) ?_;simp only[beq_self_eq_true,d2,Qa,seval];refine Qb Ew.KY rfl rfl rfl (.inl rfl) ?_;simp only[Qa,seval]
 ·have b0:(e != 0)=true:=by simp[he]
  have z0:(([]:List UInt8)==[])=true:=rfl;have z1:((-1:Int) == -1)=true:=rfl;replace c4:=c4 hg hc';rw[QMy he]at c4;have hd:=h1 he;subst hd;simp only[b0,z0,QN,eE,seval];refine Qb c4 rfl rfl rfl (.inl rfl) ?_;simp only[z1,Qa,seval];refine Qb Ew.KY rfl rfl rfl (.inl rfl) ?_;simp only[Qa,seval]

end
end Go.Proofs.YtipjfckmopekaaaGreatDoor.Va

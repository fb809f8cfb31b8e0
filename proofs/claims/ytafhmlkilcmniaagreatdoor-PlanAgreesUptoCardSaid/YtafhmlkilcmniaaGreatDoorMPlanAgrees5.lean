/- Parts of the proof, in order. -/
import Derived.Test.YtafhmlkilcmniaaGreatDoorProg
import Derived.Test.YtafhmlkilcmniaaGreatDoorMPlanAgrees4

set_option linter.unusedSimpArgs false
namespace Go.Proofs.YtafhmlkilcmniaaGreatDoor.Tz
open Go Am Bt Tg So
variable {Pg:Program}{cz sr ro sm is st ss:Nat}(hC:Tg.Cs Pg cz sr ro sm is st ss)(hcz:cz≠0)

variable {E:AV→Prop}

theorem PU (a b:Nat)(h:a+b<9223372036854775808):IntKind.i64.wrap ((IntKind.u64.wrap ((a+b:Nat):Int)).fdiv (2 ^ min 1 64))=(((a+b) / 2:Nat):Int):=by
 rw[QU,QgC,show min 1 64=1 from rfl,show(2:Int) ^ 1=2 from rfl];have:(((a+b:Nat):Int) % 18446744073709551616)=((a+b:Nat):Int):=by omega
 rw[this,Int.fdiv_eq_ediv_of_nonneg _ (by omega)];omega

def SaS (cz:Nat)(m:Qk)(lv s g N:Nat)(kc:Nat)(c:AV→AV→Int)(P Y S:List AV)(x:AV)(k:Nat)(st:St):Prop :=
 ∃f i j,st=⟨f,[Qc]++Am.put m lv s (.vec g cz (P++[x]++Y++S)),[]⟩∧k=j-i∧i≤j∧j≤Y.length∧(∀k y,k<i→Y[k]? = some y→lt c y x=true)∧(∀k y,j≤k→Y[k]? = some y→lt c y x=false)∧
  f 0=.vec (lv+1) s g 0 N false∧f 1=.int .i64 (P.length:Nat)∧f 4=.fn (.func kc) [] []∧f 10=.int .i64 ((P.length+1+i:Nat):Int)∧f 11=.int .i64 ((P.length+1+j:Nat):Int)

def SaT (cz:Nat)(m:Qk)(lv s g N i:Nat)(P Y S:List AV)(x:AV)(k:Nat)(st:St):Prop :=
 ∃f t,st=⟨f,[Qc]++Am.put m lv s (.vec g cz (P++Y.take t++[x]++Y.drop t++S)),[]⟩∧k=i-t∧t≤i∧
  f 0=.vec (lv+1) s g 0 N false∧f 10=.int .i64 ((P.length+1+i:Nat):Int)∧f 13=.int .i64 ((P.length+t:Nat):Int)

include hC hcz in
theorem QTW {kc:Nat}{c:AV→AV→Int}(hc:Cp Pg cz E kc c)(lv s g:Nat)(P:List AV)(x:AV)(Y S:List AV)(m:Qk)(hl:Am.Qh m lv s=.vec g cz (P++[x]++Y++S))(he:∀z∈P++[x]++Y++S,Ez E cz z)
  (hn:(P++[x]++Y++S).length<4611686018427387904) (hY:ZV (lt c) Y) :
  Qf Pg sm [.vec lv s g 0 (P++[x]++Y++S).length false,.int .i64 (P.length:Nat),.int .i64 ((P.length+1:Nat):Int),.int .i64 ((P.length+1+Y.length:Nat):Int),.fn (.func kc) [] []] m
   (fun v m1=>v=.tup []∧m1=Am.put m lv s (.vec g cz (P++mg (lt c) [x] Y++S))):=by
 have _:=hC;have _:=hcz;have hlv:lv<m.length:=Xb (by rw[hl];simp);have hlen:(P++[x]++Y++S).length=P.length+1+Y.length+S.length:=by simp only[QZn,Q0d]
 have ex:Ez E cz x:=he x (by simp);have eY:∀y∈Y,Ez E cz y:=fun y hy=>he y (by simp[hy])
 refine hC.csm.go (by simp) ?_;have e1:IntKind.i64.wrap (((P.length+1:Nat):Int)-(P.length:Int))=1:=by rw[QU];omega
 simp only[Bu,PK,PM,PP,Dl,Vv,Vw,VC,Dm,Dn,Dp,Dq,Dr,Ds,Dt,Du,Dv,YJ,YK,YL,W0,W2,KH,KI,rsm,DC,e1,beq_self_eq_true,Qa,seval];have h0:m=Am.put m lv s (.vec g cz (P++[x]++Y++S)):=(JV hl).symm;generalize hN:(P++[x]++Y++S).length=N at *;refine Qe (SaS cz m lv s g N kc c P Y S x) _ ⟨_,0,Y.length,by rw[←h0]<;>rfl,rfl,QYT _,QYK _,(by intro k y hk;exact absurd hk (Nat.not_lt_zero _)),(by intro k y hk hy;rw[QZ4 hk]at hy;cases hy),by simp only[Qa,seval],by simp only[Qa,seval],by simp only[Qa,seval],by simp only[QZg,Qa,seval],by simp only[Qa,seval]⟩ ?_;clear h0 e1;rintro k st ⟨f,i,j,rfl,rfl,hij,hj,hp,hq,f0,f1,f4,f10,f11⟩;simp only[Qba,Qbc,PQ,PR,DB,Qa5,Qa6,Qa7,Qa8,Qa9,Qbb,Az,AA,Vx,Vy,Vz,VA,VB,VD,VE,VF,Dw,Dx,Dy,Dz,DA,f10,f11,Qa,seval];by_cases hlt:i<j
 ·have d0:decide (((P.length+1+i:Nat):Int)<((P.length+1+j:Nat):Int))=true:=by simp only[QZ2];omega
  have e2:IntKind.i64.wrap (((P.length+1+i:Nat):Int)+((P.length+1+j:Nat):Int))=(((P.length+1+i)+(P.length+1+j):Nat):Int):=by rw[QU];omega
  have e3:=PU (P.length+1+i) (P.length+1+j) (by omega);have e4:((P.length+1+i)+(P.length+1+j)) / 2=P.length+1+(i+j) / 2:=by omega
  rw[e4]at e3;generalize hh:(i+j) / 2=h at *;have hh1:h<j:=by omega
  have hh2:i≤h:=by omega
  have e5:IntKind.i64.wrap (((P.length+1+h:Nat):Int)+1)=((P.length+1+(h+1):Nat):Int):=by rw[QU];omega
  obtain⟨y,hy⟩:∃y,Y[h]? = some y:=⟨_,QYN (by omega)⟩;have ey:=eY y (QYY hy);have gy:(P++[x]++Y++S)[P.length+1+h]? = some y:=by
   rw[QZ6 (by simp only[QZn,Q0d];omega),QZ7 (by simp only[QZn,Q0d];omega)];rw[←hy];congr 1;simp only[QZn,Q0d];omega
  have gx:(P++[x]++Y++S)[P.length]? = some x:=by
   have:=UT (P:=P) (W:=[]) (u:=x) (V:=Y++S) (i:=P.length) rfl
   simpa only [QY4,QY6]using this
  simp only[d0,e2,e3,f0,f1,f4,f10,f11,Wp hlv (show P.length+1+h<N by omega),Wp hlv (show P.length<N by omega),ldr hlv gy ey,ldr hlv gx ex,Qa,seval];refine Wv (by simp only[Qa,seval]) (hc.call y x ey ex) (Yh ey ex _) (Wg ey ex) rfl (.inl (Wg ey ex)) ?_;cases hcx:decide (c y x<0)with
  |true=>
   simp only[hcx,e5,Qa,seval];exact⟨j-(h+1),by omega,_,h+1,j,rfl,rfl,by omega,hj,fun k z hk hz=>KT hc.sw hY (Nat.le_of_lt_succ hk) hz hy hcx,hq,by simp only[f0,Qa,seval],by simp only[f1,Qa,seval],by simp only[f4,Qa,seval],by simp only[Qa,seval],by simp only[f11,Qa,seval]⟩
  |false=>
   simp only[hcx,Qa,seval];exact⟨h-i,by omega,_,i,h,rfl,rfl,by omega,by omega,hp,fun k z hk hz=>by
    cases hb:lt c z x with
    |false=>rfl
    |true=>exact absurd (KT hc.sw hY hk hy hz hb) (by show ¬(decide _=true);rw[hcx];simp),by simp only[f0,Qa,seval],by simp only[f1,Qa,seval],by simp only[f4,Qa,seval],by simp only[f10,Qa,seval],by simp only[Qa,seval]⟩
 ·have d0:decide (((P.length+1+i:Nat):Int)<((P.length+1+j:Nat):Int))=false:=by simp only[Q0E];omega
  have hij':j=i:=by omega
  subst hij';simp only[d0,f1,Qa,seval];have hres:mg (lt c) [x] Y=Y.take j++x :: Y.drop j:=by
   have:=QfD (lt:=lt c) (x:=x) (Y1:=Y.take j) (Y2:=Y.drop j) (fun y hy=>by
    obtain⟨k,hk⟩:=Q0T hy;rw[QZo]at hk;split at hk
    ·rename_i h;exact hp k y h hk
    ·cases hk) (fun y hy=>by
    obtain⟨k,hk⟩:=Q0T hy;rw[QZp]at hk;exact hq _ y (by omega) hk)
   rwa [QZV]at this
  refine Qe (SaT cz m lv s g N j P Y S x) _ ⟨_,0,by rw[show P++Y.take 0++[x]++Y.drop 0++S=P++[x]++Y++S by simp]<;>rfl,rfl,QYT _,by simp only[f0,Qa,seval],by simp only[f10,Qa,seval],by simp only[QZg,Qa,seval]⟩ ?_;clear f0 f1 f4 f10 f11 d0 hp hq f;rintro k st ⟨f,t,rfl,rfl,ht,f0,f10,f13⟩;have e6:IntKind.i64.wrap (((P.length+1+j:Nat):Int)-1)=((P.length+j:Nat):Int):=by rw[QU];omega
  have e7:IntKind.i64.wrap (((P.length+t:Nat):Int)+1)=((P.length+(t+1):Nat):Int):=by rw[QU];omega
  simp only[e6,f10,f13,Qa,seval];by_cases hlt:t<j
  ·have d0:decide (((P.length+t:Nat):Int)<((P.length+j:Nat):Int))=true:=by simp only[QZ2];omega
   obtain⟨y,hy⟩:∃y,Y[t]? = some y:=⟨_,QYN (by omega)⟩;have ey:=eY y (QYY hy);have hdrop:Y.drop t=[y]++Y.drop (t+1):=by
    rw[List.singleton_append,QZt (by omega)];congr 1
    exact(QYM.1 hy).2
   have htake:Y.take (t+1)=Y.take t++[y]:=by rw[Q0j,hy]<;>rfl
   have hlt':(Y.take t).length=t:=by rw[QZC];omega
   have g1:(P++Y.take t++[x]++Y.drop t++S)[P.length+t]? = some x:=by
    have:=UT (P:=P) (W:=Y.take t) (u:=x) (V:=Y.drop t++S) (i:=P.length+t) (by rw[hlt'])
    simpa only [QY4]using this
   have g2:(P++Y.take t++[x]++Y.drop t++S)[P.length+(t+1)]? = some y:=by
    have:=UT (P:=P) (W:=Y.take t++[x]) (u:=y) (V:=Y.drop (t+1)++S) (i:=P.length+(t+1)) (by rw[QZn,hlt']<;>rfl);rw[hdrop]
    simpa only [QY4]using this
   have g3:((P++Y.take t++[x]++Y.drop t++S).set (P.length+t) y)[P.length+(t+1)]? = some y:=by
    rw[Q0O (by omega),g2]
   have hset:((P++Y.take t++[x]++Y.drop t++S).set (P.length+t) y).set (P.length+(t+1)) x=P++Y.take (t+1)++[x]++Y.drop (t+1)++S:=by
    rw[hdrop,htake];simp[hlt']
   simp only[d0,e7,f0,f13,Wp hlv (show P.length+(t+1)<N by omega),Wp hlv (show P.length+t<N by omega),ldr hlv g1 ex,ldr hlv g2 ey,ex.len,ey.len,ex.leaf,ey.leaf,US hlv g1 ex ey hcz,US hlv g3 ey ex hcz,Qa,seval];exact⟨j-(t+1),by omega,_,t+1,by rw[hset]<;>rfl,rfl,by omega,by simp only[f0,Qa,seval],by simp only[f10,Qa,seval],by simp only[Qa,seval]⟩
  ·have d0:decide (((P.length+t:Nat):Int)<((P.length+j:Nat):Int))=false:=by simp only[Q0E];omega
   have htj:t=j:=by omega
   subst htj;have hfin:P++Y.take t++[x]++Y.drop t++S=P++mg (lt c) [x] Y++S:=by rw[hres];simp
   simp only[d0,hfin,put_len,Qa,seval]

end Go.Proofs.YtafhmlkilcmniaaGreatDoor.Tz

namespace Go.Proofs.YtafhmlkilcmniaaGreatDoor.Tz
open Go Am Bt Tg So
variable {Pg:Program}{cz sr ro sm is st ss:Nat}(hC:Tg.Cs Pg cz sr ro sm is st ss)(hcz:cz≠0)

variable {E:AV→Prop}

def SbS (cz:Nat)(m:Qk)(lv s g N:Nat)(kc:Nat)(c:AV→AV→Int)(P X S:List AV)(y:AV)(k:Nat)(st:St):Prop :=
 ∃f i j,st=⟨f,[Qc]++Am.put m lv s (.vec g cz (P++X++[y]++S)),[]⟩∧k=j-i∧i≤j∧j≤X.length∧(∀k x,k<i→X[k]? = some x→lt c y x=false)∧(∀k x,j≤k→X[k]? = some x→lt c y x=true)∧
  f 0=.vec (lv+1) s g 0 N false∧f 2=.int .i64 ((P.length+X.length:Nat):Int)∧f 4=.fn (.func kc) [] []∧f 14=.int .i64 ((P.length+i:Nat):Int)∧f 15=.int .i64 ((P.length+j:Nat):Int)

def SbT (cz:Nat)(m:Qk)(lv s g N i:Nat)(P X S:List AV)(y:AV)(k:Nat)(st:St):Prop :=
 ∃f t,st=⟨f,[Qc]++Am.put m lv s (.vec g cz (P++X.take t++[y]++X.drop t++S)),[]⟩∧k=t-i∧i≤t∧t≤X.length∧
  f 0=.vec (lv+1) s g 0 N false∧f 14=.int .i64 ((P.length+i:Nat):Int)∧f 17=.int .i64 ((P.length+t:Nat):Int)

include hC hcz in
theorem QTX {kc:Nat}{c:AV→AV→Int}(hc:Cp Pg cz E kc c)(lv s g:Nat)(P X:List AV)(y:AV)(S:List AV)(m:Qk)(hl:Am.Qh m lv s=.vec g cz (P++X++[y]++S))(he:∀x∈P++X++[y]++S,Ez E cz x)
  (hn:(P++X++[y]++S).length<4611686018427387904) (hX:ZV (lt c) X) (hX1:X.length≠1) :
  Qf Pg sm [.vec lv s g 0 (P++X++[y]++S).length false,.int .i64 (P.length:Nat),.int .i64 ((P.length+X.length:Nat):Int),.int .i64 ((P.length+X.length+1:Nat):Int),.fn (.func kc) [] []] m
   (fun v m1=>v=.tup []∧m1=Am.put m lv s (.vec g cz (P++mg (lt c) X [y]++S))):=by
 have _:=hC;have _:=hcz;have hlv:lv<m.length:=Xb (by rw[hl];simp);have hlen:(P++X++[y]++S).length=P.length+X.length+1+S.length:=by simp only[QZn,Q0d]
 have ey:Ez E cz y:=he y (by simp);have eX:∀x∈X,Ez E cz x:=fun x hx=>he x (by simp[hx])
 refine hC.csm.go (by simp) ?_;have e1:(IntKind.i64.wrap (((P.length+X.length:Nat):Int)-(P.length:Int))==1)=false:=by rw[QU];simp only[Q0F,ne_eq];omega
 have e2:(IntKind.i64.wrap (((P.length+X.length+1:Nat):Int)-((P.length+X.length:Nat):Int))==1)=true:=by rw[QU];simp only[QY8];omega
 simp only[Bu,PK,PM,PP,Dl,Vv,Vw,VC,Dm,Dn,Dp,Dq,Dr,Ds,Dt,Du,Dv,YJ,YK,YL,W0,W2,KH,KI,rsm,DC,e1,e2,Qa,seval];have h0:m=Am.put m lv s (.vec g cz (P++X++[y]++S)):=(JV hl).symm;generalize hN:(P++X++[y]++S).length=N at *;refine Qe (SbS cz m lv s g N kc c P X S y) _ ⟨_,0,X.length,by rw[←h0]<;>rfl,rfl,QYT _,QYK _,(by intro k y hk;exact absurd hk (Nat.not_lt_zero _)),(by intro k y hk hy;rw[QZ4 hk]at hy;cases hy),by simp only[Qa,seval],by simp only[Qa,seval],by simp only[Qa,seval],by simp only[QZg,Qa,seval],by simp only[Qa,seval]⟩ ?_;clear h0 e1 e2;rintro k st ⟨f,i,j,rfl,rfl,hij,hj,hp,hq,f0,f2,f4,f14,f15⟩;simp only[PQ,PR,DB,Vx,Vy,Vz,VA,VB,VD,VE,VF,Dw,Dx,Dy,Dz,DA,f14,f15,Qa,seval];by_cases hlt:i<j
 ·have d0:decide (((P.length+i:Nat):Int)<((P.length+j:Nat):Int))=true:=by simp only[QZ2];omega
  have e2:IntKind.i64.wrap (((P.length+i:Nat):Int)+((P.length+j:Nat):Int))=(((P.length+i)+(P.length+j):Nat):Int):=by rw[QU];omega
  have e3:=PU (P.length+i) (P.length+j) (by omega);have e4:((P.length+i)+(P.length+j)) / 2=P.length+(i+j) / 2:=by omega
  rw[e4]at e3;generalize hh:(i+j) / 2=h at *;have hh1:h<j:=by omega
  have hh2:i≤h:=by omega
  have e5:IntKind.i64.wrap (((P.length+h:Nat):Int)+1)=((P.length+(h+1):Nat):Int):=by rw[QU];omega
  obtain⟨x,hx⟩:∃x,X[h]? = some x:=⟨_,QYN (by omega)⟩;have ex:=eX x (QYY hx);have gx:(P++X++[y]++S)[P.length+h]? = some x:=by
   rw[QY4,QY4,QZ7 (by omega),QZ6 (by omega),←hx];congr 1;omega
  have gy:(P++X++[y]++S)[P.length+X.length]? = some y:=by
   have:=UT (P:=P) (W:=X) (u:=y) (V:=S) (i:=P.length+X.length) rfl
   simpa only [QY4]using this
  simp only[d0,e2,e3,f0,f2,f4,f14,f15,Wp hlv (show P.length+h<N by omega),Wp hlv (show P.length+X.length<N by omega),ldr hlv gy ey,ldr hlv gx ex,Qa,seval];refine Wv (by simp only[Qa,seval]) (hc.call y x ey ex) (Yh ey ex _) (Wg ey ex) rfl (.inl (Wg ey ex)) ?_;cases hcx:decide (c y x<0)with
  |true=>
   simp only[hcx,Qa,seval];exact⟨h-i,by omega,_,i,h,rfl,rfl,by omega,by omega,hp,fun k z hk hz=>by
    have:=Yt hX hc.sw hk hx hz;cases hb:lt c y z with
    |true=>rfl
    |false=>exact absurd (hc.sw.nt y z x hb this) (by show ¬(decide _=false);rw[hcx];simp),by simp only[f0,Qa,seval],by simp only[f2,Qa,seval],by simp only[f4,Qa,seval],by simp only[f14,Qa,seval],by simp only[Qa,seval]⟩
  |false=>
   simp only[hcx,e5,Qa,seval];exact⟨j-(h+1),by omega,_,h+1,j,rfl,rfl,by omega,hj,fun k z hk hz=>hc.sw.nt y x z hcx (Yt hX hc.sw (Nat.le_of_lt_succ hk) hz hx),hq,by simp only[f0,Qa,seval],by simp only[f2,Qa,seval],by simp only[f4,Qa,seval],by simp only[Qa,seval],by simp only[f15,Qa,seval]⟩
 ·have d0:decide (((P.length+i:Nat):Int)<((P.length+j:Nat):Int))=false:=by simp only[Q0E];omega
  have hij':j=i:=by omega
  subst hij';simp only[d0,f2,Qa,seval];have hres:mg (lt c) X [y]=X.take j++y :: X.drop j:=by
   have:=N8 (lt:=lt c) (y:=y) (X1:=X.take j) (X2:=X.drop j) (fun x hx=>by
    obtain⟨k,hk⟩:=Q0T hx;rw[QZo]at hk;split at hk
    ·rename_i h;exact hp k x h hk
    ·cases hk) (fun x hx=>by
    obtain⟨k,hk⟩:=Q0T hx;rw[QZp]at hk;exact hq _ x (by omega) hk)
   rwa [QZV]at this
  refine Qe (SbT cz m lv s g N j P X S y) _ ⟨_,X.length,by rw[show P++X.take X.length++[y]++X.drop X.length++S=P++X++[y]++S by simp]<;>rfl,rfl,hj,QYK _,by simp only[f0,Qa,seval],by simp only[f14,Qa,seval],by simp only[Qa,seval]⟩ ?_;clear f0 f2 f4 f14 f15 d0 hp hq f;rintro k st ⟨f,t,rfl,rfl,ht,htl,f0,f14,f17⟩;simp only[f14,f17,Qa,seval];by_cases hlt:j<t
  ·have d0:decide (((P.length+t:Nat):Int) > ((P.length+j:Nat):Int))=true:=by simp only[QZ2];omega
   obtain⟨r,rfl⟩:∃r,t=r+1:=⟨t-1,by omega⟩;have e7:IntKind.i64.wrap (((P.length+(r+1):Nat):Int)-1)=((P.length+r:Nat):Int):=by rw[QU];omega
   obtain⟨x,hx⟩:∃x,X[r]? = some x:=⟨_,QYN (by omega)⟩;have ex:=eX x (QYY hx);have hdrop:X.drop r=[x]++X.drop (r+1):=by
    rw[List.singleton_append,QZt (by omega)];congr 1
    exact(QYM.1 hx).2
   have htake:X.take (r+1)=X.take r++[x]:=by rw[Q0j,hx]<;>rfl
   have hlt':(X.take r).length=r:=by rw[QZC];omega
   have g1:(P++X.take (r+1)++[y]++X.drop (r+1)++S)[P.length+r]? = some x:=by
    have:=UT (P:=P) (W:=X.take r) (u:=x) (V:=[y]++X.drop (r+1)++S) (i:=P.length+r) (by rw[hlt']);rw[htake]
    simpa only [QY4]using this
   have g2:(P++X.take (r+1)++[y]++X.drop (r+1)++S)[P.length+(r+1)]? = some y:=by
    have:=UT (P:=P) (W:=X.take (r+1)) (u:=y) (V:=X.drop (r+1)++S) (i:=P.length+(r+1)) (by rw[QZC];omega)
    simpa only [QY4]using this
   have g3:((P++X.take (r+1)++[y]++X.drop (r+1)++S).set (P.length+(r+1)) x)[P.length+r]? = some x:=by
    rw[Q0O (by omega),g1]
   have hset:((P++X.take (r+1)++[y]++X.drop (r+1)++S).set (P.length+(r+1)) x).set (P.length+r) y=P++X.take r++[y]++X.drop r++S:=by
    rw[hdrop,htake];simp[hlt']
   simp only[d0,e7,f0,f17,Wp hlv (show P.length+(r+1)<N by omega),Wp hlv (show P.length+r<N by omega),ldr hlv g1 ex,ldr hlv g2 ey,ex.len,ey.len,ex.leaf,ey.leaf,US hlv g2 ey ex hcz,US hlv g3 ex ey hcz,Qa,seval];exact⟨r-j,by omega,_,r,by rw[hset]<;>rfl,rfl,by omega,by omega,by simp only[f0,Qa,seval],by simp only[f14,Qa,seval],by simp only[Qa,seval]⟩
  ·have d0:decide (((P.length+t:Nat):Int) > ((P.length+j:Nat):Int))=false:=by simp only[Q0E];omega
   have htj:t=j:=by omega
   subst htj;have hfin:P++X.take t++[y]++X.drop t++S=P++mg (lt c) X [y]++S:=by rw[hres];simp
   simp only[d0,hfin,put_len,Qa,seval]

end Go.Proofs.YtafhmlkilcmniaaGreatDoor.Tz

namespace Go.Proofs.YtafhmlkilcmniaaGreatDoor.Tz
open Go Am Bt Tg So
variable {Pg:Program}{cz sr ro sm is st ss:Nat}(hC:Tg.Cs Pg cz sr ro sm is st ss)(hcz:cz≠0)

variable {E:AV→Prop}

include hC hcz in
theorem Qf9 (cmp:AV){fr:Nat→Ob}{lv s g N a b n:Nat}(P X Y S:List AV){m:Qk}(hlv:lv<m.length)(hX:0<X.length)(hY:0<Y.length)(he:∀x∈P++X++Y++S,Ez E cz x)
  (hn:(P++X++Y++S).length<4611686018427387904) (hN:N=(P++X++Y++S).length) (ha:a=P.length) (hb:b=P.length+X.length) (hc:n=P.length+X.length+Y.length) :
  Qf Pg ro [.vec (lv+1) s g 0 N false,.int .i64 (a:Nat),.int .i64 (b:Nat),.int .i64 (n:Nat),cmp] (fr :: Am.put m lv s (.vec g cz (P++X++Y++S)))
   (fun x m1=>x=.tup []∧m1=fr :: Am.put m lv s (.vec g cz (P++Y++X++S))):=by
 have _:=hC;have _:=hcz;subst hN ha hb hc;refine(QTU hC hcz cmp (lv+1) s g P X Y S (fr :: Am.put m lv s (.vec g cz (P++X++Y++S))) (Qv (m:=m) hlv) hX hY he hn).mono fun x m1 h=>⟨h.1,?_⟩
 rw[h.2];simp only[Am.put,WA]

def Hj (Pg:Program)(cz sm:Nat)(E:AV→Prop)(kc:Nat)(c:AV→AV→Int)(n:Nat):Prop :=
 ∀(lv s g:Nat) (P X Y S:List AV) (m:Qk),X.length+Y.length=n→0<X.length→0<Y.length→Am.Qh m lv s=.vec g cz (P++X++Y++S)→(∀x∈P++X++Y++S,Ez E cz x)→
  (P++X++Y++S).length<4611686018427387904→ZV (lt c) X→ZV (lt c) Y→
  Qf Pg sm [.vec lv s g 0 (P++X++Y++S).length false,.int .i64 (P.length:Nat),.int .i64 ((P.length+X.length:Nat):Int),.int .i64 ((P.length+X.length+Y.length:Nat):Int),.fn (.func kc) [] []] m
   (fun v m1=>v=.tup []∧m1=Am.put m lv s (.vec g cz (P++mg (lt c) X Y++S)))

include hC hcz in
theorem Uc {kc:Nat}{c:AV→AV→Int}{n:Nat}(h:Hj Pg cz sm E kc c n){fr:Nat→Ob}{lv s g N a b e:Nat}(P X Y S:List AV){m:Qk}(hlv:lv<m.length)(hXY:X.length+Y.length=n)(hX:0<X.length)(hY:0<Y.length)(he:∀x∈P++X++Y++S,Ez E cz x)
  (hn:(P++X++Y++S).length<4611686018427387904) (sX:ZV (lt c) X) (sY:ZV (lt c) Y) (hN:N=(P++X++Y++S).length) (ha:a=P.length) (hb:b=P.length+X.length) (hc:e=P.length+X.length+Y.length) :
  Qf Pg sm [.vec (lv+1) s g 0 N false,.int .i64 (a:Nat),.int .i64 (b:Nat),.int .i64 (e:Nat),.fn (.func kc) [] []] (fr :: Am.put m lv s (.vec g cz (P++X++Y++S)))
   (fun x m1=>x=.tup []∧m1=fr :: Am.put m lv s (.vec g cz (P++mg (lt c) X Y++S))):=by
 have _:=hC;have _:=hcz;subst hN ha hb hc;refine(h (lv+1) s g P X Y S (fr :: Am.put m lv s (.vec g cz (P++X++Y++S))) hXY hX hY (Qv (m:=m) hlv) he hn sX sY).mono fun x m1 h=>⟨h.1,?_⟩
 rw[h.2];simp only[Am.put,WA]

def ScS (cz:Nat)(m:Qk)(lv s g N mid s0 r0:Nat)(kc:Nat)(c:AV→AV→Int)(P X Y S:List AV)(k:Nat)(st:St):Prop :=
 ∃f i j,st=⟨f,[Qc]++Am.put m lv s (.vec g cz (P++X++Y++S)),[]⟩∧k=j-i∧s0≤i∧i≤j∧j≤r0∧
  (∀k x y,s0≤k→k<i→X[k-P.length]? = some x→Y[mid-1-k]? = some y→lt c y x=false)∧(∀k x y,j≤k→k<r0→X[k-P.length]? = some x→Y[mid-1-k]? = some y→lt c y x=true)∧
  f 0=.vec (lv+1) s g 0 N false∧f 1=.int .i64 (P.length:Nat)∧f 2=.int .i64 ((P.length+X.length:Nat):Int)∧f 3=.int .i64 ((P.length+X.length+Y.length:Nat):Int)∧f 4=.fn (.func kc) [] []∧
  f 18=.int .i64 (mid:Nat)∧f 19=.int .i64 ((mid+(P.length+X.length):Nat):Int)∧f 22=.int .i64 ((mid+(P.length+X.length)-1:Nat):Int)∧f 20=.int .i64 (i:Nat)∧f 21=.int .i64 (j:Nat)

theorem Iu {c:AV→AV→Int}(hsw:SW (lt c)){X Y:List AV}{p mid t:Nat}{s0 r0:Nat}(sX:ZV (lt c) X)(sY:ZV (lt c) Y)(h1:s0≤t)(h2:t≤r0)(hp:p≤t)(htm:t≤mid)(hr:r0=mid∨r0=p+X.length)(hs:mid-s0≥Y.length∨s0=p)(hs2:mid-s0≤Y.length)(hr2:r0≤p+X.length)
  (hlow:∀k x y,s0≤k→k<t→X[k-p]? = some x→Y[mid-1-k]? = some y→lt c y x=false) (hhigh:∀k x y,t≤k→k<r0→X[k-p]? = some x→Y[mid-1-k]? = some y→lt c y x=true) :
  mg (lt c) X Y=mg (lt c) (X.take (t-p)) (Y.take (mid-t))++mg (lt c) (X.drop (t-p)) (Y.drop (mid-t)):=by
 have key:=WQ (lt:=lt c) _ (X.take (t-p)) (Y.take (mid-t)) (X.drop (t-p)) (Y.drop (mid-t)) rfl ?_ ?_
 ·rwa [QZV,QZV]at key
 ·intro y hy x hx;obtain⟨k,hk⟩:=Q0T hy;obtain⟨l,hl⟩:=Q0T hx;rw[QZo]at hk;split at hk
  ·rename_i hkt;rw[QZp]at hl;have hlX:t-p+l<X.length:=(QYM.1 hl).1;have hkY:k<Y.length:=(QYM.1 hk).1;have htr:t<r0:=by rcases hr with h|h<;>omega
   by_cases hY2:mid-1-t<Y.length
   ·obtain⟨x0,hx0⟩:∃x,X[t-p]? = some x:=⟨_,QYN (by omega)⟩;obtain⟨y0,hy0⟩:∃y,Y[mid-1-t]? = some y:=⟨_,QYN hY2⟩;have h0:=hhigh t x0 y0 (QYK _) htr hx0 hy0;have h3:=KT hsw sY (show k≤mid-1-t by omega) hk hy0 h0;have h4:=Yt sX hsw (show t-p≤t-p+l by omega) hx0 hl;cases hb:lt c y x with
    |true=>rfl
    |false=>
     have:=hsw.nt y x x0 hb h4;rw[h3]at this;cases this
   ·exfalso;omega
  ·cases hk
 ·intro x hx y hy;obtain⟨k,hk⟩:=Q0T hy;obtain⟨l,hl⟩:=Q0T hx;rw[QZo]at hl;split at hl
  ·rename_i hlt;rw[QZp]at hk;have hkY:mid-t+k<Y.length:=(QYM.1 hk).1;have hlX:l<X.length:=(QYM.1 hl).1;have hst:s0<t:=by rcases hs with h|h<;>omega
   by_cases hX2:t-1-p<X.length
   ·obtain⟨x0,hx0⟩:∃x,X[t-1-p]? = some x:=⟨_,QYN hX2⟩;obtain⟨y0,hy0⟩:∃y,Y[mid-1-(t-1)]? = some y:=⟨_,QYN (by omega)⟩;have h0:=hlow (t-1) x0 y0 (by omega) (by omega) hx0 hy0;have h3:=Yt sX hsw (show l≤t-1-p by omega) hl hx0;have h4:lt c y x0=false:=by
     cases hb:lt c y x0 with
     |false=>rfl
     |true=>
      have:=KT hsw sY (show mid-1-(t-1)≤mid-t+k by omega) hy0 hk hb;rw[h0]at this;cases this
    exact hsw.nt y x0 x h4 h3
   ·exfalso;omega
  ·cases hl

section
variable {kc:Nat}{c:AV→AV→Int}{nn lv s g N:Nat}{P X1 X2 Y1 Y2 S:List AV}{m:Qk}{f:Fr}

include hC hcz in
theorem QMf (ih:∀n,n<nn→Hj Pg cz sm E kc c n)(hnn:X2.length+Y2.length<nn)(hlv:lv<m.length)(he:∀x∈P++X2++Y2++S,Ez E cz x)(hN:N=(P++X2++Y2++S).length)(hn:N<4611686018427387904)
  (sX:ZV (lt c) X2) (sY:ZV (lt c) Y2) (f0:f 0=.vec (lv+1) s g 0 N false) (f3:f 3=.int .i64 ((P.length+X2.length+Y2.length:Nat):Int)) (f4:f 4=.fn (.func kc) [] []) (f18:f 18=.int .i64 (P.length:Nat)) (f24:f 24=.int .i64 ((P.length+X2.length:Nat):Int)) :
  QN Pg (.seq (.reg (KH cz sr ro sm is st)) (.cond (.t 213) (.reg (KI cz sr ro sm is st)) (.skip))) ⟨f,Qc :: Am.put m lv s (.vec g cz (P++X2++Y2++S)),[]⟩
   (Za DC m.length (fun v m1=>v=.tup []∧m1=Am.put m lv s (.vec g cz (P++mg (lt c) X2 Y2++S)))):=by
 have _:=hC;have _:=hcz;simp only[KH,KI,DC,f18,f24,Qa,seval];by_cases h1:0<X2.length
 ·have d1:decide ((P.length:Int)<((P.length+X2.length:Nat):Int))=true:=by simp only[QZ2];omega
  by_cases h2:0<Y2.length
  ·have d2:decide (((P.length+X2.length:Nat):Int)<((P.length+X2.length+Y2.length:Nat):Int))=true:=by simp only[QZ2];omega
   simp only[d1,d2,f0,f3,f4,f18,f24,Qa,seval];refine Qb (Uc hC hcz (ih _ hnn) P X2 Y2 S hlv rfl h1 h2 he (by omega) sX sY hN rfl rfl rfl) rfl ?_;simp only[put_len,Qa,seval]
  ·have d2:decide (((P.length+X2.length:Nat):Int)<((P.length+X2.length+Y2.length:Nat):Int))=false:=by simp only[Q0E];omega
   have hy:Y2=[]:=QZK (by omega);have hfin:P++X2++Y2++S=P++mg (lt c) X2 Y2++S:=by rw[hy,JI];simp
   simp only[d1,d2,f3,f24,hfin,put_len,Qa,seval]
 ·have d1:decide ((P.length:Int)<((P.length+X2.length:Nat):Int))=false:=by simp only[Q0E];omega
  have hx:X2=[]:=QZK (by omega);have hfin:P++X2++Y2++S=P++mg (lt c) X2 Y2++S:=by rw[hx,Jl];simp
  simp only[d1,hfin,put_len,Qa,seval]

include hC hcz in
theorem QMg (ih:∀n,n<nn→Hj Pg cz sm E kc c n)(hn1:X1.length+Y1.length<nn)(hn2:X2.length+Y2.length<nn)(hlv:lv<m.length)(he:∀x∈P++X1++Y1++(X2++Y2++S),Ez E cz x)(hN:N=(P++X1++Y1++(X2++Y2++S)).length)(hn:N<4611686018427387904)
  (sX1:ZV (lt c) X1) (sY1:ZV (lt c) Y1) (sX:ZV (lt c) X2) (sY:ZV (lt c) Y2) (f0:f 0=.vec (lv+1) s g 0 N false) (f1:f 1=.int .i64 (P.length:Nat)) (f3:f 3=.int .i64 ((P.length+X1.length+Y1.length+X2.length+Y2.length:Nat):Int)) (f4:f 4=.fn (.func kc) [] []) (f18:f 18=.int .i64 ((P.length+X1.length+Y1.length:Nat):Int)) (f20:f 20=.int .i64 ((P.length+X1.length:Nat):Int)) (f24:f 24=.int .i64 ((P.length+X1.length+Y1.length+X2.length:Nat):Int)) :
  QN Pg (.seq (.seq (.reg (W0 cz sr ro sm is st)) (.cond (.t 199) (.reg (W2 cz sr ro sm is st)) (.skip))) (.seq (.reg (KH cz sr ro sm is st)) (.cond (.t 213) (.reg (KI cz sr ro sm is st)) (.skip)))) ⟨f,Qc :: Am.put m lv s (.vec g cz (P++X1++Y1++(X2++Y2++S))),[]⟩
   (Za DC m.length (fun v m1=>v=.tup []∧m1=Am.put m lv s (.vec g cz (P++(mg (lt c) X1 Y1++mg (lt c) X2 Y2)++S)))):=by
 have _:=hC;have _:=hcz;have hlm:(mg (lt c) X1 Y1).length=X1.length+Y1.length:=QCU _ _ _ rfl;have hlen:N=P.length+X1.length+Y1.length+X2.length+Y2.length+S.length:=by rw[hN];simp only[QZn];omega
 have hem:∀x∈P++mg (lt c) X1 Y1++X2++Y2++S,Ez E cz x:=by
  intro x hx;refine he x ?_;simp only[QZX]at hx ⊢;rcases hx with(((hx|hx)|hx)|hx)|hx
  ·exact .inl (.inl (.inl hx))
  ·exact(QCV _ _ _ rfl hx).elim (fun h=>.inl (.inl (.inr h))) (fun h=>.inl (.inr h))
  ·exact .inr (.inl (.inl hx))
  ·exact .inr (.inl (.inr hx))
  ·exact .inr (.inr hx)
 have go:∀f:Fr,f 0=.vec (lv+1) s g 0 N false→f 3=.int .i64 ((P.length+X1.length+Y1.length+X2.length+Y2.length:Nat):Int)→f 4=.fn (.func kc) [] []→f 18=.int .i64 ((P.length+X1.length+Y1.length:Nat):Int)→f 24=.int .i64 ((P.length+X1.length+Y1.length+X2.length:Nat):Int)→
   QN Pg (.seq (.reg (KH cz sr ro sm is st)) (.cond (.t 213) (.reg (KI cz sr ro sm is st)) (.skip))) ⟨f,Qc :: Am.put m lv s (.vec g cz (P++mg (lt c) X1 Y1++(X2++Y2++S))),[]⟩
   (Za DC m.length (fun v m1=>v=.tup []∧m1=Am.put m lv s (.vec g cz (P++(mg (lt c) X1 Y1++mg (lt c) X2 Y2)++S)))):=by
  intro f f0 f3 f4 f18 f24;have hpl:(P++mg (lt c) X1 Y1).length=P.length+X1.length+Y1.length:=by rw[QZn,hlm];omega
  have:=QMf hC hcz (P:=P++mg (lt c) X1 Y1) (X2:=X2) (Y2:=Y2) (S:=S) (m:=m) (f:=f) (g:=g) (s:=s) ih hn2 hlv hem (by rw[hlen];simp only[QZn,hlm];omega) hn sX sY f0 (by rw[hpl];exact f3) f4 (by rw[hpl];exact f18) (by rw[hpl];exact f24);rw[show P++mg (lt c) X1 Y1++(X2++Y2++S)=P++mg (lt c) X1 Y1++X2++Y2++S by simp only[QY4],show P++(mg (lt c) X1 Y1++mg (lt c) X2 Y2)++S=P++mg (lt c) X1 Y1++mg (lt c) X2 Y2++S by simp only[QY4]];exact this
 rw[U0,U0];simp only[W0,W2,f1,f20,UZ,K0,Jk,KZ,K1,GE,Hv,QG,Xp,XO,cond_true,cond_false,true_and,seval,J6];by_cases h1:0<X1.length
 ·have d1:decide ((P.length:Int)<((P.length+X1.length:Nat):Int))=true:=by simp only[QZ2];omega
  by_cases h2:0<Y1.length
  ·have d2:decide (((P.length+X1.length:Nat):Int)<((P.length+X1.length+Y1.length:Nat):Int))=true:=by simp only[QZ2];omega
   simp only[d1,d2,f0,f1,f4,f18,f20,UZ,Jj,KY,K0,Jk,KZ,K1,GE,WJ,Hv,BT,WI,HT,QG,Xp,XO,cond_true,cond_false,true_and,seval,J6];refine Qb (Uc hC hcz (ih _ hn1) P X1 Y1 (X2++Y2++S) hlv rfl h1 h2 he (by omega) sX1 sY1 hN rfl rfl rfl) rfl ?_;rw[KY,Jj];refine go _ ?_ ?_ ?_ ?_ ?_
   ·simp only[f0,Qa,seval]
   ·simp only[f3,Qa,seval]
   ·simp only[f4,Qa,seval]
   ·simp only[f18,Qa,seval]
   ·simp only[f24,Qa,seval]
  ·have d2:decide (((P.length+X1.length:Nat):Int)<((P.length+X1.length+Y1.length:Nat):Int))=false:=by simp only[Q0E];omega
   have hy:Y1=[]:=QZK (by omega);have hres:mg (lt c) X1 Y1=X1++Y1:=by rw[hy,JI,QZI]
   rw[hres,←QY4 P X1 Y1]at go;simp only[d1,d2,hres,f18,f20,Jj,KY,K0,Jk,KZ,K1,GE,WJ,Hv,BT,WI,WH,UA,QG,Xp,XO,cond_true,cond_false,true_and,seval,J6];refine go _ ?_ ?_ ?_ ?_ ?_
   ·simp only[f0,Qa,seval]
   ·simp only[f3,Qa,seval]
   ·simp only[f4,Qa,seval]
   ·simp only[f18,Qa,seval]
   ·simp only[f24,Qa,seval]
 ·have d1:decide ((P.length:Int)<((P.length+X1.length:Nat):Int))=false:=by simp only[Q0E];omega
  have hx:X1=[]:=QZK (by omega);have hres:mg (lt c) X1 Y1=X1++Y1:=by rw[hx,Jl,QY6]
  rw[hres,←QY4 P X1 Y1]at go;simp only[d1,hres,Jj,KY,K0,Jk,KZ,K1,GE,UB,Hv,BT,WI,WH,UA,QG,cond_true,cond_false,true_and,seval,J6];refine go _ ?_ ?_ ?_ ?_ ?_
  ·simp only[f0,Qa,seval]
  ·simp only[f3,Qa,seval]
  ·simp only[f4,Qa,seval]
  ·simp only[f18,Qa,seval]
  ·simp only[f24,Qa,seval]

include hC hcz in
theorem QMh (ih:∀n,n<nn→Hj Pg cz sm E kc c n)(hn1:X1.length+Y1.length<nn)(hn2:X2.length+Y2.length<nn)(hlv:lv<m.length)(he:∀x∈P++X1++X2++Y1++(Y2++S),Ez E cz x)(hN:N=(P++X1++X2++Y1++(Y2++S)).length)(hn:N<4611686018427387904)
  (sX1:ZV (lt c) X1) (sY1:ZV (lt c) Y1) (sX:ZV (lt c) X2) (sY:ZV (lt c) Y2) (f0:f 0=.vec (lv+1) s g 0 N false) (f1:f 1=.int .i64 (P.length:Nat)) (f2:f 2=.int .i64 ((P.length+X1.length+X2.length:Nat):Int)) (f3:f 3=.int .i64 ((P.length+X1.length+Y1.length+X2.length+Y2.length:Nat):Int)) (f4:f 4=.fn (.func kc) [] []) (f18:f 18=.int .i64 ((P.length+X1.length+Y1.length:Nat):Int)) (f19:f 19=.int .i64 ((P.length+X1.length+Y1.length+(P.length+X1.length+X2.length):Nat):Int)) (f20:f 20=.int .i64 ((P.length+X1.length:Nat):Int)) :
  QN Pg (.seq (.reg (YJ cz sr ro sm is st)) (.seq (.seq (.reg (YK cz sr ro sm is st)) (.cond (.t 185) (.reg (YL cz sr ro sm is st)) (.skip))) (.seq (.seq (.reg (W0 cz sr ro sm is st)) (.cond (.t 199) (.reg (W2 cz sr ro sm is st)) (.skip))) (.seq (.reg (KH cz sr ro sm is st)) (.cond (.t 213) (.reg (KI cz sr ro sm is st)) (.skip)))))) ⟨f,Qc :: Am.put m lv s (.vec g cz (P++X1++X2++Y1++(Y2++S))),[]⟩
   (Za DC m.length (fun v m1=>v=.tup []∧m1=Am.put m lv s (.vec g cz (P++(mg (lt c) X1 Y1++mg (lt c) X2 Y2)++S)))):=by
 have _:=hC;have _:=hcz;have hlen:N=P.length+X1.length+Y1.length+X2.length+Y2.length+S.length:=by rw[hN];simp only[QZn];omega
 have hem:∀x∈P++X1++Y1++(X2++Y2++S),Ez E cz x:=by
  intro x hx;refine he x ?_;simp only[QZX]at hx ⊢;rcases hx with((hx|hx)|hx)|((hx|hx)|hx)
  ·exact .inl (.inl (.inl (.inl hx)))
  ·exact .inl (.inl (.inl (.inr hx)))
  ·exact .inl (.inr hx)
  ·exact .inl (.inl (.inr hx))
  ·exact .inr (.inl hx)
  ·exact .inr (.inr hx)
 have go:∀f:Fr,f 0=.vec (lv+1) s g 0 N false→f 1=.int .i64 (P.length:Nat)→f 3=.int .i64 ((P.length+X1.length+Y1.length+X2.length+Y2.length:Nat):Int)→f 4=.fn (.func kc) [] []→f 18=.int .i64 ((P.length+X1.length+Y1.length:Nat):Int)→f 20=.int .i64 ((P.length+X1.length:Nat):Int)→f 24=.int .i64 ((P.length+X1.length+Y1.length+X2.length:Nat):Int)→_ :=
  fun f f0 f1 f3 f4 f18 f20 f24=>QMg hC hcz (P:=P) (X1:=X1) (Y1:=Y1) (X2:=X2) (Y2:=Y2) (S:=S) (m:=m) (f:=f) (g:=g) (s:=s) ih hn1 hn2 hlv hem (by rw[hlen];simp only[QZn];omega) hn sX1 sY1 sX sY f0 f1 f3 f4 f18 f20 f24
 have e1:IntKind.i64.wrap (((P.length+X1.length+Y1.length+(P.length+X1.length+X2.length):Nat):Int)-((P.length+X1.length:Nat):Int))=((P.length+X1.length+Y1.length+X2.length:Nat):Int):=by rw[QU];omega
 rw[U0];simp only[YJ,e1,f19,f20,UZ,Jj,KY,K0,Jk,KZ,K1,Hv,QG,Xp,XO,cond_true,cond_false,true_and,seval,J6];rw[U0,U0];simp only[YK,f2,f20,UZ,K0,Jk,KZ,K1,GE,Hv,QG,Xp,XO,cond_true,cond_false,true_and,seval,J6];by_cases h1:0<X2.length
 ·have d1:decide (((P.length+X1.length:Nat):Int)<((P.length+X1.length+X2.length:Nat):Int))=true:=by simp only[QZ2];omega
  by_cases h2:0<Y1.length
  ·have d2:decide (((P.length+X1.length+X2.length:Nat):Int)<((P.length+X1.length+Y1.length+X2.length:Nat):Int))=true:=by simp only[QZ2];omega
   simp only[YL,d1,d2,f0,f2,f4,f20,UZ,Jj,KY,K0,Jk,KZ,K1,GE,WJ,Hv,BT,WI,HT,QG,Xp,XO,cond_true,cond_false,true_and,seval,J6];refine Qb (Qf9 hC hcz (.fn (.func kc) [] []) (P++X1) X2 Y1 (Y2++S) (n:=P.length+X1.length+Y1.length+X2.length) hlv h1 h2 he (by omega) hN (by rw[QZn]) (by rw[QZn]) (by rw[QZn];omega)) rfl ?_;rw[KY,Jj];rw[show P++X1++Y1++X2++(Y2++S)=P++X1++Y1++(X2++Y2++S)by simp only[QY4]];refine go _ ?_ ?_ ?_ ?_ ?_ ?_ ?_
   ·simp only[f0,Qa,seval]
   ·simp only[f1,Qa,seval]
   ·simp only[f3,Qa,seval]
   ·simp only[f4,Qa,seval]
   ·simp only[f18,Qa,seval]
   ·simp only[f20,Qa,seval]
   ·simp only[Qa,seval]
  ·have d2:decide (((P.length+X1.length+X2.length:Nat):Int)<((P.length+X1.length+Y1.length+X2.length:Nat):Int))=false:=by simp only[Q0E];omega
   have hy:Y1=[]:=QZK (by omega);have hrow:P++X1++X2++Y1++(Y2++S)=P++X1++Y1++(X2++Y2++S):=by rw[hy];simp
   simp only[d1,d2,hrow,f2,Jj,KY,K0,Jk,KZ,K1,GE,WJ,Hv,BT,WI,WH,UA,QG,Xp,XO,cond_true,cond_false,true_and,seval,J6];refine go _ ?_ ?_ ?_ ?_ ?_ ?_ ?_
   ·simp only[f0,Qa,seval]
   ·simp only[f1,Qa,seval]
   ·simp only[f3,Qa,seval]
   ·simp only[f4,Qa,seval]
   ·simp only[f18,Qa,seval]
   ·simp only[f20,Qa,seval]
   ·simp only[Qa,seval]
 ·have d1:decide (((P.length+X1.length:Nat):Int)<((P.length+X1.length+X2.length:Nat):Int))=false:=by simp only[Q0E];omega
  have hx:X2=[]:=QZK (by omega);have hrow:P++X1++X2++Y1++(Y2++S)=P++X1++Y1++(X2++Y2++S):=by rw[hx];simp
  simp only[d1,hrow,Jj,KY,K0,Jk,KZ,K1,GE,UB,Hv,BT,WI,WH,UA,QG,cond_true,cond_false,true_and,seval,J6];refine go _ ?_ ?_ ?_ ?_ ?_ ?_ ?_
  ·simp only[f0,Qa,seval]
  ·simp only[f1,Qa,seval]
  ·simp only[f3,Qa,seval]
  ·simp only[f4,Qa,seval]
  ·simp only[f18,Qa,seval]
  ·simp only[f20,Qa,seval]
  ·simp only[Qa,seval]

end

set_option maxHeartbeats 1000000 in
include hC hcz in
theorem QTY {kc:Nat}{c:AV→AV→Int}(hc:Cp Pg cz E kc c)(nn:Nat)(ih:∀n,n<nn→Hj Pg cz sm E kc c n)(lv s g:Nat)(P X Y S:List AV)(m:Qk)(hXY:X.length+Y.length=nn)(hX1:1<X.length)(hY1:1<Y.length)(hl:Am.Qh m lv s=.vec g cz (P++X++Y++S))(he:∀x∈P++X++Y++S,Ez E cz x)
  (hn:(P++X++Y++S).length<4611686018427387904) (sX:ZV (lt c) X) (sY:ZV (lt c) Y) :
  Qf Pg sm [.vec lv s g 0 (P++X++Y++S).length false,.int .i64 (P.length:Nat),.int .i64 ((P.length+X.length:Nat):Int),.int .i64 ((P.length+X.length+Y.length:Nat):Int),.fn (.func kc) [] []] m
   (fun v m1=>v=.tup []∧m1=Am.put m lv s (.vec g cz (P++mg (lt c) X Y++S))):=by
 have _:=hC;have _:=hcz;have hlv:lv<m.length:=Xb (by rw[hl];simp);have hlen:(P++X++Y++S).length=P.length+X.length+Y.length+S.length:=by simp only[QZn]
 refine hC.csm.go (by simp) ?_;have e1:(IntKind.i64.wrap (((P.length+X.length:Nat):Int)-(P.length:Int))==1)=false:=by rw[QU];simp only[Q0F,ne_eq];omega
 have e2:(IntKind.i64.wrap (((P.length+X.length+Y.length:Nat):Int)-((P.length+X.length:Nat):Int))==1)=false:=by rw[QU];simp only[Q0F,ne_eq];omega
 have e3:IntKind.i64.wrap ((P.length:Int)+((P.length+X.length+Y.length:Nat):Int))=((P.length+(P.length+X.length+Y.length):Nat):Int):=by rw[QU];omega
 have e4:=PU P.length (P.length+X.length+Y.length) (by omega);generalize hmid:(P.length+(P.length+X.length+Y.length)) / 2=mid at *;have e5:IntKind.i64.wrap ((mid:Int)+((P.length+X.length:Nat):Int))=((mid+(P.length+X.length):Nat):Int):=by rw[QU];omega
 have e6:IntKind.i64.wrap (((mid+(P.length+X.length):Nat):Int)-((P.length+X.length+Y.length:Nat):Int))=((mid+(P.length+X.length)-(P.length+X.length+Y.length):Nat):Int)∨mid<Y.length:=by
  by_cases h:mid<Y.length
  ·exact .inr h
  ·refine .inl ?_;rw[QU];omega
 have e7:IntKind.i64.wrap (((mid+(P.length+X.length):Nat):Int)-1)=((mid+(P.length+X.length)-1:Nat):Int):=by rw[QU];omega
 simp only[rsm,Bu,Dl,Dm,Dn,Dp,Dq,Dr,Ds,Dt,Du,Dv,e1,e2,e3,e4,e5,Qa,seval];have h0:m=Am.put m lv s (.vec g cz (P++X++Y++S)):=(JV hl).symm;generalize hN:(P++X++Y++S).length=N at *
 -- the search, from whatever bounds
 have main:∀(Q:Exit→St→Prop) (f:Fr) (s0 r0:Nat),s0≤r0→r0≤mid→(r0=mid∨r0=P.length+X.length)→(mid-s0≥Y.length∨s0=P.length)→mid-s0≤Y.length→r0≤P.length+X.length→P.length≤s0→
   f 0=.vec (lv+1) s g 0 N false→f 1=.int .i64 (P.length:Nat)→f 2=.int .i64 ((P.length+X.length:Nat):Int)→f 3=.int .i64 ((P.length+X.length+Y.length:Nat):Int)→f 4=.fn (.func kc) [] []→
   f 18=.int .i64 (mid:Nat)→f 19=.int .i64 ((mid+(P.length+X.length):Nat):Int)→f 22=.int .i64 ((mid+(P.length+X.length)-1:Nat):Int)→f 20=.int .i64 (s0:Nat)→f 21=.int .i64 (r0:Nat)→
   (∀(f:Fr) (t:Nat),s0≤t→t≤r0→mg (lt c) X Y=mg (lt c) (X.take (t-P.length)) (Y.take (mid-t))++mg (lt c) (X.drop (t-P.length)) (Y.drop (mid-t))→
    f 0=.vec (lv+1) s g 0 N false→f 1=.int .i64 (P.length:Nat)→f 2=.int .i64 ((P.length+X.length:Nat):Int)→f 3=.int .i64 ((P.length+X.length+Y.length:Nat):Int)→f 4=.fn (.func kc) [] []→
    f 18=.int .i64 (mid:Nat)→f 19=.int .i64 ((mid+(P.length+X.length):Nat):Int)→f 20=.int .i64 (t:Nat)→Q (.exit 8) ⟨f,Qc :: Am.put m lv s (.vec g cz (P++X++Y++S)),[]⟩)→
   QN Pg (.loop (DB cz sr ro sm is st)) ⟨f,Qc :: m,[]⟩ Q:=by
  intro Q f s0 r0 hsr hrm hr hs hs2 hr2 hps f0 f1 f2 f3 f4 f18 f19 f22 f20 f21 hQ;refine Qe (ScS cz m lv s g N mid s0 r0 kc c P X Y S) _ ⟨_,s0,r0,by rw[←h0]<;>rfl,rfl,QYK _,hsr,QYK _,(by intro k x y h1 h2;omega),(by intro k x y h1 h2;omega),f0,f1,f2,f3,f4,f18,f19,f22,f20,f21⟩ ?_;clear f0 f1 f2 f3 f4 f18 f19 f22 f20 f21 f;rintro k st ⟨f,i,j,rfl,rfl,hsi,hij,hj,hp,hq,f0,f1,f2,f3,f4,f18,f19,f22,f20,f21⟩;simp only[DB,Dw,Dx,Dy,Dz,DA,f20,f21,Qa,seval];by_cases hlt:i<j
  ·have d0:decide ((i:Int)<(j:Int))=true:=by simp only[QZ2];omega
   have e8:IntKind.i64.wrap ((i:Int)+(j:Int))=((i+j:Nat):Int):=by rw[QU];omega
   have e9:=PU i j (by omega);generalize hh:(i+j) / 2=h at *;have hh1:h<j:=by omega
   have hh2:i≤h:=by omega
   have ea:IntKind.i64.wrap ((h:Int)+1)=((h+1:Nat):Int):=by rw[QU];omega
   have eb:IntKind.i64.wrap (((mid+(P.length+X.length)-1:Nat):Int)-(h:Int))=((P.length+X.length+(mid-1-h):Nat):Int):=by rw[QU];omega
   obtain⟨x,hx⟩:∃x,X[h-P.length]? = some x:=⟨_,QYN (by omega)⟩;obtain⟨y,hy⟩:∃y,Y[mid-1-h]? = some y:=⟨_,QYN (by omega)⟩;have ex:Ez E cz x:=he x (by simp[QYY hx]);have ey:Ez E cz y:=he y (by simp[QYY hy]);have gx:(P++X++Y++S)[h]? = some x:=by
    rw[QY4,QY4,QZ7 (by omega),QZ6 (by omega),hx]
   have gy:(P++X++Y++S)[P.length+X.length+(mid-1-h)]? = some y:=by
    rw[QY4,QZ7 (by rw[QZn];omega),QZ6 (by rw[QZn];omega),←hy];congr 1;rw[QZn];omega
   simp only[d0,e8,e9,eb,f0,f4,f20,f21,f22,Wp hlv (show P.length+X.length+(mid-1-h)<N by omega),Wp hlv (show h<N by omega),ldr hlv gy ey,ldr hlv gx ex,Qa,seval];refine Wv (by simp only[Qa,seval]) (hc.call y x ey ex) (Yh ey ex _) (Wg ey ex) rfl (.inl (Wg ey ex)) ?_;cases hcx:decide (c y x<0)with
   |true=>
    simp only[hcx,Qa,seval];have hq':∀k x' y',h≤k→k<r0→X[k-P.length]? = some x'→Y[mid-1-k]? = some y'→lt c y' x'=true:=by
     intro k x' y' hk hk2 hx' hy';have h3:=KT hc.sw sY (show mid-1-k≤mid-1-h by omega) hy' hy hcx;have h4:=Yt sX hc.sw (show h-P.length≤k-P.length by omega) hx hx';cases hb:lt c y' x' with
     |true=>rfl
     |false=>
      have:=hc.sw.nt y' x' x hb h4;rw[h3]at this;cases this
    exact⟨h-i,by omega,_,i,h,rfl,rfl,hsi,by omega,by omega,hp,hq',by simp only[f0,Qa,seval],by simp only[f1,Qa,seval],by simp only[f2,Qa,seval],by simp only[f3,Qa,seval],by simp only[f4,Qa,seval],by simp only[f18,Qa,seval],by simp only[f19,Qa,seval],by simp only[f22,Qa,seval],by simp only[f20,Qa,seval],by simp only[Qa,seval]⟩
   |false=>
    simp only[hcx,ea,Qa,seval];exact⟨j-(h+1),by omega,_,h+1,j,rfl,rfl,by omega,by omega,hj,fun k x' y' hk hk2 hx' hy'=>by
     have h3:=Yt sX hc.sw (show k-P.length≤h-P.length by omega) hx' hx;have h4:lt c y' x=false:=by
      cases hb:lt c y' x with
      |false=>rfl
      |true=>exact absurd (KT hc.sw sY (show mid-1-h≤mid-1-k by omega) hy hy' hb) (by show ¬(decide _=true);rw[hcx];simp)
     exact hc.sw.nt y' x x' h4 h3,hq,by simp only[f0,Qa,seval],by simp only[f1,Qa,seval],by simp only[f2,Qa,seval],by simp only[f3,Qa,seval],by simp only[f4,Qa,seval],by simp only[f18,Qa,seval],by simp only[f19,Qa,seval],by simp only[f22,Qa,seval],by simp only[Qa,seval],by simp only[f21,Qa,seval]⟩
  ·have d0:decide ((i:Int)<(j:Int))=false:=by simp only[Q0E];omega
   have hij':j=i:=by omega
   subst hij';simp only[d0,Qa,seval];refine hQ _ j (by omega) (by omega) (Iu hc.sw sX sY hsi hj (by omega) (by omega) hr hs hs2 hr2 hp hq) ?_ ?_ ?_ ?_ ?_ ?_ ?_ ?_
   ·simp only[f0,Qa,seval]
   ·simp only[f1,Qa,seval]
   ·simp only[f2,Qa,seval]
   ·simp only[f3,Qa,seval]
   ·simp only[f4,Qa,seval]
   ·simp only[f18,Qa,seval]
   ·simp only[f19,Qa,seval]
   ·simp only[f20,Qa,seval]
 have hb1:mid≤P.length+X.length+Y.length:=by omega
 have fin:∀(f:Fr) (t:Nat),P.length≤t→t≤mid→t≤P.length+X.length→mid-t≤Y.length→mg (lt c) X Y=mg (lt c) (X.take (t-P.length)) (Y.take (mid-t))++mg (lt c) (X.drop (t-P.length)) (Y.drop (mid-t))→
    f 0=.vec (lv+1) s g 0 N false→f 1=.int .i64 (P.length:Nat)→f 2=.int .i64 ((P.length+X.length:Nat):Int)→f 3=.int .i64 ((P.length+X.length+Y.length:Nat):Int)→f 4=.fn (.func kc) [] []→
    f 18=.int .i64 (mid:Nat)→f 19=.int .i64 ((mid+(P.length+X.length):Nat):Int)→f 20=.int .i64 (t:Nat)→
   QN Pg (.seq (.reg (YJ cz sr ro sm is st)) (.seq (.seq (.reg (YK cz sr ro sm is st)) (.cond (.t 185) (.reg (YL cz sr ro sm is st)) (.skip))) (.seq (.seq (.reg (W0 cz sr ro sm is st)) (.cond (.t 199) (.reg (W2 cz sr ro sm is st)) (.skip))) (.seq (.reg (KH cz sr ro sm is st)) (.cond (.t 213) (.reg (KI cz sr ro sm is st)) (.skip)))))) ⟨f,Qc :: Am.put m lv s (.vec g cz (P++X++Y++S)),[]⟩
   (Za DC m.length (fun v m1=>v=.tup []∧m1=Am.put m lv s (.vec g cz (P++mg (lt c) X Y++S)))):=by
  intro f t h1 h2 h3 h4 hmg f0 f1 f2 f3 f4 f18 f19 f20;have l1:(X.take (t-P.length)).length=t-P.length:=by rw[QZC];omega
  have l2:(X.drop (t-P.length)).length=P.length+X.length-t:=by rw[QZr];omega
  have l3:(Y.take (mid-t)).length=mid-t:=by rw[QZC];omega
  have l4:(Y.drop (mid-t)).length=Y.length-(mid-t):=by rw[QZr]
  have hrow:P++X.take (t-P.length)++X.drop (t-P.length)++Y.take (mid-t)++(Y.drop (mid-t)++S)=P++X++Y++S:=by
   rw[QY4 P,QZV,←QY4 _ _ S,QY4 (P++X),QZV]
  have:=QMh hC hcz (kc:=kc) (c:=c) (nn:=nn) (lv:=lv) (s:=s) (g:=g) (N:=N) (P:=P) (X1:=X.take (t-P.length)) (X2:=X.drop (t-P.length)) (Y1:=Y.take (mid-t)) (Y2:=Y.drop (mid-t)) (S:=S) (m:=m) (f:=f) ih
   (by rw[l1,l3];omega) (by rw[l2,l4];omega) hlv (by rw[hrow];exact he) (by rw[hrow,hN]) hn
   (List.Pairwise.sublist (List.take_sublist _ _) sX) (List.Pairwise.sublist (List.take_sublist _ _) sY) (List.Pairwise.sublist (List.drop_sublist _ _) sX) (List.Pairwise.sublist (List.drop_sublist _ _) sY)
   f0 f1 (by rw[f2,l1,l2];congr 2;omega) (by rw[f3,l1,l2,l3,l4];congr 2;omega) f4 (by rw[f18,l1,l3];congr 2;omega) (by rw[f19,l1,l2,l3];congr 2;omega) (by rw[f20,l1];congr 2;omega)
  rw[hrow,←hmg]at this;exact this
 by_cases hgt:mid<P.length+X.length
 ·have d0:decide (((P.length+X.length:Nat):Int) > (mid:Int))=true:=by simp only[QZ2];omega
  have hmy:Y.length≤mid:=by omega
  have e6':=e6.resolve_right (by omega);simp only[d0,e6',e7,Qa,seval];refine main _ _ (mid+(P.length+X.length)-(P.length+X.length+Y.length)) mid (by omega) (by omega) (.inl rfl) (.inl (by omega)) (by omega) (by omega) (by omega) ?_ ?_ ?_ ?_ ?_ ?_ ?_ ?_ ?_ ?_ ?_
  case refine_11=>
   intro f t h1 h2 hmg f0 f1 f2 f3 f4 f18 f19 f20;rw[BS,QYS rfl,Jj];exact fin f t (by omega) (by omega) (by omega) (by omega) hmg f0 f1 f2 f3 f4 f18 f19 f20
  all_goals simp only[Qa,seval]
 ·have d0:decide (((P.length+X.length:Nat):Int) > (mid:Int))=false:=by simp only[Q0E];omega
  simp only[d0,e7,Qa,seval];refine main _ _ P.length (P.length+X.length) (by omega) (by omega) (.inr rfl) (.inr rfl) (by omega) (by omega) (by omega) ?_ ?_ ?_ ?_ ?_ ?_ ?_ ?_ ?_ ?_ ?_
  case refine_11=>
   intro f t h1 h2 hmg f0 f1 f2 f3 f4 f18 f19 f20;rw[BS,QYS rfl,Jj];exact fin f t (by omega) (by omega) (by omega) (by omega) hmg f0 f1 f2 f3 f4 f18 f19 f20
  all_goals simp only[Qa,seval]

include hC hcz in
theorem sym {kc:Nat}{c:AV→AV→Int}(hc:Cp Pg cz E kc c):∀n,Hj Pg cz sm E kc c n:=by
 have _:=hC;have _:=hcz;intro n
 induction n using Nat.strongRecOn with
 |_ n ih=>
 intro lv s g P X Y S m hXY hX hY hl he hn sX sY;by_cases h1:X.length=1
 ·obtain⟨x,rfl⟩:=List.length_eq_one_iff.1 h1;exact QTW hC hcz hc lv s g P x Y S m hl he hn sY
 ·by_cases h2:Y.length=1
  ·obtain⟨y,rfl⟩:=List.length_eq_one_iff.1 h2;exact QTX hC hcz hc lv s g P X y S m hl he hn sX h1
  ·exact QTY hC hcz hc n ih lv s g P X Y S m hXY (by omega) (by omega) hl he hn sX sY

end Go.Proofs.YtafhmlkilcmniaaGreatDoor.Tz

namespace Go.Proofs.YtafhmlkilcmniaaGreatDoor.Tz
open Go Am Bt Tg So
variable {Pg:Program}{cz sr ro sm is st ss:Nat}(hC:Tg.Cs Pg cz sr ro sm is st ss)(hcz:cz≠0)

variable {E:AV→Prop}

include hC hcz in
theorem Mp {kc:Nat}{c:AV→AV→Int}(hc:Cp Pg cz E kc c){fr:Nat→Ob}{lv s g N a b:Nat}(P X S:List AV){m:Qk}(hlv:lv<m.length)(he:∀x∈P++X++S,Ez E cz x)
  (hn:(P++X++S).length<4611686018427387904) (hN:N=(P++X++S).length) (ha:a=P.length) (hb:b=P.length+X.length) :
  Qf Pg is [.vec (lv+1) s g 0 N false,.int .i64 (a:Nat),.int .i64 (b:Nat),.fn (.func kc) [] []] (fr :: Am.put m lv s (.vec g cz (P++X++S)))
   (fun x m1=>x=.tup []∧m1=fr :: Am.put m lv s (.vec g cz (P++QD (lt c) X++S))):=by
 have _:=hC;have _:=hcz;subst hN ha hb;refine(QTV hC hcz hc (lv+1) s g P X S (fr :: Am.put m lv s (.vec g cz (P++X++S))) (Qv (m:=m) hlv) he hn).mono fun x m1 h=>⟨h.1,?_⟩
 rw[h.2];simp only[Am.put,WA]

def St1 (cz:Nat)(m:Qk)(lv s g:Nat)(kc:Nat)(c:AV→AV→Int)(xs:List AV)(k:Nat)(st:St):Prop :=
 ∃f i,st=⟨f,[Qc]++Am.put m lv s (.vec g cz (Xh (lt c) 20 i xs++xs.drop (20*i))),[]⟩∧k=xs.length-20*i∧20*i≤xs.length∧
  f 0=.vec (lv+1) s g 0 xs.length false∧f 1=.int .i64 (xs.length:Nat)∧f 2=.fn (.func kc) [] []∧f 6=.int .i64 20∧f 7=.int .i64 ((20*i:Nat):Int)∧f 8=.int .i64 ((20*(i+1):Nat):Int)

def St2 (cz:Nat)(m:Qk)(lv s g:Nat)(kc:Nat)(c:AV→AV→Int)(xs:List AV)(k:Nat)(st:St):Prop :=
 ∃f b n,st=⟨f,[Qc]++Am.put m lv s (.vec g cz (Xh (lt c) b n xs)),[]⟩∧k=xs.length-b∧0<b∧b<2305843009213693952∧xs.length≤b*n∧
  f 0=.vec (lv+1) s g 0 xs.length false∧f 1=.int .i64 (xs.length:Nat)∧f 2=.fn (.func kc) [] []∧f 6=.int .i64 (b:Nat)

def St3 (cz:Nat)(m:Qk)(lv s g:Nat)(kc:Nat)(c:AV→AV→Int)(xs:List AV)(b:Nat)(k:Nat)(st:St):Prop :=
 ∃f i n,st=⟨f,[Qc]++Am.put m lv s (.vec g cz (Xh (lt c) (2*b) i xs++Xh (lt c) b n (xs.drop (2*b*i)))),[]⟩∧k=xs.length-2*b*i∧2*b*i≤xs.length∧xs.length-2*b*i≤b*n∧
  f 0=.vec (lv+1) s g 0 xs.length false∧f 1=.int .i64 (xs.length:Nat)∧f 2=.fn (.func kc) [] []∧f 6=.int .i64 (b:Nat)∧f 7=.int .i64 ((2*b*i:Nat):Int)∧f 8=.int .i64 ((2*b*(i+1):Nat):Int)

set_option maxHeartbeats 1000000 in
include hC hcz in
theorem QTZ {kc:Nat}{c:AV→AV→Int}(hc:Cp Pg cz E kc c)(lv s g:Nat)(xs:List AV)(m:Qk)(hl:Am.Qh m lv s=.vec g cz xs)(he:∀x∈xs,Ez E cz x)
  (hn:xs.length<1152921504606846976) :
  Qf Pg st [.vec lv s g 0 xs.length false,.int .i64 (xs.length:Nat),.fn (.func kc) [] []] m
   (fun x m1=>x=.tup []∧m1=Am.put m lv s (.vec g cz (QD (lt c) xs))):=by
 have _:=hC;have _:=hcz;have hlv:lv<m.length:=Xb (by rw[hl];simp);refine hC.cst.go (by simp) ?_;have h0:m=Am.put m lv s (.vec g cz xs):=(JV hl).symm;simp only[rst,Qbn,Qbo,Qa,seval];refine Qe (St1 cz m lv s g kc c xs) _ ⟨_,0,by rw[show Xh (lt c) 20 0 xs++xs.drop (20*0)=xs by simp[Xh],←h0]<;>rfl,rfl,by omega,by simp only[Qa,seval],by simp only[Qa,seval],by simp only[Qa,seval],by simp only[Qa,seval],by simp only[Qa,seval]<;>rfl,by simp only[Qa,seval]<;>rfl⟩ ?_;clear h0;rintro k st ⟨f,i,rfl,rfl,hi,f0,f1,f2,f6,f7,f8⟩;simp only[Qbt,Qbp,f1,f8,Qa,seval];have hbl:(Xh (lt c) 20 i xs).length=20*i:=by rw[U5];omega
 by_cases hlt:20*(i+1)≤xs.length
 ·have d0:decide (((20*(i+1):Nat):Int)≤(xs.length:Int))=true:=by simp only[QZ2];omega
  have e1:IntKind.i64.wrap (((20*(i+1):Nat):Int)+20)=((20*(i+1+1):Nat):Int):=by rw[QU];omega
  have hcut:Xh (lt c) 20 i xs++xs.drop (20*i)=Xh (lt c) 20 i xs++(xs.drop (20*i)).take 20++xs.drop (20*(i+1)):=by
   rw[QY4,show 20*(i+1)=20*i+20 by omega,←QZe,QZV]
  have hx1:((xs.drop (20*i)).take 20).length=20:=by rw[QZC,QZr];omega
  have hee:∀x∈Xh (lt c) 20 i xs++(xs.drop (20*i)).take 20++xs.drop (20*(i+1)),Ez E cz x:=by
   intro x hx;refine he x ?_;rcases QZX.1 hx with hx|hx
   ·rcases QZX.1 hx with hx|hx
    ·exact Wx hx
    ·exact QZv (QZw hx)
   ·exact QZv hx
  have hNN:(Xh (lt c) 20 i xs++(xs.drop (20*i)).take 20++xs.drop (20*(i+1))).length=xs.length:=by
   rw[QZn,QZn,hx1,hbl,QZr];omega
  simp only[d0,hcut,Qbq,f0,f2,f7,f8,Qa,seval];refine Qb (Mp hC hcz hc (a:=20*i) (b:=20*(i+1)) (Xh (lt c) 20 i xs) ((xs.drop (20*i)).take 20) (xs.drop (20*(i+1))) hlv hee (by omega) hNN.symm hbl.symm (by rw[hbl,hx1];omega)) rfl ?_;simp only[Qbr,Qbs,e1,f6,f8,Qa,seval];exact⟨xs.length-20*(i+1),by omega,_,i+1,by rw[Y3]<;>rfl,rfl,hlt,by simp only[f0,Qa,seval],by simp only[f1,Qa,seval],by simp only[f2,Qa,seval],by simp only[f6,Qa,seval],by simp only[Qa,seval],by simp only[Qa,seval]⟩
 ·have d0:decide (((20*(i+1):Nat):Int)≤(xs.length:Int))=false:=by simp only[Q0E];omega
  have hee:∀x∈Xh (lt c) 20 i xs++xs.drop (20*i)++[],Ez E cz x:=by
   intro x hx;refine he x ?_;rw[QZI]at hx;rcases QZX.1 hx with hx|hx
   ·exact Wx hx
   ·exact QZv hx
  have hNN:(Xh (lt c) 20 i xs++xs.drop (20*i)++[]).length=xs.length:=by
   rw[QZI,QZn,hbl,QZr];omega
  have hic:=Mp hC hcz hc (fr:=Qc) (g:=g) (s:=s) (N:=xs.length) (a:=20*i) (b:=xs.length) (Xh (lt c) 20 i xs) (xs.drop (20*i)) [] hlv hee (by omega) hNN.symm hbl.symm (by rw[hbl,QZr];omega);have hsn:Xh (lt c) 20 i xs++QD (lt c) (xs.drop (20*i))=Xh (lt c) 20 (i+1) xs:=by
   rw[Y3,QZj (by rw[QZr];omega)]
  rw[QZI,QZI,hsn]at hic;simp only[d0,Qbu,f0,f1,f2,f7,Qa,seval];refine Qb hic rfl ?_;simp only[Qa,seval];refine Qe (St2 cz m lv s g kc c xs) _ ⟨_,20,i+1,rfl,rfl,by omega,by omega,by omega,by simp only[f0,Qa,seval],by simp only[f1,Qa,seval],by simp only[f2,Qa,seval],by simp only[f6,Qa,seval]<;>rfl⟩ ?_;clear f0 f1 f2 f6 f7 f8 hic hsn hNN hee d0 hlt hbl hi f i;rintro k st ⟨f,b,n,rfl,rfl,hb0,hb1,hbn,f0,f1,f2,f6⟩;simp only[Qbz,Qbv,f1,f6,Qa,seval];by_cases hlt:b<xs.length
  ·have d0:decide ((b:Int)<(xs.length:Int))=true:=by simp only[QZ2];omega
   have e1:IntKind.i64.wrap (2*(b:Int))=((2*b:Nat):Int):=by rw[QU];omega
   have e1':IntKind.i64.wrap ((b:Int)*2)=((2*b:Nat):Int):=by rw[QU];omega
   simp only[d0,Qbw,e1,f6,Qa,seval];refine Qe (St3 cz m lv s g kc c xs b) _ ⟨_,0,n,by simp only[Xh,Nat.mul_zero,QZs,QY6]<;>rfl,rfl,by omega,by omega,by simp only[f0,Qa,seval],by simp only[f1,Qa,seval],by simp only[f2,Qa,seval],by simp only[f6,Qa,seval],by simp only[Qa,seval]<;>rfl,by simp only[QY9,Nat.mul_one,Qa,seval]⟩ ?_;clear f0 f1 f2 f6 f;rintro k st ⟨f,i,n',rfl,rfl,hi,hn',f0,f1,f2,f6,f7,f8⟩;have hA1:2*b*(i+1)=2*b*i+2*b:=Nat.mul_succ _ _;have hA2:2*b*(i+1+1)=2*b*i+2*b+2*b:=by rw[Nat.mul_succ,hA1]
   have hbl:(Xh (lt c) (2*b) i xs).length=2*b*i:=by rw[U5];omega
   have hsnoc:=Y3 (lt:=lt c) (2*b) i xs;rw[hA1]at f8;clear hbn;generalize hA:2*b*i=A at *;simp only[Qby,Qbx,f1,f8,Qa,seval];generalize hL:xs.drop A=L at *;have hLl:L.length=xs.length-A:=by rw[←hL,QZr]
   have hLe:∀z∈L,Ez E cz z:=fun z hz=>he z (QZv (by rw[hL];exact hz))
   have hPe:∀z∈Xh (lt c) (2*b) i xs,Ez E cz z:=fun z hz=>he z (Wx hz)
   have e2:IntKind.i64.wrap (((A:Nat):Int)+(b:Int))=((A+b:Nat):Int):=by rw[QU];omega
   -- K9 blocks and the rest
   have K9:b<L.length→∃n'',n'=n''+2∧Xh (lt c) b n' L=QD (lt c) (L.take b)++QD (lt c) ((L.drop b).take b)++Xh (lt c) b n'' (L.drop (2*b))∧mg (lt c) (QD (lt c) (L.take b)) (QD (lt c) ((L.drop b).take b))=QD (lt c) (L.take (2*b)):=by
    intro h
    match n',hn' with
    |0,hn'=>omega
    |1,hn'=>omega
    |n''+2,_=>
     refine⟨n'',rfl,?_,?_⟩
     ·rw[Xh,Xh,QY4,QZe,show b+b=2*b by omega]
     ·rw[HZ hc.sw,EV]
   by_cases hlt2:A+2*b≤xs.length
   ·have d1:decide (((A+2*b:Nat):Int)≤(xs.length:Int))=true:=by simp only[QZ2];omega
    obtain⟨n'',rfl,hrow,hmg⟩:=K9 (by omega);have hn2:b*(n''+2)=b*n''+2*b:=by rw[Nat.mul_add,Nat.mul_comm b 2]
    rw[hn2]at hn';clear K9;generalize hZ:b*n''=Z at *;have e3:IntKind.i64.wrap (((A+2*b:Nat):Int)+((2*b:Nat):Int))=((A+2*b+2*b:Nat):Int):=by
     rw[QU];omega
    have l1:(QD (lt c) (L.take b)).length=b:=by rw[JK,QZC];omega
    have l2:(QD (lt c) ((L.drop b).take b)).length=b:=by rw[JK,QZC,QZr];omega
    have l3:(Xh (lt c) b n'' (L.drop (2*b))).length=L.length-2*b:=by
     rw[U5,QZr,hZ];omega
    have hcut:Xh (lt c) (2*b) i xs++Xh (lt c) b (n''+2) L=Xh (lt c) (2*b) i xs++QD (lt c) (L.take b)++QD (lt c) ((L.drop b).take b)++Xh (lt c) b n'' (L.drop (2*b)):=by
     rw[hrow];simp only[QY4]
    have hee:∀x∈Xh (lt c) (2*b) i xs++QD (lt c) (L.take b)++QD (lt c) ((L.drop b).take b)++Xh (lt c) b n'' (L.drop (2*b)),Ez E cz x:=by
     rw[←hcut];intro x hx;rcases QZX.1 hx with hx|hx
     ·exact hPe x hx
     ·exact hLe x (Wx hx)
    have hNN:(Xh (lt c) (2*b) i xs++QD (lt c) (L.take b)++QD (lt c) ((L.drop b).take b)++Xh (lt c) b n'' (L.drop (2*b))).length=xs.length:=by
     rw[QZn,QZn,QZn,l1,l2,l3,hbl];omega
    simp only[d1,hcut,e2,AB,f0,f2,f6,f7,f8,Qa,seval];refine Qb (Uc hC hcz (sym hC hcz hc _) (a:=A) (b:=A+b) (e:=A+2*b) (Xh (lt c) (2*b) i xs) (QD (lt c) (L.take b)) (QD (lt c) ((L.drop b).take b)) (Xh (lt c) b n'' (L.drop (2*b))) hlv rfl (by omega) (by omega) hee (by omega) (JJ hc.sw _) (JJ hc.sw _) hNN.symm hbl.symm (by rw[hbl,l1]) (by rw[hbl,l1,l2];omega)) rfl ?_;simp only[AC,AD,e1,e3,f6,f8,Qa,seval];refine⟨xs.length-(A+2*b),by omega,_,i+1,n'',by rw[hsnoc,hmg,hA1,←QZe,hL]<;>rfl,by rw[hA1],by rw[hA1];exact hlt2,?_,by simp only[f0,Qa,seval],by simp only[f1,Qa,seval],by simp only[f2,Qa,seval],by simp only[f6,Qa,seval],by simp only[hA1,Qa,seval],by simp only[hA2,Qa,seval]⟩
    ·rw[hA1,hZ];omega
   ·have d1:decide (((A+2*b:Nat):Int)≤(xs.length:Int))=false:=by simp only[Q0E];omega
    have hfin:Xh (lt c) (2*b) i xs++QD (lt c) L=Xh (lt c) (2*b) (i+1) xs:=by
     rw[hsnoc,QZj (by omega)]
    simp only[d1,e2,AE,AG,f1,f6,f7,Qa,seval];by_cases hm:A+b<xs.length
    ·have d2:decide (((A+b:Nat):Int)<(xs.length:Int))=true:=by simp only[QZ2];omega
     obtain⟨n'',rfl,hrow,hmg⟩:=K9 (by omega);clear K9 hn';have hr0:L.drop (2*b)=[]:=QZm (by omega);have hr1:(L.drop b).take b=L.drop b:=QZj (by rw[QZr];omega);have hr2:L.take (2*b)=L:=QZj (by omega);rw[hr0,D6,QZI,hr1]at hrow;rw[hr1,hr2]at hmg;have l1:(QD (lt c) (L.take b)).length=b:=by rw[JK,QZC];omega
     have l2:(QD (lt c) (L.drop b)).length=L.length-b:=by rw[JK,QZr]
     have hee:∀x∈Xh (lt c) (2*b) i xs++QD (lt c) (L.take b)++QD (lt c) (L.drop b)++[],Ez E cz x:=by
      intro x hx;rw[QZI,QY4,←hrow]at hx;rcases QZX.1 hx with hx|hx
      ·exact hPe x hx
      ·exact hLe x (Wx hx)
     have hNN:(Xh (lt c) (2*b) i xs++QD (lt c) (L.take b)++QD (lt c) (L.drop b)++[]).length=xs.length:=by
      rw[QZI,QZn,QZn,l1,l2,hbl];omega
     have hsc:=Uc hC hcz (sym hC hcz hc _) (fr:=Qc) (s:=s) (g:=g) (N:=xs.length) (a:=A) (b:=A+b) (e:=xs.length) (Xh (lt c) (2*b) i xs) (QD (lt c) (L.take b)) (QD (lt c) (L.drop b)) [] hlv rfl (by omega) (by omega) hee (by omega) (JJ hc.sw _) (JJ hc.sw _) hNN.symm hbl.symm (by rw[hbl,l1]) (by rw[hbl,l1,l2];omega);rw[QZI,QZI,hmg,hfin,QY4,←hrow]at hsc;simp only[d2,AH,f0,f1,f2,f7,Qa,seval];refine Qb hsc rfl ?_;simp only[VG,e1',f6,Qa,seval];exact⟨xs.length-2*b,by omega,_,2*b,i+1,rfl,rfl,by omega,by omega,by rw[hA1];omega,by simp only[f0,Qa,seval],by simp only[f1,Qa,seval],by simp only[f2,Qa,seval],by simp only[Qa,seval]⟩
    ·have d2:decide (((A+b:Nat):Int)<(xs.length:Int))=false:=by simp only[Q0E];omega
     have hrow:Xh (lt c) b n' L=QD (lt c) L:=CW (by omega) (by omega);simp only[d2,hrow,hfin,VG,e1',f6,Qa,seval];exact⟨xs.length-2*b,by omega,_,2*b,i+1,rfl,rfl,by omega,by omega,by rw[hA1];omega,by simp only[f0,Qa,seval],by simp only[f1,Qa,seval],by simp only[f2,Qa,seval],by simp only[Qa,seval]⟩
  ·have d0:decide ((b:Int)<(xs.length:Int))=false:=by simp only[Q0E];omega
   have hfin:Xh (lt c) b n xs=QD (lt c) xs:=CW (by omega) hbn;simp only[d0,hfin,put_len,ost,Qa,seval]

include hC hcz in
theorem PV {kc:Nat}{c:AV→AV→Int}(hc:Cp Pg cz E kc c)(lv s g:Nat)(xs:List AV)(m:Qk)(hl:Am.Qh m lv s=.vec g cz xs)(he:∀x∈xs,Ez E cz x)
  (hn:xs.length<1152921504606846976) :
  Qf Pg ss [.vec lv s g 0 xs.length false,.fn (.func kc) [] []] m
   (fun x m1=>x=.tup []∧m1=Am.put m lv s (.vec g cz (QD (lt c) xs))):=by
 have _:=hC;have _:=hcz;have hlv:lv<m.length:=Xb (by rw[hl];simp);refine hC.css.go (by simp) ?_;have hl2:Am.Qh (Qc :: m) (lv+1) s=.vec g cz xs:=hl;simp only[QbA,rss,oss,hl2,Qa,seval];refine Qb ((QTZ hC hcz hc (lv+1) s g xs (Qc :: m) hl he hn).mono fun x m1 h=>⟨h.1,h.2.trans rfl⟩) rfl ?_;simp only[Am.put,put_len,Qa,seval]

end Go.Proofs.YtafhmlkilcmniaaGreatDoor.Tz

namespace Go.Proofs.YtafhmlkilcmniaaGreatDoor.Tg
open Go Am

theorem QbB:Cs Tryz.prog 4 238 194 137 136 78 33 where
 csr:=ck Tryz.func238 Tryz.ntmps238 (by decide +kernel)
 cro:=ck Tryz.func194 Tryz.ntmps194 (by decide +kernel)
 csm:=ck Tryz.func137 Tryz.ntmps137 (by decide +kernel)
 cis:=ck Tryz.func136 Tryz.ntmps136 (by decide +kernel)
 cst:=ck Tryz.func78 Tryz.ntmps78 (by decide +kernel)
 css:=ck Tryz.func33 Tryz.ntmps33 (by decide +kernel)

theorem QDQ:Cs Tryz.prog 8 255 232 181 180 126 70 where
 csr:=ck Tryz.func255 Tryz.ntmps255 (by decide +kernel)
 cro:=ck Tryz.func232 Tryz.ntmps232 (by decide +kernel)
 csm:=ck Tryz.func181 Tryz.ntmps181 (by decide +kernel)
 cis:=ck Tryz.func180 Tryz.ntmps180 (by decide +kernel)
 cst:=ck Tryz.func126 Tryz.ntmps126 (by decide +kernel)
 css:=ck Tryz.func70 Tryz.ntmps70 (by decide +kernel)

theorem QDR:Cs Tryz.prog 14 267 256 234 233 182 129 where
 csr:=ck Tryz.func267 Tryz.ntmps267 (by decide +kernel)
 cro:=ck Tryz.func256 Tryz.ntmps256 (by decide +kernel)
 csm:=ck Tryz.func234 Tryz.ntmps234 (by decide +kernel)
 cis:=ck Tryz.func233 Tryz.ntmps233 (by decide +kernel)
 cst:=ck Tryz.func182 Tryz.ntmps182 (by decide +kernel)
 css:=ck Tryz.func129 Tryz.ntmps129 (by decide +kernel)

end Go.Proofs.YtafhmlkilcmniaaGreatDoor.Tg

namespace Go.Proofs.YtafhmlkilcmniaaGreatDoor.Rc
open Go Am
abbrev QT0:IL:=[jf 3 3 0,jf 5 5 2,jg 6]
abbrev QT1:IL:=[je 12 3 3,jr 13 4 12,yb 14 13,ja 15 14,zj 16 7 5 15,yq 17 5 16 15,zh 18 17 15,jt 19 15 18,ja 20 19,zj 21 3 3 20,yq 22 6 21 20,zh 23 22 20,jt 24 20 23]
abbrev QT2:IL:=[yg 6]
abbrev QT3:IL:=[je 26 3 3,jr 27 7 26,ja 25 27,jv 28 25 0,jv 29 25 1,Cb 7 7,ji 2 7 28,ja 8 29]
abbrev QT4:IL:=[je 31 2 7,ja 32 1,jq 33 8 31 32,ja 30 33,jv 34 30 0,jv 35 30 1,ja 9 34,ja 10 35]
abbrev QT5:IL:=[je 36 3 3,ja 37 1,je 38 7 5,yr 39 9 36 37 38,ja 11 39]
abbrev QT6:IL:=[ja 40 10,yb 41 40]
abbrev QT7:IL:=[ja 42 11,js 43 42 10,ja 44 43,zm 45 2 7 44,jl 46 0 7 44,jp 47 46 44,yc 48 1 47 44,zm 49 7 5 44,RH 50 10 45 48 49 44,yt 51 50 10 44,jj 52 44 51,ja 53 52,⟨some 54,.call (.f 11) [],(some (53,true))⟩,jj 55 53 54,ja 6 55]
abbrev QT8:IL:=[je 56 2 7,ja 57 9,je 58 7 5,yr 59 10 56 57 58,ja 60 11,zo 61 59 60]
abbrev QT9:IL:=[jg 6]
abbrev QMi:IL:=[ja 62 11,ya 63 62 0,ja 64 63,zw 65 0 7 2 7 64,jw 66 9 64,zw 67 0 5 7 5 64,⟨some 68,.call (.f 13) [(.t 65),(.t 66),(.t 67)],(some (64,false))⟩,zw 69 0 3 3 3 64,jw 70 1 64,zw 71 0 5 7 5 64,⟨some 72,.call (.f 14) [(.t 69),(.t 70),(.t 71)],(some (64,false))⟩,HA 73 12 68 72 64,jt 74 64 73,ja 75 74,⟨some 76,.call (.f 11) [],(some (75,true))⟩,jj 77 75 76,ja 6 77]
abbrev r3:RC:=jQ QT0 (.seq (jQ QT1 (.cond (.t 24) (jQ QT2 (.ret)) (.skip))) (jQ QT3 (jQ QT4 (jQ QT5 (.seq (jQ QT6 (.cond (.t 41) (jQ QT7 (.ret)) (.skip))) (.seq (jQ QT8 (.cond (.t 61) (jQ QT9 (.ret)) (.skip))) (jD QMi (.ret))))))))
abbrev o3:List RR:=[.tmp 6]
theorem k3:CT 3 78 r3 o3:=ck Tryz.func3 Tryz.ntmps3 (by decide +kernel)
abbrev QMj:IL:=[jf 2 2 0,jf 3 3 1,jg 4]
abbrev QMk:IL:=[je 5 7 2,je 6 7 3,jq 7 27 5 6,ja 4 7]
abbrev HL:RC:=jQ QMj (jQ QMk (.ret))
abbrev o12:List RR:=[.tmp 4]
theorem k12:CT 12 8 HL o12:=ck Tryz.func12 Tryz.ntmps12 (by decide +kernel)
abbrev QUa:IL:=[jf 1 1 0,jg 2]
abbrev QUb:IL:=[je 3 7 1,jr 4 15 3,zu 5 4 5000,ja 2 5]
abbrev r5:RC:=jQ QUa (jQ QUb (.ret))
abbrev o5:List RR:=[.tmp 2]
theorem k5:CT 5 6 r5 o5:=ck Tryz.func5 Tryz.ntmps5 (by decide +kernel)
abbrev QUc:IL:=[jf 1 1 0,jg 2]
abbrev QUd:IL:=[jb 3 0 1,jc 4 3,jh 5 1 4,zu 6 5 8,ja 7 6,jl 8 1 1 7,jp 9 8 7,yc 10 1 9 7,ym 11 10 8 7,jj 12 7 11,ja 13 12,jl 14 2 1 13,jp 15 14 13,yc 16 1 15 13,ym 17 16 8 13,jj 18 13 17,ja 2 18]
abbrev r4:RC:=jQ QUc (jQ QUd (.ret))
abbrev o4:List RR:=[.tmp 2]
theorem k4:CT 4 19 r4 o4:=ck Tryz.func4 Tryz.ntmps4 (by decide +kernel)
end Go.Proofs.YtafhmlkilcmniaaGreatDoor.Rc

namespace Go.Proofs.YtafhmlkilcmniaaGreatDoor.Va
open Go Am Rc Bt Br Up So

section
variable {α β:Type}{lt:β→β→Bool}{lt':α→α→Bool}{F:α→β}(h:∀x y,lt (F x) (F y)=lt' x y)
include h
theorem VH (a:α):∀l:List α,ZU lt (F a) (l.map F)=(ZU lt' a l).map F
 | []=>rfl
 |x :: l=>by
  rw[QZh,ZU,ZU,h x a];cases lt' x a
  ·rfl
  ·show F x :: ZU lt (F a) (l.map F)=_;rw[VH a l];rfl
theorem Ww:∀l:List α,QD lt (l.map F)=(QD lt' l).map F
 | []=>rfl
 |a :: l=>by
  rw[QZh,QD,Ww l,VH h a];rfl
end
theorem VI {α β:Type}{lt:β→β→Bool}(h:SW lt)(f:α→β):SW fun x y=>lt (f x) (f y) where
 irr _:=h.irr _
 tr _ _ _:=h.tr _ _ _
 nt _ _ _:=h.nt _ _ _
theorem QDS:SW fun a b:Int=>decide (a<b) where
 irr x:=by simp
 tr x y z h k:=by simp only[QZ2]at *;omega
 nt x y z h k:=by simp only[Q0E]at *;omega
theorem PW (a b:Int):decide (cN a b<0)=decide (a<b):=by
 unfold cN;split
 ·rename_i h;simp[h]
 ·rename_i h;split<;>simp[h]
theorem QMl (a b:List UInt8):decide (cS a b<0)=Op.bytesLess a b:=by
 unfold cS;cases Op.bytesLess a b
 ·cases(a==b)<;>simp
 ·simp

theorem UU {z:Nat}(hz:z≠0){xs:List AV}(h:xs.all (fun e=>e.cells.length==z)=true)(hf:QP xs=[]):xs=[]:=by
 cases xs with
 |nil=>rfl
 |cons x xs=>
  have hl:x.cells.length=z:=by simpa using QYX.1 h x (by simp)
  have:x.cells=[]:=(Q0R.1 hf).1;rw[this]at hl;exact absurd hl.symm hz

theorem v28 (xs:List AV)(fr:Nat→Ob)(m:Qk)(h:xs.all (fun e=>e.cells.length==4)=true)(hn:xs.length≤1048576)(hr:QI (fr 1000)=true) :
  Qf Tryz.prog 28 [.list xs] (fr :: m) (fun x m1=>x=.vec 0 1000 (Je (fr 1000)) 0 xs.length false∧m1=Qt fr 1000 (.vec (Je (fr 1000)) 4 xs) :: m):=by
 have hng:QK (fr :: m) 0 1000=Je (fr 1000):=K6;refine k28.go (by simp) ?_;simp only[r28,LJ,LK,Qa,seval];refine JY (ys:=xs) (by simp only[Qa,seval]) ?_ ?_
 ·simp only[LM,Qa,seval];refine Kk rfl ?_;simp only[Qa,seval];refine QJ (site:=5) (g:=1) (xs:=[]) (ys:=xs) rfl rfl rfl rfl rfl h (by simp[maxLen];omega) (by simp;omega) ?_;simp only[Qa,seval];refine ZS (l:=0) (site:=5) (g:=2) (o:=0) (n:=xs.length) (q:=false) (sz:=4) (xs:=xs) (by simp only[QY9,Qa,seval]) (by simp only[Qa,seval]) (by simp) (by decide) hr ?_;simp only[hng,o28,eE,seval]
  try simp[AV.still,AV.un,Jz,Zs]
 ·intro he;have hx:xs=[]:=by
   rcases he with he|he
   ·exact he
   ·exact UU (by decide) h he
  subst hx;simp only[LL,Qa,seval];refine ZZ (by simp only[Qa,seval]) rfl ?_;simp only[Qa,seval];refine ZS (l:=0) (site:=2) (g:=1) (o:=0) (n:=0) (q:=false) (sz:=4) (xs:=[]) (by simp only[Qa,seval]) (by simp only[Qa,seval]) (by simp) (by decide) hr ?_;simp only[hng,o28,eE,seval]
  try simp[AV.still,AV.un,Jz,Zs]

theorem v69 (xs:List AV)(fr:Nat→Ob)(m:Qk)(h:xs.all (fun e=>e.cells.length==8)=true)(hn:xs.length≤1048576)(hr:QI (fr 1000)=true) :
  Qf Tryz.prog 69 [.list xs] (fr :: m) (fun x m1=>x=.vec 0 1000 (Je (fr 1000)) 0 xs.length false∧m1=Qt fr 1000 (.vec (Je (fr 1000)) 8 xs) :: m):=by
 have hng:QK (fr :: m) 0 1000=Je (fr 1000):=K6;refine k69.go (by simp) ?_;simp only[r69,LF,LG,Qa,seval];refine JY (ys:=xs) (by simp only[Qa,seval]) ?_ ?_
 ·simp only[LI,Qa,seval];refine Kk rfl ?_;simp only[Qa,seval];refine QJ (site:=5) (g:=1) (xs:=[]) (ys:=xs) rfl rfl rfl rfl rfl h (by simp[maxLen];omega) (by simp;omega) ?_;simp only[Qa,seval];refine ZS (l:=0) (site:=5) (g:=2) (o:=0) (n:=xs.length) (q:=false) (sz:=8) (xs:=xs) (by simp only[QY9,Qa,seval]) (by simp only[Qa,seval]) (by simp) (by decide) hr ?_;simp only[hng,o69,eE,seval]
  try simp[AV.still,AV.un,Jz,Zs]
 ·intro he;have hx:xs=[]:=by
   rcases he with he|he
   ·exact he
   ·exact UU (by decide) h he
  subst hx;simp only[LH,Qa,seval];refine ZZ (by simp only[Qa,seval]) rfl ?_;simp only[Qa,seval];refine ZS (l:=0) (site:=2) (g:=1) (o:=0) (n:=0) (q:=false) (sz:=8) (xs:=[]) (by simp only[Qa,seval]) (by simp only[Qa,seval]) (by simp) (by decide) hr ?_;simp only[hng,o69,eE,seval]
  try simp[AV.still,AV.un,Jz,Zs]

theorem QUe (xs:List AV)(fr:Nat→Ob)(m:Qk)(h:xs.all (fun e=>e.cells.length==14)=true)(hn:xs.length≤1048576)(hr:QI (fr 1000)=true) :
  Qf Tryz.prog 128 [.list xs] (fr :: m) (fun x m1=>x=.vec 0 1000 (Je (fr 1000)) 0 xs.length false∧m1=Qt fr 1000 (.vec (Je (fr 1000)) 14 xs) :: m):=by
 have hng:QK (fr :: m) 0 1000=Je (fr 1000):=K6;refine QPw.go (by simp) ?_;simp only[QxR,Tb,Tc,Qa,seval];refine JY (ys:=xs) (by simp only[Qa,seval]) ?_ ?_
 ·simp only[Te,Qa,seval];refine Kk rfl ?_;simp only[Qa,seval];refine QJ (site:=5) (g:=1) (xs:=[]) (ys:=xs) rfl rfl rfl rfl rfl h (by simp[maxLen];omega) (by simp;omega) ?_;simp only[Qa,seval];refine ZS (l:=0) (site:=5) (g:=2) (o:=0) (n:=xs.length) (q:=false) (sz:=14) (xs:=xs) (by simp only[QY9,Qa,seval]) (by simp only[Qa,seval]) (by simp) (by decide) hr ?_;simp only[hng,EN,eE,seval]
  try simp[AV.still,AV.un,Jz,Zs]
 ·intro he;have hx:xs=[]:=by
   rcases he with he|he
   ·exact he
   ·exact UU (by decide) h he
  subst hx;simp only[Td,Qa,seval];refine ZZ (by simp only[Qa,seval]) rfl ?_;simp only[Qa,seval];refine ZS (l:=0) (site:=2) (g:=1) (o:=0) (n:=0) (q:=false) (sz:=14) (xs:=[]) (by simp only[Qa,seval]) (by simp only[Qa,seval]) (by simp) (by decide) hr ?_;simp only[hng,EN,eE,seval]
  try simp[AV.still,AV.un,Jz,Zs]

section rows
variable {fr:Nat→Ob}{m:Qk}{s g z n i:Nat}{xs l:List AV}
theorem QDT (h:fr s=.vec g z xs)(hi:i<n):Qd (fr :: m) z none (.vec 0 s g 0 n false) ((i:Nat):Int)=some (.vptr 0 s g i 0):=by
 have e:Am.Qh (fr :: m) 0 s=.vec g z xs:=h;simp only[Qd,e,QZ8];rw[QYS (by omega),QYS ⟨trivial,trivial,hi⟩,QY9]
theorem Iv {k:Nat}(h:fr s=.vec g z xs)(hx:xs[i]? = some (.agg l))(hk:k≤l.length):Q5 (fr :: m) (some k) (.vptr 0 s g i 0)=some (.agg (l.take k)):=by
 have e:Am.Qh (fr :: m) 0 s=.vec g z xs:=h;simp only[Q5,e,if_true,hx,Am.part];show(if 0+k≤l.length then some (AV.agg ((l.drop 0).take k))else none)=_;rw[QYS (by omega),QZs]
theorem QUf {o:Nat}(h:fr s=.vec g z xs)(hx:xs[i]? = some (.agg l)):Q5 (fr :: m) none (.vptr 0 s g i o)=l[o]?:=by
 have e:Am.Qh (fr :: m) 0 s=.vec g z xs:=h;simp only[Q5,e,if_true,hx,Am.part,AV.cells]
end rows

def eS (x:AV):Prop:=∃s:Int×V,x=V.sav s
theorem QMm (s:Int×V):Ez eS 8 (V.sav s):=by
 refine⟨⟨s,rfl⟩,?_⟩;rw[Jw];exact⟨_,rfl,rfl,rfl,rfl,fun _=>rfl⟩
def nA:AV→Int
 |.agg (.int _ n :: _)=>n
 |_=>0
def cA (x y:AV):Int:=cN (nA x) (nA y)
theorem PX (x y:AV):Tz.lt cA x y=decide (nA x<nA y):=PW _ _
theorem PY:SW (Tz.lt cA):=by
 have e:Tz.lt cA=fun x y=>decide (nA x<nA y):=by funext x y;exact PX x y
 rw[e];exact VI QDS nA
theorem DD (s:Int×V):nA (V.sav s)=s.1:=by rw[Jw];rfl

theorem v71 (x y:Int×V):Qi Tryz.prog 71 [V.sav x,V.sav y] (.int .i64 (cN x.1 y.1)):=by
 rw[Jw,Jw];refine k71.fn (by simp) ?_;simp only[eE,seval];refine aC (T8 x.1 y.1) ?_;simp only[Qa,seval]

theorem QUg:Tz.Cp Tryz.prog 8 eS 71 cA where
 call x y hx hy:=by
  obtain⟨s,rfl⟩:=hx.1;obtain⟨t,rfl⟩:=hy.1;unfold cA;rw[DD,DD];exact v71 s t
 sw:=PY

theorem Iw (l:List (Int×V)):QD (Tz.lt cA) (l.map V.sav)=(Jh l).map V.sav:=Ww (fun x y=>by rw[PX,DD,DD]) l
theorem Ud (l:List (Int×V)):(l.map V.sav).all (fun e=>e.cells.length==8)=true:=by
 rw[List.all_map,QYX];intro x _;simp[Jw,AV.cells]
theorem ezS (l:List (Int×V)):∀x∈l.map V.sav,Ez eS 8 x:=by
 intro x hx;obtain⟨s,_,rfl⟩:=QZ1.1 hx;exact QMm s

def SoI (T:List (Int×V))(k:Nat)(st:St):Prop :=
 ∃f fr i g h,st=⟨f,[fr],[]⟩∧k=T.length-i∧i≤T.length∧f 3=.vec 0 1000 g 0 T.length false∧f 4=.vec 0 4 h 0 i false∧f 11=.vec 0 1000 g 0 T.length false∧f 12=.int .i64 (T.length:Nat)∧f 13=.int .i64 (i:Nat)∧fr 1000=.vec g 8 (T.map V.sav)∧fr 4=.vec h 8 ((T.take i).map V.sav)∧∀s∈[6],(fr s).isRow=false

theorem v29 (sl:List (Int×V))(hn:sl.length≤1048576)(hu:sl.Pairwise fun y x=>(y.1==x.1)=false):Qi Tryz.prog 29 [.list (sl.map V.sav)] (.list ((Jh sl).map V.sav)):=by
 have cl:=fun fr hr=>v69 (sl.map V.sav) fr [] (Ud sl) (by rw[QZ5];exact hn) hr
 have cs:=fun g (m:Qk) (hl:Am.Qh m 0 1000=.vec g 8 (sl.map V.sav))=>Tz.PV Tg.QDQ (by decide) QUg 0 1000 g (sl.map V.sav) m hl (ezS sl) (by rw[QZ5];omega)
 simp only[Iw,QZ5]at cs;have hperm:(Jh sl).Perm sl:=XC _;have hlen:(Jh sl).length=sl.length:=hperm.length_eq;have hun:(Jh sl).Pairwise fun y x=>(y.1==x.1)=false:=(hperm.pairwise_iff fun {a b} h=>by rw[Bool.beq_comm];exact h).2 hu
 generalize Jh sl=T at *;refine k29.fn (by simp) ?_;simp only[Qa,seval];refine Qb (cl _ rfl) (by simp only[QZh,QZG,Qa,seval]) ?_;simp only[QZ5,Qa,seval];refine Qb (cs _ _ (by simp only[eE,seval]<;>rfl)) (by simp only[QZh,QZG,Qa,seval]) ?_;simp only[eE,seval];refine ZZ (by simp only[Qa,seval]) (by simp only[Qa,seval]) ?_;simp only[eE,seval];refine Qe (SoI T) _ ⟨_,_,0,_,_,rfl,rfl,QYT _,(by rw[hlen];exact rfl),rfl,(by rw[hlen];exact rfl),(by rw[hlen];exact rfl),rfl,rfl,rfl,by simp<;>rfl⟩ ?_;rintro _ st ⟨f0,fr0,i,g,h,rfl,rfl,hil,h30,h40,h110,h120,h130,mR0,m40,r6⟩;refine QH (a:=_) [6] r6 ?_;intro f fr hf hm hn6;have h3:f 3=.vec 0 1000 g 0 T.length false:=by rw[hf,h30]<;>rfl
 have h4:f 4=.vec 0 4 h 0 i false:=by rw[hf,h40]<;>rfl
 have h11:f 11=.vec 0 1000 g 0 T.length false:=by rw[hf,h110]<;>rfl
 have h12:f 12=.int .i64 (T.length:Nat):=by rw[hf,h120]<;>rfl
 have h13:f 13=.int .i64 (i:Nat):=by rw[hf,h130]<;>rfl
 have mR:fr 1000=.vec g 8 (T.map V.sav):=by rw[hm 1000 (by decide),mR0]<;>rfl
 have m4:fr 4=.vec h 8 ((T.take i).map V.sav):=by rw[hm 4 (by decide),m40]<;>rfl
 have n6:=hn6 6 (by decide);clear hf hm hn6 h30 h40 h110 h120 h130 mR0 m40 r6;simp only[h12,h13,Qa,seval];by_cases hlt:i<T.length
 ·obtain⟨x,hi⟩:∃x,T[i]? = some x:=⟨T[i],QYN hlt⟩;have hg:=WY hi;have e1:=Ql i _ hlt (by simp only[maxLen];omega);have ia:∀(fr:Nat→Ob) (j:Nat),fr 1000=.vec g 8 (T.map V.sav)→j<T.length→Qd [fr] 8 none (.vec 0 1000 g 0 T.length false) ((j:Nat):Int)=some (.vptr 0 1000 g j 0):=fun fr j h hj=>QDT h hj
  have la:∀(fr:Nat→Ob),fr 1000=.vec g 8 (T.map V.sav)→Q5 [fr] (some 8) (.vptr 0 1000 g i 0)=some (.agg [.int .i64 x.1,.int .i64 x.2.kd,.int .u64 (x.2.bits:Nat),.str x.2.text,.list (x.2.list.map V.av),.list (x.2.pairs.map V.pav),.list (x.2.slots.map V.sav),.list (x.2.raws.map R.av)]):=fun fr h=>Iv h hg (by simp)
  have fin:∀(f':Fr) (fr':Nat→Ob) (h':Nat),f' 3=.vec 0 1000 g 0 T.length false→f' 4=.vec 0 4 h' 0 (i+1) false→f' 11=.vec 0 1000 g 0 T.length false→f' 12=.int .i64 (T.length:Nat)→f' 13=.int .i64 ((i+1:Nat):Int)→fr' 1000=.vec g 8 (T.map V.sav)→fr' 4=.vec h' 8 ((T.take i).map V.sav++[V.sav x])→(∀s∈[6],(fr' s).isRow=false)→∃k,k<T.length-i∧SoI T k ⟨f',[fr'],[]⟩:=by
   intro f' fr' h' a3 a4 a11 a12 a13 b1 b4 b6;exact⟨T.length-(i+1),by omega,f',fr',i+1,g,h',rfl,rfl,by omega,a3,a4,a11,a12,a13,b1,by rw[b4,Q0j,hi];simp,b6⟩
  have hti:((T.take i).map V.sav).length=i:=by rw[QZ5,QZC];omega
  simp only[Qw hlt,ia,la,mR,hlt,n6,h3,h11,h13,e1,eE,seval];by_cases hl:i+1=T.length
  ·have d1:(((i+1:Nat):Int)==(T.length:Int))=true:=by simp;omega
   simp only[d1,h4,eE,seval];refine Xn (l:=[V.sav x]) rfl rfl rfl (by rw[Jw];rfl) ?_;refine QJ (site:=4) (g:=h) (n:=i) (xs:=(T.take i).map V.sav) (ys:=[V.sav x]) rfl m4 rfl hti.symm rfl (Ud [x]) (by simp only[QYZ,QZR,maxLen];omega) (by simp only[QYZ,QZR];omega) ?_;simp only[h13,e1,Qa,seval];exact fin _ _ (h+1) h3 rfl h11 h12 rfl mR rfl (by simp<;>rfl)
  ·have d1:(((i+1:Nat):Int)==(T.length:Int))=false:=by simp;omega
   have hlt1:i+1<T.length:=by omega
   obtain⟨y,hj⟩:∃y,T[i+1]? = some y:=⟨T[i+1],QYN hlt1⟩;have hgj:=WY hj;have lc:∀(fr:Nat→Ob),fr 1000=.vec g 8 (T.map V.sav)→Q5 [fr] none (.vptr 0 1000 g (i+1) 0)=some (.int .i64 y.1):=fun fr h=>QUf h hgj
   have hne:(x.1 != y.1)=true:=by
    rw[Q0L]at hun;have:=hun i (i+1) hlt hlt1 (by omega);rw[(QYM.1 hi).2,(QYM.1 hj).2]at this
    simpa using this
   simp only[d1,ia,lc,mR,hlt1,hne,WB,QY9,h3,h4,e1,eE,seval];refine Xn (l:=[V.sav x]) rfl rfl rfl (by rw[Jw];rfl) ?_;refine QJ (site:=4) (g:=h) (n:=i) (xs:=(T.take i).map V.sav) (ys:=[V.sav x]) rfl m4 rfl hti.symm rfl (Ud [x]) (by simp only[QYZ,QZR,maxLen];omega) (by simp only[QYZ,QZR];omega) ?_;simp only[h13,e1,Qa,seval];exact fin _ _ (h+1) h3 rfl h11 h12 rfl mR rfl (by simp<;>rfl)
 ·have e:i=T.length:=by omega
  subst e;rw[Q0h]at m4;simp only[Qy hlt,h4,eE,seval];simp[AV.un,Jz,Zs,m4];rw[QZj (by rw[QZ5];exact QYK _)]

def eP (P:PL)(k:Int)(x:AV):Prop:=∃p:V×V,x=V.pav p∧p.1.one P k (-1)=0∧p.1.bits<18446744073709551616
theorem ezP {P:PL}{k:Int}{p:V×V}(h:p.1.one P k (-1)=0)(hb:p.1.bits<18446744073709551616):Ez (eP P k) 14 (V.pav p):=by
 refine⟨⟨p,rfl,h,hb⟩,?_⟩;rw[ZO];exact⟨_,rfl,rfl,rfl,rfl,fun _=>rfl⟩
def kV:AV→V
 |.agg (_ :: .int _ b :: .str t :: _)=>.mk 0 b.toNat t [] [] [] []
 |_=>.mk 0 0 [] [] [] [] []
theorem DE (p:V×V):kV (V.pav p)=.mk 0 p.1.bits p.1.text [] [] [] []:=by rw[ZO];rfl
def cP (k:Int)(x y:AV):Int:=HI k (kV x).bits (kV x).text (kV y).bits (kV y).text
theorem AI (k:Int)(a b:V):decide (HI k a.bits a.text b.bits b.text<0)=kl k a b:=by
 unfold HI kl;split
 ·exact QMl _ _
 ·split
  ·exact PW _ _
  ·exact PW _ _
theorem QMn (k:Int):SW (Tz.lt (cP k)):=by
 have e:Tz.lt (cP k)=fun x y=>kl k (kV x,kV x).1 (kV y,kV y).1:=by funext x y;exact AI k _ _
 rw[e];exact VI (QL7 k) fun x=>(kV x,kV x)

theorem QUh {P:PL}{k:Int}(hk:ZF k)(x y:V×V)(hx:x.1.one P k (-1)=0)(hy:y.1.one P k (-1)=0):Qi Tryz.prog 130 [V.pav x,V.pav y] (.int .i64 (HI k x.1.bits x.1.text y.1.bits y.1.text)):=by
 have h:=QDo k hk x.1.bits y.1.bits x.1.text y.1.text;rw[←(K2 hx).1,←(K2 hy).1,QE,QE]at h;rw[ZO,ZO];refine QPv.fn (by simp) ?_;simp only[QZi,QZO,QZs,eE,seval];refine aC h ?_;simp only[Qa,seval]

theorem QUi {P:PL}{k:Int}(hk:ZF k):Tz.Cp Tryz.prog 14 (eP P k) 130 (cP k) where
 call x y hx hy:=by
  obtain⟨p,rfl,h1,_⟩:=hx.1;obtain⟨q,rfl,h2,_⟩:=hy.1;unfold cP;rw[DE,DE];exact QUh hk p q h1 h2
 sw:=QMn k

theorem Iy (k:Int)(l:List (V×V)):QD (Tz.lt (cP k)) (l.map V.pav)=(ZE k l).map V.pav:=Ww (fun x y=>by
 show decide (cP k (V.pav x) (V.pav y)<0)=_;unfold cP;rw[DE,DE];exact AI k x.1 y.1) l
theorem DG (l:List (V×V)):(l.map V.pav).all (fun e=>e.cells.length==14)=true:=by
 rw[List.all_map,QYX];intro x _;simp[ZO,AV.cells]

def PoI (T:List (V×V))(k:Nat)(st:St):Prop :=
 ∃f fr i g h,st=⟨f,[fr],[]⟩∧k=T.length-i∧i≤T.length∧f 3=.vec 0 1000 g 0 T.length false∧f 4=.vec 0 4 h 0 i false∧f 11=.vec 0 1000 g 0 T.length false∧f 12=.int .i64 (T.length:Nat)∧f 13=.int .i64 (i:Nat)∧fr 1000=.vec g 14 (T.map V.pav)∧fr 4=.vec h 14 ((T.take i).map V.pav)∧∀s∈[6],(fr s).isRow=false

theorem v75 {P:PL}{k:Int}(hk:ZF k)(ps:List (V×V))(hn:ps.length≤1048576)(h1:∀p∈ps,p.1.one P k (-1)=0)(hb:∀p∈ps,p.1.bits<18446744073709551616)(hu:ps.Pairwise fun q p=>Ko q.1 p.1=false):Qi Tryz.prog 75 [.list (ps.map V.pav)] (.list ((ZE k ps).map V.pav)):=by
 have cl:=fun fr hr=>QUe (ps.map V.pav) fr [] (DG ps) (by rw[QZ5];exact hn) hr
 have ez:∀x∈ps.map V.pav,Ez (eP P k) 14 x:=by
  intro x hx;obtain⟨p,hp,rfl⟩:=QZ1.1 hx;exact ezP (h1 p hp) (hb p hp)
 have cs:=fun g (m:Qk) (hl:Am.Qh m 0 1000=.vec g 14 (ps.map V.pav))=>Tz.PV Tg.QDR (by decide) (QUi (P:=P) hk) 0 1000 g (ps.map V.pav) m hl ez (by rw[QZ5];omega)
 simp only[Iy,QZ5]at cs;have hperm:(ZE k ps).Perm ps:=XC _;have hlen:(ZE k ps).length=ps.length:=hperm.length_eq;have hun:(ZE k ps).Pairwise fun q p=>Ko q.1 p.1=false:=(hperm.pairwise_iff fun {a b} h=>by unfold Ko at *;rw[←h,Bool.beq_comm (a:=b.1.bits),Bool.beq_comm (a:=b.1.text)]).2 hu
 have h1T:∀p∈ZE k ps,p.1.one P k (-1)=0:=fun p hp=>h1 p (hperm.mem_iff.1 hp)
 have hbT:∀p∈ZE k ps,p.1.bits<18446744073709551616:=fun p hp=>hb p (hperm.mem_iff.1 hp)
 generalize ZE k ps=T at *;refine k75.fn (by simp) ?_;simp only[Qa,seval];refine Qb (cl _ rfl) (by simp only[QZh,QZG,Qa,seval]) ?_;simp only[QZ5,Qa,seval];refine Qb (cs _ _ (by simp only[eE,seval]<;>rfl)) (by simp only[QZh,QZG,Qa,seval]) ?_;simp only[eE,seval];refine ZZ (by simp only[Qa,seval]) (by simp only[Qa,seval]) ?_;simp only[eE,seval];refine Qe (PoI T) _ ⟨_,_,0,_,_,rfl,rfl,QYT _,(by rw[hlen];exact rfl),rfl,(by rw[hlen];exact rfl),(by rw[hlen];exact rfl),rfl,rfl,rfl,by simp<;>rfl⟩ ?_;rintro _ st ⟨f0,fr0,i,g,h,rfl,rfl,hil,h30,h40,h110,h120,h130,mR0,m40,r6⟩;refine QH (a:=_) [6] r6 ?_;intro f fr hf hm hn6;have h3:f 3=.vec 0 1000 g 0 T.length false:=by rw[hf,h30]<;>rfl
 have h4:f 4=.vec 0 4 h 0 i false:=by rw[hf,h40]<;>rfl
 have h11:f 11=.vec 0 1000 g 0 T.length false:=by rw[hf,h110]<;>rfl
 have h12:f 12=.int .i64 (T.length:Nat):=by rw[hf,h120]<;>rfl
 have h13:f 13=.int .i64 (i:Nat):=by rw[hf,h130]<;>rfl
 have mR:fr 1000=.vec g 14 (T.map V.pav):=by rw[hm 1000 (by decide),mR0]<;>rfl
 have m4:fr 4=.vec h 14 ((T.take i).map V.pav):=by rw[hm 4 (by decide),m40]<;>rfl
 have n6:=hn6 6 (by decide);clear hf hm hn6 h30 h40 h110 h120 h130 mR0 m40 r6;simp only[h12,h13,Qa,seval];by_cases hlt:i<T.length
 ·obtain⟨x,hi⟩:∃x,T[i]? = some x:=⟨T[i],QYN hlt⟩;have hg:=Yo hi;have e1:=Ql i _ hlt (by simp only[maxLen];omega);have ia:∀(fr:Nat→Ob) (j:Nat),fr 1000=.vec g 14 (T.map V.pav)→j<T.length→Qd [fr] 14 none (.vec 0 1000 g 0 T.length false) ((j:Nat):Int)=some (.vptr 0 1000 g j 0):=fun fr j h hj=>QDT h hj
  have la:∀(fr:Nat→Ob),fr 1000=.vec g 14 (T.map V.pav)→Q5 [fr] (some 14) (.vptr 0 1000 g i 0)=some (.agg [.int .i64 x.1.kd,.int .u64 (x.1.bits:Nat),.str x.1.text,.list (x.1.list.map V.av),.list (x.1.pairs.map V.pav),.list (x.1.slots.map V.sav),.list (x.1.raws.map R.av),.int .i64 x.2.kd,.int .u64 (x.2.bits:Nat),.str x.2.text,.list (x.2.list.map V.av),.list (x.2.pairs.map V.pav),.list (x.2.slots.map V.sav),.list (x.2.raws.map R.av)]):=fun fr h=>Iv h hg (by simp)
  have fin:∀(f':Fr) (fr':Nat→Ob) (h':Nat),f' 3=.vec 0 1000 g 0 T.length false→f' 4=.vec 0 4 h' 0 (i+1) false→f' 11=.vec 0 1000 g 0 T.length false→f' 12=.int .i64 (T.length:Nat)→f' 13=.int .i64 ((i+1:Nat):Int)→fr' 1000=.vec g 14 (T.map V.pav)→fr' 4=.vec h' 14 ((T.take i).map V.pav++[V.pav x])→(∀s∈[6],(fr' s).isRow=false)→∃k,k<T.length-i∧PoI T k ⟨f',[fr'],[]⟩:=by
   intro f' fr' h' a3 a4 a11 a12 a13 b1 b4 b6;exact⟨T.length-(i+1),by omega,f',fr',i+1,g,h',rfl,rfl,by omega,a3,a4,a11,a12,a13,b1,by rw[b4,Q0j,hi];simp,b6⟩
  have hti:((T.take i).map V.pav).length=i:=by rw[QZ5,QZC];omega
  simp only[Qw hlt,ia,la,mR,hlt,n6,h3,h11,h13,e1,eE,seval];by_cases hl:i+1=T.length
  ·have d1:(((i+1:Nat):Int)==(T.length:Int))=true:=by simp;omega
   simp only[d1,h4,eE,seval];refine Xn (l:=[V.pav x]) rfl rfl rfl (by rw[ZO];rfl) ?_;refine QJ (site:=4) (g:=h) (n:=i) (xs:=(T.take i).map V.pav) (ys:=[V.pav x]) rfl m4 rfl hti.symm rfl (DG [x]) (by simp only[QYZ,QZR,maxLen];omega) (by simp only[QYZ,QZR];omega) ?_;simp only[h13,e1,Qa,seval];exact fin _ _ (h+1) h3 rfl h11 h12 rfl mR rfl (by simp<;>rfl)
  ·have d1:(((i+1:Nat):Int)==(T.length:Int))=false:=by simp;omega
   have hlt1:i+1<T.length:=by omega
   obtain⟨y,hj⟩:∃y,T[i+1]? = some y:=⟨T[i+1],QYN hlt1⟩;have hgj:=Yo hj;have lc:∀(fr:Nat→Ob),fr 1000=.vec g 14 (T.map V.pav)→Q5 [fr] (some 7) (.vptr 0 1000 g (i+1) 0)=some (.agg [.int .i64 y.1.kd,.int .u64 (y.1.bits:Nat),.str y.1.text,.list (y.1.list.map V.av),.list (y.1.pairs.map V.pav),.list (y.1.slots.map V.sav),.list (y.1.raws.map R.av)]):=fun fr h=>by
    rw[Iv h hgj (by simp)];rfl
   have hx1:=h1T x (QYY hi);have hy1:=h1T y (QYY hj);have hne:Ko x.1 y.1=false:=by
    rw[Q0L]at hun;have:=hun i (i+1) hlt hlt1 (by omega);rw[(QYM.1 hi).2,(QYM.1 hj).2]at this;exact this
   have hq:=Ib k hk x.1.bits y.1.bits x.1.text y.1.text;rw[←(K2 hx1).1,←(K2 hy1).1,Fk hk hx1 hy1 (hbT x (QYY hi)) (hbT y (QYY hj)),hne,QE,QE]at hq;simp only[d1,ia,lc,mR,hlt1,WB,QY9,QZi,QZO,QZs,h3,e1,eE,seval];refine aC hq ?_;simp only[h4,eE,seval];refine Xn (l:=[V.pav x]) rfl rfl rfl (by rw[ZO];rfl) ?_;refine QJ (site:=4) (g:=h) (n:=i) (xs:=(T.take i).map V.pav) (ys:=[V.pav x]) rfl m4 rfl hti.symm rfl (DG [x]) (by simp only[QYZ,QZR,maxLen];omega) (by simp only[QYZ,QZR];omega) ?_;simp only[h13,e1,Qa,seval];exact fin _ _ (h+1) h3 rfl h11 h12 rfl mR rfl (by simp<;>rfl)
 ·have e:i=T.length:=by omega
  subst e;rw[Q0h]at m4;simp only[Qy hlt,h4,eE,seval];simp[AV.un,Jz,Zs,m4];rw[QZj (by rw[QZ5];exact QYK _)]

def eR (x:AV):Prop:=∃f:R,x=f.av
theorem QMo (f:R):Ez eR 4 f.av:=⟨⟨f,rfl⟩,_,rfl,rfl,rfl,rfl,fun _=>rfl⟩
theorem v34 (x y:R):Qi Tryz.prog 34 [x.av,y.av] (.int .i64 (cN x.num y.num)):=by
 refine k34.fn (by simp) ?_;simp only[R.av,eE,seval];refine aC (T8 x.num y.num) ?_;simp only[Qa,seval]
theorem QUj:Tz.Cp Tryz.prog 4 eR 34 cA where
 call x y hx hy:=by
  obtain⟨s,rfl⟩:=hx.1;obtain⟨t,rfl⟩:=hy.1;exact v34 s t
 sw:=PY
theorem VJ (l:List R):QD (Tz.lt cA) (l.map R.av)=(WU l).map R.av:=Ww (fun x y=>by rw[PX];rfl) l
theorem QDU (l:List R):(l.map R.av).all (fun e=>e.cells.length==4)=true:=by
 rw[List.all_map,QYX];intro x _;rfl
theorem ezR (l:List R):∀x∈l.map R.av,Ez eR 4 x:=by
 intro x hx;obtain⟨s,_,rfl⟩:=QZ1.1 hx;exact QMo s

theorem QDV (v:V):v.nsc.av=.agg [.int .i64 v.kd,.int .u64 ((XG v.kd v.bits:Nat):Int),.str v.text,.list (v.list.map V.av),.list (v.pairs.map V.pav),.list (v.slots.map V.sav),.list (v.raws.map R.av)]:=by
 rw[QE];rfl
theorem QUk (b:Nat):Qi Tryz.prog 198 [.int .u64 (b:Nat)] (.int .i64 (KL b:Nat)):=by
 refine QwB.fn (by simp) ?_;have hm:(b:Int).tmod 9223372036854775808=((b % 9223372036854775808:Nat):Int):=by
  rw[Int.tmod_eq_emod_of_nonneg (by omega)];omega
 simp only[hm,Qa,seval];unfold KL;generalize b % 9223372036854775808=z
 repeat' (first|(refine XZ (fun h=>?_) (fun h=>?_)<;>simp only[h,Qa,seval])|(refine Zz (fun h=>?_) (fun h=>?_)<;>simp only[h,Qn,eE,seval])|(refine ZA (fun h=>?_) (fun h=>?_)<;>simp only[h,Qn,eE,seval]))
 all_goals(simp only[QZ2,Q0E,QY8,Q0F,ne_eq]at *)
 all_goals((repeat' split)<;>first|rfl|(exfalso;omega))

theorem QUl (b:Nat)(hb:b<18446744073709551616):Qi Tryz.prog 133 [.int .u64 (b:Nat)] (.int .i64 (KL b:Nat)):=by
 refine Et.fn (by simp) ?_;have a1:bits .and .u64 (b:Int) 9218868437227405312=(((b / 4503599627370496 % 2048)*4503599627370496:Nat):Int):=by
  have:=U2 b 9218868437227405312 hb (by decide);rw[TU]at this;exact this
 have a2:bits .and .u64 (b:Int) 4503599627370495=((b % 4503599627370496:Nat):Int):=by
  have:=U2 b 4503599627370495 hb (by decide);rw[TT]at this;exact this
 simp only[a1,a2,Qa,seval];unfold KL
 repeat' (first|(refine XZ (fun h=>?_) (fun h=>?_)<;>simp only[h,Qa,seval])|(refine Zz (fun h=>?_) (fun h=>?_)<;>simp only[h,Qn,Qa,seval])|(refine ZA (fun h=>?_) (fun h=>?_)<;>simp only[h,Qn,eE,seval]))
 all_goals(simp only[QY8,QZc,bne_eq_false_iff_eq,Q0F,ne_eq]at *)
 all_goals((repeat' split)<;>first|rfl|(exfalso;omega))

theorem v76 (v:V)(hb:v.bits<18446744073709551616):Qi Tryz.prog 76 [v.av] v.nsc.av:=by
 rw[QDV,QE];refine k76.fn (by simp) ?_;simp only[eE,seval];by_cases hk:v.kd=6
 ·have b0:(v.kd==6)=true:=by simp[hk]
  simp only[b0,eE,seval];refine aC (QUl v.bits hb) ?_;simp only[N7,Qa,seval];by_cases hc:KL v.bits=0
  ·simp only[hc,XG,hk,decide_true,QZJ,splice,QZi,QZO,QZl,QZs,QY5,QY6,QYZ,QZR,eE,seval]
   try rfl
  ·simp only[hc,XG,decide_false,and_false,eE,seval]
 ·have b0:(v.kd==6)=false:=by simp[hk]
  simp only[b0,XG,hk,false_and,eE,seval]

def EW (m:PG→V→Prop)(P:PL)(o:PO)(v:V):Prop:=o.kind=10→m (Jo P o.target) v
def FW (m:PG→V→Prop)(P:PL)(o:PO)(v:V):Prop :=
 if o.card=4 then ∀x∈v.list,EW m P o x
 else if o.card=5 then(∀p∈v.pairs,p.1.one P o.key (-1)=0∧EW m P o p.2)∧v.pairs.Pairwise fun q p=>Ko q.1 p.1=false
 else EW m P o v
def MW (P:PL):Nat→PG→V→Prop
 |0,_,_=>False
 |n+1,g,v=>(∀s∈v.slots,∃o,X4 g s.1=some o∧FW (MW P n) P o s.2)∧v.slots.Pairwise fun y x=>(y.1==x.1)=false

theorem PZ {m:PG→V→Int}{w:PG→V→Prop}(h:∀g v,m g v=0→w g v){P:PL}{o:PO}{v:V}(he:Xt m P o v=0):EW w P o v:=by
 intro hk;unfold Xt at he;rw[QYS hk]at he;exact h _ _ he
theorem QbD {m:PG→V→Int}{w:PG→V→Prop}(h:∀g v,m g v=0→w g v){P:PL}{o:PO}{v:V}(he:Zq m P o v=0):FW w P o v:=by
 unfold Zq at he;unfold FW;by_cases h4:o.card=4
 ·rw[QYR (by omega),QYS h4]at he;rw[QYS h4];split at he
  ·omega
  exact fun x hx=>PZ h (QfW.1 he x hx)
 ·rw[QYR h4];by_cases h5:o.card=5
  ·rw[QYS h5]at he;rw[QYS h5];split at he
   ·omega
   have hE:=QfV.1 he;exact⟨fun p hp=>⟨(hE.1 p hp).1,PZ h (hE.1 p hp).2⟩,hE.2⟩
  ·rw[QYR h5,QYR h4]at he;rw[QYR h5];exact PZ h he
theorem P0 {P:PL}:∀(n:Nat) (g:PG) (v:V),XF P n g v=0→MW P n g v
 |0,g,v,h=>by
  unfold XF at h;split at h<;>omega
 |n+1,g,v,h=>by
  obtain⟨_,⟨s1,s2,_⟩,_,_⟩:=QfY.1 h;refine⟨fun s hs=>?_,s2⟩;obtain⟨o,ho,hf⟩:=s1 s hs;exact⟨o,ho,QbD (P0 n) hf⟩
theorem Qga {P:PL}{o:PO}(ho:o.card=5→ZF o.key)(h5:o.card=5){ps:List (V×V)}(h:∀p∈ps,p.1.one P o.key (-1)=0):∀p∈ps,p.1.nsc=p.1:=by
 intro p hp;have e:=(De (h p hp)).1;refine QDt ?_;have:=ho h5;unfold ZF at this;omega

theorem VK {x:V}:∀ {l:List V},x∈l→x.cnt≤Xy l
 |y :: l,h=>by
  rw[Xy];rcases QZ0.1 h with rfl|h
  ·omega
  ·have:=VK h;omega
theorem Ge {x:V×V}:∀ {l:List (V×V)},x∈l→x.1.cnt+x.2.cnt≤XX l
 |(a,b) :: l,h=>by
  rw[XX];rcases QZ0.1 h with rfl|h
  ·dsimp only;omega
  ·have:=Ge h;omega
theorem VL {x:Int×V}:∀ {l:List (Int×V)},x∈l→x.2.cnt≤XI l
 |(a,b) :: l,h=>by
  rw[XI];rcases QZ0.1 h with rfl|h
  ·dsimp only;omega
  ·have:=VL h;omega
theorem Hk (v:V):1≤v.cnt:=by rw[XY];omega
theorem VM:∀l:List V,l.length≤Xy l
 | []=>QYK _
 |x :: l=>by
  have:=Hk x;have:=VM l;simp only[Xy,QYZ];omega
theorem VN:∀l:List (V×V),2*l.length≤XX l
 | []=>QYK _
 |(a,b) :: l=>by
  have:=Hk a;have:=Hk b;have:=VN l;simp only[XX,QYZ];omega
theorem VP:∀l:List (Int×V),l.length≤XI l
 | []=>QYK _
 |(a,b) :: l=>by
  have:=Hk b;have:=VP l;simp only[XI,QYZ];omega
theorem Gf {v x:V}(h:x∈v.list):x.cnt≤v.cnt:=by have:=VK h;rw[XY v];omega
theorem Qgb {v:V}{x:V×V}(h:x∈v.pairs):x.1.cnt≤v.cnt:=by have:=Ge h;rw[XY v];omega
theorem Fx {v:V}{x:V×V}(h:x∈v.pairs):x.2.cnt≤v.cnt:=by have:=Ge h;rw[XY v];omega
theorem Gg {v:V}{x:Int×V}(h:x∈v.slots):x.2.cnt≤v.cnt:=by have:=VL h;rw[XY v];omega
theorem Ue (v:V):v.list.length≤v.cnt:=by have:=VM v.list;rw[XY v];omega
theorem Yi (v:V):v.pairs.length≤v.cnt:=by have:=VN v.pairs;rw[XY v];omega
theorem Yj (v:V):v.slots.length≤v.cnt:=by have:=VP v.slots;rw[XY v];omega
theorem Uf (v:V):v.raws.length≤v.cnt:=by rw[XY v];omega

section
variable {M:Nat}{P:PL}{m:PG→V→Prop}{nm:PG→V→V}(o:PO)(ho:UO P o)

include ho in
theorem v74 (hm:∀(t:Int) (g:PG),P.progs[t.toNat]? = some g→0≤t→∀v:V,v.ok M→v.cnt≤1048576→m g v→Qi Tryz.prog 13 [P.av,.int .i64 t,v.av] (nm g v).av)(v:V)(hv:v.ok M)(hc:v.cnt≤1048576)(he:EW m P o v) :
  Qi Tryz.prog 74 [P.av,Xv o,v.av] (JP nm P o v).av:=by
 have e0:P.av=.agg [.list (P.progs.map QW),.list (P.enums.map Xw)]:=rfl;unfold JP;by_cases hk:o.kind=10
 ·have b:(o.kind==10)=true:=by simp[hk]
  have he:=he hk;rw[QYS hk];obtain⟨t0,t1⟩:=ho.tgt hk;obtain⟨g,hg⟩:∃g,P.progs[o.target.toNat]? = some g:=⟨P.progs[o.target.toNat]'(by omega),QYN (by omega)⟩;have hq:Jo P o.target=g:=by unfold Jo;rw[hg];rfl
  rw[hq]at he ⊢;have h2:=hm o.target g hg t0 v hv hc he;generalize nm g v=z at h2 ⊢;rw[e0,QE,QE]at h2;rw[QE,QE];refine k74.fn (by simp) ?_;simp only[e0,Xv,PO.cells,b,eE,seval];refine aC h2 ?_;simp only[eE,seval]
 ·have b:(o.kind==10)=false:=by simp[hk]
  rw[QYR hk];have h1:=v76 v (Ju hv);generalize v.nsc=z at h1 ⊢;rw[QE,QE]at h1;rw[QE,QE];refine k74.fn (by simp) ?_;simp only[e0,Xv,PO.cells,b,eE,seval];refine aC h1 ?_;simp only[eE,seval]

def NlI (P:PL)(o:PO)(l:List V)(F:V→V)(k:Nat)(st:St):Prop :=
 ∃f fr i g,st=⟨f,[fr],[]⟩∧k=l.length-i∧i≤l.length∧f 3=.ptr 0 3 0∧f 4=.ptr 0 4 0∧f 6=.ptr 0 6 0∧f 7=.ptr 0 7 0∧f 19=.list (l.map V.av)∧f 20=.int .i64 (l.length:Nat)∧f 21=.int .i64 (i:Nat)∧fr 3=.cells [.list (P.progs.map QW),.list (P.enums.map Xw)]∧fr 4=.cells o.cells∧fr 6=.cells [.int .i64 0,.int .u64 0,.str [],.nils,.nils,.nils,.nils]∧fr 7=.cells [.int .i64 11,.int .u64 0,.str [],.vec 0 1100 g 0 i false,.nils,.nils,.nils]∧fr 1100=.vec g 7 ((l.take i).map fun x=>(F x).av)∧∀s∈[9],(fr s).isRow=false

def NpI (P:PL)(o:PO)(T:List (V×V))(F:V×V→V×V)(k:Nat)(st:St):Prop :=
 ∃f fr i g,st=⟨f,[fr],[]⟩∧k=T.length-i∧i≤T.length∧f 3=.ptr 0 3 0∧f 4=.ptr 0 4 0∧f 6=.ptr 0 6 0∧f 10=.ptr 0 10 0∧f 41=.list (T.map V.pav)∧f 42=.int .i64 (T.length:Nat)∧f 43=.int .i64 (i:Nat)∧fr 3=.cells [.list (P.progs.map QW),.list (P.enums.map Xw)]∧fr 4=.cells o.cells∧fr 6=.cells [.int .i64 0,.int .u64 0,.str [],.nils,.nils,.nils,.nils]∧fr 10=.cells [.int .i64 12,.int .u64 0,.str [],.nils,.vec 0 1101 g 0 i false,.nils,.nils]∧fr 1101=.vec g 14 ((T.take i).map fun x=>V.pav (F x))∧∀s∈[12],(fr s).isRow=false

theorem QMp (l:List V)(F:V→V):(l.map fun x=>(F x).av)=(l.map F).map V.av:=by rw[Q0n];rfl
theorem QDW (l:List (V×V))(F:V×V→V×V):(l.map fun x=>V.pav (F x))=(l.map F).map V.pav:=by rw[Q0n];rfl

set_option maxHeartbeats 1000000 in
include ho in
theorem v31 (hel:∀v:V,v.ok M→v.cnt≤1048576→EW m P o v→Qi Tryz.prog 74 [P.av,Xv o,v.av] (JP nm P o v).av)(v:V)(hv:v.ok M)(hc:v.cnt≤1048576)(he:FW m P o v) :
  Qi Tryz.prog 31 [P.av,Xv o,v.av] (Jp nm P o v).av:=by
 have e0:P.av=.agg [.list (P.progs.map QW),.list (P.enums.map Xw)]:=rfl;unfold Jp;unfold FW at he;by_cases h4:o.card=4
 ·have b4:(o.card==4)=true:=by simp[h4]
  rw[QYS h4]at he;rw[QYS h4];have hL:=he;have hlen:=Ue v;rw[QE v];generalize hF:JP nm P o=F at hel ⊢;rw[show(V.mk 11 0 [] (v.list.map F) [] [] []).av=.agg [.int .i64 11,.int .u64 0,.str [],.list ((v.list.map F).map V.av),.list [],.list [],.list []]from QE _];refine k31.fn (by simp) ?_;simp only[e0,Xv,PO.cells,b4,eE,seval];refine Xf (by simp only[Qa,seval]<;>rfl) rfl (by simp only[Qa,seval]<;>rfl) rfl ?_;simp only[List.set,QZ5,eE,seval];refine Qe (NlI P o v.list F) _ ⟨_,_,0,_,rfl,rfl,QYT _,rfl,rfl,rfl,rfl,rfl,rfl,rfl,rfl,rfl,rfl,rfl,rfl,by simp<;>rfl⟩ ?_;rintro _ st ⟨f0,fr0,i,g,rfl,rfl,hil,h30,h40,h60,h70,h190,h200,h210,m30,m40,m60,m70,mR0,r9⟩;refine QH (a:=_) [9] r9 ?_;intro f fr hf hm hn9;have h3:f 3=.ptr 0 3 0:=by rw[hf,h30]<;>rfl
  have h4:f 4=.ptr 0 4 0:=by rw[hf,h40]<;>rfl
  have h6:f 6=.ptr 0 6 0:=by rw[hf,h60]<;>rfl
  have h7:f 7=.ptr 0 7 0:=by rw[hf,h70]<;>rfl
  have h19:f 19=.list (v.list.map V.av):=by rw[hf,h190]<;>rfl
  have h20:f 20=.int .i64 (v.list.length:Nat):=by rw[hf,h200]<;>rfl
  have h21:f 21=.int .i64 (i:Nat):=by rw[hf,h210]<;>rfl
  have m3:fr 3=.cells [.list (P.progs.map QW),.list (P.enums.map Xw)]:=by rw[hm 3 (by decide),m30]<;>rfl
  have m4:fr 4=.cells o.cells:=by rw[hm 4 (by decide),m40]<;>rfl
  have m6:fr 6=.cells [.int .i64 0,.int .u64 0,.str [],.nils,.nils,.nils,.nils]:=by rw[hm 6 (by decide),m60]<;>rfl
  have m7:fr 7=.cells [.int .i64 11,.int .u64 0,.str [],.vec 0 1100 g 0 i false,.nils,.nils,.nils]:=by rw[hm 7 (by decide),m70]<;>rfl
  have mR:fr 1100=.vec g 7 ((v.list.take i).map fun x=>(F x).av):=by rw[hm 1100 (by decide),mR0]<;>rfl
  have n9:=hn9 9 (by decide);clear hf hm hn9 h30 h40 h60 h70 h190 h200 h210 m30 m40 m60 m70 mR0 r9;have m4':=m4;simp only[PO.cells]at m4;simp only[h20,h21,Qa,seval];by_cases hlt:i<v.list.length
  ·obtain⟨x,hi⟩:∃x,v.list[i]? = some x:=⟨v.list[i],QYN hlt⟩;have hx:=QYY hi;have hg:=H5 hi;have e1:=Ql i _ hlt (by simp only[maxLen];omega);have c1:=hel x (hv.list x hx) (QYL (Gf hx) hc) (hL x hx);have hti:((v.list.take i).map fun x=>(F x).av).length=i:=by rw[QZ5,QZC];omega
   have hts:(v.list.take (i+1)).map (fun x=>(F x).av)=(v.list.take i).map (fun x=>(F x).av)++[(F x).av]:=by rw[Q0j,hi];simp
   generalize F x=z at c1 hts;rw[e0,QE,QE z]at c1;simp only[Xv,PO.cells]at c1;simp only[Qw hlt,Qj,QZ8,Qd,hg,n9,h3,h4,h7,h19,h21,m3,m4,m7,eE,seval];refine aC c1 ?_;refine Xn (l:=[z.av]) rfl rfl rfl (by rw[QE];rfl) ?_;refine QJ (site:=1100) (g:=g) (n:=i) (xs:=(v.list.take i).map fun x=>(F x).av) (ys:=[z.av]) rfl mR rfl hti.symm rfl (Vu [z]) (by simp only[QYZ,QZR,maxLen];omega) (by simp only[QYZ,QZR];omega) ?_;simp only[h7,h21,m7,e1,eE,seval];exact⟨v.list.length-(i+1),by omega,_,_,i+1,g+1,rfl,rfl,by omega,h3,h4,h6,h7,h19,h20,rfl,m3,m4',m6,rfl,(by rw[hts];exact rfl),by simp<;>rfl⟩
  ·have e:i=v.list.length:=by omega
   subst e;rw[Q0h,QMp]at mR;simp only[Qy hlt,h6,h7,m6,m7,eE,seval];simp[AV.un,AV.unL,Jz,Zs,mR,QZj]
 ·have b4:(o.card==4)=false:=by simp[h4]
  rw[QYR h4];by_cases h5:o.card=5
  ·have b5:(o.card==5)=true:=by simp[h5]
   rw[QYR h4,QYS h5]at he;rw[QYS h5];have hE:=he;have hlen:=Yi v;have hk:=ho.key h5;have hkn:=Qga ho.key h5 fun p hp=>(hE.1 p hp).1
   have cp:=v75 hk v.pairs (by omega) (fun p hp=>(hE.1 p hp).1) (fun p hp=>Ju (hv.keys p hp)) hE.2;have hperm:(ZE o.key v.pairs).Perm v.pairs:=XC _;have hTl:(ZE o.key v.pairs).length=v.pairs.length:=hperm.length_eq;have hTm:∀p∈ZE o.key v.pairs,p∈v.pairs:=fun p h=>hperm.mem_iff.1 h
   generalize ZE o.key v.pairs=T at *;rw[QE v];generalize hF:(fun p:V×V=>(p.1.nsc,JP nm P o p.2))=F;rw[show(V.mk 12 0 [] [] (T.map F) [] []).av=.agg [.int .i64 12,.int .u64 0,.str [],.list [],.list ((T.map F).map V.pav),.list [],.list []]from QE _];refine k31.fn (by simp) ?_;simp only[e0,Xv,PO.cells,b4,b5,eE,seval];refine Xf (by simp only[Qa,seval]<;>rfl) rfl (by simp only[Qa,seval]<;>rfl) rfl ?_;simp only[List.set,eE,seval];refine aC cp ?_;simp only[QZ5,Qa,seval];refine Qe (NpI P o T F) _ ⟨_,_,0,_,rfl,rfl,QYT _,rfl,rfl,rfl,rfl,rfl,rfl,rfl,rfl,rfl,rfl,rfl,rfl,by simp<;>rfl⟩ ?_;rintro _ st ⟨f0,fr0,i,g,rfl,rfl,hil,h30,h40,h60,h100,h410,h420,h430,m30,m40,m60,m100,mR0,HL⟩;refine QH (a:=_) [12] HL ?_;intro f fr hf hm hn12;have h3:f 3=.ptr 0 3 0:=by rw[hf,h30]<;>rfl
   have h4:f 4=.ptr 0 4 0:=by rw[hf,h40]<;>rfl
   have h6:f 6=.ptr 0 6 0:=by rw[hf,h60]<;>rfl
   have h10:f 10=.ptr 0 10 0:=by rw[hf,h100]<;>rfl
   have h41:f 41=.list (T.map V.pav):=by rw[hf,h410]<;>rfl
   have h42:f 42=.int .i64 (T.length:Nat):=by rw[hf,h420]<;>rfl
   have h43:f 43=.int .i64 (i:Nat):=by rw[hf,h430]<;>rfl
   have m3:fr 3=.cells [.list (P.progs.map QW),.list (P.enums.map Xw)]:=by rw[hm 3 (by decide),m30]<;>rfl
   have m4:fr 4=.cells o.cells:=by rw[hm 4 (by decide),m40]<;>rfl
   have m6:fr 6=.cells [.int .i64 0,.int .u64 0,.str [],.nils,.nils,.nils,.nils]:=by rw[hm 6 (by decide),m60]<;>rfl
   have m10:fr 10=.cells [.int .i64 12,.int .u64 0,.str [],.nils,.vec 0 1101 g 0 i false,.nils,.nils]:=by rw[hm 10 (by decide),m100]<;>rfl
   have mR:fr 1101=.vec g 14 ((T.take i).map fun x=>V.pav (F x)):=by rw[hm 1101 (by decide),mR0]<;>rfl
   have n12:=hn12 12 (by decide);clear hf hm hn12 h30 h40 h60 h100 h410 h420 h430 m30 m40 m60 m100 mR0 HL;have m4':=m4;simp only[PO.cells]at m4;simp only[h42,h43,Qa,seval];by_cases hlt:i<T.length
   ·obtain⟨x,hi⟩:∃x,T[i]? = some x:=⟨T[i],QYN hlt⟩;have hx:=hTm x (QYY hi);have hg:=Yo hi;have e1:=Ql i _ hlt (by simp only[maxLen];omega);have c0:=v76 x.1 (Ju (hv.keys x hx));have c1:=hel x.2 (hv.vals x hx) (QYL (Fx hx) hc) (hE.1 x hx).2;have hti:((T.take i).map fun x=>V.pav (F x)).length=i:=by rw[QZ5,QZC];omega
    have hFx:F x=(x.1.nsc,JP nm P o x.2):=by rw[←hF]
    have hts:(T.take (i+1)).map (fun x=>V.pav (F x))=(T.take i).map (fun x=>V.pav (F x))++[V.pav (x.1.nsc,JP nm P o x.2)]:=by rw[Q0j,hi,←hFx];simp
    generalize x.1.nsc=y at c0 hts;generalize JP nm P o x.2=z at c1 hts;rw[QE,QE y]at c0;rw[e0,QE,QE z]at c1;simp only[Xv,PO.cells]at c1;simp only[Qw hlt,Qj,QZ8,Qd,hg,n12,h10,h41,h43,m10,eE,seval];refine aC c0 ?_;simp only[QZi,QZl,QZs,h3,h4,m3,m4,eE,seval];refine aC c1 ?_;simp only[eE,seval];refine Xn (l:=[V.pav (y,z)]) rfl rfl rfl (by rw[ZO];rfl) ?_;refine QJ (site:=1101) (g:=g) (n:=i) (xs:=(T.take i).map fun x=>V.pav (F x)) (ys:=[V.pav (y,z)]) rfl mR rfl hti.symm rfl (DG [(y,z)]) (by simp only[QYZ,QZR,maxLen];omega) (by simp only[QYZ,QZR];omega) ?_;simp only[h10,h43,m10,e1,eE,seval];exact⟨T.length-(i+1),by omega,_,_,i+1,g+1,rfl,rfl,by omega,h3,h4,h6,h10,h41,h42,rfl,m3,m4',m6,rfl,(by rw[hts];exact rfl),by simp<;>rfl⟩
   ·have e:i=T.length:=by omega
    subst e;rw[Q0h,QDW]at mR;simp only[Qy hlt,h6,h10,m6,m10,eE,seval];simp[AV.un,AV.unL,Jz,Zs,mR,QZj]
  ·have b5:(o.card==5)=false:=by simp[h5]
   rw[QYR h4,QYR h5]at he;rw[QYR h5];have c1:=hel v hv hc he;generalize JP nm P o v=z at c1 ⊢;rw[e0,QE v,QE z]at c1;simp only[Xv,PO.cells]at c1;rw[QE v,QE z];refine k31.fn (by simp) ?_;simp only[e0,Xv,PO.cells,b4,b5,eE,seval];refine aC c1 ?_;simp only[eE,seval]

end

theorem QDX {ops:List PO}(h:XN ops (Pr PO.num)=true):ops.Pairwise fun a b=>a.num<b.num:=by
 have hs:∀i (hi:i+1<ops.length),ops[i].num<ops[i+1].num:=by
  intro i hi;unfold XN at h;have:=Q1.1 h (i+1) hi;rw[J7 (QYN (by omega:i<ops.length)) (QYN hi)]at this;unfold Pr at this
  simpa using this
 rw[Q0L];intro i j hi hj hij;obtain⟨d,rfl⟩:∃d,j=i+1+d:=⟨j-(i+1),by omega⟩;clear hij
 induction d with
 |zero=>exact hs i (by omega)
 |succ d ih=>
  have a:=ih (by omega);have b:=hs (i+1+d) (by omega);exact Int.lt_trans a b

theorem VQ {P:PL}(h:ck P=0):TO P=true∧args P=true:=by
 unfold ck at h;split at h
 ·omega
 split at h
 ·omega
 split at h
 ·omega
 rename_i ho;split at h
 ·omega
 split at h
 ·omega
 split at h
 ·omega
 rename_i ha;exact⟨by simpa using ho,by simpa using ha⟩
theorem Gi {P:PL}(h:ck P=0):Bp P:=by
 have ho:=(VQ h).1;unfold TO at ho;simp only[QY7,QYX]at ho;intro g hg;exact QDX (ho.1.2 g hg)
def QbE (P:PL):Prop:=∀g∈P.progs,∀o∈g.ops,1≤o.card∧o.card≤5
theorem Iz {P:PL}(h:ck P=0):QbE P:=by
 have ha:=(VQ h).2;intro g hg o ho;unfold args at ha;simp only[QY7,QYX]at ha;have h1:=ha.1 g hg;unfold Pw at h1;simp only[QY7,QYX]at h1;have h2:=(h1.2 o ho).1;unfold Pv at h2;simp only[QY7,QZ2]at h2;exact⟨h2.1.1.1.2,h2.1.1.2⟩

theorem Ug {fr:Nat→Ob}{a b c:Nat}(h1:(fr a).isRow=false)(h2:(fr b).isRow=false)(h3:(fr c).isRow=false):∀s∈[a,b,c],(fr s).isRow=false:=by
 intro s hs;simp only[QZ0,Q0Q,or_false]at hs;rcases hs with rfl|rfl|rfl
 ·exact h1
 ·exact h2
 ·exact h3

section
variable (k:Int)(b:Nat)(t:List UInt8)(l p s r:List AV)

theorem w77 (hl:l.length≤140737488351232)(hp:p.length≤140737488351232)(hs:s.length≤140737488351232)(hr:r.length≤140737488351232) :
  Qi Tryz.prog 77 [vo k b t l p s r] (.bool (Db k b t l p s r)):=by
 have hle:=QCQ k b t l p s r hl hp hs hr;simp only[vo]at hle;refine k77.fn (by simp) ?_;simp only[vo,Db,eE,seval];refine aC (Pp k) ?_;cases isk k
 ·simp only[Q0c,Qa,seval]
 ·simp only[Q0p,eE,seval];refine aC hle ?_;cases Wb l p s r
  ·simp only[Q0c,Qa,seval]
  ·cases h1:((b:Int)==0)<;>cases h2:(t==[])<;>cases h3:JA k<;>simp only[h1,h2,QZT,Q0G,QY3,Qs,eE,seval]

theorem w32 (hl:l.length≤140737488351232)(hp:p.length≤140737488351232)(hs:s.length≤140737488351232)(hr:r.length≤140737488351232):Qi Tryz.prog 32 [vo k b t l p s r] (.bool (emp k b t l p s r)):=by
 have hz:=w77 k b t l p s r hl hp hs hr;simp only[vo]at hz;refine k32.fn (by simp) ?_;simp only[vo,emp,eE,seval];cases h1:(k==11)<;>cases h2:((l.length:Int)==0)<;>cases h3:(k==12)<;>cases h4:((p.length:Int)==0)<;>simp only[h2,h3,h4,Q0p,Q0c,Q0r,Q0s,Q0H,eE,seval]
 all_goals(refine aC hz ?_;simp only[Qa,seval])

end
theorem QMq (v:V)(hc:v.cnt≤1048576):Qi Tryz.prog 32 [v.av] (.bool v.emp):=by
 have h1:=Ue v;have h2:=Yi v;have h3:=Yj v;have h4:=Uf v;rw[U6];exact w32 _ _ _ _ _ _ _ (by simp;omega) (by simp;omega) (by simp;omega) (by simp;omega)

def NgI (P:PL)(K:Nat→List (Int×V))(T:List (Int×V))(t:Nat)(rw':List R)(k:Nat)(st:St):Prop :=
 ∃f fr i g h,st=⟨f,[fr],[]⟩∧k=T.length-i∧i≤T.length∧f 1=.int .i64 (t:Nat)∧f 3=.ptr 0 3 0∧f 6=.ptr 0 6 0∧f 7=.ptr 0 7 0∧f 30=.list (T.map V.sav)∧f 31=.int .i64 (T.length:Nat)∧f 32=.int .i64 (i:Nat)∧fr 3=.cells [.list (P.progs.map QW),.list (P.enums.map Xw)]∧fr 6=.cells [.int .i64 0,.int .u64 0,.str [],.nils,.nils,.nils,.nils]∧fr 7=.cells [.int .i64 10,.int .u64 0,.str [],.nils,.nils,.vec 0 1100 g 0 (K i).length false,.vec 0 1000 h 0 rw'.length false]∧fr 1100=.vec g 8 ((K i).map V.sav)∧fr 1000=.vec h 4 (rw'.map R.av)∧∀s∈[13,10,9],(fr s).isRow=false

section
variable {M:Nat}{P:PL}(hP:P.ok M)

set_option maxHeartbeats 2000000 in
include hP in
theorem v13 (hU:Use P)(hr:Bp P)(hcd:QbE P):∀(n:Nat) (t:Int) (g:PG),P.progs[t.toNat]? = some g→0≤t→∀v:V,v.ok M→v.cnt≤1048576→MW P n g v→Qi Tryz.prog 13 [P.av,.int .i64 t,v.av] (Zc P n g v).av:=by
 have e0:P.av=.agg [.list (P.progs.map QW),.list (P.enums.map Xw)]:=rfl;intro n
 induction n with
 |zero=>
  intro t g _ _ v _ _ h;exact h.elim
 |succ n ih=>
  intro t g hgt t0 v hv hc h;have hgm:=QYY hgt;have hg:=hP.progs g hgm;have hu:=hU g hgm;have hd:=hr g hgm;obtain⟨s1,s2⟩:=h;have hnel:=fun(o:PO) (ho:o∈g.ops) (x:V) (hx:x.ok M) (hxc:x.cnt≤1048576) (he:EW (MW P n) P o x)=>v74 o (hu o ho) (fun t g a b v c d e=>ih t g a b v c d e) x hx hxc he
  have hnfl:=fun(o:PO) (ho:o∈g.ops) (x:V) (hx:x.ok M) (hxc:x.cnt≤1048576) (he:FW (MW P n) P o x)=>v31 o (hu o ho) (hnel o ho) x hx hxc he
  have hcn:∀(o:PO) (x:V),(Jp (Zc P n) P o x).cnt≤x.cnt:=fun o x=>C5 (fun t v=>Fh hr n _ (FZ hr t) v) o x
  have lS:=Yj v;have lR:=Uf v;have clR:=fun fr hr=>v28 (v.raws.map R.av) fr [] (QDU v.raws) (by rw[QZ5];omega) hr
  have csR:=fun g (m:Qk) (hl:Am.Qh m 0 1000=.vec g 4 (v.raws.map R.av))=>Tz.PV Tg.QbB (by decide) QUj 0 1000 g (v.raws.map R.av) m hl (ezR v.raws) (by rw[QZ5];omega)
  simp only[VJ,QZ5]at csR;have csl:=v29 v.slots (by omega) s2;have hTp:(Jh v.slots).Perm v.slots:=XC _;have hTl:(Jh v.slots).length=v.slots.length:=hTp.length_eq;have hTm:∀s∈Jh v.slots,s∈v.slots:=fun s h=>hTp.mem_iff.1 h
  have hfin:=Vq (Zc P n) P hd s2;have hrl:(WU v.raws).length=v.raws.length:=(XC v.raws).length_eq;generalize Jh v.slots=T at *;obtain⟨ti,hti⟩:=Q0m t0;subst hti;rw[QZ8]at hgt;have hga:(P.progs.map QW)[ti]? = some (.agg g.cells):=by simp[hgt,QW]
  simp only[PG.cells]at hga;have htl:ti<P.progs.length:=(QYM.1 hgt).1;have d0:decide ((ti:Int)<0)=false:=Q0u (by omega);have d1:decide ((ti:Int)≥(P.progs.length:Int))=false:=Q0u (by omega);have co:=fun n=>y30 g hg.len n
  simp only[Fl]at co;simp only[QW,PG.cells]at co;show Qi _ _ _ (V.mk 10 0 [] [] [] (g.ops.flatMap (Ke (Zc P n) P v.slots)) (WU v.raws)).av;rw[←hfin,QE v];generalize hK:(fun i=>(T.take i).flatMap (Zb (Zc P n) P g))=K;have hK0:K 0=[]:=by rw[←hK];simp
  have hKn:T.flatMap (Zb (Zc P n) P g)=K T.length:=by rw[←hK];simp
  have hKl:∀i,i≤T.length→(K i).length≤i:=by
   intro i hi;rw[←hK];show((T.take i).flatMap _).length≤i;have:∀l:List (Int×V),(l.flatMap (Zb (Zc P n) P g)).length≤l.length:=by
    intro l
    induction l with
    |nil=>exact QYK _
    |cons s l ih=>
     have:(Zb (Zc P n) P g s).length≤1:=by
      unfold Zb;split
      ·simp
      ·unfold KG;split<;>simp
     rw[Q0b,QZn,QYZ];omega
   exact QYL (this _) (by rw[QZC];omega)
  rw[hKn,show(V.mk 10 0 [] [] [] (K T.length) (WU v.raws)).av=.agg [.int .i64 10,.int .u64 0,.str [],.list [],.list [],.list ((K T.length).map V.sav),.list ((WU v.raws).map R.av)]from QE _];refine k13.fn (by simp) ?_;simp only[e0,eE,seval];refine Qb (clR _ rfl) (by simp only[QZh,QZG,Qa,seval]) ?_;simp only[QZ5,eE,seval];refine Xf (by simp only[Qa,seval]<;>rfl) rfl (by simp only[Qa,seval]<;>rfl) rfl ?_;simp only[List.set,d0,d1,QZ5,eE,seval];refine aC csl ?_;simp only[QZ5,Qa,seval];refine Qe (NgI P K T ti v.raws) _ ⟨_,_,0,_,_,rfl,rfl,QYT _,rfl,rfl,rfl,rfl,rfl,rfl,rfl,rfl,rfl,(by rw[hK0];exact rfl),(by rw[hK0];exact rfl),rfl,Ug rfl rfl rfl⟩ ?_;rintro _ st ⟨f0,fr0,i,gs,hs,rfl,rfl,hil,h10,h30,h60,h70,h300,h310,h320,m30,m60,m70,mS0,mR0,LN⟩;refine QH (a:=_) [13,10,9] LN ?_;intro f fr hf hm hn13;have h1:f 1=.int .i64 (ti:Nat):=by rw[hf,h10]<;>rfl
  have h3:f 3=.ptr 0 3 0:=by rw[hf,h30]<;>rfl
  have h6:f 6=.ptr 0 6 0:=by rw[hf,h60]<;>rfl
  have h7:f 7=.ptr 0 7 0:=by rw[hf,h70]<;>rfl
  have h30':f 30=.list (T.map V.sav):=by rw[hf,h300]<;>rfl
  have h31:f 31=.int .i64 (T.length:Nat):=by rw[hf,h310]<;>rfl
  have h32:f 32=.int .i64 (i:Nat):=by rw[hf,h320]<;>rfl
  have m3:fr 3=.cells [.list (P.progs.map QW),.list (P.enums.map Xw)]:=by rw[hm 3 (by decide),m30]<;>rfl
  have m6:fr 6=.cells [.int .i64 0,.int .u64 0,.str [],.nils,.nils,.nils,.nils]:=by rw[hm 6 (by decide),m60]<;>rfl
  have m7:fr 7=.cells [.int .i64 10,.int .u64 0,.str [],.nils,.nils,.vec 0 1100 gs 0 (K i).length false,.vec 0 1000 hs 0 v.raws.length false]:=by rw[hm 7 (by decide),m70]<;>rfl
  have mS:fr 1100=.vec gs 8 ((K i).map V.sav):=by rw[hm 1100 (by decide),mS0]<;>rfl
  have mR:fr 1000=.vec hs 4 (v.raws.map R.av):=by rw[hm 1000 (by decide),mR0]<;>rfl
  have n13:=hn13 13 (by decide);have n10:=hn13 10 (by decide);have n9:=hn13 9 (by decide);clear hf hm hn13 h10 h30 h60 h70 h300 h310 h320 m30 m60 m70 mS0 mR0 LN;simp only[h31,h32,Qa,seval];by_cases hlt:i<T.length
  ·obtain⟨x,hi⟩:∃x,T[i]? = some x:=⟨T[i],QYN hlt⟩;have hx:=hTm x (QYY hi);have hgs:=WY hi;have e1:=Ql i _ hlt (by simp only[maxLen];omega);obtain⟨o,ho,hfo⟩:=s1 x hx;obtain⟨hom,hon⟩:=Hb ho;have hcard:=hcd g hgm o hom;have c1:=co x.1;rw[ho]at c1;have hxc:=QYL (Gg hx) hc;have c2:=hnfl o hom x.2 (hv.slots x hx) hxc hfo;have c3:=QMq (Jp (Zc P n) P o x.2) (QYL (hcn o x.2) hxc);have hKs:K (i+1)=K i++KG (Zc P n) P o x:=by
    rw[←hK];show(T.take (i+1)).flatMap _=(T.take i).flatMap _++_;rw[Q0j,hi,List.flatMap_append];have:Zb (Zc P n) P g x=KG (Zc P n) P o x:=by unfold Zb;rw[ho]
    simp[this]
   have hkO:KG (Zc P n) P o x=if (decide (o.card<3) || !(Jp (Zc P n) P o x.2).emp)=true then [(x.1,Jp (Zc P n) P o x.2)]else []:=by
    unfold KG;rw[hon]
   have hKi:=hKl i (by omega);rw[hkO]at hKs;clear hkO;generalize Jp (Zc P n) P o x.2=z at c2 c3 hKs;rw[e0,QE x.2,QE z]at c2;rw[QE z]at c3;simp only[Xv,PO.cells]at c2;have fin:∀(f':Fr) (fr':Nat→Ob) (gs':Nat),f' 1=.int .i64 (ti:Nat)→f' 3=.ptr 0 3 0→f' 6=.ptr 0 6 0→f' 7=.ptr 0 7 0→f' 30=.list (T.map V.sav)→f' 31=.int .i64 (T.length:Nat)→f' 32=.int .i64 ((i+1:Nat):Int)→fr' 3=.cells [.list (P.progs.map QW),.list (P.enums.map Xw)]→fr' 6=.cells [.int .i64 0,.int .u64 0,.str [],.nils,.nils,.nils,.nils]→fr' 7=.cells [.int .i64 10,.int .u64 0,.str [],.nils,.nils,.vec 0 1100 gs' 0 (K (i+1)).length false,.vec 0 1000 hs 0 v.raws.length false]→fr' 1100=.vec gs' 8 ((K (i+1)).map V.sav)→fr' 1000=.vec hs 4 (v.raws.map R.av)→(∀s∈[13,10,9],(fr' s).isRow=false)→∃k,k<T.length-i∧NgI P K T ti v.raws k ⟨f',[fr'],[]⟩:=by
    intro f' fr' gs' a1 a3 a6 a7 a30 a31 a32 b3 b6 b7 bS bR br;exact⟨T.length-(i+1),by omega,f',fr',i+1,gs',hs,rfl,rfl,by omega,a1,a3,a6,a7,a30,a31,a32,b3,b6,b7,bS,bR,br⟩
   simp only[Qw hlt,Qj,QZ8,Qd,hgs,hga,n9,h1,h3,h30',h32,m3,eE,seval];refine aC c1 ?_;simp only[QZQ,Q0v,Xv,PO.cells,n10,eE,seval];rcases(by omega:o.card=1∨o.card=2∨o.card=3∨o.card=4∨o.card=5)with cc|cc|cc|cc|cc
   ·have b3:(o.card==3)=false:=by simp[cc]
    have b4:(o.card==4)=false:=by simp[cc]
    have b5:(o.card==5)=false:=by simp[cc]
    rw[QYS (by simp[cc])]at hKs;simp only[b3,b4,b5,QZi,QZl,QZs,h3,m3,eE,seval];refine aC c2 ?_;simp only[n13,h7,m7,eE,seval];refine Xn (l:=[V.sav (x.1,z)]) rfl rfl rfl (by rw[Jw];rfl) ?_;refine QJ (site:=1100) (g:=gs) (n:=(K i).length) (xs:=(K i).map V.sav) (ys:=[V.sav (x.1,z)]) rfl mS rfl (by rw[QZ5]) rfl (Ud [(x.1,z)]) (by simp only[QYZ,QZR,maxLen];omega) (by simp only[QYZ,QZR];omega) ?_;simp only[h7,h32,m7,e1,eE,seval];exact fin _ _ (gs+1) h1 h3 h6 h7 h30' h31 rfl m3 m6 (by rw[hKs,QZn];exact rfl) (by rw[hKs,Q0i];exact rfl) mR (Ug rfl rfl rfl)

   ·have b3:(o.card==3)=false:=by simp[cc]
    have b4:(o.card==4)=false:=by simp[cc]
    have b5:(o.card==5)=false:=by simp[cc]
    rw[QYS (by simp[cc])]at hKs;simp only[b3,b4,b5,QZi,QZl,QZs,h3,m3,eE,seval];refine aC c2 ?_;simp only[n13,h7,m7,eE,seval];refine Xn (l:=[V.sav (x.1,z)]) rfl rfl rfl (by rw[Jw];rfl) ?_;refine QJ (site:=1100) (g:=gs) (n:=(K i).length) (xs:=(K i).map V.sav) (ys:=[V.sav (x.1,z)]) rfl mS rfl (by rw[QZ5]) rfl (Ud [(x.1,z)]) (by simp only[QYZ,QZR,maxLen];omega) (by simp only[QYZ,QZR];omega) ?_;simp only[h7,h32,m7,e1,eE,seval];exact fin _ _ (gs+1) h1 h3 h6 h7 h30' h31 rfl m3 m6 (by rw[hKs,QZn];exact rfl) (by rw[hKs,Q0i];exact rfl) mR (Ug rfl rfl rfl)
   ·have b3:(o.card==3)=true:=by simp[cc]
    have b4:(o.card==4)=false:=by simp[cc]
    have b5:(o.card==5)=false:=by simp[cc]
    have l3:decide (o.card<3)=false:=by simp[cc]
    rw[l3,Q0s]at hKs;simp only[b3,QZi,QZl,QZs,h3,m3,eE,seval];refine aC c2 ?_;simp only[n13,eE,seval];refine aC c3 ?_;cases hz:z.emp
    ·rw[hz,QYS (show(!false)=true from rfl)]at hKs;simp only[h7,m7,eE,seval];refine Xn (l:=[V.sav (x.1,z)]) rfl rfl rfl (by rw[Jw];rfl) ?_;refine QJ (site:=1100) (g:=gs) (n:=(K i).length) (xs:=(K i).map V.sav) (ys:=[V.sav (x.1,z)]) rfl mS rfl (by rw[QZ5]) rfl (Ud [(x.1,z)]) (by simp only[QYZ,QZR,maxLen];omega) (by simp only[QYZ,QZR];omega) ?_;simp only[h7,h32,m7,e1,eE,seval];exact fin _ _ (gs+1) h1 h3 h6 h7 h30' h31 rfl m3 m6 (by rw[hKs,QZn];exact rfl) (by rw[hKs,Q0i];exact rfl) mR (Ug rfl rfl rfl)
    ·rw[hz,QYR (by simp),QZI]at hKs;simp only[h32,e1,Qa,seval];exact fin _ _ gs h1 h3 h6 h7 h30' h31 rfl m3 m6 (by rw[hKs];exact m7) (by rw[hKs];exact mS) mR (Ug rfl rfl rfl)

   ·have b3:(o.card==3)=false:=by simp[cc]
    have b4:(o.card==4)=true:=by simp[cc]
    have b5:(o.card==5)=false:=by simp[cc]
    have l3:decide (o.card<3)=false:=by simp[cc]
    rw[l3,Q0s]at hKs;simp only[b3,b4,QZi,QZl,QZs,h3,m3,eE,seval];refine aC c2 ?_;simp only[n13,eE,seval];refine aC c3 ?_;cases hz:z.emp
    ·rw[hz,QYS (show(!false)=true from rfl)]at hKs;simp only[h7,m7,eE,seval];refine Xn (l:=[V.sav (x.1,z)]) rfl rfl rfl (by rw[Jw];rfl) ?_;refine QJ (site:=1100) (g:=gs) (n:=(K i).length) (xs:=(K i).map V.sav) (ys:=[V.sav (x.1,z)]) rfl mS rfl (by rw[QZ5]) rfl (Ud [(x.1,z)]) (by simp only[QYZ,QZR,maxLen];omega) (by simp only[QYZ,QZR];omega) ?_;simp only[h7,h32,m7,e1,eE,seval];exact fin _ _ (gs+1) h1 h3 h6 h7 h30' h31 rfl m3 m6 (by rw[hKs,QZn];exact rfl) (by rw[hKs,Q0i];exact rfl) mR (Ug rfl rfl rfl)
    ·rw[hz,QYR (by simp),QZI]at hKs;simp only[h32,e1,Qa,seval];exact fin _ _ gs h1 h3 h6 h7 h30' h31 rfl m3 m6 (by rw[hKs];exact m7) (by rw[hKs];exact mS) mR (Ug rfl rfl rfl)

   ·have b3:(o.card==3)=false:=by simp[cc]
    have b4:(o.card==4)=false:=by simp[cc]
    have b5:(o.card==5)=true:=by simp[cc]
    have l3:decide (o.card<3)=false:=by simp[cc]
    rw[l3,Q0s]at hKs;simp only[b3,b4,b5,QZi,QZl,QZs,h3,m3,eE,seval];refine aC c2 ?_;simp only[n13,eE,seval];refine aC c3 ?_;cases hz:z.emp
    ·rw[hz,QYS (show(!false)=true from rfl)]at hKs;simp only[h7,m7,eE,seval];refine Xn (l:=[V.sav (x.1,z)]) rfl rfl rfl (by rw[Jw];rfl) ?_;refine QJ (site:=1100) (g:=gs) (n:=(K i).length) (xs:=(K i).map V.sav) (ys:=[V.sav (x.1,z)]) rfl mS rfl (by rw[QZ5]) rfl (Ud [(x.1,z)]) (by simp only[QYZ,QZR,maxLen];omega) (by simp only[QYZ,QZR];omega) ?_;simp only[h7,h32,m7,e1,eE,seval];exact fin _ _ (gs+1) h1 h3 h6 h7 h30' h31 rfl m3 m6 (by rw[hKs,QZn];exact rfl) (by rw[hKs,Q0i];exact rfl) mR (Ug rfl rfl rfl)
    ·rw[hz,QYR (by simp),QZI]at hKs;simp only[h32,e1,Qa,seval];exact fin _ _ gs h1 h3 h6 h7 h30' h31 rfl m3 m6 (by rw[hKs];exact m7) (by rw[hKs];exact mS) mR (Ug rfl rfl rfl)
  ·have e:i=T.length:=by omega
   subst e;simp only[Qy hlt,h7,m7,eE,seval];refine Qb (csR _ _ (by simp only[mR,B2,seval]<;>rfl)) (by simp only[QZh,QZG,Qa,seval]) ?_;simp only[h6,h7,m6,m7,eE,seval];simp[AV.un,AV.unL,Jz,Zs,mS,QZj,hrl]

end
end Go.Proofs.YtafhmlkilcmniaaGreatDoor.Va

set_option linter.unusedSectionVars false
namespace Go.Proofs.YtafhmlkilcmniaaGreatDoor.Va
open Go Am Rc Bt Br Up So

def okN (f:SF)(v:V):Bool:=bif f.card==4 then decide ((v.list.length:Int) > 0)else bif f.card==5 then decide ((v.pairs.length:Int) > 0)else f.card != 3 || !Db v.kd v.bits v.text (v.list.map V.av) (v.pairs.map V.pav) (v.slots.map V.sav) (v.raws.map R.av)

section
variable {M:Nat}(S:SC)(m:SM)(f:SF)(F:FOf S m f){mp:PG→V→Prop}{nm:PG→V→V}(hnm:∀n∈S.msgs,∀v:V,v.ok M→v.cnt≤1048576→mp (QO S n) v→Qi Tryz.prog 14 [S.av,.str n.name,v.av] (nm (QO S n) v).av)
include F hnm

theorem s82 (v:V)(hv:v.ok M)(hc:v.cnt≤1048576)(he:EW mp (Qp S) (QX S (unl [] m.fields) f) v):Qi Tryz.prog 82 [S.av,.agg [.int .i64 f.kind,.str f.tname],v.av] (JP nm (Qp S) (QX S (unl [] m.fields) f) v).av:=by
 have el:JP nm (Qp S) (QX S (unl [] m.fields) f) v=if f.kind=10 then nm (Jo (Qp S) (Zp S f)) v else v.nsc:=rfl
 have he':f.kind=10→mp (Jo (Qp S) (Zp S f)) v:=he;rw[el];by_cases hk:f.kind=10
 ·obtain⟨n,hn,hnmm,hg⟩:=Aw F.sk F.mm F.fm hk;have d:(f.kind==10)=true:=by simp[hk]
  have hname:n.name=f.tname:=by simpa using Q0C hn
  have c2:=hnm n hnmm v hv hc (by rw[←hg];exact he' hk);rw[hname]at c2;rw[QYS hk,hg];generalize nm (QO S n) v=z at c2 ⊢;simp only[SC.av,QE]at c2;refine k82.fn (by simp) ?_;simp only[SC.av,QE,d,eE,seval];refine aC c2 ?_;simp only[eE,seval]
 ·have d:(f.kind==10)=false:=by simp[hk]
  have c0:=v76 v (Ju hv);rw[QYR hk];generalize v.nsc=z at c0 ⊢;simp only[QE]at c0;refine k82.fn (by simp) ?_;simp only[SC.av,QE,d,eE,seval];refine aC c0 ?_;simp only[eE,seval]

set_option maxHeartbeats 4000000 in
theorem s37 (v:V)(hv:v.ok M)(hc:v.cnt≤1048576)(he:FW mp (Qp S) (QX S (unl [] m.fields) f) v):Qi Tryz.prog 37 [S.av,QL f,v.av] (.tup [(Jp nm (Qp S) (QX S (unl [] m.fields) f) v).av,.bool (okN f v)]):=by
 have hfi:Jp nm (Qp S) (QX S (unl [] m.fields) f) v=if f.card=4 then .mk 11 0 [] (v.list.map (JP nm (Qp S) (QX S (unl [] m.fields) f))) [] [] []else if f.card=5 then .mk 12 0 [] [] ((ZE f.key v.pairs).map fun p=>(p.1.nsc,JP nm (Qp S) (QX S (unl [] m.fields) f) p.2)) [] []else JP nm (Qp S) (QX S (unl [] m.fields) f) v:=rfl
 have hF:FW mp (Qp S) (QX S (unl [] m.fields) f) v=if f.card=4 then ∀x∈v.list,EW mp (Qp S) (QX S (unl [] m.fields) f) x else if f.card=5 then(∀p∈v.pairs,p.1.one (Qp S) f.key (-1)=0∧EW mp (Qp S) (QX S (unl [] m.fields) f) p.2)∧v.pairs.Pairwise fun q p=>Ko q.1 p.1=false else EW mp (Qp S) (QX S (unl [] m.fields) f) v:=rfl
 rw[hF]at he;rw[hfi];clear hF hfi;have cE:=fun(v:V) (hv:v.ok M) (hc:v.cnt≤1048576) he=>s82 S m f F hnm v hv hc he
 generalize JP nm (Qp S) (QX S (unl [] m.fields) f)=El at *;unfold okN
 let SV:List AV:=[.list (S.msgs.map fun n=>.agg n.cells),.list (S.enums.map fun n=>.agg n.cells),.list (S.servs.map fun n=>.agg n.cells)]
 let FV:List AV:=[.int .i64 f.num,.str f.name,.int .i64 f.card,.int .i64 f.key,.int .i64 f.kind,.str f.tname,.str f.union,.bool f.hasd,.int .i64 f.dflt.kd,.int .u64 (f.dflt.bits:Nat),.str f.dflt.text,.list (f.dflt.list.map V.av),.list (f.dflt.pairs.map V.pav),.list (f.dflt.slots.map V.sav),.list (f.dflt.raws.map R.av),.list (f.notes.map fun n=>.agg n.cells)]
 let Z:List AV:=[.int .i64 0,.int .u64 0,.str [],.nils,.nils,.nils,.nils]
 refine k37.fn (by simp) ?_;by_cases h4:f.card=4
 ·have d4:(f.card==4)=true:=by simp[h4]
  rw[QYS h4]at he;rw[QYS h4];have hlen:=Ue v;have hav:(V.mk 11 0 [] (v.list.map El) [] [] []).av=.agg [.int .i64 11,.int .u64 0,.str [],.list (v.list.map fun x=>(El x).av),.list [],.list [],.list []]:=by rw[QE];simp[V.kd,V.bits,V.text,V.list,V.pairs,V.slots,V.raws,Q0n,Function.comp_def]
  rw[hav,d4];simp only[SC.av,QL,Qz f,QE v,d4,eE,seval];refine Xf (by simp only[Qa,seval]<;>rfl) rfl (by simp only[Qa,seval]<;>rfl) rfl ?_;simp only[List.set,QZ5,eE,seval];refine Zl (X:=Nat) (fun i=>[(3,.ptr 0 3 0),(4,.ptr 0 4 0),(6,.ptr 0 6 0),(8,.ptr 0 8 0),(20,.list (v.list.map V.av)),(21,.int .i64 (v.list.length:Nat)),(22,.int .i64 (i:Nat))]) (fun i=>[(3,.cells SV),(4,.cells FV),(6,.cells Z),(8,.cells [.int .i64 11,.int .u64 0,.str [],.vec 0 1100 (1+i) 0 i false,.nils,.nils,.nils]),(1100,.vec (1+i) 7 ((v.list.take i).map fun x=>(El x).av))]) [10] (fun i=>v.list.length-i) (fun i=>i≤v.list.length) (fun _=>[]) 0 (QYT _) ?_;intro i f0 fr hi;simp only[SV,FV,Z,Ji,QZh,QZG,QY5,QY6,Qa,seval];rcases JE v.list i with⟨x,hx,hlt⟩|hlt
  ·have hxm:=QYY hx;have hg:=H5 hx;have e1:=Ql i _ hlt (by simp only[maxLen];omega);have c1:=cE x (hv.list x hxm) (QYL (Gf hxm) hc) (he x hxm);have hti:((v.list.take i).map fun x=>(El x).av).length=i:=by rw[QZ5,QZC];omega
   have hts:(v.list.take (i+1)).map (fun x=>(El x).av)=(v.list.take i).map (fun x=>(El x).av)++[(El x).av]:=by rw[Q0j,hx];simp
   generalize El x=z at c1 hts;rw[QE,QE z]at c1;simp only[SC.av]at c1;simp only[Qw hlt,Qj,QZ8,Qd,hg,eE,seval];refine aC c1 ?_;refine Xn (l:=[z.av]) rfl rfl rfl (by rw[QE];rfl) ?_;refine QJ (site:=1100) (g:=1+i) (n:=i) (xs:=(v.list.take i).map fun x=>(El x).av) (ys:=[z.av]) rfl rfl rfl hti.symm rfl (Vu [z]) (by simp only[QYZ,QZR,maxLen];omega) (by simp only[QYZ,QZR];omega) ?_;simp only[e1,QYZ,QZR,eE,seval];exact Ix.go (i+1) (by omega) (by omega) (ho:=by simp only[Ag,hts,QZh,QZG];rfl)
  ·have e:i=v.list.length:=by omega
   subst e;have ex:((v.list.map fun x=>(El x).av).take v.list.length)=v.list.map fun x=>(El x).av:=QZj (by simp)
   simp only[Qy hlt,Q0h,QZ5,ex,QZs,QY9,QYK,QZJ,QZP,AV.un,AV.unL,cond_true,eE,seval]<;>rfl
 have d4:(f.card==4)=false:=by simp[h4]
 rw[QYR h4]at he;rw[QYR h4,d4];by_cases h5:f.card=5
 ·have d5:(f.card==5)=true:=by simp[h5]
  rw[QYS h5]at he;rw[QYS h5];have hlen:=Yi v;have hk:ZF f.key:=(Vs F.sk F.mm F.fm).2 h5;have cp:=v75 hk v.pairs (by omega) (fun p hp=>(he.1 p hp).1) (fun p hp=>Ju (hv.keys p hp)) he.2;have hperm:(ZE f.key v.pairs).Perm v.pairs:=XC _;have hTl:(ZE f.key v.pairs).length=v.pairs.length:=hperm.length_eq;have hTm:∀p∈ZE f.key v.pairs,p∈v.pairs:=fun p h=>hperm.mem_iff.1 h
  rw[←hTl];generalize ZE f.key v.pairs=T at *;have hav:(V.mk 12 0 [] [] (T.map fun p=>(p.1.nsc,El p.2)) [] []).av=.agg [.int .i64 12,.int .u64 0,.str [],.list [],.list (T.map fun p=>V.pav (p.1.nsc,El p.2)),.list [],.list []]:=by rw[QE];simp[V.kd,V.bits,V.text,V.list,V.pairs,V.slots,V.raws,Q0n,Function.comp_def]
  rw[hav,d5];simp only[SC.av,QL,Qz f,QE v,d4,d5,eE,seval];refine Xf (by simp only[Qa,seval]<;>rfl) rfl (by simp only[Qa,seval]<;>rfl) rfl ?_;simp only[List.set,eE,seval];refine aC cp ?_;simp only[QZ5,Qa,seval];refine Zl (X:=Nat) (fun i=>[(3,.ptr 0 3 0),(4,.ptr 0 4 0),(6,.ptr 0 6 0),(11,.ptr 0 11 0),(47,.list (T.map V.pav)),(48,.int .i64 (T.length:Nat)),(49,.int .i64 (i:Nat))]) (fun i=>[(3,.cells SV),(4,.cells FV),(6,.cells Z),(11,.cells [.int .i64 12,.int .u64 0,.str [],.nils,.vec 0 1101 (1+i) 0 i false,.nils,.nils]),(1101,.vec (1+i) 14 ((T.take i).map fun x=>V.pav (x.1.nsc,El x.2)))]) [13] (fun i=>T.length-i) (fun i=>i≤T.length) (fun _=>[]) 0 (QYT _) ?_;intro i f0 fr hi;simp only[SV,FV,Z,Ji,QZh,QZG,QY5,QY6,Qa,seval];rcases JE T i with⟨x,hx,hlt⟩|hlt
  ·have hxm:=hTm x (QYY hx);have hg:=Yo hx;have e1:=Ql i _ hlt (by simp only[maxLen];omega);have c0:=v76 x.1 (Ju (hv.keys x hxm));have c1:=cE x.2 (hv.vals x hxm) (QYL (Fx hxm) hc) (he.1 x hxm).2;have hti:((T.take i).map fun x=>V.pav (x.1.nsc,El x.2)).length=i:=by rw[QZ5,QZC];omega
   have hts:(T.take (i+1)).map (fun x=>V.pav (x.1.nsc,El x.2))=(T.take i).map (fun x=>V.pav (x.1.nsc,El x.2))++[V.pav (x.1.nsc,El x.2)]:=by rw[Q0j,hx];simp
   generalize x.1.nsc=y at c0 hts;generalize El x.2=z at c1 hts;rw[QE,QE y]at c0;rw[QE,QE z]at c1;simp only[SC.av]at c1;simp only[Qw hlt,Qj,QZ8,Qd,hg,eE,seval];refine aC c0 ?_;simp only[eE,seval];refine aC c1 ?_;simp only[eE,seval];refine Xn (l:=[V.pav (y,z)]) rfl rfl rfl (by rw[ZO];rfl) ?_;refine QJ (site:=1101) (g:=1+i) (n:=i) (xs:=(T.take i).map fun x=>V.pav (x.1.nsc,El x.2)) (ys:=[V.pav (y,z)]) rfl rfl rfl hti.symm rfl (DG [(y,z)]) (by simp only[QYZ,QZR,maxLen];omega) (by simp only[QYZ,QZR];omega) ?_;simp only[e1,QYZ,QZR,eE,seval];exact Ix.go (i+1) (by omega) (by omega) (ho:=by simp only[Ag,hts,QZh,QZG];rfl)
  ·have e:i=T.length:=by omega
   subst e;have ex:((T.map fun x=>V.pav (x.1.nsc,El x.2)).take T.length)=T.map fun x=>V.pav (x.1.nsc,El x.2):=QZj (by simp)
   simp only[Qy hlt,Q0h,QZ5,ex,QZs,QY9,QYK,QZJ,QZP,AV.un,AV.unL,cond_true,cond_false,eE,seval]<;>rfl
 have d5:(f.card==5)=false:=by simp[h5]
 rw[QYR h5]at he;rw[QYR h5,d5];have c1:=cE v hv hc he;have cz:=w77 v.kd v.bits v.text (v.list.map V.av) (v.pairs.map V.pav) (v.slots.map V.sav) (v.raws.map R.av) (by have:=hv.nl;simp;omega) (by have:=hv.np;simp;omega) (by have:=hv.ns;simp;omega) (by have:=hv.nr;simp;omega);generalize Db v.kd v.bits v.text (v.list.map V.av) (v.pairs.map V.pav) (v.slots.map V.sav) (v.raws.map R.av)=zb at *;generalize El v=z at c1 ⊢;rw[QE v,QE z]at c1;simp only[SC.av,vo]at c1 cz;rw[QE v,QE z];simp only[SC.av,QL,Qz f,d4,d5,eE,seval];refine aC c1 ?_;cases h3:(f.card != 3)
 ·simp only[h3,Q0s,cond_true,cond_false,eE,seval];refine aC cz ?_;simp only[QZT,cond_true,cond_false,eE,seval]
 ·simp only[h3,QZT,Q0r,cond_true,cond_false,eE,seval]
end

theorem QMr {P:PL}{n:Nat}{g:PG}{v:V}(h:XF P (n+1) g v=0):∀x∈v.slots,∃o,X4 g x.1=some o∧Zq (XF P n) P o x.2=0:=by
 intro x hx;obtain⟨i,hi⟩:=QYW.1 hx;have hil:=(QYM.1 hi).1;unfold XF at h;split at h
 ·cases h
 unfold Yc at h;split at h
 ·rename_i h0;have h1:=Jf h0 i (QYT _) (by omega);unfold XB at h1;rw[hi]at h1;dsimp only at h1;cases ho:X4 g x.1 with
  |none=>rw[ho]at h1;cases h1
  |some o=>
   rw[ho]at h1;dsimp only at h1;split at h1
   ·cases h1
   split at h1
   ·cases h1
   exact⟨o,rfl,h1⟩
 ·rename_i h0;exact absurd h h0

theorem Qgc {S:SC}{m:SM}{f:SF}(F:FOf S m f){mm:PG→V→Int}{nm:PG→V→V}{v:V}(h:Zq mm (Qp S) (QX S (unl [] m.fields) f) v=0):okN f v=(decide (f.card<3) || !(Jp nm (Qp S) (QX S (unl [] m.fields) f) v).emp):=by
 have hc:=(Vs F.sk F.mm F.fm).1;have hnf:Jp nm (Qp S) (QX S (unl [] m.fields) f) v=if f.card=4 then .mk 11 0 [] (v.list.map (JP nm (Qp S) (QX S (unl [] m.fields) f))) [] [] []else if f.card=5 then .mk 12 0 [] [] ((ZE f.key v.pairs).map fun p=>(p.1.nsc,JP nm (Qp S) (QX S (unl [] m.fields) f) p.2)) [] []else if f.kind=10 then nm (Jo (Qp S) (Zp S f)) v else v.nsc:=rfl
 have hfi:Zq mm (Qp S) (QX S (unl [] m.fields) f) v=if f.card=5 then(if (v.kd != 12||v.oth)=true then 12 else Xj (J3 mm (Qp S) (QX S (unl [] m.fields) f) v.pairs) v.pairs.length 0)else if f.card=4 then(if (v.kd != 11||v.oth)=true then 12 else Xj (WR mm (Qp S) (QX S (unl [] m.fields) f) v.list) v.list.length 0)else if f.kind=10 then mm (Jo (Qp S) (Zp S f)) v else v.one (Qp S) f.kind (Zp S f):=rfl
 rw[hfi]at h;rw[hnf];unfold okN;rcases(by omega:f.card=1∨f.card=2∨f.card=3∨f.card=4∨f.card=5)with cc|cc|cc|cc|cc
 ·simp[cc]
 ·simp[cc]
 ·have hk:f.kind≠10:=fun hk=>by
   obtain⟨j,n,_,_,_,_,h3⟩:=U8 F.sk F.mm F.fm hk;exact h3 cc
  rw[QYR (by omega),QYR (by omega),QYR hk]at h;rw[QYR (by omega),QYR (by omega),QYR hk];have hkd:=(De h).1;have hkn:=QDH F.sk F.mm F.fm;rw[Qf4 v (by omega)];simp[cc]
 ·rw[QYS cc];have e:∀l:List V,(V.mk 11 0 [] l [] [] []).emp=((l.length:Int)==0):=fun l=>by
   show Va.emp 11 0 [] (l.map V.av) [] [] []=_;unfold Va.emp Db isk;simp
  rw[e,QZ5];have d:(f.card==4)=true:=by simp[cc]
  have d3:decide (f.card<3)=false:=Q0u (by omega);rw[d,d3];by_cases h0:v.list.length=0
  ·simp[h0]
  ·have:(v.list.length:Int) > 0:=by omega
   rw[cond_true,Q0D this,Q0s];simp;intro h;simp[h]at h0
 ·rw[QYR (by omega),QYS cc];have e:∀l:List (V×V),(V.mk 12 0 [] [] l [] []).emp=((l.length:Int)==0):=fun l=>by
   show Va.emp 12 0 [] [] (l.map V.pav) [] []=_;unfold Va.emp Db isk;simp
  have hl:(ZE f.key v.pairs).length=v.pairs.length:=(XC v.pairs).length_eq;rw[e,QZ5,hl];have d:(f.card==4)=false:=by simp[cc]
  have d5:(f.card==5)=true:=by simp[cc]
  have d3:decide (f.card<3)=false:=Q0u (by omega);rw[d,d5,d3];by_cases h0:v.pairs.length=0
  ·simp[h0]
  ·have:(v.pairs.length:Int) > 0:=by omega
   rw[cond_false,cond_true,Q0D this,Q0s];simp;intro h;simp[h]at h0

theorem s38 (x y:R):Qi Tryz.prog 38 [x.av,y.av] (.int .i64 (cN x.num y.num)):=by
 refine k38.fn (by simp) ?_;simp only[R.av,eE,seval];refine aC (T8 x.num y.num) ?_;simp only[Qa,seval]
theorem QMs:Tz.Cp Tryz.prog 4 eR 38 cA where
 call x y hx hy:=by
  obtain⟨s,rfl⟩:=hx.1;obtain⟨t,rfl⟩:=hy.1;exact s38 s t
 sw:=PY

section
variable {M:Nat}(S:SC)(hsk:Sok S)(hlm:SLm S)(hD:TX S)
include hsk hlm hD

set_option maxHeartbeats 4000000 in
theorem s14:∀(n:Nat) (m:SM),m∈S.msgs→∀v:V,v.ok M→v.cnt≤1048576→XF (Qp S) n (QO S m) v=0→Qi Tryz.prog 14 [S.av,.str m.name,v.av] (Zc (Qp S) n (QO S m) v).av:=by
 intro n
 induction n with
 |zero=>
  intro m _ v _ _ h;unfold XF at h;split at h<;>cases h
 |succ n ih=>
  intro m hm v hv hc h;have hckP:ck (Qp S)=0→True:=fun _=>trivial
  have s1:=QMr h;have s2:=(P0 (n+1) _ _ h).2;obtain⟨j,hj⟩:=QYW.1 hm;have hfm:=Fc hD hj;have cd:=s22 S hlm.ms m.name;rw[hfm,QZQ,QM,Xe m]at cd;have hpw:=Mn hsk hm;have hd:(QO S m).ops.Pairwise fun a b=>a.num<b.num:=by
   show(m.fields.map (QX S (unl [] m.fields))).Pairwise _;rw[List.pairwise_map];exact hpw
  have hnf:=fun(f:SF) (hf:f∈m.fields) (x:V) (hx:x.ok M) (hxc:x.cnt≤1048576) he=>s37 S m f ⟨hsk,hlm,hm,hf⟩ (mp:=fun g v=>XF (Qp S) n g v=0) (nm:=Zc (Qp S) n) ih x hx hxc he
  have lS:=Yj v;have lR:=Uf v;have clR:=fun fr hr=>v28 (v.raws.map R.av) fr [] (QDU v.raws) (by rw[QZ5];omega) hr
  have csR:=fun g (m:Qk) (hl:Am.Qh m 0 1000=.vec g 4 (v.raws.map R.av))=>Tz.PV Tg.QbB (by decide) QMs 0 1000 g (v.raws.map R.av) m hl (ezR v.raws) (by rw[QZ5];omega)
  simp only[VJ,QZ5]at csR;have csl:=v29 v.slots (by omega) s2;have hTp:(Jh v.slots).Perm v.slots:=XC _;have hTl:(Jh v.slots).length=v.slots.length:=hTp.length_eq;have hTm:∀s∈Jh v.slots,s∈v.slots:=fun s h=>hTp.mem_iff.1 h
  have hfin:=Vq (Zc (Qp S) n) (Qp S) hd s2;have hrl:(WU v.raws).length=v.raws.length:=(XC v.raws).length_eq;generalize Jh v.slots=T at *;have co:=fun k=>s36 m (hlm.fs m hm) k
  show Qi _ _ _ (V.mk 10 0 [] [] [] ((QO S m).ops.flatMap (Ke (Zc (Qp S) n) (Qp S) v.slots)) (WU v.raws)).av;rw[←hfin,QE v];generalize hK:(fun i=>(T.take i).flatMap (Zb (Zc (Qp S) n) (Qp S) (QO S m)))=K;have hK0:K 0=[]:=by rw[←hK];simp
  have hKn:T.flatMap (Zb (Zc (Qp S) n) (Qp S) (QO S m))=K T.length:=by rw[←hK];simp
  have hKl:∀i,i≤T.length→(K i).length≤i:=by
   intro i hi;rw[←hK];show((T.take i).flatMap _).length≤i;have:∀l:List (Int×V),(l.flatMap (Zb (Zc (Qp S) n) (Qp S) (QO S m))).length≤l.length:=by
    intro l
    induction l with
    |nil=>exact QYK _
    |cons s l ih=>
     have:(Zb (Zc (Qp S) n) (Qp S) (QO S m) s).length≤1:=by
      unfold Zb;split
      ·simp
      ·unfold KG;split<;>simp
     rw[Q0b,QZn,QYZ];omega
   exact QYL (this _) (by rw[QZC];omega)
  rw[hKn,show(V.mk 10 0 [] [] [] (K T.length) (WU v.raws)).av=.agg [.int .i64 10,.int .u64 0,.str [],.list [],.list [],.list ((K T.length).map V.sav),.list ((WU v.raws).map R.av)]from QE _];simp only[SC.av]at cd
  let SV:List AV:=[.list (S.msgs.map fun n=>.agg n.cells),.list (S.enums.map fun n=>.agg n.cells),.list (S.servs.map fun n=>.agg n.cells)]
  let MV:List AV:=[.str m.name,.list (m.fields.map fun n=>.agg n.cells),.list (m.free.map fun n=>.agg n.cells),.list (m.gone.map AV.str),.list (m.notes.map fun n=>.agg n.cells)]
  let Z:List AV:=[.int .i64 0,.int .u64 0,.str [],.nils,.nils,.nils,.nils]
  refine k14.fn (by simp) ?_;simp only[SC.av,eE,seval];refine aC cd ?_;simp only[eE,seval];refine Qb (clR _ rfl) (by simp only[QZh,QZG,Qa,seval]) ?_;simp only[QZ5,eE,seval];refine Xf (by simp only[Qa,seval]<;>rfl) rfl (by simp only[Qa,seval]<;>rfl) rfl ?_;simp only[List.set,eE,seval];refine aC csl ?_;simp only[QZ5,Qa,seval];refine Zl (X:=Nat×Nat) (fun x=>[(3,.ptr 0 3 0),(6,.ptr 0 6 0),(7,.ptr 0 7 0),(9,.ptr 0 9 0),(28,.list (T.map V.sav)),(29,.int .i64 (T.length:Nat)),(30,.int .i64 (x.1:Nat))]) (fun x=>[(3,.cells SV),(6,.cells Z),(7,.cells MV),(9,.cells [.int .i64 10,.int .u64 0,.str [],.nils,.nils,.vec 0 1100 x.2 0 (K x.1).length false,.vec 0 1000 1 0 v.raws.length false]),(1100,.vec x.2 8 ((K x.1).map V.sav)),(1000,.vec 1 4 (v.raws.map R.av))]) [14,12,11] (fun x=>T.length-x.1) (fun x=>x.1≤T.length) (fun _=>[]) (0,1) (QYT _) ?_ (ho:=by simp only[Ag,hK0,QZG,QZR];rfl);rintro⟨i,gs⟩ f0 fr hi;dsimp only at hi;simp only[SV,MV,Z,Ji,QZh,QZG,QY5,QY6,Qa,seval];rcases JE T i with⟨x,hx,hlt⟩|hlt
  case inl=>
   have hxm:=hTm x (QYY hx);have hgs:=WY hx;have e1:=Ql i _ hlt (by simp only[maxLen];omega);obtain⟨o,ho,hfo⟩:=s1 x hxm;rw[YI]at ho;obtain⟨f,hf,hof⟩:=QYP.1 ho;subst hof;have hfmem:=Q0B hf;have hfn:f.num=x.1:=by simpa using Q0C hf
   have FO:FOf S m f:=⟨hsk,hlm,hm,hfmem⟩;have c1:=co x.1;rw[hf,QZQ,QM,Xe m,QL,Qz f]at c1;have c2:=hnf f hfmem x.2 (hv.slots x hxm) (QYL (Gg hxm) hc) (QbD (fun _ _ h=>h) hfo);rw[Qgc (nm:=Zc (Qp S) n) FO hfo]at c2;have hKs:K (i+1)=K i++(if (decide (f.card<3) || !(Jp (Zc (Qp S) n) (Qp S) (QX S (unl [] m.fields) f) x.2).emp)=true then [(x.1,Jp (Zc (Qp S) n) (Qp S) (QX S (unl [] m.fields) f) x.2)]else []):=by
    rw[←hK];show(T.take (i+1)).flatMap _=(T.take i).flatMap _++_;rw[Q0j,hx,List.flatMap_append];have:Zb (Zc (Qp S) n) (Qp S) (QO S m) x=(if (decide (f.card<3) || !(Jp (Zc (Qp S) n) (Qp S) (QX S (unl [] m.fields) f) x.2).emp)=true then [(x.1,Jp (Zc (Qp S) n) (Qp S) (QX S (unl [] m.fields) f) x.2)]else []):=by
     unfold Zb;rw[YI,hf,QZa];show(if _ then [(f.num,_)]else [])=_;rw[hfn];rfl
    simp[this]
   have hKi:=hKl i (by omega);generalize Jp (Zc (Qp S) n) (Qp S) (QX S (unl [] m.fields) f) x.2=z at c2 hKs;generalize (decide (f.card<3) || !z.emp)=bb at c2 hKs;rw[QE x.2,QE z,QL,Qz f]at c2;simp only[SC.av]at c2;simp only[Qw hlt,Qj,QZ8,Qd,hgs,eE,seval];refine aC c1 ?_;simp only[Q0v,eE,seval];refine aC c2 ?_;cases bb
   ·rw[QYR (by simp),QZI]at hKs;simp only[e1,eE,seval];exact Ix.go (i+1,gs) (by dsimp only;omega) (by dsimp only;omega) (ho:=by simp only[Ag,hKs];rfl)
   ·rw[QYS rfl]at hKs;simp only[eE,seval];refine Xn (l:=[V.sav (x.1,z)]) rfl rfl rfl (by rw[Jw];rfl) ?_;refine QJ (site:=1100) (g:=gs) (n:=(K i).length) (xs:=(K i).map V.sav) (ys:=[V.sav (x.1,z)]) rfl rfl rfl (by rw[QZ5]) rfl (Ud [(x.1,z)]) (by simp only[QYZ,QZR,maxLen];omega) (by simp only[QYZ,QZR];omega) ?_;simp only[e1,eE,seval];exact Ix.go (i+1,gs+1) (by dsimp only;omega) (by dsimp only;omega) (ho:=by simp only[Ag,hKs,Q0i,QZh,QZG,QZn,QYZ,QZR];rfl)
  have e:i=T.length:=by omega
  subst e;simp only[Qy hlt,eE,seval];refine Qb (csR _ _ (by simp only[eE,seval]<;>rfl)) (by simp only[QZh,QZG,Qa,seval]) ?_;simp only[eE,seval];simp[AV.un,AV.unL,Jz,Zs,QZj,hrl]
end

theorem AJ {sz:Nat}(h0:sz≠0){xs:List AV}(h:xs.all (fun e=>e.cells.length==sz)=true)(hf:QP xs=[]):xs=[]:=by
 cases xs with
 |nil=>rfl
 |cons x xs=>
  have hl:x.cells.length=sz:=by simpa using QYX.1 h x (by simp)
  have:x.cells=[]:=(Q0R.1 hf).1;rw[this]at hl;exact absurd hl.symm h0

theorem QUm (xs:List AV)(fr:Nat→Ob)(m:Qk)(h:xs.all (fun e=>e.cells.length==16)=true)(hn:xs.length≤1000000)(hr:QI (fr 1000)=true) :
  Qf Tryz.prog 166 [.list xs] (fr :: m) (fun x m1=>x=.vec 0 1000 (Je (fr 1000)) 0 xs.length false∧m1=Qt fr 1000 (.vec (Je (fr 1000)) 16 xs) :: m):=by
 have hng:QK (fr :: m) 0 1000=Je (fr 1000):=K6;refine QQt.go (by simp) ?_;simp only[QzQ,Qa,seval];refine JY (ys:=xs) (by simp only[Qa,seval]) ?_ ?_
 ·simp only[Qa,seval];refine Kk rfl ?_;simp only[Qa,seval];refine QJ (site:=5) (g:=1) (xs:=[]) (ys:=xs) rfl rfl rfl rfl rfl h (by simp[maxLen];omega) (by simp;omega) ?_;simp only[Qa,seval];refine ZS (l:=0) (site:=5) (g:=2) (o:=0) (n:=xs.length) (q:=false) (sz:=16) (xs:=xs) (by simp only[QY9,Qa,seval]) (by simp only[Qa,seval]) (by simp) (by decide) hr ?_;simp only[hng,EO,eE,seval]
  try simp[AV.still,AV.un,Jz,Zs]
 ·intro he;have hx:xs=[]:=by
   rcases he with he|he
   ·exact he
   ·exact AJ (by decide) h he
  subst hx;simp only[Qa,seval];refine ZZ (by simp only[Qa,seval]) rfl ?_;simp only[Qa,seval];refine ZS (l:=0) (site:=2) (g:=1) (o:=0) (n:=0) (q:=false) (sz:=16) (xs:=[]) (by simp only[Qa,seval]) (by simp only[Qa,seval]) (by simp) (by decide) hr ?_;simp only[hng,EO,eE,seval]
  try simp[AV.still,AV.un,Jz,Zs]

theorem fz (o:SF):Ez (fun _=>True) 16 (QL o):=⟨trivial,o.cells,rfl,by rw[Qz];rfl,by rw[Qz];rfl,by rw[Qz];rfl,fun m=>by rw[Qz];rfl⟩
theorem F5 {α:Type}(p:α→Bool):∀(l:List α) (i:Nat),(QS p l i = -1∧∀x∈l,p x=false)∨∃k o,QS p l i=((i+k:Nat):Int)∧l[k]? = some o∧p o=true∧∀x∈l.take k,p x=false
 | [],_=>.inl ⟨rfl,by simp⟩
 |x :: l,i=>by
  unfold QS;cases h:p x with
  |true=>exact .inr ⟨0,x,by simp,rfl,h,by simp⟩
  |false=>
   simp only[QY3,if_false];rcases F5 p l (i+1)with⟨h1,h2⟩|⟨k,o,h1,h2,h3,h4⟩
   ·exact .inl ⟨h1,by simpa [h]using h2⟩
   ·exact .inr ⟨k+1,o,by rw[h1];congr 1;omega,by simpa using h2,h3,by simpa [h]using h4⟩

theorem Mq (s:List UInt8):∀n,(AV.str s).shN n=.str s
 |0=>rfl
 |n+1=>by rw[AV.shN,Mq s n];rfl

theorem QDY (o:SF)(lv:Nat)(m:Qk)(u:List UInt8)(hf:Am.Qh m lv 3=.cells [.str u]):Qf Tryz.prog 167 [QL o,.ptr lv 3 0] m fun y m1=>y=.bool (o.union != u)∧m1=m:=by
 have hf':∀fr,Q5 (fr :: m) none (.ptr (lv+1) 3 0)=some (.str u):=fun fr=>by simp[Q5,Am.Qh,hf,Mq]
 refine QQs.go (by simp) ?_;simp only[hf',QL,Qz,Qs,eE,seval];rfl

theorem QUn (g:Nat)(L:List SF)(hl:L.length≤maxLen)(p:SF→Bool)(c:Nat)(fD F:Nat→Ob)(hF:F 1000=.vec g 16 (L.map QL))(hc:∀o∈L,∀fr,Qf Tryz.prog c [QL o,.ptr 2 3 0] [fr,fD,F] fun y m1=>y=.bool (p o)∧m1=[fr,fD,F]) :
  Qf Tryz.prog 221 [.vec 1 1000 g 0 L.length false,.fn (.func c) [] [.ptr 1 3 0]] [fD,F] fun y m1=>y=.int .i64 (QS p L 0)∧m1=[fD,F]:=by
 refine EM.go (by simp) ?_;simp only[hF,eE,seval];refine Zl (X:=Nat) (fun k=>[(0,.vec 2 1000 g 0 L.length false),(1,.fn (.func c) [] [.ptr 2 3 0]),(7,.int .i64 (L.length:Nat)),(8,.int .i64 (k:Nat))]) (fun _=>[]) [] (fun k=>L.length-k) (fun k=>k≤L.length∧QS p L 0=QS p (L.drop k) k) (fun _=>[fD,F]) 0 ⟨QYT _,rfl⟩ ?_;rintro k f fr ⟨hk,hz⟩;simp only[Ji,QZG,Qa,seval];rcases JE L k with⟨x,hx,hlt⟩|hlt
 case inr=>
  rw[QZm (by omega)]at hz;simp only[Qy hlt,hz,QS,Qa,seval]
 have hg:(L.map QL)[k]? = some (.agg x.cells):=by rw[QZ3,hx];rfl
 have e1:=Ql k _ hlt hl;have hcl:=hc x (QYY hx);simp only[QL,Qz]at hcl;rw[Qz]at hg;rw[XD p hx]at hz;simp only[Qw hlt,Qj,QZ8,Qd,Q5,Am.Qh,hF,hlt,hg,QZJ,QY9,eE,seval];refine Xa (fa:=[]) (fb:=[.ptr 2 3 0]) rfl (hcl _) (by simp only[QZh,QZG,QY6,QY5,Qa,seval]) ?_;cases hp:p x
 ·rw[hp]at hz;simp only[e1,Qa,seval];exact Ix.go (k+1) (by omega) ⟨by omega,by simpa using hz⟩
 ·rw[hp]at hz;simp only[if_true]at hz;simp only[hz,Qa,seval]

def zF:List AV:=[.int .i64 0,.str [],.int .i64 0,.int .i64 0,.int .i64 0,.str [],.str [],.bool false,.int .i64 0,.int .u64 0,.str [],.nils,.nils,.nils,.nils,.nils]
def DH (u:List UInt8)(L:List SF):List AV:=(L.filter fun o=>o.union==u).map QL++List.replicate (L.length-(L.filter fun o=>o.union==u).length) (X6 16 zF)

theorem Mr {α:Type}{q:α→Bool}{l:List α}(h:∀x∈l,q x=true):l.filter q=l:=List.filter_eq_self.2 h

set_option maxHeartbeats 1000000 in
theorem QUo (g:Nat)(L:List SF)(hl:L.length≤maxLen)(u:List UInt8)(F:Nat→Ob)(hF:F 1000=.vec g 16 (L.map QL))(h3:F 3=.cells [.str u]) :
  Qf Tryz.prog 165 [.vec 0 1000 g 0 L.length false,.fn (.func 167) [] [.ptr 0 3 0]] [F] fun y m1=>y=.vec 0 1000 g 0 (L.filter fun o=>o.union==u).length false∧m1=[Qt F 1000 (.vec g 16 (DH u L))]:=by
 have h10:((1:Nat) != 0)=true:=rfl;have hb:((-1:Int) == -1)=true:=rfl;have hne:∀o:SF,(o.union != u)=!(o.union==u):=fun _=>rfl
 refine QQp.go (by simp) ?_;simp only[Qa,seval];refine Qb (QUn g L hl (fun o=>o.union != u) 167 _ F hF fun o _ fr=>QDY o 2 _ u h3) (by simp only[QZh,QZG,Qa,seval]<;>rfl) ?_;rcases F5 (fun o:SF=>o.union != u) L 0 with⟨h1,h2⟩|⟨k,o,h1,h2,hp,hpre⟩
 ·have hf:(L.filter fun o=>o.union==u)=L:=Mr fun x hx=>by have:=h2 x hx;simpa using this
  have hd:DH u L=L.map QL:=by simp[DH,hf]
  rw[hd,hf,Gb hF];simp only[h1,hb,h10,QZP,AV.un,Qa,seval]
 have hkl:=(QYM.1 h2).1;have d:(((0+k:Nat):Int) == -1)=false:=by rw[Q0F];omega
 have hfk:(L.take k).filter (fun o=>o.union==u)=L.take k:=Mr fun x hx=>by have:=hpre x hx;simpa using this
 rw[QY9]at h1 d;have e1:=Ql k _ hkl hl;simp only[h1,d,e1,Qa,seval];refine Zl (X:=Nat×Nat×List SF) (fun s=>[(0,.vec 1 1000 g 0 L.length false),(1,.fn (.func 167) [] [.ptr 1 3 0]),(5,.int .i64 (s.1:Nat)),(6,.int .i64 (s.2.1:Nat))]) (fun _=>[]) [7] (fun s=>L.length-s.2.1) (fun s=>s.2.2.length=L.length∧s.1<s.2.1∧s.2.1≤L.length∧s.2.2.take s.1=(L.take s.2.1).filter (fun o=>o.union==u)∧s.2.2.drop s.2.1=L.drop s.2.1) (fun s=>[Qt F 1000 (.vec g 16 (s.2.2.map QL))]) (k,k+1,L) ⟨rfl,Nat.lt_succ_self _,hkl,?_,rfl⟩ ?_ (hm:=by rw[Gb hF])
 ·rw[Q0j,h2,List.filter_append,hfk];have:(o.union==u)=false:=by simpa using hp
  simp[this]
 rintro⟨i,j,R⟩ f fr ⟨hR,hij,hj,ht,hd⟩;dsimp only at hR hij hj ht hd;simp only[Ji,QZh,QZG,QY6,eE,seval];rcases JE L j with⟨x,hx,hlt⟩|hlt
 case inr=>
  have hjn:j=L.length:=by omega
  rw[hjn,Q0h]at ht;have hi:(L.filter fun o=>o.union==u).length=i:=by rw[←ht,QZC];omega
  have hdl:(R.map QL).take i++List.replicate (L.length-i) (X6 16 zF)++(R.map QL).drop (i+(L.length-i))=DH u L:=by
   rw[DH,hi,←QZq,ht,QZm (by rw[QZ5];omega),QZI]
  have hle:i≤L.length:=by omega
  simp only[Qy hlt,Jx,Zm,Xg,Qj,QZ8,Am.Qh,Q0g,QZy,Q0H,hle,QYK,QZJ,QY9,Qa,seval];refine Em (z:=zF) (r:=_) rfl rfl (by rw[QZ5];omega) (by omega) ?_;rw[hdl,hi];simp only[Qn,Jx,Zm,Xg,Qj,QZ8,Am.Qh,Am.put,Q0g,QZy,Q0H,hle,QYK,QYT,QZJ,QY9,QZg,QZY,h10,QZP,AV.un,Qa,seval]
 have hRj:R[j]? = some x:=by
  have:=congrArg (fun l=>l[0]?) hd
  simpa [QZp,hx]using this
 have hg:(R.map QL)[j]? = some (.agg x.cells):=by rw[QZ3,hRj];rfl
 rw[Qz]at hg;have hltR:j<R.length:=by omega
 obtain⟨y,hy⟩:∃y,R[i]? = some y:=⟨R[i],QYN (by omega)⟩;have hgy:(R.map QL)[i]? = some (.agg y.cells):=by rw[QZ3,hy];rfl
 rw[Qz]at hgy;have hlti:i<L.length:=by omega
 have e2:=Ql j _ hlt hl;have e3:=Ql i _ hlti hl;have hset:(R.map QL).set i (QL x)=(R.set i x).map QL:=(List.map_set).symm;rw[QL,Qz]at hset;have hcl:=QDY x 1;simp only[QL,Qz]at hcl;have htk:(L.take (j+1)).filter (fun o=>o.union==u)=R.take i++[x].filter (fun o=>o.union==u):=by rw[Q0j,hx,List.filter_append,←ht];rfl
 simp only[Qw hlt,Qj,QZ8,Qd,Q5,Am.Qh,hlt,hg,QZJ,QY9,eE,seval];refine Xa (fa:=[]) (fb:=[.ptr 1 3 0]) rfl (hcl _ u (by simp only[Am.Qh,Q2 _ _ (show(3:Nat)≠1000 by decide),h3])) (by simp only[QZh,QZG,QY6,QY5,Qa,seval]) ?_;rw[hne];cases hp:(x.union==u)
 ·simp only[e2,Q0q,QZN,cond_true,cond_false,Qa,seval];exact Ix.go (i,j+1,R) (by dsimp only;omega) ⟨hR,by dsimp only;omega,by dsimp only;omega,by dsimp only;rw[htk];simp[hp],by dsimp only;rw[←QZe,hd,QZe]⟩
 ·simp only[AV.rfL,AV.rf,Bool.and_self,Qj,QZ8,Qd,Q5,Q8,Jt,Am.Qh,hlti,hgy,e2,e3,hset,QZJ,QY9,Q0q,QZN,cond_true,cond_false,eE,seval];exact Ix.go (i+1,j+1,R.set i x) (by dsimp only;omega) ⟨by simpa using hR,by dsimp only;omega,by dsimp only;omega,by dsimp only;rw[htk,Q0j,List.getElem?_set_self (by omega),List.take_set_of_le (QYK _)];simp[hp],by dsimp only;rw[List.drop_set_of_lt (by omega),←QZe,hd,QZe]⟩

set_option maxHeartbeats 1000000 in
theorem QUp (m:SM)(hl:m.fields.length≤1000000)(u:List UInt8):Qi Tryz.prog 110 [QM m,.str u] (.list ((UR m u).map QL)):=by
 refine QQm.fn (by simp) ?_;simp only[QM,Xe,Qs,eE,seval];unfold UR;cases hu:(u==([]:List UInt8))
 case true=>
  rw[QYS (eq_of_beq hu)];simp only[cond_true,cond_false,Qa,seval]<;>rfl
 rw[QYR (by simpa using hu)];simp only[cond_true,cond_false,eE,seval];refine Qb (QUm (m.fields.map QL) _ _ (by rw[List.all_map];exact QYX.2 fun x _=>by simp[QL,Qz,AV.cells]) (by rw[QZ5];exact hl) rfl) (by simp only[QZh,QZG,Qa,seval]<;>rfl) ?_;simp only[QZ5,Qa,seval];refine Qb (QUo _ m.fields (by simp only[maxLen];omega) u _ rfl rfl) (by simp only[QZh,QZG,Qa,seval]<;>rfl) ?_;have ht:(DH u m.fields).take (m.fields.filter fun o=>o.union==u).length=(m.fields.filter fun o=>o.union==u).map QL:=by
  rw[DH,List.take_append_of_le_length (by rw[QZ5];exact QYK _),QZj (by rw[QZ5];exact QYK _)]
 have hle:(m.fields.filter fun o=>o.union==u).length≤(DH u m.fields).length:=by simp[DH]
 simp only[ht,hle,QZs,QY9,QZJ,QZP,AV.un,eE,seval]

def Ms (S:SC)(x:SF)(u:Int):List AV:=[.int .i64 x.num,.str x.name,.str (((Xx x.notes).map V.text).getD []),.int .i64 x.card,.int .i64 x.key,.int .i64 x.kind,.int .i64 (Zp S x),.int .i64 u]
theorem AK (S:SC)(us:List (List UInt8))(x:SF):(QX S us x).cells=Ms S x (ZB us x):=rfl

section
variable {M:Nat}(hM:M≤1048576)(S:SC)(hS:S.ok M)(m:SM)(hm:m.ok M)

def PgI (k:Nat)(st:St):Prop :=
 ∃f fr i g h,st=⟨f,[fr],[]⟩∧k=m.fields.length-i∧i≤m.fields.length∧f 2=.ptr 0 2 0∧f 4=.ptr 0 4 0∧f 5=.ptr 0 5 0∧f 6=.vec 0 6 g 0 (un m.fields i).length false∧f 14=.list (m.fields.map fun n=>.agg n.cells)∧f 15=.int .i64 (m.fields.length:Nat)∧f 16=.int .i64 (i:Nat)∧
  fr 2=.cells [.list (S.msgs.map fun n=>.agg n.cells),.list (S.enums.map fun n=>.agg n.cells),.list (S.servs.map fun n=>.agg n.cells)]∧fr 4=.cells [.str [],.nils,.int .i64 0]∧fr 5=.cells [.str m.name,.vec 0 1100 h 0 i false,.int .i64 0]∧fr 6=.vec g 1 ((un m.fields i).map Qo)∧
  fr 1100=.vec h 8 ((m.fields.take i).map fun x=>.agg (QX S (unl [] m.fields) x).cells)∧∀s∈[9,8],(fr s).isRow=false

include hM hm in
theorem AL (Q:Exit→St→Prop)(i:Nat)(x:SF)(hx:m.fields[i]? = some x)(f:Fr)(fr:Nat→Ob)(g h:Nat)(h2:f 2=.ptr 0 2 0)(h4:f 4=.ptr 0 4 0)(h5:f 5=.ptr 0 5 0)(h6:f 6=.vec 0 6 g 0 (un m.fields (i+1)).length false)(h9:f 9=.ptr 0 9 0)(h14:f 14=.list (m.fields.map fun n=>.agg n.cells))(h15:f 15=.int .i64 (m.fields.length:Nat))(h16:f 16=.int .i64 (i:Nat))
  (o2:fr 2=.cells [.list (S.msgs.map fun n=>.agg n.cells),.list (S.enums.map fun n=>.agg n.cells),.list (S.servs.map fun n=>.agg n.cells)]) (o4:fr 4=.cells [.str [],.nils,.int .i64 0]) (o5:fr 5=.cells [.str m.name,.vec 0 1100 h 0 i false,.int .i64 0]) (o6:fr 6=.vec g 1 ((un m.fields (i+1)).map Qo))
  (oR:fr 1100=.vec h 8 ((m.fields.take i).map fun x=>.agg (QX S (unl [] m.fields) x).cells)) (o9:fr 9=.cells (Ms S x (ZB (unl [] m.fields) x))) (r8:(fr 8).isRow=false) :
  Qq Tryz.prog GV ⟨f,[fr],[]⟩ (Kb 1 (Kc Tryz.prog (.reg GW) (Kl (PgI S m) (m.fields.length-i) Q)) Exit.normal):=by
 have hlt:i<m.fields.length:=(QYM.1 hx).1;have hl1:=hm.len1;have e1:=Ql i _ hlt (by simp only[maxLen];omega);have ht:(m.fields.take i).length=i:=by rw[QZC];omega
 simp only[Ms]at o9;simp only[GV,GW,h5,h9,o5,o9,eE,seval];refine Zu rfl rfl (by decide) rfl rfl ?_;simp only[nn0,QZh,QZG,seval];refine QJ (xs:=(m.fields.take i).map fun x=>.agg (QX S (unl [] m.fields) x).cells) rfl oR rfl (by rw[QZ5,ht]) rfl rfl (by simp only[QYZ,QZR,maxLen];omega) (by simp only[QYZ,QZR];omega) ?_;simp only[h5,h16,o5,e1,eE,seval];refine⟨m.fields.length-(i+1),by omega,_,_,i+1,g,h+1,rfl,rfl,by omega,h2,h4,h5,h6,h14,h15,rfl,o2,o4,rfl,o6,?_,?_⟩
 ·rw[Q0j,hx,Q0k,Q0i];simp only[QZh,QZG,AK,Ms,Qa,seval]
 ·intro s hs;simp only[QZ0,Q0Q,or_false]at hs;rcases hs with rfl|rfl
  ·simp only[o9,Qa,seval]<;>rfl
  ·exact r8

include hM hm in
theorem AM (Q:Exit→St→Prop)(i:Nat)(x:SF)(hx:m.fields[i]? = some x)(hu:x.union≠[])(hc:(un m.fields (i+1)).contains x.union=true)(f:Fr)(fr:Nat→Ob)(g h:Nat)(h2:f 2=.ptr 0 2 0)(h4:f 4=.ptr 0 4 0)(h5:f 5=.ptr 0 5 0)(h6:f 6=.vec 0 6 g 0 (un m.fields (i+1)).length false)(h8:f 8=.ptr 0 8 0)(h9:f 9=.ptr 0 9 0)(h14:f 14=.list (m.fields.map fun n=>.agg n.cells))(h15:f 15=.int .i64 (m.fields.length:Nat))(h16:f 16=.int .i64 (i:Nat))
  (o2:fr 2=.cells [.list (S.msgs.map fun n=>.agg n.cells),.list (S.enums.map fun n=>.agg n.cells),.list (S.servs.map fun n=>.agg n.cells)]) (o4:fr 4=.cells [.str [],.nils,.int .i64 0]) (o5:fr 5=.cells [.str m.name,.vec 0 1100 h 0 i false,.int .i64 0]) (o6:fr 6=.vec g 1 ((un m.fields (i+1)).map Qo))
  (oR:fr 1100=.vec h 8 ((m.fields.take i).map fun x=>.agg (QX S (unl [] m.fields) x).cells)) (o9:fr 9=.cells (Ms S x (-1))) (o8:fr 8=.cells x.cells) :
  Qq Tryz.prog Nd ⟨f,[fr],[]⟩ (Kc Tryz.prog (.reg GV) (Kb 1 (Kc Tryz.prog (.reg GW) (Kl (PgI S m) (m.fields.length-i) Q))) Exit.normal):=by
 have hlt:i<m.fields.length:=(QYM.1 hx).1;have hl1:=hm.len1;have hul:=Dj m.fields (i+1);have eu:ZB (unl [] m.fields) x=Zk (un m.fields (i+1)) x.union:=by
  rw[ZB,QYR hu];exact QDF hc
 rw[Qz]at o8;simp only[Ms]at o9;simp only[Nd,h6,h8,o8,eE,seval];refine Xu (s51 (un m.fields (i+1)) (by simp only[maxLen];omega) x.union) ?_ rfl rfl (.inr rfl) ?_
 ·have ht:List.take (un m.fields (i+1)).length ((un m.fields (i+1)).map Qo)=(un m.fields (i+1)).map Qo:=QZj (by simp);simp only[QZh,QZG,AV.stillL,AV.still,Am.Qh,o6,QZ5,ht,QZs,QY9,QYK,QZJ,Q0c,QY3,Qa,seval]<;>rfl
 simp only[h9,o9,eE,seval];exact AL hM S m hm _ i x hx _ _ g h h2 h4 h5 h6 h9 h14 h15 h16 o2 o4 o5 o6 oR (by rw[eu];rfl) (by simp only[o8,Qa,seval]<;>rfl)

include hM hm hS in
theorem s18:Qi Tryz.prog 18 [S.av,QM m] (.agg (QO S m).cells):=by
 obtain⟨l1,l2,_⟩:=Jr S hS hM;have hl1:=hm.len1;refine k18.fn (by simp) ?_;simp only[r18,o18,Lg,Lh,SC.av,QM,Xe m,eE,seval];refine Xf rfl rfl rfl rfl ?_;simp only[Li,Qa,seval];refine ZZ rfl rfl ?_;simp only[Lj,QZ5,eE,seval];refine Qe (PgI S m) _ ⟨_,_,0,1,1,rfl,rfl,QYT _,rfl,rfl,rfl,rfl,rfl,rfl,rfl,rfl,rfl,rfl,rfl,rfl,by intro s hs;simp only[QZ0,Q0Q,or_false]at hs;rcases hs with rfl|rfl<;>rfl⟩ ?_;rintro _ st ⟨f0,fr0,i,g,h,rfl,rfl,hi,h20,h40,h50,h60,h140,h150,h160,KB,Wl,RY,LO,oR0,r8⟩;refine QH (a:=_) [9,8] r8 ?_;intro f fr hf hmm hn;have h2:f 2=.ptr 0 2 0:=by rw[hf,h20]<;>rfl
 have h4:f 4=.ptr 0 4 0:=by rw[hf,h40]<;>rfl
 have h5:f 5=.ptr 0 5 0:=by rw[hf,h50]<;>rfl
 have h6:f 6=.vec 0 6 g 0 (un m.fields i).length false:=by rw[hf,h60]<;>rfl
 have h14:f 14=.list (m.fields.map fun n=>.agg n.cells):=by rw[hf,h140]<;>rfl
 have h15:f 15=.int .i64 (m.fields.length:Nat):=by rw[hf,h150]<;>rfl
 have h16:f 16=.int .i64 (i:Nat):=by rw[hf,h160]<;>rfl
 have o2:fr 2=.cells [.list (S.msgs.map fun n=>.agg n.cells),.list (S.enums.map fun n=>.agg n.cells),.list (S.servs.map fun n=>.agg n.cells)]:=by rw[hmm 2 (by decide),KB]<;>rfl
 have o4:fr 4=.cells [.str [],.nils,.int .i64 0]:=by rw[hmm 4 (by decide),Wl]<;>rfl
 have o5:fr 5=.cells [.str m.name,.vec 0 1100 h 0 i false,.int .i64 0]:=by rw[hmm 5 (by decide),RY]<;>rfl
 have o6:fr 6=.vec g 1 ((un m.fields i).map Qo):=by rw[hmm 6 (by decide),LO]<;>rfl
 have oR:fr 1100=.vec h 8 ((m.fields.take i).map fun x=>.agg (QX S (unl [] m.fields) x).cells):=by rw[hmm 1100 (by decide),oR0]<;>rfl
 have n8:=hn 8 (by decide);have n9:=hn 9 (by decide);clear hf hmm hn h20 h40 h50 h60 h140 h150 h160 KB Wl RY LO oR0 r8;simp only[Lk,h15,h16,Qa,seval];by_cases hlt:i<m.fields.length
 case neg=>
  have e:i=m.fields.length:=by omega
  subst e;have eG:(QO S m).cells=[.str m.name,.list (m.fields.map fun x=>.agg (QX S (unl [] m.fields) x).cells),.int .i64 ((un m.fields m.fields.length).length:Nat)]:=by
   rw[As];unfold PG.cells QO;simp only[Q0n];rfl
  have ht:List.take m.fields.length (m.fields.map fun x=>AV.agg (QX S (unl [] m.fields) x).cells)=m.fields.map fun x=>AV.agg (QX S (unl [] m.fields) x).cells:=QZj (by simp)
  rw[Q0h]at oR;simp only[Qy hlt,RV,RX,h4,h5,h6,o4,o5,o6,oR,eG,ht,QZ5,QZs,QY9,QYK,QZJ,QZP,AV.un,AV.unL,eE,seval]
 obtain⟨x,hx⟩:∃x,m.fields[i]? = some x:=⟨m.fields[i],QYN hlt⟩;have hg:(m.fields.map fun n=>AV.agg n.cells)[i]? = some (.agg x.cells):=by rw[QZ3,hx];rfl
 rw[Qz]at hg;have hxo:=hm.fields x (QYY hx);have hln:=hxo.len;have hal:=s48 x.notes (by simp only[maxLen];omega);have htr:=s49 S l1 l2 x;simp only[SC.av]at htr;have hus:=Ml hx;have hul:=Dj m.fields i;simp only[Qw hlt,n8,Ll,Lm,Qj,QZ8,Qd,hg,h14,h16,eE,seval];refine aC hal ?_;simp only[h2,o2,eE,seval];refine aC htr ?_;simp only[n9,Ln,eE,seval];by_cases hu:x.union=[]
 ·have d:(x.union==[])=true:=by simp[hu]
  rw[QYS (.inl hu)]at hus;have eu:ZB (unl [] m.fields) x = -1:=QYS hu;simp only[d,Qs,Q0q,Qa,seval];exact AL hM S m hm _ i x hx _ _ g h h2 h4 h5 (by rw[hus];exact h6) rfl h14 h15 h16 o2 o4 o5 (by rw[hus];exact o6) oR (by rw[eu];rfl) rfl
 have d:(x.union==[])=false:=by simp[hu]
 have eu:ZB (unl [] m.fields) x=Zk (unl [] m.fields) x.union:=QYR hu;simp only[d,Qs,Lo,h6,QZN,eE,seval];refine Xu (s50 (un m.fields i) (by simp only[maxLen];omega) x.union) ?_ rfl rfl (.inr rfl) ?_
 ·have ht:List.take (un m.fields i).length ((un m.fields i).map Qo)=(un m.fields i).map Qo:=QZj (by simp);simp only[QZh,QZG,AV.stillL,AV.still,Am.Qh,o6,QZ5,ht,QZs,QY9,QYK,QZJ,Q0c,QY3,Qa,seval]<;>rfl
 cases hc:(un m.fields i).contains x.union
 ·rw[QYR (by simp only[hu,hc,QY3,or_self,not_false_eq_true])]at hus;have hcc:(un m.fields (i+1)).contains x.union=true:=by
   rw[hus];exact Q0N.2 (List.mem_append_right _ (Q0K.2 rfl))
  simp only[Lp,h6,QZN,eE,seval];refine Ja (w:=x.union) rfl ?_;refine QJ (xs:=(un m.fields i).map Qo) rfl o6 rfl (by simp) rfl rfl (by simp only[QYZ,QZR,maxLen];omega) (by simp only[QYZ,QZR];omega) ?_;simp only[Qa,seval];exact AM hM S m hm _ i x hx hu hcc _ _ (g+1) h h2 h4 h5 (by rw[hus,QZn];exact rfl) rfl rfl h14 h15 h16 o2 o4 o5 (by rw[hus,Q0i];exact rfl) oR rfl (by rw[Qz];rfl)
 ·rw[QYS (.inr hc)]at hus;simp only[Q0q,Qa,seval];exact AM hM S m hm _ i x hx hu (by rw[hus];exact hc) _ _ g h h2 h4 h5 (by rw[hus];exact h6) rfl rfl h14 h15 h16 o2 o4 o5 (by rw[hus];exact o6) oR rfl (by rw[Qz];rfl)
end

theorem IA {x:SI}(h:Xx x.notes=none):(JO x).cells=[.str x.name,.int .i64 x.num,.list []]:=by
 unfold JO PI.cells;rw[h];rfl
theorem IB {x:SI}{v:V}(h:Xx x.notes=some v):(JO x).cells=[.str x.name,.int .i64 x.num,.list [.agg (.str alias :: v.cells)]]:=by
 unfold JO PI.cells;rw[h];simp only[QZh,QZG,PN.cells];rw[V.eta];rfl
section
variable {M:Nat}(hM:M≤1048576)(e:SE)(he:e.ok M)
def EnJ (k:Nat)(st:St):Prop :=
 ∃f fr i h,st=⟨f,[fr],[]⟩∧k=e.items.length-i∧i≤e.items.length∧f 2=.ptr 0 2 0∧f 3=.ptr 0 3 0∧f 18=.list (e.items.map fun n=>.agg n.cells)∧f 19=.int .i64 (e.items.length:Nat)∧f 20=.int .i64 (i:Nat)∧
  fr 2=.cells [.str [],.bool false,.nils,.nils,.nils]∧fr 3=.cells [.str e.name,.bool e.opn,.vec 0 1100 h 0 i false,.list (e.free.map Xd),.nils]∧
  fr 1100=.vec h 3 ((e.items.take i).map fun x=>.agg (JO x).cells)∧∀s∈[7,6,5],(fr s).isRow=false

include hM he in
theorem AN (Q:Exit→St→Prop)(i:Nat)(x:SI)(hx:e.items[i]? = some x)(f:Fr)(fr:Nat→Ob)(h:Nat)(l:List AV)(hl:(JO x).cells=[.str x.name,.int .i64 x.num,.list l])(z:AV)(hz:nn0 z=.list l)(hzr:z.rf=true)(hzl:z.leaf=true)(h2:f 2=.ptr 0 2 0)(h3:f 3=.ptr 0 3 0)(h6:f 6=.ptr 0 6 0)(h18:f 18=.list (e.items.map fun n=>.agg n.cells))(h19:f 19=.int .i64 (e.items.length:Nat))(h20:f 20=.int .i64 (i:Nat))
  (o2:fr 2=.cells [.str [],.bool false,.nils,.nils,.nils]) (o3:fr 3=.cells [.str e.name,.bool e.opn,.vec 0 1100 h 0 i false,.list (e.free.map Xd),.nils]) (oR:fr 1100=.vec h 3 ((e.items.take i).map fun x=>.agg (JO x).cells)) (o6:fr 6=.cells [.str x.name,.int .i64 x.num,z]) (r5:∀s∈[7,5],(fr s).isRow=false) :
  Qq Tryz.prog Pa ⟨f,[fr],[]⟩ (Kb 1 (Kc Tryz.prog (.reg Nc) (Kl (EnJ e) (e.items.length-i) Q)) Exit.normal):=by
 have hlt:i<e.items.length:=(QYM.1 hx).1;have hl1:=he.len1;have e1:=Ql i _ hlt (by simp only[maxLen];omega);have ht:(e.items.take i).length=i:=by rw[QZC];omega
 simp only[Pa,Nc,h3,h6,o3,o6,eE,seval];have hll:[AV.str x.name,.int .i64 x.num,z].all AV.leaf=true:=by
  simp only[QZS,List.all_nil,hzl,QZT];rfl
 have hnn:[AV.str x.name,.int .i64 x.num,z].map nn0=[.str x.name,.int .i64 x.num,.list l]:=by
  simp only[QZh,QZG,hz];rfl
 refine Zu rfl rfl (by decide) (by simp only[AV.rfL,AV.rf,hzr,Bool.and_self]) hll ?_;rw[hnn];refine QJ (xs:=(e.items.take i).map fun x=>.agg (JO x).cells) rfl oR rfl (by rw[QZ5,ht]) rfl rfl (by simp only[QYZ,QZR,maxLen];omega) (by simp only[QYZ,QZR];omega) ?_;simp only[h3,h20,o3,e1,eE,seval];refine⟨e.items.length-(i+1),by omega,_,_,i+1,h+1,rfl,rfl,by omega,h2,h3,h18,h19,rfl,o2,rfl,?_,?_⟩
 ·rw[Q0j,hx,Q0k,Q0i];simp only[QZh,QZG,hl,Qa,seval]
 ·intro s hs;simp only[QZ0,Q0Q,or_false]at hs;rcases hs with rfl|rfl|rfl
  ·exact r5 7 (by decide)
  ·simp only[o6,Qa,seval]<;>rfl
  ·exact r5 5 (by decide)

include hM he in
theorem s19:Qi Tryz.prog 19 [Xl e] (.agg (Jm e).cells):=by
 have hl1:=he.len1;have hl2:=he.len2;have hc:=s52 e.free (by omega);refine k19.fn (by simp) ?_;simp only[r19,o19,I8,I9,Xl,XR e,eE,seval];refine aC hc ?_;simp only[eE,seval];refine Xf rfl rfl rfl rfl ?_;simp only[La,QZ5,eE,seval];refine Qe (EnJ e) _ ⟨_,_,0,1,rfl,rfl,QYT _,rfl,rfl,rfl,rfl,rfl,rfl,rfl,rfl,by intro s hs;simp only[QZ0,Q0Q,or_false]at hs;rcases hs with rfl|rfl|rfl<;>rfl⟩ ?_;rintro _ st ⟨f0,fr0,i,h,rfl,rfl,hi,h20',h30,h180,h190,h200,KB,K8,oR0,r8⟩;refine QH (a:=_) [7,6,5] r8 ?_;intro f fr hf hmm hn;have h2:f 2=.ptr 0 2 0:=by rw[hf,h20']<;>rfl
 have h3:f 3=.ptr 0 3 0:=by rw[hf,h30]<;>rfl
 have h18:f 18=.list (e.items.map fun n=>.agg n.cells):=by rw[hf,h180]<;>rfl
 have h19:f 19=.int .i64 (e.items.length:Nat):=by rw[hf,h190]<;>rfl
 have h20:f 20=.int .i64 (i:Nat):=by rw[hf,h200]<;>rfl
 have o2:fr 2=.cells [.str [],.bool false,.nils,.nils,.nils]:=by rw[hmm 2 (by decide),KB]<;>rfl
 have o3:fr 3=.cells [.str e.name,.bool e.opn,.vec 0 1100 h 0 i false,.list (e.free.map Xd),.nils]:=by rw[hmm 3 (by decide),K8]<;>rfl
 have oR:fr 1100=.vec h 3 ((e.items.take i).map fun x=>.agg (JO x).cells):=by rw[hmm 1100 (by decide),oR0]<;>rfl
 have n5:=hn 5 (by decide);have n6:=hn 6 (by decide);have n7:=hn 7 (by decide);clear hf hmm hn h20' h30 h180 h190 h200 KB K8 oR0 r8;simp only[Lb,h19,h20,Qa,seval];by_cases hlt:i<e.items.length
 case neg=>
  have ei:i=e.items.length:=by omega
  subst ei;have eG:(Jm e).cells=[.str e.name,.bool e.opn,.list (e.items.map fun x=>.agg (JO x).cells),.list (e.free.map Xd),.list []]:=by
   unfold PE.cells Jm;simp only[Q0n];rfl
  have ht:List.take e.items.length (e.items.map fun x=>AV.agg (JO x).cells)=e.items.map fun x=>AV.agg (JO x).cells:=QZj (by simp)
  rw[Q0h]at oR;simp only[Qy hlt,RU,h2,h3,o2,o3,oR,eG,ht,QZ5,QZs,QY9,QYK,QZJ,QZP,AV.un,AV.unL,eE,seval]
 obtain⟨x,hx⟩:∃x,e.items[i]? = some x:=⟨e.items[i],QYN hlt⟩;have hg:(e.items.map fun n=>AV.agg n.cells)[i]? = some (.agg x.cells):=by rw[QZ3,hx];rfl
 rw[JT]at hg;have hxo:=he.items x (QYY hx);have hln:=hxo.len;have hfd:=s53 x.notes (by simp only[maxLen];omega) alias;have eis:(x.notes.find? fun x=>x.name==alias).isSome=(Xx x.notes).isSome:=by unfold Xx;rw[Option.isSome_map]
 rw[Di,eis]at hfd;simp only[Qw hlt,n5,n6,Lc,Ld,Le,Qj,QZ8,Qd,hg,h18,h20,eE,seval];cases hal:Xx x.notes with
 |none=>
  rw[hal]at hfd;simp only[Q0g,QZy,alias]at hfd;rw[V.av,V.eta]at hfd;refine aC hfd ?_;simp only[n7,M9,eE,seval];exact AN hM e he _ i x hx _ _ h [] (IA hal) .nils rfl rfl rfl h2 h3 rfl h18 h19 h20 o2 o3 oR rfl (by intro s hs;simp only[QZ0,Q0Q,or_false]at hs;rcases hs with rfl|rfl<;>rfl)
 |some v=>
  rw[hal]at hfd;simp only[QZQ,Q0v,alias]at hfd;rw[V.av,V.eta]at hfd;have hm:=IB hal;simp only[alias]at hm;rw[V.eta]at hm;refine aC hfd ?_;simp only[n7,M9,Lf,eE,seval];refine Zu rfl rfl (by decide) rfl rfl ?_;simp only[nn0,QZh,QZG,eE,seval];exact AN hM e he _ i x hx _ _ h _ hm _ rfl rfl rfl h2 h3 rfl h18 h19 h20 o2 o3 oR rfl (by intro s hs;simp only[QZ0,Q0Q,or_false]at hs;rcases hs with rfl|rfl<;>rfl)
end

def mkR (S:SC):AV:=if JN S=true then .tup [(Qp S).av,.int .i64 0]else .tup [.agg [.list [],.list []],.int .i64 1]

section
variable {M:Nat}(hM:M≤1048576)(S:SC)(hS:S.ok M)
def Mt (i j:Nat)(f:Fr)(fr:Nat→Ob):Prop:=f 1=.ptr 0 1 0∧f 2=.ptr 0 2 0∧f 4=.ptr 0 4 0∧(∃a b,fr 2=.cells [a,b])∧
  fr 1=.cells [.list (S.msgs.map fun n=>.agg n.cells),.list (S.enums.map fun n=>.agg n.cells),.list (S.servs.map fun n=>.agg n.cells)]∧(∀s∈[6,8],(fr s).isRow=false)∧
  ∃g h,fr 4=.cells [.vec 0 1100 g 0 i false,.vec 0 1101 h 0 j false]∧fr 1100=.vec g 3 ((S.msgs.take i).map fun m=>.agg (QO S m).cells)∧fr 1101=.vec h 5 ((S.enums.take j).map fun e=>.agg (Jm e).cells)

include hM hS in
theorem QUq {i:Nat}(f:Fr)(fr:Nat→Ob)(H:Mt S (i) (0) f fr)(hi0:i=0)(hw:f 14=.list (S.msgs.map fun n=>.agg n.cells))(hz:f 15=.int .i64 (S.msgs.length:Nat))(hk:f 16=.int .i64 0)(Q:Exit→St→Prop)
  (hq:∀f fr,Mt S (S.msgs.length) (0) f fr→Q (.exit 0) ⟨f,[fr],[]⟩):QN Tryz.prog (.loop Qnw) ⟨f,[fr],[]⟩ Q:=by
 let I:Nat→St→Prop:=fun n st=>∃f fr i,st=⟨f,[fr],[]⟩∧n=S.msgs.length-i∧i≤S.msgs.length∧Mt S (i) (0) f fr∧f 14=.list (S.msgs.map fun n=>.agg n.cells)∧f 15=.int .i64 (S.msgs.length:Nat)∧f 16=.int .i64 (i:Nat)
 have hl1:=hS.len1;subst hi0;refine Qe I _ ⟨f,fr,0,rfl,rfl,QYT _,H,hw,hz,hk⟩ ?_;clear H hw hz hk;rintro _ st ⟨f0,fr0,i,rfl,rfl,hi,⟨h10,h20,h40,⟨a,b,KB⟩,X0,r6,g,h,Wl,oR0,oT0⟩,hw0,hz0,hk0⟩;refine QH (a:=_) [6] (by intro s hs;exact r6 s (by simp only[QZ0,Q0Q,or_false]at hs ⊢;omega)) ?_;intro f fr hf hmm hn;have h1:f 1=.ptr 0 1 0:=by rw[hf,h10]<;>rfl
 have h2:f 2=.ptr 0 2 0:=by rw[hf,h20]<;>rfl
 have h4:f 4=.ptr 0 4 0:=by rw[hf,h40]<;>rfl
 have hw:f 14=.list (S.msgs.map fun n=>.agg n.cells):=by rw[hf,hw0]<;>rfl
 have hz:f 15=.int .i64 (S.msgs.length:Nat):=by rw[hf,hz0]<;>rfl
 have hk:f 16=.int .i64 (i:Nat):=by rw[hf,hk0]<;>rfl
 have o1:fr 1=.cells [.list (S.msgs.map fun n=>.agg n.cells),.list (S.enums.map fun n=>.agg n.cells),.list (S.servs.map fun n=>.agg n.cells)]:=by rw[hmm 1 (by decide),X0]<;>rfl
 have o2:∃a b,fr 2=.cells [a,b]:=⟨_,_,by rw[hmm 2 (by decide),KB];rfl⟩;have o4:fr 4=.cells [.vec 0 1100 g 0 (i) false,.vec 0 1101 h 0 (0) false]:=by rw[hmm 4 (by decide),Wl]<;>rfl
 have oR:fr 1100=.vec g 3 ((S.msgs.take (i)).map fun m=>.agg (QO S m).cells):=by rw[hmm 1100 (by decide),oR0]<;>rfl
 have oT:fr 1101=.vec h 5 ((S.enums.take (0)).map fun e=>.agg (Jm e).cells):=by rw[hmm 1101 (by decide),oT0]<;>rfl
 have nv:=hn 6 (by decide);have r6':∀s∈[6,8],(fr s).isRow=false:=by
  intro s hs;by_cases hsv:s=6
  ·subst hsv;rw[nv];rfl
  ·rw[hmm s (by simp only[QZ0,Q0Q,or_false];exact hsv)];have:=r6 s hs
   revert this
   cases fr0 s<;>intro h<;>first|rfl|exact h
 clear hf hmm hn h10 h20 h40 KB X0 r6 Wl oR0 oT0 hw0 hz0 hk0;simp only[Qns,Qnt,Qnu,Qnv,hz,hk,Qa,seval];by_cases hlt:i<S.msgs.length
 case neg=>
  have e:i=S.msgs.length:=by omega
  subst e;simp only[Qy hlt,Qa,seval];exact hq _ _ ⟨h1,h2,h4,o2,o1,r6',g,h,o4,oR,oT⟩
 obtain⟨x,hx⟩:∃x,S.msgs[i]? = some x:=⟨S.msgs[i],QYN hlt⟩;have hm:=QYY hx;have hg:(S.msgs.map fun n=>AV.agg n.cells)[i]? = some (.agg x.cells):=by rw[QZ3,hx];rfl
 rw[Xe]at hg;have e1:=Ql i _ hlt (by simp only[maxLen];omega);have htl:(S.msgs.take i).length=i:=by rw[QZC];omega
 have hc:=s18 hM S hS x (hS.msgs x hm);simp only[QM,Xe x,SC.av]at hc;simp only[Qw hlt,nv,Qj,QZ8,Qd,hg,h1,h4,hw,hk,o1,o4,eE,seval];refine aC hc ?_;refine Zu rfl rfl (by decide) rfl rfl ?_;rw[show List.map nn0 (QO S x).cells=(QO S x).cells from rfl];refine QJ (xs:=(S.msgs.take i).map (fun m=>AV.agg (QO S m).cells)) rfl oR rfl (by rw[QZ5,htl]) rfl rfl (by simp only[QYZ,QZR,maxLen];omega) (by simp only[QYZ,QZR];omega) ?_;simp only[h4,hk,o4,e1,eE,seval];obtain⟨a2,b2,o2⟩:=o2;have hsu:(S.msgs.take (i+1)).map (fun m=>AV.agg (QO S m).cells)=(S.msgs.take i).map (fun m=>AV.agg (QO S m).cells)++[(fun m=>AV.agg (QO S m).cells) x]:=by rw[Q0j,hx,Q0k,Q0i];rfl
 refine⟨S.msgs.length-(i+1),by omega,_,_,i+1,rfl,rfl,by omega,⟨h1,h2,h4,⟨a2,b2,o2⟩,o1,?_,_,_,rfl,?_,?_⟩,hw,hz,rfl⟩
 ·intro s hs;simp only[QZ0,Q0Q,or_false]at hs;rcases hs with rfl|rfl<;>first|rfl|exact r6' _ (by decide)
 ·first|exact oR|(rw[hsu];rfl)|simp only[oR,eE,seval]
 ·first|exact oT|(rw[hsu];rfl)|simp only[oT,eE,seval]

include hM hS in
theorem QUr {i:Nat}(f:Fr)(fr:Nat→Ob)(H:Mt S (S.msgs.length) (i) f fr)(hi0:i=0)(hw:f 30=.list (S.enums.map fun n=>.agg n.cells))(hz:f 31=.int .i64 (S.enums.length:Nat))(hk:f 32=.int .i64 0)(Q:Exit→St→Prop)
  (hq:∀f fr,Mt S (S.msgs.length) (S.enums.length) f fr→Q (.exit 2) ⟨f,[fr],[]⟩):QN Tryz.prog (.loop Qny) ⟨f,[fr],[]⟩ Q:=by
 let I:Nat→St→Prop:=fun n st=>∃f fr i,st=⟨f,[fr],[]⟩∧n=S.enums.length-i∧i≤S.enums.length∧Mt S (S.msgs.length) (i) f fr∧f 30=.list (S.enums.map fun n=>.agg n.cells)∧f 31=.int .i64 (S.enums.length:Nat)∧f 32=.int .i64 (i:Nat)
 have hl1:=hS.len2;subst hi0;refine Qe I _ ⟨f,fr,0,rfl,rfl,QYT _,H,hw,hz,hk⟩ ?_;clear H hw hz hk;rintro _ st ⟨f0,fr0,i,rfl,rfl,hi,⟨h10,h20,h40,⟨a,b,KB⟩,X0,r6,g,h,Wl,oR0,oT0⟩,hw0,hz0,hk0⟩;refine QH (a:=_) [8] (by intro s hs;exact r6 s (by simp only[QZ0,Q0Q,or_false]at hs ⊢;omega)) ?_;intro f fr hf hmm hn;have h1:f 1=.ptr 0 1 0:=by rw[hf,h10]<;>rfl
 have h2:f 2=.ptr 0 2 0:=by rw[hf,h20]<;>rfl
 have h4:f 4=.ptr 0 4 0:=by rw[hf,h40]<;>rfl
 have hw:f 30=.list (S.enums.map fun n=>.agg n.cells):=by rw[hf,hw0]<;>rfl
 have hz:f 31=.int .i64 (S.enums.length:Nat):=by rw[hf,hz0]<;>rfl
 have hk:f 32=.int .i64 (i:Nat):=by rw[hf,hk0]<;>rfl
 have o1:fr 1=.cells [.list (S.msgs.map fun n=>.agg n.cells),.list (S.enums.map fun n=>.agg n.cells),.list (S.servs.map fun n=>.agg n.cells)]:=by rw[hmm 1 (by decide),X0]<;>rfl
 have o2:∃a b,fr 2=.cells [a,b]:=⟨_,_,by rw[hmm 2 (by decide),KB];rfl⟩;have o4:fr 4=.cells [.vec 0 1100 g 0 (S.msgs.length) false,.vec 0 1101 h 0 (i) false]:=by rw[hmm 4 (by decide),Wl]<;>rfl
 have oR:fr 1100=.vec g 3 ((S.msgs.take (S.msgs.length)).map fun m=>.agg (QO S m).cells):=by rw[hmm 1100 (by decide),oR0]<;>rfl
 have oT:fr 1101=.vec h 5 ((S.enums.take (i)).map fun e=>.agg (Jm e).cells):=by rw[hmm 1101 (by decide),oT0]<;>rfl
 have nv:=hn 8 (by decide);have r6':∀s∈[6,8],(fr s).isRow=false:=by
  intro s hs;by_cases hsv:s=8
  ·subst hsv;rw[nv];rfl
  ·rw[hmm s (by simp only[QZ0,Q0Q,or_false];exact hsv)];have:=r6 s hs
   revert this
   cases fr0 s<;>intro h<;>first|rfl|exact h
 clear hf hmm hn h10 h20 h40 KB X0 r6 Wl oR0 oT0 hw0 hz0 hk0;simp only[I3,I4,I5,I6,hz,hk,Qa,seval];by_cases hlt:i<S.enums.length
 case neg=>
  have e:i=S.enums.length:=by omega
  subst e;simp only[Qy hlt,Qa,seval];exact hq _ _ ⟨h1,h2,h4,o2,o1,r6',g,h,o4,oR,oT⟩
 obtain⟨x,hx⟩:∃x,S.enums[i]? = some x:=⟨S.enums[i],QYN hlt⟩;have hm:=QYY hx;have hg:(S.enums.map fun n=>AV.agg n.cells)[i]? = some (.agg x.cells):=by rw[QZ3,hx];rfl
 rw[XR]at hg;have e1:=Ql i _ hlt (by simp only[maxLen];omega);have htl:(S.enums.take i).length=i:=by rw[QZC];omega
 have hc:=s19 hM x (hS.enums x hm);simp only[Xl,XR x]at hc;simp only[Qw hlt,nv,Qj,QZ8,Qd,hg,h4,hw,hk,o4,eE,seval];refine aC hc ?_;refine Zu rfl rfl (by decide) rfl rfl ?_;rw[show List.map nn0 (Jm x).cells=(Jm x).cells from rfl];refine QJ (xs:=(S.enums.take i).map (fun e=>AV.agg (Jm e).cells)) rfl oT rfl (by rw[QZ5,htl]) rfl rfl (by simp only[QYZ,QZR,maxLen];omega) (by simp only[QYZ,QZR];omega) ?_;simp only[h4,hk,o4,e1,eE,seval];obtain⟨a2,b2,o2⟩:=o2;have hsu:(S.enums.take (i+1)).map (fun e=>AV.agg (Jm e).cells)=(S.enums.take i).map (fun e=>AV.agg (Jm e).cells)++[(fun e=>AV.agg (Jm e).cells) x]:=by rw[Q0j,hx,Q0k,Q0i];rfl
 refine⟨S.enums.length-(i+1),by omega,_,_,i+1,rfl,rfl,by omega,⟨h1,h2,h4,⟨a2,b2,o2⟩,o1,?_,_,_,rfl,?_,?_⟩,hw,hz,rfl⟩
 ·intro s hs;simp only[QZ0,Q0Q,or_false]at hs;rcases hs with rfl|rfl<;>first|rfl|exact r6' _ (by decide)
 ·first|exact oR|(rw[hsu];rfl)|simp only[oR,eE,seval]
 ·first|exact oT|(rw[hsu];rfl)|simp only[oT,eE,seval]

include hM hS in
theorem s7 (h8:S.msgs.length≤8∧S.enums.length≤8∧S.servs.length≤8):Qi Tryz.prog 7 [S.av] (mkR S):=by
 have hv:=s17 hM S hS h8;simp only[SC.av]at hv;refine k7.fn (by simp) ?_;simp only[r7,o7,Qnn,Qno,SC.av,eE,seval];refine aC hv ?_;unfold mkR;cases hs:JN S
 ·rw[QYR (by simp)];simp only[Qnp,QZN,eE,seval]
 rw[QYS rfl];simp only[Qnq,Q0q,eE,seval];refine Xf rfl rfl rfl rfl ?_;refine Xf rfl rfl rfl rfl ?_;simp only[Qnr,QZ5,eE,seval];refine QUq hM S hS (i:=0) _ _ ⟨(by rfl),(by rfl),(by rfl),⟨_,_,rfl⟩,(by rfl),by intro s hs;simp only[QZ0,Q0Q,or_false]at hs;rcases hs with rfl|rfl<;>rfl,1,1,(by rfl),(by rfl),(by rfl)⟩ rfl (by rfl) (by rfl) (by rfl) _ (fun f fr H=>?_);obtain⟨h1,h2,h4,o2,o1,r6,g,h,o4,oR,oT⟩:=H;simp only[Qnx,h1,o1,QZ5,eE,seval];refine QUr hM S hS (i:=0) _ _ ⟨(by exact h1),(by exact h2),(by exact h4),o2,o1,r6,g,h,o4,oR,oT⟩ rfl (by rfl) (by rfl) (by rfl) _ (fun f fr H=>?_);clear h1 h2 h4 o2 o1 r6 o4 oR oT;obtain⟨h1,h2,h4,⟨a,b,o2⟩,o1,r6,g,h,o4,oR,oT⟩:=H;have ht1:List.take S.msgs.length (S.msgs.map fun m=>AV.agg (QO S m).cells)=S.msgs.map fun m=>AV.agg (QO S m).cells:=QZj (by simp)
 have ht2:List.take S.enums.length (S.enums.map fun m=>AV.agg (Jm m).cells)=S.enums.map fun m=>AV.agg (Jm m).cells:=QZj (by simp)
 have eP:(Qp S).av=.agg [.list (S.msgs.map fun m=>.agg (QO S m).cells),.list (S.enums.map fun e=>.agg (Jm e).cells)]:=by
  unfold PL.av Qp;simp only[Q0n];rfl
 rw[Q0h]at oR oT;simp only[I7,h2,h4,o2,o4,oR,oT,eP,ht1,ht2,QZ5,QZs,QY9,QYK,QZJ,QZP,AV.un,AV.unL,eE,seval]
end

theorem YM {k:Int}(h : -9223372036854775808≤k)(h':k<9223372036854775808):(Lit.int .i64 k).wf=true:=by
 simp[Lit.wf,IntKind.min,IntKind.max,IntKind.bits,IntKind.signed];omega
section
variable {P:Program}{M k:Nat}{t:TypeId}
theorem AO {fs:Array Field}{cs:List AV}(hu:P.underlying t=some (.struct fs))(h:Q3.HasL (Q3 P M k) fs.toList cs):Q3 P M (k+1) t cs:=by
 simp only[Q3,hu];exact h
theorem AP {ik:IntKind}{n:Int}(hu:P.underlying t=some (.int ik))(h:(Lit.int ik n).wf=true):Q3 P M (k+1) t [.int ik n]:=by
 simp only[Q3,hu];exact⟨n,rfl,h⟩
theorem QD1 {s:List UInt8}(hu:P.underlying t=some .string)(h:s.length≤M):Q3 P M (k+1) t [.str s]:=by
 simp only[Q3,hu];exact⟨s,rfl,h⟩
theorem DI {e:TypeId}(hu:P.underlying t=some (.slice e)):Q3 P M (k+1) t [.list []]:=by
 simp only[Q3,hu];exact⟨[],rfl,⟨QYT _,fun _=>by simp⟩,fun c hc=>absurd hc Q0Q,QYT _⟩
theorem IC {f0 f1 f2 f3 f4 f5 f6:Field}{e3 e4 e5 e6:TypeId}(hu:P.underlying t=some (.struct #[f0,f1,f2,f3,f4,f5,f6]))(u0:P.underlying f0.type=some (.int .i64))(u1:P.underlying f1.type=some (.int .u64))(u2:P.underlying f2.type=some .string)
  (u3:P.underlying f3.type=some (.slice e3)) (u4:P.underlying f4.type=some (.slice e4)) (u5:P.underlying f5.type=some (.slice e5)) (u6:P.underlying f6.type=some (.slice e6)) {a b:Int} {s:List UInt8} (ha:(Lit.int .i64 a).wf=true) (hb:(Lit.int .u64 b).wf=true) (hs:s.length≤M) :
  ∃k,Q3 P M k t [.int .i64 a,.int .u64 b,.str s,.list [],.list [],.list [],.list []]:=by
 refine⟨2,AO hu ?_⟩;simp only[Q3.HasL];exact⟨[.int .i64 a],_,rfl,AP u0 ha,[.int .u64 b],_,rfl,AP u1 hb,[.str s],_,rfl,QD1 u2 hs,[.list []],_,rfl,DI u3,[.list []],_,rfl,DI u4,[.list []],_,rfl,DI u5,[.list []],_,rfl,DI u6,rfl⟩
end
theorem ID {M M':Nat}{v:V}(hv:v.ok M)(hM:M≤M')(hf:v.fitk 7=true):∃k,Q3 Tryz.prog M' k 33 v.cells:=by
 have hlon:Wb (v.list.map V.av) (v.pairs.map V.pav) (v.slots.map V.sav) (v.raws.map R.av)=true:=by
  unfold V.fitk X8 at hf;simp only[QY7]at hf;exact hf.1.1.1.1.2
 unfold Wb at hlon;rw[QY7,QY7,QY7,Jg,Jg,Jg,Jg,QZ5,QZ5,QZ5,QZ5]at hlon;have e1:v.list=[]:=QZK (eq_of_beq hlon.1.1.1);have e2:v.pairs=[]:=QZK (eq_of_beq hlon.1.1.2);have e3:v.slots=[]:=QZK (eq_of_beq hlon.1.2);have e4:v.raws=[]:=QZK (eq_of_beq hlon.2);rw[V.eta,e1,e2,e3,e4];exact IC Tryz.underlying33 Tryz.underlying3 Tryz.underlying27 Tryz.underlying9 Tryz.underlying28 Tryz.underlying29 Tryz.underlying30 Tryz.underlying31 hv.kd hv.bits (QYL hv.text hM)

theorem QD2 {M:Nat}(hM:M≤1048576){S:SC}(hS:S.ok M)(f:SF):(Lit.int .i64 (Zp S f)).wf=true:=by
 have l1:=hS.len1;have l2:=hS.len2;have key:∀ {α:Type} (p:α→Bool) (l:List α),l.length≤M→(Lit.int .i64 (QS p l 0)).wf=true:=by
  intro α p l hl;rcases Xi p l 0 with⟨h,_⟩|⟨k,o,h,ho,_⟩
  ·rw[h];exact YM (by omega) (by omega)
  ·have:=(QYM.1 ho).1;rw[h];exact YM (by omega) (by omega)
 unfold Zp;split
 ·exact key _ _ l1
 ·split
  ·exact key _ _ l2
  ·exact YM (by omega) (by omega)
theorem QD3 {m:SM}{f:SF}(hf:f∈m.fields) : -1≤ZB (unl [] m.fields) f∧ZB (unl [] m.fields) f<((unl [] m.fields).length:Int)∧(decide (ZB (unl [] m.fields) f≥0)=!(f.union==[])):=by
 unfold ZB;by_cases hu:f.union=[]
 ·rw[QYS hu];have d:(f.union==[])=true:=by simp[hu]
  refine⟨by omega,by omega,?_⟩;rw[d];rfl
 ·have hm:f.union∈unl [] m.fields:=(Yy m.fields [] f.union).2 (.inr ⟨hu,f,hf,rfl⟩);have h:=Ha (r:=[]) hm;rw[QZI]at h;have d:(f.union==[])=false:=by simp[hu]
  rw[QYR hu,d];refine⟨by omega,h.2.2,?_⟩;rw[Q0D (by omega)];rfl
theorem Qgd (m:SM):(unl [] m.fields).length≤m.fields.length:=by
 have:=Dj m.fields m.fields.length
 rwa [As]at this

section
variable {M:Nat}(hM:M≤1048576)(S:SC)(hS:S.ok M)(hv:JN S=true)
include hM hS hv in
theorem QD4:(Qp S).ok 1048576:=by
 have hk:=Vj hv;have l1:=hS.len1;have l2:=hS.len2;refine⟨by unfold Qp;simp only[QZ5,maxLen];omega,fun g hg=>?_,by unfold Qp;simp only[QZ5,maxLen];omega,fun g hg=>?_⟩
 ·obtain⟨m,hm,rfl⟩:=QZ1.1 hg;have hmo:=hS.msgs m hm;have hmk:=ZN (hk.ms m hm);have hl:=hmo.len1;have hul:=Qgd m;refine⟨by have:=hmo.name;simp only[QO];omega,by simp only[QO,QZ5,maxLen];omega,fun o ho=>?_,YM (by simp only[QO];omega) (by simp only[QO];omega)⟩;obtain⟨f,hf,rfl⟩:=QZ1.1 ho;have hfo:=hmo.fields f hf;obtain⟨i,hi⟩:=QYW.1 hf;have hfk:=Jq hmk hi;have hu:=QD3 hf;refine⟨hfo.num,by have:=hfo.name;simp only[QX];omega,?_,hfo.card,hfo.key,hfo.kind,QD2 hM hS f,YM (by rw[show(QX S (unl [] m.fields) f).union=ZB (unl [] m.fields) f from rfl];omega) (by rw[show(QX S (unl [] m.fields) f).union=ZB (unl [] m.fields) f from rfl];omega)⟩;simp only[QX];cases ha:Xx f.notes with
  |none=>simp
  |some v=>
   have:=(F0 (Yd hfk.notes ha)).2;simp only[QZa,QZQ];omega
 ·obtain⟨e,he,rfl⟩:=QZ1.1 hg;have heo:=hS.enums e he;have hek:=WV (hk.es e he);have q1:=heo.len1;have q2:=heo.len2;refine⟨by have:=heo.name;simp only[Jm];omega,by simp only[Jm,QZ5,maxLen];omega,fun x hx=>?_,by simp only[Jm,maxLen];omega,heo.free,by simp only[Jm,QZR,maxLen];omega,fun n hn=>by cases hn⟩;obtain⟨y,hy,rfl⟩:=QZ1.1 hx;have hyo:=heo.items y hy;obtain⟨i,hi⟩:=QYW.1 hy;have hik:=WW hek hi;refine⟨by have:=hyo.name;simp only[JO];omega,hyo.num,?_,fun n hn=>?_⟩
  ·simp only[JO];split<;>simp[maxLen]
  ·simp only[JO]at hn;cases ha:Xx y.notes with
   |none=>rw[ha]at hn;cases hn
   |some v=>
    rw[ha]at hn;rcases Q0K.1 hn with rfl
    have hf:=Yd hik.notes ha;refine⟨by show(5:Nat)≤1048576;omega,ID (M:=M) ?_ hM hf⟩;unfold Xx at ha;cases hq:y.notes.find? fun n=>n.name==alias with
    |none=>rw[hq]at ha;cases ha
    |some n=>
     rw[hq]at ha;cases ha;have hno:=hyo.notes n (Q0B hq);exact hno.val
end

theorem z4 (S:SC):Qi Tryz.prog 4 [S.av] (.bool (decide ((S.msgs.length:Int)≤8)&&decide ((S.enums.length:Int)≤8)&&decide ((S.servs.length:Int)≤8))):=by
 refine k4.fn (by simp) ?_;simp only[SC.av,QZ5,eE,seval];cases h1:decide ((S.msgs.length:Int)≤8)
 ·simp only[Q0c,Qa,seval]
 cases h2:decide ((S.enums.length:Int)≤8)
 ·simp only[h2,QZ5,Q0p,Q0c,eE,seval]
 simp only[h2,QZ5,Q0p,eE,seval]

section
variable {M:Nat}(hM:M≤1048576)(S:SC)(hS:S.ok M)(hv:JN S=true)(m:SM)(hm:m∈S.msgs)(k:Nat)(x:SF)(hx:m.fields[k]? = some x)

end

theorem VR (n:Int):Qi Tryz.prog 120 [.int .i64 n,.int .i64 n] (.int .i64 0):=by
 have d1:decide (n<n)=false:=by simp
 have d2:decide (n > n)=false:=by simp
 refine QPg.fn (by simp) ?_;simp only[d1,Qa,seval]

theorem QUs (x:R):Qi Tryz.prog 176 [x.av,x.av] (.int .i64 0):=by
 have d1:decide ((x.bits:Int)<(x.bits:Int))=false:=by simp
 have d2:decide ((x.bits:Int) > (x.bits:Int))=false:=by simp
 have s1:Qs .lss x.data x.data=some (.bool false):=by simp[Qs,JZ]
 have s2:Qs .gtr x.data x.data=some (.bool false):=by simp[Qs,JZ]
 refine QPj.fn (by simp) ?_;simp only[R.av,bne_self_eq_false,d1,s1,s2,eE,seval]

def RqI (l:List R)(k:Nat)(st:St):Prop :=
 ∃f i,st=⟨f,[Qc],[]⟩∧k=l.length-i∧f 0=.list (l.map R.av)∧f 1=.list (l.map R.av)∧f 5=.int .i64 (i:Nat)
theorem QUt (l:List R)(hn:l.length≤maxLen):Qi Tryz.prog 124 [.list (l.map R.av),.list (l.map R.av)] (.int .i64 0):=by
 refine QPd.fn (by simp) ?_;simp only[Qa,seval];refine Qe (RqI l) _ ⟨_,0,rfl,rfl,rfl,rfl,rfl⟩ ?_;rintro _ st ⟨f,i,rfl,rfl,h0,h1,h5⟩;simp only[QZ5,h0,h5,Qa,seval];by_cases hlt:i<l.length
 ·obtain⟨x,hi⟩:∃x,l[i]? = some x:=⟨l[i],QYN hlt⟩;have hg:=QDr hi;have e1:=Ql i _ hlt hn;have d0:((0:Int) != 0)=false:=rfl;have c1:=QUs x;simp only[R.av]at c1;simp only[Qw hlt,Qj,QZ8,Qd,hg,QZ5,h0,h1,h5,eE,seval];refine aC c1 ?_;simp only[d0,h5,e1,Qa,seval];exact⟨l.length-(i+1),by omega,_,i+1,rfl,rfl,h0,h1,rfl⟩
 ·simp only[Qy hlt,QZ5,h0,h1,Qa,seval];refine aC (VR _) ?_;simp only[Qa,seval]

def Mu (k:Int)(b:Nat):Int :=
 if (k==2||k==3)=true then IntKind.u64.wrap ((b:Int)+9223372036854775808)else if (k != 6)=true then(b:Int)else if KL b=0 then 18446744073709551615
 else if decide ((b:Int)≥9223372036854775808)=true then IntKind.u64.wrap (18446744073709551615-(b:Int))else IntKind.u64.wrap ((b:Int)+9223372036854775808)

theorem IE (v:V):Qi Tryz.prog 179 [v.av] (.int .u64 (Mu v.kd v.bits)):=by
 have zeq:((0:Int)==0)=true:=rfl;rw[QE];refine QOZ.fn (by simp) ?_;simp only[eE,seval];refine aC (QSt v.kd) ?_;unfold Mu;cases h1:(v.kd==2||v.kd==3)
 ·cases h2:(v.kd != 6)
  ·simp only[h2,QY3,eE,seval];refine aC (QUk v.bits) ?_;by_cases h3:KL v.bits=0
   ·have zc:((KL v.bits:Int)==0)=true:=by rw[N7];exact Q0D h3
    rw[QYS h3];simp only[zc,Qa,seval]
   ·have zc:((KL v.bits:Int)==0)=false:=by rw[N7];exact Q0u h3
    rw[QYR h3];cases h4:decide ((v.bits:Int)≥9223372036854775808)<;>simp only[zc,h4,QY3,eE,seval]
  ·simp only[h2,QY3,eE,seval]
 ·simp only[eE,seval]

theorem P1 (v:V):Qi Tryz.prog 125 [v.av,v.av] (.int .i64 0):=by
 have d1:decide (v.kd<v.kd)=false:=by simp
 have d2:decide (v.kd > v.kd)=false:=by simp
 have s1:Qs .lss v.text v.text=some (.bool false):=by simp[Qs,JZ]
 have s2:Qs .gtr v.text v.text=some (.bool false):=by simp[Qs,JZ]
 have r1:decide (Mu v.kd v.bits<Mu v.kd v.bits)=false:=by simp
 have r2:decide (Mu v.kd v.bits > Mu v.kd v.bits)=false:=by simp
 have hr:=IE v;rw[QE]at hr;rw[QE];refine QOW.fn (by simp) ?_;simp only[d1,eE,seval];refine aC (QCq v.kd) ?_;cases h1:isk v.kd
 ·simp only[Qa,seval]
 simp only[eE,seval];refine aC (D3 v.kd) ?_;cases h2:JA v.kd
 ·simp only[eE,seval];refine aC (D3 v.kd) ?_;simp only[h2,eE,seval];refine aC (D3 v.kd) ?_;simp only[h2,eE,seval];refine aC hr ?_;simp only[eE,seval];refine aC hr ?_;simp only[r1,eE,seval];refine aC hr ?_;simp only[eE,seval];refine aC hr ?_;simp only[r2,Qa,seval]
 ·simp only[s1,eE,seval];refine aC (D3 v.kd) ?_;simp only[h2,s2,eE,seval];refine aC (D3 v.kd) ?_;simp only[h2,Qa,seval]

def LqI (l:List V)(k:Nat)(st:St):Prop :=
 ∃f i,st=⟨f,[Qc],[]⟩∧k=l.length-i∧f 0=.list (l.map V.av)∧f 1=.list (l.map V.av)∧f 5=.int .i64 (i:Nat)
theorem P2 (l:List V)(hn:l.length≤maxLen)(h:∀x∈l,Qi Tryz.prog 68 [x.av,x.av] (.int .i64 0)):Qi Tryz.prog 121 [.list (l.map V.av),.list (l.map V.av)] (.int .i64 0):=by
 refine QPs.fn (by simp) ?_;simp only[Qa,seval];refine Qe (LqI l) _ ⟨_,0,rfl,rfl,rfl,rfl,rfl⟩ ?_;rintro _ st ⟨f,i,rfl,rfl,h0,h1,h5⟩;simp only[QZ5,h0,h5,Qa,seval];by_cases hlt:i<l.length
 ·obtain⟨x,hi⟩:∃x,l[i]? = some x:=⟨l[i],QYN hlt⟩;have hg:=H5 hi;have e1:=Ql i _ hlt hn;have d0:((0:Int) != 0)=false:=rfl;have c1:=h x (QYY hi);rw[QE]at c1;simp only[Qw hlt,Qj,QZ8,Qd,hg,QZ5,h0,h1,h5,eE,seval];refine aC c1 ?_;simp only[d0,h5,e1,Qa,seval];exact⟨l.length-(i+1),by omega,_,i+1,rfl,rfl,h0,h1,rfl⟩
 ·simp only[Qy hlt,QZ5,h0,h1,Qa,seval];refine aC (VR _) ?_;simp only[Qa,seval]

def PzI (l:List (V×V))(k:Nat)(st:St):Prop :=
 ∃f i,st=⟨f,[Qc],[]⟩∧k=l.length-i∧f 0=.list (l.map V.pav)∧f 1=.list (l.map V.pav)∧f 5=.int .i64 (i:Nat)
theorem P3 (l:List (V×V))(hn:l.length≤maxLen)(h:∀x∈l,Qi Tryz.prog 68 [x.1.av,x.1.av] (.int .i64 0)∧Qi Tryz.prog 68 [x.2.av,x.2.av] (.int .i64 0)):Qi Tryz.prog 122 [.list (l.map V.pav),.list (l.map V.pav)] (.int .i64 0):=by
 refine QPp.fn (by simp) ?_;simp only[Qa,seval];refine Qe (PzI l) _ ⟨_,0,rfl,rfl,rfl,rfl,rfl⟩ ?_;rintro _ st ⟨f,i,rfl,rfl,h0,h1,h5⟩;simp only[QZ5,h0,h5,Qa,seval];by_cases hlt:i<l.length
 ·obtain⟨x,hi⟩:∃x,l[i]? = some x:=⟨l[i],QYN hlt⟩;have hg:=Yo hi;have e1:=Ql i _ hlt hn;have d0:((0:Int) != 0)=false:=rfl;obtain⟨c1,c2⟩:=h x (QYY hi);rw[QE]at c1 c2;simp only[Qw hlt,Qj,QZ8,Qd,hg,QZ5,QZi,QZO,QZs,h0,h1,h5,eE,seval];refine aC c1 ?_;simp only[d0,Qj,QZ8,Qd,hg,QZi,QZl,QZs,h0,h1,h5,eE,seval];refine aC c2 ?_;simp only[d0,h5,e1,Qa,seval];exact⟨l.length-(i+1),by omega,_,i+1,rfl,rfl,h0,h1,rfl⟩
 ·simp only[Qy hlt,QZ5,h0,h1,Qa,seval];refine aC (VR _) ?_;simp only[Qa,seval]

def SqI (l:List (Int×V))(k:Nat)(st:St):Prop :=
 ∃f i,st=⟨f,[Qc],[]⟩∧k=l.length-i∧f 0=.list (l.map V.sav)∧f 1=.list (l.map V.sav)∧f 5=.int .i64 (i:Nat)
theorem P4 (l:List (Int×V))(hn:l.length≤maxLen)(h:∀x∈l,Qi Tryz.prog 68 [x.2.av,x.2.av] (.int .i64 0)):Qi Tryz.prog 123 [.list (l.map V.sav),.list (l.map V.sav)] (.int .i64 0):=by
 refine QPm.fn (by simp) ?_;simp only[Qa,seval];refine Qe (SqI l) _ ⟨_,0,rfl,rfl,rfl,rfl,rfl⟩ ?_;rintro _ st ⟨f,i,rfl,rfl,h0,h1,h5⟩;simp only[QZ5,h0,h5,Qa,seval];by_cases hlt:i<l.length
 ·obtain⟨x,hi⟩:∃x,l[i]? = some x:=⟨l[i],QYN hlt⟩;have hg:=WY hi;have e1:=Ql i _ hlt hn;have d0:((0:Int) != 0)=false:=rfl;have c2:=h x (QYY hi);rw[QE]at c2;simp only[Qw hlt,Qj,QZ8,Qd,hg,QZ5,QZs,h0,h1,h5,eE,seval];refine aC (VR x.1) ?_;simp only[d0,Qj,QZ8,Qd,hg,QZi,QZl,QZs,h0,h1,h5,eE,seval];refine aC c2 ?_;simp only[d0,h5,e1,Qa,seval];exact⟨l.length-(i+1),by omega,_,i+1,rfl,rfl,h0,h1,rfl⟩
 ·simp only[Qy hlt,QZ5,h0,h1,Qa,seval];refine aC (VR _) ?_;simp only[Qa,seval]

theorem IF (v:V)(hc:v.cnt≤1048576):Qi Tryz.prog 68 [v.av,v.av] (.int .i64 0):=by
 revert hc
 refine V.ind (P:=fun v=>v.cnt≤1048576→Qi Tryz.prog 68 [v.av,v.av] (.int .i64 0)) ?_ v;clear v;intro v hl hp hs hc;have l1:=Ue v;have l2:=Yi v;have l3:=Yj v;have l4:=Uf v;have c1:=P2 v.list (by simp only[maxLen];omega) fun x hx=>hl x hx (QYL (Gf hx) hc)
 have c2:=P3 v.pairs (by simp only[maxLen];omega) fun x hx=>⟨(hp x hx).1 (QYL (Qgb hx) hc),(hp x hx).2 (QYL (Fx hx) hc)⟩
 have c3:=P4 v.slots (by simp only[maxLen];omega) fun x hx=>hs x hx (QYL (Gg hx) hc)
 have c4:=QUt v.raws (by simp only[maxLen];omega);have c5:=P1 v;have d0:((0:Int) != 0)=false:=rfl;rw[QE]at c5;rw[QE];refine k68.fn (by simp) ?_;simp only[bne_self_eq_false,eE,seval];cases b1:(v.kd==11)
 ·cases b2:(v.kd==12)
  ·cases b3:(v.kd==10)
   ·simp only[b2,b3,eE,seval];refine aC c5 ?_;simp only[Qa,seval]
   ·simp only[b2,b3,eE,seval];refine aC c3 ?_;simp only[d0,eE,seval];refine aC c4 ?_;simp only[Qa,seval]
  ·simp only[b2,eE,seval];refine aC c2 ?_;simp only[Qa,seval]
 ·simp only[eE,seval];refine aC c1 ?_;simp only[Qa,seval]

theorem AQ (v:V)(hc:v.cnt≤1048576):Qi Tryz.prog 12 [v.av,v.av] (.bool true):=by
 have c1:=IF v hc;have d0:((0:Int)==0)=true:=rfl;have c2:Qi Tryz.prog 27 [v.av,v.av] (.bool true):=by
  rw[QE]at c1 ⊢;refine k27.fn (by simp) ?_;simp only[eE,seval];refine aC c1 ?_;simp only[d0,Qa,seval]
 rw[QE]at c2 ⊢;refine k12.fn (by simp) ?_;simp only[eE,seval];refine aC c2 ?_;simp only[Qa,seval]

end Go.Proofs.YtafhmlkilcmniaaGreatDoor.Va

namespace Go.Proofs.YtafhmlkilcmniaaGreatDoor.Va
open Go Am Rc Bt Br Up

section
variable {M:Nat}{P:PL}(hP:P.ok M)(hM:M≤140737488351232){m:PG→V→Int}{lv:Int}(g:PG)(hg:g.ok M)(v:V)(hv:v.ok M)

def SwI (P:PL)(g:PG)(v:V)(k:Nat)(st:St):Prop :=
 ∃f fr i,st=⟨f,[fr],[]⟩∧k=v.raws.length-i∧Xj (JC P g v.raws) v.raws.length 0=Xj (JC P g v.raws) (v.raws.length-i) i∧f 4=.ptr 0 4 0∧f 6=.ptr 0 6 0∧f 9=.ptr 0 9 0∧f 16=.int .i64 (i:Nat)∧fr 4=.cells [.list (P.progs.map QW),.list (P.enums.map Xw)]∧fr 6=.cells (vc v)∧fr 9=.cells g.cells∧∀s∈[17],(fr s).isRow=false

end

def Hl (P:PL)(t:Int)(v:V):Int :=
 if t<0∨t≥(P.progs.length:Int)then 10 else if XF P 16 (Jo P t) v=0 then(if IntKind.i64.wrap (v.cnt:Int) > 4096 then 3 else 0)else XF P 16 (Jo P t) v

section
variable {M:Nat}{P:PL}(hP:P.ok M)(hM:M≤140737488351232)(hU:Use P)(t:Int)(v:V)(hv:v.ok M)

include hP hU hv in
theorem v10:Qi Tryz.prog 10 [P.av,.int .i64 t,v.av] (.int .i64 (Hl P t v)):=by
 have e0:P.av=.agg [.list (P.progs.map QW),.list (P.enums.map Xw)]:=rfl;rw[QE];refine FR.fn (by simp) ?_;simp only[e0,eE,seval];unfold Hl;by_cases t0:t<0
 ·have d0:decide (t<0)=true:=Q0D t0;rw[QYS (.inl t0)];simp only[d0,Qa,seval]
 have d0:decide (t<0)=false:=Q0u t0;by_cases t1:t≥(P.progs.length:Int)
 ·have d1:decide (t≥(P.progs.length:Int))=true:=Q0D t1;rw[QYS (.inr t1)];simp only[d0,d1,QZ5,eE,seval]
 have d1:decide (t≥(P.progs.length:Int))=false:=Q0u t1;rw[QYR (by omega)];obtain⟨i,hi⟩:=Q0m (by omega:0≤t);subst hi;have hlt:i<P.progs.length:=by omega
 obtain⟨g,hg⟩:∃g,P.progs[i]? = some g:=⟨P.progs[i],QYN hlt⟩;have hga:(P.progs.map QW)[i]? = some (.agg g.cells):=by simp[hg,QW]
 have hq:Jo P (i:Int)=g:=by unfold Jo;rw[QZ8,hg];rfl
 have c1:=v25 hP hU 16 (QYK _) g (QYY hg) v hv;have e16:(17:Int)-((16:Nat):Int)=1:=rfl;have ht:=Ve (P:=P) 16 g v hv;rw[e16,e0,QE]at c1;simp only[QW,PG.cells]at c1;simp only[PG.cells]at hga;rw[hq];simp only[d0,d1,Qj,QZ8,Qd,hga,QZ5,QZi,QZO,QZl,QZs,splice,eE,seval];refine aC c1 ?_;by_cases hz:XF P 16 g v=0
 ·have c2:=v24 v (ht hz);rw[QE]at c2;have b0:((0:Int) != 0)=false:=rfl;rw[QYS hz];simp only[hz,b0,eE,seval];refine aC c2 ?_;by_cases hc:IntKind.i64.wrap (v.cnt:Int) > 4096
  ·have d2:decide (IntKind.i64.wrap (v.cnt:Int) > 4096)=true:=Q0D hc;rw[QYS hc];simp only[d2,Qa,seval]
  ·have d2:decide (IntKind.i64.wrap (v.cnt:Int) > 4096)=false:=Q0u hc;rw[QYR hc];simp only[d2,Qa,seval]
 ·have b1:(XF P 16 g v != 0)=true:=by simp[hz]
  rw[QYR hz];simp only[b1,Qa,seval]

end
open So

theorem QD5 {S:SC}(h:Sok S):SLm S:=by
 refine⟨by have:=h.lm.1;simp only[maxLen];omega,by have:=h.lm.2.1;simp only[maxLen];omega,fun e he=>?_,fun m hm=>?_⟩
 ·have h1:=h.es e he;unfold H2 at h1;simp only[QY7,QZ2]at h1;have:=h1.1.1.1.1.2;simp only[maxLen];omega
 ·have h1:=h.ms m hm;unfold H1 at h1;simp only[QY7,QZ2]at h1;have:=h1.1.1.1.1.1.1.1.2;simp only[maxLen];omega

theorem s5 (v:V){M:Nat}(hv:v.ok M):Qi Tryz.prog 5 [v.av] (.bool (decide (IntKind.i64.wrap (v.cnt:Int)≤5000))):=by
 have ct:=v15 v hv;rw[V.av,V.eta]at ct;rw[V.av,V.eta];refine k5.fn (by simp) ?_;simp only[eE,seval];refine aC ct ?_;simp only[Qa,seval]

theorem IG {S:SC}(hsk:Sok S)(s:List UInt8)(v:V):(∃(i:Nat) (m:SM),QS (fun g:PG=>g.name==s) (Qp S).progs 0=(i:Int)∧S.msgs[i]? = some m∧m.name=s∧S.msgs.find? (fun x=>x.name==s)=some m∧Ub S s v=Hl (Qp S) (i:Int) v)∨(QS (fun g:PG=>g.name==s) (Qp S).progs 0 = -1∧Ub S s v=10):=by
 have hf:(Qp S).progs.find? (fun g:PG=>g.name==s)=(S.msgs.find? fun m:SM=>m.name==s).map (QO S):=by
  show(S.msgs.map (QO S)).find? _=_;rw[List.find?_map];rfl
 rcases Xi (fun g:PG=>g.name==s) (Qp S).progs 0 with⟨e,hn⟩|⟨k,o,e,ho,hs⟩
 ·refine .inr ⟨e,?_⟩;rw[hf,Option.map_eq_none_iff]at hn;unfold Ub;rw[hn]
 ·left
  have hk:S.msgs[k]?.map (QO S)=some o:=by
   have:(Qp S).progs[k]? = some o:=ho;rw[show(Qp S).progs=S.msgs.map (QO S)from rfl,QZ3]at this;exact this
  obtain⟨m,hm,hmo⟩:=QYP.1 hk;have hon:o.name=s:=by simpa using Q0C hs
  have hmn:m.name=s:=by rw[←hmo]at hon;exact hon
  have hfd:=Fc (UM hsk) hm;rw[hmn]at hfd;refine⟨k,m,by rw[e];simp,hm,hmn,hfd,?_⟩;have hg:Jo (Qp S) (k:Int)=QO S m:=by
   unfold Jo;rw[QZ8,ho,←hmo];rfl
  have hkl:k<(Qp S).progs.length:=(QYM.1 ho).1;unfold Ub Hl;rw[hfd];dsimp only;rw[QYR (show ¬((k:Int)<0∨(k:Int)≥((Qp S).progs.length:Int))by omega),hg]

section
variable (S:SC)(hS:S.ok 1048576)
include hS

set_option maxHeartbeats 2000000 in
theorem c3 (s:List UInt8)(v:V)(hv:v.ok 1048576)(hb:v.cnt≤1048576):Qi Tryz.prog 3 [S.av,.str s,v.av] (.bool true):=by
 have cf:=z4 S;have cl:=s5 v hv;simp only[SC.av]at cf;rw[QE v]at cl;refine k3.fn (by simp) ?_;simp only[SC.av,QE v,eE,seval];refine aC cf ?_;cases a1:(decide ((S.msgs.length:Int)≤8)&&decide ((S.enums.length:Int)≤8)&&decide ((S.servs.length:Int)≤8))
 ·simp only[QZN,cond_true,cond_false,Qa,seval]
 have h8:S.msgs.length≤8∧S.enums.length≤8∧S.servs.length≤8:=by
  simp only[QY7,QZ2]at a1;omega
 simp only[Q0q,cond_true,cond_false,eE,seval];refine aC cl ?_;cases a2:decide (IntKind.i64.wrap (v.cnt:Int)≤5000)
 ·simp only[QZN,cond_true,cond_false,Qa,seval]
 have cv:=u6 (QYK _) S hS h8;simp only[SC.av]at cv;simp only[Q0q,cond_true,cond_false,eE,seval];refine aC cv ?_;cases hsv:JN S
 ·simp only[QZN,cond_true,cond_false,Qa,seval]
 have hsk:=Vj hsv;have hlm:=QD5 hsk;have hun:∀m∈S.msgs,∀u,Qi Tryz.prog 110 [QM m,.str u] (.list ((UR m u).map QL)):=fun m hm u=>QUp m (by have:=(ZN (hsk.ms m hm)).len;omega) u
 have hck:=QL8 hsv;have hPo:(Qp S).ok 1048576:=QD4 (QYK _) S hS hsv;have mk:=s7 (QYK _) S hS h8;rw[mkR,QYS hsv]at mk;have cfd:=y8 (Qp S) (by show(S.msgs.map (QO S)).length≤_;simp only[QZ5,maxLen];omega) s;have cch:=s9 S hsk hlm hun s hv;have cFit:=fun t=>v10 hPo (T9 hck) t v hv
 have eP:(Qp S).av=.agg [.list ((Qp S).progs.map QW),.list ((Qp S).enums.map Xw)]:=rfl;have hlen:((Qp S).progs.length:Int)=((Qp S).progs.length:Int):=rfl;unfold pfr at cfd;rw[eP]at mk cfd cFit;rw[QE v]at cch cFit;simp only[SC.av]at mk cch;rcases IG hsk s v with⟨i,m,hi,hm,hmn,hfd,hch⟩|⟨hi,hch⟩
 ·rw[hi,QYR (by omega),Q0D (by omega)]at cfd;have cF:=cFit (i:Int);rw[←hch]at cF;simp only[Q0q,cond_true,cond_false,eE,seval];refine aC mk ?_;simp only[eE,seval];refine aC cfd ?_;simp only[eE,seval];refine aC cch ?_;simp only[Q0q,cond_true,cond_false,eE,seval];refine aC cF ?_;by_cases he:Ub S s v=0
  ·have hm0:XF (Qp S) 16 (QO S m) v=0:=by
    unfold Ub at he;rw[hfd]at he;dsimp only at he;split at he
    ·assumption
    ·exact he
   have hgt:(Qp S).progs[((i:Nat):Int).toNat]? = some (QO S m):=by
    rw[QZ8];show(S.msgs.map (QO S))[i]? = _;rw[QZ3,hm];rfl
   have n1:=v13 hPo (T9 hck) (Gi hck) (Iz hck) 16 (i:Int) (QO S m) hgt (by omega) v hv hb (P0 16 _ v hm0);have n2:=s14 S hsk hlm (UM hsk) 16 m (QYY hm) v hv hb hm0;have n3:=AQ (Zc (Qp S) 16 (QO S m) v) (QYL (Fh (Gi hck) 16 (QO S m) (Gi hck _ (QYY hgt)) v) hb);rw[hmn]at n2;generalize Zc (Qp S) 16 (QO S m) v=z at n1 n2 n3;rw[eP,QE v,QE z]at n1;rw[QE v,QE z]at n2;rw[QE z]at n3;simp only[SC.av]at n2;have d0:((0:Int) != 0)=false:=rfl;simp only[he,d0,cond_true,cond_false,eE,seval];refine aC n1 ?_;simp only[eE,seval];refine aC n2 ?_;simp only[Qa,seval];refine aC n3 ?_;simp only[cond_true,cond_false,Qa,seval];refine aC Ev.HY ?_;simp only[Qa,seval]
  ·have d0:(Ub S s v != 0)=true:=by simp[he]
   simp only[d0,bne_self_eq_false,cond_true,cond_false,Qa,seval];refine aC Ev.HY ?_;simp only[Qa,seval]
 ·rw[hi,QYS (by omega),Q0u (by omega)]at cfd;have cF:=cFit ((Qp S).progs.length:Int);have hff:Hl (Qp S) ((Qp S).progs.length:Int) v=10:=by unfold Hl;rw[QYS (by omega)]
  rw[hff]at cF;rw[hch]at cch;simp only[Q0q,cond_true,cond_false,eE,seval];refine aC mk ?_;simp only[eE,seval];refine aC cfd ?_;simp only[eE,seval];refine aC cch ?_;simp only[QZ5,QZN,cond_true,cond_false,eE,seval];refine aC cF ?_;simp only[cond_true,cond_false,Qa,seval];refine aC Ev.HY ?_;simp only[Qa,seval]
end

end Go.Proofs.YtafhmlkilcmniaaGreatDoor.Va

namespace Go.Proofs.YtafhmlkilcmniaaGreatDoor.Br
open Go Am

theorem YN (l:List SN):(l.map SN.cells).map XU=l.map fun n=>.agg n.cells:=by
 rw[Q0n];exact Q0l fun x _=>Ys (by rw[SN.cells,QYZ,V.cells_length];omega)
theorem QD6 (l:List SF):(l.map SF.cells).map XU=l.map fun n=>.agg n.cells:=by
 rw[Q0n];exact Q0l fun x _=>Ys (by simp only[SF.cells,QZn,QYZ,QZR,V.cells_length];omega)

theorem YO {M:Nat}(hM:M=reachBytes∨M≤1048576){k:Nat}{cs:List AV}(h:Q3 Tryz.prog M k 126 cs):∃x:SN,x.ok M∧cs=x.cells:=by
 obtain⟨k,h⟩:=XV Tryz.underlying126 h;simp only[Q3.HasL]at h;obtain⟨_,_,rfl,h0,a1,_,rfl,h1,rfl⟩:=h;obtain⟨a0,rfl,w0⟩:=Zi Tryz.underlying9 h0;obtain⟨v,hv,rfl⟩:=M2 hM h1;exact⟨⟨a0,v⟩,⟨w0,hv⟩,by simp[SN.cells]⟩

theorem IH {M k:Nat}{cs:List AV}(h:Q3 Tryz.prog M k 77 cs):∃(a:Int) (s:List UInt8),(Lit.int .i64 a).wf=true∧s.length≤M∧cs=[.int .i64 a,.str s]:=by
 obtain⟨k,h⟩:=XV Tryz.underlying77 h;simp only[Q3.HasL]at h;obtain⟨_,_,rfl,h0,_,_,rfl,h1,rfl⟩:=h;obtain⟨a0,rfl,w0⟩:=Zh Tryz.underlying3 h0;obtain⟨a1,rfl,w1⟩:=Zi Tryz.underlying9 h1;exact⟨a0,a1,w0,w1,rfl⟩

theorem AT {M:Nat}(hM:M=reachBytes∨M≤1048576){k:Nat}{cs:List AV}(h:Q3 Tryz.prog M k 79 cs):∃x:SF,x.ok M∧cs=x.cells:=by
 obtain⟨k,h⟩:=XV Tryz.underlying79 h;simp only[Q3.HasL]at h;obtain⟨_,_,rfl,h0,_,_,rfl,h1,_,_,rfl,h2,_,_,rfl,h3,_,_,rfl,h4,_,_,rfl,h5,_,_,rfl,h6,_,_,rfl,h7,_,_,rfl,h8,rfl⟩:=h;obtain⟨a0,rfl,w0⟩:=Zh Tryz.underlying3 h0;obtain⟨a1,rfl,w1⟩:=Zi Tryz.underlying9 h1;obtain⟨a2,rfl,w2⟩:=Zh Tryz.underlying3 h2;obtain⟨a3,rfl,w3⟩:=Zh Tryz.underlying3 h3;obtain⟨a4,s4,w4,u4,rfl⟩:=IH h4;obtain⟨a5,rfl,w5⟩:=Zi Tryz.underlying9 h5;obtain⟨a6,rfl⟩:=BY Tryz.underlying4 h6;obtain⟨v7,w7,rfl⟩:=M2 hM h7;obtain⟨k8,l8,rfl,w8,hl8⟩:=Xk Tryz.underlying57 h8;obtain⟨x8,rfl,o8⟩:=Xs (f:=SN.cells) (ok:=SN.ok M) fun c hc=>YO hM (hl8 c hc)
 refine⟨⟨a0,a1,a2,a3,a4,s4,a5,a6,v7,x8⟩,⟨w0,w1,w2,w3,w4,u4,w5,w7,by simpa using w8,o8⟩,?_⟩;simp only[SF.cells,YN]
 try simp only[QY5,QY6]
 try rfl

theorem II {M:Nat}(hM:M=reachBytes∨M≤1048576){k:Nat}{cs:List AV}(h:Q3 Tryz.prog M k 59 cs):∃x:SM,x.ok M∧cs=x.cells:=by
 obtain⟨k,h⟩:=XV Tryz.underlying59 h;simp only[Q3.HasL]at h;obtain⟨_,_,rfl,h0,_,_,rfl,h1,_,_,rfl,h2,_,_,rfl,h3,_,_,rfl,h4,rfl⟩:=h;obtain⟨a0,rfl,w0⟩:=Zi Tryz.underlying9 h0;obtain⟨k1,l1,rfl,w1,hl1⟩:=Xk Tryz.underlying54 h1;obtain⟨k2,l2,rfl,w2,hl2⟩:=Xk Tryz.underlying55 h2;obtain⟨k3,l3,rfl,w3,hl3⟩:=Xk Tryz.underlying56 h3;obtain⟨k4,l4,rfl,w4,hl4⟩:=Xk Tryz.underlying57 h4;obtain⟨x1,rfl,o1⟩:=Xs (f:=SF.cells) (ok:=SF.ok M) fun c hc=>AT hM (hl1 c hc)
 obtain⟨x2,rfl,o2⟩:=Xs (f:=PS.cells) (ok:=PS.ok) fun c hc=>BZ (hl2 c hc)
 obtain⟨x3,rfl,o3⟩:=Xs (f:=fun s:List UInt8=>[AV.str s]) (ok:=fun s=>s.length≤M) fun c hc=>(Zi Tryz.underlying9 (hl3 c hc)).elim fun s h=>⟨s,h.2,h.1⟩
 obtain⟨x4,rfl,o4⟩:=Xs (f:=SN.cells) (ok:=SN.ok M) fun c hc=>YO hM (hl4 c hc)
 refine⟨⟨a0,x1,x2,x3,x4⟩,⟨w0,by simpa using w1,o1,by simpa using w2,o2,by simpa using w3,o3,by simpa using w4,o4⟩,?_⟩;simp only[SM.cells,YN,QD6]
 try simp only[Q0n,QY5,QY6]
 try rfl

theorem AU {M:Nat}(hM:M=reachBytes∨M≤1048576){k:Nat}{cs:List AV}(h:Q3 Tryz.prog M k 123 cs):∃x:SI,x.ok M∧cs=x.cells:=by
 obtain⟨k,h⟩:=XV Tryz.underlying123 h;simp only[Q3.HasL]at h;obtain⟨_,_,rfl,h0,_,_,rfl,h1,_,_,rfl,h2,rfl⟩:=h;obtain⟨a0,rfl,w0⟩:=Zi Tryz.underlying9 h0;obtain⟨a1,rfl,w1⟩:=Zh Tryz.underlying3 h1;obtain⟨k2,l2,rfl,w2,hl2⟩:=Xk Tryz.underlying57 h2;obtain⟨x2,rfl,o2⟩:=Xs (f:=SN.cells) (ok:=SN.ok M) fun c hc=>YO hM (hl2 c hc)
 refine⟨⟨a0,a1,x2⟩,⟨w0,w1,by simpa using w2,o2⟩,?_⟩;simp only[SI.cells,YN]
 try simp only[QY5,QY6]
 try rfl

theorem AW {M:Nat}(hM:M=reachBytes∨M≤1048576){k:Nat}{cs:List AV}(h:Q3 Tryz.prog M k 66 cs):∃x:SE,x.ok M∧cs=x.cells:=by
 obtain⟨k,h⟩:=XV Tryz.underlying66 h;simp only[Q3.HasL]at h;obtain⟨_,_,rfl,h0,_,_,rfl,h1,_,_,rfl,h2,_,_,rfl,h3,_,_,rfl,h4,rfl⟩:=h;obtain⟨a0,rfl,w0⟩:=Zi Tryz.underlying9 h0;obtain⟨a1,rfl⟩:=BY Tryz.underlying4 h1;obtain⟨k2,l2,rfl,w2,hl2⟩:=Xk Tryz.underlying64 h2;obtain⟨k3,l3,rfl,w3,hl3⟩:=Xk Tryz.underlying55 h3;obtain⟨k4,l4,rfl,w4,hl4⟩:=Xk Tryz.underlying57 h4;obtain⟨x2,rfl,o2⟩:=Xs (f:=SI.cells) (ok:=SI.ok M) fun c hc=>AU hM (hl2 c hc)
 obtain⟨x3,rfl,o3⟩:=Xs (f:=PS.cells) (ok:=PS.ok) fun c hc=>BZ (hl3 c hc)
 obtain⟨x4,rfl,o4⟩:=Xs (f:=SN.cells) (ok:=SN.ok M) fun c hc=>YO hM (hl4 c hc)
 refine⟨⟨a0,a1,x2,x3,x4⟩,⟨w0,by simpa using w2,o2,by simpa using w3,o3,by simpa using w4,o4⟩,?_⟩;simp only[SE.cells,YN]
 try simp only[Q0n,QY5,QY6]
 try rfl

theorem IJ {M:Nat}(hM:M=reachBytes∨M≤1048576){k:Nat}{cs:List AV}(h:Q3 Tryz.prog M k 162 cs):∃x:SO,x.ok M∧cs=x.cells:=by
 obtain⟨k,h⟩:=XV Tryz.underlying162 h;simp only[Q3.HasL]at h;obtain⟨_,_,rfl,h0,_,_,rfl,h1,_,_,rfl,h2,_,_,rfl,h3,_,_,rfl,h4,rfl⟩:=h;obtain⟨a0,rfl,w0⟩:=Zi Tryz.underlying9 h0;obtain⟨a1,rfl,w1⟩:=Zi Tryz.underlying9 h1;obtain⟨a2,rfl,w2⟩:=Zi Tryz.underlying9 h2;obtain⟨a3,rfl,w3⟩:=Zh Tryz.underlying3 h3;obtain⟨k4,l4,rfl,w4,hl4⟩:=Xk Tryz.underlying57 h4;obtain⟨x4,rfl,o4⟩:=Xs (f:=SN.cells) (ok:=SN.ok M) fun c hc=>YO hM (hl4 c hc)
 refine⟨⟨a0,a1,a2,a3,x4⟩,⟨w0,w1,w2,w3,by simpa using w4,o4⟩,?_⟩;simp only[SO.cells,YN]
 try simp only[QY5,QY6]
 try rfl

theorem IK {M:Nat}(hM:M=reachBytes∨M≤1048576){k:Nat}{cs:List AV}(h:Q3 Tryz.prog M k 114 cs):∃x:SQ,x.ok M∧cs=x.cells:=by
 obtain⟨k,h⟩:=XV Tryz.underlying114 h;simp only[Q3.HasL]at h;obtain⟨_,_,rfl,h0,_,_,rfl,h1,_,_,rfl,h2,rfl⟩:=h;obtain⟨a0,rfl,w0⟩:=Zi Tryz.underlying9 h0;obtain⟨k1,l1,rfl,w1,hl1⟩:=Xk Tryz.underlying112 h1;obtain⟨k2,l2,rfl,w2,hl2⟩:=Xk Tryz.underlying57 h2;obtain⟨x1,rfl,o1⟩:=Xs (f:=SO.cells) (ok:=SO.ok M) fun c hc=>IJ hM (hl1 c hc)
 obtain⟨x2,rfl,o2⟩:=Xs (f:=SN.cells) (ok:=SN.ok M) fun c hc=>YO hM (hl2 c hc)
 refine⟨⟨a0,x1,x2⟩,⟨w0,by simpa using w1,o1,by simpa using w2,o2⟩,?_⟩;simp only[SQ.cells,YN]
 try simp only[Q0n,QY5,QY6]
 try rfl

theorem P5 {M:Nat}(hM:M=reachBytes∨M≤1048576){k:Nat}{cs:List AV}(h:Q3 Tryz.prog M k 26 cs):∃x:SC,x.ok M∧.agg cs=x.av:=by
 obtain⟨k,h⟩:=XV Tryz.underlying26 h;simp only[Q3.HasL]at h;obtain⟨_,_,rfl,h0,_,_,rfl,h1,_,_,rfl,h2,rfl⟩:=h;obtain⟨k2,l2,rfl,w2,hl2⟩:=Xk Tryz.underlying22 h0;obtain⟨k3,l3,rfl,w3,hl3⟩:=Xk Tryz.underlying23 h1;obtain⟨k4,l4,rfl,w4,hl4⟩:=Xk Tryz.underlying24 h2;obtain⟨x2,rfl,o2⟩:=Xs (f:=SM.cells) (ok:=SM.ok M) fun c hc=>II hM (hl2 c hc)
 obtain⟨x3,rfl,o3⟩:=Xs (f:=SE.cells) (ok:=SE.ok M) fun c hc=>AW hM (hl3 c hc)
 obtain⟨x4,rfl,o4⟩:=Xs (f:=SQ.cells) (ok:=SQ.ok M) fun c hc=>IK hM (hl4 c hc)
 refine⟨⟨x2,x3,x4⟩,⟨by simpa using w2,o2,by simpa using w3,o3,by simpa using w4,o4⟩,?_⟩;simp only[SC.av,Q0n,QY5,QY6];rfl

end Go.Proofs.YtafhmlkilcmniaaGreatDoor.Br

namespace Go.Proofs.YtafhmlkilcmniaaGreatDoor.Va
open Go Am Rc Bt Br Up

theorem Mv:∀r:List R,r.length≤Zv (r.map R.av)
 | []=>QYK _
 |x :: r=>by
  have:=Mv r;simp only[QZh,QYZ,Zv,wt,R.av];omega
mutual
theorem UV:∀v:V,v.cnt≤Zv v.cells
 |.mk k b t l p s r=>by
  have h1:=Mw l;have h2:=Mx p;have h3:=My s;have h4:=Mv r;rw[V.cells,V.cnt];simp only[Zv,wt];omega
theorem Mw:∀l:List V,Xy l≤Zv (V.cl l)
 | []=>QYK _
 |x :: l=>by
  have h1:=UV x;have h2:=Mw l;rw[V.cl,Xy];simp only[Zv,wt];omega
theorem Mx:∀l:List (V×V),XX l≤Zv (V.cp l)
 | []=>QYK _
 |(a,b) :: l=>by
  have h1:=UV a;have h2:=UV b;have h3:=Mx l;rw[V.cp,XX];simp only[Zv,wt,DN];omega
theorem My:∀l:List (Int×V),XI l≤Zv (V.cs l)
 | []=>QYK _
 |(n,a) :: l=>by
  have h1:=UV a;have h3:=My l;rw[V.cs,XI];simp only[Zv,wt];omega
end

end Go.Proofs.YtafhmlkilcmniaaGreatDoor.Va

import Derived.Test.YtmlohboeoeoamaaGreatDoorProg
import Derived.Test.YtmlohboeoeoamaaGreatDoorMLensPasses3
set_option linter.defProp false
namespace Go.Proofs.YtmlohboeoeoamaaGreatDoor
open Go.Proofs.Tryz
set_option linter.unusedSimpArgs false
namespace Tz
open Go Am Bt Tg So
variable {Pg:Program}{cz sr ro sm is st ss:Nat}(hC:Tg.Cs Pg cz sr ro sm is st ss)(aB:cz≠0)
variable {E:AV->Prop}
include hC aB in
theorem S2 {kc:Nat}{c:AV->AV->Int}(hc:Cp Pg cz E kc c){fr:Nat->Ob}{lv s g N a b:Nat}(P X S:List AV){m:Qk}(au:lv<m.length)(he:∀x∈P++X++S,Ez E cz x)
  (hn:(P++X++S).length<4611686018427387904) (hN:N=(P++X++S).length) (ha:a=P.length) (hb:b=P.length+X.length) :
  Qf Pg is [.vec (lv+1) s g 0 N false,.int .i64 (a:Nat),.int .i64 (b:Nat),.fn (.func kc) [] []] (fr :: Am.put m lv s (.vec g cz (P++X++S)))
   (λx m1=>x=.tup []/\m1=fr :: Am.put m lv s (.vec g cz (P++QJ (lt c) X++S))):=by
 have _:=hC;have _:=aB;subst hN ha hb;refine(QkK hC aB hc (lv+1) s g P X S (fr :: Am.put m lv s (.vec g cz (P++X++S))) (Qt (m:=m) au) he hn).mono λx m1 h=>⟨h.1,?_⟩
 exact LE
def St1 (cz:Nat)(m:Qk)(lv s g:Nat)(kc:Nat)(c:AV->AV->Int)(xs:List AV)(k:Nat)(st:St):Prop :=
 ∃f i,st=⟨f,[Qb]++Am.put m lv s (.vec g cz (XM (lt c) 20 i xs++xs.drop (20*i))),[]⟩/\k=xs.length-20*i/\20*i<=xs.length/\
  f 0=.vec (lv+1) s g 0 xs.length false/\f 1=.int .i64 (xs.length:Nat)/\f 2=.fn (.func kc) [] []/\f 6=.int .i64 20/\f 7=.int .i64 ((20*i:Nat):Int)/\f 8=.int .i64 ((20*(i+1):Nat):Int)
def St2 (cz:Nat)(m:Qk)(lv s g:Nat)(kc:Nat)(c:AV->AV->Int)(xs:List AV)(k:Nat)(st:St):Prop :=
 ∃f b n,st=⟨f,[Qb]++Am.put m lv s (.vec g cz (XM (lt c) b n xs)),[]⟩/\k=xs.length-b/\0<b/\b<2305843009213693952/\xs.length<=b*n/\
  f 0=.vec (lv+1) s g 0 xs.length false/\f 1=.int .i64 (xs.length:Nat)/\f 2=.fn (.func kc) [] []/\f 6=.int .i64 (b:Nat)
def St3 (cz:Nat)(m:Qk)(lv s g:Nat)(kc:Nat)(c:AV->AV->Int)(xs:List AV)(b:Nat)(k:Nat)(st:St):Prop :=
 ∃f i n,st=⟨f,[Qb]++Am.put m lv s (.vec g cz (XM (lt c) (2*b) i xs++XM (lt c) b n (xs.drop (2*b*i)))),[]⟩/\k=xs.length-2*b*i/\2*b*i<=xs.length/\xs.length-2*b*i<=b*n/\
  f 0=.vec (lv+1) s g 0 xs.length false/\f 1=.int .i64 (xs.length:Nat)/\f 2=.fn (.func kc) [] []/\f 6=.int .i64 (b:Nat)/\f 7=.int .i64 ((2*b*i:Nat):Int)/\f 8=.int .i64 ((2*b*(i+1):Nat):Int)
set_option maxHeartbeats 1000000 in
include hC aB in
theorem QkO {kc:Nat}{c:AV->AV->Int}(hc:Cp Pg cz E kc c)(lv s g:Nat)(xs:List AV)(m:Qk)(hl:Am.Qc m lv s=.vec g cz xs)(he:∀x∈xs,Ez E cz x)
  (hn:xs.length<1152921504606846976) :
  Qf Pg st [.vec lv s g 0 xs.length false,.int .i64 (xs.length:Nat),.fn (.func kc) [] []] m
   (λx m1=>x=.tup []/\m1=Am.put m lv s (.vec g cz (QJ (lt c) xs))):=by
 have _:=hC;have _:=aB;have au:lv<m.length:=Xy è;refine hC.cst.go ό ?_;have h0:m=Am.put m lv s (.vec g cz xs):=(put_self hl).symm;simp only[rst,QcL,QcM,Qa,seval];refine Qj (St1 cz m lv s g kc c xs) _ ⟨_,0,by rw[show XM (lt c) 20 0 xs++xs.drop (20*0)=xs by simp[XM],<-h0]<;>rfl,rfl,ψ,ϋ,ϋ,ϋ,ϋ,ϒ,ϒ⟩ ?_;clear h0;rintro k st ⟨f,i,rfl,rfl,hi,f0,f1,f2,f6,f7,f8⟩;simp only[QcR,QcN,f1,f8,Qa,seval];have cE:(XM (lt c) 20 i xs).length=20*i:=by rw[FB];omega
 by_cases aa:20*(i+1)<=xs.length
 ·have d0:decide (((20*(i+1):Nat):Int)<=(xs.length:Int))=true:=ϟ
  have e1:IntKind.i64.wrap (((20*(i+1):Nat):Int)+20)=((20*(i+1+1):Nat):Int):=ϐ
  have dJ:XM (lt c) 20 i xs++xs.drop (20*i)=XM (lt c) 20 i xs++(xs.drop (20*i)).take 20++xs.drop (20*(i+1)):=by
   rw[Qnw,show 20*(i+1)=20*i+20 by omega,<-QnG,Qou]
  have bE:((xs.drop (20*i)).take 20).length=20:=by rw[Qn8,QnS];omega
  have gB:∀x∈XM (lt c) 20 i xs++(xs.drop (20*i)).take 20++xs.drop (20*(i+1)),Ez E cz x:=by
   intro x hx;refine he x ?_;rcases Qow.1 hx with hx|hx
   ·rcases Qow.1 hx with hx|hx
    ·exact Uy hx
    ·exact QnY (QnZ hx)
   ·exact QnY hx
  have gJ:(XM (lt c) 20 i xs++(xs.drop (20*i)).take 20++xs.drop (20*(i+1))).length=xs.length:=by
   rw[QnP,QnP,bE,cE,QnS];omega
  simp only[d0,dJ,QcO,f0,f2,f7,f8,Qa,seval];refine Qh (S2 hC aB hc (a:=20*i) (b:=20*(i+1)) (XM (lt c) 20 i xs) ((xs.drop (20*i)).take 20) (xs.drop (20*(i+1))) au gB ψ gJ.symm cE.symm (by rw[cE,bE];omega)) rfl ?_;simp only[QcP,QcQ,e1,f6,f8,Qa,seval];exact⟨xs.length-20*(i+1),ψ,_,i+1,by rw[GG]<;>rfl,rfl,aa,ϙ,ϩ,ϥ,ķ,ϋ,ϋ⟩
 ·have d0:decide (((20*(i+1):Nat):Int)<=(xs.length:Int))=false:=Ϣ
  have gB:∀x∈XM (lt c) 20 i xs++xs.drop (20*i)++[],Ez E cz x:=by
   intro x hx;refine he x ?_;rw[Qof]at hx;rcases Qow.1 hx with hx|hx
   ·exact Uy hx
   ·exact QnY hx
  have gJ:(XM (lt c) 20 i xs++xs.drop (20*i)++[]).length=xs.length:=by
   rw[Qof,QnP,cE,QnS];omega
  have sN:=S2 hC aB hc (fr:=Qb) (g:=g) (s:=s) (N:=xs.length) (a:=20*i) (b:=xs.length) (XM (lt c) 20 i xs) (xs.drop (20*i)) [] au gB ψ gJ.symm cE.symm (by rw[cE,QnS];omega);have uK:XM (lt c) 20 i xs++QJ (lt c) (xs.drop (20*i))=XM (lt c) 20 (i+1) xs:=by
   rw[GG,QnL ý]
  rw[Qof,Qof,uK]at sN;simp only[d0,QcS,f0,f1,f2,f7,Qa,seval];refine Qh sN rfl ?_;simp only[Qa,seval];refine Qj (St2 cz m lv s g kc c xs) _ ⟨_,20,i+1,rfl,rfl,ψ,ψ,ψ,ϙ,ϩ,ϥ,by simp only[f6,Qa,seval]<;>rfl⟩ ?_;clear f0 f1 f2 f6 f7 f8 sN uK gJ gB d0 aa cE hi f i;rintro k st ⟨f,b,n,rfl,rfl,qF,fW,qo,f0,f1,f2,f6⟩;simp only[QcX,QcT,f1,f6,Qa,seval];by_cases aa:b<xs.length
  ·have d0:decide ((b:Int)<(xs.length:Int))=true:=ϟ
   have e1:IntKind.i64.wrap (2*(b:Int))=((2*b:Nat):Int):=ϐ
   have vf:IntKind.i64.wrap ((b:Int)*2)=((2*b:Nat):Int):=ϐ
   simp only[d0,QcU,e1,f6,Qa,seval];refine Qj (St3 cz m lv s g kc c xs b) _ ⟨_,0,n,by simp only[XM,Nat.mul_zero,QnT,Qny]<;>rfl,rfl,ψ,ψ,ϙ,ϩ,ϥ,ķ,ϒ,by simp only[QnA,Nat.mul_one,Qa,seval]⟩ ?_;clear f0 f1 f2 f6 f;rintro k st ⟨f,i,n',rfl,rfl,hi,eO,f0,f1,f2,f6,f7,f8⟩;have lj:2*b*(i+1)=2*b*i+2*b:=Nat.mul_succ _ _;have vR:2*b*(i+1+1)=2*b*i+2*b+2*b:=by rw[Nat.mul_succ,lj]
   have cE:(XM (lt c) (2*b) i xs).length=2*b*i:=by rw[FB];omega
   have l8:=GG (lt:=lt c) (2*b) i xs;rw[lj]at f8;clear qo;generalize hA:2*b*i=A at *;simp only[QcW,QcV,f1,f8,Qa,seval];generalize hL:xs.drop A=L at *;have uz:L.length=xs.length-A:=by rw[<-hL,QnS]
   have uS:∀z∈L,Ez E cz z:=λz hz=>he z (QnY (by rw[hL];exact hz))
   have vp:∀z∈XM (lt c) (2*b) i xs,Ez E cz z:=λz hz=>he z (Uy hz)
   have e2:IntKind.i64.wrap (((A:Nat):Int)+(b:Int))=((A+b:Nat):Int):=ϐ
   -- ZE blocks and the rest
   have ZE:b<L.length->∃g_,n'=g_+2/\XM (lt c) b n' L=QJ (lt c) (L.take b)++QJ (lt c) ((L.drop b).take b)++XM (lt c) b g_ (L.drop (2*b))/\mg (lt c) (QJ (lt c) (L.take b)) (QJ (lt c) ((L.drop b).take b))=QJ (lt c) (L.take (2*b)):=by
    intro h
    match n',eO with
    |0,eO=>omega
    |1,eO=>omega
    |g_+2,_=>
     refine⟨g_,rfl,?_,?_⟩
     ·rw[XM,XM,Qnw,QnG,show b+b=2*b by omega]
     ·rw[YJ hc.sw,QaR]
   by_cases kI:A+2*b<=xs.length
   ·have d1:decide (((A+2*b:Nat):Int)<=(xs.length:Int))=true:=ϟ
    obtain⟨g_,rfl,ae,kD⟩:=ZE ψ;have qj:b*(g_+2)=b*g_+2*b:=by rw[Nat.mul_add,Nat.mul_comm b 2]
    rw[qj]at eO;clear ZE;generalize hZ:b*g_=Z at *;have e3:IntKind.i64.wrap (((A+2*b:Nat):Int)+((2*b:Nat):Int))=((A+2*b+2*b:Nat):Int):=by
     rw[QD];omega
    have l1:(QJ (lt c) (L.take b)).length=b:=by rw[Wg,Qn8];omega
    have l2:(QJ (lt c) ((L.drop b).take b)).length=b:=by rw[Wg,Qn8,QnS];omega
    have l3:(XM (lt c) b g_ (L.drop (2*b))).length=L.length-2*b:=by
     rw[FB,QnS,hZ];omega
    have dJ:XM (lt c) (2*b) i xs++XM (lt c) b (g_+2) L=XM (lt c) (2*b) i xs++QJ (lt c) (L.take b)++QJ (lt c) ((L.drop b).take b)++XM (lt c) b g_ (L.drop (2*b)):=by
     rw[ae];simp only[Qnw]
    have gB:∀x∈XM (lt c) (2*b) i xs++QJ (lt c) (L.take b)++QJ (lt c) ((L.drop b).take b)++XM (lt c) b g_ (L.drop (2*b)),Ez E cz x:=by
     rw[<-dJ];intro x hx;rcases Qow.1 hx with hx|hx
     ·exact vp x hx
     ·exact uS x (Uy hx)
    have gJ:(XM (lt c) (2*b) i xs++QJ (lt c) (L.take b)++QJ (lt c) ((L.drop b).take b)++XM (lt c) b g_ (L.drop (2*b))).length=xs.length:=by
     rw[QnP,QnP,QnP,l1,l2,l3,cE];omega
    simp only[d1,dJ,e2,Le,f0,f2,f6,f7,f8,Qa,seval];refine Qh (GN hC aB (sym hC aB hc _) (a:=A) (b:=A+b) (e:=A+2*b) (XM (lt c) (2*b) i xs) (QJ (lt c) (L.take b)) (QJ (lt c) ((L.drop b).take b)) (XM (lt c) b g_ (L.drop (2*b))) au rfl ψ ψ gB ψ (X5 hc.sw _) (X5 hc.sw _) gJ.symm cE.symm (by rw[cE,l1]) (by rw[cE,l1,l2];omega)) rfl ?_;simp only[Lf,Lg,e1,e3,f6,f8,Qa,seval];refine⟨xs.length-(A+2*b),ψ,_,i+1,g_,by rw[l8,kD,lj,<-QnG,hL]<;>rfl,by rw[lj],by rw[lj];exact kI,?_,ϙ,ϩ,ϥ,ķ,by simp only[lj,Qa,seval],by simp only[vR,Qa,seval]⟩
    ·rw[lj,hZ];omega
   ·have d1:decide (((A+2*b:Nat):Int)<=(xs.length:Int))=false:=Ϣ
    have bc:XM (lt c) (2*b) i xs++QJ (lt c) L=XM (lt c) (2*b) (i+1) xs:=by
     rw[l8,QnL ψ]
    simp only[d1,e2,Lh,Li,f1,f6,f7,Qa,seval];by_cases hm:A+b<xs.length
    ·have d2:decide (((A+b:Nat):Int)<(xs.length:Int))=true:=ϟ
     obtain⟨g_,rfl,ae,kD⟩:=ZE ψ;clear ZE eO;have kA:L.drop (2*b)=[]:=QnO ψ;have bj:(L.drop b).take b=L.drop b:=QnL ý;have cZ:L.take (2*b)=L:=QnL ψ;rw[kA,VK,Qof,bj]at ae;rw[bj,cZ]at kD;have l1:(QJ (lt c) (L.take b)).length=b:=by rw[Wg,Qn8];omega
     have l2:(QJ (lt c) (L.drop b)).length=L.length-b:=by rw[Wg,QnS]
     have gB:∀x∈XM (lt c) (2*b) i xs++QJ (lt c) (L.take b)++QJ (lt c) (L.drop b)++[],Ez E cz x:=by
      intro x hx;rw[Qof,Qnw,<-ae]at hx;rcases Qow.1 hx with hx|hx
      ·exact vp x hx
      ·exact uS x (Uy hx)
     have gJ:(XM (lt c) (2*b) i xs++QJ (lt c) (L.take b)++QJ (lt c) (L.drop b)++[]).length=xs.length:=by
      rw[Qof,QnP,QnP,l1,l2,cE];omega
     have fQ:=GN hC aB (sym hC aB hc _) (fr:=Qb) (s:=s) (g:=g) (N:=xs.length) (a:=A) (b:=A+b) (e:=xs.length) (XM (lt c) (2*b) i xs) (QJ (lt c) (L.take b)) (QJ (lt c) (L.drop b)) [] au rfl ψ ψ gB ψ (X5 hc.sw _) (X5 hc.sw _) gJ.symm cE.symm (by rw[cE,l1]) (by rw[cE,l1,l2];omega);rw[Qof,Qof,kD,bc,Qnw,<-ae]at fQ;simp only[d2,Lj,f0,f1,f2,f7,Qa,seval];refine Qh fQ rfl ?_;simp only[PU,vf,f6,Qa,seval];exact gt
    ·have d2:decide (((A+b:Nat):Int)<(xs.length:Int))=false:=Ϣ
     have ae:XM (lt c) b n' L=QJ (lt c) L:=SO ψ ψ;simp only[d2,ae,bc,PU,vf,f6,Qa,seval];exact gt
  ·have d0:decide ((b:Int)<(xs.length:Int))=false:=Ϣ
   have bc:XM (lt c) b n xs=QJ (lt c) xs:=SO ψ qo;simp only[d0,bc,put_len,ost,Qa,seval]
include hC aB in
theorem A2 {kc:Nat}{c:AV->AV->Int}(hc:Cp Pg cz E kc c)(lv s g:Nat)(xs:List AV)(m:Qk)(hl:Am.Qc m lv s=.vec g cz xs)(he:∀x∈xs,Ez E cz x)
  (hn:xs.length<1152921504606846976) :
  Qf Pg ss [.vec lv s g 0 xs.length false,.fn (.func kc) [] []] m
   (λx m1=>x=.tup []/\m1=Am.put m lv s (.vec g cz (QJ (lt c) xs))):=by
 have _:=hC;have _:=aB;have au:lv<m.length:=Xy è;refine hC.css.go ό ?_;have dO:Am.Qc (Qb :: m) (lv+1) s=.vec g cz xs:=hl;simp only[QcY,rss,oss,dO,Qa,seval];refine Qh ((QkO hC aB hc (lv+1) s g xs (Qb :: m) hl he hn).mono λx m1 h=>⟨h.1,h.2.trans rfl⟩) rfl ?_;simp only[Am.put,put_len,Qa,seval]
end Tz
namespace Tg
open Go Am
def Qhx:Cs prog 4 311 258 161 160 104 56 where
 csr:=ck func311 ntmps311 (by decide +kernel)
 cro:=ck func258 ntmps258 (by decide +kernel)
 csm:=ck func161 ntmps161 (by decide +kernel)
 cis:=ck func160 ntmps160 (by decide +kernel)
 cst:=ck func104 ntmps104 (by decide +kernel)
 css:=ck func56 ntmps56 (by decide +kernel)
def Qgc:Cs prog 8 350 305 245 244 150 96 where
 csr:=ck func350 ntmps350 (by decide +kernel)
 cro:=ck func305 ntmps305 (by decide +kernel)
 csm:=ck func245 ntmps245 (by decide +kernel)
 cis:=ck func244 ntmps244 (by decide +kernel)
 cst:=ck func150 ntmps150 (by decide +kernel)
 css:=ck func96 ntmps96 (by decide +kernel)
def Lk:Cs prog 14 370 351 307 306 246 153 where
 csr:=ck func370 ntmps370 (by decide +kernel)
 cro:=ck func351 ntmps351 (by decide +kernel)
 csm:=ck func307 ntmps307 (by decide +kernel)
 cis:=ck func306 ntmps306 (by decide +kernel)
 cst:=ck func246 ntmps246 (by decide +kernel)
 css:=ck func153 ntmps153 (by decide +kernel)
end Tg
namespace Rc
open Go Am Cg
end Rc
namespace Va
open Go Am Rc Bt Br Up So
section
variable {α β:Type}{lt:β->β->Bool}{qK:α->α->Bool}{F:α->β}(h:∀x y,lt (F x) (F y)=qK x y)
include h
theorem PW (a:α):∀l:List α,Z3 lt (F a) (l.map F)=(Z3 qK a l).map F
 | []=>rfl
 |x :: l=>by
  rw[QnJ,Z3,Z3,h x a];cases qK x a
  ·rfl
  ·show F x :: Z3 lt (F a) (l.map F)=_;rw[PW a l];rfl
theorem Ut:∀l:List α,QJ lt (l.map F)=(QJ qK l).map F
 | []=>rfl
 |a :: l=>by
  rw[QnJ,QJ,Ut l,PW h a];rfl
end
def PX {α β:Type}{lt:β->β->Bool}(h:SW lt)(f:α->β):SW λx y=>lt (f x) (f y) where
 irr _:=h.irr _
 tr _ _ _:=h.tr _ _ _
 nt _ _ _:=h.nt _ _ _
def Qgd:SW λa b:Int=>decide (a<b) where
 irr x:=ό
 tr x y z h k:=ĩ
 nt x y z h k:=Ī
def C8 (a b:Int):decide (cN a b<0)=decide (a<b):=by
 unfold cN;split
 ·rename_i h;simp[h]
 ·rename_i h;split<;>simp[h]
def QcZ (a b:List UInt8):decide (cS a b<0)=Op.bytesLess a b:=by
 unfold cS;cases Op.bytesLess a b
 ·cases(a==b)<;>simp
 ·simp
def DY {z:Nat}(hz:z≠0){xs:List AV}(h:xs.all (λe=>e.cells.length==z)=true)(hf:QU xs=[]):xs=[]:=by
 cases xs with
 |nil=>rfl
 |cons x xs=>
  have hl:x.cells.length=z:=ü
  have:x.cells=[]:=(List.append_eq_nil_iff.1 hf).1;rw[this]at hl;exact absurd hl.symm hz
def v51 (xs:List AV)(fr:Nat->Ob)(m:Qk)(h:xs.all (λe=>e.cells.length==4)=true)(hn:xs.length<=1048576)(hr:Qn (fr 1000)=true) :
  Qf prog 51 [.list xs] (fr :: m) (λx m1=>x=.vec 0 1000 (XO (fr 1000)) 0 xs.length false/\m1=QL fr 1000 (.vec (XO (fr 1000)) 4 xs) :: m):=by
 have eH:QB (fr :: m) 0 1000=XO (fr 1000):=Kp;refine k51.go ό ?_;simp only[r51,An,Ao,Qa,seval];refine KC (ys:=xs) ϋ ?_ ?_
 ·exact zq
 ·intro he;have hx:xs=[]:=by
   exact Ow
  subst hx;simp only[Ap,Qa,seval];refine ZW ϋ rfl ?_;simp only[Qa,seval];refine ZC (l:=0) (site:=2) (g:=1) (o:=0) (n:=0) (q:=false) (sz:=4) (xs:=[]) ϋ ϋ ό ϊ hr ?_;simp only[eH,SA,eE,seval]
  try simp[AV.still,AV.un,ZO,XZ]
def v95 (xs:List AV)(fr:Nat->Ob)(m:Qk)(h:xs.all (λe=>e.cells.length==8)=true)(hn:xs.length<=1048576)(hr:Qn (fr 1000)=true) :
  Qf prog 95 [.list xs] (fr :: m) (λx m1=>x=.vec 0 1000 (XO (fr 1000)) 0 xs.length false/\m1=QL fr 1000 (.vec (XO (fr 1000)) 8 xs) :: m):=by
 have eH:QB (fr :: m) 0 1000=XO (fr 1000):=Kp;refine k95.go ό ?_;simp only[Ia,C4,C5,Qa,seval];refine KC (ys:=xs) ϋ ?_ ?_
 ·exact zt
 ·intro he;have hx:xs=[]:=by
   exact Ow
  subst hx;simp only[Av,Qa,seval];refine ZW ϋ rfl ?_;simp only[Qa,seval];refine ZC (l:=0) (site:=2) (g:=1) (o:=0) (n:=0) (q:=false) (sz:=8) (xs:=[]) ϋ ϋ ό ϊ hr ?_;simp only[eH,MP,eE,seval]
  try simp[AV.still,AV.un,ZO,XZ]
def Qge (xs:List AV)(fr:Nat->Ob)(m:Qk)(h:xs.all (λe=>e.cells.length==14)=true)(hn:xs.length<=1048576)(hr:Qn (fr 1000)=true) :
  Qf prog 152 [.list xs] (fr :: m) (λx m1=>x=.vec 0 1000 (XO (fr 1000)) 0 xs.length false/\m1=QL fr 1000 (.vec (XO (fr 1000)) 14 xs) :: m):=by
 have eH:QB (fr :: m) 0 1000=XO (fr 1000):=Kp;refine Qfc.go ό ?_;simp only[Qau,Ib,Ic,Qa,seval];refine KC (ys:=xs) ϋ ?_ ?_
 ·simp only[Ig,Qa,seval];refine Jt rfl ?_;simp only[Qa,seval];refine QP (site:=5) (g:=1) (xs:=[]) (ys:=xs) rfl rfl rfl rfl rfl h Δ Ϗ ?_;simp only[Qa,seval];refine ZC (l:=0) (site:=5) (g:=2) (o:=0) (n:=xs.length) (q:=false) (sz:=14) (xs:=xs) ñ ϋ ό ϊ hr ?_;simp only[eH,Ax,eE,seval]
  try simp[AV.still,AV.un,ZO,XZ]
 ·intro he;have hx:xs=[]:=by
   exact Ow
  subst hx;simp only[Ie,Qa,seval];refine ZW ϋ rfl ?_;simp only[Qa,seval];refine ZC (l:=0) (site:=2) (g:=1) (o:=0) (n:=0) (q:=false) (sz:=14) (xs:=[]) ϋ ϋ ό ϊ hr ?_;simp only[eH,Ax,eE,seval]
  try simp[AV.still,AV.un,ZO,XZ]
section rows
variable {fr:Nat->Ob}{m:Qk}{s g z n i:Nat}{xs l:List AV}
def Qa9 (h:fr s=.vec g z xs)(hi:i<n):Qg (fr :: m) z none (.vec 0 s g 0 n false) ((i:Nat):Int)=some (.vptr 0 s g i 0):=by
 have e:Am.Qc (fr :: m) 0 s=.vec g z xs:=h;exact ι
def PY {k:Nat}(h:fr s=.vec g z xs)(hx:xs[i]? = some (.agg l))(hk:k<=l.length):XH (fr :: m) (some k) (.vptr 0 s g i 0)=some (.agg (l.take k)):=by
 have e:Am.Qc (fr :: m) 0 s=.vec g z xs:=h;simp only[XH,e,if_true,hx,Am.part];show(if 0+k<=l.length then some (AV.agg ((l.drop 0).take k))else none)=_;rw[Qnj ψ,QnT]
def QkP {o:Nat}(h:fr s=.vec g z xs)(hx:xs[i]? = some (.agg l)):XH (fr :: m) none (.vptr 0 s g i o)=l[o]?:=by
 have e:Am.Qc (fr :: m) 0 s=.vec g z xs:=h;simp only[XH,e,if_true,hx,Am.part,AV.cells]
end rows
def eS (x:AV):Prop:=∃s:Int×V,x=V.sav s
def Qhy (s:Int×V):Ez eS 8 (V.sav s):=by
 refine⟨⟨s,rfl⟩,?_⟩;rw[Jo];exact⟨_,rfl,rfl,rfl,rfl,λ_=>rfl⟩
def nA:AV->Int
 |.agg (.int _ n :: _)=>n
 |_=>0
def cA (x y:AV):Int:=cN (nA x) (nA y)
def A3 (x y:AV):Tz.lt cA x y=decide (nA x<nA y):=C8 _ _
def Qc0:SW (Tz.lt cA):=by
 have e:Tz.lt cA=λx y=>decide (nA x<nA y):=by funext x y;exact A3 x y
 rw[e];exact PX Qgd nA
def N8 (s:Int×V):nA (V.sav s)=s.1:=ċ
def v97 (x y:Int×V):Qi prog 97 [V.sav x,V.sav y] (.int .i64 (cN x.1 y.1)):=by
 rw[Jo,Jo];refine wF func97 ?_;simp only[eK,f97,seval];simp only[eE,seval];refine aC (v58 x.1 y.1) ?_;simp only[Qa,seval]
def QkQ:Tz.Cp prog 8 eS 97 cA where
 call x y hx hy:=by
  obtain⟨s,rfl⟩:=hx.1;obtain⟨t,rfl⟩:=hy.1;unfold cA;rw[N8,N8];exact v97 s t
 sw:=Qc0
def Qba (l:List (Int×V)):QJ (Tz.lt cA) (l.map V.sav)=(WU l).map V.sav:=Ut (λx y=>by rw[A3,N8,N8]) l
def Yt (l:List (Int×V)):(l.map V.sav).all (λe=>e.cells.length==8)=true:=by
 rw[List.all_map,Qno];intro x _;simp[Jo,AV.cells]
def ezS (l:List (Int×V)):∀x∈l.map V.sav,Ez eS 8 x:=by
 intro x hx;obtain⟨s,_,rfl⟩:=Qox.1 hx;exact Qhy s
def SoI (T:List (Int×V))(k:Nat)(st:St):Prop :=
 ∃f fr i g h,st=⟨f,[fr],[]⟩/\k=T.length-i/\i<=T.length/\f 3=.vec 0 1000 g 0 T.length false/\f 4=.vec 0 4 h 0 i false/\f 11=.vec 0 1000 g 0 T.length false/\f 12=.int .i64 (T.length:Nat)/\f 13=.int .i64 (i:Nat)/\fr 1000=.vec g 8 (T.map V.sav)/\fr 4=.vec h 8 ((T.take i).map V.sav)/\∀s∈[6],(fr s).isRow=false
def v52 (sl:List (Int×V))(hn:sl.length<=1048576)(hu:sl.Pairwise λy x=>(y.1==x.1)=false):Qi prog 52 [.list (sl.map V.sav)] (.list ((WU sl).map V.sav)):=by
 have cl:=λfr hr=>v95 (sl.map V.sav) fr [] (Yt sl) (by rw[Qn6];exact hn) hr
 have cs:=λg (m:Qk) (hl:Am.Qc m 0 1000=.vec g 8 (sl.map V.sav))=>Tz.A2 Tg.Qgc ϊ QkQ 0 1000 g (sl.map V.sav) m hl (ezS sl) Ω
 simp only[Qba,Qn6]at cs;have aF:(WU sl).Perm sl:=QN _;have hlen:(WU sl).length=sl.length:=aF.length_eq;have dB:(WU sl).Pairwise λy x=>(y.1==x.1)=false:=(aF.pairwise_iff λ{a b} h=>by rw[Qpw];exact h).2 hu
 generalize WU sl=T at *;refine wF func52 ?_;simp only[eK,f52,seval];simp only[Qa,seval];refine Qh (cl _ rfl) ϑ ?_;simp only[Qn6,Qa,seval];refine Qh (cs _ _ Ĕ) ϑ ?_;simp only[eE,seval];refine ZW ϋ ϋ ?_;simp only[eE,seval];refine Qj (SoI T) _ ⟨_,_,0,_,_,rfl,rfl,Qnk _,Ϻ,ω,Ϻ,Ϻ,ω,ω,ω,ϛ⟩ ?_;rintro _ st ⟨f0,bA,i,g,h,rfl,rfl,bg,ax,aS,aU,aG,aT,cF,b_,r6⟩;refine QR (a:=_) [6] r6 ?_;intro f fr hf hm gg;have h3:f 3=.vec 0 1000 g 0 T.length false:=Ϥ
 have h4:f 4=.vec 0 4 h 0 i false:=ϱ
 have aI:f 11=.vec 0 1000 g 0 T.length false:=Ë
 have h12:f 12=.int .i64 (T.length:Nat):=Ì
 have h13:f 13=.int .i64 (i:Nat):=Û
 have mR:fr 1000=.vec g 8 (T.map V.sav):=Ι
 have m4:fr 4=.vec h 8 ((T.take i).map V.sav):=ϝ
 have n6:=gg 6 ϊ;clear hf hm gg ax aS aU aG aT cF b_ r6;simp only[h12,h13,Qa,seval];by_cases aa:i<T.length
 ·obtain⟨x,hi⟩:∃x,T[i]? = some x:=⟨T[i],Qnb aa⟩;have hg:=Wy hi;have e1:=Qv i _ aa ώ;have ia:∀(fr:Nat->Ob) (j:Nat),fr 1000=.vec g 8 (T.map V.sav)->j<T.length->Qg [fr] 8 none (.vec 0 1000 g 0 T.length false) ((j:Nat):Int)=some (.vptr 0 1000 g j 0):=λfr j h hj=>Qa9 h hj
  have la:∀(fr:Nat->Ob),fr 1000=.vec g 8 (T.map V.sav)->XH [fr] (some 8) (.vptr 0 1000 g i 0)=some (.agg [.int .i64 x.1,.int .i64 x.2.kd,.int .u64 (x.2.bits:Nat),.str x.2.text,.list (x.2.list.map V.av),.list (x.2.pairs.map V.pav),.list (x.2.slots.map V.sav),.list (x.2.raws.map R.av)]):=λfr h=>PY h hg ό
  have fin:∀(f':Fr) (ag:Nat->Ob) (h':Nat),f' 3=.vec 0 1000 g 0 T.length false->f' 4=.vec 0 4 h' 0 (i+1) false->f' 11=.vec 0 1000 g 0 T.length false->f' 12=.int .i64 (T.length:Nat)->f' 13=.int .i64 ((i+1:Nat):Int)->ag 1000=.vec g 8 (T.map V.sav)->ag 4=.vec h' 8 ((T.take i).map V.sav++[V.sav x])->(∀s∈[6],(ag s).isRow=false)->∃k,k<T.length-i/\SoI T k ⟨f',[ag],[]⟩:=by
   exact O5
  have dA:((T.take i).map V.sav).length=i:=Ρ
  simp only[QE aa,ia,la,mR,aa,n6,h3,aI,h13,e1,eE,seval];by_cases hl:i+1=T.length
  ·have d1:(((i+1:Nat):Int)==(T.length:Int))=true:=Ϗ
   simp only[d1,h4,eE,seval];refine QV (l:=[V.sav x]) rfl rfl rfl ċ ?_;refine QP (site:=4) (g:=h) (n:=i) (xs:=(T.take i).map V.sav) (ys:=[V.sav x]) ω Φ rfl dA.symm rfl (Yt [x]) ϔ Ϙ ?_;exact zj
  ·have d1:(((i+1:Nat):Int)==(T.length:Int))=false:=Ϗ
   have fw:i+1<T.length:=ψ
   obtain⟨y,hj⟩:∃y,T[i+1]? = some y:=⟨T[i+1],Qnb fw⟩;have g8:=Wy hj;have lc:∀(fr:Nat->Ob),fr 1000=.vec g 8 (T.map V.sav)->XH [fr] none (.vptr 0 1000 g (i+1) 0)=some (.int .i64 y.1):=λfr h=>QkP h g8
   have aq:(x.1 != y.1)=true:=by
    rw[Qpr]at dB;have:=dB i (i+1) aa fw ψ;rw[(Qna.1 hi).2,(Qna.1 hj).2]at this
    simpa using this
   simp only[d1,ia,lc,mR,fw,aq,Y8,QnA,h3,h4,e1,eE,seval];refine QV (l:=[V.sav x]) rfl rfl rfl ċ ?_;refine QP (site:=4) (g:=h) (n:=i) (xs:=(T.take i).map V.sav) (ys:=[V.sav x]) ω Φ rfl dA.symm rfl (Yt [x]) ϔ Ϙ ?_;exact zj
 ·have e:i=T.length:=ψ
  subst e;rw[QoT]at m4;exact P_
def eP (P:PL)(k:Int)(x:AV):Prop:=∃p:V×V,x=V.pav p/\p.1.kx P k/\p.1.bits<18446744073709551616
def ezP {P:PL}{k:Int}{p:V×V}(h:p.1.kx P k)(hb:p.1.bits<18446744073709551616):Ez (eP P k) 14 (V.pav p):=by
 refine⟨⟨p,rfl,h,hb⟩,?_⟩;rw[Jn];exact⟨_,rfl,rfl,rfl,rfl,λ_=>rfl⟩
def kV:AV->V
 |.agg (_ :: .int _ b :: .str t :: _)=>.mk 0 b.toNat t [] [] [] []
 |_=>.mk 0 0 [] [] [] [] []
def N9 (p:V×V):kV (V.pav p)=.mk 0 p.1.bits p.1.text [] [] [] []:=Ħ
def cP (k:Int)(x y:AV):Int:=F4 k (kV x).bits (kV x).text (kV y).bits (kV y).text
def Ll (k:Int)(a b:V):decide (F4 k a.bits a.text b.bits b.text<0)=kl k a b:=by
 unfold F4 kl;split
 ·exact QcZ _ _
 ·split
  ·exact C8 _ _
  ·exact C8 _ _
def Qhz (k:Int):SW (Tz.lt (cP k)):=by
 have e:Tz.lt (cP k)=λx y=>kl k (kV x,kV x).1 (kV y,kV y).1:=by funext x y;exact Ll k _ _
 rw[e];exact PX (KE k) λx=>(kV x,kV x)
def QkR {P:PL}{k:Int}(hk:XS k)(x y:V×V)(hx:x.1.kx P k)(hy:y.1.kx P k):Qi prog 154 [V.pav x,V.pav y] (.int .i64 (F4 k x.1.bits x.1.text y.1.bits y.1.text)):=by
 have h:=QfW k hk x.1.bits y.1.bits x.1.text y.1.text;rw[<-(K0 hx).1,<-(K0 hy).1,Qd,Qd]at h;rw[Jn,Jn];refine wF func154 ?_;simp only[eK,f154,seval];simp only[QnK,Qol,QnT,eE,seval];refine aC h ?_;simp only[Qa,seval]
def Qgf {P:PL}{k:Int}(hk:XS k):Tz.Cp prog 14 (eP P k) 154 (cP k) where
 call x y hx hy:=by
  obtain⟨p,rfl,h1,_⟩:=hx.1;obtain⟨q,rfl,h2,_⟩:=hy.1;unfold cP;rw[N9,N9];exact QkR hk p q h1 h2
 sw:=Qhz k
def PZ (k:Int)(l:List (V×V)):QJ (Tz.lt (cP k)) (l.map V.pav)=(QY k l).map V.pav:=Ut (λx y=>by
 show decide (cP k (V.pav x) (V.pav y)<0)=_;unfold cP;rw[N9,N9];exact Ll k x.1 y.1) l
def J8 (l:List (V×V)):(l.map V.pav).all (λe=>e.cells.length==14)=true:=by
 rw[List.all_map,Qno];intro x _;simp[Jn,AV.cells]
def PoI (T:List (V×V))(k:Nat)(st:St):Prop :=
 ∃f fr i g h,st=⟨f,[fr],[]⟩/\k=T.length-i/\i<=T.length/\f 3=.vec 0 1000 g 0 T.length false/\f 4=.vec 0 4 h 0 i false/\f 11=.vec 0 1000 g 0 T.length false/\f 12=.int .i64 (T.length:Nat)/\f 13=.int .i64 (i:Nat)/\fr 1000=.vec g 14 (T.map V.pav)/\fr 4=.vec h 14 ((T.take i).map V.pav)/\∀s∈[6],(fr s).isRow=false
def QkS {P:PL}{k:Int}(hk:XS k)(ps:List (V×V))(hn:ps.length<=1048576)(h1:∀p∈ps,p.1.kx P k)(hb:∀p∈ps,p.1.bits<18446744073709551616)(hu:ps.Pairwise λq p=>XJ q.1 p.1=false):Qi prog 101 [.list (ps.map V.pav)] (.list ((QY k ps).map V.pav)):=by
 have cl:=λfr hr=>Qge (ps.map V.pav) fr [] (J8 ps) (by rw[Qn6];exact hn) hr
 have ez:∀x∈ps.map V.pav,Ez (eP P k) 14 x:=by
  exact κ
 have cs:=λg (m:Qk) (hl:Am.Qc m 0 1000=.vec g 14 (ps.map V.pav))=>Tz.A2 Tg.Lk ϊ (Qgf (P:=P) hk) 0 1000 g (ps.map V.pav) m hl ez Ω
 simp only[PZ,Qn6]at cs;have aF:(QY k ps).Perm ps:=QN _;have hlen:(QY k ps).length=ps.length:=aF.length_eq;have dB:(QY k ps).Pairwise λq p=>XJ q.1 p.1=false:=(aF.pairwise_iff λ{a b} h=>â).2 hu
 have q_:∀p∈QY k ps,p.1.kx P k:=λp hp=>h1 p (aF.mem_iff.1 hp)
 have pV:∀p∈QY k ps,p.1.bits<18446744073709551616:=λp hp=>hb p (aF.mem_iff.1 hp)
 generalize QY k ps=T at *;refine wF func101 ?_;simp only[eK,f101,seval];simp only[Qa,seval];refine Qh (cl _ rfl) ϑ ?_;simp only[Qn6,Qa,seval];refine Qh (cs _ _ Ĕ) ϑ ?_;simp only[eE,seval];refine ZW ϋ ϋ ?_;simp only[eE,seval];refine Qj (PoI T) _ ⟨_,_,0,_,_,rfl,rfl,Qnk _,Ϻ,ω,Ϻ,Ϻ,ω,ω,ω,ϛ⟩ ?_;rintro _ st ⟨f0,bA,i,g,h,rfl,rfl,bg,ax,aS,aU,aG,aT,cF,b_,r6⟩;refine QR (a:=_) [6] r6 ?_;intro f fr hf hm gg;have h3:f 3=.vec 0 1000 g 0 T.length false:=Ϥ
 have h4:f 4=.vec 0 4 h 0 i false:=ϱ
 have aI:f 11=.vec 0 1000 g 0 T.length false:=Ë
 have h12:f 12=.int .i64 (T.length:Nat):=Ì
 have h13:f 13=.int .i64 (i:Nat):=Û
 have mR:fr 1000=.vec g 14 (T.map V.pav):=Ι
 have m4:fr 4=.vec h 14 ((T.take i).map V.pav):=ϝ
 have n6:=gg 6 ϊ;clear hf hm gg ax aS aU aG aT cF b_ r6;simp only[h12,h13,Qa,seval];by_cases aa:i<T.length
 ·obtain⟨x,hi⟩:∃x,T[i]? = some x:=⟨T[i],Qnb aa⟩;have hg:=KG hi;have e1:=Qv i _ aa ώ;have ia:∀(fr:Nat->Ob) (j:Nat),fr 1000=.vec g 14 (T.map V.pav)->j<T.length->Qg [fr] 14 none (.vec 0 1000 g 0 T.length false) ((j:Nat):Int)=some (.vptr 0 1000 g j 0):=λfr j h hj=>Qa9 h hj
  have la:∀(fr:Nat->Ob),fr 1000=.vec g 14 (T.map V.pav)->XH [fr] (some 14) (.vptr 0 1000 g i 0)=some (.agg [.int .i64 x.1.kd,.int .u64 (x.1.bits:Nat),.str x.1.text,.list (x.1.list.map V.av),.list (x.1.pairs.map V.pav),.list (x.1.slots.map V.sav),.list (x.1.raws.map R.av),.int .i64 x.2.kd,.int .u64 (x.2.bits:Nat),.str x.2.text,.list (x.2.list.map V.av),.list (x.2.pairs.map V.pav),.list (x.2.slots.map V.sav),.list (x.2.raws.map R.av)]):=λfr h=>PY h hg ό
  have fin:∀(f':Fr) (ag:Nat->Ob) (h':Nat),f' 3=.vec 0 1000 g 0 T.length false->f' 4=.vec 0 4 h' 0 (i+1) false->f' 11=.vec 0 1000 g 0 T.length false->f' 12=.int .i64 (T.length:Nat)->f' 13=.int .i64 ((i+1:Nat):Int)->ag 1000=.vec g 14 (T.map V.pav)->ag 4=.vec h' 14 ((T.take i).map V.pav++[V.pav x])->(∀s∈[6],(ag s).isRow=false)->∃k,k<T.length-i/\PoI T k ⟨f',[ag],[]⟩:=by
   exact O5
  have dA:((T.take i).map V.pav).length=i:=Ρ
  simp only[QE aa,ia,la,mR,aa,n6,h3,aI,h13,e1,eE,seval];by_cases hl:i+1=T.length
  ·have d1:(((i+1:Nat):Int)==(T.length:Int))=true:=Ϗ
   simp only[d1,h4,eE,seval];refine QV (l:=[V.pav x]) rfl rfl rfl Ħ ?_;refine QP (site:=4) (g:=h) (n:=i) (xs:=(T.take i).map V.pav) (ys:=[V.pav x]) ω Φ rfl dA.symm rfl (J8 [x]) ϔ Ϙ ?_;exact zj
  ·have d1:(((i+1:Nat):Int)==(T.length:Int))=false:=Ϗ
   have fw:i+1<T.length:=ψ
   obtain⟨y,hj⟩:∃y,T[i+1]? = some y:=⟨T[i+1],Qnb fw⟩;have g8:=KG hj;have lc:∀(fr:Nat->Ob),fr 1000=.vec g 14 (T.map V.pav)->XH [fr] (some 7) (.vptr 0 1000 g (i+1) 0)=some (.agg [.int .i64 y.1.kd,.int .u64 (y.1.bits:Nat),.str y.1.text,.list (y.1.list.map V.av),.list (y.1.pairs.map V.pav),.list (y.1.slots.map V.sav),.list (y.1.raws.map R.av)]):=λfr h=>by
    rw[PY h g8 ό];rfl
   have bE:=q_ x (Qnp hi);have mE:=q_ y (Qnp hj);have aq:XJ x.1 y.1=false:=by
    rw[Qpr]at dB;have:=dB i (i+1) aa fw ψ;rw[(Qna.1 hi).2,(Qna.1 hj).2]at this;exact this
   have hq:=QaU k hk x.1.bits y.1.bits x.1.text y.1.text;rw[<-(K0 bE).1,<-(K0 mE).1,VM hk bE mE (pV x (Qnp hi)) (pV y (Qnp hj)),aq,Qd,Qd]at hq;simp only[d1,ia,lc,mR,fw,Y8,QnA,QnK,Qol,QnT,h3,e1,eE,seval];refine aC hq ?_;simp only[h4,eE,seval];refine QV (l:=[V.pav x]) rfl rfl rfl Ħ ?_;refine QP (site:=4) (g:=h) (n:=i) (xs:=(T.take i).map V.pav) (ys:=[V.pav x]) ω Φ rfl dA.symm rfl (J8 [x]) ϔ Ϙ ?_;exact zj
 ·have e:i=T.length:=ψ
  subst e;rw[QoT]at m4;exact P_
def eR (x:AV):Prop:=∃f:R,x=f.av
def QhA (f:R):Ez eR 4 f.av:=⟨⟨f,rfl⟩,_,rfl,rfl,rfl,rfl,λ_=>rfl⟩
def v57 (x y:R):Qi prog 57 [x.av,y.av] (.int .i64 (cN x.num y.num)):=by
 refine wF func57 ?_;simp only[eK,f57,seval];simp only[R.av,eE,seval];refine aC (v58 x.num y.num) ?_;simp only[Qa,seval]
def QkT:Tz.Cp prog 4 eR 57 cA where
 call x y hx hy:=by
  obtain⟨s,rfl⟩:=hx.1;obtain⟨t,rfl⟩:=hy.1;exact v57 s t
 sw:=Qc0
def Qbb (l:List R):QJ (Tz.lt cA) (l.map R.av)=(Zp l).map R.av:=Ut (λx y=>by rw[A3];rfl) l
def YN (l:List R):(l.map R.av).all (λe=>e.cells.length==4)=true:=by
 rw[List.all_map,Qno];intro x _;rfl
def ezR (l:List R):∀x∈l.map R.av,Ez eR 4 x:=by
 intro x hx;obtain⟨s,_,rfl⟩:=Qox.1 hx;exact QhA s
def P0 (v:V):v.nsc.av=.agg [.int .i64 v.kd,.int .u64 ((Xw v.kd v.bits:Nat):Int),.str v.text,.list (v.list.map V.av),.list (v.pairs.map V.pav),.list (v.slots.map V.sav),.list (v.raws.map R.av)]:=by
 rw[Qd];rfl
def QkU (b:Nat):Qi prog 107 [.int .u64 (b:Nat)] (.int .i64 (US b:Nat)):=by
 refine wF func107 ?_;simp only[eK,f107,seval];have hm:(b:Int).tmod 9223372036854775808=((b % 9223372036854775808:Nat):Int):=by
  rw[Int.tmod_eq_emod_of_nonneg ψ];omega
 simp only[hm,Qa,seval];unfold US;generalize b % 9223372036854775808=z
 repeat' (first|(refine Q4 (λh=>?_) (λh=>?_)<;>simp only[h,Qa,seval])|(refine Zb (λh=>?_) (λh=>?_)<;>simp only[h,Ql,eE,seval])|(refine Zc (λh=>?_) (λh=>?_)<;>simp only[h,Ql,eE,seval]))
 all_goals(simp only[Qnf,Qpf,Qng,Qo2,ne_eq]at *)
 all_goals((repeat' split)<;>first|rfl|(exfalso;omega))
def QkV (b:Nat)(hb:b<18446744073709551616):Qi prog 157 [.int .u64 (b:Nat)] (.int .i64 (US b:Nat)):=by
 refine wF func157 ?_;simp only[eK,f157,seval];have a1:bits .and .u64 (b:Int) 9218868437227405312=(((b / 4503599627370496 % 2048)*4503599627370496:Nat):Int):=by
  have:=HN b 9218868437227405312 hb ϊ;rw[IU]at this;exact this
 have a2:bits .and .u64 (b:Int) 4503599627370495=((b % 4503599627370496:Nat):Int):=by
  have:=HN b 4503599627370495 hb ϊ;rw[IS]at this;exact this
 simp only[a1,a2,Qa,seval];unfold US
 repeat' (first|(refine Q4 (λh=>?_) (λh=>?_)<;>simp only[h,Qa,seval])|(refine Zb (λh=>?_) (λh=>?_)<;>simp only[h,Ql,Qa,seval])|(refine Zc (λh=>?_) (λh=>?_)<;>simp only[h,Ql,eE,seval]))
 all_goals exact OJ
def Qbc (v:V)(hb:v.bits<18446744073709551616):Qi prog 102 [v.av] v.nsc.av:=by
 rw[P0,Qd];refine wF func102 ?_;simp only[eK,f102,seval];simp only[eE,seval];by_cases hk:v.kd=6
 ·have b0:(v.kd==6)=true:=Α
  simp only[b0,eE,seval];refine aC (QkV v.bits hb) ?_;exact zY
 ·exact By
def v61 (v:V)(_hb:v.bits<18446744073709551616):Qi prog 61 [v.av] v.nsc.av:=by
 rw[P0,Qd];refine wF func61 ?_;simp only[eK,f61,seval];simp only[eE,seval];by_cases hk:v.kd=6
 ·have b0:(v.kd==6)=true:=Α
  simp only[b0,eE,seval];refine aC (QkU v.bits) ?_;exact zY
 ·exact By
def BA {x:V}:∀ {l:List V},x∈l->x.cnt<=Q9 l
 |y :: l,h=>by
  rw[Q9];rcases Qoz.1 h with rfl|h
  ·omega
  ·have:=BA h;omega
def GP {x:V×V}:∀ {l:List (V×V)},x∈l->x.1.cnt+x.2.cnt<=Xo l
 |(a,b) :: l,h=>by
  rw[Xo];rcases Qoz.1 h with rfl|h
  ·dsimp only;omega
  ·have:=GP h;omega
def P1 {x:Int×V}:∀ {l:List (Int×V)},x∈l->x.2.cnt<=Xk l
 |(a,b) :: l,h=>by
  rw[Xk];rcases Qoz.1 h with rfl|h
  ·dsimp only;omega
  ·have:=P1 h;omega
def Xt (v:V):1<=v.cnt:=by rw[Q8];omega
def BB:∀l:List V,l.length<=Q9 l
 | []=>Qm8 _
 |x :: l=>by
  have:=Xt x;have:=BB l;simp only[Q9,Qnq];omega
def P2:∀l:List (V×V),2*l.length<=Xo l
 | []=>Qm8 _
 |(a,b) :: l=>by
  have:=Xt a;have:=Xt b;have:=P2 l;simp only[Xo,Qnq];omega
def P3:∀l:List (Int×V),l.length<=Xk l
 | []=>Qm8 _
 |(a,b) :: l=>by
  have:=Xt b;have:=P3 l;simp only[Xk,Qnq];omega
def UX {v x:V}(h:x∈v.list):x.cnt<=v.cnt:=by have:=BA h;rw[Q8 v];omega
def S3 {v:V}{x:V×V}(h:x∈v.pairs):x.1.cnt<=v.cnt:=by have:=GP h;rw[Q8 v];omega
def H2 {v:V}{x:V×V}(h:x∈v.pairs):x.2.cnt<=v.cnt:=by have:=GP h;rw[Q8 v];omega
def JG {v:V}{x:Int×V}(h:x∈v.slots):x.2.cnt<=v.cnt:=by have:=P1 h;rw[Q8 v];omega
def JH (v:V):v.list.length<=v.cnt:=by have:=BB v.list;rw[Q8 v];omega
def Kx (v:V):v.pairs.length<=v.cnt:=by have:=P2 v.pairs;rw[Q8 v];omega
def Zg (v:V):v.slots.length<=v.cnt:=by have:=P3 v.slots;rw[Q8 v];omega
def KI (v:V):v.raws.length<=v.cnt:=by rw[Q8 v];omega
section
variable {M:Nat}{P:PL}{m:PG->V->Prop}{nm:PG->V->V}(o:PO)(ho:UO P o)
include ho in
theorem QkW (hm:∀(t:Int) (g:PG),P.progs[t.toNat]? = some g->0<=t->∀v:V,v.ok M->v.cnt<=1048576->m g v->Qi prog 24 [P.av,.int .i64 t,v.av] (nm g v).av)(v:V)(hv:v.ok M)(hc:v.cnt<=1048576)(he:EW m P o v) :
  Qi prog 100 [P.av,Qw o,v.av] (Xv nm P o v).av:=by
 have e0:P.av=.agg [.list (P.progs.map Qm),.list (P.enums.map QH)]:=rfl;unfold Xv;by_cases hk:o.kind=10
 ·have b:(o.kind==10)=true:=Α
  have he:=he hk;rw[Qnj hk];obtain⟨t0,t1⟩:=ho.tgt hk;obtain⟨g,hg⟩:∃g,P.progs[o.target.toNat]? = some g:=⟨P.progs[o.target.toNat]' ψ,Qnb ψ⟩;have hq:Qe P o.target=g:=by unfold Qe;rw[hg];rfl
  rw[hq]at he |-;have h2:=hm o.target g hg t0 v hv hc he;generalize nm g v=z at h2 |-;rw[e0,Qd,Qd]at h2;rw[Qd,Qd];refine wF func100 ?_;simp only[eK,f100,seval];exact ε
 ·have b:(o.kind==10)=false:=Α
  rw[Qni hk];have h1:=Qbc v (W4 hv);generalize v.nsc=z at h1 |-;rw[Qd,Qd]at h1;rw[Qd,Qd];refine wF func100 ?_;simp only[eK,f100,seval];exact ζ
def NlI (P:PL)(o:PO)(l:List V)(F:V->V)(k:Nat)(st:St):Prop :=
 ∃f fr i g,st=⟨f,[fr],[]⟩/\k=l.length-i/\i<=l.length/\f 3=.ptr 0 3 0/\f 4=.ptr 0 4 0/\f 6=.ptr 0 6 0/\f 7=.ptr 0 7 0/\f 19=.list (l.map V.av)/\f 20=.int .i64 (l.length:Nat)/\f 21=.int .i64 (i:Nat)/\fr 3=.cells [.list (P.progs.map Qm),.list (P.enums.map QH)]/\fr 4=.cells o.cells/\fr 6=.cells [.int .i64 0,.int .u64 0,.str [],.nils,.nils,.nils,.nils]/\fr 7=.cells [.int .i64 11,.int .u64 0,.str [],.vec 0 1100 g 0 i false,.nils,.nils,.nils]/\fr 1100=.vec g 7 ((l.take i).map λx=>(F x).av)/\∀s∈[9],(fr s).isRow=false
def NpI (P:PL)(o:PO)(T:List (V×V))(F:V×V->V×V)(k:Nat)(st:St):Prop :=
 ∃f fr i g,st=⟨f,[fr],[]⟩/\k=T.length-i/\i<=T.length/\f 3=.ptr 0 3 0/\f 4=.ptr 0 4 0/\f 6=.ptr 0 6 0/\f 10=.ptr 0 10 0/\f 41=.list (T.map V.pav)/\f 42=.int .i64 (T.length:Nat)/\f 43=.int .i64 (i:Nat)/\fr 3=.cells [.list (P.progs.map Qm),.list (P.enums.map QH)]/\fr 4=.cells o.cells/\fr 6=.cells [.int .i64 0,.int .u64 0,.str [],.nils,.nils,.nils,.nils]/\fr 10=.cells [.int .i64 12,.int .u64 0,.str [],.nils,.vec 0 1101 g 0 i false,.nils,.nils]/\fr 1101=.vec g 14 ((T.take i).map λx=>V.pav (F x))/\∀s∈[12],(fr s).isRow=false
theorem Qc1 (l:List V)(F:V->V):(l.map λx=>(F x).av)=(l.map F).map V.av:=by rw[Qo6];rfl
theorem Lm (l:List (V×V))(F:V×V->V×V):(l.map λx=>V.pav (F x))=(l.map F).map V.pav:=by rw[Qo6];rfl
set_option maxHeartbeats 1000000 in
include ho in
theorem v54 (aJ:∀v:V,v.ok M->v.cnt<=1048576->EW m P o v->Qi prog 100 [P.av,Qw o,v.av] (Xv nm P o v).av)(v:V)(hv:v.ok M)(hc:v.cnt<=1048576)(he:FW m P o v) :
  Qi prog 54 [P.av,Qw o,v.av] (XT nm P o v).av:=by
 have e0:P.av=.agg [.list (P.progs.map Qm),.list (P.enums.map QH)]:=rfl;unfold XT;unfold FW at he;by_cases h4:o.card=4
 ·have b4:(o.card==4)=true:=ã
  rw[Qnj h4]at he;rw[Qnj h4];have hL:=he;have hlen:=JH v;rw[Qd v];generalize hF:Xv nm P o=F at aJ |-;rw[show(V.mk 11 0 [] (v.list.map F) [] [] []).av=.agg [.int .i64 11,.int .u64 0,.str [],.list ((v.list.map F).map V.av),.list [],.list [],.list []]from Qd _];refine wF func54 ?_;simp only[eK,f54,seval];simp only[e0,Qw,PO.cells,b4,eE,seval];refine K7 ϒ rfl ϒ rfl ?_;simp only[List.set,Qn6,eE,seval];refine Qj (NlI P o v.list F) _ ⟨_,_,0,_,rfl,rfl,Qnk _,ω,ω,ω,ω,ω,ω,ω,ω,ω,ω,ω,ω,ϛ⟩ ?_;rintro _ st ⟨f0,bA,i,g,rfl,rfl,bg,ax,aS,bX,cO,di,du,gu,bM,b_,cV,gc,cF,r9⟩;refine QR (a:=_) [9] r9 ?_;intro f fr hf hm lJ;have h3:f 3=.ptr 0 3 0:=Ϥ
  have h4:f 4=.ptr 0 4 0:=ϱ
  have h6:f 6=.ptr 0 6 0:=Κ
  have h7:f 7=.ptr 0 7 0:=Τ
  have dW:f 19=.list (v.list.map V.av):=ĝ
  have bI:f 20=.int .i64 (v.list.length:Nat):=Ğ
  have gl:f 21=.int .i64 (i:Nat):=by rw[hf,gu]<;>rfl
  have m3:fr 3=.cells [.list (P.progs.map Qm),.list (P.enums.map QH)]:=Ϩ
  have m4:fr 4=.cells o.cells:=ϝ
  have m6:fr 6=.cells [.int .i64 0,.int .u64 0,.str [],.nils,.nils,.nils,.nils]:=ϸ
  have m7:fr 7=.cells [.int .i64 11,.int .u64 0,.str [],.vec 0 1100 g 0 i false,.nils,.nils,.nils]:=Æ
  have mR:fr 1100=.vec g 7 ((v.list.take i).map λx=>(F x).av):=by rw[hm 1100 ϊ,cF]<;>rfl
  have n9:=lJ 9 ϊ;clear hf hm lJ ax aS bX cO di du gu bM b_ cV gc cF r9;have dh:=m4;simp only[PO.cells]at m4;simp only[bI,gl,Qa,seval];by_cases aa:i<v.list.length
  ·obtain⟨x,hi⟩:∃x,v.list[i]? = some x:=⟨v.list[i],Qnb aa⟩;have hx:=Qnp hi;have hg:=HH hi;have e1:=Qv i _ aa ώ;have c1:=aJ x (hv.list x hx) (Qm9 (UX hx) hc) (hL x hx);have dA:((v.list.take i).map λx=>(F x).av).length=i:=Ρ
   have eJ:(v.list.take (i+1)).map (λx=>(F x).av)=(v.list.take i).map (λx=>(F x).av)++[(F x).av]:=ň
   generalize F x=z at c1 eJ;rw[e0,Qd,Qd z]at c1;simp only[Qw,PO.cells]at c1;simp only[QE aa,Qs,QoF,Qg,hg,n9,h3,h4,h7,dW,gl,m3,m4,m7,eE,seval];refine aC c1 ?_;refine QV (l:=[z.av]) rfl rfl rfl Ġ ?_;refine QP (site:=1100) (g:=g) (n:=i) (xs:=(v.list.take i).map λx=>(F x).av) (ys:=[z.av]) ω Β rfl dA.symm rfl (DV [z]) ϔ Ϙ ?_;simp only[h7,gl,m7,e1,eE,seval];exact⟨v.list.length-(i+1),ψ,_,_,i+1,g+1,rfl,rfl,ψ,ϖ,Ϡ,Ϝ,Ϫ,ß,ö,ω,ϲ,Î,Ö,ω,Ò,ϛ⟩
  ·exact Oi
 ·have b4:(o.card==4)=false:=ã
  rw[Qni h4];by_cases h5:o.card=5
  ·have b5:(o.card==5)=true:=í
   rw[Qni h4,Qnj h5]at he;rw[Qnj h5];have hE:=he;have hlen:=Kx v;have hk:=ho.key h5;have hkn:=Qd4 ho.key h5 λp hp=>(hE.1 p hp).1
   have cp:=QkS hk v.pairs ψ (λp hp=>(hE.1 p hp).1) (λp hp=>W4 (hv.keys p hp)) hE.2;have aF:(QY o.key v.pairs).Perm v.pairs:=QN _;have rr:(QY o.key v.pairs).length=v.pairs.length:=aF.length_eq;have ml:∀p∈QY o.key v.pairs,p∈v.pairs:=λp h=>aF.mem_iff.1 h
   generalize QY o.key v.pairs=T at *;rw[Qd v];generalize hF:(λp:V×V=>(p.1.nsc,Xv nm P o p.2))=F;rw[show(V.mk 12 0 [] [] (T.map F) [] []).av=.agg [.int .i64 12,.int .u64 0,.str [],.list [],.list ((T.map F).map V.pav),.list [],.list []]from Qd _];refine wF func54 ?_;simp only[eK,f54,seval];simp only[e0,Qw,PO.cells,b4,b5,eE,seval];refine K7 ϒ rfl ϒ rfl ?_;simp only[List.set,eE,seval];refine aC cp ?_;simp only[Qn6,Qa,seval];refine Qj (NpI P o T F) _ ⟨_,_,0,_,rfl,rfl,Qnk _,ω,ω,ω,ω,ω,ω,ω,ω,ω,ω,ω,ω,ϛ⟩ ?_;rintro _ st ⟨f0,bA,i,g,rfl,rfl,bg,ax,aS,bX,eV,j5,jH,q8,bM,b_,cV,pC,cF,iW⟩;refine QR (a:=_) [12] iW ?_;intro f fr hf hm iG;have h3:f 3=.ptr 0 3 0:=Ϥ
   have h4:f 4=.ptr 0 4 0:=ϱ
   have h6:f 6=.ptr 0 6 0:=Κ
   have am:f 10=.ptr 0 10 0:=ŉ
   have lT:f 41=.list (T.map V.pav):=by rw[hf,j5]<;>rfl
   have lg:f 42=.int .i64 (T.length:Nat):=by rw[hf,jH]<;>rfl
   have ug:f 43=.int .i64 (i:Nat):=by rw[hf,q8]<;>rfl
   have m3:fr 3=.cells [.list (P.progs.map Qm),.list (P.enums.map QH)]:=Ϩ
   have m4:fr 4=.cells o.cells:=ϝ
   have m6:fr 6=.cells [.int .i64 0,.int .u64 0,.str [],.nils,.nils,.nils,.nils]:=ϸ
   have m10:fr 10=.cells [.int .i64 12,.int .u64 0,.str [],.nils,.vec 0 1101 g 0 i false,.nils,.nils]:=by rw[hm 10 ϊ,pC]<;>rfl
   have mR:fr 1101=.vec g 14 ((T.take i).map λx=>V.pav (F x)):=by rw[hm 1101 ϊ,cF]<;>rfl
   have dK:=iG 12 ϊ;clear hf hm iG ax aS bX eV j5 jH q8 bM b_ cV pC cF iW;have dh:=m4;simp only[PO.cells]at m4;simp only[lg,ug,Qa,seval];by_cases aa:i<T.length
   ·obtain⟨x,hi⟩:∃x,T[i]? = some x:=⟨T[i],Qnb aa⟩;have hx:=ml x (Qnp hi);have hg:=KG hi;have e1:=Qv i _ aa ώ;have c0:=Qbc x.1 (W4 (hv.keys x hx));have c1:=aJ x.2 (hv.vals x hx) (Qm9 (H2 hx) hc) (hE.1 x hx).2;have dA:((T.take i).map λx=>V.pav (F x)).length=i:=Ρ
    have iM:F x=(x.1.nsc,Xv nm P o x.2):=by rw[<-hF]
    have eJ:(T.take (i+1)).map (λx=>V.pav (F x))=(T.take i).map (λx=>V.pav (F x))++[V.pav (x.1.nsc,Xv nm P o x.2)]:=by rw[Qo4,hi,<-iM];simp
    generalize x.1.nsc=y at c0 eJ;generalize Xv nm P o x.2=z at c1 eJ;rw[Qd,Qd y]at c0;rw[e0,Qd,Qd z]at c1;simp only[Qw,PO.cells]at c1;simp only[QE aa,Qs,QoF,Qg,hg,dK,am,lT,ug,m10,eE,seval];refine aC c0 ?_;simp only[QnK,QnN,QnT,h3,h4,m3,m4,eE,seval];refine aC c1 ?_;simp only[eE,seval];refine QV (l:=[V.pav (y,z)]) rfl rfl rfl Ħ ?_;refine QP (site:=1101) (g:=g) (n:=i) (xs:=(T.take i).map λx=>V.pav (F x)) (ys:=[V.pav (y,z)]) ω Β rfl dA.symm rfl (J8 [(y,z)]) ϔ Ϙ ?_;simp only[am,ug,m10,e1,eE,seval];exact⟨T.length-(i+1),ψ,_,_,i+1,g+1,rfl,rfl,ψ,ϖ,Ϡ,Ϝ,(by exact am),(by exact lT),(by exact lg),ω,ϲ,Î,Ö,ω,Ò,ϛ⟩
   ·have e:i=T.length:=ψ
    subst e;rw[QoT,Lm]at mR;simp only[QM aa,h6,am,m6,m10,eE,seval];simp[AV.un,AV.unL,ZO,XZ,mR,QnL]
  ·have b5:(o.card==5)=false:=í
   rw[Qni h4,Qni h5]at he;rw[Qni h5];have c1:=aJ v hv hc he;generalize Xv nm P o v=z at c1 |-;rw[e0,Qd v,Qd z]at c1;simp only[Qw,PO.cells]at c1;rw[Qd v,Qd z];refine wF func54 ?_;simp only[eK,f54,seval];exact Fd
end
def Qgg {ops:List PO}(h:JM ops (Wv PO.num)=true):ops.Pairwise λa b=>a.num<b.num:=by
 have hs:∀i (hi:i+1<ops.length),ops[i].num<ops[i+1].num:=by
  intro i hi;unfold JM at h;have:=Q7.1 h (i+1) hi;rw[Yh (Qnb (by omega:i<ops.length)) (Qnb hi)]at this;unfold Wv at this
  simpa using this
 rw[Qpr];intro i j hi hj d_;obtain⟨d,rfl⟩:∃d,j=i+1+d:=⟨j-(i+1),ψ⟩;clear d_
 induction d with
 |zero=>exact hs i ψ
 |succ d ih=>
  have a:=ih ψ;have b:=hs (i+1+d) ψ;exact Int.lt_trans a b
def BC {P:PL}(h:ck P=0):DA P=true/\args P=true:=by
 unfold ck at h;split at h
 ·omega
 split at h
 ·omega
 split at h
 ·omega
 rename_i ho;split at h
 ·omega
 split at h
 ·omega
 split at h
 ·omega
 rename_i ha;exact⟨by simpa using ho,by simpa using ha⟩
def Xf {P:PL}(h:ck P=0):XR P:=by
 have ho:=(BC h).1;unfold DA at ho;simp only[Qnz,Qno]at ho;intro g hg;exact Qgg (ho.1.2 g hg)
def A4 (P:PL):Prop:=∀g∈P.progs,∀o∈g.ops,1<=o.card/\o.card<=5
def BD {P:PL}(h:ck P=0):A4 P:=by
 have ha:=(BC h).2;intro g hg o ho;unfold args at ha;simp only[Qnz,Qno]at ha;have h1:=ha.1 g hg;unfold Ym at h1;simp only[Qnz,Qno]at h1;have h2:=(h1.2 o ho).1;unfold Wx at h2;simp only[Qnz,Qnf]at h2;exact⟨h2.1.1.1.2,h2.1.1.2⟩
def HI {fr:Nat->Ob}{a b c:Nat}(h1:(fr a).isRow=false)(h2:(fr b).isRow=false)(h3:(fr c).isRow=false):∀s∈[a,b,c],(fr s).isRow=false:=by
 intro s hs;simp only[Qoz,Qpu,or_false]at hs;rcases hs with rfl|rfl|rfl
 ·exact h1
 ·exact h2
 ·exact h3
section
variable (k:Int)(b:Nat)(t:List UInt8)(l p s r:List AV)
theorem w62:Qi prog 62 [vo k b t l p s r] (.bool (Pj k b t l p s r)):=by
 have hl:=QfF k b t l p s r;simp only[vo]at hl;refine wF func62 ?_;simp only[eK,f62,seval];simp only[vo,Pj,eE,seval];refine aC (Qaw k) ?_;cases isk k
 ·exact ST
 ·simp only[QoW,eE,seval];cases h1:((b:Int)==0)
  ·simp only[QoY,QoJ,Qa,seval]
  ·cases h2:(t==[])
   ·simp only[h2,QoY,QX,eE,seval]
   ·simp only[h2,Qoq,QX,eE,seval];refine aC hl ?_;simp only[Qa,seval]
theorem QkX (hl:l.length<=140737488351232)(hp:p.length<=140737488351232)(hs:s.length<=140737488351232)(hr:r.length<=140737488351232) :
  Qi prog 103 [vo k b t l p s r] (.bool (Pj k b t l p s r)):=by
 have hle:=QfG k b t l p s r hl hp hs hr;simp only[vo]at hle;refine wF func103 ?_;simp only[eK,f103,seval];simp only[vo,Pj,eE,seval];refine aC (Vy k) ?_;cases isk k
 ·exact ST
 ·simp only[QoW,eE,seval];refine aC hle ?_;cases Hn l p s r
  ·exact ST
  ·cases h1:((b:Int)==0)<;>cases h2:(t==[])<;>cases h3:Zz k<;>simp only[h1,h2,Qoq,QoY,Qnu,QX,eE,seval]
theorem w27:Qi prog 27 [vo k b t l p s r] (.bool (emp k b t l p s r)):=by
 have hz:=w62 k b t l p s r;simp only[vo]at hz;refine wF func27 ?_;simp only[eK,f27,seval];simp only[vo,emp,eE,seval];by_cases h1:k=11
 ·subst h1;have e:Pj 11 b t l p s r=false:=rfl;have e1:((11:Int)==11)=true:=rfl;have e2:((11:Int)==12)=false:=rfl;simp only[e,e1,e2,QoW,QoJ,Qpg,eE,seval]
 ·have e1:(k==11)=false:=ì
  by_cases h2:k=12
  ·subst h2;have e:Pj 12 b t l p s r=false:=rfl;have e2:((12:Int)==12)=true:=rfl;simp only[e,e1,e2,QoW,QoJ,Qpg,Qo1,eE,seval]
  ·have e2:(k==12)=false:=Ě
   simp only[e1,e2,QoJ,Qo1,eE,seval];refine aC hz ?_;simp only[Qa,seval]
theorem w55 (hl:l.length<=140737488351232)(hp:p.length<=140737488351232)(hs:s.length<=140737488351232)(hr:r.length<=140737488351232):Qi prog 55 [vo k b t l p s r] (.bool (emp k b t l p s r)):=by
 have hz:=QkX k b t l p s r hl hp hs hr;simp only[vo]at hz;refine wF func55 ?_;simp only[eK,f55,seval];simp only[vo,emp,eE,seval];cases h1:(k==11)<;>cases h2:((l.length:Int)==0)<;>cases h3:(k==12)<;>cases h4:((p.length:Int)==0)<;>simp only[h2,h3,h4,QoW,QoJ,Qo0,Qo1,Qpg,eE,seval]
 all_goals(refine aC hz ?_;simp only[Qa,seval])
end
def QhB (v:V)(hc:v.cnt<=1048576):Qi prog 55 [v.av] (.bool v.emp):=by
 have h1:=JH v;have h2:=Kx v;have h3:=Zg v;have h4:=KI v;rw[Fw];exact w55 _ _ _ _ _ _ _ Ϗ Ϗ Ϗ Ϗ
def QhC (v:V):Qi prog 27 [v.av] (.bool v.emp):=by
 rw[Fw];exact w27 _ _ _ _ _ _ _
def NgI (P:PL)(K:Nat->List (Int×V))(T:List (Int×V))(t:Nat)(kj:List R)(k:Nat)(st:St):Prop :=
 ∃f fr i g h,st=⟨f,[fr],[]⟩/\k=T.length-i/\i<=T.length/\f 1=.int .i64 (t:Nat)/\f 3=.ptr 0 3 0/\f 6=.ptr 0 6 0/\f 7=.ptr 0 7 0/\f 30=.list (T.map V.sav)/\f 31=.int .i64 (T.length:Nat)/\f 32=.int .i64 (i:Nat)/\fr 3=.cells [.list (P.progs.map Qm),.list (P.enums.map QH)]/\fr 6=.cells [.int .i64 0,.int .u64 0,.str [],.nils,.nils,.nils,.nils]/\fr 7=.cells [.int .i64 10,.int .u64 0,.str [],.nils,.nils,.vec 0 1100 g 0 (K i).length false,.vec 0 1000 h 0 kj.length false]/\fr 1100=.vec g 8 ((K i).map V.sav)/\fr 1000=.vec h 4 (kj.map R.av)/\∀s∈[13,10,9],(fr s).isRow=false
section
variable {M:Nat}{P:PL}(hP:P.ok M)
set_option maxHeartbeats 2000000 in
include hP in
theorem v24 (hU:JD P)(hr:XR P)(nZ:A4 P):∀(n:Nat) (t:Int) (g:PG),P.progs[t.toNat]? = some g->0<=t->∀v:V,v.ok M->v.cnt<=1048576->MW P n g v->Qi prog 24 [P.av,.int .i64 t,v.av] (nrm P n g v).av:=by
 have e0:P.av=.agg [.list (P.progs.map Qm),.list (P.enums.map QH)]:=rfl;intro n
 induction n with
 |zero=>
  intro t g _ _ v _ _ h;exact h.elim
 |succ n ih=>
  intro t g ef t0 v hv hc h;have ep:=Qnp ef;have hg:=hP.progs g ep;have hu:=hU g ep;have hd:=hr g ep;obtain⟨s1,s2⟩:=h;have sS:=λ(o:PO) (ho:o∈g.ops) (x:V) (hx:x.ok M) (iK:x.cnt<=1048576) (he:EW (MW P n) P o x)=>QkW o (hu o ho) (λt g a b v c d e=>ih t g a b v c d e) x hx iK he
  have sC:=λ(o:PO) (ho:o∈g.ops) (x:V) (hx:x.ok M) (iK:x.cnt<=1048576) (he:FW (MW P n) P o x)=>v54 o (hu o ho) (sS o ho) x hx iK he
  have aA:∀(o:PO) (x:V),(XT (nrm P n) P o x).cnt<=x.cnt:=λo x=>SQ (λt v=>JQ hr n _ (Zf hr t) v) o x
  have lS:=Zg v;have lR:=KI v;have yq:=λfr hr=>v51 (v.raws.map R.av) fr [] (YN v.raws) Ω hr
  have uA:=λg (m:Qk) (hl:Am.Qc m 0 1000=.vec g 4 (v.raws.map R.av))=>Tz.A2 Tg.Qhx ϊ QkT 0 1000 g (v.raws.map R.av) m hl (ezR v.raws) Ω
  simp only[Qbb,Qn6]at uA;have uf:=v52 v.slots ψ s2;have vJ:(WU v.slots).Perm v.slots:=QN _;have rr:(WU v.slots).length=v.slots.length:=vJ.length_eq;have ml:∀s∈WU v.slots,s∈v.slots:=λs h=>vJ.mem_iff.1 h
  have bc:=Qa5 (nrm P n) P hd s2;have wo:(Zp v.raws).length=v.raws.length:=(QN v.raws).length_eq;generalize WU v.slots=T at *;obtain⟨ti,dA⟩:=QoZ t0;subst dA;rw[QoF]at ef;have gV:(P.progs.map Qm)[ti]? = some (.agg g.cells):=by simp[ef,Qm]
  simp only[PG.cells]at gV;have mi:ti<P.progs.length:=(Qna.1 ef).1;have d0:decide ((ti:Int)<0)=false:=Qo8 ψ;have d1:decide ((ti:Int)>=(P.progs.length:Int))=false:=Qo8 ψ;have co:=λn=>ID g hg.len n
  simp only[Uz]at co;simp only[Qm,PG.cells]at co;show Qi _ _ _ (V.mk 10 0 [] [] [] (g.ops.flatMap (Xb (nrm P n) P v.slots)) (Zp v.raws)).av;rw[<-bc,Qd v];generalize hK:(λi=>(T.take i).flatMap (K1 (nrm P n) P g))=K;have lX:K 0=[]:=ĕ
  have mB:T.flatMap (K1 (nrm P n) P g)=K T.length:=ĕ
  have pK:∀i,i<=T.length->(K i).length<=i:=by
   intro i hi;rw[<-hK];show((T.take i).flatMap _).length<=i;have:∀l:List (Int×V),(l.flatMap (K1 (nrm P n) P g)).length<=l.length:=by
    intro l
    induction l with
    |nil=>exact Qm8 _
    |cons s l ih=>
     have:(K1 (nrm P n) P g s).length<=1:=by
      unfold K1;split
      ·simp
      ·unfold J7;split<;>simp
     rw[QoH,QnP,Qnq];omega
   exact Qm9 (this _) Õ
  rw[mB,show(V.mk 10 0 [] [] [] (K T.length) (Zp v.raws)).av=.agg [.int .i64 10,.int .u64 0,.str [],.list [],.list [],.list ((K T.length).map V.sav),.list ((Zp v.raws).map R.av)]from Qd _];refine wF func24 ?_;simp only[eK,Tryz.f24,seval];simp only[e0,eE,seval];refine Qh (yq _ rfl) ϑ ?_;simp only[Qn6,eE,seval];refine K7 ϒ rfl ϒ rfl ?_;simp only[List.set,d0,d1,Qn6,eE,seval];refine aC uf ?_;simp only[Qn6,Qa,seval];refine Qj (NgI P K T ti v.raws) _ ⟨_,_,0,_,_,rfl,rfl,Qnk _,ω,ω,ω,ω,ω,ω,ω,ω,ω,Ó,Ó,ω,HI rfl rfl rfl⟩ ?_;rintro _ st ⟨f0,bA,i,gs,hs,rfl,rfl,bg,am,ax,bX,cO,qe,oH,nq,bM,cV,gc,jO,cF,uZ⟩;refine QR (a:=_) [13,10,9] uZ ?_;intro f fr hf hm kR;have h1:f 1=.int .i64 (ti:Nat):=À
  have h3:f 3=.ptr 0 3 0:=Ϥ
  have h6:f 6=.ptr 0 6 0:=Κ
  have h7:f 7=.ptr 0 7 0:=Τ
  have fK:f 30=.list (T.map V.sav):=by rw[hf,qe]<;>rfl
  have kF:f 31=.int .i64 (T.length:Nat):=by rw[hf,oH]<;>rfl
  have kz:f 32=.int .i64 (i:Nat):=by rw[hf,nq]<;>rfl
  have m3:fr 3=.cells [.list (P.progs.map Qm),.list (P.enums.map QH)]:=Ϩ
  have m6:fr 6=.cells [.int .i64 0,.int .u64 0,.str [],.nils,.nils,.nils,.nils]:=ϸ
  have m7:fr 7=.cells [.int .i64 10,.int .u64 0,.str [],.nils,.nils,.vec 0 1100 gs 0 (K i).length false,.vec 0 1000 hs 0 v.raws.length false]:=Æ
  have mS:fr 1100=.vec gs 8 ((K i).map V.sav):=Ù
  have mR:fr 1000=.vec hs 4 (v.raws.map R.av):=Ι
  have qD:=kR 13 ϊ;have pZ:=kR 10 ϊ;have n9:=kR 9 ϊ;clear hf hm kR am ax bX cO qe oH nq bM cV gc jO cF uZ;simp only[kF,kz,Qa,seval];by_cases aa:i<T.length
  ·obtain⟨x,hi⟩:∃x,T[i]? = some x:=⟨T[i],Qnb aa⟩;have hx:=ml x (Qnp hi);have iN:=Wy hi;have e1:=Qv i _ aa ώ;obtain⟨o,ho,sf⟩:=s1 x hx;obtain⟨cI,cH⟩:=ZX ho;have uY:=nZ g ep o cI;have c1:=co x.1;rw[ho]at c1;have iK:=Qm9 (JG hx) hc;have c2:=sC o cI x.2 (hv.slots x hx) iK sf;have c3:=QhB (XT (nrm P n) P o x.2) (Qm9 (aA o x.2) iK);have aV:K (i+1)=K i++J7 (nrm P n) P o x:=by
    rw[<-hK];show(T.take (i+1)).flatMap _=(T.take i).flatMap _++_;rw[Qo4,hi,List.flatMap_append];have:K1 (nrm P n) P g x=J7 (nrm P n) P o x:=by unfold K1;rw[ho]
    simp[this]
   have vF:J7 (nrm P n) P o x=if (decide (o.card<3) || !(XT (nrm P n) P o x.2).emp)=true then [(x.1,XT (nrm P n) P o x.2)]else []:=by
    unfold J7;rw[cH]
   have qW:=pK i ψ;rw[vF]at aV;clear vF;generalize XT (nrm P n) P o x.2=z at c2 c3 aV;rw[e0,Qd x.2,Qd z]at c2;rw[Qd z]at c3;simp only[Qw,PO.cells]at c2;have fin:∀(f':Fr) (ag:Nat->Ob) (lw:Nat),f' 1=.int .i64 (ti:Nat)->f' 3=.ptr 0 3 0->f' 6=.ptr 0 6 0->f' 7=.ptr 0 7 0->f' 30=.list (T.map V.sav)->f' 31=.int .i64 (T.length:Nat)->f' 32=.int .i64 ((i+1:Nat):Int)->ag 3=.cells [.list (P.progs.map Qm),.list (P.enums.map QH)]->ag 6=.cells [.int .i64 0,.int .u64 0,.str [],.nils,.nils,.nils,.nils]->ag 7=.cells [.int .i64 10,.int .u64 0,.str [],.nils,.nils,.vec 0 1100 lw 0 (K (i+1)).length false,.vec 0 1000 hs 0 v.raws.length false]->ag 1100=.vec lw 8 ((K (i+1)).map V.sav)->ag 1000=.vec hs 4 (v.raws.map R.av)->(∀s∈[13,10,9],(ag s).isRow=false)->∃k,k<T.length-i/\NgI P K T ti v.raws k ⟨f',[ag],[]⟩:=by
    intro f' ag lw a1 a3 a6 a7 yX xU ww b3 b6 b7 bS bR br;exact⟨T.length-(i+1),ψ,f',ag,i+1,lw,hs,rfl,rfl,ψ,a1,a3,a6,a7,yX,xU,ww,b3,b6,b7,bS,bR,br⟩
   simp only[QE aa,Qs,QoF,Qg,iN,gV,n9,h1,h3,fK,kz,m3,eE,seval];refine aC c1 ?_;simp only[Qon,Qo9,Qw,PO.cells,pZ,eE,seval];rcases(by omega:o.card=1\/o.card=2\/o.card=3\/o.card=4\/o.card=5)with cc|cc|cc|cc|cc
   ·have b3:(o.card==3)=false:=Ξ
    have b4:(o.card==4)=false:=Ξ
    have b5:(o.card==5)=false:=Ξ
    rw[Qnj Ξ]at aV;simp only[b3,b4,b5,QnK,QnN,QnT,h3,m3,eE,seval];refine aC c2 ?_;simp only[qD,h7,m7,eE,seval];exact z8
   ·have b3:(o.card==3)=false:=Ξ
    have b4:(o.card==4)=false:=Ξ
    have b5:(o.card==5)=false:=Ξ
    rw[Qnj Ξ]at aV;simp only[b3,b4,b5,QnK,QnN,QnT,h3,m3,eE,seval];refine aC c2 ?_;simp only[qD,h7,m7,eE,seval];exact z8
   ·have b3:(o.card==3)=true:=Ξ
    have b4:(o.card==4)=false:=Ξ
    have b5:(o.card==5)=false:=Ξ
    have l3:decide (o.card<3)=false:=Ξ
    rw[l3,Qo1]at aV;simp only[b3,QnK,QnN,QnT,h3,m3,eE,seval];refine aC c2 ?_;simp only[qD,eE,seval];refine aC c3 ?_;cases hz:z.emp
    ·rw[hz,Qnj (show(!false)=true from rfl)]at aV;simp only[h7,m7,eE,seval];exact z8
    ·exact zg
   ·have b3:(o.card==3)=false:=Ξ
    have b4:(o.card==4)=true:=Ξ
    have b5:(o.card==5)=false:=Ξ
    have l3:decide (o.card<3)=false:=Ξ
    rw[l3,Qo1]at aV;simp only[b3,b4,QnK,QnN,QnT,h3,m3,eE,seval];refine aC c2 ?_;simp only[qD,eE,seval];refine aC c3 ?_;cases hz:z.emp
    ·rw[hz,Qnj (show(!false)=true from rfl)]at aV;simp only[h7,m7,eE,seval];exact z8
    ·exact zg
   ·have b3:(o.card==3)=false:=Ξ
    have b4:(o.card==4)=false:=Ξ
    have b5:(o.card==5)=true:=Ξ
    have l3:decide (o.card<3)=false:=Ξ
    rw[l3,Qo1]at aV;simp only[b3,b4,b5,QnK,QnN,QnT,h3,m3,eE,seval];refine aC c2 ?_;simp only[qD,eE,seval];refine aC c3 ?_;cases hz:z.emp
    ·rw[hz,Qnj (show(!false)=true from rfl)]at aV;simp only[h7,m7,eE,seval];exact z8
    ·exact zg
  ·have e:i=T.length:=ψ
   subst e;simp only[QM aa,h7,m7,eE,seval];refine Qh (uA _ _ (by simp only[mR,E8,seval]<;>rfl)) ϑ ?_;simp only[h6,h7,m6,m7,eE,seval];simp[AV.un,AV.unL,ZO,XZ,mS,QnL,wo]
end
end Va
namespace Va
open Go Am Rc Bt Br Up
def vv (k:Int)(b:Nat)(t:List UInt8)(l p s r:List AV):AV:=.agg [.int .i64 k,.int .u64 (b:Nat),.str t,.list l,.list p,.list s,.list r]
section
variable (k:Int)(b:Nat)(hb:b<18446744073709551616)(t:List UInt8)(l p s r:List AV)
include hb
theorem QkY:Qi prog 102 [vv k b t l p s r] (vv k (Xw k b) t l p s r):=by
 refine wF func102 ?_;simp only[eK,f102,seval];simp only[vv,eE,seval];by_cases hk:k=6
 ·have b0:(k==6)=true:=Α
  simp only[b0,eE,seval];refine aC (Qkc b hb) ?_;simp only[QaS,Qa,seval];by_cases hc:US b=0
  ·simp only[hc,Xw,hk,decide_true,and_self,splice,QnK,Qol,QnN,QnT,Qnx,Qny,Qnq,Qn7,eE,seval]
   try rfl
  ·simp only[hc,Xw,decide_false,and_false,eE,seval]
 ·have b0:(k==6)=false:=Α
  simp only[b0,Xw,hk,false_and,eE,seval]
def Q2:R :=
 if k=1\/k=4\/k=5\/k=9 then⟨0,0,b,[]⟩else if k=2\/k=3 then⟨0,1,(YZ (IntKind.i64.wrap (b:Int))).toNat,[]⟩
 else if k=6 then⟨0,2,Xw k b,[]⟩else if k=7\/k=8 then⟨0,3,0,t⟩else zr
theorem QkZ:Qi prog 341 [vv k b t l p s r] (Q2 k b t).av:=by
  have hn:=QkY k b hb t l p s r;simp only[vv]at hn;have nV : -9223372036854775808<=IntKind.i64.wrap (b:Int):=ϐ
  have lA:IntKind.i64.wrap (b:Int)<9223372036854775808:=ϐ
  have hz:=QkE (IntKind.i64.wrap (b:Int)) nV lA;have vO:(((YZ (IntKind.i64.wrap (b:Int))).toNat:Nat):Int)=YZ (IntKind.i64.wrap (b:Int)):=Int.toNat_of_nonneg (GL _);refine wF func341 ?_;simp only[eK,f341,seval];simp only[vv,eE,seval];by_cases h1:k=1\/k=4\/k=5\/k=9
  · have hs:Q2 k b t=⟨0,0,b,[]⟩:=by unfold Q2;rw[Qnj h1]
    rcases h1 with rfl|rfl|rfl|rfl<;>simp only[hs,R.av,seval,splice,QnK,Qol,QnN,QnT,Qnx,Qny,Qnq,Qn7,eE]<;>rfl
  have rt:(k==1)=false:=Ϗ
  have vG:(k==4)=false:=Ϗ
  have vx:(k==5)=false:=Ϗ
  have uX:(k==9)=false:=Ϗ
  by_cases h2:k=2\/k=3
  · have hs:Q2 k b t=⟨0,1,(YZ (IntKind.i64.wrap (b:Int))).toNat,[]⟩:=by unfold Q2;rw[Qni h1,Qnj h2]
    rcases h2 with rfl|rfl <;>
      (simp only[seval,eE]
       refine aC hz ?_;simp only[hs,R.av,vO,splice,QnK,Qol,QnN,QnT,Qnx,Qny,Qnq,Qn7,eE,seval])
  have lh:(k==2)=false:=Ϗ
  have rj:(k==3)=false:=Ϗ
  by_cases h6:k=6
  · have hs:Q2 k b t=⟨0,2,Xw k b,[]⟩:=by unfold Q2;rw[Qni h1,Qni h2,Qnj h6]
    have b6:(k==6)=true:=by simp[h6]
    simp only[rt,vG,vx,uX,lh,rj,b6,QnK,QnT,Qnq,Qn7,eE,seval];refine aC hn ?_;simp only[hs,R.av,splice,QnK,Qol,QnN,QnT,Qnx,Qny,Qnq,Qn7,eE,seval]
  have xV:(k==6)=false:=Ϗ
  by_cases h7:k=7\/k=8
  · have hs:Q2 k b t=⟨0,3,0,t⟩:=by unfold Q2;rw[Qni h1,Qni h2,Qni h6,Qnj h7]
    rcases h7 with rfl|rfl<;>simp only[hs,R.av,seval,splice,QnK,Qol,QnN,QnT,Qnx,Qny,Qnq,Qn7,eE]<;>rfl
  have uR:(k==7)=false:=Ϗ
  have xz:(k==8)=false:=Ϗ
  have hs:Q2 k b t=zr:=by unfold Q2;rw[Qni h1,Qni h2,Qni h6,Qni h7]
  simp only[rt,vG,vx,uX,lh,rj,xV,uR,xz,hs,zr,R.av,splice,QnK,Qol,QnN,QnT,Qny,Qnq,Qn7,eE,seval]
  try rfl
end
end Va
namespace Va
open Go Am Rc Bt Vp Cp Up
end Va
namespace Va
open Go Am Rc Bt Vp Cp
def Qgi (u:Nat)(k:Nat)(st:St):Prop :=
 ∃f fr i,st=⟨f,[fr],[]⟩/\k=8-i/\i<=8/\f 0=.int .u64 (u:Nat)/\f 3=.vec 0 5 1 0 8 false/\f 7=.int .i64 8/\f 8=.int .i64 (i:Nat)/\fr 5=.vec 1 1 (Qy (fx i u)++List.replicate (8-i) (AV.int .u8 0))
def Qeg (u i:Nat)(hi:i<8):IntKind.u8.wrap ((u:Int).fdiv (2 ^ min (8*i) 64))=((UInt8.ofNat (u / 256 ^ i % 256)).toNat:Int):=by
 have hp:(256:Nat) ^ i=2 ^ (8*i):=by rw[Nat.pow_mul]
 rw[Qot ψ,Qpy _ (Int.le_of_lt (Int.pow_pos ϊ)),toNat_ofNat _ (Nat.mod_lt _ ϊ),hp,wu8];have:(u:Int) / 2 ^ (8*i)=((u / 2 ^ (8*i):Nat):Int):=by push_cast;rfl
 rw[this];omega
def Qgj (u:Nat):Qi prog 225 [.int .u64 u] (.str (fx 8 u)):=by
 refine wF func225 ?_;simp only[eK,f225,seval];simp only[Qa,seval];refine Fj (n:=8) (k:=8) rfl rfl (Qm8 _) ϊ ϊ rfl ?_;simp only[eE,seval];refine Qj (Qgi u) 8 ?_ ?_
 ·exact⟨_,_,0,rfl,rfl,ψ,rfl,rfl,rfl,rfl,rfl⟩
 rintro n st ⟨f,fr,i,rfl,rfl,hi,h0,h3,h7,h8,m5⟩;simp only[h7,h8,Qa,seval];have hlen:(Qy (fx i u)).length=i:=by simp[Qy,Z6]
 by_cases aa:i<8
 ·have d0:decide ((i:Int)<8)=true:=Ϗ
  have e0:IntKind.i64.wrap (8*(i:Int))=((8*i:Nat):Int):=ϐ
  have n0:(0<=((8*i:Nat):Int))=True:=eq_true ψ;have n1:(0<=(i:Int))=True:=ό
  have n2:(i<8)=True:=eq_true aa;have e1:IntKind.i64.wrap ((i:Int)+1)=((i+1:Nat):Int):=ϐ
  have hb:=Qeg u i aa;obtain⟨j,hj⟩:∃j,8-i=j+1:=⟨7-i,ψ⟩;have rQ:(Qy (fx i u)++List.replicate (8-i) (AV.int .u8 0))[0+i]? = some (.int .u8 0):=by
   rw[QnA,QoE ψ,hlen,Nat.sub_self,hj];rfl
  have aw:(Qy (fx i u)++List.replicate (8-i) (AV.int .u8 0)).set (0+i) (AV.int .u8 ((UInt8.ofNat (u / 256 ^ i % 256)).toNat:Int))=Qy (fx (i+1) u)++List.replicate (8-(i+1)) (AV.int .u8 0):=by
   rw[QnA,Qd5,List.set_append_right _ _ ψ,hlen,Nat.sub_self,hj,show 8-(i+1)=j by omega];simp[Qy,List.replicate_succ]
  simp only[d0,e0,n0,n1,n2,e1,hb,QoF,Qg,rQ,Ka,AV.rfL,AV.rf,aw,h0,h3,h8,m5,eE,seval];exact⟨8-(i+1),ψ,_,_,i+1,rfl,rfl,ψ,by simp only[h0,Qa,seval],by simp only[h3,Qa,seval],by simp only[h7,Qa,seval],ϋ,ϋ⟩
 ·have xW:i=8:=ψ
  subst xW;have d0:decide (((8:Nat):Int)<8)=false:=rfl;rw[Nat.sub_self,List.replicate_zero,Qof]at m5;have he:=Hd (m:=[]) (fr:=fr) (site:=5) (g:=1) (sz:=1) (n:=8) (q:=false) m5 (by simp[Qy,Z6]);have dM:bytesOf (Qy (fx 8 u))=some (fx 8 u):=Uo _;simp only[he,dM,h3,Qa,seval]
open Up
def valid (f:R):Bool:=(Jd f.num f.wire).2==0&&(if Xx f.wire then f.data==[]else f.bits==0)
def Qeh (n:Nat):(((n:Nat):Int)==0)=(n==0):=by
 by_cases h:n=0
 ·subst h;rfl
 ·rw[Qo2.2 h,Qo2.2 ψ]
def Qk0 (f:R):Qi prog 222 [f.av] (.bool (valid f)):=by
 refine wF func222 ?_;simp only[eK,f222,seval];simp only[R.av,eE,seval];refine aC (Qf8 f.num f.wire) ?_;unfold valid;generalize Jd f.num f.wire=t;obtain⟨s,e⟩:=t;simp only[AI,Qa,seval];by_cases he:e=0
 ·subst he;simp only[eE,seval];refine aC (Qf7 f.wire) ?_;cases hn:Xx f.wire with
  |true=>
   simp only[QX,Qom,eE,seval]
  |false=>
   simp only[Qeh,Qom,eE,seval]
 ·simp only[Xj he,Qa,seval];simp[he]
end Va
namespace Va
open Go Am Rc Bt
def Qk1 (p v:AV)(h fr:Nat->Ob)(m:Qk)(hs:fr 2215=.cells [p,v])(hp:p=.nilp\/p=.ptr 0 2215 0) :
  Qf prog 291 [.ptr 1 2215 0] (h :: fr :: m) λx m1=>x=.tup []/\m1=h :: QL fr 2215 (.cells [.ptr 0 2215 0,v]) :: m:=by
 refine wG func291 ?_;simp only[eK,f291,seval];rcases hp with rfl|rfl
 ·simp only[hs,RR.evL,eE,seval]
 ·simp only[hs,RR.evL,Qdq _ _ _ hs,eE,seval]
structure Bld (fr:Nat->Ob)(bs:List UInt8):Prop where
 mk ::
 cell:∃p g,fr 2215=.cells [p,.vec 0 2005 g 0 bs.length false]/\fr 2005=.vec g 1 (Qy bs)/\(p=.nilp\/p=.ptr 0 2215 0)
def Yu (fr:Nat->Ob)(g:Nat)(bs:List UInt8):Nat->Ob :=
 QL (QL fr 2005 (.vec g 1 (Qy bs))) 2215 (.cells [.ptr 0 2215 0,.vec 0 2005 g 0 bs.length false])
def Y3 (fr:Nat->Ob)(g:Nat)(bs:List UInt8):Bld (Yu fr g bs) bs :=
 ⟨_,g,by rw[Yu,Q6],by rw[Yu,Xe _ _ ϊ,Q6],.inr rfl⟩
def UY {fr:Nat->Ob}{g:Nat}{bs:List UInt8}{s:Nat}(h1:s≠2005)(h2:s≠2215):Yu fr g bs s=fr s:=by
 rw[Yu,Xe _ _ h2,Xe _ _ h1]
def P4 (bs t:List UInt8)(fr:Nat->Ob)(m:Qk)(h:Bld fr bs)(hl:bs.length+t.length<=140737488355328) :
  ∃g,Qf prog 224 [.ptr 0 2215 0,.str t] (fr :: m) λx m1=>x=.tup [.int .i64 (t.length:Int),.nili]/\m1=Yu fr g (bs++t) :: m:=by
 obtain⟨p,g,h1,h2,h3⟩:=h.cell;refine⟨g+1,?_⟩;refine wG func224 ?_;simp only[eK,f224,seval];simp only[Qa,seval];refine Qh (Qk1 p _ _ fr m h1 h3) rfl ?_;simp only[h1,eE,seval];refine Ds (xs:=Qy bs) rfl (by simp only[h2,eE,seval]) rfl ĺ rfl hl ?_;have hb:Qy bs++Qy t=Qy (bs++t):=ĺ
 have hn:bs.length+t.length=(bs++t).length:=ό
 simp only[h1,hb,hn,eE,seval];rw[MH _ _ _ _ _ ϊ,Fk,MH _ _ _ _ _ ϊ,Yu]
def C9 (fr:Nat->Ob)(bs:List UInt8):Nat->Ob :=
 if bs.length=0 then fr else match fr 2005 with
  |.vec g _ _=>QL fr 2005 (.vec (g+1) 1 [])
  |_=>fr
def Qk2 (bs:List UInt8)(fr:Nat->Ob)(m:Qk)(h:Bld fr bs)(hl:bs.length<=140737488355328) :
  Qf prog 228 [.ptr 0 2215 0] (fr :: m) λx m1=>x=.str bs/\m1=C9 fr bs :: m:=by
 obtain⟨p,g,h1,h2,h3⟩:=h.cell;refine wG func228 ?_;simp only[eK,f228,seval];simp only[h1,eE,seval];refine⟨1,2005,g,bs.length,1,Qy bs,ϊ,rfl,h2,?_⟩;by_cases h0:bs.length=0
 ·have hb:bs=[]:=Qoh h0;subst hb;simp only[Ql,h1,h2,Qn7,Int.natCast_zero,eE,seval];refine .inl ⟨rfl,rfl,?_⟩;simp only[Ql,C9,Qn7,Qa,seval]
 ·simp only[h0,Ql,h1,h2,eE,seval];refine .inr ⟨1,g,bs.length,Qy bs,bs,rfl,rfl,h2,ĺ,h0,QnL ĺ,?_⟩;simp only[h0,Ql,h2,C9,eE,seval]
open Vp Cp Up
def body (f:R):List UInt8:=if f.wire=2 then fx 8 f.bits else if Xx f.wire then Vp.put f.bits else Vp.put f.data.length++f.data
def ZP (f:R):List UInt8:=if valid f then(Jd f.num f.wire).1++body f else []
def QI (l:List R):List UInt8:=l.flatMap ZP
def Bld.drop {fr:Nat->Ob}{bs:List UInt8}(h:Bld fr bs):Bld (QL (λi=>(fr i).scrub 5) 5 .none) bs:=by
 obtain⟨p,g,h1,h2,h3⟩:=h.cell;refine⟨p,g,?_,?_,h3⟩
 ·rw[Xe _ _ ϊ,h1];rcases h3 with rfl|rfl<;>rfl
 ·rw[Xe _ _ ϊ,h2];rfl
def Bld.put {fr:Nat->Ob}{bs:List UInt8}(h:Bld fr bs)(o:Ob):Bld (QL fr 5 o) bs:=by
 obtain⟨p,g,h1,h2,h3⟩:=h.cell;exact⟨p,g,by rw[Xe _ _ ϊ];exact h1,by rw[Xe _ _ ϊ];exact h2,h3⟩
def Qc2 (l:List R)(k:Nat)(st:St):Prop :=
 ∃f fr i,st=⟨f,[fr],[]⟩/\k=l.length-i/\i<=l.length/\f 3=.ptr 0 2215 0/\f 8=.list (NO l)/\f 9=.int .i64 (l.length:Int)/\f 10=.int .i64 (i:Nat)/\(fr 5).isRow=false/\Bld fr (QI (l.take i))
def CB (l:List R)(i:Nat)(fd:R)(h:l[i]? = some fd):QI (l.take (i+1))=QI (l.take i)++ZP fd:=by
 obtain⟨hi,e⟩:=Qna.1 h;rw[Qnv hi,e];simp[QI]
def Qei (l:List R)(i:Nat)(fd:R)(h:l[i]? = some fd):(QI (l.take i)).length+(ZP fd).length<=(QI l).length:=by
 have e:QI l=QI (l.take (i+1))++QI (l.drop (i+1)):=by
  unfold QI;rw[<-List.flatMap_append,Qou]
 rw[e,CB l i fd h];simp
def Qgk (l:List R)(hb:∀fd∈l,fd.bits<18446744073709551616/\fd.data.length<9223372036854775807)(hn:l.length<9223372036854775807)(hl:(QI l).length<=140737488355328):Qi prog 133 [.list (NO l)] (.str (QI l)):=by
 refine wF func133 ?_;simp only[eK,f133,seval];simp only[eE,seval];refine K7 rfl rfl rfl rfl ?_;simp only[Qea,Qa,seval];refine Qj (Qc2 l) _ ⟨_,_,0,rfl,rfl,Qnk _,rfl,rfl,rfl,rfl,rfl,?_⟩ ?_
 ·exact⟨.nilp,1,rfl,rfl,.inl rfl⟩
 rintro n st ⟨f,fr,i,rfl,rfl,hi,h3,h8,h9,am,m5,hB⟩;simp only[h9,am,m5,Qa,seval];by_cases aa:i<l.length
 ·obtain⟨fd,bu⟩:∃fd,l[i]? = some fd:=⟨l[i],Qnb aa⟩;have aN:=Qnp bu;obtain⟨fW,iF⟩:=hb fd aN;have xy:(NO l)[i]? = some fd.av:=by simp[NO,bu]
  have io:=CB l i fd bu;have xl:=Qei l i fd bu;have d0:decide ((i:Int)<(l.length:Int))=true:=Ϗ
  have n0:(0<=(i:Int))=True:=ό
  have e1:IntKind.i64.wrap ((i:Int)+1)=((i+1:Nat):Int):=ϐ
  -- how a round ends
  have fin:∀(f':Fr) (ag:Nat->Ob) (se:List UInt8),f' 3=.ptr 0 2215 0->f' 8=.list (NO l)->f' 9=.int .i64 (l.length:Int)->f' 10=.int .i64 (((i+1:Nat):Nat):Int)->(ag 5).isRow=false->Bld ag se->se=QI (l.take i)++ZP fd->∃k,k<l.length-i/\Qc2 l k ⟨f',[ag],[]⟩:=by
   intro f' ag se g1 g2 g3 g4 g5 g6 g7;exact⟨l.length-(i+1),ψ,f',ag,i+1,rfl,rfl,ψ,g1,g2,g3,g4,g5,by rw[io,<-g7];exact g6⟩
  have bJ:=(hB.drop).put (.cells [.int .i64 fd.num,.int .i64 fd.wire,.int .u64 (fd.bits:Nat),.str fd.data]);rw[Fk]at bJ;simp only[d0,n0,QoF,Qg,xy,R.av,h8,am,eE,seval];refine aC (Qk0 fd) ?_;cases hv:valid fd with
  |false=>
   simp only[e1,am,Qa,seval];refine fin _ _ _ ?_ ?_ ?_ ?_ ?_ bJ ?_
   ·simp only[h3,Qa,seval]
   ·simp only[h8,Qa,seval]
   ·simp only[h9,Qa,seval]
   ·simp only[Qa,seval]
   ·simp only[Qa,seval]
   ·simp[ZP,hv]
  |true=>
   simp only[eE,seval];refine aC (Qf8 fd.num fd.wire) ?_;simp only[AI,Qa,seval];have hp:ZP fd=(Jd fd.num fd.wire).1++body fd:=by simp[ZP,hv]
   have dT:=congrArg List.length hp;rw[QnP]at dT;have cE:∀x:Nat,x<=(body fd).length->(QI (l.take i)).length+(Jd fd.num fd.wire).1.length+x<=140737488355328:=by intro x hx;omega
   have cT:body fd=if fd.wire=2 then fx 8 fd.bits else if Xx fd.wire then Vp.put fd.bits else Vp.put fd.data.length++fd.data:=rfl
   obtain⟨g1,lA⟩:=P4 (QI (l.take i)) (Jd fd.num fd.wire).1 _ [] bJ (by have:=cE 0 ψ;omega);refine Qh lA É ?_;have B2:=Y3 (QL (λi=>(fr i).scrub 5) 5 (.cells [.int .i64 fd.num,.int .i64 fd.wire,.int .u64 (fd.bits:Nat),.str fd.data])) g1 (QI (l.take i)++(Jd fd.num fd.wire).1);have w5:Yu (QL (λi=>(fr i).scrub 5) 5 (.cells [.int .i64 fd.num,.int .i64 fd.wire,.int .u64 (fd.bits:Nat),.str fd.data])) g1 (QI (l.take i)++(Jd fd.num fd.wire).1) 5=.cells [.int .i64 fd.num,.int .i64 fd.wire,.int .u64 (fd.bits:Nat),.str fd.data]:=by
    rw[UY ϊ ϊ,Q6]
   have iX:(QI (l.take i)++(Jd fd.num fd.wire).1).length=(QI (l.take i)).length+(Jd fd.num fd.wire).1.length:=ό
   generalize x5:Yu (QL (λi=>(fr i).scrub 5) 5 (.cells [.int .i64 fd.num,.int .i64 fd.wire,.int .u64 (fd.bits:Nat),.str fd.data])) g1 (QI (l.take i)++(Jd fd.num fd.wire).1)=kT at B2 w5;simp only[w5,eE,seval];by_cases w2:fd.wire=2
   ·have dw:(fd.wire==2)=true:=Ĩ
    have dM:body fd=fx 8 fd.bits:=by rw[cT,Qnj w2]
    simp only[dw,w5,eE,seval];refine aC (Qgj fd.bits) ?_;obtain⟨g2,lx⟩:=P4 _ (fx 8 fd.bits) _ [] B2 č;exact zK
   ·have dw:(fd.wire==2)=false:=Ĩ
    simp only[dw,w5,eE,seval];refine aC (Qf7 fd.wire) ?_;cases eT:Xx fd.wire with
    |true=>
     have dM:body fd=Vp.put fd.bits:=by rw[cT,Qni w2,Qnj eT]
     simp only[w5,eE,seval];refine aC (AO fd.bits fW) ?_;obtain⟨g2,lx⟩:=P4 _ (Vp.put fd.bits) _ [] B2 č;exact zK
    |false=>
     have dM:body fd=Vp.put fd.data.length++fd.data:=by rw[cT,Qni w2,Qni (by rw[eT];simp)]
     have qo:=congrArg List.length dM;rw[QnP]at qo;have eu:IntKind.u64.wrap (fd.data.length:Int)=(fd.data.length:Nat):=Ă
     simp only[eu,w5,eE,seval];refine aC (AO fd.data.length ψ) ?_;obtain⟨g2,lx⟩:=P4 _ (Vp.put fd.data.length) _ [] B2 (by rw[iX];exact cE _ ψ);refine Qh lx É ?_;have B3:=Y3 kT g2 (QI (l.take i)++(Jd fd.num fd.wire).1++Vp.put fd.data.length);have w6:Yu kT g2 (QI (l.take i)++(Jd fd.num fd.wire).1++Vp.put fd.data.length) 5=.cells [.int .i64 fd.num,.int .i64 fd.wire,.int .u64 (fd.bits:Nat),.str fd.data]:=by
      rw[UY ϊ ϊ,w5]
     have pF:(QI (l.take i)++(Jd fd.num fd.wire).1++Vp.put fd.data.length).length=(QI (l.take i)).length+(Jd fd.num fd.wire).1.length+(Vp.put fd.data.length).length:=Ϗ
     generalize xC:Yu kT g2 (QI (l.take i)++(Jd fd.num fd.wire).1++Vp.put fd.data.length)=fr3 at B3 w6;simp only[w6,eE,seval];obtain⟨g3,wJ⟩:=P4 _ fd.data _ [] B3 (by rw[pF];have:=cE (body fd).length (Qm8 _);omega);refine Qh wJ É ?_;simp only[e1,am,Qa,seval];refine fin _ _ _ ?_ ?_ ?_ ?_ ?_ (Y3 _ _ _) ?_
     ·simp only[h3,Qa,seval]
     ·simp only[h8,Qa,seval]
     ·simp only[h9,Qa,seval]
     ·simp only[Qa,seval]
     ·rw[UY ϊ ϊ,w6]<;>rfl
     ·rw[hp,dM,Qnw,Qnw]
 ·have d0:decide ((i:Int)<(l.length:Int))=false:=Ϗ
  have bg:i=l.length:=ψ
  subst bg;rw[QoT]at hB;simp only[d0,Qa,seval];refine Qh (Qk2 (QI l) _ [] hB.drop hl) É ?_;simp only[Qa,seval]
end Va
namespace Va
open Go Am Rc Bt Br Up So
def XF (n:Int)(x:V):R:={ Q2 x.kd x.bits x.text with num:=n }
section
variable (bd:Int->V->List UInt8)
def Q3 (o:PO)(n:Int)(x:V):R:=if o.kind=10 then⟨n,4,0,bd o.target x⟩else XF n x
def ZQ (o:PO)(p:V×V):R:=⟨o.num,6,0,QI [XF 1 p.1,Q3 bd o 2 p.2]⟩
def F6 (w:Int)(b:Nat):List UInt8:=if w=2 then fx 8 b else Vp.put b
def WH (w:Int)(x:V):List UInt8:=F6 w (Q2 x.kd x.bits x.text).bits
def HJ (o:PO)(l:List V):R:=⟨o.num,5,0,UInt8.ofNat (wk o.kind).toNat :: l.flatMap (WH (wk o.kind))⟩
def Ws (o:PO)(x:V):List R :=
 if o.card=5 then x.pairs.map (ZQ bd o)
 else if pk o.card o.kind=true then [HJ o x.list]
 else if o.card=4 then x.list.map (Q3 bd o o.num)
 else [Q3 bd o o.num x]
def ZK (g:PG)(s:Int×V):List R:=match Xd g s.1 with
 |none=>[]
 |some o=>Ws bd o s.2
def Xn (g:PG):List (Int×V)->List R->List R
 | [],rs=>rs
 |s :: sl,rs=>rs.takeWhile (λr=>decide (r.num<s.1))++ZK bd g s++Xn g sl (rs.dropWhile λr=>decide (r.num<s.1))
end
def QW (P:PL):Nat->Int->V->List UInt8
 |0,_,_=>[]
 |n+1,t,v=>QI (Xn (QW P n) (Qe P t) (nrm P (n+1) (Qe P t) v).slots (nrm P (n+1) (Qe P t) v).raws)
def Qgl (n w:Int):(Jd n w).1.length<=10:=by
 unfold Jd;split
 ·exact Qnk _
 ·exact(Vp.put_len _).2
def Qgm (f:R):(ZP f).length<=20+f.data.length:=by
 unfold ZP;split
 ·have h1:=Qgl f.num f.wire;have h2:(body f).length<=10+f.data.length:=by
   exact Oj
  rw[QnP];omega
 ·exact Qnk _
def Ky (l:List R):Nat:=(l.map λf=>20+f.data.length).sum
def GQ:∀l:List R,(QI l).length<=Ky l
 | []=>Qm8 _
 |f :: l=>by
  have h1:=Qgm f;have h2:=GQ l;unfold QI Ky at h2 |-;rw[QoH,QnP,QnJ,Qps];omega
def S4 (a b:List R):Ky (a++b)=Ky a+Ky b:=by
 unfold Ky;rw[Qo3,List.sum_append]
def S5 (f:R):Ky [f]=20+f.data.length:=by simp[Ky]
def VR {P:PL}{k tg:Int}{v:V}(h:v.one P k tg=0):v.text.length<=4096:=by
 unfold V.one GD at h;split at h
 ·omega
 split at h
 ·omega
 rename_i h1 h2;simp only[Qnf]at h2;omega
def DZ (k:Int)(b:Nat)(t:List UInt8):(Q2 k b t).data.length<=t.length:=by
 unfold Q2 zr
 repeat' split
 all_goals first|exact Qnk _|exact Qm8 _
def P5 (n:Int)(v:V):(XF n v).data.length<=v.text.length:=DZ _ _ _
section
variable {P:PL}{m:PG->V->Int}{bd:Int->V->List UInt8}
variable (aO:∀(t:Int) (v:V),(0<=t/\t<(P.progs.length:Int))->m (Qe P t) v=0->(bd t v).length+70000<=70000*v.cnt)
include aO
theorem FF {o:PO}(ho:UO P o){n:Int}{x:V}(h:QS m P o x=0):(Q3 bd o n x).data.length+5000<=70000*x.cnt:=by
 have hc:=Xt x;unfold QS at h;unfold Q3;split
 ·rename_i hk;rw[Qnj hk]at h;have:=aO _ _ (ho.tgt hk) h;dsimp only;omega
 ·rename_i hk;rw[Qni hk]at h;have h1:=VR h;have h2:=P5 n x;omega
theorem S6 {o:PO}(ho:UO P o){p:V×V}(h1:p.1.one P o.key (-1)=0)(h2:QS m P o p.2=0):20+Ky [XF 1 p.1,Q3 bd o 2 p.2]<=70000*(p.1.cnt+p.2.cnt):=by
 have h3:=FF aO ho (n:=2) h2;have h4:=VR h1;have h5:=P5 1 p.1;have hc:=Xt p.1;have e:Ky [XF 1 p.1,Q3 bd o 2 p.2]=(20+(XF 1 p.1).data.length)+(20+(Q3 bd o 2 p.2).data.length):=by simp[Ky]
 omega
theorem P6 {o:PO}(ho:UO P o){p:V×V}(h1:p.1.one P o.key (-1)=0)(h2:QS m P o p.2=0):20+(ZQ bd o p).data.length<=70000*(p.1.cnt+p.2.cnt):=by
 have h3:=S6 aO ho h1 h2;have h6:=GQ [XF 1 p.1,Q3 bd o 2 p.2];unfold ZQ;dsimp only;omega
omit aO in
theorem S7 (w:Int)(x:V):(WH w x).length<=10:=by
 unfold WH F6;split
 ·rw[Z6];omega
 ·exact(Vp.put_len _).2
omit aO in
theorem FG (w:Int):∀l:List V,(l.flatMap (WH w)).length<=10*l.length
 | []=>Qm8 _
 |x :: l=>by
  have h1:=S7 w x;have h2:=FG w l;rw[QoH,QnP,Qnq];omega
theorem Qej {o:PO}(ho:UO P o){x:V}(h:XC m P o x=0):Ky (Ws bd o x)<=70000*x.cnt:=by
 have hc:=Q8 x;have hp:=Xt x;unfold XC at h;unfold Ws;by_cases h5:o.card=5
 ·rw[Qnj h5]at h;rw[Qnj h5];split at h
  ·omega
  have hE:=(KR.1 h).1;have key:∀l:List (V×V),(∀p∈l,p.1.one P o.key (-1)=0/\QS m P o p.2=0)->Ky (l.map (ZQ bd o))<=70000*Xo l:=by
   intro l
   induction l with
   |nil=>intro _;exact Qnk _
   |cons p l ih=>
    intro hl;have i1:=ih λq hq=>hl q ō
    obtain⟨a,b⟩:=hl p ό;have i2:=P6 aO ho a b;obtain⟨pa,pb⟩:=p;unfold Ky at i1 |-;simp only[QnJ,Qps,Xo];dsimp only at i2;omega
  have:=key _ hE;omega
 ·rw[Qni h5]at h;rw[Qni h5];split
  ·have h1:=FG (wk o.kind) x.list;have h2:=BB x.list;rw[S5];unfold HJ;simp only[Qnq];omega
  ·by_cases h4:o.card=4
   ·rw[Qnj h4]at h;rw[Qnj h4];split at h
    ·omega
    have hL:=Km.1 h;have key:∀l:List V,(∀y∈l,QS m P o y=0)->Ky (l.map (Q3 bd o o.num))<=70000*Q9 l:=by
     intro l
     induction l with
     |nil=>intro _;exact Qnk _
     |cons y l ih=>
      intro hl;have i1:=ih λq hq=>hl q ō
      have i2:=FF aO ho (n:=o.num) (hl y ό);unfold Ky at i1 |-;simp only[QnJ,Qps,Q9];omega
    have:=key _ hL;omega
   ·rw[Qni h4]at h;rw[Qni h4,S5];have:=FF aO ho (n:=o.num) h;omega
omit aO in
theorem P7 {g:PG}{f:R}(h:Kk P g f=0):f.data.length<=65536:=by
 unfold Kk at h;split at h
 ·omega
 split at h
 ·omega
 split at h
 ·omega
 split at h
 ·omega
 rename_i h4;simp only[Qne,Qnf,not_or]at h4;omega
theorem BE {g:PG}:∀(sl:List (Int×V)) (rs:List R),(∀x∈sl,∃o,Xd g x.1=some o/\UO P o/\XC m P o x.2=0)->(∀f∈rs,Kk P g f=0)->Ky (Xn bd g sl rs)<=70000*(rs.length+Xk sl)
 | [],rs,_,hr=>by
  unfold Xn;have:∀l:List R,(∀f∈l,Kk P g f=0)->Ky l<=70000*l.length:=by
   intro l
   induction l with
   |nil=>intro _;exact Qnk _
   |cons f l ih=>
    exact Ok
  have:=this rs hr;omega
 |s :: sl,rs,hs,hr=>by
  obtain⟨o,h1,ho,h2⟩:=hs s ό;have h3:=Qej aO ho h2;have ih:=BE sl (rs.dropWhile λr=>decide (r.num<s.1)) (λx hx=>hs x õ) (λf hf=>hr f ((QpB _).mem hf));have h4:∀l:List R,(∀f∈l,Kk P g f=0)->Ky l<=70000*l.length:=by
   intro l
   induction l with
   |nil=>intro _;exact Qnk _
   |cons f l ih=>
    exact Ok
  have h5:=h4 (rs.takeWhile λr=>decide (r.num<s.1)) (λf hf=>hr f ((QpC _).mem hf));have h6:(rs.takeWhile λr=>decide (r.num<s.1)).length+(rs.dropWhile λr=>decide (r.num<s.1)).length=rs.length:=by
   rw[<-QnP,QpD]
  obtain⟨sn,sx⟩:=s;rw[Xn,S4,S4];unfold ZK;rw[h1];simp only[Xk];dsimp only at h3 h5 h6 ih |-;omega
end
def H3 {P:PL}(hU:JD P)(hr:XR P):∀(n:Nat) (t:Int) (v:V),(0<=t/\t<(P.progs.length:Int))->XK P n (Qe P t) v=0->(QW P n t v).length+70000<=70000*v.cnt
 |0,t,v,_,h=>(Un 0 _ _ h).elim
 |n+1,t,v,ht,h=>by
  have hg:Qe P t∈P.progs:=by
   exact U_
  have hf:=KH hU hr (n+1) (Qe P t) hg v h;have hc:=JQ hr (n+1) (Qe P t) (Zf hr t) v;rw[QW];generalize nrm P (n+1) (Qe P t) v=w at hf hc;obtain⟨_,⟨s1,_,_⟩,_,s4⟩:=Jy.1 hf;have h1:=GQ (Xn (QW P n) (Qe P t) w.slots w.raws);have h2:=Q8 w;have h3:=BE (m:=XK P n) (bd:=QW P n) (λt v ht hm=>H3 hU hr n t v ht hm) w.slots w.raws (λx hx=>by
   obtain⟨o,ho,hx⟩:=s1 x hx;exact⟨o,ho,hU _ hg o (ZX ho).1,hx⟩) s4
  omega
def Wd (P:PL)(m:PG->V->Int)(g:PG)(s:Int×V):Prop:=∃o,Xd g s.1=some o/\XC m P o s.2=0/\(o.card<3\/s.2.emp=false)
def Ln {P:PL}(hU:JD P)(hr:XR P){n:Nat}{g:PG}(hg:g∈P.progs){v:V}(h:XK P (n+1) g v=0):∀s∈(nrm P (n+1) g v).slots,Wd P (XK P n) g s:=by
 have hf:=KH hU hr (n+1) g hg v h;obtain⟨_,⟨s1,_,_⟩,_,_⟩:=Jy.1 hf;intro s hs;obtain⟨o,ho,hx⟩:=s1 s hs;refine⟨o,ho,hx,?_⟩;have dz:s∈g.ops.flatMap (Xb (nrm P n) P v.slots):=hs;obtain⟨q,hq,kM⟩:=QnX.1 dz;unfold Xb at kM;split at kM
 ·cases kM
 ·split at kM
  ·rename_i hc;rw[Qpp]at kM;subst kM;have e:Xd g q.num=some q:=XX (hr g hg) hq;rw[e]at ho;cases ho;simp only[Qne,Qnf,Qn9]at hc;exact hc
  ·cases kM
def UZ {c k:Int}(h:pk c k=true):c=4/\(k=1\/k=2\/k=3\/k=4\/k=5\/k=6\/k=9):=by
 unfold pk at h;simp only[Qnz,Qne,Qnf,Qng]at h;omega
def Qc3 {c k:Int}(h:pk c k=true):wk k=0\/wk k=1\/wk k=2:=by
 obtain⟨_,h⟩:=UZ h;rcases h with rfl|rfl|rfl|rfl|rfl|rfl|rfl<;>decide
def Lo {c k:Int}(h:pk c k=true)(b:Nat)(t:List UInt8):(Q2 k b t).wire=wk k:=by
 obtain⟨_,h⟩:=UZ h;rcases h with rfl|rfl|rfl|rfl|rfl|rfl|rfl<;>rfl
def Y4 {k:Int}{b:Nat}(hb:b<18446744073709551616)(t:List UInt8):(Q2 k b t).bits<18446744073709551616:=by
 unfold Q2;split
 ·exact hb
 split
 ·have h1:=Qga (IntKind.i64.wrap (b:Int)) ϐ ϐ;have h2:=GL (IntKind.i64.wrap (b:Int));show(YZ _).toNat<_;omega
 split
 ·show Xw k b<_;unfold Xw;split
  ·decide
  ·exact hb
 split
 ·exact Id
 ·exact Id
def P8 {M:Nat}{v:V}(hv:v.ok M):v.bits<18446744073709551616:=by
 have:=Nm hv.bits;omega
def Rb (f:R):Prop:=f.bits<18446744073709551616
def Lp {M:Nat}{v:V}(hv:v.ok M)(n:Int):Rb (XF n v):=Y4 (P8 hv) _
def P9 {M:Nat}{v:V}(hv:v.ok M)(bd:Int->V->List UInt8)(o:PO)(n:Int):Rb (Q3 bd o n v):=by
 unfold Q3;split
 ·exact Id
 ·exact Lp hv n
def Qgn {M:Nat}{v:V}(hv:v.ok M)(bd:Int->V->List UInt8)(o:PO):∀f∈Ws bd o v,Rb f:=by
 have z:(0:Nat)<18446744073709551616:=ϊ
 unfold Ws;split
 ·intro f hf;obtain⟨p,_,rfl⟩:=Qox.1 hf;exact z
 split
 ·intro f hf;rw[Qpp]at hf;subst hf;exact z
 split
 ·intro f hf;obtain⟨y,hy,rfl⟩:=Qox.1 hf;exact P9 (hv.list y hy) _ _ _
 ·intro f hf;rw[Qpp]at hf;subst hf;exact P9 hv _ _ _
def S8 {M:Nat}(bd:Int->V->List UInt8)(g:PG):∀(sl:List (Int×V)) (rs:List R),(∀s∈sl,s.2.ok M)->(∀f∈rs,Rb f)->∀f∈Xn bd g sl rs,Rb f
 | [],_,_,hr,f,hf=>hr f hf
 |s :: sl,rs,hs,hr,f,hf=>by
  rw[Xn,Qow,Qow]at hf;rcases hf with(hf|hf)|hf
  ·exact hr f ((QpC _).mem hf)
  ·unfold ZK at hf;split at hf
   ·cases hf
   ·exact Qgn (hs s ό) bd _ f hf
  ·exact S8 bd g sl _ (λx hx=>hs x õ) (λf hf=>hr f ((QpB _).mem hf)) f hf
def VS:∀l:List R,20*l.length<=Ky l
 | []=>Qnk _
 |f :: l=>by
  have:=VS l;unfold Ky at this |-;simp only[QnJ,Qps,Qnq];omega
def Qek {l:List R}{f:R}(h:f∈l):f.data.length<=Ky l:=by
 induction l with
 |nil=>cases h
 |cons x l ih=>
  unfold Ky at ih |-;simp only[QnJ,Qps];rcases Qoz.1 h with rfl|h
  ·omega
  ·have:=ih h;omega
def Ra {l:List R}(hb:∀f∈l,Rb f)(hw:Ky l<=140737488355328):(∀fd∈l,fd.bits<18446744073709551616/\fd.data.length<9223372036854775807)/\l.length<9223372036854775807/\(QI l).length<=140737488355328:=by
 have h1:=VS l;have h2:=GQ l;exact⟨λfd hf=>⟨hb fd hf,by have:=Qek hf;omega⟩,ψ,ψ⟩
end Va
namespace Va
open Go Am Rc Bt Vp Cp Up
def rd (s:List UInt8)(tx:Int):Option (R×Nat) :=
 let t:=Vp.take s
 if t.2.2≠0\/t.1 % 8=7\/t.1 / 8<1\/65535<t.1 / 8 then none
 else
  let s1:=s.drop t.2.1
  if t.1 % 8=2 then if s1.length<8 then none else some (⟨(t.1 / 8:Nat),(t.1 % 8:Nat),UN s1,[]⟩,t.2.1+8)
  else
   let b:=Vp.take s1
   if b.2.2≠0 then none
   else if t.1 % 8=0\/t.1 % 8=1 then some (⟨(t.1 / 8:Nat),(t.1 % 8:Nat),b.1,[]⟩,t.2.1+b.2.1)
   else if (s1.drop b.2.1).length<b.1\/(if t.1 % 8=3 then tx else 65536)<(b.1:Int)then none
   else some (⟨(t.1 / 8:Nat),(t.1 % 8:Nat),0,(s1.drop b.2.1).take b.1⟩,t.2.1+b.2.1+b.1)
def Qgo (f:R)(tx:Int):Prop:=Xx f.wire=false->(f.data.length:Int)<=if f.wire=3 then tx else 65536
def Qgp {f:R}{tx:Int}(hv:valid f=true)(hb:f.bits<2 ^ 64)(hd:f.data.length<2 ^ 64)(hf:Qgo f tx)(t:List UInt8):rd (ZP f++t) tx=some (f,(ZP f).length):=by
 obtain⟨num,wire,bits,data⟩:=f;have bQ:=hv;unfold valid at bQ;simp only[Qnz,Qng]at bQ hb hd;obtain⟨h1,h2⟩:=bQ;have hr:¬(num<1\/65535<num\/wire<0\/6<wire):=λh=>by
  unfold Jd at h1;rw[Qnj h]at h1;cases h1
 have gQ:Jd num wire=(Vp.put (num*8+wire).toNat,0):=by unfold Jd;rw[Qni hr]
 simp only[not_or,Int.not_lt]at hr;obtain⟨n,rfl⟩:=QoZ (show 0<=num by omega);obtain⟨w,rfl⟩:=QoZ (show 0<=wire by omega);rw[show((n:Int)*8+(w:Int)).toNat=n*8+w by omega]at gQ;have hp:ZP ⟨n,w,bits,data⟩=Vp.put (n*8+w)++body ⟨n,w,bits,data⟩:=by rw[ZP,Qnj hv];simp only[gQ]
 have nK:∀z,Vp.take (Vp.put (n*8+w)++z)=(n*8+w,(Vp.put (n*8+w)).length,0):=λz=>GB _ z ψ
 rw[hp,Qnw];unfold rd;simp only[nK,List.drop_left'];rw[Qni ψ,show(n*8+w) % 8=w by omega,show(n*8+w) / 8=n by omega];by_cases w2:w=2
 ·subst w2;have dM:body ⟨n,(2:Nat),bits,data⟩=fx 8 bits:=by rw[body];exact Qnj rfl
  have si:data=[]:=by simpa [Xx]using h2
  subst si;rw[Qnj rfl,dM,Qni (by simp only[QnP,Z6];omega),SY bits t hb,QnP,Z6]
 ·rw[Qni w2];by_cases pR:w=0\/w=1
  ·have aK:Xx (w:Int)=true:=by rcases pR with h|h<;>rw[h]<;>rfl
   have dM:body ⟨n,w,bits,data⟩=Vp.put bits:=by
    rw[body];simp only[aK];rw[Qni ψ];simp
   have si:data=[]:=ħ
   subst si;rw[dM,GB bits t hb];simp only[ne_eq,not_true_eq_false,if_false,pR,if_true,QnP]
  ·have aK:Xx (w:Int)=false:=by
    have:w=3\/w=4\/w=5\/w=6:=ψ
    rcases this with h|h|h|h<;>rw[h]<;>rfl
   have dM:body ⟨n,w,bits,data⟩=Vp.put data.length++data:=by
    rw[body];simp only[aK];rw[Qni ψ];simp
   have xw:bits=0:=ħ
   subst xw;rw[dM,Qnw,GB data.length _ hd];have i8:=hf aK;simp only at i8;simp only[ne_eq,not_true_eq_false,if_false,pR,List.drop_left',QnP];rw[Qni,List.take_left',Qm7]
   ·rfl
   ·simp only[not_or];refine⟨ψ,?_⟩;split at i8
    ·rename_i h3;rw[Qnj ψ];omega
    ·rename_i h3;rw[Qni ψ];omega
def Z0 {c:C}(hl:c.d.length<=9223372036854770000)(hs:c.sound=true)(n:Nat)(hn:(n:Int)<=c.left) :
  c.ahead n={ c with a:=c.a+n }/\(c.ahead n).sound=true/\(c.ahead n).rest=c.rest.drop n:=by
 have h:=(C.sound_iff c).1 hs;have hr:=c.rest_len;rw[Qnj hs]at hr;have hw:IntKind.i64.wrap (c.a+(n:Int))=c.a+n:=ϐ
 have e:c.ahead n={ c with a:=c.a+n }:=by simp only[C.ahead,hw]
 have dz:(c.ahead n).sound=true:=by
  rw[e,C.sound_iff];exact⟨by show 0<=c.a+n;omega,by show c.a+n<=c.e;omega,h.2.2⟩
 refine⟨e,dz,?_⟩;rw[C.rest_of dz,C.rest_of hs,e];simp only;rw[List.drop_take,QnG,show(c.a+(n:Int)).toNat=c.a.toNat+n by omega];congr 1
 omega
def Lq {c:C}(hn:1<=c.nd)(hm:c.nd<9223372036854775808):c.spend 1=({ c with nd:=c.nd-1 },0):=by
 unfold C.spend;rw[Qni ψ,Qni ψ,show IntKind.i64.wrap (c.nd-1)=c.nd-1 by rw[QD];omega]
def Qgq {c:C}(h:c.nd<1):(Xu c).2.2≠0:=by
 unfold Xu;simp only;split
 ·rename_i ht;have e:(Qp c).2.2.1.nd=c.nd:=by
   unfold Qp C.varint;simp only
   repeat' split
   all_goals rfl
  have:((Qp c).2.2.1.spend 1).2=3:=by
   unfold C.spend;rw[Qni ψ,Qnj (by rw[e];omega)]
  rw[this,Qni ϊ];exact(by decide:(3:Nat)≠0)
 ·rename_i ht;exact ht
def Qgr {c:C}(hl:c.d.length<=9223372036854770000)(hs:c.sound=true)(hn:1<=c.nd)(hm:c.nd<9223372036854775808) :
  (∀f k,rd c.rest c.tx=some (f,k)->Xu c=(f,{ c with a:=c.a+k,nd:=c.nd-1 },0))/\(rd c.rest c.tx=none->(Xu c).2.2≠0):=by
 have cJ:c.varint=if (Vp.take c.rest).2.2=0 then((Vp.take c.rest).1,c.ahead (Vp.take c.rest).2.1,0)else(0,c,(Vp.take c.rest).2.2):=rfl
 have hb:=WE c.rest;unfold rd;simp only;generalize Vp.take c.rest=T at cJ hb |-;obtain⟨u,n,e⟩:=T;simp only at cJ hb |-;by_cases he:e=0
 ·subst he;rw[Qnj rfl]at cJ;obtain⟨b1,b2,b3,b4⟩:=hb rfl;obtain⟨a1,a2,a3⟩:=Z0 hl hs n Ď;have mq:(c.ahead n).d.length<=9223372036854770000:=hl;by_cases iz:u % 8=7\/u / 8<1\/65535<u / 8
  ·rw[Qnj ψ];refine⟨λf k h=>Á,λ_=>?_⟩;have ht:(Qp c).2.2.2≠0:=by
    unfold Qp;simp only[cJ,if_true];by_cases h7:u % 8=7
    ·rw[Qnj h7];exact(by decide:(5:Nat)≠0)
    ·rw[Qni h7,Qnj ψ];exact(by decide:(6:Nat)≠0)
   unfold Xu;simp only[ht,if_false];exact ht
  ·rw[Qni ψ];have ht:Qp c=(((u / 8:Nat):Int),((u % 8:Nat):Int),c.ahead n,0):=by
    unfold Qp;simp only[cJ,if_true];rw[Qni ψ,Qni ψ]
   have dc:(c.ahead n).spend 1=({ c.ahead n with nd:=c.nd-1 },0):=Lq (c:=c.ahead n) hn hm;generalize hD:({ c.ahead n with nd:=c.nd-1 }:C)=D at dc;have uM:D.sound=true:=by rw[<-hD];exact a2
   have tS:D.d.length<=9223372036854770000:=by rw[<-hD];exact hl
   have x9:D.rest=c.rest.drop n:=by rw[<-hD,<-a3];rfl
   have tH:∀k:Nat,({ D with a:=D.a+k }:C)={ c with a:=c.a+(n+k:Nat),nd:=c.nd-1,tx:=D.tx }:=by
    intro k;rw[<-hD,a1];exact O9
   have kg:Xu c=if (Zw D ⟨(u / 8:Nat),(u % 8:Nat),0,[]⟩).2.2=0 then Zw D ⟨(u / 8:Nat),(u % 8:Nat),0,[]⟩else(zr,c,(Zw D ⟨(u / 8:Nat),(u % 8:Nat),0,[]⟩).2.2):=by
    unfold Xu;simp only[ht,dc,if_true]
   have fm:D.tx=c.tx:=by rw[<-hD];rfl
   rw[kg,<-x9,<-fm];by_cases h2:u % 8=2
   ·rw[Qnj h2];have hc:Zw D ⟨(u / 8:Nat),(u % 8:Nat),0,[]⟩=(⟨(u / 8:Nat),(u % 8:Nat),D.fixed.1,[]⟩,D.fixed.2.1,D.fixed.2.2):=by
     unfold Zw;rw[Qnj ć]
    rw[hc];unfold C.fixed;by_cases h8:D.rest.length<8
    ·simp only[h8,if_true];exact If
    ·simp only[h8,if_false,if_true];refine⟨λf k h=>?_,λh=>Á⟩;simp only[QnC,QoI]at h;obtain⟨rfl,rfl⟩:=h;have e8:D.ahead 8={ D with a:=D.a+((8:Nat):Int) }:=(Z0 tS uM 8 Ď).1;rw[e8,tH 8]
   ·rw[Qni h2];have s8:=WE D.rest;have lI:D.varint=if (Vp.take D.rest).2.2=0 then((Vp.take D.rest).1,D.ahead (Vp.take D.rest).2.1,0)else(0,D,(Vp.take D.rest).2.2):=rfl
    generalize Vp.take D.rest=B at lI s8 |-;obtain⟨v,m,e⟩:=B;simp only at lI s8 |-;have nZ:¬(u % 8=0\/u % 8=1)->Zw D ⟨(u / 8:Nat),(u % 8:Nat),0,[]⟩=(⟨(u / 8:Nat),(u % 8:Nat),0,(Kv D (u % 8:Nat)).1⟩,(Kv D (u % 8:Nat)).2.1,(Kv D (u % 8:Nat)).2.2):=by
     intro h;unfold Zw;rw[Qni ć,Qni ć]
    have aA:(u % 8=0\/u % 8=1)->Zw D ⟨(u / 8:Nat),(u % 8:Nat),0,[]⟩=(⟨(u / 8:Nat),(u % 8:Nat),D.varint.1,[]⟩,D.varint.2.1,D.varint.2.2):=by
     intro h;unfold Zw;rw[Qni ć,Qnj ć]
    by_cases he:e=0
    ·subst he;rw[Qnj rfl]at lI;obtain⟨c1,c2,c3,c4⟩:=s8 rfl;obtain⟨d1,d2,d3⟩:=Z0 tS uM m Ď;rw[Qni ό];by_cases mC:u % 8=0\/u % 8=1
     ·rw[Qnj mC,aA mC,lI];simp only[if_true];refine⟨λf k h=>?_,λh=>Á⟩;simp only[QnC,QoI]at h;obtain⟨rfl,rfl⟩:=h;rw[d1,tH m]
     ·rw[Qni mC,nZ mC];have kB:Kv D ((u % 8:Nat):Int)=if (D.ahead m).left<(v:Int)then([],D,4)else if (if u % 8=3 then D.tx else 65536)<(v:Int)then([],D,3)else(((D.ahead m).d.drop (D.ahead m).a.toNat).take v,(D.ahead m).ahead v,0):=by
       unfold Kv;simp only[lI,if_true];have:(if ((u % 8:Nat):Int)=3 then D.tx else 65536)=if u % 8=3 then D.tx else 65536:=by
        by_cases h:u % 8=3
        ·rw[Qnj h,Qnj ψ]
        ·rw[Qni h,Qni ψ]
       rw[this]
      have c_:(D.ahead m).left=((D.rest.drop m).length:Int):=by unfold C.left;rw[d3]
      rw[kB,c_];by_cases hq:(D.rest.drop m).length<v
      ·rw[Qnj (.inl hq),Qnj (show((D.rest.drop m).length:Int)<(v:Int)by omega)];exact If
      ·rw[Qni (show ¬((D.rest.drop m).length:Int)<(v:Int)by omega)];by_cases hr:(if u % 8=3 then D.tx else 65536)<(v:Int)
       ·rw[Qnj (.inr hr),Qnj hr];exact If
       ·rw[Qni (by simp only[not_or];exact⟨hq,hr⟩),Qni hr];simp only[if_true];refine⟨λf k h=>?_,λh=>Á⟩;simp only[QnC,QoI]at h;obtain⟨rfl,rfl⟩:=h;have sF:=Z0 (c:=D.ahead m) tS d2 v (by rw[c_];omega);have nG:((D.ahead m).d.drop (D.ahead m).a.toNat).take v=(D.rest.drop m).take v:=by
         rw[<-d3,C.rest_of d2,Qos,Qot];have h1:=(C.sound_iff _).1 d2;have h2:=(D.ahead m).rest_len;rw[Qnj d2,c_]at h2;omega
        rw[nG,sF.1];have:({ D.ahead m with a:=(D.ahead m).a+v }:C)={ D with a:=D.a+(m+v:Nat) }:=by
         rw[d1];exact O9
        rw[this,tH (m+v),Qm7]
    ·rw[Qni he]at lI;rw[Qnj (by simpa using he)];refine⟨λf k h=>Á,λ_=>?_⟩;by_cases mC:u % 8=0\/u % 8=1
     ·rw[aA mC,lI];simp only[he,if_false];exact he
     ·rw[nZ mC];have kB:Kv D ((u % 8:Nat):Int)=([],D,e):=by
       unfold Kv;simp only[lI,he,if_false]
      rw[kB];simp only[he,if_false];exact he
 ·rw[Qni he]at cJ;rw[Qnj (.inl he)];refine⟨λf k h=>Á,λ_=>?_⟩;have ht:Qp c=(0,0,c,e):=by
   unfold Qp;simp only[cJ,he,if_false]
  unfold Xu;simp only[ht,he,if_false];exact he
def D0 (s:List UInt8)(x y z:Int):(⟨s,0,s.length,x,y,z⟩:C).sound=true/\(⟨s,0,s.length,x,y,z⟩:C).rest=s:=by
 have hs:(⟨s,0,s.length,x,y,z⟩:C).sound=true:=(C.sound_iff _).2 ⟨QoC _,ό,QoC _⟩;refine⟨hs,?_⟩;rw[C.rest_of hs];simp
def Qel {f:R}(h:valid f=true):0<(ZP f).length:=by
 rw[ZP,Qnj h,QnP];have h':=h;unfold valid at h';simp only[Qnz,Qng]at h';unfold Jd at h' |-;split
 ·rename_i hb;rw[Qnj hb]at h';exact absurd h'.1 ϊ
 ·have:=(put_len (f.num*8+f.wire).toNat).1;simp only;omega
open Br So
def Gf (f:R):Prop:=valid f=true/\f.bits<18446744073709551616/\f.data.length<18446744073709551616
def Qbd {f:R}(hf:Gf f):∃n w:Nat,f.num=(n:Int)/\f.wire=(w:Int)/\w<=6/\n<=65535/\ZP f=Vp.put (n*8+w)++body f/\((w=2/\f.data=[]/\body f=fx 8 f.bits)\/(w<=1/\f.data=[]/\body f=Vp.put f.bits)\/(3<=w/\f.bits=0/\body f=Vp.put f.data.length++f.data)):=by
 obtain⟨hv,hb,hd⟩:=hf;obtain⟨num,wire,bits,data⟩:=f;have bQ:=hv;unfold valid at bQ;simp only[Qnz,Qng]at bQ hb hd;obtain⟨h1,h2⟩:=bQ;have hr:¬(num<1\/65535<num\/wire<0\/6<wire):=λh=>by
  unfold Jd at h1;rw[Qnj h]at h1;cases h1
 have gQ:Jd num wire=(Vp.put (num*8+wire).toNat,0):=by unfold Jd;rw[Qni hr]
 simp only[not_or,Int.not_lt]at hr;obtain⟨n,rfl⟩:=QoZ (show 0<=num by omega);obtain⟨w,rfl⟩:=QoZ (show 0<=wire by omega);rw[show((n:Int)*8+(w:Int)).toNat=n*8+w by omega]at gQ;have hp:ZP ⟨n,w,bits,data⟩=Vp.put (n*8+w)++body ⟨n,w,bits,data⟩:=by rw[ZP,Qnj hv];simp only[gQ]
 refine⟨n,w,rfl,rfl,ψ,ψ,hp,?_⟩;by_cases w2:w=2
 ·subst w2;exact .inl ⟨rfl,by simpa [Xx]using h2,by rw[body];exact Qnj rfl⟩
 ·by_cases pR:w<=1
  ·have aK:Xx (w:Int)=true:=by
    have:w=0\/w=1:=ψ
    rcases this with h|h<;>rw[h]<;>rfl
   exact .inr (.inl ⟨pR,ħ,ÿ⟩)
  ·have aK:Xx (w:Int)=false:=by
    have:w=3\/w=4\/w=5\/w=6:=ψ
    rcases this with h|h|h|h<;>rw[h]<;>rfl
   exact .inr (.inr ⟨ψ,ħ,ÿ⟩)
def Lr {f:R}(hf:Gf f):ZP f≠[]:=by
 have:=Qel hf.1;intro e;rw[e]at this;simp at this
def Ls (w:Int)(a:Nat):F6 w a≠[]:=by
 intro e;unfold F6 at e;split at e
 ·have:=congrArg List.length e;rw[Z6]at this;simp at this
 ·have h1:=(Vp.put_len a).1;rw[e]at h1;simp at h1
def Qk3 {v w:V}(h1:v.kd=w.kd)(h2:v.bits=w.bits)(h3:v.text=w.text)(h4:v.list=w.list)(h5:v.pairs=w.pairs)(h6:v.slots=w.slots)(h7:v.raws=w.raws):v=w:=by
 exact Og
def KJ {P:PL}{k tg:Int}{v:V}(h:v.one P k tg=0):v.kd=k/\1<=k/\k<=9/\v.list=[]/\v.pairs=[]/\v.slots=[]/\v.raws=[]/\(if k=7\/k=8 then v.bits=0 else v.text=[]):=by
 obtain⟨h1,h2,h3⟩:=HU h;have hk:=Po h3;unfold isk at hk;simp only[Qnz,Qnf]at hk;unfold V.oth oth at h2;simp only[Qn4,Qpj,bne_eq_false_iff_eq,Qpf,Qn6]at h2;obtain⟨⟨⟨⟨a1,a2⟩,a3⟩,_⟩,_⟩:=h2;have b1:v.list.length=0:=by rcases a1 with a|a<;>omega
 have b2:v.pairs.length=0:=by rcases a2 with a|a<;>omega
 have b3:v.slots.length+v.raws.length=0:=by rcases a3 with a|a<;>omega
 refine⟨h1,hk.1,hk.2,Qpo.1 b1,Qpo.1 b2,Qpo.1 ψ,Qpo.1 ψ,?_⟩;unfold Ze at h3;simp only[Qnz]at h3;have h4:=h3.1.1.1.2;rw[h1]at h4;unfold Zz at h4;by_cases c:k=7\/k=8
 ·rw[Qnj c];rw[Qnj (by rcases c with c|c<;>simp[c])]at h4
  simpa using h4
 ·rw[Qni c];simp only[not_or]at c;rw[Qni (by simp[c.1,c.2])]at h4
  simpa using h4
def Jj (c:C)(n k:Nat):C:={ c with a:=c.a+n,nd:=c.nd-k }
structure CT (c:C):Prop where
 ci:CI c
 tx:0<=c.tx
def Q0 {c:C}:c.left=(c.rest.length:Int):=rfl
def WI {c:C}(hc:CT c){n k:Nat}(hn:n<=c.rest.length)(hk:(k:Int)<=c.nd):CT (Jj c n k):=by
 have h1:=hc.ci.pos;have h2:=hc.ci.lf;have h3:=hc.ci.nd;rw[Q0]at h2;exact⟨NP hc.ci.len (by unfold Jj;dsimp only;omega) (by unfold Jj;dsimp only;omega) hc.ci.dp,hc.tx⟩
def BF {c:C}(hc:CT c){n:Nat}(k:Nat)(hn:n<=c.rest.length):(Jj c n k).rest=c.rest.drop n:=by
 obtain⟨e,_,h⟩:=Z0 hc.ci.big hc.ci.snd n (by rw[Q0];omega);rw[<-h,e];rfl
def KO {c:C}(hc:CT c){s t:List UInt8}(h:c.rest=s++t)(k:Nat):(Jj c s.length k).rest=t:=by
 rw[BF hc k (by rw[h,QnP];omega),h];exact List.drop_left' rfl
def ZU {c:C}{s t:List UInt8}(h:c.rest=s++t):s.length<=c.rest.length:=by
 rw[h,QnP];omega
def H4 {c:C}(hc:CT c){u:Nat}(hu:u<18446744073709551616){t:List UInt8}(h:c.rest=Vp.put u++t):c.varint=(u,Jj c (Vp.put u).length 0,0):=by
 have h1:=GB u t hu;obtain⟨e,_,_⟩:=Z0 hc.ci.big hc.ci.snd (Vp.put u).length (by rw[Q0];have:=ZU h;omega);rw[<-h]at h1;show(if (Vp.take c.rest).2.2=0 then((Vp.take c.rest).1,c.ahead (Vp.take c.rest).2.1,0)else(0,c,(Vp.take c.rest).2.2))=_;rw[h1];simp[e,Jj]
def Lt {c:C}(hc:CT c){u:Nat}(hu:u<18446744073709551616){t:List UInt8}(h:c.rest=fx 8 u++t):c.fixed=(u,Jj c 8 0,0):=by
 have h1:=SY u t hu;have hl:=ZU h;rw[Z6]at hl;obtain⟨e,_,_⟩:=Z0 hc.ci.big hc.ci.snd 8 (by rw[Q0];omega);rw[<-h]at h1;unfold C.fixed;rw[Qni ψ,h1];have e':c.ahead 8={ c with a:=c.a+(8:Nat) }:=e;simp[e',Jj]
def Re {c:C}(hc:CT c){n w:Nat}(hn:1<=n/\n<=65535)(hw:w<=6){t:List UInt8}(h:c.rest=Vp.put (n*8+w)++t):Qp c=((n:Int),(w:Int),Jj c (Vp.put (n*8+w)).length 0,0):=by
 have h1:=H4 hc ψ h;unfold Qp;simp only[h1,if_true];rw[Qni ψ,Qni ψ,show(n*8+w) / 8=n by omega,show(n*8+w) % 8=w by omega]
def H5 {c:C}(hc:CT c){s t:List UInt8}(h:c.rest=Vp.put s.length++(s++t)):Z4 c=.ok (s.length,Jj c (Vp.put s.length).length 0):=by
 have hl:=hc.ci.bd;have hp:s.length<=c.rest.length:=by rw[h,QnP,QnP];omega
 rw[Q0]at hl;have h1:=H4 hc ψ h;have h2:=KO hc h 0;unfold Z4;simp only[h1,if_true];rw[Qni (by rw[Q0,h2,QnP];omega)]
end Va
namespace Va
open Go Am Rc Bt Br
def Qbe {B:List Bool}{i:Nat}(h:i<B.length)(v:Bool):((B.set i v).take (i+1)).all id=((B.take i).all id&&v):=by
 have h1:(B.set i v)[i]? = some v:=List.getElem?_set_self h;rw[Gw h1,List.take_set_of_le (Qm8 _)];rfl
def z39 {M:Nat}(P:PL)(hP:P.ok M)(hl:P.progs.length<=64)(hT:Tgt P):Qi prog 39 [P.av] (.bool (fin P)):=by
 have kS:P.progs.length<=maxLen:=ώ
 have hz:Jc 1 [AV.bool false]=.bool false:=rfl;have kA:(List.replicate P.progs.length (AV.bool false))=(its P.progs 0).map AV.bool:=by simp[its]
 let A:Nat->Bool:=λc=>if c=0 then(P.progs.length:Int)==0 else(its P.progs c).all id
 have hA:A P.progs.length=fin P:=by
  show(if P.progs.length=0 then(P.progs.length:Int)==0 else(its P.progs P.progs.length).all id)=(its P.progs P.progs.length).all id;split
  ·rename_i h;rw[h];simp[its,h]
  ·rfl
 refine wF func39 ?_;simp only[eK,f39,seval];simp only[DK,Qn6,eE,seval];refine Fj (n:=P.progs.length) (k:=P.progs.length) rfl rfl (Qm8 _) ψ ψ rfl ?_;simp only[hz,kA,Qn6,eE,seval];refine HQ (X:=Nat) (λc=>[(1,.ptr 0 1 0),(3,.vec 0 12 1 0 P.progs.length false),(4,.bool (A c)),(19,.int .i64 (P.progs.length:Nat)),(20,.int .i64 (c:Nat))]) (λc=>[(1,.cells (Pc P)),(12,.vec 1 1 ((its P.progs c).map AV.bool))]) [8] (λc=>P.progs.length-c) (λc=>c<=P.progs.length) (λ_=>[]) 0 (Qnk _) ?_;rintro c f fr hc;simp only[XW,QnJ,Qod,Qnx,Qny,Qa,seval];by_cases aM:c<P.progs.length
 case neg=>
  rw[show c=P.progs.length by omega,hA];simp only[QM (show ¬P.progs.length<P.progs.length by omega),Qa,seval]
 have ec:=Qv c _ aM kS;simp only[QE aM,Qa,seval];refine HQ (X:=Nat) (λi=>[(1,.ptr 0 1 0),(3,.vec 0 12 1 0 P.progs.length false),(4,.bool (((KZ P.progs (its P.progs c) i).take i).all id)),(5,.int .i64 (i:Nat)),(19,.int .i64 (P.progs.length:Nat)),(20,.int .i64 (c:Nat))]) (λi=>[(1,.cells (Pc P)),(12,.vec 1 1 ((KZ P.progs (its P.progs c) i).map AV.bool))]) [8] (λi=>P.progs.length-i) (λi=>i<=P.progs.length) (λ_=>[]) 0 (Qnk _) ?_;rintro i f fr hi;have sP:(KZ P.progs (its P.progs c) i).length=P.progs.length:=by rw[Ft,Fu]
 simp only[Pc,Qn6,XW,QnJ,Qod,Qnx,Qny,eE,seval];rcases X8 P.progs i with⟨g,hg,aa⟩|aa
 case inr=>
  have ow:i=P.progs.length:=ψ
  have yy:((KZ P.progs (its P.progs c) i).take i).all id=A (c+1):=by
   rw[QnL ψ,ow];exact(Qni (Nat.succ_ne_zero c)).symm
  simp only[QM aa,yy,ec,Qa,seval];exact Ix.go (c+1) ψ ψ (ho:=by rw[ow];rfl)
 have e1:=Qv i _ aa kS;have ay:KZ P.progs (its P.progs c) (i+1)=(KZ P.progs (its P.progs c) i).set i (!g.ops.any (Jh (KZ P.progs (its P.progs c) i))):=by
  rw[KZ]
  conv=>lhs;unfold DI
  rw[hg]
 have nK:=Qbe (B:=KZ P.progs (its P.progs c) i) (i:=i) ψ (!g.ops.any (Jh (KZ P.progs (its P.progs c) i)));rw[<-ay]at nK;have nw:=Xp Qm hg;have bG:=hP.progs g (Qnp hg);rw[DC]at nw;generalize vI:KZ P.progs (its P.progs c) i=B at *;simp only[QE aa,Qa,seval];refine HQ (X:=Nat) (λj=>[(1,.ptr 0 1 0),(3,.vec 0 12 1 0 P.progs.length false),(4,.bool ((B.take i).all id)),(5,.int .i64 (i:Nat)),(6,.bool (!(g.ops.take j).any (Jh B))),(7,.int .i64 (j:Nat)),(19,.int .i64 (P.progs.length:Nat)),(20,.int .i64 (c:Nat))]) (λ_=>[(1,.cells (Pc P)),(12,.vec 1 1 (B.map AV.bool))]) [8] (λj=>g.ops.length-j) (λj=>j<=g.ops.length) (λ_=>[]) 0 (Qnk _) ?_;rintro j f fr hj;simp only[Pc,Qs,QoF,Qg,nw,Qn6,XW,QnJ,Qod,Qnx,Qny,eE,seval];rcases X8 g.ops j with⟨o,ho,a_⟩|a_
 case inr=>
  rw[QnL (by omega:g.ops.length<=j)];generalize hv:(!g.ops.any (Jh B))=v at *;obtain⟨y,hy⟩:∃y,B[i]? = some y:=⟨B[i]' ψ,Qnb ψ⟩;have m_:(B.map AV.bool)[i]? = some (.bool y):=ϳ
  have aw:(B.map AV.bool).set i (.bool v)=(KZ P.progs (its P.progs c) (i+1)).map AV.bool:=by rw[ay,List.map_set]
  cases mq:(B.take i).all id <;>
  ·rw[mq]at nK;simp only[QoW,QoJ]at nK;simp only[QM a_,AV.rfL,AV.rf,Bool.and_self,Qs,QoF,Qg,XA,Ka,Am.Qc,aa,m_,aw,e1,and_self,QnA,cond_true,cond_false,eE,seval];exact Ix.go (i+1) ψ ψ (hf:=by rw[nK];rfl)
 have g8:=Xp Qw ho;have e2:=Qv j _ a_ bG.len;have kZ:=hT g (Qnp hg) o (Qnp ho);have ht:=M8 (q:=Jh B) ho;rw[DD]at g8;have gk:∀v:Bool,(!(g.ops.take j).any (Jh B) && !Jh B o)=v->(!(g.ops.take (j+1)).any (Jh B))=v:=λv h=>by rw[ht,Bool.not_or,h]
 simp only[QE a_,Qs,QoF,Qg,nw,g8,eE,seval];cases hb : !(g.ops.take j).any (Jh B)
 ·simp only[e2,cond_true,cond_false,Qa,seval];exact Ix.go (j+1) ψ ψ (hf:=by rw[gk false ò];rfl)
 cases c1:(o.card != 1)
 case true=>
  simp only[c1,e2,cond_true,cond_false,eE,seval];exact Ix.go (j+1) ψ ψ (hf:=by rw[gk true (by rw[hb];unfold Jh;rw[show(o.card==1)=false by simpa [bne]using c1];rfl)];rfl)
 cases c2:(o.kind != 10)
 case true=>
  simp only[c1,c2,e2,cond_true,cond_false,eE,seval];exact Ix.go (j+1) ψ ψ (hf:=by rw[gk true (by rw[hb];unfold Jh;rw[show(o.kind==10)=false by simpa [bne]using c2,QoY];rfl)];rfl)
 have k1:(o.card==1)=true:=by simpa [bne]using c1
 have k2:(o.kind==10)=true:=by simpa [bne]using c2
 obtain⟨t1,t2⟩:=kZ (by simpa using k2);obtain⟨t,dY⟩:=QoZ t1;obtain⟨y,hy⟩:∃y,B[t]? = some y:=⟨B[t]' ψ,Qnb ψ⟩;have m_:(B.map AV.bool)[t]? = some (.bool y):=ϳ
 have kI:t<P.progs.length:=ψ
 simp only[c1,c2,dY,Qs,QoF,Qg,XH,Am.Qc,m_,kI,and_self,QnA,e2,cond_true,cond_false,eE,seval];exact Ix.go (j+1) ψ ψ (hf:=by rw[gk y (by rw[hb];unfold Jh;rw[k1,k2,dY,QoF,hy];cases y<;>rfl)];rfl)
def z15 {M:Nat}(P:PL)(hP:P.ok M)(hM:M<=140737488351232):Qi prog 15 [P.av] (.int .i64 (ck P)):=by
 have e0:P.av=.agg [.list (P.progs.map Qm),.list (P.enums.map QH)]:=rfl;have c1:=z33 P hP;have c2:=z34 P hP;have c3:=z35 P hP;have c4:=z36 P hP;have c5:=z37 P hP;refine wF func15 ?_;simp only[eK,Tryz.f15,seval];simp only[e0,ck,eE,seval];refine aC c1 ?_;cases hl:F2 P
 ·exact zO
 obtain⟨l1,l2,l3,l4⟩:=DJ hl;have c6:=z38 hM P hP l3;simp only[QoX,Qpm,eE,seval];refine aC c2 ?_;cases ND P
 ·exact zO
 simp only[QoX,Qpm,eE,seval];refine aC c3 ?_;cases DA P
 ·exact zO
 simp only[QoX,Qpm,eE,seval];refine aC c4 ?_;cases M9 P
 ·exact zO
 simp only[QoX,Qpm,eE,seval];refine aC c5 ?_;cases NF P
 ·exact zO
 simp only[QoX,Qpm,eE,seval];refine aC c6 ?_;cases ha:args P
 ·exact zO
 have c7:=z39 P hP l1 (Pk ha);simp only[QoX,Qpm,eE,seval];refine aC c7 ?_;cases fin P
 ·exact zO
 ·simp only[QoX,Qpm,Qa,seval]
open Up
section
variable {M:Nat}{P:PL}(hP:P.ok M)(hM:M<=140737488351232){m:PG->V->Int}{lv:Int}(g:PG)(hg:g.ok M)(v:V)(hv:v.ok M)
end
def Zm (P:PL)(t:Int)(v:V):Int :=
 if t<0\/t>=(P.progs.length:Int)then 10 else if XK P 16 (Qe P t) v=0 then(if IntKind.i64.wrap (v.cnt:Int) > 4096 then 3 else 0)else XK P 16 (Qe P t) v
section
variable {M:Nat}{P:PL}(hP:P.ok M)(hM:M<=140737488351232)(hU:JD P)(t:Int)(v:V)(hv:v.ok M)
include hP hU hv in
theorem v23:Qi prog 23 [P.av,.int .i64 t,v.av] (.int .i64 (Zm P t v)):=by
 have e0:P.av=.agg [.list (P.progs.map Qm),.list (P.enums.map QH)]:=rfl;rw[Qd];refine wF func23 ?_;simp only[eK,f23,seval];simp only[e0,eE,seval];unfold Zm;by_cases t0:t<0
 ·have d0:decide (t<0)=true:=Qpe t0;rw[Qnj (.inl t0)];simp only[d0,Qa,seval]
 have d0:decide (t<0)=false:=Qo8 t0;by_cases t1:t>=(P.progs.length:Int)
 ·have d1:decide (t>=(P.progs.length:Int))=true:=Qpe t1;rw[Qnj (.inr t1)];simp only[d0,d1,Qn6,eE,seval]
 have d1:decide (t>=(P.progs.length:Int))=false:=Qo8 t1;rw[Qni ψ];obtain⟨i,hi⟩:=QoZ (by omega:0<=t);subst hi;have aa:i<P.progs.length:=ψ
 obtain⟨g,hg⟩:∃g,P.progs[i]? = some g:=⟨P.progs[i],Qnb aa⟩;have gV:(P.progs.map Qm)[i]? = some (.agg g.cells):=by simp[hg,Qm]
 have hq:Qe P (i:Int)=g:=by unfold Qe;rw[QoF,hg];rfl
 have c1:=v49 hP hU 16 (Qm8 _) g (Qnp hg) v hv;have rq:(17:Int)-((16:Nat):Int)=1:=rfl;have ht:=QaQ (P:=P) 16 g v hv;rw[rq,e0,Qd]at c1;simp only[Qm,PG.cells]at c1;simp only[PG.cells]at gV;rw[hq];simp only[d0,d1,Qs,QoF,Qg,gV,Qn6,QnK,Qol,QnN,QnT,splice,eE,seval];refine aC c1 ?_;by_cases hz:XK P 16 g v=0
 ·have c2:=v50 v (ht hz);rw[Qd]at c2;have b0:((0:Int) != 0)=false:=rfl;rw[Qnj hz];simp only[hz,b0,eE,seval];refine aC c2 ?_;by_cases hc:IntKind.i64.wrap (v.cnt:Int) > 4096
  ·have d2:decide (IntKind.i64.wrap (v.cnt:Int) > 4096)=true:=Qpe hc;rw[Qnj hc];simp only[d2,Qa,seval]
  ·have d2:decide (IntKind.i64.wrap (v.cnt:Int) > 4096)=false:=Qo8 hc;rw[Qni hc];simp only[d2,Qa,seval]
 ·have b1:(XK P 16 g v != 0)=true:=ŋ
  rw[Qni hz];simp only[b1,Qa,seval]
end
end Va
namespace Va
open Go Am Rc Bt Br
open Up So
def Lu {M:Nat}{v:V}(h:v.ok M):v.nsc.ok M:=by
 refine .mk h.kd ?_ h.text h.nl h.np h.ns h.nr h.list h.keys h.vals h.nums h.slots h.raws;show(Lit.int .u64 ((Xw v.kd v.bits:Nat):Int)).wf=true;unfold Xw;split
 ·rfl
 ·exact h.bits
def Gd (g:PG):Prop:=g.ops.length<=64/\∀o∈g.ops,(Lit.int .i64 o.num).wf=true
section
variable {M:Nat}{P:PL}{nm:PG->V->V}(h:∀t v,v.ok M->(nm (Qe P t) v).ok M)
include h
theorem Rf (o:PO){v:V}(hv:v.ok M):(Xv nm P o v).ok M:=by
 unfold Xv;split
 ·exact h _ v hv
 ·exact Lu hv
theorem Qgs (o:PO){v:V}(hv:v.ok M):(XT nm P o v).ok M:=by
 unfold XT;split
 ·refine .mk rfl rfl (Qnk _) ?_ (Qnk _) (Qnk _) (Qnk _) ?_ (λx hx=>nomatch hx) (λx hx=>nomatch hx) (λx hx=>nomatch hx) (λx hx=>nomatch hx) (λx hx=>nomatch hx)
  ·show(v.list.map _).length<=_;rw[Qn6];exact hv.nl
  ·intro x hx;obtain⟨y,hy,rfl⟩:=Qox.1 hx;exact Rf h o (hv.list y hy)
 ·split
  ·have hp:(QY o.key v.pairs).Perm v.pairs:=QN _;refine .mk rfl rfl (Qnk _) (Qnk _) ?_ (Qnk _) (Qnk _) (λx hx=>nomatch hx) ?_ ?_ (λx hx=>nomatch hx) (λx hx=>nomatch hx) (λx hx=>nomatch hx)
   ·show((QY o.key v.pairs).map _).length<=_;rw[Qn6,hp.length_eq];exact hv.np
   ·intro x hx;obtain⟨y,hy,rfl⟩:=Qox.1 hx;exact Lu (hv.keys y (hp.mem_iff.1 hy))
   ·intro x hx;obtain⟨y,hy,rfl⟩:=Qox.1 hx;exact Rf h o (hv.vals y (hp.mem_iff.1 hy))
  ·exact Rf h o hv
theorem Qem {g:PG}(hg:Gd g){v:V}(hv:v.ok M):(YL nm P g v).ok M:=by
 unfold YL;have hp:(Zp v.raws).Perm v.raws:=QN _;have hs:∀x∈g.ops.flatMap (Xb nm P v.slots),(Lit.int .i64 x.1).wf=true/\x.2.ok M:=by
  intro x hx;obtain⟨o,ho,hx⟩:=QnX.1 hx;obtain⟨e1,s,hs,_,e2⟩:=XU hx;rw[e1,e2];exact⟨hg.2 o ho,Qgs h o (hv.slots s hs)⟩
 have hl:∀l:List PO,(l.flatMap (Xb nm P v.slots)).length<=l.length:=by
  intro l
  induction l with
  |nil=>exact Qm8 _
  |cons o l ih=>
   have:(Xb nm P v.slots o).length<=1:=by
    unfold Xb;split
    ·simp
    ·split<;>simp
   rw[QoH,QnP,Qnq];omega
 refine .mk rfl rfl (Qnk _) (Qnk _) (Qnk _) ?_ ?_ (λx hx=>nomatch hx) (λx hx=>nomatch hx) (λx hx=>nomatch hx) (λx hx=>(hs x hx).1) (λx hx=>(hs x hx).2) ?_
 ·show(g.ops.flatMap (Xb nm P v.slots)).length<=_;have:=hl g.ops;have:=hg.1;omega
 ·show(Zp v.raws).length<=_;rw[hp.length_eq];exact hv.nr
 ·intro x hx;exact hv.raws x (hp.mem_iff.1 hx)
end
def Y5 {M:Nat}{P:PL}(hg:∀t,Gd (Qe P t)):∀(n:Nat) (t:Int) (v:V),v.ok M->(nrm P n (Qe P t) v).ok M
 |0,_,_,h=>h
 |n+1,t,_,h=>Qem (λt v hv=>Y5 hg n t v hv) (hg t) h
def GR {M:Nat}{P:PL}(hP:P.ok M)(hl:∀g∈P.progs,g.ops.length<=64)(t:Int):Gd (Qe P t):=by
 unfold Qe;cases hg:P.progs[t.toNat]? with
 |none=>exact⟨Qnk _,λo ho=>nomatch ho⟩
 |some g=>
  have hm:=Qnp hg;exact⟨hl g hm,λo ho=>((hP.progs g hm).ops o ho).num⟩
def Y6 {P:PL}(h:ck P=0):∀g∈P.progs,g.ops.length<=64:=by
 unfold ck at h;split at h
 ·omega
 rename_i hl;exact(DJ Ä).2.2.1
def CC {P:Program}{K:St->Prop}{its:List Am.Item}{f:Fr}{m:Qk}{ds:List DF}{d:Nat}{sz bytes el:Nat}{s r:RA}{site g n lP g' n':Nat}{fr:Nat->Ob}{xs ys:List AV}(hs:s.ev f=.vec 0 site g 0 n false)(hl:fr site=.vec g sz xs)(ht:Zv site el=true)(hn:n=xs.length)
  (hr:r.ev f=.vec 0 lP g' 0 n' false) (cZ:fr lP=.vec g' sz ys) (eO:n'=ys.length) (hz:ys.all (λe=>e.cells.length==sz)=true) (hm:n+ys.length<=maxLen) (hb:(n+ys.length)*bytes<=140737488355328)
  (h:QF P its ⟨QL f d (.vec 0 site (g+1) 0 (n+ys.length) false),QL fr site (.vec (g+1) sz (xs++ys)) :: m,ds⟩ K):QF P (⟨some d,.app sz bytes el s r,none⟩ :: its) ⟨f,fr :: m,ds⟩ K:=by
 refine⟨0,site,g,n,xs,ys,hs,hl,ht,ψ,?_,hz,hm,hb,?_⟩
 ·show Xc (fr :: m) (r.ev f)=some ys;rw[hr];exact Hd cZ eO
 ·subst hn;rw[QoT];exact h
def Qen {cL:RC}(l O:List R)(i:Nat)(x:R)(hx:l[i]? = some x)(hO:O.length<=maxLen)(hs:Zt (λx y:R=>decide (x.num<y.num)) O)(fr:Nat->Ob)(f:Fr)(h0:f 0=.list (l.map R.av))(h3:f 3=.list (O.map R.av))(h4:f 4=.int .i64 (i:Nat))(h5:f 5=.int .i64 (O.length:Nat))(Q:Exit->St->Prop)
  (q:∀(t:Nat) (f:Fr),t<=O.length->(∀j u,t<=j->O[j]? = some u->decide (x.num<u.num)=true)->(∀j u,j<t->O[j]? = some u->decide (x.num<u.num)=false)->f 0=.list (l.map R.av)->f 3=.list (O.map R.av)->f 4=.int .i64 (i:Nat)->f 5=.int .i64 (t:Nat)->Q (.exit 2) (⟨f,[fr],[]⟩:St)) (bU:lp 25 1 f25=cL:=by simp only[eL,eK,f25,seval]) :
  Q1 prog (.loop cL) ⟨f,[fr],[]⟩ Q:=by
 subst bU;simp only[eL,eK,f25,seval]
 let I:Nat->St->Prop:=λk st=>∃f t,st=⟨f,[fr],[]⟩/\k=t/\t<=O.length/\(∀j u,t<=j->O[j]? = some u->decide (x.num<u.num)=true)/\f 0=.list (l.map R.av)/\f 3=.list (O.map R.av)/\f 4=.int .i64 (i:Nat)/\f 5=.int .i64 (t:Nat)
 refine Qj I _ ⟨f,O.length,rfl,rfl,Qm8 _,(by intro j u hj hu;rw[QoB hj]at hu;cases hu),h0,h3,h4,h5⟩ ?_;clear h0 h3 h4 h5;rintro t st ⟨f,_,rfl,rfl,ht,hv,h0,h3,h4,h5⟩;have fp:=Bv hx;simp only[h5,Qa,seval];cases t with
 |zero=>
  have d1:decide (((0:Nat):Int) > 0)=false:=ό
  simp only[Qa,seval];exact q 0 _ (Qnk _) hv (λj u hj=>ψ) ϗ ϖ Ϡ Ϛ
 |succ r=>
  obtain⟨u,hu⟩:∃u,O[r]? = some u:=⟨O[r]' ψ,Qnb ψ⟩;have qP:=Bv hu;have d1:decide (((r+1:Nat):Int) > 0)=true:=ϟ
  have e2:IntKind.i64.wrap (((r+1:Nat):Int)-1)=((r:Nat):Int):=by
   simp only[maxLen]at hO;rw[QD];omega
  simp only[d1,e2,Qs,QoF,Qg,fp,qP,h0,h3,h4,h5,eE,seval];cases dg:decide (u.num > x.num)
  ·simp only[Qa,seval];refine q (r+1) _ ht hv (λj u' hj gX=>?_) ϗ ϖ Ϡ Ϛ;have:=YY hs DP (show j<=r by omega) gX hu;exact DP.nt x u u' dg this
  ·simp only[e2,h5,Qa,seval];exact⟨r,ψ,_,r,rfl,rfl,ψ,(by
    intro j v hj bQ;rcases Nat.lt_or_eq_of_le hj with h|h
    ·exact hv j v h bQ
    ·subst h;rw[hu]at bQ;cases bQ;exact dg),ϗ,ϖ,Ϡ,ω⟩
def RwI (l:List R)(k:Nat)(st:St):Prop :=
 ∃f fr i,st=⟨f,[fr],[]⟩/\k=l.length-i/\i<=l.length/\f 0=.list (l.map R.av)/\f 3=.list ((Zp (l.take i)).map R.av)/\f 4=.int .i64 (i:Nat)/\Qn (fr 37)=true/\Qn (fr 42)=true
set_option maxHeartbeats 1000000 in
theorem v25 (l:List R)(hn:l.length<=1048576):Qi prog 25 [.list (l.map R.av)] (.list ((Zp l).map R.av)):=by
 refine wF func25 ?_;simp only[eK,f25,seval];simp only[Qa,seval];refine MM ϋ ?_;simp only[Qa,seval];refine Qj (RwI l) _ ⟨_,_,0,rfl,rfl,Qnk _,ω,rfl,ω,rfl,rfl⟩ ?_;rintro _ st ⟨f,fr,i,rfl,rfl,bg,h0,h3,h4,wl,yD⟩;simp only[Qn6,h0,h4,Qa,seval];by_cases aa:i<l.length
 ·obtain⟨x,hi⟩:∃x,l[i]? = some x:=⟨l[i],Qnb aa⟩;have fp:=Bv hi;have e1:=Qv i _ aa ώ;have hp:(Zp (l.take i)).Perm (l.take i):=QN _;have hO:(Zp (l.take i)).length=i:=by rw[hp.length_eq,Qn8];omega
  clear hp;have ah:Zp (l.take (i+1))=mg (λx y:R=>decide (x.num<y.num)) (Zp (l.take i)) [x]:=by
   rw[Qo4,hi,Option.toList_some];exact(YJ DP (l.take i) [x]).symm
  have gH:Zt (λx y:R=>decide (x.num<y.num)) (Zp (l.take i)):=X5 DP _;generalize Zp (l.take i)=O at *;simp only[QE aa,Qn6,h3,Qa,seval];refine Qen l O i x hi ώ gH fr _ ϗ ϖ Ϡ ω _ (λt f ht hv jZ h0 h3 h4 h5=>?_);have bc:(O.take t).map R.av++([x.av]++(O.drop t).map R.av)=(Zp (l.take (i+1))).map R.av:=by
   have:=UR (lt:=λx y:R=>decide (x.num<y.num)) (y:=x) (X1:=O.take t) (X2:=O.drop t) (λu hu=>by
    obtain⟨j,hj⟩:=QpA hu;rw[QnQ]at hj;split at hj
    ·rename_i s_;exact jZ j u s_ hj
    ·cases hj) (λu hu=>by
    obtain⟨j,hj⟩:=QpA hu;rw[QnR]at hj;exact hv _ u ψ hj)
   rw[Qou]at this;rw[ah,this];simp
  have hle:(t<=O.length)=True:=eq_true ht;have kB:∀l':List AV,l'.length=O.length->(l'.drop t).take (O.length-t)=l'.drop t:=λl' h=>QnL ý
  have eI:((O.drop t).map R.av).length=i-t:=by rw[Qn6,QnS];omega
  have fB:((O.take t).map R.av).length=t:=Ρ
  have hT:∀j,i+1<=j->List.take j ((O.take t).map R.av++([x.av]++(O.drop t).map R.av))=(Zp (l.take (i+1))).map R.av:=λj hj=>by
   rw[QnL ϻ,bc]
  simp only[Qs,QoF,Qg,fp,h0,h4,eE,seval];refine No (l:=[.int .i64 x.num,.int .i64 x.wire,.int .u64 (x.bits:Nat),.str x.data]) rfl rfl ϊ rfl rfl wl ?_;simp only[nn0,QnJ,Qod,Qn6,JR,Xz,QoS,Qs,QoF,hle,Qm8,or_true,YN,kB _ (Qn6 ..),h3,h5,Qa,seval];refine QP (site:=37) (g:=XO (fr 37)) (n:=1) (xs:=[x.av]) (ys:=(O.drop t).map R.av) ϋ (by simp only[R.av,Qa,seval]) rfl rfl (by simp only[List.map_drop,Qa,seval]) (YN _) (by rw[eI];simp only[maxLen];omega) (by rw[eI];omega) ?_;simp only[Qa,seval];refine Jt (by simp only[Qa,seval];exact yD) ?_;simp only[Qn6,JR,Jz,Xz,QoS,Qs,QoF,Qnk,Qm8,hle,true_or,Qoa,QnT,<-List.map_take,h3,h5,Qa,seval];refine QP (site:=42) (g:=_) (n:=0) (xs:=[]) (ys:=(O.take t).map R.av) ϒ ϋ rfl rfl ϋ (YN _) (by rw[fB];simp only[maxLen];omega) (by rw[fB];omega) ?_;simp only[Qa,seval];refine CC (site:=42) (g:=_) (n:=0+((O.take t).map R.av).length) (xs:=(O.take t).map R.av) (ys:=[x.av]++(O.drop t).map R.av) ϒ ϋ rfl ψ ϒ ϋ (by simp only[QnP,Qnq,Qn7,Qn6]<;>omega) (YN (x :: O.drop t)) ď ϻ ?_;simp only[Qa,seval];refine Fl (site:=42) (g:=_) (sz:=4) (n:=_) (xs:=(O.take t).map R.av++([x.av]++(O.drop t).map R.av)) ϒ ϋ ϻ ?_;rw[hT];rotate_left
  ·simp only[eI,fB];omega
  simp only[e1,h4,Qa,seval];exact⟨l.length-(i+1),ψ,_,_,i+1,rfl,rfl,ψ,ϗ,ω,ω,rfl,rfl⟩
 ·have aP:l.take i=l:=QnL ψ;rw[aP]at h3;simp only[QM aa,h3,Qa,seval]
def Qgt (k:Int)(a b:V)(_ha:a.bits<18446744073709551616)(_hb:b.bits<18446744073709551616):decide (F5 k a.bits a.text b.bits b.text<0)=kl k a b:=by
 unfold F5 kl;split
 ·exact QcZ _ _
 ·rw[C8];unfold Yy;split
  ·rw[decide_eq_decide,Jl,Jl,QD,QD];omega
  ·rfl
section
variable {P:PL}{k:Int}(hk:XS k)(ps:List (V×V))(hn:ps.length<=1048576)(h1:∀p∈ps,p.1.kx P k)(hb:∀p∈ps,p.1.bits<18446744073709551616)
include hk in
theorem Rg {p q:V×V}(hp:p.1.kx P k)(hq:q.1.kx P k):Qi prog 106 [p.1.av,q.1.av] (.int .i64 (F5 k p.1.bits p.1.text q.1.bits q.1.text)):=by
 have h:=Qki k hk p.1.bits q.1.bits p.1.text q.1.text;rw[<-(K0 hp).1,<-(K0 hq).1]at h;exact h
theorem Lv {cL:RC}(hk:XS k)(hn:ps.length<=1048576)(h1:∀p∈ps,p.1.kx P k)(hb:∀p∈ps,p.1.bits<18446744073709551616)(hu:ps.Pairwise λq p=>XJ q.1 p.1=false)(O:List (V×V))(i:Nat)(x:V×V)(hx:ps[i]? = some x)(fr:Nat->Ob)(f:Fr)(h0:f 0=.list (ps.map V.pav))(h3:f 3=.list (O.map V.pav))(h4:f 4=.int .i64 (i:Nat))(h5:f 5=.bool true)(h6:f 6=.int .i64 ((i+1:Nat):Int))(Q:Exit->St->Prop)
  (q:∀f:Fr,f 0=.list (ps.map V.pav)->f 3=.list (O.map V.pav)->f 4=.int .i64 (i:Nat)->f 5=.bool true->Q (.exit 2) (⟨f,[fr],[]⟩:St)) (bU:lp 60 1 f60=cL:=by simp only[eL,eK,f60,seval]) :
  Q1 prog (.loop cL) ⟨f,[fr],[]⟩ Q:=by
 subst bU;simp only[eL,eK,f60,seval]
 let I:Nat->St->Prop:=λn st=>∃f j,st=⟨f,[fr],[]⟩/\n=ps.length-j/\i<j/\f 0=.list (ps.map V.pav)/\f 3=.list (O.map V.pav)/\f 4=.int .i64 (i:Nat)/\f 5=.bool true/\f 6=.int .i64 (j:Nat)
 refine Qj I _ ⟨f,i+1,rfl,rfl,ψ,h0,h3,h4,h5,h6⟩ ?_;clear h0 h3 h4 h5 h6;rintro _ st ⟨f,j,rfl,rfl,d_,h0,h3,h4,h5,h6⟩;simp only[Qn6,h0,h6,Qa,seval];by_cases aa:j<ps.length
 ·obtain⟨y,hj⟩:∃y,ps[j]? = some y:=⟨ps[j],Qnb aa⟩;have sJ:=KG hx;have gS:=KG hj;have e1:=Qv j _ aa ώ;have ir:=Qnp hx;have m_:=Qnp hj;have c1:=Rg hk (h1 x ir) (h1 y m_);have aq:F5 k x.1.bits x.1.text y.1.bits y.1.text≠0:=by
   have h:=Qd0 hk (h1 x ir) (h1 y m_) (hb x ir) (hb y m_);rw[Qpr]at hu;have:=hu i j (Qna.1 hx).1 aa d_;rw[(Qna.1 hx).2,(Qna.1 hj).2]at this;rw[this]at h
   simpa using h
  have d1:(F5 k x.1.bits x.1.text y.1.bits y.1.text != 0)=true:=by simp[aq]
  rw[Qd,Qd]at c1;simp only[QE aa,Qs,QoF,Qg,sJ,gS,QnK,Qol,QnT,h0,h4,h5,h6,eE,seval];refine aC c1 ?_;simp only[d1,h6,e1,Qa,seval];exact⟨ps.length-(j+1),ψ,_,j+1,rfl,rfl,ψ,ϗ,ϖ,Ϡ,ω,ω⟩
 ·simp only[QM aa,Qa,seval];exact q _ ϗ ϖ Ϡ Ϛ
theorem A5 {cL:RC}(hk:XS k)(O:List (V×V))(hO:O.length<=1048576)(xH:∀p∈O,p.1.kx P k)(vZ:∀p∈O,p.1.bits<18446744073709551616)(i:Nat)(x:V×V)(hx:ps[i]? = some x)(bE:x.1.kx P k)(jE:x.1.bits<18446744073709551616)(fr:Nat->Ob)(f:Fr)(h0:f 0=.list (ps.map V.pav))(h3:f 3=.list (O.map V.pav))(h4:f 4=.int .i64 (i:Nat))(h7:f 7=.int .i64 0)(Q:Exit->St->Prop)
  (q:∀(t:Nat) (f:Fr),t<=O.length->(∀j u,j<t->O[j]? = some u->kl k u.1 x.1=true)->(∀u,O[t]? = some u->kl k u.1 x.1=false)->f 0=.list (ps.map V.pav)->f 3=.list (O.map V.pav)->f 4=.int .i64 (i:Nat)->f 7=.int .i64 (t:Nat)->Q (.exit 4) (⟨f,[fr],[]⟩:St)) (bU:lp 60 2 f60=cL:=by simp only[eL,eK,f60,seval]) :
  Q1 prog (.loop cL) ⟨f,[fr],[]⟩ Q:=by
 subst bU;simp only[eL,eK,f60,seval]
 let I:Nat->St->Prop:=λn st=>∃f t,st=⟨f,[fr],[]⟩/\n=O.length-t/\t<=O.length/\(∀j u,j<t->O[j]? = some u->kl k u.1 x.1=true)/\f 0=.list (ps.map V.pav)/\f 3=.list (O.map V.pav)/\f 4=.int .i64 (i:Nat)/\f 7=.int .i64 (t:Nat)
 refine Qj I _ ⟨f,0,rfl,rfl,Qnk _,(by intro j u hj;omega),h0,h3,h4,h7⟩ ?_;clear h0 h3 h4 h7;rintro _ st ⟨f,t,rfl,rfl,ht,hv,h0,h3,h4,h7⟩;simp only[Qn6,h3,h7,Qa,seval];by_cases aa:t<O.length
 ·obtain⟨u,hu⟩:∃u,O[t]? = some u:=⟨O[t],Qnb aa⟩;have sJ:=KG hx;have y_:=KG hu;have o8:=Qnp hu;have e1:=Qv t _ aa ώ;have c1:=Rg hk (xH u o8) bE;have hc:=Qgt k u.1 x.1 (vZ u o8) jE;rw[Qd,Qd]at c1;simp only[QE aa,Qs,QoF,Qg,sJ,y_,QnK,Qol,QnT,h0,h3,h4,h7,eE,seval];refine aC c1 ?_;cases hl:kl k u.1 x.1
  ·rw[hl]at hc;simp only[hc,Qa,seval];exact q t _ ψ hv (λu' gX=>by rw[hu]at gX;cases gX;exact hl) ϗ ϖ Ϡ Ϫ
  ·rw[hl]at hc;simp only[hc,h7,e1,Qa,seval];exact⟨O.length-(t+1),ψ,_,t+1,rfl,rfl,ψ,(by
    intro j u' hj gX;rcases Nat.lt_or_eq_of_le (show j<=t by omega)with h|h
    ·exact hv j u' h gX
    ·subst h;rw[hu]at gX;cases gX;exact hl),ϗ,ϖ,Ϡ,ω⟩
 ·simp only[QM aa,Qa,seval];exact q t _ ht hv (λu hu=>by rw[QoB ψ]at hu;cases hu) ϗ ϖ Ϡ Ϫ
end
def Rh {k:Int}{P:PL}{a b:V}(ha:a.kx P k)(hb:b.kx P k)(ba:a.bits<18446744073709551616)(bb:b.bits<18446744073709551616)(h1:kl k a b=false)(h2:XJ a b=false):kl k b a=true:=by
 obtain⟨_,a1,a2⟩:=K0 ha;obtain⟨_,b1,b2⟩:=K0 hb;cases hc:kl k b a with
 |true=>rfl
 |false=>
  exfalso;unfold kl at h1 hc;unfold XJ at h2;split at h1
  ·rename_i ht;rw[Qnj ht]at hc;have e:=DO h1 hc;have e1:=a1 ht;have e2:=b1 ht;rw[e,show a.bits=b.bits by omega]at h2;simp at h2
  ·rename_i ht;rw[Qni ht]at hc;have ht:Zz k=false:=ā
   rw[a2 ht,b2 ht]at h2;split at h1
   ·rename_i hs;rw[Qnj hs]at hc;simp only[Qpf]at h1 hc;rw[QD,QD]at h1 hc;rw[show a.bits=b.bits by omega]at h2;simp at h2
   ·rename_i hs;rw[Qni hs]at hc;simp only[Qpf]at h1 hc;rw[show a.bits=b.bits by omega]at h2;simp at h2
def PwI (k:Int)(ps:List (V×V))(n:Nat)(st:St):Prop :=
 ∃f fr i,st=⟨f,[fr],[]⟩/\n=ps.length-i/\i<=ps.length/\f 0=.list (ps.map V.pav)/\f 3=.list ((QY k (ps.take i)).map V.pav)/\f 4=.int .i64 (i:Nat)/\Qn (fr 63)=true/\Qn (fr 68)=true
set_option maxHeartbeats 1000000 in
theorem v60 {P:PL}{k:Int}(hk:XS k)(ps:List (V×V))(hn:ps.length<=1048576)(h1:∀p∈ps,p.1.kx P k)(hb:∀p∈ps,p.1.bits<18446744073709551616)(hu:ps.Pairwise λq p=>XJ q.1 p.1=false):Qi prog 60 [.list (ps.map V.pav)] (.list ((QY k ps).map V.pav)):=by
 refine wF func60 ?_;simp only[eK,f60,seval];simp only[Qa,seval];refine MM ϋ ?_;simp only[Qa,seval];refine Qj (PwI k ps) _ ⟨_,_,0,rfl,rfl,Qnk _,ω,rfl,ω,rfl,rfl⟩ ?_;rintro _ st ⟨f,fr,i,rfl,rfl,bg,h0,h3,h4,vQ,wg⟩;simp only[Qn6,h0,h4,Qa,seval];by_cases aa:i<ps.length
 ·obtain⟨x,hi⟩:∃x,ps[i]? = some x:=⟨ps[i],Qnb aa⟩;have ir:=Qnp hi;have fp:=KG hi;have e1:=Qv i _ aa ώ;have aF:(QY k (ps.take i)).Perm (ps.take i):=QN _;have hO:(QY k (ps.take i)).length=i:=by rw[aF.length_eq,Qn8];omega
  have ah:QY k (ps.take (i+1))=mg (λx y:V×V=>kl k x.1 y.1) (QY k (ps.take i)) [x]:=by
   rw[Qo4,hi,Option.toList_some];exact(YJ (KE k) (ps.take i) [x]).symm
  have gH:Zt (λx y:V×V=>kl k x.1 y.1) (QY k (ps.take i)):=X5 (KE k) _;have qU:∀p∈QY k (ps.take i),p∈ps:=λp hp=>QnZ (aF.mem_iff.1 hp)
  have xX:∀p∈QY k (ps.take i),XJ p.1 x.1=false:=by
   intro p hp;obtain⟨j,hj⟩:=Qnn.1 (aF.mem_iff.1 hp);have rS:=(Qna.1 hj).1;rw[Qn8]at rS;rw[QnQ,Qnj ψ]at hj;rw[Qpr]at hu;have:=hu j i ψ aa ψ;rw[(Qna.1 hj).2,(Qna.1 hi).2]at this;exact this
  generalize QY k (ps.take i)=O at *;simp only[QE aa,e1,h4,Qa,seval];refine Lv ps hk hn h1 hb hu O i x hi fr _ ϗ ϖ Ϡ ω ω _ (λf h0 h3 h4 h5=>?_);simp only[h5,Qa,seval];refine A5 (P:=P) ps hk O ψ (λp hp=>h1 p (qU p hp)) (λp hp=>hb p (qU p hp)) i x hi (h1 x ir) (hb x ir) fr _ ϗ ϖ Ϡ ω _ (λt f ht jZ wx h0 h3 h4 h7=>?_);have bc:(O.take t).map V.pav++([V.pav x]++(O.drop t).map V.pav)=(QY k (ps.take (i+1))).map V.pav:=by
   have:=UR (lt:=λx y:V×V=>kl k x.1 y.1) (y:=x) (X1:=O.take t) (X2:=O.drop t) (λu hu=>by
    obtain⟨j,hj⟩:=QpA hu;rw[QnQ]at hj;split at hj
    ·rename_i s_;exact(KE k).as (jZ j u s_ hj)
    ·cases hj) (λu gX=>by
    obtain⟨j,hj⟩:=QpA gX;rw[QnR]at hj;have o8:=Qnp hj;refine Rh (h1 u (qU u o8)) (h1 x ir) (hb u (qU u o8)) (hb x ir) ?_ (xX u o8);obtain⟨w,hw⟩:∃w,O[t]? = some w:=⟨O[t]'(by have:=(Qna.1 hj).1;omega),Qnb _⟩;have h2:=YY gH (KE k) (Nat.le_add_right t j) hw hj;exact(KE k).nt u w x h2 (wx w hw))
   rw[Qou]at this;rw[ah,this];simp
  have hle:(t<=O.length)=True:=eq_true ht;have kB:∀l':List AV,l'.length=O.length->(l'.drop t).take (O.length-t)=l'.drop t:=λl' h=>QnL ý
  have eI:((O.drop t).map V.pav).length=i-t:=by rw[Qn6,QnS];omega
  have fB:((O.take t).map V.pav).length=t:=Ρ
  have hT:∀j,i+1<=j->List.take j ((O.take t).map V.pav++([V.pav x]++(O.drop t).map V.pav))=(QY k (ps.take (i+1))).map V.pav:=λj hj=>by
   rw[QnL ϻ,bc]
  simp only[Qs,QoF,Qg,fp,QnK,QnT,h0,h4,eE,seval];refine No (l:=[.int .i64 x.1.kd,.int .u64 (x.1.bits:Nat),.str x.1.text,.list (x.1.list.map V.av),.list (x.1.pairs.map V.pav),.list (x.1.slots.map V.sav),.list (x.1.raws.map R.av),.int .i64 x.2.kd,.int .u64 (x.2.bits:Nat),.str x.2.text,.list (x.2.list.map V.av),.list (x.2.pairs.map V.pav),.list (x.2.slots.map V.sav),.list (x.2.raws.map R.av)]) rfl rfl ϊ rfl rfl vQ ?_;simp only[nn0,QnJ,Qod,Qn6,JR,Xz,QoS,Qs,QoF,hle,Qm8,or_true,J8,kB _ (Qn6 ..),h3,h7,Qa,seval];refine QP (site:=63) (g:=XO (fr 63)) (n:=1) (xs:=[V.pav x]) (ys:=(O.drop t).map V.pav) ϋ (by simp only[Jn,Qa,seval]) rfl rfl (by simp only[List.map_drop,Qa,seval]) (J8 _) (by rw[eI];simp only[maxLen];omega) (by rw[eI];omega) ?_;simp only[Qa,seval];refine Jt (by simp only[Qa,seval];exact wg) ?_;simp only[Qn6,JR,Jz,Xz,QoS,Qs,QoF,Qnk,Qm8,hle,true_or,Qoa,QnT,<-List.map_take,h3,h7,Qa,seval];refine QP (site:=68) (g:=_) (n:=0) (xs:=[]) (ys:=(O.take t).map V.pav) ϒ ϋ rfl rfl ϋ (J8 _) (by rw[fB];simp only[maxLen];omega) (by rw[fB];omega) ?_;simp only[Qa,seval];refine CC (site:=68) (g:=_) (n:=0+((O.take t).map V.pav).length) (xs:=(O.take t).map V.pav) (ys:=[V.pav x]++(O.drop t).map V.pav) ϒ ϋ rfl ψ ϒ ϋ (by simp only[QnP,Qnq,Qn7,Qn6]<;>omega) (J8 (x :: O.drop t)) ď ϻ ?_;simp only[Qa,seval];refine Fl (site:=68) (g:=_) (sz:=14) (n:=_) (xs:=(O.take t).map V.pav++([V.pav x]++(O.drop t).map V.pav)) ϒ ϋ ϻ ?_;rw[hT];rotate_left
  ·simp only[eI,fB];omega
  simp only[e1,h4,Qa,seval];exact⟨ps.length-(i+1),ψ,_,_,i+1,rfl,rfl,ψ,ϗ,ω,ω,rfl,rfl⟩
 ·have aP:ps.take i=ps:=QnL ψ;rw[aP]at h3;simp only[QM aa,h3,Qa,seval]
section
variable {M:Nat}{P:PL}{m:PG->V->Prop}{nm:PG->V->V}(o:PO)(ho:UO P o)
include ho in
theorem v59 (hm:∀(t:Int) (g:PG),P.progs[t.toNat]? = some g->0<=t->∀v:V,v.ok M->v.cnt<=1048576->m g v->Qi prog 10 [P.av,.int .i64 t,v.av] (nm g v).av)(v:V)(hv:v.ok M)(hc:v.cnt<=1048576)(he:EW m P o v) :
  Qi prog 59 [P.av,Qw o,v.av] (Xv nm P o v).av:=by
 have e0:P.av=.agg [.list (P.progs.map Qm),.list (P.enums.map QH)]:=rfl;unfold Xv;by_cases hk:o.kind=10
 ·have b:(o.kind==10)=true:=Α
  have he:=he hk;rw[Qnj hk];obtain⟨t0,t1⟩:=ho.tgt hk;obtain⟨g,hg⟩:∃g,P.progs[o.target.toNat]? = some g:=⟨P.progs[o.target.toNat]' ψ,Qnb ψ⟩;have hq:Qe P o.target=g:=by unfold Qe;rw[hg];rfl
  rw[hq]at he |-;have h2:=hm o.target g hg t0 v hv hc he;generalize nm g v=z at h2 |-;rw[e0,Qd,Qd]at h2;rw[Qd,Qd];refine wF func59 ?_;simp only[eK,f59,seval];exact ε
 ·have b:(o.kind==10)=false:=Α
  rw[Qni hk];have h1:=v61 v (W4 hv);generalize v.nsc=z at h1 |-;rw[Qd,Qd]at h1;rw[Qd,Qd];refine wF func59 ?_;simp only[eK,f59,seval];exact ζ
def WlI (P:PL)(o:PO)(v:V)(F:V->V)(k:Nat)(st:St):Prop :=
 ∃f fr i g,st=⟨f,[fr],[]⟩/\k=v.list.length-i/\i<=v.list.length/\f 3=.ptr 0 3 0/\f 4=.ptr 0 4 0/\f 5=.ptr 0 5 0/\f 6=.ptr 0 6 0/\f 7=.ptr 0 7 0/\f 8=.int .i64 (i:Nat)/\fr 3=.cells [.list (P.progs.map Qm),.list (P.enums.map QH)]/\fr 4=.cells o.cells/\fr 5=.cells [.int .i64 v.kd,.int .u64 (v.bits:Nat),.str v.text,.list (v.list.map V.av),.list (v.pairs.map V.pav),.list (v.slots.map V.sav),.list (v.raws.map R.av)]/\fr 6=.cells [.int .i64 0,.int .u64 0,.str [],.nils,.nils,.nils,.nils]/\fr 7=.cells [.int .i64 11,.int .u64 0,.str [],.vec 0 1100 g 0 i false,.nils,.nils,.nils]/\fr 1100=.vec g 7 ((v.list.take i).map λx=>(F x).av)
def WpI (P:PL)(o:PO)(T:List (V×V))(F:V×V->V×V)(k:Nat)(st:St):Prop :=
 ∃f fr i g,st=⟨f,[fr],[]⟩/\k=T.length-i/\i<=T.length/\f 3=.ptr 0 3 0/\f 4=.ptr 0 4 0/\f 6=.ptr 0 6 0/\f 9=.ptr 0 9 0/\f 10=.list (T.map V.pav)/\f 11=.int .i64 (i:Nat)/\fr 3=.cells [.list (P.progs.map Qm),.list (P.enums.map QH)]/\fr 4=.cells o.cells/\fr 6=.cells [.int .i64 0,.int .u64 0,.str [],.nils,.nils,.nils,.nils]/\fr 9=.cells [.int .i64 12,.int .u64 0,.str [],.nils,.vec 0 1101 g 0 i false,.nils,.nils]/\fr 1101=.vec g 14 ((T.take i).map λx=>V.pav (F x))
set_option maxHeartbeats 1000000 in
include ho in
theorem v26 (aJ:∀v:V,v.ok M->v.cnt<=1048576->EW m P o v->Qi prog 59 [P.av,Qw o,v.av] (Xv nm P o v).av)(v:V)(hv:v.ok M)(hc:v.cnt<=1048576)(he:FW m P o v) :
  Qi prog 26 [P.av,Qw o,v.av] (XT nm P o v).av:=by
 have e0:P.av=.agg [.list (P.progs.map Qm),.list (P.enums.map QH)]:=rfl;unfold XT;unfold FW at he;by_cases h4:o.card=4
 ·have b4:(o.card==4)=true:=ã
  rw[Qnj h4]at he;rw[Qnj h4];have hL:=he;have hlen:=JH v;rw[Qd v];generalize hF:Xv nm P o=F at aJ |-;rw[show(V.mk 11 0 [] (v.list.map F) [] [] []).av=.agg [.int .i64 11,.int .u64 0,.str [],.list ((v.list.map F).map V.av),.list [],.list [],.list []]from Qd _];refine wF func26 ?_;simp only[eK,f26,seval];simp only[e0,Qw,PO.cells,b4,eE,seval];refine K7 ϒ rfl ϒ rfl ?_;simp only[List.set,Qa,seval];refine Qj (WlI P o v F) _ ⟨_,_,0,_,rfl,rfl,Qnk _,ω,ω,ω,ω,ω,ω,ω,ω,ω,ω,ω,ω⟩ ?_;rintro _ st ⟨f,fr,i,g,rfl,rfl,bg,h3,h4,h5,h6,h7,h8,m3,m4,m5,m6,m7,mR⟩;have dh:=m4;simp only[PO.cells]at m4;simp only[Qn6,h5,h8,m5,eE,seval];by_cases aa:i<v.list.length
  ·obtain⟨x,hi⟩:∃x,v.list[i]? = some x:=⟨v.list[i],Qnb aa⟩;have hx:=Qnp hi;have hg:=HH hi;have e1:=Qv i _ aa ώ;have c1:=aJ x (hv.list x hx) (Qm9 (UX hx) hc) (hL x hx);have dA:((v.list.take i).map λx=>(F x).av).length=i:=Ρ
   have eJ:(v.list.take (i+1)).map (λx=>(F x).av)=(v.list.take i).map (λx=>(F x).av)++[(F x).av]:=ň
   generalize F x=z at c1 eJ;rw[e0,Qd x,Qd z]at c1;simp only[Qw,PO.cells]at c1;simp only[QE aa,Qs,QoF,Qg,hg,h3,h4,h5,h7,h8,m3,m4,m5,m7,eE,seval];refine aC c1 ?_;refine QV (l:=[z.av]) rfl rfl rfl Ġ ?_;refine QP (site:=1100) (g:=g) (n:=i) (xs:=(v.list.take i).map λx=>(F x).av) (ys:=[z.av]) ω Β rfl dA.symm rfl (DV [z]) ϔ Ϙ ?_;simp only[h7,h8,m7,e1,eE,seval];exact⟨v.list.length-(i+1),ψ,_,_,i+1,g+1,rfl,rfl,ψ,ϖ,Ϡ,Ϛ,Ϝ,Ϫ,ω,ϲ,Î,Ŀ,Ö,ω,Ò⟩
  ·exact Oi
 ·have b4:(o.card==4)=false:=ã
  rw[Qni h4];by_cases h5:o.card=5
  ·have b5:(o.card==5)=true:=í
   rw[Qni h4,Qnj h5]at he;rw[Qnj h5];have hE:=he;have hlen:=Kx v;have hk:=ho.key h5;have cp:=v60 hk v.pairs ψ (λp hp=>(hE.1 p hp).1) (λp hp=>W4 (hv.keys p hp)) hE.2;have aF:(QY o.key v.pairs).Perm v.pairs:=QN _;have rr:(QY o.key v.pairs).length=v.pairs.length:=aF.length_eq;have ml:∀p∈QY o.key v.pairs,p∈v.pairs:=λp h=>aF.mem_iff.1 h
   generalize QY o.key v.pairs=T at *;rw[Qd v];generalize hF:(λp:V×V=>(p.1.nsc,Xv nm P o p.2))=F;rw[show(V.mk 12 0 [] [] (T.map F) [] []).av=.agg [.int .i64 12,.int .u64 0,.str [],.list [],.list ((T.map F).map V.pav),.list [],.list []]from Qd _];refine wF func26 ?_;simp only[eK,f26,seval];simp only[e0,Qw,PO.cells,b4,b5,eE,seval];refine K7 ϒ rfl ϒ rfl ?_;simp only[List.set,eE,seval];refine aC cp ?_;simp only[Qa,seval];refine Qj (WpI P o T F) _ ⟨_,_,0,_,rfl,rfl,Qnk _,ω,ω,ω,ω,ω,ω,ω,ω,ω,ω,ω⟩ ?_;rintro _ st ⟨f,fr,i,g,rfl,rfl,bg,h3,h4,h6,h9,am,aI,m3,m4,m6,m9,mR⟩;have dh:=m4;simp only[PO.cells]at m4;simp only[Qn6,am,aI,Qa,seval];by_cases aa:i<T.length
   ·obtain⟨x,hi⟩:∃x,T[i]? = some x:=⟨T[i],Qnb aa⟩;have hx:=ml x (Qnp hi);have hg:=KG hi;have e1:=Qv i _ aa ώ;have c0:=v61 x.1 (W4 (hv.keys x hx));have c1:=aJ x.2 (hv.vals x hx) (Qm9 (H2 hx) hc) (hE.1 x hx).2;have dA:((T.take i).map λx=>V.pav (F x)).length=i:=Ρ
    have iM:F x=(x.1.nsc,Xv nm P o x.2):=by rw[<-hF]
    have eJ:(T.take (i+1)).map (λx=>V.pav (F x))=(T.take i).map (λx=>V.pav (F x))++[V.pav (x.1.nsc,Xv nm P o x.2)]:=by rw[Qo4,hi,<-iM];simp
    generalize x.1.nsc=y at c0 eJ;generalize Xv nm P o x.2=z at c1 eJ;rw[Qd,Qd y]at c0;rw[e0,Qd,Qd z]at c1;simp only[Qw,PO.cells]at c1;simp only[QE aa,Qs,QoF,Qg,hg,h9,am,aI,m9,eE,seval];refine aC c0 ?_;simp only[Qs,QoF,Qg,hg,QnK,QnN,QnT,h3,h4,am,aI,m3,m4,eE,seval];refine aC c1 ?_;simp only[eE,seval];refine QV (l:=[V.pav (y,z)]) rfl rfl rfl Ħ ?_;refine QP (site:=1101) (g:=g) (n:=i) (xs:=(T.take i).map λx=>V.pav (F x)) (ys:=[V.pav (y,z)]) ω Β rfl dA.symm rfl (J8 [(y,z)]) ϔ Ϙ ?_;simp only[h9,aI,m9,e1,eE,seval];exact⟨T.length-(i+1),ψ,_,_,i+1,g+1,rfl,rfl,ψ,ϖ,Ϡ,Ϝ,Ε,(by exact am),ω,ϲ,Î,Ö,ω,Ò⟩
   ·have e:i=T.length:=ψ
    subst e;rw[QoT,Lm]at mR;simp only[QM aa,h6,h9,m6,m9,eE,seval];simp[AV.un,AV.unL,ZO,XZ,mR,QnL]
  ·have b5:(o.card==5)=false:=í
   rw[Qni h4,Qni h5]at he;rw[Qni h5];have c1:=aJ v hv hc he;generalize Xv nm P o v=z at c1 |-;rw[e0,Qd v,Qd z]at c1;simp only[Qw,PO.cells]at c1;rw[Qd v,Qd z];refine wF func26 ?_;simp only[eK,f26,seval];exact Fd
end
def Lw {fr:Nat->Ob}{a b:Nat}(h1:(fr a).isRow=false)(h2:(fr b).isRow=false):∀s∈[a,b],(fr s).isRow=false:=by
 exact T_
def D1 {fr:Nat->Ob}{a:Nat}(h1:(fr a).isRow=false):∀s∈[a],(fr s).isRow=false:=by
 intro s hs;simp only[Qoz,Qpu,or_false]at hs;subst hs;exact h1
def isr {x:Ob}(h:x=.none):x.isRow=false:=by rw[h];rfl
def JW (nm:PG->V->V)(P:PL)(o:PO)(s:Int×V):List (Int×V):=if (s.1==o.num)=true then J7 nm P o s else []
def CD (nm:PG->V->V)(P:PL)(o:PO):∀l:List (Int×V),(l.flatMap (JW nm P o)).length<=l.length
 | []=>Qm8 _
 |s :: l=>by
  have h1:(JW nm P o s).length<=1:=by
   unfold JW;split
   ·unfold J7;split<;>simp
   ·simp
  have:=CD nm P o l;rw[QoH,QnP,Qnq];omega
def Kz (v:V):List AV:=[.int .i64 v.kd,.int .u64 (v.bits:Nat),.str v.text,.list (v.list.map V.av),.list (v.pairs.map V.pav),.list (v.slots.map V.sav),.list (v.raws.map R.av)]
def Qbf {cL:RC}{P:PL}{v:V}{o:PO}{n:Nat}{ti i:Nat}(K:List (Int×V))(hK:K.length<=64)(hS:v.slots.length<=1048576)(kj:List R)
  (hw:∀x∈v.slots,x.1=o.num->Qi prog 26 [P.av,Qw o,x.2.av] (XT (nrm P n) P o x.2).av)
  (fr:Nat->Ob) (f:Fr) (gs:Nat) (h1:f 1=.int .i64 (ti:Nat)) (h3:f 3=.ptr 0 3 0) (h5:f 5=.ptr 0 5 0) (h6:f 6=.ptr 0 6 0) (h7:f 7=.ptr 0 7 0) (h8:f 8=.int .i64 (i:Nat)) (h9:f 9=.ptr 0 9 0) (am:f 10=.int .i64 0) (m3:fr 3=.cells [.list (P.progs.map Qm),.list (P.enums.map QH)]) (m5:fr 5=.cells (Kz v)) (m6:fr 6=.cells [.int .i64 0,.int .u64 0,.str [],.nils,.nils,.nils,.nils]) (m7:fr 7=.cells [.int .i64 10,.int .u64 0,.str [],.nils,.nils,.vec 0 1100 gs 0 K.length false,.list (kj.map R.av)]) (m9:fr 9=.cells o.cells) (mS:fr 1100=.vec gs 8 (K.map V.sav)) (ij:∀s∈[11],(fr s).isRow=false)
  (Q:Exit->St->Prop)
  (q:∀(f:Fr) (fr:Nat->Ob) (gs:Nat),f 1=.int .i64 (ti:Nat)->f 3=.ptr 0 3 0->f 5=.ptr 0 5 0->f 6=.ptr 0 6 0->f 7=.ptr 0 7 0->f 8=.int .i64 (i:Nat)->fr 3=.cells [.list (P.progs.map Qm),.list (P.enums.map QH)]->fr 5=.cells (Kz v)->fr 6=.cells [.int .i64 0,.int .u64 0,.str [],.nils,.nils,.nils,.nils]->fr 7=.cells [.int .i64 10,.int .u64 0,.str [],.nils,.nils,.vec 0 1100 gs 0 (K++v.slots.flatMap (JW (nrm P n) P o)).length false,.list (kj.map R.av)]->fr 1100=.vec gs 8 ((K++v.slots.flatMap (JW (nrm P n) P o)).map V.sav)->(fr 9).isRow=false->(fr 11).isRow=false->Q (.exit 2) (⟨f,[fr],[]⟩:St)) (bU:lp 10 1 Tryz.f10=cL:=by simp only[eL,eK,Tryz.f10,seval]) :
  Q1 prog (.loop cL) ⟨f,[fr],[]⟩ Q:=by
 subst bU;simp only[eL,eK,Tryz.f10,seval];have e0:P.av=.agg [.list (P.progs.map Qm),.list (P.enums.map QH)]:=rfl
 let L:Nat->List (Int×V):=λk=>K++(v.slots.take k).flatMap (JW (nrm P n) P o)
 have v6:L 0=K:=by simp[L]
 have v5:L v.slots.length=K++v.slots.flatMap (JW (nrm P n) P o):=by simp[L]
 have uz:∀k,k<=v.slots.length->(L k).length<=64+k:=by
  intro k hk;have:=CD (nrm P n) P o (v.slots.take k);rw[Qn8]at this;simp only[L,QnP];omega
 have xN:∀k x,v.slots[k]? = some x->L (k+1)=L k++JW (nrm P n) P o x:=by
  intro k x hx;simp only[L];rw[Qo4,hx,List.flatMap_append,Qnw];simp
 rw[<-v5]at q;rw[<-v6]at m7 mS
 clear_value L
 clear v6 v5 hK
 let I:Nat->St->Prop:=λd st=>∃f fr k gs,st=⟨f,[fr],[]⟩/\d=v.slots.length-k/\k<=v.slots.length/\f 1=.int .i64 (ti:Nat)/\f 3=.ptr 0 3 0/\f 5=.ptr 0 5 0/\f 6=.ptr 0 6 0/\f 7=.ptr 0 7 0/\f 8=.int .i64 (i:Nat)/\f 9=.ptr 0 9 0/\f 10=.int .i64 (k:Nat)/\fr 3=.cells [.list (P.progs.map Qm),.list (P.enums.map QH)]/\fr 5=.cells (Kz v)/\fr 6=.cells [.int .i64 0,.int .u64 0,.str [],.nils,.nils,.nils,.nils]/\fr 7=.cells [.int .i64 10,.int .u64 0,.str [],.nils,.nils,.vec 0 1100 gs 0 (L k).length false,.list (kj.map R.av)]/\fr 9=.cells o.cells/\fr 1100=.vec gs 8 ((L k).map V.sav)/\∀s∈[11],(fr s).isRow=false
 refine Qj I _ ⟨f,fr,0,gs,rfl,rfl,Qnk _,h1,h3,h5,h6,h7,h8,h9,am,m3,m5,m6,m7,m9,mS,ij⟩ ?_;clear h1 h3 h5 h6 h7 h8 h9 am m3 m5 m6 m7 m9 mS ij;rintro _ st ⟨f0,bA,k,gs,rfl,rfl,sL,am,ax,bL,bX,cO,bF,de,eV,bM,bK,cV,gc,lG,jO,ij⟩;refine QR (a:=_) [11] ij ?_;intro f fr hf hm eF;have h1:f 1=.int .i64 (ti:Nat):=À
 have h3:f 3=.ptr 0 3 0:=Ϥ
 have h5:f 5=.ptr 0 5 0:=Θ
 have h6:f 6=.ptr 0 6 0:=Κ
 have h7:f 7=.ptr 0 7 0:=Τ
 have h8:f 8=.int .i64 (i:Nat):=Η
 have h9:f 9=.ptr 0 9 0:=Ê
 have dL:f 10=.int .i64 (k:Nat):=ŉ
 have m3:fr 3=.cells [.list (P.progs.map Qm),.list (P.enums.map QH)]:=Ϩ
 have bh:fr 5=.cells (Kz v):=Ϸ
 have m6:fr 6=.cells [.int .i64 0,.int .u64 0,.str [],.nils,.nils,.nils,.nils]:=ϸ
 have m7:fr 7=.cells [.int .i64 10,.int .u64 0,.str [],.nils,.nils,.vec 0 1100 gs 0 (L k).length false,.list (kj.map R.av)]:=Æ
 have kC:fr 9=.cells o.cells:=by rw[hm 9 ϊ,lG]<;>rfl
 have mS:fr 1100=.vec gs 8 ((L k).map V.sav):=Ù
 have fE:=eF 11 ϊ;clear hf hm eF am ax bL bX cO bF de eV bM bK cV gc lG jO ij;have m5:=bh;have m9:=kC;simp only[Kz]at m5;simp only[PO.cells]at m9;simp only[Qn6,h5,dL,m5,eE,seval];by_cases aa:k<v.slots.length
 ·obtain⟨x,hi⟩:∃x,v.slots[k]? = some x:=⟨v.slots[k],Qnb aa⟩;have hx:=Qnp hi;have iN:=Wy hi;have e1:=Qv k _ aa ώ;have aV:=xN k x hi;have qW:=uz k ψ;have fin:∀(f':Fr) (ag:Nat->Ob) (lw:Nat),f' 1=.int .i64 (ti:Nat)->f' 3=.ptr 0 3 0->f' 5=.ptr 0 5 0->f' 6=.ptr 0 6 0->f' 7=.ptr 0 7 0->f' 8=.int .i64 (i:Nat)->f' 9=.ptr 0 9 0->f' 10=.int .i64 ((k+1:Nat):Int)->ag 3=.cells [.list (P.progs.map Qm),.list (P.enums.map QH)]->ag 5=.cells (Kz v)->ag 6=.cells [.int .i64 0,.int .u64 0,.str [],.nils,.nils,.nils,.nils]->ag 7=.cells [.int .i64 10,.int .u64 0,.str [],.nils,.nils,.vec 0 1100 lw 0 (L (k+1)).length false,.list (kj.map R.av)]->ag 9=.cells o.cells->ag 1100=.vec lw 8 ((L (k+1)).map V.sav)->(∀s∈[11],(ag s).isRow=false)->∃d,d<v.slots.length-k/\I d ⟨f',[ag],[]⟩:=by
   intro f' ag lw a1 a3 a5 a6 a7 a8 a9 tU b3 b5 b6 b7 b9 bS br;exact⟨v.slots.length-(k+1),ψ,f',ag,k+1,lw,rfl,rfl,ψ,a1,a3,a5,a6,a7,a8,a9,tU,b3,b5,b6,b7,b9,bS,br⟩
  cases aq:(x.1==o.num)
  ·have bn:(x.1 != o.num)=true:=by simp[bne,aq]
   unfold JW at aV;rw[aq,Qni ό,Qof]at aV;simp only[QE aa,Qs,QoF,Qg,iN,bn,QnT,h5,h9,dL,m5,m9,e1,eE,seval];exact fin _ _ gs ϕ ϖ Ϛ Ϝ Ϫ ϣ Ε ω ϲ Ζ Ö Ė (by exact kC) ė (D1 (isr (by exact fE)))
  ·have bn:(x.1 != o.num)=false:=by simp[bne,aq]
   unfold JW at aV;rw[aq,Qnj rfl]at aV;unfold J7 at aV;have c2:=hw x hx (by simpa using aq);have c3:=QhC (XT (nrm P n) P o x.2);generalize XT (nrm P n) P o x.2=z at c2 c3 aV;rw[e0,Qd x.2,Qd z]at c2;rw[Qd z]at c3;simp only[Qw,PO.cells]at c2;simp only[QE aa,Qs,QoF,Qg,iN,bn,QnK,QnN,QnT,h3,h5,h9,dL,m3,m5,m9,eE,seval];refine aC c2 ?_;simp only[fE,h9,m9,eE,seval];cases hb:decide (o.card<3)
   ·rw[hb,Qo1]at aV;simp only[eE,seval];refine aC c3 ?_;cases hz:z.emp
    ·rw[hz,Qnj (show(!false)=true from rfl)]at aV;exact ze
    ·rw[hz,Qni ό,Qof]at aV;simp only[dL,e1,Qa,seval];exact fin _ _ gs ϕ ϖ Ϛ Ϝ Ϫ ϣ Ε ω ϲ Ζ Ö Ė (by exact kC) ė (D1 rfl)
   ·rw[hb,Qo0,Qnj rfl]at aV;exact ze
 ·have e:k=v.slots.length:=ψ
  subst e;simp only[QM aa,Qa,seval];exact q _ _ gs ϕ ϖ Ϛ Ϝ Ϫ ϣ ϲ Ζ Ö Ŏ ø (by rw[kC];rfl) (isr fE)
def NoI (P:PL)(v:V)(K:Nat->List (Int×V))(len:Nat)(t:Nat)(kj:List R)(d:Nat)(st:St):Prop :=
 ∃f fr i gs,st=⟨f,[fr],[]⟩/\d=len-i/\i<=len/\f 1=.int .i64 (t:Nat)/\f 3=.ptr 0 3 0/\f 5=.ptr 0 5 0/\f 6=.ptr 0 6 0/\f 7=.ptr 0 7 0/\f 8=.int .i64 (i:Nat)/\fr 3=.cells [.list (P.progs.map Qm),.list (P.enums.map QH)]/\fr 5=.cells (Kz v)/\fr 6=.cells [.int .i64 0,.int .u64 0,.str [],.nils,.nils,.nils,.nils]/\fr 7=.cells [.int .i64 10,.int .u64 0,.str [],.nils,.nils,.vec 0 1100 gs 0 (K i).length false,.list (kj.map R.av)]/\fr 1100=.vec gs 8 ((K i).map V.sav)/\∀s∈[11,9],(fr s).isRow=false
section
variable {M:Nat}{P:PL}
set_option maxHeartbeats 2000000 in
theorem v10 (hU:JD P)(hr:XR P)(hl:∀g∈P.progs,g.ops.length<=64):∀(n:Nat) (t:Int) (g:PG),P.progs[t.toNat]? = some g->0<=t->∀v:V,v.ok M->v.cnt<=1048576->MW P n g v->Qi prog 10 [P.av,.int .i64 t,v.av] (nrm P n g v).av:=by
 have e0:P.av=.agg [.list (P.progs.map Qm),.list (P.enums.map QH)]:=rfl;intro n
 induction n with
 |zero=>
  intro t g _ _ v _ _ h;exact h.elim
 |succ n ih=>
  intro t g ef t0 v hv hc h;have ep:=Qnp ef;have hu:=hU g ep;have hd:=hr g ep;have wz:=hl g ep;obtain⟨s1,s2⟩:=h;have sR:=λ(o:PO) (ho:o∈g.ops) (x:V) (hx:x.ok M) (iK:x.cnt<=1048576) (he:EW (MW P n) P o x)=>v59 o (hu o ho) (λt g a b v c d e=>ih t g a b v c d e) x hx iK he
  have sU:=λ(o:PO) (ho:o∈g.ops) (x:V) (hx:x.ok M) (iK:x.cnt<=1048576) (he:FW (MW P n) P o x)=>v26 o (hu o ho) (sR o ho) x hx iK he
  have lS:=Zg v;have lR:=KI v;have cR:=v25 v.raws ψ;obtain⟨ti,dA⟩:=QoZ t0;subst dA;rw[QoF]at ef;have gV:(P.progs.map Qm)[ti]? = some (.agg g.cells):=by simp[ef,Qm]
  simp only[PG.cells]at gV;have mi:ti<P.progs.length:=(Qna.1 ef).1;have d0:decide ((ti:Int)<0)=false:=Qo8 ψ;have d1:decide ((ti:Int)>=(P.progs.length:Int))=false:=Qo8 ψ;show Qi _ _ _ (V.mk 10 0 [] [] [] (g.ops.flatMap (Xb (nrm P n) P v.slots)) (Zp v.raws)).av;have bc:g.ops.flatMap (Xb (nrm P n) P v.slots)=g.ops.flatMap λo=>v.slots.flatMap (JW (nrm P n) P o):=by
   congr 1
   funext o;exact(PA (nrm P n) P s2).symm
  have dv:∀o,(v.slots.flatMap (JW (nrm P n) P o)).length<=1:=by
   intro o;have e:v.slots.flatMap (JW (nrm P n) P o)=Xb (nrm P n) P v.slots o:=PA (nrm P n) P s2;rw[e,Ur];split
   ·simp
   ·unfold J7;split<;>simp
  rw[bc];generalize Zp v.raws=RW at *;rw[show v.av=.agg (Kz v)from Qd v];generalize hK:(λi=>(g.ops.take i).flatMap λo=>v.slots.flatMap (JW (nrm P n) P o))=K;have lX:K 0=[]:=ĕ
  have mB:(g.ops.flatMap λo=>v.slots.flatMap (JW (nrm P n) P o))=K g.ops.length:=ĕ
  have pK:∀i,i<=g.ops.length->(K i).length<=64:=by
   intro i hi;rw[<-hK];have:∀l:List PO,(l.flatMap λo=>v.slots.flatMap (JW (nrm P n) P o)).length<=l.length:=by
    intro l
    induction l with
    |nil=>exact Qm8 _
    |cons o l ih=>
     have:=dv o;rw[QoH,QnP,Qnq];omega
   have h2:=this (g.ops.take i);rw[Qn8]at h2;show((g.ops.take i).flatMap _).length<=64;omega
  have aV:∀i o,g.ops[i]? = some o->K (i+1)=K i++v.slots.flatMap (JW (nrm P n) P o):=by
   intro i o ho;rw[<-hK];show(g.ops.take (i+1)).flatMap _=(g.ops.take i).flatMap _++_;rw[Qo4,ho,List.flatMap_append];simp
  rw[mB,show(V.mk 10 0 [] [] [] (K g.ops.length) RW).av=.agg [.int .i64 10,.int .u64 0,.str [],.list [],.list [],.list ((K g.ops.length).map V.sav),.list (RW.map R.av)]from Qd _];clear mB bc dv;refine wF func10 ?_;simp only[eK,Tryz.f10,seval];simp only[e0,Kz,d0,d1,Qn6,eE,seval];refine aC cR ?_;simp only[eE,seval];refine K7 ϒ rfl ϒ rfl ?_;simp only[List.set,Qa,seval];refine Qj (NoI P v K g.ops.length ti RW) _ ⟨_,_,0,_,rfl,rfl,Qnk _,ω,ω,ω,ω,ω,ω,ω,ω,ω,Ó,Ó,Lw rfl rfl⟩ ?_;rintro _ st ⟨f0,bA,i,gs,rfl,rfl,bg,am,ax,bL,bX,cO,bF,bM,bK,cV,gc,jO,ij⟩;refine QR (a:=_) [11,9] ij ?_;intro f fr hf hm eF;have h1:f 1=.int .i64 (ti:Nat):=À
  have h3:f 3=.ptr 0 3 0:=Ϥ
  have h5:f 5=.ptr 0 5 0:=Θ
  have h6:f 6=.ptr 0 6 0:=Κ
  have h7:f 7=.ptr 0 7 0:=Τ
  have h8:f 8=.int .i64 (i:Nat):=Η
  have m3:fr 3=.cells [.list (P.progs.map Qm),.list (P.enums.map QH)]:=Ϩ
  have m5:fr 5=.cells (Kz v):=Ϸ
  have m6:fr 6=.cells [.int .i64 0,.int .u64 0,.str [],.nils,.nils,.nils,.nils]:=ϸ
  have m7:fr 7=.cells [.int .i64 10,.int .u64 0,.str [],.nils,.nils,.vec 0 1100 gs 0 (K i).length false,.list (RW.map R.av)]:=Æ
  have mS:fr 1100=.vec gs 8 ((K i).map V.sav):=Ù
  have fE:=eF 11 ϊ;have n9:=eF 9 ϊ;clear hf hm eF am ax bL bX cO bF bM bK cV gc jO ij;simp only[Qs,QoF,Qg,gV,Qn6,QnN,QnT,h1,h3,h8,m3,eE,seval];by_cases aa:i<g.ops.length
  ·obtain⟨o,hi⟩:∃o,g.ops[i]? = some o:=⟨g.ops[i],Qnb aa⟩;have cI:=Qnp hi;have bG:(g.ops.map λo=>AV.agg o.cells)[i]? = some (.agg o.cells):=ĭ
   simp only[PO.cells]at bG;have e1:=Qv i _ aa ώ;have qW:=pK i ψ;have rP:=aV i o hi;simp only[QE aa,Qs,QoF,Qg,gV,PO.cells,bG,n9,h1,h3,h8,m3,eE,seval];refine Qbf (P:=P) (v:=v) (o:=o) (n:=n) (ti:=ti) (i:=i) (K i) qW ψ RW (λx hx tI=>by
    obtain⟨o',eM,i8⟩:=s1 x hx;rw[tI,XX hd cI]at eM;cases eM;exact sU o cI x.2 (hv.slots x hx) (Qm9 (JG hx) hc) i8) _ _ gs ϕ ϖ Ϛ Ϝ Ϫ ϣ ω ω ϲ Ŀ Ö Ŏ ω ø (D1 (isr (by exact fE))) _ ?_
   clear h1 h3 h5 h6 h7 h8 m3 m5 m6 m7 mS fE n9;intro f fr gs h1 h3 h5 h6 h7 h8 m3 m5 m6 m7 mS n9 fE;rw[<-rP]at m7 mS;simp only[h8,e1,Qa,seval];exact⟨g.ops.length-(i+1),ψ,_,_,i+1,gs,rfl,rfl,ψ,ϕ,ϖ,Ϛ,Ϝ,Ϫ,ω,m3,m5,m6,m7,mS,Lw fE n9⟩
  ·have e:i=g.ops.length:=ψ
   subst e;simp only[QM aa,h6,h7,m6,m7,eE,seval];simp[AV.un,AV.unL,ZO,XZ,mS,QnL]
end
open Vp Cp
def Vb {f:R}(h1:1<=f.num/\f.num<=65535)(h2:0<=f.wire/\f.wire<=6)(h3:if Xx f.wire=true then f.data=[]else f.bits=0)(h4:f.bits<18446744073709551616)(h5:f.data.length<18446744073709551616):Gf f:=by
 refine⟨?_,h4,h5⟩;unfold valid Jd;rw[Qni ψ];simp only[Qom,QoW];split at h3
 ·rename_i h;rw[Qnj h];simp[h3]
 ·rename_i h;rw[Qni h];simp[h3]
def Ri {M:Nat}{P:PL}{k tg:Int}{x:V}(hx:x.one P k tg=0)(ox:x.ok M){n:Int}(hn:1<=n/\n<=65535):Gf (XF n x):=by
 obtain⟨a1,a2,a3,_⟩:=KJ hx;have ht:=VR hx;have hb:=Y4 (k:=x.kd) (P8 ox) x.text;have hd:=DZ x.kd x.bits x.text;refine Vb hn ?_ ?_ hb (Nat.lt_of_le_of_lt hd ψ)
 ·show 0<=(Q2 x.kd x.bits x.text).wire/\(Q2 x.kd x.bits x.text).wire<=6;unfold Q2 zr
  repeat' split
  all_goals exact⟨by simp[],by simp[]⟩
 ·show if Xx (Q2 x.kd x.bits x.text).wire=true then(Q2 x.kd x.bits x.text).data=[]else(Q2 x.kd x.bits x.text).bits=0
  rw[a1];unfold Q2;by_cases c1:k=1\/k=4\/k=5\/k=9
  ·rw[Qnj c1];rfl
  rw[Qni c1];by_cases c2:k=2\/k=3
  ·rw[Qnj c2];rfl
  rw[Qni c2];by_cases c3:k=6
  ·rw[Qnj c3];rfl
  rw[Qni c3,Qnj (show k=7\/k=8 by omega)];rfl
section
variable {M:Nat}{P:PL}{m:PG->V->Int}{nm:PG->V->V}{bd:Int->V->List UInt8}{o:PO}(ho:UO P o)
variable (aO:∀(t:Int) (v:V),(0<=t/\t<(P.progs.length:Int))->m (Qe P t) v=0->(bd t v).length+70000<=70000*v.cnt)
include ho aO in
theorem Vc {n:Int}(hn:1<=n/\n<=65535){x:V}(hx:QS m P o x=0)(ox:x.ok M)(hc:x.cnt<=1048576):Gf (Q3 bd o n x):=by
 have hl:=FF aO ho (n:=n) hx;unfold QS at hx;unfold Q3 at hl |-;by_cases hk:o.kind=10
 ·rw[Qnj hk]at hl |-;exact Vb hn ⟨by show(0:Int)<=4;decide,by show(4:Int)<=6;decide⟩ rfl ĸ ψ
 ·rw[Qni hk]at hx;rw[Qni hk];exact Ri hx ox hn
theorem Rj {x:V}(h4:o.card=4)(nx:XT nm P o x=x):x=.mk 11 0 [] x.list [] [] []/\∀y∈x.list,Xv nm P o y=y:=by
 unfold XT at nx;rw[Qnj h4]at nx;have hl:x.list.map (Xv nm P o)=x.list:=by
  have:=congrArg V.list nx;exact this
 refine⟨by rw[hl]at nx;exact nx.symm,λy hy=>?_⟩;obtain⟨i,hi,rfl⟩:=Qpv hy;have:=congrArg (λl=>l[i]?) hl;simp only[QoA,Qnb hi,QnB,QnC]at this;exact this
theorem CE {x:V}(h5:o.card=5)(nx:XT nm P o x=x):x=.mk 12 0 [] [] x.pairs [] []/\∀p∈x.pairs,p.1.nsc=p.1/\∃q∈x.pairs,p.2=Xv nm P o q.2:=by
 unfold XT at nx;rw[Qni ψ,Qnj h5]at nx;have hl:((QY o.key x.pairs).map λp=>(p.1.nsc,Xv nm P o p.2))=x.pairs:=by
  have:=congrArg V.pairs nx;exact this
 refine⟨by rw[hl]at nx;exact nx.symm,λp hp=>?_⟩;rw[<-hl]at hp;obtain⟨q,hq,rfl⟩:=Qox.1 hp;exact⟨S0 _,q,(QN x.pairs).mem_iff.1 hq,rfl⟩
include ho aO in
theorem Qgv (hn:1<=o.num/\o.num<=65535){x:V}(hx:XC m P o x=0)(ox:x.ok M)(hc:x.cnt<=1048576):∀f∈Ws bd o x,Gf f:=by
 unfold XC at hx;unfold Ws;by_cases h5:o.card=5
 ·rw[Qnj h5]at hx;rw[Qnj h5];split at hx
  ·omega
  have ex:=(KR.1 hx).1;intro f hf;obtain⟨p,hp,rfl⟩:=Qox.1 hf;have h1:=P6 aO ho (ex p hp).1 (ex p hp).2;have h2:=H2 hp;have h3:=S3 hp;exact Vb hn ⟨by show(0:Int)<=6;decide,by show(6:Int)<=6;decide⟩ rfl ĸ ψ
 rw[Qni h5]at hx;rw[Qni h5];by_cases hp:pk o.card o.kind=true
 ·rw[Qnj hp];intro f hf;rw[Qpp]at hf;subst hf;have h1:=FG (wk o.kind) x.list;have h2:=JH x;exact Vb hn ⟨by show(0:Int)<=5;decide,by show(5:Int)<=6;decide⟩ rfl ĸ (by
   show(UInt8.ofNat (wk o.kind).toNat :: x.list.flatMap (WH (wk o.kind))).length<_;rw[Qnq];omega)
 rw[Qni hp];by_cases h4:o.card=4
 ·rw[Qnj h4]at hx;rw[Qnj h4];split at hx
  ·omega
  intro f hf;obtain⟨y,hy,rfl⟩:=Qox.1 hf;have h2:=UX hy;exact Vc ho aO hn (Km.1 hx y hy) (ox.list y hy) ψ
 ·rw[Qni h4]at hx;rw[Qni h4];intro f hf;rw[Qpp]at hf;subst hf;exact Vc ho aO hn hx ox hc
end
def Qeo (bd:Int->V->List UInt8)(o:PO)(x:V):∀f∈Ws bd o x,f.num=o.num:=by
 have he:∀y,(Q3 bd o o.num y).num=o.num:=λy=>by
  unfold Q3;split<;>rfl
 unfold Ws;split
 ·intro f hf;obtain⟨p,_,rfl⟩:=Qox.1 hf;rfl
 split
 ·intro f hf;rw[Qpp]at hf;subst hf;rfl
 split
 ·intro f hf;obtain⟨y,_,rfl⟩:=Qox.1 hf;exact he y
 ·intro f hf;rw[Qpp]at hf;subst hf;exact he x
section
variable {P:PL}{bd:Int->V->List UInt8}{g:PG}
end
def A6 (P:PL):Prop:=∀g∈P.progs,∀o∈g.ops,1<=o.num/\o.num<=65535
def FH {P:PL}(h:ck P=0):A6 P:=by
 unfold ck at h;split at h
 ·omega
 split at h
 ·omega
 split at h
 ·omega
 split at h
 ·omega
 split at h
 ·omega
 rename_i hr;have hr:NF P=true:=by simpa using hr
 unfold NF at hr;simp only[Qnz,Qno]at hr;intro g hg o ho;have:=hr.1 g hg o ho;unfold KU at this
 simpa using this
structure Ns (M:Nat)(P:PL)(m:PG->V->Int)(nm:PG->V->V)(g:PG)(s:Int×V):Prop where
 wd:Wd P m g s
 ok:s.2.ok M
 cnt:s.2.cnt<=1048576
 nrm:∀o,Xd g s.1=some o->XT nm P o s.2=s.2
def Vd {P:PL}{g:PG}{f:R}(h:Kk P g f=0):(1<=f.num/\f.num<=65535)/\(0<=f.wire/\f.wire<=6)/\(f.wire<=2->f.data=[])/\(2<f.wire->f.bits=0)/\Fx P g f=true/\f.data.length<=65536/\(f.wire=3->f.data.length<=4096):=by
 unfold Kk at h;split at h
 ·omega
 rename_i h1;split at h
 ·omega
 rename_i h2;split at h
 ·omega
 rename_i h3;split at h
 ·omega
 rename_i h4;simp only[Qne,Qnf,not_or,Qnz,not_and,Qn9,Qng,Bool.not_eq_false]at h1 h2 h3 h4;refine⟨ψ,ψ,λhw=>?_,λhw=>?_,h3,ψ,λhw=>by have:=h4.1 hw;omega⟩
 ·have:=h2.1 hw
  simpa using this
 ·have:=h2.2 hw
  simpa using this
def Qgw {P:PL}{g:PG}{f:R}(h:Kk P g f=0)(hb:f.bits<18446744073709551616):Gf f:=by
 obtain⟨h1,h2,h3,h4,_,h6,_⟩:=Vd h;refine Vb h1 h2 ?_ hb ψ;unfold Xx;by_cases hw:f.wire<=2
 ·rw[Qnj (by
   have:f.wire=0\/f.wire=1\/f.wire=2:=ψ
   rcases this with e|e|e<;>rw[e]<;>rfl)]
  exact h3 hw
 ·rw[Qni Ϗ];exact h4 ψ
section
variable {M:Nat}{P:PL}(hU:JD P)(hr:XR P)(hn:A6 P)
include hU hr in
theorem Ma {n:Nat}{t:Int}(hg:Qe P t∈P.progs){x:V}(h:XK P (n+1) (Qe P t) x=0)(ox:x.ok M)(cx:x.cnt<=1048576)(nx:nrm P (n+1) (Qe P t) x=x):∀s∈x.slots,Ns M P (XK P n) (nrm P n) (Qe P t) s:=by
 intro s hs;have hw:=Ln hU hr hg h;rw[nx]at hw;refine⟨hw s hs,ox.slots s hs,Qm9 (JG hs) cx,λo ho=>?_⟩;have gY:=hs;rw[<-nx]at gY;obtain⟨q,hq,kM⟩:=QnX.1 (show s∈(Qe P t).ops.flatMap (Xb (nrm P n) P x.slots)from gY);obtain⟨e1,u,hu,e2,e3⟩:=XU kM;rw[e1,XX (hr _ hg) hq]at ho;have sQ:q=o:=Option.some.inj ho;subst sQ;obtain⟨_,⟨s1,_,_⟩,_,_⟩:=Jy.1 h;obtain⟨o',h1,h2⟩:=s1 u hu;rw[e2,XX (hr _ hg) hq]at h1;have sQ:q=o':=Option.some.inj h1;subst sQ;rw[e3];exact Pz (λg hg v h=>Wh hU hr n g hg v h) (hU _ hg q hq) h2
include hr in
theorem GS {n:Nat}{g:PG}(hg:g∈P.progs)(v:V):(nrm P (n+1) g v).slots.Pairwise λx y=>x.1<y.1:=by
 show(g.ops.flatMap (Xb (nrm P n) P v.slots)).Pairwise _;rw[Qpx];refine⟨λ_ _=>GK,(hr g hg).imp λ{a b} dE x hx y hy=>?_⟩;rw[(XU hx).1,(XU hy).1];exact dE
theorem Lx {m:PG->V->Int}{nm:PG->V->V}(bd:Int->V->List UInt8){g:PG}{s:Int×V}(h:Ns M P m nm g s):ZK bd g s≠[]:=by
 obtain⟨o,ho,hf,he⟩:=h.wd;have hx:=h.nrm o ho;unfold ZK;rw[ho];show Ws bd o s.2≠[];unfold Ws;by_cases h5:o.card=5
 ·rw[Qnj h5];have he:=he.resolve_left ψ;obtain⟨a1,_⟩:=CE h5 hx;intro e;have:s.2.pairs=[]:=List.map_eq_nil_iff.1 e;rw[this]at a1;rw[a1]at he;cases he
 rw[Qni h5];split
 ·simp
 split
 ·rename_i h4;have he:=he.resolve_left ψ;obtain⟨a1,_⟩:=Rj h4 hx;intro e;have:s.2.list=[]:=List.map_eq_nil_iff.1 e;rw[this]at a1;rw[a1]at he;cases he
 ·simp
theorem VT {m:PG->V->Int}{nm:PG->V->V}(bd:Int->V->List UInt8){g:PG}{s:Int×V}(h:Ns M P m nm g s):∀f∈ZK bd g s,f.num=s.1:=by
 obtain⟨o,ho,_,_⟩:=h.wd;unfold ZK;rw[ho];intro f hf;rw[Qeo bd o s.2 f hf];exact(ZX ho).2
include hU hr hn in
theorem FI {n:Nat}{t:Int}(hg:Qe P t∈P.progs){x:V}(h:XK P (n+1) (Qe P t) x=0)(ox:x.ok M)(hs:∀s∈x.slots,Ns M P (XK P n) (nrm P n) (Qe P t) s):∀f∈Xn (QW P n) (Qe P t) x.slots x.raws,Gf f:=by
 obtain⟨_,_,_,cX⟩:=Jy.1 h;have key:∀(sl:List (Int×V)) (rs:List R),(∀s∈sl,Ns M P (XK P n) (nrm P n) (Qe P t) s)->(∀f∈rs,Gf f)->∀f∈Xn (QW P n) (Qe P t) sl rs,Gf f:=by
  intro sl
  induction sl with
  |nil=>intro rs _ hr f hf;exact hr f hf
  |cons s sl ih=>
   intro rs h1 h2 f hf;rw[Xn,Qow,Qow]at hf;rcases hf with(hf|hf)|hf
   ·exact h2 f ((QpC _).mem hf)
   ·have hs:=h1 s ό;obtain⟨o,ho,sf,_⟩:=hs.wd;have cI:=(ZX ho).1;unfold ZK at hf;rw[ho]at hf;exact Qgv (hU _ hg o cI) (λt v ht hm=>H3 hU hr n t v ht hm) (hn _ hg o cI) sf hs.ok hs.cnt f hf
   ·exact ih _ (λs h=>h1 s Ĺ) (λf hf=>h2 f ((QpB _).mem hf)) f hf
 refine key x.slots x.raws hs λf hf=>Qgw (cX f hf) ?_
 have:=Nm (ox.raws f hf).bits;omega
end
def H6 {P:PL}{t:Int}(ht:0<=t/\t<(P.progs.length:Int)):Qe P t∈P.progs:=by
 exact U_
def H7 {k:Int}(hk:1<=k/\k<=9)(b:Nat)(t:List UInt8) :
  (wk k=0/\Q2 k b t=⟨0,0,b,[]⟩/\k≠6/\k≠7/\k≠8)\/(wk k=1/\Q2 k b t=⟨0,1,(YZ (IntKind.i64.wrap (b:Int))).toNat,[]⟩/\k≠6/\k≠7/\k≠8)\/
  (wk k=2/\Q2 k b t=⟨0,2,Xw k b,[]⟩/\k=6)\/(wk k=3/\Q2 k b t=⟨0,3,0,t⟩/\(k=7\/k=8)):=by
 unfold wk Q2;by_cases h1:k=1\/k=4\/k=5\/k=9
 ·rw[Qnj h1,Qnj h1];exact .inl ⟨rfl,rfl,ψ⟩
 rw[Qni h1,Qni h1];by_cases h2:k=2\/k=3
 ·rw[Qnj h2,Qnj h2];exact .inr (.inl ⟨rfl,rfl,ψ⟩)
 rw[Qni h2,Qni h2];by_cases h3:k=6
 ·rw[Qnj h3,Qnj h3];exact .inr (.inr (.inl ⟨rfl,rfl,h3⟩))
 rw[Qni h3,Qni h3,Qnj ψ,Qnj ψ];exact .inr (.inr (.inr ⟨rfl,rfl,ψ⟩))
section
variable {M:Nat}{P:PL}{k tg:Int}{x:V}(hx:x.one P k tg=0)(ox:x.ok M)(nx:x.nsc=x)
include hx in
theorem Ly {b:Nat}{t:List UInt8}(hb:b=x.bits)(ht:t=x.text):QC k b t=x:=by
 obtain⟨a1,_,_,a4,a5,a6,a7,_⟩:=KJ hx;subst hb ht;exact Qk3 a1.symm rfl rfl a4.symm a5.symm a6.symm a7.symm
include hx in
theorem LA:isk k=true/\Wb k x.bits=true/\(k=7->Hm x.text=true)/\(k=9->Yo P.enums tg x.bits=true):=by
 have hk:=(KJ hx).1;unfold V.one GD at hx;split at hx
 ·omega
 split at hx
 ·omega
 split at hx
 ·omega
 rename_i h7;split at hx
 ·omega
 rename_i hf;split at hx
 ·omega
 rename_i h9;simp only[Qpl,Bool.not_eq_false',Qpj,Qo2]at h7 hf h9;unfold Ze at hf;simp only[Qnz]at hf;refine⟨hf.1.1.1.1.1.1,hf.1.1.2,λh=>?_,λh=>?_⟩
 ·rcases h7 with h7|h7
  ·exact absurd h h7
  ·exact h7
 ·rcases h9 with h9|h9
  ·exact absurd h h9
  ·exact h9
include hx ox nx in
theorem BG:XP P k tg ⟨0,wk k,(Q2 x.kd x.bits x.text).bits,(Q2 x.kd x.bits x.text).data⟩=(x,0):=by
 obtain⟨a1,a2,a3,a4,a5,a6,a7,a8⟩:=KJ hx;obtain⟨b1,b2,b3,b4⟩:=LA hx;have hb:=P8 ox;have hn:Xw k x.bits=x.bits:=by
  have:=congrArg V.bits nx;cases x;simp only[V.kd,V.nsc,V.bits]at a1 this;rw[a1]at this;exact this
 unfold XP;rw[Qnj b1,Qnj rfl,a1];dsimp only;have num:wk k≠3->X4 (wk k) (Q2 k x.bits x.text).bits=x.bits->x.text=[]->(if wk k=3 then(if k=7/\Hm (Q2 k x.bits x.text).data=false then(QC 0 0 [],7)else(QC k 0 (Q2 k x.bits x.text).data,0))else if Wb k (X4 (wk k) (Q2 k x.bits x.text).bits)=true then(if k=9/\Yo P.enums tg (X4 (wk k) (Q2 k x.bits x.text).bits)=false then(QC 0 0 [],16)else(QC k (Xw k (X4 (wk k) (Q2 k x.bits x.text).bits)) [],0))else(QC 0 0 [],6))=(x,0):=by
  intro h3 hw ht;rw[Qni h3,hw,Qnj b2,Qni (λh=>by rw[b4 h.1]at h;cases h.2),hn,Ly hx rfl ht.symm]
 rcases H7 ⟨a2,a3⟩ x.bits x.text with⟨h1,h2,h3⟩|⟨h1,h2,h3⟩|⟨h1,h2,h3⟩|⟨h1,h2,h3⟩
 ·rw[Qni ψ]at a8;exact num ψ (by rw[h1,h2];rfl) a8
 ·rw[Qni ψ]at a8;refine num ψ ?_ a8;rw[h1,h2];unfold X4;rw[Qnj rfl,Int.toNat_of_nonneg (GL _),Qd8,QD,Jl];omega
 ·rw[Qni ψ]at a8;refine num ψ ?_ a8;rw[h1,h2];unfold X4;rw[Qni ϊ];exact hn
 ·rw[Qnj h3]at a8;rw[h1,Qnj rfl,h2];dsimp only;rw[Qni (λh=>by rw[b3 h.1]at h;cases h.2),Ly hx a8.symm rfl]
end
def KP (S:List (Int×V))(rs:List R):V:=.mk 10 0 [] [] [] S rs
def KA (S:List (Int×V))(rs:List R)(n:Int):Option V->V
 |none=>KP S rs
 |some y=>KP (S++[(n,y)]) rs
def Qbg {g:PG}{o:PO}{s:Int×V}(h:Xg g o s=false):(s.1==o.num)=false:=by
 unfold Xg at h;simp only[Qn4]at h;exact h.1
section
variable {g:PG}{o:PO}{S:List (Int×V)}{rs:List R}(hS:∀s∈S,Xg g o s=false)
include hS
theorem WV (cur:Option V)(y:V):X6 g (KA S rs o.num cur) o y=KA S rs o.num (some y):=by
 have h1:S.filter (λs=>!Xg g o s)=S:=QoR.2 λs h=>by rw[hS s h];rfl
 cases cur with
 |none=>
  show V.mk 10 0 [] [] [] (S.filter (λs=>!Xg g o s)++[(o.num,y)]) rs=_;rw[h1];rfl
 |some z=>
  have h2:Xg g o (o.num,z)=true:=by unfold Xg;simp
  show V.mk 10 0 [] [] [] ((S++[(o.num,z)]).filter (λs=>!Xg g o s)++[(o.num,y)]) rs=_;rw[QoP,h1];simp only[QoQ,h2,QoX,Qnu,if_false,List.filter_nil,Qof];rfl
theorem UA (cur:Option V):XN (KA S rs o.num cur) o.num=cur:=by
 have h1:S.find? (λs=>s.1==o.num)=none:=Qpb.2 λs h=>by rw[Qbg (hS s h)];simp
 cases cur with
 |none=>
  show(S.find? (λs=>s.1==o.num)).map Prod.snd=none;rw[h1];rfl
 |some z=>
  show((S++[(o.num,z)]).find? (λs=>s.1==o.num)).map Prod.snd=some z;rw[List.find?_append,h1];simp
end
def H8 (o:PO)(cur:Option V)(x:V):V:=if o.card=4 then Xa ((cur.getD (QC 0 0 [])).list++[x])else x
def Rk {d:C}(hd:CT d){s t:List UInt8}(h:d.rest=s++t){q:Int}(hq:0<=q/\q<=d.dp):CT ({ d with e:=d.a+s.length,dp:=q }:C)/\({ d with e:=d.a+s.length,dp:=q }:C).rest=s:=by
 have h1:=hd.ci.pos;have h2:=hd.ci.lf;have h3:=hd.ci.nd;have h4:=hd.ci.dp;have h5:=hd.ci.len;rw[Q0,h,QnP]at h2;have hi:CT ({ d with e:=d.a+s.length,dp:=q }:C):=⟨NP h5 ϰ h3 ϰ,hd.tx⟩;refine⟨hi,?_⟩;have e1:=C.rest_of hd.ci.snd;have e2:=C.rest_of hi.ci.snd;rw[e2];dsimp only;rw[h]at e1;have e3:=congrArg (List.take s.length) e1;rw[List.take_left' rfl,Qos]at e3;refine Eq.trans ?_ e3.symm;congr 1
 omega
def S9 {d:C}(hd:CT d){s t:List UInt8}(h:d.rest=s++t):part d s.length={ d with e:=d.a+s.length }/\CT (part d s.length)/\(part d s.length).rest=s:=by
 have h1:=(ZZ hd.ci (n:=s.length) (by rw[Q0,h,QnP];omega)).1;have h2:=Rk hd h (q:=d.dp) ⟨hd.ci.dp.1,QoC _⟩;rw[h1];exact⟨rfl,h2.1,h2.2⟩
section
variable {o:PO}{bd:Int->V->List UInt8}
def BH (n:Int)(x:V)(hk:o.kind=10):body (Q3 bd o n x)=Vp.put (bd o.target x).length++bd o.target x:=by
 unfold Q3;rw[Qnj hk];unfold body;rw[Qni (by show ¬(4:Int)=2;decide),Qni (by show ¬Xx 4=true;decide)]
end
def Rl {c k:Int}(hp:pk c k=true)(n:Int){x:V}(hk:x.kd=k):body (XF n x)=WH (wk k) x:=by
 unfold WH F6;have hw:=Lo hp x.bits x.text;have h2:=Qc3 hp;show(if (Q2 x.kd x.bits x.text).wire=2 then fx 8 (Q2 x.kd x.bits x.text).bits else if Xx (Q2 x.kd x.bits x.text).wire then Vp.put (Q2 x.kd x.bits x.text).bits else _)=_;rw[hk,hw];by_cases h:wk k=2
 ·rw[Qnj h,Qnj h]
 ·rw[Qni h,Qni h,Qnj];rcases h2 with h2|h2|h2
  ·rw[h2];rfl
  ·rw[h2];rfl
  ·exact absurd h2 h
def LB {c:C}(hc:CT c){b:UInt8}{s:List UInt8}(h:c.rest=b :: s):ZD c=((b.toNat:Int),Jj c 1 0,0):=by
 obtain⟨e,_,_⟩:=Z0 hc.ci.big hc.ci.snd 1 (by rw[Q0,h,Qnq];omega);have e':c.ahead 1={ c with a:=c.a+(1:Nat) }:=e;unfold ZD;rw[h];simp[e',Jj]
def Ta {f:R}(hf:Gf f):2<=(ZP f).length:=by
 obtain⟨n,w,_,_,_,_,a5,a6⟩:=Qbd hf;have h1:=(Vp.put_len (n*8+w)).1;rw[a5,QnP];rcases a6 with⟨_,_,e⟩|⟨_,_,e⟩|⟨_,_,e⟩
 ·rw[e,Z6];omega
 ·rw[e];have:=(Vp.put_len f.bits).1;omega
 ·rw[e,QnP];have:=(Vp.put_len f.data.length).1;omega
def Tb (o:PO)(cur:Option V)(p:V×V):V:=Jp (Zx o.key (cur.getD (QC 0 0 [])).pairs p)
def Rm {k:Int}{done:List (V×V)}{p:V×V}{l:List (V×V)}(hs:Zt (λx y:V×V=>kl k x.1 y.1) (done++p :: l))(hd:(done++p :: l).Pairwise λq p=>XJ q.1 p.1=false):Zx k done p=done++[p]:=by
 have e:done++p :: l=(done++[p])++l:=ό
 rw[e]at hs hd;have hs:=(QoO.1 hs).1;have hd:=(QoO.1 hd).1;unfold Zx QY;rw[show done.filter (λq=>!XJ q.1 p.1)=done from QoR.2 λq hq=>by rw[(QoO.1 hd).2.2 q hq p ό];rfl];exact GH hs
def Q5 (k:Int)(b:Nat)(t:List UInt8):(QC k b t).cnt=1:=by unfold QC;rw[Q8];rfl
def XG {M:Nat}{k:Int}{b:Nat}{t:List UInt8}(hk:(Lit.int .i64 k).wf=true)(hb:b<18446744073709551616)(ht:t.length<=M):(QC k b t).ok M :=
 .mk hk (by simp[QC,V.bits,Lit.wf,IntKind.min,IntKind.max,IntKind.bits,IntKind.signed];omega) ht (Qnk _) (Qnk _) (Qnk _) (Qnk _) (λ_ hx=>nomatch hx) (λ_ hx=>nomatch hx) (λ_ hx=>nomatch hx) (λ_ hx=>nomatch hx) (λ_ hx=>nomatch hx) (λ_ hx=>nomatch hx)
def Z1 {k:Int}(h : -9223372036854775808<=k)(h':k<9223372036854775808):(Lit.int .i64 k).wf=true:=by
 simp[Lit.wf,IntKind.min,IntKind.max,IntKind.bits,IntKind.signed];omega
def Xi {v:V}{n:Int}{x:V}(h:XN v n=some x):(n,x)∈v.slots/\QK v n=x:=by
 unfold XN at h;cases hf:v.slots.find? (λs=>s.1==n)with
 |none=>rw[hf]at h;cases h
 |some s=>
  rw[hf]at h;cases h;have h1:=Qpc hf;have h2:s.1=n:=ù
  refine⟨?_,by unfold QK XN;rw[hf];rfl⟩;rw[<-h2];exact h1
def ZL {v:V}{n:Int}(h:¬(XN v n).isSome=true):QK v n=QC 0 0 []:=by
 unfold QK;cases hf:XN v n with
 |none=>rfl
 |some x=>rw[hf]at h;simp at h
def HK (p:Int×V->Bool):∀l:List (Int×V),Xk (l.filter p)<=Xk l
 | []=>Qm8 _
 |(n,x) :: l=>by
  have:=HK p l;rw[QoQ];split<;>simp only[Xk]<;>omega
def CF {p:Int×V->Bool}{s:Int×V}(hp:p s=false):∀ {l:List (Int×V)},s∈l->Xk (l.filter p)+s.2.cnt<=Xk l
 |(n,x) :: l,h=>by
  have hf:=HK p l;rcases Qoz.1 h with rfl|h
  ·rw[QoQ,hp];simp only[Qnu,if_false,Xk];omega
  ·have ih:=CF hp h;rw[QoQ];split<;>simp only[Xk]<;>omega
def CG (g:PG)(o:PO)(x:V):Xg g o (o.num,x)=true:=by unfold Xg;simp
def Wi (g:PG)(v:V)(o:PO)(x:V):(X6 g v o x).cnt<=v.cnt+x.cnt:=by
 have:=HK (λs=>!Xg g o s) v.slots;rw[Q8 v,Q8 (X6 g v o x)];show 1+v.raws.length+0+0+Xk (v.slots.filter (λs=>!Xg g o s)++[(o.num,x)])<=_;rw[Bu];simp only[Xk];omega
def Hu (g:PG)(v:V)(o:PO)(x:V){y:V}(h:XN v o.num=some y):(X6 g v o x).cnt+y.cnt<=v.cnt+x.cnt:=by
 have:=CF (p:=λs=>!Xg g o s) (s:=(o.num,y)) (by rw[CG];rfl) (Xi h).1;rw[Q8 v,Q8 (X6 g v o x)];show 1+v.raws.length+0+0+Xk (v.slots.filter (λs=>!Xg g o s)++[(o.num,x)])+_<=_;rw[Bu];simp only[Xk];dsimp only at this;omega
def H9 (v:V)(f:R):(Uc v f).cnt=v.cnt+1:=by
 rw[Q8 v,Q8 (Uc v f)];show 1+(v.raws++[f]).length+Q9 v.list+Xo v.pairs+Xk v.slots=_;rw[QnP];exact D_
def WW (l:List V):(Xa l).cnt=1+Q9 l:=by unfold Xa;rw[Q8];show 1+0+Q9 l+0+0=_;omega
def Rn (l:List (V×V)):(Jp l).cnt=1+Xo l:=by unfold Jp;rw[Q8];show 1+0+0+Xo l+0=_;omega
def Uu (l:List V)(x:V):Q9 (l++[x])=Q9 l+x.cnt:=by
 induction l with
 |nil=>simp[Q9]
 |cons y l ih=>simp only[Qnx,Q9,ih];omega
def A7 (l:List (V×V))(x:V×V):Xo (l++[x])=Xo l+x.1.cnt+x.2.cnt:=by
 induction l with
 |nil=>obtain⟨a,b⟩:=x;simp[Xo]
 |cons y l ih=>obtain⟨a,b⟩:=y;simp only[Qnx,Xo,ih];omega
def F7 (p:V×V->Bool):∀l:List (V×V),Xo (l.filter p)<=Xo l
 | []=>Qm8 _
 |(a,b) :: l=>by
  have:=F7 p l;rw[QoQ];split<;>simp only[Xo]<;>omega
def Qbh (k:Int)(l:List (V×V))(x:V×V):Xo (Zx k l x)<=Xo l+x.1.cnt+x.2.cnt:=by
 unfold Zx;have hp:(QY k ((l.filter λq=>!XJ q.1 x.1)++[x])).Perm _:=QN _;rw[Cu hp,A7];have:=F7 (λq=>!XJ q.1 x.1) l;omega
def Ro {k:Int}{l:List (V×V)}{x p:V×V}(h:p∈Zx k l x):(p∈l/\XJ p.1 x.1=false)\/p=x:=by
 have hp:(Zx k l x).Perm _:=QN _;have h:=hp.mem_iff.1 h;rw[Qow,QoL]at h;rcases h with⟨h1,h2⟩|h
 ·exact .inl ⟨h1,ϭ⟩
 ·exact .inr ϡ
def U0 (a b:V):XJ a b=XJ b a:=by
 unfold XJ;rw[Qpw (a:=a.bits),Qpw (a:=a.text)]
def Tc {k:Int}{l:List (V×V)}{x:V×V}(h:l.Pairwise λq p=>XJ q.1 p.1=false):(Zx k l x).Pairwise λq p=>XJ q.1 p.1=false:=by
 have hp:(Zx k l x).Perm _:=QN _;refine(hp.pairwise_iff λ{a b} h=>by rw[U0];exact h).2 ?_;rw[QoO];refine⟨h.filter _,Qpq _ _,?_⟩;intro a ha b hb;rw[Qpp]at hb;subst hb
 simpa using (QoL.1 ha).2
def Qbi (k:Int)(l:List (V×V))(x:V×V):(Zx k l x).length<=l.length+1:=by
 have hp:(Zx k l x).Perm _:=QN _;rw[hp.length_eq,QnP];have:=List.length_filter_le (λq=>!XJ q.1 x.1) l;exact D_
section
variable {M:Nat}
def UB {l:List V}(h:∀x∈l,x.ok M)(hn:l.length<=1099511627776):(Xa l).ok M :=
 .mk rfl rfl (Qnk _) hn (Qnk _) (Qnk _) (Qnk _) h (λ_ hx=>nomatch hx) (λ_ hx=>nomatch hx) (λ_ hx=>nomatch hx) (λ_ hx=>nomatch hx) (λ_ hx=>nomatch hx)
def Qep {l:List (V×V)}(h:∀x∈l,x.1.ok M/\x.2.ok M)(hn:l.length<=549755813888):(Jp l).ok M :=
 .mk rfl rfl (Qnk _) (Qnk _) hn (Qnk _) (Qnk _) (λ_ hx=>nomatch hx) (λx hx=>(h x hx).1) (λx hx=>(h x hx).2) (λ_ hx=>nomatch hx) (λ_ hx=>nomatch hx) (λ_ hx=>nomatch hx)
def KS {g:PG}{v x:V}{o:PO}(hv:v.ok M)(ho:(Lit.int .i64 o.num).wf=true)(hx:x.ok M)(hn:v.slots.length+1<=1099511627776):(X6 g v o x).ok M:=by
 have hl:=List.length_filter_le (λs=>!Xg g o s) v.slots;have key:∀s∈v.slots.filter (λs=>!Xg g o s)++[(o.num,x)],(Lit.int .i64 s.1).wf=true/\s.2.ok M:=by
  intro s hs;rcases Qow.1 hs with hs|hs
  ·have:=(QoL.1 hs).1;exact⟨hv.nums s this,hv.slots s this⟩
  ·rw[Qpp]at hs;subst hs;exact⟨ho,hx⟩
 refine .mk rfl rfl (Qnk _) (Qnk _) (Qnk _) ?_ hv.nr (λ_ hx=>nomatch hx) (λ_ hx=>nomatch hx) (λ_ hx=>nomatch hx) (λs hs=>(key s hs).1) (λs hs=>(key s hs).2) hv.raws;show(v.slots.filter (λs=>!Xg g o s)++[(o.num,x)]).length<=_;rw[QnP];exact D_
def D2 {v:V}{f:R}(hv:v.ok M)(hf:f.ok M)(hn:v.raws.length+1<=70368744177664):(Uc v f).ok M:=by
 refine .mk hv.kd hv.bits hv.text hv.nl hv.np hv.ns ?_ hv.list hv.keys hv.vals hv.nums hv.slots ?_
 ·show(v.raws++[f]).length<=_;rw[QnP];exact hn
 ·intro x hx;rcases Qow.1 hx with hx|hx
  ·exact hv.raws x hx
  ·rw[Qpp]at hx;subst hx;exact hf
def D3 {v:V}{n:Int}(hv:v.ok M):(QK v n).ok M:=by
 unfold QK;cases h:XN v n with
 |none=>exact XG rfl ϊ (Qnk _)
 |some x=>exact hv.slots _ (Xi h).1
end
def D4 {P:PL}{g:PG}{v:V}{f:R}:∀ {n:Nat},MW P n g v->MW P n g (Uc v f)
 |_+1,h=>h
def KT {P:PL}{g:PG}{v x:V}{o:PO}{n:Nat}(h:MW P (n+1) g v)(ho:Xd g o.num=some o)(hx:FW (MW P n) P o x):MW P (n+1) g (X6 g v o x):=by
 obtain⟨s1,s2⟩:=h;refine⟨?_,?_⟩
 ·intro s hs;rcases Qow.1 hs with hs|hs
  ·exact s1 s (QoL.1 hs).1
  ·rw[Qpp]at hs;subst hs;exact⟨o,ho,hx⟩
 ·show(v.slots.filter (λs=>!Xg g o s)++[(o.num,x)]).Pairwise _;rw[QoO];refine⟨s2.filter _,Qpq _ _,?_⟩;intro a ha b hb;rw[Qpp]at hb;subst hb;have h1:=(QoL.1 ha).2;unfold Xg at h1;simp only[Bool.not_or,Qnz,Qn9]at h1;exact h1.1
def U1 {P:PL}{g:PG}{v x:V}{o:PO}{n:Nat}(h:MW P (n+1) g v)(ho:Xd g o.num=some o)(hx:XN v o.num=some x):FW (MW P n) P o x:=by
 obtain⟨o',h1,h2⟩:=h.1 _ (Xi hx).1;rw[show((o.num,x):Int×V).1=o.num from rfl,ho]at h1;cases h1;exact h2
def Xq {P:PL}{g:PG}{k:Int}{n:Nat}(hn:1<=n):MW P n g (QC k 0 []):=by
 obtain⟨m,rfl⟩:∃m,n=m+1:=⟨n-1,ψ⟩;exact⟨λ_ hs=>(nomatch hs),.nil⟩
def Rp {P:PL}{k:Int}{b:Nat}{t:List UInt8}(h1:Zz k=true->b=0)(h2:Zz k=false->t=[]):(QC k b t).kx P k :=
 ⟨rfl,by rw[Fw];rfl,λh=>by show(b:Int)=0;rw[h1 h];rfl,h2⟩
def LC {M:Nat}{P:PL}{k t:Int}{f:R}(hM:65536<=M)(hb:f.bits<18446744073709551616)(hd:f.data.length<=65536)(h:(XP P k t f).2=0):(XP P k t f).1.ok M/\(XP P k t f).1.cnt=1/\k≠10/\(XS k->(XP P k t f).1.kx P k):=by
 unfold XP at h |-;split at h
 ·rename_i hk;have fv:1<=k/\k<=9:=by
   unfold isk at hk
   simpa using hk
  have uq:(Lit.int .i64 k).wf=true:=Z1 ψ ψ;rw[Qnj hk];split at h
  ·rename_i hw;rw[Qnj hw];split at h
   ·rename_i h3;rw[Qnj h3];split at h
    ·cases h
    ·rename_i h7;rw[Qni h7];refine⟨XG uq ϊ ψ,Q5 _ _ _,ψ,λdF=>Rp (λ_=>rfl) λht=>?_⟩;exfalso;rw[hw]at h3;unfold wk at h3;unfold Zz at ht;simp only[Qn4,Qo2]at ht;unfold XS at dF;split at h3
     ·omega
     ·split at h3
      ·omega
      ·split at h3
       ·omega
       ·split at h3<;>omega
   ·rename_i h3;rw[Qni h3];split at h
    ·rename_i cq;rw[Qnj cq];split at h
     ·cases h
     ·rename_i h9;rw[Qni h9];have xm:X4 f.wire f.bits<18446744073709551616:=by
       unfold X4;split
       ·rw[Jl];omega
       ·exact hb
      have yH:Xw k (X4 f.wire f.bits)<18446744073709551616:=by
       unfold Xw;split
       ·decide
       ·exact xm
      refine⟨XG uq yH (Qnk _),Q5 _ _ _,ψ,λdF=>Rp (λht=>?_) λ_=>rfl⟩;exfalso;unfold XS at dF;unfold Zz at ht;simp only[Qne,Qng]at ht;have e7:k=7:=ψ
      rw[hw,e7]at h3;exact h3 ϊ
    ·cases h
  ·cases h
 ·cases h
def Jq (P:PL)(M K n:Nat)(rec:Int->V->C->Rd V):Prop :=
 ∀(t:Int) (v:V) (c:C),CI c->c.left<n->(0<=t/\t<(P.progs.length:Int))->MW P n (Qe P t) v->v.ok M->(v.cnt:Int)+3*c.left<=K->
  ∀w d,rec t v c=.ok (w,d)->Af c d/\MW P n (Qe P t) w/\w.ok M/\(w.cnt:Int)+3*d.left<=v.cnt+3*c.left
structure OpK (P:PL)(g:PG)(o:PO):Prop where
 self:Xd g o.num=some o
 wf:(Lit.int .i64 o.num).wf=true
 uo:UO P o
section
variable {P:PL}{M K n:Nat}(hM:65536<=M)(hK:K<=1000000){g:PG}{o:PO}(ho:OpK P g o)
include hM hK ho in
theorem VU {v w:V}{c d:C}(hc:CI c)(hv:MW P (n+1) g v)(hk:v.ok M)(hb:(v.cnt:Int)+3*c.left<=K)(h5:o.card≠5)(h:ZY P g v o c=.ok (w,d)) :
  As c d/\MW P (n+1) g w/\w.ok M/\(w.cnt:Int)+3*d.left<=v.cnt+3*c.left:=by
 have ls:=Zg v;have lr:=KI v;have gE:=hc.bd;unfold ZY at h;split at h
 ·cases h
 rename_i c1 h1;obtain⟨a1,_⟩:=Xm hc ψ h1;have ao:=a1.ci hc;split at h
 ·cases h
 rename_i f d1 h2;obtain⟨b1,b2,b3,b4⟩:=Yq ao h2;have hs:=a1.strict b1 hc;have eI:=hs.ci hc;have hl:=hs.lt hc;split at h
 ·cases h;have hr:(⟨o.num,0,f.bits,[]⟩:R).ok M:=⟨ho.wf,rfl,ϧ,Qnk _⟩;exact⟨hs,D4 hv,D2 hk hr ψ,by rw[H9];omega⟩
 split at h
 ·rename_i h0;obtain⟨s1,s2,s3,_⟩:=LC (P:=P) (t:=o.target) hM b3 b4 h0;have ul:∀y,EW (MW P n) P o y:=λy e=>absurd e s3
  generalize (XP P o.kind o.target f).1=x at h s1 s2;split at h
  ·rename_i h4;have fL:FW (MW P n) P o (Xa ((QK v o.num).list++[x])):=by
    unfold FW;rw[Qnj h4];exactλy _=>ul y
   have fI:=D3 (n:=o.num) hk;have oo:=JH (QK v o.num);split at h
   ·rename_i hf;cases h;obtain⟨y,hy⟩:=QnD.1 hf;obtain⟨hm,he⟩:=Xi hy;have xM:=JG hm;dsimp only at xM;have e1:=Hu g v o (Xa ((QK v o.num).list++[x])) hy;rw[WW,Uu,s2]at e1;have e2:Q9 (QK v o.num).list+1<=y.cnt:=by rw[he,Q8 y];omega
    rw[he]at oo;refine⟨hs,KT hv ho.self fL,KS hk ho.wf (UB ?_ ?_) ψ,ψ⟩
    ·intro z hz;rcases Qow.1 hz with hz|hz
     ·exact fI.list z hz
     ·rw[Qpp]at hz;subst hz;exact s1
    ·rw[QnP,he];exact D_
   ·rename_i hf;split at h
    ·cases h
    rename_i d2 h6;cases h;obtain⟨c2,_⟩:=Xm eI ψ h6;have dO:=(c2.left eI).2.2;rw[ZL hf];rw[ZL hf]at fL;have e1:=Wi g v o (Xa ((QC 0 0 []).list++[x]));rw[WW,Uu,s2]at e1;have e0:Q9 (QC 0 0 []).list=0:=rfl;refine⟨hs.trans c2 hc,KT hv ho.self fL,KS hk ho.wf (UB ?_ (show 1<=1099511627776 by decide)) ψ,ψ⟩;intro z hz;rcases Qow.1 hz with hz|hz
    ·cases hz
    ·rw[Qpp]at hz;subst hz;exact s1
  ·rename_i h4;cases h;have fL:FW (MW P n) P o x:=by
    unfold FW;rw[Qni h4,Qni h5];exact ul x
   have e1:=Wi g v o x;rw[s2]at e1;exact⟨hs,KT hv ho.self fL,KS hk ho.wf s1 ψ,ψ⟩
 ·cases h
include hM hK ho in
theorem Rq (h5:o.card≠5):∀(k:Nat) {v w:V} {c d:C},CI c->MW P (n+1) g v->v.ok M->(v.cnt:Int)+3*c.left<=K->ZS P g o k v c=.ok (w,d)->
  Af c d/\MW P (n+1) g w/\w.ok M/\(w.cnt:Int)+3*d.left<=v.cnt+3*c.left
 |0,v,w,c,d,hc,hv,hk,hb,h=>by
  exact Oy
 |k+1,v,w,c,d,hc,hv,hk,hb,h=>by
  rw[ZS]at h;split at h
  ·split at h
   ·cases h
   rename_i v1 c1 h1;obtain⟨a1,a2,a3,a4⟩:=VU hM hK ho hc hv hk hb h5 h1;obtain⟨b1,b2,b3,b4⟩:=Rq h5 k (a1.ci hc) a2 a3 ψ h;exact⟨a1.1.trans b1 hc,b2,b3,ψ⟩
  ·exact Oy
include hM hK ho in
theorem Hv {v w:V}{c d e:C}{q:Nat}(hc:CI c)(hq:(q:Int)<=c.left)(hd:Af (part c q) d)(hv:MW P (n+1) g v)(hk:v.ok M)(hb:(v.cnt:Int)+3*d.left<=K)(h5:o.card≠5)(h:ZJ P g v o c d=.ok (w,e)) :
  Af c e/\e.left=c.left-q/\MW P (n+1) g w/\w.ok M/\(w.cnt:Int)<=v.cnt+3*d.left:=by
 unfold ZJ at h;split at h
 ·cases h
 rename_i v1 j h1;cases h;have hp:=ZZ hc hq;obtain⟨a1,a2,a3,a4⟩:=Rq hM hK ho h5 _ (hd.ci hp.2.1) hv hk hb h1;obtain⟨b1,b2⟩:=Hs hc hq (hd.trans a1 hp.2.1);have:=((a1.ci (hd.ci hp.2.1))).bd;exact⟨b1,b2,a2,a3,ψ⟩
include hM hK ho in
theorem Qbj {v w:V}{c d:C}(hc:CI c)(hv:MW P (n+1) g v)(hk:v.ok M)(hb:(v.cnt:Int)+3*c.left<=K)(hp:pk o.card o.kind=true)(h:JV P g v o c=.ok (w,d)) :
  As c d/\MW P (n+1) g w/\w.ok M/\(w.cnt:Int)+3*d.left<=v.cnt+3*c.left:=by
 have ls:=Zg v;have gE:=hc.bd;have h4:o.card=4:=by
  unfold pk at hp;simp only[Qnz,Qng]at hp;exact hp.1
 have fe:o.kind≠10:=by
  exact OH
 unfold JV at h;split at h
 ·cases h
 rename_i q c1 h1;obtain⟨a1,a2⟩:=Ji hc h1;have ao:=a1.ci hc;obtain⟨_,p2,p3⟩:=ZZ ao a2;have aQ:=a1.lt hc;have ft:=ao.bd;split at h
 ·rename_i hy;obtain⟨y1,_⟩:=HX p2 hy;have vw:=y1.lt p2;split at h
  ·split at h
   ·obtain⟨b1,b2,b3,b4,b5⟩:=Hv hM hK ho ao a2 y1.1 hv hk ψ ψ h;exact⟨a1.trans b1 hc,b3,b4,ψ⟩
   ·split at h
    ·cases h
    rename_i i h2;obtain⟨s1,_⟩:=Xm (y1.ci p2) ψ h2;have fS:=(s1.left (y1.ci p2)).2.2;have fL:FW (MW P n) P o (Xa []):=by
     unfold FW;rw[Qnj h4];exactλy hy=>(nomatch hy)
    have e1:=Wi g v o (Xa []);rw[WW]at e1;simp only[Q9]at e1;obtain⟨b1,b2,b3,b4,b5⟩:=Hv hM hK ho ao a2 (y1.1.trans s1 p2) (KT hv ho.self fL) (KS hk ho.wf (UB (λy hy=>(nomatch hy)) (Qnk _)) ψ) ψ ψ h;exact⟨a1.trans b1 hc,b3,b4,ψ⟩
  ·cases h
 ·cases h
variable {rec:Int->V->C->Rd V}(ab:Jq P M K n rec)
include ab in
theorem Ve {t:Int}(ht:0<=t/\t<(P.progs.length:Int)){b w:V}{k:Int}(iQ:0<=k){c d:C}(hc:CI c)(aA:c.left<=n)(hv:1<=n->MW P n (Qe P t) b)(hk:b.ok M)(hb:(b.cnt:Int)+3*c.left<=K)(h:KN rec t b k c=.ok (w,d)) :
  As c d/\MW P n (Qe P t) w/\w.ok M/\(w.cnt:Int)+3*d.left+3<=b.cnt+3*c.left:=by
 unfold KN at h;split at h
 ·cases h
 rename_i q c1 h1;obtain⟨a1,a2⟩:=Ji hc h1;have ao:=a1.ci hc;have aQ:=a1.lt hc;have ft:=ao.bd;split at h
 ·rename_i he;obtain⟨e1,e2,e3⟩:=YM ao a2 he;split at h
  ·cases h
  rename_i i h2;obtain⟨s1,s2⟩:=Xm e2 iQ h2;have fS:=(s1.left e2).2.2;split at h
  ·cases h
  rename_i x j h3;cases h;have hi:=s1.ci e2;have oZ:=hi.bd;obtain⟨r1,r2,r3,r4⟩:=ab t b i hi ψ ht (hv ψ) hk ψ _ _ h3;have oL:i.e=c1.a+q/\i.nd<=c1.nd:=by
   obtain⟨_,f2,_⟩:=s1.eqs;have f3:=s1.nd;rw[e1]at f2 f3;exact⟨f2,f3.2⟩
  obtain⟨l1,l2⟩:=Bx ao a2 oL r1;have qG:=(r1.ci hi).bd;exact⟨a1.trans l1 hc,r2,r3,ψ⟩
 ·cases h
include hK ho ab in
theorem Qbk {v w:V}{c d:C}(hc:CI c)(aA:c.left<=n)(hv:MW P (n+1) g v)(hk:v.ok M)(hb:(v.cnt:Int)+3*c.left<=K)(h5:o.card≠5)(am:o.kind=10)(h:JL rec g v o c=.ok (w,d))(gW:(1:Int)+3*c.left<=K) :
  As c d/\MW P (n+1) g w/\w.ok M/\(w.cnt:Int)+3*d.left<=v.cnt+3*c.left:=by
 have ls:=Zg v;have gE:=hc.bd;have ht:=ho.uo.tgt am;have iO:(QC 10 0 []:V).ok M:=XG rfl ϊ (Qnk _);have fI:=D3 (n:=o.num) hk;have oo:=JH (QK v o.num);unfold JL at h;split at h
 ·rename_i h4;split at h
  ·cases h
  rename_i x c1 h1;cases h;obtain⟨r1,r2,r3,r4⟩:=Ve ab ht Ü hc aA (λhn=>Xq hn) iO ϫ h1;rw[Q5]at r4;have uy:=r1.lt hc;have ft:=(r1.ci hc).bd;have fL:FW (MW P n) P o (Xa ((QK v o.num).list++[x])):=by
   unfold FW;rw[Qnj h4];intro y hy;rcases Qow.1 hy with hy|hy
   ·cases hf:XN v o.num with
    |none=>
     rw[ZL Ñ]at hy;cases hy
    |some z=>
     have h1:=U1 hv ho.self hf;unfold FW at h1;rw[Qnj h4]at h1;rw[(Xi hf).2]at hy;exact h1 y hy
   ·rw[Qpp]at hy;subst hy;exactλ_=>r2
  have tv:(Xa ((QK v o.num).list++[x])).ok M:=by
   refine UB ?_ ?_
   ·intro z hz;rcases Qow.1 hz with hz|hz
    ·exact fI.list z hz
    ·rw[Qpp]at hz;subst hz;exact r3
   ·have:=fI.nl;rw[QnP];have lY:(QK v o.num).cnt<=v.cnt+1:=by
     cases hf:XN v o.num with
     |none=>rw[ZL Ñ,Q5];omega
     |some z=>
      have:=JG (Xi hf).1;rw[(Xi hf).2];dsimp only at this;omega
    exact D_
  refine⟨r1,KT hv ho.self fL,KS hk ho.wf tv ψ,?_⟩;cases hf:XN v o.num with
  |none=>
   have e1:=Wi g v o (Xa ((QK v o.num).list++[x]));rw[WW,Uu]at e1;have e0:Q9 (QK v o.num).list=0:=é
   omega
  |some z=>
   have e1:=Hu g v o (Xa ((QK v o.num).list++[x])) hf;rw[WW,Uu]at e1;have e2:Q9 (QK v o.num).list+1<=z.cnt:=by rw[(Xi hf).2,Q8 z];omega
   omega
 ·rename_i h4;split at h
  ·cases h
  rename_i x c1 h1;cases h;cases hf:XN v o.num with
  |none=>
   rw[hf,Qni ό]at h1;obtain⟨r1,r2,r3,r4⟩:=Ve ab ht ψ hc aA (λhn=>Xq hn) iO ϫ h1;rw[Q5]at r4;have fL:FW (MW P n) P o x:=by
    unfold FW;rw[Qni h4,Qni h5];exactλ_=>r2
   have e1:=Wi g v o x;exact χ
  |some z=>
   rw[hf,Qnj (show(some z).isSome=true from rfl),(Xi hf).2]at h1;have hz:=JG (Xi hf).1;dsimp only at hz;have h2:=U1 hv ho.self hf;unfold FW at h2;rw[Qni h4,Qni h5]at h2;obtain⟨r1,r2,r3,r4⟩:=Ve ab ht ψ hc aA (λ_=>h2 am) (hk.slots _ (Xi hf).1) ψ h1;have fL:FW (MW P n) P o x:=by
    unfold FW;rw[Qni h4,Qni h5];exactλ_=>r2
   have e1:=Hu g v o x hf;exact χ
include hM ab in
theorem WX {k t wr:Int}(ht:k=10->0<=t/\t<(P.progs.length:Int)){y:V}{c d:C}(hc:CI c)(aA:c.left<=n)(hb:(1:Int)+3*c.left<=K)(h:Jf P rec k t wr c=.ok (y,d)) :
  As c d/\y.ok M/\(y.cnt:Int)+3*d.left+2<=3*c.left/\(k=10->MW P n (Qe P t) y)/\(XS k->y.kx P k):=by
 unfold Jf at h;split at h
 ·split at h
  ·rename_i hk;obtain⟨r1,r2,r3,r4⟩:=Ve ab (ht hk) (QoC 0) hc aA (λhn=>Xq hn) (XG rfl ϊ (Qnk _)) ϫ h;rw[Q5]at r4;exact⟨r1,r3,ψ,λ_=>r2,λhy=>by unfold XS at hy;omega⟩
  ·rename_i hk;split at h
   ·cases h
   rename_i f c1 h1;obtain⟨b1,b2,b3,b4⟩:=Yq hc h1;have hl:=b1.lt hc;split at h
   ·rename_i h0;cases h;obtain⟨s1,s2,s3,s4⟩:=LC (P:=P) (t:=t) hM b3 b4 h0;exact⟨b1,s1,ψ,λe=>absurd e hk,s4⟩
   ·cases h
 ·cases h
structure XI (P:PL)(M n:Nat)(o:PO)(x:V×V):Prop where
 ky:x.1.ok M
 vl:x.2.ok M
 one:x.1.kx P o.key
 ew:1<=n->EW (MW P n) P o x.2
include hM ho ab in
theorem UC (h5:o.card=5):∀(k:Nat) {x y:V×V} {a b:Bool} {c d:C},CI c->c.left<=n->(1:Int)+3*c.left<=K->XI P M n o x->JF P rec o k x a b c=.ok (y,d)->
  Af c d/\XI P M n o y/\(y.1.cnt:Int)+y.2.cnt+3*d.left<=x.1.cnt+x.2.cnt+3*c.left
 |0,x,y,a,b,c,d,hc,aA,hb,hx,h=>by
  cases h;exact⟨Af.refl hc,hx,QoC _⟩
 |k+1,x,y,a,b,c,d,hc,aA,hb,hx,h=>by
  have dF:=ho.uo.key h5;have fe:o.key≠10:=by unfold XS at dF;omega
  rw[JF]at h;split at h
  ·split at h
   ·rename_i kZ;obtain⟨t1,_⟩:=WG hc kZ;have hl:=t1.lt hc;have d9:=t1.ci hc;split at h
    ·split at h
     ·cases h
     split at h
     ·cases h
     rename_i z c1 h1;obtain⟨r1,r2,r3,r4,r5⟩:=WX hM ab (λe=>absurd e fe) d9 ψ ψ h1;have aQ:=r1.lt d9;obtain⟨q1,q2,q3⟩:=UC h5 k (x:=(z,x.2)) (r1.ci d9) ψ ψ ⟨r2,hx.vl,r5 dF,hx.ew⟩ h;have:=Xt x.1;exact γ
    ·split at h
     ·split at h
      ·cases h
      split at h
      ·cases h
      rename_i z c1 h1;obtain⟨r1,r2,r3,r4,r5⟩:=WX hM ab ho.uo.tgt d9 ψ ψ h1;have aQ:=r1.lt d9;obtain⟨q1,q2,q3⟩:=UC h5 k (x:=(x.1,z)) (r1.ci d9) ψ ψ ⟨hx.ky,r2,hx.one,λ_ e=>r4 e⟩ h;have:=Xt x.2;exact γ
     ·cases h
   ·cases h
  ·cases h;exact⟨Af.refl hc,hx,QoC _⟩
theorem GT {k:Int}(_hk:XS k):(QC k 0 []).kx P k:=Rp (λ_=>rfl) λ_=>rfl
include hM hK ho ab in
theorem LD (h5:o.card=5)(bf:(Lit.int .i64 o.kind).wf=true){v w:V}{c d:C}(hc:CI c)(aA:c.left<=n)(hv:MW P (n+1) g v)(hk:v.ok M)(hb:(v.cnt:Int)+3*c.left+3<=K)(h:Z8 P rec g v o c=.ok (w,d)) :
  As c d/\MW P (n+1) g w/\w.ok M/\(w.cnt:Int)+3*d.left<=v.cnt+3*c.left:=by
 have ls:=Zg v;have gE:=hc.bd;have dF:=ho.uo.key h5;unfold Z8 at h;split at h
 ·cases h
 rename_i q c1 h1;obtain⟨a1,a2⟩:=Ji hc h1;have ao:=a1.ci hc;have aQ:=a1.lt hc;have ft:=ao.bd;obtain⟨_,p2,p3⟩:=ZZ ao a2;split at h
 ·cases h
 rename_i i h2;obtain⟨s1,_⟩:=Xm p2 Ü h2;have fS:=(s1.left p2).2.2;split at h
 ·cases h
 rename_i x j h3;cases h;have hcv:=Xt v;have ip:XI P M n o (QC o.key 0 [],QC o.kind 0 []):=by
  exact zy
 obtain⟨r1,r2,r3⟩:=UC hM ho ab h5 _ (s1.ci p2) ψ ψ ip h3;rw[Q5,Q5]at r3;obtain⟨b1,b2⟩:=Hs ao a2 (s1.trans r1 p2);have qG:=(r1.ci (s1.ci p2)).bd;have fI:=D3 (n:=o.num) hk;have oP:1<=n:=ψ
 -- the entries
 have lW:(∀p∈(QK v o.num).pairs,p.1.kx P o.key/\EW (MW P n) P o p.2)/\(QK v o.num).pairs.Pairwise λq p=>XJ q.1 p.1=false:=by
  cases hf:XN v o.num with
  |none=>
   rw[ZL Ñ];exact⟨λp hp=>(nomatch hp),.nil⟩
  |some z=>
   have h4:=U1 hv ho.self hf;unfold FW at h4;rw[Qni ψ,Qnj h5]at h4;rw[(Xi hf).2];exact h4
 have lY:(QK v o.num).cnt<=v.cnt+1:=by
  cases hf:XN v o.num with
  |none=>rw[ZL Ñ,Q5];omega
  |some z=>
   have:=JG (Xi hf).1;rw[(Xi hf).2];dsimp only at this;omega
 have fL:FW (MW P n) P o (Jp (Zx o.key (QK v o.num).pairs x)):=by
  unfold FW;rw[Qni ψ,Qnj h5];refine⟨λp hp=>?_,Tc lW.2⟩;rcases Ro hp with⟨hp,_⟩|rfl
  ·exact lW.1 p hp
  ·exact⟨r2.one,r2.ew oP⟩
 have xQ:(Jp (Zx o.key (QK v o.num).pairs x)).ok M:=by
  refine Qep (λp hp=>?_) ?_
  ·rcases Ro hp with⟨hp,_⟩|rfl
   ·exact⟨fI.keys p hp,fI.vals p hp⟩
   ·exact⟨r2.ky,r2.vl⟩
  ·have h1:=Qbi o.key (QK v o.num).pairs x;have h2:=Kx (QK v o.num);omega
 refine⟨a1.trans b1 hc,KT hv ho.self fL,KS hk ho.wf xQ ψ,?_⟩;have iB:=Qbh o.key (QK v o.num).pairs x;cases hf:XN v o.num with
 |none=>
  have e1:=Wi g v o (Jp (Zx o.key (QK v o.num).pairs x));rw[Rn]at e1;have e0:Xo (QK v o.num).pairs=0:=é
  omega
 |some z=>
  have e1:=Hu g v o (Jp (Zx o.key (QK v o.num).pairs x)) hf;rw[Rn]at e1;have e2:Xo (QK v o.num).pairs+1<=z.cnt:=by rw[(Xi hf).2,Q8 z];omega
  omega
include hM hK ho ab in
theorem Hw (bf:(Lit.int .i64 o.kind).wf=true){v w:V}{c d:C}{wr:Int}(hc:CI c)(aA:c.left<=n)(hv:MW P (n+1) g v)(hk:v.ok M)(hb:(v.cnt:Int)+3*c.left+3<=K)(h:XV P rec g v o wr c=.ok (w,d)) :
  As c d/\MW P (n+1) g w/\w.ok M/\(w.cnt:Int)+3*d.left<=v.cnt+3*c.left:=by
 have hcv:=Xt v;unfold XV at h;split at h
 ·rename_i h5;split at h
  ·exact LD hM hK ho ab h5 bf hc aA hv hk hb h
  ·cases h
 ·rename_i h5;split at h
  ·rename_i hp;exact Qbj hM hK ho hc hv hk ψ hp.2 h
  ·split at h
   ·split at h
    ·rename_i am;exact Qbk hK ho ab hc aA hv hk ψ h5 am h ψ
    ·exact VU hM hK ho hc hv hk ψ h5 h
   ·cases h
end
def GU {P:PL}{M:Nat}(hP:P.ok M)(hU:JD P)(hr:XR P){t n:Int}(ht:0<=t/\t<(P.progs.length:Int)){o:PO}(dC:Xd (Qe P t) n=some o):OpK P (Qe P t) o/\(Lit.int .i64 o.kind).wf=true/\o.num=n:=by
 obtain⟨cI,cH⟩:=ZX dC;have ef:Qe P t∈P.progs:=by
  exact U_
 have bz:=(hP.progs _ ef).ops o cI;exact⟨⟨XX (hr _ ef) cI,bz.num,hU _ ef o cI⟩,bz.kind,cH⟩
def BI {P:PL}{M K n:Nat}(hM:65536<=M)(hK:K<=1000000)(hP:P.ok M)(hU:JD P)(hr:XR P){rec:Int->V->C->Rd V}(ab:Jq P M K n rec){t:Int}(ht:0<=t/\t<(P.progs.length:Int)):∀(k:Nat) (v:V) (c:C),CI c->c.left<=n->MW P (n+1) (Qe P t) v->v.ok M->(v.cnt:Int)+3*c.left<=K->
  ∀w d,XY P rec t k v c=.ok (w,d)->Af c d/\MW P (n+1) (Qe P t) w/\w.ok M/\(w.cnt:Int)+3*d.left<=v.cnt+3*c.left
 |0,v,c,hc,hn,hv,hk,hb,w,d,h=>by
  exact Oy
 |k+1,v,c,hc,hn,hv,hk,hb,w,d,h=>by
  have lr:=KI v;have gE:=hc.bd;rw[XY]at h;split at h
  ·split at h
   ·rename_i kZ;obtain⟨t1,_⟩:=WG hc kZ;have hl:=t1.lt hc;split at h
    ·split at h
     ·rename_i hx;obtain⟨a1,_,a2,a3,a4,a5,a6,a7⟩:=DU hc hx;have um:=a1.lt hc;have d8:(Xu c).1.ok M:=⟨Z1 ψ ψ,Z1 ψ ψ,ϧ,ψ⟩;have ea:=H9 v (Xu c).1;obtain⟨b1,b2,b3,b4⟩:=BI hM hK hP hU hr ab ht k _ _ (a1.ci hc) ψ (D4 hv) (D2 hk d8 ψ) ψ w d h;exact⟨a1.1.trans b1 hc,b2,b3,ψ⟩
     ·cases h
    ·rename_i o dC;split at h
     ·cases h
     rename_i v1 c1 h1;obtain⟨ho,bf,_⟩:=GU hP hU hr ht dC;obtain⟨b1,b2,b3,b4⟩:=Hw hM hK ho ab bf (t1.ci hc) ψ hv hk ψ h1;have uh:=b1.lt (t1.ci hc);obtain⟨q1,q2,q3,q4⟩:=BI hM hK hP hU hr ab ht k v1 c1 (b1.ci (t1.ci hc)) ψ b2 b3 ψ w d h;exact⟨(t1.1.trans b1.1 hc).trans q1 hc,q2,q3,ψ⟩
   ·cases h
  ·exact Oy
def Wp {P:PL}{M K:Nat}(hM:65536<=M)(hK:K<=1000000)(hP:P.ok M)(hU:JD P)(hr:XR P):∀n:Nat,Jq P M K n (Wz P n)
 |0,t,v,c,hc,hn,ht,hv,hk,hb,w,d,h=>by
  have:=hc.bd;omega
 |n+1,t,v,c,hc,hn,ht,hv,hk,hb,w,d,h=>
  BI hM hK hP hU hr (Wp hM hK hP hU hr n) ht _ v c hc ψ hv hk hb w d h
def JX (g:PG)(f:R):Bool:=(Xd g f.num).isNone
def Qgx {g:PG}{o:PO}{f:R}(ho:Xd g o.num=some o)(h:f.num=o.num):JX g f=false:=by
 unfold JX;rw[h,ho];rfl
def J4 {c d:C}{n:Int}(h:Z7 c n=.ok d):d.rest=c.rest/\d.left=c.left/\d.tx=c.tx:=by
 unfold Z7 at h;split at h
 ·rename_i h0;cases h;unfold C.spend at h0 |-;split at h0
  ·cases h0
  ·rename_i h1;rw[Qni h1];split at h0
   ·cases h0
   ·rename_i h2;rw[Qni h2];exact⟨rfl,rfl,rfl⟩
 ·cases h
def JI {c:C}(hc:CT c){n:Nat}(k:Nat)(hn:n<=c.rest.length):(Jj c n k).left=c.left-n:=by
 rw[Q0,Q0,BF hc k hn,QnS];omega
def LF {c c1:C}{q:Nat}(hc:CT c){s t:List UInt8}(h:c.rest=Vp.put s.length++(s++t))(hl:Z4 c=.ok (q,c1)):q=s.length/\c1.left=c.left-(Vp.put s.length).length/\CT c1/\c1.rest=s++t:=by
 have hp:=ZU h;rw[H5 hc h]at hl;cases hl;exact⟨rfl,JI hc 0 hp,WI hc hp hc.ci.nd.1,KO hc h 0⟩
def LG {c d:C}{f x:R}(hc:CT c)(hw:f.wire<=3)(nV:0<=f.wire)(hb:f.bits<18446744073709551616){t:List UInt8}(hr:c.rest=body f++t)(h:Je f.wire c=.ok (x,d)):d.left+(body f).length=c.left:=by
 unfold body at hr |-;unfold Je at h;by_cases h3:f.wire=3
 ·have hn:Xx f.wire=false:=by rw[h3];rfl
  rw[Qnj h3]at h;rw[Qni ψ,hn,Qni ϊ]at hr |-;rw[Qnw]at hr;rw[H5 hc hr]at h;dsimp only at h;have hp:=ZU hr;have h1:=WI hc hp hc.ci.nd.1;have h2:=JI hc 0 hp;have h4:=KO hc hr 0;generalize Jj c (Vp.put f.data.length).length 0=c1 at h h1 h2 h4;split at h
  ·rename_i ht;cases h;have hl:(f.data.length:Int)<=c1.left:=by rw[Q0,h4,QnP];omega
   have fm:¬c1.tx<(f.data.length:Int):=by
    intro aa;unfold text at ht;rw[Qni ψ,Qni ψ,Qnj aa]at ht;cases ht
   obtain⟨_,_,a3⟩:=Z0 h1.ci.big h1.ci.snd f.data.length hl;unfold text;rw[Qni ψ,Qni ψ,Qni fm];show(c1.ahead (f.data.length:Int)).left+_=_;rw[Q0,a3,QnP,h4,List.drop_left' rfl];rw[Q0,h4,QnP]at h2;omega
  ·cases h
 ·rw[Qni h3]at h;by_cases h2:f.wire=2
  ·rw[Qnj h2]at h;rw[Qnj h2]at hr |-;rw[Lt hc hb hr]at h;rw[Qnj rfl]at h;cases h;have hp:=ZU hr;rw[Z6]at hp |-;have:=JI hc 0 hp;dsimp only;omega
  ·have hn:Xx f.wire=true:=by
    unfold Xx;have:f.wire=0\/f.wire=1:=ψ
    rcases this with e|e<;>rw[e]<;>rfl
   rw[Qni h2]at h;rw[Qni h2,Qnj hn]at hr |-;rw[H4 hc hb hr]at h;rw[Qnj rfl]at h;cases h;have:=JI hc 0 (ZU hr);dsimp only;omega
def GV {f:R}(h:3<=f.wire):body f=Vp.put f.data.length++f.data:=by
 unfold body;have hn:Xx f.wire=false:=by
  unfold Xx;simp only[Qn4,Qo2];omega
 rw[Qni ψ,hn,Qni ϊ]
section
variable {P:PL}{M K n:Nat}(hM:65536<=M)(hK:K<=1000000){g:PG}{o:PO}(ho:OpK P g o)
include ho in
theorem CH {v w:V}{c d:C}(h:ZY P g v o c=.ok (w,d)):w.raws.filter (JX g)=v.raws.filter (JX g):=by
 unfold ZY at h;split at h
 ·cases h
 split at h
 ·cases h
 split at h
 ·cases h;show(v.raws++[_]).filter (JX g)=_;rw[QoP,Qpt (by rw[Qgx ho.self rfl];decide),List.filter_nil,Qof]
 split at h
 ·split at h
  ·split at h
   ·cases h;rfl
   ·split at h
    ·cases h
    ·cases h;rfl
  ·cases h;rfl
 ·cases h
include ho in
theorem GW:∀(k:Nat) {v w:V} {c d:C},ZS P g o k v c=.ok (w,d)->w.raws.filter (JX g)=v.raws.filter (JX g)
 |0,v,w,c,d,h=>by cases h;rfl
 |k+1,v,w,c,d,h=>by
  rw[ZS]at h;split at h
  ·split at h
   ·cases h
   rename_i v1 c1 h1;rw[GW k h,CH ho h1]
  ·cases h;rfl
theorem Td {v w:V}{c d:C}{f:R}(hc:CT c)(hw:f.wire=wk o.kind)(h3:f.wire<=3)(h0:0<=f.wire)(hb:f.bits<18446744073709551616){t:List UInt8}(hr:c.rest=body f++t)(h:ZY P g v o c=.ok (w,d)):d.left+(body f).length=c.left:=by
 unfold ZY at h;split at h
 ·cases h
 rename_i c1 h1;obtain⟨s1,s2,s3⟩:=J4 h1;have ao:CT c1:=⟨(Xm hc.ci ψ h1).1.ci hc.ci,by rw[s3];exact hc.tx⟩;split at h
 ·cases h
 rename_i x d1 h2;rw[<-hw]at h2;have hd:=LG ao h3 h0 hb (by rw[s1];exact hr) h2;rw[s2]at hd;split at h
 ·cases h;exact hd
 split at h
 ·split at h
  ·split at h
   ·cases h;exact hd
   ·split at h
    ·cases h
    ·rename_i d2 h6;cases h;rw[(J4 h6).2.1];exact hd
  ·cases h;exact hd
 ·cases h
variable {rec:Int->V->C->Rd V}(ab:Jq P M K n rec)
include ab in
theorem D5 {t:Int}(ht:0<=t/\t<(P.progs.length:Int)){b w:V}{k:Int}(iQ:0<=k){c d:C}(hc:CI c)(aA:c.left<=n)(hv:1<=n->MW P n (Qe P t) b)(hk:b.ok M)(hb:(b.cnt:Int)+3*c.left<=K)(h:KN rec t b k c=.ok (w,d)) :
  ∃q c1,Z4 c=.ok (q,c1)/\d.left=c1.left-(q:Int):=by
 unfold KN at h;split at h
 ·cases h
 rename_i q c1 h1;obtain⟨a1,a2⟩:=Ji hc h1;have ao:=a1.ci hc;have aQ:=a1.lt hc;have ft:=ao.bd;split at h
 ·rename_i he;obtain⟨e1,e2,e3⟩:=YM ao a2 he;split at h
  ·cases h
  rename_i i h2;obtain⟨s1,s2⟩:=Xm e2 iQ h2;have fS:=(s1.left e2).2.2;split at h
  ·cases h
  rename_i x j h3;cases h;have hi:=s1.ci e2;have oZ:=hi.bd;obtain⟨r1,_⟩:=ab t b i hi ψ ht (hv ψ) hk ψ _ _ h3;have oL:i.e=c1.a+q/\i.nd<=c1.nd:=by
   obtain⟨_,f2,_⟩:=s1.eqs;have f3:=s1.nd;rw[e1]at f2 f3;exact⟨f2,f3.2⟩
  exact⟨q,c1,h1,(Bx ao a2 oL r1).2⟩
 ·cases h
include ho ab in
theorem Qbl {v w:V}{c d:C}(hc:CI c)(aA:c.left<=n)(hv:MW P (n+1) g v)(hk:v.ok M)(hb:(v.cnt:Int)+3*c.left<=K)(h5:o.card≠5)(am:o.kind=10)(h:JL rec g v o c=.ok (w,d))(gW:(1:Int)+3*c.left<=K) :
  (∃q c1,Z4 c=.ok (q,c1)/\d.left=c1.left-(q:Int))/\w.raws=v.raws:=by
 have ht:=ho.uo.tgt am;have iO:(QC 10 0 []:V).ok M:=XG rfl ϊ (Qnk _);unfold JL at h;split at h
 ·split at h
  ·cases h
  rename_i x c1 h1;cases h;exact⟨D5 ab ht Ü hc aA (λhn=>Xq hn) iO ϫ h1,rfl⟩
 ·rename_i h4;split at h
  ·cases h
  rename_i x c1 h1;cases h;refine⟨?_,rfl⟩;cases hf:XN v o.num with
  |none=>
   rw[hf,Qni ό]at h1;exact D5 ab ht ψ hc aA (λhn=>Xq hn) iO ϫ h1
  |some z=>
   rw[hf,Qnj (show(some z).isSome=true from rfl),(Xi hf).2]at h1;have hz:=JG (Xi hf).1;dsimp only at hz;have h2:=U1 hv ho.self hf;unfold FW at h2;rw[Qni h4,Qni h5]at h2;exact D5 ab ht ψ hc aA (λ_=>h2 am) (hk.slots _ (Xi hf).1) ψ h1
include hM hK ho in
theorem Rr {v w:V}{c d:C}(hc:CI c)(hv:MW P (n+1) g v)(hk:v.ok M)(hb:(v.cnt:Int)+3*c.left<=K)(hp:pk o.card o.kind=true)(h:JV P g v o c=.ok (w,d)) :
  (∃q c1,Z4 c=.ok (q,c1)/\d.left=c1.left-(q:Int))/\w.raws.filter (JX g)=v.raws.filter (JX g):=by
 have ls:=Zg v;have gE:=hc.bd;have h4:o.card=4:=by
  unfold pk at hp;simp only[Qnz,Qng]at hp;exact hp.1
 have fe:o.kind≠10:=by
  exact OH
 unfold JV at h;split at h
 ·cases h
 rename_i q c1 h1;obtain⟨a1,a2⟩:=Ji hc h1;have ao:=a1.ci hc;obtain⟨_,p2,p3⟩:=ZZ ao a2;have aQ:=a1.lt hc;have ft:=ao.bd;split at h
 ·rename_i hy;obtain⟨y1,_⟩:=HX p2 hy;have vw:=y1.lt p2;split at h
  ·split at h
   ·obtain⟨_,b2,_⟩:=Hv hM hK ho ao a2 y1.1 hv hk ψ ψ h;refine⟨⟨q,c1,h1,b2⟩,?_⟩;unfold ZJ at h;split at h
    ·cases h
    rename_i h7;cases h;exact GW ho _ h7
   ·split at h
    ·cases h
    rename_i i h2;obtain⟨s1,_⟩:=Xm (y1.ci p2) ψ h2;have fS:=(s1.left (y1.ci p2)).2.2;have fL:FW (MW P n) P o (Xa []):=by
     unfold FW;rw[Qnj h4];exactλy hy=>(nomatch hy)
    have e1:=Wi g v o (Xa []);rw[WW]at e1;simp only[Q9]at e1;obtain⟨_,b2,_⟩:=Hv hM hK ho ao a2 (y1.1.trans s1 p2) (KT hv ho.self fL) (KS hk ho.wf (UB (λy hy=>(nomatch hy)) (Qnk _)) ψ) ψ ψ h;refine⟨⟨q,c1,h1,b2⟩,?_⟩;unfold ZJ at h;split at h
    ·cases h
    rename_i h7;cases h;exact GW (v:=X6 g v o (Xa [])) ho _ h7
  ·cases h
 ·cases h
include hM ho ab in
theorem CJ (h5:o.card=5)(bf:(Lit.int .i64 o.kind).wf=true){v w:V}{c d:C}(hc:CI c)(aA:c.left<=n)(hb:(v.cnt:Int)+3*c.left+3<=K)(h:Z8 P rec g v o c=.ok (w,d)) :
  (∃q c1,Z4 c=.ok (q,c1)/\d.left=c1.left-(q:Int))/\w.raws=v.raws:=by
 have dF:=ho.uo.key h5;unfold Z8 at h;split at h
 ·cases h
 rename_i q c1 h1;obtain⟨a1,a2⟩:=Ji hc h1;have ao:=a1.ci hc;have aQ:=a1.lt hc;have ft:=ao.bd;obtain⟨_,p2,p3⟩:=ZZ ao a2;split at h
 ·cases h
 rename_i i h2;obtain⟨s1,_⟩:=Xm p2 Ü h2;have fS:=(s1.left p2).2.2;split at h
 ·cases h
 rename_i x j h3;cases h;have ip:XI P M n o (QC o.key 0 [],QC o.kind 0 []):=by
  exact zy
 obtain⟨r1,_⟩:=UC hM ho ab h5 _ (s1.ci p2) ψ ψ ip h3;exact⟨⟨q,c1,h1,(Hs ao a2 (s1.trans r1 p2)).2⟩,rfl⟩
include hM hK ho ab in
theorem LH (bf:(Lit.int .i64 o.kind).wf=true){v w:V}{c d:C}{f:R}(d9:CT c)(aA:c.left<=n)(hv:MW P (n+1) g v)(hk:v.ok M)(hb:(v.cnt:Int)+3*c.left+3<=K)(nV:0<=f.wire)(tb:f.bits<18446744073709551616){t:List UInt8}(hr:c.rest=body f++t)(h:XV P rec g v o f.wire c=.ok (w,d)) :
  d.left+(body f).length=c.left/\w.raws.filter (JX g)=v.raws.filter (JX g):=by
 have hc:=d9.ci;have hcv:=Xt v;have hlen:3<=f.wire->(∃q c1,Z4 c=.ok (q,c1)/\d.left=c1.left-(q:Int))->d.left+(body f).length=c.left:=by
  rintro h3 ⟨q,c1,h1,h2⟩;rw[GV h3]at hr |-;rw[Qnw]at hr;obtain⟨e1,e2,_⟩:=LF d9 hr h1;rw[QnP];subst e1;omega
 unfold XV at h;split at h
 ·rename_i h5;split at h
  ·rename_i hw;obtain⟨a,b⟩:=CJ hM ho ab h5 bf hc aA hb h;exact⟨hlen ψ a,by rw[b]⟩
  ·cases h
 ·rename_i h5;split at h
  ·rename_i hp;obtain⟨a,b⟩:=Rr hM hK ho hc hv hk ψ hp.2 h;exact⟨hlen ψ a,b⟩
  ·split at h
   ·rename_i hw;split at h
    ·rename_i am;obtain⟨a,b⟩:=Qbl ho ab hc aA hv hk ψ h5 am h ψ;have h4:f.wire=4:=by rw[hw,am];rfl
     exact⟨hlen ψ a,by rw[b]⟩
    ·rename_i am;have h3:f.wire<=3:=by
      rw[hw]at nV |-;unfold wk at nV |-
      repeat' split
      all_goals omega
     exact⟨Td d9 hw h3 nV tb hr h,CH ho h⟩
   ·cases h
end
def VV {f:R}(hf:Gf f):∃n w:Nat,f.num=n/\f.wire=w/\(1<=n/\n<=65535)/\w<=6/\ZP f=Vp.put (n*8+w)++body f:=by
 have hv:=hf.1;have bQ:=hv;unfold valid Jd at bQ;by_cases h:f.num<1\/65535<f.num\/f.wire<0\/6<f.wire
 ·rw[Qnj h]at bQ;cases bQ
 ·refine⟨f.num.toNat,f.wire.toNat,ψ,ψ,ψ,ψ,?_⟩;unfold ZP Jd;rw[Qnj hv,Qni h];dsimp only;rw[show(f.num*8+f.wire).toNat=f.num.toNat*8+f.wire.toNat by omega]
structure Lz (P:PL)(M K n:Nat)(g:PG)(L:List R)(k:Nat)(v:V)(c:C):Prop where
 ct:CT c
 tx:65536<=c.tx
 le:c.left<=n
 fu:c.left<=k
 mw:MW P (n+1) g v
 ok:v.ok M
 cnt:(v.cnt:Int)+3*c.left<=K
 rest:c.rest=QI L
 gf:∀f∈L,Gf f
structure Cz (n:Nat)(c:C)(s:List UInt8):Prop where
 ct:CT c
 tx:65536<=c.tx
 le:c.left<=n
 rest:c.rest=s
def GX {c d:C}(hc:CT c)(h:Af c d){s t:List UInt8}(hr:c.rest=s++t)(hl:d.left+s.length=c.left):CT d/\d.rest=t/\d.tx=c.tx:=by
 obtain⟨z1,z2,z3,z4,kk,z5,z6⟩:=h.eqs;have eI:CT d:=⟨h.ci hc.ci,by rw[z4];exact hc.tx⟩;refine⟨eI,?_,z4⟩;have hd:d=Jj c kk (c.nd-d.nd).toNat:=by
  have pE:=h.nd;obtain⟨_,_,_,_,_,_⟩:=d;simp only at z1 z2 z3 z4 z5 pE;subst z1 z2 z3 z4 z5;unfold Jj;exact O9
 have hle:kk<=c.rest.length:=by rw[Q0]at z6;omega
 have oo:=JI hc (c.nd-d.nd).toNat hle;have fv:kk=s.length:=by
  rw[<-hd]at oo;omega
 rw[hd,fv];exact KO hc hr _
section
variable {P:PL}{M K n:Nat}(hM:65536<=M)(hK:K<=1000000)(hP:P.ok M)(hU:JD P)(hr:XR P){rec:Int->V->C->Rd V}(ab:Jq P M K n rec){t:Int}(ht:0<=t/\t<(P.progs.length:Int))
include hM hK hP hU hr ab ht in
theorem W6 {f:R}{L:List R}{k:Nat}{v:V}{c:C}(z:Lz P M K n (Qe P t) (f :: L) k v c){w:V}{d:C}(h:XY P rec t k v c=.ok (w,d)) :
  ∃j v1 c1,XY P rec t j v1 c1=.ok (w,d)/\Lz P M K n (Qe P t) L j v1 c1/\((Xd (Qe P t) f.num=none/\v1=Uc v f)\/∃o cc,Xd (Qe P t) f.num=some o/\o.num=f.num/\XV P rec (Qe P t) v o f.wire cc=.ok (v1,c1)/\v1.raws.filter (JX (Qe P t))=v.raws.filter (JX (Qe P t))/\Cz n cc (body f++QI L)/\cc.left<=c.left):=by
 obtain⟨hc,fm,hn,hk,hv,bz,hb,aZ,hg⟩:=z;have hf:=hg f ό;obtain⟨tn,tw,a1,a2,a3,a4,a5⟩:=VV hf;have e:QI (f :: L)=ZP f++QI L:=by unfold QI;rw[QoH]
 rw[e]at aZ;have cZ:=aZ;rw[a5,Qnw]at cZ;have dT:=ZU aZ;have hpp:0<(ZP f).length:=by
  rw[a5,QnP];have:=(Vp.put_len (tn*8+tw)).1;omega
 have c_:0<c.left:=by rw[Q0];omega
 have gE:=hc.ci.bd;have lr:=KI v;obtain⟨j,rfl⟩:∃j,k=j+1:=⟨k-1,ψ⟩;have gQ:=Re hc a3 a4 cZ;rw[XY,Qnj c_,gQ]at h;dsimp only at h;rw[Qnj rfl,<-a1]at h;have cW:=Q0 (c:=c);rw[aZ,QnP]at cW;cases ho:Xd (Qe P t) f.num with
 |none=>
  rw[ho]at h;dsimp only at h;split at h
  ·rename_i h0;have ib:1<=c.nd:=by
    apply Classical.byContradiction
    intro aa;exact Qgq ψ h0
   have cq:Qgo f c.tx:=by
    intro aK;have cE:(body f).length<=(ZP f).length:=by rw[a5,QnP];omega
    have h3:3<=f.wire:=by
     unfold Xx at aK;simp only[Qn4,Qo2]at aK;omega
    rw[GV h3,QnP]at cE;split<;>omega
   have nG:=Qgp hf.1 hf.2.1 hf.2.2 cq (QI L);rw[<-aZ]at nG;have kg:=(Qgr hc.ci.big hc.ci.snd ib hc.ci.nd.2).1 f _ nG;have hx:=DU hc.ci h0;rw[kg]at h hx;dsimp only at h hx;obtain⟨b1,_,b2,b3,b4,b5,b6,b7⟩:=hx;have gZ:=WI (k:=1) hc dT ψ;have oz:=KO hc aZ 1;have mq:=JI hc 1 dT;have ed:({ c with a:=c.a+((ZP f).length:Nat),nd:=c.nd-1 }:C)=Jj c (ZP f).length 1:=rfl;rw[ed]at h;have d8:f.ok M:=⟨Z1 ψ ψ,Z1 ψ ψ,ϧ,ψ⟩;have ea:=H9 v f;exact⟨j,_,_,h,⟨gZ,fm,ψ,ψ,D4 hv,D2 bz d8 ψ,ψ,oz,λg nU=>hg g (by simp[nU])⟩,.inl ⟨rfl,rfl⟩⟩
  ·cases h
 |some o=>
  rw[ho]at h;dsimp only at h;rw[<-a2]at h;have ao:=WI (k:=0) hc (ZU cZ) å;have bj:=KO hc cZ 0;have aQ:=JI hc 0 (ZU cZ);have mo:65536<=(Jj c (Vp.put (tn*8+tw)).length 0).tx:=fm;have u7:0<(Vp.put (tn*8+tw)).length:=(Vp.put_len (tn*8+tw)).1;generalize Jj c (Vp.put (tn*8+tw)).length 0=c1 at h ao bj aQ mo;split at h
  ·cases h
  rename_i v1 d1 h1;obtain⟨kG,bf,_⟩:=GU hP hU hr ht ho;obtain⟨p1,p2,p3,p4⟩:=Hw hM hK kG ab bf ao.ci ψ hv bz ψ h1;obtain⟨q1,q2⟩:=LH hM hK kG ab bf ao ψ hv bz ψ ψ hf.2.1 bj h1;have uh:=p1.lt ao.ci;obtain⟨eI,sK,z4⟩:=GX ao p1.1 bj q1;exact⟨j,v1,d1,h,⟨eI,by rw[z4];exact mo,ψ,ψ,p2,p3,ψ,sK,λg nU=>hg g (by simp[nU])⟩,.inr ⟨o,c1,rfl,(ZX ho).2,h1,q2,⟨ao,mo,ψ,bj⟩,ψ⟩⟩
include hM hK hP hU hr ab ht in
theorem CL:∀(L:List R) (k:Nat) (v:V) (c:C),Lz P M K n (Qe P t) L k v c->
  ∀w d,XY P rec t k v c=.ok (w,d)->w.raws.filter (JX (Qe P t))=v.raws.filter (JX (Qe P t))++L.filter (JX (Qe P t))
 | [],k,v,c,z,w,d,h=>by
  have h0:c.left=0:=by rw[Q0,z.rest];rfl
  cases k with
  |zero=>cases h;simp
  |succ k=>
   rw[XY,Qni ψ]at h;cases h;simp
 |f :: L,k,v,c,z,w,d,h=>by
  obtain⟨j,v1,c1,h1,z1,hs⟩:=W6 hM hK hP hU hr ab ht z h;rw[CL L j v1 c1 z1 w d h1];rcases hs with⟨ho,rfl⟩|⟨o,cc,ho,_,_,hq,_⟩
  ·show(v.raws++[f]).filter _++_=_;rw[QoP,Qnw];congr 1
   simp only[QoQ,List.filter_nil];split<;>rfl
  ·rw[hq];congr 1
   rw[Qpt];unfold JX;rw[ho];simp
end
def JY:List AV:=[.int .i64 0,.int .u64 0,.str [],.nils,.nils,.nils,.nils]
def Rs (o:PO):Qi prog 283 [Qw o] (.int .i64 (wk o.kind)):=by
 have hw:=Qfs o.num o.name o.alias 2 o.key o.kind o.target o.union;have e:M3 2 o.kind=wk o.kind:=by unfold M3 pk;simp
 rw[e]at hw;simp only[oc]at hw;refine wF func283 ?_;simp only[eK,f283,seval];simp only[Qw,PO.cells,splice,QnK,Qol,QnN,QnT,Qnx,Qny,Qnq,Qn7,eE,seval];refine aC hw ?_;simp only[Qa,seval]
def LI {v:V}{n:Int}{i:Nat}{x:Int×V}(h:v.slots[i]? = some x)(hd:(v.slots.find? λs=>s.1==n)=(v.slots.drop i).find? λs=>s.1==n) :
  (x.1==n)=true/\XN v n=some x.2/\QK v n=x.2\/(x.1==n)=false/\(v.slots.find? λs=>s.1==n)=(v.slots.drop (i+1)).find? λs=>s.1==n:=by
 have aa:=(Qna.1 h).1;have hx:=(Qna.1 h).2;rw[QnU aa,Qo7,hx]at hd;cases hb:(x.1==n)
 ·rw[hb]at hd;exact .inr ⟨rfl,hd⟩
 ·rw[hb]at hd;have e:XN v n=some x.2:=by unfold XN;rw[hd];rfl
  exact .inl ⟨rfl,e,by unfold QK;rw[e];rfl⟩
def Te {v:V}{n:Int}{i:Nat}(h:¬i<v.slots.length)(hd:(v.slots.find? λs=>s.1==n)=(v.slots.drop i).find? λs=>s.1==n):XN v n=none/\QK v n=QC 0 0 []:=by
 rw[QnO ψ]at hd;have e:XN v n=none:=by unfold XN;rw[hd];rfl
 exact⟨e,by unfold QK;rw[e];rfl⟩
def FvI (v:V)(n:Int)(k:Nat)(st:St):Prop :=
 ∃f fr i,st=⟨f,[fr],[]⟩/\k=v.slots.length-i/\i<=v.slots.length/\((v.slots.find? λs=>s.1==n)=(v.slots.drop i).find? λs=>s.1==n)/\f 1=.int .i64 n/\f 4=.ptr 0 4 0/\f 9=.list (v.slots.map V.sav)/\f 10=.int .i64 (v.slots.length:Nat)/\f 11=.int .i64 (i:Nat)/\fr 4=.cells JY/\∀s∈[7],(fr s).isRow=false
def Ru (v:V)(n:Int)(hl:v.slots.length<=1099511627776):Qi prog 130 [v.av,.int .i64 n] (.tup [(QK v n).av,.bool (XN v n).isSome]):=by
 rw[Qd v];refine wF func130 ?_;simp only[eK,f130,seval];simp only[Qn6,eE,seval];refine Qj (FvI v n) _ ⟨_,_,0,rfl,rfl,Qnk _,rfl,ω,ω,ω,ω,ω,ω,ϛ⟩ ?_;rintro _ st ⟨f0,bA,i,rfl,rfl,bg,bu,am,aS,de,eV,aU,b_,r7⟩;refine QR (a:=_) [7] r7 ?_;intro f fr hf hm qE;have h1:f 1=.int .i64 n:=À
 have h4:f 4=.ptr 0 4 0:=ϱ
 have h9:f 9=.list (v.slots.map V.sav):=Ê
 have dL:f 10=.int .i64 (v.slots.length:Nat):=ŉ
 have aI:f 11=.int .i64 (i:Nat):=Ë
 have m4:fr 4=.cells JY:=ϝ
 have n7:=qE 7 ϊ;clear hf hm qE am aS de eV aU b_ r7;have dh:=m4;simp only[JY]at m4;simp only[dL,aI,Qa,seval];by_cases aa:i<v.slots.length
 ·obtain⟨x,hi⟩:∃x,v.slots[i]? = some x:=⟨v.slots[i],Qnb aa⟩;have hg:=Wy hi;have e1:=Qv i _ aa ώ;rcases LI hi bu with⟨hb,bE,fT⟩|⟨hb,jK⟩
  ·rw[bE,fT,Qd x.2];simp only[QE aa,Qs,QoF,Qg,hg,hb,n7,Qo9,h1,h4,h9,aI,m4,eE,seval]
  ·simp only[QE aa,Qs,QoF,Qg,hg,hb,n7,h1,h9,aI,e1,eE,seval];exact⟨v.slots.length-(i+1),ψ,_,_,i+1,rfl,rfl,ψ,jK,ϕ,Ϡ,Ε,(by exact dL),ω,Î,ϛ⟩
 ·obtain⟨bE,fT⟩:=Te aa bu;rw[bE,fT,show(QC 0 0 []).av=.agg [.int .i64 0,.int .u64 0,.str [],.list [],.list [],.list [],.list []]from Qd _];simp only[QM aa,Qn1,h4,m4,eE,seval]
def Qgy (l x:V)(hl:l.list.length<=1048576):Qi prog 335 [l.av,x.av] (Xa (l.list++[x])).av:=by
 have t1:((l.list.length:Int)=(l.list.length:Int)/\(l.list.length:Int)=(l.list.length:Int))=True:=ό
 rw[show(Xa (l.list++[x])).av=.agg [.int .i64 11,.int .u64 0,.str [],.list (l.list.map V.av++[x.av]),.list [],.list [],.list []]from by
  rw[Qd];show AV.agg [.int .i64 11,.int .u64 0,.str [],.list ((l.list++[x]).map V.av),.list [],.list [],.list []]=_;rw[Qo3];rfl]
 rw[Qd l,Qd x];refine wF func335 ?_;simp only[eK,f335,seval];simp only[Qn6,eE,seval];refine Ca rfl rfl ϊ rfl rfl ?_;refine Hf (xs:=l.list.map V.av) (ys:=[x.av]) rfl Ġ ό (DV l.list) (DV [x]) Δ Ϗ ω ?_;simp only[Qn6,Qnq,Qn7,splice,QnK,Qol,QnN,QnT,Qor,Qof,Qnx,Qny,Qoo,Qop,AV.leaf,eE,seval];have hk:List.take (l.list.length+1) (l.list.map V.av++[x.av])=l.list.map V.av++[x.av]:=QnL ό;simp[hk,AV.un,AV.unL,ZO,XZ];exact Qd x
def Qgz (v:V)(x:R)(hl:v.raws.length<=1048576):Qi prog 220 [v.av,x.av] (Uc v x).av:=by
 have t1:((v.raws.length:Int)=(v.raws.length:Int)/\(v.raws.length:Int)=(v.raws.length:Int))=True:=ό
 rw[show(Uc v x).av=.agg [.int .i64 v.kd,.int .u64 (v.bits:Nat),.str v.text,.list (v.list.map V.av),.list (v.pairs.map V.pav),.list (v.slots.map V.sav),.list (v.raws.map R.av++[x.av])]from by
  rw[Qd];show AV.agg [.int .i64 v.kd,.int .u64 (v.bits:Nat),.str v.text,.list (v.list.map V.av),.list (v.pairs.map V.pav),.list (v.slots.map V.sav),.list ((v.raws++[x]).map R.av)]=_;rw[Qo3];rfl]
 rw[Qd v];refine wF func220 ?_;simp only[eK,f220,seval];simp only[R.av,Qn6,eE,seval];refine Ca rfl rfl ϊ rfl rfl ?_;refine Hf (xs:=v.raws.map R.av) (ys:=[x.av]) rfl ω ό (YN v.raws) (YN [x]) Δ Ϗ ω ?_;simp only[Qn6,Qnq,Qn7,splice,QnK,Qol,QnN,QnT,Qor,Qof,Qnx,Qny,Qoo,Qop,AV.leaf,eE,seval];have hk:List.take (v.raws.length+1) (v.raws.map R.av++[x.av])=v.raws.map R.av++[x.av]:=QnL ό;simp only[R.av]at hk;simp[hk,AV.un,AV.unL,ZO,XZ,R.av]
def StI (g:PG)(v:V)(o:PO)(x:V)(K:Nat->List (Int×V))(k:Nat)(st:St):Prop :=
 ∃f fr i n,st=⟨f,[fr],[]⟩/\k=v.slots.length-i/\i<=v.slots.length/\f 4=.ptr 0 4 0/\f 6=.ptr 0 6 0/\f 7=.ptr 0 7 0/\f 8=.ptr 0 8 0/\f 9=.ptr 0 9 0/\f 18=.list (v.slots.map V.sav)/\f 19=.int .i64 (v.slots.length:Nat)/\f 20=.int .i64 (i:Nat)/\fr 4=.cells g.cells/\fr 6=.cells o.cells/\fr 7=.cells (vc x)/\fr 8=.cells JY/\
  fr 9=.cells [.int .i64 10,.int .u64 0,.str [],.nils,.nils,.vec 0 1100 n 0 (K i).length false,.list (v.raws.map R.av)]/\fr 1100=.vec n 8 ((K i).map V.sav)/\∀s∈[12,11],(fr s).isRow=false
def A8 (g:PG)(v:V)(o:PO)(x:V)(hg:g.ops.length<=maxLen)(hl:v.slots.length<=1048576):Qi prog 331 [Qm g,v.av,Qw o,x.av] (X6 g v o x).av:=by
 have co:=λn=>ID g hg n
 simp only[Uz]at co;simp only[Qm,PG.cells]at co;generalize hK:(λi=>(v.slots.take i).filter λs=>!Xg g o s)=K;have lX:K 0=[]:=ĕ
 have mB:v.slots.filter (λs=>!Xg g o s)=K v.slots.length:=ĕ
 have pK:∀i,i<=v.slots.length->(K i).length<=i:=by
  intro i hi;rw[<-hK];exact Qm9 (List.length_filter_le _ _) Õ
 have aV:∀(i:Nat) (s:Int×V),v.slots[i]? = some s->K (i+1)=K i++(if Xg g o s=true then []else [s]):=by
  intro i s hs;rw[<-hK];show(v.slots.take (i+1)).filter _=(v.slots.take i).filter _++_;rw[Qo4,hs,QoP];cases hd:Xg g o s<;>simp[hd]
 rw[show(X6 g v o x).av=.agg [.int .i64 10,.int .u64 0,.str [],.list [],.list [],.list ((K v.slots.length).map V.sav++[V.sav (o.num,x)]),.list (v.raws.map R.av)]from by
  rw[Qd];show AV.agg [.int .i64 10,.int .u64 0,.str [],.list [],.list [],.list ((v.slots.filter (λs=>!Xg g o s)++[(o.num,x)]).map V.sav),.list (v.raws.map R.av)]=_;rw[mB,Qo3];rfl]
 rw[Qd v,Qd x];clear mB hK;refine wF func331 ?_;simp only[eK,f331,seval];simp only[Qm,Qw,PG.cells,PO.cells,eE,seval];refine K7 ϒ rfl ϒ rfl ?_;simp only[List.set,Qn6,eE,seval];refine Qj (StI g v o x K) _ ⟨_,_,0,_,rfl,rfl,Qnk _,ω,ω,ω,ω,ω,ω,ω,ω,ω,ω,ω,ω,Ó,Ó,GJ rfl rfl⟩ ?_;rintro _ st ⟨f0,bA,i,n,rfl,rfl,bg,aS,bX,cO,bF,de,dQ,di,du,b_,cV,gc,iv,lG,jO,iW⟩;refine QR (a:=_) [12,11] iW ?_;intro f fr hf hm iG;have h4:f 4=.ptr 0 4 0:=ϱ
 have h6:f 6=.ptr 0 6 0:=Κ
 have h7:f 7=.ptr 0 7 0:=Τ
 have h8:f 8=.ptr 0 8 0:=Η
 have h9:f 9=.ptr 0 9 0:=Ê
 have dy:f 18=.list (v.slots.map V.sav):=Ĝ
 have dW:f 19=.int .i64 (v.slots.length:Nat):=ĝ
 have bI:f 20=.int .i64 (i:Nat):=Ğ
 have dh:fr 4=.cells g.cells:=ϝ
 have bT:fr 6=.cells o.cells:=ϸ
 have gT:fr 7=.cells (vc x):=Æ
 have df:fr 8=.cells JY:=by rw[hm 8 ϊ,iv]<;>rfl
 have m9:fr 9=.cells [.int .i64 10,.int .u64 0,.str [],.nils,.nils,.vec 0 1100 n 0 (K i).length false,.list (v.raws.map R.av)]:=by rw[hm 9 ϊ,lG]<;>rfl
 have mS:fr 1100=.vec n 8 ((K i).map V.sav):=Ù
 have dK:=iG 12 ϊ;have fE:=iG 11 ϊ;clear hf hm iG aS bX cO bF de dQ di du b_ cV gc iv lG jO iW;have m4:=dh;have m6:=bT;have m7:=gT;have m8:=df;simp only[PG.cells]at m4;simp only[PO.cells]at m6;simp only[vc]at m7;simp only[JY]at m8;have qW:=pK i bg;simp only[dW,bI,Qa,seval];by_cases aa:i<v.slots.length
 ·obtain⟨y,hi⟩:∃y,v.slots[i]? = some y:=⟨v.slots[i],Qnb aa⟩;have iN:=Wy hi;have e1:=Qv i _ aa ώ;have nO:=aV i y hi;have skip:Xg g o y=true->∀(f':Fr) (ag:Nat->Ob),f' 4=.ptr 0 4 0->f' 6=.ptr 0 6 0->f' 7=.ptr 0 7 0->f' 8=.ptr 0 8 0->f' 9=.ptr 0 9 0->f' 18=.list (v.slots.map V.sav)->f' 19=.int .i64 (v.slots.length:Nat)->f' 20=.int .i64 ((i+1:Nat):Int)->ag 4=.cells g.cells->ag 6=.cells o.cells->ag 7=.cells (vc x)->ag 8=.cells JY->ag 9=fr 9->ag 1100=fr 1100->(∀s∈[12,11],(ag s).isRow=false)->∃k,k<v.slots.length-i/\StI g v o x K k ⟨f',[ag],[]⟩:=by
   intro hd f' ag a4 a6 a7 a8 a9 tm tc tN b4 b6 b7 b8 b9 bS br;rw[Qnj hd,Qof]at nO;exact⟨v.slots.length-(i+1),ψ,f',ag,i+1,n,rfl,rfl,ψ,a4,a6,a7,a8,a9,tm,tc,tN,b4,b6,b7,b8,by rw[b9,m9,nO],by rw[bS,mS,nO],br⟩
  simp only[QE aa,Qs,QoF,Qg,iN,fE,h6,dy,bI,m6,eE,seval];have iu:Xg g o y=(y.1==o.num||(match Xd g y.1 with
   |some q=>decide (o.union>=0)&&q.union==o.union
   |none=>false)):=rfl
  cases hb:(y.1==o.num)
  ·have c1:=co y.1;rw[hb,Qo1]at iu;simp only[h4,m4,eE,seval];refine aC c1 ?_;have keep:Xg g o y=false->∀(f':Fr) (ag:Nat->Ob),f' 4=.ptr 0 4 0->f' 6=.ptr 0 6 0->f' 7=.ptr 0 7 0->f' 8=.ptr 0 8 0->f' 9=.ptr 0 9 0->f' 18=.list (v.slots.map V.sav)->f' 19=.int .i64 (v.slots.length:Nat)->f' 20=.int .i64 ((i+1:Nat):Int)->ag 4=.cells g.cells->ag 6=.cells o.cells->ag 7=.cells (vc x)->ag 8=.cells JY->ag 9=.cells [.int .i64 10,.int .u64 0,.str [],.nils,.nils,.vec 0 1100 (n+1) 0 ((K i).length+1) false,.list (v.raws.map R.av)]->ag 1100=.vec (n+1) 8 ((K i).map V.sav++[V.sav y])->(∀s∈[12,11],(ag s).isRow=false)->∃k,k<v.slots.length-i/\StI g v o x K k ⟨f',[ag],[]⟩:=by
    intro hd f' ag a4 a6 a7 a8 a9 tm tc tN b4 b6 b7 b8 b9 bS br;rw[Qni (by rw[hd];simp)]at nO;exact⟨v.slots.length-(i+1),ψ,f',ag,i+1,n+1,rfl,rfl,ψ,a4,a6,a7,a8,a9,tm,tc,tN,b4,b6,b7,b8,by rw[b9,nO,QnP];rfl,by rw[bS,nO,Qo3];rfl,br⟩
   cases hq:Xd g y.1 with
   |none=>
    rw[hq]at iu;simp only[QoS,Qn1,Qw,HR,PO.cells,dK,h9,m9,eE,seval];exact zd
   |some q=>
    rw[hq]at iu;dsimp only at iu;simp only[Qon,Qo9,Qw,PO.cells,dK,h6,m6,eE,seval];cases hu:decide (o.union>=0)
    ·rw[hu,QoJ]at iu;simp only[h9,m9,eE,seval];exact zd
    ·rw[hu,QoW]at iu;cases qZ:(q.union==o.union)
     ·rw[qZ]at iu;simp only[qZ,h6,h9,m6,m9,eE,seval];exact zd
     ·rw[qZ]at iu;simp only[qZ,h6,bI,m6,e1,eE,seval];exact skip iu _ _ Ϡ Ϝ Ϫ ϣ Ε ê ß ω Î Â Ł à ω ω (GJ rfl rfl)
  ·rw[hb,Qo0]at iu;simp only[bI,e1,Qa,seval];exact skip iu _ _ Ϡ Ϝ Ϫ ϣ Ε ê ß ω Î Â Ł à ω ω (GJ (by rw[Xe _ _ ϊ,dK]<;>rfl) rfl)
 ·have e:i=v.slots.length:=ψ
  subst e;simp only[QM aa,h6,h7,h9,m6,m7,m9,eE,seval];refine QV (l:=[V.sav (o.num,x)]) rfl rfl rfl ċ ?_;refine QP (site:=1100) (g:=n) (n:=(K v.slots.length).length) (xs:=(K v.slots.length).map V.sav) (ys:=[V.sav (o.num,x)]) ω ø rfl ą rfl (Yt [(o.num,x)]) ϔ Ϙ ?_;simp only[h8,h9,m8,m9,eE,seval];have hk:List.take ((K v.slots.length).length+1) ((K v.slots.length).map V.sav++[V.sav (o.num,x)])=(K v.slots.length).map V.sav++[V.sav (o.num,x)]:=QnL ό;simp[hk,AV.un,AV.unL,ZO,XZ]
def GY (c:C):Nat×C×Nat:=match Z4 c with
 |.ok (n,d)=>(n,d,0)
 |.error e=>(0,c,e)
def D6 (w:Int)(c:C):R×C×Nat :=
 if w=2 then(⟨0,w,c.fixed.1,[]⟩,c.fixed.2.1,c.fixed.2.2)
 else if w=3 then(if (GY c).2.2=0 then(⟨0,w,0,(text (GY c).2.1 (GY c).1).1⟩,(text (GY c).2.1 (GY c).1).2.1,(text (GY c).2.1 (GY c).1).2.2)else(⟨0,0,0,[]⟩,c,(GY c).2.2))
 else(⟨0,w,c.varint.1,[]⟩,c.varint.2.1,c.varint.2.2)
def Mb {c:C}{e:Nat}(h:Z4 c=.error e):e≠0:=by
 unfold Z4 at h;split at h
 ·split at h<;>cases h
  decide
 ·rename_i he;cases h;exact he
def Tf (w:Int)(c:C):Je w c=if (D6 w c).2.2=0 then .ok ((D6 w c).1,(D6 w c).2.1)else .error (D6 w c).2.2:=by
 unfold D6 Je;by_cases h2:w=2
 ·rw[Qni ψ,Qnj h2,Qnj h2]
 ·rw[Qni h2,Qni h2];by_cases h3:w=3
  ·rw[Qnj h3,Qnj h3];unfold GY;cases hr:Z4 c with
   |error e=>
    have:=Mb hr;dsimp only;rw[Qni this,Qni this]
   |ok p=>rfl
  ·rw[Qni h3,Qni h3]
def Xs (P:PL)(c:C):Ob:=.cells [.list (P.progs.map Qm),.list (P.enums.map QH),.str c.d,.int .i64 c.a,.int .i64 c.e,.int .i64 c.dp,.int .i64 c.nd,.int .i64 c.tx]
def Rt (P:PL)(l s:Nat)(m:Qk){α:Type}(f:α->AV)(r:Rd α)(x:AV)(m1:Qk):Prop :=
 match r with
 |.ok (a,d)=>x=.tup [f a,.int .i64 0]/\m1=Am.put m l s (Xs P d)
 |.error e=>e≠0/\∃a d,x=.tup [f a,.int .i64 (e:Nat)]/\m1=Am.put m l s (Xs P d)
def put_put {m:Qk}{l s:Nat}{o q:Ob}:Am.put (Am.put m l s o) l s q=Am.put m l s q:=by
 induction m generalizing l with
 |nil=>rfl
 |cons fr m ih=>
  cases l with
  |zero=>
   show QL (QL fr s o) s q :: m=QL fr s q :: m;rw[Fk]
  |succ l=>exact congrArg (fr :: ·) ih
def put_self {m:Qk}{l s:Nat}{o:Ob}(hm:l<m.length)(h:Am.Qc m l s=o):Am.put m l s o=m:=by
 induction m generalizing l with
 |nil=>rfl
 |cons fr m ih=>
  cases l with
  |zero=>
   show QL fr s o :: m=fr :: m;congr 1
   funext i;by_cases e:i=s
   ·subst e;rw[Q6];exact h.symm
   ·rw[Xe _ _ e]
  |succ l=>exact congrArg (fr :: ·) (ih Ģ h)
def JZ (d:List UInt8)(a e dp nd tx:Int):∀n,AV.shNL n [.str d,.int .i64 a,.int .i64 e,.int .i64 dp,.int .i64 nd,.int .i64 tx]=[.str d,.int .i64 a,.int .i64 e,.int .i64 dp,.int .i64 nd,.int .i64 tx]
 |0=>rfl
 |n+1=>by show AV.shL (AV.shNL n _)=_;rw[JZ d a e dp nd tx n];rfl
def sh2 (a b:List AV):∀n,AV.shNL n [.list a,.list b]=[.list a,.list b]
 |0=>rfl
 |n+1=>by show AV.shL (AV.shNL n _)=_;rw[sh2 a b n];rfl
def W7 (k:IntKind)(v:Int):∀n,(AV.int k v).shN n=.int k v
 |0=>rfl
 |n+1=>by show(AV.shN n _).sh=_;rw[W7 k v n];rfl
def shl (a:List AV):∀n,(AV.list a).shN n=.list a
 |0=>rfl
 |n+1=>by show(AV.shN n _).sh=_;rw[shl a n];rfl
def JJ (d:List UInt8)(a e dp nd tx:Int):∀n,AV.unNL n [.str d,.int .i64 a,.int .i64 e,.int .i64 dp,.int .i64 nd,.int .i64 tx]=some [.str d,.int .i64 a,.int .i64 e,.int .i64 dp,.int .i64 nd,.int .i64 tx]
 |0=>rfl
 |n+1=>by
  show(AV.unL _).bind (AV.unNL n)=_;exact JJ d a e dp nd tx n
def LJ (k:IntKind)(v:Int):∀n,AV.unNL n [.int k v]=some [.int k v]
 |0=>rfl
 |n+1=>by
  show(AV.unL _).bind (AV.unNL n)=_;exact LJ k v n
def Vf:AV->AV
 |.agg l=>.agg (l.map nn0)
 |x=>x
def Rep.nz {G:Gh}{x:AV}{v:Value}(h:Rep G x v):Rep G (Vf x) v:=by
 unfold Vf;split
 ·cases h with
  |agg h=>exact .agg h.nn0
 ·exact h
def RepL.nz {G:Gh}:∀ {l:List AV} {vs:List Value},RepL G l vs->RepL G (l.map Vf) vs
 | [],_,h=>by cases h;exact .nil
 |_ :: _,_,h=>by
  cases h with
  |cons h t=>exact .cons (Rep.nz h) (RepL.nz t)
def WJ {P:Program}{f:Fr}{m:Qk}{ds:List DF}{K:St->Prop}{its:List Am.Item}{d k:Nat}{args:List RA}{ys:List AV}{R:AV->Qk->Prop}(hk:Qf P k ys m R)(hy:(args.map (RA.ev f)).map Vf=ys)(h:∀x m',R x m'->m'.length=m.length->QF P its ⟨QL f d x,m',ds⟩ K) :
  QF P (⟨some d,.callG (.f k) args,none⟩ :: its) ⟨f,m,ds⟩ K :=
 QT ⟨hk.1,λG w vs hv hm=>hk.2 G w vs (by rw[<-hy];exact RepL.nz hv) hm⟩ rfl h
def QZ (m:Qk)(l s:Nat)(o:Ob):(Am.put m l s o).length=m.length:=by
 induction m generalizing l with
 |nil=>rfl
 |cons fr m ih=>
  cases l with
  |zero=>rfl
  |succ l=>exact congrArg (· + 1) (ih l)
section
variable (P:PL)(c:C)(l s:Nat)(m:Qk)(hm:l<m.length)(hs:Am.Qc m l s=Xs P c)
include hs in
theorem BJ (n:Int) :
  Qf prog 128 [.ptr l s 0,.int .i64 n] m λx m1=>x=.int .i64 ((c.spend n).2:Nat)/\m1=Am.put m l s (Xs P (c.spend n).1):=by
 simp only[Xs]at hs;refine wG func128 ?_;simp only[eK,f128,seval];simp only[hs,JZ,eE,seval];refine aC (Qf3 c n) ?_;generalize c.spend n=r;obtain⟨c',e⟩:=r;simp only[HS,C.av,Xs,hs,JZ,JJ,QZ,eE,seval]
include hs hm in
theorem A9 (hc:CI c):Qf prog 327 [.ptr l s 0] m (Rt P l s m (λn:Nat=>.int .i64 (n:Nat)) (Z4 c)):=by
 have fk:=hs;simp only[Xs]at hs;refine wG func327 ?_;simp only[eK,f327,seval];simp only[hs,JZ,eE,seval];refine aC (VN c hc.big) ?_;have nI:=Kw hc;have cW:Z4 c=if c.varint.2.2=0 then(if c.varint.2.1.left<(c.varint.1:Int)then .error 4 else .ok (c.varint.1,c.varint.2.1))else .error c.varint.2.2:=rfl
 generalize c.varint=r at nI cW |-;obtain⟨u,d,e⟩:=r;dsimp only at nI cW;by_cases he:e=0
 ·subst he;obtain⟨ha,hu⟩:=nI rfl;have hd:=ha.ci hc;have kH:=hd.bd;rw[Qnj rfl]at cW;have w1:IntKind.u64.wrap d.left=d.left:=Ă
  simp only[WS,C.av,JZ,JJ,eE,seval];refine aC (DS d hd.big') ?_;by_cases aa:d.left<(u:Int)
  ·have d1:decide ((u:Int) > d.left)=true:=Qpe aa;rw[Qnj aa]at cW;rw[cW];simp only[w1,d1,Qa,seval];exact⟨ϊ,0,c,rfl,(put_self hm fk).symm⟩
  ·have d1:decide ((u:Int) > d.left)=false:=Qo8 aa;have w2:IntKind.i64.wrap (u:Int)=u:=ϐ
   rw[Qni aa]at cW;rw[cW];simp only[w1,w2,d1,hs,JZ,JJ,QZ,eE,seval];exact⟨rfl,rfl⟩
 ·rw[Qni he]at cW;rw[cW];simp only[WS,C.av,Xj he,JJ,eE,seval];exact⟨he,0,c,rfl,(put_self hm fk).symm⟩
include hs hm in
theorem QgC (hc:CI c)(w:Int):Qf prog 336 [.ptr l s 0,.int .i64 w] m (Rt P l s m R.av (Je w c)):=by
 have fk:=hs;have lp:∀o,Am.Qc (Am.put m l s o) l s=o:=λo=>Qt hm
 have pp:∀o q,Am.put (Am.put m l s o) l s q=Am.put m l s q:=λo q=>put_put
 simp only[Xs]at hs;refine wG func336 ?_;simp only[eK,f336,seval];simp only[eE,seval];by_cases h3:w=3
 ·have b3:(w==3)=true:=by simp[h3]
  simp only[b3,Qa,seval];refine QT (A9 P c (l+1) s _ (Nat.succ_lt_succ hm) fk hc) ϑ ?_;intro x m1 hx _;cases hr:Z4 c with
  |error e=>
   have gG:Je w c=.error e:=by unfold Je;rw[Qnj h3,hr]
   rw[hr]at hx;obtain⟨he,a,c',rfl,rfl⟩:=hx;rw[gG];simp only[Xj he,QZ,eE,seval];exact⟨he,⟨0,w,0,[]⟩,c',rfl,rfl⟩
  |ok p=>
   obtain⟨n,d⟩:=p;obtain⟨a1,a2⟩:=Ji hc hr;have hd:=a1.ci hc;have gG:Je w c=if (text d n).2.2=0 then .ok (⟨0,w,0,(text d n).1⟩,(text d n).2.1)else .error (text d n).2.2:=by unfold Je;rw[Qnj h3,hr]
   rw[hr]at hx;obtain⟨rfl,rfl⟩:=hx;simp only[Xs,lp,JZ,eE,seval];refine aC (Qky d n hd.inr hd.big') ?_;rw[gG];generalize text d n=q;obtain⟨t,i,e⟩:=q;dsimp only;simp only[AS,C.av,lp,pp,JJ,QZ,eE,seval];by_cases he:e=0
   ·subst he;rw[Qnj rfl];exact⟨rfl,rfl⟩
   ·rw[Qni he];exact⟨he,⟨0,w,0,t⟩,i,rfl,rfl⟩
 have b3:(w==3)=false:=by simp[h3]
 by_cases h2:w=2
 ·have b2:(w==2)=true:=Ě
  simp only[b3,b2,hs,JZ,eE,seval];refine aC (Qf6 c hc.big) ?_;have gG:Je w c=if c.fixed.2.2=0 then .ok (⟨0,w,c.fixed.1,[]⟩,c.fixed.2.1)else .error c.fixed.2.2:=by unfold Je;rw[Qni h3,Qnj h2]
  rw[gG];generalize c.fixed=q;exact W_
 ·have b2:(w==2)=false:=Ě
  simp only[b3,b2,hs,JZ,eE,seval];refine aC (VN c hc.big) ?_;have gG:Je w c=if c.varint.2.2=0 then .ok (⟨0,w,c.varint.1,[]⟩,c.varint.2.1)else .error c.varint.2.2:=by unfold Je;rw[Qni h3,Qni h2]
  rw[gG];generalize c.varint=q;exact W_
include hs in
theorem QgD (n:Nat) :
  Qf prog 328 [.ptr l s 0,.int .i64 (n:Nat)] m λx m1=>x=c.av/\m1=Am.put m l s (Xs P (part c n)):=by
 simp only[Xs]at hs;refine wG func328 ?_;simp only[eK,f328,seval];simp only[hs,JZ,W7,JJ,LJ,QZ,part,Xs,C.av,eE,seval]
include hs in
theorem Ea (o:C) :
  Qf prog 330 [.ptr l s 0,o.av] m λx m1=>x=.tup []/\m1=Am.put m l s (Xs P (JE o c)):=by
 simp only[Xs]at hs;refine wG func330 ?_;simp only[eK,f330,seval];simp only[hs,JZ,W7,JJ,LJ,QZ,JE,Xs,C.av,eE,seval]
end
def avs (k:Int)(b:Nat)(t:List UInt8):(QC k b t).av=.agg [.int .i64 k,.int .u64 (b:Nat),.str t,.list [],.list [],.list [],.list []]:=Qd _
def YO (r:V×Nat):AV:=.tup [r.1.av,.int .i64 (r.2:Nat)]
def Qbm {k:Int}{b:Nat}(hk:isk k=true)(ht:Zz k=false):Ze k k b [] [] [] [] []=Wb k b:=by
 have k7:(k != 7)=true:=by
  unfold Zz at ht;rw[Qn4,Qo2]at ht;simp[ht.1]
 unfold Ze;rw[hk,ht,k7];simp[Hn]
section
variable (n:Int)(s a:List UInt8)(c y k t u:Int)
theorem QhD:Qi prog 283 [oc n s a c y k t u] (.int .i64 (wk k)):=Rs ⟨n,s,a,c,y,k,t,u⟩
end
def Qbn (b:Nat)(_hb:b<18446744073709551616):IntKind.u64.wrap (Dg b)=(X4 1 b:Int)/\X4 1 b<18446744073709551616:=by
 unfold X4;rw[Qnj rfl,Jl];omega
def QgE {k:Int}(hk:isk k=true)(h:wk k≠3):Zz k=false:=by
 unfold wk at h;unfold Zz;rw[Qn4,Qo2,Qo2];refine⟨λe=>?_,λe=>?_⟩<;>(subst e;exact h ϊ)
section
variable {M:Nat}(P:PL)(hP:P.ok M)
include hP in
theorem QhE (n:Int)(s a:List UInt8)(c y k t u:Int)(f:R)(hb:f.bits<18446744073709551616) :
    Qi prog 337 [P.av,oc n s a c y k t u,f.av] (YO (XP P k t f)):=by
  have hw:=QhD n s a c y k t u;have kY:∀b,_:=λb=>QaP P hP t b
  have e0:P.av=.agg [.list (P.progs.map Qm),.list (P.enums.map QH)]:=rfl;simp only[oc]at hw;simp only[e0]at kY;have lM:∀B:Nat,Zz k=false->isk k=true->Qi prog 345 [.int .i64 k,.agg [.int .i64 k,.int .u64 (B:Nat),.str [],.list [],.list [],.list [],.list []]] (.bool (Wb k B)):=λB h1 h2=>by
    have h:=QaN k k B [] [] [] [] [] (Qnk _) (Qnk _) (Qnk _) (Qnk _);rw[Qbm h2 h1]at h;exact h
  have cr:∀B:Nat,B<18446744073709551616->Qi prog 102 [.agg [.int .i64 k,.int .u64 (B:Nat),.str [],.list [],.list [],.list [],.list []]] (.agg [.int .i64 k,.int .u64 ((Xw k B:Nat):Int),.str [],.list [],.list [],.list [],.list []]):=λB hB=>by
    have h:=Qbc (QC k B []) hB;rw[P0,avs]at h;exact h
  refine wF func337 ?_;simp only[eK,f337,seval];simp only[e0,oc,R.av,eE,seval];refine aC (Vy k) ?_;cases hk:isk k
  · have hs:XP P k t f=(QC 0 0 [],12):=by unfold XP;rw[Qni (by rw[hk];decide)]
    exact η
  simp only[eE,seval];refine aC hw ?_;by_cases h1:f.wire=wk k
  case neg=>
    have hs:XP P k t f=(QC 0 0 [],13):=by unfold XP;rw[Qnj hk,Qni h1]
    have b1:(f.wire != wk k)=true:=ì
    simp only[b1,hs,YO,avs,splice,QnK,Qol,QnN,QnT,Qny,Qnq,Qn7,eE,seval]
    try rfl
  have b1:(f.wire != wk k)=false:=ì
  simp only[b1,eE,seval];by_cases h3:f.wire=3
  · have b3:(f.wire==3)=true:=by simp[h3]
    simp only[b3,eE,seval];by_cases h7:k=7
    · have b7:(k==7)=true:=by simp[h7]
      simp only[b7,eE,seval];refine aC (AF f.data) ?_;cases hv:Hm f.data
      · have hs:XP P k t f=(QC 0 0 [],7):=by unfold XP;rw[Qnj hk,Qnj h1,Qnj h3,Qnj ⟨h7,hv⟩]
        exact η
      · have hs:XP P k t f=(QC k 0 f.data,0):=by unfold XP;rw[Qnj hk,Qnj h1,Qnj h3,Qni (by rw[hv];simp)]
        simp only[hs,YO,avs,splice,QnK,Qol,QnN,QnT,Qnx,Qny,Qnq,Qn7,eE,seval]
        try rfl
    · have b7:(k==7)=false:=by simp[h7]
      have hs:XP P k t f=(QC k 0 f.data,0):=by unfold XP;rw[Qnj hk,Qnj h1,Qnj h3,Qni (by simp[h7])]
      simp only[b7,hs,YO,avs,splice,QnK,Qol,QnN,QnT,Qnx,Qny,Qnq,Qn7,eE,seval]
      try rfl
  have b3:(f.wire==3)=false:=by simp[h3]
  have fm:=QgE hk (h1▸h3);simp only[b3,splice,QnK,Qol,QnN,QnT,Qnx,Qny,Qnq,Qn7,eE,seval];have cq:∀B:Nat,B=X4 f.wire f.bits->Wb k B=false->XP P k t f=(QC 0 0 [],6):=by
    intro B e hh;unfold XP;rw[Qnj hk,Qnj h1,Qni h3,<-e,Qni (by rw[hh];decide)]
  have iJ:∀B:Nat,B=X4 f.wire f.bits->Wb k B=true->k=9->Yo P.enums t B=false->XP P k t f=(QC 0 0 [],16):=by
    intro B e hh h9 ha;unfold XP;rw[Qnj hk,Qnj h1,Qni h3,<-e,Qnj hh,Qnj ⟨h9,ha⟩]
  have fD:∀B:Nat,B=X4 f.wire f.bits->Wb k B=true->(k=9->Yo P.enums t B=true)->XP P k t f=(QC k (Xw k B) [],0):=by
    intro B e hh ha;unfold XP;rw[Qnj hk,Qnj h1,Qni h3,<-e,Qnj hh,Qni (by rintro⟨h9,hf⟩;rw[ha h9]at hf;cases hf)]
  have hz:=QkF (f.bits:Int) ψ ψ;obtain⟨wH,fO⟩:=Qbn f.bits hb;by_cases lA:f.wire=1
  all_goals
    first
      | (have bw:(f.wire==1)=true:=by simp[lA]
         simp only[bw,eE,seval];refine aC hz ?_;simp only[wH,splice,QnK,Qol,QnN,QnT,Qnx,Qny,Qnq,Qn7,eE,seval];have eB:X4 1 f.bits=X4 f.wire f.bits:=by rw[lA]
         have hB:=fO;generalize X4 1 f.bits=B at eB hB)
      | (have bw:(f.wire==1)=false:=by simp[lA]
         simp only[bw,QnK,QnT,Qnq,Qn7,eE,seval];obtain⟨B,ua⟩:∃B,f.bits=B:=⟨_,rfl⟩;rw[ua];have eB:B=X4 f.wire f.bits:=by unfold X4;rw[Qni lA];exact ua.symm
         have hB:=hb;rw[ua]at hB)
    refine aC (lM _ fm hk) ?_;cases nN:Wb k B
    · simp only[cq B eB nN,YO,avs,splice,QnK,Qol,QnN,QnT,Qny,Qnq,Qn7,eE,seval]
      try rfl
    simp only[eE,seval];by_cases h9:k=9
    · have b9:(k==9)=true:=ŏ
      simp only[b9,eE,seval];refine aC (kY B) ?_;cases ha:Yo P.enums t B
      · simp only[iJ B eB nN h9 ha,YO,avs,splice,QnK,Qol,QnN,QnT,Qny,Qnq,Qn7,eE,seval]
        try rfl
      · simp only[eE,seval];refine aC (cr _ hB) ?_;simp only[fD B eB nN (λ_=>ha),YO,avs,splice,QnK,Qol,QnN,QnT,Qny,Qnq,Qn7,eE,seval]
    · have b9:(k==9)=false:=ŏ
      simp only[b9,eE,seval];refine aC (cr _ hB) ?_;simp only[fD B eB nN (λh=>absurd h h9),YO,avs,splice,QnK,Qol,QnN,QnT,Qny,Qnq,Qn7,eE,seval]
include hP in
theorem QgF (o:PO)(f:R)(hb:f.bits<18446744073709551616):Qi prog 337 [P.av,Qw o,f.av] (YO (XP P o.kind o.target f)) :=
 QhE P hP o.num o.name o.alias o.card o.key o.kind o.target o.union f hb
end
end Va
end Go.Proofs.YtmlohboeoeoamaaGreatDoor

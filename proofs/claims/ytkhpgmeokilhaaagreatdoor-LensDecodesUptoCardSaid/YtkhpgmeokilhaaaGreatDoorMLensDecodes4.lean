/- Parts of the proof, in order. -/
import Derived.Test.YtkhpgmeokilhaaaGreatDoorProg
import Derived.Test.YtkhpgmeokilhaaaGreatDoorMLensDecodes3

set_option linter.unusedSimpArgs false
namespace Go.Proofs.YtkhpgmeokilhaaaGreatDoor.Tz
open Go Am Bt Tg So
variable {Pg:Program}{cz sr ro sm is st ss:Nat}(hC:Tg.Cs Pg cz sr ro sm is st ss)(hcz:cz≠0)

variable {E:AV→Prop}

include hC hcz in
theorem Pa {kc:Nat}{c:AV→AV→Int}(hc:Cp Pg cz E kc c){fr:Nat→Ob}{lv s g N a b:Nat}(P X S:List AV){m:Qh}(hlv:lv<m.length)(he:∀x∈P++X++S,Ez E cz x)
  (hn:(P++X++S).length<4611686018427387904) (hN:N=(P++X++S).length) (ha:a=P.length) (hb:b=P.length+X.length) :
  Qd Pg is [.vec (lv+1) s g 0 N false,.int .i64 (a:Nat),.int .i64 (b:Nat),.fn (.func kc) [] []] (fr :: Am.put m lv s (.vec g cz (P++X++S)))
   (fun x m1=>x=.tup []∧m1=fr :: Am.put m lv s (.vec g cz (P++QF (lt c) X++S))):=by
 have _:=hC;have _:=hcz;subst hN ha hb;refine(Qkf hC hcz hc (lv+1) s g P X S (fr :: Am.put m lv s (.vec g cz (P++X++S))) (Qo (m:=m) hlv) he hn).mono fun x m1 h=>⟨h.1,?_⟩
 rw[h.2];simp only[Am.put,put_put]

def St1 (cz:Nat)(m:Qh)(lv s g:Nat)(kc:Nat)(c:AV→AV→Int)(xs:List AV)(k:Nat)(st:St):Prop :=
 ∃f i,st=⟨f,[Qb]++Am.put m lv s (.vec g cz (Xk (lt c) 20 i xs++xs.drop (20*i))),[]⟩∧k=xs.length-20*i∧20*i≤xs.length∧
  f 0=.vec (lv+1) s g 0 xs.length false∧f 1=.int .i64 (xs.length:Nat)∧f 2=.fn (.func kc) [] []∧f 6=.int .i64 20∧f 7=.int .i64 ((20*i:Nat):Int)∧f 8=.int .i64 ((20*(i+1):Nat):Int)

def St2 (cz:Nat)(m:Qh)(lv s g:Nat)(kc:Nat)(c:AV→AV→Int)(xs:List AV)(k:Nat)(st:St):Prop :=
 ∃f b n,st=⟨f,[Qb]++Am.put m lv s (.vec g cz (Xk (lt c) b n xs)),[]⟩∧k=xs.length-b∧0<b∧b<2305843009213693952∧xs.length≤b*n∧
  f 0=.vec (lv+1) s g 0 xs.length false∧f 1=.int .i64 (xs.length:Nat)∧f 2=.fn (.func kc) [] []∧f 6=.int .i64 (b:Nat)

def St3 (cz:Nat)(m:Qh)(lv s g:Nat)(kc:Nat)(c:AV→AV→Int)(xs:List AV)(b:Nat)(k:Nat)(st:St):Prop :=
 ∃f i n,st=⟨f,[Qb]++Am.put m lv s (.vec g cz (Xk (lt c) (2*b) i xs++Xk (lt c) b n (xs.drop (2*b*i)))),[]⟩∧k=xs.length-2*b*i∧2*b*i≤xs.length∧xs.length-2*b*i≤b*n∧
  f 0=.vec (lv+1) s g 0 xs.length false∧f 1=.int .i64 (xs.length:Nat)∧f 2=.fn (.func kc) [] []∧f 6=.int .i64 (b:Nat)∧f 7=.int .i64 ((2*b*i:Nat):Int)∧f 8=.int .i64 ((2*b*(i+1):Nat):Int)

set_option maxHeartbeats 1000000 in
include hC hcz in
theorem Qkj {kc:Nat}{c:AV→AV→Int}(hc:Cp Pg cz E kc c)(lv s g:Nat)(xs:List AV)(m:Qh)(hl:Am.Qc m lv s=.vec g cz xs)(he:∀x∈xs,Ez E cz x)
  (hn:xs.length<1152921504606846976) :
  Qd Pg st [.vec lv s g 0 xs.length false,.int .i64 (xs.length:Nat),.fn (.func kc) [] []] m
   (fun x m1=>x=.tup []∧m1=Am.put m lv s (.vec g cz (QF (lt c) xs))):=by
 have _:=hC;have _:=hcz;have hlv:lv<m.length:=Q8 (by rw[hl];simp);refine hC.cst.go (by simp) ?_;have h0:m=Am.put m lv s (.vec g cz xs):=(put_self hl).symm;simp only[rst,Lo,Lp,Qa,seval];refine Qk (St1 cz m lv s g kc c xs) _ ⟨_,0,by rw[show Xk (lt c) 20 0 xs++xs.drop (20*0)=xs by simp[Xk],←h0]<;>rfl,rfl,by omega,by simp only[Qa,seval],by simp only[Qa,seval],by simp only[Qa,seval],by simp only[Qa,seval],by simp only[Qa,seval]<;>rfl,by simp only[Qa,seval]<;>rfl⟩ ?_;clear h0;rintro k st ⟨f,i,rfl,rfl,hi,f0,f1,f2,f6,f7,f8⟩;simp only[Lu,Lq,f1,f8,Qa,seval];have hbl:(Xk (lt c) 20 i xs).length=20*i:=by rw[GR];omega
 by_cases hlt:20*(i+1)≤xs.length
 ·have d0:decide (((20*(i+1):Nat):Int)≤(xs.length:Int))=true:=by simp only[Qmz];omega
  have e1:IntKind.i64.wrap (((20*(i+1):Nat):Int)+20)=((20*(i+1+1):Nat):Int):=by rw[QC];omega
  have hcut:Xk (lt c) 20 i xs++xs.drop (20*i)=Xk (lt c) 20 i xs++(xs.drop (20*i)).take 20++xs.drop (20*(i+1)):=by
   rw[QmQ,show 20*(i+1)=20*i+20 by omega,←Qm0,QnN]
  have hx1:((xs.drop (20*i)).take 20).length=20:=by rw[Qns,Qnc];omega
  have hee:∀x∈Xk (lt c) 20 i xs++(xs.drop (20*i)).take 20++xs.drop (20*(i+1)),Ez E cz x:=by
   intro x hx;refine he x ?_;rcases QnP.1 hx with hx|hx
   ·rcases QnP.1 hx with hx|hx
    ·exact Yx hx
    ·exact Qni (Qnj hx)
   ·exact Qni hx
  have hNN:(Xk (lt c) 20 i xs++(xs.drop (20*i)).take 20++xs.drop (20*(i+1))).length=xs.length:=by
   rw[Qm9,Qm9,hx1,hbl,Qnc];omega
  simp only[d0,hcut,Lr,f0,f2,f7,f8,Qa,seval];refine Qg (Pa hC hcz hc (a:=20*i) (b:=20*(i+1)) (Xk (lt c) 20 i xs) ((xs.drop (20*i)).take 20) (xs.drop (20*(i+1))) hlv hee (by omega) hNN.symm hbl.symm (by rw[hbl,hx1];omega)) rfl ?_;simp only[Ls,Lt,e1,f6,f8,Qa,seval];exact⟨xs.length-20*(i+1),by omega,_,i+1,by rw[Hh]<;>rfl,rfl,hlt,by simp only[f0,Qa,seval],by simp only[f1,Qa,seval],by simp only[f2,Qa,seval],by simp only[f6,Qa,seval],by simp only[Qa,seval],by simp only[Qa,seval]⟩
 ·have d0:decide (((20*(i+1):Nat):Int)≤(xs.length:Int))=false:=by simp only[Qov];omega
  have hee:∀x∈Xk (lt c) 20 i xs++xs.drop (20*i)++[],Ez E cz x:=by
   intro x hx;refine he x ?_;rw[Qnz]at hx;rcases QnP.1 hx with hx|hx
   ·exact Yx hx
   ·exact Qni hx
  have hNN:(Xk (lt c) 20 i xs++xs.drop (20*i)++[]).length=xs.length:=by
   rw[Qnz,Qm9,hbl,Qnc];omega
  have hic:=Pa hC hcz hc (fr:=Qb) (g:=g) (s:=s) (N:=xs.length) (a:=20*i) (b:=xs.length) (Xk (lt c) 20 i xs) (xs.drop (20*i)) [] hlv hee (by omega) hNN.symm hbl.symm (by rw[hbl,Qnc];omega);have hsn:Xk (lt c) 20 i xs++QF (lt c) (xs.drop (20*i))=Xk (lt c) 20 (i+1) xs:=by
   rw[Hh,Qm5 (by rw[Qnc];omega)]
  rw[Qnz,Qnz,hsn]at hic;simp only[d0,Lv,f0,f1,f2,f7,Qa,seval];refine Qg hic rfl ?_;simp only[Qa,seval];refine Qk (St2 cz m lv s g kc c xs) _ ⟨_,20,i+1,rfl,rfl,by omega,by omega,by omega,by simp only[f0,Qa,seval],by simp only[f1,Qa,seval],by simp only[f2,Qa,seval],by simp only[f6,Qa,seval]<;>rfl⟩ ?_;clear f0 f1 f2 f6 f7 f8 hic hsn hNN hee d0 hlt hbl hi f i;rintro k st ⟨f,b,n,rfl,rfl,hb0,hb1,hbn,f0,f1,f2,f6⟩;simp only[LA,Lw,f1,f6,Qa,seval];by_cases hlt:b<xs.length
  ·have d0:decide ((b:Int)<(xs.length:Int))=true:=by simp only[Qmz];omega
   have e1:IntKind.i64.wrap (2*(b:Int))=((2*b:Nat):Int):=by rw[QC];omega
   have e1':IntKind.i64.wrap ((b:Int)*2)=((2*b:Nat):Int):=by rw[QC];omega
   simp only[d0,Lx,e1,f6,Qa,seval];refine Qk (St3 cz m lv s g kc c xs b) _ ⟨_,0,n,by simp only[Xk,Nat.mul_zero,Qnd,QmS]<;>rfl,rfl,by omega,by omega,by simp only[f0,Qa,seval],by simp only[f1,Qa,seval],by simp only[f2,Qa,seval],by simp only[f6,Qa,seval],by simp only[Qa,seval]<;>rfl,by simp only[QmU,Nat.mul_one,Qa,seval]⟩ ?_;clear f0 f1 f2 f6 f;rintro k st ⟨f,i,n',rfl,rfl,hi,hn',f0,f1,f2,f6,f7,f8⟩;have hA1:2*b*(i+1)=2*b*i+2*b:=Nat.mul_succ _ _;have hA2:2*b*(i+1+1)=2*b*i+2*b+2*b:=by rw[Nat.mul_succ,hA1]
   have hbl:(Xk (lt c) (2*b) i xs).length=2*b*i:=by rw[GR];omega
   have hsnoc:=Hh (lt:=lt c) (2*b) i xs;rw[hA1]at f8;clear hbn;generalize hA:2*b*i=A at *;simp only[Lz,Ly,f1,f8,Qa,seval];generalize hL:xs.drop A=L at *;have hLl:L.length=xs.length-A:=by rw[←hL,Qnc]
   have hLe:∀z∈L,Ez E cz z:=fun z hz=>he z (Qni (by rw[hL];exact hz))
   have hPe:∀z∈Xk (lt c) (2*b) i xs,Ez E cz z:=fun z hz=>he z (Yx hz)
   have e2:IntKind.i64.wrap (((A:Nat):Int)+(b:Int))=((A+b:Nat):Int):=by rw[QC];omega
   -- X7 blocks and the rest
   have X7:b<L.length→∃n'',n'=n''+2∧Xk (lt c) b n' L=QF (lt c) (L.take b)++QF (lt c) ((L.drop b).take b)++Xk (lt c) b n'' (L.drop (2*b))∧mg (lt c) (QF (lt c) (L.take b)) (QF (lt c) ((L.drop b).take b))=QF (lt c) (L.take (2*b)):=by
    intro h
    match n',hn' with
    |0,hn'=>omega
    |1,hn'=>omega
    |n''+2,_=>
     refine⟨n'',rfl,?_,?_⟩
     ·rw[Xk,Xk,QmQ,Qm0,show b+b=2*b by omega]
     ·rw[Hg hc.sw,Ek]
   by_cases hlt2:A+2*b≤xs.length
   ·have d1:decide (((A+2*b:Nat):Int)≤(xs.length:Int))=true:=by simp only[Qmz];omega
    obtain⟨n'',rfl,hrow,hmg⟩:=X7 (by omega);have hn2:b*(n''+2)=b*n''+2*b:=by rw[Nat.mul_add,Nat.mul_comm b 2]
    rw[hn2]at hn';clear X7;generalize hZ:b*n''=Z at *;have e3:IntKind.i64.wrap (((A+2*b:Nat):Int)+((2*b:Nat):Int))=((A+2*b+2*b:Nat):Int):=by
     rw[QC];omega
    have l1:(QF (lt c) (L.take b)).length=b:=by rw[JX,Qns];omega
    have l2:(QF (lt c) ((L.drop b).take b)).length=b:=by rw[JX,Qns,Qnc];omega
    have l3:(Xk (lt c) b n'' (L.drop (2*b))).length=L.length-2*b:=by
     rw[GR,Qnc,hZ];omega
    have hcut:Xk (lt c) (2*b) i xs++Xk (lt c) b (n''+2) L=Xk (lt c) (2*b) i xs++QF (lt c) (L.take b)++QF (lt c) ((L.drop b).take b)++Xk (lt c) b n'' (L.drop (2*b)):=by
     rw[hrow];simp only[QmQ]
    have hee:∀x∈Xk (lt c) (2*b) i xs++QF (lt c) (L.take b)++QF (lt c) ((L.drop b).take b)++Xk (lt c) b n'' (L.drop (2*b)),Ez E cz x:=by
     rw[←hcut];intro x hx;rcases QnP.1 hx with hx|hx
     ·exact hPe x hx
     ·exact hLe x (Yx hx)
    have hNN:(Xk (lt c) (2*b) i xs++QF (lt c) (L.take b)++QF (lt c) ((L.drop b).take b)++Xk (lt c) b n'' (L.drop (2*b))).length=xs.length:=by
     rw[Qm9,Qm9,Qm9,l1,l2,l3,hbl];omega
    simp only[d1,hcut,e2,TT,f0,f2,f6,f7,f8,Qa,seval];refine Qg (Hl hC hcz (sym hC hcz hc _) (a:=A) (b:=A+b) (e:=A+2*b) (Xk (lt c) (2*b) i xs) (QF (lt c) (L.take b)) (QF (lt c) ((L.drop b).take b)) (Xk (lt c) b n'' (L.drop (2*b))) hlv rfl (by omega) (by omega) hee (by omega) (Zt hc.sw _) (Zt hc.sw _) hNN.symm hbl.symm (by rw[hbl,l1]) (by rw[hbl,l1,l2];omega)) rfl ?_;simp only[TU,TV,e1,e3,f6,f8,Qa,seval];refine⟨xs.length-(A+2*b),by omega,_,i+1,n'',by rw[hsnoc,hmg,hA1,←Qm0,hL]<;>rfl,by rw[hA1],by rw[hA1];exact hlt2,?_,by simp only[f0,Qa,seval],by simp only[f1,Qa,seval],by simp only[f2,Qa,seval],by simp only[f6,Qa,seval],by simp only[hA1,Qa,seval],by simp only[hA2,Qa,seval]⟩
    ·rw[hA1,hZ];omega
   ·have d1:decide (((A+2*b:Nat):Int)≤(xs.length:Int))=false:=by simp only[Qov];omega
    have hfin:Xk (lt c) (2*b) i xs++QF (lt c) L=Xk (lt c) (2*b) (i+1) xs:=by
     rw[hsnoc,Qm5 (by omega)]
    simp only[d1,e2,TW,TX,f1,f6,f7,Qa,seval];by_cases hm:A+b<xs.length
    ·have d2:decide (((A+b:Nat):Int)<(xs.length:Int))=true:=by simp only[Qmz];omega
     obtain⟨n'',rfl,hrow,hmg⟩:=X7 (by omega);clear X7 hn';have hr0:L.drop (2*b)=[]:=Qm8 (by omega);have hr1:(L.drop b).take b=L.drop b:=Qm5 (by rw[Qnc];omega);have hr2:L.take (2*b)=L:=Qm5 (by omega);rw[hr0,BS,Qnz,hr1]at hrow;rw[hr1,hr2]at hmg;have l1:(QF (lt c) (L.take b)).length=b:=by rw[JX,Qns];omega
     have l2:(QF (lt c) (L.drop b)).length=L.length-b:=by rw[JX,Qnc]
     have hee:∀x∈Xk (lt c) (2*b) i xs++QF (lt c) (L.take b)++QF (lt c) (L.drop b)++[],Ez E cz x:=by
      intro x hx;rw[Qnz,QmQ,←hrow]at hx;rcases QnP.1 hx with hx|hx
      ·exact hPe x hx
      ·exact hLe x (Yx hx)
     have hNN:(Xk (lt c) (2*b) i xs++QF (lt c) (L.take b)++QF (lt c) (L.drop b)++[]).length=xs.length:=by
      rw[Qnz,Qm9,Qm9,l1,l2,hbl];omega
     have hsc:=Hl hC hcz (sym hC hcz hc _) (fr:=Qb) (s:=s) (g:=g) (N:=xs.length) (a:=A) (b:=A+b) (e:=xs.length) (Xk (lt c) (2*b) i xs) (QF (lt c) (L.take b)) (QF (lt c) (L.drop b)) [] hlv rfl (by omega) (by omega) hee (by omega) (Zt hc.sw _) (Zt hc.sw _) hNN.symm hbl.symm (by rw[hbl,l1]) (by rw[hbl,l1,l2];omega);rw[Qnz,Qnz,hmg,hfin,QmQ,←hrow]at hsc;simp only[d2,TZ,f0,f1,f2,f7,Qa,seval];refine Qg hsc rfl ?_;simp only[CC,e1',f6,Qa,seval];exact⟨xs.length-2*b,by omega,_,2*b,i+1,rfl,rfl,by omega,by omega,by rw[hA1];omega,by simp only[f0,Qa,seval],by simp only[f1,Qa,seval],by simp only[f2,Qa,seval],by simp only[Qa,seval]⟩
    ·have d2:decide (((A+b:Nat):Int)<(xs.length:Int))=false:=by simp only[Qov];omega
     have hrow:Xk (lt c) b n' L=QF (lt c) L:=M4 (by omega) (by omega);simp only[d2,hrow,hfin,CC,e1',f6,Qa,seval];exact⟨xs.length-2*b,by omega,_,2*b,i+1,rfl,rfl,by omega,by omega,by rw[hA1];omega,by simp only[f0,Qa,seval],by simp only[f1,Qa,seval],by simp only[f2,Qa,seval],by simp only[Qa,seval]⟩
  ·have d0:decide ((b:Int)<(xs.length:Int))=false:=by simp only[Qov];omega
   have hfin:Xk (lt c) b n xs=QF (lt c) xs:=M4 (by omega) hbn;simp only[d0,hfin,put_len,ost,Qa,seval]

include hC hcz in
theorem RT {kc:Nat}{c:AV→AV→Int}(hc:Cp Pg cz E kc c)(lv s g:Nat)(xs:List AV)(m:Qh)(hl:Am.Qc m lv s=.vec g cz xs)(he:∀x∈xs,Ez E cz x)
  (hn:xs.length<1152921504606846976) :
  Qd Pg ss [.vec lv s g 0 xs.length false,.fn (.func kc) [] []] m
   (fun x m1=>x=.tup []∧m1=Am.put m lv s (.vec g cz (QF (lt c) xs))):=by
 have _:=hC;have _:=hcz;have hlv:lv<m.length:=Q8 (by rw[hl];simp);refine hC.css.go (by simp) ?_;have hl2:Am.Qc (Qb :: m) (lv+1) s=.vec g cz xs:=hl;simp only[LB,rss,oss,hl2,Qa,seval];refine Qg ((Qkj hC hcz hc (lv+1) s g xs (Qb :: m) hl he hn).mono fun x m1 h=>⟨h.1,h.2.trans rfl⟩) rfl ?_;simp only[Am.put,put_len,Qa,seval]

end Go.Proofs.YtkhpgmeokilhaaaGreatDoor.Tz

namespace Go.Proofs.YtkhpgmeokilhaaaGreatDoor.Tg
open Go Am

theorem Qgk:Cs Tryz.prog 4 315 275 206 205 111 58 where
 csr:=ck Tryz.func315 Tryz.ntmps315 (by decide +kernel)
 cro:=ck Tryz.func275 Tryz.ntmps275 (by decide +kernel)
 csm:=ck Tryz.func206 Tryz.ntmps206 (by decide +kernel)
 cis:=ck Tryz.func205 Tryz.ntmps205 (by decide +kernel)
 cst:=ck Tryz.func111 Tryz.ntmps111 (by decide +kernel)
 css:=ck Tryz.func58 Tryz.ntmps58 (by decide +kernel)

theorem Qeo:Cs Tryz.prog 8 331 309 262 261 195 103 where
 csr:=ck Tryz.func331 Tryz.ntmps331 (by decide +kernel)
 cro:=ck Tryz.func309 Tryz.ntmps309 (by decide +kernel)
 csm:=ck Tryz.func262 Tryz.ntmps262 (by decide +kernel)
 cis:=ck Tryz.func261 Tryz.ntmps261 (by decide +kernel)
 cst:=ck Tryz.func195 Tryz.ntmps195 (by decide +kernel)
 css:=ck Tryz.func103 Tryz.ntmps103 (by decide +kernel)

theorem T0:Cs Tryz.prog 14 343 332 311 310 263 198 where
 csr:=ck Tryz.func343 Tryz.ntmps343 (by decide +kernel)
 cro:=ck Tryz.func332 Tryz.ntmps332 (by decide +kernel)
 csm:=ck Tryz.func311 Tryz.ntmps311 (by decide +kernel)
 cis:=ck Tryz.func310 Tryz.ntmps310 (by decide +kernel)
 cst:=ck Tryz.func263 Tryz.ntmps263 (by decide +kernel)
 css:=ck Tryz.func198 Tryz.ntmps198 (by decide +kernel)

end Go.Proofs.YtkhpgmeokilhaaaGreatDoor.Tg

namespace Go.Proofs.YtkhpgmeokilhaaaGreatDoor.Va
open Go Am Rc Bt Br Up So

section
variable {α β:Type}{lt:β→β→Bool}{lt':α→α→Bool}{F:α→β}(h:∀x y,lt (F x) (F y)=lt' x y)
include h
theorem CD (a:α):∀l:List α,Ja lt (F a) (l.map F)=(Ja lt' a l).map F
 | []=>rfl
 |x :: l=>by
  rw[Qm3,Ja,Ja,h x a];cases lt' x a
  ·rfl
  ·show F x :: Ja lt (F a) (l.map F)=_;rw[CD a l];rfl
theorem Yq:∀l:List α,QF lt (l.map F)=(QF lt' l).map F
 | []=>rfl
 |a :: l=>by
  rw[Qm3,QF,Yq l,CD h a];rfl
end
theorem CE {α β:Type}{lt:β→β→Bool}(h:SW lt)(f:α→β):SW fun x y=>lt (f x) (f y) where
 irr _:=h.irr _
 tr _ _ _:=h.tr _ _ _
 nt _ _ _:=h.nt _ _ _
theorem Qep:SW fun a b:Int=>decide (a<b) where
 irr x:=by simp
 tr x y z h k:=by simp only[Qmz]at *;omega
 nt x y z h k:=by simp only[Qov]at *;omega
theorem RU (a b:Int):decide (cN a b<0)=decide (a<b):=by
 unfold cN;split
 ·rename_i h;simp[h]
 ·rename_i h;split<;>simp[h]
theorem Qgl (a b:List UInt8):decide (cS a b<0)=Op.bytesLess a b:=by
 unfold cS;cases Op.bytesLess a b
 ·cases(a==b)<;>simp
 ·simp

theorem Gp {z:Nat}(hz:z≠0){xs:List AV}(h:xs.all (fun e=>e.cells.length==z)=true)(hf:QK xs=[]):xs=[]:=by
 cases xs with
 |nil=>rfl
 |cons x xs=>
  have hl:x.cells.length=z:=by simpa using QmI.1 h x (by simp)
  have:x.cells=[]:=(List.append_eq_nil_iff.1 hf).1;rw[this]at hl;exact absurd hl.symm hz

theorem v53 (xs:List AV)(fr:Nat→Ob)(m:Qh)(h:xs.all (fun e=>e.cells.length==4)=true)(hn:xs.length≤1048576)(hr:Qn (fr 1000)=true) :
  Qd Tryz.prog 53 [.list xs] (fr :: m) (fun x m1=>x=.vec 0 1000 (Xr (fr 1000)) 0 xs.length false∧m1=QG fr 1000 (.vec (Xr (fr 1000)) 4 xs) :: m):=by
 have hng:Qy (fr :: m) 0 1000=Xr (fr 1000):=Jo;refine k53.go (by simp) ?_;simp only[Ij,P6,P7,Qa,seval];refine Jw (ys:=xs) (by simp only[Qa,seval]) ?_ ?_
 ·simp only[P9,Qa,seval];refine Jp rfl ?_;simp only[Qa,seval];refine QN (site:=5) (g:=1) (xs:=[]) (ys:=xs) rfl rfl rfl rfl rfl h (by simp[maxLen];omega) (by simp;omega) ?_;simp only[Qa,seval];refine X4 (l:=0) (site:=5) (g:=2) (o:=0) (n:=xs.length) (q:=false) (sz:=4) (xs:=xs) (by simp only[QmU,Qa,seval]) (by simp only[Qa,seval]) (by simp) (by decide) hr ?_;simp only[hng,MJ,eE,seval]
  try simp[AV.still,AV.un,Zr,XE]
 ·intro he;have hx:xs=[]:=by
   rcases he with he|he
   ·exact he
   ·exact Gp (by decide) h he
  subst hx;simp only[P8,Qa,seval];refine Zo (by simp only[Qa,seval]) rfl ?_;simp only[Qa,seval];refine X4 (l:=0) (site:=2) (g:=1) (o:=0) (n:=0) (q:=false) (sz:=4) (xs:=[]) (by simp only[Qa,seval]) (by simp only[Qa,seval]) (by simp) (by decide) hr ?_;simp only[hng,MJ,eE,seval]
  try simp[AV.still,AV.un,Zr,XE]

theorem Qkk (xs:List AV)(fr:Nat→Ob)(m:Qh)(h:xs.all (fun e=>e.cells.length==8)=true)(hn:xs.length≤1048576)(hr:Qn (fr 1000)=true) :
  Qd Tryz.prog 102 [.list xs] (fr :: m) (fun x m1=>x=.vec 0 1000 (Xr (fr 1000)) 0 xs.length false∧m1=QG fr 1000 (.vec (Xr (fr 1000)) 8 xs) :: m):=by
 have hng:Qy (fr :: m) 0 1000=Xr (fr 1000):=Jo;refine Rf.go (by simp) ?_;simp only[VF,FA,FB,Qa,seval];refine Jw (ys:=xs) (by simp only[Qa,seval]) ?_ ?_
 ·simp only[FC,Qa,seval];refine Jp rfl ?_;simp only[Qa,seval];refine QN (site:=5) (g:=1) (xs:=[]) (ys:=xs) rfl rfl rfl rfl rfl h (by simp[maxLen];omega) (by simp;omega) ?_;simp only[Qa,seval];refine X4 (l:=0) (site:=5) (g:=2) (o:=0) (n:=xs.length) (q:=false) (sz:=8) (xs:=xs) (by simp only[QmU,Qa,seval]) (by simp only[Qa,seval]) (by simp) (by decide) hr ?_;simp only[hng,DA,eE,seval]
  try simp[AV.still,AV.un,Zr,XE]
 ·intro he;have hx:xs=[]:=by
   rcases he with he|he
   ·exact he
   ·exact Gp (by decide) h he
  subst hx;simp only[VE,Qa,seval];refine Zo (by simp only[Qa,seval]) rfl ?_;simp only[Qa,seval];refine X4 (l:=0) (site:=2) (g:=1) (o:=0) (n:=0) (q:=false) (sz:=8) (xs:=[]) (by simp only[Qa,seval]) (by simp only[Qa,seval]) (by simp) (by decide) hr ?_;simp only[hng,DA,eE,seval]
  try simp[AV.still,AV.un,Zr,XE]

theorem Qeq (xs:List AV)(fr:Nat→Ob)(m:Qh)(h:xs.all (fun e=>e.cells.length==14)=true)(hn:xs.length≤1048576)(hr:Qn (fr 1000)=true) :
  Qd Tryz.prog 197 [.list xs] (fr :: m) (fun x m1=>x=.vec 0 1000 (Xr (fr 1000)) 0 xs.length false∧m1=QG fr 1000 (.vec (Xr (fr 1000)) 14 xs) :: m):=by
 have hng:Qy (fr :: m) 0 1000=Xr (fr 1000):=Jo;refine Qda.go (by simp) ?_;simp only[AL,SS,SU,Qa,seval];refine Jw (ys:=xs) (by simp only[Qa,seval]) ?_ ?_
 ·simp only[SY,Qa,seval];refine Jp rfl ?_;simp only[Qa,seval];refine QN (site:=5) (g:=1) (xs:=[]) (ys:=xs) rfl rfl rfl rfl rfl h (by simp[maxLen];omega) (by simp;omega) ?_;simp only[Qa,seval];refine X4 (l:=0) (site:=5) (g:=2) (o:=0) (n:=xs.length) (q:=false) (sz:=14) (xs:=xs) (by simp only[QmU,Qa,seval]) (by simp only[Qa,seval]) (by simp) (by decide) hr ?_;simp only[hng,Rh,eE,seval]
  try simp[AV.still,AV.un,Zr,XE]
 ·intro he;have hx:xs=[]:=by
   rcases he with he|he
   ·exact he
   ·exact Gp (by decide) h he
  subst hx;simp only[SX,Qa,seval];refine Zo (by simp only[Qa,seval]) rfl ?_;simp only[Qa,seval];refine X4 (l:=0) (site:=2) (g:=1) (o:=0) (n:=0) (q:=false) (sz:=14) (xs:=[]) (by simp only[Qa,seval]) (by simp only[Qa,seval]) (by simp) (by decide) hr ?_;simp only[hng,Rh,eE,seval]
  try simp[AV.still,AV.un,Zr,XE]

section rows
variable {fr:Nat→Ob}{m:Qh}{s g z n i:Nat}{xs l:List AV}
theorem ED (h:fr s=.vec g z xs)(hi:i<n):Qf (fr :: m) z none (.vec 0 s g 0 n false) ((i:Nat):Int)=some (.vptr 0 s g i 0):=by
 have e:Am.Qc (fr :: m) 0 s=.vec g z xs:=h;simp only[Qf,e,QnY];rw[QmD (by omega),QmD ⟨trivial,trivial,hi⟩,QmU]
theorem CF {k:Nat}(h:fr s=.vec g z xs)(hx:xs[i]? = some (.agg l))(hk:k≤l.length):Xf (fr :: m) (some k) (.vptr 0 s g i 0)=some (.agg (l.take k)):=by
 have e:Am.Qc (fr :: m) 0 s=.vec g z xs:=h;simp only[Xf,e,if_true,hx,Am.part];show(if 0+k≤l.length then some (AV.agg ((l.drop 0).take k))else none)=_;rw[QmD (by omega),Qnd]
theorem Qkl {o:Nat}(h:fr s=.vec g z xs)(hx:xs[i]? = some (.agg l)):Xf (fr :: m) none (.vptr 0 s g i o)=l[o]?:=by
 have e:Am.Qc (fr :: m) 0 s=.vec g z xs:=h;simp only[Xf,e,if_true,hx,Am.part,AV.cells]
end rows

def eS (x:AV):Prop:=∃s:Int×V,x=V.sav s
theorem Qgm (s:Int×V):Ez eS 8 (V.sav s):=by
 refine⟨⟨s,rfl⟩,?_⟩;rw[ZU];exact⟨_,rfl,rfl,rfl,rfl,fun _=>rfl⟩
def nA:AV→Int
 |.agg (.int _ n :: _)=>n
 |_=>0
def cA (x y:AV):Int:=cN (nA x) (nA y)
theorem RV (x y:AV):Tz.lt cA x y=decide (nA x<nA y):=RU _ _
theorem LC:SW (Tz.lt cA):=by
 have e:Tz.lt cA=fun x y=>decide (nA x<nA y):=by funext x y;exact RV x y
 rw[e];exact CE Qep nA
theorem Bg (s:Int×V):nA (V.sav s)=s.1:=by rw[ZU];rfl

theorem Qkm (x y:Int×V):Qi Tryz.prog 104 [V.sav x,V.sav y] (.int .i64 (cN x.1 y.1)):=by
 rw[ZU,ZU];refine wF Tryz.func104 ?_;simp only[eK,Tryz.f104,seval];simp only[eE,seval];refine aC (IF x.1 y.1) ?_;simp only[Qa,seval]

theorem Qkn:Tz.Cp Tryz.prog 8 eS 104 cA where
 call x y hx hy:=by
  obtain⟨s,rfl⟩:=hx.1;obtain⟨t,rfl⟩:=hy.1;unfold cA;rw[Bg,Bg];exact Qkm s t
 sw:=LC

theorem EE (l:List (Int×V)):QF (Tz.lt cA) (l.map V.sav)=(KI l).map V.sav:=Yq (fun x y=>by rw[RV,Bg,Bg]) l
theorem Yd (l:List (Int×V)):(l.map V.sav).all (fun e=>e.cells.length==8)=true:=by
 rw[List.all_map,QmI];intro x _;simp[ZU,AV.cells]
theorem ezS (l:List (Int×V)):∀x∈l.map V.sav,Ez eS 8 x:=by
 intro x hx;obtain⟨s,_,rfl⟩:=QnQ.1 hx;exact Qgm s

def SoI (T:List (Int×V))(k:Nat)(st:St):Prop :=
 ∃f fr i g h,st=⟨f,[fr],[]⟩∧k=T.length-i∧i≤T.length∧f 3=.vec 0 1000 g 0 T.length false∧f 4=.vec 0 4 h 0 i false∧f 11=.vec 0 1000 g 0 T.length false∧f 12=.int .i64 (T.length:Nat)∧f 13=.int .i64 (i:Nat)∧fr 1000=.vec g 8 (T.map V.sav)∧fr 4=.vec h 8 ((T.take i).map V.sav)∧∀s∈[6],(fr s).isRow=false

theorem v54 (sl:List (Int×V))(hn:sl.length≤1048576)(hu:sl.Pairwise fun y x=>(y.1==x.1)=false):Qi Tryz.prog 54 [.list (sl.map V.sav)] (.list ((KI sl).map V.sav)):=by
 have cl:=fun fr hr=>Qkk (sl.map V.sav) fr [] (Yd sl) (by rw[Qnq];exact hn) hr
 have cs:=fun g (m:Qh) (hl:Am.Qc m 0 1000=.vec g 8 (sl.map V.sav))=>Tz.RT Tg.Qeo (by decide) Qkn 0 1000 g (sl.map V.sav) m hl (ezS sl) (by rw[Qnq];omega)
 simp only[EE,Qnq]at cs;have hperm:(KI sl).Perm sl:=Q0 _;have hlen:(KI sl).length=sl.length:=hperm.length_eq;have hun:(KI sl).Pairwise fun y x=>(y.1==x.1)=false:=(hperm.pairwise_iff fun {a b} h=>by rw[Bool.beq_comm];exact h).2 hu
 generalize KI sl=T at *;refine wF Tryz.func54 ?_;simp only[eK,Tryz.f54,seval];simp only[Qa,seval];refine Qg (cl _ rfl) (by simp only[Qm3,Qnx,Qa,seval]) ?_;simp only[Qnq,Qa,seval];refine Qg (cs _ _ (by simp only[eE,seval]<;>rfl)) (by simp only[Qm3,Qnx,Qa,seval]) ?_;simp only[eE,seval];refine Zo (by simp only[Qa,seval]) (by simp only[Qa,seval]) ?_;simp only[eE,seval];refine Qk (SoI T) _ ⟨_,_,0,_,_,rfl,rfl,QmE _,(by rw[hlen];exact(by rfl)),(by rfl),(by rw[hlen];exact(by rfl)),(by rw[hlen];exact(by rfl)),(by rfl),(by rfl),(by rfl),by simp<;>rfl⟩ ?_;rintro _ st ⟨f0,fr0,i,g,h,rfl,rfl,hil,h30,h40,h110,h120,h130,mR0,m40,r6⟩;refine QL (a:=_) [6] r6 ?_;intro f fr hf hm hn6;have h3:f 3=.vec 0 1000 g 0 T.length false:=by rw[hf,h30]<;>rfl
 have h4:f 4=.vec 0 4 h 0 i false:=by rw[hf,h40]<;>rfl
 have h11:f 11=.vec 0 1000 g 0 T.length false:=by rw[hf,h110]<;>rfl
 have h12:f 12=.int .i64 (T.length:Nat):=by rw[hf,h120]<;>rfl
 have h13:f 13=.int .i64 (i:Nat):=by rw[hf,h130]<;>rfl
 have mR:fr 1000=.vec g 8 (T.map V.sav):=by rw[hm 1000 (by decide),mR0]<;>rfl
 have m4:fr 4=.vec h 8 ((T.take i).map V.sav):=by rw[hm 4 (by decide),m40]<;>rfl
 have n6:=hn6 6 (by decide);clear hf hm hn6 h30 h40 h110 h120 h130 mR0 m40 r6;simp only[h12,h13,Qa,seval];by_cases hlt:i<T.length
 ·obtain⟨x,hi⟩:∃x,T[i]? = some x:=⟨T[i],Qmv hlt⟩;have hg:=WH hi;have e1:=Qw i _ hlt (by simp only[maxLen];omega);have ia:∀(fr:Nat→Ob) (j:Nat),fr 1000=.vec g 8 (T.map V.sav)→j<T.length→Qf [fr] 8 none (.vec 0 1000 g 0 T.length false) ((j:Nat):Int)=some (.vptr 0 1000 g j 0):=fun fr j h hj=>ED h hj
  have la:∀(fr:Nat→Ob),fr 1000=.vec g 8 (T.map V.sav)→Xf [fr] (some 8) (.vptr 0 1000 g i 0)=some (.agg [.int .i64 x.1,.int .i64 x.2.kd,.int .u64 (x.2.bits:Nat),.str x.2.text,.list (x.2.list.map V.av),.list (x.2.pairs.map V.pav),.list (x.2.slots.map V.sav),.list (x.2.raws.map R.av)]):=fun fr h=>CF h hg (by simp)
  have fin:∀(f':Fr) (fr':Nat→Ob) (h':Nat),f' 3=.vec 0 1000 g 0 T.length false→f' 4=.vec 0 4 h' 0 (i+1) false→f' 11=.vec 0 1000 g 0 T.length false→f' 12=.int .i64 (T.length:Nat)→f' 13=.int .i64 ((i+1:Nat):Int)→fr' 1000=.vec g 8 (T.map V.sav)→fr' 4=.vec h' 8 ((T.take i).map V.sav++[V.sav x])→(∀s∈[6],(fr' s).isRow=false)→∃k,k<T.length-i∧SoI T k ⟨f',[fr'],[]⟩:=by
   intro f' fr' h' a3 a4 a11 a12 a13 b1 b4 b6;exact⟨T.length-(i+1),by omega,f',fr',i+1,g,h',rfl,rfl,by omega,a3,a4,a11,a12,a13,b1,by rw[b4,Qok,hi];simp,b6⟩
  have hti:((T.take i).map V.sav).length=i:=by rw[Qnq,Qns];omega
  simp only[QD hlt,ia,la,mR,hlt,n6,h3,h11,h13,e1,eE,seval];by_cases hl:i+1=T.length
  ·have d1:(((i+1:Nat):Int)==(T.length:Int))=true:=by simp;omega
   simp only[d1,h4,eE,seval];refine QS (l:=[V.sav x]) rfl rfl rfl (by rw[ZU];rfl) ?_;refine QN (site:=4) (g:=h) (n:=i) (xs:=(T.take i).map V.sav) (ys:=[V.sav x]) (by rfl) (by exact m4) rfl hti.symm rfl (Yd [x]) (by simp only[QmK,Qnr,maxLen];omega) (by simp only[QmK,Qnr];omega) ?_;simp only[h13,e1,Qa,seval];exact fin _ _ (h+1) (by exact h3) (by rfl) (by exact h11) (by exact h12) (by rfl) (by exact mR) (by rfl) (by simp<;>rfl)
  ·have d1:(((i+1:Nat):Int)==(T.length:Int))=false:=by simp;omega
   have hlt1:i+1<T.length:=by omega
   obtain⟨y,hj⟩:∃y,T[i+1]? = some y:=⟨T[i+1],Qmv hlt1⟩;have hgj:=WH hj;have lc:∀(fr:Nat→Ob),fr 1000=.vec g 8 (T.map V.sav)→Xf [fr] none (.vptr 0 1000 g (i+1) 0)=some (.int .i64 y.1):=fun fr h=>Qkl h hgj
   have hne:(x.1 != y.1)=true:=by
    rw[QoI]at hun;have:=hun i (i+1) hlt hlt1 (by omega);rw[(Qmu.1 hi).2,(Qmu.1 hj).2]at this
    simpa using this
   simp only[d1,ia,lc,mR,hlt1,hne,W9,QmU,h3,h4,e1,eE,seval];refine QS (l:=[V.sav x]) rfl rfl rfl (by rw[ZU];rfl) ?_;refine QN (site:=4) (g:=h) (n:=i) (xs:=(T.take i).map V.sav) (ys:=[V.sav x]) (by rfl) (by exact m4) rfl hti.symm rfl (Yd [x]) (by simp only[QmK,Qnr,maxLen];omega) (by simp only[QmK,Qnr];omega) ?_;simp only[h13,e1,Qa,seval];exact fin _ _ (h+1) (by exact h3) (by rfl) (by exact h11) (by exact h12) (by rfl) (by exact mR) (by rfl) (by simp<;>rfl)
 ·have e:i=T.length:=by omega
  subst e;rw[Qn9]at m4;simp only[QI hlt,h4,eE,seval];simp[AV.un,Zr,XE,m4];rw[Qm5 (by rw[Qnq];exact Qms _)]

def eP (P:PL)(k:Int)(x:AV):Prop:=∃p:V×V,x=V.pav p∧p.1.kx P k∧p.1.bits<18446744073709551616
theorem ezP {P:PL}{k:Int}{p:V×V}(h:p.1.kx P k)(hb:p.1.bits<18446744073709551616):Ez (eP P k) 14 (V.pav p):=by
 refine⟨⟨p,rfl,h,hb⟩,?_⟩;rw[Z2];exact⟨_,rfl,rfl,rfl,rfl,fun _=>rfl⟩
def kV:AV→V
 |.agg (_ :: .int _ b :: .str t :: _)=>.mk 0 b.toNat t [] [] [] []
 |_=>.mk 0 0 [] [] [] [] []
theorem Bh (p:V×V):kV (V.pav p)=.mk 0 p.1.bits p.1.text [] [] [] []:=by rw[Z2];rfl
def cP (k:Int)(x y:AV):Int:=Dj k (kV x).bits (kV x).text (kV y).bits (kV y).text
theorem T1 (k:Int)(a b:V):decide (Dj k a.bits a.text b.bits b.text<0)=kl k a b:=by
 unfold Dj kl;split
 ·exact Qgl _ _
 ·split
  ·exact RU _ _
  ·exact RU _ _
theorem Qgn (k:Int):SW (Tz.lt (cP k)):=by
 have e:Tz.lt (cP k)=fun x y=>kl k (kV x,kV x).1 (kV y,kV y).1:=by funext x y;exact T1 k _ _
 rw[e];exact CE (Ym k) fun x=>(kV x,kV x)

theorem Qko {P:PL}{k:Int}(hk:Ze k)(x y:V×V)(hx:x.1.kx P k)(hy:y.1.kx P k):Qi Tryz.prog 199 [V.pav x,V.pav y] (.int .i64 (Dj k x.1.bits x.1.text y.1.bits y.1.text)):=by
 have h:=Qd4 k hk x.1.bits y.1.bits x.1.text y.1.text;rw[←(WS hx).1,←(WS hy).1,Qe,Qe]at h;rw[Z2,Z2];refine wF Tryz.func199 ?_;simp only[eK,Tryz.f199,seval];simp only[Qm4,QnF,Qnd,eE,seval];refine aC h ?_;simp only[Qa,seval]

theorem Qer {P:PL}{k:Int}(hk:Ze k):Tz.Cp Tryz.prog 14 (eP P k) 199 (cP k) where
 call x y hx hy:=by
  obtain⟨p,rfl,h1,_⟩:=hx.1;obtain⟨q,rfl,h2,_⟩:=hy.1;unfold cP;rw[Bh,Bh];exact Qko hk p q h1 h2
 sw:=Qgn k

theorem CG (k:Int)(l:List (V×V)):QF (Tz.lt (cP k)) (l.map V.pav)=(Xc k l).map V.pav:=Yq (fun x y=>by
 show decide (cP k (V.pav x) (V.pav y)<0)=_;unfold cP;rw[Bh,Bh];exact T1 k x.1 y.1) l
theorem Wr (l:List (V×V)):(l.map V.pav).all (fun e=>e.cells.length==14)=true:=by
 rw[List.all_map,QmI];intro x _;simp[Z2,AV.cells]

def PoI (T:List (V×V))(k:Nat)(st:St):Prop :=
 ∃f fr i g h,st=⟨f,[fr],[]⟩∧k=T.length-i∧i≤T.length∧f 3=.vec 0 1000 g 0 T.length false∧f 4=.vec 0 4 h 0 i false∧f 11=.vec 0 1000 g 0 T.length false∧f 12=.int .i64 (T.length:Nat)∧f 13=.int .i64 (i:Nat)∧fr 1000=.vec g 14 (T.map V.pav)∧fr 4=.vec h 14 ((T.take i).map V.pav)∧∀s∈[6],(fr s).isRow=false

theorem Qkp {P:PL}{k:Int}(hk:Ze k)(ps:List (V×V))(hn:ps.length≤1048576)(h1:∀p∈ps,p.1.kx P k)(hb:∀p∈ps,p.1.bits<18446744073709551616)(hu:ps.Pairwise fun q p=>Xz q.1 p.1=false):Qi Tryz.prog 108 [.list (ps.map V.pav)] (.list ((Xc k ps).map V.pav)):=by
 have cl:=fun fr hr=>Qeq (ps.map V.pav) fr [] (Wr ps) (by rw[Qnq];exact hn) hr
 have ez:∀x∈ps.map V.pav,Ez (eP P k) 14 x:=by
  intro x hx;obtain⟨p,hp,rfl⟩:=QnQ.1 hx;exact ezP (h1 p hp) (hb p hp)
 have cs:=fun g (m:Qh) (hl:Am.Qc m 0 1000=.vec g 14 (ps.map V.pav))=>Tz.RT Tg.T0 (by decide) (Qer (P:=P) hk) 0 1000 g (ps.map V.pav) m hl ez (by rw[Qnq];omega)
 simp only[CG,Qnq]at cs;have hperm:(Xc k ps).Perm ps:=Q0 _;have hlen:(Xc k ps).length=ps.length:=hperm.length_eq;have hun:(Xc k ps).Pairwise fun q p=>Xz q.1 p.1=false:=(hperm.pairwise_iff fun {a b} h=>by unfold Xz at *;rw[←h,Bool.beq_comm (a:=b.1.bits),Bool.beq_comm (a:=b.1.text)]).2 hu
 have h1T:∀p∈Xc k ps,p.1.kx P k:=fun p hp=>h1 p (hperm.mem_iff.1 hp)
 have hbT:∀p∈Xc k ps,p.1.bits<18446744073709551616:=fun p hp=>hb p (hperm.mem_iff.1 hp)
 generalize Xc k ps=T at *;refine wF Tryz.func108 ?_;simp only[eK,Tryz.f108,seval];simp only[Qa,seval];refine Qg (cl _ rfl) (by simp only[Qm3,Qnx,Qa,seval]) ?_;simp only[Qnq,Qa,seval];refine Qg (cs _ _ (by simp only[eE,seval]<;>rfl)) (by simp only[Qm3,Qnx,Qa,seval]) ?_;simp only[eE,seval];refine Zo (by simp only[Qa,seval]) (by simp only[Qa,seval]) ?_;simp only[eE,seval];refine Qk (PoI T) _ ⟨_,_,0,_,_,rfl,rfl,QmE _,(by rw[hlen];exact(by rfl)),(by rfl),(by rw[hlen];exact(by rfl)),(by rw[hlen];exact(by rfl)),(by rfl),(by rfl),(by rfl),by simp<;>rfl⟩ ?_;rintro _ st ⟨f0,fr0,i,g,h,rfl,rfl,hil,h30,h40,h110,h120,h130,mR0,m40,r6⟩;refine QL (a:=_) [6] r6 ?_;intro f fr hf hm hn6;have h3:f 3=.vec 0 1000 g 0 T.length false:=by rw[hf,h30]<;>rfl
 have h4:f 4=.vec 0 4 h 0 i false:=by rw[hf,h40]<;>rfl
 have h11:f 11=.vec 0 1000 g 0 T.length false:=by rw[hf,h110]<;>rfl
 have h12:f 12=.int .i64 (T.length:Nat):=by rw[hf,h120]<;>rfl
 have h13:f 13=.int .i64 (i:Nat):=by rw[hf,h130]<;>rfl
 have mR:fr 1000=.vec g 14 (T.map V.pav):=by rw[hm 1000 (by decide),mR0]<;>rfl
 have m4:fr 4=.vec h 14 ((T.take i).map V.pav):=by rw[hm 4 (by decide),m40]<;>rfl
 have n6:=hn6 6 (by decide);clear hf hm hn6 h30 h40 h110 h120 h130 mR0 m40 r6;simp only[h12,h13,Qa,seval];by_cases hlt:i<T.length
 ·obtain⟨x,hi⟩:∃x,T[i]? = some x:=⟨T[i],Qmv hlt⟩;have hg:=WG hi;have e1:=Qw i _ hlt (by simp only[maxLen];omega);have ia:∀(fr:Nat→Ob) (j:Nat),fr 1000=.vec g 14 (T.map V.pav)→j<T.length→Qf [fr] 14 none (.vec 0 1000 g 0 T.length false) ((j:Nat):Int)=some (.vptr 0 1000 g j 0):=fun fr j h hj=>ED h hj
  have la:∀(fr:Nat→Ob),fr 1000=.vec g 14 (T.map V.pav)→Xf [fr] (some 14) (.vptr 0 1000 g i 0)=some (.agg [.int .i64 x.1.kd,.int .u64 (x.1.bits:Nat),.str x.1.text,.list (x.1.list.map V.av),.list (x.1.pairs.map V.pav),.list (x.1.slots.map V.sav),.list (x.1.raws.map R.av),.int .i64 x.2.kd,.int .u64 (x.2.bits:Nat),.str x.2.text,.list (x.2.list.map V.av),.list (x.2.pairs.map V.pav),.list (x.2.slots.map V.sav),.list (x.2.raws.map R.av)]):=fun fr h=>CF h hg (by simp)
  have fin:∀(f':Fr) (fr':Nat→Ob) (h':Nat),f' 3=.vec 0 1000 g 0 T.length false→f' 4=.vec 0 4 h' 0 (i+1) false→f' 11=.vec 0 1000 g 0 T.length false→f' 12=.int .i64 (T.length:Nat)→f' 13=.int .i64 ((i+1:Nat):Int)→fr' 1000=.vec g 14 (T.map V.pav)→fr' 4=.vec h' 14 ((T.take i).map V.pav++[V.pav x])→(∀s∈[6],(fr' s).isRow=false)→∃k,k<T.length-i∧PoI T k ⟨f',[fr'],[]⟩:=by
   intro f' fr' h' a3 a4 a11 a12 a13 b1 b4 b6;exact⟨T.length-(i+1),by omega,f',fr',i+1,g,h',rfl,rfl,by omega,a3,a4,a11,a12,a13,b1,by rw[b4,Qok,hi];simp,b6⟩
  have hti:((T.take i).map V.pav).length=i:=by rw[Qnq,Qns];omega
  simp only[QD hlt,ia,la,mR,hlt,n6,h3,h11,h13,e1,eE,seval];by_cases hl:i+1=T.length
  ·have d1:(((i+1:Nat):Int)==(T.length:Int))=true:=by simp;omega
   simp only[d1,h4,eE,seval];refine QS (l:=[V.pav x]) rfl rfl rfl (by rw[Z2];rfl) ?_;refine QN (site:=4) (g:=h) (n:=i) (xs:=(T.take i).map V.pav) (ys:=[V.pav x]) (by rfl) (by exact m4) rfl hti.symm rfl (Wr [x]) (by simp only[QmK,Qnr,maxLen];omega) (by simp only[QmK,Qnr];omega) ?_;simp only[h13,e1,Qa,seval];exact fin _ _ (h+1) (by exact h3) (by rfl) (by exact h11) (by exact h12) (by rfl) (by exact mR) (by rfl) (by simp<;>rfl)
  ·have d1:(((i+1:Nat):Int)==(T.length:Int))=false:=by simp;omega
   have hlt1:i+1<T.length:=by omega
   obtain⟨y,hj⟩:∃y,T[i+1]? = some y:=⟨T[i+1],Qmv hlt1⟩;have hgj:=WG hj;have lc:∀(fr:Nat→Ob),fr 1000=.vec g 14 (T.map V.pav)→Xf [fr] (some 7) (.vptr 0 1000 g (i+1) 0)=some (.agg [.int .i64 y.1.kd,.int .u64 (y.1.bits:Nat),.str y.1.text,.list (y.1.list.map V.av),.list (y.1.pairs.map V.pav),.list (y.1.slots.map V.sav),.list (y.1.raws.map R.av)]):=fun fr h=>by
    rw[CF h hgj (by simp)];rfl
   have hx1:=h1T x (QmJ hi);have hy1:=h1T y (QmJ hj);have hne:Xz x.1 y.1=false:=by
    rw[QoI]at hun;have:=hun i (i+1) hlt hlt1 (by omega);rw[(Qmu.1 hi).2,(Qmu.1 hj).2]at this;exact this
   have hq:=Ec k hk x.1.bits y.1.bits x.1.text y.1.text;rw[←(WS hx1).1,←(WS hy1).1,BQ hk hx1 hy1 (hbT x (QmJ hi)) (hbT y (QmJ hj)),hne,Qe,Qe]at hq;simp only[d1,ia,lc,mR,hlt1,W9,QmU,Qm4,QnF,Qnd,h3,e1,eE,seval];refine aC hq ?_;simp only[h4,eE,seval];refine QS (l:=[V.pav x]) rfl rfl rfl (by rw[Z2];rfl) ?_;refine QN (site:=4) (g:=h) (n:=i) (xs:=(T.take i).map V.pav) (ys:=[V.pav x]) (by rfl) (by exact m4) rfl hti.symm rfl (Wr [x]) (by simp only[QmK,Qnr,maxLen];omega) (by simp only[QmK,Qnr];omega) ?_;simp only[h13,e1,Qa,seval];exact fin _ _ (h+1) (by exact h3) (by rfl) (by exact h11) (by exact h12) (by rfl) (by exact mR) (by rfl) (by simp<;>rfl)
 ·have e:i=T.length:=by omega
  subst e;rw[Qn9]at m4;simp only[QI hlt,h4,eE,seval];simp[AV.un,Zr,XE,m4];rw[Qm5 (by rw[Qnq];exact Qms _)]

def eR (x:AV):Prop:=∃f:R,x=f.av
theorem Qgo (f:R):Ez eR 4 f.av:=⟨⟨f,rfl⟩,_,rfl,rfl,rfl,rfl,fun _=>rfl⟩
theorem v59 (x y:R):Qi Tryz.prog 59 [x.av,y.av] (.int .i64 (cN x.num y.num)):=by
 refine wF Tryz.func59 ?_;simp only[eK,Tryz.f59,seval];simp only[R.av,eE,seval];refine aC (IF x.num y.num) ?_;simp only[Qa,seval]
theorem Qkq:Tz.Cp Tryz.prog 4 eR 59 cA where
 call x y hx hy:=by
  obtain⟨s,rfl⟩:=hx.1;obtain⟨t,rfl⟩:=hy.1;exact v59 s t
 sw:=LC
theorem EF (l:List R):QF (Tz.lt cA) (l.map R.av)=(Wk l).map R.av:=Yq (fun x y=>by rw[RV];rfl) l
theorem Hm (l:List R):(l.map R.av).all (fun e=>e.cells.length==4)=true:=by
 rw[List.all_map,QmI];intro x _;rfl
theorem ezR (l:List R):∀x∈l.map R.av,Ez eR 4 x:=by
 intro x hx;obtain⟨s,_,rfl⟩:=QnQ.1 hx;exact Qgo s

theorem T2 (v:V):v.nsc.av=.agg [.int .i64 v.kd,.int .u64 ((XB v.kd v.bits:Nat):Int),.str v.text,.list (v.list.map V.av),.list (v.pairs.map V.pav),.list (v.slots.map V.sav),.list (v.raws.map R.av)]:=by
 rw[Qe];rfl

theorem Qkr (b:Nat)(hb:b<18446744073709551616):Qi Tryz.prog 202 [.int .u64 (b:Nat)] (.int .i64 (Dl b:Nat)):=by
 refine wF Tryz.func202 ?_;simp only[eK,Tryz.f202,seval];have a1:bits .and .u64 (b:Int) 9218868437227405312=(((b / 4503599627370496 % 2048)*4503599627370496:Nat):Int):=by
  have:=Uy b 9218868437227405312 hb (by decide);rw[TD]at this;exact this
 have a2:bits .and .u64 (b:Int) 4503599627370495=((b % 4503599627370496:Nat):Int):=by
  have:=Uy b 4503599627370495 hb (by decide);rw[TC]at this;exact this
 simp only[a1,a2,Qa,seval];unfold Dl
 repeat' (first|(refine QW (fun h=>?_) (fun h=>?_)<;>simp only[h,Qa,seval])|(refine XM (fun h=>?_) (fun h=>?_)<;>simp only[h,Qj,Qa,seval])|(refine XN (fun h=>?_) (fun h=>?_)<;>simp only[h,Qj,eE,seval]))
 all_goals(simp only[QmA,QmY,bne_eq_false_iff_eq,Qoi,ne_eq]at *)
 all_goals((repeat' split)<;>first|rfl|(exfalso;omega))

theorem EG (v:V)(hb:v.bits<18446744073709551616):Qi Tryz.prog 109 [v.av] v.nsc.av:=by
 rw[T2,Qe];refine wF Tryz.func109 ?_;simp only[eK,Tryz.f109,seval];simp only[eE,seval];by_cases hk:v.kd=6
 ·have b0:(v.kd==6)=true:=by simp[hk]
  simp only[b0,eE,seval];refine aC (Qkr v.bits hb) ?_;simp only[Qeb,Qa,seval];by_cases hc:Dl v.bits=0
  ·simp only[hc,XB,hk,decide_true,and_self,splice,Qm4,QnF,Qm7,Qnd,QmR,QmS,QmK,Qnr,eE,seval]
   try rfl
  ·simp only[hc,XB,decide_false,and_false,eE,seval]
 ·have b0:(v.kd==6)=false:=by simp[hk]
  simp only[b0,XB,hk,false_and,eE,seval]

theorem DS {x:V}:∀ {l:List V},x∈l→x.cnt≤Q9 l
 |y :: l,h=>by
  rw[Q9];rcases QnS.1 h with rfl|h
  ·omega
  ·have:=DS h;omega
theorem Hn {x:V×V}:∀ {l:List (V×V)},x∈l→x.1.cnt+x.2.cnt≤Xi l
 |(a,b) :: l,h=>by
  rw[Xi];rcases QnS.1 h with rfl|h
  ·dsimp only;omega
  ·have:=Hn h;omega
theorem CH {x:Int×V}:∀ {l:List (Int×V)},x∈l→x.2.cnt≤Xg l
 |(a,b) :: l,h=>by
  rw[Xg];rcases QnS.1 h with rfl|h
  ·dsimp only;omega
  ·have:=CH h;omega
theorem Zp (v:V):1≤v.cnt:=by rw[Q1];omega
theorem DT:∀l:List V,l.length≤Q9 l
 | []=>Qms _
 |x :: l=>by
  have:=Zp x;have:=DT l;simp only[Q9,QmK];omega
theorem CJ:∀l:List (V×V),2*l.length≤Xi l
 | []=>Qms _
 |(a,b) :: l=>by
  have:=Zp a;have:=Zp b;have:=CJ l;simp only[Xi,QmK];omega
theorem CL:∀l:List (Int×V),l.length≤Xg l
 | []=>Qms _
 |(a,b) :: l=>by
  have:=Zp b;have:=CL l;simp only[Xg,QmK];omega
theorem CM {v x:V}(h:x∈v.list):x.cnt≤v.cnt:=by have:=DS h;rw[Q1 v];omega
theorem Qbn {v:V}{x:V×V}(h:x∈v.pairs):x.1.cnt≤v.cnt:=by have:=Hn h;rw[Q1 v];omega
theorem Pb {v:V}{x:V×V}(h:x∈v.pairs):x.2.cnt≤v.cnt:=by have:=Hn h;rw[Q1 v];omega
theorem KJ {v:V}{x:Int×V}(h:x∈v.slots):x.2.cnt≤v.cnt:=by have:=CH h;rw[Q1 v];omega
theorem Jx (v:V):v.list.length≤v.cnt:=by have:=DT v.list;rw[Q1 v];omega
theorem J1 (v:V):v.pairs.length≤v.cnt:=by have:=CJ v.pairs;rw[Q1 v];omega
theorem Zk (v:V):v.slots.length≤v.cnt:=by have:=CL v.slots;rw[Q1 v];omega
theorem WK (v:V):v.raws.length≤v.cnt:=by rw[Q1 v];omega

section
variable {M:Nat}{P:PL}{m:PG→V→Prop}{nm:PG→V→V}(o:PO)(ho:UO P o)

include ho in
theorem Qks (hm:∀(t:Int) (g:PG),P.progs[t.toNat]? = some g→0≤t→∀v:V,v.ok M→v.cnt≤1048576→m g v→Qi Tryz.prog 26 [P.av,.int .i64 t,v.av] (nm g v).av)(v:V)(hv:v.ok M)(hc:v.cnt≤1048576)(he:EW m P o v) :
  Qi Tryz.prog 107 [P.av,Qz o,v.av] (ZD nm P o v).av:=by
 have e0:P.av=.agg [.list (P.progs.map Qm),.list (P.enums.map QE)]:=rfl;unfold ZD;by_cases hk:o.kind=10
 ·have b:(o.kind==10)=true:=by simp[hk]
  have he:=he hk;rw[QmD hk];obtain⟨t0,t1⟩:=ho.tgt hk;obtain⟨g,hg⟩:∃g,P.progs[o.target.toNat]? = some g:=⟨P.progs[o.target.toNat]'(by omega),Qmv (by omega)⟩;have hq:Qq P o.target=g:=by unfold Qq;rw[hg];rfl
  rw[hq]at he ⊢;have h2:=hm o.target g hg t0 v hv hc he;generalize nm g v=z at h2 ⊢;rw[e0,Qe,Qe]at h2;rw[Qe,Qe];refine wF Tryz.func107 ?_;simp only[eK,Tryz.f107,seval];simp only[e0,Qz,PO.cells,b,eE,seval];refine aC h2 ?_;simp only[eE,seval]
 ·have b:(o.kind==10)=false:=by simp[hk]
  rw[QmC hk];have h1:=EG v (UE hv);generalize v.nsc=z at h1 ⊢;rw[Qe,Qe]at h1;rw[Qe,Qe];refine wF Tryz.func107 ?_;simp only[eK,Tryz.f107,seval];simp only[e0,Qz,PO.cells,b,eE,seval];refine aC h1 ?_;simp only[eE,seval]

def NlI (P:PL)(o:PO)(l:List V)(F:V→V)(k:Nat)(st:St):Prop :=
 ∃f fr i g,st=⟨f,[fr],[]⟩∧k=l.length-i∧i≤l.length∧f 3=.ptr 0 3 0∧f 4=.ptr 0 4 0∧f 6=.ptr 0 6 0∧f 7=.ptr 0 7 0∧f 19=.list (l.map V.av)∧f 20=.int .i64 (l.length:Nat)∧f 21=.int .i64 (i:Nat)∧fr 3=.cells [.list (P.progs.map Qm),.list (P.enums.map QE)]∧fr 4=.cells o.cells∧fr 6=.cells [.int .i64 0,.int .u64 0,.str [],.nils,.nils,.nils,.nils]∧fr 7=.cells [.int .i64 11,.int .u64 0,.str [],.vec 0 1100 g 0 i false,.nils,.nils,.nils]∧fr 1100=.vec g 7 ((l.take i).map fun x=>(F x).av)∧∀s∈[9],(fr s).isRow=false

def NpI (P:PL)(o:PO)(T:List (V×V))(F:V×V→V×V)(k:Nat)(st:St):Prop :=
 ∃f fr i g,st=⟨f,[fr],[]⟩∧k=T.length-i∧i≤T.length∧f 3=.ptr 0 3 0∧f 4=.ptr 0 4 0∧f 6=.ptr 0 6 0∧f 10=.ptr 0 10 0∧f 41=.list (T.map V.pav)∧f 42=.int .i64 (T.length:Nat)∧f 43=.int .i64 (i:Nat)∧fr 3=.cells [.list (P.progs.map Qm),.list (P.enums.map QE)]∧fr 4=.cells o.cells∧fr 6=.cells [.int .i64 0,.int .u64 0,.str [],.nils,.nils,.nils,.nils]∧fr 10=.cells [.int .i64 12,.int .u64 0,.str [],.nils,.vec 0 1101 g 0 i false,.nils,.nils]∧fr 1101=.vec g 14 ((T.take i).map fun x=>V.pav (F x))∧∀s∈[12],(fr s).isRow=false

theorem Qgp (l:List V)(F:V→V):(l.map fun x=>(F x).av)=(l.map F).map V.av:=by rw[Qom];rfl
theorem Qes (l:List (V×V))(F:V×V→V×V):(l.map fun x=>V.pav (F x))=(l.map F).map V.pav:=by rw[Qom];rfl

set_option maxHeartbeats 1000000 in
include ho in
theorem v56 (hel:∀v:V,v.ok M→v.cnt≤1048576→EW m P o v→Qi Tryz.prog 107 [P.av,Qz o,v.av] (ZD nm P o v).av)(v:V)(hv:v.ok M)(hc:v.cnt≤1048576)(he:FW m P o v) :
  Qi Tryz.prog 56 [P.av,Qz o,v.av] (Zy nm P o v).av:=by
 have e0:P.av=.agg [.list (P.progs.map Qm),.list (P.enums.map QE)]:=rfl;unfold Zy;unfold FW at he;by_cases h4:o.card=4
 ·have b4:(o.card==4)=true:=by simp[h4]
  rw[QmD h4]at he;rw[QmD h4];have hL:=he;have hlen:=Jx v;rw[Qe v];generalize hF:ZD nm P o=F at hel ⊢;rw[show(V.mk 11 0 [] (v.list.map F) [] [] []).av=.agg [.int .i64 11,.int .u64 0,.str [],.list ((v.list.map F).map V.av),.list [],.list [],.list []]from Qe _];refine wF Tryz.func56 ?_;simp only[eK,Tryz.f56,seval];simp only[e0,Qz,PO.cells,b4,eE,seval];refine YF (by simp only[Qa,seval]<;>rfl) rfl (by simp only[Qa,seval]<;>rfl) rfl ?_;simp only[List.set,Qnq,eE,seval];refine Qk (NlI P o v.list F) _ ⟨_,_,0,_,rfl,rfl,QmE _,(by rfl),(by rfl),(by rfl),(by rfl),(by rfl),(by rfl),(by rfl),(by rfl),(by rfl),(by rfl),(by rfl),(by rfl),by simp<;>rfl⟩ ?_;rintro _ st ⟨f0,fr0,i,g,rfl,rfl,hil,h30,h40,h60,h70,h190,h200,h210,m30,m40,m60,m70,mR0,r9⟩;refine QL (a:=_) [9] r9 ?_;intro f fr hf hm hn9;have h3:f 3=.ptr 0 3 0:=by rw[hf,h30]<;>rfl
  have h4:f 4=.ptr 0 4 0:=by rw[hf,h40]<;>rfl
  have h6:f 6=.ptr 0 6 0:=by rw[hf,h60]<;>rfl
  have h7:f 7=.ptr 0 7 0:=by rw[hf,h70]<;>rfl
  have h19:f 19=.list (v.list.map V.av):=by rw[hf,h190]<;>rfl
  have h20:f 20=.int .i64 (v.list.length:Nat):=by rw[hf,h200]<;>rfl
  have h21:f 21=.int .i64 (i:Nat):=by rw[hf,h210]<;>rfl
  have m3:fr 3=.cells [.list (P.progs.map Qm),.list (P.enums.map QE)]:=by rw[hm 3 (by decide),m30]<;>rfl
  have m4:fr 4=.cells o.cells:=by rw[hm 4 (by decide),m40]<;>rfl
  have m6:fr 6=.cells [.int .i64 0,.int .u64 0,.str [],.nils,.nils,.nils,.nils]:=by rw[hm 6 (by decide),m60]<;>rfl
  have m7:fr 7=.cells [.int .i64 11,.int .u64 0,.str [],.vec 0 1100 g 0 i false,.nils,.nils,.nils]:=by rw[hm 7 (by decide),m70]<;>rfl
  have mR:fr 1100=.vec g 7 ((v.list.take i).map fun x=>(F x).av):=by rw[hm 1100 (by decide),mR0]<;>rfl
  have n9:=hn9 9 (by decide);clear hf hm hn9 h30 h40 h60 h70 h190 h200 h210 m30 m40 m60 m70 mR0 r9;have m4':=m4;simp only[PO.cells]at m4;simp only[h20,h21,Qa,seval];by_cases hlt:i<v.list.length
  ·obtain⟨x,hi⟩:∃x,v.list[i]? = some x:=⟨v.list[i],Qmv hlt⟩;have hx:=QmJ hi;have hg:=He hi;have e1:=Qw i _ hlt (by simp only[maxLen];omega);have c1:=hel x (hv.list x hx) (Qmt (CM hx) hc) (hL x hx);have hti:((v.list.take i).map fun x=>(F x).av).length=i:=by rw[Qnq,Qns];omega
   have hts:(v.list.take (i+1)).map (fun x=>(F x).av)=(v.list.take i).map (fun x=>(F x).av)++[(F x).av]:=by rw[Qok,hi];simp
   generalize F x=z at c1 hts;rw[e0,Qe,Qe z]at c1;simp only[Qz,PO.cells]at c1;simp only[QD hlt,Qv,QnY,Qf,hg,n9,h3,h4,h7,h19,h21,m3,m4,m7,eE,seval];refine aC c1 ?_;refine QS (l:=[z.av]) rfl rfl rfl (by rw[Qe];rfl) ?_;refine QN (site:=1100) (g:=g) (n:=i) (xs:=(v.list.take i).map fun x=>(F x).av) (ys:=[z.av]) (by rfl) (by exact mR) rfl hti.symm rfl (DR [z]) (by simp only[QmK,Qnr,maxLen];omega) (by simp only[QmK,Qnr];omega) ?_;simp only[h7,h21,m7,e1,eE,seval];exact⟨v.list.length-(i+1),by omega,_,_,i+1,g+1,rfl,rfl,by omega,(by exact h3),(by exact h4),(by exact h6),(by exact h7),(by exact h19),(by exact h20),(by rfl),(by exact m3),(by exact m4'),(by exact m6),(by rfl),(by rw[hts];exact(by rfl)),by simp<;>rfl⟩
  ·have e:i=v.list.length:=by omega
   subst e;rw[Qn9,Qgp]at mR;simp only[QI hlt,h6,h7,m6,m7,eE,seval];simp[AV.un,AV.unL,Zr,XE,mR,Qm5]
 ·have b4:(o.card==4)=false:=by simp[h4]
  rw[QmC h4];by_cases h5:o.card=5
  ·have b5:(o.card==5)=true:=by simp[h5]
   rw[QmC h4,QmD h5]at he;rw[QmD h5];have hE:=he;have hlen:=J1 v;have hk:=ho.key h5;have hkn:=Qbe ho.key h5 fun p hp=>(hE.1 p hp).1
   have cp:=Qkp hk v.pairs (by omega) (fun p hp=>(hE.1 p hp).1) (fun p hp=>UE (hv.keys p hp)) hE.2;have hperm:(Xc o.key v.pairs).Perm v.pairs:=Q0 _;have hTl:(Xc o.key v.pairs).length=v.pairs.length:=hperm.length_eq;have hTm:∀p∈Xc o.key v.pairs,p∈v.pairs:=fun p h=>hperm.mem_iff.1 h
   generalize Xc o.key v.pairs=T at *;rw[Qe v];generalize hF:(fun p:V×V=>(p.1.nsc,ZD nm P o p.2))=F;rw[show(V.mk 12 0 [] [] (T.map F) [] []).av=.agg [.int .i64 12,.int .u64 0,.str [],.list [],.list ((T.map F).map V.pav),.list [],.list []]from Qe _];refine wF Tryz.func56 ?_;simp only[eK,Tryz.f56,seval];simp only[e0,Qz,PO.cells,b4,b5,eE,seval];refine YF (by simp only[Qa,seval]<;>rfl) rfl (by simp only[Qa,seval]<;>rfl) rfl ?_;simp only[List.set,eE,seval];refine aC cp ?_;simp only[Qnq,Qa,seval];refine Qk (NpI P o T F) _ ⟨_,_,0,_,rfl,rfl,QmE _,(by rfl),(by rfl),(by rfl),(by rfl),(by rfl),(by rfl),(by rfl),(by rfl),(by rfl),(by rfl),(by rfl),(by rfl),by simp<;>rfl⟩ ?_;rintro _ st ⟨f0,fr0,i,g,rfl,rfl,hil,h30,h40,h60,h100,h410,h420,h430,m30,m40,m60,m100,mR0,r12⟩;refine QL (a:=_) [12] r12 ?_;intro f fr hf hm hn12;have h3:f 3=.ptr 0 3 0:=by rw[hf,h30]<;>rfl
   have h4:f 4=.ptr 0 4 0:=by rw[hf,h40]<;>rfl
   have h6:f 6=.ptr 0 6 0:=by rw[hf,h60]<;>rfl
   have h10:f 10=.ptr 0 10 0:=by rw[hf,h100]<;>rfl
   have h41:f 41=.list (T.map V.pav):=by rw[hf,h410]<;>rfl
   have h42:f 42=.int .i64 (T.length:Nat):=by rw[hf,h420]<;>rfl
   have h43:f 43=.int .i64 (i:Nat):=by rw[hf,h430]<;>rfl
   have m3:fr 3=.cells [.list (P.progs.map Qm),.list (P.enums.map QE)]:=by rw[hm 3 (by decide),m30]<;>rfl
   have m4:fr 4=.cells o.cells:=by rw[hm 4 (by decide),m40]<;>rfl
   have m6:fr 6=.cells [.int .i64 0,.int .u64 0,.str [],.nils,.nils,.nils,.nils]:=by rw[hm 6 (by decide),m60]<;>rfl
   have m10:fr 10=.cells [.int .i64 12,.int .u64 0,.str [],.nils,.vec 0 1101 g 0 i false,.nils,.nils]:=by rw[hm 10 (by decide),m100]<;>rfl
   have mR:fr 1101=.vec g 14 ((T.take i).map fun x=>V.pav (F x)):=by rw[hm 1101 (by decide),mR0]<;>rfl
   have n12:=hn12 12 (by decide);clear hf hm hn12 h30 h40 h60 h100 h410 h420 h430 m30 m40 m60 m100 mR0 r12;have m4':=m4;simp only[PO.cells]at m4;simp only[h42,h43,Qa,seval];by_cases hlt:i<T.length
   ·obtain⟨x,hi⟩:∃x,T[i]? = some x:=⟨T[i],Qmv hlt⟩;have hx:=hTm x (QmJ hi);have hg:=WG hi;have e1:=Qw i _ hlt (by simp only[maxLen];omega);have c0:=EG x.1 (UE (hv.keys x hx));have c1:=hel x.2 (hv.vals x hx) (Qmt (Pb hx) hc) (hE.1 x hx).2;have hti:((T.take i).map fun x=>V.pav (F x)).length=i:=by rw[Qnq,Qns];omega
    have hFx:F x=(x.1.nsc,ZD nm P o x.2):=by rw[←hF]
    have hts:(T.take (i+1)).map (fun x=>V.pav (F x))=(T.take i).map (fun x=>V.pav (F x))++[V.pav (x.1.nsc,ZD nm P o x.2)]:=by rw[Qok,hi,←hFx];simp
    generalize x.1.nsc=y at c0 hts;generalize ZD nm P o x.2=z at c1 hts;rw[Qe,Qe y]at c0;rw[e0,Qe,Qe z]at c1;simp only[Qz,PO.cells]at c1;simp only[QD hlt,Qv,QnY,Qf,hg,n12,h10,h41,h43,m10,eE,seval];refine aC c0 ?_;simp only[Qm4,Qm7,Qnd,h3,h4,m3,m4,eE,seval];refine aC c1 ?_;simp only[eE,seval];refine QS (l:=[V.pav (y,z)]) rfl rfl rfl (by rw[Z2];rfl) ?_;refine QN (site:=1101) (g:=g) (n:=i) (xs:=(T.take i).map fun x=>V.pav (F x)) (ys:=[V.pav (y,z)]) (by rfl) (by exact mR) rfl hti.symm rfl (Wr [(y,z)]) (by simp only[QmK,Qnr,maxLen];omega) (by simp only[QmK,Qnr];omega) ?_;simp only[h10,h43,m10,e1,eE,seval];exact⟨T.length-(i+1),by omega,_,_,i+1,g+1,rfl,rfl,by omega,(by exact h3),(by exact h4),(by exact h6),(by exact h10),(by exact h41),(by exact h42),(by rfl),(by exact m3),(by exact m4'),(by exact m6),(by rfl),(by rw[hts];exact(by rfl)),by simp<;>rfl⟩
   ·have e:i=T.length:=by omega
    subst e;rw[Qn9,Qes]at mR;simp only[QI hlt,h6,h10,m6,m10,eE,seval];simp[AV.un,AV.unL,Zr,XE,mR,Qm5]
  ·have b5:(o.card==5)=false:=by simp[h5]
   rw[QmC h4,QmC h5]at he;rw[QmC h5];have c1:=hel v hv hc he;generalize ZD nm P o v=z at c1 ⊢;rw[e0,Qe v,Qe z]at c1;simp only[Qz,PO.cells]at c1;rw[Qe v,Qe z];refine wF Tryz.func56 ?_;simp only[eK,Tryz.f56,seval];simp only[e0,Qz,PO.cells,b4,b5,eE,seval];refine aC c1 ?_;simp only[eE,seval]

end
open Vp Cp

theorem Xu (k:Int)(b:Nat)(t:List UInt8):(QM k b t).cnt=1:=by unfold QM;rw[Q1];rfl
theorem Zu {M:Nat}{k:Int}{b:Nat}{t:List UInt8}(hk:(Lit.int .i64 k).wf=true)(hb:b<18446744073709551616)(ht:t.length≤M):(QM k b t).ok M :=
 .mk hk (by simp[QM,V.bits,Lit.wf,IntKind.min,IntKind.max,IntKind.bits,IntKind.signed];omega) ht (QmE _) (QmE _) (QmE _) (QmE _) (fun _ hx=>nomatch hx) (fun _ hx=>nomatch hx) (fun _ hx=>nomatch hx) (fun _ hx=>nomatch hx) (fun _ hx=>nomatch hx) (fun _ hx=>nomatch hx)
theorem KL {k:Int}(h : -9223372036854775808≤k)(h':k<9223372036854775808):(Lit.int .i64 k).wf=true:=by
 simp[Lit.wf,IntKind.min,IntKind.max,IntKind.bits,IntKind.signed];omega

theorem Xv {v:V}{n:Int}{x:V}(h:XG v n=some x):(n,x)∈v.slots∧QT v n=x:=by
 unfold XG at h;cases hf:v.slots.find? (fun s=>s.1==n)with
 |none=>rw[hf]at h;cases h
 |some s=>
  rw[hf]at h;cases h;have h1:=Qos hf;have h2:s.1=n:=by simpa using Qot hf
  refine⟨?_,by unfold QT XG;rw[hf];rfl⟩;rw[←h2];exact h1
theorem ZP {v:V}{n:Int}(h:¬(XG v n).isSome=true):QT v n=QM 0 0 []:=by
 unfold QT;cases hf:XG v n with
 |none=>rfl
 |some x=>rw[hf]at h;simp at h

theorem Uu (p:Int×V→Bool):∀l:List (Int×V),Xg (l.filter p)≤Xg l
 | []=>Qms _
 |(n,x) :: l=>by
  have:=Uu p l;rw[Qn7];split<;>simp only[Xg]<;>omega
theorem ND {p:Int×V→Bool}{s:Int×V}(hp:p s=false):∀ {l:List (Int×V)},s∈l→Xg (l.filter p)+s.2.cnt≤Xg l
 |(n,x) :: l,h=>by
  have hf:=Uu p l;rcases QnS.1 h with rfl|h
  ·rw[Qn7,hp];simp only[QmO,if_false,Xg];omega
  ·have ih:=ND hp h;rw[Qn7];split<;>simp only[Xg]<;>omega
theorem T3 (g:PG)(o:PO)(x:V):Zz g o (o.num,x)=true:=by unfold Zz;simp
theorem KN (g:PG)(v:V)(o:PO)(x:V):(X6 g v o x).cnt≤v.cnt+x.cnt:=by
 have:=Uu (fun s=>!Zz g o s) v.slots;rw[Q1 v,Q1 (X6 g v o x)];show 1+v.raws.length+0+0+Xg (v.slots.filter (fun s=>!Zz g o s)++[(o.num,x)])≤_;rw[DL];simp only[Xg];omega
theorem Uh (g:PG)(v:V)(o:PO)(x:V){y:V}(h:XG v o.num=some y):(X6 g v o x).cnt+y.cnt≤v.cnt+x.cnt:=by
 have:=ND (p:=fun s=>!Zz g o s) (s:=(o.num,y)) (by rw[T3];rfl) (Xv h).1;rw[Q1 v,Q1 (X6 g v o x)];show 1+v.raws.length+0+0+Xg (v.slots.filter (fun s=>!Zz g o s)++[(o.num,x)])+_≤_;rw[DL];simp only[Xg];dsimp only at this;omega
theorem BZ (v:V)(f:R):(UI v f).cnt=v.cnt+1:=by
 rw[Q1 v,Q1 (UI v f)];show 1+(v.raws++[f]).length+Q9 v.list+Xi v.pairs+Xg v.slots=_;rw[Qm9];simp only[QmK,Qnr];omega
theorem WL (l:List V):(Xw l).cnt=1+Q9 l:=by unfold Xw;rw[Q1];show 1+0+Q9 l+0+0=_;omega
theorem CN (l:List (V×V)):(Wm l).cnt=1+Xi l:=by unfold Wm;rw[Q1];show 1+0+0+Xi l+0=_;omega
theorem Yr (l:List V)(x:V):Q9 (l++[x])=Q9 l+x.cnt:=by
 induction l with
 |nil=>simp[Q9]
 |cons y l ih=>simp only[QmR,Q9,ih];omega
theorem RW (l:List (V×V))(x:V×V):Xi (l++[x])=Xi l+x.1.cnt+x.2.cnt:=by
 induction l with
 |nil=>obtain⟨a,b⟩:=x;simp[Xi]
 |cons y l ih=>obtain⟨a,b⟩:=y;simp only[QmR,Xi,ih];omega
theorem Dm (p:V×V→Bool):∀l:List (V×V),Xi (l.filter p)≤Xi l
 | []=>Qms _
 |(a,b) :: l=>by
  have:=Dm p l;rw[Qn7];split<;>simp only[Xi]<;>omega
theorem EH (k:Int)(l:List (V×V))(x:V×V):Xi (ZH k l x)≤Xi l+x.1.cnt+x.2.cnt:=by
 unfold ZH;have hp:(Xc k ((l.filter fun q=>!Xz q.1 x.1)++[x])).Perm _:=Q0 _;rw[Nv hp,RW];have:=Dm (fun q=>!Xz q.1 x.1) l;omega
theorem CO {k:Int}{l:List (V×V)}{x p:V×V}(h:p∈ZH k l x):(p∈l∧Xz p.1 x.1=false)∨p=x:=by
 have hp:(ZH k l x).Perm _:=Q0 _;have h:=hp.mem_iff.1 h;rw[QnP,Qn3]at h;rcases h with⟨h1,h2⟩|h
 ·exact .inl ⟨h1,by simpa using h2⟩
 ·exact .inr (by simpa using h)
theorem YR (a b:V):Xz a b=Xz b a:=by
 unfold Xz;rw[Bool.beq_comm (a:=a.bits),Bool.beq_comm (a:=a.text)]
theorem Pd {k:Int}{l:List (V×V)}{x:V×V}(h:l.Pairwise fun q p=>Xz q.1 p.1=false):(ZH k l x).Pairwise fun q p=>Xz q.1 p.1=false:=by
 have hp:(ZH k l x).Perm _:=Q0 _;refine(hp.pairwise_iff fun {a b} h=>by rw[YR];exact h).2 ?_;rw[Qn6];refine⟨h.filter _,QoH _ _,?_⟩;intro a ha b hb;rw[QoG]at hb;subst hb
 simpa using (Qn3.1 ha).2
theorem EI (k:Int)(l:List (V×V))(x:V×V):(ZH k l x).length≤l.length+1:=by
 have hp:(ZH k l x).Perm _:=Q0 _;rw[hp.length_eq,Qm9];have:=List.length_filter_le (fun q=>!Xz q.1 x.1) l;simp only[QmK,Qnr];omega

section
variable {M:Nat}
theorem UN {l:List V}(h:∀x∈l,x.ok M)(hn:l.length≤1099511627776):(Xw l).ok M :=
 .mk rfl rfl (QmE _) hn (QmE _) (QmE _) (QmE _) h (fun _ hx=>nomatch hx) (fun _ hx=>nomatch hx) (fun _ hx=>nomatch hx) (fun _ hx=>nomatch hx) (fun _ hx=>nomatch hx)
theorem Qbo {l:List (V×V)}(h:∀x∈l,x.1.ok M∧x.2.ok M)(hn:l.length≤549755813888):(Wm l).ok M :=
 .mk rfl rfl (QmE _) (QmE _) hn (QmE _) (QmE _) (fun _ hx=>nomatch hx) (fun x hx=>(h x hx).1) (fun x hx=>(h x hx).2) (fun _ hx=>nomatch hx) (fun _ hx=>nomatch hx) (fun _ hx=>nomatch hx)
theorem J9 {g:PG}{v x:V}{o:PO}(hv:v.ok M)(ho:(Lit.int .i64 o.num).wf=true)(hx:x.ok M)(hn:v.slots.length+1≤1099511627776):(X6 g v o x).ok M:=by
 have hl:=List.length_filter_le (fun s=>!Zz g o s) v.slots;have key:∀s∈v.slots.filter (fun s=>!Zz g o s)++[(o.num,x)],(Lit.int .i64 s.1).wf=true∧s.2.ok M:=by
  intro s hs;rcases QnP.1 hs with hs|hs
  ·have:=(Qn3.1 hs).1;exact⟨hv.nums s this,hv.slots s this⟩
  ·rw[QoG]at hs;subst hs;exact⟨ho,hx⟩
 refine .mk rfl rfl (QmE _) (QmE _) (QmE _) ?_ hv.nr (fun _ hx=>nomatch hx) (fun _ hx=>nomatch hx) (fun _ hx=>nomatch hx) (fun s hs=>(key s hs).1) (fun s hs=>(key s hs).2) hv.raws;show(v.slots.filter (fun s=>!Zz g o s)++[(o.num,x)]).length≤_;rw[Qm9];simp only[QmK,Qnr];omega
theorem CP {v:V}{f:R}(hv:v.ok M)(hf:f.ok M)(hn:v.raws.length+1≤70368744177664):(UI v f).ok M:=by
 refine .mk hv.kd hv.bits hv.text hv.nl hv.np hv.ns ?_ hv.list hv.keys hv.vals hv.nums hv.slots ?_
 ·show(v.raws++[f]).length≤_;rw[Qm9];exact hn
 ·intro x hx;rcases QnP.1 hx with hx|hx
  ·exact hv.raws x hx
  ·rw[QoG]at hx;subst hx;exact hf
theorem Gq {v:V}{n:Int}(hv:v.ok M):(QT v n).ok M:=by
 unfold QT;cases h:XG v n with
 |none=>exact Zu rfl (by decide) (QmE _)
 |some x=>exact hv.slots _ (Xv h).1
end

theorem CQ {P:PL}{g:PG}{v:V}{f:R}:∀ {n:Nat},MW P n g v→MW P n g (UI v f)
 |_+1,h=>h
theorem Ka {P:PL}{g:PG}{v x:V}{o:PO}{n:Nat}(h:MW P (n+1) g v)(ho:Xq g o.num=some o)(hx:FW (MW P n) P o x):MW P (n+1) g (X6 g v o x):=by
 obtain⟨s1,s2⟩:=h;refine⟨?_,?_⟩
 ·intro s hs;rcases QnP.1 hs with hs|hs
  ·exact s1 s (Qn3.1 hs).1
  ·rw[QoG]at hs;subst hs;exact⟨o,ho,hx⟩
 ·show(v.slots.filter (fun s=>!Zz g o s)++[(o.num,x)]).Pairwise _;rw[Qn6];refine⟨s2.filter _,QoH _ _,?_⟩;intro a ha b hb;rw[QoG]at hb;subst hb;have h1:=(Qn3.1 ha).2;unfold Zz at h1;simp only[Bool.not_or,QmT,Qnt]at h1;exact h1.1
theorem Gr {P:PL}{g:PG}{v x:V}{o:PO}{n:Nat}(h:MW P (n+1) g v)(ho:Xq g o.num=some o)(hx:XG v o.num=some x):FW (MW P n) P o x:=by
 obtain⟨o',h1,h2⟩:=h.1 _ (Xv hx).1;rw[show((o.num,x):Int×V).1=o.num from rfl,ho]at h1;cases h1;exact h2
theorem ZB {P:PL}{g:PG}{k:Int}{n:Nat}(hn:1≤n):MW P n g (QM k 0 []):=by
 obtain⟨m,rfl⟩:∃m,n=m+1:=⟨n-1,by omega⟩;exact⟨fun _ hs=>(nomatch hs),.nil⟩

theorem CR {P:PL}{k:Int}{b:Nat}{t:List UInt8}(h1:Zh k=true→b=0)(h2:Zh k=false→t=[]):(QM k b t).kx P k :=
 ⟨rfl,by rw[FO];rfl,fun h=>by show(b:Int)=0;rw[h1 h];rfl,h2⟩
theorem T4 {M:Nat}{P:PL}{k t:Int}{f:R}(hM:65536≤M)(hb:f.bits<18446744073709551616)(hd:f.data.length≤65536)(h:(XT P k t f).2=0):(XT P k t f).1.ok M∧(XT P k t f).1.cnt=1∧k≠10∧(Ze k→(XT P k t f).1.kx P k):=by
 unfold XT at h ⊢;split at h
 ·rename_i hk;have hkk:1≤k∧k≤9:=by
   unfold isk at hk
   simpa using hk
  have hkw:(Lit.int .i64 k).wf=true:=KL (by omega) (by omega);rw[QmD hk];split at h
  ·rename_i hw;rw[QmD hw];split at h
   ·rename_i h3;rw[QmD h3];split at h
    ·cases h
    ·rename_i h7;rw[QmC h7];refine⟨Zu hkw (by decide) (by omega),Xu _ _ _,by omega,fun hky=>CR (fun _=>rfl) fun ht=>?_⟩;exfalso;rw[hw]at h3;unfold wk at h3;unfold Zh at ht;simp only[Qno,Qoi]at ht;unfold Ze at hky;split at h3
     ·omega
     ·split at h3
      ·omega
      ·split at h3
       ·omega
       ·split at h3<;>omega
   ·rename_i h3;rw[QmC h3];split at h
    ·rename_i hfit;rw[QmD hfit];split at h
     ·cases h
     ·rename_i h9;rw[QmC h9];have hwb:Z3 f.wire f.bits<18446744073709551616:=by
       unfold Z3;split
       ·rw[JR];omega
       ·exact hb
      have hnb:XB k (Z3 f.wire f.bits)<18446744073709551616:=by
       unfold XB;split
       ·decide
       ·exact hwb
      refine⟨Zu hkw hnb (QmE _),Xu _ _ _,by omega,fun hky=>CR (fun ht=>?_) fun _=>rfl⟩;exfalso;unfold Ze at hky;unfold Zh at ht;simp only[Qmy,QmA]at ht;have e7:k=7:=by omega
      rw[hw,e7]at h3;exact h3 (by decide)
    ·cases h
  ·cases h
 ·cases h

def Ws (P:PL)(M K n:Nat)(rec:Int→V→C→Rd V):Prop :=
 ∀(t:Int) (v:V) (c:C),CI c→c.left<n→(0≤t∧t<(P.progs.length:Int))→MW P n (Qq P t) v→v.ok M→(v.cnt:Int)+3*c.left≤K→
  ∀w d,rec t v c=.ok (w,d)→Af c d∧MW P n (Qq P t) w∧w.ok M∧(w.cnt:Int)+3*d.left≤v.cnt+3*c.left

structure OpK (P:PL)(g:PG)(o:PO):Prop where
 self:Xq g o.num=some o
 wf:(Lit.int .i64 o.num).wf=true
 uo:UO P o

section
variable {P:PL}{M K n:Nat}(hM:65536≤M)(hK:K≤1000000){g:PG}{o:PO}(ho:OpK P g o)

include hM hK ho in
theorem B0 {v w:V}{c d:C}(hc:CI c)(hv:MW P (n+1) g v)(hk:v.ok M)(hb:(v.cnt:Int)+3*c.left≤K)(h5:o.card≠5)(h:Wn P g v o c=.ok (w,d)) :
  As c d∧MW P (n+1) g w∧w.ok M∧(w.cnt:Int)+3*d.left≤v.cnt+3*c.left:=by
 have ls:=Zk v;have lr:=WK v;have hcb:=hc.bd;unfold Wn at h;split at h
 ·cases h
 rename_i c1 h1;obtain⟨a1,_⟩:=ZE hc (by omega) h1;have hc1:=a1.ci hc;split at h
 ·cases h
 rename_i f d1 h2;obtain⟨b1,b2,b3,b4⟩:=Gk hc1 h2;have hs:=a1.strict b1 hc;have hd1:=hs.ci hc;have hl:=hs.lt hc;split at h
 ·cases h;have hr:(⟨o.num,0,f.bits,[]⟩:R).ok M:=⟨ho.wf,rfl,by simp[Lit.wf,IntKind.min,IntKind.max,IntKind.bits,IntKind.signed];omega,QmE _⟩;exact⟨hs,CQ hv,CP hk hr (by omega),by rw[BZ];omega⟩
 split at h
 ·rename_i h0;obtain⟨s1,s2,s3,_⟩:=T4 (P:=P) (t:=o.target) hM b3 b4 h0;have hew:∀y,EW (MW P n) P o y:=fun y e=>absurd e s3
  generalize (XT P o.kind o.target f).1=x at h s1 s2;split at h
  ·rename_i h4;have hfw:FW (MW P n) P o (Xw ((QT v o.num).list++[x])):=by
    unfold FW;rw[QmD h4];exact fun y _=>hew y
   have hol:=Gq (n:=o.num) hk;have hll:=Jx (QT v o.num);split at h
   ·rename_i hf;cases h;obtain⟨y,hy⟩:=QmX.1 hf;obtain⟨hm,he⟩:=Xv hy;have hyc:=KJ hm;dsimp only at hyc;have e1:=Uh g v o (Xw ((QT v o.num).list++[x])) hy;rw[WL,Yr,s2]at e1;have e2:Q9 (QT v o.num).list+1≤y.cnt:=by rw[he,Q1 y];omega
    rw[he]at hll;refine⟨hs,Ka hv ho.self hfw,J9 hk ho.wf (UN ?_ ?_) (by omega),by omega⟩
    ·intro z hz;rcases QnP.1 hz with hz|hz
     ·exact hol.list z hz
     ·rw[QoG]at hz;subst hz;exact s1
    ·rw[Qm9,he];simp only[QmK,Qnr];omega
   ·rename_i hf;split at h
    ·cases h
    rename_i d2 h6;cases h;obtain⟨c2,_⟩:=ZE hd1 (by omega) h6;have hl2:=(c2.left hd1).2.2;rw[ZP hf];rw[ZP hf]at hfw;have e1:=KN g v o (Xw ((QM 0 0 []).list++[x]));rw[WL,Yr,s2]at e1;have e0:Q9 (QM 0 0 []).list=0:=rfl;refine⟨hs.trans c2 hc,Ka hv ho.self hfw,J9 hk ho.wf (UN ?_ (show 1≤1099511627776 by decide)) (by omega),by omega⟩;intro z hz;rcases QnP.1 hz with hz|hz
    ·cases hz
    ·rw[QoG]at hz;subst hz;exact s1
  ·rename_i h4;cases h;have hfw:FW (MW P n) P o x:=by
    unfold FW;rw[QmC h4,QmC h5];exact hew x
   have e1:=KN g v o x;rw[s2]at e1;exact⟨hs,Ka hv ho.self hfw,J9 hk ho.wf s1 (by omega),by omega⟩
 ·cases h

include hM hK ho in
theorem CS (h5:o.card≠5):∀(k:Nat) {v w:V} {c d:C},CI c→MW P (n+1) g v→v.ok M→(v.cnt:Int)+3*c.left≤K→J8 P g o k v c=.ok (w,d)→
  Af c d∧MW P (n+1) g w∧w.ok M∧(w.cnt:Int)+3*d.left≤v.cnt+3*c.left
 |0,v,w,c,d,hc,hv,hk,hb,h=>by
  cases h;exact⟨Af.refl hc,hv,hk,QnV _⟩
 |k+1,v,w,c,d,hc,hv,hk,hb,h=>by
  rw[J8]at h;split at h
  ·split at h
   ·cases h
   rename_i v1 c1 h1;obtain⟨a1,a2,a3,a4⟩:=B0 hM hK ho hc hv hk hb h5 h1;obtain⟨b1,b2,b3,b4⟩:=CS h5 k (a1.ci hc) a2 a3 (by omega) h;exact⟨a1.1.trans b1 hc,b2,b3,by omega⟩
  ·cases h;exact⟨Af.refl hc,hv,hk,QnV _⟩

include hM hK ho in
theorem NE {v w:V}{c d e:C}{q:Nat}(hc:CI c)(hq:(q:Int)≤c.left)(hd:Af (part c q) d)(hv:MW P (n+1) g v)(hk:v.ok M)(hb:(v.cnt:Int)+3*d.left≤K)(h5:o.card≠5)(h:JA P g v o c d=.ok (w,e)) :
  Af c e∧e.left=c.left-q∧MW P (n+1) g w∧w.ok M∧(w.cnt:Int)≤v.cnt+3*d.left:=by
 unfold JA at h;split at h
 ·cases h
 rename_i v1 j h1;cases h;have hp:=JD hc hq;obtain⟨a1,a2,a3,a4⟩:=CS hM hK ho h5 _ (hd.ci hp.2.1) hv hk hb h1;obtain⟨b1,b2⟩:=Gl hc hq (hd.trans a1 hp.2.1);have:=((a1.ci (hd.ci hp.2.1))).bd;exact⟨b1,b2,a2,a3,by omega⟩

include hM hK ho in
theorem EJ {v w:V}{c d:C}(hc:CI c)(hv:MW P (n+1) g v)(hk:v.ok M)(hb:(v.cnt:Int)+3*c.left≤K)(hp:pk o.card o.kind=true)(h:WT P g v o c=.ok (w,d)) :
  As c d∧MW P (n+1) g w∧w.ok M∧(w.cnt:Int)+3*d.left≤v.cnt+3*c.left:=by
 have ls:=Zk v;have hcb:=hc.bd;have h4:o.card=4:=by
  unfold pk at hp;simp only[QmT,QmA]at hp;exact hp.1
 have hk10:o.kind≠10:=by
  unfold pk at hp;simp only[QmT,Qmy,QmA,Qmz]at hp;omega
 unfold WT at h;split at h
 ·cases h
 rename_i q c1 h1;obtain⟨a1,a2⟩:=Wo hc h1;have hc1:=a1.ci hc;obtain⟨_,p2,p3⟩:=JD hc1 a2;have hl1:=a1.lt hc;have hc1b:=hc1.bd;split at h
 ·rename_i hy;obtain⟨y1,_⟩:=BW p2 hy;have hly:=y1.lt p2;split at h
  ·split at h
   ·obtain⟨b1,b2,b3,b4,b5⟩:=NE hM hK ho hc1 a2 y1.1 hv hk (by omega) (by omega) h;exact⟨a1.trans b1 hc,b3,b4,by omega⟩
   ·split at h
    ·cases h
    rename_i i h2;obtain⟨s1,_⟩:=ZE (y1.ci p2) (by omega) h2;have hls:=(s1.left (y1.ci p2)).2.2;have hfw:FW (MW P n) P o (Xw []):=by
     unfold FW;rw[QmD h4];exact fun y hy=>(nomatch hy)
    have e1:=KN g v o (Xw []);rw[WL]at e1;simp only[Q9]at e1;obtain⟨b1,b2,b3,b4,b5⟩:=NE hM hK ho hc1 a2 (y1.1.trans s1 p2) (Ka hv ho.self hfw) (J9 hk ho.wf (UN (fun y hy=>(nomatch hy)) (QmE _)) (by omega)) (by omega) (by omega) h;exact⟨a1.trans b1 hc,b3,b4,by omega⟩
  ·cases h
 ·cases h

variable {rec:Int→V→C→Rd V}(hrec:Ws P M K n rec)

include hrec in
theorem Bi {t:Int}(ht:0≤t∧t<(P.progs.length:Int)){b w:V}{k:Int}(hk0:0≤k){c d:C}(hc:CI c)(hcn:c.left≤n)(hv:1≤n→MW P n (Qq P t) b)(hk:b.ok M)(hb:(b.cnt:Int)+3*c.left≤K)(h:Wy rec t b k c=.ok (w,d)) :
  As c d∧MW P n (Qq P t) w∧w.ok M∧(w.cnt:Int)+3*d.left+3≤b.cnt+3*c.left:=by
 unfold Wy at h;split at h
 ·cases h
 rename_i q c1 h1;obtain⟨a1,a2⟩:=Wo hc h1;have hc1:=a1.ci hc;have hl1:=a1.lt hc;have hc1b:=hc1.bd;split at h
 ·rename_i he;obtain⟨e1,e2,e3⟩:=DP hc1 a2 he;split at h
  ·cases h
  rename_i i h2;obtain⟨s1,s2⟩:=ZE e2 hk0 h2;have hls:=(s1.left e2).2.2;split at h
  ·cases h
  rename_i x j h3;cases h;have hi:=s1.ci e2;have hib:=hi.bd;obtain⟨r1,r2,r3,r4⟩:=hrec t b i hi (by omega) ht (hv (by omega)) hk (by omega) _ _ h3;have hje:i.e=c1.a+q∧i.nd≤c1.nd:=by
   obtain⟨_,f2,_⟩:=s1.eqs;have f3:=s1.nd;rw[e1]at f2 f3;exact⟨f2,f3.2⟩
  obtain⟨l1,l2⟩:=Cm hc1 a2 hje r1;have hjb:=(r1.ci hi).bd;exact⟨a1.trans l1 hc,r2,r3,by omega⟩
 ·cases h

include hK ho hrec in
theorem EK {v w:V}{c d:C}(hc:CI c)(hcn:c.left≤n)(hv:MW P (n+1) g v)(hk:v.ok M)(hb:(v.cnt:Int)+3*c.left≤K)(h5:o.card≠5)(h10:o.kind=10)(h:Ky rec g v o c=.ok (w,d))(hpos:(1:Int)+3*c.left≤K) :
  As c d∧MW P (n+1) g w∧w.ok M∧(w.cnt:Int)+3*d.left≤v.cnt+3*c.left:=by
 have ls:=Zk v;have hcb:=hc.bd;have ht:=ho.uo.tgt h10;have hem:(QM 10 0 []:V).ok M:=Zu rfl (by decide) (QmE _);have hol:=Gq (n:=o.num) hk;have hll:=Jx (QT v o.num);unfold Ky at h;split at h
 ·rename_i h4;split at h
  ·cases h
  rename_i x c1 h1;cases h;obtain⟨r1,r2,r3,r4⟩:=Bi hrec ht (by split<;>omega) hc hcn (fun hn=>ZB hn) hem (by rw[Xu];omega) h1;rw[Xu]at r4;have hlc:=r1.lt hc;have hc1b:=(r1.ci hc).bd;have hfw:FW (MW P n) P o (Xw ((QT v o.num).list++[x])):=by
   unfold FW;rw[QmD h4];intro y hy;rcases QnP.1 hy with hy|hy
   ·cases hf:XG v o.num with
    |none=>
     rw[ZP (by rw[hf];simp)]at hy;cases hy
    |some z=>
     have h1:=Gr hv ho.self hf;unfold FW at h1;rw[QmD h4]at h1;rw[(Xv hf).2]at hy;exact h1 y hy
   ·rw[QoG]at hy;subst hy;exact fun _=>r2
  have hlok:(Xw ((QT v o.num).list++[x])).ok M:=by
   refine UN ?_ ?_
   ·intro z hz;rcases QnP.1 hz with hz|hz
    ·exact hol.list z hz
    ·rw[QoG]at hz;subst hz;exact r3
   ·have:=hol.nl;rw[Qm9];have hoc:(QT v o.num).cnt≤v.cnt+1:=by
     cases hf:XG v o.num with
     |none=>rw[ZP (by rw[hf];simp),Xu];omega
     |some z=>
      have:=KJ (Xv hf).1;rw[(Xv hf).2];dsimp only at this;omega
    simp only[QmK,Qnr];omega
  refine⟨r1,Ka hv ho.self hfw,J9 hk ho.wf hlok (by omega),?_⟩;cases hf:XG v o.num with
  |none=>
   have e1:=KN g v o (Xw ((QT v o.num).list++[x]));rw[WL,Yr]at e1;have e0:Q9 (QT v o.num).list=0:=by rw[ZP (by rw[hf];simp)];rfl
   omega
  |some z=>
   have e1:=Uh g v o (Xw ((QT v o.num).list++[x])) hf;rw[WL,Yr]at e1;have e2:Q9 (QT v o.num).list+1≤z.cnt:=by rw[(Xv hf).2,Q1 z];omega
   omega
 ·rename_i h4;split at h
  ·cases h
  rename_i x c1 h1;cases h;cases hf:XG v o.num with
  |none=>
   rw[hf,QmC (by simp)]at h1;obtain⟨r1,r2,r3,r4⟩:=Bi hrec ht (by omega) hc hcn (fun hn=>ZB hn) hem (by rw[Xu];omega) h1;rw[Xu]at r4;have hfw:FW (MW P n) P o x:=by
    unfold FW;rw[QmC h4,QmC h5];exact fun _=>r2
   have e1:=KN g v o x;exact⟨r1,Ka hv ho.self hfw,J9 hk ho.wf r3 (by omega),by omega⟩
  |some z=>
   rw[hf,QmD (show(some z).isSome=true from rfl),(Xv hf).2]at h1;have hz:=KJ (Xv hf).1;dsimp only at hz;have h2:=Gr hv ho.self hf;unfold FW at h2;rw[QmC h4,QmC h5]at h2;obtain⟨r1,r2,r3,r4⟩:=Bi hrec ht (by omega) hc hcn (fun _=>h2 h10) (hk.slots _ (Xv hf).1) (by omega) h1;have hfw:FW (MW P n) P o x:=by
    unfold FW;rw[QmC h4,QmC h5];exact fun _=>r2
   have e1:=Uh g v o x hf;exact⟨r1,Ka hv ho.self hfw,J9 hk ho.wf r3 (by omega),by omega⟩

include hM hrec in
theorem Ho {k t wr:Int}(ht:k=10→0≤t∧t<(P.progs.length:Int)){y:V}{c d:C}(hc:CI c)(hcn:c.left≤n)(hb:(1:Int)+3*c.left≤K)(h:JL P rec k t wr c=.ok (y,d)) :
  As c d∧y.ok M∧(y.cnt:Int)+3*d.left+2≤3*c.left∧(k=10→MW P n (Qq P t) y)∧(Ze k→y.kx P k):=by
 unfold JL at h;split at h
 ·split at h
  ·rename_i hk;obtain⟨r1,r2,r3,r4⟩:=Bi hrec (ht hk) (QnV 0) hc hcn (fun hn=>ZB hn) (Zu rfl (by decide) (QmE _)) (by rw[Xu];omega) h;rw[Xu]at r4;exact⟨r1,r3,by omega,fun _=>r2,fun hy=>by unfold Ze at hy;omega⟩
  ·rename_i hk;split at h
   ·cases h
   rename_i f c1 h1;obtain⟨b1,b2,b3,b4⟩:=Gk hc h1;have hl:=b1.lt hc;split at h
   ·rename_i h0;cases h;obtain⟨s1,s2,s3,s4⟩:=T4 (P:=P) (t:=t) hM b3 b4 h0;exact⟨b1,s1,by omega,fun e=>absurd e hk,s4⟩
   ·cases h
 ·cases h

structure XI (P:PL)(M n:Nat)(o:PO)(x:V×V):Prop where
 ky:x.1.ok M
 vl:x.2.ok M
 one:x.1.kx P o.key
 ew:1≤n→EW (MW P n) P o x.2

include hM ho hrec in
theorem UP (h5:o.card=5):∀(k:Nat) {x y:V×V} {a b:Bool} {c d:C},CI c→c.left≤n→(1:Int)+3*c.left≤K→XI P M n o x→JY P rec o k x a b c=.ok (y,d)→
  Af c d∧XI P M n o y∧(y.1.cnt:Int)+y.2.cnt+3*d.left≤x.1.cnt+x.2.cnt+3*c.left
 |0,x,y,a,b,c,d,hc,hcn,hb,hx,h=>by
  cases h;exact⟨Af.refl hc,hx,QnV _⟩
 |k+1,x,y,a,b,c,d,hc,hcn,hb,hx,h=>by
  have hky:=ho.uo.key h5;have hk10:o.key≠10:=by unfold Ze at hky;omega
  rw[JY]at h;split at h
  ·split at h
   ·rename_i htg;obtain⟨t1,_⟩:=UJ hc htg;have hl:=t1.lt hc;have hct:=t1.ci hc;split at h
    ·split at h
     ·cases h
     split at h
     ·cases h
     rename_i z c1 h1;obtain⟨r1,r2,r3,r4,r5⟩:=Ho hM hrec (fun e=>absurd e hk10) hct (by omega) (by omega) h1;have hl1:=r1.lt hct;obtain⟨q1,q2,q3⟩:=UP h5 k (x:=(z,x.2)) (r1.ci hct) (by omega) (by omega) ⟨r2,hx.vl,r5 hky,hx.ew⟩ h;have:=Zp x.1;refine⟨(t1.1.trans r1.1 hc).trans q1 hc,q2,?_⟩;dsimp only at q3;omega
    ·split at h
     ·split at h
      ·cases h
      split at h
      ·cases h
      rename_i z c1 h1;obtain⟨r1,r2,r3,r4,r5⟩:=Ho hM hrec ho.uo.tgt hct (by omega) (by omega) h1;have hl1:=r1.lt hct;obtain⟨q1,q2,q3⟩:=UP h5 k (x:=(x.1,z)) (r1.ci hct) (by omega) (by omega) ⟨hx.ky,r2,hx.one,fun _ e=>r4 e⟩ h;have:=Zp x.2;refine⟨(t1.1.trans r1.1 hc).trans q1 hc,q2,?_⟩;dsimp only at q3;omega
     ·cases h
   ·cases h
  ·cases h;exact⟨Af.refl hc,hx,QnV _⟩

theorem CU {k:Int}(_hk:Ze k):(QM k 0 []).kx P k:=CR (fun _=>rfl) fun _=>rfl

include hM hK ho hrec in
theorem T5 (h5:o.card=5)(hkd:(Lit.int .i64 o.kind).wf=true){v w:V}{c d:C}(hc:CI c)(hcn:c.left≤n)(hv:MW P (n+1) g v)(hk:v.ok M)(hb:(v.cnt:Int)+3*c.left+3≤K)(h:JZ P rec g v o c=.ok (w,d)) :
  As c d∧MW P (n+1) g w∧w.ok M∧(w.cnt:Int)+3*d.left≤v.cnt+3*c.left:=by
 have ls:=Zk v;have hcb:=hc.bd;have hky:=ho.uo.key h5;unfold JZ at h;split at h
 ·cases h
 rename_i q c1 h1;obtain⟨a1,a2⟩:=Wo hc h1;have hc1:=a1.ci hc;have hl1:=a1.lt hc;have hc1b:=hc1.bd;obtain⟨_,p2,p3⟩:=JD hc1 a2;split at h
 ·cases h
 rename_i i h2;obtain⟨s1,_⟩:=ZE p2 (by split<;>omega) h2;have hls:=(s1.left p2).2.2;split at h
 ·cases h
 rename_i x j h3;cases h;have hcv:=Zp v;have hx0:XI P M n o (QM o.key 0 [],QM o.kind 0 []):=by
  refine⟨Zu ?_ (by decide) (QmE _),Zu hkd (by decide) (QmE _),CU hky,fun hn e=>ZB hn⟩;unfold Ze at hky;exact KL (by omega) (by omega)
 obtain⟨r1,r2,r3⟩:=UP hM ho hrec h5 _ (s1.ci p2) (by omega) (by omega) hx0 h3;rw[Xu,Xu]at r3;obtain⟨b1,b2⟩:=Gl hc1 a2 (s1.trans r1 p2);have hjb:=(r1.ci (s1.ci p2)).bd;have hol:=Gq (n:=o.num) hk;have hn1:1≤n:=by omega
 -- the entries
 have hpo:(∀p∈(QT v o.num).pairs,p.1.kx P o.key∧EW (MW P n) P o p.2)∧(QT v o.num).pairs.Pairwise fun q p=>Xz q.1 p.1=false:=by
  cases hf:XG v o.num with
  |none=>
   rw[ZP (by rw[hf];simp)];exact⟨fun p hp=>(nomatch hp),.nil⟩
  |some z=>
   have h4:=Gr hv ho.self hf;unfold FW at h4;rw[QmC (by omega),QmD h5]at h4;rw[(Xv hf).2];exact h4
 have hoc:(QT v o.num).cnt≤v.cnt+1:=by
  cases hf:XG v o.num with
  |none=>rw[ZP (by rw[hf];simp),Xu];omega
  |some z=>
   have:=KJ (Xv hf).1;rw[(Xv hf).2];dsimp only at this;omega
 have hfw:FW (MW P n) P o (Wm (ZH o.key (QT v o.num).pairs x)):=by
  unfold FW;rw[QmC (by omega),QmD h5];refine⟨fun p hp=>?_,Pd hpo.2⟩;rcases CO hp with⟨hp,_⟩|rfl
  ·exact hpo.1 p hp
  ·exact⟨r2.one,r2.ew hn1⟩
 have hmk:(Wm (ZH o.key (QT v o.num).pairs x)).ok M:=by
  refine Qbo (fun p hp=>?_) ?_
  ·rcases CO hp with⟨hp,_⟩|rfl
   ·exact⟨hol.keys p hp,hol.vals p hp⟩
   ·exact⟨r2.ky,r2.vl⟩
  ·have h1:=EI o.key (QT v o.num).pairs x;have h2:=J1 (QT v o.num);omega
 refine⟨a1.trans b1 hc,Ka hv ho.self hfw,J9 hk ho.wf hmk (by omega),?_⟩;have hpc:=EH o.key (QT v o.num).pairs x;cases hf:XG v o.num with
 |none=>
  have e1:=KN g v o (Wm (ZH o.key (QT v o.num).pairs x));rw[CN]at e1;have e0:Xi (QT v o.num).pairs=0:=by rw[ZP (by rw[hf];simp)];rfl
  omega
 |some z=>
  have e1:=Uh g v o (Wm (ZH o.key (QT v o.num).pairs x)) hf;rw[CN]at e1;have e2:Xi (QT v o.num).pairs+1≤z.cnt:=by rw[(Xv hf).2,Q1 z];omega
  omega

include hM hK ho hrec in
theorem NF (hkd:(Lit.int .i64 o.kind).wf=true){v w:V}{c d:C}{wr:Int}(hc:CI c)(hcn:c.left≤n)(hv:MW P (n+1) g v)(hk:v.ok M)(hb:(v.cnt:Int)+3*c.left+3≤K)(h:Jj P rec g v o wr c=.ok (w,d)) :
  As c d∧MW P (n+1) g w∧w.ok M∧(w.cnt:Int)+3*d.left≤v.cnt+3*c.left:=by
 have hcv:=Zp v;unfold Jj at h;split at h
 ·rename_i h5;split at h
  ·exact T5 hM hK ho hrec h5 hkd hc hcn hv hk hb h
  ·cases h
 ·rename_i h5;split at h
  ·rename_i hp;exact EJ hM hK ho hc hv hk (by omega) hp.2 h
  ·split at h
   ·split at h
    ·rename_i h10;exact EK hK ho hrec hc hcn hv hk (by omega) h5 h10 h (by omega)
    ·exact B0 hM hK ho hc hv hk (by omega) h5 h
   ·cases h
end

theorem RX {P:PL}{M:Nat}(hP:P.ok M)(hU:Kt P)(hr:ZG P){t n:Int}(ht:0≤t∧t<(P.progs.length:Int)){o:PO}(hop:Xq (Qq P t) n=some o):OpK P (Qq P t) o∧(Lit.int .i64 o.kind).wf=true∧o.num=n:=by
 obtain⟨hom,hon⟩:=KT hop;have hgt:Qq P t∈P.progs:=by
  unfold Qq;rw[Qmv (by omega:t.toNat<P.progs.length)];exact Qnn _
 have hok:=(hP.progs _ hgt).ops o hom;exact⟨⟨X5 (hr _ hgt) hom,hok.num,hU _ hgt o hom⟩,hok.kind,hon⟩

theorem DU {P:PL}{M K n:Nat}(hM:65536≤M)(hK:K≤1000000)(hP:P.ok M)(hU:Kt P)(hr:ZG P){rec:Int→V→C→Rd V}(hrec:Ws P M K n rec){t:Int}(ht:0≤t∧t<(P.progs.length:Int)):∀(k:Nat) (v:V) (c:C),CI c→c.left≤n→MW P (n+1) (Qq P t) v→v.ok M→(v.cnt:Int)+3*c.left≤K→
  ∀w d,Z4 P rec t k v c=.ok (w,d)→Af c d∧MW P (n+1) (Qq P t) w∧w.ok M∧(w.cnt:Int)+3*d.left≤v.cnt+3*c.left
 |0,v,c,hc,hn,hv,hk,hb,w,d,h=>by
  cases h;exact⟨Af.refl hc,hv,hk,QnV _⟩
 |k+1,v,c,hc,hn,hv,hk,hb,w,d,h=>by
  have lr:=WK v;have hcb:=hc.bd;rw[Z4]at h;split at h
  ·split at h
   ·rename_i htg;obtain⟨t1,_⟩:=UJ hc htg;have hl:=t1.lt hc;split at h
    ·split at h
     ·rename_i hx;obtain⟨a1,_,a2,a3,a4,a5,a6,a7⟩:=Cn hc hx;have hla:=a1.lt hc;have hrw:(Xo c).1.ok M:=⟨KL (by omega) (by omega),KL (by omega) (by omega),by simp[Lit.wf,IntKind.min,IntKind.max,IntKind.bits,IntKind.signed];omega,by omega⟩;have ea:=BZ v (Xo c).1;obtain⟨b1,b2,b3,b4⟩:=DU hM hK hP hU hr hrec ht k _ _ (a1.ci hc) (by omega) (CQ hv) (CP hk hrw (by omega)) (by omega) w d h;exact⟨a1.1.trans b1 hc,b2,b3,by omega⟩
     ·cases h
    ·rename_i o hop;split at h
     ·cases h
     rename_i v1 c1 h1;obtain⟨ho,hkd,_⟩:=RX hP hU hr ht hop;obtain⟨b1,b2,b3,b4⟩:=NF hM hK ho hrec hkd (t1.ci hc) (by omega) hv hk (by omega) h1;have hlb:=b1.lt (t1.ci hc);obtain⟨q1,q2,q3,q4⟩:=DU hM hK hP hU hr hrec ht k v1 c1 (b1.ci (t1.ci hc)) (by omega) b2 b3 (by omega) w d h;exact⟨(t1.1.trans b1.1 hc).trans q1 hc,q2,q3,by omega⟩
   ·cases h
  ·cases h;exact⟨Af.refl hc,hv,hk,QnV _⟩
theorem GU {P:PL}{M K:Nat}(hM:65536≤M)(hK:K≤1000000)(hP:P.ok M)(hU:Kt P)(hr:ZG P):∀n:Nat,Ws P M K n (Hj P n)
 |0,t,v,c,hc,hn,ht,hv,hk,hb,w,d,h=>by
  have:=hc.bd;omega
 |n+1,t,v,c,hc,hn,ht,hv,hk,hb,w,d,h=>
  DU hM hK hP hU hr (GU hM hK hP hU hr n) ht _ v c hc (by omega) hv hk hb w d h

end Go.Proofs.YtkhpgmeokilhaaaGreatDoor.Va

namespace Go.Proofs.YtkhpgmeokilhaaaGreatDoor.Va
open Go Am Rc Bt Br Up So

theorem Qet {ops:List PO}(h:ZR ops (Kk PO.num)=true):ops.Pairwise fun a b=>a.num<b.num:=by
 have hs:∀i (hi:i+1<ops.length),ops[i].num<ops[i+1].num:=by
  intro i hi;unfold ZR at h;have:=QV.1 h (i+1) hi;rw[K9 (Qmv (by omega:i<ops.length)) (Qmv hi)]at this;unfold Kk at this
  simpa using this
 rw[QoI];intro i j hi hj hij;obtain⟨d,rfl⟩:∃d,j=i+1+d:=⟨j-(i+1),by omega⟩;clear hij
 induction d with
 |zero=>exact hs i (by omega)
 |succ d ih=>
  have a:=ih (by omega);have b:=hs (i+1+d) (by omega);exact Int.lt_trans a b

theorem DV {P:PL}(h:ck P=0):HX P=true∧args P=true:=by
 unfold ck at h;split at h
 ·omega
 split at h
 ·omega
 split at h
 ·omega
 rename_i ho;split at h
 ·omega
 split at h
 ·omega
 split at h
 ·omega
 rename_i ha;exact⟨by simpa using ho,by simpa using ha⟩
theorem ZC {P:PL}(h:ck P=0):ZG P:=by
 have ho:=(DV h).1;unfold HX at ho;simp only[QmT,QmI]at ho;intro g hg;exact Qet (ho.1.2 g hg)
def RY (P:PL):Prop:=∀g∈P.progs,∀o∈g.ops,1≤o.card∧o.card≤5
theorem DW {P:PL}(h:ck P=0):RY P:=by
 have ha:=(DV h).2;intro g hg o ho;unfold args at ha;simp only[QmT,QmI]at ha;have h1:=ha.1 g hg;unfold Wg at h1;simp only[QmT,QmI]at h1;have h2:=(h1.2 o ho).1;unfold Kn at h2;simp only[QmT,Qmz]at h2;exact⟨h2.1.1.1.2,h2.1.1.2⟩

theorem Uv {fr:Nat→Ob}{a b c:Nat}(h1:(fr a).isRow=false)(h2:(fr b).isRow=false)(h3:(fr c).isRow=false):∀s∈[a,b,c],(fr s).isRow=false:=by
 intro s hs;simp only[QnS,QoF,or_false]at hs;rcases hs with rfl|rfl|rfl
 ·exact h1
 ·exact h2
 ·exact h3

section
variable (k:Int)(b:Nat)(t:List UInt8)(l p s r:List AV)

theorem Qkt (hl:l.length≤140737488351232)(hp:p.length≤140737488351232)(hs:s.length≤140737488351232)(hr:r.length≤140737488351232) :
  Qi Tryz.prog 110 [vo k b t l p s r] (.bool (zer k b t l p s r)):=by
 have hle:=QdS k b t l p s r hl hp hs hr;simp only[vo]at hle;refine wF Tryz.func110 ?_;simp only[eK,Tryz.f110,seval];simp only[vo,zer,eE,seval];refine aC (BH k) ?_;cases isk k
 ·simp only[Qn1,Qa,seval]
 ·simp only[Qoc,eE,seval];refine aC hle ?_;cases Ub l p s r
  ·simp only[Qn1,Qa,seval]
  ·cases h1:((b:Int)==0)<;>cases h2:(t==[])<;>cases h3:Zh k<;>simp only[h1,h2,QnK,Qoe,QmO,QP,eE,seval]

theorem w57 (hl:l.length≤140737488351232)(hp:p.length≤140737488351232)(hs:s.length≤140737488351232)(hr:r.length≤140737488351232):Qi Tryz.prog 57 [vo k b t l p s r] (.bool (emp k b t l p s r)):=by
 have hz:=Qkt k b t l p s r hl hp hs hr;simp only[vo]at hz;refine wF Tryz.func57 ?_;simp only[eK,Tryz.f57,seval];simp only[vo,emp,eE,seval];cases h1:(k==11)<;>cases h2:((l.length:Int)==0)<;>cases h3:(k==12)<;>cases h4:((p.length:Int)==0)<;>simp only[h2,h3,h4,Qoc,Qn1,Qog,Qoh,Qow,eE,seval]
 all_goals(refine aC hz ?_;simp only[Qa,seval])

end
theorem Qgq (v:V)(hc:v.cnt≤1048576):Qi Tryz.prog 57 [v.av] (.bool v.emp):=by
 have h1:=Jx v;have h2:=J1 v;have h3:=Zk v;have h4:=WK v;rw[FO];exact w57 _ _ _ _ _ _ _ (by simp;omega) (by simp;omega) (by simp;omega) (by simp;omega)

def NgI (P:PL)(K:Nat→List (Int×V))(T:List (Int×V))(t:Nat)(rw':List R)(k:Nat)(st:St):Prop :=
 ∃f fr i g h,st=⟨f,[fr],[]⟩∧k=T.length-i∧i≤T.length∧f 1=.int .i64 (t:Nat)∧f 3=.ptr 0 3 0∧f 6=.ptr 0 6 0∧f 7=.ptr 0 7 0∧f 30=.list (T.map V.sav)∧f 31=.int .i64 (T.length:Nat)∧f 32=.int .i64 (i:Nat)∧fr 3=.cells [.list (P.progs.map Qm),.list (P.enums.map QE)]∧fr 6=.cells [.int .i64 0,.int .u64 0,.str [],.nils,.nils,.nils,.nils]∧fr 7=.cells [.int .i64 10,.int .u64 0,.str [],.nils,.nils,.vec 0 1100 g 0 (K i).length false,.vec 0 1000 h 0 rw'.length false]∧fr 1100=.vec g 8 ((K i).map V.sav)∧fr 1000=.vec h 4 (rw'.map R.av)∧∀s∈[13,10,9],(fr s).isRow=false

section
variable {M:Nat}{P:PL}(hP:P.ok M)

set_option maxHeartbeats 2000000 in
include hP in
theorem v26 (hU:Kt P)(hr:ZG P)(hcd:RY P):∀(n:Nat) (t:Int) (g:PG),P.progs[t.toNat]? = some g→0≤t→∀v:V,v.ok M→v.cnt≤1048576→MW P n g v→Qi Tryz.prog 26 [P.av,.int .i64 t,v.av] (Zb P n g v).av:=by
 have e0:P.av=.agg [.list (P.progs.map Qm),.list (P.enums.map QE)]:=rfl;intro n
 induction n with
 |zero=>
  intro t g _ _ v _ _ h;exact h.elim
 |succ n ih=>
  intro t g hgt t0 v hv hc h;have hgm:=QmJ hgt;have hg:=hP.progs g hgm;have hu:=hU g hgm;have hd:=hr g hgm;obtain⟨s1,s2⟩:=h;have hnel:=fun(o:PO) (ho:o∈g.ops) (x:V) (hx:x.ok M) (hxc:x.cnt≤1048576) (he:EW (MW P n) P o x)=>Qks o (hu o ho) (fun t g a b v c d e=>ih t g a b v c d e) x hx hxc he
  have hnfl:=fun(o:PO) (ho:o∈g.ops) (x:V) (hx:x.ok M) (hxc:x.cnt≤1048576) (he:FW (MW P n) P o x)=>v56 o (hu o ho) (hnel o ho) x hx hxc he
  have hcn:∀(o:PO) (x:V),(Zy (Zb P n) P o x).cnt≤x.cnt:=fun o x=>M6 (fun t v=>Yy hr n _ (W4 hr t) v) o x
  have lS:=Zk v;have lR:=WK v;have clR:=fun fr hr=>v53 (v.raws.map R.av) fr [] (Hm v.raws) (by rw[Qnq];omega) hr
  have csR:=fun g (m:Qh) (hl:Am.Qc m 0 1000=.vec g 4 (v.raws.map R.av))=>Tz.RT Tg.Qgk (by decide) Qkq 0 1000 g (v.raws.map R.av) m hl (ezR v.raws) (by rw[Qnq];omega)
  simp only[EF,Qnq]at csR;have csl:=v54 v.slots (by omega) s2;have hTp:(KI v.slots).Perm v.slots:=Q0 _;have hTl:(KI v.slots).length=v.slots.length:=hTp.length_eq;have hTm:∀s∈KI v.slots,s∈v.slots:=fun s h=>hTp.mem_iff.1 h
  have hfin:=Ey (Zb P n) P hd s2;have hrl:(Wk v.raws).length=v.raws.length:=(Q0 v.raws).length_eq;generalize KI v.slots=T at *;obtain⟨ti,hti⟩:=Qof t0;subst hti;rw[QnY]at hgt;have hga:(P.progs.map Qm)[ti]? = some (.agg g.cells):=by simp[hgt,Qm]
  simp only[PG.cells]at hga;have htl:ti<P.progs.length:=(Qmu.1 hgt).1;have d0:decide ((ti:Int)<0)=false:=Qoo (by omega);have d1:decide ((ti:Int)≥(P.progs.length:Int))=false:=Qoo (by omega);have co:=fun n=>Tk g hg.len n
  simp only[UF]at co;simp only[Qm,PG.cells]at co;show Qi _ _ _ (V.mk 10 0 [] [] [] (g.ops.flatMap (Xj (Zb P n) P v.slots)) (Wk v.raws)).av;rw[←hfin,Qe v];generalize hK:(fun i=>(T.take i).flatMap (JM (Zb P n) P g))=K;have hK0:K 0=[]:=by rw[←hK];simp
  have hKn:T.flatMap (JM (Zb P n) P g)=K T.length:=by rw[←hK];simp
  have hKl:∀i,i≤T.length→(K i).length≤i:=by
   intro i hi;rw[←hK];show((T.take i).flatMap _).length≤i;have:∀l:List (Int×V),(l.flatMap (JM (Zb P n) P g)).length≤l.length:=by
    intro l
    induction l with
    |nil=>exact Qms _
    |cons s l ih=>
     have:(JM (Zb P n) P g s).length≤1:=by
      unfold JM;split
      ·simp
      ·unfold WV;split<;>simp
     rw[Qn0,Qm9,QmK];omega
   exact Qmt (this _) (by rw[Qns];omega)
  rw[hKn,show(V.mk 10 0 [] [] [] (K T.length) (Wk v.raws)).av=.agg [.int .i64 10,.int .u64 0,.str [],.list [],.list [],.list ((K T.length).map V.sav),.list ((Wk v.raws).map R.av)]from Qe _];refine wF Tryz.func26 ?_;simp only[eK,Tryz.f26,seval];simp only[e0,eE,seval];refine Qg (clR _ rfl) (by simp only[Qm3,Qnx,Qa,seval]) ?_;simp only[Qnq,eE,seval];refine YF (by simp only[Qa,seval]<;>rfl) rfl (by simp only[Qa,seval]<;>rfl) rfl ?_;simp only[List.set,d0,d1,Qnq,eE,seval];refine aC csl ?_;simp only[Qnq,Qa,seval];refine Qk (NgI P K T ti v.raws) _ ⟨_,_,0,_,_,rfl,rfl,QmE _,(by rfl),(by rfl),(by rfl),(by rfl),(by rfl),(by rfl),(by rfl),(by rfl),(by rfl),(by rw[hK0];exact(by rfl)),(by rw[hK0];exact(by rfl)),(by rfl),Uv rfl rfl rfl⟩ ?_;rintro _ st ⟨f0,fr0,i,gs,hs,rfl,rfl,hil,h10,h30,h60,h70,h300,h310,h320,m30,m60,m70,mS0,mR0,r13⟩;refine QL (a:=_) [13,10,9] r13 ?_;intro f fr hf hm hn13;have h1:f 1=.int .i64 (ti:Nat):=by rw[hf,h10]<;>rfl
  have h3:f 3=.ptr 0 3 0:=by rw[hf,h30]<;>rfl
  have h6:f 6=.ptr 0 6 0:=by rw[hf,h60]<;>rfl
  have h7:f 7=.ptr 0 7 0:=by rw[hf,h70]<;>rfl
  have h30':f 30=.list (T.map V.sav):=by rw[hf,h300]<;>rfl
  have h31:f 31=.int .i64 (T.length:Nat):=by rw[hf,h310]<;>rfl
  have h32:f 32=.int .i64 (i:Nat):=by rw[hf,h320]<;>rfl
  have m3:fr 3=.cells [.list (P.progs.map Qm),.list (P.enums.map QE)]:=by rw[hm 3 (by decide),m30]<;>rfl
  have m6:fr 6=.cells [.int .i64 0,.int .u64 0,.str [],.nils,.nils,.nils,.nils]:=by rw[hm 6 (by decide),m60]<;>rfl
  have m7:fr 7=.cells [.int .i64 10,.int .u64 0,.str [],.nils,.nils,.vec 0 1100 gs 0 (K i).length false,.vec 0 1000 hs 0 v.raws.length false]:=by rw[hm 7 (by decide),m70]<;>rfl
  have mS:fr 1100=.vec gs 8 ((K i).map V.sav):=by rw[hm 1100 (by decide),mS0]<;>rfl
  have mR:fr 1000=.vec hs 4 (v.raws.map R.av):=by rw[hm 1000 (by decide),mR0]<;>rfl
  have n13:=hn13 13 (by decide);have n10:=hn13 10 (by decide);have n9:=hn13 9 (by decide);clear hf hm hn13 h10 h30 h60 h70 h300 h310 h320 m30 m60 m70 mS0 mR0 r13;simp only[h31,h32,Qa,seval];by_cases hlt:i<T.length
  ·obtain⟨x,hi⟩:∃x,T[i]? = some x:=⟨T[i],Qmv hlt⟩;have hx:=hTm x (QmJ hi);have hgs:=WH hi;have e1:=Qw i _ hlt (by simp only[maxLen];omega);obtain⟨o,ho,hfo⟩:=s1 x hx;obtain⟨hom,hon⟩:=KT ho;have hcard:=hcd g hgm o hom;have c1:=co x.1;rw[ho]at c1;have hxc:=Qmt (KJ hx) hc;have c2:=hnfl o hom x.2 (hv.slots x hx) hxc hfo;have c3:=Qgq (Zy (Zb P n) P o x.2) (Qmt (hcn o x.2) hxc);have hKs:K (i+1)=K i++WV (Zb P n) P o x:=by
    rw[←hK];show(T.take (i+1)).flatMap _=(T.take i).flatMap _++_;rw[Qok,hi,List.flatMap_append];have:JM (Zb P n) P g x=WV (Zb P n) P o x:=by unfold JM;rw[ho]
    simp[this]
   have hkO:WV (Zb P n) P o x=if (decide (o.card<3) || !(Zy (Zb P n) P o x.2).emp)=true then [(x.1,Zy (Zb P n) P o x.2)]else []:=by
    unfold WV;rw[hon]
   have hKi:=hKl i (by omega);rw[hkO]at hKs;clear hkO;generalize Zy (Zb P n) P o x.2=z at c2 c3 hKs;rw[e0,Qe x.2,Qe z]at c2;rw[Qe z]at c3;simp only[Qz,PO.cells]at c2;have fin:∀(f':Fr) (fr':Nat→Ob) (gs':Nat),f' 1=.int .i64 (ti:Nat)→f' 3=.ptr 0 3 0→f' 6=.ptr 0 6 0→f' 7=.ptr 0 7 0→f' 30=.list (T.map V.sav)→f' 31=.int .i64 (T.length:Nat)→f' 32=.int .i64 ((i+1:Nat):Int)→fr' 3=.cells [.list (P.progs.map Qm),.list (P.enums.map QE)]→fr' 6=.cells [.int .i64 0,.int .u64 0,.str [],.nils,.nils,.nils,.nils]→fr' 7=.cells [.int .i64 10,.int .u64 0,.str [],.nils,.nils,.vec 0 1100 gs' 0 (K (i+1)).length false,.vec 0 1000 hs 0 v.raws.length false]→fr' 1100=.vec gs' 8 ((K (i+1)).map V.sav)→fr' 1000=.vec hs 4 (v.raws.map R.av)→(∀s∈[13,10,9],(fr' s).isRow=false)→∃k,k<T.length-i∧NgI P K T ti v.raws k ⟨f',[fr'],[]⟩:=by
    intro f' fr' gs' a1 a3 a6 a7 a30 a31 a32 b3 b6 b7 bS bR br;exact⟨T.length-(i+1),by omega,f',fr',i+1,gs',hs,rfl,rfl,by omega,a1,a3,a6,a7,a30,a31,a32,b3,b6,b7,bS,bR,br⟩
   simp only[QD hlt,Qv,QnY,Qf,hgs,hga,n9,h1,h3,h30',h32,m3,eE,seval];refine aC c1 ?_;simp only[QnH,Qop,Qz,PO.cells,n10,eE,seval];rcases(by omega:o.card=1∨o.card=2∨o.card=3∨o.card=4∨o.card=5)with cc|cc|cc|cc|cc
   ·have b3:(o.card==3)=false:=by simp[cc]
    have b4:(o.card==4)=false:=by simp[cc]
    have b5:(o.card==5)=false:=by simp[cc]
    rw[QmD (by simp[cc])]at hKs;simp only[b3,b4,b5,Qm4,Qm7,Qnd,h3,m3,eE,seval];refine aC c2 ?_;simp only[n13,h7,m7,eE,seval];refine QS (l:=[V.sav (x.1,z)]) rfl rfl rfl (by rw[ZU];rfl) ?_;refine QN (site:=1100) (g:=gs) (n:=(K i).length) (xs:=(K i).map V.sav) (ys:=[V.sav (x.1,z)]) (by rfl) (by exact mS) rfl (by rw[Qnq]) rfl (Yd [(x.1,z)]) (by simp only[QmK,Qnr,maxLen];omega) (by simp only[QmK,Qnr];omega) ?_;simp only[h7,h32,m7,e1,eE,seval];exact fin _ _ (gs+1) (by exact h1) (by exact h3) (by exact h6) (by exact h7) (by exact h30') (by exact h31) (by rfl) (by exact m3) (by exact m6) (by rw[hKs,Qm9];exact(by rfl)) (by rw[hKs,Qoj];exact(by rfl)) (by exact mR) (Uv rfl rfl rfl)

   ·have b3:(o.card==3)=false:=by simp[cc]
    have b4:(o.card==4)=false:=by simp[cc]
    have b5:(o.card==5)=false:=by simp[cc]
    rw[QmD (by simp[cc])]at hKs;simp only[b3,b4,b5,Qm4,Qm7,Qnd,h3,m3,eE,seval];refine aC c2 ?_;simp only[n13,h7,m7,eE,seval];refine QS (l:=[V.sav (x.1,z)]) rfl rfl rfl (by rw[ZU];rfl) ?_;refine QN (site:=1100) (g:=gs) (n:=(K i).length) (xs:=(K i).map V.sav) (ys:=[V.sav (x.1,z)]) (by rfl) (by exact mS) rfl (by rw[Qnq]) rfl (Yd [(x.1,z)]) (by simp only[QmK,Qnr,maxLen];omega) (by simp only[QmK,Qnr];omega) ?_;simp only[h7,h32,m7,e1,eE,seval];exact fin _ _ (gs+1) (by exact h1) (by exact h3) (by exact h6) (by exact h7) (by exact h30') (by exact h31) (by rfl) (by exact m3) (by exact m6) (by rw[hKs,Qm9];exact(by rfl)) (by rw[hKs,Qoj];exact(by rfl)) (by exact mR) (Uv rfl rfl rfl)
   ·have b3:(o.card==3)=true:=by simp[cc]
    have b4:(o.card==4)=false:=by simp[cc]
    have b5:(o.card==5)=false:=by simp[cc]
    have l3:decide (o.card<3)=false:=by simp[cc]
    rw[l3,Qoh]at hKs;simp only[b3,Qm4,Qm7,Qnd,h3,m3,eE,seval];refine aC c2 ?_;simp only[n13,eE,seval];refine aC c3 ?_;cases hz:z.emp
    ·rw[hz,QmD (show(!false)=true from rfl)]at hKs;simp only[h7,m7,eE,seval];refine QS (l:=[V.sav (x.1,z)]) rfl rfl rfl (by rw[ZU];rfl) ?_;refine QN (site:=1100) (g:=gs) (n:=(K i).length) (xs:=(K i).map V.sav) (ys:=[V.sav (x.1,z)]) (by rfl) (by exact mS) rfl (by rw[Qnq]) rfl (Yd [(x.1,z)]) (by simp only[QmK,Qnr,maxLen];omega) (by simp only[QmK,Qnr];omega) ?_;simp only[h7,h32,m7,e1,eE,seval];exact fin _ _ (gs+1) (by exact h1) (by exact h3) (by exact h6) (by exact h7) (by exact h30') (by exact h31) (by rfl) (by exact m3) (by exact m6) (by rw[hKs,Qm9];exact(by rfl)) (by rw[hKs,Qoj];exact(by rfl)) (by exact mR) (Uv rfl rfl rfl)
    ·rw[hz,QmC (by simp),Qnz]at hKs;simp only[h32,e1,Qa,seval];exact fin _ _ gs (by exact h1) (by exact h3) (by exact h6) (by exact h7) (by exact h30') (by exact h31) (by rfl) (by exact m3) (by exact m6) (by rw[hKs];exact(by exact m7)) (by rw[hKs];exact(by exact mS)) (by exact mR) (Uv rfl rfl rfl)

   ·have b3:(o.card==3)=false:=by simp[cc]
    have b4:(o.card==4)=true:=by simp[cc]
    have b5:(o.card==5)=false:=by simp[cc]
    have l3:decide (o.card<3)=false:=by simp[cc]
    rw[l3,Qoh]at hKs;simp only[b3,b4,Qm4,Qm7,Qnd,h3,m3,eE,seval];refine aC c2 ?_;simp only[n13,eE,seval];refine aC c3 ?_;cases hz:z.emp
    ·rw[hz,QmD (show(!false)=true from rfl)]at hKs;simp only[h7,m7,eE,seval];refine QS (l:=[V.sav (x.1,z)]) rfl rfl rfl (by rw[ZU];rfl) ?_;refine QN (site:=1100) (g:=gs) (n:=(K i).length) (xs:=(K i).map V.sav) (ys:=[V.sav (x.1,z)]) (by rfl) (by exact mS) rfl (by rw[Qnq]) rfl (Yd [(x.1,z)]) (by simp only[QmK,Qnr,maxLen];omega) (by simp only[QmK,Qnr];omega) ?_;simp only[h7,h32,m7,e1,eE,seval];exact fin _ _ (gs+1) (by exact h1) (by exact h3) (by exact h6) (by exact h7) (by exact h30') (by exact h31) (by rfl) (by exact m3) (by exact m6) (by rw[hKs,Qm9];exact(by rfl)) (by rw[hKs,Qoj];exact(by rfl)) (by exact mR) (Uv rfl rfl rfl)
    ·rw[hz,QmC (by simp),Qnz]at hKs;simp only[h32,e1,Qa,seval];exact fin _ _ gs (by exact h1) (by exact h3) (by exact h6) (by exact h7) (by exact h30') (by exact h31) (by rfl) (by exact m3) (by exact m6) (by rw[hKs];exact(by exact m7)) (by rw[hKs];exact(by exact mS)) (by exact mR) (Uv rfl rfl rfl)

   ·have b3:(o.card==3)=false:=by simp[cc]
    have b4:(o.card==4)=false:=by simp[cc]
    have b5:(o.card==5)=true:=by simp[cc]
    have l3:decide (o.card<3)=false:=by simp[cc]
    rw[l3,Qoh]at hKs;simp only[b3,b4,b5,Qm4,Qm7,Qnd,h3,m3,eE,seval];refine aC c2 ?_;simp only[n13,eE,seval];refine aC c3 ?_;cases hz:z.emp
    ·rw[hz,QmD (show(!false)=true from rfl)]at hKs;simp only[h7,m7,eE,seval];refine QS (l:=[V.sav (x.1,z)]) rfl rfl rfl (by rw[ZU];rfl) ?_;refine QN (site:=1100) (g:=gs) (n:=(K i).length) (xs:=(K i).map V.sav) (ys:=[V.sav (x.1,z)]) (by rfl) (by exact mS) rfl (by rw[Qnq]) rfl (Yd [(x.1,z)]) (by simp only[QmK,Qnr,maxLen];omega) (by simp only[QmK,Qnr];omega) ?_;simp only[h7,h32,m7,e1,eE,seval];exact fin _ _ (gs+1) (by exact h1) (by exact h3) (by exact h6) (by exact h7) (by exact h30') (by exact h31) (by rfl) (by exact m3) (by exact m6) (by rw[hKs,Qm9];exact(by rfl)) (by rw[hKs,Qoj];exact(by rfl)) (by exact mR) (Uv rfl rfl rfl)
    ·rw[hz,QmC (by simp),Qnz]at hKs;simp only[h32,e1,Qa,seval];exact fin _ _ gs (by exact h1) (by exact h3) (by exact h6) (by exact h7) (by exact h30') (by exact h31) (by rfl) (by exact m3) (by exact m6) (by rw[hKs];exact(by exact m7)) (by rw[hKs];exact(by exact mS)) (by exact mR) (Uv rfl rfl rfl)
  ·have e:i=T.length:=by omega
   subst e;simp only[QI hlt,h7,m7,eE,seval];refine Qg (csR _ _ (by simp only[mR,SP,seval]<;>rfl)) (by simp only[Qm3,Qnx,Qa,seval]) ?_;simp only[h6,h7,m6,m7,eE,seval];simp[AV.un,AV.unL,Zr,XE,mS,Qm5,hrl]

end
open Vp Cp

def Jk:List AV:=[.int .i64 0,.int .u64 0,.str [],.nils,.nils,.nils,.nils]

theorem CV (o:PO):Qi Tryz.prog 180 [Qz o] (.int .i64 (wk o.kind)):=by
 have hw:=QdE o.num o.name o.alias 2 o.key o.kind o.target o.union;have e:VS 2 o.kind=wk o.kind:=by unfold VS pk;simp
 rw[e]at hw;simp only[oc]at hw;refine wF Tryz.func180 ?_;simp only[eK,Tryz.f180,seval];simp only[Qz,PO.cells,splice,Qm4,QnF,Qm7,Qnd,QmR,QmS,QmK,Qnr,eE,seval];refine aC hw ?_;simp only[Qa,seval]

theorem Qev {v:V}{n:Int}{i:Nat}{x:Int×V}(h:v.slots[i]? = some x)(hd:(v.slots.find? fun s=>s.1==n)=(v.slots.drop i).find? fun s=>s.1==n) :
  (x.1==n)=true∧XG v n=some x.2∧QT v n=x.2∨(x.1==n)=false∧(v.slots.find? fun s=>s.1==n)=(v.slots.drop (i+1)).find? fun s=>s.1==n:=by
 have hlt:=(Qmu.1 h).1;have hx:=(Qmu.1 h).2;rw[Qne hlt,Qon,hx]at hd;cases hb:(x.1==n)
 ·rw[hb]at hd;exact .inr ⟨rfl,hd⟩
 ·rw[hb]at hd;have e:XG v n=some x.2:=by unfold XG;rw[hd];rfl
  exact .inl ⟨rfl,e,by unfold QT;rw[e];rfl⟩
theorem Qbp {v:V}{n:Int}{i:Nat}(h:¬i<v.slots.length)(hd:(v.slots.find? fun s=>s.1==n)=(v.slots.drop i).find? fun s=>s.1==n):XG v n=none∧QT v n=QM 0 0 []:=by
 rw[Qm8 (by omega)]at hd;have e:XG v n=none:=by unfold XG;rw[hd];rfl
 exact⟨e,by unfold QT;rw[e];rfl⟩

def FvI (v:V)(n:Int)(k:Nat)(st:St):Prop :=
 ∃f fr i,st=⟨f,[fr],[]⟩∧k=v.slots.length-i∧i≤v.slots.length∧((v.slots.find? fun s=>s.1==n)=(v.slots.drop i).find? fun s=>s.1==n)∧f 1=.int .i64 n∧f 4=.ptr 0 4 0∧f 9=.list (v.slots.map V.sav)∧f 10=.int .i64 (v.slots.length:Nat)∧f 11=.int .i64 (i:Nat)∧fr 4=.cells Jk∧∀s∈[7],(fr s).isRow=false

theorem T6 (v:V)(n:Int)(hl:v.slots.length≤1099511627776):Qi Tryz.prog 45 [v.av,.int .i64 n] (.tup [(QT v n).av,.bool (XG v n).isSome]):=by
 rw[Qe v];refine wF Tryz.func45 ?_;simp only[eK,Tryz.f45,seval];simp only[Qnq,eE,seval];refine Qk (FvI v n) _ ⟨_,_,0,rfl,rfl,QmE _,rfl,(by rfl),(by rfl),(by rfl),(by rfl),(by rfl),(by rfl),by simp<;>rfl⟩ ?_;rintro _ st ⟨f0,fr0,i,rfl,rfl,hil,hfd,h10,h40,h90,h100,h110,m40,r7⟩;refine QL (a:=_) [7] r7 ?_;intro f fr hf hm hn7;have h1:f 1=.int .i64 n:=by rw[hf,h10]<;>rfl
 have h4:f 4=.ptr 0 4 0:=by rw[hf,h40]<;>rfl
 have h9:f 9=.list (v.slots.map V.sav):=by rw[hf,h90]<;>rfl
 have h10':f 10=.int .i64 (v.slots.length:Nat):=by rw[hf,h100]<;>rfl
 have h11:f 11=.int .i64 (i:Nat):=by rw[hf,h110]<;>rfl
 have m4:fr 4=.cells Jk:=by rw[hm 4 (by decide),m40]<;>rfl
 have n7:=hn7 7 (by decide);clear hf hm hn7 h10 h40 h90 h100 h110 m40 r7;have m4':=m4;simp only[Jk]at m4;simp only[h10',h11,Qa,seval];by_cases hlt:i<v.slots.length
 ·obtain⟨x,hi⟩:∃x,v.slots[i]? = some x:=⟨v.slots[i],Qmv hlt⟩;have hg:=WH hi;have e1:=Qw i _ hlt (by simp only[maxLen];omega);rcases Qev hi hfd with⟨hb,hx1,hx2⟩|⟨hb,hfd'⟩
  ·rw[hx1,hx2,Qe x.2];simp only[QD hlt,Qv,QnY,Qf,hg,hb,n7,Qop,h1,h4,h9,h11,m4,eE,seval]
  ·simp only[QD hlt,Qv,QnY,Qf,hg,hb,n7,h1,h9,h11,e1,eE,seval];exact⟨v.slots.length-(i+1),by omega,_,_,i+1,rfl,rfl,by omega,hfd',(by exact h1),(by exact h4),(by exact h9),(by exact h10'),(by rfl),(by exact m4'),by simp<;>rfl⟩
 ·obtain⟨hx1,hx2⟩:=Qbp hlt hfd;rw[hx1,hx2,show(QM 0 0 []).av=.agg [.int .i64 0,.int .u64 0,.str [],.list [],.list [],.list [],.list []]from Qe _];simp only[QI hlt,Qnl,h4,m4,eE,seval]

theorem Qew (l x:V)(hl:l.list.length≤1048576):Qi Tryz.prog 245 [l.av,x.av] (Xw (l.list++[x])).av:=by
 have t1:((l.list.length:Int)=(l.list.length:Int)∧(l.list.length:Int)=(l.list.length:Int))=True:=by simp
 rw[show(Xw (l.list++[x])).av=.agg [.int .i64 11,.int .u64 0,.str [],.list (l.list.map V.av++[x.av]),.list [],.list [],.list []]from by
  rw[Qe];show AV.agg [.int .i64 11,.int .u64 0,.str [],.list ((l.list++[x]).map V.av),.list [],.list [],.list []]=_;rw[Qoj];rfl]
 rw[Qe l,Qe x];refine wF Tryz.func245 ?_;simp only[eK,Tryz.f245,seval];simp only[Qnq,eE,seval];refine Nh rfl rfl (by decide) rfl rfl ?_;refine Y4 (xs:=l.list.map V.av) (ys:=[x.av]) rfl (by rw[Qe];rfl) (by simp) (DR l.list) (DR [x]) (by simp[maxLen];omega) (by simp;omega) (by rfl) ?_;simp only[Qnq,QmK,Qnr,splice,Qm4,QnF,Qm7,Qnd,QnL,Qnz,QmR,QmS,QnI,QnJ,AV.leaf,eE,seval];have hk:List.take (l.list.length+1) (l.list.map V.av++[x.av])=l.list.map V.av++[x.av]:=Qm5 (by simp);simp[hk,AV.un,AV.unL,Zr,XE];exact Qe x

theorem j93 (v:V)(x:R)(hl:v.raws.length≤1048576):Qi Tryz.prog 93 [v.av,x.av] (UI v x).av:=by
 have t1:((v.raws.length:Int)=(v.raws.length:Int)∧(v.raws.length:Int)=(v.raws.length:Int))=True:=by simp
 rw[show(UI v x).av=.agg [.int .i64 v.kd,.int .u64 (v.bits:Nat),.str v.text,.list (v.list.map V.av),.list (v.pairs.map V.pav),.list (v.slots.map V.sav),.list (v.raws.map R.av++[x.av])]from by
  rw[Qe];show AV.agg [.int .i64 v.kd,.int .u64 (v.bits:Nat),.str v.text,.list (v.list.map V.av),.list (v.pairs.map V.pav),.list (v.slots.map V.sav),.list ((v.raws++[x]).map R.av)]=_;rw[Qoj];rfl]
 rw[Qe v];refine wF Tryz.func93 ?_;simp only[eK,Tryz.f93,seval];simp only[R.av,Qnq,eE,seval];refine Nh rfl rfl (by decide) rfl rfl ?_;refine Y4 (xs:=v.raws.map R.av) (ys:=[x.av]) rfl (by rfl) (by simp) (Hm v.raws) (Hm [x]) (by simp[maxLen];omega) (by simp;omega) (by rfl) ?_;simp only[Qnq,QmK,Qnr,splice,Qm4,QnF,Qm7,Qnd,QnL,Qnz,QmR,QmS,QnI,QnJ,AV.leaf,eE,seval];have hk:List.take (v.raws.length+1) (v.raws.map R.av++[x.av])=v.raws.map R.av++[x.av]:=Qm5 (by simp);simp only[R.av]at hk;simp[hk,AV.un,AV.unL,Zr,XE,R.av]

def StI (g:PG)(v:V)(o:PO)(x:V)(K:Nat→List (Int×V))(k:Nat)(st:St):Prop :=
 ∃f fr i n,st=⟨f,[fr],[]⟩∧k=v.slots.length-i∧i≤v.slots.length∧f 4=.ptr 0 4 0∧f 6=.ptr 0 6 0∧f 7=.ptr 0 7 0∧f 8=.ptr 0 8 0∧f 9=.ptr 0 9 0∧f 18=.list (v.slots.map V.sav)∧f 19=.int .i64 (v.slots.length:Nat)∧f 20=.int .i64 (i:Nat)∧fr 4=.cells g.cells∧fr 6=.cells o.cells∧fr 7=.cells (vc x)∧fr 8=.cells Jk∧
  fr 9=.cells [.int .i64 10,.int .u64 0,.str [],.nils,.nils,.vec 0 1100 n 0 (K i).length false,.list (v.raws.map R.av)]∧fr 1100=.vec n 8 ((K i).map V.sav)∧∀s∈[12,11],(fr s).isRow=false

theorem RZ (g:PG)(v:V)(o:PO)(x:V)(hg:g.ops.length≤maxLen)(hl:v.slots.length≤1048576):Qi Tryz.prog 242 [Qm g,v.av,Qz o,x.av] (X6 g v o x).av:=by
 have co:=fun n=>Tk g hg n
 simp only[UF]at co;simp only[Qm,PG.cells]at co;generalize hK:(fun i=>(v.slots.take i).filter fun s=>!Zz g o s)=K;have hK0:K 0=[]:=by rw[←hK];simp
 have hKn:v.slots.filter (fun s=>!Zz g o s)=K v.slots.length:=by rw[←hK];simp
 have hKl:∀i,i≤v.slots.length→(K i).length≤i:=by
  intro i hi;rw[←hK];exact Qmt (List.length_filter_le _ _) (by rw[Qns];omega)
 have hKs:∀(i:Nat) (s:Int×V),v.slots[i]? = some s→K (i+1)=K i++(if Zz g o s=true then []else [s]):=by
  intro i s hs;rw[←hK];show(v.slots.take (i+1)).filter _=(v.slots.take i).filter _++_;rw[Qok,hs,List.filter_append];cases hd:Zz g o s<;>simp[hd]
 rw[show(X6 g v o x).av=.agg [.int .i64 10,.int .u64 0,.str [],.list [],.list [],.list ((K v.slots.length).map V.sav++[V.sav (o.num,x)]),.list (v.raws.map R.av)]from by
  rw[Qe];show AV.agg [.int .i64 10,.int .u64 0,.str [],.list [],.list [],.list ((v.slots.filter (fun s=>!Zz g o s)++[(o.num,x)]).map V.sav),.list (v.raws.map R.av)]=_;rw[hKn,Qoj];rfl]
 rw[Qe v,Qe x];clear hKn hK;refine wF Tryz.func242 ?_;simp only[eK,Tryz.f242,seval];simp only[Qm,Qz,PG.cells,PO.cells,eE,seval];refine YF (by simp only[Qa,seval]<;>rfl) rfl (by simp only[Qa,seval]<;>rfl) rfl ?_;simp only[List.set,Qnq,eE,seval];refine Qk (StI g v o x K) _ ⟨_,_,0,_,rfl,rfl,QmE _,(by rfl),(by rfl),(by rfl),(by rfl),(by rfl),(by rfl),(by rfl),(by rfl),(by rfl),(by rfl),(by rfl),(by rfl),(by rw[hK0];exact(by rfl)),(by rw[hK0];exact(by rfl)),Hf rfl rfl⟩ ?_;rintro _ st ⟨f0,fr0,i,n,rfl,rfl,hil,h40,h60,h70,h80,h90,h180,h190,h200,m40,m60,m70,m80,m90,mS0,r12⟩;refine QL (a:=_) [12,11] r12 ?_;intro f fr hf hm hn12;have h4:f 4=.ptr 0 4 0:=by rw[hf,h40]<;>rfl
 have h6:f 6=.ptr 0 6 0:=by rw[hf,h60]<;>rfl
 have h7:f 7=.ptr 0 7 0:=by rw[hf,h70]<;>rfl
 have h8:f 8=.ptr 0 8 0:=by rw[hf,h80]<;>rfl
 have h9:f 9=.ptr 0 9 0:=by rw[hf,h90]<;>rfl
 have h18:f 18=.list (v.slots.map V.sav):=by rw[hf,h180]<;>rfl
 have h19:f 19=.int .i64 (v.slots.length:Nat):=by rw[hf,h190]<;>rfl
 have h20:f 20=.int .i64 (i:Nat):=by rw[hf,h200]<;>rfl
 have m4':fr 4=.cells g.cells:=by rw[hm 4 (by decide),m40]<;>rfl
 have m6':fr 6=.cells o.cells:=by rw[hm 6 (by decide),m60]<;>rfl
 have m7':fr 7=.cells (vc x):=by rw[hm 7 (by decide),m70]<;>rfl
 have m8':fr 8=.cells Jk:=by rw[hm 8 (by decide),m80]<;>rfl
 have m9:fr 9=.cells [.int .i64 10,.int .u64 0,.str [],.nils,.nils,.vec 0 1100 n 0 (K i).length false,.list (v.raws.map R.av)]:=by rw[hm 9 (by decide),m90]<;>rfl
 have mS:fr 1100=.vec n 8 ((K i).map V.sav):=by rw[hm 1100 (by decide),mS0]<;>rfl
 have n12:=hn12 12 (by decide);have n11:=hn12 11 (by decide);clear hf hm hn12 h40 h60 h70 h80 h90 h180 h190 h200 m40 m60 m70 m80 m90 mS0 r12;have m4:=m4';have m6:=m6';have m7:=m7';have m8:=m8';simp only[PG.cells]at m4;simp only[PO.cells]at m6;simp only[vc]at m7;simp only[Jk]at m8;have hKi:=hKl i hil;simp only[h19,h20,Qa,seval];by_cases hlt:i<v.slots.length
 ·obtain⟨y,hi⟩:∃y,v.slots[i]? = some y:=⟨v.slots[i],Qmv hlt⟩;have hgs:=WH hi;have e1:=Qw i _ hlt (by simp only[maxLen];omega);have hKy:=hKs i y hi;have skip:Zz g o y=true→∀(f':Fr) (fr':Nat→Ob),f' 4=.ptr 0 4 0→f' 6=.ptr 0 6 0→f' 7=.ptr 0 7 0→f' 8=.ptr 0 8 0→f' 9=.ptr 0 9 0→f' 18=.list (v.slots.map V.sav)→f' 19=.int .i64 (v.slots.length:Nat)→f' 20=.int .i64 ((i+1:Nat):Int)→fr' 4=.cells g.cells→fr' 6=.cells o.cells→fr' 7=.cells (vc x)→fr' 8=.cells Jk→fr' 9=fr 9→fr' 1100=fr 1100→(∀s∈[12,11],(fr' s).isRow=false)→∃k,k<v.slots.length-i∧StI g v o x K k ⟨f',[fr'],[]⟩:=by
   intro hd f' fr' a4 a6 a7 a8 a9 a18 a19 a20 b4 b6 b7 b8 b9 bS br;rw[QmD hd,Qnz]at hKy;exact⟨v.slots.length-(i+1),by omega,f',fr',i+1,n,rfl,rfl,by omega,a4,a6,a7,a8,a9,a18,a19,a20,b4,b6,b7,b8,by rw[b9,m9,hKy],by rw[bS,mS,hKy],br⟩
  simp only[QD hlt,Qv,QnY,Qf,hgs,n11,h6,h18,h20,m6,eE,seval];have hdd:Zz g o y=(y.1==o.num||(match Xq g y.1 with
   |some q=>decide (o.union≥0)&&q.union==o.union
   |none=>false)):=rfl
  cases hb:(y.1==o.num)
  ·have c1:=co y.1;rw[hb,Qoh]at hdd;simp only[h4,m4,eE,seval];refine aC c1 ?_;have keep:Zz g o y=false→∀(f':Fr) (fr':Nat→Ob),f' 4=.ptr 0 4 0→f' 6=.ptr 0 6 0→f' 7=.ptr 0 7 0→f' 8=.ptr 0 8 0→f' 9=.ptr 0 9 0→f' 18=.list (v.slots.map V.sav)→f' 19=.int .i64 (v.slots.length:Nat)→f' 20=.int .i64 ((i+1:Nat):Int)→fr' 4=.cells g.cells→fr' 6=.cells o.cells→fr' 7=.cells (vc x)→fr' 8=.cells Jk→fr' 9=.cells [.int .i64 10,.int .u64 0,.str [],.nils,.nils,.vec 0 1100 (n+1) 0 ((K i).length+1) false,.list (v.raws.map R.av)]→fr' 1100=.vec (n+1) 8 ((K i).map V.sav++[V.sav y])→(∀s∈[12,11],(fr' s).isRow=false)→∃k,k<v.slots.length-i∧StI g v o x K k ⟨f',[fr'],[]⟩:=by
    intro hd f' fr' a4 a6 a7 a8 a9 a18 a19 a20 b4 b6 b7 b8 b9 bS br;rw[QmC (by rw[hd];simp)]at hKy;exact⟨v.slots.length-(i+1),by omega,f',fr',i+1,n+1,rfl,rfl,by omega,a4,a6,a7,a8,a9,a18,a19,a20,b4,b6,b7,b8,by rw[b9,hKy,Qm9];rfl,by rw[bS,hKy,Qoj];rfl,br⟩
   cases hq:Xq g y.1 with
   |none=>
    rw[hq]at hdd;simp only[Qn8,Qnl,Qz,Dg,PO.cells,n12,h9,m9,eE,seval];refine QS (l:=[V.sav y]) rfl rfl rfl (by rw[ZU];rfl) ?_;refine QN (site:=1100) (g:=n) (n:=(K i).length) (xs:=(K i).map V.sav) (ys:=[V.sav y]) (by rfl) (by exact mS) rfl (by rw[Qnq]) rfl (Yd [y]) (by simp only[QmK,Qnr,maxLen];omega) (by simp only[QmK,Qnr];omega) ?_;simp only[h9,h20,m9,e1,eE,seval];exact keep hdd _ _ (by exact h4) (by exact h6) (by exact h7) (by exact h8) (by exact h9) (by exact h18) (by exact h19) (by rfl) (by exact m4') (by exact m6') (by exact m7') (by exact m8') (by rfl) (by rfl) (Hf rfl rfl)
   |some q=>
    rw[hq]at hdd;dsimp only at hdd;simp only[QnH,Qop,Qz,PO.cells,n12,h6,m6,eE,seval];cases hu:decide (o.union≥0)
    ·rw[hu,Qn1]at hdd;simp only[h9,m9,eE,seval];refine QS (l:=[V.sav y]) rfl rfl rfl (by rw[ZU];rfl) ?_;refine QN (site:=1100) (g:=n) (n:=(K i).length) (xs:=(K i).map V.sav) (ys:=[V.sav y]) (by rfl) (by exact mS) rfl (by rw[Qnq]) rfl (Yd [y]) (by simp only[QmK,Qnr,maxLen];omega) (by simp only[QmK,Qnr];omega) ?_;simp only[h9,h20,m9,e1,eE,seval];exact keep hdd _ _ (by exact h4) (by exact h6) (by exact h7) (by exact h8) (by exact h9) (by exact h18) (by exact h19) (by rfl) (by exact m4') (by exact m6') (by exact m7') (by exact m8') (by rfl) (by rfl) (Hf rfl rfl)
    ·rw[hu,Qoc]at hdd;cases hqu:(q.union==o.union)
     ·rw[hqu]at hdd;simp only[hqu,h6,h9,m6,m9,eE,seval];refine QS (l:=[V.sav y]) rfl rfl rfl (by rw[ZU];rfl) ?_;refine QN (site:=1100) (g:=n) (n:=(K i).length) (xs:=(K i).map V.sav) (ys:=[V.sav y]) (by rfl) (by exact mS) rfl (by rw[Qnq]) rfl (Yd [y]) (by simp only[QmK,Qnr,maxLen];omega) (by simp only[QmK,Qnr];omega) ?_;simp only[h9,h20,m9,e1,eE,seval];exact keep hdd _ _ (by exact h4) (by exact h6) (by exact h7) (by exact h8) (by exact h9) (by exact h18) (by exact h19) (by rfl) (by exact m4') (by exact m6') (by exact m7') (by exact m8') (by rfl) (by rfl) (Hf rfl rfl)
     ·rw[hqu]at hdd;simp only[hqu,h6,h20,m6,e1,eE,seval];exact skip hdd _ _ (by exact h4) (by exact h6) (by exact h7) (by exact h8) (by exact h9) (by exact h18) (by exact h19) (by rfl) (by exact m4') (by exact m6') (by exact m7') (by exact m8') (by rfl) (by rfl) (Hf rfl rfl)
  ·rw[hb,Qog]at hdd;simp only[h20,e1,Qa,seval];exact skip hdd _ _ (by exact h4) (by exact h6) (by exact h7) (by exact h8) (by exact h9) (by exact h18) (by exact h19) (by rfl) (by exact m4') (by exact m6') (by exact m7') (by exact m8') (by rfl) (by rfl) (Hf (by rw[QX _ _ (by decide),n12]<;>rfl) rfl)
 ·have e:i=v.slots.length:=by omega
  subst e;simp only[QI hlt,h6,h7,h9,m6,m7,m9,eE,seval];refine QS (l:=[V.sav (o.num,x)]) rfl rfl rfl (by rw[ZU];rfl) ?_;refine QN (site:=1100) (g:=n) (n:=(K v.slots.length).length) (xs:=(K v.slots.length).map V.sav) (ys:=[V.sav (o.num,x)]) (by rfl) (by exact mS) rfl (by rw[Qnq]) rfl (Yd [(o.num,x)]) (by simp only[QmK,Qnr,maxLen];omega) (by simp only[QmK,Qnr];omega) ?_;simp only[h8,h9,m8,m9,eE,seval];have hk:List.take ((K v.slots.length).length+1) ((K v.slots.length).map V.sav++[V.sav (o.num,x)])=(K v.slots.length).map V.sav++[V.sav (o.num,x)]:=Qm5 (by simp);simp[hk,AV.un,AV.unL,Zr,XE]

def Hp (c:C):Nat×C×Nat:=match Jt c with
 |.ok (n,d)=>(n,d,0)
 |.error e=>(0,c,e)
def Gs (w:Int)(c:C):R×C×Nat :=
 if w=2 then(⟨0,w,c.fixed.1,[]⟩,c.fixed.2.1,c.fixed.2.2)
 else if w=3 then(if (Hp c).2.2=0 then(⟨0,w,0,(text (Hp c).2.1 (Hp c).1).1⟩,(text (Hp c).2.1 (Hp c).1).2.1,(text (Hp c).2.1 (Hp c).1).2.2)else(⟨0,0,0,[]⟩,c,(Hp c).2.2))
 else(⟨0,w,c.varint.1,[]⟩,c.varint.2.1,c.varint.2.2)
theorem N0 {c:C}{e:Nat}(h:Jt c=.error e):e≠0:=by
 unfold Jt at h;split at h
 ·split at h<;>cases h
  decide
 ·rename_i he;cases h;exact he
theorem Pe (w:Int)(c:C):JK w c=if (Gs w c).2.2=0 then .ok ((Gs w c).1,(Gs w c).2.1)else .error (Gs w c).2.2:=by
 unfold Gs JK;by_cases h2:w=2
 ·rw[QmC (by omega),QmD h2,QmD h2]
 ·rw[QmC h2,QmC h2];by_cases h3:w=3
  ·rw[QmD h3,QmD h3];unfold Hp;cases hr:Jt c with
   |error e=>
    have:=N0 hr;dsimp only;rw[QmC this,QmC this]
   |ok p=>rfl
  ·rw[QmC h3,QmC h3]

def Q7 (P:PL)(c:C):Ob:=.cells [.list (P.progs.map Qm),.list (P.enums.map QE),.str c.d,.int .i64 c.a,.int .i64 c.e,.int .i64 c.dp,.int .i64 c.nd,.int .i64 c.tx]

def Rt (P:PL)(l s:Nat)(m:Qh){α:Type}(f:α→AV)(r:Rd α)(x:AV)(m1:Qh):Prop :=
 match r with
 |.ok (a,d)=>x=.tup [f a,.int .i64 0]∧m1=Am.put m l s (Q7 P d)
 |.error e=>e≠0∧∃a d,x=.tup [f a,.int .i64 (e:Nat)]∧m1=Am.put m l s (Q7 P d)

theorem put_put {m:Qh}{l s:Nat}{o q:Ob}:Am.put (Am.put m l s o) l s q=Am.put m l s q:=by
 induction m generalizing l with
 |nil=>rfl
 |cons fr m ih=>
  cases l with
  |zero=>
   show QG (QG fr s o) s q :: m=QG fr s q :: m;rw[GE]
  |succ l=>exact congrArg (fr :: ·) ih
theorem put_self {m:Qh}{l s:Nat}{o:Ob}(hm:l<m.length)(h:Am.Qc m l s=o):Am.put m l s o=m:=by
 induction m generalizing l with
 |nil=>rfl
 |cons fr m ih=>
  cases l with
  |zero=>
   show QG fr s o :: m=fr :: m;congr 1
   funext i;by_cases e:i=s
   ·subst e;rw[QU];exact h.symm
   ·rw[QX _ _ e]
  |succ l=>exact congrArg (fr :: ·) (ih (by simpa using hm) h)

theorem Z5 (d:List UInt8)(a e dp nd tx:Int):∀n,AV.shNL n [.str d,.int .i64 a,.int .i64 e,.int .i64 dp,.int .i64 nd,.int .i64 tx]=[.str d,.int .i64 a,.int .i64 e,.int .i64 dp,.int .i64 nd,.int .i64 tx]
 |0=>rfl
 |n+1=>by show AV.shL (AV.shNL n _)=_;rw[Z5 d a e dp nd tx n];rfl
theorem sh2 (a b:List AV):∀n,AV.shNL n [.list a,.list b]=[.list a,.list b]
 |0=>rfl
 |n+1=>by show AV.shL (AV.shNL n _)=_;rw[sh2 a b n];rfl
theorem KV (k:IntKind)(v:Int):∀n,(AV.int k v).shN n=.int k v
 |0=>rfl
 |n+1=>by show(AV.shN n _).sh=_;rw[KV k v n];rfl
theorem shl (a:List AV):∀n,(AV.list a).shN n=.list a
 |0=>rfl
 |n+1=>by show(AV.shN n _).sh=_;rw[shl a n];rfl
theorem ZQ (d:List UInt8)(a e dp nd tx:Int):∀n,AV.unNL n [.str d,.int .i64 a,.int .i64 e,.int .i64 dp,.int .i64 nd,.int .i64 tx]=some [.str d,.int .i64 a,.int .i64 e,.int .i64 dp,.int .i64 nd,.int .i64 tx]
 |0=>rfl
 |n+1=>by
  show(AV.unL _).bind (AV.unNL n)=_;exact ZQ d a e dp nd tx n
theorem T7 (k:IntKind)(v:Int):∀n,AV.unNL n [.int k v]=some [.int k v]
 |0=>rfl
 |n+1=>by
  show(AV.unL _).bind (AV.unNL n)=_;exact T7 k v n

def Bj:AV→AV
 |.agg l=>.agg (l.map nn0)
 |x=>x
theorem Rep.nz {G:Gh}{x:AV}{v:Value}(h:Rep G x v):Rep G (Bj x) v:=by
 unfold Bj;split
 ·cases h with
  |agg h=>exact .agg h.nn0
 ·exact h
theorem RepL.nz {G:Gh}:∀ {l:List AV} {vs:List Value},RepL G l vs→RepL G (l.map Bj) vs
 | [],_,h=>by cases h;exact .nil
 |_ :: _,_,h=>by
  cases h with
  |cons h t=>exact .cons (Rep.nz h) (RepL.nz t)
theorem Kw {P:Program}{f:Fr}{m:Qh}{ds:List DF}{K:St→Prop}{its:List Am.Item}{d k:Nat}{args:List RA}{ys:List AV}{R:AV→Qh→Prop}(hk:Qd P k ys m R)(hy:(args.map (RA.ev f)).map Bj=ys)(h:∀x m',R x m'→m'.length=m.length→QB P its ⟨QG f d x,m',ds⟩ K) :
  QB P (⟨some d,.callG (.f k) args,none⟩ :: its) ⟨f,m,ds⟩ K :=
 QJ ⟨hk.1,fun G w vs hv hm=>hk.2 G w vs (by rw[←hy];exact RepL.nz hv) hm⟩ rfl h

theorem QO (m:Qh)(l s:Nat)(o:Ob):(Am.put m l s o).length=m.length:=by
 induction m generalizing l with
 |nil=>rfl
 |cons fr m ih=>
  cases l with
  |zero=>rfl
  |succ l=>exact congrArg (· + 1) (ih l)

section
variable (P:PL)(c:C)(l s:Nat)(m:Qh)(hm:l<m.length)(hs:Am.Qc m l s=Q7 P c)

include hs in
theorem CW (n:Int) :
  Qd Tryz.prog 43 [.ptr l s 0,.int .i64 n] m fun x m1=>x=.int .i64 ((c.spend n).2:Nat)∧m1=Am.put m l s (Q7 P (c.spend n).1):=by
 simp only[Q7]at hs;refine wG Tryz.func43 ?_;simp only[eK,Tryz.f43,seval];simp only[hs,Z5,eE,seval];refine aC (c88 c n) ?_;generalize c.spend n=r;obtain⟨c',e⟩:=r;simp only[UC,C.av,Q7,hs,Z5,ZQ,QO,eE,seval]

include hs hm in
theorem R1 (hc:CI c):Qd Tryz.prog 238 [.ptr l s 0] m (Rt P l s m (fun n:Nat=>.int .i64 (n:Nat)) (Jt c)):=by
 have hs0:=hs;simp only[Q7]at hs;refine wG Tryz.func238 ?_;simp only[eK,Tryz.f238,seval];simp only[hs,Z5,eE,seval];refine aC (BU c hc.big) ?_;have hva:=J0 hc;have hln:Jt c=if c.varint.2.2=0 then(if c.varint.2.1.left<(c.varint.1:Int)then .error 4 else .ok (c.varint.1,c.varint.2.1))else .error c.varint.2.2:=rfl
 generalize c.varint=r at hva hln ⊢;obtain⟨u,d,e⟩:=r;dsimp only at hva hln;by_cases he:e=0
 ·subst he;obtain⟨ha,hu⟩:=hva rfl;have hd:=ha.ci hc;have hdl:=hd.bd;rw[QmD rfl]at hln;have w1:IntKind.u64.wrap d.left=d.left:=by rw[JR];omega
  simp only[KG,C.av,Z5,ZQ,eE,seval];refine aC (NA d hd.big') ?_;by_cases hlt:d.left<(u:Int)
  ·have d1:decide ((u:Int) > d.left)=true:=Qou hlt;rw[QmD hlt]at hln;rw[hln];simp only[w1,d1,Qa,seval];exact⟨by decide,0,c,rfl,(put_self hm hs0).symm⟩
  ·have d1:decide ((u:Int) > d.left)=false:=Qoo hlt;have w2:IntKind.i64.wrap (u:Int)=u:=by rw[QC];omega
   rw[QmC hlt]at hln;rw[hln];simp only[w1,w2,d1,hs,Z5,ZQ,QO,eE,seval];exact⟨rfl,rfl⟩
 ·rw[QmC he]at hln;rw[hln];simp only[KG,C.av,Q2 he,ZQ,eE,seval];exact⟨he,0,c,rfl,(put_self hm hs0).symm⟩

include hs hm in
theorem Qez (hc:CI c)(w:Int):Qd Tryz.prog 246 [.ptr l s 0,.int .i64 w] m (Rt P l s m R.av (JK w c)):=by
 have hs0:=hs;have lp:∀o,Am.Qc (Am.put m l s o) l s=o:=fun o=>Qo hm
 have pp:∀o q,Am.put (Am.put m l s o) l s q=Am.put m l s q:=fun o q=>put_put
 simp only[Q7]at hs;refine wG Tryz.func246 ?_;simp only[eK,Tryz.f246,seval];simp only[eE,seval];by_cases h3:w=3
 ·have b3:(w==3)=true:=by simp[h3]
  simp only[b3,Qa,seval];refine QJ (R1 P c (l+1) s _ (Nat.succ_lt_succ hm) hs0 hc) (by simp only[Qm3,Qnx,Qa,seval]) ?_;intro x m1 hx _;cases hr:Jt c with
  |error e=>
   have hrc:JK w c=.error e:=by unfold JK;rw[QmD h3,hr]
   rw[hr]at hx;obtain⟨he,a,c',rfl,rfl⟩:=hx;rw[hrc];simp only[Q2 he,QO,eE,seval];exact⟨he,⟨0,w,0,[]⟩,c',rfl,rfl⟩
  |ok p=>
   obtain⟨n,d⟩:=p;obtain⟨a1,a2⟩:=Wo hc hr;have hd:=a1.ci hc;have hrc:JK w c=if (text d n).2.2=0 then .ok (⟨0,w,0,(text d n).1⟩,(text d n).2.1)else .error (text d n).2.2:=by unfold JK;rw[QmD h3,hr]
   rw[hr]at hx;obtain⟨rfl,rfl⟩:=hx;simp only[Q7,lp,Z5,eE,seval];refine aC (Qj5 d n hd.inr hd.big') ?_;rw[hrc];generalize text d n=q;obtain⟨t,i,e⟩:=q;dsimp only;simp only[RH,C.av,lp,pp,ZQ,QO,eE,seval];by_cases he:e=0
   ·subst he;rw[QmD rfl];exact⟨rfl,rfl⟩
   ·rw[QmC he];exact⟨he,⟨0,w,0,t⟩,i,rfl,rfl⟩
 have b3:(w==3)=false:=by simp[h3]
 by_cases h2:w=2
 ·have b2:(w==2)=true:=by simp[h2]
  simp only[b3,b2,hs,Z5,eE,seval];refine aC (Qej c hc.big) ?_;have hrc:JK w c=if c.fixed.2.2=0 then .ok (⟨0,w,c.fixed.1,[]⟩,c.fixed.2.1)else .error c.fixed.2.2:=by unfold JK;rw[QmC h3,QmD h2]
  rw[hrc];generalize c.fixed=q;obtain⟨t,i,e⟩:=q;dsimp only;simp only[KG,C.av,hs,ZQ,T7,QO,eE,seval];by_cases he:e=0
  ·subst he;rw[QmD rfl];exact⟨rfl,rfl⟩
  ·rw[QmC he];exact⟨he,⟨0,w,t,[]⟩,i,rfl,rfl⟩
 ·have b2:(w==2)=false:=by simp[h2]
  simp only[b3,b2,hs,Z5,eE,seval];refine aC (BU c hc.big) ?_;have hrc:JK w c=if c.varint.2.2=0 then .ok (⟨0,w,c.varint.1,[]⟩,c.varint.2.1)else .error c.varint.2.2:=by unfold JK;rw[QmC h3,QmC h2]
  rw[hrc];generalize c.varint=q;obtain⟨t,i,e⟩:=q;dsimp only;simp only[KG,C.av,hs,ZQ,T7,QO,eE,seval];by_cases he:e=0
  ·subst he;rw[QmD rfl];exact⟨rfl,rfl⟩
  ·rw[QmC he];exact⟨he,⟨0,w,t,[]⟩,i,rfl,rfl⟩

include hs in
theorem QeA (n:Nat) :
  Qd Tryz.prog 239 [.ptr l s 0,.int .i64 (n:Nat)] m fun x m1=>x=c.av∧m1=Am.put m l s (Q7 P (part c n)):=by
 simp only[Q7]at hs;refine wG Tryz.func239 ?_;simp only[eK,Tryz.f239,seval];simp only[hs,Z5,KV,ZQ,T7,QO,part,Q7,C.av,eE,seval]

include hs in
theorem R2 (o:C) :
  Qd Tryz.prog 241 [.ptr l s 0,o.av] m fun x m1=>x=.tup []∧m1=Am.put m l s (Q7 P (ZO o c)):=by
 simp only[Q7]at hs;refine wG Tryz.func241 ?_;simp only[eK,Tryz.f241,seval];simp only[hs,Z5,KV,ZQ,T7,QO,ZO,Q7,C.av,eE,seval]

end

theorem avs (k:Int)(b:Nat)(t:List UInt8):(QM k b t).av=.agg [.int .i64 k,.int .u64 (b:Nat),.str t,.list [],.list [],.list [],.list []]:=Qe _
def WM (r:V×Nat):AV:=.tup [r.1.av,.int .i64 (r.2:Nat)]
theorem EL {k:Int}{b:Nat}(hk:isk k=true)(ht:Zh k=false):XO k k b [] [] [] [] []=Wf k b:=by
 have k7:(k != 7)=true:=by
  unfold Zh at ht;rw[Qno,Qoi]at ht;simp[ht.1]
 unfold XO;rw[hk,ht,k7];simp[Ub]

section
variable (n:Int)(s a:List UInt8)(c y k t u:Int)
theorem Qgr:Qi Tryz.prog 180 [oc n s a c y k t u] (.int .i64 (wk k)):=CV ⟨n,s,a,c,y,k,t,u⟩

end

theorem EM (b:Nat)(_hb:b<18446744073709551616):IntKind.u64.wrap (IM b)=(Z3 1 b:Int)∧Z3 1 b<18446744073709551616:=by
 unfold Z3;rw[QmD rfl,JR];omega

theorem QeB {k:Int}(hk:isk k=true)(h:wk k≠3):Zh k=false:=by
 unfold wk at h;unfold Zh;rw[Qno,Qoi,Qoi];refine⟨fun e=>?_,fun e=>?_⟩<;>(subst e;exact h (by decide))

section
variable {M:Nat}(P:PL)(hP:P.ok M)
include hP in
theorem Qgs (n:Int)(s a:List UInt8)(c y k t u:Int)(f:R)(hb:f.bits<18446744073709551616) :
    Qi Tryz.prog 247 [P.av,oc n s a c y k t u,f.av] (WM (XT P k t f)):=by
  have hw:=Qgr n s a c y k t u;have hacc:∀b,_:=fun b=>A9 P hP t b
  have e0:P.av=.agg [.list (P.progs.map Qm),.list (P.enums.map QE)]:=rfl;simp only[oc]at hw;simp only[e0]at hacc;have hfn:∀B:Nat,Zh k=false→isk k=true→Qi Tryz.prog 297 [.int .i64 k,.agg [.int .i64 k,.int .u64 (B:Nat),.str [],.list [],.list [],.list [],.list []]] (.bool (Wf k B)):=fun B h1 h2=>by
    have h:=A7 k k B [] [] [] [] [] (QmE _) (QmE _) (QmE _) (QmE _);rw[EL h2 h1]at h;exact h
  have hnm:∀B:Nat,B<18446744073709551616→Qi Tryz.prog 109 [.agg [.int .i64 k,.int .u64 (B:Nat),.str [],.list [],.list [],.list [],.list []]] (.agg [.int .i64 k,.int .u64 ((XB k B:Nat):Int),.str [],.list [],.list [],.list [],.list []]):=fun B hB=>by
    have h:=EG (QM k B []) hB;rw[T2,avs]at h;exact h
  refine wF Tryz.func247 ?_;simp only[eK,Tryz.f247,seval];simp only[e0,oc,R.av,eE,seval];refine aC (BH k) ?_;cases hk:isk k
  · have hs:XT P k t f=(QM 0 0 [],12):=by unfold XT;rw[QmC (by rw[hk];decide)]
    simp only[hs,WM,avs,splice,Qm4,QnF,Qm7,Qnd,QmS,QmK,Qnr,eE,seval]
    try rfl
  simp only[eE,seval];refine aC hw ?_;by_cases h1:f.wire=wk k
  case neg=>
    have hs:XT P k t f=(QM 0 0 [],13):=by unfold XT;rw[QmD hk,QmC h1]
    have b1:(f.wire != wk k)=true:=by simp[h1]
    simp only[b1,hs,WM,avs,splice,Qm4,QnF,Qm7,Qnd,QmS,QmK,Qnr,eE,seval]
    try rfl
  have b1:(f.wire != wk k)=false:=by simp[h1]
  simp only[b1,eE,seval];by_cases h3:f.wire=3
  · have b3:(f.wire==3)=true:=by simp[h3]
    simp only[b3,eE,seval];by_cases h7:k=7
    · have b7:(k==7)=true:=by simp[h7]
      simp only[b7,eE,seval];refine aC (Rq f.data) ?_;cases hv:Hz f.data
      · have hs:XT P k t f=(QM 0 0 [],7):=by unfold XT;rw[QmD hk,QmD h1,QmD h3,QmD ⟨h7,hv⟩]
        simp only[hs,WM,avs,splice,Qm4,QnF,Qm7,Qnd,QmS,QmK,Qnr,eE,seval]
        try rfl
      · have hs:XT P k t f=(QM k 0 f.data,0):=by unfold XT;rw[QmD hk,QmD h1,QmD h3,QmC (by rw[hv];simp)]
        simp only[hs,WM,avs,splice,Qm4,QnF,Qm7,Qnd,QmR,QmS,QmK,Qnr,eE,seval]
        try rfl
    · have b7:(k==7)=false:=by simp[h7]
      have hs:XT P k t f=(QM k 0 f.data,0):=by unfold XT;rw[QmD hk,QmD h1,QmD h3,QmC (by simp[h7])]
      simp only[b7,hs,WM,avs,splice,Qm4,QnF,Qm7,Qnd,QmR,QmS,QmK,Qnr,eE,seval]
      try rfl
  have b3:(f.wire==3)=false:=by simp[h3]
  have htx:=QeB hk (h1▸h3);simp only[b3,splice,Qm4,QnF,Qm7,Qnd,QmR,QmS,QmK,Qnr,eE,seval];have hfit:∀B:Nat,B=Z3 f.wire f.bits→Wf k B=false→XT P k t f=(QM 0 0 [],6):=by
    intro B e hh;unfold XT;rw[QmD hk,QmD h1,QmC h3,←e,QmC (by rw[hh];decide)]
  have hen:∀B:Nat,B=Z3 f.wire f.bits→Wf k B=true→k=9→W3 P.enums t B=false→XT P k t f=(QM 0 0 [],16):=by
    intro B e hh h9 ha;unfold XT;rw[QmD hk,QmD h1,QmC h3,←e,QmD hh,QmD ⟨h9,ha⟩]
  have hno:∀B:Nat,B=Z3 f.wire f.bits→Wf k B=true→(k=9→W3 P.enums t B=true)→XT P k t f=(QM k (XB k B) [],0):=by
    intro B e hh ha;unfold XT;rw[QmD hk,QmD h1,QmC h3,←e,QmD hh,QmC (by rintro⟨h9,hf⟩;rw[ha h9]at hf;cases hf)]
  have hz:=Qkb (f.bits:Int) (by omega) (by omega);obtain⟨hzw,hzl⟩:=EM f.bits hb;by_cases hw1:f.wire=1
  all_goals
    first
      | (have bw:(f.wire==1)=true:=by simp[hw1]
         simp only[bw,eE,seval];refine aC hz ?_;simp only[hzw,splice,Qm4,QnF,Qm7,Qnd,QmR,QmS,QmK,Qnr,eE,seval];have eB:Z3 1 f.bits=Z3 f.wire f.bits:=by rw[hw1]
         have hB:=hzl;generalize Z3 1 f.bits=B at eB hB)
      | (have bw:(f.wire==1)=false:=by simp[hw1]
         simp only[bw,Qm4,Qnd,QmK,Qnr,eE,seval];obtain⟨B,hBe⟩:∃B,f.bits=B:=⟨_,rfl⟩;rw[hBe];have eB:B=Z3 f.wire f.bits:=by unfold Z3;rw[QmC hw1];exact hBe.symm
         have hB:=hb;rw[hBe]at hB)
    refine aC (hfn _ htx hk) ?_;cases hft:Wf k B
    · simp only[hfit B eB hft,WM,avs,splice,Qm4,QnF,Qm7,Qnd,QmS,QmK,Qnr,eE,seval]
      try rfl
    simp only[eE,seval];by_cases h9:k=9
    · have b9:(k==9)=true:=by simp[h9]
      simp only[b9,eE,seval];refine aC (hacc B) ?_;cases ha:W3 P.enums t B
      · simp only[hen B eB hft h9 ha,WM,avs,splice,Qm4,QnF,Qm7,Qnd,QmS,QmK,Qnr,eE,seval]
        try rfl
      · simp only[eE,seval];refine aC (hnm _ hB) ?_;simp only[hno B eB hft (fun _=>ha),WM,avs,splice,Qm4,QnF,Qm7,Qnd,QmS,QmK,Qnr,eE,seval]
    · have b9:(k==9)=false:=by simp[h9]
      simp only[b9,eE,seval];refine aC (hnm _ hB) ?_;simp only[hno B eB hft (fun h=>absurd h h9),WM,avs,splice,Qm4,QnF,Qm7,Qnd,QmS,QmK,Qnr,eE,seval]

include hP in
theorem QeC (o:PO)(f:R)(hb:f.bits<18446744073709551616):Qi Tryz.prog 247 [P.av,Qz o,f.av] (WM (XT P o.kind o.target f)) :=
 Qgs P hP o.num o.name o.alias o.card o.key o.kind o.target o.union f hb

end

def LD (g:PG)(v:V)(o:PO)(x:V)(d:C):V×C×Nat :=
  if (XG v o.num).isSome=true then(X6 g v o (Xw ((QT v o.num).list++[x])),d,0)
  else if (d.spend 1).2=0 then(X6 g v o (Xw ((QT v o.num).list++[x])),(d.spend 1).1,0)else(v,(d.spend 1).1,(d.spend 1).2)
def LF (P:PL)(g:PG)(v:V)(o:PO)(f:R)(d:C):V×C×Nat :=
  if (XT P o.kind o.target f).2=16 then(UI v ⟨o.num,0,f.bits,[]⟩,d,0)
  else if (XT P o.kind o.target f).2=0 then(if o.card=4 then LD g v o (XT P o.kind o.target f).1 d else(X6 g v o (XT P o.kind o.target f).1,d,0))
  else(v,d,(XT P o.kind o.target f).2)
def YS (P:PL)(g:PG)(v:V)(o:PO)(c:C):V×C×Nat :=
  if (c.spend 1).2=0 then
    (if (Gs (wk o.kind) (c.spend 1).1).2.2=0 then LF P g v o (Gs (wk o.kind) (c.spend 1).1).1 (Gs (wk o.kind) (c.spend 1).1).2.1
     else(v,(Gs (wk o.kind) (c.spend 1).1).2.1,(Gs (wk o.kind) (c.spend 1).1).2.2))
  else(v,(c.spend 1).1,(c.spend 1).2)

theorem NG (P:PL)(g:PG)(v:V)(o:PO)(c:C):Wn P g v o c=if (YS P g v o c).2.2=0 then .ok ((YS P g v o c).1,(YS P g v o c).2.1)else .error (YS P g v o c).2.2:=by
 unfold Wn YS Jz;by_cases h1:(c.spend 1).2=0
 case neg=>simp only[QmC h1]
 simp only[QmD h1];rw[Pe];generalize Gs (wk o.kind) (c.spend 1).1=r;obtain⟨f,d,e⟩:=r;dsimp only;by_cases h2:e=0
 case neg=>simp only[QmC h2]
 simp only[QmD h2];unfold LF;by_cases h3:(XT P o.kind o.target f).2=16
 ·simp only[QmD h3];rfl
 simp only[QmC h3];by_cases h4:(XT P o.kind o.target f).2=0
 case neg=>simp only[QmC h4]
 simp only[QmD h4];by_cases h5:o.card=4
 case neg=>simp only[QmC h5];rfl
 simp only[QmD h5];unfold LD;by_cases h6:(XG v o.num).isSome=true
 ·simp only[QmD h6];rfl
 simp only[QmC h6];by_cases h7:(d.spend 1).2=0
 ·simp only[QmD h7];rfl
 ·simp only[QmC h7]

def DX (P:PL)(M K n:Nat)(rec:Int→V→C→Rd V):Prop :=
 ∀(l s:Nat) (m:Qh) (t:Int) (v:V) (c:C),l<m.length→Am.Qc m l s=Q7 P c→CI c→c.left<n→(0≤t∧t<(P.progs.length:Int))→MW P n (Qq P t) v→v.ok M→(v.cnt:Int)+3*c.left≤K→
  Qd Tryz.prog 44 [.ptr l s 0,.int .i64 t,v.av] m (Rt P l s m V.av (rec t v c))

theorem J2 (c:C)(n:Int):(∃d,Jz c n=.ok d∧c.spend n=(d,0))∨∃e,e≠0∧Jz c n=.error e∧(c.spend n).2=e:=by
 unfold Jz;by_cases h:(c.spend n).2=0
 ·rw[QmD h];exact .inl ⟨_,rfl,by rw[←h]⟩
 ·rw[QmC h];exact .inr ⟨_,h,rfl,rfl⟩

theorem GV (v:V)(n:Int):(QT v n).cnt≤v.cnt:=by
 cases hf:XG v n with
 |none=>rw[ZP (by rw[hf];simp),Xu];exact Zp v
 |some z=>
  have:=KJ (Xv hf).1;rw[(Xv hf).2];exact this

section
variable {M:Nat}(P:PL)(hP:P.ok M)(c:C)(l s:Nat)(m:Qh)(hm:l<m.length)(hs:Am.Qc m l s=Q7 P c)(hc:CI c)(g:PG)(hg:g.ops.length≤maxLen)(v:V)(hv:v.cnt≤1000000)(o:PO)

include hP hm hs hc hg hv in
theorem QeD:Qd Tryz.prog 182 [.ptr l s 0,Qm g,v.av,Qz o] m (Rt P l s m V.av (Wn P g v o c)):=by
 have hs0:=hs;have lp:∀o,Am.Qc (Am.put m l s o) l s=o:=fun o=>Qo hm
 have pp:∀o q,Am.put (Am.put m l s o) l s q=Am.put m l s q:=fun o q=>put_put
 have hpl:∀o,l+1<(Am.put m l s o).length+1:=fun o=>by rw[QO];omega
 have ls:=Zk v;have lr:=WK v;have hwo:=CV o;simp only[Qz,PO.cells]at hwo;rw[Qe v];refine wG Tryz.func182 ?_;simp only[eK,Tryz.f182,seval];simp only[Qm,Qz,PG.cells,PO.cells,eE,seval];refine QJ (CW P c (l+1) s _ hs0 1) (by simp only[Qm3,Qnx,Qa,seval]) ?_;rintro x m1 ⟨rfl,rfl⟩ _;unfold Wn;rcases J2 c 1 with⟨c1,h1,h1'⟩|⟨e,he,h1,h1'⟩
 case inr=>
  rw[h1,h1'];simp only[Q2 he,QO,eE,seval];exact⟨he,v,_,by rw[Qe v],rfl⟩
 rw[h1,h1'];obtain⟨a1,_⟩:=ZE hc (by omega) h1;have hc1:=a1.ci hc;dsimp only;simp only[eE,seval];refine aC hwo ?_;refine QJ (Qez P c1 (l+1) s _ (by exact hpl _) (lp _) hc1 (wk o.kind)) (by simp only[Qm3,Qnx,Qa,seval]) ?_;intro x m1 hx _;cases hr:JK (wk o.kind) c1 with
 |error e=>
  rw[hr]at hx;obtain⟨he,a,c',rfl,rfl⟩:=hx;dsimp only;simp only[Q2 he,R.av,pp,QO,eE,seval];exact⟨he,v,c',by rw[Qe v],rfl⟩
 |ok p=>
 obtain⟨f,d⟩:=p;rw[hr]at hx;obtain⟨rfl,rfl⟩:=hx;obtain⟨b1,_,b3,b4⟩:=Gk hc1 hr;have hd:=b1.ci hc1;have hsc:=QeC P hP o f b3;have e0:P.av=.agg [.list (P.progs.map Qm),.list (P.enums.map QE)]:=rfl;dsimp only;generalize XT P o.kind o.target f=q at hsc ⊢;obtain⟨x,e⟩:=q;simp only[WM,e0,Qz,PO.cells,R.av,Qe x]at hsc;simp only[R.av,Q7,lp,pp,sh2,eE,seval];refine aC hsc ?_;by_cases h16:e=16
 ·subst h16;rw[QmD rfl];have ha:=j93 v ⟨o.num,0,f.bits,[]⟩ (by omega);have e16:(((16:Nat):Int)==16)=true:=rfl;rw[Qe v,Qe (UI v _)]at ha;simp only[R.av]at ha;simp only[KV,eE,seval];refine aC ha ?_;simp only[QO,eE,seval];exact⟨by rw[Qe (UI v _)],rfl⟩
 have e16:((e:Int)==16)=false:=by rw[Qoi];omega
 rw[QmC h16];by_cases h0:e=0
 case neg=>
  rw[QmC h0];simp only[e16,Q2 h0,QO,eE,seval];exact⟨h0,v,d,by rw[Qe v],rfl⟩
 subst h0;rw[QmD rfl];have hset:=fun y=>RZ g v o y hg (by omega)
 rw[Qe v]at hset;simp only[Qm,Qz,PG.cells,PO.cells]at hset;by_cases h4:o.card=4
 case neg=>
  have b4':(o.card != 4)=true:=by simp[h4]
  have hx:=hset x;rw[Qe x,Qe (X6 g v o x)]at hx;rw[QmC h4];simp only[b4',KV,eE,seval];refine aC hx ?_;simp only[QO,eE,seval];exact⟨by rw[Qe (X6 g v o x)],rfl⟩
 have b4':(o.card != 4)=false:=by simp[h4]
 have hfd:=T6 v o.num (by omega);have hlo:=Qew (QT v o.num) x (by have:=GV v o.num;have:=Jx (QT v o.num);omega);have hx:=hset (Xw ((QT v o.num).list++[x]));rw[QmD h4];generalize X6 g v o (Xw ((QT v o.num).list++[x]))=w at hx ⊢;generalize Xw ((QT v o.num).list++[x])=y at hx hlo;generalize QT v o.num=z at hfd hlo;rw[Qe v,Qe z]at hfd;rw[Qe z,Qe x,Qe y]at hlo;rw[Qe y,Qe w]at hx;simp only[b4',KV,eE,seval];refine aC hfd ?_;cases hf:(XG v o.num).isSome
 ·simp only[QmO,eE,seval];refine QJ (CW P d (l+1) s _ (lp _) 1) (by simp only[Qm3,Qnx,Qa,seval]) ?_;rintro x m1 ⟨rfl,rfl⟩ _;rcases J2 d 1 with⟨c2,h2,h2'⟩|⟨e,he,h2,h2'⟩
  case inr=>
   rw[h2,h2'];simp only[Q2 he,pp,QO,eE,seval];exact⟨he,v,_,by rw[Qe v],rfl⟩
  rw[h2,h2'];dsimp only;simp only[pp,eE,seval];refine aC hlo ?_;refine aC hx ?_;simp only[QO,eE,seval];exact⟨by rw[Qe w],rfl⟩
 ·simp only[eE,seval];refine aC hlo ?_;refine aC hx ?_;simp only[QO,eE,seval];exact⟨by rw[Qe w],rfl⟩

variable {K n:Nat}{rec:Int→V→C→Rd V}(hrec:DX P M K n rec)

include hrec hm hs hc in
theorem QeE {t:Int}(ht:0≤t∧t<(P.progs.length:Int))(b:V)(k:Int)(hk0:0≤k)(hcn:c.left≤n)(hbm:1≤n→MW P n (Qq P t) b)(hbo:b.ok M)(hb:(b.cnt:Int)+3*c.left≤K) :
  Qd Tryz.prog 244 [.ptr l s 0,.int .i64 t,b.av,.int .i64 k] m (Rt P l s m V.av (Wy rec t b k c)):=by
 have hs0:=hs;have lp:∀o,Am.Qc (Am.put m l s o) l s=o:=fun o=>Qo hm
 have pp:∀o q,Am.put (Am.put m l s o) l s q=Am.put m l s q:=fun o q=>put_put
 have hpl:∀o,l+1<(Am.put m l s o).length+1:=fun o=>by rw[QO];omega
 have hrec':=fun(fr:Nat→Ob) (o:Ob) (i:C) (h:o=Q7 P i) (h1:CI i) (h2:i.left<n) (h3:1≤n) (h4:(b.cnt:Int)+3*i.left≤K)=>hrec (l+1) s (fr :: Am.put m l s o) t b i (hpl _) (by rw[←h];exact lp _) h1 h2 ht (hbm h3) hbo h4
 rw[Qe b];rw[Qe b]at hrec';refine wG Tryz.func244 ?_;simp only[eK,Tryz.f244,seval];simp only[eE,seval];refine QJ (R1 P c (l+1) s _ (Nat.succ_lt_succ hm) hs0 hc) (by simp only[Qm3,Qnx,Qa,seval]) ?_;intro x m1 hx _;unfold Wy;cases hr:Jt c with
 |error e=>
  rw[hr]at hx;obtain⟨he,a,c',rfl,rfl⟩:=hx;dsimp only;simp only[Q2 he,QO,eE,seval];exact⟨he,b,c',by rw[Qe b],rfl⟩
 |ok p=>
 obtain⟨q,d⟩:=p;obtain⟨a1,a2⟩:=Wo hc hr;have hd:=a1.ci hc;have hl1:=a1.lt hc;have hdb:=hd.bd;rw[hr]at hx;obtain⟨rfl,rfl⟩:=hx;have hen:=DP hd a2;have cen:=Qj6 d q hd.big';dsimp only;generalize enter d q=r at hen cen ⊢;obtain⟨i,e⟩:=r;dsimp only at hen;simp only[UC,C.av]at cen;simp only[Q7,lp,Z5,ZQ,eE,seval];refine aC cen ?_;by_cases he:e=0
 case neg=>
  rw[QmC he];simp only[Q2 he,lp,pp,ZQ,QO,eE,seval];exact⟨he,b,i,by rw[Qe b],rfl⟩
 subst he;rw[QmD rfl];obtain⟨e1,e2,e3⟩:=hen rfl;simp only[lp,pp,ZQ,eE,seval];refine QJ (CW P i (l+1) s _ (lp _) k) (by simp only[Qm3,Qnx,Qa,seval]) ?_;rintro x m1 ⟨rfl,rfl⟩ _;rcases J2 i k with⟨j,h2,h2'⟩|⟨e,he,h2,h2'⟩
 case inr=>
  rw[h2,h2'];dsimp only;simp only[Q2 he,pp,QO,eE,seval];exact⟨he,b,_,by rw[Qe b],rfl⟩
 rw[h2,h2'];obtain⟨s1,s2⟩:=ZE e2 hk0 h2;have hls:=(s1.left e2).2.2;have hj:=s1.ci e2;have hjb:=hj.bd;dsimp only;simp only[pp,eE,seval];refine QJ (hrec' _ _ j rfl hj (by omega) (by omega) (by omega)) (by simp only[Qm3,Qnx,Qa,seval]) ?_;intro x m1 hx _;cases hr2:rec t b j with
 |error e=>
  rw[hr2]at hx;obtain⟨he,w,c',rfl,rfl⟩:=hx;dsimp only;simp only[Q2 he,Qe w,pp,QO,eE,seval];exact⟨he,b,c',by rw[Qe b],rfl⟩
 |ok p=>
 obtain⟨w,j2⟩:=p;rw[hr2]at hx;obtain⟨rfl,rfl⟩:=hx;have clv:=Qj7 d j2;dsimp only;generalize Wl d j2=y at clv ⊢;simp only[C.av]at clv;simp only[Qe w,Q7,lp,pp,Z5,eE,seval];refine aC clv ?_;simp only[lp,pp,ZQ,QO,eE,seval];exact⟨by rw[Qe w],rfl⟩

end

def CX (v:V)(c:C)(r:Rd V):V×C×Nat:=match r with
 |.ok (w,d)=>(w,d,0)
 |.error e=>(v,c,e)
theorem QeF (v:V)(c:C)(e:Nat):CX v c (.error e)=(v,c,e):=rfl

def Hq (rec:Int→V→C→Rd V):Prop:=∀(t:Int) (v:V) (c:C) (e:Nat),rec t v c=.error e→e≠0
theorem R3 {c:C}{n:Int}{e:Nat}(h:Jz c n=.error e):e≠0:=by
 unfold Jz at h;split at h
 ·cases h
 ·rename_i h1;cases h;exact h1
theorem Qgt {w:Int}{c:C}{e:Nat}(h:JK w c=.error e):e≠0:=by
 rw[Pe]at h;split at h
 ·cases h
 ·rename_i h1;cases h;exact h1
section
variable {rec:Int→V→C→Rd V}(hre:Hq rec)
include hre
theorem R4 {t:Int}{b:V}{k:Int}{c:C}{e:Nat}(h:Wy rec t b k c=.error e):e≠0:=by
 unfold Wy at h;split at h
 ·rename_i h1;cases h;exact N0 h1
 ·split at h
  ·split at h
   ·rename_i h1;cases h;exact R3 h1
   ·split at h
    ·rename_i h1;cases h;exact hre _ _ _ _ h1
    ·cases h
  ·rename_i h1;cases h;exact h1
theorem Qbq {g:PG}{v:V}{o:PO}{c:C}{e:Nat}(h:Ky rec g v o c=.error e):e≠0:=by
 unfold Ky at h;split at h<;>split at h
 ·rename_i h1;cases h;exact R4 hre h1
 ·cases h
 ·rename_i h1;cases h;exact R4 hre h1
 ·cases h
end

section
variable {M K n:Nat}{rec:Int→V→C→Rd V}(P:PL)(o:PO){c:C}(hc:CI c)(hcn:c.left≤n)

variable (g:PG)(hg:g.ops.length≤maxLen)(v:V)(hv:(v.cnt:Int)+3*c.left≤K)(hK:K≤1000000)(hvo:v.ok M)(hun : -1≤o.union)(hre:Hq rec)(hb1:(1:Int)+3*c.left≤K)

end
end Go.Proofs.YtkhpgmeokilhaaaGreatDoor.Va

namespace Go.Proofs.YtkhpgmeokilhaaaGreatDoor.Va
open Go Am Rc Bt Br Up So

section
variable {P:PL}{k:Int}(hk:Ze k)(ps:List (V×V))(hn:ps.length≤1048576)(h1:∀p∈ps,p.1.kx P k)(hb:∀p∈ps,p.1.bits<18446744073709551616)

end

theorem T8 {k:Int}{P:PL}{a b:V}(ha:a.kx P k)(hb:b.kx P k)(ba:a.bits<18446744073709551616)(bb:b.bits<18446744073709551616)(h1:kl k a b=false)(h2:Xz a b=false):kl k b a=true:=by
 obtain⟨_,a1,a2⟩:=WS ha;obtain⟨_,b1,b2⟩:=WS hb;cases hc:kl k b a with
 |true=>rfl
 |false=>
  exfalso;unfold kl at h1 hc;unfold Xz at h2;split at h1
  ·rename_i ht;rw[QmD ht]at hc;have e:=Gg h1 hc;have e1:=a1 ht;have e2:=b1 ht;rw[e,show a.bits=b.bits by omega]at h2;simp at h2
  ·rename_i ht;rw[QmC ht]at hc;have ht:Zh k=false:=by simpa using ht
   rw[a2 ht,b2 ht]at h2;split at h1
   ·rename_i hs;rw[QmD hs]at hc;simp only[Qov]at h1 hc;rw[QC,QC]at h1 hc;rw[show a.bits=b.bits by omega]at h2;simp at h2
   ·rename_i hs;rw[QmC hs]at hc;simp only[Qov]at h1 hc;rw[show a.bits=b.bits by omega]at h2;simp at h2

def dl:List (V×V)→List (V×V)
 | []=>[]
 | [x]=>[x]
 |x :: y :: l=>if Xz x.1 y.1=true then dl (y :: l)else x :: dl (y :: l)
def Ki (T:List (V×V)):Nat→List (V×V)
 |0=>[]
 |i+1=>Ki T i++(match T[i]?,T[i+1]? with
  |some x,some y=>if Xz x.1 y.1=true then []else [x]
  |some x,none=>[x]
  |none,_=>[])
theorem CY (T:List (V×V)):∀i,i≤T.length→dl T=Ki T i++dl (T.drop i)
 |0,_=>rfl
 |i+1,h=>by
  rw[CY T i (by omega),Ki,Qne (by omega:i<T.length),Qmv (by omega:i<T.length),QmQ];congr 1
  by_cases hl:i+1<T.length
  ·rw[Qne hl,Qmv hl];dsimp only;rw[dl];split<;>rfl
  ·rw[Qm8 (by omega),QnU (by omega)];rfl
theorem Qbr (T:List (V×V)):Ki T T.length=dl T:=by
 rw[CY T T.length (Qms _),List.drop_length];show _=_++[];rw[Qnz]
theorem Pf (T:List (V×V)):∀i,(Ki T i).length≤i
 |0=>Qms _
 |i+1=>by
  have:=Pf T i;rw[Ki,Qm9];have h:(match T[i]?,T[i+1]? with
   |some x,some y=>if Xz x.1 y.1=true then []else [x]
   |some x,none=>[x]
   |none,_=>([]:List (V×V))).length≤1:=by
   split
   ·split<;>simp
   ·simp
   ·simp
  omega

theorem T9 {k:Int}{a b c:V}(h:Xz a b=true):kl k a c=kl k b c∧kl k c a=kl k c b:=by
 unfold Xz at h;simp only[QmT,QmA]at h;unfold kl;rw[h.1,h.2];exact⟨rfl,rfl⟩
theorem CZ {k:Int}{a b:V×V}(h:kl k a.1 b.1=true):Xz a.1 b.1=false:=by
 cases he:Xz a.1 b.1 with
 |false=>rfl
 |true=>
  rw[(T9 (k:=k) he).1]at h;have:kl k b.1 b.1=false:=(Ym k).irr b;rw[this]at h;cases h

theorem Ph {k:Int}:∀ {a b:List (V×V)},(a.Pairwise fun x y=>kl k x.1 y.1=true)→(b.Pairwise fun x y=>kl k x.1 y.1=true)→(∀x,x∈a↔x∈b)→a=b
 | [],[],_,_,_=>rfl
 | [],y :: b,_,_,h=>by have:=(h y).2 (by simp);cases this
 |x :: a,[],_,_,h=>by have:=(h x).1 (by simp);cases this
 |x :: a,y :: b,ha,hb,h=>by
  obtain⟨a1,a2⟩:=Qn5.1 ha;obtain⟨b1,b2⟩:=Qn5.1 hb;have irr:∀z:V×V,kl k z.1 z.1=true→False:=fun z hz=>by rw[(Ym k).irr z]at hz;cases hz
  have e:x=y:=by
   rcases QnS.1 ((h x).1 (by simp))with e|e
   ·exact e
   ·rcases QnS.1 ((h y).2 (by simp))with e'|e'
    ·exact e'.symm
    ·exact(irr x ((Ym k).tr x y x (a1 y e') (b1 x e))).elim
  subst e;congr 1
  refine Ph a2 b2 fun z=>?_
  have hz:=h z;simp only[QnS]at hz
  constructor
  ·intro hm;rcases hz.1 (.inr hm)with e|e
   ·subst e;exact(irr z (a1 z hm)).elim
   ·exact e
  ·intro hm;rcases hz.2 (.inr hm)with e|e
   ·subst e;exact(irr z (b1 z hm)).elim
   ·exact e

theorem NH {k:Int}:∀ {l:List (V×V)},(l.Pairwise fun x y=>kl k x.1 y.1=true)→dl l=l
 | [],_=>rfl
 | [x],_=>rfl
 |x :: y :: l,h=>by
  obtain⟨h1,h2⟩:=Qn5.1 h;rw[dl,CZ (h1 y (by simp)),QmC (by simp),NH h2]
theorem Aa {k:Int}{x:V×V}{R:List (V×V)}:∀ {L:List (V×V)},(L.Pairwise fun x y=>kl k x.1 y.1=true)→(∀u∈L,kl k x.1 u.1=false)→dl (L++x :: R)=L.filter (fun q=>!Xz q.1 x.1)++dl (x :: R)
 | [],_,_=>rfl
 | [u],_,_=>by
  show dl (u :: x :: R)=_;rw[dl,Qn7];cases Xz u.1 x.1<;>rfl
 |u :: v :: L,h,hx=>by
  obtain⟨h1,h2⟩:=Qn5.1 h;have huv:=h1 v (by simp);have hux:Xz u.1 x.1=false:=by
   cases he:Xz u.1 x.1 with
   |false=>rfl
   |true=>
    have:=hx v (by simp);rw[←(T9 (k:=k) he).1,huv]at this;cases this
  show dl (u :: v :: (L++x :: R))=_;rw[dl,CZ huv,QmC (by simp),Qn7,hux];show u :: dl (v :: L++x :: R)=_;rw[Aa h2 fun w hw=>hx w (QmL _ hw)];rfl

theorem NI {k:Int}{x:V×V}:∀ {O:List (V×V)},Zs (fun x y:V×V=>kl k x.1 y.1) O→∃L R,O=L++R∧(∀u∈L,kl k x.1 u.1=false)∧∀u∈R,kl k x.1 u.1=true
 | [],_=>⟨[],[],rfl,(fun _ h=>(nomatch h)),(fun _ h=>(nomatch h))⟩
 |u :: O,h=>by
  obtain⟨h1,h2⟩:=Qn5.1 h;cases hx:kl k x.1 u.1 with
  |true=>
   refine⟨[],u :: O,rfl,(fun _ h=>(nomatch h)),fun w hw=>?_⟩;rcases QnS.1 hw with rfl|hw
   ·exact hx
   ·cases hc:kl k x.1 w.1 with
    |true=>rfl
    |false=>
     have:=(Ym k).nt x w u hc (h1 w hw);rw[hx]at this;cases this
  |false=>
   obtain⟨L,R,e,hl,hr⟩:=NI (x:=x) h2;refine⟨u :: L,R,by rw[e];rfl,fun w hw=>?_,hr⟩;rcases QnS.1 hw with rfl|hw
   ·exact hx
   ·exact hl w hw

section
variable {P:PL}{k:Int}
def KF (P:PL)(k:Int)(l:List (V×V)):Prop:=∀p∈l,p.1.kx P k∧p.1.bits<18446744073709551616

theorem NJ {l:List (V×V)}(h1:KF P k l)(hs:Zs (fun x y:V×V=>kl k x.1 y.1) l)(hu:l.Pairwise fun q p=>Xz q.1 p.1=false):l.Pairwise fun x y=>kl k x.1 y.1=true:=by
 unfold Zs at hs;rw[QoI]at *;intro i j hi hj hij;obtain⟨a1,a2⟩:=h1 _ (Qnn hi);obtain⟨b1,b2⟩:=h1 _ (Qnn hj);exact T8 b1 a1 b2 a2 (hs i j hi hj hij) (by rw[YR];exact hu i j hi hj hij)

theorem Pi {A:List (V×V)}{x:V×V}(hA:KF P k A)(hx:x.1.kx P k∧x.1.bits<18446744073709551616)(hu:A.Pairwise fun q p=>Xz q.1 p.1=false):dl (Xc k (A++[x]))=ZH k A x:=by
 have hO:(Xc k A).Perm A:=Q0 _;have hOs:Zs (fun x y:V×V=>kl k x.1 y.1) (Xc k A):=Zt (Ym k) _;have hT:Xc k (A++[x])=mg (fun x y:V×V=>kl k x.1 y.1) (Xc k A) [x]:=(Hg (Ym k) A [x]).symm;have hOf:KF P k (Xc k A):=fun p hp=>hA p (hO.mem_iff.1 hp)
 have hOu:(Xc k A).Pairwise fun q p=>Xz q.1 p.1=false:=(hO.pairwise_iff fun {a b} h=>by rw[YR];exact h).2 hu
 have hst:=NJ hOf hOs hOu;obtain⟨L,R,e,hl,hr⟩:=NI (k:=k) (x:=x) hOs;rw[hT,e,DJ hl hr];rw[e]at hst;obtain⟨hL,hR,hLR⟩:=Qn6.1 hst;have hxR:(x :: R).Pairwise fun x y=>kl k x.1 y.1=true:=Qn5.2 ⟨hr,hR⟩
 rw[Aa hL hl,NH hxR];have hmem:∀w,w∈A↔w∈L∨w∈R:=fun w=>by rw[←hO.mem_iff,e,QnP]
 have hpm:∀w,w∈ZH k A x↔(w∈A∧Xz w.1 x.1=false)∨w=x:=by
  intro w;have hp:(ZH k A x).Perm _:=Q0 _;rw[hp.mem_iff,QnP,Qn3,QoG];simp
 refine Ph (k:=k) ?_ ?_ ?_
 ·rw[Qn6];refine⟨hL.filter _,hxR,fun u hu' w hw=>?_⟩;obtain⟨u1,u2⟩:=Qn3.1 hu';have u2:Xz u.1 x.1=false:=by simpa using u2
  rcases QnS.1 hw with rfl|hw
  ·obtain⟨f1,f2⟩:=hA u ((hmem u).2 (.inl u1));exact T8 hx.1 f1 hx.2 f2 (hl u u1) (by rw[YR];exact u2)
  ·exact hLR u u1 w hw
 ·refine NJ (P:=P) (fun p hp=>?_) (Zt (Ym k) _) (Pd hu);rcases(hpm p).1 hp with⟨h,_⟩|rfl
  ·exact hA p h
  ·exact hx
 ·intro w;rw[QnP,Qn3,QnS,hpm,hmem]
  constructor
  ·rintro(⟨h1,h2⟩|h1|h1)
   ·exact .inl ⟨.inl h1,by simpa using h2⟩
   ·exact .inr h1
   ·exact .inl ⟨.inr h1,by rw[YR];exact CZ (hr w h1)⟩
  ·rintro(⟨h1|h1,h2⟩|h1)
   ·exact .inl ⟨h1,by simpa using h2⟩
   ·exact .inr (.inr h1)
   ·exact .inr (.inl h1)
end

def PqI (T:List (V×V))(k:Nat)(st:St):Prop :=
 ∃f fr i g h,st=⟨f,[fr],[]⟩∧k=T.length-i∧i≤T.length∧f 3=.vec 0 1000 g 0 T.length false∧f 4=.vec 0 4 h 0 (Ki T i).length false∧f 11=.vec 0 1000 g 0 T.length false∧f 12=.int .i64 (T.length:Nat)∧f 13=.int .i64 (i:Nat)∧fr 1000=.vec g 14 (T.map V.pav)∧fr 4=.vec h 14 ((Ki T i).map V.pav)∧∀s∈[6],(fr s).isRow=false

theorem LG {P:PL}{k:Int}(hk:Ze k)(ps:List (V×V))(hn:ps.length≤1048576)(h1:∀p∈ps,p.1.kx P k)(hb:∀p∈ps,p.1.bits<18446744073709551616):Qi Tryz.prog 108 [.list (ps.map V.pav)] (.list ((dl (Xc k ps)).map V.pav)):=by
 have cl:=fun fr hr=>Qeq (ps.map V.pav) fr [] (Wr ps) (by rw[Qnq];exact hn) hr
 have ez:∀x∈ps.map V.pav,Ez (eP P k) 14 x:=by
  intro x hx;obtain⟨p,hp,rfl⟩:=QnQ.1 hx;exact ezP (h1 p hp) (hb p hp)
 have cs:=fun g (m:Qh) (hl:Am.Qc m 0 1000=.vec g 14 (ps.map V.pav))=>Tz.RT Tg.T0 (by decide) (Qer (P:=P) hk) 0 1000 g (ps.map V.pav) m hl ez (by rw[Qnq];omega)
 simp only[CG,Qnq]at cs;have hperm:(Xc k ps).Perm ps:=Q0 _;have hlen:(Xc k ps).length=ps.length:=hperm.length_eq;have h1T:∀p∈Xc k ps,p.1.kx P k:=fun p hp=>h1 p (hperm.mem_iff.1 hp)
 have hbT:∀p∈Xc k ps,p.1.bits<18446744073709551616:=fun p hp=>hb p (hperm.mem_iff.1 hp)
 generalize Xc k ps=T at *;have hdn:=Qbr T;have hdl:=Pf T;rw[←hdn];refine wF Tryz.func108 ?_;simp only[eK,Tryz.f108,seval];simp only[Qa,seval];refine Qg (cl _ rfl) (by simp only[Qm3,Qnx,Qa,seval]) ?_;simp only[Qnq,Qa,seval];refine Qg (cs _ _ (by simp only[eE,seval]<;>rfl)) (by simp only[Qm3,Qnx,Qa,seval]) ?_;simp only[eE,seval];refine Zo (by simp only[Qa,seval]) (by simp only[Qa,seval]) ?_;simp only[eE,seval];refine Qk (PqI T) _ ⟨_,_,0,_,_,rfl,rfl,QmE _,(by rw[hlen];exact(by rfl)),(by rfl),(by rw[hlen];exact(by rfl)),(by rw[hlen];exact(by rfl)),(by rfl),(by rfl),(by rfl),by simp<;>rfl⟩ ?_;rintro _ st ⟨f0,fr0,i,g,h,rfl,rfl,hil,h30,h40,h110,h120,h130,mR0,m40,r6⟩;refine QL (a:=_) [6] r6 ?_;intro f fr hf hm hn6;have h3:f 3=.vec 0 1000 g 0 T.length false:=by rw[hf,h30]<;>rfl
 have h4:f 4=.vec 0 4 h 0 (Ki T i).length false:=by rw[hf,h40]<;>rfl
 have h11:f 11=.vec 0 1000 g 0 T.length false:=by rw[hf,h110]<;>rfl
 have h12:f 12=.int .i64 (T.length:Nat):=by rw[hf,h120]<;>rfl
 have h13:f 13=.int .i64 (i:Nat):=by rw[hf,h130]<;>rfl
 have mR:fr 1000=.vec g 14 (T.map V.pav):=by rw[hm 1000 (by decide),mR0]<;>rfl
 have m4:fr 4=.vec h 14 ((Ki T i).map V.pav):=by rw[hm 4 (by decide),m40]<;>rfl
 have n6:=hn6 6 (by decide);clear hf hm hn6 h30 h40 h110 h120 h130 mR0 m40 r6;simp only[h12,h13,Qa,seval];by_cases hlt:i<T.length
 ·obtain⟨x,hi⟩:∃x,T[i]? = some x:=⟨T[i],Qmv hlt⟩;have hg:=WG hi;have e1:=Qw i _ hlt (by simp only[maxLen];omega);have ia:∀(fr:Nat→Ob) (j:Nat),fr 1000=.vec g 14 (T.map V.pav)→j<T.length→Qf [fr] 14 none (.vec 0 1000 g 0 T.length false) ((j:Nat):Int)=some (.vptr 0 1000 g j 0):=fun fr j h hj=>ED h hj
  have la:∀(fr:Nat→Ob),fr 1000=.vec g 14 (T.map V.pav)→Xf [fr] (some 14) (.vptr 0 1000 g i 0)=some (.agg [.int .i64 x.1.kd,.int .u64 (x.1.bits:Nat),.str x.1.text,.list (x.1.list.map V.av),.list (x.1.pairs.map V.pav),.list (x.1.slots.map V.sav),.list (x.1.raws.map R.av),.int .i64 x.2.kd,.int .u64 (x.2.bits:Nat),.str x.2.text,.list (x.2.list.map V.av),.list (x.2.pairs.map V.pav),.list (x.2.slots.map V.sav),.list (x.2.raws.map R.av)]):=fun fr h=>CF h hg (by simp)
  have hdi:=hdl i;have keep:Ki T (i+1)=Ki T i++[x]→∀(f':Fr) (fr':Nat→Ob) (h':Nat),f' 3=.vec 0 1000 g 0 T.length false→f' 4=.vec 0 4 h' 0 ((Ki T i).length+1) false→f' 11=.vec 0 1000 g 0 T.length false→f' 12=.int .i64 (T.length:Nat)→f' 13=.int .i64 ((i+1:Nat):Int)→fr' 1000=.vec g 14 (T.map V.pav)→fr' 4=.vec h' 14 ((Ki T i).map V.pav++[V.pav x])→(∀s∈[6],(fr' s).isRow=false)→∃k,k<T.length-i∧PqI T k ⟨f',[fr'],[]⟩:=by
   intro hk' f' fr' h' a3 a4 a11 a12 a13 b1 b4 b6;exact⟨T.length-(i+1),by omega,f',fr',i+1,g,h',rfl,rfl,by omega,a3,by rw[a4,hk',Qm9];rfl,a11,a12,a13,b1,by rw[b4,hk',Qoj];rfl,b6⟩
  have hst:Ki T (i+1)=Ki T i++(match T[i]?,T[i+1]? with
   |some x,some y=>if Xz x.1 y.1=true then []else [x]
   |some x,none=>[x]
   |none,_=>[]):=rfl
  rw[hi]at hst;have hti:((Ki T i).map V.pav).length=(Ki T i).length:=Qnq ..;simp only[QD hlt,ia,la,mR,hlt,n6,h3,h11,h13,e1,eE,seval];by_cases hl:i+1=T.length
  ·have d1:(((i+1:Nat):Int)==(T.length:Int))=true:=by simp;omega
   rw[QnU (by omega)]at hst;simp only[d1,h4,eE,seval];refine QS (l:=[V.pav x]) rfl rfl rfl (by rw[Z2];rfl) ?_;refine QN (site:=4) (g:=h) (n:=(Ki T i).length) (xs:=(Ki T i).map V.pav) (ys:=[V.pav x]) (by rfl) (by exact m4) rfl hti.symm rfl (Wr [x]) (by simp only[QmK,Qnr,maxLen];omega) (by simp only[QmK,Qnr];omega) ?_;simp only[h13,e1,Qa,seval];exact keep hst _ _ (h+1) (by exact h3) (by rfl) (by exact h11) (by exact h12) (by rfl) (by exact mR) (by rfl) (by simp<;>rfl)
  ·have d1:(((i+1:Nat):Int)==(T.length:Int))=false:=by simp;omega
   have hlt1:i+1<T.length:=by omega
   obtain⟨y,hj⟩:∃y,T[i+1]? = some y:=⟨T[i+1],Qmv hlt1⟩;have hgj:=WG hj;have lc:∀(fr:Nat→Ob),fr 1000=.vec g 14 (T.map V.pav)→Xf [fr] (some 7) (.vptr 0 1000 g (i+1) 0)=some (.agg [.int .i64 y.1.kd,.int .u64 (y.1.bits:Nat),.str y.1.text,.list (y.1.list.map V.av),.list (y.1.pairs.map V.pav),.list (y.1.slots.map V.sav),.list (y.1.raws.map R.av)]):=fun fr h=>by
    rw[CF h hgj (by simp)];rfl
   have hx1:=h1T x (QmJ hi);have hy1:=h1T y (QmJ hj);rw[hj]at hst;dsimp only at hst;have hq:=Ec k hk x.1.bits y.1.bits x.1.text y.1.text;rw[←(WS hx1).1,←(WS hy1).1,BQ hk hx1 hy1 (hbT x (QmJ hi)) (hbT y (QmJ hj)),Qe,Qe]at hq;simp only[d1,ia,lc,mR,hlt1,W9,QmU,Qm4,QnF,Qnd,h3,e1,eE,seval];refine aC hq ?_;cases hne:Xz x.1 y.1
   ·skip
    rw[hne,QmC (by simp)]at hst;simp only[h4,eE,seval];refine QS (l:=[V.pav x]) rfl rfl rfl (by rw[Z2];rfl) ?_;refine QN (site:=4) (g:=h) (n:=(Ki T i).length) (xs:=(Ki T i).map V.pav) (ys:=[V.pav x]) (by rfl) (by exact m4) rfl hti.symm rfl (Wr [x]) (by simp only[QmK,Qnr,maxLen];omega) (by simp only[QmK,Qnr];omega) ?_;simp only[h13,e1,Qa,seval];exact keep hst _ _ (h+1) (by exact h3) (by rfl) (by exact h11) (by exact h12) (by rfl) (by exact mR) (by rfl) (by simp<;>rfl)
   ·rw[hne,QmD rfl,Qnz]at hst;simp only[h13,e1,Qa,seval];exact⟨T.length-(i+1),by omega,_,_,i+1,g,h,rfl,rfl,by omega,(by exact h3),(by rw[hst];exact(by exact h4)),(by exact h11),(by exact h12),(by rfl),(by exact mR),(by rw[hst];exact(by exact m4)),by simp<;>rfl⟩
 ·have e:i=T.length:=by omega
  subst e;simp only[QI hlt,h4,eE,seval];simp[AV.un,Zr,XE,m4];rw[Qm5 (by rw[Qnq];exact Qms _)]

open Vp Cp

theorem QeG {k:Int}:Qz ⟨0,[],[],0,0,k,-1,0⟩=.agg [.int .i64 0,.str [],.str [],.int .i64 0,.int .i64 0,.int .i64 k,.int .i64 (-1),.int .i64 0]:=rfl

section
variable {M K n:Nat}(P:PL)(hP:P.ok M)(c:C)(l s:Nat)(m:Qh)(hm:l<m.length)(hs:Am.Qc m l s=Q7 P c)(hc:CI c){rec:Int→V→C→Rd V}(hrec:DX P M K n rec)(hcn:c.left≤n)(hb1:(1:Int)+3*c.left≤K)

include hP hm hs hc hrec hcn hb1 in
theorem Qku (o:PO)(w:Int)(ht:o.kind=10→0≤o.target∧o.target<(P.progs.length:Int)) :
  Qd Tryz.prog 240 [.ptr l s 0,Qz o,.int .i64 w] m (Rt P l s m V.av (JL P rec o.kind o.target w c)):=by
 have hs0:=hs;have lp:∀o,Am.Qc (Am.put m l s o) l s=o:=fun o=>Qo hm
 have pp:∀o q,Am.put (Am.put m l s o) l s q=Am.put m l s q:=fun o q=>put_put
 have hwo:=CV o;simp only[Qz,PO.cells]at hwo;refine wG Tryz.func240 ?_;simp only[eK,Tryz.f240,seval];simp only[Qz,PO.cells,eE,seval];refine aC hwo ?_;unfold JL;by_cases hw:w=wk o.kind
 case neg=>
  have b1:(w != wk o.kind)=true:=by simp[hw]
  rw[QmC hw];simp only[b1,eE,seval];exact⟨by decide,QM 0 0 [],c,(by rw[avs];rfl),(put_self hm hs0).symm⟩
 have b1:(w != wk o.kind)=false:=by simp[hw]
 rw[QmD hw];by_cases hk:o.kind=10
 ·have b2:(o.kind==10)=true:=by simp[hk]
  rw[QmD hk];simp only[b1,b2,KV,eE,seval];refine Kw (QeE P c (l+1) s _ (by simp only[QmK];omega) hs0 hc hrec (ht hk) (QM 10 0 []) 0 (QnV 0) hcn (fun hn=>ZB hn) (Zu rfl (by decide) (QmE _)) (by rw[Xu];omega)) (by rw[avs];first|rfl|simp only[Qm3,Qnx,Bj,nn0,eE,seval]) ?_;intro x m1 hx _;cases hr:Wy rec o.target (QM 10 0 []) 0 c with
  |error e=>
   rw[hr]at hx;obtain⟨he,y,c',rfl,rfl⟩:=hx;simp only[Qe y,QO,eE,seval];exact⟨he,y,c',by rw[Qe y],rfl⟩
  |ok p=>
   obtain⟨y,d⟩:=p;rw[hr]at hx;obtain⟨rfl,rfl⟩:=hx;simp only[Qe y,QO,eE,seval];exact⟨by rw[Qe y],rfl⟩
 ·have b2:(o.kind==10)=false:=by simp[hk]
  rw[QmC hk];simp only[b1,b2,KV,eE,seval];refine QJ (Qez P c (l+1) s _ (by simp only[QmK];omega) hs0 hc w) (by simp only[Qm3,Qnx,Qa,seval]) ?_;intro x m1 hx _;cases hr:JK w c with
  |error e=>
   rw[hr]at hx;obtain⟨he,y,c',rfl,rfl⟩:=hx;dsimp only;simp only[Q2 he,R.av,QO,eE,seval];exact⟨he,QM 0 0 [],c',(by rw[avs];rfl),rfl⟩
  |ok p=>
   obtain⟨f,d⟩:=p;rw[hr]at hx;obtain⟨rfl,rfl⟩:=hx;obtain⟨_,_,b3,b4⟩:=Gk hc hr;have hsc:=QeC P hP o f b3;have e0:P.av=.agg [.list (P.progs.map Qm),.list (P.enums.map QE)]:=rfl;dsimp only;generalize XT P o.kind o.target f=q at hsc ⊢;obtain⟨x,e⟩:=q;simp only[WM,e0,Qz,PO.cells,R.av,Qe x]at hsc;simp only[R.av,Q7,lp,sh2,eE,seval];refine aC hsc ?_;simp only[QO,eE,seval];by_cases he:e=0
   ·subst he;rw[QmD rfl];exact⟨by rw[Qe x];rfl,rfl⟩
   ·rw[QmC he];exact⟨he,x,d,by rw[Qe x],rfl⟩

variable (g:PG)(hg:g.ops.length≤maxLen)(v:V)(hv:(v.cnt:Int)+3*c.left≤K)(hK:K≤1000000)(hvo:v.ok M)(o:PO)

include hm hs hc hrec hcn hb1 hg hv hK hvo in
theorem Qkv (ho:OpK P g o)(h10:o.kind=10)(h5:o.card≠5)(hvm:MW P (n+1) g v) :
  Qd Tryz.prog 181 [.ptr l s 0,Qm g,v.av,Qz o] m (Rt P l s m V.av (Ky rec g v o c)):=by
 have hs0:=hs;have lp:∀o,Am.Qc (Am.put m l s o) l s=o:=fun o=>Qo hm
 have pp:∀o q,Am.put (Am.put m l s o) l s q=Am.put m l s q:=fun o q=>put_put
 have ls:=Zk v;have hcb:=hc.bd;have ht:=ho.uo.tgt h10;have hfd:=T6 v o.num (by omega);have hoc:=GV v o.num;have hol:=Gq (n:=o.num) hvo;have hin:=fun(fr:Nat→Ob) (b:V) (k:Int) (h0:0≤k) (h1:1≤n→MW P n (Qq P o.target) b) (h2:b.ok M) (h3:(b.cnt:Int)+3*c.left≤K)=>QeE P c (l+1) s (fr :: m) (by simp only[QmK];omega) hs0 hc hrec ht b k h0 hcn h1 h2 h3
 have hset:=fun y=>RZ g v o y hg (by omega)
 have hlo:=fun x=>Qew (QT v o.num) x (by have:=Jx (QT v o.num);omega)
 have hon:∀h:(XG v o.num).isSome=false,QT v o.num=QM 0 0 []:=fun h=>ZP (by rw[h];simp)
 have hom:o.card≠4→(XG v o.num).isSome=true→MW P n (Qq P o.target) (QT v o.num):=by
  intro h4 h;obtain⟨z,hz⟩:=QmX.1 h;have h2:=Gr hvm ho.self hz;unfold FW at h2;rw[QmC h4,QmC h5]at h2;rw[(Xv hz).2];exact h2 h10
 rw[Qe v]at hset;simp only[Qm,Qz,PG.cells,PO.cells]at hset;unfold Ky;generalize QT v o.num=z at hfd hlo hoc hol hon hom ⊢;rw[Qe v,Qe z]at hfd;rw[Qe z]at hlo;rw[Qe v];refine wG Tryz.func181 ?_;simp only[eK,Tryz.f181,seval];simp only[Qm,Qz,PG.cells,PO.cells,eE,seval];refine aC hfd ?_;by_cases h4:o.card=4
 ·have b4':(o.card==4)=true:=by simp[h4]
  rw[QmD h4];cases hf:(XG v o.num).isSome
  case false=>
   have hkk:(if (false:Bool)=true then(1:Int)else 2)=2:=rfl;rw[hkk];simp only[b4',KV,eE,seval];refine Kw (hin _ (QM 10 0 []) 2 (by decide) (fun hn=>ZB hn) (Zu rfl (by decide) (QmE _)) (by rw[Xu];omega)) (by rw[avs];first|rfl|simp only[Qm3,Qnx,Bj,nn0,eE,seval]) ?_;intro x m1 hx _;cases hr:Wy rec o.target (QM 10 0 []) 2 c with
   |error e=>
    rw[hr]at hx;obtain⟨he,y,c',rfl,rfl⟩:=hx;dsimp only;simp only[Q2 he,Qe y,QO,eE,seval];exact⟨he,v,c',by rw[Qe v],rfl⟩
   |ok p=>
    obtain⟨y,d⟩:=p;rw[hr]at hx;obtain⟨rfl,rfl⟩:=hx;have h1:=hlo y;have h2:=hset (Xw (z.list++[y]));dsimp only;generalize X6 g v o (Xw (z.list++[y]))=w at h2 ⊢;generalize Xw (z.list++[y])=u at h1 h2;rw[Qe y,Qe u]at h1;rw[Qe u,Qe w]at h2;simp only[Qe y,eE,seval];refine aC h1 ?_;refine aC h2 ?_;simp only[QO,eE,seval];exact⟨by rw[Qe w],rfl⟩

  case true=>
   have hkk:(if (true:Bool)=true then(1:Int)else 2)=1:=rfl;rw[hkk];simp only[b4',KV,eE,seval];refine Kw (hin _ (QM 10 0 []) 1 (by decide) (fun hn=>ZB hn) (Zu rfl (by decide) (QmE _)) (by rw[Xu];omega)) (by rw[avs];first|rfl|simp only[Qm3,Qnx,Bj,nn0,eE,seval]) ?_;intro x m1 hx _;cases hr:Wy rec o.target (QM 10 0 []) 1 c with
   |error e=>
    rw[hr]at hx;obtain⟨he,y,c',rfl,rfl⟩:=hx;dsimp only;simp only[Q2 he,Qe y,QO,eE,seval];exact⟨he,v,c',by rw[Qe v],rfl⟩
   |ok p=>
    obtain⟨y,d⟩:=p;rw[hr]at hx;obtain⟨rfl,rfl⟩:=hx;have h1:=hlo y;have h2:=hset (Xw (z.list++[y]));dsimp only;generalize X6 g v o (Xw (z.list++[y]))=w at h2 ⊢;generalize Xw (z.list++[y])=u at h1 h2;rw[Qe y,Qe u]at h1;rw[Qe u,Qe w]at h2;simp only[Qe y,eE,seval];refine aC h1 ?_;refine aC h2 ?_;simp only[QO,eE,seval];exact⟨by rw[Qe w],rfl⟩
 ·have b4':(o.card==4)=false:=by simp[h4]
  rw[QmC h4];cases hf:(XG v o.num).isSome
  case false=>
   have hkk:(if (false:Bool)=true then z else QM 10 0 [])=QM 10 0 []:=rfl;rw[hkk];simp only[b4',KV,eE,seval];refine Kw (hin _ (QM 10 0 []) 1 (by decide) (fun hn=>ZB hn) (Zu rfl (by decide) (QmE _)) (by rw[Xu];omega)) (by rw[Qe (QM 10 0 [])];first|rfl|simp only[Qm3,Qnx,Bj,nn0,eE,seval]) ?_;intro x m1 hx _;cases hr:Wy rec o.target (QM 10 0 []) 1 c with
   |error e=>
    rw[hr]at hx;obtain⟨he,y,c',rfl,rfl⟩:=hx;dsimp only;simp only[Q2 he,Qe y,QO,eE,seval];exact⟨he,v,c',by rw[Qe v],rfl⟩
   |ok p=>
    obtain⟨y,d⟩:=p;rw[hr]at hx;obtain⟨rfl,rfl⟩:=hx;have h2:=hset y;dsimp only;generalize X6 g v o y=w at h2 ⊢;rw[Qe y,Qe w]at h2;simp only[Qe y,eE,seval];refine aC h2 ?_;simp only[QO,eE,seval];exact⟨by rw[Qe w],rfl⟩

  case true=>
   have hkk:(if (true:Bool)=true then z else QM 10 0 [])=z:=rfl;rw[hkk];simp only[b4',KV,eE,seval];refine Kw (hin _ (z) 1 (by decide) (fun _=>hom h4 hf) (hol) (by omega)) (by rw[Qe (z)];first|rfl|simp only[Qm3,Qnx,Bj,nn0,eE,seval]) ?_;intro x m1 hx _;cases hr:Wy rec o.target (z) 1 c with
   |error e=>
    rw[hr]at hx;obtain⟨he,y,c',rfl,rfl⟩:=hx;dsimp only;simp only[Q2 he,Qe y,QO,eE,seval];exact⟨he,v,c',by rw[Qe v],rfl⟩
   |ok p=>
    obtain⟨y,d⟩:=p;rw[hr]at hx;obtain⟨rfl,rfl⟩:=hx;have h2:=hset y;dsimp only;generalize X6 g v o y=w at h2 ⊢;rw[Qe y,Qe w]at h2;simp only[Qe y,eE,seval];refine aC h2 ?_;simp only[QO,eE,seval];exact⟨by rw[Qe w],rfl⟩

end

def KW (c:C):List AV:=[.str c.d,.int .i64 c.a,.int .i64 c.e,.int .i64 c.dp,.int .i64 c.nd,.int .i64 c.tx]

section
variable {M K n:Nat}(hM:65536≤M)(hK:K≤1000000)(P:PL)(hP:P.ok M)(l s:Nat)(m:Qh)(hm:l<m.length)(g:PG)(hg:g.ops.length≤maxLen)(o:PO)(ho:OpK P g o)(h5:o.card≠5)

structure PkF (g:PG)(o:PO)(d:C)(l s:Nat)(f:Fr)(fr:Nat→Ob)(v:V):Prop where
 f0:f 0=.ptr (l+1) s 0
 f5:f 5=.ptr 0 5 0
 f6:f 6=.ptr 0 6 0
 f7:f 7=.ptr 0 7 0
 f8:f 8=.ptr 0 8 0
 f12:f 12=.ptr 0 12 0
 m5:fr 5=.cells g.cells
 m6:fr 6=.cells (vc v)
 m7:fr 7=.cells o.cells
 m8:fr 8=.cells Jk
 m12:fr 12=.cells (KW d)

include hM hK hP hm hg ho h5 in
theorem Pj (d:C)(R0:Rd V)(k:Nat)(v:V)(c:C)(f:Fr)(fr:Nat→Ob)(hf:PkF g o d l s f fr v)(hc:CI c)(hk:c.left≤k)(hR:J8 P g o k v c=R0)(hvm:MW P (n+1) g v)(hvo:v.ok M)(hb:(v.cnt:Int)+3*c.left≤K)(Q:Exit→St→Prop)
  (hx:∀f fr v c,PkF g o d l s f fr v→R0=.ok (v,c)→Q (.exit 0) ⟨f,fr :: Am.put m l s (Q7 P c),[]⟩)
  (he:∀f fr v (e:Nat) c,f 8=.ptr 0 8 0→fr 8=.cells (vc v)→f 9=.int .i64 (e:Nat)→R0=.error e→e≠0→Q .ret ⟨f,fr :: Am.put m l s (Q7 P c),[]⟩) :
  QR Tryz.prog (.loop SR) ⟨f,fr :: Am.put m l s (Q7 P c),[]⟩ Q:=by
 have lp:∀o,Am.Qc (Am.put m l s o) l s=o:=fun o=>Qo hm
 have pp:∀o q,Am.put (Am.put m l s o) l s q=Am.put m l s q:=fun o q=>put_put
 have hpl:∀o,l+1<(Am.put m l s o).length+1:=fun o=>by rw[QO];omega
 let I:Nat→St→Prop:=fun k st=>∃f fr v c,st=⟨f,fr :: Am.put m l s (Q7 P c),[]⟩∧PkF g o d l s f fr v∧CI c∧c.left≤k∧J8 P g o k v c=R0∧MW P (n+1) g v∧v.ok M∧(v.cnt:Int)+3*c.left≤K
 refine Qk I k ⟨f,fr,v,c,rfl,hf,hc,hk,hR,hvm,hvo,hb⟩ ?_;clear hf hc hk hR hvm hvo hb;rintro k st ⟨f,fr,v,c,rfl,hf,hc,hk,hR,hvm,hvo,hb⟩;have hcb:=hc.bd;obtain⟨h0,h5',h6,h7,h8,h12,m5',m6',m7',m8',m12'⟩:=hf;have m5:=m5';have m6:=m6';have m7:=m7';have m8:=m8';simp only[PG.cells]at m5;simp only[vc]at m6;simp only[PO.cells]at m7;simp only[Jk]at m8;simp only[Q7,lp,h0,Z5,eE,seval];refine aC (NA c hc.big') ?_;by_cases hlt:0<c.left
 case neg=>
  have d1:decide (c.left > 0)=false:=Qoo hlt;have hR':R0=.ok (v,c):=by
   rw[←hR];cases k with
   |zero=>rfl
   |succ k=>rw[J8,QmC hlt]
  simp only[d1,Qa,seval];exact hx _ _ v c ⟨(by exact h0),(by exact h5'),(by exact h6),(by exact h7),(by exact h8),(by exact h12),m5',m6',m7',m8',m12'⟩ hR'
 have d1:decide (c.left > 0)=true:=Qou hlt;obtain⟨k,rfl⟩:∃j,k=j+1:=⟨k-1,by omega⟩;rw[J8,QmD hlt]at hR;have hon:=QeD P hP c (l+1) s (fr :: Am.put m l s (Q7 P c)) (by exact hpl _) (by exact lp _) hc g hg v (by omega) o;rw[Qe v]at hon;simp only[Qm,Qz,PG.cells,PO.cells,Q7]at hon;simp only[d1,h0,h5',h6,h7,m5,m6,m7,eE,seval];refine QJ hon (by simp only[Qm3,Qnx,Qa,seval]<;>rfl) ?_;intro x m1 hx1 _;cases hr:Wn P g v o c with
 |error e=>
  rw[hr]at hx1 hR;obtain⟨he',w,c',rfl,rfl⟩:=hx1;simp only[Qe w,Q2 he',h6,h8,m6,m8,pp,eE,seval];exact he _ _ w e c' (by exact h8) (by rfl) (by rfl) hR.symm he'
 |ok p=>
  obtain⟨w,d1⟩:=p;rw[hr]at hx1 hR;obtain⟨rfl,rfl⟩:=hx1;obtain⟨r1,r2,r3,r4⟩:=B0 hM hK ho hc hvm hvo hb h5 hr;have hl:=r1.lt hc;dsimp only at hR;simp only[Qe w,h6,m6,pp,eE,seval];exact⟨k,by omega,_,_,w,d1,rfl,⟨(by exact h0),(by exact h5'),(by exact h6),(by exact h7),(by exact h8),(by exact h12),(by exact m5'),(by rfl),(by exact m7'),(by exact m8'),(by exact m12')⟩,r1.ci hc,by omega,hR,r2,r3,by omega⟩

variable (c:C)(hs:Am.Qc m l s=Q7 P c)(hc:CI c)(v:V)(hvm:MW P (n+1) g v)(hvo:v.ok M)(hb:(v.cnt:Int)+3*c.left≤K)

include hM hK hP hm hg ho h5 hs hc hvm hvo hb in
theorem Qkw (h4:o.card=4) :
  Qd Tryz.prog 179 [.ptr l s 0,Qm g,v.av,Qz o] m (Rt P l s m V.av (WT P g v o c)):=by
 have hs0:=hs;have lp:∀o,Am.Qc (Am.put m l s o) l s=o:=fun o=>Qo hm
 have pp:∀o q,Am.put (Am.put m l s o) l s q=Am.put m l s q:=fun o q=>put_put
 have hpl:∀o,l+1<(Am.put m l s o).length+1:=fun o=>by rw[QO];omega
 have ls:=Zk v;have hcb:=hc.bd;have hwo:=CV o;have hfd:=T6 v o.num (by omega);have hset:=RZ g v o (Xw []) hg (by omega);have hok:=J9 (g:=g) (x:=Xw []) hvo ho.wf (UN (fun y hy=>(nomatch hy)) (QmE _)) (by omega);have hmw:=Ka (x:=Xw []) hvm ho.self (by unfold FW;rw[QmD h4];exact fun y hy=>(nomatch hy));have hct:=KN g v o (Xw []);rw[WL]at hct;simp only[Q9]at hct;unfold WT;rw[show(Xw []).av=.agg [.int .i64 11,.int .u64 0,.str [],.list [],.list [],.list [],.list []]from Qe _]at hset;generalize X6 g v o (Xw [])=w at hset hok hmw hct ⊢;rw[Qe v,Qe w]at hset;generalize QT v o.num=z at hfd;rw[Qe v,Qe z]at hfd;simp only[Qm,Qz,PG.cells,PO.cells]at hset hwo;rw[Qe v];refine Qc9.go (by simp) ?_;simp only[Qm,Qz,PG.cells,PO.cells,eE,seval];refine QJ (R1 P c (l+1) s _ (by simp only[QmK];omega) hs0 hc) (by simp only[Qm3,Qnx,Qa,seval]) ?_;intro x m1 hx _;cases hr:Jt c with
 |error e=>
  rw[hr]at hx;obtain⟨he,a,c',rfl,rfl⟩:=hx;dsimp only;simp only[Q2 he,QO,eE,seval];exact⟨he,v,c',by rw[Qe v],rfl⟩
 |ok p=>
 obtain⟨q,d⟩:=p;obtain⟨a1,a2⟩:=Wo hc hr;have hd:=a1.ci hc;have hl1:=a1.lt hc;have hdb:=hd.bd;rw[hr]at hx;obtain⟨rfl,rfl⟩:=hx;obtain⟨_,p2,p3⟩:=JD hd a2;dsimp only;simp only[eE,seval];refine QJ (QeA P d (l+1) s _ (by exact lp _) q) (by simp only[Qm3,Qnx,Qa,seval]) ?_;rintro x m1 ⟨rfl,rfl⟩ _;have hby:=Qj3 (part d q) p2.big';have hya:=BW p2;generalize part d q=i at hby hya p2 p3 ⊢;generalize Zf i=r at hby hya ⊢;obtain⟨b,j,e⟩:=r;dsimp only at hya;simp only[RG,C.av]at hby;simp only[C.av,Q7,lp,pp,Z5,ZQ,eE,seval];refine aC hby ?_;by_cases he:e=0
 case neg=>
  rw[QmC he];simp only[Q2 he,ZQ,QO,eE,seval];exact⟨he,v,i,by rw[Qe v],rfl⟩
 subst he;obtain⟨y1,y2,y3⟩:=hya rfl;have hj:=y1.ci p2;have hlj:=y1.lt p2;have hjb:=hj.bd;have w1:IntKind.i64.wrap b=b:=by rw[QC];omega
 rw[QmD rfl];simp only[w1,lp,pp,Z5,ZQ,eE,seval];refine aC hwo ?_;by_cases hw:b=wk o.kind
 case neg=>
  have b1:(b != wk o.kind)=true:=by simp[hw]
  rw[QmC hw];simp only[b1,QO,eE,seval];exact⟨by decide,v,j,by rw[Qe v];rfl,rfl⟩
 have b1:(b != wk o.kind)=false:=by simp[hw]
 rw[QmD hw];simp only[b1,KV,eE,seval];refine aC hfd ?_
 -- ZO the loop
 cases hf:(XG v o.num).isSome
 case false=>
  simp only[QmO,eE,seval];refine QJ (CW P j (l+1) s _ (by exact lp _) 1) (by simp only[Qm3,Qnx,Qa,seval]) ?_;rintro x m1 ⟨rfl,rfl⟩ _;rcases J2 j 1 with⟨j2,h2,h2'⟩|⟨e,he,h2,h2'⟩
  case inr=>
   rw[h2,h2'];dsimp only;simp only[Q2 he,pp,QO,eE,seval];exact⟨he,v,_,by rw[Qe v],rfl⟩
  rw[h2,h2'];obtain⟨s1,_⟩:=ZE hj (by omega) h2;have hj2:=s1.ci hj;have hls:=(s1.left hj).2.2;have hj2b:=hj2.bd;dsimp only;simp only[pp,eE,seval];refine aC hset ?_;simp only[eE,seval];unfold JA;refine Pj (n:=n) hM hK P hP l s m hm g hg o ho h5 d _ j2.left.toNat w j2 _ _ ⟨(by rfl),(by rfl),(by rfl),(by rfl),(by rfl),(by rfl),(by rfl),(by rfl),(by rfl),(by rfl),(by rfl)⟩ hj2 (by omega) rfl hmw hok (by omega) _ (fun f fr v' c' hf' hR'=>?_) (fun f fr v' e c' h8 m8 h9 hR' he=>?_)
  ·obtain⟨h0,h5',h6,h7,h8,h12,m5,m6,m7,m8,m12⟩:=hf';rw[hR'];dsimp only;simp only[vc]at m6;simp only[Jk]at m8;simp only[KW]at m12;simp only[h0,h12,m12,Z5,eE,seval];refine QJ (R2 P c' (l+1) s _ (by exact lp _) d) (by simp only[Qm3,Qnx,C.av,Qa,seval]) ?_;rintro x m1 ⟨rfl,rfl⟩ _;simp only[h6,h8,m6,m8,pp,QO,eE,seval];exact⟨by rw[Qe v'],rfl⟩
  ·rw[hR'];dsimp only;simp only[vc]at m8;simp only[h8,m8,h9,QO,eE,seval];exact⟨he,v',c',by rw[Qe v'],rfl⟩
 case true=>
  simp only[eE,seval];unfold JA;refine Pj (n:=n) hM hK P hP l s m hm g hg o ho h5 d _ j.left.toNat v j _ _ ⟨(by rfl),(by rfl),(by rfl),(by rfl),(by rfl),(by rfl),(by rfl),(by rfl),(by rfl),(by rfl),(by rfl)⟩ hj (by omega) rfl hvm hvo (by omega) _ (fun f fr v' c' hf' hR'=>?_) (fun f fr v' e c' h8 m8 h9 hR' he=>?_)
  ·obtain⟨h0,h5',h6,h7,h8,h12,m5,m6,m7,m8,m12⟩:=hf';rw[hR'];dsimp only;simp only[vc]at m6;simp only[Jk]at m8;simp only[KW]at m12;simp only[h0,h12,m12,Z5,eE,seval];refine QJ (R2 P c' (l+1) s _ (by exact lp _) d) (by simp only[Qm3,Qnx,C.av,Qa,seval]) ?_;rintro x m1 ⟨rfl,rfl⟩ _;simp only[h6,h8,m6,m8,pp,QO,eE,seval];exact⟨by rw[Qe v'],rfl⟩
  ·rw[hR'];dsimp only;simp only[vc]at m8;simp only[h8,m8,h9,QO,eE,seval];exact⟨he,v',c',by rw[Qe v'],rfl⟩

end

def Kz (P:PL)(g:PG)(o:PO):Nat→V→C→V×C×Nat
 |0,v,c=>(v,c,0)
 |k+1,v,c=>if 0<c.left then(if (YS P g v o c).2.2=0 then Kz P g o k (YS P g v o c).1 (YS P g v o c).2.1 else YS P g v o c)else(v,c,0)
theorem Dn (P:PL)(g:PG)(o:PO):∀(k:Nat) (v:V) (c:C),J8 P g o k v c=if (Kz P g o k v c).2.2=0 then .ok ((Kz P g o k v c).1,(Kz P g o k v c).2.1)else .error (Kz P g o k v c).2.2
 |0,v,c=>rfl
 |k+1,v,c=>by
  rw[J8,Kz,NG];by_cases h:0<c.left
  ·rw[QmD h,QmD h];by_cases h1:(YS P g v o c).2.2=0
   ·rw[QmD h1,QmD h1];exact Dn P g o k _ _
   ·rw[QmC h1,QmC h1,QmC h1]
  ·rw[QmC h,QmC h];rfl
def YT (P:PL)(g:PG)(v:V)(o:PO)(c d i:C):V×C×Nat :=
 if (Kz P g o i.left.toNat v i).2.2=0 then((Kz P g o i.left.toNat v i).1,ZO d (Kz P g o i.left.toNat v i).2.1,0)
 else((Kz P g o i.left.toNat v i).1,c,(Kz P g o i.left.toNat v i).2.2)
theorem HB (P:PL)(g:PG)(v:V)(o:PO)(c d i:C):JA P g v o d i=if (YT P g v o c d i).2.2=0 then .ok ((YT P g v o c d i).1,(YT P g v o c d i).2.1)else .error (YT P g v o c d i).2.2:=by
 unfold JA YT;rw[Dn];generalize Kz P g o i.left.toNat v i=r;by_cases h:r.2.2=0
 ·simp only[QmD h,if_true]
 ·simp only[QmC h]
def GW (P:PL)(g:PG)(v:V)(o:PO)(c:C):V×C×Nat :=
 match Jt c with
 |.error e=>(v,c,e)
 |.ok (n,d)=>
  if (Zf (part d n)).2.2=0 then
   if (Zf (part d n)).1=wk o.kind then
    if (XG v o.num).isSome=true then YT P g v o c d (Zf (part d n)).2.1
    else if ((Zf (part d n)).2.1.spend 1).2=0 then YT P g (X6 g v o (Xw [])) o c d ((Zf (part d n)).2.1.spend 1).1
    else(v,c,((Zf (part d n)).2.1.spend 1).2)
   else(v,c,13)
  else(v,c,(Zf (part d n)).2.2)
theorem Mp (P:PL)(g:PG)(v:V)(o:PO)(c:C):WT P g v o c=if (GW P g v o c).2.2=0 then .ok ((GW P g v o c).1,(GW P g v o c).2.1)else .error (GW P g v o c).2.2:=by
 unfold WT GW;cases hr:Jt c with
 |error e=>
  have he:=N0 hr;simp only[QmC he]
 |ok p=>
  obtain⟨n,d⟩:=p;dsimp only;by_cases h1:(Zf (part d n)).2.2=0
  case neg=>simp only[QmC h1]
  simp only[QmD h1];by_cases h2:(Zf (part d n)).1=wk o.kind
  case neg=>simp only[QmC h2];rfl
  simp only[QmD h2];by_cases h3:(XG v o.num).isSome=true
  ·simp only[QmD h3];exact HB P g v o c d _
  simp only[QmC h3];unfold Jz;by_cases h4:((Zf (part d n)).2.1.spend 1).2=0
  ·simp only[QmD h4];exact HB P g _ o c d _
  ·simp only[QmC h4]

def zc6:List AV:=[.str [],.int .i64 0,.int .i64 0,.int .i64 0,.int .i64 0,.int .i64 0]
def Xl (P:PL):List AV:=[.list (P.progs.map Qm),.list (P.enums.map QE)]

section
variable {M K n:Nat}(hM:65536≤M)(hK:K≤1000000)(P:PL)(hP:P.ok M)(g:PG)(hg:g.ops.length≤maxLen)(o:PO)(ho:OpK P g o)(h5:o.card≠5)(hun : -1≤o.union)

structure PxF (P:PL)(g:PG)(o:PO)(c0 d:C)(f:Fr)(fr:Nat→Ob)(v:V)(c:C):Prop where
 f5:f 5=.ptr 0 5 0
 f6:f 6=.ptr 0 6 0
 f7:f 7=.ptr 0 7 0
 f8:f 8=.ptr 0 8 0
 f9:f 9=.ptr 0 9 0
 f10:f 10=.ptr 0 10 0
 f11:f 11=.ptr 0 11 0
 f14:f 14=.ptr 0 14 0
 f17:f 17=.ptr 0 17 0
 m5:fr 5=.cells (Xl P)
 m6:fr 6=.cells g.cells
 m7:fr 7=.cells (vc v)
 m8:fr 8=.cells o.cells
 m9:fr 9=.cells (KW c0)
 m10:fr 10=.cells Jk
 m11:fr 11=.cells zc6
 m14:fr 14=.cells (KW d)
 m17:fr 17=.cells (KW c)

end

section
variable {M K n:Nat}{rec:Int→V→C→Rd V}(P:PL)(hP:P.ok M)(o:PO)(x:V×V)(w:Int){c:C}(hc:CI c)

end
end Go.Proofs.YtkhpgmeokilhaaaGreatDoor.Va

namespace Go.Proofs.YtkhpgmeokilhaaaGreatDoor.Va
open Go Am Rc Bt Br Up So

section
variable {P:PL}{k:Int}(ps:List (V×V))

end

open Vp Cp

def lz (b:Bool)(l:List AV):AV:=match b with
 |true=>.list l
 |false=>.nils
theorem W6 {b:Bool}{l:List AV}(h:b=false→l=[]):nn0 (lz b l)=.list l:=by
 cases b
 ·rw[h rfl];rfl
 ·rfl
def kc (b:Bool)(y:V):List AV:=[.int .i64 y.kd,.int .u64 (y.bits:Nat),.str y.text,lz b (y.list.map V.av),lz b (y.pairs.map V.pav),lz b (y.slots.map V.sav),lz b (y.raws.map R.av)]

section
variable {M K n:Nat}(P:PL)(hP:P.ok M)(l s:Nat)(m:Qh)(hm:l<m.length){rec:Int→V→C→Rd V}(hrec:DX P M K n rec)(hM:65536≤M)(hro:Ws P M K n rec)(g:PG)(o:PO)(ho:OpK P g o)(h5:o.card=5)

structure EnF (g:PG)(o:PO)(v z:V)(d:C)(l s:Nat)(f:Fr)(fr:Nat→Ob)(x:V×V)(a b:Bool):Prop where
 f0:f 0=.ptr (l+1) s 0
 f5:f 5=.ptr 0 5 0
 f6:f 6=.ptr 0 6 0
 f7:f 7=.ptr 0 7 0
 f8:f 8=.ptr 0 8 0
 f12:f 12=.ptr 0 12 0
 f14:f 14=.ptr 0 14 0
 f17:f 17=.ptr 0 17 0
 f18:f 18=.bool a
 f19:f 19=.bool b
 m5:fr 5=.cells g.cells
 m6:fr 6=.cells (vc v)
 m7:fr 7=.cells o.cells
 m8:fr 8=.cells Jk
 m12:fr 12=.cells (vc z)
 m14:fr 14=.cells (KW d)
 m17:fr 17=.cells (kc a x.1++kc b x.2)
 m22:(fr 22).isRow=false
 m145:Qn (fr 145)=true

include hP hm hrec hM hro ho h5 in
theorem Pk (v z:V)(d:C)(R0:Rd (V×V))(k:Nat)(x:V×V)(a b:Bool)(c:C)(f:Fr)(fr:Nat→Ob)(hf:EnF g o v z d l s f fr x a b)(hc:CI c)(hk:c.left≤k)(hcn:c.left≤n)(hb1:(1:Int)+3*c.left≤K)(hR:JY P rec o k x a b c=R0)
  (hxa:a=false→x.1=QM o.key 0 []) (hxb:b=false→x.2=QM o.kind 0 []) (Q:Exit→St→Prop)
  (hx:∀f fr x a b c,EnF g o v z d l s f fr x a b→(a=false→x.1=QM o.key 0 [])→(b=false→x.2=QM o.kind 0 [])→R0=.ok (x,c)→Q (.exit 0) ⟨f,fr :: Am.put m l s (Q7 P c),[]⟩)
  (he:∀f fr (e:Nat) c,f 8=.ptr 0 8 0→fr 8=.cells (vc v)→f 9=.int .i64 (e:Nat)→R0=.error e→e≠0→Q .ret ⟨f,fr :: Am.put m l s (Q7 P c),[]⟩) :
  QR Tryz.prog (.loop SQ) ⟨f,fr :: Am.put m l s (Q7 P c),[]⟩ Q:=by
 have lp:∀o,Am.Qc (Am.put m l s o) l s=o:=fun o=>Qo hm
 have pp:∀o q,Am.put (Am.put m l s o) l s q=Am.put m l s q:=fun o q=>put_put
 have hpl:∀o,l+1<(Am.put m l s o).length+1:=fun o=>by rw[QO];omega
 have hky:=ho.uo.key h5;have hk10:o.key≠10:=by unfold Ze at hky;omega
 let I:Nat→St→Prop:=fun k st=>∃f fr x a b c,st=⟨f,fr :: Am.put m l s (Q7 P c),[]⟩∧EnF g o v z d l s f fr x a b∧CI c∧c.left≤k∧c.left≤n∧(1:Int)+3*c.left≤K∧JY P rec o k x a b c=R0∧(a=false→x.1=QM o.key 0 [])∧(b=false→x.2=QM o.kind 0 [])
 refine Qk I k ⟨f,fr,x,a,b,c,rfl,hf,hc,hk,hcn,hb1,hR,hxa,hxb⟩ ?_;clear hf hc hk hcn hb1 hR hxa hxb;rintro k st ⟨f0,fr0,x,a,b,c,rfl,hf,hc,hk,hcn,hb1,hR,hxa,hxb⟩;have hcb:=hc.bd;obtain⟨h00,h50,h60,h70,h80,h120,h140,h170,h180,h190,m50,m60,m70,m80,m120,m140,m170,m22,m1450⟩:=hf;refine QL (a:=_) [22] (by intro s hs;simp only[QoG]at hs;subst hs;exact m22) ?_;intro f fr hf hmm hn22;have h0:f 0=.ptr (l+1) s 0:=by rw[hf,h00]<;>rfl
 have h5':f 5=.ptr 0 5 0:=by rw[hf,h50]<;>rfl
 have h6:f 6=.ptr 0 6 0:=by rw[hf,h60]<;>rfl
 have h7:f 7=.ptr 0 7 0:=by rw[hf,h70]<;>rfl
 have h8:f 8=.ptr 0 8 0:=by rw[hf,h80]<;>rfl
 have h12:f 12=.ptr 0 12 0:=by rw[hf,h120]<;>rfl
 have h14:f 14=.ptr 0 14 0:=by rw[hf,h140]<;>rfl
 have h17:f 17=.ptr 0 17 0:=by rw[hf,h170]<;>rfl
 have h18:f 18=.bool a:=by rw[hf,h180]<;>rfl
 have h19:f 19=.bool b:=by rw[hf,h190]<;>rfl
 have m5':fr 5=.cells g.cells:=by rw[hmm 5 (by decide),m50]<;>rfl
 have m6':fr 6=.cells (vc v):=by rw[hmm 6 (by decide),m60]<;>rfl
 have m7':fr 7=.cells o.cells:=by rw[hmm 7 (by decide),m70]<;>rfl
 have m8':fr 8=.cells Jk:=by rw[hmm 8 (by decide),m80]<;>rfl
 have m12':fr 12=.cells (vc z):=by rw[hmm 12 (by decide),m120]<;>rfl
 have m14':fr 14=.cells (KW d):=by rw[hmm 14 (by decide),m140]<;>rfl
 have m17':fr 17=.cells (kc a x.1++kc b x.2):=by rw[hmm 17 (by decide),m170];cases a<;>cases b<;>rfl
 have n22:=hn22 22 (by decide);have m145':Qn (fr 145)=true:=by
  rw[hmm 145 (by decide)];cases h:fr0 145<;>rw[h]at m1450<;>first|rfl|cases m1450
 clear hf hmm hn22 h00 h50 h60 h70 h80 h120 h140 h170 h180 h190 m50 m60 m70 m80 m120 m140 m170 m22 m1450;have m6:=m6';have m7:=m7';have m8:=m8';have m17:=m17';simp only[vc]at m6;simp only[PO.cells]at m7;simp only[Jk]at m8;simp only[kc,QmR,QmS]at m17;simp only[Q7,lp,h0,Z5,eE,seval];refine aC (NA c hc.big') ?_;by_cases hlt:0<c.left
 case neg=>
  have d1:decide (c.left > 0)=false:=Qoo hlt;have hR':R0=.ok (x,c):=by
   rw[←hR];cases k with
   |zero=>rfl
   |succ k=>rw[JY,QmC hlt]
  simp only[d1,Qa,seval];exact hx _ _ x a b c ⟨(by exact h0),(by exact h5'),(by exact h6),(by exact h7),(by exact h8),(by exact h12),(by exact h14),(by exact h17),(by exact h18),(by exact h19),m5',m6',m7',m8',m12',m14',m17',(by rw[n22]<;>rfl),m145'⟩ hxa hxb hR'
 have d1:decide (c.left > 0)=true:=Qou hlt;obtain⟨k,rfl⟩:∃j,k=j+1:=⟨k-1,by omega⟩;rw[JY,QmD hlt]at hR;have htt:=c90 c hc.big;have hta:=UJ hc;generalize Qt c=tg at htt hta hR;obtain⟨num,w,c1,e⟩:=tg;dsimp only at hta hR;simp only[Nt,C.av]at htt;simp only[d1,lp,h0,Z5,eE,seval];refine aC htt ?_;by_cases he0:e=0
 case neg=>
  rw[QmC he0]at hR;simp only[n22,Q2 he0,h6,h8,m6,m8,ZQ,eE,seval];exact he _ _ e c (by exact h8) (by rfl) (by rfl) hR.symm he0
 subst he0;obtain⟨t1,t2,t3,t4,t5⟩:=hta rfl;have hc1:=t1.ci hc;have hl1:=t1.lt hc;have hc1b:=hc1.bd;rw[QmD rfl]at hR;have side:=fun(fr:Nat→Ob) (q:PO) (hq:q.kind=10→0≤q.target∧q.target<(P.progs.length:Int))=>Qku P hP c1 (l+1) s (fr :: Am.put m l s (Q7 P c1)) (by exact hpl _) (by exact lp _) hc1 hrec (by omega) (by omega) q w hq
 by_cases h1:num=1
 ·have b1:(num==1)=true:=by simp[h1]
  have b1':(num != 1)=false:=by simp[h1]
  have b2:(num==2)=false:=by simp[h1]
  rw[QmD h1]at hR;cases a with
  |true=>
   rw[QmD rfl]at hR;simp only[n22,b1,b1',h6,h8,h18,m6,m8,ZQ,eE,seval];exact he _ _ 9 c (by exact h8) (by rfl) (by rfl) hR.symm (by decide)
  |false=>
   rw[QmC (by simp)]at hR;have hsd:=fun fr=>side fr ⟨0,[],[],0,0,o.key,-1,0⟩ (fun h=>absurd h hk10)
   simp only[Q7,QeG]at hsd;simp only[n22,b1,b1',b2,h0,h7,h18,m7,lp,pp,Z5,KV,ZQ,eE,seval];refine QJ (hsd _) (by rfl) ?_;intro y m1 hy _;cases hr:JL P rec o.key (-1) w c1 with
   |error e=>
    rw[hr]at hy hR;obtain⟨he',u,c',rfl,rfl⟩:=hy;simp only[Qe u,Q2 he',h6,h8,h17,m6,m8,m17,pp,eE,seval];exact he _ _ e c' (by exact h8) (by rfl) (by rfl) hR.symm he'
   |ok p=>
    obtain⟨u,c2⟩:=p;rw[hr]at hy hR;obtain⟨rfl,rfl⟩:=hy;have hab:As c1 c2:=(Ho hM hro (fun h=>absurd h hk10) hc1 (by omega) (by omega) hr).1;have hl2:=hab.lt hc1;dsimp only at hR;simp only[Qe u,h17,m17,pp,eE,seval];exact⟨k,by omega,_,_,(u,x.2),true,b,c2,rfl,⟨(by exact h0),(by exact h5'),(by exact h6),(by exact h7),(by exact h8),(by exact h12),(by exact h14),(by exact h17),(by rfl),(by exact h19),(by exact m5'),(by exact m6'),(by exact m7'),(by exact m8'),(by exact m12'),(by exact m14'),(by rfl),(by rfl),(by exact m145')⟩,hab.ci hc1,by omega,by omega,by omega,hR,(fun h=>by cases h),hxb⟩
 ·have b1:(num==1)=false:=by simp[h1]
  have b1':(num != 1)=true:=by simp[h1]
  rw[QmC h1]at hR;by_cases h2:num=2
  ·have b2:(num==2)=true:=by simp[h2]
   have b2':(num != 2)=false:=by simp[h2]
   rw[QmD h2]at hR;cases b with
   |true=>
    rw[QmD rfl]at hR;simp only[n22,b1,b1',b2,b2',h6,h8,h19,m6,m8,ZQ,eE,seval];exact he _ _ 9 c (by exact h8) (by rfl) (by rfl) hR.symm (by decide)
   |false=>
    rw[QmC (by simp)]at hR;have hsd:=fun fr=>side fr o ho.uo.tgt
    simp only[Q7,Qz,PO.cells]at hsd;simp only[n22,b1,b1',b2,b2',h0,h7,h19,m7,lp,pp,Z5,ZQ,eE,seval];refine QJ (hsd _) (by rfl) ?_;intro y m1 hy _;cases hr:JL P rec o.kind o.target w c1 with
    |error e=>
     rw[hr]at hy hR;obtain⟨he',u,c',rfl,rfl⟩:=hy;simp only[Qe u,Q2 he',h6,h8,h17,m6,m8,m17,pp,eE,seval];exact he _ _ e c' (by exact h8) (by rfl) (by rfl) hR.symm he'
    |ok p=>
     obtain⟨u,c2⟩:=p;rw[hr]at hy hR;obtain⟨rfl,rfl⟩:=hy;have hab:As c1 c2:=(Ho hM hro ho.uo.tgt hc1 (by omega) (by omega) hr).1;have hl2:=hab.lt hc1;dsimp only at hR;simp only[Qe u,h17,m17,pp,eE,seval];exact⟨k,by omega,_,_,(x.1,u),a,true,c2,rfl,⟨(by exact h0),(by exact h5'),(by exact h6),(by exact h7),(by exact h8),(by exact h12),(by exact h14),(by exact h17),(by exact h18),(by rfl),(by exact m5'),(by exact m6'),(by exact m7'),(by exact m8'),(by exact m12'),(by exact m14'),(by rfl),(by rfl),(by exact m145')⟩,hab.ci hc1,by omega,by omega,by omega,hR,hxa,(fun h=>by cases h)⟩
  ·have b2:(num==2)=false:=by simp[h2]
   have b2':(num != 2)=true:=by simp[h2]
   rw[QmC h2]at hR;simp only[n22,b1',b2',h6,h8,m6,m8,ZQ,eE,seval];exact he _ _ 18 c (by exact h8) (by rfl) (by rfl) hR.symm (by decide)

end

section
variable {P:PL}{rec:Int→V→C→Rd V}(hre:Hq rec)
include hre
theorem Pl {k t w:Int}{c:C}{e:Nat}(h:JL P rec k t w c=.error e):e≠0:=by
 unfold JL at h;split at h
 ·split at h
  ·exact R4 hre h
  ·split at h
   ·rename_i h1;cases h;exact Qgt h1
   ·split at h
    ·cases h
    ·rename_i h1;cases h;exact h1
 ·cases h;decide
theorem C0 {o:PO}{e:Nat}:∀ {n:Nat} {x:V×V} {a b:Bool} {c:C},JY P rec o n x a b c=.error e→e≠0
 |0,_,_,_,_,h=>by cases h
 |n+1,x,a,b,c,h=>by
  rw[JY]at h;split at h
  ·split at h
   ·split at h
    ·split at h
     ·cases h;decide
     ·split at h
      ·rename_i h1;cases h;exact Pl hre h1
      ·exact C0 h
    ·split at h
     ·split at h
      ·cases h;decide
      ·split at h
       ·rename_i h1;cases h;exact Pl hre h1
       ·exact C0 h
     ·cases h;decide
   ·rename_i h1;cases h;exact h1
  ·cases h
theorem EN {g:PG}{v:V}{o:PO}{c:C}{e:Nat}(h:JZ P rec g v o c=.error e):e≠0:=by
 unfold JZ at h;split at h
 ·rename_i h1;cases h;exact N0 h1
 ·split at h
  ·rename_i h1;cases h;exact R3 h1
  ·split at h
   ·rename_i h1;cases h;exact C0 hre h1
   ·cases h
end

section
variable {M K n:Nat}(hM:65536≤M)(P:PL)(hP:P.ok M){rec:Int→V→C→Rd V}(hre:Hq rec)(hro:Ws P M K n rec)(g:PG)(o:PO)(ho:OpK P g o)(h5:o.card=5)

structure EyF (P:PL)(g:PG)(o:PO)(v z:V)(c0 d:C)(f:Fr)(fr:Nat→Ob)(x:V×V)(a b:Bool)(c:C):Prop where
 f5:f 5=.ptr 0 5 0
 f6:f 6=.ptr 0 6 0
 f7:f 7=.ptr 0 7 0
 f8:f 8=.ptr 0 8 0
 f9:f 9=.ptr 0 9 0
 f10:f 10=.ptr 0 10 0
 f11:f 11=.ptr 0 11 0
 f14:f 14=.ptr 0 14 0
 f16:f 16=.ptr 0 16 0
 f19:f 19=.ptr 0 19 0
 f20:f 20=.ptr 0 20 0
 f21:f 21=.vec 0 65 1 0 3 false
 m5:fr 5=.cells (Xl P)
 m6:fr 6=.cells g.cells
 m7:fr 7=.cells (vc v)
 m8:fr 8=.cells o.cells
 m9:fr 9=.cells (KW c0)
 m10:fr 10=.cells Jk
 m11:fr 11=.cells zc6
 m14:fr 14=.cells (KW d)
 m16:fr 16=.cells (vc z)
 m19:fr 19=.cells (KW c)
 m20:fr 20=.cells (kc (a||b) x.1++vc x.2)
 m65:fr 65=.vec 1 1 [.bool false,.bool a,.bool b]
 m24:(fr 24).isRow=false
 m117:Qn (fr 117)=true

end

section
variable {M K n:Nat}(hM:65536≤M)(hK:K≤1000000)(P:PL)(hP:P.ok M){rec:Int→V→C→Rd V}(hre:Hq rec)(hro:Ws P M K n rec)(g:PG)(hg:g.ops.length≤maxLen)(o:PO)(ho:OpK P g o)(h5:o.card=5)(hun : -1≤o.union){c:C}(hc:CI c)(hcn:c.left≤n)(v:V)(hvm:MW P (n+1) g v)(hvo:v.ok M)(hb:(v.cnt:Int)+3*c.left+3≤K)(hkd:(Lit.int .i64 o.kind).wf=true)

end

section
variable {M K n:Nat}(hM:65536≤M)(hK:K≤1000000)(P:PL)(hP:P.ok M)(l s:Nat)(m:Qh)(hm:l<m.length){rec:Int→V→C→Rd V}(hrec:DX P M K n rec)(hro:Ws P M K n rec)(g:PG)(hg:g.ops.length≤maxLen)(o:PO)(ho:OpK P g o)(h5:o.card=5)
 (c:C) (hs:Am.Qc m l s=Q7 P c) (hc:CI c) (hcn:c.left≤n) (v:V) (hvm:MW P (n+1) g v) (hvo:v.ok M) (hb:(v.cnt:Int)+3*c.left+3≤K) (hkd:(Lit.int .i64 o.kind).wf=true)

include hM hK hP hm hrec hro hg ho h5 hs hc hcn hvm hvo hb hkd in
theorem Qkx :
  Qd Tryz.prog 178 [.ptr l s 0,Qm g,v.av,Qz o] m (Rt P l s m V.av (JZ P rec g v o c)):=by
 have hs0:=hs;have lp:∀o,Am.Qc (Am.put m l s o) l s=o:=fun o=>Qo hm
 have pp:∀o q,Am.put (Am.put m l s o) l s q=Am.put m l s q:=fun o q=>put_put
 have hpl:∀o,l+1<(Am.put m l s o).length+1:=fun o=>by rw[QO];omega
 have ls:=Zk v;have hcv:=Zp v;have hcb:=hc.bd;have hky:=ho.uo.key h5;have hfd:=T6 v o.num (by omega);have hset:=fun x=>RZ g v o x hg (by omega)
 have hol:=Gq (n:=o.num) hvo;have hoc:=GV v o.num;have hpo:((∀p∈(QT v o.num).pairs,p.1.kx P o.key))∧(QT v o.num).pairs.Pairwise fun q p=>Xz q.1 p.1=false:=by
  cases hf:XG v o.num with
  |none=>
   rw[ZP (by rw[hf];simp)];exact⟨fun p hp=>(nomatch hp),.nil⟩
  |some z=>
   have h4:=Gr hvm ho.self hf;unfold FW at h4;rw[QmC (by omega),QmD h5]at h4;rw[(Xv hf).2];exact⟨fun p hp=>(h4.1 p hp).1,h4.2⟩
 have hx0:XI P M n o (QM o.key 0 [],QM o.kind 0 []):=by
  refine⟨Zu ?_ (by decide) (QmE _),Zu hkd (by decide) (QmE _),CU hky,fun hn e=>ZB hn⟩;unfold Ze at hky;exact KL (by omega) (by omega)
 have lpz:=J1 (QT v o.num);unfold JZ;generalize QT v o.num=z at hfd hol hoc hpo lpz ⊢;rw[Qe v,Qe z]at hfd;rw[Qe v]at hset;simp only[Qm,Qz,PG.cells,PO.cells]at hset;rw[Qe v];refine QcW.go (by simp) ?_;simp only[Qm,Qz,PG.cells,PO.cells,eE,seval];refine QJ (R1 P c (l+1) s _ (by simp only[QmK];omega) hs0 hc) (by simp only[Qm3,Qnx,Qa,seval]) ?_;intro x m1 hx _;cases hr:Jt c with
 |error e=>
  rw[hr]at hx;obtain⟨he,y,c',rfl,rfl⟩:=hx;dsimp only;simp only[Q2 he,QO,eE,seval];exact⟨he,v,c',by rw[Qe v],rfl⟩
 |ok p=>
 obtain⟨q,d⟩:=p;obtain⟨a1,a2⟩:=Wo hc hr;have hd:=a1.ci hc;have hl1:=a1.lt hc;have hdb:=hd.bd;rw[hr]at hx;obtain⟨rfl,rfl⟩:=hx;obtain⟨_,p2,p3⟩:=JD hd a2;dsimp only;simp only[Q7,KV,eE,seval];refine aC hfd ?_;simp only[eE,seval];refine QJ (QeA P d (l+1) s _ (by exact lp _) q) (by simp only[Qm3,Qnx,Qa,seval]) ?_;rintro x m1 ⟨rfl,rfl⟩ _;cases hf:(XG v o.num).isSome
 case false=>
  have hkk:(if (false:Bool)=true then(2:Int)else 3)=3:=rfl;rw[hkk];simp only[C.av,Q7,pp,ZQ,eE,seval];refine QJ (CW P (part d q) (l+1) s _ (by exact lp _) 3) (by simp only[Qm3,Qnx,Qa,seval]) ?_;rintro x m1 ⟨rfl,rfl⟩ _;rcases J2 (part d q) 3 with⟨i,h2,h2'⟩|⟨e,he,h2,h2'⟩
  case inr=>
   rw[h2,h2'];dsimp only;simp only[Q2 he,pp,QO,eE,seval];exact⟨he,v,_,by rw[Qe v],rfl⟩
  rw[h2,h2'];obtain⟨s1,_⟩:=ZE p2 (by omega) h2;have hci:=s1.ci p2;have hls:=(s1.left p2).2.2;have hib:=hci.bd;dsimp only;simp only[Q7,pp,KV,eE,seval];have hio:∀x j,JY P rec o i.left.toNat (QM o.key 0 [],QM o.kind 0 []) false false i=.ok (x,j)→XI P M n o x:=fun x j h3=>(UP hM ho hro h5 _ hci (by omega) (by omega) hx0 h3).2.1
  refine Pk (n:=n) P hP l s m hm hrec hM hro g o ho h5 v z d _ i.left.toNat (QM o.key 0 [],QM o.kind 0 []) false false i _ _ ⟨(by rfl),(by rfl),(by rfl),(by rfl),(by rfl),(by rfl),(by rfl),(by rfl),(by rfl),(by rfl),(by rfl),(by rfl),(by rfl),(by rfl),(by rfl),(by rfl),(by rfl),(by rfl),(by rfl)⟩ hci (by omega) (by omega) (by omega) rfl (fun _=>rfl) (fun _=>rfl) _ (fun f fr x a b c' hf' hxa hxb hR'=>?_) (fun f fr e c' h8 m8 h9 hR' he=>?_)
  ·obtain⟨h0,h5',h6,h7,h8,h12,h14,h17,h18,h19,m5,m6,m7,m8,m12,m14,m17,m22,m145⟩:=hf';have hxi:=hio _ _ hR';rw[hR'];dsimp only;simp only[PG.cells]at m5;simp only[vc]at m6 m12;simp only[PO.cells]at m7;simp only[Jk]at m8;simp only[KW]at m14;simp only[kc,QmR,QmS]at m17;simp only[Q7,h0,h14,m14,Z5,eE,seval];refine QJ (R2 P c' (l+1) s _ (by exact lp _) d) (by simp only[Qm3,Qnx,C.av,Qa,seval]) ?_;rintro x1 m1 ⟨rfl,rfl⟩ _;simp only[h12,h17,m12,m17,pp,Qnq,eE,seval];have hlz:=fun(b:Bool) (k:Int) (y:V) (h:b=false→y=QM k 0 [])=>Qob (W6 (b:=b) (l:=y.list.map V.av) (fun e=>by rw[h e];rfl)) (Qob (W6 (b:=b) (l:=y.pairs.map V.pav) (fun e=>by rw[h e];rfl)) (Qob (W6 (b:=b) (l:=y.slots.map V.sav) (fun e=>by rw[h e];rfl)) (W6 (b:=b) (l:=y.raws.map R.av) (fun e=>by rw[h e];rfl))))
   obtain⟨p1,p2,p3,p4⟩:=hlz a _ _ hxa;obtain⟨q1,q2,q3,q4⟩:=hlz b _ _ hxb;refine QS (y:=kc a x.1++kc b x.2) (l:=[V.pav x]) (by cases a<;>cases b<;>rfl) (by cases a<;>cases b<;>rfl) (by cases a<;>cases b<;>rfl) (by simp only[kc,QmR,QmS,Qm3,Qnx,p1,p2,p3,p4,q1,q2,q3,q4];rw[Z2 x];rfl) ?_;refine Y4 (xs:=z.pairs.map V.pav) (ys:=[V.pav x]) rfl rfl (by simp) (Wr z.pairs) (Wr [x]) (by simp[maxLen];omega) (by simp;omega) (by exact m145) ?_;have hub:∀y:V,y.ok M→y.bits<18446744073709551616:=fun y hy=>by
    have:=hy.bits;simp[Lit.wf,IntKind.min,IntKind.max,IntKind.bits,IntKind.signed]at this;omega
   have hkf:KF P o.key z.pairs:=fun p hp=>⟨hpo.1 p hp,hub _ (hol.keys p hp)⟩
   have hpr:=LG (P:=P) hky (z.pairs++[x]) (by simp;omega) (fun p hp=>by
    rcases QnP.1 hp with h|h
    ·exact(hkf p h).1
    ·rw[QoG]at h;subst h;exact hxi.one) (fun p hp=>by
    rcases QnP.1 hp with h|h
    ·exact(hkf p h).2
    ·rw[QoG]at h;subst h;exact hub _ hxi.ky)
   rw[Pi hkf ⟨hxi.one,hub _ hxi.ky⟩ hpo.2,Qoj]at hpr;have hk:List.take (z.pairs.length+1) (z.pairs.map V.pav++[V.pav x])=z.pairs.map V.pav++[V.pav x]:=Qm5 (by simp);have hst:=hset (Wm (ZH o.key z.pairs x));rw[show(Wm (ZH o.key z.pairs x)).av=.agg [.int .i64 12,.int .u64 0,.str [],.list [],.list ((ZH o.key z.pairs x).map V.pav),.list [],.list []]from Qe _]at hst;generalize X6 g v o (Wm (ZH o.key z.pairs x))=w at hst ⊢;rw[Qe w]at hst;simp only[Qnq,QmK,Qnr,Qa,seval];refine MH (site:=145) (g:=_) (sz:=14) (n:=z.pairs.length+1) (xs:=z.pairs.map V.pav++[V.pav x]) (by simp only[Qa,seval]<;>rfl) (by simp only[Qa,seval]) (by simp) ?_;rw[hk];simp only[h5',h6,h7,m5,m6,m7,eE,seval];refine aC hpr ?_;simp only[eE,seval];refine aC hst ?_;simp only[h8,m8,QO,eE,seval];exact⟨by rw[Qe w],rfl⟩
  ·rw[hR'];dsimp only;simp only[vc]at m8;simp only[h8,m8,h9,QO,eE,seval];exact⟨he,v,c',by rw[Qe v],rfl⟩

 case true=>
  have hkk:(if (true:Bool)=true then(2:Int)else 3)=2:=rfl;rw[hkk];simp only[C.av,Q7,pp,ZQ,eE,seval];refine QJ (CW P (part d q) (l+1) s _ (by exact lp _) 2) (by simp only[Qm3,Qnx,Qa,seval]) ?_;rintro x m1 ⟨rfl,rfl⟩ _;rcases J2 (part d q) 2 with⟨i,h2,h2'⟩|⟨e,he,h2,h2'⟩
  case inr=>
   rw[h2,h2'];dsimp only;simp only[Q2 he,pp,QO,eE,seval];exact⟨he,v,_,by rw[Qe v],rfl⟩
  rw[h2,h2'];obtain⟨s1,_⟩:=ZE p2 (by omega) h2;have hci:=s1.ci p2;have hls:=(s1.left p2).2.2;have hib:=hci.bd;dsimp only;simp only[Q7,pp,KV,eE,seval];have hio:∀x j,JY P rec o i.left.toNat (QM o.key 0 [],QM o.kind 0 []) false false i=.ok (x,j)→XI P M n o x:=fun x j h3=>(UP hM ho hro h5 _ hci (by omega) (by omega) hx0 h3).2.1
  refine Pk (n:=n) P hP l s m hm hrec hM hro g o ho h5 v z d _ i.left.toNat (QM o.key 0 [],QM o.kind 0 []) false false i _ _ ⟨(by rfl),(by rfl),(by rfl),(by rfl),(by rfl),(by rfl),(by rfl),(by rfl),(by rfl),(by rfl),(by rfl),(by rfl),(by rfl),(by rfl),(by rfl),(by rfl),(by rfl),(by rfl),(by rfl)⟩ hci (by omega) (by omega) (by omega) rfl (fun _=>rfl) (fun _=>rfl) _ (fun f fr x a b c' hf' hxa hxb hR'=>?_) (fun f fr e c' h8 m8 h9 hR' he=>?_)
  ·obtain⟨h0,h5',h6,h7,h8,h12,h14,h17,h18,h19,m5,m6,m7,m8,m12,m14,m17,m22,m145⟩:=hf';have hxi:=hio _ _ hR';rw[hR'];dsimp only;simp only[PG.cells]at m5;simp only[vc]at m6 m12;simp only[PO.cells]at m7;simp only[Jk]at m8;simp only[KW]at m14;simp only[kc,QmR,QmS]at m17;simp only[Q7,h0,h14,m14,Z5,eE,seval];refine QJ (R2 P c' (l+1) s _ (by exact lp _) d) (by simp only[Qm3,Qnx,C.av,Qa,seval]) ?_;rintro x1 m1 ⟨rfl,rfl⟩ _;simp only[h12,h17,m12,m17,pp,Qnq,eE,seval];have hlz:=fun(b:Bool) (k:Int) (y:V) (h:b=false→y=QM k 0 [])=>Qob (W6 (b:=b) (l:=y.list.map V.av) (fun e=>by rw[h e];rfl)) (Qob (W6 (b:=b) (l:=y.pairs.map V.pav) (fun e=>by rw[h e];rfl)) (Qob (W6 (b:=b) (l:=y.slots.map V.sav) (fun e=>by rw[h e];rfl)) (W6 (b:=b) (l:=y.raws.map R.av) (fun e=>by rw[h e];rfl))))
   obtain⟨p1,p2,p3,p4⟩:=hlz a _ _ hxa;obtain⟨q1,q2,q3,q4⟩:=hlz b _ _ hxb;refine QS (y:=kc a x.1++kc b x.2) (l:=[V.pav x]) (by cases a<;>cases b<;>rfl) (by cases a<;>cases b<;>rfl) (by cases a<;>cases b<;>rfl) (by simp only[kc,QmR,QmS,Qm3,Qnx,p1,p2,p3,p4,q1,q2,q3,q4];rw[Z2 x];rfl) ?_;refine Y4 (xs:=z.pairs.map V.pav) (ys:=[V.pav x]) rfl rfl (by simp) (Wr z.pairs) (Wr [x]) (by simp[maxLen];omega) (by simp;omega) (by exact m145) ?_;have hub:∀y:V,y.ok M→y.bits<18446744073709551616:=fun y hy=>by
    have:=hy.bits;simp[Lit.wf,IntKind.min,IntKind.max,IntKind.bits,IntKind.signed]at this;omega
   have hkf:KF P o.key z.pairs:=fun p hp=>⟨hpo.1 p hp,hub _ (hol.keys p hp)⟩
   have hpr:=LG (P:=P) hky (z.pairs++[x]) (by simp;omega) (fun p hp=>by
    rcases QnP.1 hp with h|h
    ·exact(hkf p h).1
    ·rw[QoG]at h;subst h;exact hxi.one) (fun p hp=>by
    rcases QnP.1 hp with h|h
    ·exact(hkf p h).2
    ·rw[QoG]at h;subst h;exact hub _ hxi.ky)
   rw[Pi hkf ⟨hxi.one,hub _ hxi.ky⟩ hpo.2,Qoj]at hpr;have hk:List.take (z.pairs.length+1) (z.pairs.map V.pav++[V.pav x])=z.pairs.map V.pav++[V.pav x]:=Qm5 (by simp);have hst:=hset (Wm (ZH o.key z.pairs x));rw[show(Wm (ZH o.key z.pairs x)).av=.agg [.int .i64 12,.int .u64 0,.str [],.list [],.list ((ZH o.key z.pairs x).map V.pav),.list [],.list []]from Qe _]at hst;generalize X6 g v o (Wm (ZH o.key z.pairs x))=w at hst ⊢;rw[Qe w]at hst;simp only[Qnq,QmK,Qnr,Qa,seval];refine MH (site:=145) (g:=_) (sz:=14) (n:=z.pairs.length+1) (xs:=z.pairs.map V.pav++[V.pav x]) (by simp only[Qa,seval]<;>rfl) (by simp only[Qa,seval]) (by simp) ?_;rw[hk];simp only[h5',h6,h7,m5,m6,m7,eE,seval];refine aC hpr ?_;simp only[eE,seval];refine aC hst ?_;simp only[h8,m8,QO,eE,seval];exact⟨by rw[Qe w],rfl⟩
  ·rw[hR'];dsimp only;simp only[vc]at m8;simp only[h8,m8,h9,QO,eE,seval];exact⟨he,v,c',by rw[Qe v],rfl⟩
end

section
variable {M K n:Nat}(hM:65536≤M)(hK:K≤1000000)(P:PL)(hP:P.ok M)(l s:Nat)(m:Qh)(hm:l<m.length){rec:Int→V→C→Rd V}(hrec:DX P M K n rec)(hro:Ws P M K n rec)(g:PG)(hg:g.ops.length≤maxLen)(o:PO)(ho:OpK P g o)
 (c:C) (hs:Am.Qc m l s=Q7 P c) (hc:CI c) (hcn:c.left≤n) (v:V) (hvm:MW P (n+1) g v) (hvo:v.ok M) (hb:(v.cnt:Int)+3*c.left+3≤K) (hkd:(Lit.int .i64 o.kind).wf=true)

include hM hK hP hm hrec hro hg ho hs hc hcn hvm hvo hb hkd in
theorem j91 (wr:Int) :
  Qd Tryz.prog 91 [.ptr l s 0,Qm g,v.av,Qz o,.int .i64 wr] m (Rt P l s m V.av (Jj P rec g v o wr c)):=by
 have hcv:=Zp v;have hcb:=hc.bd;have hwo:=CV o;have hpk:=AN o.num o.name o.alias o.card o.key o.kind o.target o.union;have hen:=fun(fr:Nat→Ob) (h5:o.card=5)=>Qkx hM hK P hP (l+1) s (fr :: m) (by simp only[QmK];omega) hrec hro g hg o ho h5 c (by exact hs) hc hcn v hvm hvo hb hkd
 have hpa:=fun(fr:Nat→Ob) (h5:o.card≠5) (h4:o.card=4)=>Qkw (n:=n) hM hK P hP (l+1) s (fr :: m) (by simp only[QmK];omega) g hg o ho h5 c (by exact hs) hc v hvm hvo (by omega) h4
 have hne:=fun(fr:Nat→Ob) (h10:o.kind=10) (h5:o.card≠5)=>Qkv P c (l+1) s (fr :: m) (by simp only[QmK];omega) (by exact hs) hc hrec hcn (by omega) g hg v (by omega) hK hvo o ho h10 h5 hvm
 have hon:=fun(fr:Nat→Ob)=>QeD P hP c (l+1) s (fr :: m) (by simp only[QmK];omega) (by exact hs) hc g hg v (by omega) o
 rw[Qe v]at hen hpa hne hon;simp only[Qm,Qz,oc,PG.cells,PO.cells]at hwo hpk hen hpa hne hon;unfold Jj;rw[Qe v];refine wG Tryz.func91 ?_;simp only[eK,Tryz.f91,seval];simp only[Qm,Qz,PG.cells,PO.cells,eE,seval];by_cases h5:o.card=5
 ·have b5:(o.card==5)=true:=by simp[h5]
  rw[QmD h5];simp only[b5,Qa,seval];by_cases h6:wr=6
  case neg=>
   have b6:(wr != 6)=true:=by simp[h6]
   rw[QmC h6];simp only[b6,eE,seval];exact⟨by decide,v,c,by rw[Qe v];rfl,(put_self hm hs).symm⟩
  have b6:(wr != 6)=false:=by simp[h6]
  rw[QmD h6];simp only[b6,eE,seval];refine QJ (hen _ h5) (by simp only[Qm3,Qnx,Qa,seval]) ?_;intro x m1 hx _;cases hr:JZ P rec g v o c with
  |error e=>
   rw[hr]at hx;obtain⟨he,y,c',rfl,rfl⟩:=hx;simp only[Qe y,QO,eE,seval];exact⟨he,y,c',by rw[Qe y],rfl⟩
  |ok p=>
   obtain⟨w,d⟩:=p;rw[hr]at hx;obtain⟨rfl,rfl⟩:=hx;simp only[Qe w,QO,eE,seval];exact⟨by rw[Qe w],rfl⟩
 have b5:(o.card==5)=false:=by simp[h5]
 rw[QmC h5];simp only[b5,Qa,seval];by_cases hp:wr=5∧pk o.card o.kind=true
 ·obtain⟨hw5,hpk'⟩:=hp;have b6:(wr==5)=true:=by simp[hw5]
  have h4:o.card=4:=by
   unfold pk at hpk';rw[QmT,QmA]at hpk';exact hpk'.1
  rw[QmD ⟨hw5,hpk'⟩];rw[hpk']at hpk;simp only[b6,eE,seval];refine aC hpk ?_;simp only[eE,seval];refine QJ (hpa _ h5 h4) (by simp only[Qm3,Qnx,Qa,seval]) ?_;intro x m1 hx _;cases hr:WT P g v o c with
  |error e=>
   rw[hr]at hx;obtain⟨he,y,c',rfl,rfl⟩:=hx;simp only[Qe y,QO,eE,seval];exact⟨he,y,c',by rw[Qe y],rfl⟩
  |ok p=>
   obtain⟨w,d⟩:=p;rw[hr]at hx;obtain⟨rfl,rfl⟩:=hx;simp only[Qe w,QO,eE,seval];exact⟨by rw[Qe w],rfl⟩
 rw[QmC hp];by_cases hw5:wr=5
 ·have b6:(wr==5)=true:=by simp[hw5]
  have hpf:pk o.card o.kind=false:=by
   cases h:pk o.card o.kind
   ·rfl
   ·exact absurd ⟨hw5,h⟩ hp
  rw[hpf]at hpk;simp only[b6,eE,seval];refine aC hpk ?_;simp only[eE,seval];refine aC hwo ?_;by_cases hw:wr=wk o.kind
  case neg=>
   have b7:(wr != wk o.kind)=true:=by simp[hw]
   rw[QmC hw];simp only[b7,eE,seval];exact⟨by decide,v,c,by rw[Qe v];rfl,(put_self hm hs).symm⟩
  have b7:(wr != wk o.kind)=false:=by simp[hw]
  rw[QmD hw];simp only[b7,KV,eE,seval];by_cases h10:o.kind=10
  ·have b10:(o.kind==10)=true:=by simp[h10]
   rw[QmD h10];simp only[b10,eE,seval];refine QJ (hne _ h10 h5) (by simp only[Qm3,Qnx,Qa,seval]) ?_;intro x m1 hx _;cases hr:Ky rec g v o c with
   |error e=>
    rw[hr]at hx;obtain⟨he,y,c',rfl,rfl⟩:=hx;simp only[Qe y,QO,eE,seval];exact⟨he,y,c',by rw[Qe y],rfl⟩
   |ok p=>
    obtain⟨w,d⟩:=p;rw[hr]at hx;obtain⟨rfl,rfl⟩:=hx;simp only[Qe w,QO,eE,seval];exact⟨by rw[Qe w],rfl⟩
  ·have b10:(o.kind==10)=false:=by simp[h10]
   rw[QmC h10];simp only[b10,eE,seval];refine QJ (hon _) (by simp only[Qm3,Qnx,Qa,seval]) ?_;intro x m1 hx _;cases hr:Wn P g v o c with
   |error e=>
    rw[hr]at hx;obtain⟨he,y,c',rfl,rfl⟩:=hx;simp only[Qe y,QO,eE,seval];exact⟨he,y,c',by rw[Qe y],rfl⟩
   |ok p=>
    obtain⟨w,d⟩:=p;rw[hr]at hx;obtain⟨rfl,rfl⟩:=hx;simp only[Qe w,QO,eE,seval];exact⟨by rw[Qe w],rfl⟩
 ·have b6:(wr==5)=false:=by simp[hw5]
  simp only[b6,eE,seval];refine aC hwo ?_;by_cases hw:wr=wk o.kind
  case neg=>
   have b7:(wr != wk o.kind)=true:=by simp[hw]
   rw[QmC hw];simp only[b7,eE,seval];exact⟨by decide,v,c,by rw[Qe v];rfl,(put_self hm hs).symm⟩
  have b7:(wr != wk o.kind)=false:=by simp[hw]
  rw[QmD hw];simp only[b7,KV,eE,seval];by_cases h10:o.kind=10
  ·have b10:(o.kind==10)=true:=by simp[h10]
   rw[QmD h10];simp only[b10,eE,seval];refine QJ (hne _ h10 h5) (by simp only[Qm3,Qnx,Qa,seval]) ?_;intro x m1 hx _;cases hr:Ky rec g v o c with
   |error e=>
    rw[hr]at hx;obtain⟨he,y,c',rfl,rfl⟩:=hx;simp only[Qe y,QO,eE,seval];exact⟨he,y,c',by rw[Qe y],rfl⟩
   |ok p=>
    obtain⟨w,d⟩:=p;rw[hr]at hx;obtain⟨rfl,rfl⟩:=hx;simp only[Qe w,QO,eE,seval];exact⟨by rw[Qe w],rfl⟩
  ·have b10:(o.kind==10)=false:=by simp[h10]
   rw[QmC h10];simp only[b10,eE,seval];refine QJ (hon _) (by simp only[Qm3,Qnx,Qa,seval]) ?_;intro x m1 hx _;cases hr:Wn P g v o c with
   |error e=>
    rw[hr]at hx;obtain⟨he,y,c',rfl,rfl⟩:=hx;simp only[Qe y,QO,eE,seval];exact⟨he,y,c',by rw[Qe y],rfl⟩
   |ok p=>
    obtain⟨w,d⟩:=p;rw[hr]at hx;obtain⟨rfl,rfl⟩:=hx;simp only[Qe w,QO,eE,seval];exact⟨by rw[Qe w],rfl⟩

end

theorem QeI {g:PG}{n:Int}{i:Nat}{x:PO}(h:g.ops[i]? = some x)(hd:Xq g n=(g.ops.drop i).find? fun o=>o.num==n) :
  (x.num=n∧Xq g n=some x)∨x.num≠n∧Xq g n=(g.ops.drop (i+1)).find? fun o=>o.num==n:=by
 have hlt:=(Qmu.1 h).1;have hx:=(Qmu.1 h).2;rw[Qne hlt,Qon,hx]at hd;by_cases hb:x.num=n
 ·rw[show(x.num==n)=true from by simp[hb]]at hd;exact .inl ⟨hb,hd⟩
 ·rw[show(x.num==n)=false from by simp[hb]]at hd;exact .inr ⟨hb,hd⟩
theorem Qbs {g:PG}{n:Int}{i:Nat}(h:¬i<g.ops.length)(hd:Xq g n=(g.ops.drop i).find? fun o=>o.num==n):Xq g n=none:=by
 rw[hd,Qm8 (by omega)];rfl
theorem YU {P:PL}{t:Int}(ht:0≤t∧t<(P.progs.length:Int)):Qq P t∈P.progs∧P.progs[t.toNat]? = some (Qq P t):=by
 unfold Qq;rw[Qmv (by omega:t.toNat<P.progs.length)];exact⟨Qnn _,rfl⟩
theorem LH {g:PG}{i:Nat}{o:PO}(h:g.ops[i]? = some o):(g.ops.map fun o=>AV.agg o.cells)[i]? = some (.agg o.cells):=by
 rw[QnT,h];rfl

structure FlF (g:PG)(v:V)(t:Int)(l s:Nat)(f:Fr)(fr:Nat→Ob):Prop where
 f0:f 0=.ptr (l+1) s 0
 f1:f 1=.int .i64 t
 f5:f 5=.ptr 0 5 0
 f6:f 6=.ptr 0 6 0
 f8:f 8=.ptr 0 8 0
 m5:fr 5=.cells (vc v)
 m6:fr 6=.cells Jk
 m8:fr 8=.cells g.cells
structure FoF (g:PG)(c:C)(num wr:Int)(cc:C)(f:Fr)(fr:Nat→Ob):Prop where
 f9:f 9=.ptr 0 9 0
 f10:f 10=.int .i64 num
 f11:f 11=.int .i64 wr
 f12:f 12=.ptr 0 12 0
 f47:f 47=.list (g.ops.map fun o=>AV.agg o.cells)
 f48:f 48=.int .i64 (g.ops.length:Nat)
 m9:fr 9=.cells (KW c)
 m12:fr 12=.cells (KW cc)
 n16:fr 16=.none

section
variable {M K n:Nat}(hM:65536≤M)(hK:K≤1000000)(P:PL)(hP:P.ok M)(hU:Kt P)(hr:ZG P)(l s:Nat)(m:Qh)(hm:l<m.length){rec:Int→V→C→Rd V}(hrec:DX P M K n rec)(hro:Ws P M K n rec)(t:Int)(ht:0≤t∧t<(P.progs.length:Int))

include hM hK hP hm hrec hro hU hr ht in
theorem Qbt (v:V)(c cc:C)(num wr:Int)(hcc:CI cc)(hcn:cc.left≤n)(hvm:MW P (n+1) (Qq P t) v)(hvo:v.ok M)(hb:(v.cnt:Int)+3*cc.left+3≤K)(f:Fr)(fr:Nat→Ob)(hf:FlF (Qq P t) v t l s f fr)(hg:FoF (Qq P t) c num wr cc f fr)(h49:f 49=.int .i64 0)(h15:(fr 15).isRow=false)(Q:Exit→St→Prop)
  (h2:∀f fr,FlF (Qq P t) v t l s f fr→FoF (Qq P t) c num wr cc f fr→(fr 15).isRow=false→Xq (Qq P t) num=none→Q (.exit 2) ⟨f,fr :: Am.put m l s (Q7 P c),[]⟩)
  (h1:∀f fr o w d,FlF (Qq P t) w t l s f fr→(∀s∈[16,15,12,9],(fr s).isRow=false)→Xq (Qq P t) num=some o→Jj P rec (Qq P t) v o wr cc=.ok (w,d)→Q (.exit 1) ⟨f,fr :: Am.put m l s (Q7 P d),[]⟩)
  (he:∀f fr o w (e:Nat) d,f 6=.ptr 0 6 0→fr 6=.cells (vc w)→f 7=.int .i64 (e:Nat)→Xq (Qq P t) num=some o→Jj P rec (Qq P t) v o wr cc=.error e→e≠0→Q .ret ⟨f,fr :: Am.put m l s (Q7 P d),[]⟩) :
  QR Tryz.prog (.loop Ih) ⟨f,fr :: Am.put m l s (Q7 P c),[]⟩ Q:=by
 have lp:∀o,Am.Qc (Am.put m l s o) l s=o:=fun o=>Qo hm
 have pp:∀o q,Am.put (Am.put m l s o) l s q=Am.put m l s q:=fun o q=>put_put
 have hpl:∀o,l+1<(Am.put m l s o).length+1:=fun o=>by rw[QO];omega
 have hgl:(Qq P t).ops.length≤maxLen:=(hP.progs _ (YU ht).1).len
 let I:Nat→St→Prop:=fun k st=>∃f fr i,st=⟨f,fr :: Am.put m l s (Q7 P c),[]⟩∧k=(Qq P t).ops.length-i∧i≤(Qq P t).ops.length∧(Xq (Qq P t) num=((Qq P t).ops.drop i).find? fun o=>o.num==num)∧FlF (Qq P t) v t l s f fr∧FoF (Qq P t) c num wr cc f fr∧f 49=.int .i64 (i:Nat)∧(fr 15).isRow=false
 refine Qk I _ ⟨f,fr,0,rfl,rfl,QmE _,rfl,hf,hg,h49,h15⟩ ?_;clear hf hg h49 h15;rintro k st ⟨f0,fr0,i,rfl,rfl,hil,hfd,⟨h00,h10,h50,h60,h80,m50,m60,m80⟩,⟨h90,h100,h110,h120,h470,h480,m90,m120,n160⟩,h490,n150⟩;refine QL (a:=_) [15] (by intro s hs;simp only[QoG]at hs;subst hs;exact n150) ?_;intro f fr hf hmm hn15;have h0:f 0=.ptr (l+1) s 0:=by rw[hf,h00]<;>rfl
 have h1':f 1=.int .i64 t:=by rw[hf,h10]<;>rfl
 have h5:f 5=.ptr 0 5 0:=by rw[hf,h50]<;>rfl
 have h6:f 6=.ptr 0 6 0:=by rw[hf,h60]<;>rfl
 have h8:f 8=.ptr 0 8 0:=by rw[hf,h80]<;>rfl
 have h9:f 9=.ptr 0 9 0:=by rw[hf,h90]<;>rfl
 have h10':f 10=.int .i64 num:=by rw[hf,h100]<;>rfl
 have h11:f 11=.int .i64 wr:=by rw[hf,h110]<;>rfl
 have h12:f 12=.ptr 0 12 0:=by rw[hf,h120]<;>rfl
 have h47:f 47=.list ((Qq P t).ops.map fun o=>AV.agg o.cells):=by rw[hf,h470]<;>rfl
 have h48:f 48=.int .i64 ((Qq P t).ops.length:Nat):=by rw[hf,h480]<;>rfl
 have h49:f 49=.int .i64 (i:Nat):=by rw[hf,h490]<;>rfl
 have m5':fr 5=.cells (vc v):=by rw[hmm 5 (by decide),m50]<;>rfl
 have m6':fr 6=.cells Jk:=by rw[hmm 6 (by decide),m60]<;>rfl
 have m8':fr 8=.cells (Qq P t).cells:=by rw[hmm 8 (by decide),m80]<;>rfl
 have m9':fr 9=.cells (KW c):=by rw[hmm 9 (by decide),m90]<;>rfl
 have m12':fr 12=.cells (KW cc):=by rw[hmm 12 (by decide),m120]<;>rfl
 have n15:=hn15 15 (by decide);have n16':fr 16=.none:=by rw[hmm 16 (by decide),n160]<;>rfl
 clear hf hmm hn15 h00 h10 h50 h60 h80 h90 h100 h110 h120 h470 h480 h490 m50 m60 m80 m90 m120 n160 n150;have m5:=m5';have m6:=m6';have m8:=m8';have m12:=m12';simp only[vc]at m5;simp only[Jk]at m6;simp only[PG.cells]at m8;simp only[KW]at m12;simp only[h48,h49,Qa,seval];by_cases hlt:i<(Qq P t).ops.length
 case neg=>
  simp only[QI hlt,Qa,seval];exact h2 _ _ ⟨(by exact h0),(by exact h1'),(by exact h5),(by exact h6),(by exact h8),m5',m6',m8'⟩ ⟨(by exact h9),(by exact h10'),(by exact h11),(by exact h12),(by exact h47),(by exact h48),m9',m12',n16'⟩ (by rw[n15]<;>rfl) (Qbs hlt hfd)
 obtain⟨o,hi⟩:∃o,(Qq P t).ops[i]? = some o:=⟨_,Qmv hlt⟩;have hgo:((Qq P t).ops.map fun o=>AV.agg o.cells)[i]? = some (.agg [.int .i64 o.num,.str o.name,.str o.alias,.int .i64 o.card,.int .i64 o.key,.int .i64 o.kind,.int .i64 o.target,.int .i64 o.union]):=LH hi;have e1:=Qw i _ hlt hgl;simp only[QD hlt,h47,h49,Qv,QnY,Qf,hgo,h10',n15,KV,eE,seval];rcases QeI hi hfd with⟨hn,hop⟩|⟨hn,hfd'⟩
 case inr=>
  have b1:(o.num != num)=true:=by simp[hn]
  simp only[b1,h49,e1,Qa,seval];exact⟨(Qq P t).ops.length-(i+1),by omega,_,_,i+1,rfl,rfl,by omega,hfd',⟨(by exact h0),(by exact h1'),(by exact h5),(by exact h6),(by exact h8),(by exact m5'),(by exact m6'),(by exact m8')⟩,⟨(by exact h9),(by exact h10'),(by exact h11),(by exact h12),(by exact h47),(by exact h48),(by exact m9'),(by exact m12'),(by exact n16')⟩,(by rfl),by rfl⟩
 have b1:(o.num != num)=false:=by simp[hn]
 obtain⟨ho,hkd,_⟩:=RX hP hU hr ht hop;have hfl:=fun(fr:Nat→Ob)=>j91 (n:=n) hM hK P hP (l+1) s (fr :: Am.put m l s (Q7 P cc)) (by exact hpl _) hrec hro (Qq P t) hgl o ho cc (by exact lp _) hcc hcn v hvm hvo hb hkd wr
 rw[Qe v]at hfl;simp only[Qm,Qz,PG.cells,PO.cells,Q7]at hfl;simp only[b1,h0,h5,h8,h11,h12,m5,m8,m12,lp,pp,Q7,Z5,ZQ,eE,seval];refine QJ (hfl _) (by simp only[Qm3,Qnx,Qa,seval]<;>rfl) ?_;intro y m1 hy _;cases hrr:Jj P rec (Qq P t) v o wr cc with
 |error e=>
  rw[hrr]at hy;obtain⟨he',w,d,rfl,rfl⟩:=hy;simp only[Qe w,Q2 he',h5,h6,m5,m6,pp,eE,seval];exact he _ _ o w e d (by exact h6) (by rfl) (by rfl) hop hrr he'
 |ok p=>
  obtain⟨w,d⟩:=p;rw[hrr]at hy;obtain⟨rfl,rfl⟩:=hy;simp only[Qe w,h5,m5,pp,eE,seval];exact h1 _ _ o w d ⟨(by exact h0),(by exact h1'),(by exact h5),(by exact h6),(by exact h8),(by rfl),(by exact m6'),(by exact m8')⟩ (by
   intro s hs;simp only[QnS,QoF,or_false]at hs;rcases hs with rfl|rfl|rfl|rfl
   ·show(fr 16).isRow=false;rw[n16'];rfl
   ·rfl
   ·show(fr 12).isRow=false;rw[m12'];rfl
   ·show(fr 9).isRow=false;rw[m9'];rfl) hop hrr

include hM hK hP hm hrec hro hU hr ht in
theorem Qbu (R0:Rd V)(k:Nat)(v:V)(c:C)(f:Fr)(fr:Nat→Ob)(hf:FlF (Qq P t) v t l s f fr)(hrow:∀s∈[16,15,12,9],(fr s).isRow=false)(hc:CI c)(hk:c.left≤k)(hcn:c.left≤n)(hR:Z4 P rec t k v c=R0)(hvm:MW P (n+1) (Qq P t) v)(hvo:v.ok M)(hb:(v.cnt:Int)+3*c.left≤K)(Q:Exit→St→Prop)
  (hx:∀f fr v c,FlF (Qq P t) v t l s f fr→R0=.ok (v,c)→Q (.exit 0) ⟨f,fr :: Am.put m l s (Q7 P c),[]⟩)
  (he:∀f fr w (e:Nat) c,f 6=.ptr 0 6 0→fr 6=.cells (vc w)→f 7=.int .i64 (e:Nat)→R0=.error e→e≠0→Q .ret ⟨f,fr :: Am.put m l s (Q7 P c),[]⟩) :
  QR Tryz.prog (.loop Ii) ⟨f,fr :: Am.put m l s (Q7 P c),[]⟩ Q:=by
 have lp:∀o,Am.Qc (Am.put m l s o) l s=o:=fun o=>Qo hm
 have pp:∀o q,Am.put (Am.put m l s o) l s q=Am.put m l s q:=fun o q=>put_put
 let I:Nat→St→Prop:=fun k st=>∃f fr v c,st=⟨f,fr :: Am.put m l s (Q7 P c),[]⟩∧FlF (Qq P t) v t l s f fr∧(∀s∈[16,15,12,9],(fr s).isRow=false)∧CI c∧c.left≤k∧c.left≤n∧Z4 P rec t k v c=R0∧MW P (n+1) (Qq P t) v∧v.ok M∧(v.cnt:Int)+3*c.left≤K
 refine Qk I k ⟨f,fr,v,c,rfl,hf,hrow,hc,hk,hcn,hR,hvm,hvo,hb⟩ ?_;clear hf hrow hc hk hcn hR hvm hvo hb;rintro k st ⟨f0,fr0,v,c,rfl,⟨h00,h10,h50,h60,h80,m50,m60,m80⟩,hrow,hc,hk,hcn,hR,hvm,hvo,hb⟩;have hcb:=hc.bd;have hcv:=Zp v;have lr:=WK v;refine QL (a:=_) [16,15,12,9] hrow ?_;intro f fr hf hmm hn;have h0:f 0=.ptr (l+1) s 0:=by rw[hf,h00]<;>rfl
 have h1':f 1=.int .i64 t:=by rw[hf,h10]<;>rfl
 have h5:f 5=.ptr 0 5 0:=by rw[hf,h50]<;>rfl
 have h6:f 6=.ptr 0 6 0:=by rw[hf,h60]<;>rfl
 have h8:f 8=.ptr 0 8 0:=by rw[hf,h80]<;>rfl
 have m5':fr 5=.cells (vc v):=by rw[hmm 5 (by decide),m50]<;>rfl
 have m6':fr 6=.cells Jk:=by rw[hmm 6 (by decide),m60]<;>rfl
 have m8':fr 8=.cells (Qq P t).cells:=by rw[hmm 8 (by decide),m80]<;>rfl
 have n16:=hn 16 (by decide);have n15:=hn 15 (by decide);have n12:=hn 12 (by decide);have n9:=hn 9 (by decide);clear hf hmm hn h00 h10 h50 h60 h80 m50 m60 m80 hrow;have m5:=m5';have m6:=m6';have m8:=m8';simp only[vc]at m5;simp only[Jk]at m6;simp only[PG.cells]at m8;simp only[Q7,lp,h0,Z5,eE,seval];refine aC (NA c hc.big') ?_;by_cases hlt:0<c.left
 case neg=>
  have d1:decide (c.left > 0)=false:=Qoo hlt;have hR':R0=.ok (v,c):=by
   rw[←hR];cases k with
   |zero=>rfl
   |succ k=>rw[Z4,QmC hlt]
  simp only[d1,Qa,seval];exact hx _ _ v c ⟨(by exact h0),(by exact h1'),(by exact h5),(by exact h6),(by exact h8),m5',m6',m8'⟩ hR'
 have d1:decide (c.left > 0)=true:=Qou hlt;obtain⟨k,rfl⟩:∃j,k=j+1:=⟨k-1,by omega⟩;rw[Z4,QmD hlt]at hR;have htt:=c90 c hc.big;have hta:=UJ hc;have hnx:=c92 c hc.big;have hna:=Cn hc;generalize Qt c=tg at htt hta hR hna;obtain⟨num,w,c1,e⟩:=tg;dsimp only at hta hR hna;simp only[Nt,C.av]at htt;simp only[d1,lp,h0,n9,Z5,ZQ,eE,seval];refine aC htt ?_;by_cases he0:e=0
 case neg=>
  rw[QmC he0]at hR;simp only[n12,Q2 he0,h5,h6,m5,m6,ZQ,eE,seval];exact he _ _ v e c (by exact h6) (by rfl) (by rfl) hR.symm he0
 subst he0;obtain⟨t1,t2,t3,t4,t5⟩:=hta rfl;have hc1:=t1.ci hc;have hl1:=t1.lt hc;have hc1b:=hc1.bd;rw[QmD rfl]at hR;simp only[n12,h8,m8,Qnq,ZQ,eE,seval];refine Qbt (n:=n) hM hK P hP hU hr l s m hm hrec hro t ht v c c1 num w hc1 (by omega) hvm hvo (by omega) _ _ ⟨(by exact h0),(by exact h1'),(by exact h5),(by exact h6),(by exact h8),(by exact m5'),(by exact m6'),(by exact m8')⟩ ⟨(by rfl),(by rfl),(by rfl),(by rfl),(by rfl),(by rfl),(by rfl),(by rfl),by exact n16⟩ (by rfl) (by show(fr 15).isRow=false;rw[n15];rfl) _ (fun f fr hf hg h15 hop=>?_) (fun f fr o y d hf hrow hop hrf=>?_) (fun f fr o y e d h6 m6 h7 hop hrf he'=>?_)
 ·obtain⟨h0,h1',h5,h6,h8,m5,m6,m8⟩:=hf;obtain⟨h9,h10,h11,h12,h47,h48,m9,m12,n16⟩:=hg;rw[hop]at hR;generalize Xo c=nn at hnx hna hR;obtain⟨x,d,e⟩:=nn;dsimp only at hna hR;simp only[BN,C.av,R.av]at hnx;have m5':=m5;have m6':=m6;have m8':=m8;simp only[vc]at m5;simp only[Jk]at m6;simp only[KW]at m9 m12;simp only[h9,m9,Z5,eE,seval];refine aC hnx ?_;by_cases he0:e=0
  case neg=>
   rw[QmC he0]at hR;simp only[n16,Q2 he0,h5,h6,h12,m5,m6,m12,ZQ,eE,seval];exact he _ _ v e c (by exact h6) (by rfl) (by rfl) hR.symm he0
  subst he0;obtain⟨a1,_,a2,a3,a4,a5,a6,a7⟩:=hna rfl;have hla:=a1.lt hc;have hrw:x.ok M:=⟨KL (by omega) (by omega),KL (by omega) (by omega),by simp[Lit.wf,IntKind.min,IntKind.max,IntKind.bits,IntKind.signed];omega,by omega⟩;have ea:=BZ v x;have hva:=CQ (f:=x) hvm;have hoa:=CP hvo hrw (by omega);have hsd:=j93 v x (by omega);rw[QmD rfl]at hR;generalize UI v x=u at hsd ea hva hoa hR;rw[Qe v,Qe u]at hsd;simp only[R.av]at hsd;simp only[n16,h0,h5,h12,m5,m12,lp,pp,Q7,Z5,ZQ,eE,seval];refine aC hsd ?_;simp only[h5,m5,eE,seval];exact⟨k,by omega,_,_,u,d,rfl,⟨(by exact h0),(by exact h1'),(by exact h5),(by exact h6),(by exact h8),(by rfl),(by exact m6'),(by exact m8')⟩,(by
   intro s hs;simp only[QnS,QoF,or_false]at hs;rcases hs with rfl|rfl|rfl|rfl
   ·rfl
   ·exact h15
   ·rfl
   ·show(fr 9).isRow=false;rw[m9];rfl),a1.ci hc,by omega,by omega,hR,hva,hoa,by omega⟩
 ·obtain⟨ho,hkd,_⟩:=RX hP hU hr ht hop;obtain⟨b1,b2,b3,b4⟩:=NF hM hK ho hro hkd hc1 (by omega) hvm hvo (by omega) hrf;have hlb:=b1.lt hc1;rw[hop]at hR;dsimp only at hR;rw[hrf]at hR;exact⟨k,by omega,f,fr,y,d,rfl,hf,hrow,b1.ci hc1,by omega,by omega,hR,b2,b3,by omega⟩
 ·rw[hop]at hR;dsimp only at hR;rw[hrf]at hR;exact he _ _ y e d h6 m6 h7 hR.symm he'

include hM hK hP hm hrec hro hU hr ht in
theorem Mq (v:V)(c:C)(hs:Am.Qc m l s=Q7 P c)(hc:CI c)(hcn:c.left≤n)(hvm:MW P (n+1) (Qq P t) v)(hvo:v.ok M)(hb:(v.cnt:Int)+3*c.left≤K) :
  Qd Tryz.prog 44 [.ptr l s 0,.int .i64 t,v.av] m (Rt P l s m V.av (Z4 P rec t c.left.toNat v c)):=by
 have lp:∀o,Am.Qc (Am.put m l s o) l s=o:=fun o=>Qo hm
 have hcb:=hc.bd;have hlt:t.toNat<P.progs.length:=by omega
 have hgp:(P.progs.map Qm)[t.toNat]? = some (.agg [.str (Qq P t).name,.list ((Qq P t).ops.map fun o=>AV.agg o.cells),.int .i64 (Qq P t).unions]):=by
  rw[QnT,(YU ht).2];rfl
 have ht0:(0≤t)=True:=by simp[ht.1]
 have e0:=put_self hm hs;have hsl:∀xs,((AV.list xs).shN l).sh=.list xs:=fun xs=>shl xs (l+1)
 rw[Q7]at hs;rw[Qe v];refine k44.go (by simp) ?_;simp only[hs,hgp,hsl,ht0,Qf,eE,seval];rw[←e0];refine Qbu hM hK P hP hU hr l s m hm hrec hro t ht _ c.left.toNat v c _ _ ⟨(by rfl),(by rfl),(by rfl),(by rfl),(by rfl),(by rfl),(by rfl),(by rfl)⟩ (by
   intro s hs;simp only[QnS,QoF,or_false]at hs;rcases hs with rfl|rfl|rfl|rfl<;>rfl) hc (by omega) hcn rfl hvm hvo hb _ (fun f fr w d hf hR=>?_) (fun f fr w e d h6 m6 h7 hR he=>?_)
 ·obtain⟨h0,h1',h5,h6,h8,m5,m6,m8⟩:=hf;rw[e0,hR];simp only[vc]at m5;simp only[Jk]at m6;simp only[h5,h6,m5,m6,QO,eE,seval];exact⟨by rw[Qe w],rfl⟩
 ·rw[e0,hR];simp only[vc]at m6;simp only[h6,m6,h7,QO,eE,seval];exact⟨he,w,d,by rw[Qe w],rfl⟩

end

theorem QeJ {M K:Nat}(hM:65536≤M)(hK:K≤1000000){P:PL}(hP:P.ok M)(hU:Kt P)(hr:ZG P):∀n:Nat,DX P M K n (Hj P n)
 |0,l,s,m,t,v,c,hm,hs,hc,hcl,ht,hvm,hvo,hb=>by
  have:=hc.bd;omega
 |n+1,l,s,m,t,v,c,hm,hs,hc,hcl,ht,hvm,hvo,hb=>
  Mq hM hK P hP hU hr l s m hm (QeJ hM hK hP hU hr n) (GU hM hK hP hU hr n) t ht v c hs hc (by omega) hvm hvo hb

def Uni (P:PL):Prop:=∀g∈P.progs,∀o∈g.ops,-1≤o.union
theorem LI {v:V}{c:C}{r:Rd V}(h:∀e,r=.error e→e≠0):r=if (CX v c r).2.2=0 then .ok ((CX v c r).1,(CX v c r).2.1)else .error (CX v c r).2.2:=by
 cases r with
 |error e=>
  have:=h e rfl;rw[QeF,QmC this]
 |ok p=>rfl

section
variable (P:PL){rec:Int→V→C→Rd V}(hre:Hq rec)
def YV (rec:Int→V→C→Rd V)(g:PG)(v:V)(o:PO)(w:Int)(c d:C):V×C×Nat :=
 if o.card=5 then(if w=6 then CX v d (JZ P rec g v o d)else(v,c,13))
 else if w=5∧pk o.card o.kind=true then GW P g v o d
 else if w=wk o.kind then(if o.kind=10 then CX v d (Ky rec g v o d)else YS P g v o d)
 else(v,c,13)
def C1 (rec:Int→V→C→Rd V)(g:PG)(v:V)(c:C):V×C×Nat :=
 if (Qt c).2.2.2=0 then
  (match Xq g (Qt c).1 with
  |none=>if (Xo c).2.2=0 then(UI v (Xo c).1,(Xo c).2.1,0)else(v,c,(Xo c).2.2)
  |some o=>YV P rec g v o (Qt c).2.1 c (Qt c).2.2.1)
 else(v,c,(Qt c).2.2.2)

include hre in
theorem EO (g:PG)(v:V)(o:PO)(w:Int)(c d:C):Jj P rec g v o w d=if (YV P rec g v o w c d).2.2=0 then .ok ((YV P rec g v o w c d).1,(YV P rec g v o w c d).2.1)else .error (YV P rec g v o w c d).2.2:=by
 unfold Jj YV;by_cases h5:o.card=5
 ·simp only[QmD h5];by_cases h6:w=6
  ·simp only[QmD h6];exact LI fun e h=>EN hre h
  ·simp only[QmC h6];rfl
 simp only[QmC h5];by_cases hp:w=5∧pk o.card o.kind=true
 ·simp only[QmD hp];exact Mp P g v o d
 simp only[QmC hp];by_cases hw:w=wk o.kind
 case neg=>
  simp only[QmC hw];rfl
 simp only[QmD hw];by_cases h10:o.kind=10
 ·simp only[QmD h10];exact LI fun e h=>Qbq hre h
 ·simp only[QmC h10];exact NG P g v o d
include hre in
theorem QeK (t:Int)(k:Nat)(v:V)(c:C)(hlt:0<c.left):Z4 P rec t (k+1) v c=if (C1 P rec (Qq P t) v c).2.2=0 then Z4 P rec t k (C1 P rec (Qq P t) v c).1 (C1 P rec (Qq P t) v c).2.1 else .error (C1 P rec (Qq P t) v c).2.2:=by
 rw[Z4,QmD hlt];unfold C1;by_cases h1:(Qt c).2.2.2=0
 case neg=>simp only[QmC h1]
 simp only[QmD h1];cases hop:Xq (Qq P t) (Qt c).1 with
 |none=>
  dsimp only;by_cases h2:(Xo c).2.2=0
  ·simp only[QmD h2,if_true]
  ·simp only[QmC h2]
 |some o=>
  dsimp only;rw[EO P hre (Qq P t) v o (Qt c).2.1 c (Qt c).2.2.1];by_cases h2:(YV P rec (Qq P t) v o (Qt c).2.1 c (Qt c).2.2.1).2.2=0
  ·simp only[QmD h2]
  ·simp only[QmC h2]
include hre in
theorem Pm (t:Int):∀(k:Nat) (v:V) (c:C) (e:Nat),Z4 P rec t k v c=.error e→e≠0
 |0,_,_,_,h=>by cases h
 |k+1,v,c,e,h=>by
  by_cases hlt:0<c.left
  ·rw[QeK P hre t k v c hlt]at h;split at h
   ·exact Pm t k _ _ e h
   ·rename_i h1;cases h;exact h1
  ·rw[Z4,QmC hlt]at h;cases h
theorem Ab:∀n:Nat,Hq (Hj P n)
 |0,_,_,_,_,h=>by cases h
 |n+1,t,v,c,e,h=>Pm P (Ab n) t _ v c e h
end

section
variable {M K n:Nat}(hM:65536≤M)(hK:K≤1000000)(P:PL)(hP:P.ok M)(hU:Kt P)(hr:ZG P)(hun:Uni P){rec:Int→V→C→Rd V}(hre:Hq rec)(hro:Ws P M K n rec)(t:Int)(ht:0≤t∧t<(P.progs.length:Int))

end

section
variable {M K n:Nat}(hM:65536≤M)(hK:K≤1000000)(P:PL)(hP:P.ok M)(hU:Kt P)(hr:ZG P)(hun:Uni P){rec:Int→V→C→Rd V}(hre:Hq rec)(hro:Ws P M K n rec)(t:Int)(ht:0≤t∧t<(P.progs.length:Int))

structure MeF (P:PL)(t:Int)(f:Fr)(fr:Nat→Ob)(v:V)(c:C):Prop where
 f1:f 1=.int .i64 t
 f4:f 4=.ptr 0 4 0
 f6:f 6=.ptr 0 6 0
 f7:f 7=.ptr 0 7 0
 f8:f 8=.ptr 0 8 0
 f9:f 9=.ptr 0 9 0
 m4:fr 4=.cells (Xl P)
 m6:fr 6=.cells (vc v)
 m7:fr 7=.cells (KW c)
 m8:fr 8=.cells Jk
 m9:fr 9=.cells zc6
 rw:∀s∈[12,11],(fr s).isRow=false

end

end Go.Proofs.YtkhpgmeokilhaaaGreatDoor.Va

namespace Go.Proofs.YtkhpgmeokilhaaaGreatDoor.Va
open Go Am Rc Bt Br Up So

theorem Ad {M:Nat}{v:V}(h:v.ok M):v.nsc.ok M:=by
 refine .mk h.kd ?_ h.text h.nl h.np h.ns h.nr h.list h.keys h.vals h.nums h.slots h.raws;show(Lit.int .u64 ((XB v.kd v.bits:Nat):Int)).wf=true;unfold XB;split
 ·rfl
 ·exact h.bits

def Gd (g:PG):Prop:=g.ops.length≤64∧∀o∈g.ops,(Lit.int .i64 o.num).wf=true

section
variable {M:Nat}{P:PL}{nm:PG→V→V}(h:∀t v,v.ok M→(nm (Qq P t) v).ok M)
include h
theorem C2 (o:PO){v:V}(hv:v.ok M):(ZD nm P o v).ok M:=by
 unfold ZD;split
 ·exact h _ v hv
 ·exact Ad hv
theorem QeL (o:PO){v:V}(hv:v.ok M):(Zy nm P o v).ok M:=by
 unfold Zy;split
 ·refine .mk rfl rfl (QmE _) ?_ (QmE _) (QmE _) (QmE _) ?_ (fun x hx=>nomatch hx) (fun x hx=>nomatch hx) (fun x hx=>nomatch hx) (fun x hx=>nomatch hx) (fun x hx=>nomatch hx)
  ·show(v.list.map _).length≤_;rw[Qnq];exact hv.nl
  ·intro x hx;obtain⟨y,hy,rfl⟩:=QnQ.1 hx;exact C2 h o (hv.list y hy)
 ·split
  ·have hp:(Xc o.key v.pairs).Perm v.pairs:=Q0 _;refine .mk rfl rfl (QmE _) (QmE _) ?_ (QmE _) (QmE _) (fun x hx=>nomatch hx) ?_ ?_ (fun x hx=>nomatch hx) (fun x hx=>nomatch hx) (fun x hx=>nomatch hx)
   ·show((Xc o.key v.pairs).map _).length≤_;rw[Qnq,hp.length_eq];exact hv.np
   ·intro x hx;obtain⟨y,hy,rfl⟩:=QnQ.1 hx;exact Ad (hv.keys y (hp.mem_iff.1 hy))
   ·intro x hx;obtain⟨y,hy,rfl⟩:=QnQ.1 hx;exact C2 h o (hv.vals y (hp.mem_iff.1 hy))
  ·exact C2 h o hv
theorem Qbv {g:PG}(hg:Gd g){v:V}(hv:v.ok M):(Ut nm P g v).ok M:=by
 unfold Ut;have hp:(Wk v.raws).Perm v.raws:=Q0 _;have hs:∀x∈g.ops.flatMap (Xj nm P v.slots),(Lit.int .i64 x.1).wf=true∧x.2.ok M:=by
  intro x hx;obtain⟨o,ho,hx⟩:=Qnh.1 hx;obtain⟨e1,s,hs,_,e2⟩:=Zj hx;rw[e1,e2];exact⟨hg.2 o ho,QeL h o (hv.slots s hs)⟩
 have hl:∀l:List PO,(l.flatMap (Xj nm P v.slots)).length≤l.length:=by
  intro l
  induction l with
  |nil=>exact Qms _
  |cons o l ih=>
   have:(Xj nm P v.slots o).length≤1:=by
    unfold Xj;split
    ·simp
    ·split<;>simp
   rw[Qn0,Qm9,QmK];omega
 refine .mk rfl rfl (QmE _) (QmE _) (QmE _) ?_ ?_ (fun x hx=>nomatch hx) (fun x hx=>nomatch hx) (fun x hx=>nomatch hx) (fun x hx=>(hs x hx).1) (fun x hx=>(hs x hx).2) ?_
 ·show(g.ops.flatMap (Xj nm P v.slots)).length≤_;have:=hl g.ops;have:=hg.1;omega
 ·show(Wk v.raws).length≤_;rw[hp.length_eq];exact hv.nr
 ·intro x hx;exact hv.raws x (hp.mem_iff.1 hx)
end
theorem Bk {M:Nat}{P:PL}(hg:∀t,Gd (Qq P t)):∀(n:Nat) (t:Int) (v:V),v.ok M→(Zb P n (Qq P t) v).ok M
 |0,_,_,h=>h
 |n+1,t,_,h=>Qbv (fun t v hv=>Bk hg n t v hv) (hg t) h

theorem R5 {M:Nat}{P:PL}(hP:P.ok M)(hl:∀g∈P.progs,g.ops.length≤64)(t:Int):Gd (Qq P t):=by
 unfold Qq;cases hg:P.progs[t.toNat]? with
 |none=>exact⟨QmE _,fun o ho=>nomatch ho⟩
 |some g=>
  have hm:=QmJ hg;exact⟨hl g hm,fun o ho=>((hP.progs g hm).ops o ho).num⟩
theorem C3 {P:PL}(h:ck P=0):∀g∈P.progs,g.ops.length≤64:=by
 unfold ck at h;split at h
 ·omega
 rename_i hl;exact(H5 (by simpa using hl)).2.2.1

open Vp Cp

section
variable {m:PG→V→Prop}{nm:PG→V→V}{P:PL}
end

def TE (m:PG→V→Prop)(P:PL)(o:PO)(x:V):Prop :=
 if o.card=4 then x.kd=11∧x.pairs=[]∧(o.kind=10→∀y∈x.list,m (Qq P o.target) y)
 else if o.card=5 then x.kd=12∧x.list=[]∧(o.kind=10→∀p∈x.pairs,m (Qq P o.target) p.2)
 else o.kind=10→m (Qq P o.target) x
def TY (P:PL):Nat→PG→V→Prop
 |0,_,_=>False
 |n+1,g,v=>v.kd=10∧∀s∈v.slots,∃o,Xq g s.1=some o∧TE (TY P n) P o s.2
theorem Qgu {P:PL}{n:Nat}{g:PG}{v:V}(h:TY P n g v):v.kd=10:=by
 cases n with
 |zero=>exact h.elim
 |succ n=>exact h.1
theorem QeM {P:PL}{m w:PG→V→Prop}{nm:PG→V→V}(h:∀g∈P.progs,∀v,w g v→m g (nm g v)){o:PO}(ho:UO P o){v:V}(hv:FW w P o v):TE m P o (Zy nm P o v):=by
 have hel:∀y,EW w P o y→o.kind=10→m (Qq P o.target) (ZD nm P o y):=by
  intro y hy hk;unfold ZD;rw[QmD hk];exact h _ (YU (ho.tgt hk)).1 _ (hy hk)
 unfold FW at hv;unfold TE Zy;by_cases h4:o.card=4
 ·rw[QmD h4]at hv;rw[QmD h4,QmD h4];refine⟨rfl,rfl,fun hk x hx=>?_⟩;obtain⟨y,hy,rfl⟩:=QnQ.1 hx;exact hel y (hv y hy) hk
 ·rw[QmC h4]at hv;rw[QmC h4,QmC h4];by_cases h5:o.card=5
  ·rw[QmD h5]at hv;rw[QmD h5,QmD h5];have hp:(Xc o.key v.pairs).Perm v.pairs:=Q0 _;refine⟨rfl,rfl,fun hk x hx=>?_⟩;obtain⟨p,hp',rfl⟩:=QnQ.1 hx;exact hel p.2 (hv.1 p (hp.mem_iff.1 hp')).2 hk
  ·rw[QmC h5]at hv;rw[QmC h5,QmC h5];exact hel v hv
theorem Ae {P:PL}(hU:Kt P)(hr:ZG P):∀(n:Nat) (g:PG),g∈P.progs→∀v:V,MW P n g v→TY P n g (Zb P n g v)
 |0,_,_,_,h=>h
 |n+1,g,hg,v,h=>by
  refine⟨rfl,fun x hx=>?_⟩;obtain⟨o,ho,hx⟩:=Qnh.1 hx;obtain⟨e,s,hs,e1,e2⟩:=Zj hx;obtain⟨o',h1,h2⟩:=h.1 s hs;rw[e1,X5 (hr g hg) ho]at h1;cases h1;exact⟨o,by rw[e];exact X5 (hr g hg) ho,by rw[e2];exact QeM (fun g hg v hv=>Ae hU hr n g hg v hv) (hU g hg o ho) h2⟩
theorem QeN {P:PL}{n:Nat}{g:PG}(hd:g.ops.Pairwise fun a b=>a.num<b.num){v:V}(h:TY P (n+1) g v){o:PO}(ho:o∈g.ops){x:V}(hx:XG v o.num=some x):TE (TY P n) P o x:=by
 obtain⟨o',h1,h2⟩:=h.2 _ (Xv hx).1;rw[X5 hd ho]at h1;cases h1;exact h2

def Pn (m:PG→V→Bool)(P:PL)(o:PO)(x:V):Bool:=o.kind==10&&(if o.card=4 then x.list.any (m (Qq P o.target))else if o.card=5 then x.pairs.any (fun p=>m (Qq P o.target) p.2)else m (Qq P o.target) x)
def NK (m:PG→V→Bool)(P:PL)(v:V)(o:PO):Bool:=match XG v o.num with
 |none=>o.card==1
 |some x=>Pn m P o x
def Wz (P:PL):Nat→PG→V→Bool
 |0,_,_=>false
 |n+1,g,v=>g.ops.any (NK (Wz P n) P v)
def Dp (x:V):List V:=if x.kd=11 then x.list else if x.kd=12 then x.pairs.map Prod.snd else [x]
theorem Qbw {P:PL}{n:Nat}{o:PO}{x:V}(h:TE (TY P n) P o x)(hk:o.kind=10)(m:PG→V→Bool):Pn m P o x=(Dp x).any (m (Qq P o.target))∧∀y∈Dp x,TY P n (Qq P o.target) y:=by
 have b:(o.kind==10)=true:=by simp[hk]
 unfold Pn Dp;unfold TE at h;rw[b,Qoc];by_cases h4:o.card=4
 ·rw[QmD h4]at h;rw[QmD h4,QmD h.1];exact⟨rfl,h.2.2 hk⟩
 ·rw[QmC h4]at h;rw[QmC h4];by_cases h5:o.card=5
  ·rw[QmD h5]at h;have n11:¬x.kd=11:=by omega
   rw[QmD h5,QmC n11,QmD h.1];refine⟨by rw[List.any_map];rfl,fun y hy=>?_⟩;obtain⟨p,hp,rfl⟩:=QnQ.1 hy;exact h.2.2 hk p hp
  ·rw[QmC h5]at h;have hx:=h hk;have hkd:=Qgu hx;have n11:¬x.kd=11:=by omega
   have n12:¬x.kd=12:=by omega
   rw[QmC h5,QmC n11,QmC n12];refine⟨by simp,fun y hy=>?_⟩;rw[QoG]at hy;subst hy;exact hx
theorem Qbx {x y:V}(h:y∈Dp x):y.cnt≤x.cnt:=by
 unfold Dp at h;split at h
 ·have:=DS h;rw[Q1 x];omega
 ·split at h
  ·obtain⟨p,hp,rfl⟩:=QnQ.1 h;have:=Hn hp;rw[Q1 x];omega
  ·rw[QoG]at h;subst h;omega

def ElI (x:V)(k:Nat)(st:St):Prop :=
 ∃f fr i g,st=⟨f,[fr],[]⟩∧k=x.pairs.length-i∧i≤x.pairs.length∧f 3=.vec 0 3 g 0 i false∧f 15=.list (x.pairs.map V.pav)∧f 16=.int .i64 (x.pairs.length:Nat)∧f 17=.int .i64 (i:Nat)∧fr 3=.vec g 7 (((x.pairs.take i).map Prod.snd).map V.av)∧∀s∈[5],(fr s).isRow=false

theorem j46 (x:V)(hc:x.cnt≤1048576):Qi Tryz.prog 46 [x.av] (.list ((Dp x).map V.av)):=by
 have hl:=J1 x;unfold Dp;rw[Qe];by_cases h11:x.kd=11
 ·have b1:(x.kd==11)=true:=by simp[h11]
  rw[QmD h11];refine wF Tryz.func46 ?_;simp only[eK,Tryz.f46,seval];simp only[b1,eE,seval]
 have b1:(x.kd==11)=false:=by simp[h11]
 rw[QmC h11];by_cases h12:x.kd=12
 case neg=>
  have b2:(x.kd==12)=false:=by simp[h12]
  rw[QmC h12];refine wF Tryz.func46 ?_;simp only[eK,Tryz.f46,seval];simp only[b1,b2,eE,seval];refine QS (l:=[x.av]) rfl rfl rfl (by rw[Qe];rfl) ?_;simp only[Qa,seval];rfl
 have b2:(x.kd==12)=true:=by simp[h12]
 rw[QmD h12];refine wF Tryz.func46 ?_;simp only[eK,Tryz.f46,seval];simp only[b1,b2,eE,seval];refine Zo (by simp only[Qa,seval]) rfl ?_;simp only[Qnq,eE,seval];refine Qk (ElI x) _ ⟨_,_,0,_,rfl,rfl,QmE _,(by rfl),(by rfl),(by rfl),(by rfl),(by rfl),by simp<;>rfl⟩ ?_;rintro _ st ⟨f0,fr0,i,g,rfl,rfl,hil,h30,h150,h160,h170,m30,r5⟩;refine QL (a:=_) [5] r5 ?_;intro f fr hf hm hn;have h3:f 3=.vec 0 3 g 0 i false:=by rw[hf,h30]<;>rfl
 have h15:f 15=.list (x.pairs.map V.pav):=by rw[hf,h150]<;>rfl
 have h16:f 16=.int .i64 (x.pairs.length:Nat):=by rw[hf,h160]<;>rfl
 have h17:f 17=.int .i64 (i:Nat):=by rw[hf,h170]<;>rfl
 have m3:fr 3=.vec g 7 (((x.pairs.take i).map Prod.snd).map V.av):=by rw[hm 3 (by decide),m30]<;>rfl
 have n5:=hn 5 (by decide);clear hf hm hn h30 h150 h160 h170 m30 r5;have hln:(((x.pairs.take i).map Prod.snd).map V.av).length=i:=by rw[Qnq,Qnq,Qns];omega
 simp only[h16,h17,Qa,seval];by_cases hlt:i<x.pairs.length
 ·obtain⟨p,hi⟩:∃p,x.pairs[i]? = some p:=⟨x.pairs[i],Qmv hlt⟩;have hg:=WG hi;have e1:=Qw i _ hlt (by simp only[maxLen];omega);have hst:((x.pairs.take (i+1)).map Prod.snd).map V.av=((x.pairs.take i).map Prod.snd).map V.av++[p.2.av]:=by
   rw[Qok,hi];simp
  simp only[QD hlt,Qv,QnY,Qf,hg,n5,h3,h15,h17,eE,seval];refine QS (l:=[p.2.av]) rfl rfl rfl (by rw[Qe];rfl) ?_;refine QN (site:=3) (g:=g) (n:=i) (xs:=((x.pairs.take i).map Prod.snd).map V.av) (ys:=[p.2.av]) (by rfl) (by exact m3) rfl hln.symm rfl (DR [p.2]) (by simp only[QmK,Qnr,maxLen];omega) (by simp only[QmK,Qnr];omega) ?_;simp only[h17,e1,Qa,seval];exact⟨x.pairs.length-(i+1),by omega,_,_,i+1,g+1,rfl,rfl,by omega,(by rfl),(by exact h15),(by exact h16),(by rfl),(by rw[hst];exact(by rfl)),by simp<;>rfl⟩
 ·have e:i=x.pairs.length:=by omega
  subst e;rw[Qn9]at m3 hln;simp only[QI hlt,h3,eE,seval];simp[AV.un,Zr,XE,m3];exact Qm5 (by rw[Qnq];exact Qms _)

section
variable {M:Nat}(P:PL)(hP:P.ok M)(hr:ZG P)

structure CoF (P:PL)(v:V)(g:PG)(i:Nat)(f:Fr)(fr:Nat→Ob):Prop where
 f3:f 3=.ptr 0 3 0
 f5:f 5=.ptr 0 5 0
 f18:f 18=.list (g.ops.map fun o=>AV.agg o.cells)
 f19:f 19=.int .i64 (g.ops.length:Nat)
 f20:f 20=.int .i64 (i:Nat)
 m3:fr 3=.cells (Xl P)
 m5:fr 5=.cells (vc v)

theorem Qgv (v:V)(g:PG)(i:Nat)(t:Int)(o:PO)(hot:o.target=t)(l:List V)(hl:l.length≤1048576)(m:V→Bool)(hm:∀y∈l,Qi Tryz.prog 22 [P.av,.int .i64 t,y.av] (.bool (!m y)))
  (f:Fr) (fr:Nat→Ob) (hf:CoF P v g i f fr) (h8:f 8=.ptr 0 8 0) (m8:fr 8=.cells o.cells) (h9:(fr 9).isRow=false) (h40:f 40=.list (l.map V.av)) (h41:f 41=.int .i64 (l.length:Nat)) (h42:f 42=.int .i64 0) (h12:(fr 12).isRow=false) (Q:Exit→St→Prop)
  (hx:∀f fr,CoF P v g i f fr→(∀s∈[12,9,8],(fr s).isRow=false)→l.any m=false→Q (.exit 2) ⟨f,[fr],[]⟩)
  (hy:∀f fr,f 6=.bool false→l.any m=true→Q .ret ⟨f,[fr],[]⟩) :
  QR Tryz.prog (.loop Ib) ⟨f,[fr],[]⟩ Q:=by
 let I:Nat→St→Prop:=fun k st=>∃f fr j,st=⟨f,[fr],[]⟩∧k=l.length-j∧j≤l.length∧l.any m=(l.drop j).any m∧CoF P v g i f fr∧f 8=.ptr 0 8 0∧fr 8=.cells o.cells∧(fr 9).isRow=false∧f 40=.list (l.map V.av)∧f 41=.int .i64 (l.length:Nat)∧f 42=.int .i64 (j:Nat)∧(fr 12).isRow=false
 refine Qk I _ ⟨f,fr,0,rfl,rfl,QmE _,rfl,hf,h8,m8,h9,h40,h41,h42,h12⟩ ?_;clear hf h8 m8 h9 h40 h41 h42 h12;rintro _ st ⟨f0,fr0,j,rfl,rfl,hjl,hany,⟨h30,h50,h180,h190,h200,m30,m50⟩,h80,m80,h90,h400,h410,h420,h120⟩;refine QL (a:=_) [12] (by intro s hs;simp only[QoG]at hs;subst hs;exact h120) ?_;intro f fr hf hmm hn;have h3:f 3=.ptr 0 3 0:=by rw[hf,h30]<;>rfl
 have h5:f 5=.ptr 0 5 0:=by rw[hf,h50]<;>rfl
 have h8:f 8=.ptr 0 8 0:=by rw[hf,h80]<;>rfl
 have h18:f 18=.list (g.ops.map fun o=>AV.agg o.cells):=by rw[hf,h180]<;>rfl
 have h19:f 19=.int .i64 (g.ops.length:Nat):=by rw[hf,h190]<;>rfl
 have h20:f 20=.int .i64 (i:Nat):=by rw[hf,h200]<;>rfl
 have h40:f 40=.list (l.map V.av):=by rw[hf,h400]<;>rfl
 have h41:f 41=.int .i64 (l.length:Nat):=by rw[hf,h410]<;>rfl
 have h42:f 42=.int .i64 (j:Nat):=by rw[hf,h420]<;>rfl
 have m3':fr 3=.cells (Xl P):=by rw[hmm 3 (by decide),m30]<;>rfl
 have m5':fr 5=.cells (vc v):=by rw[hmm 5 (by decide),m50]<;>rfl
 have m8':fr 8=.cells o.cells:=by rw[hmm 8 (by decide),m80]<;>rfl
 have n9:(fr 9).isRow=false:=by
  rw[hmm 9 (by decide)];cases h:fr0 9<;>rw[h]at h90<;>first|rfl|cases h90
 have n12:=hn 12 (by decide);clear hf hmm hn h30 h50 h80 h180 h190 h200 h400 h410 h420 m30 m50 m80 h90 h120;have m3:=m3';have m8:=m8';simp only[Xl]at m3;simp only[PO.cells]at m8;simp only[h41,h42,Qa,seval];by_cases hlt:j<l.length
 case neg=>
  have ha:l.any m=false:=by rw[hany,Qm8 (by omega)];rfl
  simp only[QI hlt,Qa,seval];refine hx _ _ ⟨(by exact h3),(by exact h5),(by exact h18),(by exact h19),(by exact h20),m3',m5'⟩ ?_ ha;intro s hs;simp only[QnS,QoF,or_false]at hs;rcases hs with rfl|rfl|rfl
  ·rw[n12];rfl
  ·exact n9
  ·rw[m8'];rfl
 obtain⟨y,hj⟩:∃y,l[j]? = some y:=⟨l[j],Qmv hlt⟩;have hgy:(l.map V.av)[j]? = some y.av:=by rw[QnT,hj];rfl
 have hcl:=hm y (QmJ hj);have e1:=Qw j _ hlt (by simp only[maxLen];omega);have hdr:l.drop j=y :: l.drop (j+1):=by
  rw[Qne hlt,(Qmu.1 hj).2]
 rw[hdr,List.any_cons]at hany;rw[Qe y]at hgy;rw[show P.av=.agg (Xl P)from rfl,Qe y]at hcl;simp only[Xl]at hcl;subst hot;simp only[QD hlt,Qv,QnY,Qf,hgy,n12,h3,h8,h40,h42,m3,m8,eE,seval];refine aC hcl ?_;cases hmy:m y
 ·rw[hmy,Qoh]at hany;simp only[QnE,Qod,h42,e1,Qa,seval];exact⟨l.length-(j+1),by omega,_,_,j+1,rfl,rfl,by omega,hany,⟨(by exact h3),(by exact h5),(by exact h18),(by exact h19),(by exact h20),(by exact m3'),(by exact m5')⟩,(by exact h8),(by exact m8'),by exact n9,(by exact h40),(by exact h41),(by rfl),by rfl⟩
 ·rw[hmy,Qog]at hany;simp only[QnE,Qod,Qa,seval];exact hy _ _ (by rfl) hany

include hP hr in
theorem Qby (n:Nat)(t:Int)(ht:0≤t∧t<(P.progs.length:Int))(hU:Kt P)(ih:∀(t:Int) (v:V),(0≤t∧t<(P.progs.length:Int))→TY P n (Qq P t) v→v.cnt≤1048576→Qi Tryz.prog 22 [P.av,.int .i64 t,v.av] (.bool (!Wz P n (Qq P t) v)))
  (v:V) (hv:TY P (n+1) (Qq P t) v) (hc:v.cnt≤1048576):Qi Tryz.prog 22 [P.av,.int .i64 t,v.av] (.bool (!Wz P (n+1) (Qq P t) v)):=by
 have hgm:=(YU ht).1;have hgp:(P.progs.map Qm)[t.toNat]? = some (.agg [.str (Qq P t).name,.list ((Qq P t).ops.map fun o=>AV.agg o.cells),.int .i64 (Qq P t).unions]):=by
  rw[QnT,(YU ht).2];rfl
 have ht0:(0≤t)=True:=by simp[ht.1]
 have hgl:(Qq P t).ops.length≤maxLen:=(hP.progs _ hgm).len;have hrg:=hr _ hgm;have hUg:=hU _ hgm;have ls:=Zk v;rw[show Wz P (n+1) (Qq P t) v=(Qq P t).ops.any (NK (Wz P n) P v)from rfl];generalize Qq P t=g at *;rw[show P.av=.agg (Xl P)from rfl,Qe v];refine k22.fn (by simp) ?_;simp only[Xl,hgp,ht0,Qf,Qnq,eE,seval]
 let I:Nat→St→Prop:=fun k st=>∃f fr i,st=⟨f,[fr],[]⟩∧k=g.ops.length-i∧i≤g.ops.length∧g.ops.any (NK (Wz P n) P v)=(g.ops.drop i).any (NK (Wz P n) P v)∧CoF P v g i f fr∧∀s∈[12,9,8],(fr s).isRow=false
 refine Qk I _ ⟨_,_,0,rfl,rfl,QmE _,rfl,⟨(by rfl),(by rfl),(by rfl),(by rfl),(by rfl),(by rfl),(by rfl)⟩,Uv rfl rfl rfl⟩ ?_;rintro _ st ⟨f0,fr0,i,rfl,rfl,hil,hany,⟨h30,h50,h180,h190,h200,m30,m50⟩,hrow⟩;refine QL (a:=_) [12,9,8] hrow ?_;intro f fr hf hmm hn;have h3:f 3=.ptr 0 3 0:=by rw[hf,h30]<;>rfl
 have h5:f 5=.ptr 0 5 0:=by rw[hf,h50]<;>rfl
 have h18:f 18=.list (g.ops.map fun o=>AV.agg o.cells):=by rw[hf,h180]<;>rfl
 have h19:f 19=.int .i64 (g.ops.length:Nat):=by rw[hf,h190]<;>rfl
 have h20:f 20=.int .i64 (i:Nat):=by rw[hf,h200]<;>rfl
 have m3':fr 3=.cells (Xl P):=by rw[hmm 3 (by decide),m30]<;>rfl
 have m5':fr 5=.cells (vc v):=by rw[hmm 5 (by decide),m50]<;>rfl
 have n12:=hn 12 (by decide);have n9:=hn 9 (by decide);have n8:=hn 8 (by decide);clear hf hmm hn h30 h50 h180 h190 h200 m30 m50 hrow;have m3:=m3';have m5:=m5';simp only[Xl]at m3;simp only[vc]at m5;simp only[h19,h20,Qa,seval];by_cases hlt:i<g.ops.length
 case neg=>
  have ha:g.ops.any (NK (Wz P n) P v)=false:=by rw[hany,Qm8 (by omega)];rfl
  simp only[QI hlt,ha,QnE,Qa,seval]
 obtain⟨o,hi⟩:∃o,g.ops[i]? = some o:=⟨g.ops[i],Qmv hlt⟩;have hom:=QmJ hi;have hgo:(g.ops.map fun o=>AV.agg o.cells)[i]? = some (.agg [.int .i64 o.num,.str o.name,.str o.alias,.int .i64 o.card,.int .i64 o.key,.int .i64 o.kind,.int .i64 o.target,.int .i64 o.union]):=LH hi;have e1:=Qw i _ hlt hgl;have hdr:g.ops.drop i=o :: g.ops.drop (i+1):=by
  rw[Qne hlt,(Qmu.1 hi).2]
 rw[hdr,List.any_cons]at hany;have hfd:=T6 v o.num (by omega);have hoc:=GV v o.num;have hel:=j46 (QT v o.num) (by omega);have hte:=fun x hx=>QeN (x:=x) hrg hv hom hx
 rw[Qe v]at hfd;rw[show NK (Wz P n) P v o=(match XG v o.num with|none=>o.card==1|some x=>Pn (Wz P n) P o x)from rfl]at hany;have next:∀(f':Fr) (fr':Nat→Ob),g.ops.any (NK (Wz P n) P v)=(g.ops.drop (i+1)).any (NK (Wz P n) P v)→CoF P v g (i+1) f' fr'→(∀s∈[12,9,8],(fr' s).isRow=false)→∃k,k<g.ops.length-i∧I k ⟨f',[fr'],[]⟩:=fun f' fr' a b c=>⟨g.ops.length-(i+1),by omega,f',fr',i+1,rfl,rfl,by omega,a,b,c⟩
 cases hf:XG v o.num with
 |none=>
  rw[hf]at hfd hany;rw[Qe (QT v o.num)]at hfd;simp only[Qnl]at hfd;dsimp only at hany;simp only[QD hlt,Qv,QnY,Qf,hgo,n8,h5,h18,h20,m5,eE,seval];refine aC hfd ?_;cases h1:(o.card==1)
  ·rw[h1,Qoh]at hany;simp only[h1,n9,n8,h20,e1,eE,seval];exact next _ _ hany ⟨(by exact h3),(by exact h5),(by exact h18),(by exact h19),(by rfl),(by exact m3'),(by exact m5')⟩ (by
    intro s hs;simp only[QnS,QoF,or_false]at hs;rcases hs with rfl|rfl|rfl
    ·show(fr 12).isRow=false;rw[n12];rfl
    ·rfl
    ·rfl)
  ·rw[h1,Qog]at hany;simp only[h1,hany,Qod,n9,n8,eE,seval]
 |some x=>
  have hx:=(Xv hf).2;have hte:=hte x hf;rw[hf]at hfd hany;rw[hx]at hfd hel hoc;rw[Qe x]at hfd hel;simp only[Qop]at hfd;dsimp only at hany;simp only[QD hlt,Qv,QnY,Qf,hgo,n8,h5,h18,h20,m5,eE,seval];refine aC hfd ?_;by_cases hk:o.kind=10
  case neg=>
   have bk:(o.kind != 10)=true:=by simp[hk]
   have bk':(o.kind==10)=false:=by simp[hk]
   have he:Pn (Wz P n) P o x=false:=by unfold Pn;rw[bk',Qn1]
   rw[he,Qoh]at hany;simp only[bk,n9,n8,h20,e1,eE,seval];exact next _ _ hany ⟨(by exact h3),(by exact h5),(by exact h18),(by exact h19),(by rfl),(by exact m3'),(by exact m5')⟩ (by
    intro s hs;simp only[QnS,QoF,or_false]at hs;rcases hs with rfl|rfl|rfl
    ·show(fr 12).isRow=false;rw[n12];rfl
    ·rfl
    ·rfl)
  have bk:(o.kind != 10)=false:=by simp[hk]
  obtain⟨l1,l2⟩:=Qbw hte hk (Wz P n);have htt:=(hUg o hom).tgt hk;have hll:(Dp x).length≤1048576:=by
   unfold Dp;have h1:=Jx x;have h2:=J1 x;split
   ·omega
   ·split
    ·rw[Qnq];omega
    ·simp
  simp only[bk,n9,n8,eE,seval];refine aC hel ?_;simp only[Qnq,Qa,seval];refine Qgv P v g i o.target o rfl (Dp x) hll (Wz P n (Qq P o.target)) (fun y hy=>ih o.target y htt (l2 y hy) (by have:=Qbx hy;omega)) _ _ ⟨(by exact h3),(by exact h5),(by exact h18),(by exact h19),(by exact h20),(by exact m3'),(by exact m5')⟩ (by rfl) (by rfl) (by rfl) (by rfl) (by rfl) (by rfl) (by show(fr 12).isRow=false;rw[n12];rfl) _ (fun f fr hf hrow ha=>?_) (fun f fr h6 ha=>?_)
  ·obtain⟨h3,h5,h18,h19,h20,m3,m5⟩:=hf;rw[l1,ha,Qoh]at hany;simp only[h20,e1,Qa,seval];exact next _ _ hany ⟨(by exact h3),(by exact h5),(by exact h18),(by exact h19),(by rfl),m3,m5⟩ hrow
  ·rw[l1,ha,Qog]at hany;simp only[hany,h6,Qod,Qa,seval]

include hP hr in
theorem j22 (hU:Kt P):∀(n:Nat) (t:Int) (v:V),(0≤t∧t<(P.progs.length:Int))→TY P n (Qq P t) v→v.cnt≤1048576→Qi Tryz.prog 22 [P.av,.int .i64 t,v.av] (.bool (!Wz P n (Qq P t) v))
 |0,_,_,_,h,_=>h.elim
 |n+1,t,v,ht,hv,hc=>Qby P hP hr n t ht hU (j22 hU n) v hv hc

end

section
variable (P:PL)(o:PO)

structure LaF (P:PL)(o:PO)(x:V)(f:Fr)(fr:Nat→Ob):Prop where
 f3:f 3=.ptr 0 3 0
 f4:f 4=.ptr 0 4 0
 f5:f 5=.ptr 0 5 0
 m3:fr 3=.cells (Xl P)
 m4:fr 4=.cells o.cells
 m5:fr 5=.cells (vc x)

variable (x:V)(hl:x.cnt≤1048576)(m:V→Bool)
include hl

end

section
variable {M:Nat}(P:PL)(hP:P.ok M)(hr:ZG P)(hU:Kt P)

structure LsF (P:PL)(t:Int)(v:V)(i:Nat)(f:Fr)(fr:Nat→Ob):Prop where
 f1:f 1=.int .i64 t
 f3:f 3=.ptr 0 3 0
 f5:f 5=.ptr 0 5 0
 f7:f 7=.int .i64 (i:Nat)
 m3:fr 3=.cells (Xl P)
 m5:fr 5=.cells (vc v)

end
end Go.Proofs.YtkhpgmeokilhaaaGreatDoor.Va

namespace Go.Proofs.YtkhpgmeokilhaaaGreatDoor.Va
open Go Am Rc Bt Br

def QZ (s:List UInt8)(P:PL):Int:=XW (fun g:PG=>g.name==s) P.progs 0
theorem W7 (s:List UInt8)(P:PL):QZ s P = -1∨(0≤QZ s P∧QZ s P<(P.progs.length:Int)):=by
 unfold QZ;rcases WD (fun g:PG=>g.name==s) P.progs 0 with⟨h,_⟩|⟨k,o,h,h1,_⟩
 ·exact .inl h
 ·have:=(Qmu.1 h1).1;exact .inr ⟨by rw[h];omega,by rw[h];omega⟩

open Up So

section
variable {M:Nat}{P:PL}{m:PG→V→Prop}{nm:PG→V→V}(o:PO)(ho:UO P o)

end

def Yh (v:V):List AV:=[.int .i64 v.kd,.int .u64 (v.bits:Nat),.str v.text,.list (v.list.map V.av),.list (v.pairs.map V.pav),.list (v.slots.map V.sav),.list (v.raws.map R.av)]

section
variable {M:Nat}{P:PL}

end
open Vp Cp

def KO (P:PL)(N:Nat)(s:List UInt8)(b:V)(d:List UInt8)(l:L):V×Nat :=
 if QZ s P<0 then(QM 0 0 [],10)
 else if b.kd≠10 then(QM 0 0 [],12)
 else if (opn d l).2≠0 then(QM 0 0 [],(opn d l).2)
 else if l.dp<1 then(QM 0 0 [],17)
 else match Jz ⟨d,0,d.length,l.dp-1,l.nd,l.tx⟩ 1 with
  |.error e=>(QM 0 0 [],e)
  |.ok c=>match Hj P N (QZ s P) b c with
   |.error e=>(QM 0 0 [],e)
   |.ok (v,_)=>(Zb P N (Qq P (QZ s P)) v,0)
def ov (r:V×Nat):AV:=.tup [r.1.av,.int .i64 (r.2:Nat)]

theorem Ah {d:List UInt8}{l:L}(h:(opn d l).2=0):opn d l=(⟨d,0,d.length,l.dp,l.nd,l.tx⟩,0)∧0≤l.dp∧0≤l.nd:=by
 unfold opn at h ⊢;split at h
 ·cases h
 ·split at h
  ·cases h
  ·rename_i h1 h2;rw[QmC h1,QmC h2];exact⟨rfl,by omega,by omega⟩
theorem C4 {d:List UInt8}{l:L}(hd:d.length≤65536)(h1:1≤l.dp∧l.dp<9223372036854775808)(h2:0≤l.nd∧l.nd<9223372036854775808):CI ⟨d,0,d.length,l.dp-1,l.nd,l.tx⟩ :=
 ⟨hd,by unfold C.sound;simp,h2,by dsimp only;omega⟩

section
variable {M N:Nat}(hM:65536≤M)(P:PL)(hP:P.ok M)(hc:ck P=0)(hN:65536<N)(s:List UInt8)(b:V)(d:List UInt8)(l:L)(hd:d.length≤65536)(hl1:l.dp<9223372036854775808)(hl2:l.nd<9223372036854775808)
 (hbm:b.kd=10→0≤QZ s P→MW P N (Qq P (QZ s P)) b) (hbo:b.ok M) (hbc:b.cnt≤800000)

include hM hP hc hN hd hl1 hl2 hbm hbo hbc in
theorem Po (h:(KO P N s b d l).2=0):(0≤QZ s P∧QZ s P<(P.progs.length:Int))∧∃w,MW P N (Qq P (QZ s P)) w∧w.ok M∧(w.cnt:Int)≤b.cnt+3*d.length∧(KO P N s b d l).1=Zb P N (Qq P (QZ s P)) w:=by
 unfold KO at h ⊢;rcases W7 s P with hx|hx
 ·rw[QmD (by omega)]at h;cases h
 rw[QmC (by omega)]at h ⊢;by_cases hk:b.kd=10
 case neg=>rw[QmD hk]at h;cases h
 rw[QmC (by simp[hk])]at h ⊢;by_cases ho:(opn d l).2=0
 case neg=>rw[QmD ho]at h;exact absurd h ho
 rw[QmC (by simp[ho])]at h ⊢;obtain⟨_,o1,o2⟩:=Ah ho;by_cases hdp:l.dp<1
 ·rw[QmD hdp]at h;cases h
 rw[QmC hdp]at h ⊢;have hci:=C4 (l:=l) hd ⟨by omega,hl1⟩ ⟨o2,hl2⟩;have hlf:=hci.lf;dsimp only at hlf;generalize (⟨d,0,d.length,l.dp-1,l.nd,l.tx⟩:C)=c0 at h hci hlf ⊢;cases hs:Jz c0 1 with
 |error e=>
  rw[hs]at h;exact absurd h (R3 hs)
 |ok c=>
  rw[hs]at h;dsimp only at h ⊢;obtain⟨s1,s2⟩:=ZE hci (by omega) hs;have hcc:=s1.ci hci;have hls:=(s1.left hci).2.2;cases hr:Hj P N (QZ s P) b c with
  |error e=>
   rw[hr]at h;exact absurd h (Ab P N _ _ _ _ hr)
  |ok p=>
   obtain⟨w,c2⟩:=p;obtain⟨q1,q2,q3,q4⟩:=GU (K:=1000000) hM (Qms _) hP (Ku hc) (ZC hc) N (QZ s P) b c hcc (by omega) hx (hbm hk hx.1) hbo (by omega) w c2 hr;have hb2:=(q1.ci hcc).bd;exact⟨hx,w,q2,q3,by omega,rfl⟩

include hM hP hc hN hd hl1 hl2 hbm hbo hbc in
theorem j21:Qi Tryz.prog 21 [P.av,.str s,b.av,.str d,l.av] (ov (KO P N s b d l)):=by
 have hU:=Ku hc;have hr:=ZC hc;have hln:P.progs.length≤maxLen:=hP.len1;have hfi:=Tt P hln s;have hop:=c42 d l;have z0:(QM 0 0 []).av=.agg [.int .i64 0,.int .u64 0,.str [],.list [],.list [],.list [],.list []]:=Qe _;unfold Di at hfi;rw[show XW (fun g:PG=>g.name==s) P.progs 0=QZ s P from rfl]at hfi;rw[show P.av=.agg (Xl P)from rfl]at hfi;unfold KO;rw[show P.av=.agg (Xl P)from rfl,Qe b];simp only[Xl]at hfi;rcases W7 s P with hx|hx
 ·have d1:decide (QZ s P≥0)=false:=Qoo (by omega);rw[d1]at hfi;rw[QmD (by omega)];refine wF Tryz.func21 ?_;simp only[eK,Tryz.f21,seval];simp only[Xl,L.av,eE,seval];refine aC hfi ?_;simp only[ov,z0,eE,seval]<;>rfl
 have d1:decide (QZ s P≥0)=true:=Qou (by omega);rw[d1,QmC (by omega:¬QZ s P<0)]at hfi;rw[QmC (by omega)];by_cases hk:b.kd=10
 case neg=>
  have b1:(b.kd != 10)=true:=by simp[hk]
  rw[QmD hk];refine wF Tryz.func21 ?_;simp only[eK,Tryz.f21,seval];simp only[Xl,L.av,eE,seval];refine aC hfi ?_;simp only[b1,ov,z0,eE,seval]<;>rfl
 have b1:(b.kd != 10)=false:=by simp[hk]
 rw[QmC (by simp[hk])];by_cases ho:(opn d l).2=0
 case neg=>
  rw[QmD ho];generalize opn d l=q at hop ho ⊢;obtain⟨c,e⟩:=q;dsimp only at ho ⊢;simp only[UC,C.av,L.av]at hop;refine wF Tryz.func21 ?_;simp only[eK,Tryz.f21,seval];simp only[Xl,L.av,eE,seval];refine aC hfi ?_;simp only[b1,eE,seval];refine aC hop ?_;simp only[Q2 ho,ov,z0,eE,seval]
 rw[QmC (by simp[ho])];obtain⟨oe,o1,o2⟩:=Ah ho;rw[oe]at hop;simp only[UC,C.av,L.av]at hop;by_cases hdp:l.dp<1
 ·have b2:decide (l.dp<1)=true:=Qou hdp;rw[QmD hdp];refine wF Tryz.func21 ?_;simp only[eK,Tryz.f21,seval];simp only[Xl,L.av,eE,seval];refine aC hfi ?_;simp only[b1,eE,seval];refine aC hop ?_;simp only[b2,ov,z0,eE,seval]<;>rfl
 have b2:decide (l.dp<1)=false:=Qoo hdp;have w1:IntKind.i64.wrap (l.dp-1)=l.dp-1:=by rw[QC];omega
 rw[QmC hdp];have hci:=C4 (l:=l) hd ⟨by omega,hl1⟩ ⟨o2,hl2⟩;have hlf:=hci.lf;dsimp only at hlf;have hrob:∀c:C,Q7 P c=.cells [.list (P.progs.map Qm),.list (P.enums.map QE),.str c.d,.int .i64 c.a,.int .i64 c.e,.int .i64 c.dp,.int .i64 c.nd,.int .i64 c.tx]:=fun _=>rfl
 have p0:∀(fr:Nat→Ob) (o:Ob),Am.put [fr] 0 52 o=[QG fr 52 o]:=fun _ _=>rfl
 refine wF Tryz.func21 ?_;simp only[eK,Tryz.f21,seval];simp only[Xl,L.av,eE,seval];refine aC hfi ?_;simp only[b1,eE,seval];refine aC hop ?_;simp only[b2,w1,eE,seval];refine QJ (CW P ⟨d,0,d.length,l.dp-1,l.nd,l.tx⟩ 0 52 _ (by rfl) 1) (by simp only[Qm3,Qnx,Qa,seval]) ?_;rintro x m1 ⟨rfl,rfl⟩ _;generalize (⟨d,0,d.length,l.dp-1,l.nd,l.tx⟩:C)=c0 at hci hlf ⊢;rcases J2 c0 1 with⟨c,h2,h2'⟩|⟨e,he,h2,h2'⟩
 case inr=>
  rw[h2,h2'];simp only[p0,Q2 he,ov,z0,eE,seval]
 rw[h2,h2'];obtain⟨s1,s2⟩:=ZE hci (by omega) h2;have hcc:=s1.ci hci;have hls:=(s1.left hci).2.2;dsimp only;simp only[p0,eE,seval];have hrc:=fun(m:Qh) (hm:0<m.length) (h:Am.Qc m 0 52=Q7 P c)=>QeJ (K:=1000000) hM (Qms _) hP hU hr N 0 52 m (QZ s P) b c hm h hcc (by omega) hx (hbm hk hx.1) hbo (by omega)
 have hro:=GU (K:=1000000) hM (Qms _) hP hU hr N (QZ s P) b c hcc (by omega) hx (hbm hk hx.1) hbo (by omega);rw[Qe b]at hrc;refine QJ (hrc _ (by simp) (by rfl)) (by simp only[Qm3,Qnx,Qa,seval]) ?_;intro x m1 hx1 _;cases hr2:Hj P N (QZ s P) b c with
 |error e=>
  rw[hr2]at hx1;obtain⟨he,w,c',rfl,rfl⟩:=hx1;dsimp only;simp only[p0,Q2 he,Qe w,ov,z0,eE,seval]
 |ok p=>
  obtain⟨w,c2⟩:=p;rw[hr2]at hx1;obtain⟨rfl,rfl⟩:=hx1;obtain⟨q1,q2,q3,q4⟩:=hro w c2 hr2;have hb2:=(q1.ci hcc).bd;have hnm:=v26 hP hU hr (DW hc) N (QZ s P) _ (YU hx).2 hx.1 w q3 (by omega) q2;dsimp only;generalize Zb P N (Qq P (QZ s P)) w=u at hnm ⊢;rw[show P.av=.agg (Xl P)from rfl,Qe w,Qe u]at hnm;simp only[Xl]at hnm;simp only[p0,Qe w,eE,seval];refine aC hnm ?_;simp only[ov,Qe u,eE,seval]<;>rfl

end

section
variable {M N:Nat}(hM:65536≤M)(P:PL)(hP:P.ok M)(hc:ck P=0)(hN:65536<N)(s:List UInt8)(b:V)(d:List UInt8)(l:L)(hd:d.length≤65536)(hl1:l.dp<9223372036854775808)(hl2:l.nd<9223372036854775808)
 (hbm:b.kd=10→0≤QZ s P→MW P N (Qq P (QZ s P)) b) (hbo:b.ok M) (hbc:b.cnt≤800000)

end

def Ui (P:PL)(N:Nat)(s d:List UInt8)(l:L):V×Nat :=
 if (KO P N s (QM 10 0 []) d l).2≠0 then(QM 0 0 [],(KO P N s (QM 10 0 []) d l).2)
 else if Wz P N (Qq P (QZ s P)) (KO P N s (QM 10 0 []) d l).1=true then(QM 0 0 [],14)
 else((KO P N s (QM 10 0 []) d l).1,0)

section
variable {M N:Nat}(hM:65536≤M)(P:PL)(hP:P.ok M)(hc:ck P=0)(hN:65536<N)(s:List UInt8)(d:List UInt8)(l:L)(hd:d.length≤65536)(hl1:l.dp<9223372036854775808)(hl2:l.nd<9223372036854775808)

include hM hP hc hN hd hl1 hl2 in
theorem j9:Qi Tryz.prog 9 [P.av,.str s,.str d,l.av] (ov (Ui P N s d l)):=by
 have hon:=j21 (N:=N) hM P hP hc hN s (QM 10 0 []) d l hd hl1 hl2 (fun _ _=>ZB (by omega)) (Zu rfl (by decide) (QmE _)) (by rw[Xu];omega);have hok:=Po (N:=N) hM P hP hc hN s (QM 10 0 []) d l hd hl1 hl2 (fun _ _=>ZB (by omega)) (Zu rfl (by decide) (QmE _)) (by rw[Xu];omega);have hfi:=Tt P hP.len1 s;have z0:(QM 0 0 []).av=.agg [.int .i64 0,.int .u64 0,.str [],.list [],.list [],.list [],.list []]:=Qe _;have z10:(QM 10 0 []).av=.agg [.int .i64 10,.int .u64 0,.str [],.list [],.list [],.list [],.list []]:=Qe _;have hcp:=fun(h:(0≤QZ s P∧QZ s P<(P.progs.length:Int))) v hv hcv=>j22 P hP (ZC hc) (Ku hc) N (QZ s P) v h hv hcv
 unfold Ui;generalize KO P N s (QM 10 0 []) d l=q at hon hok ⊢;obtain⟨v,e⟩:=q;unfold Di at hfi;rw[show XW (fun g:PG=>g.name==s) P.progs 0=QZ s P from rfl]at hfi;rw[show P.av=.agg (Xl P)from rfl]at hfi;rw[show P.av=.agg (Xl P)from rfl,z10]at hon;rw[show P.av=.agg (Xl P)from rfl];simp only[ov,Qe v,Xl,L.av]at hon;simp only[Xl]at hfi;dsimp only at hok ⊢;refine wF Tryz.func9 ?_;simp only[eK,Tryz.f9,seval];simp only[Xl,L.av,eE,seval];refine aC hon ?_;by_cases he:e=0
 case neg=>
  rw[QmD he];simp only[Q2 he,ov,z0,eE,seval]
 subst he;obtain⟨hx,w,w1,w2,w3,w4⟩:=hok rfl;have d1:decide (QZ s P≥0)=true:=Qou (by omega);rw[d1,QmC (by omega:¬QZ s P<0)]at hfi;have hcn:=Yy (ZC hc) N (Qq P (QZ s P)) (W4 (ZC hc) _) w;rw[Xu]at w3;have hcm:=hcp hx v (by rw[w4];exact Ae (Ku hc) (ZC hc) N _ (YU hx).1 w w1) (by rw[w4];omega);rw[show P.av=.agg (Xl P)from rfl,Qe v]at hcm;simp only[Xl]at hcm;rw[QmC (by simp)];simp only[eE,seval];refine aC hfi ?_;simp only[eE,seval];refine aC hcm ?_;cases hl:Wz P N (Qq P (QZ s P)) v
 ·rw[QmC (by simp)];simp only[QnE,Qod,ov,Qe v,eE,seval]<;>rfl
 ·rw[QmD rfl];simp only[QnE,Qod,ov,z0,eE,seval]<;>rfl

end

def PT (c:C):Int:=c.nd-3*c.left
structure Rich (c:C):Prop where
 ci:CI c
 tx:c.left≤c.tx
 pt:0≤PT c
def NL {α:Type}(c:C):Rd α→Prop
 |.error e=>e≠3
 |.ok (_,d)=>Af c d∧PT c≤PT d
def R6 (rec:Int→V→C→Rd V):Prop:=∀t v c,Rich c→NL c (rec t v c)
theorem Ys {c d:C}(hc:CI c)(ht:c.left≤c.tx)(a:Af c d):d.left≤d.tx:=by
 have h1:=(a.left hc).2.2;obtain⟨_,_,_,e,_⟩:=a.eqs;rw[e];omega
theorem Rich.nx {c d:C}(h:Rich c)(a:Af c d)(hp:0≤PT d):Rich d:=by
 exact⟨a.ci h.ci,Ys h.ci h.tx a,hp⟩

theorem LJ:∀(s:List UInt8) (k u:Nat),(Ke k u s).2.2≠3
 | [],_,_=>by unfold Ke;simp
 |b :: t,k,u=>by
  unfold Ke;have:=LJ t
  repeat' split
  all_goals first|exact this _ _|simp
theorem YW (c:C):c.varint.2.2≠3:=by
 unfold C.varint;dsimp only;split
 ·simp
 ·exact LJ _ _ _
theorem Uj (c:C):c.varint.2.1.nd=c.nd:=by unfold C.varint;dsimp only;split<;>rfl
theorem Bl {c:C}(hc:CI c):match Jt c with
  |.error e=>e≠3
  |.ok (n,d)=>As c d∧(n:Int)≤d.left∧PT c+3≤PT d:=by
 cases h:Jt c with
 |error e=>
  dsimp only;unfold Jt at h;split at h
  ·split at h
   ·cases h;simp
   ·cases h
  ·cases h;exact YW c
 |ok r=>
  obtain⟨n,d⟩:=r;obtain⟨h1,h2⟩:=Wo hc h;have h3:d.nd=c.nd:=by
   unfold Jt at h;split at h
   ·split at h
    ·cases h
    ·cases h;exact Uj c
   ·cases h
  have:=h1.lt hc;exact⟨h1,h2,by unfold PT;omega⟩
theorem C5 {c:C}(hc:CI c):(Qt c).2.2.2≠3∧((Qt c).2.2.2=0→As c (Qt c).2.2.1∧(Qt c).2.2.1.nd=c.nd∧PT c+3≤PT (Qt c).2.2.1):=by
 have h3:(Qt c).2.2.1.nd=c.nd:=by
  unfold Qt;dsimp only
  repeat' split
  all_goals first|rfl|exact Uj c
 refine⟨?_,fun h=>?_⟩
 ·unfold Qt;dsimp only
  repeat' split
  all_goals first|exact YW c|simp
 ·have h1:=(UJ hc h).1;have:=h1.lt hc;exact⟨h1,h3,by unfold PT;omega⟩
theorem Gt {c:C}{n:Int}(hc:CI c)(hn:0≤n)(h:n≤c.nd):∃d,Jz c n=.ok d∧Af c d∧PT d=PT c-n∧d.left=c.left:=by
 have hs:(c.spend n).2=0:=by unfold C.spend;rw[QmC (by omega),QmC (by omega)]
 have e:Jz c n=.ok (c.spend n).1:=by unfold Jz;rw[QmD hs]
 obtain⟨a1,a2⟩:=ZE hc hn e;have hl:=(a1.left hc).1;have:=hc.nd;have hd:(c.spend n).1.nd=c.nd-n:=by
  unfold C.spend;rw[QmC (by omega),QmC (by omega)];show IntKind.i64.wrap (c.nd-n)=_;rw[QC];omega
 exact⟨_,e,a1,by unfold PT;omega,by omega⟩
theorem Ai {w:Int}{c:C}(hc:CI c)(ht:c.left≤c.tx):match JK w c with
  |.error e=>e≠3
  |.ok (_,d)=>As c d∧PT c+3≤PT d:=by
 cases h:JK w c with
 |error e=>
  dsimp only;unfold JK at h;split at h
  ·have hl:=Bl hc;split at h
   ·rename_i e' h1;cases h;rw[h1]at hl;exact hl
   ·rename_i n d h1;rw[h1]at hl;split at h
    ·cases h
    ·cases h;have htx:=Ys hc ht hl.1.1;have:=hl.2.1;unfold text;rw[QmC (by omega),QmC (by omega),QmC (by omega)];simp
  ·split at h
   ·split at h
    ·cases h
    ·cases h;unfold C.fixed;split<;>simp
   ·split at h
    ·cases h
    ·cases h;exact YW c
 |ok r=>
  obtain⟨f,d⟩:=r;have h1:=(Gk hc h).1;have h3:d.nd=c.nd:=by
   unfold JK at h;split at h
   ·split at h
    ·cases h
    ·rename_i n i hl;have:i.nd=c.nd:=by
      unfold Jt at hl;split at hl
      ·split at hl
       ·cases hl
       ·cases hl;exact Uj c
      ·cases hl
     split at h
     ·cases h;rw[←this];unfold text
      repeat' split
      all_goals rfl
     ·cases h
   ·split at h
    ·split at h
     ·cases h;unfold C.fixed;split<;>rfl
     ·cases h
    ·split at h
     ·cases h;exact Uj c
     ·cases h
  have:=h1.lt hc;exact⟨h1,by unfold PT;omega⟩
theorem LK (P:PL)(k t:Int)(f:R):(XT P k t f).2≠3:=by
 unfold XT
 repeat' split
 all_goals simp
theorem GX {α:Type}{c d:C}{r:Rd α}(hc:CI c)(a:Af c d)(hp:PT c≤PT d)(h:NL d r):NL c r:=by
 cases r with
 |error e=>exact h
 |ok x=>exact⟨a.trans h.1 hc,Int.le_trans hp h.2⟩

section
variable {P:PL}{g:PG}{o:PO}
theorem Pp {v:V}{c:C}(hr:Rich c)(h1:0<c.left∨1≤PT c):NL c (Wn P g v o c):=by
 have hc:=hr.ci;have hnd:1≤c.nd:=by
  have:=hc.bd;have:=hr.pt;unfold PT at *;omega
 obtain⟨c1,e1,a1,p1,l1⟩:=Gt hc (by decide:(0:Int)≤1) hnd;unfold Wn;rw[e1];dsimp only;have hx:=Ai (w:=wk o.kind) (a1.ci hc) (Ys hc hr.tx a1);cases h2:JK (wk o.kind) c1 with
 |error e=>rw[h2]at hx;exact hx
 |ok r=>
  obtain⟨f,d⟩:=r;rw[h2]at hx;obtain⟨b1,b2⟩:=hx;have a2:=a1.trans b1.1 hc;have hok:∀w:V,NL c (.ok (w,d):Rd V):=fun w=>⟨a2,by omega⟩
  dsimp only;split
  ·exact hok _
  split
  ·split
   ·split
    ·exact hok _
    ·have hnd2:1≤d.nd:=by
      have:=(a2.ci hc).bd;have:=hr.pt;unfold PT at *;omega
     obtain⟨d1,e2,a3,p2,l2⟩:=Gt (a2.ci hc) (by decide:(0:Int)≤1) hnd2;rw[e2];exact⟨a2.trans a3 hc,by omega⟩
   ·exact hok _
  ·exact LK P _ _ _
theorem C6:∀(k:Nat) {v:V} {c:C},Rich c→NL c (J8 P g o k v c)
 |0,v,c,hr=>⟨Af.refl hr.ci,QnV _⟩
 |k+1,v,c,hr=>by
  rw[J8];split
  ·rename_i hl;have h1:=Pp (P:=P) (g:=g) (o:=o) (v:=v) hr (.inl hl);cases h2:Wn P g v o c with
   |error e=>rw[h2]at h1;exact h1
   |ok r=>
    rw[h2]at h1;have hp:=hr.pt;exact GX hr.ci h1.1 h1.2 (C6 k (hr.nx h1.1 (by have:=h1.2;omega)))
  ·exact⟨Af.refl hr.ci,QnV _⟩
theorem Gu {c:C}{n:Nat}(hr:Rich c)(hn:(n:Int)≤c.left):Rich (part c n)∧PT c≤PT (part c n)∧(part c n).nd=c.nd:=by
 obtain⟨e1,e2,e3⟩:=JD hr.ci hn;have hp:=hr.pt;have ht:=hr.tx;have e4:(part c n).nd=c.nd:=rfl;have e5:(part c n).tx=c.tx:=rfl;have:PT c≤PT (part c n):=by unfold PT;omega
 exact⟨⟨e2,by rw[e5];omega,by omega⟩,this,e4⟩
theorem NM {c i:C}{n:Nat}{k:Int}(hc:CI c)(hn:(n:Int)≤c.left)(hj:Af (part c n) i)(h:PT (part c n)-k≤PT i):Af c (ZO c i)∧PT c-k≤PT (ZO c i):=by
 obtain⟨b1,b2⟩:=Gl hc hn hj;have h3:=(JD hc hn).2.2;have h4:=(hj.ci (JD hc hn).2.1).bd;have e4:(part c n).nd=c.nd:=rfl;have e5:(ZO c i).nd=i.nd:=rfl;refine⟨b1,?_⟩;unfold PT at *;omega
theorem Aj {v:V}{c d:C}{q:Nat}{k:Int}(hr:Rich c)(hq:(q:Int)≤c.left)(hd:Af (part c q) d)(hk:PT (part c q)-k≤PT d)(h0:0≤PT d):match JA P g v o c d with
  |.error e=>e≠3
  |.ok (_,e)=>Af c e∧PT c-k≤PT e:=by
 have hp:=JD hr.ci hq;have hrd:Rich d:=⟨hd.ci hp.2.1,Ys hp.2.1 (Gu hr hq).1.tx hd,h0⟩;have h1:=C6 (P:=P) (g:=g) (o:=o) d.left.toNat (v:=v) hrd;unfold JA;cases h2:J8 P g o d.left.toNat v d with
 |error e=>rw[h2]at h1;exact h1
 |ok r=>
  rw[h2]at h1;exact NM hr.ci hq (hd.trans h1.1 hp.2.1) (Int.le_trans hk h1.2)
theorem EP {v:V}{c:C}(hr:Rich c):NL c (WT P g v o c):=by
 have hc:=hr.ci;have hp:=hr.pt;unfold WT;have hl:=Bl hc;cases h1:Jt c with
 |error e=>rw[h1]at hl;exact hl
 |ok r=>
  obtain⟨q,c1⟩:=r;rw[h1]at hl;obtain⟨a1,a2,a3⟩:=hl;have hr1:=hr.nx a1.1 (by omega);obtain⟨p1,p2,p3⟩:=Gu hr1 a2;dsimp only;split
  ·rename_i hy;obtain⟨y1,_⟩:=BW p1.ci hy;have y2:(Zf (part c1 q)).2.1.nd=(part c1 q).nd:=by unfold Zf;split<;>rfl
   have y3:=y1.lt p1.ci;have y4:PT (part c1 q)+3≤PT (Zf (part c1 q)).2.1:=by unfold PT;omega
   have fin:∀(w:V) (d:C),Af (part c1 q) d→PT (part c1 q)+2≤PT d→NL c (JA P g w o c1 d):=fun w d ad pd=>by
    have:=Aj (P:=P) (g:=g) (o:=o) (v:=w) (k:=0) hr1 a2 ad (by omega) (by have:=p1.pt;omega);cases h2:JA P g w o c1 d with
    |error e=>rw[h2]at this;exact this
    |ok r=>rw[h2]at this;exact⟨a1.1.trans this.1 hc,by have:=this.2;omega⟩
   split
   ·split
    ·exact fin _ _ y1.1 (by omega)
    ·have hnd:1≤(Zf (part c1 q)).2.1.nd:=by
      have:=(y1.ci p1.ci).bd;have:=p1.pt;unfold PT at *;omega
     obtain⟨i,e1,b1,b2,b3⟩:=Gt (y1.ci p1.ci) (by decide:(0:Int)≤1) hnd;rw[e1];exact fin _ _ (y1.1.trans b1 p1.ci) (by omega)
   ·show(13:Nat)≠3;decide
  ·rename_i hy;show(Zf (part c1 q)).2.2≠3;unfold Zf;split<;>simp

variable {rec:Int→V→C→Rd V}(hrec:R6 rec)
include hrec
theorem Ak {t:Int}{b:V}{k:Int}{c:C}(hr:Rich c)(hk:0≤k∧k≤3):NL c (Wy rec t b k c):=by
 have hc:=hr.ci;have hp:=hr.pt;unfold Wy;have hl:=Bl hc;cases h1:Jt c with
 |error e=>rw[h1]at hl;exact hl
 |ok r=>
  obtain⟨n,d⟩:=r;rw[h1]at hl;obtain⟨a1,a2,a3⟩:=hl;have hd:=a1.ci hc;have hdb:=hd.bd;dsimp only;split
  ·rename_i h0;obtain⟨e1,e2,e3⟩:=DP hd a2 h0;have en:(enter d n).1.nd=d.nd:=by rw[e1]
   have et:(enter d n).1.tx=d.tx:=by rw[e1]
   have htx:=Ys hc hr.tx a1.1;obtain⟨i,s1,s2,s3,s4⟩:=Gt e2 hk.1 (by unfold PT at *;omega);rw[s1];dsimp only;have hi:Rich i:=⟨s2.ci e2,Ys e2 (by rw[et];omega) s2,by unfold PT at *;omega⟩;have h3:=hrec t b i hi;cases h2:rec t b i with
   |error e=>rw[h2]at h3;exact h3
   |ok r=>
    obtain⟨x,j⟩:=r;rw[h2]at h3;obtain⟨r1,r2⟩:=h3;have hje:i.e=d.a+n∧i.nd≤d.nd:=by
     obtain⟨_,f2,_⟩:=s2.eqs;have f3:=s2.nd;rw[e1]at f2 f3;exact⟨f2,f3.2⟩
    obtain⟨l1,l2⟩:=Cm hd a2 hje r1;have hjb:=(r1.ci hi.ci).bd;have ln:(Wl d j).nd=j.nd:=by
     obtain⟨f1,f2,f3,f4,l,f5,hl'⟩:=r1.eqs;have:=hd.pos;have:=hd.lf;have:=r1.nd;unfold Wl;rw[QmC (by rw[hd.snd];simp;omega)]
    refine⟨a1.1.trans l1 hc,?_⟩;unfold PT at *;omega
  ·rename_i h0;show(enter d n).2≠3;unfold enter
   repeat' split
   all_goals simp
theorem EQ {v:V}{c:C}(hr:Rich c):NL c (Ky rec g v o c):=by
 have key:∀(t:Int) (b:V) (k:Int) (w:V→V),0≤k∧k≤3→NL c (match Wy rec t b k c with
   |.error e=>.error e
   |.ok (x,d)=>.ok (w x,d):Rd V):=fun t b k w hk=>by
  have h:=Ak hrec (t:=t) (b:=b) hr hk;cases h2:Wy rec t b k c with
  |error e=>rw[h2]at h;exact h
  |ok r=>rw[h2]at h;exact h
 unfold Ky;split
 ·exact key _ _ _ (fun x=>X6 g v o (Xw ((QT v o.num).list++[x]))) (by split<;>decide)
 ·exact key _ _ _ (fun x=>X6 g v o x) (by decide)
theorem ER {k t w:Int}{c:C}(hr:Rich c):NL c (JL P rec k t w c):=by
 unfold JL;split
 ·split
  ·exact Ak hrec hr (by decide)
  ·have h:=Ai (w:=w) hr.ci hr.tx;cases h2:JK w c with
   |error e=>rw[h2]at h;exact h
   |ok r=>
    obtain⟨f,d⟩:=r;rw[h2]at h;dsimp only;split
    ·exact⟨h.1.1,by have:=h.2;omega⟩
    ·exact LK P _ _ _
 ·show(13:Nat)≠3;decide
theorem Pq:∀(n:Nat) (x:V×V) (a b:Bool) (c:C),Rich c→NL c (JY P rec o n x a b c)
 |0,x,a,b,c,hr=>⟨Af.refl hr.ci,QnV _⟩
 |n+1,x,a,b,c,hr=>by
  have hp:=hr.pt;obtain⟨t1,t2⟩:=C5 hr.ci;have key:∀(k t:Int) (w:V→V×V) (a b:Bool),(Qt c).2.2.2=0→NL c (match JL P rec k t (Qt c).2.1 (Qt c).2.2.1 with
    |.error e=>.error e
    |.ok (y,d)=>JY P rec o n (w y) a b d):=fun k t w a b h0=>by
   obtain⟨a1,_,a3⟩:=t2 h0;have hr1:=hr.nx a1.1 (by omega);have h:=ER hrec (P:=P) (k:=k) (t:=t) (w:=(Qt c).2.1) hr1;refine GX hr.ci a1.1 (by omega) ?_;cases h2:JL P rec k t (Qt c).2.1 (Qt c).2.2.1 with
   |error e=>rw[h2]at h;exact h
   |ok r=>
    obtain⟨y,d⟩:=r;rw[h2]at h;exact GX hr1.ci h.1 h.2 (Pq n (w y) a b d (hr1.nx h.1 (by have:=h.2;have:=hr1.pt;omega)))
  rw[JY];split
  ·split
   ·rename_i h0;split
    ·split
     ·show(9:Nat)≠3;decide
     ·exact key _ _ (fun y=>(y,x.2)) true b h0
    ·split
     ·split
      ·show(9:Nat)≠3;decide
      ·exact key _ _ (fun y=>(x.1,y)) a true h0
     ·show(18:Nat)≠3;decide
   ·exact t1
  ·exact⟨Af.refl hr.ci,QnV _⟩
theorem Al {v:V}{c:C}(hr:Rich c):NL c (JZ P rec g v o c):=by
 have hc:=hr.ci;have hp:=hr.pt;unfold JZ;have hl:=Bl hc;cases h1:Jt c with
 |error e=>rw[h1]at hl;exact hl
 |ok r=>
  obtain⟨n,d⟩:=r;rw[h1]at hl;obtain⟨a1,a2,a3⟩:=hl;have hr1:=hr.nx a1.1 (by omega);obtain⟨p1,p2,p3⟩:=Gu hr1 a2;obtain⟨k,hk,hk3⟩:∃k:Int,(if (XG v o.num).isSome=true then 2 else 3)=k∧0≤k∧k≤3:=⟨_,rfl,by split<;>decide⟩;rw[hk];obtain⟨i,s1,s2,s3,s4⟩:=Gt p1.ci hk3.1 (by have:=p1.ci.bd;unfold PT at *;omega);dsimp only;rw[s1];dsimp only;have hi:Rich i:=⟨s2.ci p1.ci,Ys p1.ci p1.tx s2,by omega⟩;have h3:=Pq hrec (P:=P) (o:=o) i.left.toNat (QM o.key 0 [],QM o.kind 0 []) false false i hi;cases h2:JY P rec o i.left.toNat (QM o.key 0 [],QM o.kind 0 []) false false i with
  |error e=>rw[h2]at h3;exact h3
  |ok r=>
   obtain⟨x,j⟩:=r;rw[h2]at h3;obtain⟨b1,b2⟩:=NM (k:=k) hr1.ci a2 (s2.trans h3.1 p1.ci) (by have:=h3.2;omega);exact⟨a1.1.trans b1 hc,by omega⟩
theorem An {v:V}{w:Int}{c:C}(hr:Rich c)(h3:3≤PT c):NL c (Jj P rec g v o w c):=by
 unfold Jj;split
 ·split
  ·exact Al hrec hr
  ·show(13:Nat)≠3;decide
 ·split
  ·exact EP hr
  ·split
   ·split
    ·exact EQ hrec hr
    ·exact Pp hr (.inr (by omega))
   ·show(13:Nat)≠3;decide
omit hrec
theorem QeO {c:C}(hr:Rich c)(hl:0<c.left):if (Xo c).2.2=0 then Af c (Xo c).2.1∧PT c≤PT (Xo c).2.1 else(Xo c).2.2≠3:=by
 have hc:=hr.ci;have hcb:=hc.bd;have hp:=hr.pt;obtain⟨t1,t2⟩:=C5 hc;split
 ·rename_i h0;obtain⟨a1,_⟩:=Cn hc h0;refine⟨a1.1,?_⟩;have hnd:c.nd-1≤(Xo c).2.1.nd:=by
   unfold Xo at h0 ⊢;dsimp only at h0 ⊢;split at h0
   ·rename_i ht;rw[QmD ht];obtain⟨b1,b2,b3⟩:=t2 ht;have hdb:=(b1.ci hc).bd;have hs:((Qt c).2.2.1.spend 1).2=0∧((Qt c).2.2.1.spend 1).1.nd=c.nd-1:=by
     have:=(b1.ci hc).nd;unfold C.spend;rw[QmC (by omega),QmC (by unfold PT at *;omega)];exact⟨rfl,by show IntKind.i64.wrap ((Qt c).2.2.1.nd-1)=_;rw[QC,b2];omega⟩
    rw[QmD hs.1]at h0 ⊢;split at h0
    ·rename_i hk;rw[QmD hk,M8,hs.2];exact QnV _
    ·rename_i hk;exact absurd h0 hk
   ·rename_i ht;exact absurd h0 ht
  have:=a1.lt hc;unfold PT at *;omega
 ·rename_i h0;unfold Xo at h0 ⊢;dsimp only at h0 ⊢;split
  ·rename_i ht;obtain⟨b1,b2,b3⟩:=t2 ht;have hd:=b1.ci hc;have hdb:=hd.bd;have hs:((Qt c).2.2.1.spend 1).2=0:=by
    unfold C.spend;rw[QmC (by omega),QmC (by unfold PT at *;omega)]
   have e1:Jz (Qt c).2.2.1 1=.ok ((Qt c).2.2.1.spend 1).1:=by unfold Jz;rw[QmD hs]
   obtain⟨s1,_⟩:=ZE hd (by decide) e1;have hi:=s1.ci hd;have htx:=Ys hd (Ys hc hr.tx b1.1) s1;have hib:=hi.bd;rw[QmD hs];split
   ·rename_i hk;rw[hk];decide
   ·dsimp only;generalize ((Qt c).2.2.1.spend 1).1=i at *;unfold ZT;split
    ·show i.fixed.2.2≠3;unfold C.fixed;split<;>simp
    ·split
     ·exact YW i
     ·show(Wx i _).2.2≠3;unfold Wx;dsimp only;split
      ·rename_i hv;have hvl:=(J0 hi hv).1.lt hi;split
       ·simp
       ·rename_i hle;rw[QmC]
        ·simp
        ·split<;>omega
      ·exact YW i
  ·exact t1
theorem DY {P:PL}{rec:Int→V→C→Rd V}(hrec:R6 rec)(t:Int):∀(k:Nat) (v:V) (c:C),Rich c→NL c (Z4 P rec t k v c)
 |0,v,c,hr=>⟨Af.refl hr.ci,QnV _⟩
 |k+1,v,c,hr=>by
  have hp:=hr.pt;obtain⟨t1,t2⟩:=C5 hr.ci;rw[Z4];split
  ·rename_i hl;split
   ·rename_i h0;obtain⟨a1,_,a3⟩:=t2 h0;split
    ·have hn:=QeO hr hl;split
     ·rename_i h1;rw[QmD h1]at hn;exact GX hr.ci hn.1 hn.2 (DY hrec t k _ _ (hr.nx hn.1 (by have:=hn.2;omega)))
     ·rename_i h1;rw[QmC h1]at hn;exact hn
    ·rename_i o ho;have hr1:=hr.nx a1.1 (by omega);have h:=An hrec (P:=P) (g:=Qq P t) (o:=o) (v:=v) (w:=(Qt c).2.1) hr1 (by omega);refine GX hr.ci a1.1 (by omega) ?_;cases h2:Jj P rec (Qq P t) v o (Qt c).2.1 (Qt c).2.2.1 with
     |error e=>rw[h2]at h;exact h
     |ok r=>
      obtain⟨w,d⟩:=r;rw[h2]at h;exact GX hr1.ci h.1 h.2 (DY hrec t k w d (hr1.nx h.1 (by have:=h.2;have:=hr1.pt;omega)))
   ·exact t1
  ·exact⟨Af.refl hr.ci,QnV _⟩
theorem Pr (P:PL):∀n,R6 (Hj P n)
 |0,_,_,_,hr=>⟨Af.refl hr.ci,QnV _⟩
 |n+1,t,v,c,hr=>DY (Pr P n) t _ v c hr
end

def Xm:L:=⟨1073741824,65536,1073741824,1073741824⟩

theorem ES {P:PL}{N:Nat}{s s' d:List UInt8}{l:L}(h:QZ s P=QZ s' P):Ui P N s d l=Ui P N s' d l:=by
 have e:∀b,KO P N s b d l=KO P N s' b d l:=fun b=>by unfold KO;rw[h]
 unfold Ui;rw[e,h]

theorem Qbz {P:PL}{N:Nat}{s d:List UInt8}{b:V}(hd:d.length≤65536):(KO P N s b d Xm).2≠3:=by
 have ho:opn d Xm=(⟨d,0,d.length,65536,1073741824,1073741824⟩,0):=by
  unfold opn Xm;rw[QmC (by simp),QmC (by dsimp only;omega)]
 unfold KO;rw[ho];split
 ·simp
 split
 ·simp
 split
 ·simp
 split
 ·simp
 have hci:=C4 (l:=Xm) hd (by decide) (by decide);have hlf:=hci.lf;have hs:Jz (⟨d,0,d.length,Xm.dp-1,Xm.nd,Xm.tx⟩:C) 1=.ok ⟨d,0,d.length,Xm.dp-1,Xm.nd-1,Xm.tx⟩:=by
  unfold Jz C.spend Xm;rfl
 obtain⟨s1,_⟩:=ZE hci (by omega) hs;have hr:Rich (⟨d,0,d.length,Xm.dp-1,Xm.nd-1,Xm.tx⟩:C):=by
  have hcc:=s1.ci hci;have hb:=hcc.bd;refine⟨hcc,?_,?_⟩
  ·refine Int.le_trans hb.2 ?_;show(65536:Int)≤1073741824;omega
  ·unfold PT;show(0:Int)≤1073741824-1-_;omega
 rw[hs];have hn:=Pr P N (QZ s P) b _ hr;dsimp only;cases h:Hj P N (QZ s P) b (⟨d,0,d.length,Xm.dp-1,Xm.nd-1,Xm.tx⟩:C)with
 |error e=>rw[h]at hn;exact hn
 |ok r=>obtain⟨w,c⟩:=r;simp

theorem QeP {P:PL}{N:Nat}{s d:List UInt8}(hd:d.length≤65536):(Ui P N s d Xm).2≠3:=by
 have h:=Qbz (P:=P) (N:=N) (s:=s) (b:=QM 10 0 []) hd;unfold Ui;split
 ·exact h
 split<;>simp

section
variable {M N:Nat}(hM:65536≤M)(P:PL)(hP:P.ok M)(hc:ck P=0)(hN:65536<N)(s:List UInt8)(d:List UInt8)(hd:d.length≤65536)
include hM hP hc hN hd in
theorem QbA:(Ui P N s d Xm).1.ok M:=by
 have h0:=Po (N:=N) hM P hP hc hN s (QM 10 0 []) d Xm hd (by decide) (by decide) (fun _ _=>ZB (by omega)) (Zu rfl (by decide) (QmE _)) (by rw[Xu];omega);have hz:(QM 0 0 []).ok M:=Zu rfl (by decide) (QmE _);unfold Ui;split
 ·exact hz
 ·rename_i h;split
  ·exact hz
  ·obtain⟨_,w,_,w2,_,w4⟩:=h0 (by simpa using h);rw[w4];exact Bk (R5 hP (C3 hc)) N _ w w2
end
end Go.Proofs.YtkhpgmeokilhaaaGreatDoor.Va

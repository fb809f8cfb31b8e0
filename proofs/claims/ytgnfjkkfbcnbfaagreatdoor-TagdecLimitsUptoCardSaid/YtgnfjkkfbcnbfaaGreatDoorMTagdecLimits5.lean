/- Parts of the proof, in order. -/
import Derived.Test.YtgnfjkkfbcnbfaaGreatDoorMTagdecLimits4
set_option linter.unusedSimpArgs false
namespace Go.Proofs.YtgnfjkkfbcnbfaaGreatDoor.Va
open Go Am Rc Bt Br Up So Vp Cp
theorem zq(P:PL):P.av=.agg [.list (P.progs.map Qn),.list (P.enums.map QC)]:=rfl
theorem key_op{k:Int}:Qv ⟨0,[],[],0,0,k,-1,0⟩=.agg [.int .i64 0,.str [],.str [],.int .i64 0,.int .i64 0,.int .i64 k,.int .i64 (-1),.int .i64 0]:=rfl
def Xh (P:PL)(c:C):Ob:=.cells [.list (P.progs.map Qn),.list (P.enums.map QC),.str c.d,.int .i64 c.a,.int .i64 c.e,.int .i64 c.dp,.int .i64 c.nd,.int .i64 c.tx]
def Rt (P:PL)(l s:Nat)(m:Qj){α:Type}(f:α→AV)(r:Rd α)(x:AV)(m1:Qj):Prop :=
 match r with
 |.ok (a,d)=>x=.tup [f a,.int .i64 0]∧m1=Am.put m l s (Xh P d)
 |.error e=>e≠0∧∃a d,x=.tup [f a,.int .i64 (e:Nat)]∧m1=Am.put m l s (Xh P d)
theorem put_put {m:Qj}{l s:Nat}{o q:Ob}:Am.put (Am.put m l s o) l s q=Am.put m l s q:=by
 induction m generalizing l with
 |nil=>rfl
 |cons fr m ih=>
  cases l with
  |zero=>
   show QI (QI fr s o) s q :: m=QI fr s q :: m;rw[Da]
  |succ l=>exact congrArg (fr :: ·) ih
theorem put_self {m:Qj}{l s:Nat}{o:Ob}(hm:l<m.length)(h:Am.Qd m l s=o):Am.put m l s o=m:=by
 induction m generalizing l with
 |nil=>rfl
 |cons fr m ih=>
  cases l with
  |zero=>
   show QI fr s o :: m=fr :: m;congr 1
   funext i;by_cases e:i=s
   ·subst e;rw[Q4];exact h.symm
   ·rw[Q8 _ _ e]
  |succ l=>exact congrArg (fr :: ·) (ih (by simpa using hm) h)
theorem Jt (d:List UInt8)(a e dp nd tx:Int):∀n,AV.shNL n [.str d,.int .i64 a,.int .i64 e,.int .i64 dp,.int .i64 nd,.int .i64 tx]=[.str d,.int .i64 a,.int .i64 e,.int .i64 dp,.int .i64 nd,.int .i64 tx]
 |0=>rfl
 |n+1=>by show AV.shL (AV.shNL n _)=_;rw[Jt d a e dp nd tx n];rfl
theorem sh2 (a b:List AV):∀n,AV.shNL n [.list a,.list b]=[.list a,.list b]
 |0=>rfl
 |n+1=>by show AV.shL (AV.shNL n _)=_;rw[sh2 a b n];rfl
theorem Wu (k:IntKind)(v:Int):∀n,(AV.int k v).shN n=.int k v
 |0=>rfl
 |n+1=>by show(AV.shN n _).sh=_;rw[Wu k v n];rfl
theorem shl (a:List AV):∀n,(AV.list a).shN n=.list a
 |0=>rfl
 |n+1=>by show(AV.shN n _).sh=_;rw[shl a n];rfl
theorem Jg (d:List UInt8)(a e dp nd tx:Int):∀n,AV.unNL n [.str d,.int .i64 a,.int .i64 e,.int .i64 dp,.int .i64 nd,.int .i64 tx]=some [.str d,.int .i64 a,.int .i64 e,.int .i64 dp,.int .i64 nd,.int .i64 tx]
 |0=>rfl
 |n+1=>by
  show(AV.unL _).bind (AV.unNL n)=_;exact Jg d a e dp nd tx n
theorem Ea (k:IntKind)(v:Int):∀n,AV.unNL n [.int k v]=some [.int k v]
 |0=>rfl
 |n+1=>by
  show(AV.unL _).bind (AV.unNL n)=_;exact Ea k v n
def BP:AV→AV
 |.agg l=>.agg (l.map nn0)
 |x=>x
theorem Rep.nz {G:Gh}{x:AV}{v:Value}(h:Rep G x v):Rep G (BP x) v:=by
 unfold BP;split
 ·cases h with
  |agg h=>exact .agg h.nn0
 ·exact h
theorem RepL.nz {G:Gh}:∀ {l:List AV} {vs:List Value},RepL G l vs→RepL G (l.map BP) vs
 | [],_,h=>by cases h;exact .nil
 |_ :: _,_,h=>by
  cases h with
  |cons h t=>exact .cons (Rep.nz h) (RepL.nz t)
theorem K5 {P:Program}{f:Fr}{m:Qj}{ds:List DF}{K:St→Prop}{its:List Am.Item}{d k:Nat}{args:List RA}{ys:List AV}{R:AV→Qj→Prop}(hk:Qe P k ys m R)(hy:(args.map (RA.ev f)).map BP=ys)(h:∀x m',R x m'→m'.length=m.length→QE P its ⟨QI f d x,m',ds⟩ K) :
  QE P (⟨some d,.callG (.f k) args,none⟩ :: its) ⟨f,m,ds⟩ K :=
 QM ⟨hk.1,fun G w vs hv hm=>hk.2 G w vs (by rw[←hy];exact RepL.nz hv) hm⟩ rfl h
theorem QV (m:Qj)(l s:Nat)(o:Ob):(Am.put m l s o).length=m.length:=by
 induction m generalizing l with
 |nil=>rfl
 |cons fr m ih=>
  cases l with
  |zero=>rfl
  |succ l=>exact congrArg (· + 1) (ih l)
section
variable (P:PL)(c:C)(l s:Nat)(m:Qj)(hm:l<m.length)(hs:Am.Qd m l s=Xh P c)
include hs in
theorem MN (n:Int) :
  Qe Tryz.prog 47 [.ptr l s 0,.int .i64 n] m fun x m1=>x=.int .i64 ((c.spend n).2:Nat)∧m1=Am.put m l s (Xh P (c.spend n).1):=by
 simp only[Xh]at hs;refine wG Tryz.func47 ?_;simp only[eK,Tryz.f47,seval];simp only[hs,Jt,eE,seval];refine aC (c90 c n) ?_;generalize c.spend n=r;obtain⟨c',e⟩:=r;simp only[Hd,C.av,Xh,hs,Jt,Jg,QV,eE,seval]
include hs hm in
theorem SL (hc:CI c):Qe Tryz.prog 230 [.ptr l s 0] m (Rt P l s m (fun n:Nat=>.int .i64 (n:Nat)) (Wr c)):=by
 have hs0:=hs;simp only[Xh]at hs;refine wG Tryz.func230 ?_;simp only[eK,Tryz.f230,seval];simp only[hs,Jt,eE,seval];refine aC (Nn c hc.big) ?_;have hva:=Ws hc;have hln:Wr c=if c.varint.2.2=0 then(if c.varint.2.1.left<(c.varint.1:Int)then .error 4 else .ok (c.varint.1,c.varint.2.1))else .error c.varint.2.2:=rfl
 generalize c.varint=r at hva hln ⊢;obtain⟨u,d,e⟩:=r;dsimp only at hva hln;by_cases he:e=0
 ·subst he;obtain⟨ha,hu⟩:=hva rfl;have hd:=ha.ci hc;have hdl:=hd.bd;rw[Qn5 rfl]at hln;have w1:IntKind.u64.wrap d.left=d.left:=by rw[Jj];omega
  simp only[We,C.av,Jt,Jg,eE,seval];refine aC (N0 d hd.big') ?_;by_cases hlt:d.left<(u:Int)
  ·have d1:decide ((u:Int) > d.left)=true:=QpY hlt;rw[Qn5 hlt]at hln;rw[hln];simp only[w1,d1,Qa,seval];exact⟨by decide,0,c,rfl,(put_self hm hs0).symm⟩
  ·have d1:decide ((u:Int) > d.left)=false:=QpQ hlt;have w2:IntKind.i64.wrap (u:Int)=u:=by rw[Qz];omega
   rw[Qn4 hlt]at hln;rw[hln];simp only[w1,w2,d1,hs,Jt,Jg,QV,eE,seval];exact⟨rfl,rfl⟩
 ·rw[Qn4 he]at hln;rw[hln];simp only[We,C.av,Xb he,Jg,eE,seval];exact⟨he,0,c,rfl,(put_self hm hs0).symm⟩
include hs hm in
theorem Qf3 (hc:CI c)(w:Int):Qe Tryz.prog 238 [.ptr l s 0,.int .i64 w] m (Rt P l s m R.av (Jp w c)):=by
 have hs0:=hs;have lp:∀o,Am.Qd (Am.put m l s o) l s=o:=fun o=>Qq hm
 have pp:=fun o q=>@put_put m l s o q
 simp only[Xh]at hs;refine wG Tryz.func238 ?_;simp only[eK,Tryz.f238,seval];simp only[eE,seval];by_cases h3:w=3
 ·have b3:(w==3)=true:=by simp[h3]
  simp only[b3,Qa,seval];refine QM (SL P c (l+1) s _ (Nat.succ_lt_succ hm) hs0 hc) (by simp only[Qov,QoZ,Qa,seval]) ?_;intro x m1 hx _;cases hr:Wr c with
  |error e=>
   have hrc:Jp w c=.error e:=by unfold Jp;rw[Qn5 h3,hr]
   rw[hr]at hx;obtain⟨he,a,c',rfl,rfl⟩:=hx;rw[hrc];simp only[Xb he,QV,eE,seval];exact⟨he,⟨0,w,0,[]⟩,c',rfl,rfl⟩
  |ok p=>
   obtain⟨n,d⟩:=p;obtain⟨a1,a2⟩:=YB hc hr;have hd:=a1.ci hc;have hrc:Jp w c=if (text d n).2.2=0 then .ok (⟨0,w,0,(text d n).1⟩,(text d n).2.1)else .error (text d n).2.2:=by unfold Jp;rw[Qn5 h3,hr]
   rw[hr]at hx;obtain⟨rfl,rfl⟩:=hx;simp only[Xh,lp,Jt,eE,seval];refine aC (Qk7 d n hd.inr hd.big') ?_;rw[hrc];generalize text d n=q;obtain⟨t,i,e⟩:=q;dsimp only;simp only[Sm,C.av,lp,pp,Jg,QV,eE,seval];by_cases he:e=0
   ·subst he;rw[Qn5 rfl];exact⟨rfl,rfl⟩
   ·rw[Qn4 he];exact⟨he,⟨0,w,0,t⟩,i,rfl,rfl⟩
 have b3:(w==3)=false:=by simp[h3]
 by_cases h2:w=2
 ·have b2:(w==2)=true:=by simp[h2]
  simp only[b3,b2,hs,Jt,eE,seval];refine aC (Qft c hc.big) ?_;have hrc:Jp w c=if c.fixed.2.2=0 then .ok (⟨0,w,c.fixed.1,[]⟩,c.fixed.2.1)else .error c.fixed.2.2:=by unfold Jp;rw[Qn4 h3,Qn5 h2]
  rw[hrc];generalize c.fixed=q;obtain⟨t,i,e⟩:=q;dsimp only;simp only[We,C.av,hs,Jg,Ea,QV,eE,seval];by_cases he:e=0
  ·subst he;rw[Qn5 rfl];exact⟨rfl,rfl⟩
  ·rw[Qn4 he];exact⟨he,⟨0,w,t,[]⟩,i,rfl,rfl⟩
 ·have b2:(w==2)=false:=by simp[h2]
  simp only[b3,b2,hs,Jt,eE,seval];refine aC (Nn c hc.big) ?_;have hrc:Jp w c=if c.varint.2.2=0 then .ok (⟨0,w,c.varint.1,[]⟩,c.varint.2.1)else .error c.varint.2.2:=by unfold Jp;rw[Qn4 h3,Qn4 h2]
  rw[hrc];generalize c.varint=q;obtain⟨t,i,e⟩:=q;dsimp only;simp only[We,C.av,hs,Jg,Ea,QV,eE,seval];by_cases he:e=0
  ·subst he;rw[Qn5 rfl];exact⟨rfl,rfl⟩
  ·rw[Qn4 he];exact⟨he,⟨0,w,t,[]⟩,i,rfl,rfl⟩
include hs in
theorem Qf4 (n:Nat) :
  Qe Tryz.prog 231 [.ptr l s 0,.int .i64 (n:Nat)] m fun x m1=>x=c.av∧m1=Am.put m l s (Xh P (part c n)):=by
 simp only[Xh]at hs;refine wG Tryz.func231 ?_;simp only[eK,Tryz.f231,seval];simp only[hs,Jt,Wu,Jg,Ea,QV,part,Xh,C.av,eE,seval]
include hs in
theorem SM (o:C) :
  Qe Tryz.prog 233 [.ptr l s 0,o.av] m fun x m1=>x=.tup []∧m1=Am.put m l s (Xh P (JP o c)):=by
 simp only[Xh]at hs;refine wG Tryz.func233 ?_;simp only[eK,Tryz.f233,seval];simp only[hs,Jt,Wu,Jg,Ea,QV,JP,Xh,C.av,eE,seval]
end
theorem avs (k:Int)(b:Nat)(t:List UInt8):(QD k b t).av=.agg [.int .i64 k,.int .u64 (b:Nat),.str t,.list [],.list [],.list [],.list []]:=Qc _
def Yp (r:V×Nat):AV:=.tup [r.1.av,.int .i64 (r.2:Nat)]
theorem IV {k:Int}{b:Nat}(hk:isk k=true)(ht:Zx k=false):XQ k k b [] [] [] [] []=Kz k b:=by
 have k7:(k != 7)=true:=by
  unfold Zx at ht;rw[QoQ,QpK]at ht;simp[ht.1]
 unfold XQ;rw[hk,ht,k7];simp[Ue]
section
variable (n:Int)(s a:List UInt8)(c y k t u:Int)
theorem QhV:Qg Tryz.prog 180 [oc n s a c y k t u] (.int .i64 (wk k)):=MM ⟨n,s,a,c,y,k,t,u⟩
end
theorem IW (b:Nat)(_hb:b<18446744073709551616):IntKind.u64.wrap (PT b)=(XX 1 b:Int)∧XX 1 b<18446744073709551616:=by
 unfold XX;rw[Qn5 rfl,Jj];omega
theorem Qf5 {k:Int}(hk:isk k=true)(h:wk k≠3):Zx k=false:=by
 unfold wk at h;unfold Zx;rw[QoQ,QpK,QpK];refine⟨fun e=>?_,fun e=>?_⟩<;>(subst e;exact h (by decide))
section
variable {M:Nat}(P:PL)(hP:P.ok M)
include hP in
theorem QhW (n:Int)(s a:List UInt8)(c y k t u:Int)(f:R)(hb:f.bits<18446744073709551616) :
    Qg Tryz.prog 239 [P.av,oc n s a c y k t u,f.av] (Yp (Xk P k t f)):=by
  have hw:=QhV n s a c y k t u;have hacc:∀b,_:=fun b=>Ia P hP t b
  have e0:=zq P;simp only[oc]at hw;simp only[e0]at hacc;have hfn:∀B:Nat,Zx k=false→isk k=true→Qg Tryz.prog 277 [.int .i64 k,.agg [.int .i64 k,.int .u64 (B:Nat),.str [],.list [],.list [],.list [],.list []]] (.bool (Kz k B)):=fun B h1 h2=>by
    have h:=E8 k k B [] [] [] [] [] (Qn6 _) (Qn6 _) (Qn6 _) (Qn6 _);rw[IV h2 h1]at h;exact h
  have hnm:∀B:Nat,B<18446744073709551616→Qg Tryz.prog 166 [.agg [.int .i64 k,.int .u64 (B:Nat),.str [],.list [],.list [],.list [],.list []]] (.agg [.int .i64 k,.int .u64 ((Xu k B:Nat):Int),.str [],.list [],.list [],.list [],.list []]):=fun B hB=>by
    have h:=IB (QD k B []) hB;rw[Me,avs]at h;exact h
  refine wF Tryz.func239 ?_;simp only[eK,Tryz.f239,seval];simp only[e0,oc,R.av,eE,seval];refine aC (B7 k) ?_;cases hk:isk k
  · have hs:Xk P k t f=(QD 0 0 [],12):=by unfold Xk;rw[Qn4 (by rw[hk];decide)]
    simp only[hs,Yp,avs,splice,Qow,Qo6,Qoz,QoF,Qok,Qoc,QoT,eE,seval]
    try rfl
  simp only[eE,seval];refine aC hw ?_;by_cases h1:f.wire=wk k
  case neg=>
    have hs:Xk P k t f=(QD 0 0 [],13):=by unfold Xk;rw[Qn5 hk,Qn4 h1]
    have b1:(f.wire != wk k)=true:=by simp[h1]
    simp only[b1,hs,Yp,avs,splice,Qow,Qo6,Qoz,QoF,Qok,Qoc,QoT,eE,seval]
    try rfl
  have b1:(f.wire != wk k)=false:=by simp[h1]
  simp only[b1,eE,seval];by_cases h3:f.wire=3
  · have b3:(f.wire==3)=true:=by simp[h3]
    simp only[b3,eE,seval];by_cases h7:k=7
    · have b7:(k==7)=true:=by simp[h7]
      simp only[b7,eE,seval];refine aC (Sc f.data) ?_;cases hv:YK f.data
      · have hs:Xk P k t f=(QD 0 0 [],7):=by unfold Xk;rw[Qn5 hk,Qn5 h1,Qn5 h3,Qn5 ⟨h7,hv⟩]
        simp only[hs,Yp,avs,splice,Qow,Qo6,Qoz,QoF,Qok,Qoc,QoT,eE,seval]
        try rfl
      · have hs:Xk P k t f=(QD k 0 f.data,0):=by unfold Xk;rw[Qn5 hk,Qn5 h1,Qn5 h3,Qn4 (by rw[hv];simp)]
        simp only[hs,Yp,avs,splice,Qow,Qo6,Qoz,QoF,Qoj,Qok,Qoc,QoT,eE,seval]
        try rfl
    · have b7:(k==7)=false:=by simp[h7]
      have hs:Xk P k t f=(QD k 0 f.data,0):=by unfold Xk;rw[Qn5 hk,Qn5 h1,Qn5 h3,Qn4 (by simp[h7])]
      simp only[b7,hs,Yp,avs,splice,Qow,Qo6,Qoz,QoF,Qoj,Qok,Qoc,QoT,eE,seval]
      try rfl
  have b3:(f.wire==3)=false:=by simp[h3]
  have htx:=Qf5 hk (h1▸h3);simp only[b3,splice,Qow,Qo6,Qoz,QoF,Qoj,Qok,Qoc,QoT,eE,seval];have hfit:∀B:Nat,B=XX f.wire f.bits→Kz k B=false→Xk P k t f=(QD 0 0 [],6):=by
    intro B e hh;unfold Xk;rw[Qn5 hk,Qn5 h1,Qn4 h3,←e,Qn4 (by rw[hh];decide)]
  have hen:∀B:Nat,B=XX f.wire f.bits→Kz k B=true→k=9→WO P.enums t B=false→Xk P k t f=(QD 0 0 [],16):=by
    intro B e hh h9 ha;unfold Xk;rw[Qn5 hk,Qn5 h1,Qn4 h3,←e,Qn5 hh,Qn5 ⟨h9,ha⟩]
  have hno:∀B:Nat,B=XX f.wire f.bits→Kz k B=true→(k=9→WO P.enums t B=true)→Xk P k t f=(QD k (Xu k B) [],0):=by
    intro B e hh ha;unfold Xk;rw[Qn5 hk,Qn5 h1,Qn4 h3,←e,Qn5 hh,Qn4 (by rintro⟨h9,hf⟩;rw[ha h9]at hf;cases hf)]
  have hz:=Qld (f.bits:Int) (by omega) (by omega);obtain⟨hzw,hzl⟩:=IW f.bits hb;by_cases hw1:f.wire=1
  all_goals
    first
      | (have bw:(f.wire==1)=true:=by simp[hw1]
         simp only[bw,eE,seval];refine aC hz ?_;simp only[hzw,splice,Qow,Qo6,Qoz,QoF,Qoj,Qok,Qoc,QoT,eE,seval];have eB:XX 1 f.bits=XX f.wire f.bits:=by rw[hw1]
         have hB:=hzl;generalize XX 1 f.bits=B at eB hB)
      | (have bw:(f.wire==1)=false:=by simp[hw1]
         simp only[bw,Qow,QoF,Qoc,QoT,eE,seval];obtain⟨B,hBe⟩:∃B,f.bits=B:=⟨_,rfl⟩;rw[hBe];have eB:B=XX f.wire f.bits:=by unfold XX;rw[Qn4 hw1];exact hBe.symm
         have hB:=hb;rw[hBe]at hB)
    refine aC (hfn _ htx hk) ?_;cases hft:Kz k B
    · simp only[hfit B eB hft,Yp,avs,splice,Qow,Qo6,Qoz,QoF,Qok,Qoc,QoT,eE,seval]
      try rfl
    simp only[eE,seval];by_cases h9:k=9
    · have b9:(k==9)=true:=by simp[h9]
      simp only[b9,eE,seval];refine aC (hacc B) ?_;cases ha:WO P.enums t B
      · simp only[hen B eB hft h9 ha,Yp,avs,splice,Qow,Qo6,Qoz,QoF,Qok,Qoc,QoT,eE,seval]
        try rfl
      · simp only[eE,seval];refine aC (hnm _ hB) ?_;simp only[hno B eB hft (fun _=>ha),Yp,avs,splice,Qow,Qo6,Qoz,QoF,Qok,Qoc,QoT,eE,seval]
    · have b9:(k==9)=false:=by simp[h9]
      simp only[b9,eE,seval];refine aC (hnm _ hB) ?_;simp only[hno B eB hft (fun h=>absurd h h9),Yp,avs,splice,Qow,Qo6,Qoz,QoF,Qok,Qoc,QoT,eE,seval]
include hP in
theorem Qf6 (o:PO)(f:R)(hb:f.bits<18446744073709551616):Qg Tryz.prog 239 [P.av,Qv o,f.av] (Yp (Xk P o.kind o.target f)) :=
 QhW P hP o.num o.name o.alias o.card o.key o.kind o.target o.union f hb
end
def Qa1 (g:PG)(v:V)(o:PO)(x:V)(d:C):V×C×Nat :=
  if (XV v o.num).isSome=true then(XK g v o (QZ ((QW v o.num).list++[x])),d,0)
  else if (d.spend 1).2=0 then(XK g v o (QZ ((QW v o.num).list++[x])),(d.spend 1).1,0)else(v,(d.spend 1).1,(d.spend 1).2)
def Qa2 (P:PL)(g:PG)(v:V)(o:PO)(f:R)(d:C):V×C×Nat :=
  if (Xk P o.kind o.target f).2=16 then(YA v ⟨o.num,0,f.bits,[]⟩,d,0)
  else if (Xk P o.kind o.target f).2=0 then(if o.card=4 then Qa1 g v o (Xk P o.kind o.target f).1 d else(XK g v o (Xk P o.kind o.target f).1,d,0))
  else(v,d,(Xk P o.kind o.target f).2)
def Us (P:PL)(g:PG)(v:V)(o:PO)(c:C):V×C×Nat :=
  if (c.spend 1).2=0 then
    (if (GY (wk o.kind) (c.spend 1).1).2.2=0 then Qa2 P g v o (GY (wk o.kind) (c.spend 1).1).1 (GY (wk o.kind) (c.spend 1).1).2.1
     else(v,(GY (wk o.kind) (c.spend 1).1).2.1,(GY (wk o.kind) (c.spend 1).1).2.2))
  else(v,(c.spend 1).1,(c.spend 1).2)
theorem Vf (P:PL)(g:PG)(v:V)(o:PO)(c:C):KE P g v o c=if (Us P g v o c).2.2=0 then .ok ((Us P g v o c).1,(Us P g v o c).2.1)else .error (Us P g v o c).2.2:=by
 unfold KE Us spd;by_cases h1:(c.spend 1).2=0
 case neg=>simp only[Qn4 h1]
 simp only[Qn5 h1];rw[Rg];generalize GY (wk o.kind) (c.spend 1).1=r;obtain⟨f,d,e⟩:=r;dsimp only;by_cases h2:e=0
 case neg=>simp only[Qn4 h2]
 simp only[Qn5 h2];unfold Qa2;by_cases h3:(Xk P o.kind o.target f).2=16
 ·simp only[Qn5 h3];rfl
 simp only[Qn4 h3];by_cases h4:(Xk P o.kind o.target f).2=0
 case neg=>simp only[Qn4 h4]
 simp only[Qn5 h4];by_cases h5:o.card=4
 case neg=>simp only[Qn4 h5];rfl
 simp only[Qn5 h5];unfold Qa1;by_cases h6:(XV v o.num).isSome=true
 ·simp only[Qn5 h6];rfl
 simp only[Qn4 h6];by_cases h7:(d.spend 1).2=0
 ·simp only[Qn5 h7];rfl
 ·simp only[Qn4 h7]
def Fq (P:PL)(M K n:Nat)(rec:Int→V→C→Rd V):Prop :=
 ∀(l s:Nat) (m:Qj) (t:Int) (v:V) (c:C),l<m.length→Am.Qd m l s=Xh P c→CI c→c.left<n→(0≤t∧t<(P.progs.length:Int))→MW P n (Qk P t) v→v.ok M→(v.cnt:Int)+3*c.left≤K→
  Qe Tryz.prog 48 [.ptr l s 0,.int .i64 t,v.av] m (Rt P l s m V.av (rec t v c))
theorem KI (c:C)(n:Int):(∃d,spd c n=.ok d∧c.spend n=(d,0))∨∃e,e≠0∧spd c n=.error e∧(c.spend n).2=e:=by
 unfold spd;by_cases h:(c.spend n).2=0
 ·rw[Qn5 h];exact .inl ⟨_,rfl,by rw[←h]⟩
 ·rw[Qn4 h];exact .inr ⟨_,h,rfl,rfl⟩
theorem Dv (v:V)(n:Int):(QW v n).cnt≤v.cnt:=by
 cases hf:XV v n with
 |none=>rw[Je (by rw[hf];simp),XW];exact Za v
 |some z=>
  have:=Z9 (XE hf).1;rw[(XE hf).2];exact this
section
variable {M:Nat}(P:PL)(hP:P.ok M)(c:C)(l s:Nat)(m:Qj)(hm:l<m.length)(hs:Am.Qd m l s=Xh P c)(hc:CI c)(g:PG)(hg:g.ops.length≤maxLen)(v:V)(hv:v.cnt≤1000000)(o:PO)
include hP hm hs hc hg hv in
theorem Qf7:Qe Tryz.prog 182 [.ptr l s 0,Qn g,v.av,Qv o] m (Rt P l s m V.av (KE P g v o c)):=by
 have hs0:=hs;have lp:∀o,Am.Qd (Am.put m l s o) l s=o:=fun o=>Qq hm
 have pp:=fun o q=>@put_put m l s o q
 have hpl:∀o,l+1<(Am.put m l s o).length+1:=fun o=>by rw[QV];omega
 have ls:=Zj v;have lr:=KG v;have hwo:=MM o;simp only[Qv,PO.cells]at hwo;rw[Qc v];refine wG Tryz.func182 ?_;simp only[eK,Tryz.f182,seval];simp only[Qn,Qv,PG.cells,PO.cells,eE,seval];refine QM (MN P c (l+1) s _ hs0 1) (by simp only[Qov,QoZ,Qa,seval]) ?_;rintro x m1 ⟨rfl,rfl⟩ _;unfold KE;rcases KI c 1 with⟨c1,h1,h1'⟩|⟨e,he,h1,h1'⟩
 case inr=>
  rw[h1,h1'];simp only[Xb he,QV,eE,seval];exact⟨he,v,_,by rw[Qc v],rfl⟩
 rw[h1,h1'];obtain⟨a1,_⟩:=JQ hc (by omega) h1;have hc1:=a1.ci hc;dsimp only;simp only[eE,seval];refine aC hwo ?_;refine QM (Qf3 P c1 (l+1) s _ (by exact hpl _) (lp _) hc1 (wk o.kind)) (by simp only[Qov,QoZ,Qa,seval]) ?_;intro x m1 hx _;cases hr:Jp (wk o.kind) c1 with
 |error e=>
  rw[hr]at hx;obtain⟨he,a,c',rfl,rfl⟩:=hx;dsimp only;simp only[Xb he,R.av,pp,QV,eE,seval];exact⟨he,v,c',by rw[Qc v],rfl⟩
 |ok p=>
 obtain⟨f,d⟩:=p;rw[hr]at hx;obtain⟨rfl,rfl⟩:=hx;obtain⟨b1,_,b3,b4⟩:=Bm hc1 hr;have hd:=b1.ci hc1;have hsc:=Qf6 P hP o f b3;have e0:=zq P;dsimp only;generalize Xk P o.kind o.target f=q at hsc ⊢;obtain⟨x,e⟩:=q;simp only[Yp,e0,Qv,PO.cells,R.av,Qc x]at hsc;simp only[R.av,Xh,lp,pp,sh2,eE,seval];refine aC hsc ?_;by_cases h16:e=16
 ·subst h16;rw[Qn5 rfl];have ha:=j95 v ⟨o.num,0,f.bits,[]⟩ (by omega);have e16:(((16:Nat):Int)==16)=true:=rfl;rw[Qc v,Qc (YA v _)]at ha;simp only[R.av]at ha;simp only[Wu,eE,seval];refine aC ha ?_;simp only[QV,eE,seval];exact⟨by rw[Qc (YA v _)],rfl⟩
 have e16:((e:Int)==16)=false:=by rw[QpK];omega
 rw[Qn4 h16];by_cases h0:e=0
 case neg=>
  rw[Qn4 h0];simp only[e16,Xb h0,QV,eE,seval];exact⟨h0,v,d,by rw[Qc v],rfl⟩
 subst h0;rw[Qn5 rfl];have hset:=fun y=>SK g v o y hg (by omega)
 rw[Qc v]at hset;simp only[Qn,Qv,PG.cells,PO.cells]at hset;by_cases h4:o.card=4
 case neg=>
  have b4':(o.card != 4)=true:=by simp[h4]
  have hx:=hset x;rw[Qc x,Qc (XK g v o x)]at hx;rw[Qn4 h4];simp only[b4',Wu,eE,seval];refine aC hx ?_;simp only[QV,eE,seval];exact⟨by rw[Qc (XK g v o x)],rfl⟩
 have b4':(o.card != 4)=false:=by simp[h4]
 have hfd:=A9 v o.num (by omega);have hlo:=Qf0 (QW v o.num) x (by have:=Dv v o.num;have:=ZJ (QW v o.num);omega);have hx:=hset (QZ ((QW v o.num).list++[x]));rw[Qn5 h4];generalize XK g v o (QZ ((QW v o.num).list++[x]))=w at hx ⊢;generalize QZ ((QW v o.num).list++[x])=y at hx hlo;generalize QW v o.num=z at hfd hlo;rw[Qc v,Qc z]at hfd;rw[Qc z,Qc x,Qc y]at hlo;rw[Qc y,Qc w]at hx;simp only[b4',Wu,eE,seval];refine aC hfd ?_;cases hf:(XV v o.num).isSome
 ·simp only[Qog,eE,seval];refine QM (MN P d (l+1) s _ (lp _) 1) (by simp only[Qov,QoZ,Qa,seval]) ?_;rintro x m1 ⟨rfl,rfl⟩ _;rcases KI d 1 with⟨c2,h2,h2'⟩|⟨e,he,h2,h2'⟩
  case inr=>
   rw[h2,h2'];simp only[Xb he,pp,QV,eE,seval];exact⟨he,v,_,by rw[Qc v],rfl⟩
  rw[h2,h2'];dsimp only;simp only[pp,eE,seval];refine aC hlo ?_;refine aC hx ?_;simp only[QV,eE,seval];exact⟨by rw[Qc w],rfl⟩
 ·simp only[eE,seval];refine aC hlo ?_;refine aC hx ?_;simp only[QV,eE,seval];exact⟨by rw[Qc w],rfl⟩
variable {K n:Nat}{rec:Int→V→C→Rd V}(hrec:Fq P M K n rec)
include hrec hm hs hc in
theorem Qf8 {t:Int}(ht:0≤t∧t<(P.progs.length:Int))(b:V)(k:Int)(hk0:0≤k)(hcn:c.left≤n)(hbm:1≤n→MW P n (Qk P t) b)(hbo:b.ok M)(hb:(b.cnt:Int)+3*c.left≤K) :
  Qe Tryz.prog 236 [.ptr l s 0,.int .i64 t,b.av,.int .i64 k] m (Rt P l s m V.av (W6 rec t b k c)):=by
 have hs0:=hs;have lp:∀o,Am.Qd (Am.put m l s o) l s=o:=fun o=>Qq hm
 have pp:=fun o q=>@put_put m l s o q
 have hpl:∀o,l+1<(Am.put m l s o).length+1:=fun o=>by rw[QV];omega
 have hrec':=fun(fr:Nat→Ob) (o:Ob) (i:C) (h:o=Xh P i) (h1:CI i) (h2:i.left<n) (h3:1≤n) (h4:(b.cnt:Int)+3*i.left≤K)=>hrec (l+1) s (fr :: Am.put m l s o) t b i (hpl _) (by rw[←h];exact lp _) h1 h2 ht (hbm h3) hbo h4
 rw[Qc b];rw[Qc b]at hrec';refine wG Tryz.func236 ?_;simp only[eK,Tryz.f236,seval];simp only[eE,seval];refine QM (SL P c (l+1) s _ (Nat.succ_lt_succ hm) hs0 hc) (by simp only[Qov,QoZ,Qa,seval]) ?_;intro x m1 hx _;unfold W6;cases hr:Wr c with
 |error e=>
  rw[hr]at hx;obtain⟨he,a,c',rfl,rfl⟩:=hx;dsimp only;simp only[Xb he,QV,eE,seval];exact⟨he,b,c',by rw[Qc b],rfl⟩
 |ok p=>
 obtain⟨q,d⟩:=p;obtain⟨a1,a2⟩:=YB hc hr;have hd:=a1.ci hc;have hl1:=a1.lt hc;have hdb:=hd.bd;rw[hr]at hx;obtain⟨rfl,rfl⟩:=hx;have hen:=Fh hd a2;have cen:=Qk8 d q hd.big';dsimp only;generalize enter d q=r at hen cen ⊢;obtain⟨i,e⟩:=r;dsimp only at hen;simp only[Hd,C.av]at cen;simp only[Xh,lp,Jt,Jg,eE,seval];refine aC cen ?_;by_cases he:e=0
 case neg=>
  rw[Qn4 he];simp only[Xb he,lp,pp,Jg,QV,eE,seval];exact⟨he,b,i,by rw[Qc b],rfl⟩
 subst he;rw[Qn5 rfl];obtain⟨e1,e2,e3⟩:=hen rfl;simp only[lp,pp,Jg,eE,seval];refine QM (MN P i (l+1) s _ (lp _) k) (by simp only[Qov,QoZ,Qa,seval]) ?_;rintro x m1 ⟨rfl,rfl⟩ _;rcases KI i k with⟨j,h2,h2'⟩|⟨e,he,h2,h2'⟩
 case inr=>
  rw[h2,h2'];dsimp only;simp only[Xb he,pp,QV,eE,seval];exact⟨he,b,_,by rw[Qc b],rfl⟩
 rw[h2,h2'];obtain⟨s1,s2⟩:=JQ e2 hk0 h2;have hls:=(s1.left e2).2.2;have hj:=s1.ci e2;have hjb:=hj.bd;dsimp only;simp only[pp,eE,seval];refine QM (hrec' _ _ j rfl hj (by omega) (by omega) (by omega)) (by simp only[Qov,QoZ,Qa,seval]) ?_;intro x m1 hx _;cases hr2:rec t b j with
 |error e=>
  rw[hr2]at hx;obtain⟨he,w,c',rfl,rfl⟩:=hx;dsimp only;simp only[Xb he,Qc w,pp,QV,eE,seval];exact⟨he,b,c',by rw[Qc b],rfl⟩
 |ok p=>
 obtain⟨w,j2⟩:=p;rw[hr2]at hx;obtain⟨rfl,rfl⟩:=hx;have clv:=Qk9 d j2;dsimp only;generalize WS d j2=y at clv ⊢;simp only[C.av]at clv;simp only[Qc w,Xh,lp,pp,Jt,eE,seval];refine aC clv ?_;simp only[lp,pp,Jg,QV,eE,seval];exact⟨by rw[Qc w],rfl⟩
end
def MO (v:V)(c:C)(r:Rd V):V×C×Nat:=match r with
 |.ok (w,d)=>(w,d,0)
 |.error e=>(v,c,e)
theorem Qf9 (v:V)(c:C)(e:Nat):MO v c (.error e)=(v,c,e):=rfl
def H1 (rec:Int→V→C→Rd V):Prop:=∀(t:Int) (v:V) (c:C) (e:Nat),rec t v c=.error e→e≠0
theorem SN {c:C}{n:Int}{e:Nat}(h:spd c n=.error e):e≠0:=by
 unfold spd at h;split at h
 ·cases h
 ·rename_i h1;cases h;exact h1
theorem QhX {w:Int}{c:C}{e:Nat}(h:Jp w c=.error e):e≠0:=by
 rw[Rg]at h;split at h
 ·cases h
 ·rename_i h1;cases h;exact h1
section
variable {rec:Int→V→C→Rd V}(hre:H1 rec)
include hre
theorem SO {t:Int}{b:V}{k:Int}{c:C}{e:Nat}(h:W6 rec t b k c=.error e):e≠0:=by
 unfold W6 at h;split at h
 ·rename_i h1;cases h;exact Vv h1
 ·split at h
  ·split at h
   ·rename_i h1;cases h;exact SN h1
   ·split at h
    ·rename_i h1;cases h;exact hre _ _ _ _ h1
    ·cases h
  ·rename_i h1;cases h;exact h1
theorem QcX {g:PG}{v:V}{o:PO}{c:C}{e:Nat}(h:KS rec g v o c=.error e):e≠0:=by
 unfold KS at h;split at h<;>split at h
 ·rename_i h1;cases h;exact SO hre h1
 ·cases h
 ·rename_i h1;cases h;exact SO hre h1
 ·cases h
end
section
variable {M K n:Nat}{rec:Int→V→C→Rd V}(P:PL)(o:PO){c:C}(hc:CI c)(hcn:c.left≤n)
variable (g:PG)(hg:g.ops.length≤maxLen)(v:V)(hv:(v.cnt:Int)+3*c.left≤K)(hK:K≤1000000)(hvo:v.ok M)(hun : -1≤o.union)(hre:H1 rec)(hb1:(1:Int)+3*c.left≤K)
end
end Go.Proofs.YtgnfjkkfbcnbfaaGreatDoor.Va
namespace Go.Proofs.YtgnfjkkfbcnbfaaGreatDoor.Va
open Go Am Rc Bt Br Up So
def dl:List (V×V)→List (V×V)
 | []=>[]
 | [x]=>[x]
 |x :: y :: l=>if Xz x.1 y.1=true then dl (y :: l)else x :: dl (y :: l)
def KW (T:List (V×V)):Nat→List (V×V)
 |0=>[]
 |i+1=>KW T i++(match T[i]?,T[i+1]? with
  |some x,some y=>if Xz x.1 y.1=true then []else [x]
  |some x,none=>[x]
  |none,_=>[])
theorem MP (T:List (V×V)):∀i,i≤T.length→dl T=KW T i++dl (T.drop i)
 |0,_=>rfl
 |i+1,h=>by
  rw[MP T i (by omega),KW,QoG (by omega:i<T.length),QnX (by omega:i<T.length),Qoi];congr 1
  by_cases hl:i+1<T.length
  ·rw[QoG hl,QnX hl];dsimp only;rw[dl];split<;>rfl
  ·rw[QoA (by omega),Qpm (by omega)];rfl
theorem QcY (T:List (V×V)):KW T T.length=dl T:=by
 rw[MP T T.length (QnV _),List.drop_length];show _=_++[];rw[Qo1]
theorem Rh (T:List (V×V)):∀i,(KW T i).length≤i
 |0=>QnV _
 |i+1=>by
  have:=Rh T i;rw[KW,QoB];have h:(match T[i]?,T[i+1]? with
   |some x,some y=>if Xz x.1 y.1=true then []else [x]
   |some x,none=>[x]
   |none,_=>([]:List (V×V))).length≤1:=by
   split
   ·split<;>simp
   ·simp
   ·simp
  omega
theorem Eb {k:Int}{a b c:V}(h:Xz a b=true):kl k a c=kl k b c∧kl k c a=kl k c b:=by
 unfold Xz at h;simp only[Qol,Qn2]at h;unfold kl;rw[h.1,h.2];exact⟨rfl,rfl⟩
theorem MQ {k:Int}{a b:V×V}(h:kl k a.1 b.1=true):Xz a.1 b.1=false:=by
 cases he:Xz a.1 b.1 with
 |false=>rfl
 |true=>
  rw[(Eb (k:=k) he).1]at h;have:kl k b.1 b.1=false:=(J2 k).irr b;rw[this]at h;cases h
theorem Ri {k:Int}:∀ {a b:List (V×V)},(a.Pairwise fun x y=>kl k x.1 y.1=true)→(b.Pairwise fun x y=>kl k x.1 y.1=true)→(∀x,x∈a↔x∈b)→a=b
 | [],[],_,_,_=>rfl
 | [],y :: b,_,_,h=>by have:=(h y).2 (by simp);cases this
 |x :: a,[],_,_,h=>by have:=(h x).1 (by simp);cases this
 |x :: a,y :: b,ha,hb,h=>by
  obtain⟨a1,a2⟩:=Qpy.1 ha;obtain⟨b1,b2⟩:=Qpy.1 hb;have irr:∀z:V×V,kl k z.1 z.1=true→False:=fun z hz=>by rw[(J2 k).irr z]at hz;cases hz
  have e:x=y:=by
   rcases Qpk.1 ((h x).1 (by simp))with e|e
   ·exact e
   ·rcases Qpk.1 ((h y).2 (by simp))with e'|e'
    ·exact e'.symm
    ·exact(irr x ((J2 k).tr x y x (a1 y e') (b1 x e))).elim
  subst e;congr 1
  refine Ri a2 b2 fun z=>?_
  have hz:=h z;simp only[Qpk]at hz
  constructor
  ·intro hm;rcases hz.1 (.inr hm)with e|e
   ·subst e;exact(irr z (a1 z hm)).elim
   ·exact e
  ·intro hm;rcases hz.2 (.inr hm)with e|e
   ·subst e;exact(irr z (b1 z hm)).elim
   ·exact e
theorem Vg {k:Int}:∀ {l:List (V×V)},(l.Pairwise fun x y=>kl k x.1 y.1=true)→dl l=l
 | [],_=>rfl
 | [x],_=>rfl
 |x :: y :: l,h=>by
  obtain⟨h1,h2⟩:=Qpy.1 h;rw[dl,MQ (h1 y (by simp)),Qn4 (by simp),Vg h2]
theorem Ec {k:Int}{x:V×V}{R:List (V×V)}:∀ {L:List (V×V)},(L.Pairwise fun x y=>kl k x.1 y.1=true)→(∀u∈L,kl k x.1 u.1=false)→dl (L++x :: R)=L.filter (fun q=>!Xz q.1 x.1)++dl (x :: R)
 | [],_,_=>rfl
 | [u],_,_=>by
  show dl (u :: x :: R)=_;rw[dl,QpA];cases Xz u.1 x.1<;>rfl
 |u :: v :: L,h,hx=>by
  obtain⟨h1,h2⟩:=Qpy.1 h;have huv:=h1 v (by simp);have hux:Xz u.1 x.1=false:=by
   cases he:Xz u.1 x.1 with
   |false=>rfl
   |true=>
    have:=hx v (by simp);rw[←(Eb (k:=k) he).1,huv]at this;cases this
  show dl (u :: v :: (L++x :: R))=_;rw[dl,MQ huv,Qn4 (by simp),QpA,hux];show u :: dl (v :: L++x :: R)=_;rw[Ec h2 fun w hw=>hx w (Qod _ hw)];rfl
theorem Vh {k:Int}{x:V×V}:∀ {O:List (V×V)},Zm (fun x y:V×V=>kl k x.1 y.1) O→∃L R,O=L++R∧(∀u∈L,kl k x.1 u.1=false)∧∀u∈R,kl k x.1 u.1=true
 | [],_=>⟨[],[],rfl,(fun _ h=>(nomatch h)),(fun _ h=>(nomatch h))⟩
 |u :: O,h=>by
  obtain⟨h1,h2⟩:=Qpy.1 h;cases hx:kl k x.1 u.1 with
  |true=>
   refine⟨[],u :: O,rfl,(fun _ h=>(nomatch h)),fun w hw=>?_⟩;rcases Qpk.1 hw with rfl|hw
   ·exact hx
   ·cases hc:kl k x.1 w.1 with
    |true=>rfl
    |false=>
     have:=(J2 k).nt x w u hc (h1 w hw);rw[hx]at this;cases this
  |false=>
   obtain⟨L,R,e,hl,hr⟩:=Vh (x:=x) h2;refine⟨u :: L,R,by rw[e];rfl,fun w hw=>?_,hr⟩;rcases Qpk.1 hw with rfl|hw
   ·exact hx
   ·exact hl w hw
section
variable {P:PL}{k:Int}
def KF (P:PL)(k:Int)(l:List (V×V)):Prop:=∀p∈l,p.1.one P k (-1)=0∧p.1.bits<18446744073709551616
theorem Vi {l:List (V×V)}(h1:KF P k l)(hs:Zm (fun x y:V×V=>kl k x.1 y.1) l)(hu:l.Pairwise fun q p=>Xz q.1 p.1=false):l.Pairwise fun x y=>kl k x.1 y.1=true:=by
 unfold Zm at hs;rw[Qqa]at *;intro i j hi hj hij;obtain⟨a1,a2⟩:=h1 _ (QoP hi);obtain⟨b1,b2⟩:=h1 _ (QoP hj);exact Mt b1 a1 b2 a2 (hs i j hi hj hij) (by rw[Ur];exact hu i j hi hj hij)
theorem Rj {A:List (V×V)}{x:V×V}(hA:KF P k A)(hx:x.1.one P k (-1)=0∧x.1.bits<18446744073709551616)(hu:A.Pairwise fun q p=>Xz q.1 p.1=false):dl (QX k (A++[x]))=ZI k A x:=by
 have hO:(QX k A).Perm A:=QR _;have hOs:Zm (fun x y:V×V=>kl k x.1 y.1) (QX k A):=Zh (J2 k) _;have hT:QX k (A++[x])=mg (fun x y:V×V=>kl k x.1 y.1) (QX k A) [x]:=(Yg (J2 k) A [x]).symm;have hOf:KF P k (QX k A):=fun p hp=>hA p (hO.mem_iff.1 hp)
 have hOu:(QX k A).Pairwise fun q p=>Xz q.1 p.1=false:=(hO.pairwise_iff fun {a b} h=>by rw[Ur];exact h).2 hu
 have hst:=Vi hOf hOs hOu;obtain⟨L,R,e,hl,hr⟩:=Vh (k:=k) (x:=x) hOs;rw[hT,e,Ui hl hr];rw[e]at hst;obtain⟨hL,hR,hLR⟩:=Qpz.1 hst;have hxR:(x :: R).Pairwise fun x y=>kl k x.1 y.1=true:=Qpy.2 ⟨hr,hR⟩
 rw[Ec hL hl,Vg hxR];have hmem:∀w,w∈A↔w∈L∨w∈R:=fun w=>by rw[←hO.mem_iff,e,Qph]
 have hpm:∀w,w∈ZI k A x↔(w∈A∧Xz w.1 x.1=false)∨w=x:=by
  intro w;have hp:(ZI k A x).Perm _:=QR _;rw[hp.mem_iff,Qph,Qpw,Qp8];simp
 refine Ri (k:=k) ?_ ?_ ?_
 ·rw[Qpz];refine⟨hL.filter _,hxR,fun u hu' w hw=>?_⟩;obtain⟨u1,u2⟩:=Qpw.1 hu';have u2:Xz u.1 x.1=false:=by simpa using u2
  rcases Qpk.1 hw with rfl|hw
  ·obtain⟨f1,f2⟩:=hA u ((hmem u).2 (.inl u1));exact Mt hx.1 f1 hx.2 f2 (hl u u1) (by rw[Ur];exact u2)
  ·exact hLR u u1 w hw
 ·refine Vi (P:=P) (fun p hp=>?_) (Zh (J2 k) _) (Rf hu);rcases(hpm p).1 hp with⟨h,_⟩|rfl
  ·exact hA p h
  ·exact hx
 ·intro w;rw[Qph,Qpw,Qpk,hpm,hmem]
  constructor
  ·rintro(⟨h1,h2⟩|h1|h1)
   ·exact .inl ⟨.inl h1,by simpa using h2⟩
   ·exact .inr h1
   ·exact .inl ⟨.inr h1,by rw[Ur];exact MQ (hr w h1)⟩
  ·rintro(⟨h1|h1,h2⟩|h1)
   ·exact .inl ⟨h1,by simpa using h2⟩
   ·exact .inr (.inr h1)
   ·exact .inr (.inl h1)
end
def PqI (T:List (V×V))(k:Nat)(st:St):Prop :=
 ∃f fr i g h,st=⟨f,[fr],[]⟩∧k=T.length-i∧i≤T.length∧f 3=.vec 0 1000 g 0 T.length false∧f 4=.vec 0 4 h 0 (KW T i).length false∧f 11=.vec 0 1000 g 0 T.length false∧f 12=.int .i64 (T.length:Nat)∧f 13=.int .i64 (i:Nat)∧fr 1000=.vec g 14 (T.map V.pav)∧fr 4=.vec h 14 ((KW T i).map V.pav)∧∀s∈[6],(fr s).isRow=false
theorem Qa3 {P:PL}{k:Int}(hk:XU k)(ps:List (V×V))(hn:ps.length≤1048576)(h1:∀p∈ps,p.1.one P k (-1)=0)(hb:∀p∈ps,p.1.bits<18446744073709551616):Qg Tryz.prog 165 [.list (ps.map V.pav)] (.list ((dl (QX k ps)).map V.pav)):=by
 have cl:=fun fr hr=>QfJ (ps.map V.pav) fr [] (JH ps) (by rw[QoS];exact hn) hr
 have ez:∀x∈ps.map V.pav,Ez (eP P k) 14 x:=by
  intro x hx;obtain⟨p,hp,rfl⟩:=Qpi.1 hx;exact ezP (h1 p hp) (hb p hp)
 have cs:=fun g (m:Qj) (hl:Am.Qd m 0 1000=.vec g 14 (ps.map V.pav))=>Tz.Sx Tg.AL (by decide) (QfK (P:=P) hk) 0 1000 g (ps.map V.pav) m hl ez (by rw[QoS];omega)
 simp only[Md,QoS]at cs;have hperm:(QX k ps).Perm ps:=QR _;have hlen:(QX k ps).length=ps.length:=hperm.length_eq;have h1T:∀p∈QX k ps,p.1.one P k (-1)=0:=fun p hp=>h1 p (hperm.mem_iff.1 hp)
 have hbT:∀p∈QX k ps,p.1.bits<18446744073709551616:=fun p hp=>hb p (hperm.mem_iff.1 hp)
 generalize QX k ps=T at *;have hdn:=QcY T;have hdl:=Rh T;rw[←hdn];refine wF Tryz.func165 ?_;simp only[eK,Tryz.f165,seval];simp only[Qa,seval];refine Qh (cl _ rfl) (by simp only[Qov,QoZ,Qa,seval]) ?_;simp only[QoS,Qa,seval];refine Qh (cs _ _ (by simp only[eE,seval]<;>rfl)) (by simp only[Qov,QoZ,Qa,seval]) ?_;simp only[eE,seval];refine ZG (by simp only[Qa,seval]) (by simp only[Qa,seval]) ?_;simp only[eE,seval];refine Qi (PqI T) _ ⟨_,_,0,_,_,rfl,rfl,Qn6 _,(by rw[hlen];exact rfl),rfl,(by rw[hlen];exact rfl),(by rw[hlen];exact rfl),rfl,rfl,rfl,by simp<;>rfl⟩ ?_;rintro _ st ⟨f0,fr0,i,g,h,rfl,rfl,hil,h30,h40,h110,h120,h130,mR0,m40,r6⟩;refine QL (a:=_) [6] r6 ?_;intro f fr hf hm hn6;have h3:f 3=.vec 0 1000 g 0 T.length false:=by rw[hf,h30]<;>rfl
 have h4:f 4=.vec 0 4 h 0 (KW T i).length false:=by rw[hf,h40]<;>rfl
 have h11:f 11=.vec 0 1000 g 0 T.length false:=by rw[hf,h110]<;>rfl
 have h12:f 12=.int .i64 (T.length:Nat):=by rw[hf,h120]<;>rfl
 have h13:f 13=.int .i64 (i:Nat):=by rw[hf,h130]<;>rfl
 have mR:fr 1000=.vec g 14 (T.map V.pav):=by rw[hm 1000 (by decide),mR0]<;>rfl
 have m4:fr 4=.vec h 14 ((KW T i).map V.pav):=by rw[hm 4 (by decide),m40]<;>rfl
 have n6:=hn6 6 (by decide);clear hf hm hn6 h30 h40 h110 h120 h130 mR0 m40 r6;simp only[h12,h13,Qa,seval];by_cases hlt:i<T.length
 ·obtain⟨x,hi⟩:∃x,T[i]? = some x:=⟨T[i],QnX hlt⟩;have hg:=J3 hi;have e1:=Qs i _ hlt (by simp only[maxLen];omega);have ia:∀(fr:Nat→Ob) (j:Nat),fr 1000=.vec g 14 (T.map V.pav)→j<T.length→Qf [fr] 14 none (.vec 0 1000 g 0 T.length false) ((j:Nat):Int)=some (.vptr 0 1000 g j 0):=fun fr j h hj=>Iy h hj
  have la:∀(fr:Nat→Ob),fr 1000=.vec g 14 (T.map V.pav)→Xt [fr] (some 14) (.vptr 0 1000 g i 0)=some (.agg [.int .i64 x.1.kd,.int .u64 (x.1.bits:Nat),.str x.1.text,.list (x.1.list.map V.av),.list (x.1.pairs.map V.pav),.list (x.1.slots.map V.sav),.list (x.1.raws.map R.av),.int .i64 x.2.kd,.int .u64 (x.2.bits:Nat),.str x.2.text,.list (x.2.list.map V.av),.list (x.2.pairs.map V.pav),.list (x.2.slots.map V.sav),.list (x.2.raws.map R.av)]):=fun fr h=>Mc h hg (by simp)
  have hdi:=hdl i;have keep:KW T (i+1)=KW T i++[x]→∀(f':Fr) (fr':Nat→Ob) (h':Nat),f' 3=.vec 0 1000 g 0 T.length false→f' 4=.vec 0 4 h' 0 ((KW T i).length+1) false→f' 11=.vec 0 1000 g 0 T.length false→f' 12=.int .i64 (T.length:Nat)→f' 13=.int .i64 ((i+1:Nat):Int)→fr' 1000=.vec g 14 (T.map V.pav)→fr' 4=.vec h' 14 ((KW T i).map V.pav++[V.pav x])→(∀s∈[6],(fr' s).isRow=false)→∃k,k<T.length-i∧PqI T k ⟨f',[fr'],[]⟩:=by
   intro hk' f' fr' h' a3 a4 a11 a12 a13 b1 b4 b6;exact⟨T.length-(i+1),by omega,f',fr',i+1,g,h',rfl,rfl,by omega,a3,by rw[a4,hk',QoB];rfl,a11,a12,a13,b1,by rw[b4,hk',QpL];rfl,b6⟩
  have hst:KW T (i+1)=KW T i++(match T[i]?,T[i+1]? with
   |some x,some y=>if Xz x.1 y.1=true then []else [x]
   |some x,none=>[x]
   |none,_=>[]):=rfl
  rw[hi]at hst;have hti:((KW T i).map V.pav).length=(KW T i).length:=QoS ..;simp only[QA hlt,ia,la,mR,hlt,n6,h3,h11,h13,e1,eE,seval];by_cases hl:i+1=T.length
  ·have d1:(((i+1:Nat):Int)==(T.length:Int))=true:=by simp;omega
   rw[Qpm (by omega)]at hst;simp only[d1,h4,eE,seval];refine QO (l:=[V.pav x]) rfl rfl rfl (by rw[Z0];rfl) ?_;refine QK (site:=4) (g:=h) (n:=(KW T i).length) (xs:=(KW T i).map V.pav) (ys:=[V.pav x]) rfl m4 rfl hti.symm rfl (JH [x]) (by simp only[Qoc,QoT,maxLen];omega) (by simp only[Qoc,QoT];omega) ?_;simp only[h13,e1,Qa,seval];exact keep hst _ _ (h+1) h3 rfl h11 h12 rfl mR rfl (by simp<;>rfl)
  ·have d1:(((i+1:Nat):Int)==(T.length:Int))=false:=by simp;omega
   have hlt1:i+1<T.length:=by omega
   obtain⟨y,hj⟩:∃y,T[i+1]? = some y:=⟨T[i+1],QnX hlt1⟩;have hgj:=J3 hj;have lc:∀(fr:Nat→Ob),fr 1000=.vec g 14 (T.map V.pav)→Xt [fr] (some 7) (.vptr 0 1000 g (i+1) 0)=some (.agg [.int .i64 y.1.kd,.int .u64 (y.1.bits:Nat),.str y.1.text,.list (y.1.list.map V.av),.list (y.1.pairs.map V.pav),.list (y.1.slots.map V.sav),.list (y.1.raws.map R.av)]):=fun fr h=>by
    rw[Mc h hgj (by simp)];rfl
   have hx1:=h1T x (Qob hi);have hy1:=h1T y (Qob hj);rw[hj]at hst;dsimp only at hst;have hq:=Ig k hk x.1.bits y.1.bits x.1.text y.1.text;rw[←(JF hx1).1,←(JF hy1).1,Nl hk hx1 hy1 (hbT x (Qob hi)) (hbT y (Qob hj)),Qc,Qc]at hq;simp only[d1,ia,lc,mR,hlt1,YG,Qom,Qow,Qo6,QoF,h3,e1,eE,seval];refine aC hq ?_;cases hne:Xz x.1 y.1
   ·skip
    rw[hne,Qn4 (by simp)]at hst;simp only[h4,eE,seval];refine QO (l:=[V.pav x]) rfl rfl rfl (by rw[Z0];rfl) ?_;refine QK (site:=4) (g:=h) (n:=(KW T i).length) (xs:=(KW T i).map V.pav) (ys:=[V.pav x]) rfl m4 rfl hti.symm rfl (JH [x]) (by simp only[Qoc,QoT,maxLen];omega) (by simp only[Qoc,QoT];omega) ?_;simp only[h13,e1,Qa,seval];exact keep hst _ _ (h+1) h3 rfl h11 h12 rfl mR rfl (by simp<;>rfl)
   ·rw[hne,Qn5 rfl,Qo1]at hst;simp only[h13,e1,Qa,seval];exact⟨T.length-(i+1),by omega,_,_,i+1,g,h,rfl,rfl,by omega,h3,(by rw[hst];exact h4),h11,h12,rfl,mR,(by rw[hst];exact m4),by simp<;>rfl⟩
 ·have e:i=T.length:=by omega
  subst e;simp only[QH hlt,h4,eE,seval];simp[AV.un,ZE,XO,m4];rw[Qox (by rw[QoS];exact QnV _)]
open Vp Cp
section
variable {M K n:Nat}(P:PL)(hP:P.ok M)(c:C)(l s:Nat)(m:Qj)(hm:l<m.length)(hs:Am.Qd m l s=Xh P c)(hc:CI c){rec:Int→V→C→Rd V}(hrec:Fq P M K n rec)(hcn:c.left≤n)(hb1:(1:Int)+3*c.left≤K)
include hP hm hs hc hrec hcn hb1 in
theorem QlF (o:PO)(w:Int)(ht:o.kind=10→0≤o.target∧o.target<(P.progs.length:Int)) :
  Qe Tryz.prog 232 [.ptr l s 0,Qv o,.int .i64 w] m (Rt P l s m V.av (ZD P rec o.kind o.target w c)):=by
 have hs0:=hs;have lp:∀o,Am.Qd (Am.put m l s o) l s=o:=fun o=>Qq hm
 have pp:=fun o q=>@put_put m l s o q
 have hwo:=MM o;simp only[Qv,PO.cells]at hwo;refine wG Tryz.func232 ?_;simp only[eK,Tryz.f232,seval];simp only[Qv,PO.cells,eE,seval];refine aC hwo ?_;unfold ZD;by_cases hw:w=wk o.kind
 case neg=>
  have b1:(w != wk o.kind)=true:=by simp[hw]
  rw[Qn4 hw];simp only[b1,eE,seval];exact⟨by decide,QD 0 0 [],c,(by rw[avs];rfl),(put_self hm hs0).symm⟩
 have b1:(w != wk o.kind)=false:=by simp[hw]
 rw[Qn5 hw];by_cases hk:o.kind=10
 ·have b2:(o.kind==10)=true:=by simp[hk]
  rw[Qn5 hk];simp only[b1,b2,Wu,eE,seval];refine K5 (Qf8 P c (l+1) s _ (by simp only[Qoc];omega) hs0 hc hrec (ht hk) (QD 10 0 []) 0 (Qpn 0) hcn (fun hn=>Jf hn) (Jd rfl (by decide) (Qn6 _)) (by rw[XW];omega)) (by rw[avs];first|rfl|simp only[Qov,QoZ,BP,nn0,eE,seval]) ?_;intro x m1 hx _;cases hr:W6 rec o.target (QD 10 0 []) 0 c with
  |error e=>
   rw[hr]at hx;obtain⟨he,y,c',rfl,rfl⟩:=hx;simp only[Qc y,QV,eE,seval];exact⟨he,y,c',by rw[Qc y],rfl⟩
  |ok p=>
   obtain⟨y,d⟩:=p;rw[hr]at hx;obtain⟨rfl,rfl⟩:=hx;simp only[Qc y,QV,eE,seval];exact⟨by rw[Qc y],rfl⟩
 ·have b2:(o.kind==10)=false:=by simp[hk]
  rw[Qn4 hk];simp only[b1,b2,Wu,eE,seval];refine QM (Qf3 P c (l+1) s _ (by simp only[Qoc];omega) hs0 hc w) (by simp only[Qov,QoZ,Qa,seval]) ?_;intro x m1 hx _;cases hr:Jp w c with
  |error e=>
   rw[hr]at hx;obtain⟨he,y,c',rfl,rfl⟩:=hx;dsimp only;simp only[Xb he,R.av,QV,eE,seval];exact⟨he,QD 0 0 [],c',(by rw[avs];rfl),rfl⟩
  |ok p=>
   obtain⟨f,d⟩:=p;rw[hr]at hx;obtain⟨rfl,rfl⟩:=hx;obtain⟨_,_,b3,b4⟩:=Bm hc hr;have hsc:=Qf6 P hP o f b3;have e0:=zq P;dsimp only;generalize Xk P o.kind o.target f=q at hsc ⊢;obtain⟨x,e⟩:=q;simp only[Yp,e0,Qv,PO.cells,R.av,Qc x]at hsc;simp only[R.av,Xh,lp,sh2,eE,seval];refine aC hsc ?_;simp only[QV,eE,seval];by_cases he:e=0
   ·subst he;rw[Qn5 rfl];exact⟨by rw[Qc x];rfl,rfl⟩
   ·rw[Qn4 he];exact⟨he,x,d,by rw[Qc x],rfl⟩
variable (g:PG)(hg:g.ops.length≤maxLen)(v:V)(hv:(v.cnt:Int)+3*c.left≤K)(hK:K≤1000000)(hvo:v.ok M)(o:PO)
include hm hs hc hrec hcn hb1 hg hv hK hvo in
theorem QlG (ho:OpK P g o)(h10:o.kind=10)(h5:o.card≠5)(hvm:MW P (n+1) g v) :
  Qe Tryz.prog 181 [.ptr l s 0,Qn g,v.av,Qv o] m (Rt P l s m V.av (KS rec g v o c)):=by
 have hs0:=hs;have lp:∀o,Am.Qd (Am.put m l s o) l s=o:=fun o=>Qq hm
 have pp:=fun o q=>@put_put m l s o q
 have ls:=Zj v;have hcb:=hc.bd;have ht:=ho.uo.tgt h10;have hfd:=A9 v o.num (by omega);have hoc:=Dv v o.num;have hol:=GW (n:=o.num) hvo;have hin:=fun(fr:Nat→Ob) (b:V) (k:Int) (h0:0≤k) (h1:1≤n→MW P n (Qk P o.target) b) (h2:b.ok M) (h3:(b.cnt:Int)+3*c.left≤K)=>Qf8 P c (l+1) s (fr :: m) (by simp only[Qoc];omega) hs0 hc hrec ht b k h0 hcn h1 h2 h3
 have hset:=fun y=>SK g v o y hg (by omega)
 have hlo:=fun x=>Qf0 (QW v o.num) x (by have:=ZJ (QW v o.num);omega)
 have hon:∀h:(XV v o.num).isSome=false,QW v o.num=QD 0 0 []:=fun h=>Je (by rw[h];simp)
 have hom:o.card≠4→(XV v o.num).isSome=true→MW P n (Qk P o.target) (QW v o.num):=by
  intro h4 h;obtain⟨z,hz⟩:=Qop.1 h;have h2:=GX hvm ho.self hz;unfold FW at h2;rw[Qn4 h4,Qn4 h5]at h2;rw[(XE hz).2];exact h2 h10
 rw[Qc v]at hset;simp only[Qn,Qv,PG.cells,PO.cells]at hset;unfold KS;generalize QW v o.num=z at hfd hlo hoc hol hon hom ⊢;rw[Qc v,Qc z]at hfd;rw[Qc z]at hlo;rw[Qc v];refine wG Tryz.func181 ?_;simp only[eK,Tryz.f181,seval];simp only[Qn,Qv,PG.cells,PO.cells,eE,seval];refine aC hfd ?_;by_cases h4:o.card=4
 ·have b4':(o.card==4)=true:=by simp[h4]
  rw[Qn5 h4];cases hf:(XV v o.num).isSome
  case false=>
   have hkk:(if (false:Bool)=true then(1:Int)else 2)=2:=rfl;rw[hkk];simp only[b4',Wu,eE,seval];refine K5 (hin _ (QD 10 0 []) 2 (by decide) (fun hn=>Jf hn) (Jd rfl (by decide) (Qn6 _)) (by rw[XW];omega)) (by rw[avs];first|rfl|simp only[Qov,QoZ,BP,nn0,eE,seval]) ?_;intro x m1 hx _;cases hr:W6 rec o.target (QD 10 0 []) 2 c with
   |error e=>
    rw[hr]at hx;obtain⟨he,y,c',rfl,rfl⟩:=hx;dsimp only;simp only[Xb he,Qc y,QV,eE,seval];exact⟨he,v,c',by rw[Qc v],rfl⟩
   |ok p=>
    obtain⟨y,d⟩:=p;rw[hr]at hx;obtain⟨rfl,rfl⟩:=hx;have h1:=hlo y;have h2:=hset (QZ (z.list++[y]));dsimp only;generalize XK g v o (QZ (z.list++[y]))=w at h2 ⊢;generalize QZ (z.list++[y])=u at h1 h2;rw[Qc y,Qc u]at h1;rw[Qc u,Qc w]at h2;simp only[Qc y,eE,seval];refine aC h1 ?_;refine aC h2 ?_;simp only[QV,eE,seval];exact⟨by rw[Qc w],rfl⟩
  case true=>
   have hkk:(if (true:Bool)=true then(1:Int)else 2)=1:=rfl;rw[hkk];simp only[b4',Wu,eE,seval];refine K5 (hin _ (QD 10 0 []) 1 (by decide) (fun hn=>Jf hn) (Jd rfl (by decide) (Qn6 _)) (by rw[XW];omega)) (by rw[avs];first|rfl|simp only[Qov,QoZ,BP,nn0,eE,seval]) ?_;intro x m1 hx _;cases hr:W6 rec o.target (QD 10 0 []) 1 c with
   |error e=>
    rw[hr]at hx;obtain⟨he,y,c',rfl,rfl⟩:=hx;dsimp only;simp only[Xb he,Qc y,QV,eE,seval];exact⟨he,v,c',by rw[Qc v],rfl⟩
   |ok p=>
    obtain⟨y,d⟩:=p;rw[hr]at hx;obtain⟨rfl,rfl⟩:=hx;have h1:=hlo y;have h2:=hset (QZ (z.list++[y]));dsimp only;generalize XK g v o (QZ (z.list++[y]))=w at h2 ⊢;generalize QZ (z.list++[y])=u at h1 h2;rw[Qc y,Qc u]at h1;rw[Qc u,Qc w]at h2;simp only[Qc y,eE,seval];refine aC h1 ?_;refine aC h2 ?_;simp only[QV,eE,seval];exact⟨by rw[Qc w],rfl⟩
 ·have b4':(o.card==4)=false:=by simp[h4]
  rw[Qn4 h4];cases hf:(XV v o.num).isSome
  case false=>
   have hkk:(if (false:Bool)=true then z else QD 10 0 [])=QD 10 0 []:=rfl;rw[hkk];simp only[b4',Wu,eE,seval];refine K5 (hin _ (QD 10 0 []) 1 (by decide) (fun hn=>Jf hn) (Jd rfl (by decide) (Qn6 _)) (by rw[XW];omega)) (by rw[Qc (QD 10 0 [])];first|rfl|simp only[Qov,QoZ,BP,nn0,eE,seval]) ?_;intro x m1 hx _;cases hr:W6 rec o.target (QD 10 0 []) 1 c with
   |error e=>
    rw[hr]at hx;obtain⟨he,y,c',rfl,rfl⟩:=hx;dsimp only;simp only[Xb he,Qc y,QV,eE,seval];exact⟨he,v,c',by rw[Qc v],rfl⟩
   |ok p=>
    obtain⟨y,d⟩:=p;rw[hr]at hx;obtain⟨rfl,rfl⟩:=hx;have h2:=hset y;dsimp only;generalize XK g v o y=w at h2 ⊢;rw[Qc y,Qc w]at h2;simp only[Qc y,eE,seval];refine aC h2 ?_;simp only[QV,eE,seval];exact⟨by rw[Qc w],rfl⟩
  case true=>
   have hkk:(if (true:Bool)=true then z else QD 10 0 [])=z:=rfl;rw[hkk];simp only[b4',Wu,eE,seval];refine K5 (hin _ (z) 1 (by decide) (fun _=>hom h4 hf) (hol) (by omega)) (by rw[Qc (z)];first|rfl|simp only[Qov,QoZ,BP,nn0,eE,seval]) ?_;intro x m1 hx _;cases hr:W6 rec o.target (z) 1 c with
   |error e=>
    rw[hr]at hx;obtain⟨he,y,c',rfl,rfl⟩:=hx;dsimp only;simp only[Xb he,Qc y,QV,eE,seval];exact⟨he,v,c',by rw[Qc v],rfl⟩
   |ok p=>
    obtain⟨y,d⟩:=p;rw[hr]at hx;obtain⟨rfl,rfl⟩:=hx;have h2:=hset y;dsimp only;generalize XK g v o y=w at h2 ⊢;rw[Qc y,Qc w]at h2;simp only[Qc y,eE,seval];refine aC h2 ?_;simp only[QV,eE,seval];exact⟨by rw[Qc w],rfl⟩
end
def Wv (c:C):List AV:=[.str c.d,.int .i64 c.a,.int .i64 c.e,.int .i64 c.dp,.int .i64 c.nd,.int .i64 c.tx]
section
variable {M K n:Nat}(hM:3000≤M)(hK:K≤1000000)(P:PL)(hP:P.ok M)(l s:Nat)(m:Qj)(hm:l<m.length)(g:PG)(hg:g.ops.length≤maxLen)(o:PO)(ho:OpK P g o)(h5:o.card≠5)
structure PkF (g:PG)(o:PO)(d:C)(l s:Nat)(f:Fr)(fr:Nat→Ob)(v:V):Prop where
 f0:f 0=.ptr (l+1) s 0
 f5:f 5=.ptr 0 5 0
 f6:f 6=.ptr 0 6 0
 f7:f 7=.ptr 0 7 0
 f8:f 8=.ptr 0 8 0
 f12:f 12=.ptr 0 12 0
 m5:fr 5=.cells g.cells
 m6:fr 6=.cells (vc v)
 m7:fr 7=.cells o.cells
 m8:fr 8=.cells JS
 m12:fr 12=.cells (Wv d)
include hM hK hP hm hg ho h5 in
theorem Rk (d:C)(R0:Rd V)(k:Nat)(v:V)(c:C)(f:Fr)(fr:Nat→Ob)(hf:PkF g o d l s f fr v)(hc:CI c)(hk:c.left≤k)(hR:Jq P g o k v c=R0)(hvm:MW P (n+1) g v)(hvo:v.ok M)(hb:(v.cnt:Int)+3*c.left≤K)(Q:Exit→St→Prop)
  (hx:∀f fr v c,PkF g o d l s f fr v→R0=.ok (v,c)→Q (.exit 0) ⟨f,fr :: Am.put m l s (Xh P c),[]⟩)
  (he:∀f fr v (e:Nat) c,f 8=.ptr 0 8 0→fr 8=.cells (vc v)→f 9=.int .i64 (e:Nat)→R0=.error e→e≠0→Q .ret ⟨f,fr :: Am.put m l s (Xh P c),[]⟩) :
  Q2 Tryz.prog (.loop TC) ⟨f,fr :: Am.put m l s (Xh P c),[]⟩ Q:=by
 have lp:∀o,Am.Qd (Am.put m l s o) l s=o:=fun o=>Qq hm
 have pp:=fun o q=>@put_put m l s o q
 have hpl:∀o,l+1<(Am.put m l s o).length+1:=fun o=>by rw[QV];omega
 let I:Nat→St→Prop:=fun k st=>∃f fr v c,st=⟨f,fr :: Am.put m l s (Xh P c),[]⟩∧PkF g o d l s f fr v∧CI c∧c.left≤k∧Jq P g o k v c=R0∧MW P (n+1) g v∧v.ok M∧(v.cnt:Int)+3*c.left≤K
 refine Qi I k ⟨f,fr,v,c,rfl,hf,hc,hk,hR,hvm,hvo,hb⟩ ?_;clear hf hc hk hR hvm hvo hb;rintro k st ⟨f,fr,v,c,rfl,hf,hc,hk,hR,hvm,hvo,hb⟩;have hcb:=hc.bd;obtain⟨h0,h5',h6,h7,h8,h12,m5',m6',m7',m8',m12'⟩:=hf;have m5:=m5';have m6:=m6';have m7:=m7';have m8:=m8';simp only[PG.cells]at m5;simp only[vc]at m6;simp only[PO.cells]at m7;simp only[JS]at m8;simp only[Xh,lp,h0,Jt,eE,seval];refine aC (N0 c hc.big') ?_;by_cases hlt:0<c.left
 case neg=>
  have d1:decide (c.left > 0)=false:=QpQ hlt;have hR':R0=.ok (v,c):=by
   rw[←hR];cases k with
   |zero=>rfl
   |succ k=>rw[Jq,Qn4 hlt]
  simp only[d1,Qa,seval];exact hx _ _ v c ⟨h0,h5',h6,h7,h8,h12,m5',m6',m7',m8',m12'⟩ hR'
 have d1:decide (c.left > 0)=true:=QpY hlt;obtain⟨k,rfl⟩:∃j,k=j+1:=⟨k-1,by omega⟩;rw[Jq,Qn5 hlt]at hR;have hon:=Qf7 P hP c (l+1) s (fr :: Am.put m l s (Xh P c)) (by exact hpl _) (by exact lp _) hc g hg v (by omega) o;rw[Qc v]at hon;simp only[Qn,Qv,PG.cells,PO.cells,Xh]at hon;simp only[d1,h0,h5',h6,h7,m5,m6,m7,eE,seval];refine QM hon (by simp only[Qov,QoZ,Qa,seval]<;>rfl) ?_;intro x m1 hx1 _;cases hr:KE P g v o c with
 |error e=>
  rw[hr]at hx1 hR;obtain⟨he',w,c',rfl,rfl⟩:=hx1;simp only[Qc w,Xb he',h6,h8,m6,m8,pp,eE,seval];exact he _ _ w e c' h8 rfl rfl hR.symm he'
 |ok p=>
  obtain⟨w,d1⟩:=p;rw[hr]at hx1 hR;obtain⟨rfl,rfl⟩:=hx1;obtain⟨r1,r2,r3,r4⟩:=NA hM hK ho hc hvm hvo hb h5 hr;have hl:=r1.lt hc;dsimp only at hR;simp only[Qc w,h6,m6,pp,eE,seval];exact⟨k,by omega,_,_,w,d1,rfl,⟨h0,h5',h6,h7,h8,h12,m5',rfl,m7',m8',m12'⟩,r1.ci hc,by omega,hR,r2,r3,by omega⟩
variable (c:C)(hs:Am.Qd m l s=Xh P c)(hc:CI c)(v:V)(hvm:MW P (n+1) g v)(hvo:v.ok M)(hb:(v.cnt:Int)+3*c.left≤K)
include hM hK hP hm hg ho h5 hs hc hvm hvo hb in
theorem QlH (h4:o.card=4) :
  Qe Tryz.prog 179 [.ptr l s 0,Qn g,v.av,Qv o] m (Rt P l s m V.av (WU P g v o c)):=by
 have hs0:=hs;have lp:∀o,Am.Qd (Am.put m l s o) l s=o:=fun o=>Qq hm
 have pp:=fun o q=>@put_put m l s o q
 have hpl:∀o,l+1<(Am.put m l s o).length+1:=fun o=>by rw[QV];omega
 have ls:=Zj v;have hcb:=hc.bd;have hwo:=MM o;have hfd:=A9 v o.num (by omega);have hset:=SK g v o (QZ []) hg (by omega);have hok:=KT (g:=g) (x:=QZ []) hvo ho.wf (Hp (fun y hy=>(nomatch hy)) (Qn6 _)) (by omega);have hmw:=KU (x:=QZ []) hvm ho.self (by unfold FW;rw[Qn5 h4];exact fun y hy=>(nomatch hy));have hct:=Wl g v o (QZ []);rw[Yo]at hct;simp only[Q6]at hct;unfold WU;rw[show(QZ []).av=.agg [.int .i64 11,.int .u64 0,.str [],.list [],.list [],.list [],.list []]from Qc _]at hset;generalize XK g v o (QZ [])=w at hset hok hmw hct ⊢;rw[Qc v,Qc w]at hset;generalize QW v o.num=z at hfd;rw[Qc v,Qc z]at hfd;simp only[Qn,Qv,PG.cells,PO.cells]at hset hwo;rw[Qc v];refine QdW.go (by simp) ?_;simp only[Qn,Qv,PG.cells,PO.cells,eE,seval];refine QM (SL P c (l+1) s _ (by simp only[Qoc];omega) hs0 hc) (by simp only[Qov,QoZ,Qa,seval]) ?_;intro x m1 hx _;cases hr:Wr c with
 |error e=>
  rw[hr]at hx;obtain⟨he,a,c',rfl,rfl⟩:=hx;dsimp only;simp only[Xb he,QV,eE,seval];exact⟨he,v,c',by rw[Qc v],rfl⟩
 |ok p=>
 obtain⟨q,d⟩:=p;obtain⟨a1,a2⟩:=YB hc hr;have hd:=a1.ci hc;have hl1:=a1.lt hc;have hdb:=hd.bd;rw[hr]at hx;obtain⟨rfl,rfl⟩:=hx;obtain⟨_,p2,p3⟩:=Yi hd a2;dsimp only;simp only[eE,seval];refine QM (Qf4 P d (l+1) s _ (by exact lp _) q) (by simp only[Qov,QoZ,Qa,seval]) ?_;rintro x m1 ⟨rfl,rfl⟩ _;have hby:=Qk5 (part d q) p2.big';have hya:=PU p2;generalize part d q=i at hby hya p2 p3 ⊢;generalize ZV i=r at hby hya ⊢;obtain⟨b,j,e⟩:=r;dsimp only at hya;simp only[Sl,C.av]at hby;simp only[C.av,Xh,lp,pp,Jt,Jg,eE,seval];refine aC hby ?_;by_cases he:e=0
 case neg=>
  rw[Qn4 he];simp only[Xb he,Jg,QV,eE,seval];exact⟨he,v,i,by rw[Qc v],rfl⟩
 subst he;obtain⟨y1,y2,y3⟩:=hya rfl;have hj:=y1.ci p2;have hlj:=y1.lt p2;have hjb:=hj.bd;have w1:IntKind.i64.wrap b=b:=by rw[Qz];omega
 rw[Qn5 rfl];simp only[w1,lp,pp,Jt,Jg,eE,seval];refine aC hwo ?_;by_cases hw:b=wk o.kind
 case neg=>
  have b1:(b != wk o.kind)=true:=by simp[hw]
  rw[Qn4 hw];simp only[b1,QV,eE,seval];exact⟨by decide,v,j,by rw[Qc v];rfl,rfl⟩
 have b1:(b != wk o.kind)=false:=by simp[hw]
 rw[Qn5 hw];simp only[b1,Wu,eE,seval];refine aC hfd ?_
 -- JP the loop
 cases hf:(XV v o.num).isSome
 case false=>
  simp only[Qog,eE,seval];refine QM (MN P j (l+1) s _ (by exact lp _) 1) (by simp only[Qov,QoZ,Qa,seval]) ?_;rintro x m1 ⟨rfl,rfl⟩ _;rcases KI j 1 with⟨j2,h2,h2'⟩|⟨e,he,h2,h2'⟩
  case inr=>
   rw[h2,h2'];dsimp only;simp only[Xb he,pp,QV,eE,seval];exact⟨he,v,_,by rw[Qc v],rfl⟩
  rw[h2,h2'];obtain⟨s1,_⟩:=JQ hj (by omega) h2;have hj2:=s1.ci hj;have hls:=(s1.left hj).2.2;have hj2b:=hj2.bd;dsimp only;simp only[pp,eE,seval];refine aC hset ?_;simp only[eE,seval];unfold WT;refine Rk (n:=n) hM hK P hP l s m hm g hg o ho h5 d _ j2.left.toNat w j2 _ _ ⟨(by rfl),(by rfl),(by rfl),(by rfl),(by rfl),(by rfl),(by rfl),(by rfl),(by rfl),(by rfl),(by rfl)⟩ hj2 (by omega) rfl hmw hok (by omega) _ (fun f fr v' c' hf' hR'=>?_) (fun f fr v' e c' h8 m8 h9 hR' he=>?_)
  ·obtain⟨h0,h5',h6,h7,h8,h12,m5,m6,m7,m8,m12⟩:=hf';rw[hR'];dsimp only;simp only[vc]at m6;simp only[JS]at m8;simp only[Wv]at m12;simp only[h0,h12,m12,Jt,eE,seval];refine QM (SM P c' (l+1) s _ (by exact lp _) d) (by simp only[Qov,QoZ,C.av,Qa,seval]) ?_;rintro x m1 ⟨rfl,rfl⟩ _;simp only[h6,h8,m6,m8,pp,QV,eE,seval];exact⟨by rw[Qc v'],rfl⟩
  ·rw[hR'];dsimp only;simp only[vc]at m8;simp only[h8,m8,h9,QV,eE,seval];exact⟨he,v',c',by rw[Qc v'],rfl⟩
 case true=>
  simp only[eE,seval];unfold WT;refine Rk (n:=n) hM hK P hP l s m hm g hg o ho h5 d _ j.left.toNat v j _ _ ⟨(by rfl),(by rfl),(by rfl),(by rfl),(by rfl),(by rfl),(by rfl),(by rfl),(by rfl),(by rfl),(by rfl)⟩ hj (by omega) rfl hvm hvo (by omega) _ (fun f fr v' c' hf' hR'=>?_) (fun f fr v' e c' h8 m8 h9 hR' he=>?_)
  ·obtain⟨h0,h5',h6,h7,h8,h12,m5,m6,m7,m8,m12⟩:=hf';rw[hR'];dsimp only;simp only[vc]at m6;simp only[JS]at m8;simp only[Wv]at m12;simp only[h0,h12,m12,Jt,eE,seval];refine QM (SM P c' (l+1) s _ (by exact lp _) d) (by simp only[Qov,QoZ,C.av,Qa,seval]) ?_;rintro x m1 ⟨rfl,rfl⟩ _;simp only[h6,h8,m6,m8,pp,QV,eE,seval];exact⟨by rw[Qc v'],rfl⟩
  ·rw[hR'];dsimp only;simp only[vc]at m8;simp only[h8,m8,h9,QV,eE,seval];exact⟨he,v',c',by rw[Qc v'],rfl⟩
end
def K8 (P:PL)(g:PG)(o:PO):Nat→V→C→V×C×Nat
 |0,v,c=>(v,c,0)
 |k+1,v,c=>if 0<c.left then(if (Us P g v o c).2.2=0 then K8 P g o k (Us P g v o c).1 (Us P g v o c).2.1 else Us P g v o c)else(v,c,0)
theorem DU (P:PL)(g:PG)(o:PO):∀(k:Nat) (v:V) (c:C),Jq P g o k v c=if (K8 P g o k v c).2.2=0 then .ok ((K8 P g o k v c).1,(K8 P g o k v c).2.1)else .error (K8 P g o k v c).2.2
 |0,v,c=>rfl
 |k+1,v,c=>by
  rw[Jq,K8,Vf];by_cases h:0<c.left
  ·rw[Qn5 h,Qn5 h];by_cases h1:(Us P g v o c).2.2=0
   ·rw[Qn5 h1,Qn5 h1];exact DU P g o k _ _
   ·rw[Qn4 h1,Qn4 h1,Qn4 h1]
  ·rw[Qn4 h,Qn4 h];rfl
def Ut (P:PL)(g:PG)(v:V)(o:PO)(c d i:C):V×C×Nat :=
 if (K8 P g o i.left.toNat v i).2.2=0 then((K8 P g o i.left.toNat v i).1,JP d (K8 P g o i.left.toNat v i).2.1,0)
 else((K8 P g o i.left.toNat v i).1,c,(K8 P g o i.left.toNat v i).2.2)
theorem Ga (P:PL)(g:PG)(v:V)(o:PO)(c d i:C):WT P g v o d i=if (Ut P g v o c d i).2.2=0 then .ok ((Ut P g v o c d i).1,(Ut P g v o c d i).2.1)else .error (Ut P g v o c d i).2.2:=by
 unfold WT Ut;rw[DU];generalize K8 P g o i.left.toNat v i=r;by_cases h:r.2.2=0
 ·simp only[Qn5 h,if_true]
 ·simp only[Qn4 h]
def Dw (P:PL)(g:PG)(v:V)(o:PO)(c:C):V×C×Nat :=
 match Wr c with
 |.error e=>(v,c,e)
 |.ok (n,d)=>
  if (ZV (part d n)).2.2=0 then
   if (ZV (part d n)).1=wk o.kind then
    if (XV v o.num).isSome=true then Ut P g v o c d (ZV (part d n)).2.1
    else if ((ZV (part d n)).2.1.spend 1).2=0 then Ut P g (XK g v o (QZ [])) o c d ((ZV (part d n)).2.1.spend 1).1
    else(v,c,((ZV (part d n)).2.1.spend 1).2)
   else(v,c,13)
  else(v,c,(ZV (part d n)).2.2)
theorem Pa (P:PL)(g:PG)(v:V)(o:PO)(c:C):WU P g v o c=if (Dw P g v o c).2.2=0 then .ok ((Dw P g v o c).1,(Dw P g v o c).2.1)else .error (Dw P g v o c).2.2:=by
 unfold WU Dw;cases hr:Wr c with
 |error e=>
  have he:=Vv hr;simp only[Qn4 he]
 |ok p=>
  obtain⟨n,d⟩:=p;dsimp only;by_cases h1:(ZV (part d n)).2.2=0
  case neg=>simp only[Qn4 h1]
  simp only[Qn5 h1];by_cases h2:(ZV (part d n)).1=wk o.kind
  case neg=>simp only[Qn4 h2];rfl
  simp only[Qn5 h2];by_cases h3:(XV v o.num).isSome=true
  ·simp only[Qn5 h3];exact Ga P g v o c d _
  simp only[Qn4 h3];unfold spd;by_cases h4:((ZV (part d n)).2.1.spend 1).2=0
  ·simp only[Qn5 h4];exact Ga P g _ o c d _
  ·simp only[Qn4 h4]
def zc6:List AV:=[.str [],.int .i64 0,.int .i64 0,.int .i64 0,.int .i64 0,.int .i64 0]
def Zs (P:PL):List AV:=[.list (P.progs.map Qn),.list (P.enums.map QC)]
section
variable {M K n:Nat}(hM:3000≤M)(hK:K≤1000000)(P:PL)(hP:P.ok M)(g:PG)(hg:g.ops.length≤maxLen)(o:PO)(ho:OpK P g o)(h5:o.card≠5)(hun : -1≤o.union)
structure PxF (P:PL)(g:PG)(o:PO)(c0 d:C)(f:Fr)(fr:Nat→Ob)(v:V)(c:C):Prop where
 f5:f 5=.ptr 0 5 0
 f6:f 6=.ptr 0 6 0
 f7:f 7=.ptr 0 7 0
 f8:f 8=.ptr 0 8 0
 f9:f 9=.ptr 0 9 0
 f10:f 10=.ptr 0 10 0
 f11:f 11=.ptr 0 11 0
 f14:f 14=.ptr 0 14 0
 f17:f 17=.ptr 0 17 0
 m5:fr 5=.cells (Zs P)
 m6:fr 6=.cells g.cells
 m7:fr 7=.cells (vc v)
 m8:fr 8=.cells o.cells
 m9:fr 9=.cells (Wv c0)
 m10:fr 10=.cells JS
 m11:fr 11=.cells zc6
 m14:fr 14=.cells (Wv d)
 m17:fr 17=.cells (Wv c)
end
section
variable {M K n:Nat}{rec:Int→V→C→Rd V}(P:PL)(hP:P.ok M)(o:PO)(x:V×V)(w:Int){c:C}(hc:CI c)
end
section
variable {P:PL}{k:Int}(ps:List (V×V))
end
def lz (b:Bool)(l:List AV):AV:=match b with
 |true=>.list l
 |false=>.nils
theorem YF {b:Bool}{l:List AV}(h:b=false→l=[]):nn0 (lz b l)=.list l:=by
 cases b
 ·rw[h rfl];rfl
 ·rfl
def kc (b:Bool)(y:V):List AV:=[.int .i64 y.kd,.int .u64 (y.bits:Nat),.str y.text,lz b (y.list.map V.av),lz b (y.pairs.map V.pav),lz b (y.slots.map V.sav),lz b (y.raws.map R.av)]
section
variable {M K n:Nat}(P:PL)(hP:P.ok M)(l s:Nat)(m:Qj)(hm:l<m.length){rec:Int→V→C→Rd V}(hrec:Fq P M K n rec)(hM:3000≤M)(hro:W3 P M K n rec)(g:PG)(o:PO)(ho:OpK P g o)(h5:o.card=5)
structure EnF (g:PG)(o:PO)(v z:V)(d:C)(l s:Nat)(f:Fr)(fr:Nat→Ob)(x:V×V)(a b:Bool):Prop where
 f0:f 0=.ptr (l+1) s 0
 f5:f 5=.ptr 0 5 0
 f6:f 6=.ptr 0 6 0
 f7:f 7=.ptr 0 7 0
 f8:f 8=.ptr 0 8 0
 f12:f 12=.ptr 0 12 0
 f14:f 14=.ptr 0 14 0
 f17:f 17=.ptr 0 17 0
 f18:f 18=.bool a
 f19:f 19=.bool b
 m5:fr 5=.cells g.cells
 m6:fr 6=.cells (vc v)
 m7:fr 7=.cells o.cells
 m8:fr 8=.cells JS
 m12:fr 12=.cells (vc z)
 m14:fr 14=.cells (Wv d)
 m17:fr 17=.cells (kc a x.1++kc b x.2)
 m22:(fr 22).isRow=false
 m145:Qo (fr 145)=true
include hP hm hrec hM hro ho h5 in
theorem Rl (v z:V)(d:C)(R0:Rd (V×V))(k:Nat)(x:V×V)(a b:Bool)(c:C)(f:Fr)(fr:Nat→Ob)(hf:EnF g o v z d l s f fr x a b)(hc:CI c)(hk:c.left≤k)(hcn:c.left≤n)(hb1:(1:Int)+3*c.left≤K)(hR:Jz P rec o k x a b c=R0)
  (hxa:a=false→x.1=QD o.key 0 []) (hxb:b=false→x.2=QD o.kind 0 []) (Q:Exit→St→Prop)
  (hx:∀f fr x a b c,EnF g o v z d l s f fr x a b→(a=false→x.1=QD o.key 0 [])→(b=false→x.2=QD o.kind 0 [])→R0=.ok (x,c)→Q (.exit 0) ⟨f,fr :: Am.put m l s (Xh P c),[]⟩)
  (he:∀f fr (e:Nat) c,f 8=.ptr 0 8 0→fr 8=.cells (vc v)→f 9=.int .i64 (e:Nat)→R0=.error e→e≠0→Q .ret ⟨f,fr :: Am.put m l s (Xh P c),[]⟩) :
  Q2 Tryz.prog (.loop TK) ⟨f,fr :: Am.put m l s (Xh P c),[]⟩ Q:=by
 have lp:∀o,Am.Qd (Am.put m l s o) l s=o:=fun o=>Qq hm
 have pp:=fun o q=>@put_put m l s o q
 have hpl:∀o,l+1<(Am.put m l s o).length+1:=fun o=>by rw[QV];omega
 have hky:=ho.uo.key h5;have hk10:o.key≠10:=by unfold XU at hky;omega
 let I:Nat→St→Prop:=fun k st=>∃f fr x a b c,st=⟨f,fr :: Am.put m l s (Xh P c),[]⟩∧EnF g o v z d l s f fr x a b∧CI c∧c.left≤k∧c.left≤n∧(1:Int)+3*c.left≤K∧Jz P rec o k x a b c=R0∧(a=false→x.1=QD o.key 0 [])∧(b=false→x.2=QD o.kind 0 [])
 refine Qi I k ⟨f,fr,x,a,b,c,rfl,hf,hc,hk,hcn,hb1,hR,hxa,hxb⟩ ?_;clear hf hc hk hcn hb1 hR hxa hxb;rintro k st ⟨f0,fr0,x,a,b,c,rfl,hf,hc,hk,hcn,hb1,hR,hxa,hxb⟩;have hcb:=hc.bd;obtain⟨h00,h50,h60,h70,h80,h120,h140,h170,h180,h190,m50,m60,m70,m80,m120,m140,m170,m22,m1450⟩:=hf;refine QL (a:=_) [22] (by intro s hs;simp only[Qp8]at hs;subst hs;exact m22) ?_;intro f fr hf hmm hn22;have h0:f 0=.ptr (l+1) s 0:=by rw[hf,h00]<;>rfl
 have h5':f 5=.ptr 0 5 0:=by rw[hf,h50]<;>rfl
 have h6:f 6=.ptr 0 6 0:=by rw[hf,h60]<;>rfl
 have h7:f 7=.ptr 0 7 0:=by rw[hf,h70]<;>rfl
 have h8:f 8=.ptr 0 8 0:=by rw[hf,h80]<;>rfl
 have h12:f 12=.ptr 0 12 0:=by rw[hf,h120]<;>rfl
 have h14:f 14=.ptr 0 14 0:=by rw[hf,h140]<;>rfl
 have h17:f 17=.ptr 0 17 0:=by rw[hf,h170]<;>rfl
 have h18:f 18=.bool a:=by rw[hf,h180]<;>rfl
 have h19:f 19=.bool b:=by rw[hf,h190]<;>rfl
 have m5':fr 5=.cells g.cells:=by rw[hmm 5 (by decide),m50]<;>rfl
 have m6':fr 6=.cells (vc v):=by rw[hmm 6 (by decide),m60]<;>rfl
 have m7':fr 7=.cells o.cells:=by rw[hmm 7 (by decide),m70]<;>rfl
 have m8':fr 8=.cells JS:=by rw[hmm 8 (by decide),m80]<;>rfl
 have m12':fr 12=.cells (vc z):=by rw[hmm 12 (by decide),m120]<;>rfl
 have m14':fr 14=.cells (Wv d):=by rw[hmm 14 (by decide),m140]<;>rfl
 have m17':fr 17=.cells (kc a x.1++kc b x.2):=by rw[hmm 17 (by decide),m170];cases a<;>cases b<;>rfl
 have n22:=hn22 22 (by decide);have m145':Qo (fr 145)=true:=by
  rw[hmm 145 (by decide)];cases h:fr0 145<;>rw[h]at m1450<;>first|rfl|cases m1450
 clear hf hmm hn22 h00 h50 h60 h70 h80 h120 h140 h170 h180 h190 m50 m60 m70 m80 m120 m140 m170 m22 m1450;have m6:=m6';have m7:=m7';have m8:=m8';have m17:=m17';simp only[vc]at m6;simp only[PO.cells]at m7;simp only[JS]at m8;simp only[kc,Qoj,Qok]at m17;simp only[Xh,lp,h0,Jt,eE,seval];refine aC (N0 c hc.big') ?_;by_cases hlt:0<c.left
 case neg=>
  have d1:decide (c.left > 0)=false:=QpQ hlt;have hR':R0=.ok (x,c):=by
   rw[←hR];cases k with
   |zero=>rfl
   |succ k=>rw[Jz,Qn4 hlt]
  simp only[d1,Qa,seval];exact hx _ _ x a b c ⟨h0,h5',h6,h7,h8,h12,h14,h17,h18,h19,m5',m6',m7',m8',m12',m14',m17',(by rw[n22]<;>rfl),m145'⟩ hxa hxb hR'
 have d1:decide (c.left > 0)=true:=QpY hlt;obtain⟨k,rfl⟩:∃j,k=j+1:=⟨k-1,by omega⟩;rw[Jz,Qn5 hlt]at hR;have htt:=c92 c hc.big;have hta:=GL hc;generalize QF c=tg at htt hta hR;obtain⟨num,w,c1,e⟩:=tg;dsimp only at hta hR;simp only[NT,C.av]at htt;simp only[d1,lp,h0,Jt,eE,seval];refine aC htt ?_;by_cases he0:e=0
 case neg=>
  rw[Qn4 he0]at hR;simp only[n22,Xb he0,h6,h8,m6,m8,Jg,eE,seval];exact he _ _ e c h8 rfl rfl hR.symm he0
 subst he0;obtain⟨t1,t2,t3,t4,t5⟩:=hta rfl;have hc1:=t1.ci hc;have hl1:=t1.lt hc;have hc1b:=hc1.bd;rw[Qn5 rfl]at hR;have side:=fun(fr:Nat→Ob) (q:PO) (hq:q.kind=10→0≤q.target∧q.target<(P.progs.length:Int))=>QlF P hP c1 (l+1) s (fr :: Am.put m l s (Xh P c1)) (by exact hpl _) (by exact lp _) hc1 hrec (by omega) (by omega) q w hq
 by_cases h1:num=1
 ·have b1:(num==1)=true:=by simp[h1]
  have b1':(num != 1)=false:=by simp[h1]
  have b2:(num==2)=false:=by simp[h1]
  rw[Qn5 h1]at hR;cases a with
  |true=>
   rw[Qn5 rfl]at hR;simp only[n22,b1,b1',h6,h8,h18,m6,m8,Jg,eE,seval];exact he _ _ 9 c h8 rfl rfl hR.symm (by decide)
  |false=>
   rw[Qn4 (by simp)]at hR;have hsd:=fun fr=>side fr ⟨0,[],[],0,0,o.key,-1,0⟩ (fun h=>absurd h hk10)
   simp only[Xh,key_op]at hsd;simp only[n22,b1,b1',b2,h0,h7,h18,m7,lp,pp,Jt,Wu,Jg,eE,seval];refine QM (hsd _) rfl ?_;intro y m1 hy _;cases hr:ZD P rec o.key (-1) w c1 with
   |error e=>
    rw[hr]at hy hR;obtain⟨he',u,c',rfl,rfl⟩:=hy;simp only[Qc u,Xb he',h6,h8,h17,m6,m8,m17,pp,eE,seval];exact he _ _ e c' h8 rfl rfl hR.symm he'
   |ok p=>
    obtain⟨u,c2⟩:=p;rw[hr]at hy hR;obtain⟨rfl,rfl⟩:=hy;have hab:As c1 c2:=(HY hM hro (fun h=>absurd h hk10) hc1 (by omega) (by omega) hr).1;have hl2:=hab.lt hc1;dsimp only at hR;simp only[Qc u,h17,m17,pp,eE,seval];exact⟨k,by omega,_,_,(u,x.2),true,b,c2,rfl,⟨h0,h5',h6,h7,h8,h12,h14,h17,rfl,h19,m5',m6',m7',m8',m12',m14',rfl,rfl,m145'⟩,hab.ci hc1,by omega,by omega,by omega,hR,(fun h=>by cases h),hxb⟩
 ·have b1:(num==1)=false:=by simp[h1]
  have b1':(num != 1)=true:=by simp[h1]
  rw[Qn4 h1]at hR;by_cases h2:num=2
  ·have b2:(num==2)=true:=by simp[h2]
   have b2':(num != 2)=false:=by simp[h2]
   rw[Qn5 h2]at hR;cases b with
   |true=>
    rw[Qn5 rfl]at hR;simp only[n22,b1,b1',b2,b2',h6,h8,h19,m6,m8,Jg,eE,seval];exact he _ _ 9 c h8 rfl rfl hR.symm (by decide)
   |false=>
    rw[Qn4 (by simp)]at hR;have hsd:=fun fr=>side fr o ho.uo.tgt
    simp only[Xh,Qv,PO.cells]at hsd;simp only[n22,b1,b1',b2,b2',h0,h7,h19,m7,lp,pp,Jt,Jg,eE,seval];refine QM (hsd _) rfl ?_;intro y m1 hy _;cases hr:ZD P rec o.kind o.target w c1 with
    |error e=>
     rw[hr]at hy hR;obtain⟨he',u,c',rfl,rfl⟩:=hy;simp only[Qc u,Xb he',h6,h8,h17,m6,m8,m17,pp,eE,seval];exact he _ _ e c' h8 rfl rfl hR.symm he'
    |ok p=>
     obtain⟨u,c2⟩:=p;rw[hr]at hy hR;obtain⟨rfl,rfl⟩:=hy;have hab:As c1 c2:=(HY hM hro ho.uo.tgt hc1 (by omega) (by omega) hr).1;have hl2:=hab.lt hc1;dsimp only at hR;simp only[Qc u,h17,m17,pp,eE,seval];exact⟨k,by omega,_,_,(x.1,u),a,true,c2,rfl,⟨h0,h5',h6,h7,h8,h12,h14,h17,h18,rfl,m5',m6',m7',m8',m12',m14',rfl,rfl,m145'⟩,hab.ci hc1,by omega,by omega,by omega,hR,hxa,(fun h=>by cases h)⟩
  ·have b2:(num==2)=false:=by simp[h2]
   have b2':(num != 2)=true:=by simp[h2]
   rw[Qn4 h2]at hR;simp only[n22,b1',b2',h6,h8,m6,m8,Jg,eE,seval];exact he _ _ 18 c h8 rfl rfl hR.symm (by decide)
end
section
variable {P:PL}{rec:Int→V→C→Rd V}(hre:H1 rec)
include hre
theorem Rm {k t w:Int}{c:C}{e:Nat}(h:ZD P rec k t w c=.error e):e≠0:=by
 unfold ZD at h;split at h
 ·split at h
  ·exact SO hre h
  ·split at h
   ·rename_i h1;cases h;exact QhX h1
   ·split at h
    ·cases h
    ·rename_i h1;cases h;exact h1
 ·cases h;decide
theorem MS {o:PO}{e:Nat}:∀ {n:Nat} {x:V×V} {a b:Bool} {c:C},Jz P rec o n x a b c=.error e→e≠0
 |0,_,_,_,_,h=>by cases h
 |n+1,x,a,b,c,h=>by
  rw[Jz]at h;split at h
  ·split at h
   ·split at h
    ·split at h
     ·cases h;decide
     ·split at h
      ·rename_i h1;cases h;exact Rm hre h1
      ·exact MS h
    ·split at h
     ·split at h
      ·cases h;decide
      ·split at h
       ·rename_i h1;cases h;exact Rm hre h1
       ·exact MS h
     ·cases h;decide
   ·rename_i h1;cases h;exact h1
  ·cases h
theorem IX {g:PG}{v:V}{o:PO}{c:C}{e:Nat}(h:J7 P rec g v o c=.error e):e≠0:=by
 unfold J7 at h;split at h
 ·rename_i h1;cases h;exact Vv h1
 ·split at h
  ·rename_i h1;cases h;exact SN h1
  ·split at h
   ·rename_i h1;cases h;exact MS hre h1
   ·cases h
end
section
variable {M K n:Nat}(hM:3000≤M)(P:PL)(hP:P.ok M){rec:Int→V→C→Rd V}(hre:H1 rec)(hro:W3 P M K n rec)(g:PG)(o:PO)(ho:OpK P g o)(h5:o.card=5)
structure EyF (P:PL)(g:PG)(o:PO)(v z:V)(c0 d:C)(f:Fr)(fr:Nat→Ob)(x:V×V)(a b:Bool)(c:C):Prop where
 f5:f 5=.ptr 0 5 0
 f6:f 6=.ptr 0 6 0
 f7:f 7=.ptr 0 7 0
 f8:f 8=.ptr 0 8 0
 f9:f 9=.ptr 0 9 0
 f10:f 10=.ptr 0 10 0
 f11:f 11=.ptr 0 11 0
 f14:f 14=.ptr 0 14 0
 f16:f 16=.ptr 0 16 0
 f19:f 19=.ptr 0 19 0
 f20:f 20=.ptr 0 20 0
 f21:f 21=.vec 0 65 1 0 3 false
 m5:fr 5=.cells (Zs P)
 m6:fr 6=.cells g.cells
 m7:fr 7=.cells (vc v)
 m8:fr 8=.cells o.cells
 m9:fr 9=.cells (Wv c0)
 m10:fr 10=.cells JS
 m11:fr 11=.cells zc6
 m14:fr 14=.cells (Wv d)
 m16:fr 16=.cells (vc z)
 m19:fr 19=.cells (Wv c)
 m20:fr 20=.cells (kc (a||b) x.1++vc x.2)
 m65:fr 65=.vec 1 1 [.bool false,.bool a,.bool b]
 m24:(fr 24).isRow=false
 m117:Qo (fr 117)=true
end
section
variable {M K n:Nat}(hM:3000≤M)(hK:K≤1000000)(P:PL)(hP:P.ok M){rec:Int→V→C→Rd V}(hre:H1 rec)(hro:W3 P M K n rec)(g:PG)(hg:g.ops.length≤maxLen)(o:PO)(ho:OpK P g o)(h5:o.card=5)(hun : -1≤o.union){c:C}(hc:CI c)(hcn:c.left≤n)(v:V)(hvm:MW P (n+1) g v)(hvo:v.ok M)(hb:(v.cnt:Int)+3*c.left+3≤K)(hkd:(Lit.int .i64 o.kind).wf=true)
end
section
variable {M K n:Nat}(hM:3000≤M)(hK:K≤1000000)(P:PL)(hP:P.ok M)(l s:Nat)(m:Qj)(hm:l<m.length){rec:Int→V→C→Rd V}(hrec:Fq P M K n rec)(hro:W3 P M K n rec)(g:PG)(hg:g.ops.length≤maxLen)(o:PO)(ho:OpK P g o)(h5:o.card=5)
 (c:C) (hs:Am.Qd m l s=Xh P c) (hc:CI c) (hcn:c.left≤n) (v:V) (hvm:MW P (n+1) g v) (hvo:v.ok M) (hb:(v.cnt:Int)+3*c.left+3≤K) (hkd:(Lit.int .i64 o.kind).wf=true)
include hM hK hP hm hrec hro hg ho h5 hs hc hcn hvm hvo hb hkd in
theorem QlI :
  Qe Tryz.prog 178 [.ptr l s 0,Qn g,v.av,Qv o] m (Rt P l s m V.av (J7 P rec g v o c)):=by
 have hs0:=hs;have lp:∀o,Am.Qd (Am.put m l s o) l s=o:=fun o=>Qq hm
 have pp:=fun o q=>@put_put m l s o q
 have hpl:∀o,l+1<(Am.put m l s o).length+1:=fun o=>by rw[QV];omega
 have ls:=Zj v;have hcv:=Za v;have hcb:=hc.bd;have hky:=ho.uo.key h5;have hfd:=A9 v o.num (by omega);have hset:=fun x=>SK g v o x hg (by omega)
 have hol:=GW (n:=o.num) hvo;have hoc:=Dv v o.num;have hpo:((∀p∈(QW v o.num).pairs,p.1.one P o.key (-1)=0))∧(QW v o.num).pairs.Pairwise fun q p=>Xz q.1 p.1=false:=by
  cases hf:XV v o.num with
  |none=>
   rw[Je (by rw[hf];simp)];exact⟨fun p hp=>(nomatch hp),.nil⟩
  |some z=>
   have h4:=GX hvm ho.self hf;unfold FW at h4;rw[Qn4 (by omega),Qn5 h5]at h4;rw[(XE hf).2];exact⟨fun p hp=>(h4.1 p hp).1,h4.2⟩
 have hx0:XI P M n o (QD o.key 0 [],QD o.kind 0 []):=by
  refine⟨Jd ?_ (by decide) (Qn6 _),Jd hkd (by decide) (Qn6 _),ML hky,fun hn e=>Jf hn⟩;unfold XU at hky;exact Wk (by omega) (by omega)
 have lpz:=Jr (QW v o.num);unfold J7;generalize QW v o.num=z at hfd hol hoc hpo lpz ⊢;rw[Qc v,Qc z]at hfd;rw[Qc v]at hset;simp only[Qn,Qv,PG.cells,PO.cells]at hset;rw[Qc v];refine Qjf.go (by simp) ?_;simp only[Qn,Qv,PG.cells,PO.cells,eE,seval];refine QM (SL P c (l+1) s _ (by simp only[Qoc];omega) hs0 hc) (by simp only[Qov,QoZ,Qa,seval]) ?_;intro x m1 hx _;cases hr:Wr c with
 |error e=>
  rw[hr]at hx;obtain⟨he,y,c',rfl,rfl⟩:=hx;dsimp only;simp only[Xb he,QV,eE,seval];exact⟨he,v,c',by rw[Qc v],rfl⟩
 |ok p=>
 obtain⟨q,d⟩:=p;obtain⟨a1,a2⟩:=YB hc hr;have hd:=a1.ci hc;have hl1:=a1.lt hc;have hdb:=hd.bd;rw[hr]at hx;obtain⟨rfl,rfl⟩:=hx;obtain⟨_,p2,p3⟩:=Yi hd a2;dsimp only;simp only[Xh,Wu,eE,seval];refine aC hfd ?_;simp only[eE,seval];refine QM (Qf4 P d (l+1) s _ (by exact lp _) q) (by simp only[Qov,QoZ,Qa,seval]) ?_;rintro x m1 ⟨rfl,rfl⟩ _;cases hf:(XV v o.num).isSome
 case false=>
  have hkk:(if (false:Bool)=true then(2:Int)else 3)=3:=rfl;rw[hkk];simp only[C.av,Xh,pp,Jg,eE,seval];refine QM (MN P (part d q) (l+1) s _ (by exact lp _) 3) (by simp only[Qov,QoZ,Qa,seval]) ?_;rintro x m1 ⟨rfl,rfl⟩ _;rcases KI (part d q) 3 with⟨i,h2,h2'⟩|⟨e,he,h2,h2'⟩
  case inr=>
   rw[h2,h2'];dsimp only;simp only[Xb he,pp,QV,eE,seval];exact⟨he,v,_,by rw[Qc v],rfl⟩
  rw[h2,h2'];obtain⟨s1,_⟩:=JQ p2 (by omega) h2;have hci:=s1.ci p2;have hls:=(s1.left p2).2.2;have hib:=hci.bd;dsimp only;simp only[Xh,pp,Wu,eE,seval];have hio:∀x j,Jz P rec o i.left.toNat (QD o.key 0 [],QD o.kind 0 []) false false i=.ok (x,j)→XI P M n o x:=fun x j h3=>(Hq hM ho hro h5 _ hci (by omega) (by omega) hx0 h3).2.1
  refine Rl (n:=n) P hP l s m hm hrec hM hro g o ho h5 v z d _ i.left.toNat (QD o.key 0 [],QD o.kind 0 []) false false i _ _ ⟨(by rfl),(by rfl),(by rfl),(by rfl),(by rfl),(by rfl),(by rfl),(by rfl),(by rfl),(by rfl),(by rfl),(by rfl),(by rfl),(by rfl),(by rfl),(by rfl),(by rfl),(by rfl),(by rfl)⟩ hci (by omega) (by omega) (by omega) rfl (fun _=>rfl) (fun _=>rfl) _ (fun f fr x a b c' hf' hxa hxb hR'=>?_) (fun f fr e c' h8 m8 h9 hR' he=>?_)
  ·obtain⟨h0,h5',h6,h7,h8,h12,h14,h17,h18,h19,m5,m6,m7,m8,m12,m14,m17,m22,m145⟩:=hf';have hxi:=hio _ _ hR';rw[hR'];dsimp only;simp only[PG.cells]at m5;simp only[vc]at m6 m12;simp only[PO.cells]at m7;simp only[JS]at m8;simp only[Wv]at m14;simp only[kc,Qoj,Qok]at m17;simp only[Xh,h0,h14,m14,Jt,eE,seval];refine QM (SM P c' (l+1) s _ (by exact lp _) d) (by simp only[Qov,QoZ,C.av,Qa,seval]) ?_;rintro x1 m1 ⟨rfl,rfl⟩ _;simp only[h12,h17,m12,m17,pp,QoS,eE,seval];have hlz:=fun(b:Bool) (k:Int) (y:V) (h:b=false→y=QD k 0 [])=>QpD (YF (b:=b) (l:=y.list.map V.av) (fun e=>by rw[h e];rfl)) (QpD (YF (b:=b) (l:=y.pairs.map V.pav) (fun e=>by rw[h e];rfl)) (QpD (YF (b:=b) (l:=y.slots.map V.sav) (fun e=>by rw[h e];rfl)) (YF (b:=b) (l:=y.raws.map R.av) (fun e=>by rw[h e];rfl))))
   obtain⟨p1,p2,p3,p4⟩:=hlz a _ _ hxa;obtain⟨q1,q2,q3,q4⟩:=hlz b _ _ hxb;refine QO (y:=kc a x.1++kc b x.2) (l:=[V.pav x]) (by cases a<;>cases b<;>rfl) (by cases a<;>cases b<;>rfl) (by cases a<;>cases b<;>rfl) (by simp only[kc,Qoj,Qok,Qov,QoZ,p1,p2,p3,p4,q1,q2,q3,q4];rw[Z0 x];rfl) ?_;refine UD (xs:=z.pairs.map V.pav) (ys:=[V.pav x]) rfl rfl (by simp) (JH z.pairs) (JH [x]) (by simp[maxLen];omega) (by simp;omega) m145 ?_;have hub:∀y:V,y.ok M→y.bits<18446744073709551616:=fun y hy=>by
    have:=hy.bits;simp[Lit.wf,IntKind.min,IntKind.max,IntKind.bits,IntKind.signed]at this;omega
   have hkf:KF P o.key z.pairs:=fun p hp=>⟨hpo.1 p hp,hub _ (hol.keys p hp)⟩
   have hpr:=Qa3 (P:=P) hky (z.pairs++[x]) (by simp;omega) (fun p hp=>by
    rcases Qph.1 hp with h|h
    ·exact(hkf p h).1
    ·rw[Qp8]at h;subst h;exact hxi.one) (fun p hp=>by
    rcases Qph.1 hp with h|h
    ·exact(hkf p h).2
    ·rw[Qp8]at h;subst h;exact hub _ hxi.ky)
   rw[Rj hkf ⟨hxi.one,hub _ hxi.ky⟩ hpo.2,QpL]at hpr;have hk:List.take (z.pairs.length+1) (z.pairs.map V.pav++[V.pav x])=z.pairs.map V.pav++[V.pav x]:=Qox (by simp);have hst:=hset (Jy (ZI o.key z.pairs x));rw[show(Jy (ZI o.key z.pairs x)).av=.agg [.int .i64 12,.int .u64 0,.str [],.list [],.list ((ZI o.key z.pairs x).map V.pav),.list [],.list []]from Qc _]at hst;generalize XK g v o (Jy (ZI o.key z.pairs x))=w at hst ⊢;rw[Qc w]at hst;simp only[QoS,Qoc,QoT,Qa,seval];refine Db (site:=145) (g:=_) (sz:=14) (n:=z.pairs.length+1) (xs:=z.pairs.map V.pav++[V.pav x]) (by simp only[Qa,seval]<;>rfl) (by simp only[Qa,seval]) (by simp) ?_;rw[hk];simp only[h5',h6,h7,m5,m6,m7,eE,seval];refine aC hpr ?_;simp only[eE,seval];refine aC hst ?_;simp only[h8,m8,QV,eE,seval];exact⟨by rw[Qc w],rfl⟩
  ·rw[hR'];dsimp only;simp only[vc]at m8;simp only[h8,m8,h9,QV,eE,seval];exact⟨he,v,c',by rw[Qc v],rfl⟩
 case true=>
  have hkk:(if (true:Bool)=true then(2:Int)else 3)=2:=rfl;rw[hkk];simp only[C.av,Xh,pp,Jg,eE,seval];refine QM (MN P (part d q) (l+1) s _ (by exact lp _) 2) (by simp only[Qov,QoZ,Qa,seval]) ?_;rintro x m1 ⟨rfl,rfl⟩ _;rcases KI (part d q) 2 with⟨i,h2,h2'⟩|⟨e,he,h2,h2'⟩
  case inr=>
   rw[h2,h2'];dsimp only;simp only[Xb he,pp,QV,eE,seval];exact⟨he,v,_,by rw[Qc v],rfl⟩
  rw[h2,h2'];obtain⟨s1,_⟩:=JQ p2 (by omega) h2;have hci:=s1.ci p2;have hls:=(s1.left p2).2.2;have hib:=hci.bd;dsimp only;simp only[Xh,pp,Wu,eE,seval];have hio:∀x j,Jz P rec o i.left.toNat (QD o.key 0 [],QD o.kind 0 []) false false i=.ok (x,j)→XI P M n o x:=fun x j h3=>(Hq hM ho hro h5 _ hci (by omega) (by omega) hx0 h3).2.1
  refine Rl (n:=n) P hP l s m hm hrec hM hro g o ho h5 v z d _ i.left.toNat (QD o.key 0 [],QD o.kind 0 []) false false i _ _ ⟨(by rfl),(by rfl),(by rfl),(by rfl),(by rfl),(by rfl),(by rfl),(by rfl),(by rfl),(by rfl),(by rfl),(by rfl),(by rfl),(by rfl),(by rfl),(by rfl),(by rfl),(by rfl),(by rfl)⟩ hci (by omega) (by omega) (by omega) rfl (fun _=>rfl) (fun _=>rfl) _ (fun f fr x a b c' hf' hxa hxb hR'=>?_) (fun f fr e c' h8 m8 h9 hR' he=>?_)
  ·obtain⟨h0,h5',h6,h7,h8,h12,h14,h17,h18,h19,m5,m6,m7,m8,m12,m14,m17,m22,m145⟩:=hf';have hxi:=hio _ _ hR';rw[hR'];dsimp only;simp only[PG.cells]at m5;simp only[vc]at m6 m12;simp only[PO.cells]at m7;simp only[JS]at m8;simp only[Wv]at m14;simp only[kc,Qoj,Qok]at m17;simp only[Xh,h0,h14,m14,Jt,eE,seval];refine QM (SM P c' (l+1) s _ (by exact lp _) d) (by simp only[Qov,QoZ,C.av,Qa,seval]) ?_;rintro x1 m1 ⟨rfl,rfl⟩ _;simp only[h12,h17,m12,m17,pp,QoS,eE,seval];have hlz:=fun(b:Bool) (k:Int) (y:V) (h:b=false→y=QD k 0 [])=>QpD (YF (b:=b) (l:=y.list.map V.av) (fun e=>by rw[h e];rfl)) (QpD (YF (b:=b) (l:=y.pairs.map V.pav) (fun e=>by rw[h e];rfl)) (QpD (YF (b:=b) (l:=y.slots.map V.sav) (fun e=>by rw[h e];rfl)) (YF (b:=b) (l:=y.raws.map R.av) (fun e=>by rw[h e];rfl))))
   obtain⟨p1,p2,p3,p4⟩:=hlz a _ _ hxa;obtain⟨q1,q2,q3,q4⟩:=hlz b _ _ hxb;refine QO (y:=kc a x.1++kc b x.2) (l:=[V.pav x]) (by cases a<;>cases b<;>rfl) (by cases a<;>cases b<;>rfl) (by cases a<;>cases b<;>rfl) (by simp only[kc,Qoj,Qok,Qov,QoZ,p1,p2,p3,p4,q1,q2,q3,q4];rw[Z0 x];rfl) ?_;refine UD (xs:=z.pairs.map V.pav) (ys:=[V.pav x]) rfl rfl (by simp) (JH z.pairs) (JH [x]) (by simp[maxLen];omega) (by simp;omega) m145 ?_;have hub:∀y:V,y.ok M→y.bits<18446744073709551616:=fun y hy=>by
    have:=hy.bits;simp[Lit.wf,IntKind.min,IntKind.max,IntKind.bits,IntKind.signed]at this;omega
   have hkf:KF P o.key z.pairs:=fun p hp=>⟨hpo.1 p hp,hub _ (hol.keys p hp)⟩
   have hpr:=Qa3 (P:=P) hky (z.pairs++[x]) (by simp;omega) (fun p hp=>by
    rcases Qph.1 hp with h|h
    ·exact(hkf p h).1
    ·rw[Qp8]at h;subst h;exact hxi.one) (fun p hp=>by
    rcases Qph.1 hp with h|h
    ·exact(hkf p h).2
    ·rw[Qp8]at h;subst h;exact hub _ hxi.ky)
   rw[Rj hkf ⟨hxi.one,hub _ hxi.ky⟩ hpo.2,QpL]at hpr;have hk:List.take (z.pairs.length+1) (z.pairs.map V.pav++[V.pav x])=z.pairs.map V.pav++[V.pav x]:=Qox (by simp);have hst:=hset (Jy (ZI o.key z.pairs x));rw[show(Jy (ZI o.key z.pairs x)).av=.agg [.int .i64 12,.int .u64 0,.str [],.list [],.list ((ZI o.key z.pairs x).map V.pav),.list [],.list []]from Qc _]at hst;generalize XK g v o (Jy (ZI o.key z.pairs x))=w at hst ⊢;rw[Qc w]at hst;simp only[QoS,Qoc,QoT,Qa,seval];refine Db (site:=145) (g:=_) (sz:=14) (n:=z.pairs.length+1) (xs:=z.pairs.map V.pav++[V.pav x]) (by simp only[Qa,seval]<;>rfl) (by simp only[Qa,seval]) (by simp) ?_;rw[hk];simp only[h5',h6,h7,m5,m6,m7,eE,seval];refine aC hpr ?_;simp only[eE,seval];refine aC hst ?_;simp only[h8,m8,QV,eE,seval];exact⟨by rw[Qc w],rfl⟩
  ·rw[hR'];dsimp only;simp only[vc]at m8;simp only[h8,m8,h9,QV,eE,seval];exact⟨he,v,c',by rw[Qc v],rfl⟩
end
section
variable {M K n:Nat}(hM:3000≤M)(hK:K≤1000000)(P:PL)(hP:P.ok M)(l s:Nat)(m:Qj)(hm:l<m.length){rec:Int→V→C→Rd V}(hrec:Fq P M K n rec)(hro:W3 P M K n rec)(g:PG)(hg:g.ops.length≤maxLen)(o:PO)(ho:OpK P g o)
 (c:C) (hs:Am.Qd m l s=Xh P c) (hc:CI c) (hcn:c.left≤n) (v:V) (hvm:MW P (n+1) g v) (hvo:v.ok M) (hb:(v.cnt:Int)+3*c.left+3≤K) (hkd:(Lit.int .i64 o.kind).wf=true)
include hM hK hP hm hrec hro hg ho hs hc hcn hvm hvo hb hkd in
theorem j93 (wr:Int) :
  Qe Tryz.prog 93 [.ptr l s 0,Qn g,v.av,Qv o,.int .i64 wr] m (Rt P l s m V.av (Zr P rec g v o wr c)):=by
 have hcv:=Za v;have hcb:=hc.bd;have hwo:=MM o;have hpk:=EP o.num o.name o.alias o.card o.key o.kind o.target o.union;have hen:=fun(fr:Nat→Ob) (h5:o.card=5)=>QlI hM hK P hP (l+1) s (fr :: m) (by simp only[Qoc];omega) hrec hro g hg o ho h5 c hs hc hcn v hvm hvo hb hkd
 have hpa:=fun(fr:Nat→Ob) (h5:o.card≠5) (h4:o.card=4)=>QlH (n:=n) hM hK P hP (l+1) s (fr :: m) (by simp only[Qoc];omega) g hg o ho h5 c hs hc v hvm hvo (by omega) h4
 have hne:=fun(fr:Nat→Ob) (h10:o.kind=10) (h5:o.card≠5)=>QlG P c (l+1) s (fr :: m) (by simp only[Qoc];omega) hs hc hrec hcn (by omega) g hg v (by omega) hK hvo o ho h10 h5 hvm
 have hon:=fun(fr:Nat→Ob)=>Qf7 P hP c (l+1) s (fr :: m) (by simp only[Qoc];omega) hs hc g hg v (by omega) o
 rw[Qc v]at hen hpa hne hon;simp only[Qn,Qv,oc,PG.cells,PO.cells]at hwo hpk hen hpa hne hon;unfold Zr;rw[Qc v];refine wG Tryz.func93 ?_;simp only[eK,Tryz.f93,seval];simp only[Qn,Qv,PG.cells,PO.cells,eE,seval];by_cases h5:o.card=5
 ·have b5:(o.card==5)=true:=by simp[h5]
  rw[Qn5 h5];simp only[b5,Qa,seval];by_cases h6:wr=6
  case neg=>
   have b6:(wr != 6)=true:=by simp[h6]
   rw[Qn4 h6];simp only[b6,eE,seval];exact⟨by decide,v,c,by rw[Qc v];rfl,(put_self hm hs).symm⟩
  have b6:(wr != 6)=false:=by simp[h6]
  rw[Qn5 h6];simp only[b6,eE,seval];refine QM (hen _ h5) (by simp only[Qov,QoZ,Qa,seval]) ?_;intro x m1 hx _;cases hr:J7 P rec g v o c with
  |error e=>
   rw[hr]at hx;obtain⟨he,y,c',rfl,rfl⟩:=hx;simp only[Qc y,QV,eE,seval];exact⟨he,y,c',by rw[Qc y],rfl⟩
  |ok p=>
   obtain⟨w,d⟩:=p;rw[hr]at hx;obtain⟨rfl,rfl⟩:=hx;simp only[Qc w,QV,eE,seval];exact⟨by rw[Qc w],rfl⟩
 have b5:(o.card==5)=false:=by simp[h5]
 rw[Qn4 h5];simp only[b5,Qa,seval];by_cases hp:wr=5∧pk o.card o.kind=true
 ·obtain⟨hw5,hpk'⟩:=hp;have b6:(wr==5)=true:=by simp[hw5]
  have h4:o.card=4:=by
   unfold pk at hpk';rw[Qol,Qn2]at hpk';exact hpk'.1
  rw[Qn5 ⟨hw5,hpk'⟩];rw[hpk']at hpk;simp only[b6,eE,seval];refine aC hpk ?_;simp only[eE,seval];refine QM (hpa _ h5 h4) (by simp only[Qov,QoZ,Qa,seval]) ?_;intro x m1 hx _;cases hr:WU P g v o c with
  |error e=>
   rw[hr]at hx;obtain⟨he,y,c',rfl,rfl⟩:=hx;simp only[Qc y,QV,eE,seval];exact⟨he,y,c',by rw[Qc y],rfl⟩
  |ok p=>
   obtain⟨w,d⟩:=p;rw[hr]at hx;obtain⟨rfl,rfl⟩:=hx;simp only[Qc w,QV,eE,seval];exact⟨by rw[Qc w],rfl⟩
 rw[Qn4 hp];by_cases hw5:wr=5
 ·have b6:(wr==5)=true:=by simp[hw5]
  have hpf:pk o.card o.kind=false:=by
   cases h:pk o.card o.kind
   ·rfl
   ·exact absurd ⟨hw5,h⟩ hp
  rw[hpf]at hpk;simp only[b6,eE,seval];refine aC hpk ?_;simp only[eE,seval];refine aC hwo ?_;by_cases hw:wr=wk o.kind
  case neg=>
   have b7:(wr != wk o.kind)=true:=by simp[hw]
   rw[Qn4 hw];simp only[b7,eE,seval];exact⟨by decide,v,c,by rw[Qc v];rfl,(put_self hm hs).symm⟩
  have b7:(wr != wk o.kind)=false:=by simp[hw]
  rw[Qn5 hw];simp only[b7,Wu,eE,seval];by_cases h10:o.kind=10
  ·have b10:(o.kind==10)=true:=by simp[h10]
   rw[Qn5 h10];simp only[b10,eE,seval];refine QM (hne _ h10 h5) (by simp only[Qov,QoZ,Qa,seval]) ?_;intro x m1 hx _;cases hr:KS rec g v o c with
   |error e=>
    rw[hr]at hx;obtain⟨he,y,c',rfl,rfl⟩:=hx;simp only[Qc y,QV,eE,seval];exact⟨he,y,c',by rw[Qc y],rfl⟩
   |ok p=>
    obtain⟨w,d⟩:=p;rw[hr]at hx;obtain⟨rfl,rfl⟩:=hx;simp only[Qc w,QV,eE,seval];exact⟨by rw[Qc w],rfl⟩
  ·have b10:(o.kind==10)=false:=by simp[h10]
   rw[Qn4 h10];simp only[b10,eE,seval];refine QM (hon _) (by simp only[Qov,QoZ,Qa,seval]) ?_;intro x m1 hx _;cases hr:KE P g v o c with
   |error e=>
    rw[hr]at hx;obtain⟨he,y,c',rfl,rfl⟩:=hx;simp only[Qc y,QV,eE,seval];exact⟨he,y,c',by rw[Qc y],rfl⟩
   |ok p=>
    obtain⟨w,d⟩:=p;rw[hr]at hx;obtain⟨rfl,rfl⟩:=hx;simp only[Qc w,QV,eE,seval];exact⟨by rw[Qc w],rfl⟩
 ·have b6:(wr==5)=false:=by simp[hw5]
  simp only[b6,eE,seval];refine aC hwo ?_;by_cases hw:wr=wk o.kind
  case neg=>
   have b7:(wr != wk o.kind)=true:=by simp[hw]
   rw[Qn4 hw];simp only[b7,eE,seval];exact⟨by decide,v,c,by rw[Qc v];rfl,(put_self hm hs).symm⟩
  have b7:(wr != wk o.kind)=false:=by simp[hw]
  rw[Qn5 hw];simp only[b7,Wu,eE,seval];by_cases h10:o.kind=10
  ·have b10:(o.kind==10)=true:=by simp[h10]
   rw[Qn5 h10];simp only[b10,eE,seval];refine QM (hne _ h10 h5) (by simp only[Qov,QoZ,Qa,seval]) ?_;intro x m1 hx _;cases hr:KS rec g v o c with
   |error e=>
    rw[hr]at hx;obtain⟨he,y,c',rfl,rfl⟩:=hx;simp only[Qc y,QV,eE,seval];exact⟨he,y,c',by rw[Qc y],rfl⟩
   |ok p=>
    obtain⟨w,d⟩:=p;rw[hr]at hx;obtain⟨rfl,rfl⟩:=hx;simp only[Qc w,QV,eE,seval];exact⟨by rw[Qc w],rfl⟩
  ·have b10:(o.kind==10)=false:=by simp[h10]
   rw[Qn4 h10];simp only[b10,eE,seval];refine QM (hon _) (by simp only[Qov,QoZ,Qa,seval]) ?_;intro x m1 hx _;cases hr:KE P g v o c with
   |error e=>
    rw[hr]at hx;obtain⟨he,y,c',rfl,rfl⟩:=hx;simp only[Qc y,QV,eE,seval];exact⟨he,y,c',by rw[Qc y],rfl⟩
   |ok p=>
    obtain⟨w,d⟩:=p;rw[hr]at hx;obtain⟨rfl,rfl⟩:=hx;simp only[Qc w,QV,eE,seval];exact⟨by rw[Qc w],rfl⟩
end
theorem Qgb {g:PG}{n:Int}{i:Nat}{x:PO}(h:g.ops[i]? = some x)(hd:Xv g n=(g.ops.drop i).find? fun o=>o.num==n) :
  (x.num=n∧Xv g n=some x)∨x.num≠n∧Xv g n=(g.ops.drop (i+1)).find? fun o=>o.num==n:=by
 have hlt:=(QnW.1 h).1;have hx:=(QnW.1 h).2;rw[QoG hlt,QpP,hx]at hd;by_cases hb:x.num=n
 ·rw[show(x.num==n)=true from by simp[hb]]at hd;exact .inl ⟨hb,hd⟩
 ·rw[show(x.num==n)=false from by simp[hb]]at hd;exact .inr ⟨hb,hd⟩
theorem QcZ {g:PG}{n:Int}{i:Nat}(h:¬i<g.ops.length)(hd:Xv g n=(g.ops.drop i).find? fun o=>o.num==n):Xv g n=none:=by
 rw[hd,QoA (by omega)];rfl
theorem Uu {P:PL}{t:Int}(ht:0≤t∧t<(P.progs.length:Int)):Qk P t∈P.progs∧P.progs[t.toNat]? = some (Qk P t):=by
 unfold Qk;rw[QnX (by omega:t.toNat<P.progs.length)];exact⟨QoP _,rfl⟩
theorem Qa4 {g:PG}{i:Nat}{o:PO}(h:g.ops[i]? = some o):(g.ops.map fun o=>AV.agg o.cells)[i]? = some (.agg o.cells):=by
 rw[Qpl,h];rfl
structure FlF (g:PG)(v:V)(t:Int)(l s:Nat)(f:Fr)(fr:Nat→Ob):Prop where
 f0:f 0=.ptr (l+1) s 0
 f1:f 1=.int .i64 t
 f5:f 5=.ptr 0 5 0
 f6:f 6=.ptr 0 6 0
 f8:f 8=.ptr 0 8 0
 m5:fr 5=.cells (vc v)
 m6:fr 6=.cells JS
 m8:fr 8=.cells g.cells
structure FoF (g:PG)(c:C)(num wr:Int)(cc:C)(f:Fr)(fr:Nat→Ob):Prop where
 f9:f 9=.ptr 0 9 0
 f10:f 10=.int .i64 num
 f11:f 11=.int .i64 wr
 f12:f 12=.ptr 0 12 0
 f47:f 47=.list (g.ops.map fun o=>AV.agg o.cells)
 f48:f 48=.int .i64 (g.ops.length:Nat)
 m9:fr 9=.cells (Wv c)
 m12:fr 12=.cells (Wv cc)
 n16:fr 16=.none
section
variable {M K n:Nat}(hM:3000≤M)(hK:K≤1000000)(P:PL)(hP:P.ok M)(hU:J6 P)(hr:Zi P)(l s:Nat)(m:Qj)(hm:l<m.length){rec:Int→V→C→Rd V}(hrec:Fq P M K n rec)(hro:W3 P M K n rec)(t:Int)(ht:0≤t∧t<(P.progs.length:Int))
include hM hK hP hm hrec hro hU hr ht in
theorem Qc0 (v:V)(c cc:C)(num wr:Int)(hcc:CI cc)(hcn:cc.left≤n)(hvm:MW P (n+1) (Qk P t) v)(hvo:v.ok M)(hb:(v.cnt:Int)+3*cc.left+3≤K)(f:Fr)(fr:Nat→Ob)(hf:FlF (Qk P t) v t l s f fr)(hg:FoF (Qk P t) c num wr cc f fr)(h49:f 49=.int .i64 0)(h15:(fr 15).isRow=false)(Q:Exit→St→Prop)
  (h2:∀f fr,FlF (Qk P t) v t l s f fr→FoF (Qk P t) c num wr cc f fr→(fr 15).isRow=false→Xv (Qk P t) num=none→Q (.exit 2) ⟨f,fr :: Am.put m l s (Xh P c),[]⟩)
  (h1:∀f fr o w d,FlF (Qk P t) w t l s f fr→(∀s∈[16,15,12,9],(fr s).isRow=false)→Xv (Qk P t) num=some o→Zr P rec (Qk P t) v o wr cc=.ok (w,d)→Q (.exit 1) ⟨f,fr :: Am.put m l s (Xh P d),[]⟩)
  (he:∀f fr o w (e:Nat) d,f 6=.ptr 0 6 0→fr 6=.cells (vc w)→f 7=.int .i64 (e:Nat)→Xv (Qk P t) num=some o→Zr P rec (Qk P t) v o wr cc=.error e→e≠0→Q .ret ⟨f,fr :: Am.put m l s (Xh P d),[]⟩) :
  Q2 Tryz.prog (.loop Li) ⟨f,fr :: Am.put m l s (Xh P c),[]⟩ Q:=by
 have lp:∀o,Am.Qd (Am.put m l s o) l s=o:=fun o=>Qq hm
 have pp:=fun o q=>@put_put m l s o q
 have hpl:∀o,l+1<(Am.put m l s o).length+1:=fun o=>by rw[QV];omega
 have hgl:(Qk P t).ops.length≤maxLen:=(hP.progs _ (Uu ht).1).len
 let I:Nat→St→Prop:=fun k st=>∃f fr i,st=⟨f,fr :: Am.put m l s (Xh P c),[]⟩∧k=(Qk P t).ops.length-i∧i≤(Qk P t).ops.length∧(Xv (Qk P t) num=((Qk P t).ops.drop i).find? fun o=>o.num==num)∧FlF (Qk P t) v t l s f fr∧FoF (Qk P t) c num wr cc f fr∧f 49=.int .i64 (i:Nat)∧(fr 15).isRow=false
 refine Qi I _ ⟨f,fr,0,rfl,rfl,Qn6 _,rfl,hf,hg,h49,h15⟩ ?_;clear hf hg h49 h15;rintro k st ⟨f0,fr0,i,rfl,rfl,hil,hfd,⟨h00,h10,h50,h60,h80,m50,m60,m80⟩,⟨h90,h100,h110,h120,h470,h480,m90,m120,n160⟩,h490,n150⟩;refine QL (a:=_) [15] (by intro s hs;simp only[Qp8]at hs;subst hs;exact n150) ?_;intro f fr hf hmm hn15;have h0:f 0=.ptr (l+1) s 0:=by rw[hf,h00]<;>rfl
 have h1':f 1=.int .i64 t:=by rw[hf,h10]<;>rfl
 have h5:f 5=.ptr 0 5 0:=by rw[hf,h50]<;>rfl
 have h6:f 6=.ptr 0 6 0:=by rw[hf,h60]<;>rfl
 have h8:f 8=.ptr 0 8 0:=by rw[hf,h80]<;>rfl
 have h9:f 9=.ptr 0 9 0:=by rw[hf,h90]<;>rfl
 have h10':f 10=.int .i64 num:=by rw[hf,h100]<;>rfl
 have h11:f 11=.int .i64 wr:=by rw[hf,h110]<;>rfl
 have h12:f 12=.ptr 0 12 0:=by rw[hf,h120]<;>rfl
 have h47:f 47=.list ((Qk P t).ops.map fun o=>AV.agg o.cells):=by rw[hf,h470]<;>rfl
 have h48:f 48=.int .i64 ((Qk P t).ops.length:Nat):=by rw[hf,h480]<;>rfl
 have h49:f 49=.int .i64 (i:Nat):=by rw[hf,h490]<;>rfl
 have m5':fr 5=.cells (vc v):=by rw[hmm 5 (by decide),m50]<;>rfl
 have m6':fr 6=.cells JS:=by rw[hmm 6 (by decide),m60]<;>rfl
 have m8':fr 8=.cells (Qk P t).cells:=by rw[hmm 8 (by decide),m80]<;>rfl
 have m9':fr 9=.cells (Wv c):=by rw[hmm 9 (by decide),m90]<;>rfl
 have m12':fr 12=.cells (Wv cc):=by rw[hmm 12 (by decide),m120]<;>rfl
 have n15:=hn15 15 (by decide);have n16':fr 16=.none:=by rw[hmm 16 (by decide),n160]<;>rfl
 clear hf hmm hn15 h00 h10 h50 h60 h80 h90 h100 h110 h120 h470 h480 h490 m50 m60 m80 m90 m120 n160 n150;have m5:=m5';have m6:=m6';have m8:=m8';have m12:=m12';simp only[vc]at m5;simp only[JS]at m6;simp only[PG.cells]at m8;simp only[Wv]at m12;simp only[h48,h49,Qa,seval];by_cases hlt:i<(Qk P t).ops.length
 case neg=>
  simp only[QH hlt,Qa,seval];exact h2 _ _ ⟨h0,h1',h5,h6,h8,m5',m6',m8'⟩ ⟨h9,h10',h11,h12,h47,h48,m9',m12',n16'⟩ (by rw[n15]<;>rfl) (QcZ hlt hfd)
 obtain⟨o,hi⟩:∃o,(Qk P t).ops[i]? = some o:=⟨_,QnX hlt⟩;have hgo:((Qk P t).ops.map fun o=>AV.agg o.cells)[i]? = some (.agg [.int .i64 o.num,.str o.name,.str o.alias,.int .i64 o.card,.int .i64 o.key,.int .i64 o.kind,.int .i64 o.target,.int .i64 o.union]):=Qa4 hi;have e1:=Qs i _ hlt hgl;simp only[QA hlt,h47,h49,Qp,Qpq,Qf,hgo,h10',n15,Wu,eE,seval];rcases Qgb hi hfd with⟨hn,hop⟩|⟨hn,hfd'⟩
 case inr=>
  have b1:(o.num != num)=true:=by simp[hn]
  simp only[b1,h49,e1,Qa,seval];exact⟨(Qk P t).ops.length-(i+1),by omega,_,_,i+1,rfl,rfl,by omega,hfd',⟨h0,h1',h5,h6,h8,m5',m6',m8'⟩,⟨h9,h10',h11,h12,h47,h48,m9',m12',n16'⟩,rfl,by rfl⟩
 have b1:(o.num != num)=false:=by simp[hn]
 obtain⟨ho,hkd,_⟩:=SJ hP hU hr ht hop;have hfl:=fun(fr:Nat→Ob)=>j93 (n:=n) hM hK P hP (l+1) s (fr :: Am.put m l s (Xh P cc)) (by exact hpl _) hrec hro (Qk P t) hgl o ho cc (by exact lp _) hcc hcn v hvm hvo hb hkd wr
 rw[Qc v]at hfl;simp only[Qn,Qv,PG.cells,PO.cells,Xh]at hfl;simp only[b1,h0,h5,h8,h11,h12,m5,m8,m12,lp,pp,Xh,Jt,Jg,eE,seval];refine QM (hfl _) (by simp only[Qov,QoZ,Qa,seval]<;>rfl) ?_;intro y m1 hy _;cases hrr:Zr P rec (Qk P t) v o wr cc with
 |error e=>
  rw[hrr]at hy;obtain⟨he',w,d,rfl,rfl⟩:=hy;simp only[Qc w,Xb he',h5,h6,m5,m6,pp,eE,seval];exact he _ _ o w e d h6 rfl rfl hop hrr he'
 |ok p=>
  obtain⟨w,d⟩:=p;rw[hrr]at hy;obtain⟨rfl,rfl⟩:=hy;simp only[Qc w,h5,m5,pp,eE,seval];exact h1 _ _ o w d ⟨h0,h1',h5,h6,h8,rfl,m6',m8'⟩ (by
   intro s hs;simp only[Qpk,Qqc,or_false]at hs;rcases hs with rfl|rfl|rfl|rfl
   ·show(fr 16).isRow=false;rw[n16'];rfl
   ·rfl
   ·show(fr 12).isRow=false;rw[m12'];rfl
   ·show(fr 9).isRow=false;rw[m9'];rfl) hop hrr
include hM hK hP hm hrec hro hU hr ht in
theorem Qc1 (R0:Rd V)(k:Nat)(v:V)(c:C)(f:Fr)(fr:Nat→Ob)(hf:FlF (Qk P t) v t l s f fr)(hrow:∀s∈[16,15,12,9],(fr s).isRow=false)(hc:CI c)(hk:c.left≤k)(hcn:c.left≤n)(hR:X9 P rec t k v c=R0)(hvm:MW P (n+1) (Qk P t) v)(hvo:v.ok M)(hb:(v.cnt:Int)+3*c.left≤K)(Q:Exit→St→Prop)
  (hx:∀f fr v c,FlF (Qk P t) v t l s f fr→R0=.ok (v,c)→Q (.exit 0) ⟨f,fr :: Am.put m l s (Xh P c),[]⟩)
  (he:∀f fr w (e:Nat) c,f 6=.ptr 0 6 0→fr 6=.cells (vc w)→f 7=.int .i64 (e:Nat)→R0=.error e→e≠0→Q .ret ⟨f,fr :: Am.put m l s (Xh P c),[]⟩) :
  Q2 Tryz.prog (.loop Lj) ⟨f,fr :: Am.put m l s (Xh P c),[]⟩ Q:=by
 have lp:∀o,Am.Qd (Am.put m l s o) l s=o:=fun o=>Qq hm
 have pp:=fun o q=>@put_put m l s o q
 let I:Nat→St→Prop:=fun k st=>∃f fr v c,st=⟨f,fr :: Am.put m l s (Xh P c),[]⟩∧FlF (Qk P t) v t l s f fr∧(∀s∈[16,15,12,9],(fr s).isRow=false)∧CI c∧c.left≤k∧c.left≤n∧X9 P rec t k v c=R0∧MW P (n+1) (Qk P t) v∧v.ok M∧(v.cnt:Int)+3*c.left≤K
 refine Qi I k ⟨f,fr,v,c,rfl,hf,hrow,hc,hk,hcn,hR,hvm,hvo,hb⟩ ?_;clear hf hrow hc hk hcn hR hvm hvo hb;rintro k st ⟨f0,fr0,v,c,rfl,⟨h00,h10,h50,h60,h80,m50,m60,m80⟩,hrow,hc,hk,hcn,hR,hvm,hvo,hb⟩;have hcb:=hc.bd;have hcv:=Za v;have lr:=KG v;refine QL (a:=_) [16,15,12,9] hrow ?_;intro f fr hf hmm hn;have h0:f 0=.ptr (l+1) s 0:=by rw[hf,h00]<;>rfl
 have h1':f 1=.int .i64 t:=by rw[hf,h10]<;>rfl
 have h5:f 5=.ptr 0 5 0:=by rw[hf,h50]<;>rfl
 have h6:f 6=.ptr 0 6 0:=by rw[hf,h60]<;>rfl
 have h8:f 8=.ptr 0 8 0:=by rw[hf,h80]<;>rfl
 have m5':fr 5=.cells (vc v):=by rw[hmm 5 (by decide),m50]<;>rfl
 have m6':fr 6=.cells JS:=by rw[hmm 6 (by decide),m60]<;>rfl
 have m8':fr 8=.cells (Qk P t).cells:=by rw[hmm 8 (by decide),m80]<;>rfl
 have n16:=hn 16 (by decide);have n15:=hn 15 (by decide);have n12:=hn 12 (by decide);have n9:=hn 9 (by decide);clear hf hmm hn h00 h10 h50 h60 h80 m50 m60 m80 hrow;have m5:=m5';have m6:=m6';have m8:=m8';simp only[vc]at m5;simp only[JS]at m6;simp only[PG.cells]at m8;simp only[Xh,lp,h0,Jt,eE,seval];refine aC (N0 c hc.big') ?_;by_cases hlt:0<c.left
 case neg=>
  have d1:decide (c.left > 0)=false:=QpQ hlt;have hR':R0=.ok (v,c):=by
   rw[←hR];cases k with
   |zero=>rfl
   |succ k=>rw[X9,Qn4 hlt]
  simp only[d1,Qa,seval];exact hx _ _ v c ⟨(by exact h0),(by exact h1'),(by exact h5),(by exact h6),(by exact h8),m5',m6',m8'⟩ hR'
 have d1:decide (c.left > 0)=true:=QpY hlt;obtain⟨k,rfl⟩:∃j,k=j+1:=⟨k-1,by omega⟩;rw[X9,Qn5 hlt]at hR;have htt:=c92 c hc.big;have hta:=GL hc;have hnx:=c94 c hc.big;have hna:=Ax hc;generalize QF c=tg at htt hta hR hna;obtain⟨num,w,c1,e⟩:=tg;dsimp only at hta hR hna;simp only[NT,C.av]at htt;simp only[d1,lp,h0,n9,Jt,Jg,eE,seval];refine aC htt ?_;by_cases he0:e=0
 case neg=>
  rw[Qn4 he0]at hR;simp only[n12,Xb he0,h5,h6,m5,m6,Jg,eE,seval];exact he _ _ v e c (by exact h6) (by rfl) (by rfl) hR.symm he0
 subst he0;obtain⟨t1,t2,t3,t4,t5⟩:=hta rfl;have hc1:=t1.ci hc;have hl1:=t1.lt hc;have hc1b:=hc1.bd;rw[Qn5 rfl]at hR;simp only[n12,h8,m8,QoS,Jg,eE,seval];refine Qc0 (n:=n) hM hK P hP hU hr l s m hm hrec hro t ht v c c1 num w hc1 (by omega) hvm hvo (by omega) _ _ ⟨(by exact h0),(by exact h1'),(by exact h5),(by exact h6),(by exact h8),(by exact m5'),(by exact m6'),(by exact m8')⟩ ⟨(by rfl),(by rfl),(by rfl),(by rfl),(by rfl),(by rfl),(by rfl),(by rfl),by exact n16⟩ (by rfl) (by show(fr 15).isRow=false;rw[n15];rfl) _ (fun f fr hf hg h15 hop=>?_) (fun f fr o y d hf hrow hop hrf=>?_) (fun f fr o y e d h6 m6 h7 hop hrf he'=>?_)
 ·obtain⟨h0,h1',h5,h6,h8,m5,m6,m8⟩:=hf;obtain⟨h9,h10,h11,h12,h47,h48,m9,m12,n16⟩:=hg;rw[hop]at hR;generalize XJ c=nn at hnx hna hR;obtain⟨x,d,e⟩:=nn;dsimp only at hna hR;simp only[Nf,C.av,R.av]at hnx;have m5':=m5;have m6':=m6;have m8':=m8;simp only[vc]at m5;simp only[JS]at m6;simp only[Wv]at m9 m12;simp only[h9,m9,Jt,eE,seval];refine aC hnx ?_;by_cases he0:e=0
  case neg=>
   rw[Qn4 he0]at hR;simp only[n16,Xb he0,h5,h6,h12,m5,m6,m12,Jg,eE,seval];exact he _ _ v e c (by exact h6) (by rfl) (by rfl) hR.symm he0
  subst he0;obtain⟨a1,_,a2,a3,a4,a5,a6,a7⟩:=hna rfl;have hla:=a1.lt hc;have hrw:x.ok M:=⟨Wk (by omega) (by omega),Wk (by omega) (by omega),by simp[Lit.wf,IntKind.min,IntKind.max,IntKind.bits,IntKind.signed];omega,by omega⟩;have ea:=Nz v x;have hva:=MJ (f:=x) hvm;have hoa:=MI hvo hrw (by omega);have hsd:=j95 v x (by omega);rw[Qn5 rfl]at hR;generalize YA v x=u at hsd ea hva hoa hR;rw[Qc v,Qc u]at hsd;simp only[R.av]at hsd;simp only[n16,h0,h5,h12,m5,m12,lp,pp,Xh,Jt,Jg,eE,seval];refine aC hsd ?_;simp only[h5,m5,eE,seval];exact⟨k,by omega,_,_,u,d,rfl,⟨(by exact h0),(by exact h1'),(by exact h5),(by exact h6),(by exact h8),(by rfl),(by exact m6'),(by exact m8')⟩,(by
   intro s hs;simp only[Qpk,Qqc,or_false]at hs;rcases hs with rfl|rfl|rfl|rfl
   ·rfl
   ·exact h15
   ·rfl
   ·show(fr 9).isRow=false;rw[m9];rfl),a1.ci hc,by omega,by omega,hR,hva,hoa,by omega⟩
 ·obtain⟨ho,hkd,_⟩:=SJ hP hU hr ht hop;obtain⟨b1,b2,b3,b4⟩:=Ve hM hK ho hro hkd hc1 (by omega) hvm hvo (by omega) hrf;have hlb:=b1.lt hc1;rw[hop]at hR;dsimp only at hR;rw[hrf]at hR;exact⟨k,by omega,f,fr,y,d,rfl,hf,hrow,b1.ci hc1,by omega,by omega,hR,b2,b3,by omega⟩
 ·rw[hop]at hR;dsimp only at hR;rw[hrf]at hR;exact he _ _ y e d h6 m6 h7 hR.symm he'
include hM hK hP hm hrec hro hU hr ht in
theorem Pb (v:V)(c:C)(hs:Am.Qd m l s=Xh P c)(hc:CI c)(hcn:c.left≤n)(hvm:MW P (n+1) (Qk P t) v)(hvo:v.ok M)(hb:(v.cnt:Int)+3*c.left≤K) :
  Qe Tryz.prog 48 [.ptr l s 0,.int .i64 t,v.av] m (Rt P l s m V.av (X9 P rec t c.left.toNat v c)):=by
 have lp:∀o,Am.Qd (Am.put m l s o) l s=o:=fun o=>Qq hm
 have hcb:=hc.bd;have hlt:t.toNat<P.progs.length:=by omega
 have hgp:(P.progs.map Qn)[t.toNat]? = some (.agg [.str (Qk P t).name,.list ((Qk P t).ops.map fun o=>AV.agg o.cells),.int .i64 (Qk P t).unions]):=by
  rw[Qpl,(Uu ht).2];rfl
 have ht0:(0≤t)=True:=by simp[ht.1]
 have e0:=put_self hm hs;have hsl:∀xs,((AV.list xs).shN l).sh=.list xs:=fun xs=>shl xs (l+1)
 rw[Xh]at hs;rw[Qc v];refine k48.go (by simp) ?_;simp only[hs,hgp,hsl,ht0,Qf,eE,seval];rw[←e0];refine Qc1 hM hK P hP hU hr l s m hm hrec hro t ht _ c.left.toNat v c _ _ ⟨(by rfl),(by rfl),(by rfl),(by rfl),(by rfl),(by rfl),(by rfl),(by rfl)⟩ (by
   intro s hs;simp only[Qpk,Qqc,or_false]at hs;rcases hs with rfl|rfl|rfl|rfl<;>rfl) hc (by omega) hcn rfl hvm hvo hb _ (fun f fr w d hf hR=>?_) (fun f fr w e d h6 m6 h7 hR he=>?_)
 ·obtain⟨h0,h1',h5,h6,h8,m5,m6,m8⟩:=hf;rw[e0,hR];simp only[vc]at m5;simp only[JS]at m6;simp only[h5,h6,m5,m6,QV,eE,seval];exact⟨by rw[Qc w],rfl⟩
 ·rw[e0,hR];simp only[vc]at m6;simp only[h6,m6,h7,QV,eE,seval];exact⟨he,w,d,by rw[Qc w],rfl⟩
end
theorem Qgc {M K:Nat}(hM:3000≤M)(hK:K≤1000000){P:PL}(hP:P.ok M)(hU:J6 P)(hr:Zi P):∀n:Nat,Fq P M K n (Wg P n)
 |0,l,s,m,t,v,c,hm,hs,hc,hcl,ht,hvm,hvo,hb=>by
  have:=hc.bd;omega
 |n+1,l,s,m,t,v,c,hm,hs,hc,hcl,ht,hvm,hvo,hb=>
  Pb hM hK P hP hU hr l s m hm (Qgc hM hK hP hU hr n) (Du hM hK hP hU hr n) t ht v c hs hc (by omega) hvm hvo hb
theorem Qa5 {v:V}{c:C}{r:Rd V}(h:∀e,r=.error e→e≠0):r=if (MO v c r).2.2=0 then .ok ((MO v c r).1,(MO v c r).2.1)else .error (MO v c r).2.2:=by
 cases r with
 |error e=>
  have:=h e rfl;rw[Qf9,Qn4 this]
 |ok p=>rfl
section
variable (P:PL){rec:Int→V→C→Rd V}(hre:H1 rec)
def Uv (rec:Int→V→C→Rd V)(g:PG)(v:V)(o:PO)(w:Int)(c d:C):V×C×Nat :=
 if o.card=5 then(if w=6 then MO v d (J7 P rec g v o d)else(v,c,13))
 else if w=5∧pk o.card o.kind=true then Dw P g v o d
 else if w=wk o.kind then(if o.kind=10 then MO v d (KS rec g v o d)else Us P g v o d)
 else(v,c,13)
def MT (rec:Int→V→C→Rd V)(g:PG)(v:V)(c:C):V×C×Nat :=
 if (QF c).2.2.2=0 then
  (match Xv g (QF c).1 with
  |none=>if (XJ c).2.2=0 then(YA v (XJ c).1,(XJ c).2.1,0)else(v,c,(XJ c).2.2)
  |some o=>Uv P rec g v o (QF c).2.1 c (QF c).2.2.1)
 else(v,c,(QF c).2.2.2)
include hre in
theorem IY (g:PG)(v:V)(o:PO)(w:Int)(c d:C):Zr P rec g v o w d=if (Uv P rec g v o w c d).2.2=0 then .ok ((Uv P rec g v o w c d).1,(Uv P rec g v o w c d).2.1)else .error (Uv P rec g v o w c d).2.2:=by
 unfold Zr Uv;by_cases h5:o.card=5
 ·simp only[Qn5 h5];by_cases h6:w=6
  ·simp only[Qn5 h6];exact Qa5 fun e h=>IX hre h
  ·simp only[Qn4 h6];rfl
 simp only[Qn4 h5];by_cases hp:w=5∧pk o.card o.kind=true
 ·simp only[Qn5 hp];exact Pa P g v o d
 simp only[Qn4 hp];by_cases hw:w=wk o.kind
 case neg=>
  simp only[Qn4 hw];rfl
 simp only[Qn5 hw];by_cases h10:o.kind=10
 ·simp only[Qn5 h10];exact Qa5 fun e h=>QcX hre h
 ·simp only[Qn4 h10];exact Vf P g v o d
include hre in
theorem Qgd (t:Int)(k:Nat)(v:V)(c:C)(hlt:0<c.left):X9 P rec t (k+1) v c=if (MT P rec (Qk P t) v c).2.2=0 then X9 P rec t k (MT P rec (Qk P t) v c).1 (MT P rec (Qk P t) v c).2.1 else .error (MT P rec (Qk P t) v c).2.2:=by
 rw[X9,Qn5 hlt];unfold MT;by_cases h1:(QF c).2.2.2=0
 case neg=>simp only[Qn4 h1]
 simp only[Qn5 h1];cases hop:Xv (Qk P t) (QF c).1 with
 |none=>
  dsimp only;by_cases h2:(XJ c).2.2=0
  ·simp only[Qn5 h2,if_true]
  ·simp only[Qn4 h2]
 |some o=>
  dsimp only;rw[IY P hre (Qk P t) v o (QF c).2.1 c (QF c).2.2.1];by_cases h2:(Uv P rec (Qk P t) v o (QF c).2.1 c (QF c).2.2.1).2.2=0
  ·simp only[Qn5 h2]
  ·simp only[Qn4 h2]
include hre in
theorem Rn (t:Int):∀(k:Nat) (v:V) (c:C) (e:Nat),X9 P rec t k v c=.error e→e≠0
 |0,_,_,_,h=>by cases h
 |k+1,v,c,e,h=>by
  by_cases hlt:0<c.left
  ·rw[Qgd P hre t k v c hlt]at h;split at h
   ·exact Rn t k _ _ e h
   ·rename_i h1;cases h;exact h1
  ·rw[X9,Qn4 hlt]at h;cases h
theorem Ed:∀n:Nat,H1 (Wg P n)
 |0,_,_,_,_,h=>by cases h
 |n+1,t,v,c,e,h=>Rn P (Ed n) t _ v c e h
end
section
variable {M K n:Nat}(hM:3000≤M)(hK:K≤1000000)(P:PL)(hP:P.ok M)(hU:J6 P)(hr:Zi P){rec:Int→V→C→Rd V}(hre:H1 rec)(hro:W3 P M K n rec)(t:Int)(ht:0≤t∧t<(P.progs.length:Int))
end
section
variable {M K n:Nat}(hM:3000≤M)(hK:K≤1000000)(P:PL)(hP:P.ok M)(hU:J6 P)(hr:Zi P){rec:Int→V→C→Rd V}(hre:H1 rec)(hro:W3 P M K n rec)(t:Int)(ht:0≤t∧t<(P.progs.length:Int))
structure MeF (P:PL)(t:Int)(f:Fr)(fr:Nat→Ob)(v:V)(c:C):Prop where
 f1:f 1=.int .i64 t
 f4:f 4=.ptr 0 4 0
 f6:f 6=.ptr 0 6 0
 f7:f 7=.ptr 0 7 0
 f8:f 8=.ptr 0 8 0
 f9:f 9=.ptr 0 9 0
 m4:fr 4=.cells (Zs P)
 m6:fr 6=.cells (vc v)
 m7:fr 7=.cells (Wv c)
 m8:fr 8=.cells JS
 m9:fr 9=.cells zc6
 rw:∀s∈[12,11],(fr s).isRow=false
end
section
variable {m:PG→V→Prop}{nm:PG→V→V}{P:PL}
end
def TE (m:PG→V→Prop)(P:PL)(o:PO)(x:V):Prop :=
 if o.card=4 then x.kd=11∧x.pairs=[]∧(o.kind=10→∀y∈x.list,m (Qk P o.target) y)
 else if o.card=5 then x.kd=12∧x.list=[]∧(o.kind=10→∀p∈x.pairs,m (Qk P o.target) p.2)
 else o.kind=10→m (Qk P o.target) x
def TY (P:PL):Nat→PG→V→Prop
 |0,_,_=>False
 |n+1,g,v=>v.kd=10∧∀s∈v.slots,∃o,Xv g s.1=some o∧TE (TY P n) P o s.2
theorem QhY {P:PL}{n:Nat}{g:PG}{v:V}(h:TY P n g v):v.kd=10:=by
 cases n with
 |zero=>exact h.elim
 |succ n=>exact h.1
theorem Qge {P:PL}{m w:PG→V→Prop}{nm:PG→V→V}(h:∀g∈P.progs,∀v,w g v→m g (nm g v)){o:PO}(ho:UO P o){v:V}(hv:FW w P o v):TE m P o (XN nm P o v):=by
 have hel:∀y,EW w P o y→o.kind=10→m (Qk P o.target) (Xq nm P o y):=by
  intro y hy hk;unfold Xq;rw[Qn5 hk];exact h _ (Uu (ho.tgt hk)).1 _ (hy hk)
 unfold FW at hv;unfold TE XN;by_cases h4:o.card=4
 ·rw[Qn5 h4]at hv;rw[Qn5 h4,Qn5 h4];refine⟨rfl,rfl,fun hk x hx=>?_⟩;obtain⟨y,hy,rfl⟩:=Qpi.1 hx;exact hel y (hv y hy) hk
 ·rw[Qn4 h4]at hv;rw[Qn4 h4,Qn4 h4];by_cases h5:o.card=5
  ·rw[Qn5 h5]at hv;rw[Qn5 h5,Qn5 h5];have hp:(QX o.key v.pairs).Perm v.pairs:=QR _;refine⟨rfl,rfl,fun hk x hx=>?_⟩;obtain⟨p,hp',rfl⟩:=Qpi.1 hx;exact hel p.2 (hv.1 p (hp.mem_iff.1 hp')).2 hk
  ·rw[Qn4 h5]at hv;rw[Qn4 h5,Qn4 h5];exact hel v hv
theorem Ee {P:PL}(hU:J6 P)(hr:Zi P):∀(n:Nat) (g:PG),g∈P.progs→∀v:V,MW P n g v→TY P n g (nrm P n g v)
 |0,_,_,_,h=>h
 |n+1,g,hg,v,h=>by
  refine⟨rfl,fun x hx=>?_⟩;obtain⟨o,ho,hx⟩:=QoJ.1 hx;obtain⟨e,s,hs,e1,e2⟩:=Zq hx;obtain⟨o',h1,h2⟩:=h.1 s hs;rw[e1,XG (hr g hg) ho]at h1;cases h1;exact⟨o,by rw[e];exact XG (hr g hg) ho,by rw[e2];exact Qge (fun g hg v hv=>Ee hU hr n g hg v hv) (hU g hg o ho) h2⟩
theorem Qgf {P:PL}{n:Nat}{g:PG}(hd:g.ops.Pairwise fun a b=>a.num<b.num){v:V}(h:TY P (n+1) g v){o:PO}(ho:o∈g.ops){x:V}(hx:XV v o.num=some x):TE (TY P n) P o x:=by
 obtain⟨o',h1,h2⟩:=h.2 _ (XE hx).1;rw[XG hd ho]at h1;cases h1;exact h2
def MU (m:PG→V→Bool)(P:PL)(o:PO)(x:V):Bool:=o.kind==10&&(if o.card=4 then x.list.any (m (Qk P o.target))else if o.card=5 then x.pairs.any (fun p=>m (Qk P o.target) p.2)else m (Qk P o.target) x)
def BQ (m:PG→V→Bool)(P:PL)(v:V)(o:PO):Bool:=match XV v o.num with
 |none=>o.card==1
 |some x=>MU m P o x
def KJ (P:PL):Nat→PG→V→Bool
 |0,_,_=>false
 |n+1,g,v=>g.ops.any (BQ (KJ P n) P v)
def DV (x:V):List V:=if x.kd=11 then x.list else if x.kd=12 then x.pairs.map Prod.snd else [x]
theorem Qc2 {P:PL}{n:Nat}{o:PO}{x:V}(h:TE (TY P n) P o x)(hk:o.kind=10)(m:PG→V→Bool):MU m P o x=(DV x).any (m (Qk P o.target))∧∀y∈DV x,TY P n (Qk P o.target) y:=by
 have b:(o.kind==10)=true:=by simp[hk]
 unfold MU DV;unfold TE at h;rw[b,QpE];by_cases h4:o.card=4
 ·rw[Qn5 h4]at h;rw[Qn5 h4,Qn5 h.1];exact⟨rfl,h.2.2 hk⟩
 ·rw[Qn4 h4]at h;rw[Qn4 h4];by_cases h5:o.card=5
  ·rw[Qn5 h5]at h;have n11:¬x.kd=11:=by omega
   rw[Qn5 h5,Qn4 n11,Qn5 h.1];refine⟨by rw[List.any_map];rfl,fun y hy=>?_⟩;obtain⟨p,hp,rfl⟩:=Qpi.1 hy;exact h.2.2 hk p hp
  ·rw[Qn4 h5]at h;have hx:=h hk;have hkd:=QhY hx;have n11:¬x.kd=11:=by omega
   have n12:¬x.kd=12:=by omega
   rw[Qn4 h5,Qn4 n11,Qn4 n12];refine⟨by simp,fun y hy=>?_⟩;rw[Qp8]at hy;subst hy;exact hx
theorem Qc3 {x y:V}(h:y∈DV x):y.cnt≤x.cnt:=by
 unfold DV at h;split at h
 ·have:=Fj h;rw[Q1 x];omega
 ·split at h
  ·obtain⟨p,hp,rfl⟩:=Qpi.1 h;have:=HS hp;rw[Q1 x];omega
  ·rw[Qp8]at h;subst h;omega
def ElI (x:V)(k:Nat)(st:St):Prop :=
 ∃f fr i g,st=⟨f,[fr],[]⟩∧k=x.pairs.length-i∧i≤x.pairs.length∧f 3=.vec 0 3 g 0 i false∧f 15=.list (x.pairs.map V.pav)∧f 16=.int .i64 (x.pairs.length:Nat)∧f 17=.int .i64 (i:Nat)∧fr 3=.vec g 7 (((x.pairs.take i).map Prod.snd).map V.av)∧∀s∈[5],(fr s).isRow=false
theorem j50 (x:V)(hc:x.cnt≤1048576):Qg Tryz.prog 50 [x.av] (.list ((DV x).map V.av)):=by
 have hl:=Jr x;unfold DV;rw[Qc];by_cases h11:x.kd=11
 ·have b1:(x.kd==11)=true:=by simp[h11]
  rw[Qn5 h11];refine wF Tryz.func50 ?_;simp only[eK,Tryz.f50,seval];simp only[b1,eE,seval]
 have b1:(x.kd==11)=false:=by simp[h11]
 rw[Qn4 h11];by_cases h12:x.kd=12
 case neg=>
  have b2:(x.kd==12)=false:=by simp[h12]
  rw[Qn4 h12];refine wF Tryz.func50 ?_;simp only[eK,Tryz.f50,seval];simp only[b1,b2,eE,seval];refine QO (l:=[x.av]) rfl rfl rfl (by rw[Qc];rfl) ?_;simp only[Qa,seval];rfl
 have b2:(x.kd==12)=true:=by simp[h12]
 rw[Qn5 h12];refine wF Tryz.func50 ?_;simp only[eK,Tryz.f50,seval];simp only[b1,b2,eE,seval];refine ZG (by simp only[Qa,seval]) rfl ?_;simp only[QoS,eE,seval];refine Qi (ElI x) _ ⟨_,_,0,_,rfl,rfl,Qn6 _,rfl,rfl,rfl,rfl,rfl,by simp<;>rfl⟩ ?_;rintro _ st ⟨f0,fr0,i,g,rfl,rfl,hil,h30,h150,h160,h170,m30,r5⟩;refine QL (a:=_) [5] r5 ?_;intro f fr hf hm hn;have h3:f 3=.vec 0 3 g 0 i false:=by rw[hf,h30]<;>rfl
 have h15:f 15=.list (x.pairs.map V.pav):=by rw[hf,h150]<;>rfl
 have h16:f 16=.int .i64 (x.pairs.length:Nat):=by rw[hf,h160]<;>rfl
 have h17:f 17=.int .i64 (i:Nat):=by rw[hf,h170]<;>rfl
 have m3:fr 3=.vec g 7 (((x.pairs.take i).map Prod.snd).map V.av):=by rw[hm 3 (by decide),m30]<;>rfl
 have n5:=hn 5 (by decide);clear hf hm hn h30 h150 h160 h170 m30 r5;have hln:(((x.pairs.take i).map Prod.snd).map V.av).length=i:=by rw[QoS,QoS,QoU];omega
 simp only[h16,h17,Qa,seval];by_cases hlt:i<x.pairs.length
 ·obtain⟨p,hi⟩:∃p,x.pairs[i]? = some p:=⟨x.pairs[i],QnX hlt⟩;have hg:=J3 hi;have e1:=Qs i _ hlt (by simp only[maxLen];omega);have hst:((x.pairs.take (i+1)).map Prod.snd).map V.av=((x.pairs.take i).map Prod.snd).map V.av++[p.2.av]:=by
   rw[QpM,hi];simp
  simp only[QA hlt,Qp,Qpq,Qf,hg,n5,h3,h15,h17,eE,seval];refine QO (l:=[p.2.av]) rfl rfl rfl (by rw[Qc];rfl) ?_;refine QK (site:=3) (g:=g) (n:=i) (xs:=((x.pairs.take i).map Prod.snd).map V.av) (ys:=[p.2.av]) rfl m3 rfl hln.symm rfl (GM [p.2]) (by simp only[Qoc,QoT,maxLen];omega) (by simp only[Qoc,QoT];omega) ?_;simp only[h17,e1,Qa,seval];exact⟨x.pairs.length-(i+1),by omega,_,_,i+1,g+1,rfl,rfl,by omega,rfl,h15,h16,rfl,(by rw[hst];exact rfl),by simp<;>rfl⟩
 ·have e:i=x.pairs.length:=by omega
  subst e;rw[QpC]at m3 hln;simp only[QH hlt,h3,eE,seval];simp[AV.un,ZE,XO,m3];exact Qox (by rw[QoS];exact QnV _)
section
variable {M:Nat}(P:PL)(hP:P.ok M)(hr:Zi P)
structure CoF (P:PL)(v:V)(g:PG)(i:Nat)(f:Fr)(fr:Nat→Ob):Prop where
 f3:f 3=.ptr 0 3 0
 f5:f 5=.ptr 0 5 0
 f18:f 18=.list (g.ops.map fun o=>AV.agg o.cells)
 f19:f 19=.int .i64 (g.ops.length:Nat)
 f20:f 20=.int .i64 (i:Nat)
 m3:fr 3=.cells (Zs P)
 m5:fr 5=.cells (vc v)
theorem QhZ (v:V)(g:PG)(i:Nat)(t:Int)(o:PO)(hot:o.target=t)(l:List V)(hl:l.length≤1048576)(m:V→Bool)(hm:∀y∈l,Qg Tryz.prog 25 [P.av,.int .i64 t,y.av] (.bool (!m y)))
  (f:Fr) (fr:Nat→Ob) (hf:CoF P v g i f fr) (h8:f 8=.ptr 0 8 0) (m8:fr 8=.cells o.cells) (h9:(fr 9).isRow=false) (h40:f 40=.list (l.map V.av)) (h41:f 41=.int .i64 (l.length:Nat)) (h42:f 42=.int .i64 0) (h12:(fr 12).isRow=false) (Q:Exit→St→Prop)
  (hx:∀f fr,CoF P v g i f fr→(∀s∈[12,9,8],(fr s).isRow=false)→l.any m=false→Q (.exit 2) ⟨f,[fr],[]⟩)
  (hy:∀f fr,f 6=.bool false→l.any m=true→Q .ret ⟨f,[fr],[]⟩) :
  Q2 Tryz.prog (.loop Lg) ⟨f,[fr],[]⟩ Q:=by
 let I:Nat→St→Prop:=fun k st=>∃f fr j,st=⟨f,[fr],[]⟩∧k=l.length-j∧j≤l.length∧l.any m=(l.drop j).any m∧CoF P v g i f fr∧f 8=.ptr 0 8 0∧fr 8=.cells o.cells∧(fr 9).isRow=false∧f 40=.list (l.map V.av)∧f 41=.int .i64 (l.length:Nat)∧f 42=.int .i64 (j:Nat)∧(fr 12).isRow=false
 refine Qi I _ ⟨f,fr,0,rfl,rfl,Qn6 _,rfl,hf,h8,m8,h9,h40,h41,h42,h12⟩ ?_;clear hf h8 m8 h9 h40 h41 h42 h12;rintro _ st ⟨f0,fr0,j,rfl,rfl,hjl,hany,⟨h30,h50,h180,h190,h200,m30,m50⟩,h80,m80,h90,h400,h410,h420,h120⟩;refine QL (a:=_) [12] (by intro s hs;simp only[Qp8]at hs;subst hs;exact h120) ?_;intro f fr hf hmm hn;have h3:f 3=.ptr 0 3 0:=by rw[hf,h30]<;>rfl
 have h5:f 5=.ptr 0 5 0:=by rw[hf,h50]<;>rfl
 have h8:f 8=.ptr 0 8 0:=by rw[hf,h80]<;>rfl
 have h18:f 18=.list (g.ops.map fun o=>AV.agg o.cells):=by rw[hf,h180]<;>rfl
 have h19:f 19=.int .i64 (g.ops.length:Nat):=by rw[hf,h190]<;>rfl
 have h20:f 20=.int .i64 (i:Nat):=by rw[hf,h200]<;>rfl
 have h40:f 40=.list (l.map V.av):=by rw[hf,h400]<;>rfl
 have h41:f 41=.int .i64 (l.length:Nat):=by rw[hf,h410]<;>rfl
 have h42:f 42=.int .i64 (j:Nat):=by rw[hf,h420]<;>rfl
 have m3':fr 3=.cells (Zs P):=by rw[hmm 3 (by decide),m30]<;>rfl
 have m5':fr 5=.cells (vc v):=by rw[hmm 5 (by decide),m50]<;>rfl
 have m8':fr 8=.cells o.cells:=by rw[hmm 8 (by decide),m80]<;>rfl
 have n9:(fr 9).isRow=false:=by
  rw[hmm 9 (by decide)];cases h:fr0 9<;>rw[h]at h90<;>first|rfl|cases h90
 have n12:=hn 12 (by decide);clear hf hmm hn h30 h50 h80 h180 h190 h200 h400 h410 h420 m30 m50 m80 h90 h120;have m3:=m3';have m8:=m8';simp only[Zs]at m3;simp only[PO.cells]at m8;simp only[h41,h42,Qa,seval];by_cases hlt:j<l.length
 case neg=>
  have ha:l.any m=false:=by rw[hany,QoA (by omega)];rfl
  simp only[QH hlt,Qa,seval];refine hx _ _ ⟨h3,h5,h18,h19,h20,m3',m5'⟩ ?_ ha;intro s hs;simp only[Qpk,Qqc,or_false]at hs;rcases hs with rfl|rfl|rfl
  ·rw[n12];rfl
  ·exact n9
  ·rw[m8'];rfl
 obtain⟨y,hj⟩:∃y,l[j]? = some y:=⟨l[j],QnX hlt⟩;have hgy:(l.map V.av)[j]? = some y.av:=by rw[Qpl,hj];rfl
 have hcl:=hm y (Qob hj);have e1:=Qs j _ hlt (by simp only[maxLen];omega);have hdr:l.drop j=y :: l.drop (j+1):=by
  rw[QoG hlt,(QnW.1 hj).2]
 rw[hdr,List.any_cons]at hany;rw[Qc y]at hgy;rw[show P.av=.agg (Zs P)from rfl,Qc y]at hcl;simp only[Zs]at hcl;subst hot;simp only[QA hlt,Qp,Qpq,Qf,hgy,n12,h3,h8,h40,h42,m3,m8,eE,seval];refine aC hcl ?_;cases hmy:m y
 ·rw[hmy,QpJ]at hany;simp only[Qo5,QpF,h42,e1,Qa,seval];exact⟨l.length-(j+1),by omega,_,_,j+1,rfl,rfl,by omega,hany,⟨h3,h5,h18,h19,h20,m3',m5'⟩,h8,m8',by exact n9,h40,h41,rfl,by rfl⟩
 ·rw[hmy,QpI]at hany;simp only[Qo5,QpF,Qa,seval];exact hy _ _ rfl hany
include hP hr in
theorem Qc4 (n:Nat)(t:Int)(ht:0≤t∧t<(P.progs.length:Int))(hU:J6 P)(ih:∀(t:Int) (v:V),(0≤t∧t<(P.progs.length:Int))→TY P n (Qk P t) v→v.cnt≤1048576→Qg Tryz.prog 25 [P.av,.int .i64 t,v.av] (.bool (!KJ P n (Qk P t) v)))
  (v:V) (hv:TY P (n+1) (Qk P t) v) (hc:v.cnt≤1048576):Qg Tryz.prog 25 [P.av,.int .i64 t,v.av] (.bool (!KJ P (n+1) (Qk P t) v)):=by
 have hgm:=(Uu ht).1;have hgp:(P.progs.map Qn)[t.toNat]? = some (.agg [.str (Qk P t).name,.list ((Qk P t).ops.map fun o=>AV.agg o.cells),.int .i64 (Qk P t).unions]):=by
  rw[Qpl,(Uu ht).2];rfl
 have ht0:(0≤t)=True:=by simp[ht.1]
 have hgl:(Qk P t).ops.length≤maxLen:=(hP.progs _ hgm).len;have hrg:=hr _ hgm;have hUg:=hU _ hgm;have ls:=Zj v;rw[show KJ P (n+1) (Qk P t) v=(Qk P t).ops.any (BQ (KJ P n) P v)from rfl];generalize Qk P t=g at *;rw[show P.av=.agg (Zs P)from rfl,Qc v];refine k25.fn (by simp) ?_;simp only[Zs,hgp,ht0,Qf,QoS,eE,seval]
 let I:Nat→St→Prop:=fun k st=>∃f fr i,st=⟨f,[fr],[]⟩∧k=g.ops.length-i∧i≤g.ops.length∧g.ops.any (BQ (KJ P n) P v)=(g.ops.drop i).any (BQ (KJ P n) P v)∧CoF P v g i f fr∧∀s∈[12,9,8],(fr s).isRow=false
 refine Qi I _ ⟨_,_,0,rfl,rfl,Qn6 _,rfl,⟨(by rfl),(by rfl),(by rfl),(by rfl),(by rfl),(by rfl),(by rfl)⟩,U5 rfl rfl rfl⟩ ?_;rintro _ st ⟨f0,fr0,i,rfl,rfl,hil,hany,⟨h30,h50,h180,h190,h200,m30,m50⟩,hrow⟩;refine QL (a:=_) [12,9,8] hrow ?_;intro f fr hf hmm hn;have h3:f 3=.ptr 0 3 0:=by rw[hf,h30]<;>rfl
 have h5:f 5=.ptr 0 5 0:=by rw[hf,h50]<;>rfl
 have h18:f 18=.list (g.ops.map fun o=>AV.agg o.cells):=by rw[hf,h180]<;>rfl
 have h19:f 19=.int .i64 (g.ops.length:Nat):=by rw[hf,h190]<;>rfl
 have h20:f 20=.int .i64 (i:Nat):=by rw[hf,h200]<;>rfl
 have m3':fr 3=.cells (Zs P):=by rw[hmm 3 (by decide),m30]<;>rfl
 have m5':fr 5=.cells (vc v):=by rw[hmm 5 (by decide),m50]<;>rfl
 have n12:=hn 12 (by decide);have n9:=hn 9 (by decide);have n8:=hn 8 (by decide);clear hf hmm hn h30 h50 h180 h190 h200 m30 m50 hrow;have m3:=m3';have m5:=m5';simp only[Zs]at m3;simp only[vc]at m5;simp only[h19,h20,Qa,seval];by_cases hlt:i<g.ops.length
 case neg=>
  have ha:g.ops.any (BQ (KJ P n) P v)=false:=by rw[hany,QoA (by omega)];rfl
  simp only[QH hlt,ha,Qo5,Qa,seval]
 obtain⟨o,hi⟩:∃o,g.ops[i]? = some o:=⟨g.ops[i],QnX hlt⟩;have hom:=Qob hi;have hgo:(g.ops.map fun o=>AV.agg o.cells)[i]? = some (.agg [.int .i64 o.num,.str o.name,.str o.alias,.int .i64 o.card,.int .i64 o.key,.int .i64 o.kind,.int .i64 o.target,.int .i64 o.union]):=Qa4 hi;have e1:=Qs i _ hlt hgl;have hdr:g.ops.drop i=o :: g.ops.drop (i+1):=by
  rw[QoG hlt,(QnW.1 hi).2]
 rw[hdr,List.any_cons]at hany;have hfd:=A9 v o.num (by omega);have hoc:=Dv v o.num;have hel:=j50 (QW v o.num) (by omega);have hte:=fun x hx=>Qgf (x:=x) hrg hv hom hx
 rw[Qc v]at hfd;rw[show BQ (KJ P n) P v o=(match XV v o.num with|none=>o.card==1|some x=>MU (KJ P n) P o x)from rfl]at hany;have next:∀(f':Fr) (fr':Nat→Ob),g.ops.any (BQ (KJ P n) P v)=(g.ops.drop (i+1)).any (BQ (KJ P n) P v)→CoF P v g (i+1) f' fr'→(∀s∈[12,9,8],(fr' s).isRow=false)→∃k,k<g.ops.length-i∧I k ⟨f',[fr'],[]⟩:=fun f' fr' a b c=>⟨g.ops.length-(i+1),by omega,f',fr',i+1,rfl,rfl,by omega,a,b,c⟩
 cases hf:XV v o.num with
 |none=>
  rw[hf]at hfd hany;rw[Qc (QW v o.num)]at hfd;simp only[QoN]at hfd;dsimp only at hany;simp only[QA hlt,Qp,Qpq,Qf,hgo,n8,h5,h18,h20,m5,eE,seval];refine aC hfd ?_;cases h1:(o.card==1)
  ·rw[h1,QpJ]at hany;simp only[h1,n9,n8,h20,e1,eE,seval];exact next _ _ hany ⟨(by exact h3),(by exact h5),(by exact h18),(by exact h19),(by rfl),(by exact m3'),(by exact m5')⟩ (by
    intro s hs;simp only[Qpk,Qqc,or_false]at hs;rcases hs with rfl|rfl|rfl
    ·show(fr 12).isRow=false;rw[n12];rfl
    ·rfl
    ·rfl)
  ·rw[h1,QpI]at hany;simp only[h1,hany,QpF,n9,n8,eE,seval]
 |some x=>
  have hx:=(XE hf).2;have hte:=hte x hf;rw[hf]at hfd hany;rw[hx]at hfd hel hoc;rw[Qc x]at hfd hel;simp only[QpR]at hfd;dsimp only at hany;simp only[QA hlt,Qp,Qpq,Qf,hgo,n8,h5,h18,h20,m5,eE,seval];refine aC hfd ?_;by_cases hk:o.kind=10
  case neg=>
   have bk:(o.kind != 10)=true:=by simp[hk]
   have bk':(o.kind==10)=false:=by simp[hk]
   have he:MU (KJ P n) P o x=false:=by unfold MU;rw[bk',Qpu]
   rw[he,QpJ]at hany;simp only[bk,n9,n8,h20,e1,eE,seval];exact next _ _ hany ⟨(by exact h3),(by exact h5),(by exact h18),(by exact h19),(by rfl),(by exact m3'),(by exact m5')⟩ (by
    intro s hs;simp only[Qpk,Qqc,or_false]at hs;rcases hs with rfl|rfl|rfl
    ·show(fr 12).isRow=false;rw[n12];rfl
    ·rfl
    ·rfl)
  have bk:(o.kind != 10)=false:=by simp[hk]
  obtain⟨l1,l2⟩:=Qc2 hte hk (KJ P n);have htt:=(hUg o hom).tgt hk;have hll:(DV x).length≤1048576:=by
   unfold DV;have h1:=ZJ x;have h2:=Jr x;split
   ·omega
   ·split
    ·rw[QoS];omega
    ·simp
  simp only[bk,n9,n8,eE,seval];refine aC hel ?_;simp only[QoS,Qa,seval];refine QhZ P v g i o.target o rfl (DV x) hll (KJ P n (Qk P o.target)) (fun y hy=>ih o.target y htt (l2 y hy) (by have:=Qc3 hy;omega)) _ _ ⟨(by exact h3),(by exact h5),(by exact h18),(by exact h19),(by exact h20),(by exact m3'),(by exact m5')⟩ (by rfl) (by rfl) (by rfl) (by rfl) (by rfl) (by rfl) (by show(fr 12).isRow=false;rw[n12];rfl) _ (fun f fr hf hrow ha=>?_) (fun f fr h6 ha=>?_)
  ·obtain⟨h3,h5,h18,h19,h20,m3,m5⟩:=hf;rw[l1,ha,QpJ]at hany;simp only[h20,e1,Qa,seval];exact next _ _ hany ⟨(by exact h3),(by exact h5),(by exact h18),(by exact h19),(by rfl),m3,m5⟩ hrow
  ·rw[l1,ha,QpI]at hany;simp only[hany,h6,QpF,Qa,seval]
include hP hr in
theorem j25 (hU:J6 P):∀(n:Nat) (t:Int) (v:V),(0≤t∧t<(P.progs.length:Int))→TY P n (Qk P t) v→v.cnt≤1048576→Qg Tryz.prog 25 [P.av,.int .i64 t,v.av] (.bool (!KJ P n (Qk P t) v))
 |0,_,_,_,h,_=>h.elim
 |n+1,t,v,ht,hv,hc=>Qc4 P hP hr n t ht hU (j25 hU n) v hv hc
end
section
variable (P:PL)(o:PO)
structure LaF (P:PL)(o:PO)(x:V)(f:Fr)(fr:Nat→Ob):Prop where
 f3:f 3=.ptr 0 3 0
 f4:f 4=.ptr 0 4 0
 f5:f 5=.ptr 0 5 0
 m3:fr 3=.cells (Zs P)
 m4:fr 4=.cells o.cells
 m5:fr 5=.cells (vc x)
variable (x:V)(hl:x.cnt≤1048576)(m:V→Bool)
include hl
end
section
variable {M:Nat}(P:PL)(hP:P.ok M)(hr:Zi P)(hU:J6 P)
structure LsF (P:PL)(t:Int)(v:V)(i:Nat)(f:Fr)(fr:Nat→Ob):Prop where
 f1:f 1=.int .i64 t
 f3:f 3=.ptr 0 3 0
 f5:f 5=.ptr 0 5 0
 f7:f 7=.int .i64 (i:Nat)
 m3:fr 3=.cells (Zs P)
 m5:fr 5=.cells (vc v)
end
def QS (s:List UInt8)(P:PL):Int:=Zo (fun g:PG=>g.name==s) P.progs 0
theorem UT (s:List UInt8)(P:PL):QS s P = -1∨(0≤QS s P∧QS s P<(P.progs.length:Int)):=by
 unfold QS;rcases Y9 (fun g:PG=>g.name==s) P.progs 0 with⟨h,_⟩|⟨k,o,h,h1,_⟩
 ·exact .inl h
 ·have:=(QnW.1 h1).1;exact .inr ⟨by rw[h];omega,by rw[h];omega⟩
def KL (P:PL)(N:Nat)(s:List UInt8)(b:V)(d:List UInt8)(l:L):V×Nat :=
 if QS s P<0 then(QD 0 0 [],10)
 else if b.kd≠10 then(QD 0 0 [],12)
 else if (opn d l).2≠0 then(QD 0 0 [],(opn d l).2)
 else if l.dp<1 then(QD 0 0 [],17)
 else match spd ⟨d,0,d.length,l.dp-1,l.nd,l.tx⟩ 1 with
  |.error e=>(QD 0 0 [],e)
  |.ok c=>match Wg P N (QS s P) b c with
   |.error e=>(QD 0 0 [],e)
   |.ok (v,_)=>(nrm P N (Qk P (QS s P)) v,0)
def ov (r:V×Nat):AV:=.tup [r.1.av,.int .i64 (r.2:Nat)]
theorem Ef {d:List UInt8}{l:L}(h:(opn d l).2=0):opn d l=(⟨d,0,d.length,l.dp,l.nd,l.tx⟩,0)∧0≤l.dp∧0≤l.nd:=by
 unfold opn at h ⊢;split at h
 ·cases h
 ·split at h
  ·cases h
  ·rename_i h1 h2;rw[Qn4 h1,Qn4 h2];exact⟨rfl,by omega,by omega⟩
theorem MV {d:List UInt8}{l:L}(hd:d.length≤3000)(h1:1≤l.dp∧l.dp<9223372036854775808)(h2:0≤l.nd∧l.nd<9223372036854775808):CI ⟨d,0,d.length,l.dp-1,l.nd,l.tx⟩ :=
 ⟨hd,by unfold C.sound;simp,h2,by dsimp only;omega⟩
section
variable {M N:Nat}(hM:3000≤M)(P:PL)(hP:P.ok M)(hc:ck P=0)(hN:3000<N)(s:List UInt8)(b:V)(d:List UInt8)(l:L)(hd:d.length≤3000)(hl1:l.dp<9223372036854775808)(hl2:l.nd<9223372036854775808)
 (hbm:b.kd=10→0≤QS s P→MW P N (Qk P (QS s P)) b) (hbo:b.ok M) (hbc:b.cnt≤900000)
include hM hP hc hN hd hl1 hl2 hbm hbo hbc in
theorem Qc5 (h:(KL P N s b d l).2=0):(0≤QS s P∧QS s P<(P.progs.length:Int))∧∃w,MW P N (Qk P (QS s P)) w∧w.ok M∧(w.cnt:Int)≤b.cnt+3*d.length∧(KL P N s b d l).1=nrm P N (Qk P (QS s P)) w:=by
 unfold KL at h ⊢;rcases UT s P with hx|hx
 ·rw[Qn5 (by omega)]at h;cases h
 rw[Qn4 (by omega)]at h ⊢;by_cases hk:b.kd=10
 case neg=>rw[Qn5 hk]at h;cases h
 rw[Qn4 (by simp[hk])]at h ⊢;by_cases ho:(opn d l).2=0
 case neg=>rw[Qn5 ho]at h;exact absurd h ho
 rw[Qn4 (by simp[ho])]at h ⊢;obtain⟨_,o1,o2⟩:=Ef ho;by_cases hdp:l.dp<1
 ·rw[Qn5 hdp]at h;cases h
 rw[Qn4 hdp]at h ⊢;have hci:=MV (l:=l) hd ⟨by omega,hl1⟩ ⟨o2,hl2⟩;have hlf:=hci.lf;dsimp only at hlf;generalize (⟨d,0,d.length,l.dp-1,l.nd,l.tx⟩:C)=c0 at h hci hlf ⊢;cases hs:spd c0 1 with
 |error e=>
  rw[hs]at h;exact absurd h (SN hs)
 |ok c=>
  rw[hs]at h;dsimp only at h ⊢;obtain⟨s1,s2⟩:=JQ hci (by omega) hs;have hcc:=s1.ci hci;have hls:=(s1.left hci).2.2;cases hr:Wg P N (QS s P) b c with
  |error e=>
   rw[hr]at h;exact absurd h (Ed P N _ _ _ _ hr)
  |ok p=>
   obtain⟨w,c2⟩:=p;obtain⟨q1,q2,q3,q4⟩:=Du (K:=1000000) hM (QnV _) hP (Yz hc) (J4 hc) N (QS s P) b c hcc (by omega) hx (hbm hk hx.1) hbo (by omega) w c2 hr;have hb2:=(q1.ci hcc).bd;exact⟨hx,w,q2,q3,by omega,rfl⟩
include hM hP hc hN hd hl1 hl2 hbm hbo hbc in
theorem j24:Qg Tryz.prog 24 [P.av,.str s,b.av,.str d,l.av] (ov (KL P N s b d l)):=by
 have hU:=Yz hc;have hr:=J4 hc;have hln:P.progs.length≤maxLen:=hP.len1;have hfi:=y15 P hln s;have hop:=c46 d l;have z0:(QD 0 0 []).av=.agg [.int .i64 0,.int .u64 0,.str [],.list [],.list [],.list [],.list []]:=Qc _;unfold Bf at hfi;rw[show Zo (fun g:PG=>g.name==s) P.progs 0=QS s P from rfl]at hfi;rw[show P.av=.agg (Zs P)from rfl]at hfi;unfold KL;rw[show P.av=.agg (Zs P)from rfl,Qc b];simp only[Zs]at hfi;rcases UT s P with hx|hx
 ·have d1:decide (QS s P≥0)=false:=QpQ (by omega);rw[d1]at hfi;rw[Qn5 (by omega)];refine wF Tryz.func24 ?_;simp only[eK,Tryz.f24,seval];simp only[Zs,L.av,eE,seval];refine aC hfi ?_;simp only[ov,z0,eE,seval]<;>rfl
 have d1:decide (QS s P≥0)=true:=QpY (by omega);rw[d1,Qn4 (by omega:¬QS s P<0)]at hfi;rw[Qn4 (by omega)];by_cases hk:b.kd=10
 case neg=>
  have b1:(b.kd != 10)=true:=by simp[hk]
  rw[Qn5 hk];refine wF Tryz.func24 ?_;simp only[eK,Tryz.f24,seval];simp only[Zs,L.av,eE,seval];refine aC hfi ?_;simp only[b1,ov,z0,eE,seval]<;>rfl
 have b1:(b.kd != 10)=false:=by simp[hk]
 rw[Qn4 (by simp[hk])];by_cases ho:(opn d l).2=0
 case neg=>
  rw[Qn5 ho];generalize opn d l=q at hop ho ⊢;obtain⟨c,e⟩:=q;dsimp only at ho ⊢;simp only[Hd,C.av,L.av]at hop;refine wF Tryz.func24 ?_;simp only[eK,Tryz.f24,seval];simp only[Zs,L.av,eE,seval];refine aC hfi ?_;simp only[b1,eE,seval];refine aC hop ?_;simp only[Xb ho,ov,z0,eE,seval]
 rw[Qn4 (by simp[ho])];obtain⟨oe,o1,o2⟩:=Ef ho;rw[oe]at hop;simp only[Hd,C.av,L.av]at hop;by_cases hdp:l.dp<1
 ·have b2:decide (l.dp<1)=true:=QpY hdp;rw[Qn5 hdp];refine wF Tryz.func24 ?_;simp only[eK,Tryz.f24,seval];simp only[Zs,L.av,eE,seval];refine aC hfi ?_;simp only[b1,eE,seval];refine aC hop ?_;simp only[b2,ov,z0,eE,seval]<;>rfl
 have b2:decide (l.dp<1)=false:=QpQ hdp;have w1:IntKind.i64.wrap (l.dp-1)=l.dp-1:=by rw[Qz];omega
 rw[Qn4 hdp];have hci:=MV (l:=l) hd ⟨by omega,hl1⟩ ⟨o2,hl2⟩;have hlf:=hci.lf;dsimp only at hlf;have hrob:∀c:C,Xh P c=.cells [.list (P.progs.map Qn),.list (P.enums.map QC),.str c.d,.int .i64 c.a,.int .i64 c.e,.int .i64 c.dp,.int .i64 c.nd,.int .i64 c.tx]:=fun _=>rfl
 have p0:∀(fr:Nat→Ob) (o:Ob),Am.put [fr] 0 52 o=[QI fr 52 o]:=fun _ _=>rfl
 refine wF Tryz.func24 ?_;simp only[eK,Tryz.f24,seval];simp only[Zs,L.av,eE,seval];refine aC hfi ?_;simp only[b1,eE,seval];refine aC hop ?_;simp only[b2,w1,eE,seval];refine QM (MN P ⟨d,0,d.length,l.dp-1,l.nd,l.tx⟩ 0 52 _ rfl 1) (by simp only[Qov,QoZ,Qa,seval]) ?_;rintro x m1 ⟨rfl,rfl⟩ _;generalize (⟨d,0,d.length,l.dp-1,l.nd,l.tx⟩:C)=c0 at hci hlf ⊢;rcases KI c0 1 with⟨c,h2,h2'⟩|⟨e,he,h2,h2'⟩
 case inr=>
  rw[h2,h2'];simp only[p0,Xb he,ov,z0,eE,seval]
 rw[h2,h2'];obtain⟨s1,s2⟩:=JQ hci (by omega) h2;have hcc:=s1.ci hci;have hls:=(s1.left hci).2.2;dsimp only;simp only[p0,eE,seval];have hrc:=fun(m:Qj) (hm:0<m.length) (h:Am.Qd m 0 52=Xh P c)=>Qgc (K:=1000000) hM (QnV _) hP hU hr N 0 52 m (QS s P) b c hm h hcc (by omega) hx (hbm hk hx.1) hbo (by omega)
 have hro:=Du (K:=1000000) hM (QnV _) hP hU hr N (QS s P) b c hcc (by omega) hx (hbm hk hx.1) hbo (by omega);rw[Qc b]at hrc;refine QM (hrc _ (by simp) rfl) (by simp only[Qov,QoZ,Qa,seval]) ?_;intro x m1 hx1 _;cases hr2:Wg P N (QS s P) b c with
 |error e=>
  rw[hr2]at hx1;obtain⟨he,w,c',rfl,rfl⟩:=hx1;dsimp only;simp only[p0,Xb he,Qc w,ov,z0,eE,seval]
 |ok p=>
  obtain⟨w,c2⟩:=p;rw[hr2]at hx1;obtain⟨rfl,rfl⟩:=hx1;obtain⟨q1,q2,q3,q4⟩:=hro w c2 hr2;have hb2:=(q1.ci hcc).bd;have hnm:=v39 hP hU hr (Mj hc) N (QS s P) _ (Uu hx).2 hx.1 w q3 (by omega) q2;dsimp only;generalize nrm P N (Qk P (QS s P)) w=u at hnm ⊢;rw[show P.av=.agg (Zs P)from rfl,Qc w,Qc u]at hnm;simp only[Zs]at hnm;simp only[p0,Qc w,eE,seval];refine aC hnm ?_;simp only[ov,Qc u,eE,seval]<;>rfl
end
section
variable {M N:Nat}(hM:3000≤M)(P:PL)(hP:P.ok M)(hc:ck P=0)(hN:3000<N)(s:List UInt8)(b:V)(d:List UInt8)(l:L)(hd:d.length≤3000)(hl1:l.dp<9223372036854775808)(hl2:l.nd<9223372036854775808)
 (hbm:b.kd=10→0≤QS s P→MW P N (Qk P (QS s P)) b) (hbo:b.ok M) (hbc:b.cnt≤900000)
end
def DW (P:PL)(N:Nat)(s d:List UInt8)(l:L):V×Nat :=
 if (KL P N s (QD 10 0 []) d l).2≠0 then(QD 0 0 [],(KL P N s (QD 10 0 []) d l).2)
 else if KJ P N (Qk P (QS s P)) (KL P N s (QD 10 0 []) d l).1=true then(QD 0 0 [],14)
 else((KL P N s (QD 10 0 []) d l).1,0)
section
variable {M N:Nat}(hM:3000≤M)(P:PL)(hP:P.ok M)(hc:ck P=0)(hN:3000<N)(s:List UInt8)(d:List UInt8)(l:L)(hd:d.length≤3000)(hl1:l.dp<9223372036854775808)(hl2:l.nd<9223372036854775808)
include hM hP hc hN hd hl1 hl2 in
theorem j12:Qg Tryz.prog 12 [P.av,.str s,.str d,l.av] (ov (DW P N s d l)):=by
 have hon:=j24 (N:=N) hM P hP hc hN s (QD 10 0 []) d l hd hl1 hl2 (fun _ _=>Jf (by omega)) (Jd rfl (by decide) (Qn6 _)) (by rw[XW];omega);have hok:=Qc5 (N:=N) hM P hP hc hN s (QD 10 0 []) d l hd hl1 hl2 (fun _ _=>Jf (by omega)) (Jd rfl (by decide) (Qn6 _)) (by rw[XW];omega);have hfi:=y15 P hP.len1 s;have z0:(QD 0 0 []).av=.agg [.int .i64 0,.int .u64 0,.str [],.list [],.list [],.list [],.list []]:=Qc _;have z10:(QD 10 0 []).av=.agg [.int .i64 10,.int .u64 0,.str [],.list [],.list [],.list [],.list []]:=Qc _;have hcp:=fun(h:(0≤QS s P∧QS s P<(P.progs.length:Int))) v hv hcv=>j25 P hP (J4 hc) (Yz hc) N (QS s P) v h hv hcv
 unfold DW;generalize KL P N s (QD 10 0 []) d l=q at hon hok ⊢;obtain⟨v,e⟩:=q;unfold Bf at hfi;rw[show Zo (fun g:PG=>g.name==s) P.progs 0=QS s P from rfl]at hfi;rw[show P.av=.agg (Zs P)from rfl]at hfi;rw[show P.av=.agg (Zs P)from rfl,z10]at hon;rw[show P.av=.agg (Zs P)from rfl];simp only[ov,Qc v,Zs,L.av]at hon;simp only[Zs]at hfi;dsimp only at hok ⊢;refine wF Tryz.func12 ?_;simp only[eK,Tryz.f12,seval];simp only[Zs,L.av,eE,seval];refine aC hon ?_;by_cases he:e=0
 case neg=>
  rw[Qn5 he];simp only[Xb he,ov,z0,eE,seval]
 subst he;obtain⟨hx,w,w1,w2,w3,w4⟩:=hok rfl;have d1:decide (QS s P≥0)=true:=QpY (by omega);rw[d1,Qn4 (by omega:¬QS s P<0)]at hfi;have hcn:=Y3 (J4 hc) N (Qk P (QS s P)) (Wo (J4 hc) _) w;rw[XW]at w3;have hcm:=hcp hx v (by rw[w4];exact Ee (Yz hc) (J4 hc) N _ (Uu hx).1 w w1) (by rw[w4];omega);rw[show P.av=.agg (Zs P)from rfl,Qc v]at hcm;simp only[Zs]at hcm;rw[Qn4 (by simp)];simp only[eE,seval];refine aC hfi ?_;simp only[eE,seval];refine aC hcm ?_;cases hl:KJ P N (Qk P (QS s P)) v
 ·rw[Qn4 (by simp)];simp only[Qo5,QpF,ov,Qc v,eE,seval]<;>rfl
 ·rw[Qn5 rfl];simp only[Qo5,QpF,ov,z0,eE,seval]<;>rfl
end
theorem BR {α β:Type}{f g:α→List β}:∀ {l:List α},(∀x∈l,f x=g x)→l.flatMap f=l.flatMap g
 | [],_=>rfl
 |x :: l,h=>by rw[Qps,Qps,h x (by simp),BR fun y hy=>h y (by simp[hy])]
section
variable {P:PL}{m:PG→V→Int}{nm nm':PG→V→V}(ih:∀t v,m (Qk P t) v=0→nm' (Qk P t) v=nm (Qk P t) v)
include ih
theorem MX {o:PO}{v:V}(h:QN m P o v=0):Xq nm' P o v=Xq nm P o v:=by
 unfold QN at h;unfold Xq;split
 ·rename_i hk;rw[Qn5 hk]at h;exact ih _ _ h
 ·rfl
theorem Qgg {o:PO}{v:V}(h:Xw m P o v=0):XN nm' P o v=XN nm P o v:=by
 unfold Xw at h;unfold XN;by_cases h5:o.card=5
 ·rw[Qn5 h5]at h;have h4:¬o.card=4:=by omega
  rw[Qn4 h4,Qn4 h4,Qn5 h5,Qn5 h5];split at h
  ·omega
  have he:=(Kd.1 h).1;congr 1
  refine QpN fun p hp=>?_
  rw[MX ih (he p ((QR v.pairs).mem_iff.1 hp)).2]
 rw[Qn4 h5]at h;by_cases h4:o.card=4
 ·rw[Qn5 h4]at h;rw[Qn5 h4,Qn5 h4];split at h
  ·omega
  have he:=Ke.1 h;congr 1
  exact QpN fun p hp=>MX ih (he p hp)
 ·rw[Qn4 h4]at h;rw[Qn4 h4,Qn4 h4,Qn4 h5,Qn4 h5];exact MX ih h
end
theorem Eg {P:PL}(hr:Zi P){n:Nat}{t:Int}{v:V}(h:Xp P (n+1) (Qk P t) v=0){o:PO}(ho:o∈(Qk P t).ops){s:Int×V}(hs:s∈v.slots)(hn:s.1=o.num):Xw (Xp P n) P o s.2=0:=by
 obtain⟨_,⟨s1,_,_⟩,_,_⟩:=ZH.1 h;obtain⟨o',h1,h2⟩:=s1 s hs;rw[hn,XG (Wo hr t) ho]at h1;cases h1;exact h2
theorem MY {P:PL}(hr:Zi P)(d:Nat):∀(n:Nat) (t:Int) (v:V),Xp P n (Qk P t) v=0→nrm P (n+d) (Qk P t) v=nrm P n (Qk P t) v
 |0,t,v,h=>(YT 0 _ _ h).elim
 |n+1,t,v,h=>by
  rw[show n+1+d=(n+d)+1 by omega,nrm,nrm];unfold Uj;congr 1
  refine BR fun o ho=>?_
  unfold Xg;cases hf:v.slots.find? (fun s=>s.1==o.num)with
  |none=>rfl
  |some s=>
   dsimp only;rw[Qgg (fun t v hm=>MY hr d n t v hm) (Eg hr h ho (QpW hf) (by simpa using QpX hf))]
theorem MZ {P:PL}(hr:Zi P)(d:Nat):∀(n:Nat) (t:Int) (v:V),Xp P n (Qk P t) v=0→KJ P (n+d) (Qk P t) v=false
 |0,t,v,h=>(YT 0 _ _ h).elim
 |n+1,t,v,h=>by
  have ih:=MZ hr d n;rw[show n+1+d=(n+d)+1 by omega,KJ,QpT];intro o ho;rw[Qp4];unfold BQ;cases hf:XV v o.num with
  |none=>
   dsimp only;obtain⟨_,_,hmis,_⟩:=ZH.1 h;unfold U2 at hmis;have:=QpT.1 hmis o ho;unfold XV at hf;have hno:=QpU.1 (Option.map_eq_none_iff.1 hf);have hany:v.slots.any (fun y=>y.1==o.num)=false:=QpT.2 hno;rw[hany]at this
   simpa using this
  |some x=>
   dsimp only;have hx:=Eg hr h ho (XE hf).1 rfl;dsimp only at hx;have he:∀y,QN (Xp P n) P o y=0→o.kind=10→KJ P (n+d) (Qk P o.target) y=false:=fun y hy hk=>by
    unfold QN at hy;rw[Qn5 hk]at hy;exact ih _ _ hy
   unfold MU;by_cases hk:o.kind=10
   case neg=>simp[hk]
   rw[hk];simp only[Qo7,QpE];unfold Xw at hx;by_cases h5:o.card=5
   ·rw[Qn5 h5]at hx;rw[Qn4 (by omega),Qn5 h5];split at hx
    ·omega
    refine QpT.2 fun p hp=>?_
    rw[he _ ((Kd.1 hx).1 p hp).2 hk];simp
   rw[Qn4 h5]at hx;by_cases h4:o.card=4
   ·rw[Qn5 h4]at hx;rw[Qn5 h4];split at hx
    ·omega
    refine QpT.2 fun p hp=>?_
    rw[he _ (Ke.1 hx p hp) hk];simp
   ·rw[Qn4 h4]at hx;rw[Qn4 h4,Qn4 h5];exact he _ hx hk
def SP (P:PL)(N:Nat)(s:List UInt8)(r:V×Nat):V×Nat :=
 if r.2≠0 then(QD 0 0 [],r.2)else if KJ P N (Qk P (QS s P)) r.1=true then(QD 0 0 [],14)else(r.1,0)
theorem SQ {P:PL}{N:Nat}{s d:List UInt8}{l:L}:DW P N s d l=SP P N s (KL P N s (QD 10 0 []) d l):=rfl
theorem Yq {P:PL}{N:Nat}{s:List UInt8}{v:V}{e:Nat}(h:e≠0):SP P N s (v,e)=(QD 0 0 [],e):=Qn5 h
theorem Qc6 {P:PL}{N:Nat}{s:List UInt8}{v:V}(h:KJ P N (Qk P (QS s P)) v=false):SP P N s (v,0)=(v,0):=by
 unfold SP;rw[Qn4 (fun h=>h rfl),Qn4 (by rw[h];decide)]
theorem Ro {M:Nat}{P:PL}(_hP:P.ok M)(hk:ck P=0){s:List UInt8}{y:V}(ht:0≤QS s P∧QS s P<(P.progs.length:Int))(hm:Xp P 16 (Qk P (QS s P)) y=0)(oy:y.ok M)(cy:y.cnt≤1048576)(ny:nrm P 16 (Qk P (QS s P)) y=y){N:Nat}(hN:16≤N)
  (hl:(XD P 16 (QS s P) y).length≤3000) (l:L) (h1:l.dp<9223372036854775808) (h2:l.nd<9223372036854775808) (ho:okl (XD P 16 (QS s P) y) l) :
  (DW P N s (XD P 16 (QS s P) y) l=(y,0)∧(y.cnt:Int)≤l.nd∧(y.lgt:Int)≤l.tx∧(y.dep:Int)≤l.dp)∨
  (DW P N s (XD P 16 (QS s P) y) l=(QD 0 0 [],3)∧(l.nd<y.cnt∨l.tx<y.lgt))∨(DW P N s (XD P 16 (QS s P) y) l=(QD 0 0 [],17)∧l.dp<y.dep):=by
 obtain⟨d,rfl⟩:∃d,N=16+d:=⟨N-16,by omega⟩;have hr:=J4 hk;have hU:=Yz hk;have hrec:=QfY (M:=M) hU hr (QcR hk) 16 d (QS s P) y ht hm oy cy ny;have hnr:=MY hr d 16 (QS s P) y hm;rw[ny]at hnr;have hlk:=MZ hr d 16 (QS s P) y hm;have hkd:y.kd=10:=by
  have:=(ZH (n:=15)).1 hm;exact this.1.1
 have hdep:1≤y.dep:=by rw[W0,Qn5 hkd];omega
 have hcp:=Za y;have hop:=QcM ho;obtain⟨_,o2,o3,o4,_⟩:=ho;generalize XD P 16 (QS s P) y=D at hrec hl hop ⊢;have hkk:(QD 10 0 []).kd=10:=rfl;have e0:KL P (16+d) s (QD 10 0 []) D l=if l.dp<1 then(QD 0 0 [],17)else match spd ⟨D,0,D.length,l.dp-1,l.nd,l.tx⟩ 1 with
   |.error e=>(QD 0 0 [],e)
   |.ok c=>match Wg P (16+d) (QS s P) (QD 10 0 []) c with
    |.error e=>(QD 0 0 [],e)
    |.ok (v,_)=>(nrm P (16+d) (Qk P (QS s P)) v,0):=by
  unfold KL;rw[Qn4 (by omega),Qn4 (by rw[hkk];decide),Qn4 (by rw[hop];exact fun h=>h rfl)]
 rw[SQ,e0];clear e0;by_cases hdp:l.dp<1
 ·rw[Qn5 hdp];exact .inr (.inr ⟨Yq (by decide),by omega⟩)
 rw[Qn4 hdp];have hci:=MV (l:=l) hl ⟨by omega,h1⟩ ⟨o3,h2⟩;have hct:CT ⟨D,0,D.length,l.dp-1,l.nd,l.tx⟩:=⟨hci,o4⟩;have hrest:=(AS D (l.dp-1) l.nd l.tx).2;have hnd:(⟨D,0,D.length,l.dp-1,l.nd,l.tx⟩:C).nd=l.nd:=rfl;have hdd:(⟨D,0,D.length,l.dp-1,l.nd,l.tx⟩:C).dp=l.dp-1:=rfl;have htx:(⟨D,0,D.length,l.dp-1,l.nd,l.tx⟩:C).tx=l.tx:=rfl;generalize (⟨D,0,D.length,l.dp-1,l.nd,l.tx⟩:C)=c0 at hct hrest hnd hdd htx ⊢;have key:Xl (match spd c0 1 with
   |.error e=>.error e
   |.ok c=>Wg P (16+d) (QS s P) (QD 10 0 []) c) c0 D.length (1+(y.cnt-1)) y.lgt (y.dep-1) y:=by
  refine Xl.spd hct 1 (fun e he=>by rw[show(1:Int)=((1:Nat):Int)from rfl,he]) (fun g1 g2=>?_);rw[show(1:Int)=((1:Nat):Int)from rfl,g1];dsimp only;exact hrec _ (XL hct (n:=0) (Qn6 _) g2) (by rw[JA hct 1 (Qn6 _),QoF,hrest])
 cases hs:spd c0 1 with
 |error e=>
  rw[hs]at key;dsimp only at key ⊢;rcases key with⟨h1,_⟩|⟨h1,h2⟩|⟨h1,h2⟩
  ·cases h1
  ·cases h1;exact .inr (.inl ⟨Yq (by decide),by omega⟩)
  ·cases h1;exact .inr (.inr ⟨Yq (by decide),by omega⟩)
 |ok c=>
  rw[hs]at key;dsimp only at key ⊢;rcases key with⟨h1,h2,h3,h4⟩|⟨h1,h2⟩|⟨h1,h2⟩
  ·rw[h1];dsimp only;rw[hnr,Qc6 hlk];exact .inl ⟨rfl,by omega,by omega,by omega⟩
  ·rw[h1];dsimp only;exact .inr (.inl ⟨Yq (by decide),by omega⟩)
  ·rw[h1];dsimp only;exact .inr (.inr ⟨Yq (by decide),by omega⟩)
theorem Qc7 {P:PL}{s d:List UInt8}{l:L}{N:Nat}(ht:0≤QS s P)(h:l.b<0∨l.tx<0):DW P N s d l=(QD 0 0 [],1):=by
 have hop:(opn d l).2=1:=by
  unfold opn;rw[Qn5 (by omega)]
 have e0:KL P N s (QD 10 0 []) d l=(QD 0 0 [],(opn d l).2):=by
  unfold KL;rw[Qn4 (by omega),Qn4 (by show ¬(10:Int)≠10;decide),Qn5 (by rw[hop];decide)]
 rw[SQ,e0,hop];exact Yq (by decide)
theorem Qc8 {P:PL}{s d:List UInt8}{l:L}{N:Nat}(ht:0≤QS s P)(h:0≤l.b∧0≤l.dp∧0≤l.nd∧0≤l.tx)(hb:l.b<(d.length:Int)):DW P N s d l=(QD 0 0 [],3):=by
 have hop:(opn d l).2=3:=by
  unfold opn;rw[Qn4 (by omega),Qn5 hb]
 have e0:KL P N s (QD 10 0 []) d l=(QD 0 0 [],(opn d l).2):=by
  unfold KL;rw[Qn4 (by omega),Qn4 (by show ¬(10:Int)≠10;decide),Qn5 (by rw[hop];decide)]
 rw[SQ,e0,hop];exact Yq (by decide)
theorem M0 (a b:Nat):(if ((a:Nat):Int)<((b:Nat):Int)then((b:Nat):Int)else((a:Nat):Int))=((max a b:Nat):Int):=by
 split<;>omega
theorem IZ (a b:List V):ZO (a++b)=max (ZO a) (ZO b):=by
 induction a with
 |nil=>simp[ZO]
 |cons x a ih=>simp only[Qoj,ZO,ih];omega
theorem I0 (a b:List (V×V)):Z2 (a++b)=max (Z2 a) (Z2 b):=by
 induction a with
 |nil=>simp[Z2]
 |cons x a ih=>obtain⟨p,q⟩:=x;simp only[Qoj,Z2,ih];omega
theorem I3 (a b:List (Int×V)):Jc (a++b)=max (Jc a) (Jc b):=by
 induction a with
 |nil=>simp[Jc]
 |cons x a ih=>obtain⟨p,q⟩:=x;simp only[Qoj,Jc,ih];omega
theorem Eh {l:List V}{i:Nat}{x:V}(h:l[i]? = some x):ZO (l.take (i+1))=max (ZO (l.take i)) x.dep:=by
 rw[QpM,h,IZ];simp[ZO]
theorem Ei {l:List (V×V)}{i:Nat}{x:V×V}(h:l[i]? = some x):Z2 (l.take (i+1))=max (max (Z2 (l.take i)) x.1.dep) x.2.dep:=by
 rw[QpM,h,I0];obtain⟨p,q⟩:=x;simp only[Option.toList,Z2];omega
theorem Ej {l:List (Int×V)}{i:Nat}{x:Int×V}(h:l[i]? = some x):Jc (l.take (i+1))=max (Jc (l.take i)) x.2.dep:=by
 rw[QpM,h,I3];obtain⟨p,q⟩:=x;simp[Jc]
theorem I4 (a b:List V):ZK (a++b)=max (ZK a) (ZK b):=by
 induction a with
 |nil=>simp[ZK]
 |cons x a ih=>simp only[Qoj,ZK,ih];omega
theorem I5 (a b:List (V×V)):ZW (a++b)=max (ZW a) (ZW b):=by
 induction a with
 |nil=>simp[ZW]
 |cons x a ih=>obtain⟨p,q⟩:=x;simp only[Qoj,ZW,ih];omega
theorem I6 (a b:List (Int×V)):ZX (a++b)=max (ZX a) (ZX b):=by
 induction a with
 |nil=>simp[ZX]
 |cons x a ih=>obtain⟨p,q⟩:=x;simp only[Qoj,ZX,ih];omega
theorem I7 (a b:List R):ZB (a++b)=max (ZB a) (ZB b):=by
 induction a with
 |nil=>simp[ZB]
 |cons f a ih=>simp only[Qoj,ZB,ih];omega
theorem Ek {l:List V}{i:Nat}{x:V}(h:l[i]? = some x):ZK (l.take (i+1))=max (ZK (l.take i)) x.lgt:=by
 rw[QpM,h,I4];simp[ZK]
theorem Em {l:List (V×V)}{i:Nat}{x:V×V}(h:l[i]? = some x):ZW (l.take (i+1))=max (max (ZW (l.take i)) x.1.lgt) x.2.lgt:=by
 rw[QpM,h,I5];obtain⟨p,q⟩:=x;simp only[Option.toList,ZW];omega
theorem Eo {l:List (Int×V)}{i:Nat}{x:Int×V}(h:l[i]? = some x):ZX (l.take (i+1))=max (ZX (l.take i)) x.2.lgt:=by
 rw[QpM,h,I6];obtain⟨p,q⟩:=x;simp[ZX]
theorem Ep {l:List R}{i:Nat}{x:R}(h:l[i]? = some x):ZB (l.take (i+1))=max (ZB (l.take i)) (DR x):=by
 rw[QpM,h,I7];simp[ZB]
theorem Dx:∀v:V,v.dep≤v.cnt:=by
 refine V.ind (P:=fun v=>v.dep≤v.cnt) ?_;intro v hl hp hs;rw[W0,Q1];have h1:∀l:List V,(∀x∈l,x.dep≤x.cnt)→ZO l≤Q6 l:=by
  intro l
  induction l with
  |nil=>intro _;exact QnV _
  |cons x l ih=>
   intro h;have:=ih fun y hy=>h y (by simp[hy])
   have:=h x (by simp);simp only[ZO,Q6];omega
 have h2:∀l:List (V×V),(∀x∈l,x.1.dep≤x.1.cnt∧x.2.dep≤x.2.cnt)→Z2 l≤Xd l:=by
  intro l
  induction l with
  |nil=>intro _;exact QnV _
  |cons x l ih=>
   intro h;have:=ih fun y hy=>h y (by simp[hy])
   have:=h x (by simp);obtain⟨p,q⟩:=x;simp only[Z2,Xd];dsimp only at *;omega
 have h3:∀l:List (Int×V),(∀x∈l,x.2.dep≤x.2.cnt)→Jc l≤Q9 l:=by
  intro l
  induction l with
  |nil=>intro _;exact QnV _
  |cons x l ih=>
   intro h;have:=ih fun y hy=>h y (by simp[hy])
   have:=h x (by simp);obtain⟨p,q⟩:=x;simp only[Jc,Q9];dsimp only at *;omega
 have a1:=h1 _ hl;have a2:=h2 _ hp;have a3:=h3 _ hs;split<;>omega
theorem Qgh {M:Nat}:∀v:V,v.ok M→v.lgt≤M:=by
 refine V.ind (P:=fun v=>v.ok M→v.lgt≤M) ?_;intro v hl hp hs hv;rw[Hm];have h1:∀l:List V,(∀x∈l,x.lgt≤M)→ZK l≤M:=by
  intro l
  induction l with
  |nil=>intro _;exact Qn6 _
  |cons x l ih=>
   intro h;have:=ih fun y hy=>h y (by simp[hy])
   have:=h x (by simp);simp only[ZK];omega
 have h2:∀l:List (V×V),(∀x∈l,x.1.lgt≤M∧x.2.lgt≤M)→ZW l≤M:=by
  intro l
  induction l with
  |nil=>intro _;exact Qn6 _
  |cons x l ih=>
   intro h;have:=ih fun y hy=>h y (by simp[hy])
   have:=h x (by simp);obtain⟨p,q⟩:=x;simp only[ZW];dsimp only at *;omega
 have h3:∀l:List (Int×V),(∀x∈l,x.2.lgt≤M)→ZX l≤M:=by
  intro l
  induction l with
  |nil=>intro _;exact Qn6 _
  |cons x l ih=>
   intro h;have:=ih fun y hy=>h y (by simp[hy])
   have:=h x (by simp);obtain⟨p,q⟩:=x;simp only[ZX];dsimp only at *;omega
 have h4:∀l:List R,(∀x∈l,x.data.length≤M)→ZB l≤M:=by
  intro l
  induction l with
  |nil=>intro _;exact Qn6 _
  |cons x l ih=>
   intro h;have:=ih fun y hy=>h y (by simp[hy])
   have:=h x (by simp);simp only[ZB,DR];split<;>omega
 have a1:=h1 _ fun x hx=>hl x hx (hv.list x hx)
 have a2:=h2 _ fun x hx=>⟨(hp x hx).1 (hv.keys x hx),(hp x hx).2 (hv.vals x hx)⟩
 have a3:=h3 _ fun x hx=>hs x hx (hv.slots x hx)
 have a4:=h4 _ fun x hx=>(hv.raws x hx).data
 have a5:=hv.text;omega
section
variable {M:Nat}
def D1I (v:V)(k:Nat)(st:St):Prop :=
 ∃f fr i,st=⟨f,[fr],[]⟩∧k=v.list.length-i∧i≤v.list.length∧f 1=.ptr 0 1 0∧f 3=.int .i64 (ZO (v.list.take i):Nat)∧f 4=.int .i64 (i:Nat)∧fr 1=.cells (vc v)
def D2I (v:V)(k:Nat)(st:St):Prop :=
 ∃f fr i,st=⟨f,[fr],[]⟩∧k=v.pairs.length-i∧i≤v.pairs.length∧f 1=.ptr 0 1 0∧f 3=.int .i64 (max (ZO v.list) (Z2 (v.pairs.take i)):Nat)∧f 5=.int .i64 (i:Nat)∧fr 1=.cells (vc v)
def D3I (v:V)(k:Nat)(st:St):Prop :=
 ∃f fr i,st=⟨f,[fr],[]⟩∧k=v.slots.length-i∧i≤v.slots.length∧f 1=.ptr 0 1 0∧f 3=.int .i64 (max (max (ZO v.list) (Z2 v.pairs)) (Jc (v.slots.take i)):Nat)∧f 6=.int .i64 (i:Nat)∧fr 1=.cells (vc v)
theorem v10 (v:V)(hv:v.ok M)(hc:v.cnt≤1048576):Qg Tryz.prog 10 [v.av] (.int .i64 (v.dep:Nat)):=by
 revert hv hc
 refine V.ind (P:=fun v=>v.ok M→v.cnt≤1048576→Qg Tryz.prog 10 [v.av] (.int .i64 (v.dep:Nat))) ?_ v;clear v;intro v hl hp hs hv hc;have n1:=hv.nl;have n2:=hv.np;have n3:=hv.ns;have hdc:=Dx v;rw[Qc];refine wF Tryz.func10 ?_;simp only[eK,Tryz.f10,seval];simp only[eE,seval];refine Qi (D1I v) _ ⟨_,_,0,rfl,rfl,Qn6 _,rfl,(by simp only[Qo6,ZO,Qa,seval]<;>rfl),rfl,rfl⟩ ?_;rintro _ st ⟨f,fr,i,rfl,rfl,hil,h1,h3,h4,m1⟩;have m1':=m1;simp only[vc]at m1;simp only[QoS,h1,h4,m1,eE,seval];by_cases hlt:i<v.list.length
 ·obtain⟨x,hi⟩:∃x,v.list[i]? = some x:=⟨v.list[i],QnX hlt⟩;have hm:=Qob hi;have hg:=U4 hi;have e1:=Qs i _ hlt (by simp only[maxLen];omega);have c1:=hl x hm (hv.list x hm) (QnU (Wi hm) hc);rw[Qc]at c1;simp only[QA hlt,Qp,Qpq,Qf,hg,h1,h3,h4,m1,eE,seval];refine aC c1 ?_;simp only[h4,e1,M0,Qa,seval];exact⟨v.list.length-(i+1),by omega,_,_,i+1,rfl,rfl,by omega,h1,(by rw[Eh hi];simp only[h3,Qa,seval]),rfl,m1'⟩
 have e:i=v.list.length:=by omega
 subst e;rw[QpC]at h3;simp only[QH hlt,Qa,seval];refine Qi (D2I v) _ ⟨_,_,0,rfl,rfl,Qn6 _,h1,(by simp only[Qo6,Z2,Nat.max_zero,h3,Qa,seval]),rfl,m1'⟩ ?_;clear h1 h3 h4 m1 m1' hlt hil;rintro _ st ⟨f,fr,i,rfl,rfl,hil,h1,h3,h5,m1⟩;have m1':=m1;simp only[vc]at m1;simp only[QoS,h1,h5,m1,eE,seval];by_cases hlt:i<v.pairs.length
 ·obtain⟨x,hi⟩:∃x,v.pairs[i]? = some x:=⟨v.pairs[i],QnX hlt⟩;have hg:=J3 hi;have e1:=Qs i _ hlt (by simp only[maxLen];omega);have hm:=Qob hi;have c1:=(hp x hm).1 (hv.keys x hm) (QnU (Dr hm) hc);have c2:=(hp x hm).2 (hv.vals x hm) (QnU (Yk hm) hc);rw[Qc]at c1 c2;simp only[QA hlt,Qp,Qpq,Qf,hg,Qow,Qo6,QoF,h1,h3,h5,m1,eE,seval];refine aC c1 ?_;simp only[Qp,Qpq,Qf,hg,Qow,Qoz,QoF,h1,h5,m1,eE,seval];refine aC c2 ?_;simp only[h5,e1,M0,Qa,seval];exact⟨v.pairs.length-(i+1),by omega,_,_,i+1,rfl,rfl,by omega,h1,(by rw[Ei hi];simp only[h3,Nat.max_assoc,Qa,seval]),rfl,m1'⟩
 have e:i=v.pairs.length:=by omega
 subst e;rw[QpC]at h3;simp only[QH hlt,Qa,seval];refine Qi (D3I v) _ ⟨_,_,0,rfl,rfl,Qn6 _,h1,(by simp only[Qo6,Jc,Nat.max_zero,h3,Qa,seval]),rfl,m1'⟩ ?_;clear h1 h3 h5 m1 m1' hlt hil;rintro _ st ⟨f,fr,i,rfl,rfl,hil,h1,h3,h6,m1⟩;have m1':=m1;simp only[vc]at m1;simp only[QoS,h1,h6,m1,eE,seval];by_cases hlt:i<v.slots.length
 ·obtain⟨x,hi⟩:∃x,v.slots[i]? = some x:=⟨v.slots[i],QnX hlt⟩;have hg:=WR hi;have e1:=Qs i _ hlt (by simp only[maxLen];omega);have hm:=Qob hi;have c1:=hs x hm (hv.slots x hm) (QnU (Z9 hm) hc);rw[Qc]at c1;simp only[QA hlt,Qp,Qpq,Qf,hg,Qow,Qoz,QoF,h1,h3,h6,m1,eE,seval];refine aC c1 ?_;simp only[h6,e1,M0,Qa,seval];exact⟨v.slots.length-(i+1),by omega,_,_,i+1,rfl,rfl,by omega,h1,(by rw[Ej hi];simp only[h3,Nat.max_assoc,Qa,seval]),rfl,m1'⟩
 have e:i=v.slots.length:=by omega
 subst e;rw[QpC]at h3;have hde:=W0 v;by_cases hk:v.kd=10
 ·have b0:(v.kd==10)=true:=by simp[hk]
  rw[Qn5 hk]at hde;have w1:IntKind.i64.wrap (((max (max (ZO v.list) (Z2 v.pairs)) (Jc v.slots):Nat):Int)+1)=((v.dep:Nat):Int):=by rw[Qz];omega
  simp only[QH hlt,b0,h1,h3,m1,w1,eE,seval]
 ·have b0:(v.kd==10)=false:=by simp[hk]
  rw[Qn4 hk]at hde;have w1:max (max (ZO v.list) (Z2 v.pairs)) (Jc v.slots)=v.dep:=by omega
  simp only[QH hlt,b0,h1,h3,m1,w1,eE,seval]
def L1I (v:V)(k:Nat)(st:St):Prop :=
 ∃f fr i,st=⟨f,[fr],[]⟩∧k=v.list.length-i∧i≤v.list.length∧f 1=.ptr 0 1 0∧f 3=.int .i64 (max v.text.length (ZK (v.list.take i)):Nat)∧f 4=.int .i64 (i:Nat)∧fr 1=.cells (vc v)
def L2I (v:V)(k:Nat)(st:St):Prop :=
 ∃f fr i,st=⟨f,[fr],[]⟩∧k=v.pairs.length-i∧i≤v.pairs.length∧f 1=.ptr 0 1 0∧f 3=.int .i64 (max (max v.text.length (ZK v.list)) (ZW (v.pairs.take i)):Nat)∧f 5=.int .i64 (i:Nat)∧fr 1=.cells (vc v)
def L3I (v:V)(k:Nat)(st:St):Prop :=
 ∃f fr i,st=⟨f,[fr],[]⟩∧k=v.slots.length-i∧i≤v.slots.length∧f 1=.ptr 0 1 0∧f 3=.int .i64 (max (max (max v.text.length (ZK v.list)) (ZW v.pairs)) (ZX (v.slots.take i)):Nat)∧f 6=.int .i64 (i:Nat)∧fr 1=.cells (vc v)
def L4I (v:V)(k:Nat)(st:St):Prop :=
 ∃f fr i,st=⟨f,[fr],[]⟩∧k=v.raws.length-i∧i≤v.raws.length∧f 1=.ptr 0 1 0∧f 3=.int .i64 (max (max (max (max v.text.length (ZK v.list)) (ZW v.pairs)) (ZX v.slots)) (ZB (v.raws.take i)):Nat)∧f 7=.int .i64 (i:Nat)∧fr 1=.cells (vc v)
theorem v11 (v:V)(hv:v.ok M):Qg Tryz.prog 11 [v.av] (.int .i64 (v.lgt:Nat)):=by
 revert hv
 refine V.ind (P:=fun v=>v.ok M→Qg Tryz.prog 11 [v.av] (.int .i64 (v.lgt:Nat))) ?_ v;clear v;intro v hl hp hs hv;have n1:=hv.nl;have n2:=hv.np;have n3:=hv.ns;have n4:=hv.nr;rw[Qc];refine wF Tryz.func11 ?_;simp only[eK,Tryz.f11,seval];simp only[eE,seval];refine Qi (L1I v) _ ⟨_,_,0,rfl,rfl,Qn6 _,rfl,(by simp only[Qo6,ZK,Nat.max_zero,Qa,seval]),rfl,rfl⟩ ?_;rintro _ st ⟨f,fr,i,rfl,rfl,hil,h1,h3,h4,m1⟩;have m1':=m1;simp only[vc]at m1;simp only[QoS,h1,h4,m1,eE,seval];by_cases hlt:i<v.list.length
 ·obtain⟨x,hi⟩:∃x,v.list[i]? = some x:=⟨v.list[i],QnX hlt⟩;have hm:=Qob hi;have hg:=U4 hi;have e1:=Qs i _ hlt (by simp only[maxLen];omega);have c1:=hl x hm (hv.list x hm);rw[Qc]at c1;simp only[QA hlt,Qp,Qpq,Qf,hg,h1,h3,h4,m1,eE,seval];refine aC c1 ?_;simp only[h4,e1,M0,Qa,seval];exact⟨v.list.length-(i+1),by omega,_,_,i+1,rfl,rfl,by omega,h1,(by rw[Ek hi];simp only[h3,Nat.max_assoc,Qa,seval]),rfl,m1'⟩
 have e:i=v.list.length:=by omega
 subst e;rw[QpC]at h3;simp only[QH hlt,Qa,seval];refine Qi (L2I v) _ ⟨_,_,0,rfl,rfl,Qn6 _,h1,(by simp only[Qo6,ZW,Nat.max_zero,h3,Qa,seval]),rfl,m1'⟩ ?_;clear h1 h3 h4 m1 m1' hlt hil;rintro _ st ⟨f,fr,i,rfl,rfl,hil,h1,h3,h5,m1⟩;have m1':=m1;simp only[vc]at m1;simp only[QoS,h1,h5,m1,eE,seval];by_cases hlt:i<v.pairs.length
 ·obtain⟨x,hi⟩:∃x,v.pairs[i]? = some x:=⟨v.pairs[i],QnX hlt⟩;have hg:=J3 hi;have e1:=Qs i _ hlt (by simp only[maxLen];omega);have hm:=Qob hi;have c1:=(hp x hm).1 (hv.keys x hm);have c2:=(hp x hm).2 (hv.vals x hm);rw[Qc]at c1 c2;simp only[QA hlt,Qp,Qpq,Qf,hg,Qow,Qo6,QoF,h1,h3,h5,m1,eE,seval];refine aC c1 ?_;simp only[Qp,Qpq,Qf,hg,Qow,Qoz,QoF,h1,h5,m1,eE,seval];refine aC c2 ?_;simp only[h5,e1,M0,Qa,seval];exact⟨v.pairs.length-(i+1),by omega,_,_,i+1,rfl,rfl,by omega,h1,(by rw[Em hi];simp only[h3,Nat.max_assoc,Qa,seval]),rfl,m1'⟩
 have e:i=v.pairs.length:=by omega
 subst e;rw[QpC]at h3;simp only[QH hlt,Qa,seval];refine Qi (L3I v) _ ⟨_,_,0,rfl,rfl,Qn6 _,h1,(by simp only[Qo6,ZX,Nat.max_zero,h3,Qa,seval]),rfl,m1'⟩ ?_;clear h1 h3 h5 m1 m1' hlt hil;rintro _ st ⟨f,fr,i,rfl,rfl,hil,h1,h3,h6,m1⟩;have m1':=m1;simp only[vc]at m1;simp only[QoS,h1,h6,m1,eE,seval];by_cases hlt:i<v.slots.length
 ·obtain⟨x,hi⟩:∃x,v.slots[i]? = some x:=⟨v.slots[i],QnX hlt⟩;have hg:=WR hi;have e1:=Qs i _ hlt (by simp only[maxLen];omega);have hm:=Qob hi;have c1:=hs x hm (hv.slots x hm);rw[Qc]at c1;simp only[QA hlt,Qp,Qpq,Qf,hg,Qow,Qoz,QoF,h1,h3,h6,m1,eE,seval];refine aC c1 ?_;simp only[h6,e1,M0,Qa,seval];exact⟨v.slots.length-(i+1),by omega,_,_,i+1,rfl,rfl,by omega,h1,(by rw[Eo hi];simp only[h3,Nat.max_assoc,Qa,seval]),rfl,m1'⟩
 have e:i=v.slots.length:=by omega
 subst e;rw[QpC]at h3;simp only[QH hlt,Qa,seval];refine Qi (L4I v) _ ⟨_,_,0,rfl,rfl,Qn6 _,h1,(by simp only[Qo6,ZB,Nat.max_zero,h3,Qa,seval]),rfl,m1'⟩ ?_;clear h1 h3 h6 m1 m1' hlt hil;rintro _ st ⟨f,fr,i,rfl,rfl,hil,h1,h3,h7,m1⟩;have m1':=m1;simp only[vc]at m1;simp only[QoS,h1,h7,m1,eE,seval];by_cases hlt:i<v.raws.length
 ·obtain⟨x,hi⟩:∃x,v.raws[i]? = some x:=⟨v.raws[i],QnX hlt⟩;have hg:=Nm hi;have e1:=Qs i _ hlt (by simp only[maxLen];omega);have hsn:=Ep hi;unfold DR at hsn;by_cases hw:x.wire=3
  ·have b0:(x.wire==3)=true:=by simp[hw]
   rw[Qn5 hw]at hsn;simp only[QA hlt,b0,Qp,Qpq,Qf,hg,h1,h3,h7,m1,e1,M0,eE,seval];exact⟨v.raws.length-(i+1),by omega,_,_,i+1,rfl,rfl,by omega,h1,(by rw[hsn];simp only[h3,Nat.max_assoc,Qa,seval]),rfl,m1'⟩
  ·have b0:(x.wire==3)=false:=by simp[hw]
   rw[Qn4 hw,Nat.max_zero]at hsn;simp only[QA hlt,b0,Qp,Qpq,Qf,hg,h1,h7,m1,e1,eE,seval];exact⟨v.raws.length-(i+1),by omega,_,_,i+1,rfl,rfl,by omega,h1,(by rw[hsn];exact h3),rfl,m1'⟩
 have e:i=v.raws.length:=by omega
 subst e;rw[QpC]at h3;have hle:max (max (max (max v.text.length (ZK v.list)) (ZW v.pairs)) (ZX v.slots)) (ZB v.raws)=v.lgt:=by rw[Hm];omega
 simp only[QH hlt,h3,hle,Qa,seval]
end
theorem Qgi (x:V):XB 0 x=Q7 x.kd x.bits x.text:=by
 unfold XB Q7 zr
 repeat' split
 all_goals rfl
theorem NB (bd:Int→V→List UInt8)(o:PO)(n:Int)(x:V):({ Q0 bd o 0 x with num:=n }:R)=Q0 bd o n x:=by
 unfold Q0;split
 ·rfl
 ·rfl
theorem Qgj {α:Type}(l:List α)(F:α→R):(l.map fun x=>(F x).av)=(l.map F).map R.av:=by rw[QpO];rfl
theorem YZ {fr:Nat→Ob}{a:Nat}(h1:(fr a).isRow=false):∀s∈[a],(fr s).isRow=false:=by
 intro s hs;simp only[Qpk,Qqc,or_false]at hs;subst hs;exact h1
theorem SR (n:Int)(f:R):Qg Tryz.prog 222 [.int .i64 n,f.av] ({ f with num:=n }:R).av:=by
 refine wF Tryz.func222 ?_;simp only[eK,Tryz.f222,seval];simp only[R.av,eE,seval]
theorem I8 {M:Nat}{v:V}(hv:v.ok M):Qg Tryz.prog 223 [v.av] (XB 0 v).av:=by
 rw[Qgi,Qc];exact QlA v.kd v.bits (P2 hv) v.text _ _ _ _
section
variable {M:Nat}{P:PL}{m:PG→V→Int}{bd:Int→V→List UInt8}(o:PO)(ho:UO P o)
include ho in
theorem QlJ (hb:∀(t:Int) (g:PG),P.progs[t.toNat]? = some g→0≤t→∀v:V,v.ok M→v.cnt≤1048576→m g v=0→Qg Tryz.prog 18 [P.av,.int .i64 t,v.av] (.str (bd t v)))(x:V)(hx:x.ok M)(hc:x.cnt≤1048576)(he:QN m P o x=0) :
  Qg Tryz.prog 224 [P.av,Qv o,x.av] (Q0 bd o 0 x).av:=by
 have e0:=zq P;unfold Q0;by_cases hk:o.kind=10
 ·have b:(o.kind==10)=true:=by simp[hk]
  rw[Qn5 hk];unfold QN at he;rw[Qn5 hk]at he;obtain⟨t0,t1⟩:=ho.tgt hk;obtain⟨g,hg⟩:∃g,P.progs[o.target.toNat]? = some g:=⟨P.progs[o.target.toNat]'(by omega),QnX (by omega)⟩;have hq:Qk P o.target=g:=by unfold Qk;rw[hg];rfl
  rw[hq]at he;have h2:=hb o.target g hg t0 x hx hc he;rw[e0,Qc]at h2;rw[Qc];refine wF Tryz.func224 ?_;simp only[eK,Tryz.f224,seval];simp only[e0,Qv,PO.cells,b,R.av,eE,seval];refine aC h2 ?_;simp only[eE,seval]
 ·have b:(o.kind==10)=false:=by simp[hk]
  rw[Qn4 hk];have h1:=I8 hx;generalize XB 0 x=z at h1 ⊢;rw[Qc]at h1;rw[Qc];simp only[R.av]at h1;refine wF Tryz.func224 ?_;simp only[eK,Tryz.f224,seval];simp only[e0,Qv,PO.cells,b,R.av,eE,seval];refine aC h1 ?_;simp only[eE,seval]
def QlK (P:PL)(o:PO)(l:List V)(F:V→R)(k:Nat)(st:St):Prop :=
 ∃f fr i g,st=⟨f,[fr],[]⟩∧k=l.length-i∧i≤l.length∧f 3=.ptr 0 3 0∧f 4=.ptr 0 4 0∧f 7=.vec 0 7 g 0 i false∧f 11=.list (l.map V.av)∧f 12=.int .i64 (l.length:Nat)∧f 13=.int .i64 (i:Nat)∧fr 3=.cells [.list (P.progs.map Qn),.list (P.enums.map QC)]∧fr 4=.cells o.cells∧fr 7=.vec g 4 ((l.take i).map fun x=>(F x).av)∧∀s∈[9],(fr s).isRow=false
def QlL (P:PL)(o:PO)(l:List (V×V))(F:V×V→R)(k:Nat)(st:St):Prop :=
 ∃f fr i g,st=⟨f,[fr],[]⟩∧k=l.length-i∧i≤l.length∧f 3=.ptr 0 3 0∧f 4=.ptr 0 4 0∧f 7=.vec 0 7 g 0 i false∧f 12=.list (l.map V.pav)∧f 13=.int .i64 (l.length:Nat)∧f 14=.int .i64 (i:Nat)∧fr 3=.cells [.list (P.progs.map Qn),.list (P.enums.map QC)]∧fr 4=.cells o.cells∧fr 7=.vec g 4 ((l.take i).map fun x=>(F x).av)∧∀s∈[9],(fr s).isRow=false
theorem QlM (hel:∀x:V,x.ok M→x.cnt≤1048576→QN m P o x=0→Qg Tryz.prog 224 [P.av,Qv o,x.av] (Q0 bd o 0 x).av)(v:V)(hv:v.ok M)(hc:v.cnt≤1048576)(hL:∀x∈v.list,QN m P o x=0) :
  Qg Tryz.prog 173 [P.av,Qv o,v.av] (.list ((v.list.map (Q0 bd o o.num)).map R.av)):=by
 have e0:=zq P;have hlen:=ZJ v;rw[Qc v];refine wF Tryz.func173 ?_;simp only[eK,Tryz.f173,seval];simp only[e0,Qv,PO.cells,eE,seval];refine ZG rfl rfl ?_;simp only[QoS,eE,seval];refine Qi (QlK P o v.list (Q0 bd o o.num)) _ ⟨_,_,0,_,rfl,rfl,Qn6 _,rfl,rfl,rfl,rfl,rfl,rfl,rfl,rfl,rfl,YZ rfl⟩ ?_;rintro _ st ⟨f0,fr0,i,g,rfl,rfl,hil,h30,h40,h70,h110,h120,h130,m30,m40,mR0,r9⟩;refine QL (a:=_) [9] r9 ?_;intro f fr hf hm hn9;have h3:f 3=.ptr 0 3 0:=by rw[hf,h30]<;>rfl
 have h4:f 4=.ptr 0 4 0:=by rw[hf,h40]<;>rfl
 have h7:f 7=.vec 0 7 g 0 i false:=by rw[hf,h70]<;>rfl
 have h11:f 11=.list (v.list.map V.av):=by rw[hf,h110]<;>rfl
 have h12:f 12=.int .i64 (v.list.length:Nat):=by rw[hf,h120]<;>rfl
 have h13:f 13=.int .i64 (i:Nat):=by rw[hf,h130]<;>rfl
 have m3:fr 3=.cells [.list (P.progs.map Qn),.list (P.enums.map QC)]:=by rw[hm 3 (by decide),m30]<;>rfl
 have m4':fr 4=.cells o.cells:=by rw[hm 4 (by decide),m40]<;>rfl
 have mR:fr 7=.vec g 4 ((v.list.take i).map fun x=>(Q0 bd o o.num x).av):=by rw[hm 7 (by decide),mR0]<;>rfl
 have n9:=hn9 9 (by decide);clear hf hm hn9 h30 h40 h70 h110 h120 h130 m30 m40 mR0 r9;have m4:=m4';simp only[PO.cells]at m4;simp only[h12,h13,Qa,seval];by_cases hlt:i<v.list.length
 ·obtain⟨x,hi⟩:∃x,v.list[i]? = some x:=⟨v.list[i],QnX hlt⟩;have hx:=Qob hi;have hg:=U4 hi;have e1:=Qs i _ hlt (by simp only[maxLen];omega);have c1:=hel x (hv.list x hx) (QnU (Wi hx) hc) (hL x hx);have c2:=SR o.num (Q0 bd o 0 x);rw[NB]at c2;have hti:((v.list.take i).map fun x=>(Q0 bd o o.num x).av).length=i:=by rw[QoS,QoU];omega
  have hts:(v.list.take (i+1)).map (fun x=>(Q0 bd o o.num x).av)=(v.list.take i).map (fun x=>(Q0 bd o o.num x).av)++[(Q0 bd o o.num x).av]:=by rw[QpM,hi];simp
  generalize Q0 bd o 0 x=y at c1 c2;generalize Q0 bd o o.num x=z at c2 hts;rw[e0,Qc x]at c1;simp only[Qv,PO.cells,R.av]at c1 c2;simp only[QA hlt,Qp,Qpq,Qf,hg,n9,h3,h4,h7,h11,h13,m3,m4,eE,seval];refine aC c1 ?_;refine aC c2 ?_;refine QO (l:=[z.av]) rfl rfl rfl rfl ?_;refine QK (site:=7) (g:=g) (n:=i) (xs:=(v.list.take i).map fun x=>(Q0 bd o o.num x).av) (ys:=[z.av]) rfl mR rfl hti.symm rfl (Yj [z]) (by simp only[Qoc,QoT,maxLen];omega) (by simp only[Qoc,QoT];omega) ?_;simp only[h13,e1,Qa,seval];exact⟨v.list.length-(i+1),by omega,_,_,i+1,g+1,rfl,rfl,by omega,h3,h4,rfl,h11,h12,rfl,m3,m4',(by rw[hts];exact rfl),YZ rfl⟩
 ·have e:i=v.list.length:=by omega
  subst e;rw[QpC,Qgj]at mR;simp only[QH hlt,h7,mR,eE,seval];simp[AV.un,ZE,XO,Qox]
include ho in
theorem QlN (hbd:∀(t:Int) (v:V),(0≤t∧t<(P.progs.length:Int))→m (Qk P t) v=0→(bd t v).length+70000≤70000*v.cnt)(hel:∀x:V,x.ok M→x.cnt≤1048576→QN m P o x=0→Qg Tryz.prog 224 [P.av,Qv o,x.av] (Q0 bd o 0 x).av)(v:V)(hv:v.ok M)(hc:v.cnt≤1048576)(hE:∀p∈v.pairs,p.1.one P o.key (-1)=0∧QN m P o p.2=0) :
  Qg Tryz.prog 170 [P.av,Qv o,v.av] (.list ((v.pairs.map (JR bd o)).map R.av)):=by
 have e0:=zq P;have hlen:=Jr v;rw[Qc v];refine wF Tryz.func170 ?_;simp only[eK,Tryz.f170,seval];simp only[e0,Qv,PO.cells,eE,seval];refine ZG rfl rfl ?_;simp only[QoS,eE,seval];refine Qi (QlL P o v.pairs (JR bd o)) _ ⟨_,_,0,_,rfl,rfl,Qn6 _,rfl,rfl,rfl,rfl,rfl,rfl,rfl,rfl,rfl,YZ rfl⟩ ?_;rintro _ st ⟨f0,fr0,i,g,rfl,rfl,hil,h30,h40,h70,h120,h130,h140,m30,m40,mR0,r9⟩;refine QL (a:=_) [9] r9 ?_;intro f fr hf hm hn9;have h3:f 3=.ptr 0 3 0:=by rw[hf,h30]<;>rfl
 have h4:f 4=.ptr 0 4 0:=by rw[hf,h40]<;>rfl
 have h7:f 7=.vec 0 7 g 0 i false:=by rw[hf,h70]<;>rfl
 have h12:f 12=.list (v.pairs.map V.pav):=by rw[hf,h120]<;>rfl
 have h13:f 13=.int .i64 (v.pairs.length:Nat):=by rw[hf,h130]<;>rfl
 have h14:f 14=.int .i64 (i:Nat):=by rw[hf,h140]<;>rfl
 have m3:fr 3=.cells [.list (P.progs.map Qn),.list (P.enums.map QC)]:=by rw[hm 3 (by decide),m30]<;>rfl
 have m4':fr 4=.cells o.cells:=by rw[hm 4 (by decide),m40]<;>rfl
 have mR:fr 7=.vec g 4 ((v.pairs.take i).map fun x=>(JR bd o x).av):=by rw[hm 7 (by decide),mR0]<;>rfl
 have n9:=hn9 9 (by decide);clear hf hm hn9 h30 h40 h70 h120 h130 h140 m30 m40 mR0 r9;have m4:=m4';simp only[PO.cells]at m4;simp only[h13,h14,Qa,seval];by_cases hlt:i<v.pairs.length
 ·obtain⟨x,hi⟩:∃x,v.pairs[i]? = some x:=⟨v.pairs[i],QnX hlt⟩;have hx:=Qob hi;have hg:=J3 hi;have e1:=Qs i _ hlt (by simp only[maxLen];omega);have hcc:=Yk hx;have hck:=Dr hx;have c0:=I8 (hv.keys x hx);have c1:=SR 1 (XB 0 x.1);rw[show({ XB 0 x.1 with num:=1 }:R)=XB 1 x.1 from rfl]at c1;have c2:=hel x.2 (hv.vals x hx) (QnU hcc hc) (hE x hx).2;have c3:=SR 2 (Q0 bd o 0 x.2);rw[NB]at c3;have hpn:=Mn (l:=[XB 1 x.1,Q0 bd o 2 x.2]) (fun f hf=>by
   rcases Qpk.1 hf with rfl|hf
   ·exact AR (hv.keys x hx) 1
   ·rw[Qp8]at hf;subst hf;exact Mm (hv.vals x hx) bd o 2) (by have:=P0 hbd ho (hE x hx).1 (hE x hx).2;omega)
  have c4:=c41 [XB 1 x.1,Q0 bd o 2 x.2] hpn.1 hpn.2.1 hpn.2.2;have hen:JR bd o x=⟨o.num,6,0,QY [XB 1 x.1,Q0 bd o 2 x.2]⟩:=rfl;have hti:((v.pairs.take i).map fun x=>(JR bd o x).av).length=i:=by rw[QoS,QoU];omega
  have hts:(v.pairs.take (i+1)).map (fun x=>(JR bd o x).av)=(v.pairs.take i).map (fun x=>(JR bd o x).av)++[(JR bd o x).av]:=by rw[QpM,hi];simp
  rw[hen]at hts;clear hpn hen;generalize XB 0 x.1=y0 at c0 c1;generalize Q0 bd o 0 x.2=y2 at c2 c3;generalize XB 1 x.1=z1 at c1 c4 hts;generalize Q0 bd o 2 x.2=z2 at c3 c4 hts;generalize QY [z1,z2]=d at c4 hts;rw[Qc x.1]at c0;rw[e0,Qc x.2]at c2;simp only[Qv,PO.cells,R.av,Bk,Qov,QoZ]at c0 c1 c2 c3 c4;simp only[QA hlt,Qp,Qpq,Qf,hg,n9,h12,h14,eE,seval];refine aC c0 ?_;refine aC c1 ?_;simp only[h3,h4,m3,m4,eE,seval];refine aC c2 ?_;refine aC c3 ?_;refine QO (l:=[z1.av,z2.av]) rfl rfl rfl rfl ?_;simp only[h4,h7,m4,eE,seval];refine aC c4 ?_;simp only[eE,seval];refine QO (l:=[(R.mk o.num 6 0 d).av]) rfl rfl rfl rfl ?_;refine QK (site:=7) (g:=g) (n:=i) (xs:=(v.pairs.take i).map fun x=>(JR bd o x).av) (ys:=[(R.mk o.num 6 0 d).av]) rfl mR rfl hti.symm rfl (Yj [_]) (by simp only[Qoc,QoT,maxLen];omega) (by simp only[Qoc,QoT];omega) ?_;simp only[h14,e1,Qa,seval];exact⟨v.pairs.length-(i+1),by omega,_,_,i+1,g+1,rfl,rfl,by omega,h3,h4,rfl,h12,h13,rfl,m3,m4',(by rw[hts];exact rfl),YZ rfl⟩
 ·have e:i=v.pairs.length:=by omega
  subst e;rw[QpC,Qgj]at mR;simp only[QH hlt,h7,mR,eE,seval];simp[AV.un,ZE,XO,Qox]
end
section
variable {M:Nat}{P:PL}{m:PG→V→Int}{bd:Int→V→List UInt8}(o:PO)(ho:UO P o)
def PkI (o:PO)(l:List V)(F:Nat→List UInt8)(k:Nat)(st:St):Prop :=
 ∃f fr i g,st=⟨f,[fr],[]⟩∧k=l.length-i∧i≤l.length∧f 4=.ptr 0 4 0∧f 8=.int .i64 (wk o.kind)∧f 9=.vec 0 19 g 0 (F i).length false∧f 21=.list (l.map V.av)∧f 22=.int .i64 (l.length:Nat)∧f 23=.int .i64 (i:Nat)∧fr 4=.cells o.cells∧fr 19=.vec g 1 (Qu (F i))∧∀s∈[11],(fr s).isRow=false
theorem QlO (hp:pk o.card o.kind=true)(v:V)(hv:v.ok M)(hc:v.cnt≤1048576) :
  Qg Tryz.prog 172 [P.av,Qv o,v.av] (.list ([Uq o v.list].map R.av)):=by
 have e0:=zq P;have hlen:=ZJ v;have cw:=QeQ o.num o.name o.alias 2 o.key o.kind o.target o.union;have hw2:Cm 2 o.kind=wk o.kind:=by
  have e:pk 2 o.kind=false:=by simp[pk]
  unfold Cm;rw[e];rfl
 rw[hw2]at cw;simp only[oc]at cw;have hcv:∃b:UInt8,IntKind.u8.wrap (wk o.kind)=(b.toNat:Int)∧UInt8.ofNat (wk o.kind).toNat=b:=by
  rcases SA hp with h|h|h<;>rw[h]
  ·exact⟨0,rfl,rfl⟩
  ·exact⟨1,rfl,rfl⟩
  ·exact⟨2,rfl,rfl⟩
 obtain⟨b0,hb0,hb1⟩:=hcv;have hpk:Uq o v.list=⟨o.num,5,0,b0 :: v.list.flatMap (JD (wk o.kind))⟩:=by unfold Uq;rw[hb1]
 rw[hpk];clear hpk hb1
 let F:Nat→List UInt8:=fun i=>b0 :: (v.list.take i).flatMap (JD (wk o.kind))
 have hF0:F 0=[b0]:=by simp[F]
 have hFn:F v.list.length=b0 :: v.list.flatMap (JD (wk o.kind)):=by simp[F]
 have hFl:∀i,i≤v.list.length→(F i).length≤1+10*i:=by
  intro i hi;have:=Hl (wk o.kind) (v.list.take i);rw[QoU]at this;simp only[F,Qoc];omega
 have hFs:∀i x,v.list[i]? = some x→F (i+1)=F i++JD (wk o.kind) x:=by
  intro i x hx;simp only[F];rw[QpM,hx,Qqh];simp
 rw[←hFn]
 clear_value F
 clear hFn;have hbl:∀s:List UInt8,(Qu s).length=s.length:=fun s=>by simp[Qu]
 rw[Qc v];refine wF Tryz.func172 ?_;simp only[eK,Tryz.f172,seval];simp only[e0,Qv,PO.cells,eE,seval];refine aC cw ?_;simp only[hb0,Qa,seval];refine NN (y:=[.int .u8 (b0.toNat:Int)]) rfl rfl rfl rfl ?_;simp only[QoS,eE,seval];refine Qi (PkI o v.list F) _ ⟨_,_,0,_,rfl,rfl,Qn6 _,rfl,rfl,(by rw[hF0];exact rfl),rfl,rfl,rfl,rfl,(by rw[hF0];exact rfl),YZ rfl⟩ ?_;rintro _ st ⟨f0,fr0,i,g,rfl,rfl,hil,h40,h80,h90,h210,h220,h230,m40,mR0,r11⟩;refine QL (a:=_) [11] r11 ?_;intro f fr hf hm hn11;have h4:f 4=.ptr 0 4 0:=by rw[hf,h40]<;>rfl
 have h8:f 8=.int .i64 (wk o.kind):=by rw[hf,h80]<;>rfl
 have h9:f 9=.vec 0 19 g 0 (F i).length false:=by rw[hf,h90]<;>rfl
 have h21:f 21=.list (v.list.map V.av):=by rw[hf,h210]<;>rfl
 have h22:f 22=.int .i64 (v.list.length:Nat):=by rw[hf,h220]<;>rfl
 have h23:f 23=.int .i64 (i:Nat):=by rw[hf,h230]<;>rfl
 have m4':fr 4=.cells o.cells:=by rw[hm 4 (by decide),m40]<;>rfl
 have mR:fr 19=.vec g 1 (Qu (F i)):=by rw[hm 19 (by decide),mR0]<;>rfl
 have n11:=hn11 11 (by decide);clear hf hm hn11 h40 h80 h90 h210 h220 h230 m40 mR0 r11;have m4:=m4';simp only[PO.cells]at m4;simp only[h22,h23,Qa,seval];by_cases hlt:i<v.list.length
 ·obtain⟨x,hi⟩:∃x,v.list[i]? = some x:=⟨v.list[i],QnX hlt⟩;have hx:=Qob hi;have hg:=U4 hi;have e1:=Qs i _ hlt (by simp only[maxLen];omega);have c1:=I8 (hv.list x hx);rw[Qgi]at c1;have hbb:(Q7 x.kd x.bits x.text).bits<18446744073709551616:=UR (P2 (hv.list x hx)) _;have hFi:=hFl i (by omega);have hFx:=hFs i x hi;have hpx:=P1 (wk o.kind) x;have epx:JD (wk o.kind) x=DQ (wk o.kind) (Q7 x.kd x.bits x.text).bits:=rfl;rw[epx]at hFx hpx;clear epx;generalize Q7 x.kd x.bits x.text=z at c1 hbb hFx hpx;rw[Qc x]at c1;simp only[R.av]at c1;simp only[QA hlt,Qp,Qpq,Qf,hg,n11,h21,h23,eE,seval];refine aC c1 ?_;by_cases w2:wk o.kind=2
  ·have b2:(wk o.kind==2)=true:=by simp[w2]
   have epb:DQ (wk o.kind) z.bits=fx 8 z.bits:=by unfold DQ;rw[Qn5 w2]
   rw[epb]at hFx hpx;simp only[b2,h8,h9,Qa,seval];refine aC (c83 z.bits) ?_;refine Gn (site:=19) (g:=g) (xs:=Qu (F i)) rfl mR rfl (hbl _).symm rfl (by omega) ?_;simp only[h23,e1,eE,seval];exact⟨v.list.length-(i+1),by omega,_,_,i+1,g+1,rfl,rfl,by omega,h4,h8,(by rw[hFx,QoB];exact rfl),h21,h22,rfl,m4',(by rw[hFx,show Qu (F i++fx 8 z.bits)=Qu (F i)++Qu (fx 8 z.bits)by simp[Qu]];exact rfl),YZ rfl⟩
  ·have b2:(wk o.kind==2)=false:=by simp[w2]
   have epb:DQ (wk o.kind) z.bits=Vp.put z.bits:=by unfold DQ;rw[Qn4 w2]
   rw[epb]at hFx hpx;simp only[b2,h8,h9,Qa,seval];refine aC (LM z.bits hbb) ?_;refine Gn (site:=19) (g:=g) (xs:=Qu (F i)) rfl mR rfl (hbl _).symm rfl (by omega) ?_;simp only[h23,e1,eE,seval];exact⟨v.list.length-(i+1),by omega,_,_,i+1,g+1,rfl,rfl,by omega,h4,h8,(by rw[hFx,QoB];exact rfl),h21,h22,rfl,m4',(by rw[hFx,show Qu (F i++Vp.put z.bits)=Qu (F i)++Qu (Vp.put z.bits)by simp[Qu]];exact rfl),YZ rfl⟩
 ·have e:i=v.list.length:=by omega
  subst e;have he:Xi [fr] (.vec 0 19 g 0 (F v.list.length).length false)=some (Qu (F v.list.length)):=UB mR (hbl _).symm;have hbo:bytesOf (Qu (F v.list.length))=some (F v.list.length):=YU _;simp only[QH hlt,h4,h9,m4,he,hbo,eE,seval];refine QO (l:=[(R.mk o.num 5 0 (F v.list.length)).av]) rfl rfl rfl rfl ?_;simp only[Qov,QoZ,Qa,seval]
def M1 (o:PO):Nat:=if o.card=5 then 170 else if pk o.card o.kind=true then 172 else if o.card=4 then 173 else 174
theorem t79:Qg Tryz.prog 79 [Qv o] (.fn (.func (M1 o)) [] []):=by
 have cp:=EP o.num o.name o.alias o.card o.key o.kind o.target o.union;simp only[oc]at cp;unfold M1;refine wF Tryz.func79 ?_;simp only[eK,Tryz.f79,seval];simp only[Qv,PO.cells,eE,seval];by_cases h5:o.card=5
 ·have b5:(o.card==5)=true:=by simp[h5]
  rw[Qn5 h5];simp only[b5,Qa,seval]
 have b5:(o.card==5)=false:=by simp[h5]
 rw[Qn4 h5];simp only[b5,eE,seval];refine aC cp ?_;cases hp:pk o.card o.kind
 case true=>simp only[Qa,seval]
 simp only[eE,seval];by_cases h4:o.card=4
 ·have b4:(o.card==4)=true:=by simp[h4]
  simp only[h4,Qa,seval]
 ·have b4:(o.card==4)=false:=by simp[h4]
  simp only[b4,h4,Qa,seval]
theorem QlP (hel:∀x:V,x.ok M→x.cnt≤1048576→QN m P o x=0→Qg Tryz.prog 224 [P.av,Qv o,x.av] (Q0 bd o 0 x).av)(v:V)(hv:v.ok M)(hc:v.cnt≤1048576)(he:QN m P o v=0) :
  Qg Tryz.prog 174 [P.av,Qv o,v.av] (.list ([Q0 bd o o.num v].map R.av)):=by
 have e0:=zq P;have c1:=hel v hv hc he;have c2:=SR o.num (Q0 bd o 0 v);rw[NB]at c2;generalize Q0 bd o 0 v=y at c1 c2;generalize Q0 bd o o.num v=z at c2 ⊢;rw[e0,Qc v]at c1;simp only[Qv,PO.cells,R.av]at c1 c2;rw[Qc v];refine wF Tryz.func174 ?_;simp only[eK,Tryz.f174,seval];simp only[e0,Qv,PO.cells,eE,seval];refine aC c1 ?_;refine aC c2 ?_;refine QO (l:=[z.av]) rfl rfl rfl rfl ?_;simp only[Qov,QoZ,Qa,seval]
include ho in
theorem Qh0 (hbd:∀(t:Int) (v:V),(0≤t∧t<(P.progs.length:Int))→m (Qk P t) v=0→(bd t v).length+70000≤70000*v.cnt)(hb:∀(t:Int) (g:PG),P.progs[t.toNat]? = some g→0≤t→∀v:V,v.ok M→v.cnt≤1048576→m g v=0→Qg Tryz.prog 18 [P.av,.int .i64 t,v.av] (.str (bd t v)))(v:V)(hv:v.ok M)(hc:v.cnt≤1048576)(hf:Xw m P o v=0) :
  Qg Tryz.prog (M1 o) [P.av,Qv o,v.av] (.list ((YE bd o v).map R.av)):=by
 have hel:=fun(x:V) (hx:x.ok M) (hxc:x.cnt≤1048576) (he:QN m P o x=0)=>QlJ o ho hb x hx hxc he
 unfold M1 YE;unfold Xw at hf;by_cases h5:o.card=5
 ·rw[Qn5 h5]at hf;rw[Qn5 h5,Qn5 h5];split at hf
  ·omega
  exact QlN o ho hbd hel v hv hc (Kd.1 hf).1
 rw[Qn4 h5]at hf;rw[Qn4 h5,Qn4 h5];by_cases hp:pk o.card o.kind=true
 ·rw[Qn5 hp,Qn5 hp];exact QlO o hp v hv hc
 rw[Qn4 hp,Qn4 hp];by_cases h4:o.card=4
 ·rw[Qn5 h4]at hf;rw[Qn5 h4,Qn5 h4];split at hf
  ·omega
  exact QlM o hel v hv hc (Ke.1 hf)
 ·rw[Qn4 h4]at hf;rw[Qn4 h4,Qn4 h4];exact QlP o hel v hv hc hf
end
section
variable {M:Nat}{P:PL}{m:PG→V→Int}{bd:Int→V→List UInt8}
theorem t40 (hU:J6 P)(hP:P.ok M)(hbd:∀(t:Int) (v:V),(0≤t∧t<(P.progs.length:Int))→m (Qk P t) v=0→(bd t v).length+70000≤70000*v.cnt)(hb:∀(t:Int) (g:PG),P.progs[t.toNat]? = some g→0≤t→∀v:V,v.ok M→v.cnt≤1048576→m g v=0→Qg Tryz.prog 18 [P.av,.int .i64 t,v.av] (.str (bd t v)))(t:Int)(g:PG)(hgt:P.progs[t.toNat]? = some g)(t0:0≤t)(s:Int×V)(hv:s.2.ok M)(hc:s.2.cnt≤1048576)(o:PO)(ho:Xv g s.1=some o)(hf:Xw m P o s.2=0) :
  Qg Tryz.prog 40 [P.av,.int .i64 t,V.sav s] (.list ((UQ bd g s).map R.av)):=by
 have e0:=zq P;have hgm:=Qob hgt;obtain⟨hom,hon⟩:=JO ho;have c1:=T5 g (hP.progs g hgm).len s.1;rw[Hg,ho]at c1;have c2:=t79 o;have c3:=Qh0 o (hU g hgm o hom) hbd hb s.2 hv hc hf;have hsl:UQ bd g s=YE bd o s.2:=by unfold UQ;rw[ho]
 rw[hsl];obtain⟨ti,hti⟩:=QpH t0;subst hti;rw[Qpq]at hgt;have hga:(P.progs.map Qn)[ti]? = some (.agg g.cells):=by simp[hgt,Qn]
 generalize YE bd o s.2=z at c3 ⊢;generalize M1 o=k at c2 c3;simp only[PG.cells]at hga;rw[e0,Qc s.2]at c3;simp only[Qn,Qv,PG.cells,PO.cells,Qo8,QpR]at c1 c2 c3;rw[Z1];refine wF Tryz.func40 ?_;simp only[eK,Tryz.f40,seval];simp only[e0,Qp,Qpq,Qf,hga,eE,seval];refine aC c1 ?_;simp only[eE,seval];refine aC c2 ?_;simp only[eE,seval];refine WH (fa:=[]) (fb:=[]) rfl c3 rfl rfl rfl (.inl rfl) ?_;simp only[Qa,seval]
end
section
variable (bd:Int→V→List UInt8)(g:PG)
theorem Qc9 {s:Int×V}{sl:List (Int×V)}{r:R}{rs:List R}(h:r.num<s.1):Zv bd g (s :: sl) (r :: rs)=r :: Zv bd g (s :: sl) rs:=by
 have d:decide (r.num<s.1)=true:=QpY h;rw[Zv,Zv,List.takeWhile_cons,List.dropWhile_cons,Qn5 d,Qn5 d];rfl
theorem Rp {s:Int×V}{sl:List (Int×V)}{rs:List R}(h:∀r l,rs=r :: l→¬r.num<s.1):Zv bd g (s :: sl) rs=UQ bd g s++Zv bd g sl rs:=by
 rw[Zv];cases rs with
 |nil=>rfl
 |cons r l=>
  have d:¬decide (r.num<s.1)=true:=fun e=>h r l rfl (of_decide_eq_true e)
  rw[List.takeWhile_cons,List.dropWhile_cons,Qn4 d,Qn4 d];rfl
end
structure BoF (P:PL)(t:Nat)(S:List (Int×V))(f:Fr)(fr:Nat→Ob)(i g:Nat)(out rest:List R):Prop where
 f1:f 1=.int .i64 (t:Nat)
 f3:f 3=.ptr 0 3 0
 f8:f 8=.vec 0 8 g 0 out.length false
 f9:f 9=.list (rest.map R.av)
 f20:f 20=.list (S.map V.sav)
 f21:f 21=.int .i64 (S.length:Nat)
 f22:f 22=.int .i64 (i:Nat)
 m3:fr 3=.cells [.list (P.progs.map Qn),.list (P.enums.map QC)]
 mR:fr 8=.vec g 4 (out.map R.av)
section
variable {M:Nat}{P:PL}
theorem Qh1 (bd:Int→V→List UInt8)(g:PG)(t:Nat)(S:List (Int×V))(i:Nat)(s:Int×V)(sl:List (Int×V))(T:List R)(hT:T.length≤3000000000000)(f:Fr)(fr:Nat→Ob)(gn:Nat)(out rest:List R)(h:BoF P t S f fr i gn out rest)(h11:f 11=.ptr 0 11 0)(m11:fr 11=.cells [.int .i64 s.1,.int .i64 s.2.kd,.int .u64 (s.2.bits:Nat),.str s.2.text,.list (s.2.list.map V.av),.list (s.2.pairs.map V.pav),.list (s.2.slots.map V.sav),.list (s.2.raws.map R.av)])(hi:out++Zv bd g (s :: sl) rest=T)(Q:Exit→St→Prop)
  (q:∀f fr gn out rest,BoF P t S f fr i gn out rest→f 11=.ptr 0 11 0→fr 11=.cells [.int .i64 s.1,.int .i64 s.2.kd,.int .u64 (s.2.bits:Nat),.str s.2.text,.list (s.2.list.map V.av),.list (s.2.pairs.map V.pav),.list (s.2.slots.map V.sav),.list (s.2.raws.map R.av)]→out++(UQ bd g s++Zv bd g sl rest)=T→Q (.exit 2) (⟨f,[fr],[]⟩:St)) :
  Q2 Tryz.prog (.loop Lk) ⟨f,[fr],[]⟩ Q:=by
 let I:Nat→St→Prop:=fun k st=>∃f fr gn out rest,st=⟨f,[fr],[]⟩∧k=rest.length∧BoF P t S f fr i gn out rest∧f 11=.ptr 0 11 0∧fr 11=.cells [.int .i64 s.1,.int .i64 s.2.kd,.int .u64 (s.2.bits:Nat),.str s.2.text,.list (s.2.list.map V.av),.list (s.2.pairs.map V.pav),.list (s.2.slots.map V.sav),.list (s.2.raws.map R.av)]∧out++Zv bd g (s :: sl) rest=T
 refine Qi I _ ⟨f,fr,gn,out,rest,rfl,rfl,h,h11,m11,hi⟩ ?_;clear h h11 m11 hi;rintro _ st ⟨f,fr,gn,out,rest,rfl,rfl,⟨h1,h3,h8,h9,h20,h21,h22,m3,mR⟩,h11,m11,hi⟩;simp only[Qa,seval];cases rest with
 |nil=>
  have d1:decide (((0:Nat):Int) > 0)=false:=rfl;simp only[QoZ,QoT,h9,Qa,seval];exact q _ _ gn out [] ⟨h1,h3,h8,h9,h20,h21,h22,m3,mR⟩ h11 m11 (by rw[←hi,Rp];intro r l e;cases e)
 |cons r l=>
  have d1:decide (((l.length+1:Nat):Int) > 0)=true:=QpY (by omega);have hml:(l.map R.av).length=l.length:=QoS ..;by_cases hr:r.num<s.1
  ·have d2:decide (r.num<s.1)=true:=QpY hr;rw[Qc9 bd g hr]at hi;have hol:out.length+1≤T.length:=by rw[←hi];simp
   have hs1:(1≤((r :: l).map R.av).length)=True:=eq_true (by simp);have hs3:=Yj (r :: l);have hs2:List.take (((r :: l).map R.av).length-1) (List.drop 1 ((r :: l).map R.av))=l.map R.av:=by simp[Qox]
   simp only[Qov,Qoc,hml,d1,d2,R.av,Qo0,Qf,h8,h9,h11,m11,eE,seval];refine QO (l:=[r.av]) rfl rfl rfl rfl ?_;refine QK (site:=8) (g:=gn) (n:=out.length) (xs:=out.map R.av) (ys:=[r.av]) rfl mR rfl (by rw[QoS]) rfl (Yj [r]) (by simp only[Qoc,QoT,maxLen];omega) (by simp only[Qoc,QoT];omega) ?_;simp only[Jl,Z7,Xm,QpB,hs1,hs2,hs3,QnV,or_true,and_self,Qoc,QoT,h9,Qa,seval];exact⟨l.length,by simp,_,_,gn+1,out++[r],l,rfl,rfl,⟨h1,h3,by rw[QoB];exact rfl,rfl,h20,h21,h22,m3,by rw[QpL];exact rfl⟩,h11,m11,by rw[←hi];simp⟩
  ·have d2:decide (r.num<s.1)=false:=QpQ hr;simp only[Qov,Qoc,hml,d1,d2,R.av,Qo0,Qf,h9,h11,m11,eE,seval];exact q _ _ gn out (r :: l) ⟨h1,h3,h8,h9,h20,h21,h22,m3,mR⟩ h11 m11 (by rw[←hi,Rp];intro r' l' e;cases e;exact hr)
def BoI (P:PL)(bd:Int→V→List UInt8)(g:PG)(t:Nat)(S:List (Int×V))(T:List R)(k:Nat)(st:St):Prop :=
 ∃f fr i gn out rest,st=⟨f,[fr],[]⟩∧k=S.length-i∧i≤S.length∧BoF P t S f fr i gn out rest∧out++Zv bd g (S.drop i) rest=T∧∀s∈[11],(fr s).isRow=false
theorem t18 (hP:P.ok M)(hU:J6 P)(hr:Zi P)(hcd:Sz P)(hG:∀t,Gd (Qk P t)):∀(n:Nat) (t:Int) (g:PG),P.progs[t.toNat]? = some g→0≤t→∀v:V,v.ok M→v.cnt≤1048576→Xp P n g v=0→Qg Tryz.prog 18 [P.av,.int .i64 t,v.av] (.str (XD P n t v)):=by
 have e0:=zq P;intro n
 induction n with
 |zero=>
  intro t g _ _ v _ _ h;exact(YT 0 _ _ h).elim
 |succ n ih=>
  intro t g hgt t0 v hv hc h;have hgm:=Qob hgt;have hq:Qk P t=g:=by unfold Qk;rw[hgt];rfl
  have cn:=v39 hP hU hr hcd (n+1) t g hgt t0 v hv hc (YT _ _ _ h);have hw:=AP hU hr hgm h;have hnok:=Mq hG (n+1) t v hv;have hncn:=Y3 hr (n+1) g (hr g hgm) v;have hfit:=Uk hU hr (n+1) g hgm v h;obtain⟨_,_,_,hraw⟩:=ZH.1 hfit;rw[hq]at hnok;rw[XD,hq];generalize nrm P (n+1) g v=w at cn hw hnok hncn hraw;have hwc:w.cnt≤1048576:=by omega
  have hbl:=fun t v ht hm=>Dt hU hr n t v ht hm
  have hrw:=Fm (m:=Xp P n) (bd:=XD P n) (g:=g) hbl w.slots w.raws (fun x hx=>by
   obtain⟨o,ho,hx,_⟩:=hw x hx;exact⟨o,ho,hU _ hgm o (JO ho).1,hx⟩) hraw
  have hcs:w.raws.length+Q9 w.slots≤w.cnt:=by rw[Q1 w];omega
  have hpn:=Mn (l:=Zv (XD P n) g w.slots w.raws) (P3 (XD P n) g w.slots w.raws (fun s hs=>hnok.slots s hs) (fun f hf=>by
   have:=Gq (hnok.raws f hf).bits;show f.bits<_;omega)) (by omega)
  have cput:=c41 _ hpn.1 hpn.2.1 hpn.2.2;have hTl:=Nr (Zv (XD P n) g w.slots w.raws);have csl:=fun(s:Int×V) (hs:s∈w.slots)=>(hw s hs).elim fun o ho=>t40 hU hP hbl ih t g hgt t0 s (hnok.slots s hs) (QnU (Z9 hs) hwc) o ho.1 ho.2.1
  have ls:=Zj w;generalize hTe:Zv (XD P n) g w.slots w.raws=T at hrw hpn cput hTl;have hTm:T.length≤3000000000000:=by omega
  clear hpn hraw hrw hw hfit;obtain⟨ti,hti⟩:=QpH t0;subst hti;rw[e0,Qc v,Qc w]at cn;rw[Qc v];refine k18.fn (by simp) ?_;simp only[e0,eE,seval];refine aC cn ?_;simp only[eE,seval];refine ZG rfl rfl ?_;simp only[QoS,eE,seval];refine Qi (BoI P (XD P n) g ti w.slots T) _ ⟨_,_,0,_,[],w.raws,rfl,rfl,Qn6 _,⟨(by rfl),(by rfl),(by rfl),(by rfl),(by rfl),(by rfl),(by rfl),(by rfl),(by rfl)⟩,hTe,YZ rfl⟩ ?_;rintro _ st ⟨f0,fr0,i,gn,out,rest,rfl,rfl,hil,⟨h10,h30,h80,h90,h200,h210,h220,m30,mR0⟩,hi0,r11⟩;refine QL (a:=_) [11] r11 ?_;intro f fr hf hm hn11;have h1:f 1=.int .i64 (ti:Nat):=by rw[hf,h10]<;>rfl
  have h3:f 3=.ptr 0 3 0:=by rw[hf,h30]<;>rfl
  have h8:f 8=.vec 0 8 gn 0 out.length false:=by rw[hf,h80]<;>rfl
  have h9:f 9=.list (rest.map R.av):=by rw[hf,h90]<;>rfl
  have h20:f 20=.list (w.slots.map V.sav):=by rw[hf,h200]<;>rfl
  have h21:f 21=.int .i64 (w.slots.length:Nat):=by rw[hf,h210]<;>rfl
  have h22:f 22=.int .i64 (i:Nat):=by rw[hf,h220]<;>rfl
  have m3:fr 3=.cells [.list (P.progs.map Qn),.list (P.enums.map QC)]:=by rw[hm 3 (by decide),m30]<;>rfl
  have mR:fr 8=.vec gn 4 (out.map R.av):=by rw[hm 8 (by decide),mR0]<;>rfl
  have n11:=hn11 11 (by decide);clear hf hm hn11 h10 h30 h80 h90 h200 h210 h220 m30 mR0 r11;simp only[h21,h22,Qa,seval];by_cases hlt:i<w.slots.length
  ·obtain⟨x,hi⟩:∃x,w.slots[i]? = some x:=⟨w.slots[i],QnX hlt⟩;have hx:=Qob hi;have hgs:=WR hi;have e1:=Qs i _ hlt (by simp only[maxLen];omega);have hdr:w.slots.drop i=x :: w.slots.drop (i+1):=by rw[QoG hlt,(QnW.1 hi).2]
   have c1:=csl x hx;rw[hdr]at hi0;simp only[QA hlt,Qp,Qpq,Qf,hgs,n11,h20,h22,eE,seval];refine Qh1 (XD P n) g ti w.slots i x (w.slots.drop (i+1)) T hTm _ _ gn out rest ⟨(by exact h1),(by exact h3),(by exact h8),(by exact h9),(by exact h20),(by exact h21),(by exact h22),(by exact m3),(by exact mR)⟩ (by rfl) (by rfl) hi0 _ ?_;clear h1 h3 h8 h9 h20 h21 h22 m3 mR n11 hi0 out rest gn f fr;rintro f fr gn out rest ⟨h1,h3,h8,h9,h20,h21,h22,m3,mR⟩ h11 m11 hi0;rw[e0,Z1 x]at c1;generalize UQ (XD P n) g x=z at c1 hi0;have hol:out.length+z.length≤T.length:=by rw[←hi0];simp
   simp only[h1,h3,h8,h11,m3,m11,eE,seval];refine aC c1 ?_;refine QK (site:=8) (g:=gn) (n:=out.length) (xs:=out.map R.av) (ys:=z.map R.av) (by rfl) (by exact mR) rfl (by rw[QoS]) rfl (Yj z) (by simp only[QoS,maxLen];omega) (by simp only[QoS];omega) ?_;simp only[QoS,h22,e1,Qa,seval];exact⟨w.slots.length-(i+1),by omega,_,_,i+1,gn+1,out++z,rest,rfl,rfl,by omega,⟨(by exact h1),(by exact h3),by rw[QoB];exact(by rfl),(by exact h9),(by exact h20),(by exact h21),(by rfl),(by exact m3),by rw[QpL];exact(by rfl)⟩,by rw[←hi0,Qoi],YZ (by simp only[m11,Qa,seval]<;>rfl)⟩
  ·have e:i=w.slots.length:=by omega
   subst e;have hi1:out++rest=T:=by rw[←hi0,List.drop_length];rfl
   have hol:out.length+rest.length=T.length:=by rw[←hi1];simp
   simp only[QH hlt,h8,h9,Qa,seval];refine QK (site:=8) (g:=gn) (n:=out.length) (xs:=out.map R.av) (ys:=rest.map R.av) (by rfl) (by exact mR) rfl (by rw[QoS]) (by rfl) (Yj rest) (by simp only[QoS,maxLen];omega) (by simp only[QoS];omega) ?_;rw[←hi1]at cput;refine Zf cput ?_ rfl rfl (.inr rfl) ?_
   ·simp only[Qov,QoZ,AV.stillL,AV.still,QoS,eE,seval];simp[Bk,Qox]
   rw[←hi1];simp only[Qa,seval]
end
section
variable {M:Nat}
end
def Qgk (P:PL):Prop:=(∀g∈P.progs,g.name.length≤300)∧∀e∈P.enums,e.name.length≤300
section
variable {M:Nat}(hM:M≤140737488351232)(P:PL)(hP:P.ok M)
end
def Fs (P:PL)(s:List UInt8)(v:V):List UInt8×Int :=
 if QS s P<0 then([],10)
 else if WZ P (QS s P) v≠0 then([],WZ P (QS s P) v)
 else if (XD P 16 (QS s P) v).length > 65536 then([],3)
 else(XD P 16 (QS s P) v,0)
theorem BS {P:PL}{t:Int}{v:V}(h:WZ P t v=0):(0≤t∧t<(P.progs.length:Int))∧Xp P 16 (Qk P t) v=0:=by
 unfold WZ at h;split at h
 ·omega
 rename_i ht;split at h
 ·rename_i hm;exact⟨by omega,hm⟩
 ·rename_i hm;exact absurd h hm
theorem Er {P:PL}{t:Int}(ht:0≤t∧t<(P.progs.length:Int)):P.progs[t.toNat]? = some (Qk P t):=by
 unfold Qk;rw[QnX (by omega:t.toNat<P.progs.length)];rfl
section
variable {M:Nat}(hM:M≤140737488351232)(P:PL)(hP:P.ok M)(hS:Qgk P)
include hM hP hS in
theorem t36:Qg Tryz.prog 36 [P.av] (.int .i64 (ck P)) :=
 QkF P hP hM (fun g h=>QnU (hS.1 g h) (by decide)) (fun g h=>QnU (hS.2 g h) (by decide))
include hM hP hS in
theorem t16 (t:Int)(ht:0≤t∧t<(P.progs.length:Int))(hk:ck P=0):Qg Tryz.prog 16 [P.av,.int .i64 t] (.bool true):=by
 have e0:=zq P;have d1:decide (t≥0)=true:=QpY ht.1;have d2:decide (t<(P.progs.length:Int))=true:=QpY ht.2;have cc:=t36 hM P hP hS;have z0:((0:Int)==0)=true:=rfl;rw[hk,e0]at cc;refine wF Tryz.func16 ?_;simp only[eK,Tryz.f16,seval];simp only[e0,d1,d2,QoS,eE,seval];refine aC cc ?_;simp only[z0,Qa,seval]
include hP in
theorem Qgl (hk:ck P=0)(t:Int)(v:V)(hv:v.ok M)(hc:v.cnt≤1048576)(ht:0≤t∧t<(P.progs.length:Int))(hm:Xp P 16 (Qk P t) v=0):Qg Tryz.prog 18 [P.av,.int .i64 t,v.av] (.str (XD P 16 t v)) :=
 t18 hP (Yz hk) (J4 hk) (Mj hk) (Qa0 hP (Mr hk)) 16 t (Qk P t) (Er ht) ht.1 v hv hc hm
include hM hP hS in
theorem t6 (hk:ck P=0)(s:List UInt8)(v:V)(hv:v.ok M)(hc:v.cnt≤1048576):Qg Tryz.prog 6 [P.av,.str s,v.av] (.tup [.str (Fs P s v).1,.int .i64 (Fs P s v).2]):=by
 have e0:=zq P;have cf:=y15 P hP.len1 s;unfold Bf at cf;rw[show Zo (fun g:PG=>g.name==s) P.progs 0=QS s P from rfl,e0]at cf;unfold Fs;by_cases hp:QS s P<0
 ·have d0:decide (QS s P≥0)=false:=QpQ (by omega);rw[Qn5 hp];rw[Qn5 hp,d0]at cf;rw[Qc v];refine wF Tryz.func6 ?_;simp only[eK,Tryz.f6,seval];simp only[e0,eE,seval];refine aC cf ?_;simp only[Qa,seval]
 have d0:decide (QS s P≥0)=true:=QpY (by omega);rw[Qn4 hp];rw[Qn4 hp,d0]at cf;have ht:0≤QS s P∧QS s P<(P.progs.length:Int):=by
  rcases UT s P with h|h
  ·omega
  ·exact h
 generalize QS s P=t at *;have cu:=t16 hM P hP hS t ht hk;have cx:=v17 hP (Yz hk) t v hv;have cb:=fun hm=>Qgl P hP hk t v hv hc ht hm
 rw[e0]at cu;rw[e0,Qc v]at cx cb;rw[Qc v];refine wF Tryz.func6 ?_;simp only[eK,Tryz.f6,seval];simp only[e0,eE,seval];refine aC cf ?_;simp only[eE,seval];refine aC cu ?_;simp only[eE,seval];refine aC cx ?_;by_cases hf:WZ P t v=0
 case neg=>
  have b0:(WZ P t v != 0)=true:=by simp[hf]
  simp only[Qn5 hf,b0,Qa,seval]
 have b0:(WZ P t v != 0)=false:=by simp[hf]
 rw[Qn4 (fun h=>h hf)];simp only[b0,eE,seval];refine aC (cb (BS hf).2) ?_;by_cases hl:(XD P 16 t v).length > 65536
 ·have d1:decide (((XD P 16 t v).length:Int) > 65536)=true:=QpY (by omega);simp only[Qn5 hl,d1,Qa,seval]
 ·have d1:decide (((XD P 16 t v).length:Int) > 65536)=false:=QpQ (by omega);simp only[Qn4 hl,d1,Qa,seval]
end
section
variable (v w:V)(fr:Nat→Ob)(m2':fr 2=.cells (H9 v))(m3':fr 3=.cells (H9 w))(f:Fr)(h2:f 2=.ptr 0 2 0)(h3:f 3=.ptr 0 3 0)(Q:Exit→St→Prop)
include m2' m3' h2 h3
end
end Go.Proofs.YtgnfjkkfbcnbfaaGreatDoor.Va
namespace Go.Proofs.YtgnfjkkfbcnbfaaGreatDoor.Cl
open Go Am Rc Bt
theorem GZ {sz:Nat}(h0:sz≠0){xs:List AV}(h:xs.all (fun e=>e.cells.length==sz)=true)(hf:QT xs=[]):xs=[]:=by
 cases xs with
 |nil=>rfl
 |cons x xs=>
  have hl:x.cells.length=sz:=by simpa using Qoa.1 h x (by simp)
  have:x.cells=[]:=(List.append_eq_nil_iff.1 hf).1;rw[this]at hl;exact absurd hl.symm h0
def G0 (sz:Nat)(args:List AV)(m:Qj):Option (AV×Qj) :=
 match args,m with
 | [.list xs],fr :: m=>bif xs.all (fun e=>e.cells.length==sz)&&Nat.ble xs.length 1000000&&Qo (fr 1000)then some (.vec 0 1000 (XP (fr 1000)) 0 xs.length false,QI fr 1000 (.vec (XP (fr 1000)) sz xs) :: m)else none
 |_,_=>none
theorem G3 {P:Program}{k sz:Nat}(hk:∀(xs:List AV) (fr:Nat→Ob) (m:Qj),xs.all (fun e=>e.cells.length==sz)=true→xs.length≤1000000→Qo (fr 1000)=true→
  Qe P k [.list xs] (fr :: m) (fun x m1=>x=.vec 0 1000 (XP (fr 1000)) 0 xs.length false∧m1=QI fr 1000 (.vec (XP (fr 1000)) sz xs) :: m)) {args:List AV} {m m':Qj} {v:AV} (h:G0 sz args m=some (v,m')):Qe P k args m fun x m1=>x=v∧m1=m':=by
 unfold G0 at h;split at h
 ·rename_i xs fr m0;cases hb:(xs.all (fun e=>e.cells.length==sz)&&Nat.ble xs.length 1000000&&Qo (fr 1000))with
  |false=>rw[hb]at h;cases h
  |true=>
   rw[hb]at h;simp only[cond_true,Qoo,Qpt]at h;simp only[Qol]at hb;obtain⟨rfl,rfl⟩:=h;exact hk xs fr m0 hb.1.1 (Qpr hb.1.2) hb.2
 ·cases h
theorem c71 (xs:List AV)(fr:Nat→Ob)(m:Qj)(h:xs.all (fun e=>e.cells.length==4)=true)(hn:xs.length≤1000000)(hr:Qo (fr 1000)=true) :
  Qe Tryz.prog 71 [.list xs] (fr :: m) (fun x m1=>x=.vec 0 1000 (XP (fr 1000)) 0 xs.length false∧m1=QI fr 1000 (.vec (XP (fr 1000)) 4 xs) :: m):=by
 have hng:Qy (fr :: m) 0 1000=XP (fr 1000):=Kv;refine k71.go (by simp) ?_;simp only[Lh,RX,RY,Qa,seval];refine J1 (ys:=xs) (by simp only[Qa,seval]) ?_ ?_
 ·simp only[R1,Qa,seval];refine Jn rfl ?_;simp only[Qa,seval];refine QK (site:=5) (g:=1) (xs:=[]) (ys:=xs) rfl rfl rfl rfl rfl h (by simp[maxLen];omega) (by simp;omega) ?_;simp only[Qa,seval];refine Zw (l:=0) (site:=5) (g:=2) (o:=0) (n:=xs.length) (q:=false) (sz:=4) (xs:=xs) (by simp only[Qom,Qa,seval]) (by simp only[Qa,seval]) (by simp) (by decide) hr ?_;simp only[hng,Pq,eE,seval]
  try simp[AV.still,AV.un,ZE,XO]
 ·intro he;have hx:xs=[]:=by
   rcases he with he|he
   ·exact he
   ·exact GZ (by decide) h he
  subst hx;simp only[RZ,Qa,seval];refine ZG (by simp only[Qa,seval]) rfl ?_;simp only[Qa,seval];refine Zw (l:=0) (site:=2) (g:=1) (o:=0) (n:=0) (q:=false) (sz:=4) (xs:=[]) (by simp only[Qa,seval]) (by simp only[Qa,seval]) (by simp) (by decide) hr ?_;simp only[hng,Pq,eE,seval]
  try simp[AV.still,AV.un,ZE,XO]
theorem QlQ (xs:List AV)(fr:Nat→Ob)(m:Qj)(h:xs.all (fun e=>e.cells.length==8)=true)(hn:xs.length≤1000000)(hr:Qo (fr 1000)=true) :
  Qe Tryz.prog 159 [.list xs] (fr :: m) (fun x m1=>x=.vec 0 1000 (XP (fr 1000)) 0 xs.length false∧m1=QI fr 1000 (.vec (XP (fr 1000)) 8 xs) :: m):=by
 have hng:Qy (fr :: m) 0 1000=XP (fr 1000):=Kv;refine EL.go (by simp) ?_;simp only[R2,V4,V5,Qa,seval];refine J1 (ys:=xs) (by simp only[Qa,seval]) ?_ ?_
 ·simp only[V7,Qa,seval];refine Jn rfl ?_;simp only[Qa,seval];refine QK (site:=5) (g:=1) (xs:=[]) (ys:=xs) rfl rfl rfl rfl rfl h (by simp[maxLen];omega) (by simp;omega) ?_;simp only[Qa,seval];refine Zw (l:=0) (site:=5) (g:=2) (o:=0) (n:=xs.length) (q:=false) (sz:=8) (xs:=xs) (by simp only[Qom,Qa,seval]) (by simp only[Qa,seval]) (by simp) (by decide) hr ?_;simp only[hng,BZ,eE,seval]
  try simp[AV.still,AV.un,ZE,XO]
 ·intro he;have hx:xs=[]:=by
   rcases he with he|he
   ·exact he
   ·exact GZ (by decide) h he
  subst hx;simp only[V6,Qa,seval];refine ZG (by simp only[Qa,seval]) rfl ?_;simp only[Qa,seval];refine Zw (l:=0) (site:=2) (g:=1) (o:=0) (n:=0) (q:=false) (sz:=8) (xs:=[]) (by simp only[Qa,seval]) (by simp only[Qa,seval]) (by simp) (by decide) hr ?_;simp only[hng,BZ,eE,seval]
  try simp[AV.still,AV.un,ZE,XO]
theorem QlR (xs:List AV)(fr:Nat→Ob)(m:Qj)(h:xs.all (fun e=>e.cells.length==14)=true)(hn:xs.length≤1000000)(hr:Qo (fr 1000)=true) :
  Qe Tryz.prog 213 [.list xs] (fr :: m) (fun x m1=>x=.vec 0 1000 (XP (fr 1000)) 0 xs.length false∧m1=QI fr 1000 (.vec (XP (fr 1000)) 14 xs) :: m):=by
 have hng:Qy (fr :: m) 0 1000=XP (fr 1000):=Kv;refine EM.go (by simp) ?_;simp only[R3,V8,V9,Qa,seval];refine J1 (ys:=xs) (by simp only[Qa,seval]) ?_ ?_
 ·simp only[Cb,Qa,seval];refine Jn rfl ?_;simp only[Qa,seval];refine QK (site:=5) (g:=1) (xs:=[]) (ys:=xs) rfl rfl rfl rfl rfl h (by simp[maxLen];omega) (by simp;omega) ?_;simp only[Qa,seval];refine Zw (l:=0) (site:=5) (g:=2) (o:=0) (n:=xs.length) (q:=false) (sz:=14) (xs:=xs) (by simp only[Qom,Qa,seval]) (by simp only[Qa,seval]) (by simp) (by decide) hr ?_;simp only[hng,B0,eE,seval]
  try simp[AV.still,AV.un,ZE,XO]
 ·intro he;have hx:xs=[]:=by
   rcases he with he|he
   ·exact he
   ·exact GZ (by decide) h he
  subst hx;simp only[Ca,Qa,seval];refine ZG (by simp only[Qa,seval]) rfl ?_;simp only[Qa,seval];refine Zw (l:=0) (site:=2) (g:=1) (o:=0) (n:=0) (q:=false) (sz:=14) (xs:=[]) (by simp only[Qa,seval]) (by simp only[Qa,seval]) (by simp) (by decide) hr ?_;simp only[hng,B0,eE,seval]
  try simp[AV.still,AV.un,ZE,XO]
end Go.Proofs.YtgnfjkkfbcnbfaaGreatDoor.Cl
namespace Go.Proofs.YtgnfjkkfbcnbfaaGreatDoor.Ew
open Go Am Rc Cl
def nat:YJ:=fun k args m=>
 if k=71 then G0 4 args m
 else if k=159 then G0 8 args m
 else if k=213 then G0 14 args m
 else none
theorem nat_ok:YQ Tryz.prog nat:=by
 intro k args m v m' h;unfold nat at h;split at h
 ·rename_i e;subst e;exact G3 c71 h
 split at h
 ·rename_i e;subst e;exact G3 QlQ h
 split at h
 ·rename_i e;subst e;exact G3 QlR h
 ·cases h
theorem Es:evT nat Ev.tab 2000 7 []=true:=by decide +kernel
theorem Ft:Qg Tryz.prog 7 [] (.bool true):=RV nat_ok Ev.Qe2 Es
end Go.Proofs.YtgnfjkkfbcnbfaaGreatDoor.Ew
namespace Go.Proofs.YtgnfjkkfbcnbfaaGreatDoor.Va
open Go Am Rc Bt Br Up So Vp Cp
theorem Qgm (v:V)(hc:v.cnt≤1048576):Qg Tryz.prog 13 [v.av,v.av] (.bool true):=by
 have c1:=IE v hc;have d0:((0:Int)==0)=true:=rfl;have c2:Qg Tryz.prog 26 [v.av,v.av] (.bool true):=by
  rw[Qc]at c1 ⊢;refine wF Tryz.func26 ?_;simp only[eK,Tryz.f26,seval];simp only[eE,seval];refine aC c1 ?_;simp only[d0,Qa,seval]
 rw[Qc]at c2 ⊢;refine wF Tryz.func13 ?_;simp only[eK,Tryz.f13,seval];simp only[eE,seval];refine aC c2 ?_;simp only[Qa,seval]
theorem I9 {M:Nat}(P:PL)(hP:P.ok M)(hM:M≤140737488351232):Qg Tryz.prog 4 [P.av] (.bool (decide ((P.progs.length:Int)≤8)&&decide ((P.enums.length:Int)≤8)&&ck P==0)):=by
 have e0:=zq P;have ct:=z14 P hP hM;rw[e0]at ct;refine wF Tryz.func4 ?_;simp only[eK,Tryz.f4,seval];simp only[e0,QoS,eE,seval];cases a1:decide ((P.progs.length:Int)≤8)
 ·simp only[Qpu,Qa,seval]
 cases a2:decide ((P.enums.length:Int)≤8)
 ·simp only[a2,QpE,Qpu,QoS,eE,seval]
 simp only[a2,QpE,QoS,eE,seval];refine aC ct ?_;simp only[Qa,seval]
section
variable {M:Nat}(P:PL)(hP:P.ok M)(h1:3000≤M)(hM:M≤140737488351232)(s:List UInt8)(l:L)(hl1:l.dp<9223372036854775808)(hl2:l.nd<9223372036854775808)
end
theorem Qda {P:PL}(h:ck P=0):Qgk P:=by
 unfold ck at h;split at h
 ·omega
 split at h
 ·omega
 rename_i hn;have hn:F9 P=true:=by simpa using hn
 unfold F9 at hn;simp only[Qol,Qoa]at hn;refine⟨fun g hg=>?_,fun e he=>?_⟩
 ·have:=hn.1 g hg;unfold Wa WJ at this;simp only[Qol,Qn1]at this;omega
 ·have:=hn.2 e he;unfold UX WJ at this;simp only[Qol,Qn1]at this;omega
def lss (l:L):Nat→L
 |0=>⟨l.b-1,l.dp,l.nd,l.tx⟩
 |1=>⟨l.b,l.dp-1,l.nd,l.tx⟩
 |2=>⟨l.b,l.dp,l.nd-1,l.tx⟩
 |_=>⟨l.b,l.dp,l.nd,l.tx-1⟩
def UU (l:L)(i:Nat):Nat:=if (lss l i).b<0∨(lss l i).tx<0 then 1 else if i=1 then 17 else 3
section
variable {M:Nat}{P:PL}(hP:P.ok M)(hk:ck P=0){s:List UInt8}{y:V}(ht:0≤QS s P∧QS s P<(P.progs.length:Int))(hm:Xp P 16 (Qk P (QS s P)) y=0)(oy:y.ok M)(cy:y.cnt≤1048576)(ny:nrm P 16 (Qk P (QS s P)) y=y){N:Nat}(hN:16≤N)
  (hl:(XD P 16 (QS s P) y).length≤3000)
include hP hk ht hm oy cy ny hN hl in
theorem Qgn:DW P N s (XD P 16 (QS s P) y) ⟨((XD P 16 (QS s P) y).length:Int),(y.dep:Int),(y.cnt:Int),(y.lgt:Int)⟩=(y,0):=by
 have hd:=Dx y;rcases Ro hP hk ht hm oy cy ny hN hl ⟨((XD P 16 (QS s P) y).length:Int),(y.dep:Int),(y.cnt:Int),(y.lgt:Int)⟩ (by dsimp only;omega) (by dsimp only;omega) ⟨by dsimp only;omega,by dsimp only;omega,by dsimp only;omega,by dsimp only;omega,by dsimp only;omega⟩with h|h|h
 ·exact h.1
 ·dsimp only at h;omega
 ·dsimp only at h;omega
include hP hk ht hm oy cy ny hN hl in
theorem La (i:Nat)(hi:i<4):DW P N s (XD P 16 (QS s P) y) (lss ⟨((XD P 16 (QS s P) y).length:Int),(y.dep:Int),(y.cnt:Int),(y.lgt:Int)⟩ i)=(QD 0 0 [],UU ⟨((XD P 16 (QS s P) y).length:Int),(y.dep:Int),(y.cnt:Int),(y.lgt:Int)⟩ i):=by
 have hd:=Dx y;have hcp:=Za y;have hkd:y.kd=10:=by
  have:=(ZH (n:=15)).1 hm;exact this.1.1
 have hdep:1≤y.dep:=by rw[W0,Qn5 hkd];omega
 have hout:=Ro hP hk ht hm oy cy ny hN hl;generalize XD P 16 (QS s P) y=D at hl hout ⊢;unfold UU;split
 ·rename_i h;exact Qc7 ht.1 h
 rename_i h;obtain rfl|rfl|rfl|rfl:i=0∨i=1∨i=2∨i=3:=by omega
 ·rw[Qn4 (by decide)];simp only[lss]at h ⊢;exact Qc8 ht.1 (by dsimp only;omega) (by dsimp only;omega)
 ·rw[Qn5 rfl];simp only[lss]at h ⊢;rcases hout ⟨(D.length:Int),(y.dep:Int)-1,(y.cnt:Int),(y.lgt:Int)⟩ (by dsimp only;omega) (by dsimp only;omega) ⟨by dsimp only;omega,by dsimp only;omega,by dsimp only;omega,by dsimp only;omega,by dsimp only;omega⟩with g|g|g
  ·dsimp only at g;omega
  ·dsimp only at g;omega
  ·exact g.1
 ·rw[Qn4 (by decide)];simp only[lss]at h ⊢;rcases hout ⟨(D.length:Int),(y.dep:Int),(y.cnt:Int)-1,(y.lgt:Int)⟩ (by dsimp only;omega) (by dsimp only;omega) ⟨by dsimp only;omega,by dsimp only;omega,by dsimp only;omega,by dsimp only;omega,by dsimp only;omega⟩with g|g|g
  ·dsimp only at g;omega
  ·exact g.1
  ·dsimp only at g;omega
 ·rw[Qn4 (by decide)];simp only[lss]at h ⊢;rcases hout ⟨(D.length:Int),(y.dep:Int),(y.cnt:Int),(y.lgt:Int)-1⟩ (by dsimp only;omega) (by dsimp only;omega) ⟨by dsimp only;omega,by dsimp only;omega,by dsimp only;omega,by dsimp only;omega,by dsimp only;omega⟩with g|g|g
  ·dsimp only at g;omega
  ·exact g.1
  ·dsimp only at g;omega
end
theorem Qdb {P:PL}{s:List UInt8}{v:V}(h:(Fs P s v).2=0):(0≤QS s P∧QS s P<(P.progs.length:Int))∧WZ P (QS s P) v=0∧(Fs P s v).1=XD P 16 (QS s P) v:=by
 unfold Fs at h ⊢;rcases UT s P with hx|hx
 ·rw[Qn5 (by omega)]at h;cases h
 rw[Qn4 (by omega)]at h ⊢;by_cases hf:WZ P (QS s P) v=0
 case neg=>
  rw[Qn5 hf]at h;exact absurd h hf
 rw[Qn4 (fun g=>g hf)]at h ⊢;split at h
 ·cases h
 ·rename_i h1;rw[Qn4 h1];exact⟨hx,hf,rfl⟩
def QlS (P:PL)(s x:List UInt8)(l:L)(k:Nat)(st:St):Prop :=
 ∃f fr i,st=⟨f,[fr],[]⟩∧k=4-i∧i≤4∧f 1=.str s∧f 3=.ptr 0 3 0∧f 7=.str x∧f 12=.ptr 0 12 0∧f 14=.int .i64 (i:Nat)∧fr 3=.cells (Zs P)∧fr 12=.cells [.int .i64 l.b,.int .i64 l.dp,.int .i64 l.nd,.int .i64 l.tx]∧∀q∈[17,15],(fr q).isRow=false
section
variable {M:Nat}(P:PL)(hP:P.ok M)(h1:3000≤M)(hM:M≤140737488351232)(s:List UInt8)(v:V)(hv:v.ok M)(hb:v.cnt≤1048576)
include hP h1 hM hv hb in
theorem c3:Qg Tryz.prog 3 [P.av,.str s,v.av] (.bool true):=by
 obtain⟨N,hN⟩:∃N,3000<N:=⟨3001,by omega⟩;have c1:=I9 P hP hM;have c2:=v5 v hv;have c3:=fun(hk:ck P=0)=>t6 hM P hP (Qda hk) hk s v hv hb
 have c4:=y8 P hP.len1 s;unfold Bf at c4;rw[show Zo (fun g:PG=>g.name==s) P.progs 0=QS s P from rfl]at c4;have hen:=Qdb (P:=P) (s:=s) (v:=v);have w0:IntKind.i64.wrap (v.cnt:Int)=(v.cnt:Int):=by rw[Qz];omega
 rw[w0]at c2;rw[show P.av=.agg (Zs P)from rfl]at c1 c3 c4;rw[Qc v]at c2 c3;rw[show P.av=.agg (Zs P)from rfl,Qc v];simp only[Zs]at c1 c3 c4;refine k3.fn (by simp) ?_;simp only[Qfy,Qfz,QfA,QfB,QfC,QfD,QfE,QfF,QfG,QfH,QaB,QaC,QaD,QaV,r3,o3,Zs,eE,seval];refine aC c1 ?_;cases a1:(decide ((P.progs.length:Int)≤8)&&decide ((P.enums.length:Int)≤8)&&ck P==0)
 ·simp only[Qa,seval]
 have hk:ck P=0:=by
  simp only[Qol,Qn2]at a1;exact a1.2
 simp only[eE,seval];refine aC c2 ?_;by_cases hc:v.cnt≤1000
 case neg=>
  have d1:decide ((v.cnt:Int) > 1000)=true:=QpY (by omega);simp only[d1,Qa,seval]
 have d1:decide ((v.cnt:Int) > 1000)=false:=QpQ (by omega);simp only[d1,eE,seval];refine aC (c3 hk) ?_;generalize Fs P s v=q at hen;obtain⟨x,e⟩:=q;dsimp only at hen ⊢;by_cases he:e=0
 case neg=>
  have b0:(e != 0)=true:=by simp[he]
  simp only[b0,Qa,seval];refine aC Ew.Ft ?_;simp only[Qa,seval]
 have b0:(e != 0)=false:=by simp[he]
 by_cases hx:x.length≤3000
 case neg=>
  have d2:decide ((x.length:Int) > 3000)=true:=QpY (by omega);simp only[b0,d2,Qa,seval];refine aC Ew.Ft ?_;simp only[Qa,seval]
 have d2:decide ((x.length:Int) > 3000)=false:=QpQ (by omega);obtain⟨ht,hf,hxe⟩:=hen he;obtain⟨_,hm⟩:=BS hf;have hU:=Yz hk;have hr:=J4 hk;have hg:Qk P (QS s P)∈P.progs:=P5 ht;have g0:decide (QS s P≥0)=true:=QpY ht.1;rw[Qn4 (by omega),g0]at c4;have c5:=v9 (M:=M) hU hr (Mr hk) 16 (QS s P) (Qk P (QS s P)) (Er ht) ht.1 v hv hb (YT _ _ _ hm);have oy:=Mq (Qa0 hP (Mr hk)) 16 (QS s P) v hv;have cy:=Y3 hr 16 _ (Wo hr (QS s P)) v;have my:=Uk hU hr 16 _ hg v hm;have ny:=HQ hU hr 16 _ hg v hm;have hbe:XD P 16 (QS s P) (nrm P 16 (Qk P (QS s P)) v)=x:=by rw[hxe,XD,XD,ny]
 generalize nrm P 16 (Qk P (QS s P)) v=y at c5 oy cy my ny hbe;have cy':y.cnt≤1048576:=QnU cy hb;have hl:(XD P 16 (QS s P) y).length≤3000:=by rw[hbe];exact hx
 have c6:=v10 y oy cy';have c7:=v5 y oy;have c8:=v11 y oy;have w1:IntKind.i64.wrap (y.cnt:Int)=(y.cnt:Int):=by rw[Qz];omega
 rw[w1]at c7;have hdc:=Dx y;have lok:=Qgn hP hk ht my oy cy' ny (N:=N) (by omega) hl;have lls:=La hP hk ht my oy cy' ny (N:=N) (by omega) hl;rw[hbe]at lok lls;have c9:=j12 (N:=N) h1 P hP hk hN s x ⟨(x.length:Int),(y.dep:Int),(y.cnt:Int),(y.lgt:Int)⟩ hx (by dsimp only;omega) (by dsimp only;omega);have c10:=Qgm y cy';have c11:=fun(i:Nat) (hi:i<4)=>j12 (N:=N) h1 P hP hk hN s x (lss ⟨(x.length:Int),(y.dep:Int),(y.cnt:Int),(y.lgt:Int)⟩ i) hx (by unfold lss;split<;>dsimp only<;>omega) (by unfold lss;split<;>dsimp only<;>omega)
 rw[lok]at c9;have z0:(QD 0 0 []).av=.agg [.int .i64 0,.int .u64 0,.str [],.list [],.list [],.list [],.list []]:=Qc _;simp only[ov]at c9 c11;rw[show P.av=.agg (Zs P)from rfl]at c5 c9 c11;rw[Qc v,Qc y]at c5;rw[Qc y]at c6 c7 c8 c9 c10;simp only[Zs,L.av]at c5 c9 c11;simp only[b0,d2,eE,seval];refine aC c4 ?_;simp only[eE,seval];refine aC c5 ?_;simp only[eE,seval];refine aC c6 ?_;simp only[eE,seval];refine aC c7 ?_;simp only[eE,seval];refine aC c8 ?_;simp only[eE,seval];refine aC c9 ?_;simp only[eE,seval];refine aC c10 ?_;simp only[Qa,seval];refine Qi (QlS P s x ⟨(x.length:Int),(y.dep:Int),(y.cnt:Int),(y.lgt:Int)⟩) _ ⟨_,_,0,rfl,rfl,Qn6 _,rfl,rfl,rfl,rfl,rfl,rfl,rfl,(by
   intro q hq;simp only[Qpk,Qqc,or_false]at hq;rcases hq with rfl|rfl<;>rfl)⟩ ?_
 rintro _ st ⟨f0,fr0,i,rfl,rfl,hi4,h10,h30,h70,h120,h140,m30,m120,r0⟩;refine QL (a:=_) [17,15] r0 ?_;intro f fr hf hmm hn;have h1':f 1=.str s:=by rw[hf,h10]<;>rfl
 have h3:f 3=.ptr 0 3 0:=by rw[hf,h30]<;>rfl
 have h7:f 7=.str x:=by rw[hf,h70]<;>rfl
 have h12:f 12=.ptr 0 12 0:=by rw[hf,h120]<;>rfl
 have h14:f 14=.int .i64 (i:Nat):=by rw[hf,h140]<;>rfl
 have m3':fr 3=.cells (Zs P):=by rw[hmm 3 (by decide),m30]<;>rfl
 have m12':fr 12=.cells [.int .i64 (x.length:Int),.int .i64 (y.dep:Int),.int .i64 (y.cnt:Int),.int .i64 (y.lgt:Int)]:=by rw[hmm 12 (by decide),m120]<;>rfl
 have n17:=hn 17 (by decide);have n15:=hn 15 (by decide);clear hf hmm hn h10 h30 h70 h120 h140 m30 m120 r0;have m3:=m3';simp only[Zs]at m3;simp only[QaE,QaF,QaG,QaH,QaI,QaJ,QaK,QaL,QaM,QaN,QaO,QaP,QaQ,QaR,QaS,QaT,QaU,h14,Qa,seval];by_cases hlt:i<4
 case neg=>
  have d3:decide ((i:Int)<4)=false:=QpQ (by omega);simp only[d3,Qa,seval];refine aC Ew.Ft ?_;simp only[Qa,seval]
 have d3:decide ((i:Int)<4)=true:=QpY (by omega);have cc:=c11 i hlt;rw[lls i hlt]at cc;have s1:IntKind.i64.wrap ((x.length:Int)-1)=(x.length:Int)-1:=by rw[Qz];omega
 have s2:IntKind.i64.wrap ((y.dep:Int)-1)=(y.dep:Int)-1:=by rw[Qz];omega
 have s3:IntKind.i64.wrap ((y.cnt:Int)-1)=(y.cnt:Int)-1:=by rw[Qz];omega
 have hlg:=Qgh y oy;have s4:IntKind.i64.wrap ((y.lgt:Int)-1)=(y.lgt:Int)-1:=by rw[Qz];omega
 have e1:IntKind.i64.wrap ((i:Int)+1)=((i+1:Nat):Int):=by rw[Qz];omega
 -- four trials: less of the bytes, the levels, the values, the text
 obtain rfl|rfl|rfl|rfl:i=0∨i=1∨i=2∨i=3:=by omega
 ·by_cases hz:x.length=0
  ·have hw:UU ⟨(x.length:Int),(y.dep:Int),(y.cnt:Int),(y.lgt:Int)⟩ 0=1:=by
    unfold UU;simp only[lss];rw[Qn5 (by omega)]
   rw[hw]at cc;simp only[lss,z0]at cc;have t0:decide ((x.length:Int)-1<0)=true:=QpY (by omega);simp only[t0,s1,h1',h3,h7,h12,h14,m3,m12',n15,eE,seval];refine aC cc ?_;simp only[bne_self_eq_false,h14,n17,eE,seval];exact⟨4-(0+1),by omega,_,_,0+1,rfl,rfl,by omega,h1',h3,h7,h12,rfl,m3',m12',(by
   intro q hq;simp only[Qpk,Qqc,or_false]at hq;rcases hq with rfl|rfl<;>rfl)⟩
  ·have hw:UU ⟨(x.length:Int),(y.dep:Int),(y.cnt:Int),(y.lgt:Int)⟩ 0=3:=by
    unfold UU;simp only[lss];rw[Qn4 (by omega)];rfl
   rw[hw]at cc;simp only[lss,z0]at cc;have t0:decide ((x.length:Int)-1<0)=false:=QpQ (by omega);have t1:decide ((y.lgt:Int)<0)=false:=QpQ (by omega);simp only[t0,t1,s1,h1',h3,h7,h12,h14,m3,m12',n15,eE,seval];refine aC cc ?_;simp only[bne_self_eq_false,h14,n17,eE,seval];exact⟨4-(0+1),by omega,_,_,0+1,rfl,rfl,by omega,h1',h3,h7,h12,rfl,m3',m12',(by
   intro q hq;simp only[Qpk,Qqc,or_false]at hq;rcases hq with rfl|rfl<;>rfl)⟩
 ·have hw:UU ⟨(x.length:Int),(y.dep:Int),(y.cnt:Int),(y.lgt:Int)⟩ 1=17:=by
   unfold UU;simp only[lss];rw[Qn4 (by omega)];rfl
  rw[hw]at cc;simp only[lss,z0]at cc;have t0:decide ((x.length:Int)<0)=false:=QpQ (by omega);have t1:decide ((y.lgt:Int)<0)=false:=QpQ (by omega);simp only[t0,t1,s2,h1',h3,h7,h12,h14,m3,m12',n15,eE,seval];refine aC cc ?_;simp only[bne_self_eq_false,h14,n17,eE,seval];exact⟨4-(1+1),by omega,_,_,1+1,rfl,rfl,by omega,h1',h3,h7,h12,rfl,m3',m12',(by
   intro q hq;simp only[Qpk,Qqc,or_false]at hq;rcases hq with rfl|rfl<;>rfl)⟩
 ·have hw:UU ⟨(x.length:Int),(y.dep:Int),(y.cnt:Int),(y.lgt:Int)⟩ 2=3:=by
   unfold UU;simp only[lss];rw[Qn4 (by omega)];rfl
  rw[hw]at cc;simp only[lss,z0]at cc;have t0:decide ((x.length:Int)<0)=false:=QpQ (by omega);have t1:decide ((y.lgt:Int)<0)=false:=QpQ (by omega);simp only[t0,t1,s3,h1',h3,h7,h12,h14,m3,m12',n15,eE,seval];refine aC cc ?_;simp only[bne_self_eq_false,h14,n17,eE,seval];exact⟨4-(2+1),by omega,_,_,2+1,rfl,rfl,by omega,h1',h3,h7,h12,rfl,m3',m12',(by
   intro q hq;simp only[Qpk,Qqc,or_false]at hq;rcases hq with rfl|rfl<;>rfl)⟩
 ·by_cases hz:y.lgt=0
  ·have hw:UU ⟨(x.length:Int),(y.dep:Int),(y.cnt:Int),(y.lgt:Int)⟩ 3=1:=by
    unfold UU;simp only[lss];rw[Qn5 (by omega)]
   rw[hw]at cc;simp only[lss,z0]at cc;have t0:decide ((x.length:Int)<0)=false:=QpQ (by omega);have t1:decide ((y.lgt:Int)-1<0)=true:=QpY (by omega);simp only[t0,t1,s4,h1',h3,h7,h12,h14,m3,m12',n15,eE,seval];refine aC cc ?_;simp only[bne_self_eq_false,h14,n17,eE,seval];exact⟨4-(3+1),by omega,_,_,3+1,rfl,rfl,by omega,h1',h3,h7,h12,rfl,m3',m12',(by
   intro q hq;simp only[Qpk,Qqc,or_false]at hq;rcases hq with rfl|rfl<;>rfl)⟩
  ·have hw:UU ⟨(x.length:Int),(y.dep:Int),(y.cnt:Int),(y.lgt:Int)⟩ 3=3:=by
    unfold UU;simp only[lss];rw[Qn4 (by omega)];rfl
   rw[hw]at cc;simp only[lss,z0]at cc;have t0:decide ((x.length:Int)<0)=false:=QpQ (by omega);have t1:decide ((y.lgt:Int)-1<0)=false:=QpQ (by omega);simp only[t0,t1,s4,h1',h3,h7,h12,h14,m3,m12',n15,eE,seval];refine aC cc ?_;simp only[bne_self_eq_false,h14,n17,eE,seval];exact⟨4-(3+1),by omega,_,_,3+1,rfl,rfl,by omega,h1',h3,h7,h12,rfl,m3',m12',(by
   intro q hq;simp only[Qpk,Qqc,or_false]at hq;rcases hq with rfl|rfl<;>rfl)⟩
end
theorem Rq:∀r:List R,r.length≤Z3 (r.map R.av)
 | []=>QnV _
 |x :: r=>by
  have:=Rq r;simp only[Qov,Qoc,Z3,wt,R.av];omega
mutual
theorem G4:∀v:V,v.cnt≤Z3 v.cells
 |.mk k b t l p s r=>by
  have h1:=Rr l;have h2:=Rs p;have h3:=Ru s;have h4:=Rq r;rw[V.cells,V.cnt];simp only[Z3,wt];omega
theorem Rr:∀l:List V,Q6 l≤Z3 (V.cl l)
 | []=>QnV _
 |x :: l=>by
  have h1:=G4 x;have h2:=Rr l;rw[V.cl,Q6];simp only[Z3,wt];omega
theorem Rs:∀l:List (V×V),Xd l≤Z3 (V.cp l)
 | []=>QnV _
 |(a,b) :: l=>by
  have h1:=G4 a;have h2:=G4 b;have h3:=Rs l;rw[V.cp,Xd];simp only[Z3,wt,B8];omega
theorem Ru:∀l:List (Int×V),Q9 l≤Z3 (V.cs l)
 | []=>QnV _
 |(n,a) :: l=>by
  have h1:=G4 a;have h3:=Ru l;rw[V.cs,Q9];simp only[Z3,wt];omega
end
end Go.Proofs.YtgnfjkkfbcnbfaaGreatDoor.Va

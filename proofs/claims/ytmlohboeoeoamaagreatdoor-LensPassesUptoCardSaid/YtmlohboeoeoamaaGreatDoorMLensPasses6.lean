import Derived.Test.YtmlohboeoeoamaaGreatDoorMLensPasses5
set_option linter.defProp false
set_option linter.unusedSectionVars false
set_option linter.unusedVariables false
namespace Go.Proofs.YtmlohboeoeoamaaGreatDoor
open Go.Proofs.Tryz
set_option linter.unusedSimpArgs false
namespace Va
open Go Am Rc Bt Br Up So Vp Cp
def G8 {P:PL}{k tg:Int}{x:V}(hx:x.one P k tg=0)(n:Int):(XF n x).wire=wk k/\0<=wk k/\wk k<=3:=by
 obtain⟨a1,a2,a3,_⟩:=KJ hx;show(Q2 x.kd x.bits x.text).wire=_/\_;rw[a1];rcases H7 ⟨a2,a3⟩ x.bits x.text with⟨p,q,_⟩|⟨p,q,_⟩|⟨p,q,_⟩|⟨p,q,_⟩<;>rw[p,q]<;>exact⟨rfl,ϊ,ϊ⟩
def V2 {M:Nat}{P:PL}{k tg:Int}{x:V}(hx:x.one P k tg=0)(ox:x.ok M){n:Int}{c d:C}{f:R}(hc:CT c){s:List UInt8}(h:c.rest=body (XF n x)++s)(hr:Je (wk k) c=.ok (f,d)) :
  f=⟨0,wk k,(Q2 x.kd x.bits x.text).bits,(Q2 x.kd x.bits x.text).data⟩/\As c d/\d.left+(body (XF n x)).length=c.left:=by
 obtain⟨w1,w2,w3⟩:=G8 hx n;have hb:=Y4 (k:=x.kd) (P8 ox) x.text;refine⟨?_,(Yq hc.ci hr).1,LG hc (by rw[w1];exact w3) (by rw[w1];exact w2) hb h (by rw[w1];exact hr)⟩;obtain⟨a1,a2,a3,a4,a5,a6,a7,a8⟩:=KJ hx;have cT:body (XF n x)=if (Q2 x.kd x.bits x.text).wire=2 then fx 8 (Q2 x.kd x.bits x.text).bits else if Xx (Q2 x.kd x.bits x.text).wire then Vp.put (Q2 x.kd x.bits x.text).bits else Vp.put (Q2 x.kd x.bits x.text).data.length++(Q2 x.kd x.bits x.text).data:=rfl
 rw[cT]at h;rw[a1]at h hb |-;unfold Je at hr;rcases H7 ⟨a2,a3⟩ x.bits x.text with⟨w,e,h3⟩|⟨w,e,h3⟩|⟨w,e,h3⟩|⟨w,e,h3⟩
 ·exact O3
 ·exact O3
 ·rw[e]at h hb |-;dsimp only at h hb |-;rw[Qnj rfl]at h;rw[w,Qni ϊ,Qnj rfl,Lt hc hb h,Qnj rfl]at hr;cases hr;rw[w]
 ·rw[e]at h |-;dsimp only at h |-;rw[Qni ϊ,Qni ϊ]at h;rw[Qnw]at h;rw[w,Qnj rfl,H5 hc h]at hr;dsimp only at hr;have bj:=KO hc h 0;generalize Jj c (Vp.put x.text.length).length 0=c1 at hr bj;split at hr
  ·rename_i ht;cases hr;have hl:¬c1.left<(x.text.length:Int):=by rw[Q0,bj,QnP];omega
   have hx:¬c1.tx<(x.text.length:Int):=by
    intro aa;unfold text at ht;rw[Qni ψ,Qni hl,Qnj aa]at ht;cases ht
   have e1:(text c1 (x.text.length:Int)).1=x.text:=by
    unfold text;rw[Qni ψ,Qni hl,Qni hx];dsimp only;rw[bj,QoF,List.take_left' rfl]
   rw[e1,w]
  ·cases hr
def Ek (M n:Nat)(P:PL)(m:PG->V->Int)(nm:PG->V->V)(bd:Int->V->List UInt8)(rec:Int->V->C->Rd V):Prop :=
 ∀(t:Int) (y:V),(0<=t/\t<(P.progs.length:Int))->m (Qe P t) y=0->y.ok M->y.cnt<=1048576->nm (Qe P t) y=y->∀c:C,CT c->65536<=c.tx->c.left<n->c.rest=bd t y->∀w d,rec t (QC 10 0 []) c=.ok (w,d)->w=y
section
variable {M:Nat}{P:PL}{g:PG}{o:PO}{S:List (Int×V)}{rs:List R}(hS:∀s∈S,Xg g o s=false)
include hS in
theorem RX {x:V}(hx:x.one P o.kind o.target=0)(ox:x.ok M)(nx:x.nsc=x){cur:Option V}{n:Int}{c d:C}{w:V}(hc:CT c){s:List UInt8}(h:c.rest=body (XF n x)++s)(hr:ZY P g (KA S rs o.num cur) o c=.ok (w,d)):w=KA S rs o.num (some (H8 o cur x)):=by
 have fQ:=BG hx ox nx;unfold ZY at hr;rw[UA hS,show QK (KA S rs o.num cur) o.num=cur.getD (QC 0 0 [])by unfold QK;rw[UA hS]]at hr;split at hr
 ·cases hr
 rename_i c1 h1;obtain⟨s1,s2,s3⟩:=J4 h1;have ao:CT c1:=⟨(Xm hc.ci ψ h1).1.ci hc.ci,by rw[s3];exact hc.tx⟩;split at hr
 ·cases hr
 rename_i f d1 h2;rw[(V2 hx ox ao (by rw[s1];exact h) h2).1,fQ]at hr;dsimp only at hr;rw[Qni ϊ,Qnj rfl]at hr;unfold H8;split at hr
 ·rename_i h4;rw[Qnj h4];split at hr
  ·cases hr;exact WV hS _ _
  ·split at hr
   ·cases hr
   ·cases hr;exact WV hS _ _
 ·rename_i h4;rw[Qni h4];cases hr;exact WV hS _ _
include hS in
theorem CU (hp:pk o.card o.kind=true):∀(l done:List V) (fuel:Nat) (c d:C) (w:V),(∀x∈l,x.one P o.kind o.target=0/\x.ok M/\x.nsc=x)->CT c->l.length<=fuel->c.rest=l.flatMap (WH (wk o.kind))->ZS P g o fuel (KA S rs o.num (some (Xa done))) c=.ok (w,d)->w=KA S rs o.num (some (Xa (done++l)))
 | [],done,fuel,c,d,w,_,hc,_,h,hr=>by
  have hl:c.left=0:=by rw[Q0,h];rfl
  rw[Qof];cases fuel with
  |zero=>cases hr;rfl
  |succ k=>
   rw[ZS,Qni ψ]at hr;cases hr;rfl
 |x :: l,done,fuel,c,d,w,hl,hc,hf,h,hr=>by
  obtain⟨fuel,rfl⟩:∃k,fuel=k+1:=⟨fuel-1,by simp only[Qnq]at hf;omega⟩;obtain⟨h1,h2,h3⟩:=hl x ό;have hb:=Rl hp 0 (KJ h1).1;rw[QoH,<-hb]at h;have aq:0<(body (XF 0 x)).length:=by
   rw[hb];exact Qoy.2 (Ls _ _)
  rw[ZS,Qnj (by rw[Q0,h,QnP];omega)]at hr;split at hr
  ·cases hr
  rename_i v1 c1 hv;have e1:=RX hS h1 h2 h3 hc h hv;obtain⟨w1,w2,w3⟩:=G8 h1 0;have c_:=Td (f:=XF 0 x) hc w1 (by rw[w1];exact w3) (by rw[w1];exact w2) (Y4 (k:=x.kd) (P8 h2) x.text) h hv;obtain⟨r1,r2,_⟩:=GX hc (TJ hc.ci hv).1 h c_;have j_:H8 o (some (Xa done)) x=Xa (done++[x]):=by unfold H8;rw[Qnj (UZ hp).1];rfl
  rw[e1,j_]at hr;have:=CU hp l (done++[x]) fuel c1 d w (λy hy=>hl y ϳ) r1 (by simp only[Qnq]at hf;omega) r2 hr;rw[this,Qnw];rfl
include hS in
theorem L8 (hp:pk o.card o.kind=true){l:List V}(hl:∀x∈l,x.one P o.kind o.target=0/\x.ok M/\x.nsc=x){c d:C}{w:V}(hc:CT c){s:List UInt8}(h:c.rest=body (HJ o l)++s)(hr:JV P g (KA S rs o.num none) o c=.ok (w,d)):w=KA S rs o.num (some (Xa l)):=by
 rw[GV (by show(3:Int)<=5;decide),Qnw]at h;have hd:=WI (k:=0) hc (ZU h) å;have bj:=KO hc h 0;unfold JV at hr;rw[H5 hc h]at hr;dsimp only at hr;generalize Jj c (Vp.put (HJ o l).data.length).length 0=c1 at hd bj hr;obtain⟨_,p2,p3⟩:=S9 hd bj;generalize part c1 (HJ o l).data.length=i at p2 p3 hr;have qQ:i.rest=UInt8.ofNat (wk o.kind).toNat :: l.flatMap (WH (wk o.kind)):=p3;have fi:=WI (k:=0) p2 (n:=1) (by rw[qQ,Qnq];omega) (by have:=p2.ci.nd;omega);have rR:(Jj i 1 0).rest=l.flatMap (WH (wk o.kind)):=by rw[BF p2 0 (by rw[qQ,Qnq];omega),qQ];rfl
 rw[LB p2 qQ]at hr;dsimp only at hr;generalize Jj i 1 0=j at fi rR hr;rw[Qnj rfl,UA hS]at hr;split at hr
 case isFalse=>cases hr
 rw[Qni ϊ]at hr;split at hr
 ·cases hr
 rename_i j1 hj;obtain⟨s1,s2,s3⟩:=J4 hj;have vN:CT j1:=⟨(Xm fi.ci ψ hj).1.ci fi.ci,by rw[s3];exact fi.tx⟩;unfold ZJ at hr;split at hr
 ·cases hr
 rename_i v1 j2 h7;cases hr;rw[WV hS]at h7;have hlen:l.length<=j1.left.toNat:=by
  rw[Q0,s1,rR,QoF];have(m:List V):m.length<=(m.flatMap (WH (wk o.kind))).length:=by
   induction m with
   |nil=>exact Qnk _
   |cons x l ih=>
    have:0<(WH (wk o.kind) x).length:=Qoy.2 (Ls (wk o.kind) (Q2 x.kd x.bits x.text).bits);rw[QoH,QnP,Qnq];omega
  exact this l
 exact CU hS hp l [] _ _ _ _ hl vN hlen (by rw[s1];exact rR) h7
end
section
variable {M K n:Nat}(hM:65536<=M){P:PL}{m:PG->V->Int}{nm:PG->V->V}{bd:Int->V->List UInt8}{rec:Int->V->C->Rd V}(hR:Ek M n P m nm bd rec)(ak:Jq P M K n rec)
include hR in
theorem V3 {t:Int}{y:V}(ht:0<=t/\t<(P.progs.length:Int))(hy:m (Qe P t) y=0)(oy:y.ok M)(cy:y.cnt<=1048576)(ny:nm (Qe P t) y=y){k:Int}(iQ:0<=k){c d:C}{w:V}{s:List UInt8}(z:Cz n c (Vp.put (bd t y).length++(bd t y++s)))(hr:KN rec t (QC 10 0 []) k c=.ok (w,d)):w=y:=by
 obtain⟨hc,fm,aA,h⟩:=z;have hd:=WI (k:=0) hc (ZU h) å;have bj:=KO hc h 0;have hl:=JI hc 0 (ZU h);have hp:=(Vp.put_len (bd t y).length).1;unfold KN at hr;rw[H5 hc h]at hr;dsimp only at hr;have hx:(Jj c (Vp.put (bd t y).length).length 0).tx=c.tx:=rfl;generalize Jj c (Vp.put (bd t y).length).length 0=c1 at hd bj hr hl hx;have hle:((bd t y).length:Int)<=c1.left:=by rw[Q0,bj,QnP];omega
 split at hr
 ·rename_i he;obtain⟨i1,i2,i3⟩:=YM hd.ci hle he;have kw:=i2.dp;rw[i1]at kw;dsimp only at kw;obtain⟨hi,to⟩:=Rk hd bj (q:=c1.dp-1) ψ;have bg:({ c1 with e:=c1.a+((bd t y).length:Int),dp:=c1.dp-1 }:C).left=(bd t y).length:=by rw[Q0,to]
  have yK:({ c1 with e:=c1.a+((bd t y).length:Int),dp:=c1.dp-1 }:C).tx=c1.tx:=rfl;rw[i1]at hr;generalize ({ c1 with e:=c1.a+((bd t y).length:Int),dp:=c1.dp-1 }:C)=i at hi to bg yK hr;split at hr
  ·cases hr
  rename_i j h2;obtain⟨s1,s2,s3⟩:=J4 h2;split at hr
  ·cases hr
  rename_i x j2 h3;cases hr;exact hR t y ht hy oy cy ny j ⟨(Xm hi.ci iQ h2).1.ci hi.ci,by rw[s3];exact hi.tx⟩ ψ ψ (by rw[s1];exact to) _ _ h3
 ·cases hr
variable {g:PG}{o:PO}(ho:UO P o){S:List (Int×V)}{rs:List R}(hS:∀s∈S,Xg g o s=false)
theorem RY {n:Int}{x:V}(hx:QS m P o x=0):(Q3 bd o n x).wire=wk o.kind/\wk o.kind≠5/\0<=wk o.kind/\wk o.kind<=4:=by
 unfold Q3;unfold QS at hx;by_cases hk:o.kind=10
 ·rw[Qnj hk,hk];exact⟨rfl,ϊ,ϊ,ϊ⟩
 ·rw[Qni hk]at hx |-;obtain⟨a,b,c⟩:=G8 hx n;exact⟨a,ψ,ψ,ψ⟩
include hR ho hS in
theorem QbF {l:Int}{x:V}(hx:QS m P o x=0)(ox:x.ok M)(cx:x.cnt<=1048576)(nx:Xv nm P o x=x){cur:Option V}(mD:o.card≠4->cur=none)(h5:o.card≠5){c d:C}{w:V}{s:List UInt8}(z:Cz n c (body (Q3 bd o l x)++s))(hr:XV P rec g (KA S rs o.num cur) o (Q3 bd o l x).wire c=.ok (w,d)):w=KA S rs o.num (some (H8 o cur x)):=by
 obtain⟨w1,w2,_⟩:=RY (bd:=bd) (n:=l) hx;unfold XV at hr;rw[Qni h5,w1,Qni (λh=>w2 h.1),Qnj rfl]at hr;unfold QS at hx;unfold Xv at nx;by_cases hk:o.kind=10
 ·rw[Qnj hk]at hx nx hr;have z':=z;rw[BH l x hk,Qnw]at z';unfold JL at hr;rw[UA hS,show QK (KA S rs o.num cur) o.num=cur.getD (QC 0 0 [])by unfold QK;rw[UA hS]]at hr;unfold H8;split at hr
  ·rename_i h4;rw[Qnj h4];split at hr
   ·cases hr
   rename_i v1 c1 h1;cases hr;rw[V3 hR (ho.tgt hk) hx ox cx nx Ü z' h1];exact WV hS _ _
  ·rename_i h4;rw[Qni h4];have mL:=mD h4;subst mL;rw[Qni ϊ]at hr;split at hr
   ·cases hr
   rename_i v1 c1 h1;cases hr;rw[V3 hR (ho.tgt hk) hx ox cx nx ψ z' h1];exact WV hS _ _
 ·rw[Qni hk]at hx nx hr;have he:Q3 bd o l x=XF l x:=by unfold Q3;rw[Qni hk]
  rw[he]at z;exact RX hS hx ox nx z.ct z.rest hr
include hM hR ak in
theorem QbG {t:Int}{y:V}(ht:0<=t/\t<(P.progs.length:Int))(hy:m (Qe P t) y=0)(oy:y.ok M)(cy:y.cnt<=1048576)(ny:nm (Qe P t) y=y){c d:C}{w:V}{s:List UInt8}(z:Cz n c (Vp.put (bd t y).length++(bd t y++s)))(hb:(1:Int)+3*c.left<=K)(hr:KN rec t (QC 10 0 []) 0 c=.ok (w,d)):w=y/\d.left+((Vp.put (bd t y).length).length+(bd t y).length:Nat)=c.left:=by
 refine⟨V3 hR ht hy oy cy ny (QoC 0) z hr,?_⟩;obtain⟨q,c1,h1,h2⟩:=D5 ak ht (QoC 0) z.ct.ci z.le (λhn=>Xq hn) (XG rfl ϊ (Qnk _)) ϫ hr;obtain⟨e1,e2,_⟩:=LF z.ct z.rest h1;subst e1;omega
include hM hR ak ho in
theorem QbH (bf:(Lit.int .i64 o.kind).wf=true){l:Int}{x:V}(hx:QS m P o x=0)(ox:x.ok M)(cx:x.cnt<=1048576)(nx:Xv nm P o x=x){c d:C}{w:V}{s:List UInt8}(z:Cz n c (body (Q3 bd o l x)++s))(hb:(1:Int)+3*c.left<=K)(hr:Jf P rec o.kind o.target (Q3 bd o l x).wire c=.ok (w,d)):w=x/\d.left+(body (Q3 bd o l x)).length=c.left:=by
 rw[(RY (bd:=bd) (n:=l) hx).1]at hr;unfold Jf at hr;rw[Qnj rfl]at hr;unfold QS at hx;unfold Xv at nx;by_cases hk:o.kind=10
 ·rw[Qnj hk]at hx nx hr;have z':=z;rw[BH l x hk,Qnw]at z';rw[BH l x hk,QnP];exact QbG hM hR ak (ho.tgt hk) hx ox cx nx z' hb hr
 ·rw[Qni hk]at hx nx hr;have he:Q3 bd o l x=XF l x:=by unfold Q3;rw[Qni hk]
  rw[he]at z |-;split at hr
  ·cases hr
  rename_i f c1 h1;obtain⟨e1,_,e3⟩:=V2 hx ox z.ct z.rest h1;exact K_
theorem L9 {k:Int}(rec:Int->V->C->Rd V){l tg:Int}{x:V}(hx:x.one P k tg=0)(ox:x.ok M)(nx:x.nsc=x){c d:C}{w:V}(hc:CT c){s:List UInt8}(h:c.rest=body (XF l x)++s)(hr:Jf P rec k tg (XF l x).wire c=.ok (w,d)):w=x/\d.left+(body (XF l x)).length=c.left:=by
 obtain⟨_,_,a3,_⟩:=KJ hx;rw[(G8 hx l).1]at hr;unfold Jf at hr;rw[Qnj rfl,Qni ψ]at hr;split at hr
 ·cases hr
 rename_i f c1 h1;obtain⟨e1,_,e3⟩:=V2 hx ox hc h h1;exact K_
variable (aO:∀(t:Int) (v:V),(0<=t/\t<(P.progs.length:Int))->m (Qe P t) v=0->(bd t v).length+70000<=70000*v.cnt)
include hM hR ak ho aO in
theorem QbI (h5:o.card=5)(bf:(Lit.int .i64 o.kind).wf=true){p:V×V}(h1:p.1.one P o.key (-1)=0)(h2:QS m P o p.2=0)(o1:p.1.ok M)(o2:p.2.ok M)(n1:p.1.nsc=p.1)(n2:Xv nm P o p.2=p.2)(cx:p.2.cnt<=1048576)(x0:V×V){fuel:Nat}(ph:3<=fuel){c d:C}{y:V×V}(z:Cz n c (QI [XF 1 p.1,Q3 bd o 2 p.2]))(hb:(1:Int)+3*c.left<=K)(hr:JF P rec o fuel x0 false false c=.ok (y,d)):y=p:=by
 obtain⟨fuel,rfl⟩:∃k,fuel=k+3:=⟨fuel-3,ψ⟩;obtain⟨hc,fm,aA,h⟩:=z;have dF:=ho.key h5;have fe:o.key≠10:=by unfold XS at dF;omega
 have e0:QI [XF 1 p.1,Q3 bd o 2 p.2]=ZP (XF 1 p.1)++ZP (Q3 bd o 2 p.2):=by
  unfold QI;simp
 have g1:Gf (XF 1 p.1):=Ri h1 o1 ψ;have g2:Gf (Q3 bd o 2 p.2):=Vc ho aO ψ h2 o2 cx;have aK:(Q3 bd o 2 p.2).num=2:=by unfold Q3;split<;>rfl
 obtain⟨t1,w1,a1,a2,a3,a4,a5⟩:=VV g1;obtain⟨t2,w2,b1,b2,b3,b4,b5⟩:=VV g2;have wh:(t1:Int)=1:=a1.symm;have jR:(t2:Int)=2:=by rw[<-b1,aK]
 rw[e0]at h;have vW:=Qoy.2 (Lr g1);have we:=Qoy.2 (Lr g2);have c_:0<c.left:=by rw[Q0,h,QnP];omega
 rw[a5,Qnw]at h;have hA:=WI (k:=0) hc (ZU h) å;have rB:=KO hc h 0;have xB:=JI hc 0 (ZU h);have wL:(Jj c (Vp.put (t1*8+w1)).length 0).tx=c.tx:=rfl;rw[JF,Qnj c_,Re hc a3 a4 h]at hr;dsimp only at hr;rw[Qnj rfl,Qnj wh,Qni ϊ,<-a2]at hr;generalize Jj c (Vp.put (t1*8+w1)).length 0=cA at hA rB xB wL hr;split at hr
 ·cases hr
 rename_i yk cB hk;have hcA:=hA.ci.bd;obtain⟨ek,lk⟩:=L9 rec h1 o1 n1 hA rB hk;obtain⟨k1,_⟩:=WX (Qm9 ϊ hM) ak (λe=>absurd e fe) hA.ci ψ ψ hk;obtain⟨hB,nM,hxB⟩:=GX hA k1.1 rB lk;have hlB:cB.left=(ZP (Q3 bd o 2 p.2)).length:=by rw[Q0,nM]
 rw[JF,Qnj ψ]at hr;rw[b5]at nM;rw[Re hB b3 b4 nM]at hr;have hC:=WI (k:=0) hB (ZU nM) (by have:=hB.ci.nd;omega);have te:=KO hB nM 0;have xu:=JI hB 0 (ZU nM);have x_:(Jj cB (Vp.put (t2*8+w2)).length 0).tx=cB.tx:=rfl;dsimp only at hr;rw[Qnj rfl,Qni ψ,Qnj jR,Qni ϊ,<-b2]at hr;generalize Jj cB (Vp.put (t2*8+w2)).length 0=cC at hC te xu x_ hr;split at hr
 ·cases hr
 rename_i yv cD hv;have tP:cC.rest=body (Q3 bd o 2 p.2)++[]:=by rw[te,Qof]
 obtain⟨ev,lv⟩:=QbH hM hR ak ho bf h2 o2 cx n2 ⟨hC,ψ,ψ,tP⟩ ψ hv;have hlD:cD.left=0:=by
  have:cC.left=(body (Q3 bd o 2 p.2)).length:=by rw[Q0,te]
  omega
 rw[JF,Qni ψ]at hr;cases hr;rw[ek,ev]
include hM hR ak ho aO hS in
theorem Em (h5:o.card=5)(bf:(Lit.int .i64 o.kind).wf=true){p:V×V}(h1:p.1.one P o.key (-1)=0)(h2:QS m P o p.2=0)(o1:p.1.ok M)(o2:p.2.ok M)(n1:p.1.nsc=p.1)(n2:Xv nm P o p.2=p.2)(cx:p.2.cnt<=1048576){cur:Option V}{c d:C}{w:V}{s:List UInt8}(z:Cz n c (body (ZQ bd o p)++s))(hb:(1:Int)+3*c.left<=K)(hr:XV P rec g (KA S rs o.num cur) o (ZQ bd o p).wire c=.ok (w,d)):w=KA S rs o.num (some (Tb o cur p)):=by
 obtain⟨hc,fm,aA,h⟩:=z;unfold XV at hr;rw[Qnj h5,Qnj ω]at hr;rw[GV (by show(3:Int)<=6;decide),Qnw]at h;have hd:=WI (k:=0) hc (ZU h) å;have bj:=KO hc h 0;have aQ:=JI hc 0 (ZU h);have bE:(Jj c (Vp.put (ZQ bd o p).data.length).length 0).tx=c.tx:=rfl;unfold Z8 at hr;rw[H5 hc h]at hr;dsimp only at hr;generalize Jj c (Vp.put (ZQ bd o p).data.length).length 0=c1 at hd bj aQ bE hr;obtain⟨p1,p2,p3⟩:=S9 hd bj;have fT:(part c1 (ZQ bd o p).data.length).tx=c1.tx:=by rw[p1]
 generalize part c1 (ZQ bd o p).data.length=i at p2 p3 fT hr;have bg:i.left=(ZQ bd o p).data.length:=by rw[Q0,p3]
 have aM:c1.left=(ZQ bd o p).data.length+s.length:=by rw[Q0,bj,QnP];omega
 split at hr
 ·cases hr
 rename_i j dD;obtain⟨s1,s2,s3⟩:=J4 dD;have hj:CT j:=⟨(Xm p2.ci Ü dD).1.ci p2.ci,by rw[s3];exact p2.tx⟩;split at hr
 ·cases hr
 rename_i x j2 h3;cases hr;have ph:3<=j.left.toNat:=by
  have g1:Gf (XF 1 p.1):=Ri h1 o1 ψ;have g2:Gf (Q3 bd o 2 p.2):=Vc ho aO ψ h2 o2 cx;have e:(ZQ bd o p).data.length=(ZP (XF 1 p.1)).length+(ZP (Q3 bd o 2 p.2)).length:=by
   show(QI [XF 1 p.1,Q3 bd o 2 p.2]).length=_;unfold QI;simp
  have:=Ta g1;have:=Ta g2;omega
 have xT:=QbI hM hR ak ho aO h5 bf h1 h2 o1 o2 n1 n2 cx _ ph ⟨hj,ψ,ψ,by rw[s1,p3];rfl⟩ ψ h3;rw[xT,show QK (KA S rs o.num cur) o.num=cur.getD (QC 0 0 [])by unfold QK;rw[UA hS]];exact WV hS _ _
end
section
variable {M K n:Nat}(hM:65536<=M)(hK:K<=1000000){P:PL}(hP:P.ok M)(hU:JD P)(hr:XR P){m:PG->V->Int}{nm:PG->V->V}{bd:Int->V->List UInt8}{rec:Int->V->C->Rd V}(hR:Ek M n P m nm bd rec)(ak:Jq P M K n rec){t:Int}(ht:0<=t/\t<(P.progs.length:Int))
def Uh (P:PL)(M K n:Nat)(rec:Int->V->C->Rd V)(t:Int)(L:List R)(v:V)(r:V×C):Prop:=∃k c,Lz P M K n (Qe P t) L k v c/\XY P rec t k v c=.ok r
variable {o:PO}(ho:UO P o){S:List (Int×V)}{R0:List R}(hS:∀s∈S,Xg (Qe P t) o s=false)(hq:Xd (Qe P t) o.num=some o){L:List R}{r:V×C}
include hM hK hP hU hr hR ak ht ho hS hq in
theorem BQ (h5:o.card≠5){x:V}(hx:QS m P o x=0)(ox:x.ok M)(cx:x.cnt<=1048576)(nx:Xv nm P o x=x){cur:Option V}(mD:o.card≠4->cur=none)(z:Uh P M K n rec t (Q3 bd o o.num x :: L) (KA S R0 o.num cur) r):Uh P M K n rec t L (KA S R0 o.num (some (H8 o cur x))) r:=by
 obtain⟨k,c,z,h⟩:=z;obtain⟨w,d⟩:=r;have aK:(Q3 bd o o.num x).num=o.num:=by unfold Q3;split<;>rfl
 obtain⟨j,v1,c1,l1,z1,hs⟩:=W6 hM hK hP hU hr ak ht z h;rw[aK,hq]at hs;rcases hs with⟨eM,_⟩|⟨o',cc,eM,_,hf,_,zc,_⟩
 ·cases eM
 ·cases eM;have:=QbF hR ho hS hx ox cx nx mD h5 zc hf;subst this;exact⟨j,c1,z1,l1⟩
include hM hK hP hU hr hR ak ht ho hS hq in
theorem RZ (h4:o.card=4):∀(l done:List V),(∀x∈l,QS m P o x=0/\x.ok M/\x.cnt<=1048576/\Xv nm P o x=x)->Uh P M K n rec t (l.map (Q3 bd o o.num)++L) (KA S R0 o.num (some (Xa done))) r->Uh P M K n rec t L (KA S R0 o.num (some (Xa (done++l)))) r
 | [],done,_,z=>Ę
 |x :: l,done,h,z=>by
  obtain⟨h1,h2,h3,vy⟩:=h x ό;have e1:=BQ hM hK hP hU hr hR ak ht ho hS hq ψ h1 h2 h3 vy (cur:=some (Xa done)) (λh=>absurd h4 h) z;have j_:H8 o (some (Xa done)) x=Xa (done++[x]):=by unfold H8;rw[Qnj h4];rfl
  rw[j_]at e1;have:=RZ h4 l (done++[x]) (λy hy=>h y ϳ) e1
  rwa [Qnw]at this
variable (bf:(Lit.int .i64 o.kind).wf=true)(aO:∀(t:Int) (v:V),(0<=t/\t<(P.progs.length:Int))->m (Qe P t) v=0->(bd t v).length+70000<=70000*v.cnt)
include hM hK hP hU hr hR ak ht ho hS hq aO bf in
theorem CV (h5:o.card=5){p:V×V}(h1:p.1.one P o.key (-1)=0)(h2:QS m P o p.2=0)(o1:p.1.ok M)(o2:p.2.ok M)(n1:p.1.nsc=p.1)(n2:Xv nm P o p.2=p.2)(cx:p.2.cnt<=1048576){cur:Option V}(z:Uh P M K n rec t (ZQ bd o p :: L) (KA S R0 o.num cur) r):Uh P M K n rec t L (KA S R0 o.num (some (Tb o cur p))) r:=by
 obtain⟨k,c,z,h⟩:=z;obtain⟨w,d⟩:=r;have zk:=z.cnt;have zl:=Xt (KA S R0 o.num cur);obtain⟨j,v1,c1,l1,z1,hs⟩:=W6 hM hK hP hU hr ak ht z h;rw[show(ZQ bd o p).num=o.num from rfl,hq]at hs;rcases hs with⟨eM,_⟩|⟨o',cc,eM,_,hf,_,zc,hle⟩
 ·cases eM
 ·cases eM;have:=Em hM hR ak ho hS aO h5 bf h1 h2 o1 o2 n1 n2 cx zc ψ hf;subst this;exact⟨j,c1,z1,l1⟩
include hM hK hP hU hr hR ak ht ho hS hq aO bf in
theorem R1 (h5:o.card=5):∀(l done:List (V×V)),Zt (λx y:V×V=>kl o.key x.1 y.1) (done++l)->((done++l).Pairwise λq p=>XJ q.1 p.1=false)->(∀p∈l,p.1.one P o.key (-1)=0/\QS m P o p.2=0/\p.1.ok M/\p.2.ok M/\p.1.nsc=p.1/\Xv nm P o p.2=p.2/\p.2.cnt<=1048576)->Uh P M K n rec t (l.map (ZQ bd o)++L) (KA S R0 o.num (some (Jp done))) r->Uh P M K n rec t L (KA S R0 o.num (some (Jp (done++l)))) r
 | [],done,_,_,_,z=>Ę
 |p :: l,done,hs,hd,h,z=>by
  obtain⟨h1,h2,h3,h4,h6,h7,h8⟩:=h p ό;have e1:=CV hM hK hP hU hr hR ak ht ho hS hq bf aO h5 h1 h2 h3 h4 h6 h7 h8 (cur:=some (Jp done)) z;have j_:Tb o (some (Jp done)) p=Jp (done++[p]):=by
   unfold Tb;rw[<-Rm hs hd];rfl
  rw[j_]at e1;have:=R1 h5 l (done++[p]) (by rw[Qnw];exact hs) (by rw[Qnw];exact hd) (λy hy=>h y ϳ) e1
  rwa [Qnw]at this
include hM hK hP hU hr hR ak ht ho hS hq aO bf in
theorem R2 {x:V}(hx:XC m P o x=0)(ox:x.ok M)(cx:x.cnt<=1048576)(nx:XT nm P o x=x)(yV:∀g∈P.progs,∀v,m g v=0->nm g (nm g v)=nm g v)(aq:Ws bd o x≠[])(z:Uh P M K n rec t (Ws bd o x++L) (KP S R0) r):Uh P M K n rec t L (KP (S++[(o.num,x)]) R0) r:=by
 unfold XC at hx;unfold Ws at aq z;by_cases h5:o.card=5
 ·rw[Qnj h5]at hx aq z;obtain⟨a1,a2⟩:=CE h5 nx;split at hx
  ·omega
  obtain⟨ex,ed⟩:=KR.1 hx;have all:∀p∈x.pairs,p.1.one P o.key (-1)=0/\QS m P o p.2=0/\p.1.ok M/\p.2.ok M/\p.1.nsc=p.1/\Xv nm P o p.2=p.2/\p.2.cnt<=1048576:=by
   intro p hp;obtain⟨np,p',th,yx⟩:=a2 p hp;have:=H2 hp;exact⟨(ex p hp).1,(ex p hp).2,ox.keys p hp,ox.vals p hp,np,by rw[yx];exact GM yV ho (ex p' th).2,ψ⟩
  have hs:Zt (λx y:V×V=>kl o.key x.1 y.1) x.pairs:=by
   unfold XT at nx;rw[Qni ψ,Qnj h5]at nx;have hl:((QY o.key x.pairs).map λp=>(p.1.nsc,Xv nm P o p.2))=x.pairs:=congrArg V.pairs nx;have h1:=X5 (KE o.key) x.pairs;have hk:=DR (m:=m) (P:=P) ho.key h5 ⟨ex,ed⟩;rw[<-hl];unfold Zt;rw[List.pairwise_map];refine List.Pairwise.imp_of_mem ?_ h1;intro a b ha hb h;show kl o.key b.1.nsc a.1.nsc=false;rw[hk a ((QN x.pairs).mem_iff.1 ha),hk b ((QN x.pairs).mem_iff.1 hb)];exact h
  rw[a1];generalize x.pairs=l at all hs ed aq z;cases l with
  |nil=>exact absurd rfl aq
  |cons p l=>
   obtain⟨h1,h2,h3,h4,h6,h7,h8⟩:=all p ό;have e1:=CV hM hK hP hU hr hR ak ht ho hS hq bf aO h5 h1 h2 h3 h4 h6 h7 h8 (cur:=none) z;have j_:Tb o none p=Jp [p]:=by
    unfold Tb;rw[show((none:Option V).getD (QC 0 0 [])).pairs=[]from rfl,Rm (l:=l) hs ed];rfl
   rw[j_]at e1;exact R1 hM hK hP hU hr hR ak ht ho hS hq bf aO h5 l [p] hs ed (λy hy=>all y ϳ) e1
 rw[Qni h5]at hx aq z;by_cases h4:o.card=4
 ·rw[Qnj h4]at hx aq z;obtain⟨a1,a2⟩:=Rj h4 nx;split at hx
  ·omega
  have ex:=Km.1 hx;by_cases hp:pk o.card o.kind=true
  ·rw[Qnj hp]at z;have hk:=(UZ hp).2;have all:∀y∈x.list,y.one P o.kind o.target=0/\y.ok M/\y.nsc=y:=by
    intro y hy;have h1:=ex y hy;have h2:=a2 y hy;unfold QS at h1;unfold Xv at h2;rw[Qni ψ]at h1 h2;exact⟨h1,ox.list y hy,h2⟩
   obtain⟨k,c,z,h⟩:=z;obtain⟨w,d⟩:=r;obtain⟨j,v1,c1,l1,z1,hs⟩:=W6 hM hK hP hU hr ak ht z h;rw[show(HJ o x.list).num=o.num from rfl,hq]at hs;rcases hs with⟨eM,_⟩|⟨o',cc,eM,_,hf,_,zc,_⟩
   ·cases eM
   ·cases eM;unfold XV at hf;rw[Qni h5,Qnj ⟨rfl,hp⟩]at hf;have:=L8 (rs:=R0) hS hp all zc.ct zc.rest hf;subst this;have e:KA S R0 o.num (some (Xa x.list))=KP (S++[(o.num,x)]) R0:=congrArg (λy=>KP (S++[(o.num,y)]) R0) a1.symm;rw[e]at z1 l1;exact⟨j,c1,z1,l1⟩
  ·rw[Qni hp]at aq z;have all:∀y∈x.list,QS m P o y=0/\y.ok M/\y.cnt<=1048576/\Xv nm P o y=y:=λy hy=>⟨ex y hy,ox.list y hy,by have:=UX hy;omega,a2 y hy⟩
   rw[a1];generalize x.list=l at all aq z;cases l with
   |nil=>exact absurd rfl aq
   |cons y l=>
    obtain⟨h1,h2,h3,h6⟩:=all y ό;have e1:=BQ hM hK hP hU hr hR ak ht ho hS hq h5 h1 h2 h3 h6 (cur:=none) (λ_=>rfl) z;have j_:H8 o none y=Xa [y]:=by unfold H8;rw[Qnj h4];rfl
    rw[j_]at e1;exact RZ hM hK hP hU hr hR ak ht ho hS hq h4 l [y] (λz hz=>all z ŋ) e1
 ·have hp:¬pk o.card o.kind=true:=λh=>h4 (UZ h).1
  rw[Qni h4]at hx;rw[Qni hp,Qni h4]at z;unfold XT at nx;rw[Qni h4,Qni h5]at nx;have e1:=BQ hM hK hP hU hr hR ak ht ho hS hq h5 hx ox cx nx (cur:=none) (λ_=>rfl) z;have j_:H8 o none x=x:=by unfold H8;rw[Qni h4]
  rw[j_]at e1;exact e1
include hM hK hP hU hr ak ht in
theorem QeN {f:R}(h:Kk P (Qe P t) f=0)(z:Uh P M K n rec t (f :: L) (KP S R0) r):Uh P M K n rec t L (KP S (R0++[f])) r:=by
 obtain⟨k,c,z,hl⟩:=z;obtain⟨w,d⟩:=r;obtain⟨h1,h2,h3,h4,h5,h6,h7⟩:=Vd h;have tb:=(z.gf f ό).2.1;obtain⟨j,v1,c1,l1,z1,hs⟩:=W6 hM hK hP hU hr ak ht z hl;rcases hs with⟨_,rfl⟩|⟨o,cc,eM,aK,hf,_,zc,_⟩
 ·exact⟨j,c1,z1,l1⟩
 unfold Fx at h5;rw[eM]at h5;simp only[Qnz,Qng,QnE,Qnf,Qn9]at h5;obtain⟨⟨⟨⟨k9,c5⟩,w0⟩,cE⟩,vY⟩:=h5;have kB:=h3 ψ;have cT:body f=Vp.put f.bits:=by
  unfold body;rw[w0,Qni ϊ,Qnj ω]
 have sV:wk o.kind=0:=by rw[k9];rfl
 have fQ:XP P o.kind o.target ⟨0,0,f.bits,[]⟩=(QC 0 0 [],16):=by
  unfold XP;rw[k9];dsimp only;rw[Qnj ω,Qnj ω,Qni ϊ];have hw:X4 0 f.bits=f.bits:=by unfold X4;rw[Qni ϊ]
  rw[hw,Qnj,Qnj ⟨rfl,vY⟩];unfold Wb;rw[Qni ϊ,Qni ϊ,Qni ϊ,Qnj rfl];simp;omega
 unfold XV at hf;rw[Qni c5,Qni ψ,Qnj ψ,Qni ψ]at hf;unfold ZY at hf;split at hf
 ·cases hf
 rename_i cs dc;obtain⟨s1,s2,s3⟩:=J4 dc;have fg:CT cs:=⟨(Xm zc.ct.ci ψ dc).1.ci zc.ct.ci,by rw[s3];exact zc.ct.tx⟩;have gG:Je (wk o.kind) cs=.ok (⟨0,0,f.bits,[]⟩,Jj cs (Vp.put f.bits).length 0):=by
  unfold Je;rw[sV,Qni ϊ,Qni ϊ,H4 fg tb (t:=QI L) (by rw[s1,zc.rest,cT]),Qnj rfl]
 rw[gG]at hf;dsimp only at hf;rw[fQ]at hf;dsimp only at hf;rw[Qnj rfl]at hf;have yw:(⟨o.num,0,f.bits,[]⟩:R)=f:=by
  obtain⟨_,_,_,_⟩:=f;simp only at aK w0 kB;subst w0 kB;rw[aK]
 rw[yw]at hf;cases hf;exact⟨j,_,z1,l1⟩
include hM hK hP hU hr ak ht in
theorem BR:∀(l:List R) (R0:List R),(∀f∈l,Kk P (Qe P t) f=0)->Uh P M K n rec t (l++L) (KP S R0) r->Uh P M K n rec t L (KP S (R0++l)) r
 | [],R0,_,z=>Ę
 |f :: l,R0,h,z=>by
  have:=BR l (R0++[f]) (λg hg=>h g ĳ) (QeN hM hK hP hU hr ak ht (h f ό) z)
  rwa [Qnw]at this
end
section
variable {M N:Nat}(hM:65536<=M){P:PL}(hP:P.ok M)(hU:JD P)(hr:XR P)(hn:A6 P){n:Nat}{rec:Int->V->C->Rd V}(hR:Ek M N P (XK P n) (nrm P n) (QW P n) rec)(ak:Jq P M 1000000 N rec)
include hM hP hU hr hn hR ak in
theorem R3 {t:Int}(ht:0<=t/\t<(P.progs.length:Int)){r:V×C}:∀(sl S:List (Int×V)) (rs R0:List R),(∀s∈sl,Ns M P (XK P n) (nrm P n) (Qe P t) s)->IX (XK P n) P (Qe P t) (S++sl)->(∀f∈rs,Kk P (Qe P t) f=0)->
  Uh P M 1000000 N rec t (Xn (QW P n) (Qe P t) sl rs) (KP S R0) r->Uh P M 1000000 N rec t [] (KP (S++sl) (R0++rs)) r
 | [],S,rs,R0,_,_,h,z=>by
  rw[Qof];exact BR hM (Qm8 _) hP hU hr ak ht rs R0 h Ę
 |s :: sl,S,rs,R0,hs,bz,h,z=>by
  have gK:=hs s ό;obtain⟨o,hq,hf,_⟩:=gK.wd;obtain⟨cI,cH⟩:=ZX hq;have hg:=H6 ht;obtain⟨kG,bf,_⟩:=GU hP hU hr ht hq;have cM:∀y∈S,Xg (Qe P t) o y=false:=λy hy=>by
   have h2:=bz.2.1;have a2:=(QoO.1 h2).2.2 y hy s ό;rw[Qo2]at a2;exact BP bz s ό y ϳ (λe=>a2 e.symm) o hq
  have aq:=Lx (QW P n) gK;have ly:ZK (QW P n) (Qe P t) s=Ws (QW P n) o s.2:=by unfold ZK;rw[hq]
  rw[ly]at aq;rw[Xn,ly,Qnw]at z;have e1:=BR hM (Qm8 _) hP hU hr ak ht _ R0 (λf hf=>h f ((QpC _).mem hf)) z;have e2:=R2 hM (Qm8 _) hP hU hr hR ak ht (hU _ hg o cI) cM (by rw[cH];exact hq) bf (λt v ht hm=>H3 hU hr n t v ht hm) hf gK.ok gK.cnt (gK.nrm o hq) (λg hg v h=>Wh hU hr n g hg v h) aq e1;rw[cH]at e2;have e3:=R3 ht sl (S++[(s.1,s.2)]) (rs.dropWhile λr=>decide (r.num<s.1)) (R0++rs.takeWhile λr=>decide (r.num<s.1)) (λu hu=>hs u ē) (by rw[Qnw];exact bz) (λf hf=>h f ((QpB _).mem hf)) e2;rw[Qnw,Qnw,QpD]at e3;exact e3
end
def Qg6 {M:Nat}(hM:65536<=M){P:PL}(hP:P.ok M)(hU:JD P)(hr:XR P)(hn:A6 P):∀n d:Nat,Ek M (n+d) P (XK P n) (nrm P n) (QW P n) (Wz P (n+d))
 |0,_=>λt y _ h=>(Un 0 _ _ h).elim
 |n+1,d=>by
  have ih:=Qg6 hM hP hU hr hn n d;rw[show n+1+d=n+d+1 by omega];intro t y ht hy oy cy ny c hc fm aA h w e cZ;have hg:Qe P t∈P.progs:=H6 ht;obtain⟨_,l7,_,cX⟩:=Jy.1 hy;have gK:=Ma (M:=M) hU hr hg hy oy cy ny;have mX:=FI hU hr hn hg hy oy gK;have hb:QW P (n+1) t y=QI (Xn (QW P n) (Qe P t) y.slots y.raws):=by rw[QW,ny]
  have h_:y=KP y.slots y.raws:=by
   have h1:=congrArg V.slots ny;have h2:=congrArg V.raws ny
   calc y=nrm P (n+1) (Qe P t) y:=ny.symm
    _=.mk 10 0 [] [] [] (nrm P (n+1) (Qe P t) y).slots (nrm P (n+1) (Qe P t) y).raws:=rfl
    _=.mk 10 0 [] [] [] y.slots y.raws:=by rw[h1,h2]
  have aO:=hc.ci.bd;have ak:=Wp (K:=1000000) hM (Qm8 _) hP hU hr (n+d);obtain⟨k,c2,z2,l2⟩:=R3 (r:=(w,e)) hM hP hU hr hn ih ak ht y.slots [] y.raws [] gK l7 cX ⟨c.left.toNat,c,⟨hc,fm,ψ,ψ,Xq ψ,XG rfl ϊ (Qnk _),Ċ,by rw[h,hb],mX⟩,cZ⟩;have:=BO hM (Qm8 _) hP hU hr ak ht z2 l2;rw[this,Qny,Qny,<-h_]
def Vl {α β:Type}{f g:α->List β}:∀ {l:List α},(∀x∈l,f x=g x)->l.flatMap f=l.flatMap g
 | [],_=>rfl
 |x :: l,h=>by rw[QoH,QoH,h x ό,Vl λy hy=>h y ϳ]
section
variable {P:PL}{m:PG->V->Int}{nm tM:PG->V->V}(ih:∀t v,m (Qe P t) v=0->tM (Qe P t) v=nm (Qe P t) v)
include ih
theorem R4 {o:PO}{v:V}(h:QS m P o v=0):Xv tM P o v=Xv nm P o v:=by
 unfold QS at h;unfold Xv;split
 ·rename_i hk;rw[Qnj hk]at h;exact ih _ _ h
 ·rfl
theorem Qaa {o:PO}{v:V}(h:XC m P o v=0):XT tM P o v=XT nm P o v:=by
 unfold XC at h;unfold XT;by_cases h5:o.card=5
 ·rw[Qnj h5]at h;have h4:¬o.card=4:=ψ
  rw[Qni h4,Qni h4,Qnj h5,Qnj h5];split at h
  ·omega
  have he:=(KR.1 h).1;congr 1
  refine Qo5 λp hp=>?_
  rw[R4 ih (he p ((QN v.pairs).mem_iff.1 hp)).2]
 rw[Qni h5]at h;by_cases h4:o.card=4
 ·rw[Qnj h4]at h;rw[Qnj h4,Qnj h4];split at h
  ·omega
  have he:=Km.1 h;congr 1
  exact Qo5 λp hp=>R4 ih (he p hp)
 ·rw[Qni h4]at h;rw[Qni h4,Qni h4,Qni h5,Qni h5];exact R4 ih h
end
def Qg7 {P:PL}(hr:XR P){n:Nat}{t:Int}{v:V}(h:XK P (n+1) (Qe P t) v=0){o:PO}(ho:o∈(Qe P t).ops){s:Int×V}(hs:s∈v.slots)(hn:s.1=o.num):XC (XK P n) P o s.2=0:=by
 obtain⟨_,⟨s1,_,_⟩,_,_⟩:=Jy.1 h;obtain⟨o',h1,h2⟩:=s1 s hs;rw[hn,XX (Zf hr t) ho]at h1;cases h1;exact h2
def R5 {P:PL}(hr:XR P)(d:Nat):∀(n:Nat) (t:Int) (v:V),XK P n (Qe P t) v=0->nrm P (n+d) (Qe P t) v=nrm P n (Qe P t) v
 |0,t,v,h=>(Un 0 _ _ h).elim
 |n+1,t,v,h=>by
  rw[show n+1+d=(n+d)+1 by omega,nrm,nrm];unfold YL;congr 1
  refine Vl λo ho=>?_
  unfold Xb;cases hf:v.slots.find? (λs=>s.1==o.num)with
  |none=>rfl
  |some s=>
   dsimp only;rw[Qaa (λt v hm=>R5 hr d n t v hm) (Qg7 hr h ho (Qpc hf) ù)]
def Qg8 {M N:Nat}{W Q:PL}(hM:65536<=M)(hW:W.ok M)(hQ:Q.ok M)(hw:ck W=0)(hq:ck Q=0)(hN:65536<N){s:List UInt8}{v:V}(hv:v.ok M)(hc:v.cnt<=300)(hf:Zm W (Qr s W) v=0)(hr:v.raws=[])(hd:(QW W 16 (Qr s W) v).length<=65536)(h:(ZV Q N s (QW W 16 (Qr s W) v) Qq).2=0)
  {al:V} (em:(ZV Q N s (QW W 16 (Qr s W) v) Qq).1=al) (lO:Zm Q (Qr s Q) al=0) (fB:(QW Q 16 (Qr s Q) al).length<=65536) (h2:(ZV W N s (QW Q 16 (Qr s Q) al) Qq).2=0) :
  ∀u∈(nrm W 16 (Qe W (Qr s W)) v).slots,Xd (Qe Q (Qr s Q)) u.1=none->XN (ZV W N s (QW Q 16 (Qr s Q) al) Qq).1 u.1=some u.2:=by
 have kp:=keeps hM hW hQ hw hq hN hv hc hf hr hd h;have vE:=VX (N:=N) hM Q hQ hq hN s (QW W 16 (Qr s W) v) hd;have yQ:=Tp (N:=N) hM Q hQ hq hN s (QW W 16 (Qr s W) v) Qq hd ϊ ϊ;obtain⟨ht,hm⟩:=Jr hf;have hg:Qe W (Qr s W)∈W.progs:=H6 ht;have hU:=ZF hw;have d8:=Xf hw;have b1:=KH hU d8 16 _ hg v hm;have b2:=Wh hU d8 16 _ hg v hm;have b3:=JQ d8 16 _ (Zf d8 (Qr s W)) v;have b4:=Y5 (GR hW (Y6 hw)) 16 (Qr s W) v hv;have b5:=GS d8 (n:=15) hg v;have b6:(nrm W 16 (Qe W (Qr s W)) v).raws=[]:=by
  show Zp v.raws=[];rw[hr];rfl
 have hb:QW W 16 (Qr s W) v=QI (Xn (QW W 15) (Qe W (Qr s W)) (nrm W 16 (Qe W (Qr s W)) v).slots []):=by
  rw[QW,b6]
 generalize nrm W 16 (Qe W (Qr s W)) v=n0 at b1 b2 b3 b4 b5 b6 hb kp |-;have gK:=Ma (M:=M) hU d8 hg b1 b4 ψ b2;have mX:=FI hU d8 (FH hw) hg b1 b4 gK;rw[b6]at mX;have aK:∀s'∈n0.slots,∀f∈ZK (QW W 15) (Qe W (Qr s W)) s',f.num=s'.1:=λs' dz=>VT _ (gK s' dz)
 have yr:∀f∈Xn (QW W 15) (Qe W (Qr s W)) n0.slots [],∃y∈n0.slots,y.1=f.num:=by
  intro f hf;rcases G3 hf with hf|⟨y,hy,hf⟩
  ·cases hf
  ·exact⟨y,hy,(aK y hy f hf).symm⟩
 have ou:=QbE hM hQ hq hN mX (by rw[<-hb];exact hd) (by rw[<-hb];exact h);rw[<-hb]at ou;rw[em]at ou kp vE yQ;clear em h hd
 -- the second encoding
 obtain⟨jR,iU⟩:=Jr lO;have fP:Qe Q (Qr s Q)∈Q.progs:=H6 jR;have qS:=ZF hq;have mJ:=Xf hq;have c1:=KH qS mJ 16 _ fP al iU;have c2:=Wh qS mJ 16 _ fP al iU;have c3:=JQ mJ 16 _ (Zf mJ (Qr s Q)) al;have c4:=Y5 (GR hQ (Y6 hq)) 16 (Qr s Q) al vE;have c5:=GS mJ (n:=15) fP al;have c6:(nrm Q 16 (Qe Q (Qr s Q)) al).raws=Zp al.raws:=rfl;have c7:∀y∈(nrm Q 16 (Qe Q (Qr s Q)) al).slots,∃z∈al.slots,z.1=y.1:=by
  intro y hy;obtain⟨q,_,ws⟩:=QnX.1 (show y∈(Qe Q (Qr s Q)).ops.flatMap (Xb (nrm Q 15) Q al.slots)from hy);obtain⟨e1,z,hz,e2,_⟩:=XU ws;exact⟨z,hz,by rw[e2,e1]⟩
 have iF:QW Q 16 (Qr s Q) al=QI (Xn (QW Q 15) (Qe Q (Qr s Q)) (nrm Q 16 (Qe Q (Qr s Q)) al).slots (nrm Q 16 (Qe Q (Qr s Q)) al).raws):=by rw[QW]
 generalize nrm Q 16 (Qe Q (Qr s Q)) al=y at c1 c2 c3 c4 c5 c6 c7 iF;have mt:=Ma (M:=M) qS mJ fP c1 c4 ψ c2;have rY:=FI qS mJ (FH hq) fP c1 c4 mt;have jP:∀s'∈y.slots,∀f∈ZK (QW Q 15) (Qe Q (Qr s Q)) s',f.num=s'.1:=λs' dz=>VT _ (mt s' dz)
 have rV:y.raws.Pairwise λa b=>a.num<=b.num:=by
  rw[c6];exact(X5 DP al.raws).imp λ{a b} dE=>by
   simp only[Qpf]at dE;omega
 have xf:=BM c5 rV jP;have vr:∀f∈Xn (QW Q 15) (Qe Q (Qr s Q)) y.slots y.raws,∃z∈n0.slots,z.1=f.num:=by
  intro f hf;have from_:(∃g∈Xn (QW W 15) (Qe W (Qr s W)) n0.slots [],g.num=f.num)->∃z∈n0.slots,z.1=f.num:=by
   rintro⟨g,hg,e⟩;obtain⟨z,hz,e2⟩:=yr g hg;exact⟨z,hz,by rw[e2,e]⟩
  rcases G3 hf with hf|⟨z,hz,hf⟩
  ·rw[c6]at hf;exact from_ (ou.2 f ((QN al.raws).mem_iff.1 hf))
  ·obtain⟨x,hx,e⟩:=c7 z hz;obtain⟨g,hg,e2⟩:=ou.1 x hx;exact from_ ⟨g,hg,by rw[e2,e,jP z hz f hf]⟩
 rw[iF]at fB h2 |-;intro u hu hk
 -- its raw fields
 have sD:(Xn (QW Q 15) (Qe Q (Qr s Q)) y.slots y.raws).filter (λf=>f.num==u.1)=ZK (QW W 15) (Qe W (Qr s W)) u:=by
  rw[RV y.slots y.raws jP (λz hz e=>by
   obtain⟨o,ho,_⟩:=(mt z hz).wd;rw[e,hk]at ho;cases ho),c6]
  unfold Zp;rw[U7 DP];have e1:al.raws.filter (λf=>f.num==u.1)=(al.raws.filter (JX (Qe Q (Qr s Q)))).filter λf=>f.num==u.1:=by
   rw[List.filter_filter];refine List.filter_congr λf _=>?_
   by_cases ph:f.num=u.1
   ·have:JX (Qe Q (Qr s Q)) f=true:=by unfold JX;rw[ph,hk];rfl
    rw[this,Qoq]
   ·rw[show(f.num==u.1)=false by simpa using ph,QoJ]
  rw[e1,kp,Ba (b5.sublist List.filter_sublist) (λz hz=>aK z (QoL.1 hz).1) u (QoL.2 ⟨hu,by rw[hk];rfl⟩)];refine G4 ?_;have bB:=aK u hu;generalize ZK (QW W 15) (Qe W (Qr s W)) u=T at bB;clear e1
  induction T with
  |nil=>exact .nil
  |cons f T ih=>
   refine QoN.2 ⟨λg hg=>?_,ih λg hg=>bB g ĳ⟩;have:=bB f ό;have:=bB g ĳ;simp only[Qpf];omega
 have dc:=L6 xf u.1;rw[sD]at dc;have hA:∀f∈(Xn (QW Q 15) (Qe Q (Qr s Q)) y.slots y.raws).filter (λf=>decide (f.num<u.1)),f.num≠u.1/\∃z∈n0.slots,z.1=f.num:=by
  exact OL
 have hB:∀f∈(Xn (QW Q 15) (Qe Q (Qr s Q)) y.slots y.raws).filter (λf=>decide (u.1<f.num)),f.num≠u.1/\∃z∈n0.slots,z.1=f.num:=by
  exact OL
 generalize (Xn (QW Q 15) (Qe Q (Qr s Q)) y.slots y.raws).filter (λf=>decide (f.num<u.1))=A at dc hA;generalize (Xn (QW Q 15) (Qe Q (Qr s Q)) y.slots y.raws).filter (λf=>decide (u.1<f.num))=B at dc hB;generalize Xn (QW Q 15) (Qe Q (Qr s Q)) y.slots y.raws=L at *;obtain⟨_,n,k,w,c,d,rfl,hn,z,hl,e⟩:=RU hM hW hw hN rY fB h2;rw[e];have ak:=Wp (K:=1000000) hM (Qm8 _) hW hU d8 n;rw[dc]at z;obtain⟨j1,v1,yd,l1,z1,a1,a2,a3,_⟩:=G7 hM (Qm8 _) hW hU d8 ak ht (ZK (QW W 15) (Qe W (Qr s W)) u++B) A k (KP [] []) c z w d hl;have a3:=a3 rfl;obtain⟨l7,_⟩:=(Jy.1 b1).2;have i9:=gK u hu;obtain⟨o,ho,uJ,wR⟩:=i9.wd;obtain⟨cI,cH⟩:=ZX ho;have ly:ZK (QW W 15) (Qe W (Qr s W)) u=Ws (QW W 15) o u.2:=by unfold ZK;rw[ho]
 have aq:=Lx (QW W 15) i9;have cM:∀x∈v1.slots,x.1≠u.1/\Xg (Qe W (Qr s W)) o x=false:=by
  intro x hx;rcases a1 x hx with hx|⟨f,hf,e1⟩
  ·cases hx
  ·obtain⟨f1,y',mj,e2⟩:=hA f hf;have tI:y'.1=x.1:=by rw[e2,e1]
   have h3:=BP l7 u hu y' mj (by rw[e2];exactλe=>f1 e.symm) o ho;refine⟨by rw[<-e1];exact f1,?_⟩;unfold Xg at h3 |-;rw[<-tI];exact h3
 obtain⟨kG,bf,_⟩:=GU hW hU d8 ht ho;have hV:=Qg6 hM hW hU d8 (FH hw) 15 (n-15);rw[show 15+(n-15)=n by omega]at hV;rw[a3]at z1 l1;rw[ly]at z1 aq;have hT:=R2 hM (Qm8 _) hW hU d8 hV ak ht (hU _ hg o cI) (λx hx=>(cM x hx).2) (by rw[cH];exact ho) bf (λt v ht hm=>H3 hU d8 15 t v ht hm) uJ i9.ok i9.cnt (i9.nrm o ho) (λg hg v h=>Wh hU d8 15 g hg v h) aq ⟨j1,yd,z1,l1⟩;rw[cH]at hT;obtain⟨j3,c3',xe,g1⟩:=hT;obtain⟨j2,v2,c2',l2,z2,_,_,_,a4⟩:=G7 hM (Qm8 _) hW hU d8 ak ht [] B _ _ _ (by rw[Qof];exact xe) w d g1;have lx:=BO hM (Qm8 _) hW hU d8 ak ht z2 l2;subst lx;have fY:(u.1,u.2)∈w.slots:=a4 (u.1,u.2) (Qow.2 (.inr ό)) λf hf q gC=>by
  obtain⟨f1,y',mj,e2⟩:=hB f hf;rw[<-e2]at gC;exact BP l7 y' mj u hu (by rw[e2];exact f1) q gC
 have fL:=QeM z2.mw.2 fY;have kg:XT (nrm W n) W o u.2=u.2:=by
  rw[Qaa (nm:=nrm W 15) (λt v hm=>by
   have:=R5 d8 (n-15) 15 t v hm
   rwa [show 15+(n-15)=n by omega]at this) uJ]
  exact i9.nrm o ho
 have aN:u∈(nrm W (n+1) (Qe W (Qr s W)) w).slots:=by
  refine QnX.2 ⟨o,cI,?_⟩;unfold Xb;rw[show(λs:Int×V=>s.1==o.num)=λs=>s.1==(u.1,u.2).1 by rw[cH],fL];dsimp only;rw[kg,Qnj (by
   rcases wR with h9|h9
   ·rw[Qpe h9];rfl
   ·rw[h9];simp),cH]
  simp
 have nJ:=L7 (GS d8 (n:=n) hg w) aN;unfold XN;rw[nJ];rfl
end Va
namespace Va
open Go Am Rc Bt Br Up
section
variable {M:Nat}
def SzI (v:V)(c len:Nat)(a:Nat->Nat)(k:Nat)(st:St):Prop :=
 ∃f fr i,st=⟨f,[fr],[]⟩/\k=len-i/\i<=len/\f 1=.ptr 0 1 0/\f 3=.int .i64 (IntKind.i64.wrap ((a i:Nat):Int))/\f c=.int .i64 (i:Nat)/\fr 1=.cells (vc v)
def w17 (hM:M<=9223372036854775807)(v:V)(hv:v.ok M):Qi prog 17 [v.av] (.int .i64 (IntKind.i64.wrap (v.sz:Int))):=by
 revert hv
 refine V.ind (P:=λv=>v.ok M->Qi prog 17 [v.av] (.int .i64 (IntKind.i64.wrap (v.sz:Int)))) ?_ v;clear v;intro v hl hp hs hv;have n1:=hv.nl;have n2:=hv.np;have n3:=hv.ns;have n4:=hv.nr;have nt:=hv.text;have wt:IntKind.i64.wrap (v.text.length:Int)=(v.text.length:Int):=ϐ
 rw[Qd];refine wF func17 ?_;simp only[eK,Tryz.f17,seval];simp only[eE,seval];refine Qj (SzI v 4 v.list.length λi=>v.text.length+Ug (v.list.take i)) _ ⟨_,_,0,rfl,rfl,Qnk _,ω,(by simp only[Qol,Ug,QnI,wt,Qa,seval]),ω,ω⟩ ?_;rintro _ st ⟨f,fr,i,rfl,rfl,bg,h1,h3,h4,m1⟩;dsimp only at h3;have dV:=m1;simp only[vc]at m1;simp only[Qn6,h1,h4,m1,eE,seval];by_cases aa:i<v.list.length
 ·obtain⟨x,hi⟩:∃x,v.list[i]? = some x:=⟨v.list[i],Qnb aa⟩;have hg:=HH hi;have e1:=Qv i _ aa ώ;have c1:=hl x (Qnp hi) (hv.list x (Qnp hi));rw[Qd]at c1;simp only[QE aa,Qs,QoF,Qg,hg,h1,h3,h4,m1,eE,seval];refine aC c1 ?_;simp only[h4,e1,UT,Qa,seval];exact⟨v.list.length-(i+1),ψ,_,_,i+1,rfl,rfl,ψ,ϕ,(by dsimp only;rw[Qbw hi];simp only[h3,<-Qpz,Qm7,Qa,seval]),ω,Í⟩
 have e:i=v.list.length:=ψ
 subst e;rw[QoT]at h3;simp only[QM aa,Qa,seval];refine Qj (SzI v 5 v.pairs.length λi=>v.text.length+Ug v.list+U8 (v.pairs.take i)) _ ⟨_,_,0,rfl,rfl,Qnk _,ϕ,(by simp only[Qol,U8,QnI,h3,Qa,seval]),ω,Í⟩ ?_;clear h1 h3 h4 m1 dV aa bg;rintro _ st ⟨f,fr,i,rfl,rfl,bg,h1,h3,h5,m1⟩;dsimp only at h3;have dV:=m1;simp only[vc]at m1;simp only[Qn6,h1,h5,m1,eE,seval];by_cases aa:i<v.pairs.length
 ·obtain⟨x,hi⟩:∃x,v.pairs[i]? = some x:=⟨v.pairs[i],Qnb aa⟩;have hg:=KG hi;have e1:=Qv i _ aa ώ;have hm:=Qnp hi;have c1:=(hp x hm).1 (hv.keys x hm);have c2:=(hp x hm).2 (hv.vals x hm);rw[Qd]at c1 c2;simp only[QE aa,Qs,QoF,Qg,hg,QnK,Qol,QnT,h1,h3,h5,m1,eE,seval];refine aC c1 ?_;simp only[Qs,QoF,Qg,hg,QnK,QnN,QnT,h1,h5,m1,eE,seval];refine aC c2 ?_;simp only[h5,e1,UT,Qa,seval];exact⟨v.pairs.length-(i+1),ψ,_,_,i+1,rfl,rfl,ψ,ϕ,(by dsimp only;rw[Qbx hi];simp only[h3,<-Qpz,Qm7,Qa,seval]),ω,Í⟩
 have e:i=v.pairs.length:=ψ
 subst e;rw[QoT]at h3;simp only[QM aa,Qa,seval];refine Qj (SzI v 6 v.slots.length λi=>v.text.length+Ug v.list+U8 v.pairs+Hy (v.slots.take i)) _ ⟨_,_,0,rfl,rfl,Qnk _,ϕ,(by simp only[Qol,Hy,QnI,h3,Qa,seval]),ω,Í⟩ ?_;clear h1 h3 h5 m1 dV aa bg;rintro _ st ⟨f,fr,i,rfl,rfl,bg,h1,h3,h6,m1⟩;dsimp only at h3;have dV:=m1;simp only[vc]at m1;simp only[Qn6,h1,h6,m1,eE,seval];by_cases aa:i<v.slots.length
 ·obtain⟨x,hi⟩:∃x,v.slots[i]? = some x:=⟨v.slots[i],Qnb aa⟩;have hg:=Wy hi;have e1:=Qv i _ aa ώ;have hm:=Qnp hi;have c1:=hs x hm (hv.slots x hm);rw[Qd]at c1;simp only[QE aa,Qs,QoF,Qg,hg,QnK,QnN,QnT,h1,h3,h6,m1,eE,seval];refine aC c1 ?_;simp only[h6,e1,UT,Qa,seval];exact⟨v.slots.length-(i+1),ψ,_,_,i+1,rfl,rfl,ψ,ϕ,(by dsimp only;rw[Qby hi];simp only[h3,<-Qpz,Qm7,Qa,seval]),ω,Í⟩
 have e:i=v.slots.length:=ψ
 subst e;rw[QoT]at h3;simp only[QM aa,Qa,seval];refine Qj (SzI v 7 v.raws.length λi=>v.text.length+Ug v.list+U8 v.pairs+Hy v.slots+Gb (v.raws.take i)) _ ⟨_,_,0,rfl,rfl,Qnk _,ϕ,(by simp only[Qol,Gb,QnI,h3,Qa,seval]),ω,Í⟩ ?_;clear h1 h3 h6 m1 dV aa bg;rintro _ st ⟨f,fr,i,rfl,rfl,bg,h1,h3,h7,m1⟩;dsimp only at h3;have dV:=m1;simp only[vc]at m1;simp only[Qn6,h1,h7,m1,eE,seval];by_cases aa:i<v.raws.length
 ·obtain⟨x,hi⟩:∃x,v.raws[i]? = some x:=⟨v.raws[i],Qnb aa⟩;have hg:=Bv hi;have e1:=Qv i _ aa ώ;simp only[QE aa,Qs,QoF,Qg,hg,h1,h3,h7,m1,e1,Qec,eE,seval];exact⟨v.raws.length-(i+1),ψ,_,_,i+1,rfl,rfl,ψ,ϕ,(by dsimp only;rw[Qbv hi];simp only[h3,<-Qpz,Qm7,Qa,seval]),ω,Í⟩
 have e:i=v.raws.length:=ψ
 subst e;rw[QoT]at h3;simp only[QM aa,h3,Ef,Qa,seval]
end
open So Vp Cp
section
variable {P:Program}{f:Fr}{m:Qk}{ds:List DF}{K:St->Prop}{its:List Am.Item}{d:Nat}
def BS {s:Nat}(hn:ZB m s=true)(h:QF P its ⟨QL f d (.mptr 0 s),Am.put m 0 s (.iter (.mp [] []) 0),ds⟩ K):QF P (⟨some d,.mkm s,none⟩ :: its) ⟨f,m,ds⟩ K:=⟨hn,h⟩
def J0 {tx:Bool}{x i v:RA}{l s p:Nat}{ks:List MK}{vs:List AV}{k:MK}(h1:x.ev f=.mptr l s)(h2:Am.Qc m l s=.iter (.mp ks vs) p)(h3:Am.Wk tx (i.ev f)=some k)(h4:Am.keys tx ks=true)(h5:(v.ev f).gr=true)(h6:AV.grL vs=true)(h7:ks.length=vs.length)
  (h:QF P its ⟨f,Am.put m l s (.iter (.mp (Zy k (v.ev f) ks vs).1 (Zy k (v.ev f) ks vs).2) p),ds⟩ K):QF P (⟨none,.mput tx x i v,none⟩ :: its) ⟨f,m,ds⟩ K:=⟨l,s,ks,vs,p,k,h1,h2,h3,h4,h5,h6,h7,h⟩
end
def c43:Qi prog 43 [] Qq.av:=by
 refine wF func43 ?_;simp only[eK,f43,seval];simp only[Qq,L.av,eE,seval]
section
variable {M N:Nat}(hM:M<=140737488351232)(hm:65536<=M)(hN:65536<N)(W R:PL)(hW:W.ok M)(hR:R.ok M)(hw:ck W=0)(hr:ck R=0)
include hM hW hR hw hr in
theorem c40 (a b:Int)(ha:0<=a/\a<(W.progs.length:Int))(hb:0<=b/\b<(R.progs.length:Int)):Qi prog 40 [W.av,R.av,.int .i64 a,.int .i64 b] (.tup [Qm (Qe W a),Qm (Qe R b),.int .i64 0]):=by
 have c1:=t76 hM W hW (VZ hw);have c2:=t76 hM R hR (VZ hr);rw[hw,show W.av=.agg (Xh W)from rfl]at c1;rw[hr,show R.av=.agg (Xh R)from rfl]at c2;rw[show W.av=.agg (Xh W)from rfl,show R.av=.agg (Xh R)from rfl];simp only[Xh]at c1 c2;have d1:decide (a<0)=false:=Qo8 ψ;have d2:decide (a>=(W.progs.length:Int))=false:=Qo8 ψ;have d3:decide (b<0)=false:=Qo8 ψ;have d4:decide (b>=(R.progs.length:Int))=false:=Qo8 ψ;have g1:(W.progs.map Qm)[a.toNat]? = some (.agg [.str (Qe W a).name,.list ((Qe W a).ops.map λo=>.agg o.cells),.int .i64 (Qe W a).unions]):=by rw[QoA,Yv ha];rfl
 have g2:(R.progs.map Qm)[b.toNat]? = some (.agg [.str (Qe R b).name,.list ((Qe R b).ops.map λo=>.agg o.cells),.int .i64 (Qe R b).unions]):=by rw[QoA,Yv hb];rfl
 have a0:(0<=a)=True:=eq_true ha.1;have b0:(0<=b)=True:=eq_true hb.1;rw[show Qm (Qe W a)=.agg [.str (Qe W a).name,.list ((Qe W a).ops.map λo=>.agg o.cells),.int .i64 (Qe W a).unions]from rfl,show Qm (Qe R b)=.agg [.str (Qe R b).name,.list ((Qe R b).ops.map λo=>.agg o.cells),.int .i64 (Qe R b).unions]from rfl];refine wF func40 ?_;simp only[eK,f40,seval];simp only[Xh,d1,d2,d3,d4,Qn6,eE,seval];refine aC c1 ?_;simp only[eE,seval];refine aC c2 ?_;simp only[a0,b0,Qg,g1,g2,eE,seval]<;>rfl
include hM hm hN hW hR hw hr in
theorem c19 (a b:Int)(ha:0<=a/\a<(W.progs.length:Int))(hb:0<=b/\b<(R.progs.length:Int))(s:List UInt8)(hs:Qr s R=b)(v:V)(hv:v.ok M)(hc:v.cnt<=4096)(hf:Zm W a v=0)(hx:(QW W 16 a v).length<=65536) :
  Qi prog 19 [W.av,R.av,.int .i64 a,.int .i64 b,v.av] (ov (ZV R N s (QW W 16 a v) Qq)):=by
 have c1:=c40 hM W R hW hR hw hr a b ha hb;have c2:=t42 hM W hW (VZ hw) hw a v hv ψ hf;have c3:=c43;have c4:=j41 (N:=N) hm R hR hr hN (Qe R b).name (QW W 16 a v) Qq hx ϊ ϊ;rw[Qbt (s':=s) (by rw[RF hr hb,hs])]at c4;have hn:=QgR (P:=R) (N:=N) (s:=s) hx;have ec:∀c:V×Nat,c.2≠3->((c.2:Int)==3)=false:=λc h=>Ϗ
 have e3:=ec _ hn;rw[show W.av=.agg (Xh W)from rfl]at c1 c2;rw[show R.av=.agg (Xh R)from rfl]at c1 c4;rw[show W.av=.agg (Xh W)from rfl,show R.av=.agg (Xh R)from rfl,Qd v];rw[Qd v]at c2;generalize ZV R N s (QW W 16 a v) Qq=y at c4 e3 |-;generalize QW W 16 a v=x at c2 c4;generalize Qe W a=gw at c1;generalize Qe R b=gr at c1 c4;obtain⟨y,e⟩:=y;simp only[Qm,PG.cells]at c1;simp only[ov,Qd y,Xh,L.av,Qq]at c1 c2 c3 c4;dsimp only at e3;refine wF func19 ?_;simp only[eK,Tryz.f19,seval];simp only[Xh,eE,seval];refine aC c1 ?_;simp only[eE,seval];refine aC c2 ?_;refine aC c3 ?_;refine aC c4 ?_;simp only[e3,ov,Qd y,eE,seval]<;>rfl
include hM hm hN hW hR hw hr in
theorem c9 (s:List UInt8)(hp:0<=Qr s R)(v:V)(hv:v.ok M)(hc:v.cnt<=4096)(he:(Ub W s v).2=0) :
  Qi prog 9 [W.av,R.av,.str s,v.av,.int .i64 1] (ov (ZV R N s (Ub W s v).1 Qq)):=by
 obtain⟨ha,hf,hx,hl⟩:=QeC he;have hb:0<=Qr s R/\Qr s R<(R.progs.length:Int):=by
  rcases Z9 s R with h|h
  ·omega
  ·exact h
 obtain⟨n1,n2,_,n4⟩:=QeB hw hf hc;obtain⟨_,mb⟩:=Jr hf;have oy:=Y5 (GR hW (Y6 hw)) 16 (Qr s W) v hv;have f1:=SL W hW.len1 s;have f2:=SL R hR.len1 s;have f3:=v23 hW (ZF hw) (Qr s W) v hv;have f4:=v24 hW (ZF hw) (Xf hw) (BD hw) 16 (Qr s W) _ (Yv ha) ha.1 v hv ψ (Un _ _ _ mb);have f5:=c19 (N:=N) hM hm hN W R hW hR hw hr (Qr s W) (Qr s R) ha hb s rfl _ oy n4 n1 (by rw[n2];exact hl);rw[n2,<-hx]at f5;unfold F3 at f1 f2;rw[show Zn (λg:PG=>g.name==s) W.progs 0=Qr s W from rfl,Qni ψ,Qpe ha.1]at f1;rw[show Zn (λg:PG=>g.name==s) R.progs 0=Qr s R from rfl,Qni ψ,Qpe hb.1]at f2;rw[hf]at f3;generalize nrm W 16 (Qe W (Qr s W)) v=u at f4 f5;generalize ZV R N s (Ub W s v).1 Qq=y at f5 |-;obtain⟨y,e⟩:=y;rw[show W.av=.agg (Xh W)from rfl]at f1 f3 f4 f5;rw[show R.av=.agg (Xh R)from rfl]at f2 f5;rw[show W.av=.agg (Xh W)from rfl,show R.av=.agg (Xh R)from rfl,Qd v];rw[Qd v]at f3 f4;rw[Qd u]at f4 f5;simp only[ov,Qd y,Xh]at f1 f2 f3 f4 f5;refine wF func9 ?_;simp only[eK,Tryz.f9,seval];simp only[Xh,eE,seval];refine BS ω ?_;refine J0 (l:=0) (s:=19) (p:=0) (ks:=[]) (vs:=[]) (k:=.n 1) ω ω rfl rfl rfl rfl rfl ?_;refine J0 (l:=0) (s:=19) (p:=0) (ks:=[.n 1]) (vs:=[.fn (.func 19) [] []]) (k:=.n 2) ω ω rfl rfl rfl rfl rfl ?_;refine J0 (l:=0) (s:=19) (p:=0) (ks:=[.n 1,.n 2]) (vs:=[.fn (.func 19) [] [],.fn (.func 20) [] []]) (k:=.n 4) ω ω rfl rfl rfl rfl rfl ?_;simp only[K3,Am.Wk,keys,Zy,KB,MK.eq,MK.t,Qoo,Qop,AV.gr,List.isEmpty_nil,Bool.and_self,Qom,cond_true,cond_false,eE,seval];refine aC f1 ?_;simp only[eE,seval];refine aC f2 ?_;simp only[eE,seval];refine aC f3 ?_;simp only[eE,seval];refine aC f4 ?_;refine Wn (k:=19) (fa:=[]) (fb:=[]) ϋ f5 rfl rfl rfl (.inl rfl) ?_;simp only[ov,Qd y,eE,seval]<;>rfl
end
end Va
namespace Va
open Go Am Rc Bt Br Up So
noncomputable def sm (v w:V):Bool:=@decide (v=w) (Classical.propDecidable _)
def Qab {v w:V}:sm v w=true↔v=w:=by
 unfold sm;exact @decide_eq_true_iff _ (Classical.propDecidable _)
def WY {v w:V}(h:v≠w):sm v w=false:=by
 cases e:sm v w
 ·rfl
 ·exact absurd (Qab.1 e) h
def R6 {v w:V}(h:v=w):sm v w=true:=Qab.2 h
def Hz {α:Type}{l r:List α}{i:Nat}{x:α}(h:l.take i=r.take i)(hx:l[i]? = some x)(hy:r[i]? = some x):l.take (i+1)=r.take (i+1):=by
 rw[Qo4,Qo4,h,hx,hy]
def UE {α:Type}{l r:List α}{i:Nat}{x y:α}(hx:l[i]? = some x)(hy:r[i]? = some y)(h:x≠y):l≠r:=by
 intro e;rw[e,hy]at hx;cases hx;exact h rfl
section
variable (v w:V)(fr:Nat->Ob)(lD:fr 2=.cells (Kz v))(ic:fr 3=.cells (Kz w))(f:Fr)(h2:f 2=.ptr 0 2 0)(h3:f 3=.ptr 0 3 0)(Q:Exit->St->Prop)
include lD ic h2 h3
theorem QeO {cL:RC}(hl:v.list.length=w.list.length)(hn:v.list.length<=maxLen)(hx:∀x∈v.list,∀y∈w.list,Qi prog 13 [x.av,y.av] (.bool (sm x y)))(h5:f 5=.int .i64 0)
  (q:∀f,f 2=.ptr 0 2 0->f 3=.ptr 0 3 0->v.list=w.list->Q (.exit 0) (⟨f,[fr],[]⟩:St)) (qr:∀f,f 4=.bool false->v.list≠w.list->Q .ret (⟨f,[fr],[]⟩:St)) (bU:lp 13 0 Tryz.f13=cL:=by simp only[eL,eK,Tryz.f13,seval]) :
  Q1 prog (.loop cL) ⟨f,[fr],[]⟩ Q:=by
 subst bU;simp only[eL,eK,Tryz.f13,seval]
 let I:Nat->St->Prop:=λk st=>∃f i,st=⟨f,[fr],[]⟩/\k=v.list.length-i/\v.list.take i=w.list.take i/\f 2=.ptr 0 2 0/\f 3=.ptr 0 3 0/\f 5=.int .i64 (i:Nat)
 refine Qj I _ ⟨f,0,rfl,rfl,rfl,h2,h3,h5⟩ ?_;clear h2 h3 h5;rintro _ st ⟨f,i,rfl,rfl,ht,h2,h3,h5⟩;have m2:=lD;have m3:=ic;simp only[Kz]at m2 m3;simp only[Qn6,h2,h5,m2,eE,seval];by_cases aa:i<v.list.length
 ·obtain⟨x,hi⟩:∃x,v.list[i]? = some x:=⟨v.list[i],Qnb aa⟩;obtain⟨y,hj⟩:∃y,w.list[i]? = some y:=⟨w.list[i]' ψ,Qnb ψ⟩;have hg:=HH hi;have fP:=HH hj;have e1:=Qv i _ aa hn;have c1:=hx x (Qnp hi) y (Qnp hj);rw[Qd x,Qd y]at c1;simp only[QE aa,Qs,QoF,Qg,hg,fP,h2,h3,h5,m2,m3,eE,seval];refine aC c1 ?_;by_cases fR:x=y
  ·have s1:=R6 fR;subst fR;simp only[s1,h5,e1,Qa,seval];exact⟨v.list.length-(i+1),ψ,_,i+1,rfl,rfl,Hz ht hi hj,Υ,ϖ,ω⟩
  ·have s1:=WY fR;simp only[s1,Qa,seval];exact qr _ ω (UE hi hj fR)
 ·exact zG
theorem QbJ {cL:RC}(hl:v.pairs.length=w.pairs.length)(hn:v.pairs.length<=maxLen)(hx:∀x∈v.pairs,∀y∈w.pairs,Qi prog 13 [x.1.av,y.1.av] (.bool (sm x.1 y.1))/\Qi prog 13 [x.2.av,y.2.av] (.bool (sm x.2 y.2)))(h6:f 6=.int .i64 0)
  (q:∀f,f 2=.ptr 0 2 0->f 3=.ptr 0 3 0->v.pairs=w.pairs->Q (.exit 2) (⟨f,[fr],[]⟩:St)) (qr:∀f,f 4=.bool false->v.pairs≠w.pairs->Q .ret (⟨f,[fr],[]⟩:St)) (bU:lp 13 1 Tryz.f13=cL:=by simp only[eL,eK,Tryz.f13,seval]) :
  Q1 prog (.loop cL) ⟨f,[fr],[]⟩ Q:=by
 subst bU;simp only[eL,eK,Tryz.f13,seval]
 let I:Nat->St->Prop:=λk st=>∃f i,st=⟨f,[fr],[]⟩/\k=v.pairs.length-i/\v.pairs.take i=w.pairs.take i/\f 2=.ptr 0 2 0/\f 3=.ptr 0 3 0/\f 6=.int .i64 (i:Nat)
 refine Qj I _ ⟨f,0,rfl,rfl,rfl,h2,h3,h6⟩ ?_;clear h2 h3 h6;rintro _ st ⟨f,i,rfl,rfl,ht,h2,h3,h6⟩;have m2:=lD;have m3:=ic;simp only[Kz]at m2 m3;simp only[Qn6,h2,h6,m2,eE,seval];by_cases aa:i<v.pairs.length
 ·obtain⟨x,hi⟩:∃x,v.pairs[i]? = some x:=⟨v.pairs[i],Qnb aa⟩;obtain⟨y,hj⟩:∃y,w.pairs[i]? = some y:=⟨w.pairs[i]' ψ,Qnb ψ⟩;have hg:=KG hi;have fP:=KG hj;have e1:=Qv i _ aa hn;obtain⟨c1,c2⟩:=hx x (Qnp hi) y (Qnp hj);rw[Qd x.1,Qd y.1]at c1;rw[Qd x.2,Qd y.2]at c2;simp only[QE aa,Qs,QoF,Qg,hg,fP,h2,h3,h6,m2,m3,eE,seval];refine aC c1 ?_;by_cases fR:x.1=y.1
  case neg=>
   have s1:=WY fR;simp only[s1,Qa,seval];exact qr _ ω (UE hi hj λe=>fR Å)
  have s1:=R6 fR;simp only[s1,Qs,QoF,Qg,hg,fP,h2,h3,h6,m2,m3,eE,seval];refine aC c2 ?_;by_cases ix:x.2=y.2
  ·have s2:=R6 ix;have e:x=y:=Prod.ext fR ix;subst e;simp only[s2,h6,e1,Qa,seval];exact⟨v.pairs.length-(i+1),ψ,_,i+1,rfl,rfl,Hz ht hi hj,Υ,ϖ,ω⟩
  ·exact OZ
 ·exact zG
theorem QbK {cL:RC}(hl:v.slots.length=w.slots.length)(hn:v.slots.length<=maxLen)(hx:∀x∈v.slots,∀y∈w.slots,Qi prog 13 [x.2.av,y.2.av] (.bool (sm x.2 y.2)))(h7:f 7=.int .i64 0)
  (q:∀f,f 2=.ptr 0 2 0->f 3=.ptr 0 3 0->v.slots=w.slots->Q (.exit 4) (⟨f,[fr],[]⟩:St)) (qr:∀f,f 4=.bool false->v.slots≠w.slots->Q .ret (⟨f,[fr],[]⟩:St)) (bU:lp 13 2 Tryz.f13=cL:=by simp only[eL,eK,Tryz.f13,seval]) :
  Q1 prog (.loop cL) ⟨f,[fr],[]⟩ Q:=by
 subst bU;simp only[eL,eK,Tryz.f13,seval]
 let I:Nat->St->Prop:=λk st=>∃f i,st=⟨f,[fr],[]⟩/\k=v.slots.length-i/\v.slots.take i=w.slots.take i/\f 2=.ptr 0 2 0/\f 3=.ptr 0 3 0/\f 7=.int .i64 (i:Nat)
 refine Qj I _ ⟨f,0,rfl,rfl,rfl,h2,h3,h7⟩ ?_;clear h2 h3 h7;rintro _ st ⟨f,i,rfl,rfl,ht,h2,h3,h7⟩;have m2:=lD;have m3:=ic;simp only[Kz]at m2 m3;simp only[Qn6,h2,h7,m2,eE,seval];by_cases aa:i<v.slots.length
 ·obtain⟨x,hi⟩:∃x,v.slots[i]? = some x:=⟨v.slots[i],Qnb aa⟩;obtain⟨y,hj⟩:∃y,w.slots[i]? = some y:=⟨w.slots[i]' ψ,Qnb ψ⟩;have hg:=Wy hi;have fP:=Wy hj;have e1:=Qv i _ aa hn;have c1:=hx x (Qnp hi) y (Qnp hj);rw[Qd x.2,Qd y.2]at c1;by_cases fR:x.1=y.1
  case neg=>
   have d1:(x.1 != y.1)=true:=by simp[fR]
   simp only[QE aa,Qs,QoF,Qg,hg,fP,d1,h2,h3,h7,m2,m3,eE,seval];exact qr _ ω (UE hi hj λe=>fR Å)
  have d1:(x.1 != y.1)=false:=by simp[fR]
  simp only[QE aa,Qs,QoF,Qg,hg,fP,d1,h2,h3,h7,m2,m3,eE,seval];refine aC c1 ?_;by_cases ix:x.2=y.2
  ·have s2:=R6 ix;have e:x=y:=Prod.ext fR ix;subst e;simp only[s2,h7,e1,Qa,seval];exact⟨v.slots.length-(i+1),ψ,_,i+1,rfl,rfl,Hz ht hi hj,Υ,ϖ,ω⟩
  ·exact OZ
 ·exact zG
theorem QeP {cL:RC}(hl:v.raws.length=w.raws.length)(hn:v.raws.length<=maxLen)(h8:f 8=.int .i64 0)
  (q:∀f,f 2=.ptr 0 2 0->f 3=.ptr 0 3 0->v.raws=w.raws->Q (.exit 6) (⟨f,[fr],[]⟩:St)) (qr:∀f,f 4=.bool false->v.raws≠w.raws->Q .ret (⟨f,[fr],[]⟩:St)) (bU:lp 13 3 Tryz.f13=cL:=by simp only[eL,eK,Tryz.f13,seval]) :
  Q1 prog (.loop cL) ⟨f,[fr],[]⟩ Q:=by
 subst bU;simp only[eL,eK,Tryz.f13,seval]
 let I:Nat->St->Prop:=λk st=>∃f i,st=⟨f,[fr],[]⟩/\k=v.raws.length-i/\v.raws.take i=w.raws.take i/\f 2=.ptr 0 2 0/\f 3=.ptr 0 3 0/\f 8=.int .i64 (i:Nat)
 refine Qj I _ ⟨f,0,rfl,rfl,rfl,h2,h3,h8⟩ ?_;clear h2 h3 h8;rintro _ st ⟨f,i,rfl,rfl,ht,h2,h3,h8⟩;have m2:=lD;have m3:=ic;simp only[Kz]at m2 m3;simp only[Qn6,h2,h8,m2,eE,seval];by_cases aa:i<v.raws.length
 ·obtain⟨x,hi⟩:∃x,v.raws[i]? = some x:=⟨v.raws[i],Qnb aa⟩;obtain⟨y,hj⟩:∃y,w.raws[i]? = some y:=⟨w.raws[i]' ψ,Qnb ψ⟩;have hg:=Bv hi;have fP:=Bv hj;have e1:=Qv i _ aa hn;by_cases fR:x=y
  ·subst fR;simp only[QE aa,Qs,QoF,Qg,hg,fP,Qom,h2,h3,h8,m2,m3,e1,eE,seval];exact⟨v.raws.length-(i+1),ψ,_,i+1,rfl,rfl,Hz ht hi hj,Υ,ϖ,ω⟩
  ·have d1:(x.num==y.num&&(x.wire==y.wire&&(((x.bits:Nat):Int)==((y.bits:Nat):Int)&&x.data==y.data)))=false:=by
    rw[Qpa];intro e;simp only[Qnz,Qng]at e;obtain⟨e1,e2,e3,e4⟩:=e;refine fR ?_;cases x;cases y;simp only at e1 e2 e3 e4;have e5:=Int.ofNat_inj.1 e3;subst e1 e2 e5 e4;rfl
   have d2:=congrArg (λb=>!b) d1;simp only[Qok]at d2;simp only[QE aa,Qs,QoF,Qg,hg,fP,d1,Qoq,h2,h3,h8,m2,m3,eE,seval];exact qr _ ω (UE hi hj fR)
 ·exact zG
end
def V.ext7 {v w:V}(h1:v.kd=w.kd)(h2:v.bits=w.bits)(h3:v.text=w.text)(h4:v.list=w.list)(h5:v.pairs=w.pairs)(h6:v.slots=w.slots)(h7:v.raws=w.raws):v=w:=by
 exact Og
set_option maxHeartbeats 1000000 in
theorem u13 {M:Nat}:∀v:V,v.ok M->∀w:V,w.ok M->Qi prog 13 [v.av,w.av] (.bool (sm v w)):=by
 refine V.ind (P:=λv=>v.ok M->∀w:V,w.ok M->Qi prog 13 [v.av,w.av] (.bool (sm v w))) ?_;intro v hl hp hs hv w hw;have n1:=hv.nl;have n2:=hv.np;have n3:=hv.ns;have n4:=hv.nr;rw[show v.av=.agg (Kz v)from Qd v,show w.av=.agg (Kz w)from Qd w];by_cases a1:v.kd=w.kd
 case neg=>
  have d1:(v.kd != w.kd)=true:=Ő
  have s1:sm v w=false:=WY λe=>a1 Å
  rw[s1];refine wF func13 ?_;simp only[eK,Tryz.f13,seval];simp only[Kz,d1,eE,seval]
 have d1:(v.kd != w.kd)=false:=Ő
 by_cases a2:v.bits=w.bits
 case neg=>
  have d2:((v.bits:Int) != (w.bits:Int))=true:=ĵ
  have s1:sm v w=false:=WY λe=>a2 Å
  rw[s1];refine wF func13 ?_;simp only[eK,Tryz.f13,seval];simp only[Kz,d1,d2,eE,seval]
 have d2:((v.bits:Int) != (w.bits:Int))=false:=È
 by_cases a3:v.text=w.text
 case neg=>
  have d3:(v.text==w.text)=false:=by simp[a3]
  have s1:sm v w=false:=WY λe=>a3 Å
  rw[s1];refine wF func13 ?_;simp only[eK,Tryz.f13,seval];simp only[Kz,d1,d2,d3,QX,eE,seval]
 have d3:(v.text==w.text)=true:=by simp[a3]
 by_cases a4:v.list.length=w.list.length
 case neg=>
  have d4:((v.list.length:Int) != (w.list.length:Int))=true:=ĵ
  have s1:sm v w=false:=WY λe=>a4 Å
  rw[s1];refine wF func13 ?_;simp only[eK,Tryz.f13,seval];simp only[Kz,d1,d2,d3,d4,QX,Qn6,eE,seval]
 have d4:((v.list.length:Int) != (w.list.length:Int))=false:=È
 by_cases a5:v.pairs.length=w.pairs.length
 case neg=>
  have d5:((v.pairs.length:Int) != (w.pairs.length:Int))=true:=ĵ
  have s1:sm v w=false:=WY λe=>a5 Å
  rw[s1];refine wF func13 ?_;simp only[eK,Tryz.f13,seval];simp only[Kz,d1,d2,d3,d4,d5,QX,Qn6,eE,seval]
 have d5:((v.pairs.length:Int) != (w.pairs.length:Int))=false:=È
 by_cases a6:v.slots.length=w.slots.length
 case neg=>
  have d6:((v.slots.length:Int) != (w.slots.length:Int))=true:=ĵ
  have s1:sm v w=false:=WY λe=>a6 Å
  rw[s1];refine wF func13 ?_;simp only[eK,Tryz.f13,seval];simp only[Kz,d1,d2,d3,d4,d5,d6,QX,Qn6,eE,seval]
 have d6:((v.slots.length:Int) != (w.slots.length:Int))=false:=È
 by_cases a7:v.raws.length=w.raws.length
 case neg=>
  have d7:((v.raws.length:Int) != (w.raws.length:Int))=true:=ĵ
  have s1:sm v w=false:=WY λe=>a7 Å
  rw[s1];refine wF func13 ?_;simp only[eK,Tryz.f13,seval];simp only[Kz,d1,d2,d3,d4,d5,d6,d7,QX,Qn6,eE,seval]
 have d7:((v.raws.length:Int) != (w.raws.length:Int))=false:=È
 generalize hr:sm v w=r;refine wF func13 ?_;simp only[eK,Tryz.f13,seval];simp only[Kz,d1,d2,d3,d4,d5,d6,d7,QX,Qn6,eE,seval];refine QeO v w _ ω ω _ ω ω _ a4 ώ (λx hx y hy=>hl x hx (hv.list x hx) y (hw.list y hy)) ω (λf h2 h3 b1=>?_) (λf h4 b1=>?_)
 case refine_2=>
  rw[WY λe=>b1 Å]at hr;exact H_
 simp only[Qa,seval];refine QbJ v w _ ω ω _ Υ ϖ _ a5 ώ (λx hx y hy=>⟨(hp x hx).1 (hv.keys x hx) y.1 (hw.keys y hy),(hp x hx).2 (hv.vals x hx) y.2 (hw.vals y hy)⟩) ω (λf h2 h3 b2=>?_) (λf h4 b2=>?_)
 case refine_2=>
  rw[WY λe=>b2 Å]at hr;exact H_
 simp only[Qa,seval];refine QbK v w _ ω ω _ Υ ϖ _ a6 ώ (λx hx y hy=>hs x hx (hv.slots x hx) y.2 (hw.slots y hy)) ω (λf h2 h3 b3=>?_) (λf h4 b3=>?_)
 case refine_2=>
  rw[WY λe=>b3 Å]at hr;exact H_
 simp only[Qa,seval];refine QeP v w _ ω ω _ Υ ϖ _ a7 ώ ω (λf h2 h3 b4=>?_) (λf h4 b4=>?_)
 case refine_2=>
  rw[WY λe=>b4 Å]at hr;exact H_
 rw[R6 (V.ext7 a1 a2 a3 b1 b2 b3 b4)]at hr;subst hr;simp only[Qa,seval]
end Va
namespace Cl
open Go Am Rc Bt
def Fb {sz:Nat}(h0:sz≠0){xs:List AV}(h:xs.all (λe=>e.cells.length==sz)=true)(hf:QU xs=[]):xs=[]:=by
 cases xs with
 |nil=>rfl
 |cons x xs=>
  have hl:x.cells.length=sz:=ü
  have:x.cells=[]:=(List.append_eq_nil_iff.1 hf).1;rw[this]at hl;exact absurd hl.symm h0
def Fc (sz:Nat)(args:List AV)(m:Qk):Option (AV×Qk) :=
 match args,m with
 | [.list xs],fr :: m=>bif xs.all (λe=>e.cells.length==sz)&&Nat.ble xs.length 1000000&&Qn (fr 1000)then some (.vec 0 1000 (XO (fr 1000)) 0 xs.length false,QL fr 1000 (.vec (XO (fr 1000)) sz xs) :: m)else none
 |_,_=>none
def Fe {P:Program}{k sz:Nat}(hk:∀(xs:List AV) (fr:Nat->Ob) (m:Qk),xs.all (λe=>e.cells.length==sz)=true->xs.length<=1000000->Qn (fr 1000)=true->
  Qf P k [.list xs] (fr :: m) (λx m1=>x=.vec 0 1000 (XO (fr 1000)) 0 xs.length false/\m1=QL fr 1000 (.vec (XO (fr 1000)) sz xs) :: m)) {args:List AV} {m m':Qk} {v:AV} (h:Fc sz args m=some (v,m')):Qf P k args m λx m1=>x=v/\m1=m':=by
 unfold Fc at h;split at h
 ·rename_i xs fr m0;cases hb:(xs.all (λe=>e.cells.length==sz)&&Nat.ble xs.length 1000000&&Qn (fr 1000))with
  |false=>rw[hb]at h;cases h
  |true=>
   rw[hb]at h;simp only[cond_true,QnC,QoI]at h;simp only[Qnz]at hb;obtain⟨rfl,rfl⟩:=h;exact hk xs fr m0 hb.1.1 (QoG hb.1.2) hb.2
 ·cases h
def c51 (xs:List AV)(fr:Nat->Ob)(m:Qk)(h:xs.all (λe=>e.cells.length==4)=true)(hn:xs.length<=1000000)(hr:Qn (fr 1000)=true) :
  Qf prog 51 [.list xs] (fr :: m) (λx m1=>x=.vec 0 1000 (XO (fr 1000)) 0 xs.length false/\m1=QL fr 1000 (.vec (XO (fr 1000)) 4 xs) :: m):=by
 have eH:QB (fr :: m) 0 1000=XO (fr 1000):=Kp;refine k51.go ό ?_;simp only[r51,An,Ao,Qa,seval];refine KC (ys:=xs) ϋ ?_ ?_
 ·exact zq
 ·intro he;have hx:xs=[]:=by
   exact Ox
  subst hx;simp only[Ap,Qa,seval];refine ZW ϋ rfl ?_;simp only[Qa,seval];refine ZC (l:=0) (site:=2) (g:=1) (o:=0) (n:=0) (q:=false) (sz:=4) (xs:=[]) ϋ ϋ ό ϊ hr ?_;simp only[eH,SA,eE,seval]
  try simp[AV.still,AV.un,ZO,XZ]
def c95 (xs:List AV)(fr:Nat->Ob)(m:Qk)(h:xs.all (λe=>e.cells.length==8)=true)(hn:xs.length<=1000000)(hr:Qn (fr 1000)=true) :
  Qf prog 95 [.list xs] (fr :: m) (λx m1=>x=.vec 0 1000 (XO (fr 1000)) 0 xs.length false/\m1=QL fr 1000 (.vec (XO (fr 1000)) 8 xs) :: m):=by
 have eH:QB (fr :: m) 0 1000=XO (fr 1000):=Kp;refine k95.go ό ?_;simp only[Ia,C4,C5,Qa,seval];refine KC (ys:=xs) ϋ ?_ ?_
 ·exact zt
 ·intro he;have hx:xs=[]:=by
   exact Ox
  subst hx;simp only[Av,Qa,seval];refine ZW ϋ rfl ?_;simp only[Qa,seval];refine ZC (l:=0) (site:=2) (g:=1) (o:=0) (n:=0) (q:=false) (sz:=8) (xs:=[]) ϋ ϋ ό ϊ hr ?_;simp only[eH,MP,eE,seval]
  try simp[AV.still,AV.un,ZO,XZ]
def Qlm (xs:List AV)(fr:Nat->Ob)(m:Qk)(h:xs.all (λe=>e.cells.length==7)=true)(hn:xs.length<=1000000)(hr:Qn (fr 1000)=true) :
  Qf prog 149 [.list xs] (fr :: m) (λx m1=>x=.vec 0 1000 (XO (fr 1000)) 0 xs.length false/\m1=QL fr 1000 (.vec (XO (fr 1000)) 7 xs) :: m):=by
 have eH:QB (fr :: m) 0 1000=XO (fr 1000):=Kp;refine Qat.go ό ?_;simp only[Aw,MQ,MS,Qa,seval];refine KC (ys:=xs) ϋ ?_ ?_
 ·exact zp
 ·intro he;have hx:xs=[]:=by
   exact Ox
  subst hx;simp only[MT,Qa,seval];refine ZW ϋ rfl ?_;simp only[Qa,seval];refine ZC (l:=0) (site:=2) (g:=1) (o:=0) (n:=0) (q:=false) (sz:=7) (xs:=[]) ϋ ϋ ό ϊ hr ?_;simp only[eH,Vt,eE,seval]
  try simp[AV.still,AV.un,ZO,XZ]
end Cl
namespace Ew
open Go Am Rc Cl
def nat:YW:=λk args m=>
 if k=51 then Fc 4 args m
 else if k=95 then Fc 8 args m
 else if k=149 then Fc 7 args m
 else none
def nat_ok:YS prog nat:=by
 intro k args m v m' h;unfold nat at h;split at h
 ·rename_i e;subst e;exact Fe c51 h
 split at h
 ·rename_i e;subst e;exact Fe c95 h
 split at h
 ·rename_i e;subst e;exact Fe Qlm h
 ·cases h
end Ew
namespace Rc
open Go Am
noncomputable abbrev r7:RC:=Cg.cd [] [(1,[(2,.bv)]),(2,[(2,.lv 0 1),(3,.ro (.callO 0 8 (.f 9) [(.t 11),(.t 12),(.c (.str [77])),(.t 13),(.c (.int .i64 2))])),(8,.lv 0 2)]),(4,[(2,.lv 0 1),(3,.ro (.callO 0 8 (.f 9) [(.t 23),(.t 24),(.c (.str [77])),(.t 25),(.c (.int .i64 1))])),(8,.lv 0 4)])] [] [] (Cg.bo Tryz.f7.body)
def o7:List RR:=[.tmp 0]
def k7:CK prog 7 59 r7 o7:=ck func7 ntmps7 (by decide +kernel)
noncomputable abbrev r9:RC:=Cg.cd [] [(12,[(1,.lv 0 5),(2,.lv 0 6),(5,.lv 0 5),(7,.lv 0 8),(8,.ro (.callO 1 8 (.f 24) [(.t 62),(.t 63),(.t 64)])),(9,.cc),(12,.lv 0 10)])] [] [] (Cg.bo Tryz.f9.body)
def o9:List RR:=[.cell 10 (some 7),.tmp 11]
def k9:CK prog 9 69 r9 o9:=ck func9 ntmps9 (by decide +kernel)
noncomputable abbrev r24:RC:=Cg.cd [] [(4,[(2,.cf)]),(7,[(1,.lv 0 3),(4,.lr),(6,.lv 0 9),(12,.lv 0 10)])] [(1,[.vecc 7 5 1100 8])] [] (Cg.bo Tryz.f24.body)
def o24:List RR:=[.cell 6 (some 7)]
def k24:CK prog 24 86 r24 o24:=ck func24 ntmps24 (by decide +kernel)
noncomputable abbrev r52:RC:=Cg.cd [] [(7,[(7,.lv 0 6),(13,.lr)])] [(3,[.vec 4 4 8])] [] (Cg.bo f52.body)
def o52:List RR:=[.tmp 2]
def k52:CK prog 52 40 r52 o52:=ck func52 ntmps52 (by decide +kernel)
end Rc
namespace Ew
open Go Am Rc Cl Bt
def Qln {P:Program}{f:Fr}{m:Qk}{ds:List DF}{K:St->Prop}{its:List Am.Item}{d:Nat}{sz bytes el:Nat}{s r:RA}{site g n:Nat}{fr:Nat->Ob}{xs ys:List AV}(hs:s.ev f=.vec 0 site g 0 n false)(hl:fr site=.vec g sz xs)(ht:Zv site el=true)(hn:n=xs.length)(hr:Xc (fr :: m) (r.ev f)=some ys)(hz:ys.all (λe=>e.cells.length==sz)=true)(hm:n+ys.length<=maxLen)(hb:(n+ys.length)*bytes<=140737488355328)
  (h:QF P its ⟨QL f d (.vec 0 site (g+1) 0 (n+ys.length) false),QL fr site (.vec (g+1) sz (xs++ys)) :: m,ds⟩ K):QF P (⟨some d,.app sz bytes el s r,none⟩ :: its) ⟨f,fr :: m,ds⟩ K:=by
 refine⟨0,site,g,n,xs,ys,hs,hl,ht,ψ,hr,hz,hm,hb,?_⟩;subst hn;rw[QoT];exact h
def Qlo {P:Program}{f:Fr}{m:Qk}{ds:List DF}{K:St->Prop}{its:List Am.Item}{d:Nat}{neg:Bool}{r:RA}{l s g o n:Nat}{q:Bool}{ys:List AV}(hv:r.ev f=.vec l s g o n q)(hr:Xc m (.vec l s g o n q)=some ys)(h0:QU ys≠[])(h:QF P its ⟨QL f d (.bool neg),m,ds⟩ K):QF P (⟨some d,.isnil neg r,none⟩ :: its) ⟨f,m,ds⟩ K :=
 ⟨ys,by show Xc m (r.ev f)=some ys;rw[hv];exact hr,λ_=>h,λe=>by
  rcases e with e|e
  ·have e:r.ev f=.nils:=e;rw[hv]at e;cases e
  ·exact absurd e h0⟩
def cv (xs:List AV)(fr:Nat->Ob)(m:Qk)(l s g:Nat)(hx:QU xs≠[])(hl:Am.Qc (fr :: m) l s=.vec g 8 xs)(h:xs.all (λe=>e.cells.length==8)=true)(hn:xs.length<=1000000)(hr:Qn (fr 1000)=true) :
  Qf prog 95 [.vec l s g 0 xs.length false] (fr :: m) (λx m1=>x=.vec 0 1000 (XO (fr 1000)) 0 xs.length false/\m1=QL fr 1000 (.vec (XO (fr 1000)) 8 xs) :: m):=by
 have eH:QB (fr :: m) 0 1000=XO (fr 1000):=Kp;have he:∀bA:Nat->Ob,Xc (bA :: fr :: m) (.vec (l+1) s g 0 xs.length false)=some xs:=by
  intro bA;have og:Am.Qc (bA :: fr :: m) (l+1) s=.vec g 8 xs:=hl;simp only[Xc,og];simp
 refine k95.go ό ?_;simp only[Ia,C4,C5,Qa,Nat.reduceBEq];refine Qlo (l:=l+1) (s:=s) (g:=g) (o:=0) (n:=xs.length) (q:=false) (ys:=xs) ω (he _) hx ?_
 ·simp only[C6,Qa,Nat.reduceBEq];refine Jt rfl ?_;simp only[Qa,Nat.reduceBEq];refine Qln (site:=5) (g:=1) (xs:=[]) (ys:=xs) rfl rfl rfl rfl (he _) h Δ Ϗ ?_;simp only[Qa,Nat.reduceBEq,Nat.reduceAdd];refine ZC (l:=0) (site:=5) (g:=2) (o:=0) (n:=xs.length) (q:=false) (sz:=8) (xs:=xs) (by simp only[QnA,Qa,Nat.reduceBEq]) (by simp only[Qa,Nat.reduceBEq]) ό ϊ hr ?_;simp only[eH,MP,eE,Nat.reduceBEq,Nat.reduceAdd]
  try simp[AV.un,ZO,XZ]
def V4 (args:List AV)(m:Qk):Option (AV×Qk) :=
 match args,m with
 | [.vec l s g 0 n false],fr :: m=>match Am.Qc (fr :: m) l s with
  |.vec g' sz xs=>bif g==g'&&sz==8&&n==xs.length && !(QU xs).isEmpty&&xs.all (λe=>e.cells.length==8)&&Nat.ble xs.length 1000000&&Qn (fr 1000)then some (.vec 0 1000 (XO (fr 1000)) 0 xs.length false,QL fr 1000 (.vec (XO (fr 1000)) 8 xs) :: m)else none
  |_=>none
 |_,_=>none
def Eo {args:List AV}{m m':Qk}{v:AV}(h:V4 args m=some (v,m')):Qf prog 95 args m λx m1=>x=v/\m1=m':=by
 unfold V4 at h;split at h
 ·rename_i l s g n fr m;split at h
  ·rename_i g' sz xs hl;cases hb:(g==g'&&sz==8&&n==xs.length && !(QU xs).isEmpty&&xs.all (λe=>e.cells.length==8)&&Nat.ble xs.length 1000000&&Qn (fr 1000))with
   |false=>rw[hb]at h;cases h
   |true=>
    rw[hb]at h;simp only[cond_true,QnC,QoI]at h;obtain⟨rfl,rfl⟩:=h;simp only[Qnz,Qng,Qn9,List.isEmpty_eq_false_iff]at hb;obtain⟨⟨⟨⟨⟨⟨rfl,rfl⟩,rfl⟩,h4⟩,h5⟩,h6⟩,h7⟩:=hb;exact cv xs fr m l s g h4 hl h5 (QoG h6) h7
  ·cases h
 ·cases h
def QbL:YW:=λk args m=>match (if k=95 then V4 args m else none)with
 |some y=>some y
 |none=>nat k args m
def QeQ:YS prog QbL:=by
 intro k args m v m' h;unfold QbL at h;split at h
 ·rename_i y e;cases h;split at e
  ·rename_i ek;subst ek;exact Eo e
  ·cases e
 ·exact nat_ok _ _ _ _ _ h
noncomputable def QbM:Ci:=λk=>match k with
 |7=>some (r7,o7,59)
 |9=>some (r9,o9,69)
 |24=>some (r24,o24,86)
 |52=>some (r52,o52,40)
 |_=>Ev.tab k
def QeR:Fp prog QbM:=by
 intro k c rs N h;unfold QbM at h;split at h
 ·cases h;exact k7
 ·cases h;exact k9
 ·cases h;exact k24
 ·cases h;exact k52
 ·exact Ev.QfE _ _ _ _ h
def Qac:evT QbL QbM 60000 7 []=true:=by decide +kernel
def WZ:Qi prog 7 [] (.bool true):=Al QeQ QeR Qac
end Ew
namespace Va
open Go Am Rc Bt Br Up So Vp Cp
def QeS (v:V):sm v v=true:=by unfold sm;simp
def R7 {M:Nat}(P:PL)(hP:P.ok M)(hM:M<=140737488351232):Qi prog 5 [P.av] (.bool (decide ((P.progs.length:Int)<=8)&&decide ((P.enums.length:Int)<=8)&&ck P==0)):=by
 have e0:P.av=.agg [.list (P.progs.map Qm),.list (P.enums.map QH)]:=rfl;have ct:=z15 P hP hM;rw[e0]at ct;refine wF func5 ?_;simp only[eK,Tryz.f5,seval];simp only[e0,Qn6,eE,seval];cases a1:decide ((P.progs.length:Int)<=8)
 ·exact ST
 cases a2:decide ((P.enums.length:Int)<=8)
 ·simp only[a2,QoW,QoJ,Qn6,eE,seval]
 simp only[a2,QoW,Qn6,eE,seval];refine aC ct ?_;simp only[Qa,seval]
def w6 {M:Nat}(hM:M<=9223372036854775807)(v:V)(hv:v.ok M)(hb:v.cnt<=1048576):Qi prog 6 [v.av] (.bool (decide ((v.cnt:Int)<=300)&&decide (IntKind.i64.wrap (v.sz:Int)<=20000))):=by
 have c1:=v16 v hv;have w0:IntKind.i64.wrap (v.cnt:Int)=(v.cnt:Int):=ϐ
 rw[w0]at c1;have c2:=w17 hM v hv;rw[Qd v]at c1 c2;rw[Qd v];refine wF func6 ?_;simp only[eK,Tryz.f6,seval];simp only[eE,seval];refine aC c1 ?_;cases d:decide ((v.cnt:Int)<=300)
 ·simp only[d,QoJ,Qa,seval]
 simp only[d,QoW,eE,seval];refine aC c2 ?_;simp only[Qa,seval]
section
variable {M:Nat}(W R:PL)(hW:W.ok M)(hR:R.ok M)(h1:65536<=M)(hM:M<=140737488351232)(s:List UInt8)(v:V)(hv:v.ok M)(hb:v.cnt<=1048576)
end
def Qad {M:Nat}:∀v:V,v.ok M->v.sz<=M*v.cnt:=by
 refine V.ind (P:=λv=>v.ok M->v.sz<=M*v.cnt) ?_;intro v hl hp hs hv;rw[Ef,Q8];have h1:∀l:List V,(∀x∈l,x.sz<=M*x.cnt)->Ug l<=M*Q9 l:=by
  intro l
  induction l with
  |nil=>intro _;exact Qnk _
  |cons x l ih=>
   intro h;have:=ih λy hy=>h y ϳ
   have:=h x ό;simp only[Ug,Q9,Nat.mul_add];omega
 have h2:∀l:List (V×V),(∀x∈l,x.1.sz<=M*x.1.cnt/\x.2.sz<=M*x.2.cnt)->U8 l<=M*Xo l:=by
  intro l
  induction l with
  |nil=>intro _;exact Qnk _
  |cons x l ih=>
   intro h;have:=ih λy hy=>h y ϳ
   have:=h x ό;obtain⟨p,q⟩:=x;simp only[U8,Xo,Nat.mul_add];dsimp only at *;omega
 have h3:∀l:List (Int×V),(∀x∈l,x.2.sz<=M*x.2.cnt)->Hy l<=M*Xk l:=by
  intro l
  induction l with
  |nil=>intro _;exact Qnk _
  |cons x l ih=>
   intro h;have:=ih λy hy=>h y ϳ
   have:=h x ό;obtain⟨p,q⟩:=x;simp only[Hy,Xk,Nat.mul_add];dsimp only at *;omega
 have h4:∀l:List R,(∀f∈l,f.data.length<=M)->Gb l<=M*l.length:=by
  intro l
  induction l with
  |nil=>intro _;exact Qnk _
  |cons f l ih=>
   intro h;have:=ih λy hy=>h y ϳ
   have:=h f ό;simp only[Gb,Qnq,Nat.mul_add,Nat.mul_one];omega
 have a1:=h1 _ λx hx=>hl x hx (hv.list x hx)
 have a2:=h2 _ λx hx=>⟨(hp x hx).1 (hv.keys x hx),(hp x hx).2 (hv.vals x hx)⟩
 have a3:=h3 _ λx hx=>hs x hx (hv.slots x hx)
 have a4:=h4 _ λf hf=>(hv.raws f hf).data
 have a5:=hv.text;simp only[Nat.mul_add,Nat.mul_one];omega
def FM (W R:PL)(N:Nat)(s:List UInt8)(v:V):V×Int :=
 if Qr s W<0\/Qr s R<0 then(QC 0 0 [],10)
 else if Zm W (Qr s W) v≠0 then(QC 0 0 [],Zm W (Qr s W) v)
 else((ZV R N s (QW W 16 (Qr s W) v) Qq).1,((ZV R N s (QW W 16 (Qr s W) v) Qq).2:Int))
def TN (r:V×Int):AV:=.tup [r.1.av,.int .i64 r.2]
section
variable {M N:Nat}(hM:M<=140737488351232)(hm:65536<=M)(hN:65536<N)(W R:PL)(hW:W.ok M)(hR:R.ok M)(hw:ck W=0)(hr:ck R=0)
theorem R8 {P:PL}{t:Int}{v:V}(h:Zm P t v=0)(hc:v.cnt<=1048576):v.cnt<=4096:=by
 unfold Zm at h;split at h
 ·omega
 split at h
 ·split at h
  ·omega
  ·rename_i h1;rw[QD]at h1;omega
 ·rename_i h1;exact absurd h h1
include hM hm hN hW hR hw hr in
theorem vw9 (s:List UInt8)(v:V)(hv:v.ok M)(hc:v.cnt<=1048576)(cE:Zm W (Qr s W) v=0->(QW W 16 (Qr s W) v).length<=65536):Qi prog 9 [W.av,R.av,.str s,v.av,.int .i64 1] (TN (FM W R N s v)):=by
 have z0:(QC 0 0 []).av=.agg [.int .i64 0,.int .u64 0,.str [],.list [],.list [],.list [],.list []]:=Qd _;have f1:=SL W hW.len1 s;have f2:=SL R hR.len1 s;have f3:=v23 hW (ZF hw) (Qr s W) v hv;unfold F3 at f1 f2;rw[show Zn (λg:PG=>g.name==s) W.progs 0=Qr s W from rfl]at f1;rw[show Zn (λg:PG=>g.name==s) R.progs 0=Qr s R from rfl]at f2;unfold FM;by_cases hp:Qr s W<0\/Qr s R<0
 ·rw[Qnj hp];have d1:(!decide (Qr s W>=0))=true\/decide (Qr s W>=0)=true/\decide (Qr s R>=0)=false:=by
   by_cases h:Qr s W>=0
   ·exact .inr ⟨Qpe h,Qo8 ψ⟩
   ·exact .inl (by rw[Qo8 h];rfl)
  rw[show W.av=.agg (Xh W)from rfl]at f1;rw[show R.av=.agg (Xh R)from rfl]at f2;rw[show W.av=.agg (Xh W)from rfl,show R.av=.agg (Xh R)from rfl,Qd v];simp only[Xh]at f1 f2;refine wF func9 ?_;simp only[eK,Tryz.f9,seval];simp only[Xh,eE,seval];refine BS ω ?_;refine J0 (l:=0) (s:=19) (p:=0) (ks:=[]) (vs:=[]) (k:=.n 1) ω ω rfl rfl rfl rfl rfl ?_;refine J0 (l:=0) (s:=19) (p:=0) (ks:=[.n 1]) (vs:=[.fn (.func 19) [] []]) (k:=.n 2) ω ω rfl rfl rfl rfl rfl ?_;refine J0 (l:=0) (s:=19) (p:=0) (ks:=[.n 1,.n 2]) (vs:=[.fn (.func 19) [] [],.fn (.func 20) [] []]) (k:=.n 4) ω ω rfl rfl rfl rfl rfl ?_;simp only[K3,Am.Wk,keys,Zy,KB,MK.eq,MK.t,Qoo,Qop,AV.gr,List.isEmpty_nil,Bool.and_self,Qom,cond_true,cond_false,eE,seval];refine aC f1 ?_;simp only[eE,seval];refine aC f2 ?_;rcases d1 with d1|⟨d1,d2⟩
  ·simp only[d1,TN,z0,eE,seval]<;>rfl
  ·simp only[d1,d2,QoX,Qok,TN,z0,eE,seval]<;>rfl
 rw[Qni hp];have ha:0<=Qr s W/\Qr s W<(W.progs.length:Int):=by
  rcases Z9 s W with h|h
  ·omega
  ·exact h
 have hb:0<=Qr s R/\Qr s R<(R.progs.length:Int):=by
  rcases Z9 s R with h|h
  ·omega
  ·exact h
 rw[Qni ψ,Qpe ha.1]at f1;rw[Qni ψ,Qpe hb.1]at f2;by_cases hf:Zm W (Qr s W) v=0
 ·have hl:=cE hf;have hc:=R8 hf hc;have he:(Ub W s v).2=0/\(Ub W s v).1=QW W 16 (Qr s W) v:=by
   unfold Ub;rw[Qni ψ,Qni (λg=>g hf),Qni ψ];exact⟨rfl,rfl⟩
  have:=c9 (N:=N) hM hm hN W R hW hR hw hr s hb.1 v hv hc he.1;rw[he.2]at this;rw[Qni (λg=>g hf)];exact this
 ·rw[Qnj hf];have b0:(Zm W (Qr s W) v != 0)=true:=by simp[hf]
  rw[show W.av=.agg (Xh W)from rfl]at f1 f3;rw[show R.av=.agg (Xh R)from rfl]at f2;rw[show W.av=.agg (Xh W)from rfl,show R.av=.agg (Xh R)from rfl,Qd v];rw[Qd v]at f3;simp only[Xh]at f1 f2 f3;refine wF func9 ?_;simp only[eK,Tryz.f9,seval];simp only[Xh,eE,seval];refine BS ω ?_;refine J0 (l:=0) (s:=19) (p:=0) (ks:=[]) (vs:=[]) (k:=.n 1) ω ω rfl rfl rfl rfl rfl ?_;refine J0 (l:=0) (s:=19) (p:=0) (ks:=[.n 1]) (vs:=[.fn (.func 19) [] []]) (k:=.n 2) ω ω rfl rfl rfl rfl rfl ?_;refine J0 (l:=0) (s:=19) (p:=0) (ks:=[.n 1,.n 2]) (vs:=[.fn (.func 19) [] [],.fn (.func 20) [] []]) (k:=.n 4) ω ω rfl rfl rfl rfl rfl ?_;simp only[K3,Am.Wk,keys,Zy,KB,MK.eq,MK.t,Qoo,Qop,AV.gr,List.isEmpty_nil,Bool.and_self,Qom,cond_true,cond_false,eE,seval];refine aC f1 ?_;simp only[eE,seval];refine aC f2 ?_;simp only[eE,seval];refine aC f3 ?_;simp only[b0,TN,z0,eE,seval]<;>rfl
end
def Ep {fr:Nat->Ob}{a b:Nat}(h1:(fr a).isRow=false)(h2:(fr b).isRow=false):∀s∈[a,b],(fr s).isRow=false:=by
 exact T_
def Qlp (v:V)(n:Int)(k:Nat)(st:St):Prop :=
 ∃f fr i,st=⟨f,[fr],[]⟩/\k=v.slots.length-i/\i<=v.slots.length/\((v.slots.find? λs=>s.1==n)=(v.slots.drop i).find? λs=>s.1==n)/\f 1=.int .i64 n/\f 2=.ptr 0 2 0/\f 4=.ptr 0 4 0/\f 6=.int .i64 (i:Nat)/\fr 2=.cells (vc v)/\fr 4=.cells JY
def y12 (v:V)(n:Int)(hl:v.slots.length<=1099511627776):Qi prog 12 [v.av,.int .i64 n] (.tup [(QK v n).av,.bool (XN v n).isSome]):=by
 rw[Qd v];refine wF func12 ?_;simp only[eK,Tryz.f12,seval];simp only[eE,seval];refine Qj (Qlp v n) _ ⟨_,_,0,rfl,rfl,Qnk _,rfl,ω,ω,ω,ω,ω,ω⟩ ?_;rintro _ st ⟨f,fr,i,rfl,rfl,bg,bu,h1,h2,h4,h6,lD,dh⟩;have m2:=lD;have m4:=dh;simp only[vc]at m2;simp only[JY]at m4;simp only[Qn6,h2,h6,m2,eE,seval];by_cases aa:i<v.slots.length
 ·obtain⟨x,hi⟩:∃x,v.slots[i]? = some x:=⟨v.slots[i],Qnb aa⟩;have hg:=Wy hi;have e1:=Qv i _ aa ώ;rcases LI hi bu with⟨hb,bE,fT⟩|⟨hb,jK⟩
  ·rw[bE,fT,Qd x.2];simp only[QE aa,Qs,QoF,Qg,hg,hb,Qo9,h1,h2,h4,h6,m2,m4,eE,seval]
  ·simp only[QE aa,Qs,QoF,Qg,hg,hb,h1,h2,h6,e1,m2,eE,seval];exact⟨v.slots.length-(i+1),ψ,_,_,i+1,rfl,rfl,ψ,jK,ϕ,Υ,Ϡ,ω,(by exact lD),Î⟩
 ·obtain⟨bE,fT⟩:=Te aa bu;rw[bE,fT,show(QC 0 0 []).av=.agg [.int .i64 0,.int .u64 0,.str [],.list [],.list [],.list [],.list []]from Qd _];simp only[QM aa,Qn1,h4,m4,eE,seval]
structure PsF (Q:PL)(b n:V)(tr:Int)(f:Fr)(fr:Nat->Ob):Prop where
 f5:f 5=.ptr 0 5 0
 f11:f 11=.int .i64 tr
 f15:f 15=.ptr 0 15 0
 f16:f 16=.ptr 0 16 0
 m5:fr 5=.cells (Xh Q)
 m15:fr 15=.cells (vc b)
 m16:fr 16=.cells (vc n)
def Ps1 (Q:PL)(b n:V)(tr:Int)(k:Nat)(st:St):Prop :=
 ∃f fr i,st=⟨f,[fr],[]⟩/\k=n.slots.length-i/\i<=n.slots.length/\PsF Q b n tr f fr/\f 17=.int .i64 (i:Nat)/\∀q∈[20,18],(fr q).isRow=false
section
variable (Q:PL)(b n:V)(tr:Int)
def Qg9 {cL:RC}(hg:(Q.progs.map Qm)[tr.toNat]? = some (.agg [.str (Qe Q tr).name,.list ((Qe Q tr).ops.map λo=>.agg o.cells),.int .i64 (Qe Q tr).unions]))(q0:(0<=tr)=True)(bH:n.slots.length<=1048576)
  (c8:∀x:Int,Qi prog 11 [.agg [.str (Qe Q tr).name,.list ((Qe Q tr).ops.map λo=>.agg o.cells),.int .i64 (Qe Q tr).unions],.int .i64 x] (.tup [.agg ((Xd (Qe Q tr) x).getD HR).cells,.bool (Xd (Qe Q tr) x).isSome]))
  (c9:∀x:Int,Qi prog 12 [b.av,.int .i64 x] (.tup [(QK b x).av,.bool (XN b x).isSome]))
  (dN:∀x∈n.slots,Qi prog 13 [x.2.av,x.2.av] (.bool true))
  (hp:∀u∈n.slots,Xd (Qe Q tr) u.1=none->XN b u.1=some u.2)
  (K:Exit->St->Prop) (f:Fr) (fr:Nat->Ob) (hI:Ps1 Q b n tr n.slots.length ⟨f,[fr],[]⟩) (q:∀f fr,K (.exit 0) (⟨f,[fr],[]⟩:St)) (bU:lp 3 0 Tryz.f3=cL:=by simp only[eL,eK,Tryz.f3,seval]) :
  Q1 prog (.loop cL) ⟨f,[fr],[]⟩ K:=by
 subst bU;simp only[eL,eK,Tryz.f3,seval];refine Qj (Ps1 Q b n tr) _ hI ?_;clear hI;rintro _ st ⟨f0,bA,i,rfl,rfl,bg,⟨bL,aU,gz,gm,bK,oT,oN⟩,fy,r⟩;refine QR (a:=_) [20,18] r ?_;intro f fr hf hm hn;have h5:f 5=.ptr 0 5 0:=Θ
 have aI:f 11=.int .i64 tr:=Ë
 have gL:f 15=.ptr 0 15 0:=by rw[hf,gz]<;>rfl
 have fM:f 16=.ptr 0 16 0:=by rw[hf,gm]<;>rfl
 have dZ:f 17=.int .i64 (i:Nat):=ņ
 have bh:fr 5=.cells (Xh Q):=Ϸ
 have mG:fr 15=.cells (vc b):=by rw[hm 15 ϊ,oT]<;>rfl
 have nE:fr 16=.cells (vc n):=by rw[hm 16 ϊ,oN]<;>rfl
 have wB:=hn 18 ϊ;have vq:=hn 20 ϊ;clear hf hm hn bL aU gz gm fy bK oT oN r;have m5:=bh;have m15:=mG;have m16:=nE;simp only[Xh]at m5;simp only[vc]at m15 m16;simp only[Qn6,fM,dZ,m16,eE,seval];by_cases aa:i<n.slots.length
 ·obtain⟨x,hi⟩:∃x,n.slots[i]? = some x:=⟨n.slots[i],Qnb aa⟩;have hx:=Qnp hi;have iN:=Wy hi;have e1:=Qv i _ aa ώ;have c1:=c8 x.1;have c2:=c9 x.1;have c3:=dN x hx;have nY:=hp x hx;generalize (Xd (Qe Q tr) x.1).getD HR=o' at c1;simp only[PO.cells]at c1;rw[Qd b,Qd (QK b x.1)]at c2;rw[Qd x.2]at c3;simp only[QE aa,Qs,q0,QoF,Qg,iN,hg,h5,aI,fM,dZ,m5,m16,eE,seval];refine aC c1 ?_;simp only[Qs,QoF,Qg,iN,wB,gL,fM,dZ,m15,m16,eE,seval];refine aC c2 ?_;cases hs:(Xd (Qe Q tr) x.1).isSome
  ·have ho:Xd (Qe Q tr) x.1=none:=by
    cases hq:Xd (Qe Q tr) x.1 with
    |none=>rfl
    |some o=>rw[hq]at hs;cases hs
   have hf:=nY ho;have fI:QK b x.1=x.2:=by unfold QK;rw[hf];rfl
   rw[hf,fI];simp only[Qs,QoF,Qg,iN,vq,Qo9,Qok,QoX,fM,dZ,m16,eE,seval];refine aC c3 ?_;simp only[QoX,dZ,e1,Qa,seval];exact yZ
  ·simp only[vq,QoX,dZ,e1,eE,seval];exact yZ
 ·simp only[QM aa,Qa,seval];exact q _ _
end
section
variable {M:Nat}(W Q:PL)(hW:W.ok M)(hQ:Q.ok M)(h1:65536<=M)(hM:M<=17592186044000)(s:List UInt8)(v:V)(hv:v.ok M)(hb:v.cnt<=1048576)
theorem TO {P:PL}(hk:ck P=0){t:Int}{v:V}(hc:v.cnt<=300)(hz:v.sz<=20000)(hf:Zm P t v=0):(QW P 16 t v).length<=26300:=by
 obtain⟨ht,mb⟩:=Jr hf;have h1:=QhL v;have:=RL (ZF hk) (Xf hk) 16 t v ht mb ψ;omega
include hW hQ h1 hM hv hb in
theorem c3:Qi prog 3 [W.av,Q.av,.str s,v.av] (.bool true):=by
 obtain⟨N,hN⟩:∃N,65536<N:=⟨65537,ψ⟩;have qL:M<=140737488351232:=ψ
 have c1:=R7 W hW qL;have c2:=R7 Q hQ qL;have c3:=w6 ψ v hv hb;have c4:=y8 W hW.len1 s;have c5:=y8 Q hQ.len1 s;have c6:=λ(hw:ck W=0) (hq:ck Q=0) (hc:v.cnt<=300) (hz:v.sz<=20000)=>vw9 (N:=N) qL h1 hN W Q hW hQ hw hq s v hv hb λhf=>by have:=TO hw hc hz hf;omega
 have c7:=λ(hw:ck W=0) (hq:ck Q=0)=>vw9 (N:=N) qL h1 hN Q W hQ hW hq hw s
 have aX:=Qad v hv;unfold F3 at c4 c5;rw[show Zn (λg:PG=>g.name==s) W.progs 0=Qr s W from rfl]at c4;rw[show Zn (λg:PG=>g.name==s) Q.progs 0=Qr s Q from rfl]at c5;have uU:∀(P R:PL) v a e,FM P R N s v=(a,e)->e=0->(0<=Qr s P/\Qr s P<(P.progs.length:Int))/\(0<=Qr s R/\Qr s R<(R.progs.length:Int))/\Zm P (Qr s P) v=0/\a=(ZV R N s (QW P 16 (Qr s P) v) Qq).1/\(ZV R N s (QW P 16 (Qr s P) v) Qq).2=0:=by
  intro P R v a e h he;unfold FM at h;split at h
  ·cases h;cases he
  rename_i hp;split at h
  ·rename_i hf;cases h;exact absurd he hf
  rename_i hf;cases h;have ha:=Z9 s P;have hb:=Z9 s R;exact⟨ψ,ψ,by simpa using hf,rfl,ψ⟩
 have pG:=uU W Q v;generalize FM W Q N s v=r at c6 pG;obtain⟨a,e⟩:=r;replace pG:=pG a e rfl;rw[show W.av=.agg (Xh W)from rfl]at c1 c4 c6 c7;rw[show Q.av=.agg (Xh Q)from rfl]at c2 c5 c6 c7;rw[Qd v]at c3 c6;rw[show W.av=.agg (Xh W)from rfl,show Q.av=.agg (Xh Q)from rfl,Qd v];simp only[TN,Qd a,Xh]at c1 c2 c4 c5 c6;refine wF func3 ?_;simp only[eK,Tryz.f3,seval];simp only[Xh,eE,seval];refine aC c1 ?_;cases a1:(decide ((W.progs.length:Int)<=8)&&decide ((W.enums.length:Int)<=8)&&ck W==0)
 ·simp only[Qa,seval];exact z_
 have hw:ck W=0:=by
  simp only[Qnz,Qng]at a1;exact a1.2
 simp only[eE,seval];refine aC c2 ?_;cases a2:(decide ((Q.progs.length:Int)<=8)&&decide ((Q.enums.length:Int)<=8)&&ck Q==0)
 ·simp only[Qa,seval];exact z_
 have hq:ck Q=0:=by
  simp only[Qnz,Qng]at a2;exact a2.2
 simp only[eE,seval];refine aC c3 ?_;cases a3:(decide ((v.cnt:Int)<=300)&&decide (IntKind.i64.wrap (v.sz:Int)<=20000))
 ·simp only[Qa,seval];exact z_
 simp only[Qnz,Qnf]at a3;have hc:v.cnt<=300:=ψ
 have hz:v.sz<=20000:=by
  have h2:v.sz<=17592186044000*300:=Qm9 aX (Nat.mul_le_mul hM hc);have:=a3.2;rw[QD]at this;omega
 simp only[eE,seval];refine aC c4 ?_;simp only[eE,seval];refine aC c5 ?_;simp only[eE,seval];refine aC (c6 hw hq hc hz) ?_;by_cases he:e=0
 case neg=>
  have b0:(e != 0)=true:=by simp[he]
  simp only[b0,eE,seval];exact z_
 obtain⟨ht,hu,hf,ea,hd⟩:=pG he;subst he;have dq:decide (Qr s Q>=0)=true:=Qpe hu.1;by_cases cX:v.raws=[]
 case neg=>
  have d1:decide ((v.raws.length:Int) > 0)=true:=Qpe (by have:=Qoy.2 cX;omega);simp only[dq,d1,QoX,bne_self_eq_false,Qn6,eE,seval];exact z_
 have d1:decide ((v.raws.length:Int) > 0)=false:=by rw[cX];rfl
 have cE:=TO hw hc hz hf;have oa:=VX (N:=N) h1 Q hQ hq hN s (QW W 16 (Qr s W) v) ψ;have ca:=Tp (N:=N) h1 Q hQ hq hN s (QW W 16 (Qr s W) v) Qq ψ ϊ ϊ;have na:=Qg4 (N:=N) h1 hQ hq hN (s:=s) (d:=QW W 16 (Qr s W) v) ψ hd;rw[<-ea]at oa ca na;have iF:Zm Q (Qr s Q) a=0->(QW Q 16 (Qr s Q) a).length<=65536:=λlO=>by
  obtain⟨jR,iU⟩:=Jr lO;have:=R8 lO ca;have:=RL (ZF hq) (Xf hq) 16 (Qr s Q) a jR iU ψ;omega
 have c8:=c7 hw hq a oa ca iF;have jC:=uU Q W a;generalize FM Q W N s a=r2 at c8 jC;obtain⟨b,e2⟩:=r2;replace jC:=jC b e2 rfl;simp only[TN,Qd a,Qd b,Xh]at c8;have jR:(if Qr s W<0 then 0 else Qr s W)=Qr s W:=Qni ψ;have lN:(if Qr s Q<0 then 0 else Qr s Q)=Qr s Q:=Qni ψ;simp only[dq,d1,jR,lN,QoX,bne_self_eq_false,Qn6,eE,seval];refine aC c8 ?_;by_cases gF:e2=0
 case neg=>
  have b0:(e2 != 0)=true:=by simp[gF]
  simp only[b0,eE,seval];exact z_
 obtain⟨_,_,lO,eb,fB⟩:=jC gF;subst gF;have hp:=Qg8 (N:=N) h1 hW hQ hw hq hN hv hc hf cX ψ hd ea.symm lO (iF lO) fB;have ob:=VX (N:=N) h1 W hW hw hN s (QW Q 16 (Qr s Q) a) (iF lO);rw[<-eb]at hp ob;obtain⟨_,mb⟩:=Jr hf;have w_:Qe Q (Qr s Q)∈Q.progs:=H6 hu;have c9:=v10 (M:=M) (ZF hw) (Xf hw) (Y6 hw) 16 (Qr s W) _ (Yv ht) ht.1 v hv ψ (Un _ _ _ mb);have oy:=Y5 (GR hW (Y6 hw)) 16 (Qr s W) v hv;have cy:=JQ (Xf hw) 16 _ (Zf (Xf hw) (Qr s W)) v;generalize nrm W 16 (Qe W (Qr s W)) v=n at c9 oy cy hp;have dN:=λx:Int=>y11 (Qe Q (Qr s Q)) ((hQ.progs _ w_).len) x
 have fN:=λx:Int=>y12 b x ob.ns
 have dS:=λ(x:Int×V) (hx:x∈n.slots)=>u13 x.2 (oy.slots x hx) x.2 (oy.slots x hx)
 simp only[QeS]at dS;have bH:=Zg n;rw[show W.av=.agg (Xh W)from rfl]at c9;rw[Qd v,Qd n]at c9;simp only[Uz,Qm,PG.cells,Qw]at dN;simp only[Xh]at c9;have gq:(Q.progs.map Qm)[(Qr s Q).toNat]? = some (.agg [.str (Qe Q (Qr s Q)).name,.list ((Qe Q (Qr s Q)).ops.map λo=>.agg o.cells),.int .i64 (Qe Q (Qr s Q)).unions]):=by rw[QoA,Yv hu];rfl
 have q0:(0<=Qr s Q)=True:=eq_true hu.1;simp only[bne_self_eq_false,eE,seval];refine aC c9 ?_;simp only[eE,seval];generalize Qr s W=tw at *;generalize Qr s Q=tr at *;refine Qg9 Q b n tr gq q0 ψ dN fN dS hp _ _ _ ⟨_,_,0,rfl,rfl,Qnk _,⟨ω,ω,ω,ω,ω,ω,ω⟩,ω,Ep rfl rfl⟩ ?_;intro f fr;simp only[Qa,seval];exact z_
end
end Va
namespace Va
open Go Am Rc Bt Br Up
def TP:∀r:List R,r.length<=Ju (r.map R.av)
 | []=>Qm8 _
 |x :: r=>by
  have:=TP r;simp only[QnJ,Qnq,Ju,wt,R.av];omega
mutual
theorem Ff:∀v:V,v.cnt<=Ju v.cells
 |.mk k b t l p s r=>by
  have h1:=TQ l;have h2:=TR p;have h3:=TS s;have h4:=TP r;rw[V.cells,V.cnt];simp only[Ju,wt];omega
theorem TQ:∀l:List V,Q9 l<=Ju (V.cl l)
 | []=>Qm8 _
 |x :: l=>by
  have h1:=Ff x;have h2:=TQ l;rw[V.cl,Q9];simp only[Ju,wt];omega
theorem TR:∀l:List (V×V),Xo l<=Ju (V.cp l)
 | []=>Qm8 _
 |(a,b) :: l=>by
  have h1:=Ff a;have h2:=Ff b;have h3:=TR l;rw[V.cp,Xo];simp only[Ju,wt,VA];omega
theorem TS:∀l:List (Int×V),Xk l<=Ju (V.cs l)
 | []=>Qm8 _
 |(n,a) :: l=>by
  have h1:=Ff a;have h3:=TS l;rw[V.cs,Xk];simp only[Ju,wt];omega
end
end Va
end Go.Proofs.YtmlohboeoeoamaaGreatDoor

/- Parts of the proof, in order. -/
import Derived.Test.YtmlohboeoeoamaaGreatDoorMLensKeeps5

set_option linter.unusedSimpArgs false
namespace Go.Proofs.YtmlohboeoeoamaaGreatDoor.Va
open Go Am Rc Bt Br Up So Vp Cp

structure FiF (P:PL)(t:Nat)(w:V)(f:Fr)(fr:Nat->Ob)(k g:Nat)(out:List R):Prop where
 f1:f 1=.int .i64 (t:Nat)
 f3:f 3=.ptr 0 3 0
 f5:f 5=.ptr 0 5 0
 f7:f 7=.vec 0 7 g 0 out.length false
 f8:f 8=.int .i64 (k:Nat)
 m3:fr 3=.cells [.list (P.progs.map Qm),.list (P.enums.map QC)]
 m5:fr 5=.cells (Yd w)
 mR:fr 7=.vec g 4 (out.map R.av)

theorem Ff {α:Type}{l:List α}{i:Nat}{x:α}(h:l[i]? = some x):l.drop i=x :: l.drop (i+1):=by
 have hlt:=(Qlm.1 h).1;rw[Ql7 hlt,(Qlm.1 h).2]

section
variable {M:Nat}{P:PL}

theorem QfV {cL:RC}(bd:Int->V->List UInt8)(g:PG)(t:Nat)(w:V)(hR:w.raws.length<=1048576)(i:Nat)(s:Int×V)(hs:w.slots[i]? = some s)(sl:List (Int×V))(T:List R)(hT:T.length<=3000000000000)(f:Fr)(fr:Nat->Ob)(k gn:Nat)(out:List R)(h:FiF P t w f fr k gn out)(h9:f 9=.int .i64 (i:Nat))(hi:out++Xs bd g (s :: sl) (w.raws.drop k)=T)(Q:Exit->St->Prop)
  (q:∀f fr k gn out,FiF P t w f fr k gn out->f 9=.int .i64 (i:Nat)->out++(Jm bd g s++Xs bd g sl (w.raws.drop k))=T->Q (.exit 2) (⟨f,[fr],[]⟩:St)) (hcL:lp 110 1 Tryz.f110=cL:=by simp only[eL,eK,Tryz.f110,seval]) :
  QU Tryz.prog (.loop cL) ⟨f,[fr],[]⟩ Q:=by
 subst hcL;simp only[eL,eK,Tryz.f110,seval]
 let I:Nat->St->Prop:=fun d st=>∃f fr k gn out,st=⟨f,[fr],[]⟩/\d=w.raws.length-k/\FiF P t w f fr k gn out/\f 9=.int .i64 (i:Nat)/\out++Xs bd g (s :: sl) (w.raws.drop k)=T
 refine Qi I _ ⟨f,fr,k,gn,out,rfl,rfl,h,h9,hi⟩ ?_;clear h h9 hi;rintro _ st ⟨f,fr,k,gn,out,rfl,rfl,⟨h1,h3,h5,h7,h8,m3,m5',mR⟩,h9,hi⟩;have m5:=m5';simp only[Yd]at m5;have hgs:=Wy hs;simp only[Qmj,h5,h8,m5,eE,seval];by_cases hlt:k<w.raws.length
 case neg=>
  rw[Ql1 xw]at hi;simp only[QI hlt,Qa,seval];exact q _ _ k gn out ⟨xL,xM,xN,xZ,xV,m3,m5',mR⟩ j7 (by rw[<-hi,Ql1 xw,Fe];intro r l e;cases e)
 obtain⟨r,hr⟩:∃r,w.raws[k]? = some r:=⟨w.raws[k],Qln hlt⟩;have hra:=Hm hr;rw[Ff hr]at hi;by_cases hn:r.num<s.1
 ·have d2:decide (r.num<s.1)=true:=Qnr hn;rw[R8 bd g hn]at hi;have hol:out.length+1<=T.length:=wq
  have e1:=Qr k _ hlt xC;simp only[QB hlt,d2,hra,hgs,Qp,QmS,Qf,h5,h7,h8,h9,m5,eE,seval];refine QK (l:=[r.av]) rfl rfl rfl rfl ?_;refine QF (site:=7) (g:=gn) (n:=out.length) (xs:=out.map R.av) (ys:=[r.av]) xx j8 rfl kO rfl (Jo [r]) xG xI ?_;simp only[h8,e1,Qa,seval];exact⟨w.raws.length-(k+1),xw,_,_,k+1,gn+1,out++[r],rfl,rfl,⟨xL,xM,xN,qk,xx,j5,j9,ql⟩,j7,wq⟩
 ·have d2:decide (r.num<s.1)=false:=Qnl hn;simp only[QB hlt,d2,hra,hgs,Qp,QmS,Qf,h5,h8,h9,m5,eE,seval];exact q _ _ k gn out ⟨xL,xM,xN,xZ,xV,m3,m5',mR⟩ j7 (by rw[<-hi,Ff hr,Fe];intro r' l' e;cases e;exact hn)

theorem Qfj {cL:RC}(t:Nat)(w:V)(hR:w.raws.length<=1048576)(T:List R)(hT:T.length<=3000000000000)(f:Fr)(fr:Nat->Ob)(k gn:Nat)(out:List R)(h:FiF P t w f fr k gn out)(hi:out++w.raws.drop k=T)(Q:Exit->St->Prop)
  (q:∀f fr gn,f 7=.vec 0 7 gn 0 T.length false->fr 7=.vec gn 4 (T.map R.av)->Q (.exit 4) (⟨f,[fr],[]⟩:St)) (hcL:lp 110 2 Tryz.f110=cL:=by simp only[eL,eK,Tryz.f110,seval]) :
  QU Tryz.prog (.loop cL) ⟨f,[fr],[]⟩ Q:=by
 subst hcL;simp only[eL,eK,Tryz.f110,seval]
 let I:Nat->St->Prop:=fun d st=>∃f fr k gn out,st=⟨f,[fr],[]⟩/\d=w.raws.length-k/\FiF P t w f fr k gn out/\out++w.raws.drop k=T
 refine Qi I _ ⟨f,fr,k,gn,out,rfl,rfl,h,hi⟩ ?_;clear h hi;rintro _ st ⟨f,fr,k,gn,out,rfl,rfl,⟨h1,h3,h5,h7,h8,m3,m5',mR⟩,hi⟩;have m5:=m5';simp only[Yd]at m5;simp only[Qmj,h5,h8,m5,eE,seval];by_cases hlt:k<w.raws.length
 case neg=>
  rw[Ql1 xw,Qms]at hi;subst hi;simp only[QI hlt,Qa,seval];exact q _ _ gn xZ j8
 obtain⟨r,hr⟩:∃r,w.raws[k]? = some r:=⟨w.raws[k],Qln hlt⟩;have hra:=Hm hr;rw[Ff hr]at hi;have hol:out.length+1<=T.length:=wq
 have e1:=Qr k _ hlt xC;simp only[QB hlt,hra,Qp,QmS,Qf,h5,h7,h8,m5,eE,seval];refine QK (l:=[r.av]) rfl rfl rfl rfl ?_;refine QF (site:=7) (g:=gn) (n:=out.length) (xs:=out.map R.av) (ys:=[r.av]) xx j8 rfl kO rfl (Jo [r]) xG xI ?_;simp only[h8,e1,Qa,seval];exact⟨w.raws.length-(k+1),xw,_,_,k+1,gn+1,out++[r],rfl,rfl,⟨xL,xM,xN,qk,xx,j5,j9,ql⟩,wq⟩

theorem QjB (bd:Int->V->List UInt8)(g:PG)(t:Int)(t0:0<=t)(w:V)(hwc:w.cnt<=1048576)(csl:∀s∈w.slots,Qh Tryz.prog 14 [P.av,.int .i64 t,V.sav s] (.list ((Jm bd g s).map R.av)))(hT:(Xs bd g w.slots w.raws).length<=3000000000000) :
  Qh Tryz.prog 110 [P.av,.int .i64 t,w.av] (.list ((Xs bd g w.slots w.raws).map R.av)):=by
 have e0:P.av=.agg [.list (P.progs.map Qm),.list (P.enums.map QC)]:=rfl;have ls:=XP w;have lr:=JI w;obtain⟨ti,hti⟩:=Qnb t0;subst hti;generalize hTe:Xs bd g w.slots w.raws=T at hT ⊢
 let I:Nat->St->Prop:=fun d st=>∃f fr i k gn out,st=⟨f,[fr],[]⟩/\d=w.slots.length-i/\i<=w.slots.length/\FiF P ti w f fr k gn out/\f 9=.int .i64 (i:Nat)/\out++Xs bd g (w.slots.drop i) (w.raws.drop k)=T
 rw[show w.av=.agg (Yd w)from Qd w];refine wF Tryz.func110 ?_;simp only[eK,Tryz.f110,seval];simp only[e0,Yd,eE,seval];refine XO rfl rfl ?_;simp only[Qa,seval];refine Qi I _ ⟨_,_,0,0,1,[],rfl,rfl,Qlx _,⟨xx,xx,xx,xx,xx,xx,xx,xx⟩,xx,hTe⟩ ?_;rintro _ st ⟨f,fr,i,k,gn,out,rfl,rfl,hil,⟨h1,h3,h5,h7,h8,m3,m5',mR⟩,h9,hi0⟩;have m5:=m5';simp only[Yd]at m5;simp only[Qmj,h5,h9,m5,eE,seval];by_cases hlt:i<w.slots.length
 ·obtain⟨x,hi⟩:∃x,w.slots[i]? = some x:=⟨w.slots[i],Qln hlt⟩;have hx:=QlC hi;have hgs:=Wy hi;have e1:=Qr i _ hlt xC;have c1:=csl x hx;rw[Ff hi]at hi0;simp only[QB hlt,Qa,seval];refine QfV bd g ti w xw i x hi (w.slots.drop (i+1)) T hT _ _ k gn out ⟨xL,xM,xN,xZ,xV,j5,j9,j8⟩ j7 hi0 _ ?_;clear h1 h3 h5 h7 h8 h9 m3 m5 m5' mR hi0 out gn f fr k;rintro f fr k gn out ⟨h1,h3,h5,h7,h8,m3,m5',mR⟩ h9 hi0;have m5:=m5';simp only[Yd]at m5;rw[e0,ZN x]at c1;generalize Jm bd g x=z at c1 hi0;have hol:out.length+z.length<=T.length:=by rw[<-hi0];simp
  simp only[Qp,QmS,Qf,hgs,h1,h3,h5,h7,h9,m3,m5,eE,seval];refine aC c1 ?_;refine QF (site:=7) (g:=gn) (n:=out.length) (xs:=out.map R.av) (ys:=z.map R.av) xx j8 rfl kO rfl (Jo z) qR wY ?_;simp only[Qmj,h9,e1,Qa,seval];exact⟨w.slots.length-(i+1),xw,_,_,i+1,k,gn+1,out++z,rfl,rfl,xw,⟨xL,xM,xN,qk,xV,j5,j9,ql⟩,xx,by rw[<-hi0,QlJ]⟩
 ·have e:i=w.slots.length:=xw
  subst e;have hi1:out++w.raws.drop k=T:=by rw[<-hi0,List.drop_length];rfl
  simp only[QI hlt,Qa,seval];refine Qfj ti w xw T hT _ _ k gn out ⟨xL,xM,xN,xZ,xV,j5,j9,j8⟩ hi1 _ ?_;rintro f fr gn h7 mR;simp only[h7,mR,eE,seval];simp[AV.un,Zw,XC,QlY]

theorem u64 (hP:P.ok M)(hU:JX P)(hr:Zo P)(hG:∀t,Gd (Qg P t))(hl64:∀g∈P.progs,g.ops.length<=64):∀(n:Nat) (t:Int) (g:PG),P.progs[t.toNat]? = some g->0<=t->∀v:V,v.ok M->v.cnt<=1048576->XF P n g v=0->Qh Tryz.prog 64 [P.av,.int .i64 t,v.av] (.str (Xh P n t v)):=by
 have e0:P.av=.agg [.list (P.progs.map Qm),.list (P.enums.map QC)]:=rfl;intro n
 induction n with
 |zero=>
  intro t g _ _ v _ _ h;exact(Uc 0 _ _ h).elim
 |succ n ih=>
  intro t g hgt t0 v hv hc h;have hgm:=QlC hgt;have hq:Qg P t=g:=by unfold Qg;rw[hgt];rfl
  have cn:=v10 (M:=M) hU hr hl64 (n+1) t g hgt t0 v hv hc (Uc _ _ _ h);have hw:=Pu hU hr hgm h;have hnok:=UN hG (n+1) t v hv;have hncn:=Kr hr (n+1) g (hr g hgm) v;have hfit:=KZ hU hr (n+1) g hgm v h;obtain⟨_,_,_,hraw⟩:=JY.1 hfit;rw[hq]at hnok;rw[Xh,hq];generalize Q5 P (n+1) g v=w at cn hw hnok hncn hraw;have hwc:w.cnt<=1048576:=xw
  have hbl:=fun t v ht hm=>HD hU hr n t v ht hm
  have hrw:=Gp (m:=XF P n) (bd:=Xh P n) (g:=g) hbl w.slots w.raws (fun x hx=>by
   obtain⟨o,ho,hx,_⟩:=hw x hx;exact⟨o,ho,hU _ hgm o (Jb ho).1,hx⟩) hraw
  have hcs:w.raws.length+Xd w.slots<=w.cnt:=by rw[Q4 w];omega
  have hpn:=Gv (l:=Xs (Xh P n) g w.slots w.raws) (Vm (Xh P n) g w.slots w.raws (fun s hs=>hnok.slots s hs) (fun f hf=>by
   have:=GT (hnok.raws f hf).bits;show f.bits<_;omega)) xw
  have cput:=c30 _ hpn.1 hpn.2.1 hpn.2.2;have hTl:=Fc (Xs (Xh P n) g w.slots w.raws);have csl:=fun(s:Int×V) (hs:s∈w.slots)=>u14 hU hP hbl ih t g hgt t0 s (hnok.slots s hs) (Qll (ZZ hs) hwc) (hw s hs)
  have cfi:=QjB (Xh P n) g t t0 w hwc csl xw;generalize Xs (Xh P n) g w.slots w.raws=T at cfi cput;have htl:t<(P.progs.length:Int):=by
   have:=(Qlm.1 hgt).1;omega
  have d0:decide (t<0)=false:=Qnl xw;have d1:decide (t>=(P.progs.length:Int))=false:=Qnl xw;rw[e0,Qd v,Qd w]at cn;rw[e0,Qd w]at cfi;simp only[Y4]at cput;rw[Qd v];refine wF Tryz.func64 ?_;simp only[eK,Tryz.f64,seval];simp only[e0,d0,d1,Qmj,eE,seval];refine aC cn ?_;refine aC cfi ?_;refine aC cput ?_;simp only[Qa,seval]

end

section
variable {M:Nat}(hM:M<=140737488351232)(P:PL)(hP:P.ok M)

include hP in
theorem Qfk (hk:ck P=0)(t:Int)(v:V)(hv:v.ok M)(hc:v.cnt<=1048576)(hf:ZJ P t v=0)(s:Int×V)(hs:s∈v.slots)(hw:Wd P (XF P 15) (Qg P t) s):Qh Tryz.prog 14 [P.av,.int .i64 t,V.sav s] (.list ((Jm (Xh P 15) (Qg P t) s).map R.av)):=by
 obtain⟨ht,hm⟩:=JD hf;exact u14 (Zy hk) hP (fun t v ht hm=>HD (Zy hk) (Xr hk) 15 t v ht hm) (u64 hP (Zy hk) (Xr hk) (Fa hP (YS hk)) (YS hk) 15) t (Qg P t) (Ko ht) ht.1 s (hv.slots s hs) (Qll (ZZ hs) hc) hw

end

structure KpF (W Q:PL)(a n:V)(tw tr:Int)(f:Fr)(fr:Nat->Ob):Prop where
 f4:f 4=.ptr 0 4 0
 f5:f 5=.ptr 0 5 0
 f9:f 9=.int .i64 tw
 f11:f 11=.int .i64 tr
 f13:f 13=.ptr 0 13 0
 f15:f 15=.ptr 0 15 0
 m4:fr 4=.cells (Q8 W)
 m5:fr 5=.cells (Q8 Q)
 m13:fr 13=.cells (vc a)
 m15:fr 15=.cells (vc n)
theorem KpF.drop {W Q:PL}{a n:V}{tw tr:Int}{l:List Nat}{f f':Fr}{fr fr':Nat->Ob}(hl:l=[19]\/l=[22])(h:KpF W Q a n tw tr f' fr')(hf:∀i,f i=GW l (f' i))(hm:∀i,i∉l->fr i=HX l (fr' i)):KpF W Q a n tw tr f fr:=by
 rcases hl with rfl|rfl
 ·exact oW
 ·exact oW

def Kp (W Q:PL)(n:V)(tw tr:Int)(i:Nat):List R:=((n.slots.take i).filter fun s=>(Q7 (Qg Q tr) s.1).isNone).flatMap (Jm (Xh W 15) (Qg W tw))
def Yj (Q:PL)(a:V)(tr:Int)(i:Nat):List R:=(a.raws.take i).filter (JK (Qg Q tr))

def Kp1 (W Q:PL)(a n:V)(tw tr:Int)(k:Nat)(st:St):Prop :=
 ∃f fr i g,st=⟨f,[fr],[]⟩/\k=n.slots.length-i/\i<=n.slots.length/\KpF W Q a n tw tr f fr/\f 16=.vec 0 16 g 0 (Kp W Q n tw tr i).length false/\f 17=.vec 0 17 1 0 0 false/\f 18=.int .i64 (i:Nat)/\fr 16=.vec g 4 ((Kp W Q n tw tr i).map Up.R.av)/\fr 17=.vec 1 4 []/\fr 22=.none/\∀q∈[19],(fr q).isRow=false
def Kp2 (W Q:PL)(a n:V)(tw tr:Int)(k:Nat)(st:St):Prop :=
 ∃f fr i g h,st=⟨f,[fr],[]⟩/\k=a.raws.length-i/\i<=a.raws.length/\KpF W Q a n tw tr f fr/\f 16=.vec 0 16 g 0 (Kp W Q n tw tr n.slots.length).length false/\f 17=.vec 0 17 h 0 (Yj Q a tr i).length false/\f 21=.int .i64 (i:Nat)/\fr 16=.vec g 4 ((Kp W Q n tw tr n.slots.length).map Up.R.av)/\fr 17=.vec h 4 ((Yj Q a tr i).map Up.R.av)/\∀q∈[22],(fr q).isRow=false
def Kp3 (L:List R)(k:Nat)(st:St):Prop :=
 ∃f fr i g h,st=⟨f,[fr],[]⟩/\k=L.length-i/\i<=L.length/\f 16=.vec 0 16 g 0 L.length false/\f 17=.vec 0 17 h 0 L.length false/\f 24=.int .i64 (i:Nat)/\fr 16=.vec g 4 (L.map Up.R.av)/\fr 17=.vec h 4 (L.map Up.R.av)

theorem Sd {W Q:PL}{n:V}{tw tr:Int}{i:Nat}{x:Int×V}(h:n.slots[i]? = some x):Kp W Q n tw tr (i+1)=Kp W Q n tw tr i++(if (Q7 (Qg Q tr) x.1).isNone=true then Jm (Xh W 15) (Qg W tw) x else []):=by
 unfold Kp;rw[Qng,h,Qm2,QnO,Qnh,Qm3];by_cases hn:(Q7 (Qg Q tr) x.1).isNone=true
 ·rw[Qlv hn,Qlv hn];simp
 ·rw[Qlu hn,Qlu hn];simp
theorem QcW {Q:PL}{a:V}{tr:Int}{i:Nat}{x:R}(h:a.raws[i]? = some x):Yj Q a tr (i+1)=Yj Q a tr i++(if JK (Qg Q tr) x=true then [x]else []):=by
 unfold Yj;rw[Qng,h,Qm2,Qnh,Qm3];rfl
theorem QcX {W Q:PL}{n:V}{tw tr:Int}:∀ {i:Nat},i<=n.slots.length->(Kp W Q n tw tr i).length<=(Kp W Q n tw tr n.slots.length).length:=by
 have key:∀(d i:Nat),i+d<=n.slots.length->(Kp W Q n tw tr i).length<=(Kp W Q n tw tr (i+d)).length:=by
  intro d
  induction d with
  |zero=>intro i _;exact Qlk _
  |succ d ih=>
   intro i h;have h1:=ih i xw;have h2:=Sd (W:=W) (Q:=Q) (tw:=tw) (tr:=tr) (Qln (by omega:i+d<n.slots.length));rw[show i+(d+1)=i+d+1 by omega,h2,Ql2];omega
 intro i h;have:=key (n.slots.length-i) i xw
 rwa [show i+(n.slots.length-i)=n.slots.length by omega]at this
theorem Se {Q:PL}{a:V}{tr:Int}(i:Nat):(Yj Q a tr i).length<=a.raws.length:=by
 unfold Yj;exact Qll (List.length_filter_le _ _) kE
section
variable (W Q:PL)(a n:V)(tw tr:Int)

theorem Qfl {cL:RC}(hg:(Q.progs.map Qm)[tr.toNat]? = some (.agg [.str (Qg Q tr).name,.list ((Qg Q tr).ops.map fun o=>.agg o.cells),.int .i64 (Qg Q tr).unions]))(q0:(0<=tr)=True)(hsl:n.slots.length<=1048576)(hwb:(Kp W Q n tw tr n.slots.length).length<=1048576)
  (c8:∀x:Int,Qh Tryz.prog 11 [.agg [.str (Qg Q tr).name,.list ((Qg Q tr).ops.map fun o=>.agg o.cells),.int .i64 (Qg Q tr).unions],.int .i64 x] (.tup [.agg ((Q7 (Qg Q tr) x).getD Uq).cells,.bool (Q7 (Qg Q tr) x).isSome]))
  (c9:∀x:Int×V,x∈n.slots->Qh Tryz.prog 14 [W.av,.int .i64 tw,V.sav x] (.list ((Jm (Xh W 15) (Qg W tw) x).map R.av)))
  (K:Exit->St->Prop) (f:Fr) (fr:Nat->Ob) (hI:Kp1 W Q a n tw tr n.slots.length ⟨f,[fr],[]⟩)
  (q:∀f fr g,KpF W Q a n tw tr f fr->f 16=.vec 0 16 g 0 (Kp W Q n tw tr n.slots.length).length false->f 17=.vec 0 17 1 0 0 false->fr 16=.vec g 4 ((Kp W Q n tw tr n.slots.length).map Up.R.av)->fr 17=.vec 1 4 []->fr 22=.none->K (.exit 0) (⟨f,[fr],[]⟩:St)) (hcL:lp 4 0 Tryz.f4=cL:=by simp only[eL,eK,Tryz.f4,seval]) :
  QU Tryz.prog (.loop cL) ⟨f,[fr],[]⟩ K:=by
 subst hcL;simp only[eL,eK,Tryz.f4,seval];refine Qi (Kp1 W Q a n tw tr) _ hI ?_;clear hI;rintro _ st ⟨f0,fr0,i,g,rfl,rfl,hil,kf0,h160,h170,h180,m160,m170,m220,r19⟩;refine QL (a:=_) [19] r19 ?_;intro f fr hf hm hn19;have kf:=kf0.drop (.inl rfl) hf hm;obtain⟨h4,h5,h9,h11,h13,h15,m4,m5,m13,m15⟩:=kf;have h16:f 16=.vec 0 16 g 0 (Kp W Q n tw tr i).length false:=wH
 have h17:f 17=.vec 0 17 1 0 0 false:=qM
 have h18:f 18=.int .i64 (i:Nat):=qo
 have m16:fr 16=.vec g 4 ((Kp W Q n tw tr i).map Up.R.av):=by rw[hm 16 xy,m160]<;>rfl
 have m17:fr 17=.vec 1 4 []:=by rw[hm 17 xy,m170]<;>rfl
 have m22:fr 22=.none:=by rw[hm 22 xy,m220]<;>rfl
 have n19:=hn19 19 xy;clear hf hm hn19 kf0 h160 h170 h180 m160 m170 m220 r19;have m13':=m13;simp only[Q8]at m4 m5;simp only[vc]at m15;simp only[Qmj,h15,h18,m15,eE,seval];by_cases hlt:i<n.slots.length
 ·obtain⟨x,hi⟩:∃x,n.slots[i]? = some x:=⟨n.slots[i],Qln hlt⟩;have hx:=QlC hi;have hgs:=Wy hi;have e1:=Qr i _ hlt xC;have hws:=Sd (W:=W) (Q:=Q) (tw:=tw) (tr:=tr) hi;have hwm:=QcX (W:=W) (Q:=Q) (tw:=tw) (tr:=tr) (n:=n) (i:=i+1) xw;have c1:=c8 x.1;have c2:=c9 x hx;generalize Jm (Xh W 15) (Qg W tw) x=Y at hws c2;rw[show W.av=.agg (Q8 W)from rfl,ZN x]at c2;generalize (Q7 (Qg Q tr) x.1).getD Uq=o' at c1;have hno:(Q7 (Qg Q tr) x.1).isNone=!(Q7 (Qg Q tr) x.1).isSome:=by cases Q7 (Qg Q tr) x.1<;>rfl
  rw[hno]at hws;simp only[PO.cells]at c1;simp only[Q8]at c2;simp only[QB hlt,Qp,q0,QmS,Qf,hgs,hg,h5,h11,h15,h18,m5,m15,eE,seval];refine aC c1 ?_;cases hs:(Q7 (Qg Q tr) x.1).isSome
  ·rw[hs,Qmx,Qlv rfl]at hws;have hlen:(Kp W Q n tw tr i).length+(Y.map R.av).length<=1048576:=by
    rw[hws,Ql2]at hwm;rw[Qmj];omega
   simp only[Qp,QmS,Qf,hgs,n19,Qmx,h4,h9,h15,h16,h18,m4,m15,eE,seval];refine aC c2 ?_;refine QF (site:=16) (g:=g) (n:=(Kp W Q n tw tr i).length) (xs:=(Kp W Q n tw tr i).map R.av) (ys:=Y.map R.av) xx wU rfl kO rfl (Jo _) xC xw ?_;simp only[h18,e1,Qa,seval];refine⟨n.slots.length-(i+1),xw,_,_,i+1,g+1,rfl,rfl,xw,⟨xR,xN,j7,jY,kS,wQ,jO,q9,vn,vp⟩,?_,kL,xx,?_,wV,(by exact m22),ZK rfl⟩
   ·rw[hws,Ql2];simp only[Qmj,Qa,seval]
   ·rw[hws,Qnf];exact xx
  ·rw[hs,Qm9,Qlu xy,Qms]at hws;simp only[n19,Qm9,h18,e1,eE,seval];exact⟨n.slots.length-(i+1),xw,_,_,i+1,g,rfl,rfl,xw,⟨xR,xN,j7,jY,kS,wQ,jO,q9,vn,vp⟩,by rw[hws];exact qc,kL,xx,by rw[hws];exact wU,wV,(by exact m22),ZK rfl⟩
 ·have e:i=n.slots.length:=xw
  subst e;simp only[QI hlt,Qa,seval];exact q _ _ g ⟨xR,xN,j7,jY,kS,wQ,jO,q9,vn,vp⟩ qc kL wU wV (by exact m22)

theorem Qfm {cL:RC}(hg:(Q.progs.map Qm)[tr.toNat]? = some (.agg [.str (Qg Q tr).name,.list ((Qg Q tr).ops.map fun o=>.agg o.cells),.int .i64 (Qg Q tr).unions]))(q0:(0<=tr)=True)(hra:a.raws.length<=1048576)
  (c8:∀x:Int,Qh Tryz.prog 11 [.agg [.str (Qg Q tr).name,.list ((Qg Q tr).ops.map fun o=>.agg o.cells),.int .i64 (Qg Q tr).unions],.int .i64 x] (.tup [.agg ((Q7 (Qg Q tr) x).getD Uq).cells,.bool (Q7 (Qg Q tr) x).isSome]))
  (K:Exit->St->Prop) (f:Fr) (fr:Nat->Ob) (hI:Kp2 W Q a n tw tr a.raws.length ⟨f,[fr],[]⟩)
  (q:∀f fr g h,f 16=.vec 0 16 g 0 (Kp W Q n tw tr n.slots.length).length false->f 17=.vec 0 17 h 0 (Yj Q a tr a.raws.length).length false->fr 16=.vec g 4 ((Kp W Q n tw tr n.slots.length).map Up.R.av)->fr 17=.vec h 4 ((Yj Q a tr a.raws.length).map Up.R.av)->K (.exit 2) (⟨f,[fr],[]⟩:St)) (hcL:lp 4 1 Tryz.f4=cL:=by simp only[eL,eK,Tryz.f4,seval]) :
  QU Tryz.prog (.loop cL) ⟨f,[fr],[]⟩ K:=by
 subst hcL;simp only[eL,eK,Tryz.f4,seval];refine Qi (Kp2 W Q a n tw tr) _ hI ?_;clear hI;rintro _ st ⟨f0,fr0,i,g,h,rfl,rfl,hil,kf0,h160,h170,h210,m160,m170,r22⟩;refine QL (a:=_) [22] r22 ?_;intro f fr hf hm hn22;have kf:=kf0.drop (.inr rfl) hf hm;obtain⟨h4,h5,h9,h11,h13,h15,m4,m5,m13,m15⟩:=kf;have h16:f 16=.vec 0 16 g 0 (Kp W Q n tw tr n.slots.length).length false:=wH
 have h17:f 17=.vec 0 17 h 0 (Yj Q a tr i).length false:=qM
 have h21:f 21=.int .i64 (i:Nat):=wN
 have m16:fr 16=.vec g 4 ((Kp W Q n tw tr n.slots.length).map Up.R.av):=by rw[hm 16 xy,m160]<;>rfl
 have m17:fr 17=.vec h 4 ((Yj Q a tr i).map Up.R.av):=by rw[hm 17 xy,m170]<;>rfl
 have n22:=hn22 22 xy;clear hf hm hn22 kf0 h160 h170 h210 m160 m170 r22;simp only[Q8]at m4 m5;simp only[vc]at m13;simp only[Qmj,h13,h21,m13,eE,seval];by_cases hlt:i<a.raws.length
 ·obtain⟨x,hi⟩:∃x,a.raws[i]? = some x:=⟨a.raws[i],Qln hlt⟩;have hgs:=Hm hi;have e1:=Qr i _ hlt xC;have hws:=QcW (Q:=Q) (tr:=tr) hi;have hwm:(Yj Q a tr (i+1)).length<=1048576:=Qll (Se _) hra;have c1:=c8 x.num;generalize (Q7 (Qg Q tr) x.num).getD Uq=o' at c1;have hno:JK (Qg Q tr) x=!(Q7 (Qg Q tr) x.num).isSome:=by unfold JK;cases Q7 (Qg Q tr) x.num<;>rfl
  rw[hno]at hws;simp only[PO.cells]at c1;simp only[QB hlt,Qp,q0,QmS,Qf,hgs,hg,h5,h11,h13,h21,m5,m13,eE,seval];refine aC c1 ?_;cases hs:(Q7 (Qg Q tr) x.num).isSome
  ·rw[hs,Qmx,Qlv rfl]at hws;have hlen:(Yj Q a tr i).length+1<=1048576:=by
    rw[hws,Ql2]at hwm;exact hwm
   simp only[Qp,QmS,Qf,hgs,n22,Qmx,h13,h17,h21,m13,eE,seval];refine QK (l:=[R.av x]) rfl rfl rfl rfl ?_;refine QF (site:=17) (g:=h) (n:=(Yj Q a tr i).length) (xs:=(Yj Q a tr i).map R.av) (ys:=[R.av x]) xx wV rfl kO rfl (Jo [x]) xG xI ?_;simp only[h21,e1,Qa,seval];refine⟨a.raws.length-(i+1),xw,_,_,i+1,g,h+1,rfl,rfl,xw,⟨xR,xN,j7,jY,kS,wQ,jO,q9,vn,vp⟩,qc,?_,xx,wU,?_,ZK rfl⟩
   ·rw[hws,Ql2];exact xx
   ·rw[hws,Qnf];exact xx
  ·rw[hs,Qm9,Qlu xy,Qms]at hws;simp only[n22,Qm9,h21,e1,eE,seval];exact⟨a.raws.length-(i+1),xw,_,_,i+1,g,h,rfl,rfl,xw,⟨xR,xN,j7,jY,kS,wQ,jO,q9,vn,vp⟩,qc,by rw[hws];exact kL,xx,wU,by rw[hws];exact wV,ZK rfl⟩
 ·have e:i=a.raws.length:=xw
  subst e;simp only[QI hlt,Qa,seval];exact q _ _ g h qc kL wU wV

theorem LN {cL:RC}(L:List R)(hl:L.length<=1048576)(K:Exit->St->Prop)(f:Fr)(fr:Nat->Ob)(hI:Kp3 L L.length ⟨f,[fr],[]⟩)(q:∀f fr,K (.exit 4) (⟨f,[fr],[]⟩:St))(hcL:lp 4 2 Tryz.f4=cL:=by simp only[eL,eK,Tryz.f4,seval]) :
  QU Tryz.prog (.loop cL) ⟨f,[fr],[]⟩ K:=by
 subst hcL;simp only[eL,eK,Tryz.f4,seval];refine Qi (Kp3 L) _ hI ?_;clear hI;rintro _ st ⟨f,fr,i,g,h,rfl,rfl,hil,h16,h17,h24,m16,m17⟩;simp only[h16,h24,m16,eE,seval];by_cases hlt:i<L.length
 ·obtain⟨x,hi⟩:∃x,L[i]? = some x:=⟨L[i],Qln hlt⟩;have e1:=Qr i _ hlt xC;have i16:=MV (m:=[]) m16 hlt;have i17:=MV (m:=[]) m17 hlt;have l16:Xn [fr] (some 4) (.vptr 0 16 g i 0)=some (.agg [.int .i64 x.num,.int .i64 x.wire,.int .u64 (x.bits:Nat),.str x.data]):=FZ m16 (Hm hi) xA;have l17:Xn [fr] (some 4) (.vptr 0 17 h i 0)=some (.agg [.int .i64 x.num,.int .i64 x.wire,.int .u64 (x.bits:Nat),.str x.data]):=FZ m17 (Hm hi) xA;simp only[QB hlt,i16,i17,l16,l17,Qmz,Bool.and_self,Qm9,h16,h17,h24,e1,Qa,seval];exact⟨L.length-(i+1),xw,_,_,i+1,g,h,rfl,rfl,xw,qc,kL,xx,m16,m17⟩
 ·simp only[QI hlt,Qa,seval];exact q _ _
end

section
variable {M:Nat}(W Q:PL)(hW:W.ok M)(hQ:Q.ok M)(h1:65536<=M)(hM:M<=17592186044000)(s:List UInt8)(v:V)(hv:v.ok M)(hb:v.cnt<=1048576)

set_option maxHeartbeats 2000000 in
include hW hQ h1 hM hv hb in
theorem c4:Qh Tryz.prog 4 [W.av,Q.av,.str s,v.av] (.bool true):=by
 obtain⟨N,hN⟩:∃N,65536<N:=⟨65537,xw⟩;have hM2:M<=140737488351232:=xw
 have c1:=Py W hW hM2;have c2:=Py Q hQ hM2;have c3:=w6 xw v hv hb;have c4:=y8 W hW.len1 s;have c5:=y8 Q hQ.len1 s;have c6:=fun(hw:ck W=0) (hq:ck Q=0) (hc:v.cnt<=300) (hz:v.sz<=20000)=>vw9 (N:=N) hM2 h1 hN W Q hW hQ hw hq s v hv hc hz
 have hsz:=E9 v hv;unfold Fx at c4 c5;rw[show Za (fun g:PG=>g.name==s) W.progs 0=QH s W from rfl]at c4;rw[show Za (fun g:PG=>g.name==s) Q.progs 0=QH s Q from rfl]at c5;have hvt:∀a e,NF W Q N s v=(a,e)->e=0->(0<=QH s W/\QH s W<(W.progs.length:Int))/\(0<=QH s Q/\QH s Q<(Q.progs.length:Int))/\ZJ W (QH s W) v=0/\a=(KN Q N s (Xh W 16 (QH s W) v) QR).1/\(KN Q N s (Xh W 16 (QH s W) v) QR).2=0:=by
  intro a e h he;unfold NF at h;split at h
  ·cases h;cases he
  rename_i hp;split at h
  ·rename_i hf;cases h;exact absurd he hf
  rename_i hf;cases h;have ha:=JB s W;have hb:=JB s Q;exact⟨xw,xw,by simpa using hf,rfl,xw⟩
 generalize NF W Q N s v=r at c6 hvt;obtain⟨a,e⟩:=r;replace hvt:=hvt a e rfl;rw[show W.av=.agg (Q8 W)from rfl]at c1 c4 c6;rw[show Q.av=.agg (Q8 Q)from rfl]at c2 c5 c6;rw[Qd v]at c3 c6;rw[show W.av=.agg (Q8 W)from rfl,show Q.av=.agg (Q8 Q)from rfl,Qd v];simp only[Ia,Qd a,Q8]at c1 c2 c4 c5 c6;refine wF Tryz.func4 ?_;simp only[eK,Tryz.f4,seval];simp only[Q8,eE,seval];refine aC c1 ?_;cases a1:(decide ((W.progs.length:Int)<=8)&&decide ((W.enums.length:Int)<=8)&&ck W==0)
 ·simp only[Qa,seval];exact zE
 have hw:ck W=0:=by
  simp only[QlM,Qls]at a1;exact a1.2
 simp only[eE,seval];refine aC c2 ?_;cases a2:(decide ((Q.progs.length:Int)<=8)&&decide ((Q.enums.length:Int)<=8)&&ck Q==0)
 ·simp only[Qa,seval];exact zE
 have hq:ck Q=0:=by
  simp only[QlM,Qls]at a2;exact a2.2
 simp only[eE,seval];refine aC c3 ?_;cases a3:(decide ((v.cnt:Int)<=300)&&decide (IntKind.i64.wrap (v.sz:Int)<=20000))
 ·simp only[Qa,seval];exact zE
 simp only[QlM,Qlr]at a3;have hc:v.cnt<=300:=xw
 have hz:v.sz<=20000:=by
  have h2:v.sz<=17592186044000*300:=Qll hsz (Nat.mul_le_mul hM hc);have:=a3.2;rw[QA]at this;omega
 simp only[eE,seval];refine aC c4 ?_;simp only[eE,seval];refine aC c5 ?_;simp only[eE,seval];refine aC (c6 hw hq hc hz) ?_;by_cases he:e=0
 case neg=>
  have b0:(e != 0)=true:=by simp[he]
  simp only[b0,eE,seval];exact zE
 obtain⟨ht,hu,hf,ea,hd⟩:=hvt he;subst he;have dq:decide (QH s Q>=0)=true:=Qnr hu.1;by_cases hraw:v.raws=[]
 case neg=>
  have d1:decide ((v.raws.length:Int) > 0)=true:=Qnr (by have:=QmL.2 hraw;omega);simp only[dq,d1,Qm9,bne_self_eq_false,Qmj,eE,seval];exact zE
 have d1:decide ((v.raws.length:Int) > 0)=false:=by rw[hraw];rfl
 obtain⟨_,hmf⟩:=JD hf;have hbl:=Sc W hw hc hz hf;have hg:Qg W (QH s W)∈W.progs:=QlC (Ko ht);have hgq:Qg Q (QH s Q)∈Q.progs:=QlC (Ko hu);have c7:=v10 (M:=M) (Zy hw) (Xr hw) (YS hw) 16 (QH s W) _ (Ko ht) ht.1 v hv xw (Uc _ _ _ hmf);obtain⟨n1,_,_,n4⟩:=R9 hw hf hc;have oy:=UN (Fa hW (YS hw)) 16 (QH s W) v hv;have kp:=keeps (N:=N) h1 hW hQ hw hq hN hv hc hf hraw hbl hd;have oa:=QcF (N:=N) h1 Q hQ hq hN s (Xh W 16 (QH s W) v) hbl;have ca:=QcD (N:=N) h1 Q hQ hq hN s (Xh W 16 (QH s W) v) QR hbl xy xy;have ny:=UC (Zy hw) (Xr hw) 16 _ hg v hmf;rw[<-ea]at kp oa ca;generalize Q5 W 16 (Qg W (QH s W)) v=n at c7 n1 n4 oy kp ny;have hns:=Qbf (M:=M) (Zy hw) (Xr hw) hg (JD n1).2 oy xw ny;have hwl:Kp W Q n (QH s W) (QH s Q) n.slots.length=Yj Q a (QH s Q) a.raws.length:=by
  unfold Kp Yj;rw[Qm5,Qm5];exact kp.symm
 have hra:=JI a;have hsl:=XP n;have hglb:=Se (Q:=Q) (a:=a) (tr:=QH s Q) a.raws.length;have c8:=fun x:Int=>y11 (Qg Q (QH s Q)) ((hQ.progs _ hgq).len) x
 have c9:=fun(x:Int×V) (hx:x∈n.slots)=>Qfk W hW hw (QH s W) n oy xw n1 x hx (hns x hx).wd
 rw[show W.av=.agg (Q8 W)from rfl]at c7;rw[Qd v,Qd n]at c7;simp only[Yu,Qm,PG.cells,Qu]at c8;simp only[Q8]at c7;have gq:(Q.progs.map Qm)[(QH s Q).toNat]? = some (.agg [.str (Qg Q (QH s Q)).name,.list ((Qg Q (QH s Q)).ops.map fun o=>.agg o.cells),.int .i64 (Qg Q (QH s Q)).unions]):=by rw[QmN,Ko hu];rfl
 have q0:(0<=QH s Q)=True:=eq_true hu.1;have ht2:(if QH s W<0 then 0 else QH s W)=QH s W:=Qlu xw;have hu2:(if QH s Q<0 then 0 else QH s Q)=QH s Q:=Qlu xw;simp only[dq,d1,ht2,hu2,Qm9,bne_self_eq_false,Qmj,eE,seval];refine aC c7 ?_;simp only[eE,seval];refine XO xz xz ?_
 try simp only[eE,seval]
 refine XO xz xz ?_
 try simp only[Qa,seval]
 generalize QH s W=tw at *;generalize QH s Q=tr at *;refine Qfl W Q a n tw tr gq q0 xw (by rw[hwl];omega) c8 c9 _ _ _ ⟨_,_,0,1,rfl,rfl,Qlx _,⟨xx,xx,xx,xx,xx,xx,xx,xx,xx,xx⟩,xx,xx,xx,xx,xx,xx,ZK rfl⟩ ?_;intro f fr g kf h16 h17 m16 m17 m22;simp only[Qa,seval];refine Qfm W Q a n tw tr gq q0 xw c8 _ _ _ ⟨_,_,0,g,1,rfl,rfl,Qlx _,⟨(by exact kf.f4),(by exact kf.f5),(by exact kf.f9),(by exact kf.f11),(by exact kf.f13),(by exact kf.f15),kf.m4,kf.m5,kf.m13,kf.m15⟩,qc,kL,xx,m16,m17,ZK (by rw[m22];rfl)⟩ ?_;clear kf h16 h17 m16 m17 m22;intro f fr g h h16 h17 m16 m17;rw[hwl]at h16 m16;generalize Yj Q a tr a.raws.length=L at *;simp only[h16,h17,m16,m17,bne_self_eq_false,eE,seval];refine LN L xw _ _ _ ⟨_,_,0,g,h,rfl,rfl,Qlx _,qc,kL,xx,m16,m17⟩ ?_;intro f fr;simp only[Qa,seval];exact zE
end
end Go.Proofs.YtmlohboeoeoamaaGreatDoor.Va

namespace Go.Proofs.YtmlohboeoeoamaaGreatDoor.Va
open Go Am Rc Bt Br Up

theorem Sf:∀r:List R,r.length<=Z5 (r.map R.av)
 | []=>Qlk _
 |x :: r=>by
  have:=Sf r;simp only[QlW,QlD,Z5,wt,R.av];omega
mutual
theorem DG:∀v:V,v.cnt<=Z5 v.cells
 |.mk k b t l p s r=>by
  have h1:=Sg l;have h2:=Sh p;have h3:=Si s;have h4:=Sf r;rw[V.cells,V.cnt];simp only[Z5,wt];omega
theorem Sg:∀l:List V,Q9 l<=Z5 (V.cl l)
 | []=>Qlk _
 |x :: l=>by
  have h1:=DG x;have h2:=Sg l;rw[V.cl,Q9];simp only[Z5,wt];omega
theorem Sh:∀l:List (V×V),Xk l<=Z5 (V.cp l)
 | []=>Qlk _
 |(a,b) :: l=>by
  have h1:=DG a;have h2:=DG b;have h3:=Sh l;rw[V.cp,Xk];simp only[Z5,wt,NX];omega
theorem Si:∀l:List (Int×V),Xd l<=Z5 (V.cs l)
 | []=>Qlk _
 |(n,a) :: l=>by
  have h1:=DG a;have h3:=Si l;rw[V.cs,Xd];simp only[Z5,wt];omega
end

end Go.Proofs.YtmlohboeoeoamaaGreatDoor.Va

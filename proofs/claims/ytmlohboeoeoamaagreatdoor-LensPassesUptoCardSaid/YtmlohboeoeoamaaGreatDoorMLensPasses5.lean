import Derived.Test.YtmlohboeoeoamaaGreatDoorMLensPasses4
set_option linter.defProp false
set_option linter.unusedSectionVars false
set_option linter.unusedVariables false
namespace Go.Proofs.YtmlohboeoeoamaaGreatDoor
open Go.Proofs.Tryz
set_option linter.unusedSimpArgs false
namespace Va
open Go Am Rc Bt Br Up So Vp Cp
def Qc4 (g:PG)(v:V)(o:PO)(x:V)(d:C):V×C×Nat :=
  if (XN v o.num).isSome=true then(X6 g v o (Xa ((QK v o.num).list++[x])),d,0)
  else if (d.spend 1).2=0 then(X6 g v o (Xa ((QK v o.num).list++[x])),(d.spend 1).1,0)else(v,(d.spend 1).1,(d.spend 1).2)
def Qc5 (P:PL)(g:PG)(v:V)(o:PO)(f:R)(d:C):V×C×Nat :=
  if (XP P o.kind o.target f).2=16 then(Uc v ⟨o.num,0,f.bits,[]⟩,d,0)
  else if (XP P o.kind o.target f).2=0 then(if o.card=4 then Qc4 g v o (XP P o.kind o.target f).1 d else(X6 g v o (XP P o.kind o.target f).1,d,0))
  else(v,d,(XP P o.kind o.target f).2)
def U2 (P:PL)(g:PG)(v:V)(o:PO)(c:C):V×C×Nat :=
  if (c.spend 1).2=0 then
    (if (D6 (wk o.kind) (c.spend 1).1).2.2=0 then Qc5 P g v o (D6 (wk o.kind) (c.spend 1).1).1 (D6 (wk o.kind) (c.spend 1).1).2.1
     else(v,(D6 (wk o.kind) (c.spend 1).1).2.1,(D6 (wk o.kind) (c.spend 1).1).2.2))
  else(v,(c.spend 1).1,(c.spend 1).2)
def CM (P:PL)(g:PG)(v:V)(o:PO)(c:C):ZY P g v o c=if (U2 P g v o c).2.2=0 then .ok ((U2 P g v o c).1,(U2 P g v o c).2.1)else .error (U2 P g v o c).2.2:=by
 unfold ZY U2 Z7;by_cases h1:(c.spend 1).2=0
 case neg=>simp only[Qni h1]
 simp only[Qnj h1];rw[Tf];generalize D6 (wk o.kind) (c.spend 1).1=r;obtain⟨f,d,e⟩:=r;dsimp only;by_cases h2:e=0
 case neg=>simp only[Qni h2]
 simp only[Qnj h2];unfold Qc5;by_cases h3:(XP P o.kind o.target f).2=16
 ·simp only[Qnj h3];rfl
 simp only[Qni h3];by_cases h4:(XP P o.kind o.target f).2=0
 case neg=>simp only[Qni h4]
 simp only[Qnj h4];by_cases h5:o.card=4
 case neg=>simp only[Qni h5];rfl
 simp only[Qnj h5];unfold Qc4;by_cases h6:(XN v o.num).isSome=true
 ·simp only[Qnj h6];rfl
 simp only[Qni h6];by_cases h7:(d.spend 1).2=0
 ·simp only[Qnj h7];rfl
 ·simp only[Qni h7]
def BK (P:PL)(M K n:Nat)(rec:Int->V->C->Rd V):Prop :=
 ∀(l s:Nat) (m:Qk) (t:Int) (v:V) (c:C),l<m.length->Am.Qc m l s=Xs P c->CI c->c.left<n->(0<=t/\t<(P.progs.length:Int))->MW P n (Qe P t) v->v.ok M->(v.cnt:Int)+3*c.left<=K->
  Qf prog 129 [.ptr l s 0,.int .i64 t,v.av] m (Rt P l s m V.av (rec t v c))
def Wj (c:C)(n:Int):(∃d,Z7 c n=.ok d/\c.spend n=(d,0))\/∃e,e≠0/\Z7 c n=.error e/\(c.spend n).2=e:=by
 unfold Z7;by_cases h:(c.spend n).2=0
 ·rw[Qnj h];exact .inl ⟨_,rfl,by rw[<-h]⟩
 ·rw[Qni h];exact .inr ⟨_,h,rfl,rfl⟩
def FJ (v:V)(n:Int):(QK v n).cnt<=v.cnt:=by
 cases hf:XN v n with
 |none=>rw[ZL Ñ,Q5];exact Xt v
 |some z=>
  have:=JG (Xi hf).1;rw[(Xi hf).2];exact this
section
variable {M:Nat}(P:PL)(hP:P.ok M)(c:C)(l s:Nat)(m:Qk)(hm:l<m.length)(hs:Am.Qc m l s=Xs P c)(hc:CI c)(g:PG)(hg:g.ops.length<=maxLen)(v:V)(hv:v.cnt<=1000000)(o:PO)
include hP hm hs hc hg hv in
theorem QgG:Qf prog 285 [.ptr l s 0,Qm g,v.av,Qw o] m (Rt P l s m V.av (ZY P g v o c)):=by
 have fk:=hs;have lp:∀o,Am.Qc (Am.put m l s o) l s=o:=λo=>Qt hm
 have pp:∀o q,Am.put (Am.put m l s o) l s q=Am.put m l s q:=λo q=>put_put
 have dT:∀o,l+1<(Am.put m l s o).length+1:=λo=>ă
 have ls:=Zg v;have lr:=KI v;have iL:=Rs o;simp only[Qw,PO.cells]at iL;rw[Qd v];refine wG func285 ?_;simp only[eK,f285,seval];simp only[Qm,Qw,PG.cells,PO.cells,eE,seval];refine QT (BJ P c (l+1) s _ fk 1) ϑ ?_;rintro x m1 ⟨rfl,rfl⟩ _;unfold ZY;rcases Wj c 1 with⟨c1,h1,i4⟩|⟨e,he,h1,i4⟩
 case inr=>
  rw[h1,i4];simp only[Xj he,QZ,eE,seval];exact⟨he,v,_,Ĳ,rfl⟩
 rw[h1,i4];obtain⟨a1,_⟩:=Xm hc ψ h1;have ao:=a1.ci hc;dsimp only;simp only[eE,seval];refine aC iL ?_;refine QT (QgC P c1 (l+1) s _ (by exact dT _) (lp _) ao (wk o.kind)) ϑ ?_;intro x m1 hx _;cases hr:Je (wk o.kind) c1 with
 |error e=>
  rw[hr]at hx;obtain⟨he,a,c',rfl,rfl⟩:=hx;dsimp only;simp only[Xj he,R.av,pp,QZ,eE,seval];exact⟨he,v,c',Ĳ,rfl⟩
 |ok p=>
 obtain⟨f,d⟩:=p;rw[hr]at hx;obtain⟨rfl,rfl⟩:=hx;obtain⟨b1,_,b3,b4⟩:=Yq ao hr;have hd:=b1.ci ao;have fQ:=QgF P hP o f b3;have e0:P.av=.agg [.list (P.progs.map Qm),.list (P.enums.map QH)]:=rfl;dsimp only;generalize XP P o.kind o.target f=q at fQ |-;obtain⟨x,e⟩:=q;simp only[YO,e0,Qw,PO.cells,R.av,Qd x]at fQ;simp only[R.av,Xs,lp,pp,sh2,eE,seval];refine aC fQ ?_;by_cases fM:e=16
 ·subst fM;rw[Qnj rfl];have ha:=Qgz v ⟨o.num,0,f.bits,[]⟩ ψ;have rq:(((16:Nat):Int)==16)=true:=rfl;rw[Qd v,Qd (Uc v _)]at ha;simp only[R.av]at ha;simp only[W7,eE,seval];refine aC ha ?_;simp only[QZ,eE,seval];exact⟨by rw[Qd (Uc v _)],rfl⟩
 have rq:((e:Int)==16)=false:=ç
 rw[Qni fM];by_cases h0:e=0
 case neg=>
  rw[Qni h0];simp only[rq,Xj h0,QZ,eE,seval];exact⟨h0,v,d,Ĳ,rfl⟩
 subst h0;rw[Qnj rfl];have aw:=λy=>A8 g v o y hg ψ
 rw[Qd v]at aw;simp only[Qm,Qw,PG.cells,PO.cells]at aw;by_cases h4:o.card=4
 case neg=>
  have jT:(o.card != 4)=true:=ã
  have hx:=aw x;rw[Qd x,Qd (X6 g v o x)]at hx;rw[Qni h4];simp only[jT,W7,eE,seval];refine aC hx ?_;simp only[QZ,eE,seval];exact⟨by rw[Qd (X6 g v o x)],rfl⟩
 have jT:(o.card != 4)=false:=ã
 have bu:=Ru v o.num ψ;have i5:=Qgy (QK v o.num) x (by have:=FJ v o.num;have:=JH (QK v o.num);omega);have hx:=aw (Xa ((QK v o.num).list++[x]));rw[Qnj h4];generalize X6 g v o (Xa ((QK v o.num).list++[x]))=w at hx |-;generalize Xa ((QK v o.num).list++[x])=y at hx i5;generalize QK v o.num=z at bu i5;rw[Qd v,Qd z]at bu;rw[Qd z,Qd x,Qd y]at i5;rw[Qd y,Qd w]at hx;simp only[jT,W7,eE,seval];refine aC bu ?_;cases hf:(XN v o.num).isSome
 ·simp only[Qnu,eE,seval];refine QT (BJ P d (l+1) s _ (lp _) 1) ϑ ?_;rintro x m1 ⟨rfl,rfl⟩ _;rcases Wj d 1 with⟨c2,h2,dD⟩|⟨e,he,h2,dD⟩
  case inr=>
   rw[h2,dD];exact X_
  rw[h2,dD];dsimp only;simp only[pp,eE,seval];exact I_
 ·simp only[eE,seval];exact I_
variable {K n:Nat}{rec:Int->V->C->Rd V}(ab:BK P M K n rec)
include ab hm hs hc in
theorem QgH {t:Int}(ht:0<=t/\t<(P.progs.length:Int))(b:V)(k:Int)(iQ:0<=k)(aA:c.left<=n)(jN:1<=n->MW P n (Qe P t) b)(dM:b.ok M)(hb:(b.cnt:Int)+3*c.left<=K) :
  Qf prog 334 [.ptr l s 0,.int .i64 t,b.av,.int .i64 k] m (Rt P l s m V.av (KN rec t b k c)):=by
 have fk:=hs;have lp:∀o,Am.Qc (Am.put m l s o) l s=o:=λo=>Qt hm
 have pp:∀o q,Am.put (Am.put m l s o) l s q=Am.put m l s q:=λo q=>put_put
 have dT:∀o,l+1<(Am.put m l s o).length+1:=λo=>ă
 have l9:=λ(fr:Nat->Ob) (o:Ob) (i:C) (h:o=Xs P i) (h1:CI i) (h2:i.left<n) (h3:1<=n) (h4:(b.cnt:Int)+3*i.left<=K)=>ab (l+1) s (fr :: Am.put m l s o) t b i (dT _) (by rw[<-h];exact lp _) h1 h2 ht (jN h3) dM h4
 rw[Qd b];rw[Qd b]at l9;refine wG func334 ?_;simp only[eK,f334,seval];simp only[eE,seval];refine QT (A9 P c (l+1) s _ (Nat.succ_lt_succ hm) fk hc) ϑ ?_;intro x m1 hx _;unfold KN;cases hr:Z4 c with
 |error e=>
  rw[hr]at hx;obtain⟨he,a,c',rfl,rfl⟩:=hx;dsimp only;simp only[Xj he,QZ,eE,seval];exact⟨he,b,c',by rw[Qd b],rfl⟩
 |ok p=>
 obtain⟨q,d⟩:=p;obtain⟨a1,a2⟩:=Ji hc hr;have hd:=a1.ci hc;have aQ:=a1.lt hc;have pP:=hd.bd;rw[hr]at hx;obtain⟨rfl,rfl⟩:=hx;have iJ:=YM hd a2;have su:=Qkz d q hd.big';dsimp only;generalize enter d q=r at iJ su |-;obtain⟨i,e⟩:=r;dsimp only at iJ;simp only[HS,C.av]at su;simp only[Xs,lp,JZ,JJ,eE,seval];refine aC su ?_;by_cases he:e=0
 case neg=>
  rw[Qni he];simp only[Xj he,lp,pp,JJ,QZ,eE,seval];exact⟨he,b,i,by rw[Qd b],rfl⟩
 subst he;rw[Qnj rfl];obtain⟨e1,e2,e3⟩:=iJ rfl;simp only[lp,pp,JJ,eE,seval];refine QT (BJ P i (l+1) s _ (lp _) k) ϑ ?_;rintro x m1 ⟨rfl,rfl⟩ _;rcases Wj i k with⟨j,h2,dD⟩|⟨e,he,h2,dD⟩
 case inr=>
  rw[h2,dD];dsimp only;simp only[Xj he,pp,QZ,eE,seval];exact⟨he,b,_,by rw[Qd b],rfl⟩
 rw[h2,dD];obtain⟨s1,s2⟩:=Xm e2 iQ h2;have fS:=(s1.left e2).2.2;have hj:=s1.ci e2;have qG:=hj.bd;dsimp only;simp only[pp,eE,seval];refine QT (l9 _ _ j rfl hj ψ ψ ψ) ϑ ?_;intro x m1 hx _;cases cZ:rec t b j with
 |error e=>
  rw[cZ]at hx;obtain⟨he,w,c',rfl,rfl⟩:=hx;dsimp only;simp only[Xj he,Qd w,pp,QZ,eE,seval];exact⟨he,b,c',by rw[Qd b],rfl⟩
 |ok p=>
 obtain⟨w,j2⟩:=p;rw[cZ]at hx;obtain⟨rfl,rfl⟩:=hx;have sd:=QkA d j2;dsimp only;generalize Yp d j2=y at sd |-;simp only[C.av]at sd;simp only[Qd w,Xs,lp,pp,JZ,eE,seval];refine aC sd ?_;simp only[lp,pp,JJ,QZ,eE,seval];exact⟨ä,rfl⟩
end
def Rv (v:V)(c:C)(r:Rd V):V×C×Nat:=match r with
 |.ok (w,d)=>(w,d,0)
 |.error e=>(v,c,e)
def QgI (v:V)(c:C)(e:Nat):Rv v c (.error e)=(v,c,e):=rfl
def GZ (rec:Int->V->C->Rd V):Prop:=∀(t:Int) (v:V) (c:C) (e:Nat),rec t v c=.error e->e≠0
def Eb {c:C}{n:Int}{e:Nat}(h:Z7 c n=.error e):e≠0:=by
 unfold Z7 at h;split at h
 ·cases h
 ·exact Ov
def QhF {w:Int}{c:C}{e:Nat}(h:Je w c=.error e):e≠0:=by
 rw[Tf]at h;split at h
 ·cases h
 ·exact Ov
section
variable {rec:Int->V->C->Rd V}(ej:GZ rec)
include ej
theorem Ec {t:Int}{b:V}{k:Int}{c:C}{e:Nat}(h:KN rec t b k c=.error e):e≠0:=by
 unfold KN at h;split at h
 ·rename_i h1;cases h;exact Mb h1
 ·split at h
  ·split at h
   ·rename_i h1;cases h;exact Eb h1
   ·split at h
    ·rename_i h1;cases h;exact ej _ _ _ _ h1
    ·cases h
  ·exact Ov
theorem Qeq {g:PG}{v:V}{o:PO}{c:C}{e:Nat}(h:JL rec g v o c=.error e):e≠0:=by
 unfold JL at h;split at h<;>split at h
 ·rename_i h1;cases h;exact Ec ej h1
 ·cases h
 ·rename_i h1;cases h;exact Ec ej h1
 ·cases h
end
section
variable {M K n:Nat}{rec:Int->V->C->Rd V}(P:PL)(o:PO){c:C}(hc:CI c)(aA:c.left<=n)
variable (g:PG)(hg:g.ops.length<=maxLen)(v:V)(hv:(v.cnt:Int)+3*c.left<=K)(hK:K<=1000000)(cG:v.ok M)(dB : -1<=o.union)(ej:GZ rec)(fW:(1:Int)+3*c.left<=K)
end
end Va
namespace Va
open Go Am Rc Bt Br Up So
def dl:List (V×V)->List (V×V)
 | []=>[]
 | [x]=>[x]
 |x :: y :: l=>if XJ x.1 y.1=true then dl (y :: l)else x :: dl (y :: l)
def Wt (T:List (V×V)):Nat->List (V×V)
 |0=>[]
 |i+1=>Wt T i++(match T[i]?,T[i+1]? with
  |some x,some y=>if XJ x.1 y.1=true then []else [x]
  |some x,none=>[x]
  |none,_=>[])
def Rw (T:List (V×V)):∀i,i<=T.length->dl T=Wt T i++dl (T.drop i)
 |0,_=>rfl
 |i+1,h=>by
  rw[Rw T i ψ,Wt,QnU (by omega:i<T.length),Qnb (by omega:i<T.length),Qnw];congr 1
  by_cases hl:i+1<T.length
  ·rw[QnU hl,Qnb hl];dsimp only;rw[dl];split<;>rfl
  ·rw[QnO ψ,QoB ψ];rfl
def Qer (T:List (V×V)):Wt T T.length=dl T:=by
 rw[Rw T T.length (Qm8 _),List.drop_length];show _=_++[];rw[Qof]
def Th (T:List (V×V)):∀i,(Wt T i).length<=i
 |0=>Qm8 _
 |i+1=>by
  have:=Th T i;rw[Wt,QnP];have h:(match T[i]?,T[i+1]? with
   |some x,some y=>if XJ x.1 y.1=true then []else [x]
   |some x,none=>[x]
   |none,_=>([]:List (V×V))).length<=1:=by
   split
   ·split<;>simp
   ·simp
   ·simp
  omega
def LK {k:Int}{a b c:V}(h:XJ a b=true):kl k a c=kl k b c/\kl k c a=kl k c b:=by
 unfold XJ at h;simp only[Qnz,Qng]at h;unfold kl;rw[h.1,h.2];exact⟨rfl,rfl⟩
def Rx {k:Int}{a b:V×V}(h:kl k a.1 b.1=true):XJ a.1 b.1=false:=by
 cases he:XJ a.1 b.1 with
 |false=>rfl
 |true=>
  rw[(LK (k:=k) he).1]at h;have:kl k b.1 b.1=false:=(KE k).irr b;rw[this]at h;cases h
def Ti {k:Int}:∀ {a b:List (V×V)},(a.Pairwise λx y=>kl k x.1 y.1=true)->(b.Pairwise λx y=>kl k x.1 y.1=true)->(∀x,x∈a↔x∈b)->a=b
 | [],[],_,_,_=>rfl
 | [],y :: b,_,_,h=>by have:=(h y).2 ό;cases this
 |x :: a,[],_,_,h=>by have:=(h x).1 ό;cases this
 |x :: a,y :: b,ha,hb,h=>by
  obtain⟨a1,a2⟩:=QoN.1 ha;obtain⟨b1,b2⟩:=QoN.1 hb;have irr:∀z:V×V,kl k z.1 z.1=true->False:=λz hz=>by rw[(KE k).irr z]at hz;cases hz
  have e:x=y:=by
   rcases Qoz.1 ((h x).1 ό)with e|e
   ·exact e
   ·rcases Qoz.1 ((h y).2 ό)with e'|e'
    ·exact e'.symm
    ·exact(irr x ((KE k).tr x y x (a1 y e') (b1 x e))).elim
  subst e;congr 1
  refine Ti a2 b2 λz=>?_
  have hz:=h z;simp only[Qoz]at hz
  constructor
  ·intro hm;rcases hz.1 (.inr hm)with e|e
   ·subst e;exact(irr z (a1 z hm)).elim
   ·exact e
  ·intro hm;rcases hz.2 (.inr hm)with e|e
   ·subst e;exact(irr z (b1 z hm)).elim
   ·exact e
def CN {k:Int}:∀ {l:List (V×V)},(l.Pairwise λx y=>kl k x.1 y.1=true)->dl l=l
 | [],_=>rfl
 | [x],_=>rfl
 |x :: y :: l,h=>by
  obtain⟨h1,h2⟩:=QoN.1 h;rw[dl,Rx (h1 y ό),Qni ό,CN h2]
def LL {k:Int}{x:V×V}{R:List (V×V)}:∀ {L:List (V×V)},(L.Pairwise λx y=>kl k x.1 y.1=true)->(∀u∈L,kl k x.1 u.1=false)->dl (L++x :: R)=L.filter (λq=>!XJ q.1 x.1)++dl (x :: R)
 | [],_,_=>rfl
 | [u],_,_=>by
  show dl (u :: x :: R)=_;rw[dl,QoQ];cases XJ u.1 x.1<;>rfl
 |u :: v :: L,h,hx=>by
  obtain⟨h1,h2⟩:=QoN.1 h;have v7:=h1 v ό;have yg:XJ u.1 x.1=false:=by
   cases he:XJ u.1 x.1 with
   |false=>rfl
   |true=>
    have:=hx v ό;rw[<-(LK (k:=k) he).1,v7]at this;cases this
  show dl (u :: v :: (L++x :: R))=_;rw[dl,Rx v7,Qni ό,QoQ,yg];show u :: dl (v :: L++x :: R)=_;rw[LL h2 λw hw=>hx w (Qnr _ hw)];rfl
def CO {k:Int}{x:V×V}:∀ {O:List (V×V)},Zt (λx y:V×V=>kl k x.1 y.1) O->∃L R,O=L++R/\(∀u∈L,kl k x.1 u.1=false)/\∀u∈R,kl k x.1 u.1=true
 | [],_=>⟨[],[],rfl,(λ_ h=>(nomatch h)),(λ_ h=>(nomatch h))⟩
 |u :: O,h=>by
  obtain⟨h1,h2⟩:=QoN.1 h;cases hx:kl k x.1 u.1 with
  |true=>
   refine⟨[],u :: O,rfl,(λ_ h=>(nomatch h)),λw hw=>?_⟩;rcases Qoz.1 hw with rfl|hw
   ·exact hx
   ·cases hc:kl k x.1 w.1 with
    |true=>rfl
    |false=>
     have:=(KE k).nt x w u hc (h1 w hw);rw[hx]at this;cases this
  |false=>
   obtain⟨L,R,e,hl,hr⟩:=CO (x:=x) h2;refine⟨u :: L,R,by rw[e];rfl,λw hw=>?_,hr⟩;rcases Qoz.1 hw with rfl|hw
   ·exact hx
   ·exact hl w hw
section
variable {P:PL}{k:Int}
def KF (P:PL)(k:Int)(l:List (V×V)):Prop:=∀p∈l,p.1.kx P k/\p.1.bits<18446744073709551616
theorem CP {l:List (V×V)}(h1:KF P k l)(hs:Zt (λx y:V×V=>kl k x.1 y.1) l)(hu:l.Pairwise λq p=>XJ q.1 p.1=false):l.Pairwise λx y=>kl k x.1 y.1=true:=by
 unfold Zt at hs;rw[Qpr]at *;intro i j hi hj d_;obtain⟨a1,a2⟩:=h1 _ (Qn3 hi);obtain⟨b1,b2⟩:=h1 _ (Qn3 hj);exact Rh b1 a1 b2 a2 (hs i j hi hj d_) (by rw[U0];exact hu i j hi hj d_)
theorem Tj {A:List (V×V)}{x:V×V}(hA:KF P k A)(hx:x.1.kx P k/\x.1.bits<18446744073709551616)(hu:A.Pairwise λq p=>XJ q.1 p.1=false):dl (QY k (A++[x]))=Zx k A x:=by
 have hO:(QY k A).Perm A:=QN _;have vA:Zt (λx y:V×V=>kl k x.1 y.1) (QY k A):=X5 (KE k) _;have hT:QY k (A++[x])=mg (λx y:V×V=>kl k x.1 y.1) (QY k A) [x]:=(YJ (KE k) A [x]).symm;have yI:KF P k (QY k A):=λp hp=>hA p (hO.mem_iff.1 hp)
 have wM:(QY k A).Pairwise λq p=>XJ q.1 p.1=false:=(hO.pairwise_iff λ{a b} h=>by rw[U0];exact h).2 hu
 have ay:=CP yI vA wM;obtain⟨L,R,e,hl,hr⟩:=CO (k:=k) (x:=x) vA;rw[hT,e,UR hl hr];rw[e]at ay;obtain⟨hL,hR,xY⟩:=QoO.1 ay;have ut:(x :: R).Pairwise λx y=>kl k x.1 y.1=true:=QoN.2 ⟨hr,hR⟩
 rw[LL hL hl,CN ut];have aN:∀w,w∈A↔w∈L\/w∈R:=λw=>by rw[<-hO.mem_iff,e,Qow]
 have uT:∀w,w∈Zx k A x↔(w∈A/\XJ w.1 x.1=false)\/w=x:=by
  intro w;have hp:(Zx k A x).Perm _:=QN _;rw[hp.mem_iff,Qow,QoL,Qpp];simp
 refine Ti (k:=k) ?_ ?_ ?_
 ·rw[QoO];refine⟨hL.filter _,ut,λu gX w hw=>?_⟩;obtain⟨u1,u2⟩:=QoL.1 gX;have u2:XJ u.1 x.1=false:=by simpa using u2
  rcases Qoz.1 hw with rfl|hw
  ·obtain⟨f1,f2⟩:=hA u ((aN u).2 (.inl u1));exact Rh hx.1 f1 hx.2 f2 (hl u u1) (by rw[U0];exact u2)
  ·exact xY u u1 w hw
 ·refine CP (P:=P) (λp hp=>?_) (X5 (KE k) _) (Tc hu);rcases(uT p).1 hp with⟨h,_⟩|rfl
  ·exact hA p h
  ·exact hx
 ·intro w;rw[Qow,QoL,Qoz,uT,aN]
  constructor
  ·rintro(⟨h1,h2⟩|h1|h1)
   ·exact .inl ⟨.inl h1,ϭ⟩
   ·exact .inr h1
   ·exact .inl ⟨.inr h1,by rw[U0];exact Rx (hr w h1)⟩
  ·rintro(⟨h1|h1,h2⟩|h1)
   ·exact .inl ⟨h1,ϭ⟩
   ·exact .inr (.inr h1)
   ·exact .inr (.inl h1)
end
def PqI (T:List (V×V))(k:Nat)(st:St):Prop :=
 ∃f fr i g h,st=⟨f,[fr],[]⟩/\k=T.length-i/\i<=T.length/\f 3=.vec 0 1000 g 0 T.length false/\f 4=.vec 0 4 h 0 (Wt T i).length false/\f 11=.vec 0 1000 g 0 T.length false/\f 12=.int .i64 (T.length:Nat)/\f 13=.int .i64 (i:Nat)/\fr 1000=.vec g 14 (T.map V.pav)/\fr 4=.vec h 14 ((Wt T i).map V.pav)/\∀s∈[6],(fr s).isRow=false
def Qc6 {P:PL}{k:Int}(hk:XS k)(ps:List (V×V))(hn:ps.length<=1048576)(h1:∀p∈ps,p.1.kx P k)(hb:∀p∈ps,p.1.bits<18446744073709551616):Qi prog 101 [.list (ps.map V.pav)] (.list ((dl (QY k ps)).map V.pav)):=by
 have cl:=λfr hr=>Qge (ps.map V.pav) fr [] (J8 ps) (by rw[Qn6];exact hn) hr
 have ez:∀x∈ps.map V.pav,Ez (eP P k) 14 x:=by
  exact κ
 have cs:=λg (m:Qk) (hl:Am.Qc m 0 1000=.vec g 14 (ps.map V.pav))=>Tz.A2 Tg.Lk ϊ (Qgf (P:=P) hk) 0 1000 g (ps.map V.pav) m hl ez Ω
 simp only[PZ,Qn6]at cs;have aF:(QY k ps).Perm ps:=QN _;have hlen:(QY k ps).length=ps.length:=aF.length_eq;have q_:∀p∈QY k ps,p.1.kx P k:=λp hp=>h1 p (aF.mem_iff.1 hp)
 have pV:∀p∈QY k ps,p.1.bits<18446744073709551616:=λp hp=>hb p (aF.mem_iff.1 hp)
 generalize QY k ps=T at *;have tY:=Qer T;have kH:=Th T;rw[<-tY];refine wF func101 ?_;simp only[eK,f101,seval];simp only[Qa,seval];refine Qh (cl _ rfl) ϑ ?_;simp only[Qn6,Qa,seval];refine Qh (cs _ _ Ĕ) ϑ ?_;simp only[eE,seval];refine ZW ϋ ϋ ?_;simp only[eE,seval];refine Qj (PqI T) _ ⟨_,_,0,_,_,rfl,rfl,Qnk _,Ϻ,ω,Ϻ,Ϻ,ω,ω,ω,ϛ⟩ ?_;rintro _ st ⟨f0,bA,i,g,h,rfl,rfl,bg,ax,aS,aU,aG,aT,cF,b_,r6⟩;refine QR (a:=_) [6] r6 ?_;intro f fr hf hm gg;have h3:f 3=.vec 0 1000 g 0 T.length false:=Ϥ
 have h4:f 4=.vec 0 4 h 0 (Wt T i).length false:=ϱ
 have aI:f 11=.vec 0 1000 g 0 T.length false:=Ë
 have h12:f 12=.int .i64 (T.length:Nat):=Ì
 have h13:f 13=.int .i64 (i:Nat):=Û
 have mR:fr 1000=.vec g 14 (T.map V.pav):=Ι
 have m4:fr 4=.vec h 14 ((Wt T i).map V.pav):=ϝ
 have n6:=gg 6 ϊ;clear hf hm gg ax aS aU aG aT cF b_ r6;simp only[h12,h13,Qa,seval];by_cases aa:i<T.length
 ·obtain⟨x,hi⟩:∃x,T[i]? = some x:=⟨T[i],Qnb aa⟩;have hg:=KG hi;have e1:=Qv i _ aa ώ;have ia:∀(fr:Nat->Ob) (j:Nat),fr 1000=.vec g 14 (T.map V.pav)->j<T.length->Qg [fr] 14 none (.vec 0 1000 g 0 T.length false) ((j:Nat):Int)=some (.vptr 0 1000 g j 0):=λfr j h hj=>Qa9 h hj
  have la:∀(fr:Nat->Ob),fr 1000=.vec g 14 (T.map V.pav)->XH [fr] (some 14) (.vptr 0 1000 g i 0)=some (.agg [.int .i64 x.1.kd,.int .u64 (x.1.bits:Nat),.str x.1.text,.list (x.1.list.map V.av),.list (x.1.pairs.map V.pav),.list (x.1.slots.map V.sav),.list (x.1.raws.map R.av),.int .i64 x.2.kd,.int .u64 (x.2.bits:Nat),.str x.2.text,.list (x.2.list.map V.av),.list (x.2.pairs.map V.pav),.list (x.2.slots.map V.sav),.list (x.2.raws.map R.av)]):=λfr h=>PY h hg ό
  have hdi:=kH i;have keep:Wt T (i+1)=Wt T i++[x]->∀(f':Fr) (ag:Nat->Ob) (h':Nat),f' 3=.vec 0 1000 g 0 T.length false->f' 4=.vec 0 4 h' 0 ((Wt T i).length+1) false->f' 11=.vec 0 1000 g 0 T.length false->f' 12=.int .i64 (T.length:Nat)->f' 13=.int .i64 ((i+1:Nat):Int)->ag 1000=.vec g 14 (T.map V.pav)->ag 4=.vec h' 14 ((Wt T i).map V.pav++[V.pav x])->(∀s∈[6],(ag s).isRow=false)->∃k,k<T.length-i/\PqI T k ⟨f',[ag],[]⟩:=by
   intro pW f' ag h' a3 a4 mV qi q6 b1 b4 b6;exact⟨T.length-(i+1),ψ,f',ag,i+1,g,h',rfl,rfl,ψ,a3,by rw[a4,pW,QnP];rfl,mV,qi,q6,b1,by rw[b4,pW,Qo3];rfl,b6⟩
  have ay:Wt T (i+1)=Wt T i++(match T[i]?,T[i+1]? with
   |some x,some y=>if XJ x.1 y.1=true then []else [x]
   |some x,none=>[x]
   |none,_=>[]):=rfl
  rw[hi]at ay;have dA:((Wt T i).map V.pav).length=(Wt T i).length:=Qn6 ..;simp only[QE aa,ia,la,mR,aa,n6,h3,aI,h13,e1,eE,seval];by_cases hl:i+1=T.length
  ·have d1:(((i+1:Nat):Int)==(T.length:Int))=true:=Ϗ
   rw[QoB ψ]at ay;simp only[d1,h4,eE,seval];exact zm
  ·have d1:(((i+1:Nat):Int)==(T.length:Int))=false:=Ϗ
   have fw:i+1<T.length:=ψ
   obtain⟨y,hj⟩:∃y,T[i+1]? = some y:=⟨T[i+1],Qnb fw⟩;have g8:=KG hj;have lc:∀(fr:Nat->Ob),fr 1000=.vec g 14 (T.map V.pav)->XH [fr] (some 7) (.vptr 0 1000 g (i+1) 0)=some (.agg [.int .i64 y.1.kd,.int .u64 (y.1.bits:Nat),.str y.1.text,.list (y.1.list.map V.av),.list (y.1.pairs.map V.pav),.list (y.1.slots.map V.sav),.list (y.1.raws.map R.av)]):=λfr h=>by
    rw[PY h g8 ό];rfl
   have bE:=q_ x (Qnp hi);have mE:=q_ y (Qnp hj);rw[hj]at ay;dsimp only at ay;have hq:=QaU k hk x.1.bits y.1.bits x.1.text y.1.text;rw[<-(K0 bE).1,<-(K0 mE).1,VM hk bE mE (pV x (Qnp hi)) (pV y (Qnp hj)),Qd,Qd]at hq;simp only[d1,ia,lc,mR,fw,Y8,QnA,QnK,Qol,QnT,h3,e1,eE,seval];refine aC hq ?_;cases aq:XJ x.1 y.1
   ·skip
    rw[aq,Qni ό]at ay;simp only[h4,eE,seval];exact zm
   ·rw[aq,Qnj rfl,Qof]at ay;simp only[h13,e1,Qa,seval];exact⟨T.length-(i+1),ψ,_,_,i+1,g,h,rfl,rfl,ψ,ϖ,(by rw[ay];exact Ϡ),Ø,Γ,ω,Β,(by rw[ay];exact Φ),ϛ⟩
 ·have e:i=T.length:=ψ
  subst e;exact P_
open Vp Cp
def QgJ {k:Int}:Qw ⟨0,[],[],0,0,k,-1,0⟩=.agg [.int .i64 0,.str [],.str [],.int .i64 0,.int .i64 0,.int .i64 k,.int .i64 (-1),.int .i64 0]:=rfl
section
variable {M K n:Nat}(P:PL)(hP:P.ok M)(c:C)(l s:Nat)(m:Qk)(hm:l<m.length)(hs:Am.Qc m l s=Xs P c)(hc:CI c){rec:Int->V->C->Rd V}(ab:BK P M K n rec)(aA:c.left<=n)(fW:(1:Int)+3*c.left<=K)
include hP hm hs hc ab aA fW in
theorem Qk4 (o:PO)(w:Int)(ht:o.kind=10->0<=o.target/\o.target<(P.progs.length:Int)) :
  Qf prog 329 [.ptr l s 0,Qw o,.int .i64 w] m (Rt P l s m V.av (Jf P rec o.kind o.target w c)):=by
 have fk:=hs;have lp:∀o,Am.Qc (Am.put m l s o) l s=o:=λo=>Qt hm
 have pp:∀o q,Am.put (Am.put m l s o) l s q=Am.put m l s q:=λo q=>put_put
 have iL:=Rs o;simp only[Qw,PO.cells]at iL;refine wG func329 ?_;simp only[eK,f329,seval];simp only[Qw,PO.cells,eE,seval];refine aC iL ?_;unfold Jf;by_cases hw:w=wk o.kind
 case neg=>
  have b1:(w != wk o.kind)=true:=ő
  rw[Qni hw];simp only[b1,eE,seval];exact⟨ϊ,QC 0 0 [],c,(by rw[avs];rfl),(put_self hm fk).symm⟩
 have b1:(w != wk o.kind)=false:=ő
 rw[Qnj hw];by_cases hk:o.kind=10
 ·have b2:(o.kind==10)=true:=Α
  rw[Qnj hk];simp only[b1,b2,W7,eE,seval];refine WJ (QgH P c (l+1) s _ Ϟ fk hc ab (ht hk) (QC 10 0 []) 0 (QoC 0) aA (λhn=>Xq hn) (XG rfl ϊ (Qnk _)) ϫ) Χ ?_;intro x m1 hx _;cases hr:KN rec o.target (QC 10 0 []) 0 c with
  |error e=>
   exact zf
  |ok p=>
   obtain⟨y,d⟩:=p;rw[hr]at hx;obtain⟨rfl,rfl⟩:=hx;simp only[Qd y,QZ,eE,seval];exact⟨by rw[Qd y],rfl⟩
 ·have b2:(o.kind==10)=false:=Α
  rw[Qni hk];simp only[b1,b2,W7,eE,seval];refine QT (QgC P c (l+1) s _ Ϟ fk hc w) ϑ ?_;intro x m1 hx _;cases hr:Je w c with
  |error e=>
   rw[hr]at hx;obtain⟨he,y,c',rfl,rfl⟩:=hx;dsimp only;simp only[Xj he,R.av,QZ,eE,seval];exact⟨he,QC 0 0 [],c',(by rw[avs];rfl),rfl⟩
  |ok p=>
   obtain⟨f,d⟩:=p;rw[hr]at hx;obtain⟨rfl,rfl⟩:=hx;obtain⟨_,_,b3,b4⟩:=Yq hc hr;have fQ:=QgF P hP o f b3;have e0:P.av=.agg [.list (P.progs.map Qm),.list (P.enums.map QH)]:=rfl;dsimp only;generalize XP P o.kind o.target f=q at fQ |-;obtain⟨x,e⟩:=q;simp only[YO,e0,Qw,PO.cells,R.av,Qd x]at fQ;simp only[R.av,Xs,lp,sh2,eE,seval];refine aC fQ ?_;simp only[QZ,eE,seval];by_cases he:e=0
   ·subst he;rw[Qnj rfl];exact⟨by rw[Qd x];rfl,rfl⟩
   ·rw[Qni he];exact⟨he,x,d,by rw[Qd x],rfl⟩
variable (g:PG)(hg:g.ops.length<=maxLen)(v:V)(hv:(v.cnt:Int)+3*c.left<=K)(hK:K<=1000000)(cG:v.ok M)(o:PO)
include hm hs hc ab aA fW hg hv hK cG in
theorem Qk5 (ho:OpK P g o)(am:o.kind=10)(h5:o.card≠5)(ap:MW P (n+1) g v) :
  Qf prog 284 [.ptr l s 0,Qm g,v.av,Qw o] m (Rt P l s m V.av (JL rec g v o c)):=by
 have fk:=hs;have lp:∀o,Am.Qc (Am.put m l s o) l s=o:=λo=>Qt hm
 have pp:∀o q,Am.put (Am.put m l s o) l s q=Am.put m l s q:=λo q=>put_put
 have ls:=Zg v;have gE:=hc.bd;have ht:=ho.uo.tgt am;have bu:=Ru v o.num ψ;have lY:=FJ v o.num;have fI:=D3 (n:=o.num) cG;have fY:=λ(fr:Nat->Ob) (b:V) (k:Int) (h0:0<=k) (h1:1<=n->MW P n (Qe P o.target) b) (h2:b.ok M) (h3:(b.cnt:Int)+3*c.left<=K)=>QgH P c (l+1) s (fr :: m) Ϟ fk hc ab ht b k h0 aA h1 h2 h3
 have aw:=λy=>A8 g v o y hg ψ
 have i5:=λx=>Qgy (QK v o.num) x (by have:=JH (QK v o.num);omega)
 have cH:∀h:(XN v o.num).isSome=false,QK v o.num=QC 0 0 []:=λh=>ZL (by rw[h];simp)
 have cI:o.card≠4->(XN v o.num).isSome=true->MW P n (Qe P o.target) (QK v o.num):=by
  intro h4 h;obtain⟨z,hz⟩:=QnD.1 h;have h2:=U1 ap ho.self hz;unfold FW at h2;rw[Qni h4,Qni h5]at h2;rw[(Xi hz).2];exact h2 am
 rw[Qd v]at aw;simp only[Qm,Qw,PG.cells,PO.cells]at aw;unfold JL;generalize QK v o.num=z at bu i5 lY fI cH cI |-;rw[Qd v,Qd z]at bu;rw[Qd z]at i5;rw[Qd v];refine wG func284 ?_;simp only[eK,f284,seval];simp only[Qm,Qw,PG.cells,PO.cells,eE,seval];refine aC bu ?_;by_cases h4:o.card=4
 ·have jT:(o.card==4)=true:=ã
  rw[Qnj h4];cases hf:(XN v o.num).isSome
  case false=>
   have fv:(if (false:Bool)=true then(1:Int)else 2)=2:=rfl;rw[fv];simp only[jT,W7,eE,seval];refine WJ (fY _ (QC 10 0 []) 2 ϊ (λhn=>Xq hn) (XG rfl ϊ (Qnk _)) ϫ) Χ ?_;intro x m1 hx _;cases hr:KN rec o.target (QC 10 0 []) 2 c with
   |error e=>
    exact zA
   |ok p=>
    obtain⟨y,d⟩:=p;rw[hr]at hx;obtain⟨rfl,rfl⟩:=hx;have h1:=i5 y;have h2:=aw (Xa (z.list++[y]));dsimp only;generalize X6 g v o (Xa (z.list++[y]))=w at h2 |-;generalize Xa (z.list++[y])=u at h1 h2;rw[Qd y,Qd u]at h1;rw[Qd u,Qd w]at h2;simp only[Qd y,eE,seval];refine aC h1 ?_;refine aC h2 ?_;simp only[QZ,eE,seval];exact⟨ä,rfl⟩
  case true=>
   have fv:(if (true:Bool)=true then(1:Int)else 2)=1:=rfl;rw[fv];simp only[jT,W7,eE,seval];refine WJ (fY _ (QC 10 0 []) 1 ϊ (λhn=>Xq hn) (XG rfl ϊ (Qnk _)) ϫ) Χ ?_;intro x m1 hx _;cases hr:KN rec o.target (QC 10 0 []) 1 c with
   |error e=>
    exact zA
   |ok p=>
    obtain⟨y,d⟩:=p;rw[hr]at hx;obtain⟨rfl,rfl⟩:=hx;have h1:=i5 y;have h2:=aw (Xa (z.list++[y]));dsimp only;generalize X6 g v o (Xa (z.list++[y]))=w at h2 |-;generalize Xa (z.list++[y])=u at h1 h2;rw[Qd y,Qd u]at h1;rw[Qd u,Qd w]at h2;simp only[Qd y,eE,seval];refine aC h1 ?_;refine aC h2 ?_;simp only[QZ,eE,seval];exact⟨ä,rfl⟩
 ·have jT:(o.card==4)=false:=ã
  rw[Qni h4];cases hf:(XN v o.num).isSome
  case false=>
   have fv:(if (false:Bool)=true then z else QC 10 0 [])=QC 10 0 []:=rfl;rw[fv];simp only[jT,W7,eE,seval];refine WJ (fY _ (QC 10 0 []) 1 ϊ (λhn=>Xq hn) (XG rfl ϊ (Qnk _)) ϫ) (by rw[Qd (QC 10 0 [])];first|rfl|simp only[QnJ,Qod,Vf,nn0,eE,seval]) ?_;intro x m1 hx _;cases hr:KN rec o.target (QC 10 0 []) 1 c with
   |error e=>
    exact zA
   |ok p=>
    obtain⟨y,d⟩:=p;rw[hr]at hx;obtain⟨rfl,rfl⟩:=hx;have h2:=aw y;dsimp only;generalize X6 g v o y=w at h2 |-;rw[Qd y,Qd w]at h2;simp only[Qd y,eE,seval];refine aC h2 ?_;simp only[QZ,eE,seval];exact⟨ä,rfl⟩
  case true=>
   have fv:(if (true:Bool)=true then z else QC 10 0 [])=z:=rfl;rw[fv];simp only[jT,W7,eE,seval];refine WJ (fY _ (z) 1 ϊ (λ_=>cI h4 hf) (fI) ψ) (by rw[Qd (z)];first|rfl|simp only[QnJ,Qod,Vf,nn0,eE,seval]) ?_;intro x m1 hx _;cases hr:KN rec o.target (z) 1 c with
   |error e=>
    exact zA
   |ok p=>
    obtain⟨y,d⟩:=p;rw[hr]at hx;obtain⟨rfl,rfl⟩:=hx;have h2:=aw y;dsimp only;generalize X6 g v o y=w at h2 |-;rw[Qd y,Qd w]at h2;simp only[Qd y,eE,seval];refine aC h2 ?_;simp only[QZ,eE,seval];exact⟨ä,rfl⟩
end
def W8 (c:C):List AV:=[.str c.d,.int .i64 c.a,.int .i64 c.e,.int .i64 c.dp,.int .i64 c.nd,.int .i64 c.tx]
section
variable {M K n:Nat}(hM:65536<=M)(hK:K<=1000000)(P:PL)(hP:P.ok M)(l s:Nat)(m:Qk)(hm:l<m.length)(g:PG)(hg:g.ops.length<=maxLen)(o:PO)(ho:OpK P g o)(h5:o.card≠5)
structure PkF (g:PG)(o:PO)(d:C)(l s:Nat)(f:Fr)(fr:Nat->Ob)(v:V):Prop where
 f0:f 0=.ptr (l+1) s 0
 f5:f 5=.ptr 0 5 0
 f6:f 6=.ptr 0 6 0
 f7:f 7=.ptr 0 7 0
 f8:f 8=.ptr 0 8 0
 f12:f 12=.ptr 0 12 0
 m5:fr 5=.cells g.cells
 m6:fr 6=.cells (vc v)
 m7:fr 7=.cells o.cells
 m8:fr 8=.cells JY
 m12:fr 12=.cells (W8 d)
include hM hK hP hm hg ho h5 in
theorem Tk {cL:RC}(d:C)(R0:Rd V)(k:Nat)(v:V)(c:C)(f:Fr)(fr:Nat->Ob)(hf:PkF g o d l s f fr v)(hc:CI c)(hk:c.left<=k)(hR:ZS P g o k v c=R0)(ap:MW P (n+1) g v)(cG:v.ok M)(hb:(v.cnt:Int)+3*c.left<=K)(Q:Exit->St->Prop)
  (hx:∀f fr v c,PkF g o d l s f fr v->R0=.ok (v,c)->Q (.exit 0) ⟨f,fr :: Am.put m l s (Xs P c),[]⟩)
  (he:∀f fr v (e:Nat) c,f 8=.ptr 0 8 0->fr 8=.cells (vc v)->f 9=.int .i64 (e:Nat)->R0=.error e->e≠0->Q .ret ⟨f,fr :: Am.put m l s (Xs P c),[]⟩) (bU:lp 282 0 f282=cL:=by simp only[eL,eK,f282,seval]) :
  Q1 prog (.loop cL) ⟨f,fr :: Am.put m l s (Xs P c),[]⟩ Q:=by
 subst bU;simp only[eL,eK,f282,seval];have lp:∀o,Am.Qc (Am.put m l s o) l s=o:=λo=>Qt hm
 have pp:∀o q,Am.put (Am.put m l s o) l s q=Am.put m l s q:=λo q=>put_put
 have dT:∀o,l+1<(Am.put m l s o).length+1:=λo=>ă
 let I:Nat->St->Prop:=λk st=>∃f fr v c,st=⟨f,fr :: Am.put m l s (Xs P c),[]⟩/\PkF g o d l s f fr v/\CI c/\c.left<=k/\ZS P g o k v c=R0/\MW P (n+1) g v/\v.ok M/\(v.cnt:Int)+3*c.left<=K
 refine Qj I k ⟨f,fr,v,c,rfl,hf,hc,hk,hR,ap,cG,hb⟩ ?_;clear hf hc hk hR ap cG hb;rintro k st ⟨f,fr,v,c,rfl,hf,hc,hk,hR,ap,cG,hb⟩;have gE:=hc.bd;obtain⟨h0,fV,h6,h7,h8,h12,bh,bT,gT,df,fc⟩:=hf;have m5:=bh;have m6:=bT;have m7:=gT;have m8:=df;simp only[PG.cells]at m5;simp only[vc]at m6;simp only[PO.cells]at m7;simp only[JY]at m8;simp only[Xs,lp,h0,JZ,eE,seval];refine aC (DS c hc.big') ?_;by_cases aa:0<c.left
 case neg=>
  have d1:decide (c.left > 0)=false:=Qo8 aa;have eQ:R0=.ok (v,c):=by
   rw[<-hR];cases k with
   |zero=>rfl
   |succ k=>rw[ZS,Qni aa]
  simp only[d1,Qa,seval];exact hx _ _ v c ⟨ϗ,ľ,Ϝ,Ϫ,ϣ,Γ,bh,bT,gT,df,fc⟩ eQ
 have d1:decide (c.left > 0)=true:=Qpe aa;obtain⟨k,rfl⟩:∃j,k=j+1:=⟨k-1,ψ⟩;rw[ZS,Qnj aa]at hR;have cH:=QgG P hP c (l+1) s (fr :: Am.put m l s (Xs P c)) (by exact dT _) Ï hc g hg v ψ o;rw[Qd v]at cH;simp only[Qm,Qw,PG.cells,PO.cells,Xs]at cH;simp only[d1,h0,fV,h6,h7,m5,m6,m7,eE,seval];refine QT cH ύ ?_;intro x m1 bE _;cases hr:ZY P g v o c with
 |error e=>
  rw[hr]at bE hR;obtain⟨i_,w,c',rfl,rfl⟩:=bE;simp only[Qd w,Xj i_,h6,h8,m6,m8,pp,eE,seval];exact he _ _ w e c' ϣ ω ω hR.symm i_
 |ok p=>
  obtain⟨w,d1⟩:=p;rw[hr]at bE hR;obtain⟨rfl,rfl⟩:=bE;obtain⟨r1,r2,r3,r4⟩:=VU hM hK ho hc ap cG hb h5 hr;have hl:=r1.lt hc;dsimp only at hR;simp only[Qd w,h6,m6,pp,eE,seval];exact⟨k,ψ,_,_,w,d1,rfl,⟨ϗ,ľ,Ϝ,Ϫ,ϣ,Γ,Ζ,ω,Ł,à,(by exact fc)⟩,r1.ci hc,ψ,hR,r2,r3,ψ⟩
variable (c:C)(hs:Am.Qc m l s=Xs P c)(hc:CI c)(v:V)(ap:MW P (n+1) g v)(cG:v.ok M)(hb:(v.cnt:Int)+3*c.left<=K)
include hM hK hP hm hg ho h5 hs hc ap cG hb in
theorem Qk6 (h4:o.card=4) :
  Qf prog 282 [.ptr l s 0,Qm g,v.av,Qw o] m (Rt P l s m V.av (JV P g v o c)):=by
 have fk:=hs;have lp:∀o,Am.Qc (Am.put m l s o) l s=o:=λo=>Qt hm
 have pp:∀o q,Am.put (Am.put m l s o) l s q=Am.put m l s q:=λo q=>put_put
 have dT:∀o,l+1<(Am.put m l s o).length+1:=λo=>ă
 have ls:=Zg v;have gE:=hc.bd;have iL:=Rs o;have bu:=Ru v o.num ψ;have aw:=A8 g v o (Xa []) hg ψ;have bz:=KS (g:=g) (x:=Xa []) cG ho.wf (UB (λy hy=>(nomatch hy)) (Qnk _)) ψ;have vd:=KT (x:=Xa []) ap ho.self (by unfold FW;rw[Qnj h4];exactλy hy=>(nomatch hy));have d9:=Wi g v o (Xa []);rw[WW]at d9;simp only[Q9]at d9;unfold JV;rw[show(Xa []).av=.agg [.int .i64 11,.int .u64 0,.str [],.list [],.list [],.list [],.list []]from Qd _]at aw;generalize X6 g v o (Xa [])=w at aw bz vd d9 |-;rw[Qd v,Qd w]at aw;generalize QK v o.num=z at bu;rw[Qd v,Qd z]at bu;simp only[Qm,Qw,PG.cells,PO.cells]at aw iL;rw[Qd v];refine wG func282 ?_;simp only[eK,f282,seval];simp only[Qm,Qw,PG.cells,PO.cells,eE,seval];refine QT (A9 P c (l+1) s _ Ϟ fk hc) ϑ ?_;intro x m1 hx _;cases hr:Z4 c with
 |error e=>
  rw[hr]at hx;obtain⟨he,a,c',rfl,rfl⟩:=hx;exact At
 |ok p=>
 obtain⟨q,d⟩:=p;obtain⟨a1,a2⟩:=Ji hc hr;have hd:=a1.ci hc;have aQ:=a1.lt hc;have pP:=hd.bd;rw[hr]at hx;obtain⟨rfl,rfl⟩:=hx;obtain⟨_,p2,p3⟩:=ZZ hd a2;dsimp only;simp only[eE,seval];refine QT (QgD P d (l+1) s _ Ï q) ϑ ?_;rintro x m1 ⟨rfl,rfl⟩ _;have o0:=Qkw (part d q) p2.big';have k8:=HX p2;generalize part d q=i at o0 k8 p2 p3 |-;generalize ZD i=r at o0 k8 |-;obtain⟨b,j,e⟩:=r;dsimp only at k8;simp only[AR,C.av]at o0;simp only[C.av,Xs,lp,pp,JZ,JJ,eE,seval];refine aC o0 ?_;by_cases he:e=0
 case neg=>
  rw[Qni he];simp only[Xj he,JJ,QZ,eE,seval];exact⟨he,v,i,Ĳ,rfl⟩
 subst he;obtain⟨y1,y2,y3⟩:=k8 rfl;have hj:=y1.ci p2;have a_:=y1.lt p2;have qG:=hj.bd;have w1:IntKind.i64.wrap b=b:=ϐ
 rw[Qnj rfl];simp only[w1,lp,pp,JZ,JJ,eE,seval];refine aC iL ?_;by_cases hw:b=wk o.kind
 case neg=>
  have b1:(b != wk o.kind)=true:=ő
  rw[Qni hw];simp only[b1,QZ,eE,seval];exact⟨ϊ,v,j,by rw[Qd v];rfl,rfl⟩
 have b1:(b != wk o.kind)=false:=ő
 rw[Qnj hw];simp only[b1,W7,eE,seval];refine aC bu ?_
 -- JE the loop
 cases hf:(XN v o.num).isSome
 case false=>
  simp only[Qnu,eE,seval];refine QT (BJ P j (l+1) s _ Ï 1) ϑ ?_;rintro x m1 ⟨rfl,rfl⟩ _;rcases Wj j 1 with⟨j2,h2,dD⟩|⟨e,he,h2,dD⟩
  case inr=>
   rw[h2,dD];dsimp only;exact X_
  rw[h2,dD];obtain⟨s1,_⟩:=Xm hj ψ h2;have uu:=s1.ci hj;have fS:=(s1.left hj).2.2;have xd:=uu.bd;dsimp only;simp only[pp,eE,seval];refine aC aw ?_;simp only[eE,seval];unfold ZJ;refine Tk (n:=n) hM hK P hP l s m hm g hg o ho h5 d _ j2.left.toNat w j2 _ _ ⟨ω,ω,ω,ω,ω,ω,ω,ω,ω,ω,ω⟩ uu ψ rfl vd bz ψ _ (λf fr v' c' i8 eQ=>?_) (λf fr v' e c' h8 m8 h9 eQ he=>?_)
  ·obtain⟨h0,fV,h6,h7,h8,h12,m5,m6,m7,m8,m12⟩:=i8;rw[eQ];dsimp only;simp only[vc]at m6;simp only[JY]at m8;simp only[W8]at m12;simp only[h0,h12,m12,JZ,eE,seval];refine QT (Ea P c' (l+1) s _ Ï d) ð ?_;rintro x m1 ⟨rfl,rfl⟩ _;simp only[h6,h8,m6,m8,pp,QZ,eE,seval];exact⟨by rw[Qd v'],rfl⟩
  ·exact OA
 case true=>
  simp only[eE,seval];unfold ZJ;refine Tk (n:=n) hM hK P hP l s m hm g hg o ho h5 d _ j.left.toNat v j _ _ ⟨ω,ω,ω,ω,ω,ω,ω,ω,ω,ω,ω⟩ hj ψ rfl ap cG ψ _ (λf fr v' c' i8 eQ=>?_) (λf fr v' e c' h8 m8 h9 eQ he=>?_)
  ·obtain⟨h0,fV,h6,h7,h8,h12,m5,m6,m7,m8,m12⟩:=i8;rw[eQ];dsimp only;simp only[vc]at m6;simp only[JY]at m8;simp only[W8]at m12;simp only[h0,h12,m12,JZ,eE,seval];refine QT (Ea P c' (l+1) s _ Ï d) ð ?_;rintro x m1 ⟨rfl,rfl⟩ _;simp only[h6,h8,m6,m8,pp,QZ,eE,seval];exact⟨by rw[Qd v'],rfl⟩
  ·exact OA
end
def WN (P:PL)(g:PG)(o:PO):Nat->V->C->V×C×Nat
 |0,v,c=>(v,c,0)
 |k+1,v,c=>if 0<c.left then(if (U2 P g v o c).2.2=0 then WN P g o k (U2 P g v o c).1 (U2 P g v o c).2.1 else U2 P g v o c)else(v,c,0)
def F8 (P:PL)(g:PG)(o:PO):∀(k:Nat) (v:V) (c:C),ZS P g o k v c=if (WN P g o k v c).2.2=0 then .ok ((WN P g o k v c).1,(WN P g o k v c).2.1)else .error (WN P g o k v c).2.2
 |0,v,c=>rfl
 |k+1,v,c=>by
  rw[ZS,WN,CM];by_cases h:0<c.left
  ·rw[Qnj h,Qnj h];by_cases h1:(U2 P g v o c).2.2=0
   ·rw[Qnj h1,Qnj h1];exact F8 P g o k _ _
   ·rw[Qni h1,Qni h1,Qni h1]
  ·rw[Qni h,Qni h];rfl
def U3 (P:PL)(g:PG)(v:V)(o:PO)(c d i:C):V×C×Nat :=
 if (WN P g o i.left.toNat v i).2.2=0 then((WN P g o i.left.toNat v i).1,JE d (WN P g o i.left.toNat v i).2.1,0)
 else((WN P g o i.left.toNat v i).1,c,(WN P g o i.left.toNat v i).2.2)
def Dh (P:PL)(g:PG)(v:V)(o:PO)(c d i:C):ZJ P g v o d i=if (U3 P g v o c d i).2.2=0 then .ok ((U3 P g v o c d i).1,(U3 P g v o c d i).2.1)else .error (U3 P g v o c d i).2.2:=by
 unfold ZJ U3;rw[F8];generalize WN P g o i.left.toNat v i=r;by_cases h:r.2.2=0
 ·simp only[Qnj h,if_true]
 ·simp only[Qni h]
def FK (P:PL)(g:PG)(v:V)(o:PO)(c:C):V×C×Nat :=
 match Z4 c with
 |.error e=>(v,c,e)
 |.ok (n,d)=>
  if (ZD (part d n)).2.2=0 then
   if (ZD (part d n)).1=wk o.kind then
    if (XN v o.num).isSome=true then U3 P g v o c d (ZD (part d n)).2.1
    else if ((ZD (part d n)).2.1.spend 1).2=0 then U3 P g (X6 g v o (Xa [])) o c d ((ZD (part d n)).2.1.spend 1).1
    else(v,c,((ZD (part d n)).2.1.spend 1).2)
   else(v,c,13)
  else(v,c,(ZD (part d n)).2.2)
def Sg (P:PL)(g:PG)(v:V)(o:PO)(c:C):JV P g v o c=if (FK P g v o c).2.2=0 then .ok ((FK P g v o c).1,(FK P g v o c).2.1)else .error (FK P g v o c).2.2:=by
 unfold JV FK;cases hr:Z4 c with
 |error e=>
  have he:=Mb hr;simp only[Qni he]
 |ok p=>
  obtain⟨n,d⟩:=p;dsimp only;by_cases h1:(ZD (part d n)).2.2=0
  case neg=>simp only[Qni h1]
  simp only[Qnj h1];by_cases h2:(ZD (part d n)).1=wk o.kind
  case neg=>simp only[Qni h2];rfl
  simp only[Qnj h2];by_cases h3:(XN v o.num).isSome=true
  ·simp only[Qnj h3];exact Dh P g v o c d _
  simp only[Qni h3];unfold Z7;by_cases h4:((ZD (part d n)).2.1.spend 1).2=0
  ·simp only[Qnj h4];exact Dh P g _ o c d _
  ·simp only[Qni h4]
def zc6:List AV:=[.str [],.int .i64 0,.int .i64 0,.int .i64 0,.int .i64 0,.int .i64 0]
def Xh (P:PL):List AV:=[.list (P.progs.map Qm),.list (P.enums.map QH)]
section
variable {M K n:Nat}(hM:65536<=M)(hK:K<=1000000)(P:PL)(hP:P.ok M)(g:PG)(hg:g.ops.length<=maxLen)(o:PO)(ho:OpK P g o)(h5:o.card≠5)(dB : -1<=o.union)
structure PxF (P:PL)(g:PG)(o:PO)(c0 d:C)(f:Fr)(fr:Nat->Ob)(v:V)(c:C):Prop where
 f5:f 5=.ptr 0 5 0
 f6:f 6=.ptr 0 6 0
 f7:f 7=.ptr 0 7 0
 f8:f 8=.ptr 0 8 0
 f9:f 9=.ptr 0 9 0
 f10:f 10=.ptr 0 10 0
 f11:f 11=.ptr 0 11 0
 f14:f 14=.ptr 0 14 0
 f17:f 17=.ptr 0 17 0
 m5:fr 5=.cells (Xh P)
 m6:fr 6=.cells g.cells
 m7:fr 7=.cells (vc v)
 m8:fr 8=.cells o.cells
 m9:fr 9=.cells (W8 c0)
 m10:fr 10=.cells JY
 m11:fr 11=.cells zc6
 m14:fr 14=.cells (W8 d)
 m17:fr 17=.cells (W8 c)
end
section
variable {M K n:Nat}{rec:Int->V->C->Rd V}(P:PL)(hP:P.ok M)(o:PO)(x:V×V)(w:Int){c:C}(hc:CI c)
end
end Va
namespace Va
open Go Am Rc Bt Br Up So
section
variable {P:PL}{k:Int}(ps:List (V×V))
end
open Vp Cp
def lz (b:Bool)(l:List AV):AV:=match b with
 |true=>.list l
 |false=>.nils
def Y7 {b:Bool}{l:List AV}(h:b=false->l=[]):nn0 (lz b l)=.list l:=by
 cases b
 ·rw[h rfl];rfl
 ·rfl
def kc (b:Bool)(y:V):List AV:=[.int .i64 y.kd,.int .u64 (y.bits:Nat),.str y.text,lz b (y.list.map V.av),lz b (y.pairs.map V.pav),lz b (y.slots.map V.sav),lz b (y.raws.map R.av)]
section
variable {M K n:Nat}(P:PL)(hP:P.ok M)(l s:Nat)(m:Qk)(hm:l<m.length){rec:Int->V->C->Rd V}(ab:BK P M K n rec)(hM:65536<=M)(ak:Jq P M K n rec)(g:PG)(o:PO)(ho:OpK P g o)(h5:o.card=5)
structure EnF (g:PG)(o:PO)(v z:V)(d:C)(l s:Nat)(f:Fr)(fr:Nat->Ob)(x:V×V)(a b:Bool):Prop where
 f0:f 0=.ptr (l+1) s 0
 f5:f 5=.ptr 0 5 0
 f6:f 6=.ptr 0 6 0
 f7:f 7=.ptr 0 7 0
 f8:f 8=.ptr 0 8 0
 f12:f 12=.ptr 0 12 0
 f14:f 14=.ptr 0 14 0
 f17:f 17=.ptr 0 17 0
 f18:f 18=.bool a
 f19:f 19=.bool b
 m5:fr 5=.cells g.cells
 m6:fr 6=.cells (vc v)
 m7:fr 7=.cells o.cells
 m8:fr 8=.cells JY
 m12:fr 12=.cells (vc z)
 m14:fr 14=.cells (W8 d)
 m17:fr 17=.cells (kc a x.1++kc b x.2)
 m22:(fr 22).isRow=false
 m145:Qn (fr 145)=true
include hP hm ab hM ak ho h5 in
theorem Tl {cL:RC}(v z:V)(d:C)(R0:Rd (V×V))(k:Nat)(x:V×V)(a b:Bool)(c:C)(f:Fr)(fr:Nat->Ob)(hf:EnF g o v z d l s f fr x a b)(hc:CI c)(hk:c.left<=k)(aA:c.left<=n)(fW:(1:Int)+3*c.left<=K)(hR:JF P rec o k x a b c=R0)
  (fp:a=false->x.1=QC o.key 0 []) (jE:b=false->x.2=QC o.kind 0 []) (Q:Exit->St->Prop)
  (hx:∀f fr x a b c,EnF g o v z d l s f fr x a b->(a=false->x.1=QC o.key 0 [])->(b=false->x.2=QC o.kind 0 [])->R0=.ok (x,c)->Q (.exit 0) ⟨f,fr :: Am.put m l s (Xs P c),[]⟩)
  (he:∀f fr (e:Nat) c,f 8=.ptr 0 8 0->fr 8=.cells (vc v)->f 9=.int .i64 (e:Nat)->R0=.error e->e≠0->Q .ret ⟨f,fr :: Am.put m l s (Xs P c),[]⟩) (bU:lp 280 0 f280=cL:=by simp only[eL,eK,f280,seval]) :
  Q1 prog (.loop cL) ⟨f,fr :: Am.put m l s (Xs P c),[]⟩ Q:=by
 subst bU;simp only[eL,eK,f280,seval];have lp:∀o,Am.Qc (Am.put m l s o) l s=o:=λo=>Qt hm
 have pp:∀o q,Am.put (Am.put m l s o) l s q=Am.put m l s q:=λo q=>put_put
 have dT:∀o,l+1<(Am.put m l s o).length+1:=λo=>ă
 have dF:=ho.uo.key h5;have fe:o.key≠10:=by unfold XS at dF;omega
 let I:Nat->St->Prop:=λk st=>∃f fr x a b c,st=⟨f,fr :: Am.put m l s (Xs P c),[]⟩/\EnF g o v z d l s f fr x a b/\CI c/\c.left<=k/\c.left<=n/\(1:Int)+3*c.left<=K/\JF P rec o k x a b c=R0/\(a=false->x.1=QC o.key 0 [])/\(b=false->x.2=QC o.kind 0 [])
 refine Qj I k ⟨f,fr,x,a,b,c,rfl,hf,hc,hk,aA,fW,hR,fp,jE⟩ ?_;clear hf hc hk aA fW hR fp jE;rintro k st ⟨f0,bA,x,a,b,c,rfl,hf,hc,hk,aA,fW,hR,fp,jE⟩;have gE:=hc.bd;obtain⟨ig,bL,bX,cO,bF,aG,dm,fy,dQ,di,bK,cV,gc,iv,iZ,qc,qd,m22,jz⟩:=hf;refine QR (a:=_) [22] (by intro s hs;simp only[Qpp]at hs;subst hs;exact m22) ?_;intro f fr hf cQ p5;have h0:f 0=.ptr (l+1) s 0:=ě
 have fV:f 5=.ptr 0 5 0:=Θ
 have h6:f 6=.ptr 0 6 0:=Κ
 have h7:f 7=.ptr 0 7 0:=Τ
 have h8:f 8=.ptr 0 8 0:=Η
 have h12:f 12=.ptr 0 12 0:=Ì
 have eW:f 14=.ptr 0 14 0:=Ň
 have dZ:f 17=.ptr 0 17 0:=ņ
 have dy:f 18=.bool a:=Ĝ
 have dW:f 19=.bool b:=ĝ
 have bh:fr 5=.cells g.cells:=Ç
 have bT:fr 6=.cells (vc v):=Ĉ
 have gT:fr 7=.cells o.cells:=by rw[cQ 7 ϊ,gc]<;>rfl
 have df:fr 8=.cells JY:=á
 have fc:fr 12=.cells (vc z):=by rw[cQ 12 ϊ,iZ]<;>rfl
 have my:fr 14=.cells (W8 d):=by rw[cQ 14 ϊ,qc]<;>rfl
 have oR:fr 17=.cells (kc a x.1++kc b x.2):=by rw[cQ 17 ϊ,qd];cases a<;>cases b<;>rfl
 have nC:=p5 22 ϊ;have j9:Qn (fr 145)=true:=by
  rw[cQ 145 ϊ];cases h:bA 145<;>rw[h]at jz<;>first|rfl|cases jz
 clear hf cQ p5 ig bL bX cO bF aG dm fy dQ di bK cV gc iv iZ qc qd m22 jz;have m6:=bT;have m7:=gT;have m8:=df;have m17:=oR;simp only[vc]at m6;simp only[PO.cells]at m7;simp only[JY]at m8;simp only[kc,Qnx,Qny]at m17;simp only[Xs,lp,h0,JZ,eE,seval];refine aC (DS c hc.big') ?_;by_cases aa:0<c.left
 case neg=>
  have d1:decide (c.left > 0)=false:=Qo8 aa;have eQ:R0=.ok (x,c):=by
   rw[<-hR];cases k with
   |zero=>rfl
   |succ k=>rw[JF,Qni aa]
  simp only[d1,Qa,seval];exact hx _ _ x a b c ⟨ϗ,ľ,Ϝ,Ϫ,ϣ,Γ,(by exact eW),(by exact dZ),ê,ß,bh,bT,gT,df,fc,my,oR,(by rw[nC]<;>rfl),j9⟩ fp jE eQ
 have d1:decide (c.left > 0)=true:=Qpe aa;obtain⟨k,rfl⟩:∃j,k=j+1:=⟨k-1,ψ⟩;rw[JF,Qnj aa]at hR;have kU:=Qa4 c hc.big;have mW:=WG hc;generalize Qp c=tg at kU mW hR;obtain⟨num,w,c1,e⟩:=tg;dsimp only at mW hR;simp only[Cr,C.av]at kU;simp only[d1,lp,h0,JZ,eE,seval];refine aC kU ?_;by_cases ii:e=0
 case neg=>
  rw[Qni ii]at hR;simp only[nC,Xj ii,h6,h8,m6,m8,JJ,eE,seval];exact he _ _ e c ϣ ω ω hR.symm ii
 subst ii;obtain⟨t1,t2,t3,t4,t5⟩:=mW rfl;have ao:=t1.ci hc;have aQ:=t1.lt hc;have ft:=ao.bd;rw[Qnj rfl]at hR;have side:=λ(fr:Nat->Ob) (q:PO) (hq:q.kind=10->0<=q.target/\q.target<(P.progs.length:Int))=>Qk4 P hP c1 (l+1) s (fr :: Am.put m l s (Xs P c1)) (by exact dT _) Ï ao ab ψ ψ q w hq
 by_cases h1:num=1
 ·have b1:(num==1)=true:=ì
  have nL:(num != 1)=false:=ì
  have b2:(num==2)=false:=ì
  rw[Qnj h1]at hR;cases a with
  |true=>
   rw[Qnj rfl]at hR;simp only[nC,b1,nL,h6,h8,dy,m6,m8,JJ,eE,seval];exact ρ
  |false=>
   rw[Qni ό]at hR;have k_:=λfr=>side fr ⟨0,[],[],0,0,o.key,-1,0⟩ (λh=>absurd h fe)
   simp only[Xs,QgJ]at k_;simp only[nC,b1,nL,b2,h0,h7,dy,m7,lp,pp,JZ,W7,JJ,eE,seval];refine QT (k_ _) ω ?_;intro y m1 hy _;cases hr:Jf P rec o.key (-1) w c1 with
   |error e=>
    exact R_
   |ok p=>
    obtain⟨u,c2⟩:=p;rw[hr]at hy hR;obtain⟨rfl,rfl⟩:=hy;have dE:As c1 c2:=(WX hM ak (λh=>absurd h fe) ao ψ ψ hr).1;have dO:=dE.lt ao;dsimp only at hR;simp only[Qd u,dZ,m17,pp,eE,seval];exact⟨k,ψ,_,_,(u,x.2),true,b,c2,rfl,⟨ϗ,ľ,Ϝ,Ϫ,ϣ,Γ,(by exact eW),(by exact dZ),ω,ß,Ζ,Â,Ł,à,(by exact fc),(by exact my),ω,ω,(by exact j9)⟩,dE.ci ao,ψ,ψ,ψ,hR,(λh=>Á),jE⟩
 ·have b1:(num==1)=false:=ì
  have nL:(num != 1)=true:=ì
  rw[Qni h1]at hR;by_cases h2:num=2
  ·have b2:(num==2)=true:=Ě
   have qT:(num != 2)=false:=Ě
   rw[Qnj h2]at hR;cases b with
   |true=>
    rw[Qnj rfl]at hR;simp only[nC,b1,nL,b2,qT,h6,h8,dW,m6,m8,JJ,eE,seval];exact ρ
   |false=>
    rw[Qni ό]at hR;have k_:=λfr=>side fr o ho.uo.tgt
    simp only[Xs,Qw,PO.cells]at k_;simp only[nC,b1,nL,b2,qT,h0,h7,dW,m7,lp,pp,JZ,JJ,eE,seval];refine QT (k_ _) ω ?_;intro y m1 hy _;cases hr:Jf P rec o.kind o.target w c1 with
    |error e=>
     exact R_
    |ok p=>
     obtain⟨u,c2⟩:=p;rw[hr]at hy hR;obtain⟨rfl,rfl⟩:=hy;have dE:As c1 c2:=(WX hM ak ho.uo.tgt ao ψ ψ hr).1;have dO:=dE.lt ao;dsimp only at hR;simp only[Qd u,dZ,m17,pp,eE,seval];exact⟨k,ψ,_,_,(x.1,u),a,true,c2,rfl,⟨ϗ,ľ,Ϝ,Ϫ,ϣ,Γ,(by exact eW),(by exact dZ),ê,ω,Ζ,Â,Ł,à,(by exact fc),(by exact my),ω,ω,(by exact j9)⟩,dE.ci ao,ψ,ψ,ψ,hR,fp,(λh=>Á)⟩
  ·have b2:(num==2)=false:=Ě
   have qT:(num != 2)=true:=Ě
   rw[Qni h2]at hR;simp only[nC,nL,qT,h6,h8,m6,m8,JJ,eE,seval];exact he _ _ 18 c ϣ ω ω hR.symm ϊ
end
section
variable {P:PL}{rec:Int->V->C->Rd V}(ej:GZ rec)
include ej
theorem Tm {k t w:Int}{c:C}{e:Nat}(h:Jf P rec k t w c=.error e):e≠0:=by
 unfold Jf at h;split at h
 ·split at h
  ·exact Ec ej h
  ·split at h
   ·rename_i h1;cases h;exact QhF h1
   ·split at h
    ·cases h
    ·exact Ov
 ·cases h;decide
theorem Ry {o:PO}{e:Nat}:∀ {n:Nat} {x:V×V} {a b:Bool} {c:C},JF P rec o n x a b c=.error e->e≠0
 |0,_,_,_,_,h=>by cases h
 |n+1,x,a,b,c,h=>by
  rw[JF]at h;split at h
  ·split at h
   ·split at h
    ·exact OU
    ·split at h
     ·exact OU
     ·cases h;decide
   ·exact Ov
  ·cases h
theorem Qbo {g:PG}{v:V}{o:PO}{c:C}{e:Nat}(h:Z8 P rec g v o c=.error e):e≠0:=by
 unfold Z8 at h;split at h
 ·rename_i h1;cases h;exact Mb h1
 ·split at h
  ·rename_i h1;cases h;exact Eb h1
  ·split at h
   ·rename_i h1;cases h;exact Ry ej h1
   ·cases h
end
section
variable {M K n:Nat}(hM:65536<=M)(P:PL)(hP:P.ok M){rec:Int->V->C->Rd V}(ej:GZ rec)(ak:Jq P M K n rec)(g:PG)(o:PO)(ho:OpK P g o)(h5:o.card=5)
structure EyF (P:PL)(g:PG)(o:PO)(v z:V)(c0 d:C)(f:Fr)(fr:Nat->Ob)(x:V×V)(a b:Bool)(c:C):Prop where
 f5:f 5=.ptr 0 5 0
 f6:f 6=.ptr 0 6 0
 f7:f 7=.ptr 0 7 0
 f8:f 8=.ptr 0 8 0
 f9:f 9=.ptr 0 9 0
 f10:f 10=.ptr 0 10 0
 f11:f 11=.ptr 0 11 0
 f14:f 14=.ptr 0 14 0
 f16:f 16=.ptr 0 16 0
 f19:f 19=.ptr 0 19 0
 f20:f 20=.ptr 0 20 0
 f21:f 21=.vec 0 65 1 0 3 false
 m5:fr 5=.cells (Xh P)
 m6:fr 6=.cells g.cells
 m7:fr 7=.cells (vc v)
 m8:fr 8=.cells o.cells
 m9:fr 9=.cells (W8 c0)
 m10:fr 10=.cells JY
 m11:fr 11=.cells zc6
 m14:fr 14=.cells (W8 d)
 m16:fr 16=.cells (vc z)
 m19:fr 19=.cells (W8 c)
 m20:fr 20=.cells (kc (a||b) x.1++vc x.2)
 m65:fr 65=.vec 1 1 [.bool false,.bool a,.bool b]
 m24:(fr 24).isRow=false
 m117:Qn (fr 117)=true
end
section
variable {M K n:Nat}(hM:65536<=M)(hK:K<=1000000)(P:PL)(hP:P.ok M){rec:Int->V->C->Rd V}(ej:GZ rec)(ak:Jq P M K n rec)(g:PG)(hg:g.ops.length<=maxLen)(o:PO)(ho:OpK P g o)(h5:o.card=5)(dB : -1<=o.union){c:C}(hc:CI c)(aA:c.left<=n)(v:V)(ap:MW P (n+1) g v)(cG:v.ok M)(hb:(v.cnt:Int)+3*c.left+3<=K)(bf:(Lit.int .i64 o.kind).wf=true)
end
section
variable {M K n:Nat}(hM:65536<=M)(hK:K<=1000000)(P:PL)(hP:P.ok M)(l s:Nat)(m:Qk)(hm:l<m.length){rec:Int->V->C->Rd V}(ab:BK P M K n rec)(ak:Jq P M K n rec)(g:PG)(hg:g.ops.length<=maxLen)(o:PO)(ho:OpK P g o)(h5:o.card=5)
 (c:C) (hs:Am.Qc m l s=Xs P c) (hc:CI c) (aA:c.left<=n) (v:V) (ap:MW P (n+1) g v) (cG:v.ok M) (hb:(v.cnt:Int)+3*c.left+3<=K) (bf:(Lit.int .i64 o.kind).wf=true)
set_option maxHeartbeats 1000000 in
include hM hK hP hm ab ak hg ho h5 hs hc aA ap cG hb bf in
theorem Qk7 :
  Qf prog 280 [.ptr l s 0,Qm g,v.av,Qw o] m (Rt P l s m V.av (Z8 P rec g v o c)):=by
 have fk:=hs;have lp:∀o,Am.Qc (Am.put m l s o) l s=o:=λo=>Qt hm
 have pp:∀o q,Am.put (Am.put m l s o) l s q=Am.put m l s q:=λo q=>put_put
 have dT:∀o,l+1<(Am.put m l s o).length+1:=λo=>ă
 have ls:=Zg v;have hcv:=Xt v;have gE:=hc.bd;have dF:=ho.uo.key h5;have bu:=Ru v o.num ψ;have aw:=λx=>A8 g v o x hg ψ
 have fI:=D3 (n:=o.num) cG;have lY:=FJ v o.num;have lW:((∀p∈(QK v o.num).pairs,p.1.kx P o.key))/\(QK v o.num).pairs.Pairwise λq p=>XJ q.1 p.1=false:=by
  cases hf:XN v o.num with
  |none=>
   rw[ZL Ñ];exact⟨λp hp=>(nomatch hp),.nil⟩
  |some z=>
   have h4:=U1 ap ho.self hf;unfold FW at h4;rw[Qni ψ,Qnj h5]at h4;rw[(Xi hf).2];exact⟨λp hp=>(h4.1 p hp).1,h4.2⟩
 have ip:XI P M n o (QC o.key 0 [],QC o.kind 0 []):=by
  exact zy
 have xZ:=Kx (QK v o.num);unfold Z8;generalize QK v o.num=z at bu fI lY lW xZ |-;rw[Qd v,Qd z]at bu;rw[Qd v]at aw;simp only[Qm,Qw,PG.cells,PO.cells]at aw;rw[Qd v];refine wG func280 ?_;simp only[eK,f280,seval];simp only[Qm,Qw,PG.cells,PO.cells,eE,seval];refine QT (A9 P c (l+1) s _ Ϟ fk hc) ϑ ?_;intro x m1 hx _;cases hr:Z4 c with
 |error e=>
  rw[hr]at hx;obtain⟨he,y,c',rfl,rfl⟩:=hx;exact At
 |ok p=>
 obtain⟨q,d⟩:=p;obtain⟨a1,a2⟩:=Ji hc hr;have hd:=a1.ci hc;have aQ:=a1.lt hc;have pP:=hd.bd;rw[hr]at hx;obtain⟨rfl,rfl⟩:=hx;obtain⟨_,p2,p3⟩:=ZZ hd a2;dsimp only;simp only[Xs,W7,eE,seval];refine aC bu ?_;simp only[eE,seval];refine QT (QgD P d (l+1) s _ Ï q) ϑ ?_;rintro x m1 ⟨rfl,rfl⟩ _;cases hf:(XN v o.num).isSome
 case false=>
  have fv:(if (false:Bool)=true then(2:Int)else 3)=3:=rfl;rw[fv];simp only[C.av,Xs,pp,JJ,eE,seval];refine QT (BJ P (part d q) (l+1) s _ Ï 3) ϑ ?_;rintro x m1 ⟨rfl,rfl⟩ _;rcases Wj (part d q) 3 with⟨i,h2,dD⟩|⟨e,he,h2,dD⟩
  case inr=>
   rw[h2,dD];dsimp only;exact X_
  rw[h2,dD];obtain⟨s1,_⟩:=Xm p2 ψ h2;have cU:=s1.ci p2;have fS:=(s1.left p2).2.2;have oZ:=cU.bd;dsimp only;simp only[Xs,pp,W7,eE,seval];have rU:∀x j,JF P rec o i.left.toNat (QC o.key 0 [],QC o.kind 0 []) false false i=.ok (x,j)->XI P M n o x:=λx j h3=>(UC hM ho ak h5 _ cU ψ ψ ip h3).2.1
  exact z7
 case true=>
  have fv:(if (true:Bool)=true then(2:Int)else 3)=2:=rfl;rw[fv];simp only[C.av,Xs,pp,JJ,eE,seval];refine QT (BJ P (part d q) (l+1) s _ Ï 2) ϑ ?_;rintro x m1 ⟨rfl,rfl⟩ _;rcases Wj (part d q) 2 with⟨i,h2,dD⟩|⟨e,he,h2,dD⟩
  case inr=>
   rw[h2,dD];dsimp only;exact X_
  rw[h2,dD];obtain⟨s1,_⟩:=Xm p2 ψ h2;have cU:=s1.ci p2;have fS:=(s1.left p2).2.2;have oZ:=cU.bd;dsimp only;simp only[Xs,pp,W7,eE,seval];have rU:∀x j,JF P rec o i.left.toNat (QC o.key 0 [],QC o.kind 0 []) false false i=.ok (x,j)->XI P M n o x:=λx j h3=>(UC hM ho ak h5 _ cU ψ ψ ip h3).2.1
  exact z7
end
section
variable {M K n:Nat}(hM:65536<=M)(hK:K<=1000000)(P:PL)(hP:P.ok M)(l s:Nat)(m:Qk)(hm:l<m.length){rec:Int->V->C->Rd V}(ab:BK P M K n rec)(ak:Jq P M K n rec)(g:PG)(hg:g.ops.length<=maxLen)(o:PO)(ho:OpK P g o)
 (c:C) (hs:Am.Qc m l s=Xs P c) (hc:CI c) (aA:c.left<=n) (v:V) (ap:MW P (n+1) g v) (cG:v.ok M) (hb:(v.cnt:Int)+3*c.left+3<=K) (bf:(Lit.int .i64 o.kind).wf=true)
include hM hK hP hm ab ak hg ho hs hc aA ap cG hb bf in
theorem Qk8 (wr:Int) :
  Qf prog 218 [.ptr l s 0,Qm g,v.av,Qw o,.int .i64 wr] m (Rt P l s m V.av (XV P rec g v o wr c)):=by
 have hcv:=Xt v;have gE:=hc.bd;have iL:=Rs o;have iw:=Qax o.num o.name o.alias o.card o.key o.kind o.target o.union;have iJ:=λ(fr:Nat->Ob) (h5:o.card=5)=>Qk7 hM hK P hP (l+1) s (fr :: m) Ϟ ab ak g hg o ho h5 c (by exact hs) hc aA v ap cG hb bf
 have ru:=λ(fr:Nat->Ob) (h5:o.card≠5) (h4:o.card=4)=>Qk6 (n:=n) hM hK P hP (l+1) s (fr :: m) Ϟ g hg o ho h5 c (by exact hs) hc v ap cG ψ h4
 have aq:=λ(fr:Nat->Ob) (am:o.kind=10) (h5:o.card≠5)=>Qk5 P c (l+1) s (fr :: m) Ϟ (by exact hs) hc ab aA ψ g hg v ψ hK cG o ho am h5 ap
 have cH:=λ(fr:Nat->Ob)=>QgG P hP c (l+1) s (fr :: m) Ϟ (by exact hs) hc g hg v ψ o
 rw[Qd v]at iJ ru aq cH;simp only[Qm,Qw,oc,PG.cells,PO.cells]at iL iw iJ ru aq cH;unfold XV;rw[Qd v];refine wG func218 ?_;simp only[eK,f218,seval];simp only[Qm,Qw,PG.cells,PO.cells,eE,seval];by_cases h5:o.card=5
 ·have b5:(o.card==5)=true:=í
  rw[Qnj h5];simp only[b5,Qa,seval];by_cases h6:wr=6
  case neg=>
   have b6:(wr != 6)=true:=by simp[h6]
   rw[Qni h6];simp only[b6,eE,seval];exact⟨ϊ,v,c,by rw[Qd v];rfl,(put_self hm hs).symm⟩
  have b6:(wr != 6)=false:=by simp[h6]
  rw[Qnj h6];simp only[b6,eE,seval];refine QT (iJ _ h5) ϑ ?_;intro x m1 hx _;cases hr:Z8 P rec g v o c with
  |error e=>
   exact zf
  |ok p=>
   obtain⟨w,d⟩:=p;rw[hr]at hx;obtain⟨rfl,rfl⟩:=hx;simp only[Qd w,QZ,eE,seval];exact⟨ä,rfl⟩
 have b5:(o.card==5)=false:=í
 rw[Qni h5];simp only[b5,Qa,seval];by_cases hp:wr=5/\pk o.card o.kind=true
 ·obtain⟨oj,jD⟩:=hp;have b6:(wr==5)=true:=by simp[oj]
  have h4:o.card=4:=by
   unfold pk at jD;rw[Qnz,Qng]at jD;exact jD.1
  rw[Qnj ⟨oj,jD⟩];rw[jD]at iw;simp only[b6,eE,seval];refine aC iw ?_;simp only[eE,seval];refine QT (ru _ h5 h4) ϑ ?_;intro x m1 hx _;cases hr:JV P g v o c with
  |error e=>
   exact zf
  |ok p=>
   obtain⟨w,d⟩:=p;rw[hr]at hx;obtain⟨rfl,rfl⟩:=hx;simp only[Qd w,QZ,eE,seval];exact⟨ä,rfl⟩
 rw[Qni hp];by_cases oj:wr=5
 ·have b6:(wr==5)=true:=by simp[oj]
  have wU:pk o.card o.kind=false:=by
   cases h:pk o.card o.kind
   ·rfl
   ·exact absurd ⟨oj,h⟩ hp
  rw[wU]at iw;simp only[b6,eE,seval];refine aC iw ?_;simp only[eE,seval];exact zb
 ·have b6:(wr==5)=false:=by simp[oj]
  simp only[b6,eE,seval];exact zb
end
def QgL {g:PG}{n:Int}{i:Nat}{x:PO}(h:g.ops[i]? = some x)(hd:Xd g n=(g.ops.drop i).find? λo=>o.num==n) :
  (x.num=n/\Xd g n=some x)\/x.num≠n/\Xd g n=(g.ops.drop (i+1)).find? λo=>o.num==n:=by
 have aa:=(Qna.1 h).1;have hx:=(Qna.1 h).2;rw[QnU aa,Qo7,hx]at hd;by_cases hb:x.num=n
 ·rw[show(x.num==n)=true from by simp[hb]]at hd;exact .inl ⟨hb,hd⟩
 ·rw[show(x.num==n)=false from by simp[hb]]at hd;exact .inr ⟨hb,hd⟩
def Qes {g:PG}{n:Int}{i:Nat}(h:¬i<g.ops.length)(hd:Xd g n=(g.ops.drop i).find? λo=>o.num==n):Xd g n=none:=by
 rw[hd,QnO ψ];rfl
def U4 {P:PL}{t:Int}(ht:0<=t/\t<(P.progs.length:Int)):Qe P t∈P.progs/\P.progs[t.toNat]? = some (Qe P t):=by
 unfold Qe;rw[Qnb (by omega:t.toNat<P.progs.length)];exact⟨Qn3 _,rfl⟩
def Qc7 {g:PG}{i:Nat}{o:PO}(h:g.ops[i]? = some o):(g.ops.map λo=>AV.agg o.cells)[i]? = some (.agg o.cells):=by
 rw[QoA,h];rfl
structure FlF (g:PG)(v:V)(t:Int)(l s:Nat)(f:Fr)(fr:Nat->Ob):Prop where
 f0:f 0=.ptr (l+1) s 0
 f1:f 1=.int .i64 t
 f5:f 5=.ptr 0 5 0
 f6:f 6=.ptr 0 6 0
 f8:f 8=.ptr 0 8 0
 m5:fr 5=.cells (vc v)
 m6:fr 6=.cells JY
 m8:fr 8=.cells g.cells
structure FoF (g:PG)(c:C)(num wr:Int)(cc:C)(f:Fr)(fr:Nat->Ob):Prop where
 f9:f 9=.ptr 0 9 0
 f10:f 10=.int .i64 num
 f11:f 11=.int .i64 wr
 f12:f 12=.ptr 0 12 0
 f47:f 47=.list (g.ops.map λo=>AV.agg o.cells)
 f48:f 48=.int .i64 (g.ops.length:Nat)
 m9:fr 9=.cells (W8 c)
 m12:fr 12=.cells (W8 cc)
 n16:fr 16=.none
section
variable {M K n:Nat}(hM:65536<=M)(hK:K<=1000000)(P:PL)(hP:P.ok M)(hU:JD P)(hr:XR P)(l s:Nat)(m:Qk)(hm:l<m.length){rec:Int->V->C->Rd V}(ab:BK P M K n rec)(ak:Jq P M K n rec)(t:Int)(ht:0<=t/\t<(P.progs.length:Int))
include hM hK hP hm ab ak hU hr ht in
theorem Qet {cL:RC}(v:V)(c cc:C)(num wr:Int)(bN:CI cc)(aA:cc.left<=n)(ap:MW P (n+1) (Qe P t) v)(cG:v.ok M)(hb:(v.cnt:Int)+3*cc.left+3<=K)(f:Fr)(fr:Nat->Ob)(hf:FlF (Qe P t) v t l s f fr)(hg:FoF (Qe P t) c num wr cc f fr)(nT:f 49=.int .i64 0)(gL:(fr 15).isRow=false)(Q:Exit->St->Prop)
  (h2:∀f fr,FlF (Qe P t) v t l s f fr->FoF (Qe P t) c num wr cc f fr->(fr 15).isRow=false->Xd (Qe P t) num=none->Q (.exit 2) ⟨f,fr :: Am.put m l s (Xs P c),[]⟩)
  (h1:∀f fr o w d,FlF (Qe P t) w t l s f fr->(∀s∈[16,15,12,9],(fr s).isRow=false)->Xd (Qe P t) num=some o->XV P rec (Qe P t) v o wr cc=.ok (w,d)->Q (.exit 1) ⟨f,fr :: Am.put m l s (Xs P d),[]⟩)
  (he:∀f fr o w (e:Nat) d,f 6=.ptr 0 6 0->fr 6=.cells (vc w)->f 7=.int .i64 (e:Nat)->Xd (Qe P t) num=some o->XV P rec (Qe P t) v o wr cc=.error e->e≠0->Q .ret ⟨f,fr :: Am.put m l s (Xs P d),[]⟩) (bU:lp 129 1 f129=cL:=by simp only[eL,eK,f129,seval]) :
  Q1 prog (.loop cL) ⟨f,fr :: Am.put m l s (Xs P c),[]⟩ Q:=by
 subst bU;simp only[eL,eK,f129,seval];have lp:∀o,Am.Qc (Am.put m l s o) l s=o:=λo=>Qt hm
 have pp:∀o q,Am.put (Am.put m l s o) l s q=Am.put m l s q:=λo q=>put_put
 have dT:∀o,l+1<(Am.put m l s o).length+1:=λo=>ă
 have fC:(Qe P t).ops.length<=maxLen:=(hP.progs _ (U4 ht).1).len
 let I:Nat->St->Prop:=λk st=>∃f fr i,st=⟨f,fr :: Am.put m l s (Xs P c),[]⟩/\k=(Qe P t).ops.length-i/\i<=(Qe P t).ops.length/\(Xd (Qe P t) num=((Qe P t).ops.drop i).find? λo=>o.num==num)/\FlF (Qe P t) v t l s f fr/\FoF (Qe P t) c num wr cc f fr/\f 49=.int .i64 (i:Nat)/\(fr 15).isRow=false
 refine Qj I _ ⟨f,fr,0,rfl,rfl,Qnk _,rfl,hf,hg,nT,gL⟩ ?_;clear hf hg nT gL;rintro k st ⟨f0,bA,i,rfl,rfl,bg,bu,⟨ig,am,bL,bX,bF,bK,cV,iv⟩,⟨de,eV,aU,aG,jW,oX,lG,iZ,qg⟩,qx,oA⟩;refine QR (a:=_) [15] (by intro s hs;simp only[Qpp]at hs;subst hs;exact oA) ?_;intro f fr hf cQ iy;have h0:f 0=.ptr (l+1) s 0:=ě
 have i4:f 1=.int .i64 t:=À
 have h5:f 5=.ptr 0 5 0:=Θ
 have h6:f 6=.ptr 0 6 0:=Κ
 have h8:f 8=.ptr 0 8 0:=Η
 have h9:f 9=.ptr 0 9 0:=Ê
 have dL:f 10=.int .i64 num:=ŉ
 have aI:f 11=.int .i64 wr:=Ë
 have h12:f 12=.ptr 0 12 0:=Ì
 have iP:f 47=.list ((Qe P t).ops.map λo=>AV.agg o.cells):=by rw[hf,jW]<;>rfl
 have qO:f 48=.int .i64 ((Qe P t).ops.length:Nat):=by rw[hf,oX]<;>rfl
 have nT:f 49=.int .i64 (i:Nat):=by rw[hf,qx]<;>rfl
 have bh:fr 5=.cells (vc v):=Ç
 have bT:fr 6=.cells JY:=Ĉ
 have df:fr 8=.cells (Qe P t).cells:=á
 have kC:fr 9=.cells (W8 c):=by rw[cQ 9 ϊ,lG]<;>rfl
 have fc:fr 12=.cells (W8 cc):=by rw[cQ 12 ϊ,iZ]<;>rfl
 have lL:=iy 15 ϊ;have mO:fr 16=.none:=by rw[cQ 16 ϊ,qg]<;>rfl
 clear hf cQ iy ig am bL bX bF de eV aU aG jW oX qx bK cV iv lG iZ qg oA;have m5:=bh;have m6:=bT;have m8:=df;have m12:=fc;simp only[vc]at m5;simp only[JY]at m6;simp only[PG.cells]at m8;simp only[W8]at m12;simp only[qO,nT,Qa,seval];by_cases aa:i<(Qe P t).ops.length
 case neg=>
  simp only[QM aa,Qa,seval];exact h2 _ _ ⟨ϗ,ł,Ϛ,Ϝ,ϣ,bh,bT,df⟩ ⟨Ε,(by exact dL),Ø,Γ,(by exact iP),(by exact qO),kC,fc,mO⟩ (by rw[lL]<;>rfl) (Qes aa bu)
 obtain⟨o,hi⟩:∃o,(Qe P t).ops[i]? = some o:=⟨_,Qnb aa⟩;have bG:((Qe P t).ops.map λo=>AV.agg o.cells)[i]? = some (.agg [.int .i64 o.num,.str o.name,.str o.alias,.int .i64 o.card,.int .i64 o.key,.int .i64 o.kind,.int .i64 o.target,.int .i64 o.union]):=Qc7 hi;have e1:=Qv i _ aa fC;simp only[QE aa,iP,nT,Qs,QoF,Qg,bG,dL,lL,W7,eE,seval];rcases QgL hi bu with⟨hn,dC⟩|⟨hn,jK⟩
 case inr=>
  have b1:(o.num != num)=true:=by simp[hn]
  simp only[b1,nT,e1,Qa,seval];exact⟨(Qe P t).ops.length-(i+1),ψ,_,_,i+1,rfl,rfl,ψ,jK,⟨ϗ,ł,Ϛ,Ϝ,ϣ,Ζ,Â,à⟩,⟨Ε,(by exact dL),Ø,Γ,(by exact iP),(by exact qO),(by exact kC),(by exact fc),(by exact mO)⟩,ω,ω⟩
 have b1:(o.num != num)=false:=by simp[hn]
 obtain⟨ho,bf,_⟩:=GU hP hU hr ht dC;have dR:=λ(fr:Nat->Ob)=>Qk8 (n:=n) hM hK P hP (l+1) s (fr :: Am.put m l s (Xs P cc)) (by exact dT _) ab ak (Qe P t) fC o ho cc Ï bN aA v ap cG hb bf wr
 rw[Qd v]at dR;simp only[Qm,Qw,PG.cells,PO.cells,Xs]at dR;simp only[b1,h0,h5,h8,aI,h12,m5,m8,m12,lp,pp,Xs,JZ,JJ,eE,seval];refine QT (dR _) ύ ?_;intro y m1 hy _;cases oz:XV P rec (Qe P t) v o wr cc with
 |error e=>
  rw[oz]at hy;obtain⟨i_,w,d,rfl,rfl⟩:=hy;simp only[Qd w,Xj i_,h5,h6,m5,m6,pp,eE,seval];exact he _ _ o w e d Ϝ ω ω dC oz i_
 |ok p=>
  obtain⟨w,d⟩:=p;rw[oz]at hy;obtain⟨rfl,rfl⟩:=hy;simp only[Qd w,h5,m5,pp,eE,seval];exact h1 _ _ o w d ⟨ϗ,ł,Ϛ,Ϝ,ϣ,ω,Â,à⟩ (by
   intro s hs;simp only[Qoz,Qpu,or_false]at hs;rcases hs with rfl|rfl|rfl|rfl
   ·show(fr 16).isRow=false;rw[mO];rfl
   ·rfl
   ·show(fr 12).isRow=false;rw[fc];rfl
   ·show(fr 9).isRow=false;rw[kC];rfl) dC oz
set_option maxHeartbeats 1000000 in
include hM hK hP hm ab ak hU hr ht in
theorem Qeu {cL:RC}(R0:Rd V)(k:Nat)(v:V)(c:C)(f:Fr)(fr:Nat->Ob)(hf:FlF (Qe P t) v t l s f fr)(ae:∀s∈[16,15,12,9],(fr s).isRow=false)(hc:CI c)(hk:c.left<=k)(aA:c.left<=n)(hR:XY P rec t k v c=R0)(ap:MW P (n+1) (Qe P t) v)(cG:v.ok M)(hb:(v.cnt:Int)+3*c.left<=K)(Q:Exit->St->Prop)
  (hx:∀f fr v c,FlF (Qe P t) v t l s f fr->R0=.ok (v,c)->Q (.exit 0) ⟨f,fr :: Am.put m l s (Xs P c),[]⟩)
  (he:∀f fr w (e:Nat) c,f 6=.ptr 0 6 0->fr 6=.cells (vc w)->f 7=.int .i64 (e:Nat)->R0=.error e->e≠0->Q .ret ⟨f,fr :: Am.put m l s (Xs P c),[]⟩) (bU:lp 129 0 f129=cL:=by simp only[eL,eK,f129,seval]) :
  Q1 prog (.loop cL) ⟨f,fr :: Am.put m l s (Xs P c),[]⟩ Q:=by
 subst bU;simp only[eL,eK,f129,seval];have lp:∀o,Am.Qc (Am.put m l s o) l s=o:=λo=>Qt hm
 have pp:∀o q,Am.put (Am.put m l s o) l s q=Am.put m l s q:=λo q=>put_put
 let I:Nat->St->Prop:=λk st=>∃f fr v c,st=⟨f,fr :: Am.put m l s (Xs P c),[]⟩/\FlF (Qe P t) v t l s f fr/\(∀s∈[16,15,12,9],(fr s).isRow=false)/\CI c/\c.left<=k/\c.left<=n/\XY P rec t k v c=R0/\MW P (n+1) (Qe P t) v/\v.ok M/\(v.cnt:Int)+3*c.left<=K
 refine Qj I k ⟨f,fr,v,c,rfl,hf,ae,hc,hk,aA,hR,ap,cG,hb⟩ ?_;clear hf ae hc hk aA hR ap cG hb;rintro k st ⟨f0,bA,v,c,rfl,⟨ig,am,bL,bX,bF,bK,cV,iv⟩,ae,hc,hk,aA,hR,ap,cG,hb⟩;have gE:=hc.bd;have hcv:=Xt v;have lr:=KI v;refine QR (a:=_) [16,15,12,9] ae ?_;intro f fr hf cQ hn;have h0:f 0=.ptr (l+1) s 0:=ě
 have i4:f 1=.int .i64 t:=À
 have h5:f 5=.ptr 0 5 0:=Θ
 have h6:f 6=.ptr 0 6 0:=Κ
 have h8:f 8=.ptr 0 8 0:=Η
 have bh:fr 5=.cells (vc v):=Ç
 have bT:fr 6=.cells JY:=Ĉ
 have df:fr 8=.cells (Qe P t).cells:=á
 have n16:=hn 16 ϊ;have lL:=hn 15 ϊ;have dK:=hn 12 ϊ;have n9:=hn 9 ϊ;clear hf cQ hn ig am bL bX bF bK cV iv ae;have m5:=bh;have m6:=bT;have m8:=df;simp only[vc]at m5;simp only[JY]at m6;simp only[PG.cells]at m8;simp only[Xs,lp,h0,JZ,eE,seval];refine aC (DS c hc.big') ?_;by_cases aa:0<c.left
 case neg=>
  have d1:decide (c.left > 0)=false:=Qo8 aa;have eQ:R0=.ok (v,c):=by
   rw[<-hR];cases k with
   |zero=>rfl
   |succ k=>rw[XY,Qni aa]
  simp only[d1,Qa,seval];exact hx _ _ v c ⟨ϗ,ł,Ϛ,Ϝ,ϣ,bh,bT,df⟩ eQ
 have d1:decide (c.left > 0)=true:=Qpe aa;obtain⟨k,rfl⟩:∃j,k=j+1:=⟨k-1,ψ⟩;rw[XY,Qnj aa]at hR;have kU:=Qa4 c hc.big;have mW:=WG hc;have kg:=QkD c hc.big;have pX:=DU hc;generalize Qp c=tg at kU mW hR pX;obtain⟨num,w,c1,e⟩:=tg;dsimp only at mW hR pX;simp only[Cr,C.av]at kU;simp only[d1,lp,h0,n9,JZ,JJ,eE,seval];refine aC kU ?_;by_cases ii:e=0
 case neg=>
  rw[Qni ii]at hR;simp only[dK,Xj ii,h5,h6,m5,m6,JJ,eE,seval];exact he _ _ v e c Ϝ ω ω hR.symm ii
 subst ii;obtain⟨t1,t2,t3,t4,t5⟩:=mW rfl;have ao:=t1.ci hc;have aQ:=t1.lt hc;have ft:=ao.bd;rw[Qnj rfl]at hR;simp only[dK,h8,m8,Qn6,JJ,eE,seval];refine Qet (n:=n) hM hK P hP hU hr l s m hm ab ak t ht v c c1 num w ao ψ ap cG ψ _ _ ⟨ϗ,ł,Ϛ,Ϝ,ϣ,Ζ,Â,à⟩ ⟨ω,ω,ω,ω,ω,ω,ω,ω,by exact n16⟩ ω (by show(fr 15).isRow=false;rw[lL];rfl) _ (λf fr hf hg gL dC=>?_) (λf fr o y d hf ae dC gN=>?_) (λf fr o y e d h6 m6 h7 dC gN i_=>?_)
 ·obtain⟨h0,i4,h5,h6,h8,m5,m6,m8⟩:=hf;obtain⟨h9,am,aI,h12,iP,qO,m9,m12,n16⟩:=hg;rw[dC]at hR;generalize Xu c=nn at kg pX hR;obtain⟨x,d,e⟩:=nn;dsimp only at pX hR;simp only[VG,C.av,R.av]at kg;have bh:=m5;have bT:=m6;have df:=m8;simp only[vc]at m5;simp only[JY]at m6;simp only[W8]at m9 m12;simp only[h9,m9,JZ,eE,seval];refine aC kg ?_;by_cases ii:e=0
  case neg=>
   rw[Qni ii]at hR;simp only[n16,Xj ii,h5,h6,h12,m5,m6,m12,JJ,eE,seval];exact he _ _ v e c Ϝ ω ω hR.symm ii
  subst ii;obtain⟨a1,_,a2,a3,a4,a5,a6,a7⟩:=pX rfl;have um:=a1.lt hc;have d8:x.ok M:=⟨Z1 ψ ψ,Z1 ψ ψ,ϧ,ψ⟩;have ea:=H9 v x;have nI:=D4 (f:=x) ap;have vM:=D2 cG d8 ψ;have k_:=Qgz v x ψ;rw[Qnj rfl]at hR;generalize Uc v x=u at k_ ea nI vM hR;rw[Qd v,Qd u]at k_;simp only[R.av]at k_;simp only[n16,h0,h5,h12,m5,m12,lp,pp,Xs,JZ,JJ,eE,seval];refine aC k_ ?_;simp only[h5,m5,eE,seval];exact⟨k,ψ,_,_,u,d,rfl,⟨ϗ,ł,Ϛ,Ϝ,ϣ,ω,Â,à⟩,(by
   intro s hs;simp only[Qoz,Qpu,or_false]at hs;rcases hs with rfl|rfl|rfl|rfl
   ·rfl
   ·exact gL
   ·rfl
   ·show(fr 9).isRow=false;rw[m9];rfl),a1.ci hc,ψ,ψ,hR,nI,vM,ψ⟩
 ·obtain⟨ho,bf,_⟩:=GU hP hU hr ht dC;obtain⟨b1,b2,b3,b4⟩:=Hw hM hK ho ak bf ao ψ ap cG ψ gN;have uh:=b1.lt ao;rw[dC]at hR;dsimp only at hR;rw[gN]at hR;exact⟨k,ψ,f,fr,y,d,rfl,hf,ae,b1.ci ao,ψ,ψ,hR,b2,b3,ψ⟩
 ·rw[dC]at hR;dsimp only at hR;rw[gN]at hR;exact he _ _ y e d h6 m6 h7 hR.symm i_
set_option maxHeartbeats 1000000 in
include hM hK hP hm ab ak hU hr ht in
theorem Sh (v:V)(c:C)(hs:Am.Qc m l s=Xs P c)(hc:CI c)(aA:c.left<=n)(ap:MW P (n+1) (Qe P t) v)(cG:v.ok M)(hb:(v.cnt:Int)+3*c.left<=K) :
  Qf prog 129 [.ptr l s 0,.int .i64 t,v.av] m (Rt P l s m V.av (XY P rec t c.left.toNat v c)):=by
 have lp:∀o,Am.Qc (Am.put m l s o) l s=o:=λo=>Qt hm
 have gE:=hc.bd;have aa:t.toNat<P.progs.length:=ψ
 have nw:(P.progs.map Qm)[t.toNat]? = some (.agg [.str (Qe P t).name,.list ((Qe P t).ops.map λo=>AV.agg o.cells),.int .i64 (Qe P t).unions]):=by
  rw[QoA,(U4 ht).2];rfl
 have mI:(0<=t)=True:=by simp[ht.1]
 have e0:=put_self hm hs;have bH:∀xs,((AV.list xs).shN l).sh=.list xs:=λxs=>shl xs (l+1)
 rw[Xs]at hs;rw[Qd v];refine wG func129 ?_;simp only[eK,f129,seval];simp only[hs,nw,bH,mI,Qg,eE,seval];rw[<-e0];refine Qeu hM hK P hP hU hr l s m hm ab ak t ht _ c.left.toNat v c _ _ ⟨ω,ω,ω,ω,ω,ω,ω,ω⟩ (by
   intro s hs;simp only[Qoz,Qpu,or_false]at hs;rcases hs with rfl|rfl|rfl|rfl<;>rfl) hc ψ aA rfl ap cG hb _ (λf fr w d hf hR=>?_) (λf fr w e d h6 m6 h7 hR he=>?_)
 ·obtain⟨h0,i4,h5,h6,h8,m5,m6,m8⟩:=hf;rw[e0,hR];simp only[vc]at m5;simp only[JY]at m6;simp only[h5,h6,m5,m6,QZ,eE,seval];exact⟨ä,rfl⟩
 ·rw[e0,hR];simp only[vc]at m6;simp only[h6,m6,h7,QZ,eE,seval];exact⟨he,w,d,ä,rfl⟩
end
def QgM {M K:Nat}(hM:65536<=M)(hK:K<=1000000){P:PL}(hP:P.ok M)(hU:JD P)(hr:XR P):∀n:Nat,BK P M K n (Wz P n)
 |0,l,s,m,t,v,c,hm,hs,hc,aM,ht,ap,cG,hb=>by
  have:=hc.bd;omega
 |n+1,l,s,m,t,v,c,hm,hs,hc,aM,ht,ap,cG,hb=>
  Sh hM hK P hP hU hr l s m hm (QgM hM hK hP hU hr n) (Wp hM hK hP hU hr n) t ht v c hs hc ψ ap cG hb
def Qc8 {v:V}{c:C}{r:Rd V}(h:∀e,r=.error e->e≠0):r=if (Rv v c r).2.2=0 then .ok ((Rv v c r).1,(Rv v c r).2.1)else .error (Rv v c r).2.2:=by
 cases r with
 |error e=>
  have:=h e rfl;rw[QgI,Qni this]
 |ok p=>rfl
section
variable (P:PL){rec:Int->V->C->Rd V}(ej:GZ rec)
def U5 (rec:Int->V->C->Rd V)(g:PG)(v:V)(o:PO)(w:Int)(c d:C):V×C×Nat :=
 if o.card=5 then(if w=6 then Rv v d (Z8 P rec g v o d)else(v,c,13))
 else if w=5/\pk o.card o.kind=true then FK P g v o d
 else if w=wk o.kind then(if o.kind=10 then Rv v d (JL rec g v o d)else U2 P g v o d)
 else(v,c,13)
def Rz (rec:Int->V->C->Rd V)(g:PG)(v:V)(c:C):V×C×Nat :=
 if (Qp c).2.2.2=0 then
  (match Xd g (Qp c).1 with
  |none=>if (Xu c).2.2=0 then(Uc v (Xu c).1,(Xu c).2.1,0)else(v,c,(Xu c).2.2)
  |some o=>U5 P rec g v o (Qp c).2.1 c (Qp c).2.2.1)
 else(v,c,(Qp c).2.2.2)
include ej in
theorem Qbp (g:PG)(v:V)(o:PO)(w:Int)(c d:C):XV P rec g v o w d=if (U5 P rec g v o w c d).2.2=0 then .ok ((U5 P rec g v o w c d).1,(U5 P rec g v o w c d).2.1)else .error (U5 P rec g v o w c d).2.2:=by
 unfold XV U5;by_cases h5:o.card=5
 ·simp only[Qnj h5];by_cases h6:w=6
  ·simp only[Qnj h6];exact Qc8 λe h=>Qbo ej h
  ·simp only[Qni h6];rfl
 simp only[Qni h5];by_cases hp:w=5/\pk o.card o.kind=true
 ·simp only[Qnj hp];exact Sg P g v o d
 simp only[Qni hp];by_cases hw:w=wk o.kind
 case neg=>
  simp only[Qni hw];rfl
 simp only[Qnj hw];by_cases am:o.kind=10
 ·simp only[Qnj am];exact Qc8 λe h=>Qeq ej h
 ·simp only[Qni am];exact CM P g v o d
include ej in
theorem QgN (t:Int)(k:Nat)(v:V)(c:C)(aa:0<c.left):XY P rec t (k+1) v c=if (Rz P rec (Qe P t) v c).2.2=0 then XY P rec t k (Rz P rec (Qe P t) v c).1 (Rz P rec (Qe P t) v c).2.1 else .error (Rz P rec (Qe P t) v c).2.2:=by
 rw[XY,Qnj aa];unfold Rz;by_cases h1:(Qp c).2.2.2=0
 case neg=>simp only[Qni h1]
 simp only[Qnj h1];cases dC:Xd (Qe P t) (Qp c).1 with
 |none=>
  dsimp only;by_cases h2:(Xu c).2.2=0
  ·simp only[Qnj h2,if_true]
  ·simp only[Qni h2]
 |some o=>
  dsimp only;rw[Qbp P ej (Qe P t) v o (Qp c).2.1 c (Qp c).2.2.1];by_cases h2:(U5 P rec (Qe P t) v o (Qp c).2.1 c (Qp c).2.2.1).2.2=0
  ·simp only[Qnj h2]
  ·simp only[Qni h2]
include ej in
theorem Tn (t:Int):∀(k:Nat) (v:V) (c:C) (e:Nat),XY P rec t k v c=.error e->e≠0
 |0,_,_,_,h=>by cases h
 |k+1,v,c,e,h=>by
  by_cases aa:0<c.left
  ·rw[QgN P ej t k v c aa]at h;split at h
   ·exact Tn t k _ _ e h
   ·exact Ov
  ·rw[XY,Qni aa]at h;cases h
theorem D7:∀n:Nat,GZ (Wz P n)
 |0,_,_,_,_,h=>by cases h
 |n+1,t,v,c,e,h=>Tn P (D7 n) t _ v c e h
end
section
variable {M K n:Nat}(hM:65536<=M)(hK:K<=1000000)(P:PL)(hP:P.ok M)(hU:JD P)(hr:XR P){rec:Int->V->C->Rd V}(ej:GZ rec)(ak:Jq P M K n rec)(t:Int)(ht:0<=t/\t<(P.progs.length:Int))
end
section
variable {M K n:Nat}(hM:65536<=M)(hK:K<=1000000)(P:PL)(hP:P.ok M)(hU:JD P)(hr:XR P){rec:Int->V->C->Rd V}(ej:GZ rec)(ak:Jq P M K n rec)(t:Int)(ht:0<=t/\t<(P.progs.length:Int))
structure MeF (P:PL)(t:Int)(f:Fr)(fr:Nat->Ob)(v:V)(c:C):Prop where
 f1:f 1=.int .i64 t
 f4:f 4=.ptr 0 4 0
 f6:f 6=.ptr 0 6 0
 f7:f 7=.ptr 0 7 0
 f8:f 8=.ptr 0 8 0
 f9:f 9=.ptr 0 9 0
 m4:fr 4=.cells (Xh P)
 m6:fr 6=.cells (vc v)
 m7:fr 7=.cells (W8 c)
 m8:fr 8=.cells JY
 m9:fr 9=.cells zc6
 rw:∀s∈[12,11],(fr s).isRow=false
end
section
variable {m:PG->V->Prop}{nm:PG->V->V}{P:PL}
end
def TE (m:PG->V->Prop)(P:PL)(o:PO)(x:V):Prop :=
 if o.card=4 then x.kd=11/\x.pairs=[]/\(o.kind=10->∀y∈x.list,m (Qe P o.target) y)
 else if o.card=5 then x.kd=12/\x.list=[]/\(o.kind=10->∀p∈x.pairs,m (Qe P o.target) p.2)
 else o.kind=10->m (Qe P o.target) x
def TY (P:PL):Nat->PG->V->Prop
 |0,_,_=>False
 |n+1,g,v=>v.kd=10/\∀s∈v.slots,∃o,Xd g s.1=some o/\TE (TY P n) P o s.2
def QhG {P:PL}{n:Nat}{g:PG}{v:V}(h:TY P n g v):v.kd=10:=by
 cases n with
 |zero=>exact h.elim
 |succ n=>exact h.1
def QgO {P:PL}{m w:PG->V->Prop}{nm:PG->V->V}(h:∀g∈P.progs,∀v,w g v->m g (nm g v)){o:PO}(ho:UO P o){v:V}(hv:FW w P o v):TE m P o (XT nm P o v):=by
 have aJ:∀y,EW w P o y->o.kind=10->m (Qe P o.target) (Xv nm P o y):=by
  intro y hy hk;unfold Xv;rw[Qnj hk];exact h _ (U4 (ho.tgt hk)).1 _ (hy hk)
 unfold FW at hv;unfold TE XT;by_cases h4:o.card=4
 ·rw[Qnj h4]at hv;rw[Qnj h4,Qnj h4];refine⟨rfl,rfl,λhk x hx=>?_⟩;obtain⟨y,hy,rfl⟩:=Qox.1 hx;exact aJ y (hv y hy) hk
 ·rw[Qni h4]at hv;rw[Qni h4,Qni h4];by_cases h5:o.card=5
  ·rw[Qnj h5]at hv;rw[Qnj h5,Qnj h5];have hp:(QY o.key v.pairs).Perm v.pairs:=QN _;refine⟨rfl,rfl,λhk x hx=>?_⟩;obtain⟨p,th,rfl⟩:=Qox.1 hx;exact aJ p.2 (hv.1 p (hp.mem_iff.1 th)).2 hk
  ·rw[Qni h5]at hv;rw[Qni h5,Qni h5];exact aJ v hv
def LM {P:PL}(hU:JD P)(hr:XR P):∀(n:Nat) (g:PG),g∈P.progs->∀v:V,MW P n g v->TY P n g (nrm P n g v)
 |0,_,_,_,h=>h
 |n+1,g,hg,v,h=>by
  refine⟨rfl,λx hx=>?_⟩;obtain⟨o,ho,hx⟩:=QnX.1 hx;obtain⟨e,s,hs,e1,e2⟩:=XU hx;obtain⟨o',h1,h2⟩:=h.1 s hs;rw[e1,XX (hr g hg) ho]at h1;cases h1;exact⟨o,by rw[e];exact XX (hr g hg) ho,by rw[e2];exact QgO (λg hg v hv=>LM hU hr n g hg v hv) (hU g hg o ho) h2⟩
def QgP {P:PL}{n:Nat}{g:PG}(hd:g.ops.Pairwise λa b=>a.num<b.num){v:V}(h:TY P (n+1) g v){o:PO}(ho:o∈g.ops){x:V}(hx:XN v o.num=some x):TE (TY P n) P o x:=by
 obtain⟨o',h1,h2⟩:=h.2 _ (Xi hx).1;rw[XX hd ho]at h1;cases h1;exact h2
def To (m:PG->V->Bool)(P:PL)(o:PO)(x:V):Bool:=o.kind==10&&(if o.card=4 then x.list.any (m (Qe P o.target))else if o.card=5 then x.pairs.any (λp=>m (Qe P o.target) p.2)else m (Qe P o.target) x)
def CQ (m:PG->V->Bool)(P:PL)(v:V)(o:PO):Bool:=match XN v o.num with
 |none=>o.card==1
 |some x=>To m P o x
def Yz (P:PL):Nat->PG->V->Bool
 |0,_,_=>false
 |n+1,g,v=>g.ops.any (CQ (Yz P n) P v)
def F9 (x:V):List V:=if x.kd=11 then x.list else if x.kd=12 then x.pairs.map Prod.snd else [x]
def Qev {P:PL}{n:Nat}{o:PO}{x:V}(h:TE (TY P n) P o x)(hk:o.kind=10)(m:PG->V->Bool):To m P o x=(F9 x).any (m (Qe P o.target))/\∀y∈F9 x,TY P n (Qe P o.target) y:=by
 have b:(o.kind==10)=true:=Α
 unfold To F9;unfold TE at h;rw[b,QoW];by_cases h4:o.card=4
 ·rw[Qnj h4]at h;rw[Qnj h4,Qnj h.1];exact⟨rfl,h.2.2 hk⟩
 ·rw[Qni h4]at h;rw[Qni h4];by_cases h5:o.card=5
  ·rw[Qnj h5]at h;have fE:¬x.kd=11:=ψ
   rw[Qnj h5,Qni fE,Qnj h.1];refine⟨by rw[List.any_map];rfl,λy hy=>?_⟩;obtain⟨p,hp,rfl⟩:=Qox.1 hy;exact h.2.2 hk p hp
  ·rw[Qni h5]at h;have hx:=h hk;have bf:=QhG hx;have fE:¬x.kd=11:=ψ
   have dK:¬x.kd=12:=ψ
   rw[Qni h5,Qni fE,Qni dK];refine⟨ό,λy hy=>?_⟩;rw[Qpp]at hy;subst hy;exact hx
def Qew {x y:V}(h:y∈F9 x):y.cnt<=x.cnt:=by
 unfold F9 at h;split at h
 ·have:=BA h;rw[Q8 x];omega
 ·split at h
  ·obtain⟨p,hp,rfl⟩:=Qox.1 h;have:=GP hp;rw[Q8 x];omega
  ·rw[Qpp]at h;subst h;omega
def ElI (x:V)(k:Nat)(st:St):Prop :=
 ∃f fr i g,st=⟨f,[fr],[]⟩/\k=x.pairs.length-i/\i<=x.pairs.length/\f 3=.vec 0 3 g 0 i false/\f 15=.list (x.pairs.map V.pav)/\f 16=.int .i64 (x.pairs.length:Nat)/\f 17=.int .i64 (i:Nat)/\fr 3=.vec g 7 (((x.pairs.take i).map Prod.snd).map V.av)/\∀s∈[5],(fr s).isRow=false
def Qk9 (x:V)(hc:x.cnt<=1048576):Qi prog 131 [x.av] (.list ((F9 x).map V.av)):=by
 have hl:=Kx x;unfold F9;rw[Qd];by_cases aI:x.kd=11
 ·have b1:(x.kd==11)=true:=by simp[aI]
  rw[Qnj aI];refine wF func131 ?_;simp only[eK,f131,seval];simp only[b1,eE,seval]
 have b1:(x.kd==11)=false:=by simp[aI]
 rw[Qni aI];by_cases h12:x.kd=12
 case neg=>
  have b2:(x.kd==12)=false:=by simp[h12]
  rw[Qni h12];refine wF func131 ?_;simp only[eK,f131,seval];simp only[b1,b2,eE,seval];refine QV (l:=[x.av]) rfl rfl rfl Ġ ?_;simp only[Qa,seval];rfl
 have b2:(x.kd==12)=true:=by simp[h12]
 rw[Qnj h12];refine wF func131 ?_;simp only[eK,f131,seval];simp only[b1,b2,eE,seval];refine ZW ϋ rfl ?_;simp only[Qn6,eE,seval];refine Qj (ElI x) _ ⟨_,_,0,_,rfl,rfl,Qnk _,ω,ω,ω,ω,ω,ϛ⟩ ?_;rintro _ st ⟨f0,bA,i,g,rfl,rfl,bg,ax,gz,gm,fy,bM,r5⟩;refine QR (a:=_) [5] r5 ?_;intro f fr hf hm hn;have h3:f 3=.vec 0 3 g 0 i false:=Ϥ
 have gL:f 15=.list (x.pairs.map V.pav):=by rw[hf,gz]<;>rfl
 have fM:f 16=.int .i64 (x.pairs.length:Nat):=by rw[hf,gm]<;>rfl
 have dZ:f 17=.int .i64 (i:Nat):=ņ
 have m3:fr 3=.vec g 7 (((x.pairs.take i).map Prod.snd).map V.av):=Ϩ
 have n5:=hn 5 ϊ;clear hf hm hn ax gz gm fy bM r5;have cW:(((x.pairs.take i).map Prod.snd).map V.av).length=i:=by rw[Qn6,Qn6,Qn8];omega
 simp only[fM,dZ,Qa,seval];by_cases aa:i<x.pairs.length
 ·obtain⟨p,hi⟩:∃p,x.pairs[i]? = some p:=⟨x.pairs[i],Qnb aa⟩;have hg:=KG hi;have e1:=Qv i _ aa ώ;have ay:((x.pairs.take (i+1)).map Prod.snd).map V.av=((x.pairs.take i).map Prod.snd).map V.av++[p.2.av]:=by
   rw[Qo4,hi];simp
  simp only[QE aa,Qs,QoF,Qg,hg,n5,h3,gL,dZ,eE,seval];refine QV (l:=[p.2.av]) rfl rfl rfl Ġ ?_;refine QP (site:=3) (g:=g) (n:=i) (xs:=((x.pairs.take i).map Prod.snd).map V.av) (ys:=[p.2.av]) ω ϲ rfl cW.symm rfl (DV [p.2]) ϔ Ϙ ?_;simp only[dZ,e1,Qa,seval];exact⟨x.pairs.length-(i+1),ψ,_,_,i+1,g+1,rfl,rfl,ψ,ω,(by exact gL),(by exact fM),ω,(by rw[ay];exact ω),ϛ⟩
 ·have e:i=x.pairs.length:=ψ
  subst e;rw[QoT]at m3 cW;simp only[QM aa,h3,eE,seval];simp[AV.un,ZO,XZ,m3];exact QnL ŀ
section
variable {M:Nat}(P:PL)(hP:P.ok M)(hr:XR P)
structure CoF (P:PL)(v:V)(g:PG)(i:Nat)(f:Fr)(fr:Nat->Ob):Prop where
 f3:f 3=.ptr 0 3 0
 f5:f 5=.ptr 0 5 0
 f18:f 18=.list (g.ops.map λo=>AV.agg o.cells)
 f19:f 19=.int .i64 (g.ops.length:Nat)
 f20:f 20=.int .i64 (i:Nat)
 m3:fr 3=.cells (Xh P)
 m5:fr 5=.cells (vc v)
theorem QhH {cL:RC}(v:V)(g:PG)(i:Nat)(t:Int)(o:PO)(wq:o.target=t)(l:List V)(hl:l.length<=1048576)(m:V->Bool)(hm:∀y∈l,Qi prog 78 [P.av,.int .i64 t,y.av] (.bool (!m y)))
  (f:Fr) (fr:Nat->Ob) (hf:CoF P v g i f fr) (h8:f 8=.ptr 0 8 0) (m8:fr 8=.cells o.cells) (h9:(fr 9).isRow=false) (aS:f 40=.list (l.map V.av)) (lT:f 41=.int .i64 (l.length:Nat)) (lg:f 42=.int .i64 0) (h12:(fr 12).isRow=false) (Q:Exit->St->Prop)
  (hx:∀f fr,CoF P v g i f fr->(∀s∈[12,9,8],(fr s).isRow=false)->l.any m=false->Q (.exit 2) ⟨f,[fr],[]⟩)
  (hy:∀f fr,f 6=.bool false->l.any m=true->Q .ret ⟨f,[fr],[]⟩) (bU:lp 78 1 f78=cL:=by simp only[eL,eK,f78,seval]) :
  Q1 prog (.loop cL) ⟨f,[fr],[]⟩ Q:=by
 subst bU;simp only[eL,eK,f78,seval]
 let I:Nat->St->Prop:=λk st=>∃f fr j,st=⟨f,[fr],[]⟩/\k=l.length-j/\j<=l.length/\l.any m=(l.drop j).any m/\CoF P v g i f fr/\f 8=.ptr 0 8 0/\fr 8=.cells o.cells/\(fr 9).isRow=false/\f 40=.list (l.map V.av)/\f 41=.int .i64 (l.length:Nat)/\f 42=.int .i64 (j:Nat)/\(fr 12).isRow=false
 refine Qj I _ ⟨f,fr,0,rfl,rfl,Qnk _,rfl,hf,h8,m8,h9,aS,lT,lg,h12⟩ ?_;clear hf h8 m8 h9 aS lT lg h12;rintro _ st ⟨f0,bA,j,rfl,rfl,rS,aL,⟨ax,bL,dQ,di,du,bM,bK⟩,bF,iv,de,q9,j5,jH,aG⟩;refine QR (a:=_) [12] (by intro s hs;simp only[Qpp]at hs;subst hs;exact aG) ?_;intro f fr hf cQ hn;have h3:f 3=.ptr 0 3 0:=Ϥ
 have h5:f 5=.ptr 0 5 0:=Θ
 have h8:f 8=.ptr 0 8 0:=Η
 have dy:f 18=.list (g.ops.map λo=>AV.agg o.cells):=Ĝ
 have dW:f 19=.int .i64 (g.ops.length:Nat):=ĝ
 have bI:f 20=.int .i64 (i:Nat):=Ğ
 have aS:f 40=.list (l.map V.av):=by rw[hf,q9]<;>rfl
 have lT:f 41=.int .i64 (l.length:Nat):=by rw[hf,j5]<;>rfl
 have lg:f 42=.int .i64 (j:Nat):=by rw[hf,jH]<;>rfl
 have ic:fr 3=.cells (Xh P):=by rw[cQ 3 ϊ,bM]<;>rfl
 have bh:fr 5=.cells (vc v):=Ç
 have df:fr 8=.cells o.cells:=á
 have n9:(fr 9).isRow=false:=by
  rw[cQ 9 ϊ];cases h:bA 9<;>rw[h]at de<;>first|rfl|cases de
 have dK:=hn 12 ϊ;clear hf cQ hn ax bL bF dQ di du q9 j5 jH bM bK iv de aG;have m3:=ic;have m8:=df;simp only[Xh]at m3;simp only[PO.cells]at m8;simp only[lT,lg,Qa,seval];by_cases aa:j<l.length
 case neg=>
  have ha:l.any m=false:=by rw[aL,QnO ψ];rfl
  simp only[QM aa,Qa,seval];refine hx _ _ ⟨ϖ,Ϛ,ê,ß,ö,ic,bh⟩ ?_ ha;intro s hs;simp only[Qoz,Qpu,or_false]at hs;rcases hs with rfl|rfl|rfl
  ·rw[dK];rfl
  ·exact n9
  ·rw[df];rfl
 obtain⟨y,hj⟩:∃y,l[j]? = some y:=⟨l[j],Qnb aa⟩;have gS:(l.map V.av)[j]? = some y.av:=by rw[QoA,hj];rfl
 have aM:=hm y (Qnp hj);have e1:=Qv j _ aa ώ;have p7:l.drop j=y :: l.drop (j+1):=by
  rw[QnU aa,(Qna.1 hj).2]
 rw[p7,List.any_cons]at aL;rw[Qd y]at gS;rw[show P.av=.agg (Xh P)from rfl,Qd y]at aM;simp only[Xh]at aM;subst wq;simp only[QE aa,Qs,QoF,Qg,gS,dK,h3,h8,aS,lg,m3,m8,eE,seval];refine aC aM ?_;cases sM:m y
 ·rw[sM,Qo1]at aL;simp only[Qok,QoX,lg,e1,Qa,seval];exact⟨l.length-(j+1),ψ,_,_,j+1,rfl,rfl,ψ,aL,⟨ϖ,Ϛ,ê,ß,ö,(by exact ic),Ζ⟩,ϣ,à,by exact n9,(by exact aS),(by exact lT),ω,ω⟩
 ·rw[sM,Qo0]at aL;simp only[Qok,QoX,Qa,seval];exact hy _ _ ω aL
include hP hr in
theorem Qex (n:Nat)(t:Int)(ht:0<=t/\t<(P.progs.length:Int))(hU:JD P)(ih:∀(t:Int) (v:V),(0<=t/\t<(P.progs.length:Int))->TY P n (Qe P t) v->v.cnt<=1048576->Qi prog 78 [P.av,.int .i64 t,v.av] (.bool (!Yz P n (Qe P t) v)))
  (v:V) (hv:TY P (n+1) (Qe P t) v) (hc:v.cnt<=1048576):Qi prog 78 [P.av,.int .i64 t,v.av] (.bool (!Yz P (n+1) (Qe P t) v)):=by
 have ep:=(U4 ht).1;have nw:(P.progs.map Qm)[t.toNat]? = some (.agg [.str (Qe P t).name,.list ((Qe P t).ops.map λo=>AV.agg o.cells),.int .i64 (Qe P t).unions]):=by
  rw[QoA,(U4 ht).2];rfl
 have mI:(0<=t)=True:=by simp[ht.1]
 have fC:(Qe P t).ops.length<=maxLen:=(hP.progs _ ep).len;have yh:=hr _ ep;have vX:=hU _ ep;have ls:=Zg v;rw[show Yz P (n+1) (Qe P t) v=(Qe P t).ops.any (CQ (Yz P n) P v)from rfl];generalize Qe P t=g at *;rw[show P.av=.agg (Xh P)from rfl,Qd v];refine wF func78 ?_;simp only[eK,f78,seval];simp only[Xh,nw,mI,Qg,Qn6,eE,seval]
 let I:Nat->St->Prop:=λk st=>∃f fr i,st=⟨f,[fr],[]⟩/\k=g.ops.length-i/\i<=g.ops.length/\g.ops.any (CQ (Yz P n) P v)=(g.ops.drop i).any (CQ (Yz P n) P v)/\CoF P v g i f fr/\∀s∈[12,9,8],(fr s).isRow=false
 refine Qj I _ ⟨_,_,0,rfl,rfl,Qnk _,rfl,⟨ω,ω,ω,ω,ω,ω,ω⟩,HI rfl rfl rfl⟩ ?_;rintro _ st ⟨f0,bA,i,rfl,rfl,bg,aL,⟨ax,bL,dQ,di,du,bM,bK⟩,ae⟩;refine QR (a:=_) [12,9,8] ae ?_;intro f fr hf cQ hn;have h3:f 3=.ptr 0 3 0:=Ϥ
 have h5:f 5=.ptr 0 5 0:=Θ
 have dy:f 18=.list (g.ops.map λo=>AV.agg o.cells):=Ĝ
 have dW:f 19=.int .i64 (g.ops.length:Nat):=ĝ
 have bI:f 20=.int .i64 (i:Nat):=Ğ
 have ic:fr 3=.cells (Xh P):=by rw[cQ 3 ϊ,bM]<;>rfl
 have bh:fr 5=.cells (vc v):=Ç
 have dK:=hn 12 ϊ;have n9:=hn 9 ϊ;have n8:=hn 8 ϊ;clear hf cQ hn ax bL dQ di du bM bK ae;have m3:=ic;have m5:=bh;simp only[Xh]at m3;simp only[vc]at m5;simp only[dW,bI,Qa,seval];by_cases aa:i<g.ops.length
 case neg=>
  have ha:g.ops.any (CQ (Yz P n) P v)=false:=by rw[aL,QnO ψ];rfl
  simp only[QM aa,ha,Qok,Qa,seval]
 obtain⟨o,hi⟩:∃o,g.ops[i]? = some o:=⟨g.ops[i],Qnb aa⟩;have cI:=Qnp hi;have bG:(g.ops.map λo=>AV.agg o.cells)[i]? = some (.agg [.int .i64 o.num,.str o.name,.str o.alias,.int .i64 o.card,.int .i64 o.key,.int .i64 o.kind,.int .i64 o.target,.int .i64 o.union]):=Qc7 hi;have e1:=Qv i _ aa fC;have p7:g.ops.drop i=o :: g.ops.drop (i+1):=by
  rw[QnU aa,(Qna.1 hi).2]
 rw[p7,List.any_cons]at aL;have bu:=Ru v o.num ψ;have lY:=FJ v o.num;have aJ:=Qk9 (QK v o.num) ψ;have dY:=λx hx=>QgP (x:=x) yh hv cI hx
 rw[Qd v]at bu;rw[show CQ (Yz P n) P v o=(match XN v o.num with|none=>o.card==1|some x=>To (Yz P n) P o x)from rfl]at aL;have next:∀(f':Fr) (ag:Nat->Ob),g.ops.any (CQ (Yz P n) P v)=(g.ops.drop (i+1)).any (CQ (Yz P n) P v)->CoF P v g (i+1) f' ag->(∀s∈[12,9,8],(ag s).isRow=false)->∃k,k<g.ops.length-i/\I k ⟨f',[ag],[]⟩:=λf' ag a b c=>⟨g.ops.length-(i+1),ψ,f',ag,i+1,rfl,rfl,ψ,a,b,c⟩
 cases hf:XN v o.num with
 |none=>
  rw[hf]at bu aL;rw[Qd (QK v o.num)]at bu;simp only[Qn1]at bu;dsimp only at aL;simp only[QE aa,Qs,QoF,Qg,bG,n8,h5,dy,bI,m5,eE,seval];refine aC bu ?_;cases h1:(o.card==1)
  ·rw[h1,Qo1]at aL;simp only[h1,n9,n8,bI,e1,eE,seval];exact zS
  ·rw[h1,Qo0]at aL;simp only[h1,aL,QoX,n9,n8,eE,seval]
 |some x=>
  have hx:=(Xi hf).2;have dY:=dY x hf;rw[hf]at bu aL;rw[hx]at bu aJ lY;rw[Qd x]at bu aJ;simp only[Qo9]at bu;dsimp only at aL;simp only[QE aa,Qs,QoF,Qg,bG,n8,h5,dy,bI,m5,eE,seval];refine aC bu ?_;by_cases hk:o.kind=10
  case neg=>
   have bk:(o.kind != 10)=true:=Α
   have wX:(o.kind==10)=false:=Α
   have he:To (Yz P n) P o x=false:=by unfold To;rw[wX,QoJ]
   rw[he,Qo1]at aL;simp only[bk,n9,n8,bI,e1,eE,seval];exact zS
  have bk:(o.kind != 10)=false:=Α
  obtain⟨l1,l2⟩:=Qev dY hk (Yz P n);have kU:=(vX o cI).tgt hk;have oo:(F9 x).length<=1048576:=by
   unfold F9;have h1:=JH x;have h2:=Kx x;split
   ·omega
   ·split
    ·rw[Qn6];omega
    ·simp
  simp only[bk,n9,n8,eE,seval];refine aC aJ ?_;simp only[Qn6,Qa,seval];refine QhH P v g i o.target o rfl (F9 x) oo (Yz P n (Qe P o.target)) (λy hy=>ih o.target y kU (l2 y hy) (by have:=Qew hy;omega)) _ _ ⟨ϖ,Ϛ,ê,ß,ö,(by exact ic),Ζ⟩ ω ω ω ω ω ω (by show(fr 12).isRow=false;rw[dK];rfl) _ (λf fr hf ae ha=>?_) (λf fr h6 ha=>?_)
  ·obtain⟨h3,h5,dy,dW,bI,m3,m5⟩:=hf;rw[l1,ha,Qo1]at aL;simp only[bI,e1,Qa,seval];exact next _ _ aL ⟨ϖ,Ϛ,ê,ß,ω,m3,m5⟩ ae
  ·rw[l1,ha,Qo0]at aL;simp only[aL,h6,QoX,Qa,seval]
include hP hr in
theorem j78 (hU:JD P):∀(n:Nat) (t:Int) (v:V),(0<=t/\t<(P.progs.length:Int))->TY P n (Qe P t) v->v.cnt<=1048576->Qi prog 78 [P.av,.int .i64 t,v.av] (.bool (!Yz P n (Qe P t) v))
 |0,_,_,_,h,_=>h.elim
 |n+1,t,v,ht,hv,hc=>Qex P hP hr n t ht hU (j78 hU n) v hv hc
end
section
variable (P:PL)(o:PO)
structure LaF (P:PL)(o:PO)(x:V)(f:Fr)(fr:Nat->Ob):Prop where
 f3:f 3=.ptr 0 3 0
 f4:f 4=.ptr 0 4 0
 f5:f 5=.ptr 0 5 0
 m3:fr 3=.cells (Xh P)
 m4:fr 4=.cells o.cells
 m5:fr 5=.cells (vc x)
variable (x:V)(hl:x.cnt<=1048576)(m:V->Bool)
include hl
end
section
variable {M:Nat}(P:PL)(hP:P.ok M)(hr:XR P)(hU:JD P)
structure LsF (P:PL)(t:Int)(v:V)(i:Nat)(f:Fr)(fr:Nat->Ob):Prop where
 f1:f 1=.int .i64 t
 f3:f 3=.ptr 0 3 0
 f5:f 5=.ptr 0 5 0
 f7:f 7=.int .i64 (i:Nat)
 m3:fr 3=.cells (Xh P)
 m5:fr 5=.cells (vc v)
end
end Va
namespace Va
open Go Am Rc Bt Br
def Qr (s:List UInt8)(P:PL):Int:=Zn (λg:PG=>g.name==s) P.progs 0
def Z9 (s:List UInt8)(P:PL):Qr s P = -1\/(0<=Qr s P/\Qr s P<(P.progs.length:Int)):=by
 unfold Qr;rcases YH (λg:PG=>g.name==s) P.progs 0 with⟨h,_⟩|⟨k,o,h,h1,_⟩
 ·exact .inl h
 ·have:=(Qna.1 h1).1;exact .inr ⟨by rw[h];omega,by rw[h];omega⟩
open Up So Vp Cp
def ZR (P:PL)(N:Nat)(s:List UInt8)(b:V)(d:List UInt8)(l:L):V×Nat :=
 if Qr s P<0 then(QC 0 0 [],10)
 else if b.kd≠10 then(QC 0 0 [],12)
 else if (opn d l).2≠0 then(QC 0 0 [],(opn d l).2)
 else if l.dp<1 then(QC 0 0 [],17)
 else match Z7 ⟨d,0,d.length,l.dp-1,l.nd,l.tx⟩ 1 with
  |.error e=>(QC 0 0 [],e)
  |.ok c=>match Wz P N (Qr s P) b c with
   |.error e=>(QC 0 0 [],e)
   |.ok (v,_)=>(nrm P N (Qe P (Qr s P)) v,0)
def ov (r:V×Nat):AV:=.tup [r.1.av,.int .i64 (r.2:Nat)]
def LN {d:List UInt8}{l:L}(h:(opn d l).2=0):opn d l=(⟨d,0,d.length,l.dp,l.nd,l.tx⟩,0)/\0<=l.dp/\0<=l.nd:=by
 unfold opn at h |-;split at h
 ·cases h
 ·split at h
  ·cases h
  ·rename_i h1 h2;rw[Qni h1,Qni h2];exact⟨rfl,ψ,ψ⟩
def Ga {d:List UInt8}{l:L}(hd:d.length<=65536)(h1:1<=l.dp/\l.dp<9223372036854775808)(h2:0<=l.nd/\l.nd<9223372036854775808):CI ⟨d,0,d.length,l.dp-1,l.nd,l.tx⟩ :=
 ⟨hd,by unfold C.sound;simp,h2,ϰ⟩
section
variable {M N:Nat}(hM:65536<=M)(P:PL)(hP:P.ok M)(hc:ck P=0)(hN:65536<N)(s:List UInt8)(b:V)(d:List UInt8)(l:L)(hd:d.length<=65536)(aQ:l.dp<9223372036854775808)(dO:l.nd<9223372036854775808)
 (jN:b.kd=10->0<=Qr s P->MW P N (Qe P (Qr s P)) b) (dM:b.ok M) (tV:b.cnt<=800000)
include hM hP hc hN hd aQ dO jN dM tV in
theorem VW (h:(ZR P N s b d l).2=0):(0<=Qr s P/\Qr s P<(P.progs.length:Int))/\∃w,MW P N (Qe P (Qr s P)) w/\w.ok M/\(w.cnt:Int)<=b.cnt+3*d.length/\(ZR P N s b d l).1=nrm P N (Qe P (Qr s P)) w:=by
 unfold ZR at h |-;rcases Z9 s P with hx|hx
 ·rw[Qnj ψ]at h;cases h
 rw[Qni ψ]at h |-;by_cases hk:b.kd=10
 case neg=>rw[Qnj hk]at h;cases h
 rw[Qni Α]at h |-;by_cases ho:(opn d l).2=0
 case neg=>rw[Qnj ho]at h;exact absurd h ho
 rw[Qni (by simp[ho])]at h |-;obtain⟨_,o1,o2⟩:=LN ho;by_cases kw:l.dp<1
 ·rw[Qnj kw]at h;cases h
 rw[Qni kw]at h |-;have cU:=Ga (l:=l) hd ⟨ψ,aQ⟩ ⟨o2,dO⟩;have c_:=cU.lf;dsimp only at c_;generalize (⟨d,0,d.length,l.dp-1,l.nd,l.tx⟩:C)=c0 at h cU c_ |-;cases hs:Z7 c0 1 with
 |error e=>
  rw[hs]at h;exact absurd h (Eb hs)
 |ok c=>
  rw[hs]at h;dsimp only at h |-;obtain⟨s1,s2⟩:=Xm cU ψ hs;have bN:=s1.ci cU;have fS:=(s1.left cU).2.2;cases hr:Wz P N (Qr s P) b c with
  |error e=>
   rw[hr]at h;exact absurd h (D7 P N _ _ _ _ hr)
  |ok p=>
   obtain⟨w,c2⟩:=p;obtain⟨q1,q2,q3,q4⟩:=Wp (K:=1000000) hM (Qm8 _) hP (ZF hc) (Xf hc) N (Qr s P) b c bN ψ hx (jN hk hx.1) dM ψ w c2 hr;have iF:=(q1.ci bN).bd;exact⟨hx,w,q2,q3,ψ,rfl⟩
include hM hP hc hN hd aQ dO jN dM tV in
theorem j77:Qi prog 77 [P.av,.str s,b.av,.str d,l.av] (ov (ZR P N s b d l)):=by
 have hU:=ZF hc;have hr:=Xf hc;have cW:P.progs.length<=maxLen:=hP.len1;have fq:=SL P cW s;have dC:=Qkv d l;have z0:(QC 0 0 []).av=.agg [.int .i64 0,.int .u64 0,.str [],.list [],.list [],.list [],.list []]:=Qd _;unfold F3 at fq;rw[show Zn (λg:PG=>g.name==s) P.progs 0=Qr s P from rfl]at fq;rw[show P.av=.agg (Xh P)from rfl]at fq;unfold ZR;rw[show P.av=.agg (Xh P)from rfl,Qd b];simp only[Xh]at fq;rcases Z9 s P with hx|hx
 ·have d1:decide (Qr s P>=0)=false:=Qo8 ψ;rw[d1]at fq;rw[Qnj ψ];refine wF func77 ?_;simp only[eK,f77,seval];simp only[Xh,L.av,eE,seval];refine aC fq ?_;simp only[ov,z0,eE,seval]<;>rfl
 have d1:decide (Qr s P>=0)=true:=Qpe ψ;rw[d1,Qni (by omega:¬Qr s P<0)]at fq;rw[Qni ψ];by_cases hk:b.kd=10
 case neg=>
  have b1:(b.kd != 10)=true:=Α
  rw[Qnj hk];refine wF func77 ?_;simp only[eK,f77,seval];simp only[Xh,L.av,eE,seval];refine aC fq ?_;simp only[b1,ov,z0,eE,seval]<;>rfl
 have b1:(b.kd != 10)=false:=Α
 rw[Qni Α];by_cases ho:(opn d l).2=0
 case neg=>
  rw[Qnj ho];generalize opn d l=q at dC ho |-;obtain⟨c,e⟩:=q;dsimp only at ho |-;simp only[HS,C.av,L.av]at dC;refine wF func77 ?_;simp only[eK,f77,seval];simp only[Xh,L.av,eE,seval];refine aC fq ?_;simp only[b1,eE,seval];refine aC dC ?_;simp only[Xj ho,ov,z0,eE,seval]
 rw[Qni (by simp[ho])];obtain⟨oe,o1,o2⟩:=LN ho;rw[oe]at dC;simp only[HS,C.av,L.av]at dC;by_cases kw:l.dp<1
 ·have b2:decide (l.dp<1)=true:=Qpe kw;rw[Qnj kw];refine wF func77 ?_;simp only[eK,f77,seval];simp only[Xh,L.av,eE,seval];refine aC fq ?_;simp only[b1,eE,seval];refine aC dC ?_;simp only[b2,ov,z0,eE,seval]<;>rfl
 have b2:decide (l.dp<1)=false:=Qo8 kw;have w1:IntKind.i64.wrap (l.dp-1)=l.dp-1:=ϐ
 rw[Qni kw];have cU:=Ga (l:=l) hd ⟨ψ,aQ⟩ ⟨o2,dO⟩;have c_:=cU.lf;dsimp only at c_;have y9:∀c:C,Xs P c=.cells [.list (P.progs.map Qm),.list (P.enums.map QH),.str c.d,.int .i64 c.a,.int .i64 c.e,.int .i64 c.dp,.int .i64 c.nd,.int .i64 c.tx]:=λ_=>rfl
 have p0:∀(fr:Nat->Ob) (o:Ob),Am.put [fr] 0 52 o=[QL fr 52 o]:=λ_ _=>rfl
 refine wF func77 ?_;simp only[eK,f77,seval];simp only[Xh,L.av,eE,seval];refine aC fq ?_;simp only[b1,eE,seval];refine aC dC ?_;simp only[b2,w1,eE,seval];refine QT (BJ P ⟨d,0,d.length,l.dp-1,l.nd,l.tx⟩ 0 52 _ ω 1) ϑ ?_;rintro x m1 ⟨rfl,rfl⟩ _;generalize (⟨d,0,d.length,l.dp-1,l.nd,l.tx⟩:C)=c0 at cU c_ |-;rcases Wj c0 1 with⟨c,h2,dD⟩|⟨e,he,h2,dD⟩
 case inr=>
  rw[h2,dD];simp only[p0,Xj he,ov,z0,eE,seval]
 rw[h2,dD];obtain⟨s1,s2⟩:=Xm cU ψ h2;have bN:=s1.ci cU;have fS:=(s1.left cU).2.2;dsimp only;simp only[p0,eE,seval];have gG:=λ(m:Qk) (hm:0<m.length) (h:Am.Qc m 0 52=Xs P c)=>QgM (K:=1000000) hM (Qm8 _) hP hU hr N 0 52 m (Qr s P) b c hm h bN ψ hx (jN hk hx.1) dM ψ
 have ak:=Wp (K:=1000000) hM (Qm8 _) hP hU hr N (Qr s P) b c bN ψ hx (jN hk hx.1) dM ψ;rw[Qd b]at gG;refine QT (gG _ ό ω) ϑ ?_;intro x m1 bE _;cases cZ:Wz P N (Qr s P) b c with
 |error e=>
  rw[cZ]at bE;obtain⟨he,w,c',rfl,rfl⟩:=bE;dsimp only;simp only[p0,Xj he,Qd w,ov,z0,eE,seval]
 |ok p=>
  obtain⟨w,c2⟩:=p;rw[cZ]at bE;obtain⟨rfl,rfl⟩:=bE;obtain⟨q1,q2,q3,q4⟩:=ak w c2 cZ;have iF:=(q1.ci bN).bd;have cr:=v24 hP hU hr (BD hc) N (Qr s P) _ (U4 hx).2 hx.1 w q3 ψ q2;dsimp only;generalize nrm P N (Qe P (Qr s P)) w=u at cr |-;rw[show P.av=.agg (Xh P)from rfl,Qd w,Qd u]at cr;simp only[Xh]at cr;simp only[p0,Qd w,eE,seval];refine aC cr ?_;simp only[ov,Qd u,eE,seval]<;>rfl
end
section
variable {M N:Nat}(hM:65536<=M)(P:PL)(hP:P.ok M)(hc:ck P=0)(hN:65536<N)(s:List UInt8)(b:V)(d:List UInt8)(l:L)(hd:d.length<=65536)(aQ:l.dp<9223372036854775808)(dO:l.nd<9223372036854775808)
 (jN:b.kd=10->0<=Qr s P->MW P N (Qe P (Qr s P)) b) (dM:b.ok M) (tV:b.cnt<=800000)
end
def ZV (P:PL)(N:Nat)(s d:List UInt8)(l:L):V×Nat :=
 if (ZR P N s (QC 10 0 []) d l).2≠0 then(QC 0 0 [],(ZR P N s (QC 10 0 []) d l).2)
 else if Yz P N (Qe P (Qr s P)) (ZR P N s (QC 10 0 []) d l).1=true then(QC 0 0 [],14)
 else((ZR P N s (QC 10 0 []) d l).1,0)
section
variable {M N:Nat}(hM:65536<=M)(P:PL)(hP:P.ok M)(hc:ck P=0)(hN:65536<N)(s:List UInt8)(d:List UInt8)(l:L)(hd:d.length<=65536)(aQ:l.dp<9223372036854775808)(dO:l.nd<9223372036854775808)
include hM hP hc hN hd aQ dO in
theorem Tp:(ZV P N s d l).1.cnt<=1048576:=by
 unfold ZV;have h0:=VW (N:=N) hM P hP hc hN s (QC 10 0 []) d l hd aQ dO (λ_ _=>Xq ψ) (XG rfl ϊ (Qnk _)) ϫ;by_cases h:(ZR P N s (QC 10 0 []) d l).2=0
 case neg=>rw[Qnj h,Q5];omega
 rw[Qni Ĺ];obtain⟨hx,w,w1,w2,w3,w4⟩:=h0 h;split
 ·rw[Q5];omega
 ·rw[w4];have:=JQ (Xf hc) N (Qe P (Qr s P)) (Zf (Xf hc) _) w;rw[Q5]at w3;omega
include hM hP hc hN hd aQ dO in
theorem j41:Qi prog 41 [P.av,.str s,.str d,l.av] (ov (ZV P N s d l)):=by
 have cH:=j77 (N:=N) hM P hP hc hN s (QC 10 0 []) d l hd aQ dO (λ_ _=>Xq ψ) (XG rfl ϊ (Qnk _)) ϫ;have bz:=VW (N:=N) hM P hP hc hN s (QC 10 0 []) d l hd aQ dO (λ_ _=>Xq ψ) (XG rfl ϊ (Qnk _)) ϫ;have fq:=SL P hP.len1 s;have z0:(QC 0 0 []).av=.agg [.int .i64 0,.int .u64 0,.str [],.list [],.list [],.list [],.list []]:=Qd _;have ym:(QC 10 0 []).av=.agg [.int .i64 10,.int .u64 0,.str [],.list [],.list [],.list [],.list []]:=Qd _;have rM:=λ(h:(0<=Qr s P/\Qr s P<(P.progs.length:Int))) v hv hcv=>j78 P hP (Xf hc) (ZF hc) N (Qr s P) v h hv hcv
 unfold ZV;generalize ZR P N s (QC 10 0 []) d l=q at cH bz |-;obtain⟨v,e⟩:=q;unfold F3 at fq;rw[show Zn (λg:PG=>g.name==s) P.progs 0=Qr s P from rfl]at fq;rw[show P.av=.agg (Xh P)from rfl]at fq;rw[show P.av=.agg (Xh P)from rfl,ym]at cH;rw[show P.av=.agg (Xh P)from rfl];simp only[ov,Qd v,Xh,L.av]at cH;simp only[Xh]at fq;dsimp only at bz |-;refine wF func41 ?_;simp only[eK,f41,seval];simp only[Xh,L.av,eE,seval];refine aC cH ?_;by_cases he:e=0
 case neg=>
  rw[Qnj he];simp only[Xj he,ov,z0,eE,seval]
 subst he;obtain⟨hx,w,w1,w2,w3,w4⟩:=bz rfl;have d1:decide (Qr s P>=0)=true:=Qpe ψ;rw[d1,Qni (by omega:¬Qr s P<0)]at fq;have aA:=JQ (Xf hc) N (Qe P (Qr s P)) (Zf (Xf hc) _) w;rw[Q5]at w3;have dI:=rM hx v (by rw[w4];exact LM (ZF hc) (Xf hc) N _ (U4 hx).1 w w1) (by rw[w4];omega);rw[show P.av=.agg (Xh P)from rfl,Qd v]at dI;simp only[Xh]at dI;rw[Qni ό];simp only[eE,seval];refine aC fq ?_;simp only[eE,seval];refine aC dI ?_;cases hl:Yz P N (Qe P (Qr s P)) v
 ·rw[Qni ό];simp only[Qok,QoX,ov,Qd v,eE,seval]<;>rfl
 ·rw[Qnj rfl];simp only[Qok,QoX,ov,z0,eE,seval]<;>rfl
end
def PT (c:C):Int:=c.nd-3*c.left
structure Rich (c:C):Prop where
 ci:CI c
 tx:c.left<=c.tx
 pt:0<=PT c
def NL {α:Type}(c:C):Rd α->Prop
 |.error e=>e≠3
 |.ok (_,d)=>Af c d/\PT c<=PT d
def Ed (rec:Int->V->C->Rd V):Prop:=∀t v c,Rich c->NL c (rec t v c)
def Uv {c d:C}(hc:CI c)(ht:c.left<=c.tx)(a:Af c d):d.left<=d.tx:=by
 have h1:=(a.left hc).2.2;obtain⟨_,_,_,e,_⟩:=a.eqs;rw[e];omega
def Rich.nx {c d:C}(h:Rich c)(a:Af c d)(hp:0<=PT d):Rich d:=by
 exact⟨a.ci h.ci,Uv h.ci h.tx a,hp⟩
def Qc9:∀(s:List UInt8) (k u:Nat),(JC k u s).2.2≠3
 | [],_,_=>by unfold JC;simp
 |b :: t,k,u=>by
  unfold JC;have:=Qc9 t
  repeat' split
  all_goals first|exact this _ _|simp
def U6 (c:C):c.varint.2.2≠3:=by
 unfold C.varint;dsimp only;split
 ·simp
 ·exact Qc9 _ _ _
def Hx (c:C):c.varint.2.1.nd=c.nd:=by unfold C.varint;dsimp only;split<;>rfl
def Vg {c:C}(hc:CI c):match Z4 c with
  |.error e=>e≠3
  |.ok (n,d)=>As c d/\(n:Int)<=d.left/\PT c+3<=PT d:=by
 cases h:Z4 c with
 |error e=>
  dsimp only;unfold Z4 at h;split at h
  ·split at h
   ·cases h;simp
   ·cases h
  ·cases h;exact U6 c
 |ok r=>
  obtain⟨n,d⟩:=r;obtain⟨h1,h2⟩:=Ji hc h;have h3:d.nd=c.nd:=by
   unfold Z4 at h;split at h
   ·split at h
    ·cases h
    ·cases h;exact Hx c
   ·cases h
  have:=h1.lt hc;exact⟨h1,h2,Ŋ⟩
def RB {c:C}(hc:CI c):(Qp c).2.2.2≠3/\((Qp c).2.2.2=0->As c (Qp c).2.2.1/\(Qp c).2.2.1.nd=c.nd/\PT c+3<=PT (Qp c).2.2.1):=by
 have h3:(Qp c).2.2.1.nd=c.nd:=by
  unfold Qp;dsimp only
  repeat' split
  all_goals first|rfl|exact Hx c
 refine⟨?_,λh=>?_⟩
 ·unfold Qp;dsimp only
  repeat' split
  all_goals first|exact U6 c|simp
 ·have h1:=(WG hc h).1;have:=h1.lt hc;exact⟨h1,h3,Ŋ⟩
def D8 {c:C}{n:Int}(hc:CI c)(hn:0<=n)(h:n<=c.nd):∃d,Z7 c n=.ok d/\Af c d/\PT d=PT c-n/\d.left=c.left:=by
 have hs:(c.spend n).2=0:=by unfold C.spend;rw[Qni ψ,Qni ψ]
 have e:Z7 c n=.ok (c.spend n).1:=by unfold Z7;rw[Qnj hs]
 obtain⟨a1,a2⟩:=Xm hc hn e;have hl:=(a1.left hc).1;have:=hc.nd;have hd:(c.spend n).1.nd=c.nd-n:=by
  unfold C.spend;rw[Qni ψ,Qni ψ];show IntKind.i64.wrap (c.nd-n)=_;rw[QD];omega
 exact⟨_,e,a1,Ŋ,ψ⟩
def LO {w:Int}{c:C}(hc:CI c)(ht:c.left<=c.tx):match Je w c with
  |.error e=>e≠3
  |.ok (_,d)=>As c d/\PT c+3<=PT d:=by
 cases h:Je w c with
 |error e=>
  dsimp only;unfold Je at h;split at h
  ·have hl:=Vg hc;split at h
   ·rename_i e' h1;cases h;rw[h1]at hl;exact hl
   ·rename_i n d h1;rw[h1]at hl;split at h
    ·cases h
    ·cases h;have fm:=Uv hc ht hl.1.1;have:=hl.2.1;unfold text;rw[Qni ψ,Qni ψ,Qni ψ];simp
  ·split at h
   ·split at h
    ·cases h
    ·cases h;unfold C.fixed;split<;>simp
   ·split at h
    ·cases h
    ·cases h;exact U6 c
 |ok r=>
  obtain⟨f,d⟩:=r;have h1:=(Yq hc h).1;have h3:d.nd=c.nd:=by
   unfold Je at h;split at h
   ·split at h
    ·cases h
    ·rename_i n i hl;have:i.nd=c.nd:=by
      unfold Z4 at hl;split at hl
      ·split at hl
       ·cases hl
       ·cases hl;exact Hx c
      ·cases hl
     split at h
     ·cases h;rw[<-this];unfold text
      repeat' split
      all_goals rfl
     ·cases h
   ·split at h
    ·split at h
     ·cases h;unfold C.fixed;split<;>rfl
     ·cases h
    ·split at h
     ·cases h;exact Hx c
     ·cases h
  have:=h1.lt hc;exact⟨h1,Ŋ⟩
def Qda (P:PL)(k t:Int)(f:R):(XP P k t f).2≠3:=by
 unfold XP
 repeat' split
 all_goals simp
def FL {α:Type}{c d:C}{r:Rd α}(hc:CI c)(a:Af c d)(hp:PT c<=PT d)(h:NL d r):NL c r:=by
 cases r with
 |error e=>exact h
 |ok x=>exact⟨a.trans h.1 hc,Int.le_trans hp h.2⟩
section
variable {P:PL}{g:PG}{o:PO}
theorem Tq {v:V}{c:C}(hr:Rich c)(h1:0<c.left\/1<=PT c):NL c (ZY P g v o c):=by
 have hc:=hr.ci;have ib:1<=c.nd:=by
  have:=hc.bd;have:=hr.pt;unfold PT at *;omega
 obtain⟨c1,e1,a1,p1,l1⟩:=D8 hc (by decide:(0:Int)<=1) ib;unfold ZY;rw[e1];dsimp only;have hx:=LO (w:=wk o.kind) (a1.ci hc) (Uv hc hr.tx a1);cases h2:Je (wk o.kind) c1 with
 |error e=>rw[h2]at hx;exact hx
 |ok r=>
  obtain⟨f,d⟩:=r;rw[h2]at hx;obtain⟨b1,b2⟩:=hx;have a2:=a1.trans b1.1 hc;have bz:∀w:V,NL c (.ok (w,d):Rd V):=λw=>⟨a2,ψ⟩
  dsimp only;split
  ·exact bz _
  split
  ·split
   ·split
    ·exact bz _
    ·have sT:1<=d.nd:=by
      have:=(a2.ci hc).bd;have:=hr.pt;unfold PT at *;omega
     obtain⟨d1,e2,a3,p2,l2⟩:=D8 (a2.ci hc) (by decide:(0:Int)<=1) sT;rw[e2];exact⟨a2.trans a3 hc,ψ⟩
   ·exact bz _
  ·exact Qda P _ _ _
theorem RD:∀(k:Nat) {v:V} {c:C},Rich c->NL c (ZS P g o k v c)
 |0,v,c,hr=>⟨Af.refl hr.ci,QoC _⟩
 |k+1,v,c,hr=>by
  rw[ZS];split
  ·rename_i hl;have h1:=Tq (P:=P) (g:=g) (o:=o) (v:=v) hr (.inl hl);cases h2:ZY P g v o c with
   |error e=>rw[h2]at h1;exact h1
   |ok r=>
    rw[h2]at h1;have hp:=hr.pt;exact FL hr.ci h1.1 h1.2 (RD k (hr.nx h1.1 (by have:=h1.2;omega)))
  ·exact⟨Af.refl hr.ci,QoC _⟩
theorem D9 {c:C}{n:Nat}(hr:Rich c)(hn:(n:Int)<=c.left):Rich (part c n)/\PT c<=PT (part c n)/\(part c n).nd=c.nd:=by
 obtain⟨e1,e2,e3⟩:=ZZ hr.ci hn;have hp:=hr.pt;have ht:=hr.tx;have e4:(part c n).nd=c.nd:=rfl;have e5:(part c n).tx=c.tx:=rfl;have:PT c<=PT (part c n):=by unfold PT;omega
 exact⟨⟨e2,by rw[e5];omega,ψ⟩,this,e4⟩
theorem CR {c i:C}{n:Nat}{k:Int}(hc:CI c)(hn:(n:Int)<=c.left)(hj:Af (part c n) i)(h:PT (part c n)-k<=PT i):Af c (JE c i)/\PT c-k<=PT (JE c i):=by
 obtain⟨b1,b2⟩:=Hs hc hn hj;have h3:=(ZZ hc hn).2.2;have h4:=(hj.ci (ZZ hc hn).2.1).bd;have e4:(part c n).nd=c.nd:=rfl;have e5:(JE c i).nd=i.nd:=rfl;refine⟨b1,?_⟩;unfold PT at *;omega
theorem LP {v:V}{c d:C}{q:Nat}{k:Int}(hr:Rich c)(hq:(q:Int)<=c.left)(hd:Af (part c q) d)(hk:PT (part c q)-k<=PT d)(h0:0<=PT d):match ZJ P g v o c d with
  |.error e=>e≠3
  |.ok (_,e)=>Af c e/\PT c-k<=PT e:=by
 have hp:=ZZ hr.ci hq;have nG:Rich d:=⟨hd.ci hp.2.1,Uv hp.2.1 (D9 hr hq).1.tx hd,h0⟩;have h1:=RD (P:=P) (g:=g) (o:=o) d.left.toNat (v:=v) nG;unfold ZJ;cases h2:ZS P g o d.left.toNat v d with
 |error e=>rw[h2]at h1;exact h1
 |ok r=>
  rw[h2]at h1;exact CR hr.ci hq (hd.trans h1.1 hp.2.1) (Int.le_trans hk h1.2)
theorem Qbq {v:V}{c:C}(hr:Rich c):NL c (JV P g v o c):=by
 have hc:=hr.ci;have hp:=hr.pt;unfold JV;have hl:=Vg hc;cases h1:Z4 c with
 |error e=>rw[h1]at hl;exact hl
 |ok r=>
  obtain⟨q,c1⟩:=r;rw[h1]at hl;obtain⟨a1,a2,a3⟩:=hl;have bj:=hr.nx a1.1 ψ;obtain⟨p1,p2,p3⟩:=D9 bj a2;dsimp only;split
  ·rename_i hy;obtain⟨y1,_⟩:=HX p1.ci hy;have y2:(ZD (part c1 q)).2.1.nd=(part c1 q).nd:=by unfold ZD;split<;>rfl
   have y3:=y1.lt p1.ci;have y4:PT (part c1 q)+3<=PT (ZD (part c1 q)).2.1:=by unfold PT;omega
   have fin:∀(w:V) (d:C),Af (part c1 q) d->PT (part c1 q)+2<=PT d->NL c (ZJ P g w o c1 d):=λw d ad pd=>by
    have:=LP (P:=P) (g:=g) (o:=o) (v:=w) (k:=0) bj a2 ad ψ (by have:=p1.pt;omega);cases h2:ZJ P g w o c1 d with
    |error e=>rw[h2]at this;exact this
    |ok r=>rw[h2]at this;exact⟨a1.1.trans this.1 hc,by have:=this.2;omega⟩
   split
   ·split
    ·exact fin _ _ y1.1 ψ
    ·have ib:1<=(ZD (part c1 q)).2.1.nd:=by
      have:=(y1.ci p1.ci).bd;have:=p1.pt;unfold PT at *;omega
     obtain⟨i,e1,b1,b2,b3⟩:=D8 (y1.ci p1.ci) (by decide:(0:Int)<=1) ib;rw[e1];exact fin _ _ (y1.1.trans b1 p1.ci) ψ
   ·show(13:Nat)≠3;decide
  ·rename_i hy;show(ZD (part c1 q)).2.2≠3;unfold ZD;split<;>simp
variable {rec:Int->V->C->Rd V}(ab:Ed rec)
include ab
theorem LQ {t:Int}{b:V}{k:Int}{c:C}(hr:Rich c)(hk:0<=k/\k<=3):NL c (KN rec t b k c):=by
 have hc:=hr.ci;have hp:=hr.pt;unfold KN;have hl:=Vg hc;cases h1:Z4 c with
 |error e=>rw[h1]at hl;exact hl
 |ok r=>
  obtain⟨n,d⟩:=r;rw[h1]at hl;obtain⟨a1,a2,a3⟩:=hl;have hd:=a1.ci hc;have pP:=hd.bd;dsimp only;split
  ·rename_i h0;obtain⟨e1,e2,e3⟩:=YM hd a2 h0;have en:(enter d n).1.nd=d.nd:=by rw[e1]
   have et:(enter d n).1.tx=d.tx:=by rw[e1]
   have fm:=Uv hc hr.tx a1.1;obtain⟨i,s1,s2,s3,s4⟩:=D8 e2 hk.1 ĉ;rw[s1];dsimp only;have hi:Rich i:=⟨s2.ci e2,Uv e2 (by rw[et];omega) s2,ĉ⟩;have h3:=ab t b i hi;cases h2:rec t b i with
   |error e=>rw[h2]at h3;exact h3
   |ok r=>
    obtain⟨x,j⟩:=r;rw[h2]at h3;obtain⟨r1,r2⟩:=h3;have oL:i.e=d.a+n/\i.nd<=d.nd:=by
     obtain⟨_,f2,_⟩:=s2.eqs;have f3:=s2.nd;rw[e1]at f2 f3;exact⟨f2,f3.2⟩
    obtain⟨l1,l2⟩:=Bx hd a2 oL r1;have qG:=(r1.ci hi.ci).bd;have ln:(Yp d j).nd=j.nd:=by
     obtain⟨f1,f2,f3,f4,l,f5,og⟩:=r1.eqs;have:=hd.pos;have:=hd.lf;have:=r1.nd;unfold Yp;rw[Qni (by rw[hd.snd];simp;omega)]
    refine⟨a1.1.trans l1 hc,?_⟩;unfold PT at *;omega
  ·rename_i h0;show(enter d n).2≠3;unfold enter
   repeat' split
   all_goals simp
theorem Qbr {v:V}{c:C}(hr:Rich c):NL c (JL rec g v o c):=by
 have key:∀(t:Int) (b:V) (k:Int) (w:V->V),0<=k/\k<=3->NL c (match KN rec t b k c with
   |.error e=>.error e
   |.ok (x,d)=>.ok (w x,d):Rd V):=λt b k w hk=>by
  have h:=LQ ab (t:=t) (b:=b) hr hk;cases h2:KN rec t b k c with
  |error e=>rw[h2]at h;exact h
  |ok r=>rw[h2]at h;exact h
 unfold JL;split
 ·exact key _ _ _ (λx=>X6 g v o (Xa ((QK v o.num).list++[x]))) (by split<;>decide)
 ·exact key _ _ _ (λx=>X6 g v o x) ϊ
theorem Qbs {k t w:Int}{c:C}(hr:Rich c):NL c (Jf P rec k t w c):=by
 unfold Jf;split
 ·split
  ·exact LQ ab hr ϊ
  ·have h:=LO (w:=w) hr.ci hr.tx;cases h2:Je w c with
   |error e=>rw[h2]at h;exact h
   |ok r=>
    obtain⟨f,d⟩:=r;rw[h2]at h;dsimp only;split
    ·exact⟨h.1.1,by have:=h.2;omega⟩
    ·exact Qda P _ _ _
 ·show(13:Nat)≠3;decide
theorem Tr:∀(n:Nat) (x:V×V) (a b:Bool) (c:C),Rich c->NL c (JF P rec o n x a b c)
 |0,x,a,b,c,hr=>⟨Af.refl hr.ci,QoC _⟩
 |n+1,x,a,b,c,hr=>by
  have hp:=hr.pt;obtain⟨t1,t2⟩:=RB hr.ci;have key:∀(k t:Int) (w:V->V×V) (a b:Bool),(Qp c).2.2.2=0->NL c (match Jf P rec k t (Qp c).2.1 (Qp c).2.2.1 with
    |.error e=>.error e
    |.ok (y,d)=>JF P rec o n (w y) a b d):=λk t w a b h0=>by
   obtain⟨a1,_,a3⟩:=t2 h0;have bj:=hr.nx a1.1 ψ;have h:=Qbs ab (P:=P) (k:=k) (t:=t) (w:=(Qp c).2.1) bj;refine FL hr.ci a1.1 ψ ?_;cases h2:Jf P rec k t (Qp c).2.1 (Qp c).2.2.1 with
   |error e=>rw[h2]at h;exact h
   |ok r=>
    obtain⟨y,d⟩:=r;rw[h2]at h;exact FL bj.ci h.1 h.2 (Tr n (w y) a b d (bj.nx h.1 (by have:=h.2;have:=bj.pt;omega)))
  rw[JF];split
  ·split
   ·rename_i h0;split
    ·split
     ·show(9:Nat)≠3;decide
     ·exact key _ _ (λy=>(y,x.2)) true b h0
    ·split
     ·split
      ·show(9:Nat)≠3;decide
      ·exact key _ _ (λy=>(x.1,y)) a true h0
     ·show(18:Nat)≠3;decide
   ·exact t1
  ·exact⟨Af.refl hr.ci,QoC _⟩
theorem LR {v:V}{c:C}(hr:Rich c):NL c (Z8 P rec g v o c):=by
 have hc:=hr.ci;have hp:=hr.pt;unfold Z8;have hl:=Vg hc;cases h1:Z4 c with
 |error e=>rw[h1]at hl;exact hl
 |ok r=>
  obtain⟨n,d⟩:=r;rw[h1]at hl;obtain⟨a1,a2,a3⟩:=hl;have bj:=hr.nx a1.1 ψ;obtain⟨p1,p2,p3⟩:=D9 bj a2;obtain⟨k,hk,rj⟩:∃k:Int,(if (XN v o.num).isSome=true then 2 else 3)=k/\0<=k/\k<=3:=⟨_,rfl,by split<;>decide⟩;rw[hk];obtain⟨i,s1,s2,s3,s4⟩:=D8 p1.ci rj.1 (by have:=p1.ci.bd;unfold PT at *;omega);dsimp only;rw[s1];dsimp only;have hi:Rich i:=⟨s2.ci p1.ci,Uv p1.ci p1.tx s2,ψ⟩;have h3:=Tr ab (P:=P) (o:=o) i.left.toNat (QC o.key 0 [],QC o.kind 0 []) false false i hi;cases h2:JF P rec o i.left.toNat (QC o.key 0 [],QC o.kind 0 []) false false i with
  |error e=>rw[h2]at h3;exact h3
  |ok r=>
   obtain⟨x,j⟩:=r;rw[h2]at h3;obtain⟨b1,b2⟩:=CR (k:=k) bj.ci a2 (s2.trans h3.1 p1.ci) (by have:=h3.2;omega);exact⟨a1.1.trans b1 hc,ψ⟩
theorem LS {v:V}{w:Int}{c:C}(hr:Rich c)(h3:3<=PT c):NL c (XV P rec g v o w c):=by
 unfold XV;split
 ·split
  ·exact LR ab hr
  ·show(13:Nat)≠3;decide
 ·split
  ·exact Qbq hr
  ·split
   ·split
    ·exact Qbr ab hr
    ·exact Tq hr (.inr ψ)
   ·show(13:Nat)≠3;decide
omit ab
theorem QgQ {c:C}(hr:Rich c)(hl:0<c.left):if (Xu c).2.2=0 then Af c (Xu c).2.1/\PT c<=PT (Xu c).2.1 else(Xu c).2.2≠3:=by
 have hc:=hr.ci;have gE:=hc.bd;have hp:=hr.pt;obtain⟨t1,t2⟩:=RB hc;split
 ·rename_i h0;obtain⟨a1,_⟩:=DU hc h0;refine⟨a1.1,?_⟩;have ib:c.nd-1<=(Xu c).2.1.nd:=by
   unfold Xu at h0 |-;dsimp only at h0 |-;split at h0
   ·rename_i ht;rw[Qnj ht];obtain⟨b1,b2,b3⟩:=t2 ht;have pP:=(b1.ci hc).bd;have hs:((Qp c).2.2.1.spend 1).2=0/\((Qp c).2.2.1.spend 1).1.nd=c.nd-1:=by
     have:=(b1.ci hc).nd;unfold C.spend;rw[Qni ψ,Qni ĉ];exact⟨rfl,by show IntKind.i64.wrap ((Qp c).2.2.1.nd-1)=_;rw[QD,b2];omega⟩
    rw[Qnj hs.1]at h0 |-;split at h0
    ·rename_i hk;rw[Qnj hk,SZ,hs.2];exact QoC _
    ·rename_i hk;exact absurd h0 hk
   ·rename_i ht;exact absurd h0 ht
  have:=a1.lt hc;unfold PT at *;omega
 ·rename_i h0;unfold Xu at h0 |-;dsimp only at h0 |-;split
  ·rename_i ht;obtain⟨b1,b2,b3⟩:=t2 ht;have hd:=b1.ci hc;have pP:=hd.bd;have hs:((Qp c).2.2.1.spend 1).2=0:=by
    unfold C.spend;rw[Qni ψ,Qni ĉ]
   have e1:Z7 (Qp c).2.2.1 1=.ok ((Qp c).2.2.1.spend 1).1:=by unfold Z7;rw[Qnj hs]
   obtain⟨s1,_⟩:=Xm hd ϊ e1;have hi:=s1.ci hd;have fm:=Uv hd (Uv hc hr.tx b1.1) s1;have oZ:=hi.bd;rw[Qnj hs];split
   ·rename_i hk;rw[hk];decide
   ·dsimp only;generalize ((Qp c).2.2.1.spend 1).1=i at *;unfold Zw;split
    ·show i.fixed.2.2≠3;unfold C.fixed;split<;>simp
    ·split
     ·exact U6 i
     ·show(Kv i _).2.2≠3;unfold Kv;dsimp only;split
      ·rename_i hv;have uL:=(Kw hi hv).1.lt hi;split
       ·simp
       ·rename_i hle;rw[Qni]
        ·simp
        ·split<;>omega
      ·exact U6 i
  ·exact t1
theorem BL {P:PL}{rec:Int->V->C->Rd V}(ab:Ed rec)(t:Int):∀(k:Nat) (v:V) (c:C),Rich c->NL c (XY P rec t k v c)
 |0,v,c,hr=>⟨Af.refl hr.ci,QoC _⟩
 |k+1,v,c,hr=>by
  have hp:=hr.pt;obtain⟨t1,t2⟩:=RB hr.ci;rw[XY];split
  ·rename_i hl;split
   ·rename_i h0;obtain⟨a1,_,a3⟩:=t2 h0;split
    ·have hn:=QgQ hr hl;split
     ·rename_i h1;rw[Qnj h1]at hn;exact FL hr.ci hn.1 hn.2 (BL ab t k _ _ (hr.nx hn.1 (by have:=hn.2;omega)))
     ·rename_i h1;rw[Qni h1]at hn;exact hn
    ·rename_i o ho;have bj:=hr.nx a1.1 ψ;have h:=LS ab (P:=P) (g:=Qe P t) (o:=o) (v:=v) (w:=(Qp c).2.1) bj ψ;refine FL hr.ci a1.1 ψ ?_;cases h2:XV P rec (Qe P t) v o (Qp c).2.1 (Qp c).2.2.1 with
     |error e=>rw[h2]at h;exact h
     |ok r=>
      obtain⟨w,d⟩:=r;rw[h2]at h;exact FL bj.ci h.1 h.2 (BL ab t k w d (bj.nx h.1 (by have:=h.2;have:=bj.pt;omega)))
   ·exact t1
  ·exact⟨Af.refl hr.ci,QoC _⟩
theorem Ts (P:PL):∀n,Ed (Wz P n)
 |0,_,_,_,hr=>⟨Af.refl hr.ci,QoC _⟩
 |n+1,t,v,c,hr=>BL (Ts P n) t _ v c hr
end
def Qq:L:=⟨1073741824,65536,1073741824,1073741824⟩
def Qbt {P:PL}{N:Nat}{s s' d:List UInt8}{l:L}(h:Qr s P=Qr s' P):ZV P N s d l=ZV P N s' d l:=by
 have e:∀b,ZR P N s b d l=ZR P N s' b d l:=λb=>by unfold ZR;rw[h]
 unfold ZV;rw[e,h]
def Qey {P:PL}{N:Nat}{s d:List UInt8}{b:V}(hd:d.length<=65536):(ZR P N s b d Qq).2≠3:=by
 have ho:opn d Qq=(⟨d,0,d.length,65536,1073741824,1073741824⟩,0):=by
  exact O0
 unfold ZR;rw[ho];split
 ·simp
 split
 ·simp
 split
 ·simp
 split
 ·simp
 have cU:=Ga (l:=Qq) hd ϊ ϊ;have c_:=cU.lf;have hs:Z7 (⟨d,0,d.length,Qq.dp-1,Qq.nd,Qq.tx⟩:C) 1=.ok ⟨d,0,d.length,Qq.dp-1,Qq.nd-1,Qq.tx⟩:=by
  unfold Z7 C.spend Qq;rfl
 obtain⟨s1,_⟩:=Xm cU ψ hs;have hr:Rich (⟨d,0,d.length,Qq.dp-1,Qq.nd-1,Qq.tx⟩:C):=by
  have bN:=s1.ci cU;have hb:=bN.bd;refine⟨bN,?_,?_⟩
  ·refine Int.le_trans hb.2 ?_;show(65536:Int)<=1073741824;omega
  ·unfold PT;show(0:Int)<=1073741824-1-_;omega
 rw[hs];have hn:=Ts P N (Qr s P) b _ hr;dsimp only;cases h:Wz P N (Qr s P) b (⟨d,0,d.length,Qq.dp-1,Qq.nd-1,Qq.tx⟩:C)with
 |error e=>rw[h]at hn;exact hn
 |ok r=>obtain⟨w,c⟩:=r;simp
def QgR {P:PL}{N:Nat}{s d:List UInt8}(hd:d.length<=65536):(ZV P N s d Qq).2≠3:=by
 have h:=Qey (P:=P) (N:=N) (s:=s) (b:=QC 10 0 []) hd;unfold ZV;split
 ·exact h
 split<;>simp
section
variable {M N:Nat}(hM:65536<=M)(P:PL)(hP:P.ok M)(hc:ck P=0)(hN:65536<N)(s:List UInt8)(d:List UInt8)(hd:d.length<=65536)
include hM hP hc hN hd in
theorem VX:(ZV P N s d Qq).1.ok M:=by
 have h0:=VW (N:=N) hM P hP hc hN s (QC 10 0 []) d Qq hd ϊ ϊ (λ_ _=>Xq ψ) (XG rfl ϊ (Qnk _)) ϫ;have hz:(QC 0 0 []).ok M:=XG rfl ϊ (Qnk _);unfold ZV;split
 ·exact hz
 ·rename_i h;split
  ·exact hz
  ·obtain⟨_,w,_,w2,_,w4⟩:=h0 ϡ;rw[w4];exact Y5 (GR hP (Y6 hc)) N _ w w2
end
section
variable {bd:Int->V->List UInt8}{g:PG}
theorem G3 {f:R}:∀ {sl:List (Int×V)} {rs:List R},f∈Xn bd g sl rs->f∈rs\/∃s∈sl,f∈ZK bd g s
 | [],_,h=>.inl h
 |s :: sl,rs,h=>by
  rw[Xn,Qow,Qow]at h;rcases h with(h|h)|h
  ·exact .inl ((QpC _).mem h)
  ·exact .inr ⟨s,ό,h⟩
  ·rcases G3 h with h|⟨u,hu,h⟩
   ·exact .inl ((QpB _).mem h)
   ·exact .inr ⟨u,ē,h⟩
theorem Tt {k:Int}:∀ {rs:List R},(rs.Pairwise λa b=>a.num<=b.num)->∀f∈rs.dropWhile (λr=>decide (r.num<k)),k<=f.num
 | [],_,_,h=>by cases h
 |r :: rs,hp,f,h=>by
  obtain⟨h1,h2⟩:=QoN.1 hp;rw[List.dropWhile_cons]at h;split at h
  ·exact Tt h2 f h
  ·rename_i hr;have hr:¬r.num<k:=by simpa using hr
   rcases Qoz.1 h with rfl|h
   ·omega
   ·have:=h1 f h;omega
theorem Tu {k:Int}:∀ {rs:List R},∀f∈rs.takeWhile (λr=>decide (r.num<k)),f.num<k
 | [],_,h=>by cases h
 |r :: rs,f,h=>by
  rw[List.takeWhile_cons]at h;split at h
  ·rename_i hr;rcases Qoz.1 h with rfl|h
   ·simpa using hr
   ·exact Tu f h
  ·cases h
theorem BM:∀ {sl:List (Int×V)} {rs:List R},(sl.Pairwise λx y=>x.1<y.1)->(rs.Pairwise λa b=>a.num<=b.num)->(∀s∈sl,∀f∈ZK bd g s,f.num=s.1)->(Xn bd g sl rs).Pairwise λa b=>a.num<=b.num
 | [],_,_,hr,_=>hr
 |s :: sl,rs,hs,hr,hn=>by
  obtain⟨h1,h2⟩:=QoN.1 hs;have hd:(rs.dropWhile λr=>decide (r.num<s.1)).Pairwise λa b=>a.num<=b.num:=hr.sublist (QpB _)
  have ih:=BM h2 hd (λu hu=>hn u ē);have fU:∀f∈Xn bd g sl (rs.dropWhile λr=>decide (r.num<s.1)),s.1<=f.num:=by
   intro f hf;rcases G3 hf with h|⟨u,hu,h⟩
   ·exact Tt hr f h
   ·have:=hn u ē f h;have:=h1 u hu;omega
  rw[Xn,Qnw,QoO];refine⟨hr.sublist (QpC _),?_,λa ha b hb=>?_⟩
  ·rw[QoO];refine⟨?_,ih,λa ha b hb=>?_⟩
   ·rw[List.pairwise_iff_forall_sublist];intro a b dE;have ha:=hn s ό a (dE.mem ό);have hb:=hn s ό b (dE.mem ό);omega
   ·have:=hn s ό a ha;have:=fU b hb;omega
  ·have:=Tu a ha;rcases Qow.1 hb with h|h
   ·have:=hn s ό b h;omega
   ·have:=fU b h;omega
end
section
variable {α:Type}{lt:α->α->Bool}
theorem CS {a:α}:∀ {F:List α},(∀y∈F,lt y a=false)->Z3 lt a F=a :: F
 | [],_=>rfl
 |x :: F,h=>by
  show(bif lt x a then x :: Z3 lt a F else a :: x :: F)=_;rw[h x ό];rfl
theorem Vh (h:SW lt){a:α}(p:α->Bool):∀ {l:List α},Zt lt l->(Z3 lt a l).filter p=if p a=true then Z3 lt a (l.filter p)else l.filter p
 | [],_=>by
  show [a].filter p=_;rw[QoQ];rfl
 |x :: l,hs=>by
  obtain⟨h1,h2⟩:=QoN.1 hs;show(bif lt x a then x :: Z3 lt a l else a :: x :: l).filter p=_;cases hx:lt x a with
  |true=>
   rw[cond_true,QoQ,Vh h p h2,QoQ];by_cases hp:p a=true
   ·rw[Qnj hp,Qnj hp];by_cases hq:p x=true
    ·rw[Qnj hq,Qnj hq];show _=(bif lt x a then x :: Z3 lt a (l.filter p)else a :: x :: l.filter p);rw[hx];rfl
    ·rw[Qni hq,Qni hq]
   ·rw[Qni hp,Qni hp]
  |false=>
   have bB:∀y∈x :: l,lt y a=false:=by
    intro y hy;rcases Qoz.1 hy with rfl|hy
    ·exact hx
    ·exact h.nt _ _ _ (h1 y hy) hx
   rw[cond_false,QoQ (x:=a)];by_cases hp:p a=true
   ·rw[Qnj hp,Qnj hp,CS λy hy=>bB y (QoL.1 hy).1]
   ·rw[Qni hp,Qni hp]
theorem U7 (h:SW lt)(p:α->Bool):∀l:List α,(QJ lt l).filter p=QJ lt (l.filter p)
 | []=>rfl
 |a :: l=>by
  show(Z3 lt a (QJ lt l)).filter p=_;rw[Vh h p (X5 h l),U7 h p l,QoQ];split<;>rfl
theorem G4:∀ {l:List α},Zt lt l->QJ lt l=l
 | [],_=>rfl
 |a :: l,hs=>by
  obtain⟨h1,h2⟩:=QoN.1 hs;show Z3 lt a (QJ lt l)=_;rw[G4 h2,CS h1]
end
def LU {M N:Nat}{P:PL}(hM:65536<=M)(hP:P.ok M)(hk:ck P=0)(hN:65536<N){s:List UInt8}{L:List R}(hL:∀f∈L,Gf f)(hs:L.Pairwise λa b=>a.num<=b.num)(hd:(QI L).length<=65536)(h:(ZV P N s (QI L) Qq).2=0):(ZV P N s (QI L) Qq).1.raws.filter (JX (Qe P (Qr s P)))=L.filter (JX (Qe P (Qr s P))):=by
 have key:(ZR P N s (QC 10 0 []) (QI L) Qq).2=0->(ZR P N s (QC 10 0 []) (QI L) Qq).1.raws.filter (JX (Qe P (Qr s P)))=L.filter (JX (Qe P (Qr s P))):=by
  have ho:opn (QI L) Qq=(⟨QI L,0,(QI L).length,65536,1073741824,1073741824⟩,0):=by
   exact O0
  unfold ZR;rw[ho];rcases Z9 s P with hx|hx
  ·rw[Qnj ψ];intro h;cases h
  rw[Qni ψ,Qni (by simp[QC,V.kd]),Qni ό,Qni ϊ];have cU:=Ga (l:=Qq) hd ϊ ϊ;have dc:Z7 (⟨QI L,0,(QI L).length,Qq.dp-1,Qq.nd,Qq.tx⟩:C) 1=.ok ⟨QI L,0,(QI L).length,Qq.dp-1,Qq.nd-1,Qq.tx⟩:=by
   unfold Z7 C.spend Qq;rfl
  obtain⟨s1,_⟩:=Xm cU ψ dc;have bN:=s1.ci cU;have aZ:(⟨QI L,0,(QI L).length,Qq.dp-1,Qq.nd-1,Qq.tx⟩:C).rest=QI L:=(D0 _ _ _ _).2;have d9:CT (⟨QI L,0,(QI L).length,Qq.dp-1,Qq.nd-1,Qq.tx⟩:C):=⟨bN,by show(0:Int)<=1073741824;omega⟩;have fm:(65536:Int)<=(⟨QI L,0,(QI L).length,Qq.dp-1,Qq.nd-1,Qq.tx⟩:C).tx:=by show(65536:Int)<=1073741824;omega
  have aO:=bN.bd;rw[dc];dsimp only;generalize (⟨QI L,0,(QI L).length,Qq.dp-1,Qq.nd-1,Qq.tx⟩:C)=c at aZ d9 aO fm |-;intro h;obtain⟨n,rfl⟩:∃n,N=n+1:=⟨N-1,ψ⟩;cases hr:Wz P (n+1) (Qr s P) (QC 10 0 []) c with
  |error e=>
   exact In
  |ok r=>
   obtain⟨w,d⟩:=r;have hl:=CL (K:=1000000) hM (Qm8 _) hP (ZF hk) (Xf hk) (Wp hM (Qm8 _) hP (ZF hk) (Xf hk) n) hx L _ (QC 10 0 []) c ⟨d9,fm,ψ,ψ,Xq ψ,XG rfl ϊ (Qnk _),ϫ,aZ,hL⟩ w d hr;show(Zp w.raws).filter _=_;unfold Zp;rw[U7 DP,hl];have hf:(L.filter (JX (Qe P (Qr s P)))).Pairwise λa b=>a.num<=b.num:=hs.sublist List.filter_sublist
   exact G4 (hf.imp λ{a b} dE=>Ϣ)
 exact zX
def QgS (x:V):XF 0 x=Q2 x.kd x.bits x.text:=by
 unfold XF Q2 zr
 repeat' split
 all_goals rfl
def VY (bd:Int->V->List UInt8)(o:PO)(n:Int)(x:V):({ Q3 bd o 0 x with num:=n }:R)=Q3 bd o n x:=by
 unfold Q3;split
 ·rfl
 ·rfl
def QgT {α:Type}(l:List α)(F:α->R):(l.map λx=>(F x).av)=(l.map F).map R.av:=by rw[Qo6];rfl
def Uw {fr:Nat->Ob}{a:Nat}(h1:(fr a).isRow=false):∀s∈[a],(fr s).isRow=false:=by
 intro s hs;simp only[Qoz,Qpu,or_false]at hs;subst hs;exact h1
def Ee (n:Int)(f:R):Qi prog 340 [.int .i64 n,f.av] ({ f with num:=n }:R).av:=by
 refine wF func340 ?_;simp only[eK,f340,seval];simp only[R.av,eE,seval]
def Qbu {M:Nat}{v:V}(hv:v.ok M):Qi prog 341 [v.av] (XF 0 v).av:=by
 rw[QgS,Qd];exact QkZ v.kd v.bits (P8 hv) v.text _ _ _ _
section
variable {M:Nat}{P:PL}{m:PG->V->Int}{bd:Int->V->List UInt8}(o:PO)(ho:UO P o)
include ho in
theorem Qla (hb:∀(t:Int) (g:PG),P.progs[t.toNat]? = some g->0<=t->∀v:V,v.ok M->v.cnt<=1048576->m g v=0->Qi prog 80 [P.av,.int .i64 t,v.av] (.str (bd t v)))(x:V)(hx:x.ok M)(hc:x.cnt<=1048576)(he:QS m P o x=0) :
  Qi prog 342 [P.av,Qw o,x.av] (Q3 bd o 0 x).av:=by
 have e0:P.av=.agg [.list (P.progs.map Qm),.list (P.enums.map QH)]:=rfl;unfold Q3;by_cases hk:o.kind=10
 ·have b:(o.kind==10)=true:=Α
  rw[Qnj hk];unfold QS at he;rw[Qnj hk]at he;obtain⟨t0,t1⟩:=ho.tgt hk;obtain⟨g,hg⟩:∃g,P.progs[o.target.toNat]? = some g:=⟨P.progs[o.target.toNat]' ψ,Qnb ψ⟩;have hq:Qe P o.target=g:=by unfold Qe;rw[hg];rfl
  rw[hq]at he;have h2:=hb o.target g hg t0 x hx hc he;rw[e0,Qd]at h2;rw[Qd];refine wF func342 ?_;simp only[eK,f342,seval];simp only[e0,Qw,PO.cells,b,R.av,eE,seval];refine aC h2 ?_;simp only[eE,seval]
 ·have b:(o.kind==10)=false:=Α
  rw[Qni hk];have h1:=Qbu hx;generalize XF 0 x=z at h1 |-;rw[Qd]at h1;rw[Qd];simp only[R.av]at h1;refine wF func342 ?_;simp only[eK,f342,seval];simp only[e0,Qw,PO.cells,b,R.av,eE,seval];refine aC h1 ?_;simp only[eE,seval]
def Qlb (P:PL)(o:PO)(l:List V)(F:V->R)(k:Nat)(st:St):Prop :=
 ∃f fr i g,st=⟨f,[fr],[]⟩/\k=l.length-i/\i<=l.length/\f 3=.ptr 0 3 0/\f 4=.ptr 0 4 0/\f 7=.vec 0 7 g 0 i false/\f 11=.list (l.map V.av)/\f 12=.int .i64 (l.length:Nat)/\f 13=.int .i64 (i:Nat)/\fr 3=.cells [.list (P.progs.map Qm),.list (P.enums.map QH)]/\fr 4=.cells o.cells/\fr 7=.vec g 4 ((l.take i).map λx=>(F x).av)/\∀s∈[9],(fr s).isRow=false
def Qlc (P:PL)(o:PO)(l:List (V×V))(F:V×V->R)(k:Nat)(st:St):Prop :=
 ∃f fr i g,st=⟨f,[fr],[]⟩/\k=l.length-i/\i<=l.length/\f 3=.ptr 0 3 0/\f 4=.ptr 0 4 0/\f 7=.vec 0 7 g 0 i false/\f 12=.list (l.map V.pav)/\f 13=.int .i64 (l.length:Nat)/\f 14=.int .i64 (i:Nat)/\fr 3=.cells [.list (P.progs.map Qm),.list (P.enums.map QH)]/\fr 4=.cells o.cells/\fr 7=.vec g 4 ((l.take i).map λx=>(F x).av)/\∀s∈[9],(fr s).isRow=false
theorem Qld (aJ:∀x:V,x.ok M->x.cnt<=1048576->QS m P o x=0->Qi prog 342 [P.av,Qw o,x.av] (Q3 bd o 0 x).av)(v:V)(hv:v.ok M)(hc:v.cnt<=1048576)(hL:∀x∈v.list,QS m P o x=0) :
  Qi prog 289 [P.av,Qw o,v.av] (.list ((v.list.map (Q3 bd o o.num)).map R.av)):=by
 have e0:P.av=.agg [.list (P.progs.map Qm),.list (P.enums.map QH)]:=rfl;have hlen:=JH v;rw[Qd v];refine wF func289 ?_;simp only[eK,f289,seval];simp only[e0,Qw,PO.cells,eE,seval];refine ZW rfl rfl ?_;simp only[Qn6,eE,seval];refine Qj (Qlb P o v.list (Q3 bd o o.num)) _ ⟨_,_,0,_,rfl,rfl,Qnk _,ω,ω,ω,ω,ω,ω,ω,ω,ω,Uw rfl⟩ ?_;rintro _ st ⟨f0,bA,i,g,rfl,rfl,bg,ax,aS,cO,aU,aG,aT,bM,b_,cF,r9⟩;refine QR (a:=_) [9] r9 ?_;intro f fr hf hm lJ;have h3:f 3=.ptr 0 3 0:=Ϥ
 have h4:f 4=.ptr 0 4 0:=ϱ
 have h7:f 7=.vec 0 7 g 0 i false:=Τ
 have aI:f 11=.list (v.list.map V.av):=Ë
 have h12:f 12=.int .i64 (v.list.length:Nat):=Ì
 have h13:f 13=.int .i64 (i:Nat):=Û
 have m3:fr 3=.cells [.list (P.progs.map Qm),.list (P.enums.map QH)]:=Ϩ
 have dh:fr 4=.cells o.cells:=ϝ
 have mR:fr 7=.vec g 4 ((v.list.take i).map λx=>(Q3 bd o o.num x).av):=by rw[hm 7 ϊ,cF]<;>rfl
 have n9:=lJ 9 ϊ;clear hf hm lJ ax aS cO aU aG aT bM b_ cF r9;have m4:=dh;simp only[PO.cells]at m4;simp only[h12,h13,Qa,seval];by_cases aa:i<v.list.length
 ·obtain⟨x,hi⟩:∃x,v.list[i]? = some x:=⟨v.list[i],Qnb aa⟩;have hx:=Qnp hi;have hg:=HH hi;have e1:=Qv i _ aa ώ;have c1:=aJ x (hv.list x hx) (Qm9 (UX hx) hc) (hL x hx);have c2:=Ee o.num (Q3 bd o 0 x);rw[VY]at c2;have dA:((v.list.take i).map λx=>(Q3 bd o o.num x).av).length=i:=Ρ
  have eJ:(v.list.take (i+1)).map (λx=>(Q3 bd o o.num x).av)=(v.list.take i).map (λx=>(Q3 bd o o.num x).av)++[(Q3 bd o o.num x).av]:=ň
  generalize Q3 bd o 0 x=y at c1 c2;generalize Q3 bd o o.num x=z at c2 eJ;rw[e0,Qd x]at c1;simp only[Qw,PO.cells,R.av]at c1 c2;simp only[QE aa,Qs,QoF,Qg,hg,n9,h3,h4,h7,aI,h13,m3,m4,eE,seval];refine aC c1 ?_;refine aC c2 ?_;refine QV (l:=[z.av]) rfl rfl rfl rfl ?_;refine QP (site:=7) (g:=g) (n:=i) (xs:=(v.list.take i).map λx=>(Q3 bd o o.num x).av) (ys:=[z.av]) ω Β rfl dA.symm rfl (YN [z]) ϔ Ϙ ?_;simp only[h13,e1,Qa,seval];exact⟨v.list.length-(i+1),ψ,_,_,i+1,g+1,rfl,rfl,ψ,ϖ,Ϡ,ω,Ø,Γ,ω,ϲ,Î,Ò,Uw rfl⟩
 ·have e:i=v.list.length:=ψ
  exact G_
include ho in
theorem Qle (aO:∀(t:Int) (v:V),(0<=t/\t<(P.progs.length:Int))->m (Qe P t) v=0->(bd t v).length+70000<=70000*v.cnt)(aJ:∀x:V,x.ok M->x.cnt<=1048576->QS m P o x=0->Qi prog 342 [P.av,Qw o,x.av] (Q3 bd o 0 x).av)(v:V)(hv:v.ok M)(hc:v.cnt<=1048576)(hE:∀p∈v.pairs,p.1.one P o.key (-1)=0/\QS m P o p.2=0) :
  Qi prog 287 [P.av,Qw o,v.av] (.list ((v.pairs.map (ZQ bd o)).map R.av)):=by
 have e0:P.av=.agg [.list (P.progs.map Qm),.list (P.enums.map QH)]:=rfl;have hlen:=Kx v;rw[Qd v];refine wF func287 ?_;simp only[eK,f287,seval];simp only[e0,Qw,PO.cells,eE,seval];refine ZW rfl rfl ?_;simp only[Qn6,eE,seval];refine Qj (Qlc P o v.pairs (ZQ bd o)) _ ⟨_,_,0,_,rfl,rfl,Qnk _,ω,ω,ω,ω,ω,ω,ω,ω,ω,Uw rfl⟩ ?_;rintro _ st ⟨f0,bA,i,g,rfl,rfl,bg,ax,aS,cO,aG,aT,dm,bM,b_,cF,r9⟩;refine QR (a:=_) [9] r9 ?_;intro f fr hf hm lJ;have h3:f 3=.ptr 0 3 0:=Ϥ
 have h4:f 4=.ptr 0 4 0:=ϱ
 have h7:f 7=.vec 0 7 g 0 i false:=Τ
 have h12:f 12=.list (v.pairs.map V.pav):=Ì
 have h13:f 13=.int .i64 (v.pairs.length:Nat):=Û
 have eW:f 14=.int .i64 (i:Nat):=Ň
 have m3:fr 3=.cells [.list (P.progs.map Qm),.list (P.enums.map QH)]:=Ϩ
 have dh:fr 4=.cells o.cells:=ϝ
 have mR:fr 7=.vec g 4 ((v.pairs.take i).map λx=>(ZQ bd o x).av):=by rw[hm 7 ϊ,cF]<;>rfl
 have n9:=lJ 9 ϊ;clear hf hm lJ ax aS cO aG aT dm bM b_ cF r9;have m4:=dh;simp only[PO.cells]at m4;simp only[h13,eW,Qa,seval];by_cases aa:i<v.pairs.length
 ·obtain⟨x,hi⟩:∃x,v.pairs[i]? = some x:=⟨v.pairs[i],Qnb aa⟩;have hx:=Qnp hi;have hg:=KG hi;have e1:=Qv i _ aa ώ;have bN:=H2 hx;have rg:=S3 hx;have c0:=Qbu (hv.keys x hx);have c1:=Ee 1 (XF 0 x.1);rw[show({ XF 0 x.1 with num:=1 }:R)=XF 1 x.1 from rfl]at c1;have c2:=aJ x.2 (hv.vals x hx) (Qm9 bN hc) (hE x hx).2;have c3:=Ee 2 (Q3 bd o 0 x.2);rw[VY]at c3;have kE:=Ra (l:=[XF 1 x.1,Q3 bd o 2 x.2]) (λf hf=>by
   rcases Qoz.1 hf with rfl|hf
   ·exact Lp (hv.keys x hx) 1
   ·rw[Qpp]at hf;subst hf;exact P9 (hv.vals x hx) bd o 2) (by have:=S6 aO ho (hE x hx).1 (hE x hx).2;omega)
  have c4:=Qgk [XF 1 x.1,Q3 bd o 2 x.2] kE.1 kE.2.1 kE.2.2;have iJ:ZQ bd o x=⟨o.num,6,0,QI [XF 1 x.1,Q3 bd o 2 x.2]⟩:=rfl;have dA:((v.pairs.take i).map λx=>(ZQ bd o x).av).length=i:=Ρ
  have eJ:(v.pairs.take (i+1)).map (λx=>(ZQ bd o x).av)=(v.pairs.take i).map (λx=>(ZQ bd o x).av)++[(ZQ bd o x).av]:=ň
  rw[iJ]at eJ;clear kE iJ;generalize XF 0 x.1=y0 at c0 c1;generalize Q3 bd o 0 x.2=y2 at c2 c3;generalize XF 1 x.1=z1 at c1 c4 eJ;generalize Q3 bd o 2 x.2=z2 at c3 c4 eJ;generalize QI [z1,z2]=d at c4 eJ;rw[Qd x.1]at c0;rw[e0,Qd x.2]at c2;simp only[Qw,PO.cells,R.av,NO,QnJ,Qod]at c0 c1 c2 c3 c4;simp only[QE aa,Qs,QoF,Qg,hg,n9,h12,eW,eE,seval];refine aC c0 ?_;refine aC c1 ?_;simp only[h3,h4,m3,m4,eE,seval];refine aC c2 ?_;refine aC c3 ?_;refine QV (l:=[z1.av,z2.av]) rfl rfl rfl rfl ?_;simp only[h4,h7,m4,eE,seval];refine aC c4 ?_;simp only[eE,seval];refine QV (l:=[(R.mk o.num 6 0 d).av]) rfl rfl rfl rfl ?_;refine QP (site:=7) (g:=g) (n:=i) (xs:=(v.pairs.take i).map λx=>(ZQ bd o x).av) (ys:=[(R.mk o.num 6 0 d).av]) ω Β rfl dA.symm rfl (YN [_]) ϔ Ϙ ?_;simp only[eW,e1,Qa,seval];exact⟨v.pairs.length-(i+1),ψ,_,_,i+1,g+1,rfl,rfl,ψ,ϖ,Ϡ,ω,Γ,Į,ω,ϲ,Î,Ò,Uw rfl⟩
 ·have e:i=v.pairs.length:=ψ
  exact G_
end
section
variable {M:Nat}{P:PL}{m:PG->V->Int}{bd:Int->V->List UInt8}(o:PO)(ho:UO P o)
def PkI (o:PO)(l:List V)(F:Nat->List UInt8)(k:Nat)(st:St):Prop :=
 ∃f fr i g,st=⟨f,[fr],[]⟩/\k=l.length-i/\i<=l.length/\f 4=.ptr 0 4 0/\f 8=.int .i64 (wk o.kind)/\f 9=.vec 0 19 g 0 (F i).length false/\f 21=.list (l.map V.av)/\f 22=.int .i64 (l.length:Nat)/\f 23=.int .i64 (i:Nat)/\fr 4=.cells o.cells/\fr 19=.vec g 1 (Qy (F i))/\∀s∈[11],(fr s).isRow=false
theorem Qlf (hp:pk o.card o.kind=true)(v:V)(hv:v.ok M)(hc:v.cnt<=1048576) :
  Qi prog 288 [P.av,Qw o,v.av] (.list ([HJ o v.list].map R.av)):=by
 have e0:P.av=.agg [.list (P.progs.map Qm),.list (P.enums.map QH)]:=rfl;have hlen:=JH v;have cw:=Qfs o.num o.name o.alias 2 o.key o.kind o.target o.union;have lx:M3 2 o.kind=wk o.kind:=by
  have e:pk 2 o.kind=false:=by simp[pk]
  unfold M3;rw[e];rfl
 rw[lx]at cw;simp only[oc]at cw;have hcv:∃b:UInt8,IntKind.u8.wrap (wk o.kind)=(b.toNat:Int)/\UInt8.ofNat (wk o.kind).toNat=b:=by
  rcases Qc3 hp with h|h|h<;>rw[h]
  ·exact⟨0,rfl,rfl⟩
  ·exact⟨1,rfl,rfl⟩
  ·exact⟨2,rfl,rfl⟩
 obtain⟨b0,qF,fW⟩:=hcv;have iw:HJ o v.list=⟨o.num,5,0,b0 :: v.list.flatMap (WH (wk o.kind))⟩:=by unfold HJ;rw[fW]
 rw[iw];clear iw fW
 let F:Nat->List UInt8:=λi=>b0 :: (v.list.take i).flatMap (WH (wk o.kind))
 have v9:F 0=[b0]:=by simp[F]
 have uP:F v.list.length=b0 :: v.list.flatMap (WH (wk o.kind)):=by simp[F]
 have yo:∀i,i<=v.list.length->(F i).length<=1+10*i:=by
  intro i hi;have:=FG (wk o.kind) (v.list.take i);rw[Qn8]at this;simp only[F,Qnq];omega
 have xj:∀i x,v.list[i]? = some x->F (i+1)=F i++WH (wk o.kind) x:=by
  intro i x hx;simp only[F];rw[Qo4,hx,List.flatMap_append];simp
 rw[<-uP]
 clear_value F
 clear uP;have cE:∀s:List UInt8,(Qy s).length=s.length:=λs=>ĺ
 rw[Qd v];refine wF func288 ?_;simp only[eK,f288,seval];simp only[e0,Qw,PO.cells,eE,seval];refine aC cw ?_;simp only[qF,Qa,seval];refine Ch (y:=[.int .u8 (b0.toNat:Int)]) rfl rfl rfl rfl ?_;simp only[Qn6,eE,seval];refine Qj (PkI o v.list F) _ ⟨_,_,0,_,rfl,rfl,Qnk _,ω,ω,(by rw[v9];exact ω),ω,ω,ω,ω,(by rw[v9];exact ω),Uw rfl⟩ ?_;rintro _ st ⟨f0,bA,i,g,rfl,rfl,bg,aS,bF,de,gu,j',qy,b_,cF,ij⟩;refine QR (a:=_) [11] ij ?_;intro f fr hf hm eF;have h4:f 4=.ptr 0 4 0:=ϱ
 have h8:f 8=.int .i64 (wk o.kind):=Η
 have h9:f 9=.vec 0 19 g 0 (F i).length false:=Ê
 have gl:f 21=.list (v.list.map V.av):=by rw[hf,gu]<;>rfl
 have iq:f 22=.int .i64 (v.list.length:Nat):=by rw[hf,j']<;>rfl
 have re:f 23=.int .i64 (i:Nat):=by rw[hf,qy]<;>rfl
 have dh:fr 4=.cells o.cells:=ϝ
 have mR:fr 19=.vec g 1 (Qy (F i)):=by rw[hm 19 ϊ,cF]<;>rfl
 have fE:=eF 11 ϊ;clear hf hm eF aS bF de gu j' qy b_ cF ij;have m4:=dh;simp only[PO.cells]at m4;simp only[iq,re,Qa,seval];by_cases aa:i<v.list.length
 ·obtain⟨x,hi⟩:∃x,v.list[i]? = some x:=⟨v.list[i],Qnb aa⟩;have hx:=Qnp hi;have hg:=HH hi;have e1:=Qv i _ aa ώ;have c1:=Qbu (hv.list x hx);rw[QgS]at c1;have qY:(Q2 x.kd x.bits x.text).bits<18446744073709551616:=Y4 (P8 (hv.list x hx)) _;have hFi:=yo i ψ;have iM:=xj i x hi;have nY:=S7 (wk o.kind) x;have uE:WH (wk o.kind) x=F6 (wk o.kind) (Q2 x.kd x.bits x.text).bits:=rfl;rw[uE]at iM nY;clear uE;generalize Q2 x.kd x.bits x.text=z at c1 qY iM nY;rw[Qd x]at c1;simp only[R.av]at c1;simp only[QE aa,Qs,QoF,Qg,hg,fE,gl,re,eE,seval];refine aC c1 ?_;by_cases w2:wk o.kind=2
  ·have b2:(wk o.kind==2)=true:=by simp[w2]
   have tu:F6 (wk o.kind) z.bits=fx 8 z.bits:=by unfold F6;rw[Qnj w2]
   rw[tu]at iM nY;simp only[b2,h8,h9,Qa,seval];refine aC (Qgj z.bits) ?_;refine Ds (site:=19) (g:=g) (xs:=Qy (F i)) ω Β rfl (cE _).symm rfl ψ ?_;simp only[re,e1,eE,seval];exact⟨v.list.length-(i+1),ψ,_,_,i+1,g+1,rfl,rfl,ψ,Ϡ,ϣ,(by rw[iM,QnP];exact ω),ģ,Ń,ω,Î,(by rw[iM,show Qy (F i++fx 8 z.bits)=Qy (F i)++Qy (fx 8 z.bits)by simp[Qy]];exact ω),Uw rfl⟩
  ·have b2:(wk o.kind==2)=false:=by simp[w2]
   have tu:F6 (wk o.kind) z.bits=Vp.put z.bits:=by unfold F6;rw[Qni w2]
   rw[tu]at iM nY;simp only[b2,h8,h9,Qa,seval];refine aC (AO z.bits qY) ?_;refine Ds (site:=19) (g:=g) (xs:=Qy (F i)) ω Β rfl (cE _).symm rfl ψ ?_;simp only[re,e1,eE,seval];exact⟨v.list.length-(i+1),ψ,_,_,i+1,g+1,rfl,rfl,ψ,Ϡ,ϣ,(by rw[iM,QnP];exact ω),ģ,Ń,ω,Î,(by rw[iM,show Qy (F i++Vp.put z.bits)=Qy (F i)++Qy (Vp.put z.bits)by simp[Qy]];exact ω),Uw rfl⟩
 ·have e:i=v.list.length:=ψ
  subst e;have he:Xc [fr] (.vec 0 19 g 0 (F v.list.length).length false)=some (Qy (F v.list.length)):=Hd mR (cE _).symm;have dM:bytesOf (Qy (F v.list.length))=some (F v.list.length):=Uo _;simp only[QM aa,h4,h9,m4,he,dM,eE,seval];refine QV (l:=[(R.mk o.num 5 0 (F v.list.length)).av]) rfl rfl rfl rfl ?_;simp only[QnJ,Qod,Qa,seval]
def RE (o:PO):Nat:=if o.card=5 then 287 else if pk o.card o.kind=true then 288 else if o.card=4 then 289 else 290
theorem Qlg:Qi prog 221 [Qw o] (.fn (.func (RE o)) [] []):=by
 have cp:=Qax o.num o.name o.alias o.card o.key o.kind o.target o.union;simp only[oc]at cp;unfold RE;refine wF func221 ?_;simp only[eK,f221,seval];simp only[Qw,PO.cells,eE,seval];by_cases h5:o.card=5
 ·have b5:(o.card==5)=true:=í
  rw[Qnj h5];simp only[b5,Qa,seval]
 have b5:(o.card==5)=false:=í
 rw[Qni h5];simp only[b5,eE,seval];refine aC cp ?_;cases hp:pk o.card o.kind
 case true=>simp only[Qa,seval]
 simp only[eE,seval];by_cases h4:o.card=4
 ·have b4:(o.card==4)=true:=ã
  simp only[h4,Qa,seval]
 ·have b4:(o.card==4)=false:=ã
  simp only[b4,h4,Qa,seval]
theorem Qlh (aJ:∀x:V,x.ok M->x.cnt<=1048576->QS m P o x=0->Qi prog 342 [P.av,Qw o,x.av] (Q3 bd o 0 x).av)(v:V)(hv:v.ok M)(hc:v.cnt<=1048576)(he:QS m P o v=0) :
  Qi prog 290 [P.av,Qw o,v.av] (.list ([Q3 bd o o.num v].map R.av)):=by
 have e0:P.av=.agg [.list (P.progs.map Qm),.list (P.enums.map QH)]:=rfl;have c1:=aJ v hv hc he;have c2:=Ee o.num (Q3 bd o 0 v);rw[VY]at c2;generalize Q3 bd o 0 v=y at c1 c2;generalize Q3 bd o o.num v=z at c2 |-;rw[e0,Qd v]at c1;simp only[Qw,PO.cells,R.av]at c1 c2;rw[Qd v];refine wF func290 ?_;simp only[eK,f290,seval];simp only[e0,Qw,PO.cells,eE,seval];refine aC c1 ?_;refine aC c2 ?_;refine QV (l:=[z.av]) rfl rfl rfl rfl ?_;simp only[QnJ,Qod,Qa,seval]
include ho in
theorem QhI (aO:∀(t:Int) (v:V),(0<=t/\t<(P.progs.length:Int))->m (Qe P t) v=0->(bd t v).length+70000<=70000*v.cnt)(hb:∀(t:Int) (g:PG),P.progs[t.toNat]? = some g->0<=t->∀v:V,v.ok M->v.cnt<=1048576->m g v=0->Qi prog 80 [P.av,.int .i64 t,v.av] (.str (bd t v)))(v:V)(hv:v.ok M)(hc:v.cnt<=1048576)(hf:XC m P o v=0) :
  Qi prog (RE o) [P.av,Qw o,v.av] (.list ((Ws bd o v).map R.av)):=by
 have aJ:=λ(x:V) (hx:x.ok M) (iK:x.cnt<=1048576) (he:QS m P o x=0)=>Qla o ho hb x hx iK he
 unfold RE Ws;unfold XC at hf;by_cases h5:o.card=5
 ·rw[Qnj h5]at hf;rw[Qnj h5,Qnj h5];split at hf
  ·omega
  exact Qle o ho aO aJ v hv hc (KR.1 hf).1
 rw[Qni h5]at hf;rw[Qni h5,Qni h5];by_cases hp:pk o.card o.kind=true
 ·rw[Qnj hp,Qnj hp];exact Qlf o hp v hv hc
 rw[Qni hp,Qni hp];by_cases h4:o.card=4
 ·rw[Qnj h4]at hf;rw[Qnj h4,Qnj h4];split at hf
  ·omega
  exact Qld o aJ v hv hc (Km.1 hf)
 ·rw[Qni h4]at hf;rw[Qni h4,Qni h4];exact Qlh o aJ v hv hc hf
end
section
variable {M:Nat}{P:PL}{m:PG->V->Int}{bd:Int->V->List UInt8}
theorem Qli (hU:JD P)(hP:P.ok M)(aO:∀(t:Int) (v:V),(0<=t/\t<(P.progs.length:Int))->m (Qe P t) v=0->(bd t v).length+70000<=70000*v.cnt)(hb:∀(t:Int) (g:PG),P.progs[t.toNat]? = some g->0<=t->∀v:V,v.ok M->v.cnt<=1048576->m g v=0->Qi prog 80 [P.av,.int .i64 t,v.av] (.str (bd t v)))(t:Int)(g:PG)(ef:P.progs[t.toNat]? = some g)(t0:0<=t)(s:Int×V)(hv:s.2.ok M)(hc:s.2.cnt<=1048576)(o:PO)(ho:Xd g s.1=some o)(hf:XC m P o s.2=0) :
  Qi prog 132 [P.av,.int .i64 t,V.sav s] (.list ((ZK bd g s).map R.av)):=by
 have e0:P.av=.agg [.list (P.progs.map Qm),.list (P.enums.map QH)]:=rfl;have ep:=Qnp ef;obtain⟨cI,cH⟩:=ZX ho;have c1:=ID g (hP.progs g ep).len s.1;rw[Uz,ho]at c1;have c2:=Qlg o;have c3:=QhI o (hU g ep o cI) aO hb s.2 hv hc hf;have bH:ZK bd g s=Ws bd o s.2:=by unfold ZK;rw[ho]
 rw[bH];obtain⟨ti,dA⟩:=QoZ t0;subst dA;rw[QoF]at ef;have gV:(P.progs.map Qm)[ti]? = some (.agg g.cells):=by simp[ef,Qm]
 generalize Ws bd o s.2=z at c3 |-;generalize RE o=k at c2 c3;simp only[PG.cells]at gV;rw[e0,Qd s.2]at c3;simp only[Qm,Qw,PG.cells,PO.cells,Qon,Qo9]at c1 c2 c3;rw[Jo];refine wF func132 ?_;simp only[eK,f132,seval];simp only[e0,Qs,QoF,Qg,gV,eE,seval];refine aC c1 ?_;simp only[eE,seval];refine aC c2 ?_;simp only[eE,seval];refine Wn (fa:=[]) (fb:=[]) ω c3 rfl rfl rfl (.inl rfl) ?_;simp only[Qa,seval]
end
section
variable (bd:Int->V->List UInt8)(g:PG)
theorem Qez {s:Int×V}{sl:List (Int×V)}{r:R}{rs:List R}(h:r.num<s.1):Xn bd g (s :: sl) (r :: rs)=r :: Xn bd g (s :: sl) rs:=by
 have d:decide (r.num<s.1)=true:=Qpe h;rw[Xn,Xn,List.takeWhile_cons,List.dropWhile_cons,Qnj d,Qnj d];rfl
theorem Tv {s:Int×V}{sl:List (Int×V)}{rs:List R}(h:∀r l,rs=r :: l->¬r.num<s.1):Xn bd g (s :: sl) rs=ZK bd g s++Xn bd g sl rs:=by
 rw[Xn];cases rs with
 |nil=>rfl
 |cons r l=>
  have d:¬decide (r.num<s.1)=true:=λe=>h r l rfl (of_decide_eq_true e)
  rw[List.takeWhile_cons,List.dropWhile_cons,Qni d,Qni d];rfl
end
structure BoF (P:PL)(t:Nat)(S:List (Int×V))(f:Fr)(fr:Nat->Ob)(i g:Nat)(out rest:List R):Prop where
 f1:f 1=.int .i64 (t:Nat)
 f3:f 3=.ptr 0 3 0
 f8:f 8=.vec 0 8 g 0 out.length false
 f9:f 9=.list (rest.map R.av)
 f20:f 20=.list (S.map V.sav)
 f21:f 21=.int .i64 (S.length:Nat)
 f22:f 22=.int .i64 (i:Nat)
 m3:fr 3=.cells [.list (P.progs.map Qm),.list (P.enums.map QH)]
 mR:fr 8=.vec g 4 (out.map R.av)
section
variable {M:Nat}{P:PL}
theorem QhJ {cL:RC}(bd:Int->V->List UInt8)(g:PG)(t:Nat)(S:List (Int×V))(i:Nat)(s:Int×V)(sl:List (Int×V))(T:List R)(hT:T.length<=3000000000000)(f:Fr)(fr:Nat->Ob)(gn:Nat)(out rest:List R)(h:BoF P t S f fr i gn out rest)(aI:f 11=.ptr 0 11 0)(m11:fr 11=.cells [.int .i64 s.1,.int .i64 s.2.kd,.int .u64 (s.2.bits:Nat),.str s.2.text,.list (s.2.list.map V.av),.list (s.2.pairs.map V.pav),.list (s.2.slots.map V.sav),.list (s.2.raws.map R.av)])(hi:out++Xn bd g (s :: sl) rest=T)(Q:Exit->St->Prop)
  (q:∀f fr gn out rest,BoF P t S f fr i gn out rest->f 11=.ptr 0 11 0->fr 11=.cells [.int .i64 s.1,.int .i64 s.2.kd,.int .u64 (s.2.bits:Nat),.str s.2.text,.list (s.2.list.map V.av),.list (s.2.pairs.map V.pav),.list (s.2.slots.map V.sav),.list (s.2.raws.map R.av)]->out++(ZK bd g s++Xn bd g sl rest)=T->Q (.exit 2) (⟨f,[fr],[]⟩:St)) (bU:lp 80 1 f80=cL:=by simp only[eL,eK,f80,seval]) :
  Q1 prog (.loop cL) ⟨f,[fr],[]⟩ Q:=by
 subst bU;simp only[eL,eK,f80,seval]
 let I:Nat->St->Prop:=λk st=>∃f fr gn out rest,st=⟨f,[fr],[]⟩/\k=rest.length/\BoF P t S f fr i gn out rest/\f 11=.ptr 0 11 0/\fr 11=.cells [.int .i64 s.1,.int .i64 s.2.kd,.int .u64 (s.2.bits:Nat),.str s.2.text,.list (s.2.list.map V.av),.list (s.2.pairs.map V.pav),.list (s.2.slots.map V.sav),.list (s.2.raws.map R.av)]/\out++Xn bd g (s :: sl) rest=T
 refine Qj I _ ⟨f,fr,gn,out,rest,rfl,rfl,h,aI,m11,hi⟩ ?_;clear h aI m11 hi;rintro _ st ⟨f,fr,gn,out,rest,rfl,rfl,⟨h1,h3,h8,h9,bI,gl,iq,m3,mR⟩,aI,m11,hi⟩;simp only[Qa,seval];cases rest with
 |nil=>
  have d1:decide (((0:Nat):Int) > 0)=false:=rfl;simp only[Qod,Qn7,h9,Qa,seval];exact q _ _ gn out [] ⟨ϕ,ϖ,ϣ,Ε,ö,ģ,Ń,m3,mR⟩ Ø m11 (by rw[<-hi,Tv];intro r l e;cases e)
 |cons r l=>
  have d1:decide (((l.length+1:Nat):Int) > 0)=true:=Qpe ψ;have kJ:(l.map R.av).length=l.length:=Qn6 ..;by_cases hr:r.num<s.1
  ·have d2:decide (r.num<s.1)=true:=Qpe hr;rw[Qez bd g hr]at hi;have fI:out.length+1<=T.length:=by rw[<-hi];simp
   have ma:(1<=((r :: l).map R.av).length)=True:=eq_true ό;have qI:=YN (r :: l);have gY:List.take (((r :: l).map R.av).length-1) (List.drop 1 ((r :: l).map R.av))=l.map R.av:=by simp[QnL]
   simp only[QnJ,Qnq,kJ,d1,d2,R.av,Qoe,Qg,h8,h9,aI,m11,eE,seval];refine QV (l:=[r.av]) rfl rfl rfl rfl ?_;refine QP (site:=8) (g:=gn) (n:=out.length) (xs:=out.map R.av) (ys:=[r.av]) ω Β rfl ą rfl (YN [r]) ϔ Ϙ ?_;simp only[JR,Jz,Xz,QoS,ma,gY,qI,Qm8,or_true,and_self,Qnq,Qn7,h9,Qa,seval];exact⟨l.length,ό,_,_,gn+1,out++[r],l,rfl,rfl,⟨ϕ,ϖ,by rw[QnP];exact ω,ω,ö,ģ,Ń,ϲ,by rw[Qo3];exact ω⟩,Ø,(by exact m11),by rw[<-hi];simp⟩
  ·have d2:decide (r.num<s.1)=false:=Qo8 hr;simp only[QnJ,Qnq,kJ,d1,d2,R.av,Qoe,Qg,h9,aI,m11,eE,seval];exact q _ _ gn out (r :: l) ⟨ϕ,ϖ,ϣ,Ε,ö,ģ,Ń,m3,mR⟩ Ø m11 (by rw[<-hi,Tv];intro r' l' e;cases e;exact hr)
def BoI (P:PL)(bd:Int->V->List UInt8)(g:PG)(t:Nat)(S:List (Int×V))(T:List R)(k:Nat)(st:St):Prop :=
 ∃f fr i gn out rest,st=⟨f,[fr],[]⟩/\k=S.length-i/\i<=S.length/\BoF P t S f fr i gn out rest/\out++Xn bd g (S.drop i) rest=T/\∀s∈[11],(fr s).isRow=false
theorem t80 (hP:P.ok M)(hU:JD P)(hr:XR P)(nZ:A4 P)(hG:∀t,Gd (Qe P t)):∀(n:Nat) (t:Int) (g:PG),P.progs[t.toNat]? = some g->0<=t->∀v:V,v.ok M->v.cnt<=1048576->XK P n g v=0->Qi prog 80 [P.av,.int .i64 t,v.av] (.str (QW P n t v)):=by
 have e0:P.av=.agg [.list (P.progs.map Qm),.list (P.enums.map QH)]:=rfl;intro n
 induction n with
 |zero=>
  intro t g _ _ v _ _ h;exact(Un 0 _ _ h).elim
 |succ n ih=>
  intro t g ef t0 v hv hc h;have ep:=Qnp ef;have hq:Qe P t=g:=by unfold Qe;rw[ef];rfl
  have cn:=v24 hP hU hr nZ (n+1) t g ef t0 v hv hc (Un _ _ _ h);have hw:=Ln hU hr ep h;have iY:=Y5 hG (n+1) t v hv;have tC:=JQ hr (n+1) g (hr g ep) v;have cq:=KH hU hr (n+1) g ep v h;obtain⟨_,_,_,cX⟩:=Jy.1 cq;rw[hq]at iY;rw[QW,hq];generalize nrm P (n+1) g v=w at cn hw iY tC cX;have vU:w.cnt<=1048576:=ψ
  have cE:=λt v ht hm=>H3 hU hr n t v ht hm
  have d8:=BE (m:=XK P n) (bd:=QW P n) (g:=g) cE w.slots w.raws (λx hx=>by
   obtain⟨o,ho,hx,_⟩:=hw x hx;exact⟨o,ho,hU _ ep o (ZX ho).1,hx⟩) cX
  have fg:w.raws.length+Xk w.slots<=w.cnt:=by rw[Q8 w];omega
  have kE:=Ra (l:=Xn (QW P n) g w.slots w.raws) (S8 (QW P n) g w.slots w.raws (λs hs=>iY.slots s hs) (λf hf=>by
   have:=Nm (iY.raws f hf).bits;show f.bits<_;omega)) ψ
  have mh:=Qgk _ kE.1 kE.2.1 kE.2.2;have rr:=VS (Xn (QW P n) g w.slots w.raws);have uf:=λ(s:Int×V) (hs:s∈w.slots)=>(hw s hs).elim λo ho=>Qli hU hP cE ih t g ef t0 s (iY.slots s hs) (Qm9 (JG hs) vU) o ho.1 ho.2.1
  have ls:=Zg w;generalize wI:Xn (QW P n) g w.slots w.raws=T at d8 kE mh rr;have ml:T.length<=3000000000000:=ψ
  clear kE cX d8 hw cq;obtain⟨ti,dA⟩:=QoZ t0;subst dA;rw[e0,Qd v,Qd w]at cn;rw[Qd v];refine wF func80 ?_;simp only[eK,f80,seval];simp only[e0,eE,seval];refine aC cn ?_;simp only[eE,seval];refine ZW rfl rfl ?_;simp only[Qn6,eE,seval];refine Qj (BoI P (QW P n) g ti w.slots T) _ ⟨_,_,0,_,[],w.raws,rfl,rfl,Qnk _,⟨ω,ω,ω,ω,ω,ω,ω,ω,ω⟩,wI,Uw rfl⟩ ?_;rintro _ st ⟨f0,bA,i,gn,out,rest,rfl,rfl,bg,⟨am,ax,bF,de,du,gu,j',bM,cF⟩,lZ,ij⟩;refine QR (a:=_) [11] ij ?_;intro f fr hf hm eF;have h1:f 1=.int .i64 (ti:Nat):=À
  have h3:f 3=.ptr 0 3 0:=Ϥ
  have h8:f 8=.vec 0 8 gn 0 out.length false:=Η
  have h9:f 9=.list (rest.map R.av):=Ê
  have bI:f 20=.list (w.slots.map V.sav):=Ğ
  have gl:f 21=.int .i64 (w.slots.length:Nat):=by rw[hf,gu]<;>rfl
  have iq:f 22=.int .i64 (i:Nat):=by rw[hf,j']<;>rfl
  have m3:fr 3=.cells [.list (P.progs.map Qm),.list (P.enums.map QH)]:=Ϩ
  have mR:fr 8=.vec gn 4 (out.map R.av):=by rw[hm 8 ϊ,cF]<;>rfl
  have fE:=eF 11 ϊ;clear hf hm eF am ax bF de du gu j' bM cF ij;simp only[gl,iq,Qa,seval];by_cases aa:i<w.slots.length
  ·obtain⟨x,hi⟩:∃x,w.slots[i]? = some x:=⟨w.slots[i],Qnb aa⟩;have hx:=Qnp hi;have iN:=Wy hi;have e1:=Qv i _ aa ώ;have p7:w.slots.drop i=x :: w.slots.drop (i+1):=by rw[QnU aa,(Qna.1 hi).2]
   have c1:=uf x hx;rw[p7]at lZ;simp only[QE aa,Qs,QoF,Qg,iN,fE,bI,iq,eE,seval];refine QhJ (QW P n) g ti w.slots i x (w.slots.drop (i+1)) T ml _ _ gn out rest ⟨ϕ,ϖ,ϣ,Ε,ö,ģ,Ń,ϲ,Β⟩ ω ω lZ _ ?_;clear h1 h3 h8 h9 bI gl iq m3 mR fE lZ out rest gn f fr;rintro f fr gn out rest ⟨h1,h3,h8,h9,bI,gl,iq,m3,mR⟩ aI m11 lZ;rw[e0,Jo x]at c1;generalize ZK (QW P n) g x=z at c1 lZ;have fI:out.length+z.length<=T.length:=by rw[<-lZ];simp
   simp only[h1,h3,h8,aI,m3,m11,eE,seval];refine aC c1 ?_;refine QP (site:=8) (g:=gn) (n:=out.length) (xs:=out.map R.av) (ys:=z.map R.av) ω Β rfl ą rfl (YN z) (by simp only[Qn6,maxLen];omega) (by simp only[Qn6];omega) ?_;simp only[Qn6,iq,e1,Qa,seval];exact⟨w.slots.length-(i+1),ψ,_,_,i+1,gn+1,out++z,rest,rfl,rfl,ψ,⟨ϕ,ϖ,by rw[QnP];exact ω,Ε,ö,ģ,ω,ϲ,by rw[Qo3];exact ω⟩,by rw[<-lZ,Qnw],Uw (by simp only[m11,Qa,seval]<;>rfl)⟩
  ·have e:i=w.slots.length:=ψ
   subst e;have fi:out++rest=T:=by rw[<-lZ,List.drop_length];rfl
   have fI:out.length+rest.length=T.length:=by rw[<-fi];simp
   simp only[QM aa,h8,h9,Qa,seval];refine QP (site:=8) (g:=gn) (n:=out.length) (xs:=out.map R.av) (ys:=rest.map R.av) ω Β rfl ą ω (YN rest) (by simp only[Qn6,maxLen];omega) (by simp only[Qn6];omega) ?_;rw[<-fi]at mh;refine Zr mh ?_ rfl rfl (.inr rfl) ?_
   ·simp only[QnJ,Qod,AV.stillL,AV.still,Qn6,eE,seval];simp[NO,QnL]
   rw[<-fi];simp only[Qa,seval]
end
end Va
namespace Va
open Go Am Rc Bt Br Up
section
variable {M:Nat}
end
def QgU (P:PL):Prop:=(∀g∈P.progs,g.name.length<=300)/\∀e∈P.enums,e.name.length<=300
section
variable {M:Nat}(hM:M<=140737488351232)(P:PL)(hP:P.ok M)
end
open So Vp Cp
def Ub (P:PL)(s:List UInt8)(v:V):List UInt8×Int :=
 if Qr s P<0 then([],10)
 else if Zm P (Qr s P) v≠0 then([],Zm P (Qr s P) v)
 else if (QW P 16 (Qr s P) v).length > 65536 then([],3)
 else(QW P 16 (Qr s P) v,0)
def Jr {P:PL}{t:Int}{v:V}(h:Zm P t v=0):(0<=t/\t<(P.progs.length:Int))/\XK P 16 (Qe P t) v=0:=by
 unfold Zm at h;split at h
 ·omega
 rename_i ht;split at h
 ·rename_i hm;exact⟨ψ,hm⟩
 ·rename_i hm;exact absurd h hm
def Yv {P:PL}{t:Int}(ht:0<=t/\t<(P.progs.length:Int)):P.progs[t.toNat]? = some (Qe P t):=by
 unfold Qe;rw[Qnb (by omega:t.toNat<P.progs.length)];rfl
section
variable {M:Nat}(hM:M<=140737488351232)(P:PL)(hP:P.ok M)(hS:QgU P)
include hM hP hS in
theorem t76:Qi prog 76 [P.av] (.int .i64 (ck P)) :=
 Qj3 P hP hM (λg h=>Qm9 (hS.1 g h) ϊ) (λg h=>Qm9 (hS.2 g h) ϊ)
include hM hP hS in
theorem t79 (t:Int)(ht:0<=t/\t<(P.progs.length:Int))(hk:ck P=0):Qi prog 79 [P.av,.int .i64 t] (.bool true):=by
 have e0:P.av=.agg [.list (P.progs.map Qm),.list (P.enums.map QH)]:=rfl;have d1:decide (t>=0)=true:=Qpe ht.1;have d2:decide (t<(P.progs.length:Int))=true:=Qpe ht.2;have cc:=t76 hM P hP hS;have z0:((0:Int)==0)=true:=rfl;rw[hk,e0]at cc;refine wF func79 ?_;simp only[eK,f79,seval];simp only[e0,d1,d2,Qn6,eE,seval];refine aC cc ?_;simp only[z0,Qa,seval]
include hP in
theorem QgW (hk:ck P=0)(t:Int)(v:V)(hv:v.ok M)(hc:v.cnt<=1048576)(ht:0<=t/\t<(P.progs.length:Int))(hm:XK P 16 (Qe P t) v=0):Qi prog 80 [P.av,.int .i64 t,v.av] (.str (QW P 16 t v)) :=
 t80 hP (ZF hk) (Xf hk) (BD hk) (GR hP (Y6 hk)) 16 t (Qe P t) (Yv ht) ht.1 v hv hc hm
include hM hP hS in
theorem t42 (hk:ck P=0)(t:Int)(v:V)(hv:v.ok M)(hc:v.cnt<=1048576)(hf:Zm P t v=0):Qi prog 42 [P.av,.int .i64 t,v.av] (.str (QW P 16 t v)):=by
 have e0:P.av=.agg [.list (P.progs.map Qm),.list (P.enums.map QH)]:=rfl;obtain⟨ht,hm⟩:=Jr hf;have cu:=t79 hM P hP hS t ht hk;have cb:=QgW P hP hk t v hv hc ht hm;rw[e0]at cu;rw[e0,Qd v]at cb;rw[Qd v];refine wF func42 ?_;simp only[eK,f42,seval];simp only[e0,eE,seval];refine aC cu ?_;simp only[eE,seval];refine aC cb ?_;simp only[Qa,seval]
end
def QeA {l:List PG}(h:JM l (X3 PG.name)=true):l.Pairwise λa b=>Op.bytesLess a.name b.name=true:=by
 have hs:∀i (hi:i+1<l.length),Op.bytesLess l[i].name l[i+1].name=true:=by
  intro i hi;unfold JM at h;have:=Q7.1 h (i+1) hi;rw[Yh (Qnb (by omega:i<l.length)) (Qnb hi)]at this;unfold X3 at this
  simpa using this
 rw[Qpr];intro i j hi hj d_;obtain⟨d,rfl⟩:∃d,j=i+1+d:=⟨j-(i+1),ψ⟩;clear d_
 induction d with
 |zero=>exact hs i ψ
 |succ d ih=>exact GI (ih ψ) (hs (i+1+d) ψ)
def RF {P:PL}(hk:ck P=0){t:Int}(ht:0<=t/\t<(P.progs.length:Int)):Qr (Qe P t).name P=t:=by
 have ho:=(BC hk).1;unfold DA at ho;simp only[Qnz]at ho;have hp:=QeA ho.1.1.1;rw[Qpr]at hp;have hg:=Yv ht;obtain⟨hl,fP⟩:=Qna.1 hg;unfold Qr;rcases YH (λg:PG=>g.name==(Qe P t).name) P.progs 0 with⟨_,hn⟩|⟨k,o,h,h1,h2⟩
 ·have:=Qpb.1 hn (Qe P t) (Qnp hg);simp at this
 ·have hn:o.name=(Qe P t).name:=by simpa using Qpd h2
  obtain⟨sL,lh⟩:=Qna.1 h1;have e:k=t.toNat:=by
   rcases Nat.lt_trichotomy k t.toNat with c|c|c
   ·have:=hp k t.toNat sL hl c;rw[lh,fP,hn,Hr]at this;cases this
   ·exact c
   ·have:=hp t.toNat k hl sL c;rw[lh,fP,hn,Hr]at this;cases this
  rw[h];omega
section
variable {P:PL}(hk:ck P=0){t:Int}{v:V}(hf:Zm P t v=0)(hc:v.cnt<=4096)
include hk hf hc in
theorem QeB:Zm P t (nrm P 16 (Qe P t) v)=0/\QW P 16 t (nrm P 16 (Qe P t) v)=QW P 16 t v/\Ub P (Qe P t).name (nrm P 16 (Qe P t) v)=Ub P (Qe P t).name v/\(nrm P 16 (Qe P t) v).cnt<=4096:=by
 obtain⟨ht,hm⟩:=Jr hf;have hg:Qe P t∈P.progs:=Qnp (Yv ht);have h1:=KH (ZF hk) (Xf hk) 16 _ hg v hm;have h2:=Wh (ZF hk) (Xf hk) 16 _ hg v hm;have h3:=JQ (Xf hk) 16 _ (Zf (Xf hk) t) v;generalize hx:nrm P 16 (Qe P t) v=x at h1 h2 h3 |-;have u9:Zm P t x=0:=by
  unfold Zm;rw[Qni ψ,Qnj h1,Qni ϐ]
 have hb:QW P 16 t x=QW P 16 t v:=by
  rw[QW,QW,h2,hx]
 refine⟨u9,hb,?_,ψ⟩;unfold Ub;rw[RF hk ht,u9,hf,hb]
end
def VZ {P:PL}(h:ck P=0):QgU P:=by
 unfold ck at h;split at h
 ·omega
 split at h
 ·omega
 rename_i hn;have hn:ND P=true:=by simpa using hn
 unfold ND at hn;simp only[Qnz,Qno]at hn;refine⟨λg hg=>?_,λe he=>?_⟩
 ·have:=hn.1 g hg;unfold WQ Yj at this;simp only[Qnz,Qnf]at this;omega
 ·have:=hn.2 e he;unfold HC Yj at this;simp only[Qnz,Qnf]at this;omega
def QeC {P:PL}{s:List UInt8}{v:V}(h:(Ub P s v).2=0):(0<=Qr s P/\Qr s P<(P.progs.length:Int))/\Zm P (Qr s P) v=0/\(Ub P s v).1=QW P 16 (Qr s P) v/\(QW P 16 (Qr s P) v).length<=65536:=by
 unfold Ub at h |-;rcases Z9 s P with hx|hx
 ·rw[Qnj ψ]at h;cases h
 rw[Qni ψ]at h |-;by_cases hf:Zm P (Qr s P) v=0
 case neg=>
  rw[Qnj hf]at h;exact absurd h hf
 rw[Qni (λg=>g hf)]at h |-;split at h
 ·cases h
 ·rename_i h1;rw[Qni h1];exact⟨hx,hf,rfl,ψ⟩
def RG {bd:Int->V->List UInt8}{gw g:PG}:∀sl:List (Int×V),(∀s∈sl,∀f∈ZK bd gw s,f.num=s.1)->(Xn bd gw sl []).filter (JX g)=(sl.filter λs=>(Xd g s.1).isNone).flatMap (ZK bd gw)
 | [],_=>rfl
 |s :: sl,h=>by
  have ih:=RG (g:=g) sl λu hu=>h u ē
  rw[Xn];simp only[List.takeWhile_nil,List.dropWhile_nil,Qny];rw[QoP,ih,QoQ];have hs:=h s ό;cases ho:Xd g s.1 with
  |none=>
   rw[QoR.2 λf hf=>by unfold JX;rw[hs f hf,ho];rfl];simp
  |some o=>
   rw[QpE.2 λf hf=>by unfold JX;rw[hs f hf,ho];simp];simp
def keeps {M N:Nat}{W P:PL}(hM:65536<=M)(hW:W.ok M)(hP:P.ok M)(hw:ck W=0)(hk:ck P=0)(hN:65536<N){s:List UInt8}{t:Int}{v:V}(hv:v.ok M)(hc:v.cnt<=300)(hf:Zm W t v=0)(hr:v.raws=[])(hd:(QW W 16 t v).length<=65536)(h:(ZV P N s (QW W 16 t v) Qq).2=0) :
  (ZV P N s (QW W 16 t v) Qq).1.raws.filter (JX (Qe P (Qr s P)))=((nrm W 16 (Qe W t) v).slots.filter λs'=>(Xd (Qe P (Qr s P)) s'.1).isNone).flatMap (ZK (QW W 15) (Qe W t)):=by
 obtain⟨ht,hm⟩:=Jr hf;have hg:Qe W t∈W.progs:=Qnp (Yv ht);have hU:=ZF hw;have aH:=Xf hw;have h1:=KH hU aH 16 _ hg v hm;have h2:=Wh hU aH 16 _ hg v hm;have h3:=JQ aH 16 _ (Zf aH t) v;have h4:=Y5 (GR hW (Y6 hw)) 16 t v hv;have h5:=GS aH (n:=15) hg v;have h6:(nrm W 16 (Qe W t) v).raws=[]:=by
  show Zp v.raws=[];rw[hr];rfl
 have hb:QW W 16 t v=QI (Xn (QW W 15) (Qe W t) (nrm W 16 (Qe W t) v).slots []):=by
  rw[QW,h6]
 generalize nrm W 16 (Qe W t) v=y at h1 h2 h3 h4 h5 h6 hb |-;have gK:=Ma (M:=M) hU aH hg h1 h4 ψ h2;have mX:=FI hU aH (FH hw) hg h1 h4 gK;rw[h6]at mX;have aK:∀s'∈y.slots,∀f∈ZK (QW W 15) (Qe W t) s',f.num=s'.1:=λs' dz=>VT _ (gK s' dz)
 rw[hb]at h hd |-;rw[LU hM hP hk hN mX (BM h5 .nil aK) hd h];exact RG _ aK
end Va
namespace Va
open Go Am Rc Bt Br Up So
def Gb:List R->Nat
 | []=>0
 |f :: l=>f.data.length+Gb l
mutual
def _root_.Go.Proofs.YtmlohboeoeoamaaGreatDoor.Br.V.sz:V->Nat
 |.mk _ _ t l p s r=>t.length+Ug l+U8 p+Hy s+Gb r
def Ug:List V->Nat
 | []=>0
 |x :: l=>x.sz+Ug l
def U8:List (V×V)->Nat
 | []=>0
 |(a,b) :: l=>a.sz+b.sz+U8 l
def Hy:List (Int×V)->Nat
 | []=>0
 |(_,a) :: l=>a.sz+Hy l
end
def Ef:∀v:V,v.sz=v.text.length+Ug v.list+U8 v.pairs+Hy v.slots+Gb v.raws
 |.mk k b t l p s r=>by rw[V.sz];rfl
def Qbv {l:List R}{i:Nat}{x:R}(h:l[i]? = some x):Gb (l.take (i+1))=Gb (l.take i)+x.data.length:=by
 induction l generalizing i with
 |nil=>simp at h
 |cons y l ih=>
  cases i with
  |zero=>simp at h;subst h;simp[Gb]
  |succ i=>
   simp only[QnK,Gb];exact O4
def Qbw {l:List V}{i:Nat}{x:V}(h:l[i]? = some x):Ug (l.take (i+1))=Ug (l.take i)+x.sz:=by
 induction l generalizing i with
 |nil=>simp at h
 |cons y l ih=>
  cases i with
  |zero=>simp at h;subst h;simp[Ug]
  |succ i=>
   simp only[QnK,Ug];exact O4
def Qbx {l:List (V×V)}{i:Nat}{x:V×V}(h:l[i]? = some x):U8 (l.take (i+1))=U8 (l.take i)+x.1.sz+x.2.sz:=by
 induction l generalizing i with
 |nil=>simp at h
 |cons y l ih=>
  obtain⟨y1,y2⟩:=y;cases i with
  |zero=>simp at h;subst h;simp[U8]
  |succ i=>
   simp only[QnK,U8];exact O4
def Qby {l:List (Int×V)}{i:Nat}{x:Int×V}(h:l[i]? = some x):Hy (l.take (i+1))=Hy (l.take i)+x.2.sz:=by
 induction l generalizing i with
 |nil=>simp at h
 |cons y l ih=>
  obtain⟨y1,y2⟩:=y;cases i with
  |zero=>simp at h;subst h;simp[Hy]
  |succ i=>
   simp only[QnK,Hy];exact O4
section
variable {P:PL}{m:PG->V->Int}{bd:Int->V->List UInt8}
variable (aO:∀(t:Int) (v:V),(0<=t/\t<(P.progs.length:Int))->m (Qe P t) v=0->(bd t v).length+40<=40*v.cnt+v.sz)
include aO
end
def own (k:Int)(b:Nat)(t:List UInt8):Nat:=max 3 (body (XF 1 (QC k b t))).length
def JK:List R->Nat
 | []=>0
 |f :: l=>(3+(body f).length-9)+JK l
mutual
def _root_.Go.Proofs.YtmlohboeoeoamaaGreatDoor.Br.V.nu:V->Nat
 |.mk k b t l p s r=>own k b t+(bif l.isEmpty then 0 else 1)+J5 l+Ja p+Jg s+JK r
def J5:List V->Nat
 | []=>0
 |x :: l=>(3+x.nu-9)+J5 l
def Ja:List (V×V)->Nat
 | []=>0
 |(a,b) :: l=>(8+a.nu+b.nu-18)+Ja l
def Jg:List (Int×V)->Nat
 | []=>0
 |(_,a) :: l=>(3+a.nu-9)+Jg l
end
def WK (l:List V):Nat:=(bif l.isEmpty then 0 else 1)+J5 l
def ZM:∀v:V,v.nu=own v.kd v.bits v.text+WK v.list+Ja v.pairs+Jg v.slots+JK v.raws
 |.mk k b t l p s r=>by rw[V.nu];unfold WK;simp only[V.kd,V.bits,V.text,V.list,V.pairs,V.slots,V.raws];omega
def Tw (a b:List R):JK (a++b)=JK a+JK b:=by
 induction a with
 |nil=>simp[JK]
 |cons x a ih=>simp only[Qnx,JK,ih];omega
def QeD (a b:List V):J5 (a++b)=J5 a+J5 b:=by
 induction a with
 |nil=>simp[J5]
 |cons x a ih=>simp only[Qnx,J5,ih];omega
def QeE (a b:List (V×V)):Ja (a++b)=Ja a+Ja b:=by
 induction a with
 |nil=>simp[Ja]
 |cons x a ih=>obtain⟨p,q⟩:=x;simp only[Qnx,Ja,ih];omega
def Tx (a b:List (Int×V)):Jg (a++b)=Jg a+Jg b:=by
 induction a with
 |nil=>simp[Jg]
 |cons x a ih=>obtain⟨n,v⟩:=x;simp only[Qnx,Jg,ih];omega
def Qbz {a b:List R}(h:a.Perm b):JK a=JK b:=by
 induction h with
 |nil=>rfl
 |cons x _ ih=>simp only[JK,ih]
 |swap x y l=>simp only[JK];omega
 |trans _ _ h1 h2=>rw[h1,h2]
def RH {a b:List (V×V)}(h:a.Perm b):Ja a=Ja b:=by
 induction h with
 |nil=>rfl
 |cons x _ ih=>obtain⟨p,q⟩:=x;simp only[Ja,ih]
 |swap x y l=>obtain⟨p,q⟩:=x;obtain⟨r,s⟩:=y;simp only[Ja];omega
 |trans _ _ h1 h2=>rw[h1,h2]
def LV (p:R->Bool)(l:List R):JK (l.takeWhile p)+JK (l.dropWhile p)=JK l:=by
 rw[<-Tw,QpD]
def QbA (n:Int)(x:V):(body (XF n x)).length=(body (XF 1 (QC x.kd x.bits x.text))).length:=rfl
def TA (k:Int)(b:Nat)(t:List UInt8):Q2 k (Xw k b) t=Q2 k b t:=by
 unfold Q2 Xw;by_cases h:k=6/\US b=0
 ·rw[Qnj h];have hk:=h.1;subst hk;have:US 9221120237041090560=0:=ϊ
  simp[this]
 ·simp only[Qni h]
def QeF (k:Int)(b:Nat)(t:List UInt8):own k (Xw k b) t=own k b t:=by
 unfold own XF QC;simp only[V.kd,V.bits,V.text,TA]
def LW (v:V):v.nsc.nu=v.nu:=by
 rw[ZM,ZM v];show own v.kd (Xw v.kd v.bits) v.text+_+_+_+_=_;rw[QeF];rfl
def TB {f:V->V}(h:∀v,(f v).nu<=v.nu):∀l:List V,J5 (l.map f)<=J5 l
 | []=>Qm8 _
 |x :: l=>by
  have:=h x;have:=TB h l;simp only[QnJ,J5];omega
def QeG {f:V->V}(h:∀v,(f v).nu<=v.nu)(l:List V):WK (l.map f)<=WK l:=by
 have:=TB h l;unfold WK;cases l with
 |nil=>exact Qm8 _
 |cons x l=>exact Nat.add_le_add_left this _
def TC {f g:V->V}(h:∀v,(f v).nu<=v.nu)(k:∀v,(g v).nu<=v.nu):∀l:List (V×V),Ja (l.map λp=>(f p.1,g p.2))<=Ja l
 | []=>Qm8 _
 |(a,b) :: l=>by
  have:=h a;have:=k b;have:=TC h k l;simp only[QnJ,Ja];omega
def WL (k:Int)(b:Nat)(t:List UInt8):3<=own k b t:=Nat.le_max_left _ _
def TD {k:Int}(b:Nat)(t:List UInt8)(h:¬(1<=k/\k<=9)):Q2 k b t=zr:=by
 unfold Q2;rw[Qni ψ,Qni ψ,Qni ψ,Qni ψ]
def Wq {k:Int}(b:Nat)(t:List UInt8)(h:10<=k):own k b t=3:=by
 show max 3 (body { Q2 k b t with num:=1 }).length=3;rw[TD b t ψ];rfl
def Mc (v:V):3<=v.nu:=by
 have:=WL v.kd v.bits v.text;rw[ZM];omega
def RI {nm:PG->V->V}{P:PL}(h:∀t v,(nm (Qe P t) v).nu<=v.nu)(o:PO)(v:V):(Xv nm P o v).nu<=v.nu:=by
 unfold Xv;split
 ·exact h _ _
 ·rw[LW];exact Qm8 _
def QgX {nm:PG->V->V}{P:PL}(h:∀t v,(nm (Qe P t) v).nu<=v.nu)(o:PO)(v:V):(XT nm P o v).nu<=v.nu:=by
 unfold XT;split
 ·have:=QeG (RI (P:=P) h o) v.list;have h3:=WL v.kd v.bits v.text;rw[ZM,ZM v];simp only[V.kd,V.bits,V.text,V.raws,V.list,V.pairs,V.slots,Wq (k:=11) 0 [] ϊ,Ja,Jg,JK];simp only[V.list]at this;simp only[V.kd,V.bits,V.text]at h3;omega
 ·split
  ·have h1:=TC (f:=V.nsc) (g:=Xv nm P o) (λv=>by rw[LW];exact Qm8 _) (RI (P:=P) h o) (QY o.key v.pairs);have h2:Ja (QY o.key v.pairs)=Ja v.pairs:=RH (QN _);have h3:=WL v.kd v.bits v.text;have e:WK []=0:=rfl;rw[ZM,ZM v];simp only[V.kd,V.bits,V.text,V.raws,V.list,V.pairs,V.slots,Wq (k:=12) 0 [] ϊ,Jg,JK];simp only[V.pairs]at h1 h2;simp only[V.kd,V.bits,V.text]at h3;omega
  ·exact RI h o v
def yS (sl:List (Int×V))(n:Int):Nat:=Jg (sl.filter λs=>s.1==n)
def QgY (ops:List PO)(hd:ops.Pairwise λa b=>a.num<b.num)(sl:List (Int×V)):(ops.map λo=>yS sl o.num).sum<=Jg sl:=by
 induction sl with
 |nil=>
  have:∀l:List PO,(l.map λo=>yS [] o.num).sum=0:=by
   intro l
   induction l with
   |nil=>rfl
   |cons x l ih=>rw[QnJ,Qps,ih];rfl
  rw[this];exact Qnk _
 |cons s sl ih=>
  obtain⟨n,v⟩:=s;have h1:=IV ops hd n (3+v.nu-9);have h2:∀l:List PO,(l.map λo=>yS ((n,v) :: sl) o.num).sum=(l.map λo=>if n=o.num then 3+v.nu-9 else 0).sum+(l.map λo=>yS sl o.num).sum:=by
   intro l
   induction l with
   |nil=>rfl
   |cons o l ih=>
    simp only[QnJ,Qps,ih];have:yS ((n,v) :: sl) o.num=(if n=o.num then 3+v.nu-9 else 0)+yS sl o.num:=by
     unfold yS;by_cases e:n=o.num
     ·rw[List.filter_cons_of_pos Μ,Qnj e,Jg]
     ·rw[Qpt Μ,Qni e,QnA]
    omega
  rw[h2,Jg];omega
def QeH {sl:List (Int×V)}{n:Int}{s:Int×V}(h:sl.find? (λs=>s.1==n)=some s):3+s.2.nu-9<=yS sl n:=by
 unfold yS
 induction sl with
 |nil=>cases h
 |cons x sl ih=>
  obtain⟨m,v⟩:=x;rw[Qo7]at h;by_cases e:m=n
  ·have hb:((m,v).1==n)=true:=Μ
   rw[hb]at h;cases h;rw[List.filter_cons_of_pos Μ,Jg];exact Nat.le_add_right _ _
  ·exact ON
def QeI {nm:PG->V->V}{P:PL}(h':∀t v,(nm (Qe P t) v).nu<=v.nu)(g:PG)(hd:g.ops.Pairwise λa b=>a.num<b.num)(v:V):(YL nm P g v).nu<=v.nu:=by
 have h1:Jg (g.ops.flatMap (Xb nm P v.slots))<=(g.ops.map λo=>yS v.slots o.num).sum:=by
  clear hd
  induction g.ops with
  |nil=>exact Qm8 _
  |cons o l ih=>
   have:Jg (Xb nm P v.slots o)<=yS v.slots o.num:=by
    unfold Xb;cases hf:v.slots.find? (λs=>s.1==o.num)with
    |none=>exact Qnk _
    |some s=>
     have a:=QeH hf;have b:=QgX (P:=P) h' o s.2;dsimp only;split
     ·simp only[Jg];omega
     ·exact Qnk _
   rw[QoH,Tx,QnJ,Qps];omega
 have h2:=QgY g.ops hd v.slots;have h3:JK (Zp v.raws)=JK v.raws:=Qbz (QN _);have e:WK []=0:=rfl;have h4:=WL v.kd v.bits v.text;rw[ZM,ZM v];simp only[YL,V.kd,V.bits,Wq (k:=10) 0 [] ϊ,V.text,V.raws,V.list,V.pairs,V.slots,Ja,e]at *;omega
def RJ {P:PL}(h:XR P):∀(n:Nat) (g:PG),(g.ops.Pairwise λa b=>a.num<b.num)->∀v:V,(nrm P n g v).nu<=v.nu
 |0,_,_,_=>Qm8 _
 |n+1,g,hg,v=>QeI (λt v=>RJ h n _ (Zf h t) v) g hg v
def Eg {u:Nat}(h:u<2097152):(Vp.put u).length<=3:=by
 unfold Vp.put;rw[Vp.Cn 2 9 u ψ ϊ];exact(Vp.Bq 2 u).2
def Qlj {u:Nat}(h:u<128):(Vp.put u).length=1:=by
 unfold Vp.put;rw[Vp.KD _ _ h];rfl
def YA (l:List R):Nat:=(l.map λf=>3+(body f).length).sum
def TF (a b:List R):YA (a++b)=YA a+YA b:=by
 unfold YA;rw[Qo3,List.sum_append]
def TG (f:R):YA [f]=3+(body f).length:=by simp[YA]
def QhK (f:R):(ZP f).length<=3+(body f).length:=by
 unfold ZP;split
 ·rename_i hv;unfold valid at hv;simp only[Qnz,Qng]at hv;have h0:=hv.1;rw[QnP];unfold Jd at h0 |-;split
  ·exact Nat.add_le_add_right (Qnk _) _
  ·rename_i h;exact Nat.add_le_add_right (Eg ψ) _
 ·exact Qnk _
def LX:∀l:List R,(QI l).length<=YA l
 | []=>Qm8 _
 |f :: l=>by
  have h1:=QhK f;have h2:=LX l;unfold QI YA at h2 |-;rw[QoH,QnP,QnJ,Qps];omega
def Qdb {f:R}(h:f.num<16):(ZP f).length<=1+(body f).length:=by
 unfold ZP;split
 ·rename_i hv;unfold valid at hv;simp only[Qnz,Qng]at hv;have h0:=hv.1;rw[QnP];unfold Jd at h0 |-;split
  ·exact Nat.add_le_add_right (Qnk _) _
  ·rename_i h;exact Nat.add_le_add_right (QnV (Qlj ψ)) _
 ·exact Qnk _
def Fa {P:PL}{k tg:Int}{v:V}(h:v.one P k tg=0)(n:Int):(body (XF n v)).length<=v.nu:=by
 have h1:=QbA n v;have h2:(body (XF 1 (QC v.kd v.bits v.text))).length<=own v.kd v.bits v.text:=Nat.le_max_right _ _;rw[ZM];omega
section
variable {P:PL}{m:PG->V->Int}{bd:Int->V->List UInt8}
variable (aO:∀(t:Int) (v:V),(0<=t/\t<(P.progs.length:Int))->m (Qe P t) v=0->9*v.cnt+v.nu<=1000000->(bd t v).length+12<=9*v.cnt+v.nu)
include aO
theorem RK {o:PO}(ho:UO P o){n:Int}{x:V}(h:QS m P o x=0)(hb:9*x.cnt+x.nu<=1000000):(body (Q3 bd o n x)).length+9<=9*x.cnt+x.nu:=by
 have hc:=Xt x;unfold QS at h;unfold Q3;split
 ·rename_i hk;rw[Qnj hk]at h;have:=aO _ _ (ho.tgt hk) h hb;have e:body (⟨n,4,0,bd o.target x⟩:R)=Vp.put (bd o.target x).length++bd o.target x:=rfl;have:=Eg (u:=(bd o.target x).length) ψ;rw[e,QnP];omega
 ·rename_i hk;rw[Qni hk]at h;have h2:=Fa h n;omega
theorem QeJ {o:PO}(ho:UO P o){p:V×V}(h1:p.1.one P o.key (-1)=0)(h2:QS m P o p.2=0)(hb:9*(p.1.cnt+p.2.cnt)+(p.1.nu+p.2.nu)<=1000000):3+(body (ZQ bd o p)).length<=9*(p.1.cnt+p.2.cnt)+(8+p.1.nu+p.2.nu-18):=by
 have h3:=RK aO ho (n:=2) h2 ψ;have h5:=Fa h1 1;have hc:=Xt p.1;have lB:=Xt p.2;have e1:=Qdb (f:=XF 1 p.1) (by show(1:Int)<16;decide);have e2:=Qdb (f:=Q3 bd o 2 p.2) (by
  have:(Q3 bd o 2 p.2).num=2:=by unfold Q3;split<;>rfl
  rw[this];decide)
 have e:(QI [XF 1 p.1,Q3 bd o 2 p.2]).length=(ZP (XF 1 p.1)).length+(ZP (Q3 bd o 2 p.2)).length:=by
  unfold QI;simp only[QoH,List.flatMap_nil,Qof,QnP]
 have eb:body (ZQ bd o p)=Vp.put (QI [XF 1 p.1,Q3 bd o 2 p.2]).length++QI [XF 1 p.1,Q3 bd o 2 p.2]:=rfl;have:=Eg (u:=(QI [XF 1 p.1,Q3 bd o 2 p.2]).length) ψ;rw[eb,QnP];omega
theorem LY {o:PO}(hp:pk o.card o.kind=true):∀l:List V,(∀y∈l,QS m P o y=0)->(l.flatMap (WH (wk o.kind))).length<=9*Q9 l+J5 l
 | [],_=>Qnk _
 |y :: l,hl=>by
  have ih:=LY hp l λz hz=>hl z ŋ
  have hy:=hl y ό;have hk:o.kind≠10:=by
   exact OH
  unfold QS at hy;rw[Qni hk]at hy;have h1:=Fa hy 1;have h2:=Rl hp 1 (KJ hy).1;have hc:=Xt y;rw[h2]at h1;rw[QoH,QnP,Q9,J5];omega
theorem QgZ {o:PO}(ho:UO P o){x:V}(h:XC m P o x=0)(hb:9*x.cnt+x.nu<=1000000):YA (Ws bd o x)<=9*x.cnt+(3+x.nu-9):=by
 have hc:=Q8 x;have hz:=ZM x;have hp:=Xt x;have hw:=WL x.kd x.bits x.text;unfold XC at h;unfold Ws;by_cases h5:o.card=5
 ·rw[Qnj h5]at h;rw[Qnj h5];split at h
  ·omega
  have hE:=(KR.1 h).1;have key:∀l:List (V×V),(∀p∈l,p.1.one P o.key (-1)=0/\QS m P o p.2=0)->9*Xo l+Ja l<=999988->YA (l.map (ZQ bd o))<=9*Xo l+Ja l:=by
   intro l
   induction l with
   |nil=>intro _ _;exact Qnk _
   |cons p l ih=>
    intro hl hb;obtain⟨pa,pb⟩:=p;have c1:=Xt pa;have c2:=Xt pb;simp only[Xo,Ja]at hb |-;have i1:=ih (λq hq=>hl q ō) ψ;obtain⟨a,b⟩:=hl (pa,pb) ό;have i2:=QeJ aO ho a b ϰ;unfold YA at i1 |-;simp only[QnJ,Qps];dsimp only at i2;omega
  have:=key _ hE ψ;omega
 ·rw[Qni h5]at h;rw[Qni h5];split
  ·rename_i iw;have h4:o.card=4:=by
    unfold pk at iw;simp only[Qnz,Qng]at iw;exact iw.1
   rw[Qnj h4]at h;split at h
   ·omega
   have hL:=Km.1 h;have h1:=LY aO iw x.list hL;have hn:J5 x.list<=WK x.list:=Nat.le_add_left _ _;have eb:body (HJ o x.list)=Vp.put (x.list.flatMap (WH (wk o.kind))).length.succ++(UInt8.ofNat (wk o.kind).toNat :: x.list.flatMap (WH (wk o.kind))):=rfl;have:=Eg (u:=(x.list.flatMap (WH (wk o.kind))).length.succ) ψ;rw[TG,eb,QnP,Qnq];unfold WK at hz;cases hx:x.list with
   |nil=>
    rw[hx]at this;simp only[List.flatMap_nil,Qn7]at *;omega
   |cons y l=>
    rw[hx]at hz h1 this;simp only[List.isEmpty_cons,cond_false]at hz;rw[hx]at hc;omega
  ·by_cases h4:o.card=4
   ·rw[Qnj h4]at h;rw[Qnj h4];split at h
    ·omega
    have hL:=Km.1 h;have key:∀l:List V,(∀y∈l,QS m P o y=0)->9*Q9 l+J5 l<=999988->YA (l.map (Q3 bd o o.num))<=9*Q9 l+J5 l:=by
     intro l
     induction l with
     |nil=>intro _ _;exact Qnk _
     |cons y l ih=>
      intro hl hb;have c1:=Xt y;simp only[Q9,J5]at hb |-;have i1:=ih (λq hq=>hl q ō) ψ;have i2:=RK aO ho (n:=o.num) (hl y ό) ψ;unfold YA at i1 |-;simp only[QnJ,Qps];omega
    have hn:J5 x.list<=WK x.list:=Nat.le_add_left _ _;have:=key _ hL ψ;omega
   ·rw[Qni h4]at h;rw[Qni h4,TG];have:=RK aO ho (n:=o.num) h hb;omega
theorem TH {g:PG}:∀(sl:List (Int×V)) (rs:List R),(∀x∈sl,∃o,Xd g x.1=some o/\UO P o/\XC m P o x.2=0)->9*(rs.length+Xk sl)+JK rs+Jg sl<=999988->YA (Xn bd g sl rs)<=9*(rs.length+Xk sl)+JK rs+Jg sl
 | [],rs,_,_=>by
  unfold Xn;have:∀l:List R,YA l<=9*l.length+JK l:=by
   intro l
   induction l with
   |nil=>exact Qnk _
   |cons f l ih=>
    unfold YA at ih |-;simp only[QnJ,Qps,Qnq,JK];omega
  have:=this rs;omega
 |s :: sl,rs,hs,hb=>by
  obtain⟨o,h1,ho,h2⟩:=hs s ό;obtain⟨sn,sx⟩:=s;have c1:=Xt sx;simp only[Xk,Jg]at hb |-;have h3:=QgZ aO ho h2 ϰ;have h6:(rs.takeWhile λr=>decide (r.num<sn)).length+(rs.dropWhile λr=>decide (r.num<sn)).length=rs.length:=by
   rw[<-QnP,QpD]
  have h7:=LV (λr=>decide (r.num<sn)) rs;have ih:=TH sl (rs.dropWhile λr=>decide (r.num<sn)) (λx hx=>hs x õ) ψ;have h4:∀l:List R,YA l<=9*l.length+JK l:=by
   intro l
   induction l with
   |nil=>exact Qnk _
   |cons f l ih=>
    unfold YA at ih |-;simp only[QnJ,Qps,Qnq,JK];omega
  have h5:=h4 (rs.takeWhile λr=>decide (r.num<sn));rw[Xn,TF,TF];unfold ZK;dsimp only at h1;rw[h1];dsimp only at h3 |-;omega
end
def RL {P:PL}(hU:JD P)(hr:XR P):∀(n:Nat) (t:Int) (v:V),(0<=t/\t<(P.progs.length:Int))->XK P n (Qe P t) v=0->9*v.cnt+v.nu<=1000000->(QW P n t v).length+12<=9*v.cnt+v.nu
 |0,t,v,_,h,_=>(Un 0 _ _ h).elim
 |n+1,t,v,ht,h,hb=>by
  have hg:Qe P t∈P.progs:=by
   exact U_
  have hf:=KH hU hr (n+1) (Qe P t) hg v h;have hc:=JQ hr (n+1) (Qe P t) (Zf hr t) v;have hz:=RJ hr (n+1) (Qe P t) (Zf hr t) v;rw[QW];generalize nrm P (n+1) (Qe P t) v=w at hf hc hz;obtain⟨_,⟨s1,_,_⟩,_,s4⟩:=Jy.1 hf;have h1:=LX (Xn (QW P n) (Qe P t) w.slots w.raws);have h2:=Q8 w;have h4:=ZM w;have h5:=WL w.kd w.bits w.text;have h3:=TH (m:=XK P n) (bd:=QW P n) (λt v ht hm hb=>RL hU hr n t v ht hm ψ) w.slots w.raws (λx hx=>by
   obtain⟨o,ho,hx⟩:=s1 x hx;exact⟨o,ho,hU _ hg o (ZX ho).1,hx⟩) ψ
  omega
def Qg0 (k:Int)(b:Nat)(t:List UInt8):own k b t<=10+t.length:=by
 have h1:(body (XF 1 (QC k b t))).length<=10+t.length:=by
  have h2:=DZ k b t;have e:(XF 1 (QC k b t)).data.length=(Q2 k b t).data.length:=rfl;unfold body;split
  ·rw[Z6];omega
  ·split
   ·have:=(Vp.put_len (XF 1 (QC k b t)).bits).2;omega
   ·have:=(Vp.put_len (XF 1 (QC k b t)).data.length).2;rw[QnP];omega
 unfold own;omega
def QhL:∀v:V,v.nu<=12*v.cnt+v.sz:=by
 refine V.ind (P:=λv=>v.nu<=12*v.cnt+v.sz) ?_;intro v hl hp hs;have h0:=Qg0 v.kd v.bits v.text;have h1:∀l:List V,(∀x∈l,x.nu<=12*x.cnt+x.sz)->J5 l<=12*Q9 l+Ug l:=by
  intro l
  induction l with
  |nil=>intro _;exact Qnk _
  |cons x l ih=>
   intro h;have:=ih λy hy=>h y ϳ
   have:=h x ό;simp only[J5,Q9,Ug];omega
 have h2:∀l:List (V×V),(∀x∈l,x.1.nu<=12*x.1.cnt+x.1.sz/\x.2.nu<=12*x.2.cnt+x.2.sz)->Ja l<=12*Xo l+U8 l:=by
  intro l
  induction l with
  |nil=>intro _;exact Qnk _
  |cons x l ih=>
   intro h;have:=ih λy hy=>h y ϳ
   have:=h x ό;obtain⟨p,q⟩:=x;simp only[Ja,Xo,U8];dsimp only at *;omega
 have h3:∀l:List (Int×V),(∀x∈l,x.2.nu<=12*x.2.cnt+x.2.sz)->Jg l<=12*Xk l+Hy l:=by
  intro l
  induction l with
  |nil=>intro _;exact Qnk _
  |cons x l ih=>
   intro h;have:=ih λy hy=>h y ϳ
   have:=h x ό;obtain⟨p,q⟩:=x;simp only[Jg,Xk,Hy];dsimp only at *;omega
 have h4:∀l:List R,JK l<=12*l.length+Gb l:=by
  intro l
  induction l with
  |nil=>exact Qnk _
  |cons f l ih=>
   have hb:(body f).length<=10+f.data.length:=by
    exact Oj
   simp only[JK,Gb,Qnq];omega
 have a1:=h1 v.list hl;have a2:=h2 v.pairs hp;have a3:=h3 v.slots hs;have a4:=h4 v.raws;have a5:WK v.list<=1+J5 v.list:=by unfold WK;cases v.list.isEmpty<;>simp only[cond_true,cond_false]<;>omega
 rw[ZM,Q8,Ef];omega
open Vp Cp
def Qg1 (i acc:Nat)(s:List UInt8)(hi:i<=9)(ha:acc<128 ^ i)(h:(JC i acc s).2.2=0):(JC i acc s).1<128 ^ (JC i acc s).2.1:=by
 induction s generalizing i acc with
 |nil=>simp[JC]at h
 |cons c t ih=>
  unfold JC at h |-;split
  ·rename_i h1;rw[Qnj h1]at h;simp at h
  ·rename_i h1;rw[Qni h1]at h;split
   ·rename_i h2;show acc+c.toNat*128 ^ i<128 ^ (i+1);have:c.toNat*128 ^ i<=127*128 ^ i:=Qoi _ ψ;rw[Qpi];omega
   ·rename_i h2;rw[Qni h2]at h;have h9:i<9:=by
     exact N_
    have hc:=c.toNat_lt;have h3:acc+(c.toNat-128)*128 ^ i<128 ^ (i+1):=by
     exact θ
    exact ih (i+1) _ ψ h3 h
def LZ (s:List UInt8)(h:(Vp.take s).2.2=0):(Vp.put (Vp.take s).1).length<=(Vp.take s).2.1:=by
 obtain⟨h1,_,h3,_⟩:=WE s h;have h4:=Qg1 0 0 s ψ ψ h;obtain⟨n,hn⟩:∃n,(Vp.take s).2.1=n+1:=⟨(Vp.take s).2.1-1,ψ⟩;have h5:(Vp.take s).1<128 ^ (n+1):=by rw[<-hn];exact h4
 rw[hn];unfold Vp.put;rw[Cn n 9 _ h5 ψ];exact(Bq n _).2
def Eh {c:C}(hc:CI c)(h:c.varint.2.2=0):((Vp.put c.varint.1).length:Int)+c.varint.2.1.left<=c.left:=by
 have cJ:c.varint=if (Vp.take c.rest).2.2=0 then((Vp.take c.rest).1,c.ahead (Vp.take c.rest).2.1,0)else(0,c,(Vp.take c.rest).2.2):=rfl
 by_cases he:(Vp.take c.rest).2.2=0
 ·rw[Qnj he]at cJ;have h1:=LZ _ he;obtain⟨_,h2,_⟩:=WE _ he;obtain⟨_,_,h3⟩:=Z0 hc.big hc.snd (Vp.take c.rest).2.1 Ď;rw[cJ];dsimp only;unfold C.left;rw[h3,QnS];omega
 ·rw[Qni he]at cJ;rw[cJ]at h;exact absurd h he
def Qlk {c d:C}{n:Nat}(hc:CI c)(h:Z4 c=.ok (n,d)):((Vp.put n).length:Int)+d.left<=c.left:=by
 unfold Z4 at h;split at h
 ·rename_i h0;split at h
  ·cases h
  ·cases h;exact Eh hc h0
 ·cases h
def QhM {d:C}{n:Nat}(hc:CI d)(hn:(n:Int)<=d.left)(h:(text d n).2.2=0):(text d n).1.length=n/\(text d n).2.1.left=d.left-n:=by
 unfold text at h |-;rw[Qni ψ,Qni ψ]at h |-;split at h
 ·cases h
 ·rename_i h1;rw[Qni h1];obtain⟨_,_,h3⟩:=Z0 hc.big hc.snd n hn;unfold C.left at hn |-;dsimp only;rw[h3,QnS,Qn8,QoF];omega
def Ei {w:Int}{c d:C}{f:R}(hc:CI c)(hw:0<=w/\w<=3)(h:Je w c=.ok (f,d)):((body f).length:Int)+d.left<=c.left:=by
 unfold Je at h;split at h
 ·rename_i h3;subst h3;split at h
  ·cases h
  rename_i n i hl;have h1:=Qlk hc hl;obtain⟨a1,a2⟩:=Ji hc hl;split at h
  ·rename_i ht;cases h;obtain⟨b1,b2⟩:=QhM (a1.ci hc) a2 ht;have e:body (⟨0,3,0,(text i n).1⟩:R)=Vp.put (text i n).1.length++(text i n).1:=rfl;rw[e,QnP,b1,b2];omega
  ·cases h
 ·rename_i h3;split at h
  ·rename_i h2;subst h2;split at h
   ·rename_i hf;cases h;obtain⟨h1,h2,h3,h4⟩:=Uq hc.big' hf;have e:body (⟨0,2,c.fixed.1,[]⟩:R)=fx 8 c.fixed.1:=rfl;obtain⟨_,_,h6⟩:=Z0 hc.big hc.snd 8 h2;have h7:c.fixed.2.1=c.ahead (8:Nat):=by
     unfold C.fixed at hf |-;split
     ·rename_i h8;rw[Qnj h8]at hf;cases hf
     ·rfl
    rw[e,Z6,h7];unfold C.left at h2 |-;rw[h6,QnS];omega
   ·cases h
  ·rename_i h2;split at h
   ·rename_i hv;cases h;have e:body (⟨0,w,c.varint.1,[]⟩:R)=Vp.put c.varint.1:=by
     unfold body;have hn:Xx w=true:=by
      unfold Xx;have:w=0\/w=1:=ψ
      rcases this with e|e<;>rw[e]<;>rfl
     dsimp only;rw[Qni h2,Qnj hn]
    rw[e];exact Eh hc hv
   ·cases h
def QhN {c:C}(hc:CI c)(h:(Qp c).2.2.2=0):(Qp c).2.2.1.left+1<=c.left:=(WG hc h).1.lt hc
def Qll {c:C}(hc:CI c)(h:(Xu c).2.2=0):((body (Xu c).1).length:Int)+1+(Xu c).2.1.left<=c.left:=by
 unfold Xu at h |-;dsimp only at h |-;split at h
 ·rename_i ht;rw[Qnj ht];have h1:=QhN hc ht;have ao:=(WG hc ht).1.ci hc;generalize (Qp c).2.2.1=c1 at h h1 ao |-;generalize (Qp c).1=num at h |-;generalize (Qp c).2.1=wr at h |-;split at h
  ·rename_i hs;rw[Qnj hs];have dc:Z7 c1 1=.ok (c1.spend 1).1:=by unfold Z7;rw[Qnj hs]
   obtain⟨s1,s2,_⟩:=J4 dc;have gZ:=(Xm ao ψ dc).1.ci ao;generalize (c1.spend 1).1=c2 at h gZ s1 s2 |-;split at h
   ·rename_i hk;rw[Qnj hk];unfold Zw at hk |-;split at hk
    ·rename_i w2;rw[Qnj w2];dsimp only at w2 hk |-;have hr:Je 2 c2=.ok (⟨0,2,c2.fixed.1,[]⟩,c2.fixed.2.1):=by
      unfold Je;rw[Qni ϊ,Qnj rfl,Qnj hk]
     have:=Ei gZ ϊ hr;have e:∀n:Int,(body (⟨n,wr,c2.fixed.1,[]⟩:R)).length=(body (⟨0,2,c2.fixed.1,[]⟩:R)).length:=by
      intro n;rw[w2];rfl
     rw[e];omega
    ·rename_i w2;rw[Qni w2];split at hk
     ·rename_i w1;rw[Qnj w1];dsimp only at w1 w2 hk |-;have e:∀n:Int,body (⟨n,wr,c2.varint.1,[]⟩:R)=Vp.put c2.varint.1:=by
       intro n;unfold body;have hn:Xx wr=true:=by
        unfold Xx;rcases w1 with e|e<;>rw[e]<;>rfl
       dsimp only;rw[Qni w2,Qnj hn]
      have:=Eh gZ hk;rw[e];omega
     ·rename_i w1;rw[Qni w1];dsimp only at w1 w2 hk |-;have e:∀(n:Int) (d:List UInt8),body (⟨n,wr,0,d⟩:R)=Vp.put d.length++d:=by
       intro n d;unfold body;have hn:Xx wr=false:=by
        unfold Xx;simp only[Qn4,Qo2];omega
       dsimp only;rw[Qni w2,hn,Qni ϊ]
      rw[e];unfold Kv at hk |-;dsimp only at hk |-;split at hk
      ·rename_i hv;rw[Qnj hv];have h5:=Eh gZ hv;have oO:=(Kw gZ hv).1.ci gZ;generalize c2.varint.2.1=c3 at hk h5 oO |-;generalize c2.varint.1=n at hk h5 |-;split at hk
       ·cases hk
       ·rename_i hl;rw[Qni hl];by_cases hq:(if wr=3 then c2.tx else 65536)<(n:Int)
        ·rw[Qnj hq]at hk;cases hk
        ·rw[Qni hq];dsimp only;obtain⟨_,_,h6⟩:=Z0 oO.big oO.snd n ψ;have h7:(c3.ahead n).left=c3.left-n:=by
          unfold C.left at hl |-;rw[h6,QnS];omega
         rw[h7];have h8:(List.take n (c3.d.drop c3.a.toNat)).length=n:=by
          have:=oO.lf;have:=oO.pos;rw[Qn8,QnS];omega
         rw[QnP,h8];omega
      ·rename_i hv;exact absurd hk hv
   ·rename_i hk;exact absurd h hk
  ·rename_i hs;exact absurd h hs
 ·rename_i ht;exact absurd h ht
def Gc (k:Int)(b:Nat)(t:List UInt8):(QC k b t).nu=own k b t:=by
 rw[ZM];rfl
def V0 (l:List V):(Xa l).nu=3+WK l:=by
 rw[ZM];show own 11 0 []+WK l+0+0+0=_;rw[Wq _ _ ϊ];omega
def QeK (l:List (V×V)):(Jp l).nu=3+Ja l:=by
 rw[ZM];show own 12 0 []+0+Ja l+0+0=_;rw[Wq _ _ ϊ];omega
def L0 (v:V)(f:R):(Uc v f).nu=v.nu+(3+(body f).length-9):=by
 rw[ZM,ZM v];show own v.kd v.bits v.text+WK v.list+Ja v.pairs+Jg v.slots+JK (v.raws++[f])=_;rw[Tw];show _+(JK v.raws+((3+(body f).length-9)+0))=_;omega
def G5 (p:Int×V->Bool):∀l:List (Int×V),Jg (l.filter p)<=Jg l
 | []=>Qm8 _
 |(n,x) :: l=>by
  have:=G5 p l;rw[QoQ];split<;>simp only[Jg]<;>omega
def RM {p:Int×V->Bool}{s:Int×V}(hp:p s=false):∀ {l:List (Int×V)},s∈l->Jg (l.filter p)+(3+s.2.nu-9)<=Jg l
 |(n,x) :: l,h=>by
  have hf:=G5 p l;rcases Qoz.1 h with rfl|h
  ·rw[QoQ,hp];simp only[Qnu,if_false,Jg];omega
  ·have ih:=RM hp h;rw[QoQ];split<;>simp only[Jg]<;>omega
def Vi (p:V×V->Bool):∀l:List (V×V),Ja (l.filter p)<=Ja l
 | []=>Qm8 _
 |(a,b) :: l=>by
  have:=Vi p l;rw[QoQ];split<;>simp only[Ja]<;>omega
def Vj (g:PG)(v:V)(o:PO)(x:V):(X6 g v o x).nu=3+(Jg (v.slots.filter λs=>!Xg g o s)+(3+x.nu-9))+JK v.raws:=by
 rw[ZM];show own 10 0 []+0+0+Jg (v.slots.filter (λs=>!Xg g o s)++[(o.num,x)])+JK v.raws=_;rw[Tx,Wq _ _ ϊ];simp only[Jg];omega
def UD (g:PG)(v:V)(o:PO)(x:V):(X6 g v o x).nu<=v.nu+(3+x.nu-9):=by
 have h1:=G5 (λs=>!Xg g o s) v.slots;have h2:=WL v.kd v.bits v.text;rw[Vj,ZM v];omega
def G6 (g:PG)(v:V)(o:PO)(x:V){y:V}(h:XN v o.num=some y):(X6 g v o x).nu+(3+y.nu-9)<=v.nu+(3+x.nu-9):=by
 have h1:=RM (p:=λs=>!Xg g o s) (s:=(o.num,y)) (by rw[CG];rfl) (Xi h).1;have h2:=WL v.kd v.bits v.text;rw[Vj,ZM v];dsimp only at h1;omega
def QeL (k:Int)(l:List (V×V))(x:V×V):Ja (Zx k l x)<=Ja l+(8+x.1.nu+x.2.nu-18):=by
 unfold Zx;have hp:(QY k ((l.filter λq=>!XJ q.1 x.1)++[x])).Perm _:=QN _;rw[RH hp,QeE];have:=Vi (λq=>!XJ q.1 x.1) l;obtain⟨a,b⟩:=x;dsimp only at this;simp only[Ja];omega
def RN (l:List V)(x:V):WK (l++[x])=1+J5 l+(3+x.nu-9):=by
 unfold WK;rw[QeD];have:(l++[x]).isEmpty=false:=by cases l<;>rfl
 rw[this];simp only[cond_false,J5];omega
def L1 (v:V):3+WK v.list<=v.nu:=by
 have h2:=WL v.kd v.bits v.text;rw[ZM v];omega
def Qg2 (v:V):3+Ja v.pairs<=v.nu:=by
 have h2:=WL v.kd v.bits v.text;rw[ZM v];omega
def RP (k:Int):own k 0 []<=8/\(k≠6->own k 0 []=3):=by
 show max 3 (body { Q2 k 0 []with num:=1 }).length<=8/\(k≠6->max 3 (body { Q2 k 0 []with num:=1 }).length=3);by_cases hk:1<=k/\k<=9
 ·rcases H7 hk 0 []with⟨_,e,_⟩|⟨_,e,_⟩|⟨_,e,h⟩|⟨_,e,_⟩<;>rw[e]
  ·exact OR
  ·exact OR
  ·exact⟨by
    show max 3 (fx 8 _).length<=8;rw[Z6];decide,λh'=>absurd h h'⟩
  ·exact OR
 ·rw[TD _ _ hk];exact OR
def L2 {P:PL}{k t:Int}{f:R}(hb:f.bits<18446744073709551616)(h:(XP P k t f).2=0\/(XP P k t f).2=16):(f.wire=wk k/\0<=wk k/\wk k<=3)/\((XP P k t f).2=0->(XP P k t f).1.nu<=max 3 (body f).length):=by
 unfold XP at h |-;by_cases hk:isk k=true
 case neg=>
  rw[Qni hk]at h;rcases h with h|h<;>cases h
 have fv:1<=k/\k<=9:=by
  unfold isk at hk
  simpa using hk
 rw[Qnj hk]at h |-;by_cases hw:f.wire=wk k
 case neg=>
  rw[Qni hw]at h;rcases h with h|h<;>cases h
 rw[Qnj hw]at h |-;have sV:0<=wk k/\wk k<=3:=by
  unfold wk
  repeat' split
  all_goals omega
 refine⟨⟨hw,sV⟩,?_⟩;intro h0;have key:∀(b:Nat) (u:List UInt8),(body (XF 1 (QC k b u))).length=(body f).length->(QC k b u).nu<=max 3 (body f).length:=by
  intro b u e;rw[Gc];unfold own;rw[e];exact Qm8 _
 split at h0
 ·rename_i h3;rw[Qnj h3];split at h0
  ·cases h0
  ·rename_i h7;rw[Qni h7];refine key _ _ ?_;have uR:k=7\/k=8:=by
    rw[hw]at h3;unfold wk at h3
    repeat' split at h3
    all_goals omega
   have e:XF 1 (QC k 0 f.data)=⟨1,3,0,f.data⟩:=by
    show { Q2 k 0 f.data with num:=1 }=_;rcases H7 fv 0 f.data with⟨_,e,_,h7,h8⟩|⟨_,e,_,h7,h8⟩|⟨_,e,h⟩|⟨_,e,_⟩
    ·omega
    ·omega
    ·omega
    ·rw[e]
   rw[e];unfold body;rw[h3];rfl
 ·rename_i h3;rw[Qni h3];split at h0
  ·rename_i cq;rw[Qnj cq];split at h0
   ·cases h0
   ·rename_i h9;rw[Qni h9];refine key _ _ ?_;have e0:XF 1 (QC k (Xw k (X4 f.wire f.bits)) [])={ Q2 k (X4 f.wire f.bits) []with num:=1 }:=by
     unfold XF QC;simp only[V.kd,V.bits,V.text,TA]
    rw[e0];rcases H7 fv (X4 f.wire f.bits) []with⟨w,e,_⟩|⟨w,e,_⟩|⟨w,e,_⟩|⟨w,e,_⟩
    ·rw[e];rw[hw,w];unfold body;rw[hw,w];rfl
    ·rw[e];have hz:(YZ (IntKind.i64.wrap ((X4 f.wire f.bits:Nat):Int))).toNat=f.bits:=by
      rw[hw,w];unfold X4;rw[Qnj rfl];have h5:0<=IntKind.u64.wrap (Dg f.bits):=Ă
      rw[Int.toNat_of_nonneg h5];have h6:IntKind.i64.wrap (IntKind.u64.wrap (Dg f.bits))=Dg f.bits:=by
       rw[Jl,QD];unfold Dg;split<;>omega
      rw[h6,Qd9 _ ψ];omega
     rw[hz];unfold body;rw[hw,w];rfl
    ·rw[e];have e1:∀(b:Nat),(body (⟨1,2,b,[]⟩:R)).length=8:=by
      intro b;show(fx 8 b).length=8;rw[Z6]
     have e2:(body f).length=8:=by
      unfold body;rw[hw,w,Qnj rfl,Z6]
     rw[e2];exact e1 _
    ·rw[hw,w]at h3;exact absurd rfl h3
  ·cases h0
def Qg3 {P:PL}{k t:Int}{f:R}(h:(XP P k t f).2=16):f.wire=0:=by
 unfold XP at h;split at h
 ·split at h
  ·rename_i hw;split at h
   ·split at h<;>cases h
   ·split at h
    ·split at h
     ·rename_i h9;rw[hw,h9.1];rfl
     ·cases h
    ·cases h
  ·cases h
 ·cases h
def TJ {P:PL}{g:PG}{o:PO}{v w:V}{c d:C}(hc:CI c)(h:ZY P g v o c=.ok (w,d)):As c d:=by
 unfold ZY at h;split at h
 ·cases h
 rename_i c1 h1;obtain⟨a1,_⟩:=Xm hc ψ h1;have ao:=a1.ci hc;split at h
 ·cases h
 rename_i f d1 h2;obtain⟨b1,_⟩:=Yq ao h2;have hs:=a1.strict b1 hc;have eI:=hs.ci hc;split at h
 ·cases h;exact hs
 split at h
 ·split at h
  ·split at h
   ·cases h;exact hs
   ·split at h
    ·cases h
    rename_i d2 h6;cases h;exact hs.trans (Xm eI ψ h6).1 hc
  ·cases h;exact hs
 ·cases h
def Ej (P:PL)(M K n:Nat)(rec:Int->V->C->Rd V):Prop :=
 ∀(t:Int) (v:V) (c:C),CI c->c.left<n->(0<=t/\t<(P.progs.length:Int))->MW P n (Qe P t) v->v.ok M->(v.cnt:Int)+3*c.left<=K->
  ∀w d,rec t v c=.ok (w,d)->(w.nu:Int)+d.left<=v.nu+c.left
section
variable {P:PL}{M K n:Nat}(hM:65536<=M)(hK:K<=1000000){g:PG}{o:PO}(ho:OpK P g o)
theorem TK {v w:V}{c d:C}(hc:CI c)(h:ZY P g v o c=.ok (w,d)):(w.nu:Int)+d.left<=v.nu+c.left:=by
 unfold ZY at h;split at h
 ·cases h
 rename_i c1 h1;obtain⟨_,s2,_⟩:=J4 h1;have ao:=(Xm hc ψ h1).1.ci hc;split at h
 ·cases h
 rename_i f d1 h2;obtain⟨b1,b2,b3,b4⟩:=Yq ao h2;have fQ:=L2 (P:=P) (k:=o.kind) (t:=o.target) b3;split at h
 ·rename_i fM;cases h;obtain⟨⟨w1,w2,w3⟩,_⟩:=fQ (.inr fM);have hr:=Ei ao ⟨w2,w3⟩ h2;have e:(body (⟨o.num,0,f.bits,[]⟩:R)).length=(body f).length:=by
   unfold body;rw[Qg3 fM];rfl
  rw[L0,e];omega
 split at h
 ·rename_i h0;obtain⟨⟨w1,w2,w3⟩,hx⟩:=fQ (.inl h0);have hr:=Ei ao ⟨w2,w3⟩ h2;have hl:=b1.lt ao;replace hx:=hx h0;generalize (XP P o.kind o.target f).1=x at h hx;split at h
  ·have hH:=RN (QK v o.num).list x;have hle:J5 (QK v o.num).list<=WK (QK v o.num).list:=Nat.le_add_left _ _;have hL:=V0 ((QK v o.num).list++[x]);split at h
   ·rename_i hf;cases h;obtain⟨y,hy⟩:=QnD.1 hf;have h5:=G6 g v o (Xa ((QK v o.num).list++[x])) hy;have h6:=L1 y;rw[<-(Xi hy).2]at h6 h5;unfold WK at h6;have h7:(QK v o.num).list=[]\/(QK v o.num).list.isEmpty=false:=by cases(QK v o.num).list<;>simp
    rcases h7 with h7|h7
    ·rw[h7]at hH hL h5;simp only[J5]at hH;rw[h7];omega
    ·rw[h7]at h6;simp only[cond_false]at h6;omega
   ·rename_i hf;split at h
    ·cases h
    rename_i d2 h6;cases h;have h7:=(J4 h6).2.1;have h5:=UD g v o (Xa ((QK v o.num).list++[x]));rw[ZL hf]at *;have e0:J5 (QC 0 0 []).list=0:=rfl;omega
  ·cases h;have h5:=UD g v o x;omega
 ·cases h
theorem RQ:∀(k:Nat) {v w:V} {c d:C},CI c->ZS P g o k v c=.ok (w,d)->(w.nu:Int)+d.left<=v.nu+c.left
 |0,v,w,c,d,hc,h=>by cases h;exact QoC _
 |k+1,v,w,c,d,hc,h=>by
  rw[ZS]at h;split at h
  ·split at h
   ·cases h
   rename_i v1 c1 h1;have h2:=TK hc h1;have ao:=(TJ hc h1).ci hc;have:=RQ k ao h;omega
  ·cases h;exact QoC _
include hM hK ho in
theorem QbB {v w:V}{c d:C}(hc:CI c)(hv:MW P (n+1) g v)(hk:v.ok M)(hb:(v.cnt:Int)+3*c.left<=K)(hp:pk o.card o.kind=true)(h:JV P g v o c=.ok (w,d)):(w.nu:Int)+d.left<=v.nu+c.left:=by
 have dT:=(Rr hM hK ho hc hv hk hb hp h).1;obtain⟨q0,c0,gD,vD⟩:=dT;unfold JV at h;split at h
 ·cases h
 rename_i q c1 h1;obtain⟨rfl,rfl⟩:q=q0/\c1=c0:=by
  exact μ
 obtain⟨a1,a2⟩:=Ji hc h1;have ao:=a1.ci hc;obtain⟨_,p2,p3⟩:=ZZ ao a2;have aQ:=a1.lt hc;have fin:∀ {u:V} {i:C},CI i->i.left+1<=(q:Int)->(u.nu:Int)<=v.nu->ZJ P g u o c1 i=.ok (w,d)->(w.nu:Int)+d.left<=v.nu+c.left:=by
  intro u i hi bg hu h;unfold ZJ at h;split at h
  ·cases h
  rename_i u1 j h7;cases h;have h8:=RQ _ hi h7;have h9:0<=j.left:=by unfold C.left;omega
  omega
 split at h
 ·rename_i hy;obtain⟨y1,_⟩:=HX p2 hy;have vw:=y1.lt p2;split at h
  ·split at h
   ·exact fin (y1.ci p2) ψ (QoC _) h
   ·split at h
    ·cases h
    rename_i i h2;obtain⟨s1,_⟩:=Xm (y1.ci p2) ψ h2;have fS:=(s1.left (y1.ci p2)).2.2;have h3:=UD g v o (Xa []);have h4:(Xa []).nu=3:=by rw[V0];rfl
    exact fin (s1.ci (y1.ci p2)) ψ ψ h
  ·cases h
 ·cases h
variable {rec:Int->V->C->Rd V}(ab:Jq P M K n rec)(eT:Ej P M K n rec)
include ab eT in
theorem Vk {t:Int}(ht:0<=t/\t<(P.progs.length:Int)){b w:V}{k:Int}(iQ:0<=k){c d:C}(hc:CI c)(aA:c.left<=n)(hv:1<=n->MW P n (Qe P t) b)(hk:b.ok M)(hb:(b.cnt:Int)+3*c.left<=K)(h:KN rec t b k c=.ok (w,d)):(w.nu:Int)+d.left+1<=b.nu+c.left/\d.left+1<=c.left:=by
 obtain⟨q0,c0,gD,vD⟩:=D5 ab ht iQ hc aA hv hk hb h;unfold KN at h;split at h
 ·cases h
 rename_i q c1 h1;obtain⟨rfl,rfl⟩:q=q0/\c1=c0:=by
  exact μ
 obtain⟨a1,a2⟩:=Ji hc h1;have ao:=a1.ci hc;have aQ:=a1.lt hc;have ft:=ao.bd;split at h
 ·rename_i he;obtain⟨e1,e2,e3⟩:=YM ao a2 he;split at h
  ·cases h
  rename_i i h2;obtain⟨s1,s2⟩:=Xm e2 iQ h2;have fS:=(s1.left e2).2.2;split at h
  ·cases h
  rename_i x j h3;cases h;have hi:=s1.ci e2;have oZ:=hi.bd;have h9:=eT t b i hi ψ ht (hv ψ) hk ψ _ _ h3;have h8:0<=j.left:=by unfold C.left;omega
  omega
 ·cases h
include ho ab eT in
theorem QbC {v w:V}{c d:C}(hc:CI c)(aA:c.left<=n)(hv:MW P (n+1) g v)(hk:v.ok M)(hb:(v.cnt:Int)+3*c.left<=K)(h5:o.card≠5)(am:o.kind=10)(h:JL rec g v o c=.ok (w,d))(gW:(1:Int)+3*c.left<=K):(w.nu:Int)+d.left<=v.nu+c.left:=by
 have ht:=ho.uo.tgt am;have iO:(QC 10 0 []:V).ok M:=XG rfl ϊ (Qnk _);have fk:(QC 10 0 []).nu=3:=by rw[Gc,Wq _ _ ϊ]
 unfold JL at h;split at h
 ·split at h
  ·cases h
  rename_i x c1 h1;cases h;obtain⟨h2,dD⟩:=Vk ab eT ht Ü hc aA (λhn=>Xq hn) iO ϫ h1;have yz:=Mc x;have hH:=RN (QK v o.num).list x;have hL:=V0 ((QK v o.num).list++[x]);cases hf:XN v o.num with
  |none=>
   have h5:=UD g v o (Xa ((QK v o.num).list++[x]));have e0:J5 (QK v o.num).list=0:=é
   omega
  |some y=>
   have h5:=G6 g v o (Xa ((QK v o.num).list++[x])) hf;have h6:=L1 y;rw[<-(Xi hf).2]at h6 h5;unfold WK at h6;have h7:(QK v o.num).list=[]\/(QK v o.num).list.isEmpty=false:=by cases(QK v o.num).list<;>simp
   rcases h7 with h7|h7
   ·have e0:J5 (QK v o.num).list=0:=by rw[h7];rfl
    omega
   ·rw[h7]at h6;simp only[cond_false]at h6;omega
 ·rename_i h4;split at h
  ·cases h
  rename_i x c1 h1;cases h;cases hf:XN v o.num with
  |none=>
   rw[hf,Qni ό]at h1;obtain⟨h2,dD⟩:=Vk ab eT ht ψ hc aA (λhn=>Xq hn) iO ϫ h1;have yz:=Mc x;have h5:=UD g v o x;omega
  |some z=>
   rw[hf,Qnj (show(some z).isSome=true from rfl),(Xi hf).2]at h1;have hz:=JG (Xi hf).1;dsimp only at hz;have h2:=U1 hv ho.self hf;unfold FW at h2;rw[Qni h4,Qni h5]at h2;obtain⟨h3,rI⟩:=Vk ab eT ht ψ hc aA (λ_=>h2 am) (hk.slots _ (Xi hf).1) ψ h1;have h6:=G6 g v o x hf;omega
include ab eT in
theorem RS {k t wr:Int}(ht:k=10->0<=t/\t<(P.progs.length:Int)){y:V}{c d:C}(hc:CI c)(aA:c.left<=n)(hb:(1:Int)+3*c.left<=K)(h:Jf P rec k t wr c=.ok (y,d)):(y.nu:Int)+d.left<=c.left+2:=by
 unfold Jf at h;split at h
 ·split at h
  ·rename_i hk;obtain⟨h1,_⟩:=Vk ab eT (ht hk) (QoC 0) hc aA (λhn=>Xq hn) (XG rfl ϊ (Qnk _)) ϫ h;rw[Gc,Wq _ _ ϊ]at h1;omega
  ·rename_i hk;split at h
   ·cases h
   rename_i f c1 h1;obtain⟨b1,b2,b3,b4⟩:=Yq hc h1;have hl:=b1.lt hc;split at h
   ·rename_i h0;cases h;obtain⟨⟨w1,w2,w3⟩,hx⟩:=L2 (P:=P) (t:=t) b3 (.inl h0);have hr:=Ei hc (by rw[<-b2,w1];exact⟨w2,w3⟩) h1;have:=hx h0;omega
   ·cases h
 ·cases h
include hM ho ab eT in
theorem V1 (h5:o.card=5):∀(k:Nat) {x y:V×V} {a b:Bool} {c d:C},CI c->c.left<=n->(1:Int)+3*c.left<=K->XI P M n o x->JF P rec o k x a b c=.ok (y,d)->
  (y.1.nu:Int)+y.2.nu+d.left<=x.1.nu+x.2.nu+c.left
 |0,x,y,a,b,c,d,hc,aA,hb,hx,h=>by
  cases h;exact QoC _
 |k+1,x,y,a,b,c,d,hc,aA,hb,hx,h=>by
  have dF:=ho.uo.key h5;have fe:o.key≠10:=by unfold XS at dF;omega
  have bE:=Mc x.1;have fT:=Mc x.2;rw[JF]at h;split at h
  ·split at h
   ·rename_i kZ;obtain⟨t1,_⟩:=WG hc kZ;have hl:=t1.lt hc;have d9:=t1.ci hc;split at h
    ·split at h
     ·cases h
     split at h
     ·cases h
     rename_i z c1 h1;obtain⟨r1,r2,r3,r4,r5⟩:=WX (Qm9 ϊ hM) ab (λe=>absurd e fe) d9 ψ ψ h1;have aQ:=r1.lt d9;have hz:=RS ab eT (λe=>absurd e fe) d9 ψ ψ h1;have q3:=V1 h5 k (x:=(z,x.2)) (r1.ci d9) ψ ψ ⟨r2,hx.vl,r5 dF,hx.ew⟩ h;dsimp only at q3;omega
    ·split at h
     ·split at h
      ·cases h
      split at h
      ·cases h
      rename_i z c1 h1;obtain⟨r1,r2,r3,r4,r5⟩:=WX (Qm9 ϊ hM) ab ho.uo.tgt d9 ψ ψ h1;have aQ:=r1.lt d9;have hz:=RS ab eT ho.uo.tgt d9 ψ ψ h1;have q3:=V1 h5 k (x:=(x.1,z)) (r1.ci d9) ψ ψ ⟨hx.ky,r2,hx.one,λ_ e=>r4 e⟩ h;dsimp only at q3;omega
     ·cases h
   ·cases h
  ·cases h;exact QoC _
include hM ho ab eT in
theorem L3 (h5:o.card=5)(bf:(Lit.int .i64 o.kind).wf=true){v w:V}{c d:C}(hc:CI c)(aA:c.left<=n)(hb:(v.cnt:Int)+3*c.left+3<=K)(h:Z8 P rec g v o c=.ok (w,d)):(w.nu:Int)+d.left<=v.nu+c.left:=by
 have dF:=ho.uo.key h5;obtain⟨q0,c0,gD,vD⟩:=(CJ hM ho ab h5 bf hc aA hb h).1;unfold Z8 at h;split at h
 ·cases h
 rename_i q c1 h1;obtain⟨rfl,rfl⟩:q=q0/\c1=c0:=by
  exact μ
 obtain⟨a1,a2⟩:=Ji hc h1;have ao:=a1.ci hc;have aQ:=a1.lt hc;have ft:=ao.bd;obtain⟨_,p2,p3⟩:=ZZ ao a2;split at h
 ·cases h
 rename_i i h2;obtain⟨s1,_⟩:=Xm p2 Ü h2;have fS:=(s1.left p2).2.2;split at h
 ·cases h
 rename_i x j h3;cases h;have hcv:=Xt v;have ip:XI P M n o (QC o.key 0 [],QC o.kind 0 []):=by
  exact zy
 have r3:=V1 hM ho ab eT h5 _ (s1.ci p2) ψ ψ ip h3;dsimp only at r3;rw[Gc,Gc]at r3;have z1:own o.key 0 []=3:=(RP _).2 (by unfold XS at dF;omega);have z2:=(RP o.kind).1;have hj:0<=j.left:=by unfold C.left;omega
 have ru:=QeL o.key (QK v o.num).pairs x;have hL:=QeK (Zx o.key (QK v o.num).pairs x);cases hf:XN v o.num with
 |none=>
  have h5:=UD g v o (Jp (Zx o.key (QK v o.num).pairs x));have e0:Ja (QK v o.num).pairs=0:=é
  omega
 |some y=>
  have h5:=G6 g v o (Jp (Zx o.key (QK v o.num).pairs x)) hf;have h6:=Qg2 y;rw[<-(Xi hf).2]at h6 h5;omega
include hM hK ho ab eT in
theorem L4 (bf:(Lit.int .i64 o.kind).wf=true){v w:V}{c d:C}{wr:Int}(hc:CI c)(aA:c.left<=n)(hv:MW P (n+1) g v)(hk:v.ok M)(hb:(v.cnt:Int)+3*c.left+3<=K)(h:XV P rec g v o wr c=.ok (w,d)):(w.nu:Int)+d.left<=v.nu+c.left:=by
 have hcv:=Xt v;unfold XV at h;split at h
 ·rename_i h5;split at h
  ·exact L3 hM ho ab eT h5 bf hc aA hb h
  ·cases h
 ·rename_i h5;split at h
  ·rename_i hp;exact QbB hM hK ho hc hv hk ψ hp.2 h
  ·split at h
   ·split at h
    ·rename_i am;exact QbC ho ab eT hc aA hv hk ψ h5 am h ψ
    ·exact TK hc h
   ·cases h
end
def BN {P:PL}{M K n:Nat}(hM:65536<=M)(hK:K<=1000000)(hP:P.ok M)(hU:JD P)(hr:XR P){rec:Int->V->C->Rd V}(ab:Jq P M K n rec)(eT:Ej P M K n rec){t:Int}(ht:0<=t/\t<(P.progs.length:Int)):∀(k:Nat) (v:V) (c:C),CI c->c.left<=n->MW P (n+1) (Qe P t) v->v.ok M->(v.cnt:Int)+3*c.left<=K->
  ∀w d,XY P rec t k v c=.ok (w,d)->(w.nu:Int)+d.left<=v.nu+c.left
 |0,v,c,hc,hn,hv,hk,hb,w,d,h=>by
  cases h;exact QoC _
 |k+1,v,c,hc,hn,hv,hk,hb,w,d,h=>by
  have lr:=KI v;have gE:=hc.bd;rw[XY]at h;split at h
  ·split at h
   ·rename_i kZ;obtain⟨t1,_⟩:=WG hc kZ;have hl:=t1.lt hc;split at h
    ·split at h
     ·rename_i hx;obtain⟨a1,_,a2,a3,a4,a5,a6,a7⟩:=DU hc hx;have um:=a1.lt hc;have hy:=Qll hc hx;have d8:(Xu c).1.ok M:=⟨Z1 ψ ψ,Z1 ψ ψ,ϧ,ψ⟩;have ea:=H9 v (Xu c).1;have en:=L0 v (Xu c).1;have b4:=BN hM hK hP hU hr ab eT ht k _ _ (a1.ci hc) ψ (D4 hv) (D2 hk d8 ψ) ψ w d h;omega
     ·cases h
    ·rename_i o dC;split at h
     ·cases h
     rename_i v1 c1 h1;obtain⟨ho,bf,_⟩:=GU hP hU hr ht dC;obtain⟨b1,b2,b3,b4⟩:=Hw hM hK ho ab bf (t1.ci hc) ψ hv hk ψ h1;have uh:=b1.lt (t1.ci hc);have b5:=L4 hM hK ho ab eT bf (t1.ci hc) ψ hv hk ψ h1;have q4:=BN hM hK hP hU hr ab eT ht k v1 c1 (b1.ci (t1.ci hc)) ψ b2 b3 ψ w d h;omega
   ·cases h
  ·cases h;exact QoC _
def TL {P:PL}{M K:Nat}(hM:65536<=M)(hK:K<=1000000)(hP:P.ok M)(hU:JD P)(hr:XR P):∀n:Nat,Ej P M K n (Wz P n)
 |0,t,v,c,hc,hn,ht,hv,hk,hb,w,d,h=>by
  have:=hc.bd;omega
 |n+1,t,v,c,hc,hn,ht,hv,hk,hb,w,d,h=>
  BN hM hK hP hU hr (Wp hM hK hP hU hr n) (TL hM hK hP hU hr n) ht _ v c hc ψ hv hk hb w d h
def Qg4 {M N:Nat}{P:PL}(hM:65536<=M)(hP:P.ok M)(hk:ck P=0)(hN:65536<N){s d:List UInt8}(hd:d.length<=65536)(h:(ZV P N s d Qq).2=0):(ZV P N s d Qq).1.nu<=3+d.length:=by
 have key:(ZR P N s (QC 10 0 []) d Qq).2=0->(ZR P N s (QC 10 0 []) d Qq).1.nu<=3+d.length:=by
  have ho:opn d Qq=(⟨d,0,d.length,65536,1073741824,1073741824⟩,0):=by
   exact O0
  unfold ZR;rw[ho];rcases Z9 s P with hx|hx
  ·rw[Qnj ψ];intro h;cases h
  rw[Qni ψ,Qni (by simp[QC,V.kd]),Qni ό,Qni ϊ];have cU:=Ga (l:=Qq) hd ϊ ϊ;have dc:Z7 (⟨d,0,d.length,Qq.dp-1,Qq.nd,Qq.tx⟩:C) 1=.ok ⟨d,0,d.length,Qq.dp-1,Qq.nd-1,Qq.tx⟩:=by
   unfold Z7 C.spend Qq;rfl
  obtain⟨s1,_⟩:=Xm cU ψ dc;have bN:=s1.ci cU;have aZ:(⟨d,0,d.length,Qq.dp-1,Qq.nd-1,Qq.tx⟩:C).rest=d:=(D0 _ _ _ _).2;have aO:=bN.bd;have pI:(⟨d,0,d.length,Qq.dp-1,Qq.nd-1,Qq.tx⟩:C).left=d.length:=by unfold C.left;rw[aZ]
  rw[dc];dsimp only;generalize (⟨d,0,d.length,Qq.dp-1,Qq.nd-1,Qq.tx⟩:C)=c at bN aO pI |-;intro h;cases hr:Wz P N (Qr s P) (QC 10 0 []) c with
  |error e=>
   exact In
  |ok r=>
   obtain⟨w,d'⟩:=r;have hl:=TL (K:=1000000) hM (Qm8 _) hP (ZF hk) (Xf hk) N (Qr s P) (QC 10 0 []) c bN ψ hx (Xq ψ) (XG rfl ϊ (Qnk _)) ϫ w d' hr;rw[Gc,Wq _ _ ϊ]at hl;have h9:0<=d'.left:=by unfold C.left;omega
   have h8:=RJ (Xf hk) N (Qe P (Qr s P)) (Zf (Xf hk) _) w;show(nrm P N (Qe P (Qr s P)) w).nu<=_;omega
 unfold ZV at h |-;split at h
 ·rename_i h1;exact absurd h h1
 rename_i h1;rw[Qni h1];have h1:(ZR P N s (QC 10 0 []) d Qq).2=0:=Ϭ
 split at h
 ·cases h
 rename_i h2;rw[Qni h2];exact key h1
structure Pm (g:PG)(o:PO)(v w:V):Prop where
 keep:∀s∈v.slots,Xg g o s=false->s∈w.slots
 frm:∀s∈w.slots,s∈v.slots\/s.1=o.num
 raws:∀r∈w.raws,r∈v.raws\/r.num=o.num
 form:v=KP v.slots v.raws->w=KP w.slots w.raws
section
variable {P:PL}{g:PG}{o:PO}
theorem Pm.refl (v:V):Pm g o v v:=⟨λ_ h _=>h,λ_ h=>.inl h,λ_ h=>.inl h,id⟩
theorem Pm.trans {u v w:V}(h:Pm g o u v)(k:Pm g o v w):Pm g o u w :=
 ⟨λs hs hd=>k.keep s (h.keep s hs hd) hd,λs hs=>(k.frm s hs).elim (h.frm s) .inr,λr hr=>(k.raws r hr).elim (h.raws r) .inr,λe=>k.form (h.form e)⟩
theorem YP (v x:V):Pm g o v (X6 g v o x):=by
 refine⟨λs hs hd=>?_,λs hs=>?_,λr hr=>.inl hr,λ_=>rfl⟩
 ·exact Qow.2 (.inl (QoL.2 ⟨hs,by rw[hd];rfl⟩))
 ·rcases Qow.1 hs with hs|hs
  ·exact .inl (QoL.1 hs).1
  ·rw[Qpp]at hs;subst hs;exact .inr rfl
theorem Qg5 (v:V){f:R}(h:f.num=o.num):Pm g o v (Uc v f):=by
 refine⟨λs hs _=>hs,λs hs=>.inl hs,λr hr=>?_,λe=>?_⟩
 ·rcases Qow.1 hr with hr|hr
  ·exact .inl hr
  ·rw[Qpp]at hr;subst hr;exact .inr h
 ·rw[e];rfl
theorem L5 {v w:V}{c d:C}(h:ZY P g v o c=.ok (w,d)):Pm g o v w:=by
 unfold ZY at h;split at h
 ·cases h
 split at h
 ·cases h
 split at h
 ·cases h;exact Qg5 v rfl
 split at h
 ·split at h
  ·split at h
   ·cases h;exact YP _ _
   ·split at h
    ·cases h
    ·cases h;exact YP _ _
  ·cases h;exact YP _ _
 ·cases h
theorem TM:∀(k:Nat) {v w:V} {c d:C},ZS P g o k v c=.ok (w,d)->Pm g o v w
 |0,v,w,c,d,h=>by cases h;exact .refl _
 |k+1,v,w,c,d,h=>by
  rw[ZS]at h;split at h
  ·split at h
   ·cases h
   rename_i v1 c1 h1;exact(L5 h1).trans (TM k h)
  ·cases h;exact .refl _
theorem RT {v w:V}{c i d:C}(h:ZJ P g v o c i=.ok (w,d)):Pm g o v w:=by
 unfold ZJ at h;split at h
 ·cases h
 rename_i h7;cases h;exact TM _ h7
theorem QbD {rec:Int->V->C->Rd V}{v w:V}{c d:C}{wr:Int}(h:XV P rec g v o wr c=.ok (w,d)):Pm g o v w:=by
 unfold XV at h;split at h
 ·split at h
  ·unfold Z8 at h;split at h
   ·cases h
   split at h
   ·cases h
   exact δ
  ·cases h
 split at h
 ·unfold JV at h;split at h
  ·cases h
  split at h
  ·split at h
   ·split at h
    ·exact RT h
    ·split at h
     ·cases h
     exact(YP v _).trans (RT h)
   ·cases h
  ·cases h
 split at h
 ·split at h
  ·unfold JL at h;split at h
   ·exact δ
   ·exact δ
  ·exact L5 h
 ·cases h
end
section
variable {P:PL}{M K n:Nat}(hM:65536<=M)(hK:K<=1000000)(hP:P.ok M)(hU:JD P)(hr:XR P){rec:Int->V->C->Rd V}(ab:Jq P M K n rec){t:Int}(ht:0<=t/\t<(P.progs.length:Int))
include hM hK hP hU hr ab ht in
theorem G7 (T:List R):∀(A:List R) (k:Nat) (v:V) (c:C),Lz P M K n (Qe P t) (A++T) k v c->∀w d,XY P rec t k v c=.ok (w,d)->
  ∃j v1 c1,XY P rec t j v1 c1=.ok (w,d)/\Lz P M K n (Qe P t) T j v1 c1/\(∀s∈v1.slots,s∈v.slots\/∃f∈A,f.num=s.1)/\(∀r∈v1.raws,r∈v.raws\/∃f∈A,f.num=r.num)/\(v=KP v.slots v.raws->v1=KP v1.slots v1.raws)/\
   ∀s∈v.slots,(∀f∈A,∀o,Xd (Qe P t) f.num=some o->Xg (Qe P t) o s=false)->s∈v1.slots
 | [],k,v,c,z,w,d,h=>⟨k,v,c,h,z,λ_ h=>.inl h,λ_ h=>.inl h,id,λ_ h _=>h⟩
 |f :: A,k,v,c,z,w,d,h=>by
  obtain⟨j,v1,c1,h1,z1,hs⟩:=W6 hM hK hP hU hr ab ht z h;obtain⟨j2,v2,c2,h2,z2,a1,a2,a3,a4⟩:=G7 T A j v1 c1 z1 w d h1;have st:(∀s∈v1.slots,s∈v.slots\/s.1=f.num)/\(∀r∈v1.raws,r∈v.raws\/r.num=f.num)/\(v=KP v.slots v.raws->v1=KP v1.slots v1.raws)/\∀s∈v.slots,(∀o,Xd (Qe P t) f.num=some o->Xg (Qe P t) o s=false)->s∈v1.slots:=by
   rcases hs with⟨ho,rfl⟩|⟨o,cc,ho,hn,hf,_⟩
   ·refine⟨λs hs=>.inl hs,λr hr=>?_,λe=>?_,λs hs _=>hs⟩
    ·rcases Qow.1 hr with hr|hr
     ·exact .inl hr
     ·rw[Qpp]at hr;subst hr;exact .inr rfl
    ·rw[e];rfl
   ·have p:=QbD hf;exact⟨λs hs=>(p.frm s hs).imp id λe=>by rw[e,hn],λr hr=>(p.raws r hr).imp id λe=>by rw[e,hn],p.form,λs hs hd=>p.keep s hs (hd o ho)⟩
  obtain⟨b1,b2,b3,b4⟩:=st;refine⟨j2,v2,c2,h2,z2,λs hs=>?_,λr hr=>?_,λe=>a3 (b3 e),λs hs hd=>a4 s (b4 s hs λo ho=>hd f ό o ho) λg hg o ho=>hd g ĳ o ho⟩
  ·rcases a1 s hs with h|⟨g,hg,e⟩
   ·rcases b1 s h with h|h
    ·exact .inl h
    ·exact .inr ⟨f,ό,h.symm⟩
   ·exact .inr ⟨g,ĳ,e⟩
  ·rcases a2 r hr with h|⟨g,hg,e⟩
   ·rcases b2 r h with h|h
    ·exact .inl h
    ·exact .inr ⟨f,ό,h.symm⟩
   ·exact .inr ⟨g,ĳ,e⟩
include hM hK hP hU hr ab ht in
theorem BO {k:Nat}{v:V}{c:C}(z:Lz P M K n (Qe P t) [] k v c){w:V}{d:C}(h:XY P rec t k v c=.ok (w,d)):w=v:=by
 have h0:c.left=0:=by rw[Q0,z.rest];rfl
 cases k with
 |zero=>cases h;rfl
 |succ k=>
  rw[XY,Qni ψ]at h;cases h;rfl
end
def RU {M N:Nat}{P:PL}(hM:65536<=M)(hP:P.ok M)(hk:ck P=0)(hN:65536<N){s:List UInt8}{L:List R}(hL:∀f∈L,Gf f)(hd:(QI L).length<=65536)(h:(ZV P N s (QI L) Qq).2=0) :
  (0<=Qr s P/\Qr s P<(P.progs.length:Int))/\∃(n k:Nat) (w:V) (c d:C),N=n+1/\65536<=n/\Lz P M 1000000 n (Qe P (Qr s P)) L k (KP [] []) c/\XY P (Wz P n) (Qr s P) k (KP [] []) c=.ok (w,d)/\(ZV P N s (QI L) Qq).1=nrm P N (Qe P (Qr s P)) w:=by
 have key:(ZR P N s (QC 10 0 []) (QI L) Qq).2=0->(0<=Qr s P/\Qr s P<(P.progs.length:Int))/\∃(n k:Nat) (w:V) (c d:C),N=n+1/\65536<=n/\Lz P M 1000000 n (Qe P (Qr s P)) L k (KP [] []) c/\XY P (Wz P n) (Qr s P) k (KP [] []) c=.ok (w,d)/\(ZR P N s (QC 10 0 []) (QI L) Qq).1=nrm P N (Qe P (Qr s P)) w:=by
  have ho:opn (QI L) Qq=(⟨QI L,0,(QI L).length,65536,1073741824,1073741824⟩,0):=by
   exact O0
  unfold ZR;rw[ho];rcases Z9 s P with hx|hx
  ·rw[Qnj ψ];intro h;cases h
  rw[Qni ψ,Qni (by simp[QC,V.kd]),Qni ό,Qni ϊ];have cU:=Ga (l:=Qq) hd ϊ ϊ;have dc:Z7 (⟨QI L,0,(QI L).length,Qq.dp-1,Qq.nd,Qq.tx⟩:C) 1=.ok ⟨QI L,0,(QI L).length,Qq.dp-1,Qq.nd-1,Qq.tx⟩:=by
   unfold Z7 C.spend Qq;rfl
  obtain⟨s1,_⟩:=Xm cU ψ dc;have bN:=s1.ci cU;have aZ:(⟨QI L,0,(QI L).length,Qq.dp-1,Qq.nd-1,Qq.tx⟩:C).rest=QI L:=(D0 _ _ _ _).2;have d9:CT (⟨QI L,0,(QI L).length,Qq.dp-1,Qq.nd-1,Qq.tx⟩:C):=⟨bN,by show(0:Int)<=1073741824;omega⟩;have fm:(65536:Int)<=(⟨QI L,0,(QI L).length,Qq.dp-1,Qq.nd-1,Qq.tx⟩:C).tx:=by show(65536:Int)<=1073741824;omega
  have aO:=bN.bd;rw[dc];dsimp only;generalize (⟨QI L,0,(QI L).length,Qq.dp-1,Qq.nd-1,Qq.tx⟩:C)=c at aZ d9 aO fm |-;intro h;obtain⟨n,rfl⟩:∃n,N=n+1:=⟨N-1,ψ⟩;cases hr:Wz P (n+1) (Qr s P) (QC 10 0 []) c with
  |error e=>
   exact In
  |ok r=>
   obtain⟨w,d⟩:=r;exact⟨hx,n,c.left.toNat,w,c,d,rfl,ψ,⟨d9,fm,ψ,ψ,Xq ψ,XG rfl ϊ (Qnk _),Ċ,aZ,hL⟩,hr,rfl⟩
 exact zX
def QbE {M N:Nat}{P:PL}(hM:65536<=M)(hP:P.ok M)(hk:ck P=0)(hN:65536<N){s:List UInt8}{L:List R}(hL:∀f∈L,Gf f)(hd:(QI L).length<=65536)(h:(ZV P N s (QI L) Qq).2=0) :
  (∀u∈(ZV P N s (QI L) Qq).1.slots,∃f∈L,f.num=u.1)/\∀r∈(ZV P N s (QI L) Qq).1.raws,∃f∈L,f.num=r.num:=by
 obtain⟨hx,n,k,w,c,d,rfl,hn,z,hl,e⟩:=RU hM hP hk hN hL hd h;have hU:=ZF hk;have hr:=Xf hk;have hK:=Qm8 1000000;have ak:=Wp (K:=1000000) hM hK hP hU hr n;obtain⟨j,v1,c1,h1,z1,a1,a2,_⟩:=G7 hM hK hP hU hr ak hx [] L k (KP [] []) c Ę w d hl;have hw:=BO hM hK hP hU hr ak hx z1 h1;subst hw;rw[e];refine⟨λu hu=>?_,λr hr=>?_⟩
 ·obtain⟨q,_,hq⟩:=QnX.1 (show u∈(Qe P (Qr s P)).ops.flatMap (Xb (nrm P n) P w.slots)from hu);obtain⟨e1,y,mE,yA,_⟩:=XU hq;rcases a1 y mE with h|⟨f,hf,e3⟩
  ·cases h
  ·exact⟨f,hf,by rw[e3,yA,e1]⟩
 ·have aH:r∈w.raws:=(QN w.raws).mem_iff.1 hr;rcases a2 r aH with h|h
  ·cases h
  ·exact h
section
variable {α:Type}
theorem L6 {L:List R}(h:L.Pairwise λa b=>a.num<=b.num)(k:Int):L=L.filter (λf=>decide (f.num<k))++(L.filter (λf=>f.num==k)++L.filter λf=>decide (k<f.num)):=by
 induction L with
 |nil=>rfl
 |cons f L ih=>
  obtain⟨h1,h2⟩:=QoN.1 h;have ih:=ih h2;simp only[QoQ];by_cases c1:f.num<k
  ·rw[Qnj (Qpe c1),Qni Ϗ,Qni Ϗ,Qnx,<-ih]
  ·have e1:L.filter (λf=>decide (f.num<k))=[]:=QpE.2 λx hx=>by have:=h1 x hx;simp;omega
   rw[Qni (by simpa using c1)];rw[e1,Qny]at ih |-;by_cases c2:f.num=k
   ·rw[Qnj (by simpa using c2),Qni Ϗ,Qnx,<-ih]
   ·have e2:L.filter (λf=>f.num==k)=[]:=QpE.2 λx hx=>by have:=h1 x hx;simp;omega
    rw[Qni (by simpa using c2),Qnj Ϗ];rw[e2,Qny]at ih |-;rw[<-ih]
end
def RV {bd:Int->V->List UInt8}{g:PG}{k:Int}:∀(sl:List (Int×V)) (rs:List R),(∀s∈sl,∀f∈ZK bd g s,f.num=s.1)->(∀s∈sl,s.1≠k)->(Xn bd g sl rs).filter (λf=>f.num==k)=rs.filter λf=>f.num==k
 | [],_,_,_=>rfl
 |s :: sl,rs,h,hk=>by
  have ih:=RV sl (rs.dropWhile λr=>decide (r.num<s.1)) (λu hu=>h u ē) λu hu=>hk u ē
  have e:(ZK bd g s).filter (λf=>f.num==k)=[]:=QpE.2 λf hf=>by
   rw[h s ό f hf]
   simpa using hk s ό
  rw[Xn,QoP,QoP,e,Qof,ih,<-QoP,QpD]
def L7 {sl:List (Int×V)}(h:sl.Pairwise λx y=>x.1<y.1){s:Int×V}(hs:s∈sl):sl.find? (λy=>y.1==s.1)=some s:=by
 induction sl with
 |nil=>cases hs
 |cons x sl ih=>
  obtain⟨h1,h2⟩:=QoN.1 h;rw[Qo7];rcases Qoz.1 hs with rfl|hs
  ·simp
  ·have:=h1 s hs;rw[show(x.1==s.1)=false by rw[Qo2];omega];exact ih h2 hs
def QeM {sl:List (Int×V)}(h:sl.Pairwise λx y=>(x.1==y.1)=false){s:Int×V}(hs:s∈sl):sl.find? (λy=>y.1==s.1)=some s:=by
 induction sl with
 |nil=>cases hs
 |cons x sl ih=>
  obtain⟨h1,h2⟩:=QoN.1 h;rw[Qo7];rcases Qoz.1 hs with rfl|hs
  ·simp
  ·rw[h1 s hs];exact ih h2 hs
def Ba {bd:Int->V->List UInt8}{g:PG}:∀ {sl:List (Int×V)},(sl.Pairwise λx y=>x.1<y.1)->(∀s∈sl,∀f∈ZK bd g s,f.num=s.1)->∀s∈sl,(sl.flatMap (ZK bd g)).filter (λf=>f.num==s.1)=ZK bd g s
 | [],_,_,s,hs=>nomatch hs
 |x :: sl,h,hn,s,hs=>by
  obtain⟨h1,h2⟩:=QoN.1 h;rw[QoH,QoP];rcases Qoz.1 hs with rfl|hs
  ·have e1:(ZK bd g s).filter (λf=>f.num==s.1)=ZK bd g s:=QoR.2 λf hf=>by rw[hn s ό f hf];simp
   have e2:(sl.flatMap (ZK bd g)).filter (λf=>f.num==s.1)=[]:=QpE.2 λf hf=>by
    obtain⟨y,hy,hf⟩:=QnX.1 hf;have:=h1 y hy;rw[hn y ϳ f hf];simp;omega
   rw[e1,e2,Qof]
  ·have e1:(ZK bd g x).filter (λf=>f.num==s.1)=[]:=QpE.2 λf hf=>by
    have:=h1 s hs;rw[hn x ό f hf];simp;omega
   rw[e1,Qny];exact Ba h2 (λy hy=>hn y ϳ) s hs
def BP {m:PG->V->Int}{P:PL}{g:PG}{sl:List (Int×V)}(h:IX m P g sl):∀a∈sl,∀b∈sl,a.1≠b.1->∀o,Xd g a.1=some o->Xg g o b=false:=by
 have key:∀a b:Int×V,a.1≠b.1->((∀o,Xd g a.1=some o->We g o b=false)\/∀o,Xd g b.1=some o->We g o a=false)->∀o,Xd g a.1=some o->Xg g o b=false:=by
  intro a b dE hu o ho;unfold Xg;rw[Qn4];refine⟨by rw[(ZX ho).2,Qo2];exactλe=>dE e.symm,?_⟩;cases hb:Xd g b.1 with
  |none=>rfl
  |some q=>
   dsimp only;rw[Qpj];rcases hu with hu|hu
   ·have:=hu o ho;unfold We at this;rw[hb]at this;simp only[Qon,Qpj,bne_eq_false_iff_eq,Qo2]at this;rcases this with e|e
    ·exact .inl (by rw[e];rfl)
    ·exact .inr Μ
   ·have:=hu q hb;unfold We at this;rw[ho]at this;simp only[Qon,Qpj,bne_eq_false_iff_eq,Qo2]at this;rcases this with e|e
    ·by_cases h0:o.union>=0
     ·right
      rw[Qo2];omega
     ·exact .inl (Qo8 h0)
    ·right
     rw[Qo2];exactλe2=>e e2.symm
 obtain⟨h1,h2,h3⟩:=h;clear h1 h2
 induction sl with
 |nil=>intro a ha;cases ha
 |cons x sl ih=>
  obtain⟨p1,p2⟩:=QoN.1 h3;intro a ha b hb dE o ho;rcases Qoz.1 ha with ea|li<;>rcases Qoz.1 hb with eb|eN
  ·exact absurd (by rw[ea,eb]) dE
  ·exact key a b dE (.inr (by rw[ea];exact p1 b eN)) o ho
  ·exact key a b dE (.inl (by rw[eb];exact p1 a li)) o ho
  ·exact ih p2 a li b eN dE o ho
end Va
end Go.Proofs.YtmlohboeoeoamaaGreatDoor

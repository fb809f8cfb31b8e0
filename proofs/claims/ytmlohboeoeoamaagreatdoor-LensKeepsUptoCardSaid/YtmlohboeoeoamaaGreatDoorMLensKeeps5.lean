/- Parts of the proof, in order. -/
import Derived.Test.YtmlohboeoeoamaaGreatDoorMLensKeeps4

set_option linter.unusedSimpArgs false
namespace Go.Proofs.YtmlohboeoeoamaaGreatDoor.Va
open Go Am Rc Bt Br Up So Vp Cp

section
variable {M K n:Nat}(hM:65536<=M)(hK:K<=1000000)(P:PL)(hP:P.ok M)(l s:Nat)(m:Qk)(hm:l<m.length){rec:Int->V->C->Rd V}(hrec:F9 P M K n rec)(hro:Wb P M K n rec)(g:PG)(hg:g.ops.length<=maxLen)(o:PO)(ho:OpK P g o)(h5:o.card=5)
 (c:C) (hs:Am.Qc m l s=Xi P c) (hc:CI c) (hcn:c.left<=n) (v:V) (hvm:MW P (n+1) g v) (hvo:v.ok M) (hb:(v.cnt:Int)+3*c.left+3<=K) (hkd:(Lit.int .i64 o.kind).wf=true)

set_option maxHeartbeats 1000000 in
include hM hK hP hm hrec hro hg ho h5 hs hc hcn hvm hvo hb hkd in
theorem Qjl :
  Qe Tryz.prog 280 [.ptr l s 0,Qm g,v.av,Qu o] m (Rt P l s m V.av (JZ P rec g v o c)):=by
 have hs0:=hs;have lp:∀o,Am.Qc (Am.put m l s o) l s=o:=fun o=>Qs hm
 have pp:∀o q,Am.put (Am.put m l s o) l s q=Am.put m l s q:=fun o q=>put_put
 have hpl:∀o,l+1<(Am.put m l s o).length+1:=fun o=>qK
 have ls:=XP v;have hcv:=X9 v;have hcb:=hc.bd;have hky:=ho.uo.key h5;have hfd:=Pi v o.num xw;have hset:=fun x=>Ts g v o x hg xw
 have hol:=Du (n:=o.num) hvo;have hoc:=D8 v o.num;have hpo:((∀p∈(Q2 v o.num).pairs,p.1.kx P o.key))/\(Q2 v o.num).pairs.Pairwise fun q p=>XE q.1 p.1=false:=by
  cases hf:XY v o.num with
  |none=>
   rw[Ji qj];exact⟨fun p hp=>(nomatch hp),.nil⟩
  |some z=>
   have h4:=HG hvm ho.self hf;unfold FW at h4;rw[Qlu xw,Qlv h5]at h4;rw[(Xz hf).2];exact⟨fun p hp=>(h4.1 p hp).1,h4.2⟩
 have hx0:XI P M n o (QN o.key 0 [],QN o.kind 0 []):=by
  exact z9
 have lpz:=Jw (Q2 v o.num);unfold JZ;generalize Q2 v o.num=z at hfd hol hoc hpo lpz ⊢;rw[Qd v,Qd z]at hfd;rw[Qd v]at hset;simp only[Qm,Qu,PG.cells,PO.cells]at hset;rw[Qd v];refine wG Tryz.func280 ?_;simp only[eK,Tryz.f280,seval];simp only[Qm,Qu,PG.cells,PO.cells,eE,seval];refine QO (Tt P c (l+1) s _ xX hs0 hc) xF ?_;intro x m1 hx _;cases hr:ZU c with
 |error e=>
  rw[hr]at hx;obtain⟨he,y,c',rfl,rfl⟩:=hx;exact x9
 |ok p=>
 obtain⟨q,d⟩:=p;obtain⟨a1,a2⟩:=Kn hc hr;have hd:=a1.ci hc;have hl1:=a1.lt hc;have hdb:=hd.bd;rw[hr]at hx;obtain⟨rfl,rfl⟩:=hx;obtain⟨_,p2,p3⟩:=Jr hd a2;dsimp only;simp only[Xi,WL,eE,seval];refine aC hfd ?_;simp only[eE,seval];refine QO (QeF P d (l+1) s _ kM q) xF ?_;rintro x m1 ⟨rfl,rfl⟩ _;cases hf:(XY v o.num).isSome
 case false=>
  have hkk:(if (false:Bool)=true then(2:Int)else 3)=3:=rfl;rw[hkk];simp only[C.av,Xi,pp,Jj,eE,seval];refine QO (F8 P (part d q) (l+1) s _ kM 3) xF ?_;rintro x m1 ⟨rfl,rfl⟩ _;rcases K3 (part d q) 3 with⟨i,h2,h2'⟩|⟨e,he,h2,h2'⟩
  case inr=>
   rw[h2,h2'];dsimp only;exact zw
  rw[h2,h2'];obtain⟨s1,_⟩:=Zm p2 xw h2;have hci:=s1.ci p2;have hls:=(s1.left p2).2.2;have hib:=hci.bd;dsimp only;simp only[Xi,pp,WL,eE,seval];have hio:∀x j,K0 P rec o i.left.toNat (QN o.key 0 [],QN o.kind 0 []) false false i=.ok (x,j)->XI P M n o x:=fun x j h3=>(Ul hM ho hro h5 _ hci xw xw hx0 h3).2.1
  exact o0

 case true=>
  have hkk:(if (true:Bool)=true then(2:Int)else 3)=2:=rfl;rw[hkk];simp only[C.av,Xi,pp,Jj,eE,seval];refine QO (F8 P (part d q) (l+1) s _ kM 2) xF ?_;rintro x m1 ⟨rfl,rfl⟩ _;rcases K3 (part d q) 2 with⟨i,h2,h2'⟩|⟨e,he,h2,h2'⟩
  case inr=>
   rw[h2,h2'];dsimp only;exact zw
  rw[h2,h2'];obtain⟨s1,_⟩:=Zm p2 xw h2;have hci:=s1.ci p2;have hls:=(s1.left p2).2.2;have hib:=hci.bd;dsimp only;simp only[Xi,pp,WL,eE,seval];have hio:∀x j,K0 P rec o i.left.toNat (QN o.key 0 [],QN o.kind 0 []) false false i=.ok (x,j)->XI P M n o x:=fun x j h3=>(Ul hM ho hro h5 _ hci xw xw hx0 h3).2.1
  exact o0
end

section
variable {M K n:Nat}(hM:65536<=M)(hK:K<=1000000)(P:PL)(hP:P.ok M)(l s:Nat)(m:Qk)(hm:l<m.length){rec:Int->V->C->Rd V}(hrec:F9 P M K n rec)(hro:Wb P M K n rec)(g:PG)(hg:g.ops.length<=maxLen)(o:PO)(ho:OpK P g o)
 (c:C) (hs:Am.Qc m l s=Xi P c) (hc:CI c) (hcn:c.left<=n) (v:V) (hvm:MW P (n+1) g v) (hvo:v.ok M) (hb:(v.cnt:Int)+3*c.left+3<=K) (hkd:(Lit.int .i64 o.kind).wf=true)

include hM hK hP hm hrec hro hg ho hs hc hcn hvm hvo hb hkd in
theorem Qjm (wr:Int) :
  Qe Tryz.prog 218 [.ptr l s 0,Qm g,v.av,Qu o,.int .i64 wr] m (Rt P l s m V.av (Jh P rec g v o wr c)):=by
 have hcv:=X9 v;have hcb:=hc.bd;have hwo:=Ph o;have hpk:=Iz o.num o.name o.alias o.card o.key o.kind o.target o.union;have hen:=fun(fr:Nat->Ob) (h5:o.card=5)=>Qjl hM hK P hP (l+1) s (fr :: m) xX hrec hro g hg o ho h5 c (by exact hs) hc hcn v hvm hvo hb hkd
 have hpa:=fun(fr:Nat->Ob) (h5:o.card≠5) (h4:o.card=4)=>Qjk (n:=n) hM hK P hP (l+1) s (fr :: m) xX g hg o ho h5 c (by exact hs) hc v hvm hvo xw h4
 have hne:=fun(fr:Nat->Ob) (h10:o.kind=10) (h5:o.card≠5)=>Qjj P c (l+1) s (fr :: m) xX (by exact hs) hc hrec hcn xw g hg v xw hK hvo o ho h10 h5 hvm
 have hon:=fun(fr:Nat->Ob)=>QeI P hP c (l+1) s (fr :: m) xX (by exact hs) hc g hg v xw o
 rw[Qd v]at hen hpa hne hon;simp only[Qm,Qu,oc,PG.cells,PO.cells]at hwo hpk hen hpa hne hon;unfold Jh;rw[Qd v];refine wG Tryz.func218 ?_;simp only[eK,Tryz.f218,seval];simp only[Qm,Qu,PG.cells,PO.cells,eE,seval];by_cases h5:o.card=5
 ·have b5:(o.card==5)=true:=q7
  rw[Qlv h5];simp only[b5,Qa,seval];by_cases h6:wr=6
  case neg=>
   have b6:(wr != 6)=true:=by simp[h6]
   rw[Qlu h6];simp only[b6,eE,seval];exact⟨xy,v,c,by rw[Qd v];rfl,(put_self hm hs).symm⟩
  have b6:(wr != 6)=false:=by simp[h6]
  rw[Qlv h6];simp only[b6,eE,seval];refine QO (hen _ h5) xF ?_;intro x m1 hx _;cases hr:JZ P rec g v o c with
  |error e=>
   exact ow
  |ok p=>
   obtain⟨w,d⟩:=p;rw[hr]at hx;obtain⟨rfl,rfl⟩:=hx;simp only[Qd w,QY,eE,seval];exact⟨qd,rfl⟩
 have b5:(o.card==5)=false:=q7
 rw[Qlu h5];simp only[b5,Qa,seval];by_cases hp:wr=5/\pk o.card o.kind=true
 ·obtain⟨hw5,hpk'⟩:=hp;have b6:(wr==5)=true:=by simp[hw5]
  have h4:o.card=4:=by
   unfold pk at hpk';rw[QlM,Qls]at hpk';exact hpk'.1
  rw[Qlv ⟨hw5,hpk'⟩];rw[hpk']at hpk;simp only[b6,eE,seval];refine aC hpk ?_;simp only[eE,seval];refine QO (hpa _ h5 h4) xF ?_;intro x m1 hx _;cases hr:Wq P g v o c with
  |error e=>
   exact ow
  |ok p=>
   obtain⟨w,d⟩:=p;rw[hr]at hx;obtain⟨rfl,rfl⟩:=hx;simp only[Qd w,QY,eE,seval];exact⟨qd,rfl⟩
 rw[Qlu hp];by_cases hw5:wr=5
 ·have b6:(wr==5)=true:=by simp[hw5]
  have hpf:pk o.card o.kind=false:=by
   cases h:pk o.card o.kind
   ·rfl
   ·exact absurd ⟨hw5,h⟩ hp
  rw[hpf]at hpk;simp only[b6,eE,seval];refine aC hpk ?_;simp only[eE,seval];exact oo
 ·have b6:(wr==5)=false:=by simp[hw5]
  simp only[b6,eE,seval];exact oo

end

theorem QeO {g:PG}{n:Int}{i:Nat}{x:PO}(h:g.ops[i]? = some x)(hd:Q7 g n=(g.ops.drop i).find? fun o=>o.num==n) :
  (x.num=n/\Q7 g n=some x)\/x.num≠n/\Q7 g n=(g.ops.drop (i+1)).find? fun o=>o.num==n:=by
 have hlt:=(Qlm.1 h).1;have hx:=(Qlm.1 h).2;rw[Ql7 hlt,Qnk,hx]at hd;by_cases hb:x.num=n
 ·rw[show(x.num==n)=true from by simp[hb]]at hd;exact .inl ⟨hb,hd⟩
 ·rw[show(x.num==n)=false from by simp[hb]]at hd;exact .inr ⟨hb,hd⟩
theorem Qcw {g:PG}{n:Int}{i:Nat}(h:¬i<g.ops.length)(hd:Q7 g n=(g.ops.drop i).find? fun o=>o.num==n):Q7 g n=none:=by
 rw[hd,Ql1 xw];rfl
theorem UL {P:PL}{t:Int}(ht:0<=t/\t<(P.progs.length:Int)):Qg P t∈P.progs/\P.progs[t.toNat]? = some (Qg P t):=by
 unfold Qg;rw[Qln (by omega:t.toNat<P.progs.length)];exact⟨Qmg _,rfl⟩
theorem Qba {g:PG}{i:Nat}{o:PO}(h:g.ops[i]? = some o):(g.ops.map fun o=>AV.agg o.cells)[i]? = some (.agg o.cells):=by
 rw[QmN,h];rfl

structure FlF (g:PG)(v:V)(t:Int)(l s:Nat)(f:Fr)(fr:Nat->Ob):Prop where
 f0:f 0=.ptr (l+1) s 0
 f1:f 1=.int .i64 t
 f5:f 5=.ptr 0 5 0
 f6:f 6=.ptr 0 6 0
 f8:f 8=.ptr 0 8 0
 m5:fr 5=.cells (vc v)
 m6:fr 6=.cells J0
 m8:fr 8=.cells g.cells
structure FoF (g:PG)(c:C)(num wr:Int)(cc:C)(f:Fr)(fr:Nat->Ob):Prop where
 f9:f 9=.ptr 0 9 0
 f10:f 10=.int .i64 num
 f11:f 11=.int .i64 wr
 f12:f 12=.ptr 0 12 0
 f47:f 47=.list (g.ops.map fun o=>AV.agg o.cells)
 f48:f 48=.int .i64 (g.ops.length:Nat)
 m9:fr 9=.cells (WM c)
 m12:fr 12=.cells (WM cc)
 n16:fr 16=.none

section
variable {M K n:Nat}(hM:65536<=M)(hK:K<=1000000)(P:PL)(hP:P.ok M)(hU:JX P)(hr:Zo P)(l s:Nat)(m:Qk)(hm:l<m.length){rec:Int->V->C->Rd V}(hrec:F9 P M K n rec)(hro:Wb P M K n rec)(t:Int)(ht:0<=t/\t<(P.progs.length:Int))

include hM hK hP hm hrec hro hU hr ht in
theorem Qcx {cL:RC}(v:V)(c cc:C)(num wr:Int)(hcc:CI cc)(hcn:cc.left<=n)(hvm:MW P (n+1) (Qg P t) v)(hvo:v.ok M)(hb:(v.cnt:Int)+3*cc.left+3<=K)(f:Fr)(fr:Nat->Ob)(hf:FlF (Qg P t) v t l s f fr)(hg:FoF (Qg P t) c num wr cc f fr)(h49:f 49=.int .i64 0)(h15:(fr 15).isRow=false)(Q:Exit->St->Prop)
  (h2:∀f fr,FlF (Qg P t) v t l s f fr->FoF (Qg P t) c num wr cc f fr->(fr 15).isRow=false->Q7 (Qg P t) num=none->Q (.exit 2) ⟨f,fr :: Am.put m l s (Xi P c),[]⟩)
  (h1:∀f fr o w d,FlF (Qg P t) w t l s f fr->(∀s∈[16,15,12,9],(fr s).isRow=false)->Q7 (Qg P t) num=some o->Jh P rec (Qg P t) v o wr cc=.ok (w,d)->Q (.exit 1) ⟨f,fr :: Am.put m l s (Xi P d),[]⟩)
  (he:∀f fr o w (e:Nat) d,f 6=.ptr 0 6 0->fr 6=.cells (vc w)->f 7=.int .i64 (e:Nat)->Q7 (Qg P t) num=some o->Jh P rec (Qg P t) v o wr cc=.error e->e≠0->Q .ret ⟨f,fr :: Am.put m l s (Xi P d),[]⟩) (hcL:lp 129 1 Tryz.f129=cL:=by simp only[eL,eK,Tryz.f129,seval]) :
  QU Tryz.prog (.loop cL) ⟨f,fr :: Am.put m l s (Xi P c),[]⟩ Q:=by
 subst hcL;simp only[eL,eK,Tryz.f129,seval];have lp:∀o,Am.Qc (Am.put m l s o) l s=o:=fun o=>Qs hm
 have pp:∀o q,Am.put (Am.put m l s o) l s q=Am.put m l s q:=fun o q=>put_put
 have hpl:∀o,l+1<(Am.put m l s o).length+1:=fun o=>qK
 have hgl:(Qg P t).ops.length<=maxLen:=(hP.progs _ (UL ht).1).len
 let I:Nat->St->Prop:=fun k st=>∃f fr i,st=⟨f,fr :: Am.put m l s (Xi P c),[]⟩/\k=(Qg P t).ops.length-i/\i<=(Qg P t).ops.length/\(Q7 (Qg P t) num=((Qg P t).ops.drop i).find? fun o=>o.num==num)/\FlF (Qg P t) v t l s f fr/\FoF (Qg P t) c num wr cc f fr/\f 49=.int .i64 (i:Nat)/\(fr 15).isRow=false
 refine Qi I _ ⟨f,fr,0,rfl,rfl,Qlx _,rfl,hf,hg,h49,h15⟩ ?_;clear hf hg h49 h15;rintro k st ⟨f0,fr0,i,rfl,rfl,hil,hfd,⟨h00,h10,h50,h60,h80,m50,m60,m80⟩,⟨h90,h100,h110,h120,h470,h480,m90,m120,n160⟩,h490,n150⟩;refine QL (a:=_) [15] (by intro s hs;simp only[QnC]at hs;subst hs;exact n150) ?_;intro f fr hf hmm hn15;have h0:f 0=.ptr (l+1) s 0:=qx
 have h1':f 1=.int .i64 t:=kj
 have h5:f 5=.ptr 0 5 0:=jN
 have h6:f 6=.ptr 0 6 0:=jV
 have h8:f 8=.ptr 0 8 0:=jM
 have h9:f 9=.ptr 0 9 0:=ki
 have h10':f 10=.int .i64 num:=qP
 have h11:f 11=.int .i64 wr:=kH
 have h12:f 12=.ptr 0 12 0:=ku
 have h47:f 47=.list ((Qg P t).ops.map fun o=>AV.agg o.cells):=by rw[hf,h470]<;>rfl
 have h48:f 48=.int .i64 ((Qg P t).ops.length:Nat):=by rw[hf,h480]<;>rfl
 have h49:f 49=.int .i64 (i:Nat):=by rw[hf,h490]<;>rfl
 have m5':fr 5=.cells (vc v):=kA
 have m6':fr 6=.cells J0:=qD
 have m8':fr 8=.cells (Qg P t).cells:=q6
 have m9':fr 9=.cells (WM c):=by rw[hmm 9 xy,m90]<;>rfl
 have m12':fr 12=.cells (WM cc):=by rw[hmm 12 xy,m120]<;>rfl
 have n15:=hn15 15 xy;have n16':fr 16=.none:=by rw[hmm 16 xy,n160]<;>rfl
 clear hf hmm hn15 h00 h10 h50 h60 h80 h90 h100 h110 h120 h470 h480 h490 m50 m60 m80 m90 m120 n160 n150;have m5:=m5';have m6:=m6';have m8:=m8';have m12:=m12';simp only[vc]at m5;simp only[J0]at m6;simp only[PG.cells]at m8;simp only[WM]at m12;simp only[h48,h49,Qa,seval];by_cases hlt:i<(Qg P t).ops.length
 case neg=>
  simp only[QI hlt,Qa,seval];exact h2 _ _ ⟨xO,wP,xN,xU,xV,m5',m6',m8'⟩ ⟨j7,(by exact h10'),jY,jP,(by exact h47),(by exact h48),m9',m12',n16'⟩ (by rw[n15]<;>rfl) (Qcw hlt hfd)
 obtain⟨o,hi⟩:∃o,(Qg P t).ops[i]? = some o:=⟨_,Qln hlt⟩;have hgo:((Qg P t).ops.map fun o=>AV.agg o.cells)[i]? = some (.agg [.int .i64 o.num,.str o.name,.str o.alias,.int .i64 o.card,.int .i64 o.key,.int .i64 o.kind,.int .i64 o.target,.int .i64 o.union]):=Qba hi;have e1:=Qr i _ hlt hgl;simp only[QB hlt,h47,h49,Qp,QmS,Qf,hgo,h10',n15,WL,eE,seval];rcases QeO hi hfd with⟨hn,hop⟩|⟨hn,hfd'⟩
 case inr=>
  have b1:(o.num != num)=true:=by simp[hn]
  simp only[b1,h49,e1,Qa,seval];exact⟨(Qg P t).ops.length-(i+1),xw,_,_,i+1,rfl,rfl,xw,hfd',⟨xO,wP,xN,xU,xV,j9,ko,kW⟩,⟨j7,(by exact h10'),jY,jP,(by exact h47),(by exact h48),(by exact m9'),(by exact m12'),(by exact n16')⟩,xx,xx⟩
 have b1:(o.num != num)=false:=by simp[hn]
 obtain⟨ho,hkd,_⟩:=Cj hP hU hr ht hop;have hfl:=fun(fr:Nat->Ob)=>Qjm (n:=n) hM hK P hP (l+1) s (fr :: Am.put m l s (Xi P cc)) vr hrec hro (Qg P t) hgl o ho cc kM hcc hcn v hvm hvo hb hkd wr
 rw[Qd v]at hfl;simp only[Qm,Qu,PG.cells,PO.cells,Xi]at hfl;simp only[b1,h0,h5,h8,h11,h12,m5,m8,m12,lp,pp,Xi,JA,Jj,eE,seval];refine QO (hfl _) xB ?_;intro y m1 hy _;cases hrr:Jh P rec (Qg P t) v o wr cc with
 |error e=>
  rw[hrr]at hy;obtain⟨he',w,d,rfl,rfl⟩:=hy;simp only[Qd w,Xa he',h5,h6,m5,m6,pp,eE,seval];exact he _ _ o w e d xU xx xx hop hrr he'
 |ok p=>
  obtain⟨w,d⟩:=p;rw[hrr]at hy;obtain⟨rfl,rfl⟩:=hy;simp only[Qd w,h5,m5,pp,eE,seval];exact h1 _ _ o w d ⟨xO,wP,xN,xU,xV,xx,ko,kW⟩ (by
   intro s hs;simp only[QmM,QnI,or_false]at hs;rcases hs with rfl|rfl|rfl|rfl
   ·show(fr 16).isRow=false;rw[n16'];rfl
   ·rfl
   ·show(fr 12).isRow=false;rw[m12'];rfl
   ·show(fr 9).isRow=false;rw[m9'];rfl) hop hrr

set_option maxHeartbeats 1000000 in
include hM hK hP hm hrec hro hU hr ht in
theorem Qcy {cL:RC}(R0:Rd V)(k:Nat)(v:V)(c:C)(f:Fr)(fr:Nat->Ob)(hf:FlF (Qg P t) v t l s f fr)(hrow:∀s∈[16,15,12,9],(fr s).isRow=false)(hc:CI c)(hk:c.left<=k)(hcn:c.left<=n)(hR:ZW P rec t k v c=R0)(hvm:MW P (n+1) (Qg P t) v)(hvo:v.ok M)(hb:(v.cnt:Int)+3*c.left<=K)(Q:Exit->St->Prop)
  (hx:∀f fr v c,FlF (Qg P t) v t l s f fr->R0=.ok (v,c)->Q (.exit 0) ⟨f,fr :: Am.put m l s (Xi P c),[]⟩)
  (he:∀f fr w (e:Nat) c,f 6=.ptr 0 6 0->fr 6=.cells (vc w)->f 7=.int .i64 (e:Nat)->R0=.error e->e≠0->Q .ret ⟨f,fr :: Am.put m l s (Xi P c),[]⟩) (hcL:lp 129 0 Tryz.f129=cL:=by simp only[eL,eK,Tryz.f129,seval]) :
  QU Tryz.prog (.loop cL) ⟨f,fr :: Am.put m l s (Xi P c),[]⟩ Q:=by
 subst hcL;simp only[eL,eK,Tryz.f129,seval];have lp:∀o,Am.Qc (Am.put m l s o) l s=o:=fun o=>Qs hm
 have pp:∀o q,Am.put (Am.put m l s o) l s q=Am.put m l s q:=fun o q=>put_put
 let I:Nat->St->Prop:=fun k st=>∃f fr v c,st=⟨f,fr :: Am.put m l s (Xi P c),[]⟩/\FlF (Qg P t) v t l s f fr/\(∀s∈[16,15,12,9],(fr s).isRow=false)/\CI c/\c.left<=k/\c.left<=n/\ZW P rec t k v c=R0/\MW P (n+1) (Qg P t) v/\v.ok M/\(v.cnt:Int)+3*c.left<=K
 refine Qi I k ⟨f,fr,v,c,rfl,hf,hrow,hc,hk,hcn,hR,hvm,hvo,hb⟩ ?_;clear hf hrow hc hk hcn hR hvm hvo hb;rintro k st ⟨f0,fr0,v,c,rfl,⟨h00,h10,h50,h60,h80,m50,m60,m80⟩,hrow,hc,hk,hcn,hR,hvm,hvo,hb⟩;have hcb:=hc.bd;have hcv:=X9 v;have lr:=JI v;refine QL (a:=_) [16,15,12,9] hrow ?_;intro f fr hf hmm hn;have h0:f 0=.ptr (l+1) s 0:=qx
 have h1':f 1=.int .i64 t:=kj
 have h5:f 5=.ptr 0 5 0:=jN
 have h6:f 6=.ptr 0 6 0:=jV
 have h8:f 8=.ptr 0 8 0:=jM
 have m5':fr 5=.cells (vc v):=kA
 have m6':fr 6=.cells J0:=qD
 have m8':fr 8=.cells (Qg P t).cells:=q6
 have n16:=hn 16 xy;have n15:=hn 15 xy;have n12:=hn 12 xy;have n9:=hn 9 xy;clear hf hmm hn h00 h10 h50 h60 h80 m50 m60 m80 hrow;have m5:=m5';have m6:=m6';have m8:=m8';simp only[vc]at m5;simp only[J0]at m6;simp only[PG.cells]at m8;simp only[Xi,lp,h0,JA,eE,seval];refine aC (Dq c hc.big') ?_;by_cases hlt:0<c.left
 case neg=>
  have d1:decide (c.left > 0)=false:=Qnl hlt;have hR':R0=.ok (v,c):=by
   rw[<-hR];cases k with
   |zero=>rfl
   |succ k=>rw[ZW,Qlu hlt]
  simp only[d1,Qa,seval];exact hx _ _ v c ⟨xO,wP,xN,xU,xV,m5',m6',m8'⟩ hR'
 have d1:decide (c.left > 0)=true:=Qnr hlt;obtain⟨k,rfl⟩:∃j,k=j+1:=⟨k-1,xw⟩;rw[ZW,Qlv hlt]at hR;have htt:=Li c hc.big;have hta:=HF hc;have hnx:=Qi9 c hc.big;have hna:=Nt hc;generalize Qq c=tg at htt hta hR hna;obtain⟨num,w,c1,e⟩:=tg;dsimp only at hta hR hna;simp only[VI,C.av]at htt;simp only[d1,lp,h0,n9,JA,Jj,eE,seval];refine aC htt ?_;by_cases he0:e=0
 case neg=>
  rw[Qlu he0]at hR;simp only[n12,Xa he0,h5,h6,m5,m6,Jj,eE,seval];exact he _ _ v e c xU xx xx hR.symm he0
 subst he0;obtain⟨t1,t2,t3,t4,t5⟩:=hta rfl;have hc1:=t1.ci hc;have hl1:=t1.lt hc;have hc1b:=hc1.bd;rw[Qlv rfl]at hR;simp only[n12,h8,m8,Qmj,Jj,eE,seval];refine Qcx (n:=n) hM hK P hP hU hr l s m hm hrec hro t ht v c c1 num w hc1 xw hvm hvo xw _ _ ⟨xO,wP,xN,xU,xV,j9,ko,kW⟩ ⟨xx,xx,xx,xx,xx,xx,xx,xx,by exact n16⟩ xx (by show(fr 15).isRow=false;rw[n15];rfl) _ (fun f fr hf hg h15 hop=>?_) (fun f fr o y d hf hrow hop hrf=>?_) (fun f fr o y e d h6 m6 h7 hop hrf he'=>?_)
 ·obtain⟨h0,h1',h5,h6,h8,m5,m6,m8⟩:=hf;obtain⟨h9,h10,h11,h12,h47,h48,m9,m12,n16⟩:=hg;rw[hop]at hR;generalize Xv c=nn at hnx hna hR;obtain⟨x,d,e⟩:=nn;dsimp only at hna hR;simp only[N3,C.av,R.av]at hnx;have m5':=m5;have m6':=m6;have m8':=m8;simp only[vc]at m5;simp only[J0]at m6;simp only[WM]at m9 m12;simp only[h9,m9,JA,eE,seval];refine aC hnx ?_;by_cases he0:e=0
  case neg=>
   rw[Qlu he0]at hR;simp only[n16,Xa he0,h5,h6,h12,m5,m6,m12,Jj,eE,seval];exact he _ _ v e c xU xx xx hR.symm he0
  subst he0;obtain⟨a1,_,a2,a3,a4,a5,a6,a7⟩:=hna rfl;have hla:=a1.lt hc;have hrw:x.ok M:=⟨JJ xw xw,JJ xw xw,jy,xw⟩;have ea:=D7 v x;have hva:=Nv (f:=x) hvm;have hoa:=Nu hvo hrw xw;have hsd:=QeB v x xw;rw[Qlv rfl]at hR;generalize HE v x=u at hsd ea hva hoa hR;rw[Qd v,Qd u]at hsd;simp only[R.av]at hsd;simp only[n16,h0,h5,h12,m5,m12,lp,pp,Xi,JA,Jj,eE,seval];refine aC hsd ?_;simp only[h5,m5,eE,seval];exact⟨k,xw,_,_,u,d,rfl,⟨xO,wP,xN,xU,xV,xx,ko,kW⟩,(by
   intro s hs;simp only[QmM,QnI,or_false]at hs;rcases hs with rfl|rfl|rfl|rfl
   ·rfl
   ·exact h15
   ·rfl
   ·show(fr 9).isRow=false;rw[m9];rfl),a1.ci hc,xw,xw,hR,hva,hoa,xw⟩
 ·obtain⟨ho,hkd,_⟩:=Cj hP hU hr ht hop;obtain⟨b1,b2,b3,b4⟩:=Dv hM hK ho hro hkd hc1 xw hvm hvo xw hrf;have hlb:=b1.lt hc1;rw[hop]at hR;dsimp only at hR;rw[hrf]at hR;exact⟨k,xw,f,fr,y,d,rfl,hf,hrow,b1.ci hc1,xw,xw,hR,b2,b3,xw⟩
 ·rw[hop]at hR;dsimp only at hR;rw[hrf]at hR;exact he _ _ y e d h6 m6 h7 hR.symm he'

set_option maxHeartbeats 1000000 in
include hM hK hP hm hrec hro hU hr ht in
theorem PX (v:V)(c:C)(hs:Am.Qc m l s=Xi P c)(hc:CI c)(hcn:c.left<=n)(hvm:MW P (n+1) (Qg P t) v)(hvo:v.ok M)(hb:(v.cnt:Int)+3*c.left<=K) :
  Qe Tryz.prog 129 [.ptr l s 0,.int .i64 t,v.av] m (Rt P l s m V.av (ZW P rec t c.left.toNat v c)):=by
 have lp:∀o,Am.Qc (Am.put m l s o) l s=o:=fun o=>Qs hm
 have hcb:=hc.bd;have hlt:t.toNat<P.progs.length:=xw
 have hgp:(P.progs.map Qm)[t.toNat]? = some (.agg [.str (Qg P t).name,.list ((Qg P t).ops.map fun o=>AV.agg o.cells),.int .i64 (Qg P t).unions]):=by
  rw[QmN,(UL ht).2];rfl
 have ht0:(0<=t)=True:=by simp[ht.1]
 have e0:=put_self hm hs;have hsl:∀xs,((AV.list xs).shN l).sh=.list xs:=fun xs=>shl xs (l+1)
 rw[Xi]at hs;rw[Qd v];refine wG Tryz.func129 ?_;simp only[eK,Tryz.f129,seval];simp only[hs,hgp,hsl,ht0,Qf,eE,seval];rw[<-e0];refine Qcy hM hK P hP hU hr l s m hm hrec hro t ht _ c.left.toNat v c _ _ ⟨xx,xx,xx,xx,xx,xx,xx,xx⟩ (by
   intro s hs;simp only[QmM,QnI,or_false]at hs;rcases hs with rfl|rfl|rfl|rfl<;>rfl) hc xw hcn rfl hvm hvo hb _ (fun f fr w d hf hR=>?_) (fun f fr w e d h6 m6 h7 hR he=>?_)
 ·obtain⟨h0,h1',h5,h6,h8,m5,m6,m8⟩:=hf;rw[e0,hR];simp only[vc]at m5;simp only[J0]at m6;simp only[h5,h6,m5,m6,QY,eE,seval];exact⟨qd,rfl⟩
 ·rw[e0,hR];simp only[vc]at m6;simp only[h6,m6,h7,QY,eE,seval];exact⟨he,w,d,qd,rfl⟩

end

theorem QeP {M K:Nat}(hM:65536<=M)(hK:K<=1000000){P:PL}(hP:P.ok M)(hU:JX P)(hr:Zo P):∀n:Nat,F9 P M K n (Ho P n)
 |0,l,s,m,t,v,c,hm,hs,hc,hcl,ht,hvm,hvo,hb=>by
  have:=hc.bd;omega
 |n+1,l,s,m,t,v,c,hm,hs,hc,hcl,ht,hvm,hvo,hb=>
  PX hM hK P hP hU hr l s m hm (QeP hM hK hP hU hr n) (HH hM hK hP hU hr n) t ht v c hs hc xw hvm hvo hb

def Uni (P:PL):Prop:=∀g∈P.progs,∀o∈g.ops,-1<=o.union
theorem Qbb {v:V}{c:C}{r:Rd V}(h:∀e,r=.error e->e≠0):r=if (Pj v c r).2.2=0 then .ok ((Pj v c r).1,(Pj v c r).2.1)else .error (Pj v c r).2.2:=by
 cases r with
 |error e=>
  have:=h e rfl;rw[QeK,Qlu this]
 |ok p=>rfl

section
variable (P:PL){rec:Int->V->C->Rd V}(hre:Gt rec)
def UM (rec:Int->V->C->Rd V)(g:PG)(v:V)(o:PO)(w:Int)(c d:C):V×C×Nat :=
 if o.card=5 then(if w=6 then Pj v d (JZ P rec g v o d)else(v,c,13))
 else if w=5/\pk o.card o.kind=true then D9 P g v o d
 else if w=wk o.kind then(if o.kind=10 then Pj v d (KJ rec g v o d)else UJ P g v o d)
 else(v,c,13)
def Pp (rec:Int->V->C->Rd V)(g:PG)(v:V)(c:C):V×C×Nat :=
 if (Qq c).2.2.2=0 then
  (match Q7 g (Qq c).1 with
  |none=>if (Xv c).2.2=0 then(HE v (Xv c).1,(Xv c).2.1,0)else(v,c,(Xv c).2.2)
  |some o=>UM P rec g v o (Qq c).2.1 c (Qq c).2.2.1)
 else(v,c,(Qq c).2.2.2)

include hre in
theorem Lw (g:PG)(v:V)(o:PO)(w:Int)(c d:C):Jh P rec g v o w d=if (UM P rec g v o w c d).2.2=0 then .ok ((UM P rec g v o w c d).1,(UM P rec g v o w c d).2.1)else .error (UM P rec g v o w c d).2.2:=by
 unfold Jh UM;by_cases h5:o.card=5
 ·simp only[Qlv h5];by_cases h6:w=6
  ·simp only[Qlv h6];exact Qbb fun e h=>Lv hre h
  ·simp only[Qlu h6];rfl
 simp only[Qlu h5];by_cases hp:w=5/\pk o.card o.kind=true
 ·simp only[Qlv hp];exact PW P g v o d
 simp only[Qlu hp];by_cases hw:w=wk o.kind
 case neg=>
  simp only[Qlu hw];rfl
 simp only[Qlv hw];by_cases h10:o.kind=10
 ·simp only[Qlv h10];exact Qbb fun e h=>Qct hre h
 ·simp only[Qlu h10];exact VT P g v o d
include hre in
theorem QeQ (t:Int)(k:Nat)(v:V)(c:C)(hlt:0<c.left):ZW P rec t (k+1) v c=if (Pp P rec (Qg P t) v c).2.2=0 then ZW P rec t k (Pp P rec (Qg P t) v c).1 (Pp P rec (Qg P t) v c).2.1 else .error (Pp P rec (Qg P t) v c).2.2:=by
 rw[ZW,Qlv hlt];unfold Pp;by_cases h1:(Qq c).2.2.2=0
 case neg=>simp only[Qlu h1]
 simp only[Qlv h1];cases hop:Q7 (Qg P t) (Qq c).1 with
 |none=>
  dsimp only;by_cases h2:(Xv c).2.2=0
  ·simp only[Qlv h2,if_true]
  ·simp only[Qlu h2]
 |some o=>
  dsimp only;rw[Lw P hre (Qg P t) v o (Qq c).2.1 c (Qq c).2.2.1];by_cases h2:(UM P rec (Qg P t) v o (Qq c).2.1 c (Qq c).2.2.1).2.2=0
  ·simp only[Qlv h2]
  ·simp only[Qlu h2]
include hre in
theorem R3 (t:Int):∀(k:Nat) (v:V) (c:C) (e:Nat),ZW P rec t k v c=.error e->e≠0
 |0,_,_,_,h=>by cases h
 |k+1,v,c,e,h=>by
  by_cases hlt:0<c.left
  ·rw[QeQ P hre t k v c hlt]at h;split at h
   ·exact R3 t k _ _ e h
   ·exact ye
  ·rw[ZW,Qlu hlt]at h;cases h
theorem Pq:∀n:Nat,Gt (Ho P n)
 |0,_,_,_,_,h=>by cases h
 |n+1,t,v,c,e,h=>R3 P (Pq n) t _ v c e h
end

section
variable {M K n:Nat}(hM:65536<=M)(hK:K<=1000000)(P:PL)(hP:P.ok M)(hU:JX P)(hr:Zo P)(hun:Uni P){rec:Int->V->C->Rd V}(hre:Gt rec)(hro:Wb P M K n rec)(t:Int)(ht:0<=t/\t<(P.progs.length:Int))

end

section
variable {M K n:Nat}(hM:65536<=M)(hK:K<=1000000)(P:PL)(hP:P.ok M)(hU:JX P)(hr:Zo P)(hun:Uni P){rec:Int->V->C->Rd V}(hre:Gt rec)(hro:Wb P M K n rec)(t:Int)(ht:0<=t/\t<(P.progs.length:Int))

structure MeF (P:PL)(t:Int)(f:Fr)(fr:Nat->Ob)(v:V)(c:C):Prop where
 f1:f 1=.int .i64 t
 f4:f 4=.ptr 0 4 0
 f6:f 6=.ptr 0 6 0
 f7:f 7=.ptr 0 7 0
 f8:f 8=.ptr 0 8 0
 f9:f 9=.ptr 0 9 0
 m4:fr 4=.cells (Q8 P)
 m6:fr 6=.cells (vc v)
 m7:fr 7=.cells (WM c)
 m8:fr 8=.cells J0
 m9:fr 9=.cells zc6
 rw:∀s∈[12,11],(fr s).isRow=false

end

end Go.Proofs.YtmlohboeoeoamaaGreatDoor.Va

namespace Go.Proofs.YtmlohboeoeoamaaGreatDoor.Va
open Go Am Rc Bt Br Up So

theorem EP {M:Nat}{v:V}(h:v.ok M):v.nsc.ok M:=by
 refine .mk h.kd ?_ h.text h.nl h.np h.ns h.nr h.list h.keys h.vals h.nums h.slots h.raws;show(Lit.int .u64 ((Xx v.kd v.bits:Nat):Int)).wf=true;unfold Xx;split
 ·rfl
 ·exact h.bits

def Gd (g:PG):Prop:=g.ops.length<=64/\∀o∈g.ops,(Lit.int .i64 o.num).wf=true

section
variable {M:Nat}{P:PL}{nm:PG->V->V}(h:∀t v,v.ok M->(nm (Qg P t) v).ok M)
include h
theorem Pr (o:PO){v:V}(hv:v.ok M):(Zb nm P o v).ok M:=by
 unfold Zb;split
 ·exact h _ v hv
 ·exact EP hv
theorem QeR (o:PO){v:V}(hv:v.ok M):(Zq nm P o v).ok M:=by
 unfold Zq;split
 ·refine .mk rfl rfl (Qlx _) ?_ (Qlx _) (Qlx _) (Qlx _) ?_ (fun x hx=>nomatch hx) (fun x hx=>nomatch hx) (fun x hx=>nomatch hx) (fun x hx=>nomatch hx) (fun x hx=>nomatch hx)
  ·show(v.list.map _).length<=_;rw[Qmj];exact hv.nl
  ·intro x hx;obtain⟨y,hy,rfl⟩:=QmK.1 hx;exact Pr h o (hv.list y hy)
 ·split
  ·have hp:(Q0 o.key v.pairs).Perm v.pairs:=QX _;refine .mk rfl rfl (Qlx _) (Qlx _) ?_ (Qlx _) (Qlx _) (fun x hx=>nomatch hx) ?_ ?_ (fun x hx=>nomatch hx) (fun x hx=>nomatch hx) (fun x hx=>nomatch hx)
   ·show((Q0 o.key v.pairs).map _).length<=_;rw[Qmj,hp.length_eq];exact hv.np
   ·intro x hx;obtain⟨y,hy,rfl⟩:=QmK.1 hx;exact EP (hv.keys y (hp.mem_iff.1 hy))
   ·intro x hx;obtain⟨y,hy,rfl⟩:=QmK.1 hx;exact Pr h o (hv.vals y (hp.mem_iff.1 hy))
  ·exact Pr h o hv
theorem Qcz {g:PG}(hg:Gd g){v:V}(hv:v.ok M):(YW nm P g v).ok M:=by
 unfold YW;have hp:(ZA v.raws).Perm v.raws:=QX _;have hs:∀x∈g.ops.flatMap (Xb nm P v.slots),(Lit.int .i64 x.1).wf=true/\x.2.ok M:=by
  intro x hx;obtain⟨o,ho,hx⟩:=Qma.1 hx;obtain⟨e1,s,hs,_,e2⟩:=XX hx;rw[e1,e2];exact⟨hg.2 o ho,QeR h o (hv.slots s hs)⟩
 have hl:∀l:List PO,(l.flatMap (Xb nm P v.slots)).length<=l.length:=by
  intro l
  induction l with
  |nil=>exact Qlk _
  |cons o l ih=>
   have:(Xb nm P v.slots o).length<=1:=by
    unfold Xb;split
    ·simp
    ·split<;>simp
   rw[QmU,Ql2,QlD];omega
 refine .mk rfl rfl (Qlx _) (Qlx _) (Qlx _) ?_ ?_ (fun x hx=>nomatch hx) (fun x hx=>nomatch hx) (fun x hx=>nomatch hx) (fun x hx=>(hs x hx).1) (fun x hx=>(hs x hx).2) ?_
 ·show(g.ops.flatMap (Xb nm P v.slots)).length<=_;have:=hl g.ops;have:=hg.1;omega
 ·show(ZA v.raws).length<=_;rw[hp.length_eq];exact hv.nr
 ·intro x hx;exact hv.raws x (hp.mem_iff.1 hx)
end
theorem UN {M:Nat}{P:PL}(hg:∀t,Gd (Qg P t)):∀(n:Nat) (t:Int) (v:V),v.ok M->(Q5 P n (Qg P t) v).ok M
 |0,_,_,h=>h
 |n+1,t,_,h=>Qcz (fun t v hv=>UN hg n t v hv) (hg t) h

theorem Fa {M:Nat}{P:PL}(hP:P.ok M)(hl:∀g∈P.progs,g.ops.length<=64)(t:Int):Gd (Qg P t):=by
 unfold Qg;cases hg:P.progs[t.toNat]? with
 |none=>exact⟨Qlx _,fun o ho=>nomatch ho⟩
 |some g=>
  have hm:=QlC hg;exact⟨hl g hm,fun o ho=>((hP.progs g hm).ops o ho).num⟩
theorem YS {P:PL}(h:ck P=0):∀g∈P.progs,g.ops.length<=64:=by
 unfold ck at h;split at h
 ·omega
 rename_i hl;exact(Dc kD).2.2.1

open Vp Cp

section
variable {m:PG->V->Prop}{nm:PG->V->V}{P:PL}
end

def TE (m:PG->V->Prop)(P:PL)(o:PO)(x:V):Prop :=
 if o.card=4 then x.kd=11/\x.pairs=[]/\(o.kind=10->∀y∈x.list,m (Qg P o.target) y)
 else if o.card=5 then x.kd=12/\x.list=[]/\(o.kind=10->∀p∈x.pairs,m (Qg P o.target) p.2)
 else o.kind=10->m (Qg P o.target) x
def TY (P:PL):Nat->PG->V->Prop
 |0,_,_=>False
 |n+1,g,v=>v.kd=10/\∀s∈v.slots,∃o,Q7 g s.1=some o/\TE (TY P n) P o s.2
theorem QfQ {P:PL}{n:Nat}{g:PG}{v:V}(h:TY P n g v):v.kd=10:=by
 cases n with
 |zero=>exact h.elim
 |succ n=>exact h.1
theorem QeS {P:PL}{m w:PG->V->Prop}{nm:PG->V->V}(h:∀g∈P.progs,∀v,w g v->m g (nm g v)){o:PO}(ho:UO P o){v:V}(hv:FW w P o v):TE m P o (Zq nm P o v):=by
 have hel:∀y,EW w P o y->o.kind=10->m (Qg P o.target) (Zb nm P o y):=by
  intro y hy hk;unfold Zb;rw[Qlv hk];exact h _ (UL (ho.tgt hk)).1 _ (hy hk)
 unfold FW at hv;unfold TE Zq;by_cases h4:o.card=4
 ·rw[Qlv h4]at hv;rw[Qlv h4,Qlv h4];refine⟨rfl,rfl,fun hk x hx=>?_⟩;obtain⟨y,hy,rfl⟩:=QmK.1 hx;exact hel y (hv y hy) hk
 ·rw[Qlu h4]at hv;rw[Qlu h4,Qlu h4];by_cases h5:o.card=5
  ·rw[Qlv h5]at hv;rw[Qlv h5,Qlv h5];have hp:(Q0 o.key v.pairs).Perm v.pairs:=QX _;refine⟨rfl,rfl,fun hk x hx=>?_⟩;obtain⟨p,hp',rfl⟩:=QmK.1 hx;exact hel p.2 (hv.1 p (hp.mem_iff.1 hp')).2 hk
  ·rw[Qlu h5]at hv;rw[Qlu h5,Qlu h5];exact hel v hv
theorem EQ {P:PL}(hU:JX P)(hr:Zo P):∀(n:Nat) (g:PG),g∈P.progs->∀v:V,MW P n g v->TY P n g (Q5 P n g v)
 |0,_,_,_,h=>h
 |n+1,g,hg,v,h=>by
  refine⟨rfl,fun x hx=>?_⟩;obtain⟨o,ho,hx⟩:=Qma.1 hx;obtain⟨e,s,hs,e1,e2⟩:=XX hx;obtain⟨o',h1,h2⟩:=h.1 s hs;rw[e1,XQ (hr g hg) ho]at h1;cases h1;exact⟨o,by rw[e];exact XQ (hr g hg) ho,by rw[e2];exact QeS (fun g hg v hv=>EQ hU hr n g hg v hv) (hU g hg o ho) h2⟩
theorem QeT {P:PL}{n:Nat}{g:PG}(hd:g.ops.Pairwise fun a b=>a.num<b.num){v:V}(h:TY P (n+1) g v){o:PO}(ho:o∈g.ops){x:V}(hx:XY v o.num=some x):TE (TY P n) P o x:=by
 obtain⟨o',h1,h2⟩:=h.2 _ (Xz hx).1;rw[XQ hd ho]at h1;cases h1;exact h2

def R4 (m:PG->V->Bool)(P:PL)(o:PO)(x:V):Bool:=o.kind==10&&(if o.card=4 then x.list.any (m (Qg P o.target))else if o.card=5 then x.pairs.any (fun p=>m (Qg P o.target) p.2)else m (Qg P o.target) x)
def VY (m:PG->V->Bool)(P:PL)(v:V)(o:PO):Bool:=match XY v o.num with
 |none=>o.card==1
 |some x=>R4 m P o x
def Yi (P:PL):Nat->PG->V->Bool
 |0,_,_=>false
 |n+1,g,v=>g.ops.any (VY (Yi P n) P v)
def FC (x:V):List V:=if x.kd=11 then x.list else if x.kd=12 then x.pairs.map Prod.snd else [x]
theorem QcA {P:PL}{n:Nat}{o:PO}{x:V}(h:TE (TY P n) P o x)(hk:o.kind=10)(m:PG->V->Bool):R4 m P o x=(FC x).any (m (Qg P o.target))/\∀y∈FC x,TY P n (Qg P o.target) y:=by
 have b:(o.kind==10)=true:=jD
 unfold R4 FC;unfold TE at h;rw[b,Qm8];by_cases h4:o.card=4
 ·rw[Qlv h4]at h;rw[Qlv h4,Qlv h.1];exact⟨rfl,h.2.2 hk⟩
 ·rw[Qlu h4]at h;rw[Qlu h4];by_cases h5:o.card=5
  ·rw[Qlv h5]at h;have n11:¬x.kd=11:=xw
   rw[Qlv h5,Qlu n11,Qlv h.1];refine⟨by rw[List.any_map];rfl,fun y hy=>?_⟩;obtain⟨p,hp,rfl⟩:=QmK.1 hy;exact h.2.2 hk p hp
  ·rw[Qlu h5]at h;have hx:=h hk;have hkd:=QfQ hx;have n11:¬x.kd=11:=xw
   have n12:¬x.kd=12:=xw
   rw[Qlu h5,Qlu n11,Qlu n12];refine⟨xA,fun y hy=>?_⟩;rw[QnC]at hy;subst hy;exact hx
theorem QcB {x y:V}(h:y∈FC x):y.cnt<=x.cnt:=by
 unfold FC at h;split at h
 ·have:=F0 h;rw[Q4 x];omega
 ·split at h
  ·obtain⟨p,hp,rfl⟩:=QmK.1 h;have:=Gj hp;rw[Q4 x];omega
  ·rw[QnC]at h;subst h;omega

def ElI (x:V)(k:Nat)(st:St):Prop :=
 ∃f fr i g,st=⟨f,[fr],[]⟩/\k=x.pairs.length-i/\i<=x.pairs.length/\f 3=.vec 0 3 g 0 i false/\f 15=.list (x.pairs.map V.pav)/\f 16=.int .i64 (x.pairs.length:Nat)/\f 17=.int .i64 (i:Nat)/\fr 3=.vec g 7 (((x.pairs.take i).map Prod.snd).map V.av)/\∀s∈[5],(fr s).isRow=false

theorem Qjn (x:V)(hc:x.cnt<=1048576):Qh Tryz.prog 131 [x.av] (.list ((FC x).map V.av)):=by
 have hl:=Jw x;unfold FC;rw[Qd];by_cases h11:x.kd=11
 ·have b1:(x.kd==11)=true:=by simp[h11]
  rw[Qlv h11];refine wF Tryz.func131 ?_;simp only[eK,Tryz.f131,seval];simp only[b1,eE,seval]
 have b1:(x.kd==11)=false:=by simp[h11]
 rw[Qlu h11];by_cases h12:x.kd=12
 case neg=>
  have b2:(x.kd==12)=false:=by simp[h12]
  rw[Qlu h12];refine wF Tryz.func131 ?_;simp only[eK,Tryz.f131,seval];simp only[b1,b2,eE,seval];refine QK (l:=[x.av]) rfl rfl rfl wm ?_;simp only[Qa,seval];rfl
 have b2:(x.kd==12)=true:=by simp[h12]
 rw[Qlv h12];refine wF Tryz.func131 ?_;simp only[eK,Tryz.f131,seval];simp only[b1,b2,eE,seval];refine XO xz rfl ?_;simp only[Qmj,eE,seval];refine Qi (ElI x) _ ⟨_,_,0,_,rfl,rfl,Qlx _,xx,xx,xx,xx,xx,xS⟩ ?_;rintro _ st ⟨f0,fr0,i,g,rfl,rfl,hil,h30,h150,h160,h170,m30,r5⟩;refine QL (a:=_) [5] r5 ?_;intro f fr hf hm hn;have h3:f 3=.vec 0 3 g 0 i false:=xW
 have h15:f 15=.list (x.pairs.map V.pav):=by rw[hf,h150]<;>rfl
 have h16:f 16=.int .i64 (x.pairs.length:Nat):=wH
 have h17:f 17=.int .i64 (i:Nat):=qM
 have m3:fr 3=.vec g 7 (((x.pairs.take i).map Prod.snd).map V.av):=j0
 have n5:=hn 5 xy;clear hf hm hn h30 h150 h160 h170 m30 r5;have hln:(((x.pairs.take i).map Prod.snd).map V.av).length=i:=by rw[Qmj,Qmj,Qml];omega
 simp only[h16,h17,Qa,seval];by_cases hlt:i<x.pairs.length
 ·obtain⟨p,hi⟩:∃p,x.pairs[i]? = some p:=⟨x.pairs[i],Qln hlt⟩;have hg:=Ky hi;have e1:=Qr i _ hlt xC;have hst:((x.pairs.take (i+1)).map Prod.snd).map V.av=((x.pairs.take i).map Prod.snd).map V.av++[p.2.av]:=by
   rw[Qng,hi];simp
  simp only[QB hlt,Qp,QmS,Qf,hg,n5,h3,h15,h17,eE,seval];refine QK (l:=[p.2.av]) rfl rfl rfl wm ?_;refine QF (site:=3) (g:=g) (n:=i) (xs:=((x.pairs.take i).map Prod.snd).map V.av) (ys:=[p.2.av]) xx j5 rfl hln.symm rfl (Dl [p.2]) xG xI ?_;simp only[h17,e1,Qa,seval];exact⟨x.pairs.length-(i+1),xw,_,_,i+1,g+1,rfl,rfl,xw,xx,wQ,qc,xx,(by rw[hst];exact xx),xS⟩
 ·have e:i=x.pairs.length:=xw
  subst e;rw[Qm5]at m3 hln;simp only[QI hlt,h3,eE,seval];simp[AV.un,Zw,XC,m3];exact QlY vd

section
variable {M:Nat}(P:PL)(hP:P.ok M)(hr:Zo P)

structure CoF (P:PL)(v:V)(g:PG)(i:Nat)(f:Fr)(fr:Nat->Ob):Prop where
 f3:f 3=.ptr 0 3 0
 f5:f 5=.ptr 0 5 0
 f18:f 18=.list (g.ops.map fun o=>AV.agg o.cells)
 f19:f 19=.int .i64 (g.ops.length:Nat)
 f20:f 20=.int .i64 (i:Nat)
 m3:fr 3=.cells (Q8 P)
 m5:fr 5=.cells (vc v)

theorem QfR {cL:RC}(v:V)(g:PG)(i:Nat)(t:Int)(o:PO)(hot:o.target=t)(l:List V)(hl:l.length<=1048576)(m:V->Bool)(hm:∀y∈l,Qh Tryz.prog 78 [P.av,.int .i64 t,y.av] (.bool (!m y)))
  (f:Fr) (fr:Nat->Ob) (hf:CoF P v g i f fr) (h8:f 8=.ptr 0 8 0) (m8:fr 8=.cells o.cells) (h9:(fr 9).isRow=false) (h40:f 40=.list (l.map V.av)) (h41:f 41=.int .i64 (l.length:Nat)) (h42:f 42=.int .i64 0) (h12:(fr 12).isRow=false) (Q:Exit->St->Prop)
  (hx:∀f fr,CoF P v g i f fr->(∀s∈[12,9,8],(fr s).isRow=false)->l.any m=false->Q (.exit 2) ⟨f,[fr],[]⟩)
  (hy:∀f fr,f 6=.bool false->l.any m=true->Q .ret ⟨f,[fr],[]⟩) (hcL:lp 78 1 Tryz.f78=cL:=by simp only[eL,eK,Tryz.f78,seval]) :
  QU Tryz.prog (.loop cL) ⟨f,[fr],[]⟩ Q:=by
 subst hcL;simp only[eL,eK,Tryz.f78,seval]
 let I:Nat->St->Prop:=fun k st=>∃f fr j,st=⟨f,[fr],[]⟩/\k=l.length-j/\j<=l.length/\l.any m=(l.drop j).any m/\CoF P v g i f fr/\f 8=.ptr 0 8 0/\fr 8=.cells o.cells/\(fr 9).isRow=false/\f 40=.list (l.map V.av)/\f 41=.int .i64 (l.length:Nat)/\f 42=.int .i64 (j:Nat)/\(fr 12).isRow=false
 refine Qi I _ ⟨f,fr,0,rfl,rfl,Qlx _,rfl,hf,h8,m8,h9,h40,h41,h42,h12⟩ ?_;clear hf h8 m8 h9 h40 h41 h42 h12;rintro _ st ⟨f0,fr0,j,rfl,rfl,hjl,hany,⟨h30,h50,h180,h190,h200,m30,m50⟩,h80,m80,h90,h400,h410,h420,h120⟩;refine QL (a:=_) [12] (by intro s hs;simp only[QnC]at hs;subst hs;exact h120) ?_;intro f fr hf hmm hn;have h3:f 3=.ptr 0 3 0:=xW
 have h5:f 5=.ptr 0 5 0:=jN
 have h8:f 8=.ptr 0 8 0:=jM
 have h18:f 18=.list (g.ops.map fun o=>AV.agg o.cells):=qo
 have h19:f 19=.int .i64 (g.ops.length:Nat):=qN
 have h20:f 20=.int .i64 (i:Nat):=qO
 have h40:f 40=.list (l.map V.av):=by rw[hf,h400]<;>rfl
 have h41:f 41=.int .i64 (l.length:Nat):=by rw[hf,h410]<;>rfl
 have h42:f 42=.int .i64 (j:Nat):=by rw[hf,h420]<;>rfl
 have m3':fr 3=.cells (Q8 P):=by rw[hmm 3 xy,m30]<;>rfl
 have m5':fr 5=.cells (vc v):=kA
 have m8':fr 8=.cells o.cells:=q6
 have n9:(fr 9).isRow=false:=by
  rw[hmm 9 xy];cases h:fr0 9<;>rw[h]at h90<;>first|rfl|cases h90
 have n12:=hn 12 xy;clear hf hmm hn h30 h50 h80 h180 h190 h200 h400 h410 h420 m30 m50 m80 h90 h120;have m3:=m3';have m8:=m8';simp only[Q8]at m3;simp only[PO.cells]at m8;simp only[h41,h42,Qa,seval];by_cases hlt:j<l.length
 case neg=>
  have ha:l.any m=false:=by rw[hany,Ql1 xw];rfl
  simp only[QI hlt,Qa,seval];refine hx _ _ ⟨xM,xN,qa,kU,qp,m3',m5'⟩ ?_ ha;intro s hs;simp only[QmM,QnI,or_false]at hs;rcases hs with rfl|rfl|rfl
  ·rw[n12];rfl
  ·exact n9
  ·rw[m8'];rfl
 obtain⟨y,hj⟩:∃y,l[j]? = some y:=⟨l[j],Qln hlt⟩;have hgy:(l.map V.av)[j]? = some y.av:=by rw[QmN,hj];rfl
 have hcl:=hm y (QlC hj);have e1:=Qr j _ hlt xC;have hdr:l.drop j=y :: l.drop (j+1):=by
  rw[Ql7 hlt,(Qlm.1 hj).2]
 rw[hdr,List.any_cons]at hany;rw[Qd y]at hgy;rw[show P.av=.agg (Q8 P)from rfl,Qd y]at hcl;simp only[Q8]at hcl;subst hot;simp only[QB hlt,Qp,QmS,Qf,hgy,n12,h3,h8,h40,h42,m3,m8,eE,seval];refine aC hcl ?_;cases hmy:m y
 ·rw[hmy,Qnd]at hany;simp only[Qmx,Qm9,h42,e1,Qa,seval];exact⟨l.length-(j+1),xw,_,_,j+1,rfl,rfl,xw,hany,⟨xM,xN,qa,kU,qp,(by exact m3'),j9⟩,xV,kW,by exact n9,(by exact h40),(by exact h41),xx,xx⟩
 ·rw[hmy,Qnc]at hany;simp only[Qmx,Qm9,Qa,seval];exact hy _ _ xx hany

include hP hr in
theorem QcC (n:Nat)(t:Int)(ht:0<=t/\t<(P.progs.length:Int))(hU:JX P)(ih:∀(t:Int) (v:V),(0<=t/\t<(P.progs.length:Int))->TY P n (Qg P t) v->v.cnt<=1048576->Qh Tryz.prog 78 [P.av,.int .i64 t,v.av] (.bool (!Yi P n (Qg P t) v)))
  (v:V) (hv:TY P (n+1) (Qg P t) v) (hc:v.cnt<=1048576):Qh Tryz.prog 78 [P.av,.int .i64 t,v.av] (.bool (!Yi P (n+1) (Qg P t) v)):=by
 have hgm:=(UL ht).1;have hgp:(P.progs.map Qm)[t.toNat]? = some (.agg [.str (Qg P t).name,.list ((Qg P t).ops.map fun o=>AV.agg o.cells),.int .i64 (Qg P t).unions]):=by
  rw[QmN,(UL ht).2];rfl
 have ht0:(0<=t)=True:=by simp[ht.1]
 have hgl:(Qg P t).ops.length<=maxLen:=(hP.progs _ hgm).len;have hrg:=hr _ hgm;have hUg:=hU _ hgm;have ls:=XP v;rw[show Yi P (n+1) (Qg P t) v=(Qg P t).ops.any (VY (Yi P n) P v)from rfl];generalize Qg P t=g at *;rw[show P.av=.agg (Q8 P)from rfl,Qd v];refine wF Tryz.func78 ?_;simp only[eK,Tryz.f78,seval];simp only[Q8,hgp,ht0,Qf,Qmj,eE,seval]
 let I:Nat->St->Prop:=fun k st=>∃f fr i,st=⟨f,[fr],[]⟩/\k=g.ops.length-i/\i<=g.ops.length/\g.ops.any (VY (Yi P n) P v)=(g.ops.drop i).any (VY (Yi P n) P v)/\CoF P v g i f fr/\∀s∈[12,9,8],(fr s).isRow=false
 refine Qi I _ ⟨_,_,0,rfl,rfl,Qlx _,rfl,⟨xx,xx,xx,xx,xx,xx,xx⟩,Hn rfl rfl rfl⟩ ?_;rintro _ st ⟨f0,fr0,i,rfl,rfl,hil,hany,⟨h30,h50,h180,h190,h200,m30,m50⟩,hrow⟩;refine QL (a:=_) [12,9,8] hrow ?_;intro f fr hf hmm hn;have h3:f 3=.ptr 0 3 0:=xW
 have h5:f 5=.ptr 0 5 0:=jN
 have h18:f 18=.list (g.ops.map fun o=>AV.agg o.cells):=qo
 have h19:f 19=.int .i64 (g.ops.length:Nat):=qN
 have h20:f 20=.int .i64 (i:Nat):=qO
 have m3':fr 3=.cells (Q8 P):=by rw[hmm 3 xy,m30]<;>rfl
 have m5':fr 5=.cells (vc v):=kA
 have n12:=hn 12 xy;have n9:=hn 9 xy;have n8:=hn 8 xy;clear hf hmm hn h30 h50 h180 h190 h200 m30 m50 hrow;have m3:=m3';have m5:=m5';simp only[Q8]at m3;simp only[vc]at m5;simp only[h19,h20,Qa,seval];by_cases hlt:i<g.ops.length
 case neg=>
  have ha:g.ops.any (VY (Yi P n) P v)=false:=by rw[hany,Ql1 xw];rfl
  simp only[QI hlt,ha,Qmx,Qa,seval]
 obtain⟨o,hi⟩:∃o,g.ops[i]? = some o:=⟨g.ops[i],Qln hlt⟩;have hom:=QlC hi;have hgo:(g.ops.map fun o=>AV.agg o.cells)[i]? = some (.agg [.int .i64 o.num,.str o.name,.str o.alias,.int .i64 o.card,.int .i64 o.key,.int .i64 o.kind,.int .i64 o.target,.int .i64 o.union]):=Qba hi;have e1:=Qr i _ hlt hgl;have hdr:g.ops.drop i=o :: g.ops.drop (i+1):=by
  rw[Ql7 hlt,(Qlm.1 hi).2]
 rw[hdr,List.any_cons]at hany;have hfd:=Pi v o.num xw;have hoc:=D8 v o.num;have hel:=Qjn (Q2 v o.num) xw;have hte:=fun x hx=>QeT (x:=x) hrg hv hom hx
 rw[Qd v]at hfd;rw[show VY (Yi P n) P v o=(match XY v o.num with|none=>o.card==1|some x=>R4 (Yi P n) P o x)from rfl]at hany;have next:∀(f':Fr) (fr':Nat->Ob),g.ops.any (VY (Yi P n) P v)=(g.ops.drop (i+1)).any (VY (Yi P n) P v)->CoF P v g (i+1) f' fr'->(∀s∈[12,9,8],(fr' s).isRow=false)->∃k,k<g.ops.length-i/\I k ⟨f',[fr'],[]⟩:=fun f' fr' a b c=>⟨g.ops.length-(i+1),xw,f',fr',i+1,rfl,rfl,xw,a,b,c⟩
 cases hf:XY v o.num with
 |none=>
  rw[hf]at hfd hany;rw[Qd (Q2 v o.num)]at hfd;simp only[Qme]at hfd;dsimp only at hany;simp only[QB hlt,Qp,QmS,Qf,hgo,n8,h5,h18,h20,m5,eE,seval];refine aC hfd ?_;cases h1:(o.card==1)
  ·rw[h1,Qnd]at hany;simp only[h1,n9,n8,h20,e1,eE,seval];exact zf
  ·rw[h1,Qnc]at hany;simp only[h1,hany,Qm9,n9,n8,eE,seval]
 |some x=>
  have hx:=(Xz hf).2;have hte:=hte x hf;rw[hf]at hfd hany;rw[hx]at hfd hel hoc;rw[Qd x]at hfd hel;simp only[Qnm]at hfd;dsimp only at hany;simp only[QB hlt,Qp,QmS,Qf,hgo,n8,h5,h18,h20,m5,eE,seval];refine aC hfd ?_;by_cases hk:o.kind=10
  case neg=>
   have bk:(o.kind != 10)=true:=jD
   have bk':(o.kind==10)=false:=jD
   have he:R4 (Yi P n) P o x=false:=by unfold R4;rw[bk',QmW]
   rw[he,Qnd]at hany;simp only[bk,n9,n8,h20,e1,eE,seval];exact zf
  have bk:(o.kind != 10)=false:=jD
  obtain⟨l1,l2⟩:=QcA hte hk (Yi P n);have htt:=(hUg o hom).tgt hk;have hll:(FC x).length<=1048576:=by
   unfold FC;have h1:=ZO x;have h2:=Jw x;split
   ·omega
   ·split
    ·rw[Qmj];omega
    ·simp
  simp only[bk,n9,n8,eE,seval];refine aC hel ?_;simp only[Qmj,Qa,seval];refine QfR P v g i o.target o rfl (FC x) hll (Yi P n (Qg P o.target)) (fun y hy=>ih o.target y htt (l2 y hy) (by have:=QcB hy;omega)) _ _ ⟨xM,xN,qa,kU,qp,(by exact m3'),j9⟩ xx xx xx xx xx xx (by show(fr 12).isRow=false;rw[n12];rfl) _ (fun f fr hf hrow ha=>?_) (fun f fr h6 ha=>?_)
  ·obtain⟨h3,h5,h18,h19,h20,m3,m5⟩:=hf;rw[l1,ha,Qnd]at hany;simp only[h20,e1,Qa,seval];exact next _ _ hany ⟨xM,xN,qa,kU,xx,m3,m5⟩ hrow
  ·rw[l1,ha,Qnc]at hany;simp only[hany,h6,Qm9,Qa,seval]

include hP hr in
theorem j78 (hU:JX P):∀(n:Nat) (t:Int) (v:V),(0<=t/\t<(P.progs.length:Int))->TY P n (Qg P t) v->v.cnt<=1048576->Qh Tryz.prog 78 [P.av,.int .i64 t,v.av] (.bool (!Yi P n (Qg P t) v))
 |0,_,_,_,h,_=>h.elim
 |n+1,t,v,ht,hv,hc=>QcC P hP hr n t ht hU (j78 hU n) v hv hc

end

section
variable (P:PL)(o:PO)

structure LaF (P:PL)(o:PO)(x:V)(f:Fr)(fr:Nat->Ob):Prop where
 f3:f 3=.ptr 0 3 0
 f4:f 4=.ptr 0 4 0
 f5:f 5=.ptr 0 5 0
 m3:fr 3=.cells (Q8 P)
 m4:fr 4=.cells o.cells
 m5:fr 5=.cells (vc x)

variable (x:V)(hl:x.cnt<=1048576)(m:V->Bool)
include hl

end

section
variable {M:Nat}(P:PL)(hP:P.ok M)(hr:Zo P)(hU:JX P)

structure LsF (P:PL)(t:Int)(v:V)(i:Nat)(f:Fr)(fr:Nat->Ob):Prop where
 f1:f 1=.int .i64 t
 f3:f 3=.ptr 0 3 0
 f5:f 5=.ptr 0 5 0
 f7:f 7=.int .i64 (i:Nat)
 m3:fr 3=.cells (Q8 P)
 m5:fr 5=.cells (vc v)

end
end Go.Proofs.YtmlohboeoeoamaaGreatDoor.Va

namespace Go.Proofs.YtmlohboeoeoamaaGreatDoor.Va
open Go Am Rc Bt Br

def QH (s:List UInt8)(P:PL):Int:=Za (fun g:PG=>g.name==s) P.progs 0
theorem JB (s:List UInt8)(P:PL):QH s P = -1\/(0<=QH s P/\QH s P<(P.progs.length:Int)):=by
 unfold QH;rcases Yp (fun g:PG=>g.name==s) P.progs 0 with⟨h,_⟩|⟨k,o,h,h1,_⟩
 ·exact .inl h
 ·have:=(Qlm.1 h1).1;exact .inr ⟨by rw[h];omega,by rw[h];omega⟩

open Up So

section
variable {M:Nat}{P:PL}{m:PG->V->Prop}{nm:PG->V->V}(o:PO)(ho:UO P o)

include ho in
theorem v59 (hm:∀(t:Int) (g:PG),P.progs[t.toNat]? = some g->0<=t->∀v:V,v.ok M->v.cnt<=1048576->m g v->Qh Tryz.prog 10 [P.av,.int .i64 t,v.av] (nm g v).av)(v:V)(hv:v.ok M)(hc:v.cnt<=1048576)(he:EW m P o v) :
  Qh Tryz.prog 59 [P.av,Qu o,v.av] (Zb nm P o v).av:=by
 have e0:P.av=.agg [.list (P.progs.map Qm),.list (P.enums.map QC)]:=rfl;unfold Zb;by_cases hk:o.kind=10
 ·have b:(o.kind==10)=true:=jD
  have he:=he hk;rw[Qlv hk];obtain⟨t0,t1⟩:=ho.tgt hk;obtain⟨g,hg⟩:∃g,P.progs[o.target.toNat]? = some g:=⟨P.progs[o.target.toNat]' xw,Qln xw⟩;have hq:Qg P o.target=g:=by unfold Qg;rw[hg];rfl
  rw[hq]at he ⊢;have h2:=hm o.target g hg t0 v hv hc he;generalize nm g v=z at h2 ⊢;rw[e0,Qd,Qd]at h2;rw[Qd,Qd];refine wF Tryz.func59 ?_;simp only[eK,Tryz.f59,seval];simp only[e0,Qu,PO.cells,b,eE,seval];exact yG
 ·have b:(o.kind==10)=false:=jD
  rw[Qlu hk];have h1:=v61 v (WI hv);generalize v.nsc=z at h1 ⊢;rw[Qd,Qd]at h1;rw[Qd,Qd];refine wF Tryz.func59 ?_;simp only[eK,Tryz.f59,seval];exact xf

def WlI (P:PL)(o:PO)(v:V)(F:V->V)(k:Nat)(st:St):Prop :=
 ∃f fr i g,st=⟨f,[fr],[]⟩/\k=v.list.length-i/\i<=v.list.length/\f 3=.ptr 0 3 0/\f 4=.ptr 0 4 0/\f 5=.ptr 0 5 0/\f 6=.ptr 0 6 0/\f 7=.ptr 0 7 0/\f 8=.int .i64 (i:Nat)/\fr 3=.cells [.list (P.progs.map Qm),.list (P.enums.map QC)]/\fr 4=.cells o.cells/\fr 5=.cells [.int .i64 v.kd,.int .u64 (v.bits:Nat),.str v.text,.list (v.list.map V.av),.list (v.pairs.map V.pav),.list (v.slots.map V.sav),.list (v.raws.map R.av)]/\fr 6=.cells [.int .i64 0,.int .u64 0,.str [],.nils,.nils,.nils,.nils]/\fr 7=.cells [.int .i64 11,.int .u64 0,.str [],.vec 0 1100 g 0 i false,.nils,.nils,.nils]/\fr 1100=.vec g 7 ((v.list.take i).map fun x=>(F x).av)

def WpI (P:PL)(o:PO)(T:List (V×V))(F:V×V->V×V)(k:Nat)(st:St):Prop :=
 ∃f fr i g,st=⟨f,[fr],[]⟩/\k=T.length-i/\i<=T.length/\f 3=.ptr 0 3 0/\f 4=.ptr 0 4 0/\f 6=.ptr 0 6 0/\f 9=.ptr 0 9 0/\f 10=.list (T.map V.pav)/\f 11=.int .i64 (i:Nat)/\fr 3=.cells [.list (P.progs.map Qm),.list (P.enums.map QC)]/\fr 4=.cells o.cells/\fr 6=.cells [.int .i64 0,.int .u64 0,.str [],.nils,.nils,.nils,.nils]/\fr 9=.cells [.int .i64 12,.int .u64 0,.str [],.nils,.vec 0 1101 g 0 i false,.nils,.nils]/\fr 1101=.vec g 14 ((T.take i).map fun x=>V.pav (F x))

set_option maxHeartbeats 1000000 in
include ho in
theorem v26 (hel:∀v:V,v.ok M->v.cnt<=1048576->EW m P o v->Qh Tryz.prog 59 [P.av,Qu o,v.av] (Zb nm P o v).av)(v:V)(hv:v.ok M)(hc:v.cnt<=1048576)(he:FW m P o v) :
  Qh Tryz.prog 26 [P.av,Qu o,v.av] (Zq nm P o v).av:=by
 have e0:P.av=.agg [.list (P.progs.map Qm),.list (P.enums.map QC)]:=rfl;unfold Zq;unfold FW at he;by_cases h4:o.card=4
 ·have b4:(o.card==4)=true:=kR
  rw[Qlv h4]at he;rw[Qlv h4];have hL:=he;have hlen:=ZO v;rw[Qd v];generalize hF:Zb nm P o=F at hel ⊢;rw[show(V.mk 11 0 [] (v.list.map F) [] [] []).av=.agg [.int .i64 11,.int .u64 0,.str [],.list ((v.list.map F).map V.av),.list [],.list [],.list []]from Qd _];refine wF Tryz.func26 ?_;simp only[eK,Tryz.f26,seval];simp only[e0,Qu,PO.cells,b4,eE,seval];refine KT xJ rfl xJ rfl ?_;simp only[List.set,Qa,seval];refine Qi (WlI P o v F) _ ⟨_,_,0,_,rfl,rfl,Qlx _,xx,xx,xx,xx,xx,xx,xx,xx,xx,xx,xx,xx⟩ ?_;rintro _ st ⟨f,fr,i,g,rfl,rfl,hil,h3,h4,h5,h6,h7,h8,m3,m4,m5,m6,m7,mR⟩;have m4':=m4;simp only[PO.cells]at m4;simp only[Qmj,h5,h8,m5,eE,seval];by_cases hlt:i<v.list.length
  ·obtain⟨x,hi⟩:∃x,v.list[i]? = some x:=⟨v.list[i],Qln hlt⟩;have hx:=QlC hi;have hg:=Hk hi;have e1:=Qr i _ hlt xC;have c1:=hel x (hv.list x hx) (Qll (UG hx) hc) (hL x hx);have hti:((v.list.take i).map fun x=>(F x).av).length=i:=jR
   have hts:(v.list.take (i+1)).map (fun x=>(F x).av)=(v.list.take i).map (fun x=>(F x).av)++[(F x).av]:=wh
   generalize F x=z at c1 hts;rw[e0,Qd x,Qd z]at c1;simp only[Qu,PO.cells]at c1;simp only[QB hlt,Qp,QmS,Qf,hg,h3,h4,h5,h7,h8,m3,m4,m5,m7,eE,seval];refine aC c1 ?_;refine QK (l:=[z.av]) rfl rfl rfl wm ?_;refine QF (site:=1100) (g:=g) (n:=i) (xs:=(v.list.take i).map fun x=>(F x).av) (ys:=[z.av]) xx j8 rfl hti.symm rfl (Dl [z]) xG xI ?_;simp only[h7,h8,m7,e1,eE,seval];exact⟨v.list.length-(i+1),xw,_,_,i+1,g+1,rfl,rfl,xw,xM,xR,xN,xU,xZ,xx,j5,kI,q9,kT,xx,kJ⟩
  ·exact zZ
 ·have b4:(o.card==4)=false:=kR
  rw[Qlu h4];by_cases h5:o.card=5
  ·have b5:(o.card==5)=true:=q7
   rw[Qlu h4,Qlv h5]at he;rw[Qlv h5];have hE:=he;have hlen:=Jw v;have hk:=ho.key h5;have cp:=v60 hk v.pairs xw (fun p hp=>(hE.1 p hp).1) (fun p hp=>WI (hv.keys p hp)) hE.2;have hperm:(Q0 o.key v.pairs).Perm v.pairs:=QX _;have hTl:(Q0 o.key v.pairs).length=v.pairs.length:=hperm.length_eq;have hTm:∀p∈Q0 o.key v.pairs,p∈v.pairs:=fun p h=>hperm.mem_iff.1 h
   generalize Q0 o.key v.pairs=T at *;rw[Qd v];generalize hF:(fun p:V×V=>(p.1.nsc,Zb nm P o p.2))=F;rw[show(V.mk 12 0 [] [] (T.map F) [] []).av=.agg [.int .i64 12,.int .u64 0,.str [],.list [],.list ((T.map F).map V.pav),.list [],.list []]from Qd _];refine wF Tryz.func26 ?_;simp only[eK,Tryz.f26,seval];simp only[e0,Qu,PO.cells,b4,b5,eE,seval];refine KT xJ rfl xJ rfl ?_;simp only[List.set,eE,seval];refine aC cp ?_;simp only[Qa,seval];refine Qi (WpI P o T F) _ ⟨_,_,0,_,rfl,rfl,Qlx _,xx,xx,xx,xx,xx,xx,xx,xx,xx,xx,xx⟩ ?_;rintro _ st ⟨f,fr,i,g,rfl,rfl,hil,h3,h4,h6,h9,h10,h11,m3,m4,m6,m9,mR⟩;have m4':=m4;simp only[PO.cells]at m4;simp only[Qmj,h10,h11,Qa,seval];by_cases hlt:i<T.length
   ·obtain⟨x,hi⟩:∃x,T[i]? = some x:=⟨T[i],Qln hlt⟩;have hx:=hTm x (QlC hi);have hg:=Ky hi;have e1:=Qr i _ hlt xC;have c0:=v61 x.1 (WI (hv.keys x hx));have c1:=hel x.2 (hv.vals x hx) (Qll (HC hx) hc) (hE.1 x hx).2;have hti:((T.take i).map fun x=>V.pav (F x)).length=i:=jR
    have hFx:F x=(x.1.nsc,Zb nm P o x.2):=by rw[<-hF]
    have hts:(T.take (i+1)).map (fun x=>V.pav (F x))=(T.take i).map (fun x=>V.pav (F x))++[V.pav (x.1.nsc,Zb nm P o x.2)]:=by rw[Qng,hi,<-hFx];simp
    generalize x.1.nsc=y at c0 hts;generalize Zb nm P o x.2=z at c1 hts;rw[Qd,Qd y]at c0;rw[e0,Qd,Qd z]at c1;simp only[Qu,PO.cells]at c1;simp only[QB hlt,Qp,QmS,Qf,hg,h9,h10,h11,m9,eE,seval];refine aC c0 ?_;simp only[Qp,QmS,Qf,hg,QlX,Ql0,Ql6,h3,h4,h10,h11,m3,m4,eE,seval];refine aC c1 ?_;simp only[eE,seval];refine QK (l:=[V.pav (y,z)]) rfl rfl rfl wx ?_;refine QF (site:=1101) (g:=g) (n:=i) (xs:=(T.take i).map fun x=>V.pav (F x)) (ys:=[V.pav (y,z)]) xx j8 rfl hti.symm rfl (JN [(y,z)]) xG xI ?_;simp only[h9,h11,m9,e1,eE,seval];exact⟨T.length-(i+1),xw,_,_,i+1,g+1,rfl,rfl,xw,xM,xR,xU,j7,(by exact h10),xx,j5,kI,kT,xx,kJ⟩
   ·have e:i=T.length:=xw
    subst e;rw[Qm5,Eu]at mR;simp only[QI hlt,h6,h9,m6,m9,eE,seval];simp[AV.un,AV.unL,Zw,XC,mR,QlY]
  ·have b5:(o.card==5)=false:=q7
   rw[Qlu h4,Qlu h5]at he;rw[Qlu h5];have c1:=hel v hv hc he;generalize Zb nm P o v=z at c1 ⊢;rw[e0,Qd v,Qd z]at c1;simp only[Qu,PO.cells]at c1;rw[Qd v,Qd z];refine wF Tryz.func26 ?_;simp only[eK,Tryz.f26,seval];exact x5

end

theorem ER {fr:Nat->Ob}{a b:Nat}(h1:(fr a).isRow=false)(h2:(fr b).isRow=false):∀s∈[a,b],(fr s).isRow=false:=by
 exact yQ
theorem Dx {fr:Nat->Ob}{a:Nat}(h1:(fr a).isRow=false):∀s∈[a],(fr s).isRow=false:=by
 intro s hs;simp only[QmM,QnI,or_false]at hs;subst hs;exact h1

theorem isr {x:Ob}(h:x=.none):x.isRow=false:=by rw[h];rfl

def JC (nm:PG->V->V)(P:PL)(o:PO)(s:Int×V):List (Int×V):=if (s.1==o.num)=true then JM nm P o s else []
theorem VZ (nm:PG->V->V)(P:PL)(o:PO):∀l:List (Int×V),(l.flatMap (JC nm P o)).length<=l.length
 | []=>Qlk _
 |s :: l=>by
  have h1:(JC nm P o s).length<=1:=by
   unfold JC;split
   ·unfold JM;split<;>simp
   ·simp
  have:=VZ nm P o l;rw[QmU,Ql2,QlD];omega

def Yd (v:V):List AV:=[.int .i64 v.kd,.int .u64 (v.bits:Nat),.str v.text,.list (v.list.map V.av),.list (v.pairs.map V.pav),.list (v.slots.map V.sav),.list (v.raws.map R.av)]

theorem Lx {cL:RC}{P:PL}{v:V}{o:PO}{n:Nat}{ti i:Nat}(K:List (Int×V))(hK:K.length<=64)(hS:v.slots.length<=1048576)(rw':List R)
  (hw:∀x∈v.slots,x.1=o.num->Qh Tryz.prog 26 [P.av,Qu o,x.2.av] (Zq (Q5 P n) P o x.2).av)
  (fr:Nat->Ob) (f:Fr) (gs:Nat) (h1:f 1=.int .i64 (ti:Nat)) (h3:f 3=.ptr 0 3 0) (h5:f 5=.ptr 0 5 0) (h6:f 6=.ptr 0 6 0) (h7:f 7=.ptr 0 7 0) (h8:f 8=.int .i64 (i:Nat)) (h9:f 9=.ptr 0 9 0) (h10:f 10=.int .i64 0) (m3:fr 3=.cells [.list (P.progs.map Qm),.list (P.enums.map QC)]) (m5:fr 5=.cells (Yd v)) (m6:fr 6=.cells [.int .i64 0,.int .u64 0,.str [],.nils,.nils,.nils,.nils]) (m7:fr 7=.cells [.int .i64 10,.int .u64 0,.str [],.nils,.nils,.vec 0 1100 gs 0 K.length false,.list (rw'.map R.av)]) (m9:fr 9=.cells o.cells) (mS:fr 1100=.vec gs 8 (K.map V.sav)) (r11:∀s∈[11],(fr s).isRow=false)
  (Q:Exit->St->Prop)
  (q:∀(f:Fr) (fr:Nat->Ob) (gs:Nat),f 1=.int .i64 (ti:Nat)->f 3=.ptr 0 3 0->f 5=.ptr 0 5 0->f 6=.ptr 0 6 0->f 7=.ptr 0 7 0->f 8=.int .i64 (i:Nat)->fr 3=.cells [.list (P.progs.map Qm),.list (P.enums.map QC)]->fr 5=.cells (Yd v)->fr 6=.cells [.int .i64 0,.int .u64 0,.str [],.nils,.nils,.nils,.nils]->fr 7=.cells [.int .i64 10,.int .u64 0,.str [],.nils,.nils,.vec 0 1100 gs 0 (K++v.slots.flatMap (JC (Q5 P n) P o)).length false,.list (rw'.map R.av)]->fr 1100=.vec gs 8 ((K++v.slots.flatMap (JC (Q5 P n) P o)).map V.sav)->(fr 9).isRow=false->(fr 11).isRow=false->Q (.exit 2) (⟨f,[fr],[]⟩:St)) (hcL:lp 10 1 Tryz.f10=cL:=by simp only[eL,eK,Tryz.f10,seval]) :
  QU Tryz.prog (.loop cL) ⟨f,[fr],[]⟩ Q:=by
 subst hcL;simp only[eL,eK,Tryz.f10,seval];have e0:P.av=.agg [.list (P.progs.map Qm),.list (P.enums.map QC)]:=rfl
 let L:Nat->List (Int×V):=fun k=>K++(v.slots.take k).flatMap (JC (Q5 P n) P o)
 have hL0:L 0=K:=by simp[L]
 have hLn:L v.slots.length=K++v.slots.flatMap (JC (Q5 P n) P o):=by simp[L]
 have hLl:∀k,k<=v.slots.length->(L k).length<=64+k:=by
  intro k hk;have:=VZ (Q5 P n) P o (v.slots.take k);rw[Qml]at this;simp only[L,Ql2];omega
 have hLs:∀k x,v.slots[k]? = some x->L (k+1)=L k++JC (Q5 P n) P o x:=by
  intro k x hx;simp only[L];rw[Qng,hx,QnO,QlJ];simp
 rw[<-hLn]at q;rw[<-hL0]at m7 mS
 clear_value L
 clear hL0 hLn hK
 let I:Nat->St->Prop:=fun d st=>∃f fr k gs,st=⟨f,[fr],[]⟩/\d=v.slots.length-k/\k<=v.slots.length/\f 1=.int .i64 (ti:Nat)/\f 3=.ptr 0 3 0/\f 5=.ptr 0 5 0/\f 6=.ptr 0 6 0/\f 7=.ptr 0 7 0/\f 8=.int .i64 (i:Nat)/\f 9=.ptr 0 9 0/\f 10=.int .i64 (k:Nat)/\fr 3=.cells [.list (P.progs.map Qm),.list (P.enums.map QC)]/\fr 5=.cells (Yd v)/\fr 6=.cells [.int .i64 0,.int .u64 0,.str [],.nils,.nils,.nils,.nils]/\fr 7=.cells [.int .i64 10,.int .u64 0,.str [],.nils,.nils,.vec 0 1100 gs 0 (L k).length false,.list (rw'.map R.av)]/\fr 9=.cells o.cells/\fr 1100=.vec gs 8 ((L k).map V.sav)/\∀s∈[11],(fr s).isRow=false
 refine Qi I _ ⟨f,fr,0,gs,rfl,rfl,Qlx _,h1,h3,h5,h6,h7,h8,h9,h10,m3,m5,m6,m7,m9,mS,r11⟩ ?_;clear h1 h3 h5 h6 h7 h8 h9 h10 m3 m5 m6 m7 m9 mS r11;rintro _ st ⟨f0,fr0,k,gs,rfl,rfl,hkl,h10,h30,h50,h60,h70,h80,h90,h100,m30,m50,m60,m70,m90,mS0,r11⟩;refine QL (a:=_) [11] r11 ?_;intro f fr hf hm hn11;have h1:f 1=.int .i64 (ti:Nat):=kj
 have h3:f 3=.ptr 0 3 0:=xW
 have h5:f 5=.ptr 0 5 0:=jN
 have h6:f 6=.ptr 0 6 0:=jV
 have h7:f 7=.ptr 0 7 0:=jU
 have h8:f 8=.int .i64 (i:Nat):=jM
 have h9:f 9=.ptr 0 9 0:=ki
 have h10':f 10=.int .i64 (k:Nat):=qP
 have m3:fr 3=.cells [.list (P.progs.map Qm),.list (P.enums.map QC)]:=j0
 have m5':fr 5=.cells (Yd v):=jF
 have m6:fr 6=.cells [.int .i64 0,.int .u64 0,.str [],.nils,.nils,.nils,.nils]:=jG
 have m7:fr 7=.cells [.int .i64 10,.int .u64 0,.str [],.nils,.nils,.vec 0 1100 gs 0 (L k).length false,.list (rw'.map R.av)]:=jZ
 have m9':fr 9=.cells o.cells:=by rw[hm 9 xy,m90]<;>rfl
 have mS:fr 1100=.vec gs 8 ((L k).map V.sav):=kP
 have n11:=hn11 11 xy;clear hf hm hn11 h10 h30 h50 h60 h70 h80 h90 h100 m30 m50 m60 m70 m90 mS0 r11;have m5:=m5';have m9:=m9';simp only[Yd]at m5;simp only[PO.cells]at m9;simp only[Qmj,h5,h10',m5,eE,seval];by_cases hlt:k<v.slots.length
 ·obtain⟨x,hi⟩:∃x,v.slots[k]? = some x:=⟨v.slots[k],Qln hlt⟩;have hx:=QlC hi;have hgs:=Wy hi;have e1:=Qr k _ hlt xC;have hKs:=hLs k x hi;have hKi:=hLl k xw;have fin:∀(f':Fr) (fr':Nat->Ob) (gs':Nat),f' 1=.int .i64 (ti:Nat)->f' 3=.ptr 0 3 0->f' 5=.ptr 0 5 0->f' 6=.ptr 0 6 0->f' 7=.ptr 0 7 0->f' 8=.int .i64 (i:Nat)->f' 9=.ptr 0 9 0->f' 10=.int .i64 ((k+1:Nat):Int)->fr' 3=.cells [.list (P.progs.map Qm),.list (P.enums.map QC)]->fr' 5=.cells (Yd v)->fr' 6=.cells [.int .i64 0,.int .u64 0,.str [],.nils,.nils,.nils,.nils]->fr' 7=.cells [.int .i64 10,.int .u64 0,.str [],.nils,.nils,.vec 0 1100 gs' 0 (L (k+1)).length false,.list (rw'.map R.av)]->fr' 9=.cells o.cells->fr' 1100=.vec gs' 8 ((L (k+1)).map V.sav)->(∀s∈[11],(fr' s).isRow=false)->∃d,d<v.slots.length-k/\I d ⟨f',[fr'],[]⟩:=by
   intro f' fr' gs' a1 a3 a5 a6 a7 a8 a9 a10 b3 b5 b6 b7 b9 bS br;exact⟨v.slots.length-(k+1),xw,f',fr',k+1,gs',rfl,rfl,xw,a1,a3,a5,a6,a7,a8,a9,a10,b3,b5,b6,b7,b9,bS,br⟩
  cases hne:(x.1==o.num)
  ·have bn:(x.1 != o.num)=true:=by simp[bne,hne]
   unfold JC at hKs;rw[hne,Qlu xA,Qms]at hKs;simp only[QB hlt,Qp,QmS,Qf,hgs,bn,Ql6,h5,h9,h10',m5,m9,e1,eE,seval];exact fin _ _ gs xL xM xN xU xZ xV j7 xx j5 j9 kT qW (by exact m9') qX (Dx (isr (by exact n11)))
  ·have bn:(x.1 != o.num)=false:=by simp[bne,hne]
   unfold JC at hKs;rw[hne,Qlv rfl]at hKs;unfold JM at hKs;have c2:=hw x hx (by simpa using hne);have c3:=QfJ (Zq (Q5 P n) P o x.2);generalize Zq (Q5 P n) P o x.2=z at c2 c3 hKs;rw[e0,Qd x.2,Qd z]at c2;rw[Qd z]at c3;simp only[Qu,PO.cells]at c2;simp only[QB hlt,Qp,QmS,Qf,hgs,bn,QlX,Ql0,Ql6,h3,h5,h9,h10',m3,m5,m9,eE,seval];refine aC c2 ?_;simp only[n11,h9,m9,eE,seval];cases hb:decide (o.card<3)
   ·rw[hb,Qnd]at hKs;simp only[eE,seval];refine aC c3 ?_;cases hz:z.emp
    ·rw[hz,Qlv (show(!false)=true from rfl)]at hKs;exact ou
    ·rw[hz,Qlu xA,Qms]at hKs;simp only[h10',e1,Qa,seval];exact fin _ _ gs xL xM xN xU xZ xV j7 xx j5 j9 kT qW (by exact m9') qX (Dx rfl)
   ·rw[hb,Qnc,Qlv rfl]at hKs;exact ou
 ·have e:k=v.slots.length:=xw
  subst e;simp only[QI hlt,Qa,seval];exact q _ _ gs xL xM xN xU xZ xV j5 j9 kT vt qA (by rw[m9'];rfl) (isr n11)

def NoI (P:PL)(v:V)(K:Nat->List (Int×V))(len:Nat)(t:Nat)(rw':List R)(d:Nat)(st:St):Prop :=
 ∃f fr i gs,st=⟨f,[fr],[]⟩/\d=len-i/\i<=len/\f 1=.int .i64 (t:Nat)/\f 3=.ptr 0 3 0/\f 5=.ptr 0 5 0/\f 6=.ptr 0 6 0/\f 7=.ptr 0 7 0/\f 8=.int .i64 (i:Nat)/\fr 3=.cells [.list (P.progs.map Qm),.list (P.enums.map QC)]/\fr 5=.cells (Yd v)/\fr 6=.cells [.int .i64 0,.int .u64 0,.str [],.nils,.nils,.nils,.nils]/\fr 7=.cells [.int .i64 10,.int .u64 0,.str [],.nils,.nils,.vec 0 1100 gs 0 (K i).length false,.list (rw'.map R.av)]/\fr 1100=.vec gs 8 ((K i).map V.sav)/\∀s∈[11,9],(fr s).isRow=false

section
variable {M:Nat}{P:PL}

set_option maxHeartbeats 2000000 in
theorem v10 (hU:JX P)(hr:Zo P)(hl:∀g∈P.progs,g.ops.length<=64):∀(n:Nat) (t:Int) (g:PG),P.progs[t.toNat]? = some g->0<=t->∀v:V,v.ok M->v.cnt<=1048576->MW P n g v->Qh Tryz.prog 10 [P.av,.int .i64 t,v.av] (Q5 P n g v).av:=by
 have e0:P.av=.agg [.list (P.progs.map Qm),.list (P.enums.map QC)]:=rfl;intro n
 induction n with
 |zero=>
  intro t g _ _ v _ _ h;exact h.elim
 |succ n ih=>
  intro t g hgt t0 v hv hc h;have hgm:=QlC hgt;have hu:=hU g hgm;have hd:=hr g hgm;have hg64:=hl g hgm;obtain⟨s1,s2⟩:=h;have hnor:=fun(o:PO) (ho:o∈g.ops) (x:V) (hx:x.ok M) (hxc:x.cnt<=1048576) (he:EW (MW P n) P o x)=>v59 o (hu o ho) (fun t g a b v c d e=>ih t g a b v c d e) x hx hxc he
  have hwit:=fun(o:PO) (ho:o∈g.ops) (x:V) (hx:x.ok M) (hxc:x.cnt<=1048576) (he:FW (MW P n) P o x)=>v26 o (hu o ho) (hnor o ho) x hx hxc he
  have lS:=XP v;have lR:=JI v;have cR:=v25 v.raws xw;obtain⟨ti,hti⟩:=Qnb t0;subst hti;rw[QmS]at hgt;have hga:(P.progs.map Qm)[ti]? = some (.agg g.cells):=by simp[hgt,Qm]
  simp only[PG.cells]at hga;have htl:ti<P.progs.length:=(Qlm.1 hgt).1;have d0:decide ((ti:Int)<0)=false:=Qnl xw;have d1:decide ((ti:Int)>=(P.progs.length:Int))=false:=Qnl xw;show Qh _ _ _ (V.mk 10 0 [] [] [] (g.ops.flatMap (Xb (Q5 P n) P v.slots)) (ZA v.raws)).av;have hfin:g.ops.flatMap (Xb (Q5 P n) P v.slots)=g.ops.flatMap fun o=>v.slots.flatMap (JC (Q5 P n) P o):=by
   congr 1
   funext o;exact(ME (Q5 P n) P s2).symm
  have hone:∀o,(v.slots.flatMap (JC (Q5 P n) P o)).length<=1:=by
   intro o;have e:v.slots.flatMap (JC (Q5 P n) P o)=Xb (Q5 P n) P v.slots o:=ME (Q5 P n) P s2;rw[e,Y9];split
   ·simp
   ·unfold JM;split<;>simp
  rw[hfin];generalize ZA v.raws=RW at *;rw[show v.av=.agg (Yd v)from Qd v];generalize hK:(fun i=>(g.ops.take i).flatMap fun o=>v.slots.flatMap (JC (Q5 P n) P o))=K;have hK0:K 0=[]:=wo
  have hKn:(g.ops.flatMap fun o=>v.slots.flatMap (JC (Q5 P n) P o))=K g.ops.length:=wo
  have hKl:∀i,i<=g.ops.length->(K i).length<=64:=by
   intro i hi;rw[<-hK];have:∀l:List PO,(l.flatMap fun o=>v.slots.flatMap (JC (Q5 P n) P o)).length<=l.length:=by
    intro l
    induction l with
    |nil=>exact Qlk _
    |cons o l ih=>
     have:=hone o;rw[QmU,Ql2,QlD];omega
   have h2:=this (g.ops.take i);rw[Qml]at h2;show((g.ops.take i).flatMap _).length<=64;omega
  have hKs:∀i o,g.ops[i]? = some o->K (i+1)=K i++v.slots.flatMap (JC (Q5 P n) P o):=by
   intro i o ho;rw[<-hK];show(g.ops.take (i+1)).flatMap _=(g.ops.take i).flatMap _++_;rw[Qng,ho,QnO];simp
  rw[hKn,show(V.mk 10 0 [] [] [] (K g.ops.length) RW).av=.agg [.int .i64 10,.int .u64 0,.str [],.list [],.list [],.list ((K g.ops.length).map V.sav),.list (RW.map R.av)]from Qd _];clear hKn hfin hone;refine wF Tryz.func10 ?_;simp only[eK,Tryz.f10,seval];simp only[e0,Yd,d0,d1,Qmj,eE,seval];refine aC cR ?_;simp only[eE,seval];refine KT xJ rfl xJ rfl ?_;simp only[List.set,Qa,seval];refine Qi (NoI P v K g.ops.length ti RW) _ ⟨_,_,0,_,rfl,rfl,Qlx _,xx,xx,xx,xx,xx,xx,xx,xx,xx,kK,kK,ER rfl rfl⟩ ?_;rintro _ st ⟨f0,fr0,i,gs,rfl,rfl,hil,h10,h30,h50,h60,h70,h80,m30,m50,m60,m70,mS0,r11⟩;refine QL (a:=_) [11,9] r11 ?_;intro f fr hf hm hn11;have h1:f 1=.int .i64 (ti:Nat):=kj
  have h3:f 3=.ptr 0 3 0:=xW
  have h5:f 5=.ptr 0 5 0:=jN
  have h6:f 6=.ptr 0 6 0:=jV
  have h7:f 7=.ptr 0 7 0:=jU
  have h8:f 8=.int .i64 (i:Nat):=jM
  have m3:fr 3=.cells [.list (P.progs.map Qm),.list (P.enums.map QC)]:=j0
  have m5:fr 5=.cells (Yd v):=jF
  have m6:fr 6=.cells [.int .i64 0,.int .u64 0,.str [],.nils,.nils,.nils,.nils]:=jG
  have m7:fr 7=.cells [.int .i64 10,.int .u64 0,.str [],.nils,.nils,.vec 0 1100 gs 0 (K i).length false,.list (RW.map R.av)]:=jZ
  have mS:fr 1100=.vec gs 8 ((K i).map V.sav):=kP
  have n11:=hn11 11 xy;have n9:=hn11 9 xy;clear hf hm hn11 h10 h30 h50 h60 h70 h80 m30 m50 m60 m70 mS0 r11;simp only[Qp,QmS,Qf,hga,Qmj,Ql0,Ql6,h1,h3,h8,m3,eE,seval];by_cases hlt:i<g.ops.length
  ·obtain⟨o,hi⟩:∃o,g.ops[i]? = some o:=⟨g.ops[i],Qln hlt⟩;have hom:=QlC hi;have hgo:(g.ops.map fun o=>AV.agg o.cells)[i]? = some (.agg o.cells):=wE
   simp only[PO.cells]at hgo;have e1:=Qr i _ hlt xC;have hKi:=hKl i xw;have hKs':=hKs i o hi;simp only[QB hlt,Qp,QmS,Qf,hga,PO.cells,hgo,n9,h1,h3,h8,m3,eE,seval];refine Lx (P:=P) (v:=v) (o:=o) (n:=n) (ti:=ti) (i:=i) (K i) hKi xw RW (fun x hx hxn=>by
    obtain⟨o',ho',hf'⟩:=s1 x hx;rw[hxn,XQ hd hom]at ho';cases ho';exact hwit o hom x.2 (hv.slots x hx) (Qll (ZZ hx) hc) hf') _ _ gs xL xM xN xU xZ xV xx xx j5 q9 kT vt xx qA (Dx (isr (by exact n11))) _ ?_
   clear h1 h3 h5 h6 h7 h8 m3 m5 m6 m7 mS n11 n9;intro f fr gs h1 h3 h5 h6 h7 h8 m3 m5 m6 m7 mS n9 n11;rw[<-hKs']at m7 mS;simp only[h8,e1,Qa,seval];exact⟨g.ops.length-(i+1),xw,_,_,i+1,gs,rfl,rfl,xw,xL,xM,xN,xU,xZ,xx,m3,m5,m6,m7,mS,ER n11 n9⟩
  ·have e:i=g.ops.length:=xw
   subst e;simp only[QI hlt,h6,h7,m6,m7,eE,seval];simp[AV.un,AV.unL,Zw,XC,mS,QlY]

end
open Vp Cp

def J1 (P:PL)(N:Nat)(s:List UInt8)(b:V)(d:List UInt8)(l:L):V×Nat :=
 if QH s P<0 then(QN 0 0 [],10)
 else if b.kd≠10 then(QN 0 0 [],12)
 else if (opn d l).2≠0 then(QN 0 0 [],(opn d l).2)
 else if l.dp<1 then(QN 0 0 [],17)
 else match spd ⟨d,0,d.length,l.dp-1,l.nd,l.tx⟩ 1 with
  |.error e=>(QN 0 0 [],e)
  |.ok c=>match Ho P N (QH s P) b c with
   |.error e=>(QN 0 0 [],e)
   |.ok (v,_)=>(Q5 P N (Qg P (QH s P)) v,0)
def ov (r:V×Nat):AV:=.tup [r.1.av,.int .i64 (r.2:Nat)]

theorem ES {d:List UInt8}{l:L}(h:(opn d l).2=0):opn d l=(⟨d,0,d.length,l.dp,l.nd,l.tx⟩,0)/\0<=l.dp/\0<=l.nd:=by
 unfold opn at h ⊢;split at h
 ·cases h
 ·split at h
  ·cases h
  ·rename_i h1 h2;rw[Qlu h1,Qlu h2];exact⟨rfl,xw,xw⟩
theorem Ny {d:List UInt8}{l:L}(hd:d.length<=65536)(h1:1<=l.dp/\l.dp<9223372036854775808)(h2:0<=l.nd/\l.nd<9223372036854775808):CI ⟨d,0,d.length,l.dp-1,l.nd,l.tx⟩ :=
 ⟨hd,by unfold C.sound;simp,h2,jT⟩

section
variable {M N:Nat}(hM:65536<=M)(P:PL)(hP:P.ok M)(hc:ck P=0)(hN:65536<N)(s:List UInt8)(b:V)(d:List UInt8)(l:L)(hd:d.length<=65536)(hl1:l.dp<9223372036854775808)(hl2:l.nd<9223372036854775808)
 (hbm:b.kd=10->0<=QH s P->MW P N (Qg P (QH s P)) b) (hbo:b.ok M) (hbc:b.cnt<=800000)

include hM hP hc hN hd hl1 hl2 hbm hbo hbc in
theorem Vl (h:(J1 P N s b d l).2=0):(0<=QH s P/\QH s P<(P.progs.length:Int))/\∃w,MW P N (Qg P (QH s P)) w/\w.ok M/\(w.cnt:Int)<=b.cnt+3*d.length/\(J1 P N s b d l).1=Q5 P N (Qg P (QH s P)) w:=by
 unfold J1 at h ⊢;rcases JB s P with hx|hx
 ·rw[Qlv xw]at h;cases h
 rw[Qlu xw]at h ⊢;by_cases hk:b.kd=10
 case neg=>rw[Qlv hk]at h;cases h
 rw[Qlu jD]at h ⊢;by_cases ho:(opn d l).2=0
 case neg=>rw[Qlv ho]at h;exact absurd h ho
 rw[Qlu (by simp[ho])]at h ⊢;obtain⟨_,o1,o2⟩:=ES ho;by_cases hdp:l.dp<1
 ·rw[Qlv hdp]at h;cases h
 rw[Qlu hdp]at h ⊢;have hci:=Ny (l:=l) hd ⟨xw,hl1⟩ ⟨o2,hl2⟩;have hlf:=hci.lf;dsimp only at hlf;generalize (⟨d,0,d.length,l.dp-1,l.nd,l.tx⟩:C)=c0 at h hci hlf ⊢;cases hs:spd c0 1 with
 |error e=>
  rw[hs]at h;exact absurd h (Tv hs)
 |ok c=>
  rw[hs]at h;dsimp only at h ⊢;obtain⟨s1,s2⟩:=Zm hci xw hs;have hcc:=s1.ci hci;have hls:=(s1.left hci).2.2;cases hr:Ho P N (QH s P) b c with
  |error e=>
   rw[hr]at h;exact absurd h (Pq P N _ _ _ _ hr)
  |ok p=>
   obtain⟨w,c2⟩:=p;obtain⟨q1,q2,q3,q4⟩:=HH (K:=1000000) hM (Qlk _) hP (Zy hc) (Xr hc) N (QH s P) b c hcc xw hx (hbm hk hx.1) hbo xw w c2 hr;have hb2:=(q1.ci hcc).bd;exact⟨hx,w,q2,q3,xw,rfl⟩

include hM hP hc hN hd hl1 hl2 hbm hbo hbc in
theorem j77:Qh Tryz.prog 77 [P.av,.str s,b.av,.str d,l.av] (ov (J1 P N s b d l)):=by
 have hU:=Zy hc;have hr:=Xr hc;have hln:P.progs.length<=maxLen:=hP.len1;have hfi:=Rs P hln s;have hop:=Qi6 d l;have z0:(QN 0 0 []).av=.agg [.int .i64 0,.int .u64 0,.str [],.list [],.list [],.list [],.list []]:=Qd _;unfold Fx at hfi;rw[show Za (fun g:PG=>g.name==s) P.progs 0=QH s P from rfl]at hfi;rw[show P.av=.agg (Q8 P)from rfl]at hfi;unfold J1;rw[show P.av=.agg (Q8 P)from rfl,Qd b];simp only[Q8]at hfi;rcases JB s P with hx|hx
 ·have d1:decide (QH s P>=0)=false:=Qnl xw;rw[d1]at hfi;rw[Qlv xw];refine wF Tryz.func77 ?_;simp only[eK,Tryz.f77,seval];simp only[Q8,L.av,eE,seval];refine aC hfi ?_;simp only[ov,z0,eE,seval]<;>rfl
 have d1:decide (QH s P>=0)=true:=Qnr xw;rw[d1,Qlu (by omega:¬QH s P<0)]at hfi;rw[Qlu xw];by_cases hk:b.kd=10
 case neg=>
  have b1:(b.kd != 10)=true:=jD
  rw[Qlv hk];refine wF Tryz.func77 ?_;simp only[eK,Tryz.f77,seval];simp only[Q8,L.av,eE,seval];refine aC hfi ?_;simp only[b1,ov,z0,eE,seval]<;>rfl
 have b1:(b.kd != 10)=false:=jD
 rw[Qlu jD];by_cases ho:(opn d l).2=0
 case neg=>
  rw[Qlv ho];generalize opn d l=q at hop ho ⊢;obtain⟨c,e⟩:=q;dsimp only at ho ⊢;simp only[Hw,C.av,L.av]at hop;refine wF Tryz.func77 ?_;simp only[eK,Tryz.f77,seval];simp only[Q8,L.av,eE,seval];refine aC hfi ?_;simp only[b1,eE,seval];refine aC hop ?_;simp only[Xa ho,ov,z0,eE,seval]
 rw[Qlu (by simp[ho])];obtain⟨oe,o1,o2⟩:=ES ho;rw[oe]at hop;simp only[Hw,C.av,L.av]at hop;by_cases hdp:l.dp<1
 ·have b2:decide (l.dp<1)=true:=Qnr hdp;rw[Qlv hdp];refine wF Tryz.func77 ?_;simp only[eK,Tryz.f77,seval];simp only[Q8,L.av,eE,seval];refine aC hfi ?_;simp only[b1,eE,seval];refine aC hop ?_;simp only[b2,ov,z0,eE,seval]<;>rfl
 have b2:decide (l.dp<1)=false:=Qnl hdp;have w1:IntKind.i64.wrap (l.dp-1)=l.dp-1:=xE
 rw[Qlu hdp];have hci:=Ny (l:=l) hd ⟨xw,hl1⟩ ⟨o2,hl2⟩;have hlf:=hci.lf;dsimp only at hlf;have hrob:∀c:C,Xi P c=.cells [.list (P.progs.map Qm),.list (P.enums.map QC),.str c.d,.int .i64 c.a,.int .i64 c.e,.int .i64 c.dp,.int .i64 c.nd,.int .i64 c.tx]:=fun _=>rfl
 have p0:∀(fr:Nat->Ob) (o:Ob),Am.put [fr] 0 52 o=[QJ fr 52 o]:=fun _ _=>rfl
 refine wF Tryz.func77 ?_;simp only[eK,Tryz.f77,seval];simp only[Q8,L.av,eE,seval];refine aC hfi ?_;simp only[b1,eE,seval];refine aC hop ?_;simp only[b2,w1,eE,seval];refine QO (F8 P ⟨d,0,d.length,l.dp-1,l.nd,l.tx⟩ 0 52 _ xx 1) xF ?_;rintro x m1 ⟨rfl,rfl⟩ _;generalize (⟨d,0,d.length,l.dp-1,l.nd,l.tx⟩:C)=c0 at hci hlf ⊢;rcases K3 c0 1 with⟨c,h2,h2'⟩|⟨e,he,h2,h2'⟩
 case inr=>
  rw[h2,h2'];simp only[p0,Xa he,ov,z0,eE,seval]
 rw[h2,h2'];obtain⟨s1,s2⟩:=Zm hci xw h2;have hcc:=s1.ci hci;have hls:=(s1.left hci).2.2;dsimp only;simp only[p0,eE,seval];have hrc:=fun(m:Qk) (hm:0<m.length) (h:Am.Qc m 0 52=Xi P c)=>QeP (K:=1000000) hM (Qlk _) hP hU hr N 0 52 m (QH s P) b c hm h hcc xw hx (hbm hk hx.1) hbo xw
 have hro:=HH (K:=1000000) hM (Qlk _) hP hU hr N (QH s P) b c hcc xw hx (hbm hk hx.1) hbo xw;rw[Qd b]at hrc;refine QO (hrc _ xA xx) xF ?_;intro x m1 hx1 _;cases hr2:Ho P N (QH s P) b c with
 |error e=>
  rw[hr2]at hx1;obtain⟨he,w,c',rfl,rfl⟩:=hx1;dsimp only;simp only[p0,Xa he,Qd w,ov,z0,eE,seval]
 |ok p=>
  obtain⟨w,c2⟩:=p;rw[hr2]at hx1;obtain⟨rfl,rfl⟩:=hx1;obtain⟨q1,q2,q3,q4⟩:=hro w c2 hr2;have hb2:=(q1.ci hcc).bd;have hnm:=v24 hP hU hr (F2 hc) N (QH s P) _ (UL hx).2 hx.1 w q3 xw q2;dsimp only;generalize Q5 P N (Qg P (QH s P)) w=u at hnm ⊢;rw[show P.av=.agg (Q8 P)from rfl,Qd w,Qd u]at hnm;simp only[Q8]at hnm;simp only[p0,Qd w,eE,seval];refine aC hnm ?_;simp only[ov,Qd u,eE,seval]<;>rfl

end

section
variable {M N:Nat}(hM:65536<=M)(P:PL)(hP:P.ok M)(hc:ck P=0)(hN:65536<N)(s:List UInt8)(b:V)(d:List UInt8)(l:L)(hd:d.length<=65536)(hl1:l.dp<9223372036854775808)(hl2:l.nd<9223372036854775808)
 (hbm:b.kd=10->0<=QH s P->MW P N (Qg P (QH s P)) b) (hbo:b.ok M) (hbc:b.cnt<=800000)

end

def KN (P:PL)(N:Nat)(s d:List UInt8)(l:L):V×Nat :=
 if (J1 P N s (QN 10 0 []) d l).2≠0 then(QN 0 0 [],(J1 P N s (QN 10 0 []) d l).2)
 else if Yi P N (Qg P (QH s P)) (J1 P N s (QN 10 0 []) d l).1=true then(QN 0 0 [],14)
 else((J1 P N s (QN 10 0 []) d l).1,0)

section
variable {M N:Nat}(hM:65536<=M)(P:PL)(hP:P.ok M)(hc:ck P=0)(hN:65536<N)(s:List UInt8)(d:List UInt8)(l:L)(hd:d.length<=65536)(hl1:l.dp<9223372036854775808)(hl2:l.nd<9223372036854775808)

include hM hP hc hN hd hl1 hl2 in
theorem QcD:(KN P N s d l).1.cnt<=1048576:=by
 unfold KN;have h0:=Vl (N:=N) hM P hP hc hN s (QN 10 0 []) d l hd hl1 hl2 (fun _ _=>XZ xw) (Zc rfl xy (Qlx _)) jS;by_cases h:(J1 P N s (QN 10 0 []) d l).2=0
 case neg=>rw[Qlv h,Xj];omega
 rw[Qlu w_];obtain⟨hx,w,w1,w2,w3,w4⟩:=h0 h;split
 ·rw[Xj];omega
 ·rw[w4];have:=Kr (Xr hc) N (Qg P (QH s P)) (Z7 (Xr hc) _) w;rw[Xj]at w3;omega

include hM hP hc hN hd hl1 hl2 in
theorem j41:Qh Tryz.prog 41 [P.av,.str s,.str d,l.av] (ov (KN P N s d l)):=by
 have hon:=j77 (N:=N) hM P hP hc hN s (QN 10 0 []) d l hd hl1 hl2 (fun _ _=>XZ xw) (Zc rfl xy (Qlx _)) jS;have hok:=Vl (N:=N) hM P hP hc hN s (QN 10 0 []) d l hd hl1 hl2 (fun _ _=>XZ xw) (Zc rfl xy (Qlx _)) jS;have hfi:=Rs P hP.len1 s;have z0:(QN 0 0 []).av=.agg [.int .i64 0,.int .u64 0,.str [],.list [],.list [],.list [],.list []]:=Qd _;have z10:(QN 10 0 []).av=.agg [.int .i64 10,.int .u64 0,.str [],.list [],.list [],.list [],.list []]:=Qd _;have hcp:=fun(h:(0<=QH s P/\QH s P<(P.progs.length:Int))) v hv hcv=>j78 P hP (Xr hc) (Zy hc) N (QH s P) v h hv hcv
 unfold KN;generalize J1 P N s (QN 10 0 []) d l=q at hon hok ⊢;obtain⟨v,e⟩:=q;unfold Fx at hfi;rw[show Za (fun g:PG=>g.name==s) P.progs 0=QH s P from rfl]at hfi;rw[show P.av=.agg (Q8 P)from rfl]at hfi;rw[show P.av=.agg (Q8 P)from rfl,z10]at hon;rw[show P.av=.agg (Q8 P)from rfl];simp only[ov,Qd v,Q8,L.av]at hon;simp only[Q8]at hfi;dsimp only at hok ⊢;refine wF Tryz.func41 ?_;simp only[eK,Tryz.f41,seval];simp only[Q8,L.av,eE,seval];refine aC hon ?_;by_cases he:e=0
 case neg=>
  rw[Qlv he];simp only[Xa he,ov,z0,eE,seval]
 subst he;obtain⟨hx,w,w1,w2,w3,w4⟩:=hok rfl;have d1:decide (QH s P>=0)=true:=Qnr xw;rw[d1,Qlu (by omega:¬QH s P<0)]at hfi;have hcn:=Kr (Xr hc) N (Qg P (QH s P)) (Z7 (Xr hc) _) w;rw[Xj]at w3;have hcm:=hcp hx v (by rw[w4];exact EQ (Zy hc) (Xr hc) N _ (UL hx).1 w w1) (by rw[w4];omega);rw[show P.av=.agg (Q8 P)from rfl,Qd v]at hcm;simp only[Q8]at hcm;rw[Qlu xA];simp only[eE,seval];refine aC hfi ?_;simp only[eE,seval];refine aC hcm ?_;cases hl:Yi P N (Qg P (QH s P)) v
 ·rw[Qlu xA];simp only[Qmx,Qm9,ov,Qd v,eE,seval]<;>rfl
 ·rw[Qlv rfl];simp only[Qmx,Qm9,ov,z0,eE,seval]<;>rfl

end

def PT (c:C):Int:=c.nd-3*c.left
structure Rich (c:C):Prop where
 ci:CI c
 tx:c.left<=c.tx
 pt:0<=PT c
def NL {α:Type}(c:C):Rd α->Prop
 |.error e=>e≠3
 |.ok (_,d)=>Af c d/\PT c<=PT d
def TA (rec:Int->V->C->Rd V):Prop:=∀t v c,Rich c->NL c (rec t v c)
theorem Uf {c d:C}(hc:CI c)(ht:c.left<=c.tx)(a:Af c d):d.left<=d.tx:=by
 have h1:=(a.left hc).2.2;obtain⟨_,_,_,e,_⟩:=a.eqs;rw[e];omega
theorem Rich.nx {c d:C}(h:Rich c)(a:Af c d)(hp:0<=PT d):Rich d:=by
 exact⟨a.ci h.ci,Uf h.ci h.tx a,hp⟩

theorem Qbc:∀(s:List UInt8) (k u:Nat),(JU k u s).2.2≠3
 | [],_,_=>by unfold JU;simp
 |b :: t,k,u=>by
  unfold JU;have:=Qbc t
  repeat' split
  all_goals first|exact this _ _|simp
theorem UP (c:C):c.varint.2.2≠3:=by
 unfold C.varint;dsimp only;split
 ·simp
 ·exact Qbc _ _ _
theorem Hb (c:C):c.varint.2.1.nd=c.nd:=by unfold C.varint;dsimp only;split<;>rfl
theorem Nz {c:C}(hc:CI c):match ZU c with
  |.error e=>e≠3
  |.ok (n,d)=>As c d/\(n:Int)<=d.left/\PT c+3<=PT d:=by
 cases h:ZU c with
 |error e=>
  dsimp only;unfold ZU at h;split at h
  ·split at h
   ·cases h;simp
   ·cases h
  ·cases h;exact UP c
 |ok r=>
  obtain⟨n,d⟩:=r;obtain⟨h1,h2⟩:=Kn hc h;have h3:d.nd=c.nd:=by
   unfold ZU at h;split at h
   ·split at h
    ·cases h
    ·cases h;exact Hb c
   ·cases h
  have:=h1.lt hc;exact⟨h1,h2,vk⟩
theorem Ps {c:C}(hc:CI c):(Qq c).2.2.2≠3/\((Qq c).2.2.2=0->As c (Qq c).2.2.1/\(Qq c).2.2.1.nd=c.nd/\PT c+3<=PT (Qq c).2.2.1):=by
 have h3:(Qq c).2.2.1.nd=c.nd:=by
  unfold Qq;dsimp only
  repeat' split
  all_goals first|rfl|exact Hb c
 refine⟨?_,fun h=>?_⟩
 ·unfold Qq;dsimp only
  repeat' split
  all_goals first|exact UP c|simp
 ·have h1:=(HF hc h).1;have:=h1.lt hc;exact⟨h1,h3,vk⟩
theorem Dy {c:C}{n:Int}(hc:CI c)(hn:0<=n)(h:n<=c.nd):∃d,spd c n=.ok d/\Af c d/\PT d=PT c-n/\d.left=c.left:=by
 have hs:(c.spend n).2=0:=by unfold C.spend;rw[Qlu xw,Qlu xw]
 have e:spd c n=.ok (c.spend n).1:=by unfold spd;rw[Qlv hs]
 obtain⟨a1,a2⟩:=Zm hc hn e;have hl:=(a1.left hc).1;have:=hc.nd;have hd:(c.spend n).1.nd=c.nd-n:=by
  unfold C.spend;rw[Qlu xw,Qlu xw];show IntKind.i64.wrap (c.nd-n)=_;rw[QA];omega
 exact⟨_,e,a1,vk,xw⟩
theorem ET {w:Int}{c:C}(hc:CI c)(ht:c.left<=c.tx):match Ka w c with
  |.error e=>e≠3
  |.ok (_,d)=>As c d/\PT c+3<=PT d:=by
 cases h:Ka w c with
 |error e=>
  dsimp only;unfold Ka at h;split at h
  ·have hl:=Nz hc;split at h
   ·rename_i e' h1;cases h;rw[h1]at hl;exact hl
   ·rename_i n d h1;rw[h1]at hl;split at h
    ·cases h
    ·cases h;have htx:=Uf hc ht hl.1.1;have:=hl.2.1;unfold text;rw[Qlu xw,Qlu xw,Qlu xw];simp
  ·split at h
   ·split at h
    ·cases h
    ·cases h;unfold C.fixed;split<;>simp
   ·split at h
    ·cases h
    ·cases h;exact UP c
 |ok r=>
  obtain⟨f,d⟩:=r;have h1:=(Dt hc h).1;have h3:d.nd=c.nd:=by
   unfold Ka at h;split at h
   ·split at h
    ·cases h
    ·rename_i n i hl;have:i.nd=c.nd:=by
      unfold ZU at hl;split at hl
      ·split at hl
       ·cases hl
       ·cases hl;exact Hb c
      ·cases hl
     split at h
     ·cases h;rw[<-this];unfold text
      repeat' split
      all_goals rfl
     ·cases h
   ·split at h
    ·split at h
     ·cases h;unfold C.fixed;split<;>rfl
     ·cases h
    ·split at h
     ·cases h;exact Hb c
     ·cases h
  have:=h1.lt hc;exact⟨h1,vk⟩
theorem Qbd (P:PL)(k t:Int)(f:R):(Zi P k t f).2≠3:=by
 unfold Zi
 repeat' split
 all_goals simp
theorem Fb {α:Type}{c d:C}{r:Rd α}(hc:CI c)(a:Af c d)(hp:PT c<=PT d)(h:NL d r):NL c r:=by
 cases r with
 |error e=>exact h
 |ok x=>exact⟨a.trans h.1 hc,Int.le_trans hp h.2⟩

section
variable {P:PL}{g:PG}{o:PO}
theorem R5 {v:V}{c:C}(hr:Rich c)(h1:0<c.left\/1<=PT c):NL c (Kz P g v o c):=by
 have hc:=hr.ci;have hnd:1<=c.nd:=by
  have:=hc.bd;have:=hr.pt;unfold PT at *;omega
 obtain⟨c1,e1,a1,p1,l1⟩:=Dy hc (by decide:(0:Int)<=1) hnd;unfold Kz;rw[e1];dsimp only;have hx:=ET (w:=wk o.kind) (a1.ci hc) (Uf hc hr.tx a1);cases h2:Ka (wk o.kind) c1 with
 |error e=>rw[h2]at hx;exact hx
 |ok r=>
  obtain⟨f,d⟩:=r;rw[h2]at hx;obtain⟨b1,b2⟩:=hx;have a2:=a1.trans b1.1 hc;have hok:∀w:V,NL c (.ok (w,d):Rd V):=fun w=>⟨a2,xw⟩
  dsimp only;split
  ·exact hok _
  split
  ·split
   ·split
    ·exact hok _
    ·have hnd2:1<=d.nd:=by
      have:=(a2.ci hc).bd;have:=hr.pt;unfold PT at *;omega
     obtain⟨d1,e2,a3,p2,l2⟩:=Dy (a2.ci hc) (by decide:(0:Int)<=1) hnd2;rw[e2];exact⟨a2.trans a3 hc,xw⟩
   ·exact hok _
  ·exact Qbd P _ _ _
theorem Pt:∀(k:Nat) {v:V} {c:C},Rich c->NL c (Ki P g o k v c)
 |0,v,c,hr=>⟨Af.refl hr.ci,QmP _⟩
 |k+1,v,c,hr=>by
  rw[Ki];split
  ·rename_i hl;have h1:=R5 (P:=P) (g:=g) (o:=o) (v:=v) hr (.inl hl);cases h2:Kz P g v o c with
   |error e=>rw[h2]at h1;exact h1
   |ok r=>
    rw[h2]at h1;have hp:=hr.pt;exact Fb hr.ci h1.1 h1.2 (Pt k (hr.nx h1.1 (by have:=h1.2;omega)))
  ·exact⟨Af.refl hr.ci,QmP _⟩
theorem Dz {c:C}{n:Nat}(hr:Rich c)(hn:(n:Int)<=c.left):Rich (part c n)/\PT c<=PT (part c n)/\(part c n).nd=c.nd:=by
 obtain⟨e1,e2,e3⟩:=Jr hr.ci hn;have hp:=hr.pt;have ht:=hr.tx;have e4:(part c n).nd=c.nd:=rfl;have e5:(part c n).tx=c.tx:=rfl;have:PT c<=PT (part c n):=by unfold PT;omega
 exact⟨⟨e2,by rw[e5];omega,xw⟩,this,e4⟩
theorem V0 {c i:C}{n:Nat}{k:Int}(hc:CI c)(hn:(n:Int)<=c.left)(hj:Af (part c n) i)(h:PT (part c n)-k<=PT i):Af c (Jg c i)/\PT c-k<=PT (Jg c i):=by
 obtain⟨b1,b2⟩:=U8 hc hn hj;have h3:=(Jr hc hn).2.2;have h4:=(hj.ci (Jr hc hn).2.1).bd;have e4:(part c n).nd=c.nd:=rfl;have e5:(Jg c i).nd=i.nd:=rfl;refine⟨b1,?_⟩;unfold PT at *;omega
theorem EU {v:V}{c d:C}{q:Nat}{k:Int}(hr:Rich c)(hq:(q:Int)<=c.left)(hd:Af (part c q) d)(hk:PT (part c q)-k<=PT d)(h0:0<=PT d):match Jz P g v o c d with
  |.error e=>e≠3
  |.ok (_,e)=>Af c e/\PT c-k<=PT e:=by
 have hp:=Jr hr.ci hq;have hrd:Rich d:=⟨hd.ci hp.2.1,Uf hp.2.1 (Dz hr hq).1.tx hd,h0⟩;have h1:=Pt (P:=P) (g:=g) (o:=o) d.left.toNat (v:=v) hrd;unfold Jz;cases h2:Ki P g o d.left.toNat v d with
 |error e=>rw[h2]at h1;exact h1
 |ok r=>
  rw[h2]at h1;exact V0 hr.ci hq (hd.trans h1.1 hp.2.1) (Int.le_trans hk h1.2)
theorem Ly {v:V}{c:C}(hr:Rich c):NL c (Wq P g v o c):=by
 have hc:=hr.ci;have hp:=hr.pt;unfold Wq;have hl:=Nz hc;cases h1:ZU c with
 |error e=>rw[h1]at hl;exact hl
 |ok r=>
  obtain⟨q,c1⟩:=r;rw[h1]at hl;obtain⟨a1,a2,a3⟩:=hl;have hr1:=hr.nx a1.1 xw;obtain⟨p1,p2,p3⟩:=Dz hr1 a2;dsimp only;split
  ·rename_i hy;obtain⟨y1,_⟩:=D6 p1.ci hy;have y2:(ZF (part c1 q)).2.1.nd=(part c1 q).nd:=by unfold ZF;split<;>rfl
   have y3:=y1.lt p1.ci;have y4:PT (part c1 q)+3<=PT (ZF (part c1 q)).2.1:=by unfold PT;omega
   have fin:∀(w:V) (d:C),Af (part c1 q) d->PT (part c1 q)+2<=PT d->NL c (Jz P g w o c1 d):=fun w d ad pd=>by
    have:=EU (P:=P) (g:=g) (o:=o) (v:=w) (k:=0) hr1 a2 ad xw (by have:=p1.pt;omega);cases h2:Jz P g w o c1 d with
    |error e=>rw[h2]at this;exact this
    |ok r=>rw[h2]at this;exact⟨a1.1.trans this.1 hc,by have:=this.2;omega⟩
   split
   ·split
    ·exact fin _ _ y1.1 xw
    ·have hnd:1<=(ZF (part c1 q)).2.1.nd:=by
      have:=(y1.ci p1.ci).bd;have:=p1.pt;unfold PT at *;omega
     obtain⟨i,e1,b1,b2,b3⟩:=Dy (y1.ci p1.ci) (by decide:(0:Int)<=1) hnd;rw[e1];exact fin _ _ (y1.1.trans b1 p1.ci) xw
   ·show(13:Nat)≠3;decide
  ·rename_i hy;show(ZF (part c1 q)).2.2≠3;unfold ZF;split<;>simp

variable {rec:Int->V->C->Rd V}(hrec:TA rec)
include hrec
theorem EV {t:Int}{b:V}{k:Int}{c:C}(hr:Rich c)(hk:0<=k/\k<=3):NL c (WK rec t b k c):=by
 have hc:=hr.ci;have hp:=hr.pt;unfold WK;have hl:=Nz hc;cases h1:ZU c with
 |error e=>rw[h1]at hl;exact hl
 |ok r=>
  obtain⟨n,d⟩:=r;rw[h1]at hl;obtain⟨a1,a2,a3⟩:=hl;have hd:=a1.ci hc;have hdb:=hd.bd;dsimp only;split
  ·rename_i h0;obtain⟨e1,e2,e3⟩:=Gq hd a2 h0;have en:(enter d n).1.nd=d.nd:=by rw[e1]
   have et:(enter d n).1.tx=d.tx:=by rw[e1]
   have htx:=Uf hc hr.tx a1.1;obtain⟨i,s1,s2,s3,s4⟩:=Dy e2 hk.1 qQ;rw[s1];dsimp only;have hi:Rich i:=⟨s2.ci e2,Uf e2 (by rw[et];omega) s2,qQ⟩;have h3:=hrec t b i hi;cases h2:rec t b i with
   |error e=>rw[h2]at h3;exact h3
   |ok r=>
    obtain⟨x,j⟩:=r;rw[h2]at h3;obtain⟨r1,r2⟩:=h3;have hje:i.e=d.a+n/\i.nd<=d.nd:=by
     obtain⟨_,f2,_⟩:=s2.eqs;have f3:=s2.nd;rw[e1]at f2 f3;exact⟨f2,f3.2⟩
    obtain⟨l1,l2⟩:=F5 hd a2 hje r1;have hjb:=(r1.ci hi.ci).bd;have ln:(Yb d j).nd=j.nd:=by
     obtain⟨f1,f2,f3,f4,l,f5,hl'⟩:=r1.eqs;have:=hd.pos;have:=hd.lf;have:=r1.nd;unfold Yb;rw[Qlu (by rw[hd.snd];simp;omega)]
    refine⟨a1.1.trans l1 hc,?_⟩;unfold PT at *;omega
  ·rename_i h0;show(enter d n).2≠3;unfold enter
   repeat' split
   all_goals simp
theorem Lz {v:V}{c:C}(hr:Rich c):NL c (KJ rec g v o c):=by
 have key:∀(t:Int) (b:V) (k:Int) (w:V->V),0<=k/\k<=3->NL c (match WK rec t b k c with
   |.error e=>.error e
   |.ok (x,d)=>.ok (w x,d):Rd V):=fun t b k w hk=>by
  have h:=EV hrec (t:=t) (b:=b) hr hk;cases h2:WK rec t b k c with
  |error e=>rw[h2]at h;exact h
  |ok r=>rw[h2]at h;exact h
 unfold KJ;split
 ·exact key _ _ _ (fun x=>Zl g v o (XG ((Q2 v o.num).list++[x]))) (by split<;>decide)
 ·exact key _ _ _ (fun x=>Zl g v o x) xy
theorem LA {k t w:Int}{c:C}(hr:Rich c):NL c (KL P rec k t w c):=by
 unfold KL;split
 ·split
  ·exact EV hrec hr xy
  ·have h:=ET (w:=w) hr.ci hr.tx;cases h2:Ka w c with
   |error e=>rw[h2]at h;exact h
   |ok r=>
    obtain⟨f,d⟩:=r;rw[h2]at h;dsimp only;split
    ·exact⟨h.1.1,by have:=h.2;omega⟩
    ·exact Qbd P _ _ _
 ·show(13:Nat)≠3;decide
theorem R6:∀(n:Nat) (x:V×V) (a b:Bool) (c:C),Rich c->NL c (K0 P rec o n x a b c)
 |0,x,a,b,c,hr=>⟨Af.refl hr.ci,QmP _⟩
 |n+1,x,a,b,c,hr=>by
  have hp:=hr.pt;obtain⟨t1,t2⟩:=Ps hr.ci;have key:∀(k t:Int) (w:V->V×V) (a b:Bool),(Qq c).2.2.2=0->NL c (match KL P rec k t (Qq c).2.1 (Qq c).2.2.1 with
    |.error e=>.error e
    |.ok (y,d)=>K0 P rec o n (w y) a b d):=fun k t w a b h0=>by
   obtain⟨a1,_,a3⟩:=t2 h0;have hr1:=hr.nx a1.1 xw;have h:=LA hrec (P:=P) (k:=k) (t:=t) (w:=(Qq c).2.1) hr1;refine Fb hr.ci a1.1 xw ?_;cases h2:KL P rec k t (Qq c).2.1 (Qq c).2.2.1 with
   |error e=>rw[h2]at h;exact h
   |ok r=>
    obtain⟨y,d⟩:=r;rw[h2]at h;exact Fb hr1.ci h.1 h.2 (R6 n (w y) a b d (hr1.nx h.1 (by have:=h.2;have:=hr1.pt;omega)))
  rw[K0];split
  ·split
   ·rename_i h0;split
    ·split
     ·show(9:Nat)≠3;decide
     ·exact key _ _ (fun y=>(y,x.2)) true b h0
    ·split
     ·split
      ·show(9:Nat)≠3;decide
      ·exact key _ _ (fun y=>(x.1,y)) a true h0
     ·show(18:Nat)≠3;decide
   ·exact t1
  ·exact⟨Af.refl hr.ci,QmP _⟩
theorem EX {v:V}{c:C}(hr:Rich c):NL c (JZ P rec g v o c):=by
 have hc:=hr.ci;have hp:=hr.pt;unfold JZ;have hl:=Nz hc;cases h1:ZU c with
 |error e=>rw[h1]at hl;exact hl
 |ok r=>
  obtain⟨n,d⟩:=r;rw[h1]at hl;obtain⟨a1,a2,a3⟩:=hl;have hr1:=hr.nx a1.1 xw;obtain⟨p1,p2,p3⟩:=Dz hr1 a2;obtain⟨k,hk,hk3⟩:∃k:Int,(if (XY v o.num).isSome=true then 2 else 3)=k/\0<=k/\k<=3:=⟨_,rfl,by split<;>decide⟩;rw[hk];obtain⟨i,s1,s2,s3,s4⟩:=Dy p1.ci hk3.1 (by have:=p1.ci.bd;unfold PT at *;omega);dsimp only;rw[s1];dsimp only;have hi:Rich i:=⟨s2.ci p1.ci,Uf p1.ci p1.tx s2,xw⟩;have h3:=R6 hrec (P:=P) (o:=o) i.left.toNat (QN o.key 0 [],QN o.kind 0 []) false false i hi;cases h2:K0 P rec o i.left.toNat (QN o.key 0 [],QN o.kind 0 []) false false i with
  |error e=>rw[h2]at h3;exact h3
  |ok r=>
   obtain⟨x,j⟩:=r;rw[h2]at h3;obtain⟨b1,b2⟩:=V0 (k:=k) hr1.ci a2 (s2.trans h3.1 p1.ci) (by have:=h3.2;omega);exact⟨a1.1.trans b1 hc,xw⟩
theorem EY {v:V}{w:Int}{c:C}(hr:Rich c)(h3:3<=PT c):NL c (Jh P rec g v o w c):=by
 unfold Jh;split
 ·split
  ·exact EX hrec hr
  ·show(13:Nat)≠3;decide
 ·split
  ·exact Ly hr
  ·split
   ·split
    ·exact Lz hrec hr
    ·exact R5 hr (.inr xw)
   ·show(13:Nat)≠3;decide
omit hrec
theorem QeV {c:C}(hr:Rich c)(hl:0<c.left):if (Xv c).2.2=0 then Af c (Xv c).2.1/\PT c<=PT (Xv c).2.1 else(Xv c).2.2≠3:=by
 have hc:=hr.ci;have hcb:=hc.bd;have hp:=hr.pt;obtain⟨t1,t2⟩:=Ps hc;split
 ·rename_i h0;obtain⟨a1,_⟩:=Nt hc h0;refine⟨a1.1,?_⟩;have hnd:c.nd-1<=(Xv c).2.1.nd:=by
   unfold Xv at h0 ⊢;dsimp only at h0 ⊢;split at h0
   ·rename_i ht;rw[Qlv ht];obtain⟨b1,b2,b3⟩:=t2 ht;have hdb:=(b1.ci hc).bd;have hs:((Qq c).2.2.1.spend 1).2=0/\((Qq c).2.2.1.spend 1).1.nd=c.nd-1:=by
     have:=(b1.ci hc).nd;unfold C.spend;rw[Qlu xw,Qlu qQ];exact⟨rfl,by show IntKind.i64.wrap ((Qq c).2.2.1.nd-1)=_;rw[QA,b2];omega⟩
    rw[Qlv hs.1]at h0 ⊢;split at h0
    ·rename_i hk;rw[Qlv hk,RS,hs.2];exact QmP _
    ·rename_i hk;exact absurd h0 hk
   ·rename_i ht;exact absurd h0 ht
  have:=a1.lt hc;unfold PT at *;omega
 ·rename_i h0;unfold Xv at h0 ⊢;dsimp only at h0 ⊢;split
  ·rename_i ht;obtain⟨b1,b2,b3⟩:=t2 ht;have hd:=b1.ci hc;have hdb:=hd.bd;have hs:((Qq c).2.2.1.spend 1).2=0:=by
    unfold C.spend;rw[Qlu xw,Qlu qQ]
   have e1:spd (Qq c).2.2.1 1=.ok ((Qq c).2.2.1.spend 1).1:=by unfold spd;rw[Qlv hs]
   obtain⟨s1,_⟩:=Zm hd xy e1;have hi:=s1.ci hd;have htx:=Uf hd (Uf hc hr.tx b1.1) s1;have hib:=hi.bd;rw[Qlv hs];split
   ·rename_i hk;rw[hk];decide
   ·dsimp only;generalize ((Qq c).2.2.1.spend 1).1=i at *;unfold Zv;split
    ·show i.fixed.2.2≠3;unfold C.fixed;split<;>simp
    ·split
     ·exact UP i
     ·show(Kk i _).2.2≠3;unfold Kk;dsimp only;split
      ·rename_i hv;have hvl:=(K1 hi hv).1.lt hi;split
       ·simp
       ·rename_i hle;rw[Qlu]
        ·simp
        ·split<;>omega
      ·exact UP i
  ·exact t1
theorem Ba {P:PL}{rec:Int->V->C->Rd V}(hrec:TA rec)(t:Int):∀(k:Nat) (v:V) (c:C),Rich c->NL c (ZW P rec t k v c)
 |0,v,c,hr=>⟨Af.refl hr.ci,QmP _⟩
 |k+1,v,c,hr=>by
  have hp:=hr.pt;obtain⟨t1,t2⟩:=Ps hr.ci;rw[ZW];split
  ·rename_i hl;split
   ·rename_i h0;obtain⟨a1,_,a3⟩:=t2 h0;split
    ·have hn:=QeV hr hl;split
     ·rename_i h1;rw[Qlv h1]at hn;exact Fb hr.ci hn.1 hn.2 (Ba hrec t k _ _ (hr.nx hn.1 (by have:=hn.2;omega)))
     ·rename_i h1;rw[Qlu h1]at hn;exact hn
    ·rename_i o ho;have hr1:=hr.nx a1.1 xw;have h:=EY hrec (P:=P) (g:=Qg P t) (o:=o) (v:=v) (w:=(Qq c).2.1) hr1 xw;refine Fb hr.ci a1.1 xw ?_;cases h2:Jh P rec (Qg P t) v o (Qq c).2.1 (Qq c).2.2.1 with
     |error e=>rw[h2]at h;exact h
     |ok r=>
      obtain⟨w,d⟩:=r;rw[h2]at h;exact Fb hr1.ci h.1 h.2 (Ba hrec t k w d (hr1.nx h.1 (by have:=h.2;have:=hr1.pt;omega)))
   ·exact t1
  ·exact⟨Af.refl hr.ci,QmP _⟩
theorem R7 (P:PL):∀n,TA (Ho P n)
 |0,_,_,_,hr=>⟨Af.refl hr.ci,QmP _⟩
 |n+1,t,v,c,hr=>Ba (R7 P n) t _ v c hr
end

def QR:L:=⟨1073741824,65536,1073741824,1073741824⟩

theorem LB {P:PL}{N:Nat}{s s' d:List UInt8}{l:L}(h:QH s P=QH s' P):KN P N s d l=KN P N s' d l:=by
 have e:∀b,J1 P N s b d l=J1 P N s' b d l:=fun b=>by unfold J1;rw[h]
 unfold KN;rw[e,h]

theorem QcE {P:PL}{N:Nat}{s d:List UInt8}{b:V}(hd:d.length<=65536):(J1 P N s b d QR).2≠3:=by
 have ho:opn d QR=(⟨d,0,d.length,65536,1073741824,1073741824⟩,0):=by
  unfold opn QR;rw[Qlu xA,Qlu jT]
 unfold J1;rw[ho];split
 ·simp
 split
 ·simp
 split
 ·simp
 split
 ·simp
 have hci:=Ny (l:=QR) hd xy xy;have hlf:=hci.lf;have hs:spd (⟨d,0,d.length,QR.dp-1,QR.nd,QR.tx⟩:C) 1=.ok ⟨d,0,d.length,QR.dp-1,QR.nd-1,QR.tx⟩:=by
  unfold spd C.spend QR;rfl
 obtain⟨s1,_⟩:=Zm hci xw hs;have hr:Rich (⟨d,0,d.length,QR.dp-1,QR.nd-1,QR.tx⟩:C):=by
  have hcc:=s1.ci hci;have hb:=hcc.bd;refine⟨hcc,?_,?_⟩
  ·refine Int.le_trans hb.2 ?_;show(65536:Int)<=1073741824;omega
  ·unfold PT;show(0:Int)<=1073741824-1-_;omega
 rw[hs];have hn:=R7 P N (QH s P) b _ hr;dsimp only;cases h:Ho P N (QH s P) b (⟨d,0,d.length,QR.dp-1,QR.nd-1,QR.tx⟩:C)with
 |error e=>rw[h]at hn;exact hn
 |ok r=>obtain⟨w,c⟩:=r;simp

theorem QeW {P:PL}{N:Nat}{s d:List UInt8}(hd:d.length<=65536):(KN P N s d QR).2≠3:=by
 have h:=QcE (P:=P) (N:=N) (s:=s) (b:=QN 10 0 []) hd;unfold KN;split
 ·exact h
 split<;>simp

section
variable {M N:Nat}(hM:65536<=M)(P:PL)(hP:P.ok M)(hc:ck P=0)(hN:65536<N)(s:List UInt8)(d:List UInt8)(hd:d.length<=65536)
include hM hP hc hN hd in
theorem QcF:(KN P N s d QR).1.ok M:=by
 have h0:=Vl (N:=N) hM P hP hc hN s (QN 10 0 []) d QR hd xy xy (fun _ _=>XZ xw) (Zc rfl xy (Qlx _)) jS;have hz:(QN 0 0 []).ok M:=Zc rfl xy (Qlx _);unfold KN;split
 ·exact hz
 ·rename_i h;split
  ·exact hz
  ·obtain⟨_,w,_,w2,_,w4⟩:=h0 xQ;rw[w4];exact UN (Fa hP (YS hc)) N _ w w2
end
end Go.Proofs.YtmlohboeoeoamaaGreatDoor.Va

namespace Go.Proofs.YtmlohboeoeoamaaGreatDoor.Va
open Go Am Rc Bt Br Up So

def Wd (P:PL)(m:PG->V->Int)(g:PG)(s:Int×V):Prop:=∃o,Q7 g s.1=some o/\Xw m P o s.2=0/\(o.card<3\/s.2.emp=false)
theorem Pu {P:PL}(hU:JX P)(hr:Zo P){n:Nat}{g:PG}(hg:g∈P.progs){v:V}(h:XF P (n+1) g v=0):∀s∈(Q5 P (n+1) g v).slots,Wd P (XF P n) g s:=by
 have hf:=KZ hU hr (n+1) g hg v h;obtain⟨_,⟨s1,_,_⟩,_,_⟩:=JY.1 hf;intro s hs;obtain⟨o,ho,hx⟩:=s1 s hs;refine⟨o,ho,hx,?_⟩;have hs':s∈g.ops.flatMap (Xb (Q5 P n) P v.slots):=hs;obtain⟨q,hq,hsq⟩:=Qma.1 hs';unfold Xb at hsq;split at hsq
 ·cases hsq
 ·split at hsq
  ·rename_i hc;rw[QnC]at hsq;subst hsq;have e:Q7 g q.num=some q:=XQ (hr g hg) hq;rw[e]at ho;cases ho;simp only[Qlq,Qlr,Qmm]at hc;exact hc
  ·cases hsq

theorem Gu {c k:Int}(h:pk c k=true):c=4/\(k=1\/k=2\/k=3\/k=4\/k=5\/k=6\/k=9):=by
 unfold pk at h;simp only[QlM,Qlq,Qlr,Qls]at h;omega
theorem Qbe {c k:Int}(h:pk c k=true):wk k=0\/wk k=1\/wk k=2:=by
 obtain⟨_,h⟩:=Gu h;rcases h with rfl|rfl|rfl|rfl|rfl|rfl|rfl<;>decide
theorem EZ {c k:Int}(h:pk c k=true)(b:Nat)(t:List UInt8):(Xl k b t).wire=wk k:=by
 obtain⟨_,h⟩:=Gu h;rcases h with rfl|rfl|rfl|rfl|rfl|rfl|rfl<;>rfl
theorem LC {v:V}(hk:v.kd=11)(h:v.emp=false):v.list≠[]:=by
 intro e;unfold V.emp Va.emp at h;rw[hk,e]at h;simp at h
theorem QcG {P:PL}{m:PG->V->Int}{o:PO}{x:V}(hp:pk o.card o.kind=true)(h:Xw m P o x=0):x.kd=11/\∀y∈x.list,y.kd=o.kind:=by
 obtain⟨h4,hk⟩:=Gu hp;unfold Xw at h;rw[Qlu xw,Qlv h4]at h;split at h
 ·omega
 rename_i hv;simp only[Qlq,QlR,not_or,Decidable.not_not,ne_eq]at hv;refine⟨hv.1,fun y hy=>?_⟩;have:=Kt.1 h y hy;unfold QW at this;rw[Qlu xw]at this;exact(Ux this).1

theorem Hc {k:Int}{b:Nat}(hb:b<18446744073709551616)(t:List UInt8):(Xl k b t).bits<18446744073709551616:=by
 unfold Xl;split
 ·exact hb
 split
 ·have h1:=Qec (IntKind.i64.wrap (b:Int)) xE xE;have h2:=Gl (IntKind.i64.wrap (b:Int));show(YL _).toNat<_;omega
 split
 ·show Xx k b<_;unfold Xx;split
  ·decide
  ·exact hb
 split
 ·exact yU
 ·exact yU
theorem E0 {M:Nat}{v:V}(hv:v.ok M):v.bits<18446744073709551616:=by
 have:=GT hv.bits;omega
def Rb (f:R):Prop:=f.bits<18446744073709551616
theorem Pv {M:Nat}{v:V}(hv:v.ok M)(n:Int):Rb (Jl n v):=Hc (E0 hv) _
theorem NA {M:Nat}{v:V}(hv:v.ok M)(bd:Int->V->List UInt8)(o:PO)(n:Int):Rb (Xf bd o n v):=by
 unfold Xf;split
 ·exact yU
 ·exact Pv hv n
theorem QeX {M:Nat}{v:V}(hv:v.ok M)(bd:Int->V->List UInt8)(o:PO):∀f∈YQ bd o v,Rb f:=by
 have z:(0:Nat)<18446744073709551616:=xy
 unfold YQ;split
 ·intro f hf;obtain⟨p,_,rfl⟩:=QmK.1 hf;exact z
 split
 ·intro f hf;rw[QnC]at hf;subst hf;exact z
 split
 ·intro f hf;obtain⟨y,hy,rfl⟩:=QmK.1 hf;exact NA (hv.list y hy) _ _ _
 ·intro f hf;rw[QnC]at hf;subst hf;exact NA hv _ _ _
theorem Vm {M:Nat}(bd:Int->V->List UInt8)(g:PG):∀(sl:List (Int×V)) (rs:List R),(∀s∈sl,s.2.ok M)->(∀f∈rs,Rb f)->∀f∈Xs bd g sl rs,Rb f
 | [],_,_,hr,f,hf=>hr f hf
 |s :: sl,rs,hs,hr,f,hf=>by
  rw[Xs,QmJ,QmJ]at hf;rcases hf with(hf|hf)|hf
  ·exact hr f ((QnR _).mem hf)
  ·unfold Jm at hf;split at hf
   ·cases hf
   ·exact QeX (hs s xA) bd _ f hf
  ·exact Vm bd g sl _ (fun x hx=>hs x qz) (fun f hf=>hr f ((QnQ _).mem hf)) f hf
theorem Fc:∀l:List R,20*l.length<=ZE l
 | []=>Qlx _
 |f :: l=>by
  have:=Fc l;unfold ZE at this ⊢;simp only[QlW,QnG,QlD];omega
theorem QcH {l:List R}{f:R}(h:f∈l):f.data.length<=ZE l:=by
 induction l with
 |nil=>cases h
 |cons x l ih=>
  unfold ZE at ih ⊢;simp only[QlW,QnG];rcases QmM.1 h with rfl|h
  ·omega
  ·have:=ih h;omega
theorem Gv {l:List R}(hb:∀f∈l,Rb f)(hw:ZE l<=140737488355328):(∀fd∈l,fd.bits<18446744073709551616/\fd.data.length<9223372036854775807)/\l.length<9223372036854775807/\(QT l).length<=140737488355328:=by
 have h1:=Fc l;have h2:=Yv l;exact⟨fun fd hf=>⟨hb fd hf,by have:=QcH hf;omega⟩,xw,xw⟩

end Go.Proofs.YtmlohboeoeoamaaGreatDoor.Va

namespace Go.Proofs.YtmlohboeoeoamaaGreatDoor.Va
open Go Am Rc Bt Br

theorem LD {B:List Bool}{i:Nat}(h:i<B.length)(v:Bool):((B.set i v).take (i+1)).all id=((B.take i).all id&&v):=by
 have h1:(B.set i v)[i]? = some v:=List.getElem?_set_self h;rw[H2 h1,List.take_set_of_le (Qlk _)];rfl
theorem z39 {M:Nat}(P:PL)(hP:P.ok M)(hl:P.progs.length<=64)(hT:Tgt P):Qh Tryz.prog 39 [P.av] (.bool (fin P)):=by
 have hmx:P.progs.length<=maxLen:=xC
 have hz:ZS 1 [AV.bool false]=.bool false:=rfl;have hr0:(List.replicate P.progs.length (AV.bool false))=(its P.progs 0).map AV.bool:=by simp[its]
 let A:Nat->Bool:=fun c=>if c=0 then(P.progs.length:Int)==0 else(its P.progs c).all id
 have hA:A P.progs.length=fin P:=by
  show(if P.progs.length=0 then(P.progs.length:Int)==0 else(its P.progs P.progs.length).all id)=(its P.progs P.progs.length).all id;split
  ·rename_i h;rw[h];simp[its,h]
  ·rfl
 refine wF Tryz.func39 ?_;simp only[eK,Tryz.f39,seval];simp only[Dd,Qmj,eE,seval];refine DL (n:=P.progs.length) (k:=P.progs.length) rfl rfl (Qlk _) xw xw rfl ?_;simp only[hz,hr0,Qmj,eE,seval];refine Hv (X:=Nat) (fun c=>[(1,.ptr 0 1 0),(3,.vec 0 12 1 0 P.progs.length false),(4,.bool (A c)),(19,.int .i64 (P.progs.length:Nat)),(20,.int .i64 (c:Nat))]) (fun c=>[(1,.cells (Pc P)),(12,.vec 1 1 ((its P.progs c).map AV.bool))]) [8] (fun c=>P.progs.length-c) (fun c=>c<=P.progs.length) (fun _=>[]) 0 (Qlx _) ?_;rintro c f fr hc;simp only[XL,QlW,Qmq,QlK,QlL,Qa,seval];by_cases hcl:c<P.progs.length
 case neg=>
  rw[show c=P.progs.length by omega,hA];simp only[QI (show ¬P.progs.length<P.progs.length by omega),Qa,seval]
 have ec:=Qr c _ hcl hmx;simp only[QB hcl,Qa,seval];refine Hv (X:=Nat) (fun i=>[(1,.ptr 0 1 0),(3,.vec 0 12 1 0 P.progs.length false),(4,.bool (((KC P.progs (its P.progs c) i).take i).all id)),(5,.int .i64 (i:Nat)),(19,.int .i64 (P.progs.length:Nat)),(20,.int .i64 (c:Nat))]) (fun i=>[(1,.cells (Pc P)),(12,.vec 1 1 ((KC P.progs (its P.progs c) i).map AV.bool))]) [8] (fun i=>P.progs.length-i) (fun i=>i<=P.progs.length) (fun _=>[]) 0 (Qlx _) ?_;rintro i f fr hi;have hBl:(KC P.progs (its P.progs c) i).length=P.progs.length:=by rw[DS,DT]
 simp only[Pc,Qmj,XL,QlW,Qmq,QlK,QlL,eE,seval];rcases XS P.progs i with⟨g,hg,hlt⟩|hlt
 case inr=>
  have hii:i=P.progs.length:=xw
  have hAc:((KC P.progs (its P.progs c) i).take i).all id=A (c+1):=by
   rw[QlY xw,hii];exact(Qlu (Nat.succ_ne_zero c)).symm
  simp only[QI hlt,hAc,ec,Qa,seval];exact Ix.go (c+1) xw xw (ho:=by rw[hii];rfl)
 have e1:=Qr i _ hlt hmx;have hst:KC P.progs (its P.progs c) (i+1)=(KC P.progs (its P.progs c) i).set i (!g.ops.any (ZY (KC P.progs (its P.progs c) i))):=by
  rw[KC]
  conv=>lhs;unfold Db
  rw[hg]
 have htk:=LD (B:=KC P.progs (its P.progs c) i) (i:=i) xw (!g.ops.any (ZY (KC P.progs (its P.progs c) i)));rw[<-hst]at htk;have hgp:=Xe Qm hg;have hgo:=hP.progs g (QlC hg);rw[G6]at hgp;generalize hBB:KC P.progs (its P.progs c) i=B at *;simp only[QB hlt,Qa,seval];refine Hv (X:=Nat) (fun j=>[(1,.ptr 0 1 0),(3,.vec 0 12 1 0 P.progs.length false),(4,.bool ((B.take i).all id)),(5,.int .i64 (i:Nat)),(6,.bool (!(g.ops.take j).any (ZY B))),(7,.int .i64 (j:Nat)),(19,.int .i64 (P.progs.length:Nat)),(20,.int .i64 (c:Nat))]) (fun _=>[(1,.cells (Pc P)),(12,.vec 1 1 (B.map AV.bool))]) [8] (fun j=>g.ops.length-j) (fun j=>j<=g.ops.length) (fun _=>[]) 0 (Qlx _) ?_;rintro j f fr hj;simp only[Pc,Qp,QmS,Qf,hgp,Qmj,XL,QlW,Qmq,QlK,QlL,eE,seval];rcases XS g.ops j with⟨o,ho,hlj⟩|hlj
 case inr=>
  rw[QlY (by omega:g.ops.length<=j)];generalize hv:(!g.ops.any (ZY B))=v at *;obtain⟨y,hy⟩:∃y,B[i]? = some y:=⟨B[i]' xw,Qln xw⟩;have hym:(B.map AV.bool)[i]? = some (.bool y):=kY
  have hset:(B.map AV.bool).set i (.bool v)=(KC P.progs (its P.progs c) (i+1)).map AV.bool:=by rw[hst,List.map_set]
  cases hal:(B.take i).all id <;>
  ·rw[hal]at htk;simp only[Qm8,QmW]at htk;simp only[QI hlj,AV.rfL,AV.rf,Bool.and_self,Qp,QmS,Qf,Xp,JP,Am.Qc,hlt,hym,hset,e1,and_self,QlN,cond_true,cond_false,eE,seval];exact Ix.go (i+1) xw xw (hf:=by rw[htk];rfl)
 have hgj:=Xe Qu ho;have e2:=Qr j _ hlj hgo.len;have htg:=hT g (QlC hg) o (QlC ho);have ht:=Mj (q:=ZY B) ho;rw[G7]at hgj;have fin2:∀v:Bool,(!(g.ops.take j).any (ZY B) && !ZY B o)=v->(!(g.ops.take (j+1)).any (ZY B))=v:=fun v h=>by rw[ht,Bool.not_or,h]
 simp only[QB hlj,Qp,QmS,Qf,hgp,hgj,eE,seval];cases hb : !(g.ops.take j).any (ZY B)
 ·simp only[e2,cond_true,cond_false,Qa,seval];exact Ix.go (j+1) xw xw (hf:=by rw[fin2 false q8];rfl)
 cases c1:(o.card != 1)
 case true=>
  simp only[c1,e2,cond_true,cond_false,eE,seval];exact Ix.go (j+1) xw xw (hf:=by rw[fin2 true (by rw[hb];unfold ZY;rw[show(o.card==1)=false by simpa [bne]using c1];rfl)];rfl)
 cases c2:(o.kind != 10)
 case true=>
  simp only[c1,c2,e2,cond_true,cond_false,eE,seval];exact Ix.go (j+1) xw xw (hf:=by rw[fin2 true (by rw[hb];unfold ZY;rw[show(o.kind==10)=false by simpa [bne]using c2,Qna];rfl)];rfl)
 have k1:(o.card==1)=true:=by simpa [bne]using c1
 have k2:(o.kind==10)=true:=by simpa [bne]using c2
 obtain⟨t1,t2⟩:=htg (by simpa using k2);obtain⟨t,hte⟩:=Qnb t1;obtain⟨y,hy⟩:∃y,B[t]? = some y:=⟨B[t]' xw,Qln xw⟩;have hym:(B.map AV.bool)[t]? = some (.bool y):=kY
 have hlt2:t<P.progs.length:=xw
 simp only[c1,c2,hte,Qp,QmS,Qf,Xn,Am.Qc,hym,hlt2,and_self,QlN,e2,cond_true,cond_false,eE,seval];exact Ix.go (j+1) xw xw (hf:=by rw[fin2 y (by rw[hb];unfold ZY;rw[k1,k2,hte,QmS,hy];cases y<;>rfl)];rfl)

theorem z15 {M:Nat}(P:PL)(hP:P.ok M)(hM:M<=140737488351232):Qh Tryz.prog 15 [P.av] (.int .i64 (ck P)):=by
 have e0:P.av=.agg [.list (P.progs.map Qm),.list (P.enums.map QC)]:=rfl;have c1:=z33 P hP;have c2:=z34 P hP;have c3:=z35 P hP;have c4:=z36 P hP;have c5:=z37 P hP;refine wF Tryz.func15 ?_;simp only[eK,Tryz.f15,seval];simp only[e0,ck,eE,seval];refine aC c1 ?_;cases hl:Fw P
 ·exact za
 obtain⟨l1,l2,l3,l4⟩:=Dc hl;have c6:=z38 hM P hP l3;simp only[Qm9,Qny,eE,seval];refine aC c2 ?_;cases BT P
 ·exact za
 simp only[Qm9,Qny,eE,seval];refine aC c3 ?_;cases G4 P
 ·exact za
 simp only[Qm9,Qny,eE,seval];refine aC c4 ?_;cases Mk P
 ·exact za
 simp only[Qm9,Qny,eE,seval];refine aC c5 ?_;cases BW P
 ·exact za
 simp only[Qm9,Qny,eE,seval];refine aC c6 ?_;cases ha:args P
 ·exact za
 have c7:=z39 P hP l1 (Mt ha);simp only[Qm9,Qny,eE,seval];refine aC c7 ?_;cases fin P
 ·exact za
 ·simp only[Qm9,Qny,Qa,seval]

open Up

section
variable {M:Nat}{P:PL}(hP:P.ok M)(hM:M<=140737488351232){m:PG->V->Int}{lv:Int}(g:PG)(hg:g.ok M)(v:V)(hv:v.ok M)

def SwI (P:PL)(g:PG)(v:V)(k:Nat)(st:St):Prop :=
 ∃f fr i,st=⟨f,[fr],[]⟩/\k=v.raws.length-i/\ZH (W5 P g v.raws) v.raws.length 0=ZH (W5 P g v.raws) (v.raws.length-i) i/\f 4=.ptr 0 4 0/\f 6=.ptr 0 6 0/\f 9=.ptr 0 9 0/\f 16=.int .i64 (i:Nat)/\fr 4=.cells [.list (P.progs.map Qm),.list (P.enums.map QC)]/\fr 6=.cells (vc v)/\fr 9=.cells g.cells/\∀s∈[17],(fr s).isRow=false

end

def ZJ (P:PL)(t:Int)(v:V):Int :=
 if t<0\/t>=(P.progs.length:Int)then 10 else if XF P 16 (Qg P t) v=0 then(if IntKind.i64.wrap (v.cnt:Int) > 4096 then 3 else 0)else XF P 16 (Qg P t) v

section
variable {M:Nat}{P:PL}(hP:P.ok M)(hM:M<=140737488351232)(hU:JX P)(t:Int)(v:V)(hv:v.ok M)

include hP hU hv in
theorem v23:Qh Tryz.prog 23 [P.av,.int .i64 t,v.av] (.int .i64 (ZJ P t v)):=by
 have e0:P.av=.agg [.list (P.progs.map Qm),.list (P.enums.map QC)]:=rfl;rw[Qd];refine wF Tryz.func23 ?_;simp only[eK,Tryz.f23,seval];simp only[e0,eE,seval];unfold ZJ;by_cases t0:t<0
 ·have d0:decide (t<0)=true:=Qnr t0;rw[Qlv (.inl t0)];simp only[d0,Qa,seval]
 have d0:decide (t<0)=false:=Qnl t0;by_cases t1:t>=(P.progs.length:Int)
 ·have d1:decide (t>=(P.progs.length:Int))=true:=Qnr t1;rw[Qlv (.inr t1)];simp only[d0,d1,Qmj,eE,seval]
 have d1:decide (t>=(P.progs.length:Int))=false:=Qnl t1;rw[Qlu xw];obtain⟨i,hi⟩:=Qnb (by omega:0<=t);subst hi;have hlt:i<P.progs.length:=xw
 obtain⟨g,hg⟩:∃g,P.progs[i]? = some g:=⟨P.progs[i],Qln hlt⟩;have hga:(P.progs.map Qm)[i]? = some (.agg g.cells):=by simp[hg,Qm]
 have hq:Qg P (i:Int)=g:=by unfold Qg;rw[QmS,hg];rfl
 have c1:=v49 hP hU 16 (Qlk _) g (QlC hg) v hv;have e16:(17:Int)-((16:Nat):Int)=1:=rfl;have ht:=IW (P:=P) 16 g v hv;rw[e16,e0,Qd]at c1;simp only[Qm,PG.cells]at c1;simp only[PG.cells]at hga;rw[hq];simp only[d0,d1,Qp,QmS,Qf,hga,Qmj,QlX,Qmy,Ql0,Ql6,splice,eE,seval];refine aC c1 ?_;by_cases hz:XF P 16 g v=0
 ·have c2:=v50 v (ht hz);rw[Qd]at c2;have b0:((0:Int) != 0)=false:=rfl;rw[Qlv hz];simp only[hz,b0,eE,seval];refine aC c2 ?_;by_cases hc:IntKind.i64.wrap (v.cnt:Int) > 4096
  ·have d2:decide (IntKind.i64.wrap (v.cnt:Int) > 4096)=true:=Qnr hc;rw[Qlv hc];simp only[d2,Qa,seval]
  ·have d2:decide (IntKind.i64.wrap (v.cnt:Int) > 4096)=false:=Qnl hc;rw[Qlu hc];simp only[d2,Qa,seval]
 ·have b1:(XF P 16 g v != 0)=true:=by simp[hz]
  rw[Qlu hz];simp only[b1,Qa,seval]

end
end Go.Proofs.YtmlohboeoeoamaaGreatDoor.Va

namespace Go.Proofs.YtmlohboeoeoamaaGreatDoor.Va
open Go Am Rc Bt Br

open Up So

open Vp Cp

theorem QeY (x:V):Jl 0 x=Xl x.kd x.bits x.text:=by
 unfold Jl Xl zr
 repeat' split
 all_goals rfl
theorem Vn (bd:Int->V->List UInt8)(o:PO)(n:Int)(x:V):({ Xf bd o 0 x with num:=n }:R)=Xf bd o n x:=by
 unfold Xf;split
 ·rfl
 ·rfl
theorem QeZ {α:Type}(l:List α)(F:α->R):(l.map fun x=>(F x).av)=(l.map F).map R.av:=by rw[Qnj];rfl
theorem ZK {fr:Nat->Ob}{a:Nat}(h1:(fr a).isRow=false):∀s∈[a],(fr s).isRow=false:=by
 intro s hs;simp only[QmM,QnI,or_false]at hs;subst hs;exact h1

theorem TB (n:Int)(f:R):Qh Tryz.prog 340 [.int .i64 n,f.av] ({ f with num:=n }:R).av:=by
 refine wF Tryz.func340 ?_;simp only[eK,Tryz.f340,seval];simp only[R.av,eE,seval]

theorem LF {M:Nat}{v:V}(hv:v.ok M):Qh Tryz.prog 341 [v.av] (Jl 0 v).av:=by
 rw[QeY,Qd];exact Qi4 v.kd v.bits (E0 hv) v.text _ _ _ _

section
variable {M:Nat}{P:PL}{m:PG->V->Int}{bd:Int->V->List UInt8}(o:PO)(ho:UO P o)

include ho in
theorem Qjo (hb:∀(t:Int) (g:PG),P.progs[t.toNat]? = some g->0<=t->∀v:V,v.ok M->v.cnt<=1048576->m g v=0->Qh Tryz.prog 80 [P.av,.int .i64 t,v.av] (.str (bd t v)))(x:V)(hx:x.ok M)(hc:x.cnt<=1048576)(he:QW m P o x=0) :
  Qh Tryz.prog 342 [P.av,Qu o,x.av] (Xf bd o 0 x).av:=by
 have e0:P.av=.agg [.list (P.progs.map Qm),.list (P.enums.map QC)]:=rfl;unfold Xf;by_cases hk:o.kind=10
 ·have b:(o.kind==10)=true:=jD
  rw[Qlv hk];unfold QW at he;rw[Qlv hk]at he;obtain⟨t0,t1⟩:=ho.tgt hk;obtain⟨g,hg⟩:∃g,P.progs[o.target.toNat]? = some g:=⟨P.progs[o.target.toNat]' xw,Qln xw⟩;have hq:Qg P o.target=g:=by unfold Qg;rw[hg];rfl
  rw[hq]at he;have h2:=hb o.target g hg t0 x hx hc he;rw[e0,Qd]at h2;rw[Qd];refine wF Tryz.func342 ?_;simp only[eK,Tryz.f342,seval];simp only[e0,Qu,PO.cells,b,R.av,eE,seval];exact yG
 ·have b:(o.kind==10)=false:=jD
  rw[Qlu hk];have h1:=LF hx;generalize Jl 0 x=z at h1 ⊢;rw[Qd]at h1;rw[Qd];simp only[R.av]at h1;refine wF Tryz.func342 ?_;simp only[eK,Tryz.f342,seval];simp only[e0,Qu,PO.cells,b,R.av,eE,seval];refine aC h1 ?_;simp only[eE,seval]

def Qjp (P:PL)(o:PO)(l:List V)(F:V->R)(k:Nat)(st:St):Prop :=
 ∃f fr i g,st=⟨f,[fr],[]⟩/\k=l.length-i/\i<=l.length/\f 3=.ptr 0 3 0/\f 4=.ptr 0 4 0/\f 7=.vec 0 7 g 0 i false/\f 11=.list (l.map V.av)/\f 12=.int .i64 (l.length:Nat)/\f 13=.int .i64 (i:Nat)/\fr 3=.cells [.list (P.progs.map Qm),.list (P.enums.map QC)]/\fr 4=.cells o.cells/\fr 7=.vec g 4 ((l.take i).map fun x=>(F x).av)/\∀s∈[9],(fr s).isRow=false

def Qjq (P:PL)(o:PO)(l:List (V×V))(F:V×V->R)(k:Nat)(st:St):Prop :=
 ∃f fr i g,st=⟨f,[fr],[]⟩/\k=l.length-i/\i<=l.length/\f 3=.ptr 0 3 0/\f 4=.ptr 0 4 0/\f 7=.vec 0 7 g 0 i false/\f 12=.list (l.map V.pav)/\f 13=.int .i64 (l.length:Nat)/\f 14=.int .i64 (i:Nat)/\fr 3=.cells [.list (P.progs.map Qm),.list (P.enums.map QC)]/\fr 4=.cells o.cells/\fr 7=.vec g 4 ((l.take i).map fun x=>(F x).av)/\∀s∈[9],(fr s).isRow=false

theorem Qjr (hel:∀x:V,x.ok M->x.cnt<=1048576->QW m P o x=0->Qh Tryz.prog 342 [P.av,Qu o,x.av] (Xf bd o 0 x).av)(v:V)(hv:v.ok M)(hc:v.cnt<=1048576)(hL:∀x∈v.list,QW m P o x=0) :
  Qh Tryz.prog 289 [P.av,Qu o,v.av] (.list ((v.list.map (Xf bd o o.num)).map R.av)):=by
 have e0:P.av=.agg [.list (P.progs.map Qm),.list (P.enums.map QC)]:=rfl;have hlen:=ZO v;rw[Qd v];refine wF Tryz.func289 ?_;simp only[eK,Tryz.f289,seval];simp only[e0,Qu,PO.cells,eE,seval];refine XO rfl rfl ?_;simp only[Qmj,eE,seval];refine Qi (Qjp P o v.list (Xf bd o o.num)) _ ⟨_,_,0,_,rfl,rfl,Qlx _,xx,xx,xx,xx,xx,xx,xx,xx,xx,ZK rfl⟩ ?_;rintro _ st ⟨f0,fr0,i,g,rfl,rfl,hil,h30,h40,h70,h110,h120,h130,m30,m40,mR0,r9⟩;refine QL (a:=_) [9] r9 ?_;intro f fr hf hm hn9;have h3:f 3=.ptr 0 3 0:=xW
 have h4:f 4=.ptr 0 4 0:=jx
 have h7:f 7=.vec 0 7 g 0 i false:=jU
 have h11:f 11=.list (v.list.map V.av):=kH
 have h12:f 12=.int .i64 (v.list.length:Nat):=ku
 have h13:f 13=.int .i64 (i:Nat):=kG
 have m3:fr 3=.cells [.list (P.progs.map Qm),.list (P.enums.map QC)]:=j0
 have m4':fr 4=.cells o.cells:=xT
 have mR:fr 7=.vec g 4 ((v.list.take i).map fun x=>(Xf bd o o.num x).av):=by rw[hm 7 xy,mR0]<;>rfl
 have n9:=hn9 9 xy;clear hf hm hn9 h30 h40 h70 h110 h120 h130 m30 m40 mR0 r9;have m4:=m4';simp only[PO.cells]at m4;simp only[h12,h13,Qa,seval];by_cases hlt:i<v.list.length
 ·obtain⟨x,hi⟩:∃x,v.list[i]? = some x:=⟨v.list[i],Qln hlt⟩;have hx:=QlC hi;have hg:=Hk hi;have e1:=Qr i _ hlt xC;have c1:=hel x (hv.list x hx) (Qll (UG hx) hc) (hL x hx);have c2:=TB o.num (Xf bd o 0 x);rw[Vn]at c2;have hti:((v.list.take i).map fun x=>(Xf bd o o.num x).av).length=i:=jR
  have hts:(v.list.take (i+1)).map (fun x=>(Xf bd o o.num x).av)=(v.list.take i).map (fun x=>(Xf bd o o.num x).av)++[(Xf bd o o.num x).av]:=wh
  generalize Xf bd o 0 x=y at c1 c2;generalize Xf bd o o.num x=z at c2 hts;rw[e0,Qd x]at c1;simp only[Qu,PO.cells,R.av]at c1 c2;simp only[QB hlt,Qp,QmS,Qf,hg,n9,h3,h4,h7,h11,h13,m3,m4,eE,seval];refine aC c1 ?_;refine aC c2 ?_;refine QK (l:=[z.av]) rfl rfl rfl rfl ?_;refine QF (site:=7) (g:=g) (n:=i) (xs:=(v.list.take i).map fun x=>(Xf bd o o.num x).av) (ys:=[z.av]) xx j8 rfl hti.symm rfl (Jo [z]) xG xI ?_;simp only[h13,e1,Qa,seval];exact⟨v.list.length-(i+1),xw,_,_,i+1,g+1,rfl,rfl,xw,xM,xR,xx,jY,jP,xx,j5,kI,kJ,ZK rfl⟩
 ·have e:i=v.list.length:=xw
  exact yX

include ho in
theorem Qjs (hbd:∀(t:Int) (v:V),(0<=t/\t<(P.progs.length:Int))->m (Qg P t) v=0->(bd t v).length+70000<=70000*v.cnt)(hel:∀x:V,x.ok M->x.cnt<=1048576->QW m P o x=0->Qh Tryz.prog 342 [P.av,Qu o,x.av] (Xf bd o 0 x).av)(v:V)(hv:v.ok M)(hc:v.cnt<=1048576)(hE:∀p∈v.pairs,p.1.one P o.key (-1)=0/\QW m P o p.2=0) :
  Qh Tryz.prog 287 [P.av,Qu o,v.av] (.list ((v.pairs.map (Jf bd o)).map R.av)):=by
 have e0:P.av=.agg [.list (P.progs.map Qm),.list (P.enums.map QC)]:=rfl;have hlen:=Jw v;rw[Qd v];refine wF Tryz.func287 ?_;simp only[eK,Tryz.f287,seval];simp only[e0,Qu,PO.cells,eE,seval];refine XO rfl rfl ?_;simp only[Qmj,eE,seval];refine Qi (Qjq P o v.pairs (Jf bd o)) _ ⟨_,_,0,_,rfl,rfl,Qlx _,xx,xx,xx,xx,xx,xx,xx,xx,xx,ZK rfl⟩ ?_;rintro _ st ⟨f0,fr0,i,g,rfl,rfl,hil,h30,h40,h70,h120,h130,h140,m30,m40,mR0,r9⟩;refine QL (a:=_) [9] r9 ?_;intro f fr hf hm hn9;have h3:f 3=.ptr 0 3 0:=xW
 have h4:f 4=.ptr 0 4 0:=jx
 have h7:f 7=.vec 0 7 g 0 i false:=jU
 have h12:f 12=.list (v.pairs.map V.pav):=ku
 have h13:f 13=.int .i64 (v.pairs.length:Nat):=kG
 have h14:f 14=.int .i64 (i:Nat):=wI
 have m3:fr 3=.cells [.list (P.progs.map Qm),.list (P.enums.map QC)]:=j0
 have m4':fr 4=.cells o.cells:=xT
 have mR:fr 7=.vec g 4 ((v.pairs.take i).map fun x=>(Jf bd o x).av):=by rw[hm 7 xy,mR0]<;>rfl
 have n9:=hn9 9 xy;clear hf hm hn9 h30 h40 h70 h120 h130 h140 m30 m40 mR0 r9;have m4:=m4';simp only[PO.cells]at m4;simp only[h13,h14,Qa,seval];by_cases hlt:i<v.pairs.length
 ·obtain⟨x,hi⟩:∃x,v.pairs[i]? = some x:=⟨v.pairs[i],Qln hlt⟩;have hx:=QlC hi;have hg:=Ky hi;have e1:=Qr i _ hlt xC;have hcc:=HC hx;have hck:=Ve hx;have c0:=LF (hv.keys x hx);have c1:=TB 1 (Jl 0 x.1);rw[show({ Jl 0 x.1 with num:=1 }:R)=Jl 1 x.1 from rfl]at c1;have c2:=hel x.2 (hv.vals x hx) (Qll hcc hc) (hE x hx).2;have c3:=TB 2 (Xf bd o 0 x.2);rw[Vn]at c3;have hpn:=Gv (l:=[Jl 1 x.1,Xf bd o 2 x.2]) (fun f hf=>by
   rcases QmM.1 hf with rfl|hf
   ·exact Pv (hv.keys x hx) 1
   ·rw[QnC]at hf;subst hf;exact NA (hv.vals x hx) bd o 2) (by have:=Vi hbd ho (hE x hx).1 (hE x hx).2;omega)
  have c4:=Qes [Jl 1 x.1,Xf bd o 2 x.2] hpn.1 hpn.2.1 hpn.2.2;have hen:Jf bd o x=⟨o.num,6,0,QT [Jl 1 x.1,Xf bd o 2 x.2]⟩:=rfl;have hti:((v.pairs.take i).map fun x=>(Jf bd o x).av).length=i:=jR
  have hts:(v.pairs.take (i+1)).map (fun x=>(Jf bd o x).av)=(v.pairs.take i).map (fun x=>(Jf bd o x).av)++[(Jf bd o x).av]:=wh
  rw[hen]at hts;clear hpn hen;generalize Jl 0 x.1=y0 at c0 c1;generalize Xf bd o 0 x.2=y2 at c2 c3;generalize Jl 1 x.1=z1 at c1 c4 hts;generalize Xf bd o 2 x.2=z2 at c3 c4 hts;generalize QT [z1,z2]=d at c4 hts;rw[Qd x.1]at c0;rw[e0,Qd x.2]at c2;simp only[Qu,PO.cells,R.av,Y4,QlW,Qmq]at c0 c1 c2 c3 c4;simp only[QB hlt,Qp,QmS,Qf,hg,n9,h12,h14,eE,seval];refine aC c0 ?_;refine aC c1 ?_;simp only[h3,h4,m3,m4,eE,seval];refine aC c2 ?_;refine aC c3 ?_;refine QK (l:=[z1.av,z2.av]) rfl rfl rfl rfl ?_;simp only[h4,h7,m4,eE,seval];refine aC c4 ?_;simp only[eE,seval];refine QK (l:=[(R.mk o.num 6 0 d).av]) rfl rfl rfl rfl ?_;refine QF (site:=7) (g:=g) (n:=i) (xs:=(v.pairs.take i).map fun x=>(Jf bd o x).av) (ys:=[(R.mk o.num 6 0 d).av]) xx j8 rfl hti.symm rfl (Jo [_]) xG xI ?_;simp only[h14,e1,Qa,seval];exact⟨v.pairs.length-(i+1),xw,_,_,i+1,g+1,rfl,rfl,xw,xM,xR,xx,jP,kS,xx,j5,kI,kJ,ZK rfl⟩
 ·have e:i=v.pairs.length:=xw
  exact yX

end

section
variable {M:Nat}{P:PL}{m:PG->V->Int}{bd:Int->V->List UInt8}(o:PO)(ho:UO P o)

def PkI (o:PO)(l:List V)(F:Nat->List UInt8)(k:Nat)(st:St):Prop :=
 ∃f fr i g,st=⟨f,[fr],[]⟩/\k=l.length-i/\i<=l.length/\f 4=.ptr 0 4 0/\f 8=.int .i64 (wk o.kind)/\f 9=.vec 0 19 g 0 (F i).length false/\f 21=.list (l.map V.av)/\f 22=.int .i64 (l.length:Nat)/\f 23=.int .i64 (i:Nat)/\fr 4=.cells o.cells/\fr 19=.vec g 1 (Qw (F i))/\∀s∈[11],(fr s).isRow=false

theorem Qjt (hp:pk o.card o.kind=true)(v:V)(hv:v.ok M)(hc:v.cnt<=1048576) :
  Qh Tryz.prog 288 [P.av,Qu o,v.av] (.list ([F4 o v.list].map R.av)):=by
 have e0:P.av=.agg [.list (P.progs.map Qm),.list (P.enums.map QC)]:=rfl;have hlen:=ZO v;have cw:=Qdw o.num o.name o.alias 2 o.key o.kind o.target o.union;have hw2:Me 2 o.kind=wk o.kind:=by
  have e:pk 2 o.kind=false:=by simp[pk]
  unfold Me;rw[e];rfl
 rw[hw2]at cw;simp only[oc]at cw;have hcv:∃b:UInt8,IntKind.u8.wrap (wk o.kind)=(b.toNat:Int)/\UInt8.ofNat (wk o.kind).toNat=b:=by
  rcases Qbe hp with h|h|h<;>rw[h]
  ·exact⟨0,rfl,rfl⟩
  ·exact⟨1,rfl,rfl⟩
  ·exact⟨2,rfl,rfl⟩
 obtain⟨b0,hb0,hb1⟩:=hcv;have hpk:F4 o v.list=⟨o.num,5,0,b0 :: v.list.flatMap (YP (wk o.kind))⟩:=by unfold F4;rw[hb1]
 rw[hpk];clear hpk hb1
 let F:Nat->List UInt8:=fun i=>b0 :: (v.list.take i).flatMap (YP (wk o.kind))
 have hF0:F 0=[b0]:=by simp[F]
 have hFn:F v.list.length=b0 :: v.list.flatMap (YP (wk o.kind)):=by simp[F]
 have hFl:∀i,i<=v.list.length->(F i).length<=1+10*i:=by
  intro i hi;have:=Uj (wk o.kind) (v.list.take i);rw[Qml]at this;simp only[F,QlD];omega
 have hFs:∀i x,v.list[i]? = some x->F (i+1)=F i++YP (wk o.kind) x:=by
  intro i x hx;simp only[F];rw[Qng,hx,QnO];simp
 rw[<-hFn]
 clear_value F
 clear hFn;have hbl:∀s:List UInt8,(Qw s).length=s.length:=fun s=>v5
 rw[Qd v];refine wF Tryz.func288 ?_;simp only[eK,Tryz.f288,seval];simp only[e0,Qu,PO.cells,eE,seval];refine aC cw ?_;simp only[hb0,Qa,seval];refine VC (y:=[.int .u8 (b0.toNat:Int)]) rfl rfl rfl rfl ?_;simp only[Qmj,eE,seval];refine Qi (PkI o v.list F) _ ⟨_,_,0,_,rfl,rfl,Qlx _,xx,xx,wR,xx,xx,xx,xx,wR,ZK rfl⟩ ?_;rintro _ st ⟨f0,fr0,i,g,rfl,rfl,hil,h40,h80,h90,h210,h220,h230,m40,mR0,r11⟩;refine QL (a:=_) [11] r11 ?_;intro f fr hf hm hn11;have h4:f 4=.ptr 0 4 0:=jx
 have h8:f 8=.int .i64 (wk o.kind):=jM
 have h9:f 9=.vec 0 19 g 0 (F i).length false:=ki
 have h21:f 21=.list (v.list.map V.av):=wN
 have h22:f 22=.int .i64 (v.list.length:Nat):=by rw[hf,h220]<;>rfl
 have h23:f 23=.int .i64 (i:Nat):=by rw[hf,h230]<;>rfl
 have m4':fr 4=.cells o.cells:=xT
 have mR:fr 19=.vec g 1 (Qw (F i)):=by rw[hm 19 xy,mR0]<;>rfl
 have n11:=hn11 11 xy;clear hf hm hn11 h40 h80 h90 h210 h220 h230 m40 mR0 r11;have m4:=m4';simp only[PO.cells]at m4;simp only[h22,h23,Qa,seval];by_cases hlt:i<v.list.length
 ·obtain⟨x,hi⟩:∃x,v.list[i]? = some x:=⟨v.list[i],Qln hlt⟩;have hx:=QlC hi;have hg:=Hk hi;have e1:=Qr i _ hlt xC;have c1:=LF (hv.list x hx);rw[QeY]at c1;have hbb:(Xl x.kd x.bits x.text).bits<18446744073709551616:=Hc (E0 (hv.list x hx)) _;have hFi:=hFl i xw;have hFx:=hFs i x hi;have hpx:=Vj (wk o.kind) x;have epx:YP (wk o.kind) x=Y5 (wk o.kind) (Xl x.kd x.bits x.text).bits:=rfl;rw[epx]at hFx hpx;clear epx;generalize Xl x.kd x.bits x.text=z at c1 hbb hFx hpx;rw[Qd x]at c1;simp only[R.av]at c1;simp only[QB hlt,Qp,QmS,Qf,hg,n11,h21,h23,eE,seval];refine aC c1 ?_;by_cases w2:wk o.kind=2
  ·have b2:(wk o.kind==2)=true:=vx
   have epb:Y5 (wk o.kind) z.bits=fx 8 z.bits:=by unfold Y5;rw[Qlv w2]
   rw[epb]at hFx hpx;simp only[b2,h8,h9,Qa,seval];refine aC (Qer z.bits) ?_;refine GR (site:=19) (g:=g) (xs:=Qw (F i)) xx j8 rfl (hbl _).symm rfl xw ?_;simp only[h23,e1,eE,seval];exact⟨v.list.length-(i+1),xw,_,_,i+1,g+1,rfl,rfl,xw,xR,xV,(by rw[hFx,Ql2];exact xx),w9,wT,xx,kI,(by rw[hFx,show Qw (F i++fx 8 z.bits)=Qw (F i)++Qw (fx 8 z.bits)by simp[Qw]];exact xx),ZK rfl⟩
  ·have b2:(wk o.kind==2)=false:=vx
   have epb:Y5 (wk o.kind) z.bits=Vp.put z.bits:=by unfold Y5;rw[Qlu w2]
   rw[epb]at hFx hpx;simp only[b2,h8,h9,Qa,seval];refine aC (Tm z.bits hbb) ?_;refine GR (site:=19) (g:=g) (xs:=Qw (F i)) xx j8 rfl (hbl _).symm rfl xw ?_;simp only[h23,e1,eE,seval];exact⟨v.list.length-(i+1),xw,_,_,i+1,g+1,rfl,rfl,xw,xR,xV,(by rw[hFx,Ql2];exact xx),w9,wT,xx,kI,(by rw[hFx,show Qw (F i++Vp.put z.bits)=Qw (F i)++Qw (Vp.put z.bits)by simp[Qw]];exact xx),ZK rfl⟩
 ·have e:i=v.list.length:=xw
  subst e;have he:Q1 [fr] (.vec 0 19 g 0 (F v.list.length).length false)=some (Qw (F v.list.length)):=WF mR (hbl _).symm;have hbo:bytesOf (Qw (F v.list.length))=some (F v.list.length):=Kh _;simp only[QI hlt,h4,h9,m4,he,hbo,eE,seval];refine QK (l:=[(R.mk o.num 5 0 (F v.list.length)).av]) rfl rfl rfl rfl ?_;simp only[QlW,Qmq,Qa,seval]

def Pw (o:PO):Nat:=if o.card=5 then 287 else if pk o.card o.kind=true then 288 else if o.card=4 then 289 else 290

theorem Qju:Qh Tryz.prog 221 [Qu o] (.fn (.func (Pw o)) [] []):=by
 have cp:=Iz o.num o.name o.alias o.card o.key o.kind o.target o.union;simp only[oc]at cp;unfold Pw;refine wF Tryz.func221 ?_;simp only[eK,Tryz.f221,seval];simp only[Qu,PO.cells,eE,seval];by_cases h5:o.card=5
 ·have b5:(o.card==5)=true:=q7
  rw[Qlv h5];simp only[b5,Qa,seval]
 have b5:(o.card==5)=false:=q7
 rw[Qlu h5];simp only[b5,eE,seval];refine aC cp ?_;cases hp:pk o.card o.kind
 case true=>simp only[Qa,seval]
 simp only[eE,seval];by_cases h4:o.card=4
 ·have b4:(o.card==4)=true:=kR
  simp only[h4,Qa,seval]
 ·have b4:(o.card==4)=false:=kR
  simp only[b4,h4,Qa,seval]

theorem Qjv (hel:∀x:V,x.ok M->x.cnt<=1048576->QW m P o x=0->Qh Tryz.prog 342 [P.av,Qu o,x.av] (Xf bd o 0 x).av)(v:V)(hv:v.ok M)(hc:v.cnt<=1048576)(he:QW m P o v=0) :
  Qh Tryz.prog 290 [P.av,Qu o,v.av] (.list ([Xf bd o o.num v].map R.av)):=by
 have e0:P.av=.agg [.list (P.progs.map Qm),.list (P.enums.map QC)]:=rfl;have c1:=hel v hv hc he;have c2:=TB o.num (Xf bd o 0 v);rw[Vn]at c2;generalize Xf bd o 0 v=y at c1 c2;generalize Xf bd o o.num v=z at c2 ⊢;rw[e0,Qd v]at c1;simp only[Qu,PO.cells,R.av]at c1 c2;rw[Qd v];refine wF Tryz.func290 ?_;simp only[eK,Tryz.f290,seval];simp only[e0,Qu,PO.cells,eE,seval];refine aC c1 ?_;refine aC c2 ?_;refine QK (l:=[z.av]) rfl rfl rfl rfl ?_;simp only[QlW,Qmq,Qa,seval]

include ho in
theorem QfS (hbd:∀(t:Int) (v:V),(0<=t/\t<(P.progs.length:Int))->m (Qg P t) v=0->(bd t v).length+70000<=70000*v.cnt)(hb:∀(t:Int) (g:PG),P.progs[t.toNat]? = some g->0<=t->∀v:V,v.ok M->v.cnt<=1048576->m g v=0->Qh Tryz.prog 80 [P.av,.int .i64 t,v.av] (.str (bd t v)))(v:V)(hv:v.ok M)(hc:v.cnt<=1048576)(hf:Xw m P o v=0) :
  Qh Tryz.prog (Pw o) [P.av,Qu o,v.av] (.list ((YQ bd o v).map R.av)):=by
 have hel:=fun(x:V) (hx:x.ok M) (hxc:x.cnt<=1048576) (he:QW m P o x=0)=>Qjo o ho hb x hx hxc he
 unfold Pw YQ;unfold Xw at hf;by_cases h5:o.card=5
 ·rw[Qlv h5]at hf;rw[Qlv h5,Qlv h5];split at hf
  ·omega
  exact Qjs o ho hbd hel v hv hc (Wa.1 hf).1
 rw[Qlu h5]at hf;rw[Qlu h5,Qlu h5];by_cases hp:pk o.card o.kind=true
 ·rw[Qlv hp,Qlv hp];exact Qjt o hp v hv hc
 rw[Qlu hp,Qlu hp];by_cases h4:o.card=4
 ·rw[Qlv h4]at hf;rw[Qlv h4,Qlv h4];split at hf
  ·omega
  exact Qjr o hel v hv hc (Kt.1 hf)
 ·rw[Qlu h4]at hf;rw[Qlu h4,Qlu h4];exact Qjv o hel v hv hc hf
end

section
variable {M:Nat}{P:PL}{m:PG->V->Int}{bd:Int->V->List UInt8}

theorem Qjw (hU:JX P)(hP:P.ok M)(hbd:∀(t:Int) (v:V),(0<=t/\t<(P.progs.length:Int))->m (Qg P t) v=0->(bd t v).length+70000<=70000*v.cnt)(hb:∀(t:Int) (g:PG),P.progs[t.toNat]? = some g->0<=t->∀v:V,v.ok M->v.cnt<=1048576->m g v=0->Qh Tryz.prog 80 [P.av,.int .i64 t,v.av] (.str (bd t v)))(t:Int)(g:PG)(hgt:P.progs[t.toNat]? = some g)(t0:0<=t)(s:Int×V)(hv:s.2.ok M)(hc:s.2.cnt<=1048576)(o:PO)(ho:Q7 g s.1=some o)(hf:Xw m P o s.2=0) :
  Qh Tryz.prog 132 [P.av,.int .i64 t,V.sav s] (.list ((Jm bd g s).map R.av)):=by
 have e0:P.av=.agg [.list (P.progs.map Qm),.list (P.enums.map QC)]:=rfl;have hgm:=QlC hgt;obtain⟨hom,hon⟩:=Jb ho;have c1:=AS g (hP.progs g hgm).len s.1;rw[Yu,ho]at c1;have c2:=Qju o;have c3:=QfS o (hU g hgm o hom) hbd hb s.2 hv hc hf;have hsl:Jm bd g s=YQ bd o s.2:=by unfold Jm;rw[ho]
 rw[hsl];obtain⟨ti,hti⟩:=Qnb t0;subst hti;rw[QmS]at hgt;have hga:(P.progs.map Qm)[ti]? = some (.agg g.cells):=by simp[hgt,Qm]
 generalize YQ bd o s.2=z at c3 ⊢;generalize Pw o=k at c2 c3;simp only[PG.cells]at hga;rw[e0,Qd s.2]at c3;simp only[Qm,Qu,PG.cells,PO.cells,QmA,Qnm]at c1 c2 c3;rw[ZN];refine wF Tryz.func132 ?_;simp only[eK,Tryz.f132,seval];simp only[e0,Qp,QmS,Qf,hga,eE,seval];refine aC c1 ?_;simp only[eE,seval];refine aC c2 ?_;simp only[eE,seval];refine K8 (fa:=[]) (fb:=[]) xx c3 rfl rfl rfl (.inl rfl) ?_;simp only[Qa,seval]

end

section
variable (bd:Int->V->List UInt8)(g:PG)
theorem R8 {s:Int×V}{sl:List (Int×V)}{r:R}{rs:List R}(h:r.num<s.1):Xs bd g (s :: sl) (r :: rs)=r :: Xs bd g (s :: sl) rs:=by
 have d:decide (r.num<s.1)=true:=Qnr h;rw[Xs,Xs,List.takeWhile_cons,List.dropWhile_cons,Qlv d,Qlv d];rfl
theorem Fe {s:Int×V}{sl:List (Int×V)}{rs:List R}(h:∀r l,rs=r :: l->¬r.num<s.1):Xs bd g (s :: sl) rs=Jm bd g s++Xs bd g sl rs:=by
 rw[Xs];cases rs with
 |nil=>rfl
 |cons r l=>
  have d:¬decide (r.num<s.1)=true:=fun e=>h r l rfl (of_decide_eq_true e)
  rw[List.takeWhile_cons,List.dropWhile_cons,Qlu d,Qlu d];rfl
end

structure BoF (P:PL)(t:Nat)(S:List (Int×V))(f:Fr)(fr:Nat->Ob)(i g:Nat)(out rest:List R):Prop where
 f1:f 1=.int .i64 (t:Nat)
 f3:f 3=.ptr 0 3 0
 f8:f 8=.vec 0 8 g 0 out.length false
 f9:f 9=.list (rest.map R.av)
 f20:f 20=.list (S.map V.sav)
 f21:f 21=.int .i64 (S.length:Nat)
 f22:f 22=.int .i64 (i:Nat)
 m3:fr 3=.cells [.list (P.progs.map Qm),.list (P.enums.map QC)]
 mR:fr 8=.vec g 4 (out.map R.av)

section
variable {M:Nat}{P:PL}

theorem QfT {cL:RC}(bd:Int->V->List UInt8)(g:PG)(t:Nat)(S:List (Int×V))(i:Nat)(s:Int×V)(sl:List (Int×V))(T:List R)(hT:T.length<=3000000000000)(f:Fr)(fr:Nat->Ob)(gn:Nat)(out rest:List R)(h:BoF P t S f fr i gn out rest)(h11:f 11=.ptr 0 11 0)(m11:fr 11=.cells [.int .i64 s.1,.int .i64 s.2.kd,.int .u64 (s.2.bits:Nat),.str s.2.text,.list (s.2.list.map V.av),.list (s.2.pairs.map V.pav),.list (s.2.slots.map V.sav),.list (s.2.raws.map R.av)])(hi:out++Xs bd g (s :: sl) rest=T)(Q:Exit->St->Prop)
  (q:∀f fr gn out rest,BoF P t S f fr i gn out rest->f 11=.ptr 0 11 0->fr 11=.cells [.int .i64 s.1,.int .i64 s.2.kd,.int .u64 (s.2.bits:Nat),.str s.2.text,.list (s.2.list.map V.av),.list (s.2.pairs.map V.pav),.list (s.2.slots.map V.sav),.list (s.2.raws.map R.av)]->out++(Jm bd g s++Xs bd g sl rest)=T->Q (.exit 2) (⟨f,[fr],[]⟩:St)) (hcL:lp 80 1 Tryz.f80=cL:=by simp only[eL,eK,Tryz.f80,seval]) :
  QU Tryz.prog (.loop cL) ⟨f,[fr],[]⟩ Q:=by
 subst hcL;simp only[eL,eK,Tryz.f80,seval]
 let I:Nat->St->Prop:=fun k st=>∃f fr gn out rest,st=⟨f,[fr],[]⟩/\k=rest.length/\BoF P t S f fr i gn out rest/\f 11=.ptr 0 11 0/\fr 11=.cells [.int .i64 s.1,.int .i64 s.2.kd,.int .u64 (s.2.bits:Nat),.str s.2.text,.list (s.2.list.map V.av),.list (s.2.pairs.map V.pav),.list (s.2.slots.map V.sav),.list (s.2.raws.map R.av)]/\out++Xs bd g (s :: sl) rest=T
 refine Qi I _ ⟨f,fr,gn,out,rest,rfl,rfl,h,h11,m11,hi⟩ ?_;clear h h11 m11 hi;rintro _ st ⟨f,fr,gn,out,rest,rfl,rfl,⟨h1,h3,h8,h9,h20,h21,h22,m3,mR⟩,h11,m11,hi⟩;simp only[Qa,seval];cases rest with
 |nil=>
  have d1:decide (((0:Nat):Int) > 0)=false:=rfl;simp only[Qmq,Qmk,h9,Qa,seval];exact q _ _ gn out [] ⟨xL,xM,xV,j7,qp,w9,wT,m3,mR⟩ jY m11 (by rw[<-hi,Fe];intro r l e;cases e)
 |cons r l=>
  have d1:decide (((l.length+1:Nat):Int) > 0)=true:=Qnr xw;have hml:(l.map R.av).length=l.length:=Qmj ..;by_cases hr:r.num<s.1
  ·have d2:decide (r.num<s.1)=true:=Qnr hr;rw[R8 bd g hr]at hi;have hol:out.length+1<=T.length:=wq
   have hs1:(1<=((r :: l).map R.av).length)=True:=eq_true xA;have hs3:=Jo (r :: l);have hs2:List.take (((r :: l).map R.av).length-1) (List.drop 1 ((r :: l).map R.av))=l.map R.av:=by simp[QlY]
   simp only[QlW,QlD,hml,d1,d2,R.av,Qmr,Qf,h8,h9,h11,m11,eE,seval];refine QK (l:=[r.av]) rfl rfl rfl rfl ?_;refine QF (site:=8) (g:=gn) (n:=out.length) (xs:=out.map R.av) (ys:=[r.av]) xx j8 rfl kO rfl (Jo [r]) xG xI ?_;simp only[Js,Jc,Xo,Qm4,hs1,hs2,hs3,Qlk,or_true,and_self,QlD,Qmk,h9,Qa,seval];exact⟨l.length,xA,_,_,gn+1,out++[r],l,rfl,rfl,⟨xL,xM,qk,xx,qp,w9,wT,j5,ql⟩,jY,(by exact m11),wq⟩
  ·have d2:decide (r.num<s.1)=false:=Qnl hr;simp only[QlW,QlD,hml,d1,d2,R.av,Qmr,Qf,h9,h11,m11,eE,seval];exact q _ _ gn out (r :: l) ⟨xL,xM,xV,j7,qp,w9,wT,m3,mR⟩ jY m11 (by rw[<-hi,Fe];intro r' l' e;cases e;exact hr)

def BoI (P:PL)(bd:Int->V->List UInt8)(g:PG)(t:Nat)(S:List (Int×V))(T:List R)(k:Nat)(st:St):Prop :=
 ∃f fr i gn out rest,st=⟨f,[fr],[]⟩/\k=S.length-i/\i<=S.length/\BoF P t S f fr i gn out rest/\out++Xs bd g (S.drop i) rest=T/\∀s∈[11],(fr s).isRow=false

theorem t80 (hP:P.ok M)(hU:JX P)(hr:Zo P)(hcd:Tl P)(hG:∀t,Gd (Qg P t)):∀(n:Nat) (t:Int) (g:PG),P.progs[t.toNat]? = some g->0<=t->∀v:V,v.ok M->v.cnt<=1048576->XF P n g v=0->Qh Tryz.prog 80 [P.av,.int .i64 t,v.av] (.str (Xh P n t v)):=by
 have e0:P.av=.agg [.list (P.progs.map Qm),.list (P.enums.map QC)]:=rfl;intro n
 induction n with
 |zero=>
  intro t g _ _ v _ _ h;exact(Uc 0 _ _ h).elim
 |succ n ih=>
  intro t g hgt t0 v hv hc h;have hgm:=QlC hgt;have hq:Qg P t=g:=by unfold Qg;rw[hgt];rfl
  have cn:=v24 hP hU hr hcd (n+1) t g hgt t0 v hv hc (Uc _ _ _ h);have hw:=Pu hU hr hgm h;have hnok:=UN hG (n+1) t v hv;have hncn:=Kr hr (n+1) g (hr g hgm) v;have hfit:=KZ hU hr (n+1) g hgm v h;obtain⟨_,_,_,hraw⟩:=JY.1 hfit;rw[hq]at hnok;rw[Xh,hq];generalize Q5 P (n+1) g v=w at cn hw hnok hncn hraw;have hwc:w.cnt<=1048576:=xw
  have hbl:=fun t v ht hm=>HD hU hr n t v ht hm
  have hrw:=Gp (m:=XF P n) (bd:=Xh P n) (g:=g) hbl w.slots w.raws (fun x hx=>by
   obtain⟨o,ho,hx,_⟩:=hw x hx;exact⟨o,ho,hU _ hgm o (Jb ho).1,hx⟩) hraw
  have hcs:w.raws.length+Xd w.slots<=w.cnt:=by rw[Q4 w];omega
  have hpn:=Gv (l:=Xs (Xh P n) g w.slots w.raws) (Vm (Xh P n) g w.slots w.raws (fun s hs=>hnok.slots s hs) (fun f hf=>by
   have:=GT (hnok.raws f hf).bits;show f.bits<_;omega)) xw
  have cput:=Qes _ hpn.1 hpn.2.1 hpn.2.2;have hTl:=Fc (Xs (Xh P n) g w.slots w.raws);have csl:=fun(s:Int×V) (hs:s∈w.slots)=>(hw s hs).elim fun o ho=>Qjw hU hP hbl ih t g hgt t0 s (hnok.slots s hs) (Qll (ZZ hs) hwc) o ho.1 ho.2.1
  have ls:=XP w;generalize hTe:Xs (Xh P n) g w.slots w.raws=T at hrw hpn cput hTl;have hTm:T.length<=3000000000000:=xw
  clear hpn hraw hrw hw hfit;obtain⟨ti,hti⟩:=Qnb t0;subst hti;rw[e0,Qd v,Qd w]at cn;rw[Qd v];refine wF Tryz.func80 ?_;simp only[eK,Tryz.f80,seval];simp only[e0,eE,seval];refine aC cn ?_;simp only[eE,seval];refine XO rfl rfl ?_;simp only[Qmj,eE,seval];refine Qi (BoI P (Xh P n) g ti w.slots T) _ ⟨_,_,0,_,[],w.raws,rfl,rfl,Qlx _,⟨xx,xx,xx,xx,xx,xx,xx,xx,xx⟩,hTe,ZK rfl⟩ ?_;rintro _ st ⟨f0,fr0,i,gn,out,rest,rfl,rfl,hil,⟨h10,h30,h80,h90,h200,h210,h220,m30,mR0⟩,hi0,r11⟩;refine QL (a:=_) [11] r11 ?_;intro f fr hf hm hn11;have h1:f 1=.int .i64 (ti:Nat):=kj
  have h3:f 3=.ptr 0 3 0:=xW
  have h8:f 8=.vec 0 8 gn 0 out.length false:=jM
  have h9:f 9=.list (rest.map R.av):=ki
  have h20:f 20=.list (w.slots.map V.sav):=qO
  have h21:f 21=.int .i64 (w.slots.length:Nat):=wN
  have h22:f 22=.int .i64 (i:Nat):=by rw[hf,h220]<;>rfl
  have m3:fr 3=.cells [.list (P.progs.map Qm),.list (P.enums.map QC)]:=j0
  have mR:fr 8=.vec gn 4 (out.map R.av):=by rw[hm 8 xy,mR0]<;>rfl
  have n11:=hn11 11 xy;clear hf hm hn11 h10 h30 h80 h90 h200 h210 h220 m30 mR0 r11;simp only[h21,h22,Qa,seval];by_cases hlt:i<w.slots.length
  ·obtain⟨x,hi⟩:∃x,w.slots[i]? = some x:=⟨w.slots[i],Qln hlt⟩;have hx:=QlC hi;have hgs:=Wy hi;have e1:=Qr i _ hlt xC;have hdr:w.slots.drop i=x :: w.slots.drop (i+1):=by rw[Ql7 hlt,(Qlm.1 hi).2]
   have c1:=csl x hx;rw[hdr]at hi0;simp only[QB hlt,Qp,QmS,Qf,hgs,n11,h20,h22,eE,seval];refine QfT (Xh P n) g ti w.slots i x (w.slots.drop (i+1)) T hTm _ _ gn out rest ⟨xL,xM,xV,j7,qp,w9,wT,j5,j8⟩ xx xx hi0 _ ?_;clear h1 h3 h8 h9 h20 h21 h22 m3 mR n11 hi0 out rest gn f fr;rintro f fr gn out rest ⟨h1,h3,h8,h9,h20,h21,h22,m3,mR⟩ h11 m11 hi0;rw[e0,ZN x]at c1;generalize Jm (Xh P n) g x=z at c1 hi0;have hol:out.length+z.length<=T.length:=by rw[<-hi0];simp
   simp only[h1,h3,h8,h11,m3,m11,eE,seval];refine aC c1 ?_;refine QF (site:=8) (g:=gn) (n:=out.length) (xs:=out.map R.av) (ys:=z.map R.av) xx j8 rfl kO rfl (Jo z) qR wY ?_;simp only[Qmj,h22,e1,Qa,seval];exact⟨w.slots.length-(i+1),xw,_,_,i+1,gn+1,out++z,rest,rfl,rfl,xw,⟨xL,xM,qk,j7,qp,w9,xx,j5,ql⟩,by rw[<-hi0,QlJ],ZK (by simp only[m11,Qa,seval]<;>rfl)⟩
  ·have e:i=w.slots.length:=xw
   subst e;have hi1:out++rest=T:=by rw[<-hi0,List.drop_length];rfl
   have hol:out.length+rest.length=T.length:=by rw[<-hi1];simp
   simp only[QI hlt,h8,h9,Qa,seval];refine QF (site:=8) (g:=gn) (n:=out.length) (xs:=out.map R.av) (ys:=rest.map R.av) xx j8 rfl kO xx (Jo rest) qR wY ?_;rw[<-hi1]at cput;refine Zf cput ?_ rfl rfl (.inr rfl) ?_
   ·simp only[QlW,Qmq,AV.stillL,AV.still,Qmj,eE,seval];simp[Y4,QlY]
   rw[<-hi1];simp only[Qa,seval]

end
end Go.Proofs.YtmlohboeoeoamaaGreatDoor.Va

namespace Go.Proofs.YtmlohboeoeoamaaGreatDoor.Va
open Go Am Rc Bt Br Up

def RBP (p:Prop)(v:AV):Prop:=∃b,v=.bool b/\(b=true->p)
theorem RBP.rf {p:Prop}{v:AV}{l:List AV}(h:RBP p v):v.rf=true/\(AV.rfL l=true\/v.nl=true):=by
 obtain⟨b,rfl,_⟩:=h;exact⟨rfl,.inr rfl⟩

def RN (n:Nat)(lf:Int)(a:AV):Prop:=∃r:Int,a=.int .i64 r/\-1<=r/\(0<=r->(n:Int)+r<=lf)
theorem RN.rf {n:Nat}{lf:Int}{v:AV}{l:List AV}(h:RN n lf v):v.rf=true/\(AV.rfL l=true\/v.nl=true):=by
 obtain⟨b,rfl,_⟩:=h;exact⟨rfl,.inr rfl⟩
section
variable {M:Nat}

end

def Qe0 (P:PL):Prop:=(∀g∈P.progs,g.name.length<=300)/\∀e∈P.enums,e.name.length<=300
section
variable {M:Nat}(hM:M<=140737488351232)(P:PL)(hP:P.ok M)

end
open So Vp Cp

def YX (P:PL)(s:List UInt8)(v:V):List UInt8×Int :=
 if QH s P<0 then([],10)
 else if ZJ P (QH s P) v≠0 then([],ZJ P (QH s P) v)
 else if (Xh P 16 (QH s P) v).length > 65536 then([],3)
 else(Xh P 16 (QH s P) v,0)
def siz (r:List UInt8×Int):Int:=if r.2≠0 then -1 else(r.1.length:Int)
theorem JD {P:PL}{t:Int}{v:V}(h:ZJ P t v=0):(0<=t/\t<(P.progs.length:Int))/\XF P 16 (Qg P t) v=0:=by
 unfold ZJ at h;split at h
 ·omega
 rename_i ht;split at h
 ·rename_i hm;exact⟨xw,hm⟩
 ·rename_i hm;exact absurd h hm
theorem Ko {P:PL}{t:Int}(ht:0<=t/\t<(P.progs.length:Int)):P.progs[t.toNat]? = some (Qg P t):=by
 unfold Qg;rw[Qln (by omega:t.toNat<P.progs.length)];rfl

section
variable {M:Nat}(hM:M<=140737488351232)(P:PL)(hP:P.ok M)(hS:Qe0 P)

include hM hP hS in
theorem t76:Qh Tryz.prog 76 [P.av] (.int .i64 (ck P)) :=
 Qij P hP hM (fun g h=>Qll (hS.1 g h) xy) (fun g h=>Qll (hS.2 g h) xy)

include hM hP hS in
theorem t79 (t:Int)(ht:0<=t/\t<(P.progs.length:Int))(hk:ck P=0):Qh Tryz.prog 79 [P.av,.int .i64 t] (.bool true):=by
 have e0:P.av=.agg [.list (P.progs.map Qm),.list (P.enums.map QC)]:=rfl;have d1:decide (t>=0)=true:=Qnr ht.1;have d2:decide (t<(P.progs.length:Int))=true:=Qnr ht.2;have cc:=t76 hM P hP hS;have z0:((0:Int)==0)=true:=rfl;rw[hk,e0]at cc;refine wF Tryz.func79 ?_;simp only[eK,Tryz.f79,seval];simp only[e0,d1,d2,Qmj,eE,seval];refine aC cc ?_;simp only[z0,Qa,seval]

include hP in
theorem Qe2 (hk:ck P=0)(t:Int)(v:V)(hv:v.ok M)(hc:v.cnt<=1048576)(ht:0<=t/\t<(P.progs.length:Int))(hm:XF P 16 (Qg P t) v=0):Qh Tryz.prog 80 [P.av,.int .i64 t,v.av] (.str (Xh P 16 t v)) :=
 t80 hP (Zy hk) (Xr hk) (F2 hk) (Fa hP (YS hk)) 16 t (Qg P t) (Ko ht) ht.1 v hv hc hm

include hM hP hS in
theorem t42 (hk:ck P=0)(t:Int)(v:V)(hv:v.ok M)(hc:v.cnt<=1048576)(hf:ZJ P t v=0):Qh Tryz.prog 42 [P.av,.int .i64 t,v.av] (.str (Xh P 16 t v)):=by
 have e0:P.av=.agg [.list (P.progs.map Qm),.list (P.enums.map QC)]:=rfl;obtain⟨ht,hm⟩:=JD hf;have cu:=t79 hM P hP hS t ht hk;have cb:=Qe2 P hP hk t v hv hc ht hm;rw[e0]at cu;rw[e0,Qd v]at cb;rw[Qd v];refine wF Tryz.func42 ?_;simp only[eK,Tryz.f42,seval];simp only[e0,eE,seval];refine aC cu ?_;simp only[eE,seval];refine aC cb ?_;simp only[Qa,seval]

end

theorem QcI {l:List PG}(h:Jk l (XN PG.name)=true):l.Pairwise fun a b=>Op.bytesLess a.name b.name=true:=by
 have hs:∀i (hi:i+1<l.length),Op.bytesLess l[i].name l[i+1].name=true:=by
  intro i hi;unfold Jk at h;have:=Q3.1 h (i+1) hi;rw[WW (Qln (by omega:i<l.length)) (Qln hi)]at this;unfold XN at this
  simpa using this
 rw[QnE];intro i j hi hj hij;obtain⟨d,rfl⟩:∃d,j=i+1+d:=⟨j-(i+1),xw⟩;clear hij
 induction d with
 |zero=>exact hs i xw
 |succ d ih=>exact Gc (ih xw) (hs (i+1+d) xw)

theorem Px {P:PL}(hk:ck P=0){t:Int}(ht:0<=t/\t<(P.progs.length:Int)):QH (Qg P t).name P=t:=by
 have ho:=(F1 hk).1;unfold G4 at ho;simp only[QlM]at ho;have hp:=QcI ho.1.1.1;rw[QnE]at hp;have hg:=Ko ht;obtain⟨hl,hg2⟩:=Qlm.1 hg;unfold QH;rcases Yp (fun g:PG=>g.name==(Qg P t).name) P.progs 0 with⟨_,hn⟩|⟨k,o,h,h1,h2⟩
 ·have:=Qno.1 hn (Qg P t) (QlC hg);simp at this
 ·have hn:o.name=(Qg P t).name:=by simpa using Qnq h2
  obtain⟨hkl,hk2⟩:=Qlm.1 h1;have e:k=t.toNat:=by
   rcases Nat.lt_trichotomy k t.toNat with c|c|c
   ·have:=hp k t.toNat hkl hl c;rw[hk2,hg2,hn,U6]at this;cases this
   ·exact c
   ·have:=hp t.toNat k hl hkl c;rw[hk2,hg2,hn,U6]at this;cases this
  rw[h];omega

section
variable {P:PL}(hk:ck P=0){t:Int}{v:V}(hf:ZJ P t v=0)(hc:v.cnt<=300)

include hk hf hc in
theorem R9:ZJ P t (Q5 P 16 (Qg P t) v)=0/\Xh P 16 t (Q5 P 16 (Qg P t) v)=Xh P 16 t v/\YX P (Qg P t).name (Q5 P 16 (Qg P t) v)=YX P (Qg P t).name v/\(Q5 P 16 (Qg P t) v).cnt<=300:=by
 obtain⟨ht,hm⟩:=JD hf;have hg:Qg P t∈P.progs:=QlC (Ko ht);have h1:=KZ (Zy hk) (Xr hk) 16 _ hg v hm;have h2:=UC (Zy hk) (Xr hk) 16 _ hg v hm;have h3:=Kr (Xr hk) 16 _ (Z7 (Xr hk) t) v;generalize hx:Q5 P 16 (Qg P t) v=x at h1 h2 h3 ⊢;have hfx:ZJ P t x=0:=by
  unfold ZJ;rw[Qlu xw,Qlv h1,Qlu xE]
 have hb:Xh P 16 t x=Xh P 16 t v:=by
  rw[Xh,Xh,h2,hx]
 refine⟨hfx,hb,?_,xw⟩;unfold YX;rw[Px hk ht,hfx,hf,hb]

end

theorem Vo {P:PL}(h:ck P=0):Qe0 P:=by
 unfold ck at h;split at h
 ·omega
 split at h
 ·omega
 rename_i hn;have hn:BT P=true:=by simpa using hn
 unfold BT at hn;simp only[QlM,QlB]at hn;refine⟨fun g hg=>?_,fun e he=>?_⟩
 ·have:=hn.1 g hg;unfold Wu WY at this;simp only[QlM,Qlr]at this;omega
 ·have:=hn.2 e he;unfold Hf WY at this;simp only[QlM,Qlr]at this;omega

theorem QcJ {P:PL}{s:List UInt8}{v:V}(h:(YX P s v).2=0):(0<=QH s P/\QH s P<(P.progs.length:Int))/\ZJ P (QH s P) v=0/\(YX P s v).1=Xh P 16 (QH s P) v/\(Xh P 16 (QH s P) v).length<=65536:=by
 unfold YX at h ⊢;rcases JB s P with hx|hx
 ·rw[Qlv xw]at h;cases h
 rw[Qlu xw]at h ⊢;by_cases hf:ZJ P (QH s P) v=0
 case neg=>
  rw[Qlv hf]at h;exact absurd h hf
 rw[Qlu (fun g=>g hf)]at h ⊢;split at h
 ·cases h
 ·rename_i h1;rw[Qlu h1];exact⟨hx,hf,rfl,xw⟩

section
variable {P:Program}{f:Fr}{m:Qk}{ds:List DF}{K:St->Prop}{its:List Am.Item}{d:Nat}
theorem Bb {s:Nat}(hn:Zs m s=true)(h:QD P its ⟨QJ f d (.mptr 0 s),Am.put m 0 s (.iter (.mp [] []) 0),ds⟩ K):QD P (⟨some d,.mkm s,none⟩ :: its) ⟨f,m,ds⟩ K:=⟨hn,h⟩
theorem JE {tx:Bool}{x i v:RA}{l s p:Nat}{ks:List MK}{vs:List AV}{k:MK}(h1:x.ev f=.mptr l s)(h2:Am.Qc m l s=.iter (.mp ks vs) p)(h3:Am.K5 tx (i.ev f)=some k)(h4:Am.keys tx ks=true)(h5:(v.ev f).gr=true)(h6:AV.grL vs=true)(h7:ks.length=vs.length)
  (h:QD P its ⟨f,Am.put m l s (.iter (.mp (Zn k (v.ev f) ks vs).1 (Zn k (v.ev f) ks vs).2) p),ds⟩ K):QD P (⟨none,.mput tx x i v,none⟩ :: its) ⟨f,m,ds⟩ K:=⟨l,s,ks,vs,p,k,h1,h2,h3,h4,h5,h6,h7,h⟩
end

theorem c43:Qh Tryz.prog 43 [] QR.av:=by
 refine wF Tryz.func43 ?_;simp only[eK,Tryz.f43,seval];simp only[QR,L.av,eE,seval]

section
variable {M N:Nat}(hM:M<=140737488351232)(hm:65536<=M)(hN:65536<N)(W R:PL)(hW:W.ok M)(hR:R.ok M)(hw:ck W=0)(hr:ck R=0)

include hM hW hR hw hr in
theorem c40 (a b:Int)(ha:0<=a/\a<(W.progs.length:Int))(hb:0<=b/\b<(R.progs.length:Int)):Qh Tryz.prog 40 [W.av,R.av,.int .i64 a,.int .i64 b] (.tup [Qm (Qg W a),Qm (Qg R b),.int .i64 0]):=by
 have c1:=t76 hM W hW (Vo hw);have c2:=t76 hM R hR (Vo hr);rw[hw,show W.av=.agg (Q8 W)from rfl]at c1;rw[hr,show R.av=.agg (Q8 R)from rfl]at c2;rw[show W.av=.agg (Q8 W)from rfl,show R.av=.agg (Q8 R)from rfl];simp only[Q8]at c1 c2;have d1:decide (a<0)=false:=Qnl xw;have d2:decide (a>=(W.progs.length:Int))=false:=Qnl xw;have d3:decide (b<0)=false:=Qnl xw;have d4:decide (b>=(R.progs.length:Int))=false:=Qnl xw;have g1:(W.progs.map Qm)[a.toNat]? = some (.agg [.str (Qg W a).name,.list ((Qg W a).ops.map fun o=>.agg o.cells),.int .i64 (Qg W a).unions]):=by rw[QmN,Ko ha];rfl
 have g2:(R.progs.map Qm)[b.toNat]? = some (.agg [.str (Qg R b).name,.list ((Qg R b).ops.map fun o=>.agg o.cells),.int .i64 (Qg R b).unions]):=by rw[QmN,Ko hb];rfl
 have a0:(0<=a)=True:=eq_true ha.1;have b0:(0<=b)=True:=eq_true hb.1;rw[show Qm (Qg W a)=.agg [.str (Qg W a).name,.list ((Qg W a).ops.map fun o=>.agg o.cells),.int .i64 (Qg W a).unions]from rfl,show Qm (Qg R b)=.agg [.str (Qg R b).name,.list ((Qg R b).ops.map fun o=>.agg o.cells),.int .i64 (Qg R b).unions]from rfl];refine wF Tryz.func40 ?_;simp only[eK,Tryz.f40,seval];simp only[Q8,d1,d2,d3,d4,Qmj,eE,seval];refine aC c1 ?_;simp only[eE,seval];refine aC c2 ?_;simp only[a0,b0,Qf,g1,g2,eE,seval]<;>rfl

include hM hm hN hW hR hw hr in
theorem c19 (a b:Int)(ha:0<=a/\a<(W.progs.length:Int))(hb:0<=b/\b<(R.progs.length:Int))(s:List UInt8)(hs:QH s R=b)(v:V)(hv:v.ok M)(hc:v.cnt<=300)(hf:ZJ W a v=0)(hx:(Xh W 16 a v).length<=65536) :
  Qh Tryz.prog 19 [W.av,R.av,.int .i64 a,.int .i64 b,v.av] (ov (KN R N s (Xh W 16 a v) QR)):=by
 have c1:=c40 hM W R hW hR hw hr a b ha hb;have c2:=t42 hM W hW (Vo hw) hw a v hv xw hf;have c3:=c43;have c4:=j41 (N:=N) hm R hR hr hN (Qg R b).name (Xh W 16 a v) QR hx xy xy;rw[LB (s':=s) (by rw[Px hr hb,hs])]at c4;have hn:=QeW (P:=R) (N:=N) (s:=s) hx;have ec:∀c:V×Nat,c.2≠3->((c.2:Int)==3)=false:=fun c h=>xD
 have e3:=ec _ hn;rw[show W.av=.agg (Q8 W)from rfl]at c1 c2;rw[show R.av=.agg (Q8 R)from rfl]at c1 c4;rw[show W.av=.agg (Q8 W)from rfl,show R.av=.agg (Q8 R)from rfl,Qd v];rw[Qd v]at c2;generalize KN R N s (Xh W 16 a v) QR=y at c4 e3 ⊢;generalize Xh W 16 a v=x at c2 c4;generalize Qg W a=gw at c1;generalize Qg R b=gr at c1 c4;obtain⟨y,e⟩:=y;simp only[Qm,PG.cells]at c1;simp only[ov,Qd y,Q8,L.av,QR]at c1 c2 c3 c4;dsimp only at e3;refine wF Tryz.func19 ?_;simp only[eK,Tryz.f19,seval];simp only[Q8,eE,seval];refine aC c1 ?_;simp only[eE,seval];refine aC c2 ?_;refine aC c3 ?_;refine aC c4 ?_;simp only[e3,ov,Qd y,eE,seval]<;>rfl

include hM hm hN hW hR hw hr in
theorem c9 (s:List UInt8)(hp:0<=QH s R)(v:V)(hv:v.ok M)(hc:v.cnt<=300)(he:(YX W s v).2=0) :
  Qh Tryz.prog 9 [W.av,R.av,.str s,v.av,.int .i64 1] (ov (KN R N s (YX W s v).1 QR)):=by
 obtain⟨ha,hf,hx,hl⟩:=QcJ he;have hb:0<=QH s R/\QH s R<(R.progs.length:Int):=by
  rcases JB s R with h|h
  ·omega
  ·exact h
 obtain⟨n1,n2,_,n4⟩:=R9 hw hf hc;obtain⟨_,hmf⟩:=JD hf;have oy:=UN (Fa hW (YS hw)) 16 (QH s W) v hv;have f1:=Rs W hW.len1 s;have f2:=Rs R hR.len1 s;have f3:=v23 hW (Zy hw) (QH s W) v hv;have f4:=v24 hW (Zy hw) (Xr hw) (F2 hw) 16 (QH s W) _ (Ko ha) ha.1 v hv xw (Uc _ _ _ hmf);have f5:=c19 (N:=N) hM hm hN W R hW hR hw hr (QH s W) (QH s R) ha hb s rfl _ oy n4 n1 (by rw[n2];exact hl);rw[n2,<-hx]at f5;unfold Fx at f1 f2;rw[show Za (fun g:PG=>g.name==s) W.progs 0=QH s W from rfl,Qlu xw,Qnr ha.1]at f1;rw[show Za (fun g:PG=>g.name==s) R.progs 0=QH s R from rfl,Qlu xw,Qnr hb.1]at f2;rw[hf]at f3;generalize Q5 W 16 (Qg W (QH s W)) v=u at f4 f5;generalize KN R N s (YX W s v).1 QR=y at f5 ⊢;obtain⟨y,e⟩:=y;rw[show W.av=.agg (Q8 W)from rfl]at f1 f3 f4 f5;rw[show R.av=.agg (Q8 R)from rfl]at f2 f5;rw[show W.av=.agg (Q8 W)from rfl,show R.av=.agg (Q8 R)from rfl,Qd v];rw[Qd v]at f3 f4;rw[Qd u]at f4 f5;simp only[ov,Qd y,Q8]at f1 f2 f3 f4 f5;refine wF Tryz.func9 ?_;simp only[eK,Tryz.f9,seval];simp only[Q8,eE,seval];refine Bb xx ?_;refine JE (l:=0) (s:=19) (p:=0) (ks:=[]) (vs:=[]) (k:=.n 1) xx xx rfl rfl rfl rfl rfl ?_;refine JE (l:=0) (s:=19) (p:=0) (ks:=[.n 1]) (vs:=[.fn (.func 19) [] []]) (k:=.n 2) xx xx rfl rfl rfl rfl rfl ?_;refine JE (l:=0) (s:=19) (p:=0) (ks:=[.n 1,.n 2]) (vs:=[.fn (.func 19) [] [],.fn (.func 20) [] []]) (k:=.n 4) xx xx rfl rfl rfl rfl rfl ?_;simp only[KP,Am.K5,keys,Zn,Kd,MK.eq,MK.t,QmB,QmC,AV.gr,List.isEmpty_nil,Bool.and_self,Qmz,cond_true,cond_false,eE,seval];refine aC f1 ?_;simp only[eE,seval];refine aC f2 ?_;simp only[eE,seval];refine aC f3 ?_;simp only[eE,seval];refine aC f4 ?_;refine K8 (k:=19) (fa:=[]) (fb:=[]) xz f5 rfl rfl rfl (.inl rfl) ?_;simp only[ov,Qd y,eE,seval]<;>rfl
end
end Go.Proofs.YtmlohboeoeoamaaGreatDoor.Va

namespace Go.Proofs.YtmlohboeoeoamaaGreatDoor.Va
open Go Am Rc Bt Br Up So

noncomputable def sm (v w:V):Bool:=@decide (v=w) (Classical.propDecidable _)
section
variable (v w:V)(fr:Nat->Ob)(m2':fr 2=.cells (Yd v))(m3':fr 3=.cells (Yd w))(f:Fr)(h2:f 2=.ptr 0 2 0)(h3:f 3=.ptr 0 3 0)(Q:Exit->St->Prop)
include m2' m3' h2 h3

end

end Go.Proofs.YtmlohboeoeoamaaGreatDoor.Va

namespace Go.Proofs.YtmlohboeoeoamaaGreatDoor.Cl
open Go Am Rc Bt

theorem DA {sz:Nat}(h0:sz≠0){xs:List AV}(h:xs.all (fun e=>e.cells.length==sz)=true)(hf:QP xs=[]):xs=[]:=by
 cases xs with
 |nil=>rfl
 |cons x xs=>
  have hl:x.cells.length=sz:=qC
  have:x.cells=[]:=(List.append_eq_nil_iff.1 hf).1;rw[this]at hl;exact absurd hl.symm h0

def DB (sz:Nat)(args:List AV)(m:Qk):Option (AV×Qk) :=
 match args,m with
 | [.list xs],fr :: m=>bif xs.all (fun e=>e.cells.length==sz)&&Nat.ble xs.length 1000000&&Qn (fr 1000)then some (.vec 0 1000 (XB (fr 1000)) 0 xs.length false,QJ fr 1000 (.vec (XB (fr 1000)) sz xs) :: m)else none
 |_,_=>none

theorem DC {P:Program}{k sz:Nat}(hk:∀(xs:List AV) (fr:Nat->Ob) (m:Qk),xs.all (fun e=>e.cells.length==sz)=true->xs.length<=1000000->Qn (fr 1000)=true->
  Qe P k [.list xs] (fr :: m) (fun x m1=>x=.vec 0 1000 (XB (fr 1000)) 0 xs.length false/\m1=QJ fr 1000 (.vec (XB (fr 1000)) sz xs) :: m)) {args:List AV} {m m':Qk} {v:AV} (h:DB sz args m=some (v,m')):Qe P k args m fun x m1=>x=v/\m1=m':=by
 unfold DB at h;split at h
 ·rename_i xs fr m0;cases hb:(xs.all (fun e=>e.cells.length==sz)&&Nat.ble xs.length 1000000&&Qn (fr 1000))with
  |false=>rw[hb]at h;cases h
  |true=>
   rw[hb]at h;simp only[cond_true,QlP,QmV]at h;simp only[QlM]at hb;obtain⟨rfl,rfl⟩:=h;exact hk xs fr m0 hb.1.1 (QmT hb.1.2) hb.2
 ·cases h

theorem c51 (xs:List AV)(fr:Nat->Ob)(m:Qk)(h:xs.all (fun e=>e.cells.length==4)=true)(hn:xs.length<=1000000)(hr:Qn (fr 1000)=true) :
  Qe Tryz.prog 51 [.list xs] (fr :: m) (fun x m1=>x=.vec 0 1000 (XB (fr 1000)) 0 xs.length false/\m1=QJ fr 1000 (.vec (XB (fr 1000)) 4 xs) :: m):=by
 have hng:Qz (fr :: m) 0 1000=XB (fr 1000):=J4;refine k51.go (by simp) ?_;simp only[LU,SK,SL,Qa,seval];refine Kf (ys:=xs) (by simp only[Qa,seval]) ?_ ?_
 ·simp only[SN,Qa,seval];refine Z4 rfl ?_;simp only[Qa,seval];refine QF (site:=5) (g:=1) (xs:=[]) (ys:=xs) rfl rfl rfl rfl rfl h (by simp[maxLen];omega) (by simp;omega) ?_;simp only[Qa,seval];refine Zu (l:=0) (site:=5) (g:=2) (o:=0) (n:=xs.length) (q:=false) (sz:=4) (xs:=xs) (by simp only[QlN,Qa,seval]) (by simp only[Qa,seval]) (by simp) (by decide) hr ?_;simp only[hng,Rh,eE,seval]
  try simp[AV.still,AV.un,Zw,XC]
 ·intro he;have hx:xs=[]:=by
   rcases he with he|he
   ·exact he
   ·exact DA (by decide) h he
  subst hx;simp only[SM,Qa,seval];refine XO (by simp only[Qa,seval]) rfl ?_;simp only[Qa,seval];refine Zu (l:=0) (site:=2) (g:=1) (o:=0) (n:=0) (q:=false) (sz:=4) (xs:=[]) (by simp only[Qa,seval]) (by simp only[Qa,seval]) (by simp) (by decide) hr ?_;simp only[hng,Rh,eE,seval]
  try simp[AV.still,AV.un,Zw,XC]

theorem c95 (xs:List AV)(fr:Nat->Ob)(m:Qk)(h:xs.all (fun e=>e.cells.length==8)=true)(hn:xs.length<=1000000)(hr:Qn (fr 1000)=true) :
  Qe Tryz.prog 95 [.list xs] (fr :: m) (fun x m1=>x=.vec 0 1000 (XB (fr 1000)) 0 xs.length false/\m1=QJ fr 1000 (.vec (XB (fr 1000)) 8 xs) :: m):=by
 have hng:Qz (fr :: m) 0 1000=XB (fr 1000):=J4;refine L0.go (by simp) ?_;simp only[Aq,Cb,Cc,Qa,seval];refine Kf (ys:=xs) (by simp only[Qa,seval]) ?_ ?_
 ·simp only[Cd,Qa,seval];refine Z4 rfl ?_;simp only[Qa,seval];refine QF (site:=5) (g:=1) (xs:=[]) (ys:=xs) rfl rfl rfl rfl rfl h (by simp[maxLen];omega) (by simp;omega) ?_;simp only[Qa,seval];refine Zu (l:=0) (site:=5) (g:=2) (o:=0) (n:=xs.length) (q:=false) (sz:=8) (xs:=xs) (by simp only[QlN,Qa,seval]) (by simp only[Qa,seval]) (by simp) (by decide) hr ?_;simp only[hng,C2,eE,seval]
  try simp[AV.still,AV.un,Zw,XC]
 ·intro he;have hx:xs=[]:=by
   rcases he with he|he
   ·exact he
   ·exact DA (by decide) h he
  subst hx;simp only[SQ,Qa,seval];refine XO (by simp only[Qa,seval]) rfl ?_;simp only[Qa,seval];refine Zu (l:=0) (site:=2) (g:=1) (o:=0) (n:=0) (q:=false) (sz:=8) (xs:=[]) (by simp only[Qa,seval]) (by simp only[Qa,seval]) (by simp) (by decide) hr ?_;simp only[hng,C2,eE,seval]
  try simp[AV.still,AV.un,Zw,XC]

theorem Qjx (xs:List AV)(fr:Nat->Ob)(m:Qk)(h:xs.all (fun e=>e.cells.length==7)=true)(hn:xs.length<=1000000)(hr:Qn (fr 1000)=true) :
  Qe Tryz.prog 149 [.list xs] (fr :: m) (fun x m1=>x=.vec 0 1000 (XB (fr 1000)) 0 xs.length false/\m1=QJ fr 1000 (.vec (XB (fr 1000)) 7 xs) :: m):=by
 have hng:Qz (fr :: m) 0 1000=XB (fr 1000):=J4;refine Iu.go (by simp) ?_;simp only[SR,C3,C4,Qa,seval];refine Kf (ys:=xs) (by simp only[Qa,seval]) ?_ ?_
 ·simp only[C6,Qa,seval];refine Z4 rfl ?_;simp only[Qa,seval];refine QF (site:=5) (g:=1) (xs:=[]) (ys:=xs) rfl rfl rfl rfl rfl h (by simp[maxLen];omega) (by simp;omega) ?_;simp only[Qa,seval];refine Zu (l:=0) (site:=5) (g:=2) (o:=0) (n:=xs.length) (q:=false) (sz:=7) (xs:=xs) (by simp only[QlN,Qa,seval]) (by simp only[Qa,seval]) (by simp) (by decide) hr ?_;simp only[hng,NQ,eE,seval]
  try simp[AV.still,AV.un,Zw,XC]
 ·intro he;have hx:xs=[]:=by
   rcases he with he|he
   ·exact he
   ·exact DA (by decide) h he
  subst hx;simp only[C5,Qa,seval];refine XO (by simp only[Qa,seval]) rfl ?_;simp only[Qa,seval];refine Zu (l:=0) (site:=2) (g:=1) (o:=0) (n:=0) (q:=false) (sz:=7) (xs:=[]) (by simp only[Qa,seval]) (by simp only[Qa,seval]) (by simp) (by decide) hr ?_;simp only[hng,NQ,eE,seval]
  try simp[AV.still,AV.un,Zw,XC]

end Go.Proofs.YtmlohboeoeoamaaGreatDoor.Cl

namespace Go.Proofs.YtmlohboeoeoamaaGreatDoor.Ew
open Go Am Rc Cl

def nat:YG:=fun k args m=>
 if k=51 then DB 4 args m
 else if k=95 then DB 8 args m
 else if k=149 then DB 7 args m
 else none

theorem nat_ok:YB Tryz.prog nat:=by
 intro k args m v m' h;unfold nat at h;split at h
 ·rename_i e;subst e;exact DC c51 h
 split at h
 ·rename_i e;subst e;exact DC c95 h
 split at h
 ·rename_i e;subst e;exact DC Qjx h
 ·cases h

end Go.Proofs.YtmlohboeoeoamaaGreatDoor.Ew

namespace Go.Proofs.YtmlohboeoeoamaaGreatDoor.Rc
open Go Am

noncomputable abbrev r7:RC:=Cg.cd [] [(1,[(2,.bv)]),(2,[(2,.lv 0 1),(3,.ro (.callO 0 8 (.f 9) [(.t 11),(.t 12),(.c (.str [77])),(.t 13),(.c (.int .i64 2))])),(8,.lv 0 2)]),(4,[(2,.lv 0 1),(3,.ro (.callO 0 8 (.f 9) [(.t 23),(.t 24),(.c (.str [77])),(.t 25),(.c (.int .i64 1))])),(8,.lv 0 4)])] [] [] (Cg.bo Tryz.f7.body)
def o7:List RR:=[.tmp 0]
theorem k7:CK Tryz.prog 7 59 r7 o7:=ck Tryz.func7 Tryz.ntmps7 xH
noncomputable abbrev r9:RC:=Cg.cd [] [(12,[(1,.lv 0 5),(2,.lv 0 6),(5,.lv 0 5),(7,.lv 0 8),(8,.ro (.callO 1 8 (.f 24) [(.t 62),(.t 63),(.t 64)])),(9,.cc),(12,.lv 0 10)])] [] [] (Cg.bo Tryz.f9.body)
def o9:List RR:=[.cell 10 (some 7),.tmp 11]
theorem k9:CK Tryz.prog 9 69 r9 o9:=ck Tryz.func9 Tryz.ntmps9 xH
noncomputable abbrev r24:RC:=Cg.cd [] [(4,[(2,.cf)]),(7,[(1,.lv 0 3),(4,.lr),(6,.lv 0 9),(12,.lv 0 10)])] [(1,[.vecc 7 5 1100 8])] [] (Cg.bo Tryz.f24.body)
def o24:List RR:=[.cell 6 (some 7)]
theorem k24:CK Tryz.prog 24 86 r24 o24:=ck Tryz.func24 Tryz.ntmps24 xH
noncomputable abbrev r52:RC:=Cg.cd [] [(7,[(7,.lv 0 6),(13,.lr)])] [(3,[.vec 4 4 8])] [] (Cg.bo Tryz.f52.body)
def o52:List RR:=[.tmp 2]
theorem k52:CK Tryz.prog 52 40 r52 o52:=ck Tryz.func52 Tryz.ntmps52 xH
end Go.Proofs.YtmlohboeoeoamaaGreatDoor.Rc

namespace Go.Proofs.YtmlohboeoeoamaaGreatDoor.Ew
open Go Am Rc Cl Bt

theorem Qjy {P:Program}{f:Fr}{m:Qk}{ds:List DF}{K:St->Prop}{its:List Am.Item}{d:Nat}{sz bytes el:Nat}{s r:RA}{site g n:Nat}{fr:Nat->Ob}{xs ys:List AV}(hs:s.ev f=.vec 0 site g 0 n false)(hl:fr site=.vec g sz xs)(ht:Zk site el=true)(hn:n=xs.length)(hr:Q1 (fr :: m) (r.ev f)=some ys)(hz:ys.all (fun e=>e.cells.length==sz)=true)(hm:n+ys.length<=maxLen)(hb:(n+ys.length)*bytes<=140737488355328)
  (h:QD P its ⟨QJ f d (.vec 0 site (g+1) 0 (n+ys.length) false),QJ fr site (.vec (g+1) sz (xs++ys)) :: m,ds⟩ K):QD P (⟨some d,.app sz bytes el s r,none⟩ :: its) ⟨f,fr :: m,ds⟩ K:=by
 refine⟨0,site,g,n,xs,ys,hs,hl,ht,xw,hr,hz,hm,hb,?_⟩;subst hn;rw[Qm5];exact h

theorem Qjz {P:Program}{f:Fr}{m:Qk}{ds:List DF}{K:St->Prop}{its:List Am.Item}{d:Nat}{neg:Bool}{r:RA}{l s g o n:Nat}{q:Bool}{ys:List AV}(hv:r.ev f=.vec l s g o n q)(hr:Q1 m (.vec l s g o n q)=some ys)(h0:QP ys≠[])(h:QD P its ⟨QJ f d (.bool neg),m,ds⟩ K):QD P (⟨some d,.isnil neg r,none⟩ :: its) ⟨f,m,ds⟩ K :=
 ⟨ys,by show Q1 m (r.ev f)=some ys;rw[hv];exact hr,fun _=>h,fun e=>by
  rcases e with e|e
  ·have e:r.ev f=.nils:=e;rw[hv]at e;cases e
  ·exact absurd e h0⟩

theorem cv (xs:List AV)(fr:Nat->Ob)(m:Qk)(l s g:Nat)(hx:QP xs≠[])(hl:Am.Qc (fr :: m) l s=.vec g 8 xs)(h:xs.all (fun e=>e.cells.length==8)=true)(hn:xs.length<=1000000)(hr:Qn (fr 1000)=true) :
  Qe Tryz.prog 95 [.vec l s g 0 xs.length false] (fr :: m) (fun x m1=>x=.vec 0 1000 (XB (fr 1000)) 0 xs.length false/\m1=QJ fr 1000 (.vec (XB (fr 1000)) 8 xs) :: m):=by
 have hng:Qz (fr :: m) 0 1000=XB (fr 1000):=J4;have he:∀fr0:Nat->Ob,Q1 (fr0 :: fr :: m) (.vec (l+1) s g 0 xs.length false)=some xs:=by
  intro fr0;have hl':Am.Qc (fr0 :: fr :: m) (l+1) s=.vec g 8 xs:=hl;simp only[Q1,hl'];simp
 refine L0.go xA ?_;simp only[Aq,Cb,Cc,Qa,Nat.reduceBEq];refine Qjz (l:=l+1) (s:=s) (g:=g) (o:=0) (n:=xs.length) (q:=false) (ys:=xs) xx (he _) hx ?_
 ·simp only[Cd,Qa,Nat.reduceBEq];refine Z4 rfl ?_;simp only[Qa,Nat.reduceBEq];refine Qjy (site:=5) (g:=1) (xs:=[]) (ys:=xs) rfl rfl rfl rfl (he _) h jE xD ?_;simp only[Qa,Nat.reduceBEq,Nat.reduceAdd];refine Zu (l:=0) (site:=5) (g:=2) (o:=0) (n:=xs.length) (q:=false) (sz:=8) (xs:=xs) (by simp only[QlN,Qa,Nat.reduceBEq]) (by simp only[Qa,Nat.reduceBEq]) xA xy hr ?_;simp only[hng,C2,eE,Nat.reduceBEq,Nat.reduceAdd]
  try simp[AV.un,Zw,XC]

def Vq (args:List AV)(m:Qk):Option (AV×Qk) :=
 match args,m with
 | [.vec l s g 0 n false],fr :: m=>match Am.Qc (fr :: m) l s with
  |.vec g' sz xs=>bif g==g'&&sz==8&&n==xs.length && !(QP xs).isEmpty&&xs.all (fun e=>e.cells.length==8)&&Nat.ble xs.length 1000000&&Qn (fr 1000)then some (.vec 0 1000 (XB (fr 1000)) 0 xs.length false,QJ fr 1000 (.vec (XB (fr 1000)) 8 xs) :: m)else none
  |_=>none
 |_,_=>none
theorem TC {args:List AV}{m m':Qk}{v:AV}(h:Vq args m=some (v,m')):Qe Tryz.prog 95 args m fun x m1=>x=v/\m1=m':=by
 unfold Vq at h;split at h
 ·rename_i l s g n fr m;split at h
  ·rename_i g' sz xs hl;cases hb:(g==g'&&sz==8&&n==xs.length && !(QP xs).isEmpty&&xs.all (fun e=>e.cells.length==8)&&Nat.ble xs.length 1000000&&Qn (fr 1000))with
   |false=>rw[hb]at h;cases h
   |true=>
    rw[hb]at h;simp only[cond_true,QlP,QmV]at h;obtain⟨rfl,rfl⟩:=h;simp only[QlM,Qls,Qmm,List.isEmpty_eq_false_iff]at hb;obtain⟨⟨⟨⟨⟨⟨rfl,rfl⟩,rfl⟩,h4⟩,h5⟩,h6⟩,h7⟩:=hb;exact cv xs fr m l s g h4 hl h5 (QmT h6) h7
  ·cases h
 ·cases h

def LG:YG:=fun k args m=>match (if k=95 then Vq args m else none)with
 |some y=>some y
 |none=>nat k args m
theorem QcK:YB Tryz.prog LG:=by
 intro k args m v m' h;unfold LG at h;split at h
 ·rename_i y e;cases h;split at e
  ·rename_i ek;subst ek;exact TC e
  ·cases e
 ·exact nat_ok _ _ _ _ _ h

noncomputable def LH:VD:=fun k=>match k with
 |7=>some (r7,o7,59)
 |9=>some (r9,o9,69)
 |24=>some (r24,o24,86)
 |52=>some (r52,o52,40)
 |_=>Ev.tab k
theorem QcL:DP Tryz.prog LH:=by
 intro k c rs N h;unfold LH at h;split at h
 ·cases h;exact k7
 ·cases h;exact k9
 ·cases h;exact k24
 ·cases h;exact k52
 ·exact Ev.QdI _ _ _ _ h

theorem E1:evT LG LH 60000 7 []=true:=by decide +kernel

theorem Yx:Qh Tryz.prog 7 [] (.bool true):=SJ QcK QcL E1

end Go.Proofs.YtmlohboeoeoamaaGreatDoor.Ew

namespace Go.Proofs.YtmlohboeoeoamaaGreatDoor.Va
open Go Am Rc Bt Br Up So Vp Cp

theorem Py {M:Nat}(P:PL)(hP:P.ok M)(hM:M<=140737488351232):Qh Tryz.prog 5 [P.av] (.bool (decide ((P.progs.length:Int)<=8)&&decide ((P.enums.length:Int)<=8)&&ck P==0)):=by
 have e0:P.av=.agg [.list (P.progs.map Qm),.list (P.enums.map QC)]:=rfl;have ct:=z15 P hP hM;rw[e0]at ct;refine wF Tryz.func5 ?_;simp only[eK,Tryz.f5,seval];simp only[e0,Qmj,eE,seval];cases a1:decide ((P.progs.length:Int)<=8)
 ·exact zC
 cases a2:decide ((P.enums.length:Int)<=8)
 ·simp only[a2,Qm8,QmW,Qmj,eE,seval]
 simp only[a2,Qm8,Qmj,eE,seval];refine aC ct ?_;simp only[Qa,seval]

theorem w6 {M:Nat}(hM:M<=9223372036854775807)(v:V)(hv:v.ok M)(hb:v.cnt<=1048576):Qh Tryz.prog 6 [v.av] (.bool (decide ((v.cnt:Int)<=300)&&decide (IntKind.i64.wrap (v.sz:Int)<=20000))):=by
 have c1:=v16 v hv;have w0:IntKind.i64.wrap (v.cnt:Int)=(v.cnt:Int):=xE
 rw[w0]at c1;have c2:=w17 hM v hv;rw[Qd v]at c1 c2;rw[Qd v];refine wF Tryz.func6 ?_;simp only[eK,Tryz.f6,seval];simp only[eE,seval];refine aC c1 ?_;cases d:decide ((v.cnt:Int)<=300)
 ·simp only[d,QmW,Qa,seval]
 simp only[d,Qm8,eE,seval];refine aC c2 ?_;simp only[Qa,seval]

section
variable {M:Nat}(W R:PL)(hW:W.ok M)(hR:R.ok M)(h1:65536<=M)(hM:M<=140737488351232)(s:List UInt8)(v:V)(hv:v.ok M)(hb:v.cnt<=1048576)

end
end Go.Proofs.YtmlohboeoeoamaaGreatDoor.Va

namespace Go.Proofs.YtmlohboeoeoamaaGreatDoor.Va
open Go Am Rc Bt Vp Cp Up

theorem take_append (s t:List UInt8)(h:(Vp.take s).2.2=0):Vp.take (s++t)=Vp.take s :=
 BX 0 0 s t (by rw[show(JU 0 0 s).2.2=0 from h];decide)

def rd (s:List UInt8)(tx:Int):Option (R×Nat) :=
 let t:=Vp.take s
 if t.2.2≠0\/t.1 % 8=7\/t.1 / 8<1\/65535<t.1 / 8 then none
 else
  let s1:=s.drop t.2.1
  if t.1 % 8=2 then if s1.length<8 then none else some (⟨(t.1 / 8:Nat),(t.1 % 8:Nat),Uw s1,[]⟩,t.2.1+8)
  else
   let b:=Vp.take s1
   if b.2.2≠0 then none
   else if t.1 % 8=0\/t.1 % 8=1 then some (⟨(t.1 / 8:Nat),(t.1 % 8:Nat),b.1,[]⟩,t.2.1+b.2.1)
   else if (s1.drop b.2.1).length<b.1\/(if t.1 % 8=3 then tx else 65536)<(b.1:Int)then none
   else some (⟨(t.1 / 8:Nat),(t.1 % 8:Nat),0,(s1.drop b.2.1).take b.1⟩,t.2.1+b.2.1+b.1)

def Qe3 (f:R)(tx:Int):Prop:=XK f.wire=false->(f.data.length:Int)<=if f.wire=3 then tx else 65536

theorem Qe4 {f:R}{tx:Int}(hv:valid f=true)(hb:f.bits<2 ^ 64)(hd:f.data.length<2 ^ 64)(hf:Qe3 f tx)(t:List UInt8):rd (KH f++t) tx=some (f,(KH f).length):=by
 obtain⟨num,wire,bits,data⟩:=f;have hv':=hv;unfold valid at hv';simp only[QlM,Qls]at hv' hb hd;obtain⟨h1,h2⟩:=hv';have hr:¬(num<1\/65535<num\/wire<0\/6<wire):=fun h=>by
  unfold ZB at h1;rw[Qlv h]at h1;cases h1
 have htag:ZB num wire=(Vp.put (num*8+wire).toNat,0):=by unfold ZB;rw[Qlu hr]
 simp only[not_or,Int.not_lt]at hr;obtain⟨n,rfl⟩:=Qnb (show 0<=num by omega);obtain⟨w,rfl⟩:=Qnb (show 0<=wire by omega);rw[show((n:Int)*8+(w:Int)).toNat=n*8+w by omega]at htag;have hp:KH ⟨n,w,bits,data⟩=Vp.put (n*8+w)++body ⟨n,w,bits,data⟩:=by rw[KH,Qlv hv];simp only[htag]
 have htk:∀z,Vp.take (Vp.put (n*8+w)++z)=(n*8+w,(Vp.put (n*8+w)).length,0):=fun z=>H7 _ z xw
 rw[hp,QlJ];unfold rd;simp only[htk,List.drop_left'];rw[Qlu xw,show(n*8+w) % 8=w by omega,show(n*8+w) / 8=n by omega];by_cases w2:w=2
 ·subst w2;have hbo:body ⟨n,(2:Nat),bits,data⟩=fx 8 bits:=by rw[body];exact Qlv rfl
  have hda:data=[]:=by simpa [XK]using h2
  subst hda;rw[Qlv rfl,hbo,Qlu (by simp only[Ql2,W9];omega),RI bits t hb,Ql2,W9]
 ·rw[Qlu w2];by_cases w01:w=0\/w=1
  ·have hnum:XK (w:Int)=true:=by rcases w01 with h|h<;>rw[h]<;>rfl
   have hbo:body ⟨n,w,bits,data⟩=Vp.put bits:=by
    rw[body];simp only[hnum];rw[Qlu xw];simp
   have hda:data=[]:=by simpa [hnum]using h2
   subst hda;rw[hbo,H7 bits t hb];simp only[ne_eq,not_true_eq_false,if_false,w01,if_true,Ql2]
  ·have hnum:XK (w:Int)=false:=by
    have:w=3\/w=4\/w=5\/w=6:=xw
    rcases this with h|h|h|h<;>rw[h]<;>rfl
   have hbo:body ⟨n,w,bits,data⟩=Vp.put data.length++data:=by
    rw[body];simp only[hnum];rw[Qlu xw];simp
   have hbi:bits=0:=by simpa [hnum]using h2
   subst hbi;rw[hbo,QlJ,H7 data.length _ hd];have hf':=hf hnum;simp only at hf';simp only[ne_eq,not_true_eq_false,if_false,w01,List.drop_left',Ql2];rw[Qlu,List.take_left',Qlj]
   ·rfl
   ·simp only[not_or];refine⟨xw,?_⟩;split at hf'
    ·rename_i h3;rw[Qlv xw];omega
    ·rename_i h3;rw[Qlu xw];omega

theorem K4 {c:C}(hl:c.d.length<=9223372036854770000)(hs:c.sound=true)(n:Nat)(hn:(n:Int)<=c.left) :
  c.ahead n={ c with a:=c.a+n }/\(c.ahead n).sound=true/\(c.ahead n).rest=c.rest.drop n:=by
 have h:=(C.sound_iff c).1 hs;have hr:=c.rest_len;rw[Qlv hs]at hr;have hw:IntKind.i64.wrap (c.a+(n:Int))=c.a+n:=xE
 have e:c.ahead n={ c with a:=c.a+n }:=by simp only[C.ahead,hw]
 have hs':(c.ahead n).sound=true:=by
  rw[e,C.sound_iff];exact⟨by show 0<=c.a+n;omega,by show c.a+n<=c.e;omega,h.2.2⟩
 refine⟨e,hs',?_⟩;rw[C.rest_of hs',C.rest_of hs,e];simp only;rw[List.drop_take,QlT,show(c.a+(n:Int)).toNat=c.a.toNat+n by omega];congr 1
 omega

theorem E2 {c:C}(hn:1<=c.nd)(hm:c.nd<9223372036854775808):c.spend 1=({ c with nd:=c.nd-1 },0):=by
 unfold C.spend;rw[Qlu xw,Qlu xw,show IntKind.i64.wrap (c.nd-1)=c.nd-1 by rw[QA];omega]

theorem Qe5 {c:C}(h:c.nd<1):(Xv c).2.2≠0:=by
 unfold Xv;simp only;split
 ·rename_i ht;have e:(Qq c).2.2.1.nd=c.nd:=by
   unfold Qq C.varint;simp only
   repeat' split
   all_goals rfl
  have:((Qq c).2.2.1.spend 1).2=3:=by
   unfold C.spend;rw[Qlu xw,Qlv (by rw[e];omega)]
  rw[this,Qlu xy];exact(by decide:(3:Nat)≠0)
 ·rename_i ht;exact ht

theorem Qe6 {c:C}(hl:c.d.length<=9223372036854770000)(hs:c.sound=true)(hn:1<=c.nd)(hm:c.nd<9223372036854775808) :
  (∀f k,rd c.rest c.tx=some (f,k)->Xv c=(f,{ c with a:=c.a+k,nd:=c.nd-1 },0))/\(rd c.rest c.tx=none->(Xv c).2.2≠0):=by
 have hvar:c.varint=if (Vp.take c.rest).2.2=0 then((Vp.take c.rest).1,c.ahead (Vp.take c.rest).2.1,0)else(0,c,(Vp.take c.rest).2.2):=rfl
 have hb:=Hi c.rest;unfold rd;simp only;generalize Vp.take c.rest=T at hvar hb ⊢;obtain⟨u,n,e⟩:=T;simp only at hvar hb ⊢;by_cases he:e=0
 ·subst he;rw[Qlv rfl]at hvar;obtain⟨b1,b2,b3,b4⟩:=hb rfl;obtain⟨a1,a2,a3⟩:=K4 hl hs n vf;have hal:(c.ahead n).d.length<=9223372036854770000:=hl;by_cases hbad:u % 8=7\/u / 8<1\/65535<u / 8
  ·rw[Qlv xw];refine⟨fun f k h=>kq,fun _=>?_⟩;have ht:(Qq c).2.2.2≠0:=by
    unfold Qq;simp only[hvar,if_true];by_cases h7:u % 8=7
    ·rw[Qlv h7];exact(by decide:(5:Nat)≠0)
    ·rw[Qlu h7,Qlv xw];exact(by decide:(6:Nat)≠0)
   unfold Xv;simp only[ht,if_false];exact ht
  ·rw[Qlu xw];have ht:Qq c=(((u / 8:Nat):Int),((u % 8:Nat):Int),c.ahead n,0):=by
    unfold Qq;simp only[hvar,if_true];rw[Qlu xw,Qlu xw]
   have hsp:(c.ahead n).spend 1=({ c.ahead n with nd:=c.nd-1 },0):=E2 (c:=c.ahead n) hn hm;generalize hD:({ c.ahead n with nd:=c.nd-1 }:C)=D at hsp;have hDs:D.sound=true:=by rw[<-hD];exact a2
   have hDl:D.d.length<=9223372036854770000:=by rw[<-hD];exact hl
   have hDr:D.rest=c.rest.drop n:=by rw[<-hD,<-a3];rfl
   have hDe:∀k:Nat,({ D with a:=D.a+k }:C)={ c with a:=c.a+(n+k:Nat),nd:=c.nd-1,tx:=D.tx }:=by
    intro k;rw[<-hD,a1];exact zA
   have hnx:Xv c=if (Zv D ⟨(u / 8:Nat),(u % 8:Nat),0,[]⟩).2.2=0 then Zv D ⟨(u / 8:Nat),(u % 8:Nat),0,[]⟩else(zr,c,(Zv D ⟨(u / 8:Nat),(u % 8:Nat),0,[]⟩).2.2):=by
    unfold Xv;simp only[ht,hsp,if_true]
   have htx:D.tx=c.tx:=by rw[<-hD];rfl
   rw[hnx,<-hDr,<-htx];by_cases h2:u % 8=2
   ·rw[Qlv h2];have hc:Zv D ⟨(u / 8:Nat),(u % 8:Nat),0,[]⟩=(⟨(u / 8:Nat),(u % 8:Nat),D.fixed.1,[]⟩,D.fixed.2.1,D.fixed.2.2):=by
     unfold Zv;rw[Qlv qS]
    rw[hc];unfold C.fixed;by_cases h8:D.rest.length<8
    ·simp only[h8,if_true];exact yF
    ·simp only[h8,if_false,if_true];refine⟨fun f k h=>?_,fun h=>kq⟩;simp only[QlP,QmV]at h;obtain⟨rfl,rfl⟩:=h;have e8:D.ahead 8={ D with a:=D.a+((8:Nat):Int) }:=(K4 hDl hDs 8 vf).1;rw[e8,hDe 8]
   ·rw[Qlu h2];have hbv:=Hi D.rest;have hDv:D.varint=if (Vp.take D.rest).2.2=0 then((Vp.take D.rest).1,D.ahead (Vp.take D.rest).2.1,0)else(0,D,(Vp.take D.rest).2.2):=rfl
    generalize Vp.take D.rest=B at hDv hbv ⊢;obtain⟨v,m,e⟩:=B;simp only at hDv hbv ⊢;have hcd:¬(u % 8=0\/u % 8=1)->Zv D ⟨(u / 8:Nat),(u % 8:Nat),0,[]⟩=(⟨(u / 8:Nat),(u % 8:Nat),0,(Kk D (u % 8:Nat)).1⟩,(Kk D (u % 8:Nat)).2.1,(Kk D (u % 8:Nat)).2.2):=by
     intro h;unfold Zv;rw[Qlu qS,Qlu qS]
    have hcn:(u % 8=0\/u % 8=1)->Zv D ⟨(u / 8:Nat),(u % 8:Nat),0,[]⟩=(⟨(u / 8:Nat),(u % 8:Nat),D.varint.1,[]⟩,D.varint.2.1,D.varint.2.2):=by
     intro h;unfold Zv;rw[Qlu qS,Qlv qS]
    by_cases he:e=0
    ·subst he;rw[Qlv rfl]at hDv;obtain⟨c1,c2,c3,c4⟩:=hbv rfl;obtain⟨d1,d2,d3⟩:=K4 hDl hDs m vf;rw[Qlu xA];by_cases h01:u % 8=0\/u % 8=1
     ·rw[Qlv h01,hcn h01,hDv];simp only[if_true];refine⟨fun f k h=>?_,fun h=>kq⟩;simp only[QlP,QmV]at h;obtain⟨rfl,rfl⟩:=h;rw[d1,hDe m]
     ·rw[Qlu h01,hcd h01];have hdt:Kk D ((u % 8:Nat):Int)=if (D.ahead m).left<(v:Int)then([],D,4)else if (if u % 8=3 then D.tx else 65536)<(v:Int)then([],D,3)else(((D.ahead m).d.drop (D.ahead m).a.toNat).take v,(D.ahead m).ahead v,0):=by
       unfold Kk;simp only[hDv,if_true];have:(if ((u % 8:Nat):Int)=3 then D.tx else 65536)=if u % 8=3 then D.tx else 65536:=by
        by_cases h:u % 8=3
        ·rw[Qlv h,Qlv xw]
        ·rw[Qlu h,Qlu xw]
       rw[this]
      have hlf:(D.ahead m).left=((D.rest.drop m).length:Int):=by unfold C.left;rw[d3]
      rw[hdt,hlf];by_cases hq:(D.rest.drop m).length<v
      ·rw[Qlv (.inl hq),Qlv (show((D.rest.drop m).length:Int)<(v:Int)by omega)];exact yF
      ·rw[Qlu (show ¬((D.rest.drop m).length:Int)<(v:Int)by omega)];by_cases hr:(if u % 8=3 then D.tx else 65536)<(v:Int)
       ·rw[Qlv (.inr hr),Qlv hr];exact yF
       ·rw[Qlu (by simp only[not_or];exact⟨hq,hr⟩),Qlu hr];simp only[if_true];refine⟨fun f k h=>?_,fun h=>kq⟩;simp only[QlP,QmV]at h;obtain⟨rfl,rfl⟩:=h;have hal2:=K4 (c:=D.ahead m) hDl d2 v (by rw[hlf];omega);have hrd:((D.ahead m).d.drop (D.ahead m).a.toNat).take v=(D.rest.drop m).take v:=by
         rw[<-d3,C.rest_of d2,QmF,QmG];have h1:=(C.sound_iff _).1 d2;have h2:=(D.ahead m).rest_len;rw[Qlv d2,hlf]at h2;omega
        rw[hrd,hal2.1];have:({ D.ahead m with a:=(D.ahead m).a+v }:C)={ D with a:=D.a+(m+v:Nat) }:=by
         rw[d1];exact zA
        rw[this,hDe (m+v),Qlj]
    ·rw[Qlu he]at hDv;rw[Qlv (by simpa using he)];refine⟨fun f k h=>kq,fun _=>?_⟩;by_cases h01:u % 8=0\/u % 8=1
     ·rw[hcn h01,hDv];simp only[he,if_false];exact he
     ·rw[hcd h01];have hdt:Kk D ((u % 8:Nat):Int)=([],D,e):=by
       unfold Kk;simp only[hDv,he,if_false]
      rw[hdt];simp only[he,if_false];exact he
 ·rw[Qlu he]at hvar;rw[Qlv (.inl he)];refine⟨fun f k h=>kq,fun _=>?_⟩;have ht:Qq c=(0,0,c,e):=by
   unfold Qq;simp only[hvar,he,if_false]
  unfold Xv;simp only[ht,he,if_false];exact he

theorem E3 (s:List UInt8)(x y z:Int):(⟨s,0,s.length,x,y,z⟩:C).sound=true/\(⟨s,0,s.length,x,y,z⟩:C).rest=s:=by
 have hs:(⟨s,0,s.length,x,y,z⟩:C).sound=true:=(C.sound_iff _).2 ⟨QmP _,xA,QmP _⟩;refine⟨hs,?_⟩;rw[C.rest_of hs];simp

open Br So

def Gf (f:R):Prop:=valid f=true/\f.bits<18446744073709551616/\f.data.length<18446744073709551616

theorem LI {P:PL}{k tg:Int}{v:V}(h:v.one P k tg=0):v.kd=k/\1<=k/\k<=9/\v.list=[]/\v.pairs=[]/\v.slots=[]/\v.raws=[]/\(if k=7\/k=8 then v.bits=0 else v.text=[]):=by
 obtain⟨h1,h2,h3⟩:=Ux h;have hk:=Mw h3;unfold isk at hk;simp only[QlM,Qlr]at hk;unfold V.oth oth at h2;simp only[Qmh,Qnv,bne_eq_false_iff_eq,Qns,Qmj]at h2;obtain⟨⟨⟨⟨a1,a2⟩,a3⟩,_⟩,_⟩:=h2;have b1:v.list.length=0:=by rcases a1 with a|a<;>omega
 have b2:v.pairs.length=0:=by rcases a2 with a|a<;>omega
 have b3:v.slots.length+v.raws.length=0:=by rcases a3 with a|a<;>omega
 refine⟨h1,hk.1,hk.2,QnA.1 b1,QnA.1 b2,QnA.1 xw,QnA.1 xw,?_⟩;unfold X8 at h3;simp only[QlM]at h3;have h4:=h3.1.1.1.2;rw[h1]at h4;unfold Zp at h4;by_cases c:k=7\/k=8
 ·rw[Qlv c];rw[Qlv (by rcases c with c|c<;>simp[c])]at h4
  simpa using h4
 ·rw[Qlu c];simp only[not_or]at c;rw[Qlu (by simp[c.1,c.2])]at h4
  simpa using h4

def ZX (c:C)(n k:Nat):C:={ c with a:=c.a+n,nd:=c.nd-k }
theorem QcM (c:C)(n k n' k':Nat):ZX (ZX c n k) n' k'=ZX c (n+n') (k+k'):=by
 unfold ZX;exact zA
structure CT (c:C):Prop where
 ci:CI c
 tx:0<=c.tx
theorem X0 {c:C}:c.left=(c.rest.length:Int):=rfl
theorem NB {c:C}(hc:CT c){n k:Nat}(hn:n<=c.rest.length)(hk:(k:Int)<=c.nd):CT (ZX c n k):=by
 have h1:=hc.ci.pos;have h2:=hc.ci.lf;have h3:=hc.ci.nd;rw[X0]at h2;exact⟨Ci hc.ci.len (by unfold ZX;dsimp only;omega) (by unfold ZX;dsimp only;omega) hc.ci.dp,hc.tx⟩
theorem Pz {c:C}(hc:CT c){n:Nat}(k:Nat)(hn:n<=c.rest.length):(ZX c n k).rest=c.rest.drop n:=by
 obtain⟨e,_,h⟩:=K4 hc.ci.big hc.ci.snd n (by rw[X0];omega);rw[<-h,e];rfl
theorem HI {c:C}(hc:CT c){s t:List UInt8}(h:c.rest=s++t)(k:Nat):(ZX c s.length k).rest=t:=by
 rw[Pz hc k (by rw[h,Ql2];omega),h];exact List.drop_left' rfl
theorem Ye {c:C}{s t:List UInt8}(h:c.rest=s++t):s.length<=c.rest.length:=by
 rw[h,Ql2];omega

def FD {α:Type}(r:Rd α)(c:C)(n k l d:Nat)(x:α):Prop :=
 (r=.ok (x,ZX c n k)/\(k:Int)<=c.nd/\(l:Int)<=c.tx/\(d:Int)<=c.dp)\/
 (r=.error 3/\(c.nd<k\/c.tx<l))\/(r=.error 17/\c.dp<d)

theorem FD.ok {α:Type}{r:Rd α}{c:C}{x:α}{n:Nat}(hc:CT c)(h:r=.ok (x,ZX c n 0)):FD r c n 0 0 0 x:=by
 have:=hc.ci.nd;have:=hc.ci.dp;have:=hc.tx;exact .inl ⟨h,xw,xw,xw⟩
theorem FD.seq {α β:Type}{r:Rd α}{R:Rd β}{c:C}{n k l d n' k' l' d':Nat}{x:α}{y:β}(h:FD r c n k l d x)(he:∀e,r=.error e->R=.error e)
  (ho:r=.ok (x,ZX c n k)->(k:Int)<=c.nd->FD R (ZX c n k) n' k' l' d' y):FD R c (n+n') (k+k') (max l l') (max d d') y:=by
 rcases h with⟨h,h1,h2,h3⟩|⟨h,h1⟩|⟨h,h1⟩
 ·rcases ho h h1 with⟨g,g1,g2,g3⟩|⟨g,g1⟩|⟨g,g1⟩
  ·refine .inl ⟨by rw[g,QcM],?_,?_,?_⟩<;>unfold ZX at g1 g2 g3<;>dsimp only at g1 g2 g3<;>omega
  ·refine .inr (.inl ⟨g,?_⟩);unfold ZX at g1;dsimp only at g1;omega
  ·refine .inr (.inr ⟨g,?_⟩);unfold ZX at g1;dsimp only at g1;omega
 ·exact .inr (.inl ⟨he _ h,xw⟩)
 ·exact .inr (.inr ⟨he _ h,xw⟩)
theorem FD.spd {β:Type}{R:Rd β}{c:C}(hc:CT c)(k:Nat){n' k' l' d':Nat}{y:β}(he:∀e,spd c k=.error e->R=.error e)
  (ho:spd c k=.ok (ZX c 0 k)->(k:Int)<=c.nd->FD R (ZX c 0 k) n' k' l' d' y):FD R c n' (k+k') l' d' y:=by
 have hnd:=hc.ci.nd;by_cases hk:(k:Int)<=c.nd
 ·have hs:Va.spd c k=.ok (ZX c 0 k):=by
   have w:IntKind.i64.wrap (c.nd-(k:Int))=c.nd-k:=xE
   have e:c.spend k=({ c with nd:=c.nd-k },0):=by
    unfold C.spend;rw[Qlu xw,Qlu xw,w]
   unfold Va.spd;rw[e];simp[ZX]
  have:=FD.seq (r:=(Except.ok ((),ZX c 0 k):Rd Unit)) (R:=R) (c:=c) (n:=0) (k:=k) (l:=0) (d:=0) (.inl ⟨rfl,hk,by have:=hc.tx;omega,by have:=hc.ci.dp;omega⟩) (fun e h=>kq) (fun _ _=>ho hs hk)
  simpa using this
 ·have hs:Va.spd c k=.error 3:=by
   have e:c.spend k=(c,3):=by
    unfold C.spend;rw[Qlu xw,Qlv xw]
   unfold Va.spd;rw[e];rfl
  exact .inr (.inl ⟨he _ hs,xw⟩)
theorem PA {c:C}(hc:CT c){u:Nat}(hu:u<18446744073709551616){t:List UInt8}(h:c.rest=Vp.put u++t):c.varint=(u,ZX c (Vp.put u).length 0,0):=by
 have h1:=H7 u t hu;obtain⟨e,_,_⟩:=K4 hc.ci.big hc.ci.snd (Vp.put u).length (by rw[X0];have:=Ye h;omega);rw[<-h]at h1;show(if (Vp.take c.rest).2.2=0 then((Vp.take c.rest).1,c.ahead (Vp.take c.rest).2.1,0)else(0,c,(Vp.take c.rest).2.2))=_;rw[h1];simp[e,ZX]
theorem Qe7 {c:C}(hc:CT c){u:Nat}(hu:u<18446744073709551616){t:List UInt8}(h:c.rest=fx 8 u++t):c.fixed=(u,ZX c 8 0,0):=by
 have h1:=RI u t hu;have hl:=Ye h;rw[W9]at hl;obtain⟨e,_,_⟩:=K4 hc.ci.big hc.ci.snd 8 (by rw[X0];omega);rw[<-h]at h1;unfold C.fixed;rw[Qlu xw,h1];have e':c.ahead 8={ c with a:=c.a+(8:Nat) }:=e;simp[e',ZX]
theorem Qe8 {c:C}(hc:CT c){n w:Nat}(hn:1<=n/\n<=65535)(hw:w<=6){t:List UInt8}(h:c.rest=Vp.put (n*8+w)++t):Qq c=((n:Int),(w:Int),ZX c (Vp.put (n*8+w)).length 0,0):=by
 have h1:=PA hc xw h;unfold Qq;simp only[h1,if_true];rw[Qlu xw,Qlu xw,show(n*8+w) / 8=n by omega,show(n*8+w) % 8=w by omega]
theorem E4 {c:C}(hc:CT c){s t:List UInt8}(h:c.rest=Vp.put s.length++(s++t)):ZU c=.ok (s.length,ZX c (Vp.put s.length).length 0):=by
 have hl:=hc.ci.bd;have hp:s.length<=c.rest.length:=by rw[h,Ql2,Ql2];omega
 rw[X0]at hl;have h1:=PA hc xw h;have h2:=HI hc h 0;unfold ZU;simp only[h1,if_true];rw[Qlu (by rw[X0,h2,Ql2];omega)]

def JK (g:PG)(f:R):Bool:=(Q7 g f.num).isNone
theorem Qe9 {g:PG}{o:PO}{f:R}(ho:Q7 g o.num=some o)(h:f.num=o.num):JK g f=false:=by
 unfold JK;rw[h,ho];rfl
theorem PB {c d:C}{n:Int}(h:spd c n=.ok d):d.rest=c.rest/\d.left=c.left/\d.tx=c.tx:=by
 unfold spd at h;split at h
 ·rename_i h0;cases h;unfold C.spend at h0 ⊢;split at h0
  ·cases h0
  ·rename_i h1;rw[Qlu h1];split at h0
   ·cases h0
   ·rename_i h2;rw[Qlu h2];exact⟨rfl,rfl,rfl⟩
 ·cases h
theorem WC {c:C}(hc:CT c){n:Nat}(k:Nat)(hn:n<=c.rest.length):(ZX c n k).left=c.left-n:=by
 rw[X0,X0,Pz hc k hn,Ql5];omega

theorem Qfa {c c1:C}{q:Nat}(hc:CT c){s t:List UInt8}(h:c.rest=Vp.put s.length++(s++t))(hl:ZU c=.ok (q,c1)):q=s.length/\c1.left=c.left-(Vp.put s.length).length/\CT c1/\c1.rest=s++t:=by
 have hp:=Ye h;rw[E4 hc h]at hl;cases hl;exact⟨rfl,WC hc 0 hp,NB hc hp hc.ci.nd.1,HI hc h 0⟩

theorem Qfb {c d:C}{f x:R}(hc:CT c)(hw:f.wire<=3)(hw0:0<=f.wire)(hb:f.bits<18446744073709551616){t:List UInt8}(hr:c.rest=body f++t)(h:Ka f.wire c=.ok (x,d)):d.left+(body f).length=c.left:=by
 unfold body at hr ⊢;unfold Ka at h;by_cases h3:f.wire=3
 ·have hn:XK f.wire=false:=by rw[h3];rfl
  rw[Qlv h3]at h;rw[Qlu xw,hn,Qlu xy]at hr ⊢;rw[QlJ]at hr;rw[E4 hc hr]at h;dsimp only at h;have hp:=Ye hr;have h1:=NB hc hp hc.ci.nd.1;have h2:=WC hc 0 hp;have h4:=HI hc hr 0;generalize ZX c (Vp.put f.data.length).length 0=c1 at h h1 h2 h4;split at h
  ·rename_i ht;cases h;have hl:(f.data.length:Int)<=c1.left:=by rw[X0,h4,Ql2];omega
   have htx:¬c1.tx<(f.data.length:Int):=by
    intro hlt;unfold text at ht;rw[Qlu xw,Qlu xw,Qlv hlt]at ht;cases ht
   obtain⟨_,_,a3⟩:=K4 h1.ci.big h1.ci.snd f.data.length hl;unfold text;rw[Qlu xw,Qlu xw,Qlu htx];show(c1.ahead (f.data.length:Int)).left+_=_;rw[X0,a3,Ql2,h4,List.drop_left' rfl];rw[X0,h4,Ql2]at h2;omega
  ·cases h
 ·rw[Qlu h3]at h;by_cases h2:f.wire=2
  ·rw[Qlv h2]at h;rw[Qlv h2]at hr ⊢;rw[Qe7 hc hb hr]at h;rw[Qlv rfl]at h;cases h;have hp:=Ye hr;rw[W9]at hp ⊢;have:=WC hc 0 hp;dsimp only;omega
  ·have hn:XK f.wire=true:=by
    unfold XK;have:f.wire=0\/f.wire=1:=xw
    rcases this with e|e<;>rw[e]<;>rfl
   rw[Qlu h2]at h;rw[Qlu h2,Qlv hn]at hr ⊢;rw[PA hc hb hr]at h;rw[Qlv rfl]at h;cases h;have:=WC hc 0 (Ye hr);dsimp only;omega

theorem PC {f:R}(h:3<=f.wire):body f=Vp.put f.data.length++f.data:=by
 unfold body;have hn:XK f.wire=false:=by
  unfold XK;simp only[Qmh,Qne];omega
 rw[Qlu xw,hn,Qlu xy]

section
variable {P:PL}{M K n:Nat}(hM:65536<=M)(hK:K<=1000000){g:PG}{o:PO}(ho:OpK P g o)
include ho in
theorem V1 {v w:V}{c d:C}(h:Kz P g v o c=.ok (w,d)):w.raws.filter (JK g)=v.raws.filter (JK g):=by
 unfold Kz at h;split at h
 ·cases h
 split at h
 ·cases h
 split at h
 ·cases h;show(v.raws++[_]).filter (JK g)=_;rw[Qm2,QnH (by rw[Qe9 ho.self rfl];decide),List.filter_nil,Qms]
 split at h
 ·split at h
  ·split at h
   ·cases h;rfl
   ·split at h
    ·cases h
    ·cases h;rfl
  ·cases h;rfl
 ·cases h
include ho in
theorem Gw:∀(k:Nat) {v w:V} {c d:C},Ki P g o k v c=.ok (w,d)->w.raws.filter (JK g)=v.raws.filter (JK g)
 |0,v,w,c,d,h=>by cases h;rfl
 |k+1,v,w,c,d,h=>by
  rw[Ki]at h;split at h
  ·split at h
   ·cases h
   rename_i v1 c1 h1;rw[Gw k h,V1 ho h1]
  ·cases h;rfl
theorem QcN {v w:V}{c d:C}{f:R}(hc:CT c)(hw:f.wire=wk o.kind)(h3:f.wire<=3)(h0:0<=f.wire)(hb:f.bits<18446744073709551616){t:List UInt8}(hr:c.rest=body f++t)(h:Kz P g v o c=.ok (w,d)):d.left+(body f).length=c.left:=by
 unfold Kz at h;split at h
 ·cases h
 rename_i c1 h1;obtain⟨s1,s2,s3⟩:=PB h1;have hc1:CT c1:=⟨(Zm hc.ci xw h1).1.ci hc.ci,by rw[s3];exact hc.tx⟩;split at h
 ·cases h
 rename_i x d1 h2;rw[<-hw]at h2;have hd:=Qfb hc1 h3 h0 hb (by rw[s1];exact hr) h2;rw[s2]at hd;split at h
 ·cases h;exact hd
 split at h
 ·split at h
  ·split at h
   ·cases h;exact hd
   ·split at h
    ·cases h
    ·rename_i d2 h6;cases h;rw[(PB h6).2.1];exact hd
  ·cases h;exact hd
 ·cases h

variable {rec:Int->V->C->Rd V}(hrec:Wb P M K n rec)
include hrec in
theorem PD {t:Int}(ht:0<=t/\t<(P.progs.length:Int)){b w:V}{k:Int}(hk0:0<=k){c d:C}(hc:CI c)(hcn:c.left<=n)(hv:1<=n->MW P n (Qg P t) b)(hk:b.ok M)(hb:(b.cnt:Int)+3*c.left<=K)(h:WK rec t b k c=.ok (w,d)) :
  ∃q c1,ZU c=.ok (q,c1)/\d.left=c1.left-(q:Int):=by
 unfold WK at h;split at h
 ·cases h
 rename_i q c1 h1;obtain⟨a1,a2⟩:=Kn hc h1;have hc1:=a1.ci hc;have hl1:=a1.lt hc;have hc1b:=hc1.bd;split at h
 ·rename_i he;obtain⟨e1,e2,e3⟩:=Gq hc1 a2 he;split at h
  ·cases h
  rename_i i h2;obtain⟨s1,s2⟩:=Zm e2 hk0 h2;have hls:=(s1.left e2).2.2;split at h
  ·cases h
  rename_i x j h3;cases h;have hi:=s1.ci e2;have hib:=hi.bd;obtain⟨r1,_⟩:=hrec t b i hi xw ht (hv xw) hk xw _ _ h3;have hje:i.e=c1.a+q/\i.nd<=c1.nd:=by
   obtain⟨_,f2,_⟩:=s1.eqs;have f3:=s1.nd;rw[e1]at f2 f3;exact⟨f2,f3.2⟩
  exact⟨q,c1,h1,(F5 hc1 a2 hje r1).2⟩
 ·cases h

include ho hrec in
theorem LJ {v w:V}{c d:C}(hc:CI c)(hcn:c.left<=n)(hv:MW P (n+1) g v)(hk:v.ok M)(hb:(v.cnt:Int)+3*c.left<=K)(h5:o.card≠5)(h10:o.kind=10)(h:KJ rec g v o c=.ok (w,d))(hpos:(1:Int)+3*c.left<=K) :
  (∃q c1,ZU c=.ok (q,c1)/\d.left=c1.left-(q:Int))/\w.raws=v.raws:=by
 have ht:=ho.uo.tgt h10;have hem:(QN 10 0 []:V).ok M:=Zc rfl xy (Qlx _);unfold KJ at h;split at h
 ·split at h
  ·cases h
  rename_i x c1 h1;cases h;exact⟨PD hrec ht vj hc hcn (fun hn=>XZ hn) hem jS h1,rfl⟩
 ·rename_i h4;split at h
  ·cases h
  rename_i x c1 h1;cases h;refine⟨?_,rfl⟩;cases hf:XY v o.num with
  |none=>
   rw[hf,Qlu xA]at h1;exact PD hrec ht xw hc hcn (fun hn=>XZ hn) hem jS h1
  |some z=>
   rw[hf,Qlv (show(some z).isSome=true from rfl),(Xz hf).2]at h1;have hz:=ZZ (Xz hf).1;dsimp only at hz;have h2:=HG hv ho.self hf;unfold FW at h2;rw[Qlu h4,Qlu h5]at h2;exact PD hrec ht xw hc hcn (fun _=>h2 h10) (hk.slots _ (Xz hf).1) xw h1

include hM hK ho in
theorem LK {v w:V}{c d:C}(hc:CI c)(hv:MW P (n+1) g v)(hk:v.ok M)(hb:(v.cnt:Int)+3*c.left<=K)(hp:pk o.card o.kind=true)(h:Wq P g v o c=.ok (w,d)) :
  (∃q c1,ZU c=.ok (q,c1)/\d.left=c1.left-(q:Int))/\w.raws.filter (JK g)=v.raws.filter (JK g):=by
 have ls:=XP v;have hcb:=hc.bd;have h4:o.card=4:=by
  unfold pk at hp;simp only[QlM,Qls]at hp;exact hp.1
 have hk10:o.kind≠10:=by
  unfold pk at hp;simp only[QlM,Qlq,Qls,Qlr]at hp;omega
 unfold Wq at h;split at h
 ·cases h
 rename_i q c1 h1;obtain⟨a1,a2⟩:=Kn hc h1;have hc1:=a1.ci hc;obtain⟨_,p2,p3⟩:=Jr hc1 a2;have hl1:=a1.lt hc;have hc1b:=hc1.bd;split at h
 ·rename_i hy;obtain⟨y1,_⟩:=D6 p2 hy;have hly:=y1.lt p2;split at h
  ·split at h
   ·obtain⟨_,b2,_⟩:=Ha hM hK ho hc1 a2 y1.1 hv hk xw xw h;refine⟨⟨q,c1,h1,b2⟩,?_⟩;unfold Jz at h;split at h
    ·cases h
    rename_i h7;cases h;exact Gw ho _ h7
   ·split at h
    ·cases h
    rename_i i h2;obtain⟨s1,_⟩:=Zm (y1.ci p2) xw h2;have hls:=(s1.left (y1.ci p2)).2.2;have hfw:FW (MW P n) P o (XG []):=by
     unfold FW;rw[Qlv h4];exact fun y hy=>(nomatch hy)
    have e1:=K2 g v o (XG []);rw[WB]at e1;simp only[Q9]at e1;obtain⟨_,b2,_⟩:=Ha hM hK ho hc1 a2 (y1.1.trans s1 p2) (Kv hv ho.self hfw) (Ku hk ho.wf (Uk (fun y hy=>(nomatch hy)) (Qlx _)) xw) xw xw h;refine⟨⟨q,c1,h1,b2⟩,?_⟩;unfold Jz at h;split at h
    ·cases h
    rename_i h7;cases h;exact Gw (v:=Zl g v o (XG [])) ho _ h7
  ·cases h
 ·cases h

include hM ho hrec in
theorem E5 (h5:o.card=5)(hkd:(Lit.int .i64 o.kind).wf=true){v w:V}{c d:C}(hc:CI c)(hcn:c.left<=n)(hb:(v.cnt:Int)+3*c.left+3<=K)(h:JZ P rec g v o c=.ok (w,d)) :
  (∃q c1,ZU c=.ok (q,c1)/\d.left=c1.left-(q:Int))/\w.raws=v.raws:=by
 have hky:=ho.uo.key h5;unfold JZ at h;split at h
 ·cases h
 rename_i q c1 h1;obtain⟨a1,a2⟩:=Kn hc h1;have hc1:=a1.ci hc;have hl1:=a1.lt hc;have hc1b:=hc1.bd;obtain⟨_,p2,p3⟩:=Jr hc1 a2;split at h
 ·cases h
 rename_i i h2;obtain⟨s1,_⟩:=Zm p2 vj h2;have hls:=(s1.left p2).2.2;split at h
 ·cases h
 rename_i x j h3;cases h;have hx0:XI P M n o (QN o.key 0 [],QN o.kind 0 []):=by
  exact z9
 obtain⟨r1,_⟩:=Ul hM ho hrec h5 _ (s1.ci p2) xw xw hx0 h3;exact⟨⟨q,c1,h1,(U8 hc1 a2 (s1.trans r1 p2)).2⟩,rfl⟩

include hM hK ho hrec in
theorem E6 (hkd:(Lit.int .i64 o.kind).wf=true){v w:V}{c d:C}{f:R}(hct:CT c)(hcn:c.left<=n)(hv:MW P (n+1) g v)(hk:v.ok M)(hb:(v.cnt:Int)+3*c.left+3<=K)(hw0:0<=f.wire)(hfb:f.bits<18446744073709551616){t:List UInt8}(hr:c.rest=body f++t)(h:Jh P rec g v o f.wire c=.ok (w,d)) :
  d.left+(body f).length=c.left/\w.raws.filter (JK g)=v.raws.filter (JK g):=by
 have hc:=hct.ci;have hcv:=X9 v;have hlen:3<=f.wire->(∃q c1,ZU c=.ok (q,c1)/\d.left=c1.left-(q:Int))->d.left+(body f).length=c.left:=by
  rintro h3 ⟨q,c1,h1,h2⟩;rw[PC h3]at hr ⊢;rw[QlJ]at hr;obtain⟨e1,e2,_⟩:=Qfa hct hr h1;rw[Ql2];subst e1;omega
 unfold Jh at h;split at h
 ·rename_i h5;split at h
  ·rename_i hw;obtain⟨a,b⟩:=E5 hM ho hrec h5 hkd hc hcn hb h;exact⟨hlen xw a,by rw[b]⟩
  ·cases h
 ·rename_i h5;split at h
  ·rename_i hp;obtain⟨a,b⟩:=LK hM hK ho hc hv hk xw hp.2 h;exact⟨hlen xw a,b⟩
  ·split at h
   ·rename_i hw;split at h
    ·rename_i h10;obtain⟨a,b⟩:=LJ ho hrec hc hcn hv hk xw h5 h10 h xw;have h4:f.wire=4:=by rw[hw,h10];rfl
     exact⟨hlen xw a,by rw[b]⟩
    ·rename_i h10;have h3:f.wire<=3:=by
      rw[hw]at hw0 ⊢;unfold wk at hw0 ⊢
      repeat' split
      all_goals omega
     exact⟨QcN hct hw h3 hw0 hfb hr h,V1 ho h⟩
   ·cases h
end

theorem QcO {f:R}(hf:Gf f):∃n w:Nat,f.num=n/\f.wire=w/\(1<=n/\n<=65535)/\w<=6/\KH f=Vp.put (n*8+w)++body f:=by
 have hv:=hf.1;have hv':=hv;unfold valid ZB at hv';by_cases h:f.num<1\/65535<f.num\/f.wire<0\/6<f.wire
 ·rw[Qlv h]at hv';cases hv'
 ·refine⟨f.num.toNat,f.wire.toNat,xw,xw,xw,xw,?_⟩;unfold KH ZB;rw[Qlv hv,Qlu h];dsimp only;rw[show(f.num*8+f.wire).toNat=f.num.toNat*8+f.wire.toNat by omega]

theorem DD {P:PL}{M K n:Nat}(hM:65536<=M)(hK:K<=1000000)(hP:P.ok M)(hU:JX P)(hr:Zo P){rec:Int->V->C->Rd V}(hrec:Wb P M K n rec){t:Int}(ht:0<=t/\t<(P.progs.length:Int)):∀(L:List R) (k:Nat) (v:V) (c:C),CT c->65536<=c.tx->c.left<=n->c.left<=k->MW P (n+1) (Qg P t) v->v.ok M->(v.cnt:Int)+3*c.left<=K->c.rest=QT L->(∀f∈L,Gf f)->
  ∀w d,ZW P rec t k v c=.ok (w,d)->w.raws.filter (JK (Qg P t))=v.raws.filter (JK (Qg P t))++L.filter (JK (Qg P t))
 | [],k,v,c,hc,_,_,_,_,_,_,hrest,_,w,d,h=>by
  have h0:c.left=0:=by rw[X0,hrest];rfl
  cases k with
  |zero=>cases h;simp
  |succ k=>
   rw[ZW,Qlu xw]at h;cases h;simp
 |f :: L,k,v,c,hc,htx,hn,hk,hv,hok,hb,hrest,hg,w,d,h=>by
  have hf:=hg f xA;obtain⟨tn,tw,a1,a2,a3,a4,a5⟩:=QcO hf;have e:QT (f :: L)=KH f++QT L:=by unfold QT;rw[QmU]
  rw[e]at hrest;have hr2:=hrest;rw[a5,QlJ]at hr2;have hpl:=Ye hrest;have hpp:0<(KH f).length:=by
   rw[a5,Ql2];have:=(Vp.put_len (tn*8+tw)).1;omega
  have hlf:0<c.left:=by rw[X0];omega
  have hcb:=hc.ci.bd;have lr:=JI v;obtain⟨j,rfl⟩:∃j,k=j+1:=⟨k-1,xw⟩;have htag:=Qe8 hc a3 a4 hr2;rw[ZW,Qlv hlf,htag]at h;dsimp only at h;rw[Qlv rfl,<-a1]at h;have hln:=X0 (c:=c);rw[hrest,Ql2]at hln;cases ho:Q7 (Qg P t) f.num with
  |none=>
   rw[ho]at h;dsimp only at h;split at h
   ·rename_i h0;have hnd:1<=c.nd:=by
     apply Classical.byContradiction
     intro hlt;exact Qe5 xw h0
    have hfit:Qe3 f c.tx:=by
     intro hnum;have hbl:(body f).length<=(KH f).length:=by rw[a5,Ql2];omega
     have h3:3<=f.wire:=by
      unfold XK at hnum;simp only[Qmh,Qne]at hnum;omega
     rw[PC h3,Ql2]at hbl;split<;>omega
    have hrd:=Qe4 hf.1 hf.2.1 hf.2.2 hfit (QT L);rw[<-hrest]at hrd;have hnx:=(Qe6 hc.ci.big hc.ci.snd hnd hc.ci.nd.2).1 f _ hrd;have hx:=Nt hc.ci h0;rw[hnx]at h hx;dsimp only at h hx;obtain⟨b1,_,b2,b3,b4,b5,b6,b7⟩:=hx;have hc2:=NB (k:=1) hc hpl xw;have hrr:=HI hc hrest 1;have hal:=WC hc 1 hpl;have ed:({ c with a:=c.a+((KH f).length:Nat),nd:=c.nd-1 }:C)=ZX c (KH f).length 1:=rfl;rw[ed]at h;have hrw:f.ok M:=⟨JJ xw xw,JJ xw xw,jy,xw⟩;have ea:=D7 v f;have ih:=DD hM hK hP hU hr hrec ht L j _ _ hc2 htx xw xw (Nv hv) (Nu hok hrw xw) xw hrr (fun g hg'=>hg g (by simp[hg'])) w d h;rw[ih];show(v.raws++[f]).filter _++_=_;rw[Qm2,QlJ];congr 1
    simp only[Qm3,List.filter_nil];split<;>rfl
   ·cases h
  |some o=>
   rw[ho]at h;dsimp only at h;rw[<-a2]at h;have hc1:=NB (k:=0) hc (Ye hr2) (by have:=hc.ci.nd;omega);have hr1:=HI hc hr2 0;have hl1:=WC hc 0 (Ye hr2);have htx1:65536<=(ZX c (Vp.put (tn*8+tw)).length 0).tx:=htx;have hpt:0<(Vp.put (tn*8+tw)).length:=(Vp.put_len (tn*8+tw)).1;generalize ZX c (Vp.put (tn*8+tw)).length 0=c1 at h hc1 hr1 hl1 htx1;split at h
   ·cases h
   rename_i v1 d1 h1;obtain⟨hopk,hkd,_⟩:=Cj hP hU hr ht ho;obtain⟨p1,p2,p3,p4⟩:=Dv hM hK hopk hrec hkd hc1.ci xw hv hok xw h1;obtain⟨q1,q2⟩:=E6 hM hK hopk hrec hkd hc1 xw hv hok xw xw hf.2.1 hr1 h1;have hlb:=p1.lt hc1.ci;obtain⟨z1,z2,z3,z4,kk,z5,z6⟩:=p1.1.eqs;have hd1:CT d1:=⟨p1.ci hc1.ci,by rw[z4];exact hc1.tx⟩;have hrd1:d1.rest=QT L:=by
    have hd:d1=ZX c1 kk (c1.nd-d1.nd).toNat:=by
     have hnn:=p1.1.nd;obtain⟨_,_,_,_,_,_⟩:=d1;simp only at z1 z2 z3 z4 z5 hnn;subst z1 z2 z3 z4 z5;unfold ZX;exact zA
    have hle:kk<=c1.rest.length:=by rw[X0]at z6;omega
    have hll:=WC hc1 (c1.nd-d1.nd).toNat hle;have hkk:kk=(body f).length:=by
     rw[<-hd]at hll;omega
    rw[hd,hkk];exact HI hc1 hr1 _
   have ih:=DD hM hK hP hU hr hrec ht L j v1 d1 hd1 (by rw[z4];exact htx1) xw xw p2 p3 xw hrd1 (fun g hg'=>hg g (by simp[hg'])) w d h;rw[ih,q2];congr 1
   rw[QnH];unfold JK;rw[ho];simp

theorem NC {f:R}(h1:1<=f.num/\f.num<=65535)(h2:0<=f.wire/\f.wire<=6)(h3:if XK f.wire=true then f.data=[]else f.bits=0)(h4:f.bits<18446744073709551616)(h5:f.data.length<18446744073709551616):Gf f:=by
 refine⟨?_,h4,h5⟩;unfold valid ZB;rw[Qlu xw];simp only[Qmz,Qm8];split at h3
 ·rename_i h;rw[Qlv h];simp[h3]
 ·rename_i h;rw[Qlu h];simp[h3]
theorem Qfc {M:Nat}{P:PL}{k tg:Int}{x:V}(hx:x.one P k tg=0)(ox:x.ok M){n:Int}(hn:1<=n/\n<=65535):Gf (Jl n x):=by
 obtain⟨a1,a2,a3,_⟩:=LI hx;have ht:=Vh hx;have hb:=Hc (k:=x.kd) (E0 ox) x.text;have hd:=VQ x.kd x.bits x.text;refine NC hn ?_ ?_ hb (Nat.lt_of_le_of_lt hd xw)
 ·show 0<=(Xl x.kd x.bits x.text).wire/\(Xl x.kd x.bits x.text).wire<=6;unfold Xl zr
  repeat' split
  all_goals exact⟨by simp[],by simp[]⟩
 ·show if XK (Xl x.kd x.bits x.text).wire=true then(Xl x.kd x.bits x.text).data=[]else(Xl x.kd x.bits x.text).bits=0
  rw[a1];unfold Xl;by_cases c1:k=1\/k=4\/k=5\/k=9
  ·rw[Qlv c1];rfl
  rw[Qlu c1];by_cases c2:k=2\/k=3
  ·rw[Qlv c2];rfl
  rw[Qlu c2];by_cases c3:k=6
  ·rw[Qlv c3];rfl
  rw[Qlu c3,Qlv (show k=7\/k=8 by omega)];rfl

def QfU (M:Nat)(P:PL)(m:PG->V->Int)(nm:PG->V->V)(bd:Int->V->List UInt8):Prop :=
 ∀(t:Int) (x y:V),(0<=t/\t<(P.progs.length:Int))->m (Qg P t) x=0->m (Qg P t) y=0->x.ok M->y.ok M->x.cnt<=1048576->y.cnt<=1048576->nm (Qg P t) x=x->nm (Qg P t) y=y->bd t x=bd t y->x=y

section
variable {M:Nat}{P:PL}{m:PG->V->Int}{nm:PG->V->V}{bd:Int->V->List UInt8}{o:PO}(ho:UO P o)
variable (hbd:∀(t:Int) (v:V),(0<=t/\t<(P.progs.length:Int))->m (Qg P t) v=0->(bd t v).length+70000<=70000*v.cnt)
variable (hT:QfU M P m nm bd)

include ho hbd in
theorem E7 {n:Int}(hn:1<=n/\n<=65535){x:V}(hx:QW m P o x=0)(ox:x.ok M)(hc:x.cnt<=1048576):Gf (Xf bd o n x):=by
 have hl:=D5 hbd ho (n:=n) hx;unfold QW at hx;unfold Xf at hl ⊢;by_cases hk:o.kind=10
 ·rw[Qlv hk]at hl ⊢;exact NC hn ⟨by show(0:Int)<=4;decide,by show(4:Int)<=6;decide⟩ rfl wZ xw
 ·rw[Qlu hk]at hx;rw[Qlu hk];exact Qfc hx ox hn

include ho hbd in
theorem Qfd (hn:1<=o.num/\o.num<=65535){x:V}(hx:Xw m P o x=0)(ox:x.ok M)(hc:x.cnt<=1048576):∀f∈YQ bd o x,Gf f:=by
 unfold Xw at hx;unfold YQ;by_cases h5:o.card=5
 ·rw[Qlv h5]at hx;rw[Qlv h5];split at hx
  ·omega
  have ex:=(Wa.1 hx).1;intro f hf;obtain⟨p,hp,rfl⟩:=QmK.1 hf;have h1:=M7 hbd ho (ex p hp).1 (ex p hp).2;have h2:=HC hp;have h3:=Ve hp;exact NC hn ⟨by show(0:Int)<=6;decide,by show(6:Int)<=6;decide⟩ rfl wZ xw
 rw[Qlu h5]at hx;rw[Qlu h5];by_cases hp:pk o.card o.kind=true
 ·rw[Qlv hp];intro f hf;rw[QnC]at hf;subst hf;have h1:=Uj (wk o.kind) x.list;have h2:=ZO x;exact NC hn ⟨by show(0:Int)<=5;decide,by show(5:Int)<=6;decide⟩ rfl wZ (by
   show(UInt8.ofNat (wk o.kind).toNat :: x.list.flatMap (YP (wk o.kind))).length<_;rw[QlD];omega)
 rw[Qlu hp];by_cases h4:o.card=4
 ·rw[Qlv h4]at hx;rw[Qlv h4];split at hx
  ·omega
  intro f hf;obtain⟨y,hy,rfl⟩:=QmK.1 hf;have h2:=UG hy;exact E7 ho hbd hn (Kt.1 hx y hy) (ox.list y hy) xw
 ·rw[Qlu h4]at hx;rw[Qlu h4];intro f hf;rw[QnC]at hf;subst hf;exact E7 ho hbd hn hx ox hc

end
theorem QcP (bd:Int->V->List UInt8)(o:PO)(x:V):∀f∈YQ bd o x,f.num=o.num:=by
 have he:∀y,(Xf bd o o.num y).num=o.num:=fun y=>by
  unfold Xf;split<;>rfl
 unfold YQ;split
 ·intro f hf;obtain⟨p,_,rfl⟩:=QmK.1 hf;rfl
 split
 ·intro f hf;rw[QnC]at hf;subst hf;rfl
 split
 ·intro f hf;obtain⟨y,_,rfl⟩:=QmK.1 hf;exact he y
 ·intro f hf;rw[QnC]at hf;subst hf;exact he x

section
variable {P:PL}{bd:Int->V->List UInt8}{g:PG}

end

def Qfe (P:PL):Prop:=∀g∈P.progs,∀o∈g.ops,1<=o.num/\o.num<=65535
theorem QcQ {P:PL}(h:ck P=0):Qfe P:=by
 unfold ck at h;split at h
 ·omega
 split at h
 ·omega
 split at h
 ·omega
 split at h
 ·omega
 split at h
 ·omega
 rename_i hr;have hr:BW P=true:=by simpa using hr
 unfold BW at hr;simp only[QlM,QlB]at hr;intro g hg o ho;have:=hr.1 g hg o ho;unfold Kw at this
 simpa using this

structure Ns (M:Nat)(P:PL)(m:PG->V->Int)(nm:PG->V->V)(g:PG)(s:Int×V):Prop where
 wd:Wd P m g s
 ok:s.2.ok M
 cnt:s.2.cnt<=1048576
 Q5:∀o,Q7 g s.1=some o->Zq nm P o s.2=s.2

theorem TD {P:PL}{g:PG}{f:R}(h:JW P g f=0):(1<=f.num/\f.num<=65535)/\(0<=f.wire/\f.wire<=6)/\(f.wire<=2->f.data=[])/\(2<f.wire->f.bits=0)/\B4 P g f=true/\f.data.length<=65536/\(f.wire=3->f.data.length<=4096):=by
 unfold JW at h;split at h
 ·omega
 rename_i h1;split at h
 ·omega
 rename_i h2;split at h
 ·omega
 rename_i h3;split at h
 ·omega
 rename_i h4;simp only[Qlq,Qlr,not_or,QlM,not_and,Qmm,Qls,Bool.not_eq_false]at h1 h2 h3 h4;refine⟨xw,xw,fun hw=>?_,fun hw=>?_,h3,xw,fun hw=>by have:=h4.1 hw;omega⟩
 ·have:=h2.1 hw
  simpa using this
 ·have:=h2.2 hw
  simpa using this
theorem Qff {P:PL}{g:PG}{f:R}(h:JW P g f=0)(hb:f.bits<18446744073709551616):Gf f:=by
 obtain⟨h1,h2,h3,h4,_,h6,_⟩:=TD h;refine NC h1 h2 ?_ hb xw;unfold XK;by_cases hw:f.wire<=2
 ·rw[Qlv (by
   have:f.wire=0\/f.wire=1\/f.wire=2:=xw
   rcases this with e|e|e<;>rw[e]<;>rfl)]
  exact h3 hw
 ·rw[Qlu xD];exact h4 xw

section
variable {M:Nat}{P:PL}(hU:JX P)(hr:Zo P)(hn:Qfe P)

include hU hr in
theorem Qbf {n:Nat}{t:Int}(hg:Qg P t∈P.progs){x:V}(h:XF P (n+1) (Qg P t) x=0)(ox:x.ok M)(cx:x.cnt<=1048576)(nx:Q5 P (n+1) (Qg P t) x=x):∀s∈x.slots,Ns M P (XF P n) (Q5 P n) (Qg P t) s:=by
 intro s hs;have hw:=Pu hU hr hg h;rw[nx]at hw;refine⟨hw s hs,ox.slots s hs,Qll (ZZ hs) cx,fun o ho=>?_⟩;have hs2:=hs;rw[<-nx]at hs2;obtain⟨q,hq,hsq⟩:=Qma.1 (show s∈(Qg P t).ops.flatMap (Xb (Q5 P n) P x.slots)from hs2);obtain⟨e1,u,hu,e2,e3⟩:=XX hsq;rw[e1,XQ (hr _ hg) hq]at ho;have hoq:q=o:=Option.some.inj ho;subst hoq;obtain⟨_,⟨s1,_,_⟩,_,_⟩:=JY.1 h;obtain⟨o',h1,h2⟩:=s1 u hu;rw[e2,XQ (hr _ hg) hq]at h1;have hoq:q=o':=Option.some.inj h1;subst hoq;rw[e3];exact MD (fun g hg v h=>UC hU hr n g hg v h) (hU _ hg q hq) h2

include hr in
theorem LL {n:Nat}{g:PG}(hg:g∈P.progs)(v:V):(Q5 P (n+1) g v).slots.Pairwise fun x y=>x.1<y.1:=by
 show(g.ops.flatMap (Xb (Q5 P n) P v.slots)).Pairwise _;rw[QnL];refine⟨fun _ _=>Gg,(hr g hg).imp fun {a b} hab x hx y hy=>?_⟩;rw[(XX hx).1,(XX hy).1];exact hab

theorem QcR {m:PG->V->Int}{nm:PG->V->V}(bd:Int->V->List UInt8){g:PG}{s:Int×V}(h:Ns M P m nm g s):∀f∈Jm bd g s,f.num=s.1:=by
 obtain⟨o,ho,_,_⟩:=h.wd;unfold Jm;rw[ho];intro f hf;rw[QcP bd o s.2 f hf];exact(Jb ho).2
include hU hr hn in
theorem QcS {n:Nat}{t:Int}(hg:Qg P t∈P.progs){x:V}(h:XF P (n+1) (Qg P t) x=0)(ox:x.ok M)(hs:∀s∈x.slots,Ns M P (XF P n) (Q5 P n) (Qg P t) s):∀f∈Xs (Xh P n) (Qg P t) x.slots x.raws,Gf f:=by
 obtain⟨_,_,_,hraw⟩:=JY.1 h;have key:∀(sl:List (Int×V)) (rs:List R),(∀s∈sl,Ns M P (XF P n) (Q5 P n) (Qg P t) s)->(∀f∈rs,Gf f)->∀f∈Xs (Xh P n) (Qg P t) sl rs,Gf f:=by
  intro sl
  induction sl with
  |nil=>intro rs _ hr f hf;exact hr f hf
  |cons s sl ih=>
   intro rs h1 h2 f hf;rw[Xs,QmJ,QmJ]at hf;rcases hf with(hf|hf)|hf
   ·exact h2 f ((QnR _).mem hf)
   ·have hs:=h1 s xA;obtain⟨o,ho,hfo,_⟩:=hs.wd;have hom:=(Jb ho).1;unfold Jm at hf;rw[ho]at hf;exact Qfd (hU _ hg o hom) (fun t v ht hm=>HD hU hr n t v ht hm) (hn _ hg o hom) hfo hs.ok hs.cnt f hf
   ·exact ih _ (fun s h=>h1 s w_) (fun f hf=>h2 f ((QnQ _).mem hf)) f hf
 refine key x.slots x.raws hs fun f hf=>Qff (hraw f hf) ?_
 have:=GT (ox.raws f hf).bits;omega

end

section
variable {bd:Int->V->List UInt8}{g:PG}
theorem PF {f:R}:∀ {sl:List (Int×V)} {rs:List R},f∈Xs bd g sl rs->f∈rs\/∃s∈sl,f∈Jm bd g s
 | [],_,h=>.inl h
 |s :: sl,rs,h=>by
  rw[Xs,QmJ,QmJ]at h;rcases h with(h|h)|h
  ·exact .inl ((QnR _).mem h)
  ·exact .inr ⟨s,xA,h⟩
  ·rcases PF h with h|⟨u,hu,h⟩
   ·exact .inl ((QnQ _).mem h)
   ·exact .inr ⟨u,by simp[hu],h⟩
theorem Sa {k:Int}:∀ {rs:List R},(rs.Pairwise fun a b=>a.num<=b.num)->∀f∈rs.dropWhile (fun r=>decide (r.num<k)),k<=f.num
 | [],_,_,h=>by cases h
 |r :: rs,hp,f,h=>by
  obtain⟨h1,h2⟩:=Qm0.1 hp;rw[List.dropWhile_cons]at h;split at h
  ·exact Sa h2 f h
  ·rename_i hr;have hr:¬r.num<k:=by simpa using hr
   rcases QmM.1 h with rfl|h
   ·omega
   ·have:=h1 f h;omega
theorem Sb {k:Int}:∀ {rs:List R},∀f∈rs.takeWhile (fun r=>decide (r.num<k)),f.num<k
 | [],_,h=>by cases h
 |r :: rs,f,h=>by
  rw[List.takeWhile_cons]at h;split at h
  ·rename_i hr;rcases QmM.1 h with rfl|h
   ·simpa using hr
   ·exact Sb f h
  ·cases h
theorem PH:∀ {sl:List (Int×V)} {rs:List R},(sl.Pairwise fun x y=>x.1<y.1)->(rs.Pairwise fun a b=>a.num<=b.num)->(∀s∈sl,∀f∈Jm bd g s,f.num=s.1)->(Xs bd g sl rs).Pairwise fun a b=>a.num<=b.num
 | [],_,_,hr,_=>hr
 |s :: sl,rs,hs,hr,hn=>by
  obtain⟨h1,h2⟩:=Qm0.1 hs;have hd:(rs.dropWhile fun r=>decide (r.num<s.1)).Pairwise fun a b=>a.num<=b.num:=hr.sublist (QnQ _)
  have ih:=PH h2 hd (fun u hu=>hn u (by simp[hu]));have hge:∀f∈Xs bd g sl (rs.dropWhile fun r=>decide (r.num<s.1)),s.1<=f.num:=by
   intro f hf;rcases PF hf with h|⟨u,hu,h⟩
   ·exact Sa hr f h
   ·have:=hn u (by simp[hu]) f h;have:=h1 u hu;omega
  rw[Xs,QlJ,Qm1];refine⟨hr.sublist (QnR _),?_,fun a ha b hb=>?_⟩
  ·rw[Qm1];refine⟨?_,ih,fun a ha b hb=>?_⟩
   ·rw[List.pairwise_iff_forall_sublist];intro a b hab;have ha:=hn s xA a (hab.mem xA);have hb:=hn s xA b (hab.mem xA);omega
   ·have:=hn s xA a ha;have:=hge b hb;omega
  ·have:=Sb a ha;rcases QmJ.1 hb with h|h
   ·have:=hn s xA b h;omega
   ·have:=hge b h;omega
end

section
variable {α:Type}{lt:α->α->Bool}
theorem V2 {a:α}:∀ {F:List α},(∀y∈F,lt y a=false)->ZP lt a F=a :: F
 | [],_=>rfl
 |x :: F,h=>by
  show(bif lt x a then x :: ZP lt a F else a :: x :: F)=_;rw[h x xA];rfl
theorem ND (h:SW lt){a:α}(p:α->Bool):∀ {l:List α},ZC lt l->(ZP lt a l).filter p=if p a=true then ZP lt a (l.filter p)else l.filter p
 | [],_=>by
  show [a].filter p=_;rw[Qm3];rfl
 |x :: l,hs=>by
  obtain⟨h1,h2⟩:=Qm0.1 hs;show(bif lt x a then x :: ZP lt a l else a :: x :: l).filter p=_;cases hx:lt x a with
  |true=>
   rw[cond_true,Qm3,ND h p h2,Qm3];by_cases hp:p a=true
   ·rw[Qlv hp,Qlv hp];by_cases hq:p x=true
    ·rw[Qlv hq,Qlv hq];show _=(bif lt x a then x :: ZP lt a (l.filter p)else a :: x :: l.filter p);rw[hx];rfl
    ·rw[Qlu hq,Qlu hq]
   ·rw[Qlu hp,Qlu hp]
  |false=>
   have hall:∀y∈x :: l,lt y a=false:=by
    intro y hy;rcases QmM.1 hy with rfl|hy
    ·exact hx
    ·exact h.nt _ _ _ (h1 y hy) hx
   rw[cond_false,Qm3 (x:=a)];by_cases hp:p a=true
   ·rw[Qlv hp,Qlv hp,V2 fun y hy=>hall y (QmY.1 hy).1]
   ·rw[Qlu hp,Qlu hp]
theorem DE (h:SW lt)(p:α->Bool):∀l:List α,(QG lt l).filter p=QG lt (l.filter p)
 | []=>rfl
 |a :: l=>by
  show(ZP lt a (QG lt l)).filter p=_;rw[ND h p (Zh h l),DE h p l,Qm3];split<;>rfl
theorem NE:∀ {l:List α},ZC lt l->QG lt l=l
 | [],_=>rfl
 |a :: l,hs=>by
  obtain⟨h1,h2⟩:=Qm0.1 hs;show ZP lt a (QG lt l)=_;rw[NE h2,V2 h1]
end

theorem E8 {M N:Nat}{P:PL}(hM:65536<=M)(hP:P.ok M)(hk:ck P=0)(hN:65536<N){s:List UInt8}{L:List R}(hL:∀f∈L,Gf f)(hs:L.Pairwise fun a b=>a.num<=b.num)(hd:(QT L).length<=65536)(h:(KN P N s (QT L) QR).2=0):(KN P N s (QT L) QR).1.raws.filter (JK (Qg P (QH s P)))=L.filter (JK (Qg P (QH s P))):=by
 have key:(J1 P N s (QN 10 0 []) (QT L) QR).2=0->(J1 P N s (QN 10 0 []) (QT L) QR).1.raws.filter (JK (Qg P (QH s P)))=L.filter (JK (Qg P (QH s P))):=by
  have ho:opn (QT L) QR=(⟨QT L,0,(QT L).length,65536,1073741824,1073741824⟩,0):=by
   unfold opn QR;rw[Qlu xA,Qlu jT]
  unfold J1;rw[ho];rcases JB s P with hx|hx
  ·rw[Qlv xw];intro h;cases h
  rw[Qlu xw,Qlu (by simp[QN,V.kd]),Qlu xA,Qlu xy];have hci:=Ny (l:=QR) hd xy xy;have hsp:spd (⟨QT L,0,(QT L).length,QR.dp-1,QR.nd,QR.tx⟩:C) 1=.ok ⟨QT L,0,(QT L).length,QR.dp-1,QR.nd-1,QR.tx⟩:=by
   unfold spd C.spend QR;rfl
  obtain⟨s1,_⟩:=Zm hci xw hsp;have hcc:=s1.ci hci;have hrest:(⟨QT L,0,(QT L).length,QR.dp-1,QR.nd-1,QR.tx⟩:C).rest=QT L:=(E3 _ _ _ _).2;have hct:CT (⟨QT L,0,(QT L).length,QR.dp-1,QR.nd-1,QR.tx⟩:C):=⟨hcc,by show(0:Int)<=1073741824;omega⟩;have htx:(65536:Int)<=(⟨QT L,0,(QT L).length,QR.dp-1,QR.nd-1,QR.tx⟩:C).tx:=by show(65536:Int)<=1073741824;omega
  have hbd:=hcc.bd;rw[hsp];dsimp only;generalize (⟨QT L,0,(QT L).length,QR.dp-1,QR.nd-1,QR.tx⟩:C)=c at hrest hct hbd htx ⊢;intro h;obtain⟨n,rfl⟩:∃n,N=n+1:=⟨N-1,xw⟩;cases hr:Ho P (n+1) (QH s P) (QN 10 0 []) c with
  |error e=>
   rw[hr]at h;exact absurd h (Pq P _ _ _ _ _ hr)
  |ok r=>
   obtain⟨w,d⟩:=r;have hl:=DD (K:=1000000) hM (Qlk _) hP (Zy hk) (Xr hk) (HH hM (Qlk _) hP (Zy hk) (Xr hk) n) hx L _ (QN 10 0 []) c hct htx xw xw (XZ xw) (Zc rfl xy (Qlx _)) jS hrest hL w d hr;show(ZA w.raws).filter _=_;unfold ZA;rw[DE N9,hl];have hf:(L.filter (JK (Qg P (QH s P)))).Pairwise fun a b=>a.num<=b.num:=hs.sublist List.filter_sublist
   exact NE (hf.imp fun {a b} hab=>x_)
 unfold KN at h ⊢;split at h
 ·rename_i h1;exact absurd h h1
 rename_i h1;rw[Qlu h1];have h1:(J1 P N s (QN 10 0 []) (QT L) QR).2=0:=jC
 split at h
 ·cases h
 rename_i h2;rw[Qlu h2];exact key h1

theorem PJ {bd:Int->V->List UInt8}{gw g:PG}:∀sl:List (Int×V),(∀s∈sl,∀f∈Jm bd gw s,f.num=s.1)->(Xs bd gw sl []).filter (JK g)=(sl.filter fun s=>(Q7 g s.1).isNone).flatMap (Jm bd gw)
 | [],_=>rfl
 |s :: sl,h=>by
  have ih:=PJ (g:=g) sl fun u hu=>h u (by simp[hu])
  rw[Xs];simp only[List.takeWhile_nil,List.dropWhile_nil,QlL];rw[Qm2,ih,Qm3];have hs:=h s xA;cases ho:Q7 g s.1 with
  |none=>
   rw[List.filter_eq_self.2 fun f hf=>by unfold JK;rw[hs f hf,ho];rfl];simp
  |some o=>
   rw[List.filter_eq_nil_iff.2 fun f hf=>by unfold JK;rw[hs f hf,ho];simp];simp

theorem keeps {M N:Nat}{W P:PL}(hM:65536<=M)(hW:W.ok M)(hP:P.ok M)(hw:ck W=0)(hk:ck P=0)(hN:65536<N){s:List UInt8}{t:Int}{v:V}(hv:v.ok M)(hc:v.cnt<=300)(hf:ZJ W t v=0)(hr:v.raws=[])(hd:(Xh W 16 t v).length<=65536)(h:(KN P N s (Xh W 16 t v) QR).2=0) :
  (KN P N s (Xh W 16 t v) QR).1.raws.filter (JK (Qg P (QH s P)))=((Q5 W 16 (Qg W t) v).slots.filter fun s'=>(Q7 (Qg P (QH s P)) s'.1).isNone).flatMap (Jm (Xh W 15) (Qg W t)):=by
 obtain⟨ht,hm⟩:=JD hf;have hg:Qg W t∈W.progs:=QlC (Ko ht);have hU:=Zy hw;have hr':=Xr hw;have h1:=KZ hU hr' 16 _ hg v hm;have h2:=UC hU hr' 16 _ hg v hm;have h3:=Kr hr' 16 _ (Z7 hr' t) v;have h4:=UN (Fa hW (YS hw)) 16 t v hv;have h5:=LL hr' (n:=15) hg v;have h6:(Q5 W 16 (Qg W t) v).raws=[]:=by
  show ZA v.raws=[];rw[hr];rfl
 have hb:Xh W 16 t v=QT (Xs (Xh W 15) (Qg W t) (Q5 W 16 (Qg W t) v).slots []):=by
  rw[Xh,h6]
 generalize Q5 W 16 (Qg W t) v=y at h1 h2 h3 h4 h5 h6 hb ⊢;have hns:=Qbf (M:=M) hU hr' hg h1 h4 xw h2;have hgf:=QcS hU hr' (QcQ hw) hg h1 h4 hns;rw[h6]at hgf;have hnum:∀s'∈y.slots,∀f∈Jm (Xh W 15) (Qg W t) s',f.num=s'.1:=fun s' hs'=>QcR _ (hns s' hs')
 rw[hb]at h hd ⊢;rw[E8 hM hP hk hN hgf (PH h5 .nil hnum) hd h];exact PJ _ hnum

theorem E9 {M:Nat}:∀v:V,v.ok M->v.sz<=M*v.cnt:=by
 refine V.ind (P:=fun v=>v.ok M->v.sz<=M*v.cnt) ?_;intro v hl hp hs hv;rw[KI,Q4];have h1:∀l:List V,(∀x∈l,x.sz<=M*x.cnt)->Wn l<=M*Q9 l:=by
  intro l
  induction l with
  |nil=>intro _;exact Qlx _
  |cons x l ih=>
   intro h;have:=ih fun y hy=>h y kY
   have:=h x xA;simp only[Wn,Q9,Nat.mul_add];omega
 have h2:∀l:List (V×V),(∀x∈l,x.1.sz<=M*x.1.cnt/\x.2.sz<=M*x.2.cnt)->J9 l<=M*Xk l:=by
  intro l
  induction l with
  |nil=>intro _;exact Qlx _
  |cons x l ih=>
   intro h;have:=ih fun y hy=>h y kY
   have:=h x xA;obtain⟨p,q⟩:=x;simp only[J9,Xk,Nat.mul_add];dsimp only at *;omega
 have h3:∀l:List (Int×V),(∀x∈l,x.2.sz<=M*x.2.cnt)->Jx l<=M*Xd l:=by
  intro l
  induction l with
  |nil=>intro _;exact Qlx _
  |cons x l ih=>
   intro h;have:=ih fun y hy=>h y kY
   have:=h x xA;obtain⟨p,q⟩:=x;simp only[Jx,Xd,Nat.mul_add];dsimp only at *;omega
 have h4:∀l:List R,(∀f∈l,f.data.length<=M)->Z8 l<=M*l.length:=by
  intro l
  induction l with
  |nil=>intro _;exact Qlx _
  |cons f l ih=>
   intro h;have:=ih fun y hy=>h y kY
   have:=h f xA;simp only[Z8,QlD,Nat.mul_add,Nat.mul_one];omega
 have a1:=h1 _ fun x hx=>hl x hx (hv.list x hx)
 have a2:=h2 _ fun x hx=>⟨(hp x hx).1 (hv.keys x hx),(hp x hx).2 (hv.vals x hx)⟩
 have a3:=h3 _ fun x hx=>hs x hx (hv.slots x hx)
 have a4:=h4 _ fun f hf=>(hv.raws f hf).data
 have a5:=hv.text;simp only[Nat.mul_add,Nat.mul_one];omega

def NF (W R:PL)(N:Nat)(s:List UInt8)(v:V):V×Int :=
 if QH s W<0\/QH s R<0 then(QN 0 0 [],10)
 else if ZJ W (QH s W) v≠0 then(QN 0 0 [],ZJ W (QH s W) v)
 else((KN R N s (Xh W 16 (QH s W) v) QR).1,((KN R N s (Xh W 16 (QH s W) v) QR).2:Int))
def Ia (r:V×Int):AV:=.tup [r.1.av,.int .i64 r.2]

section
variable {M N:Nat}(hM:M<=140737488351232)(hm:65536<=M)(hN:65536<N)(W R:PL)(hW:W.ok M)(hR:R.ok M)(hw:ck W=0)(hr:ck R=0)

include hw in
theorem Sc {t:Int}{v:V}(hc:v.cnt<=300)(hz:v.sz<=20000)(hf:ZJ W t v=0):(Xh W 16 t v).length<=65536:=by
 obtain⟨ht,hmf⟩:=JD hf;have:=EG (Zy hw) (Xr hw) 16 t v ht hmf;omega

include hM hm hN hW hR hw hr in
theorem vw9 (s:List UInt8)(v:V)(hv:v.ok M)(hc:v.cnt<=300)(hz:v.sz<=20000):Qh Tryz.prog 9 [W.av,R.av,.str s,v.av,.int .i64 1] (Ia (NF W R N s v)):=by
 have z0:(QN 0 0 []).av=.agg [.int .i64 0,.int .u64 0,.str [],.list [],.list [],.list [],.list []]:=Qd _;have f1:=Rs W hW.len1 s;have f2:=Rs R hR.len1 s;have f3:=v23 hW (Zy hw) (QH s W) v hv;unfold Fx at f1 f2;rw[show Za (fun g:PG=>g.name==s) W.progs 0=QH s W from rfl]at f1;rw[show Za (fun g:PG=>g.name==s) R.progs 0=QH s R from rfl]at f2;unfold NF;by_cases hp:QH s W<0\/QH s R<0
 ·rw[Qlv hp];have d1:(!decide (QH s W>=0))=true\/decide (QH s W>=0)=true/\decide (QH s R>=0)=false:=by
   by_cases h:QH s W>=0
   ·exact .inr ⟨Qnr h,Qnl xw⟩
   ·exact .inl (by rw[Qnl h];rfl)
  rw[show W.av=.agg (Q8 W)from rfl]at f1;rw[show R.av=.agg (Q8 R)from rfl]at f2;rw[show W.av=.agg (Q8 W)from rfl,show R.av=.agg (Q8 R)from rfl,Qd v];simp only[Q8]at f1 f2;refine wF Tryz.func9 ?_;simp only[eK,Tryz.f9,seval];simp only[Q8,eE,seval];refine Bb xx ?_;refine JE (l:=0) (s:=19) (p:=0) (ks:=[]) (vs:=[]) (k:=.n 1) xx xx rfl rfl rfl rfl rfl ?_;refine JE (l:=0) (s:=19) (p:=0) (ks:=[.n 1]) (vs:=[.fn (.func 19) [] []]) (k:=.n 2) xx xx rfl rfl rfl rfl rfl ?_;refine JE (l:=0) (s:=19) (p:=0) (ks:=[.n 1,.n 2]) (vs:=[.fn (.func 19) [] [],.fn (.func 20) [] []]) (k:=.n 4) xx xx rfl rfl rfl rfl rfl ?_;simp only[KP,Am.K5,keys,Zn,Kd,MK.eq,MK.t,QmB,QmC,AV.gr,List.isEmpty_nil,Bool.and_self,Qmz,cond_true,cond_false,eE,seval];refine aC f1 ?_;simp only[eE,seval];refine aC f2 ?_;rcases d1 with d1|⟨d1,d2⟩
  ·simp only[d1,Ia,z0,eE,seval]<;>rfl
  ·simp only[d1,d2,Qm9,Qmx,Ia,z0,eE,seval]<;>rfl
 rw[Qlu hp];have ha:0<=QH s W/\QH s W<(W.progs.length:Int):=by
  rcases JB s W with h|h
  ·omega
  ·exact h
 have hb:0<=QH s R/\QH s R<(R.progs.length:Int):=by
  rcases JB s R with h|h
  ·omega
  ·exact h
 rw[Qlu xw,Qnr ha.1]at f1;rw[Qlu xw,Qnr hb.1]at f2;by_cases hf:ZJ W (QH s W) v=0
 ·have hl:=Sc W hw hc hz hf;have he:(YX W s v).2=0/\(YX W s v).1=Xh W 16 (QH s W) v:=by
   unfold YX;rw[Qlu xw,Qlu (fun g=>g hf),Qlu xw];exact⟨rfl,rfl⟩
  have:=c9 (N:=N) hM hm hN W R hW hR hw hr s hb.1 v hv hc he.1;rw[he.2]at this;rw[Qlu (fun g=>g hf)];exact this
 ·rw[Qlv hf];have b0:(ZJ W (QH s W) v != 0)=true:=by simp[hf]
  rw[show W.av=.agg (Q8 W)from rfl]at f1 f3;rw[show R.av=.agg (Q8 R)from rfl]at f2;rw[show W.av=.agg (Q8 W)from rfl,show R.av=.agg (Q8 R)from rfl,Qd v];rw[Qd v]at f3;simp only[Q8]at f1 f2 f3;refine wF Tryz.func9 ?_;simp only[eK,Tryz.f9,seval];simp only[Q8,eE,seval];refine Bb xx ?_;refine JE (l:=0) (s:=19) (p:=0) (ks:=[]) (vs:=[]) (k:=.n 1) xx xx rfl rfl rfl rfl rfl ?_;refine JE (l:=0) (s:=19) (p:=0) (ks:=[.n 1]) (vs:=[.fn (.func 19) [] []]) (k:=.n 2) xx xx rfl rfl rfl rfl rfl ?_;refine JE (l:=0) (s:=19) (p:=0) (ks:=[.n 1,.n 2]) (vs:=[.fn (.func 19) [] [],.fn (.func 20) [] []]) (k:=.n 4) xx xx rfl rfl rfl rfl rfl ?_;simp only[KP,Am.K5,keys,Zn,Kd,MK.eq,MK.t,QmB,QmC,AV.gr,List.isEmpty_nil,Bool.and_self,Qmz,cond_true,cond_false,eE,seval];refine aC f1 ?_;simp only[eE,seval];refine aC f2 ?_;simp only[eE,seval];refine aC f3 ?_;simp only[b0,Ia,z0,eE,seval]<;>rfl

end
end Go.Proofs.YtmlohboeoeoamaaGreatDoor.Va

namespace Go.Proofs.YtmlohboeoeoamaaGreatDoor.Va
open Go Am Rc Bt Vp Cp Up

end Go.Proofs.YtmlohboeoeoamaaGreatDoor.Va

namespace Go.Proofs.YtmlohboeoeoamaaGreatDoor.Va
open Go Am Rc Bt Vp Cp

theorem QcT (n:Nat):(n:Int).tmod 256=((n % 256:Nat):Int):=by
 rw[QnF xw];omega

theorem QcU (n:Nat)(h:n<18446744073709551616):IntKind.u64.wrap ((n:Int).tdiv 256)=((n / 256:Nat):Int):=by
 rw[QnP xw,ZM];omega

theorem Qfg (n:Nat):IntKind.u8.wrap ((n % 256:Nat):Int)=((UInt8.ofNat (n % 256)).toNat:Int):=by
 rw[AO,toNat_ofNat _ xw];omega

def Ib (u0:Nat)(k:Nat)(st:St):Prop :=
 ∃f fr u g i l,st=⟨f,[fr],[]⟩/\k=8-i/\i<=8/\f 0=.int .u64 (u:Nat)/\f 3=.vec 0 3 g 0 l.length false/\f 4=.int .i64 (i:Nat)/\fr 3=.vec g 1 (bl l)/\u<18446744073709551616/\l.length=i/\l++fx (8-i) u=fx 8 u0

theorem c67 (u:Nat)(hu:u<18446744073709551616):Qh Tryz.prog 67 [.int .u64 u] (.str (fx 8 u)):=by
 refine wF Tryz.func67 ?_;simp only[eK,Tryz.f67,seval];simp only[Qa,seval];refine XO rfl rfl ?_;simp only[Qa,seval];refine Qi (Ib u) 8 ⟨_,_,u,1,0,[],rfl,rfl,xw,rfl,rfl,rfl,rfl,hu,rfl,rfl⟩ ?_;rintro n st ⟨f,fr,v,g,i,l,rfl,rfl,hi,h0,h3,h4,hv,hlt,hll,hl⟩;simp only[h4,Qa,seval];refine QV (fun h=>?_) (fun h=>?_)
 ·have h:i<8:=by(have h:(i:Int)<8:=xQ);omega
  have e1:IntKind.i64.wrap ((i:Int)+1)=((i+1:Nat):Int):=xE
  simp only[h0,h3,QcT,Qfg,seval,Qa];refine WE rfl ?_;refine QF rfl hv rfl (YN l).symm rfl rfl jE xD ?_;simp only[h0,h4,QcU v hlt,seval,e1,Qa];refine⟨8-(i+1),xw,_,_,v / 256,g+1,i+1,l++[UInt8.ofNat (v % 256)],rfl,rfl,xw,?_,?_,?_,?_,xw,by simp[hll],?_⟩
  ·simp only[h0,Qa,seval]
  ·simp only[Ql2,QlD,Qmk,Qa,seval]
  ·simp only[Qa,seval]
  ·simp only[QZ,YM]<;>rfl
  ·obtain⟨j,hj⟩:∃j,8-i=j+1:=⟨7-i,xw⟩;rw[<-hl,hj,show 8-(i+1)=j by omega,fx];simp
 ·have h:i=8:=by(have h:¬(i:Int)<8:=xQ);omega
  subst h;have he:=WF (m:=[]) (fr:=fr) (site:=3) (g:=g) (sz:=1) (n:=l.length) (q:=false) hv (by simp[bl]);have hb:bytesOf (bl l)=some l:=Kh l;simp only[h3,he,hb,Qa,seval];rw[<-hl];simp[fx]

open Up

def Qbg (l:List R)(k:Nat)(st:St):Prop :=
 ∃f fr i,st=⟨f,[fr],[]⟩/\k=l.length-i/\i<=l.length/\f 0=.list (Y4 l)/\f 3=.str (QT (l.take i))/\f 4=.int .i64 (i:Nat)/\(fr 5).isRow=false

theorem c30 (l:List R)(hb:∀fd∈l,fd.bits<18446744073709551616/\fd.data.length<9223372036854775807)(hn:l.length<9223372036854775807)(hl:(QT l).length<=140737488355328):Qh Tryz.prog 30 [.list (Y4 l)] (.str (QT l)):=by
 refine wF Tryz.func30 ?_;simp only[eK,Tryz.f30,seval];simp only[Qa,seval];refine Qi (Qbg l) _ ⟨_,_,0,rfl,rfl,Qlx _,rfl,rfl,rfl,rfl⟩ ?_;rintro n st ⟨f,fr,i,rfl,rfl,hi,h0,h3,h4,m5⟩;simp only[h0,h4,m5,RJ,Qa,seval];by_cases hlt:i<l.length
 ·obtain⟨fd,hfd⟩:∃fd,l[i]? = some fd:=⟨l[i],Qln hlt⟩;have hmem:=QlC hfd;obtain⟨hb1,hb2⟩:=hb fd hmem;have hfa:(Y4 l)[i]? = some fd.av:=by simp[Y4,hfd]
  have hps:=Ds l i fd hfd;have hple:=RL l i fd hfd;have d0:decide ((i:Int)<(l.length:Int))=true:=xD
  have n0:(0<=(i:Int))=True:=xA
  have e1:IntKind.i64.wrap ((i:Int)+1)=((i+1:Nat):Int):=xE
  have fin:∀(f':Fr) (fr':Nat->Ob) (bs':List UInt8),f' 0=.list (Y4 l)->f' 3=.str bs'->f' 4=.int .i64 (((i+1:Nat):Nat):Int)->(fr' 5).isRow=false->bs'=QT (l.take i)++KH fd->∃k,k<l.length-i/\Qbg l k ⟨f',[fr'],[]⟩:=by
   intro f' fr' bs' g1 g2 g3 g4 g5;exact⟨l.length-(i+1),xw,f',fr',i+1,rfl,rfl,xw,g1,by rw[hps,<-g5];exact g2,g3,g4⟩
  simp only[d0,n0,QmS,Qf,hfa,R.av,h0,h4,eE,seval];refine aC (c65 fd) ?_;cases hv:valid fd with
  |false=>
   simp only[e1,h4,Qa,seval];refine fin _ _ (QT (l.take i)) ?_ ?_ ?_ ?_ ?_
   ·simp only[h0,Qa,seval]
   ·simp only[h3,Qa,seval]
   ·simp only[Qa,seval]
   ·simp only[Qa,seval]
   ·simp[KH,hv]
  |true=>
   simp only[eE,seval];refine aC (c66 fd.num fd.wire) ?_;have hp:KH fd=(ZB fd.num fd.wire).1++body fd:=by simp[KH,hv]
   have hpl:=congrArg List.length hp;rw[Ql2]at hpl;have hbody:body fd=if fd.wire=2 then fx 8 fd.bits else if XK fd.wire then Vp.put fd.bits else Vp.put fd.data.length++fd.data:=rfl
   have a1:((QT (l.take i)).length+(ZB fd.num fd.wire).1.length<=9223372036854775807)=True:=eq_true xw;simp only[Df,QS,a1,h3,eE,seval];by_cases w2:fd.wire=2
   ·have dw:(fd.wire==2)=true:=qt
    have hbo:body fd=fx 8 fd.bits:=by rw[hbody,Qlv w2]
    have a2:((QT (l.take i)++(ZB fd.num fd.wire).1).length+(fx 8 fd.bits).length<=9223372036854775807)=True:=eq_true (by rw[Ql2,<-hbo];omega);simp only[dw,h3,eE,seval];refine aC (c67 fd.bits hb1) ?_;simp only[QS,a2,e1,h4,Qa,seval];refine fin _ _ (QT (l.take i)++(ZB fd.num fd.wire).1++fx 8 fd.bits) ?_ ?_ ?_ ?_ ?_
    ·simp only[h0,Qa,seval]
    ·simp only[Qa,seval]
    ·simp only[Qa,seval]
    ·simp only[Qa,seval]
    ·rw[hp,hbo,QlJ]
   ·have dw:(fd.wire==2)=false:=qt
    simp only[dw,eE,seval];refine aC (c68 fd.wire) ?_;cases hnum:XK fd.wire with
    |true=>
     have hbo:body fd=Vp.put fd.bits:=by rw[hbody,Qlu w2,Qlv hnum]
     have a2:((QT (l.take i)++(ZB fd.num fd.wire).1).length+(Vp.put fd.bits).length<=9223372036854775807)=True:=eq_true (by rw[Ql2,<-hbo];omega);simp only[h3,eE,seval];refine aC (Ex fd.bits hb1) ?_;simp only[QS,a2,e1,h4,Qa,seval];refine fin _ _ (QT (l.take i)++(ZB fd.num fd.wire).1++Vp.put fd.bits) ?_ ?_ ?_ ?_ ?_
     ·simp only[h0,Qa,seval]
     ·simp only[Qa,seval]
     ·simp only[Qa,seval]
     ·simp only[Qa,seval]
     ·rw[hp,hbo,QlJ]
    |false=>
     have hbo:body fd=Vp.put fd.data.length++fd.data:=by rw[hbody,Qlu w2,Qlu (by rw[hnum];simp)]
     have hbl:(body fd).length=(Vp.put fd.data.length).length+fd.data.length:=by rw[hbo,Ql2]
     have a2:((Vp.put fd.data.length).length+fd.data.length<=9223372036854775807)=True:=eq_true xw;have a3:((QT (l.take i)++(ZB fd.num fd.wire).1).length+(Vp.put fd.data.length++fd.data).length<=9223372036854775807)=True:=eq_true (by rw[Ql2,<-hbo];omega);have e2:IntKind.u64.wrap (fd.data.length:Int)=((fd.data.length:Nat):Int):=qJ
     simp only[e2,h3,eE,seval];refine aC (Ex fd.data.length xw) ?_;simp only[QS,a2,a3,e1,h4,eE,seval];refine fin _ _ (QT (l.take i)++(ZB fd.num fd.wire).1++(Vp.put fd.data.length++fd.data)) ?_ ?_ ?_ ?_ ?_
     ·simp only[h0,Qa,seval]
     ·simp only[Qa,seval]
     ·simp only[Qa,seval]
     ·simp only[Qa,seval]
     ·rw[hp,hbo,QlJ]
 ·have d0:decide ((i:Int)<(l.length:Int))=false:=xD
  have hil:l.take i=l:=QlY xw;simp only[d0,hil,h3,Qa,seval]

open Br So

theorem u28 (v:V):Qh Tryz.prog 28 [v.av] (Xl v.kd v.bits v.text).av:=by
 rw[Qd];exact y28 v.kd v.bits v.text _ _ _ _

section
variable {M:Nat}{P:PL}{m:PG->V->Int}{bd:Int->V->List UInt8}(o:PO)(ho:UO P o)

include ho in
theorem u29 (hb:∀(t:Int) (g:PG),P.progs[t.toNat]? = some g->0<=t->∀v:V,v.ok M->v.cnt<=1048576->m g v=0->Qh Tryz.prog 64 [P.av,.int .i64 t,v.av] (.str (bd t v)))(n:Int)(x:V)(hx:x.ok M)(hc:x.cnt<=1048576)(he:QW m P o x=0) :
  Qh Tryz.prog 29 [P.av,Qu o,.int .i64 n,x.av] (Xf bd o n x).av:=by
 have e0:P.av=.agg [.list (P.progs.map Qm),.list (P.enums.map QC)]:=rfl;have h1:=u28 x;unfold Xf Jl;generalize Xl x.kd x.bits x.text=z at h1 ⊢;by_cases hk:o.kind=10
 ·have b:(o.kind==10)=true:=jD
  rw[Qlv hk];unfold QW at he;rw[Qlv hk]at he;obtain⟨t0,t1⟩:=ho.tgt hk;obtain⟨g,hg⟩:∃g,P.progs[o.target.toNat]? = some g:=⟨P.progs[o.target.toNat]' xw,Qln xw⟩;have hq:Qg P o.target=g:=by unfold Qg;rw[hg];rfl
  rw[hq]at he;have h2:=hb o.target g hg t0 x hx hc he;rw[e0,Qd]at h2;rw[Qd]at h1;rw[Qd];simp only[R.av]at h1;refine wF Tryz.func29 ?_;simp only[eK,Tryz.f29,seval];simp only[e0,Qu,PO.cells,R.av,eE,seval];refine aC h1 ?_;simp only[b,eE,seval];exact yG
 ·have b:(o.kind==10)=false:=jD
  rw[Qlu hk];rw[Qd]at h1;rw[Qd];simp only[R.av]at h1;refine wF Tryz.func29 ?_;simp only[eK,Tryz.f29,seval];simp only[e0,Qu,PO.cells,R.av,eE,seval];refine aC h1 ?_;simp only[b,eE,seval]

def QjA (l:List V)(F:Nat->List UInt8)(k:Nat)(st:St):Prop :=
 ∃f fr i,st=⟨f,[fr],[]⟩/\k=l.length-i/\i<=l.length/\f 0=.list (l.map V.av)/\f 3=.str (F i)/\f 4=.int .i64 (i:Nat)/\∀s∈[5],(fr s).isRow=false

theorem u32 (w:Int)(hw:w=0\/w=1\/w=2)(l:List V)(hne:l≠[])(hlen:l.length<=1048576)(hk:∀y∈l,(Xl y.kd y.bits y.text).wire=w)(hok:∀y∈l,y.ok M) :
  Qh Tryz.prog 32 [.list (l.map V.av)] (.str (UInt8.ofNat w.toNat :: l.flatMap (YP w))):=by
 have hcv:IntKind.u8.wrap w=((UInt8.ofNat w.toNat).toNat:Int):=by
  rcases hw with rfl|rfl|rfl<;>rfl
 generalize hb0:UInt8.ofNat w.toNat=b0 at hcv ⊢
 let F:Nat->List UInt8:=fun i=>if i=0 then []else b0 :: (l.take i).flatMap (YP w)
 have hF0:F 0=[]:=rfl;have hFn:F l.length=b0 :: l.flatMap (YP w):=by
  have:l.length≠0:=fun h=>hne (QnA.1 h)
  simp[F,this]
 have hFl:∀i,i<=l.length->(F i).length<=1+10*i:=by
  intro i hi;have:=Uj w (l.take i);rw[Qml]at this;simp only[F];split
  ·simp
  ·simp only[QlD];omega
 have hFs:∀i x,l[i]? = some x->F (i+1)=(if i=0 then [b0]else F i)++YP w x:=by
  intro i x hx;simp only[F,Nat.add_eq_zero_iff,Nat.one_ne_zero,and_false,if_false];rw[Qng,hx,QnO];split
  ·rename_i h0;subst h0;simp
  ·simp
 rw[<-hFn]
 clear_value F
 clear hFn;refine wF Tryz.func32 ?_;simp only[eK,Tryz.f32,seval];simp only[Qa,seval];refine Qi (QjA l F) _ ⟨_,_,0,rfl,rfl,Qlx _,xx,wR,xx,ZK rfl⟩ ?_;rintro _ st ⟨f0,fr0,i,rfl,rfl,hil,h00,h30,h40,r5⟩;refine QL (a:=_) [5] r5 ?_;intro f fr hf hm hn5;have h0:f 0=.list (l.map V.av):=qx
 have h3:f 3=.str (F i):=xW
 have h4:f 4=.int .i64 (i:Nat):=jx
 have n5:=hn5 5 xy;clear hf hm hn5 h00 h30 h40 r5;simp only[Qmj,h0,h4,Qa,seval];by_cases hlt:i<l.length
 ·obtain⟨x,hi⟩:∃x,l[i]? = some x:=⟨l[i],Qln hlt⟩;have hx:=QlC hi;have hg:=Hk hi;have e1:=Qr i _ hlt xC;have c1:=u28 x;have hbb:(Xl x.kd x.bits x.text).bits<18446744073709551616:=Hc (E0 (hok x hx)) _;have hwx:=hk x hx;have hFi:=hFl i xw;have hFx:=hFs i x hi;have hpx:=Vj w x;rw[show YP w x=Y5 w (Xl x.kd x.bits x.text).bits from rfl]at hFx hpx;generalize Xl x.kd x.bits x.text=z at c1 hbb hFx hpx hwx;rw[Qd x]at c1;simp only[R.av,hwx]at c1;simp only[QB hlt,Qp,QmS,Qf,hg,h0,h4,eE,seval];refine aC c1 ?_;by_cases hi0:i=0
  ·subst hi0;have d0:(((0:Nat):Int)==0)=true:=rfl;rw[Qlv rfl]at hFx;have hb1:bytesOf [.int .u8 ((b0.toNat:Nat):Int)]=some [b0]:=Kh [b0];simp only[n5,h4,hcv,eE,seval];refine WE rfl ?_;by_cases w2:w=2
   ·have b2:(w==2)=true:=vx
    have epb:Y5 w z.bits=fx 8 z.bits:=by unfold Y5;rw[Qlv w2]
    rw[epb]at hFx hpx;have hadd:(([b0]).length+(fx 8 z.bits).length<=9223372036854775807)=True:=eq_true xI;simp only[Q1,hb1,b2,h3,eE,seval];refine aC (c67 z.bits hbb) ?_;exact zz
   ·have b2:(w==2)=false:=vx
    have epb:Y5 w z.bits=Vp.put z.bits:=by unfold Y5;rw[Qlu w2]
    rw[epb]at hFx hpx;have hadd:(([b0]).length+(Vp.put z.bits).length<=9223372036854775807)=True:=eq_true xI;simp only[Q1,hb1,b2,h3,eE,seval];refine aC (Ex z.bits hbb) ?_;exact zz
  ·have d0:(((i:Nat):Int)==0)=false:=by simp[hi0]
   rw[Qlu hi0]at hFx;by_cases w2:w=2
   ·have b2:(w==2)=true:=vx
    have epb:Y5 w z.bits=fx 8 z.bits:=by unfold Y5;rw[Qlv w2]
    rw[epb]at hFx hpx;have hadd:((F i).length+(fx 8 z.bits).length<=9223372036854775807)=True:=eq_true xw;simp only[d0,b2,n5,h3,h4,eE,seval];refine aC (c67 z.bits hbb) ?_;exact zK
   ·have b2:(w==2)=false:=vx
    have epb:Y5 w z.bits=Vp.put z.bits:=by unfold Y5;rw[Qlu w2]
    rw[epb]at hFx hpx;have hadd:((F i).length+(Vp.put z.bits).length<=9223372036854775807)=True:=eq_true xw;simp only[d0,b2,n5,h3,h4,eE,seval];refine aC (Ex z.bits hbb) ?_;exact zK
 ·have e:i=l.length:=xw
  subst e;exact xe

end

def TF (n:Int)(x:V):List AV:=[.int .i64 n,.int .i64 x.kd,.int .u64 (x.bits:Nat),.str x.text,.list (x.list.map V.av),.list (x.pairs.map V.pav),.list (x.slots.map V.sav),.list (x.raws.map R.av)]

structure RaF (P:PL)(o:PO)(x:V)(f:Fr)(fr:Nat->Ob)(g:Nat)(out:List R):Prop where
 f3:f 3=.ptr 0 3 0
 f5:f 5=.ptr 0 5 0
 f7:f 7=.ptr 0 7 0
 f9:f 9=.vec 0 9 g 0 out.length false
 m3:fr 3=.cells [.list (P.progs.map Qm),.list (P.enums.map QC)]
 m5:fr 5=.cells (TF o.num x)
 m7:fr 7=.cells o.cells
 mR:fr 9=.vec g 4 (out.map R.av)

section
variable {M:Nat}{P:PL}{m:PG->V->Int}{bd:Int->V->List UInt8}(o:PO)(ho:UO P o)

theorem QcV {cL:RC}(hel:∀(n:Int) (x:V),x.ok M->x.cnt<=1048576->QW m P o x=0->Qh Tryz.prog 29 [P.av,Qu o,.int .i64 n,x.av] (Xf bd o n x).av)(x:V)(hx:x.ok M)(hc:x.cnt<=1048576)(hL:∀y∈x.list,QW m P o y=0)(f:Fr)(fr:Nat->Ob)(g:Nat)(h:RaF P o x f fr g [])(h13:f 13=.int .i64 0)(Q:Exit->St->Prop)
  (q:∀f fr g,RaF P o x f fr g (x.list.map (Xf bd o o.num))->Q (.exit 3) (⟨f,[fr],[]⟩:St)) (hcL:lp 14 1 Tryz.f14=cL:=by simp only[eL,eK,Tryz.f14,seval]) :
  QU Tryz.prog (.loop cL) ⟨f,[fr],[]⟩ Q:=by
 subst hcL;simp only[eL,eK,Tryz.f14,seval];have e0:P.av=.agg [.list (P.progs.map Qm),.list (P.enums.map QC)]:=rfl;have hlen:=ZO x
 let I:Nat->St->Prop:=fun k st=>∃f fr i g,st=⟨f,[fr],[]⟩/\k=x.list.length-i/\i<=x.list.length/\RaF P o x f fr g ((x.list.take i).map (Xf bd o o.num))/\f 13=.int .i64 (i:Nat)
 refine Qi I _ ⟨f,fr,0,g,rfl,rfl,Qlx _,h,h13⟩ ?_;clear h h13;rintro _ st ⟨f,fr,i,g,rfl,rfl,hil,⟨h3,h5,h7,h9,m3,m5',m7',mR⟩,h13⟩;have m5:=m5';have m7:=m7';simp only[TF]at m5;simp only[PO.cells]at m7;have hti:((x.list.take i).map (Xf bd o o.num)).length=i:=jR
 rw[hti]at h9;simp only[Qmj,h5,h13,m5,eE,seval];by_cases hlt:i<x.list.length
 ·obtain⟨y,hi⟩:∃y,x.list[i]? = some y:=⟨x.list[i],Qln hlt⟩;have hy:=QlC hi;have hg:=Hk hi;have e1:=Qr i _ hlt xC;have c1:=hel o.num y (hx.list y hy) (Qll (UG hy) hc) (hL y hy);have hts:(x.list.take (i+1)).map (Xf bd o o.num)=(x.list.take i).map (Xf bd o o.num)++[Xf bd o o.num y]:=wh
  generalize Xf bd o o.num y=z at c1 hts;rw[e0,Qd y]at c1;simp only[Qu,PO.cells,R.av]at c1;simp only[QB hlt,Qp,QmS,Qf,hg,h3,h5,h7,h9,h13,m3,m5,m7,eE,seval];refine aC c1 ?_;refine QK (l:=[z.av]) rfl rfl rfl rfl ?_;refine QF (site:=9) (g:=g) (n:=i) (xs:=((x.list.take i).map (Xf bd o o.num)).map R.av) (ys:=[z.av]) xx j8 rfl (by rw[Qmj,hti]) rfl (Jo [z]) xG xI ?_;simp only[h13,e1,Qa,seval];refine⟨x.list.length-(i+1),xw,_,_,i+1,g+1,rfl,rfl,xw,⟨xM,xN,xZ,?_,j5,j9,qq,by rw[hts,Qnf];exact xx⟩,xx⟩;rw[hts,Ql2,hti];exact xx
 ·have e:i=x.list.length:=xw
  exact zk

include ho in
theorem LM {cL:RC}(hbd:∀(t:Int) (v:V),(0<=t/\t<(P.progs.length:Int))->m (Qg P t) v=0->(bd t v).length+70000<=70000*v.cnt)(hel:∀(n:Int) (x:V),x.ok M->x.cnt<=1048576->QW m P o x=0->Qh Tryz.prog 29 [P.av,Qu o,.int .i64 n,x.av] (Xf bd o n x).av)(x:V)(hx:x.ok M)(hc:x.cnt<=1048576)(hE:∀p∈x.pairs,p.1.one P o.key (-1)=0/\QW m P o p.2=0)(f:Fr)(fr:Nat->Ob)(g:Nat)(h:RaF P o x f fr g [])(h10:f 10=.int .i64 0)(r11:∀s∈[11],(fr s).isRow=false)(Q:Exit->St->Prop)
  (q:∀f fr g,RaF P o x f fr g (x.pairs.map (Jf bd o))->Q (.exit 1) (⟨f,[fr],[]⟩:St)) (hcL:lp 14 0 Tryz.f14=cL:=by simp only[eL,eK,Tryz.f14,seval]) :
  QU Tryz.prog (.loop cL) ⟨f,[fr],[]⟩ Q:=by
 subst hcL;simp only[eL,eK,Tryz.f14,seval];have e0:P.av=.agg [.list (P.progs.map Qm),.list (P.enums.map QC)]:=rfl;have hlen:=Jw x
 let I:Nat->St->Prop:=fun k st=>∃f fr i g,st=⟨f,[fr],[]⟩/\k=x.pairs.length-i/\i<=x.pairs.length/\RaF P o x f fr g ((x.pairs.take i).map (Jf bd o))/\f 10=.int .i64 (i:Nat)/\∀s∈[11],(fr s).isRow=false
 refine Qi I _ ⟨f,fr,0,g,rfl,rfl,Qlx _,h,h10,r11⟩ ?_;clear h h10 r11;rintro _ st ⟨f0,fr0,i,g,rfl,rfl,hil,⟨h30,h50,h70,h90,m30,m50,m70,mR0⟩,h100,r11⟩;refine QL (a:=_) [11] r11 ?_;intro f fr hf hm hn11;have hti:((x.pairs.take i).map (Jf bd o)).length=i:=jR
 rw[hti]at h90;have h3:f 3=.ptr 0 3 0:=xW
 have h5:f 5=.ptr 0 5 0:=jN
 have h7:f 7=.ptr 0 7 0:=jU
 have h9:f 9=.vec 0 9 g 0 i false:=ki
 have h10:f 10=.int .i64 (i:Nat):=qP
 have m3:fr 3=.cells [.list (P.progs.map Qm),.list (P.enums.map QC)]:=j0
 have m5':fr 5=.cells (TF o.num x):=jF
 have m7':fr 7=.cells o.cells:=jZ
 have mR:fr 9=.vec g 4 (((x.pairs.take i).map (Jf bd o)).map R.av):=by rw[hm 9 xy,mR0]<;>rfl
 have n11:=hn11 11 xy;clear hf hm hn11 h30 h50 h70 h90 h100 m30 m50 m70 mR0 r11;have m5:=m5';have m7:=m7';simp only[TF]at m5;simp only[PO.cells]at m7;simp only[Qmj,h5,h10,m5,eE,seval];by_cases hlt:i<x.pairs.length
 ·obtain⟨p,hi⟩:∃p,x.pairs[i]? = some p:=⟨x.pairs[i],Qln hlt⟩;have hp:=QlC hi;have hg:=Ky hi;have e1:=Qr i _ hlt xC;have hcc:=HC hp;have hck:=Ve hp;have c0:=u28 p.1;have c2:=hel 2 p.2 (hx.vals p hp) (Qll hcc hc) (hE p hp).2;have hpn:=Gv (l:=[Jl 1 p.1,Xf bd o 2 p.2]) (fun f hf=>by
   rcases QmM.1 hf with rfl|hf
   ·exact Pv (hx.keys p hp) 1
   ·rw[QnC]at hf;subst hf;exact NA (hx.vals p hp) bd o 2) (by have:=Vi hbd ho (hE p hp).1 (hE p hp).2;omega)
  have c4:=c30 [Jl 1 p.1,Xf bd o 2 p.2] hpn.1 hpn.2.1 hpn.2.2;have hts:(x.pairs.take (i+1)).map (Jf bd o)=(x.pairs.take i).map (Jf bd o)++[⟨o.num,6,0,QT [Jl 1 p.1,Xf bd o 2 p.2]⟩]:=by rw[Qng,hi,Qnh,Qnf];rfl
  clear hpn;rw[show Jl 1 p.1={ Xl p.1.kd p.1.bits p.1.text with num:=1 } from rfl]at c4 hts;generalize Xl p.1.kd p.1.bits p.1.text=y0 at c0 c4 hts;generalize Xf bd o 2 p.2=z2 at c2 c4 hts;generalize hd:QT [{ y0 with num:=1 },z2]=d at c4 hts;rw[Qd p.1]at c0;rw[e0,Qd p.2]at c2;simp only[Qu,PO.cells,R.av,Y4,QlW,Qmq]at c0 c2 c4;simp only[QB hlt,Qp,QmS,Qf,hg,h5,h10,m5,eE,seval];refine aC c0 ?_;simp only[Qp,QmS,Qf,hg,n11,h3,h5,h7,h10,m3,m5,m7,eE,seval];refine aC c2 ?_;refine QK (l:=[({ y0 with num:=1 }:R).av,z2.av]) rfl rfl rfl rfl ?_;simp only[h5,h9,m5,eE,seval];refine aC c4 ?_;simp only[eE,seval];refine QK (l:=[(R.mk o.num 6 0 d).av]) rfl rfl rfl rfl ?_;refine QF (site:=9) (g:=g) (n:=i) (xs:=((x.pairs.take i).map (Jf bd o)).map R.av) (ys:=[(R.mk o.num 6 0 d).av]) xx j8 rfl (by rw[Qmj,hti]) rfl (Jo [_]) xG xI ?_;simp only[h10,e1,Qa,seval];refine⟨x.pairs.length-(i+1),xw,_,_,i+1,g+1,rfl,rfl,xw,⟨xM,xN,xZ,?_,j5,j9,qq,by rw[hts,Qnf];exact xx⟩,xx,ZK rfl⟩;rw[hts,Ql2,hti];exact xx
 ·have e:i=x.pairs.length:=xw
  exact zk

end

section
variable {M:Nat}{P:PL}{m:PG->V->Int}{bd:Int->V->List UInt8}

theorem u14 (hU:JX P)(hP:P.ok M)(hbd:∀(t:Int) (v:V),(0<=t/\t<(P.progs.length:Int))->m (Qg P t) v=0->(bd t v).length+70000<=70000*v.cnt)(hb:∀(t:Int) (g:PG),P.progs[t.toNat]? = some g->0<=t->∀v:V,v.ok M->v.cnt<=1048576->m g v=0->Qh Tryz.prog 64 [P.av,.int .i64 t,v.av] (.str (bd t v)))(t:Int)(g:PG)(hgt:P.progs[t.toNat]? = some g)(t0:0<=t)(s:Int×V)(hv:s.2.ok M)(hc:s.2.cnt<=1048576)(hw:Wd P m g s) :
  Qh Tryz.prog 14 [P.av,.int .i64 t,V.sav s] (.list ((Jm bd g s).map R.av)):=by
 have e0:P.av=.agg [.list (P.progs.map Qm),.list (P.enums.map QC)]:=rfl;have hgm:=QlC hgt;obtain⟨o,ho,hf,hemp⟩:=hw;obtain⟨hom,hon⟩:=Jb ho;have hu:=hU g hgm o hom;have c1:=y11 g (hP.progs g hgm).len s.1;rw[Yu,ho]at c1;have c2:=y31 o.num o.name o.alias o.card o.key o.kind o.target o.union;have hel:=fun(n:Int) (x:V) (hx:x.ok M) (hxc:x.cnt<=1048576) (he:QW m P o x=0)=>u29 o hu hb n x hx hxc he
 have hsl:Jm bd g s=YQ bd o s.2:=by unfold Jm;rw[ho]
 rw[hsl];clear hsl;obtain⟨ti,hti⟩:=Qnb t0;subst hti;rw[QmS]at hgt;have hga:(P.progs.map Qm)[ti]? = some (.agg g.cells):=by simp[hgt,Qm]
 have htl:ti<P.progs.length:=(Qlm.1 hgt).1;have d0:decide ((ti:Int)<0)=false:=Qnl xw;have d1:decide ((ti:Int)>=(P.progs.length:Int))=false:=Qnl xw;rw[<-hon]at c1;rw[ZN,<-hon];obtain⟨sn,x⟩:=s;dsimp only at hv hc hf hemp ⊢;clear hon ho;simp only[PG.cells]at hga;simp only[Qm,Qu,PG.cells,PO.cells,QmA,Qnm]at c1;simp only[oc]at c2;refine wF Tryz.func14 ?_;simp only[eK,Tryz.f14,seval];simp only[e0,d0,d1,Qp,QmS,Qf,hga,Qmj,eE,seval];refine aC c1 ?_;simp only[eE,seval];refine XO rfl rfl ?_;simp only[eE,seval];unfold YQ;unfold Xw at hf;by_cases h5:o.card=5
 ·have b5:(o.card==5)=true:=q7
  rw[Qlv h5]at hf;rw[Qlv h5];split at hf
  ·omega
  simp only[b5,Qa,seval];refine LM o hu hbd hel x hv hc (Wa.1 hf).1 _ _ 1 ⟨xx,xx,xx,xx,xx,xx,xx,xx⟩ xx (ZK rfl) _ ?_;exact yC
 have b5:(o.card==5)=false:=q7
 rw[Qlu h5]at hf;rw[Qlu h5];simp only[b5,eE,seval];refine aC c2 ?_;by_cases hp:pk o.card o.kind=true
 ·rw[Qlv hp];obtain⟨h4,_⟩:=Gu hp;obtain⟨hkd,hks⟩:=QcG (m:=m) (P:=P) hp (by unfold Xw;rw[Qlu h5];exact hf);have hxl:=ZO x;have hne:=LC hkd (hemp.resolve_left xw);have cp:=u32 (M:=M) (wk o.kind) (Qbe hp) x.list hne xw (fun y hy=>by rw[hks y hy];exact EZ hp _ _) hv.list;have hpk:F4 o x.list=⟨o.num,5,0,UInt8.ofNat (wk o.kind).toNat :: x.list.flatMap (YP (wk o.kind))⟩:=rfl;rw[hpk];generalize UInt8.ofNat (wk o.kind).toNat :: x.list.flatMap (YP (wk o.kind))=d at cp ⊢;simp only[hp,eE,seval];refine aC cp ?_;simp only[eE,seval];refine QK (l:=[(R.mk o.num 5 0 d).av]) rfl rfl rfl rfl ?_;refine QF (site:=9) (g:=1) (n:=0) (xs:=[]) (ys:=[(R.mk o.num 5 0 d).av]) xx xx rfl rfl rfl (Jo [_]) xG xI ?_;simp only[eE,seval];simp[]
 have hpf:pk o.card o.kind=false:=by simpa using hp
 rw[Qlu hp];simp only[hpf,eE,seval];by_cases h4:o.card=4
 ·have b4:(o.card==4)=true:=kR
  rw[Qlv h4]at hf;rw[Qlv h4];split at hf
  ·omega
  simp only[b4,Qa,seval];refine QcV o hel x hv hc (Kt.1 hf) _ _ 1 ⟨xx,xx,xx,xx,xx,xx,xx,xx⟩ xx _ ?_;exact yC
 ·have b4:(o.card==4)=false:=kR
  rw[Qlu h4]at hf;rw[Qlu h4];have c3:=hel o.num x hv hc hf;generalize Xf bd o o.num x=z at c3 ⊢;rw[e0,Qd x]at c3;simp only[Qu,PO.cells,R.av]at c3;simp only[b4,eE,seval];refine aC c3 ?_;refine QK (l:=[z.av]) rfl rfl rfl rfl ?_;refine QF (site:=9) (g:=1) (n:=0) (xs:=[]) (ys:=[z.av]) xx xx rfl rfl rfl (Jo [_]) xG xI ?_;simp only[eE,seval];simp[]

end
end Go.Proofs.YtmlohboeoeoamaaGreatDoor.Va

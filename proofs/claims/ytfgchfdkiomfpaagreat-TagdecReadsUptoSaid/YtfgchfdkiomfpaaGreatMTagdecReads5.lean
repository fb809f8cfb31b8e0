/- Parts of the proof, in order. -/
import Derived.Test.YtfgchfdkiomfpaaGreatMTagdecReads4

set_option linter.unusedSimpArgs false
namespace Go.Proofs.YtfgchfdkiomfpaaGreat.Va
open Go Am Rc Bt Br Up So Vp Cp

section
variable {M K n:Nat}(hM:3000≤M)(hK:K≤1000000)(P:PL)(hP:P.ok M)(l s:Nat)(m:Qj)(hm:l<m.length){rec:Int→V→C→Rd V}(hrec:H2 P M K n rec)(hro:KH P M K n rec)(g:PG)(hg:g.ops.length≤maxLen)(o:PO)(ho:OpK P g o)(h5:o.card=5)
 (c:C) (hs:Am.Qd m l s=Q4 P c) (hc:CI c) (hcn:c.left≤n) (v:V) (hvm:MW P (n+1) g v) (hvo:v.ok M) (hb:(v.cnt:Int)+3*c.left+3≤K) (hkd:(Lit.int .i64 o.kind).wf=true)

include hM hK hP hm hrec hro hg ho h5 hs hc hcn hvm hvo hb hkd in
theorem j90 :
  Qx Tryz.prog 90 [.ptr l s 0,Qp g,v.av,Qv o] m (Rt P l s m V.av (Jm P rec g v o c)):=by
 have hs0:=hs;have lp:∀o,Am.Qd (Am.put m l s o) l s=o:=fun o=>Ql hm
 have pp:∀o q,Am.put (Am.put m l s o) l s q=Am.put m l s q:=fun o q=>put_put
 have hpl:∀o,l+1<(Am.put m l s o).length+1:=fun o=>by rw[QR];omega
 have ls:=Xe v;have hcv:=Zj v;have hcb:=hc.bd;have hky:=ho.uo.key h5;have hfd:=P2 v o.num (by omega);have hset:=fun x=>CZ g v o x hg (by omega)
 have hol:=W5 (n:=o.num) hvo;have hoc:=Kt v o.num;have hpo:((∀p∈(QL v o.num).pairs,p.1.one P o.key (-1)=0))∧(QL v o.num).pairs.Pairwise fun q p=>Q2 q.1 p.1=false:=by
  cases hf:Xk v o.num with
  |none=>
   rw[Zo (by rw[hf];simp)];exact⟨fun p hp=>(nomatch hp),.nil⟩
  |some z=>
   have h4:=W6 hvm ho.self hf;unfold FW at h4;rw[QPO (by omega),QP5 h5]at h4;rw[(Xg hf).2];exact⟨fun p hp=>(h4.1 p hp).1,h4.2⟩
 have hx0:XI P M n o (Qs o.key 0 [],Qs o.kind 0 []):=by
  refine⟨Xt ?_ (by decide) (QPJ _),Xt hkd (by decide) (QPJ _),HY hky,fun hn e=>Xn hn⟩;unfold Xr at hky;exact ZW (by omega) (by omega)
 have lpz:=Zx (QL v o.num);unfold Jm;generalize QL v o.num=z at hfd hol hoc hpo lpz ⊢;rw[Qc v,Qc z]at hfd;rw[Qc v]at hset;simp only[Qp,Qv,PG.cells,PO.cells]at hset;rw[Qc v];refine k90.go (by simp) ?_;simp only[Qp,Qv,PG.cells,PO.cells,eE,seval];refine QJ (C1 P c (l+1) s _ (by simp only[QPP];omega) hs0 hc) (by simp only[QP8,QQB,Qb,seval]) ?_;intro x m1 hx _;cases hr:Jd c with
 |error e=>
  rw[hr]at hx;obtain⟨he,y,c',rfl,rfl⟩:=hx;dsimp only;simp only[Qu he,QR,eE,seval];exact⟨he,v,c',by rw[Qc v],rfl⟩
 |ok p=>
 obtain⟨q,d⟩:=p;obtain⟨a1,a2⟩:=Jn hc hr;have hd:=a1.ci hc;have hl1:=a1.lt hc;have hdb:=hd.bd;rw[hr]at hx;obtain⟨rfl,rfl⟩:=hx;obtain⟨_,p2,p3⟩:=Kq hd a2;dsimp only;simp only[Q4,Kr,eE,seval];refine Qa hfd rfl rfl rfl (.inl rfl) ?_;simp only[eE,seval];refine QJ (Qtw P d (l+1) s _ (by exact lp _) q) (by simp only[QP8,QQB,Qb,seval]) ?_;rintro x m1 ⟨rfl,rfl⟩ _;cases hf:(Xk v o.num).isSome
 case false=>
  have hkk:(if (false:Bool)=true then(2:Int)else 3)=3:=rfl;rw[hkk];simp only[C.av,Q4,pp,ZB,eE,seval];refine QJ (B4 P (part d q) (l+1) s _ (by exact lp _) 3) (by simp only[QP8,QQB,Qb,seval]) ?_;rintro x m1 ⟨rfl,rfl⟩ _;rcases Zf (part d q) 3 with⟨i,h2,h2'⟩|⟨e,he,h2,h2'⟩
  case inr=>
   rw[h2,h2'];dsimp only;simp only[Qu he,pp,QR,eE,seval];exact⟨he,v,_,by rw[Qc v],rfl⟩
  rw[h2,h2'];obtain⟨s1,_⟩:=XV p2 (by omega) h2;have hci:=s1.ci p2;have hls:=(s1.left p2).2.2;have hib:=hci.bd;dsimp only;simp only[Q4,pp,Kr,eE,seval];have hio:∀x j,Jj P rec o i.left.toNat (Qs o.key 0 [],Qs o.kind 0 []) false false i=.ok (x,j)→XI P M n o x:=fun x j h3=>(K4 hM ho hro h5 _ hci (by omega) (by omega) hx0 h3).2.1
  refine VC (n:=n) P hP l s m hm hrec hM hro g o ho h5 v z d _ i.left.toNat (Qs o.key 0 [],Qs o.kind 0 []) false false i _ _ ⟨(by rfl),(by rfl),(by rfl),(by rfl),(by rfl),(by rfl),(by rfl),(by rfl),(by rfl),(by rfl),(by rfl),(by rfl),(by rfl),(by rfl),(by rfl),(by rfl),(by rfl),(by rfl),(by rfl)⟩ hci (by omega) (by omega) (by omega) rfl (fun _=>rfl) (fun _=>rfl) _ (fun f fr x a b c' hf' hxa hxb hR'=>?_) (fun f fr e c' h8 m8 h9 hR' he=>?_)
  ·obtain⟨h0,h5',h6,h7,h8,h12,h14,h17,h18,h19,m5,m6,m7,m8,m12,m14,m17,m22,m145⟩:=hf';have hxi:=hio _ _ hR';rw[hR'];dsimp only;simp only[PG.cells]at m5;simp only[vc]at m6 m12;simp only[PO.cells]at m7;simp only[XJ]at m8;simp only[XR]at m14;simp only[kc,QPW,QPX]at m17;simp only[Q4,h0,h14,m14,ZP,eE,seval];refine QJ (C2 P c' (l+1) s _ (by exact lp _) d) (by simp only[QP8,QQB,C.av,Qb,seval]) ?_;rintro x1 m1 ⟨rfl,rfl⟩ _;simp only[h12,h17,m12,m17,pp,QQu,eE,seval];have hlz:=fun(b:Bool) (k:Int) (y:V) (h:b=false→y=Qs k 0 [])=>QRe (Zt (b:=b) (l:=y.list.map V.av) (fun e=>by rw[h e];rfl)) (QRe (Zt (b:=b) (l:=y.pairs.map V.pav) (fun e=>by rw[h e];rfl)) (QRe (Zt (b:=b) (l:=y.slots.map V.sav) (fun e=>by rw[h e];rfl)) (Zt (b:=b) (l:=y.raws.map R.av) (fun e=>by rw[h e];rfl))))
   obtain⟨p1,p2,p3,p4⟩:=hlz a _ _ hxa;obtain⟨q1,q2,q3,q4⟩:=hlz b _ _ hxb;refine QN (y:=kc a x.1++kc b x.2) (l:=[V.pav x]) (by cases a<;>cases b<;>rfl) (by cases a<;>cases b<;>rfl) (by cases a<;>cases b<;>rfl) (by simp only[kc,QPW,QPX,QP8,QQB,p1,p2,p3,p4,q1,q2,q3,q4];rw[Q7 x];rfl) ?_;refine Ye (xs:=z.pairs.map V.pav) (ys:=[V.pav x]) rfl rfl (by simp) (XQ z.pairs) (XQ [x]) (by simp[maxLen];omega) (by simp;omega) (by exact m145) ?_;have hub:∀y:V,y.ok M→y.bits<18446744073709551616:=fun y hy=>by
    have:=hy.bits;simp[Lit.wf,IntKind.min,IntKind.max,IntKind.bits,IntKind.signed]at this;omega
   have hkf:KF P o.key z.pairs:=fun p hp=>⟨hpo.1 p hp,hub _ (hol.keys p hp)⟩
   have hpr:=AH (P:=P) hky (z.pairs++[x]) (by simp;omega) (fun p hp=>by
    rcases QQS.1 hp with h|h
    ·exact(hkf p h).1
    ·rw[QRx]at h;subst h;exact hxi.one) (fun p hp=>by
    rcases QQS.1 hp with h|h
    ·exact(hkf p h).2
    ·rw[QRx]at h;subst h;exact hub _ hxi.ky)
   rw[Vy hkf ⟨hxi.one,hub _ hxi.ky⟩ hpo.2,QRl]at hpr;have hk:List.take (z.pairs.length+1) (z.pairs.map V.pav++[V.pav x])=z.pairs.map V.pav++[V.pav x]:=QQa (by simp);have hst:=hset (Z7 (XA o.key z.pairs x));rw[show(Z7 (XA o.key z.pairs x)).av=.agg [.int .i64 12,.int .u64 0,.str [],.list [],.list ((XA o.key z.pairs x).map V.pav),.list [],.list []]from Qc _]at hst;generalize Xi g v o (Z7 (XA o.key z.pairs x))=w at hst ⊢;rw[Qc w]at hst;simp only[QQu,QPP,QQv,Qb,seval];refine KW (site:=145) (g:=_) (sz:=14) (n:=z.pairs.length+1) (xs:=z.pairs.map V.pav++[V.pav x]) (by simp only[Qb,seval]<;>rfl) (by simp only[Qb,seval]) (by simp) ?_;rw[hk];simp only[h5',h6,h7,m5,m6,m7,eE,seval];refine Qa hpr rfl rfl rfl (.inl rfl) ?_;simp only[eE,seval];refine Qa hst rfl rfl rfl (.inl rfl) ?_;simp only[h8,m8,QR,eE,seval];exact⟨by rw[Qc w],rfl⟩
  ·rw[hR'];dsimp only;simp only[vc]at m8;simp only[h8,m8,h9,QR,eE,seval];exact⟨he,v,c',by rw[Qc v],rfl⟩

 case true=>
  have hkk:(if (true:Bool)=true then(2:Int)else 3)=2:=rfl;rw[hkk];simp only[C.av,Q4,pp,ZB,eE,seval];refine QJ (B4 P (part d q) (l+1) s _ (by exact lp _) 2) (by simp only[QP8,QQB,Qb,seval]) ?_;rintro x m1 ⟨rfl,rfl⟩ _;rcases Zf (part d q) 2 with⟨i,h2,h2'⟩|⟨e,he,h2,h2'⟩
  case inr=>
   rw[h2,h2'];dsimp only;simp only[Qu he,pp,QR,eE,seval];exact⟨he,v,_,by rw[Qc v],rfl⟩
  rw[h2,h2'];obtain⟨s1,_⟩:=XV p2 (by omega) h2;have hci:=s1.ci p2;have hls:=(s1.left p2).2.2;have hib:=hci.bd;dsimp only;simp only[Q4,pp,Kr,eE,seval];have hio:∀x j,Jj P rec o i.left.toNat (Qs o.key 0 [],Qs o.kind 0 []) false false i=.ok (x,j)→XI P M n o x:=fun x j h3=>(K4 hM ho hro h5 _ hci (by omega) (by omega) hx0 h3).2.1
  refine VC (n:=n) P hP l s m hm hrec hM hro g o ho h5 v z d _ i.left.toNat (Qs o.key 0 [],Qs o.kind 0 []) false false i _ _ ⟨(by rfl),(by rfl),(by rfl),(by rfl),(by rfl),(by rfl),(by rfl),(by rfl),(by rfl),(by rfl),(by rfl),(by rfl),(by rfl),(by rfl),(by rfl),(by rfl),(by rfl),(by rfl),(by rfl)⟩ hci (by omega) (by omega) (by omega) rfl (fun _=>rfl) (fun _=>rfl) _ (fun f fr x a b c' hf' hxa hxb hR'=>?_) (fun f fr e c' h8 m8 h9 hR' he=>?_)
  ·obtain⟨h0,h5',h6,h7,h8,h12,h14,h17,h18,h19,m5,m6,m7,m8,m12,m14,m17,m22,m145⟩:=hf';have hxi:=hio _ _ hR';rw[hR'];dsimp only;simp only[PG.cells]at m5;simp only[vc]at m6 m12;simp only[PO.cells]at m7;simp only[XJ]at m8;simp only[XR]at m14;simp only[kc,QPW,QPX]at m17;simp only[Q4,h0,h14,m14,ZP,eE,seval];refine QJ (C2 P c' (l+1) s _ (by exact lp _) d) (by simp only[QP8,QQB,C.av,Qb,seval]) ?_;rintro x1 m1 ⟨rfl,rfl⟩ _;simp only[h12,h17,m12,m17,pp,QQu,eE,seval];have hlz:=fun(b:Bool) (k:Int) (y:V) (h:b=false→y=Qs k 0 [])=>QRe (Zt (b:=b) (l:=y.list.map V.av) (fun e=>by rw[h e];rfl)) (QRe (Zt (b:=b) (l:=y.pairs.map V.pav) (fun e=>by rw[h e];rfl)) (QRe (Zt (b:=b) (l:=y.slots.map V.sav) (fun e=>by rw[h e];rfl)) (Zt (b:=b) (l:=y.raws.map R.av) (fun e=>by rw[h e];rfl))))
   obtain⟨p1,p2,p3,p4⟩:=hlz a _ _ hxa;obtain⟨q1,q2,q3,q4⟩:=hlz b _ _ hxb;refine QN (y:=kc a x.1++kc b x.2) (l:=[V.pav x]) (by cases a<;>cases b<;>rfl) (by cases a<;>cases b<;>rfl) (by cases a<;>cases b<;>rfl) (by simp only[kc,QPW,QPX,QP8,QQB,p1,p2,p3,p4,q1,q2,q3,q4];rw[Q7 x];rfl) ?_;refine Ye (xs:=z.pairs.map V.pav) (ys:=[V.pav x]) rfl rfl (by simp) (XQ z.pairs) (XQ [x]) (by simp[maxLen];omega) (by simp;omega) (by exact m145) ?_;have hub:∀y:V,y.ok M→y.bits<18446744073709551616:=fun y hy=>by
    have:=hy.bits;simp[Lit.wf,IntKind.min,IntKind.max,IntKind.bits,IntKind.signed]at this;omega
   have hkf:KF P o.key z.pairs:=fun p hp=>⟨hpo.1 p hp,hub _ (hol.keys p hp)⟩
   have hpr:=AH (P:=P) hky (z.pairs++[x]) (by simp;omega) (fun p hp=>by
    rcases QQS.1 hp with h|h
    ·exact(hkf p h).1
    ·rw[QRx]at h;subst h;exact hxi.one) (fun p hp=>by
    rcases QQS.1 hp with h|h
    ·exact(hkf p h).2
    ·rw[QRx]at h;subst h;exact hub _ hxi.ky)
   rw[Vy hkf ⟨hxi.one,hub _ hxi.ky⟩ hpo.2,QRl]at hpr;have hk:List.take (z.pairs.length+1) (z.pairs.map V.pav++[V.pav x])=z.pairs.map V.pav++[V.pav x]:=QQa (by simp);have hst:=hset (Z7 (XA o.key z.pairs x));rw[show(Z7 (XA o.key z.pairs x)).av=.agg [.int .i64 12,.int .u64 0,.str [],.list [],.list ((XA o.key z.pairs x).map V.pav),.list [],.list []]from Qc _]at hst;generalize Xi g v o (Z7 (XA o.key z.pairs x))=w at hst ⊢;rw[Qc w]at hst;simp only[QQu,QPP,QQv,Qb,seval];refine KW (site:=145) (g:=_) (sz:=14) (n:=z.pairs.length+1) (xs:=z.pairs.map V.pav++[V.pav x]) (by simp only[Qb,seval]<;>rfl) (by simp only[Qb,seval]) (by simp) ?_;rw[hk];simp only[h5',h6,h7,m5,m6,m7,eE,seval];refine Qa hpr rfl rfl rfl (.inl rfl) ?_;simp only[eE,seval];refine Qa hst rfl rfl rfl (.inl rfl) ?_;simp only[h8,m8,QR,eE,seval];exact⟨by rw[Qc w],rfl⟩
  ·rw[hR'];dsimp only;simp only[vc]at m8;simp only[h8,m8,h9,QR,eE,seval];exact⟨he,v,c',by rw[Qc v],rfl⟩
end

section
variable {M K n:Nat}(hM:3000≤M)(hK:K≤1000000)(P:PL)(hP:P.ok M)(l s:Nat)(m:Qj)(hm:l<m.length){rec:Int→V→C→Rd V}(hrec:H2 P M K n rec)(hro:KH P M K n rec)(g:PG)(hg:g.ops.length≤maxLen)(o:PO)(ho:OpK P g o)
 (c:C) (hs:Am.Qd m l s=Q4 P c) (hc:CI c) (hcn:c.left≤n) (v:V) (hvm:MW P (n+1) g v) (hvo:v.ok M) (hb:(v.cnt:Int)+3*c.left+3≤K) (hkd:(Lit.int .i64 o.kind).wf=true)

include hM hK hP hm hrec hro hg ho hs hc hcn hvm hvo hb hkd in
theorem j50 (wr:Int) :
  Qx Tryz.prog 50 [.ptr l s 0,Qp g,v.av,Qv o,.int .i64 wr] m (Rt P l s m V.av (J9 P rec g v o wr c)):=by
 have hcv:=Zj v;have hcb:=hc.bd;have hwo:=P0 o;have hpk:=y91 o.num o.name o.alias o.card o.key o.kind o.target o.union;have hen:=fun(fr:Nat→Ob) (h5:o.card=5)=>j90 hM hK P hP (l+1) s (fr :: m) (by simp only[QPP];omega) hrec hro g hg o ho h5 c (by exact hs) hc hcn v hvm hvo hb hkd
 have hpa:=fun(fr:Nat→Ob) (h5:o.card≠5) (h4:o.card=4)=>j92 (n:=n) hM hK P hP (l+1) s (fr :: m) (by simp only[QPP];omega) g hg o ho h5 c (by exact hs) hc v hvm hvo (by omega) h4
 have hne:=fun(fr:Nat→Ob) (h10:o.kind=10) (h5:o.card≠5)=>j94 P c (l+1) s (fr :: m) (by simp only[QPP];omega) (by exact hs) hc hrec hcn (by omega) g hg v (by omega) hK hvo o ho h10 h5 hvm
 have hon:=fun(fr:Nat→Ob)=>j95 P hP c (l+1) s (fr :: m) (by simp only[QPP];omega) (by exact hs) hc g hg v (by omega) o
 rw[Qc v]at hen hpa hne hon;simp only[Qp,Qv,oc,PG.cells,PO.cells]at hwo hpk hen hpa hne hon;unfold J9;rw[Qc v];refine k50.go (by simp) ?_;simp only[Qp,Qv,PG.cells,PO.cells,eE,seval];by_cases h5:o.card=5
 ·have b5:(o.card==5)=true:=by simp[h5]
  rw[QP5 h5];simp only[b5,Qb,seval];by_cases h6:wr=6
  case neg=>
   have b6:(wr != 6)=true:=by simp[h6]
   rw[QPO h6];simp only[b6,eE,seval];exact⟨by decide,v,c,by rw[Qc v];rfl,(put_self hm hs).symm⟩
  have b6:(wr != 6)=false:=by simp[h6]
  rw[QP5 h6];simp only[b6,eE,seval];refine QJ (hen _ h5) (by simp only[QP8,QQB,Qb,seval]) ?_;intro x m1 hx _;cases hr:Jm P rec g v o c with
  |error e=>
   rw[hr]at hx;obtain⟨he,y,c',rfl,rfl⟩:=hx;simp only[Qc y,QR,eE,seval];exact⟨he,y,c',by rw[Qc y],rfl⟩
  |ok p=>
   obtain⟨w,d⟩:=p;rw[hr]at hx;obtain⟨rfl,rfl⟩:=hx;simp only[Qc w,QR,eE,seval];exact⟨by rw[Qc w],rfl⟩
 have b5:(o.card==5)=false:=by simp[h5]
 rw[QPO h5];simp only[b5,Qb,seval];by_cases hp:wr=5∧pk o.card o.kind=true
 ·obtain⟨hw5,hpk'⟩:=hp;have b6:(wr==5)=true:=by simp[hw5]
  have h4:o.card=4:=by
   unfold pk at hpk';rw[QPY,QP1]at hpk';exact hpk'.1
  rw[QP5 ⟨hw5,hpk'⟩];rw[hpk']at hpk;simp only[b6,eE,seval];refine Qa hpk rfl rfl rfl (.inl rfl) ?_;simp only[eE,seval];refine QJ (hpa _ h5 h4) (by simp only[QP8,QQB,Qb,seval]) ?_;intro x m1 hx _;cases hr:Yj P g v o c with
  |error e=>
   rw[hr]at hx;obtain⟨he,y,c',rfl,rfl⟩:=hx;simp only[Qc y,QR,eE,seval];exact⟨he,y,c',by rw[Qc y],rfl⟩
  |ok p=>
   obtain⟨w,d⟩:=p;rw[hr]at hx;obtain⟨rfl,rfl⟩:=hx;simp only[Qc w,QR,eE,seval];exact⟨by rw[Qc w],rfl⟩
 rw[QPO hp];by_cases hw5:wr=5
 ·have b6:(wr==5)=true:=by simp[hw5]
  have hpf:pk o.card o.kind=false:=by
   cases h:pk o.card o.kind
   ·rfl
   ·exact absurd ⟨hw5,h⟩ hp
  rw[hpf]at hpk;simp only[b6,eE,seval];refine Qa hpk rfl rfl rfl (.inl rfl) ?_;simp only[eE,seval];refine Qa hwo rfl rfl rfl (.inl rfl) ?_;by_cases hw:wr=wk o.kind
  case neg=>
   have b7:(wr != wk o.kind)=true:=by simp[hw]
   rw[QPO hw];simp only[b7,eE,seval];exact⟨by decide,v,c,by rw[Qc v];rfl,(put_self hm hs).symm⟩
  have b7:(wr != wk o.kind)=false:=by simp[hw]
  rw[QP5 hw];simp only[b7,Kr,eE,seval];by_cases h10:o.kind=10
  ·have b10:(o.kind==10)=true:=by simp[h10]
   rw[QP5 h10];simp only[b10,eE,seval];refine QJ (hne _ h10 h5) (by simp only[QP8,QQB,Qb,seval]) ?_;intro x m1 hx _;cases hr:Jx rec g v o c with
   |error e=>
    rw[hr]at hx;obtain⟨he,y,c',rfl,rfl⟩:=hx;simp only[Qc y,QR,eE,seval];exact⟨he,y,c',by rw[Qc y],rfl⟩
   |ok p=>
    obtain⟨w,d⟩:=p;rw[hr]at hx;obtain⟨rfl,rfl⟩:=hx;simp only[Qc w,QR,eE,seval];exact⟨by rw[Qc w],rfl⟩
  ·have b10:(o.kind==10)=false:=by simp[h10]
   rw[QPO h10];simp only[b10,eE,seval];refine QJ (hon _) (by simp only[QP8,QQB,Qb,seval]) ?_;intro x m1 hx _;cases hr:WY P g v o c with
   |error e=>
    rw[hr]at hx;obtain⟨he,y,c',rfl,rfl⟩:=hx;simp only[Qc y,QR,eE,seval];exact⟨he,y,c',by rw[Qc y],rfl⟩
   |ok p=>
    obtain⟨w,d⟩:=p;rw[hr]at hx;obtain⟨rfl,rfl⟩:=hx;simp only[Qc w,QR,eE,seval];exact⟨by rw[Qc w],rfl⟩
 ·have b6:(wr==5)=false:=by simp[hw5]
  simp only[b6,eE,seval];refine Qa hwo rfl rfl rfl (.inl rfl) ?_;by_cases hw:wr=wk o.kind
  case neg=>
   have b7:(wr != wk o.kind)=true:=by simp[hw]
   rw[QPO hw];simp only[b7,eE,seval];exact⟨by decide,v,c,by rw[Qc v];rfl,(put_self hm hs).symm⟩
  have b7:(wr != wk o.kind)=false:=by simp[hw]
  rw[QP5 hw];simp only[b7,Kr,eE,seval];by_cases h10:o.kind=10
  ·have b10:(o.kind==10)=true:=by simp[h10]
   rw[QP5 h10];simp only[b10,eE,seval];refine QJ (hne _ h10 h5) (by simp only[QP8,QQB,Qb,seval]) ?_;intro x m1 hx _;cases hr:Jx rec g v o c with
   |error e=>
    rw[hr]at hx;obtain⟨he,y,c',rfl,rfl⟩:=hx;simp only[Qc y,QR,eE,seval];exact⟨he,y,c',by rw[Qc y],rfl⟩
   |ok p=>
    obtain⟨w,d⟩:=p;rw[hr]at hx;obtain⟨rfl,rfl⟩:=hx;simp only[Qc w,QR,eE,seval];exact⟨by rw[Qc w],rfl⟩
  ·have b10:(o.kind==10)=false:=by simp[h10]
   rw[QPO h10];simp only[b10,eE,seval];refine QJ (hon _) (by simp only[QP8,QQB,Qb,seval]) ?_;intro x m1 hx _;cases hr:WY P g v o c with
   |error e=>
    rw[hr]at hx;obtain⟨he,y,c',rfl,rfl⟩:=hx;simp only[Qc y,QR,eE,seval];exact⟨he,y,c',by rw[Qc y],rfl⟩
   |ok p=>
    obtain⟨w,d⟩:=p;rw[hr]at hx;obtain⟨rfl,rfl⟩:=hx;simp only[Qc w,QR,eE,seval];exact⟨by rw[Qc w],rfl⟩

end

theorem QtD {g:PG}{n:Int}{i:Nat}{x:PO}(h:g.ops[i]? = some x)(hd:XL g n=(g.ops.drop i).find? fun o=>o.num==n) :
  (x.num=n∧XL g n=some x)∨x.num≠n∧XL g n=(g.ops.drop (i+1)).find? fun o=>o.num==n:=by
 have hlt:=(QPD.1 h).1;have hx:=(QPD.1 h).2;rw[QQk hlt,QRn,hx]at hd;by_cases hb:x.num=n
 ·rw[show(x.num==n)=true from by simp[hb]]at hd;exact .inl ⟨hb,hd⟩
 ·rw[show(x.num==n)=false from by simp[hb]]at hd;exact .inr ⟨hb,hd⟩
theorem Qad {g:PG}{n:Int}{i:Nat}(h:¬i<g.ops.length)(hd:XL g n=(g.ops.drop i).find? fun o=>o.num==n):XL g n=none:=by
 rw[hd,QQd (by omega)];rfl
theorem ZQ {P:PL}{t:Int}(ht:0≤t∧t<(P.progs.length:Int)):Qn P t∈P.progs∧P.progs[t.toNat]? = some (Qn P t):=by
 unfold Qn;rw[QPE (by omega:t.toNat<P.progs.length)];exact⟨QQs _,rfl⟩
theorem Ma {g:PG}{i:Nat}{o:PO}(h:g.ops[i]? = some o):(g.ops.map fun o=>AV.agg o.cells)[i]? = some (.agg o.cells):=by
 rw[QQX,h];rfl

structure FlF (g:PG)(v:V)(t:Int)(l s:Nat)(f:Fr)(fr:Nat→Ob):Prop where
 f0:f 0=.ptr (l+1) s 0
 f1:f 1=.int .i64 t
 f5:f 5=.ptr 0 5 0
 f6:f 6=.ptr 0 6 0
 f8:f 8=.ptr 0 8 0
 m5:fr 5=.cells (vc v)
 m6:fr 6=.cells XJ
 m8:fr 8=.cells g.cells
structure FoF (g:PG)(c:C)(num wr:Int)(cc:C)(f:Fr)(fr:Nat→Ob):Prop where
 f9:f 9=.ptr 0 9 0
 f10:f 10=.int .i64 num
 f11:f 11=.int .i64 wr
 f12:f 12=.ptr 0 12 0
 f47:f 47=.list (g.ops.map fun o=>AV.agg o.cells)
 f48:f 48=.int .i64 (g.ops.length:Nat)
 m9:fr 9=.cells (XR c)
 m12:fr 12=.cells (XR cc)
 n16:fr 16=.none

section
variable {M K n:Nat}(hM:3000≤M)(hK:K≤1000000)(P:PL)(hP:P.ok M)(hU:WW P)(hr:ZY P)(l s:Nat)(m:Qj)(hm:l<m.length){rec:Int→V→C→Rd V}(hrec:H2 P M K n rec)(hro:KH P M K n rec)(t:Int)(ht:0≤t∧t<(P.progs.length:Int))

include hM hK hP hm hrec hro hU hr ht in
theorem Qae (v:V)(c cc:C)(num wr:Int)(hcc:CI cc)(hcn:cc.left≤n)(hvm:MW P (n+1) (Qn P t) v)(hvo:v.ok M)(hb:(v.cnt:Int)+3*cc.left+3≤K)(f:Fr)(fr:Nat→Ob)(hf:FlF (Qn P t) v t l s f fr)(hg:FoF (Qn P t) c num wr cc f fr)(h49:f 49=.int .i64 0)(h15:(fr 15).isRow=false)(Q:Exit→St→Prop)
  (h2:∀f fr,FlF (Qn P t) v t l s f fr→FoF (Qn P t) c num wr cc f fr→(fr 15).isRow=false→XL (Qn P t) num=none→Q (.exit 2) ⟨f,fr :: Am.put m l s (Q4 P c),[]⟩)
  (h1:∀f fr o w d,FlF (Qn P t) w t l s f fr→(∀s∈[16,15,12,9],(fr s).isRow=false)→XL (Qn P t) num=some o→J9 P rec (Qn P t) v o wr cc=.ok (w,d)→Q (.exit 1) ⟨f,fr :: Am.put m l s (Q4 P d),[]⟩)
  (he:∀f fr o w (e:Nat) d,f 6=.ptr 0 6 0→fr 6=.cells (vc w)→f 7=.int .i64 (e:Nat)→XL (Qn P t) num=some o→J9 P rec (Qn P t) v o wr cc=.error e→e≠0→Q .ret ⟨f,fr :: Am.put m l s (Q4 P d),[]⟩) :
  QH Tryz.prog (.loop SJ) ⟨f,fr :: Am.put m l s (Q4 P c),[]⟩ Q:=by
 have lp:∀o,Am.Qd (Am.put m l s o) l s=o:=fun o=>Ql hm
 have pp:∀o q,Am.put (Am.put m l s o) l s q=Am.put m l s q:=fun o q=>put_put
 have hpl:∀o,l+1<(Am.put m l s o).length+1:=fun o=>by rw[QR];omega
 have hgl:(Qn P t).ops.length≤maxLen:=(hP.progs _ (ZQ ht).1).len
 let I:Nat→St→Prop:=fun k st=>∃f fr i,st=⟨f,fr :: Am.put m l s (Q4 P c),[]⟩∧k=(Qn P t).ops.length-i∧i≤(Qn P t).ops.length∧(XL (Qn P t) num=((Qn P t).ops.drop i).find? fun o=>o.num==num)∧FlF (Qn P t) v t l s f fr∧FoF (Qn P t) c num wr cc f fr∧f 49=.int .i64 (i:Nat)∧(fr 15).isRow=false
 refine Qg I _ ⟨f,fr,0,rfl,rfl,QPJ _,rfl,hf,hg,h49,h15⟩ ?_;clear hf hg h49 h15;rintro k st ⟨f0,fr0,i,rfl,rfl,hil,hfd,⟨h00,h10,h50,h60,h80,m50,m60,m80⟩,⟨h90,h100,h110,h120,h470,h480,m90,m120,n160⟩,h490,n150⟩;refine QX (a:=_) [15] (by intro s hs;simp only[QRx]at hs;subst hs;exact n150) ?_;intro f fr hf hmm hn15;have h0:f 0=.ptr (l+1) s 0:=by rw[hf,h00]<;>rfl
 have h1':f 1=.int .i64 t:=by rw[hf,h10]<;>rfl
 have h5:f 5=.ptr 0 5 0:=by rw[hf,h50]<;>rfl
 have h6:f 6=.ptr 0 6 0:=by rw[hf,h60]<;>rfl
 have h8:f 8=.ptr 0 8 0:=by rw[hf,h80]<;>rfl
 have h9:f 9=.ptr 0 9 0:=by rw[hf,h90]<;>rfl
 have h10':f 10=.int .i64 num:=by rw[hf,h100]<;>rfl
 have h11:f 11=.int .i64 wr:=by rw[hf,h110]<;>rfl
 have h12:f 12=.ptr 0 12 0:=by rw[hf,h120]<;>rfl
 have h47:f 47=.list ((Qn P t).ops.map fun o=>AV.agg o.cells):=by rw[hf,h470]<;>rfl
 have h48:f 48=.int .i64 ((Qn P t).ops.length:Nat):=by rw[hf,h480]<;>rfl
 have h49:f 49=.int .i64 (i:Nat):=by rw[hf,h490]<;>rfl
 have m5':fr 5=.cells (vc v):=by rw[hmm 5 (by decide),m50]<;>rfl
 have m6':fr 6=.cells XJ:=by rw[hmm 6 (by decide),m60]<;>rfl
 have m8':fr 8=.cells (Qn P t).cells:=by rw[hmm 8 (by decide),m80]<;>rfl
 have m9':fr 9=.cells (XR c):=by rw[hmm 9 (by decide),m90]<;>rfl
 have m12':fr 12=.cells (XR cc):=by rw[hmm 12 (by decide),m120]<;>rfl
 have n15:=hn15 15 (by decide);have n16':fr 16=.none:=by rw[hmm 16 (by decide),n160]<;>rfl
 clear hf hmm hn15 h00 h10 h50 h60 h80 h90 h100 h110 h120 h470 h480 h490 m50 m60 m80 m90 m120 n160 n150;have m5:=m5';have m6:=m6';have m8:=m8';have m12:=m12';simp only[vc]at m5;simp only[XJ]at m6;simp only[PG.cells]at m8;simp only[XR]at m12;simp only[h48,h49,Qb,seval];by_cases hlt:i<(Qn P t).ops.length
 case neg=>
  simp only[QO hlt,Qb,seval];exact h2 _ _ ⟨(by exact h0),(by exact h1'),(by exact h5),(by exact h6),(by exact h8),m5',m6',m8'⟩ ⟨(by exact h9),(by exact h10'),(by exact h11),(by exact h12),(by exact h47),(by exact h48),m9',m12',n16'⟩ (by rw[n15]<;>rfl) (Qad hlt hfd)
 obtain⟨o,hi⟩:∃o,(Qn P t).ops[i]? = some o:=⟨_,QPE hlt⟩;have hgo:((Qn P t).ops.map fun o=>AV.agg o.cells)[i]? = some (.agg [.int .i64 o.num,.str o.name,.str o.alias,.int .i64 o.card,.int .i64 o.key,.int .i64 o.kind,.int .i64 o.target,.int .i64 o.union]):=Ma hi;have e1:=Qw i _ hlt hgl;simp only[Qr hlt,h47,h49,Qm,QQ2,Qf,hgo,h10',n15,Kr,eE,seval];rcases QtD hi hfd with⟨hn,hop⟩|⟨hn,hfd'⟩
 case inr=>
  have b1:(o.num != num)=true:=by simp[hn]
  simp only[b1,h49,e1,Qb,seval];exact⟨(Qn P t).ops.length-(i+1),by omega,_,_,i+1,rfl,rfl,by omega,hfd',⟨(by exact h0),(by exact h1'),(by exact h5),(by exact h6),(by exact h8),(by exact m5'),(by exact m6'),(by exact m8')⟩,⟨(by exact h9),(by exact h10'),(by exact h11),(by exact h12),(by exact h47),(by exact h48),(by exact m9'),(by exact m12'),(by exact n16')⟩,(by rfl),by rfl⟩
 have b1:(o.num != num)=false:=by simp[hn]
 obtain⟨ho,hkd,_⟩:=Da hP hU hr ht hop;have hfl:=fun(fr:Nat→Ob)=>j50 (n:=n) hM hK P hP (l+1) s (fr :: Am.put m l s (Q4 P cc)) (by exact hpl _) hrec hro (Qn P t) hgl o ho cc (by exact lp _) hcc hcn v hvm hvo hb hkd wr
 rw[Qc v]at hfl;simp only[Qp,Qv,PG.cells,PO.cells,Q4]at hfl;simp only[b1,h0,h5,h8,h11,h12,m5,m8,m12,lp,pp,Q4,ZP,ZB,eE,seval];refine QJ (hfl _) (by simp only[QP8,QQB,Qb,seval]<;>rfl) ?_;intro y m1 hy _;cases hrr:J9 P rec (Qn P t) v o wr cc with
 |error e=>
  rw[hrr]at hy;obtain⟨he',w,d,rfl,rfl⟩:=hy;simp only[Qc w,Qu he',h5,h6,m5,m6,pp,eE,seval];exact he _ _ o w e d (by exact h6) (by rfl) (by rfl) hop hrr he'
 |ok p=>
  obtain⟨w,d⟩:=p;rw[hrr]at hy;obtain⟨rfl,rfl⟩:=hy;simp only[Qc w,h5,m5,pp,eE,seval];exact h1 _ _ o w d ⟨(by exact h0),(by exact h1'),(by exact h5),(by exact h6),(by exact h8),(by rfl),(by exact m6'),(by exact m8')⟩ (by
   intro s hs;simp only[QQV,QRA,or_false]at hs;rcases hs with rfl|rfl|rfl|rfl
   ·show(fr 16).isRow=false;rw[n16'];rfl
   ·rfl
   ·show(fr 12).isRow=false;rw[m12'];rfl
   ·show(fr 9).isRow=false;rw[m9'];rfl) hop hrr

include hM hK hP hm hrec hro hU hr ht in
theorem Qaf (R0:Rd V)(k:Nat)(v:V)(c:C)(f:Fr)(fr:Nat→Ob)(hf:FlF (Qn P t) v t l s f fr)(hrow:∀s∈[16,15,12,9],(fr s).isRow=false)(hc:CI c)(hk:c.left≤k)(hcn:c.left≤n)(hR:Zw P rec t k v c=R0)(hvm:MW P (n+1) (Qn P t) v)(hvo:v.ok M)(hb:(v.cnt:Int)+3*c.left≤K)(Q:Exit→St→Prop)
  (hx:∀f fr v c,FlF (Qn P t) v t l s f fr→R0=.ok (v,c)→Q (.exit 0) ⟨f,fr :: Am.put m l s (Q4 P c),[]⟩)
  (he:∀f fr w (e:Nat) c,f 6=.ptr 0 6 0→fr 6=.cells (vc w)→f 7=.int .i64 (e:Nat)→R0=.error e→e≠0→Q .ret ⟨f,fr :: Am.put m l s (Q4 P c),[]⟩) :
  QH Tryz.prog (.loop SK) ⟨f,fr :: Am.put m l s (Q4 P c),[]⟩ Q:=by
 have lp:∀o,Am.Qd (Am.put m l s o) l s=o:=fun o=>Ql hm
 have pp:∀o q,Am.put (Am.put m l s o) l s q=Am.put m l s q:=fun o q=>put_put
 let I:Nat→St→Prop:=fun k st=>∃f fr v c,st=⟨f,fr :: Am.put m l s (Q4 P c),[]⟩∧FlF (Qn P t) v t l s f fr∧(∀s∈[16,15,12,9],(fr s).isRow=false)∧CI c∧c.left≤k∧c.left≤n∧Zw P rec t k v c=R0∧MW P (n+1) (Qn P t) v∧v.ok M∧(v.cnt:Int)+3*c.left≤K
 refine Qg I k ⟨f,fr,v,c,rfl,hf,hrow,hc,hk,hcn,hR,hvm,hvo,hb⟩ ?_;clear hf hrow hc hk hcn hR hvm hvo hb;rintro k st ⟨f0,fr0,v,c,rfl,⟨h00,h10,h50,h60,h80,m50,m60,m80⟩,hrow,hc,hk,hcn,hR,hvm,hvo,hb⟩;have hcb:=hc.bd;have hcv:=Zj v;have lr:=Zz v;refine QX (a:=_) [16,15,12,9] hrow ?_;intro f fr hf hmm hn;have h0:f 0=.ptr (l+1) s 0:=by rw[hf,h00]<;>rfl
 have h1':f 1=.int .i64 t:=by rw[hf,h10]<;>rfl
 have h5:f 5=.ptr 0 5 0:=by rw[hf,h50]<;>rfl
 have h6:f 6=.ptr 0 6 0:=by rw[hf,h60]<;>rfl
 have h8:f 8=.ptr 0 8 0:=by rw[hf,h80]<;>rfl
 have m5':fr 5=.cells (vc v):=by rw[hmm 5 (by decide),m50]<;>rfl
 have m6':fr 6=.cells XJ:=by rw[hmm 6 (by decide),m60]<;>rfl
 have m8':fr 8=.cells (Qn P t).cells:=by rw[hmm 8 (by decide),m80]<;>rfl
 have n16:=hn 16 (by decide);have n15:=hn 15 (by decide);have n12:=hn 12 (by decide);have n9:=hn 9 (by decide);clear hf hmm hn h00 h10 h50 h60 h80 m50 m60 m80 hrow;have m5:=m5';have m6:=m6';have m8:=m8';simp only[vc]at m5;simp only[XJ]at m6;simp only[PG.cells]at m8;simp only[Q4,lp,h0,ZP,eE,seval];refine Qa (D3 c hc.big') rfl rfl rfl (.inl rfl) ?_;by_cases hlt:0<c.left
 case neg=>
  have d1:decide (c.left > 0)=false:=QRo hlt;have hR':R0=.ok (v,c):=by
   rw[←hR];cases k with
   |zero=>rfl
   |succ k=>rw[Zw,QPO hlt]
  simp only[d1,Qb,seval];exact hx _ _ v c ⟨(by exact h0),(by exact h1'),(by exact h5),(by exact h6),(by exact h8),m5',m6',m8'⟩ hR'
 have d1:decide (c.left > 0)=true:=QRs hlt;obtain⟨k,rfl⟩:∃j,k=j+1:=⟨k-1,by omega⟩;rw[Zw,QP5 hlt]at hR;have htt:=c49 c hc.big;have hta:=Wj hc;have hnx:=c51 c hc.big;have hna:=BC hc;generalize Qz c=tg at htt hta hR hna;obtain⟨num,w,c1,e⟩:=tg;dsimp only at hta hR hna;simp only[Wv,C.av]at htt;simp only[d1,lp,h0,n9,ZP,ZB,eE,seval];refine Qa htt rfl rfl rfl (.inl rfl) ?_;by_cases he0:e=0
 case neg=>
  rw[QPO he0]at hR;simp only[n12,Qu he0,h5,h6,m5,m6,ZB,eE,seval];exact he _ _ v e c (by exact h6) (by rfl) (by rfl) hR.symm he0
 subst he0;obtain⟨t1,t2,t3,t4,t5⟩:=hta rfl;have hc1:=t1.ci hc;have hl1:=t1.lt hc;have hc1b:=hc1.bd;rw[QP5 rfl]at hR;simp only[n12,h8,m8,QQu,ZB,eE,seval];refine Qae (n:=n) hM hK P hP hU hr l s m hm hrec hro t ht v c c1 num w hc1 (by omega) hvm hvo (by omega) _ _ ⟨(by exact h0),(by exact h1'),(by exact h5),(by exact h6),(by exact h8),(by exact m5'),(by exact m6'),(by exact m8')⟩ ⟨(by rfl),(by rfl),(by rfl),(by rfl),(by rfl),(by rfl),(by rfl),(by rfl),by exact n16⟩ (by rfl) (by show(fr 15).isRow=false;rw[n15];rfl) _ (fun f fr hf hg h15 hop=>?_) (fun f fr o y d hf hrow hop hrf=>?_) (fun f fr o y e d h6 m6 h7 hop hrf he'=>?_)
 ·obtain⟨h0,h1',h5,h6,h8,m5,m6,m8⟩:=hf;obtain⟨h9,h10,h11,h12,h47,h48,m9,m12,n16⟩:=hg;rw[hop]at hR;generalize XH c=nn at hnx hna hR;obtain⟨x,d,e⟩:=nn;dsimp only at hna hR;simp only[ZV,C.av,R.av]at hnx;have m5':=m5;have m6':=m6;have m8':=m8;simp only[vc]at m5;simp only[XJ]at m6;simp only[XR]at m9 m12;simp only[h9,m9,ZP,eE,seval];refine Qa hnx rfl rfl rfl (.inl rfl) ?_;by_cases he0:e=0
  case neg=>
   rw[QPO he0]at hR;simp only[n16,Qu he0,h5,h6,h12,m5,m6,m12,ZB,eE,seval];exact he _ _ v e c (by exact h6) (by rfl) (by rfl) hR.symm he0
  subst he0;obtain⟨a1,_,a2,a3,a4,a5,a6,a7⟩:=hna rfl;have hla:=a1.lt hc;have hrw:x.ok M:=⟨ZW (by omega) (by omega),ZW (by omega) (by omega),by simp[Lit.wf,IntKind.min,IntKind.max,IntKind.bits,IntKind.signed];omega,by omega⟩;have ea:=Hd v x;have hva:=G8 (f:=x) hvm;have hoa:=G7 hvo hrw (by omega);have hsd:=j52 v x (by omega);rw[QP5 rfl]at hR;generalize Wh v x=u at hsd ea hva hoa hR;rw[Qc v,Qc u]at hsd;simp only[R.av]at hsd;simp only[n16,h0,h5,h12,m5,m12,lp,pp,Q4,ZP,ZB,eE,seval];refine Qa hsd rfl rfl rfl (.inl rfl) ?_;simp only[h5,m5,eE,seval];exact⟨k,by omega,_,_,u,d,rfl,⟨(by exact h0),(by exact h1'),(by exact h5),(by exact h6),(by exact h8),(by rfl),(by exact m6'),(by exact m8')⟩,(by
   intro s hs;simp only[QQV,QRA,or_false]at hs;rcases hs with rfl|rfl|rfl|rfl
   ·rfl
   ·exact h15
   ·rfl
   ·show(fr 9).isRow=false;rw[m9];rfl),a1.ci hc,by omega,by omega,hR,hva,hoa,by omega⟩
 ·obtain⟨ho,hkd,_⟩:=Da hP hU hr ht hop;obtain⟨b1,b2,b3,b4⟩:=UW hM hK ho hro hkd hc1 (by omega) hvm hvo (by omega) hrf;have hlb:=b1.lt hc1;rw[hop]at hR;dsimp only at hR;rw[hrf]at hR;exact⟨k,by omega,f,fr,y,d,rfl,hf,hrow,b1.ci hc1,by omega,by omega,hR,b2,b3,by omega⟩
 ·rw[hop]at hR;dsimp only at hR;rw[hrf]at hR;exact he _ _ y e d h6 m6 h7 hR.symm he'

include hM hK hP hm hrec hro hU hr ht in
theorem Nt (v:V)(c:C)(hs:Am.Qd m l s=Q4 P c)(hc:CI c)(hcn:c.left≤n)(hvm:MW P (n+1) (Qn P t) v)(hvo:v.ok M)(hb:(v.cnt:Int)+3*c.left≤K) :
  Qx Tryz.prog 26 [.ptr l s 0,.int .i64 t,v.av] m (Rt P l s m V.av (Zw P rec t c.left.toNat v c)):=by
 have lp:∀o,Am.Qd (Am.put m l s o) l s=o:=fun o=>Ql hm
 have hcb:=hc.bd;have hlt:t.toNat<P.progs.length:=by omega
 have hgp:(P.progs.map Qp)[t.toNat]? = some (.agg [.str (Qn P t).name,.list ((Qn P t).ops.map fun o=>AV.agg o.cells),.int .i64 (Qn P t).unions]):=by
  rw[QQX,(ZQ ht).2];rfl
 have ht0:(0≤t)=True:=by simp[ht.1]
 have e0:=put_self hm hs;have hsl:∀xs,((AV.list xs).shN l).sh=.list xs:=fun xs=>shl xs (l+1)
 rw[Q4]at hs;rw[Qc v];refine k26.go (by simp) ?_;simp only[hs,hgp,hsl,ht0,Qf,eE,seval];rw[←e0];refine Qaf hM hK P hP hU hr l s m hm hrec hro t ht _ c.left.toNat v c _ _ ⟨(by rfl),(by rfl),(by rfl),(by rfl),(by rfl),(by rfl),(by rfl),(by rfl)⟩ (by
   intro s hs;simp only[QQV,QRA,or_false]at hs;rcases hs with rfl|rfl|rfl|rfl<;>rfl) hc (by omega) hcn rfl hvm hvo hb _ (fun f fr w d hf hR=>?_) (fun f fr w e d h6 m6 h7 hR he=>?_)
 ·obtain⟨h0,h1',h5,h6,h8,m5,m6,m8⟩:=hf;rw[e0,hR];simp only[vc]at m5;simp only[XJ]at m6;simp only[h5,h6,m5,m6,QR,eE,seval];exact⟨by rw[Qc w],rfl⟩
 ·rw[e0,hR];simp only[vc]at m6;simp only[h6,m6,h7,QR,eE,seval];exact⟨he,w,d,by rw[Qc w],rfl⟩

end

theorem QtE {M K:Nat}(hM:3000≤M)(hK:K≤1000000){P:PL}(hP:P.ok M)(hU:WW P)(hr:ZY P):∀n:Nat,H2 P M K n (Yu P n)
 |0,l,s,m,t,v,c,hm,hs,hc,hcl,ht,hvm,hvo,hb=>by
  have:=hc.bd;omega
 |n+1,l,s,m,t,v,c,hm,hs,hc,hcl,ht,hvm,hvo,hb=>
  Nt hM hK P hP hU hr l s m hm (QtE hM hK hP hU hr n) (WL hM hK hP hU hr n) t ht v c hs hc (by omega) hvm hvo hb

theorem H5:∀(l:List PO) (n b:Int),0≤n→-1≤b→(JT l n b).isSome=true→∀o∈l,-1≤o.union
 | [],_,_,_,_,_,o,ho=>by cases ho
 |q :: l,n,b,hn,hb,h,o,ho=>by
  rw[JT]at h;have key : -1≤q.union∧((o∈l)→-1≤o.union):=by
   split at h
   ·rename_i h1;exact⟨by omega,fun hm=>H5 l (n+1) n (by omega) (by omega) h o hm⟩
   ·split at h
    ·rename_i h1;have : -1≤q.union:=by rcases h1 with h1|h1<;>omega
     exact⟨this,fun hm=>H5 l n q.union hn this h o hm⟩
    ·cases h
  rcases QQV.1 ho with rfl|hm
  ·exact key.1
  ·exact key.2 hm
def AJ (P:PL):Prop:=∀g∈P.progs,∀o∈g.ops,-1≤o.union
theorem QtF {P:PL}(h:ck P=0):AJ P:=by
 have ha:=(H1 h).2;intro g hg o ho;unfold args at ha;simp only[QPY,QPM]at ha;have h1:=ha.1 g hg;unfold KC at h1;simp only[QPY,QPM]at h1;have h2:=h1.1;unfold Wr at h2;refine H5 g.ops 0 (-1) (by omega) (by omega) ?_ o ho;cases hj:JT g.ops 0 (-1)with
 |none=>rw[hj]at h2;cases h2
 |some n=>rfl

theorem AK {v:V}{c:C}{r:Rd V}(h:∀e,r=.error e→e≠0):r=if (KO v c r).2.2=0 then .ok ((KO v c r).1,(KO v c r).2.1)else .error (KO v c r).2.2:=by
 cases r with
 |error e=>
  have:=h e rfl;rw[X3,QPO this]
 |ok p=>rfl

section
variable (P:PL){rec:Int→V→C→Rd V}(hre:Yx rec)
def Wl (rec:Int→V→C→Rd V)(g:PG)(v:V)(o:PO)(w:Int)(c d:C):V×C×Nat :=
 if o.card=5 then(if w=6 then KO v d (Jm P rec g v o d)else(v,c,13))
 else if w=5∧pk o.card o.kind=true then WH P g v o d
 else if w=wk o.kind then(if o.kind=10 then KO v d (Jx rec g v o d)else J2 P g v o d)
 else(v,c,13)
def Kj (rec:Int→V→C→Rd V)(g:PG)(v:V)(c:C):V×C×Nat :=
 if (Qz c).2.2.2=0 then
  (match XL g (Qz c).1 with
  |none=>if (XH c).2.2=0 then(Wh v (XH c).1,(XH c).2.1,0)else(v,c,(XH c).2.2)
  |some o=>Wl P rec g v o (Qz c).2.1 c (Qz c).2.2.1)
 else(v,c,(Qz c).2.2.2)

include hre in
theorem Nb (g:PG)(v:V)(o:PO)(w:Int)(c d:C):J9 P rec g v o w d=if (Wl P rec g v o w c d).2.2=0 then .ok ((Wl P rec g v o w c d).1,(Wl P rec g v o w c d).2.1)else .error (Wl P rec g v o w c d).2.2:=by
 unfold J9 Wl;by_cases h5:o.card=5
 ·simp only[QP5 h5];by_cases h6:w=6
  ·simp only[QP5 h6];exact AK fun e h=>Su hre h
  ·simp only[QPO h6];rfl
 simp only[QPO h5];by_cases hp:w=5∧pk o.card o.kind=true
 ·simp only[QP5 hp];exact Ns P g v o d
 simp only[QPO hp];by_cases hw:w=wk o.kind
 case neg=>
  simp only[QPO hw];rfl
 simp only[QP5 hw];by_cases h10:o.kind=10
 ·simp only[QP5 h10];exact AK fun e h=>Qaa hre h
 ·simp only[QPO h10];exact UX P g v o d
include hre in
theorem P8 (t:Int)(k:Nat)(v:V)(c:C)(hlt:0<c.left):Zw P rec t (k+1) v c=if (Kj P rec (Qn P t) v c).2.2=0 then Zw P rec t k (Kj P rec (Qn P t) v c).1 (Kj P rec (Qn P t) v c).2.1 else .error (Kj P rec (Qn P t) v c).2.2:=by
 rw[Zw,QP5 hlt];unfold Kj;by_cases h1:(Qz c).2.2.2=0
 case neg=>simp only[QPO h1]
 simp only[QP5 h1];cases hop:XL (Qn P t) (Qz c).1 with
 |none=>
  dsimp only;by_cases h2:(XH c).2.2=0
  ·simp only[QP5 h2,if_true]
  ·simp only[QPO h2]
 |some o=>
  dsimp only;rw[Nb P hre (Qn P t) v o (Qz c).2.1 c (Qz c).2.2.1];by_cases h2:(Wl P rec (Qn P t) v o (Qz c).2.1 c (Qz c).2.2.1).2.2=0
  ·simp only[QP5 h2]
  ·simp only[QPO h2]
include hre in
theorem VF (t:Int):∀(k:Nat) (v:V) (c:C) (e:Nat),Zw P rec t k v c=.error e→e≠0
 |0,_,_,_,h=>by cases h
 |k+1,v,c,e,h=>by
  by_cases hlt:0<c.left
  ·rw[P8 P hre t k v c hlt]at h;split at h
   ·exact VF t k _ _ e h
   ·rename_i h1;cases h;exact h1
  ·rw[Zw,QPO hlt]at h;cases h
theorem Nc:∀n:Nat,Yx (Yu P n)
 |0,_,_,_,_,h=>by cases h
 |n+1,t,v,c,e,h=>VF P (Nc n) t _ v c e h
end

section
variable {M K n:Nat}(hM:3000≤M)(hK:K≤1000000)(P:PL)(hP:P.ok M)(hU:WW P)(hr:ZY P)(hun:AJ P){rec:Int→V→C→Rd V}(hrec:H3 P M K n rec)(hre:Yx rec)(hro:KH P M K n rec)(t:Int)(ht:0≤t∧t<(P.progs.length:Int))

include hM hK hP hU hr hro hre ht in
theorem Qag {c:C}(hc:CI c)(hcn:c.left≤n){v:V}(hvm:MW P (n+1) (Qn P t) v)(hvo:v.ok M)(hb:(v.cnt:Int)+3*c.left≤K)(h:(Kj P rec (Qn P t) v c).2.2=0) :
  As c (Kj P rec (Qn P t) v c).2.1∧MW P (n+1) (Qn P t) (Kj P rec (Qn P t) v c).1∧(Kj P rec (Qn P t) v c).1.ok M∧((Kj P rec (Qn P t) v c).1.cnt:Int)+3*(Kj P rec (Qn P t) v c).2.1.left≤v.cnt+3*c.left:=by
 have lr:=Zz v;have hcb:=hc.bd;unfold Kj at h ⊢;by_cases htg:(Qz c).2.2.2=0
 case neg=>rw[QPO htg]at h;exact absurd h htg
 rw[QP5 htg]at h ⊢;obtain⟨t1,_⟩:=Wj hc htg;have hl:=t1.lt hc;cases hop:XL (Qn P t) (Qz c).1 with
 |none=>
  rw[hop]at h;dsimp only at h ⊢;by_cases hx:(XH c).2.2=0
  case neg=>rw[QPO hx]at h;exact absurd h hx
  rw[QP5 hx];obtain⟨a1,_,a2,a3,a4,a5,a6,a7⟩:=BC hc hx;have hla:=a1.lt hc;have hrw:(XH c).1.ok M:=⟨ZW (by omega) (by omega),ZW (by omega) (by omega),by simp[Lit.wf,IntKind.min,IntKind.max,IntKind.bits,IntKind.signed];omega,by omega⟩;have ea:=Hd v (XH c).1;exact⟨a1,G8 hvm,G7 hvo hrw (by omega),by dsimp only;omega⟩
 |some o=>
  rw[hop]at h;dsimp only at h ⊢;obtain⟨ho,hkd,_⟩:=Da hP hU hr ht hop;have hx:=Nb P hre (Qn P t) v o (Qz c).2.1 c (Qz c).2.2.1;rw[QP5 h]at hx;obtain⟨b1,b2,b3,b4⟩:=UW hM hK ho hro hkd (t1.ci hc) (by omega) hvm hvo (by omega) hx;have hlb:=b1.lt (t1.ci hc);exact⟨t1.1.strict b1 hc,b2,b3,by omega⟩

set_option maxHeartbeats 1000000 in
include hM hK hP hU hr hun hrec hre hro ht in
theorem j43 {c:C}(hc:CI c)(hcn:c.left≤n)(v:V)(hvm:MW P (n+1) (Qn P t) v)(hvo:v.ok M)(hb:(v.cnt:Int)+3*c.left≤K)(hlt:0<c.left) :
  Qh Tryz.prog 43 [P.av,Qp (Qn P t),v.av,c.av] (xv (Kj P rec (Qn P t) v c)):=by
 have ls:=Xe v;have lr:=Zz v;have hcv:=Zj v;have hcb:=hc.bd;have hgl:(Qn P t).ops.length≤maxLen:=(hP.progs _ (ZQ ht).1).len;have htt:=c74 c hc.big;have hta:=Wj hc;have hnx:=c76 c hc.big;have hsl:∀s∈v.slots,∃q,XL (Qn P t) s.1=some q:=fun s hs=>let ⟨q,h,_⟩:=hvm.1 s hs;⟨q,h⟩
 have hop1:=fun {o:PO} {m:Int} (h:XL (Qn P t) m=some o)=>Da hP hU hr ht h
 have hop2:=fun {o:PO} {m:Int} (h:XL (Qn P t) m=some o)=>hun _ (ZQ ht).1 o (YG h).1
 generalize Qn P t=g at *;have co:=fun n=>y75 g hgl n
 simp only[Hb]at co;unfold Kj;generalize Qz c=tg at htt hta ⊢;obtain⟨num,w,c1,e⟩:=tg;dsimp only at hta ⊢;simp only[Wv,C.av]at htt;by_cases he0:e=0
 case neg=>
  rw[QPO he0];rw[show P.av=.agg (QG P)from rfl,Qc v];refine k43.fn (by simp) ?_;simp only[QG,Qp,PG.cells,C.av,eE,seval];refine Qa htt rfl rfl rfl (.inl rfl) ?_;simp only[Qu he0,xv,Qc v,C.av,eE,seval]
 subst he0;obtain⟨t1,t2,t3,t4,t5⟩:=hta rfl;have hc1:=t1.ci hc;have hl1:=t1.lt hc;have hc1b:=hc1.bd;have co:=co num;rw[QP5 rfl];cases hop:XL g num with
 |none=>
  rw[hop]at co;have hsd:=fun(h:(XH c).2.2=0)=>j77 v (XH c).1 (by omega)
  simp only[Qp,PG.cells,QRc,QQq,N7,Qv,PO.cells]at co;dsimp only;generalize XH c=nn at hnx hsd ⊢;obtain⟨x,d,e⟩:=nn;simp only[ZV,C.av,R.av]at hnx;dsimp only at hsd ⊢;rw[show P.av=.agg (QG P)from rfl,Qc v];refine k43.fn (by simp) ?_;simp only[QG,Qp,PG.cells,C.av,eE,seval];refine Qa htt rfl rfl rfl (.inl rfl) ?_;simp only[eE,seval];refine Qa co rfl rfl rfl (.inl rfl) ?_;simp only[eE,seval];refine Qa hnx rfl rfl rfl (.inl rfl) ?_;by_cases he:e=0
  case neg=>
   rw[QPO he];simp only[Qu he,xv,Qc v,C.av,eE,seval]
  subst he;have hsd:=hsd rfl;rw[QP5 rfl];generalize Wh v x=u at hsd ⊢;rw[Qc v,Qc u]at hsd;simp only[R.av]at hsd;simp only[eE,seval];refine Qa hsd rfl rfl rfl (.inl rfl) ?_;simp only[xv,Qc u,C.av,eE,seval]
 |some o=>
 obtain⟨ho,hkd,_⟩:=hop1 hop;have huo:=hop2 hop;rw[hop]at co;have hwi:=DD o.num o.name o.alias o.card o.key o.kind o.target o.union;have hpk:=y79 o.num o.name o.alias o.card o.key o.kind o.target o.union;have hen:=fun(h5:o.card=5)=>j78 hM hK P hP hrec hre hro g hgl o ho h5 huo hc1 (by omega) v hvm hvo (by omega) hkd
 have hpa:=fun(h5:o.card≠5) (h4:o.card=4)=>j80 (n:=n) hM hK P hP g hgl o ho h5 huo h4 hc1 v hvm hvo (by omega)
 have hne:=fun(h10:o.kind=10) (h5:o.card≠5)=>j82 P hrec o hc1 (by omega) g hgl v (by omega) hK hvo huo hre (by omega) ho h10 h5 hvm
 have hon:=j83 P hP g v o hc1 hgl (by omega) hsl huo;rw[show P.av=.agg (QG P)from rfl,Qc v]at hen hpa hne hon;simp only[QG,Qp,Qv,oc,PG.cells,PO.cells,C.av,QQK,QRp]at co hwi hpk hen hpa hne hon;dsimp only;unfold Wl;rw[show P.av=.agg (QG P)from rfl,Qc v];refine k43.fn (by simp) ?_;simp only[QG,Qp,PG.cells,C.av,eE,seval];refine Qa htt rfl rfl rfl (.inl rfl) ?_;simp only[eE,seval];refine Qa co rfl rfl rfl (.inl rfl) ?_;by_cases h5:o.card=5
 ·have b5:(o.card==5)=true:=by simp[h5]
  rw[QP5 h5];by_cases h6:w=6
  ·have b6:(w==6)=true:=by simp[h6]
   have h1:=hen h5;rw[QP5 h6];generalize KO v c1 (Jm P rec g v o c1)=r at h1 ⊢;obtain⟨u,d,e⟩:=r;simp only[xv,Qc u,C.av]at h1;simp only[b5,b6,eE,seval];refine Qa h1 rfl rfl rfl (.inl rfl) ?_;simp only[xv,Qc u,C.av,eE,seval]
  ·have b6:(w==6)=false:=by simp[h6]
   have hpf:pk o.card o.kind=false:=by
    unfold pk;rw[h5];rfl
   rw[hpf]at hpk;rw[QPO h6];simp only[b5,b6,eE,seval];refine Qa hpk rfl rfl rfl (.inl rfl) ?_;simp only[b5,xv,Qc v,C.av,eE,seval]<;>rfl
 have b5:(o.card==5)=false:=by simp[h5]
 rw[QPO h5];simp only[b5,eE,seval];refine Qa hpk rfl rfl rfl (.inl rfl) ?_;by_cases hp:w=5∧pk o.card o.kind=true
 ·obtain⟨hw5,hpk'⟩:=hp;have b6:(w==5)=true:=by simp[hw5]
  have h4:o.card=4:=by
   unfold pk at hpk';rw[QPY,QP1]at hpk';exact hpk'.1
  have h1:=hpa h5 h4;rw[QP5 ⟨hw5,hpk'⟩];generalize WH P g v o c1=r at h1 ⊢;obtain⟨u,d,e⟩:=r;simp only[xv,Qc u,C.av]at h1;simp only[hpk',b6,eE,seval];refine Qa h1 rfl rfl rfl (.inl rfl) ?_;simp only[xv,Qc u,C.av,eE,seval]
 rw[QPO hp];have hq:(w==5&&pk o.card o.kind)=false:=by
  cases h:pk o.card o.kind
  ·simp
  ·have:w≠5:=fun e=>hp ⟨e,h⟩
   simp[this]
 have go:∀b:Bool,b=pk o.card o.kind→(b=true→(w==5)=false):=by
  intro b hb h;rw[hb]at h;rw[h,QQN]at hq;exact hq
 generalize hbb:pk o.card o.kind=bb at go;have go:=go bb rfl;cases bb
 ·by_cases hw:w=wk o.kind
  case neg=>
   have b7:(w != wk o.kind)=true:=by simp[hw]
   rw[QPO hw];simp only[b5,eE,seval];refine Qa hwi rfl rfl rfl (.inl rfl) ?_;simp only[b7,xv,Qc v,C.av,eE,seval]<;>rfl
  have b7:(w != wk o.kind)=false:=by simp[hw]
  rw[QP5 hw];simp only[b5,eE,seval];refine Qa hwi rfl rfl rfl (.inl rfl) ?_;by_cases h10:o.kind=10
  ·have b10:(o.kind==10)=true:=by simp[h10]
   have h1:=hne h10 h5;rw[QP5 h10];generalize KO v c1 (Jx rec g v o c1)=r at h1 ⊢;obtain⟨u,d,e⟩:=r;simp only[xv,Qc u,C.av]at h1;simp only[b7,b10,eE,seval];refine Qa h1 rfl rfl rfl (.inl rfl) ?_;simp only[xv,Qc u,C.av,eE,seval]
  ·have b10:(o.kind==10)=false:=by simp[h10]
   rw[QPO h10];generalize J2 P g v o c1=r at hon ⊢;obtain⟨u,d,e⟩:=r;simp only[xv,Qc u,C.av]at hon;simp only[b7,b10,eE,seval];refine Qa hon rfl rfl rfl (.inl rfl) ?_;simp only[xv,Qc u,C.av,eE,seval]
 ·have b6:=go rfl;by_cases hw:w=wk o.kind
  case neg=>
   have b7:(w != wk o.kind)=true:=by simp[hw]
   rw[QPO hw];simp only[b5,b6,eE,seval];refine Qa hwi rfl rfl rfl (.inl rfl) ?_;simp only[b7,xv,Qc v,C.av,eE,seval]<;>rfl
  have b7:(w != wk o.kind)=false:=by simp[hw]
  rw[QP5 hw];simp only[b5,b6,eE,seval];refine Qa hwi rfl rfl rfl (.inl rfl) ?_;by_cases h10:o.kind=10
  ·have b10:(o.kind==10)=true:=by simp[h10]
   have h1:=hne h10 h5;rw[QP5 h10];generalize KO v c1 (Jx rec g v o c1)=r at h1 ⊢;obtain⟨u,d,e⟩:=r;simp only[xv,Qc u,C.av]at h1;simp only[b7,b10,eE,seval];refine Qa h1 rfl rfl rfl (.inl rfl) ?_;simp only[xv,Qc u,C.av,eE,seval]
  ·have b10:(o.kind==10)=false:=by simp[h10]
   rw[QPO h10];generalize J2 P g v o c1=r at hon ⊢;obtain⟨u,d,e⟩:=r;simp only[xv,Qc u,C.av]at hon;simp only[b7,b10,eE,seval];refine Qa hon rfl rfl rfl (.inl rfl) ?_;simp only[xv,Qc u,C.av,eE,seval]

end

section
variable {M K n:Nat}(hM:3000≤M)(hK:K≤1000000)(P:PL)(hP:P.ok M)(hU:WW P)(hr:ZY P)(hun:AJ P){rec:Int→V→C→Rd V}(hrec:H3 P M K n rec)(hre:Yx rec)(hro:KH P M K n rec)(t:Int)(ht:0≤t∧t<(P.progs.length:Int))

structure MeF (P:PL)(t:Int)(f:Fr)(fr:Nat→Ob)(v:V)(c:C):Prop where
 f1:f 1=.int .i64 t
 f4:f 4=.ptr 0 4 0
 f6:f 6=.ptr 0 6 0
 f7:f 7=.ptr 0 7 0
 f8:f 8=.ptr 0 8 0
 f9:f 9=.ptr 0 9 0
 m4:fr 4=.cells (QG P)
 m6:fr 6=.cells (vc v)
 m7:fr 7=.cells (XR c)
 m8:fr 8=.cells XJ
 m9:fr 9=.cells YL
 rw:∀s∈[12,11],(fr s).isRow=false

include hM hK hP hU hr hun hrec hre hro ht in
theorem Qah (R0:Rd V)(k:Nat)(v:V)(c:C)(f:Fr)(fr:Nat→Ob)(hf:MeF P t f fr v c)(hc:CI c)(hk:c.left≤k)(hcn:c.left≤n)(hR:Zw P rec t k v c=R0)(hvm:MW P (n+1) (Qn P t) v)(hvo:v.ok M)(hb:(v.cnt:Int)+3*c.left≤K)(Q:Exit→St→Prop)
  (hx:∀f fr v c,MeF P t f fr v c→R0=.ok (v,c)→Q (.exit 0) ⟨f,[fr],[]⟩)
  (he:∀f fr v c (e:Nat),f 8=.ptr 0 8 0→f 9=.ptr 0 9 0→fr 8=.cells (vc v)→fr 9=.cells (XR c)→f 10=.int .i64 (e:Nat)→R0=.error e→e≠0→Q .ret ⟨f,[fr],[]⟩) :
  QH Tryz.prog (.loop TA) ⟨f,[fr],[]⟩ Q:=by
 have hgp:(P.progs.map Qp)[t.toNat]? = some (.agg [.str (Qn P t).name,.list ((Qn P t).ops.map fun o=>AV.agg o.cells),.int .i64 (Qn P t).unions]):=by
  rw[QQX,(ZQ ht).2];rfl
 have ht0:(0≤t)=True:=by simp[ht.1]
 let I:Nat→St→Prop:=fun k st=>∃f fr v c,st=⟨f,[fr],[]⟩∧MeF P t f fr v c∧CI c∧c.left≤k∧c.left≤n∧Zw P rec t k v c=R0∧MW P (n+1) (Qn P t) v∧v.ok M∧(v.cnt:Int)+3*c.left≤K
 refine Qg I k ⟨f,fr,v,c,rfl,hf,hc,hk,hcn,hR,hvm,hvo,hb⟩ ?_;clear hf hc hk hcn hR hvm hvo hb;rintro k st ⟨f0,fr0,v,c,rfl,⟨h10,h40,h60,h70,h80,h90,m40,m60,m70,m80,m90,hrow⟩,hc,hk,hcn,hR,hvm,hvo,hb⟩;have hcb:=hc.bd;refine QX (a:=_) [12,11] hrow ?_;intro f fr hf hmm hn;have h1:f 1=.int .i64 t:=by rw[hf,h10]<;>rfl
 have h4:f 4=.ptr 0 4 0:=by rw[hf,h40]<;>rfl
 have h6:f 6=.ptr 0 6 0:=by rw[hf,h60]<;>rfl
 have h7:f 7=.ptr 0 7 0:=by rw[hf,h70]<;>rfl
 have h8:f 8=.ptr 0 8 0:=by rw[hf,h80]<;>rfl
 have h9:f 9=.ptr 0 9 0:=by rw[hf,h90]<;>rfl
 have m4':fr 4=.cells (QG P):=by rw[hmm 4 (by decide),m40]<;>rfl
 have m6':fr 6=.cells (vc v):=by rw[hmm 6 (by decide),m60]<;>rfl
 have m7':fr 7=.cells (XR c):=by rw[hmm 7 (by decide),m70]<;>rfl
 have m8':fr 8=.cells XJ:=by rw[hmm 8 (by decide),m80]<;>rfl
 have m9':fr 9=.cells YL:=by rw[hmm 9 (by decide),m90]<;>rfl
 have n12:=hn 12 (by decide);have n11:=hn 11 (by decide);clear hf hmm hn h10 h40 h60 h70 h80 h90 m40 m60 m70 m80 m90 hrow;have m4:=m4';have m6:=m6';have m7:=m7';have m8:=m8';have m9:=m9';simp only[QG]at m4;simp only[vc]at m6;simp only[XR]at m7;simp only[XJ]at m8;simp only[YL]at m9;simp only[h7,m7,eE,seval];refine Qa (Vn c) rfl rfl rfl (.inl rfl) ?_;by_cases hlt:0<c.left
 case neg=>
  have d1:decide (c.left > 0)=false:=QRo hlt;have hR':R0=.ok (v,c):=by
   rw[←hR];cases k with
   |zero=>rfl
   |succ k=>rw[Zw,QPO hlt]
  simp only[d1,Qb,seval];exact hx _ _ v c ⟨(by exact h1),(by exact h4),(by exact h6),(by exact h7),(by exact h8),(by exact h9),m4',m6',m7',m8',m9',(by
   intro s hs;simp only[QQV,QRA,or_false]at hs;rcases hs with rfl|rfl
   ·rw[n12];rfl
   ·rw[n11];rfl)⟩ hR'
 have d1:decide (c.left > 0)=true:=QRs hlt;obtain⟨k,rfl⟩:∃j,k=j+1:=⟨k-1,by omega⟩;rw[P8 P hre t k v c hlt]at hR;have hfd:=j43 hM hK P hP hU hr hun hrec hre hro t ht hc hcn v hvm hvo hb hlt;have hok:=Qag hM hK P hP hU hr hre hro t ht hc hcn hvm hvo hb;generalize Kj P rec (Qn P t) v c=r at hR hfd hok;obtain⟨w,d,e⟩:=r;dsimp only at hR hok;rw[show P.av=.agg (QG P)from rfl,Qc v]at hfd;simp only[QG,Qp,PG.cells,C.av,xv,Qc w]at hfd;simp only[d1,h1,h4,h6,h7,m4,m6,m7,hgp,ht0,Qf,eE,seval];refine Qa hfd rfl rfl rfl (.inl rfl) ?_;by_cases he0:e=0
 case neg=>
  rw[QPO he0]at hR;simp only[n12,n11,Qu he0,h6,h7,h8,h9,m6,m7,m8,m9,eE,seval];exact he _ _ v c e (by exact h8) (by exact h9) (by rfl) (by rfl) (by rfl) hR.symm he0
 subst he0;obtain⟨b1,b2,b3,b4⟩:=hok rfl;have hl:=b1.lt hc;rw[QP5 rfl]at hR;simp only[n12,n11,h6,h7,m6,m7,eE,seval];exact⟨k,by omega,_,_,w,d,rfl,⟨(by exact h1),(by exact h4),(by exact h6),(by exact h7),(by exact h8),(by exact h9),(by exact m4'),(by rfl),(by rfl),(by exact m8'),(by exact m9'),(by
   intro s hs;simp only[QQV,QRA,or_false]at hs;rcases hs with rfl|rfl<;>rfl)⟩,b1.ci hc,by omega,by omega,hR,b2,b3,by omega⟩

include hM hK hP hU hr hun hrec hre hro ht in
theorem Sv (v:V)(c:C)(hc:CI c)(hcn:c.left≤n)(hvm:MW P (n+1) (Qn P t) v)(hvo:v.ok M)(hb:(v.cnt:Int)+3*c.left≤K) :
  Ge Tryz.prog 22 [P.av,.int .i64 t,v.av,c.av] (Rm (Zw P rec t c.left.toNat v c)):=by
 have hcb:=hc.bd;rw[show P.av=.agg (QG P)from rfl,Qc v];refine k22.rl (by simp) ?_;simp only[QG,C.av,eE,seval];refine Qah hM hK P hP hU hr hun hrec hre hro t ht _ c.left.toNat v c _ _ ⟨(by rfl),(by rfl),(by rfl),(by rfl),(by rfl),(by rfl),(by rfl),(by rfl),(by rfl),(by rfl),(by rfl),(by
   intro s hs;simp only[QQV,QRA,or_false]at hs;rcases hs with rfl|rfl<;>rfl)⟩ hc (by omega) hcn rfl hvm hvo hb _ (fun f fr w d hf hR=>?_) (fun f fr w d e h8 h9 m8 m9 h10 hR he=>?_)
 ·obtain⟨h1,h4,h6,h7,h8,h9,m4,m6,m7,m8,m9,hrow⟩:=hf;rw[hR];have h:Rm (.ok (w,d)) (xv (w,d,0)):=rfl;simp only[xv,Qc w,C.av]at h;simp only[vc]at m6;simp only[XR]at m7;simp only[XJ]at m8;simp only[YL]at m9;simp only[h6,h7,h8,h9,m6,m7,m8,m9,eE,seval];exact h
 ·rw[hR];have h:Rm (.error e) (xv (w,d,e)):=⟨he,w,d,rfl⟩;simp only[xv,Qc w,C.av]at h;simp only[vc]at m8;simp only[XR]at m9;simp only[h8,h9,h10,m8,m9,eE,seval];exact h

end

theorem QtG {M K:Nat}(hM:3000≤M)(hK:K≤1000000){P:PL}(hP:P.ok M)(hU:WW P)(hr:ZY P)(hun:AJ P):∀n:Nat,H3 P M K n (Yu P n)
 |0,t,v,c,hc,hcl,ht,hvm,hvo,hb=>by
  have:=hc.bd;omega
 |n+1,t,v,c,hc,hcl,ht,hvm,hvo,hb=>
  Sv hM hK P hP hU hr hun (QtG hM hK hP hU hr hun n) (Nc P n) (WL hM hK hP hU hr n) t ht v c hc (by omega) hvm hvo hb

section
variable {M:Nat}{P:PL}{nm:PG→V→V}(h:∀t v,v.ok M→(nm (Qn P t) v).ok M)
include h
end
theorem QtH {P:PL}(h:ck P=0):∀g∈P.progs,g.ops.length≤64:=by
 unfold ck at h;split at h
 ·omega
 rename_i hl;exact(DW (by simpa using hl)).2.2.1

section
variable {m:PG→V→Prop}{nm:PG→V→V}{P:PL}
end

def TE (m:PG→V→Prop)(P:PL)(o:PO)(x:V):Prop :=
 if o.card=4 then x.kd=11∧x.pairs=[]∧(o.kind=10→∀y∈x.list,m (Qn P o.target) y)
 else if o.card=5 then x.kd=12∧x.list=[]∧(o.kind=10→∀p∈x.pairs,m (Qn P o.target) p.2)
 else o.kind=10→m (Qn P o.target) x
def TY (P:PL):Nat→PG→V→Prop
 |0,_,_=>False
 |n+1,g,v=>v.kd=10∧∀s∈v.slots,∃o,XL g s.1=some o∧TE (TY P n) P o s.2
theorem AL {P:PL}{n:Nat}{g:PG}{v:V}(h:TY P n g v):v.kd=10:=by
 cases n with
 |zero=>exact h.elim
 |succ n=>exact h.1
theorem QtI {P:PL}{m w:PG→V→Prop}{nm:PG→V→V}(h:∀g∈P.progs,∀v,w g v→m g (nm g v)){o:PO}(ho:UO P o){v:V}(hv:FW w P o v):TE m P o (JH nm P o v):=by
 have hel:∀y,EW w P o y→o.kind=10→m (Qn P o.target) (Jc nm P o y):=by
  intro y hy hk;unfold Jc;rw[QP5 hk];exact h _ (ZQ (ho.tgt hk)).1 _ (hy hk)
 unfold FW at hv;unfold TE JH;by_cases h4:o.card=4
 ·rw[QP5 h4]at hv;rw[QP5 h4,QP5 h4];refine⟨rfl,rfl,fun hk x hx=>?_⟩;obtain⟨y,hy,rfl⟩:=QQT.1 hx;exact hel y (hv y hy) hk
 ·rw[QPO h4]at hv;rw[QPO h4,QPO h4];by_cases h5:o.card=5
  ·rw[QP5 h5]at hv;rw[QP5 h5,QP5 h5];have hp:(QV o.key v.pairs).Perm v.pairs:=Q0 _;refine⟨rfl,rfl,fun hk x hx=>?_⟩;obtain⟨p,hp',rfl⟩:=QQT.1 hx;exact hel p.2 (hv.1 p (hp.mem_iff.1 hp')).2 hk
  ·rw[QPO h5]at hv;rw[QPO h5,QPO h5];exact hel v hv
theorem Nd {P:PL}(hU:WW P)(hr:ZY P):∀(n:Nat) (g:PG),g∈P.progs→∀v:V,MW P n g v→TY P n g (XC P n g v)
 |0,_,_,_,h=>h
 |n+1,g,hg,v,h=>by
  refine⟨rfl,fun x hx=>?_⟩;obtain⟨o,ho,hx⟩:=List.mem_flatMap.1 hx;obtain⟨e,s,hs,e1,e2⟩:=UP hx;obtain⟨o',h1,h2⟩:=h.1 s hs;rw[e1,K3 (hr g hg) ho]at h1;cases h1;exact⟨o,by rw[e];exact K3 (hr g hg) ho,by rw[e2];exact QtI (fun g hg v hv=>Nd hU hr n g hg v hv) (hU g hg o ho) h2⟩
theorem P9 {P:PL}{n:Nat}{g:PG}(hd:g.ops.Pairwise fun a b=>a.num<b.num){v:V}(h:TY P (n+1) g v){o:PO}(ho:o∈g.ops){x:V}(hx:Xk v o.num=some x):TE (TY P n) P o x:=by
 obtain⟨o',h1,h2⟩:=h.2 _ (Xg hx).1;rw[K3 hd ho]at h1;cases h1;exact h2

def Ul (m:PG→V→Bool)(P:PL)(o:PO)(x:V):Bool:=o.kind==10&&(if o.card=4 then x.list.any (m (Qn P o.target))else if o.card=5 then x.pairs.any (fun p=>m (Qn P o.target) p.2)else m (Qn P o.target) x)
def W7 (m:PG→V→Bool)(P:PL)(v:V)(o:PO):Bool:=match Xk v o.num with
 |none=>o.card==1
 |some x=>Ul m P o x
def XX (P:PL):Nat→PG→V→Bool
 |0,_,_=>false
 |n+1,g,v=>g.ops.any (W7 (XX P n) P v)
def Hy (x:V):List V:=if x.kd=11 then x.list else if x.kd=12 then x.pairs.map Prod.snd else [x]
theorem Qai {P:PL}{n:Nat}{o:PO}{x:V}(h:TE (TY P n) P o x)(hk:o.kind=10)(m:PG→V→Bool):Ul m P o x=(Hy x).any (m (Qn P o.target))∧∀y∈Hy x,TY P n (Qn P o.target) y:=by
 have b:(o.kind==10)=true:=by simp[hk]
 unfold Ul Hy;unfold TE at h;rw[b,QRf];by_cases h4:o.card=4
 ·rw[QP5 h4]at h;rw[QP5 h4,QP5 h.1];exact⟨rfl,h.2.2 hk⟩
 ·rw[QPO h4]at h;rw[QPO h4];by_cases h5:o.card=5
  ·rw[QP5 h5]at h;have n11:¬x.kd=11:=by omega
   rw[QP5 h5,QPO n11,QP5 h.1];refine⟨by rw[List.any_map];rfl,fun y hy=>?_⟩;obtain⟨p,hp,rfl⟩:=QQT.1 hy;exact h.2.2 hk p hp
  ·rw[QPO h5]at h;have hx:=h hk;have hkd:=AL hx;have n11:¬x.kd=11:=by omega
   have n12:¬x.kd=12:=by omega
   rw[QPO h5,QPO n11,QPO n12];refine⟨by simp,fun y hy=>?_⟩;rw[QRx]at hy;subst hy;exact hx
theorem Qaj {x y:V}(h:y∈Hy x):y.cnt≤x.cnt:=by
 unfold Hy at h;split at h
 ·have:=Ue h;rw[Q3 x];omega
 ·split at h
  ·obtain⟨p,hp,rfl⟩:=QQT.1 h;have:=W3 hp;rw[Q3 x];omega
  ·rw[QRx]at h;subst h;omega

def ElI (x:V)(k:Nat)(st:St):Prop :=
 ∃f fr i g,st=⟨f,[fr],[]⟩∧k=x.pairs.length-i∧i≤x.pairs.length∧f 3=.vec 0 3 g 0 i false∧f 15=.list (x.pairs.map V.pav)∧f 16=.int .i64 (x.pairs.length:Nat)∧f 17=.int .i64 (i:Nat)∧fr 3=.vec g 7 (((x.pairs.take i).map Prod.snd).map V.av)∧∀s∈[5],(fr s).isRow=false

theorem j38 (x:V)(hc:x.cnt≤1048576):Qh Tryz.prog 38 [x.av] (.list ((Hy x).map V.av)):=by
 have hl:=Zx x;unfold Hy;rw[Qc];by_cases h11:x.kd=11
 ·have b1:(x.kd==11)=true:=by simp[h11]
  rw[QP5 h11];refine k38.fn (by simp) ?_;simp only[b1,eE,seval]
 have b1:(x.kd==11)=false:=by simp[h11]
 rw[QPO h11];by_cases h12:x.kd=12
 case neg=>
  have b2:(x.kd==12)=false:=by simp[h12]
  rw[QPO h12];refine k38.fn (by simp) ?_;simp only[b1,b2,eE,seval];refine QN (l:=[x.av]) rfl rfl rfl (by rw[Qc];rfl) ?_;simp only[Qb,seval];rfl
 have b2:(x.kd==12)=true:=by simp[h12]
 rw[QP5 h12];refine k38.fn (by simp) ?_;simp only[b1,b2,eE,seval];refine Jq (by simp only[Qb,seval]) rfl ?_;simp only[QQu,eE,seval];refine Qg (ElI x) _ ⟨_,_,0,_,rfl,rfl,QPJ _,(by rfl),(by rfl),(by rfl),(by rfl),(by rfl),by simp<;>rfl⟩ ?_;rintro _ st ⟨f0,fr0,i,g,rfl,rfl,hil,h30,h150,h160,h170,m30,r5⟩;refine QX (a:=_) [5] r5 ?_;intro f fr hf hm hn;have h3:f 3=.vec 0 3 g 0 i false:=by rw[hf,h30]<;>rfl
 have h15:f 15=.list (x.pairs.map V.pav):=by rw[hf,h150]<;>rfl
 have h16:f 16=.int .i64 (x.pairs.length:Nat):=by rw[hf,h160]<;>rfl
 have h17:f 17=.int .i64 (i:Nat):=by rw[hf,h170]<;>rfl
 have m3:fr 3=.vec g 7 (((x.pairs.take i).map Prod.snd).map V.av):=by rw[hm 3 (by decide),m30]<;>rfl
 have n5:=hn 5 (by decide);clear hf hm hn h30 h150 h160 h170 m30 r5;have hln:(((x.pairs.take i).map Prod.snd).map V.av).length=i:=by rw[QQu,QQu,QQw];omega
 simp only[h16,h17,Qb,seval];by_cases hlt:i<x.pairs.length
 ·obtain⟨p,hi⟩:∃p,x.pairs[i]? = some p:=⟨x.pairs[i],QPE hlt⟩;have hg:=JI hi;have e1:=Qw i _ hlt (by simp only[maxLen];omega);have hst:((x.pairs.take (i+1)).map Prod.snd).map V.av=((x.pairs.take i).map Prod.snd).map V.av++[p.2.av]:=by
   rw[QRm,hi];simp
  simp only[Qr hlt,Qm,QQ2,Qf,hg,n5,h3,h15,h17,eE,seval];refine QN (l:=[p.2.av]) rfl rfl rfl (by rw[Qc];rfl) ?_;refine QF (site:=3) (g:=g) (n:=i) (xs:=((x.pairs.take i).map Prod.snd).map V.av) (ys:=[p.2.av]) (by rfl) (by exact m3) rfl hln.symm rfl (HW [p.2]) (by simp only[QPP,QQv,maxLen];omega) (by simp only[QPP,QQv];omega) ?_;simp only[h17,e1,Qb,seval];exact⟨x.pairs.length-(i+1),by omega,_,_,i+1,g+1,rfl,rfl,by omega,(by rfl),(by exact h15),(by exact h16),(by rfl),(by rw[hst];exact(by rfl)),by simp<;>rfl⟩
 ·have e:i=x.pairs.length:=by omega
  subst e;rw[QRd]at m3 hln;simp only[QO hlt,h3,eE,seval];simp[AV.un,Zp,XD,m3];exact QQa (by rw[QQu];exact QPB _)

section
variable {M:Nat}(P:PL)(hP:P.ok M)(hr:ZY P)

structure CoF (P:PL)(v:V)(g:PG)(i:Nat)(f:Fr)(fr:Nat→Ob):Prop where
 f3:f 3=.ptr 0 3 0
 f5:f 5=.ptr 0 5 0
 f18:f 18=.list (g.ops.map fun o=>AV.agg o.cells)
 f19:f 19=.int .i64 (g.ops.length:Nat)
 f20:f 20=.int .i64 (i:Nat)
 m3:fr 3=.cells (QG P)
 m5:fr 5=.cells (vc v)

theorem QEC (v:V)(g:PG)(i:Nat)(t:Int)(o:PO)(hot:o.target=t)(l:List V)(hl:l.length≤1048576)(m:V→Bool)(hm:∀y∈l,Qh Tryz.prog 15 [P.av,.int .i64 t,y.av] (.bool (!m y)))
  (f:Fr) (fr:Nat→Ob) (hf:CoF P v g i f fr) (h8:f 8=.ptr 0 8 0) (m8:fr 8=.cells o.cells) (h9:(fr 9).isRow=false) (h40:f 40=.list (l.map V.av)) (h41:f 41=.int .i64 (l.length:Nat)) (h42:f 42=.int .i64 0) (h12:(fr 12).isRow=false) (Q:Exit→St→Prop)
  (hx:∀f fr,CoF P v g i f fr→(∀s∈[12,9,8],(fr s).isRow=false)→l.any m=false→Q (.exit 2) ⟨f,[fr],[]⟩)
  (hy:∀f fr,f 6=.bool false→l.any m=true→Q .ret ⟨f,[fr],[]⟩) :
  QH Tryz.prog (.loop SH) ⟨f,[fr],[]⟩ Q:=by
 let I:Nat→St→Prop:=fun k st=>∃f fr j,st=⟨f,[fr],[]⟩∧k=l.length-j∧j≤l.length∧l.any m=(l.drop j).any m∧CoF P v g i f fr∧f 8=.ptr 0 8 0∧fr 8=.cells o.cells∧(fr 9).isRow=false∧f 40=.list (l.map V.av)∧f 41=.int .i64 (l.length:Nat)∧f 42=.int .i64 (j:Nat)∧(fr 12).isRow=false
 refine Qg I _ ⟨f,fr,0,rfl,rfl,QPJ _,rfl,hf,h8,m8,h9,h40,h41,h42,h12⟩ ?_;clear hf h8 m8 h9 h40 h41 h42 h12;rintro _ st ⟨f0,fr0,j,rfl,rfl,hjl,hany,⟨h30,h50,h180,h190,h200,m30,m50⟩,h80,m80,h90,h400,h410,h420,h120⟩;refine QX (a:=_) [12] (by intro s hs;simp only[QRx]at hs;subst hs;exact h120) ?_;intro f fr hf hmm hn;have h3:f 3=.ptr 0 3 0:=by rw[hf,h30]<;>rfl
 have h5:f 5=.ptr 0 5 0:=by rw[hf,h50]<;>rfl
 have h8:f 8=.ptr 0 8 0:=by rw[hf,h80]<;>rfl
 have h18:f 18=.list (g.ops.map fun o=>AV.agg o.cells):=by rw[hf,h180]<;>rfl
 have h19:f 19=.int .i64 (g.ops.length:Nat):=by rw[hf,h190]<;>rfl
 have h20:f 20=.int .i64 (i:Nat):=by rw[hf,h200]<;>rfl
 have h40:f 40=.list (l.map V.av):=by rw[hf,h400]<;>rfl
 have h41:f 41=.int .i64 (l.length:Nat):=by rw[hf,h410]<;>rfl
 have h42:f 42=.int .i64 (j:Nat):=by rw[hf,h420]<;>rfl
 have m3':fr 3=.cells (QG P):=by rw[hmm 3 (by decide),m30]<;>rfl
 have m5':fr 5=.cells (vc v):=by rw[hmm 5 (by decide),m50]<;>rfl
 have m8':fr 8=.cells o.cells:=by rw[hmm 8 (by decide),m80]<;>rfl
 have n9:(fr 9).isRow=false:=by
  rw[hmm 9 (by decide)];cases h:fr0 9<;>rw[h]at h90<;>first|rfl|cases h90
 have n12:=hn 12 (by decide);clear hf hmm hn h30 h50 h80 h180 h190 h200 h400 h410 h420 m30 m50 m80 h90 h120;have m3:=m3';have m8:=m8';simp only[QG]at m3;simp only[PO.cells]at m8;simp only[h41,h42,Qb,seval];by_cases hlt:j<l.length
 case neg=>
  have ha:l.any m=false:=by rw[hany,QQd (by omega)];rfl
  simp only[QO hlt,Qb,seval];refine hx _ _ ⟨(by exact h3),(by exact h5),(by exact h18),(by exact h19),(by exact h20),m3',m5'⟩ ?_ ha;intro s hs;simp only[QQV,QRA,or_false]at hs;rcases hs with rfl|rfl|rfl
  ·rw[n12];rfl
  ·exact n9
  ·rw[m8'];rfl
 obtain⟨y,hj⟩:∃y,l[j]? = some y:=⟨l[j],QPE hlt⟩;have hgy:(l.map V.av)[j]? = some y.av:=by rw[QQX,hj];rfl
 have hcl:=hm y (QPN hj);have e1:=Qw j _ hlt (by simp only[maxLen];omega);have hdr:l.drop j=y :: l.drop (j+1):=by
  rw[QQk hlt,(QPD.1 hj).2]
 rw[hdr,List.any_cons]at hany;rw[Qc y]at hgy;rw[show P.av=.agg (QG P)from rfl,Qc y]at hcl;simp only[QG]at hcl;subst hot;simp only[Qr hlt,Qm,QQ2,Qf,hgy,n12,h3,h8,h40,h42,m3,m8,eE,seval];refine Qa hcl rfl rfl rfl (.inl rfl) ?_;cases hmy:m y
 ·rw[hmy,QRj]at hany;simp only[QQH,QRg,h42,e1,Qb,seval];exact⟨l.length-(j+1),by omega,_,_,j+1,rfl,rfl,by omega,hany,⟨(by exact h3),(by exact h5),(by exact h18),(by exact h19),(by exact h20),(by exact m3'),(by exact m5')⟩,(by exact h8),(by exact m8'),by exact n9,(by exact h40),(by exact h41),(by rfl),by rfl⟩
 ·rw[hmy,QRi]at hany;simp only[QQH,QRg,Qb,seval];exact hy _ _ (by rfl) hany

include hP hr in
theorem Qak (n:Nat)(t:Int)(ht:0≤t∧t<(P.progs.length:Int))(hU:WW P)(ih:∀(t:Int) (v:V),(0≤t∧t<(P.progs.length:Int))→TY P n (Qn P t) v→v.cnt≤1048576→Qh Tryz.prog 15 [P.av,.int .i64 t,v.av] (.bool (!XX P n (Qn P t) v)))
  (v:V) (hv:TY P (n+1) (Qn P t) v) (hc:v.cnt≤1048576):Qh Tryz.prog 15 [P.av,.int .i64 t,v.av] (.bool (!XX P (n+1) (Qn P t) v)):=by
 have hgm:=(ZQ ht).1;have hgp:(P.progs.map Qp)[t.toNat]? = some (.agg [.str (Qn P t).name,.list ((Qn P t).ops.map fun o=>AV.agg o.cells),.int .i64 (Qn P t).unions]):=by
  rw[QQX,(ZQ ht).2];rfl
 have ht0:(0≤t)=True:=by simp[ht.1]
 have hgl:(Qn P t).ops.length≤maxLen:=(hP.progs _ hgm).len;have hrg:=hr _ hgm;have hUg:=hU _ hgm;have ls:=Xe v;rw[show XX P (n+1) (Qn P t) v=(Qn P t).ops.any (W7 (XX P n) P v)from rfl];generalize Qn P t=g at *;rw[show P.av=.agg (QG P)from rfl,Qc v];refine k15.fn (by simp) ?_;simp only[QG,hgp,ht0,Qf,QQu,eE,seval]
 let I:Nat→St→Prop:=fun k st=>∃f fr i,st=⟨f,[fr],[]⟩∧k=g.ops.length-i∧i≤g.ops.length∧g.ops.any (W7 (XX P n) P v)=(g.ops.drop i).any (W7 (XX P n) P v)∧CoF P v g i f fr∧∀s∈[12,9,8],(fr s).isRow=false
 refine Qg I _ ⟨_,_,0,rfl,rfl,QPJ _,rfl,⟨(by rfl),(by rfl),(by rfl),(by rfl),(by rfl),(by rfl),(by rfl)⟩,Yw rfl rfl rfl⟩ ?_;rintro _ st ⟨f0,fr0,i,rfl,rfl,hil,hany,⟨h30,h50,h180,h190,h200,m30,m50⟩,hrow⟩;refine QX (a:=_) [12,9,8] hrow ?_;intro f fr hf hmm hn;have h3:f 3=.ptr 0 3 0:=by rw[hf,h30]<;>rfl
 have h5:f 5=.ptr 0 5 0:=by rw[hf,h50]<;>rfl
 have h18:f 18=.list (g.ops.map fun o=>AV.agg o.cells):=by rw[hf,h180]<;>rfl
 have h19:f 19=.int .i64 (g.ops.length:Nat):=by rw[hf,h190]<;>rfl
 have h20:f 20=.int .i64 (i:Nat):=by rw[hf,h200]<;>rfl
 have m3':fr 3=.cells (QG P):=by rw[hmm 3 (by decide),m30]<;>rfl
 have m5':fr 5=.cells (vc v):=by rw[hmm 5 (by decide),m50]<;>rfl
 have n12:=hn 12 (by decide);have n9:=hn 9 (by decide);have n8:=hn 8 (by decide);clear hf hmm hn h30 h50 h180 h190 h200 m30 m50 hrow;have m3:=m3';have m5:=m5';simp only[QG]at m3;simp only[vc]at m5;simp only[h19,h20,Qb,seval];by_cases hlt:i<g.ops.length
 case neg=>
  have ha:g.ops.any (W7 (XX P n) P v)=false:=by rw[hany,QQd (by omega)];rfl
  simp only[QO hlt,ha,QQH,Qb,seval]
 obtain⟨o,hi⟩:∃o,g.ops[i]? = some o:=⟨g.ops[i],QPE hlt⟩;have hom:=QPN hi;have hgo:(g.ops.map fun o=>AV.agg o.cells)[i]? = some (.agg [.int .i64 o.num,.str o.name,.str o.alias,.int .i64 o.card,.int .i64 o.key,.int .i64 o.kind,.int .i64 o.target,.int .i64 o.union]):=Ma hi;have e1:=Qw i _ hlt hgl;have hdr:g.ops.drop i=o :: g.ops.drop (i+1):=by
  rw[QQk hlt,(QPD.1 hi).2]
 rw[hdr,List.any_cons]at hany;have hfd:=P2 v o.num (by omega);have hoc:=Kt v o.num;have hel:=j38 (QL v o.num) (by omega);have hte:=fun x hx=>P9 (x:=x) hrg hv hom hx
 rw[Qc v]at hfd;rw[show W7 (XX P n) P v o=(match Xk v o.num with|none=>o.card==1|some x=>Ul (XX P n) P o x)from rfl]at hany;have next:∀(f':Fr) (fr':Nat→Ob),g.ops.any (W7 (XX P n) P v)=(g.ops.drop (i+1)).any (W7 (XX P n) P v)→CoF P v g (i+1) f' fr'→(∀s∈[12,9,8],(fr' s).isRow=false)→∃k,k<g.ops.length-i∧I k ⟨f',[fr'],[]⟩:=fun f' fr' a b c=>⟨g.ops.length-(i+1),by omega,f',fr',i+1,rfl,rfl,by omega,a,b,c⟩
 cases hf:Xk v o.num with
 |none=>
  rw[hf]at hfd hany;rw[Qc (QL v o.num)]at hfd;simp only[QQq]at hfd;dsimp only at hany;simp only[Qr hlt,Qm,QQ2,Qf,hgo,n8,h5,h18,h20,m5,eE,seval];refine Qa hfd rfl rfl rfl (.inl rfl) ?_;cases h1:(o.card==1)
  ·rw[h1,QRj]at hany;simp only[h1,n9,n8,h20,e1,eE,seval];exact next _ _ hany ⟨(by exact h3),(by exact h5),(by exact h18),(by exact h19),(by rfl),(by exact m3'),(by exact m5')⟩ (by
    intro s hs;simp only[QQV,QRA,or_false]at hs;rcases hs with rfl|rfl|rfl
    ·show(fr 12).isRow=false;rw[n12];rfl
    ·rfl
    ·rfl)
  ·rw[h1,QRi]at hany;simp only[h1,hany,QRg,n9,n8,eE,seval]
 |some x=>
  have hx:=(Xg hf).2;have hte:=hte x hf;rw[hf]at hfd hany;rw[hx]at hfd hel hoc;rw[Qc x]at hfd hel;simp only[QRp]at hfd;dsimp only at hany;simp only[Qr hlt,Qm,QQ2,Qf,hgo,n8,h5,h18,h20,m5,eE,seval];refine Qa hfd rfl rfl rfl (.inl rfl) ?_;by_cases hk:o.kind=10
  case neg=>
   have bk:(o.kind != 10)=true:=by simp[hk]
   have bk':(o.kind==10)=false:=by simp[hk]
   have he:Ul (XX P n) P o x=false:=by unfold Ul;rw[bk',QQ5]
   rw[he,QRj]at hany;simp only[bk,n9,n8,h20,e1,eE,seval];exact next _ _ hany ⟨(by exact h3),(by exact h5),(by exact h18),(by exact h19),(by rfl),(by exact m3'),(by exact m5')⟩ (by
    intro s hs;simp only[QQV,QRA,or_false]at hs;rcases hs with rfl|rfl|rfl
    ·show(fr 12).isRow=false;rw[n12];rfl
    ·rfl
    ·rfl)
  have bk:(o.kind != 10)=false:=by simp[hk]
  obtain⟨l1,l2⟩:=Qai hte hk (XX P n);have htt:=(hUg o hom).tgt hk;have hll:(Hy x).length≤1048576:=by
   unfold Hy;have h1:=Zn x;have h2:=Zx x;split
   ·omega
   ·split
    ·rw[QQu];omega
    ·simp
  simp only[bk,n9,n8,eE,seval];refine Qa hel rfl rfl rfl (.inl rfl) ?_;simp only[QQu,Qb,seval];refine QEC P v g i o.target o rfl (Hy x) hll (XX P n (Qn P o.target)) (fun y hy=>ih o.target y htt (l2 y hy) (by have:=Qaj hy;omega)) _ _ ⟨(by exact h3),(by exact h5),(by exact h18),(by exact h19),(by exact h20),(by exact m3'),(by exact m5')⟩ (by rfl) (by rfl) (by rfl) (by rfl) (by rfl) (by rfl) (by show(fr 12).isRow=false;rw[n12];rfl) _ (fun f fr hf hrow ha=>?_) (fun f fr h6 ha=>?_)
  ·obtain⟨h3,h5,h18,h19,h20,m3,m5⟩:=hf;rw[l1,ha,QRj]at hany;simp only[h20,e1,Qb,seval];exact next _ _ hany ⟨(by exact h3),(by exact h5),(by exact h18),(by exact h19),(by rfl),m3,m5⟩ hrow
  ·rw[l1,ha,QRi]at hany;simp only[hany,h6,QRg,Qb,seval]

include hP hr in
theorem j15 (hU:WW P):∀(n:Nat) (t:Int) (v:V),(0≤t∧t<(P.progs.length:Int))→TY P n (Qn P t) v→v.cnt≤1048576→Qh Tryz.prog 15 [P.av,.int .i64 t,v.av] (.bool (!XX P n (Qn P t) v))
 |0,_,_,_,h,_=>h.elim
 |n+1,t,v,ht,hv,hc=>Qak P hP hr n t ht hU (j15 hU n) v hv hc

end

section
variable (P:PL)(o:PO)

theorem QtJ (hk:o.kind=10)(y:V)(hy:y.kd=10)(b:Bool)(hL:Qh Tryz.prog 17 [P.av,.int .i64 o.target,y.av] (.bool b)):Qh Tryz.prog 40 [P.av,Qv o,y.av] (.bool b):=by
 have b1:(o.kind != 10)=false:=by simp[hk]
 have b2:(y.kd==10)=true:=by simp[hy]
 rw[show P.av=.agg (QG P)from rfl,Qc y]at hL ⊢;simp only[QG]at hL;refine k40.fn (by simp) ?_;simp only[QG,Qv,PO.cells,b1,b2,eE,seval];refine Qa hL rfl rfl rfl (.inl rfl) ?_;simp only[Qb,seval]

structure LaF (P:PL)(o:PO)(x:V)(f:Fr)(fr:Nat→Ob):Prop where
 f3:f 3=.ptr 0 3 0
 f4:f 4=.ptr 0 4 0
 f5:f 5=.ptr 0 5 0
 m3:fr 3=.cells (QG P)
 m4:fr 4=.cells o.cells
 m5:fr 5=.cells (vc x)

variable (x:V)(hl:x.cnt≤1048576)(m:V→Bool)
include hl
theorem Qal (hm:∀y∈x.list,Qh Tryz.prog 40 [P.av,Qv o,y.av] (.bool (m y)))(f:Fr)(fr:Nat→Ob)(hf:LaF P o x f fr)(h7:f 7=.int .i64 0)(Q:Exit→St→Prop)
  (hx:∀f fr,LaF P o x f fr→x.list.any m=false→Q (.exit 0) ⟨f,[fr],[]⟩)
  (hy:∀f fr,f 6=.bool true→x.list.any m=true→Q .ret ⟨f,[fr],[]⟩) :
  QH Tryz.prog (.loop Tw) ⟨f,[fr],[]⟩ Q:=by
 have ll:=Zn x
 let I:Nat→St→Prop:=fun k st=>∃f fr j,st=⟨f,[fr],[]⟩∧k=x.list.length-j∧j≤x.list.length∧x.list.any m=(x.list.drop j).any m∧LaF P o x f fr∧f 7=.int .i64 (j:Nat)
 refine Qg I _ ⟨f,fr,0,rfl,rfl,QPJ _,rfl,hf,h7⟩ ?_;clear hf h7;rintro _ st ⟨f,fr,j,rfl,rfl,hjl,hany,⟨h3,h4,h5,m3',m4',m5'⟩,h7⟩;have m3:=m3';have m4:=m4';have m5:=m5';simp only[QG]at m3;simp only[PO.cells]at m4;simp only[vc]at m5;simp only[h5,h7,m5,QQu,eE,seval];by_cases hlt:j<x.list.length
 case neg=>
  have ha:x.list.any m=false:=by rw[hany,QQd (by omega)];rfl
  simp only[QO hlt,Qb,seval];exact hx _ _ ⟨(by exact h3),(by exact h4),(by exact h5),m3',m4',m5'⟩ ha
 obtain⟨y,hj⟩:∃y,x.list[j]? = some y:=⟨x.list[j],QPE hlt⟩;have hgy:=CC hj;have hcl:=hm y (QPN hj);have e1:=Qw j _ hlt (by simp only[maxLen];omega);have hdr:x.list.drop j=y :: x.list.drop (j+1):=by
  rw[QQk hlt,(QPD.1 hj).2]
 rw[hdr,List.any_cons]at hany;rw[show P.av=.agg (QG P)from rfl,Qc y]at hcl;simp only[QG,Qv,PO.cells]at hcl;simp only[Qr hlt,Qm,QQ2,Qf,hgy,h3,h4,h5,h7,m3,m4,m5,eE,seval];refine Qa hcl rfl rfl rfl (.inl rfl) ?_;cases hmy:m y
 ·rw[hmy,QRj]at hany;simp only[h7,e1,Qb,seval];exact⟨x.list.length-(j+1),by omega,_,_,j+1,rfl,rfl,by omega,hany,⟨(by exact h3),(by exact h4),(by exact h5),m3',m4',m5'⟩,(by rfl)⟩
 ·rw[hmy,QRi]at hany;simp only[Qb,seval];exact hy _ _ (by rfl) hany
theorem Sw (hm:∀p∈x.pairs,Qh Tryz.prog 40 [P.av,Qv o,p.2.av] (.bool (m p.2)))(f:Fr)(fr:Nat→Ob)(hf:LaF P o x f fr)(h8:f 8=.int .i64 0)(Q:Exit→St→Prop)
  (hx:∀f fr,LaF P o x f fr→(x.pairs.any fun p=>m p.2)=false→Q (.exit 2) ⟨f,[fr],[]⟩)
  (hy:∀f fr,f 6=.bool true→(x.pairs.any fun p=>m p.2)=true→Q .ret ⟨f,[fr],[]⟩) :
  QH Tryz.prog (.loop Tx) ⟨f,[fr],[]⟩ Q:=by
 have ll:=Zx x
 let I:Nat→St→Prop:=fun k st=>∃f fr j,st=⟨f,[fr],[]⟩∧k=x.pairs.length-j∧j≤x.pairs.length∧(x.pairs.any fun p=>m p.2)=((x.pairs.drop j).any fun p=>m p.2)∧LaF P o x f fr∧f 8=.int .i64 (j:Nat)
 refine Qg I _ ⟨f,fr,0,rfl,rfl,QPJ _,rfl,hf,h8⟩ ?_;clear hf h8;rintro _ st ⟨f,fr,j,rfl,rfl,hjl,hany,⟨h3,h4,h5,m3',m4',m5'⟩,h8⟩;have m3:=m3';have m4:=m4';have m5:=m5';simp only[QG]at m3;simp only[PO.cells]at m4;simp only[vc]at m5;simp only[h5,h8,m5,QQu,eE,seval];by_cases hlt:j<x.pairs.length
 case neg=>
  have ha:(x.pairs.any fun p=>m p.2)=false:=by rw[hany,QQd (by omega)];rfl
  simp only[QO hlt,Qb,seval];exact hx _ _ ⟨(by exact h3),(by exact h4),(by exact h5),m3',m4',m5'⟩ ha
 obtain⟨y,hj⟩:∃y,x.pairs[j]? = some y:=⟨x.pairs[j],QPE hlt⟩;have hgy:=JI hj;have hcl:=hm y (QPN hj);have e1:=Qw j _ hlt (by simp only[maxLen];omega);have hdr:x.pairs.drop j=y :: x.pairs.drop (j+1):=by
  rw[QQk hlt,(QPD.1 hj).2]
 rw[hdr,List.any_cons]at hany;rw[show P.av=.agg (QG P)from rfl,Qc y.2]at hcl;simp only[QG,Qv,PO.cells]at hcl;simp only[Qr hlt,Qm,QQ2,Qf,hgy,h3,h4,h5,h8,m3,m4,m5,eE,seval];refine Qa hcl rfl rfl rfl (.inl rfl) ?_;cases hmy:m y.2
 ·rw[hmy,QRj]at hany;simp only[h8,e1,Qb,seval];exact⟨x.pairs.length-(j+1),by omega,_,_,j+1,rfl,rfl,by omega,hany,⟨(by exact h3),(by exact h4),(by exact h5),m3',m4',m5'⟩,(by rfl)⟩
 ·rw[hmy,QRi]at hany;simp only[Qb,seval];exact hy _ _ (by rfl) hany

theorem Ra (hk:o.kind=10)(hx:x.kd≠10)(hm:∀y∈x.list,Qh Tryz.prog 40 [P.av,Qv o,y.av] (.bool (m y)))(hn:∀p∈x.pairs,Qh Tryz.prog 40 [P.av,Qv o,p.2.av] (.bool (m p.2))) :
  Qh Tryz.prog 40 [P.av,Qv o,x.av] (.bool (x.list.any m||x.pairs.any fun p=>m p.2)):=by
 have b1:(o.kind != 10)=false:=by simp[hk]
 have b2:(x.kd==10)=false:=by simp[hx]
 have hlp:=Qal P o x hl m hm;have hpp:=Sw P o x hl m hn;rw[show P.av=.agg (QG P)from rfl,Qc x];refine k40.fn (by simp) ?_;simp only[QG,Qv,PO.cells,b1,b2,eE,seval];refine hlp _ _ ⟨(by rfl),(by rfl),(by rfl),(by rfl),(by rfl),(by rfl)⟩ (by rfl) _ (fun f fr hf ha=>?_) (fun f fr h6 ha=>?_)
 ·obtain⟨h3,h4,h5,m3,m4,m5⟩:=hf;rw[ha,QRj];simp only[Qb,seval];refine hpp _ _ ⟨(by exact h3),(by exact h4),(by exact h5),m3,m4,m5⟩ (by rfl) _ (fun f fr hf ha=>?_) (fun f fr h6 ha=>?_)
  ·rw[ha];simp only[Qb,seval]
  ·rw[ha];simp only[h6,Qb,seval]
 ·rw[ha,QRi];simp only[h6,Qb,seval]
end

section
variable {M:Nat}(P:PL)(hP:P.ok M)(hr:ZY P)(hU:WW P)

include hU in
theorem QtK (n:Nat)(ih:∀(t:Int) (v:V),(0≤t∧t<(P.progs.length:Int))→TY P n (Qn P t) v→v.cnt≤1048576→Qh Tryz.prog 17 [P.av,.int .i64 t,v.av] (.bool (XX P n (Qn P t) v)))
  (g:PG) (hg:g∈P.progs) (o:PO) (ho:o∈g.ops) (x:V) (hx:TE (TY P n) P o x) (hc:x.cnt≤1048576):Qh Tryz.prog 40 [P.av,Qv o,x.av] (.bool (Ul (XX P n) P o x)):=by
 by_cases hk:o.kind=10
 case neg=>
  have b1:(o.kind != 10)=true:=by simp[hk]
  have b1':(o.kind==10)=false:=by simp[hk]
  rw[show Ul (XX P n) P o x=false by unfold Ul;rw[b1',QQ5],show P.av=.agg (QG P)from rfl,Qc x];refine k40.fn (by simp) ?_;simp only[QG,Qv,PO.cells,b1,eE,seval]
 have htt:=(hU g hg o ho).tgt hk;have one:∀y,TY P n (Qn P o.target) y→y.cnt≤1048576→Qh Tryz.prog 40 [P.av,Qv o,y.av] (.bool (XX P n (Qn P o.target) y)):=fun y hy hc=>QtJ P o hk y (AL hy) _ (ih o.target y htt hy hc)
 have b1':(o.kind==10)=true:=by simp[hk]
 unfold TE at hx;unfold Ul;rw[b1',QRf];by_cases h4:o.card=4
 ·rw[QP5 h4]at hx;rw[QP5 h4];have h:=Ra P o x hc (XX P n (Qn P o.target)) hk (by omega) (fun y hy=>one y (hx.2.2 hk y hy) (by have:=Ue hy;rw[Q3 x]at hc;omega)) (fun p hp=>by rw[hx.2.1]at hp;cases hp);rw[hx.2.1]at h
  simpa using h
 ·rw[QPO h4]at hx;rw[QPO h4];by_cases h5:o.card=5
  ·rw[QP5 h5]at hx;rw[QP5 h5];have h:=Ra P o x hc (XX P n (Qn P o.target)) hk (by omega) (fun y hy=>by rw[hx.2.1]at hy;cases hy) (fun p hp=>one p.2 (hx.2.2 hk p hp) (by have:=W3 hp;rw[Q3 x]at hc;omega));rw[hx.2.1]at h
   simpa using h
  ·rw[QPO h5]at hx;rw[QPO h5];exact one x (hx hk) hc

structure LsF (P:PL)(t:Int)(v:V)(i:Nat)(f:Fr)(fr:Nat→Ob):Prop where
 f1:f 1=.int .i64 t
 f3:f 3=.ptr 0 3 0
 f5:f 5=.ptr 0 5 0
 f7:f 7=.int .i64 (i:Nat)
 m3:fr 3=.cells (QG P)
 m5:fr 5=.cells (vc v)

include hP hr hU in
theorem Qam (n:Nat)(t:Int)(ht:0≤t∧t<(P.progs.length:Int))(ih:∀(t:Int) (v:V),(0≤t∧t<(P.progs.length:Int))→TY P n (Qn P t) v→v.cnt≤1048576→Qh Tryz.prog 17 [P.av,.int .i64 t,v.av] (.bool (XX P n (Qn P t) v)))
  (v:V) (hv:TY P (n+1) (Qn P t) v) (hc:v.cnt≤1048576):Qh Tryz.prog 17 [P.av,.int .i64 t,v.av] (.bool (XX P (n+1) (Qn P t) v)):=by
 have hgm:=(ZQ ht).1;have hgp:(P.progs.map Qp)[t.toNat]? = some (.agg [.str (Qn P t).name,.list ((Qn P t).ops.map fun o=>AV.agg o.cells),.int .i64 (Qn P t).unions]):=by
  rw[QQX,(ZQ ht).2];rfl
 have ht0:(0≤t)=True:=by simp[ht.1]
 have hgl:(Qn P t).ops.length≤maxLen:=(hP.progs _ hgm).len;have hrg:=hr _ hgm;have ls:=Xe v;rw[show XX P (n+1) (Qn P t) v=(Qn P t).ops.any (W7 (XX P n) P v)from rfl];generalize Qn P t=g at *;rw[show P.av=.agg (QG P)from rfl,Qc v];refine k17.fn (by simp) ?_;simp only[QG,eE,seval]
 let I:Nat→St→Prop:=fun k st=>∃f fr i,st=⟨f,[fr],[]⟩∧k=g.ops.length-i∧i≤g.ops.length∧g.ops.any (W7 (XX P n) P v)=(g.ops.drop i).any (W7 (XX P n) P v)∧LsF P t v i f fr∧∀s∈[9,8],(fr s).isRow=false
 refine Qg I _ ⟨_,_,0,rfl,rfl,QPJ _,rfl,⟨(by rfl),(by rfl),(by rfl),(by rfl),(by rfl),(by rfl)⟩,Y9 rfl rfl⟩ ?_;rintro _ st ⟨f0,fr0,i,rfl,rfl,hil,hany,⟨h10,h30,h50,h70,m30,m50⟩,hrow⟩;refine QX (a:=_) [9,8] hrow ?_;intro f fr hf hmm hn;have h1:f 1=.int .i64 t:=by rw[hf,h10]<;>rfl
 have h3:f 3=.ptr 0 3 0:=by rw[hf,h30]<;>rfl
 have h5:f 5=.ptr 0 5 0:=by rw[hf,h50]<;>rfl
 have h7:f 7=.int .i64 (i:Nat):=by rw[hf,h70]<;>rfl
 have m3':fr 3=.cells (QG P):=by rw[hmm 3 (by decide),m30]<;>rfl
 have m5':fr 5=.cells (vc v):=by rw[hmm 5 (by decide),m50]<;>rfl
 have n9:=hn 9 (by decide);have n8:=hn 8 (by decide);clear hf hmm hn h10 h30 h50 h70 m30 m50 hrow;have m3:=m3';have m5:=m5';simp only[QG]at m3;simp only[vc]at m5;simp only[h1,h3,h7,m3,hgp,ht0,Qf,QQu,eE,seval];by_cases hlt:i<g.ops.length
 case neg=>
  have ha:g.ops.any (W7 (XX P n) P v)=false:=by rw[hany,QQd (by omega)];rfl
  simp only[QO hlt,ha,Qb,seval]
 obtain⟨o,hi⟩:∃o,g.ops[i]? = some o:=⟨g.ops[i],QPE hlt⟩;have hom:=QPN hi;have hgo:(g.ops.map fun o=>AV.agg o.cells)[i]? = some (.agg [.int .i64 o.num,.str o.name,.str o.alias,.int .i64 o.card,.int .i64 o.key,.int .i64 o.kind,.int .i64 o.target,.int .i64 o.union]):=Ma hi;have e1:=Qw i _ hlt hgl;have hdr:g.ops.drop i=o :: g.ops.drop (i+1):=by
  rw[QQk hlt,(QPD.1 hi).2]
 rw[hdr,List.any_cons]at hany;have hfd:=Vv v o.num (by omega);have hoc:=Kt v o.num;have hte:=fun x hx=>P9 (x:=x) hrg hv hom hx
 rw[Qc v]at hfd;rw[show W7 (XX P n) P v o=(match Xk v o.num with|none=>o.card==1|some x=>Ul (XX P n) P o x)from rfl]at hany;have next:∀(f':Fr) (fr':Nat→Ob),g.ops.any (W7 (XX P n) P v)=(g.ops.drop (i+1)).any (W7 (XX P n) P v)→LsF P t v (i+1) f' fr'→(∀s∈[9,8],(fr' s).isRow=false)→∃k,k<g.ops.length-i∧I k ⟨f',[fr'],[]⟩:=fun f' fr' a b c=>⟨g.ops.length-(i+1),by omega,f',fr',i+1,rfl,rfl,by omega,a,b,c⟩
 cases hf:Xk v o.num with
 |none=>
  rw[hf]at hfd hany;rw[Qc (QL v o.num)]at hfd;simp only[QQq]at hfd;dsimp only at hany;simp only[Qr hlt,Qm,QQ2,Qf,hgp,ht0,hgo,n8,h1,h3,h5,h7,m3,m5,eE,seval];refine Qa hfd rfl rfl rfl (.inl rfl) ?_;cases h1':(o.card==1)
  ·rw[h1',QRj]at hany;simp only[h1',n9,n8,h7,e1,eE,seval];exact next _ _ hany ⟨(by exact h1),(by exact h3),(by exact h5),(by rfl),(by exact m3'),(by exact m5')⟩ (Y9 rfl rfl)
  ·rw[h1',QRi]at hany;simp only[h1',hany,n9,n8,eE,seval]
 |some x=>
  have hx:=(Xg hf).2;have hte:=hte x hf;rw[hf]at hfd hany;rw[hx]at hfd hoc;have hlv:=QtK P hU n ih g hgm o hom x hte (by omega);rw[Qc x]at hfd;rw[show P.av=.agg (QG P)from rfl,Qc x]at hlv;simp only[QRp]at hfd;simp only[QG,Qv,PO.cells]at hlv;dsimp only at hany;simp only[Qr hlt,Qm,QQ2,Qf,hgp,ht0,hgo,n8,h1,h3,h5,h7,m3,m5,eE,seval];refine Qa hfd rfl rfl rfl (.inl rfl) ?_;simp only[n9,n8,h3,m3,eE,seval];refine Qa hlv rfl rfl rfl (.inl rfl) ?_;cases he:Ul (XX P n) P o x
  ·rw[he,QRj]at hany;simp only[h7,e1,Qb,seval];exact next _ _ hany ⟨(by exact h1),(by exact h3),(by exact h5),(by rfl),(by exact m3'),(by exact m5')⟩ (Y9 rfl rfl)
  ·rw[he,QRi]at hany;simp only[hany,Qb,seval]

include hP hr hU in
theorem j17:∀(n:Nat) (t:Int) (v:V),(0≤t∧t<(P.progs.length:Int))→TY P n (Qn P t) v→v.cnt≤1048576→Qh Tryz.prog 17 [P.av,.int .i64 t,v.av] (.bool (XX P n (Qn P t) v))
 |0,_,_,_,h,_=>h.elim
 |n+1,t,v,ht,hv,hc=>Qam P hP hr hU n t ht (j17 n) v hv hc

end
end Go.Proofs.YtfgchfdkiomfpaaGreat.Va

namespace Go.Proofs.YtfgchfdkiomfpaaGreat.Va
open Go Am Rc Bt Br Up So

section
variable {M:Nat}{P:PL}{m:PG→V→Prop}{nm:PG→V→V}(o:PO)(ho:UO P o)

include ho in
theorem v84 (hm:∀(t:Int) (g:PG),P.progs[t.toNat]? = some g→0≤t→∀v:V,v.ok M→v.cnt≤1048576→m g v→Qh Tryz.prog 23 [P.av,.int .i64 t,v.av] (nm g v).av)(v:V)(hv:v.ok M)(hc:v.cnt≤1048576)(he:EW m P o v) :
  Qh Tryz.prog 84 [P.av,Qv o,v.av] (Jc nm P o v).av:=by
 have e0:P.av=.agg [.list (P.progs.map Qp),.list (P.enums.map QW)]:=rfl;unfold Jc;by_cases hk:o.kind=10
 ·have b:(o.kind==10)=true:=by simp[hk]
  have he:=he hk;rw[QP5 hk];obtain⟨t0,t1⟩:=ho.tgt hk;obtain⟨g,hg⟩:∃g,P.progs[o.target.toNat]? = some g:=⟨P.progs[o.target.toNat]'(by omega),QPE (by omega)⟩;have hq:Qn P o.target=g:=by unfold Qn;rw[hg];rfl
  rw[hq]at he ⊢;have h2:=hm o.target g hg t0 v hv hc he;generalize nm g v=z at h2 ⊢;rw[e0,Qc,Qc]at h2;rw[Qc,Qc];refine k84.fn (by simp) ?_;simp only[e0,Qv,PO.cells,b,eE,seval];refine Qa h2 rfl rfl rfl (.inl rfl) ?_;simp only[eE,seval]
 ·have b:(o.kind==10)=false:=by simp[hk]
  rw[QPO hk];have h1:=v86 v (WJ hv);generalize v.nsc=z at h1 ⊢;rw[Qc,Qc]at h1;rw[Qc,Qc];refine k84.fn (by simp) ?_;simp only[e0,Qv,PO.cells,b,eE,seval];refine Qa h1 rfl rfl rfl (.inl rfl) ?_;simp only[eE,seval]

def WlI (P:PL)(o:PO)(v:V)(F:V→V)(k:Nat)(st:St):Prop :=
 ∃f fr i g,st=⟨f,[fr],[]⟩∧k=v.list.length-i∧i≤v.list.length∧f 3=.ptr 0 3 0∧f 4=.ptr 0 4 0∧f 5=.ptr 0 5 0∧f 6=.ptr 0 6 0∧f 7=.ptr 0 7 0∧f 8=.int .i64 (i:Nat)∧fr 3=.cells [.list (P.progs.map Qp),.list (P.enums.map QW)]∧fr 4=.cells o.cells∧fr 5=.cells [.int .i64 v.kd,.int .u64 (v.bits:Nat),.str v.text,.list (v.list.map V.av),.list (v.pairs.map V.pav),.list (v.slots.map V.sav),.list (v.raws.map R.av)]∧fr 6=.cells [.int .i64 0,.int .u64 0,.str [],.nils,.nils,.nils,.nils]∧fr 7=.cells [.int .i64 11,.int .u64 0,.str [],.vec 0 1100 g 0 i false,.nils,.nils,.nils]∧fr 1100=.vec g 7 ((v.list.take i).map fun x=>(F x).av)

def WpI (P:PL)(o:PO)(T:List (V×V))(F:V×V→V×V)(k:Nat)(st:St):Prop :=
 ∃f fr i g,st=⟨f,[fr],[]⟩∧k=T.length-i∧i≤T.length∧f 3=.ptr 0 3 0∧f 4=.ptr 0 4 0∧f 6=.ptr 0 6 0∧f 9=.ptr 0 9 0∧f 10=.list (T.map V.pav)∧f 11=.int .i64 (i:Nat)∧fr 3=.cells [.list (P.progs.map Qp),.list (P.enums.map QW)]∧fr 4=.cells o.cells∧fr 6=.cells [.int .i64 0,.int .u64 0,.str [],.nils,.nils,.nils,.nils]∧fr 9=.cells [.int .i64 12,.int .u64 0,.str [],.nils,.vec 0 1101 g 0 i false,.nils,.nils]∧fr 1101=.vec g 14 ((T.take i).map fun x=>V.pav (F x))

set_option maxHeartbeats 1000000 in
include ho in
theorem v45 (hel:∀v:V,v.ok M→v.cnt≤1048576→EW m P o v→Qh Tryz.prog 84 [P.av,Qv o,v.av] (Jc nm P o v).av)(v:V)(hv:v.ok M)(hc:v.cnt≤1048576)(he:FW m P o v) :
  Qh Tryz.prog 45 [P.av,Qv o,v.av] (JH nm P o v).av:=by
 have e0:P.av=.agg [.list (P.progs.map Qp),.list (P.enums.map QW)]:=rfl;unfold JH;unfold FW at he;by_cases h4:o.card=4
 ·have b4:(o.card==4)=true:=by simp[h4]
  rw[QP5 h4]at he;rw[QP5 h4];have hL:=he;have hlen:=Zn v;rw[Qc v];generalize hF:Jc nm P o=F at hel ⊢;rw[show(V.mk 11 0 [] (v.list.map F) [] [] []).av=.agg [.int .i64 11,.int .u64 0,.str [],.list ((v.list.map F).map V.av),.list [],.list [],.list []]from Qc _];refine k45.fn (by simp) ?_;simp only[e0,Qv,PO.cells,b4,eE,seval];refine JB (by simp only[Qb,seval]<;>rfl) rfl (by simp only[Qb,seval]<;>rfl) rfl ?_;simp only[List.set,Qb,seval];refine Qg (WlI P o v F) _ ⟨_,_,0,_,rfl,rfl,QPJ _,(by rfl),(by rfl),(by rfl),(by rfl),(by rfl),(by rfl),(by rfl),(by rfl),(by rfl),(by rfl),(by rfl),(by rfl)⟩ ?_;rintro _ st ⟨f,fr,i,g,rfl,rfl,hil,h3,h4,h5,h6,h7,h8,m3,m4,m5,m6,m7,mR⟩;have m4':=m4;simp only[PO.cells]at m4;simp only[QQu,h5,h8,m5,eE,seval];by_cases hlt:i<v.list.length
  ·obtain⟨x,hi⟩:∃x,v.list[i]? = some x:=⟨v.list[i],QPE hlt⟩;have hx:=QPN hi;have hg:=CC hi;have e1:=Qw i _ hlt (by simp only[maxLen];omega);have c1:=hel x (hv.list x hx) (QPC (HX hx) hc) (hL x hx);have hti:((v.list.take i).map fun x=>(F x).av).length=i:=by rw[QQu,QQw];omega
   have hts:(v.list.take (i+1)).map (fun x=>(F x).av)=(v.list.take i).map (fun x=>(F x).av)++[(F x).av]:=by rw[QRm,hi];simp
   generalize F x=z at c1 hts;rw[e0,Qc x,Qc z]at c1;simp only[Qv,PO.cells]at c1;simp only[Qr hlt,Qm,QQ2,Qf,hg,h3,h4,h5,h7,h8,m3,m4,m5,m7,eE,seval];refine Qa c1 rfl rfl rfl (.inl rfl) ?_;refine QN (l:=[z.av]) rfl rfl rfl (by rw[Qc];rfl) ?_;refine QF (site:=1100) (g:=g) (n:=i) (xs:=(v.list.take i).map fun x=>(F x).av) (ys:=[z.av]) (by rfl) (by exact mR) rfl hti.symm rfl (HW [z]) (by simp only[QPP,QQv,maxLen];omega) (by simp only[QPP,QQv];omega) ?_;simp only[h7,h8,m7,e1,eE,seval];exact⟨v.list.length-(i+1),by omega,_,_,i+1,g+1,rfl,rfl,by omega,(by exact h3),(by exact h4),(by exact h5),(by exact h6),(by exact h7),(by rfl),(by exact m3),(by exact m4'),(by exact m5),(by exact m6),(by rfl),(by rw[hts];exact(by rfl))⟩
  ·have e:i=v.list.length:=by omega
   subst e;rw[QRd,AF]at mR;simp only[QO hlt,h6,h7,m6,m7,eE,seval];simp[AV.un,AV.unL,Zp,XD,mR,QQa]
 ·have b4:(o.card==4)=false:=by simp[h4]
  rw[QPO h4];by_cases h5:o.card=5
  ·have b5:(o.card==5)=true:=by simp[h5]
   rw[QPO h4,QP5 h5]at he;rw[QP5 h5];have hE:=he;have hlen:=Zx v;have hk:=ho.key h5;have cp:=v85 hk v.pairs (by omega) (fun p hp=>(hE.1 p hp).1) (fun p hp=>WJ (hv.keys p hp)) hE.2;have hperm:(QV o.key v.pairs).Perm v.pairs:=Q0 _;have hTl:(QV o.key v.pairs).length=v.pairs.length:=hperm.length_eq;have hTm:∀p∈QV o.key v.pairs,p∈v.pairs:=fun p h=>hperm.mem_iff.1 h
   generalize QV o.key v.pairs=T at *;rw[Qc v];generalize hF:(fun p:V×V=>(p.1.nsc,Jc nm P o p.2))=F;rw[show(V.mk 12 0 [] [] (T.map F) [] []).av=.agg [.int .i64 12,.int .u64 0,.str [],.list [],.list ((T.map F).map V.pav),.list [],.list []]from Qc _];refine k45.fn (by simp) ?_;simp only[e0,Qv,PO.cells,b4,b5,eE,seval];refine JB (by simp only[Qb,seval]<;>rfl) rfl (by simp only[Qb,seval]<;>rfl) rfl ?_;simp only[List.set,eE,seval];refine Qa cp rfl rfl rfl (.inl rfl) ?_;simp only[Qb,seval];refine Qg (WpI P o T F) _ ⟨_,_,0,_,rfl,rfl,QPJ _,(by rfl),(by rfl),(by rfl),(by rfl),(by rfl),(by rfl),(by rfl),(by rfl),(by rfl),(by rfl),(by rfl)⟩ ?_;rintro _ st ⟨f,fr,i,g,rfl,rfl,hil,h3,h4,h6,h9,h10,h11,m3,m4,m6,m9,mR⟩;have m4':=m4;simp only[PO.cells]at m4;simp only[QQu,h10,h11,Qb,seval];by_cases hlt:i<T.length
   ·obtain⟨x,hi⟩:∃x,T[i]? = some x:=⟨T[i],QPE hlt⟩;have hx:=hTm x (QPN hi);have hg:=JI hi;have e1:=Qw i _ hlt (by simp only[maxLen];omega);have c0:=v86 x.1 (WJ (hv.keys x hx));have c1:=hel x.2 (hv.vals x hx) (QPC (DC hx) hc) (hE.1 x hx).2;have hti:((T.take i).map fun x=>V.pav (F x)).length=i:=by rw[QQu,QQw];omega
    have hFx:F x=(x.1.nsc,Jc nm P o x.2):=by rw[←hF]
    have hts:(T.take (i+1)).map (fun x=>V.pav (F x))=(T.take i).map (fun x=>V.pav (F x))++[V.pav (x.1.nsc,Jc nm P o x.2)]:=by rw[QRm,hi,←hFx];simp
    generalize x.1.nsc=y at c0 hts;generalize Jc nm P o x.2=z at c1 hts;rw[Qc,Qc y]at c0;rw[e0,Qc,Qc z]at c1;simp only[Qv,PO.cells]at c1;simp only[Qr hlt,Qm,QQ2,Qf,hg,h9,h10,h11,m9,eE,seval];refine Qa c0 rfl rfl rfl (.inl rfl) ?_;simp only[Qm,QQ2,Qf,hg,QP9,QQc,QQj,h3,h4,h10,h11,m3,m4,eE,seval];refine Qa c1 rfl rfl rfl (.inl rfl) ?_;simp only[eE,seval];refine QN (l:=[V.pav (y,z)]) rfl rfl rfl (by rw[Q7];rfl) ?_;refine QF (site:=1101) (g:=g) (n:=i) (xs:=(T.take i).map fun x=>V.pav (F x)) (ys:=[V.pav (y,z)]) (by rfl) (by exact mR) rfl hti.symm rfl (XQ [(y,z)]) (by simp only[QPP,QQv,maxLen];omega) (by simp only[QPP,QQv];omega) ?_;simp only[h9,h11,m9,e1,eE,seval];exact⟨T.length-(i+1),by omega,_,_,i+1,g+1,rfl,rfl,by omega,(by exact h3),(by exact h4),(by exact h6),(by exact h9),(by exact h10),(by rfl),(by exact m3),(by exact m4'),(by exact m6),(by rfl),(by rw[hts];exact(by rfl))⟩
   ·have e:i=T.length:=by omega
    subst e;rw[QRd,PW]at mR;simp only[QO hlt,h6,h9,m6,m9,eE,seval];simp[AV.un,AV.unL,Zp,XD,mR,QQa]
  ·have b5:(o.card==5)=false:=by simp[h5]
   rw[QPO h4,QPO h5]at he;rw[QPO h5];have c1:=hel v hv hc he;generalize Jc nm P o v=z at c1 ⊢;rw[e0,Qc v,Qc z]at c1;simp only[Qv,PO.cells]at c1;rw[Qc v,Qc z];refine k45.fn (by simp) ?_;simp only[e0,Qv,PO.cells,b4,b5,eE,seval];refine Qa c1 rfl rfl rfl (.inl rfl) ?_;simp only[eE,seval]

end

theorem Rb {fr:Nat→Ob}{a b:Nat}(h1:(fr a).isRow=false)(h2:(fr b).isRow=false):∀s∈[a,b],(fr s).isRow=false:=by
 intro s hs;simp only[QQV,QRA,or_false]at hs;rcases hs with rfl|rfl
 ·exact h1
 ·exact h2
theorem UZ {fr:Nat→Ob}{a:Nat}(h1:(fr a).isRow=false):∀s∈[a],(fr s).isRow=false:=by
 intro s hs;simp only[QQV,QRA,or_false]at hs;subst hs;exact h1

theorem isr {x:Ob}(h:x=.none):x.isRow=false:=by rw[h];rfl

def ZR (nm:PG→V→V)(P:PL)(o:PO)(s:Int×V):List (Int×V):=if (s.1==o.num)=true then ZZ nm P o s else []
theorem Fd (nm:PG→V→V)(P:PL)(o:PO):∀l:List (Int×V),(l.flatMap (ZR nm P o)).length≤l.length
 | []=>QPB _
 |s :: l=>by
  have h1:(ZR nm P o s).length≤1:=by
   unfold ZR;split
   ·unfold ZZ;split<;>simp
   ·simp
  have:=Fd nm P o l;rw[QQ4,QQe,QPP];omega

def Hz (v:V):List AV:=[.int .i64 v.kd,.int .u64 (v.bits:Nat),.str v.text,.list (v.list.map V.av),.list (v.pairs.map V.pav),.list (v.slots.map V.sav),.list (v.raws.map R.av)]

theorem Sx {P:PL}{v:V}{o:PO}{n:Nat}{ti i:Nat}(K:List (Int×V))(hK:K.length≤64)(hS:v.slots.length≤1048576)(rw':List R)
  (hw:∀x∈v.slots,x.1=o.num→Qh Tryz.prog 45 [P.av,Qv o,x.2.av] (JH (XC P n) P o x.2).av)
  (fr:Nat→Ob) (f:Fr) (gs:Nat) (h1:f 1=.int .i64 (ti:Nat)) (h3:f 3=.ptr 0 3 0) (h5:f 5=.ptr 0 5 0) (h6:f 6=.ptr 0 6 0) (h7:f 7=.ptr 0 7 0) (h8:f 8=.int .i64 (i:Nat)) (h9:f 9=.ptr 0 9 0) (h10:f 10=.int .i64 0) (m3:fr 3=.cells [.list (P.progs.map Qp),.list (P.enums.map QW)]) (m5:fr 5=.cells (Hz v)) (m6:fr 6=.cells [.int .i64 0,.int .u64 0,.str [],.nils,.nils,.nils,.nils]) (m7:fr 7=.cells [.int .i64 10,.int .u64 0,.str [],.nils,.nils,.vec 0 1100 gs 0 K.length false,.list (rw'.map R.av)]) (m9:fr 9=.cells o.cells) (mS:fr 1100=.vec gs 8 (K.map V.sav)) (Yf:∀s∈[11],(fr s).isRow=false)
  (Q:Exit→St→Prop)
  (q:∀(f:Fr) (fr:Nat→Ob) (gs:Nat),f 1=.int .i64 (ti:Nat)→f 3=.ptr 0 3 0→f 5=.ptr 0 5 0→f 6=.ptr 0 6 0→f 7=.ptr 0 7 0→f 8=.int .i64 (i:Nat)→fr 3=.cells [.list (P.progs.map Qp),.list (P.enums.map QW)]→fr 5=.cells (Hz v)→fr 6=.cells [.int .i64 0,.int .u64 0,.str [],.nils,.nils,.nils,.nils]→fr 7=.cells [.int .i64 10,.int .u64 0,.str [],.nils,.nils,.vec 0 1100 gs 0 (K++v.slots.flatMap (ZR (XC P n) P o)).length false,.list (rw'.map R.av)]→fr 1100=.vec gs 8 ((K++v.slots.flatMap (ZR (XC P n) P o)).map V.sav)→(fr 9).isRow=false→(fr 11).isRow=false→Q (.exit 2) (⟨f,[fr],[]⟩:St)) :
  QH Tryz.prog (.loop SQ) ⟨f,[fr],[]⟩ Q:=by
 have e0:P.av=.agg [.list (P.progs.map Qp),.list (P.enums.map QW)]:=rfl
 let L:Nat→List (Int×V):=fun k=>K++(v.slots.take k).flatMap (ZR (XC P n) P o)
 have hL0:L 0=K:=by simp[L]
 have hLn:L v.slots.length=K++v.slots.flatMap (ZR (XC P n) P o):=by simp[L]
 have hLl:∀k,k≤v.slots.length→(L k).length≤64+k:=by
  intro k hk;have:=Fd (XC P n) P o (v.slots.take k);rw[QQw]at this;simp only[L,QQe];omega
 have hLs:∀k x,v.slots[k]? = some x→L (k+1)=L k++ZR (XC P n) P o x:=by
  intro k x hx;simp only[L];rw[QRm,hx,List.flatMap_append,QPV];simp
 rw[←hLn]at q;rw[←hL0]at m7 mS
 clear_value L
 clear hL0 hLn hK
 let I:Nat→St→Prop:=fun d st=>∃f fr k gs,st=⟨f,[fr],[]⟩∧d=v.slots.length-k∧k≤v.slots.length∧f 1=.int .i64 (ti:Nat)∧f 3=.ptr 0 3 0∧f 5=.ptr 0 5 0∧f 6=.ptr 0 6 0∧f 7=.ptr 0 7 0∧f 8=.int .i64 (i:Nat)∧f 9=.ptr 0 9 0∧f 10=.int .i64 (k:Nat)∧fr 3=.cells [.list (P.progs.map Qp),.list (P.enums.map QW)]∧fr 5=.cells (Hz v)∧fr 6=.cells [.int .i64 0,.int .u64 0,.str [],.nils,.nils,.nils,.nils]∧fr 7=.cells [.int .i64 10,.int .u64 0,.str [],.nils,.nils,.vec 0 1100 gs 0 (L k).length false,.list (rw'.map R.av)]∧fr 9=.cells o.cells∧fr 1100=.vec gs 8 ((L k).map V.sav)∧∀s∈[11],(fr s).isRow=false
 refine Qg I _ ⟨f,fr,0,gs,rfl,rfl,QPJ _,h1,h3,h5,h6,h7,h8,h9,h10,m3,m5,m6,m7,m9,mS,Yf⟩ ?_;clear h1 h3 h5 h6 h7 h8 h9 h10 m3 m5 m6 m7 m9 mS Yf;rintro _ st ⟨f0,fr0,k,gs,rfl,rfl,hkl,h10,h30,h50,h60,h70,h80,h90,h100,m30,m50,m60,m70,m90,mS0,Yf⟩;refine QX (a:=_) [11] Yf ?_;intro f fr hf hm hn11;have h1:f 1=.int .i64 (ti:Nat):=by rw[hf,h10]<;>rfl
 have h3:f 3=.ptr 0 3 0:=by rw[hf,h30]<;>rfl
 have h5:f 5=.ptr 0 5 0:=by rw[hf,h50]<;>rfl
 have h6:f 6=.ptr 0 6 0:=by rw[hf,h60]<;>rfl
 have h7:f 7=.ptr 0 7 0:=by rw[hf,h70]<;>rfl
 have h8:f 8=.int .i64 (i:Nat):=by rw[hf,h80]<;>rfl
 have h9:f 9=.ptr 0 9 0:=by rw[hf,h90]<;>rfl
 have h10':f 10=.int .i64 (k:Nat):=by rw[hf,h100]<;>rfl
 have m3:fr 3=.cells [.list (P.progs.map Qp),.list (P.enums.map QW)]:=by rw[hm 3 (by decide),m30]<;>rfl
 have m5':fr 5=.cells (Hz v):=by rw[hm 5 (by decide),m50]<;>rfl
 have m6:fr 6=.cells [.int .i64 0,.int .u64 0,.str [],.nils,.nils,.nils,.nils]:=by rw[hm 6 (by decide),m60]<;>rfl
 have m7:fr 7=.cells [.int .i64 10,.int .u64 0,.str [],.nils,.nils,.vec 0 1100 gs 0 (L k).length false,.list (rw'.map R.av)]:=by rw[hm 7 (by decide),m70]<;>rfl
 have m9':fr 9=.cells o.cells:=by rw[hm 9 (by decide),m90]<;>rfl
 have mS:fr 1100=.vec gs 8 ((L k).map V.sav):=by rw[hm 1100 (by decide),mS0]<;>rfl
 have n11:=hn11 11 (by decide);clear hf hm hn11 h10 h30 h50 h60 h70 h80 h90 h100 m30 m50 m60 m70 m90 mS0 Yf;have m5:=m5';have m9:=m9';simp only[Hz]at m5;simp only[PO.cells]at m9;simp only[QQu,h5,h10',m5,eE,seval];by_cases hlt:k<v.slots.length
 ·obtain⟨x,hi⟩:∃x,v.slots[k]? = some x:=⟨v.slots[k],QPE hlt⟩;have hx:=QPN hi;have hgs:=Y8 hi;have e1:=Qw k _ hlt (by simp only[maxLen];omega);have hKs:=hLs k x hi;have hKi:=hLl k (by omega);have fin:∀(f':Fr) (fr':Nat→Ob) (gs':Nat),f' 1=.int .i64 (ti:Nat)→f' 3=.ptr 0 3 0→f' 5=.ptr 0 5 0→f' 6=.ptr 0 6 0→f' 7=.ptr 0 7 0→f' 8=.int .i64 (i:Nat)→f' 9=.ptr 0 9 0→f' 10=.int .i64 ((k+1:Nat):Int)→fr' 3=.cells [.list (P.progs.map Qp),.list (P.enums.map QW)]→fr' 5=.cells (Hz v)→fr' 6=.cells [.int .i64 0,.int .u64 0,.str [],.nils,.nils,.nils,.nils]→fr' 7=.cells [.int .i64 10,.int .u64 0,.str [],.nils,.nils,.vec 0 1100 gs' 0 (L (k+1)).length false,.list (rw'.map R.av)]→fr' 9=.cells o.cells→fr' 1100=.vec gs' 8 ((L (k+1)).map V.sav)→(∀s∈[11],(fr' s).isRow=false)→∃d,d<v.slots.length-k∧I d ⟨f',[fr'],[]⟩:=by
   intro f' fr' gs' a1 a3 a5 a6 a7 a8 a9 a10 b3 b5 b6 b7 b9 bS br;exact⟨v.slots.length-(k+1),by omega,f',fr',k+1,gs',rfl,rfl,by omega,a1,a3,a5,a6,a7,a8,a9,a10,b3,b5,b6,b7,b9,bS,br⟩
  cases hne:(x.1==o.num)
  ·have bn:(x.1 != o.num)=true:=by simp[bne,hne]
   unfold ZR at hKs;rw[hne,QPO (by simp),QQD]at hKs;simp only[Qr hlt,Qm,QQ2,Qf,hgs,bn,QQj,h5,h9,h10',m5,m9,e1,eE,seval];exact fin _ _ gs (by exact h1) (by exact h3) (by exact h5) (by exact h6) (by exact h7) (by exact h8) (by exact h9) (by rfl) (by exact m3) (by exact m5') (by exact m6) (by rw[hKs];exact(by exact m7)) (by exact m9') (by rw[hKs];exact(by exact mS)) (UZ (isr (by exact n11)))
  ·have bn:(x.1 != o.num)=false:=by simp[bne,hne]
   unfold ZR at hKs;rw[hne,QP5 rfl]at hKs;unfold ZZ at hKs;have c2:=hw x hx (by simpa using hne);have c3:=QEx (JH (XC P n) P o x.2);generalize JH (XC P n) P o x.2=z at c2 c3 hKs;rw[e0,Qc x.2,Qc z]at c2;rw[Qc z]at c3;simp only[Qv,PO.cells]at c2;simp only[Qr hlt,Qm,QQ2,Qf,hgs,bn,QP9,QQc,QQj,h3,h5,h9,h10',m3,m5,m9,eE,seval];refine Qa c2 rfl rfl rfl (.inl rfl) ?_;simp only[n11,h9,m9,eE,seval];cases hb:decide (o.card<3)
   ·rw[hb,QRj]at hKs;simp only[eE,seval];refine Qa c3 rfl rfl rfl (.inl rfl) ?_;cases hz:z.emp
    ·rw[hz,QP5 (show(!false)=true from rfl)]at hKs;simp only[h7,h9,m7,m9,eE,seval];refine QN (l:=[V.sav (o.num,z)]) rfl rfl rfl (by rw[ZJ];rfl) ?_;refine QF (site:=1100) (g:=gs) (n:=(L k).length) (xs:=(L k).map V.sav) (ys:=[V.sav (o.num,z)]) (by rfl) (by exact mS) rfl (by rw[QQu]) rfl (JK [(o.num,z)]) (by simp only[QPP,QQv,maxLen];omega) (by simp only[QPP,QQv];omega) ?_;simp only[h7,h10',m7,e1,eE,seval];exact fin _ _ (gs+1) (by exact h1) (by exact h3) (by exact h5) (by exact h6) (by exact h7) (by exact h8) (by exact h9) (by rfl) (by exact m3) (by exact m5') (by exact m6) (by rw[hKs,QQe];exact(by rfl)) (by exact m9') (by rw[hKs,QRl];exact(by rfl)) (UZ rfl)
    ·rw[hz,QPO (by simp),QQD]at hKs;simp only[h10',e1,Qb,seval];exact fin _ _ gs (by exact h1) (by exact h3) (by exact h5) (by exact h6) (by exact h7) (by exact h8) (by exact h9) (by rfl) (by exact m3) (by exact m5') (by exact m6) (by rw[hKs];exact(by exact m7)) (by exact m9') (by rw[hKs];exact(by exact mS)) (UZ rfl)
   ·rw[hb,QRi,QP5 rfl]at hKs;simp only[h7,h9,m7,m9,eE,seval];refine QN (l:=[V.sav (o.num,z)]) rfl rfl rfl (by rw[ZJ];rfl) ?_;refine QF (site:=1100) (g:=gs) (n:=(L k).length) (xs:=(L k).map V.sav) (ys:=[V.sav (o.num,z)]) (by rfl) (by exact mS) rfl (by rw[QQu]) rfl (JK [(o.num,z)]) (by simp only[QPP,QQv,maxLen];omega) (by simp only[QPP,QQv];omega) ?_;simp only[h7,h10',m7,e1,eE,seval];exact fin _ _ (gs+1) (by exact h1) (by exact h3) (by exact h5) (by exact h6) (by exact h7) (by exact h8) (by exact h9) (by rfl) (by exact m3) (by exact m5') (by exact m6) (by rw[hKs,QQe];exact(by rfl)) (by exact m9') (by rw[hKs,QRl];exact(by rfl)) (UZ rfl)
 ·have e:k=v.slots.length:=by omega
  subst e;simp only[QO hlt,Qb,seval];exact q _ _ gs (by exact h1) (by exact h3) (by exact h5) (by exact h6) (by exact h7) (by exact h8) (by exact m3) (by exact m5') (by exact m6) (by exact m7) (by exact mS) (by rw[m9'];rfl) (isr n11)

def NoI (P:PL)(v:V)(K:Nat→List (Int×V))(len:Nat)(t:Nat)(rw':List R)(d:Nat)(st:St):Prop :=
 ∃f fr i gs,st=⟨f,[fr],[]⟩∧d=len-i∧i≤len∧f 1=.int .i64 (t:Nat)∧f 3=.ptr 0 3 0∧f 5=.ptr 0 5 0∧f 6=.ptr 0 6 0∧f 7=.ptr 0 7 0∧f 8=.int .i64 (i:Nat)∧fr 3=.cells [.list (P.progs.map Qp),.list (P.enums.map QW)]∧fr 5=.cells (Hz v)∧fr 6=.cells [.int .i64 0,.int .u64 0,.str [],.nils,.nils,.nils,.nils]∧fr 7=.cells [.int .i64 10,.int .u64 0,.str [],.nils,.nils,.vec 0 1100 gs 0 (K i).length false,.list (rw'.map R.av)]∧fr 1100=.vec gs 8 ((K i).map V.sav)∧∀s∈[11,9],(fr s).isRow=false

section
variable {M:Nat}{P:PL}

set_option maxHeartbeats 2000000 in
theorem v23 (hU:WW P)(hr:ZY P)(hl:∀g∈P.progs,g.ops.length≤64):∀(n:Nat) (t:Int) (g:PG),P.progs[t.toNat]? = some g→0≤t→∀v:V,v.ok M→v.cnt≤1048576→MW P n g v→Qh Tryz.prog 23 [P.av,.int .i64 t,v.av] (XC P n g v).av:=by
 have e0:P.av=.agg [.list (P.progs.map Qp),.list (P.enums.map QW)]:=rfl;intro n
 induction n with
 |zero=>
  intro t g _ _ v _ _ h;exact h.elim
 |succ n ih=>
  intro t g hgt t0 v hv hc h;have hgm:=QPN hgt;have hu:=hU g hgm;have hd:=hr g hgm;have hg64:=hl g hgm;obtain⟨s1,s2⟩:=h;have hnor:=fun(o:PO) (ho:o∈g.ops) (x:V) (hx:x.ok M) (hxc:x.cnt≤1048576) (he:EW (MW P n) P o x)=>v84 o (hu o ho) (fun t g a b v c d e=>ih t g a b v c d e) x hx hxc he
  have hwit:=fun(o:PO) (ho:o∈g.ops) (x:V) (hx:x.ok M) (hxc:x.cnt≤1048576) (he:FW (MW P n) P o x)=>v45 o (hu o ho) (hnor o ho) x hx hxc he
  have lS:=Xe v;have lR:=Zz v;have cR:=v44 v.raws (by omega);obtain⟨ti,hti⟩:=QRh t0;subst hti;rw[QQ2]at hgt;have hga:(P.progs.map Qp)[ti]? = some (.agg g.cells):=by simp[hgt,Qp]
  simp only[PG.cells]at hga;have htl:ti<P.progs.length:=(QPD.1 hgt).1;have d0:decide ((ti:Int)<0)=false:=QRo (by omega);have d1:decide ((ti:Int)≥(P.progs.length:Int))=false:=QRo (by omega);show Qh _ _ _ (V.mk 10 0 [] [] [] (g.ops.flatMap (Ji (XC P n) P v.slots)) (Jh v.raws)).av;have hfin:g.ops.flatMap (Ji (XC P n) P v.slots)=g.ops.flatMap fun o=>v.slots.flatMap (ZR (XC P n) P o):=by
   congr 1
   funext o;exact(BD (XC P n) P s2).symm
  have hone:∀o,(v.slots.flatMap (ZR (XC P n) P o)).length≤1:=by
   intro o;have e:v.slots.flatMap (ZR (XC P n) P o)=Ji (XC P n) P v.slots o:=BD (XC P n) P s2;rw[e,WD];split
   ·simp
   ·unfold ZZ;split<;>simp
  rw[hfin];generalize Jh v.raws=RW at *;rw[show v.av=.agg (Hz v)from Qc v];generalize hK:(fun i=>(g.ops.take i).flatMap fun o=>v.slots.flatMap (ZR (XC P n) P o))=K;have hK0:K 0=[]:=by rw[←hK];simp
  have hKn:(g.ops.flatMap fun o=>v.slots.flatMap (ZR (XC P n) P o))=K g.ops.length:=by rw[←hK];simp
  have hKl:∀i,i≤g.ops.length→(K i).length≤64:=by
   intro i hi;rw[←hK];have:∀l:List PO,(l.flatMap fun o=>v.slots.flatMap (ZR (XC P n) P o)).length≤l.length:=by
    intro l
    induction l with
    |nil=>exact QPB _
    |cons o l ih=>
     have:=hone o;rw[QQ4,QQe,QPP];omega
   have h2:=this (g.ops.take i);rw[QQw]at h2;show((g.ops.take i).flatMap _).length≤64;omega
  have hKs:∀i o,g.ops[i]? = some o→K (i+1)=K i++v.slots.flatMap (ZR (XC P n) P o):=by
   intro i o ho;rw[←hK];show(g.ops.take (i+1)).flatMap _=(g.ops.take i).flatMap _++_;rw[QRm,ho,List.flatMap_append];simp
  rw[hKn,show(V.mk 10 0 [] [] [] (K g.ops.length) RW).av=.agg [.int .i64 10,.int .u64 0,.str [],.list [],.list [],.list ((K g.ops.length).map V.sav),.list (RW.map R.av)]from Qc _];clear hKn hfin hone;refine k23.fn (by simp) ?_;simp only[e0,Hz,d0,d1,QQu,eE,seval];refine Qa cR rfl rfl rfl (.inl rfl) ?_;simp only[eE,seval];refine JB (by simp only[Qb,seval]<;>rfl) rfl (by simp only[Qb,seval]<;>rfl) rfl ?_;simp only[List.set,Qb,seval];refine Qg (NoI P v K g.ops.length ti RW) _ ⟨_,_,0,_,rfl,rfl,QPJ _,(by rfl),(by rfl),(by rfl),(by rfl),(by rfl),(by rfl),(by rfl),(by rfl),(by rfl),(by rw[hK0];exact(by rfl)),(by rw[hK0];exact(by rfl)),Rb rfl rfl⟩ ?_;rintro _ st ⟨f0,fr0,i,gs,rfl,rfl,hil,h10,h30,h50,h60,h70,h80,m30,m50,m60,m70,mS0,Yf⟩;refine QX (a:=_) [11,9] Yf ?_;intro f fr hf hm hn11;have h1:f 1=.int .i64 (ti:Nat):=by rw[hf,h10]<;>rfl
  have h3:f 3=.ptr 0 3 0:=by rw[hf,h30]<;>rfl
  have h5:f 5=.ptr 0 5 0:=by rw[hf,h50]<;>rfl
  have h6:f 6=.ptr 0 6 0:=by rw[hf,h60]<;>rfl
  have h7:f 7=.ptr 0 7 0:=by rw[hf,h70]<;>rfl
  have h8:f 8=.int .i64 (i:Nat):=by rw[hf,h80]<;>rfl
  have m3:fr 3=.cells [.list (P.progs.map Qp),.list (P.enums.map QW)]:=by rw[hm 3 (by decide),m30]<;>rfl
  have m5:fr 5=.cells (Hz v):=by rw[hm 5 (by decide),m50]<;>rfl
  have m6:fr 6=.cells [.int .i64 0,.int .u64 0,.str [],.nils,.nils,.nils,.nils]:=by rw[hm 6 (by decide),m60]<;>rfl
  have m7:fr 7=.cells [.int .i64 10,.int .u64 0,.str [],.nils,.nils,.vec 0 1100 gs 0 (K i).length false,.list (RW.map R.av)]:=by rw[hm 7 (by decide),m70]<;>rfl
  have mS:fr 1100=.vec gs 8 ((K i).map V.sav):=by rw[hm 1100 (by decide),mS0]<;>rfl
  have n11:=hn11 11 (by decide);have n9:=hn11 9 (by decide);clear hf hm hn11 h10 h30 h50 h60 h70 h80 m30 m50 m60 m70 mS0 Yf;simp only[Qm,QQ2,Qf,hga,QQu,QQc,QQj,h1,h3,h8,m3,eE,seval];by_cases hlt:i<g.ops.length
  ·obtain⟨o,hi⟩:∃o,g.ops[i]? = some o:=⟨g.ops[i],QPE hlt⟩;have hom:=QPN hi;have hgo:(g.ops.map fun o=>AV.agg o.cells)[i]? = some (.agg o.cells):=by simp[hi]
   simp only[PO.cells]at hgo;have e1:=Qw i _ hlt (by simp only[maxLen];omega);have hKi:=hKl i (by omega);have hKs':=hKs i o hi;simp only[Qr hlt,Qm,QQ2,Qf,hga,PO.cells,hgo,n9,h1,h3,h8,m3,eE,seval];refine Sx (P:=P) (v:=v) (o:=o) (n:=n) (ti:=ti) (i:=i) (K i) hKi (by omega) RW (fun x hx hxn=>by
    obtain⟨o',ho',hf'⟩:=s1 x hx;rw[hxn,K3 hd hom]at ho';cases ho';exact hwit o hom x.2 (hv.slots x hx) (QPC (JL hx) hc) hf') _ _ gs (by exact h1) (by exact h3) (by exact h5) (by exact h6) (by exact h7) (by exact h8) (by rfl) (by rfl) (by exact m3) (by exact m5) (by exact m6) (by exact m7) (by rfl) (by exact mS) (UZ (isr (by exact n11))) _ ?_
   clear h1 h3 h5 h6 h7 h8 m3 m5 m6 m7 mS n11 n9;intro f fr gs h1 h3 h5 h6 h7 h8 m3 m5 m6 m7 mS n9 n11;rw[←hKs']at m7 mS;simp only[h8,e1,Qb,seval];exact⟨g.ops.length-(i+1),by omega,_,_,i+1,gs,rfl,rfl,by omega,(by exact h1),(by exact h3),(by exact h5),(by exact h6),(by exact h7),(by rfl),m3,m5,m6,m7,mS,Rb n11 n9⟩
  ·have e:i=g.ops.length:=by omega
   subst e;simp only[QO hlt,h6,h7,m6,m7,eE,seval];simp[AV.un,AV.unL,Zp,XD,mS,QQa]

end
open Vp Cp

def Xl (s:List UInt8)(P:PL):Int:=Zr (fun g:PG=>g.name==s) P.progs 0
theorem U0 (s:List UInt8)(P:PL):Xl s P = -1∨(0≤Xl s P∧Xl s P<(P.progs.length:Int)):=by
 unfold Xl;rcases YX (fun g:PG=>g.name==s) P.progs 0 with⟨h,_⟩|⟨k,o,h,h1,_⟩
 ·exact .inl h
 ·have:=(QPD.1 h1).1;exact .inr ⟨by rw[h];omega,by rw[h];omega⟩

def KJ (P:PL)(N:Nat)(s:List UInt8)(b:V)(d:List UInt8)(l:L):V×Nat :=
 if Xl s P<0 then(Qs 0 0 [],10)
 else if b.kd≠10 then(Qs 0 0 [],12)
 else if (opn d l).2≠0 then(Qs 0 0 [],(opn d l).2)
 else if l.dp<1 then(Qs 0 0 [],17)
 else match JX ⟨d,0,d.length,l.dp-1,l.nd,l.tx⟩ 1 with
  |.error e=>(Qs 0 0 [],e)
  |.ok c=>match Yu P N (Xl s P) b c with
   |.error e=>(Qs 0 0 [],e)
   |.ok (v,_)=>(XC P N (Qn P (Xl s P)) v,0)
def ov (r:V×Nat):AV:=.tup [r.1.av,.int .i64 (r.2:Nat)]

theorem Nf {d:List UInt8}{l:L}(h:(opn d l).2=0):opn d l=(⟨d,0,d.length,l.dp,l.nd,l.tx⟩,0)∧0≤l.dp∧0≤l.nd:=by
 unfold opn at h ⊢;split at h
 ·cases h
 ·split at h
  ·cases h
  ·rename_i h1 h2;rw[QPO h1,QPO h2];exact⟨rfl,by omega,by omega⟩
theorem Ng {d:List UInt8}{l:L}(hd:d.length≤3000)(h1:1≤l.dp∧l.dp<9223372036854775808)(h2:0≤l.nd∧l.nd<9223372036854775808):CI ⟨d,0,d.length,l.dp-1,l.nd,l.tx⟩ :=
 ⟨hd,by unfold C.sound;simp,h2,by dsimp only;omega⟩

section
variable {M N:Nat}(hM:3000≤M)(P:PL)(hP:P.ok M)(hc:ck P=0)(hN:3000<N)(s:List UInt8)(b:V)(d:List UInt8)(l:L)(hd:d.length≤3000)(hl1:l.dp<9223372036854775808)(hl2:l.nd<9223372036854775808)
 (hbm:b.kd=10→0≤Xl s P→MW P N (Qn P (Xl s P)) b) (hbo:b.ok M) (hbc:b.cnt≤900000)

include hM hP hc hN hd hl1 hl2 hbm hbo hbc in
theorem DI (h:(KJ P N s b d l).2=0):(0≤Xl s P∧Xl s P<(P.progs.length:Int))∧∃w,MW P N (Qn P (Xl s P)) w∧w.ok M∧(w.cnt:Int)≤b.cnt+3*d.length∧(KJ P N s b d l).1=XC P N (Qn P (Xl s P)) w:=by
 unfold KJ at h ⊢;rcases U0 s P with hx|hx
 ·rw[QP5 (by omega)]at h;cases h
 rw[QPO (by omega)]at h ⊢;by_cases hk:b.kd=10
 case neg=>rw[QP5 hk]at h;cases h
 rw[QPO (by simp[hk])]at h ⊢;by_cases ho:(opn d l).2=0
 case neg=>rw[QP5 ho]at h;exact absurd h ho
 rw[QPO (by simp[ho])]at h ⊢;obtain⟨_,o1,o2⟩:=Nf ho;by_cases hdp:l.dp<1
 ·rw[QP5 hdp]at h;cases h
 rw[QPO hdp]at h ⊢;have hci:=Ng (l:=l) hd ⟨by omega,hl1⟩ ⟨o2,hl2⟩;have hlf:=hci.lf;dsimp only at hlf;generalize (⟨d,0,d.length,l.dp-1,l.nd,l.tx⟩:C)=c0 at h hci hlf ⊢;cases hs:JX c0 1 with
 |error e=>
  rw[hs]at h;exact absurd h (C6 hs)
 |ok c=>
  rw[hs]at h;dsimp only at h ⊢;obtain⟨s1,s2⟩:=XV hci (by omega) hs;have hcc:=s1.ci hci;have hls:=(s1.left hci).2.2;cases hr:Yu P N (Xl s P) b c with
  |error e=>
   rw[hr]at h;exact absurd h (Nc P N _ _ _ _ hr)
  |ok p=>
   obtain⟨w,c2⟩:=p;obtain⟨q1,q2,q3,q4⟩:=WL (K:=1000000) hM (QPB _) hP (WX hc) (X5 hc) N (Xl s P) b c hcc (by omega) hx (hbm hk hx.1) hbo (by omega) w c2 hr;have hb2:=(q1.ci hcc).bd;exact⟨hx,w,q2,q3,by omega,rfl⟩

include hM hP hc hN hd hl1 hl2 hbm hbo hbc in
theorem j12:Qh Tryz.prog 12 [P.av,.str s,b.av,.str d,l.av] (ov (KJ P N s b d l)):=by
 have hU:=WX hc;have hr:=X5 hc;have hln:P.progs.length≤maxLen:=hP.len1;have hfi:=y14 P hln s;have hop:=c24 d l;have z0:(Qs 0 0 []).av=.agg [.int .i64 0,.int .u64 0,.str [],.list [],.list [],.list [],.list []]:=Qc _;unfold GG at hfi;rw[show Zr (fun g:PG=>g.name==s) P.progs 0=Xl s P from rfl]at hfi;rw[show P.av=.agg (QG P)from rfl]at hfi;unfold KJ;rw[show P.av=.agg (QG P)from rfl,Qc b];simp only[QG]at hfi;rcases U0 s P with hx|hx
 ·have d1:decide (Xl s P≥0)=false:=QRo (by omega);rw[d1]at hfi;rw[QP5 (by omega)];refine NW.fn (by simp) ?_;simp only[QG,L.av,eE,seval];refine Qa hfi rfl rfl rfl (.inl rfl) ?_;simp only[ov,z0,eE,seval]<;>rfl
 have d1:decide (Xl s P≥0)=true:=QRs (by omega);rw[d1,QPO (by omega:¬Xl s P<0)]at hfi;rw[QPO (by omega)];by_cases hk:b.kd=10
 case neg=>
  have b1:(b.kd != 10)=true:=by simp[hk]
  rw[QP5 hk];refine NW.fn (by simp) ?_;simp only[QG,L.av,eE,seval];refine Qa hfi rfl rfl rfl (.inl rfl) ?_;simp only[b1,ov,z0,eE,seval]<;>rfl
 have b1:(b.kd != 10)=false:=by simp[hk]
 rw[QPO (by simp[hk])];by_cases ho:(opn d l).2=0
 case neg=>
  rw[QP5 ho];generalize opn d l=q at hop ho ⊢;obtain⟨c,e⟩:=q;dsimp only at ho ⊢;simp only[Z6,C.av,L.av]at hop;refine NW.fn (by simp) ?_;simp only[QG,L.av,eE,seval];refine Qa hfi rfl rfl rfl (.inl rfl) ?_;simp only[b1,eE,seval];refine Qa hop rfl rfl rfl (.inl rfl) ?_;simp only[Qu ho,ov,z0,eE,seval]
 rw[QPO (by simp[ho])];obtain⟨oe,o1,o2⟩:=Nf ho;rw[oe]at hop;simp only[Z6,C.av,L.av]at hop;by_cases hdp:l.dp<1
 ·have b2:decide (l.dp<1)=true:=QRs hdp;rw[QP5 hdp];refine NW.fn (by simp) ?_;simp only[QG,L.av,eE,seval];refine Qa hfi rfl rfl rfl (.inl rfl) ?_;simp only[b1,eE,seval];refine Qa hop rfl rfl rfl (.inl rfl) ?_;simp only[b2,ov,z0,eE,seval]<;>rfl
 have b2:decide (l.dp<1)=false:=QRo hdp;have w1:IntKind.i64.wrap (l.dp-1)=l.dp-1:=by rw[QB];omega
 rw[QPO hdp];have hci:=Ng (l:=l) hd ⟨by omega,hl1⟩ ⟨o2,hl2⟩;have hlf:=hci.lf;dsimp only at hlf;have hrob:∀c:C,Q4 P c=.cells [.list (P.progs.map Qp),.list (P.enums.map QW),.str c.d,.int .i64 c.a,.int .i64 c.e,.int .i64 c.dp,.int .i64 c.nd,.int .i64 c.tx]:=fun _=>rfl
 have p0:∀(fr:Nat→Ob) (o:Ob),Am.put [fr] 0 52 o=[QI fr 52 o]:=fun _ _=>rfl
 refine NW.fn (by simp) ?_;simp only[QG,L.av,eE,seval];refine Qa hfi rfl rfl rfl (.inl rfl) ?_;simp only[b1,eE,seval];refine Qa hop rfl rfl rfl (.inl rfl) ?_;simp only[b2,w1,eE,seval];refine QJ (B4 P ⟨d,0,d.length,l.dp-1,l.nd,l.tx⟩ 0 52 _ (by rfl) 1) (by simp only[QP8,QQB,Qb,seval]) ?_;rintro x m1 ⟨rfl,rfl⟩ _;generalize (⟨d,0,d.length,l.dp-1,l.nd,l.tx⟩:C)=c0 at hci hlf ⊢;rcases Zf c0 1 with⟨c,h2,h2'⟩|⟨e,he,h2,h2'⟩
 case inr=>
  rw[h2,h2'];simp only[p0,Qu he,ov,z0,eE,seval]
 rw[h2,h2'];obtain⟨s1,s2⟩:=XV hci (by omega) h2;have hcc:=s1.ci hci;have hls:=(s1.left hci).2.2;dsimp only;simp only[p0,eE,seval];have hrc:=fun(m:Qj) (hm:0<m.length) (h:Am.Qd m 0 52=Q4 P c)=>QtE (K:=1000000) hM (QPB _) hP hU hr N 0 52 m (Xl s P) b c hm h hcc (by omega) hx (hbm hk hx.1) hbo (by omega)
 have hro:=WL (K:=1000000) hM (QPB _) hP hU hr N (Xl s P) b c hcc (by omega) hx (hbm hk hx.1) hbo (by omega);rw[Qc b]at hrc;refine QJ (hrc _ (by simp) (by rfl)) (by simp only[QP8,QQB,Qb,seval]) ?_;intro x m1 hx1 _;cases hr2:Yu P N (Xl s P) b c with
 |error e=>
  rw[hr2]at hx1;obtain⟨he,w,c',rfl,rfl⟩:=hx1;dsimp only;simp only[p0,Qu he,Qc w,ov,z0,eE,seval]
 |ok p=>
  obtain⟨w,c2⟩:=p;rw[hr2]at hx1;obtain⟨rfl,rfl⟩:=hx1;obtain⟨q1,q2,q3,q4⟩:=hro w c2 hr2;have hb2:=(q1.ci hcc).bd;have hnm:=v27 hP hU hr (Sp hc) N (Xl s P) _ (ZQ hx).2 hx.1 w q3 (by omega) q2;dsimp only;generalize XC P N (Qn P (Xl s P)) w=u at hnm ⊢;rw[show P.av=.agg (QG P)from rfl,Qc w,Qc u]at hnm;simp only[QG]at hnm;simp only[p0,Qc w,eE,seval];refine Qa hnm rfl rfl rfl (.inl rfl) ?_;simp only[ov,Qc u,eE,seval]<;>rfl

end

section
variable {M N:Nat}(hM:3000≤M)(P:PL)(hP:P.ok M)(hc:ck P=0)(hN:3000<N)(s:List UInt8)(b:V)(d:List UInt8)(l:L)(hd:d.length≤3000)(hl1:l.dp<9223372036854775808)(hl2:l.nd<9223372036854775808)
 (hbm:b.kd=10→0≤Xl s P→MW P N (Qn P (Xl s P)) b) (hbo:b.ok M) (hbc:b.cnt≤900000)

include hM hP hc hN hd hl1 hl2 hbm hbo hbc in
theorem j10:Qh Tryz.prog 10 [P.av,.str s,b.av,.str d,l.av] (ov (KJ P N s b d l)):=by
 have hU:=WX hc;have hr:=X5 hc;have hln:P.progs.length≤maxLen:=hP.len1;have hfi:=y16 P hln s;have hop:=c20 d l;have z0:(Qs 0 0 []).av=.agg [.int .i64 0,.int .u64 0,.str [],.list [],.list [],.list [],.list []]:=Qc _;unfold GG at hfi;rw[show Zr (fun g:PG=>g.name==s) P.progs 0=Xl s P from rfl]at hfi;rw[show P.av=.agg (QG P)from rfl]at hfi;unfold KJ;rw[show P.av=.agg (QG P)from rfl,Qc b];simp only[QG]at hfi;rcases U0 s P with hx|hx
 ·have d1:decide (Xl s P≥0)=false:=QRo (by omega);rw[d1]at hfi;rw[QP5 (by omega)];refine Pj.fn (by simp) ?_;simp only[QG,L.av,eE,seval];refine Qa hfi rfl rfl rfl (.inl rfl) ?_;simp only[ov,z0,eE,seval]<;>rfl
 have d1:decide (Xl s P≥0)=true:=QRs (by omega);rw[d1,QPO (by omega:¬Xl s P<0)]at hfi;rw[QPO (by omega)];by_cases hk:b.kd=10
 case neg=>
  have b1:(b.kd != 10)=true:=by simp[hk]
  rw[QP5 hk];refine Pj.fn (by simp) ?_;simp only[QG,L.av,eE,seval];refine Qa hfi rfl rfl rfl (.inl rfl) ?_;simp only[b1,ov,z0,eE,seval]<;>rfl
 have b1:(b.kd != 10)=false:=by simp[hk]
 rw[QPO (by simp[hk])];by_cases ho:(opn d l).2=0
 case neg=>
  rw[QP5 ho];generalize opn d l=q at hop ho ⊢;obtain⟨c,e⟩:=q;dsimp only at ho ⊢;simp only[Z6,C.av,L.av]at hop;refine Pj.fn (by simp) ?_;simp only[QG,L.av,eE,seval];refine Qa hfi rfl rfl rfl (.inl rfl) ?_;simp only[b1,eE,seval];refine Qa hop rfl rfl rfl (.inl rfl) ?_;simp only[Qu ho,ov,z0,eE,seval]
 rw[QPO (by simp[ho])];obtain⟨oe,o1,o2⟩:=Nf ho;rw[oe]at hop;simp only[Z6,C.av,L.av]at hop;by_cases hdp:l.dp<1
 ·have b2:decide (l.dp<1)=true:=QRs hdp;rw[QP5 hdp];refine Pj.fn (by simp) ?_;simp only[QG,L.av,eE,seval];refine Qa hfi rfl rfl rfl (.inl rfl) ?_;simp only[b1,eE,seval];refine Qa hop rfl rfl rfl (.inl rfl) ?_;simp only[b2,ov,z0,eE,seval]<;>rfl
 have b2:decide (l.dp<1)=false:=QRo hdp;have w1:IntKind.i64.wrap (l.dp-1)=l.dp-1:=by rw[QB];omega
 rw[QPO hdp];have hci:=Ng (l:=l) hd ⟨by omega,hl1⟩ ⟨o2,hl2⟩;have hlf:=hci.lf;have hsp:=D2 ⟨d,0,d.length,l.dp-1,l.nd,l.tx⟩ 1;dsimp only at hlf;simp only[Z6,C.av]at hsp;refine Pj.fn (by simp) ?_;simp only[QG,L.av,eE,seval];refine Qa hfi rfl rfl rfl (.inl rfl) ?_;simp only[b1,eE,seval];refine Qa hop rfl rfl rfl (.inl rfl) ?_;simp only[b2,w1,eE,seval];refine Qa hsp rfl rfl rfl (.inl rfl) ?_;generalize (⟨d,0,d.length,l.dp-1,l.nd,l.tx⟩:C)=c0 at hci hlf ⊢;rcases Zf c0 1 with⟨c,h2,h2'⟩|⟨e,he,h2,h2'⟩
 case inr=>
  rw[h2,h2'];simp only[Qu he,ov,z0,eE,seval]
 rw[h2,h2'];obtain⟨s1,s2⟩:=XV hci (by omega) h2;have hcc:=s1.ci hci;have hls:=(s1.left hci).2.2;have hms:=QtG (K:=1000000) hM (QPB _) hP hU hr (QtF hc) N (Xl s P) b c hcc (by omega) hx (hbm hk hx.1) hbo (by omega);have hro:=WL (K:=1000000) hM (QPB _) hP hU hr N (Xl s P) b c hcc (by omega) hx (hbm hk hx.1) hbo (by omega);rw[show P.av=.agg (QG P)from rfl,Qc b]at hms;simp only[QG,C.av]at hms;dsimp only;simp only[eE,seval];refine JR hms rfl rfl (fun x hx=>?_) (fun x hx1=>?_)
 ·cases hr2:Yu P N (Xl s P) b c with
  |error e=>
   rw[hr2]at hx;obtain⟨_,w,d2,rfl⟩:=hx;simp only[xv,Qc w,C.av];exact⟨rfl,.inl rfl⟩
  |ok p=>
   obtain⟨w,d2⟩:=p;rw[hr2]at hx;cases hx;simp only[xv,Qc w,C.av];exact⟨rfl,.inl rfl⟩
 cases hr2:Yu P N (Xl s P) b c with
 |error e=>
  rw[hr2]at hx1;obtain⟨he,w,c',rfl⟩:=hx1;simp only[Qu he,xv,Qc w,C.av,ov,z0,eE,seval]
 |ok p=>
  obtain⟨w,c2⟩:=p;rw[hr2]at hx1;cases hx1;obtain⟨q1,q2,q3,q4⟩:=hro w c2 hr2;have hb2:=(q1.ci hcc).bd;have hnm:=v23 hU hr (QtH hc) N (Xl s P) _ (ZQ hx).2 hx.1 w q3 (by omega) q2;dsimp only;generalize XC P N (Qn P (Xl s P)) w=u at hnm ⊢;rw[show P.av=.agg (QG P)from rfl,Qc w,Qc u]at hnm;simp only[QG]at hnm;simp only[xv,Qc w,C.av,eE,seval];refine Qa hnm rfl rfl rfl (.inl rfl) ?_;simp only[ov,Qc u,eE,seval]<;>rfl
end

def Nh (P:PL)(N:Nat)(s d:List UInt8)(l:L):V×Nat :=
 if (KJ P N s (Qs 10 0 []) d l).2≠0 then(Qs 0 0 [],(KJ P N s (Qs 10 0 []) d l).2)
 else if XX P N (Qn P (Xl s P)) (KJ P N s (Qs 10 0 []) d l).1=true then(Qs 0 0 [],14)
 else((KJ P N s (Qs 10 0 []) d l).1,0)

section
variable {M N:Nat}(hM:3000≤M)(P:PL)(hP:P.ok M)(hc:ck P=0)(hN:3000<N)(s:List UInt8)(d:List UInt8)(l:L)(hd:d.length≤3000)(hl1:l.dp<9223372036854775808)(hl2:l.nd<9223372036854775808)

include hM hP hc hN hd hl1 hl2 in
theorem Qan:(Nh P N s d l).1.cnt≤1048576:=by
 unfold Nh;have h0:=DI (N:=N) hM P hP hc hN s (Qs 10 0 []) d l hd hl1 hl2 (fun _ _=>Xn (by omega)) (Xt rfl (by decide) (QPJ _)) (by rw[QZ];omega);by_cases h:(KJ P N s (Qs 10 0 []) d l).2=0
 case neg=>rw[QP5 h,QZ];omega
 rw[QPO (by simp[h])];obtain⟨hx,w,w1,w2,w3,w4⟩:=h0 h;split
 ·rw[QZ];omega
 ·rw[w4];have:=YF (X5 hc) N (Qn P (Xl s P)) (Wg (X5 hc) _) w;rw[QZ]at w3;omega

include hM hP hc hN hd hl1 hl2 in
theorem j6:Qh Tryz.prog 6 [P.av,.str s,.str d,l.av] (ov (Nh P N s d l)):=by
 have hon:=j12 (N:=N) hM P hP hc hN s (Qs 10 0 []) d l hd hl1 hl2 (fun _ _=>Xn (by omega)) (Xt rfl (by decide) (QPJ _)) (by rw[QZ];omega);have hok:=DI (N:=N) hM P hP hc hN s (Qs 10 0 []) d l hd hl1 hl2 (fun _ _=>Xn (by omega)) (Xt rfl (by decide) (QPJ _)) (by rw[QZ];omega);have hfi:=y14 P hP.len1 s;have z0:(Qs 0 0 []).av=.agg [.int .i64 0,.int .u64 0,.str [],.list [],.list [],.list [],.list []]:=Qc _;have z10:(Qs 10 0 []).av=.agg [.int .i64 10,.int .u64 0,.str [],.list [],.list [],.list [],.list []]:=Qc _;have hcp:=fun(h:(0≤Xl s P∧Xl s P<(P.progs.length:Int))) v hv hcv=>j15 P hP (X5 hc) (WX hc) N (Xl s P) v h hv hcv
 unfold Nh;generalize KJ P N s (Qs 10 0 []) d l=q at hon hok ⊢;obtain⟨v,e⟩:=q;unfold GG at hfi;rw[show Zr (fun g:PG=>g.name==s) P.progs 0=Xl s P from rfl]at hfi;rw[show P.av=.agg (QG P)from rfl]at hfi;rw[show P.av=.agg (QG P)from rfl,z10]at hon;rw[show P.av=.agg (QG P)from rfl];simp only[ov,Qc v,QG,L.av]at hon;simp only[QG]at hfi;dsimp only at hok ⊢;refine k6.fn (by simp) ?_;simp only[QG,L.av,eE,seval];refine Qa hon rfl rfl rfl (.inl rfl) ?_;by_cases he:e=0
 case neg=>
  rw[QP5 he];simp only[Qu he,ov,z0,eE,seval]
 subst he;obtain⟨hx,w,w1,w2,w3,w4⟩:=hok rfl;have d1:decide (Xl s P≥0)=true:=QRs (by omega);rw[d1,QPO (by omega:¬Xl s P<0)]at hfi;have hcn:=YF (X5 hc) N (Qn P (Xl s P)) (Wg (X5 hc) _) w;rw[QZ]at w3;have hcm:=hcp hx v (by rw[w4];exact Nd (WX hc) (X5 hc) N _ (ZQ hx).1 w w1) (by rw[w4];omega);rw[show P.av=.agg (QG P)from rfl,Qc v]at hcm;simp only[QG]at hcm;rw[QPO (by simp)];simp only[eE,seval];refine Qa hfi rfl rfl rfl (.inl rfl) ?_;simp only[eE,seval];refine Qa hcm rfl rfl rfl (.inl rfl) ?_;cases hl:XX P N (Qn P (Xl s P)) v
 ·rw[QPO (by simp)];simp only[QQH,QRg,ov,Qc v,eE,seval]<;>rfl
 ·rw[QP5 rfl];simp only[QQH,QRg,ov,z0,eE,seval]<;>rfl

include hM hP hc hN hd hl1 hl2 in
theorem j7:Qh Tryz.prog 7 [P.av,.str s,.str d,l.av] (ov (Nh P N s d l)):=by
 have hon:=j10 (N:=N) hM P hP hc hN s (Qs 10 0 []) d l hd hl1 hl2 (fun _ _=>Xn (by omega)) (Xt rfl (by decide) (QPJ _)) (by rw[QZ];omega);have hok:=DI (N:=N) hM P hP hc hN s (Qs 10 0 []) d l hd hl1 hl2 (fun _ _=>Xn (by omega)) (Xt rfl (by decide) (QPJ _)) (by rw[QZ];omega);have hfi:=y16 P hP.len1 s;have z0:(Qs 0 0 []).av=.agg [.int .i64 0,.int .u64 0,.str [],.list [],.list [],.list [],.list []]:=Qc _;have z10:(Qs 10 0 []).av=.agg [.int .i64 10,.int .u64 0,.str [],.list [],.list [],.list [],.list []]:=Qc _;have hcp:=fun(h:(0≤Xl s P∧Xl s P<(P.progs.length:Int))) v hv hcv=>j17 P hP (X5 hc) (WX hc) N (Xl s P) v h hv hcv
 unfold Nh;generalize KJ P N s (Qs 10 0 []) d l=q at hon hok ⊢;obtain⟨v,e⟩:=q;unfold GG at hfi;rw[show Zr (fun g:PG=>g.name==s) P.progs 0=Xl s P from rfl]at hfi;rw[show P.av=.agg (QG P)from rfl]at hfi;rw[show P.av=.agg (QG P)from rfl,z10]at hon;rw[show P.av=.agg (QG P)from rfl];simp only[ov,Qc v,QG,L.av]at hon;simp only[QG]at hfi;dsimp only at hok ⊢;refine k7.fn (by simp) ?_;simp only[Qqd,Qqe,Qqf,Qqg,Qqh,Qqi,Qqj,Qqk,r7,o7,QG,L.av,eE,seval];refine Qa hon rfl rfl rfl (.inl rfl) ?_;by_cases he:e=0
 case neg=>
  rw[QP5 he];simp only[Qu he,ov,z0,eE,seval]
 subst he;obtain⟨hx,w,w1,w2,w3,w4⟩:=hok rfl;have d1:decide (Xl s P≥0)=true:=QRs (by omega);rw[d1,QPO (by omega:¬Xl s P<0)]at hfi;have hcn:=YF (X5 hc) N (Qn P (Xl s P)) (Wg (X5 hc) _) w;rw[QZ]at w3;have hcm:=hcp hx v (by rw[w4];exact Nd (WX hc) (X5 hc) N _ (ZQ hx).1 w w1) (by rw[w4];omega);rw[show P.av=.agg (QG P)from rfl,Qc v]at hcm;simp only[QG]at hcm;rw[QPO (by simp)];simp only[eE,seval];refine Qa hfi rfl rfl rfl (.inl rfl) ?_;simp only[eE,seval];refine Qa hcm rfl rfl rfl (.inl rfl) ?_;cases hl:XX P N (Qn P (Xl s P)) v
 ·rw[QPO (by simp)];simp only[ov,Qc v,eE,seval]<;>rfl
 ·rw[QP5 rfl];simp only[ov,z0,eE,seval]<;>rfl

end
end Go.Proofs.YtfgchfdkiomfpaaGreat.Va

namespace Go.Proofs.YtfgchfdkiomfpaaGreat.Va
open Go Am Rc Bt Br

structure Fi (P:PL)(c:Nat)(B:List Bool)(a:Bool)(f:Fr)(fr:Nat→Ob):Prop where
 h1:f 1=.ptr 0 1 0
 m1:fr 1=.cells (Pc P)
 h3:f 3=.vec 0 12 1 0 P.progs.length false
 m12:fr 12=.vec 1 1 (B.map AV.bool)
 h4:f 4=.bool a
 h19:f 19=.int .i64 (P.progs.length:Nat)
 h20:f 20=.int .i64 (c:Nat)
 r8:∀s∈[8],(fr s).isRow=false

theorem Fi.drop {P:PL}{c:Nat}{B:List Bool}{a:Bool}{f f':Fr}{fr fr':Nat→Ob}(h:Fi P c B a f fr)(hf:∀i,f' i=V3 [8] (f i))(hm:∀i,i∉[8]→fr' i=Gt [8] (fr i))(hn:∀i∈[8],fr' i=.none):Fi P c B a f' fr' where
 h1:=by rw[hf,h.h1]<;>rfl
 m1:=by rw[hm 1 (by decide),h.m1]<;>rfl
 h3:=by rw[hf,h.h3]<;>rfl
 m12:=by rw[hm 12 (by decide),h.m12]<;>rfl
 h4:=by rw[hf,h.h4]<;>rfl
 h19:=by rw[hf,h.h19]<;>rfl
 h20:=by rw[hf,h.h20]<;>rfl
 r8:=fun s hs=>by rw[hn s hs]<;>rfl

section
variable {M:Nat}(P:PL)(hP:P.ok M)(hl:P.progs.length≤64)(hT:TJ P)(c:Nat)(B:List Bool)(hB:B.length=P.progs.length)(a:Bool)
include hP hT hB

theorem QLu (i:Nat)(g:PG)(hg:P.progs[i]? = some g)(f:Fr)(fr:Nat→Ob)(H:Fi P c B a f fr)(h5:f 5=.int .i64 (i:Nat))(h6:f 6=.bool true)(h7:f 7=.int .i64 0)(Q:Exit→St→Prop)
  (hx:∀f fr,Fi P c B a f fr→f 5=.int .i64 (i:Nat)→f 6=.bool (!g.ops.any (Jg B))→Q (.exit 4) (⟨f,[fr],[]⟩:St)):QH Tryz.prog (.loop S0) ⟨f,[fr],[]⟩ Q:=by
 let I:Nat→St→Prop:=fun k st=>∃f fr j,st=⟨f,[fr],[]⟩∧k=g.ops.length-j∧j≤g.ops.length∧Fi P c B a f fr∧f 5=.int .i64 (i:Nat)∧f 6=.bool (!(g.ops.take j).any (Jg B))∧f 7=.int .i64 (j:Nat)
 have hgm:(P.progs.map Qp)[i]? = some (.agg g.cells):=by simp[hg,Qp]
 have hgo:=hP.progs g (QPN hg);refine Qg I _ ⟨f,fr,0,rfl,rfl,QPJ _,H,h5,by rw[h6];simp,h7⟩ ?_;clear H h5 h6 h7;simp only[PG.cells]at hgm;rintro _ st ⟨f0,fr0,j,rfl,rfl,hj,H0,h50,h60,h70⟩;refine QX (a:=_) [8] H0.r8 ?_;intro f fr hf hm hn;have H:=H0.drop hf hm hn;have h5:f 5=.int .i64 (i:Nat):=by rw[hf,h50]<;>rfl
 have h6:f 6=.bool (!(g.ops.take j).any (Jg B)):=by rw[hf,h60]<;>rfl
 have h7:f 7=.int .i64 (j:Nat):=by rw[hf,h70]<;>rfl
 have n8:=hn 8 (by decide);clear hf hm hn H0 h50 h60 h70;obtain⟨h1,m1,h3,m12,h4,h19,h20,r8⟩:=id H;simp only[Pc]at m1;simp only[Qm,QQ2,Qf,hgm,QQu,h1,m1,h5,h7,eE,seval];by_cases hlt:j<g.ops.length
 ·obtain⟨o,ho⟩:∃o,g.ops[j]? = some o:=⟨g.ops[j],QPE hlt⟩;have hom:(g.ops.map fun o=>AV.agg o.cells)[j]? = some (.agg o.cells):=by simp[ho]
  have e1:=Qw j _ hlt hgo.len;have htg:=hT g (QPN hg) o (QPN ho);have ht:=RT (q:=Jg B) ho;have fin2:∀(f':Fr) (fr':Nat→Ob) (v:Bool),(!(g.ops.take j).any (Jg B) && !Jg B o)=v→Fi P c B a f' fr'→f' 5=.int .i64 (i:Nat)→f' 6=.bool v→f' 7=.int .i64 ((j+1:Nat):Int)→∃k,k<g.ops.length-j∧I k ⟨f',[fr'],[]⟩:=by
   intro f' fr' v hv b1 b2 b3 b4;exact⟨g.ops.length-(j+1),by omega,f',fr',j+1,rfl,rfl,by omega,b1,b2,by rw[b3,ht,Bool.not_or,hv],b4⟩
  simp only[PO.cells]at hom;have m1':fr 1=.cells (Pc P):=by rw[m1]<;>rfl
  cases hb : !(g.ops.take j).any (Jg B)
  ·rw[hb]at fin2 h6;simp only[QQ5]at fin2;simp only[Qr hlt,Qm,QQ2,Qf,hgm,hom,PO.cells,n8,h1,m1,h5,h6,h7,e1,eE,seval];exact fin2 _ _ _ rfl ⟨(by exact h1),(by exact m1'),(by exact h3),(by exact m12),(by exact h4),(by exact h19),(by exact h20),by simp<;>rfl⟩ (by exact h5) (by rfl) (by rfl)
  rw[hb]at fin2 h6;simp only[QRf]at fin2;cases c1:(o.card==1)
  ·have c1':(o.card != 1)=true:=by rw[bne,c1];rfl
   have hne:(!Jg B o)=true:=by unfold Jg;rw[c1];rfl
   rw[hne]at fin2;simp only[Qr hlt,Qm,QQ2,Qf,hgm,hom,PO.cells,n8,c1',h1,m1,h5,h6,h7,e1,eE,seval];exact fin2 _ _ _ rfl ⟨(by exact h1),(by exact m1'),(by exact h3),(by exact m12),(by exact h4),(by exact h19),(by exact h20),by simp<;>rfl⟩ (by exact h5) (by rfl) (by rfl)
  have c1':(o.card != 1)=false:=by rw[bne,c1];rfl
  cases c2:(o.kind==10)
  ·have c2':(o.kind != 10)=true:=by rw[bne,c2];rfl
   have hne:(!Jg B o)=true:=by unfold Jg;rw[c1,c2];rfl
   rw[hne]at fin2;simp only[Qr hlt,Qm,QQ2,Qf,hgm,hom,PO.cells,n8,c1',c2',h1,m1,h5,h6,h7,e1,eE,seval];exact fin2 _ _ _ rfl ⟨(by exact h1),(by exact m1'),(by exact h3),(by exact m12),(by exact h4),(by exact h19),(by exact h20),by simp<;>rfl⟩ (by exact h5) (by rfl) (by rfl)
  have c2':(o.kind != 10)=false:=by rw[bne,c2];rfl
  obtain⟨t1,t2⟩:=htg (by simpa using c2);obtain⟨t,hte⟩:=QRh t1;obtain⟨y,hy⟩:∃y,B[t]? = some y:=⟨B[t]'(by omega),QPE (by omega)⟩;have hym:(B.map AV.bool)[t]? = some (.bool y):=by simp[hy]
  have hlt2:(t<P.progs.length)=True:=eq_true (by omega);have hne:(!Jg B o)=y:=by unfold Jg;rw[c1,c2,hte,QQ2,hy];cases y<;>rfl
  rw[hne]at fin2;simp only[Qr hlt,Qm,QQ2,Qf,hgm,hom,PO.cells,n8,c1',c2',hte,hym,hlt2,m12,QQi,h1,m1,h3,h5,h6,h7,e1,eE,seval];exact fin2 _ _ _ rfl ⟨(by exact h1),(by exact m1'),(by exact h3),(by exact m12),(by exact h4),(by exact h19),(by exact h20),by simp<;>rfl⟩ (by exact h5) (by rfl) (by rfl)
 ·have hf:(g.ops.take j).any (Jg B)=g.ops.any (Jg B):=by rw[QQa (by omega)]
  rw[hf]at h6;simp only[QO hlt,Qb,seval];refine hx _ _ ⟨(by exact h1),by rw[m1]<;>rfl,(by exact h3),(by exact m12),(by exact h4),(by exact h19),(by exact h20),r8⟩ (by exact h5) (by exact h6)

end

theorem Sy {B:List Bool}{i:Nat}(h:i<B.length)(v:Bool):((B.set i v).take (i+1)).all id=((B.take i).all id&&v):=by
 have h1:(B.set i v)[i]? = some v:=List.getElem?_set_self h;rw[Xm h1,List.take_set_of_le (QPB _)];rfl

section
variable {M:Nat}(P:PL)(hP:P.ok M)(hl:P.progs.length≤64)(hT:TJ P)(c:Nat)
include hP hl hT

theorem QLv (f:Fr)(fr:Nat→Ob)(H:Fi P c (Qe P.progs c) true f fr)(h5:f 5=.int .i64 0)(Q:Exit→St→Prop)(hx:∀f fr,Fi P c (Qe P.progs (c+1)) ((Qe P.progs (c+1)).all id) f fr→Q (.exit 2) (⟨f,[fr],[]⟩:St)):QH Tryz.prog (.loop S1) ⟨f,[fr],[]⟩ Q:=by
 let I:Nat→St→Prop:=fun k st=>∃f fr i,st=⟨f,[fr],[]⟩∧k=P.progs.length-i∧i≤P.progs.length∧Fi P c (Wu P.progs (Qe P.progs c) i) (((Wu P.progs (Qe P.progs c) i).take i).all id) f fr∧f 5=.int .i64 (i:Nat)
 refine Qg I _ ⟨f,fr,0,rfl,rfl,QPJ _,H,h5⟩ ?_;clear H h5;rintro _ st ⟨f0,fr0,i,rfl,rfl,hi,H0,h50⟩;refine QX (a:=_) [8] H0.r8 ?_;intro f fr hf hm hn;have H:=H0.drop hf hm hn;have h5:f 5=.int .i64 (i:Nat):=by rw[hf,h50]<;>rfl
 clear hf hm hn H0 h50;have hBl:(Wu P.progs (Qe P.progs c) i).length=P.progs.length:=by rw[Dw,Vc]
 obtain⟨h1,m1,h3,m12,h4,h19,h20,r8⟩:=id H;have m1':=m1;simp only[Pc]at m1;simp only[QQu,h1,m1,h5,eE,seval];by_cases hlt:i<P.progs.length
 ·obtain⟨g,hg⟩:∃g,P.progs[i]? = some g:=⟨P.progs[i],QPE hlt⟩;have e1:=Qw i _ hlt (by simp only[maxLen];omega);have hst:Wu P.progs (Qe P.progs c) (i+1)=(Wu P.progs (Qe P.progs c) i).set i (!g.ops.any (Jg (Wu P.progs (Qe P.progs c) i))):=by
   rw[Wu]
   conv=>lhs;unfold TI
   rw[hg]
  have htk:=Sy (B:=Wu P.progs (Qe P.progs c) i) (i:=i) (by omega) (!g.ops.any (Jg (Wu P.progs (Qe P.progs c) i)));rw[←hst]at htk;simp only[Qr hlt,Qb,seval];refine QLu P hP hT c _ hBl _ i g hg _ fr ⟨(by exact h1),m1',(by exact h3),m12,(by exact h4),(by exact h19),(by exact h20),r8⟩ (by exact h5) (by rfl) (by rfl) _ (fun f fr H h5 h6=>?_);generalize hBB:Wu P.progs (Qe P.progs c) i=B at *;generalize hv:(!g.ops.any (Jg B))=v at *;obtain⟨h1,m1,h3,m12,h4,h19,h20,r8⟩:=H;obtain⟨y,hy⟩:∃y,B[i]? = some y:=⟨B[i]'(by omega),QPE (by omega)⟩;have hym:(B.map AV.bool)[i]? = some (.bool y):=by simp[hy]
  have ia:Qf [fr] 1 none (.vec 0 12 1 0 P.progs.length false) (i:Int)=some (.vptr 0 12 1 i 0):=by
   have e:Am.Qd [fr] 0 12=.vec 1 1 (B.map AV.bool):=m12;simp only[Qf,e,Qm,if_true,QQ2];simp;omega
  have ist:Q9 [fr] (.vptr 0 12 1 i 0) [.bool v]=some [QI fr 12 (.vec 1 1 ((B.map AV.bool).set i (.bool v)))]:=by
   have e:Am.Qd [fr] 0 12=.vec 1 1 (B.map AV.bool):=m12;simp only[Q9,e,hym];simp[AV.cells,AV.rfL,AV.rf,Am.put,Km]
  have hset:(B.map AV.bool).set i (.bool v)=(Wu P.progs (Qe P.progs c) (i+1)).map AV.bool:=by rw[hst,List.map_set]
  rw[hset]at ist;cases hal:(B.take i).all id
  ·rw[hal]at h4 htk;simp only[ia,ist,h3,h4,h5,h6,e1,eE,seval];exact⟨P.progs.length-(i+1),by omega,_,_,i+1,rfl,rfl,by omega,⟨(by exact h1),(by exact m1),(by exact h3),(by rfl),by rw[htk]<;>first|exact h4|simp only[h4,QQ5,Qb,seval],(by exact h19),(by exact h20),fun s hs=>by simp at hs;subst hs;rw[Xd _ _ (by decide)];exact r8 8 (by simp)⟩,(by rfl)⟩
  ·rw[hal]at h4 htk;simp only[ia,ist,h3,h4,h5,h6,e1,eE,seval];exact⟨P.progs.length-(i+1),by omega,_,_,i+1,rfl,rfl,by omega,⟨(by exact h1),(by exact m1),(by exact h3),(by rfl),by rw[htk,QRf]<;>first|rfl|simp only[eE,seval],(by exact h19),(by exact h20),fun s hs=>by simp at hs;subst hs;rw[Xd _ _ (by decide)];exact r8 8 (by simp)⟩,(by rfl)⟩
 ·have hii:i=P.progs.length:=by omega
  subst hii;have hits:Wu P.progs (Qe P.progs c) P.progs.length=Qe P.progs (c+1):=rfl;rw[hits]at H hBl m12 h4;rw[QQa (by omega)]at h4;simp only[QO hlt,Qb,seval];exact hx _ _ ⟨(by exact h1),m1',(by exact h3),m12,(by exact h4),(by exact h19),(by exact h20),r8⟩

end

theorem z34 {M:Nat}(P:PL)(hP:P.ok M)(hl:P.progs.length≤64)(hT:TJ P):Qh Tryz.prog 34 [P.av] (.bool (fin P)):=by
 have e0:P.av=.agg [.list (P.progs.map Qp),.list (P.enums.map QW)]:=rfl;have hmx:P.progs.length≤maxLen:=by simp only[maxLen];omega
 have hz:K5 1 [AV.bool false]=.bool false:=rfl;have hr0:(List.replicate P.progs.length (AV.bool false))=(Qe P.progs 0).map AV.bool:=by simp[Qe]
 let A:Nat→Bool:=fun c=>if c=0 then(P.progs.length:Int)==0 else(Qe P.progs c).all id
 have hA:A P.progs.length=fin P:=by
  show(if P.progs.length=0 then(P.progs.length:Int)==0 else(Qe P.progs P.progs.length).all id)=(Qe P.progs P.progs.length).all id;split
  ·rename_i h;rw[h];simp[Qe,h]
  ·rfl
 let I:Nat→St→Prop:=fun k st=>∃f fr c,st=⟨f,[fr],[]⟩∧k=P.progs.length-c∧c≤P.progs.length∧Fi P c (Qe P.progs c) (A c) f fr
 refine k34.fn (by simp) ?_;simp only[e0,QQu,eE,seval];refine AU (n:=P.progs.length) (k:=P.progs.length) rfl rfl (QPB _) (by omega) (by omega) rfl ?_;simp only[hz,hr0,QQu,eE,seval];refine Qg I _ ⟨_,_,0,rfl,rfl,QPJ _,⟨(by rfl),(by rfl),(by rfl),(by rfl),(by rfl),(by rfl),(by rfl),by simp<;>rfl⟩⟩ ?_;rintro _ st ⟨f0,fr0,c,rfl,rfl,hc,H0⟩;refine QX (a:=_) [8] H0.r8 ?_;intro f fr hf hm hn;have H:=H0.drop hf hm hn;clear hf hm hn H0;obtain⟨h1,m1,h3,m12,h4,h19,h20,r8⟩:=id H;simp only[h19,h20,Qb,seval];by_cases hlt:c<P.progs.length
 ·have e1:=Qw c _ hlt hmx;simp only[Qr hlt,Qb,seval];refine QLv P hP hl hT c _ fr ⟨(by exact h1),m1,(by exact h3),m12,(by rfl),(by exact h19),(by exact h20),r8⟩ (by rfl) _ (fun f fr H=>?_);obtain⟨h1,m1,h3,m12,h4,h19,h20,r8⟩:=H;simp only[h20,e1,Qb,seval];exact⟨P.progs.length-(c+1),by omega,_,fr,c+1,rfl,rfl,by omega,⟨(by exact h1),m1,(by exact h3),m12,(by exact h4),(by exact h19),(by rfl),r8⟩⟩
 ·have hcc:c=P.progs.length:=by omega
  subst hcc;rw[hA]at h4;simp only[QO hlt,h4,Qb,seval]

theorem z13 {M:Nat}(P:PL)(hP:P.ok M)(hM:M≤140737488351232):Qh Tryz.prog 13 [P.av] (.int .i64 (ck P)):=by
 have e0:P.av=.agg [.list (P.progs.map Qp),.list (P.enums.map QW)]:=rfl;have c1:=z28 P hP;have c2:=z29 P hP;have c3:=z30 P hP;have c4:=z31 P hP;have c5:=z32 P hP;refine k13.fn (by simp) ?_;simp only[e0,ck,eE,seval];refine Qa c1 rfl rfl rfl (.inl rfl) ?_;cases hl:Bi P
 ·simp only[QQH,Qb,seval]
 obtain⟨l1,l2,l3,l4⟩:=DW hl;have c6:=z33 hM P hP l3;simp only[QRg,QRE,eE,seval];refine Qa c2 rfl rfl rfl (.inl rfl) ?_;cases TD P
 ·simp only[QQH,Qb,seval]
 simp only[QRg,QRE,eE,seval];refine Qa c3 rfl rfl rfl (.inl rfl) ?_;cases Bj P
 ·simp only[QQH,Qb,seval]
 simp only[QRg,QRE,eE,seval];refine Qa c4 rfl rfl rfl (.inl rfl) ?_;cases TF P
 ·simp only[QQH,Qb,seval]
 simp only[QRg,QRE,eE,seval];refine Qa c5 rfl rfl rfl (.inl rfl) ?_;cases TG P
 ·simp only[QQH,Qb,seval]
 simp only[QRg,QRE,eE,seval];refine Qa c6 rfl rfl rfl (.inl rfl) ?_;cases ha:args P
 ·simp only[QQH,Qb,seval]
 have c7:=z34 P hP l1 (R1 ha);simp only[QRg,QRE,eE,seval];refine Qa c7 rfl rfl rfl (.inl rfl) ?_;cases fin P
 ·simp only[QQH,Qb,seval]
 ·simp only[QRg,QRE,Qb,seval]

end Go.Proofs.YtfgchfdkiomfpaaGreat.Va

namespace Go.Proofs.YtfgchfdkiomfpaaGreat.Cl
open Go Am Rc Bt

theorem U1 {sz:Nat}(h0:sz≠0){xs:List AV}(h:xs.all (fun e=>e.cells.length==sz)=true)(hf:QS xs=[]):xs=[]:=by
 cases xs with
 |nil=>rfl
 |cons x xs=>
  have hl:x.cells.length=sz:=by simpa using QPM.1 h x (by simp)
  have:x.cells=[]:=(List.append_eq_nil_iff.1 hf).1;rw[this]at hl;exact absurd hl.symm h0

def U2 (sz:Nat)(args:List AV)(m:Qj):Option (AV×Qj) :=
 match args,m with
 | [.list xs],fr :: m=>bif xs.all (fun e=>e.cells.length==sz)&&Nat.ble xs.length 1000000&&Qi (fr 1000)then some (.vec 0 1000 (Xx (fr 1000)) 0 xs.length false,QI fr 1000 (.vec (Xx (fr 1000)) sz xs) :: m)else none
 |_,_=>none

theorem U3 {P:Program}{k sz:Nat}(hk:∀(xs:List AV) (fr:Nat→Ob) (m:Qj),xs.all (fun e=>e.cells.length==sz)=true→xs.length≤1000000→Qi (fr 1000)=true→
  Qx P k [.list xs] (fr :: m) (fun x m1=>x=.vec 0 1000 (Xx (fr 1000)) 0 xs.length false∧m1=QI fr 1000 (.vec (Xx (fr 1000)) sz xs) :: m)) {args:List AV} {m m':Qj} {v:AV} (h:U2 sz args m=some (v,m')):Qx P k args m fun x m1=>x=v∧m1=m':=by
 unfold U2 at h;split at h
 ·rename_i xs fr m0;cases hb:(xs.all (fun e=>e.cells.length==sz)&&Nat.ble xs.length 1000000&&Qi (fr 1000))with
  |false=>rw[hb]at h;cases h
  |true=>
   rw[hb]at h;simp only[cond_true,QPZ,Prod.mk.injEq]at h;simp only[QPY]at hb;obtain⟨rfl,rfl⟩:=h;exact hk xs fr m0 hb.1.1 (QQ3 hb.1.2) hb.2
 ·cases h

theorem c53 (xs:List AV)(fr:Nat→Ob)(m:Qj)(h:xs.all (fun e=>e.cells.length==4)=true)(hn:xs.length≤1000000)(hr:Qi (fr 1000)=true) :
  Qx Tryz.prog 53 [.list xs] (fr :: m) (fun x m1=>x=.vec 0 1000 (Xx (fr 1000)) 0 xs.length false∧m1=QI fr 1000 (.vec (Xx (fr 1000)) 4 xs) :: m):=by
 have hng:Qq (fr :: m) 0 1000=Xx (fr 1000):=Kn;refine k53.go (by simp) ?_;simp only[SI,V6,V7,Qb,seval];refine JS (ys:=xs) (by simp only[Qb,seval]) ?_ ?_
 ·simp only[V9,Qb,seval];refine XN rfl ?_;simp only[Qb,seval];refine QF (site:=5) (g:=1) (xs:=[]) (ys:=xs) rfl rfl rfl rfl rfl h (by simp[maxLen];omega) (by simp;omega) ?_;simp only[Qb,seval];refine Zm (l:=0) (site:=5) (g:=2) (o:=0) (n:=xs.length) (q:=false) (sz:=4) (xs:=xs) (by simp only[QQi,Qb,seval]) (by simp only[Qb,seval]) (by simp) (by decide) hr ?_;simp only[hng,NX,eE,seval]
  try simp[AV.still,AV.un,Zp,XD]
 ·intro he;have hx:xs=[]:=by
   rcases he with he|he
   ·exact he
   ·exact U1 (by decide) h he
  subst hx;simp only[V8,Qb,seval];refine Jq (by simp only[Qb,seval]) rfl ?_;simp only[Qb,seval];refine Zm (l:=0) (site:=2) (g:=1) (o:=0) (n:=0) (q:=false) (sz:=4) (xs:=[]) (by simp only[Qb,seval]) (by simp only[Qb,seval]) (by simp) (by decide) hr ?_;simp only[hng,NX,eE,seval]
  try simp[AV.still,AV.un,Zp,XD]

theorem c97 (xs:List AV)(fr:Nat→Ob)(m:Qj)(h:xs.all (fun e=>e.cells.length==8)=true)(hn:xs.length≤1000000)(hr:Qi (fr 1000)=true) :
  Qx Tryz.prog 97 [.list xs] (fr :: m) (fun x m1=>x=.vec 0 1000 (Xx (fr 1000)) 0 xs.length false∧m1=QI fr 1000 (.vec (Xx (fr 1000)) 8 xs) :: m):=by
 have hng:Qq (fr :: m) 0 1000=Xx (fr 1000):=Kn;refine k97.go (by simp) ?_;simp only[SO,Ca,Cb,Qb,seval];refine JS (ys:=xs) (by simp only[Qb,seval]) ?_ ?_
 ·simp only[Cd,Qb,seval];refine XN rfl ?_;simp only[Qb,seval];refine QF (site:=5) (g:=1) (xs:=[]) (ys:=xs) rfl rfl rfl rfl rfl h (by simp[maxLen];omega) (by simp;omega) ?_;simp only[Qb,seval];refine Zm (l:=0) (site:=5) (g:=2) (o:=0) (n:=xs.length) (q:=false) (sz:=8) (xs:=xs) (by simp only[QQi,Qb,seval]) (by simp only[Qb,seval]) (by simp) (by decide) hr ?_;simp only[hng,NY,eE,seval]
  try simp[AV.still,AV.un,Zp,XD]
 ·intro he;have hx:xs=[]:=by
   rcases he with he|he
   ·exact he
   ·exact U1 (by decide) h he
  subst hx;simp only[Cc,Qb,seval];refine Jq (by simp only[Qb,seval]) rfl ?_;simp only[Qb,seval];refine Zm (l:=0) (site:=2) (g:=1) (o:=0) (n:=0) (q:=false) (sz:=8) (xs:=[]) (by simp only[Qb,seval]) (by simp only[Qb,seval]) (by simp) (by decide) hr ?_;simp only[hng,NY,eE,seval]
  try simp[AV.still,AV.un,Zp,XD]

theorem QLw (xs:List AV)(fr:Nat→Ob)(m:Qj)(h:xs.all (fun e=>e.cells.length==14)=true)(hn:xs.length≤1000000)(hr:Qi (fr 1000)=true) :
  Qx Tryz.prog 157 [.list xs] (fr :: m) (fun x m1=>x=.vec 0 1000 (Xx (fr 1000)) 0 xs.length false∧m1=QI fr 1000 (.vec (Xx (fr 1000)) 14 xs) :: m):=by
 have hng:Qq (fr :: m) 0 1000=Xx (fr 1000):=Kn;refine RE.go (by simp) ?_;simp only[Ce,F5,F6,Qb,seval];refine JS (ys:=xs) (by simp only[Qb,seval]) ?_ ?_
 ·simp only[F8,Qb,seval];refine XN rfl ?_;simp only[Qb,seval];refine QF (site:=5) (g:=1) (xs:=[]) (ys:=xs) rfl rfl rfl rfl rfl h (by simp[maxLen];omega) (by simp;omega) ?_;simp only[Qb,seval];refine Zm (l:=0) (site:=5) (g:=2) (o:=0) (n:=xs.length) (q:=false) (sz:=14) (xs:=xs) (by simp only[QQi,Qb,seval]) (by simp only[Qb,seval]) (by simp) (by decide) hr ?_;simp only[hng,Dj,eE,seval]
  try simp[AV.still,AV.un,Zp,XD]
 ·intro he;have hx:xs=[]:=by
   rcases he with he|he
   ·exact he
   ·exact U1 (by decide) h he
  subst hx;simp only[F7,Qb,seval];refine Jq (by simp only[Qb,seval]) rfl ?_;simp only[Qb,seval];refine Zm (l:=0) (site:=2) (g:=1) (o:=0) (n:=0) (q:=false) (sz:=14) (xs:=[]) (by simp only[Qb,seval]) (by simp only[Qb,seval]) (by simp) (by decide) hr ?_;simp only[hng,Dj,eE,seval]
  try simp[AV.still,AV.un,Zp,XD]

end Go.Proofs.YtfgchfdkiomfpaaGreat.Cl

namespace Go.Proofs.YtfgchfdkiomfpaaGreat.Ew
open Go Am Rc Cl

def nat:Ws:=fun k args m=>
 if k=53 then U2 4 args m
 else if k=97 then U2 8 args m
 else if k=157 then U2 14 args m
 else none

theorem nat_ok:WA Tryz.prog nat:=by
 intro k args m v m' h;unfold nat at h;split at h
 ·rename_i e;subst e;exact U3 c53 h
 split at h
 ·rename_i e;subst e;exact U3 c97 h
 split at h
 ·rename_i e;subst e;exact U3 QLw h
 ·cases h

theorem Rf:evT nat Ev.tab 2000 9 []=true:=by decide +kernel

theorem Sz:Qh Tryz.prog 9 [] (.bool true):=V5 nat_ok Ev.QsK Rf

end Go.Proofs.YtfgchfdkiomfpaaGreat.Ew

namespace Go.Proofs.YtfgchfdkiomfpaaGreat.Va
open Go Am Rc Bt Br Up So

theorem Rg (n:Int):Qh Tryz.prog 67 [.int .i64 n,.int .i64 n] (.int .i64 0):=by
 have d1:decide (n<n)=false:=by simp
 have d2:decide (n > n)=false:=by simp
 refine k67.fn (by simp) ?_;simp only[d1,Qb,seval]

theorem QLx (x:R):Qh Tryz.prog 117 [x.av,x.av] (.int .i64 0):=by
 have d1:decide ((x.bits:Int)<(x.bits:Int))=false:=by simp
 have d2:decide ((x.bits:Int) > (x.bits:Int))=false:=by simp
 have s1:Q5 .lss x.data x.data=some (.bool false):=by simp[Q5,JU]
 have s2:Q5 .gtr x.data x.data=some (.bool false):=by simp[Q5,JU]
 refine QHL.fn (by simp) ?_;simp only[R.av,bne_self_eq_false,d1,s1,s2,eE,seval]

def RqI (l:List R)(k:Nat)(st:St):Prop :=
 ∃f i,st=⟨f,[QE],[]⟩∧k=l.length-i∧f 0=.list (l.map R.av)∧f 1=.list (l.map R.av)∧f 5=.int .i64 (i:Nat)
theorem v71 (l:List R)(hn:l.length≤maxLen):Qh Tryz.prog 71 [.list (l.map R.av),.list (l.map R.av)] (.int .i64 0):=by
 refine k71.fn (by simp) ?_;simp only[Qb,seval];refine Qg (RqI l) _ ⟨_,0,rfl,rfl,(by rfl),(by rfl),(by rfl)⟩ ?_;rintro _ st ⟨f,i,rfl,rfl,h0,h1,h5⟩;simp only[QQu,h0,h5,Qb,seval];by_cases hlt:i<l.length
 ·obtain⟨x,hi⟩:∃x,l[i]? = some x:=⟨l[i],QPE hlt⟩;have hg:=CD hi;have e1:=Qw i _ hlt hn;have d0:((0:Int) != 0)=false:=rfl;have c1:=QLx x;simp only[R.av]at c1;simp only[Qr hlt,Qm,QQ2,Qf,hg,QQu,h0,h1,h5,eE,seval];refine Qa c1 rfl rfl rfl (.inl rfl) ?_;simp only[d0,h5,e1,Qb,seval];exact⟨l.length-(i+1),by omega,_,i+1,rfl,rfl,(by exact h0),(by exact h1),(by rfl)⟩
 ·simp only[QO hlt,QQu,h0,h1,Qb,seval];refine Qa (Rg _) rfl rfl rfl (.inl rfl) ?_;simp only[Qb,seval]

def VG (k:Int)(b:Nat):Int :=
 if (k==2||k==3)=true then IntKind.u64.wrap ((b:Int)+9223372036854775808)else if (k != 6)=true then(b:Int)else if YE b=0 then 18446744073709551615
 else if decide ((b:Int)≥9223372036854775808)=true then IntKind.u64.wrap (18446744073709551615-(b:Int))else IntKind.u64.wrap ((b:Int)+9223372036854775808)

theorem SA (v:V):Qh Tryz.prog 120 [v.av] (.int .u64 (VG v.kd v.bits)):=by
 have zeq:((0:Int)==0)=true:=rfl;rw[Qc];refine Qoi.fn (by simp) ?_;simp only[eE,seval];refine Qa (Qs3 v.kd) rfl rfl rfl (.inl rfl) ?_;unfold VG;cases h1:(v.kd==2||v.kd==3)
 ·cases h2:(v.kd != 6)
  ·simp only[h2,QPT,eE,seval];refine Qa (Qtl v.bits) rfl rfl rfl (.inl rfl) ?_;by_cases h3:YE v.bits=0
   ·have zc:((YE v.bits:Int)==0)=true:=by rw[CA];exact QRs h3
    rw[QP5 h3];simp only[zc,Qb,seval]
   ·have zc:((YE v.bits:Int)==0)=false:=by rw[CA];exact QRo h3
    rw[QPO h3];cases h4:decide ((v.bits:Int)≥9223372036854775808)<;>simp only[zc,h4,QPT,eE,seval]
  ·simp only[h2,QPT,eE,seval]
 ·simp only[eE,seval]

theorem Mb (v:V):Qh Tryz.prog 72 [v.av,v.av] (.int .i64 0):=by
 have d1:decide (v.kd<v.kd)=false:=by simp
 have d2:decide (v.kd > v.kd)=false:=by simp
 have s1:Q5 .lss v.text v.text=some (.bool false):=by simp[Q5,JU]
 have s2:Q5 .gtr v.text v.text=some (.bool false):=by simp[Q5,JU]
 have r1:decide (VG v.kd v.bits<VG v.kd v.bits)=false:=by simp
 have r2:decide (VG v.kd v.bits > VG v.kd v.bits)=false:=by simp
 have hr:=SA v;rw[Qc]at hr;rw[Qc];refine k72.fn (by simp) ?_;simp only[d1,eE,seval];refine Qa (Dq v.kd) rfl rfl rfl (.inl rfl) ?_;cases h1:isk v.kd
 ·simp only[Qb,seval]
 simp only[eE,seval];refine Qa (Wo v.kd) rfl rfl rfl (.inl rfl) ?_;cases h2:XZ v.kd
 ·simp only[eE,seval];refine Qa (Wo v.kd) rfl rfl rfl (.inl rfl) ?_;simp only[h2,eE,seval];refine Qa (Wo v.kd) rfl rfl rfl (.inl rfl) ?_;simp only[h2,eE,seval];refine Qa hr rfl rfl rfl (.inl rfl) ?_;simp only[eE,seval];refine Qa hr rfl rfl rfl (.inl rfl) ?_;simp only[r1,eE,seval];refine Qa hr rfl rfl rfl (.inl rfl) ?_;simp only[eE,seval];refine Qa hr rfl rfl rfl (.inl rfl) ?_;simp only[r2,Qb,seval]
 ·simp only[s1,eE,seval];refine Qa (Wo v.kd) rfl rfl rfl (.inl rfl) ?_;simp only[h2,s2,eE,seval];refine Qa (Wo v.kd) rfl rfl rfl (.inl rfl) ?_;simp only[h2,Qb,seval]

def LqI (l:List V)(k:Nat)(st:St):Prop :=
 ∃f i,st=⟨f,[QE],[]⟩∧k=l.length-i∧f 0=.list (l.map V.av)∧f 1=.list (l.map V.av)∧f 5=.int .i64 (i:Nat)
theorem Mc (l:List V)(hn:l.length≤maxLen)(h:∀x∈l,Qh Tryz.prog 41 [x.av,x.av] (.int .i64 0)):Qh Tryz.prog 68 [.list (l.map V.av),.list (l.map V.av)] (.int .i64 0):=by
 refine k68.fn (by simp) ?_;simp only[Qb,seval];refine Qg (LqI l) _ ⟨_,0,rfl,rfl,(by rfl),(by rfl),(by rfl)⟩ ?_;rintro _ st ⟨f,i,rfl,rfl,h0,h1,h5⟩;simp only[QQu,h0,h5,Qb,seval];by_cases hlt:i<l.length
 ·obtain⟨x,hi⟩:∃x,l[i]? = some x:=⟨l[i],QPE hlt⟩;have hg:=CC hi;have e1:=Qw i _ hlt hn;have d0:((0:Int) != 0)=false:=rfl;have c1:=h x (QPN hi);rw[Qc]at c1;simp only[Qr hlt,Qm,QQ2,Qf,hg,QQu,h0,h1,h5,eE,seval];refine Qa c1 rfl rfl rfl (.inl rfl) ?_;simp only[d0,h5,e1,Qb,seval];exact⟨l.length-(i+1),by omega,_,i+1,rfl,rfl,(by exact h0),(by exact h1),(by rfl)⟩
 ·simp only[QO hlt,QQu,h0,h1,Qb,seval];refine Qa (Rg _) rfl rfl rfl (.inl rfl) ?_;simp only[Qb,seval]

def PzI (l:List (V×V))(k:Nat)(st:St):Prop :=
 ∃f i,st=⟨f,[QE],[]⟩∧k=l.length-i∧f 0=.list (l.map V.pav)∧f 1=.list (l.map V.pav)∧f 5=.int .i64 (i:Nat)
theorem Md (l:List (V×V))(hn:l.length≤maxLen)(h:∀x∈l,Qh Tryz.prog 41 [x.1.av,x.1.av] (.int .i64 0)∧Qh Tryz.prog 41 [x.2.av,x.2.av] (.int .i64 0)):Qh Tryz.prog 69 [.list (l.map V.pav),.list (l.map V.pav)] (.int .i64 0):=by
 refine k69.fn (by simp) ?_;simp only[Qb,seval];refine Qg (PzI l) _ ⟨_,0,rfl,rfl,(by rfl),(by rfl),(by rfl)⟩ ?_;rintro _ st ⟨f,i,rfl,rfl,h0,h1,h5⟩;simp only[QQu,h0,h5,Qb,seval];by_cases hlt:i<l.length
 ·obtain⟨x,hi⟩:∃x,l[i]? = some x:=⟨l[i],QPE hlt⟩;have hg:=JI hi;have e1:=Qw i _ hlt hn;have d0:((0:Int) != 0)=false:=rfl;obtain⟨c1,c2⟩:=h x (QPN hi);rw[Qc]at c1 c2;simp only[Qr hlt,Qm,QQ2,Qf,hg,QQu,QP9,QQI,QQj,h0,h1,h5,eE,seval];refine Qa c1 rfl rfl rfl (.inl rfl) ?_;simp only[d0,Qm,QQ2,Qf,hg,QP9,QQc,QQj,h0,h1,h5,eE,seval];refine Qa c2 rfl rfl rfl (.inl rfl) ?_;simp only[d0,h5,e1,Qb,seval];exact⟨l.length-(i+1),by omega,_,i+1,rfl,rfl,(by exact h0),(by exact h1),(by rfl)⟩
 ·simp only[QO hlt,QQu,h0,h1,Qb,seval];refine Qa (Rg _) rfl rfl rfl (.inl rfl) ?_;simp only[Qb,seval]

def SqI (l:List (Int×V))(k:Nat)(st:St):Prop :=
 ∃f i,st=⟨f,[QE],[]⟩∧k=l.length-i∧f 0=.list (l.map V.sav)∧f 1=.list (l.map V.sav)∧f 5=.int .i64 (i:Nat)
theorem Me (l:List (Int×V))(hn:l.length≤maxLen)(h:∀x∈l,Qh Tryz.prog 41 [x.2.av,x.2.av] (.int .i64 0)):Qh Tryz.prog 70 [.list (l.map V.sav),.list (l.map V.sav)] (.int .i64 0):=by
 refine k70.fn (by simp) ?_;simp only[Qb,seval];refine Qg (SqI l) _ ⟨_,0,rfl,rfl,(by rfl),(by rfl),(by rfl)⟩ ?_;rintro _ st ⟨f,i,rfl,rfl,h0,h1,h5⟩;simp only[QQu,h0,h5,Qb,seval];by_cases hlt:i<l.length
 ·obtain⟨x,hi⟩:∃x,l[i]? = some x:=⟨l[i],QPE hlt⟩;have hg:=Y8 hi;have e1:=Qw i _ hlt hn;have d0:((0:Int) != 0)=false:=rfl;have c2:=h x (QPN hi);rw[Qc]at c2;simp only[Qr hlt,Qm,QQ2,Qf,hg,QQu,QQj,h0,h1,h5,eE,seval];refine Qa (Rg x.1) rfl rfl rfl (.inl rfl) ?_;simp only[d0,Qm,QQ2,Qf,hg,QP9,QQc,QQj,h0,h1,h5,eE,seval];refine Qa c2 rfl rfl rfl (.inl rfl) ?_;simp only[d0,h5,e1,Qb,seval];exact⟨l.length-(i+1),by omega,_,i+1,rfl,rfl,(by exact h0),(by exact h1),(by rfl)⟩
 ·simp only[QO hlt,QQu,h0,h1,Qb,seval];refine Qa (Rg _) rfl rfl rfl (.inl rfl) ?_;simp only[Qb,seval]

theorem SB (v:V)(hc:v.cnt≤1048576):Qh Tryz.prog 41 [v.av,v.av] (.int .i64 0):=by
 revert hc
 refine V.ind (P:=fun v=>v.cnt≤1048576→Qh Tryz.prog 41 [v.av,v.av] (.int .i64 0)) ?_ v;clear v;intro v hl hp hs hc;have l1:=Zn v;have l2:=Zx v;have l3:=Xe v;have l4:=Zz v;have c1:=Mc v.list (by simp only[maxLen];omega) fun x hx=>hl x hx (QPC (HX hx) hc)
 have c2:=Md v.pairs (by simp only[maxLen];omega) fun x hx=>⟨(hp x hx).1 (QPC (L7 hx) hc),(hp x hx).2 (QPC (DC hx) hc)⟩
 have c3:=Me v.slots (by simp only[maxLen];omega) fun x hx=>hs x hx (QPC (JL hx) hc)
 have c4:=v71 v.raws (by simp only[maxLen];omega);have c5:=Mb v;have d0:((0:Int) != 0)=false:=rfl;rw[Qc]at c5;rw[Qc];refine k41.fn (by simp) ?_;simp only[bne_self_eq_false,eE,seval];cases b1:(v.kd==11)
 ·cases b2:(v.kd==12)
  ·cases b3:(v.kd==10)
   ·simp only[b2,b3,eE,seval];refine Qa c5 rfl rfl rfl (.inl rfl) ?_;simp only[Qb,seval]
   ·simp only[b2,b3,eE,seval];refine Qa c3 rfl rfl rfl (.inl rfl) ?_;simp only[d0,eE,seval];refine Qa c4 rfl rfl rfl (.inl rfl) ?_;simp only[Qb,seval]
  ·simp only[b2,eE,seval];refine Qa c2 rfl rfl rfl (.inl rfl) ?_;simp only[Qb,seval]
 ·simp only[eE,seval];refine Qa c1 rfl rfl rfl (.inl rfl) ?_;simp only[Qb,seval]

open Vp Cp

theorem QtM (v:V)(hc:v.cnt≤1048576):Qh Tryz.prog 8 [v.av,v.av] (.bool true):=by
 have c1:=SB v hc;have d0:((0:Int)==0)=true:=rfl;have c2:Qh Tryz.prog 18 [v.av,v.av] (.bool true):=by
  rw[Qc]at c1 ⊢;refine k18.fn (by simp) ?_;simp only[eE,seval];refine Qa c1 rfl rfl rfl (.inl rfl) ?_;simp only[d0,Qb,seval]
 rw[Qc]at c2 ⊢;refine k8.fn (by simp) ?_;simp only[QjV,QjW,r8,o8,eE,seval];refine Qa c2 rfl rfl rfl (.inl rfl) ?_;simp only[Qb,seval]

theorem SC {M:Nat}(P:PL)(hP:P.ok M)(hM:M≤140737488351232):Qh Tryz.prog 5 [P.av] (.bool (decide ((P.progs.length:Int)≤8)&&decide ((P.enums.length:Int)≤8)&&ck P==0)):=by
 have e0:P.av=.agg [.list (P.progs.map Qp),.list (P.enums.map QW)]:=rfl;have ct:=z13 P hP hM;rw[e0]at ct;refine k5.fn (by simp) ?_;simp only[e0,QQu,eE,seval];cases a1:decide ((P.progs.length:Int)≤8)
 ·simp only[QQ5,Qb,seval]
 cases a2:decide ((P.enums.length:Int)≤8)
 ·simp only[a2,QRf,QQ5,QQu,eE,seval]
 simp only[a2,QRf,QQu,eE,seval];refine Qa ct rfl rfl rfl (.inl rfl) ?_;simp only[Qb,seval]

section
variable {M:Nat}(P:PL)(hP:P.ok M)(h1:3000≤M)(hM:M≤140737488351232)(s:List UInt8)(l:L)(hl1:l.dp<9223372036854775808)(hl2:l.nd<9223372036854775808)

include hP h1 hM hl1 hl2 in
theorem c3 (d:List UInt8):Qh Tryz.prog 3 [P.av,.str s,.str d,l.av] (.bool true):=by
 obtain⟨N,hN⟩:∃N,3000<N:=⟨3001,by omega⟩;have c1:=SC P hP hM;have c2:=fun(hc:ck P=0) (hd:d.length≤3000)=>j6 (N:=N) h1 P hP hc hN s d l hd hl1 hl2
 have c3:=fun(hc:ck P=0) (hd:d.length≤3000)=>j7 (N:=N) h1 P hP hc hN s d l hd hl1 hl2
 have c4:=fun(hc:ck P=0) (hd:d.length≤3000)=>QtM _ (Qan (N:=N) h1 P hP hc hN s d l hd hl1 hl2)
 generalize Nh P N s d l=q at c2 c3 c4;obtain⟨v,e⟩:=q;rw[show P.av=.agg (QG P)from rfl]at c1 c2 c3;rw[show P.av=.agg (QG P)from rfl];simp only[ov,Qc v,QG,L.av]at c1 c2 c3 c4;refine k3.fn (by simp) ?_;simp only[QoF,QoG,QoH,QoI,QoJ,QoK,r3,o3,QG,L.av,eE,seval];refine Qa c1 rfl rfl rfl (.inl rfl) ?_;cases a1:(decide ((P.progs.length:Int)≤8)&&decide ((P.enums.length:Int)≤8)&&ck P==0)
 ·simp only[Qb,seval]
 have hc:ck P=0:=by
  simp only[QPY,QP1]at a1;exact a1.2
 by_cases hd:d.length≤3000
 case neg=>
  have d1:decide ((d.length:Int) > 3000)=true:=QRs (by omega);simp only[d1,Qb,seval]
 have d1:decide ((d.length:Int) > 3000)=false:=QRo (by omega);simp only[d1,eE,seval];refine Qa (c2 hc hd) rfl rfl rfl (.inl rfl) ?_;simp only[eE,seval];refine Qa (c3 hc hd) rfl rfl rfl (.inl rfl) ?_;simp only[QQJ,eE,seval];refine Qa (c4 hc hd) rfl rfl rfl (.inl rfl) ?_;simp only[Qb,seval];refine Qa Ew.Sz rfl rfl rfl (.inl rfl) ?_;simp only[Qb,seval]

end
end Go.Proofs.YtfgchfdkiomfpaaGreat.Va

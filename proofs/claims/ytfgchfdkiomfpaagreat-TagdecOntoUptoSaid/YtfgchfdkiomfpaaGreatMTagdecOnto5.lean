/- Parts of the proof, in order. -/
import Derived.WideKeyArr2
import Derived.Test.YtfgchfdkiomfpaaGreatMTagdecOnto4

set_option linter.unusedSimpArgs false
namespace Go.Proofs.YtfgchfdkiomfpaaGreat.Va
open Go Am Rc Bt Br Up So Vp Cp

theorem Qs7 {g:PG}{n:Int}{i:Nat}{x:PO}(h:g.ops[i]? = some x)(hd:XL g n=(g.ops.drop i).find? fun o=>o.num==n) :
  (x.num=n∧XL g n=some x)∨x.num≠n∧XL g n=(g.ops.drop (i+1)).find? fun o=>o.num==n:=by
 have hlt:=(QOG.1 h).1;have hx:=(QOG.1 h).2;rw[QPo hlt,QQs,hx]at hd;by_cases hb:x.num=n
 ·rw[show(x.num==n)=true from by simp[hb]]at hd;exact .inl ⟨hb,hd⟩
 ·rw[show(x.num==n)=false from by simp[hb]]at hd;exact .inr ⟨hb,hd⟩
theorem Qab {g:PG}{n:Int}{i:Nat}(h:¬i<g.ops.length)(hd:XL g n=(g.ops.drop i).find? fun o=>o.num==n):XL g n=none:=by
 rw[hd,QPh (by omega)];rfl
theorem KI {P:PL}{t:Int}(ht:0≤t∧t<(P.progs.length:Int)):QE P t∈P.progs∧P.progs[t.toNat]? = some (QE P t):=by
 unfold QE;rw[QOH (by omega:t.toNat<P.progs.length)];exact⟨QPx _,rfl⟩
theorem QDB {g:PG}{i:Nat}{o:PO}(h:g.ops[i]? = some o):(g.ops.map fun o=>AV.agg o.cells)[i]? = some (.agg o.cells):=by
 rw[QP2,h];rfl

structure FlF (g:PG)(v:V)(t:Int)(l s:Nat)(f:Fr)(fr:Nat→Ob):Prop where
 f0:f 0=.ptr (l+1) s 0
 f1:f 1=.int .i64 t
 f5:f 5=.ptr 0 5 0
 f6:f 6=.ptr 0 6 0
 f8:f 8=.ptr 0 8 0
 m5:fr 5=.cells (vc v)
 m6:fr 6=.cells XG
 m8:fr 8=.cells g.cells
structure FoF (g:PG)(c:C)(num wr:Int)(cc:C)(f:Fr)(fr:Nat→Ob):Prop where
 f9:f 9=.ptr 0 9 0
 f10:f 10=.int .i64 num
 f11:f 11=.int .i64 wr
 f12:f 12=.ptr 0 12 0
 f47:f 47=.list (g.ops.map fun o=>AV.agg o.cells)
 f48:f 48=.int .i64 (g.ops.length:Nat)
 m9:fr 9=.cells (XR c)
 m12:fr 12=.cells (XR cc)
 n16:fr 16=.none

section
variable {M K n:Nat}(hM:3000≤M)(hK:K≤1000000)(P:PL)(hP:P.ok M)(hU:YB P)(hr:ZY P)(l s:Nat)(m:Qh)(hm:l<m.length){rec:Int→V→C→Rd V}(hrec:HT P M K n rec)(hro:KG P M K n rec)(t:Int)(ht:0≤t∧t<(P.progs.length:Int))

include hM hK hP hm hrec hro hU hr ht in
theorem Qac (v:V)(c cc:C)(num wr:Int)(hcc:CI cc)(hcn:cc.left≤n)(hvm:MW P (n+1) (QE P t) v)(hvo:v.ok M)(hb:(v.cnt:Int)+3*cc.left+3≤K)(f:Fr)(fr:Nat→Ob)(hf:FlF (QE P t) v t l s f fr)(hg:FoF (QE P t) c num wr cc f fr)(h49:f 49=.int .i64 0)(h15:(fr 15).isRow=false)(Q:Exit→St→Prop)
  (h2:∀f fr,FlF (QE P t) v t l s f fr→FoF (QE P t) c num wr cc f fr→(fr 15).isRow=false→XL (QE P t) num=none→Q (.exit 2) ⟨f,fr :: Am.put m l s (Q1 P c),[]⟩)
  (h1:∀f fr o w d,FlF (QE P t) w t l s f fr→(∀s∈[16,15,12,9],(fr s).isRow=false)→XL (QE P t) num=some o→J7 P rec (QE P t) v o wr cc=.ok (w,d)→Q (.exit 1) ⟨f,fr :: Am.put m l s (Q1 P d),[]⟩)
  (he:∀f fr o w (e:Nat) d,f 6=.ptr 0 6 0→fr 6=.cells (vc w)→f 7=.int .i64 (e:Nat)→XL (QE P t) num=some o→J7 P rec (QE P t) v o wr cc=.error e→e≠0→Q .ret ⟨f,fr :: Am.put m l s (Q1 P d),[]⟩) :
  QJ Tryz.prog (.loop SL) ⟨f,fr :: Am.put m l s (Q1 P c),[]⟩ Q:=by
 have lp:∀o,Am.Qd (Am.put m l s o) l s=o:=fun o=>Ql hm
 have pp:∀o q,Am.put (Am.put m l s o) l s q=Am.put m l s q:=fun o q=>put_put
 have hpl:∀o,l+1<(Am.put m l s o).length+1:=fun o=>by rw[QN];omega
 have hgl:(QE P t).ops.length≤maxLen:=(hP.progs _ (KI ht).1).len
 let I:Nat→St→Prop:=fun k st=>∃f fr i,st=⟨f,fr :: Am.put m l s (Q1 P c),[]⟩∧k=(QE P t).ops.length-i∧i≤(QE P t).ops.length∧(XL (QE P t) num=((QE P t).ops.drop i).find? fun o=>o.num==num)∧FlF (QE P t) v t l s f fr∧FoF (QE P t) c num wr cc f fr∧f 49=.int .i64 (i:Nat)∧(fr 15).isRow=false
 refine Qg I _ ⟨f,fr,0,rfl,rfl,QOM _,rfl,hf,hg,h49,h15⟩ ?_;clear hf hg h49 h15;rintro k st ⟨f0,fr0,i,rfl,rfl,hil,hfd,⟨h00,h10,h50,h60,h80,m50,m60,m80⟩,⟨h90,h100,h110,h120,h470,h480,m90,m120,n160⟩,h490,n150⟩;refine Q7 (a:=_) [15] (by intro s hs;simp only[QQC]at hs;subst hs;exact n150) ?_;intro f fr hf hmm hn15;have h0:f 0=.ptr (l+1) s 0:=by rw[hf,h00]<;>rfl
 have h1':f 1=.int .i64 t:=by rw[hf,h10]<;>rfl
 have h5:f 5=.ptr 0 5 0:=by rw[hf,h50]<;>rfl
 have h6:f 6=.ptr 0 6 0:=by rw[hf,h60]<;>rfl
 have h8:f 8=.ptr 0 8 0:=by rw[hf,h80]<;>rfl
 have h9:f 9=.ptr 0 9 0:=by rw[hf,h90]<;>rfl
 have h10':f 10=.int .i64 num:=by rw[hf,h100]<;>rfl
 have h11:f 11=.int .i64 wr:=by rw[hf,h110]<;>rfl
 have h12:f 12=.ptr 0 12 0:=by rw[hf,h120]<;>rfl
 have h47:f 47=.list ((QE P t).ops.map fun o=>AV.agg o.cells):=by rw[hf,h470]<;>rfl
 have h48:f 48=.int .i64 ((QE P t).ops.length:Nat):=by rw[hf,h480]<;>rfl
 have h49:f 49=.int .i64 (i:Nat):=by rw[hf,h490]<;>rfl
 have m5':fr 5=.cells (vc v):=by rw[hmm 5 (by decide),m50]<;>rfl
 have m6':fr 6=.cells XG:=by rw[hmm 6 (by decide),m60]<;>rfl
 have m8':fr 8=.cells (QE P t).cells:=by rw[hmm 8 (by decide),m80]<;>rfl
 have m9':fr 9=.cells (XR c):=by rw[hmm 9 (by decide),m90]<;>rfl
 have m12':fr 12=.cells (XR cc):=by rw[hmm 12 (by decide),m120]<;>rfl
 have n15:=hn15 15 (by decide);have n16':fr 16=.none:=by rw[hmm 16 (by decide),n160]<;>rfl
 clear hf hmm hn15 h00 h10 h50 h60 h80 h90 h100 h110 h120 h470 h480 h490 m50 m60 m80 m90 m120 n160 n150;have m5:=m5';have m6:=m6';have m8:=m8';have m12:=m12';simp only[vc]at m5;simp only[XG]at m6;simp only[PG.cells]at m8;simp only[XR]at m12;simp only[h48,h49,Qb,seval];by_cases hlt:i<(QE P t).ops.length
 case neg=>
  simp only[QS hlt,Qb,seval];exact h2 _ _ ⟨(by exact h0),(by exact h1'),(by exact h5),(by exact h6),(by exact h8),m5',m6',m8'⟩ ⟨(by exact h9),(by exact h10'),(by exact h11),(by exact h12),(by exact h47),(by exact h48),m9',m12',n16'⟩ (by rw[n15]<;>rfl) (Qab hlt hfd)
 obtain⟨o,hi⟩:∃o,(QE P t).ops[i]? = some o:=⟨_,QOH hlt⟩;have hgo:((QE P t).ops.map fun o=>AV.agg o.cells)[i]? = some (.agg [.int .i64 o.num,.str o.name,.str o.alias,.int .i64 o.card,.int .i64 o.key,.int .i64 o.kind,.int .i64 o.target,.int .i64 o.union]):=QDB hi;have e1:=Qx i _ hlt hgl;simp only[Qt hlt,h47,h49,Qm,QP7,Qf,hgo,h10',n15,Kr,eE,seval];rcases Qs7 hi hfd with⟨hn,hop⟩|⟨hn,hfd'⟩
 case inr=>
  have b1:(o.num != num)=true:=by simp[hn]
  simp only[b1,h49,e1,Qb,seval];exact⟨(QE P t).ops.length-(i+1),by omega,_,_,i+1,rfl,rfl,by omega,hfd',⟨(by exact h0),(by exact h1'),(by exact h5),(by exact h6),(by exact h8),(by exact m5'),(by exact m6'),(by exact m8')⟩,⟨(by exact h9),(by exact h10'),(by exact h11),(by exact h12),(by exact h47),(by exact h48),(by exact m9'),(by exact m12'),(by exact n16')⟩,(by rfl),by rfl⟩
 have b1:(o.num != num)=false:=by simp[hn]
 obtain⟨ho,hkd,_⟩:=G4 hP hU hr ht hop;have hfl:=fun(fr:Nat→Ob)=>j50 (n:=n) hM hK P hP (l+1) s (fr :: Am.put m l s (Q1 P cc)) (by exact hpl _) hrec hro (QE P t) hgl o ho cc (by exact lp _) hcc hcn v hvm hvo hb hkd wr
 rw[Qc v]at hfl;simp only[Qp,Qy,PG.cells,PO.cells,Q1]at hfl;simp only[b1,h0,h5,h8,h11,h12,m5,m8,m12,lp,pp,Q1,ZM,ZA,eE,seval];refine QH (hfl _) (by simp only[QPc,QPG,Qb,seval]<;>rfl) ?_;intro y m1 hy _;cases hrr:J7 P rec (QE P t) v o wr cc with
 |error e=>
  rw[hrr]at hy;obtain⟨he',w,d,rfl,rfl⟩:=hy;simp only[Qc w,Qr he',h5,h6,m5,m6,pp,eE,seval];exact he _ _ o w e d (by exact h6) (by rfl) (by rfl) hop hrr he'
 |ok p=>
  obtain⟨w,d⟩:=p;rw[hrr]at hy;obtain⟨rfl,rfl⟩:=hy;simp only[Qc w,h5,m5,pp,eE,seval];exact h1 _ _ o w d ⟨(by exact h0),(by exact h1'),(by exact h5),(by exact h6),(by exact h8),(by rfl),(by exact m6'),(by exact m8')⟩ (by
   intro s hs;simp only[QP0,QQF,or_false]at hs;rcases hs with rfl|rfl|rfl|rfl
   ·show(fr 16).isRow=false;rw[n16'];rfl
   ·rfl
   ·show(fr 12).isRow=false;rw[m12'];rfl
   ·show(fr 9).isRow=false;rw[m9'];rfl) hop hrr

include hM hK hP hm hrec hro hU hr ht in
theorem Qad (R0:Rd V)(k:Nat)(v:V)(c:C)(f:Fr)(fr:Nat→Ob)(hf:FlF (QE P t) v t l s f fr)(hrow:∀s∈[16,15,12,9],(fr s).isRow=false)(hc:CI c)(hk:c.left≤k)(hcn:c.left≤n)(hR:Zu P rec t k v c=R0)(hvm:MW P (n+1) (QE P t) v)(hvo:v.ok M)(hb:(v.cnt:Int)+3*c.left≤K)(Q:Exit→St→Prop)
  (hx:∀f fr v c,FlF (QE P t) v t l s f fr→R0=.ok (v,c)→Q (.exit 0) ⟨f,fr :: Am.put m l s (Q1 P c),[]⟩)
  (he:∀f fr w (e:Nat) c,f 6=.ptr 0 6 0→fr 6=.cells (vc w)→f 7=.int .i64 (e:Nat)→R0=.error e→e≠0→Q .ret ⟨f,fr :: Am.put m l s (Q1 P c),[]⟩) :
  QJ Tryz.prog (.loop SM) ⟨f,fr :: Am.put m l s (Q1 P c),[]⟩ Q:=by
 have lp:∀o,Am.Qd (Am.put m l s o) l s=o:=fun o=>Ql hm
 have pp:∀o q,Am.put (Am.put m l s o) l s q=Am.put m l s q:=fun o q=>put_put
 let I:Nat→St→Prop:=fun k st=>∃f fr v c,st=⟨f,fr :: Am.put m l s (Q1 P c),[]⟩∧FlF (QE P t) v t l s f fr∧(∀s∈[16,15,12,9],(fr s).isRow=false)∧CI c∧c.left≤k∧c.left≤n∧Zu P rec t k v c=R0∧MW P (n+1) (QE P t) v∧v.ok M∧(v.cnt:Int)+3*c.left≤K
 refine Qg I k ⟨f,fr,v,c,rfl,hf,hrow,hc,hk,hcn,hR,hvm,hvo,hb⟩ ?_;clear hf hrow hc hk hcn hR hvm hvo hb;rintro k st ⟨f0,fr0,v,c,rfl,⟨h00,h10,h50,h60,h80,m50,m60,m80⟩,hrow,hc,hk,hcn,hR,hvm,hvo,hb⟩;have hcb:=hc.bd;have hcv:=Zj v;have lr:=Zy v;refine Q7 (a:=_) [16,15,12,9] hrow ?_;intro f fr hf hmm hn;have h0:f 0=.ptr (l+1) s 0:=by rw[hf,h00]<;>rfl
 have h1':f 1=.int .i64 t:=by rw[hf,h10]<;>rfl
 have h5:f 5=.ptr 0 5 0:=by rw[hf,h50]<;>rfl
 have h6:f 6=.ptr 0 6 0:=by rw[hf,h60]<;>rfl
 have h8:f 8=.ptr 0 8 0:=by rw[hf,h80]<;>rfl
 have m5':fr 5=.cells (vc v):=by rw[hmm 5 (by decide),m50]<;>rfl
 have m6':fr 6=.cells XG:=by rw[hmm 6 (by decide),m60]<;>rfl
 have m8':fr 8=.cells (QE P t).cells:=by rw[hmm 8 (by decide),m80]<;>rfl
 have n16:=hn 16 (by decide);have n15:=hn 15 (by decide);have n12:=hn 12 (by decide);have n9:=hn 9 (by decide);clear hf hmm hn h00 h10 h50 h60 h80 m50 m60 m80 hrow;have m5:=m5';have m6:=m6';have m8:=m8';simp only[vc]at m5;simp only[XG]at m6;simp only[PG.cells]at m8;simp only[Q1,lp,h0,ZM,eE,seval];refine Qa (DZ c hc.big') rfl rfl rfl (.inl rfl) ?_;by_cases hlt:0<c.left
 case neg=>
  have d1:decide (c.left > 0)=false:=QQt hlt;have hR':R0=.ok (v,c):=by
   rw[←hR];cases k with
   |zero=>rfl
   |succ k=>rw[Zu,QOS hlt]
  simp only[d1,Qb,seval];exact hx _ _ v c ⟨(by exact h0),(by exact h1'),(by exact h5),(by exact h6),(by exact h8),m5',m6',m8'⟩ hR'
 have d1:decide (c.left > 0)=true:=QQx hlt;obtain⟨k,rfl⟩:∃j,k=j+1:=⟨k-1,by omega⟩;rw[Zu,QO9 hlt]at hR;have htt:=c49 c hc.big;have hta:=Wh hc;have hnx:=c51 c hc.big;have hna:=BB hc;generalize Qw c=tg at htt hta hR hna;obtain⟨num,w,c1,e⟩:=tg;dsimp only at hta hR hna;simp only[Wt,C.av]at htt;simp only[d1,lp,h0,n9,ZM,ZA,eE,seval];refine Qa htt rfl rfl rfl (.inl rfl) ?_;by_cases he0:e=0
 case neg=>
  rw[QOS he0]at hR;simp only[n12,Qr he0,h5,h6,m5,m6,ZA,eE,seval];exact he _ _ v e c (by exact h6) (by rfl) (by rfl) hR.symm he0
 subst he0;obtain⟨t1,t2,t3,t4,t5⟩:=hta rfl;have hc1:=t1.ci hc;have hl1:=t1.lt hc;have hc1b:=hc1.bd;rw[QO9 rfl]at hR;simp only[n12,h8,m8,QPz,ZA,eE,seval];refine Qac (n:=n) hM hK P hP hU hr l s m hm hrec hro t ht v c c1 num w hc1 (by omega) hvm hvo (by omega) _ _ ⟨(by exact h0),(by exact h1'),(by exact h5),(by exact h6),(by exact h8),(by exact m5'),(by exact m6'),(by exact m8')⟩ ⟨(by rfl),(by rfl),(by rfl),(by rfl),(by rfl),(by rfl),(by rfl),(by rfl),by exact n16⟩ (by rfl) (by show(fr 15).isRow=false;rw[n15];rfl) _ (fun f fr hf hg h15 hop=>?_) (fun f fr o y d hf hrow hop hrf=>?_) (fun f fr o y e d h6 m6 h7 hop hrf he'=>?_)
 ·obtain⟨h0,h1',h5,h6,h8,m5,m6,m8⟩:=hf;obtain⟨h9,h10,h11,h12,h47,h48,m9,m12,n16⟩:=hg;rw[hop]at hR;generalize XF c=nn at hnx hna hR;obtain⟨x,d,e⟩:=nn;dsimp only at hna hR;simp only[ZS,C.av,R.av]at hnx;have m5':=m5;have m6':=m6;have m8':=m8;simp only[vc]at m5;simp only[XG]at m6;simp only[XR]at m9 m12;simp only[h9,m9,ZM,eE,seval];refine Qa hnx rfl rfl rfl (.inl rfl) ?_;by_cases he0:e=0
  case neg=>
   rw[QOS he0]at hR;simp only[n16,Qr he0,h5,h6,h12,m5,m6,m12,ZA,eE,seval];exact he _ _ v e c (by exact h6) (by rfl) (by rfl) hR.symm he0
  subst he0;obtain⟨a1,_,a2,a3,a4,a5,a6,a7⟩:=hna rfl;have hla:=a1.lt hc;have hrw:x.ok M:=⟨ZV (by omega) (by omega),ZV (by omega) (by omega),by simp[Lit.wf,IntKind.min,IntKind.max,IntKind.bits,IntKind.signed];omega,by omega⟩;have ea:=U7 v x;have hva:=G0 (f:=x) hvm;have hoa:=GZ hvo hrw (by omega);have hsd:=j52 v x (by omega);rw[QO9 rfl]at hR;generalize Wf v x=u at hsd ea hva hoa hR;rw[Qc v,Qc u]at hsd;simp only[R.av]at hsd;simp only[n16,h0,h5,h12,m5,m12,lp,pp,Q1,ZM,ZA,eE,seval];refine Qa hsd rfl rfl rfl (.inl rfl) ?_;simp only[h5,m5,eE,seval];exact⟨k,by omega,_,_,u,d,rfl,⟨(by exact h0),(by exact h1'),(by exact h5),(by exact h6),(by exact h8),(by rfl),(by exact m6'),(by exact m8')⟩,(by
   intro s hs;simp only[QP0,QQF,or_false]at hs;rcases hs with rfl|rfl|rfl|rfl
   ·rfl
   ·exact h15
   ·rfl
   ·show(fr 9).isRow=false;rw[m9];rfl),a1.ci hc,by omega,by omega,hR,hva,hoa,by omega⟩
 ·obtain⟨ho,hkd,_⟩:=G4 hP hU hr ht hop;obtain⟨b1,b2,b3,b4⟩:=UP hM hK ho hro hkd hc1 (by omega) hvm hvo (by omega) hrf;have hlb:=b1.lt hc1;rw[hop]at hR;dsimp only at hR;rw[hrf]at hR;exact⟨k,by omega,f,fr,y,d,rfl,hf,hrow,b1.ci hc1,by omega,by omega,hR,b2,b3,by omega⟩
 ·rw[hop]at hR;dsimp only at hR;rw[hrf]at hR;exact he _ _ y e d h6 m6 h7 hR.symm he'

include hM hK hP hm hrec hro hU hr ht in
theorem Nt (v:V)(c:C)(hs:Am.Qd m l s=Q1 P c)(hc:CI c)(hcn:c.left≤n)(hvm:MW P (n+1) (QE P t) v)(hvo:v.ok M)(hb:(v.cnt:Int)+3*c.left≤K) :
  Qu Tryz.prog 26 [.ptr l s 0,.int .i64 t,v.av] m (Rt P l s m V.av (Zu P rec t c.left.toNat v c)):=by
 have lp:∀o,Am.Qd (Am.put m l s o) l s=o:=fun o=>Ql hm
 have hcb:=hc.bd;have hlt:t.toNat<P.progs.length:=by omega
 have hgp:(P.progs.map Qp)[t.toNat]? = some (.agg [.str (QE P t).name,.list ((QE P t).ops.map fun o=>AV.agg o.cells),.int .i64 (QE P t).unions]):=by
  rw[QP2,(KI ht).2];rfl
 have ht0:(0≤t)=True:=by simp[ht.1]
 have e0:=put_self hm hs;have hsl:∀xs,((AV.list xs).shN l).sh=.list xs:=fun xs=>shl xs (l+1)
 rw[Q1]at hs;rw[Qc v];refine k26.go (by simp) ?_;simp only[hs,hgp,hsl,ht0,Qf,eE,seval];rw[←e0];refine Qad hM hK P hP hU hr l s m hm hrec hro t ht _ c.left.toNat v c _ _ ⟨(by rfl),(by rfl),(by rfl),(by rfl),(by rfl),(by rfl),(by rfl),(by rfl)⟩ (by
   intro s hs;simp only[QP0,QQF,or_false]at hs;rcases hs with rfl|rfl|rfl|rfl<;>rfl) hc (by omega) hcn rfl hvm hvo hb _ (fun f fr w d hf hR=>?_) (fun f fr w e d h6 m6 h7 hR he=>?_)
 ·obtain⟨h0,h1',h5,h6,h8,m5,m6,m8⟩:=hf;rw[e0,hR];simp only[vc]at m5;simp only[XG]at m6;simp only[h5,h6,m5,m6,QN,eE,seval];exact⟨by rw[Qc w],rfl⟩
 ·rw[e0,hR];simp only[vc]at m6;simp only[h6,m6,h7,QN,eE,seval];exact⟨he,w,d,by rw[Qc w],rfl⟩

end

theorem Qs8 {M K:Nat}(hM:3000≤M)(hK:K≤1000000){P:PL}(hP:P.ok M)(hU:YB P)(hr:ZY P):∀n:Nat,HT P M K n (WX P n)
 |0,l,s,m,t,v,c,hm,hs,hc,hcl,ht,hvm,hvo,hb=>by
  have:=hc.bd;omega
 |n+1,l,s,m,t,v,c,hm,hs,hc,hcl,ht,hvm,hvo,hb=>
  Nt hM hK P hP hU hr l s m hm (Qs8 hM hK hP hU hr n) (WJ hM hK hP hU hr n) t ht v c hs hc (by omega) hvm hvo hb

theorem HW:∀(l:List PO) (n b:Int),0≤n→-1≤b→(JS l n b).isSome=true→∀o∈l,-1≤o.union
 | [],_,_,_,_,_,o,ho=>by cases ho
 |q :: l,n,b,hn,hb,h,o,ho=>by
  rw[JS]at h;have key : -1≤q.union∧((o∈l)→-1≤o.union):=by
   split at h
   ·rename_i h1;exact⟨by omega,fun hm=>HW l (n+1) n (by omega) (by omega) h o hm⟩
   ·split at h
    ·rename_i h1;have : -1≤q.union:=by rcases h1 with h1|h1<;>omega
     exact⟨this,fun hm=>HW l n q.union hn this h o hm⟩
    ·cases h
  rcases QP0.1 ho with rfl|hm
  ·exact key.1
  ·exact key.2 hm
def AI (P:PL):Prop:=∀g∈P.progs,∀o∈g.ops,-1≤o.union
theorem Qs9 {P:PL}(h:ck P=0):AI P:=by
 have ha:=(HS h).2;intro g hg o ho;unfold args at ha;simp only[QO2,QOQ]at ha;have h1:=ha.1 g hg;unfold KB at h1;simp only[QO2,QOQ]at h1;have h2:=h1.1;unfold Wp at h2;refine HW g.ops 0 (-1) (by omega) (by omega) ?_ o ho;cases hj:JS g.ops 0 (-1)with
 |none=>rw[hj]at h2;cases h2
 |some n=>rfl

theorem AJ {v:V}{c:C}{r:Rd V}(h:∀e,r=.error e→e≠0):r=if (KN v c r).2.2=0 then .ok ((KN v c r).1,(KN v c r).2.1)else .error (KN v c r).2.2:=by
 cases r with
 |error e=>
  have:=h e rfl;rw[X0,QOS this]
 |ok p=>rfl

section
variable (P:PL){rec:Int→V→C→Rd V}(hre:Yt rec)
def Wj (rec:Int→V→C→Rd V)(g:PG)(v:V)(o:PO)(w:Int)(c d:C):V×C×Nat :=
 if o.card=5 then(if w=6 then KN v d (Jk P rec g v o d)else(v,c,13))
 else if w=5∧pk o.card o.kind=true then WF P g v o d
 else if w=wk o.kind then(if o.kind=10 then KN v d (Ju rec g v o d)else J0 P g v o d)
 else(v,c,13)
def Ki (rec:Int→V→C→Rd V)(g:PG)(v:V)(c:C):V×C×Nat :=
 if (Qw c).2.2.2=0 then
  (match XL g (Qw c).1 with
  |none=>if (XF c).2.2=0 then(Wf v (XF c).1,(XF c).2.1,0)else(v,c,(XF c).2.2)
  |some o=>Wj P rec g v o (Qw c).2.1 c (Qw c).2.2.1)
 else(v,c,(Qw c).2.2.2)

include hre in
theorem Nb (g:PG)(v:V)(o:PO)(w:Int)(c d:C):J7 P rec g v o w d=if (Wj P rec g v o w c d).2.2=0 then .ok ((Wj P rec g v o w c d).1,(Wj P rec g v o w c d).2.1)else .error (Wj P rec g v o w c d).2.2:=by
 unfold J7 Wj;by_cases h5:o.card=5
 ·simp only[QO9 h5];by_cases h6:w=6
  ·simp only[QO9 h6];exact AJ fun e h=>Sw hre h
  ·simp only[QOS h6];rfl
 simp only[QOS h5];by_cases hp:w=5∧pk o.card o.kind=true
 ·simp only[QO9 hp];exact Ns P g v o d
 simp only[QOS hp];by_cases hw:w=wk o.kind
 case neg=>
  simp only[QOS hw];rfl
 simp only[QO9 hw];by_cases h10:o.kind=10
 ·simp only[QO9 h10];exact AJ fun e h=>L8 hre h
 ·simp only[QOS h10];exact UQ P g v o d
include hre in
theorem P9 (t:Int)(k:Nat)(v:V)(c:C)(hlt:0<c.left):Zu P rec t (k+1) v c=if (Ki P rec (QE P t) v c).2.2=0 then Zu P rec t k (Ki P rec (QE P t) v c).1 (Ki P rec (QE P t) v c).2.1 else .error (Ki P rec (QE P t) v c).2.2:=by
 rw[Zu,QO9 hlt];unfold Ki;by_cases h1:(Qw c).2.2.2=0
 case neg=>simp only[QOS h1]
 simp only[QO9 h1];cases hop:XL (QE P t) (Qw c).1 with
 |none=>
  dsimp only;by_cases h2:(XF c).2.2=0
  ·simp only[QO9 h2,if_true]
  ·simp only[QOS h2]
 |some o=>
  dsimp only;rw[Nb P hre (QE P t) v o (Qw c).2.1 c (Qw c).2.2.1];by_cases h2:(Wj P rec (QE P t) v o (Qw c).2.1 c (Qw c).2.2.1).2.2=0
  ·simp only[QO9 h2]
  ·simp only[QOS h2]
include hre in
theorem VD (t:Int):∀(k:Nat) (v:V) (c:C) (e:Nat),Zu P rec t k v c=.error e→e≠0
 |0,_,_,_,h=>by cases h
 |k+1,v,c,e,h=>by
  by_cases hlt:0<c.left
  ·rw[P9 P hre t k v c hlt]at h;split at h
   ·exact VD t k _ _ e h
   ·rename_i h1;cases h;exact h1
  ·rw[Zu,QOS hlt]at h;cases h
theorem Nc:∀n:Nat,Yt (WX P n)
 |0,_,_,_,_,h=>by cases h
 |n+1,t,v,c,e,h=>VD P (Nc n) t _ v c e h
end

section
variable {M K n:Nat}(hM:3000≤M)(hK:K≤1000000)(P:PL)(hP:P.ok M)(hU:YB P)(hr:ZY P)(hun:AI P){rec:Int→V→C→Rd V}(hrec:HU P M K n rec)(hre:Yt rec)(hro:KG P M K n rec)(t:Int)(ht:0≤t∧t<(P.progs.length:Int))

include hM hK hP hU hr hro hre ht in
theorem Qae {c:C}(hc:CI c)(hcn:c.left≤n){v:V}(hvm:MW P (n+1) (QE P t) v)(hvo:v.ok M)(hb:(v.cnt:Int)+3*c.left≤K)(h:(Ki P rec (QE P t) v c).2.2=0) :
  As c (Ki P rec (QE P t) v c).2.1∧MW P (n+1) (QE P t) (Ki P rec (QE P t) v c).1∧(Ki P rec (QE P t) v c).1.ok M∧((Ki P rec (QE P t) v c).1.cnt:Int)+3*(Ki P rec (QE P t) v c).2.1.left≤v.cnt+3*c.left:=by
 have lr:=Zy v;have hcb:=hc.bd;unfold Ki at h ⊢;by_cases htg:(Qw c).2.2.2=0
 case neg=>rw[QOS htg]at h;exact absurd h htg
 rw[QO9 htg]at h ⊢;obtain⟨t1,_⟩:=Wh hc htg;have hl:=t1.lt hc;cases hop:XL (QE P t) (Qw c).1 with
 |none=>
  rw[hop]at h;dsimp only at h ⊢;by_cases hx:(XF c).2.2=0
  case neg=>rw[QOS hx]at h;exact absurd h hx
  rw[QO9 hx];obtain⟨a1,_,a2,a3,a4,a5,a6,a7⟩:=BB hc hx;have hla:=a1.lt hc;have hrw:(XF c).1.ok M:=⟨ZV (by omega) (by omega),ZV (by omega) (by omega),by simp[Lit.wf,IntKind.min,IntKind.max,IntKind.bits,IntKind.signed];omega,by omega⟩;have ea:=U7 v (XF c).1;exact⟨a1,G0 hvm,GZ hvo hrw (by omega),by dsimp only;omega⟩
 |some o=>
  rw[hop]at h;dsimp only at h ⊢;obtain⟨ho,hkd,_⟩:=G4 hP hU hr ht hop;have hx:=Nb P hre (QE P t) v o (Qw c).2.1 c (Qw c).2.2.1;rw[QO9 h]at hx;obtain⟨b1,b2,b3,b4⟩:=UP hM hK ho hro hkd (t1.ci hc) (by omega) hvm hvo (by omega) hx;have hlb:=b1.lt (t1.ci hc);exact⟨t1.1.strict b1 hc,b2,b3,by omega⟩

set_option maxHeartbeats 1000000 in
include hM hK hP hU hr hun hrec hre hro ht in
theorem j43 {c:C}(hc:CI c)(hcn:c.left≤n)(v:V)(hvm:MW P (n+1) (QE P t) v)(hvo:v.ok M)(hb:(v.cnt:Int)+3*c.left≤K)(hlt:0<c.left) :
  Qj Tryz.prog 43 [P.av,Qp (QE P t),v.av,c.av] (xv (Ki P rec (QE P t) v c)):=by
 have ls:=Xi v;have lr:=Zy v;have hcv:=Zj v;have hcb:=hc.bd;have hgl:(QE P t).ops.length≤maxLen:=(hP.progs _ (KI ht).1).len;have htt:=c74 c hc.big;have hta:=Wh hc;have hnx:=c76 c hc.big;have hsl:∀s∈v.slots,∃q,XL (QE P t) s.1=some q:=fun s hs=>let ⟨q,h,_⟩:=hvm.1 s hs;⟨q,h⟩
 have hop1:=fun {o:PO} {m:Int} (h:XL (QE P t) m=some o)=>G4 hP hU hr ht h
 have hop2:=fun {o:PO} {m:Int} (h:XL (QE P t) m=some o)=>hun _ (KI ht).1 o (YC h).1
 generalize QE P t=g at *;have co:=fun n=>y75 g hgl n
 simp only[U5]at co;unfold Ki;generalize Qw c=tg at htt hta ⊢;obtain⟨num,w,c1,e⟩:=tg;dsimp only at hta ⊢;simp only[Wt,C.av]at htt;by_cases he0:e=0
 case neg=>
  rw[QOS he0];rw[show P.av=.agg (QX P)from rfl,Qc v];refine k43.fn (by simp) ?_;simp only[QX,Qp,PG.cells,C.av,eE,seval];refine Qa htt rfl rfl rfl (.inl rfl) ?_;simp only[Qr he0,xv,Qc v,C.av,eE,seval]
 subst he0;obtain⟨t1,t2,t3,t4,t5⟩:=hta rfl;have hc1:=t1.ci hc;have hl1:=t1.lt hc;have hc1b:=hc1.bd;have co:=co num;rw[QO9 rfl];cases hop:XL g num with
 |none=>
  rw[hop]at co;have hsd:=fun(h:(XF c).2.2=0)=>j77 v (XF c).1 (by omega)
  simp only[Qp,PG.cells,QQh,QPv,N5,Qy,PO.cells]at co;dsimp only;generalize XF c=nn at hnx hsd ⊢;obtain⟨x,d,e⟩:=nn;simp only[ZS,C.av,R.av]at hnx;dsimp only at hsd ⊢;rw[show P.av=.agg (QX P)from rfl,Qc v];refine k43.fn (by simp) ?_;simp only[QX,Qp,PG.cells,C.av,eE,seval];refine Qa htt rfl rfl rfl (.inl rfl) ?_;simp only[eE,seval];refine Qa co rfl rfl rfl (.inl rfl) ?_;simp only[eE,seval];refine Qa hnx rfl rfl rfl (.inl rfl) ?_;by_cases he:e=0
  case neg=>
   rw[QOS he];simp only[Qr he,xv,Qc v,C.av,eE,seval]
  subst he;have hsd:=hsd rfl;rw[QO9 rfl];generalize Wf v x=u at hsd ⊢;rw[Qc v,Qc u]at hsd;simp only[R.av]at hsd;simp only[eE,seval];refine Qa hsd rfl rfl rfl (.inl rfl) ?_;simp only[xv,Qc u,C.av,eE,seval]
 |some o=>
 obtain⟨ho,hkd,_⟩:=hop1 hop;have huo:=hop2 hop;rw[hop]at co;have hwi:=DA o.num o.name o.alias o.card o.key o.kind o.target o.union;have hpk:=y79 o.num o.name o.alias o.card o.key o.kind o.target o.union;have hen:=fun(h5:o.card=5)=>j78 hM hK P hP hrec hre hro g hgl o ho h5 huo hc1 (by omega) v hvm hvo (by omega) hkd
 have hpa:=fun(h5:o.card≠5) (h4:o.card=4)=>j80 (n:=n) hM hK P hP g hgl o ho h5 huo h4 hc1 v hvm hvo (by omega)
 have hne:=fun(h10:o.kind=10) (h5:o.card≠5)=>j82 P hrec o hc1 (by omega) g hgl v (by omega) hK hvo huo hre (by omega) ho h10 h5 hvm
 have hon:=j83 P hP g v o hc1 hgl (by omega) hsl huo;rw[show P.av=.agg (QX P)from rfl,Qc v]at hen hpa hne hon;simp only[QX,Qp,Qy,oc,PG.cells,PO.cells,C.av,QPP,QQu]at co hwi hpk hen hpa hne hon;dsimp only;unfold Wj;rw[show P.av=.agg (QX P)from rfl,Qc v];refine k43.fn (by simp) ?_;simp only[QX,Qp,PG.cells,C.av,eE,seval];refine Qa htt rfl rfl rfl (.inl rfl) ?_;simp only[eE,seval];refine Qa co rfl rfl rfl (.inl rfl) ?_;by_cases h5:o.card=5
 ·have b5:(o.card==5)=true:=by simp[h5]
  rw[QO9 h5];by_cases h6:w=6
  ·have b6:(w==6)=true:=by simp[h6]
   have h1:=hen h5;rw[QO9 h6];generalize KN v c1 (Jk P rec g v o c1)=r at h1 ⊢;obtain⟨u,d,e⟩:=r;simp only[xv,Qc u,C.av]at h1;simp only[b5,b6,eE,seval];refine Qa h1 rfl rfl rfl (.inl rfl) ?_;simp only[xv,Qc u,C.av,eE,seval]
  ·have b6:(w==6)=false:=by simp[h6]
   have hpf:pk o.card o.kind=false:=by
    unfold pk;rw[h5];rfl
   rw[hpf]at hpk;rw[QOS h6];simp only[b5,b6,eE,seval];refine Qa hpk rfl rfl rfl (.inl rfl) ?_;simp only[b5,xv,Qc v,C.av,eE,seval]<;>rfl
 have b5:(o.card==5)=false:=by simp[h5]
 rw[QOS h5];simp only[b5,eE,seval];refine Qa hpk rfl rfl rfl (.inl rfl) ?_;by_cases hp:w=5∧pk o.card o.kind=true
 ·obtain⟨hw5,hpk'⟩:=hp;have b6:(w==5)=true:=by simp[hw5]
  have h4:o.card=4:=by
   unfold pk at hpk';rw[QO2,QO5]at hpk';exact hpk'.1
  have h1:=hpa h5 h4;rw[QO9 ⟨hw5,hpk'⟩];generalize WF P g v o c1=r at h1 ⊢;obtain⟨u,d,e⟩:=r;simp only[xv,Qc u,C.av]at h1;simp only[hpk',b6,eE,seval];refine Qa h1 rfl rfl rfl (.inl rfl) ?_;simp only[xv,Qc u,C.av,eE,seval]
 rw[QOS hp];have hq:(w==5&&pk o.card o.kind)=false:=by
  cases h:pk o.card o.kind
  ·simp
  ·have:w≠5:=fun e=>hp ⟨e,h⟩
   simp[this]
 have go:∀b:Bool,b=pk o.card o.kind→(b=true→(w==5)=false):=by
  intro b hb h;rw[hb]at h;rw[h,QPS]at hq;exact hq
 generalize hbb:pk o.card o.kind=bb at go;have go:=go bb rfl;cases bb
 ·by_cases hw:w=wk o.kind
  case neg=>
   have b7:(w != wk o.kind)=true:=by simp[hw]
   rw[QOS hw];simp only[b5,eE,seval];refine Qa hwi rfl rfl rfl (.inl rfl) ?_;simp only[b7,xv,Qc v,C.av,eE,seval]<;>rfl
  have b7:(w != wk o.kind)=false:=by simp[hw]
  rw[QO9 hw];simp only[b5,eE,seval];refine Qa hwi rfl rfl rfl (.inl rfl) ?_;by_cases h10:o.kind=10
  ·have b10:(o.kind==10)=true:=by simp[h10]
   have h1:=hne h10 h5;rw[QO9 h10];generalize KN v c1 (Ju rec g v o c1)=r at h1 ⊢;obtain⟨u,d,e⟩:=r;simp only[xv,Qc u,C.av]at h1;simp only[b7,b10,eE,seval];refine Qa h1 rfl rfl rfl (.inl rfl) ?_;simp only[xv,Qc u,C.av,eE,seval]
  ·have b10:(o.kind==10)=false:=by simp[h10]
   rw[QOS h10];generalize J0 P g v o c1=r at hon ⊢;obtain⟨u,d,e⟩:=r;simp only[xv,Qc u,C.av]at hon;simp only[b7,b10,eE,seval];refine Qa hon rfl rfl rfl (.inl rfl) ?_;simp only[xv,Qc u,C.av,eE,seval]
 ·have b6:=go rfl;by_cases hw:w=wk o.kind
  case neg=>
   have b7:(w != wk o.kind)=true:=by simp[hw]
   rw[QOS hw];simp only[b5,b6,eE,seval];refine Qa hwi rfl rfl rfl (.inl rfl) ?_;simp only[b7,xv,Qc v,C.av,eE,seval]<;>rfl
  have b7:(w != wk o.kind)=false:=by simp[hw]
  rw[QO9 hw];simp only[b5,b6,eE,seval];refine Qa hwi rfl rfl rfl (.inl rfl) ?_;by_cases h10:o.kind=10
  ·have b10:(o.kind==10)=true:=by simp[h10]
   have h1:=hne h10 h5;rw[QO9 h10];generalize KN v c1 (Ju rec g v o c1)=r at h1 ⊢;obtain⟨u,d,e⟩:=r;simp only[xv,Qc u,C.av]at h1;simp only[b7,b10,eE,seval];refine Qa h1 rfl rfl rfl (.inl rfl) ?_;simp only[xv,Qc u,C.av,eE,seval]
  ·have b10:(o.kind==10)=false:=by simp[h10]
   rw[QOS h10];generalize J0 P g v o c1=r at hon ⊢;obtain⟨u,d,e⟩:=r;simp only[xv,Qc u,C.av]at hon;simp only[b7,b10,eE,seval];refine Qa hon rfl rfl rfl (.inl rfl) ?_;simp only[xv,Qc u,C.av,eE,seval]

end

section
variable {M K n:Nat}(hM:3000≤M)(hK:K≤1000000)(P:PL)(hP:P.ok M)(hU:YB P)(hr:ZY P)(hun:AI P){rec:Int→V→C→Rd V}(hrec:HU P M K n rec)(hre:Yt rec)(hro:KG P M K n rec)(t:Int)(ht:0≤t∧t<(P.progs.length:Int))

structure MeF (P:PL)(t:Int)(f:Fr)(fr:Nat→Ob)(v:V)(c:C):Prop where
 f1:f 1=.int .i64 t
 f4:f 4=.ptr 0 4 0
 f6:f 6=.ptr 0 6 0
 f7:f 7=.ptr 0 7 0
 f8:f 8=.ptr 0 8 0
 f9:f 9=.ptr 0 9 0
 m4:fr 4=.cells (QX P)
 m6:fr 6=.cells (vc v)
 m7:fr 7=.cells (XR c)
 m8:fr 8=.cells XG
 m9:fr 9=.cells YH
 rw:∀s∈[12,11],(fr s).isRow=false

include hM hK hP hU hr hun hrec hre hro ht in
theorem Qaf (R0:Rd V)(k:Nat)(v:V)(c:C)(f:Fr)(fr:Nat→Ob)(hf:MeF P t f fr v c)(hc:CI c)(hk:c.left≤k)(hcn:c.left≤n)(hR:Zu P rec t k v c=R0)(hvm:MW P (n+1) (QE P t) v)(hvo:v.ok M)(hb:(v.cnt:Int)+3*c.left≤K)(Q:Exit→St→Prop)
  (hx:∀f fr v c,MeF P t f fr v c→R0=.ok (v,c)→Q (.exit 0) ⟨f,[fr],[]⟩)
  (he:∀f fr v c (e:Nat),f 8=.ptr 0 8 0→f 9=.ptr 0 9 0→fr 8=.cells (vc v)→fr 9=.cells (XR c)→f 10=.int .i64 (e:Nat)→R0=.error e→e≠0→Q .ret ⟨f,[fr],[]⟩) :
  QJ Tryz.prog (.loop TA) ⟨f,[fr],[]⟩ Q:=by
 have hgp:(P.progs.map Qp)[t.toNat]? = some (.agg [.str (QE P t).name,.list ((QE P t).ops.map fun o=>AV.agg o.cells),.int .i64 (QE P t).unions]):=by
  rw[QP2,(KI ht).2];rfl
 have ht0:(0≤t)=True:=by simp[ht.1]
 let I:Nat→St→Prop:=fun k st=>∃f fr v c,st=⟨f,[fr],[]⟩∧MeF P t f fr v c∧CI c∧c.left≤k∧c.left≤n∧Zu P rec t k v c=R0∧MW P (n+1) (QE P t) v∧v.ok M∧(v.cnt:Int)+3*c.left≤K
 refine Qg I k ⟨f,fr,v,c,rfl,hf,hc,hk,hcn,hR,hvm,hvo,hb⟩ ?_;clear hf hc hk hcn hR hvm hvo hb;rintro k st ⟨f0,fr0,v,c,rfl,⟨h10,h40,h60,h70,h80,h90,m40,m60,m70,m80,m90,hrow⟩,hc,hk,hcn,hR,hvm,hvo,hb⟩;have hcb:=hc.bd;refine Q7 (a:=_) [12,11] hrow ?_;intro f fr hf hmm hn;have h1:f 1=.int .i64 t:=by rw[hf,h10]<;>rfl
 have h4:f 4=.ptr 0 4 0:=by rw[hf,h40]<;>rfl
 have h6:f 6=.ptr 0 6 0:=by rw[hf,h60]<;>rfl
 have h7:f 7=.ptr 0 7 0:=by rw[hf,h70]<;>rfl
 have h8:f 8=.ptr 0 8 0:=by rw[hf,h80]<;>rfl
 have h9:f 9=.ptr 0 9 0:=by rw[hf,h90]<;>rfl
 have m4':fr 4=.cells (QX P):=by rw[hmm 4 (by decide),m40]<;>rfl
 have m6':fr 6=.cells (vc v):=by rw[hmm 6 (by decide),m60]<;>rfl
 have m7':fr 7=.cells (XR c):=by rw[hmm 7 (by decide),m70]<;>rfl
 have m8':fr 8=.cells XG:=by rw[hmm 8 (by decide),m80]<;>rfl
 have m9':fr 9=.cells YH:=by rw[hmm 9 (by decide),m90]<;>rfl
 have n12:=hn 12 (by decide);have n11:=hn 11 (by decide);clear hf hmm hn h10 h40 h60 h70 h80 h90 m40 m60 m70 m80 m90 hrow;have m4:=m4';have m6:=m6';have m7:=m7';have m8:=m8';have m9:=m9';simp only[QX]at m4;simp only[vc]at m6;simp only[XR]at m7;simp only[XG]at m8;simp only[YH]at m9;simp only[h7,m7,eE,seval];refine Qa (Vm c) rfl rfl rfl (.inl rfl) ?_;by_cases hlt:0<c.left
 case neg=>
  have d1:decide (c.left > 0)=false:=QQt hlt;have hR':R0=.ok (v,c):=by
   rw[←hR];cases k with
   |zero=>rfl
   |succ k=>rw[Zu,QOS hlt]
  simp only[d1,Qb,seval];exact hx _ _ v c ⟨(by exact h1),(by exact h4),(by exact h6),(by exact h7),(by exact h8),(by exact h9),m4',m6',m7',m8',m9',(by
   intro s hs;simp only[QP0,QQF,or_false]at hs;rcases hs with rfl|rfl
   ·rw[n12];rfl
   ·rw[n11];rfl)⟩ hR'
 have d1:decide (c.left > 0)=true:=QQx hlt;obtain⟨k,rfl⟩:∃j,k=j+1:=⟨k-1,by omega⟩;rw[P9 P hre t k v c hlt]at hR;have hfd:=j43 hM hK P hP hU hr hun hrec hre hro t ht hc hcn v hvm hvo hb hlt;have hok:=Qae hM hK P hP hU hr hre hro t ht hc hcn hvm hvo hb;generalize Ki P rec (QE P t) v c=r at hR hfd hok;obtain⟨w,d,e⟩:=r;dsimp only at hR hok;rw[show P.av=.agg (QX P)from rfl,Qc v]at hfd;simp only[QX,Qp,PG.cells,C.av,xv,Qc w]at hfd;simp only[d1,h1,h4,h6,h7,m4,m6,m7,hgp,ht0,Qf,eE,seval];refine Qa hfd rfl rfl rfl (.inl rfl) ?_;by_cases he0:e=0
 case neg=>
  rw[QOS he0]at hR;simp only[n12,n11,Qr he0,h6,h7,h8,h9,m6,m7,m8,m9,eE,seval];exact he _ _ v c e (by exact h8) (by exact h9) (by rfl) (by rfl) (by rfl) hR.symm he0
 subst he0;obtain⟨b1,b2,b3,b4⟩:=hok rfl;have hl:=b1.lt hc;rw[QO9 rfl]at hR;simp only[n12,n11,h6,h7,m6,m7,eE,seval];exact⟨k,by omega,_,_,w,d,rfl,⟨(by exact h1),(by exact h4),(by exact h6),(by exact h7),(by exact h8),(by exact h9),(by exact m4'),(by rfl),(by rfl),(by exact m8'),(by exact m9'),(by
   intro s hs;simp only[QP0,QQF,or_false]at hs;rcases hs with rfl|rfl<;>rfl)⟩,b1.ci hc,by omega,by omega,hR,b2,b3,by omega⟩

include hM hK hP hU hr hun hrec hre hro ht in
theorem Sx (v:V)(c:C)(hc:CI c)(hcn:c.left≤n)(hvm:MW P (n+1) (QE P t) v)(hvo:v.ok M)(hb:(v.cnt:Int)+3*c.left≤K) :
  H7 Tryz.prog 22 [P.av,.int .i64 t,v.av,c.av] (Rm (Zu P rec t c.left.toNat v c)):=by
 have hcb:=hc.bd;rw[show P.av=.agg (QX P)from rfl,Qc v];refine k22.rl (by simp) ?_;simp only[QX,C.av,eE,seval];refine Qaf hM hK P hP hU hr hun hrec hre hro t ht _ c.left.toNat v c _ _ ⟨(by rfl),(by rfl),(by rfl),(by rfl),(by rfl),(by rfl),(by rfl),(by rfl),(by rfl),(by rfl),(by rfl),(by
   intro s hs;simp only[QP0,QQF,or_false]at hs;rcases hs with rfl|rfl<;>rfl)⟩ hc (by omega) hcn rfl hvm hvo hb _ (fun f fr w d hf hR=>?_) (fun f fr w d e h8 h9 m8 m9 h10 hR he=>?_)
 ·obtain⟨h1,h4,h6,h7,h8,h9,m4,m6,m7,m8,m9,hrow⟩:=hf;rw[hR];have h:Rm (.ok (w,d)) (xv (w,d,0)):=rfl;simp only[xv,Qc w,C.av]at h;simp only[vc]at m6;simp only[XR]at m7;simp only[XG]at m8;simp only[YH]at m9;simp only[h6,h7,h8,h9,m6,m7,m8,m9,eE,seval];exact h
 ·rw[hR];have h:Rm (.error e) (xv (w,d,e)):=⟨he,w,d,rfl⟩;simp only[xv,Qc w,C.av]at h;simp only[vc]at m8;simp only[XR]at m9;simp only[h8,h9,h10,m8,m9,eE,seval];exact h

end

theorem Qta {M K:Nat}(hM:3000≤M)(hK:K≤1000000){P:PL}(hP:P.ok M)(hU:YB P)(hr:ZY P)(hun:AI P):∀n:Nat,HU P M K n (WX P n)
 |0,t,v,c,hc,hcl,ht,hvm,hvo,hb=>by
  have:=hc.bd;omega
 |n+1,t,v,c,hc,hcl,ht,hvm,hvo,hb=>
  Sx hM hK P hP hU hr hun (Qta hM hK hP hU hr hun n) (Nc P n) (WJ hM hK hP hU hr n) t ht v c hc (by omega) hvm hvo hb

theorem Ra {M:Nat}{v:V}(h:v.ok M):v.nsc.ok M:=by
 refine .mk h.kd ?_ h.text h.nl h.np h.ns h.nr h.list h.keys h.vals h.nums h.slots h.raws;show(Lit.int .u64 ((Zi v.kd v.bits:Nat):Int)).wf=true;unfold Zi;split
 ·rfl
 ·exact h.bits

def Gd (g:PG):Prop:=g.ops.length≤64∧∀o∈g.ops,(Lit.int .i64 o.num).wf=true

section
variable {M:Nat}{P:PL}{nm:PG→V→V}(h:∀t v,v.ok M→(nm (QE P t) v).ok M)
include h
theorem Nd (o:PO){v:V}(hv:v.ok M):(ZX nm P o v).ok M:=by
 unfold ZX;split
 ·exact h _ v hv
 ·exact Ra hv
theorem Qtb (o:PO){v:V}(hv:v.ok M):(Jj nm P o v).ok M:=by
 unfold Jj;split
 ·refine .mk rfl rfl (QOM _) ?_ (QOM _) (QOM _) (QOM _) ?_ (fun x hx=>nomatch hx) (fun x hx=>nomatch hx) (fun x hx=>nomatch hx) (fun x hx=>nomatch hx) (fun x hx=>nomatch hx)
  ·show(v.list.map _).length≤_;rw[QPz];exact hv.nl
  ·intro x hx;obtain⟨y,hy,rfl⟩:=QPY.1 hx;exact Nd h o (hv.list y hy)
 ·split
  ·have hp:(QT o.key v.pairs).Perm v.pairs:=QW _;refine .mk rfl rfl (QOM _) (QOM _) ?_ (QOM _) (QOM _) (fun x hx=>nomatch hx) ?_ ?_ (fun x hx=>nomatch hx) (fun x hx=>nomatch hx) (fun x hx=>nomatch hx)
   ·show((QT o.key v.pairs).map _).length≤_;rw[QPz,hp.length_eq];exact hv.np
   ·intro x hx;obtain⟨y,hy,rfl⟩:=QPY.1 hx;exact Ra (hv.keys y (hp.mem_iff.1 hy))
   ·intro x hx;obtain⟨y,hy,rfl⟩:=QPY.1 hx;exact Nd h o (hv.vals y (hp.mem_iff.1 hy))
  ·exact Nd h o hv
theorem Qag {g:PG}(hg:Gd g){v:V}(hv:v.ok M):(Bp nm P g v).ok M:=by
 unfold Bp;have hp:(ZT v.raws).Perm v.raws:=QW _;have hs:∀x∈g.ops.flatMap (X7 nm P v.slots),(Lit.int .i64 x.1).wf=true∧x.2.ok M:=by
  intro x hx;obtain⟨o,ho,hx⟩:=QPr.1 hx;obtain⟨e1,s,hs,_,e2⟩:=Ko hx;rw[e1,e2];exact⟨hg.2 o ho,Qtb h o (hv.slots s hs)⟩
 have hl:∀l:List PO,(l.flatMap (X7 nm P v.slots)).length≤l.length:=by
  intro l
  induction l with
  |nil=>exact QOE _
  |cons o l ih=>
   have:(X7 nm P v.slots o).length≤1:=by
    unfold X7;split
    ·simp
    ·split<;>simp
   rw[QP9,QPi,QOT];omega
 refine .mk rfl rfl (QOM _) (QOM _) (QOM _) ?_ ?_ (fun x hx=>nomatch hx) (fun x hx=>nomatch hx) (fun x hx=>nomatch hx) (fun x hx=>(hs x hx).1) (fun x hx=>(hs x hx).2) ?_
 ·show(g.ops.flatMap (X7 nm P v.slots)).length≤_;have:=hl g.ops;have:=hg.1;omega
 ·show(ZT v.raws).length≤_;rw[hp.length_eq];exact hv.nr
 ·intro x hx;exact hv.raws x (hp.mem_iff.1 hx)
end
theorem Rb {M:Nat}{P:PL}(hg:∀t,Gd (QE P t)):∀(n:Nat) (t:Int) (v:V),v.ok M→(Xv P n (QE P t) v).ok M
 |0,_,_,h=>h
 |n+1,t,_,h=>Qag (fun t v hv=>Rb hg n t v hv) (hg t) h

theorem QDC {M:Nat}{P:PL}(hP:P.ok M)(hl:∀g∈P.progs,g.ops.length≤64)(t:Int):Gd (QE P t):=by
 unfold QE;cases hg:P.progs[t.toNat]? with
 |none=>exact⟨QOM _,fun o ho=>nomatch ho⟩
 |some g=>
  have hm:=QOR hg;exact⟨hl g hm,fun o ho=>((hP.progs g hm).ops o ho).num⟩
theorem Rf {P:PL}(h:ck P=0):∀g∈P.progs,g.ops.length≤64:=by
 unfold ck at h;split at h
 ·omega
 rename_i hl;exact(DS (by simpa using hl)).2.2.1

section
variable {m:PG→V→Prop}{nm:PG→V→V}{P:PL}
theorem Nf (h:∀g∈P.progs,∀v,m g v→m g (nm g v)){o:PO}(ho:UO P o){v:V}(hv:EW m P o v):EW m P o (ZX nm P o v):=by
 intro hk;unfold ZX;rw[QO9 hk];exact h _ (KI (ho.tgt hk)).1 _ (hv hk)
theorem Qtc (h:∀g∈P.progs,∀v,m g v→m g (nm g v)){o:PO}(ho:UO P o){v:V}(hv:FW m P o v):FW m P o (Jj nm P o v):=by
 unfold FW at hv ⊢;unfold Jj;by_cases h4:o.card=4
 ·rw[QO9 h4]at hv;rw[QO9 h4,QO9 h4];intro x hx;obtain⟨y,hy,rfl⟩:=QPY.1 hx;exact Nf h ho (hv y hy)
 ·rw[QOS h4]at hv;rw[QOS h4,QOS h4];by_cases h5:o.card=5
  ·rw[QO9 h5]at hv;rw[QO9 h5,QO9 h5];have hk:=Vk ho.key h5 (fun p hp=>(hv.1 p hp).1);have hp:(QT o.key v.pairs).Perm v.pairs:=QW _;refine⟨fun x hx=>?_,?_⟩
   ·obtain⟨p,hp',rfl⟩:=QPY.1 hx;have h1:=hv.1 p (hp.mem_iff.1 hp');exact⟨L0 h1.1,Nf h ho h1.2⟩
   ·show(List.map _ (QT o.key v.pairs)).Pairwise _;rw[List.pairwise_map];have h2:(QT o.key v.pairs).Pairwise fun q p=>Q0 q.1 p.1=false:=(hp.pairwise_iff fun {a b} h=>by rw[K2];exact h).2 hv.2
    refine h2.imp_of_mem fun {a b} ha hb h=>?_
    dsimp only;rw[hk a (hp.mem_iff.1 ha),hk b (hp.mem_iff.1 hb)];exact h
  ·rw[QOS h5]at hv;rw[QOS h5,QOS h5];exact Nf h ho hv
end

theorem Sy {nm:PG→V→V}{P:PL}{g:PG}(hd:g.ops.Pairwise fun a b=>a.num<b.num)(sl:List (Int×V)):(g.ops.flatMap (X7 nm P sl)).Pairwise fun y x=>(y.1==x.1)=false:=by
 rw[List.pairwise_flatMap];refine⟨fun _ _=>Bu,hd.imp fun {a b} hab x hx y hy=>?_⟩;have e1:=(Ko hx).1;have e2:=(Ko hy).1;simp;omega
theorem Rg {P:PL}(hU:YB P)(hr:ZY P):∀(n:Nat) (g:PG),g∈P.progs→∀v:V,MW P n g v→MW P n g (Xv P n g v)
 |0,_,_,_,h=>h
 |n+1,g,hg,v,h=>by
  refine⟨fun x hx=>?_,Sy (hr g hg) v.slots⟩;obtain⟨o,ho,hx⟩:=QPr.1 hx;obtain⟨e,s,hs,e1,e2⟩:=Ko hx;obtain⟨o',h1,h2⟩:=h.1 s hs;rw[e1,WV (hr g hg) ho]at h1;cases h1;exact⟨o,by rw[e];exact WV (hr g hg) ho,by rw[e2];exact Qtc (fun g hg v hv=>Rg hU hr n g hg v hv) (hU g hg o ho) h2⟩

section
variable {M:Nat}(P:PL)(hP:P.ok M)(hr:ZY P)

structure CoF (P:PL)(v:V)(g:PG)(i:Nat)(f:Fr)(fr:Nat→Ob):Prop where
 f3:f 3=.ptr 0 3 0
 f5:f 5=.ptr 0 5 0
 f18:f 18=.list (g.ops.map fun o=>AV.agg o.cells)
 f19:f 19=.int .i64 (g.ops.length:Nat)
 f20:f 20=.int .i64 (i:Nat)
 m3:fr 3=.cells (QX P)
 m5:fr 5=.cells (vc v)

end

section
variable (P:PL)(o:PO)

structure LaF (P:PL)(o:PO)(x:V)(f:Fr)(fr:Nat→Ob):Prop where
 f3:f 3=.ptr 0 3 0
 f4:f 4=.ptr 0 4 0
 f5:f 5=.ptr 0 5 0
 m3:fr 3=.cells (QX P)
 m4:fr 4=.cells o.cells
 m5:fr 5=.cells (vc x)

variable (x:V)(hl:x.cnt≤1048576)(m:V→Bool)
include hl
end

section
variable {M:Nat}(P:PL)(hP:P.ok M)(hr:ZY P)(hU:YB P)

structure LsF (P:PL)(t:Int)(v:V)(i:Nat)(f:Fr)(fr:Nat→Ob):Prop where
 f1:f 1=.int .i64 t
 f3:f 3=.ptr 0 3 0
 f5:f 5=.ptr 0 5 0
 f7:f 7=.int .i64 (i:Nat)
 m3:fr 3=.cells (QX P)
 m5:fr 5=.cells (vc v)

end
end Go.Proofs.YtfgchfdkiomfpaaGreat.Va

namespace Go.Proofs.YtfgchfdkiomfpaaGreat.Va
open Go Am Rc Bt Br Up So

section
variable {M:Nat}{P:PL}{m:PG→V→Prop}{nm:PG→V→V}(o:PO)(ho:UO P o)

include ho in
theorem v84 (hm:∀(t:Int) (g:PG),P.progs[t.toNat]? = some g→0≤t→∀v:V,v.ok M→v.cnt≤1048576→m g v→Qj Tryz.prog 23 [P.av,.int .i64 t,v.av] (nm g v).av)(v:V)(hv:v.ok M)(hc:v.cnt≤1048576)(he:EW m P o v) :
  Qj Tryz.prog 84 [P.av,Qy o,v.av] (ZX nm P o v).av:=by
 have e0:P.av=.agg [.list (P.progs.map Qp),.list (P.enums.map QV)]:=rfl;unfold ZX;by_cases hk:o.kind=10
 ·have b:(o.kind==10)=true:=by simp[hk]
  have he:=he hk;rw[QO9 hk];obtain⟨t0,t1⟩:=ho.tgt hk;obtain⟨g,hg⟩:∃g,P.progs[o.target.toNat]? = some g:=⟨P.progs[o.target.toNat]'(by omega),QOH (by omega)⟩;have hq:QE P o.target=g:=by unfold QE;rw[hg];rfl
  rw[hq]at he ⊢;have h2:=hm o.target g hg t0 v hv hc he;generalize nm g v=z at h2 ⊢;rw[e0,Qc,Qc]at h2;rw[Qc,Qc];refine k84.fn (by simp) ?_;simp only[e0,Qy,PO.cells,b,eE,seval];refine Qa h2 rfl rfl rfl (.inl rfl) ?_;simp only[eE,seval]
 ·have b:(o.kind==10)=false:=by simp[hk]
  rw[QOS hk];have h1:=v86 v (WH hv);generalize v.nsc=z at h1 ⊢;rw[Qc,Qc]at h1;rw[Qc,Qc];refine k84.fn (by simp) ?_;simp only[e0,Qy,PO.cells,b,eE,seval];refine Qa h1 rfl rfl rfl (.inl rfl) ?_;simp only[eE,seval]

def WlI (P:PL)(o:PO)(v:V)(F:V→V)(k:Nat)(st:St):Prop :=
 ∃f fr i g,st=⟨f,[fr],[]⟩∧k=v.list.length-i∧i≤v.list.length∧f 3=.ptr 0 3 0∧f 4=.ptr 0 4 0∧f 5=.ptr 0 5 0∧f 6=.ptr 0 6 0∧f 7=.ptr 0 7 0∧f 8=.int .i64 (i:Nat)∧fr 3=.cells [.list (P.progs.map Qp),.list (P.enums.map QV)]∧fr 4=.cells o.cells∧fr 5=.cells [.int .i64 v.kd,.int .u64 (v.bits:Nat),.str v.text,.list (v.list.map V.av),.list (v.pairs.map V.pav),.list (v.slots.map V.sav),.list (v.raws.map R.av)]∧fr 6=.cells [.int .i64 0,.int .u64 0,.str [],.nils,.nils,.nils,.nils]∧fr 7=.cells [.int .i64 11,.int .u64 0,.str [],.vec 0 1100 g 0 i false,.nils,.nils,.nils]∧fr 1100=.vec g 7 ((v.list.take i).map fun x=>(F x).av)

def WpI (P:PL)(o:PO)(T:List (V×V))(F:V×V→V×V)(k:Nat)(st:St):Prop :=
 ∃f fr i g,st=⟨f,[fr],[]⟩∧k=T.length-i∧i≤T.length∧f 3=.ptr 0 3 0∧f 4=.ptr 0 4 0∧f 6=.ptr 0 6 0∧f 9=.ptr 0 9 0∧f 10=.list (T.map V.pav)∧f 11=.int .i64 (i:Nat)∧fr 3=.cells [.list (P.progs.map Qp),.list (P.enums.map QV)]∧fr 4=.cells o.cells∧fr 6=.cells [.int .i64 0,.int .u64 0,.str [],.nils,.nils,.nils,.nils]∧fr 9=.cells [.int .i64 12,.int .u64 0,.str [],.nils,.vec 0 1101 g 0 i false,.nils,.nils]∧fr 1101=.vec g 14 ((T.take i).map fun x=>V.pav (F x))

set_option maxHeartbeats 1000000 in
include ho in
theorem v45 (hel:∀v:V,v.ok M→v.cnt≤1048576→EW m P o v→Qj Tryz.prog 84 [P.av,Qy o,v.av] (ZX nm P o v).av)(v:V)(hv:v.ok M)(hc:v.cnt≤1048576)(he:FW m P o v) :
  Qj Tryz.prog 45 [P.av,Qy o,v.av] (Jj nm P o v).av:=by
 have e0:P.av=.agg [.list (P.progs.map Qp),.list (P.enums.map QV)]:=rfl;unfold Jj;unfold FW at he;by_cases h4:o.card=4
 ·have b4:(o.card==4)=true:=by simp[h4]
  rw[QO9 h4]at he;rw[QO9 h4];have hL:=he;have hlen:=ZU v;rw[Qc v];generalize hF:ZX nm P o=F at hel ⊢;rw[show(V.mk 11 0 [] (v.list.map F) [] [] []).av=.agg [.int .i64 11,.int .u64 0,.str [],.list ((v.list.map F).map V.av),.list [],.list [],.list []]from Qc _];refine k45.fn (by simp) ?_;simp only[e0,Qy,PO.cells,b4,eE,seval];refine Jy (by simp only[Qb,seval]<;>rfl) rfl (by simp only[Qb,seval]<;>rfl) rfl ?_;simp only[List.set,Qb,seval];refine Qg (WlI P o v F) _ ⟨_,_,0,_,rfl,rfl,QOM _,(by rfl),(by rfl),(by rfl),(by rfl),(by rfl),(by rfl),(by rfl),(by rfl),(by rfl),(by rfl),(by rfl),(by rfl)⟩ ?_;rintro _ st ⟨f,fr,i,g,rfl,rfl,hil,h3,h4,h5,h6,h7,h8,m3,m4,m5,m6,m7,mR⟩;have m4':=m4;simp only[PO.cells]at m4;simp only[QPz,h5,h8,m5,eE,seval];by_cases hlt:i<v.list.length
  ·obtain⟨x,hi⟩:∃x,v.list[i]? = some x:=⟨v.list[i],QOH hlt⟩;have hx:=QOR hi;have hg:=R9 hi;have e1:=Qx i _ hlt (by simp only[maxLen];omega);have c1:=hel x (hv.list x hx) (QOF (HP hx) hc) (hL x hx);have hti:((v.list.take i).map fun x=>(F x).av).length=i:=by rw[QPz,QPB];omega
   have hts:(v.list.take (i+1)).map (fun x=>(F x).av)=(v.list.take i).map (fun x=>(F x).av)++[(F x).av]:=by rw[QQr,hi];simp
   generalize F x=z at c1 hts;rw[e0,Qc x,Qc z]at c1;simp only[Qy,PO.cells]at c1;simp only[Qt hlt,Qm,QP7,Qf,hg,h3,h4,h5,h7,h8,m3,m4,m5,m7,eE,seval];refine Qa c1 rfl rfl rfl (.inl rfl) ?_;refine QO (l:=[z.av]) rfl rfl rfl (by rw[Qc];rfl) ?_;refine QF (site:=1100) (g:=g) (n:=i) (xs:=(v.list.take i).map fun x=>(F x).av) (ys:=[z.av]) (by rfl) (by exact mR) rfl hti.symm rfl (Dx [z]) (by simp only[QOT,QPA,maxLen];omega) (by simp only[QOT,QPA];omega) ?_;simp only[h7,h8,m7,e1,eE,seval];exact⟨v.list.length-(i+1),by omega,_,_,i+1,g+1,rfl,rfl,by omega,(by exact h3),(by exact h4),(by exact h5),(by exact h6),(by exact h7),(by rfl),(by exact m3),(by exact m4'),(by exact m5),(by exact m6),(by rfl),(by rw[hts];exact(by rfl))⟩
  ·have e:i=v.list.length:=by omega
   subst e;rw[QQi,AD]at mR;simp only[QS hlt,h6,h7,m6,m7,eE,seval];simp[AV.un,AV.unL,Zv,XH,mR,QPe]
 ·have b4:(o.card==4)=false:=by simp[h4]
  rw[QOS h4];by_cases h5:o.card=5
  ·have b5:(o.card==5)=true:=by simp[h5]
   rw[QOS h4,QO9 h5]at he;rw[QO9 h5];have hE:=he;have hlen:=JI v;have hk:=ho.key h5;have cp:=v85 hk v.pairs (by omega) (fun p hp=>(hE.1 p hp).1) (fun p hp=>WH (hv.keys p hp)) hE.2;have hperm:(QT o.key v.pairs).Perm v.pairs:=QW _;have hTl:(QT o.key v.pairs).length=v.pairs.length:=hperm.length_eq;have hTm:∀p∈QT o.key v.pairs,p∈v.pairs:=fun p h=>hperm.mem_iff.1 h
   generalize QT o.key v.pairs=T at *;rw[Qc v];generalize hF:(fun p:V×V=>(p.1.nsc,ZX nm P o p.2))=F;rw[show(V.mk 12 0 [] [] (T.map F) [] []).av=.agg [.int .i64 12,.int .u64 0,.str [],.list [],.list ((T.map F).map V.pav),.list [],.list []]from Qc _];refine k45.fn (by simp) ?_;simp only[e0,Qy,PO.cells,b4,b5,eE,seval];refine Jy (by simp only[Qb,seval]<;>rfl) rfl (by simp only[Qb,seval]<;>rfl) rfl ?_;simp only[List.set,eE,seval];refine Qa cp rfl rfl rfl (.inl rfl) ?_;simp only[Qb,seval];refine Qg (WpI P o T F) _ ⟨_,_,0,_,rfl,rfl,QOM _,(by rfl),(by rfl),(by rfl),(by rfl),(by rfl),(by rfl),(by rfl),(by rfl),(by rfl),(by rfl),(by rfl)⟩ ?_;rintro _ st ⟨f,fr,i,g,rfl,rfl,hil,h3,h4,h6,h9,h10,h11,m3,m4,m6,m9,mR⟩;have m4':=m4;simp only[PO.cells]at m4;simp only[QPz,h10,h11,Qb,seval];by_cases hlt:i<T.length
   ·obtain⟨x,hi⟩:∃x,T[i]? = some x:=⟨T[i],QOH hlt⟩;have hx:=hTm x (QOR hi);have hg:=Ke hi;have e1:=Qx i _ hlt (by simp only[maxLen];omega);have c0:=v86 x.1 (WH (hv.keys x hx));have c1:=hel x.2 (hv.vals x hx) (QOF (Dz hx) hc) (hE.1 x hx).2;have hti:((T.take i).map fun x=>V.pav (F x)).length=i:=by rw[QPz,QPB];omega
    have hFx:F x=(x.1.nsc,ZX nm P o x.2):=by rw[←hF]
    have hts:(T.take (i+1)).map (fun x=>V.pav (F x))=(T.take i).map (fun x=>V.pav (F x))++[V.pav (x.1.nsc,ZX nm P o x.2)]:=by rw[QQr,hi,←hFx];simp
    generalize x.1.nsc=y at c0 hts;generalize ZX nm P o x.2=z at c1 hts;rw[Qc,Qc y]at c0;rw[e0,Qc,Qc z]at c1;simp only[Qy,PO.cells]at c1;simp only[Qt hlt,Qm,QP7,Qf,hg,h9,h10,h11,m9,eE,seval];refine Qa c0 rfl rfl rfl (.inl rfl) ?_;simp only[Qm,QP7,Qf,hg,QPd,QPg,QPn,h3,h4,h10,h11,m3,m4,eE,seval];refine Qa c1 rfl rfl rfl (.inl rfl) ?_;simp only[eE,seval];refine QO (l:=[V.pav (y,z)]) rfl rfl rfl (by rw[Q4];rfl) ?_;refine QF (site:=1101) (g:=g) (n:=i) (xs:=(T.take i).map fun x=>V.pav (F x)) (ys:=[V.pav (y,z)]) (by rfl) (by exact mR) rfl hti.symm rfl (XQ [(y,z)]) (by simp only[QOT,QPA,maxLen];omega) (by simp only[QOT,QPA];omega) ?_;simp only[h9,h11,m9,e1,eE,seval];exact⟨T.length-(i+1),by omega,_,_,i+1,g+1,rfl,rfl,by omega,(by exact h3),(by exact h4),(by exact h6),(by exact h9),(by exact h10),(by rfl),(by exact m3),(by exact m4'),(by exact m6),(by rfl),(by rw[hts];exact(by rfl))⟩
   ·have e:i=T.length:=by omega
    subst e;rw[QQi,PX]at mR;simp only[QS hlt,h6,h9,m6,m9,eE,seval];simp[AV.un,AV.unL,Zv,XH,mR,QPe]
  ·have b5:(o.card==5)=false:=by simp[h5]
   rw[QOS h4,QOS h5]at he;rw[QOS h5];have c1:=hel v hv hc he;generalize ZX nm P o v=z at c1 ⊢;rw[e0,Qc v,Qc z]at c1;simp only[Qy,PO.cells]at c1;rw[Qc v,Qc z];refine k45.fn (by simp) ?_;simp only[e0,Qy,PO.cells,b4,b5,eE,seval];refine Qa c1 rfl rfl rfl (.inl rfl) ?_;simp only[eE,seval]

end

theorem Rh {fr:Nat→Ob}{a b:Nat}(h1:(fr a).isRow=false)(h2:(fr b).isRow=false):∀s∈[a,b],(fr s).isRow=false:=by
 intro s hs;simp only[QP0,QQF,or_false]at hs;rcases hs with rfl|rfl
 ·exact h1
 ·exact h2
theorem US {fr:Nat→Ob}{a:Nat}(h1:(fr a).isRow=false):∀s∈[a],(fr s).isRow=false:=by
 intro s hs;simp only[QP0,QQF,or_false]at hs;subst hs;exact h1

theorem isr {x:Ob}(h:x=.none):x.isRow=false:=by rw[h];rfl

def ZN (nm:PG→V→V)(P:PL)(o:PO)(s:Int×V):List (Int×V):=if (s.1==o.num)=true then ZZ nm P o s else []
theorem D9 (nm:PG→V→V)(P:PL)(o:PO):∀l:List (Int×V),(l.flatMap (ZN nm P o)).length≤l.length
 | []=>QOE _
 |s :: l=>by
  have h1:(ZN nm P o s).length≤1:=by
   unfold ZN;split
   ·unfold ZZ;split<;>simp
   ·simp
  have:=D9 nm P o l;rw[QP9,QPi,QOT];omega

def Hs (v:V):List AV:=[.int .i64 v.kd,.int .u64 (v.bits:Nat),.str v.text,.list (v.list.map V.av),.list (v.pairs.map V.pav),.list (v.slots.map V.sav),.list (v.raws.map R.av)]

theorem Sz {P:PL}{v:V}{o:PO}{n:Nat}{ti i:Nat}(K:List (Int×V))(hK:K.length≤64)(hS:v.slots.length≤1048576)(rw':List R)
  (hw:∀x∈v.slots,x.1=o.num→Qj Tryz.prog 45 [P.av,Qy o,x.2.av] (Jj (Xv P n) P o x.2).av)
  (fr:Nat→Ob) (f:Fr) (gs:Nat) (h1:f 1=.int .i64 (ti:Nat)) (h3:f 3=.ptr 0 3 0) (h5:f 5=.ptr 0 5 0) (h6:f 6=.ptr 0 6 0) (h7:f 7=.ptr 0 7 0) (h8:f 8=.int .i64 (i:Nat)) (h9:f 9=.ptr 0 9 0) (h10:f 10=.int .i64 0) (m3:fr 3=.cells [.list (P.progs.map Qp),.list (P.enums.map QV)]) (m5:fr 5=.cells (Hs v)) (m6:fr 6=.cells [.int .i64 0,.int .u64 0,.str [],.nils,.nils,.nils,.nils]) (m7:fr 7=.cells [.int .i64 10,.int .u64 0,.str [],.nils,.nils,.vec 0 1100 gs 0 K.length false,.list (rw'.map R.av)]) (m9:fr 9=.cells o.cells) (mS:fr 1100=.vec gs 8 (K.map V.sav)) (Yb:∀s∈[11],(fr s).isRow=false)
  (Q:Exit→St→Prop)
  (q:∀(f:Fr) (fr:Nat→Ob) (gs:Nat),f 1=.int .i64 (ti:Nat)→f 3=.ptr 0 3 0→f 5=.ptr 0 5 0→f 6=.ptr 0 6 0→f 7=.ptr 0 7 0→f 8=.int .i64 (i:Nat)→fr 3=.cells [.list (P.progs.map Qp),.list (P.enums.map QV)]→fr 5=.cells (Hs v)→fr 6=.cells [.int .i64 0,.int .u64 0,.str [],.nils,.nils,.nils,.nils]→fr 7=.cells [.int .i64 10,.int .u64 0,.str [],.nils,.nils,.vec 0 1100 gs 0 (K++v.slots.flatMap (ZN (Xv P n) P o)).length false,.list (rw'.map R.av)]→fr 1100=.vec gs 8 ((K++v.slots.flatMap (ZN (Xv P n) P o)).map V.sav)→(fr 9).isRow=false→(fr 11).isRow=false→Q (.exit 2) (⟨f,[fr],[]⟩:St)) :
  QJ Tryz.prog (.loop SS) ⟨f,[fr],[]⟩ Q:=by
 have e0:P.av=.agg [.list (P.progs.map Qp),.list (P.enums.map QV)]:=rfl
 let L:Nat→List (Int×V):=fun k=>K++(v.slots.take k).flatMap (ZN (Xv P n) P o)
 have hL0:L 0=K:=by simp[L]
 have hLn:L v.slots.length=K++v.slots.flatMap (ZN (Xv P n) P o):=by simp[L]
 have hLl:∀k,k≤v.slots.length→(L k).length≤64+k:=by
  intro k hk;have:=D9 (Xv P n) P o (v.slots.take k);rw[QPB]at this;simp only[L,QPi];omega
 have hLs:∀k x,v.slots[k]? = some x→L (k+1)=L k++ZN (Xv P n) P o x:=by
  intro k x hx;simp only[L];rw[QQr,hx,List.flatMap_append,QOZ];simp
 rw[←hLn]at q;rw[←hL0]at m7 mS
 clear_value L
 clear hL0 hLn hK
 let I:Nat→St→Prop:=fun d st=>∃f fr k gs,st=⟨f,[fr],[]⟩∧d=v.slots.length-k∧k≤v.slots.length∧f 1=.int .i64 (ti:Nat)∧f 3=.ptr 0 3 0∧f 5=.ptr 0 5 0∧f 6=.ptr 0 6 0∧f 7=.ptr 0 7 0∧f 8=.int .i64 (i:Nat)∧f 9=.ptr 0 9 0∧f 10=.int .i64 (k:Nat)∧fr 3=.cells [.list (P.progs.map Qp),.list (P.enums.map QV)]∧fr 5=.cells (Hs v)∧fr 6=.cells [.int .i64 0,.int .u64 0,.str [],.nils,.nils,.nils,.nils]∧fr 7=.cells [.int .i64 10,.int .u64 0,.str [],.nils,.nils,.vec 0 1100 gs 0 (L k).length false,.list (rw'.map R.av)]∧fr 9=.cells o.cells∧fr 1100=.vec gs 8 ((L k).map V.sav)∧∀s∈[11],(fr s).isRow=false
 refine Qg I _ ⟨f,fr,0,gs,rfl,rfl,QOM _,h1,h3,h5,h6,h7,h8,h9,h10,m3,m5,m6,m7,m9,mS,Yb⟩ ?_;clear h1 h3 h5 h6 h7 h8 h9 h10 m3 m5 m6 m7 m9 mS Yb;rintro _ st ⟨f0,fr0,k,gs,rfl,rfl,hkl,h10,h30,h50,h60,h70,h80,h90,h100,m30,m50,m60,m70,m90,mS0,Yb⟩;refine Q7 (a:=_) [11] Yb ?_;intro f fr hf hm hn11;have h1:f 1=.int .i64 (ti:Nat):=by rw[hf,h10]<;>rfl
 have h3:f 3=.ptr 0 3 0:=by rw[hf,h30]<;>rfl
 have h5:f 5=.ptr 0 5 0:=by rw[hf,h50]<;>rfl
 have h6:f 6=.ptr 0 6 0:=by rw[hf,h60]<;>rfl
 have h7:f 7=.ptr 0 7 0:=by rw[hf,h70]<;>rfl
 have h8:f 8=.int .i64 (i:Nat):=by rw[hf,h80]<;>rfl
 have h9:f 9=.ptr 0 9 0:=by rw[hf,h90]<;>rfl
 have h10':f 10=.int .i64 (k:Nat):=by rw[hf,h100]<;>rfl
 have m3:fr 3=.cells [.list (P.progs.map Qp),.list (P.enums.map QV)]:=by rw[hm 3 (by decide),m30]<;>rfl
 have m5':fr 5=.cells (Hs v):=by rw[hm 5 (by decide),m50]<;>rfl
 have m6:fr 6=.cells [.int .i64 0,.int .u64 0,.str [],.nils,.nils,.nils,.nils]:=by rw[hm 6 (by decide),m60]<;>rfl
 have m7:fr 7=.cells [.int .i64 10,.int .u64 0,.str [],.nils,.nils,.vec 0 1100 gs 0 (L k).length false,.list (rw'.map R.av)]:=by rw[hm 7 (by decide),m70]<;>rfl
 have m9':fr 9=.cells o.cells:=by rw[hm 9 (by decide),m90]<;>rfl
 have mS:fr 1100=.vec gs 8 ((L k).map V.sav):=by rw[hm 1100 (by decide),mS0]<;>rfl
 have n11:=hn11 11 (by decide);clear hf hm hn11 h10 h30 h50 h60 h70 h80 h90 h100 m30 m50 m60 m70 m90 mS0 Yb;have m5:=m5';have m9:=m9';simp only[Hs]at m5;simp only[PO.cells]at m9;simp only[QPz,h5,h10',m5,eE,seval];by_cases hlt:k<v.slots.length
 ·obtain⟨x,hi⟩:∃x,v.slots[k]? = some x:=⟨v.slots[k],QOH hlt⟩;have hx:=QOR hi;have hgs:=Y4 hi;have e1:=Qx k _ hlt (by simp only[maxLen];omega);have hKs:=hLs k x hi;have hKi:=hLl k (by omega);have fin:∀(f':Fr) (fr':Nat→Ob) (gs':Nat),f' 1=.int .i64 (ti:Nat)→f' 3=.ptr 0 3 0→f' 5=.ptr 0 5 0→f' 6=.ptr 0 6 0→f' 7=.ptr 0 7 0→f' 8=.int .i64 (i:Nat)→f' 9=.ptr 0 9 0→f' 10=.int .i64 ((k+1:Nat):Int)→fr' 3=.cells [.list (P.progs.map Qp),.list (P.enums.map QV)]→fr' 5=.cells (Hs v)→fr' 6=.cells [.int .i64 0,.int .u64 0,.str [],.nils,.nils,.nils,.nils]→fr' 7=.cells [.int .i64 10,.int .u64 0,.str [],.nils,.nils,.vec 0 1100 gs' 0 (L (k+1)).length false,.list (rw'.map R.av)]→fr' 9=.cells o.cells→fr' 1100=.vec gs' 8 ((L (k+1)).map V.sav)→(∀s∈[11],(fr' s).isRow=false)→∃d,d<v.slots.length-k∧I d ⟨f',[fr'],[]⟩:=by
   intro f' fr' gs' a1 a3 a5 a6 a7 a8 a9 a10 b3 b5 b6 b7 b9 bS br;exact⟨v.slots.length-(k+1),by omega,f',fr',k+1,gs',rfl,rfl,by omega,a1,a3,a5,a6,a7,a8,a9,a10,b3,b5,b6,b7,b9,bS,br⟩
  cases hne:(x.1==o.num)
  ·have bn:(x.1 != o.num)=true:=by simp[bne,hne]
   unfold ZN at hKs;rw[hne,QOS (by simp),QPI]at hKs;simp only[Qt hlt,Qm,QP7,Qf,hgs,bn,QPn,h5,h9,h10',m5,m9,e1,eE,seval];exact fin _ _ gs (by exact h1) (by exact h3) (by exact h5) (by exact h6) (by exact h7) (by exact h8) (by exact h9) (by rfl) (by exact m3) (by exact m5') (by exact m6) (by rw[hKs];exact(by exact m7)) (by exact m9') (by rw[hKs];exact(by exact mS)) (US (isr (by exact n11)))
  ·have bn:(x.1 != o.num)=false:=by simp[bne,hne]
   unfold ZN at hKs;rw[hne,QO9 rfl]at hKs;unfold ZZ at hKs;have c2:=hw x hx (by simpa using hne);have c3:=QDw (Jj (Xv P n) P o x.2);generalize Jj (Xv P n) P o x.2=z at c2 c3 hKs;rw[e0,Qc x.2,Qc z]at c2;rw[Qc z]at c3;simp only[Qy,PO.cells]at c2;simp only[Qt hlt,Qm,QP7,Qf,hgs,bn,QPd,QPg,QPn,h3,h5,h9,h10',m3,m5,m9,eE,seval];refine Qa c2 rfl rfl rfl (.inl rfl) ?_;simp only[n11,h9,m9,eE,seval];cases hb:decide (o.card<3)
   ·rw[hb,QQo]at hKs;simp only[eE,seval];refine Qa c3 rfl rfl rfl (.inl rfl) ?_;cases hz:z.emp
    ·rw[hz,QO9 (show(!false)=true from rfl)]at hKs;simp only[h7,h9,m7,m9,eE,seval];refine QO (l:=[V.sav (o.num,z)]) rfl rfl rfl (by rw[ZG];rfl) ?_;refine QF (site:=1100) (g:=gs) (n:=(L k).length) (xs:=(L k).map V.sav) (ys:=[V.sav (o.num,z)]) (by rfl) (by exact mS) rfl (by rw[QPz]) rfl (JG [(o.num,z)]) (by simp only[QOT,QPA,maxLen];omega) (by simp only[QOT,QPA];omega) ?_;simp only[h7,h10',m7,e1,eE,seval];exact fin _ _ (gs+1) (by exact h1) (by exact h3) (by exact h5) (by exact h6) (by exact h7) (by exact h8) (by exact h9) (by rfl) (by exact m3) (by exact m5') (by exact m6) (by rw[hKs,QPi];exact(by rfl)) (by exact m9') (by rw[hKs,QQq];exact(by rfl)) (US rfl)
    ·rw[hz,QOS (by simp),QPI]at hKs;simp only[h10',e1,Qb,seval];exact fin _ _ gs (by exact h1) (by exact h3) (by exact h5) (by exact h6) (by exact h7) (by exact h8) (by exact h9) (by rfl) (by exact m3) (by exact m5') (by exact m6) (by rw[hKs];exact(by exact m7)) (by exact m9') (by rw[hKs];exact(by exact mS)) (US rfl)
   ·rw[hb,QQn,QO9 rfl]at hKs;simp only[h7,h9,m7,m9,eE,seval];refine QO (l:=[V.sav (o.num,z)]) rfl rfl rfl (by rw[ZG];rfl) ?_;refine QF (site:=1100) (g:=gs) (n:=(L k).length) (xs:=(L k).map V.sav) (ys:=[V.sav (o.num,z)]) (by rfl) (by exact mS) rfl (by rw[QPz]) rfl (JG [(o.num,z)]) (by simp only[QOT,QPA,maxLen];omega) (by simp only[QOT,QPA];omega) ?_;simp only[h7,h10',m7,e1,eE,seval];exact fin _ _ (gs+1) (by exact h1) (by exact h3) (by exact h5) (by exact h6) (by exact h7) (by exact h8) (by exact h9) (by rfl) (by exact m3) (by exact m5') (by exact m6) (by rw[hKs,QPi];exact(by rfl)) (by exact m9') (by rw[hKs,QQq];exact(by rfl)) (US rfl)
 ·have e:k=v.slots.length:=by omega
  subst e;simp only[QS hlt,Qb,seval];exact q _ _ gs (by exact h1) (by exact h3) (by exact h5) (by exact h6) (by exact h7) (by exact h8) (by exact m3) (by exact m5') (by exact m6) (by exact m7) (by exact mS) (by rw[m9'];rfl) (isr n11)

def NoI (P:PL)(v:V)(K:Nat→List (Int×V))(len:Nat)(t:Nat)(rw':List R)(d:Nat)(st:St):Prop :=
 ∃f fr i gs,st=⟨f,[fr],[]⟩∧d=len-i∧i≤len∧f 1=.int .i64 (t:Nat)∧f 3=.ptr 0 3 0∧f 5=.ptr 0 5 0∧f 6=.ptr 0 6 0∧f 7=.ptr 0 7 0∧f 8=.int .i64 (i:Nat)∧fr 3=.cells [.list (P.progs.map Qp),.list (P.enums.map QV)]∧fr 5=.cells (Hs v)∧fr 6=.cells [.int .i64 0,.int .u64 0,.str [],.nils,.nils,.nils,.nils]∧fr 7=.cells [.int .i64 10,.int .u64 0,.str [],.nils,.nils,.vec 0 1100 gs 0 (K i).length false,.list (rw'.map R.av)]∧fr 1100=.vec gs 8 ((K i).map V.sav)∧∀s∈[11,9],(fr s).isRow=false

section
variable {M:Nat}{P:PL}

set_option maxHeartbeats 2000000 in
theorem v23 (hU:YB P)(hr:ZY P)(hl:∀g∈P.progs,g.ops.length≤64):∀(n:Nat) (t:Int) (g:PG),P.progs[t.toNat]? = some g→0≤t→∀v:V,v.ok M→v.cnt≤1048576→MW P n g v→Qj Tryz.prog 23 [P.av,.int .i64 t,v.av] (Xv P n g v).av:=by
 have e0:P.av=.agg [.list (P.progs.map Qp),.list (P.enums.map QV)]:=rfl;intro n
 induction n with
 |zero=>
  intro t g _ _ v _ _ h;exact h.elim
 |succ n ih=>
  intro t g hgt t0 v hv hc h;have hgm:=QOR hgt;have hu:=hU g hgm;have hd:=hr g hgm;have hg64:=hl g hgm;obtain⟨s1,s2⟩:=h;have hnor:=fun(o:PO) (ho:o∈g.ops) (x:V) (hx:x.ok M) (hxc:x.cnt≤1048576) (he:EW (MW P n) P o x)=>v84 o (hu o ho) (fun t g a b v c d e=>ih t g a b v c d e) x hx hxc he
  have hwit:=fun(o:PO) (ho:o∈g.ops) (x:V) (hx:x.ok M) (hxc:x.cnt≤1048576) (he:FW (MW P n) P o x)=>v45 o (hu o ho) (hnor o ho) x hx hxc he
  have lS:=Xi v;have lR:=Zy v;have cR:=v44 v.raws (by omega);obtain⟨ti,hti⟩:=QQm t0;subst hti;rw[QP7]at hgt;have hga:(P.progs.map Qp)[ti]? = some (.agg g.cells):=by simp[hgt,Qp]
  simp only[PG.cells]at hga;have htl:ti<P.progs.length:=(QOG.1 hgt).1;have d0:decide ((ti:Int)<0)=false:=QQt (by omega);have d1:decide ((ti:Int)≥(P.progs.length:Int))=false:=QQt (by omega);show Qj _ _ _ (V.mk 10 0 [] [] [] (g.ops.flatMap (X7 (Xv P n) P v.slots)) (ZT v.raws)).av;have hfin:g.ops.flatMap (X7 (Xv P n) P v.slots)=g.ops.flatMap fun o=>v.slots.flatMap (ZN (Xv P n) P o):=by
   congr 1
   funext o;exact(BC (Xv P n) P s2).symm
  have hone:∀o,(v.slots.flatMap (ZN (Xv P n) P o)).length≤1:=by
   intro o;have e:v.slots.flatMap (ZN (Xv P n) P o)=X7 (Xv P n) P v.slots o:=BC (Xv P n) P s2;rw[e,WB];split
   ·simp
   ·unfold ZZ;split<;>simp
  rw[hfin];generalize ZT v.raws=RW at *;rw[show v.av=.agg (Hs v)from Qc v];generalize hK:(fun i=>(g.ops.take i).flatMap fun o=>v.slots.flatMap (ZN (Xv P n) P o))=K;have hK0:K 0=[]:=by rw[←hK];simp
  have hKn:(g.ops.flatMap fun o=>v.slots.flatMap (ZN (Xv P n) P o))=K g.ops.length:=by rw[←hK];simp
  have hKl:∀i,i≤g.ops.length→(K i).length≤64:=by
   intro i hi;rw[←hK];have:∀l:List PO,(l.flatMap fun o=>v.slots.flatMap (ZN (Xv P n) P o)).length≤l.length:=by
    intro l
    induction l with
    |nil=>exact QOE _
    |cons o l ih=>
     have:=hone o;rw[QP9,QPi,QOT];omega
   have h2:=this (g.ops.take i);rw[QPB]at h2;show((g.ops.take i).flatMap _).length≤64;omega
  have hKs:∀i o,g.ops[i]? = some o→K (i+1)=K i++v.slots.flatMap (ZN (Xv P n) P o):=by
   intro i o ho;rw[←hK];show(g.ops.take (i+1)).flatMap _=(g.ops.take i).flatMap _++_;rw[QQr,ho,List.flatMap_append];simp
  rw[hKn,show(V.mk 10 0 [] [] [] (K g.ops.length) RW).av=.agg [.int .i64 10,.int .u64 0,.str [],.list [],.list [],.list ((K g.ops.length).map V.sav),.list (RW.map R.av)]from Qc _];clear hKn hfin hone;refine k23.fn (by simp) ?_;simp only[e0,Hs,d0,d1,QPz,eE,seval];refine Qa cR rfl rfl rfl (.inl rfl) ?_;simp only[eE,seval];refine Jy (by simp only[Qb,seval]<;>rfl) rfl (by simp only[Qb,seval]<;>rfl) rfl ?_;simp only[List.set,Qb,seval];refine Qg (NoI P v K g.ops.length ti RW) _ ⟨_,_,0,_,rfl,rfl,QOM _,(by rfl),(by rfl),(by rfl),(by rfl),(by rfl),(by rfl),(by rfl),(by rfl),(by rfl),(by rw[hK0];exact(by rfl)),(by rw[hK0];exact(by rfl)),Rh rfl rfl⟩ ?_;rintro _ st ⟨f0,fr0,i,gs,rfl,rfl,hil,h10,h30,h50,h60,h70,h80,m30,m50,m60,m70,mS0,Yb⟩;refine Q7 (a:=_) [11,9] Yb ?_;intro f fr hf hm hn11;have h1:f 1=.int .i64 (ti:Nat):=by rw[hf,h10]<;>rfl
  have h3:f 3=.ptr 0 3 0:=by rw[hf,h30]<;>rfl
  have h5:f 5=.ptr 0 5 0:=by rw[hf,h50]<;>rfl
  have h6:f 6=.ptr 0 6 0:=by rw[hf,h60]<;>rfl
  have h7:f 7=.ptr 0 7 0:=by rw[hf,h70]<;>rfl
  have h8:f 8=.int .i64 (i:Nat):=by rw[hf,h80]<;>rfl
  have m3:fr 3=.cells [.list (P.progs.map Qp),.list (P.enums.map QV)]:=by rw[hm 3 (by decide),m30]<;>rfl
  have m5:fr 5=.cells (Hs v):=by rw[hm 5 (by decide),m50]<;>rfl
  have m6:fr 6=.cells [.int .i64 0,.int .u64 0,.str [],.nils,.nils,.nils,.nils]:=by rw[hm 6 (by decide),m60]<;>rfl
  have m7:fr 7=.cells [.int .i64 10,.int .u64 0,.str [],.nils,.nils,.vec 0 1100 gs 0 (K i).length false,.list (RW.map R.av)]:=by rw[hm 7 (by decide),m70]<;>rfl
  have mS:fr 1100=.vec gs 8 ((K i).map V.sav):=by rw[hm 1100 (by decide),mS0]<;>rfl
  have n11:=hn11 11 (by decide);have n9:=hn11 9 (by decide);clear hf hm hn11 h10 h30 h50 h60 h70 h80 m30 m50 m60 m70 mS0 Yb;simp only[Qm,QP7,Qf,hga,QPz,QPg,QPn,h1,h3,h8,m3,eE,seval];by_cases hlt:i<g.ops.length
  ·obtain⟨o,hi⟩:∃o,g.ops[i]? = some o:=⟨g.ops[i],QOH hlt⟩;have hom:=QOR hi;have hgo:(g.ops.map fun o=>AV.agg o.cells)[i]? = some (.agg o.cells):=by simp[hi]
   simp only[PO.cells]at hgo;have e1:=Qx i _ hlt (by simp only[maxLen];omega);have hKi:=hKl i (by omega);have hKs':=hKs i o hi;simp only[Qt hlt,Qm,QP7,Qf,hga,PO.cells,hgo,n9,h1,h3,h8,m3,eE,seval];refine Sz (P:=P) (v:=v) (o:=o) (n:=n) (ti:=ti) (i:=i) (K i) hKi (by omega) RW (fun x hx hxn=>by
    obtain⟨o',ho',hf'⟩:=s1 x hx;rw[hxn,WV hd hom]at ho';cases ho';exact hwit o hom x.2 (hv.slots x hx) (QOF (JH hx) hc) hf') _ _ gs (by exact h1) (by exact h3) (by exact h5) (by exact h6) (by exact h7) (by exact h8) (by rfl) (by rfl) (by exact m3) (by exact m5) (by exact m6) (by exact m7) (by rfl) (by exact mS) (US (isr (by exact n11))) _ ?_
   clear h1 h3 h5 h6 h7 h8 m3 m5 m6 m7 mS n11 n9;intro f fr gs h1 h3 h5 h6 h7 h8 m3 m5 m6 m7 mS n9 n11;rw[←hKs']at m7 mS;simp only[h8,e1,Qb,seval];exact⟨g.ops.length-(i+1),by omega,_,_,i+1,gs,rfl,rfl,by omega,(by exact h1),(by exact h3),(by exact h5),(by exact h6),(by exact h7),(by rfl),m3,m5,m6,m7,mS,Rh n11 n9⟩
  ·have e:i=g.ops.length:=by omega
   subst e;simp only[QS hlt,h6,h7,m6,m7,eE,seval];simp[AV.un,AV.unL,Zv,XH,mS,QPe]

end
open Vp Cp

def XM (s:List UInt8)(P:PL):Int:=Zx (fun g:PG=>g.name==s) P.progs 0
theorem UT (s:List UInt8)(P:PL):XM s P = -1∨(0≤XM s P∧XM s P<(P.progs.length:Int)):=by
 unfold XM;rcases YT (fun g:PG=>g.name==s) P.progs 0 with⟨h,_⟩|⟨k,o,h,h1,_⟩
 ·exact .inl h
 ·have:=(QOG.1 h1).1;exact .inr ⟨by rw[h];omega,by rw[h];omega⟩

def Z8 (P:PL)(N:Nat)(s:List UInt8)(b:V)(d:List UInt8)(l:L):V×Nat :=
 if XM s P<0 then(Qs 0 0 [],10)
 else if b.kd≠10 then(Qs 0 0 [],12)
 else if (opn d l).2≠0 then(Qs 0 0 [],(opn d l).2)
 else if l.dp<1 then(Qs 0 0 [],17)
 else match JE ⟨d,0,d.length,l.dp-1,l.nd,l.tx⟩ 1 with
  |.error e=>(Qs 0 0 [],e)
  |.ok c=>match WX P N (XM s P) b c with
   |.error e=>(Qs 0 0 [],e)
   |.ok (v,_)=>(Xv P N (QE P (XM s P)) v,0)
def ov (r:V×Nat):AV:=.tup [r.1.av,.int .i64 (r.2:Nat)]

theorem Ng {d:List UInt8}{l:L}(h:(opn d l).2=0):opn d l=(⟨d,0,d.length,l.dp,l.nd,l.tx⟩,0)∧0≤l.dp∧0≤l.nd:=by
 unfold opn at h ⊢;split at h
 ·cases h
 ·split at h
  ·cases h
  ·rename_i h1 h2;rw[QOS h1,QOS h2];exact⟨rfl,by omega,by omega⟩
theorem Nh {d:List UInt8}{l:L}(hd:d.length≤3000)(h1:1≤l.dp∧l.dp<9223372036854775808)(h2:0≤l.nd∧l.nd<9223372036854775808):CI ⟨d,0,d.length,l.dp-1,l.nd,l.tx⟩ :=
 ⟨hd,by unfold C.sound;simp,h2,by dsimp only;omega⟩

section
variable {M N:Nat}(hM:3000≤M)(P:PL)(hP:P.ok M)(hc:ck P=0)(hN:3000<N)(s:List UInt8)(b:V)(d:List UInt8)(l:L)(hd:d.length≤3000)(hl1:l.dp<9223372036854775808)(hl2:l.nd<9223372036854775808)
 (hbm:b.kd=10→0≤XM s P→MW P N (QE P (XM s P)) b) (hbo:b.ok M) (hbc:b.cnt≤900000)

include hM hP hc hN hd hl1 hl2 hbm hbo hbc in
theorem VE (h:(Z8 P N s b d l).2=0):(0≤XM s P∧XM s P<(P.progs.length:Int))∧∃w,MW P N (QE P (XM s P)) w∧w.ok M∧(w.cnt:Int)≤b.cnt+3*d.length∧(Z8 P N s b d l).1=Xv P N (QE P (XM s P)) w:=by
 unfold Z8 at h ⊢;rcases UT s P with hx|hx
 ·rw[QO9 (by omega)]at h;cases h
 rw[QOS (by omega)]at h ⊢;by_cases hk:b.kd=10
 case neg=>rw[QO9 hk]at h;cases h
 rw[QOS (by simp[hk])]at h ⊢;by_cases ho:(opn d l).2=0
 case neg=>rw[QO9 ho]at h;exact absurd h ho
 rw[QOS (by simp[ho])]at h ⊢;obtain⟨_,o1,o2⟩:=Ng ho;by_cases hdp:l.dp<1
 ·rw[QO9 hdp]at h;cases h
 rw[QOS hdp]at h ⊢;have hci:=Nh (l:=l) hd ⟨by omega,hl1⟩ ⟨o2,hl2⟩;have hlf:=hci.lf;dsimp only at hlf;generalize (⟨d,0,d.length,l.dp-1,l.nd,l.tx⟩:C)=c0 at h hci hlf ⊢;cases hs:JE c0 1 with
 |error e=>
  rw[hs]at h;exact absurd h (C5 hs)
 |ok c=>
  rw[hs]at h;dsimp only at h ⊢;obtain⟨s1,s2⟩:=XW hci (by omega) hs;have hcc:=s1.ci hci;have hls:=(s1.left hci).2.2;cases hr:WX P N (XM s P) b c with
  |error e=>
   rw[hr]at h;exact absurd h (Nc P N _ _ _ _ hr)
  |ok p=>
   obtain⟨w,c2⟩:=p;obtain⟨q1,q2,q3,q4⟩:=WJ (K:=1000000) hM (QOE _) hP (GA hc) (JL hc) N (XM s P) b c hcc (by omega) hx (hbm hk hx.1) hbo (by omega) w c2 hr;have hb2:=(q1.ci hcc).bd;exact⟨hx,w,q2,q3,by omega,rfl⟩

include hM hP hc hN hd hl1 hl2 hbm hbo hbc in
theorem j12:Qj Tryz.prog 12 [P.av,.str s,b.av,.str d,l.av] (ov (Z8 P N s b d l)):=by
 have hU:=GA hc;have hr:=JL hc;have hln:P.progs.length≤maxLen:=hP.len1;have hfi:=y14 P hln s;have hop:=c24 d l;have z0:(Qs 0 0 []).av=.agg [.int .i64 0,.int .u64 0,.str [],.list [],.list [],.list [],.list []]:=Qc _;unfold Bm at hfi;rw[show Zx (fun g:PG=>g.name==s) P.progs 0=XM s P from rfl]at hfi;rw[show P.av=.agg (QX P)from rfl]at hfi;unfold Z8;rw[show P.av=.agg (QX P)from rfl,Qc b];simp only[QX]at hfi;rcases UT s P with hx|hx
 ·have d1:decide (XM s P≥0)=false:=QQt (by omega);rw[d1]at hfi;rw[QO9 (by omega)];refine NU.fn (by simp) ?_;simp only[QX,L.av,eE,seval];refine Qa hfi rfl rfl rfl (.inl rfl) ?_;simp only[ov,z0,eE,seval]<;>rfl
 have d1:decide (XM s P≥0)=true:=QQx (by omega);rw[d1,QOS (by omega:¬XM s P<0)]at hfi;rw[QOS (by omega)];by_cases hk:b.kd=10
 case neg=>
  have b1:(b.kd != 10)=true:=by simp[hk]
  rw[QO9 hk];refine NU.fn (by simp) ?_;simp only[QX,L.av,eE,seval];refine Qa hfi rfl rfl rfl (.inl rfl) ?_;simp only[b1,ov,z0,eE,seval]<;>rfl
 have b1:(b.kd != 10)=false:=by simp[hk]
 rw[QOS (by simp[hk])];by_cases ho:(opn d l).2=0
 case neg=>
  rw[QO9 ho];generalize opn d l=q at hop ho ⊢;obtain⟨c,e⟩:=q;dsimp only at ho ⊢;simp only[Z6,C.av,L.av]at hop;refine NU.fn (by simp) ?_;simp only[QX,L.av,eE,seval];refine Qa hfi rfl rfl rfl (.inl rfl) ?_;simp only[b1,eE,seval];refine Qa hop rfl rfl rfl (.inl rfl) ?_;simp only[Qr ho,ov,z0,eE,seval]
 rw[QOS (by simp[ho])];obtain⟨oe,o1,o2⟩:=Ng ho;rw[oe]at hop;simp only[Z6,C.av,L.av]at hop;by_cases hdp:l.dp<1
 ·have b2:decide (l.dp<1)=true:=QQx hdp;rw[QO9 hdp];refine NU.fn (by simp) ?_;simp only[QX,L.av,eE,seval];refine Qa hfi rfl rfl rfl (.inl rfl) ?_;simp only[b1,eE,seval];refine Qa hop rfl rfl rfl (.inl rfl) ?_;simp only[b2,ov,z0,eE,seval]<;>rfl
 have b2:decide (l.dp<1)=false:=QQt hdp;have w1:IntKind.i64.wrap (l.dp-1)=l.dp-1:=by rw[QA];omega
 rw[QOS hdp];have hci:=Nh (l:=l) hd ⟨by omega,hl1⟩ ⟨o2,hl2⟩;have hlf:=hci.lf;dsimp only at hlf;have hrob:∀c:C,Q1 P c=.cells [.list (P.progs.map Qp),.list (P.enums.map QV),.str c.d,.int .i64 c.a,.int .i64 c.e,.int .i64 c.dp,.int .i64 c.nd,.int .i64 c.tx]:=fun _=>rfl
 have p0:∀(fr:Nat→Ob) (o:Ob),Am.put [fr] 0 52 o=[QG fr 52 o]:=fun _ _=>rfl
 refine NU.fn (by simp) ?_;simp only[QX,L.av,eE,seval];refine Qa hfi rfl rfl rfl (.inl rfl) ?_;simp only[b1,eE,seval];refine Qa hop rfl rfl rfl (.inl rfl) ?_;simp only[b2,w1,eE,seval];refine QH (B4 P ⟨d,0,d.length,l.dp-1,l.nd,l.tx⟩ 0 52 _ (by rfl) 1) (by simp only[QPc,QPG,Qb,seval]) ?_;rintro x m1 ⟨rfl,rfl⟩ _;generalize (⟨d,0,d.length,l.dp-1,l.nd,l.tx⟩:C)=c0 at hci hlf ⊢;rcases Ze c0 1 with⟨c,h2,h2'⟩|⟨e,he,h2,h2'⟩
 case inr=>
  rw[h2,h2'];simp only[p0,Qr he,ov,z0,eE,seval]
 rw[h2,h2'];obtain⟨s1,s2⟩:=XW hci (by omega) h2;have hcc:=s1.ci hci;have hls:=(s1.left hci).2.2;dsimp only;simp only[p0,eE,seval];have hrc:=fun(m:Qh) (hm:0<m.length) (h:Am.Qd m 0 52=Q1 P c)=>Qs8 (K:=1000000) hM (QOE _) hP hU hr N 0 52 m (XM s P) b c hm h hcc (by omega) hx (hbm hk hx.1) hbo (by omega)
 have hro:=WJ (K:=1000000) hM (QOE _) hP hU hr N (XM s P) b c hcc (by omega) hx (hbm hk hx.1) hbo (by omega);rw[Qc b]at hrc;refine QH (hrc _ (by simp) (by rfl)) (by simp only[QPc,QPG,Qb,seval]) ?_;intro x m1 hx1 _;cases hr2:WX P N (XM s P) b c with
 |error e=>
  rw[hr2]at hx1;obtain⟨he,w,c',rfl,rfl⟩:=hx1;dsimp only;simp only[p0,Qr he,Qc w,ov,z0,eE,seval]
 |ok p=>
  obtain⟨w,c2⟩:=p;rw[hr2]at hx1;obtain⟨rfl,rfl⟩:=hx1;obtain⟨q1,q2,q3,q4⟩:=hro w c2 hr2;have hb2:=(q1.ci hcc).bd;have hnm:=v27 hP hU hr (Sr hc) N (XM s P) _ (KI hx).2 hx.1 w q3 (by omega) q2;dsimp only;generalize Xv P N (QE P (XM s P)) w=u at hnm ⊢;rw[show P.av=.agg (QX P)from rfl,Qc w,Qc u]at hnm;simp only[QX]at hnm;simp only[p0,Qc w,eE,seval];refine Qa hnm rfl rfl rfl (.inl rfl) ?_;simp only[ov,Qc u,eE,seval]<;>rfl

end

section
variable {M N:Nat}(hM:3000≤M)(P:PL)(hP:P.ok M)(hc:ck P=0)(hN:3000<N)(s:List UInt8)(b:V)(d:List UInt8)(l:L)(hd:d.length≤3000)(hl1:l.dp<9223372036854775808)(hl2:l.nd<9223372036854775808)
 (hbm:b.kd=10→0≤XM s P→MW P N (QE P (XM s P)) b) (hbo:b.ok M) (hbc:b.cnt≤900000)

include hM hP hc hN hd hl1 hl2 hbm hbo hbc in
theorem j10:Qj Tryz.prog 10 [P.av,.str s,b.av,.str d,l.av] (ov (Z8 P N s b d l)):=by
 have hU:=GA hc;have hr:=JL hc;have hln:P.progs.length≤maxLen:=hP.len1;have hfi:=y16 P hln s;have hop:=c20 d l;have z0:(Qs 0 0 []).av=.agg [.int .i64 0,.int .u64 0,.str [],.list [],.list [],.list [],.list []]:=Qc _;unfold Bm at hfi;rw[show Zx (fun g:PG=>g.name==s) P.progs 0=XM s P from rfl]at hfi;rw[show P.av=.agg (QX P)from rfl]at hfi;unfold Z8;rw[show P.av=.agg (QX P)from rfl,Qc b];simp only[QX]at hfi;rcases UT s P with hx|hx
 ·have d1:decide (XM s P≥0)=false:=QQt (by omega);rw[d1]at hfi;rw[QO9 (by omega)];refine Pk.fn (by simp) ?_;simp only[QX,L.av,eE,seval];refine Qa hfi rfl rfl rfl (.inl rfl) ?_;simp only[ov,z0,eE,seval]<;>rfl
 have d1:decide (XM s P≥0)=true:=QQx (by omega);rw[d1,QOS (by omega:¬XM s P<0)]at hfi;rw[QOS (by omega)];by_cases hk:b.kd=10
 case neg=>
  have b1:(b.kd != 10)=true:=by simp[hk]
  rw[QO9 hk];refine Pk.fn (by simp) ?_;simp only[QX,L.av,eE,seval];refine Qa hfi rfl rfl rfl (.inl rfl) ?_;simp only[b1,ov,z0,eE,seval]<;>rfl
 have b1:(b.kd != 10)=false:=by simp[hk]
 rw[QOS (by simp[hk])];by_cases ho:(opn d l).2=0
 case neg=>
  rw[QO9 ho];generalize opn d l=q at hop ho ⊢;obtain⟨c,e⟩:=q;dsimp only at ho ⊢;simp only[Z6,C.av,L.av]at hop;refine Pk.fn (by simp) ?_;simp only[QX,L.av,eE,seval];refine Qa hfi rfl rfl rfl (.inl rfl) ?_;simp only[b1,eE,seval];refine Qa hop rfl rfl rfl (.inl rfl) ?_;simp only[Qr ho,ov,z0,eE,seval]
 rw[QOS (by simp[ho])];obtain⟨oe,o1,o2⟩:=Ng ho;rw[oe]at hop;simp only[Z6,C.av,L.av]at hop;by_cases hdp:l.dp<1
 ·have b2:decide (l.dp<1)=true:=QQx hdp;rw[QO9 hdp];refine Pk.fn (by simp) ?_;simp only[QX,L.av,eE,seval];refine Qa hfi rfl rfl rfl (.inl rfl) ?_;simp only[b1,eE,seval];refine Qa hop rfl rfl rfl (.inl rfl) ?_;simp only[b2,ov,z0,eE,seval]<;>rfl
 have b2:decide (l.dp<1)=false:=QQt hdp;have w1:IntKind.i64.wrap (l.dp-1)=l.dp-1:=by rw[QA];omega
 rw[QOS hdp];have hci:=Nh (l:=l) hd ⟨by omega,hl1⟩ ⟨o2,hl2⟩;have hlf:=hci.lf;have hsp:=DY ⟨d,0,d.length,l.dp-1,l.nd,l.tx⟩ 1;dsimp only at hlf;simp only[Z6,C.av]at hsp;refine Pk.fn (by simp) ?_;simp only[QX,L.av,eE,seval];refine Qa hfi rfl rfl rfl (.inl rfl) ?_;simp only[b1,eE,seval];refine Qa hop rfl rfl rfl (.inl rfl) ?_;simp only[b2,w1,eE,seval];refine Qa hsp rfl rfl rfl (.inl rfl) ?_;generalize (⟨d,0,d.length,l.dp-1,l.nd,l.tx⟩:C)=c0 at hci hlf ⊢;rcases Ze c0 1 with⟨c,h2,h2'⟩|⟨e,he,h2,h2'⟩
 case inr=>
  rw[h2,h2'];simp only[Qr he,ov,z0,eE,seval]
 rw[h2,h2'];obtain⟨s1,s2⟩:=XW hci (by omega) h2;have hcc:=s1.ci hci;have hls:=(s1.left hci).2.2;have hms:=Qta (K:=1000000) hM (QOE _) hP hU hr (Qs9 hc) N (XM s P) b c hcc (by omega) hx (hbm hk hx.1) hbo (by omega);have hro:=WJ (K:=1000000) hM (QOE _) hP hU hr N (XM s P) b c hcc (by omega) hx (hbm hk hx.1) hbo (by omega);rw[show P.av=.agg (QX P)from rfl,Qc b]at hms;simp only[QX,C.av]at hms;dsimp only;simp only[eE,seval];refine JQ hms rfl rfl (fun x hx=>?_) (fun x hx1=>?_)
 ·cases hr2:WX P N (XM s P) b c with
  |error e=>
   rw[hr2]at hx;obtain⟨_,w,d2,rfl⟩:=hx;simp only[xv,Qc w,C.av];exact⟨rfl,.inl rfl⟩
  |ok p=>
   obtain⟨w,d2⟩:=p;rw[hr2]at hx;cases hx;simp only[xv,Qc w,C.av];exact⟨rfl,.inl rfl⟩
 cases hr2:WX P N (XM s P) b c with
 |error e=>
  rw[hr2]at hx1;obtain⟨he,w,c',rfl⟩:=hx1;simp only[Qr he,xv,Qc w,C.av,ov,z0,eE,seval]
 |ok p=>
  obtain⟨w,c2⟩:=p;rw[hr2]at hx1;cases hx1;obtain⟨q1,q2,q3,q4⟩:=hro w c2 hr2;have hb2:=(q1.ci hcc).bd;have hnm:=v23 hU hr (Rf hc) N (XM s P) _ (KI hx).2 hx.1 w q3 (by omega) q2;dsimp only;generalize Xv P N (QE P (XM s P)) w=u at hnm ⊢;rw[show P.av=.agg (QX P)from rfl,Qc w,Qc u]at hnm;simp only[QX]at hnm;simp only[xv,Qc w,C.av,eE,seval];refine Qa hnm rfl rfl rfl (.inl rfl) ?_;simp only[ov,Qc u,eE,seval]<;>rfl
end

section
variable {M N:Nat}(hM:3000≤M)(P:PL)(hP:P.ok M)(hc:ck P=0)(hN:3000<N)(s:List UInt8)(d:List UInt8)(l:L)(hd:d.length≤3000)(hl1:l.dp<9223372036854775808)(hl2:l.nd<9223372036854775808)

end
end Go.Proofs.YtfgchfdkiomfpaaGreat.Va

namespace Go.Proofs.YtfgchfdkiomfpaaGreat.Va
open Go Am Rc Bt Br

structure Fi (P:PL)(c:Nat)(B:List Bool)(a:Bool)(f:Fr)(fr:Nat→Ob):Prop where
 h1:f 1=.ptr 0 1 0
 m1:fr 1=.cells (Pc P)
 h3:f 3=.vec 0 12 1 0 P.progs.length false
 m12:fr 12=.vec 1 1 (B.map AV.bool)
 h4:f 4=.bool a
 h19:f 19=.int .i64 (P.progs.length:Nat)
 h20:f 20=.int .i64 (c:Nat)
 r8:∀s∈[8],(fr s).isRow=false

theorem Fi.drop {P:PL}{c:Nat}{B:List Bool}{a:Bool}{f f':Fr}{fr fr':Nat→Ob}(h:Fi P c B a f fr)(hf:∀i,f' i=V3 [8] (f i))(hm:∀i,i∉[8]→fr' i=Gm [8] (fr i))(hn:∀i∈[8],fr' i=.none):Fi P c B a f' fr' where
 h1:=by rw[hf,h.h1]<;>rfl
 m1:=by rw[hm 1 (by decide),h.m1]<;>rfl
 h3:=by rw[hf,h.h3]<;>rfl
 m12:=by rw[hm 12 (by decide),h.m12]<;>rfl
 h4:=by rw[hf,h.h4]<;>rfl
 h19:=by rw[hf,h.h19]<;>rfl
 h20:=by rw[hf,h.h20]<;>rfl
 r8:=fun s hs=>by rw[hn s hs]<;>rfl

section
variable {M:Nat}(P:PL)(hP:P.ok M)(hl:P.progs.length≤64)(hT:TI P)(c:Nat)(B:List Bool)(hB:B.length=P.progs.length)(a:Bool)
include hP hT hB

theorem QKF (i:Nat)(g:PG)(hg:P.progs[i]? = some g)(f:Fr)(fr:Nat→Ob)(H:Fi P c B a f fr)(h5:f 5=.int .i64 (i:Nat))(h6:f 6=.bool true)(h7:f 7=.int .i64 0)(Q:Exit→St→Prop)
  (hx:∀f fr,Fi P c B a f fr→f 5=.int .i64 (i:Nat)→f 6=.bool (!g.ops.any (Jf B))→Q (.exit 4) (⟨f,[fr],[]⟩:St)):QJ Tryz.prog (.loop S2) ⟨f,[fr],[]⟩ Q:=by
 let I:Nat→St→Prop:=fun k st=>∃f fr j,st=⟨f,[fr],[]⟩∧k=g.ops.length-j∧j≤g.ops.length∧Fi P c B a f fr∧f 5=.int .i64 (i:Nat)∧f 6=.bool (!(g.ops.take j).any (Jf B))∧f 7=.int .i64 (j:Nat)
 have hgm:(P.progs.map Qp)[i]? = some (.agg g.cells):=by simp[hg,Qp]
 have hgo:=hP.progs g (QOR hg);refine Qg I _ ⟨f,fr,0,rfl,rfl,QOM _,H,h5,by rw[h6];simp,h7⟩ ?_;clear H h5 h6 h7;simp only[PG.cells]at hgm;rintro _ st ⟨f0,fr0,j,rfl,rfl,hj,H0,h50,h60,h70⟩;refine Q7 (a:=_) [8] H0.r8 ?_;intro f fr hf hm hn;have H:=H0.drop hf hm hn;have h5:f 5=.int .i64 (i:Nat):=by rw[hf,h50]<;>rfl
 have h6:f 6=.bool (!(g.ops.take j).any (Jf B)):=by rw[hf,h60]<;>rfl
 have h7:f 7=.int .i64 (j:Nat):=by rw[hf,h70]<;>rfl
 have n8:=hn 8 (by decide);clear hf hm hn H0 h50 h60 h70;obtain⟨h1,m1,h3,m12,h4,h19,h20,r8⟩:=id H;simp only[Pc]at m1;simp only[Qm,QP7,Qf,hgm,QPz,h1,m1,h5,h7,eE,seval];by_cases hlt:j<g.ops.length
 ·obtain⟨o,ho⟩:∃o,g.ops[j]? = some o:=⟨g.ops[j],QOH hlt⟩;have hom:(g.ops.map fun o=>AV.agg o.cells)[j]? = some (.agg o.cells):=by simp[ho]
  have e1:=Qx j _ hlt hgo.len;have htg:=hT g (QOR hg) o (QOR ho);have ht:=RX (q:=Jf B) ho;have fin2:∀(f':Fr) (fr':Nat→Ob) (v:Bool),(!(g.ops.take j).any (Jf B) && !Jf B o)=v→Fi P c B a f' fr'→f' 5=.int .i64 (i:Nat)→f' 6=.bool v→f' 7=.int .i64 ((j+1:Nat):Int)→∃k,k<g.ops.length-j∧I k ⟨f',[fr'],[]⟩:=by
   intro f' fr' v hv b1 b2 b3 b4;exact⟨g.ops.length-(j+1),by omega,f',fr',j+1,rfl,rfl,by omega,b1,b2,by rw[b3,ht,Bool.not_or,hv],b4⟩
  simp only[PO.cells]at hom;have m1':fr 1=.cells (Pc P):=by rw[m1]<;>rfl
  cases hb : !(g.ops.take j).any (Jf B)
  ·rw[hb]at fin2 h6;simp only[QQa]at fin2;simp only[Qt hlt,Qm,QP7,Qf,hgm,hom,PO.cells,n8,h1,m1,h5,h6,h7,e1,eE,seval];exact fin2 _ _ _ rfl ⟨(by exact h1),(by exact m1'),(by exact h3),(by exact m12),(by exact h4),(by exact h19),(by exact h20),by simp<;>rfl⟩ (by exact h5) (by rfl) (by rfl)
  rw[hb]at fin2 h6;simp only[QQk]at fin2;cases c1:(o.card==1)
  ·have c1':(o.card != 1)=true:=by rw[bne,c1];rfl
   have hne:(!Jf B o)=true:=by unfold Jf;rw[c1];rfl
   rw[hne]at fin2;simp only[Qt hlt,Qm,QP7,Qf,hgm,hom,PO.cells,n8,c1',h1,m1,h5,h6,h7,e1,eE,seval];exact fin2 _ _ _ rfl ⟨(by exact h1),(by exact m1'),(by exact h3),(by exact m12),(by exact h4),(by exact h19),(by exact h20),by simp<;>rfl⟩ (by exact h5) (by rfl) (by rfl)
  have c1':(o.card != 1)=false:=by rw[bne,c1];rfl
  cases c2:(o.kind==10)
  ·have c2':(o.kind != 10)=true:=by rw[bne,c2];rfl
   have hne:(!Jf B o)=true:=by unfold Jf;rw[c1,c2];rfl
   rw[hne]at fin2;simp only[Qt hlt,Qm,QP7,Qf,hgm,hom,PO.cells,n8,c1',c2',h1,m1,h5,h6,h7,e1,eE,seval];exact fin2 _ _ _ rfl ⟨(by exact h1),(by exact m1'),(by exact h3),(by exact m12),(by exact h4),(by exact h19),(by exact h20),by simp<;>rfl⟩ (by exact h5) (by rfl) (by rfl)
  have c2':(o.kind != 10)=false:=by rw[bne,c2];rfl
  obtain⟨t1,t2⟩:=htg (by simpa using c2);obtain⟨t,hte⟩:=QQm t1;obtain⟨y,hy⟩:∃y,B[t]? = some y:=⟨B[t]'(by omega),QOH (by omega)⟩;have hym:(B.map AV.bool)[t]? = some (.bool y):=by simp[hy]
  have hlt2:(t<P.progs.length)=True:=eq_true (by omega);have hne:(!Jf B o)=y:=by unfold Jf;rw[c1,c2,hte,QP7,hy];cases y<;>rfl
  rw[hne]at fin2;simp only[Qt hlt,Qm,QP7,Qf,hgm,hom,PO.cells,n8,c1',c2',hte,hym,hlt2,m12,QPm,h1,m1,h3,h5,h6,h7,e1,eE,seval];exact fin2 _ _ _ rfl ⟨(by exact h1),(by exact m1'),(by exact h3),(by exact m12),(by exact h4),(by exact h19),(by exact h20),by simp<;>rfl⟩ (by exact h5) (by rfl) (by rfl)
 ·have hf:(g.ops.take j).any (Jf B)=g.ops.any (Jf B):=by rw[QPe (by omega)]
  rw[hf]at h6;simp only[QS hlt,Qb,seval];refine hx _ _ ⟨(by exact h1),by rw[m1]<;>rfl,(by exact h3),(by exact m12),(by exact h4),(by exact h19),(by exact h20),r8⟩ (by exact h5) (by exact h6)

end

theorem SA {B:List Bool}{i:Nat}(h:i<B.length)(v:Bool):((B.set i v).take (i+1)).all id=((B.take i).all id&&v):=by
 have h1:(B.set i v)[i]? = some v:=List.getElem?_set_self h;rw[Xj h1,List.take_set_of_le (QOE _)];rfl

section
variable {M:Nat}(P:PL)(hP:P.ok M)(hl:P.progs.length≤64)(hT:TI P)(c:Nat)
include hP hl hT

theorem QKG (f:Fr)(fr:Nat→Ob)(H:Fi P c (Qe P.progs c) true f fr)(h5:f 5=.int .i64 0)(Q:Exit→St→Prop)(hx:∀f fr,Fi P c (Qe P.progs (c+1)) ((Qe P.progs (c+1)).all id) f fr→Q (.exit 2) (⟨f,[fr],[]⟩:St)):QJ Tryz.prog (.loop S3) ⟨f,[fr],[]⟩ Q:=by
 let I:Nat→St→Prop:=fun k st=>∃f fr i,st=⟨f,[fr],[]⟩∧k=P.progs.length-i∧i≤P.progs.length∧Fi P c (Ws P.progs (Qe P.progs c) i) (((Ws P.progs (Qe P.progs c) i).take i).all id) f fr∧f 5=.int .i64 (i:Nat)
 refine Qg I _ ⟨f,fr,0,rfl,rfl,QOM _,H,h5⟩ ?_;clear H h5;rintro _ st ⟨f0,fr0,i,rfl,rfl,hi,H0,h50⟩;refine Q7 (a:=_) [8] H0.r8 ?_;intro f fr hf hm hn;have H:=H0.drop hf hm hn;have h5:f 5=.int .i64 (i:Nat):=by rw[hf,h50]<;>rfl
 clear hf hm hn H0 h50;have hBl:(Ws P.progs (Qe P.progs c) i).length=P.progs.length:=by rw[Dr,N9]
 obtain⟨h1,m1,h3,m12,h4,h19,h20,r8⟩:=id H;have m1':=m1;simp only[Pc]at m1;simp only[QPz,h1,m1,h5,eE,seval];by_cases hlt:i<P.progs.length
 ·obtain⟨g,hg⟩:∃g,P.progs[i]? = some g:=⟨P.progs[i],QOH hlt⟩;have e1:=Qx i _ hlt (by simp only[maxLen];omega);have hst:Ws P.progs (Qe P.progs c) (i+1)=(Ws P.progs (Qe P.progs c) i).set i (!g.ops.any (Jf (Ws P.progs (Qe P.progs c) i))):=by
   rw[Ws]
   conv=>lhs;unfold TH
   rw[hg]
  have htk:=SA (B:=Ws P.progs (Qe P.progs c) i) (i:=i) (by omega) (!g.ops.any (Jf (Ws P.progs (Qe P.progs c) i)));rw[←hst]at htk;simp only[Qt hlt,Qb,seval];refine QKF P hP hT c _ hBl _ i g hg _ fr ⟨(by exact h1),m1',(by exact h3),m12,(by exact h4),(by exact h19),(by exact h20),r8⟩ (by exact h5) (by rfl) (by rfl) _ (fun f fr H h5 h6=>?_);generalize hBB:Ws P.progs (Qe P.progs c) i=B at *;generalize hv:(!g.ops.any (Jf B))=v at *;obtain⟨h1,m1,h3,m12,h4,h19,h20,r8⟩:=H;obtain⟨y,hy⟩:∃y,B[i]? = some y:=⟨B[i]'(by omega),QOH (by omega)⟩;have hym:(B.map AV.bool)[i]? = some (.bool y):=by simp[hy]
  have ia:Qf [fr] 1 none (.vec 0 12 1 0 P.progs.length false) (i:Int)=some (.vptr 0 12 1 i 0):=by
   have e:Am.Qd [fr] 0 12=.vec 1 1 (B.map AV.bool):=m12;simp only[Qf,e,Qm,if_true,QP7];simp;omega
  have ist:Q6 [fr] (.vptr 0 12 1 i 0) [.bool v]=some [QG fr 12 (.vec 1 1 ((B.map AV.bool).set i (.bool v)))]:=by
   have e:Am.Qd [fr] 0 12=.vec 1 1 (B.map AV.bool):=m12;simp only[Q6,e,hym];simp[AV.cells,AV.rfL,AV.rf,Am.put,Kk]
  have hset:(B.map AV.bool).set i (.bool v)=(Ws P.progs (Qe P.progs c) (i+1)).map AV.bool:=by rw[hst,List.map_set]
  rw[hset]at ist;cases hal:(B.take i).all id
  ·rw[hal]at h4 htk;simp only[ia,ist,h3,h4,h5,h6,e1,eE,seval];exact⟨P.progs.length-(i+1),by omega,_,_,i+1,rfl,rfl,by omega,⟨(by exact h1),(by exact m1),(by exact h3),(by rfl),by rw[htk]<;>first|exact h4|simp only[h4,QQa,Qb,seval],(by exact h19),(by exact h20),fun s hs=>by simp at hs;subst hs;rw[Xc _ _ (by decide)];exact r8 8 (by simp)⟩,(by rfl)⟩
  ·rw[hal]at h4 htk;simp only[ia,ist,h3,h4,h5,h6,e1,eE,seval];exact⟨P.progs.length-(i+1),by omega,_,_,i+1,rfl,rfl,by omega,⟨(by exact h1),(by exact m1),(by exact h3),(by rfl),by rw[htk,QQk]<;>first|rfl|simp only[eE,seval],(by exact h19),(by exact h20),fun s hs=>by simp at hs;subst hs;rw[Xc _ _ (by decide)];exact r8 8 (by simp)⟩,(by rfl)⟩
 ·have hii:i=P.progs.length:=by omega
  subst hii;have hits:Ws P.progs (Qe P.progs c) P.progs.length=Qe P.progs (c+1):=rfl;rw[hits]at H hBl m12 h4;rw[QPe (by omega)]at h4;simp only[QS hlt,Qb,seval];exact hx _ _ ⟨(by exact h1),m1',(by exact h3),m12,(by exact h4),(by exact h19),(by exact h20),r8⟩

end

theorem z34 {M:Nat}(P:PL)(hP:P.ok M)(hl:P.progs.length≤64)(hT:TI P):Qj Tryz.prog 34 [P.av] (.bool (fin P)):=by
 have e0:P.av=.agg [.list (P.progs.map Qp),.list (P.enums.map QV)]:=rfl;have hmx:P.progs.length≤maxLen:=by simp only[maxLen];omega
 have hz:K4 1 [AV.bool false]=.bool false:=rfl;have hr0:(List.replicate P.progs.length (AV.bool false))=(Qe P.progs 0).map AV.bool:=by simp[Qe]
 let A:Nat→Bool:=fun c=>if c=0 then(P.progs.length:Int)==0 else(Qe P.progs c).all id
 have hA:A P.progs.length=fin P:=by
  show(if P.progs.length=0 then(P.progs.length:Int)==0 else(Qe P.progs P.progs.length).all id)=(Qe P.progs P.progs.length).all id;split
  ·rename_i h;rw[h];simp[Qe,h]
  ·rfl
 let I:Nat→St→Prop:=fun k st=>∃f fr c,st=⟨f,[fr],[]⟩∧k=P.progs.length-c∧c≤P.progs.length∧Fi P c (Qe P.progs c) (A c) f fr
 refine k34.fn (by simp) ?_;simp only[e0,QPz,eE,seval];refine AS (n:=P.progs.length) (k:=P.progs.length) rfl rfl (QOE _) (by omega) (by omega) rfl ?_;simp only[hz,hr0,QPz,eE,seval];refine Qg I _ ⟨_,_,0,rfl,rfl,QOM _,⟨(by rfl),(by rfl),(by rfl),(by rfl),(by rfl),(by rfl),(by rfl),by simp<;>rfl⟩⟩ ?_;rintro _ st ⟨f0,fr0,c,rfl,rfl,hc,H0⟩;refine Q7 (a:=_) [8] H0.r8 ?_;intro f fr hf hm hn;have H:=H0.drop hf hm hn;clear hf hm hn H0;obtain⟨h1,m1,h3,m12,h4,h19,h20,r8⟩:=id H;simp only[h19,h20,Qb,seval];by_cases hlt:c<P.progs.length
 ·have e1:=Qx c _ hlt hmx;simp only[Qt hlt,Qb,seval];refine QKG P hP hl hT c _ fr ⟨(by exact h1),m1,(by exact h3),m12,(by rfl),(by exact h19),(by exact h20),r8⟩ (by rfl) _ (fun f fr H=>?_);obtain⟨h1,m1,h3,m12,h4,h19,h20,r8⟩:=H;simp only[h20,e1,Qb,seval];exact⟨P.progs.length-(c+1),by omega,_,fr,c+1,rfl,rfl,by omega,⟨(by exact h1),m1,(by exact h3),m12,(by exact h4),(by exact h19),(by rfl),r8⟩⟩
 ·have hcc:c=P.progs.length:=by omega
  subst hcc;rw[hA]at h4;simp only[QS hlt,h4,Qb,seval]

theorem z13 {M:Nat}(P:PL)(hP:P.ok M)(hM:M≤140737488351232):Qj Tryz.prog 13 [P.av] (.int .i64 (ck P)):=by
 have e0:P.av=.agg [.list (P.progs.map Qp),.list (P.enums.map QV)]:=rfl;have c1:=z28 P hP;have c2:=z29 P hP;have c3:=z30 P hP;have c4:=z31 P hP;have c5:=z32 P hP;refine k13.fn (by simp) ?_;simp only[e0,ck,eE,seval];refine Qa c1 rfl rfl rfl (.inl rfl) ?_;cases hl:Bd P
 ·simp only[QPM,Qb,seval]
 obtain⟨l1,l2,l3,l4⟩:=DS hl;have c6:=z33 hM P hP l3;simp only[QQl,QQJ,eE,seval];refine Qa c2 rfl rfl rfl (.inl rfl) ?_;cases TD P
 ·simp only[QPM,Qb,seval]
 simp only[QQl,QQJ,eE,seval];refine Qa c3 rfl rfl rfl (.inl rfl) ?_;cases Be P
 ·simp only[QPM,Qb,seval]
 simp only[QQl,QQJ,eE,seval];refine Qa c4 rfl rfl rfl (.inl rfl) ?_;cases TE P
 ·simp only[QPM,Qb,seval]
 simp only[QQl,QQJ,eE,seval];refine Qa c5 rfl rfl rfl (.inl rfl) ?_;cases TF P
 ·simp only[QPM,Qb,seval]
 simp only[QQl,QQJ,eE,seval];refine Qa c6 rfl rfl rfl (.inl rfl) ?_;cases ha:args P
 ·simp only[QPM,Qb,seval]
 have c7:=z34 P hP l1 (R4 ha);simp only[QQl,QQJ,eE,seval];refine Qa c7 rfl rfl rfl (.inl rfl) ?_;cases fin P
 ·simp only[QPM,Qb,seval]
 ·simp only[QQl,QQJ,Qb,seval]

end Go.Proofs.YtfgchfdkiomfpaaGreat.Va

namespace Go.Proofs.YtfgchfdkiomfpaaGreat.Cl
open Go Am Rc Bt

theorem UU {sz:Nat}(h0:sz≠0){xs:List AV}(h:xs.all (fun e=>e.cells.length==sz)=true)(hf:QP xs=[]):xs=[]:=by
 cases xs with
 |nil=>rfl
 |cons x xs=>
  have hl:x.cells.length=sz:=by simpa using QOQ.1 h x (by simp)
  have:x.cells=[]:=(List.append_eq_nil_iff.1 hf).1;rw[this]at hl;exact absurd hl.symm h0

def UV (sz:Nat)(args:List AV)(m:Qh):Option (AV×Qh) :=
 match args,m with
 | [.list xs],fr :: m=>bif xs.all (fun e=>e.cells.length==sz)&&Nat.ble xs.length 1000000&&Qi (fr 1000)then some (.vec 0 1000 (Xu (fr 1000)) 0 xs.length false,QG fr 1000 (.vec (Xu (fr 1000)) sz xs) :: m)else none
 |_,_=>none

theorem UW {P:Program}{k sz:Nat}(hk:∀(xs:List AV) (fr:Nat→Ob) (m:Qh),xs.all (fun e=>e.cells.length==sz)=true→xs.length≤1000000→Qi (fr 1000)=true→
  Qu P k [.list xs] (fr :: m) (fun x m1=>x=.vec 0 1000 (Xu (fr 1000)) 0 xs.length false∧m1=QG fr 1000 (.vec (Xu (fr 1000)) sz xs) :: m)) {args:List AV} {m m':Qh} {v:AV} (h:UV sz args m=some (v,m')):Qu P k args m fun x m1=>x=v∧m1=m':=by
 unfold UV at h;split at h
 ·rename_i xs fr m0;cases hb:(xs.all (fun e=>e.cells.length==sz)&&Nat.ble xs.length 1000000&&Qi (fr 1000))with
  |false=>rw[hb]at h;cases h
  |true=>
   rw[hb]at h;simp only[cond_true,QO3,Prod.mk.injEq]at h;simp only[QO2]at hb;obtain⟨rfl,rfl⟩:=h;exact hk xs fr m0 hb.1.1 (QP8 hb.1.2) hb.2
 ·cases h

theorem c53 (xs:List AV)(fr:Nat→Ob)(m:Qh)(h:xs.all (fun e=>e.cells.length==4)=true)(hn:xs.length≤1000000)(hr:Qi (fr 1000)=true) :
  Qu Tryz.prog 53 [.list xs] (fr :: m) (fun x m1=>x=.vec 0 1000 (Xu (fr 1000)) 0 xs.length false∧m1=QG fr 1000 (.vec (Xu (fr 1000)) 4 xs) :: m):=by
 have hng:Qo (fr :: m) 0 1000=Xu (fr 1000):=Km;refine k53.go (by simp) ?_;simp only[SK,V6,V7,Qb,seval];refine JR (ys:=xs) (by simp only[Qb,seval]) ?_ ?_
 ·simp only[V9,Qb,seval];refine XN rfl ?_;simp only[Qb,seval];refine QF (site:=5) (g:=1) (xs:=[]) (ys:=xs) rfl rfl rfl rfl rfl h (by simp[maxLen];omega) (by simp;omega) ?_;simp only[Qb,seval];refine Zm (l:=0) (site:=5) (g:=2) (o:=0) (n:=xs.length) (q:=false) (sz:=4) (xs:=xs) (by simp only[QPm,Qb,seval]) (by simp only[Qb,seval]) (by simp) (by decide) hr ?_;simp only[hng,NV,eE,seval]
  try simp[AV.still,AV.un,Zv,XH]
 ·intro he;have hx:xs=[]:=by
   rcases he with he|he
   ·exact he
   ·exact UU (by decide) h he
  subst hx;simp only[V8,Qb,seval];refine JP (by simp only[Qb,seval]) rfl ?_;simp only[Qb,seval];refine Zm (l:=0) (site:=2) (g:=1) (o:=0) (n:=0) (q:=false) (sz:=4) (xs:=[]) (by simp only[Qb,seval]) (by simp only[Qb,seval]) (by simp) (by decide) hr ?_;simp only[hng,NV,eE,seval]
  try simp[AV.still,AV.un,Zv,XH]

theorem c97 (xs:List AV)(fr:Nat→Ob)(m:Qh)(h:xs.all (fun e=>e.cells.length==8)=true)(hn:xs.length≤1000000)(hr:Qi (fr 1000)=true) :
  Qu Tryz.prog 97 [.list xs] (fr :: m) (fun x m1=>x=.vec 0 1000 (Xu (fr 1000)) 0 xs.length false∧m1=QG fr 1000 (.vec (Xu (fr 1000)) 8 xs) :: m):=by
 have hng:Qo (fr :: m) 0 1000=Xu (fr 1000):=Km;refine k97.go (by simp) ?_;simp only[SQ,Ca,Cb,Qb,seval];refine JR (ys:=xs) (by simp only[Qb,seval]) ?_ ?_
 ·simp only[Cd,Qb,seval];refine XN rfl ?_;simp only[Qb,seval];refine QF (site:=5) (g:=1) (xs:=[]) (ys:=xs) rfl rfl rfl rfl rfl h (by simp[maxLen];omega) (by simp;omega) ?_;simp only[Qb,seval];refine Zm (l:=0) (site:=5) (g:=2) (o:=0) (n:=xs.length) (q:=false) (sz:=8) (xs:=xs) (by simp only[QPm,Qb,seval]) (by simp only[Qb,seval]) (by simp) (by decide) hr ?_;simp only[hng,NW,eE,seval]
  try simp[AV.still,AV.un,Zv,XH]
 ·intro he;have hx:xs=[]:=by
   rcases he with he|he
   ·exact he
   ·exact UU (by decide) h he
  subst hx;simp only[Cc,Qb,seval];refine JP (by simp only[Qb,seval]) rfl ?_;simp only[Qb,seval];refine Zm (l:=0) (site:=2) (g:=1) (o:=0) (n:=0) (q:=false) (sz:=8) (xs:=[]) (by simp only[Qb,seval]) (by simp only[Qb,seval]) (by simp) (by decide) hr ?_;simp only[hng,NW,eE,seval]
  try simp[AV.still,AV.un,Zv,XH]

theorem QKH (xs:List AV)(fr:Nat→Ob)(m:Qh)(h:xs.all (fun e=>e.cells.length==14)=true)(hn:xs.length≤1000000)(hr:Qi (fr 1000)=true) :
  Qu Tryz.prog 157 [.list xs] (fr :: m) (fun x m1=>x=.vec 0 1000 (Xu (fr 1000)) 0 xs.length false∧m1=QG fr 1000 (.vec (Xu (fr 1000)) 14 xs) :: m):=by
 have hng:Qo (fr :: m) 0 1000=Xu (fr 1000):=Km;refine RH.go (by simp) ?_;simp only[Ce,F0,F1,Qb,seval];refine JR (ys:=xs) (by simp only[Qb,seval]) ?_ ?_
 ·simp only[F3,Qb,seval];refine XN rfl ?_;simp only[Qb,seval];refine QF (site:=5) (g:=1) (xs:=[]) (ys:=xs) rfl rfl rfl rfl rfl h (by simp[maxLen];omega) (by simp;omega) ?_;simp only[Qb,seval];refine Zm (l:=0) (site:=5) (g:=2) (o:=0) (n:=xs.length) (q:=false) (sz:=14) (xs:=xs) (by simp only[QPm,Qb,seval]) (by simp only[Qb,seval]) (by simp) (by decide) hr ?_;simp only[hng,De,eE,seval]
  try simp[AV.still,AV.un,Zv,XH]
 ·intro he;have hx:xs=[]:=by
   rcases he with he|he
   ·exact he
   ·exact UU (by decide) h he
  subst hx;simp only[F2,Qb,seval];refine JP (by simp only[Qb,seval]) rfl ?_;simp only[Qb,seval];refine Zm (l:=0) (site:=2) (g:=1) (o:=0) (n:=0) (q:=false) (sz:=14) (xs:=[]) (by simp only[Qb,seval]) (by simp only[Qb,seval]) (by simp) (by decide) hr ?_;simp only[hng,De,eE,seval]
  try simp[AV.still,AV.un,Zv,XH]

end Go.Proofs.YtfgchfdkiomfpaaGreat.Cl

namespace Go.Proofs.YtfgchfdkiomfpaaGreat.Ew
open Go Am Rc Cl

def nat:Wq:=fun k args m=>
 if k=53 then UV 4 args m
 else if k=97 then UV 8 args m
 else if k=157 then UV 14 args m
 else none

theorem nat_ok:Wy Tryz.prog nat:=by
 intro k args m v m' h;unfold nat at h;split at h
 ·rename_i e;subst e;exact UW c53 h
 split at h
 ·rename_i e;subst e;exact UW c97 h
 split at h
 ·rename_i e;subst e;exact UW QKH h
 ·cases h

theorem Ri:evT nat Ev.tab 2000 9 []=true:=by decide +kernel

theorem SB:Qj Tryz.prog 9 [] (.bool true):=V5 nat_ok Ev.Qsf Ri

end Go.Proofs.YtfgchfdkiomfpaaGreat.Ew

namespace Go.Proofs.YtfgchfdkiomfpaaGreat.Va
open Go Am Rc Bt Br Up So

theorem Rj (n:Int):Qj Tryz.prog 67 [.int .i64 n,.int .i64 n] (.int .i64 0):=by
 have d1:decide (n<n)=false:=by simp
 have d2:decide (n > n)=false:=by simp
 refine k67.fn (by simp) ?_;simp only[d1,Qb,seval]

theorem QKI (x:R):Qj Tryz.prog 117 [x.av,x.av] (.int .i64 0):=by
 have d1:decide ((x.bits:Int)<(x.bits:Int))=false:=by simp
 have d2:decide ((x.bits:Int) > (x.bits:Int))=false:=by simp
 have s1:Q2 .lss x.data x.data=some (.bool false):=by simp[Q2,JT]
 have s2:Q2 .gtr x.data x.data=some (.bool false):=by simp[Q2,JT]
 refine QGI.fn (by simp) ?_;simp only[R.av,bne_self_eq_false,d1,s1,s2,eE,seval]

def RqI (l:List R)(k:Nat)(st:St):Prop :=
 ∃f i,st=⟨f,[QD],[]⟩∧k=l.length-i∧f 0=.list (l.map R.av)∧f 1=.list (l.map R.av)∧f 5=.int .i64 (i:Nat)
theorem v71 (l:List R)(hn:l.length≤maxLen):Qj Tryz.prog 71 [.list (l.map R.av),.list (l.map R.av)] (.int .i64 0):=by
 refine k71.fn (by simp) ?_;simp only[Qb,seval];refine Qg (RqI l) _ ⟨_,0,rfl,rfl,(by rfl),(by rfl),(by rfl)⟩ ?_;rintro _ st ⟨f,i,rfl,rfl,h0,h1,h5⟩;simp only[QPz,h0,h5,Qb,seval];by_cases hlt:i<l.length
 ·obtain⟨x,hi⟩:∃x,l[i]? = some x:=⟨l[i],QOH hlt⟩;have hg:=CC hi;have e1:=Qx i _ hlt hn;have d0:((0:Int) != 0)=false:=rfl;have c1:=QKI x;simp only[R.av]at c1;simp only[Qt hlt,Qm,QP7,Qf,hg,QPz,h0,h1,h5,eE,seval];refine Qa c1 rfl rfl rfl (.inl rfl) ?_;simp only[d0,h5,e1,Qb,seval];exact⟨l.length-(i+1),by omega,_,i+1,rfl,rfl,(by exact h0),(by exact h1),(by rfl)⟩
 ·simp only[QS hlt,QPz,h0,h1,Qb,seval];refine Qa (Rj _) rfl rfl rfl (.inl rfl) ?_;simp only[Qb,seval]

def VF (k:Int)(b:Nat):Int :=
 if (k==2||k==3)=true then IntKind.u64.wrap ((b:Int)+9223372036854775808)else if (k != 6)=true then(b:Int)else if YA b=0 then 18446744073709551615
 else if decide ((b:Int)≥9223372036854775808)=true then IntKind.u64.wrap (18446744073709551615-(b:Int))else IntKind.u64.wrap ((b:Int)+9223372036854775808)

theorem SC (v:V):Qj Tryz.prog 120 [v.av] (.int .u64 (VF v.kd v.bits)):=by
 have zeq:((0:Int)==0)=true:=rfl;rw[Qc];refine Qn8.fn (by simp) ?_;simp only[eE,seval];refine Qa (Qsy v.kd) rfl rfl rfl (.inl rfl) ?_;unfold VF;cases h1:(v.kd==2||v.kd==3)
 ·cases h2:(v.kd != 6)
  ·simp only[h2,QOX,eE,seval];refine Qa (QsP v.bits) rfl rfl rfl (.inl rfl) ?_;by_cases h3:YA v.bits=0
   ·have zc:((YA v.bits:Int)==0)=true:=by rw[CA];exact QQx h3
    rw[QO9 h3];simp only[zc,Qb,seval]
   ·have zc:((YA v.bits:Int)==0)=false:=by rw[CA];exact QQt h3
    rw[QOS h3];cases h4:decide ((v.bits:Int)≥9223372036854775808)<;>simp only[zc,h4,QOX,eE,seval]
  ·simp only[h2,QOX,eE,seval]
 ·simp only[eE,seval]

theorem C9 (v:V):Qj Tryz.prog 72 [v.av,v.av] (.int .i64 0):=by
 have d1:decide (v.kd<v.kd)=false:=by simp
 have d2:decide (v.kd > v.kd)=false:=by simp
 have s1:Q2 .lss v.text v.text=some (.bool false):=by simp[Q2,JT]
 have s2:Q2 .gtr v.text v.text=some (.bool false):=by simp[Q2,JT]
 have r1:decide (VF v.kd v.bits<VF v.kd v.bits)=false:=by simp
 have r2:decide (VF v.kd v.bits > VF v.kd v.bits)=false:=by simp
 have hr:=SC v;rw[Qc]at hr;rw[Qc];refine k72.fn (by simp) ?_;simp only[d1,eE,seval];refine Qa (Dk v.kd) rfl rfl rfl (.inl rfl) ?_;cases h1:isk v.kd
 ·simp only[Qb,seval]
 simp only[eE,seval];refine Qa (Wm v.kd) rfl rfl rfl (.inl rfl) ?_;cases h2:XV v.kd
 ·simp only[eE,seval];refine Qa (Wm v.kd) rfl rfl rfl (.inl rfl) ?_;simp only[h2,eE,seval];refine Qa (Wm v.kd) rfl rfl rfl (.inl rfl) ?_;simp only[h2,eE,seval];refine Qa hr rfl rfl rfl (.inl rfl) ?_;simp only[eE,seval];refine Qa hr rfl rfl rfl (.inl rfl) ?_;simp only[r1,eE,seval];refine Qa hr rfl rfl rfl (.inl rfl) ?_;simp only[eE,seval];refine Qa hr rfl rfl rfl (.inl rfl) ?_;simp only[r2,Qb,seval]
 ·simp only[s1,eE,seval];refine Qa (Wm v.kd) rfl rfl rfl (.inl rfl) ?_;simp only[h2,s2,eE,seval];refine Qa (Wm v.kd) rfl rfl rfl (.inl rfl) ?_;simp only[h2,Qb,seval]

def LqI (l:List V)(k:Nat)(st:St):Prop :=
 ∃f i,st=⟨f,[QD],[]⟩∧k=l.length-i∧f 0=.list (l.map V.av)∧f 1=.list (l.map V.av)∧f 5=.int .i64 (i:Nat)
theorem Ma (l:List V)(hn:l.length≤maxLen)(h:∀x∈l,Qj Tryz.prog 41 [x.av,x.av] (.int .i64 0)):Qj Tryz.prog 68 [.list (l.map V.av),.list (l.map V.av)] (.int .i64 0):=by
 refine k68.fn (by simp) ?_;simp only[Qb,seval];refine Qg (LqI l) _ ⟨_,0,rfl,rfl,(by rfl),(by rfl),(by rfl)⟩ ?_;rintro _ st ⟨f,i,rfl,rfl,h0,h1,h5⟩;simp only[QPz,h0,h5,Qb,seval];by_cases hlt:i<l.length
 ·obtain⟨x,hi⟩:∃x,l[i]? = some x:=⟨l[i],QOH hlt⟩;have hg:=R9 hi;have e1:=Qx i _ hlt hn;have d0:((0:Int) != 0)=false:=rfl;have c1:=h x (QOR hi);rw[Qc]at c1;simp only[Qt hlt,Qm,QP7,Qf,hg,QPz,h0,h1,h5,eE,seval];refine Qa c1 rfl rfl rfl (.inl rfl) ?_;simp only[d0,h5,e1,Qb,seval];exact⟨l.length-(i+1),by omega,_,i+1,rfl,rfl,(by exact h0),(by exact h1),(by rfl)⟩
 ·simp only[QS hlt,QPz,h0,h1,Qb,seval];refine Qa (Rj _) rfl rfl rfl (.inl rfl) ?_;simp only[Qb,seval]

def PzI (l:List (V×V))(k:Nat)(st:St):Prop :=
 ∃f i,st=⟨f,[QD],[]⟩∧k=l.length-i∧f 0=.list (l.map V.pav)∧f 1=.list (l.map V.pav)∧f 5=.int .i64 (i:Nat)
theorem Mb (l:List (V×V))(hn:l.length≤maxLen)(h:∀x∈l,Qj Tryz.prog 41 [x.1.av,x.1.av] (.int .i64 0)∧Qj Tryz.prog 41 [x.2.av,x.2.av] (.int .i64 0)):Qj Tryz.prog 69 [.list (l.map V.pav),.list (l.map V.pav)] (.int .i64 0):=by
 refine k69.fn (by simp) ?_;simp only[Qb,seval];refine Qg (PzI l) _ ⟨_,0,rfl,rfl,(by rfl),(by rfl),(by rfl)⟩ ?_;rintro _ st ⟨f,i,rfl,rfl,h0,h1,h5⟩;simp only[QPz,h0,h5,Qb,seval];by_cases hlt:i<l.length
 ·obtain⟨x,hi⟩:∃x,l[i]? = some x:=⟨l[i],QOH hlt⟩;have hg:=Ke hi;have e1:=Qx i _ hlt hn;have d0:((0:Int) != 0)=false:=rfl;obtain⟨c1,c2⟩:=h x (QOR hi);rw[Qc]at c1 c2;simp only[Qt hlt,Qm,QP7,Qf,hg,QPz,QPd,QPN,QPn,h0,h1,h5,eE,seval];refine Qa c1 rfl rfl rfl (.inl rfl) ?_;simp only[d0,Qm,QP7,Qf,hg,QPd,QPg,QPn,h0,h1,h5,eE,seval];refine Qa c2 rfl rfl rfl (.inl rfl) ?_;simp only[d0,h5,e1,Qb,seval];exact⟨l.length-(i+1),by omega,_,i+1,rfl,rfl,(by exact h0),(by exact h1),(by rfl)⟩
 ·simp only[QS hlt,QPz,h0,h1,Qb,seval];refine Qa (Rj _) rfl rfl rfl (.inl rfl) ?_;simp only[Qb,seval]

def SqI (l:List (Int×V))(k:Nat)(st:St):Prop :=
 ∃f i,st=⟨f,[QD],[]⟩∧k=l.length-i∧f 0=.list (l.map V.sav)∧f 1=.list (l.map V.sav)∧f 5=.int .i64 (i:Nat)
theorem Mc (l:List (Int×V))(hn:l.length≤maxLen)(h:∀x∈l,Qj Tryz.prog 41 [x.2.av,x.2.av] (.int .i64 0)):Qj Tryz.prog 70 [.list (l.map V.sav),.list (l.map V.sav)] (.int .i64 0):=by
 refine k70.fn (by simp) ?_;simp only[Qb,seval];refine Qg (SqI l) _ ⟨_,0,rfl,rfl,(by rfl),(by rfl),(by rfl)⟩ ?_;rintro _ st ⟨f,i,rfl,rfl,h0,h1,h5⟩;simp only[QPz,h0,h5,Qb,seval];by_cases hlt:i<l.length
 ·obtain⟨x,hi⟩:∃x,l[i]? = some x:=⟨l[i],QOH hlt⟩;have hg:=Y4 hi;have e1:=Qx i _ hlt hn;have d0:((0:Int) != 0)=false:=rfl;have c2:=h x (QOR hi);rw[Qc]at c2;simp only[Qt hlt,Qm,QP7,Qf,hg,QPz,QPn,h0,h1,h5,eE,seval];refine Qa (Rj x.1) rfl rfl rfl (.inl rfl) ?_;simp only[d0,Qm,QP7,Qf,hg,QPd,QPg,QPn,h0,h1,h5,eE,seval];refine Qa c2 rfl rfl rfl (.inl rfl) ?_;simp only[d0,h5,e1,Qb,seval];exact⟨l.length-(i+1),by omega,_,i+1,rfl,rfl,(by exact h0),(by exact h1),(by rfl)⟩
 ·simp only[QS hlt,QPz,h0,h1,Qb,seval];refine Qa (Rj _) rfl rfl rfl (.inl rfl) ?_;simp only[Qb,seval]

theorem SD (v:V)(hc:v.cnt≤1048576):Qj Tryz.prog 41 [v.av,v.av] (.int .i64 0):=by
 revert hc
 refine V.ind (P:=fun v=>v.cnt≤1048576→Qj Tryz.prog 41 [v.av,v.av] (.int .i64 0)) ?_ v;clear v;intro v hl hp hs hc;have l1:=ZU v;have l2:=JI v;have l3:=Xi v;have l4:=Zy v;have c1:=Ma v.list (by simp only[maxLen];omega) fun x hx=>hl x hx (QOF (HP hx) hc)
 have c2:=Mb v.pairs (by simp only[maxLen];omega) fun x hx=>⟨(hp x hx).1 (QOF (L5 hx) hc),(hp x hx).2 (QOF (Dz hx) hc)⟩
 have c3:=Mc v.slots (by simp only[maxLen];omega) fun x hx=>hs x hx (QOF (JH hx) hc)
 have c4:=v71 v.raws (by simp only[maxLen];omega);have c5:=C9 v;have d0:((0:Int) != 0)=false:=rfl;rw[Qc]at c5;rw[Qc];refine k41.fn (by simp) ?_;simp only[bne_self_eq_false,eE,seval];cases b1:(v.kd==11)
 ·cases b2:(v.kd==12)
  ·cases b3:(v.kd==10)
   ·simp only[b2,b3,eE,seval];refine Qa c5 rfl rfl rfl (.inl rfl) ?_;simp only[Qb,seval]
   ·simp only[b2,b3,eE,seval];refine Qa c3 rfl rfl rfl (.inl rfl) ?_;simp only[d0,eE,seval];refine Qa c4 rfl rfl rfl (.inl rfl) ?_;simp only[Qb,seval]
  ·simp only[b2,eE,seval];refine Qa c2 rfl rfl rfl (.inl rfl) ?_;simp only[Qb,seval]
 ·simp only[eE,seval];refine Qa c1 rfl rfl rfl (.inl rfl) ?_;simp only[Qb,seval]

open Vp Cp

theorem Qte (v:V)(hc:v.cnt≤1048576):Qj Tryz.prog 8 [v.av,v.av] (.bool true):=by
 have c1:=SD v hc;have d0:((0:Int)==0)=true:=rfl;have c2:Qj Tryz.prog 18 [v.av,v.av] (.bool true):=by
  rw[Qc]at c1 ⊢;refine k18.fn (by simp) ?_;simp only[eE,seval];refine Qa c1 rfl rfl rfl (.inl rfl) ?_;simp only[d0,Qb,seval]
 rw[Qc]at c2 ⊢;refine k8.fn (by simp) ?_;simp only[QjL,QjM,r8,o8,eE,seval];refine Qa c2 rfl rfl rfl (.inl rfl) ?_;simp only[Qb,seval]

theorem SE {M:Nat}(P:PL)(hP:P.ok M)(hM:M≤140737488351232):Qj Tryz.prog 5 [P.av] (.bool (decide ((P.progs.length:Int)≤8)&&decide ((P.enums.length:Int)≤8)&&ck P==0)):=by
 have e0:P.av=.agg [.list (P.progs.map Qp),.list (P.enums.map QV)]:=rfl;have ct:=z13 P hP hM;rw[e0]at ct;refine k5.fn (by simp) ?_;simp only[e0,QPz,eE,seval];cases a1:decide ((P.progs.length:Int)≤8)
 ·simp only[QQa,Qb,seval]
 cases a2:decide ((P.enums.length:Int)≤8)
 ·simp only[a2,QQk,QQa,QPz,eE,seval]
 simp only[a2,QQk,QPz,eE,seval];refine Qa ct rfl rfl rfl (.inl rfl) ?_;simp only[Qb,seval]

theorem Qah:Qj Tryz.prog 11 [] (L.mk 65536 16 4096 4096).av:=by
 refine k11.fn (by simp) ?_;simp only[L.av,eE,seval]

section
variable {M:Nat}(P:PL)(hP:P.ok M)(h1:3000≤M)(hM:M≤140737488351232)(s:List UInt8)(l:L)(hl1:l.dp<9223372036854775808)(hl2:l.nd<9223372036854775808)

theorem VG {P:PL}{N:Nat}{s:List UInt8}{b:V}{d:List UInt8}{l:L}(h:(Z8 P N s b d l).2≠0):(Z8 P N s b d l).1=Qs 0 0 []:=by
 unfold Z8 at h ⊢;split
 ·rfl
 rename_i h1;rw[QOS h1]at h;split
 ·rfl
 rename_i h2;rw[QOS h2]at h;split
 ·rfl
 rename_i h3;rw[QOS h3]at h;split
 ·rfl
 rename_i h4;rw[QOS h4]at h;generalize JE ⟨d,0,d.length,l.dp-1,l.nd,l.tx⟩ 1=r at h ⊢;cases r with
 |error e=>rfl
 |ok c=>
  dsimp only at h ⊢;generalize WX P N (XM s P) b c=r at h ⊢;cases r with
  |error e=>rfl
  |ok p=>exact absurd rfl h

include hP h1 hM hl1 hl2 in
theorem c4 (d1 d2:List UInt8):Qj Tryz.prog 4 [P.av,.str s,.agg [.str d1,.str d2],l.av] (.bool true):=by
 obtain⟨N,hN⟩:∃N,3000<N:=⟨3001,by omega⟩;have c0:=Qah;have c1:=SE P hP hM;have c2:=fun(hc:ck P=0) (hd:d1.length≤3000)=>j10 (N:=N) h1 P hP hc hN s (Qs 10 0 []) d1 (L.mk 65536 16 4096 4096) hd (by decide) (by decide) (fun _ _=>XB (by omega)) (XA rfl (by decide) (QOM _)) (by rw[Xa];omega)
 have hb:ck P=0→d1.length≤3000→((Z8 P N s (Qs 10 0 []) d1 (L.mk 65536 16 4096 4096)).1.kd=10→0≤XM s P→MW P N (QE P (XM s P)) (Z8 P N s (Qs 10 0 []) d1 (L.mk 65536 16 4096 4096)).1)∧(Z8 P N s (Qs 10 0 []) d1 (L.mk 65536 16 4096 4096)).1.ok M∧(Z8 P N s (Qs 10 0 []) d1 (L.mk 65536 16 4096 4096)).1.cnt≤900000:=by
  intro hc hd;have h0:=VE (N:=N) h1 P hP hc hN s (Qs 10 0 []) d1 (L.mk 65536 16 4096 4096) hd (by decide) (by decide) (fun _ _=>XB (by omega)) (XA rfl (by decide) (QOM _)) (by rw[Xa];omega);by_cases he:(Z8 P N s (Qs 10 0 []) d1 (L.mk 65536 16 4096 4096)).2=0
  ·obtain⟨hx,w,w1,w2,w3,w4⟩:=h0 he;rw[w4];have hcn:=U3 (JL hc) N (QE P (XM s P)) (Yf (JL hc) _) w;rw[Xa]at w3;exact⟨fun _ _=>Rg (GA hc) (JL hc) N _ (KI hx).1 w w1,Rb (QDC hP (Rf hc)) N (XM s P) w w2,by omega⟩
  ·rw[VG he];exact⟨(fun h=>by cases h),XA rfl (by decide) (QOM _),by rw[Xa];omega⟩
 have z10:(Qs 10 0 []).av=.agg [.int .i64 10,.int .u64 0,.str [],.list [],.list [],.list [],.list []]:=Qc _;generalize Z8 P N s (Qs 10 0 []) d1 (L.mk 65536 16 4096 4096)=q at c2 hb;obtain⟨b,e0⟩:=q;dsimp only at hb;have c3:=fun(hc:ck P=0) (hd:d1.length≤3000) (hd2:d2.length≤3000)=>j12 (N:=N) h1 P hP hc hN s b d2 l hd2 hl1 hl2 (hb hc hd).1 (hb hc hd).2.1 (hb hc hd).2.2
 have c4:=fun(hc:ck P=0) (hd:d1.length≤3000) (hd2:d2.length≤3000)=>j10 (N:=N) h1 P hP hc hN s b d2 l hd2 hl1 hl2 (hb hc hd).1 (hb hc hd).2.1 (hb hc hd).2.2
 have c5:ck P=0→d1.length≤3000→d2.length≤3000→Qj Tryz.prog 8 [(Z8 P N s b d2 l).1.av,(Z8 P N s b d2 l).1.av] (.bool true):=by
  intro hc hd hd2;refine Qte _ ?_;have h0:=VE (N:=N) h1 P hP hc hN s b d2 l hd2 hl1 hl2 (hb hc hd).1 (hb hc hd).2.1 (hb hc hd).2.2;by_cases he:(Z8 P N s b d2 l).2=0
  ·obtain⟨hx,w,w1,w2,w3,w4⟩:=h0 he;rw[w4];have hcn:=U3 (JL hc) N (QE P (XM s P)) (Yf (JL hc) _) w;have:=(hb hc hd).2.2;omega
  ·rw[VG he,Xa];omega
 generalize Z8 P N s b d2 l=q at c3 c4 c5;obtain⟨v,e⟩:=q;rw[show P.av=.agg (QX P)from rfl]at c1 c2 c3 c4;rw[show P.av=.agg (QX P)from rfl];rw[z10]at c2;simp only[ov,Qc v,Qc b,QX,L.av]at c0 c1 c2 c3 c4 c5;have ia0:∀m:Qh,Qf m 1 (some 2) (.ptr 0 6 0) (0:Int)=some (.ptr 0 6 0):=fun _=>rfl
 have ia1:∀m:Qh,Qf m 1 (some 2) (.ptr 0 6 0) (1:Int)=some (.ptr 0 6 1):=fun _=>rfl
 refine k4.fn (by simp) ?_;simp only[QX,L.av,eE,seval];refine Qa c1 rfl rfl rfl (.inl rfl) ?_;cases a1:(decide ((P.progs.length:Int)≤8)&&decide ((P.enums.length:Int)≤8)&&ck P==0)
 ·simp only[Qb,seval]
 have hc:ck P=0:=by
  simp only[QO2,QO5]at a1;exact a1.2
 by_cases hd:d1.length≤3000
 case neg=>
  have e1:decide ((d1.length:Int) > 3000)=true:=QQx (by omega);simp only[e1,ia0,eE,seval]
 have e1:decide ((d1.length:Int) > 3000)=false:=QQt (by omega);by_cases hd2:d2.length≤3000
 case neg=>
  have e2:decide ((d2.length:Int) > 3000)=true:=QQx (by omega);simp only[e1,e2,ia0,ia1,eE,seval]
 have e2:decide ((d2.length:Int) > 3000)=false:=QQt (by omega);simp only[e1,e2,ia0,ia1,eE,seval];refine Qa c0 rfl rfl rfl (.inl rfl) ?_;refine Qa (c2 hc hd) rfl rfl rfl (.inl rfl) ?_;simp only[ia1,eE,seval];refine Qa (c3 hc hd hd2) rfl rfl rfl (.inl rfl) ?_;simp only[ia1,eE,seval];refine Qa (c4 hc hd hd2) rfl rfl rfl (.inl rfl) ?_;simp only[QPO,eE,seval];refine Qa (c5 hc hd hd2) rfl rfl rfl (.inl rfl) ?_;simp only[Qb,seval];refine Qa Ew.SB rfl rfl rfl (.inl rfl) ?_;simp only[Qb,seval]

end
end Go.Proofs.YtfgchfdkiomfpaaGreat.Va

namespace Go.Proofs.YtfgchfdkiomfpaaGreat.Br
open Go Am Go.RowKit Go.WideShapes Go.ChangeShapes Go.ChangeAt

section
variable {H:Type}{enc:TypeId×Value→H}{P:Program}{W:World}{base:Nat}{sp:Nat→Bool}{held:Bool}

theorem Md {t e:TypeId}{r:Reach}{b0:Nat}{v:Value}{d:DataW H}{ps:List MemPlace}(ht:P.underlying t=some (.array 2 e))(he:P.underlying e=some .string)(hc:P.cellsOf e=1)(hct:P.cellsOf t=2)
  (hval:Value.okWide P W r b0 t v) (hd:DataW.Trod enc P W base sp held t v d ps) :
  ∃a b:ByteArray,v=.agg #[.string a,.string b]∧d=.agg [.lit (.string a.data.toList),.lit (.string b.data.toList)]∧ps=[]∧a.size≤maxLen∧b.size≤maxLen:=by
 simp only[Value.okWide,ht]at hval;obtain⟨cs,rfl,h2,_⟩:=hval;obtain⟨fuel,hf⟩:=hd;cases fuel with
 |zero=>simp[DataW.trod]at hf
 |succ m=>
  rw[DataW.trod_step]at hf;unfold DataW.trodStep at hf;simp only[ht,Value.cells,hc]at hf;rw[hct]at h2;obtain⟨l⟩:=cs;obtain⟨x,y,rfl⟩:∃x y,l=[x,y]:=by
   match l,h2 with
   | [x,y],_=>exact⟨x,y,rfl⟩
  rw[QO9 (by rw[hct];rfl)]at hf;simp only[QOJ]at hf;obtain⟨ys,hy,e1⟩:=hf;rw[show List.range 2=[0,1]from rfl]at hy;simp only[List.mapM_cons,List.mapM_nil,bind,pure,QOO,QO3]at hy;obtain⟨z0,hz0,z1,⟨z2,hz2,z3,h3,rfl⟩,rfl⟩:=hy;subst h3;obtain⟨a,ea,rfl,wa⟩:=DataW.trod_string he hz0;obtain⟨b,eb,rfl,wb⟩:=DataW.trod_string he hz2;simp only[Prod.mk.injEq]at e1;simp at ea eb;subst ea eb;exact⟨a,b,rfl,by rw[←e1.1];rfl,by rw[←e1.2];rfl,wa,wb⟩

theorem Me {t e:TypeId}{a b:ByteArray}(ht:P.underlying t=some (.array 2 e))(he:P.underlying e=some .string)(hc:P.cellsOf e=1)(hct:P.cellsOf t=2)
  (wa:a.size≤maxLen) (wb:b.size≤maxLen):DataW.Trod enc P W base sp held t (.agg #[.string a,.string b]) (.agg [.lit (.string a.data.toList),.lit (.string b.data.toList)]) []:=by
 have h:∀n:ByteArray,n.size≤maxLen→DataW.trod enc P W base sp held 1 e [.string n]=some (.lit (.string n.data.toList),[]):=fun n hn=>by simp[DataW.trod,he,hn]
 refine⟨2,?_⟩;rw[DataW.trod_step];unfold DataW.trodStep;simp only[ht,Value.cells,hc];rw[QO9 (by rw[hct];rfl),show List.range 2=[0,1]from rfl];simp[h a wa,h b wb]

theorem HX {G:Gh}(a b:ByteArray):Rep G (.agg [.str a.data.toList,.str b.data.toList]) (.agg #[.string a,.string b]):=.agg (.cons (Dd _) (.cons (Dd _) .nil))

end

end Go.Proofs.YtfgchfdkiomfpaaGreat.Br

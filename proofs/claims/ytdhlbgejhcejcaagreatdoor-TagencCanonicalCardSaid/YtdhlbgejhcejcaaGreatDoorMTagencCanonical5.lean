/- Parts of the proof, in order. -/
import Derived.Test.YtdhlbgejhcejcaaGreatDoorMTagencCanonical4

set_option linter.unusedSimpArgs false
namespace Go.Proofs.YtdhlbgejhcejcaaGreatDoor.Va
open Go Am Rc Bt Br

structure Fi (P:PL)(c:Nat)(B:List Bool)(a:Bool)(f:Fr)(fr:Nat→Ob):Prop where
 h1:f 1=.ptr 0 1 0
 m1:fr 1=.cells (Pc P)
 h3:f 3=.vec 0 12 1 0 P.progs.length false
 m12:fr 12=.vec 1 1 (B.map AV.bool)
 h4:f 4=.bool a
 h19:f 19=.int .i64 (P.progs.length:Nat)
 h20:f 20=.int .i64 (c:Nat)
 r8:∀s∈[8],(fr s).isRow=false

theorem Fi.drop {P:PL}{c:Nat}{B:List Bool}{a:Bool}{f f':Fr}{fr fr':Nat→Ob}(h:Fi P c B a f fr)(hf:∀i,f' i=Cg [8] (f i))(hm:∀i,i∉[8]→fr' i=Gx [8] (fr i))(hn:∀i∈[8],fr' i=.none):Fi P c B a f' fr' where
 h1:=by rw[hf,h.h1]<;>rfl
 m1:=by rw[hm 1 (by decide),h.m1]<;>rfl
 h3:=by rw[hf,h.h3]<;>rfl
 m12:=by rw[hm 12 (by decide),h.m12]<;>rfl
 h4:=by rw[hf,h.h4]<;>rfl
 h19:=by rw[hf,h.h19]<;>rfl
 h20:=by rw[hf,h.h20]<;>rfl
 r8:=fun s hs=>by rw[hn s hs]<;>rfl

section
variable {M:Nat}(P:PL)(hP:P.ok M)(hl:P.progs.length≤64)(hT:PA P)(c:Nat)(B:List Bool)(hB:B.length=P.progs.length)(a:Bool)
include hP hT hB

theorem QQf (i:Nat)(g:PG)(hg:P.progs[i]? = some g)(f:Fr)(fr:Nat→Ob)(H:Fi P c B a f fr)(h5:f 5=.int .i64 (i:Nat))(h6:f 6=.bool true)(h7:f 7=.int .i64 0)(Q:Exit→St→Prop)
  (hx:∀f fr,Fi P c B a f fr→f 5=.int .i64 (i:Nat)→f 6=.bool (!g.ops.any (XJ B))→Q (.exit 4) (⟨f,[fr],[]⟩:St)):QG Tryz.prog (.loop TA) ⟨f,[fr],[]⟩ Q:=by
 let I:Nat→St→Prop:=fun k st=>∃f fr j,st=⟨f,[fr],[]⟩∧k=g.ops.length-j∧j≤g.ops.length∧Fi P c B a f fr∧f 5=.int .i64 (i:Nat)∧f 6=.bool (!(g.ops.take j).any (XJ B))∧f 7=.int .i64 (j:Nat)
 have hgm:(P.progs.map Qi)[i]? = some (.agg g.cells):=by simp[hg,Qi]
 have hgo:=hP.progs g (QUA hg);refine Qd I _ ⟨f,fr,0,rfl,rfl,QUv _,H,h5,by rw[h6];simp,h7⟩ ?_;clear H h5 h6 h7;simp only[PG.cells]at hgm;rintro _ st ⟨f0,fr0,j,rfl,rfl,hj,H0,h50,h60,h70⟩;refine QK (a:=_) [8] H0.r8 ?_;intro f fr hf hm hn;have H:=H0.drop hf hm hn;have h5:f 5=.int .i64 (i:Nat):=by rw[hf,h50]<;>rfl
 have h6:f 6=.bool (!(g.ops.take j).any (XJ B)):=by rw[hf,h60]<;>rfl
 have h7:f 7=.int .i64 (j:Nat):=by rw[hf,h70]<;>rfl
 have n8:=hn 8 (by decide);clear hf hm hn H0 h50 h60 h70;obtain⟨h1,m1,h3,m12,h4,h19,h20,r8⟩:=id H;simp only[Pc]at m1;simp only[Qh,QVN,Qb,hgm,QVh,h1,m1,h5,h7,eE,seval];by_cases hlt:j<g.ops.length
 ·obtain⟨o,ho⟩:∃o,g.ops[j]? = some o:=⟨g.ops[j],QUo hlt⟩;have hom:(g.ops.map fun o=>AV.agg o.cells)[j]? = some (.agg o.cells):=by simp[ho]
  have e1:=Qm j _ hlt hgo.len;have htg:=hT g (QUA hg) o (QUA ho);have ht:=R2 (q:=XJ B) ho;have fin2:∀(f':Fr) (fr':Nat→Ob) (v:Bool),(!(g.ops.take j).any (XJ B) && !XJ B o)=v→Fi P c B a f' fr'→f' 5=.int .i64 (i:Nat)→f' 6=.bool v→f' 7=.int .i64 ((j+1:Nat):Int)→∃k,k<g.ops.length-j∧I k ⟨f',[fr'],[]⟩:=by
   intro f' fr' v hv b1 b2 b3 b4;exact⟨g.ops.length-(j+1),by omega,f',fr',j+1,rfl,rfl,by omega,b1,b2,by rw[b3,ht,Bool.not_or,hv],b4⟩
  simp only[PO.cells]at hom;have m1':fr 1=.cells (Pc P):=by rw[m1]<;>rfl
  cases hb : !(g.ops.take j).any (XJ B)
  ·rw[hb]at fin2 h6;simp only[QVQ]at fin2;simp only[Ql hlt,Qh,QVN,Qb,hgm,hom,PO.cells,n8,h1,m1,h5,h6,h7,e1,eE,seval];exact fin2 _ _ _ rfl ⟨(by exact h1),(by exact m1'),(by exact h3),(by exact m12),(by exact h4),(by exact h19),(by exact h20),by simp<;>rfl⟩ (by exact h5) (by rfl) (by rfl)
  rw[hb]at fin2 h6;simp only[QVZ]at fin2;cases c1:(o.card==1)
  ·have c1':(o.card != 1)=true:=by rw[bne,c1];rfl
   have hne:(!XJ B o)=true:=by unfold XJ;rw[c1];rfl
   rw[hne]at fin2;simp only[Ql hlt,Qh,QVN,Qb,hgm,hom,PO.cells,n8,c1',h1,m1,h5,h6,h7,e1,eE,seval];exact fin2 _ _ _ rfl ⟨(by exact h1),(by exact m1'),(by exact h3),(by exact m12),(by exact h4),(by exact h19),(by exact h20),by simp<;>rfl⟩ (by exact h5) (by rfl) (by rfl)
  have c1':(o.card != 1)=false:=by rw[bne,c1];rfl
  cases c2:(o.kind==10)
  ·have c2':(o.kind != 10)=true:=by rw[bne,c2];rfl
   have hne:(!XJ B o)=true:=by unfold XJ;rw[c1,c2];rfl
   rw[hne]at fin2;simp only[Ql hlt,Qh,QVN,Qb,hgm,hom,PO.cells,n8,c1',c2',h1,m1,h5,h6,h7,e1,eE,seval];exact fin2 _ _ _ rfl ⟨(by exact h1),(by exact m1'),(by exact h3),(by exact m12),(by exact h4),(by exact h19),(by exact h20),by simp<;>rfl⟩ (by exact h5) (by rfl) (by rfl)
  have c2':(o.kind != 10)=false:=by rw[bne,c2];rfl
  obtain⟨t1,t2⟩:=htg (by simpa using c2);obtain⟨t,hte⟩:=QV1 t1;obtain⟨y,hy⟩:∃y,B[t]? = some y:=⟨B[t]'(by omega),QUo (by omega)⟩;have hym:(B.map AV.bool)[t]? = some (.bool y):=by simp[hy]
  have hlt2:(t<P.progs.length)=True:=eq_true (by omega);have hne:(!XJ B o)=y:=by unfold XJ;rw[c1,c2,hte,QVN,hy];cases y<;>rfl
  rw[hne]at fin2;simp only[Ql hlt,Qh,QVN,Qb,hgm,hom,PO.cells,n8,c1',c2',hte,hym,hlt2,m12,QU3,h1,m1,h3,h5,h6,h7,e1,eE,seval];exact fin2 _ _ _ rfl ⟨(by exact h1),(by exact m1'),(by exact h3),(by exact m12),(by exact h4),(by exact h19),(by exact h20),by simp<;>rfl⟩ (by exact h5) (by rfl) (by rfl)
 ·have hf:(g.ops.take j).any (XJ B)=g.ops.any (XJ B):=by rw[QUV (by omega)]
  rw[hf]at h6;simp only[Qx hlt,Qa,seval];refine hx _ _ ⟨(by exact h1),by rw[m1]<;>rfl,(by exact h3),(by exact m12),(by exact h4),(by exact h19),(by exact h20),r8⟩ (by exact h5) (by exact h6)

end

theorem Sz {B:List Bool}{i:Nat}(h:i<B.length)(v:Bool):((B.set i v).take (i+1)).all id=((B.take i).all id&&v):=by
 have h1:(B.set i v)[i]? = some v:=List.getElem?_set_self h;rw[Q6 h1,List.take_set_of_le (QUm _)];rfl

section
variable {M:Nat}(P:PL)(hP:P.ok M)(hl:P.progs.length≤64)(hT:PA P)(c:Nat)
include hP hl hT

theorem QQg (f:Fr)(fr:Nat→Ob)(H:Fi P c (Qe P.progs c) true f fr)(h5:f 5=.int .i64 0)(Q:Exit→St→Prop)(hx:∀f fr,Fi P c (Qe P.progs (c+1)) ((Qe P.progs (c+1)).all id) f fr→Q (.exit 2) (⟨f,[fr],[]⟩:St)):QG Tryz.prog (.loop TB) ⟨f,[fr],[]⟩ Q:=by
 let I:Nat→St→Prop:=fun k st=>∃f fr i,st=⟨f,[fr],[]⟩∧k=P.progs.length-i∧i≤P.progs.length∧Fi P c (Ji P.progs (Qe P.progs c) i) (((Ji P.progs (Qe P.progs c) i).take i).all id) f fr∧f 5=.int .i64 (i:Nat)
 refine Qd I _ ⟨f,fr,0,rfl,rfl,QUv _,H,h5⟩ ?_;clear H h5;rintro _ st ⟨f0,fr0,i,rfl,rfl,hi,H0,h50⟩;refine QK (a:=_) [8] H0.r8 ?_;intro f fr hf hm hn;have H:=H0.drop hf hm hn;have h5:f 5=.int .i64 (i:Nat):=by rw[hf,h50]<;>rfl
 clear hf hm hn H0 h50;have hBl:(Ji P.progs (Qe P.progs c) i).length=P.progs.length:=by rw[U6,U7]
 obtain⟨h1,m1,h3,m12,h4,h19,h20,r8⟩:=id H;have m1':=m1;simp only[Pc]at m1;simp only[QVh,h1,m1,h5,eE,seval];by_cases hlt:i<P.progs.length
 ·obtain⟨g,hg⟩:∃g,P.progs[i]? = some g:=⟨P.progs[i],QUo hlt⟩;have e1:=Qm i _ hlt (by simp only[maxLen];omega);have hst:Ji P.progs (Qe P.progs c) (i+1)=(Ji P.progs (Qe P.progs c) i).set i (!g.ops.any (XJ (Ji P.progs (Qe P.progs c) i))):=by
   rw[Ji]
   conv=>lhs;unfold UI
   rw[hg]
  have htk:=Sz (B:=Ji P.progs (Qe P.progs c) i) (i:=i) (by omega) (!g.ops.any (XJ (Ji P.progs (Qe P.progs c) i)));rw[←hst]at htk;simp only[Ql hlt,Qa,seval];refine QQf P hP hT c _ hBl _ i g hg _ fr ⟨(by exact h1),m1',(by exact h3),m12,(by exact h4),(by exact h19),(by exact h20),r8⟩ (by exact h5) (by rfl) (by rfl) _ (fun f fr H h5 h6=>?_);generalize hBB:Ji P.progs (Qe P.progs c) i=B at *;generalize hv:(!g.ops.any (XJ B))=v at *;obtain⟨h1,m1,h3,m12,h4,h19,h20,r8⟩:=H;obtain⟨y,hy⟩:∃y,B[i]? = some y:=⟨B[i]'(by omega),QUo (by omega)⟩;have hym:(B.map AV.bool)[i]? = some (.bool y):=by simp[hy]
  have ia:Qb [fr] 1 none (.vec 0 12 1 0 P.progs.length false) (i:Int)=some (.vptr 0 12 1 i 0):=by
   have e:Am.Qf [fr] 0 12=.vec 1 1 (B.map AV.bool):=m12;simp only[Qb,e,Qh,if_true,QVN];simp;omega
  have ist:QX [fr] (.vptr 0 12 1 i 0) [.bool v]=some [QI fr 12 (.vec 1 1 ((B.map AV.bool).set i (.bool v)))]:=by
   have e:Am.Qf [fr] 0 12=.vec 1 1 (B.map AV.bool):=m12;simp only[QX,e,hym];simp[AV.cells,AV.rfL,AV.rf,Am.put,ZN]
  have hset:(B.map AV.bool).set i (.bool v)=(Ji P.progs (Qe P.progs c) (i+1)).map AV.bool:=by rw[hst,List.map_set]
  rw[hset]at ist;cases hal:(B.take i).all id
  ·rw[hal]at h4 htk;simp only[ia,ist,h3,h4,h5,h6,e1,eE,seval];exact⟨P.progs.length-(i+1),by omega,_,_,i+1,rfl,rfl,by omega,⟨(by exact h1),(by exact m1),(by exact h3),(by rfl),by rw[htk]<;>first|exact h4|simp only[h4,QVQ,Qa,seval],(by exact h19),(by exact h20),fun s hs=>by simp at hs;subst hs;rw[QR _ _ (by decide)];exact r8 8 (by simp)⟩,(by rfl)⟩
  ·rw[hal]at h4 htk;simp only[ia,ist,h3,h4,h5,h6,e1,eE,seval];exact⟨P.progs.length-(i+1),by omega,_,_,i+1,rfl,rfl,by omega,⟨(by exact h1),(by exact m1),(by exact h3),(by rfl),by rw[htk,QVZ]<;>first|rfl|simp only[eE,seval],(by exact h19),(by exact h20),fun s hs=>by simp at hs;subst hs;rw[QR _ _ (by decide)];exact r8 8 (by simp)⟩,(by rfl)⟩
 ·have hii:i=P.progs.length:=by omega
  subst hii;have hits:Ji P.progs (Qe P.progs c) P.progs.length=Qe P.progs (c+1):=rfl;rw[hits]at H hBl m12 h4;rw[QUV (by omega)]at h4;simp only[Qx hlt,Qa,seval];exact hx _ _ ⟨(by exact h1),m1',(by exact h3),m12,(by exact h4),(by exact h19),(by exact h20),r8⟩

end

theorem z42 {M:Nat}(P:PL)(hP:P.ok M)(hl:P.progs.length≤64)(hT:PA P):Qk Tryz.prog 42 [P.av] (.bool (fin P)):=by
 have e0:P.av=.agg [.list (P.progs.map Qi),.list (P.enums.map Qq)]:=rfl;have hmx:P.progs.length≤maxLen:=by simp only[maxLen];omega
 have hz:JM 1 [AV.bool false]=.bool false:=rfl;have hr0:(List.replicate P.progs.length (AV.bool false))=(Qe P.progs 0).map AV.bool:=by simp[Qe]
 let A:Nat→Bool:=fun c=>if c=0 then(P.progs.length:Int)==0 else(Qe P.progs c).all id
 have hA:A P.progs.length=fin P:=by
  show(if P.progs.length=0 then(P.progs.length:Int)==0 else(Qe P.progs P.progs.length).all id)=(Qe P.progs P.progs.length).all id;split
  ·rename_i h;rw[h];simp[Qe,h]
  ·rfl
 let I:Nat→St→Prop:=fun k st=>∃f fr c,st=⟨f,[fr],[]⟩∧k=P.progs.length-c∧c≤P.progs.length∧Fi P c (Qe P.progs c) (A c) f fr
 refine k42.fn (by simp) ?_;simp only[e0,QVh,eE,seval];refine U3 (n:=P.progs.length) (k:=P.progs.length) rfl rfl (QUm _) (by omega) (by omega) rfl ?_;simp only[hz,hr0,QVh,eE,seval];refine Qd I _ ⟨_,_,0,rfl,rfl,QUv _,⟨(by rfl),(by rfl),(by rfl),(by rfl),(by rfl),(by rfl),(by rfl),by simp<;>rfl⟩⟩ ?_;rintro _ st ⟨f0,fr0,c,rfl,rfl,hc,H0⟩;refine QK (a:=_) [8] H0.r8 ?_;intro f fr hf hm hn;have H:=H0.drop hf hm hn;clear hf hm hn H0;obtain⟨h1,m1,h3,m12,h4,h19,h20,r8⟩:=id H;simp only[h19,h20,Qa,seval];by_cases hlt:c<P.progs.length
 ·have e1:=Qm c _ hlt hmx;simp only[Ql hlt,Qa,seval];refine QQg P hP hl hT c _ fr ⟨(by exact h1),m1,(by exact h3),m12,(by rfl),(by exact h19),(by exact h20),r8⟩ (by rfl) _ (fun f fr H=>?_);obtain⟨h1,m1,h3,m12,h4,h19,h20,r8⟩:=H;simp only[h20,e1,Qa,seval];exact⟨P.progs.length-(c+1),by omega,_,fr,c+1,rfl,rfl,by omega,⟨(by exact h1),m1,(by exact h3),m12,(by exact h4),(by exact h19),(by rfl),r8⟩⟩
 ·have hcc:c=P.progs.length:=by omega
  subst hcc;rw[hA]at h4;simp only[Qx hlt,h4,Qa,seval]

theorem z18 {M:Nat}(P:PL)(hP:P.ok M)(hM:M≤140737488351232):Qk Tryz.prog 18 [P.av] (.int .i64 (ck P)):=by
 have e0:P.av=.agg [.list (P.progs.map Qi),.list (P.enums.map Qq)]:=rfl;have c1:=z36 P hP;have c2:=z37 P hP;have c3:=z38 P hP;have c4:=z39 P hP;have c5:=z40 P hP;refine k18.fn (by simp) ?_;simp only[e0,ck,eE,seval];refine aC c1 ?_;cases hl:Hu P
 ·simp only[QVt,Qa,seval]
 obtain⟨l1,l2,l3,l4⟩:=UJ hl;have c6:=z41 hM P hP l3;simp only[QV0,QWq,eE,seval];refine aC c2 ?_;cases BG P
 ·simp only[QVt,Qa,seval]
 simp only[QV0,QWq,eE,seval];refine aC c3 ?_;cases UD P
 ·simp only[QVt,Qa,seval]
 simp only[QV0,QWq,eE,seval];refine aC c4 ?_;cases BH P
 ·simp only[QVt,Qa,seval]
 simp only[QV0,QWq,eE,seval];refine aC c5 ?_;cases GQ P
 ·simp only[QVt,Qa,seval]
 simp only[QV0,QWq,eE,seval];refine aC c6 ?_;cases ha:args P
 ·simp only[QVt,Qa,seval]
 have c7:=z42 P hP l1 (BS ha);simp only[QV0,QWq,eE,seval];refine aC c7 ?_;cases fin P
 ·simp only[QVt,Qa,seval]
 ·simp only[QV0,QWq,Qa,seval]

open Up

section
variable {M:Nat}{P:PL}(hP:P.ok M)(hM:M≤140737488351232){m:PG→V→Int}{lv:Int}(g:PG)(hg:g.ok M)(v:V)(hv:v.ok M)

def SwI (P:PL)(g:PG)(v:V)(k:Nat)(st:St):Prop :=
 ∃f fr i,st=⟨f,[fr],[]⟩∧k=v.raws.length-i∧Xd (Zu P g v.raws) v.raws.length 0=Xd (Zu P g v.raws) (v.raws.length-i) i∧f 4=.ptr 0 4 0∧f 6=.ptr 0 6 0∧f 9=.ptr 0 9 0∧f 16=.int .i64 (i:Nat)∧fr 4=.cells [.list (P.progs.map Qi),.list (P.enums.map Qq)]∧fr 6=.cells (vc v)∧fr 9=.cells g.cells∧∀s∈[17],(fr s).isRow=false

include hP hg hv in
theorem C4 (hu:∀o∈g.ops,UO P o)(f:Fr)(fr:Nat→Ob)(h4:f 4=.ptr 0 4 0)(h6:f 6=.ptr 0 6 0)(h9:f 9=.ptr 0 9 0)(h16:f 16=.int .i64 0)
  (m4:fr 4=.cells [.list (P.progs.map Qi),.list (P.enums.map Qq)]) (m6:fr 6=.cells (vc v)) (m9:fr 9=.cells g.cells) (Nl:∀s∈[17],(fr s).isRow=false) (Q:Exit→St→Prop)
  (q1:Xd (Zu P g v.raws) v.raws.length 0≠0→∀f fr,f 8=.int .i64 (Xd (Zu P g v.raws) v.raws.length 0)→Q .ret (⟨f,[fr],[]⟩:St))
  (q2:Xd (Zu P g v.raws) v.raws.length 0=0→∀f fr,Q (.exit 4) (⟨f,[fr],[]⟩:St)):QG Tryz.prog (.loop S5) ⟨f,[fr],[]⟩ Q:=by
 have e0:P.av=.agg [.list (P.progs.map Qi),.list (P.enums.map Qq)]:=rfl;refine Qd (SwI P g v) _ ⟨f,fr,0,rfl,rfl,rfl,h4,h6,h9,h16,m4,m6,m9,Nl⟩ ?_;clear h4 h6 h9 h16 m4 m6 m9 Nl;rintro _ st ⟨f0,fr0,i,rfl,rfl,hx,h40,h60,h90,h160,m40,m60,m90,Nl⟩;refine QK (a:=_) [17] Nl ?_;intro f fr hf hm hn;have h4:f 4=.ptr 0 4 0:=by rw[hf,h40]<;>rfl
 have h6:f 6=.ptr 0 6 0:=by rw[hf,h60]<;>rfl
 have h9:f 9=.ptr 0 9 0:=by rw[hf,h90]<;>rfl
 have h16:f 16=.int .i64 (i:Nat):=by rw[hf,h160]<;>rfl
 have m4:fr 4=.cells [.list (P.progs.map Qi),.list (P.enums.map Qq)]:=by rw[hm 4 (by decide),m40]<;>rfl
 have m6:fr 6=.cells (vc v):=by rw[hm 6 (by decide),m60]<;>rfl
 have m9:fr 9=.cells g.cells:=by rw[hm 9 (by decide),m90]<;>rfl
 have UW:=hn 17 (by decide);clear hf hm hn h40 h60 h90 h160 m40 m60 m90 Nl;have m6':=m6;have m9':=m9;simp only[PG.cells]at m9;simp only[vc]at m6;simp only[QVh,h6,h16,m6,eE,seval];by_cases hlt:i<v.raws.length
 ·obtain⟨x,hi⟩:∃x,v.raws[i]? = some x:=⟨v.raws[i],QUo hlt⟩;have hgi:=HM hi;have e1:=Qm i _ hlt (by have:=hv.nr;simp only[maxLen];omega);have c1:=v48 hP g hg hu x;have hr:Zu P g v.raws i=if (!Hb P g x)=true then 1 else if HL x=true then 3 else 0:=by rw[WD hi,PR]
  rw[e0]at c1;simp only[Qi,PG.cells,R.av]at c1;simp only[Ql hlt,Qh,QVN,Qb,hgi,UW,h4,h6,h9,h16,m4,m6,m9,eE,seval];refine aC c1 ?_;cases hp:Hb P g x
  ·rw[hp,QUQ (by rfl)]at hr;rw[ZD hlt hr (by decide)]at hx;simp only[Qa,seval];exact q1 (by rw[hx];decide) _ _ (by rw[hx];exact(by rfl))
  ·rw[hp,QUB (by simp)]at hr;have hb:HL x=(x.wire==3&&decide ((x.data.length:Int) > 4096)||decide ((x.data.length:Int) > 65536)):=rfl;have ok:HL x=false→Xd (Zu P g v.raws) v.raws.length 0=Xd (Zu P g v.raws) (v.raws.length-(i+1)) (i+1):=fun h=>by
    rw[h,QUB (by simp)]at hr;rw[hx,KU hlt hr]
   have no:HL x=true→Xd (Zu P g v.raws) v.raws.length 0=3:=fun h=>by
    rw[h,QUQ rfl]at hr;rw[hx,ZD hlt hr (by decide)]
   simp only[eE,seval];cases t1:(x.wire==3)
   ·cases t3:decide ((x.data.length:Int) > 65536)
    ·rw[t1,t3]at hb;simp only[t3,h16,e1,eE,seval];exact⟨v.raws.length-(i+1),by omega,_,_,i+1,rfl,rfl,ok hb,(by exact h4),(by exact h6),(by exact h9),(by rfl),(by exact m4),(by exact m6'),(by exact m9'),by simp<;>rfl⟩
    ·rw[t1,t3]at hb;simp only[t3,eE,seval];exact q1 (by rw[no hb];decide) _ _ (by rw[no hb];exact(by rfl))
   ·cases t2:decide ((x.data.length:Int) > 4096)
    ·cases t3:decide ((x.data.length:Int) > 65536)
     ·rw[t1,t2,t3]at hb;simp only[t2,t3,h16,e1,eE,seval];exact⟨v.raws.length-(i+1),by omega,_,_,i+1,rfl,rfl,ok hb,(by exact h4),(by exact h6),(by exact h9),(by rfl),(by exact m4),(by exact m6'),(by exact m9'),by simp<;>rfl⟩
     ·rw[t1,t2,t3]at hb;simp only[t2,t3,eE,seval];exact q1 (by rw[no hb];decide) _ _ (by rw[no hb];exact(by rfl))
    ·rw[t1,t2]at hb;simp only[t2,eE,seval];exact q1 (by rw[no hb];decide) _ _ (by rw[no hb];exact(by rfl))
 ·rw[JY hlt]at hx;simp only[Qx hlt,Qa,seval];exact q2 hx _ _

include hg hv in
theorem Rk (fr:Nat→Ob)(m6:fr 6=.cells (vc v))(m9:fr 9=.cells g.cells)(f:Fr)(h4:f 4=.ptr 0 4 0)(h6:f 6=.ptr 0 6 0)(h9:f 9=.ptr 0 9 0)(h15:f 15=.int .i64 0)(Q:Exit→St→Prop)
  (q1:KD g v.slots=true→∀f,f 8=.int .i64 14→Q .ret (⟨f,[fr],[]⟩:St))
  (q2:KD g v.slots=false→∀f,f 4=.ptr 0 4 0→f 6=.ptr 0 6 0→f 9=.ptr 0 9 0→Q (.exit 2) (⟨f,[fr],[]⟩:St)):QG Tryz.prog (.loop S4) ⟨f,[fr],[]⟩ Q:=by
 let I:Nat→St→Prop:=fun k st=>∃f i,st=⟨f,[fr],[]⟩∧k=g.ops.length-i∧i≤g.ops.length∧(g.ops.take i).any (KH v.slots)=false∧f 4=.ptr 0 4 0∧f 6=.ptr 0 6 0∧f 9=.ptr 0 9 0∧f 15=.int .i64 (i:Nat)
 refine Qd I _ ⟨f,0,rfl,rfl,QUv _,by simp,h4,h6,h9,h15⟩ ?_;clear h4 h6 h9 h15;rintro _ st ⟨f,i,rfl,rfl,hil,hq,h4,h6,h9,h15⟩;simp only[PG.cells]at m9;simp only[vc]at m6;simp only[QVh,h9,h15,m9,eE,seval];by_cases hlt:i<g.ops.length
 ·obtain⟨o,hi⟩:∃o,g.ops[i]? = some o:=⟨g.ops[i],QUo hlt⟩;have hgi:=QwF hi;have e1:=Qm i _ hlt hg.len;have c1:=v47 v (by have:=hv.ns;simp only[maxLen];omega) o.num;rw[Qr]at c1;have ht:(g.ops.take (i+1)).any (KH v.slots)=KH v.slots o:=by
   rw[QV6,hi,List.any_append,hq];simp
  have hmi:KH v.slots o=(o.card==1 && !v.slots.any fun y=>y.1==o.num):=rfl;simp only[Ql hlt,Qh,QVN,Qb,hgi,h9,h15,m9,eE,seval];cases a1:(o.card==1)
  ·rw[a1,QVQ]at hmi;simp only[h15,e1,Qa,seval];exact⟨g.ops.length-(i+1),by omega,_,i+1,rfl,rfl,by omega,by rw[ht,hmi],(by exact h4),(by exact h6),(by exact h9),(by rfl)⟩
  ·rw[a1,QVZ]at hmi;simp only[Qh,QVN,Qb,hgi,h6,h9,h15,m6,m9,eE,seval];refine aC c1 ?_;cases a2:v.slots.any (fun y=>y.1==o.num)
   ·rw[a2]at hmi;have hany:KD g v.slots=true:=QWf.2 ⟨o,QUA hi,by show KH v.slots o=true;rw[hmi];rfl⟩;simp only[Qa,seval];exact q1 hany _ (by rfl)
   ·rw[a2]at hmi;simp only[h15,e1,Qa,seval];exact⟨g.ops.length-(i+1),by omega,_,i+1,rfl,rfl,by omega,by rw[ht,hmi];rfl,(by exact h4),(by exact h6),(by exact h9),(by rfl)⟩
 ·have hq':KD g v.slots=false:=by rw[DO,←hq,QUV (by omega)]
  simp only[Qx hlt,Qa,seval];exact q2 hq' _ (by exact h4) (by exact h6) (by exact h9)

def SsI (m:PG→V→Int)(P:PL)(lv:Int)(g:PG)(v:V)(k:Nat)(st:St):Prop :=
 ∃f fr i,st=⟨f,[fr],[]⟩∧k=v.slots.length-i∧Xd (XG m P g v.slots) v.slots.length 0=Xd (XG m P g v.slots) (v.slots.length-i) i∧f 3=.int .i64 lv∧f 4=.ptr 0 4 0∧f 6=.ptr 0 6 0∧f 9=.ptr 0 9 0∧f 10=.int .i64 (i:Nat)∧fr 4=.cells [.list (P.progs.map Qi),.list (P.enums.map Qq)]∧fr 6=.cells (vc v)∧fr 9=.cells g.cells∧fr 17=.none∧∀s∈[12],(fr s).isRow=false

include hg hv in
theorem NP (hfi:∀o∈g.ops,∀v:V,v.ok M→Qk Tryz.prog 46 [P.av,Qs o,v.av,.int .i64 lv] (.int .i64 (QT m P o v)))
  (f:Fr) (fr:Nat→Ob) (h3:f 3=.int .i64 lv) (h4:f 4=.ptr 0 4 0) (h6:f 6=.ptr 0 6 0) (h9:f 9=.ptr 0 9 0) (h10:f 10=.int .i64 0)
  (m4:fr 4=.cells [.list (P.progs.map Qi),.list (P.enums.map Qq)]) (m6:fr 6=.cells (vc v)) (m9:fr 9=.cells g.cells) (UW:fr 17=.none) (Kd:∀s∈[12],(fr s).isRow=false) (Q:Exit→St→Prop)
  (q1:Xd (XG m P g v.slots) v.slots.length 0≠0→∀f fr,f 8=.int .i64 (Xd (XG m P g v.slots) v.slots.length 0)→Q .ret (⟨f,[fr],[]⟩:St))
  (q2:Xd (XG m P g v.slots) v.slots.length 0=0→∀f fr,f 4=.ptr 0 4 0→f 6=.ptr 0 6 0→f 9=.ptr 0 9 0→fr 4=.cells [.list (P.progs.map Qi),.list (P.enums.map Qq)]→fr 6=.cells (vc v)→fr 9=.cells g.cells→fr 17=.none→Q (.exit 0) (⟨f,[fr],[]⟩:St)) :
  QG Tryz.prog (.loop S3) ⟨f,[fr],[]⟩ Q:=by
 have e0:P.av=.agg [.list (P.progs.map Qi),.list (P.enums.map Qq)]:=rfl;have hn:v.slots.length≤maxLen:=by have:=hv.ns;simp only[maxLen];omega
 have co:=fun n=>y45 g hg.len n
 simp only[KG]at co;simp only[Qi,PG.cells]at co;refine Qd (SsI m P lv g v) _ ⟨f,fr,0,rfl,rfl,rfl,h3,h4,h6,h9,h10,m4,m6,m9,UW,Kd⟩ ?_;clear h3 h4 h6 h9 h10 m4 m6 m9 UW Kd;rintro _ st ⟨f0,fr0,i,rfl,rfl,hx,h30,h40,h60,h90,h100,m40,m60,m90,n170,Kd⟩;refine QK (a:=_) [12] Kd ?_;intro f fr hf hm hn12;have h3:f 3=.int .i64 lv:=by rw[hf,h30]<;>rfl
 have h4:f 4=.ptr 0 4 0:=by rw[hf,h40]<;>rfl
 have h6:f 6=.ptr 0 6 0:=by rw[hf,h60]<;>rfl
 have h9:f 9=.ptr 0 9 0:=by rw[hf,h90]<;>rfl
 have h10:f 10=.int .i64 (i:Nat):=by rw[hf,h100]<;>rfl
 have m4:fr 4=.cells [.list (P.progs.map Qi),.list (P.enums.map Qq)]:=by rw[hm 4 (by decide),m40]<;>rfl
 have m6:fr 6=.cells (vc v):=by rw[hm 6 (by decide),m60]<;>rfl
 have m9:fr 9=.cells g.cells:=by rw[hm 9 (by decide),m90]<;>rfl
 have UW:fr 17=.none:=by rw[hm 17 (by decide),n170]<;>rfl
 have n12:=hn12 12 (by decide);clear hf hm hn12 h30 h40 h60 h90 h100 m40 m60 m90 n170 Kd;have m6':=m6;have m9':=m9;simp only[PG.cells]at m9;simp only[vc]at m6;simp only[QVh,h6,h10,m6,eE,seval];by_cases hlt:i<v.slots.length
 ·obtain⟨x,hi⟩:∃x,v.slots[i]? = some x:=⟨v.slots[i],QUo hlt⟩;have hgi:=Jv hi;have e1:=Qm i _ hlt hn;have c1:=v44 g hg v.slots hn i hlt;simp only[Qi,PG.cells]at c1;obtain⟨sA,sB⟩:=Qay (m:=m) (P:=P) (g:=g) hi;simp only[Ql hlt,h6,h9,h10,m6,m9,eE,seval];refine aC c1 ?_;by_cases hz:Yc g v.slots i=0
  ·have d0:((0:Int) != 0)=false:=rfl;obtain⟨o,ho,hF⟩:=sB hz;have hom:=(Zd ho).1;have c2:=co x.1;rw[ho]at c2;have c3:=hfi o hom x.2 (hv.slots x (QUA hi));rw[e0,Qr]at c3;simp only[Qs,PO.cells]at c3;simp only[hz,d0,Qh,QVN,Qb,hgi,QUU,QU4,h6,h9,h10,m6,m9,eE,seval];refine aC c2 ?_;simp only[QVw,QWc,Qs,PO.cells,n12,Qh,QVN,Qb,hgi,h3,h4,h6,h10,m4,m6,eE,seval];refine aC c3 ?_;by_cases hy:QT m P o x.2=0
   ·rw[KU hlt (hF.trans hy)]at hx;simp only[hy,d0,h10,e1,Qa,seval];exact⟨v.slots.length-(i+1),by omega,_,_,i+1,rfl,rfl,hx,(by exact h3),(by exact h4),(by exact h6),(by exact h9),(by rfl),(by exact m4),(by exact m6'),(by exact m9'),(by exact UW),by simp<;>rfl⟩
   ·rw[ZD hlt hF hy]at hx;have d1:(QT m P o x.2 != 0)=true:=by simp[hy]
    simp only[d1,Qa,seval];exact q1 (by rw[hx];exact hy) _ _ (by rw[hx];exact(by rfl))
  ·rw[ZD hlt (sA hz) hz]at hx;have d1:(Yc g v.slots i != 0)=true:=by simp[hz]
   simp only[d1,Qa,seval];exact q1 (by rw[hx];exact hz) _ _ (by rw[hx];exact(by rfl))
 ·rw[JY hlt]at hx;simp only[Qx hlt,Qa,seval];exact q2 hx _ _ (by exact h4) (by exact h6) (by exact h9) (by exact m4) (by exact m6') (by exact m9') (by exact UW)

include hP hM in
theorem v20 (hU:Yy P):∀n:Nat,n≤16→∀(t:Int) (g:PG),P.progs[t.toNat]? = some g→0≤t→∀v:V,v.ok M→Qk Tryz.prog 20 [P.av,.int .i64 t,v.av,.int .i64 (17-(n:Int))] (.int .i64 (Q9 P n g v)):=by
 have e0:P.av=.agg [.list (P.progs.map Qi),.list (P.enums.map Qq)]:=rfl;intro n
 induction n with
 |zero=>
  intro _ t g _ _ v hv;have co:=CP v hv;rw[Qr]at co;rw[Qr];have d0:decide ((17:Int)-((0:Nat):Int) > 16)=true:=rfl;refine k20.fn (by simp) ?_;simp only[e0,Q9,eE,seval];cases a1:(v.kd != 10)
  ·simp only[QV3,eE,seval];refine aC co ?_;cases v.oth
   ·simp only[QUG,Qa,seval]
   ·simp only[Qa,seval]
  ·simp only[QV2,Qa,seval]
 |succ n ih=>
  intro hn16 t g ht t0 v hv;have hgm:=QUA ht;have hg:=hP.progs g hgm;have hu:=hU g hgm;have hw:IntKind.i64.wrap (17-((n+1:Nat):Int)+1)=17-(n:Int):=by rw[QF];omega
  have hel:=fun(o:PO) (ho:o∈g.ops) (x:V) (hx:x.ok M)=>v75 hP hM hw (fun t g ht t0 v hv=>ih (by omega) t g ht t0 v hv) o (hu o ho) x hx
  have hfi:=fun(o:PO) (ho:o∈g.ops) (x:V) (hx:x.ok M)=>v46 hP hM o (hu o ho) x hx (hel o ho)
  have co:=CP v hv;rw[Qr]at co;rw[Qr];obtain⟨i,hti⟩:=QV1 t0;rw[hti,QVN]at ht;have hga:(P.progs.map Qi)[i]? = some (.agg g.cells):=by simp[ht,Qi]
  simp only[PG.cells]at hga;have d0:decide ((17:Int)-((n+1:Nat):Int) > 16)=false:=QWb (by omega);refine k20.fn (by simp) ?_;simp only[e0,hti,Q9,eE,seval];cases a1:(v.kd != 10)
  ·simp only[QV3,eE,seval];refine aC co ?_;cases v.oth
   ·simp only[d0,Qh,QVN,Qb,hga,QUG,eE,seval];unfold Wf;refine NP (lv:=17-((n+1:Nat):Int)) g hg v hv hfi _ _ (by rfl) (by rfl) (by rfl) (by rfl) (by rfl) (by rfl) (by rfl) (by rfl) (by rfl) (by simp<;>rfl) _ (fun hx f fr h8=>?_) (fun hx f fr h4 h6 h9 m4 m6 m9 UW=>?_)
    ·rw[QUB hx];simp only[h8,Qa,seval]
    ·rw[QUQ hx];simp only[Qa,seval];refine Rk g hg v hv fr m6 m9 _ (by exact h4) (by exact h6) (by exact h9) (by rfl) _ (fun hx f h8=>?_) (fun hx f h4 h6 h9=>?_)
     ·rw[hx];simp only[h8,Qa,seval]
     ·rw[hx];simp only[QUG,Qa,seval];refine C4 hP g hg v hv hu _ _ (by exact h4) (by exact h6) (by exact h9) (by rfl) m4 m6 m9 (by simp only[QVI,QWv,or_false,forall_eq,UW]<;>rfl) _ (fun hx f fr h8=>?_) (fun hx f fr=>?_)
      ·simp only[h8,Qa,seval]
      ·simp only[hx,Qa,seval]
   ·simp only[Qa,seval]
  ·simp only[QV2,Qa,seval]

end

def XT (P:PL)(t:Int)(v:V):Int :=
 if t<0∨t≥(P.progs.length:Int)then 10 else if Q9 P 16 (QL P t) v=0 then(if IntKind.i64.wrap (v.cnt:Int) > 4096 then 3 else 0)else Q9 P 16 (QL P t) v

section
variable {M:Nat}{P:PL}(hP:P.ok M)(hM:M≤140737488351232)(hU:Yy P)(t:Int)(v:V)(hv:v.ok M)

include hP hU hv in
theorem v30:Qk Tryz.prog 30 [P.av,.int .i64 t,v.av] (.int .i64 (XT P t v)):=by
 have e0:P.av=.agg [.list (P.progs.map Qi),.list (P.enums.map Qq)]:=rfl;rw[Qr];refine k30.fn (by simp) ?_;simp only[e0,eE,seval];unfold XT;by_cases t0:t<0
 ·have d0:decide (t<0)=true:=QWi t0;rw[QUQ (.inl t0)];simp only[d0,Qa,seval]
 have d0:decide (t<0)=false:=QWb t0;by_cases t1:t≥(P.progs.length:Int)
 ·have d1:decide (t≥(P.progs.length:Int))=true:=QWi t1;rw[QUQ (.inr t1)];simp only[d0,d1,QVh,eE,seval]
 have d1:decide (t≥(P.progs.length:Int))=false:=QWb t1;rw[QUB (by omega)];obtain⟨i,hi⟩:=QV1 (by omega:0≤t);subst hi;have hlt:i<P.progs.length:=by omega
 obtain⟨g,hg⟩:∃g,P.progs[i]? = some g:=⟨P.progs[i],QUo hlt⟩;have hga:(P.progs.map Qi)[i]? = some (.agg g.cells):=by simp[hg,Qi]
 have hq:QL P (i:Int)=g:=by unfold QL;rw[QVN,hg];rfl
 have c1:=v58 hP hU 16 (QUm _) g (QUA hg) v hv;have e16:(17:Int)-((16:Nat):Int)=1:=rfl;have ht:=Sd (P:=P) 16 g v hv;rw[e16,e0,Qr]at c1;simp only[Qi,PG.cells]at c1;simp only[PG.cells]at hga;rw[hq];simp only[d0,d1,Qh,QVN,Qb,hga,QVh,QUU,QVu,QUX,QU4,splice,eE,seval];refine aC c1 ?_;by_cases hz:Q9 P 16 g v=0
 ·have c2:=v59 v (ht hz);rw[Qr]at c2;have b0:((0:Int) != 0)=false:=rfl;rw[QUQ hz];simp only[hz,b0,eE,seval];refine aC c2 ?_;by_cases hc:IntKind.i64.wrap (v.cnt:Int) > 4096
  ·have d2:decide (IntKind.i64.wrap (v.cnt:Int) > 4096)=true:=QWi hc;rw[QUQ hc];simp only[d2,Qa,seval]
  ·have d2:decide (IntKind.i64.wrap (v.cnt:Int) > 4096)=false:=QWb hc;rw[QUB hc];simp only[d2,Qa,seval]
 ·have b1:(Q9 P 16 g v != 0)=true:=by simp[hz]
  rw[QUB hz];simp only[b1,Qa,seval]

include hP hM hU hv in
theorem v7:Qk Tryz.prog 7 [P.av,.int .i64 t,v.av] (.int .i64 (XT P t v)):=by
 have e0:P.av=.agg [.list (P.progs.map Qi),.list (P.enums.map Qq)]:=rfl;rw[Qr];refine k7.fn (by simp) ?_;simp only[QmL,QmM,QmN,QmO,QmP,QmQ,QmR,QmS,QmT,r7,o7,e0,eE,seval];unfold XT;by_cases t0:t<0
 ·have d0:decide (t<0)=true:=QWi t0;rw[QUQ (.inl t0)];simp only[d0,Qa,seval]
 have d0:decide (t<0)=false:=QWb t0;by_cases t1:t≥(P.progs.length:Int)
 ·have d1:decide (t≥(P.progs.length:Int))=true:=QWi t1;rw[QUQ (.inr t1)];simp only[d0,d1,QVh,eE,seval]
 have d1:decide (t≥(P.progs.length:Int))=false:=QWb t1;rw[QUB (by omega)];have hlt:t.toNat<P.progs.length:=by omega
 obtain⟨g,hg⟩:∃g,P.progs[t.toNat]? = some g:=⟨P.progs[t.toNat],QUo hlt⟩;have hq:QL P t=g:=by unfold QL;rw[hg];rfl
 have c1:=v20 hP hM hU 16 (QUm _) t g hg (by omega) v hv;have e16:(17:Int)-((16:Nat):Int)=1:=rfl;rw[e16,e0,Qr]at c1;rw[hq];simp only[d0,d1,QVh,eE,seval];refine aC c1 ?_;by_cases hz:Q9 P 16 g v=0
 ·have c2:=v21 v hv;rw[Qr]at c2;have b0:((0:Int) != 0)=false:=rfl;rw[QUQ hz];simp only[hz,b0,eE,seval];refine aC c2 ?_;by_cases hc:IntKind.i64.wrap (v.cnt:Int) > 4096
  ·have d2:decide (IntKind.i64.wrap (v.cnt:Int) > 4096)=true:=QWi hc;rw[QUQ hc];simp only[d2,Qa,seval]
  ·have d2:decide (IntKind.i64.wrap (v.cnt:Int) > 4096)=false:=QWb hc;rw[QUB hc];simp only[d2,Qa,seval]
 ·have b1:(Q9 P 16 g v != 0)=true:=by simp[hz]
  rw[QUB hz];simp only[b1,Qa,seval]

end
end Go.Proofs.YtdhlbgejhcejcaaGreatDoor.Va

namespace Go.Proofs.YtdhlbgejhcejcaaGreatDoor.Va
open Go Am Rc Bt Br

open Up So

theorem Fv {P:Program}{K:St→Prop}{Qe:List Am.Item}{f:Fr}{m:Qo}{ds:List DF}{d:Nat}{sz bytes el:Nat}{s r:RA}{site g n site' g' n':Nat}{fr:Nat→Ob}{xs ys:List AV}(hs:s.ev f=.vec 0 site g 0 n false)(hl:fr site=.vec g sz xs)(ht:XP site el=true)(hn:n=xs.length)
  (hr:r.ev f=.vec 0 site' g' 0 n' false) (hr2:fr site'=.vec g' sz ys) (hn':n'=ys.length) (hz:ys.all (fun e=>e.cells.length==sz)=true) (hm:n+ys.length≤maxLen) (hb:(n+ys.length)*bytes≤140737488355328)
  (h:QE P Qe ⟨QI f d (.vec 0 site (g+1) 0 (n+ys.length) false),QI fr site (.vec (g+1) sz (xs++ys)) :: m,ds⟩ K):QE P (⟨some d,.app sz bytes el s r,none⟩ :: Qe) ⟨f,fr :: m,ds⟩ K:=by
 refine⟨0,site,g,n,xs,ys,hs,hl,ht,by omega,?_,hz,hm,hb,?_⟩
 ·show Xe (fr :: m) (r.ev f)=some ys;rw[hr];exact WY hr2 hn'
 ·subst hn;rw[QVX];exact h

theorem QaR (l O:List R)(i:Nat)(x:R)(hx:l[i]? = some x)(hO:O.length≤maxLen)(hs:Zc (fun x y:R=>decide (x.num<y.num)) O)(fr:Nat→Ob)(f:Fr)(h0:f 0=.list (l.map R.av))(h3:f 3=.list (O.map R.av))(h4:f 4=.int .i64 (i:Nat))(h5:f 5=.int .i64 (O.length:Nat))(Q:Exit→St→Prop)
  (q:∀(t:Nat) (f:Fr),t≤O.length→(∀j u,t≤j→O[j]? = some u→decide (x.num<u.num)=true)→(∀j u,j<t→O[j]? = some u→decide (x.num<u.num)=false)→f 0=.list (l.map R.av)→f 3=.list (O.map R.av)→f 4=.int .i64 (i:Nat)→f 5=.int .i64 (t:Nat)→Q (.exit 2) (⟨f,[fr],[]⟩:St)) :
  QG Tryz.prog (.loop S6) ⟨f,[fr],[]⟩ Q:=by
 let I:Nat→St→Prop:=fun k st=>∃f t,st=⟨f,[fr],[]⟩∧k=t∧t≤O.length∧(∀j u,t≤j→O[j]? = some u→decide (x.num<u.num)=true)∧f 0=.list (l.map R.av)∧f 3=.list (O.map R.av)∧f 4=.int .i64 (i:Nat)∧f 5=.int .i64 (t:Nat)
 refine Qd I _ ⟨f,O.length,rfl,rfl,QUm _,(by intro j u hj hu;rw[QVK hj]at hu;cases hu),h0,h3,h4,h5⟩ ?_;clear h0 h3 h4 h5;rintro t st ⟨f,_,rfl,rfl,ht,hv,h0,h3,h4,h5⟩;have hxa:=HM hx;simp only[h5,Qa,seval];cases t with
 |zero=>
  have d1:decide (((0:Nat):Int) > 0)=false:=by simp
  simp only[Qa,seval];exact q 0 _ (QUv _) hv (fun j u hj=>by omega) (by exact h0) (by exact h3) (by exact h4) (by exact h5)
 |succ r=>
  obtain⟨u,hu⟩:∃u,O[r]? = some u:=⟨O[r]'(by omega),QUo (by omega)⟩;have hua:=HM hu;have d1:decide (((r+1:Nat):Int) > 0)=true:=by simp only[QUs];omega
  have e2:IntKind.i64.wrap (((r+1:Nat):Int)-1)=((r:Nat):Int):=by
   simp only[maxLen]at hO;rw[QF];omega
  simp only[d1,e2,Qh,QVN,Qb,hxa,hua,h0,h3,h4,h5,eE,seval];cases hcx:decide (u.num > x.num)
  ·simp only[Qa,seval];refine q (r+1) _ ht hv (fun j u' hj hu'=>?_) (by exact h0) (by exact h3) (by exact h4) (by exact h5);have:=KV hs BX (show j≤r by omega) hu' hu;exact BX.nt x u u' hcx this
  ·simp only[e2,h5,Qa,seval];exact⟨r,by omega,_,r,rfl,rfl,by omega,(by
    intro j v hj hv';rcases Nat.lt_or_eq_of_le hj with h|h
    ·exact hv j v h hv'
    ·subst h;rw[hu]at hv';cases hv';exact hcx),(by exact h0),(by exact h3),(by exact h4),(by rfl)⟩

def RwI (l:List R)(k:Nat)(st:St):Prop :=
 ∃f fr i,st=⟨f,[fr],[]⟩∧k=l.length-i∧i≤l.length∧f 0=.list (l.map R.av)∧f 3=.list ((X7 (l.take i)).map R.av)∧f 4=.int .i64 (i:Nat)∧Qu (fr 37)=true∧Qu (fr 42)=true

set_option maxHeartbeats 1000000 in
theorem v25 (l:List R)(hn:l.length≤1048576):Qk Tryz.prog 25 [.list (l.map R.av)] (.list ((X7 l).map R.av)):=by
 refine k25.fn (by simp) ?_;simp only[Qa,seval];refine Bd (by simp only[Qa,seval]) ?_;simp only[Qa,seval];refine Qd (RwI l) _ ⟨_,_,0,rfl,rfl,QUv _,(by rfl),rfl,(by rfl),rfl,rfl⟩ ?_;rintro _ st ⟨f,fr,i,rfl,rfl,hil,h0,h3,h4,r37,r42⟩;simp only[QVh,h0,h4,Qa,seval];by_cases hlt:i<l.length
 ·obtain⟨x,hi⟩:∃x,l[i]? = some x:=⟨l[i],QUo hlt⟩;have hxa:=HM hi;have e1:=Qm i _ hlt (by simp only[maxLen];omega);have hp:(X7 (l.take i)).Perm (l.take i):=Q3 _;have hO:(X7 (l.take i)).length=i:=by rw[hp.length_eq,QVj];omega
  clear hp;have hstep:X7 (l.take (i+1))=mg (fun x y:R=>decide (x.num<y.num)) (X7 (l.take i)) [x]:=by
   rw[QV6,hi,QV7];exact(WF BX (l.take i) [x]).symm
  have hsrt:Zc (fun x y:R=>decide (x.num<y.num)) (X7 (l.take i)):=X6 BX _;generalize X7 (l.take i)=O at *;simp only[Ql hlt,QVh,h3,Qa,seval];refine QaR l O i x hi (by simp only[maxLen];omega) hsrt fr _ (by exact h0) (by exact h3) (by exact h4) (by rfl) _ (fun t f ht hv hlow h0 h3 h4 h5=>?_);have hfin:(O.take t).map R.av++([x.av]++(O.drop t).map R.av)=(X7 (l.take (i+1))).map R.av:=by
   have:=YZ (lt:=fun x y:R=>decide (x.num<y.num)) (y:=x) (X1:=O.take t) (X2:=O.drop t) (fun u hu=>by
    obtain⟨j,hj⟩:=QWA hu;rw[QU0]at hj;split at hj
    ·rename_i hjt;exact hlow j u hjt hj
    ·cases hj) (fun u hu=>by
    obtain⟨j,hj⟩:=QWA hu;rw[QU1]at hj;exact hv _ u (by omega) hj)
   rw[QVC]at this;rw[hstep,this];simp
  have hle:(t≤O.length)=True:=eq_true ht;have hdt:∀l':List AV,l'.length=O.length→(l'.drop t).take (O.length-t)=l'.drop t:=fun l' h=>QUV (by rw[QU2];omega)
  have hd1:((O.drop t).map R.av).length=i-t:=by rw[QVh,QU2];omega
  have hd2:((O.take t).map R.av).length=t:=by rw[QVh,QVj];omega
  have hT:∀j,i+1≤j→List.take j ((O.take t).map R.av++([x.av]++(O.drop t).map R.av))=(X7 (l.take (i+1))).map R.av:=fun j hj=>by
   rw[QUV (by simp only[QUZ,QUC,QVi,hd1,hd2];omega),hfin]
  simp only[Qh,QVN,Qb,hxa,h0,h4,eE,seval];refine Gy (l:=[.int .i64 x.num,.int .i64 x.wire,.int .u64 (x.bits:Nat),.str x.data]) rfl rfl (by decide) rfl rfl r37 ?_;simp only[nn0,QUT,QVn,QVh,ZA,Q1,QVW,Qh,QVN,hle,QUm,or_true,WN,hdt _ (QVh ..),h3,h5,Qa,seval];refine QO (site:=37) (g:=Xn (fr 37)) (n:=1) (xs:=[x.av]) (ys:=(O.drop t).map R.av) (by simp only[Qa,seval]) (by simp only[R.av,Qa,seval]) rfl rfl (by simp only[List.map_drop,Qa,seval]) (WN _) (by rw[hd1];simp only[maxLen];omega) (by rw[hd1];omega) ?_;simp only[Qa,seval];refine ZC (by simp only[Qa,seval];exact r42) ?_;simp only[QVh,ZA,Zq,Q1,QVW,Qh,QVN,QUv,QUm,hle,true_or,QVF,QU4,←List.map_take,h3,h5,Qa,seval];refine QO (site:=42) (g:=_) (n:=0) (xs:=[]) (ys:=(O.take t).map R.av) (by simp only[Qa,seval]<;>rfl) (by simp only[Qa,seval]) rfl rfl (by simp only[Qa,seval]) (WN _) (by rw[hd2];simp only[maxLen];omega) (by rw[hd2];omega) ?_;simp only[Qa,seval];refine Fv (site:=42) (g:=_) (n:=0+((O.take t).map R.av).length) (xs:=(O.take t).map R.av) (ys:=[x.av]++(O.drop t).map R.av) (by simp only[Qa,seval]<;>rfl) (by simp only[Qa,seval]) rfl (by omega) (by simp only[Qa,seval]<;>rfl) (by simp only[Qa,seval]) (by simp only[QUZ,QUC,QVi,QVh]<;>omega) (WN (x :: O.drop t)) (by simp only[QUZ,QUC,QVi,hd1,hd2,maxLen];omega) (by simp only[QUZ,QUC,QVi,hd1,hd2];omega) ?_;simp only[Qa,seval];refine N1 (site:=42) (g:=_) (sz:=4) (n:=_) (xs:=(O.take t).map R.av++([x.av]++(O.drop t).map R.av)) (by simp only[Qa,seval]<;>rfl) (by simp only[Qa,seval]) (by simp only[QUZ,QUC,QVi,hd1,hd2];omega) ?_;rw[hT];rotate_left
  ·simp only[hd1,hd2];omega
  simp only[e1,h4,Qa,seval];exact⟨l.length-(i+1),by omega,_,_,i+1,rfl,rfl,by omega,(by exact h0),(by rfl),(by rfl),rfl,rfl⟩
 ·have hli:l.take i=l:=QUV (by omega);rw[hli]at h3;simp only[Qx hlt,h3,Qa,seval]

theorem Qxt (k:Int)(a b:V)(_ha:a.bits<18446744073709551616)(_hb:b.bits<18446744073709551616):decide (UN k a.bits a.text b.bits b.text<0)=kl k a b:=by
 unfold UN kl;split
 ·exact AT _ _
 ·rw[FI];unfold Kn;split
  ·rw[decide_eq_decide,Wz,Wz,QF,QF];omega
  ·rfl

section
variable {P:PL}{k:Int}(hk:X8 k)(ps:List (V×V))(hn:ps.length≤1048576)(h1:∀p∈ps,p.1.one P k (-1)=0)(hb:∀p∈ps,p.1.bits<18446744073709551616)

include hk in
theorem NA {p q:V×V}(hp:p.1.one P k (-1)=0)(hq:q.1.one P k (-1)=0):Qk Tryz.prog 78 [p.1.av,q.1.av] (.int .i64 (UN k p.1.bits p.1.text q.1.bits q.1.text)):=by
 have h:=v78 k hk p.1.bits q.1.bits p.1.text q.1.text;rw[←(ZL hp).1,←(ZL hq).1]at h;exact h

theorem Rl (hk:X8 k)(hn:ps.length≤1048576)(h1:∀p∈ps,p.1.one P k (-1)=0)(hb:∀p∈ps,p.1.bits<18446744073709551616)(hu:ps.Pairwise fun q p=>Zw q.1 p.1=false)(O:List (V×V))(i:Nat)(x:V×V)(hx:ps[i]? = some x)(fr:Nat→Ob)(f:Fr)(h0:f 0=.list (ps.map V.pav))(h3:f 3=.list (O.map V.pav))(h4:f 4=.int .i64 (i:Nat))(h5:f 5=.bool true)(h6:f 6=.int .i64 ((i+1:Nat):Int))(Q:Exit→St→Prop)
  (q:∀f:Fr,f 0=.list (ps.map V.pav)→f 3=.list (O.map V.pav)→f 4=.int .i64 (i:Nat)→f 5=.bool true→Q (.exit 2) (⟨f,[fr],[]⟩:St)) :
  QG Tryz.prog (.loop TC) ⟨f,[fr],[]⟩ Q:=by
 let I:Nat→St→Prop:=fun n st=>∃f j,st=⟨f,[fr],[]⟩∧n=ps.length-j∧i<j∧f 0=.list (ps.map V.pav)∧f 3=.list (O.map V.pav)∧f 4=.int .i64 (i:Nat)∧f 5=.bool true∧f 6=.int .i64 (j:Nat)
 refine Qd I _ ⟨f,i+1,rfl,rfl,by omega,h0,h3,h4,h5,h6⟩ ?_;clear h0 h3 h4 h5 h6;rintro _ st ⟨f,j,rfl,rfl,hij,h0,h3,h4,h5,h6⟩;simp only[QVh,h0,h6,Qa,seval];by_cases hlt:j<ps.length
 ·obtain⟨y,hj⟩:∃y,ps[j]? = some y:=⟨ps[j],QUo hlt⟩;have hgx:=ZT hx;have hgy:=ZT hj;have e1:=Qm j _ hlt (by simp only[maxLen];omega);have hxm:=QUA hx;have hym:=QUA hj;have c1:=NA hk (h1 x hxm) (h1 y hym);have hne:UN k x.1.bits x.1.text y.1.bits y.1.text≠0:=by
   have h:=VA hk (h1 x hxm) (h1 y hym) (hb x hxm) (hb y hym);rw[QWt]at hu;have:=hu i j (QUn.1 hx).1 hlt hij;rw[(QUn.1 hx).2,(QUn.1 hj).2]at this;rw[this]at h
   simpa using h
  have d1:(UN k x.1.bits x.1.text y.1.bits y.1.text != 0)=true:=by simp[hne]
  rw[Qr,Qr]at c1;simp only[Ql hlt,Qh,QVN,Qb,hgx,hgy,QUU,QVu,QU4,h0,h4,h5,h6,eE,seval];refine aC c1 ?_;simp only[d1,h6,e1,Qa,seval];exact⟨ps.length-(j+1),by omega,_,j+1,rfl,rfl,by omega,(by exact h0),(by exact h3),(by exact h4),(by rfl),(by rfl)⟩
 ·simp only[Qx hlt,Qa,seval];exact q _ (by exact h0) (by exact h3) (by exact h4) (by exact h5)

theorem C5 (hk:X8 k)(O:List (V×V))(hO:O.length≤1048576)(hO1:∀p∈O,p.1.one P k (-1)=0)(hOb:∀p∈O,p.1.bits<18446744073709551616)(i:Nat)(x:V×V)(hx:ps[i]? = some x)(hx1:x.1.one P k (-1)=0)(hxb:x.1.bits<18446744073709551616)(fr:Nat→Ob)(f:Fr)(h0:f 0=.list (ps.map V.pav))(h3:f 3=.list (O.map V.pav))(h4:f 4=.int .i64 (i:Nat))(h7:f 7=.int .i64 0)(Q:Exit→St→Prop)
  (q:∀(t:Nat) (f:Fr),t≤O.length→(∀j u,j<t→O[j]? = some u→kl k u.1 x.1=true)→(∀u,O[t]? = some u→kl k u.1 x.1=false)→f 0=.list (ps.map V.pav)→f 3=.list (O.map V.pav)→f 4=.int .i64 (i:Nat)→f 7=.int .i64 (t:Nat)→Q (.exit 4) (⟨f,[fr],[]⟩:St)) :
  QG Tryz.prog (.loop TD) ⟨f,[fr],[]⟩ Q:=by
 let I:Nat→St→Prop:=fun n st=>∃f t,st=⟨f,[fr],[]⟩∧n=O.length-t∧t≤O.length∧(∀j u,j<t→O[j]? = some u→kl k u.1 x.1=true)∧f 0=.list (ps.map V.pav)∧f 3=.list (O.map V.pav)∧f 4=.int .i64 (i:Nat)∧f 7=.int .i64 (t:Nat)
 refine Qd I _ ⟨f,0,rfl,rfl,QUv _,(by intro j u hj;omega),h0,h3,h4,h7⟩ ?_;clear h0 h3 h4 h7;rintro _ st ⟨f,t,rfl,rfl,ht,hv,h0,h3,h4,h7⟩;simp only[QVh,h3,h7,Qa,seval];by_cases hlt:t<O.length
 ·obtain⟨u,hu⟩:∃u,O[t]? = some u:=⟨O[t],QUo hlt⟩;have hgx:=ZT hx;have hgu:=ZT hu;have hum:=QUA hu;have e1:=Qm t _ hlt (by simp only[maxLen];omega);have c1:=NA hk (hO1 u hum) hx1;have hc:=Qxt k u.1 x.1 (hOb u hum) hxb;rw[Qr,Qr]at c1;simp only[Ql hlt,Qh,QVN,Qb,hgx,hgu,QUU,QVu,QU4,h0,h3,h4,h7,eE,seval];refine aC c1 ?_;cases hl:kl k u.1 x.1
  ·rw[hl]at hc;simp only[hc,Qa,seval];exact q t _ (by omega) hv (fun u' hu'=>by rw[hu]at hu';cases hu';exact hl) (by exact h0) (by exact h3) (by exact h4) (by exact h7)
  ·rw[hl]at hc;simp only[hc,h7,e1,Qa,seval];exact⟨O.length-(t+1),by omega,_,t+1,rfl,rfl,by omega,(by
    intro j u' hj hu';rcases Nat.lt_or_eq_of_le (show j≤t by omega)with h|h
    ·exact hv j u' h hu'
    ·subst h;rw[hu]at hu';cases hu';exact hl),(by exact h0),(by exact h3),(by exact h4),(by rfl)⟩
 ·simp only[Qx hlt,Qa,seval];exact q t _ ht hv (fun u hu=>by rw[QVK (by omega)]at hu;cases hu) (by exact h0) (by exact h3) (by exact h4) (by exact h7)

end

theorem Qxu {k:Int}{P:PL}{a b:V}(ha:a.one P k (-1)=0)(hb:b.one P k (-1)=0)(ba:a.bits<18446744073709551616)(bb:b.bits<18446744073709551616)(h1:kl k a b=false)(h2:Zw a b=false):kl k b a=true:=by
 obtain⟨_,a1,a2⟩:=ZL ha;obtain⟨_,b1,b2⟩:=ZL hb;cases hc:kl k b a with
 |true=>rfl
 |false=>
  exfalso;unfold kl at h1 hc;unfold Zw at h2;split at h1
  ·rename_i ht;rw[QUQ ht]at hc;have e:=UM h1 hc;have e1:=a1 ht;have e2:=b1 ht;rw[e,show a.bits=b.bits by omega]at h2;simp at h2
  ·rename_i ht;rw[QUB ht]at hc;have ht:Zb k=false:=by simpa using ht
   rw[a2 ht,b2 ht]at h2;split at h1
   ·rename_i hs;rw[QUQ hs]at hc;simp only[QWj]at h1 hc;rw[QF,QF]at h1 hc;rw[show a.bits=b.bits by omega]at h2;simp at h2
   ·rename_i hs;rw[QUB hs]at hc;simp only[QWj]at h1 hc;rw[show a.bits=b.bits by omega]at h2;simp at h2

def PwI (k:Int)(ps:List (V×V))(n:Nat)(st:St):Prop :=
 ∃f fr i,st=⟨f,[fr],[]⟩∧n=ps.length-i∧i≤ps.length∧f 0=.list (ps.map V.pav)∧f 3=.list ((QZ k (ps.take i)).map V.pav)∧f 4=.int .i64 (i:Nat)∧Qu (fr 63)=true∧Qu (fr 68)=true

set_option maxHeartbeats 1000000 in
theorem v52 {P:PL}{k:Int}(hk:X8 k)(ps:List (V×V))(hn:ps.length≤1048576)(h1:∀p∈ps,p.1.one P k (-1)=0)(hb:∀p∈ps,p.1.bits<18446744073709551616)(hu:ps.Pairwise fun q p=>Zw q.1 p.1=false):Qk Tryz.prog 52 [.list (ps.map V.pav)] (.list ((QZ k ps).map V.pav)):=by
 refine k52.fn (by simp) ?_;simp only[Qa,seval];refine Bd (by simp only[Qa,seval]) ?_;simp only[Qa,seval];refine Qd (PwI k ps) _ ⟨_,_,0,rfl,rfl,QUv _,(by rfl),rfl,(by rfl),rfl,rfl⟩ ?_;rintro _ st ⟨f,fr,i,rfl,rfl,hil,h0,h3,h4,r63,r68⟩;simp only[QVh,h0,h4,Qa,seval];by_cases hlt:i<ps.length
 ·obtain⟨x,hi⟩:∃x,ps[i]? = some x:=⟨ps[i],QUo hlt⟩;have hxm:=QUA hi;have hxa:=ZT hi;have e1:=Qm i _ hlt (by simp only[maxLen];omega);have hperm:(QZ k (ps.take i)).Perm (ps.take i):=Q3 _;have hO:(QZ k (ps.take i)).length=i:=by rw[hperm.length_eq,QVj];omega
  have hstep:QZ k (ps.take (i+1))=mg (fun x y:V×V=>kl k x.1 y.1) (QZ k (ps.take i)) [x]:=by
   rw[QV6,hi,QV7];exact(WF (Y4 k) (ps.take i) [x]).symm
  have hsrt:Zc (fun x y:V×V=>kl k x.1 y.1) (QZ k (ps.take i)):=X6 (Y4 k) _;have hOm:∀p∈QZ k (ps.take i),p∈ps:=fun p hp=>QVa (hperm.mem_iff.1 hp)
  have hOk:∀p∈QZ k (ps.take i),Zw p.1 x.1=false:=by
   intro p hp;obtain⟨j,hj⟩:=QUy.1 (hperm.mem_iff.1 hp);have hjl:=(QUn.1 hj).1;rw[QVj]at hjl;rw[QU0,QUQ (by omega)]at hj;rw[QWt]at hu;have:=hu j i (by omega) hlt (by omega);rw[(QUn.1 hj).2,(QUn.1 hi).2]at this;exact this
  generalize QZ k (ps.take i)=O at *;simp only[Ql hlt,e1,h4,Qa,seval];refine Rl ps hk hn h1 hb hu O i x hi fr _ (by exact h0) (by exact h3) (by exact h4) (by rfl) (by rfl) _ (fun f h0 h3 h4 h5=>?_);simp only[h5,Qa,seval];refine C5 (P:=P) ps hk O (by omega) (fun p hp=>h1 p (hOm p hp)) (fun p hp=>hb p (hOm p hp)) i x hi (h1 x hxm) (hb x hxm) fr _ (by exact h0) (by exact h3) (by exact h4) (by rfl) _ (fun t f ht hlow hup h0 h3 h4 h7=>?_);have hfin:(O.take t).map V.pav++([V.pav x]++(O.drop t).map V.pav)=(QZ k (ps.take (i+1))).map V.pav:=by
   have:=YZ (lt:=fun x y:V×V=>kl k x.1 y.1) (y:=x) (X1:=O.take t) (X2:=O.drop t) (fun u hu=>by
    obtain⟨j,hj⟩:=QWA hu;rw[QU0]at hj;split at hj
    ·rename_i hjt;exact(Y4 k).as (hlow j u hjt hj)
    ·cases hj) (fun u hu'=>by
    obtain⟨j,hj⟩:=QWA hu';rw[QU1]at hj;have hum:=QUA hj;refine Qxu (h1 u (hOm u hum)) (h1 x hxm) (hb u (hOm u hum)) (hb x hxm) ?_ (hOk u hum);obtain⟨w,hw⟩:∃w,O[t]? = some w:=⟨O[t]'(by have:=(QUn.1 hj).1;omega),QUo _⟩;have h2:=KV hsrt (Y4 k) (Nat.le_add_right t j) hw hj;exact(Y4 k).nt u w x h2 (hup w hw))
   rw[QVC]at this;rw[hstep,this];simp
  have hle:(t≤O.length)=True:=eq_true ht;have hdt:∀l':List AV,l'.length=O.length→(l'.drop t).take (O.length-t)=l'.drop t:=fun l' h=>QUV (by rw[QU2];omega)
  have hd1:((O.drop t).map V.pav).length=i-t:=by rw[QVh,QU2];omega
  have hd2:((O.take t).map V.pav).length=t:=by rw[QVh,QVj];omega
  have hT:∀j,i+1≤j→List.take j ((O.take t).map V.pav++([V.pav x]++(O.drop t).map V.pav))=(QZ k (ps.take (i+1))).map V.pav:=fun j hj=>by
   rw[QUV (by simp only[QUZ,QUC,QVi,hd1,hd2];omega),hfin]
  simp only[Qh,QVN,Qb,hxa,QUU,QU4,h0,h4,eE,seval];refine Gy (l:=[.int .i64 x.1.kd,.int .u64 (x.1.bits:Nat),.str x.1.text,.list (x.1.list.map V.av),.list (x.1.pairs.map V.pav),.list (x.1.slots.map V.sav),.list (x.1.raws.map R.av),.int .i64 x.2.kd,.int .u64 (x.2.bits:Nat),.str x.2.text,.list (x.2.list.map V.av),.list (x.2.pairs.map V.pav),.list (x.2.slots.map V.sav),.list (x.2.raws.map R.av)]) rfl rfl (by decide) rfl rfl r63 ?_;simp only[nn0,QUT,QVn,QVh,ZA,Q1,QVW,Qh,QVN,hle,QUm,or_true,Wk,hdt _ (QVh ..),h3,h7,Qa,seval];refine QO (site:=63) (g:=Xn (fr 63)) (n:=1) (xs:=[V.pav x]) (ys:=(O.drop t).map V.pav) (by simp only[Qa,seval]) (by simp only[Z5,Qa,seval]) rfl rfl (by simp only[List.map_drop,Qa,seval]) (Wk _) (by rw[hd1];simp only[maxLen];omega) (by rw[hd1];omega) ?_;simp only[Qa,seval];refine ZC (by simp only[Qa,seval];exact r68) ?_;simp only[QVh,ZA,Zq,Q1,QVW,Qh,QVN,QUv,QUm,hle,true_or,QVF,QU4,←List.map_take,h3,h7,Qa,seval];refine QO (site:=68) (g:=_) (n:=0) (xs:=[]) (ys:=(O.take t).map V.pav) (by simp only[Qa,seval]<;>rfl) (by simp only[Qa,seval]) rfl rfl (by simp only[Qa,seval]) (Wk _) (by rw[hd2];simp only[maxLen];omega) (by rw[hd2];omega) ?_;simp only[Qa,seval];refine Fv (site:=68) (g:=_) (n:=0+((O.take t).map V.pav).length) (xs:=(O.take t).map V.pav) (ys:=[V.pav x]++(O.drop t).map V.pav) (by simp only[Qa,seval]<;>rfl) (by simp only[Qa,seval]) rfl (by omega) (by simp only[Qa,seval]<;>rfl) (by simp only[Qa,seval]) (by simp only[QUZ,QUC,QVi,QVh]<;>omega) (Wk (x :: O.drop t)) (by simp only[QUZ,QUC,QVi,hd1,hd2,maxLen];omega) (by simp only[QUZ,QUC,QVi,hd1,hd2];omega) ?_;simp only[Qa,seval];refine N1 (site:=68) (g:=_) (sz:=14) (n:=_) (xs:=(O.take t).map V.pav++([V.pav x]++(O.drop t).map V.pav)) (by simp only[Qa,seval]<;>rfl) (by simp only[Qa,seval]) (by simp only[QUZ,QUC,QVi,hd1,hd2];omega) ?_;rw[hT];rotate_left
  ·simp only[hd1,hd2];omega
  simp only[e1,h4,Qa,seval];exact⟨ps.length-(i+1),by omega,_,_,i+1,rfl,rfl,by omega,(by exact h0),(by rfl),(by rfl),rfl,rfl⟩
 ·have hli:ps.take i=ps:=QUV (by omega);rw[hli]at h3;simp only[Qx hlt,h3,Qa,seval]

section
variable {M:Nat}{P:PL}{m:PG→V→Prop}{nm:PG→V→V}(o:PO)(ho:UO P o)

include ho in
theorem v51 (hm:∀(t:Int) (g:PG),P.progs[t.toNat]? = some g→0≤t→∀v:V,v.ok M→v.cnt≤1048576→m g v→Qk Tryz.prog 9 [P.av,.int .i64 t,v.av] (nm g v).av)(v:V)(hv:v.ok M)(hc:v.cnt≤1048576)(he:EW m P o v) :
  Qk Tryz.prog 51 [P.av,Qs o,v.av] (Xj nm P o v).av:=by
 have e0:P.av=.agg [.list (P.progs.map Qi),.list (P.enums.map Qq)]:=rfl;unfold Xj;by_cases hk:o.kind=10
 ·have b:(o.kind==10)=true:=by simp[hk]
  have he:=he hk;rw[QUQ hk];obtain⟨t0,t1⟩:=ho.tgt hk;obtain⟨g,hg⟩:∃g,P.progs[o.target.toNat]? = some g:=⟨P.progs[o.target.toNat]'(by omega),QUo (by omega)⟩;have hq:QL P o.target=g:=by unfold QL;rw[hg];rfl
  rw[hq]at he ⊢;have h2:=hm o.target g hg t0 v hv hc he;generalize nm g v=z at h2 ⊢;rw[e0,Qr,Qr]at h2;rw[Qr,Qr];refine k51.fn (by simp) ?_;simp only[e0,Qs,PO.cells,b,eE,seval];refine aC h2 ?_;simp only[eE,seval]
 ·have b:(o.kind==10)=false:=by simp[hk]
  rw[QUB hk];have h1:=v53 v (Jb hv);generalize v.nsc=z at h1 ⊢;rw[Qr,Qr]at h1;rw[Qr,Qr];refine k51.fn (by simp) ?_;simp only[e0,Qs,PO.cells,b,eE,seval];refine aC h1 ?_;simp only[eE,seval]

def WlI (P:PL)(o:PO)(v:V)(F:V→V)(k:Nat)(st:St):Prop :=
 ∃f fr i g,st=⟨f,[fr],[]⟩∧k=v.list.length-i∧i≤v.list.length∧f 3=.ptr 0 3 0∧f 4=.ptr 0 4 0∧f 5=.ptr 0 5 0∧f 6=.ptr 0 6 0∧f 7=.ptr 0 7 0∧f 8=.int .i64 (i:Nat)∧fr 3=.cells [.list (P.progs.map Qi),.list (P.enums.map Qq)]∧fr 4=.cells o.cells∧fr 5=.cells [.int .i64 v.kd,.int .u64 (v.bits:Nat),.str v.text,.list (v.list.map V.av),.list (v.pairs.map V.pav),.list (v.slots.map V.sav),.list (v.raws.map R.av)]∧fr 6=.cells [.int .i64 0,.int .u64 0,.str [],.nils,.nils,.nils,.nils]∧fr 7=.cells [.int .i64 11,.int .u64 0,.str [],.vec 0 1100 g 0 i false,.nils,.nils,.nils]∧fr 1100=.vec g 7 ((v.list.take i).map fun x=>(F x).av)

def WpI (P:PL)(o:PO)(T:List (V×V))(F:V×V→V×V)(k:Nat)(st:St):Prop :=
 ∃f fr i g,st=⟨f,[fr],[]⟩∧k=T.length-i∧i≤T.length∧f 3=.ptr 0 3 0∧f 4=.ptr 0 4 0∧f 6=.ptr 0 6 0∧f 9=.ptr 0 9 0∧f 10=.list (T.map V.pav)∧f 11=.int .i64 (i:Nat)∧fr 3=.cells [.list (P.progs.map Qi),.list (P.enums.map Qq)]∧fr 4=.cells o.cells∧fr 6=.cells [.int .i64 0,.int .u64 0,.str [],.nils,.nils,.nils,.nils]∧fr 9=.cells [.int .i64 12,.int .u64 0,.str [],.nils,.vec 0 1101 g 0 i false,.nils,.nils]∧fr 1101=.vec g 14 ((T.take i).map fun x=>V.pav (F x))

set_option maxHeartbeats 1000000 in
include ho in
theorem v26 (hel:∀v:V,v.ok M→v.cnt≤1048576→EW m P o v→Qk Tryz.prog 51 [P.av,Qs o,v.av] (Xj nm P o v).av)(v:V)(hv:v.ok M)(hc:v.cnt≤1048576)(he:FW m P o v) :
  Qk Tryz.prog 26 [P.av,Qs o,v.av] (Xu nm P o v).av:=by
 have e0:P.av=.agg [.list (P.progs.map Qi),.list (P.enums.map Qq)]:=rfl;unfold Xu;unfold FW at he;by_cases h4:o.card=4
 ·have b4:(o.card==4)=true:=by simp[h4]
  rw[QUQ h4]at he;rw[QUQ h4];have hL:=he;have hlen:=KM v;rw[Qr v];generalize hF:Xj nm P o=F at hel ⊢;rw[show(V.mk 11 0 [] (v.list.map F) [] [] []).av=.agg [.int .i64 11,.int .u64 0,.str [],.list ((v.list.map F).map V.av),.list [],.list [],.list []]from Qr _];refine k26.fn (by simp) ?_;simp only[e0,Qs,PO.cells,b4,eE,seval];refine JP (by simp only[Qa,seval]<;>rfl) rfl (by simp only[Qa,seval]<;>rfl) rfl ?_;simp only[List.set,Qa,seval];refine Qd (WlI P o v F) _ ⟨_,_,0,_,rfl,rfl,QUv _,(by rfl),(by rfl),(by rfl),(by rfl),(by rfl),(by rfl),(by rfl),(by rfl),(by rfl),(by rfl),(by rfl),(by rfl)⟩ ?_;rintro _ st ⟨f,fr,i,g,rfl,rfl,hil,h3,h4,h5,h6,h7,h8,m3,m4,m5,m6,m7,mR⟩;have m4':=m4;simp only[PO.cells]at m4;simp only[QVh,h5,h8,m5,eE,seval];by_cases hlt:i<v.list.length
  ·obtain⟨x,hi⟩:∃x,v.list[i]? = some x:=⟨v.list[i],QUo hlt⟩;have hx:=QUA hi;have hg:=WH hi;have e1:=Qm i _ hlt (by simp only[maxLen];omega);have c1:=hel x (hv.list x hx) (QUl (KL hx) hc) (hL x hx);have hti:((v.list.take i).map fun x=>(F x).av).length=i:=by rw[QVh,QVj];omega
   have hts:(v.list.take (i+1)).map (fun x=>(F x).av)=(v.list.take i).map (fun x=>(F x).av)++[(F x).av]:=by rw[QV6,hi];simp
   generalize F x=z at c1 hts;rw[e0,Qr x,Qr z]at c1;simp only[Qs,PO.cells]at c1;simp only[Ql hlt,Qh,QVN,Qb,hg,h3,h4,h5,h7,h8,m3,m4,m5,m7,eE,seval];refine aC c1 ?_;refine QV (l:=[z.av]) rfl rfl rfl (by rw[Qr];rfl) ?_;refine QO (site:=1100) (g:=g) (n:=i) (xs:=(v.list.take i).map fun x=>(F x).av) (ys:=[z.av]) (by rfl) (by exact mR) rfl hti.symm rfl (B7 [z]) (by simp only[QUC,QVi,maxLen];omega) (by simp only[QUC,QVi];omega) ?_;simp only[h7,h8,m7,e1,eE,seval];exact⟨v.list.length-(i+1),by omega,_,_,i+1,g+1,rfl,rfl,by omega,(by exact h3),(by exact h4),(by exact h5),(by exact h6),(by exact h7),(by rfl),(by exact m3),(by exact m4'),(by exact m5),(by exact m6),(by rfl),(by rw[hts];exact(by rfl))⟩
  ·have e:i=v.list.length:=by omega
   subst e;rw[QVX,AW]at mR;simp only[Qx hlt,h6,h7,m6,m7,eE,seval];simp[AV.un,AV.unL,Zm,XC,mR,QUV]
 ·have b4:(o.card==4)=false:=by simp[h4]
  rw[QUB h4];by_cases h5:o.card=5
  ·have b5:(o.card==5)=true:=by simp[h5]
   rw[QUB h4,QUQ h5]at he;rw[QUQ h5];have hE:=he;have hlen:=Ye v;have hk:=ho.key h5;have cp:=v52 hk v.pairs (by omega) (fun p hp=>(hE.1 p hp).1) (fun p hp=>Jb (hv.keys p hp)) hE.2;have hperm:(QZ o.key v.pairs).Perm v.pairs:=Q3 _;have hTl:(QZ o.key v.pairs).length=v.pairs.length:=hperm.length_eq;have hTm:∀p∈QZ o.key v.pairs,p∈v.pairs:=fun p h=>hperm.mem_iff.1 h
   generalize QZ o.key v.pairs=T at *;rw[Qr v];generalize hF:(fun p:V×V=>(p.1.nsc,Xj nm P o p.2))=F;rw[show(V.mk 12 0 [] [] (T.map F) [] []).av=.agg [.int .i64 12,.int .u64 0,.str [],.list [],.list ((T.map F).map V.pav),.list [],.list []]from Qr _];refine k26.fn (by simp) ?_;simp only[e0,Qs,PO.cells,b4,b5,eE,seval];refine JP (by simp only[Qa,seval]<;>rfl) rfl (by simp only[Qa,seval]<;>rfl) rfl ?_;simp only[List.set,eE,seval];refine aC cp ?_;simp only[Qa,seval];refine Qd (WpI P o T F) _ ⟨_,_,0,_,rfl,rfl,QUv _,(by rfl),(by rfl),(by rfl),(by rfl),(by rfl),(by rfl),(by rfl),(by rfl),(by rfl),(by rfl),(by rfl)⟩ ?_;rintro _ st ⟨f,fr,i,g,rfl,rfl,hil,h3,h4,h6,h9,h10,h11,m3,m4,m6,m9,mR⟩;have m4':=m4;simp only[PO.cells]at m4;simp only[QVh,h10,h11,Qa,seval];by_cases hlt:i<T.length
   ·obtain⟨x,hi⟩:∃x,T[i]? = some x:=⟨T[i],QUo hlt⟩;have hx:=hTm x (QUA hi);have hg:=ZT hi;have e1:=Qm i _ hlt (by simp only[maxLen];omega);have c0:=v53 x.1 (Jb (hv.keys x hx));have c1:=hel x.2 (hv.vals x hx) (QUl (Wr hx) hc) (hE.1 x hx).2;have hti:((T.take i).map fun x=>V.pav (F x)).length=i:=by rw[QVh,QVj];omega
    have hFx:F x=(x.1.nsc,Xj nm P o x.2):=by rw[←hF]
    have hts:(T.take (i+1)).map (fun x=>V.pav (F x))=(T.take i).map (fun x=>V.pav (F x))++[V.pav (x.1.nsc,Xj nm P o x.2)]:=by rw[QV6,hi,←hFx];simp
    generalize x.1.nsc=y at c0 hts;generalize Xj nm P o x.2=z at c1 hts;rw[Qr,Qr y]at c0;rw[e0,Qr,Qr z]at c1;simp only[Qs,PO.cells]at c1;simp only[Ql hlt,Qh,QVN,Qb,hg,h9,h10,h11,m9,eE,seval];refine aC c0 ?_;simp only[Qh,QVN,Qb,hg,QUU,QUX,QU4,h3,h4,h10,h11,m3,m4,eE,seval];refine aC c1 ?_;simp only[eE,seval];refine QV (l:=[V.pav (y,z)]) rfl rfl rfl (by rw[Z5];rfl) ?_;refine QO (site:=1101) (g:=g) (n:=i) (xs:=(T.take i).map fun x=>V.pav (F x)) (ys:=[V.pav (y,z)]) (by rfl) (by exact mR) rfl hti.symm rfl (Wk [(y,z)]) (by simp only[QUC,QVi,maxLen];omega) (by simp only[QUC,QVi];omega) ?_;simp only[h9,h11,m9,e1,eE,seval];exact⟨T.length-(i+1),by omega,_,_,i+1,g+1,rfl,rfl,by omega,(by exact h3),(by exact h4),(by exact h6),(by exact h9),(by exact h10),(by rfl),(by exact m3),(by exact m4'),(by exact m6),(by rfl),(by rw[hts];exact(by rfl))⟩
   ·have e:i=T.length:=by omega
    subst e;rw[QVX,Rd]at mR;simp only[Qx hlt,h6,h9,m6,m9,eE,seval];simp[AV.un,AV.unL,Zm,XC,mR,QUV]
  ·have b5:(o.card==5)=false:=by simp[h5]
   rw[QUB h4,QUB h5]at he;rw[QUB h5];have c1:=hel v hv hc he;generalize Xj nm P o v=z at c1 ⊢;rw[e0,Qr v,Qr z]at c1;simp only[Qs,PO.cells]at c1;rw[Qr v,Qr z];refine k26.fn (by simp) ?_;simp only[e0,Qs,PO.cells,b4,b5,eE,seval];refine aC c1 ?_;simp only[eE,seval]

end

theorem Rm {fr:Nat→Ob}{a b:Nat}(h1:(fr a).isRow=false)(h2:(fr b).isRow=false):∀s∈[a,b],(fr s).isRow=false:=by
 intro s hs;simp only[QVI,QWv,or_false]at hs;rcases hs with rfl|rfl
 ·exact h1
 ·exact h2
theorem US {fr:Nat→Ob}{a:Nat}(h1:(fr a).isRow=false):∀s∈[a],(fr s).isRow=false:=by
 intro s hs;simp only[QVI,QWv,or_false]at hs;subst hs;exact h1

theorem isr {x:Ob}(h:x=.none):x.isRow=false:=by rw[h];rfl

def ZE (nm:PG→V→V)(P:PL)(o:PO)(s:Int×V):List (Int×V):=if (s.1==o.num)=true then ZM nm P o s else []
theorem Fw (nm:PG→V→V)(P:PL)(o:PO):∀l:List (Int×V),(l.flatMap (ZE nm P o)).length≤l.length
 | []=>QUm _
 |s :: l=>by
  have h1:(ZE nm P o s).length≤1:=by
   unfold ZE;split
   ·unfold ZM;split<;>simp
   ·simp
  have:=Fw nm P o l;rw[QVP,QUZ,QUC];omega

def ZW (v:V):List AV:=[.int .i64 v.kd,.int .u64 (v.bits:Nat),.str v.text,.list (v.list.map V.av),.list (v.pairs.map V.pav),.list (v.slots.map V.sav),.list (v.raws.map R.av)]

theorem SA {P:PL}{v:V}{o:PO}{n:Nat}{ti i:Nat}(K:List (Int×V))(hK:K.length≤64)(hS:v.slots.length≤1048576)(rw':List R)
  (hw:∀x∈v.slots,x.1=o.num→Qk Tryz.prog 26 [P.av,Qs o,x.2.av] (Xu (nrm P n) P o x.2).av)
  (fr:Nat→Ob) (f:Fr) (gs:Nat) (h1:f 1=.int .i64 (ti:Nat)) (h3:f 3=.ptr 0 3 0) (h5:f 5=.ptr 0 5 0) (h6:f 6=.ptr 0 6 0) (h7:f 7=.ptr 0 7 0) (h8:f 8=.int .i64 (i:Nat)) (h9:f 9=.ptr 0 9 0) (h10:f 10=.int .i64 0) (m3:fr 3=.cells [.list (P.progs.map Qi),.list (P.enums.map Qq)]) (m5:fr 5=.cells (ZW v)) (m6:fr 6=.cells [.int .i64 0,.int .u64 0,.str [],.nils,.nils,.nils,.nils]) (m7:fr 7=.cells [.int .i64 10,.int .u64 0,.str [],.nils,.nils,.vec 0 1100 gs 0 K.length false,.list (rw'.map R.av)]) (m9:fr 9=.cells o.cells) (mS:fr 1100=.vec gs 8 (K.map V.sav)) (JX:∀s∈[11],(fr s).isRow=false)
  (Q:Exit→St→Prop)
  (q:∀(f:Fr) (fr:Nat→Ob) (gs:Nat),f 1=.int .i64 (ti:Nat)→f 3=.ptr 0 3 0→f 5=.ptr 0 5 0→f 6=.ptr 0 6 0→f 7=.ptr 0 7 0→f 8=.int .i64 (i:Nat)→fr 3=.cells [.list (P.progs.map Qi),.list (P.enums.map Qq)]→fr 5=.cells (ZW v)→fr 6=.cells [.int .i64 0,.int .u64 0,.str [],.nils,.nils,.nils,.nils]→fr 7=.cells [.int .i64 10,.int .u64 0,.str [],.nils,.nils,.vec 0 1100 gs 0 (K++v.slots.flatMap (ZE (nrm P n) P o)).length false,.list (rw'.map R.av)]→fr 1100=.vec gs 8 ((K++v.slots.flatMap (ZE (nrm P n) P o)).map V.sav)→(fr 9).isRow=false→(fr 11).isRow=false→Q (.exit 2) (⟨f,[fr],[]⟩:St)) :
  QG Tryz.prog (.loop QmU) ⟨f,[fr],[]⟩ Q:=by
 have e0:P.av=.agg [.list (P.progs.map Qi),.list (P.enums.map Qq)]:=rfl
 let L:Nat→List (Int×V):=fun k=>K++(v.slots.take k).flatMap (ZE (nrm P n) P o)
 have hL0:L 0=K:=by simp[L]
 have hLn:L v.slots.length=K++v.slots.flatMap (ZE (nrm P n) P o):=by simp[L]
 have hLl:∀k,k≤v.slots.length→(L k).length≤64+k:=by
  intro k hk;have:=Fw (nrm P n) P o (v.slots.take k);rw[QVj]at this;simp only[L,QUZ];omega
 have hLs:∀k x,v.slots[k]? = some x→L (k+1)=L k++ZE (nrm P n) P o x:=by
  intro k x hx;simp only[L];rw[QV6,hx,List.flatMap_append,QUI];simp
 rw[←hLn]at q;rw[←hL0]at m7 mS
 clear_value L
 clear hL0 hLn hK
 let I:Nat→St→Prop:=fun d st=>∃f fr k gs,st=⟨f,[fr],[]⟩∧d=v.slots.length-k∧k≤v.slots.length∧f 1=.int .i64 (ti:Nat)∧f 3=.ptr 0 3 0∧f 5=.ptr 0 5 0∧f 6=.ptr 0 6 0∧f 7=.ptr 0 7 0∧f 8=.int .i64 (i:Nat)∧f 9=.ptr 0 9 0∧f 10=.int .i64 (k:Nat)∧fr 3=.cells [.list (P.progs.map Qi),.list (P.enums.map Qq)]∧fr 5=.cells (ZW v)∧fr 6=.cells [.int .i64 0,.int .u64 0,.str [],.nils,.nils,.nils,.nils]∧fr 7=.cells [.int .i64 10,.int .u64 0,.str [],.nils,.nils,.vec 0 1100 gs 0 (L k).length false,.list (rw'.map R.av)]∧fr 9=.cells o.cells∧fr 1100=.vec gs 8 ((L k).map V.sav)∧∀s∈[11],(fr s).isRow=false
 refine Qd I _ ⟨f,fr,0,gs,rfl,rfl,QUv _,h1,h3,h5,h6,h7,h8,h9,h10,m3,m5,m6,m7,m9,mS,JX⟩ ?_;clear h1 h3 h5 h6 h7 h8 h9 h10 m3 m5 m6 m7 m9 mS JX;rintro _ st ⟨f0,fr0,k,gs,rfl,rfl,hkl,h10,h30,h50,h60,h70,h80,h90,h100,m30,m50,m60,m70,m90,mS0,JX⟩;refine QK (a:=_) [11] JX ?_;intro f fr hf hm hn11;have h1:f 1=.int .i64 (ti:Nat):=by rw[hf,h10]<;>rfl
 have h3:f 3=.ptr 0 3 0:=by rw[hf,h30]<;>rfl
 have h5:f 5=.ptr 0 5 0:=by rw[hf,h50]<;>rfl
 have h6:f 6=.ptr 0 6 0:=by rw[hf,h60]<;>rfl
 have h7:f 7=.ptr 0 7 0:=by rw[hf,h70]<;>rfl
 have h8:f 8=.int .i64 (i:Nat):=by rw[hf,h80]<;>rfl
 have h9:f 9=.ptr 0 9 0:=by rw[hf,h90]<;>rfl
 have h10':f 10=.int .i64 (k:Nat):=by rw[hf,h100]<;>rfl
 have m3:fr 3=.cells [.list (P.progs.map Qi),.list (P.enums.map Qq)]:=by rw[hm 3 (by decide),m30]<;>rfl
 have m5':fr 5=.cells (ZW v):=by rw[hm 5 (by decide),m50]<;>rfl
 have m6:fr 6=.cells [.int .i64 0,.int .u64 0,.str [],.nils,.nils,.nils,.nils]:=by rw[hm 6 (by decide),m60]<;>rfl
 have m7:fr 7=.cells [.int .i64 10,.int .u64 0,.str [],.nils,.nils,.vec 0 1100 gs 0 (L k).length false,.list (rw'.map R.av)]:=by rw[hm 7 (by decide),m70]<;>rfl
 have m9':fr 9=.cells o.cells:=by rw[hm 9 (by decide),m90]<;>rfl
 have mS:fr 1100=.vec gs 8 ((L k).map V.sav):=by rw[hm 1100 (by decide),mS0]<;>rfl
 have n11:=hn11 11 (by decide);clear hf hm hn11 h10 h30 h50 h60 h70 h80 h90 h100 m30 m50 m60 m70 m90 mS0 JX;have m5:=m5';have m9:=m9';simp only[ZW]at m5;simp only[PO.cells]at m9;simp only[QVh,h5,h10',m5,eE,seval];by_cases hlt:k<v.slots.length
 ·obtain⟨x,hi⟩:∃x,v.slots[k]? = some x:=⟨v.slots[k],QUo hlt⟩;have hx:=QUA hi;have hgs:=Jv hi;have e1:=Qm k _ hlt (by simp only[maxLen];omega);have hKs:=hLs k x hi;have hKi:=hLl k (by omega);have fin:∀(f':Fr) (fr':Nat→Ob) (gs':Nat),f' 1=.int .i64 (ti:Nat)→f' 3=.ptr 0 3 0→f' 5=.ptr 0 5 0→f' 6=.ptr 0 6 0→f' 7=.ptr 0 7 0→f' 8=.int .i64 (i:Nat)→f' 9=.ptr 0 9 0→f' 10=.int .i64 ((k+1:Nat):Int)→fr' 3=.cells [.list (P.progs.map Qi),.list (P.enums.map Qq)]→fr' 5=.cells (ZW v)→fr' 6=.cells [.int .i64 0,.int .u64 0,.str [],.nils,.nils,.nils,.nils]→fr' 7=.cells [.int .i64 10,.int .u64 0,.str [],.nils,.nils,.vec 0 1100 gs' 0 (L (k+1)).length false,.list (rw'.map R.av)]→fr' 9=.cells o.cells→fr' 1100=.vec gs' 8 ((L (k+1)).map V.sav)→(∀s∈[11],(fr' s).isRow=false)→∃d,d<v.slots.length-k∧I d ⟨f',[fr'],[]⟩:=by
   intro f' fr' gs' a1 a3 a5 a6 a7 a8 a9 a10 b3 b5 b6 b7 b9 bS br;exact⟨v.slots.length-(k+1),by omega,f',fr',k+1,gs',rfl,rfl,by omega,a1,a3,a5,a6,a7,a8,a9,a10,b3,b5,b6,b7,b9,bS,br⟩
  cases hne:(x.1==o.num)
  ·have bn:(x.1 != o.num)=true:=by simp[bne,hne]
   unfold ZE at hKs;rw[hne,QUB (by simp),QVp]at hKs;simp only[Ql hlt,Qh,QVN,Qb,hgs,bn,QU4,h5,h9,h10',m5,m9,e1,eE,seval];exact fin _ _ gs (by exact h1) (by exact h3) (by exact h5) (by exact h6) (by exact h7) (by exact h8) (by exact h9) (by rfl) (by exact m3) (by exact m5') (by exact m6) (by rw[hKs];exact(by exact m7)) (by exact m9') (by rw[hKs];exact(by exact mS)) (US (isr (by exact n11)))
  ·have bn:(x.1 != o.num)=false:=by simp[bne,hne]
   unfold ZE at hKs;rw[hne,QUQ rfl]at hKs;unfold ZM at hKs;have c2:=hw x hx (by simpa using hne);have c3:=QHc (Xu (nrm P n) P o x.2);generalize Xu (nrm P n) P o x.2=z at c2 c3 hKs;rw[e0,Qr x.2,Qr z]at c2;rw[Qr z]at c3;simp only[Qs,PO.cells]at c2;simp only[Ql hlt,Qh,QVN,Qb,hgs,bn,QUU,QUX,QU4,h3,h5,h9,h10',m3,m5,m9,eE,seval];refine aC c2 ?_;simp only[n11,h9,m9,eE,seval];cases hb:decide (o.card<3)
   ·rw[hb,QV3]at hKs;simp only[eE,seval];refine aC c3 ?_;cases hz:z.emp
    ·rw[hz,QUQ (show(!false)=true from rfl)]at hKs;simp only[h7,h9,m7,m9,eE,seval];refine QV (l:=[V.sav (o.num,z)]) rfl rfl rfl (by rw[ZS];rfl) ?_;refine QO (site:=1100) (g:=gs) (n:=(L k).length) (xs:=(L k).map V.sav) (ys:=[V.sav (o.num,z)]) (by rfl) (by exact mS) rfl (by rw[QVh]) rfl (Yq [(o.num,z)]) (by simp only[QUC,QVi,maxLen];omega) (by simp only[QUC,QVi];omega) ?_;simp only[h7,h10',m7,e1,eE,seval];exact fin _ _ (gs+1) (by exact h1) (by exact h3) (by exact h5) (by exact h6) (by exact h7) (by exact h8) (by exact h9) (by rfl) (by exact m3) (by exact m5') (by exact m6) (by rw[hKs,QUZ];exact(by rfl)) (by exact m9') (by rw[hKs,QV5];exact(by rfl)) (US rfl)
    ·rw[hz,QUB (by simp),QVp]at hKs;simp only[h10',e1,Qa,seval];exact fin _ _ gs (by exact h1) (by exact h3) (by exact h5) (by exact h6) (by exact h7) (by exact h8) (by exact h9) (by rfl) (by exact m3) (by exact m5') (by exact m6) (by rw[hKs];exact(by exact m7)) (by exact m9') (by rw[hKs];exact(by exact mS)) (US rfl)
   ·rw[hb,QV2,QUQ rfl]at hKs;simp only[h7,h9,m7,m9,eE,seval];refine QV (l:=[V.sav (o.num,z)]) rfl rfl rfl (by rw[ZS];rfl) ?_;refine QO (site:=1100) (g:=gs) (n:=(L k).length) (xs:=(L k).map V.sav) (ys:=[V.sav (o.num,z)]) (by rfl) (by exact mS) rfl (by rw[QVh]) rfl (Yq [(o.num,z)]) (by simp only[QUC,QVi,maxLen];omega) (by simp only[QUC,QVi];omega) ?_;simp only[h7,h10',m7,e1,eE,seval];exact fin _ _ (gs+1) (by exact h1) (by exact h3) (by exact h5) (by exact h6) (by exact h7) (by exact h8) (by exact h9) (by rfl) (by exact m3) (by exact m5') (by exact m6) (by rw[hKs,QUZ];exact(by rfl)) (by exact m9') (by rw[hKs,QV5];exact(by rfl)) (US rfl)
 ·have e:k=v.slots.length:=by omega
  subst e;simp only[Qx hlt,Qa,seval];exact q _ _ gs (by exact h1) (by exact h3) (by exact h5) (by exact h6) (by exact h7) (by exact h8) (by exact m3) (by exact m5') (by exact m6) (by exact m7) (by exact mS) (by rw[m9'];rfl) (isr n11)

def NoI (P:PL)(v:V)(K:Nat→List (Int×V))(len:Nat)(t:Nat)(rw':List R)(d:Nat)(st:St):Prop :=
 ∃f fr i gs,st=⟨f,[fr],[]⟩∧d=len-i∧i≤len∧f 1=.int .i64 (t:Nat)∧f 3=.ptr 0 3 0∧f 5=.ptr 0 5 0∧f 6=.ptr 0 6 0∧f 7=.ptr 0 7 0∧f 8=.int .i64 (i:Nat)∧fr 3=.cells [.list (P.progs.map Qi),.list (P.enums.map Qq)]∧fr 5=.cells (ZW v)∧fr 6=.cells [.int .i64 0,.int .u64 0,.str [],.nils,.nils,.nils,.nils]∧fr 7=.cells [.int .i64 10,.int .u64 0,.str [],.nils,.nils,.vec 0 1100 gs 0 (K i).length false,.list (rw'.map R.av)]∧fr 1100=.vec gs 8 ((K i).map V.sav)∧∀s∈[11,9],(fr s).isRow=false

section
variable {M:Nat}{P:PL}

set_option maxHeartbeats 2000000 in
theorem v9 (hU:Yy P)(hr:Ki P)(hl:∀g∈P.progs,g.ops.length≤64):∀(n:Nat) (t:Int) (g:PG),P.progs[t.toNat]? = some g→0≤t→∀v:V,v.ok M→v.cnt≤1048576→MW P n g v→Qk Tryz.prog 9 [P.av,.int .i64 t,v.av] (nrm P n g v).av:=by
 have e0:P.av=.agg [.list (P.progs.map Qi),.list (P.enums.map Qq)]:=rfl;intro n
 induction n with
 |zero=>
  intro t g _ _ v _ _ h;exact h.elim
 |succ n ih=>
  intro t g hgt t0 v hv hc h;have hgm:=QUA hgt;have hu:=hU g hgm;have hd:=hr g hgm;have hg64:=hl g hgm;obtain⟨s1,s2⟩:=h;have hnor:=fun(o:PO) (ho:o∈g.ops) (x:V) (hx:x.ok M) (hxc:x.cnt≤1048576) (he:EW (MW P n) P o x)=>v51 o (hu o ho) (fun t g a b v c d e=>ih t g a b v c d e) x hx hxc he
  have hwit:=fun(o:PO) (ho:o∈g.ops) (x:V) (hx:x.ok M) (hxc:x.cnt≤1048576) (he:FW (MW P n) P o x)=>v26 o (hu o ho) (hnor o ho) x hx hxc he
  have lS:=Yf v;have lR:=HR v;have cR:=v25 v.raws (by omega);obtain⟨ti,hti⟩:=QV1 t0;subst hti;rw[QVN]at hgt;have hga:(P.progs.map Qi)[ti]? = some (.agg g.cells):=by simp[hgt,Qi]
  simp only[PG.cells]at hga;have htl:ti<P.progs.length:=(QUn.1 hgt).1;have d0:decide ((ti:Int)<0)=false:=QWb (by omega);have d1:decide ((ti:Int)≥(P.progs.length:Int))=false:=QWb (by omega);show Qk _ _ _ (V.mk 10 0 [] [] [] (g.ops.flatMap (QW (nrm P n) P v.slots)) (X7 v.raws)).av;have hfin:g.ops.flatMap (QW (nrm P n) P v.slots)=g.ops.flatMap fun o=>v.slots.flatMap (ZE (nrm P n) P o):=by
   congr 1
   funext o;exact(B6 (nrm P n) P s2).symm
  have hone:∀o,(v.slots.flatMap (ZE (nrm P n) P o)).length≤1:=by
   intro o;have e:v.slots.flatMap (ZE (nrm P n) P o)=QW (nrm P n) P v.slots o:=B6 (nrm P n) P s2;rw[e,Wh];split
   ·simp
   ·unfold ZM;split<;>simp
  rw[hfin];generalize X7 v.raws=RW at *;rw[show v.av=.agg (ZW v)from Qr v];generalize hK:(fun i=>(g.ops.take i).flatMap fun o=>v.slots.flatMap (ZE (nrm P n) P o))=K;have hK0:K 0=[]:=by rw[←hK];simp
  have hKn:(g.ops.flatMap fun o=>v.slots.flatMap (ZE (nrm P n) P o))=K g.ops.length:=by rw[←hK];simp
  have hKl:∀i,i≤g.ops.length→(K i).length≤64:=by
   intro i hi;rw[←hK];have:∀l:List PO,(l.flatMap fun o=>v.slots.flatMap (ZE (nrm P n) P o)).length≤l.length:=by
    intro l
    induction l with
    |nil=>exact QUm _
    |cons o l ih=>
     have:=hone o;rw[QVP,QUZ,QUC];omega
   have h2:=this (g.ops.take i);rw[QVj]at h2;show((g.ops.take i).flatMap _).length≤64;omega
  have hKs:∀i o,g.ops[i]? = some o→K (i+1)=K i++v.slots.flatMap (ZE (nrm P n) P o):=by
   intro i o ho;rw[←hK];show(g.ops.take (i+1)).flatMap _=(g.ops.take i).flatMap _++_;rw[QV6,ho,List.flatMap_append];simp
  rw[hKn,show(V.mk 10 0 [] [] [] (K g.ops.length) RW).av=.agg [.int .i64 10,.int .u64 0,.str [],.list [],.list [],.list ((K g.ops.length).map V.sav),.list (RW.map R.av)]from Qr _];clear hKn hfin hone;refine k9.fn (by simp) ?_;simp only[e0,ZW,d0,d1,QVh,eE,seval];refine aC cR ?_;simp only[eE,seval];refine JP (by simp only[Qa,seval]<;>rfl) rfl (by simp only[Qa,seval]<;>rfl) rfl ?_;simp only[List.set,Qa,seval];refine Qd (NoI P v K g.ops.length ti RW) _ ⟨_,_,0,_,rfl,rfl,QUv _,(by rfl),(by rfl),(by rfl),(by rfl),(by rfl),(by rfl),(by rfl),(by rfl),(by rfl),(by rw[hK0];exact(by rfl)),(by rw[hK0];exact(by rfl)),Rm rfl rfl⟩ ?_;rintro _ st ⟨f0,fr0,i,gs,rfl,rfl,hil,h10,h30,h50,h60,h70,h80,m30,m50,m60,m70,mS0,JX⟩;refine QK (a:=_) [11,9] JX ?_;intro f fr hf hm hn11;have h1:f 1=.int .i64 (ti:Nat):=by rw[hf,h10]<;>rfl
  have h3:f 3=.ptr 0 3 0:=by rw[hf,h30]<;>rfl
  have h5:f 5=.ptr 0 5 0:=by rw[hf,h50]<;>rfl
  have h6:f 6=.ptr 0 6 0:=by rw[hf,h60]<;>rfl
  have h7:f 7=.ptr 0 7 0:=by rw[hf,h70]<;>rfl
  have h8:f 8=.int .i64 (i:Nat):=by rw[hf,h80]<;>rfl
  have m3:fr 3=.cells [.list (P.progs.map Qi),.list (P.enums.map Qq)]:=by rw[hm 3 (by decide),m30]<;>rfl
  have m5:fr 5=.cells (ZW v):=by rw[hm 5 (by decide),m50]<;>rfl
  have m6:fr 6=.cells [.int .i64 0,.int .u64 0,.str [],.nils,.nils,.nils,.nils]:=by rw[hm 6 (by decide),m60]<;>rfl
  have m7:fr 7=.cells [.int .i64 10,.int .u64 0,.str [],.nils,.nils,.vec 0 1100 gs 0 (K i).length false,.list (RW.map R.av)]:=by rw[hm 7 (by decide),m70]<;>rfl
  have mS:fr 1100=.vec gs 8 ((K i).map V.sav):=by rw[hm 1100 (by decide),mS0]<;>rfl
  have n11:=hn11 11 (by decide);have n9:=hn11 9 (by decide);clear hf hm hn11 h10 h30 h50 h60 h70 h80 m30 m50 m60 m70 mS0 JX;simp only[Qh,QVN,Qb,hga,QVh,QUX,QU4,h1,h3,h8,m3,eE,seval];by_cases hlt:i<g.ops.length
  ·obtain⟨o,hi⟩:∃o,g.ops[i]? = some o:=⟨g.ops[i],QUo hlt⟩;have hom:=QUA hi;have hgo:(g.ops.map fun o=>AV.agg o.cells)[i]? = some (.agg o.cells):=by simp[hi]
   simp only[PO.cells]at hgo;have e1:=Qm i _ hlt (by simp only[maxLen];omega);have hKi:=hKl i (by omega);have hKs':=hKs i o hi;simp only[Ql hlt,Qh,QVN,Qb,hga,PO.cells,hgo,n9,h1,h3,h8,m3,eE,seval];refine SA (P:=P) (v:=v) (o:=o) (n:=n) (ti:=ti) (i:=i) (K i) hKi (by omega) RW (fun x hx hxn=>by
    obtain⟨o',ho',hf'⟩:=s1 x hx;rw[hxn,XS hd hom]at ho';cases ho';exact hwit o hom x.2 (hv.slots x hx) (QUl (Y8 hx) hc) hf') _ _ gs (by exact h1) (by exact h3) (by exact h5) (by exact h6) (by exact h7) (by exact h8) (by rfl) (by rfl) (by exact m3) (by exact m5) (by exact m6) (by exact m7) (by rfl) (by exact mS) (US (isr (by exact n11))) _ ?_
   clear h1 h3 h5 h6 h7 h8 m3 m5 m6 m7 mS n11 n9;intro f fr gs h1 h3 h5 h6 h7 h8 m3 m5 m6 m7 mS n9 n11;rw[←hKs']at m7 mS;simp only[h8,e1,Qa,seval];exact⟨g.ops.length-(i+1),by omega,_,_,i+1,gs,rfl,rfl,by omega,(by exact h1),(by exact h3),(by exact h5),(by exact h6),(by exact h7),(by rfl),m3,m5,m6,m7,mS,Rm n11 n9⟩
  ·have e:i=g.ops.length:=by omega
   subst e;simp only[Qx hlt,h6,h7,m6,m7,eE,seval];simp[AV.un,AV.unL,Zm,XC,mS,QUV]

end

theorem Rn {M:Nat}{v:V}(h:v.ok M):v.nsc.ok M:=by
 refine .mk h.kd ?_ h.text h.nl h.np h.ns h.nr h.list h.keys h.vals h.nums h.slots h.raws;show(Lit.int .u64 ((Xm v.kd v.bits:Nat):Int)).wf=true;unfold Xm;split
 ·rfl
 ·exact h.bits

def Gd (g:PG):Prop:=g.ops.length≤64∧∀o∈g.ops,(Lit.int .i64 o.num).wf=true

section
variable {M:Nat}{P:PL}{nm:PG→V→V}(h:∀t v,v.ok M→(nm (QL P t) v).ok M)
include h
theorem NB (o:PO){v:V}(hv:v.ok M):(Xj nm P o v).ok M:=by
 unfold Xj;split
 ·exact h _ v hv
 ·exact Rn hv
theorem Qxw (o:PO){v:V}(hv:v.ok M):(Xu nm P o v).ok M:=by
 unfold Xu;split
 ·refine .mk rfl rfl (QUv _) ?_ (QUv _) (QUv _) (QUv _) ?_ (fun x hx=>nomatch hx) (fun x hx=>nomatch hx) (fun x hx=>nomatch hx) (fun x hx=>nomatch hx) (fun x hx=>nomatch hx)
  ·show(v.list.map _).length≤_;rw[QVh];exact hv.nl
  ·intro x hx;obtain⟨y,hy,rfl⟩:=QVG.1 hx;exact NB h o (hv.list y hy)
 ·split
  ·have hp:(QZ o.key v.pairs).Perm v.pairs:=Q3 _;refine .mk rfl rfl (QUv _) (QUv _) ?_ (QUv _) (QUv _) (fun x hx=>nomatch hx) ?_ ?_ (fun x hx=>nomatch hx) (fun x hx=>nomatch hx) (fun x hx=>nomatch hx)
   ·show((QZ o.key v.pairs).map _).length≤_;rw[QVh,hp.length_eq];exact hv.np
   ·intro x hx;obtain⟨y,hy,rfl⟩:=QVG.1 hx;exact Rn (hv.keys y (hp.mem_iff.1 hy))
   ·intro x hx;obtain⟨y,hy,rfl⟩:=QVG.1 hx;exact NB h o (hv.vals y (hp.mem_iff.1 hy))
  ·exact NB h o hv
theorem QaS {g:PG}(hg:Gd g){v:V}(hv:v.ok M):(Yp nm P g v).ok M:=by
 unfold Yp;have hp:(X7 v.raws).Perm v.raws:=Q3 _;have hs:∀x∈g.ops.flatMap (QW nm P v.slots),(Lit.int .i64 x.1).wf=true∧x.2.ok M:=by
  intro x hx;obtain⟨o,ho,hx⟩:=QU8.1 hx;obtain⟨e1,s,hs,_,e2⟩:=Xz hx;rw[e1,e2];exact⟨hg.2 o ho,Qxw h o (hv.slots s hs)⟩
 have hl:∀l:List PO,(l.flatMap (QW nm P v.slots)).length≤l.length:=by
  intro l
  induction l with
  |nil=>exact QUm _
  |cons o l ih=>
   have:(QW nm P v.slots o).length≤1:=by
    unfold QW;split
    ·simp
    ·split<;>simp
   rw[QVP,QUZ,QUC];omega
 refine .mk rfl rfl (QUv _) (QUv _) (QUv _) ?_ ?_ (fun x hx=>nomatch hx) (fun x hx=>nomatch hx) (fun x hx=>nomatch hx) (fun x hx=>(hs x hx).1) (fun x hx=>(hs x hx).2) ?_
 ·show(g.ops.flatMap (QW nm P v.slots)).length≤_;have:=hl g.ops;have:=hg.1;omega
 ·show(X7 v.raws).length≤_;rw[hp.length_eq];exact hv.nr
 ·intro x hx;exact hv.raws x (hp.mem_iff.1 hx)
end
theorem YE {M:Nat}{P:PL}(hg:∀t,Gd (QL P t)):∀(n:Nat) (t:Int) (v:V),v.ok M→(nrm P n (QL P t) v).ok M
 |0,_,_,h=>h
 |n+1,t,_,h=>QaS (fun t v hv=>YE hg n t v hv) (hg t) h

theorem Dm {M:Nat}{P:PL}(hP:P.ok M)(hl:∀g∈P.progs,g.ops.length≤64)(t:Int):Gd (QL P t):=by
 unfold QL;cases hg:P.progs[t.toNat]? with
 |none=>exact⟨QUv _,fun o ho=>nomatch ho⟩
 |some g=>
  have hm:=QUA hg;exact⟨hl g hm,fun o ho=>((hP.progs g hm).ops o ho).num⟩
theorem WQ {P:PL}(h:ck P=0):∀g∈P.progs,g.ops.length≤64:=by
 unfold ck at h;split at h
 ·omega
 rename_i hl;exact(UJ (by simpa using hl)).2.2.1

open Vp Cp

theorem Dn {f:R}(h1:1≤f.num∧f.num≤65535)(h2:0≤f.wire∧f.wire≤6)(h3:if ZR f.wire=true then f.data=[]else f.bits=0)(h4:f.bits<18446744073709551616)(h5:f.data.length<18446744073709551616):Gf f:=by
 refine⟨?_,h4,h5⟩;unfold valid ZZ;rw[QUB (by omega)];simp only[QVv,QVZ];split at h3
 ·rename_i h;rw[QUQ h];simp[h3]
 ·rename_i h;rw[QUB h];simp[h3]
theorem NC {M:Nat}{P:PL}{k tg:Int}{x:V}(hx:x.one P k tg=0)(ox:x.ok M){n:Int}(hn:1≤n∧n≤65535):Gf (ZV n x):=by
 obtain⟨a1,a2,a3,_⟩:=KO hx;have ht:=DR hx;have hb:=KZ (k:=x.kd) (Fu ox) x.text;have hd:=Ft x.kd x.bits x.text;refine Dn hn ?_ ?_ hb (Nat.lt_of_le_of_lt hd (by omega))
 ·show 0≤(Xa x.kd x.bits x.text).wire∧(Xa x.kd x.bits x.text).wire≤6;unfold Xa zr
  repeat' split
  all_goals exact⟨by simp[],by simp[]⟩
 ·show if ZR (Xa x.kd x.bits x.text).wire=true then(Xa x.kd x.bits x.text).data=[]else(Xa x.kd x.bits x.text).bits=0
  rw[a1];unfold Xa;by_cases c1:k=1∨k=4∨k=5∨k=9
  ·rw[QUQ c1];rfl
  rw[QUB c1];by_cases c2:k=2∨k=3
  ·rw[QUQ c2];rfl
  rw[QUB c2];by_cases c3:k=6
  ·rw[QUQ c3];rfl
  rw[QUB c3,QUQ (show k=7∨k=8 by omega)];rfl

theorem ND {n:Int}{x y:V}(e:ZV n x=ZV n y):(Xa x.kd x.bits x.text).bits=(Xa y.kd y.bits y.text).bits:=by
 have:=congrArg R.bits e;exact this
theorem VR {n:Int}{x y:V}(e:ZV n x=ZV n y):(Xa x.kd x.bits x.text).data=(Xa y.kd y.bits y.text).data:=by
 have:=congrArg R.data e;exact this

def AY (M:Nat)(P:PL)(m:PG→V→Int)(nm:PG→V→V)(bd:Int→V→List UInt8):Prop :=
 ∀(t:Int) (x y:V),(0≤t∧t<(P.progs.length:Int))→m (QL P t) x=0→m (QL P t) y=0→x.ok M→y.ok M→x.cnt≤1048576→y.cnt≤1048576→nm (QL P t) x=x→nm (QL P t) y=y→bd t x=bd t y→x=y

section
variable {M:Nat}{P:PL}{m:PG→V→Int}{nm:PG→V→V}{bd:Int→V→List UInt8}{o:PO}(ho:UO P o)
variable (hbd:∀(t:Int) (v:V),(0≤t∧t<(P.progs.length:Int))→m (QL P t) v=0→(bd t v).length+70000≤70000*v.cnt)
variable (hT:AY M P m nm bd)

include ho hbd in
theorem Dp {n:Int}(hn:1≤n∧n≤65535){x:V}(hx:QN m P o x=0)(ox:x.ok M)(hc:x.cnt≤1048576):Gf (Xh bd o n x):=by
 have hl:=He hbd ho (n:=n) hx;unfold QN at hx;unfold Xh at hl ⊢;by_cases hk:o.kind=10
 ·rw[QUQ hk]at hl ⊢;exact Dn hn ⟨by show(0:Int)≤4;decide,by show(4:Int)≤6;decide⟩ rfl (by show(0:Nat)<_;decide) (by omega)
 ·rw[QUB hk]at hx;rw[QUB hk];exact NC hx ox hn

include ho hT in
theorem DT {n:Int}{x y:V}(hx:QN m P o x=0)(hy:QN m P o y=0)(ox:x.ok M)(oy:y.ok M)(cx:x.cnt≤1048576)(cy:y.cnt≤1048576)(nx:Xj nm P o x=x)(ny:Xj nm P o y=y)(e:Xh bd o n x=Xh bd o n y):x=y:=by
 unfold QN at hx hy;unfold Xj at nx ny;unfold Xh at e;by_cases hk:o.kind=10
 ·rw[QUQ hk]at hx hy nx ny;rw[QUQ hk,QUQ hk]at e;exact hT o.target x y (ho.tgt hk) hx hy ox oy cx cy nx ny (congrArg R.data e)
 ·rw[QUB hk]at hx hy nx ny;rw[QUB hk,QUB hk]at e;exact HX hx hy ox oy nx ny (ND e) (VR e)

theorem Wm {α β:Type}{f:α→β}:∀ {l r:List α},(∀x∈l,∀y∈r,f x=f y→x=y)→l.map f=r.map f→l=r
 | [],[],_,_=>rfl
 | [],_ :: _,_,e=>by cases e
 |_ :: _,[],_,e=>by cases e
 |x :: l,y :: r,h,e=>by
  rw[QUT,QUT]at e
  injection e with e1 e2
  rw[h x (by simp) y (by simp) e1,Wm (fun x hx y hy=>h x (by simp[hx]) y (by simp[hy])) e2]

theorem HY {x:V}(h4:o.card=4)(nx:Xu nm P o x=x):x=.mk 11 0 [] x.list [] [] []∧∀y∈x.list,Xj nm P o y=y:=by
 unfold Xu at nx;rw[QUQ h4]at nx;have hl:x.list.map (Xj nm P o)=x.list:=by
  have:=congrArg V.list nx;exact this
 refine⟨by rw[hl]at nx;exact nx.symm,fun y hy=>?_⟩;obtain⟨i,hi,rfl⟩:=QWw hy;have:=congrArg (fun l=>l[i]?) hl;simp only[QVJ,QUo hi,QVd,QUM]at this;exact this
theorem UT {x:V}(h5:o.card=5)(nx:Xu nm P o x=x):x=.mk 12 0 [] [] x.pairs [] []∧∀p∈x.pairs,p.1.nsc=p.1∧∃q∈x.pairs,p.2=Xj nm P o q.2:=by
 unfold Xu at nx;rw[QUB (by omega),QUQ h5]at nx;have hl:((QZ o.key x.pairs).map fun p=>(p.1.nsc,Xj nm P o p.2))=x.pairs:=by
  have:=congrArg V.pairs nx;exact this
 refine⟨by rw[hl]at nx;exact nx.symm,fun p hp=>?_⟩;rw[←hl]at hp;obtain⟨q,hq,rfl⟩:=QVG.1 hp;exact⟨VD _,q,(Q3 x.pairs).mem_iff.1 hq,rfl⟩

include ho hbd hT in
theorem QaT (hid:∀g∈P.progs,∀v,m g v=0→nm g (nm g v)=nm g v){x y:V}(hx:QT m P o x=0)(hy:QT m P o y=0)(ox:x.ok M)(oy:y.ok M)(cx:x.cnt≤1048576)(cy:y.cnt≤1048576)(nx:Xu nm P o x=x)(ny:Xu nm P o y=y)(e:J0 bd o x=J0 bd o y):x=y:=by
 unfold J0 at e;by_cases h5:o.card=5
 ·rw[QUQ h5,QUQ h5]at e;obtain⟨a1,a2⟩:=UT h5 nx;obtain⟨b1,b2⟩:=UT h5 ny;unfold QT at hx hy;rw[QUQ h5]at hx hy;split at hx
  ·omega
  split at hy
  ·omega
  have ex:=(JB.1 hx).1;have ey:=(JB.1 hy).1;have hp:x.pairs=y.pairs:=by
   refine Wm (fun p hp q hq e=>?_) e;have hcp:=Wr hp;have hcq:=Wr hq;have e1:=HW (l:=[ZV 1 p.1,Xh bd o 2 p.2]) (r:=[ZV 1 q.1,Xh bd o 2 q.2]) (fun f hf=>by
    rcases QVI.1 hf with rfl|hf
    ·exact NC (ex p hp).1 (ox.keys p hp) (by omega)
    ·rw[QWs]at hf;subst hf;exact Dp ho hbd (by omega) (ex p hp).2 (ox.vals p hp) (by omega)) (fun f hf=>by
    rcases QVI.1 hf with rfl|hf
    ·exact NC (ey q hq).1 (oy.keys q hq) (by omega)
    ·rw[QWs]at hf;subst hf;exact Dp ho hbd (by omega) (ey q hq).2 (oy.vals q hq) (by omega)) (congrArg R.data e)
   injection e1 with e2 e3
   injection e3 with e3 _
   obtain⟨np,p',hp',np'⟩:=a2 p hp;obtain⟨nq,q',hq',nq'⟩:=b2 q hq;have ip:Xj nm P o p.2=p.2:=by rw[np'];exact WJ hid ho (ex p' hp').2
   have iq:Xj nm P o q.2=q.2:=by rw[nq'];exact WJ hid ho (ey q' hq').2
   have k1:=HX (ex p hp).1 (ey q hq).1 (ox.keys p hp) (oy.keys q hq) np nq (ND e2) (VR e2);have k2:=DT ho hT (ex p hp).2 (ey q hq).2 (ox.vals p hp) (oy.vals q hq) (by omega) (by omega) ip iq e3;exact Prod.ext k1 k2
  rw[a1,b1,hp]
 rw[QUB h5,QUB h5]at e;by_cases h4:o.card=4
 ·obtain⟨a1,a2⟩:=HY h4 nx;obtain⟨b1,b2⟩:=HY h4 ny;unfold QT at hx hy;rw[QUB h5,QUQ h4]at hx hy;split at hx
  ·omega
  split at hy
  ·omega
  have ex:=JC.1 hx;have ey:=JC.1 hy;have hl:x.list=y.list:=by
   by_cases hp:pk o.card o.kind=true
   ·rw[QUQ hp,QUQ hp]at e;have hk:=(HV hp).2
    injection e with e1 _
    have e2:=congrArg R.data e1;unfold HT at e2;dsimp only at e2
    injection e2 with _ e3
    have e4:=VQ (M:=M) (wk o.kind) ox.list oy.list e3;refine Wm (fun u hu v hv e=>?_) e4;have hu1:=ex u hu;have hv1:=ey v hv;have hu2:=a2 u hu;have hv2:=b2 v hv;unfold QN at hu1 hv1;unfold Xj at hu2 hv2;rw[QUB (by omega)]at hu1 hv1 hu2 hv2;refine HX hu1 hv1 (ox.list u hu) (oy.list v hv) hu2 hv2 e ?_;have hku:=(KO hu1).1;have hkv:=(KO hv1).1;rw[hku,hkv];unfold Xa;by_cases c1:o.kind=1∨o.kind=4∨o.kind=5∨o.kind=9
    ·rw[QUQ c1,QUQ c1]
    rw[QUB c1,QUB c1];by_cases c2:o.kind=2∨o.kind=3
    ·rw[QUQ c2,QUQ c2]
    rw[QUB c2,QUB c2,QUQ (by omega),QUQ (by omega)]
   ·rw[QUB hp,QUB hp,QUQ h4,QUQ h4]at e;refine Wm (fun u hu v hv e=>?_) e;have c1:=KL hu;have c2:=KL hv;exact DT ho hT (ex u hu) (ey v hv) (ox.list u hu) (oy.list v hv) (by omega) (by omega) (a2 u hu) (b2 v hv) e
  rw[a1,b1,hl]
 ·have hp:¬pk o.card o.kind=true:=fun h=>h4 (HV h).1
  rw[QUB hp,QUB hp,QUB h4,QUB h4]at e;unfold QT at hx hy;rw[QUB h5,QUB h4]at hx hy;unfold Xu at nx ny;rw[QUB h4,QUB h5]at nx ny
  injection e with e1 _
  exact DT ho hT hx hy ox oy cx cy nx ny e1

include ho hbd in
theorem Qxx (hn:1≤o.num∧o.num≤65535){x:V}(hx:QT m P o x=0)(ox:x.ok M)(hc:x.cnt≤1048576):∀f∈J0 bd o x,Gf f:=by
 unfold QT at hx;unfold J0;by_cases h5:o.card=5
 ·rw[QUQ h5]at hx;rw[QUQ h5];split at hx
  ·omega
  have ex:=(JB.1 hx).1;intro f hf;obtain⟨p,hp,rfl⟩:=QVG.1 hf;have h1:=Nv hbd ho (ex p hp).1 (ex p hp).2;have h2:=Wr hp;have h3:=VG hp;exact Dn hn ⟨by show(0:Int)≤6;decide,by show(6:Int)≤6;decide⟩ rfl (by show(0:Nat)<_;decide) (by omega)
 rw[QUB h5]at hx;rw[QUB h5];by_cases hp:pk o.card o.kind=true
 ·rw[QUQ hp];intro f hf;rw[QWs]at hf;subst hf;have h1:=Hf (wk o.kind) x.list;have h2:=KM x;exact Dn hn ⟨by show(0:Int)≤5;decide,by show(5:Int)≤6;decide⟩ rfl (by show(0:Nat)<_;decide) (by
   show(UInt8.ofNat (wk o.kind).toNat :: x.list.flatMap (Un (wk o.kind))).length<_;rw[QUC];omega)
 rw[QUB hp];by_cases h4:o.card=4
 ·rw[QUQ h4]at hx;rw[QUQ h4];split at hx
  ·omega
  intro f hf;obtain⟨y,hy,rfl⟩:=QVG.1 hf;have h2:=KL hy;exact Dp ho hbd hn (JC.1 hx y hy) (ox.list y hy) (by omega)
 ·rw[QUB h4]at hx;rw[QUB h4];intro f hf;rw[QWs]at hf;subst hf;exact Dp ho hbd hn hx ox hc

end
theorem VS (bd:Int→V→List UInt8)(o:PO)(x:V):∀f∈J0 bd o x,f.num=o.num:=by
 have he:∀y,(Xh bd o o.num y).num=o.num:=fun y=>by
  unfold Xh;split<;>rfl
 unfold J0;split
 ·intro f hf;obtain⟨p,_,rfl⟩:=QVG.1 hf;rfl
 split
 ·intro f hf;rw[QWs]at hf;subst hf;rfl
 split
 ·intro f hf;obtain⟨y,_,rfl⟩:=QVG.1 hf;exact he y
 ·intro f hf;rw[QWs]at hf;subst hf;exact he x
theorem SB {P:PL}{m:PG→V→Int}{g:PG}{o:PO}(bd:Int→V→List UInt8)(hg:XH g o.num=some o){x:V}(hx:QT m P o x=0):∀f∈J0 bd o x,XR P g f=false:=by
 intro f hf;have hn:=VS bd o x f hf;unfold XR;rw[hn,hg];dsimp only;unfold J0 at hf;unfold QT at hx;by_cases hk:o.kind=9
 case neg=>simp[hk]
 by_cases h5:o.card=5
 ·simp[h5]
 rw[QUB h5]at hx hf;by_cases hp:pk o.card o.kind=true
 ·rw[QUQ hp,QWs]at hf;subst hf;simp[HT]
 have h4:o.card≠4:=fun h=>hp (by simp[pk,h,hk])
 rw[QUB hp,QUB h4,QWs]at hf;rw[QUB h4]at hx;subst hf;unfold QN at hx;rw[QUB (by omega)]at hx;have hkd:=(KO hx).1;have hb:(Xh bd o o.num x).bits=x.bits:=by
  unfold Xh;rw[QUB (by omega)];show(Xa x.kd x.bits x.text).bits=_;rw[hkd,hk];rfl
 have ha:Z0 P.enums o.target x.bits=true:=by
  unfold V.one WC at hx;split at hx
  ·omega
  split at hx
  ·omega
  split at hx
  ·omega
  split at hx
  ·omega
  split at hx
  ·omega
  rename_i h
  simpa [hk]using h
 rw[hb,ha];simp

section
variable {P:PL}{bd:Int→V→List UInt8}{g:PG}

theorem UU:∀(sl:List (Int×V)) (rs:List R),(∀s∈sl,∀f∈XY bd g s,XR P g f=false)→(∀f∈rs,XR P g f=true)→(XK bd g sl rs).filter (XR P g)=rs
 | [],rs,_,hr=>by
  rw[XK];exact QVV.2 hr
 |s :: sl,rs,hs,hr=>by
  have h1:(rs.takeWhile fun r=>decide (r.num<s.1)).filter (XR P g)=rs.takeWhile fun r=>decide (r.num<s.1):=QVV.2 fun f hf=>hr f ((QWC _).mem hf)
  have h2:(XY bd g s).filter (XR P g)=[]:=List.filter_eq_nil_iff.2 fun f hf=>by rw[hs s (by simp) f hf];simp
  rw[XK,QVU,QVU,h1,h2,UU sl _ (fun s h=>hs s (by simp[h])) (fun f hf=>hr f ((QWB _).mem hf)),QVp,List.takeWhile_append_dropWhile]
theorem Uc:∀(sl:List (Int×V)) (rs:List R),(∀s∈sl,∀f∈XY bd g s,XR P g f=false)→(∀f∈rs,XR P g f=true)→(XK bd g sl rs).filter (fun f=>!XR P g f)=sl.flatMap (XY bd g)
 | [],rs,_,hr=>by
  rw[XK,QWD];exact List.filter_eq_nil_iff.2 fun f hf=>by rw[hr f hf];simp
 |s :: sl,rs,hs,hr=>by
  have h1:(rs.takeWhile fun r=>decide (r.num<s.1)).filter (fun f=>!XR P g f)=[]:=List.filter_eq_nil_iff.2 fun f hf=>by rw[hr f ((QWC _).mem hf)];simp
  have h2:(XY bd g s).filter (fun f=>!XR P g f)=XY bd g s:=QVV.2 fun f hf=>by rw[hs s (by simp) f hf];rfl
  rw[XK,QVU,QVU,h1,h2,Uc sl _ (fun s h=>hs s (by simp[h])) (fun f hf=>hr f ((QWB _).mem hf)),QUK,QVP]

theorem Fx {W:Int×V→Prop}(hne:∀s,W s→XY bd g s≠[])(hnum:∀s,W s→∀f∈XY bd g s,f.num=s.1)(hinj:∀s u,W s→W u→s.1=u.1→XY bd g s=XY bd g u→s=u) :
  ∀ {a b:List (Int×V)},(a.Pairwise fun x y=>x.1<y.1)→(b.Pairwise fun x y=>x.1<y.1)→(∀s∈a,W s)→(∀s∈b,W s)→a.flatMap (XY bd g)=b.flatMap (XY bd g)→a=b
 | [],[],_,_,_,_,_=>rfl
 | [],u :: b,_,_,_,hb,e=>by
  rw[QWD,QVP]at e;exact absurd (QWy.1 e.symm).1 (hne u (hb u (by simp)))
 |s :: a,[],_,_,ha,_,e=>by
  rw[QWD,QVP]at e;exact absurd (QWy.1 e).1 (hne s (ha s (by simp)))
 |s :: a,u :: b,pa,pb,ha,hb,e=>by
  obtain⟨pa1,pa2⟩:=QVT.1 pa;obtain⟨pb1,pb2⟩:=QVT.1 pb;have ws:=ha s (by simp);have wu:=hb u (by simp);rw[QVP,QVP]at e;have hk:s.1=u.1:=by
   cases h1:XY bd g s with
   |nil=>exact absurd h1 (hne s ws)
   |cons f l=>
    cases h2:XY bd g u with
    |nil=>exact absurd h2 (hne u wu)
    |cons f' l'=>
     rw[h1,h2,QUJ,QUJ]at e
     injection e with e1 _
     rw[←hnum s ws f (by rw[h1];simp),←hnum u wu f' (by rw[h2];simp),e1]
  have only:∀ {c:List (Int×V)},(∀x∈c,s.1<x.1)→(∀x∈c,W x)→(c.flatMap (XY bd g)).filter (fun f=>f.num==s.1)=[]:=by
   intro c h1 h2;refine List.filter_eq_nil_iff.2 fun f hf=>?_
   obtain⟨x,hx,hf⟩:=QU8.1 hf;have:=hnum x (h2 x hx) f hf;have:=h1 x hx;simp;omega
  have all:∀ {x:Int×V},W x→x.1=s.1→(XY bd g x).filter (fun f=>f.num==s.1)=XY bd g x:=by
   intro x h1 h2;refine QVV.2 fun f hf=>?_
   rw[hnum x h1 f hf,h2];simp
  have e2:=congrArg (List.filter fun f=>f.num==s.1) e;rw[QVU,QVU,all ws rfl,all wu hk.symm,only pa1 (fun x hx=>ha x (by simp[hx])),only (fun x hx=>by have:=pb1 x hx;omega) (fun x hx=>hb x (by simp[hx])),QVp,QVp]at e2;have hsu:=hinj s u ws wu hk e2;subst hsu;rw[Fx hne hnum hinj pa2 pb2 (fun x hx=>ha x (by simp[hx])) (fun x hx=>hb x (by simp[hx])) (List.append_cancel_left e)]

end

def Qxy (P:PL):Prop:=∀g∈P.progs,∀o∈g.ops,1≤o.num∧o.num≤65535
theorem QaU {P:PL}(h:ck P=0):Qxy P:=by
 unfold ck at h;split at h
 ·omega
 split at h
 ·omega
 split at h
 ·omega
 split at h
 ·omega
 split at h
 ·omega
 rename_i hr;have hr:GQ P=true:=by simpa using hr
 unfold GQ at hr;simp only[QUL,QUz]at hr;intro g hg o ho;have:=hr.1 g hg o ho;unfold Zs at this
 simpa using this

structure Ns (M:Nat)(P:PL)(m:PG→V→Int)(nm:PG→V→V)(g:PG)(s:Int×V):Prop where
 wd:Wd P m g s
 ok:s.2.ok M
 cnt:s.2.cnt≤1048576
 nrm:∀o,XH g s.1=some o→Xu nm P o s.2=s.2

theorem Ud {P:PL}{g:PG}{f:R}(h:Je P g f=0):(1≤f.num∧f.num≤65535)∧(0≤f.wire∧f.wire≤6)∧(f.wire≤2→f.data=[])∧(2<f.wire→f.bits=0)∧XR P g f=true∧f.data.length≤65536∧(f.wire=3→f.data.length≤4096):=by
 unfold Je at h;split at h
 ·omega
 rename_i h1;split at h
 ·omega
 rename_i h2;split at h
 ·omega
 rename_i h3;split at h
 ·omega
 rename_i h4;simp only[QUr,QUs,not_or,QUL,not_and,QVk,QUt,Bool.not_eq_false]at h1 h2 h3 h4;refine⟨by omega,by omega,fun hw=>?_,fun hw=>?_,h3,by omega,fun hw=>by have:=h4.1 hw;omega⟩
 ·have:=h2.1 hw
  simpa using this
 ·have:=h2.2 hw
  simpa using this
theorem Qxz {P:PL}{g:PG}{f:R}(h:Je P g f=0)(hb:f.bits<18446744073709551616):Gf f:=by
 obtain⟨h1,h2,h3,h4,_,h6,_⟩:=Ud h;refine Dn h1 h2 ?_ hb (by omega);unfold ZR;by_cases hw:f.wire≤2
 ·rw[QUQ (by
   have:f.wire=0∨f.wire=1∨f.wire=2:=by omega
   rcases this with e|e|e<;>rw[e]<;>rfl)]
  exact h3 hw
 ·rw[QUB (by simp;omega)];exact h4 (by omega)

section
variable {M:Nat}{P:PL}(hU:Yy P)(hr:Ki P)(hn:Qxy P)

include hU hr in
theorem AZ {n:Nat}{t:Int}(hg:QL P t∈P.progs){x:V}(h:Q9 P (n+1) (QL P t) x=0)(ox:x.ok M)(cx:x.cnt≤1048576)(nx:nrm P (n+1) (QL P t) x=x):∀s∈x.slots,Ns M P (Q9 P n) (nrm P n) (QL P t) s:=by
 intro s hs;have hw:=Rf hU hr hg h;rw[nx]at hw;refine⟨hw s hs,ox.slots s hs,QUl (Y8 hs) cx,fun o ho=>?_⟩;have hs2:=hs;rw[←nx]at hs2;obtain⟨q,hq,hsq⟩:=QU8.1 (show s∈(QL P t).ops.flatMap (QW (nrm P n) P x.slots)from hs2);obtain⟨e1,u,hu,e2,e3⟩:=Xz hsq;rw[e1,XS (hr _ hg) hq]at ho;have hoq:q=o:=Option.some.inj ho;subst hoq;obtain⟨_,⟨s1,_,_⟩,_,_⟩:=ZU.1 h;obtain⟨o',h1,h2⟩:=s1 u hu;rw[e2,XS (hr _ hg) hq]at h1;have hoq:q=o':=Option.some.inj h1;subst hoq;rw[e3];exact B5 (fun g hg v h=>KI hU hr n g hg v h) (hU _ hg q hq) h2

include hr in
theorem NE {n:Nat}{g:PG}(hg:g∈P.progs)(v:V):(nrm P (n+1) g v).slots.Pairwise fun x y=>x.1<y.1:=by
 show(g.ops.flatMap (QW (nrm P n) P v.slots)).Pairwise _;rw[QWx];refine⟨fun _ _=>Y5,(hr g hg).imp fun {a b} hab x hx y hy=>?_⟩;rw[(Xz hx).1,(Xz hy).1];exact hab

theorem QxA {m:PG→V→Int}{nm:PG→V→V}(bd:Int→V→List UInt8){g:PG}{s:Int×V}(h:Ns M P m nm g s):XY bd g s≠[]:=by
 obtain⟨o,ho,hf,he⟩:=h.wd;have hx:=h.nrm o ho;unfold XY;rw[ho];show J0 bd o s.2≠[];unfold J0;by_cases h5:o.card=5
 ·rw[QUQ h5];have he:=he.resolve_left (by omega);obtain⟨a1,_⟩:=UT h5 hx;intro e;have:s.2.pairs=[]:=List.map_eq_nil_iff.1 e;rw[this]at a1;rw[a1]at he;cases he
 rw[QUB h5];split
 ·simp
 split
 ·rename_i h4;have he:=he.resolve_left (by omega);obtain⟨a1,_⟩:=HY h4 hx;intro e;have:s.2.list=[]:=List.map_eq_nil_iff.1 e;rw[this]at a1;rw[a1]at he;cases he
 ·simp
theorem QaV {m:PG→V→Int}{nm:PG→V→V}(bd:Int→V→List UInt8){g:PG}{s:Int×V}(h:Ns M P m nm g s):∀f∈XY bd g s,f.num=s.1:=by
 obtain⟨o,ho,_,_⟩:=h.wd;unfold XY;rw[ho];intro f hf;rw[VS bd o s.2 f hf];exact(Zd ho).2
theorem Ue {m:PG→V→Int}{nm:PG→V→V}(bd:Int→V→List UInt8){g:PG}{s:Int×V}(h:Ns M P m nm g s):∀f∈XY bd g s,XR P g f=false:=by
 obtain⟨o,ho,hf,_⟩:=h.wd;unfold XY;rw[ho];exact SB bd (by rw[(Zd ho).2];exact ho) hf

include hU hr hn in
theorem VT {n:Nat}{t:Int}(hg:QL P t∈P.progs){x:V}(h:Q9 P (n+1) (QL P t) x=0)(ox:x.ok M)(hs:∀s∈x.slots,Ns M P (Q9 P n) (nrm P n) (QL P t) s):∀f∈XK (XE P n) (QL P t) x.slots x.raws,Gf f:=by
 obtain⟨_,_,_,hraw⟩:=ZU.1 h;have key:∀(sl:List (Int×V)) (rs:List R),(∀s∈sl,Ns M P (Q9 P n) (nrm P n) (QL P t) s)→(∀f∈rs,Gf f)→∀f∈XK (XE P n) (QL P t) sl rs,Gf f:=by
  intro sl
  induction sl with
  |nil=>intro rs _ hr f hf;exact hr f hf
  |cons s sl ih=>
   intro rs h1 h2 f hf;rw[XK,QVE,QVE]at hf;rcases hf with(hf|hf)|hf
   ·exact h2 f ((QWC _).mem hf)
   ·have hs:=h1 s (by simp);obtain⟨o,ho,hfo,_⟩:=hs.wd;have hom:=(Zd ho).1;unfold XY at hf;rw[ho]at hf;exact Qxx (hU _ hg o hom) (fun t v ht hm=>Hg hU hr n t v ht hm) (hn _ hg o hom) hfo hs.ok hs.cnt f hf
   ·exact ih _ (fun s h=>h1 s (by simp[h])) (fun f hf=>h2 f ((QWB _).mem hf)) f hf
 refine key x.slots x.raws hs fun f hf=>Qxz (hraw f hf) ?_
 have:=Gw (ox.raws f hf).bits;omega

include hU hr hn in
theorem Ro:∀n:Nat,AY M P (Q9 P n) (nrm P n) (XE P n):=by
 intro n
 induction n with
 |zero=>
  intro t x y _ h;exact(Y7 0 _ _ h).elim
 |succ n ih=>
  intro t x y ht hx hy ox oy cx cy nx ny e;have hg:QL P t∈P.progs:=by
   unfold QL;rw[QUo (by omega:t.toNat<P.progs.length)];exact QVe _
  have sx:=AZ (M:=M) hU hr hg hx ox cx nx;have sy:=AZ (M:=M) hU hr hg hy oy cy ny;rw[XE,XE,nx,ny]at e;have e1:=HW (VT hU hr hn hg hx ox sx) (VT hU hr hn hg hy oy sy) e;obtain⟨_,_,_,rx⟩:=ZU.1 hx;obtain⟨_,_,_,ry⟩:=ZU.1 hy;have kx:∀f∈x.raws,XR P (QL P t) f=true:=fun f hf=>(Ud (rx f hf)).2.2.2.2.1
  have ky:∀f∈y.raws,XR P (QL P t) f=true:=fun f hf=>(Ud (ry f hf)).2.2.2.2.1
  have hraws:x.raws=y.raws:=by
   rw[←UU (P:=P) (bd:=XE P n) (g:=QL P t) x.slots x.raws (fun s h=>Ue _ (sx s h)) kx,e1,UU (P:=P) y.slots y.raws (fun s h=>Ue _ (sy s h)) ky]
  have hcat:x.slots.flatMap (XY (XE P n) (QL P t))=y.slots.flatMap (XY (XE P n) (QL P t)):=by
   rw[←Uc (P:=P) (bd:=XE P n) (g:=QL P t) x.slots x.raws (fun s h=>Ue _ (sx s h)) kx,e1,Uc (P:=P) y.slots y.raws (fun s h=>Ue _ (sy s h)) ky]
  have px:=NE (n:=n) hr hg x;have py:=NE (n:=n) hr hg y;rw[nx]at px;rw[ny]at py;have hslots:x.slots=y.slots:=Fx (W:=Ns M P (Q9 P n) (nrm P n) (QL P t)) (fun s h=>QxA _ h) (fun s h=>QaV _ h) (fun s u hs hu hk he=>by
   obtain⟨o,ho,hfs,_⟩:=hs.wd;obtain⟨o',ho',hfu,_⟩:=hu.wd;rw[←hk,ho]at ho';cases ho';unfold XY at he;rw[←hk,ho]at he;refine Prod.ext hk ?_;exact QaT (hU _ hg o (Zd ho).1) (fun t v ht hm=>Hg hU hr n t v ht hm) ih (fun g hg v h=>KI hU hr n g hg v h) hfs hfu hs.ok hu.ok hs.cnt hu.cnt (hs.nrm o ho) (hu.nrm o (by rw[←hk];exact ho)) he) px py sx sy hcat
  have shape:∀z:V,nrm P (n+1) (QL P t) z=z→z=.mk 10 0 [] [] [] z.slots z.raws:=by
   intro z hz;have h1:=congrArg V.slots hz;have h2:=congrArg V.raws hz
   calc z=nrm P (n+1) (QL P t) z:=hz.symm
    _=.mk 10 0 [] [] [] (nrm P (n+1) (QL P t) z).slots (nrm P (n+1) (QL P t) z).raws:=rfl
    _=.mk 10 0 [] [] [] z.slots z.raws:=by rw[h1,h2]
  rw[shape x nx,shape y ny,hslots,hraws]

end

theorem QxB (x:V):ZV 0 x=Xa x.kd x.bits x.text:=by
 unfold ZV Xa zr
 repeat' split
 all_goals rfl
theorem DU (bd:Int→V→List UInt8)(o:PO)(n:Int)(x:V):({ Xh bd o 0 x with num:=n }:R)=Xh bd o n x:=by
 unfold Xh;split
 ·rfl
 ·rfl
theorem QxC {α:Type}(l:List α)(F:α→R):(l.map fun x=>(F x).av)=(l.map F).map R.av:=by rw[QV9];rfl
theorem Wn {fr:Nat→Ob}{a:Nat}(h1:(fr a).isRow=false):∀s∈[a],(fr s).isRow=false:=by
 intro s hs;simp only[QVI,QWv,or_false]at hs;subst hs;exact h1

theorem C6 (n:Int)(f:R):Qk Tryz.prog 197 [.int .i64 n,f.av] ({ f with num:=n }:R).av:=by
 refine Qid.fn (by simp) ?_;simp only[R.av,eE,seval]

theorem t23 {M:Nat}{v:V}(hv:v.ok M):Qk Tryz.prog 23 [v.av] (ZV 0 v).av:=by
 rw[QxB,Qr];exact y23 v.kd v.bits (Fu hv) v.text _ _ _ _

section
variable {M:Nat}{P:PL}{m:PG→V→Int}{bd:Int→V→List UInt8}(o:PO)(ho:UO P o)

include ho in
theorem QQh (hb:∀(t:Int) (g:PG),P.progs[t.toNat]? = some g→0≤t→∀v:V,v.ok M→v.cnt≤1048576→m g v=0→Qk Tryz.prog 31 [P.av,.int .i64 t,v.av] (.str (bd t v)))(x:V)(hx:x.ok M)(hc:x.cnt≤1048576)(he:QN m P o x=0) :
  Qk Tryz.prog 198 [P.av,Qs o,x.av] (Xh bd o 0 x).av:=by
 have e0:P.av=.agg [.list (P.progs.map Qi),.list (P.enums.map Qq)]:=rfl;unfold Xh;by_cases hk:o.kind=10
 ·have b:(o.kind==10)=true:=by simp[hk]
  rw[QUQ hk];unfold QN at he;rw[QUQ hk]at he;obtain⟨t0,t1⟩:=ho.tgt hk;obtain⟨g,hg⟩:∃g,P.progs[o.target.toNat]? = some g:=⟨P.progs[o.target.toNat]'(by omega),QUo (by omega)⟩;have hq:QL P o.target=g:=by unfold QL;rw[hg];rfl
  rw[hq]at he;have h2:=hb o.target g hg t0 x hx hc he;rw[e0,Qr]at h2;rw[Qr];refine RL.fn (by simp) ?_;simp only[e0,Qs,PO.cells,b,R.av,eE,seval];refine aC h2 ?_;simp only[eE,seval]
 ·have b:(o.kind==10)=false:=by simp[hk]
  rw[QUB hk];have h1:=t23 hx;generalize ZV 0 x=z at h1 ⊢;rw[Qr]at h1;rw[Qr];simp only[R.av]at h1;refine RL.fn (by simp) ?_;simp only[e0,Qs,PO.cells,b,R.av,eE,seval];refine aC h1 ?_;simp only[eE,seval]

def QQi (P:PL)(o:PO)(l:List V)(F:V→R)(k:Nat)(st:St):Prop :=
 ∃f fr i g,st=⟨f,[fr],[]⟩∧k=l.length-i∧i≤l.length∧f 3=.ptr 0 3 0∧f 4=.ptr 0 4 0∧f 7=.vec 0 7 g 0 i false∧f 11=.list (l.map V.av)∧f 12=.int .i64 (l.length:Nat)∧f 13=.int .i64 (i:Nat)∧fr 3=.cells [.list (P.progs.map Qi),.list (P.enums.map Qq)]∧fr 4=.cells o.cells∧fr 7=.vec g 4 ((l.take i).map fun x=>(F x).av)∧∀s∈[9],(fr s).isRow=false

def QQj (P:PL)(o:PO)(l:List (V×V))(F:V×V→R)(k:Nat)(st:St):Prop :=
 ∃f fr i g,st=⟨f,[fr],[]⟩∧k=l.length-i∧i≤l.length∧f 3=.ptr 0 3 0∧f 4=.ptr 0 4 0∧f 7=.vec 0 7 g 0 i false∧f 12=.list (l.map V.pav)∧f 13=.int .i64 (l.length:Nat)∧f 14=.int .i64 (i:Nat)∧fr 3=.cells [.list (P.progs.map Qi),.list (P.enums.map Qq)]∧fr 4=.cells o.cells∧fr 7=.vec g 4 ((l.take i).map fun x=>(F x).av)∧∀s∈[9],(fr s).isRow=false

theorem QQk (hel:∀x:V,x.ok M→x.cnt≤1048576→QN m P o x=0→Qk Tryz.prog 198 [P.av,Qs o,x.av] (Xh bd o 0 x).av)(v:V)(hv:v.ok M)(hc:v.cnt≤1048576)(hL:∀x∈v.list,QN m P o x=0) :
  Qk Tryz.prog 118 [P.av,Qs o,v.av] (.list ((v.list.map (Xh bd o o.num)).map R.av)):=by
 have e0:P.av=.agg [.list (P.progs.map Qi),.list (P.enums.map Qq)]:=rfl;have hlen:=KM v;rw[Qr v];refine QKi.fn (by simp) ?_;simp only[e0,Qs,PO.cells,eE,seval];refine Zp rfl rfl ?_;simp only[QVh,eE,seval];refine Qd (QQi P o v.list (Xh bd o o.num)) _ ⟨_,_,0,_,rfl,rfl,QUv _,(by rfl),(by rfl),(by rfl),(by rfl),(by rfl),(by rfl),(by rfl),(by rfl),(by rfl),Wn rfl⟩ ?_;rintro _ st ⟨f0,fr0,i,g,rfl,rfl,hil,h30,h40,h70,h110,h120,h130,m30,m40,mR0,r9⟩;refine QK (a:=_) [9] r9 ?_;intro f fr hf hm hn9;have h3:f 3=.ptr 0 3 0:=by rw[hf,h30]<;>rfl
 have h4:f 4=.ptr 0 4 0:=by rw[hf,h40]<;>rfl
 have h7:f 7=.vec 0 7 g 0 i false:=by rw[hf,h70]<;>rfl
 have h11:f 11=.list (v.list.map V.av):=by rw[hf,h110]<;>rfl
 have h12:f 12=.int .i64 (v.list.length:Nat):=by rw[hf,h120]<;>rfl
 have h13:f 13=.int .i64 (i:Nat):=by rw[hf,h130]<;>rfl
 have m3:fr 3=.cells [.list (P.progs.map Qi),.list (P.enums.map Qq)]:=by rw[hm 3 (by decide),m30]<;>rfl
 have m4':fr 4=.cells o.cells:=by rw[hm 4 (by decide),m40]<;>rfl
 have mR:fr 7=.vec g 4 ((v.list.take i).map fun x=>(Xh bd o o.num x).av):=by rw[hm 7 (by decide),mR0]<;>rfl
 have n9:=hn9 9 (by decide);clear hf hm hn9 h30 h40 h70 h110 h120 h130 m30 m40 mR0 r9;have m4:=m4';simp only[PO.cells]at m4;simp only[h12,h13,Qa,seval];by_cases hlt:i<v.list.length
 ·obtain⟨x,hi⟩:∃x,v.list[i]? = some x:=⟨v.list[i],QUo hlt⟩;have hx:=QUA hi;have hg:=WH hi;have e1:=Qm i _ hlt (by simp only[maxLen];omega);have c1:=hel x (hv.list x hx) (QUl (KL hx) hc) (hL x hx);have c2:=C6 o.num (Xh bd o 0 x);rw[DU]at c2;have hti:((v.list.take i).map fun x=>(Xh bd o o.num x).av).length=i:=by rw[QVh,QVj];omega
  have hts:(v.list.take (i+1)).map (fun x=>(Xh bd o o.num x).av)=(v.list.take i).map (fun x=>(Xh bd o o.num x).av)++[(Xh bd o o.num x).av]:=by rw[QV6,hi];simp
  generalize Xh bd o 0 x=y at c1 c2;generalize Xh bd o o.num x=z at c2 hts;rw[e0,Qr x]at c1;simp only[Qs,PO.cells,R.av]at c1 c2;simp only[Ql hlt,Qh,QVN,Qb,hg,n9,h3,h4,h7,h11,h13,m3,m4,eE,seval];refine aC c1 ?_;refine aC c2 ?_;refine QV (l:=[z.av]) rfl rfl rfl rfl ?_;refine QO (site:=7) (g:=g) (n:=i) (xs:=(v.list.take i).map fun x=>(Xh bd o o.num x).av) (ys:=[z.av]) (by rfl) (by exact mR) rfl hti.symm rfl (WN [z]) (by simp only[QUC,QVi,maxLen];omega) (by simp only[QUC,QVi];omega) ?_;simp only[h13,e1,Qa,seval];exact⟨v.list.length-(i+1),by omega,_,_,i+1,g+1,rfl,rfl,by omega,(by exact h3),(by exact h4),(by rfl),(by exact h11),(by exact h12),(by rfl),(by exact m3),(by exact m4'),(by rw[hts];exact(by rfl)),Wn rfl⟩
 ·have e:i=v.list.length:=by omega
  subst e;rw[QVX,QxC]at mR;simp only[Qx hlt,h7,mR,eE,seval];simp[AV.un,Zm,XC,QUV]

include ho in
theorem QQl (hbd:∀(t:Int) (v:V),(0≤t∧t<(P.progs.length:Int))→m (QL P t) v=0→(bd t v).length+70000≤70000*v.cnt)(hel:∀x:V,x.ok M→x.cnt≤1048576→QN m P o x=0→Qk Tryz.prog 198 [P.av,Qs o,x.av] (Xh bd o 0 x).av)(v:V)(hv:v.ok M)(hc:v.cnt≤1048576)(hE:∀p∈v.pairs,p.1.one P o.key (-1)=0∧QN m P o p.2=0) :
  Qk Tryz.prog 115 [P.av,Qs o,v.av] (.list ((v.pairs.map (KN bd o)).map R.av)):=by
 have e0:P.av=.agg [.list (P.progs.map Qi),.list (P.enums.map Qq)]:=rfl;have hlen:=Ye v;rw[Qr v];refine QKf.fn (by simp) ?_;simp only[e0,Qs,PO.cells,eE,seval];refine Zp rfl rfl ?_;simp only[QVh,eE,seval];refine Qd (QQj P o v.pairs (KN bd o)) _ ⟨_,_,0,_,rfl,rfl,QUv _,(by rfl),(by rfl),(by rfl),(by rfl),(by rfl),(by rfl),(by rfl),(by rfl),(by rfl),Wn rfl⟩ ?_;rintro _ st ⟨f0,fr0,i,g,rfl,rfl,hil,h30,h40,h70,h120,h130,h140,m30,m40,mR0,r9⟩;refine QK (a:=_) [9] r9 ?_;intro f fr hf hm hn9;have h3:f 3=.ptr 0 3 0:=by rw[hf,h30]<;>rfl
 have h4:f 4=.ptr 0 4 0:=by rw[hf,h40]<;>rfl
 have h7:f 7=.vec 0 7 g 0 i false:=by rw[hf,h70]<;>rfl
 have h12:f 12=.list (v.pairs.map V.pav):=by rw[hf,h120]<;>rfl
 have h13:f 13=.int .i64 (v.pairs.length:Nat):=by rw[hf,h130]<;>rfl
 have h14:f 14=.int .i64 (i:Nat):=by rw[hf,h140]<;>rfl
 have m3:fr 3=.cells [.list (P.progs.map Qi),.list (P.enums.map Qq)]:=by rw[hm 3 (by decide),m30]<;>rfl
 have m4':fr 4=.cells o.cells:=by rw[hm 4 (by decide),m40]<;>rfl
 have mR:fr 7=.vec g 4 ((v.pairs.take i).map fun x=>(KN bd o x).av):=by rw[hm 7 (by decide),mR0]<;>rfl
 have n9:=hn9 9 (by decide);clear hf hm hn9 h30 h40 h70 h120 h130 h140 m30 m40 mR0 r9;have m4:=m4';simp only[PO.cells]at m4;simp only[h13,h14,Qa,seval];by_cases hlt:i<v.pairs.length
 ·obtain⟨x,hi⟩:∃x,v.pairs[i]? = some x:=⟨v.pairs[i],QUo hlt⟩;have hx:=QUA hi;have hg:=ZT hi;have e1:=Qm i _ hlt (by simp only[maxLen];omega);have hcc:=Wr hx;have hck:=VG hx;have c0:=t23 (hv.keys x hx);have c1:=C6 1 (ZV 0 x.1);rw[show({ ZV 0 x.1 with num:=1 }:R)=ZV 1 x.1 from rfl]at c1;have c2:=hel x.2 (hv.vals x hx) (QUl hcc hc) (hE x hx).2;have c3:=C6 2 (Xh bd o 0 x.2);rw[DU]at c3;have hpn:=Ny (l:=[ZV 1 x.1,Xh bd o 2 x.2]) (fun f hf=>by
   rcases QVI.1 hf with rfl|hf
   ·exact Rg (hv.keys x hx) 1
   ·rw[QWs]at hf;subst hf;exact Nx (hv.vals x hx) bd o 2) (by have:=VM hbd ho (hE x hx).1 (hE x hx).2;omega)
  have c4:=c61 [ZV 1 x.1,Xh bd o 2 x.2] hpn.1 hpn.2.1 hpn.2.2;have hen:KN bd o x=⟨o.num,6,0,Xi [ZV 1 x.1,Xh bd o 2 x.2]⟩:=rfl;have hti:((v.pairs.take i).map fun x=>(KN bd o x).av).length=i:=by rw[QVh,QVj];omega
  have hts:(v.pairs.take (i+1)).map (fun x=>(KN bd o x).av)=(v.pairs.take i).map (fun x=>(KN bd o x).av)++[(KN bd o x).av]:=by rw[QV6,hi];simp
  rw[hen]at hts;clear hpn hen;generalize ZV 0 x.1=y0 at c0 c1;generalize Xh bd o 0 x.2=y2 at c2 c3;generalize ZV 1 x.1=z1 at c1 c4 hts;generalize Xh bd o 2 x.2=z2 at c3 c4 hts;generalize Xi [z1,z2]=d at c4 hts;rw[Qr x.1]at c0;rw[e0,Qr x.2]at c2;simp only[Qs,PO.cells,R.av,Dl,QUT,QVn]at c0 c1 c2 c3 c4;simp only[Ql hlt,Qh,QVN,Qb,hg,n9,h12,h14,eE,seval];refine aC c0 ?_;refine aC c1 ?_;simp only[h3,h4,m3,m4,eE,seval];refine aC c2 ?_;refine aC c3 ?_;refine QV (l:=[z1.av,z2.av]) rfl rfl rfl rfl ?_;simp only[h4,h7,m4,eE,seval];refine aC c4 ?_;simp only[eE,seval];refine QV (l:=[(R.mk o.num 6 0 d).av]) rfl rfl rfl rfl ?_;refine QO (site:=7) (g:=g) (n:=i) (xs:=(v.pairs.take i).map fun x=>(KN bd o x).av) (ys:=[(R.mk o.num 6 0 d).av]) (by rfl) (by exact mR) rfl hti.symm rfl (WN [_]) (by simp only[QUC,QVi,maxLen];omega) (by simp only[QUC,QVi];omega) ?_;simp only[h14,e1,Qa,seval];exact⟨v.pairs.length-(i+1),by omega,_,_,i+1,g+1,rfl,rfl,by omega,(by exact h3),(by exact h4),(by rfl),(by exact h12),(by exact h13),(by rfl),(by exact m3),(by exact m4'),(by rw[hts];exact(by rfl)),Wn rfl⟩
 ·have e:i=v.pairs.length:=by omega
  subst e;rw[QVX,QxC]at mR;simp only[Qx hlt,h7,mR,eE,seval];simp[AV.un,Zm,XC,QUV]

end

section
variable {M:Nat}{P:PL}{m:PG→V→Int}{bd:Int→V→List UInt8}(o:PO)(ho:UO P o)

def PkI (o:PO)(l:List V)(F:Nat→List UInt8)(k:Nat)(st:St):Prop :=
 ∃f fr i g,st=⟨f,[fr],[]⟩∧k=l.length-i∧i≤l.length∧f 4=.ptr 0 4 0∧f 8=.int .i64 (wk o.kind)∧f 9=.vec 0 19 g 0 (F i).length false∧f 21=.list (l.map V.av)∧f 22=.int .i64 (l.length:Nat)∧f 23=.int .i64 (i:Nat)∧fr 4=.cells o.cells∧fr 19=.vec g 1 (QA (F i))∧∀s∈[11],(fr s).isRow=false

theorem QQm (hp:pk o.card o.kind=true)(v:V)(hv:v.ok M)(hc:v.cnt≤1048576) :
  Qk Tryz.prog 117 [P.av,Qs o,v.av] (.list ([HT o v.list].map R.av)):=by
 have e0:P.av=.agg [.list (P.progs.map Qi),.list (P.enums.map Qq)]:=rfl;have hlen:=KM v;have cw:=QNB o.num o.name o.alias 2 o.key o.kind o.target o.union;have hw2:Ps 2 o.kind=wk o.kind:=by
  have e:pk 2 o.kind=false:=by simp[pk]
  unfold Ps;rw[e];rfl
 rw[hw2]at cw;simp only[oc]at cw;have hcv:∃b:UInt8,IntKind.u8.wrap (wk o.kind)=(b.toNat:Int)∧UInt8.ofNat (wk o.kind).toNat=b:=by
  rcases QHf hp with h|h|h<;>rw[h]
  ·exact⟨0,rfl,rfl⟩
  ·exact⟨1,rfl,rfl⟩
  ·exact⟨2,rfl,rfl⟩
 obtain⟨b0,hb0,hb1⟩:=hcv;have hpk:HT o v.list=⟨o.num,5,0,b0 :: v.list.flatMap (Un (wk o.kind))⟩:=by unfold HT;rw[hb1]
 rw[hpk];clear hpk hb1
 let F:Nat→List UInt8:=fun i=>b0 :: (v.list.take i).flatMap (Un (wk o.kind))
 have hF0:F 0=[b0]:=by simp[F]
 have hFn:F v.list.length=b0 :: v.list.flatMap (Un (wk o.kind)):=by simp[F]
 have hFl:∀i,i≤v.list.length→(F i).length≤1+10*i:=by
  intro i hi;have:=Hf (wk o.kind) (v.list.take i);rw[QVj]at this;simp only[F,QUC];omega
 have hFs:∀i x,v.list[i]? = some x→F (i+1)=F i++Un (wk o.kind) x:=by
  intro i x hx;simp only[F];rw[QV6,hx,List.flatMap_append];simp
 rw[←hFn]
 clear_value F
 clear hFn;have hbl:∀s:List UInt8,(QA s).length=s.length:=fun s=>by simp[QA]
 rw[Qr v];refine QdS.fn (by simp) ?_;simp only[e0,Qs,PO.cells,eE,seval];refine aC cw ?_;simp only[hb0,Qa,seval];refine D6 (y:=[.int .u8 (b0.toNat:Int)]) rfl rfl rfl rfl ?_;simp only[QVh,eE,seval];refine Qd (PkI o v.list F) _ ⟨_,_,0,_,rfl,rfl,QUv _,(by rfl),(by rfl),(by rw[hF0];exact(by rfl)),(by rfl),(by rfl),(by rfl),(by rfl),(by rw[hF0];exact(by rfl)),Wn rfl⟩ ?_;rintro _ st ⟨f0,fr0,i,g,rfl,rfl,hil,h40,h80,h90,h210,h220,h230,m40,mR0,JX⟩;refine QK (a:=_) [11] JX ?_;intro f fr hf hm hn11;have h4:f 4=.ptr 0 4 0:=by rw[hf,h40]<;>rfl
 have h8:f 8=.int .i64 (wk o.kind):=by rw[hf,h80]<;>rfl
 have h9:f 9=.vec 0 19 g 0 (F i).length false:=by rw[hf,h90]<;>rfl
 have h21:f 21=.list (v.list.map V.av):=by rw[hf,h210]<;>rfl
 have h22:f 22=.int .i64 (v.list.length:Nat):=by rw[hf,h220]<;>rfl
 have h23:f 23=.int .i64 (i:Nat):=by rw[hf,h230]<;>rfl
 have m4':fr 4=.cells o.cells:=by rw[hm 4 (by decide),m40]<;>rfl
 have mR:fr 19=.vec g 1 (QA (F i)):=by rw[hm 19 (by decide),mR0]<;>rfl
 have n11:=hn11 11 (by decide);clear hf hm hn11 h40 h80 h90 h210 h220 h230 m40 mR0 JX;have m4:=m4';simp only[PO.cells]at m4;simp only[h22,h23,Qa,seval];by_cases hlt:i<v.list.length
 ·obtain⟨x,hi⟩:∃x,v.list[i]? = some x:=⟨v.list[i],QUo hlt⟩;have hx:=QUA hi;have hg:=WH hi;have e1:=Qm i _ hlt (by simp only[maxLen];omega);have c1:=t23 (hv.list x hx);rw[QxB]at c1;have hbb:(Xa x.kd x.bits x.text).bits<18446744073709551616:=KZ (Fu (hv.list x hx)) _;have hFi:=hFl i (by omega);have hFx:=hFs i x hi;have hpx:=VN (wk o.kind) x;have epx:Un (wk o.kind) x=Um (wk o.kind) (Xa x.kd x.bits x.text).bits:=rfl;rw[epx]at hFx hpx;clear epx;generalize Xa x.kd x.bits x.text=z at c1 hbb hFx hpx;rw[Qr x]at c1;simp only[R.av]at c1;simp only[Ql hlt,Qh,QVN,Qb,hg,n11,h21,h23,eE,seval];refine aC c1 ?_;by_cases w2:wk o.kind=2
  ·have b2:(wk o.kind==2)=true:=by simp[w2]
   have epb:Um (wk o.kind) z.bits=fx 8 z.bits:=by unfold Um;rw[QUQ w2]
   rw[epb]at hFx hpx;simp only[b2,h8,h9,Qa,seval];refine aC (Qxp z.bits) ?_;refine Uy (site:=19) (g:=g) (xs:=QA (F i)) (by rfl) (by exact mR) rfl (hbl _).symm rfl (by omega) ?_;simp only[h23,e1,eE,seval];exact⟨v.list.length-(i+1),by omega,_,_,i+1,g+1,rfl,rfl,by omega,(by exact h4),(by exact h8),(by rw[hFx,QUZ];exact(by rfl)),(by exact h21),(by exact h22),(by rfl),(by exact m4'),(by rw[hFx,show QA (F i++fx 8 z.bits)=QA (F i)++QA (fx 8 z.bits)by simp[QA]];exact(by rfl)),Wn rfl⟩
  ·have b2:(wk o.kind==2)=false:=by simp[w2]
   have epb:Um (wk o.kind) z.bits=Vp.put z.bits:=by unfold Um;rw[QUB w2]
   rw[epb]at hFx hpx;simp only[b2,h8,h9,Qa,seval];refine aC (C2 z.bits hbb) ?_;refine Uy (site:=19) (g:=g) (xs:=QA (F i)) (by rfl) (by exact mR) rfl (hbl _).symm rfl (by omega) ?_;simp only[h23,e1,eE,seval];exact⟨v.list.length-(i+1),by omega,_,_,i+1,g+1,rfl,rfl,by omega,(by exact h4),(by exact h8),(by rw[hFx,QUZ];exact(by rfl)),(by exact h21),(by exact h22),(by rfl),(by exact m4'),(by rw[hFx,show QA (F i++Vp.put z.bits)=QA (F i)++QA (Vp.put z.bits)by simp[QA]];exact(by rfl)),Wn rfl⟩
 ·have e:i=v.list.length:=by omega
  subst e;have he:Xe [fr] (.vec 0 19 g 0 (F v.list.length).length false)=some (QA (F v.list.length)):=WY mR (hbl _).symm;have hbo:bytesOf (QA (F v.list.length))=some (F v.list.length):=Ua _;simp only[Qx hlt,h4,h9,m4,he,hbo,eE,seval];refine QV (l:=[(R.mk o.num 5 0 (F v.list.length)).av]) rfl rfl rfl rfl ?_;simp only[QUT,QVn,Qa,seval]

def NF (o:PO):Nat:=if o.card=5 then 115 else if pk o.card o.kind=true then 117 else if o.card=4 then 118 else 119

theorem t67:Qk Tryz.prog 67 [Qs o] (.fn (.func (NF o)) [] []):=by
 have cp:=Qv2 o.num o.name o.alias o.card o.key o.kind o.target o.union;simp only[oc]at cp;unfold NF;refine k67.fn (by simp) ?_;simp only[Qs,PO.cells,eE,seval];by_cases h5:o.card=5
 ·have b5:(o.card==5)=true:=by simp[h5]
  rw[QUQ h5];simp only[b5,Qa,seval]
 have b5:(o.card==5)=false:=by simp[h5]
 rw[QUB h5];simp only[b5,eE,seval];refine aC cp ?_;cases hp:pk o.card o.kind
 case true=>simp only[Qa,seval]
 simp only[eE,seval];by_cases h4:o.card=4
 ·have b4:(o.card==4)=true:=by simp[h4]
  simp only[h4,Qa,seval]
 ·have b4:(o.card==4)=false:=by simp[h4]
  simp only[b4,h4,Qa,seval]

theorem QQn (hel:∀x:V,x.ok M→x.cnt≤1048576→QN m P o x=0→Qk Tryz.prog 198 [P.av,Qs o,x.av] (Xh bd o 0 x).av)(v:V)(hv:v.ok M)(hc:v.cnt≤1048576)(he:QN m P o v=0) :
  Qk Tryz.prog 119 [P.av,Qs o,v.av] (.list ([Xh bd o o.num v].map R.av)):=by
 have e0:P.av=.agg [.list (P.progs.map Qi),.list (P.enums.map Qq)]:=rfl;have c1:=hel v hv hc he;have c2:=C6 o.num (Xh bd o 0 v);rw[DU]at c2;generalize Xh bd o 0 v=y at c1 c2;generalize Xh bd o o.num v=z at c2 ⊢;rw[e0,Qr v]at c1;simp only[Qs,PO.cells,R.av]at c1 c2;rw[Qr v];refine QdX.fn (by simp) ?_;simp only[e0,Qs,PO.cells,eE,seval];refine aC c1 ?_;refine aC c2 ?_;refine QV (l:=[z.av]) rfl rfl rfl rfl ?_;simp only[QUT,QVn,Qa,seval]

include ho in
theorem QHg (hbd:∀(t:Int) (v:V),(0≤t∧t<(P.progs.length:Int))→m (QL P t) v=0→(bd t v).length+70000≤70000*v.cnt)(hb:∀(t:Int) (g:PG),P.progs[t.toNat]? = some g→0≤t→∀v:V,v.ok M→v.cnt≤1048576→m g v=0→Qk Tryz.prog 31 [P.av,.int .i64 t,v.av] (.str (bd t v)))(v:V)(hv:v.ok M)(hc:v.cnt≤1048576)(hf:QT m P o v=0) :
  Qk Tryz.prog (NF o) [P.av,Qs o,v.av] (.list ((J0 bd o v).map R.av)):=by
 have hel:=fun(x:V) (hx:x.ok M) (hxc:x.cnt≤1048576) (he:QN m P o x=0)=>QQh o ho hb x hx hxc he
 unfold NF J0;unfold QT at hf;by_cases h5:o.card=5
 ·rw[QUQ h5]at hf;rw[QUQ h5,QUQ h5];split at hf
  ·omega
  exact QQl o ho hbd hel v hv hc (JB.1 hf).1
 rw[QUB h5]at hf;rw[QUB h5,QUB h5];by_cases hp:pk o.card o.kind=true
 ·rw[QUQ hp,QUQ hp];exact QQm o hp v hv hc
 rw[QUB hp,QUB hp];by_cases h4:o.card=4
 ·rw[QUQ h4]at hf;rw[QUQ h4,QUQ h4];split at hf
  ·omega
  exact QQk o hel v hv hc (JC.1 hf)
 ·rw[QUB h4]at hf;rw[QUB h4,QUB h4];exact QQn o hel v hv hc hf
end

section
variable {M:Nat}{P:PL}{m:PG→V→Int}{bd:Int→V→List UInt8}

theorem t35 (hU:Yy P)(hP:P.ok M)(hbd:∀(t:Int) (v:V),(0≤t∧t<(P.progs.length:Int))→m (QL P t) v=0→(bd t v).length+70000≤70000*v.cnt)(hb:∀(t:Int) (g:PG),P.progs[t.toNat]? = some g→0≤t→∀v:V,v.ok M→v.cnt≤1048576→m g v=0→Qk Tryz.prog 31 [P.av,.int .i64 t,v.av] (.str (bd t v)))(t:Int)(g:PG)(hgt:P.progs[t.toNat]? = some g)(t0:0≤t)(s:Int×V)(hv:s.2.ok M)(hc:s.2.cnt≤1048576)(o:PO)(ho:XH g s.1=some o)(hf:QT m P o s.2=0) :
  Qk Tryz.prog 35 [P.av,.int .i64 t,V.sav s] (.list ((XY bd g s).map R.av)):=by
 have e0:P.av=.agg [.list (P.progs.map Qi),.list (P.enums.map Qq)]:=rfl;have hgm:=QUA hgt;obtain⟨hom,hon⟩:=Zd ho;have c1:=TS g (hP.progs g hgm).len s.1;rw[KG,ho]at c1;have c2:=t67 o;have c3:=QHg o (hU g hgm o hom) hbd hb s.2 hv hc hf;have hsl:XY bd g s=J0 bd o s.2:=by unfold XY;rw[ho]
 rw[hsl];obtain⟨ti,hti⟩:=QV1 t0;subst hti;rw[QVN]at hgt;have hga:(P.progs.map Qi)[ti]? = some (.agg g.cells):=by simp[hgt,Qi]
 generalize J0 bd o s.2=z at c3 ⊢;generalize NF o=k at c2 c3;simp only[PG.cells]at hga;rw[e0,Qr s.2]at c3;simp only[Qi,Qs,PG.cells,PO.cells,QVw,QWc]at c1 c2 c3;rw[ZS];refine k35.fn (by simp) ?_;simp only[e0,Qh,QVN,Qb,hga,eE,seval];refine aC c1 ?_;simp only[eE,seval];refine aC c2 ?_;simp only[eE,seval];refine Ka (fa:=[]) (fb:=[]) (by rfl) c3 rfl rfl rfl (.inl rfl) ?_;simp only[Qa,seval]

end

section
variable (bd:Int→V→List UInt8)(g:PG)
theorem QaW {s:Int×V}{sl:List (Int×V)}{r:R}{rs:List R}(h:r.num<s.1):XK bd g (s :: sl) (r :: rs)=r :: XK bd g (s :: sl) rs:=by
 have d:decide (r.num<s.1)=true:=QWi h;rw[XK,XK,List.takeWhile_cons,List.dropWhile_cons,QUQ d,QUQ d];rfl
theorem VU {s:Int×V}{sl:List (Int×V)}{rs:List R}(h:∀r l,rs=r :: l→¬r.num<s.1):XK bd g (s :: sl) rs=XY bd g s++XK bd g sl rs:=by
 rw[XK];cases rs with
 |nil=>rfl
 |cons r l=>
  have d:¬decide (r.num<s.1)=true:=fun e=>h r l rfl (of_decide_eq_true e)
  rw[List.takeWhile_cons,List.dropWhile_cons,QUB d,QUB d];rfl
end

structure BoF (P:PL)(t:Nat)(S:List (Int×V))(f:Fr)(fr:Nat→Ob)(i g:Nat)(out rest:List R):Prop where
 f1:f 1=.int .i64 (t:Nat)
 f3:f 3=.ptr 0 3 0
 f8:f 8=.vec 0 8 g 0 out.length false
 f9:f 9=.list (rest.map R.av)
 f20:f 20=.list (S.map V.sav)
 f21:f 21=.int .i64 (S.length:Nat)
 f22:f 22=.int .i64 (i:Nat)
 m3:fr 3=.cells [.list (P.progs.map Qi),.list (P.enums.map Qq)]
 mR:fr 8=.vec g 4 (out.map R.av)

section
variable {M:Nat}{P:PL}

theorem QHh (bd:Int→V→List UInt8)(g:PG)(t:Nat)(S:List (Int×V))(i:Nat)(s:Int×V)(sl:List (Int×V))(T:List R)(hT:T.length≤3000000000000)(f:Fr)(fr:Nat→Ob)(gn:Nat)(out rest:List R)(h:BoF P t S f fr i gn out rest)(h11:f 11=.ptr 0 11 0)(m11:fr 11=.cells [.int .i64 s.1,.int .i64 s.2.kd,.int .u64 (s.2.bits:Nat),.str s.2.text,.list (s.2.list.map V.av),.list (s.2.pairs.map V.pav),.list (s.2.slots.map V.sav),.list (s.2.raws.map R.av)])(hi:out++XK bd g (s :: sl) rest=T)(Q:Exit→St→Prop)
  (q:∀f fr gn out rest,BoF P t S f fr i gn out rest→f 11=.ptr 0 11 0→fr 11=.cells [.int .i64 s.1,.int .i64 s.2.kd,.int .u64 (s.2.bits:Nat),.str s.2.text,.list (s.2.list.map V.av),.list (s.2.pairs.map V.pav),.list (s.2.slots.map V.sav),.list (s.2.raws.map R.av)]→out++(XY bd g s++XK bd g sl rest)=T→Q (.exit 2) (⟨f,[fr],[]⟩:St)) :
  QG Tryz.prog (.loop SQ) ⟨f,[fr],[]⟩ Q:=by
 let I:Nat→St→Prop:=fun k st=>∃f fr gn out rest,st=⟨f,[fr],[]⟩∧k=rest.length∧BoF P t S f fr i gn out rest∧f 11=.ptr 0 11 0∧fr 11=.cells [.int .i64 s.1,.int .i64 s.2.kd,.int .u64 (s.2.bits:Nat),.str s.2.text,.list (s.2.list.map V.av),.list (s.2.pairs.map V.pav),.list (s.2.slots.map V.sav),.list (s.2.raws.map R.av)]∧out++XK bd g (s :: sl) rest=T
 refine Qd I _ ⟨f,fr,gn,out,rest,rfl,rfl,h,h11,m11,hi⟩ ?_;clear h h11 m11 hi;rintro _ st ⟨f,fr,gn,out,rest,rfl,rfl,⟨h1,h3,h8,h9,h20,h21,h22,m3,mR⟩,h11,m11,hi⟩;simp only[Qa,seval];cases rest with
 |nil=>
  have d1:decide (((0:Nat):Int) > 0)=false:=rfl;simp only[QVn,QVi,h9,Qa,seval];exact q _ _ gn out [] ⟨(by exact h1),(by exact h3),(by exact h8),(by exact h9),(by exact h20),(by exact h21),(by exact h22),m3,mR⟩ (by exact h11) m11 (by rw[←hi,VU];intro r l e;cases e)
 |cons r l=>
  have d1:decide (((l.length+1:Nat):Int) > 0)=true:=QWi (by omega);have hml:(l.map R.av).length=l.length:=QVh ..;by_cases hr:r.num<s.1
  ·have d2:decide (r.num<s.1)=true:=QWi hr;rw[QaW bd g hr]at hi;have hol:out.length+1≤T.length:=by rw[←hi];simp
   have hs1:(1≤((r :: l).map R.av).length)=True:=eq_true (by simp);have hs3:=WN (r :: l);have hs2:List.take (((r :: l).map R.av).length-1) (List.drop 1 ((r :: l).map R.av))=l.map R.av:=by simp[QUV]
   simp only[QUT,QUC,hml,d1,d2,R.av,QVo,Qb,h8,h9,h11,m11,eE,seval];refine QV (l:=[r.av]) rfl rfl rfl rfl ?_;refine QO (site:=8) (g:=gn) (n:=out.length) (xs:=out.map R.av) (ys:=[r.av]) (by rfl) (by exact mR) rfl (by rw[QVh]) rfl (WN [r]) (by simp only[QUC,QVi,maxLen];omega) (by simp only[QUC,QVi];omega) ?_;simp only[ZA,Zq,Q1,QVW,hs1,hs2,hs3,QUm,or_true,and_self,QUC,QVi,h9,Qa,seval];exact⟨l.length,by simp,_,_,gn+1,out++[r],l,rfl,rfl,⟨(by exact h1),(by exact h3),by rw[QUZ];exact(by rfl),(by rfl),(by exact h20),(by exact h21),(by exact h22),(by exact m3),by rw[QV5];exact(by rfl)⟩,(by exact h11),(by exact m11),by rw[←hi];simp⟩
  ·have d2:decide (r.num<s.1)=false:=QWb hr;simp only[QUT,QUC,hml,d1,d2,R.av,QVo,Qb,h9,h11,m11,eE,seval];exact q _ _ gn out (r :: l) ⟨(by exact h1),(by exact h3),(by exact h8),(by exact h9),(by exact h20),(by exact h21),(by exact h22),m3,mR⟩ (by exact h11) m11 (by rw[←hi,VU];intro r' l' e;cases e;exact hr)

def BoI (P:PL)(bd:Int→V→List UInt8)(g:PG)(t:Nat)(S:List (Int×V))(T:List R)(k:Nat)(st:St):Prop :=
 ∃f fr i gn out rest,st=⟨f,[fr],[]⟩∧k=S.length-i∧i≤S.length∧BoF P t S f fr i gn out rest∧out++XK bd g (S.drop i) rest=T∧∀s∈[11],(fr s).isRow=false

theorem t31 (hP:P.ok M)(hU:Yy P)(hr:Ki P)(hcd:C1 P)(hG:∀t,Gd (QL P t)):∀(n:Nat) (t:Int) (g:PG),P.progs[t.toNat]? = some g→0≤t→∀v:V,v.ok M→v.cnt≤1048576→Q9 P n g v=0→Qk Tryz.prog 31 [P.av,.int .i64 t,v.av] (.str (XE P n t v)):=by
 have e0:P.av=.agg [.list (P.progs.map Qi),.list (P.enums.map Qq)]:=rfl;intro n
 induction n with
 |zero=>
  intro t g _ _ v _ _ h;exact(Y7 0 _ _ h).elim
 |succ n ih=>
  intro t g hgt t0 v hv hc h;have hgm:=QUA hgt;have hq:QL P t=g:=by unfold QL;rw[hgt];rfl
  have cn:=v60 hP hU hr hcd (n+1) t g hgt t0 v hv hc (Y7 _ _ _ h);have hw:=Rf hU hr hgm h;have hnok:=YE hG (n+1) t v hv;have hncn:=Yx hr (n+1) g (hr g hgm) v;have hfit:=WI hU hr (n+1) g hgm v h;obtain⟨_,_,_,hraw⟩:=ZU.1 hfit;rw[hq]at hnok;rw[XE,hq];generalize nrm P (n+1) g v=w at cn hw hnok hncn hraw;have hwc:w.cnt≤1048576:=by omega
  have hbl:=fun t v ht hm=>Hg hU hr n t v ht hm
  have hrw:=HU (m:=Q9 P n) (bd:=XE P n) (g:=g) hbl w.slots w.raws (fun x hx=>by
   obtain⟨o,ho,hx,_⟩:=hw x hx;exact⟨o,ho,hU _ hgm o (Zd ho).1,hx⟩) hraw
  have hcs:w.raws.length+Xk w.slots≤w.cnt:=by rw[Xo w];omega
  have hpn:=Ny (l:=XK (XE P n) g w.slots w.raws) (VP (XE P n) g w.slots w.raws (fun s hs=>hnok.slots s hs) (fun f hf=>by
   have:=Gw (hnok.raws f hf).bits;show f.bits<_;omega)) (by omega)
  have cput:=c61 _ hpn.1 hpn.2.1 hpn.2.2;have hTl:=DS (XK (XE P n) g w.slots w.raws);have csl:=fun(s:Int×V) (hs:s∈w.slots)=>(hw s hs).elim fun o ho=>t35 hU hP hbl ih t g hgt t0 s (hnok.slots s hs) (QUl (Y8 hs) hwc) o ho.1 ho.2.1
  have ls:=Yf w;generalize hTe:XK (XE P n) g w.slots w.raws=T at hrw hpn cput hTl;have hTm:T.length≤3000000000000:=by omega
  clear hpn hraw hrw hw hfit;obtain⟨ti,hti⟩:=QV1 t0;subst hti;rw[e0,Qr v,Qr w]at cn;rw[Qr v];refine k31.fn (by simp) ?_;simp only[e0,eE,seval];refine aC cn ?_;simp only[eE,seval];refine Zp rfl rfl ?_;simp only[QVh,eE,seval];refine Qd (BoI P (XE P n) g ti w.slots T) _ ⟨_,_,0,_,[],w.raws,rfl,rfl,QUv _,⟨(by rfl),(by rfl),(by rfl),(by rfl),(by rfl),(by rfl),(by rfl),(by rfl),(by rfl)⟩,hTe,Wn rfl⟩ ?_;rintro _ st ⟨f0,fr0,i,gn,out,rest,rfl,rfl,hil,⟨h10,h30,h80,h90,h200,h210,h220,m30,mR0⟩,hi0,JX⟩;refine QK (a:=_) [11] JX ?_;intro f fr hf hm hn11;have h1:f 1=.int .i64 (ti:Nat):=by rw[hf,h10]<;>rfl
  have h3:f 3=.ptr 0 3 0:=by rw[hf,h30]<;>rfl
  have h8:f 8=.vec 0 8 gn 0 out.length false:=by rw[hf,h80]<;>rfl
  have h9:f 9=.list (rest.map R.av):=by rw[hf,h90]<;>rfl
  have h20:f 20=.list (w.slots.map V.sav):=by rw[hf,h200]<;>rfl
  have h21:f 21=.int .i64 (w.slots.length:Nat):=by rw[hf,h210]<;>rfl
  have h22:f 22=.int .i64 (i:Nat):=by rw[hf,h220]<;>rfl
  have m3:fr 3=.cells [.list (P.progs.map Qi),.list (P.enums.map Qq)]:=by rw[hm 3 (by decide),m30]<;>rfl
  have mR:fr 8=.vec gn 4 (out.map R.av):=by rw[hm 8 (by decide),mR0]<;>rfl
  have n11:=hn11 11 (by decide);clear hf hm hn11 h10 h30 h80 h90 h200 h210 h220 m30 mR0 JX;simp only[h21,h22,Qa,seval];by_cases hlt:i<w.slots.length
  ·obtain⟨x,hi⟩:∃x,w.slots[i]? = some x:=⟨w.slots[i],QUo hlt⟩;have hx:=QUA hi;have hgs:=Jv hi;have e1:=Qm i _ hlt (by simp only[maxLen];omega);have hdr:w.slots.drop i=x :: w.slots.drop (i+1):=by rw[QU5 hlt,(QUn.1 hi).2]
   have c1:=csl x hx;rw[hdr]at hi0;simp only[Ql hlt,Qh,QVN,Qb,hgs,n11,h20,h22,eE,seval];refine QHh (XE P n) g ti w.slots i x (w.slots.drop (i+1)) T hTm _ _ gn out rest ⟨(by exact h1),(by exact h3),(by exact h8),(by exact h9),(by exact h20),(by exact h21),(by exact h22),(by exact m3),(by exact mR)⟩ (by rfl) (by rfl) hi0 _ ?_;clear h1 h3 h8 h9 h20 h21 h22 m3 mR n11 hi0 out rest gn f fr;rintro f fr gn out rest ⟨h1,h3,h8,h9,h20,h21,h22,m3,mR⟩ h11 m11 hi0;rw[e0,ZS x]at c1;generalize XY (XE P n) g x=z at c1 hi0;have hol:out.length+z.length≤T.length:=by rw[←hi0];simp
   simp only[h1,h3,h8,h11,m3,m11,eE,seval];refine aC c1 ?_;refine QO (site:=8) (g:=gn) (n:=out.length) (xs:=out.map R.av) (ys:=z.map R.av) (by rfl) (by exact mR) rfl (by rw[QVh]) rfl (WN z) (by simp only[QVh,maxLen];omega) (by simp only[QVh];omega) ?_;simp only[QVh,h22,e1,Qa,seval];exact⟨w.slots.length-(i+1),by omega,_,_,i+1,gn+1,out++z,rest,rfl,rfl,by omega,⟨(by exact h1),(by exact h3),by rw[QUZ];exact(by rfl),(by exact h9),(by exact h20),(by exact h21),(by rfl),(by exact m3),by rw[QV5];exact(by rfl)⟩,by rw[←hi0,QUI],Wn (by simp only[m11,Qa,seval]<;>rfl)⟩
  ·have e:i=w.slots.length:=by omega
   subst e;have hi1:out++rest=T:=by rw[←hi0,List.drop_length];rfl
   have hol:out.length+rest.length=T.length:=by rw[←hi1];simp
   simp only[Qx hlt,h8,h9,Qa,seval];refine QO (site:=8) (g:=gn) (n:=out.length) (xs:=out.map R.av) (ys:=rest.map R.av) (by rfl) (by exact mR) rfl (by rw[QVh]) (by rfl) (WN rest) (by simp only[QVh,maxLen];omega) (by simp only[QVh];omega) ?_;rw[←hi1]at cput;refine Xx cput ?_ rfl rfl (.inr rfl) ?_
   ·simp only[QUT,QVn,AV.stillL,AV.still,QVh,eE,seval];simp[Dl,QUV]
   rw[←hi1];simp only[Qa,seval]

end
end Go.Proofs.YtdhlbgejhcejcaaGreatDoor.Va

namespace Go.Proofs.YtdhlbgejhcejcaaGreatDoor.Va
open Go Am Rc Bt Br Up

def UV (p:Prop)(v:AV):Prop:=∃b,v=.bool b∧(b=true→p)
theorem UV.rf {p:Prop}{v:AV}{l:List AV}(h:UV p v):v.rf=true∧(AV.rfL l=true∨v.nl=true):=by
 obtain⟨b,rfl,_⟩:=h;exact⟨rfl,.inr rfl⟩

def RN (n:Nat)(lf:Int)(a:AV):Prop:=∃r:Int,a=.int .i64 r∧-1≤r∧(0≤r→(n:Int)+r≤lf)
theorem RN.rf {n:Nat}{lf:Int}{v:AV}{l:List AV}(h:RN n lf v):v.rf=true∧(AV.rfL l=true∨v.nl=true):=by
 obtain⟨b,rfl,_⟩:=h;exact⟨rfl,.inr rfl⟩
theorem Dq (n:Nat)(lf:Int):RN n lf (.int .i64 (-1)):=⟨-1,rfl,by omega,by omega⟩
theorem QHi {n:Nat}{lf r:Int}(h : -1≤r)(h1:0≤r→(n:Int)+r≤lf):RN n lf (.int .i64 r):=⟨r,rfl,h,h1⟩

def CnI (v:V)(lv lf:Int)(a:Nat)(S:Nat→Nat)(len:Nat)(k:Nat)(st:St):Prop :=
 ∃f fr i,∃r:Int,st=⟨f,[fr],[]⟩∧k=len-i∧i≤len∧f 3=.ptr 0 3 0∧fr 3=.cells (vc v)∧f 1=.int .i64 lv∧f 2=.int .i64 r∧f a=.int .i64 (i:Nat)∧-1≤r∧(0≤r→(S i:Int)+r≤lf)

def CrI (v:V)(lv lf:Int)(k:Nat)(st:St):Prop :=
 ∃f fr i,st=⟨f,[fr],[]⟩∧k=v.raws.length-i∧i≤v.raws.length∧f 3=.ptr 0 3 0∧fr 3=.cells (vc v)∧f 1=.int .i64 lv∧f 2=.int .i64 lf∧f 7=.int .i64 (i:Nat)

section
variable {M:Nat}

theorem QaX {v:V}(hv:v.ok M){lv lf:Int}(l0:0≤lv)(l1:lv≤40){b:Nat}(hlf:lf≤1000000)
  (hx:∀x∈v.list,∀lf:Int,0≤lf→lf≤1000000→WV Tryz.prog 19 [(x).av,.int .i64 (lv+1),.int .i64 lf] (RN (x).cnt lf))
  (f:Fr) (fr:Nat→Ob) (r:Int) (h3:f 3=.ptr 0 3 0) (m3:fr 3=.cells (vc v)) (h1:f 1=.int .i64 lv) (h2:f 2=.int .i64 r) (ha:f 8=.int .i64 0) (r0 : -1≤r) (r1:0≤r→(b:Int)+r≤lf) (Q:Exit→St→Prop)
  (q:∀(f:Fr) (fr:Nat→Ob) (r:Int),f 3=.ptr 0 3 0→fr 3=.cells (vc v)→f 1=.int .i64 lv→f 2=.int .i64 r→-1≤r→(0≤r→((b+Xc v.list:Nat):Int)+r≤lf)→Q (.exit 2) (⟨f,[fr],[]⟩:St)) :
  QG Tryz.prog (.loop AQ) ⟨f,[fr],[]⟩ Q:=by
 have n1:=hv.nl;have n2:=hv.np;have n3:=hv.ns;refine Qd (CnI v lv lf 8 (fun i=>b+Xc (v.list.take i)) v.list.length) _ ⟨f,fr,0,r,rfl,rfl,QUv _,h3,m3,h1,h2,ha,r0,fun h=>by have:=r1 h;simp only[QVu,Xc,QUS];omega⟩ ?_;clear h3 m3 h1 h2 ha r0 r1;rintro _ st ⟨f,fr,i,r,rfl,rfl,hil,h3,m3',h1,h2,ha,r0,r1⟩;dsimp only at r1;have m3:=m3';simp only[vc]at m3;simp only[QVh,h3,m3,ha,eE,seval];by_cases hlt:i<v.list.length
 ·have d:∀r:Int,0≤r→decide (r≥0)=true:=fun r h=>QWi h
  have d':∀r:Int,¬0≤r→decide (r≥0)=false:=fun r h=>QWb h
  by_cases hr:0≤r
  ·obtain⟨x,hi⟩:∃x,v.list[i]? = some x:=⟨v.list[i],QUo hlt⟩;have hm:=QUA hi;have hg:=WH hi;have e1:=Qm i _ hlt (by simp only[maxLen];omega);have e2:IntKind.i64.wrap (lv+1)=lv+1:=by rw[QF];omega
   have rr:=r1 hr;have c1:=hx x hm r hr (by omega);rw[Qr]at c1;simp only[Ql hlt,d r hr,Qh,QVN,Qb,hg,QUU,QU4,h3,m3,h1,h2,ha,e2,eE,seval];refine Zi (R:=RN (x).cnt r) c1 rfl rfl (fun _ h=>h.rf) ?_;rintro _ ⟨s,rfl,s0,s1⟩;simp only[ha,e1,Qa,seval];exact⟨v.list.length-(i+1),by omega,_,_,i+1,s,rfl,rfl,by omega,(by exact h3),(by exact m3'),(by exact h1),(by rfl),(by rfl),s0,fun h=>by show((b+Xc (v.list.take (i+1)):Nat):Int)+s≤lf;rw[UK hi];have:=s1 h;omega⟩
  ·simp only[Ql hlt,d' r hr,h2,Qa,seval];exact q _ _ r (by exact h3) (by exact m3') (by exact h1) (by exact h2) r0 (fun h=>absurd h hr)
 ·have e:i=v.list.length:=by omega
  subst e;simp only[QVX]at r1;simp only[Qx hlt,Qa,seval];exact q _ _ r (by exact h3) (by exact m3') (by exact h1) (by exact h2) r0 r1

theorem QaY {v:V}(hv:v.ok M){lv lf:Int}(l0:0≤lv)(l1:lv≤40){b:Nat}(hlf:lf≤1000000)
  (hx:∀x∈v.slots,∀lf:Int,0≤lf→lf≤1000000→WV Tryz.prog 19 [(x.2).av,.int .i64 (lv+1),.int .i64 lf] (RN (x.2).cnt lf))
  (f:Fr) (fr:Nat→Ob) (r:Int) (h3:f 3=.ptr 0 3 0) (m3:fr 3=.cells (vc v)) (h1:f 1=.int .i64 lv) (h2:f 2=.int .i64 r) (ha:f 10=.int .i64 0) (r0 : -1≤r) (r1:0≤r→(b:Int)+r≤lf) (Q:Exit→St→Prop)
  (q:∀(f:Fr) (fr:Nat→Ob) (r:Int),f 3=.ptr 0 3 0→fr 3=.cells (vc v)→f 1=.int .i64 lv→f 2=.int .i64 r→-1≤r→(0≤r→((b+Xk v.slots:Nat):Int)+r≤lf)→Q (.exit 6) (⟨f,[fr],[]⟩:St)) :
  QG Tryz.prog (.loop AS) ⟨f,[fr],[]⟩ Q:=by
 have n1:=hv.nl;have n2:=hv.np;have n3:=hv.ns;refine Qd (CnI v lv lf 10 (fun i=>b+Xk (v.slots.take i)) v.slots.length) _ ⟨f,fr,0,r,rfl,rfl,QUv _,h3,m3,h1,h2,ha,r0,fun h=>by have:=r1 h;simp only[QVu,Xk,QUS];omega⟩ ?_;clear h3 m3 h1 h2 ha r0 r1;rintro _ st ⟨f,fr,i,r,rfl,rfl,hil,h3,m3',h1,h2,ha,r0,r1⟩;dsimp only at r1;have m3:=m3';simp only[vc]at m3;simp only[QVh,h3,m3,ha,eE,seval];by_cases hlt:i<v.slots.length
 ·have d:∀r:Int,0≤r→decide (r≥0)=true:=fun r h=>QWi h
  have d':∀r:Int,¬0≤r→decide (r≥0)=false:=fun r h=>QWb h
  by_cases hr:0≤r
  ·obtain⟨x,hi⟩:∃x,v.slots[i]? = some x:=⟨v.slots[i],QUo hlt⟩;have hm:=QUA hi;have hg:=Jv hi;have e1:=Qm i _ hlt (by simp only[maxLen];omega);have e2:IntKind.i64.wrap (lv+1)=lv+1:=by rw[QF];omega
   have rr:=r1 hr;have c1:=hx x hm r hr (by omega);rw[Qr]at c1;simp only[Ql hlt,d r hr,Qh,QVN,Qb,hg,QUU,QUX,QU4,h3,m3,h1,h2,ha,e2,eE,seval];refine Zi (R:=RN (x.2).cnt r) c1 rfl rfl (fun _ h=>h.rf) ?_;rintro _ ⟨s,rfl,s0,s1⟩;simp only[ha,e1,Qa,seval];exact⟨v.slots.length-(i+1),by omega,_,_,i+1,s,rfl,rfl,by omega,(by exact h3),(by exact m3'),(by exact h1),(by rfl),(by rfl),s0,fun h=>by show((b+Xk (v.slots.take (i+1)):Nat):Int)+s≤lf;rw[Fm hi];have:=s1 h;omega⟩
  ·simp only[Ql hlt,d' r hr,h2,Qa,seval];exact q _ _ r (by exact h3) (by exact m3') (by exact h1) (by exact h2) r0 (fun h=>absurd h hr)
 ·have e:i=v.slots.length:=by omega
  subst e;simp only[QVX]at r1;simp only[Qx hlt,Qa,seval];exact q _ _ r (by exact h3) (by exact m3') (by exact h1) (by exact h2) r0 r1

theorem QaZ {v:V}(hv:v.ok M){lv lf:Int}(l0:0≤lv)(l1:lv≤40){b:Nat}(hlf:lf≤1000000)
  (hx:∀x∈v.pairs,∀lf:Int,0≤lf→lf≤1000000→WV Tryz.prog 19 [x.1.av,.int .i64 (lv+1),.int .i64 lf] (RN x.1.cnt lf)∧WV Tryz.prog 19 [x.2.av,.int .i64 (lv+1),.int .i64 lf] (RN x.2.cnt lf))
  (f:Fr) (fr:Nat→Ob) (r:Int) (h3:f 3=.ptr 0 3 0) (m3:fr 3=.cells (vc v)) (h1:f 1=.int .i64 lv) (h2:f 2=.int .i64 r) (ha:f 9=.int .i64 0) (r0 : -1≤r) (r1:0≤r→(b:Int)+r≤lf) (Q:Exit→St→Prop)
  (q:∀(f:Fr) (fr:Nat→Ob) (r:Int),f 3=.ptr 0 3 0→fr 3=.cells (vc v)→f 1=.int .i64 lv→f 2=.int .i64 r→-1≤r→(0≤r→((b+Xt v.pairs:Nat):Int)+r≤lf)→Q (.exit 4) (⟨f,[fr],[]⟩:St)) :
  QG Tryz.prog (.loop AR) ⟨f,[fr],[]⟩ Q:=by
 have n2:=hv.np;refine Qd (CnI v lv lf 9 (fun i=>b+Xt (v.pairs.take i)) v.pairs.length) _ ⟨f,fr,0,r,rfl,rfl,QUv _,h3,m3,h1,h2,ha,r0,fun h=>by have:=r1 h;simp only[QVu,Xt,QUS];omega⟩ ?_;clear h3 m3 h1 h2 ha r0 r1;rintro _ st ⟨f,fr,i,r,rfl,rfl,hil,h3,m3',h1,h2,ha,r0,r1⟩;dsimp only at r1;have m3:=m3';simp only[vc]at m3;simp only[QVh,h3,m3,ha,eE,seval];by_cases hlt:i<v.pairs.length
 ·have d:∀r:Int,0≤r→decide (r≥0)=true:=fun r h=>QWi h
  have d':∀r:Int,¬0≤r→decide (r≥0)=false:=fun r h=>QWb h
  by_cases hr:0≤r
  ·obtain⟨x,hi⟩:∃x,v.pairs[i]? = some x:=⟨v.pairs[i],QUo hlt⟩;have hm:=QUA hi;have hg:=ZT hi;have e1:=Qm i _ hlt (by simp only[maxLen];omega);have e2:IntKind.i64.wrap (lv+1)=lv+1:=by rw[QF];omega
   have rr:=r1 hr;have c1:=(hx x hm r hr (by omega)).1;rw[Qr]at c1;simp only[Ql hlt,d r hr,Qh,QVN,Qb,hg,QUU,QVu,QU4,h3,m3,h1,h2,ha,e2,eE,seval];refine Zi (R:=RN x.1.cnt r) c1 rfl rfl (fun _ h=>h.rf) ?_;rintro _ ⟨s,rfl,s0,s1⟩;by_cases hs:0≤s
   ·have ss:=s1 hs;have c2:=(hx x hm s hs (by omega)).2;rw[Qr]at c2;simp only[d s hs,Qh,QVN,Qb,hg,QUU,QUX,QU4,h3,m3,h1,h2,ha,e2,eE,seval];refine Zi (R:=RN x.2.cnt s) c2 rfl rfl (fun _ h=>h.rf) ?_;rintro _ ⟨u,rfl,u0,u1⟩;simp only[ha,e1,Qa,seval];exact⟨v.pairs.length-(i+1),by omega,_,_,i+1,u,rfl,rfl,by omega,(by exact h3),(by exact m3'),(by exact h1),(by rfl),(by rfl),u0,fun h=>by show((b+Xt (v.pairs.take (i+1)):Nat):Int)+u≤lf;rw[Fl hi];have:=u1 h;omega⟩
   ·simp only[d' s hs,h2,ha,e1,Qa,seval];exact⟨v.pairs.length-(i+1),by omega,_,_,i+1,s,rfl,rfl,by omega,(by exact h3),(by exact m3'),(by exact h1),(by rfl),(by rfl),s0,fun h=>absurd h hs⟩
  ·simp only[Ql hlt,d' r hr,h2,Qa,seval];exact q _ _ r (by exact h3) (by exact m3') (by exact h1) (by exact h2) r0 (fun h=>absurd h hr)
 ·have e:i=v.pairs.length:=by omega
  subst e;simp only[QVX]at r1;simp only[Qx hlt,Qa,seval];exact q _ _ r (by exact h3) (by exact m3') (by exact h1) (by exact h2) r0 r1

theorem n19 (v:V)(hv:v.ok M):∀lv lf:Int,0≤lv→lv≤41→0≤lf→lf≤1000000→WV Tryz.prog 19 [v.av,.int .i64 lv,.int .i64 lf] (RN v.cnt lf):=by
 revert hv
 refine V.ind (P:=fun v=>v.ok M→∀lv lf:Int,0≤lv→lv≤41→0≤lf→lf≤1000000→WV Tryz.prog 19 [v.av,.int .i64 lv,.int .i64 lf] (RN v.cnt lf)) ?_ v;clear v;intro v hl hp hs hv lv lf a0 a1 b0 b1;have n4:=hv.nr;rw[Qr];have e2:IntKind.i64.wrap (lf-1)=lf-1:=by rw[QF];omega
 refine k19.rl (by simp) ?_;simp only[e2,eE,seval];by_cases d1:lv > 40
 ·have d1':decide (lv > 40)=true:=QWi d1;simp only[d1',Dq,Qa,seval]
 have d1':decide (lv > 40)=false:=QWb d1;simp only[d1',eE,seval];cases d2:decide ((v.text.length:Int) > 5000)
 case true=>simp only[Dq,Qa,seval]
 simp only[QVh,eE,seval];by_cases d3:(v.raws.length:Int) > lf-1
 ·have d3':decide ((v.raws.length:Int) > lf-1)=true:=QWi d3;simp only[d3',Dq,Qa,seval]
 have d3':decide ((v.raws.length:Int) > lf-1)=false:=QWb d3;have e3:IntKind.i64.wrap (lf-1-(v.raws.length:Int))=lf-1-(v.raws.length:Int):=by rw[QF];omega
 simp only[d3',e3,QVh,eE,seval];refine Qd (CrI v lv (lf-1-(v.raws.length:Int))) _ ⟨_,_,0,rfl,rfl,QUv _,(by rfl),(by rfl),(by rfl),(by rfl),(by rfl)⟩ ?_;rintro _ st ⟨f,fr,i,rfl,rfl,hil,h3,m3',h1,h2,h7⟩;have m3:=m3';simp only[vc]at m3;simp only[QVh,h3,m3,h7,eE,seval];by_cases hlt:i<v.raws.length
 ·obtain⟨x,hi⟩:∃x,v.raws[i]? = some x:=⟨v.raws[i],QUo hlt⟩;have hg:(v.raws.map R.av)[i]? = some x.av:=by simp[hi]
  have e1:=Qm i _ hlt (by simp only[maxLen];omega);simp only[Ql hlt,R.av,Qh,QVN,Qb,hg,h3,m3,h7,eE,seval];cases d4:decide ((x.data.length:Int) > 5000)
  case true=>simp only[Dq,Qa,seval]
  simp only[h7,e1,Qa,seval];exact⟨v.raws.length-(i+1),by omega,_,_,i+1,rfl,rfl,by omega,(by exact h3),(by exact m3'),(by exact h1),(by exact h2),(by rfl)⟩
 simp only[Qx hlt,Qa,seval];clear hlt h7 m3 hil;refine QaX hv a0 (by omega) (b:=1+v.raws.length) (lf:=lf) b1 (fun x hx lf p q=>hl x hx (hv.list x hx) _ _ (by omega) (by omega) p q) _ _ _ (by exact h3) (by exact m3') (by exact h1) (by exact h2) (by rfl) (by omega) (by omega) _ ?_;clear h3 m3' h1 h2;intro f fr r h3 m3 h1 h2 r0 r1;simp only[Qa,seval];refine QaZ hv a0 (by omega) (b:=1+v.raws.length+Xc v.list) (lf:=lf) b1 (fun x hx lf p q=>⟨(hp x hx).1 (hv.keys x hx) _ _ (by omega) (by omega) p q,(hp x hx).2 (hv.vals x hx) _ _ (by omega) (by omega) p q⟩) _ _ _ (by exact h3) (by exact m3) (by exact h1) (by exact h2) (by rfl) r0 r1 _ ?_;clear h3 m3 h1 h2 r0 r1;intro f fr r h3 m3 h1 h2 r0 r1;simp only[Qa,seval];refine QaY hv a0 (by omega) (b:=1+v.raws.length+Xc v.list+Xt v.pairs) (lf:=lf) b1 (fun x hx lf p q=>hs x hx (hv.slots x hx) _ _ (by omega) (by omega) p q) _ _ _ (by exact h3) (by exact m3) (by exact h1) (by exact h2) (by rfl) r0 r1 _ ?_;clear h3 m3 h1 h2 r0 r1;intro f fr r h3 m3 h1 h2 r0 r1;simp only[h2,Qa,seval];exact QHi r0 (by rw[Xo];exact r1)

theorem n6 (v:V)(hv:v.ok M)(lf:Int)(b0:0≤lf)(b1:lf≤1000000):WV Tryz.prog 6 [v.av,.int .i64 lf] (UV ((v.cnt:Int)≤lf)):=by
 have hc:=n19 v hv 1 lf (by omega) (by omega) b0 b1;rw[Qr]at hc ⊢;refine k6.rl (by simp) ?_;simp only[eE,seval];refine Zi (R:=RN v.cnt lf) hc rfl rfl (fun _ h=>h.rf) ?_;rintro _ ⟨r,rfl,r0,r1⟩;simp only[Qa,seval];refine⟨_,rfl,fun h=>?_⟩;have h0:0≤r:=by simpa using h
 have:=r1 h0;omega

end

def HZ (P:PL):Prop:=(∀g∈P.progs,g.name.length≤300)∧∀e∈P.enums,e.name.length≤300
theorem Dr (p:Prop):UV p (.bool false):=⟨false,rfl,fun h=>by cases h⟩

section
variable {M:Nat}(hM:M≤140737488351232)(P:PL)(hP:P.ok M)

include hP in
theorem QxF (fr:Nat→Ob)(m1':fr 1=.cells (Pc P))(i:Nat)(g:PG)(hg:P.progs[i]? = some g)(lf:Int)(f:Fr)(h1:f 1=.ptr 0 1 0)(h3:f 3=.int .i64 lf)(h4:f 4=.int .i64 (i:Nat))(h5:f 5=.int .i64 0)(Q:Exit→St→Prop)
  (q:∀f:Fr,f 1=.ptr 0 1 0→f 3=.int .i64 lf→f 4=.int .i64 (i:Nat)→Q (.exit 2) (⟨f,[fr],[]⟩:St)) (qr:∀f:Fr,f 2=.bool false→Q .ret (⟨f,[fr],[]⟩:St)) :
  QG Tryz.prog (.loop AM) ⟨f,[fr],[]⟩ Q:=by
 have hgo:=(hP.progs g (QUA hg)).len;have hga:(P.progs.map Qi)[i]? = some (.agg g.cells):=by simp[hg,Qi]
 let I:Nat→St→Prop:=fun d st=>∃f k,st=⟨f,[fr],[]⟩∧d=g.ops.length-k∧f 1=.ptr 0 1 0∧f 3=.int .i64 lf∧f 4=.int .i64 (i:Nat)∧f 5=.int .i64 (k:Nat)
 refine Qd I _ ⟨f,0,rfl,rfl,h1,h3,h4,h5⟩ ?_;clear h1 h3 h4 h5;rintro _ st ⟨f,k,rfl,rfl,h1,h3,h4,h5⟩;have m1:=m1';simp only[Pc]at m1;simp only[PG.cells]at hga;simp only[Qh,QVN,Qb,hga,QVh,h1,h4,h5,m1,eE,seval];by_cases hlt:k<g.ops.length
 ·obtain⟨o,ho⟩:∃o,g.ops[k]? = some o:=⟨g.ops[k],QUo hlt⟩;have hoa:(g.ops.map fun o=>AV.agg o.cells)[k]? = some (.agg o.cells):=by simp[ho]
  have e1:=Qm k _ hlt hgo;simp only[PO.cells]at hoa;cases d1:decide ((o.name.length:Int) > 300)
  case true=>
   simp only[Ql hlt,Qh,QVN,Qb,hga,hoa,PO.cells,d1,h1,h4,h5,m1,eE,seval];exact qr _ (by rfl)
  cases d2:decide ((o.alias.length:Int) > 300)
  case true=>
   simp only[Ql hlt,Qh,QVN,Qb,hga,hoa,PO.cells,d1,d2,h1,h4,h5,m1,eE,seval];exact qr _ (by rfl)
  simp only[Ql hlt,Qh,QVN,Qb,hga,hoa,PO.cells,d1,d2,h1,h4,h5,m1,e1,eE,seval];exact⟨g.ops.length-(k+1),by omega,_,k+1,rfl,rfl,(by exact h1),(by exact h3),(by exact h4),(by rfl)⟩
 ·simp only[Qx hlt,Qa,seval];exact q _ (by exact h1) (by exact h3) (by exact h4)

include hM in
theorem SC (fr:Nat→Ob)(e:PE)(he:e.ok M)(m7':fr 7=.cells e.cells)(i:Nat)(lf:Int)(f:Fr)(h1:f 1=.ptr 0 1 0)(h3:f 3=.int .i64 lf)(h6:f 6=.int .i64 (i:Nat))(h7:f 7=.ptr 0 7 0)(h8:f 8=.int .i64 0)(Q:Exit→St→Prop)
  (q:∀f:Fr,f 1=.ptr 0 1 0→f 3=.int .i64 lf→f 6=.int .i64 (i:Nat)→Q (.exit 6) (⟨f,[fr],[]⟩:St)) (qr:∀f:Fr,f 2=.bool false→Q .ret (⟨f,[fr],[]⟩:St)) :
  QG Tryz.prog (.loop AO) ⟨f,[fr],[]⟩ Q:=by
 let I:Nat→St→Prop:=fun d st=>∃f k,st=⟨f,[fr],[]⟩∧d=e.items.length-k∧f 1=.ptr 0 1 0∧f 3=.int .i64 lf∧f 6=.int .i64 (i:Nat)∧f 7=.ptr 0 7 0∧f 8=.int .i64 (k:Nat)
 refine Qd I _ ⟨f,0,rfl,rfl,h1,h3,h6,h7,h8⟩ ?_;clear h1 h3 h6 h7 h8;rintro _ st ⟨f,k,rfl,rfl,h1,h3,h6,h7,h8⟩;have m7:=m7';simp only[PE.cells]at m7;simp only[QVh,h7,h8,m7,eE,seval];by_cases hlt:k<e.items.length
 ·obtain⟨o,ho⟩:∃o,e.items[k]? = some o:=⟨e.items[k],QUo hlt⟩;have hoa:(e.items.map fun n=>AV.agg n.cells)[k]? = some (.agg o.cells):=by simp[ho]
  have hok:=he.items o (QUA ho);have e1:=Qm k _ hlt he.len1;simp only[PI.cells]at hoa;cases d1:decide ((o.name.length:Int) > 300)
  case true=>
   simp only[Ql hlt,Qh,QVN,Qb,hoa,PI.cells,d1,h7,h8,m7,eE,seval];exact qr _ (by rfl)
  rcases hn:o.notes with _|⟨n,_|⟨n2,ns⟩⟩
  ·have c0:decide (((0:Nat):Int) > 1)=false:=rfl;have c1:(((0:Nat):Int)==1)=false:=rfl;rw[hn]at hoa;simp only[Ql hlt,Qh,QVN,Qb,hoa,PI.cells,QVn,QVi,d1,h7,h8,m7,e1,eE,seval];exact⟨e.items.length-(k+1),by omega,_,k+1,rfl,rfl,(by exact h1),(by exact h3),(by exact h6),(by exact h7),(by rfl)⟩
  ·obtain⟨kd,b',t,l,p,s,r,hv,htl,h3',h4',h5',h6'⟩:=CB (hok.notes n (by rw[hn];simp)) hM;have c0:decide (((1:Nat):Int) > 1)=false:=rfl;have z0:(0≤(0:Int))=True:=eq_true (Int.le_refl 0);have c1:(((1:Nat):Int)==1)=true:=rfl;have en:Xy n.cells=.agg [.str n.name,.int .i64 kd,.int .u64 ((b':Nat):Int),.str t,.list l,.list p,.list s,.list r]:=by
    rw[PN.cells,hv];rfl
   rw[hn]at hoa;simp only[QUT,QVn,en]at hoa;cases d2:decide ((t.length:Int) > 300)
   case true=>
    simp only[Ql hlt,Qh,QVN,Qb,hoa,PI.cells,QUC,QVi,QU3,z0,QVo,d1,d2,h7,h8,m7,eE,seval];exact qr _ (by rfl)
   simp only[Ql hlt,Qh,QVN,Qb,hoa,PI.cells,QUC,QVi,QU3,z0,QVo,d1,d2,h7,h8,m7,e1,eE,seval];exact⟨e.items.length-(k+1),by omega,_,k+1,rfl,rfl,(by exact h1),(by exact h3),(by exact h6),(by exact h7),(by rfl)⟩
  ·have c0:decide ((((ns.map fun n=>Xy n.cells).length+1+1:Nat):Int) > 1)=true:=QWi (by omega);rw[hn]at hoa;simp only[QUT]at hoa;simp only[Ql hlt,Qh,QVN,Qb,hoa,PI.cells,QUC,c0,d1,h7,h8,m7,eE,seval];exact qr _ (by rfl)
 ·simp only[Qx hlt,Qa,seval];exact q _ (by exact h1) (by exact h3) (by exact h6)

include hP in
theorem SD (hN:P.progs.length≤60)(fr:Nat→Ob)(m1':fr 1=.cells (Pc P))(f:Fr)(h1:f 1=.ptr 0 1 0)(h3:f 3=.int .i64 400)(h4:f 4=.int .i64 0)(Q:Exit→St→Prop)
  (q:∀(f:Fr) (lf:Int),f 1=.ptr 0 1 0→f 3=.int .i64 lf→0≤lf→lf≤400→(∀g∈P.progs,g.name.length≤300)→Q (.exit 0) (⟨f,[fr],[]⟩:St)) (qr:∀f:Fr,f 2=.bool false→Q .ret (⟨f,[fr],[]⟩:St)) :
  QG Tryz.prog (.loop AN) ⟨f,[fr],[]⟩ Q:=by
 let I:Nat→St→Prop:=fun d st=>∃f i,∃lf:Int,st=⟨f,[fr],[]⟩∧d=P.progs.length-i∧0≤lf∧lf≤400∧(∀g∈P.progs.take i,g.name.length≤300)∧f 1=.ptr 0 1 0∧f 3=.int .i64 lf∧f 4=.int .i64 (i:Nat)
 refine Qd I _ ⟨f,0,400,rfl,rfl,by omega,by omega,(by intro g hg;cases hg),h1,h3,h4⟩ ?_;clear h1 h3 h4;rintro _ st ⟨f,i,lf,rfl,rfl,l0,l1,hs,h1,h3,h4⟩;have m1:=m1';simp only[Pc]at m1;have dl:decide (lf≥0)=true:=QWi l0;simp only[QVh,h1,h4,m1,eE,seval];by_cases hlt:i<P.progs.length
 ·obtain⟨g,hg⟩:∃g,P.progs[i]? = some g:=⟨P.progs[i],QUo hlt⟩;have hga:(P.progs.map Qi)[i]? = some (.agg g.cells):=by simp[hg,Qi]
  have hgo:=(hP.progs g (QUA hg)).len;have e1:=Qm i _ hlt (by simp only[maxLen];omega);have e2:IntKind.i64.wrap (lf-(g.ops.length:Int))=lf-(g.ops.length:Int):=by
   simp only[maxLen]at hgo;rw[QF];omega
  simp only[PG.cells]at hga;by_cases hn:lf-(g.ops.length:Int)<0
  ·have d1:decide (lf-(g.ops.length:Int)<0)=true:=QWi hn;simp only[Ql hlt,Qh,QVN,Qb,hga,QVh,e2,d1,dl,h1,h3,h4,m1,eE,seval];exact qr _ (by rfl)
  have d1:decide (lf-(g.ops.length:Int)<0)=false:=QWb hn;by_cases hm:g.name.length≤300
  case neg=>
   have d2:decide ((g.name.length:Int) > 300)=true:=QWi (by omega);simp only[Ql hlt,Qh,QVN,Qb,hga,QVh,e2,d1,d2,dl,h1,h3,h4,m1,eE,seval];exact qr _ (by rfl)
  have d2:decide ((g.name.length:Int) > 300)=false:=QWb (by omega);simp only[Ql hlt,Qh,QVN,Qb,hga,QVh,e2,d1,d2,dl,h1,h3,h4,m1,eE,seval];refine QxF P hP fr m1' i g hg (lf-(g.ops.length:Int)) _ (by exact h1) (by rfl) (by exact h4) (by rfl) _ (fun f h1 h3 h4=>?_) (fun f h2=>?_)
  ·simp only[h4,e1,Qa,seval];exact⟨P.progs.length-(i+1),by omega,_,i+1,lf-(g.ops.length:Int),rfl,rfl,by omega,by omega,(by
    rw[QV6,hg];intro x hx;simp only[QV7,QVE,QWs]at hx;rcases hx with hx|rfl
    ·exact hs x hx
    ·exact hm),(by exact h1),(by exact h3),(by rfl)⟩
  ·simp only[Qa,seval];exact qr _ h2
 ·rw[QUV (by omega)]at hs;simp only[Qx hlt,Qa,seval];exact q _ lf (by exact h1) (by exact h3) l0 l1 hs

include hM hP in
theorem SE (hN:P.enums.length≤60)(fr:Nat→Ob)(m1':fr 1=.cells (Pc P))(r7:∀s∈[7],(fr s).isRow=false)(f:Fr)(lf:Int)(h1:f 1=.ptr 0 1 0)(h3:f 3=.int .i64 lf)(l0:0≤lf)(l1:lf≤400)(h6:f 6=.int .i64 0)(Q:Exit→St→Prop)
  (q:∀(f:Fr) (fr:Nat→Ob) (lf:Int),f 3=.int .i64 lf→(0≤lf→∀e∈P.enums,e.name.length≤300)→Q (.exit 4) (⟨f,[fr],[]⟩:St)) (qr:∀(f:Fr) (fr:Nat→Ob),f 2=.bool false→Q .ret (⟨f,[fr],[]⟩:St)) :
  QG Tryz.prog (.loop AP) ⟨f,[fr],[]⟩ Q:=by
 let I:Nat→St→Prop:=fun d st=>∃f fr i,∃lf:Int,st=⟨f,[fr],[]⟩∧d=P.enums.length-i∧-800≤lf∧lf≤400∧(0≤lf→∀e∈P.enums.take i,e.name.length≤300)∧f 1=.ptr 0 1 0∧f 3=.int .i64 lf∧f 6=.int .i64 (i:Nat)∧fr 1=.cells (Pc P)∧∀s∈[7],(fr s).isRow=false
 refine Qd I _ ⟨f,fr,0,lf,rfl,rfl,by omega,l1,(by intro _ g hg;cases hg),h1,h3,h6,m1',r7⟩ ?_;clear h1 h3 h6 m1' r7 l0 l1;rintro _ st ⟨f0,fr0,i,lf,rfl,rfl,l0,l1,hs,h10,h30,h60,m10,r7⟩;refine QK (a:=_) [7] r7 ?_;intro f fr hf hm hn7;have h1:f 1=.ptr 0 1 0:=by rw[hf,h10]<;>rfl
 have h3:f 3=.int .i64 lf:=by rw[hf,h30]<;>rfl
 have h6:f 6=.int .i64 (i:Nat):=by rw[hf,h60]<;>rfl
 have m1':fr 1=.cells (Pc P):=by rw[hm 1 (by decide),m10]<;>rfl
 have n7:=hn7 7 (by decide);clear hf hm hn7 h10 h30 h60 m10 r7;have m1:=m1';simp only[Pc]at m1;simp only[QVh,h1,h6,m1,eE,seval];by_cases hlt:i<P.enums.length
 ·obtain⟨e,he⟩:∃e,P.enums[i]? = some e:=⟨P.enums[i],QUo hlt⟩;have hea:(P.enums.map Qq)[i]? = some (.agg e.cells):=by simp[he,Qq]
  have heo:=hP.enums e (QUA he);have e1:=Qm i _ hlt (by simp only[maxLen];omega);simp only[PE.cells]at hea;by_cases hl:0≤lf
  case neg=>
   have dl:decide (lf≥0)=false:=QWb hl;simp only[Ql hlt,dl,h3,Qa,seval];exact q _ _ lf (by exact h3) (fun h=>absurd h hl)
  have dl:decide (lf≥0)=true:=QWi hl;by_cases q1:(e.items.length:Int) > lf
  ·have d1:decide ((e.items.length:Int) > lf)=true:=QWi q1;simp only[Ql hlt,Qh,QVN,Qb,hea,QVh,n7,d1,dl,h1,h3,h6,m1,eE,seval];exact qr _ _ (by rfl)
  have d1:decide ((e.items.length:Int) > lf)=false:=QWb q1;by_cases q2:(e.free.length:Int) > lf
  ·have d2:decide ((e.free.length:Int) > lf)=true:=QWi q2;simp only[Ql hlt,Qh,QVN,Qb,hea,QVh,n7,d1,d2,dl,h1,h3,h6,m1,eE,seval];exact qr _ _ (by rfl)
  have d2:decide ((e.free.length:Int) > lf)=false:=QWb q2;by_cases hm:e.name.length≤300
  case neg=>
   have d3:decide ((e.name.length:Int) > 300)=true:=QWi (by omega);simp only[Ql hlt,Qh,QVN,Qb,hea,QVh,n7,d1,d2,d3,dl,h1,h3,h6,m1,eE,seval];exact qr _ _ (by rfl)
  have d3:decide ((e.name.length:Int) > 300)=false:=QWb (by omega);have e2:IntKind.i64.wrap (lf-(e.items.length:Int))=lf-(e.items.length:Int):=by rw[QF];omega
  have e3:IntKind.i64.wrap (lf-(e.items.length:Int)-(e.free.length:Int))=lf-(e.items.length:Int)-(e.free.length:Int):=by rw[QF];omega
  simp only[Ql hlt,Qh,QVN,Qb,hea,QVh,n7,e2,e3,d1,d2,d3,dl,h1,h3,h6,m1,eE,seval];refine SC hM _ e heo (by rfl) i (lf-(e.items.length:Int)-(e.free.length:Int)) _ (by exact h1) (by rfl) (by exact h6) (by rfl) (by rfl) _ (fun f h1 h3 h6=>?_) (fun f h2=>?_)
  ·simp only[h6,e1,Qa,seval];exact⟨P.enums.length-(i+1),by omega,_,_,i+1,lf-(e.items.length:Int)-(e.free.length:Int),rfl,rfl,by omega,by omega,(by
    intro _;rw[QV6,he];intro x hx;simp only[QV7,QVE,QWs]at hx;rcases hx with hx|rfl
    ·exact hs hl x hx
    ·exact hm),(by exact h1),(by exact h3),(by rfl),(by exact m1'),(by
    intro s hs;simp only[QVI,QWv,or_false]at hs;subst hs;rfl)⟩
  ·simp only[Qa,seval];exact qr _ _ h2
 ·rw[QUV (by omega)]at hs;simp only[Qx hlt,Qa,seval];exact q _ _ lf (by exact h3) hs

include hM hP in
theorem UW:WV Tryz.prog 17 [P.av] (UV (HZ P)):=by
 rw[show P.av=.agg (Pc P)from rfl];by_cases q1:P.progs.length≤60
 case neg=>
  have d1:decide ((P.progs.length:Int) > 60)=true:=QWi (by omega);refine k17.rl (by simp) ?_;simp only[Pc,QVh,d1,Dr,eE,seval]
 have d1:decide ((P.progs.length:Int) > 60)=false:=QWb (by omega);by_cases q2:P.enums.length≤60
 case neg=>
  have d2:decide ((P.enums.length:Int) > 60)=true:=QWi (by omega);refine k17.rl (by simp) ?_;simp only[Pc,QVh,d1,d2,Dr,eE,seval]
 have d2:decide ((P.enums.length:Int) > 60)=false:=QWb (by omega);refine k17.rl (by simp) ?_;simp only[Pc,QVh,d1,d2,eE,seval];refine SD P hP q1 _ (by rfl) _ (by rfl) (by rfl) (by rfl) _ (fun f lf h1 h3 l0 l1 hs=>?_) (fun f h2=>?_)
 ·simp only[Qa,seval];refine SE hM P hP q2 _ (by rfl) (by
    intro s hs;simp only[QVI,QWv,or_false]at hs;subst hs;rfl) _ lf (by exact h1) (by exact h3) l0 l1 (by rfl) _ (fun f fr lf h3 hs2=>?_) (fun f fr h2=>?_)
  ·simp only[h3,Qa,seval];exact⟨_,rfl,fun h=>⟨hs,hs2 (by simpa using h)⟩⟩
  ·simp only[h2,Dr,Qa,seval]
 ·simp only[h2,Dr,Qa,seval]

end
open So Vp Cp

def Ko (s:List UInt8)(P:PL):Int:=Q0 (fun g:PG=>g.name==s) P.progs 0
theorem Rp (s:List UInt8)(P:PL):Ko s P = -1∨(0≤Ko s P∧Ko s P<(P.progs.length:Int)):=by
 unfold Ko;rcases Kx (fun g:PG=>g.name==s) P.progs 0 with⟨h,_⟩|⟨k,o,h,h1,_⟩
 ·exact .inl h
 ·have:=(QUn.1 h1).1;exact .inr ⟨by rw[h];omega,by rw[h];omega⟩
def H1 (P:PL)(s:List UInt8)(v:V):List UInt8×Int :=
 if Ko s P<0 then([],10)
 else if XT P (Ko s P) v≠0 then([],XT P (Ko s P) v)
 else if (XE P 16 (Ko s P) v).length > 65536 then([],3)
 else(XE P 16 (Ko s P) v,0)
theorem Zl {P:PL}{t:Int}{v:V}(h:XT P t v=0):(0≤t∧t<(P.progs.length:Int))∧Q9 P 16 (QL P t) v=0:=by
 unfold XT at h;split at h
 ·omega
 rename_i ht;split at h
 ·rename_i hm;exact⟨by omega,hm⟩
 ·rename_i hm;exact absurd h hm
theorem WR {P:PL}{t:Int}(ht:0≤t∧t<(P.progs.length:Int)):P.progs[t.toNat]? = some (QL P t):=by
 unfold QL;rw[QUo (by omega:t.toNat<P.progs.length)];rfl

section
variable {M:Nat}(hM:M≤140737488351232)(P:PL)(hP:P.ok M)(hS:HZ P)

include hM hP hS in
theorem t57:Qk Tryz.prog 57 [P.av] (.int .i64 (ck P)) :=
 QOZ P hP hM (fun g h=>QUl (hS.1 g h) (by decide)) (fun g h=>QUl (hS.2 g h) (by decide))

include hM hP hS in
theorem t29 (t:Int)(ht:0≤t∧t<(P.progs.length:Int))(hk:ck P=0):Qk Tryz.prog 29 [P.av,.int .i64 t] (.bool true):=by
 have e0:P.av=.agg [.list (P.progs.map Qi),.list (P.enums.map Qq)]:=rfl;have d1:decide (t≥0)=true:=QWi ht.1;have d2:decide (t<(P.progs.length:Int))=true:=QWi ht.2;have cc:=t57 hM P hP hS;have z0:((0:Int)==0)=true:=rfl;rw[hk,e0]at cc;refine k29.fn (by simp) ?_;simp only[e0,d1,d2,QVh,eE,seval];refine aC cc ?_;simp only[z0,Qa,seval]

include hP in
theorem Rq (hk:ck P=0)(t:Int)(v:V)(hv:v.ok M)(hc:v.cnt≤1048576)(ht:0≤t∧t<(P.progs.length:Int))(hm:Q9 P 16 (QL P t) v=0):Qk Tryz.prog 31 [P.av,.int .i64 t,v.av] (.str (XE P 16 t v)) :=
 t31 hP (Jw hk) (ZH hk) (Sy hk) (Dm hP (WQ hk)) 16 t (QL P t) (WR ht) ht.1 v hv hc hm

include hM hP hS in
theorem t11 (hk:ck P=0)(t:Int)(v:V)(hv:v.ok M)(hc:v.cnt≤1048576)(hf:XT P t v=0):Qk Tryz.prog 11 [P.av,.int .i64 t,v.av] (.str (XE P 16 t v)):=by
 have e0:P.av=.agg [.list (P.progs.map Qi),.list (P.enums.map Qq)]:=rfl;obtain⟨ht,hm⟩:=Zl hf;have cu:=t29 hM P hP hS t ht hk;have cb:=Rq P hP hk t v hv hc ht hm;rw[e0]at cu;rw[e0,Qr v]at cb;rw[Qr v];refine k11.fn (by simp) ?_;simp only[e0,eE,seval];refine aC cu ?_;simp only[eE,seval];refine aC cb ?_;simp only[Qa,seval]

include hM hP hS in
theorem t10 (hk:ck P=0)(s:List UInt8)(v:V)(hv:v.ok M)(hc:v.cnt≤1048576):Qk Tryz.prog 10 [P.av,.str s,v.av] (.tup [.str (H1 P s v).1,.int .i64 (H1 P s v).2]):=by
 have e0:P.av=.agg [.list (P.progs.map Qi),.list (P.enums.map Qq)]:=rfl;have cf:=y28 P hP.len1 s;unfold pfr at cf;rw[show Q0 (fun g:PG=>g.name==s) P.progs 0=Ko s P from rfl,e0]at cf;unfold H1;by_cases hp:Ko s P<0
 ·have d0:decide (Ko s P≥0)=false:=QWb (by omega);rw[QUQ hp];rw[QUQ hp,d0]at cf;rw[Qr v];refine k10.fn (by simp) ?_;simp only[e0,eE,seval];refine aC cf ?_;simp only[Qa,seval]
 have d0:decide (Ko s P≥0)=true:=QWi (by omega);rw[QUB hp];rw[QUB hp,d0]at cf;have ht:0≤Ko s P∧Ko s P<(P.progs.length:Int):=by
  rcases Rp s P with h|h
  ·omega
  ·exact h
 generalize Ko s P=t at *;have cu:=t29 hM P hP hS t ht hk;have cx:=v30 hP (Jw hk) t v hv;have cb:=fun hm=>Rq P hP hk t v hv hc ht hm
 rw[e0]at cu;rw[e0,Qr v]at cx cb;rw[Qr v];refine k10.fn (by simp) ?_;simp only[e0,eE,seval];refine aC cf ?_;simp only[eE,seval];refine aC cu ?_;simp only[eE,seval];refine aC cx ?_;by_cases hf:XT P t v=0
 case neg=>
  have b0:(XT P t v != 0)=true:=by simp[hf]
  simp only[QUQ hf,b0,Qa,seval]
 have b0:(XT P t v != 0)=false:=by simp[hf]
 rw[QUB (fun h=>h hf)];simp only[b0,eE,seval];refine aC (cb (Zl hf).2) ?_;by_cases hl:(XE P 16 t v).length > 65536
 ·have d1:decide (((XE P 16 t v).length:Int) > 65536)=true:=QWi (by omega);simp only[QUQ hl,d1,Qa,seval]
 ·have d1:decide (((XE P 16 t v).length:Int) > 65536)=false:=QWb (by omega);simp only[QUB hl,d1,Qa,seval]

end

theorem Qa0 {l:List PG}(h:XV l (XD PG.name)=true):l.Pairwise fun a b=>Op.bytesLess a.name b.name=true:=by
 have hs:∀i (hi:i+1<l.length),Op.bytesLess l[i].name l[i+1].name=true:=by
  intro i hi;unfold XV at h;have:=QJ.1 h (i+1) hi;rw[Z6 (QUo (by omega:i<l.length)) (QUo hi)]at this;unfold XD at this
  simpa using this
 rw[QWt];intro i j hi hj hij;obtain⟨d,rfl⟩:∃d,j=i+1+d:=⟨j-(i+1),by omega⟩;clear hij
 induction d with
 |zero=>exact hs i (by omega)
 |succ d ih=>exact Y3 (ih (by omega)) (hs (i+1+d) (by omega))

theorem SF {P:PL}(hk:ck P=0){t:Int}(ht:0≤t∧t<(P.progs.length:Int)):Ko (QL P t).name P=t:=by
 have ho:=(HS hk).1;unfold UD at ho;simp only[QUL]at ho;have hp:=Qa0 ho.1.1.1;rw[QWt]at hp;have hg:=WR ht;obtain⟨hl,hg2⟩:=QUn.1 hg;unfold Ko;rcases Kx (fun g:PG=>g.name==(QL P t).name) P.progs 0 with⟨_,hn⟩|⟨k,o,h,h1,h2⟩
 ·have:=QWe.1 hn (QL P t) (QUA hg);simp at this
 ·have hn:o.name=(QL P t).name:=by simpa using QWh h2
  obtain⟨hkl,hk2⟩:=QUn.1 h1;have e:k=t.toNat:=by
   rcases Nat.lt_trichotomy k t.toNat with c|c|c
   ·have:=hp k t.toNat hkl hl c;rw[hk2,hg2,hn,Ya]at this;cases this
   ·exact c
   ·have:=hp t.toNat k hl hkl c;rw[hk2,hg2,hn,Ya]at this;cases this
  rw[h];omega

section
variable {M:Nat}{P:PL}(hk:ck P=0){t:Int}{v:V}(hf:XT P t v=0)(hc:v.cnt≤300)

include hk hf hc in
theorem DV:XT P t (nrm P 16 (QL P t) v)=0∧XE P 16 t (nrm P 16 (QL P t) v)=XE P 16 t v∧H1 P (QL P t).name (nrm P 16 (QL P t) v)=H1 P (QL P t).name v∧(nrm P 16 (QL P t) v).cnt≤300:=by
 obtain⟨ht,hm⟩:=Zl hf;have hg:QL P t∈P.progs:=QUA (WR ht);have h1:=WI (Jw hk) (ZH hk) 16 _ hg v hm;have h2:=KI (Jw hk) (ZH hk) 16 _ hg v hm;have h3:=Yx (ZH hk) 16 _ (Yb (ZH hk) t) v;generalize hx:nrm P 16 (QL P t) v=x at h1 h2 h3 ⊢;have hfx:XT P t x=0:=by
  unfold XT;rw[QUB (by omega),QUQ h1,QUB (by rw[QF];omega)]
 have hb:XE P 16 t x=XE P 16 t v:=by
  rw[XE,XE,h2,hx]
 refine⟨hfx,hb,?_,by omega⟩;unfold H1;rw[SF hk ht,hfx,hf,hb]

include hk hf hc in
theorem Qa1 (hP:P.ok M)(ov:v.ok M){w:V}(ow:w.ok M)(hfw:XT P t w=0)(hcw:w.cnt≤300):XE P 16 t v=XE P 16 t w↔nrm P 16 (QL P t) v=nrm P 16 (QL P t) w:=by
 obtain⟨ht,hm⟩:=Zl hf;obtain⟨_,hmw⟩:=Zl hfw;have hg:QL P t∈P.progs:=QUA (WR ht);obtain⟨a1,a2,_,a4⟩:=DV hk hf hc;obtain⟨b1,b2,_,b4⟩:=DV hk hfw hcw
 constructor
 ·intro e;rw[←a2,←b2]at e;exact Ro (M:=M) (Jw hk) (ZH hk) (QaU hk) 16 t _ _ ht (Zl a1).2 (Zl b1).2 (YE (Dm hP (WQ hk)) 16 t v ov) (YE (Dm hP (WQ hk)) 16 t w ow) (by omega) (by omega) (KI (Jw hk) (ZH hk) 16 _ hg v hm) (KI (Jw hk) (ZH hk) 16 _ hg w hmw) e
 ·intro e;rw[←a2,←b2,e]

end
end Go.Proofs.YtdhlbgejhcejcaaGreatDoor.Va

namespace Go.Proofs.YtdhlbgejhcejcaaGreatDoor.Va
open Go Am Rc Bt Vp Cp Up

end Go.Proofs.YtdhlbgejhcejcaaGreatDoor.Va

namespace Go.Proofs.YtdhlbgejhcejcaaGreatDoor.Va
open Go Am Rc Bt Vp Cp

open Up

open Br So

section
variable {M:Nat}{P:PL}{m:PG→V→Int}{bd:Int→V→List UInt8}(o:PO)(ho:UO P o)

end

def QQo (n:Int)(x:V):List AV:=[.int .i64 n,.int .i64 x.kd,.int .u64 (x.bits:Nat),.str x.text,.list (x.list.map V.av),.list (x.pairs.map V.pav),.list (x.slots.map V.sav),.list (x.raws.map R.av)]

structure RaF (P:PL)(o:PO)(x:V)(f:Fr)(fr:Nat→Ob)(g:Nat)(out:List R):Prop where
 f3:f 3=.ptr 0 3 0
 f5:f 5=.ptr 0 5 0
 f7:f 7=.ptr 0 7 0
 f9:f 9=.vec 0 9 g 0 out.length false
 m3:fr 3=.cells [.list (P.progs.map Qi),.list (P.enums.map Qq)]
 m5:fr 5=.cells (QQo o.num x)
 m7:fr 7=.cells o.cells
 mR:fr 9=.vec g 4 (out.map R.av)

section
variable {M:Nat}{P:PL}{m:PG→V→Int}{bd:Int→V→List UInt8}(o:PO)(ho:UO P o)

end

section
variable {M:Nat}{P:PL}{m:PG→V→Int}{bd:Int→V→List UInt8}

end

structure FiF (P:PL)(t:Nat)(w:V)(f:Fr)(fr:Nat→Ob)(k g:Nat)(out:List R):Prop where
 f1:f 1=.int .i64 (t:Nat)
 f3:f 3=.ptr 0 3 0
 f5:f 5=.ptr 0 5 0
 f7:f 7=.vec 0 7 g 0 out.length false
 f8:f 8=.int .i64 (k:Nat)
 m3:fr 3=.cells [.list (P.progs.map Qi),.list (P.enums.map Qq)]
 m5:fr 5=.cells (ZW w)
 mR:fr 7=.vec g 4 (out.map R.av)

section
variable {M:Nat}{P:PL}

end
end Go.Proofs.YtdhlbgejhcejcaaGreatDoor.Va

namespace Go.Proofs.YtdhlbgejhcejcaaGreatDoor.Va
open Go Am Rc Bt Br Up So

noncomputable def sm (v w:V):Bool:=@decide (v=w) (Classical.propDecidable _)
theorem NG {v w:V}:sm v w=true↔v=w:=by
 unfold sm;exact @decide_eq_true_iff _ (Classical.propDecidable _)
theorem JV {v w:V}(h:v≠w):sm v w=false:=by
 cases e:sm v w
 ·rfl
 ·exact absurd (NG.1 e) h
theorem NH {v w:V}(h:v=w):sm v w=true:=NG.2 h

theorem Yg {α:Type}{l r:List α}{i:Nat}{x:α}(h:l.take i=r.take i)(hx:l[i]? = some x)(hy:r[i]? = some x):l.take (i+1)=r.take (i+1):=by
 rw[QV6,QV6,h,hx,hy]
theorem Ws {α:Type}{l r:List α}{i:Nat}{x y:α}(hx:l[i]? = some x)(hy:r[i]? = some y)(h:x≠y):l≠r:=by
 intro e;rw[e,hy]at hx;cases hx;exact h rfl

section
variable (v w:V)(fr:Nat→Ob)(m2':fr 2=.cells (ZW v))(m3':fr 3=.cells (ZW w))(f:Fr)(h2:f 2=.ptr 0 2 0)(h3:f 3=.ptr 0 3 0)(Q:Exit→St→Prop)
include m2' m3' h2 h3

theorem Qa2 (hl:v.list.length=w.list.length)(hn:v.list.length≤maxLen)(hx:∀x∈v.list,∀y∈w.list,Qk Tryz.prog 12 [x.av,y.av] (.bool (sm x y)))(h5:f 5=.int .i64 0)
  (q:∀f,f 2=.ptr 0 2 0→f 3=.ptr 0 3 0→v.list=w.list→Q (.exit 0) (⟨f,[fr],[]⟩:St)) (qr:∀f,f 4=.bool false→v.list≠w.list→Q .ret (⟨f,[fr],[]⟩:St)) :
  QG Tryz.prog (.loop SZ) ⟨f,[fr],[]⟩ Q:=by
 let I:Nat→St→Prop:=fun k st=>∃f i,st=⟨f,[fr],[]⟩∧k=v.list.length-i∧v.list.take i=w.list.take i∧f 2=.ptr 0 2 0∧f 3=.ptr 0 3 0∧f 5=.int .i64 (i:Nat)
 refine Qd I _ ⟨f,0,rfl,rfl,rfl,h2,h3,h5⟩ ?_;clear h2 h3 h5;rintro _ st ⟨f,i,rfl,rfl,ht,h2,h3,h5⟩;have m2:=m2';have m3:=m3';simp only[ZW]at m2 m3;simp only[QVh,h2,h5,m2,eE,seval];by_cases hlt:i<v.list.length
 ·obtain⟨x,hi⟩:∃x,v.list[i]? = some x:=⟨v.list[i],QUo hlt⟩;obtain⟨y,hj⟩:∃y,w.list[i]? = some y:=⟨w.list[i]'(by omega),QUo (by omega)⟩;have hg:=WH hi;have hg2:=WH hj;have e1:=Qm i _ hlt hn;have c1:=hx x (QUA hi) y (QUA hj);rw[Qr x,Qr y]at c1;simp only[Ql hlt,Qh,QVN,Qb,hg,hg2,h2,h3,h5,m2,m3,eE,seval];refine aC c1 ?_;by_cases hxy:x=y
  ·have s1:=NH hxy;subst hxy;simp only[s1,h5,e1,Qa,seval];exact⟨v.list.length-(i+1),by omega,_,i+1,rfl,rfl,Yg ht hi hj,(by exact h2),(by exact h3),(by rfl)⟩
  ·have s1:=JV hxy;simp only[s1,Qa,seval];exact qr _ (by rfl) (Ws hi hj hxy)
 ·rw[QUV (by omega),QUV (by omega)]at ht;simp only[Qx hlt,Qa,seval];exact q _ (by exact h2) (by exact h3) ht

theorem SG (hl:v.pairs.length=w.pairs.length)(hn:v.pairs.length≤maxLen)(hx:∀x∈v.pairs,∀y∈w.pairs,Qk Tryz.prog 12 [x.1.av,y.1.av] (.bool (sm x.1 y.1))∧Qk Tryz.prog 12 [x.2.av,y.2.av] (.bool (sm x.2 y.2)))(h6:f 6=.int .i64 0)
  (q:∀f,f 2=.ptr 0 2 0→f 3=.ptr 0 3 0→v.pairs=w.pairs→Q (.exit 2) (⟨f,[fr],[]⟩:St)) (qr:∀f,f 4=.bool false→v.pairs≠w.pairs→Q .ret (⟨f,[fr],[]⟩:St)) :
  QG Tryz.prog (.loop S0) ⟨f,[fr],[]⟩ Q:=by
 let I:Nat→St→Prop:=fun k st=>∃f i,st=⟨f,[fr],[]⟩∧k=v.pairs.length-i∧v.pairs.take i=w.pairs.take i∧f 2=.ptr 0 2 0∧f 3=.ptr 0 3 0∧f 6=.int .i64 (i:Nat)
 refine Qd I _ ⟨f,0,rfl,rfl,rfl,h2,h3,h6⟩ ?_;clear h2 h3 h6;rintro _ st ⟨f,i,rfl,rfl,ht,h2,h3,h6⟩;have m2:=m2';have m3:=m3';simp only[ZW]at m2 m3;simp only[QVh,h2,h6,m2,eE,seval];by_cases hlt:i<v.pairs.length
 ·obtain⟨x,hi⟩:∃x,v.pairs[i]? = some x:=⟨v.pairs[i],QUo hlt⟩;obtain⟨y,hj⟩:∃y,w.pairs[i]? = some y:=⟨w.pairs[i]'(by omega),QUo (by omega)⟩;have hg:=ZT hi;have hg2:=ZT hj;have e1:=Qm i _ hlt hn;obtain⟨c1,c2⟩:=hx x (QUA hi) y (QUA hj);rw[Qr x.1,Qr y.1]at c1;rw[Qr x.2,Qr y.2]at c2;simp only[Ql hlt,Qh,QVN,Qb,hg,hg2,h2,h3,h6,m2,m3,eE,seval];refine aC c1 ?_;by_cases hxy:x.1=y.1
  case neg=>
   have s1:=JV hxy;simp only[s1,Qa,seval];exact qr _ (by rfl) (Ws hi hj fun e=>hxy (by rw[e]))
  have s1:=NH hxy;simp only[s1,Qh,QVN,Qb,hg,hg2,h2,h3,h6,m2,m3,eE,seval];refine aC c2 ?_;by_cases hxz:x.2=y.2
  ·have s2:=NH hxz;have e:x=y:=Prod.ext hxy hxz;subst e;simp only[s2,h6,e1,Qa,seval];exact⟨v.pairs.length-(i+1),by omega,_,i+1,rfl,rfl,Yg ht hi hj,(by exact h2),(by exact h3),(by rfl)⟩
  ·have s2:=JV hxz;simp only[s2,Qa,seval];exact qr _ (by rfl) (Ws hi hj fun e=>hxz (by rw[e]))
 ·rw[QUV (by omega),QUV (by omega)]at ht;simp only[Qx hlt,Qa,seval];exact q _ (by exact h2) (by exact h3) ht

theorem SH (hl:v.slots.length=w.slots.length)(hn:v.slots.length≤maxLen)(hx:∀x∈v.slots,∀y∈w.slots,Qk Tryz.prog 12 [x.2.av,y.2.av] (.bool (sm x.2 y.2)))(h7:f 7=.int .i64 0)
  (q:∀f,f 2=.ptr 0 2 0→f 3=.ptr 0 3 0→v.slots=w.slots→Q (.exit 4) (⟨f,[fr],[]⟩:St)) (qr:∀f,f 4=.bool false→v.slots≠w.slots→Q .ret (⟨f,[fr],[]⟩:St)) :
  QG Tryz.prog (.loop S1) ⟨f,[fr],[]⟩ Q:=by
 let I:Nat→St→Prop:=fun k st=>∃f i,st=⟨f,[fr],[]⟩∧k=v.slots.length-i∧v.slots.take i=w.slots.take i∧f 2=.ptr 0 2 0∧f 3=.ptr 0 3 0∧f 7=.int .i64 (i:Nat)
 refine Qd I _ ⟨f,0,rfl,rfl,rfl,h2,h3,h7⟩ ?_;clear h2 h3 h7;rintro _ st ⟨f,i,rfl,rfl,ht,h2,h3,h7⟩;have m2:=m2';have m3:=m3';simp only[ZW]at m2 m3;simp only[QVh,h2,h7,m2,eE,seval];by_cases hlt:i<v.slots.length
 ·obtain⟨x,hi⟩:∃x,v.slots[i]? = some x:=⟨v.slots[i],QUo hlt⟩;obtain⟨y,hj⟩:∃y,w.slots[i]? = some y:=⟨w.slots[i]'(by omega),QUo (by omega)⟩;have hg:=Jv hi;have hg2:=Jv hj;have e1:=Qm i _ hlt hn;have c1:=hx x (QUA hi) y (QUA hj);rw[Qr x.2,Qr y.2]at c1;by_cases hxy:x.1=y.1
  case neg=>
   have d1:(x.1 != y.1)=true:=by simp[hxy]
   simp only[Ql hlt,Qh,QVN,Qb,hg,hg2,d1,h2,h3,h7,m2,m3,eE,seval];exact qr _ (by rfl) (Ws hi hj fun e=>hxy (by rw[e]))
  have d1:(x.1 != y.1)=false:=by simp[hxy]
  simp only[Ql hlt,Qh,QVN,Qb,hg,hg2,d1,h2,h3,h7,m2,m3,eE,seval];refine aC c1 ?_;by_cases hxz:x.2=y.2
  ·have s2:=NH hxz;have e:x=y:=Prod.ext hxy hxz;subst e;simp only[s2,h7,e1,Qa,seval];exact⟨v.slots.length-(i+1),by omega,_,i+1,rfl,rfl,Yg ht hi hj,(by exact h2),(by exact h3),(by rfl)⟩
  ·have s2:=JV hxz;simp only[s2,Qa,seval];exact qr _ (by rfl) (Ws hi hj fun e=>hxz (by rw[e]))
 ·rw[QUV (by omega),QUV (by omega)]at ht;simp only[Qx hlt,Qa,seval];exact q _ (by exact h2) (by exact h3) ht

theorem Qa3 (hl:v.raws.length=w.raws.length)(hn:v.raws.length≤maxLen)(h8:f 8=.int .i64 0)
  (q:∀f,f 2=.ptr 0 2 0→f 3=.ptr 0 3 0→v.raws=w.raws→Q (.exit 6) (⟨f,[fr],[]⟩:St)) (qr:∀f,f 4=.bool false→v.raws≠w.raws→Q .ret (⟨f,[fr],[]⟩:St)) :
  QG Tryz.prog (.loop S2) ⟨f,[fr],[]⟩ Q:=by
 let I:Nat→St→Prop:=fun k st=>∃f i,st=⟨f,[fr],[]⟩∧k=v.raws.length-i∧v.raws.take i=w.raws.take i∧f 2=.ptr 0 2 0∧f 3=.ptr 0 3 0∧f 8=.int .i64 (i:Nat)
 refine Qd I _ ⟨f,0,rfl,rfl,rfl,h2,h3,h8⟩ ?_;clear h2 h3 h8;rintro _ st ⟨f,i,rfl,rfl,ht,h2,h3,h8⟩;have m2:=m2';have m3:=m3';simp only[ZW]at m2 m3;simp only[QVh,h2,h8,m2,eE,seval];by_cases hlt:i<v.raws.length
 ·obtain⟨x,hi⟩:∃x,v.raws[i]? = some x:=⟨v.raws[i],QUo hlt⟩;obtain⟨y,hj⟩:∃y,w.raws[i]? = some y:=⟨w.raws[i]'(by omega),QUo (by omega)⟩;have hg:=HM hi;have hg2:=HM hj;have e1:=Qm i _ hlt hn;by_cases hxy:x=y
  ·subst hxy;simp only[Ql hlt,Qh,QVN,Qb,hg,hg2,QVv,h2,h3,h8,m2,m3,e1,eE,seval];exact⟨v.raws.length-(i+1),by omega,_,i+1,rfl,rfl,Yg ht hi hj,(by exact h2),(by exact h3),(by rfl)⟩
  ·have d1:(x.num==y.num&&(x.wire==y.wire&&(((x.bits:Nat):Int)==((y.bits:Nat):Int)&&x.data==y.data)))=false:=by
    rw[QWd];intro e;simp only[QUL,QUt]at e;obtain⟨e1,e2,e3,e4⟩:=e;refine hxy ?_;cases x;cases y;simp only at e1 e2 e3 e4;have e5:=Int.ofNat_inj.1 e3;subst e1 e2 e5 e4;rfl
   have d2:=congrArg (fun b=>!b) d1;simp only[QVt]at d2;simp only[Ql hlt,Qh,QVN,Qb,hg,hg2,d1,QVz,h2,h3,h8,m2,m3,eE,seval];exact qr _ (by rfl) (Ws hi hj hxy)
 ·rw[QUV (by omega),QUV (by omega)]at ht;simp only[Qx hlt,Qa,seval];exact q _ (by exact h2) (by exact h3) ht

end

theorem V.ext7 {v w:V}(h1:v.kd=w.kd)(h2:v.bits=w.bits)(h3:v.text=w.text)(h4:v.list=w.list)(h5:v.pairs=w.pairs)(h6:v.slots=w.slots)(h7:v.raws=w.raws):v=w:=by
 cases v;cases w;simp only[V.kd,V.bits,V.text,V.list,V.pairs,V.slots,V.raws]at h1 h2 h3 h4 h5 h6 h7;subst h1 h2 h3 h4 h5 h6 h7;rfl

theorem u12 {M:Nat}:∀v:V,v.ok M→∀w:V,w.ok M→Qk Tryz.prog 12 [v.av,w.av] (.bool (sm v w)):=by
 refine V.ind (P:=fun v=>v.ok M→∀w:V,w.ok M→Qk Tryz.prog 12 [v.av,w.av] (.bool (sm v w))) ?_;intro v hl hp hs hv w hw;have n1:=hv.nl;have n2:=hv.np;have n3:=hv.ns;have n4:=hv.nr;rw[show v.av=.agg (ZW v)from Qr v,show w.av=.agg (ZW w)from Qr w];by_cases a1:v.kd=w.kd
 case neg=>
  have d1:(v.kd != w.kd)=true:=by simp[a1]
  have s1:sm v w=false:=JV fun e=>a1 (by rw[e])
  rw[s1];refine Ff.fn (by simp) ?_;simp only[ZW,d1,eE,seval]
 have d1:(v.kd != w.kd)=false:=by simp[a1]
 by_cases a2:v.bits=w.bits
 case neg=>
  have d2:((v.bits:Int) != (w.bits:Int))=true:=by rw[QUN];omega
  have s1:sm v w=false:=JV fun e=>a2 (by rw[e])
  rw[s1];refine Ff.fn (by simp) ?_;simp only[ZW,d1,d2,eE,seval]
 have d2:((v.bits:Int) != (w.bits:Int))=false:=by rw[bne_eq_false_iff_eq];omega
 by_cases a3:v.text=w.text
 case neg=>
  have d3:(v.text==w.text)=false:=by simp[a3]
  have s1:sm v w=false:=JV fun e=>a3 (by rw[e])
  rw[s1];refine Ff.fn (by simp) ?_;simp only[ZW,d1,d2,d3,QH,eE,seval]
 have d3:(v.text==w.text)=true:=by simp[a3]
 by_cases a4:v.list.length=w.list.length
 case neg=>
  have d4:((v.list.length:Int) != (w.list.length:Int))=true:=by rw[QUN];omega
  have s1:sm v w=false:=JV fun e=>a4 (by rw[e])
  rw[s1];refine Ff.fn (by simp) ?_;simp only[ZW,d1,d2,d3,d4,QH,QVh,eE,seval]
 have d4:((v.list.length:Int) != (w.list.length:Int))=false:=by rw[bne_eq_false_iff_eq];omega
 by_cases a5:v.pairs.length=w.pairs.length
 case neg=>
  have d5:((v.pairs.length:Int) != (w.pairs.length:Int))=true:=by rw[QUN];omega
  have s1:sm v w=false:=JV fun e=>a5 (by rw[e])
  rw[s1];refine Ff.fn (by simp) ?_;simp only[ZW,d1,d2,d3,d4,d5,QH,QVh,eE,seval]
 have d5:((v.pairs.length:Int) != (w.pairs.length:Int))=false:=by rw[bne_eq_false_iff_eq];omega
 by_cases a6:v.slots.length=w.slots.length
 case neg=>
  have d6:((v.slots.length:Int) != (w.slots.length:Int))=true:=by rw[QUN];omega
  have s1:sm v w=false:=JV fun e=>a6 (by rw[e])
  rw[s1];refine Ff.fn (by simp) ?_;simp only[ZW,d1,d2,d3,d4,d5,d6,QH,QVh,eE,seval]
 have d6:((v.slots.length:Int) != (w.slots.length:Int))=false:=by rw[bne_eq_false_iff_eq];omega
 by_cases a7:v.raws.length=w.raws.length
 case neg=>
  have d7:((v.raws.length:Int) != (w.raws.length:Int))=true:=by rw[QUN];omega
  have s1:sm v w=false:=JV fun e=>a7 (by rw[e])
  rw[s1];refine Ff.fn (by simp) ?_;simp only[ZW,d1,d2,d3,d4,d5,d6,d7,QH,QVh,eE,seval]
 have d7:((v.raws.length:Int) != (w.raws.length:Int))=false:=by rw[bne_eq_false_iff_eq];omega
 generalize hr:sm v w=r;refine Ff.fn (by simp) ?_;simp only[ZW,d1,d2,d3,d4,d5,d6,d7,QH,QVh,eE,seval];refine Qa2 v w _ (by rfl) (by rfl) _ (by rfl) (by rfl) _ a4 (by simp only[maxLen];omega) (fun x hx y hy=>hl x hx (hv.list x hx) y (hw.list y hy)) (by rfl) (fun f h2 h3 b1=>?_) (fun f h4 b1=>?_)
 case refine_2=>
  rw[JV fun e=>b1 (by rw[e])]at hr;subst hr;simp only[h4,Qa,seval]
 simp only[Qa,seval];refine SG v w _ (by rfl) (by rfl) _ (by exact h2) (by exact h3) _ a5 (by simp only[maxLen];omega) (fun x hx y hy=>⟨(hp x hx).1 (hv.keys x hx) y.1 (hw.keys y hy),(hp x hx).2 (hv.vals x hx) y.2 (hw.vals y hy)⟩) (by rfl) (fun f h2 h3 b2=>?_) (fun f h4 b2=>?_)
 case refine_2=>
  rw[JV fun e=>b2 (by rw[e])]at hr;subst hr;simp only[h4,Qa,seval]
 simp only[Qa,seval];refine SH v w _ (by rfl) (by rfl) _ (by exact h2) (by exact h3) _ a6 (by simp only[maxLen];omega) (fun x hx y hy=>hs x hx (hv.slots x hx) y.2 (hw.slots y hy)) (by rfl) (fun f h2 h3 b3=>?_) (fun f h4 b3=>?_)
 case refine_2=>
  rw[JV fun e=>b3 (by rw[e])]at hr;subst hr;simp only[h4,Qa,seval]
 simp only[Qa,seval];refine Qa3 v w _ (by rfl) (by rfl) _ (by exact h2) (by exact h3) _ a7 (by simp only[maxLen];omega) (by rfl) (fun f h2 h3 b4=>?_) (fun f h4 b4=>?_)
 case refine_2=>
  rw[JV fun e=>b4 (by rw[e])]at hr;subst hr;simp only[h4,Qa,seval]
 rw[NH (V.ext7 a1 a2 a3 b1 b2 b3 b4)]at hr;subst hr;simp only[Qa,seval]

open Vp Cp

section
variable {M:Nat}(hM:M≤140737488351232)(P:PL)(hP:P.ok M)

end
end Go.Proofs.YtdhlbgejhcejcaaGreatDoor.Va

namespace Go.Proofs.YtdhlbgejhcejcaaGreatDoor.Cl
open Go Am Rc Bt

theorem UX {sz:Nat}(h0:sz≠0){xs:List AV}(h:xs.all (fun e=>e.cells.length==sz)=true)(hf:QP xs=[]):xs=[]:=by
 cases xs with
 |nil=>rfl
 |cons x xs=>
  have hl:x.cells.length=sz:=by simpa using QUz.1 h x (by simp)
  have:x.cells=[]:=(QWy.1 hf).1;rw[this]at hl;exact absurd hl.symm h0

def UY (sz:Nat)(args:List AV)(m:Qo):Option (AV×Qo) :=
 match args,m with
 | [.list xs],fr :: m=>bif xs.all (fun e=>e.cells.length==sz)&&Nat.ble xs.length 1000000&&Qu (fr 1000)then some (.vec 0 1000 (Xn (fr 1000)) 0 xs.length false,QI fr 1000 (.vec (Xn (fr 1000)) sz xs) :: m)else none
 |_,_=>none

theorem UZ {P:Program}{k sz:Nat}(hk:∀(xs:List AV) (fr:Nat→Ob) (m:Qo),xs.all (fun e=>e.cells.length==sz)=true→xs.length≤1000000→Qu (fr 1000)=true→
  Qg P k [.list xs] (fr :: m) (fun x m1=>x=.vec 0 1000 (Xn (fr 1000)) 0 xs.length false∧m1=QI fr 1000 (.vec (Xn (fr 1000)) sz xs) :: m)) {args:List AV} {m m':Qo} {v:AV} (h:UY sz args m=some (v,m')):Qg P k args m fun x m1=>x=v∧m1=m':=by
 unfold UY at h;split at h
 ·rename_i xs fr m0;cases hb:(xs.all (fun e=>e.cells.length==sz)&&Nat.ble xs.length 1000000&&Qu (fr 1000))with
  |false=>rw[hb]at h;cases h
  |true=>
   rw[hb]at h;simp only[cond_true,QUM,Prod.mk.injEq]at h;simp only[QUL]at hb;obtain⟨rfl,rfl⟩:=h;exact hk xs fr m0 hb.1.1 (QVO hb.1.2) hb.2
 ·cases h

theorem c95 (xs:List AV)(fr:Nat→Ob)(m:Qo)(h:xs.all (fun e=>e.cells.length==4)=true)(hn:xs.length≤1000000)(hr:Qu (fr 1000)=true) :
  Qg Tryz.prog 95 [.list xs] (fr :: m) (fun x m1=>x=.vec 0 1000 (Xn (fr 1000)) 0 xs.length false∧m1=QI fr 1000 (.vec (Xn (fr 1000)) 4 xs) :: m):=by
 have hng:QD (fr :: m) 0 1000=Xn (fr 1000):=Jn;refine k95.go (by simp) ?_;simp only[SX,Cj,Ck,Qa,seval];refine Z3 (ys:=xs) (by simp only[Qa,seval]) ?_ ?_
 ·simp only[Cn,Qa,seval];refine ZC rfl ?_;simp only[Qa,seval];refine QO (site:=5) (g:=1) (xs:=[]) (ys:=xs) rfl rfl rfl rfl rfl h (by simp[maxLen];omega) (by simp;omega) ?_;simp only[Qa,seval];refine XQ (l:=0) (site:=5) (g:=2) (o:=0) (n:=xs.length) (q:=false) (sz:=4) (xs:=xs) (by simp only[QU3,Qa,seval]) (by simp only[Qa,seval]) (by simp) (by decide) hr ?_;simp only[hng,Vd,eE,seval]
  try simp[AV.still,AV.un,Zm,XC]
 ·intro he;have hx:xs=[]:=by
   rcases he with he|he
   ·exact he
   ·exact UX (by decide) h he
  subst hx;simp only[Cm,Qa,seval];refine Zp (by simp only[Qa,seval]) rfl ?_;simp only[Qa,seval];refine XQ (l:=0) (site:=2) (g:=1) (o:=0) (n:=0) (q:=false) (sz:=4) (xs:=[]) (by simp only[Qa,seval]) (by simp only[Qa,seval]) (by simp) (by decide) hr ?_;simp only[hng,Vd,eE,seval]
  try simp[AV.still,AV.un,Zm,XC]

theorem QQp (xs:List AV)(fr:Nat→Ob)(m:Qo)(h:xs.all (fun e=>e.cells.length==8)=true)(hn:xs.length≤1000000)(hr:Qu (fr 1000)=true) :
  Qg Tryz.prog 185 [.list xs] (fr :: m) (fun x m1=>x=.vec 0 1000 (Xn (fr 1000)) 0 xs.length false∧m1=QI fr 1000 (.vec (Xn (fr 1000)) 8 xs) :: m):=by
 have hng:QD (fr :: m) 0 1000=Xn (fr 1000):=Jn;refine RI.go (by simp) ?_;simp only[Cq,Bp,Bq,Qa,seval];refine Z3 (ys:=xs) (by simp only[Qa,seval]) ?_ ?_
 ·simp only[Bu,Qa,seval];refine ZC rfl ?_;simp only[Qa,seval];refine QO (site:=5) (g:=1) (xs:=[]) (ys:=xs) rfl rfl rfl rfl rfl h (by simp[maxLen];omega) (by simp;omega) ?_;simp only[Qa,seval];refine XQ (l:=0) (site:=5) (g:=2) (o:=0) (n:=xs.length) (q:=false) (sz:=8) (xs:=xs) (by simp only[QU3,Qa,seval]) (by simp only[Qa,seval]) (by simp) (by decide) hr ?_;simp only[hng,Dz,eE,seval]
  try simp[AV.still,AV.un,Zm,XC]
 ·intro he;have hx:xs=[]:=by
   rcases he with he|he
   ·exact he
   ·exact UX (by decide) h he
  subst hx;simp only[Bs,Qa,seval];refine Zp (by simp only[Qa,seval]) rfl ?_;simp only[Qa,seval];refine XQ (l:=0) (site:=2) (g:=1) (o:=0) (n:=0) (q:=false) (sz:=8) (xs:=[]) (by simp only[Qa,seval]) (by simp only[Qa,seval]) (by simp) (by decide) hr ?_;simp only[hng,Dz,eE,seval]
  try simp[AV.still,AV.un,Zm,XC]

theorem QQq (xs:List AV)(fr:Nat→Ob)(m:Qo)(h:xs.all (fun e=>e.cells.length==7)=true)(hn:xs.length≤1000000)(hr:Qu (fr 1000)=true) :
  Qg Tryz.prog 184 [.list xs] (fr :: m) (fun x m1=>x=.vec 0 1000 (Xn (fr 1000)) 0 xs.length false∧m1=QI fr 1000 (.vec (Xn (fr 1000)) 7 xs) :: m):=by
 have hng:QD (fr :: m) 0 1000=Xn (fr 1000):=Jn;refine RH.go (by simp) ?_;simp only[Co,Bl,Bm,Qa,seval];refine Z3 (ys:=xs) (by simp only[Qa,seval]) ?_ ?_
 ·simp only[Bo,Qa,seval];refine ZC rfl ?_;simp only[Qa,seval];refine QO (site:=5) (g:=1) (xs:=[]) (ys:=xs) rfl rfl rfl rfl rfl h (by simp[maxLen];omega) (by simp;omega) ?_;simp only[Qa,seval];refine XQ (l:=0) (site:=5) (g:=2) (o:=0) (n:=xs.length) (q:=false) (sz:=7) (xs:=xs) (by simp only[QU3,Qa,seval]) (by simp only[Qa,seval]) (by simp) (by decide) hr ?_;simp only[hng,Dy,eE,seval]
  try simp[AV.still,AV.un,Zm,XC]
 ·intro he;have hx:xs=[]:=by
   rcases he with he|he
   ·exact he
   ·exact UX (by decide) h he
  subst hx;simp only[Bn,Qa,seval];refine Zp (by simp only[Qa,seval]) rfl ?_;simp only[Qa,seval];refine XQ (l:=0) (site:=2) (g:=1) (o:=0) (n:=0) (q:=false) (sz:=7) (xs:=[]) (by simp only[Qa,seval]) (by simp only[Qa,seval]) (by simp) (by decide) hr ?_;simp only[hng,Dy,eE,seval]
  try simp[AV.still,AV.un,Zm,XC]

end Go.Proofs.YtdhlbgejhcejcaaGreatDoor.Cl

namespace Go.Proofs.YtdhlbgejhcejcaaGreatDoor.Ew
open Go Am Rc Cl

def nat:K3:=fun k args m=>
 if k=95 then UY 4 args m
 else if k=185 then UY 8 args m
 else if k=184 then UY 7 args m
 else none

theorem nat_ok:Wc Tryz.prog nat:=by
 intro k args m v m' h;unfold nat at h;split at h
 ·rename_i e;subst e;exact UZ c95 h
 split at h
 ·rename_i e;subst e;exact UZ QQp h
 split at h
 ·rename_i e;subst e;exact UZ QQq h
 ·cases h

theorem Rr:evT nat Ev.tab 3000 8 []=true:=by decide +kernel

theorem KP:Qk Tryz.prog 8 [] (.bool true):=Ci nat_ok Ev.Qwe Rr

end Go.Proofs.YtdhlbgejhcejcaaGreatDoor.Ew

namespace Go.Proofs.YtdhlbgejhcejcaaGreatDoor.Va
open Go Am Rc Bt Br Up So Vp Cp

theorem QHj {p:Prop}{b:Bool}(h:b=true→p):UV p (.bool b):=⟨b,rfl,h⟩

section
variable {M:Nat}(P:PL)(hP:P.ok M)(hM:M≤140737488351232)(s:List UInt8)(v:V)(hv:v.ok M)

include hP hM in
theorem n5:WV Tryz.prog 5 [P.av] (UV (HZ P∧ck P=0)):=by
 have e0:P.av=.agg [.list (P.progs.map Qi),.list (P.enums.map Qq)]:=rfl;have c1:=UW hM P hP;have c2:=z18 P hP hM;rw[e0]at c1 c2 ⊢;refine k5.rl (by simp) ?_;simp only[eE,seval];refine Zi (R:=UV (HZ P)) c1 rfl rfl (fun _ h=>h.rf) ?_;rintro _ ⟨b,rfl,hb⟩;cases b
 ·simp only[Dr,Qa,seval]
 simp only[eE,seval];refine aC c2 ?_;simp only[Qa,seval];exact QHj fun h=>⟨hb rfl,by simpa using h⟩

end

section
variable {M:Nat}(P:PL)(hP:P.ok M)(hM:M≤140737488351232)(t:Int)(v w:V)(hv:v.ok M)(hw:w.ok M)

include hP hM hv hw in
theorem c3:Qk Tryz.prog 3 [P.av,.int .i64 t,v.av,w.av] (.bool true):=by
 have e0:P.av=.agg [.list (P.progs.map Qi),.list (P.enums.map Qq)]:=rfl;have c1:=n5 P hP hM;have c2:=n6 v hv 300 (by decide) (by decide);have c3:=n6 w hw 300 (by decide) (by decide);have c4:=fun(hg:HZ P∧ck P=0)=>v7 hP hM (Jw hg.2) t v hv
 have c5:=fun(hg:HZ P∧ck P=0)=>v7 hP hM (Jw hg.2) t w hw
 rw[e0]at c1;rw[e0,Qr v]at c4;rw[e0,Qr w]at c5;rw[Qr v]at c2;rw[Qr w]at c3;rw[e0,Qr v,Qr w];refine k3.fn (by simp) ?_;simp only[eE,seval];refine Zi (R:=UV (HZ P∧ck P=0)) c1 rfl rfl (fun _ h=>h.rf) ?_;rintro _ ⟨b,rfl,hg⟩;cases b
 ·simp only[Qa,seval];refine aC Ew.KP ?_;simp only[Qa,seval]
 replace hg:=hg rfl;simp only[eE,seval];refine Zi (R:=UV ((v.cnt:Int)≤300)) c2 rfl rfl (fun _ h=>h.rf) ?_;rintro _ ⟨b,rfl,hc⟩;cases b
 ·simp only[Qa,seval];refine aC Ew.KP ?_;simp only[Qa,seval]
 replace hc:=hc rfl;simp only[eE,seval];refine Zi (R:=UV ((w.cnt:Int)≤300)) c3 rfl rfl (fun _ h=>h.rf) ?_;rintro _ ⟨b,rfl,hd⟩;cases b
 ·simp only[Qa,seval];refine aC Ew.KP ?_;simp only[Qa,seval]
 replace hd:=hd rfl;have hcv:v.cnt≤300:=by omega
 have hcw:w.cnt≤300:=by omega
 have hc':v.cnt≤1048576:=by omega
 have hd':w.cnt≤1048576:=by omega
 simp only[eE,seval];refine aC (c4 hg) ?_;by_cases hf:XT P t v=0
 case neg=>
  have b0:(XT P t v != 0)=true:=by simp[hf]
  simp only[b0,Qa,seval];refine aC Ew.KP ?_;simp only[Qa,seval]
 have b0:(XT P t v != 0)=false:=by simp[hf]
 simp only[b0,eE,seval];refine aC (c5 hg) ?_;by_cases hfw:XT P t w=0
 case neg=>
  have b0:(XT P t w != 0)=true:=by simp[hfw]
  simp only[b0,Qa,seval];refine aC Ew.KP ?_;simp only[Qa,seval]
 have b1:(XT P t w != 0)=false:=by simp[hfw]
 have hk:=hg.2;obtain⟨ht,hm⟩:=Zl hf;obtain⟨_,hmw⟩:=Zl hfw;have c6:=v9 (M:=M) (Jw hk) (ZH hk) (WQ hk) 16 t (QL P t) (WR ht) ht.1 v hv hc' (Y7 _ _ _ hm);have c7:=v9 (M:=M) (Jw hk) (ZH hk) (WQ hk) 16 t (QL P t) (WR ht) ht.1 w hw hd' (Y7 _ _ _ hmw);obtain⟨x1,x2,x3,x4⟩:=DV hk hf hcv;have hi:=Qa1 hk hf hcv hP hv hw hfw hcw;have ox:=YE (Dm hP (WQ hk)) 16 t v hv;have oy:=YE (Dm hP (WQ hk)) 16 t w hw;have c8:=u12 _ ox _ oy;have c9:=t10 hM P hP hg.1 hk (QL P t).name v hv hc';have c10:=t10 hM P hP hg.1 hk (QL P t).name _ ox (by omega);have c11:=t11 hM P hP hg.1 hk t v hv hc' hf;have c12:=t11 hM P hP hg.1 hk t _ ox (by omega) x1;have c13:=t11 hM P hP hg.1 hk t w hw hd' hfw;rw[x3]at c10;rw[x2]at c12;have hs:(XE P 16 t v==XE P 16 t w)=sm (nrm P 16 (QL P t) v) (nrm P 16 (QL P t) w):=by
  rw[QVg,NG,←hi,QUt]
 clear hi x1 x2 x3 x4 ox oy;have hpg:(P.progs.map Qi)[t.toNat]? = some (Qi (QL P t)):=by rw[QVJ,WR ht];rfl
 generalize nrm P 16 (QL P t) v=x at c6 c8 c10 c12 hs;generalize nrm P 16 (QL P t) w=y at c7 c8 hs;generalize H1 P (QL P t).name v=q at c9 c10;generalize XE P 16 t v=d at c11 c12 hs;generalize XE P 16 t w=d2 at c13 hs;obtain⟨q1,q2⟩:=q;dsimp only at c9 c10;rw[e0,Qr v,Qr x]at c6;rw[e0,Qr w,Qr y]at c7;rw[Qr x,Qr y]at c8;rw[e0,Qr v]at c9;rw[e0,Qr x]at c10;rw[e0,Qr v]at c11;rw[e0,Qr x]at c12;rw[e0,Qr w]at c13;obtain⟨tn,rfl⟩:=QV1 ht.1;rw[QVN]at hpg;have htl:tn<P.progs.length:=by omega
 simp only[b1,eE,seval];refine aC c6 ?_;simp only[eE,seval];refine aC c7 ?_;simp only[Qh,QVN,Qb,hpg,Qi,PG.cells,eE,seval];refine aC c9 ?_;simp only[eE,seval];refine aC c10 ?_;simp only[bne_self_eq_false,QVv,QH,eE,seval];refine aC c11 ?_;simp only[eE,seval];refine aC c12 ?_;simp only[QVv,QH,eE,seval];refine aC c11 ?_;simp only[eE,seval];refine aC c13 ?_;simp only[QH,eE,seval];refine aC c8 ?_;simp only[hs,QVv,Qa,seval];refine aC Ew.KP ?_;simp only[Qa,seval]

end
end Go.Proofs.YtdhlbgejhcejcaaGreatDoor.Va

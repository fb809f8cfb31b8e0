/- Parts of the proof, in order. -/
import Derived.Test.YtfgchfdkiomfpaaGreatProg
import Derived.Test.YtfgchfdkiomfpaaGreatMTagdecReads2

set_option linter.unusedSimpArgs false
namespace Go.Proofs.YtfgchfdkiomfpaaGreat.Va
open Go Am Rc Bt Br Up So

section sorting
variable {α:Type}{lt:α→α→Bool}
theorem Bs (a:α):∀l:List α,(ZX lt a l).Perm (a :: l)
 | []=>.refl _
 |x :: l=>by
  rw[ZX];cases lt x a
  ·exact .refl _
  ·exact((Bs a l).cons x).trans (.swap a x l)
theorem Q0:∀l:List α,(QC lt l).Perm l
 | []=>.refl _
 |a :: l=>(Bs a _).trans ((Q0 l).cons a)
end sorting

theorem HR:∀ {a b c:List UInt8},Op.bytesLess a b=true→Op.bytesLess b c=true→Op.bytesLess a c=true
 |a,b,[],_,h=>by cases b<;>simp[Op.bytesLess]at h
 | [],_,_ :: _,_,_=>by simp[Op.bytesLess]
 |x :: a,[],_ :: _,h,_=>by simp[Op.bytesLess]at h
 |x :: a,y :: b,z :: c,h,k=>by
  simp only[Op.bytesLess,QQz,QPY,QQW,QP1]at h k ⊢;rcases h with h|⟨h1,h2⟩<;>rcases k with k|⟨k1,k2⟩
  ·exact .inl (UInt8.lt_trans h k)
  ·subst k1;exact .inl h
  ·subst h1;exact .inl k
  ·subst h1 k1;exact .inr ⟨rfl,HR h2 k2⟩
theorem UM:∀ {a b:List UInt8},Op.bytesLess a b=false→Op.bytesLess b a=false→a=b
 | [],[],_,_=>rfl
 | [],_ :: _,h,_=>by simp[Op.bytesLess]at h
 |_ :: _,[],_,h=>by simp[Op.bytesLess]at h
 |x :: a,y :: b,h,k=>by
  simp only[Op.bytesLess,QQt,Bool.and_eq_false_iff,QRr,QRk]at h k;have e:x=y:=by
   rcases Nat.lt_trichotomy x.toNat y.toNat with g|g|g
   ·exact absurd (UInt8.lt_iff_toNat_lt.2 g) h.1
   ·exact UInt8.toNat_inj.1 g
   ·exact absurd (UInt8.lt_iff_toNat_lt.2 g) k.1
  subst e;rw[UM (h.2.resolve_left fun g=>g rfl) (k.2.resolve_left fun g=>g rfl)]
theorem DY:∀a:List UInt8,Op.bytesLess a a=false
 | []=>rfl
 |x :: a=>by simp[Op.bytesLess,DY a]

def kl (k:Int)(a b:V):Bool :=
 if XZ k=true then Op.bytesLess a.text b.text else if (k==2||k==3)=true then decide (IntKind.i64.wrap (a.bits:Int)<IntKind.i64.wrap (b.bits:Int))else decide ((a.bits:Int)<(b.bits:Int))
theorem ZF (k:Int):SW fun x y:V×V=>kl k x.1 y.1 where
 irr x:=by
  unfold kl;split
  ·exact DY _
  ·split<;>simp
 tr x y z h g:=by
  unfold kl at *;split
  ·rename_i ht;rw[QP5 ht]at h g;exact HR h g
  ·rename_i ht;rw[QPO ht]at h g;split
   ·rename_i hs;rw[QP5 hs]at h g;simp only[QQW]at *;omega
   ·rename_i hs;rw[QPO hs]at h g;simp only[QQW]at *;omega
 nt x y z h g:=by
  unfold kl at *;split
  ·rename_i ht;rw[QP5 ht]at h g;cases hc:Op.bytesLess x.1.text z.1.text with
   |false=>rfl
   |true=>
    cases hy:Op.bytesLess y.1.text x.1.text with
    |true=>rw[HR hy hc]at g;cases g
    |false=>
     rw[UM h hy]at hc;rw[hc]at g;cases g
  ·rename_i ht;rw[QPO ht]at h g;split
   ·rename_i hs;rw[QP5 hs]at h g;simp only[QRr]at *;omega
   ·rename_i hs;rw[QPO hs]at h g;simp only[QRr]at *;omega

def QV (k:Int)(l:List (V×V)):List (V×V):=QC (fun x y=>kl k x.1 y.1) l
def Jh (l:List R):List R:=QC (fun x y=>decide (x.num<y.num)) l
theorem CB:SW fun x y:R=>decide (x.num<y.num) where
 irr x:=by simp
 tr x y z h k:=by simp only[QQW]at *;omega
 nt x y z h k:=by simp only[QRr]at *;omega

def _root_.Go.Proofs.YtfgchfdkiomfpaaGreat.Br.V.nsc (v:V):V:=.mk v.kd (ZE v.kd v.bits) v.text v.list v.pairs v.slots v.raws
def _root_.Go.Proofs.YtfgchfdkiomfpaaGreat.Br.V.emp (v:V):Bool:=Va.emp v.kd v.bits v.text (v.list.map V.av) (v.pairs.map V.pav) (v.slots.map V.sav) (v.raws.map R.av)

section
variable (nm:PG→V→V)(P:PL)
def Jc (o:PO)(v:V):V:=if o.kind=10 then nm (Qn P o.target) v else v.nsc
def JH (o:PO)(v:V):V :=
 if o.card=4 then .mk 11 0 [] (v.list.map (Jc nm P o)) [] [] []else if o.card=5 then .mk 12 0 [] [] ((QV o.key v.pairs).map fun p=>(p.1.nsc,Jc nm P o p.2)) [] []else Jc nm P o v
def Ji (sl:List (Int×V))(o:PO):List (Int×V):=match sl.find? (fun s=>s.1==o.num)with
 |none=>[]
 |some s=>if (decide (o.card<3) || !(JH nm P o s.2).emp)=true then [(o.num,JH nm P o s.2)]else []
def R5 (g:PG)(v:V):V:=.mk 10 0 [] [] [] (g.ops.flatMap (Ji nm P v.slots)) (Jh v.raws)
end
def XC (P:PL):Nat→PG→V→V
 |0,_,v=>v
 |n+1,g,v=>R5 (XC P n) P g v

theorem Vh (v:V):v.nsc.cnt=v.cnt:=by
 rw[Q3,Q3 v];rfl
theorem Bu {f:V→V}(h:∀v,(f v).cnt≤v.cnt):∀l:List V,Zd (l.map f)≤Zd l
 | []=>QPB _
 |x :: l=>by
  have:=h x;have:=Bu h l;simp only[QP8,Zd];omega
theorem Bv {f g:V→V}(h:∀v,(f v).cnt≤v.cnt)(k:∀v,(g v).cnt≤v.cnt):∀l:List (V×V),XM (l.map fun p=>(f p.1,g p.2))≤XM l
 | []=>QPB _
 |(a,b) :: l=>by
  have:=h a;have:=k b;have:=Bv h k l;simp only[QP8,XM];omega
theorem DZ {a b:List (V×V)}(h:a.Perm b):XM a=XM b:=by
 induction h with
 |nil=>rfl
 |cons x _ ih=>obtain⟨p,q⟩:=x;simp only[XM,ih]
 |swap x y l=>obtain⟨p,q⟩:=x;obtain⟨r,s⟩:=y;simp only[XM];omega
 |trans _ _ h1 h2=>rw[h1,h2]
theorem HS (a b:List (Int×V)):Xz (a++b)=Xz a+Xz b:=by
 induction a with
 |nil=>simp[Xz]
 |cons x a ih=>obtain⟨n,v⟩:=x;simp only[QPW,Xz,ih];omega

theorem Dz {nm:PG→V→V}{P:PL}(h:∀t v,(nm (Qn P t) v).cnt≤v.cnt)(o:PO)(v:V):(Jc nm P o v).cnt≤v.cnt:=by
 unfold Jc;split
 ·exact h _ _
 ·rw[Vh];exact QPB _
theorem Vi {nm:PG→V→V}{P:PL}(h:∀t v,(nm (Qn P t) v).cnt≤v.cnt)(o:PO)(v:V):(JH nm P o v).cnt≤v.cnt:=by
 unfold JH;split
 ·have:=Bu (Dz (P:=P) h o) v.list;rw[Q3,Q3 v];simp only[V.raws,V.list,V.pairs,V.slots,QQv,XM,Xz];simp only[V.list]at this;omega
 ·split
  ·have h1:=Bv (f:=V.nsc) (g:=Jc nm P o) (fun v=>by rw[Vh];exact QPB _) (Dz (P:=P) h o) (QV o.key v.pairs);have h2:XM (QV o.key v.pairs)=XM v.pairs:=DZ (Q0 _);rw[Q3,Q3 v];simp only[V.raws,V.list,V.pairs,V.slots,QQv,Zd,Xz];simp only[V.pairs]at h1 h2;omega
  ·exact Dz h o v

def wS (sl:List (Int×V))(n:Int):Nat:=Xz (sl.filter fun s=>s.1==n)
theorem QsT (ops:List PO)(hd:ops.Pairwise fun a b=>a.num<b.num)(n:Int)(w:Nat):(ops.map fun o=>if n=o.num then w else 0).sum≤w:=by
 induction ops with
 |nil=>simp
 |cons o ops ih=>
  obtain⟨h1,h2⟩:=QQ9.1 hd;simp only[QP8,List.sum_cons];by_cases e:n=o.num
  ·have:(ops.map fun o=>if n=o.num then w else 0).sum=0:=by
    have:∀l:List PO,(∀x∈l,n≠x.num)→(l.map fun o=>if n=o.num then w else 0).sum=0:=by
     intro l
     induction l with
     |nil=>intro _;rfl
     |cons x l ih=>
      intro h;rw[QP8,List.sum_cons,QPO (h x (by simp)),ih fun y hy=>h y (by simp[hy])]
    exact this ops fun x hx=>by have:=h1 x hx;omega
   rw[QP5 e,this];omega
  ·rw[QPO e];have:=ih h2;omega
theorem QsU (ops:List PO)(hd:ops.Pairwise fun a b=>a.num<b.num)(sl:List (Int×V)):(ops.map fun o=>wS sl o.num).sum≤Xz sl:=by
 induction sl with
 |nil=>
  have:∀l:List PO,(l.map fun o=>wS [] o.num).sum=0:=by
   intro l
   induction l with
   |nil=>rfl
   |cons x l ih=>rw[QP8,List.sum_cons,ih];rfl
  rw[this];exact QPJ _
 |cons s sl ih=>
  obtain⟨n,v⟩:=s;have h1:=QsT ops hd n v.cnt;have h2:∀l:List PO,(l.map fun o=>wS ((n,v) :: sl) o.num).sum=(l.map fun o=>if n=o.num then v.cnt else 0).sum+(l.map fun o=>wS sl o.num).sum:=by
   intro l
   induction l with
   |nil=>rfl
   |cons o l ih=>
    simp only[QP8,List.sum_cons,ih];have:wS ((n,v) :: sl) o.num=(if n=o.num then v.cnt else 0)+wS sl o.num:=by
     unfold wS;by_cases e:n=o.num
     ·rw[List.filter_cons_of_pos (by simpa using e),QP5 e,Xz]
     ·rw[List.filter_cons_of_neg (by simpa using e),QPO e,QQi]
    omega
  rw[h2,Xz];omega

theorem L0 {sl:List (Int×V)}{n:Int}{s:Int×V}(h:sl.find? (fun s=>s.1==n)=some s):s.2.cnt≤wS sl n:=by
 unfold wS
 induction sl with
 |nil=>cases h
 |cons x sl ih=>
  obtain⟨m,v⟩:=x;rw[QRn]at h;by_cases e:m=n
  ·have hb:((m,v).1==n)=true:=by simpa using e
   rw[hb]at h;cases h;rw[List.filter_cons_of_pos (by simpa using e),Xz];exact Nat.le_add_right _ _
  ·have hb:((m,v).1==n)=false:=by simpa using e
   rw[hb]at h;rw[List.filter_cons_of_neg (by simpa using e)];exact ih h

theorem R6 {nm:PG→V→V}{P:PL}(h':∀t v,(nm (Qn P t) v).cnt≤v.cnt)(g:PG)(hd:g.ops.Pairwise fun a b=>a.num<b.num)(v:V):(R5 nm P g v).cnt≤v.cnt:=by
 have h1:Xz (g.ops.flatMap (Ji nm P v.slots))≤(g.ops.map fun o=>wS v.slots o.num).sum:=by
  clear hd
  induction g.ops with
  |nil=>exact QPB _
  |cons o l ih=>
   have:Xz (Ji nm P v.slots o)≤wS v.slots o.num:=by
    unfold Ji;cases hf:v.slots.find? (fun s=>s.1==o.num)with
    |none=>exact QPJ _
    |some s=>
     have a:=L0 hf;have b:=Vi (P:=P) h' o s.2;dsimp only;split
     ·simp only[Xz];omega
     ·exact QPJ _
   rw[QQ4,HS,QP8,List.sum_cons];omega
 have h2:=QsU g.ops hd v.slots;have h3:(Jh v.raws).length=v.raws.length:=(Q0 _).length_eq;rw[Q3,Q3 v];simp only[R5,V.raws,V.list,V.pairs,V.slots,Zd,XM]at *;omega

def ZY (P:PL):Prop:=∀g∈P.progs,g.ops.Pairwise fun a b=>a.num<b.num
theorem Wg {P:PL}(h:ZY P)(t:Int):(Qn P t).ops.Pairwise fun a b=>a.num<b.num:=by
 unfold Qn;cases hg:P.progs[t.toNat]? with
 |none=>exact .nil
 |some g=>exact h g (QPN hg)

theorem YF {P:PL}(h:ZY P):∀(n:Nat) (g:PG),(g.ops.Pairwise fun a b=>a.num<b.num)→∀v:V,(XC P n g v).cnt≤v.cnt
 |0,_,_,_=>QPB _
 |n+1,g,hg,v=>R6 (fun t v=>YF h n _ (Wg h t) v) g hg v

end Go.Proofs.YtfgchfdkiomfpaaGreat.Va

namespace Go.Proofs.YtfgchfdkiomfpaaGreat.Va
open Go Am Rc Bt Br

def JoI (g:PG)(k:Nat)(st:St):Prop :=
 ∃f fr i n b,st=⟨f,[fr],[]⟩∧k=g.ops.length-i∧JT g.ops 0 (-1)=JT (g.ops.drop i) n b∧0≤n∧n≤(i:Int)∧((i=0∧b = -1)∨∃j o,i=j+1∧g.ops[j]? = some o∧b=o.union)∧f 1=.ptr 0 1 0∧f 3=.int .i64 n∧f 4=.int .i64 (i:Nat)∧fr 1=.cells g.cells

theorem z65 (g:PG)(hl:g.ops.length≤9223372036854775000):Qh Tryz.prog 65 [Qp g] (.bool (Wr g)):=by
 refine k65.fn (by simp) ?_;simp only[Qp,PG.cells,eE,seval];refine Qg (JoI g) _ ⟨_,_,0,0,-1,rfl,rfl,rfl,by decide,by decide,.inl ⟨rfl,rfl⟩,(by rfl),(by rfl),(by rfl),(by rfl)⟩ ?_;rintro _ st ⟨f,fr,i,n,b,rfl,rfl,hj,hn0,hni,hb,h1,h3,h4,m1⟩;simp only[PG.cells]at m1;simp only[QQu,h1,h4,m1,eE,seval];by_cases hlt:i<g.ops.length
 ·obtain⟨o,hi⟩:∃o,g.ops[i]? = some o:=⟨g.ops[i],QPE hlt⟩;have hg:(g.ops.map fun o=>AV.agg o.cells)[i]? = some (.agg o.cells):=by simp[hi]
  have e1:=Qw i _ hlt (by simp only[maxLen];omega);have en:IntKind.i64.wrap (n+1)=n+1:=by rw[QB];omega
  rw[Co hi]at hj;have fin:∀(f':Fr) (n':Int),(if o.union=n then n'=n+1 else n'=n)→JT g.ops 0 (-1)=JT (g.ops.drop (i+1)) n' o.union→f' 1=.ptr 0 1 0→f' 3=.int .i64 n'→f' 4=.int .i64 ((i+1:Nat):Int)→∃k,k<g.ops.length-i∧JoI g k ⟨f',[fr],[]⟩:=by
   intro f' n' a c d e f4;refine⟨g.ops.length-(i+1),by omega,f',fr,i+1,n',o.union,rfl,rfl,c,?_,?_,.inr ⟨i,o,rfl,hi,rfl⟩,d,e,f4,m1⟩<;>split at a<;>omega
  simp only[PO.cells]at hg;simp only[Qr hlt,Qm,QQ2,Qf,hg,PO.cells,h1,h3,h4,m1,eE,seval];by_cases a1:o.union=n
  ·have b1:(o.union==n)=true:=by simp[a1]
   rw[QP5 a1,←a1]at hj;simp only[b1,h3,h4,en,e1,Qb,seval];exact fin _ (n+1) (by rw[QP5 a1]) (by rw[hj,a1]) (by exact h1) (by rfl) (by rfl)
  have b1:(o.union==n)=false:=by simp[a1]
  rw[QPO a1]at hj;by_cases a2:o.union = -1
  ·have b2:(o.union != -1)=false:=by simp[a2]
   rw[QP5 (.inl a2)]at hj;simp only[b1,b2,h4,e1,Qb,seval];exact fin _ n (by rw[QPO a1]) hj (by exact h1) (by exact h3) (by rfl)
  have b2:(o.union != -1)=true:=by simp[a2]
  rcases hb with⟨rfl,rfl⟩|⟨j,p,rfl,hjp,rfl⟩
  ·have b3:(((0:Nat):Int)==0)=true:=rfl;rw[QPO (by omega)]at hj;have hun:Wr g=false:=by unfold Wr;rw[hj]
   simp only[b1,b2,h4,hun,Qb,seval]
  ·have b3:(((j+1:Nat):Int)==0)=false:=by rw[QRk];omega
   have hgj:(g.ops.map fun o=>AV.agg o.cells)[j]? = some (.agg p.cells):=by simp[hjp]
   have e2:=Dt j _ hlt (by simp only[maxLen];omega);simp only[PO.cells]at hgj;by_cases a4:o.union=p.union
   ·have b4:(p.union != o.union)=false:=by simp[a4]
    rw[QP5 (.inr a4)]at hj;simp only[b1,b2,b3,b4,e2,Qm,QQ2,Qf,hgj,PO.cells,h1,h4,m1,e1,eE,seval];exact fin _ n (by rw[QPO a1]) hj (by exact h1) (by exact h3) (by rfl)
   ·have b4:(p.union != o.union)=true:=by simp;exact fun h=>a4 h.symm
    rw[QPO (by omega)]at hj;have hun:Wr g=false:=by unfold Wr;rw[hj]
    simp only[b1,b2,b3,b4,e2,Qm,QQ2,Qf,hgj,PO.cells,h1,h4,m1,hun,eE,seval]
 ·rw[QQd (by omega)]at hj;have hun:Wr g=(g.unions==n):=by unfold Wr;rw[hj];rfl
  simp only[QO hlt,h1,h3,m1,hun,eE,seval]

section
variable {M:Nat}(hM:M≤140737488351232)(P:PL)(hP:P.ok M)(fr:Nat→Ob)(m1:fr 1=.cells (Pc P))(f:Fr)(b:Bool)(h1:f 1=.ptr 0 1 0)(h3:f 3=.bool b)(Q:Exit→St→Prop)
include hM hP m1 h1 h3

theorem QsV (j:Nat)(x:PE)(hj:P.enums[j]? = some x)(ha:f 4=.int .i64 (j:Nat))(hc:f 5=.int .i64 0)(hx:∀f,f 1=.ptr 0 1 0→f 3=.bool (b&&x.items.all Wd)→f 4=.int .i64 (j:Nat)→Q (.exit 2) (⟨f,[fr],[]⟩:St)):QH Tryz.prog (.loop SU) ⟨f,[fr],[]⟩ Q:=by
 let I:Nat→St→Prop:=fun k st=>∃f i,st=⟨f,[fr],[]⟩∧k=x.items.length-i∧i≤x.items.length∧f 1=.ptr 0 1 0∧f 3=.bool (b&&(x.items.take i).all Wd)∧f 4=.int .i64 (j:Nat)∧f 5=.int .i64 (i:Nat)
 have hjm:(P.enums.map QW)[j]? = some (.agg x.cells):=by simp[hj,QW]
 have hxo:=hP.enums x (QPN hj);have z0:(0≤(0:Int))=True:=by simp
 have z1:Int.toNat 0=0:=rfl;refine Qg I _ ⟨f,0,rfl,rfl,QPJ _,h1,by rw[h3];simp,ha,hc⟩ ?_;clear h1 h3 ha hc;simp only[Pc]at m1;simp only[PE.cells]at hjm;rintro _ st ⟨f,i,rfl,rfl,hi,h1,h3,ha,hc⟩;simp only[Qm,QQ2,Qf,hjm,QQu,h1,m1,ha,hc,eE,seval];by_cases hlt:i<x.items.length
 ·obtain⟨o,hg⟩:∃o,x.items[i]? = some o:=⟨x.items[i],QPE hlt⟩;have hgm:(x.items.map fun o=>AV.agg o.cells)[i]? = some (.agg o.cells):=by simp[hg]
  have e1:=Qw i _ hlt hxo.len1;have ho:=hxo.items o (QPN hg);have ht:=Xm (q:=Wd) hg;have fin:∀f':Fr,f' 1=.ptr 0 1 0→f' 3=.bool ((b&&(x.items.take i).all Wd)&&Wd o)→f' 4=.int .i64 (j:Nat)→f' 5=.int .i64 ((i+1:Nat):Int)→∃k,k<x.items.length-i∧I k ⟨f',[fr],[]⟩:=by
   intro f' a1 a3 a4 a5;exact⟨x.items.length-(i+1),by omega,f',i+1,rfl,rfl,by omega,a1,by rw[a3,ht,QQm],a4,a5⟩
  simp only[PI.cells]at hgm;cases hb:(b&&(x.items.take i).all Wd)
  ·rw[hb]at fin h3;simp only[Qr hlt,Qm,QQ2,Qf,hjm,hgm,PI.cells,h1,m1,h3,ha,hc,e1,eE,seval];exact fin _ (by exact h1) (by rfl) (by exact ha) (by rfl)
  ·rw[hb,QRf]at fin;rw[hb]at h3;rcases hn:o.notes with _|⟨n,_|⟨n2,ns⟩⟩
   ·have c0:(((0:Nat):Int)==0)=true:=rfl;have e:Wd o=true:=by unfold Wd;rw[hn]
    rw[e]at fin;rw[hn]at hgm;simp only[Qr hlt,Qm,QQ2,Qf,hjm,hgm,PI.cells,QQB,QQv,h1,m1,h3,ha,hc,e1,eE,seval];exact fin _ (by exact h1) (by rfl) (by exact ha) (by rfl)
   ·obtain⟨kd,b',t,l,p,s,r,hv,htl,h3',h4',h5',h6'⟩:=QEn (ho.notes n (by rw[hn];simp)) hM;have c0:(((1:Nat):Int)==0)=false:=rfl;have c1:(((1:Nat):Int)==1)=true:=rfl;have e:Wd o=(n.name==alias&&ZI 7 kd b' t l p s r):=by
     unfold Wd;rw[hn];show(n.name==alias&&nok n.val)=_;rw[hv];rfl
    have en:ZN n.cells=.agg [.str n.name,.int .i64 kd,.int .u64 ((b':Nat):Int),.str t,.list l,.list p,.list s,.list r]:=by
     rw[PN.cells,hv];rfl
    have hne:(n.name==[97,108,105,97,115])=(n.name==alias):=rfl;have hck:=z64 kd b' t l p s r (by simp only[maxLen];omega);simp only[nv]at hck;rw[e]at fin;rw[hn]at hgm;simp only[QP8,QQB,en]at hgm;simp only[Qr hlt,Qm,QQ2,Qf,hjm,hgm,PI.cells,QPP,QQv,QQi,z0,z1,QQC,Q5,hne,h1,m1,h3,ha,hc,eE,seval];by_cases hal:n.name=alias
    ·have b0:(n.name==alias)=true:=by simp[hal]
     rw[←hal]at hck;rw[b0,QRf]at fin;simp only[b0,Qb,seval];refine Qa hck rfl rfl rfl (.inl rfl) ?_;cases hfv:ZI 7 kd b' t l p s r
     ·rw[hfv]at fin;have d0:((12:Int)==0)=false:=rfl;simp only[QPT,d0,hc,e1,Qb,seval];exact fin _ (by exact h1) (by rfl) (by exact ha) (by rfl)
     ·rw[hfv]at fin;have d0:((0:Int)==0)=true:=rfl;simp only[d0,hc,e1,Qb,seval];exact fin _ (by exact h1) (by rfl) (by exact ha) (by rfl)
    ·have b0:(n.name==alias)=false:=by simp[hal]
     rw[b0,QQ5]at fin;simp only[b0,hc,e1,Qb,seval];exact fin _ (by exact h1) (by rfl) (by exact ha) (by rfl)
   ·have c0:((((ns.length+1+1:Nat)):Int)==0)=false:=by rw[QRk];omega
    have c1:((((ns.length+1+1:Nat)):Int)==1)=false:=by rw[QRk];omega
    have e:Wd o=false:=by unfold Wd;rw[hn]
    rw[e]at fin;rw[hn]at hgm;simp only[QP8]at hgm;simp only[Qr hlt,Qm,QQ2,Qf,hjm,hgm,PI.cells,QPP,QQu,c0,c1,h1,m1,h3,ha,hc,e1,eE,seval];exact fin _ (by exact h1) (by rfl) (by exact ha) (by rfl)
 ·have hf:(x.items.take i).all Wd=x.items.all Wd:=by rw[QQa (by omega)]
  rw[hf]at h3;simp only[QO hlt,Qb,seval];exact hx _ (by exact h1) (by exact h3) (by exact ha)

theorem QKN (ha:f 4=.int .i64 0)(hx:∀f,f 1=.ptr 0 1 0→f 3=.bool (b&&P.enums.all Ys)→Q (.exit 0) (⟨f,[fr],[]⟩:St)):QH Tryz.prog (.loop SX) ⟨f,[fr],[]⟩ Q:=by
 let I:Nat→St→Prop:=fun k st=>∃f i,st=⟨f,[fr],[]⟩∧k=P.enums.length-i∧i≤P.enums.length∧f 1=.ptr 0 1 0∧f 3=.bool (b&&(P.enums.take i).all Ys)∧f 4=.int .i64 (i:Nat)
 have m1':=m1;refine Qg I _ ⟨f,0,rfl,rfl,QPJ _,h1,by rw[h3];simp,ha⟩ ?_;clear h1 h3 ha;simp only[Pc]at m1;rintro _ st ⟨f,i,rfl,rfl,hi,h1,h3,ha⟩;simp only[QQu,h1,m1,ha,eE,seval];by_cases hlt:i<P.enums.length
 ·obtain⟨x,hg⟩:∃x,P.enums[i]? = some x:=⟨P.enums[i],QPE hlt⟩;have hgm:(P.enums.map QW)[i]? = some (.agg x.cells):=by simp[hg,QW]
  have e1:=Qw i _ hlt hP.len2;have ht:=Xm (q:=Ys) hg;have hq:Ys x=(x.notes.isEmpty&&x.items.all Wd):=rfl;have hie:((x.notes.length:Int)==0)=x.notes.isEmpty:=by
   cases x.notes with
   |nil=>rfl
   |cons a l=>simp;omega
  have fin:∀f':Fr,f' 1=.ptr 0 1 0→f' 3=.bool (((b&&(P.enums.take i).all Ys)&&x.notes.isEmpty)&&x.items.all Wd)→f' 4=.int .i64 ((i+1:Nat):Int)→∃k,k<P.enums.length-i∧I k ⟨f',[fr],[]⟩:=by
   intro f' a1 a3 a4;exact⟨P.enums.length-(i+1),by omega,f',i+1,rfl,rfl,by omega,a1,by rw[a3,ht,hq,QQm,QQm],a4⟩
  simp only[PE.cells]at hgm;cases hb:(b&&(P.enums.take i).all Ys)
  ·rw[hb,QQ5]at fin;rw[hb]at h3;simp only[Qr hlt,h3,Qb,seval];refine QsV hM P hP fr m1' _ false (by exact h1) (by rfl) _ i x hg (by exact ha) (by rfl) (fun f h1 h3 ha=>?_);simp only[ha,e1,Qb,seval];exact fin _ (by exact h1) (by exact h3) (by rfl)
  ·rw[hb,QRf]at fin;rw[hb]at h3;simp only[Qr hlt,Qm,QQ2,Qf,hgm,QQu,hie,h1,m1,h3,ha,eE,seval];refine QsV hM P hP fr m1' _ x.notes.isEmpty (by exact h1) (by rfl) _ i x hg (by exact ha) (by rfl) (fun f h1 h3 ha=>?_);simp only[ha,e1,Qb,seval];exact fin _ (by exact h1) (by exact h3) (by rfl)
 ·have hf:(P.enums.take i).all Ys=P.enums.all Ys:=by rw[QQa (by omega)]
  rw[hf]at h3;simp only[QO hlt,Qb,seval];exact hx _ (by exact h1) (by exact h3)

theorem QsW (j:Nat)(x:PG)(hj:P.progs[j]? = some x)(ha:f 7=.int .i64 (j:Nat))(hc:f 8=.int .i64 0)(hx:∀f,f 1=.ptr 0 1 0→f 3=.bool (b&&x.ops.all fun o=>Jv P o&&KL o)→f 7=.int .i64 (j:Nat)→Q (.exit 6) (⟨f,[fr],[]⟩:St)):QH Tryz.prog (.loop SY) ⟨f,[fr],[]⟩ Q:=by
 let I:Nat→St→Prop:=fun k st=>∃f i,st=⟨f,[fr],[]⟩∧k=x.ops.length-i∧i≤x.ops.length∧f 1=.ptr 0 1 0∧f 3=.bool (b&&(x.ops.take i).all fun o=>Jv P o&&KL o)∧f 7=.int .i64 (j:Nat)∧f 8=.int .i64 (i:Nat)
 have hjm:(P.progs.map Qp)[j]? = some (.agg x.cells):=by simp[hj,Qp]
 have hxo:=hP.progs x (QPN hj);refine Qg I _ ⟨f,0,rfl,rfl,QPJ _,h1,by rw[h3];simp,ha,hc⟩ ?_;clear h1 h3 ha hc;simp only[Pc]at m1;simp only[PG.cells]at hjm;rintro _ st ⟨f,i,rfl,rfl,hi,h1,h3,ha,hc⟩;simp only[Qm,QQ2,Qf,hjm,QQu,h1,m1,ha,hc,eE,seval];by_cases hlt:i<x.ops.length
 ·obtain⟨o,hg⟩:∃o,x.ops[i]? = some o:=⟨x.ops[i],QPE hlt⟩;have hgm:(x.ops.map fun o=>AV.agg o.cells)[i]? = some (.agg o.cells):=by simp[hg]
  have e1:=Qw i _ hlt hxo.len;have hal:o.alias.length+8≤maxLen:=by have:=(hxo.ops o (QPN hg)).alias;simp only[maxLen];omega
  have hop:Qh Tryz.prog 66 [.agg [.list (P.progs.map Qp),.list (P.enums.map QW)],Qv o] (.bool (Jv P o&&KL o)):=z66 P o hal;have ht:=Xm (q:=fun o=>Jv P o&&KL o) hg;have fin:∀f':Fr,f' 1=.ptr 0 1 0→f' 3=.bool ((b&&(x.ops.take i).all fun o=>Jv P o&&KL o)&&(Jv P o&&KL o))→f' 7=.int .i64 (j:Nat)→f' 8=.int .i64 ((i+1:Nat):Int)→∃k,k<x.ops.length-i∧I k ⟨f',[fr],[]⟩:=by
   intro f' a1 a3 a4 a5;exact⟨x.ops.length-(i+1),by omega,f',i+1,rfl,rfl,by omega,a1,by rw[a3,ht,QQm],a4,a5⟩
  simp only[Qv,PO.cells]at hgm hop;cases hb:(b&&(x.ops.take i).all fun o=>Jv P o&&KL o)
  ·rw[hb]at fin h3;simp only[Qr hlt,PO.cells,h3,hc,e1,Qb,seval];exact fin _ (by exact h1) (by rfl) (by exact ha) (by rfl)
  ·rw[hb,QRf]at fin;rw[hb]at h3;simp only[Qr hlt,Qm,QQ2,Qf,hjm,hgm,PO.cells,h1,m1,h3,ha,hc,eE,seval];refine Qa hop rfl rfl rfl (.inl rfl) ?_;simp only[hc,e1,Qb,seval];exact fin _ (by exact h1) (by rfl) (by exact ha) (by rfl)
 ·have hf:(x.ops.take i).all (fun o=>Jv P o&&KL o)=x.ops.all fun o=>Jv P o&&KL o:=by rw[QQa (by omega)]
  rw[hf]at h3;simp only[QO hlt,Qb,seval];exact hx _ (by exact h1) (by exact h3) (by exact ha)

theorem QKO (hl:∀g∈P.progs,g.ops.length≤64)(ha:f 7=.int .i64 0)(hx:∀f,f 1=.ptr 0 1 0→f 3=.bool (b&&P.progs.all (KC P))→Q (.exit 4) (⟨f,[fr],[]⟩:St)):QH Tryz.prog (.loop SZ) ⟨f,[fr],[]⟩ Q:=by
 let I:Nat→St→Prop:=fun k st=>∃f i,st=⟨f,[fr],[]⟩∧k=P.progs.length-i∧i≤P.progs.length∧f 1=.ptr 0 1 0∧f 3=.bool (b&&(P.progs.take i).all (KC P))∧f 7=.int .i64 (i:Nat)
 have m1':=m1;refine Qg I _ ⟨f,0,rfl,rfl,QPJ _,h1,by rw[h3];simp,ha⟩ ?_;clear h1 h3 ha;simp only[Pc]at m1;rintro _ st ⟨f,i,rfl,rfl,hi,h1,h3,ha⟩;simp only[QQu,h1,m1,ha,eE,seval];by_cases hlt:i<P.progs.length
 ·obtain⟨x,hg⟩:∃x,P.progs[i]? = some x:=⟨P.progs[i],QPE hlt⟩;have hgm:(P.progs.map Qp)[i]? = some (.agg x.cells):=by simp[hg,Qp]
  have e1:=Qw i _ hlt hP.len1;have ht:=Xm (q:=KC P) hg;have hq:KC P x=(Wr x&&x.ops.all fun o=>Jv P o&&KL o):=rfl;have hjo:=z65 x (QPC (hl x (QPN hg)) (by decide));have fin:∀f':Fr,f' 1=.ptr 0 1 0→f' 3=.bool (((b&&(P.progs.take i).all (KC P))&&Wr x)&&x.ops.all fun o=>Jv P o&&KL o)→f' 7=.int .i64 ((i+1:Nat):Int)→∃k,k<P.progs.length-i∧I k ⟨f',[fr],[]⟩:=by
   intro f' a1 a3 a4;exact⟨P.progs.length-(i+1),by omega,f',i+1,rfl,rfl,by omega,a1,by rw[a3,ht,hq,QQm,QQm],a4⟩
  simp only[Qp,PG.cells]at hgm hjo;cases hb:(b&&(P.progs.take i).all (KC P))
  ·rw[hb,QQ5]at fin;rw[hb]at h3;simp only[Qr hlt,h3,Qb,seval];refine QsW hM P hP fr m1' _ false (by exact h1) (by rfl) _ i x hg (by exact ha) (by rfl) (fun f h1 h3 ha=>?_);simp only[ha,e1,Qb,seval];exact fin _ (by exact h1) (by exact h3) (by rfl)
  ·rw[hb,QRf]at fin;rw[hb]at h3;simp only[Qr hlt,Qm,QQ2,Qf,hgm,h1,m1,h3,ha,eE,seval];refine Qa hjo rfl rfl rfl (.inl rfl) ?_;simp only[Qb,seval];refine QsW hM P hP fr m1' _ (Wr x) (by exact h1) (by rfl) _ i x hg (by exact ha) (by rfl) (fun f h1 h3 ha=>?_);simp only[ha,e1,Qb,seval];exact fin _ (by exact h1) (by exact h3) (by rfl)
 ·have hf:(P.progs.take i).all (KC P)=P.progs.all (KC P):=by rw[QQa (by omega)]
  rw[hf]at h3;simp only[QO hlt,Qb,seval];exact hx _ (by exact h1) (by exact h3)

end

theorem z33 {M:Nat}(hM:M≤140737488351232)(P:PL)(hP:P.ok M)(hl:∀g∈P.progs,g.ops.length≤64):Qh Tryz.prog 33 [P.av] (.bool (args P)):=by
 have e0:P.av=.agg [.list (P.progs.map Qp),.list (P.enums.map QW)]:=rfl;have e:args P=(P.enums.all Ys&&P.progs.all (KC P)):=Bool.and_comm _ _;refine k33.fn (by simp) ?_;simp only[e0,eE,seval];refine QKN hM P hP _ (by rfl) _ true (by rfl) (by rfl) _ (by rfl) (fun f h1 h3=>?_);simp only[Qb,seval];refine QKO hM P hP _ (by rfl) _ _ (by exact h1) (by exact h3) _ hl (by rfl) (fun f h1 h3=>?_);simp only[h3,e,QRf,Qb,seval]

section
variable {M:Nat}(P:PL)(hP:P.ok M)(fr:Nat→Ob)(m1:fr 1=.cells (Pc P))(f:Fr)(b:Bool)(h1:f 1=.ptr 0 1 0)(h3:f 3=.bool b)(Q:Exit→St→Prop)
include hP m1 h1 h3

theorem QKP (j:Nat)(x:PG)(hj:P.progs[j]? = some x)(ha:f 4=.int .i64 (j:Nat))(hc:f 5=.int .i64 0)(hx:∀f,f 1=.ptr 0 1 0→f 3=.bool (b&&x.ops.all J0)→f 4=.int .i64 (j:Nat)→Q (.exit 2) (⟨f,[fr],[]⟩:St)):QH Tryz.prog (.loop Tj) ⟨f,[fr],[]⟩ Q:=by
 let I:Nat→St→Prop:=fun k st=>∃f i,st=⟨f,[fr],[]⟩∧k=x.ops.length-i∧i≤x.ops.length∧f 1=.ptr 0 1 0∧f 3=.bool (b&&(x.ops.take i).all J0)∧f 4=.int .i64 (j:Nat)∧f 5=.int .i64 (i:Nat)
 have hjm:(P.progs.map Qp)[j]? = some (.agg x.cells):=by simp[hj,Qp]
 have hxo:=hP.progs x (QPN hj);refine Qg I _ ⟨f,0,rfl,rfl,QPJ _,h1,by rw[h3];simp,ha,hc⟩ ?_;clear h1 h3 ha hc;simp only[Pc]at m1;simp only[PG.cells]at hjm;rintro _ st ⟨f,i,rfl,rfl,hi,h1,h3,ha,hc⟩;simp only[Qm,QQ2,Qf,hjm,QQu,h1,m1,ha,hc,eE,seval];by_cases hlt:i<x.ops.length
 ·obtain⟨o,hg⟩:∃o,x.ops[i]? = some o:=⟨x.ops[i],QPE hlt⟩;have hgm:(x.ops.map fun o=>AV.agg o.cells)[i]? = some (.agg o.cells):=by simp[hg]
  have e1:=Qw i _ hlt hxo.len;have ht:=Xm (q:=J0) hg;have hq:J0 o=(decide (o.num≥1)&&decide (o.num≤65535)):=rfl;have fin:∀f':Fr,f' 1=.ptr 0 1 0→f' 3=.bool ((b&&(x.ops.take i).all J0)&&J0 o)→f' 4=.int .i64 (j:Nat)→f' 5=.int .i64 ((i+1:Nat):Int)→∃k,k<x.ops.length-i∧I k ⟨f',[fr],[]⟩:=by
   intro f' a1 a3 a4 a5;exact⟨x.ops.length-(i+1),by omega,f',i+1,rfl,rfl,by omega,a1,by rw[a3,ht,QQm],a4,a5⟩
  simp only[PO.cells]at hgm;cases hb:(b&&(x.ops.take i).all J0)
  ·rw[hb]at fin h3;simp only[Qr hlt,Qm,QQ2,Qf,hjm,hgm,PO.cells,h1,m1,h3,ha,hc,e1,eE,seval];exact fin _ (by exact h1) (by rfl) (by exact ha) (by rfl)
  ·rw[hb,QRf,hq]at fin;rw[hb]at h3;cases a1:decide (o.num≥1)
   ·rw[a1]at fin;simp only[Qr hlt,Qm,QQ2,Qf,hjm,hgm,PO.cells,a1,h1,m1,h3,ha,hc,e1,eE,seval];exact fin _ (by exact h1) (by rfl) (by exact ha) (by rfl)
   ·rw[a1,QRf]at fin;simp only[Qr hlt,Qm,QQ2,Qf,hjm,hgm,PO.cells,a1,h1,m1,h3,ha,hc,e1,eE,seval];exact fin _ (by exact h1) (by rfl) (by exact ha) (by rfl)
 ·have hf:(x.ops.take i).all J0=x.ops.all J0:=by rw[QQa (by omega)]
  rw[hf]at h3;simp only[QO hlt,Qb,seval];exact hx _ (by exact h1) (by exact h3) (by exact ha)

theorem QKQ (ha:f 4=.int .i64 0)(hx:∀f,f 1=.ptr 0 1 0→f 3=.bool (b&&P.progs.all fun g=>g.ops.all J0)→Q (.exit 0) (⟨f,[fr],[]⟩:St)):QH Tryz.prog (.loop Tk) ⟨f,[fr],[]⟩ Q:=by
 let I:Nat→St→Prop:=fun k st=>∃f i,st=⟨f,[fr],[]⟩∧k=P.progs.length-i∧i≤P.progs.length∧f 1=.ptr 0 1 0∧f 3=.bool (b&&(P.progs.take i).all fun g=>g.ops.all J0)∧f 4=.int .i64 (i:Nat)
 have m1':=m1;refine Qg I _ ⟨f,0,rfl,rfl,QPJ _,h1,by rw[h3];simp,ha⟩ ?_;clear h1 h3 ha;simp only[Pc]at m1;rintro _ st ⟨f,i,rfl,rfl,hi,h1,h3,ha⟩;simp only[QQu,h1,m1,ha,eE,seval];by_cases hlt:i<P.progs.length
 ·obtain⟨x,hg⟩:∃x,P.progs[i]? = some x:=⟨P.progs[i],QPE hlt⟩;have e1:=Qw i _ hlt hP.len1;have ht:=Xm (q:=fun g:PG=>g.ops.all J0) hg;simp only[Qr hlt,Qb,seval];refine QKP P hP fr m1' _ (b&&(P.progs.take i).all fun g=>g.ops.all J0) (by exact h1) (by exact h3) _ i x hg (by exact ha) (by rfl) (fun f h1 h3 ha=>?_);simp only[ha,e1,Qb,seval];exact⟨P.progs.length-(i+1),by omega,_,i+1,rfl,rfl,by omega,(by exact h1),by rw[ht,←QQm]<;>first|exact h3|simp only[h3,eE,seval],(by rfl)⟩
 ·have hf:(P.progs.take i).all (fun g=>g.ops.all J0)=P.progs.all fun g=>g.ops.all J0:=by rw[QQa (by omega)]
  rw[hf]at h3;simp only[QO hlt,Qb,seval];exact hx _ (by exact h1) (by exact h3)

end

def Ht (x:PE)(i:Nat):Bool:=match x.items[i]? with
 |some o=>(i != 0||o.num==0)&&Ds x o
 |none=>true

theorem L1 (x:PE):QP (Ht x) x.items.length=(HN x&&x.items.all (Ds x)):=by
 rw[QRq,QPY,ZU,QPM]
 constructor
 ·intro h;refine⟨?_,fun o ho=>?_⟩
  ·unfold HN;cases hi:x.items with
   |nil=>rfl
   |cons a l=>
    have:=h 0 (by rw[hi];simp);unfold Ht at this;rw[hi]at this;simp only[QQC,QPY]at this
    simpa using this.1
  ·obtain⟨i,hi⟩:=QPL.1 ho;have:=h i (QPD.1 hi).1;unfold Ht at this;rw[hi]at this;simp only[QPY]at this;exact this.2
 ·rintro⟨h1,h2⟩ i _;unfold Ht;cases hg:x.items[i]? with
  |none=>rfl
  |some o=>
   simp only[QPY];refine⟨?_,h2 o (QPN hg)⟩;cases i with
   |zero=>
    unfold HN at h1;cases hx:x.items with
    |nil=>rw[hx]at hg;cases hg
    |cons a l=>
     rw[hx]at h1 hg;cases hg
     simpa using h1
   |succ k=>rfl

section
variable (x:PE)(hl1:x.items.length≤maxLen)(hl:x.free.length≤maxLen)(P:PL)(f:Fr)(b:Bool)(j:Nat)(fr:Nat→Ob)(h1:f 1=.ptr 0 1 0)(h3:f 3=.bool b)(h7:f 7=.int .i64 (j:Nat))(h8:f 8=.ptr 0 8 0)(m1:fr 1=.cells (Pc P))(m8:fr 8=.cells x.cells)(Q:Exit→St→Prop)
include hl1 hl h1 h3 h7 h8 m8

theorem Pr (hc:f 9=.int .i64 0)(hx:∀f,f 1=.ptr 0 1 0→f 3=.bool (b&&(HN x&&x.items.all (Ds x)))→f 7=.int .i64 (j:Nat)→f 8=.ptr 0 8 0→Q (.exit 6) (⟨f,[fr],[]⟩:St)):QH Tryz.prog (.loop Tl) ⟨f,[fr],[]⟩ Q:=by
 let I:Nat→St→Prop:=fun k st=>∃f i,st=⟨f,[fr],[]⟩∧k=x.items.length-i∧i≤x.items.length∧f 1=.ptr 0 1 0∧f 3=.bool (b&&QP (Ht x) i)∧f 7=.int .i64 (j:Nat)∧f 8=.ptr 0 8 0∧f 9=.int .i64 (i:Nat)
 refine Qg I _ ⟨f,0,rfl,rfl,QPJ _,h1,by rw[h3];simp[QP],h7,h8,hc⟩ ?_;clear h1 h3 h7 h8 hc;simp only[PE.cells]at m8;rintro _ st ⟨f,i,rfl,rfl,hi,h1,h3,h7,h8,hc⟩;simp only[QQu,m8,h8,hc,eE,seval];by_cases hlt:i<x.items.length
 ·obtain⟨o,hg⟩:∃o,x.items[i]? = some o:=⟨x.items[i],QPE hlt⟩;have hgm:(x.items.map fun o=>AV.agg o.cells)[i]? = some (.agg o.cells):=by simp[hg]
  have e1:=Qw i _ hlt hl1;have ht:=JE b (Ht x) i;have hr:Qh Tryz.prog 63 [.list (x.free.map fun n=>AV.agg n.cells),.int .i64 o.num] (.bool (kept x.free o.num)):=z63 x.free hl o.num;have hq:Ht x i=((i != 0||o.num==0)&&(decide (o.num≤2147483647) && !kept x.free o.num)):=by unfold Ht;rw[hg];rfl
  rw[hq]at ht;have fin:∀(f':Fr) (v:Bool),((b&&QP (Ht x) i)&&((i != 0||o.num==0)&&(decide (o.num≤2147483647) && !kept x.free o.num)))=v→f' 1=.ptr 0 1 0→f' 3=.bool v→f' 7=.int .i64 (j:Nat)→f' 8=.ptr 0 8 0→f' 9=.int .i64 ((i+1:Nat):Int)→∃k,k<x.items.length-i∧I k ⟨f',[fr],[]⟩:=by
   intro f' v hv a1 a3 a4 a5 a6;exact⟨x.items.length-(i+1),by omega,f',i+1,rfl,rfl,by omega,a1,by rw[a3,ht,hv],a4,a5,a6⟩
  simp only[PI.cells]at hgm;cases hb:(b&&QP (Ht x) i)
  ·rw[hb]at fin h3;simp only[QQ5]at fin;simp only[Qr hlt,Qm,QQ2,Qf,hgm,PI.cells,m8,h3,h8,hc,e1,eE,seval];exact fin _ _ rfl (by exact h1) (by rfl) (by exact h7) (by exact h8) (by rfl)
  ·rw[hb]at fin h3;simp only[QRf]at fin;cases a1:decide (o.num≤2147483647)
   ·simp only[a1,QQ5,QRt]at fin;simp only[Qr hlt,Qm,QQ2,Qf,hgm,PI.cells,a1,m8,h3,h8,hc,e1,eE,seval];exact fin _ _ rfl (by exact h1) (by rfl) (by exact h7) (by exact h8) (by rfl)
   simp only[a1,QRf]at fin;have gt:∀(q:Bool),(i != 0||o.num==0)=q→(decide ((i:Int) > 0)=true∧q=true)∨(decide ((i:Int) > 0)=false∧(o.num==0)=q):=by
    intro q hq;cases i with
    |zero=>exact .inr ⟨rfl,hq⟩
    |succ k=>exact .inl ⟨QRs (by omega),hq.symm⟩
   cases a2:(i != 0||o.num==0)
   ·rw[a2]at fin;simp only[QQ5]at fin;rcases gt _ a2 with⟨g1,g2⟩|⟨g1,g2⟩
    ·cases g2
    ·simp only[Qr hlt,Qm,QQ2,Qf,hgm,PI.cells,a1,g1,g2,m8,h3,h8,hc,e1,eE,seval];exact fin _ _ rfl (by exact h1) (by rfl) (by exact h7) (by exact h8) (by rfl)
   ·rw[a2]at fin;simp only[QRf]at fin;rcases gt _ a2 with⟨g1,g2⟩|⟨g1,g2⟩
    all_goals
     simp only[Qr hlt,Qm,QQ2,Qf,hgm,PI.cells,a1,g1,g2,m8,h3,h8,hc,eE,seval];refine Qa hr rfl rfl rfl (.inl rfl) ?_;simp only[hc,e1,Qb,seval];exact fin _ _ rfl (by exact h1) (by rfl) (by exact h7) (by exact h8) (by rfl)
 ·rw[show i=x.items.length by omega,L1]at h3;simp only[QO hlt,Qb,seval];exact hx _ (by exact h1) (by exact h3) (by exact h7) (by exact h8)

omit hl1 in
include m1 in
theorem Ps (hc:f 11=.int .i64 0)(hrow:∀s∈[12],(fr s).isRow=false)(hx:∀f fr,f 1=.ptr 0 1 0→f 3=.bool (b&&(x.free.all N9&&JV x.free GB))→f 7=.int .i64 (j:Nat)→fr 1=.cells (Pc P)→(∀s∈[12,8],(fr s).isRow=false)→Q (.exit 8) (⟨f,[fr],[]⟩:St)):QH Tryz.prog (.loop Tm) ⟨f,[fr],[]⟩ Q:=by
 let I:Nat→St→Prop:=fun k st=>∃f fr i,st=⟨f,[fr],[]⟩∧k=x.free.length-i∧i≤x.free.length∧f 1=.ptr 0 1 0∧f 3=.bool (b&&QP (GC x.free) i)∧f 7=.int .i64 (j:Nat)∧f 8=.ptr 0 8 0∧f 11=.int .i64 (i:Nat)∧fr 1=.cells (Pc P)∧fr 8=.cells x.cells∧∀s∈[12],(fr s).isRow=false
 refine Qg I _ ⟨f,fr,0,rfl,rfl,QPJ _,h1,by rw[h3];simp[QP],h7,h8,hc,m1,m8,hrow⟩ ?_;clear h1 h3 h7 h8 hc m1 m8 hrow;rintro _ st ⟨f0,fr0,i,rfl,rfl,hi,h10,h30,h70,h80,hc0,m10,m80,Uz⟩;refine QX (a:=_) [12] Uz ?_;intro f fr hf hm hn;have h1:f 1=.ptr 0 1 0:=by rw[hf,h10]<;>rfl
 have h3:f 3=.bool (b&&QP (GC x.free) i):=by rw[hf,h30]<;>rfl
 have h7:f 7=.int .i64 (j:Nat):=by rw[hf,h70]<;>rfl
 have h8:f 8=.ptr 0 8 0:=by rw[hf,h80]<;>rfl
 have hc:f 11=.int .i64 (i:Nat):=by rw[hf,hc0]<;>rfl
 have m1:fr 1=.cells (Pc P):=by rw[hm 1 (by decide),m10]<;>rfl
 have m8:fr 8=.cells x.cells:=by rw[hm 8 (by decide),m80]<;>rfl
 have n12:=hn 12 (by decide);clear hf hm hn h10 h30 h70 h80 hc0 m10 m80 Uz;have m8':=m8;simp only[PE.cells]at m8;simp only[QQu,m8,h8,hc,eE,seval];by_cases hlt:i<x.free.length
 ·obtain⟨y,hg⟩:∃y,x.free[i]? = some y:=⟨x.free[i],QPE hlt⟩;have hgm:(x.free.map fun o=>AV.agg o.cells)[i]? = some (.agg y.cells):=by simp[hg]
  have e1:=Qw i _ hlt hl;have ht:=JE b (GC x.free) i;have hq:GC x.free i=((decide (y.lo≥0)&&decide (y.hi≤2147483647)&&decide (y.lo≤y.hi))&&Zb x.free GB i):=by unfold GC;rw[UD hg];rfl
  rw[hq]at ht;have fin:∀(f':Fr) (fr':Nat→Ob) (v:Bool),((b&&QP (GC x.free) i)&&((decide (y.lo≥0)&&decide (y.hi≤2147483647)&&decide (y.lo≤y.hi))&&Zb x.free GB i))=v→f' 1=.ptr 0 1 0→f' 3=.bool v→f' 7=.int .i64 (j:Nat)→f' 8=.ptr 0 8 0→f' 11=.int .i64 ((i+1:Nat):Int)→fr' 1=.cells (Pc P)→fr' 8=.cells x.cells→(∀s∈[12],(fr' s).isRow=false)→∃k,k<x.free.length-i∧I k ⟨f',[fr'],[]⟩:=by
   intro f' fr' v hv a1 a3 a4 a5 a6 a7 a8 a9;exact⟨x.free.length-(i+1),by omega,f',fr',i+1,rfl,rfl,by omega,a1,by rw[a3,ht,hv],a4,a5,a6,a7,a8,a9⟩
  simp only[PS.cells]at hgm;cases hb:(b&&QP (GC x.free) i)
  ·rw[hb]at fin h3;simp only[QQ5]at fin;simp only[Qr hlt,Qm,QQ2,Qf,hgm,PS.cells,n12,m8,h3,h8,hc,e1,eE,seval];exact fin _ _ _ rfl (by exact h1) (by rfl) (by exact h7) (by exact h8) (by rfl) (by exact m1) (by exact m8') (by simp<;>rfl)
  rw[hb]at fin h3;simp only[QRf]at fin;cases a1:decide (y.lo≥0)
  ·simp only[a1,QQ5]at fin;simp only[Qr hlt,Qm,QQ2,Qf,hgm,PS.cells,n12,a1,m8,h3,h8,hc,e1,eE,seval];exact fin _ _ _ rfl (by exact h1) (by rfl) (by exact h7) (by exact h8) (by rfl) (by exact m1) (by exact m8') (by simp<;>rfl)
  cases a2:decide (y.hi≤2147483647)
  ·simp only[a1,a2,QQ5,QRt]at fin;simp only[Qr hlt,Qm,QQ2,Qf,hgm,PS.cells,n12,a1,a2,m8,h3,h8,hc,e1,eE,seval];exact fin _ _ _ rfl (by exact h1) (by rfl) (by exact h7) (by exact h8) (by rfl) (by exact m1) (by exact m8') (by simp<;>rfl)
  cases a3:decide (y.lo≤y.hi)
  ·simp only[a1,a2,a3,QQ5,QRt]at fin;simp only[Qr hlt,Qm,QQ2,Qf,hgm,PS.cells,n12,a1,a2,a3,m8,h3,h8,hc,e1,eE,seval];exact fin _ _ _ rfl (by exact h1) (by rfl) (by exact h7) (by exact h8) (by rfl) (by exact m1) (by exact m8') (by simp<;>rfl)
  simp only[a1,a2,a3,QRf,QQN]at fin;cases i with
  |zero=>
   have d0:(((0:Nat):Int)==0)=true:=rfl;rw[HL]at fin;simp only[Qr hlt,Qm,QQ2,Qf,hgm,PS.cells,n12,a1,a2,a3,d0,m8,h3,h8,hc,e1,eE,Nat.reduceBEq,↓reduceIte,Nat.reduceAdd,Nat.reduceLeDiff];exact fin _ _ _ rfl (by exact h1) (by rfl) (by exact h7) (by exact h8) (by rfl) (by exact m1) (by exact m8') (by simp<;>rfl)
  |succ k=>
   have d0:(((k+1:Nat):Int)==0)=false:=by rw[QRk];omega
   obtain⟨z,hgz⟩:∃z,x.free[k]? = some z:=⟨x.free[k]'(by omega),QPE (by omega)⟩;have hgzm:(x.free.map fun o=>AV.agg o.cells)[k]? = some (.agg z.cells):=by simp[hgz]
   have w:=Dt k _ hlt hl;have hs:GB z y=decide (y.lo > z.hi):=rfl;rw[YB hgz hg,hs]at fin;simp only[PS.cells]at hgzm;simp only[Qr hlt,Qm,QQ2,Qf,hgm,hgzm,w,PS.cells,n12,a1,a2,a3,d0,m8,h3,h8,hc,e1,eE,seval];exact fin _ _ _ rfl (by exact h1) (by rfl) (by exact h7) (by exact h8) (by rfl) (by exact m1) (by exact m8') (by simp<;>rfl)
 ·rw[show i=x.free.length by omega,LV]at h3;simp only[QO hlt,Qb,seval];refine hx _ _ (by exact h1) (by exact h3) (by exact h7) (by exact m1) (fun s hs=>?_);simp at hs;rcases hs with rfl|rfl
  ·rw[n12];rfl
  ·rw[m8];rfl

end

section
variable {M:Nat}(P:PL)(hP:P.ok M)(fr:Nat→Ob)(m1:fr 1=.cells (Pc P))(f:Fr)(b:Bool)(h1:f 1=.ptr 0 1 0)(h3:f 3=.bool b)(Q:Exit→St→Prop)
include hP m1 h1 h3

theorem QKR (ha:f 7=.int .i64 0)(hrow:∀s∈[12,8],(fr s).isRow=false)(hx:∀f fr,f 1=.ptr 0 1 0→f 3=.bool (b&&P.enums.all WT)→Q (.exit 4) (⟨f,[fr],[]⟩:St)):QH Tryz.prog (.loop Tn) ⟨f,[fr],[]⟩ Q:=by
 let I:Nat→St→Prop:=fun k st=>∃f fr i,st=⟨f,[fr],[]⟩∧k=P.enums.length-i∧i≤P.enums.length∧f 1=.ptr 0 1 0∧f 3=.bool (b&&(P.enums.take i).all WT)∧f 7=.int .i64 (i:Nat)∧fr 1=.cells (Pc P)∧∀s∈[12,8],(fr s).isRow=false
 refine Qg I _ ⟨f,fr,0,rfl,rfl,QPJ _,h1,by rw[h3];simp,ha,m1,hrow⟩ ?_;clear h1 h3 ha m1 hrow;rintro _ st ⟨f0,fr0,i,rfl,rfl,hi,h10,h30,ha0,m10,hr⟩;refine QX (a:=_) [12,8] hr ?_;intro f fr hf hm hn;have h1:f 1=.ptr 0 1 0:=by rw[hf,h10]<;>rfl
 have h3:f 3=.bool (b&&(P.enums.take i).all WT):=by rw[hf,h30]<;>rfl
 have ha:f 7=.int .i64 (i:Nat):=by rw[hf,ha0]<;>rfl
 have m1:fr 1=.cells (Pc P):=by rw[hm 1 (by decide),m10]<;>rfl
 have n12:=hn 12 (by decide);have n8:=hn 8 (by decide);clear hf hm hn h10 h30 ha0 m10 hr;have m1':=m1;simp only[Pc]at m1;simp only[QQu,h1,m1,ha,eE,seval];by_cases hlt:i<P.enums.length
 ·obtain⟨x,hg⟩:∃x,P.enums[i]? = some x:=⟨P.enums[i],QPE hlt⟩;have hgm:(P.enums.map QW)[i]? = some (.agg x.cells):=by simp[hg,QW]
  have e1:=Qw i _ hlt hP.len2;have ht:=Xm (q:=WT) hg;have hq:(b&&(P.enums.take (i+1)).all WT)=((b&&(P.enums.take i).all WT&&(HN x&&x.items.all (Ds x)))&&(x.free.all N9&&JV x.free GB)):=by
   rw[ht];unfold WT;cases b<;>cases(P.enums.take i).all _<;>cases x.free.all N9<;>cases JV x.free GB<;>cases HN x<;>cases x.items.all (Ds x)<;>rfl
  have hxo:=hP.enums x (QPN hg);simp only[PE.cells]at hgm;simp only[Qr hlt,Qm,QQ2,Qf,hgm,n8,h1,m1,ha,eE,seval];refine Pr x hxo.len1 hxo.len2 _ (b&&(P.enums.take i).all WT) i _ (by exact h1) (by exact h3) (by exact ha) (by rfl) (by rfl) _ (by rfl) (fun f h1 h3 ha h8=>?_);simp only[Qb,seval];refine Ps x hxo.len2 P _ _ i _ (by exact h1) (by exact h3) (by exact ha) (by exact h8) (by exact m1') (by rfl) _ (by rfl) (fun s hs=>by simp at hs;subst hs;rw[Xd _ _ (by decide)];first|rw[n12];rfl|(rw[Xd _ _ (by decide),n12];rfl)) (fun f fr h1 h3 ha m1 hr=>?_);simp only[ha,e1,Qb,seval];exact⟨P.enums.length-(i+1),by omega,_,fr,i+1,rfl,rfl,by omega,(by exact h1),by rw[hq]<;>first|exact h3|simp only[h3,eE,seval],(by rfl),m1,hr⟩
 ·have hf:(P.enums.take i).all WT=P.enums.all WT:=by rw[QQa (by omega)]
  rw[hf]at h3;simp only[QO hlt,Qb,seval];exact hx _ _ (by exact h1) (by exact h3)

end

theorem z32 {M:Nat}(P:PL)(hP:P.ok M):Qh Tryz.prog 32 [P.av] (.bool (TG P)):=by
 have e0:P.av=.agg [.list (P.progs.map Qp),.list (P.enums.map QW)]:=rfl;refine k32.fn (by simp) ?_;simp only[e0,eE,seval];refine QKQ P hP _ (by rfl) _ true (by rfl) (by rfl) _ (by rfl) (fun f h1 h3=>?_);simp only[Qb,seval];refine QKR P hP _ (by rfl) _ _ (by exact h1) (by exact h3) _ (by rfl) (fun s hs=>by simp at hs;rcases hs with rfl|rfl<;>rfl) (fun f fr h1 h3=>?_);simp only[h3,TG,QRf,Qb,seval]

section
variable (k kd:Int)(b:Nat)(t:List UInt8)(l p s r:List AV)(ht:t.length+8≤maxLen)

include ht in
theorem QKS:Qh Tryz.prog 169 [.int .i64 k,vo kd b t l p s r] (.bool (ZI k kd b t l p s r)):=by
 have hl:=RZ kd b t l p s r;simp only[vo]at hl;have n1:(kd != k)=!(kd==k):=rfl;have n2:(t != [])=!(t==[]):=rfl;refine QkR.fn (by simp) ?_;simp only[vo,ZI,eE,seval];refine Qa (Dq k) rfl rfl rfl (.inl rfl) ?_;cases hk:isk k
 ·simp only[QQH,QQ5,Qb,seval]
 simp only[n1,QRg,QRf,eE,seval];cases a1:(kd==k)
 ·simp only[QQH,QQ5,Qb,seval]
 have e:kd=k:=by simpa using a1
 subst e;simp only[QRg,QRf,eE,seval];refine Qa hl rfl rfl rfl (.inl rfl) ?_;cases Wt l p s r
 ·simp only[QQH,QQ5,Qb,seval]
 simp only[QRg,QRf,Qb,seval];refine Qa (Wo kd) rfl rfl rfl (.inl rfl) ?_;cases tx:XZ kd
 ·simp only[QPT,Q5,eE,seval];cases a2:(t==[])
  ·simp only[QQH,QQ5,Qb,seval]
  have e:t=[]:=by simpa using a2
  subst e;have k7:(kd != 7)=true:=by
   simp only[XZ,QQt,QRk]at tx;simp[tx.1]
  have d0:decide (((0:Nat):Int)≤4096)=true:=rfl;simp only[k7,QQv,QRg,QRf,QQN,QRi,Qb,seval];unfold Jf;by_cases h1:kd=1
  ·subst h1;have b1:((1:Int)==1)=true:=rfl;simp only[b1,eE,seval]
  ·have b1:(kd==1)=false:=by simp[h1]
   by_cases h2:kd=2
   ·subst h2;have b2:((2:Int)==2)=true:=rfl;simp only[b1,b2,h1,eE,seval];cases hd:decide (IntKind.i64.wrap (b:Int)≥-2147483648)<;>simp only[QRf,QQ5,Qb,seval]
   ·have b2:(kd==2)=false:=by simp[h2]
    by_cases h4:kd=4
    ·subst h4;have b4:((4:Int)==4)=true:=rfl;simp only[b1,b2,b4,h1,h2,eE,seval]
    ·have b4:(kd==4)=false:=by simp[h4]
     by_cases h9:kd=9
     ·subst h9;have b9:((9:Int)==9)=true:=rfl;simp only[b1,b2,b9,b4,h1,h2,h4,eE,seval]
     ·have b9:(kd==9)=false:=by simp[h9]
      simp only[b1,b2,b9,b4,h1,h2,h4,h9,Qb,seval]
 ·simp only[eE,seval];cases a2:((b:Int)==0)
  ·simp only[QQ5,Qb,seval]
  have hfn:Jf kd b=true:=by
   simp only[XZ,QQz,QP1]at tx;rcases tx with rfl|rfl<;>rfl
  cases a3:decide ((t.length:Int)≤4096)
  ·simp only[a3,hfn,QQ5,QRt,eE,seval]
  simp only[XZ,QQz,QP1]at tx;rcases tx with rfl|rfl
  ·have c8:((7:Int)==8)=false:=rfl;have c7:((7:Int) != 7)=false:=rfl;simp only[a3,c8,c7,hfn,QRf,QRj,eE,seval];refine Qa (Ck t ht) rfl rfl rfl (.inl rfl) ?_;simp only[Qb,seval]
  ·have c8:((8:Int)==8)=true:=rfl;have c7:((8:Int) != 7)=true:=rfl;simp only[a3,c8,c7,hfn,QRi,eE,seval]

end

section
variable {M:Nat}(P:PL)(hP:P.ok M)(k tg kd:Int)(b:Nat)(t:List UInt8)(l p s r:List AV)(ht:t.length+8≤maxLen)(hs:s.length≤140737488351232)(hr:r.length≤140737488351232)

end

def kv (k:Int)(b:Nat)(t:List UInt8):AV:=.agg [.int .i64 k,.int .u64 (b:Nat),.str t,.list [],.list [],.list [],.list []]
def Xr (k:Int):Prop:=(1≤k∧k≤5)∨k=7

theorem Xr.isk {k:Int}(h:Xr k):isk k=true:=by
 rcases h with h|rfl
 ·simp[Va.isk];omega
 ·rfl

theorem JU:∀s:List UInt8,Op.bytesLess s s=false
 | []=>rfl
 |a :: l=>by simp[Op.bytesLess,JU l]

theorem QsX (a:Int):Qh Tryz.prog 107 [.int .i64 a] (.bool false):=by
 refine QbB.fn (by simp) ?_;simp only[bne_self_eq_false,Qb,seval]

theorem QsY (a:Int):Qh Tryz.prog 224 [.int .u64 a] (.bool false):=by
 refine QHI.fn (by simp) ?_;simp only[bne_self_eq_false,Qb,seval]

theorem QsZ (a:List UInt8):Qh Tryz.prog 223 [.str a] (.bool false):=by
 have e:Q5 .neq a a=some (.bool false):=by simp[Q5]
 refine QHF.fn (by simp) ?_;simp only[e,Qb,seval]

def cN (a b:Int):Int:=if a<b then -1 else if b<a then 1 else 0
theorem Ha {a b:Int}:cN a b=0↔a=b:=by
 unfold cN;split
 ·omega
 ·split<;>omega

theorem TK (a b:Int):Qh Tryz.prog 60 [.int .i64 a,.int .i64 b] (.int .i64 (cN a b)):=by
 refine k60.fn (by simp) ?_;simp only[Qb,seval];refine Qa (QsX a) rfl rfl rfl (.inl rfl) ?_;simp only[Qb,seval];refine Qa (QsX b) rfl rfl rfl (.inl rfl) ?_;simp only[Qb,seval];by_cases h1:a<b
 ·have d1:decide (a<b)=true:=by simpa using h1
  simp only[d1,cN,QP5 h1,Qb,seval]
 ·have d1:decide (a<b)=false:=by simpa using h1
  by_cases h2:b<a
  ·have d2:decide (a > b)=true:=by simpa using h2
   simp only[d1,d2,cN,QPO h1,QP5 h2,Qb,seval]
  ·have d2:decide (a > b)=false:=by simpa using h2
   simp only[d1,d2,cN,QPO h1,QPO h2,Qb,seval]

theorem QKT (a b:Int):Qh Tryz.prog 214 [.int .u64 a,.int .u64 b] (.int .i64 (cN a b)):=by
 refine QHC.fn (by simp) ?_;simp only[Qb,seval];refine Qa (QsY a) rfl rfl rfl (.inl rfl) ?_;simp only[Qb,seval];refine Qa (QsY b) rfl rfl rfl (.inl rfl) ?_;simp only[Qb,seval];by_cases h1:a<b
 ·have d1:decide (a<b)=true:=by simpa using h1
  simp only[d1,cN,QP5 h1,Qb,seval]
 ·have d1:decide (a<b)=false:=by simpa using h1
  by_cases h2:b<a
  ·have d2:decide (a > b)=true:=by simpa using h2
   simp only[d1,d2,cN,QPO h1,QP5 h2,Qb,seval]
  ·have d2:decide (a > b)=false:=by simpa using h2
   simp only[d1,d2,cN,QPO h1,QPO h2,Qb,seval]

def cS (a b:List UInt8):Int:=if Op.bytesLess a b=true then -1 else if a==b then 0 else 1
theorem Vj {a b:List UInt8}:cS a b=0↔a=b:=by
 unfold cS
 constructor
 ·intro h;split at h
  ·omega
  ·split at h
   ·rename_i h2;simpa using h2
   ·omega
 ·rintro rfl;simp[JU]

theorem QKU (a b:List UInt8):Qh Tryz.prog 213 [.str a,.str b] (.int .i64 (cS a b)):=by
 refine QHz.fn (by simp) ?_;simp only[Qb,seval];refine Qa (QsZ a) rfl rfl rfl (.inl rfl) ?_;simp only[Qb,seval];refine Qa (QsZ b) rfl rfl rfl (.inl rfl) ?_;simp only[Q5,cS,Qb,seval];cases h1:Op.bytesLess a b
 ·cases h2:(a==b)<;>simp only[Q5,h1,h2,QRj,QRg,QQH,QPT,Qb,seval]
 ·simp only[Qb,seval]

def Hu (k:Int)(a:Nat)(s:List UInt8)(b:Nat)(t:List UInt8):Int :=
 if XZ k=true then cS s t else if (k==2||k==3)=true then cN (IntKind.i64.wrap (a:Int)) (IntKind.i64.wrap (b:Int))else cN (a:Int) (b:Int)

theorem QKV (k:Int)(hk:Xr k)(a b:Nat)(s t:List UInt8):Qh Tryz.prog 193 [kv k a s,kv k b t] (.int .i64 (Hu k a s b t)):=by
 have hi:=hk.isk;have k6:(k==6)=false:=by
  rcases hk with h|rfl
  ·simp;omega
  ·rfl
 refine QHt.fn (by simp) ?_;simp only[kv,Hu,bne_self_eq_false,eE,seval];refine Qa (Bf k) rfl rfl rfl (.inl rfl) ?_;simp only[hi,eE,seval];refine Qa (QsC k) rfl rfl rfl (.inl rfl) ?_;cases h1:XZ k
 ·simp only[QPT,eE,seval];cases h2:(k==2)
  ·cases h3:(k==3)
   ·simp only[h3,k6,QRu,QPT,eE,seval];refine Qa (QKT _ _) rfl rfl rfl (.inl rfl) ?_;simp only[Qb,seval]
   ·simp only[h3,QRj,eE,seval];refine Qa (TK _ _) rfl rfl rfl (.inl rfl) ?_;simp only[Qb,seval]
  ·simp only[QRi,eE,seval];refine Qa (TK _ _) rfl rfl rfl (.inl rfl) ?_;simp only[Qb,seval]
 ·simp only[eE,seval];refine Qa (QKU s t) rfl rfl rfl (.inl rfl) ?_;simp only[Qb,seval]

theorem Qs0 (k:Int)(hk:Xr k)(b:Nat)(t:List UInt8):Qh Tryz.prog 192 [kv k b t] (.iface 188 (kv k b t)):=by
 have hi:=hk.isk;refine QIX.fn (by simp) ?_;simp only[kv,eE,seval];refine Qa (Bf k) rfl rfl rfl (.inl rfl) ?_;simp only[hi,eE,seval]

theorem Qs1 (k:Int)(hk:Xr k)(a b:Nat)(s t:List UInt8):Qh Tryz.prog 160 [kv k a s,kv k b t] (.int .i64 (Hu k a s b t)):=by
 have h1:=Qs0 k hk a s;have h2:=Qs0 k hk b t;have h3:=QKV k hk a b s t;simp only[kv]at h1 h2 h3;refine QIU.fn (by simp) ?_;simp only[kv,bne_self_eq_false,eE,seval];refine Qa h2 rfl rfl rfl (.inl rfl) ?_;simp only[eE,seval];refine Qa h1 rfl rfl rfl (.inl rfl) ?_;simp only[eE,seval];refine Qa h3 rfl rfl rfl (.inl rfl) ?_;simp only[Qb,seval]

theorem Qs2 (k:Int)(hk:Xr k)(a b:Nat)(s t:List UInt8):Qh Tryz.prog 161 [kv k a s,kv k b t] (.bool (Hu k a s b t==0)):=by
 have h1:=Qs1 k hk a b s t;simp only[kv]at h1;refine QHh.fn (by simp) ?_;simp only[kv,eE,seval];refine Qa h1 rfl rfl rfl (.inl rfl) ?_;simp only[Qb,seval]

def KM (k:Int)(b:Nat):Int:=if (k==2||k==3)=true then IntKind.u64.wrap ((b:Int)+9223372036854775808)else(b:Int)

theorem Qs3 (k:Int):Qh Tryz.prog 171 [.int .i64 k] (.bool (k==2||k==3)):=by
 refine QIR.fn (by simp) ?_;simp only[Qb,seval];cases h:(k==2)<;>simp only[QRi,QRj,Qb,seval]

theorem Qs4 (k:Int)(k6:(k != 6)=true)(b:Nat)(t:List UInt8):Qh Tryz.prog 120 [kv k b t] (.int .u64 (KM k b)):=by
 refine Qoi.fn (by simp) ?_;simp only[kv,eE,seval];refine Qa (Qs3 k) rfl rfl rfl (.inl rfl) ?_;unfold KM;cases h1:(k==2||k==3)
 ·simp only[k6,QPT,eE,seval]
 ·simp only[eE,seval]

def UN (k:Int)(a:Nat)(s:List UInt8)(b:Nat)(t:List UInt8):Int:=if XZ k=true then cS s t else cN (KM k a) (KM k b)

theorem v72 (k:Int)(hk:Xr k)(a b:Nat)(s t:List UInt8):Qh Tryz.prog 72 [kv k a s,kv k b t] (.int .i64 (UN k a s b t)):=by
 have hi:=hk.isk;have k6:(k != 6)=true:=by
  rcases hk with h|rfl
  ·simp;omega
  ·rfl
 have d1:decide (k<k)=false:=by simp
 have d2:decide (k > k)=false:=by simp
 have hr:=Qs4 k k6 a s;have hq:=Qs4 k k6 b t;simp only[kv]at hr hq;refine k72.fn (by simp) ?_;simp only[kv,UN,d1,eE,seval];refine Qa (Dq k) rfl rfl rfl (.inl rfl) ?_;simp only[hi,eE,seval];refine Qa (Wo k) rfl rfl rfl (.inl rfl) ?_;cases h2:XZ k
 ·simp only[QPT,eE,seval];refine Qa (Wo k) rfl rfl rfl (.inl rfl) ?_;simp only[h2,eE,seval];refine Qa (Wo k) rfl rfl rfl (.inl rfl) ?_;simp only[h2,eE,seval];refine Qa hr rfl rfl rfl (.inl rfl) ?_;simp only[eE,seval];refine Qa hq rfl rfl rfl (.inl rfl) ?_;simp only[Qb,seval];by_cases c1:KM k a<KM k b
  ·have e1:decide (KM k a<KM k b)=true:=QRs c1;simp only[e1,cN,QP5 c1,Qb,seval]
  ·have e1:decide (KM k a<KM k b)=false:=QRo c1;simp only[e1,cN,QPO c1,eE,seval];refine Qa hr rfl rfl rfl (.inl rfl) ?_;simp only[eE,seval];refine Qa hq rfl rfl rfl (.inl rfl) ?_;by_cases c2:KM k b<KM k a
   ·have e2:decide (KM k a > KM k b)=true:=QRs c2;simp only[e2,QP5 c2,Qb,seval]
   ·have e2:decide (KM k a > KM k b)=false:=QRo c2;simp only[e2,QPO c2,Qb,seval]
 ·simp only[Q5,cS,eE,seval];cases h1:Op.bytesLess s t
  ·simp only[QPT,eE,seval];refine Qa (Wo k) rfl rfl rfl (.inl rfl) ?_;cases h3:(s==t)
   ·simp only[h1,h2,h3,Q5,QRj,QQH,QPT,eE,seval]
   ·simp only[h1,h2,h3,Q5,QRj,QRg,eE,seval];refine Qa (Wo k) rfl rfl rfl (.inl rfl) ?_;simp only[h2,Qb,seval]
  ·simp only[Qb,seval]

theorem v41 (k:Int)(hk:Xr k)(a b:Nat)(s t:List UInt8):Qh Tryz.prog 41 [kv k a s,kv k b t] (.int .i64 (UN k a s b t)):=by
 have b1:(k==11)=false:=by rcases hk with h|rfl<;>simp<;>omega
 have b2:(k==12)=false:=by rcases hk with h|rfl<;>simp<;>omega
 have b3:(k==10)=false:=by rcases hk with h|rfl<;>simp<;>omega
 have hr:=v72 k hk a b s t;simp only[kv]at hr;refine k41.fn (by simp) ?_;simp only[kv,bne_self_eq_false,b1,b2,b3,eE,seval];refine Qa hr rfl rfl rfl (.inl rfl) ?_;simp only[Qb,seval]

theorem Jw {v:V}{P:PL}{k tg:Int}(h:v.one P k tg=0):v.av=kv k v.bits v.text∧(XZ k=true→(v.bits:Int)=0)∧(XZ k=false→v.text=[]):=by
 obtain⟨h1,_,h3⟩:=Pp h;rw[Cz,h1];rw[h1]at h3;unfold ZI Wt at h3;simp only[QPY,QP1]at h3;obtain⟨⟨⟨⟨⟨_,⟨⟨⟨e1,e2⟩,e3⟩,e4⟩⟩,h4⟩,_⟩,_⟩,_⟩:=h3;have f1:=List.length_eq_zero_iff.1 (Int.ofNat_eq_zero.1 e1);have f2:=List.length_eq_zero_iff.1 (Int.ofNat_eq_zero.1 e2);have f3:=List.length_eq_zero_iff.1 (Int.ofNat_eq_zero.1 e3);have f4:=List.length_eq_zero_iff.1 (Int.ofNat_eq_zero.1 e4);rw[f1,f2,f3,f4];refine⟨rfl,fun ht=>?_,fun ht=>?_⟩
 ·rw[QP5 ht]at h4;simpa using h4
 ·rw[QPO (by simp[ht])]at h4;simpa using h4

theorem Vk {x y:V}{P:PL}{k tg:Int}(_hk:Xr k)(hx:x.one P k tg=0)(hy:y.one P k tg=0)(bx:x.bits<18446744073709551616)(bY:y.bits<18446744073709551616):(Hu k x.bits x.text y.bits y.text==0)=Q2 x y:=by
 obtain⟨_,x1,x2⟩:=Jw hx;obtain⟨_,y1,y2⟩:=Jw hy;rw[QRq,QP1];unfold Q2 Hu;simp only[QPY,QP1];split
 ·rename_i ht;have:=x1 ht;have:=y1 ht;rw[Vj];exact⟨fun h=>⟨by omega,h⟩,fun h=>h.2⟩
 ·rename_i ht;have ht:XZ k=false:=by simpa using ht
  rw[x2 ht,y2 ht];split
  ·rw[Ha,QB,QB];exact⟨fun h=>⟨by omega,rfl⟩,fun h=>by rw[h.1]⟩
  ·rw[Ha];exact⟨fun h=>⟨by omega,rfl⟩,fun h=>by rw[h.1]⟩

theorem Vl {x y:V}{P:PL}{k tg:Int}(_hk:Xr k)(hx:x.one P k tg=0)(hy:y.one P k tg=0)(bx:x.bits<18446744073709551616)(bY:y.bits<18446744073709551616):(UN k x.bits x.text y.bits y.text==0)=Q2 x y:=by
 obtain⟨_,x1,x2⟩:=Jw hx;obtain⟨_,y1,y2⟩:=Jw hy;rw[QRq,QP1];unfold Q2 UN;simp only[QPY,QP1];split
 ·rename_i ht;have:=x1 ht;have:=y1 ht;rw[Vj];exact⟨fun h=>⟨by omega,h⟩,fun h=>h.2⟩
 ·rename_i ht;have ht:XZ k=false:=by simpa using ht
  rw[x2 ht,y2 ht];unfold KM;split
  ·rw[Ha,XY,XY];exact⟨fun h=>⟨by omega,rfl⟩,fun h=>by rw[h.1]⟩
  ·rw[Ha];exact⟨fun h=>⟨by omega,rfl⟩,fun h=>by rw[h.1]⟩

open Up

def vc (x:V):List AV:=[.int .i64 x.kd,.int .u64 (x.bits:Nat),.str x.text,.list (x.list.map V.av),.list (x.pairs.map V.pav),.list (x.slots.map V.sav),.list (x.raws.map R.av)]
theorem Qc (x:V):x.av=.agg [.int .i64 x.kd,.int .u64 (x.bits:Nat),.str x.text,.list (x.list.map V.av),.list (x.pairs.map V.pav),.list (x.slots.map V.sav),.list (x.raws.map R.av)]:=by
 rw[V.av,V.eta]
theorem Q7 (p:V×V):V.pav p=.agg [.int .i64 p.1.kd,.int .u64 (p.1.bits:Nat),.str p.1.text,.list (p.1.list.map V.av),.list (p.1.pairs.map V.pav),.list (p.1.slots.map V.sav),.list (p.1.raws.map R.av),.int .i64 p.2.kd,.int .u64 (p.2.bits:Nat),.str p.2.text,.list (p.2.list.map V.av),.list (p.2.pairs.map V.pav),.list (p.2.slots.map V.sav),.list (p.2.raws.map R.av)]:=by
 rw[V.pav,V.eta,V.eta];rfl
theorem ZJ (s:Int×V):V.sav s=.agg [.int .i64 s.1,.int .i64 s.2.kd,.int .u64 (s.2.bits:Nat),.str s.2.text,.list (s.2.list.map V.av),.list (s.2.pairs.map V.pav),.list (s.2.slots.map V.sav),.list (s.2.raws.map R.av)]:=by
 rw[V.sav,V.eta]
theorem CC {l:List V}{i:Nat}{x:V}(h:l[i]? = some x):(l.map V.av)[i]? = some (.agg [.int .i64 x.kd,.int .u64 (x.bits:Nat),.str x.text,.list (x.list.map V.av),.list (x.pairs.map V.pav),.list (x.slots.map V.sav),.list (x.raws.map R.av)]):=by
 rw[QQX,h,QQr,Qc]
theorem JI {l:List (V×V)}{i:Nat}{p:V×V}(h:l[i]? = some p):(l.map V.pav)[i]? = some (.agg [.int .i64 p.1.kd,.int .u64 (p.1.bits:Nat),.str p.1.text,.list (p.1.list.map V.av),.list (p.1.pairs.map V.pav),.list (p.1.slots.map V.sav),.list (p.1.raws.map R.av),.int .i64 p.2.kd,.int .u64 (p.2.bits:Nat),.str p.2.text,.list (p.2.list.map V.av),.list (p.2.pairs.map V.pav),.list (p.2.slots.map V.sav),.list (p.2.raws.map R.av)]):=by
 rw[QQX,h,QQr,Q7]
theorem Y8 {l:List (Int×V)}{i:Nat}{s:Int×V}(h:l[i]? = some s):(l.map V.sav)[i]? = some (.agg [.int .i64 s.1,.int .i64 s.2.kd,.int .u64 (s.2.bits:Nat),.str s.2.text,.list (s.2.list.map V.av),.list (s.2.pairs.map V.pav),.list (s.2.slots.map V.sav),.list (s.2.raws.map R.av)]):=by
 rw[QQX,h,QQr,ZJ]

structure UO (P:PL)(o:PO):Prop where
 tgt:o.kind=10→0≤o.target∧o.target<(P.progs.length:Int)
 enm:o.kind=9→0≤o.target∧o.target<(P.enums.length:Int)
 key:o.card=5→Xr o.key
def WW (P:PL):Prop:=∀g∈P.progs,∀o∈g.ops,UO P o

theorem WX {P:PL}(h:ck P=0):WW P:=by
 unfold ck at h;split at h
 ·omega
 split at h
 ·omega
 split at h
 ·omega
 split at h
 ·omega
 split at h
 ·omega
 split at h
 ·omega
 rename_i ha;have ha:args P=true:=by simpa using ha
 intro g hg o ho;unfold args at ha;simp only[QPY,QPM]at ha;have h1:=ha.1 g hg;unfold KC at h1;simp only[QPY,QPM]at h1;have h2:=(h1.2 o ho).1;unfold Jv at h2;simp only[QPY,QQW]at h2;obtain⟨⟨_,hk⟩,hm⟩:=h2;refine⟨fun h=>?_,fun h=>?_,fun h=>?_⟩
 ·unfold Vb at hm;rw[QP5 h]at hm;simp only[QPY,QQW]at hm;exact hm.1
 ·unfold Vb at hm;rw[QPO (by omega),QP5 h]at hm;simp only[QPY,QQW]at hm;exact hm
 ·unfold Va.key at hk;rw[QP5 h]at hk;simp only[QPY,QQW,QP2]at hk;unfold Xr;omega

section
variable {M:Nat}{P:PL}(hP:P.ok M)(hM:M≤140737488351232){m:PG→V→Int}{lv lv1:Int}(hw:IntKind.i64.wrap (lv+1)=lv1)

end

section pairs
variable (L:List (V×V))(hl:L.length≤maxLen)(p:V×V→Bool)(c:Nat)(cap:AV)(m:Qj)

end pairs

section slots
variable (L:List (Int×V))(hl:L.length≤maxLen)(p:Int×V→Bool)(c:Nat)(cap:AV)(m:Qj)

end slots

theorem WJ {M:Nat}{v:V}(h:v.ok M):v.bits<18446744073709551616:=by
 have:=QaC h.bits;omega

section
variable {M:Nat}{P:PL}(hP:P.ok M)(hM:M≤140737488351232){m:PG→V→Int}{lv:Int}(o:PO)(ho:UO P o)(h5:o.card=5)(ps:List (V×V))(hn:ps.length≤maxLen)(hk:∀x∈ps,x.1.ok M)(hv:∀x∈ps,x.2.ok M)

end

section
variable {M:Nat}{P:PL}(hP:P.ok M)(hM:M≤140737488351232){m:PG→V→Int}{lv:Int}(o:PO)(ho:UO P o)(v:V)(hv:v.ok M)

end

theorem Y9 {fr:Nat→Ob}{a b:Nat}(h1:(fr a).isRow=false)(h2:(fr b).isRow=false):∀s∈[a,b],(fr s).isRow=false:=by
 intro s hs;simp only[QQV,QRA,or_false]at hs;rcases hs with rfl|rfl
 ·exact h1
 ·exact h2

theorem YG {g:PG}{n:Int}{o:PO}(h:XL g n=some o):o∈g.ops∧o.num=n:=by
 unfold XL at h;exact⟨QRw h,by simpa using List.find?_some h⟩

theorem Hb (g:PG)(n:Int):Gz (fun o=>o.num==n) g.ops=.tup [Qv ((XL g n).getD N7),.bool (XL g n).isSome]:=rfl

section
variable {M:Nat}{P:PL}(hP:P.ok M)(hM:M≤140737488351232){m:PG→V→Int}{lv:Int}(g:PG)(hg:g.ok M)(hu:∀o∈g.ops,UO P o)(sl:List (Int×V))(hn:sl.length≤maxLen)(i:Nat)(hi:i<sl.length)(hv:∀x∈sl,x.2.ok M)

end

section
variable {M:Nat}{P:PL}(hP:P.ok M)

end

theorem CD {l:List R}{i:Nat}{x:R}(h:l[i]? = some x):(l.map R.av)[i]? = some (.agg [.int .i64 x.num,.int .i64 x.wire,.int .u64 (x.bits:Nat),.str x.data]):=by
 rw[QQX,h,QQr,R.av]
section
variable {M:Nat}{P:PL}(hP:P.ok M){m:PG→V→Int}{lv:Int}(g:PG)(hg:g.ok M)(v:V)(hv:v.ok M)

end
open So

section
variable {m:PG→V→Int}{P:PL}

end

theorem Qs5 {v:V}(h:v.kd≠6):v.nsc=v:=by
 cases v;unfold V.nsc ZE;rw[QPO fun g=>h g.1];rfl
theorem K3 {g:PG}(hd:g.ops.Pairwise fun a b=>a.num<b.num){o:PO}(ho:o∈g.ops):XL g o.num=some o:=by
 unfold XL
 revert hd ho
 generalize g.ops=ops;intro hd ho
 induction ops with
 |nil=>cases ho
 |cons x l ih=>
  obtain⟨h1,h2⟩:=QQ9.1 hd;rw[QRn];rcases QQV.1 ho with rfl|ho
  ·simp
  ·have:=h1 o ho;rw[show(x.num==o.num)=false by simp;omega];exact ih h2 ho

section
variable {m:PG→V→Int}{nm:PG→V→V}{P:PL}

theorem UP {sl:List (Int×V)}{o:PO}{x:Int×V}(h:x∈Ji nm P sl o):x.1=o.num∧∃s∈sl,s.1=o.num∧x.2=JH nm P o s.2:=by
 unfold Ji at h;cases hf:sl.find? (fun s=>s.1==o.num)with
 |none=>rw[hf]at h;cases h
 |some s=>
  rw[hf]at h;dsimp only at h;have h1:s.1=o.num:=by simpa using List.find?_some hf
  split at h
  ·simp only[QQV,QRA,or_false]at h;subst h;exact⟨rfl,s,QRw hf,h1,rfl⟩
  ·cases h

theorem R7 {sl:List (Int×V)}{o:PO}{p:Int×V→Int×V→Prop}:(Ji nm P sl o).Pairwise p:=by
 unfold Ji;split
 ·exact .nil
 ·split
  ·exact QRy _ _
  ·exact .nil

end

def EW (m:PG→V→Prop)(P:PL)(o:PO)(v:V):Prop:=o.kind=10→m (Qn P o.target) v
def FW (m:PG→V→Prop)(P:PL)(o:PO)(v:V):Prop :=
 if o.card=4 then ∀x∈v.list,EW m P o x
 else if o.card=5 then(∀p∈v.pairs,p.1.one P o.key (-1)=0∧EW m P o p.2)∧v.pairs.Pairwise fun q p=>Q2 q.1 p.1=false
 else EW m P o v
def MW (P:PL):Nat→PG→V→Prop
 |0,_,_=>False
 |n+1,g,v=>(∀s∈v.slots,∃o,XL g s.1=some o∧FW (MW P n) P o s.2)∧v.slots.Pairwise fun y x=>(y.1==x.1)=false

theorem L2 {P:PL}{o:PO}(ho:o.card=5→Xr o.key)(h5:o.card=5){ps:List (V×V)}(h:∀p∈ps,p.1.one P o.key (-1)=0):∀p∈ps,p.1.nsc=p.1:=by
 intro p hp;have e:=(Pp (h p hp)).1;refine Qs5 ?_;have:=ho h5;unfold Xr at this;omega

end Go.Proofs.YtfgchfdkiomfpaaGreat.Va

namespace Go.Proofs.YtfgchfdkiomfpaaGreat.Va
open Go Am Rc Bt Vp

def bl (l:List UInt8):List AV:=l.map fun b=>.int .u8 (b.toNat:Int)
theorem CE (l:List UInt8):bytesOf (bl l)=some l:=by
 induction l with
 |nil=>rfl
 |cons b l ih=>
  show(bytesOf (bl l)).map _=_;rw[ih];simp

theorem Vm (n:Nat):(n:Int).tmod 128=((n % 128:Nat):Int):=by
 rw[QRB (by omega)];omega

def tk (r:Nat×Nat×Nat):AV:=.tup [.int .u64 (r.1:Nat),.int .i64 (r.2.1:Nat),.int .i64 (r.2.2:Nat)]

theorem Pt:tk (0,0,4)=.tup [.int .u64 0,.int .i64 0,.int .i64 4]:=rfl
theorem Pu:tk (0,0,6)=.tup [.int .u64 0,.int .i64 0,.int .i64 6]:=rfl
theorem Fp (v n:Nat):tk (v,n,0)=.tup [.int .u64 (v:Nat),.int .i64 (n:Nat),.int .i64 0]:=rfl

theorem Pv (c:UInt8):bits .and .u8 (c.toNat:Int) 127=((c.toNat % 128:Nat):Int):=by
 have h:∀n:Fin 256,bits .and .u8 ((n.val:Nat):Int) 127=((n.val % 128:Nat):Int):=by decide +kernel
 exact h ⟨c.toNat,c.toNat_lt⟩

theorem Bw (i:Nat):128 ^ i=2 ^ (7*i):=by rw[Nat.pow_mul]

theorem D0 (acc d i:Nat)(hi:i≤9)(ha:acc<128 ^ i)(hd:d<128)(h9:i=9→d≤1) :
  bits .or .u64 (acc:Int) (IntKind.u64.wrap (IntKind.u64.wrap (d:Int)*2 ^ min (IntKind.i64.wrap (7*(i:Int))).toNat 64))=((acc+d*128 ^ i:Nat):Int):=by
 have e1:IntKind.i64.wrap (7*(i:Int))=((7*i:Nat):Int):=by rw[QB];omega
 have hb:d*128 ^ i<18446744073709551616:=by
  rcases Nat.lt_or_ge i 9 with h|h
  ·have h1:128 ^ i≤128 ^ 8:=QRv (by omega) (by omega)
   calc d*128 ^ i≤127*128 ^ 8:=Nat.mul_le_mul (by omega) h1
    _<_:=by decide
  ·have:i=9:=by omega
   subst this
   calc d*128 ^ 9≤1*128 ^ 9:=Nat.mul_le_mul (h9 rfl) (QPB _)
    _<_:=by decide
 have hacc:acc<18446744073709551616:=by
  refine QPI ha ?_
  calc 128 ^ i≤128 ^ 9:=QRv (by omega) hi
   _≤_:=by decide
 have e2:IntKind.u64.wrap (d:Int)=(d:Int):=by rw[XY];omega
 have e3:IntKind.u64.wrap ((d:Int)*2 ^ (7*i))=((d*128 ^ i:Nat):Int):=by
  rw[XY,Bw];have:((d*2 ^ (7*i):Nat):Int)=(d:Int)*2 ^ (7*i):=by push_cast;rfl
  rw[←this];rw[Bw]at hb;omega
 rw[e1,QQ2,QQP (by omega),e2,e3,Pk _ _ hacc hb];congr 1
 rw[Bw]at ha ⊢;have:=Nat.two_pow_add_eq_or_of_lt ha d;rw[Nat.or_comm,Nat.mul_comm d,←this,Nat.add_comm]

theorem Bx {acc d i:Nat}(ha:acc<128 ^ i)(hd:d<128):acc+d*128 ^ i<128 ^ (i+1):=by
 have:d*128 ^ i≤127*128 ^ i:=QQF _ (by omega);rw[Nat.pow_succ];omega

theorem UQ {l t:List UInt8}{c:UInt8}{i:Nat}(h:l.drop i=c :: t):l[i]? = some c∧l.drop (i+1)=t∧i<l.length:=by
 have hi:i<l.length:=by
  rcases Nat.lt_or_ge i l.length with h'|h'
  ·exact h'
  ·rw[QQd h']at h;cases h
 rw[QQk hi]at h
 injection h with h1 h2
 exact⟨by rw[QPE hi,h1],h2,hi⟩

def QEo (s:List UInt8)(k:Nat)(st:St):Prop :=
 ∃f i acc,st=⟨f,[QE],[]⟩∧k=s.length-i∧f 0=.str s∧f 5=.int .u64 (acc:Nat)∧f 6=.int .i64 (i:Nat)∧i≤s.length∧i≤9∧acc<128 ^ i∧JW i acc (s.drop i)=Vp.take s

theorem QKW (s:List UInt8):Qh Tryz.prog 139 [.str s] (tk (Vp.take s)):=by
  refine Qc5.fn (by simp) ?_;simp only[Zq,seval];refine Qg (QEo s) _ ⟨_,0,0,rfl,rfl,rfl,rfl,rfl,QPJ _,QPJ _,by decide,rfl⟩ ?_;rintro n st ⟨f,i,acc,rfl,rfl,h0,h5,h6,hil,hi,ha,hv⟩;simp only[h0,h6,Zq,seval];refine QK (fun h=>?_) (fun h=>?_)
  · have h : i = s.length:=by (have h : (i : Int) = s.length:=(by simpa using h));omega
    rw[QQd (by omega)]at hv;simp only[←hv,JW,Pt,Zq,seval]
  · have h : i < s.length:=by (have h : ¬ (i : Int) = s.length:=(by simpa using h));omega
    obtain⟨c,t,hc⟩:∃c t,s.drop i=c :: t:=by
      cases hd:s.drop i with
      |nil=>have:=congrArg List.length hd;simp at this;omega
      |cons c t=>exact⟨c,t,rfl⟩
    obtain⟨g1,g2,_⟩:=UQ hc;rw[hc]at hv;have n0:(0≤(i:Int))=True:=by simp
    have e7:IntKind.i64.wrap (7*(i:Int))=((7*i:Nat):Int):=by rw[QB];omega
    have n7:(0≤IntKind.i64.wrap (7*(i:Int)))=True:=eq_true (by rw[e7];omega);have e1:IntKind.i64.wrap ((i:Int)+1)=((i+1:Nat):Int):=by rw[QB];omega
    rw[JW]at hv;simp only[h0,h6,n0,g1,QQ2,Zq,seval];by_cases h9:i=9
    · have e9:((i:Int)==9)=true:=by simp;omega
      simp only[e9,Zq,seval];refine QK (fun hc1=>?_) (fun hc1=>?_)
      · have hc1 : 1 < c.toNat:=by (have hc1 : (1 : Int) < c.toNat:=(by simpa using hc1));omega
        rw[QP5 ⟨h9,hc1⟩]at hv;simp only[←hv,Pu,Zq,seval]
      · have hc1 : c.toNat ≤ 1:=by (have hc1 : (c.toNat : Int) ≤ 1:=(by simpa using hc1));omega
        have hbad:¬(i=9∧1<c.toNat):=by omega
        rw[QPO hbad]at hv;have hd:=D0 acc (c.toNat % 128) i hi ha (by omega) (fun _=>by omega);simp only[Pv,n7,hd,e1,h5,h6,Zq,seval];refine QK (fun hlt=>?_) (fun hlt=>?_)
        · have hlt:c.toNat<128:=by omega
          rw[QP5 hlt]at hv;simp only[←hv,Fp,QQ0 hlt,h5,h6,Zq,seval]
        · exfalso;have hlt:(128:Int)≤c.toNat:=by simpa using hlt
          omega
    · have hbad:¬(i=9∧1<c.toNat):=by omega
      rw[QPO hbad]at hv;have e9:((i:Int)==9)=false:=by simp;omega
      have hd:=D0 acc (c.toNat % 128) i hi ha (by omega) (fun e=>absurd e h9);simp only[e9,Pv,n7,hd,e1,h5,h6,Zq,seval];refine QK (fun hlt=>?_) (fun hlt=>?_)
      · have hlt : c.toNat < 128:=by (have hlt : (c.toNat : Int) < 128:=(by simpa using hlt));omega
        rw[QP5 hlt]at hv;simp only[←hv,Fp,QQ0 hlt,h5,h6,Zq,seval]
      · have hlt : 128 ≤ c.toNat:=by (have hlt : (128 : Int) ≤ c.toNat:=(by simpa using hlt));omega
        rw[QPO (by omega)]at hv;simp only[Zq,seval];refine⟨s.length-(i+1),by omega,_,i+1,acc+c.toNat % 128*128 ^ i,rfl,rfl,?_,?_,?_,by omega,by omega,Bx ha (by omega),?_⟩
        · simp only[h0,Zq,seval]
        · simp only[Zq,seval]
        · simp only[Zq,seval]
        · rw[g2,←hv];have:=c.toNat_lt;rw[show c.toNat % 128=c.toNat-128 by omega]

theorem Qs6 {acc i:Nat}(hi:i≤9)(ha:acc<128 ^ i):acc<9223372036854775808:=by
 refine QPI ha ?_
 calc 128 ^ i≤128 ^ 9:=QRv (by omega) hi
  _≤_:=by decide
theorem Qs7 {i:Nat}(hi:i≤9):128 ^ i≤9223372036854775808:=by
 calc 128 ^ i≤128 ^ 9:=QRv (by omega) hi
  _≤_:=by decide
theorem Pw {d i:Nat}(hi:i≤9)(hd:d<128)(h9:i=9→d≤1):d*128 ^ i≤9223372036854775808:=by
 rcases Nat.lt_or_ge i 9 with h|h
 ·have h1:128 ^ i≤128 ^ 8:=QRv (by omega) (by omega)
  calc d*128 ^ i≤127*128 ^ 8:=Nat.mul_le_mul (by omega) h1
   _≤_:=by decide
 ·have:i=9:=by omega
  calc d*128 ^ i≤1*9223372036854775808:=Nat.mul_le_mul (h9 this) (Qs7 hi)
   _≤_:=by decide
theorem D1 (d i:Nat)(hi:i≤9)(hd:d<128)(h9:i=9→d≤1):IntKind.u64.wrap ((d:Int)*((128 ^ i:Nat):Int))=((d*128 ^ i:Nat):Int):=by
 have hb:=Pw hi hd h9;have:((d*128 ^ i:Nat):Int)=(d:Int)*((128 ^ i:Nat):Int):=Int.natCast_mul ..;rw[XY,←this];omega
theorem GH (acc d i:Nat)(hi:i≤9)(ha:acc<128 ^ i)(hd:d<128)(h9:i=9→d≤1):IntKind.u64.wrap ((acc:Int)+((d*128 ^ i:Nat):Int))=((acc+d*128 ^ i:Nat):Int):=by
 have hb:=Pw hi hd h9;have hc:=Qs6 hi ha;rw[XY];omega
theorem R8 (i:Nat)(hi:i<9):IntKind.u64.wrap (((128 ^ i:Nat):Int)*128)=((128 ^ (i+1):Nat):Int):=by
 have h:128 ^ i≤128 ^ 8:=QRv (by omega) (by omega);have h2:(128:Nat) ^ 8=72057594037927936:=by decide
 rw[XY,Nat.pow_succ];omega

def Qs8 (s:List UInt8)(k:Nat)(st:St):Prop :=
 ∃f i acc,st=⟨f,[QE],[]⟩∧k=s.length-i∧f 0=.str s∧f 5=.int .u64 (acc:Nat)∧f 6=.int .u64 ((128 ^ i:Nat):Int)∧f 7=.int .i64 (i:Nat)∧i≤s.length∧i≤9∧acc<128 ^ i∧JW i acc (s.drop i)=Vp.take s

theorem QKX (s:List UInt8):Qh Tryz.prog 172 [.str s] (tk (Vp.take s)):=by
  refine QI9.fn (by simp) ?_;simp only[Zq,seval];refine Qg (Qs8 s) _ ⟨_,0,0,rfl,rfl,rfl,rfl,rfl,rfl,QPJ _,QPJ _,by decide,rfl⟩ ?_;rintro n st ⟨f,i,acc,rfl,rfl,h0,h5,h6,h7,hil,hi,ha,hv⟩;have e10:decide ((i:Int)<10)=true:=by simp;omega
  simp only[h0,h7,e10,Zq,seval];refine QK (fun h=>?_) (fun h=>?_)
  · have h : i = s.length:=by (have h : (s.length : Int) ≤ i:=(by simpa using h));omega
    rw[QQd (by omega)]at hv;simp only[←hv,JW,Pt,Zq,seval]
  · have h : i < s.length:=by (have h : (i : Int) < s.length:=(by simpa using h));omega
    obtain⟨c,t,hc⟩:∃c t,s.drop i=c :: t:=by
      cases hd:s.drop i with
      |nil=>have:=congrArg List.length hd;simp at this;omega
      |cons c t=>exact⟨c,t,rfl⟩
    obtain⟨g1,g2,_⟩:=UQ hc;rw[hc]at hv;have n0:(0≤(i:Int))=True:=by simp
    have e1:IntKind.i64.wrap ((i:Int)+1)=((i+1:Nat):Int):=by rw[QB];omega
    have hcl:=c.toNat_lt;have ec:IntKind.u64.wrap (c.toNat:Int)=(c.toNat:Int):=by rw[XY];omega
    rw[JW]at hv;simp only[h0,h7,n0,g1,ec,QQ2,Zq,seval];by_cases h9:i=9
    · have e9:((i:Int)==9)=true:=by simp;omega
      simp only[e9,Zq,seval];refine QK (fun hc1=>?_) (fun hc1=>?_)
      · have hc1 : 1 < c.toNat:=by (have hc1 : (1 : Int) < c.toNat:=(by simpa using hc1));omega
        rw[QP5 ⟨h9,hc1⟩]at hv;simp only[←hv,Pu,Zq,seval]
      · have hc1 : c.toNat ≤ 1:=by (have hc1 : (c.toNat : Int) ≤ 1:=(by simpa using hc1));omega
        have hbad:¬(i=9∧1<c.toNat):=by omega
        rw[QPO hbad]at hv;have hm:=D1 (c.toNat % 128) i hi (by omega) (fun _=>by omega);have hd:=GH acc (c.toNat % 128) i hi ha (by omega) (fun _=>by omega);simp only[Vm,hm,hd,h5,h6,Zq,seval];refine QK (fun hlt=>?_) (fun hlt=>?_)
        · have hlt:c.toNat<128:=by omega
          rw[QP5 hlt]at hv;simp only[←hv,Fp,QQ0 hlt,e1,h5,h7,Zq,seval]
        · exfalso;have hlt:(128:Int)≤c.toNat:=by simpa using hlt
          omega
    · have hbad:¬(i=9∧1<c.toNat):=by omega
      rw[QPO hbad]at hv;have e9:((i:Int)==9)=false:=by simp;omega
      have hm:=D1 (c.toNat % 128) i hi (by omega) (fun e=>absurd e h9);have hd:=GH acc (c.toNat % 128) i hi ha (by omega) (fun e=>absurd e h9);have hp:=R8 i (by omega);simp only[e9,Vm,hm,hd,h5,h6,Zq,seval];refine QK (fun hlt=>?_) (fun hlt=>?_)
      · have hlt : c.toNat < 128:=by (have hlt : (c.toNat : Int) < 128:=(by simpa using hlt));omega
        rw[QP5 hlt]at hv;simp only[←hv,Fp,QQ0 hlt,e1,h5,h7,Zq,seval]
      · have hlt : 128 ≤ c.toNat:=by (have hlt : (128 : Int) ≤ c.toNat:=(by simpa using hlt));omega
        rw[QPO (by omega)]at hv;simp only[hp,e1,h6,h7,Zq,seval];refine⟨s.length-(i+1),by omega,_,i+1,acc+c.toNat % 128*128 ^ i,rfl,rfl,?_,?_,?_,?_,by omega,by omega,Bx ha (by omega),?_⟩
        · simp only[h0,Zq,seval]
        · simp only[Zq,seval]
        · simp only[Zq,seval]
        · simp only[Zq,seval]
        · rw[g2,←hv];rw[show c.toNat % 128=c.toNat-128 by omega]

open Cp

theorem c88 (c:C):Qh Tryz.prog 88 [c.av] (.bool c.sound):=by
 refine k88.fn (by simp) ?_;simp only[C.av,eE,seval]
 repeat' (first|(refine QK (fun h=>?_) (fun h=>?_)<;>simp only[h,eE,seval])|(refine Xo (fun h=>?_) (fun h=>?_)<;>simp only[h,Qk,eE,seval])|(refine Xp (fun h=>?_) (fun h=>?_)<;>simp only[h,Qk,eE,seval]))
 all_goals(simp_all[C.sound]<;>omega)

theorem Qta (c:C):Qh Tryz.prog 121 [c.av] (.bool c.sound):=by
 refine QJr.fn (by simp) ?_;simp only[C.av,eE,seval]
 repeat' (first|(refine QK (fun h=>?_) (fun h=>?_)<;>simp only[h,eE,seval])|(refine Xo (fun h=>?_) (fun h=>?_)<;>simp only[h,Qk,eE,seval])|(refine Xp (fun h=>?_) (fun h=>?_)<;>simp only[h,Qk,eE,seval]))
 all_goals(simp_all[C.sound]<;>omega)

theorem CF (c:C)(n:Int):Qh Tryz.prog 141 [c.av,.int .i64 n] (c.ahead n).av:=by
 refine Qdi.fn (by simp) ?_;simp only[C.av,C.ahead,eE,seval]

theorem CG (c:C)(n:Int):Qh Tryz.prog 173 [c.av,.int .i64 n] (c.ahead n).av:=by
 refine QJA.fn (by simp) ?_;simp only[C.av,C.ahead,eE,seval]

theorem c24 (s:List UInt8)(l:L):Qh Tryz.prog 24 [.str s,l.av] (Z6 (opn s l)):=by
 refine k24.fn (by simp) ?_;simp only[L.av,eE,seval]
 repeat' (first|(refine QK (fun h=>?_) (fun h=>?_)<;>simp only[h,eE,seval])|(refine Xo (fun h=>?_) (fun h=>?_)<;>simp only[h,Qk,eE,seval])|(refine Xp (fun h=>?_) (fun h=>?_)<;>simp only[h,Qk,eE,seval]))
 all_goals((try simp only[QQW,QRr]at *)<;>unfold opn<;>(repeat' split)<;>first|rfl|(exfalso;omega))

theorem c20 (s:List UInt8)(l:L):Qh Tryz.prog 20 [.str s,l.av] (Z6 (opn s l)):=by
 refine k20.fn (by simp) ?_;simp only[L.av,eE,seval]
 repeat' (first|(refine QK (fun h=>?_) (fun h=>?_)<;>simp only[h,eE,seval])|(refine Xo (fun h=>?_) (fun h=>?_)<;>simp only[h,Qk,eE,seval])|(refine Xp (fun h=>?_) (fun h=>?_)<;>simp only[h,Qk,eE,seval]))
 all_goals((try simp only[QQW,QRr]at *)<;>unfold opn<;>(repeat' split)<;>first|rfl|(exfalso;omega))

theorem c47 (c:C)(n:Int):Qh Tryz.prog 47 [c.av,.int .i64 n] (Z6 (c.spend n)):=by
 refine k47.fn (by simp) ?_;simp only[C.av,eE,seval]
 repeat' (first|(refine QK (fun h=>?_) (fun h=>?_)<;>simp only[h,eE,seval])|(refine Xo (fun h=>?_) (fun h=>?_)<;>simp only[h,Qk,eE,seval])|(refine Xp (fun h=>?_) (fun h=>?_)<;>simp only[h,Qk,eE,seval]))
 all_goals((try simp only[QQW,QRr]at *)<;>unfold C.spend<;>(repeat' split)<;>first|rfl|(exfalso;omega))

theorem D2 (c:C)(n:Int):Qh Tryz.prog 21 [c.av,.int .i64 n] (Z6 (c.spend n)):=by
 refine k21.fn (by simp) ?_;simp only[C.av,eE,seval]
 repeat' (first|(refine QK (fun h=>?_) (fun h=>?_)<;>simp only[h,eE,seval])|(refine Xo (fun h=>?_) (fun h=>?_)<;>simp only[h,Qk,eE,seval])|(refine Xp (fun h=>?_) (fun h=>?_)<;>simp only[h,Qk,eE,seval]))
 all_goals((try simp only[QQW,QRr]at *)<;>unfold C.spend<;>(repeat' split)<;>first|rfl|(exfalso;omega))

theorem D3 (c:C)(hl:c.d.length≤9223372036854775807):Qh Tryz.prog 48 [c.av] (.int .i64 c.left):=by
 refine k48.fn (by simp) ?_;simp only[C.av,eE,seval];refine Qa (c88 c) rfl rfl rfl (.inl rfl) ?_;have hr:=c.rest_len;cases hs:c.sound with
 |false=>
  rw[hs,QPO (by simp)]at hr;simp only[QQH,hr,Qb,seval]
 |true=>
  rw[hs,QP5 rfl]at hr;have h:=(C.sound_iff c).1 hs;have e1:IntKind.i64.wrap (c.e-c.a)=c.e-c.a:=by rw[QB];omega
  simp only[QRg,hr,e1,eE,seval]

theorem Qtb (c:C)(n:Nat)(hn:n≤1000)(hl:c.d.length≤9223372036854770000):Qh Tryz.prog 140 [c.av,.int .i64 (n:Int)] (.str (c.rest.take n)):=by
 refine Qdc.fn (by simp) ?_;simp only[C.av,eE,seval];refine Qa (c88 c) rfl rfl rfl (.inl rfl) ?_;cases hs:c.sound with
 |false=>
  simp only[QQH,C.rest_no hs,Qb,seval]
 |true=>
  have h:=(C.sound_iff c).1 hs;have e1:IntKind.i64.wrap (c.a+n)=c.a+n:=by rw[QB];omega
  have hh:=C.head_of hs n _ rfl;generalize hk:(if c.a+n<c.e then c.a+n else c.e)=k at hh;have hk':c.a≤k∧k≤c.e:=by split at hk<;>omega
  have n1:(0≤c.a)=True:=eq_true h.1;have n2:(0≤k)=True:=eq_true (by omega);have n3:(c.a.toNat≤k.toNat∧k.toNat≤c.d.length)=True:=eq_true (by omega);simp only[QRg,e1,hk,n1,n2,n3,hh,eE,seval]

theorem Px (c:C):Qh Tryz.prog 73 [c.av] (.str c.rest):=by
 refine k73.fn (by simp) ?_;simp only[C.av,eE,seval];refine Qa (Qta c) rfl rfl rfl (.inl rfl) ?_;cases hs:c.sound with
 |false=>
  simp only[QQH,C.rest_no hs,Qb,seval]
 |true=>
  have h:=(C.sound_iff c).1 hs;have n1:(0≤c.a)=True:=eq_true h.1;have n2:(0≤c.e)=True:=eq_true (by omega);have n3:(c.a.toNat≤c.e.toNat∧c.e.toNat≤c.d.length)=True:=eq_true (by omega);simp only[QRg,n1,n2,n3,C.rest_of hs,eE,seval]

theorem Vn (c:C):Qh Tryz.prog 42 [c.av] (.int .i64 c.left):=by
 refine k42.fn (by simp) ?_;simp only[C.av,eE,seval];refine Qa (Px c) rfl rfl rfl (.inl rfl) ?_;simp only[C.left,Qb,seval]

theorem Vo (c:C)(hl:c.d.length≤9223372036854770000):Qh Tryz.prog 89 [c.av] (X4 c.varint):=by
 refine k89.fn (by simp) ?_;simp only[C.av,eE,seval];refine Qa (Qtb c 10 (by omega) hl) rfl rfl rfl (.inl rfl) ?_;refine Qa (QKW (c.rest.take 10)) rfl rfl rfl (.inl rfl) ?_;rw[take_take];unfold C.varint;generalize Vp.take c.rest=r;obtain⟨u,n,e⟩:=r;simp only[tk,Qb,seval];refine QK (fun h=>?_) (fun h=>?_)
 ·have h:¬e=0:=by simpa using h
  simp only[h,X4,C.av,eE,seval]
  try rfl
 ·have h:e=0:=by simpa using h
  subst h;simp only[eE,seval];refine Qa (CF c (n:Int)) rfl rfl rfl (.inl rfl) ?_;simp only[X4,C.av,C.ahead,eE,seval]
  try rfl

theorem CH (c:C):Qh Tryz.prog 122 [c.av] (X4 c.varint):=by
 refine QJx.fn (by simp) ?_;simp only[C.av,eE,seval];refine Qa (Px c) rfl rfl rfl (.inl rfl) ?_;refine Qa (QKX c.rest) rfl rfl rfl (.inl rfl) ?_;unfold C.varint;generalize Vp.take c.rest=r;obtain⟨u,n,e⟩:=r;simp only[tk,Qb,seval];refine QK (fun h=>?_) (fun h=>?_)
 ·have h:¬e=0:=by simpa using h
  simp only[h,X4,C.av,eE,seval]
  try rfl
 ·have h:e=0:=by simpa using h
  subst h;simp only[eE,seval];refine Qa (CG c (n:Int)) rfl rfl rfl (.inl rfl) ?_;simp only[X4,C.av,C.ahead,eE,seval]
  try rfl

theorem Qu {a:Nat}(h:¬a=0):((a:Int) != 0)=true:=by simp[h]
def UR (s:List UInt8):Nat→Nat
 |0=>0
 |k+1=>UR s k+((s[k]?).getD 0).toNat*256 ^ k

theorem Py (s:List UInt8)(k:Nat):UR s k<256 ^ k:=by
 induction k with
 |zero=>exact Nat.one_pos
 |succ k ih=>
  have h1:=((s[k]?).getD 0).toNat_lt;have h2:((s[k]?).getD 0).toNat*256 ^ k≤255*256 ^ k:=QQF _ (by omega);rw[UR,Nat.pow_succ];omega

theorem D4 (b:UInt8):∀(l:List UInt8) (z:Nat),l.foldr (fun b v=>256*v+b.toNat) z=l.foldr (fun b v=>256*v+b.toNat) 0+z*256 ^ l.length
 | [],z=>by simp
 |a :: l,z=>by
  rw[List.foldr_cons,List.foldr_cons,D4 b l z,QPP,Nat.pow_succ];rw[Nat.mul_add,←Nat.mul_assoc,Nat.mul_comm 256 z,Nat.mul_assoc z,Nat.mul_comm 256 (256 ^ _)];omega

theorem Bz (s:List UInt8):∀(k:Nat),k≤s.length→(s.take k).foldr (fun b v=>256*v+b.toNat) 0=UR s k
 |0,_=>rfl
 |k+1,h=>by
  rw[QPU (by omega),List.foldr_append,List.foldr_cons,List.foldr_nil,D4 0,Bz s k (by omega),UR];rw[QPE (by omega),QQw,QQP (by omega)];simp

theorem R9 (s:List UInt8)(h:8≤s.length):UJ s=UR s 8:=Bz s 8 h

theorem CJ (s:List UInt8)(k:Nat)(h:k<s.length)(hk:k<8):((s.take 8).drop k).foldr (fun b v=>256*v+b.toNat) 0=256*((s.take 8).drop (k+1)).foldr (fun b v=>256*v+b.toNat) 0+((s[k]?).getD 0).toNat:=by
 have hl:k<(s.take 8).length:=by simp;omega
 rw[QQk hl,List.foldr_cons];rw[QPE h];simp

def CL (s:List UInt8)(k:Nat)(st:St):Prop :=
 ∃f i,st=⟨f,[QE],[]⟩∧k=8-i∧i≤8∧f 0=.str s∧f 4=.int .u64 (UR s i:Nat)∧f 9=.int .i64 (i:Nat)

theorem Sa (s:List UInt8)(i:Nat)(c:UInt8)(hi:i<8)(hc:s[i]? = some c) :
  bits .or .u64 (UR s i:Int) (IntKind.u64.wrap (IntKind.u64.wrap (c.toNat:Int)*2 ^ min (IntKind.i64.wrap (8*(i:Int))).toNat 64))=(UR s (i+1):Nat):=by
 have e1:IntKind.i64.wrap (8*(i:Int))=((8*i:Nat):Int):=by rw[QB];omega
 have hp:256 ^ i=2 ^ (8*i):=by rw[Nat.pow_mul]
 have hcl:=c.toNat_lt;have hlt:=Py s (i+1);have hlt0:=Py s i;rw[UR,hc]at hlt;simp only[QQK]at hlt;have h8:256 ^ (i+1)≤256 ^ 8:=QRv (by omega) (by omega);have h88:(256:Nat) ^ 8=18446744073709551616:=by decide
 have e2:IntKind.u64.wrap (c.toNat:Int)=(c.toNat:Int):=by rw[XY];omega
 have e3:IntKind.u64.wrap ((c.toNat:Int)*2 ^ (8*i))=((c.toNat*256 ^ i:Nat):Int):=by
  have:((c.toNat*2 ^ (8*i):Nat):Int)=(c.toNat:Int)*2 ^ (8*i):=by push_cast;rfl
  rw[XY,←this,hp];rw[hp]at hlt;omega
 rw[e1,QQ2,QQP (by omega),e2,e3,Pk _ _ (by omega) (by omega),UR,hc];congr 1
 rw[hp]at hlt0 ⊢;have:=Nat.two_pow_add_eq_or_of_lt hlt0 c.toNat;simp only[QQK];rw[Nat.or_comm,Nat.mul_comm c.toNat,←this,Nat.add_comm]

def Pz (s:List UInt8):AV:=if s.length<8 then .tup [.int .u64 0,.int .i64 4]else .tup [.int .u64 (UJ s:Nat),.int .i64 0]

theorem Qtc (s:List UInt8):Qh Tryz.prog 188 [.str s] (Pz s):=by
 refine QG5.fn (by simp) ?_;simp only[Qb,seval];refine QK (fun h=>?_) (fun h=>?_)
 ·have h : s.length < 8:=by (have h : (s.length : Int) < 8:=(by simpa using h));omega
  simp only[Pz,h,Qb,seval]
 ·have h : ¬ s.length < 8:=by (have h : ¬ (s.length : Int) < 8:=(by simpa using h));omega
  simp only[Qb,seval];refine Qg (CL s) _ ⟨_,0,rfl,rfl,by omega,rfl,rfl,rfl⟩ ?_;rintro n st ⟨f,i,rfl,rfl,hi,h0,h4,h9⟩;simp only[h9,Qb,seval];refine QK (fun hc=>?_) (fun hc=>?_)
  ·have hc : i < 8:=by (have hc : (i : Int) < 8:=(by simpa using hc));omega
   have n0:(0≤(i:Int))=True:=by simp
   obtain⟨b,hb⟩:∃b,s[i]? = some b:=⟨s[i],QPE (by omega)⟩;have e1:IntKind.i64.wrap ((i:Int)+1)=((i+1:Nat):Int):=by rw[QB];omega
   have e0:IntKind.i64.wrap (8*(i:Int))=((8*i:Nat):Int):=by rw[QB];omega
   have n8:(0≤IntKind.i64.wrap (8*(i:Int)))=True:=eq_true (by rw[e0];omega);have ha:=Sa s i b hc hb;simp only[n0,QQ2,hb,n8,ha,e1,h0,h4,h9,Qb,seval];exact⟨8-(i+1),by omega,_,i+1,rfl,rfl,by omega,by simp only[h0,Qb,seval],by simp only[Qb,seval],by simp only[Qb,seval]⟩
  ·have hc : i = 8:=by (have hc : ¬ (i : Int) < 8:=(by simpa using hc));omega
   subst hc;simp only[h4,Qb,seval];rw[Pz,QPO h,R9 s (by omega)]

theorem Qtd (c:C)(hl:c.d.length≤9223372036854770000):Qh Tryz.prog 153 [c.av] (X4 c.fixed):=by
 refine QGX.fn (by simp) ?_;simp only[C.av,eE,seval];refine Qa (Qtb c 8 (by omega) hl) rfl rfl rfl (.inl rfl) ?_;have h8:UJ (c.rest.take 8)=UJ c.rest:=by simp[UJ,List.take_take]
 have hlen:(c.rest.take 8).length<8↔c.rest.length<8:=by simp;omega
 by_cases h:c.rest.length<8
 ·have ht:=Qtc (c.rest.take 8);rw[Pz,QP5 (hlen.2 h)]at ht;refine Qa ht rfl rfl rfl (.inl rfl) ?_;simp only[show(((4:Int) != 0)=true)from rfl,C.fixed,X4,h,C.av,eE,seval]
  try rfl
 ·have ht:=Qtc (c.rest.take 8);rw[Pz,QPO (fun h'=>h (hlen.1 h')),h8]at ht;refine Qa ht rfl rfl rfl (.inl rfl) ?_;simp only[bne_self_eq_false,eE,seval];refine Qa (CF c 8) rfl rfl rfl (.inl rfl) ?_;simp only[X4,C.fixed,h,C.av,C.ahead,eE,seval]
  try rfl

theorem HT:∀(l:List UInt8),l.foldr (fun b v=>256*v+b.toNat) 0<256 ^ l.length
 | []=>by simp
 |b :: l=>by
  have h:=HT l;have hb:=b.toNat_lt;rw[List.foldr_cons,QPP,Nat.pow_succ];omega

def GI (s:List UInt8)(i:Nat):Nat:=((s.take 8).drop i).foldr (fun b v=>256*v+b.toNat) 0

theorem Sb (s:List UInt8)(i:Nat)(hi:i<8)(hs:8≤s.length)(c:UInt8)(hc:s[i]? = some c):IntKind.u64.wrap (IntKind.u64.wrap ((GI s (i+1):Nat)*256:Int)+IntKind.u64.wrap (c.toNat:Int))=((GI s i:Nat):Int)∧IntKind.u64.wrap (IntKind.u64.wrap (256*(GI s (i+1):Nat):Int)+IntKind.u64.wrap (c.toNat:Int))=((GI s i:Nat):Int):=by
 have h:=CJ s i (by omega) hi;rw[hc]at h;simp only[QQK]at h;have h:GI s i=256*GI s (i+1)+c.toNat:=h;have hlt:GI s i<256 ^ (8-i):=by
  have:=HT ((s.take 8).drop i);rw[QQh,QQw,QQP hs]at this;exact this
 have h8:256 ^ (8-i)≤256 ^ 8:=QRv (by omega) (by omega);have h88:(256:Nat) ^ 8=18446744073709551616:=by decide
 have hcl:=c.toNat_lt
 constructor<;>(simp only[XY];omega)

def L3 (s:List UInt8)(fr:Nat→Ob)(k:Nat)(st:St):Prop :=
 ∃f,∃i:Nat,st=⟨f,[fr],[]⟩∧k=i∧i≤8∧f 1=.ptr 0 1 0∧f 3=.ptr 0 3 0∧f 5=.str s∧f 6=.int .u64 (GI s i:Nat)∧f 7=.int .i64 ((i:Int)-1)

theorem Qte (c:C):Qh Tryz.prog 174 [c.av] (X4 c.fixed):=by
  refine QJl.fn (by simp) ?_;simp only[C.av,eE,seval];refine Qa (Px c) rfl rfl rfl (.inl rfl) ?_;simp only[Qb,seval];refine QK (fun h=>?_) (fun h=>?_)
  · have h : c.rest.length < 8:=by (have h : (c.rest.length : Int) < 8:=(by simpa using h));omega
    simp only[C.fixed,X4,h,C.av,eE,seval]
    try rfl
  · have h : ¬ c.rest.length < 8:=by (have h : ¬ (c.rest.length : Int) < 8:=(by simpa using h));omega
    simp only[Qb,seval];refine Qg (L3 c.rest _) _ ⟨_,8,rfl,rfl,by omega,rfl,rfl,rfl,?_,rfl⟩ ?_
    · simp[GI,Zq,seval]
    rintro n st ⟨f,i,rfl,rfl,hi,h1,h3,h5,h6,h7⟩;simp only[h7,Qb,seval];refine QK (fun hc=>?_) (fun hc=>?_)
    · have hc : 1 ≤ n:=by (have hc : (0 : Int) ≤ (n : Int) - 1:=(by simpa using hc));omega
      obtain⟨i,rfl⟩:∃i,n=i+1:=⟨n-1,by omega⟩;have e0:(((i+1:Nat):Int)-1)=(i:Int):=by omega
      have n0:(0≤(i:Int))=True:=by simp
      obtain⟨b,hb⟩:∃b,c.rest[i]? = some b:=⟨c.rest[i],QPE (by omega)⟩;have e1:IntKind.i64.wrap ((i:Int)-1)=(i:Int)-1:=by rw[QB];omega
      have ha:=(Sb c.rest i (by omega) (by omega) b hb).1;simp only[e0,n0,QQ2,hb,ha,e1,h5,h6,h7,Qb,seval];exact⟨i,by omega,_,i,rfl,rfl,by omega,by simp only[h1,Qb,seval],by simp only[h3,Qb,seval],by simp only[h5,Qb,seval],by simp only[Qb,seval],by simp only[Qb,seval]⟩
    · have hc : n = 0:=by (have hc : ¬ (0 : Int) ≤ (n : Int) - 1:=(by simpa using hc));omega
      subst hc;simp only[h1,h6,eE,seval];refine Qa (CG c 8) rfl rfl rfl (.inl rfl) ?_;simp only[X4,C.fixed,h,C.av,C.ahead,h3,eE,seval]
      try rfl

def TL (n:Int):Prop:=-9223372036854775808≤n∧n<9223372036854775808

def Ze (c:C):Int×C×Nat:=match c.rest with
 | []=>(0,c,4)
 |b :: _=>((b.toNat:Int),c.ahead 1,0)
def US (r:Int×C×Nat):AV:=.tup [.int .u8 r.1,r.2.1.av,.int .i64 (r.2.2:Nat)]

def text (c:C)(n:Int):List UInt8×C×Nat :=
 if n<0 then([],c,1)else if c.left<n then([],c,4)else if c.tx<n then([],c,3)else(c.rest.take n.toNat,c.ahead n,0)
def HU (r:List UInt8×C×Nat):AV:=.tup [.str r.1,r.2.1.av,.int .i64 (r.2.2:Nat)]

def enter (c:C)(n:Int):C×Nat :=
 if n<0 then(c,1)else if c.left<n then(c,4)else if c.dp<1 then(c,17)else({ c with e:=IntKind.i64.wrap (c.a+n),dp:=IntKind.i64.wrap (c.dp-1) },0)

def J8 (c i:C):C :=
 if ¬c.sound=true∨i.e<c.a∨c.e<i.e∨i.nd<0∨c.nd<i.nd then c else { c with a:=i.e,nd:=i.nd }

theorem D5 {c:C}{b:UInt8}{t:List UInt8}(h:c.rest=b :: t):c.sound=true∧0≤c.a∧c.d[c.a.toNat]? = some b∧1≤c.left:=by
 have hs:c.sound=true:=by
  cases hs:c.sound with
  |true=>rfl
  |false=>rw[C.rest_no hs]at h;cases h
 have hh:=(C.sound_iff c).1 hs;rw[C.rest_of hs]at h;have h0:=congrArg (fun l=>l[0]?) h;simp only[QQf,QQg,QQC,QP7]at h0;have hl:=congrArg List.length h;simp only[QQw,QQh,QPP]at hl;refine⟨hs,hh.1,?_,?_⟩
 ·split at h0
  ·exact h0
  ·cases h0
 ·have:=c.rest_len;rw[QP5 hs]at this;omega

theorem QKY (c:C)(hl:c.d.length≤9223372036854775807):Qh Tryz.prog 147 [c.av] (US (Ze c)):=by
 refine Qd1.fn (by simp) ?_;simp only[C.av,eE,seval];refine Qa (D3 c hl) rfl rfl rfl (.inl rfl) ?_;unfold Ze;cases hr:c.rest with
 |nil=>
  have h0:c.left=0:=by unfold C.left;rw[hr]<;>rfl
  have d0:decide (c.left<1)=true:=by rw[h0]<;>rfl
  simp only[d0,US,C.av,eE,seval]
  try rfl
 |cons b t=>
  obtain⟨h1,h2,h3,h4⟩:=D5 hr;have d0:decide (c.left<1)=false:=by simp;omega
  have n1:(0≤c.a)=True:=eq_true h2;simp only[d0,n1,h3,eE,seval];refine Qa (CF c 1) rfl rfl rfl (.inl rfl) ?_;simp only[US,C.av,C.ahead,eE,seval]
  try rfl

theorem QKZ (c:C):Qh Tryz.prog 130 [c.av] (US (Ze c)):=by
 refine QJf.fn (by simp) ?_;simp only[C.av,eE,seval];refine Qa (Px c) rfl rfl rfl (.inl rfl) ?_;unfold Ze;cases hr:c.rest with
 |nil=>
  simp only[Q5,US,C.av,QQJ,eE,seval]
  try rfl
 |cons b t=>
  have d0:((b :: t)==[])=false:=rfl;simp only[Q5,d0,Int.toNat_zero,eE,seval];refine Qa (CG c 1) rfl rfl rfl (.inl rfl) ?_;simp only[US,C.av,C.ahead,eE,seval]
  try rfl

theorem QK0 (c:C)(n:Nat)(hs:c.sound=true)(hn:(n:Int)≤c.left)(hl:c.d.length≤9223372036854775807):Qh Tryz.prog 205 [c.av,.int .i64 (n:Int)] (.list (Xq (c.rest.take n))):=by
 have h:=(C.sound_iff c).1 hs;have hr:=c.rest_len;rw[QP5 hs]at hr;have e1:IntKind.i64.wrap (c.a+n)=c.a+n:=by rw[QB];omega
 have n1:(0≤c.a)=True:=eq_true h.1;have n2:(0≤c.a+(n:Int))=True:=eq_true (by omega);have n3:(c.a.toNat≤(c.a+(n:Int)).toNat∧(c.a+(n:Int)).toNat≤c.d.length)=True:=eq_true (by omega);have n0:(0≤(n:Int))=True:=by simp
 have ht:(c.d.drop c.a.toNat).take ((c.a+(n:Int)).toNat-c.a.toNat)=c.rest.take n:=by
  rw[C.rest_of hs,List.take_take];congr 1
  omega
 have hlen:(c.rest.take n).length=n:=by
  have:(c.rest.length:Int)=c.left:=rfl;rw[QQw];omega
 refine QHw.fn (by simp) ?_;simp only[e1,n1,n2,n3,ht,C.av,eE,seval];refine Rx rfl (by rw[hlen];omega) rfl ?_;have hb:(Xq (c.rest.take n)).length=n:=by rw[Xq,QQu,hlen]
 have n4:(0+0+(n-0)≤(Xq (c.rest.take n)).length)=True:=eq_true (by rw[hb];omega);have n5:(n≤n)=True:=eq_true (QPB n);have n6:(0≤n)=True:=eq_true (QPJ n);have h5:((Xq (c.rest.take n)).drop (0+0)).take (n-0)=Xq (c.rest.take n):=by
  simp only[QP7,QQj,QQy];exact QQa (by rw[hb];exact QPB _)
 simp only[n0,n4,n5,n6,hlen,QQ2,QRp,Bool.or_true,bne_self_eq_false,eE,seval];rw[QQa (by rw[hb];omega)]

theorem QK1 (c:C)(n:Int)(ha:TL c.a)(hl:c.d.length≤9223372036854775807):Qh Tryz.prog 183 [c.av,.int .i64 n] (HU (text c n)):=by
 refine QHq.fn (by simp) ?_;simp only[C.av,eE,seval];by_cases h1:n<0
 ·have d1:decide (n<0)=true:=by simpa using h1
  simp only[d1,eE,seval];rw[text,QP5 h1];rfl
 ·have d1:decide (n<0)=false:=by simpa using h1
  simp only[d1,eE,seval];refine Qa (D3 c hl) rfl rfl rfl (.inl rfl) ?_;by_cases h2:c.left<n
  ·have d2:decide (c.left<n)=true:=by simpa using h2
   simp only[d2,eE,seval];rw[text,QPO h1,QP5 h2];rfl
  ·have d2:decide (c.left<n)=false:=by simpa using h2
   by_cases h3:c.tx<n
   ·have d3:decide (c.tx<n)=true:=by simpa using h3
    simp only[d2,d3,eE,seval];rw[text,QPO h1,QPO h2,QP5 h3];rfl
   ·have d3:decide (c.tx<n)=false:=by simpa using h3
    by_cases h4:n=0
    ·subst h4;simp only[d2,d3,QQJ,eE,seval];rw[text,QPO h1,QPO h2,QPO h3];have e:IntKind.i64.wrap (c.a+0)=c.a:=by rw[QB];unfold TL at ha;omega
     simp only[HU,C.ahead,C.av,e,Int.toNat_zero,QQI];rfl
    ·have d4:(n==0)=false:=by simpa using h4
     simp only[d2,d3,d4,eE,seval];obtain⟨k,rfl⟩:=QRh (show 0≤n by omega);have hs:c.sound=true:=by
      have hr:=c.rest_len;split at hr
      ·assumption
      ·omega
     refine Qa (QK0 c k hs (by omega) hl) rfl rfl rfl (.inl rfl) ?_;have hb:=CE (c.rest.take k);have hb:bytesOf (Xq (c.rest.take k))=some (c.rest.take k):=hb;simp only[QY,hb,eE,seval];refine Qa (CF c (k:Int)) rfl rfl rfl (.inl rfl) ?_;rw[text,QPO h1,QPO h2,QPO h3];simp only[HU,C.av,C.ahead,QQ2,eE,seval]
     try rfl

theorem QK2 (c:C)(n:Int):Qh Tryz.prog 178 [c.av,.int .i64 n] (HU (text c n)):=by
 refine QJu.fn (by simp) ?_;simp only[C.av,eE,seval];refine Qa (Px c) rfl rfl rfl (.inl rfl) ?_;have hcl:(c.rest.length:Int)=c.left:=rfl;simp only[Qb,seval];by_cases h1:n<0
 ·have d1:decide (n<0)=true:=by simpa using h1
  simp only[d1,eE,seval];rw[text,QP5 h1];rfl
 ·have d1:decide (n<0)=false:=by simpa using h1
  by_cases h2:c.left<n
  ·have d2:decide (c.left<n)=true:=by simpa using h2
   simp only[d1,d2,hcl,eE,seval];rw[text,QPO h1,QP5 h2];rfl
  ·have d2:decide (c.left<n)=false:=by simpa using h2
   by_cases h3:c.tx<n
   ·have d3:decide (c.tx<n)=true:=by simpa using h3
    simp only[d1,d2,d3,hcl,eE,seval];rw[text,QPO h1,QPO h2,QP5 h3];rfl
   ·have d3:decide (c.tx<n)=false:=by simpa using h3
    have n0:(0≤n)=True:=eq_true (by omega);have n1:(0≤n.toNat∧n.toNat≤c.rest.length)=True:=eq_true (by omega);simp only[d1,d2,d3,hcl,n0,n1,QQy,eE,seval];refine Qa (CG c n) rfl rfl rfl (.inl rfl) ?_;rw[text,QPO h1,QPO h2,QPO h3];simp only[HU,C.av,C.ahead,eE,seval]
    try rfl

theorem QK3 (c:C)(n:Int)(hl:c.d.length≤9223372036854775807):Qh Tryz.prog 181 [c.av,.int .i64 n] (Z6 (enter c n)):=by
 refine QHk.fn (by simp) ?_;simp only[C.av,eE,seval];by_cases h1:n<0
 ·have d1:decide (n<0)=true:=by simpa using h1
  simp only[d1,eE,seval];rw[enter,QP5 h1];rfl
 ·have d1:decide (n<0)=false:=by simpa using h1
  simp only[d1,eE,seval];refine Qa (D3 c hl) rfl rfl rfl (.inl rfl) ?_;simp only[Qb,seval]
  repeat' (first|(refine QK (fun h=>?_) (fun h=>?_)<;>simp only[h,eE,seval])|(refine Xo (fun h=>?_) (fun h=>?_)<;>simp only[h,Qk,eE,seval])|(refine Xp (fun h=>?_) (fun h=>?_)<;>simp only[h,Qk,eE,seval]))
  all_goals((try simp only[QQW,QRr]at *)<;>unfold enter<;>(repeat' split)<;>first|rfl|(exfalso;omega))

theorem QK4 (c:C)(n:Int):Qh Tryz.prog 176 [c.av,.int .i64 n] (Z6 (enter c n)):=by
 refine QJi.fn (by simp) ?_;simp only[C.av,eE,seval];by_cases h1:n<0
 ·have d1:decide (n<0)=true:=by simpa using h1
  simp only[d1,eE,seval];rw[enter,QP5 h1];rfl
 ·have d1:decide (n<0)=false:=by simpa using h1
  simp only[d1,eE,seval];refine Qa (Vn c) rfl rfl rfl (.inl rfl) ?_;simp only[Qb,seval]
  repeat' (first|(refine QK (fun h=>?_) (fun h=>?_)<;>simp only[h,eE,seval])|(refine Xo (fun h=>?_) (fun h=>?_)<;>simp only[h,Qk,eE,seval])|(refine Xp (fun h=>?_) (fun h=>?_)<;>simp only[h,Qk,eE,seval]))
  all_goals((try simp only[QQW,QRr]at *)<;>unfold enter<;>(repeat' split)<;>first|rfl|(exfalso;omega))

theorem QK5 (c i:C):Qh Tryz.prog 182 [c.av,i.av] (J8 c i).av:=by
 refine QHn.fn (by simp) ?_;simp only[C.av,eE,seval];refine Qa (c88 c) rfl rfl rfl (.inl rfl) ?_;unfold J8;cases hs:c.sound with
 |false=>simp only[QPT,not_false_eq_true,true_or,eE,seval]
 |true=>
  simp only[eE,seval]
  repeat' (first|(refine QK (fun h=>?_) (fun h=>?_)<;>simp only[h,eE,seval])|(refine Xo (fun h=>?_) (fun h=>?_)<;>simp only[h,Qk,eE,seval])|(refine Xp (fun h=>?_) (fun h=>?_)<;>simp only[h,Qk,eE,seval]))
  all_goals((try simp only[QQW,QRr]at *)<;>(first|rw[QPO (by simp;omega)]|rw[QP5 (by simp;omega)]))

theorem QK6 (c i:C):Qh Tryz.prog 177 [c.av,i.av] (J8 c i).av:=by
 refine QJo.fn (by simp) ?_;simp only[C.av,eE,seval];refine Qa (Qta c) rfl rfl rfl (.inl rfl) ?_;unfold J8;cases hs:c.sound with
 |false=>simp only[QPT,not_false_eq_true,true_or,eE,seval]
 |true=>
  simp only[eE,seval]
  repeat' (first|(refine QK (fun h=>?_) (fun h=>?_)<;>simp only[h,eE,seval])|(refine Xo (fun h=>?_) (fun h=>?_)<;>simp only[h,Qk,eE,seval])|(refine Xp (fun h=>?_) (fun h=>?_)<;>simp only[h,Qk,eE,seval]))
  all_goals((try simp only[QQW,QRr]at *)<;>(first|rw[QPO (by simp;omega)]|rw[QP5 (by simp;omega)]))

open Up

theorem QK7 (w:Int):Qh Tryz.prog 175 [.int .i64 w] (.bool (We w)):=by
 refine QJJ.fn (by simp) ?_;simp only[Qb,seval]
 repeat' (first|(refine QK (fun h=>?_) (fun h=>?_)<;>simp only[h,eE,seval])|(refine Xo (fun h=>?_) (fun h=>?_)<;>simp only[h,Qk,eE,seval])|(refine Xp (fun h=>?_) (fun h=>?_)<;>simp only[h,Qk,Qb,seval]))
 all_goals simp_all[We]

theorem BA {u:Nat}(h:¬(u / 8<1∨65535<u / 8)):IntKind.i64.wrap (IntKind.u64.wrap ((u:Int).tdiv 8))=((u / 8:Nat):Int)∧IntKind.i64.wrap ((u:Int).tmod 8)=((u % 8:Nat):Int):=by
 have e1:(u:Int).tdiv 8=((u / 8:Nat):Int):=by rw[QRC (by omega)];omega
 have e2:(u:Int).tmod 8=((u % 8:Nat):Int):=by rw[QRB (by omega)];omega
 rw[e1,e2];simp only[XY,QB];omega

theorem c49 (c:C)(hl:c.d.length≤9223372036854770000):Qh Tryz.prog 49 [c.av] (Wv (Qz c)):=by
  refine k49.fn (by simp) ?_;simp only[C.av,eE,seval];refine Qa (Vo c hl) rfl rfl rfl (.inl rfl) ?_;have hv:=fun h=>XS (c:=c) (by omega) h
  unfold Qz;generalize c.varint=r at hv ⊢;obtain⟨u,d,e⟩:=r;simp only[X4,C.av,eE,seval]at hv ⊢;refine QK (fun h=>?_) (fun h=>?_)
  · have h:¬e=0:=by simpa using h
    simp only[h,Wv,C.av,eE,seval]
  · have h:e=0:=by simpa using h
    subst h;obtain⟨n,_,_,_,_,_,_,hu⟩:=hv rfl;have e1:(u:Int).tdiv 8=((u / 8:Nat):Int):=by rw[QRC (by omega)];omega
    have e2:(u:Int).tmod 8=((u % 8:Nat):Int):=by rw[QRB (by omega)];omega
    have e3:IntKind.u64.wrap ((u / 8:Nat):Int)=((u / 8:Nat):Int):=by rw[XY];omega
    simp only[e2,show(((8:Int)=0))=False from by simp,Qb,seval];refine QK (fun h=>?_) (fun h=>?_)
    · have h : u % 8 = 7:=by (have h : ((u % 8 : Nat) : Int) = 7:=(by simpa using h));omega
      simp only[h,Wv,C.av,eE,seval]
      try rfl
    · have h7 : ¬ u % 8 = 7:=by (have h : ¬ ((u % 8 : Nat) : Int) = 7:=(by simpa using h));omega
      simp only[e1,e3,show(((8:Int)=0))=False from by simp,Qb,seval];by_cases hb:u / 8<1∨65535<u / 8
      · repeat' (first|(refine QK (fun h=>?_) (fun h=>?_)<;>simp only[h,e1,e2,e3,show(((8:Int)=0))=False from by simp,eE,seval])|(refine Xo (fun h=>?_) (fun h=>?_)<;>simp only[h,Qk,e1,e2,e3,show(((8:Int)=0))=False from by simp,if_false,eE,seval])|(refine Xp (fun h=>?_) (fun h=>?_)<;>simp only[h,Qk,e1,e3,show(((8:Int)=0))=False from by simp,eE,seval]))
        all_goals first
          |(simp only[h7,hb,Wv,C.av,seval]<;>rfl)
          |(exfalso;simp only[QRr]at *;omega)
      · obtain⟨t1,t2⟩:=BA hb;rw[e1,e3]at t1;rw[e2]at t2;have d1:decide (((u / 8:Nat):Int)<1)=false:=by simp;omega
        have d2:decide (65535<((u / 8:Nat):Int))=false:=by simp;omega
        simp only[d1,d2,e1,e2,e3,t1,t2,show(((8:Int)=0))=False from by simp,eE,seval];simp only[h7,hb,Wv,C.av,seval]
        try rfl

theorem c74 (c:C)(hl:c.d.length≤9223372036854770000):Qh Tryz.prog 74 [c.av] (Wv (Qz c)):=by
  refine k74.fn (by simp) ?_;simp only[C.av,eE,seval];refine Qa (CH c) rfl rfl rfl (.inl rfl) ?_;have hv:=fun h=>XS (c:=c) (by omega) h
  unfold Qz;generalize c.varint=r at hv ⊢;obtain⟨u,d,e⟩:=r;simp only[X4,C.av,eE,seval]at hv ⊢;refine QK (fun h=>?_) (fun h=>?_)
  · have h:¬e=0:=by simpa using h
    simp only[h,Wv,C.av,eE,seval]
  · have h:e=0:=by simpa using h
    subst h;obtain⟨n,_,_,_,_,_,_,hu⟩:=hv rfl;have e1:(u:Int).tdiv 8=((u / 8:Nat):Int):=by rw[QRC (by omega)];omega
    have e2:(u:Int).tmod 8=((u % 8:Nat):Int):=by rw[QRB (by omega)];omega
    have e3:IntKind.u64.wrap ((u / 8:Nat):Int)=((u / 8:Nat):Int):=by rw[XY];omega
    simp only[e2,show(((8:Int)=0))=False from by simp,Qb,seval];refine QK (fun h=>?_) (fun h=>?_)
    · have h : u % 8 = 7:=by (have h : ((u % 8 : Nat) : Int) = 7:=(by simpa using h));omega
      simp only[h,Wv,C.av,eE,seval]
      try rfl
    · have h7 : ¬ u % 8 = 7:=by (have h : ¬ ((u % 8 : Nat) : Int) = 7:=(by simpa using h));omega
      simp only[e1,e3,show(((8:Int)=0))=False from by simp,Qb,seval];by_cases hb:u / 8<1∨65535<u / 8
      · repeat' (first|(refine QK (fun h=>?_) (fun h=>?_)<;>simp only[h,e1,e2,e3,show(((8:Int)=0))=False from by simp,eE,seval])|(refine Xo (fun h=>?_) (fun h=>?_)<;>simp only[h,Qk,e1,e2,e3,show(((8:Int)=0))=False from by simp,if_false,eE,seval])|(refine Xp (fun h=>?_) (fun h=>?_)<;>simp only[h,Qk,e1,e3,show(((8:Int)=0))=False from by simp,eE,seval]))
        all_goals first
          |(simp only[h7,hb,Wv,C.av,seval]<;>rfl)
          |(exfalso;simp only[QRr]at *;omega)
      · obtain⟨t1,t2⟩:=BA hb;rw[e1,e3]at t1;rw[e2]at t2;have d1:decide (((u / 8:Nat):Int)<1)=false:=by simp;omega
        have d2:decide (65535<((u / 8:Nat):Int))=false:=by simp;omega
        simp only[d1,d2,e1,e2,e3,t1,t2,show(((8:Int)=0))=False from by simp,eE,seval];simp only[h7,hb,Wv,C.av,seval]
        try rfl

theorem PA {c d:C}{u:Nat}(hl:c.d.length≤9223372036854770000)(hd:c.varint=(u,d,0))(hu:¬d.left<(u:Int)) :
  d.a+u≤d.d.length∧0≤d.a∧(u:Int)≤9223372036854770000∧d.d.length=c.d.length:=by
 obtain⟨n,h1,h2,h3,h4,h5,h6,h7⟩:=XS (c:=c) (by omega) (by rw[hd]);rw[hd]at h4 h6;simp only at h4 h6;have hs:=(C.sound_iff d).1 h6;have hr:=d.rest_len;rw[QP5 h6]at hr;have:d.d=c.d:=by rw[h4]
 have e:d.d.length=c.d.length:=by rw[this]
 omega

theorem Vq {c d:C}{u:Nat}(hl:c.d.length≤9223372036854770000)(hd:c.varint=(u,d,0)):d.d.length≤9223372036854770000:=by
 obtain⟨n,h1,h2,h3,h4,h5,h6,h7⟩:=XS (c:=c) (by omega) (by rw[hd]);rw[hd]at h4;simp only at h4;rw[h4];exact hl

theorem GJ (d:C):0≤d.left∧d.left≤(d.d.length:Int):=by
 have hr:=d.rest_len;have hs:=C.sound_iff d;split at hr
 ·rename_i h;have:=hs.1 h;omega
 ·omega

theorem QK8 (c:C)(w:Int)(hl:c.d.length≤9223372036854770000):Qh Tryz.prog 154 [c.av,.int .i64 w] (UK (Wf c w)):=by
  refine QG0.fn (by simp) ?_;simp only[C.av,eE,seval];refine Qa (Vo c hl) rfl rfl rfl (.inl rfl) ?_;have hdl:=fun u d h=>Vq (c:=c) (d:=d) (u:=u) hl h
  have hcut:=fun u d h hu=>PA (c:=c) (d:=d) (u:=u) hl h hu
  unfold Wf;generalize c.varint=r at hcut hdl ⊢;obtain⟨u,d,e⟩:=r;simp only[X4,C.av,eE,seval];refine QK (fun h=>?_) (fun h=>?_)
  · have h:¬e=0:=by simpa using h
    simp only[h,UK,C.av,eE,seval]
  · have h:e=0:=by simpa using h
    subst h;have hcut:=hcut u d rfl;have hdl:=hdl u d rfl;have hlf:=GJ d;have e0:IntKind.u64.wrap d.left=d.left:=by rw[XY];omega
    by_cases hw:w=3
    all_goals
      first
        |(have dw:(w==3)=true:=by rw[hw]<;>rfl)
        |(have dw:(w==3)=false:=by simpa using hw)
      simp only[dw,eE,seval];refine Qa (D3 d (by omega)) rfl rfl rfl (.inl rfl) ?_;by_cases hu:d.left<(u:Int)
      · have d1:decide (d.left<(u:Int))=true:=by simpa using hu
        simp only[e0,hu,UK,C.av,eE,seval]
        try rfl
      · have d1:decide (d.left<(u:Int))=false:=by simpa using hu
        obtain⟨k1,k2,k3,k4⟩:=hcut hu;have e1:IntKind.i64.wrap (u:Int)=u:=by rw[QB];omega
        have e2:IntKind.i64.wrap (d.a+(u:Int))=d.a+u:=by rw[QB];omega
        have n1:(0≤d.a)=True:=eq_true k2;have n2:(0≤d.a+(u:Int))=True:=eq_true (by omega);have n3:(d.a.toNat≤(d.a+(u:Int)).toNat∧(d.a+(u:Int)).toNat≤d.d.length)=True:=eq_true (by omega);have n4:(d.a+(u:Int)).toNat-d.a.toNat=u:=by omega
        first
          | (rw[QP5 hw]
             by_cases hm:c.tx<(u:Int)
             · have d2:decide (c.tx<(u:Int))=true:=by simpa using hm
               simp only[e0,e1,hu,hm,UK,C.av,eE,seval]
               try rfl
             · have d2:decide (c.tx<(u:Int))=false:=by simpa using hm
               simp only[e0,e1,e2,n1,n2,n3,n4,hu,hm,UK,C.av,C.ahead,eE,seval]
               try rfl)
          | (rw[QPO hw]
             by_cases hm:65536<(u:Int)
             · have d2:decide (65536<(u:Int))=true:=by simpa using hm
               simp only[e0,e1,hu,hm,UK,C.av,eE,seval]
               try rfl
             · have d2:decide (65536<(u:Int))=false:=by simpa using hm
               simp only[e0,e1,e2,n1,n2,n3,n4,hu,hm,UK,C.av,C.ahead,eE,seval]
               try rfl)

theorem c96 (c:C)(f:R)(s:Nat)(fr:Nat→Ob)(m:Qj)(hs:fr s=.cells f.av.cells)(hl:c.d.length≤9223372036854770000) :
  Qx Tryz.prog 96 [c.av,.ptr 0 s 0] (fr :: m) fun x m1=>x=Z6 (Zc c f).2∧m1=QI fr s (.cells (Zc c f).1.av.cells) :: m:=by
 refine k96.go (by simp) ?_;simp only[R.av,AV.cells]at hs;simp only[C.av,hs,eE,seval];by_cases h0:f.wire=0
 ·have d0:(f.wire==0)=true:=by simpa using h0
  simp only[d0,eE,seval];refine Qa (Vo c hl) rfl rfl rfl (.inl rfl) ?_;simp only[X4,hs,C.av,eE,seval];refine⟨?_,?_⟩
  ·simp only[Zc,Z6,h0,C.av,seval]
   try rfl
  ·simp only[Zc,h0,R.av,MX,seval]
   try rfl
 ·have d0:(f.wire==0)=false:=by simpa using h0
  by_cases h1:f.wire=1
  ·have d1:(f.wire==1)=true:=by simpa using h1
   simp only[d0,d1,eE,seval];refine Qa (Vo c hl) rfl rfl rfl (.inl rfl) ?_;simp only[X4,hs,C.av,eE,seval];refine⟨?_,?_⟩
   ·simp only[Zc,Z6,h1,C.av,seval]
    try rfl
   ·simp only[Zc,h1,R.av,MX,seval]
    try rfl
  ·have d1:(f.wire==1)=false:=by simpa using h1
   by_cases h2:f.wire=2
   ·have d2:(f.wire==2)=true:=by simpa using h2
    simp only[d0,d1,d2,eE,seval];refine Qa (Qtd c hl) rfl rfl rfl (.inl rfl) ?_;simp only[X4,hs,C.av,eE,seval];refine⟨?_,?_⟩
    ·simp only[Zc,Z6,h2,C.av,seval]
    ·simp only[Zc,h2,R.av,MX,seval]
   ·have d2:(f.wire==2)=false:=by simpa using h2
    have hc:Zc c f=({ f with data:=(Wf c f.wire).1 },(Wf c f.wire).2.1,(Wf c f.wire).2.2):=by
     simp only[Zc,h0,h1,h2,if_false,or_self]
    simp only[d0,d1,d2,hs,eE,seval];refine Qa (QK8 c f.wire hl) rfl rfl rfl (.inl rfl) ?_;rw[hc];simp only[UK,hs,C.av,eE,seval];exact⟨rfl,rfl⟩

theorem Vr {c:C}(hl:c.d.length≤9223372036854770000):(Qz c).2.2.1.d.length≤9223372036854770000:=by
 unfold Qz;simp only;split
 ·rename_i h0;split
  ·exact hl
  ·split
   ·exact hl
   ·obtain⟨n,_,_,_,h4,_⟩:=XS (c:=c) (by omega) h0;show c.varint.2.1.d.length≤_;rw[h4];exact hl
 ·exact hl

theorem D6 {c:C}{n:Int}(hl:c.d.length≤9223372036854770000):(c.spend n).1.d.length≤9223372036854770000:=by
 unfold C.spend;split
 ·exact hl
 ·split<;>exact hl

theorem c51 (c:C)(hl:c.d.length≤9223372036854770000):Qh Tryz.prog 51 [c.av] (ZV (XH c)):=by
 refine k51.fn (by simp) ?_;simp only[C.av,eE,seval];refine Qa (c49 c hl) rfl rfl rfl (.inl rfl) ?_;have htl:=Vr hl;unfold XH;generalize Qz c=t at htl ⊢;obtain⟨num,wire,d,e⟩:=t;simp only[Wv,C.av,eE,seval]at htl ⊢;by_cases he:e=0
 ·subst he;simp only[eE,seval];refine Qa (c47 d 1) rfl rfl rfl (.inl rfl) ?_;have hsl:=D6 (n:=1) htl;generalize d.spend 1=sp at hsl ⊢;obtain⟨d2,e2⟩:=sp;simp only[Z6,C.av,eE,seval]at hsl ⊢;by_cases he2:e2=0
  ·subst he2;simp only[eE,seval];refine QU (c96 d2 ⟨num,wire,0,[]⟩ 9 _ _ ?_ hsl) rfl ?_
   ·simp only[R.av,eE,seval]
    try rfl
   ·generalize Zc d2 ⟨num,wire,0,[]⟩=k;obtain⟨f,d3,e3⟩:=k;simp only[Z6,C.av,R.av,eE,seval];by_cases he3:e3=0
    ·subst he3;simp only[ZV,R.av,C.av,eE,seval]
     try rfl
    ·simp only[Qu he3,he3,ZV,zr,R.av,C.av,eE,seval]
     try rfl
  ·simp only[Qu he2,he2,ZV,zr,R.av,C.av,eE,seval]
   try rfl
 ·simp only[Qu he,he,ZV,zr,R.av,C.av,eE,seval]
  try rfl

def Ua (c:C)(f:R):R×C×Nat :=
 if f.wire=2 then({ f with bits:=c.fixed.1 },c.fixed.2.1,c.fixed.2.2)
 else if c.varint.2.2≠0∨We f.wire=true then({ f with bits:=c.varint.1 },c.varint.2.1,c.varint.2.2)
 else if c.varint.2.1.left<(c.varint.1:Int)then(f,c,4)
 else if (f.wire=3∧c.varint.2.1.tx<(c.varint.1:Int))∨(f.wire≠3∧65536<c.varint.1)then(f,c,3)
 else({ f with data:=(c.varint.2.1.d.drop c.varint.2.1.a.toNat).take c.varint.1 },c.varint.2.1.ahead c.varint.1,0)

theorem QK9 (c:C)(f:R)(hl:c.d.length≤9223372036854770000):Qh Tryz.prog 123 [f.av,c.av] (ZV (Ua c f)):=by
 refine QJG.fn (by simp) ?_;simp only[C.av,R.av,eE,seval];by_cases h2:f.wire=2
 ·have d2:(f.wire==2)=true:=by simpa using h2
  simp only[d2,eE,seval];refine Qa (Qte c) rfl rfl rfl (.inl rfl) ?_;simp only[X4,ZV,Ua,h2,C.av,R.av,eE,seval]
 ·have d2:(f.wire==2)=false:=by simpa using h2
  simp only[d2,eE,seval];refine Qa (CH c) rfl rfl rfl (.inl rfl) ?_;have hcut:=fun u d h hu=>PA (c:=c) (d:=d) (u:=u) hl h hu
  have hdl:=fun u d h=>Vq (c:=c) (d:=d) (u:=u) hl h
  unfold Ua;generalize c.varint=r at hcut hdl ⊢;obtain⟨u,d,e⟩:=r;simp only[X4,C.av,eE,seval];by_cases he:e=0
  ·subst he;simp only[eE,seval];refine Qa (QK7 f.wire) rfl rfl rfl (.inl rfl) ?_;cases hn:We f.wire with
   |true=>simp only[ZV,R.av,C.av,h2,or_true,eE,seval]
   |false=>
    have hdl:=hdl u d rfl;have hlf:=GJ d;have e0:IntKind.u64.wrap d.left=d.left:=by rw[XY];omega
    simp only[eE,seval];refine Qa (Vn d) rfl rfl rfl (.inl rfl) ?_;have hcut:=hcut u d rfl;by_cases hu:d.left<(u:Int)
    ·simp only[e0,hu,ZV,R.av,C.av,h2,or_self,eE,seval]
     try rfl
    ·obtain⟨k1,k2,k3,k4⟩:=hcut hu;have e1:IntKind.i64.wrap (u:Int)=u:=by rw[QB];omega
     have e2:IntKind.i64.wrap (d.a+(u:Int))=d.a+u:=by rw[QB];omega
     have n1:(0≤d.a)=True:=eq_true k2;have n2:(0≤d.a+(u:Int))=True:=eq_true (by omega);have n3:(d.a.toNat≤(d.a+(u:Int)).toNat∧(d.a+(u:Int)).toNat≤d.d.length)=True:=eq_true (by omega);have n4:(d.a+(u:Int)).toNat-d.a.toNat=u:=by omega
     have d1:decide (d.left<(u:Int))=false:=by simpa using hu
     simp only[e0,d1,eE,seval];by_cases hw:f.wire=3
     ·have dw:(f.wire==3)=true:=by simpa using hw
      by_cases hm:d.tx<(u:Int)
      ·have d2:decide (d.tx<(u:Int))=true:=by simpa using hm
       simp only[e1,hu,hm,hw,QQJ,ZV,R.av,C.av,or_self,true_or,eE,seval]
       try rfl
      ·have d2:decide (d.tx<(u:Int))=false:=by simpa using hm
       simp only[e1,e2,n1,n2,n3,n4,hu,hm,hw,QQJ,bne_self_eq_false,ZV,R.av,C.av,C.ahead,or_self,and_false,false_and,eE,seval]
       try rfl
     ·have dw:(f.wire==3)=false:=by simpa using hw
      have dw':(f.wire != 3)=true:=by simpa using hw
      by_cases hm:65536<(u:Int)
      ·have d2:decide (65536<(u:Int))=true:=by simpa using hm
       have hm':65536<u:=by omega
       simp only[dw,dw',d2,hu,hm',hw,h2,ZV,R.av,C.av,or_self,or_true,false_and,and_self,eE,seval]
       try rfl
      ·have d2:decide (65536<(u:Int))=false:=by simpa using hm
       have hm':¬65536<u:=by omega
       simp only[dw,dw',d2,e1,e2,n1,n2,n3,n4,hu,hm',hw,h2,ZV,R.av,C.av,C.ahead,or_self,and_false,false_and,eE,seval]
       try rfl
  ·simp only[Qu he,he,h2,ZV,R.av,C.av,true_or,eE,seval]

theorem CM (c:C)(f:R)(hl:c.d.length≤9223372036854770000):(Ua c f).2.2=(Zc c f).2.2∧((Zc c f).2.2=0→Ua c f=Zc c f):=by
 unfold Ua Zc Wf;by_cases h2:f.wire=2
 ·simp[h2]
 ·by_cases hv:c.varint.2.2=0
  ·obtain⟨n,_,_,_,h4,_⟩:=XS (c:=c) (by omega) hv;have htx:c.varint.2.1.tx=c.tx:=by rw[h4]
   by_cases hn:f.wire=0∨f.wire=1
   ·have:We f.wire=true:=by rcases hn with h|h<;>simp[We,h]
    simp[h2,hn,this]
   ·have:We f.wire=false:=by
     simp only[not_or]at hn;simp[We,hn.1,hn.2,h2]
    simp only[h2,hn,hv,this,htx,ne_eq,not_true_eq_false,or_self,if_false,if_true,QPT];by_cases hu:c.varint.2.1.left<(c.varint.1:Int)
    ·simp[hu]
    ·simp only[hu,if_false];by_cases hw:f.wire=3
     ·by_cases hm:c.tx<(c.varint.1:Int)<;>simp[hw,hm]
     ·by_cases hm:65536<c.varint.1
      ·have hm':(65536:Int)<(c.varint.1:Int):=by omega
       simp[hw,hm,hm']
      ·have hm':¬(65536:Int)<(c.varint.1:Int):=by omega
       simp[hw,hm,hm']
  ·simp only[h2,hv,ne_eq,not_false_eq_true,true_or,if_true,if_false];by_cases hn:f.wire=0∨f.wire=1
   ·simp[hn]
   ·simp[hn,hv]

theorem c76 (c:C)(hl:c.d.length≤9223372036854770000):Qh Tryz.prog 76 [c.av] (ZV (XH c)):=by
 refine k76.fn (by simp) ?_;simp only[C.av,eE,seval];refine Qa (c74 c (by omega)) rfl rfl rfl (.inl rfl) ?_;have htl:=Vr hl;unfold XH;generalize Qz c=t at htl ⊢;obtain⟨num,wire,d,e⟩:=t;simp only[Wv,C.av,eE,seval]at htl ⊢;by_cases he:e=0
 ·subst he;simp only[eE,seval];refine Qa (D2 d 1) rfl rfl rfl (.inl rfl) ?_;have hsl:=D6 (n:=1) htl;generalize d.spend 1=sp at hsl ⊢;obtain⟨d2,e2⟩:=sp;simp only[Z6,C.av,eE,seval]at hsl ⊢;by_cases he2:e2=0
  ·subst he2;simp only[eE,seval];refine Qa (QK9 d2 ⟨num,wire,0,[]⟩ hsl) rfl rfl rfl (.inl rfl) ?_;obtain⟨q1,q2⟩:=CM d2 ⟨num,wire,0,[]⟩ hsl;generalize Zc d2 ⟨num,wire,0,[]⟩=k at q1 q2 ⊢;generalize Ua d2 ⟨num,wire,0,[]⟩=rk at q1 q2 ⊢;obtain⟨f,d3,e3⟩:=k;obtain⟨rf,rd3,re3⟩:=rk;simp only at q1 q2;subst q1;by_cases he3:re3=0
   ·have q2:=q2 he3;simp only[Prod.mk.injEq]at q2;obtain⟨rfl,rfl,_⟩:=q2;subst he3;simp only[ZV,R.av,C.av,eE,seval]
    try rfl
   ·simp only[Qu he3,he3,ZV,zr,R.av,C.av,eE,seval]
    try rfl
  ·simp only[Qu he2,he2,ZV,zr,R.av,C.av,eE,seval]
   try rfl
 ·simp only[Qu he,he,ZV,zr,R.av,C.av,eE,seval]
  try rfl

end Go.Proofs.YtfgchfdkiomfpaaGreat.Va

namespace Go.Proofs.YtfgchfdkiomfpaaGreat.Va
open Go Am Rc Bt

def BB (u:Int):Int:=if u % 2=0 then u / 2 else -(u / 2)-1

theorem QLa (u:Int)(h0:0≤u)(h1:u<18446744073709551616):Qh Tryz.prog 185 [.int .u64 u] (.int .i64 (BB u)):=by
 refine QfM.fn (by simp) ?_;simp only[Zq,seval];congr 1
 simp only[show min 1 64=1 from rfl,Np u h0 h1,QB,BB,Int.fdiv_eq_ediv_of_nonneg _ (show(0:Int)≤2 ^ 1 by decide)];by_cases h:u % 2=0
 ·rw[h,QP5 rfl];rw[show(0-((0+9223372036854775808) % 18446744073709551616-9223372036854775808)+9223372036854775808) % 18446744073709551616-9223372036854775808=(0:Int)by decide];rw[Bd _ (by omega) (by omega)];omega
 ·have h':u % 2=1:=by omega
  rw[h',QPO (by decide)];rw[show(0-((1+9223372036854775808) % 18446744073709551616-9223372036854775808)+9223372036854775808) % 18446744073709551616-9223372036854775808=(-1:Int)by decide];rw[Be _ (by omega) (by omega)];omega

theorem QLb (u:Int)(h0:0≤u)(h1:u<18446744073709551616):Qh Tryz.prog 179 [.int .u64 u] (.int .i64 (BB u)):=by
 refine QJc.fn (by simp) ?_;simp only[Zq,seval];rw[QRB h0];refine QK (fun h=>?_) (fun h=>?_)<;>simp only[Zq,seval]<;>rw[QRC h0]
 ·have h:u % 2=0:=by simpa using h
  congr 1
  simp only[XY,QB,BB,QP5 h];omega
 ·have h:¬u % 2=0:=by simpa using h
  congr 1
  simp only[XY,QB,BB,QPO h];omega

open Br Up So Vp Cp

abbrev Rd (α:Type):=Except Nat (α×C)

def JX (c:C)(n:Int):Except Nat C:=if (c.spend n).2=0 then .ok (c.spend n).1 else .error (c.spend n).2
def Jd (c:C):Rd Nat :=
 if c.varint.2.2=0 then(if c.varint.2.1.left<(c.varint.1:Int)then .error 4 else .ok (c.varint.1,c.varint.2.1))else .error c.varint.2.2
def Kp (w:Int)(c:C):Rd R :=
 if w=3 then match Jd c with
  |.error e=>.error e
  |.ok (n,d)=>if (text d n).2.2=0 then .ok (⟨0,w,0,(text d n).1⟩,(text d n).2.1)else .error (text d n).2.2
 else if w=2 then(if c.fixed.2.2=0 then .ok (⟨0,w,c.fixed.1,[]⟩,c.fixed.2.1)else .error c.fixed.2.2)
 else if c.varint.2.2=0 then .ok (⟨0,w,c.varint.1,[]⟩,c.varint.2.1)else .error c.varint.2.2

def Xu (w:Int)(b:Nat):Nat:=if w=1 then(IntKind.u64.wrap (BB b)).toNat else b
def Qs (k:Int)(b:Nat)(t:List UInt8):V:=.mk k b t [] [] [] []
def Xb (P:PL)(k t:Int)(f:R):V×Nat :=
 if isk k=true then
  if f.wire=wk k then
   if f.wire=3 then(if k=7∧YD f.data=false then(Qs 0 0 [],7)else(Qs k 0 f.data,0))
   else if Jf k (Xu f.wire f.bits)=true then
    (if k=9∧Jb P.enums t (Xu f.wire f.bits)=false then(Qs 0 0 [],16)else(Qs k (ZE k (Xu f.wire f.bits)) [],0))
   else(Qs 0 0 [],6)
  else(Qs 0 0 [],13)
 else(Qs 0 0 [],12)

def Q8 (l:List V):V:=.mk 11 0 [] l [] [] []
def Z7 (p:List (V×V)):V:=.mk 12 0 [] [] p [] []
def Xk (v:V)(n:Int):Option V:=(v.slots.find? fun s=>s.1==n).map Prod.snd
def QL (v:V)(n:Int):V:=(Xk v n).getD (Qs 0 0 [])
def Xv (g:PG)(o:PO)(s:Int×V):Bool:=s.1==o.num||(match XL g s.1 with
 |some q=>decide (o.union≥0)&&q.union==o.union
 |none=>false)
def Xi (g:PG)(v:V)(o:PO)(x:V):V:=.mk 10 0 [] [] [] (v.slots.filter (fun s=>!Xv g o s)++[(o.num,x)]) v.raws
def Wh (v:V)(f:R):V:=.mk v.kd v.bits v.text v.list v.pairs v.slots (v.raws++[f])

def WY (P:PL)(g:PG)(v:V)(o:PO)(c:C):Rd V :=
 match JX c 1 with
 |.error e=>.error e
 |.ok c1=>match Kp (wk o.kind) c1 with
  |.error e=>.error e
  |.ok (f,d)=>
   if (Xb P o.kind o.target f).2=16 then .ok (Wh v ⟨o.num,0,f.bits,[]⟩,d)
   else if (Xb P o.kind o.target f).2=0 then
    if o.card=4 then
     if (Xk v o.num).isSome=true then .ok (Xi g v o (Q8 ((QL v o.num).list++[(Xb P o.kind o.target f).1])),d)
     else match JX d 1 with
      |.error e=>.error e
      |.ok d1=>.ok (Xi g v o (Q8 ((QL v o.num).list++[(Xb P o.kind o.target f).1])),d1)
    else .ok (Xi g v o (Xb P o.kind o.target f).1,d)
   else .error (Xb P o.kind o.target f).2

section
variable (rec:Int→V→C→Rd V)
def Je (t:Int)(b:V)(k:Int)(c:C):Rd V :=
 match Jd c with
 |.error e=>.error e
 |.ok (n,d)=>
  if (enter d n).2=0 then
   match JX (enter d n).1 k with
   |.error e=>.error e
   |.ok i=>match rec t b i with
    |.error e=>.error e
    |.ok (x,j)=>.ok (x,J8 d j)
  else .error (enter d n).2
def Jx (g:PG)(v:V)(o:PO)(c:C):Rd V :=
 if o.card=4 then
  match Je rec o.target (Qs 10 0 []) (if (Xk v o.num).isSome=true then 1 else 2) c with
  |.error e=>.error e
  |.ok (x,d)=>.ok (Xi g v o (Q8 ((QL v o.num).list++[x])),d)
 else
  match Je rec o.target (if (Xk v o.num).isSome=true then QL v o.num else Qs 10 0 []) 1 c with
  |.error e=>.error e
  |.ok (x,d)=>.ok (Xi g v o x,d)
end

def part (c:C)(n:Nat):C:={ c with e:=IntKind.i64.wrap (c.a+n) }
def X0 (c i:C):C:={ c with a:=i.e,nd:=i.nd }
def K7 (P:PL)(g:PG)(o:PO):Nat→V→C→Rd V
 |0,v,c=>.ok (v,c)
 |k+1,v,c=>if 0<c.left then(match WY P g v o c with
   |.error e=>.error e
   |.ok (w,d)=>K7 P g o k w d)else .ok (v,c)
def Wi (P:PL)(g:PG)(v:V)(o:PO)(d:C)(i:C):Rd V :=
 match K7 P g o i.left.toNat v i with
 |.error e=>.error e
 |.ok (w,j)=>.ok (w,X0 d j)
def Yj (P:PL)(g:PG)(v:V)(o:PO)(c:C):Rd V :=
 match Jd c with
 |.error e=>.error e
 |.ok (n,d)=>
  if (Ze (part d n)).2.2=0 then
   if (Ze (part d n)).1=wk o.kind then
    if (Xk v o.num).isSome=true then Wi P g v o d (Ze (part d n)).2.1
    else match JX (Ze (part d n)).2.1 1 with
     |.error e=>.error e
     |.ok i=>Wi P g (Xi g v o (Q8 [])) o d i
   else .error 13
  else .error (Ze (part d n)).2.2

def XA (k:Int)(l:List (V×V))(x:V×V):List (V×V):=QV k ((l.filter fun q=>!Q2 q.1 x.1)++[x])

section
variable (P:PL)(rec:Int→V→C→Rd V)
def ZG (k t w:Int)(c:C):Rd V :=
 if w=wk k then
  if k=10 then Je rec t (Qs 10 0 []) 0 c
  else match Kp w c with
   |.error e=>.error e
   |.ok (f,d)=>if (Xb P k t f).2=0 then .ok ((Xb P k t f).1,d)else .error (Xb P k t f).2
 else .error 13
def Jj (o:PO):Nat→V×V→Bool→Bool→C→Rd (V×V)
 |0,x,_,_,c=>.ok (x,c)
 |n+1,x,a,b,c=>
  if 0<c.left then
   if (Qz c).2.2.2=0 then
    if (Qz c).1=1 then
     if a=true then .error 9
     else match ZG P rec o.key (-1) (Qz c).2.1 (Qz c).2.2.1 with
      |.error e=>.error e
      |.ok (y,d)=>Jj o n (y,x.2) true b d
    else if (Qz c).1=2 then
     if b=true then .error 9
     else match ZG P rec o.kind o.target (Qz c).2.1 (Qz c).2.2.1 with
      |.error e=>.error e
      |.ok (y,d)=>Jj o n (x.1,y) a true d
    else .error 18
   else .error (Qz c).2.2.2
  else .ok (x,c)
def Jm (g:PG)(v:V)(o:PO)(c:C):Rd V :=
 match Jd c with
 |.error e=>.error e
 |.ok (n,d)=>match JX (part d n) (if (Xk v o.num).isSome=true then 2 else 3)with
  |.error e=>.error e
  |.ok i=>match Jj P rec o i.left.toNat (Qs o.key 0 [],Qs o.kind 0 []) false false i with
   |.error e=>.error e
   |.ok (x,j)=>.ok (Xi g v o (Z7 (XA o.key (QL v o.num).pairs x)),X0 d j)
def J9 (g:PG)(v:V)(o:PO)(w:Int)(c:C):Rd V :=
 if o.card=5 then(if w=6 then Jm P rec g v o c else .error 13)
 else if w=5∧pk o.card o.kind=true then Yj P g v o c
 else if w=wk o.kind then(if o.kind=10 then Jx rec g v o c else WY P g v o c)
 else .error 13
end

def Zw (P:PL)(rec:Int→V→C→Rd V)(t:Int):Nat→V→C→Rd V
 |0,v,c=>.ok (v,c)
 |k+1,v,c=>
  if 0<c.left then
   if (Qz c).2.2.2=0 then
    match XL (Qn P t) (Qz c).1 with
    |none=>if (XH c).2.2=0 then Zw P rec t k (Wh v (XH c).1) (XH c).2.1 else .error (XH c).2.2
    |some o=>match J9 P rec (Qn P t) v o (Qz c).2.1 (Qz c).2.2.1 with
     |.error e=>.error e
     |.ok (w,d)=>Zw P rec t k w d
   else .error (Qz c).2.2.2
  else .ok (v,c)
def Yu (P:PL):Nat→Int→V→C→Rd V
 |0,_,v,c=>.ok (v,c)
 |n+1,t,v,c=>Zw P (Yu P n) t c.left.toNat v c

end Go.Proofs.YtfgchfdkiomfpaaGreat.Va

namespace Go.Proofs.YtfgchfdkiomfpaaGreat.Va
open Go Am Rc Bt Vp Cp Up

theorem Ub {c:C}(hl:c.d.length≤9223372036854775807)(h:c.fixed.2.2=0):c.sound=true∧8≤c.left∧c.fixed.2.1={ c with a:=c.a+8 }∧c.fixed.1<2 ^ 64:=by
 unfold C.fixed at h ⊢;split at h
 ·cases h
 ·rename_i hr;have hne:c.rest≠[]:=by intro e;rw[e]at hr;simp at hr
  have hs:=Bq hne;have hs':=(C.sound_iff c).1 hs;have hle:=c.rest_len;rw[QP5 hs]at hle;have h8:8≤c.left:=by unfold C.left;omega
  have hw:IntKind.i64.wrap (c.a+8)=c.a+8:=by rw[QB];omega
  refine⟨hs,h8,?_,?_⟩
  ·rw[QPO hr];simp only[C.ahead,hw]
  ·rw[QPO hr];have h1:=HT (c.rest.take 8);rw[QQw,QQP (by omega)]at h1;have:(256:Nat) ^ 8=2 ^ 64:=by decide
   show UJ c.rest<2 ^ 64;unfold UJ;omega

structure Step (c d:C):Prop where
 n:∃k:Nat,d={ c with a:=c.a+k,nd:=d.nd }∧0<k∧(k:Int)≤c.left
 sound:c.sound=true

theorem Step.left {c d:C}(h:Step c d):d.sound=true∧d.left<c.left∧0≤d.left∧d.d=c.d∧d.left=c.left-(d.a-c.a):=by
 obtain⟨⟨k,h1,h2,h3⟩,h4⟩:=h;have hs:=(C.sound_iff c).1 h4;have hc:=c.rest_len;rw[QP5 h4]at hc;have e1:d.a=c.a+k:=by rw[h1]
 have e2:d.e=c.e:=by rw[h1]
 have e3:d.d=c.d:=by rw[h1]
 have hd:d.sound=true:=by
  rw[C.sound_iff,e1,e2,e3];omega
 have hdl:=d.rest_len;rw[QP5 hd]at hdl;exact⟨hd,by omega,by omega,e3,by omega⟩

theorem Sc {c:C}(hl:c.d.length≤9223372036854770000)(h:(XH c).2.2=0):Step c (XH c).2.1:=by
 unfold XH at h ⊢;simp only at h ⊢;split at h
 ·rename_i ht;split at h
  ·rename_i hs;split at h
   ·rename_i hk;rw[QP5 ht,QP5 hs,QP5 hk]
    -- the tag
    unfold Qz at ht hs hk ⊢;simp only at ht hs hk ⊢;split at ht
    ·rename_i hv;rw[QP5 hv]at hs hk ⊢;split at ht
     ·cases ht
     ·rename_i h7;rw[QPO h7]at hs hk ⊢;split at ht
      ·cases ht
      ·rename_i h8;rw[QPO h8]at hs hk ⊢;simp only at hs hk ⊢;obtain⟨n,g1,g2,g3,g4,g5,g6,g7⟩:=XS (c:=c) (by omega) hv;rw[g4]at hs hk ⊢;have hsc:=(C.sound_iff c).1 g5;have hcl:=c.rest_len;rw[QP5 g5]at hcl
       -- the value spent
       unfold C.spend at hs hk ⊢;split at hs
       ·cases hs
       ·rename_i s1;rw[QPO s1]at hk ⊢;split at hs
        ·cases hs
        ·rename_i s2;rw[QPO s2]at hk ⊢;simp only at hk ⊢;generalize hd:({ d:=c.d,a:=c.a+n,e:=c.e,dp:=c.dp,nd:=IntKind.i64.wrap (c.nd-1),tx:=c.tx }:C)=d at hk ⊢;have q1:d.d=c.d:=by rw[←hd]
         have q2:d.a=c.a+n:=by rw[←hd]
         have q3:d.e=c.e:=by rw[←hd]
         have q4:d.dp=c.dp:=by rw[←hd]
         have q5:d.tx=c.tx:=by rw[←hd]
         have hdl:d.left≤c.left-n:=by
          have:=d.rest_len;split at this
          ·omega
          ·omega
         have mk:∀(d':C) (j:Nat),d'={ d with a:=d.a+j }→(j:Int)≤d.left→Step c d':=by
          intro d' j e hj;refine⟨⟨n+j,?_,by omega,by omega⟩,g5⟩;rw[e];obtain⟨_,_,_,_,_,_⟩:=d;simp only at q1 q2 q3 q4 q5;subst q1 q2 q3 q4 q5;simp only[C.mk.injEq,true_and,and_true];omega
         -- the contents
         unfold Zc at hk ⊢;split at hk
         ·rename_i w2;rw[QP5 w2];obtain⟨f1,f2,f3,f4⟩:=Ub (c:=d) (by rw[q1];omega) hk;exact mk _ 8 f3 f2
         ·rename_i w2;rw[QPO w2];split at hk
          ·rename_i w1;rw[QP5 w1];obtain⟨j,f1,f2,f3,f4,f5,f6,f7⟩:=XS (c:=d) (by rw[q1];omega) hk;exact mk _ j f4 f3
          ·rename_i w1;rw[QPO w1];simp only at hk ⊢;unfold Wf at hk ⊢;simp only at hk ⊢;split at hk
           ·rename_i hv2;rw[QP5 hv2];by_cases hu:d.varint.2.1.left<(d.varint.1:Int)
            ·rw[QP5 hu]at hk;cases hk
            ·rw[QPO hu]at hk ⊢;by_cases hm:(if ((c.varint.1 % 8:Nat):Int)=3 then d.tx else 65536)<(d.varint.1:Int)
             ·rw[QP5 hm]at hk;cases hk
             ·rw[QPO hm];obtain⟨j,f1,f2,f3,f4,f5,f6,f7⟩:=XS (c:=d) (by rw[q1];omega) hv2;have hs2:=(C.sound_iff d).1 f5;have hl2:=d.rest_len;rw[QP5 f5]at hl2;have hl3:=d.varint.2.1.rest_len;rw[QP5 f6,f4]at hl3;rw[f4]at hu;simp only at hl3;have hdl':(d.d.length:Int)=c.d.length:=by rw[q1]
              have hw:IntKind.i64.wrap (d.a+(j:Int)+(d.varint.1:Int))=d.a+j+d.varint.1:=by
               rw[QB];omega
              refine mk _ (j+d.varint.1) ?_ (by omega);rw[f4];simp only[C.ahead,hw,C.mk.injEq,true_and,and_true];omega
           ·rename_i hv2;exact absurd hk hv2
    ·rename_i hv;exact absurd ht hv
   ·rename_i hk;exact absurd h hk
  ·rename_i hs;exact absurd h hs
 ·rename_i ht;exact absurd h ht

open Br So

structure CI (c:C):Prop where
 len:c.d.length≤3000
 snd:c.sound=true
 nd:0≤c.nd∧c.nd<9223372036854775808
 dp:0≤c.dp∧c.dp<9223372036854775808
structure Af (c d:C):Prop where
 n:∃k:Nat,d={ c with a:=c.a+k,nd:=d.nd }∧(k:Int)≤c.left
 nd:0≤d.nd∧d.nd≤c.nd

theorem CI.pos {c:C}(h:CI c):0≤c.a∧c.a≤c.e∧c.e≤(c.d.length:Int):=(C.sound_iff c).1 h.snd
theorem CI.lf {c:C}(h:CI c):c.left=c.e-c.a:=by
 have:=c.rest_len
 rwa [QP5 h.snd]at this
theorem CI.big {c:C}(h:CI c):c.d.length≤9223372036854770000:=QPC h.len (by decide)
theorem CI.big' {c:C}(h:CI c):c.d.length≤9223372036854775807:=QPC h.len (by decide)
theorem CI.inr {c:C}(h:CI c):TL c.a:=by
 have:=h.pos;have:=h.len;unfold TL;omega
theorem CI.bd {c:C}(h:CI c):0≤c.left∧c.left≤3000:=by
 have:=h.pos;have:=h.len;rw[h.lf];omega
theorem CN {c:C}(h1:c.d.length≤3000)(h2:0≤c.a∧c.a≤c.e∧c.e≤(c.d.length:Int))(h3:0≤c.nd∧c.nd<9223372036854775808)(h4:0≤c.dp∧c.dp<9223372036854775808):CI c:=⟨h1,(C.sound_iff c).2 h2,h3,h4⟩

theorem Af.eqs {c d:C}(h:Af c d):d.d=c.d∧d.e=c.e∧d.dp=c.dp∧d.tx=c.tx∧∃k:Nat,d.a=c.a+k∧(k:Int)≤c.left:=by
 obtain⟨⟨k,e,hk⟩,_⟩:=h;refine⟨by rw[e],by rw[e],by rw[e],by rw[e],k,by rw[e],hk⟩
theorem Af.ci {c d:C}(h:Af c d)(hc:CI c):CI d:=by
 obtain⟨e1,e2,e3,_,k,e5,hk⟩:=h.eqs;have:=hc.pos;have:=hc.lf;have:=hc.nd;have:=h.nd;exact CN (by rw[e1];exact hc.len) (by rw[e1,e2,e5];omega) (by omega) (by rw[e3];exact hc.dp)
theorem Af.left {c d:C}(h:Af c d)(hc:CI c):d.left=c.left-(d.a-c.a)∧c.a≤d.a∧d.left≤c.left:=by
 obtain⟨e1,e2,e3,_,k,e5,hk⟩:=h.eqs;rw[(h.ci hc).lf,hc.lf];omega
theorem K8 {c d:C}(hc:CI c)(h1:d.d=c.d)(h2:d.e=c.e)(h3:d.dp=c.dp)(h4:d.tx=c.tx)(h5:c.a≤d.a∧d.a≤c.e)(h6:0≤d.nd∧d.nd≤c.nd):Af c d:=by
 refine⟨⟨(d.a-c.a).toNat,?_,by rw[hc.lf];omega⟩,h6⟩;obtain⟨_,_,_,_,_,_⟩:=d;simp only at h1 h2 h3 h4 h5;subst h1 h2 h3 h4;simp only[C.mk.injEq,true_and,and_true];omega
theorem Af.refl {c:C}(hc:CI c):Af c c:=by
 have:=hc.pos;have:=hc.nd;exact K8 hc rfl rfl rfl rfl (by omega) (by omega)
theorem Af.trans {c d i:C}(h:Af c d)(g:Af d i)(hc:CI c):Af c i:=by
 obtain⟨e1,e2,e3,e4,k,e5,hk⟩:=h.eqs;obtain⟨f1,f2,f3,f4,l,f5,hl⟩:=g.eqs;have:=(h.ci hc).lf;have:=h.nd;have:=g.nd;have:=hc.pos;exact K8 hc (by rw[f1,e1]) (by rw[f2,e2]) (by rw[f3,e3]) (by rw[f4,e4]) (by omega) (by omega)
def As (c d:C):Prop:=Af c d∧c.a<d.a
theorem As.ci {c d:C}(h:As c d)(hc:CI c):CI d:=h.1.ci hc
theorem As.lt {c d:C}(h:As c d)(hc:CI c):d.left+1≤c.left:=by
 have:=(h.1.left hc).1;have:=h.2;omega
theorem As.trans {c d i:C}(h:As c d)(g:Af d i)(hc:CI c):As c i:=⟨h.1.trans g hc,by have:=(g.left (h.ci hc)).2.1;have:=h.2;omega⟩
theorem Af.strict {c d i:C}(h:Af c d)(g:As d i)(hc:CI c):As c i:=⟨h.trans g.1 hc,by have:=(h.left hc).2.1;have:=g.2;omega⟩

theorem JJ {c:C}(hc:CI c)(h:c.varint.2.2=0):As c c.varint.2.1∧c.varint.1<18446744073709551616:=by
 obtain⟨n,h1,h2,h3,h4,h5,h6,h7⟩:=XS hc.big' h;have:=hc.lf;have:=hc.nd;refine⟨⟨K8 hc (by rw[h4]) (by rw[h4]) (by rw[h4]) (by rw[h4]) (by rw[h4];dsimp only;omega) (by rw[h4];dsimp only;omega),by rw[h4];dsimp only;omega⟩,h7⟩
theorem XV {c d:C}{n:Int}(hc:CI c)(hn:0≤n)(h:JX c n=.ok d):Af c d∧d.a=c.a:=by
 unfold JX at h;split at h
 ·rename_i h0;cases h;unfold C.spend at h0 ⊢;rw[QPO (by omega)]at h0 ⊢;split at h0
  ·cases h0
  ·rename_i h1;have:=hc.nd;have:=hc.pos;have w:IntKind.i64.wrap (c.nd-n)=c.nd-n:=by rw[QB];omega
   rw[QPO h1,w];exact⟨K8 hc rfl rfl rfl rfl (by dsimp only;omega) (by dsimp only;omega),rfl⟩
 ·cases h
theorem Jn {c d:C}{n:Nat}(hc:CI c)(h:Jd c=.ok (n,d)):As c d∧(n:Int)≤d.left:=by
 unfold Jd at h;split at h
 ·rename_i h0;split at h
  ·cases h
  ·rename_i h1;cases h;exact⟨(JJ hc h0).1,by omega⟩
 ·cases h
theorem L4 {d:C}{n:Nat}(hc:CI d)(hn:(n:Int)≤d.left)(h:(text d n).2.2=0):Af d (text d n).2.1∧(text d n).1.length≤3000:=by
 unfold text at h ⊢;rw[QPO (by omega),QPO (by omega)]at h ⊢;split at h
 ·cases h
 ·rename_i h1;have:=hc.pos;have:=hc.lf;have:=hc.len;have:=hc.nd;have w:IntKind.i64.wrap (d.a+(n:Int))=d.a+n:=by rw[QB];omega
  rw[QPO h1];refine⟨K8 hc rfl rfl rfl rfl ?_ ?_,?_⟩
  ·simp only[C.ahead,w];omega
  ·simp only[C.ahead];omega
  ·simp only[QQ2];rw[QQw];omega
theorem WZ {w:Int}{c d:C}{f:R}(hc:CI c)(h:Kp w c=.ok (f,d)):As c d∧f.wire=w∧f.bits<18446744073709551616∧f.data.length≤3000:=by
 unfold Kp at h;split at h
 ·split at h
  ·cases h
  ·rename_i n i hl;split at h
   ·rename_i ht;cases h;obtain⟨a1,a2⟩:=Jn hc hl;obtain⟨b1,b2⟩:=L4 (a1.ci hc) a2 ht;exact⟨a1.trans b1 hc,rfl,by dsimp only;omega,b2⟩
   ·cases h
 ·split at h
  ·split at h
   ·rename_i hf;cases h;obtain⟨h1,h2,h3,h4⟩:=Ub hc.big' hf;have:=hc.lf;have:=hc.nd;exact⟨⟨K8 hc (by rw[h3]) (by rw[h3]) (by rw[h3]) (by rw[h3]) (by rw[h3];dsimp only;omega) (by rw[h3];dsimp only;omega),by rw[h3];dsimp only;omega⟩,rfl,h4,QPJ _⟩
   ·cases h
  ·split at h
   ·rename_i hv;cases h;obtain⟨a1,a2⟩:=JJ hc hv;exact⟨a1,rfl,a2,QPJ _⟩
   ·cases h
theorem Wj {c:C}(hc:CI c)(h:(Qz c).2.2.2=0):As c (Qz c).2.2.1∧1≤(Qz c).1∧(Qz c).1≤65535∧0≤(Qz c).2.1∧(Qz c).2.1≤6:=by
 unfold Qz at h ⊢;dsimp only at h ⊢;split at h
 ·rename_i hv;rw[QP5 hv];split at h
  ·cases h
  ·rename_i h7;rw[QPO h7];split at h
   ·cases h
   ·rename_i h8;rw[QPO h8];dsimp only;exact⟨(JJ hc hv).1,by omega,by omega,by omega,by omega⟩
 ·rename_i hv;exact absurd h hv
theorem HV {d:C}{n:Nat}(hc:CI d)(hn:(n:Int)≤d.left)(h:(enter d n).2=0):(enter d n).1={ d with e:=d.a+n,dp:=d.dp-1 }∧CI (enter d n).1∧(enter d n).1.left=n:=by
 unfold enter at h ⊢;rw[QPO (by omega),QPO (by omega)]at h ⊢;split at h
 ·cases h
 ·rename_i h1;have:=hc.pos;have:=hc.lf;have:=hc.len;have:=hc.dp;have w1:IntKind.i64.wrap (d.a+(n:Int))=d.a+n:=by rw[QB];omega
  have w2:IntKind.i64.wrap (d.dp-1)=d.dp-1:=by rw[QB];omega
  rw[QPO h1,w1,w2];have hi:CI ({ d with e:=d.a+n,dp:=d.dp-1 }:C):=CN hc.len (by dsimp only;omega) hc.nd (by dsimp only;omega);exact⟨rfl,hi,by rw[hi.lf];dsimp only;omega⟩
theorem Sd {d i j:C}{n:Nat}(hc:CI d)(hn:(n:Int)≤d.left)(hi:i.e=d.a+n∧i.nd≤d.nd)(hj:Af i j):Af d (J8 d j)∧(J8 d j).left=d.left-n:=by
 obtain⟨f1,f2,f3,f4,l,f5,hl⟩:=hj.eqs;have:=hc.pos;have:=hc.lf;have:=hj.nd;unfold J8;rw[QPO (by rw[hc.snd];simp;omega)];have h:Af d ({ d with a:=j.e,nd:=j.nd }:C):=K8 hc rfl rfl rfl rfl (by dsimp only;omega) (by dsimp only;omega);exact⟨h,by rw[(h.ci hc).lf];dsimp only;omega⟩
theorem Kq {d:C}{n:Nat}(hc:CI d)(hn:(n:Int)≤d.left):part d n={ d with e:=d.a+n }∧CI (part d n)∧(part d n).left=n:=by
 have:=hc.pos;have:=hc.lf;have:=hc.len;have w1:IntKind.i64.wrap (d.a+(n:Int))=d.a+n:=by rw[QB];omega
 unfold part;rw[w1];have hi:CI ({ d with e:=d.a+n }:C):=CN hc.len (by dsimp only;omega) hc.nd hc.dp;exact⟨rfl,hi,by rw[hi.lf];dsimp only;omega⟩
theorem D7 {d i:C}{n:Nat}(hc:CI d)(hn:(n:Int)≤d.left)(hj:Af (part d n) i):Af d (X0 d i)∧(X0 d i).left=d.left-n:=by
 obtain⟨e1,e2,e3⟩:=Kq hc hn;obtain⟨f1,f2,f3,f4,l,f5,hl⟩:=hj.eqs;have:=hc.pos;have:=hc.lf;have hnd:=hj.nd;rw[e1]at f2 hnd;dsimp only at f2 hnd;have h:Af d (X0 d i):=K8 hc rfl rfl rfl rfl (by unfold X0;dsimp only;omega) (by unfold X0;dsimp only;omega);exact⟨h,by rw[(h.ci hc).lf];unfold X0;dsimp only;omega⟩
theorem DA {c:C}(hc:CI c)(h:(Ze c).2.2=0):As c (Ze c).2.1∧0≤(Ze c).1∧(Ze c).1<256:=by
 unfold Ze at h ⊢;cases hr:c.rest with
 |nil=>rw[hr]at h;cases h
 |cons b t=>
  obtain⟨_,_,_,h1⟩:=D5 hr;have:=hc.pos;have:=hc.lf;have:=hc.len;have:=hc.nd;have:=b.toNat_lt;have w:IntKind.i64.wrap (c.a+1)=c.a+1:=by rw[QB];omega
  refine⟨⟨K8 hc rfl rfl rfl rfl ?_ ?_,?_⟩,?_,?_⟩<;>simp only[C.ahead,w]<;>omega

theorem L5 {c:C}{f:R}:(Zc c f).2.1.nd=c.nd:=by
 have hv:c.varint.2.1.nd=c.nd:=by unfold C.varint;dsimp only;split<;>rfl
 unfold Zc;split
 ·show c.fixed.2.1.nd=_;unfold C.fixed;split<;>rfl
 ·split
  ·exact hv
  ·show(Wf c f.wire).2.1.nd=_;unfold Wf;dsimp only;split
   ·split
    ·rfl
    ·by_cases hq:(if f.wire=3 then c.tx else 65536)<(c.varint.1:Int)
     ·rw[QP5 hq]
     ·rw[QPO hq];exact hv
   ·rfl
theorem PB {c:C}{f:R}(hc:CI c)(h:(Zc c f).2.2=0)(h0:f.bits=0)(h1:f.data=[]):(Zc c f).1.num=f.num∧(Zc c f).1.wire=f.wire∧(Zc c f).1.bits<18446744073709551616∧(Zc c f).1.data.length≤3000:=by
 unfold Zc at h ⊢;split
 ·rename_i w;rw[QP5 w]at h;exact⟨rfl,rfl,(Ub hc.big' h).2.2.2,by dsimp only;rw[h1];exact QPJ _⟩
 ·rename_i w;rw[QPO w]at h;split
  ·rename_i w1;rw[QP5 w1]at h;exact⟨rfl,rfl,(JJ hc h).2,by dsimp only;rw[h1];exact QPJ _⟩
  ·rename_i w1;rw[QPO w1]at h;refine⟨rfl,rfl,by dsimp only;rw[h0];decide,?_⟩;show(Wf c f.wire).1.length≤3000;dsimp only at h;unfold Wf at h ⊢;dsimp only at h ⊢;split
   ·rename_i hv;rw[QP5 hv]at h;split
    ·exact QPJ _
    ·by_cases hq:(if f.wire=3 then c.tx else 65536)<(c.varint.1:Int)
     ·rw[QP5 hq];exact QPJ _
     ·have h3:=((JJ hc hv).1.ci hc).len;rw[QPO hq,QQw,QQh];omega
   ·exact QPJ _
theorem BC {c:C}(hc:CI c)(h:(XH c).2.2=0):As c (XH c).2.1∧(XH c).1.num=(Qz c).1∧1≤(XH c).1.num∧(XH c).1.num≤65535∧0≤(XH c).1.wire∧(XH c).1.wire≤6∧(XH c).1.bits<18446744073709551616∧(XH c).1.data.length≤3000:=by
 obtain⟨⟨k,e1,e2,e3⟩,_⟩:=Sc hc.big h;have hnd:0≤(XH c).2.1.nd∧(XH c).2.1.nd≤c.nd∧(XH c).1.num=(Qz c).1∧1≤(XH c).1.num∧(XH c).1.num≤65535∧0≤(XH c).1.wire∧(XH c).1.wire≤6∧(XH c).1.bits<18446744073709551616∧(XH c).1.data.length≤3000:=by
  clear e1;unfold XH at h ⊢;dsimp only at h ⊢;split at h
  ·rename_i ht;obtain⟨t1,t2,t3,t4,t5⟩:=Wj hc ht;split at h
   ·rename_i hs;split at h
    ·rename_i hk;rw[QP5 ht,QP5 hs,QP5 hk];have hsp:JX (Qz c).2.2.1 1=.ok ((Qz c).2.2.1.spend 1).1:=by unfold JX;rw[QP5 hs]
     obtain⟨a1,_⟩:=XV (t1.ci hc) (by omega) hsp;have a2:=L5 (c:=((Qz c).2.2.1.spend 1).1) (f:={ num:=(Qz c).1,wire:=(Qz c).2.1,bits:=0,data:=[] });have a3:=a1.nd;have a4:=t1.1.nd;obtain⟨b1,b2,b3,b4⟩:=PB (a1.ci (t1.ci hc)) hk rfl rfl;rw[b1,b2];exact⟨by omega,by omega,rfl,t2,t3,t4,t5,b3,b4⟩
    ·rename_i hk;exact absurd h hk
   ·rename_i hs;exact absurd h hs
  ·rename_i ht;exact absurd h ht
 have:=hc.lf;exact⟨⟨K8 hc (by rw[e1]) (by rw[e1]) (by rw[e1]) (by rw[e1]) (by rw[e1];dsimp only;omega) ⟨hnd.1,hnd.2.1⟩,by rw[e1];dsimp only;omega⟩,hnd.2.2⟩

end Go.Proofs.YtfgchfdkiomfpaaGreat.Va

namespace Go.Proofs.YtfgchfdkiomfpaaGreat.Va
open Go Am Rc Bt Br Up So

section
variable {m:PG→V→Int}{nm:PG→V→V}{P:PL}

end

def Kh (l:List (Int×V)):List (Int×V):=QC (fun x y=>decide (x.1<y.1)) l
theorem QLc:SW fun x y:Int×V=>decide (x.1<y.1) where
 irr x:=by simp
 tr x y z h k:=by simp only[QQW]at *;omega
 nt x y z h k:=by simp only[QRr]at *;omega

theorem PC:∀ {a b:List (Int×V)},(a.Pairwise fun x y=>x.1<y.1)→(b.Pairwise fun x y=>x.1<y.1)→(∀x,x∈a↔x∈b)→a=b
 | [],[],_,_,_=>rfl
 | [],y :: b,_,_,h=>by have:=(h y).2 (by simp);cases this
 |x :: a,[],_,_,h=>by have:=(h x).1 (by simp);cases this
 |x :: a,y :: b,ha,hb,h=>by
  obtain⟨a1,a2⟩:=QQ9.1 ha;obtain⟨b1,b2⟩:=QQ9.1 hb;have e:x=y:=by
   rcases QQV.1 ((h x).1 (by simp))with e|e
   ·exact e
   ·rcases QQV.1 ((h y).2 (by simp))with e'|e'
    ·exact e'.symm
    ·have:=b1 x e;have:=a1 y e';omega
  subst e;congr 1
  refine PC a2 b2 fun z=>?_
  have hz:=h z;simp only[QQV]at hz
  constructor
  ·intro hm;rcases hz.1 (.inr hm)with e|e
   ·subst e;have:=a1 z hm;omega
   ·exact e
  ·intro hm;rcases hz.2 (.inr hm)with e|e
   ·subst e;have:=b1 z hm;omega
   ·exact e

section
variable {m:PG→V→Int}(nm:PG→V→V)(P:PL)

def ZZ (o:PO)(s:Int×V):List (Int×V):=if (decide (o.card<3) || !(JH nm P o s.2).emp)=true then [(o.num,JH nm P o s.2)]else []
def Jy (g:PG)(s:Int×V):List (Int×V):=match XL g s.1 with
 |none=>[]
 |some o=>ZZ nm P o s

theorem PD {o:PO}{s x:Int×V}:x∈ZZ nm P o s↔(decide (o.card<3) || !(JH nm P o s.2).emp)=true∧x=(o.num,JH nm P o s.2):=by
 unfold ZZ;split
 ·rename_i h;simp[h]
 ·rename_i h;simp[h]

theorem PF {sl:List (Int×V)}(hu:sl.Pairwise fun y x=>(y.1==x.1)=false){s:Int×V}(hs:s∈sl):sl.find? (fun t=>t.1==s.1)=some s:=by
 induction sl with
 |nil=>cases hs
 |cons x l ih=>
  obtain⟨h1,h2⟩:=QQ9.1 hu;rw[QRn];rcases QQV.1 hs with rfl|hs
  ·simp
  ·rw[h1 s hs];exact ih h2 hs

theorem WD {sl:List (Int×V)}{o:PO}:Ji nm P sl o=match sl.find? (fun s=>s.1==o.num)with
  |none=>[]
  |some s=>ZZ nm P o s:=rfl

theorem Se {g:PG}(hd:g.ops.Pairwise fun a b=>a.num<b.num){sl:List (Int×V)}(hu:sl.Pairwise fun y x=>(y.1==x.1)=false):(Kh sl).flatMap (Jy nm P g)=g.ops.flatMap (Ji nm P sl):=by
 have hp:(Kh sl).Perm sl:=Q0 _;have hsu:(Kh sl).Pairwise fun y x=>(y.1==x.1)=false:=(hp.pairwise_iff fun {a b} h=>by rw[Bool.beq_comm];exact h).2 hu
 have hss:X7 (fun x y:Int×V=>decide (x.1<y.1)) (Kh sl):=XW QLc _;have hst:(Kh sl).Pairwise fun x y=>x.1<y.1:=by
  unfold X7 at hss;rw[QRz]at *;intro i j hi hj hij;have h1:=hss i j hi hj hij;have h2:=hsu i j hi hj hij;simp only[QRr,QRk]at h1 h2;omega
 have kpw:∀s,(Jy nm P g s).Pairwise fun x y:Int×V=>x.1<y.1:=fun s=>by
  unfold Jy;split
  ·exact .nil
  ·unfold ZZ;split
   ·exact QRy _ _
   ·exact .nil
 have knum:∀ {s x:Int×V},x∈Jy nm P g s→x.1=s.1:=fun {s x} h=>by
  unfold Jy at h;cases ho:XL g s.1 with
  |none=>rw[ho]at h;cases h
  |some o=>
   rw[ho]at h;rw[((PD nm P).1 h).2];exact(YG ho).2
 refine PC ?_ ?_ fun x=>?_
 ·rw[List.pairwise_flatMap];refine⟨fun s _=>kpw s,hst.imp fun {a b} hab x hx y hy=>?_⟩;rw[knum hx,knum hy];exact hab
 ·rw[List.pairwise_flatMap];refine⟨fun _ _=>R7,hd.imp fun {a b} hab x hx y hy=>?_⟩;rw[(UP hx).1,(UP hy).1];exact hab
 ·rw[List.mem_flatMap,List.mem_flatMap]
  constructor
  ·rintro⟨s,hs,h⟩;unfold Jy at h;cases ho:XL g s.1 with
   |none=>rw[ho]at h;cases h
   |some o=>
    rw[ho]at h;obtain⟨hom,hon⟩:=YG ho;refine⟨o,hom,?_⟩;rw[WD,hon,PF hu (hp.mem_iff.1 hs)];exact h
  ·rintro⟨o,ho,h⟩;rw[WD]at h;cases hf:sl.find? (fun s=>s.1==o.num)with
   |none=>rw[hf]at h;cases h
   |some s=>
    rw[hf]at h;have hs:s.1=o.num:=by simpa using List.find?_some hf
    refine⟨s,hp.mem_iff.2 (QRw hf),?_⟩;unfold Jy;rw[hs,K3 hd ho];exact h

def TM (o:PO)(sl:List (Int×V)):List (Int×V):=sl.flatMap fun s=>if (s.1==o.num)=true then ZZ nm P o s else []
theorem BD {o:PO}{sl:List (Int×V)}(hu:sl.Pairwise fun y x=>(y.1==x.1)=false):TM nm P o sl=Ji nm P sl o:=by
 rw[WD];unfold TM
 induction sl with
 |nil=>rfl
 |cons x l ih=>
  obtain⟨h1,h2⟩:=QQ9.1 hu;rw[QQ4,QRn];cases hx:(x.1==o.num)
  ·rw[QPO (by simp),QPX];exact ih h2
  ·rw[QP5 rfl];have e:x.1=o.num:=by simpa using hx
   have:l.flatMap (fun s=>if (s.1==o.num)=true then ZZ nm P o s else [])=[]:=by
    rw[List.flatMap_eq_nil_iff];intro s hs;have:=h1 s hs;rw[e]at this;rw[QPO (by rw[Bool.beq_comm];simp[this])]
   rw[this,QQD]

end
end Go.Proofs.YtfgchfdkiomfpaaGreat.Va

namespace Go.Proofs.YtfgchfdkiomfpaaGreat.Va
open Go Am Rc Bt Br Up

section
variable {M:Nat}

end

theorem QN {P:Program}{K:St→Prop}{Qe:List Am.Item}{f:Fr}{m:Qj}{ds:List DF}{d sz len:Nat}{z y l:List AV}{ps:List (Nat×Nat×RA)}(hy:fill f ps (XF z sz len)=some y)(h1:AV.rfL y=true)(h2:y.all AV.leaf=true)(hc:XP sz len (y.map nn0)=l)(h:QD P Qe ⟨QI f d (.list l),m,ds⟩ K) :
  QD P (⟨some d,.bsl sz len z ps,none⟩ :: Qe) ⟨f,m,ds⟩ K:=by
 subst hc;exact⟨y,hy,h1,h2,h⟩

theorem HW (l:List V):(l.map V.av).all (fun e=>e.cells.length==7)=true:=by
 rw[List.all_map,QPM];intro x _;simp[Qc,AV.cells]

end Go.Proofs.YtfgchfdkiomfpaaGreat.Va

set_option linter.unusedVariables false
namespace Go.Proofs.YtfgchfdkiomfpaaGreat.Tg
open Go Am

def TN (z sr ro sm is st:Nat):List Am.Item:=[
  ⟨(some 10),.val (.mov (.c (.int .i64 0))),none⟩]
def TO (z sr ro sm is st:Nat):List Am.Item:=[
  ⟨(some 11),.val (.mov (.t 10)),none⟩,
  ⟨(some 12),.val (.mov (.t 3)),none⟩,
  ⟨(some 13),.val (.bin .num .lss (.t 11) (.t 12)),none⟩]
def TP (z sr ro sm is st:Nat):List Am.Item:=[
  ⟨(some 16),.val (.mov (.t 0)),none⟩,
  ⟨(some 17),.val (.mov (.t 1)),none⟩,
  ⟨(some 18),.val (.mov (.t 10)),none⟩,
  ⟨(some 19),.val (.bin .num .add (.t 17) (.t 18)),none⟩,
  ⟨(some 20),.val (.mov (.t 0)),none⟩,
  ⟨(some 21),.val (.mov (.t 2)),none⟩,
  ⟨(some 22),.val (.mov (.t 10)),none⟩,
  ⟨(some 23),.val (.bin .num .add (.t 21) (.t 22)),none⟩,
  ⟨(some 24),.val (.mov (.t 0)),none⟩,
  ⟨(some 25),.val (.mov (.t 2)),none⟩,
  ⟨(some 26),.val (.mov (.t 10)),none⟩,
  ⟨(some 27),.val (.bin .num .add (.t 25) (.t 26)),none⟩,
  ⟨(some 28),.val (.iaddr z none (.t 24) (.t 27)),none⟩,
  ⟨(some 29),.val (.loadr (some z) (.t 28)),none⟩,
  ⟨(some 30),.val (.mov (.t 0)),none⟩,
  ⟨(some 31),.val (.mov (.t 1)),none⟩,
  ⟨(some 32),.val (.mov (.t 10)),none⟩,
  ⟨(some 33),.val (.bin .num .add (.t 31) (.t 32)),none⟩,
  ⟨(some 34),.val (.iaddr z none (.t 30) (.t 33)),none⟩,
  ⟨(some 35),.val (.loadr (some z) (.t 34)),none⟩,
  ⟨(some 36),.val (.iaddr z none (.t 16) (.t 19)),none⟩,
  ⟨none,.store z (.t 36) (.t 29),none⟩,
  ⟨(some 37),.val (.iaddr z none (.t 20) (.t 23)),none⟩,
  ⟨none,.store z (.t 37) (.t 35),none⟩]
def TQ (z sr ro sm is st:Nat):List Am.Item:=[
  ⟨(some 14),.val (.mov (.t 10)),none⟩,
  ⟨(some 15),.val (.bin .num .add (.t 14) (.c (.int .i64 1))),none⟩,
  ⟨(some 10),.val (.mov (.t 15)),none⟩]
def TR (z sr ro sm is st:Nat):RC:=.seq (.seq (.reg (TO z sr ro sm is st)) (.cond (.t 13) (.skip) (.exit 0))) (.seq (.block 1 (.draw (TP z sr ro sm is st))) (.reg (TQ z sr ro sm is st)))
def rsr (z sr ro sm is st:Nat):RC:=.seq (.reg (TN z sr ro sm is st)) (.block 0 (.loop (TR z sr ro sm is st)))
def osr:List RR:=[]

def TS (z sr ro sm is st:Nat):List Am.Item:=[
  ⟨(some 12),.val (.mov (.t 2)),none⟩,
  ⟨(some 13),.val (.mov (.t 1)),none⟩,
  ⟨(some 14),.val (.bin .num .sub (.t 12) (.t 13)),none⟩,
  ⟨(some 10),.val (.mov (.t 14)),none⟩]
def TT (z sr ro sm is st:Nat):List Am.Item:=[
  ⟨(some 15),.val (.mov (.t 3)),none⟩,
  ⟨(some 16),.val (.mov (.t 2)),none⟩,
  ⟨(some 17),.val (.bin .num .sub (.t 15) (.t 16)),none⟩,
  ⟨(some 11),.val (.mov (.t 17)),none⟩]
def TU (z sr ro sm is st:Nat):List Am.Item:=[
  ⟨(some 18),.val (.mov (.t 10)),none⟩,
  ⟨(some 19),.val (.mov (.t 11)),none⟩,
  ⟨(some 20),.val (.bin .num .neq (.t 18) (.t 19)),none⟩]
def TV (z sr ro sm is st:Nat):List Am.Item:=[
  ⟨(some 21),.val (.mov (.t 10)),none⟩,
  ⟨(some 22),.val (.mov (.t 11)),none⟩,
  ⟨(some 23),.val (.bin .num .gtr (.t 21) (.t 22)),none⟩]
def TW (z sr ro sm is st:Nat):List Am.Item:=[
  ⟨(some 24),.val (.mov (.t 0)),none⟩,
  ⟨(some 25),.val (.mov (.t 2)),none⟩,
  ⟨(some 26),.val (.mov (.t 10)),none⟩,
  ⟨(some 27),.val (.bin .num .sub (.t 25) (.t 26)),none⟩,
  ⟨(some 28),.val (.mov (.t 2)),none⟩,
  ⟨(some 29),.val (.mov (.t 11)),none⟩,
  ⟨(some 30),.val (.mov (.t 4)),none⟩,
  ⟨(some 31),.callF (.f sr) [(.t 24),(.t 27),(.t 28),(.t 29),(.t 30)],none⟩]
def TX (z sr ro sm is st:Nat):List Am.Item:=[
  ⟨(some 32),.val (.mov (.t 10)),none⟩,
  ⟨(some 33),.val (.mov (.t 11)),none⟩,
  ⟨(some 34),.val (.bin .num .sub (.t 32) (.t 33)),none⟩,
  ⟨(some 10),.val (.mov (.t 34)),none⟩]
def TZ (z sr ro sm is st:Nat):List Am.Item:=[
  ⟨(some 35),.val (.mov (.t 0)),none⟩,
  ⟨(some 36),.val (.mov (.t 2)),none⟩,
  ⟨(some 37),.val (.mov (.t 10)),none⟩,
  ⟨(some 38),.val (.bin .num .sub (.t 36) (.t 37)),none⟩,
  ⟨(some 39),.val (.mov (.t 2)),none⟩,
  ⟨(some 40),.val (.mov (.t 11)),none⟩,
  ⟨(some 41),.val (.bin .num .add (.t 39) (.t 40)),none⟩,
  ⟨(some 42),.val (.mov (.t 10)),none⟩,
  ⟨(some 43),.val (.bin .num .sub (.t 41) (.t 42)),none⟩,
  ⟨(some 44),.val (.mov (.t 10)),none⟩,
  ⟨(some 45),.val (.mov (.t 4)),none⟩,
  ⟨(some 46),.callF (.f sr) [(.t 35),(.t 38),(.t 43),(.t 44),(.t 45)],none⟩]
def T0 (z sr ro sm is st:Nat):List Am.Item:=[
  ⟨(some 47),.val (.mov (.t 11)),none⟩,
  ⟨(some 48),.val (.mov (.t 10)),none⟩,
  ⟨(some 49),.val (.bin .num .sub (.t 47) (.t 48)),none⟩,
  ⟨(some 11),.val (.mov (.t 49)),none⟩]
def T1 (z sr ro sm is st:Nat):RC:=.seq (.seq (.reg (TU z sr ro sm is st)) (.cond (.t 20) (.skip) (.exit 0))) (.block 1 (.seq (.reg (TV z sr ro sm is st)) (.cond (.t 23) (.seq (.reg (TW z sr ro sm is st)) (.reg (TX z sr ro sm is st))) (.seq (.reg (TZ z sr ro sm is st)) (.reg (T0 z sr ro sm is st))))))
def T2 (z sr ro sm is st:Nat):List Am.Item:=[
  ⟨(some 50),.val (.mov (.t 0)),none⟩,
  ⟨(some 51),.val (.mov (.t 2)),none⟩,
  ⟨(some 52),.val (.mov (.t 10)),none⟩,
  ⟨(some 53),.val (.bin .num .sub (.t 51) (.t 52)),none⟩,
  ⟨(some 54),.val (.mov (.t 2)),none⟩,
  ⟨(some 55),.val (.mov (.t 10)),none⟩,
  ⟨(some 56),.val (.mov (.t 4)),none⟩,
  ⟨(some 57),.callF (.f sr) [(.t 50),(.t 53),(.t 54),(.t 55),(.t 56)],none⟩]
def rro (z sr ro sm is st:Nat):RC:=.seq (.reg (TS z sr ro sm is st)) (.seq (.reg (TT z sr ro sm is st)) (.seq (.block 0 (.loop (T1 z sr ro sm is st))) (.reg (T2 z sr ro sm is st))))
def oro:List RR:=[]

def Fq (z sr ro sm is st:Nat):List Am.Item:=[
  ⟨(some 25),.val (.mov (.t 2)),none⟩,
  ⟨(some 26),.val (.mov (.t 1)),none⟩,
  ⟨(some 27),.val (.bin .num .sub (.t 25) (.t 26)),none⟩,
  ⟨(some 28),.val (.bin .num .eql (.t 27) (.c (.int .i64 1))),none⟩]
def CO (z sr ro sm is st:Nat):List Am.Item:=[
  ⟨(some 29),.val (.mov (.t 2)),none⟩,
  ⟨(some 10),.val (.mov (.t 29)),none⟩]
def CP (z sr ro sm is st:Nat):List Am.Item:=[
  ⟨(some 30),.val (.mov (.t 3)),none⟩,
  ⟨(some 11),.val (.mov (.t 30)),none⟩]
def T3 (z sr ro sm is st:Nat):List Am.Item:=[
  ⟨(some 31),.val (.mov (.t 10)),none⟩,
  ⟨(some 32),.val (.mov (.t 11)),none⟩,
  ⟨(some 33),.val (.bin .num .lss (.t 31) (.t 32)),none⟩]
def T4 (z sr ro sm is st:Nat):List Am.Item:=[
  ⟨(some 34),.val (.mov (.t 10)),none⟩,
  ⟨(some 35),.val (.mov (.t 11)),none⟩,
  ⟨(some 36),.val (.bin .num .add (.t 34) (.t 35)),none⟩,
  ⟨(some 37),.val (.cvi .u64 (.t 36)),none⟩,
  ⟨(some 38),.val (.bin .num .shr (.t 37) (.c (.int .u64 1))),none⟩,
  ⟨(some 39),.val (.cvi .i64 (.t 38)),none⟩,
  ⟨(some 12),.val (.mov (.t 39)),none⟩]
def T5 (z sr ro sm is st:Nat):List Am.Item:=[
  ⟨(some 40),.val (.mov (.t 4)),none⟩,
  ⟨(some 41),.val (.mov (.t 0)),none⟩,
  ⟨(some 42),.val (.mov (.t 12)),none⟩,
  ⟨(some 43),.val (.iaddr z none (.t 41) (.t 42)),none⟩,
  ⟨(some 44),.val (.loadr (some z) (.t 43)),none⟩,
  ⟨(some 45),.val (.mov (.t 0)),none⟩,
  ⟨(some 46),.val (.mov (.t 1)),none⟩,
  ⟨(some 47),.val (.iaddr z none (.t 45) (.t 46)),none⟩,
  ⟨(some 48),.val (.loadr (some z) (.t 47)),none⟩,
  ⟨(some 49),.call (.t 40) [(.t 44),(.t 48)],none⟩,
  ⟨(some 50),.val (.bin .num .lss (.t 49) (.c (.int .i64 0))),none⟩]
def T6 (z sr ro sm is st:Nat):List Am.Item:=[
  ⟨(some 51),.val (.mov (.t 12)),none⟩,
  ⟨(some 52),.val (.bin .num .add (.t 51) (.c (.int .i64 1))),none⟩,
  ⟨(some 10),.val (.mov (.t 52)),none⟩]
def T7 (z sr ro sm is st:Nat):List Am.Item:=[
  ⟨(some 53),.val (.mov (.t 12)),none⟩,
  ⟨(some 11),.val (.mov (.t 53)),none⟩]
def T8 (z sr ro sm is st:Nat):RC:=.seq (.seq (.reg (T3 z sr ro sm is st)) (.cond (.t 33) (.skip) (.exit 0))) (.block 1 (.seq (.reg (T4 z sr ro sm is st)) (.seq (.draw (T5 z sr ro sm is st)) (.cond (.t 50) (.reg (T6 z sr ro sm is st)) (.reg (T7 z sr ro sm is st))))))
def CQ (z sr ro sm is st:Nat):List Am.Item:=[
  ⟨(some 54),.val (.mov (.t 1)),none⟩,
  ⟨(some 13),.val (.mov (.t 54)),none⟩]
def T9 (z sr ro sm is st:Nat):List Am.Item:=[
  ⟨(some 55),.val (.mov (.t 13)),none⟩,
  ⟨(some 56),.val (.mov (.t 10)),none⟩,
  ⟨(some 57),.val (.bin .num .sub (.t 56) (.c (.int .i64 1))),none⟩,
  ⟨(some 58),.val (.bin .num .lss (.t 55) (.t 57)),none⟩]
def PH (z sr ro sm is st:Nat):List Am.Item:=[
  ⟨(some 61),.val (.mov (.t 0)),none⟩,
  ⟨(some 62),.val (.mov (.t 13)),none⟩,
  ⟨(some 63),.val (.mov (.t 0)),none⟩,
  ⟨(some 64),.val (.mov (.t 13)),none⟩,
  ⟨(some 65),.val (.bin .num .add (.t 64) (.c (.int .i64 1))),none⟩,
  ⟨(some 66),.val (.mov (.t 0)),none⟩,
  ⟨(some 67),.val (.mov (.t 13)),none⟩,
  ⟨(some 68),.val (.bin .num .add (.t 67) (.c (.int .i64 1))),none⟩,
  ⟨(some 69),.val (.iaddr z none (.t 66) (.t 68)),none⟩,
  ⟨(some 70),.val (.loadr (some z) (.t 69)),none⟩,
  ⟨(some 71),.val (.mov (.t 0)),none⟩,
  ⟨(some 72),.val (.mov (.t 13)),none⟩,
  ⟨(some 73),.val (.iaddr z none (.t 71) (.t 72)),none⟩,
  ⟨(some 74),.val (.loadr (some z) (.t 73)),none⟩,
  ⟨(some 75),.val (.iaddr z none (.t 61) (.t 62)),none⟩,
  ⟨none,.store z (.t 75) (.t 70),none⟩,
  ⟨(some 76),.val (.iaddr z none (.t 63) (.t 65)),none⟩,
  ⟨none,.store z (.t 76) (.t 74),none⟩]
def PJ (z sr ro sm is st:Nat):List Am.Item:=[
  ⟨(some 59),.val (.mov (.t 13)),none⟩,
  ⟨(some 60),.val (.bin .num .add (.t 59) (.c (.int .i64 1))),none⟩,
  ⟨(some 13),.val (.mov (.t 60)),none⟩]
def Aa (z sr ro sm is st:Nat):RC:=.seq (.seq (.reg (T9 z sr ro sm is st)) (.cond (.t 58) (.skip) (.exit 2))) (.seq (.block 3 (.draw (PH z sr ro sm is st))) (.reg (PJ z sr ro sm is st)))
def GK (z sr ro sm is st:Nat):List Am.Item:=[
  ⟨(some 77),.val (.mov (.t 3)),none⟩,
  ⟨(some 78),.val (.mov (.t 2)),none⟩,
  ⟨(some 79),.val (.bin .num .sub (.t 77) (.t 78)),none⟩,
  ⟨(some 80),.val (.bin .num .eql (.t 79) (.c (.int .i64 1))),none⟩]
def BE (z sr ro sm is st:Nat):List Am.Item:=[
  ⟨(some 81),.val (.mov (.t 1)),none⟩,
  ⟨(some 14),.val (.mov (.t 81)),none⟩]
def BF (z sr ro sm is st:Nat):List Am.Item:=[
  ⟨(some 82),.val (.mov (.t 2)),none⟩,
  ⟨(some 15),.val (.mov (.t 82)),none⟩]
def BG (z sr ro sm is st:Nat):List Am.Item:=[
  ⟨(some 83),.val (.mov (.t 14)),none⟩,
  ⟨(some 84),.val (.mov (.t 15)),none⟩,
  ⟨(some 85),.val (.bin .num .lss (.t 83) (.t 84)),none⟩]
def BH (z sr ro sm is st:Nat):List Am.Item:=[
  ⟨(some 86),.val (.mov (.t 14)),none⟩,
  ⟨(some 87),.val (.mov (.t 15)),none⟩,
  ⟨(some 88),.val (.bin .num .add (.t 86) (.t 87)),none⟩,
  ⟨(some 89),.val (.cvi .u64 (.t 88)),none⟩,
  ⟨(some 90),.val (.bin .num .shr (.t 89) (.c (.int .u64 1))),none⟩,
  ⟨(some 91),.val (.cvi .i64 (.t 90)),none⟩,
  ⟨(some 16),.val (.mov (.t 91)),none⟩]
def BI (z sr ro sm is st:Nat):List Am.Item:=[
  ⟨(some 92),.val (.mov (.t 4)),none⟩,
  ⟨(some 93),.val (.mov (.t 0)),none⟩,
  ⟨(some 94),.val (.mov (.t 2)),none⟩,
  ⟨(some 95),.val (.iaddr z none (.t 93) (.t 94)),none⟩,
  ⟨(some 96),.val (.loadr (some z) (.t 95)),none⟩,
  ⟨(some 97),.val (.mov (.t 0)),none⟩,
  ⟨(some 98),.val (.mov (.t 16)),none⟩,
  ⟨(some 99),.val (.iaddr z none (.t 97) (.t 98)),none⟩,
  ⟨(some 100),.val (.loadr (some z) (.t 99)),none⟩,
  ⟨(some 101),.call (.t 92) [(.t 96),(.t 100)],none⟩,
  ⟨(some 102),.val (.bin .num .lss (.t 101) (.c (.int .i64 0))),none⟩,
  ⟨(some 103),.val (.un .not (.t 102)),none⟩]
def BJ (z sr ro sm is st:Nat):List Am.Item:=[
  ⟨(some 104),.val (.mov (.t 16)),none⟩,
  ⟨(some 105),.val (.bin .num .add (.t 104) (.c (.int .i64 1))),none⟩,
  ⟨(some 14),.val (.mov (.t 105)),none⟩]
def BK (z sr ro sm is st:Nat):List Am.Item:=[
  ⟨(some 106),.val (.mov (.t 16)),none⟩,
  ⟨(some 15),.val (.mov (.t 106)),none⟩]
def CR (z sr ro sm is st:Nat):RC:=.seq (.seq (.reg (BG z sr ro sm is st)) (.cond (.t 85) (.skip) (.exit 4))) (.block 5 (.seq (.reg (BH z sr ro sm is st)) (.seq (.draw (BI z sr ro sm is st)) (.cond (.t 103) (.reg (BJ z sr ro sm is st)) (.reg (BK z sr ro sm is st))))))
def BL (z sr ro sm is st:Nat):List Am.Item:=[
  ⟨(some 107),.val (.mov (.t 2)),none⟩,
  ⟨(some 17),.val (.mov (.t 107)),none⟩]
def BM (z sr ro sm is st:Nat):List Am.Item:=[
  ⟨(some 108),.val (.mov (.t 17)),none⟩,
  ⟨(some 109),.val (.mov (.t 14)),none⟩,
  ⟨(some 110),.val (.bin .num .gtr (.t 108) (.t 109)),none⟩]
def BN (z sr ro sm is st:Nat):List Am.Item:=[
  ⟨(some 113),.val (.mov (.t 0)),none⟩,
  ⟨(some 114),.val (.mov (.t 17)),none⟩,
  ⟨(some 115),.val (.mov (.t 0)),none⟩,
  ⟨(some 116),.val (.mov (.t 17)),none⟩,
  ⟨(some 117),.val (.bin .num .sub (.t 116) (.c (.int .i64 1))),none⟩,
  ⟨(some 118),.val (.mov (.t 0)),none⟩,
  ⟨(some 119),.val (.mov (.t 17)),none⟩,
  ⟨(some 120),.val (.bin .num .sub (.t 119) (.c (.int .i64 1))),none⟩,
  ⟨(some 121),.val (.iaddr z none (.t 118) (.t 120)),none⟩,
  ⟨(some 122),.val (.loadr (some z) (.t 121)),none⟩,
  ⟨(some 123),.val (.mov (.t 0)),none⟩,
  ⟨(some 124),.val (.mov (.t 17)),none⟩,
  ⟨(some 125),.val (.iaddr z none (.t 123) (.t 124)),none⟩,
  ⟨(some 126),.val (.loadr (some z) (.t 125)),none⟩,
  ⟨(some 127),.val (.iaddr z none (.t 113) (.t 114)),none⟩,
  ⟨none,.store z (.t 127) (.t 122),none⟩,
  ⟨(some 128),.val (.iaddr z none (.t 115) (.t 117)),none⟩,
  ⟨none,.store z (.t 128) (.t 126),none⟩]
def BO (z sr ro sm is st:Nat):List Am.Item:=[
  ⟨(some 111),.val (.mov (.t 17)),none⟩,
  ⟨(some 112),.val (.bin .num .sub (.t 111) (.c (.int .i64 1))),none⟩,
  ⟨(some 17),.val (.mov (.t 112)),none⟩]
def CS (z sr ro sm is st:Nat):RC:=.seq (.seq (.reg (BM z sr ro sm is st)) (.cond (.t 110) (.skip) (.exit 6))) (.seq (.block 7 (.draw (BN z sr ro sm is st))) (.reg (BO z sr ro sm is st)))
def GL (z sr ro sm is st:Nat):List Am.Item:=[
  ⟨(some 129),.val (.mov (.t 1)),none⟩,
  ⟨(some 130),.val (.mov (.t 3)),none⟩,
  ⟨(some 131),.val (.bin .num .add (.t 129) (.t 130)),none⟩,
  ⟨(some 132),.val (.cvi .u64 (.t 131)),none⟩,
  ⟨(some 133),.val (.bin .num .shr (.t 132) (.c (.int .u64 1))),none⟩,
  ⟨(some 134),.val (.cvi .i64 (.t 133)),none⟩,
  ⟨(some 18),.val (.mov (.t 134)),none⟩]
def GM (z sr ro sm is st:Nat):List Am.Item:=[
  ⟨(some 135),.val (.mov (.t 18)),none⟩,
  ⟨(some 136),.val (.mov (.t 2)),none⟩,
  ⟨(some 137),.val (.bin .num .add (.t 135) (.t 136)),none⟩,
  ⟨(some 19),.val (.mov (.t 137)),none⟩]
def GN (z sr ro sm is st:Nat):List Am.Item:=[
  ⟨(some 20),.val (.mov (.c (.int .i64 0))),none⟩,
  ⟨(some 21),.val (.mov (.c (.int .i64 0))),none⟩]
def GP (z sr ro sm is st:Nat):List Am.Item:=[
  ⟨(some 138),.val (.mov (.t 2)),none⟩,
  ⟨(some 139),.val (.mov (.t 18)),none⟩,
  ⟨(some 140),.val (.bin .num .gtr (.t 138) (.t 139)),none⟩]
def GQ (z sr ro sm is st:Nat):List Am.Item:=[
  ⟨(some 141),.val (.mov (.t 19)),none⟩,
  ⟨(some 142),.val (.mov (.t 3)),none⟩,
  ⟨(some 143),.val (.bin .num .sub (.t 141) (.t 142)),none⟩,
  ⟨(some 20),.val (.mov (.t 143)),none⟩]
def GR (z sr ro sm is st:Nat):List Am.Item:=[
  ⟨(some 144),.val (.mov (.t 18)),none⟩,
  ⟨(some 21),.val (.mov (.t 144)),none⟩]
def GS (z sr ro sm is st:Nat):List Am.Item:=[
  ⟨(some 145),.val (.mov (.t 1)),none⟩,
  ⟨(some 20),.val (.mov (.t 145)),none⟩]
def GT (z sr ro sm is st:Nat):List Am.Item:=[
  ⟨(some 146),.val (.mov (.t 2)),none⟩,
  ⟨(some 21),.val (.mov (.t 146)),none⟩]
def GU (z sr ro sm is st:Nat):List Am.Item:=[
  ⟨(some 147),.val (.mov (.t 19)),none⟩,
  ⟨(some 148),.val (.bin .num .sub (.t 147) (.c (.int .i64 1))),none⟩,
  ⟨(some 22),.val (.mov (.t 148)),none⟩]
def GV (z sr ro sm is st:Nat):List Am.Item:=[
  ⟨(some 149),.val (.mov (.t 20)),none⟩,
  ⟨(some 150),.val (.mov (.t 21)),none⟩,
  ⟨(some 151),.val (.bin .num .lss (.t 149) (.t 150)),none⟩]
def GW (z sr ro sm is st:Nat):List Am.Item:=[
  ⟨(some 152),.val (.mov (.t 20)),none⟩,
  ⟨(some 153),.val (.mov (.t 21)),none⟩,
  ⟨(some 154),.val (.bin .num .add (.t 152) (.t 153)),none⟩,
  ⟨(some 155),.val (.cvi .u64 (.t 154)),none⟩,
  ⟨(some 156),.val (.bin .num .shr (.t 155) (.c (.int .u64 1))),none⟩,
  ⟨(some 157),.val (.cvi .i64 (.t 156)),none⟩,
  ⟨(some 23),.val (.mov (.t 157)),none⟩]
def GX (z sr ro sm is st:Nat):List Am.Item:=[
  ⟨(some 158),.val (.mov (.t 4)),none⟩,
  ⟨(some 159),.val (.mov (.t 0)),none⟩,
  ⟨(some 160),.val (.mov (.t 22)),none⟩,
  ⟨(some 161),.val (.mov (.t 23)),none⟩,
  ⟨(some 162),.val (.bin .num .sub (.t 160) (.t 161)),none⟩,
  ⟨(some 163),.val (.iaddr z none (.t 159) (.t 162)),none⟩,
  ⟨(some 164),.val (.loadr (some z) (.t 163)),none⟩,
  ⟨(some 165),.val (.mov (.t 0)),none⟩,
  ⟨(some 166),.val (.mov (.t 23)),none⟩,
  ⟨(some 167),.val (.iaddr z none (.t 165) (.t 166)),none⟩,
  ⟨(some 168),.val (.loadr (some z) (.t 167)),none⟩,
  ⟨(some 169),.call (.t 158) [(.t 164),(.t 168)],none⟩,
  ⟨(some 170),.val (.bin .num .lss (.t 169) (.c (.int .i64 0))),none⟩,
  ⟨(some 171),.val (.un .not (.t 170)),none⟩]
def GY (z sr ro sm is st:Nat):List Am.Item:=[
  ⟨(some 172),.val (.mov (.t 23)),none⟩,
  ⟨(some 173),.val (.bin .num .add (.t 172) (.c (.int .i64 1))),none⟩,
  ⟨(some 20),.val (.mov (.t 173)),none⟩]
def GZ (z sr ro sm is st:Nat):List Am.Item:=[
  ⟨(some 174),.val (.mov (.t 23)),none⟩,
  ⟨(some 21),.val (.mov (.t 174)),none⟩]
def G0 (z sr ro sm is st:Nat):RC:=.seq (.seq (.reg (GV z sr ro sm is st)) (.cond (.t 151) (.skip) (.exit 8))) (.block 9 (.seq (.reg (GW z sr ro sm is st)) (.seq (.draw (GX z sr ro sm is st)) (.cond (.t 171) (.reg (GY z sr ro sm is st)) (.reg (GZ z sr ro sm is st))))))
def YH (z sr ro sm is st:Nat):List Am.Item:=[
  ⟨(some 175),.val (.mov (.t 19)),none⟩,
  ⟨(some 176),.val (.mov (.t 20)),none⟩,
  ⟨(some 177),.val (.bin .num .sub (.t 175) (.t 176)),none⟩,
  ⟨(some 24),.val (.mov (.t 177)),none⟩]
def YI (z sr ro sm is st:Nat):List Am.Item:=[
  ⟨(some 178),.val (.mov (.t 20)),none⟩,
  ⟨(some 179),.val (.mov (.t 2)),none⟩,
  ⟨(some 180),.val (.bin .num .lss (.t 178) (.t 179)),none⟩,
  ⟨(some 181),.val (.mov (.t 180)),none⟩,
  ⟨(some 182),.val (.mov (.t 2)),(some (181,true))⟩,
  ⟨(some 183),.val (.mov (.t 24)),(some (181,true))⟩,
  ⟨(some 184),.val (.bin .num .lss (.t 182) (.t 183)),(some (181,true))⟩,
  ⟨(some 185),.val (.pick (.t 181) (.t 184) (.c (.bool false))),none⟩]
def YJ (z sr ro sm is st:Nat):List Am.Item:=[
  ⟨(some 186),.val (.mov (.t 0)),none⟩,
  ⟨(some 187),.val (.mov (.t 20)),none⟩,
  ⟨(some 188),.val (.mov (.t 2)),none⟩,
  ⟨(some 189),.val (.mov (.t 24)),none⟩,
  ⟨(some 190),.val (.mov (.t 4)),none⟩,
  ⟨(some 191),.callF (.f ro) [(.t 186),(.t 187),(.t 188),(.t 189),(.t 190)],none⟩]
def W0 (z sr ro sm is st:Nat):List Am.Item:=[
  ⟨(some 192),.val (.mov (.t 1)),none⟩,
  ⟨(some 193),.val (.mov (.t 20)),none⟩,
  ⟨(some 194),.val (.bin .num .lss (.t 192) (.t 193)),none⟩,
  ⟨(some 195),.val (.mov (.t 194)),none⟩,
  ⟨(some 196),.val (.mov (.t 20)),(some (195,true))⟩,
  ⟨(some 197),.val (.mov (.t 18)),(some (195,true))⟩,
  ⟨(some 198),.val (.bin .num .lss (.t 196) (.t 197)),(some (195,true))⟩,
  ⟨(some 199),.val (.pick (.t 195) (.t 198) (.c (.bool false))),none⟩]
def W2 (z sr ro sm is st:Nat):List Am.Item:=[
  ⟨(some 200),.val (.mov (.t 0)),none⟩,
  ⟨(some 201),.val (.mov (.t 1)),none⟩,
  ⟨(some 202),.val (.mov (.t 20)),none⟩,
  ⟨(some 203),.val (.mov (.t 18)),none⟩,
  ⟨(some 204),.val (.mov (.t 4)),none⟩,
  ⟨(some 205),.callF (.f sm) [(.t 200),(.t 201),(.t 202),(.t 203),(.t 204)],none⟩]
def KE (z sr ro sm is st:Nat):List Am.Item:=[
  ⟨(some 206),.val (.mov (.t 18)),none⟩,
  ⟨(some 207),.val (.mov (.t 24)),none⟩,
  ⟨(some 208),.val (.bin .num .lss (.t 206) (.t 207)),none⟩,
  ⟨(some 209),.val (.mov (.t 208)),none⟩,
  ⟨(some 210),.val (.mov (.t 24)),(some (209,true))⟩,
  ⟨(some 211),.val (.mov (.t 3)),(some (209,true))⟩,
  ⟨(some 212),.val (.bin .num .lss (.t 210) (.t 211)),(some (209,true))⟩,
  ⟨(some 213),.val (.pick (.t 209) (.t 212) (.c (.bool false))),none⟩]
def KG (z sr ro sm is st:Nat):List Am.Item:=[
  ⟨(some 214),.val (.mov (.t 0)),none⟩,
  ⟨(some 215),.val (.mov (.t 18)),none⟩,
  ⟨(some 216),.val (.mov (.t 24)),none⟩,
  ⟨(some 217),.val (.mov (.t 3)),none⟩,
  ⟨(some 218),.val (.mov (.t 4)),none⟩,
  ⟨(some 219),.callF (.f sm) [(.t 214),(.t 215),(.t 216),(.t 217),(.t 218)],none⟩]
def Ab (z sr ro sm is st:Nat):RC:=.seq (.seq (.reg (Fq z sr ro sm is st)) (.cond (.t 28) (.seq (.reg (CO z sr ro sm is st)) (.seq (.reg (CP z sr ro sm is st)) (.seq (.block 0 (.loop (T8 z sr ro sm is st))) (.seq (.seq (.reg (CQ z sr ro sm is st)) (.block 2 (.loop (Aa z sr ro sm is st)))) (.ret))))) (.skip))) (.seq (.seq (.reg (GK z sr ro sm is st)) (.cond (.t 80) (.seq (.reg (BE z sr ro sm is st)) (.seq (.reg (BF z sr ro sm is st)) (.seq (.block 4 (.loop (CR z sr ro sm is st))) (.seq (.seq (.reg (BL z sr ro sm is st)) (.block 6 (.loop (CS z sr ro sm is st)))) (.ret))))) (.skip))) (.seq (.reg (GL z sr ro sm is st)) (.seq (.reg (GM z sr ro sm is st)) (.seq (.reg (GN z sr ro sm is st)) (.seq (.seq (.reg (GP z sr ro sm is st)) (.cond (.t 140) (.seq (.reg (GQ z sr ro sm is st)) (.reg (GR z sr ro sm is st))) (.seq (.reg (GS z sr ro sm is st)) (.reg (GT z sr ro sm is st))))) (.seq (.reg (GU z sr ro sm is st)) (.seq (.block 8 (.loop (G0 z sr ro sm is st))) (.seq (.reg (YH z sr ro sm is st)) (.seq (.seq (.reg (YI z sr ro sm is st)) (.cond (.t 185) (.reg (YJ z sr ro sm is st)) (.skip))) (.seq (.seq (.reg (W0 z sr ro sm is st)) (.cond (.t 199) (.reg (W2 z sr ro sm is st)) (.skip))) (.seq (.reg (KE z sr ro sm is st)) (.cond (.t 213) (.reg (KG z sr ro sm is st)) (.skip)))))))))))))
def G3:List RR:=[]

def Ac (z sr ro sm is st:Nat):List Am.Item:=[
  ⟨(some 10),.val (.mov (.t 1)),none⟩,
  ⟨(some 11),.val (.bin .num .add (.t 10) (.c (.int .i64 1))),none⟩,
  ⟨(some 8),.val (.mov (.t 11)),none⟩]
def Ad (z sr ro sm is st:Nat):List Am.Item:=[
  ⟨(some 12),.val (.mov (.t 8)),none⟩,
  ⟨(some 13),.val (.mov (.t 2)),none⟩,
  ⟨(some 14),.val (.bin .num .lss (.t 12) (.t 13)),none⟩]
def Ae (z sr ro sm is st:Nat):List Am.Item:=[
  ⟨(some 17),.val (.mov (.t 8)),none⟩,
  ⟨(some 9),.val (.mov (.t 17)),none⟩]
def Ag (z sr ro sm is st:Nat):List Am.Item:=[
  ⟨(some 18),.val (.mov (.t 9)),none⟩,
  ⟨(some 19),.val (.mov (.t 1)),none⟩,
  ⟨(some 20),.val (.bin .num .gtr (.t 18) (.t 19)),none⟩,
  ⟨(some 21),.val (.mov (.t 20)),none⟩,
  ⟨(some 22),.val (.mov (.t 3)),(some (21,true))⟩,
  ⟨(some 23),.val (.mov (.t 0)),(some (21,true))⟩,
  ⟨(some 24),.val (.mov (.t 9)),(some (21,true))⟩,
  ⟨(some 25),.val (.iaddr z none (.t 23) (.t 24)),(some (21,true))⟩,
  ⟨(some 26),.val (.loadr (some z) (.t 25)),(some (21,true))⟩,
  ⟨(some 27),.val (.mov (.t 0)),(some (21,true))⟩,
  ⟨(some 28),.val (.mov (.t 9)),(some (21,true))⟩,
  ⟨(some 29),.val (.bin .num .sub (.t 28) (.c (.int .i64 1))),(some (21,true))⟩,
  ⟨(some 30),.val (.iaddr z none (.t 27) (.t 29)),(some (21,true))⟩,
  ⟨(some 31),.val (.loadr (some z) (.t 30)),(some (21,true))⟩,
  ⟨(some 32),.call (.t 22) [(.t 26),(.t 31)],(some (21,true))⟩,
  ⟨(some 33),.val (.bin .num .lss (.t 32) (.c (.int .i64 0))),(some (21,true))⟩,
  ⟨(some 34),.val (.pick (.t 21) (.t 33) (.c (.bool false))),none⟩]
def Ah (z sr ro sm is st:Nat):List Am.Item:=[
  ⟨(some 37),.val (.mov (.t 0)),none⟩,
  ⟨(some 38),.val (.mov (.t 9)),none⟩,
  ⟨(some 39),.val (.mov (.t 0)),none⟩,
  ⟨(some 40),.val (.mov (.t 9)),none⟩,
  ⟨(some 41),.val (.bin .num .sub (.t 40) (.c (.int .i64 1))),none⟩,
  ⟨(some 42),.val (.mov (.t 0)),none⟩,
  ⟨(some 43),.val (.mov (.t 9)),none⟩,
  ⟨(some 44),.val (.bin .num .sub (.t 43) (.c (.int .i64 1))),none⟩,
  ⟨(some 45),.val (.iaddr z none (.t 42) (.t 44)),none⟩,
  ⟨(some 46),.val (.loadr (some z) (.t 45)),none⟩,
  ⟨(some 47),.val (.mov (.t 0)),none⟩,
  ⟨(some 48),.val (.mov (.t 9)),none⟩,
  ⟨(some 49),.val (.iaddr z none (.t 47) (.t 48)),none⟩,
  ⟨(some 50),.val (.loadr (some z) (.t 49)),none⟩,
  ⟨(some 51),.val (.iaddr z none (.t 37) (.t 38)),none⟩,
  ⟨none,.store z (.t 51) (.t 46),none⟩,
  ⟨(some 52),.val (.iaddr z none (.t 39) (.t 41)),none⟩,
  ⟨none,.store z (.t 52) (.t 50),none⟩]
def Ai (z sr ro sm is st:Nat):List Am.Item:=[
  ⟨(some 35),.val (.mov (.t 9)),none⟩,
  ⟨(some 36),.val (.bin .num .sub (.t 35) (.c (.int .i64 1))),none⟩,
  ⟨(some 9),.val (.mov (.t 36)),none⟩]
def Aj (z sr ro sm is st:Nat):RC:=.seq (.seq (.draw (Ag z sr ro sm is st)) (.cond (.t 34) (.skip) (.exit 2))) (.seq (.block 3 (.draw (Ah z sr ro sm is st))) (.reg (Ai z sr ro sm is st)))
def Ak (z sr ro sm is st:Nat):List Am.Item:=[
  ⟨(some 15),.val (.mov (.t 8)),none⟩,
  ⟨(some 16),.val (.bin .num .add (.t 15) (.c (.int .i64 1))),none⟩,
  ⟨(some 8),.val (.mov (.t 16)),none⟩]
def Al (z sr ro sm is st:Nat):RC:=.seq (.seq (.reg (Ad z sr ro sm is st)) (.cond (.t 14) (.skip) (.exit 0))) (.seq (.block 1 (.seq (.reg (Ae z sr ro sm is st)) (.block 2 (.loop (Aj z sr ro sm is st))))) (.reg (Ak z sr ro sm is st)))
def ris (z sr ro sm is st:Nat):RC:=.seq (.reg (Ac z sr ro sm is st)) (.block 0 (.loop (Al z sr ro sm is st)))
def ois:List RR:=[]

def An (z sr ro sm is st:Nat):List Am.Item:=[
  ⟨(some 6),.val (.mov (.c (.int .i64 20))),none⟩]
def Ao (z sr ro sm is st:Nat):List Am.Item:=[
  ⟨(some 10),.val (.mov (.t 6)),none⟩,
  ⟨(some 7),.val (.mov (.c (.int .i64 0))),none⟩,
  ⟨(some 8),.val (.mov (.t 10)),none⟩]
def Ap (z sr ro sm is st:Nat):List Am.Item:=[
  ⟨(some 11),.val (.mov (.t 8)),none⟩,
  ⟨(some 12),.val (.mov (.t 1)),none⟩,
  ⟨(some 13),.val (.bin .num .leq (.t 11) (.t 12)),none⟩]
def Aq (z sr ro sm is st:Nat):List Am.Item:=[
  ⟨(some 14),.val (.mov (.t 0)),none⟩,
  ⟨(some 15),.val (.mov (.t 7)),none⟩,
  ⟨(some 16),.val (.mov (.t 8)),none⟩,
  ⟨(some 17),.val (.mov (.t 2)),none⟩,
  ⟨(some 18),.callF (.f is) [(.t 14),(.t 15),(.t 16),(.t 17)],none⟩]
def Ar (z sr ro sm is st:Nat):List Am.Item:=[
  ⟨(some 19),.val (.mov (.t 8)),none⟩,
  ⟨(some 7),.val (.mov (.t 19)),none⟩]
def Au (z sr ro sm is st:Nat):List Am.Item:=[
  ⟨(some 20),.val (.mov (.t 8)),none⟩,
  ⟨(some 21),.val (.mov (.t 6)),none⟩,
  ⟨(some 22),.val (.bin .num .add (.t 20) (.t 21)),none⟩,
  ⟨(some 8),.val (.mov (.t 22)),none⟩]
def Av (z sr ro sm is st:Nat):RC:=.seq (.seq (.reg (Ap z sr ro sm is st)) (.cond (.t 13) (.skip) (.exit 0))) (.block 1 (.seq (.reg (Aq z sr ro sm is st)) (.seq (.reg (Ar z sr ro sm is st)) (.reg (Au z sr ro sm is st)))))
def Aw (z sr ro sm is st:Nat):List Am.Item:=[
  ⟨(some 23),.val (.mov (.t 0)),none⟩,
  ⟨(some 24),.val (.mov (.t 7)),none⟩,
  ⟨(some 25),.val (.mov (.t 1)),none⟩,
  ⟨(some 26),.val (.mov (.t 2)),none⟩,
  ⟨(some 27),.callF (.f is) [(.t 23),(.t 24),(.t 25),(.t 26)],none⟩]
def Ax (z sr ro sm is st:Nat):List Am.Item:=[
  ⟨(some 28),.val (.mov (.t 6)),none⟩,
  ⟨(some 29),.val (.mov (.t 1)),none⟩,
  ⟨(some 30),.val (.bin .num .lss (.t 28) (.t 29)),none⟩]
def Ay (z sr ro sm is st:Nat):List Am.Item:=[
  ⟨(some 31),.val (.mov (.t 6)),none⟩,
  ⟨(some 32),.val (.bin .num .mul (.c (.int .i64 2)) (.t 31)),none⟩,
  ⟨(some 7),.val (.mov (.c (.int .i64 0))),none⟩,
  ⟨(some 8),.val (.mov (.t 32)),none⟩]
def Az (z sr ro sm is st:Nat):List Am.Item:=[
  ⟨(some 33),.val (.mov (.t 8)),none⟩,
  ⟨(some 34),.val (.mov (.t 1)),none⟩,
  ⟨(some 35),.val (.bin .num .leq (.t 33) (.t 34)),none⟩]
def PK (z sr ro sm is st:Nat):List Am.Item:=[
  ⟨(some 36),.val (.mov (.t 0)),none⟩,
  ⟨(some 37),.val (.mov (.t 7)),none⟩,
  ⟨(some 38),.val (.mov (.t 7)),none⟩,
  ⟨(some 39),.val (.mov (.t 6)),none⟩,
  ⟨(some 40),.val (.bin .num .add (.t 38) (.t 39)),none⟩,
  ⟨(some 41),.val (.mov (.t 8)),none⟩,
  ⟨(some 42),.val (.mov (.t 2)),none⟩,
  ⟨(some 43),.callF (.f sm) [(.t 36),(.t 37),(.t 40),(.t 41),(.t 42)],none⟩]
def PM (z sr ro sm is st:Nat):List Am.Item:=[
  ⟨(some 44),.val (.mov (.t 8)),none⟩,
  ⟨(some 7),.val (.mov (.t 44)),none⟩]
def PP (z sr ro sm is st:Nat):List Am.Item:=[
  ⟨(some 45),.val (.mov (.t 8)),none⟩,
  ⟨(some 46),.val (.mov (.t 6)),none⟩,
  ⟨(some 47),.val (.bin .num .mul (.c (.int .i64 2)) (.t 46)),none⟩,
  ⟨(some 48),.val (.bin .num .add (.t 45) (.t 47)),none⟩,
  ⟨(some 8),.val (.mov (.t 48)),none⟩]
def AA (z sr ro sm is st:Nat):RC:=.seq (.seq (.reg (Az z sr ro sm is st)) (.cond (.t 35) (.skip) (.exit 4))) (.block 5 (.seq (.reg (PK z sr ro sm is st)) (.seq (.reg (PM z sr ro sm is st)) (.reg (PP z sr ro sm is st)))))
def PQ (z sr ro sm is st:Nat):List Am.Item:=[
  ⟨(some 49),.val (.mov (.t 7)),none⟩,
  ⟨(some 50),.val (.mov (.t 6)),none⟩,
  ⟨(some 51),.val (.bin .num .add (.t 49) (.t 50)),none⟩,
  ⟨(some 9),.val (.mov (.t 51)),none⟩]
def PR (z sr ro sm is st:Nat):List Am.Item:=[
  ⟨(some 52),.val (.mov (.t 9)),none⟩,
  ⟨(some 53),.val (.mov (.t 1)),none⟩,
  ⟨(some 54),.val (.bin .num .lss (.t 52) (.t 53)),none⟩]
def PT (z sr ro sm is st:Nat):List Am.Item:=[
  ⟨(some 55),.val (.mov (.t 0)),none⟩,
  ⟨(some 56),.val (.mov (.t 7)),none⟩,
  ⟨(some 57),.val (.mov (.t 9)),none⟩,
  ⟨(some 58),.val (.mov (.t 1)),none⟩,
  ⟨(some 59),.val (.mov (.t 2)),none⟩,
  ⟨(some 60),.callF (.f sm) [(.t 55),(.t 56),(.t 57),(.t 58),(.t 59)],none⟩]
def BP (z sr ro sm is st:Nat):List Am.Item:=[
  ⟨(some 61),.val (.mov (.t 6)),none⟩,
  ⟨(some 62),.val (.bin .num .mul (.t 61) (.c (.int .i64 2))),none⟩,
  ⟨(some 6),.val (.mov (.t 62)),none⟩]
def AB (z sr ro sm is st:Nat):RC:=.seq (.seq (.reg (Ax z sr ro sm is st)) (.cond (.t 30) (.skip) (.exit 2))) (.block 3 (.seq (.reg (Ay z sr ro sm is st)) (.seq (.block 4 (.loop (AA z sr ro sm is st))) (.seq (.seq (.reg (PQ z sr ro sm is st)) (.seq (.reg (PR z sr ro sm is st)) (.cond (.t 54) (.reg (PT z sr ro sm is st)) (.skip)))) (.reg (BP z sr ro sm is st))))))
def rst (z sr ro sm is st:Nat):RC:=.seq (.reg (An z sr ro sm is st)) (.seq (.reg (Ao z sr ro sm is st)) (.seq (.block 0 (.loop (Av z sr ro sm is st))) (.seq (.reg (Aw z sr ro sm is st)) (.block 2 (.loop (AB z sr ro sm is st))))))
def ost:List RR:=[]

def AC (z sr ro sm is st:Nat):List Am.Item:=[
  ⟨(some 4),.val (.mov (.t 0)),none⟩,
  ⟨(some 5),.val (.mov (.t 0)),none⟩,
  ⟨(some 6),.val (.len 1 (.t 5)),none⟩,
  ⟨(some 7),.val (.mov (.t 1)),none⟩,
  ⟨(some 8),.callF (.f st) [(.t 4),(.t 6),(.t 7)],none⟩]
def rss (z sr ro sm is st:Nat):RC:=.reg (AC z sr ro sm is st)
def oss:List RR:=[]

structure Cs (P:Program)(z sr ro sm is st ss:Nat):Prop where
 csr:CK P sr 38 (rsr z sr ro sm is st) osr
 cro:CK P ro 58 (rro z sr ro sm is st) oro
 csm:CK P sm 220 (Ab z sr ro sm is st) G3
 cis:CK P is 53 (ris z sr ro sm is st) ois
 cst:CK P st 63 (rst z sr ro sm is st) ost
 css:CK P ss 9 (rss z sr ro sm is st) oss

end Go.Proofs.YtfgchfdkiomfpaaGreat.Tg

namespace Go.Proofs.YtfgchfdkiomfpaaGreat.Am
open Go Bt

def Ez (E:AV→Prop)(sz:Nat)(x:AV):Prop:=E x∧∃l,x=.agg l∧l.length=sz∧AV.rfL l=true∧l.all AV.leaf=true∧∀m,AV.stillL false m l=some l

variable {E:AV→Prop}

theorem Ez.part {sz:Nat}{x:AV}(h:Ez E sz x):Am.part x.cells 0 (some sz)=some x:=by
 obtain⟨_,l,rfl,rfl,_,_,_⟩:=h;simp[Am.part,AV.cells]
theorem Ez.len {sz:Nat}{x:AV}(h:Ez E sz x):x.cells.length=sz:=by
 obtain⟨_,l,rfl,rfl,_,_,_⟩:=h;rfl
theorem Ez.leaf {sz:Nat}{x:AV}(h:Ez E sz x):x.cells.all AV.leaf=true:=by
 obtain⟨_,l,rfl,_,_,h,_⟩:=h;exact h
theorem Ez.rf {sz:Nat}{x:AV}(h:Ez E sz x):x.rf=true:=by
 obtain⟨_,l,rfl,_,h,_,_⟩:=h;exact h

theorem Ez.still {sz:Nat}{x:AV}(h:Ez E sz x)(m:Qj):x.still false m=some x:=by
 obtain⟨_,l,rfl,_,_,_,h⟩:=h;simp only[AV.still,h m,QQr]
theorem Yk {sz:Nat}{x y:AV}(h:Ez E sz x)(k:Ez E sz y)(m:Qj):AV.stillL false m [x,y]=some [x,y]:=by
 simp only[AV.stillL,h.still,k.still]
theorem Wk {sz:Nat}{x y:AV}(h:Ez E sz x)(k:Ez E sz y):AV.rfL [x,y]=true:=by
 simp only[AV.rfL,h.rf,k.rf,Bool.and_self]

theorem WE {P:Program}{f:Fr}{m:Qj}{ds:List DF}{Qe:List Item}{d:Nat}{K:St→Prop}{k:Nat}{r:RA}{args:List RA}{ys:List AV}{v:AV}(hr:r.ev f=.fn (.func k) [] [])(hk:Qh P k ys v)(hy:AV.stillL false m (args.map (RA.ev f))=some ys)(h1:AV.rfL ys=true)(h2:v.rf=true)(h3:AV.rfL (args.map (RA.ev f))=true∨v.nl=true)(h:QD P Qe ⟨QI f d v,m,ds⟩ K) :
  QD P (⟨some d,.call r args,none⟩ :: Qe) ⟨f,m,ds⟩ K:=by
 refine⟨k,[],[],ys,v,hr,?_,h1,hk,h2,?_,h⟩
 ·simpa using hy
 ·simpa using h3

theorem put_put:∀ {m:Qj} {l s:Nat} {o o':Ob},Am.put (Am.put m l s o) l s o'=Am.put m l s o'
 | [],_,_,_,_=>rfl
 |fr :: m,0,s,o,o'=>by simp only[Am.put,upd_upd']
 |fr :: m,l+1,s,o,o'=>by simp only[Am.put,put_put (m:=m)]
where
 upd_upd' {f:Nat→Ob} {d:Nat} {x y:Ob}:QI (QI f d x) d y=QI f d y:=by
  funext i;simp only[QI];cases Nat.beq i d<;>rfl

theorem put_self:∀ {m:Qj} {l s:Nat} {o:Ob},Qd m l s=o→Am.put m l s o=m
 | [],_,_,_,_=>rfl
 |fr :: m,0,s,o,h=>by
  simp only[Am.put];congr 1
  funext i;simp only[QI];cases hb:Nat.beq i s with
  |false=>rfl
  |true=>rw[QPz hb];exact h.symm
 |fr :: m,l+1,s,o,h=>by simp only[Am.put,put_self (m:=m) h]

section
variable {m:Qj}{fr:Nat→Ob}{lv s g sz n i:Nat}{cur:List AV}{x y:AV}

theorem Ww (hlv:lv<m.length)(hx:cur[i]? = some x)(he:Ez E sz x):Q6 (fr :: Am.put m lv s (.vec g sz cur)) (some sz) (.vptr (lv+1) s g i 0)=some x:=by
 have e:Qd (fr :: Am.put m lv s (.vec g sz cur)) (lv+1) s=.vec g sz cur:=Ql hlv;simp only[Q6,e,if_true,hx,he.part]

theorem UT (hlv:lv<m.length)(hx:cur[i]? = some x)(he:Ez E sz x)(hy:Ez E sz y)(h0:sz≠0):Q9 (fr :: Am.put m lv s (.vec g sz cur)) (.vptr (lv+1) s g i 0) y.cells=some (fr :: Am.put m lv s (.vec g sz (cur.set i y))):=by
 have e:Qd (fr :: Am.put m lv s (.vec g sz cur)) (lv+1) s=.vec g sz cur:=Ql hlv;obtain⟨_,l,rfl,hl,_,_,_⟩:=he;obtain⟨_,k,rfl,hk,hf,_,_⟩:=hy;have hc:0+(AV.agg k).cells.length≤(AV.agg l).cells.length∧(AV.agg k).cells.length≠0∧AV.rfL (AV.agg k).cells=true:=by
  simp only[AV.cells];exact⟨by omega,by omega,hf⟩
 simp only[Q9,e,if_true,hx,QP5 hc];have hs:splice l 0 k=k:=by
  simp only[splice,QQI,QPX,QQi];rw[QQd (by omega),QQD]
 simp only[Km,AV.cells,hs,Am.put,put_put]

theorem Wx (hlv:lv<m.length)(hi:i<n):Qf (fr :: Am.put m lv s (.vec g sz cur)) sz none (.vec (lv+1) s g 0 n false) ((i:Nat):Int)=some (.vptr (lv+1) s g i 0):=by
 have e:Qd (fr :: Am.put m lv s (.vec g sz cur)) (lv+1) s=.vec g sz cur:=Ql hlv;simp only[Qf,e,QQ2];rw[QP5 (by omega),QP5 ⟨trivial,trivial,hi⟩,QQi]

end

theorem put_len:∀ {m:Qj} {l s:Nat} {o:Ob},(Am.put m l s o).length=m.length
 | [],_,_,_=>rfl
 |_ :: _,0,_,_=>rfl
 |fr :: m,l+1,s,o=>by simp only[Am.put,QPP,put_len (m:=m)]

end Go.Proofs.YtfgchfdkiomfpaaGreat.Am

namespace Go.Proofs.YtfgchfdkiomfpaaGreat.Tz
open Go Am Bt Tg
variable {Pg:Program}{cz sr ro sm is st ss:Nat}(hC:Tg.Cs Pg cz sr ro sm is st ss)(hcz:cz≠0)

variable {E:AV→Prop}

def BQ (X cur:List AV)(p q i:Nat):Prop :=
 cur.length=X.length∧∀j,cur[j]? = if p≤j∧j<p+i then X[q+(j-p)]? else if q≤j∧j<q+i then X[p+(j-q)]? else X[j]?

theorem BQ.step {X cur:List AV}{p q i n:Nat}(h:BQ X cur p q i)(hi:i<n)(hpq:p+n≤q)(hq:q+n≤X.length){x y:AV}(hx:X[q+i]? = some x)(hy:X[p+i]? = some y) :
  BQ X ((cur.set (p+i) x).set (q+i) y) p q (i+1):=by
 obtain⟨h1,h2⟩:=h;refine⟨by simp[h1],fun j=>?_⟩;rw[List.getElem?_set,List.length_set,h1,List.getElem?_set,h1,h2 j];by_cases a:q+i=j
 ·subst a;rw[QP5 rfl,QP5 (by omega),QPO (by omega),QP5 (by omega),show p+(q+i-q)=p+i by omega,hy]
 ·rw[QPO a];by_cases b:p+i=j
  ·subst b;rw[QP5 rfl,QP5 (by omega),QP5 (by omega),show q+(p+i-p)=q+i by omega,hx]
  ·rw[QPO b]
   repeat' split
   all_goals first|rfl|(exfalso;omega)|(congr 1;omega)

theorem BQ.done {P A M B S cur:List AV}(h:BQ (P++A++M++B++S) cur P.length (P.length+A.length+M.length) A.length)(hAB:A.length=B.length):cur=P++B++M++A++S:=by
 apply List.ext_getElem?
 intro j;rw[h.2 j];simp only[List.getElem?_append,QQe]
 repeat' split
 all_goals first|rfl|(exfalso;omega)|(congr 1;omega)

def SwS (cz:Nat)(m:Qj)(lv s g N p q n:Nat)(X:List AV)(k:Nat)(st:St):Prop :=
 ∃f i cur,st=⟨f,[QE]++Am.put m lv s (.vec g cz cur),[]⟩∧k=n-i∧i≤n∧BQ X cur p q i∧
  f 0=.vec (lv+1) s g 0 N false∧f 1=.int .i64 (p:Nat)∧f 2=.int .i64 (q:Nat)∧f 3=.int .i64 (n:Nat)∧f 10=.int .i64 (i:Nat)

include hC hcz in
theorem QLd (cmp:AV)(lv s g:Nat)(P A M B S:List AV)(m:Qj)(hl:Am.Qd m lv s=.vec g cz (P++A++M++B++S))(hAB:A.length=B.length)(he:∀x∈P++A++M++B++S,Ez E cz x)
  (hn:(P++A++M++B++S).length<4611686018427387904) :
  Qx Pg sr [.vec lv s g 0 (P++A++M++B++S).length false,.int .i64 (P.length:Nat),.int .i64 ((P.length+A.length+M.length:Nat):Int),.int .i64 (A.length:Nat),cmp] m
   (fun x m1=>x=.tup []∧m1=Am.put m lv s (.vec g cz (P++B++M++A++S))):=by
 have _:=hC;have _:=hcz;have hlv:lv<m.length:=Xa (by rw[hl];simp);have hlen:(P++A++M++B++S).length=P.length+A.length+M.length+B.length+S.length:=by simp only[QQe]
 refine hC.csr.go (by simp) ?_;simp only[TN,rsr,osr,Qb,seval];have h0:m=Am.put m lv s (.vec g cz (P++A++M++B++S)):=(put_self hl).symm;generalize hX:P++A++M++B++S=X at *;generalize hp:P.length=p at *;generalize hq:p+A.length+M.length=q at *;generalize hnn:A.length=n at *;refine Qg (SwS cz m lv s g X.length p q n X) _ ⟨_,0,X,by rw[←h0]<;>rfl,rfl,QPJ _,⟨rfl,fun j=>?_⟩,by simp only[Qb,seval],by simp only[Qb,seval],by simp only[Qb,seval],by simp only[Qb,seval],by simp only[Qb,seval]<;>rfl⟩ ?_
 ·rw[QPO (by omega),QPO (by omega)]
 rintro k st ⟨f,i,cur,rfl,rfl,hi,hsw,f0,f1,f2,f3,f10⟩;simp only[TR,TO,TP,TQ,f3,f10,Qb,seval];by_cases hlt:i<n
 ·have d0:decide ((i:Int)<(n:Int))=true:=by simp;omega
  have e1:IntKind.i64.wrap ((p:Int)+(i:Int))=((p+i:Nat):Int):=by rw[QB];omega
  have e2:IntKind.i64.wrap ((q:Int)+(i:Int))=((q+i:Nat):Int):=by rw[QB];omega
  have e3:IntKind.i64.wrap ((i:Int)+1)=((i+1:Nat):Int):=by rw[QB];omega
  obtain⟨x,hx⟩:∃x,X[q+i]? = some x:=⟨_,QPE (by omega)⟩;obtain⟨y,hy⟩:∃y,X[p+i]? = some y:=⟨_,QPE (by omega)⟩;have ex:=he x (QPN hx);have ey:=he y (QPN hy);have cx:cur[q+i]? = some x:=by rw[hsw.2,QPO (by omega),QPO (by omega),hx]
  have cy:cur[p+i]? = some y:=by rw[hsw.2,QPO (by omega),QPO (by omega),hy]
  have cx':(cur.set (p+i) x)[q+i]? = some x:=by rw[List.getElem?_set_ne (by omega),cx]
  simp only[d0,e1,e2,e3,f0,f1,f2,f10,Wx hlv (show q+i<X.length by omega),Wx hlv (show p+i<X.length by omega),Ww hlv cx ex,Ww hlv cy ey,ex.len,ey.len,ex.leaf,ey.leaf,UT hlv cy ey ex hcz,UT hlv cx' ex ey hcz,Qb,seval];exact⟨n-(i+1),by omega,_,i+1,_,rfl,rfl,by omega,hsw.step hlt (by omega) (by omega) hx hy,by simp only[f0,Qb,seval],by simp only[f1,Qb,seval],by simp only[f2,Qb,seval],by simp only[f3,Qb,seval],by simp only[Qb,seval]⟩
 ·have d0:decide ((i:Int)<(n:Int))=false:=by simp;omega
  have hin:i=n:=by omega
  subst hin;have hc:=BQ.done (P:=P) (A:=A) (M:=M) (B:=B) (S:=S) (cur:=cur) (by rw[hX,hp,hnn,hq];exact hsw) (by omega);simp only[d0,hc,put_len,Qb,seval]

include hC hcz in
theorem DB (cmp:AV){fr:Nat→Ob}{lv s g N a b n:Nat}(P A M B S:List AV){m:Qj}(hlv:lv<m.length)(hAB:A.length=B.length)(he:∀x∈P++A++M++B++S,Ez E cz x)
  (hn:(P++A++M++B++S).length<4611686018427387904) (hN:N=(P++A++M++B++S).length) (ha:a=P.length) (hb:b=P.length+A.length+M.length) (hc:n=A.length) :
  Qx Pg sr [.vec (lv+1) s g 0 N false,.int .i64 (a:Nat),.int .i64 (b:Nat),.int .i64 (n:Nat),cmp] (fr :: Am.put m lv s (.vec g cz (P++A++M++B++S)))
   (fun x m1=>x=.tup []∧m1=fr :: Am.put m lv s (.vec g cz (P++B++M++A++S))):=by
 have _:=hC;have _:=hcz;subst hN ha hb hc;refine(QLd hC hcz cmp (lv+1) s g P A M B S (fr :: Am.put m lv s (.vec g cz (P++A++M++B++S))) (Ql (m:=m) hlv) hAB he hn).mono fun x m1 h=>⟨h.1,?_⟩
 rw[h.2];simp only[Am.put,put_put]

def RoS (cz:Nat)(E:AV→Prop)(m:Qj)(lv s g N mid:Nat)(T:List AV)(cmp:AV)(k:Nat)(st:St):Prop :=
 ∃f P A B S,st=⟨f,[QE]++Am.put m lv s (.vec g cz (P++A++B++S)),[]⟩∧k=A.length+B.length∧0<A.length∧0<B.length∧P.length+A.length=mid∧P++B++A++S=T∧(P++A++B++S).length=N∧(∀x∈P++A++B++S,Ez E cz x)∧
  f 0=.vec (lv+1) s g 0 N false∧f 2=.int .i64 (mid:Nat)∧f 4=cmp∧f 10=.int .i64 (A.length:Nat)∧f 11=.int .i64 (B.length:Nat)

include hC hcz in
theorem QLe (cmp:AV)(lv s g:Nat)(P X Y S:List AV)(m:Qj)(hl:Am.Qd m lv s=.vec g cz (P++X++Y++S))(hX:0<X.length)(hY:0<Y.length)(he:∀x∈P++X++Y++S,Ez E cz x)
  (hn:(P++X++Y++S).length<4611686018427387904) :
  Qx Pg ro [.vec lv s g 0 (P++X++Y++S).length false,.int .i64 (P.length:Nat),.int .i64 ((P.length+X.length:Nat):Int),.int .i64 ((P.length+X.length+Y.length:Nat):Int),cmp] m
   (fun x m1=>x=.tup []∧m1=Am.put m lv s (.vec g cz (P++Y++X++S))):=by
 have _:=hC;have _:=hcz;have hlv:lv<m.length:=Xa (by rw[hl];simp);have hlen:(P++X++Y++S).length=P.length+X.length+Y.length+S.length:=by simp only[QQe]
 refine hC.cro.go (by simp) ?_;have e1:IntKind.i64.wrap (((P.length+X.length:Nat):Int)-(P.length:Int))=((X.length:Nat):Int):=by rw[QB];omega
 have e2:IntKind.i64.wrap (((P.length+X.length+Y.length:Nat):Int)-((P.length+X.length:Nat):Int))=((Y.length:Nat):Int):=by rw[QB];omega
 simp only[TS,TT,T2,rro,oro,e1,e2,Qb,seval];have h0:m=Am.put m lv s (.vec g cz (P++X++Y++S)):=(put_self hl).symm;refine Qg (RoS cz E m lv s g (P++X++Y++S).length (P.length+X.length) (P++Y++X++S) cmp.sh) _ ⟨_,P,X,Y,S,by rw[←h0]<;>rfl,rfl,hX,hY,rfl,rfl,rfl,he,by simp only[Qb,seval],by simp only[Qb,seval],by simp only[Qb,seval],by simp only[Qb,seval],by simp only[Qb,seval]⟩ ?_;generalize hT:P++Y++X++S=T;generalize hN:(P++X++Y++S).length=N at *;generalize hmid:P.length+X.length=mid at *;clear hl he h0 hX hY e1 e2;rintro k st ⟨f,P',A,B,S',rfl,rfl,hA,hB,hm,hTT,hNN,hee,f0,f2,f4,f10,f11⟩;have hlen':(P'++A++B++S').length=P'.length+A.length+B.length+S'.length:=by simp only[QQe]
 simp only[T1,TU,TV,TW,TX,TZ,T0,f10,f11,Qb,seval];by_cases hij:A.length=B.length
 ·have d0:((A.length:Int) != (B.length:Int))=false:=by simp;omega
  have e1:IntKind.i64.wrap ((mid:Int)-(A.length:Int))=((P'.length:Nat):Int):=by rw[QB];omega
  simp only[d0,e1,f0,f2,f4,f10,Qb,seval];have hc:=DB hC hcz cmp.sh (fr:=QE) (g:=g) (s:=s) (N:=N) (a:=P'.length) (b:=mid) (n:=A.length) P' A [] B S' hlv hij (by simpa using hee) (by simp only[QQD];omega) (by simp only[QQD];omega) rfl (by simp only[QQv];omega) rfl;simp only[QQD]at hc;refine QU hc rfl ?_;simp only[hTT,put_len,Qb,seval]
 ·have d0:((A.length:Int) != (B.length:Int))=true:=by simp;omega
  simp only[d0,f10,f11,Qb,seval];by_cases hgt:B.length<A.length
  ·have d1:decide ((A.length:Int) > (B.length:Int))=true:=by simp;omega
   have e1:IntKind.i64.wrap ((mid:Int)-(A.length:Int))=((P'.length:Nat):Int):=by rw[QB];omega
   have e2:IntKind.i64.wrap ((A.length:Int)-(B.length:Int))=((A.length-B.length:Nat):Int):=by rw[QB];omega
   simp only[d1,e1,f0,f2,f4,f10,f11,Qb,seval];have hcut:P'++A++B++S'=P'++A.take B.length++A.drop B.length++B++S':=by
    rw[QPV P' (A.take _),QQQ]
   have hl1:(A.take B.length).length=B.length:=by simp;omega
   rw[hcut]at hee hNN ⊢;refine QU (DB hC hcz cmp.sh (a:=P'.length) (b:=mid) (n:=B.length) P' (A.take B.length) (A.drop B.length) B S' hlv hl1 hee (by omega) hNN.symm rfl (by rw[hl1];simp;omega) hl1.symm) rfl ?_;simp only[e2,f10,f11,Qb,seval];have hcat:P'++B++A.drop B.length++A.take B.length++S'=(P'++B)++A.drop B.length++A.take B.length++S':=rfl;refine⟨(A.drop B.length).length+(A.take B.length).length,?_,_,P'++B,A.drop B.length,A.take B.length,S',rfl,rfl,by simp;omega,by omega,by simp;omega,?_,?_,?_,by simp only[f0,Qb,seval],by simp only[f2,Qb,seval],by simp only[f4,Qb,seval],by simp only[QQh,Qb,seval],by simp only[f11,hl1,Qb,seval]⟩
   ·simp;omega
   ·rw[←hTT];simp only[QPV];rw[←QPV (A.take _),QQQ]
   ·rw[←hNN];simp only[QQe];omega
   ·intro x hx;refine hee x ?_;simp only[QQS]at hx ⊢
    grind
  ·have d1:decide ((A.length:Int) > (B.length:Int))=false:=by simp;omega
   have e1:IntKind.i64.wrap ((mid:Int)-(A.length:Int))=((P'.length:Nat):Int):=by rw[QB];omega
   have e2:IntKind.i64.wrap ((B.length:Int)-(A.length:Int))=((B.length-A.length:Nat):Int):=by rw[QB];omega
   have e3:IntKind.i64.wrap ((mid:Int)+(B.length:Int))=((mid+B.length:Nat):Int):=by rw[QB];omega
   have e4:IntKind.i64.wrap (((mid+B.length:Nat):Int)-(A.length:Int))=((mid+B.length-A.length:Nat):Int):=by rw[QB];omega
   simp only[d1,e1,e3,e4,f0,f2,f4,f10,f11,Qb,seval];have hcut:P'++A++B++S'=P'++A++B.take (B.length-A.length)++B.drop (B.length-A.length)++S':=by
    rw[QPV (P'++A) (B.take _),QQQ]
   have hl1:(B.take (B.length-A.length)).length=B.length-A.length:=by simp
   have hl2:(B.drop (B.length-A.length)).length=A.length:=by simp;omega
   rw[hcut]at hee hNN ⊢;refine QU (DB hC hcz cmp.sh (a:=P'.length) (b:=mid+B.length-A.length) (n:=A.length) P' A (B.take (B.length-A.length)) (B.drop (B.length-A.length)) S' hlv hl2.symm hee (by omega) hNN.symm rfl (by rw[hl1];omega) rfl) rfl ?_;simp only[e2,f10,f11,Qb,seval];refine⟨(B.drop (B.length-A.length)).length+(B.take (B.length-A.length)).length,?_,_,P',B.drop (B.length-A.length),B.take (B.length-A.length),A++S',by simp only[QPV]<;>rfl,rfl,by omega,by omega,by omega,?_,?_,?_,by simp only[f0,Qb,seval],by simp only[f2,Qb,seval],by simp only[f4,Qb,seval],by simp only[f10,hl2,Qb,seval],by simp only[hl1,Qb,seval]⟩
   ·omega
   ·rw[←hTT];simp only[QPV];rw[←QPV (B.take _),QQQ]
   ·rw[←hNN];simp only[QQe];omega
   ·intro x hx;refine hee x ?_;simp only[QQS]at hx ⊢
    grind

end Go.Proofs.YtfgchfdkiomfpaaGreat.Tz

namespace Go.Proofs.YtfgchfdkiomfpaaGreat.Tz
open Go Am Bt Tg So
variable {Pg:Program}{cz sr ro sm is st ss:Nat}(hC:Tg.Cs Pg cz sr ro sm is st ss)(hcz:cz≠0)

variable {E:AV→Prop}

def lt (c:AV→AV→Int)(x y:AV):Bool:=decide (c x y<0)

structure Cp (Pg:Program)(cz:Nat)(E:AV→Prop)(kc:Nat)(c:AV→AV→Int):Prop where
 call:∀x y,Ez E cz x→Ez E cz y→Qh Pg kc [x,y] (.int .i64 (c x y))
 sw:SW (lt c)

def InS (cz:Nat)(m:Qj)(lv s g N i p:Nat)(kc:Nat)(c:AV→AV→Int)(P L S:List AV)(x:AV)(k:Nat)(st:St):Prop :=
 ∃f U V,st=⟨f,[QE]++Am.put m lv s (.vec g cz (P++U++[x]++V++S)),[]⟩∧k=U.length∧U++V=L∧(∀v∈V,lt c x v=true)∧
  f 0=.vec (lv+1) s g 0 N false∧f 1=.int .i64 (P.length:Nat)∧f 2=.int .i64 (p:Nat)∧f 3=.fn (.func kc) [] []∧f 8=.int .i64 (i:Nat)∧f 9=.int .i64 ((P.length+U.length:Nat):Int)

def IoS (cz:Nat)(m:Qj)(lv s g N:Nat)(kc:Nat)(c:AV→AV→Int)(P X S:List AV)(k:Nat)(st:St):Prop :=
 ∃f i,st=⟨f,[QE]++Am.put m lv s (.vec g cz (P++QC (lt c) (X.take i)++X.drop i++S)),[]⟩∧k=X.length+1-i∧1≤i∧(i≤X.length∨(i=1∧X=[]))∧
  f 0=.vec (lv+1) s g 0 N false∧f 1=.int .i64 (P.length:Nat)∧f 2=.int .i64 ((P.length+X.length:Nat):Int)∧f 3=.fn (.func kc) [] []∧f 8=.int .i64 ((P.length+i:Nat):Int)

theorem CU {α:Type}(U:List α)(h:0<U.length):∃W u,U=W++[u]:=by
 rcases List.eq_nil_or_concat U with rfl|⟨W,u,e⟩
 ·simp at h
 ·exact⟨W,u,by simpa using e⟩

theorem UU {α:Type}{P W V:List α}{u:α}{i:Nat}(h:i=P.length+W.length):(P++(W++[u])++V)[i]? = some u:=by
 subst h;simp

include hC hcz in
theorem QLf {kc:Nat}{c:AV→AV→Int}(hc:Cp Pg cz E kc c)(lv s g:Nat)(P X S:List AV)(m:Qj)(hl:Am.Qd m lv s=.vec g cz (P++X++S))(he:∀x∈P++X++S,Ez E cz x)
  (hn:(P++X++S).length<4611686018427387904) :
  Qx Pg is [.vec lv s g 0 (P++X++S).length false,.int .i64 (P.length:Nat),.int .i64 ((P.length+X.length:Nat):Int),.fn (.func kc) [] []] m
   (fun x m1=>x=.tup []∧m1=Am.put m lv s (.vec g cz (P++QC (lt c) X++S))):=by
 have _:=hC;have _:=hcz;have hlv:lv<m.length:=Xa (by rw[hl];simp);have hlen:(P++X++S).length=P.length+X.length+S.length:=by simp only[QQe]
 refine hC.cis.go (by simp) ?_;have e1:IntKind.i64.wrap ((P.length:Int)+1)=((P.length+1:Nat):Int):=by rw[QB];omega
 simp only[Ac,ris,ois,e1,Qb,seval];have h0:m=Am.put m lv s (.vec g cz (P++QC (lt c) (X.take 1)++X.drop 1++S)):=by
  have:P++QC (lt c) (X.take 1)++X.drop 1++S=P++X++S:=by
   cases X with
   |nil=>simp[QC]
   |cons x X=>simp[QC,ZX]
  rw[this];exact(put_self hl).symm
 generalize hN:(P++X++S).length=N at *;refine Qg (IoS cz m lv s g N kc c P X S) _ ⟨_,1,by rw[←h0]<;>rfl,rfl,QPB _,by
  cases X with
  |nil=>exact .inr ⟨rfl,rfl⟩
  |cons x X=>exact .inl (by simp),by simp only[Qb,seval],by simp only[Qb,seval],by simp only[Qb,seval],by simp only[Qb,seval],by simp only[Qb,seval]⟩ ?_
 clear h0 e1;rintro k st ⟨f,i,rfl,rfl,hi1,hi2,f0,f1,f2,f3,f8⟩;simp only[Aj,Al,Ad,Ae,Ag,Ah,Ai,Ak,f2,f8,Qb,seval];by_cases hlt:i<X.length
 ·have d0:decide (((P.length+i:Nat):Int)<((P.length+X.length:Nat):Int))=true:=by simp only[QQW];omega
  simp only[d0,f8,Qb,seval];obtain⟨x,hx⟩:∃x,X[i]? = some x:=⟨_,QPE hlt⟩;have ex:Ez E cz x:=he x (by simp[QPN hx]);have hL:(QC (lt c) (X.take i)).length=i:=by rw[JG,QQw];omega
  have heL:∀z∈QC (lt c) (X.take i),Ez E cz z:=fun z hz=>he z (by simp[QQo (UL hz)])
  have hdrop:X.drop i=[x]++X.drop (i+1):=by
   rw[List.singleton_append,QQk hlt];congr 1
   exact(QPD.1 hx).2
  have htake:QC (lt c) (X.take (i+1))=mg (lt c) (QC (lt c) (X.take i)) [x]:=by
   rw[QRm,hx,Option.toList_some,←Kf hc.sw]<;>rfl
  refine Qg (InS cz m lv s g N (P.length+i) (P.length+X.length) kc c P (QC (lt c) (X.take i)) (X.drop (i+1)++S) x) _ ⟨_,QC (lt c) (X.take i),[],by rw[hdrop];simp only[QPV,QQD]<;>rfl,rfl,QQD _,by simp,by simp only[f0,Qb,seval],by simp only[f1,Qb,seval],by simp only[f2,Qb,seval],by simp only[f3,Qb,seval],by simp only[f8,Qb,seval],by simp only[hL,Qb,seval]⟩ ?_;rintro k' st ⟨f,U,V,rfl,rfl,hUV,hV,f0,f1,f2,f3,f8,f9⟩;have hUVl:U.length+V.length=i:=by rw[←QQe,hUV,hL]
  have hrow:(P++U++[x]++V++(X.drop (i+1)++S)).length=N:=by
   rw[←hN];simp only[QQe,QQh,QQ6];omega
  simp only[f1,f9,Qb,seval];have e4:IntKind.i64.wrap (((P.length+i:Nat):Int)+1)=((P.length+(i+1):Nat):Int):=by rw[QB];omega
  have fin:(∀u∈U,lt c x u=false)→P++U++[x]++V++(X.drop (i+1)++S)=P++QC (lt c) (X.take (i+1))++X.drop (i+1)++S:=by
   intro h;rw[htake,←hUV,K1 h hV];simp
  by_cases hU:0<U.length
  ·obtain⟨W,u,rfl⟩:=CU U hU;simp only[QQe,QQ6]at hUVl hrow f9;have d1:decide (((P.length+(W.length+1):Nat):Int) > (P.length:Int))=true:=by simp only[QQW];omega
   have e2:IntKind.i64.wrap (((P.length+(W.length+1):Nat):Int)-1)=((P.length+W.length:Nat):Int):=by rw[QB];omega
   have eu:Ez E cz u:=heL u (by rw[←hUV];simp);have hx1:(P++(W++[u])++[x]++V++(X.drop (i+1)++S))[P.length+(W.length+1)]? = some x:=by
    have:=UU (P:=P) (W:=W++[u]) (u:=x) (V:=V++(X.drop (i+1)++S)) (i:=P.length+(W.length+1)) (by simp)
    simpa only [QPV]using this
   have hu1:(P++(W++[u])++[x]++V++(X.drop (i+1)++S))[P.length+W.length]? = some u:=by
    have:=UU (P:=P) (W:=W) (u:=u) (V:=[x]++V++(X.drop (i+1)++S)) (i:=P.length+W.length) rfl
    simpa only [QPV]using this
   simp only[d1,e2,f0,f3,f9,QQe,Wx hlv (show P.length+(W.length+1)<N by omega),Wx hlv (show P.length+W.length<N by omega),Ww hlv hx1 ex,Ww hlv hu1 eu,Qb,seval];refine WE (by simp only[Qb,seval]) (hc.call x u ex eu) (Yk ex eu _) (Wk ex eu) rfl (.inl (Wk ex eu)) ?_;cases hcx:decide (c x u<0)with
   |true=>
    have hset:((P++(W++[u])++[x]++V++(X.drop (i+1)++S)).set (P.length+(W.length+1)) u).set (P.length+W.length) x=P++W++[x]++([u]++V)++(X.drop (i+1)++S):=by
     simp[QPV]
    have hx2:((P++(W++[u])++[x]++V++(X.drop (i+1)++S)).set (P.length+(W.length+1)) u)[P.length+W.length]? = some u:=by
     rw[List.getElem?_set_ne (by omega),hu1]
    simp only[hcx,e2,f0,f9,Wx hlv (show P.length+(W.length+1)<N by omega),Wx hlv (show P.length+W.length<N by omega),Ww hlv hx1 ex,Ww hlv hu1 eu,ex.len,eu.len,ex.leaf,eu.leaf,UT hlv hx1 ex eu hcz,UT hlv hx2 eu ex hcz,Qb,seval];exact⟨W.length,by simp,_,W,[u]++V,by rw[hset]<;>rfl,rfl,by rw[←hUV];simp,by
     intro v hv;rcases QQS.1 hv with hv|hv
     ·rw[QRx.1 hv];exact hcx
     ·exact hV v hv,by simp only[f0,Qb,seval],by simp only[f1,Qb,seval],by simp only[f2,Qb,seval],by simp only[f3,Qb,seval],by simp only[f8,Qb,seval],by simp only[Qb,seval]⟩
   |false=>
    have hz:∀z∈W++[u],lt c x z=false:=by
     have hsrt:=XW hc.sw (X.take i);have hsrt:X7 (lt c) ((W++[u])++V):=by rw[hUV];exact hsrt
     have hs2:=(QRa.1 (QRa.1 hsrt).1).2.2;intro z hz;rcases QQS.1 hz with hz|hz
     ·exact hc.sw.nt x u z hcx (hs2 z hz u (by simp))
     ·rw[QRx.1 hz];exact hcx
    simp only[hcx,f8,e4,Qb,seval];exact⟨X.length+1-(i+1),by omega,_,i+1,by rw[fin hz]<;>rfl,rfl,by omega,.inl (by omega),by simp only[f0,Qb,seval],by simp only[f1,Qb,seval],by simp only[f2,Qb,seval],by simp only[f3,Qb,seval],by simp only[Qb,seval]⟩
  ·have hU0:U=[]:=QQE (by omega);subst hU0;have d1:decide (((P.length+0:Nat):Int) > (P.length:Int))=false:=by simp
   have fin0:=fin (by simp);simp only[QQD]at fin0;simp only[QQv]at f9;simp only[d1,f8,e4,QQv,Qb,seval];exact⟨X.length+1-(i+1),by omega,_,i+1,by rw[fin0]<;>rfl,rfl,by omega,.inl (by omega),by simp only[f0,Qb,seval],by simp only[f1,Qb,seval],by simp only[f2,Qb,seval],by simp only[f3,Qb,seval],by simp only[Qb,seval]⟩
 ·have d0:decide (((P.length+i:Nat):Int)<((P.length+X.length:Nat):Int))=false:=by simp only[QRr];omega
  have hX:QC (lt c) (X.take i)++X.drop i=QC (lt c) X:=by
   rcases hi2 with h|⟨_,rfl⟩
   ·rw[QQa (by omega),QQd (by omega),QQD]
   ·simp[QC]
  have hX2:P++QC (lt c) (X.take i)++X.drop i++S=P++QC (lt c) X++S:=by rw[QPV P (QC (lt c) (X.take i)) (X.drop i),hX]
  simp only[d0,hX2,put_len,Qb,seval]

end Go.Proofs.YtfgchfdkiomfpaaGreat.Tz

namespace Go.Proofs.YtfgchfdkiomfpaaGreat.Tz
open Go Am Bt Tg So
variable {Pg:Program}{cz sr ro sm is st ss:Nat}(hC:Tg.Cs Pg cz sr ro sm is st ss)(hcz:cz≠0)

variable {E:AV→Prop}

theorem CV (a b:Nat)(h:a+b<9223372036854775808):IntKind.i64.wrap ((IntKind.u64.wrap ((a+b:Nat):Int)).fdiv (2 ^ min 1 64))=(((a+b) / 2:Nat):Int):=by
 rw[QB,XY,show min 1 64=1 from rfl,show(2:Int) ^ 1=2 from rfl];have:(((a+b:Nat):Int) % 18446744073709551616)=((a+b:Nat):Int):=by omega
 rw[this,Int.fdiv_eq_ediv_of_nonneg _ (by omega)];omega

def SaS (cz:Nat)(m:Qj)(lv s g N:Nat)(kc:Nat)(c:AV→AV→Int)(P Y S:List AV)(x:AV)(k:Nat)(st:St):Prop :=
 ∃f i j,st=⟨f,[QE]++Am.put m lv s (.vec g cz (P++[x]++Y++S)),[]⟩∧k=j-i∧i≤j∧j≤Y.length∧(∀k y,k<i→Y[k]? = some y→lt c y x=true)∧(∀k y,j≤k→Y[k]? = some y→lt c y x=false)∧
  f 0=.vec (lv+1) s g 0 N false∧f 1=.int .i64 (P.length:Nat)∧f 4=.fn (.func kc) [] []∧f 10=.int .i64 ((P.length+1+i:Nat):Int)∧f 11=.int .i64 ((P.length+1+j:Nat):Int)

def SaT (cz:Nat)(m:Qj)(lv s g N i:Nat)(P Y S:List AV)(x:AV)(k:Nat)(st:St):Prop :=
 ∃f t,st=⟨f,[QE]++Am.put m lv s (.vec g cz (P++Y.take t++[x]++Y.drop t++S)),[]⟩∧k=i-t∧t≤i∧
  f 0=.vec (lv+1) s g 0 N false∧f 10=.int .i64 ((P.length+1+i:Nat):Int)∧f 13=.int .i64 ((P.length+t:Nat):Int)

include hC hcz in
theorem QLg {kc:Nat}{c:AV→AV→Int}(hc:Cp Pg cz E kc c)(lv s g:Nat)(P:List AV)(x:AV)(Y S:List AV)(m:Qj)(hl:Am.Qd m lv s=.vec g cz (P++[x]++Y++S))(he:∀z∈P++[x]++Y++S,Ez E cz z)
  (hn:(P++[x]++Y++S).length<4611686018427387904) (hY:X7 (lt c) Y) :
  Qx Pg sm [.vec lv s g 0 (P++[x]++Y++S).length false,.int .i64 (P.length:Nat),.int .i64 ((P.length+1:Nat):Int),.int .i64 ((P.length+1+Y.length:Nat):Int),.fn (.func kc) [] []] m
   (fun v m1=>v=.tup []∧m1=Am.put m lv s (.vec g cz (P++mg (lt c) [x] Y++S))):=by
 have _:=hC;have _:=hcz;have hlv:lv<m.length:=Xa (by rw[hl];simp);have hlen:(P++[x]++Y++S).length=P.length+1+Y.length+S.length:=by simp only[QQe,QQ6]
 have ex:Ez E cz x:=he x (by simp);have eY:∀y∈Y,Ez E cz y:=fun y hy=>he y (by simp[hy])
 refine hC.csm.go (by simp) ?_;have e1:IntKind.i64.wrap (((P.length+1:Nat):Int)-(P.length:Int))=1:=by rw[QB];omega
 simp only[Fq,CO,CP,CQ,GK,BE,BF,BL,GL,GM,GN,GP,GQ,GR,GS,GT,GU,YH,YI,YJ,W0,W2,KE,KG,Ab,G3,e1,QQJ,Qb,seval];have h0:m=Am.put m lv s (.vec g cz (P++[x]++Y++S)):=(put_self hl).symm;generalize hN:(P++[x]++Y++S).length=N at *;refine Qg (SaS cz m lv s g N kc c P Y S x) _ ⟨_,0,Y.length,by rw[←h0]<;>rfl,rfl,QPJ _,QPB _,(by intro k y hk;exact absurd hk (Nat.not_lt_zero _)),(by intro k y hk hy;rw[QQY hk]at hy;cases hy),by simp only[Qb,seval],by simp only[Qb,seval],by simp only[Qb,seval],by simp only[QP7,Qb,seval],by simp only[Qb,seval]⟩ ?_;clear h0 e1;rintro k st ⟨f,i,j,rfl,rfl,hij,hj,hp,hq,f0,f1,f4,f10,f11⟩;simp only[T8,Aa,CR,CS,G0,T3,T4,T5,T6,T7,T9,PH,PJ,BG,BH,BI,BJ,BK,BM,BN,BO,GV,GW,GX,GY,GZ,f10,f11,Qb,seval];by_cases hlt:i<j
 ·have d0:decide (((P.length+1+i:Nat):Int)<((P.length+1+j:Nat):Int))=true:=by simp only[QQW];omega
  have e2:IntKind.i64.wrap (((P.length+1+i:Nat):Int)+((P.length+1+j:Nat):Int))=(((P.length+1+i)+(P.length+1+j):Nat):Int):=by rw[QB];omega
  have e3:=CV (P.length+1+i) (P.length+1+j) (by omega);have e4:((P.length+1+i)+(P.length+1+j)) / 2=P.length+1+(i+j) / 2:=by omega
  rw[e4]at e3;generalize hh:(i+j) / 2=h at *;have hh1:h<j:=by omega
  have hh2:i≤h:=by omega
  have e5:IntKind.i64.wrap (((P.length+1+h:Nat):Int)+1)=((P.length+1+(h+1):Nat):Int):=by rw[QB];omega
  obtain⟨y,hy⟩:∃y,Y[h]? = some y:=⟨_,QPE (by omega)⟩;have ey:=eY y (QPN hy);have gy:(P++[x]++Y++S)[P.length+1+h]? = some y:=by
   rw[QQZ (by simp only[QQe,QQ6];omega),QQ1 (by simp only[QQe,QQ6];omega)];rw[←hy];congr 1;simp only[QQe,QQ6];omega
  have gx:(P++[x]++Y++S)[P.length]? = some x:=by
   have:=UU (P:=P) (W:=[]) (u:=x) (V:=Y++S) (i:=P.length) rfl
   simpa only [QPV,QPX]using this
  simp only[d0,e2,e3,f0,f1,f4,f10,f11,Wx hlv (show P.length+1+h<N by omega),Wx hlv (show P.length<N by omega),Ww hlv gy ey,Ww hlv gx ex,Qb,seval];refine WE (by simp only[Qb,seval]) (hc.call y x ey ex) (Yk ey ex _) (Wk ey ex) rfl (.inl (Wk ey ex)) ?_;cases hcx:decide (c y x<0)with
  |true=>
   simp only[hcx,e5,Qb,seval];exact⟨j-(h+1),by omega,_,h+1,j,rfl,rfl,by omega,hj,fun k z hk hz=>K2 hc.sw hY (Nat.le_of_lt_succ hk) hz hy hcx,hq,by simp only[f0,Qb,seval],by simp only[f1,Qb,seval],by simp only[f4,Qb,seval],by simp only[Qb,seval],by simp only[f11,Qb,seval]⟩
  |false=>
   simp only[hcx,Qb,seval];exact⟨h-i,by omega,_,i,h,rfl,rfl,by omega,by omega,hp,fun k z hk hz=>by
    cases hb:lt c z x with
    |false=>rfl
    |true=>exact absurd (K2 hc.sw hY hk hy hz hb) (by show ¬(decide _=true);rw[hcx];simp),by simp only[f0,Qb,seval],by simp only[f1,Qb,seval],by simp only[f4,Qb,seval],by simp only[f10,Qb,seval],by simp only[Qb,seval]⟩
 ·have d0:decide (((P.length+1+i:Nat):Int)<((P.length+1+j:Nat):Int))=false:=by simp only[QRr];omega
  have hij':j=i:=by omega
  subst hij';simp only[d0,f1,Qb,seval];have hres:mg (lt c) [x] Y=Y.take j++x :: Y.drop j:=by
   have:=LZ (lt:=lt c) (x:=x) (Y1:=Y.take j) (Y2:=Y.drop j) (fun y hy=>by
    obtain⟨k,hk⟩:=QRD hy;rw[QQf]at hk;split at hk
    ·rename_i h;exact hp k y h hk
    ·cases hk) (fun y hy=>by
    obtain⟨k,hk⟩:=QRD hy;rw[QQg]at hk;exact hq _ y (by omega) hk)
   rwa [QQQ]at this
  refine Qg (SaT cz m lv s g N j P Y S x) _ ⟨_,0,by rw[show P++Y.take 0++[x]++Y.drop 0++S=P++[x]++Y++S by simp]<;>rfl,rfl,QPJ _,by simp only[f0,Qb,seval],by simp only[f10,Qb,seval],by simp only[QP7,Qb,seval]⟩ ?_;clear f0 f1 f4 f10 f11 d0 hp hq f;rintro k st ⟨f,t,rfl,rfl,ht,f0,f10,f13⟩;have e6:IntKind.i64.wrap (((P.length+1+j:Nat):Int)-1)=((P.length+j:Nat):Int):=by rw[QB];omega
  have e7:IntKind.i64.wrap (((P.length+t:Nat):Int)+1)=((P.length+(t+1):Nat):Int):=by rw[QB];omega
  simp only[e6,f10,f13,Qb,seval];by_cases hlt:t<j
  ·have d0:decide (((P.length+t:Nat):Int)<((P.length+j:Nat):Int))=true:=by simp only[QQW];omega
   obtain⟨y,hy⟩:∃y,Y[t]? = some y:=⟨_,QPE (by omega)⟩;have ey:=eY y (QPN hy);have hdrop:Y.drop t=[y]++Y.drop (t+1):=by
    rw[List.singleton_append,QQk (by omega)];congr 1
    exact(QPD.1 hy).2
   have htake:Y.take (t+1)=Y.take t++[y]:=by rw[QRm,hy]<;>rfl
   have hlt':(Y.take t).length=t:=by rw[QQw];omega
   have g1:(P++Y.take t++[x]++Y.drop t++S)[P.length+t]? = some x:=by
    have:=UU (P:=P) (W:=Y.take t) (u:=x) (V:=Y.drop t++S) (i:=P.length+t) (by rw[hlt'])
    simpa only [QPV]using this
   have g2:(P++Y.take t++[x]++Y.drop t++S)[P.length+(t+1)]? = some y:=by
    have:=UU (P:=P) (W:=Y.take t++[x]) (u:=y) (V:=Y.drop (t+1)++S) (i:=P.length+(t+1)) (by rw[QQe,hlt']<;>rfl);rw[hdrop]
    simpa only [QPV]using this
   have g3:((P++Y.take t++[x]++Y.drop t++S).set (P.length+t) y)[P.length+(t+1)]? = some y:=by
    rw[List.getElem?_set_ne (by omega),g2]
   have hset:((P++Y.take t++[x]++Y.drop t++S).set (P.length+t) y).set (P.length+(t+1)) x=P++Y.take (t+1)++[x]++Y.drop (t+1)++S:=by
    rw[hdrop,htake];simp[hlt']
   simp only[d0,e7,f0,f13,Wx hlv (show P.length+(t+1)<N by omega),Wx hlv (show P.length+t<N by omega),Ww hlv g1 ex,Ww hlv g2 ey,ex.len,ey.len,ex.leaf,ey.leaf,UT hlv g1 ex ey hcz,UT hlv g3 ey ex hcz,Qb,seval];exact⟨j-(t+1),by omega,_,t+1,by rw[hset]<;>rfl,rfl,by omega,by simp only[f0,Qb,seval],by simp only[f10,Qb,seval],by simp only[Qb,seval]⟩
  ·have d0:decide (((P.length+t:Nat):Int)<((P.length+j:Nat):Int))=false:=by simp only[QRr];omega
   have htj:t=j:=by omega
   subst htj;have hfin:P++Y.take t++[x]++Y.drop t++S=P++mg (lt c) [x] Y++S:=by rw[hres];simp
   simp only[d0,hfin,put_len,Qb,seval]

end Go.Proofs.YtfgchfdkiomfpaaGreat.Tz

namespace Go.Proofs.YtfgchfdkiomfpaaGreat.Tz
open Go Am Bt Tg So
variable {Pg:Program}{cz sr ro sm is st ss:Nat}(hC:Tg.Cs Pg cz sr ro sm is st ss)(hcz:cz≠0)

variable {E:AV→Prop}

def SbS (cz:Nat)(m:Qj)(lv s g N:Nat)(kc:Nat)(c:AV→AV→Int)(P X S:List AV)(y:AV)(k:Nat)(st:St):Prop :=
 ∃f i j,st=⟨f,[QE]++Am.put m lv s (.vec g cz (P++X++[y]++S)),[]⟩∧k=j-i∧i≤j∧j≤X.length∧(∀k x,k<i→X[k]? = some x→lt c y x=false)∧(∀k x,j≤k→X[k]? = some x→lt c y x=true)∧
  f 0=.vec (lv+1) s g 0 N false∧f 2=.int .i64 ((P.length+X.length:Nat):Int)∧f 4=.fn (.func kc) [] []∧f 14=.int .i64 ((P.length+i:Nat):Int)∧f 15=.int .i64 ((P.length+j:Nat):Int)

def SbT (cz:Nat)(m:Qj)(lv s g N i:Nat)(P X S:List AV)(y:AV)(k:Nat)(st:St):Prop :=
 ∃f t,st=⟨f,[QE]++Am.put m lv s (.vec g cz (P++X.take t++[y]++X.drop t++S)),[]⟩∧k=t-i∧i≤t∧t≤X.length∧
  f 0=.vec (lv+1) s g 0 N false∧f 14=.int .i64 ((P.length+i:Nat):Int)∧f 17=.int .i64 ((P.length+t:Nat):Int)

include hC hcz in
theorem QLh {kc:Nat}{c:AV→AV→Int}(hc:Cp Pg cz E kc c)(lv s g:Nat)(P X:List AV)(y:AV)(S:List AV)(m:Qj)(hl:Am.Qd m lv s=.vec g cz (P++X++[y]++S))(he:∀x∈P++X++[y]++S,Ez E cz x)
  (hn:(P++X++[y]++S).length<4611686018427387904) (hX:X7 (lt c) X) (hX1:X.length≠1) :
  Qx Pg sm [.vec lv s g 0 (P++X++[y]++S).length false,.int .i64 (P.length:Nat),.int .i64 ((P.length+X.length:Nat):Int),.int .i64 ((P.length+X.length+1:Nat):Int),.fn (.func kc) [] []] m
   (fun v m1=>v=.tup []∧m1=Am.put m lv s (.vec g cz (P++mg (lt c) X [y]++S))):=by
 have _:=hC;have _:=hcz;have hlv:lv<m.length:=Xa (by rw[hl];simp);have hlen:(P++X++[y]++S).length=P.length+X.length+1+S.length:=by simp only[QQe,QQ6]
 have ey:Ez E cz y:=he y (by simp);have eX:∀x∈X,Ez E cz x:=fun x hx=>he x (by simp[hx])
 refine hC.csm.go (by simp) ?_;have e1:(IntKind.i64.wrap (((P.length+X.length:Nat):Int)-(P.length:Int))==1)=false:=by rw[QB];simp only[QRk,ne_eq];omega
 have e2:(IntKind.i64.wrap (((P.length+X.length+1:Nat):Int)-((P.length+X.length:Nat):Int))==1)=true:=by rw[QB];simp only[QP1];omega
 simp only[Fq,CO,CP,CQ,GK,BE,BF,BL,GL,GM,GN,GP,GQ,GR,GS,GT,GU,YH,YI,YJ,W0,W2,KE,KG,Ab,G3,e1,e2,Qb,seval];have h0:m=Am.put m lv s (.vec g cz (P++X++[y]++S)):=(put_self hl).symm;generalize hN:(P++X++[y]++S).length=N at *;refine Qg (SbS cz m lv s g N kc c P X S y) _ ⟨_,0,X.length,by rw[←h0]<;>rfl,rfl,QPJ _,QPB _,(by intro k y hk;exact absurd hk (Nat.not_lt_zero _)),(by intro k y hk hy;rw[QQY hk]at hy;cases hy),by simp only[Qb,seval],by simp only[Qb,seval],by simp only[Qb,seval],by simp only[QP7,Qb,seval],by simp only[Qb,seval]⟩ ?_;clear h0 e1 e2;rintro k st ⟨f,i,j,rfl,rfl,hij,hj,hp,hq,f0,f2,f4,f14,f15⟩;simp only[CR,CS,G0,BG,BH,BI,BJ,BK,BM,BN,BO,GV,GW,GX,GY,GZ,f14,f15,Qb,seval];by_cases hlt:i<j
 ·have d0:decide (((P.length+i:Nat):Int)<((P.length+j:Nat):Int))=true:=by simp only[QQW];omega
  have e2:IntKind.i64.wrap (((P.length+i:Nat):Int)+((P.length+j:Nat):Int))=(((P.length+i)+(P.length+j):Nat):Int):=by rw[QB];omega
  have e3:=CV (P.length+i) (P.length+j) (by omega);have e4:((P.length+i)+(P.length+j)) / 2=P.length+(i+j) / 2:=by omega
  rw[e4]at e3;generalize hh:(i+j) / 2=h at *;have hh1:h<j:=by omega
  have hh2:i≤h:=by omega
  have e5:IntKind.i64.wrap (((P.length+h:Nat):Int)+1)=((P.length+(h+1):Nat):Int):=by rw[QB];omega
  obtain⟨x,hx⟩:∃x,X[h]? = some x:=⟨_,QPE (by omega)⟩;have ex:=eX x (QPN hx);have gx:(P++X++[y]++S)[P.length+h]? = some x:=by
   rw[QPV,QPV,QQ1 (by omega),QQZ (by omega),←hx];congr 1;omega
  have gy:(P++X++[y]++S)[P.length+X.length]? = some y:=by
   have:=UU (P:=P) (W:=X) (u:=y) (V:=S) (i:=P.length+X.length) rfl
   simpa only [QPV]using this
  simp only[d0,e2,e3,f0,f2,f4,f14,f15,Wx hlv (show P.length+h<N by omega),Wx hlv (show P.length+X.length<N by omega),Ww hlv gy ey,Ww hlv gx ex,Qb,seval];refine WE (by simp only[Qb,seval]) (hc.call y x ey ex) (Yk ey ex _) (Wk ey ex) rfl (.inl (Wk ey ex)) ?_;cases hcx:decide (c y x<0)with
  |true=>
   simp only[hcx,Qb,seval];exact⟨h-i,by omega,_,i,h,rfl,rfl,by omega,by omega,hp,fun k z hk hz=>by
    have:=KD hX hc.sw hk hx hz;cases hb:lt c y z with
    |true=>rfl
    |false=>exact absurd (hc.sw.nt y z x hb this) (by show ¬(decide _=false);rw[hcx];simp),by simp only[f0,Qb,seval],by simp only[f2,Qb,seval],by simp only[f4,Qb,seval],by simp only[f14,Qb,seval],by simp only[Qb,seval]⟩
  |false=>
   simp only[hcx,e5,Qb,seval];exact⟨j-(h+1),by omega,_,h+1,j,rfl,rfl,by omega,hj,fun k z hk hz=>hc.sw.nt y x z hcx (KD hX hc.sw (Nat.le_of_lt_succ hk) hz hx),hq,by simp only[f0,Qb,seval],by simp only[f2,Qb,seval],by simp only[f4,Qb,seval],by simp only[Qb,seval],by simp only[f15,Qb,seval]⟩
 ·have d0:decide (((P.length+i:Nat):Int)<((P.length+j:Nat):Int))=false:=by simp only[QRr];omega
  have hij':j=i:=by omega
  subst hij';simp only[d0,f2,Qb,seval];have hres:mg (lt c) X [y]=X.take j++y :: X.drop j:=by
   have:=K1 (lt:=lt c) (y:=y) (X1:=X.take j) (X2:=X.drop j) (fun x hx=>by
    obtain⟨k,hk⟩:=QRD hx;rw[QQf]at hk;split at hk
    ·rename_i h;exact hp k x h hk
    ·cases hk) (fun x hx=>by
    obtain⟨k,hk⟩:=QRD hx;rw[QQg]at hk;exact hq _ x (by omega) hk)
   rwa [QQQ]at this
  refine Qg (SbT cz m lv s g N j P X S y) _ ⟨_,X.length,by rw[show P++X.take X.length++[y]++X.drop X.length++S=P++X++[y]++S by simp]<;>rfl,rfl,hj,QPB _,by simp only[f0,Qb,seval],by simp only[f14,Qb,seval],by simp only[Qb,seval]⟩ ?_;clear f0 f2 f4 f14 f15 d0 hp hq f;rintro k st ⟨f,t,rfl,rfl,ht,htl,f0,f14,f17⟩;simp only[f14,f17,Qb,seval];by_cases hlt:j<t
  ·have d0:decide (((P.length+t:Nat):Int) > ((P.length+j:Nat):Int))=true:=by simp only[QQW];omega
   obtain⟨r,rfl⟩:∃r,t=r+1:=⟨t-1,by omega⟩;have e7:IntKind.i64.wrap (((P.length+(r+1):Nat):Int)-1)=((P.length+r:Nat):Int):=by rw[QB];omega
   obtain⟨x,hx⟩:∃x,X[r]? = some x:=⟨_,QPE (by omega)⟩;have ex:=eX x (QPN hx);have hdrop:X.drop r=[x]++X.drop (r+1):=by
    rw[List.singleton_append,QQk (by omega)];congr 1
    exact(QPD.1 hx).2
   have htake:X.take (r+1)=X.take r++[x]:=by rw[QRm,hx]<;>rfl
   have hlt':(X.take r).length=r:=by rw[QQw];omega
   have g1:(P++X.take (r+1)++[y]++X.drop (r+1)++S)[P.length+r]? = some x:=by
    have:=UU (P:=P) (W:=X.take r) (u:=x) (V:=[y]++X.drop (r+1)++S) (i:=P.length+r) (by rw[hlt']);rw[htake]
    simpa only [QPV]using this
   have g2:(P++X.take (r+1)++[y]++X.drop (r+1)++S)[P.length+(r+1)]? = some y:=by
    have:=UU (P:=P) (W:=X.take (r+1)) (u:=y) (V:=X.drop (r+1)++S) (i:=P.length+(r+1)) (by rw[QQw];omega)
    simpa only [QPV]using this
   have g3:((P++X.take (r+1)++[y]++X.drop (r+1)++S).set (P.length+(r+1)) x)[P.length+r]? = some x:=by
    rw[List.getElem?_set_ne (by omega),g1]
   have hset:((P++X.take (r+1)++[y]++X.drop (r+1)++S).set (P.length+(r+1)) x).set (P.length+r) y=P++X.take r++[y]++X.drop r++S:=by
    rw[hdrop,htake];simp[hlt']
   simp only[d0,e7,f0,f17,Wx hlv (show P.length+(r+1)<N by omega),Wx hlv (show P.length+r<N by omega),Ww hlv g1 ex,Ww hlv g2 ey,ex.len,ey.len,ex.leaf,ey.leaf,UT hlv g2 ey ex hcz,UT hlv g3 ex ey hcz,Qb,seval];exact⟨r-j,by omega,_,r,by rw[hset]<;>rfl,rfl,by omega,by omega,by simp only[f0,Qb,seval],by simp only[f14,Qb,seval],by simp only[Qb,seval]⟩
  ·have d0:decide (((P.length+t:Nat):Int) > ((P.length+j:Nat):Int))=false:=by simp only[QRr];omega
   have htj:t=j:=by omega
   subst htj;have hfin:P++X.take t++[y]++X.drop t++S=P++mg (lt c) X [y]++S:=by rw[hres];simp
   simp only[d0,hfin,put_len,Qb,seval]

end Go.Proofs.YtfgchfdkiomfpaaGreat.Tz

namespace Go.Proofs.YtfgchfdkiomfpaaGreat.Tz
open Go Am Bt Tg So
variable {Pg:Program}{cz sr ro sm is st ss:Nat}(hC:Tg.Cs Pg cz sr ro sm is st ss)(hcz:cz≠0)

variable {E:AV→Prop}

include hC hcz in
theorem L6 (cmp:AV){fr:Nat→Ob}{lv s g N a b n:Nat}(P X Y S:List AV){m:Qj}(hlv:lv<m.length)(hX:0<X.length)(hY:0<Y.length)(he:∀x∈P++X++Y++S,Ez E cz x)
  (hn:(P++X++Y++S).length<4611686018427387904) (hN:N=(P++X++Y++S).length) (ha:a=P.length) (hb:b=P.length+X.length) (hc:n=P.length+X.length+Y.length) :
  Qx Pg ro [.vec (lv+1) s g 0 N false,.int .i64 (a:Nat),.int .i64 (b:Nat),.int .i64 (n:Nat),cmp] (fr :: Am.put m lv s (.vec g cz (P++X++Y++S)))
   (fun x m1=>x=.tup []∧m1=fr :: Am.put m lv s (.vec g cz (P++Y++X++S))):=by
 have _:=hC;have _:=hcz;subst hN ha hb hc;refine(QLe hC hcz cmp (lv+1) s g P X Y S (fr :: Am.put m lv s (.vec g cz (P++X++Y++S))) (Ql (m:=m) hlv) hX hY he hn).mono fun x m1 h=>⟨h.1,?_⟩
 rw[h.2];simp only[Am.put,put_put]

def Hc (Pg:Program)(cz sm:Nat)(E:AV→Prop)(kc:Nat)(c:AV→AV→Int)(n:Nat):Prop :=
 ∀(lv s g:Nat) (P X Y S:List AV) (m:Qj),X.length+Y.length=n→0<X.length→0<Y.length→Am.Qd m lv s=.vec g cz (P++X++Y++S)→(∀x∈P++X++Y++S,Ez E cz x)→
  (P++X++Y++S).length<4611686018427387904→X7 (lt c) X→X7 (lt c) Y→
  Qx Pg sm [.vec lv s g 0 (P++X++Y++S).length false,.int .i64 (P.length:Nat),.int .i64 ((P.length+X.length:Nat):Int),.int .i64 ((P.length+X.length+Y.length:Nat):Int),.fn (.func kc) [] []] m
   (fun v m1=>v=.tup []∧m1=Am.put m lv s (.vec g cz (P++mg (lt c) X Y++S)))

include hC hcz in
theorem Uc {kc:Nat}{c:AV→AV→Int}{n:Nat}(h:Hc Pg cz sm E kc c n){fr:Nat→Ob}{lv s g N a b e:Nat}(P X Y S:List AV){m:Qj}(hlv:lv<m.length)(hXY:X.length+Y.length=n)(hX:0<X.length)(hY:0<Y.length)(he:∀x∈P++X++Y++S,Ez E cz x)
  (hn:(P++X++Y++S).length<4611686018427387904) (sX:X7 (lt c) X) (sY:X7 (lt c) Y) (hN:N=(P++X++Y++S).length) (ha:a=P.length) (hb:b=P.length+X.length) (hc:e=P.length+X.length+Y.length) :
  Qx Pg sm [.vec (lv+1) s g 0 N false,.int .i64 (a:Nat),.int .i64 (b:Nat),.int .i64 (e:Nat),.fn (.func kc) [] []] (fr :: Am.put m lv s (.vec g cz (P++X++Y++S)))
   (fun x m1=>x=.tup []∧m1=fr :: Am.put m lv s (.vec g cz (P++mg (lt c) X Y++S))):=by
 have _:=hC;have _:=hcz;subst hN ha hb hc;refine(h (lv+1) s g P X Y S (fr :: Am.put m lv s (.vec g cz (P++X++Y++S))) hXY hX hY (Ql (m:=m) hlv) he hn sX sY).mono fun x m1 h=>⟨h.1,?_⟩
 rw[h.2];simp only[Am.put,put_put]

def ScS (cz:Nat)(m:Qj)(lv s g N mid s0 r0:Nat)(kc:Nat)(c:AV→AV→Int)(P X Y S:List AV)(k:Nat)(st:St):Prop :=
 ∃f i j,st=⟨f,[QE]++Am.put m lv s (.vec g cz (P++X++Y++S)),[]⟩∧k=j-i∧s0≤i∧i≤j∧j≤r0∧
  (∀k x y,s0≤k→k<i→X[k-P.length]? = some x→Y[mid-1-k]? = some y→lt c y x=false)∧(∀k x y,j≤k→k<r0→X[k-P.length]? = some x→Y[mid-1-k]? = some y→lt c y x=true)∧
  f 0=.vec (lv+1) s g 0 N false∧f 1=.int .i64 (P.length:Nat)∧f 2=.int .i64 ((P.length+X.length:Nat):Int)∧f 3=.int .i64 ((P.length+X.length+Y.length:Nat):Int)∧f 4=.fn (.func kc) [] []∧
  f 18=.int .i64 (mid:Nat)∧f 19=.int .i64 ((mid+(P.length+X.length):Nat):Int)∧f 22=.int .i64 ((mid+(P.length+X.length)-1:Nat):Int)∧f 20=.int .i64 (i:Nat)∧f 21=.int .i64 (j:Nat)

theorem Sf {c:AV→AV→Int}(hsw:SW (lt c)){X Y:List AV}{p mid t:Nat}{s0 r0:Nat}(sX:X7 (lt c) X)(sY:X7 (lt c) Y)(h1:s0≤t)(h2:t≤r0)(hp:p≤t)(htm:t≤mid)(hr:r0=mid∨r0=p+X.length)(hs:mid-s0≥Y.length∨s0=p)(hs2:mid-s0≤Y.length)(hr2:r0≤p+X.length)
  (hlow:∀k x y,s0≤k→k<t→X[k-p]? = some x→Y[mid-1-k]? = some y→lt c y x=false) (hhigh:∀k x y,t≤k→k<r0→X[k-p]? = some x→Y[mid-1-k]? = some y→lt c y x=true) :
  mg (lt c) X Y=mg (lt c) (X.take (t-p)) (Y.take (mid-t))++mg (lt c) (X.drop (t-p)) (Y.drop (mid-t)):=by
 have key:=WV (lt:=lt c) _ (X.take (t-p)) (Y.take (mid-t)) (X.drop (t-p)) (Y.drop (mid-t)) rfl ?_ ?_
 ·rwa [QQQ,QQQ]at key
 ·intro y hy x hx;obtain⟨k,hk⟩:=QRD hy;obtain⟨l,hl⟩:=QRD hx;rw[QQf]at hk;split at hk
  ·rename_i hkt;rw[QQg]at hl;have hlX:t-p+l<X.length:=(QPD.1 hl).1;have hkY:k<Y.length:=(QPD.1 hk).1;have htr:t<r0:=by rcases hr with h|h<;>omega
   by_cases hY2:mid-1-t<Y.length
   ·obtain⟨x0,hx0⟩:∃x,X[t-p]? = some x:=⟨_,QPE (by omega)⟩;obtain⟨y0,hy0⟩:∃y,Y[mid-1-t]? = some y:=⟨_,QPE hY2⟩;have h0:=hhigh t x0 y0 (QPB _) htr hx0 hy0;have h3:=K2 hsw sY (show k≤mid-1-t by omega) hk hy0 h0;have h4:=KD sX hsw (show t-p≤t-p+l by omega) hx0 hl;cases hb:lt c y x with
    |true=>rfl
    |false=>
     have:=hsw.nt y x x0 hb h4;rw[h3]at this;cases this
   ·exfalso;omega
  ·cases hk
 ·intro x hx y hy;obtain⟨k,hk⟩:=QRD hy;obtain⟨l,hl⟩:=QRD hx;rw[QQf]at hl;split at hl
  ·rename_i hlt;rw[QQg]at hk;have hkY:mid-t+k<Y.length:=(QPD.1 hk).1;have hlX:l<X.length:=(QPD.1 hl).1;have hst:s0<t:=by rcases hs with h|h<;>omega
   by_cases hX2:t-1-p<X.length
   ·obtain⟨x0,hx0⟩:∃x,X[t-1-p]? = some x:=⟨_,QPE hX2⟩;obtain⟨y0,hy0⟩:∃y,Y[mid-1-(t-1)]? = some y:=⟨_,QPE (by omega)⟩;have h0:=hlow (t-1) x0 y0 (by omega) (by omega) hx0 hy0;have h3:=KD sX hsw (show l≤t-1-p by omega) hl hx0;have h4:lt c y x0=false:=by
     cases hb:lt c y x0 with
     |false=>rfl
     |true=>
      have:=K2 hsw sY (show mid-1-(t-1)≤mid-t+k by omega) hy0 hk hb;rw[h0]at this;cases this
    exact hsw.nt y x0 x h4 h3
   ·exfalso;omega
  ·cases hl

section
variable {kc:Nat}{c:AV→AV→Int}{nn lv s g N:Nat}{P X1 X2 Y1 Y2 S:List AV}{m:Qj}{f:Fr}

include hC hcz in
theorem QEp (ih:∀n,n<nn→Hc Pg cz sm E kc c n)(hnn:X2.length+Y2.length<nn)(hlv:lv<m.length)(he:∀x∈P++X2++Y2++S,Ez E cz x)(hN:N=(P++X2++Y2++S).length)(hn:N<4611686018427387904)
  (sX:X7 (lt c) X2) (sY:X7 (lt c) Y2) (f0:f 0=.vec (lv+1) s g 0 N false) (f3:f 3=.int .i64 ((P.length+X2.length+Y2.length:Nat):Int)) (f4:f 4=.fn (.func kc) [] []) (f18:f 18=.int .i64 (P.length:Nat)) (f24:f 24=.int .i64 ((P.length+X2.length:Nat):Int)) :
  QH Pg (.seq (.reg (KE cz sr ro sm is st)) (.cond (.t 213) (.reg (KG cz sr ro sm is st)) (.skip))) ⟨f,QE :: Am.put m lv s (.vec g cz (P++X2++Y2++S)),[]⟩
   (ZD G3 m.length (fun v m1=>v=.tup []∧m1=Am.put m lv s (.vec g cz (P++mg (lt c) X2 Y2++S)))):=by
 have _:=hC;have _:=hcz;simp only[KE,KG,G3,f18,f24,Qb,seval];by_cases h1:0<X2.length
 ·have d1:decide ((P.length:Int)<((P.length+X2.length:Nat):Int))=true:=by simp only[QQW];omega
  by_cases h2:0<Y2.length
  ·have d2:decide (((P.length+X2.length:Nat):Int)<((P.length+X2.length+Y2.length:Nat):Int))=true:=by simp only[QQW];omega
   simp only[d1,d2,f0,f3,f4,f18,f24,Qb,seval];refine QU (Uc hC hcz (ih _ hnn) P X2 Y2 S hlv rfl h1 h2 he (by omega) sX sY hN rfl rfl rfl) rfl ?_;simp only[put_len,Qb,seval]
  ·have d2:decide (((P.length+X2.length:Nat):Int)<((P.length+X2.length+Y2.length:Nat):Int))=false:=by simp only[QRr];omega
   have hy:Y2=[]:=QQE (by omega);have hfin:P++X2++Y2++S=P++mg (lt c) X2 Y2++S:=by rw[hy,JF];simp
   simp only[d1,d2,f3,f24,hfin,put_len,Qb,seval]
 ·have d1:decide ((P.length:Int)<((P.length+X2.length:Nat):Int))=false:=by simp only[QRr];omega
  have hx:X2=[]:=QQE (by omega);have hfin:P++X2++Y2++S=P++mg (lt c) X2 Y2++S:=by rw[hx,Jl];simp
  simp only[d1,hfin,put_len,Qb,seval]

include hC hcz in
theorem QEq (ih:∀n,n<nn→Hc Pg cz sm E kc c n)(hn1:X1.length+Y1.length<nn)(hn2:X2.length+Y2.length<nn)(hlv:lv<m.length)(he:∀x∈P++X1++Y1++(X2++Y2++S),Ez E cz x)(hN:N=(P++X1++Y1++(X2++Y2++S)).length)(hn:N<4611686018427387904)
  (sX1:X7 (lt c) X1) (sY1:X7 (lt c) Y1) (sX:X7 (lt c) X2) (sY:X7 (lt c) Y2) (f0:f 0=.vec (lv+1) s g 0 N false) (f1:f 1=.int .i64 (P.length:Nat)) (f3:f 3=.int .i64 ((P.length+X1.length+Y1.length+X2.length+Y2.length:Nat):Int)) (f4:f 4=.fn (.func kc) [] []) (f18:f 18=.int .i64 ((P.length+X1.length+Y1.length:Nat):Int)) (f20:f 20=.int .i64 ((P.length+X1.length:Nat):Int)) (f24:f 24=.int .i64 ((P.length+X1.length+Y1.length+X2.length:Nat):Int)) :
  QH Pg (.seq (.seq (.reg (W0 cz sr ro sm is st)) (.cond (.t 199) (.reg (W2 cz sr ro sm is st)) (.skip))) (.seq (.reg (KE cz sr ro sm is st)) (.cond (.t 213) (.reg (KG cz sr ro sm is st)) (.skip)))) ⟨f,QE :: Am.put m lv s (.vec g cz (P++X1++Y1++(X2++Y2++S))),[]⟩
   (ZD G3 m.length (fun v m1=>v=.tup []∧m1=Am.put m lv s (.vec g cz (P++(mg (lt c) X1 Y1++mg (lt c) X2 Y2)++S)))):=by
 have _:=hC;have _:=hcz;have hlm:(mg (lt c) X1 Y1).length=X1.length+Y1.length:=QsP _ _ _ rfl;have hlen:N=P.length+X1.length+Y1.length+X2.length+Y2.length+S.length:=by rw[hN];simp only[QQe];omega
 have hem:∀x∈P++mg (lt c) X1 Y1++X2++Y2++S,Ez E cz x:=by
  intro x hx;refine he x ?_;simp only[QQS]at hx ⊢;rcases hx with(((hx|hx)|hx)|hx)|hx
  ·exact .inl (.inl (.inl hx))
  ·exact(QsQ _ _ _ rfl hx).elim (fun h=>.inl (.inl (.inr h))) (fun h=>.inl (.inr h))
  ·exact .inr (.inl (.inl hx))
  ·exact .inr (.inl (.inr hx))
  ·exact .inr (.inr hx)
 have go:∀f:Fr,f 0=.vec (lv+1) s g 0 N false→f 3=.int .i64 ((P.length+X1.length+Y1.length+X2.length+Y2.length:Nat):Int)→f 4=.fn (.func kc) [] []→f 18=.int .i64 ((P.length+X1.length+Y1.length:Nat):Int)→f 24=.int .i64 ((P.length+X1.length+Y1.length+X2.length:Nat):Int)→
   QH Pg (.seq (.reg (KE cz sr ro sm is st)) (.cond (.t 213) (.reg (KG cz sr ro sm is st)) (.skip))) ⟨f,QE :: Am.put m lv s (.vec g cz (P++mg (lt c) X1 Y1++(X2++Y2++S))),[]⟩
   (ZD G3 m.length (fun v m1=>v=.tup []∧m1=Am.put m lv s (.vec g cz (P++(mg (lt c) X1 Y1++mg (lt c) X2 Y2)++S)))):=by
  intro f f0 f3 f4 f18 f24;have hpl:(P++mg (lt c) X1 Y1).length=P.length+X1.length+Y1.length:=by rw[QQe,hlm];omega
  have:=QEp hC hcz (P:=P++mg (lt c) X1 Y1) (X2:=X2) (Y2:=Y2) (S:=S) (m:=m) (f:=f) (g:=g) (s:=s) ih hn2 hlv hem (by rw[hlen];simp only[QQe,hlm];omega) hn sX sY f0 (by rw[hpl];exact f3) f4 (by rw[hpl];exact f18) (by rw[hpl];exact f24);rw[show P++mg (lt c) X1 Y1++(X2++Y2++S)=P++mg (lt c) X1 Y1++X2++Y2++S by simp only[QPV],show P++(mg (lt c) X1 Y1++mg (lt c) X2 Y2)++S=P++mg (lt c) X1 Y1++mg (lt c) X2 Y2++S by simp only[QPV]];exact this
 rw[YT,YT];simp only[W0,W2,f1,f20,YS,KA,Z4,Kz,KB,Hm,Uv,Qo,Q1,Xc,cond_true,cond_false,true_and,seval,JA];by_cases h1:0<X1.length
 ·have d1:decide ((P.length:Int)<((P.length+X1.length:Nat):Int))=true:=by simp only[QQW];omega
  by_cases h2:0<Y1.length
  ·have d2:decide (((P.length+X1.length:Nat):Int)<((P.length+X1.length+Y1.length:Nat):Int))=true:=by simp only[QQW];omega
   simp only[d1,d2,f0,f1,f4,f18,f20,YS,Z3,Ky,KA,Z4,Kz,KB,Hm,KV,Uv,DR,Wc,YU,Qo,Q1,Xc,cond_true,cond_false,true_and,seval,JA];refine QU (Uc hC hcz (ih _ hn1) P X1 Y1 (X2++Y2++S) hlv rfl h1 h2 he (by omega) sX1 sY1 hN rfl rfl rfl) rfl ?_;rw[Ky,Z3];refine go _ ?_ ?_ ?_ ?_ ?_
   ·simp only[f0,Qb,seval]
   ·simp only[f3,Qb,seval]
   ·simp only[f4,Qb,seval]
   ·simp only[f18,Qb,seval]
   ·simp only[f24,Qb,seval]
  ·have d2:decide (((P.length+X1.length:Nat):Int)<((P.length+X1.length+Y1.length:Nat):Int))=false:=by simp only[QRr];omega
   have hy:Y1=[]:=QQE (by omega);have hres:mg (lt c) X1 Y1=X1++Y1:=by rw[hy,JF,QQD]
   rw[hres,←QPV P X1 Y1]at go;simp only[d1,d2,hres,f18,f20,Z3,Ky,KA,Z4,Kz,KB,Hm,KV,Uv,DR,Wc,KU,Yz,Qo,Q1,Xc,cond_true,cond_false,true_and,seval,JA];refine go _ ?_ ?_ ?_ ?_ ?_
   ·simp only[f0,Qb,seval]
   ·simp only[f3,Qb,seval]
   ·simp only[f4,Qb,seval]
   ·simp only[f18,Qb,seval]
   ·simp only[f24,Qb,seval]
 ·have d1:decide ((P.length:Int)<((P.length+X1.length:Nat):Int))=false:=by simp only[QRr];omega
  have hx:X1=[]:=QQE (by omega);have hres:mg (lt c) X1 Y1=X1++Y1:=by rw[hx,Jl,QPX]
  rw[hres,←QPV P X1 Y1]at go;simp only[d1,hres,Z3,Ky,KA,Z4,Kz,KB,Hm,Yd,Uv,DR,Wc,KU,Yz,Qo,cond_true,cond_false,true_and,seval,JA];refine go _ ?_ ?_ ?_ ?_ ?_
  ·simp only[f0,Qb,seval]
  ·simp only[f3,Qb,seval]
  ·simp only[f4,Qb,seval]
  ·simp only[f18,Qb,seval]
  ·simp only[f24,Qb,seval]

include hC hcz in
theorem QEr (ih:∀n,n<nn→Hc Pg cz sm E kc c n)(hn1:X1.length+Y1.length<nn)(hn2:X2.length+Y2.length<nn)(hlv:lv<m.length)(he:∀x∈P++X1++X2++Y1++(Y2++S),Ez E cz x)(hN:N=(P++X1++X2++Y1++(Y2++S)).length)(hn:N<4611686018427387904)
  (sX1:X7 (lt c) X1) (sY1:X7 (lt c) Y1) (sX:X7 (lt c) X2) (sY:X7 (lt c) Y2) (f0:f 0=.vec (lv+1) s g 0 N false) (f1:f 1=.int .i64 (P.length:Nat)) (f2:f 2=.int .i64 ((P.length+X1.length+X2.length:Nat):Int)) (f3:f 3=.int .i64 ((P.length+X1.length+Y1.length+X2.length+Y2.length:Nat):Int)) (f4:f 4=.fn (.func kc) [] []) (f18:f 18=.int .i64 ((P.length+X1.length+Y1.length:Nat):Int)) (f19:f 19=.int .i64 ((P.length+X1.length+Y1.length+(P.length+X1.length+X2.length):Nat):Int)) (f20:f 20=.int .i64 ((P.length+X1.length:Nat):Int)) :
  QH Pg (.seq (.reg (YH cz sr ro sm is st)) (.seq (.seq (.reg (YI cz sr ro sm is st)) (.cond (.t 185) (.reg (YJ cz sr ro sm is st)) (.skip))) (.seq (.seq (.reg (W0 cz sr ro sm is st)) (.cond (.t 199) (.reg (W2 cz sr ro sm is st)) (.skip))) (.seq (.reg (KE cz sr ro sm is st)) (.cond (.t 213) (.reg (KG cz sr ro sm is st)) (.skip)))))) ⟨f,QE :: Am.put m lv s (.vec g cz (P++X1++X2++Y1++(Y2++S))),[]⟩
   (ZD G3 m.length (fun v m1=>v=.tup []∧m1=Am.put m lv s (.vec g cz (P++(mg (lt c) X1 Y1++mg (lt c) X2 Y2)++S)))):=by
 have _:=hC;have _:=hcz;have hlen:N=P.length+X1.length+Y1.length+X2.length+Y2.length+S.length:=by rw[hN];simp only[QQe];omega
 have hem:∀x∈P++X1++Y1++(X2++Y2++S),Ez E cz x:=by
  intro x hx;refine he x ?_;simp only[QQS]at hx ⊢;rcases hx with((hx|hx)|hx)|((hx|hx)|hx)
  ·exact .inl (.inl (.inl (.inl hx)))
  ·exact .inl (.inl (.inl (.inr hx)))
  ·exact .inl (.inr hx)
  ·exact .inl (.inl (.inr hx))
  ·exact .inr (.inl hx)
  ·exact .inr (.inr hx)
 have go:∀f:Fr,f 0=.vec (lv+1) s g 0 N false→f 1=.int .i64 (P.length:Nat)→f 3=.int .i64 ((P.length+X1.length+Y1.length+X2.length+Y2.length:Nat):Int)→f 4=.fn (.func kc) [] []→f 18=.int .i64 ((P.length+X1.length+Y1.length:Nat):Int)→f 20=.int .i64 ((P.length+X1.length:Nat):Int)→f 24=.int .i64 ((P.length+X1.length+Y1.length+X2.length:Nat):Int)→_ :=
  fun f f0 f1 f3 f4 f18 f20 f24=>QEq hC hcz (P:=P) (X1:=X1) (Y1:=Y1) (X2:=X2) (Y2:=Y2) (S:=S) (m:=m) (f:=f) (g:=g) (s:=s) ih hn1 hn2 hlv hem (by rw[hlen];simp only[QQe];omega) hn sX1 sY1 sX sY f0 f1 f3 f4 f18 f20 f24
 have e1:IntKind.i64.wrap (((P.length+X1.length+Y1.length+(P.length+X1.length+X2.length):Nat):Int)-((P.length+X1.length:Nat):Int))=((P.length+X1.length+Y1.length+X2.length:Nat):Int):=by rw[QB];omega
 rw[YT];simp only[YH,e1,f19,f20,YS,Z3,Ky,KA,Z4,Kz,KB,Uv,Qo,Q1,Xc,cond_true,cond_false,true_and,seval,JA];rw[YT,YT];simp only[YI,f2,f20,YS,KA,Z4,Kz,KB,Hm,Uv,Qo,Q1,Xc,cond_true,cond_false,true_and,seval,JA];by_cases h1:0<X2.length
 ·have d1:decide (((P.length+X1.length:Nat):Int)<((P.length+X1.length+X2.length:Nat):Int))=true:=by simp only[QQW];omega
  by_cases h2:0<Y1.length
  ·have d2:decide (((P.length+X1.length+X2.length:Nat):Int)<((P.length+X1.length+Y1.length+X2.length:Nat):Int))=true:=by simp only[QQW];omega
   simp only[YJ,d1,d2,f0,f2,f4,f20,YS,Z3,Ky,KA,Z4,Kz,KB,Hm,KV,Uv,DR,Wc,YU,Qo,Q1,Xc,cond_true,cond_false,true_and,seval,JA];refine QU (L6 hC hcz (.fn (.func kc) [] []) (P++X1) X2 Y1 (Y2++S) (n:=P.length+X1.length+Y1.length+X2.length) hlv h1 h2 he (by omega) hN (by rw[QQe]) (by rw[QQe]) (by rw[QQe];omega)) rfl ?_;rw[Ky,Z3];rw[show P++X1++Y1++X2++(Y2++S)=P++X1++Y1++(X2++Y2++S)by simp only[QPV]];refine go _ ?_ ?_ ?_ ?_ ?_ ?_ ?_
   ·simp only[f0,Qb,seval]
   ·simp only[f1,Qb,seval]
   ·simp only[f3,Qb,seval]
   ·simp only[f4,Qb,seval]
   ·simp only[f18,Qb,seval]
   ·simp only[f20,Qb,seval]
   ·simp only[Qb,seval]
  ·have d2:decide (((P.length+X1.length+X2.length:Nat):Int)<((P.length+X1.length+Y1.length+X2.length:Nat):Int))=false:=by simp only[QRr];omega
   have hy:Y1=[]:=QQE (by omega);have hrow:P++X1++X2++Y1++(Y2++S)=P++X1++Y1++(X2++Y2++S):=by rw[hy];simp
   simp only[d1,d2,hrow,f2,Z3,Ky,KA,Z4,Kz,KB,Hm,KV,Uv,DR,Wc,KU,Yz,Qo,Q1,Xc,cond_true,cond_false,true_and,seval,JA];refine go _ ?_ ?_ ?_ ?_ ?_ ?_ ?_
   ·simp only[f0,Qb,seval]
   ·simp only[f1,Qb,seval]
   ·simp only[f3,Qb,seval]
   ·simp only[f4,Qb,seval]
   ·simp only[f18,Qb,seval]
   ·simp only[f20,Qb,seval]
   ·simp only[Qb,seval]
 ·have d1:decide (((P.length+X1.length:Nat):Int)<((P.length+X1.length+X2.length:Nat):Int))=false:=by simp only[QRr];omega
  have hx:X2=[]:=QQE (by omega);have hrow:P++X1++X2++Y1++(Y2++S)=P++X1++Y1++(X2++Y2++S):=by rw[hx];simp
  simp only[d1,hrow,Z3,Ky,KA,Z4,Kz,KB,Hm,Yd,Uv,DR,Wc,KU,Yz,Qo,cond_true,cond_false,true_and,seval,JA];refine go _ ?_ ?_ ?_ ?_ ?_ ?_ ?_
  ·simp only[f0,Qb,seval]
  ·simp only[f1,Qb,seval]
  ·simp only[f3,Qb,seval]
  ·simp only[f4,Qb,seval]
  ·simp only[f18,Qb,seval]
  ·simp only[f20,Qb,seval]
  ·simp only[Qb,seval]

end

set_option maxHeartbeats 1000000 in
include hC hcz in
theorem QLi {kc:Nat}{c:AV→AV→Int}(hc:Cp Pg cz E kc c)(nn:Nat)(ih:∀n,n<nn→Hc Pg cz sm E kc c n)(lv s g:Nat)(P X Y S:List AV)(m:Qj)(hXY:X.length+Y.length=nn)(hX1:1<X.length)(hY1:1<Y.length)(hl:Am.Qd m lv s=.vec g cz (P++X++Y++S))(he:∀x∈P++X++Y++S,Ez E cz x)
  (hn:(P++X++Y++S).length<4611686018427387904) (sX:X7 (lt c) X) (sY:X7 (lt c) Y) :
  Qx Pg sm [.vec lv s g 0 (P++X++Y++S).length false,.int .i64 (P.length:Nat),.int .i64 ((P.length+X.length:Nat):Int),.int .i64 ((P.length+X.length+Y.length:Nat):Int),.fn (.func kc) [] []] m
   (fun v m1=>v=.tup []∧m1=Am.put m lv s (.vec g cz (P++mg (lt c) X Y++S))):=by
 have _:=hC;have _:=hcz;have hlv:lv<m.length:=Xa (by rw[hl];simp);have hlen:(P++X++Y++S).length=P.length+X.length+Y.length+S.length:=by simp only[QQe]
 refine hC.csm.go (by simp) ?_;have e1:(IntKind.i64.wrap (((P.length+X.length:Nat):Int)-(P.length:Int))==1)=false:=by rw[QB];simp only[QRk,ne_eq];omega
 have e2:(IntKind.i64.wrap (((P.length+X.length+Y.length:Nat):Int)-((P.length+X.length:Nat):Int))==1)=false:=by rw[QB];simp only[QRk,ne_eq];omega
 have e3:IntKind.i64.wrap ((P.length:Int)+((P.length+X.length+Y.length:Nat):Int))=((P.length+(P.length+X.length+Y.length):Nat):Int):=by rw[QB];omega
 have e4:=CV P.length (P.length+X.length+Y.length) (by omega);generalize hmid:(P.length+(P.length+X.length+Y.length)) / 2=mid at *;have e5:IntKind.i64.wrap ((mid:Int)+((P.length+X.length:Nat):Int))=((mid+(P.length+X.length):Nat):Int):=by rw[QB];omega
 have e6:IntKind.i64.wrap (((mid+(P.length+X.length):Nat):Int)-((P.length+X.length+Y.length:Nat):Int))=((mid+(P.length+X.length)-(P.length+X.length+Y.length):Nat):Int)∨mid<Y.length:=by
  by_cases h:mid<Y.length
  ·exact .inr h
  ·refine .inl ?_;rw[QB];omega
 have e7:IntKind.i64.wrap (((mid+(P.length+X.length):Nat):Int)-1)=((mid+(P.length+X.length)-1:Nat):Int):=by rw[QB];omega
 simp only[Ab,Fq,GK,GL,GM,GN,GP,GQ,GR,GS,GT,GU,e1,e2,e3,e4,e5,Qb,seval];have h0:m=Am.put m lv s (.vec g cz (P++X++Y++S)):=(put_self hl).symm;generalize hN:(P++X++Y++S).length=N at *
 -- the search, from whatever bounds
 have main:∀(Q:Exit→St→Prop) (f:Fr) (s0 r0:Nat),s0≤r0→r0≤mid→(r0=mid∨r0=P.length+X.length)→(mid-s0≥Y.length∨s0=P.length)→mid-s0≤Y.length→r0≤P.length+X.length→P.length≤s0→
   f 0=.vec (lv+1) s g 0 N false→f 1=.int .i64 (P.length:Nat)→f 2=.int .i64 ((P.length+X.length:Nat):Int)→f 3=.int .i64 ((P.length+X.length+Y.length:Nat):Int)→f 4=.fn (.func kc) [] []→
   f 18=.int .i64 (mid:Nat)→f 19=.int .i64 ((mid+(P.length+X.length):Nat):Int)→f 22=.int .i64 ((mid+(P.length+X.length)-1:Nat):Int)→f 20=.int .i64 (s0:Nat)→f 21=.int .i64 (r0:Nat)→
   (∀(f:Fr) (t:Nat),s0≤t→t≤r0→mg (lt c) X Y=mg (lt c) (X.take (t-P.length)) (Y.take (mid-t))++mg (lt c) (X.drop (t-P.length)) (Y.drop (mid-t))→
    f 0=.vec (lv+1) s g 0 N false→f 1=.int .i64 (P.length:Nat)→f 2=.int .i64 ((P.length+X.length:Nat):Int)→f 3=.int .i64 ((P.length+X.length+Y.length:Nat):Int)→f 4=.fn (.func kc) [] []→
    f 18=.int .i64 (mid:Nat)→f 19=.int .i64 ((mid+(P.length+X.length):Nat):Int)→f 20=.int .i64 (t:Nat)→Q (.exit 8) ⟨f,QE :: Am.put m lv s (.vec g cz (P++X++Y++S)),[]⟩)→
   QH Pg (.loop (G0 cz sr ro sm is st)) ⟨f,QE :: m,[]⟩ Q:=by
  intro Q f s0 r0 hsr hrm hr hs hs2 hr2 hps f0 f1 f2 f3 f4 f18 f19 f22 f20 f21 hQ;refine Qg (ScS cz m lv s g N mid s0 r0 kc c P X Y S) _ ⟨_,s0,r0,by rw[←h0]<;>rfl,rfl,QPB _,hsr,QPB _,(by intro k x y h1 h2;omega),(by intro k x y h1 h2;omega),f0,f1,f2,f3,f4,f18,f19,f22,f20,f21⟩ ?_;clear f0 f1 f2 f3 f4 f18 f19 f22 f20 f21 f;rintro k st ⟨f,i,j,rfl,rfl,hsi,hij,hj,hp,hq,f0,f1,f2,f3,f4,f18,f19,f22,f20,f21⟩;simp only[G0,GV,GW,GX,GY,GZ,f20,f21,Qb,seval];by_cases hlt:i<j
  ·have d0:decide ((i:Int)<(j:Int))=true:=by simp only[QQW];omega
   have e8:IntKind.i64.wrap ((i:Int)+(j:Int))=((i+j:Nat):Int):=by rw[QB];omega
   have e9:=CV i j (by omega);generalize hh:(i+j) / 2=h at *;have hh1:h<j:=by omega
   have hh2:i≤h:=by omega
   have ea:IntKind.i64.wrap ((h:Int)+1)=((h+1:Nat):Int):=by rw[QB];omega
   have eb:IntKind.i64.wrap (((mid+(P.length+X.length)-1:Nat):Int)-(h:Int))=((P.length+X.length+(mid-1-h):Nat):Int):=by rw[QB];omega
   obtain⟨x,hx⟩:∃x,X[h-P.length]? = some x:=⟨_,QPE (by omega)⟩;obtain⟨y,hy⟩:∃y,Y[mid-1-h]? = some y:=⟨_,QPE (by omega)⟩;have ex:Ez E cz x:=he x (by simp[QPN hx]);have ey:Ez E cz y:=he y (by simp[QPN hy]);have gx:(P++X++Y++S)[h]? = some x:=by
    rw[QPV,QPV,QQ1 (by omega),QQZ (by omega),hx]
   have gy:(P++X++Y++S)[P.length+X.length+(mid-1-h)]? = some y:=by
    rw[QPV,QQ1 (by rw[QQe];omega),QQZ (by rw[QQe];omega),←hy];congr 1;rw[QQe];omega
   simp only[d0,e8,e9,eb,f0,f4,f20,f21,f22,Wx hlv (show P.length+X.length+(mid-1-h)<N by omega),Wx hlv (show h<N by omega),Ww hlv gy ey,Ww hlv gx ex,Qb,seval];refine WE (by simp only[Qb,seval]) (hc.call y x ey ex) (Yk ey ex _) (Wk ey ex) rfl (.inl (Wk ey ex)) ?_;cases hcx:decide (c y x<0)with
   |true=>
    simp only[hcx,Qb,seval];have hq':∀k x' y',h≤k→k<r0→X[k-P.length]? = some x'→Y[mid-1-k]? = some y'→lt c y' x'=true:=by
     intro k x' y' hk hk2 hx' hy';have h3:=K2 hc.sw sY (show mid-1-k≤mid-1-h by omega) hy' hy hcx;have h4:=KD sX hc.sw (show h-P.length≤k-P.length by omega) hx hx';cases hb:lt c y' x' with
     |true=>rfl
     |false=>
      have:=hc.sw.nt y' x' x hb h4;rw[h3]at this;cases this
    exact⟨h-i,by omega,_,i,h,rfl,rfl,hsi,by omega,by omega,hp,hq',by simp only[f0,Qb,seval],by simp only[f1,Qb,seval],by simp only[f2,Qb,seval],by simp only[f3,Qb,seval],by simp only[f4,Qb,seval],by simp only[f18,Qb,seval],by simp only[f19,Qb,seval],by simp only[f22,Qb,seval],by simp only[f20,Qb,seval],by simp only[Qb,seval]⟩
   |false=>
    simp only[hcx,ea,Qb,seval];exact⟨j-(h+1),by omega,_,h+1,j,rfl,rfl,by omega,by omega,hj,fun k x' y' hk hk2 hx' hy'=>by
     have h3:=KD sX hc.sw (show k-P.length≤h-P.length by omega) hx' hx;have h4:lt c y' x=false:=by
      cases hb:lt c y' x with
      |false=>rfl
      |true=>exact absurd (K2 hc.sw sY (show mid-1-h≤mid-1-k by omega) hy hy' hb) (by show ¬(decide _=true);rw[hcx];simp)
     exact hc.sw.nt y' x x' h4 h3,hq,by simp only[f0,Qb,seval],by simp only[f1,Qb,seval],by simp only[f2,Qb,seval],by simp only[f3,Qb,seval],by simp only[f4,Qb,seval],by simp only[f18,Qb,seval],by simp only[f19,Qb,seval],by simp only[f22,Qb,seval],by simp only[Qb,seval],by simp only[f21,Qb,seval]⟩
  ·have d0:decide ((i:Int)<(j:Int))=false:=by simp only[QRr];omega
   have hij':j=i:=by omega
   subst hij';simp only[d0,Qb,seval];refine hQ _ j (by omega) (by omega) (Sf hc.sw sX sY hsi hj (by omega) (by omega) hr hs hs2 hr2 hp hq) ?_ ?_ ?_ ?_ ?_ ?_ ?_ ?_
   ·simp only[f0,Qb,seval]
   ·simp only[f1,Qb,seval]
   ·simp only[f2,Qb,seval]
   ·simp only[f3,Qb,seval]
   ·simp only[f4,Qb,seval]
   ·simp only[f18,Qb,seval]
   ·simp only[f19,Qb,seval]
   ·simp only[f20,Qb,seval]
 have hb1:mid≤P.length+X.length+Y.length:=by omega
 have fin:∀(f:Fr) (t:Nat),P.length≤t→t≤mid→t≤P.length+X.length→mid-t≤Y.length→mg (lt c) X Y=mg (lt c) (X.take (t-P.length)) (Y.take (mid-t))++mg (lt c) (X.drop (t-P.length)) (Y.drop (mid-t))→
    f 0=.vec (lv+1) s g 0 N false→f 1=.int .i64 (P.length:Nat)→f 2=.int .i64 ((P.length+X.length:Nat):Int)→f 3=.int .i64 ((P.length+X.length+Y.length:Nat):Int)→f 4=.fn (.func kc) [] []→
    f 18=.int .i64 (mid:Nat)→f 19=.int .i64 ((mid+(P.length+X.length):Nat):Int)→f 20=.int .i64 (t:Nat)→
   QH Pg (.seq (.reg (YH cz sr ro sm is st)) (.seq (.seq (.reg (YI cz sr ro sm is st)) (.cond (.t 185) (.reg (YJ cz sr ro sm is st)) (.skip))) (.seq (.seq (.reg (W0 cz sr ro sm is st)) (.cond (.t 199) (.reg (W2 cz sr ro sm is st)) (.skip))) (.seq (.reg (KE cz sr ro sm is st)) (.cond (.t 213) (.reg (KG cz sr ro sm is st)) (.skip)))))) ⟨f,QE :: Am.put m lv s (.vec g cz (P++X++Y++S)),[]⟩
   (ZD G3 m.length (fun v m1=>v=.tup []∧m1=Am.put m lv s (.vec g cz (P++mg (lt c) X Y++S)))):=by
  intro f t h1 h2 h3 h4 hmg f0 f1 f2 f3 f4 f18 f19 f20;have l1:(X.take (t-P.length)).length=t-P.length:=by rw[QQw];omega
  have l2:(X.drop (t-P.length)).length=P.length+X.length-t:=by rw[QQh];omega
  have l3:(Y.take (mid-t)).length=mid-t:=by rw[QQw];omega
  have l4:(Y.drop (mid-t)).length=Y.length-(mid-t):=by rw[QQh]
  have hrow:P++X.take (t-P.length)++X.drop (t-P.length)++Y.take (mid-t)++(Y.drop (mid-t)++S)=P++X++Y++S:=by
   rw[QPV P,QQQ,←QPV _ _ S,QPV (P++X),QQQ]
  have:=QEr hC hcz (kc:=kc) (c:=c) (nn:=nn) (lv:=lv) (s:=s) (g:=g) (N:=N) (P:=P) (X1:=X.take (t-P.length)) (X2:=X.drop (t-P.length)) (Y1:=Y.take (mid-t)) (Y2:=Y.drop (mid-t)) (S:=S) (m:=m) (f:=f) ih
   (by rw[l1,l3];omega) (by rw[l2,l4];omega) hlv (by rw[hrow];exact he) (by rw[hrow,hN]) hn
   (List.Pairwise.sublist (List.take_sublist _ _) sX) (List.Pairwise.sublist (List.take_sublist _ _) sY) (List.Pairwise.sublist (List.drop_sublist _ _) sX) (List.Pairwise.sublist (List.drop_sublist _ _) sY)
   f0 f1 (by rw[f2,l1,l2];congr 2;omega) (by rw[f3,l1,l2,l3,l4];congr 2;omega) f4 (by rw[f18,l1,l3];congr 2;omega) (by rw[f19,l1,l2,l3];congr 2;omega) (by rw[f20,l1];congr 2;omega)
  rw[hrow,←hmg]at this;exact this
 by_cases hgt:mid<P.length+X.length
 ·have d0:decide (((P.length+X.length:Nat):Int) > (mid:Int))=true:=by simp only[QQW];omega
  have hmy:Y.length≤mid:=by omega
  have e6':=e6.resolve_right (by omega);simp only[d0,e6',e7,Qb,seval];refine main _ _ (mid+(P.length+X.length)-(P.length+X.length+Y.length)) mid (by omega) (by omega) (.inl rfl) (.inl (by omega)) (by omega) (by omega) (by omega) ?_ ?_ ?_ ?_ ?_ ?_ ?_ ?_ ?_ ?_ ?_
  case refine_11=>
   intro f t h1 h2 hmg f0 f1 f2 f3 f4 f18 f19 f20;rw[Gq,QP5 rfl,Z3];exact fin f t (by omega) (by omega) (by omega) (by omega) hmg f0 f1 f2 f3 f4 f18 f19 f20
  all_goals simp only[Qb,seval]
 ·have d0:decide (((P.length+X.length:Nat):Int) > (mid:Int))=false:=by simp only[QRr];omega
  simp only[d0,e7,Qb,seval];refine main _ _ P.length (P.length+X.length) (by omega) (by omega) (.inr rfl) (.inr rfl) (by omega) (by omega) (by omega) ?_ ?_ ?_ ?_ ?_ ?_ ?_ ?_ ?_ ?_ ?_
  case refine_11=>
   intro f t h1 h2 hmg f0 f1 f2 f3 f4 f18 f19 f20;rw[Gq,QP5 rfl,Z3];exact fin f t (by omega) (by omega) (by omega) (by omega) hmg f0 f1 f2 f3 f4 f18 f19 f20
  all_goals simp only[Qb,seval]

include hC hcz in
theorem sym {kc:Nat}{c:AV→AV→Int}(hc:Cp Pg cz E kc c):∀n,Hc Pg cz sm E kc c n:=by
 have _:=hC;have _:=hcz;intro n
 induction n using Nat.strongRecOn with
 |_ n ih=>
 intro lv s g P X Y S m hXY hX hY hl he hn sX sY;by_cases h1:X.length=1
 ·obtain⟨x,rfl⟩:=List.length_eq_one_iff.1 h1;exact QLg hC hcz hc lv s g P x Y S m hl he hn sY
 ·by_cases h2:Y.length=1
  ·obtain⟨y,rfl⟩:=List.length_eq_one_iff.1 h2;exact QLh hC hcz hc lv s g P X y S m hl he hn sX h1
  ·exact QLi hC hcz hc n ih lv s g P X Y S m hXY (by omega) (by omega) hl he hn sX sY

end Go.Proofs.YtfgchfdkiomfpaaGreat.Tz

namespace Go.Proofs.YtfgchfdkiomfpaaGreat.Tz
open Go Am Bt Tg So
variable {Pg:Program}{cz sr ro sm is st ss:Nat}(hC:Tg.Cs Pg cz sr ro sm is st ss)(hcz:cz≠0)

variable {E:AV→Prop}

include hC hcz in
theorem Vs {kc:Nat}{c:AV→AV→Int}(hc:Cp Pg cz E kc c){fr:Nat→Ob}{lv s g N a b:Nat}(P X S:List AV){m:Qj}(hlv:lv<m.length)(he:∀x∈P++X++S,Ez E cz x)
  (hn:(P++X++S).length<4611686018427387904) (hN:N=(P++X++S).length) (ha:a=P.length) (hb:b=P.length+X.length) :
  Qx Pg is [.vec (lv+1) s g 0 N false,.int .i64 (a:Nat),.int .i64 (b:Nat),.fn (.func kc) [] []] (fr :: Am.put m lv s (.vec g cz (P++X++S)))
   (fun x m1=>x=.tup []∧m1=fr :: Am.put m lv s (.vec g cz (P++QC (lt c) X++S))):=by
 have _:=hC;have _:=hcz;subst hN ha hb;refine(QLf hC hcz hc (lv+1) s g P X S (fr :: Am.put m lv s (.vec g cz (P++X++S))) (Ql (m:=m) hlv) he hn).mono fun x m1 h=>⟨h.1,?_⟩
 rw[h.2];simp only[Am.put,put_put]

def St1 (cz:Nat)(m:Qj)(lv s g:Nat)(kc:Nat)(c:AV→AV→Int)(xs:List AV)(k:Nat)(st:St):Prop :=
 ∃f i,st=⟨f,[QE]++Am.put m lv s (.vec g cz (Xh (lt c) 20 i xs++xs.drop (20*i))),[]⟩∧k=xs.length-20*i∧20*i≤xs.length∧
  f 0=.vec (lv+1) s g 0 xs.length false∧f 1=.int .i64 (xs.length:Nat)∧f 2=.fn (.func kc) [] []∧f 6=.int .i64 20∧f 7=.int .i64 ((20*i:Nat):Int)∧f 8=.int .i64 ((20*(i+1):Nat):Int)

def St2 (cz:Nat)(m:Qj)(lv s g:Nat)(kc:Nat)(c:AV→AV→Int)(xs:List AV)(k:Nat)(st:St):Prop :=
 ∃f b n,st=⟨f,[QE]++Am.put m lv s (.vec g cz (Xh (lt c) b n xs)),[]⟩∧k=xs.length-b∧0<b∧b<2305843009213693952∧xs.length≤b*n∧
  f 0=.vec (lv+1) s g 0 xs.length false∧f 1=.int .i64 (xs.length:Nat)∧f 2=.fn (.func kc) [] []∧f 6=.int .i64 (b:Nat)

def St3 (cz:Nat)(m:Qj)(lv s g:Nat)(kc:Nat)(c:AV→AV→Int)(xs:List AV)(b:Nat)(k:Nat)(st:St):Prop :=
 ∃f i n,st=⟨f,[QE]++Am.put m lv s (.vec g cz (Xh (lt c) (2*b) i xs++Xh (lt c) b n (xs.drop (2*b*i)))),[]⟩∧k=xs.length-2*b*i∧2*b*i≤xs.length∧xs.length-2*b*i≤b*n∧
  f 0=.vec (lv+1) s g 0 xs.length false∧f 1=.int .i64 (xs.length:Nat)∧f 2=.fn (.func kc) [] []∧f 6=.int .i64 (b:Nat)∧f 7=.int .i64 ((2*b*i:Nat):Int)∧f 8=.int .i64 ((2*b*(i+1):Nat):Int)

set_option maxHeartbeats 1000000 in
include hC hcz in
theorem QLj {kc:Nat}{c:AV→AV→Int}(hc:Cp Pg cz E kc c)(lv s g:Nat)(xs:List AV)(m:Qj)(hl:Am.Qd m lv s=.vec g cz xs)(he:∀x∈xs,Ez E cz x)
  (hn:xs.length<1152921504606846976) :
  Qx Pg st [.vec lv s g 0 xs.length false,.int .i64 (xs.length:Nat),.fn (.func kc) [] []] m
   (fun x m1=>x=.tup []∧m1=Am.put m lv s (.vec g cz (QC (lt c) xs))):=by
 have _:=hC;have _:=hcz;have hlv:lv<m.length:=Xa (by rw[hl];simp);refine hC.cst.go (by simp) ?_;have h0:m=Am.put m lv s (.vec g cz xs):=(put_self hl).symm;simp only[rst,An,Ao,Qb,seval];refine Qg (St1 cz m lv s g kc c xs) _ ⟨_,0,by rw[show Xh (lt c) 20 0 xs++xs.drop (20*0)=xs by simp[Xh],←h0]<;>rfl,rfl,by omega,by simp only[Qb,seval],by simp only[Qb,seval],by simp only[Qb,seval],by simp only[Qb,seval],by simp only[Qb,seval]<;>rfl,by simp only[Qb,seval]<;>rfl⟩ ?_;clear h0;rintro k st ⟨f,i,rfl,rfl,hi,f0,f1,f2,f6,f7,f8⟩;simp only[Av,Ap,f1,f8,Qb,seval];have hbl:(Xh (lt c) 20 i xs).length=20*i:=by rw[U9];omega
 by_cases hlt:20*(i+1)≤xs.length
 ·have d0:decide (((20*(i+1):Nat):Int)≤(xs.length:Int))=true:=by simp only[QQW];omega
  have e1:IntKind.i64.wrap (((20*(i+1):Nat):Int)+20)=((20*(i+1+1):Nat):Int):=by rw[QB];omega
  have hcut:Xh (lt c) 20 i xs++xs.drop (20*i)=Xh (lt c) 20 i xs++(xs.drop (20*i)).take 20++xs.drop (20*(i+1)):=by
   rw[QPV,show 20*(i+1)=20*i+20 by omega,←QP4,QQQ]
  have hx1:((xs.drop (20*i)).take 20).length=20:=by rw[QQw,QQh];omega
  have hee:∀x∈Xh (lt c) 20 i xs++(xs.drop (20*i)).take 20++xs.drop (20*(i+1)),Ez E cz x:=by
   intro x hx;refine he x ?_;rcases QQS.1 hx with hx|hx
   ·rcases QQS.1 hx with hx|hx
    ·exact WI hx
    ·exact QQn (QQo hx)
   ·exact QQn hx
  have hNN:(Xh (lt c) 20 i xs++(xs.drop (20*i)).take 20++xs.drop (20*(i+1))).length=xs.length:=by
   rw[QQe,QQe,hx1,hbl,QQh];omega
  simp only[d0,hcut,Aq,f0,f2,f7,f8,Qb,seval];refine QU (Vs hC hcz hc (a:=20*i) (b:=20*(i+1)) (Xh (lt c) 20 i xs) ((xs.drop (20*i)).take 20) (xs.drop (20*(i+1))) hlv hee (by omega) hNN.symm hbl.symm (by rw[hbl,hx1];omega)) rfl ?_;simp only[Ar,Au,e1,f6,f8,Qb,seval];exact⟨xs.length-20*(i+1),by omega,_,i+1,by rw[Y7]<;>rfl,rfl,hlt,by simp only[f0,Qb,seval],by simp only[f1,Qb,seval],by simp only[f2,Qb,seval],by simp only[f6,Qb,seval],by simp only[Qb,seval],by simp only[Qb,seval]⟩
 ·have d0:decide (((20*(i+1):Nat):Int)≤(xs.length:Int))=false:=by simp only[QRr];omega
  have hee:∀x∈Xh (lt c) 20 i xs++xs.drop (20*i)++[],Ez E cz x:=by
   intro x hx;refine he x ?_;rw[QQD]at hx;rcases QQS.1 hx with hx|hx
   ·exact WI hx
   ·exact QQn hx
  have hNN:(Xh (lt c) 20 i xs++xs.drop (20*i)++[]).length=xs.length:=by
   rw[QQD,QQe,hbl,QQh];omega
  have hic:=Vs hC hcz hc (fr:=QE) (g:=g) (s:=s) (N:=xs.length) (a:=20*i) (b:=xs.length) (Xh (lt c) 20 i xs) (xs.drop (20*i)) [] hlv hee (by omega) hNN.symm hbl.symm (by rw[hbl,QQh];omega);have hsn:Xh (lt c) 20 i xs++QC (lt c) (xs.drop (20*i))=Xh (lt c) 20 (i+1) xs:=by
   rw[Y7,QQa (by rw[QQh];omega)]
  rw[QQD,QQD,hsn]at hic;simp only[d0,Aw,f0,f1,f2,f7,Qb,seval];refine QU hic rfl ?_;simp only[Qb,seval];refine Qg (St2 cz m lv s g kc c xs) _ ⟨_,20,i+1,rfl,rfl,by omega,by omega,by omega,by simp only[f0,Qb,seval],by simp only[f1,Qb,seval],by simp only[f2,Qb,seval],by simp only[f6,Qb,seval]<;>rfl⟩ ?_;clear f0 f1 f2 f6 f7 f8 hic hsn hNN hee d0 hlt hbl hi f i;rintro k st ⟨f,b,n,rfl,rfl,hb0,hb1,hbn,f0,f1,f2,f6⟩;simp only[AB,Ax,f1,f6,Qb,seval];by_cases hlt:b<xs.length
  ·have d0:decide ((b:Int)<(xs.length:Int))=true:=by simp only[QQW];omega
   have e1:IntKind.i64.wrap (2*(b:Int))=((2*b:Nat):Int):=by rw[QB];omega
   have e1':IntKind.i64.wrap ((b:Int)*2)=((2*b:Nat):Int):=by rw[QB];omega
   simp only[d0,Ay,e1,f6,Qb,seval];refine Qg (St3 cz m lv s g kc c xs b) _ ⟨_,0,n,by simp only[Xh,Nat.mul_zero,QQj,QPX]<;>rfl,rfl,by omega,by omega,by simp only[f0,Qb,seval],by simp only[f1,Qb,seval],by simp only[f2,Qb,seval],by simp only[f6,Qb,seval],by simp only[Qb,seval]<;>rfl,by simp only[QQi,Nat.mul_one,Qb,seval]⟩ ?_;clear f0 f1 f2 f6 f;rintro k st ⟨f,i,n',rfl,rfl,hi,hn',f0,f1,f2,f6,f7,f8⟩;have hA1:2*b*(i+1)=2*b*i+2*b:=Nat.mul_succ _ _;have hA2:2*b*(i+1+1)=2*b*i+2*b+2*b:=by rw[Nat.mul_succ,hA1]
   have hbl:(Xh (lt c) (2*b) i xs).length=2*b*i:=by rw[U9];omega
   have hsnoc:=Y7 (lt:=lt c) (2*b) i xs;rw[hA1]at f8;clear hbn;generalize hA:2*b*i=A at *;simp only[AA,Az,f1,f8,Qb,seval];generalize hL:xs.drop A=L at *;have hLl:L.length=xs.length-A:=by rw[←hL,QQh]
   have hLe:∀z∈L,Ez E cz z:=fun z hz=>he z (QQn (by rw[hL];exact hz))
   have hPe:∀z∈Xh (lt c) (2*b) i xs,Ez E cz z:=fun z hz=>he z (WI hz)
   have e2:IntKind.i64.wrap (((A:Nat):Int)+(b:Int))=((A+b:Nat):Int):=by rw[QB];omega
   -- Zb blocks and the rest
   have Zb:b<L.length→∃n'',n'=n''+2∧Xh (lt c) b n' L=QC (lt c) (L.take b)++QC (lt c) ((L.drop b).take b)++Xh (lt c) b n'' (L.drop (2*b))∧mg (lt c) (QC (lt c) (L.take b)) (QC (lt c) ((L.drop b).take b))=QC (lt c) (L.take (2*b)):=by
    intro h
    match n',hn' with
    |0,hn'=>omega
    |1,hn'=>omega
    |n''+2,_=>
     refine⟨n'',rfl,?_,?_⟩
     ·rw[Xh,Xh,QPV,QP4,show b+b=2*b by omega]
     ·rw[Kf hc.sw,R4]
   by_cases hlt2:A+2*b≤xs.length
   ·have d1:decide (((A+2*b:Nat):Int)≤(xs.length:Int))=true:=by simp only[QQW];omega
    obtain⟨n'',rfl,hrow,hmg⟩:=Zb (by omega);have hn2:b*(n''+2)=b*n''+2*b:=by rw[Nat.mul_add,Nat.mul_comm b 2]
    rw[hn2]at hn';clear Zb;generalize hZ:b*n''=Z at *;have e3:IntKind.i64.wrap (((A+2*b:Nat):Int)+((2*b:Nat):Int))=((A+2*b+2*b:Nat):Int):=by
     rw[QB];omega
    have l1:(QC (lt c) (L.take b)).length=b:=by rw[JG,QQw];omega
    have l2:(QC (lt c) ((L.drop b).take b)).length=b:=by rw[JG,QQw,QQh];omega
    have l3:(Xh (lt c) b n'' (L.drop (2*b))).length=L.length-2*b:=by
     rw[U9,QQh,hZ];omega
    have hcut:Xh (lt c) (2*b) i xs++Xh (lt c) b (n''+2) L=Xh (lt c) (2*b) i xs++QC (lt c) (L.take b)++QC (lt c) ((L.drop b).take b)++Xh (lt c) b n'' (L.drop (2*b)):=by
     rw[hrow];simp only[QPV]
    have hee:∀x∈Xh (lt c) (2*b) i xs++QC (lt c) (L.take b)++QC (lt c) ((L.drop b).take b)++Xh (lt c) b n'' (L.drop (2*b)),Ez E cz x:=by
     rw[←hcut];intro x hx;rcases QQS.1 hx with hx|hx
     ·exact hPe x hx
     ·exact hLe x (WI hx)
    have hNN:(Xh (lt c) (2*b) i xs++QC (lt c) (L.take b)++QC (lt c) ((L.drop b).take b)++Xh (lt c) b n'' (L.drop (2*b))).length=xs.length:=by
     rw[QQe,QQe,QQe,l1,l2,l3,hbl];omega
    simp only[d1,hcut,e2,PK,f0,f2,f6,f7,f8,Qb,seval];refine QU (Uc hC hcz (sym hC hcz hc _) (a:=A) (b:=A+b) (e:=A+2*b) (Xh (lt c) (2*b) i xs) (QC (lt c) (L.take b)) (QC (lt c) ((L.drop b).take b)) (Xh (lt c) b n'' (L.drop (2*b))) hlv rfl (by omega) (by omega) hee (by omega) (XW hc.sw _) (XW hc.sw _) hNN.symm hbl.symm (by rw[hbl,l1]) (by rw[hbl,l1,l2];omega)) rfl ?_;simp only[PM,PP,e1,e3,f6,f8,Qb,seval];refine⟨xs.length-(A+2*b),by omega,_,i+1,n'',by rw[hsnoc,hmg,hA1,←QP4,hL]<;>rfl,by rw[hA1],by rw[hA1];exact hlt2,?_,by simp only[f0,Qb,seval],by simp only[f1,Qb,seval],by simp only[f2,Qb,seval],by simp only[f6,Qb,seval],by simp only[hA1,Qb,seval],by simp only[hA2,Qb,seval]⟩
    ·rw[hA1,hZ];omega
   ·have d1:decide (((A+2*b:Nat):Int)≤(xs.length:Int))=false:=by simp only[QRr];omega
    have hfin:Xh (lt c) (2*b) i xs++QC (lt c) L=Xh (lt c) (2*b) (i+1) xs:=by
     rw[hsnoc,QQa (by omega)]
    simp only[d1,e2,PQ,PR,f1,f6,f7,Qb,seval];by_cases hm:A+b<xs.length
    ·have d2:decide (((A+b:Nat):Int)<(xs.length:Int))=true:=by simp only[QQW];omega
     obtain⟨n'',rfl,hrow,hmg⟩:=Zb (by omega);clear Zb hn';have hr0:L.drop (2*b)=[]:=QQd (by omega);have hr1:(L.drop b).take b=L.drop b:=QQa (by rw[QQh];omega);have hr2:L.take (2*b)=L:=QQa (by omega);rw[hr0,Dy,QQD,hr1]at hrow;rw[hr1,hr2]at hmg;have l1:(QC (lt c) (L.take b)).length=b:=by rw[JG,QQw];omega
     have l2:(QC (lt c) (L.drop b)).length=L.length-b:=by rw[JG,QQh]
     have hee:∀x∈Xh (lt c) (2*b) i xs++QC (lt c) (L.take b)++QC (lt c) (L.drop b)++[],Ez E cz x:=by
      intro x hx;rw[QQD,QPV,←hrow]at hx;rcases QQS.1 hx with hx|hx
      ·exact hPe x hx
      ·exact hLe x (WI hx)
     have hNN:(Xh (lt c) (2*b) i xs++QC (lt c) (L.take b)++QC (lt c) (L.drop b)++[]).length=xs.length:=by
      rw[QQD,QQe,QQe,l1,l2,hbl];omega
     have hsc:=Uc hC hcz (sym hC hcz hc _) (fr:=QE) (s:=s) (g:=g) (N:=xs.length) (a:=A) (b:=A+b) (e:=xs.length) (Xh (lt c) (2*b) i xs) (QC (lt c) (L.take b)) (QC (lt c) (L.drop b)) [] hlv rfl (by omega) (by omega) hee (by omega) (XW hc.sw _) (XW hc.sw _) hNN.symm hbl.symm (by rw[hbl,l1]) (by rw[hbl,l1,l2];omega);rw[QQD,QQD,hmg,hfin,QPV,←hrow]at hsc;simp only[d2,PT,f0,f1,f2,f7,Qb,seval];refine QU hsc rfl ?_;simp only[BP,e1',f6,Qb,seval];exact⟨xs.length-2*b,by omega,_,2*b,i+1,rfl,rfl,by omega,by omega,by rw[hA1];omega,by simp only[f0,Qb,seval],by simp only[f1,Qb,seval],by simp only[f2,Qb,seval],by simp only[Qb,seval]⟩
    ·have d2:decide (((A+b:Nat):Int)<(xs.length:Int))=false:=by simp only[QRr];omega
     have hrow:Xh (lt c) b n' L=QC (lt c) L:=Vg (by omega) (by omega);simp only[d2,hrow,hfin,BP,e1',f6,Qb,seval];exact⟨xs.length-2*b,by omega,_,2*b,i+1,rfl,rfl,by omega,by omega,by rw[hA1];omega,by simp only[f0,Qb,seval],by simp only[f1,Qb,seval],by simp only[f2,Qb,seval],by simp only[Qb,seval]⟩
  ·have d0:decide ((b:Int)<(xs.length:Int))=false:=by simp only[QRr];omega
   have hfin:Xh (lt c) b n xs=QC (lt c) xs:=Vg (by omega) hbn;simp only[d0,hfin,put_len,ost,Qb,seval]

include hC hcz in
theorem CW {kc:Nat}{c:AV→AV→Int}(hc:Cp Pg cz E kc c)(lv s g:Nat)(xs:List AV)(m:Qj)(hl:Am.Qd m lv s=.vec g cz xs)(he:∀x∈xs,Ez E cz x)
  (hn:xs.length<1152921504606846976) :
  Qx Pg ss [.vec lv s g 0 xs.length false,.fn (.func kc) [] []] m
   (fun x m1=>x=.tup []∧m1=Am.put m lv s (.vec g cz (QC (lt c) xs))):=by
 have _:=hC;have _:=hcz;have hlv:lv<m.length:=Xa (by rw[hl];simp);refine hC.css.go (by simp) ?_;have hl2:Am.Qd (QE :: m) (lv+1) s=.vec g cz xs:=hl;simp only[AC,rss,oss,hl2,Qb,seval];refine QU ((QLj hC hcz hc (lv+1) s g xs (QE :: m) hl he hn).mono fun x m1 h=>⟨h.1,h.2.trans rfl⟩) rfl ?_;simp only[Am.put,put_len,Qb,seval]

end Go.Proofs.YtfgchfdkiomfpaaGreat.Tz

namespace Go.Proofs.YtfgchfdkiomfpaaGreat.Tg
open Go Am

theorem QEs:Cs Tryz.prog 4 216 203 166 165 106 58 where
 csr:=ck Tryz.func216 Tryz.ntmps216 (by decide +kernel)
 cro:=ck Tryz.func203 Tryz.ntmps203 (by decide +kernel)
 csm:=ck Tryz.func166 Tryz.ntmps166 (by decide +kernel)
 cis:=ck Tryz.func165 Tryz.ntmps165 (by decide +kernel)
 cst:=ck Tryz.func106 Tryz.ntmps106 (by decide +kernel)
 css:=ck Tryz.func58 Tryz.ntmps58 (by decide +kernel)

theorem Qth:Cs Tryz.prog 8 221 210 190 189 155 98 where
 csr:=ck Tryz.func221 Tryz.ntmps221 (by decide +kernel)
 cro:=ck Tryz.func210 Tryz.ntmps210 (by decide +kernel)
 csm:=ck Tryz.func190 Tryz.ntmps190 (by decide +kernel)
 cis:=ck Tryz.func189 Tryz.ntmps189 (by decide +kernel)
 cst:=ck Tryz.func155 Tryz.ntmps155 (by decide +kernel)
 css:=ck Tryz.func98 Tryz.ntmps98 (by decide +kernel)

theorem PU:Cs Tryz.prog 14 226 222 212 211 191 158 where
 csr:=ck Tryz.func226 Tryz.ntmps226 (by decide +kernel)
 cro:=ck Tryz.func222 Tryz.ntmps222 (by decide +kernel)
 csm:=ck Tryz.func212 Tryz.ntmps212 (by decide +kernel)
 cis:=ck Tryz.func211 Tryz.ntmps211 (by decide +kernel)
 cst:=ck Tryz.func191 Tryz.ntmps191 (by decide +kernel)
 css:=ck Tryz.func158 Tryz.ntmps158 (by decide +kernel)

end Go.Proofs.YtfgchfdkiomfpaaGreat.Tg

namespace Go.Proofs.YtfgchfdkiomfpaaGreat.Rc
open Go Am
end Go.Proofs.YtfgchfdkiomfpaaGreat.Rc

namespace Go.Proofs.YtfgchfdkiomfpaaGreat.Va
open Go Am Rc Bt Br Up So

section
variable {α β:Type}{lt:β→β→Bool}{lt':α→α→Bool}{F:α→β}(h:∀x y,lt (F x) (F y)=lt' x y)
include h
theorem BR (a:α):∀l:List α,ZX lt (F a) (l.map F)=(ZX lt' a l).map F
 | []=>rfl
 |x :: l=>by
  rw[QP8,ZX,ZX,h x a];cases lt' x a
  ·rfl
  ·show F x :: ZX lt (F a) (l.map F)=_;rw[BR a l];rfl
theorem WF:∀l:List α,QC lt (l.map F)=(QC lt' l).map F
 | []=>rfl
 |a :: l=>by
  rw[QP8,QC,WF l,BR h a];rfl
end
theorem BS {α β:Type}{lt:β→β→Bool}(h:SW lt)(f:α→β):SW fun x y=>lt (f x) (f y) where
 irr _:=h.irr _
 tr _ _ _:=h.tr _ _ _
 nt _ _ _:=h.nt _ _ _
theorem Qti:SW fun a b:Int=>decide (a<b) where
 irr x:=by simp
 tr x y z h k:=by simp only[QQW]at *;omega
 nt x y z h k:=by simp only[QRr]at *;omega
theorem Fs (a b:Int):decide (cN a b<0)=decide (a<b):=by
 unfold cN;split
 ·rename_i h;simp[h]
 ·rename_i h;split<;>simp[h]
theorem AD (a b:List UInt8):decide (cS a b<0)=Op.bytesLess a b:=by
 unfold cS;cases Op.bytesLess a b
 ·cases(a==b)<;>simp
 ·simp

theorem UV {z:Nat}(hz:z≠0){xs:List AV}(h:xs.all (fun e=>e.cells.length==z)=true)(hf:QS xs=[]):xs=[]:=by
 cases xs with
 |nil=>rfl
 |cons x xs=>
  have hl:x.cells.length=z:=by simpa using QPM.1 h x (by simp)
  have:x.cells=[]:=(List.append_eq_nil_iff.1 hf).1;rw[this]at hl;exact absurd hl.symm hz

theorem v53 (xs:List AV)(fr:Nat→Ob)(m:Qj)(h:xs.all (fun e=>e.cells.length==4)=true)(hn:xs.length≤1048576)(hr:Qi (fr 1000)=true) :
  Qx Tryz.prog 53 [.list xs] (fr :: m) (fun x m1=>x=.vec 0 1000 (Xx (fr 1000)) 0 xs.length false∧m1=QI fr 1000 (.vec (Xx (fr 1000)) 4 xs) :: m):=by
 have hng:Qq (fr :: m) 0 1000=Xx (fr 1000):=Kn;refine k53.go (by simp) ?_;simp only[SI,V6,V7,Qb,seval];refine JS (ys:=xs) (by simp only[Qb,seval]) ?_ ?_
 ·simp only[V9,Qb,seval];refine XN rfl ?_;simp only[Qb,seval];refine QF (site:=5) (g:=1) (xs:=[]) (ys:=xs) rfl rfl rfl rfl rfl h (by simp[maxLen];omega) (by simp;omega) ?_;simp only[Qb,seval];refine Zm (l:=0) (site:=5) (g:=2) (o:=0) (n:=xs.length) (q:=false) (sz:=4) (xs:=xs) (by simp only[QQi,Qb,seval]) (by simp only[Qb,seval]) (by simp) (by decide) hr ?_;simp only[hng,NX,eE,seval]
  try simp[AV.still,AV.un,Zp,XD]
 ·intro he;have hx:xs=[]:=by
   rcases he with he|he
   ·exact he
   ·exact UV (by decide) h he
  subst hx;simp only[V8,Qb,seval];refine Jq (by simp only[Qb,seval]) rfl ?_;simp only[Qb,seval];refine Zm (l:=0) (site:=2) (g:=1) (o:=0) (n:=0) (q:=false) (sz:=4) (xs:=[]) (by simp only[Qb,seval]) (by simp only[Qb,seval]) (by simp) (by decide) hr ?_;simp only[hng,NX,eE,seval]
  try simp[AV.still,AV.un,Zp,XD]

theorem v97 (xs:List AV)(fr:Nat→Ob)(m:Qj)(h:xs.all (fun e=>e.cells.length==8)=true)(hn:xs.length≤1048576)(hr:Qi (fr 1000)=true) :
  Qx Tryz.prog 97 [.list xs] (fr :: m) (fun x m1=>x=.vec 0 1000 (Xx (fr 1000)) 0 xs.length false∧m1=QI fr 1000 (.vec (Xx (fr 1000)) 8 xs) :: m):=by
 have hng:Qq (fr :: m) 0 1000=Xx (fr 1000):=Kn;refine k97.go (by simp) ?_;simp only[SO,Ca,Cb,Qb,seval];refine JS (ys:=xs) (by simp only[Qb,seval]) ?_ ?_
 ·simp only[Cd,Qb,seval];refine XN rfl ?_;simp only[Qb,seval];refine QF (site:=5) (g:=1) (xs:=[]) (ys:=xs) rfl rfl rfl rfl rfl h (by simp[maxLen];omega) (by simp;omega) ?_;simp only[Qb,seval];refine Zm (l:=0) (site:=5) (g:=2) (o:=0) (n:=xs.length) (q:=false) (sz:=8) (xs:=xs) (by simp only[QQi,Qb,seval]) (by simp only[Qb,seval]) (by simp) (by decide) hr ?_;simp only[hng,NY,eE,seval]
  try simp[AV.still,AV.un,Zp,XD]
 ·intro he;have hx:xs=[]:=by
   rcases he with he|he
   ·exact he
   ·exact UV (by decide) h he
  subst hx;simp only[Cc,Qb,seval];refine Jq (by simp only[Qb,seval]) rfl ?_;simp only[Qb,seval];refine Zm (l:=0) (site:=2) (g:=1) (o:=0) (n:=0) (q:=false) (sz:=8) (xs:=[]) (by simp only[Qb,seval]) (by simp only[Qb,seval]) (by simp) (by decide) hr ?_;simp only[hng,NY,eE,seval]
  try simp[AV.still,AV.un,Zp,XD]

theorem Qtj (xs:List AV)(fr:Nat→Ob)(m:Qj)(h:xs.all (fun e=>e.cells.length==14)=true)(hn:xs.length≤1048576)(hr:Qi (fr 1000)=true) :
  Qx Tryz.prog 157 [.list xs] (fr :: m) (fun x m1=>x=.vec 0 1000 (Xx (fr 1000)) 0 xs.length false∧m1=QI fr 1000 (.vec (Xx (fr 1000)) 14 xs) :: m):=by
 have hng:Qq (fr :: m) 0 1000=Xx (fr 1000):=Kn;refine RE.go (by simp) ?_;simp only[Ce,F5,F6,Qb,seval];refine JS (ys:=xs) (by simp only[Qb,seval]) ?_ ?_
 ·simp only[F8,Qb,seval];refine XN rfl ?_;simp only[Qb,seval];refine QF (site:=5) (g:=1) (xs:=[]) (ys:=xs) rfl rfl rfl rfl rfl h (by simp[maxLen];omega) (by simp;omega) ?_;simp only[Qb,seval];refine Zm (l:=0) (site:=5) (g:=2) (o:=0) (n:=xs.length) (q:=false) (sz:=14) (xs:=xs) (by simp only[QQi,Qb,seval]) (by simp only[Qb,seval]) (by simp) (by decide) hr ?_;simp only[hng,Dj,eE,seval]
  try simp[AV.still,AV.un,Zp,XD]
 ·intro he;have hx:xs=[]:=by
   rcases he with he|he
   ·exact he
   ·exact UV (by decide) h he
  subst hx;simp only[F7,Qb,seval];refine Jq (by simp only[Qb,seval]) rfl ?_;simp only[Qb,seval];refine Zm (l:=0) (site:=2) (g:=1) (o:=0) (n:=0) (q:=false) (sz:=14) (xs:=[]) (by simp only[Qb,seval]) (by simp only[Qb,seval]) (by simp) (by decide) hr ?_;simp only[hng,Dj,eE,seval]
  try simp[AV.still,AV.un,Zp,XD]

section rows
variable {fr:Nat→Ob}{m:Qj}{s g z n i:Nat}{xs l:List AV}
theorem Sg (h:fr s=.vec g z xs)(hi:i<n):Qf (fr :: m) z none (.vec 0 s g 0 n false) ((i:Nat):Int)=some (.vptr 0 s g i 0):=by
 have e:Am.Qd (fr :: m) 0 s=.vec g z xs:=h;simp only[Qf,e,QQ2];rw[QP5 (by omega),QP5 ⟨trivial,trivial,hi⟩,QQi]
theorem BT {k:Nat}(h:fr s=.vec g z xs)(hx:xs[i]? = some (.agg l))(hk:k≤l.length):Q6 (fr :: m) (some k) (.vptr 0 s g i 0)=some (.agg (l.take k)):=by
 have e:Am.Qd (fr :: m) 0 s=.vec g z xs:=h;simp only[Q6,e,if_true,hx,Am.part];show(if 0+k≤l.length then some (AV.agg ((l.drop 0).take k))else none)=_;rw[QP5 (by omega),QQj]
theorem QLk {o:Nat}(h:fr s=.vec g z xs)(hx:xs[i]? = some (.agg l)):Q6 (fr :: m) none (.vptr 0 s g i o)=l[o]?:=by
 have e:Am.Qd (fr :: m) 0 s=.vec g z xs:=h;simp only[Q6,e,if_true,hx,Am.part,AV.cells]
end rows

def eS (x:AV):Prop:=∃s:Int×V,x=V.sav s
theorem QEt (s:Int×V):Ez eS 8 (V.sav s):=by
 refine⟨⟨s,rfl⟩,?_⟩;rw[ZJ];exact⟨_,rfl,rfl,rfl,rfl,fun _=>rfl⟩
def nA:AV→Int
 |.agg (.int _ n :: _)=>n
 |_=>0
def cA (x y:AV):Int:=cN (nA x) (nA y)
theorem CX (x y:AV):Tz.lt cA x y=decide (nA x<nA y):=Fs _ _
theorem AE:SW (Tz.lt cA):=by
 have e:Tz.lt cA=fun x y=>decide (nA x<nA y):=by funext x y;exact CX x y
 rw[e];exact BS Qti nA
theorem G4 (s:Int×V):nA (V.sav s)=s.1:=by rw[ZJ];rfl

theorem v99 (x y:Int×V):Qh Tryz.prog 99 [V.sav x,V.sav y] (.int .i64 (cN x.1 y.1)):=by
 rw[ZJ,ZJ];refine k99.fn (by simp) ?_;simp only[eE,seval];refine Qa (TK x.1 y.1) rfl rfl rfl (.inl rfl) ?_;simp only[Qb,seval]

theorem QLl:Tz.Cp Tryz.prog 8 eS 99 cA where
 call x y hx hy:=by
  obtain⟨s,rfl⟩:=hx.1;obtain⟨t,rfl⟩:=hy.1;unfold cA;rw[G4,G4];exact v99 s t
 sw:=AE

theorem Sh (l:List (Int×V)):QC (Tz.lt cA) (l.map V.sav)=(Kh l).map V.sav:=WF (fun x y=>by rw[CX,G4,G4]) l
theorem JK (l:List (Int×V)):(l.map V.sav).all (fun e=>e.cells.length==8)=true:=by
 rw[List.all_map,QPM];intro x _;simp[ZJ,AV.cells]
theorem ezS (l:List (Int×V)):∀x∈l.map V.sav,Ez eS 8 x:=by
 intro x hx;obtain⟨s,_,rfl⟩:=QQT.1 hx;exact QEt s

def SoI (T:List (Int×V))(k:Nat)(st:St):Prop :=
 ∃f fr i g h,st=⟨f,[fr],[]⟩∧k=T.length-i∧i≤T.length∧f 3=.vec 0 1000 g 0 T.length false∧f 4=.vec 0 4 h 0 i false∧f 11=.vec 0 1000 g 0 T.length false∧f 12=.int .i64 (T.length:Nat)∧f 13=.int .i64 (i:Nat)∧fr 1000=.vec g 8 (T.map V.sav)∧fr 4=.vec h 8 ((T.take i).map V.sav)∧∀s∈[6],(fr s).isRow=false

theorem v54 (sl:List (Int×V))(hn:sl.length≤1048576)(hu:sl.Pairwise fun y x=>(y.1==x.1)=false):Qh Tryz.prog 54 [.list (sl.map V.sav)] (.list ((Kh sl).map V.sav)):=by
 have cl:=fun fr hr=>v97 (sl.map V.sav) fr [] (JK sl) (by rw[QQu];exact hn) hr
 have cs:=fun g (m:Qj) (hl:Am.Qd m 0 1000=.vec g 8 (sl.map V.sav))=>Tz.CW Tg.Qth (by decide) QLl 0 1000 g (sl.map V.sav) m hl (ezS sl) (by rw[QQu];omega)
 simp only[Sh,QQu]at cs;have hperm:(Kh sl).Perm sl:=Q0 _;have hlen:(Kh sl).length=sl.length:=hperm.length_eq;have hun:(Kh sl).Pairwise fun y x=>(y.1==x.1)=false:=(hperm.pairwise_iff fun {a b} h=>by rw[Bool.beq_comm];exact h).2 hu
 generalize Kh sl=T at *;refine k54.fn (by simp) ?_;simp only[Qb,seval];refine QU (cl _ rfl) (by simp only[QP8,QQB,Qb,seval]) ?_;simp only[QQu,Qb,seval];refine QU (cs _ _ (by simp only[eE,seval]<;>rfl)) (by simp only[QP8,QQB,Qb,seval]) ?_;simp only[eE,seval];refine Jq (by simp only[Qb,seval]) (by simp only[Qb,seval]) ?_;simp only[eE,seval];refine Qg (SoI T) _ ⟨_,_,0,_,_,rfl,rfl,QPJ _,(by rw[hlen];exact(by rfl)),(by rfl),(by rw[hlen];exact(by rfl)),(by rw[hlen];exact(by rfl)),(by rfl),(by rfl),(by rfl),by simp<;>rfl⟩ ?_;rintro _ st ⟨f0,fr0,i,g,h,rfl,rfl,hil,h30,h40,h110,h120,h130,mR0,m40,r6⟩;refine QX (a:=_) [6] r6 ?_;intro f fr hf hm hn6;have h3:f 3=.vec 0 1000 g 0 T.length false:=by rw[hf,h30]<;>rfl
 have h4:f 4=.vec 0 4 h 0 i false:=by rw[hf,h40]<;>rfl
 have h11:f 11=.vec 0 1000 g 0 T.length false:=by rw[hf,h110]<;>rfl
 have h12:f 12=.int .i64 (T.length:Nat):=by rw[hf,h120]<;>rfl
 have h13:f 13=.int .i64 (i:Nat):=by rw[hf,h130]<;>rfl
 have mR:fr 1000=.vec g 8 (T.map V.sav):=by rw[hm 1000 (by decide),mR0]<;>rfl
 have m4:fr 4=.vec h 8 ((T.take i).map V.sav):=by rw[hm 4 (by decide),m40]<;>rfl
 have n6:=hn6 6 (by decide);clear hf hm hn6 h30 h40 h110 h120 h130 mR0 m40 r6;simp only[h12,h13,Qb,seval];by_cases hlt:i<T.length
 ·obtain⟨x,hi⟩:∃x,T[i]? = some x:=⟨T[i],QPE hlt⟩;have hg:=Y8 hi;have e1:=Qw i _ hlt (by simp only[maxLen];omega);have ia:∀(fr:Nat→Ob) (j:Nat),fr 1000=.vec g 8 (T.map V.sav)→j<T.length→Qf [fr] 8 none (.vec 0 1000 g 0 T.length false) ((j:Nat):Int)=some (.vptr 0 1000 g j 0):=fun fr j h hj=>Sg h hj
  have la:∀(fr:Nat→Ob),fr 1000=.vec g 8 (T.map V.sav)→Q6 [fr] (some 8) (.vptr 0 1000 g i 0)=some (.agg [.int .i64 x.1,.int .i64 x.2.kd,.int .u64 (x.2.bits:Nat),.str x.2.text,.list (x.2.list.map V.av),.list (x.2.pairs.map V.pav),.list (x.2.slots.map V.sav),.list (x.2.raws.map R.av)]):=fun fr h=>BT h hg (by simp)
  have fin:∀(f':Fr) (fr':Nat→Ob) (h':Nat),f' 3=.vec 0 1000 g 0 T.length false→f' 4=.vec 0 4 h' 0 (i+1) false→f' 11=.vec 0 1000 g 0 T.length false→f' 12=.int .i64 (T.length:Nat)→f' 13=.int .i64 ((i+1:Nat):Int)→fr' 1000=.vec g 8 (T.map V.sav)→fr' 4=.vec h' 8 ((T.take i).map V.sav++[V.sav x])→(∀s∈[6],(fr' s).isRow=false)→∃k,k<T.length-i∧SoI T k ⟨f',[fr'],[]⟩:=by
   intro f' fr' h' a3 a4 a11 a12 a13 b1 b4 b6;exact⟨T.length-(i+1),by omega,f',fr',i+1,g,h',rfl,rfl,by omega,a3,a4,a11,a12,a13,b1,by rw[b4,QRm,hi];simp,b6⟩
  have hti:((T.take i).map V.sav).length=i:=by rw[QQu,QQw];omega
  simp only[Qr hlt,ia,la,mR,hlt,n6,h3,h11,h13,e1,eE,seval];by_cases hl:i+1=T.length
  ·have d1:(((i+1:Nat):Int)==(T.length:Int))=true:=by simp;omega
   simp only[d1,h4,eE,seval];refine QN (l:=[V.sav x]) rfl rfl rfl (by rw[ZJ];rfl) ?_;refine QF (site:=4) (g:=h) (n:=i) (xs:=(T.take i).map V.sav) (ys:=[V.sav x]) (by rfl) (by exact m4) rfl hti.symm rfl (JK [x]) (by simp only[QPP,QQv,maxLen];omega) (by simp only[QPP,QQv];omega) ?_;simp only[h13,e1,Qb,seval];exact fin _ _ (h+1) (by exact h3) (by rfl) (by exact h11) (by exact h12) (by rfl) (by exact mR) (by rfl) (by simp<;>rfl)
  ·have d1:(((i+1:Nat):Int)==(T.length:Int))=false:=by simp;omega
   have hlt1:i+1<T.length:=by omega
   obtain⟨y,hj⟩:∃y,T[i+1]? = some y:=⟨T[i+1],QPE hlt1⟩;have hgj:=Y8 hj;have lc:∀(fr:Nat→Ob),fr 1000=.vec g 8 (T.map V.sav)→Q6 [fr] none (.vptr 0 1000 g (i+1) 0)=some (.int .i64 y.1):=fun fr h=>QLk h hgj
   have hne:(x.1 != y.1)=true:=by
    rw[QRz]at hun;have:=hun i (i+1) hlt hlt1 (by omega);rw[(QPD.1 hi).2,(QPD.1 hj).2]at this
    simpa using this
   simp only[d1,ia,lc,mR,hlt1,hne,Wm,QQi,h3,h4,e1,eE,seval];refine QN (l:=[V.sav x]) rfl rfl rfl (by rw[ZJ];rfl) ?_;refine QF (site:=4) (g:=h) (n:=i) (xs:=(T.take i).map V.sav) (ys:=[V.sav x]) (by rfl) (by exact m4) rfl hti.symm rfl (JK [x]) (by simp only[QPP,QQv,maxLen];omega) (by simp only[QPP,QQv];omega) ?_;simp only[h13,e1,Qb,seval];exact fin _ _ (h+1) (by exact h3) (by rfl) (by exact h11) (by exact h12) (by rfl) (by exact mR) (by rfl) (by simp<;>rfl)
 ·have e:i=T.length:=by omega
  subst e;rw[QRd]at m4;simp only[QO hlt,h4,eE,seval];simp[AV.un,Zp,XD,m4];rw[QQa (by rw[QQu];exact QPB _)]

end Go.Proofs.YtfgchfdkiomfpaaGreat.Va

import Derived.Test.YtmlohboeoeoamaaGreatDoorMLensPasses2
set_option linter.defProp false
namespace Go.Proofs.YtmlohboeoeoamaaGreatDoor
open Go.Proofs.Tryz
set_option linter.unusedSimpArgs false
namespace Va
open Go Am Rc Bt Br Up So
section sorting
variable {α:Type}{lt:α->α->Bool}
theorem Pq (a:α):∀l:List α,(Z3 lt a l).Perm (a :: l)
 | []=>.refl _
 |x :: l=>by
  rw[Z3];cases lt x a
  ·exact .refl _
  ·exact((Pq a l).cons x).trans (.swap a x l)
theorem QN:∀l:List α,(QJ lt l).Perm l
 | []=>.refl _
 |a :: l=>(Pq a _).trans ((QN l).cons a)
theorem GH:∀ {l:List α},Zt lt l->QJ lt l=l
 | [],_=>rfl
 |a :: l,h=>by
  obtain⟨h1,h2⟩:=QoN.1 h;rw[QJ,GH h2];cases l with
  |nil=>rfl
  |cons x l=>exact Hq (h1 x ό)
end sorting
def GI:∀ {a b c:List UInt8},Op.bytesLess a b=true->Op.bytesLess b c=true->Op.bytesLess a c=true
 |a,b,[],_,h=>by cases b<;>simp[Op.bytesLess]at h
 | [],_,_ :: _,_,_=>by simp[Op.bytesLess]
 |x :: a,[],_ :: _,h,_=>Ķ
 |x :: a,y :: b,z :: c,h,k=>by
  simp only[Op.bytesLess,Qne,Qnz,Qnf,Qng]at h k |-;rcases h with h|⟨h1,h2⟩<;>rcases k with k|⟨k1,k2⟩
  ·exact .inl (UInt8.lt_trans h k)
  ·subst k1;exact .inl h
  ·subst h1;exact .inl k
  ·subst h1 k1;exact .inr ⟨rfl,GI h2 k2⟩
def DO:∀ {a b:List UInt8},Op.bytesLess a b=false->Op.bytesLess b a=false->a=b
 | [],[],_,_=>rfl
 | [],_ :: _,h,_=>Ķ
 |_ :: _,[],_,h=>Ķ
 |x :: a,y :: b,h,k=>by
  simp only[Op.bytesLess,Qn4,Qpj,Qpf,Qo2]at h k;have e:x=y:=by
   rcases Nat.lt_trichotomy x.toNat y.toNat with g|g|g
   ·exact absurd (UInt8.lt_iff_toNat_lt.2 g) h.1
   ·exact UInt8.toNat_inj.1 g
   ·exact absurd (UInt8.lt_iff_toNat_lt.2 g) k.1
  subst e;rw[DO (h.2.resolve_left λg=>g rfl) (k.2.resolve_left λg=>g rfl)]
def Hr:∀a:List UInt8,Op.bytesLess a a=false
 | []=>rfl
 |x :: a=>by simp[Op.bytesLess,Hr a]
def kl (k:Int)(a b:V):Bool :=
 if Zz k=true then Op.bytesLess a.text b.text else if (k==2||k==3)=true then decide (IntKind.i64.wrap (a.bits:Int)<IntKind.i64.wrap (b.bits:Int))else decide ((a.bits:Int)<(b.bits:Int))
def KE (k:Int):SW λx y:V×V=>kl k x.1 y.1 where
 irr x:=by
  unfold kl;split
  ·exact Hr _
  ·split<;>simp
 tr x y z h g:=by
  unfold kl at *;split
  ·rename_i ht;rw[Qnj ht]at h g;exact GI h g
  ·rename_i ht;rw[Qni ht]at h g;split
   ·rename_i hs;rw[Qnj hs]at h g;simp only[Qnf]at *;omega
   ·rename_i hs;rw[Qni hs]at h g;simp only[Qnf]at *;omega
 nt x y z h g:=by
  unfold kl at *;split
  ·rename_i ht;rw[Qnj ht]at h g;cases hc:Op.bytesLess x.1.text z.1.text with
   |false=>rfl
   |true=>
    cases hy:Op.bytesLess y.1.text x.1.text with
    |true=>rw[GI hy hc]at g;cases g
    |false=>
     rw[DO h hy]at hc;rw[hc]at g;cases g
  ·rename_i ht;rw[Qni ht]at h g;split
   ·rename_i hs;rw[Qnj hs]at h g;simp only[Qpf]at *;omega
   ·rename_i hs;rw[Qni hs]at h g;simp only[Qpf]at *;omega
def QY (k:Int)(l:List (V×V)):List (V×V):=QJ (λx y=>kl k x.1 y.1) l
def Zp (l:List R):List R:=QJ (λx y=>decide (x.num<y.num)) l
def DP:SW λx y:R=>decide (x.num<y.num) where
 irr x:=ό
 tr x y z h k:=ĩ
 nt x y z h k:=Ī
def _root_.Go.Proofs.YtmlohboeoeoamaaGreatDoor.Br.V.nsc (v:V):V:=.mk v.kd (Xw v.kd v.bits) v.text v.list v.pairs v.slots v.raws
def _root_.Go.Proofs.YtmlohboeoeoamaaGreatDoor.Br.V.emp (v:V):Bool:=Va.emp v.kd v.bits v.text (v.list.map V.av) (v.pairs.map V.pav) (v.slots.map V.sav) (v.raws.map R.av)
section
variable (nm:PG->V->V)(P:PL)
def Xv (o:PO)(v:V):V:=if o.kind=10 then nm (Qe P o.target) v else v.nsc
def XT (o:PO)(v:V):V :=
 if o.card=4 then .mk 11 0 [] (v.list.map (Xv nm P o)) [] [] []else if o.card=5 then .mk 12 0 [] [] ((QY o.key v.pairs).map λp=>(p.1.nsc,Xv nm P o p.2)) [] []else Xv nm P o v
def Xb (sl:List (Int×V))(o:PO):List (Int×V):=match sl.find? (λs=>s.1==o.num)with
 |none=>[]
 |some s=>if (decide (o.card<3) || !(XT nm P o s.2).emp)=true then [(o.num,XT nm P o s.2)]else []
def YL (g:PG)(v:V):V:=.mk 10 0 [] [] [] (g.ops.flatMap (Xb nm P v.slots)) (Zp v.raws)
end
def nrm (P:PL):Nat->PG->V->V
 |0,_,v=>v
 |n+1,g,v=>YL (nrm P n) P g v
def SP (v:V):v.nsc.cnt=v.cnt:=by
 rw[Q8,Q8 v];rfl
def Pr {f:V->V}(h:∀v,(f v).cnt<=v.cnt):∀l:List V,Q9 (l.map f)<=Q9 l
 | []=>Qm8 _
 |x :: l=>by
  have:=h x;have:=Pr h l;simp only[QnJ,Q9];omega
def Ps {f g:V->V}(h:∀v,(f v).cnt<=v.cnt)(k:∀v,(g v).cnt<=v.cnt):∀l:List (V×V),Xo (l.map λp=>(f p.1,g p.2))<=Xo l
 | []=>Qm8 _
 |(a,b) :: l=>by
  have:=h a;have:=k b;have:=Ps h k l;simp only[QnJ,Xo];omega
def Cu {a b:List (V×V)}(h:a.Perm b):Xo a=Xo b:=by
 induction h with
 |nil=>rfl
 |cons x _ ih=>obtain⟨p,q⟩:=x;simp only[Xo,ih]
 |swap x y l=>obtain⟨p,q⟩:=x;obtain⟨r,s⟩:=y;simp only[Xo];omega
 |trans _ _ h1 h2=>rw[h1,h2]
def Bu (a b:List (Int×V)):Xk (a++b)=Xk a+Xk b:=by
 induction a with
 |nil=>simp[Xk]
 |cons x a ih=>obtain⟨n,v⟩:=x;simp only[Qnx,Xk,ih];omega
def VL {nm:PG->V->V}{P:PL}(h:∀t v,(nm (Qe P t) v).cnt<=v.cnt)(o:PO)(v:V):(Xv nm P o v).cnt<=v.cnt:=by
 unfold Xv;split
 ·exact h _ _
 ·rw[SP];exact Qm8 _
def SQ {nm:PG->V->V}{P:PL}(h:∀t v,(nm (Qe P t) v).cnt<=v.cnt)(o:PO)(v:V):(XT nm P o v).cnt<=v.cnt:=by
 unfold XT;split
 ·have:=Pr (VL (P:=P) h o) v.list;rw[Q8,Q8 v];simp only[V.raws,V.list,V.pairs,V.slots,Qn7,Xo,Xk];simp only[V.list]at this;omega
 ·split
  ·have h1:=Ps (f:=V.nsc) (g:=Xv nm P o) (λv=>by rw[SP];exact Qm8 _) (VL (P:=P) h o) (QY o.key v.pairs);have h2:Xo (QY o.key v.pairs)=Xo v.pairs:=Cu (QN _);rw[Q8,Q8 v];simp only[V.raws,V.list,V.pairs,V.slots,Qn7,Q9,Xk];simp only[V.pairs]at h1 h2;omega
  ·exact VL h o v
def wS (sl:List (Int×V))(n:Int):Nat:=Xk (sl.filter λs=>s.1==n)
def IV (ops:List PO)(hd:ops.Pairwise λa b=>a.num<b.num)(n:Int)(w:Nat):(ops.map λo=>if n=o.num then w else 0).sum<=w:=by
 induction ops with
 |nil=>simp
 |cons o ops ih=>
  obtain⟨h1,h2⟩:=QoN.1 hd;simp only[QnJ,Qps];by_cases e:n=o.num
  ·have:(ops.map λo=>if n=o.num then w else 0).sum=0:=by
    have:∀l:List PO,(∀x∈l,n≠x.num)->(l.map λo=>if n=o.num then w else 0).sum=0:=by
     intro l
     induction l with
     |nil=>intro _;rfl
     |cons x l ih=>
      intro h;rw[QnJ,Qps,Qni (h x ό),ih λy hy=>h y ϳ]
    exact this ops λx hx=>by have:=h1 x hx;omega
   rw[Qnj e,this];omega
  ·rw[Qni e];have:=ih h2;omega
def QfR (ops:List PO)(hd:ops.Pairwise λa b=>a.num<b.num)(sl:List (Int×V)):(ops.map λo=>wS sl o.num).sum<=Xk sl:=by
 induction sl with
 |nil=>
  have:∀l:List PO,(l.map λo=>wS [] o.num).sum=0:=by
   intro l
   induction l with
   |nil=>rfl
   |cons x l ih=>rw[QnJ,Qps,ih];rfl
  rw[this];exact Qnk _
 |cons s sl ih=>
  obtain⟨n,v⟩:=s;have h1:=IV ops hd n v.cnt;have h2:∀l:List PO,(l.map λo=>wS ((n,v) :: sl) o.num).sum=(l.map λo=>if n=o.num then v.cnt else 0).sum+(l.map λo=>wS sl o.num).sum:=by
   intro l
   induction l with
   |nil=>rfl
   |cons o l ih=>
    simp only[QnJ,Qps,ih];have:wS ((n,v) :: sl) o.num=(if n=o.num then v.cnt else 0)+wS sl o.num:=by
     unfold wS;by_cases e:n=o.num
     ·rw[List.filter_cons_of_pos Μ,Qnj e,Xk]
     ·rw[Qpt Μ,Qni e,QnA]
    omega
  rw[h2,Xk];omega
def QdY {sl:List (Int×V)}{n:Int}{s:Int×V}(h:sl.find? (λs=>s.1==n)=some s):s.2.cnt<=wS sl n:=by
 unfold wS
 induction sl with
 |nil=>cases h
 |cons x sl ih=>
  obtain⟨m,v⟩:=x;rw[Qo7]at h;by_cases e:m=n
  ·have hb:((m,v).1==n)=true:=Μ
   rw[hb]at h;cases h;rw[List.filter_cons_of_pos Μ,Xk];exact Nat.le_add_right _ _
  ·exact ON
def QaT {nm:PG->V->V}{P:PL}(h':∀t v,(nm (Qe P t) v).cnt<=v.cnt)(g:PG)(hd:g.ops.Pairwise λa b=>a.num<b.num)(v:V):(YL nm P g v).cnt<=v.cnt:=by
 have h1:Xk (g.ops.flatMap (Xb nm P v.slots))<=(g.ops.map λo=>wS v.slots o.num).sum:=by
  clear hd
  induction g.ops with
  |nil=>exact Qm8 _
  |cons o l ih=>
   have:Xk (Xb nm P v.slots o)<=wS v.slots o.num:=by
    unfold Xb;cases hf:v.slots.find? (λs=>s.1==o.num)with
    |none=>exact Qnk _
    |some s=>
     have a:=QdY hf;have b:=SQ (P:=P) h' o s.2;dsimp only;split
     ·simp only[Xk];omega
     ·exact Qnk _
   rw[QoH,Bu,QnJ,Qps];omega
 have h2:=QfR g.ops hd v.slots;have h3:(Zp v.raws).length=v.raws.length:=(QN _).length_eq;rw[Q8,Q8 v];simp only[YL,V.raws,V.list,V.pairs,V.slots,Q9,Xo]at *;omega
def XR (P:PL):Prop:=∀g∈P.progs,g.ops.Pairwise λa b=>a.num<b.num
def Zf {P:PL}(h:XR P)(t:Int):(Qe P t).ops.Pairwise λa b=>a.num<b.num:=by
 unfold Qe;cases hg:P.progs[t.toNat]? with
 |none=>exact .nil
 |some g=>exact h g (Qnp hg)
def JQ {P:PL}(h:XR P):∀(n:Nat) (g:PG),(g.ops.Pairwise λa b=>a.num<b.num)->∀v:V,(nrm P n g v).cnt<=v.cnt
 |0,_,_,_=>Qm8 _
 |n+1,g,hg,v=>QaT (λt v=>JQ h n _ (Zf h t) v) g hg v
end Va
namespace Va
open Go Am Rc Bt Br
def JoI (g:PG)(k:Nat)(st:St):Prop :=
 ∃f fr i n b,st=⟨f,[fr],[]⟩/\k=g.ops.length-i/\KY g.ops 0 (-1)=KY (g.ops.drop i) n b/\0<=n/\n<=(i:Int)/\((i=0/\b = -1)\/∃j o,i=j+1/\g.ops[j]? = some o/\b=o.union)/\f 1=.ptr 0 1 0/\f 3=.int .i64 n/\f 4=.int .i64 (i:Nat)/\fr 1=.cells g.cells
def z74 (g:PG)(hl:g.ops.length<=9223372036854775000):Qi prog 74 [Qm g] (.bool (KV g)):=by
 refine wF func74 ?_;simp only[eK,f74,seval];simp only[Qm,PG.cells,eE,seval];refine Qj (JoI g) _ ⟨_,_,0,0,-1,rfl,rfl,rfl,ϊ,ϊ,.inl ⟨rfl,rfl⟩,ω,ω,ω,ω⟩ ?_;rintro _ st ⟨f,fr,i,n,b,rfl,rfl,hj,kP,y5,hb,h1,h3,h4,m1⟩;simp only[PG.cells]at m1;simp only[Qn6,h1,h4,m1,eE,seval];by_cases aa:i<g.ops.length
 ·obtain⟨o,hi⟩:∃o,g.ops[i]? = some o:=⟨g.ops[i],Qnb aa⟩;have hg:(g.ops.map λo=>AV.agg o.cells)[i]? = some (.agg o.cells):=ĭ
  have e1:=Qv i _ aa ώ;have en:IntKind.i64.wrap (n+1)=n+1:=ϐ
  rw[NH hi]at hj;have fin:∀(f':Fr) (n':Int),(if o.union=n then n'=n+1 else n'=n)->KY g.ops 0 (-1)=KY (g.ops.drop (i+1)) n' o.union->f' 1=.ptr 0 1 0->f' 3=.int .i64 n'->f' 4=.int .i64 ((i+1:Nat):Int)->∃k,k<g.ops.length-i/\JoI g k ⟨f',[fr],[]⟩:=by
   intro f' n' a c d e f4;refine⟨g.ops.length-(i+1),ψ,f',fr,i+1,n',o.union,rfl,rfl,c,?_,?_,.inr ⟨i,o,rfl,hi,rfl⟩,d,e,f4,m1⟩<;>split at a<;>omega
  simp only[PO.cells]at hg;simp only[QE aa,Qs,QoF,Qg,hg,PO.cells,h1,h3,h4,m1,eE,seval];by_cases a1:o.union=n
  ·have b1:(o.union==n)=true:=Ő
   rw[Qnj a1,<-a1]at hj;simp only[b1,h3,h4,en,e1,Qa,seval];exact fin _ (n+1) (by rw[Qnj a1]) (by rw[hj,a1]) ϕ ω ω
  have b1:(o.union==n)=false:=Ő
  rw[Qni a1]at hj;by_cases a2:o.union = -1
  ·have b2:(o.union != -1)=false:=by simp[a2]
   rw[Qnj (.inl a2)]at hj;simp only[b1,b2,h4,e1,Qa,seval];exact π
  have b2:(o.union != -1)=true:=by simp[a2]
  rcases hb with⟨rfl,rfl⟩|⟨j,p,rfl,yF,rfl⟩
  ·have b3:(((0:Nat):Int)==0)=true:=rfl;rw[Qni ψ]at hj;have dB:KV g=false:=by unfold KV;rw[hj]
   simp only[b1,b2,h4,dB,Qa,seval]
  ·have b3:(((j+1:Nat):Int)==0)=false:=ç
   have g8:(g.ops.map λo=>AV.agg o.cells)[j]? = some (.agg p.cells):=by simp[yF]
   have e2:=DE j _ aa ώ;simp only[PO.cells]at g8;by_cases a4:o.union=p.union
   ·have b4:(p.union != o.union)=false:=by simp[a4]
    rw[Qnj (.inr a4)]at hj;simp only[b1,b2,b3,b4,e2,Qs,QoF,Qg,g8,PO.cells,h1,h4,m1,e1,eE,seval];exact π
   ·have b4:(p.union != o.union)=true:=by simp;exactλh=>a4 h.symm
    rw[Qni ψ]at hj;have dB:KV g=false:=by unfold KV;rw[hj]
    simp only[b1,b2,b3,b4,e2,Qs,QoF,Qg,g8,PO.cells,h1,h4,m1,dB,eE,seval]
 ·rw[QnO ψ]at hj;have dB:KV g=(g.unions==n):=by unfold KV;rw[hj];rfl
  simp only[QM aa,h1,h3,m1,dB,eE,seval]
def z38 {M:Nat}(hM:M<=140737488351232)(P:PL)(hP:P.ok M)(hl:∀g∈P.progs,g.ops.length<=64):Qi prog 38 [P.av] (.bool (args P)):=by
 have e:args P=(P.enums.all Yn&&P.progs.all (Ym P)):=Bool.and_comm _ _;have z0:(0<=(0:Int))=True:=ό
 have z1:Int.toNat 0=0:=rfl;obtain⟨T,hT⟩:∃T,T=true:=⟨_,rfl⟩;refine wF func38 ?_;simp only[eK,f38,seval];simp only[DK,eE,seval];refine XD P.enums.length 0 (Xr P.enums Yn) T 4 [(1,.ptr 0 1 0)] [(1,.cells (Pc P))] [] ϯ ?_ (by rw[hT];rfl);rintro k f fr hk;simp only[Pc,Qn6,XW,Qod,eE,seval];rcases X8 P.enums k with⟨x,hx,aa⟩|aa
 ·have hg:=Xp QH hx;have e1:=Qv k _ aa hP.len2;have kr:=hP.enums x (Qnp hx);have pM:((x.notes.length:Int)==0)=x.notes.isEmpty:=by
   cases x.notes with
   |nil=>rfl
   |cons a l=>simp;omega
  rw[DB]at hg;cases hb:T&&Qu (Xr P.enums Yn) k
  case' false=>simp only[QE aa,cond_true,cond_false,Qa,seval]
  case' true=>simp only[QE aa,Qs,QoF,Qg,hg,Qn6,pM,cond_true,cond_false,eE,seval]
  all_goals
   refine XD x.items.length 0 (Xr x.items Yx) ((T&&Qu (Xr P.enums Yn) k)&&x.notes.isEmpty) 5 [(1,.ptr 0 1 0),(4,.int .i64 (k:Nat))] [(1,.cells (Pc P))] [] ϯ ?_ ò;rintro j f fr hj;simp only[Pc,Qs,QoF,Qg,hg,Qn6,XW,Qod,eE,seval];rcases X8 x.items j with⟨o,ho,a_⟩|a_
   ·have bG:=Xp XQ ho;have e2:=Qv j _ a_ kr.len1;have yp:=kr.items o (Qnp ho);rw[VC]at bG;simp only[QE a_,Qs,QoF,Qg,hg,bG,eE,seval];cases hc:((T&&Qu (Xr P.enums Yn) k)&&x.notes.isEmpty)&&Qu (Xr x.items Yx) j
    ·simp only[e2,cond_true,cond_false,Qa,seval];exact ge
    have fin:∀v,Yx o=v->((((T&&Qu (Xr P.enums Yn) k)&&x.notes.isEmpty)&&Qu (Xr x.items Yx) j)&&Xr x.items Yx j)=v:=λv h=>by rw[hc,X0 ho];exact h
    rcases hn:o.notes with _|⟨n,_|⟨n2,ns⟩⟩
    ·have c0:(((0:Nat):Int)==0)=true:=rfl;simp only[Qod,Qn7,e2,cond_true,cond_false,Qa,seval];exact Ac.go hj a_ rfl (fin _ (by unfold Yx;rw[hn]))
    ·obtain⟨kd,b',t,l,p,s,r,hv,mi,rI,vy,fV,h6'⟩:=Qb8 (yp.notes n (by rw[hn];simp)) hM;have c0:(((1:Nat):Int)==0)=false:=rfl;have c1:(((1:Nat):Int)==1)=true:=rfl;have e3:Yx o=(n.name==alias&&Ze 7 kd b' t l p s r):=by
      unfold Yx;rw[hn];show(n.name==alias&&nok n.val)=_;rw[hv];rfl
     have en:Zs n.cells=.agg [.str n.name,.int .i64 kd,.int .u64 ((b':Nat):Int),.str t,.list l,.list p,.list s,.list r]:=by
      rw[PN.cells,hv];rfl
     have aq:(n.name==[97,108,105,97,115])=(n.name==alias):=rfl;have rg:=z73 kd b' t l p s r ώ;simp only[nv]at rg;simp only[QnJ,Qod,en,Qnq,Qn7,QnA,Qg,z0,z1,Qoe,QX,aq,cond_true,cond_false,eE,seval];by_cases mq:n.name=alias
     ·have b0:(n.name==alias)=true:=by simp[mq]
      rw[<-mq]at rg;rw[b0,QoW]at e3;simp only[b0,cond_true,cond_false,Qa,seval];refine aC rg ?_;cases nP:Ze 7 kd b' t l p s r
      ·have d0:((12:Int)==0)=false:=rfl;simp only[Qnu,d0,e2,Qa,seval];exact Ac.go hj a_ rfl (fin _ (e3.trans nP))
      ·have d0:((0:Int)==0)=true:=rfl;simp only[d0,e2,Qa,seval];exact Ac.go hj a_ rfl (fin _ (e3.trans nP))
     ·have b0:(n.name==alias)=false:=by simp[mq]
      simp only[b0,e2,cond_true,cond_false,Qa,seval];exact Ac.go hj a_ rfl (fin _ (by rw[e3,b0];rfl))
    ·have c0:((((ns.length+1+1:Nat)):Int)==0)=false:=ç
     have c1:((((ns.length+1+1:Nat)):Int)==1)=false:=ç
     simp only[QnJ,Qnq,Qn6,c0,c1,e2,cond_true,cond_false,Qa,seval];exact Ac.go hj a_ rfl (fin _ (by unfold Yx;rw[hn]))
   exact zN
 simp only[QM aa,ZN hk aa,hT,QoW,Qa,seval];refine XD P.progs.length 0 (Xr P.progs (Ym P)) (P.enums.all Yn) 7 [(1,.ptr 0 1 0)] [(1,.cells (Pc P))] [] ϯ ?_;rintro k f fr hk;simp only[Pc,Qn6,XW,Qod,eE,seval];rcases X8 P.progs k with⟨x,hx,aa⟩|aa
 ·have hg:=Xp Qm hx;have e1:=Qv k _ aa hP.len1;have kr:=hP.progs x (Qnp hx);have ur:=z74 x (Qm9 (hl x (Qnp hx)) ϊ);rw[DC]at hg ur;cases hb:P.enums.all Yn&&Qu (Xr P.progs (Ym P)) k
  case' false=>simp only[QE aa,cond_true,cond_false,Qa,seval]
  case' true=>
   simp only[QE aa,Qs,QoF,Qg,hg,cond_true,cond_false,eE,seval];refine aC ur ?_;simp only[cond_true,cond_false,Qa,seval]
  all_goals
   refine XD x.ops.length 0 (Xr x.ops λo=>Wx P o&&Ku o) ((P.enums.all Yn&&Qu (Xr P.progs (Ym P)) k)&&KV x) 8 [(1,.ptr 0 1 0),(7,.int .i64 (k:Nat))] [(1,.cells (Pc P))] [] ϯ ?_ ò;rintro j f fr hj;simp only[Pc,Qs,QoF,Qg,hg,Qn6,XW,Qod,eE,seval];rcases X8 x.ops j with⟨o,ho,a_⟩|a_
   ·have bG:=Xp Qw ho;have e2:=Qv j _ a_ kr.len;have dC:=z75 P o (by have:=(kr.ops o (Qnp ho)).alias;simp only[maxLen];omega);rw[DD]at bG;rw[DK,DD]at dC;cases hc:((P.enums.all Yn&&Qu (Xr P.progs (Ym P)) k)&&KV x)&&Qu (Xr x.ops λo=>Wx P o&&Ku o) j
    ·exact zR
    ·simp only[QE a_,Qs,QoF,Qg,hg,bG,cond_true,cond_false,eE,seval];refine aC dC ?_;simp only[e2,cond_true,cond_false,Qa,seval];exact Ac.go hj a_ rfl (by rw[hc,X0 ho];rfl)
   exact zN
 simp only[QM aa,ZN hk aa,e,Qa,seval]
def NJ (x:PE)(i:Nat):Bool:=match x.items[i]? with
 |some o=>(i != 0||o.num==0)&&UL x o
 |none=>true
def QdZ (x:PE):Qu (NJ x) x.items.length=(Gz x&&x.items.all (UL x)):=by
 rw[Qn5,Qnz,Q7,Qno]
 constructor
 ·intro h;refine⟨?_,λo ho=>?_⟩
  ·unfold Gz;cases hi:x.items with
   |nil=>rfl
   |cons a l=>
    have:=h 0 (by rw[hi];simp);unfold NJ at this;rw[hi]at this;simp only[Qoe,Qnz]at this
    simpa using this.1
  ·obtain⟨i,hi⟩:=Qnn.1 ho;have:=h i (Qna.1 hi).1;unfold NJ at this;rw[hi]at this;simp only[Qnz]at this;exact this.2
 ·rintro⟨h1,h2⟩ i _;unfold NJ;cases hg:x.items[i]? with
  |none=>rfl
  |some o=>
   simp only[Qnz];refine⟨?_,h2 o (Qnp hg)⟩;cases i with
   |zero=>
    unfold Gz at h1;cases hx:x.items with
    |nil=>rw[hx]at hg;cases hg
    |cons a l=>
     rw[hx]at h1 hg;cases hg
     simpa using h1
   |succ k=>rfl
def z37 {M:Nat}(P:PL)(hP:P.ok M):Qi prog 37 [P.av] (.bool (NF P)):=by
 have hn:NF P=(P.progs.all (λg=>g.ops.all KU)&&P.enums.all UM):=rfl;obtain⟨T,hT⟩:∃T,T=true:=⟨_,rfl⟩;refine wF func37 ?_;simp only[eK,f37,seval];simp only[DK,eE,seval];refine XD P.progs.length 0 (Xr P.progs λg=>g.ops.all KU) T 4 [(1,.ptr 0 1 0)] [(1,.cells (Pc P)),(8,.none),(12,.none)] [] ϯ ?_ (by rw[hT];rfl);rintro k f fr hk;simp only[Pc,Qn6,XW,Qod,eE,seval];rcases X8 P.progs k with⟨x,hx,aa⟩|aa
 ·have hg:=Xp Qm hx;have e1:=Qv k _ aa hP.len1;have bH:=(hP.progs x (Qnp hx)).len;rw[DC]at hg;simp only[QE aa,Qa,seval];refine XD x.ops.length 0 (Xr x.ops KU) (T&&Qu (Xr P.progs λg=>g.ops.all KU) k) 5 [(1,.ptr 0 1 0),(4,.int .i64 (k:Nat))] [(1,.cells (Pc P)),(8,.none),(12,.none)] [] ϯ ?_;rintro j f fr hj;simp only[Pc,Qs,QoF,Qg,hg,Qn6,XW,Qod,eE,seval];rcases X8 x.ops j with⟨o,ho,a_⟩|a_
  ·have bG:=Xp Qw ho;have e2:=Qv j _ a_ bH;have hq:KU o=(decide (o.num>=1)&&decide (o.num<=65535)):=rfl;rw[DD]at bG;simp only[QE a_,Qs,QoF,Qg,hg,bG,eE,seval];cases hc:(T&&Qu (Xr P.progs λg=>g.ops.all KU) k)&&Qu (Xr x.ops KU) j
   ·simp only[e2,cond_true,cond_false,Qa,seval];exact ge
   cases a1:decide (o.num>=1) <;>
   ·rw[a1]at hq;simp only[a1,e2,cond_true,cond_false,Qa,seval];exact Ac.go (v:=(KU o)) hj a_ (by rw[hq];rfl) (by rw[hc,X0 ho];rfl)
  simp only[QM a_,ZN hj a_,e1,Qa,seval];exact Ac.go hk aa rfl (by rw[X0 hx])
 simp only[QM aa,ZN hk aa,hT,QoW,Qa,seval];refine XD P.enums.length 0 (Xr P.enums UM) (P.progs.all λg=>g.ops.all KU) 7 [(1,.ptr 0 1 0)] [(1,.cells (Pc P))] [12,8] ϯ ?_;rintro k f fr hk;simp only[Pc,Qn6,XW,QnJ,Qod,Qnx,Qny,eE,seval];rcases X8 P.enums k with⟨x,hx,aa⟩|aa
 ·have hg:=Xp QH hx;have e1:=Qv k _ aa hP.len2;have kr:=hP.enums x (Qnp hx);obtain⟨A,hA⟩:∃A,((P.progs.all λg=>g.ops.all KU)&&Qu (Xr P.enums UM) k)=A:=⟨_,rfl⟩;rw[DB]at hg;simp only[QE aa,hA,Qs,QoF,Qg,hg,eE,seval];refine XD x.items.length 0 (NJ x) A 9 [(1,.ptr 0 1 0),(7,.int .i64 (k:Nat)),(8,.ptr 0 8 0)] [(1,.cells (Pc P)),(8,.cells x.cells),(12,.none)] [] ϯ ?_;rintro j f fr hj;simp only[PE.cells,Qn6,XW,Qod,eE,seval];rcases X8 x.items j with⟨o,ho,a_⟩|a_
  ·have bG:(x.items.map λn=>AV.agg n.cells)[j]? = _:=Xp XQ ho;have e2:=Qv j _ a_ kr.len1;have hr:Qi prog 72 [.list (x.free.map λn=>AV.agg n.cells),.int .i64 o.num] (.bool (kept x.free o.num)):=z72 x.free kr.len2 o.num;have hq:NJ x j=((j != 0||o.num==0)&&(decide (o.num<=2147483647) && !kept x.free o.num)):=by unfold NJ;rw[ho];rfl
   rw[VC]at bG;simp only[QE a_,Qs,QoF,Qg,bG,eE,seval];cases hc:A&&Qu (NJ x) j
   ·simp only[e2,cond_true,cond_false,Qa,seval];exact ge
   cases a1:decide (o.num<=2147483647)
   ·simp only[a1,e2,cond_true,cond_false,Qa,seval];exact Ac.go hj a_ rfl (by rw[hc,hq,a1,QoJ,QoY];rfl)
   rcases (show(decide ((j:Int) > 0)=true/\(j != 0||o.num==0)=true)\/(decide ((j:Int) > 0)=false/\(j != 0||o.num==0)=(o.num==0))by
    cases j with
    |zero=>exact .inr ⟨rfl,rfl⟩
    |succ k=>exact .inl ⟨Qpe ψ,rfl⟩)with⟨g1,g2⟩|⟨g1,g2⟩
   case' inr=>cases a2:(o.num==0)
   case' inr.false=>
    simp only[a1,a2,g1,e2,cond_true,cond_false,Qa,seval];exact Ac.go hj a_ rfl (by rw[hc,hq,g2,a2];rfl)
   case' inl=>have a2:True:=trivial
   all_goals
    simp only[a1,a2,g1,cond_true,cond_false,eE,seval];refine aC hr ?_;simp only[e2,cond_true,cond_false,Qa,seval];exact Ac.go hj a_ rfl (by rw[hc,hq,a1,g2];simp[a2])
  have he:Qu (NJ x) j=(Gz x&&x.items.all (UL x)):=(Ki (λi hi=>absurd hi (Qpn i)) hj a_).trans (QdZ x);simp only[QM a_,he,Qa,seval];refine XD x.free.length 0 (Hk x.free) (A&&(Gz x&&x.items.all (UL x))) 11 [(1,.ptr 0 1 0),(7,.int .i64 (k:Nat)),(8,.ptr 0 8 0)] [(1,.cells (Pc P)),(8,.cells x.cells)] [12] ϯ ?_;rintro i f fr hi;simp only[PE.cells,Qn6,XW,QnJ,Qod,Qnx,Qny,eE,seval];rcases X8 x.free i with⟨y,hy,aP⟩|aP
  ·have gS:(x.free.map λn=>AV.agg n.cells)[i]? = some (.agg [.int .i64 y.lo,.int .i64 y.hi]):=Xp J3 hy;have e2:=Qv i _ aP kr.len2;have hq:Hk x.free i=(((decide (y.lo>=0)&&decide (y.hi<=2147483647))&&decide (y.lo<=y.hi))&&ZE x.free NE i):=by unfold Hk;rw[X0 hy];rfl
   simp only[QE aP,Qs,QoF,Qg,gS,eE,seval];cases hc:(A&&(Gz x&&x.items.all (UL x)))&&Qu (Hk x.free) i
   ·simp only[e2,cond_true,cond_false,Qa,seval];exact Ac.go hi aP rfl ń
   cases a1:decide (y.lo>=0)
   ·simp only[a1,e2,cond_true,cond_false,eE,seval];exact Ac.go hi aP rfl (by rw[hc,hq,a1];rfl)
   cases a2:decide (y.hi<=2147483647)
   ·simp only[a1,a2,e2,cond_true,cond_false,eE,seval];exact Ac.go hi aP rfl (by rw[hc,hq,a1,a2];rfl)
   cases a3:decide (y.lo<=y.hi)
   ·simp only[a1,a2,a3,e2,cond_true,cond_false,eE,seval];exact Ac.go hi aP rfl (by rw[hc,hq,a1,a2,a3];rfl)
   cases i with
   |zero=>
    have d0:(((0:Nat):Int)==0)=true:=rfl;simp only[a1,a2,a3,d0,e2,cond_true,cond_false,eE,Nat.reduceBEq,↓reduceIte,Nat.reduceAdd];exact Ac.go hi aP rfl (by rw[hc,hq,a1,a2,a3];rfl)
   |succ n=>
    obtain⟨z,hz⟩:∃z,x.free[n]? = some z:=⟨x.free[n]' ψ,Qnb ψ⟩;have i7:(x.free.map λn=>AV.agg n.cells)[n]? = some (.agg [.int .i64 z.lo,.int .i64 z.hi]):=Xp J3 hz;have d0:(((n+1:Nat):Int)==0)=false:=ç
    have wn:=DE n _ aP kr.len2;simp only[a1,a2,a3,d0,wn,Qs,QoF,Qg,i7,e2,cond_true,cond_false,eE,seval];exact Ac.go hi aP rfl (by rw[hc,hq,a1,a2,a3,Yh hz hy];rfl)
  have gF:Qu (Hk x.free) i=(x.free.all Ck&&JM x.free NE):=(Ki (λi hi=>absurd hi (Qpn i)) hi aP).trans (SH _);simp only[QM aP,gF,e1,Qa,seval];exact Ac.go hk aa rfl (by
   rw[hA,X0 hx];unfold UM;cases A<;>cases x.free.all Ck<;>cases JM x.free NE<;>cases Gz x<;>cases x.items.all (UL x)<;>rfl)
 exact τ
section
variable (k kd:Int)(b:Nat)(t:List UInt8)(l p s r:List AV)(ht:t.length+8<=maxLen)
end
section
variable {M:Nat}(P:PL)(hP:P.ok M)(k tg kd:Int)(b:Nat)(t:List UInt8)(l p s r:List AV)(ht:t.length+8<=maxLen)(hs:s.length<=140737488351232)(hr:r.length<=140737488351232)
end
def kv (k:Int)(b:Nat)(t:List UInt8):AV:=.agg [.int .i64 k,.int .u64 (b:Nat),.str t,.list [],.list [],.list [],.list []]
def XS (k:Int):Prop:=(1<=k/\k<=5)\/k=7
def XS.isk {k:Int}(h:XS k):isk k=true:=by
 rcases h with h|rfl
 ·simp[Va.isk];omega
 ·rfl
def NK:∀s:List UInt8,Op.bytesLess s s=false
 | []=>rfl
 |a :: l=>by simp[Op.bytesLess,NK l]
def QfS (a:Int):Qi prog 105 [.int .i64 a] (.bool false):=by
 refine wF func105 ?_;simp only[eK,f105,seval];simp only[bne_self_eq_false,Qa,seval]
def QfT (a:Int):Qi prog 353 [.int .u64 a] (.bool false):=by
 refine wF func353 ?_;simp only[eK,f353,seval];simp only[bne_self_eq_false,Qa,seval]
def QfU (a:List UInt8):Qi prog 352 [.str a] (.bool false):=by
 have e:QX .neq a a=some (.bool false):=by simp[QX]
 refine wF func352 ?_;simp only[eK,f352,seval];simp only[e,Qa,seval]
def cN (a b:Int):Int:=if a<b then -1 else if b<a then 1 else 0
def FC {a b:Int}:cN a b=0↔a=b:=by
 unfold cN;split
 ·omega
 ·split<;>omega
def v58 (a b:Int):Qi prog 58 [.int .i64 a,.int .i64 b] (.int .i64 (cN a b)):=by
 refine wF func58 ?_;simp only[eK,f58,seval];simp only[Qa,seval];refine aC (QfS a) ?_;simp only[Qa,seval];refine aC (QfS b) ?_;exact zz
def Qkd (a b:Int):Qi prog 309 [.int .u64 a,.int .u64 b] (.int .i64 (cN a b)):=by
 refine wF func309 ?_;simp only[eK,f309,seval];simp only[Qa,seval];refine aC (QfT a) ?_;simp only[Qa,seval];refine aC (QfT b) ?_;exact zz
def cS (a b:List UInt8):Int:=if Op.bytesLess a b=true then -1 else if a==b then 0 else 1
def SR {a b:List UInt8}:cS a b=0↔a=b:=by
 unfold cS
 constructor
 ·intro h;split at h
  ·omega
  ·split at h
   ·rename_i h2;simpa using h2
   ·omega
 ·rintro rfl;simp[NK]
def Qke (a b:List UInt8):Qi prog 308 [.str a,.str b] (.int .i64 (cS a b)):=by
 refine wF func308 ?_;simp only[eK,f308,seval];simp only[Qa,seval];refine aC (QfU a) ?_;simp only[Qa,seval];refine aC (QfU b) ?_;simp only[QX,cS,Qa,seval];cases h1:Op.bytesLess a b
 ·cases h2:(a==b)<;>simp only[QX,h1,h2,Qo1,QoX,Qok,Qnu,Qa,seval]
 ·simp only[Qa,seval]
def F4 (k:Int)(a:Nat)(s:List UInt8)(b:Nat)(t:List UInt8):Int :=
 if Zz k=true then cS s t else if (k==2||k==3)=true then cN (IntKind.i64.wrap (a:Int)) (IntKind.i64.wrap (b:Int))else cN (a:Int) (b:Int)
def Qkf (k:Int)(hk:XS k)(a b:Nat)(s t:List UInt8):Qi prog 248 [kv k a s,kv k b t] (.int .i64 (F4 k a s b t)):=by
 have hi:=hk.isk;have k6:(k==6)=false:=by
  rcases hk with h|rfl
  ·simp;omega
  ·rfl
 refine wF func248 ?_;simp only[eK,f248,seval];simp only[kv,F4,bne_self_eq_false,eE,seval];refine aC (Vy k) ?_;simp only[hi,eE,seval];refine aC (Qfr k) ?_;cases h1:Zz k
 ·simp only[Qnu,eE,seval];cases h2:(k==2)
  ·cases h3:(k==3)
   ·simp only[h3,k6,Qpg,Qnu,eE,seval];refine aC (Qkd _ _) ?_;simp only[Qa,seval]
   ·simp only[h3,Qo1,eE,seval];refine aC (v58 _ _) ?_;simp only[Qa,seval]
  ·simp only[Qo0,eE,seval];refine aC (v58 _ _) ?_;simp only[Qa,seval]
 ·simp only[eE,seval];refine aC (Qke s t) ?_;simp only[Qa,seval]
def QfV (k:Int)(hk:XS k)(b:Nat)(t:List UInt8):Qi prog 247 [kv k b t] (.iface 235 (kv k b t)):=by
 have hi:=hk.isk;refine wF func247 ?_;simp only[eK,f247,seval];simp only[kv,eE,seval];refine aC (Vy k) ?_;simp only[hi,eE,seval]
def QfW (k:Int)(hk:XS k)(a b:Nat)(s t:List UInt8):Qi prog 155 [kv k a s,kv k b t] (.int .i64 (F4 k a s b t)):=by
 have h1:=QfV k hk a s;have h2:=QfV k hk b t;have h3:=Qkf k hk a b s t;simp only[kv]at h1 h2 h3;refine wF func155 ?_;simp only[eK,f155,seval];simp only[kv,bne_self_eq_false,eE,seval];refine aC h2 ?_;simp only[eE,seval];refine aC h1 ?_;simp only[eE,seval];refine aC h3 ?_;simp only[Qa,seval]
def QaU (k:Int)(hk:XS k)(a b:Nat)(s t:List UInt8):Qi prog 156 [kv k a s,kv k b t] (.bool (F4 k a s b t==0)):=by
 have h1:=QfW k hk a b s t;simp only[kv]at h1;refine wF func156 ?_;simp only[eK,f156,seval];simp only[kv,eE,seval];refine aC h1 ?_;simp only[Qa,seval]
def Yy (k:Int)(b:Nat):Int:=if (k==2||k==3)=true then IntKind.u64.wrap ((b:Int)+9223372036854775808)else(b:Int)
def Qkg (k:Int):Qi prog 312 [.int .i64 k] (.bool (k==2||k==3)):=by
 refine wF func312 ?_;simp only[eK,f312,seval];simp only[Qa,seval];cases h:(k==2)<;>simp only[Qo0,Qo1,Qa,seval]
def QfX (k:Int)(k6:(k != 6)=true)(b:Nat)(t:List UInt8):Qi prog 261 [kv k b t] (.int .u64 (Yy k b)):=by
 refine wF func261 ?_;simp only[eK,f261,seval];simp only[kv,eE,seval];refine aC (Qkg k) ?_;unfold Yy;cases h1:(k==2||k==3)
 ·simp only[k6,Qnu,eE,seval]
 ·simp only[eE,seval]
def F5 (k:Int)(a:Nat)(s:List UInt8)(b:Nat)(t:List UInt8):Int:=if Zz k=true then cS s t else cN (Yy k a) (Yy k b)
def Qkh (k:Int)(hk:XS k)(a b:Nat)(s t:List UInt8):Qi prog 167 [kv k a s,kv k b t] (.int .i64 (F5 k a s b t)):=by
 have hi:=hk.isk;have k6:(k != 6)=true:=by
  rcases hk with h|rfl
  ·simp;omega
  ·rfl
 have d1:decide (k<k)=false:=ό
 have d2:decide (k > k)=false:=ό
 have hr:=QfX k k6 a s;have hq:=QfX k k6 b t;simp only[kv]at hr hq;refine wF func167 ?_;simp only[eK,f167,seval];simp only[kv,F5,d1,eE,seval];refine aC (Qaw k) ?_;simp only[hi,eE,seval];refine aC (Vz k) ?_;cases h2:Zz k
 ·simp only[Qnu,eE,seval];refine aC (Vz k) ?_;simp only[h2,eE,seval];refine aC (Vz k) ?_;simp only[h2,eE,seval];refine aC hr ?_;simp only[eE,seval];refine aC hq ?_;simp only[Qa,seval];by_cases c1:Yy k a<Yy k b
  ·have e1:decide (Yy k a<Yy k b)=true:=Qpe c1;simp only[e1,cN,Qnj c1,Qa,seval]
  ·have e1:decide (Yy k a<Yy k b)=false:=Qo8 c1;simp only[e1,cN,Qni c1,eE,seval];refine aC hr ?_;simp only[eE,seval];refine aC hq ?_;by_cases c2:Yy k b<Yy k a
   ·have e2:decide (Yy k a > Yy k b)=true:=Qpe c2;simp only[e2,Qnj c2,Qa,seval]
   ·have e2:decide (Yy k a > Yy k b)=false:=Qo8 c2;simp only[e2,Qni c2,Qa,seval]
 ·simp only[QX,cS,eE,seval];cases h1:Op.bytesLess s t
  ·simp only[Qnu,eE,seval];refine aC (Vz k) ?_;cases h3:(s==t)
   ·simp only[h1,h2,h3,QX,Qo1,Qok,Qnu,eE,seval]
   ·simp only[h1,h2,h3,QX,Qo1,QoX,eE,seval];refine aC (Vz k) ?_;simp only[h2,Qa,seval]
  ·simp only[Qa,seval]
def Qki (k:Int)(hk:XS k)(a b:Nat)(s t:List UInt8):Qi prog 106 [kv k a s,kv k b t] (.int .i64 (F5 k a s b t)):=by
 have b1:(k==11)=false:=by rcases hk with h|rfl<;>simp<;>omega
 have b2:(k==12)=false:=by rcases hk with h|rfl<;>simp<;>omega
 have b3:(k==10)=false:=by rcases hk with h|rfl<;>simp<;>omega
 have hr:=Qkh k hk a b s t;simp only[kv]at hr;refine wF func106 ?_;simp only[eK,f106,seval];simp only[kv,bne_self_eq_false,b1,b2,b3,eE,seval];refine aC hr ?_;simp only[Qa,seval]
def AJ {v:V}{P:PL}{k tg:Int}(h:v.one P k tg=0):v.av=kv k v.bits v.text/\(Zz k=true->(v.bits:Int)=0)/\(Zz k=false->v.text=[]):=by
 obtain⟨h1,_,h3⟩:=HU h;rw[Fw,h1];rw[h1]at h3;unfold Ze Hn at h3;simp only[Qnz,Qng]at h3;obtain⟨⟨⟨⟨⟨_,⟨⟨⟨e1,e2⟩,e3⟩,e4⟩⟩,h4⟩,_⟩,_⟩,_⟩:=h3;have f1:=Qpo.1 (Int.ofNat_eq_zero.1 e1);have f2:=Qpo.1 (Int.ofNat_eq_zero.1 e2);have f3:=Qpo.1 (Int.ofNat_eq_zero.1 e3);have f4:=Qpo.1 (Int.ofNat_eq_zero.1 e4);rw[f1,f2,f3,f4];refine⟨rfl,λht=>?_,λht=>?_⟩
 ·rw[Qnj ht]at h4;simpa using h4
 ·rw[Qni (by simp[ht])]at h4;simpa using h4
def _root_.Go.Proofs.YtmlohboeoeoamaaGreatDoor.Br.V.kx (_P:PL)(k:Int)(v:V):Prop:=v.kd=k/\v.av=kv k v.bits v.text/\(Zz k=true->(v.bits:Int)=0)/\(Zz k=false->v.text=[])
def AK {v:V}{P:PL}{k tg:Int}(h:v.one P k tg=0):v.kx P k:=⟨(HU h).1,AJ h⟩
def K0 {v:V}{P:PL}{k:Int}(h:v.kx P k):v.av=kv k v.bits v.text/\(Zz k=true->(v.bits:Int)=0)/\(Zz k=false->v.text=[]):=h.2
def VM {x y:V}{P:PL}{k:Int}(_hk:XS k)(hx:x.kx P k)(hy:y.kx P k)(bx:x.bits<18446744073709551616)(bY:y.bits<18446744073709551616):(F4 k x.bits x.text y.bits y.text==0)=XJ x y:=by
 obtain⟨_,x1,x2⟩:=K0 hx;obtain⟨_,y1,y2⟩:=K0 hy;rw[Qn5,Qng];unfold XJ F4;simp only[Qnz,Qng];split
 ·exact L_
 ·rename_i ht;have ht:Zz k=false:=ā
  rw[x2 ht,y2 ht];split
  ·rw[FC,QD,QD];exact Oe
  ·rw[FC];exact Oe
def Qd0 {x y:V}{P:PL}{k:Int}(_hk:XS k)(hx:x.kx P k)(hy:y.kx P k)(bx:x.bits<18446744073709551616)(bY:y.bits<18446744073709551616):(F5 k x.bits x.text y.bits y.text==0)=XJ x y:=by
 obtain⟨_,x1,x2⟩:=K0 hx;obtain⟨_,y1,y2⟩:=K0 hy;rw[Qn5,Qng];unfold XJ F5;simp only[Qnz,Qng];split
 ·exact L_
 ·rename_i ht;have ht:Zz k=false:=ā
  rw[x2 ht,y2 ht];unfold Yy;split
  ·rw[FC,Jl,Jl];exact Oe
  ·rw[FC];exact Oe
open Up
def vc (x:V):List AV:=[.int .i64 x.kd,.int .u64 (x.bits:Nat),.str x.text,.list (x.list.map V.av),.list (x.pairs.map V.pav),.list (x.slots.map V.sav),.list (x.raws.map R.av)]
def Qd (x:V):x.av=.agg [.int .i64 x.kd,.int .u64 (x.bits:Nat),.str x.text,.list (x.list.map V.av),.list (x.pairs.map V.pav),.list (x.slots.map V.sav),.list (x.raws.map R.av)]:=by
 rw[V.av,V.eta]
def Jn (p:V×V):V.pav p=.agg [.int .i64 p.1.kd,.int .u64 (p.1.bits:Nat),.str p.1.text,.list (p.1.list.map V.av),.list (p.1.pairs.map V.pav),.list (p.1.slots.map V.sav),.list (p.1.raws.map R.av),.int .i64 p.2.kd,.int .u64 (p.2.bits:Nat),.str p.2.text,.list (p.2.list.map V.av),.list (p.2.pairs.map V.pav),.list (p.2.slots.map V.sav),.list (p.2.raws.map R.av)]:=by
 rw[V.pav,V.eta,V.eta];rfl
def Jo (s:Int×V):V.sav s=.agg [.int .i64 s.1,.int .i64 s.2.kd,.int .u64 (s.2.bits:Nat),.str s.2.text,.list (s.2.list.map V.av),.list (s.2.pairs.map V.pav),.list (s.2.slots.map V.sav),.list (s.2.raws.map R.av)]:=by
 rw[V.sav,V.eta]
def HH {l:List V}{i:Nat}{x:V}(h:l[i]? = some x):(l.map V.av)[i]? = some (.agg [.int .i64 x.kd,.int .u64 (x.bits:Nat),.str x.text,.list (x.list.map V.av),.list (x.pairs.map V.pav),.list (x.slots.map V.sav),.list (x.raws.map R.av)]):=by
 rw[QoA,h,QnB,Qd]
def KG {l:List (V×V)}{i:Nat}{p:V×V}(h:l[i]? = some p):(l.map V.pav)[i]? = some (.agg [.int .i64 p.1.kd,.int .u64 (p.1.bits:Nat),.str p.1.text,.list (p.1.list.map V.av),.list (p.1.pairs.map V.pav),.list (p.1.slots.map V.sav),.list (p.1.raws.map R.av),.int .i64 p.2.kd,.int .u64 (p.2.bits:Nat),.str p.2.text,.list (p.2.list.map V.av),.list (p.2.pairs.map V.pav),.list (p.2.slots.map V.sav),.list (p.2.raws.map R.av)]):=by
 rw[QoA,h,QnB,Jn]
def Wy {l:List (Int×V)}{i:Nat}{s:Int×V}(h:l[i]? = some s):(l.map V.sav)[i]? = some (.agg [.int .i64 s.1,.int .i64 s.2.kd,.int .u64 (s.2.bits:Nat),.str s.2.text,.list (s.2.list.map V.av),.list (s.2.pairs.map V.pav),.list (s.2.slots.map V.sav),.list (s.2.raws.map R.av)]):=by
 rw[QoA,h,QnB,Jo]
structure UO (P:PL)(o:PO):Prop where
 tgt:o.kind=10->0<=o.target/\o.target<(P.progs.length:Int)
 enm:o.kind=9->0<=o.target/\o.target<(P.enums.length:Int)
 key:o.card=5->XS o.key
def JD (P:PL):Prop:=∀g∈P.progs,∀o∈g.ops,UO P o
def ZF {P:PL}(h:ck P=0):JD P:=by
 unfold ck at h;split at h
 ·omega
 split at h
 ·omega
 split at h
 ·omega
 split at h
 ·omega
 split at h
 ·omega
 split at h
 ·omega
 rename_i ha;have ha:args P=true:=by simpa using ha
 intro g hg o ho;unfold args at ha;simp only[Qnz,Qno]at ha;have h1:=ha.1 g hg;unfold Ym at h1;simp only[Qnz,Qno]at h1;have h2:=(h1.2 o ho).1;unfold Wx at h2;simp only[Qnz,Qnf]at h2;obtain⟨⟨_,hk⟩,hm⟩:=h2;refine⟨λh=>?_,λh=>?_,λh=>?_⟩
 ·unfold NG at hm;rw[Qnj h]at hm;simp only[Qnz,Qnf]at hm;exact hm.1
 ·unfold NG at hm;rw[Qni ψ,Qnj h]at hm;simp only[Qnz,Qnf]at hm;exact hm
 ·unfold Va.key at hk;rw[Qnj h]at hk;simp only[Qnz,Qnf,QnE]at hk;unfold XS;omega
section
variable {M:Nat}{P:PL}(hP:P.ok M)(hM:M<=140737488351232){m:PG->V->Int}{lv uG:Int}(hw:IntKind.i64.wrap (lv+1)=uG)
include hP in
theorem Qca (k tg:Int){v:V}(hv:v.ok M):Qi prog 302 [P.av,.int .i64 k,.int .i64 tg,v.av] (.int .i64 (v.one P k tg)):=by
 rw[Fw];exact Qkb P hP k tg _ _ _ _ _ _ _ (by have:=hv.nl;simp;omega) (by have:=hv.np;simp;omega) (by have:=hv.ns;simp;omega) (by have:=hv.nr;simp;omega)
include hP hw in
theorem Qkj (hm:∀g∈P.progs,∀v:V,v.ok M->Qi prog 49 [P.av,Qm g,v.av,.int .i64 uG] (.int .i64 (m g v)))(o:PO)(ho:UO P o)(v:V)(hv:v.ok M) :
  Qi prog 240 [P.av,Qw o,v.av,.int .i64 lv] (.int .i64 (QS m P o v)):=by
 have e0:P.av=.agg [.list (P.progs.map Qm),.list (P.enums.map QH)]:=rfl;have h1:=Qca hP o.kind o.target hv;rw[e0,Qd]at h1;rw[Qd];refine wF func240 ?_;simp only[eK,f240,seval];simp only[e0,Qw,PO.cells,QS,eE,seval];by_cases hk:o.kind=10
 ·have b:(o.kind==10)=true:=Α
  obtain⟨t0,t1⟩:=ho.tgt hk;obtain⟨i,hi⟩:=QoZ t0;have aa:i<P.progs.length:=ψ
  obtain⟨g,hg⟩:∃g,P.progs[i]? = some g:=⟨P.progs[i],Qnb aa⟩;have gV:(P.progs.map Qm)[i]? = some (.agg g.cells):=by simp[hg,Qm]
  have hq:Qe P o.target=g:=by unfold Qe;rw[hi,QoF,hg];rfl
  have h2:=hm g (Qnp hg) v hv;rw[e0,Qd]at h2;simp only[Qm,PG.cells]at h2;simp only[PG.cells]at gV;rw[Qnj hk,hq];simp only[b,hi,Qs,QoF,Qg,gV,hw,eE,seval];refine aC h2 ?_;simp only[Qa,seval]
 ·have b:(o.kind==10)=false:=Α
  rw[Qni hk];simp only[b,eE,seval];refine aC h1 ?_;simp only[Qa,seval]
end
section pairs
variable (L:List (V×V))(hl:L.length<=maxLen)(p:V×V->Bool)(c:Nat)(cap:AV)(m:Qk)
include hl in
theorem Qkk (hc:∀o∈L,Qf prog c [V.pav o,cap.sh] (Qb :: m) λy m1=>y=.bool (p o)/\m1=Qb :: m) :
  Qf prog 234 [.list (L.map V.pav),.fn (.func c) [] [cap]] m λy m1=>y=.int .i64 (Zn p L 0)/\m1=m:=by
 refine wG func234 ?_;simp only[eK,f234,seval];exact Dy hl (av:=V.pav) (n:=14) (s:=some 14) (cs:=[cap]) (λx=>by rw[Jn];exact⟨rfl,rfl⟩) hc
include hl in
theorem Qkl (hc:∀o∈L,Qf prog c [V.pav o,cap.sh.sh] (Qb :: Qb :: m) λy m1=>y=.bool (p o)/\m1=Qb :: Qb :: m) :
  Qf prog 140 [.list (L.map V.pav),.fn (.func c) [] [cap]] m λy m1=>y=.bool (L.any p)/\m1=m:=by
 refine wG func140 ?_;simp only[eK,f140,seval];simp only[Qa,seval];refine Qh (Qkk L hl p c cap.sh _ hc) ϑ ?_;simp only[VI,Qa,seval]
end pairs
section slots
variable (L:List (Int×V))(hl:L.length<=maxLen)(p:Int×V->Bool)(c:Nat)(cap:AV)(m:Qk)
include hl in
theorem Qkm (hc:∀o∈L,Qf prog c [V.sav o,cap.sh] (Qb :: m) λy m1=>y=.bool (p o)/\m1=Qb :: m) :
  Qf prog 147 [.list (L.map V.sav),.fn (.func c) [] [cap]] m λy m1=>y=.int .i64 (Zn p L 0)/\m1=m:=by
 refine wG func147 ?_;simp only[eK,f147,seval];exact Dy hl (av:=V.sav) (n:=8) (s:=some 8) (cs:=[cap]) (λx=>by rw[Jo];exact⟨rfl,rfl⟩) hc
include hl in
theorem v91 (hc:∀o∈L,Qf prog c [V.sav o,cap.sh.sh] (Qb :: Qb :: m) λy m1=>y=.bool (p o)/\m1=Qb :: Qb :: m) :
  Qf prog 91 [.list (L.map V.sav),.fn (.func c) [] [cap]] m λy m1=>y=.bool (L.any p)/\m1=m:=by
 refine wG func91 ?_;simp only[eK,f91,seval];simp only[Qa,seval];refine Qh (Qkm L hl p c cap.sh _ hc) ϑ ?_;simp only[VI,Qa,seval]
end slots
def W4 {M:Nat}{v:V}(h:v.ok M):v.bits<18446744073709551616:=by
 have:=Nm h.bits;omega
section
variable {M:Nat}{P:PL}(hP:P.ok M)(hM:M<=140737488351232){m:PG->V->Int}{lv:Int}(o:PO)(ho:UO P o)(h5:o.card=5)(ps:List (V×V))(hn:ps.length<=maxLen)(hk:∀x∈ps,x.1.ok M)(hv:∀x∈ps,x.2.ok M)
theorem Qkn {k:Int}(kk:XS k)(q p:V×V)(hq:q.1.one P k (-1)=0)(hp:p.1.one P k (-1)=0)(bq:q.1.ok M)(bp:p.1.ok M)(eZ:Nat->Ob)(hf:∀c,V.pav p=.agg c->eZ 10=.cells c) :
  Qf prog 303 [V.pav q,.ptr 2 10 0] [Qb,Qb,eZ] λy m1=>y=.bool (XJ q.1 p.1)/\m1=[Qb,Qb,eZ]:=by
 have h:=QaU k kk q.1.bits p.1.bits q.1.text p.1.text;have hf:=hf _ (Jn p);rw[<-(AJ hq).1,<-(AJ hp).1,VM kk (AK hq) (AK hp) (W4 bq) (W4 bp),Qd,Qd]at h;rw[Jn];refine wG func303 ?_;simp only[eK,f303,seval];simp only[hf,eE,seval];refine aC h ?_;simp only[Qa,seval]
def EnI (m:PG->V->Int)(P:PL)(lv:Int)(o:PO)(ps:List (V×V))(k:Nat)(st:St):Prop :=
 ∃f fr i,st=⟨f,[fr],[]⟩/\k=ps.length-i/\Z2 (HF m P o ps) ps.length 0=Z2 (HF m P o ps) (ps.length-i) i/\(∀j y,j<i->ps[j]? = some y->y.1.one P o.key (-1)=0)/\f 2=.list (ps.map V.pav)/\f 3=.int .i64 lv/\f 4=.ptr 0 4 0/\f 5=.ptr 0 5 0/\f 13=.list (ps.map V.pav)/\f 14=.int .i64 (ps.length:Nat)/\f 15=.int .i64 (i:Nat)/\fr 4=.cells [.list (P.progs.map Qm),.list (P.enums.map QH)]/\fr 5=.cells o.cells/\∀s∈[10],(fr s).isRow=false
include hP ho h5 hn hk hv in
theorem Qko (aJ:∀v:V,v.ok M->Qi prog 240 [P.av,Qw o,v.av,.int .i64 lv] (.int .i64 (QS m P o v))) :
  Qi prog 241 [P.av,Qw o,.list (ps.map V.pav),.int .i64 lv] (.int .i64 (Z2 (HF m P o ps) ps.length 0)):=by
 have e0:P.av=.agg [.list (P.progs.map Qm),.list (P.enums.map QH)]:=rfl;have kk:=ho.key h5;refine wF func241 ?_;simp only[eK,f241,seval];simp only[e0,Qw,PO.cells,Qn6,eE,seval];refine Qj (EnI m P lv o ps) _ ⟨_,_,0,rfl,rfl,rfl,(by intro j y h;omega),ω,ω,ω,ω,ω,ω,ω,ω,ω,ϛ⟩ ?_;rintro _ st ⟨f0,bA,i,rfl,rfl,hx,iR,bI,ax,aS,bL,aT,dm,gz,b_,bK,qf⟩;refine QR (a:=_) [10] qf ?_;intro f fr hf hm j0;have h2:f 2=.list (ps.map V.pav):=by rw[hf,bI]<;>rfl
 have h3:f 3=.int .i64 lv:=Ϥ
 have h4:f 4=.ptr 0 4 0:=ϱ
 have fV:f 5=.ptr 0 5 0:=Θ
 have h13:f 13=.list (ps.map V.pav):=Û
 have eW:f 14=.int .i64 (ps.length:Nat):=Ň
 have gL:f 15=.int .i64 (i:Nat):=by rw[hf,gz]<;>rfl
 have m4:fr 4=.cells [.list (P.progs.map Qm),.list (P.enums.map QH)]:=ϝ
 have m5:fr 5=.cells o.cells:=Ϸ
 have pZ:=j0 10 ϊ;clear hf hm j0 bI ax aS bL aT dm gz b_ bK qf;have bh:=m5;simp only[PO.cells]at m5;simp only[eW,gL,Qa,seval];by_cases aa:i<ps.length
 ·obtain⟨x,hi⟩:∃x,ps[i]? = some x:=⟨ps[i],Qnb aa⟩;have ir:=Qnp hi;have hg:=KG hi;have e1:=Qv i _ aa hn;have hle:(i<=ps.length)=True:=eq_true ψ;have c1:=Qca hP o.key (-1) (hk x ir);have c2:=aJ x.2 (hv x ir);rw[e0,Qd]at c1 c2;simp only[Qw,PO.cells]at c2;simp only[QE aa,Qs,QoF,Qg,hg,pZ,h4,fV,h13,gL,m4,m5,eE,seval];refine aC c1 ?_;by_cases hz:x.1.one P o.key (-1)=0
  ·have d0:((0:Int) != 0)=false:=rfl;have aM:=λ(fr:Nat->Ob) (am:∀c,V.pav x=.agg c->fr 10=.cells c)=>Qkl (ps.take i) Õ (λq=>XJ q.1 x.1) 303 (.ptr 0 10 0) [fr] λq hq=>by
    obtain⟨j,hj⟩:=Qnn.1 hq;have a_:=(Qna.1 hj).1;rw[Qn8]at a_;rw[QnQ,Qnj ψ]at hj;exact Qkn kk q x (iR j q ψ hj) hz (hk q (Qnp hj)) (hk x ir) fr am
   simp only[hz,d0,h2,JR,Jz,Xz,QoS,Qn6,Qs,QoF,Qnk,Qm8,hle,true_or,Qoa,<-List.map_take,Qa,seval];refine Qh (aM _ (λc hc=>by rw[Jn]at hc;cases hc;exact ω)) ύ ?_;cases ha:(ps.take i).any (λq=>XJ q.1 x.1)
   ·have he:HF m P o ps i=QS m P o x.2:=by rw[Fy hi,Qnj hz,ha,Qni ό]
    simp only[h3,h4,fV,m4,m5,eE,seval];refine aC c2 ?_;by_cases hy:QS m P o x.2=0
    ·rw[NI aa (he.trans hy)]at hx;simp only[hy,d0,gL,e1,Qa,seval];refine⟨ps.length-(i+1),ψ,_,_,i+1,rfl,rfl,hx,?_,Υ,ϖ,Ϡ,ľ,Į,(by exact eW),ω,Φ,Ζ,ϛ⟩;intro j y hj tL;by_cases e:j=i
     ·subst e;rw[hi]at tL;cases tL;exact hz
     ·exact iR j y ψ tL
    ·rw[HT aa he hy]at hx;have d1:(QS m P o x.2 != 0)=true:=ϳ
     simp only[d1,hx,Qa,seval]
   ·rw[HT aa (v:=9) (by rw[Fy hi,Qnj hz,ha,Qnj rfl]) ϊ]at hx;simp only[hx,Qa,seval]
  ·rw[HT aa ((Fy hi).trans (Qni hz)) hz]at hx;have d1:(x.1.one P o.key (-1) != 0)=true:=ŋ
   simp only[d1,hx,Qa,seval]
 ·rw[Fv aa]at hx;simp only[QM aa,hx,Qa,seval]
end
section
variable {M:Nat}{P:PL}(hP:P.ok M)(hM:M<=140737488351232){m:PG->V->Int}{lv:Int}(o:PO)(ho:UO P o)(v:V)(hv:v.ok M)
include hv in
theorem AL:Qi prog 89 [v.av] (.bool v.oth):=by
 rw[Fw];exact z89 _ _ _ _ _ _ _ (by have:=hv.ns;simp;omega) (by have:=hv.nr;simp;omega)
def FiI (m:PG->V->Int)(P:PL)(lv:Int)(o:PO)(v:V)(k:Nat)(st:St):Prop :=
 ∃f fr i,st=⟨f,[fr],[]⟩/\k=v.list.length-i/\Z2 (Bs m P o v.list) v.list.length 0=Z2 (Bs m P o v.list) (v.list.length-i) i/\f 3=.int .i64 lv/\f 4=.ptr 0 4 0/\f 5=.ptr 0 5 0/\f 24=.list (v.list.map V.av)/\f 25=.int .i64 (v.list.length:Nat)/\f 26=.int .i64 (i:Nat)/\fr 4=.cells [.list (P.progs.map Qm),.list (P.enums.map QH)]/\fr 5=.cells o.cells/\∀s∈[10],(fr s).isRow=false
include hP ho hv in
theorem Qkp (aJ:∀v:V,v.ok M->Qi prog 240 [P.av,Qw o,v.av,.int .i64 lv] (.int .i64 (QS m P o v))) :
  Qi prog 146 [P.av,Qw o,v.av,.int .i64 lv] (.int .i64 (XC m P o v)):=by
 have e0:P.av=.agg [.list (P.progs.map Qm),.list (P.enums.map QH)]:=rfl;have co:=AL v hv;have ce:=λh5=>Qko hP o ho h5 v.pairs (by have:=hv.np;simp only[maxLen];omega) hv.keys hv.vals aJ
 have cv:=aJ v hv;rw[e0,Qd]at cv;rw[Qd]at co;simp only[e0,Qw,PO.cells]at ce cv;rw[Qd];refine wF func146 ?_;simp only[eK,f146,seval];simp only[e0,Qw,PO.cells,eE,seval];unfold XC;by_cases h4:o.card=4
 ·have b4:(o.card==4)=true:=ã
  have n5:¬o.card=5:=ψ
  rw[Qni n5,Qnj h4];simp only[b4,eE,seval];cases a1:(v.kd != 11)
  ·simp only[Qo1,eE,seval];refine aC co ?_;cases a2:v.oth
   ·simp only[Qnu,Qn6,eE,seval];refine Qj (FiI m P lv o v) _ ⟨_,_,0,rfl,rfl,rfl,ω,ω,ω,ω,ω,ω,ω,ω,ϛ⟩ ?_;rintro _ st ⟨f0,bA,i,rfl,rfl,hx,ax,aS,bL,mP,oU,qC,b_,bK,qf⟩;refine QR (a:=_) [10] qf ?_;intro f fr hf hm j0;have h3:f 3=.int .i64 lv:=Ϥ
    have h4:f 4=.ptr 0 4 0:=ϱ
    have h5:f 5=.ptr 0 5 0:=Θ
    have vi:f 24=.list (v.list.map V.av):=by rw[hf,mP]<;>rfl
    have vK:f 25=.int .i64 (v.list.length:Nat):=by rw[hf,oU]<;>rfl
    have rG:f 26=.int .i64 (i:Nat):=by rw[hf,qC]<;>rfl
    have m4:fr 4=.cells [.list (P.progs.map Qm),.list (P.enums.map QH)]:=ϝ
    have m5:fr 5=.cells o.cells:=Ϸ
    have pZ:=j0 10 ϊ;clear hf hm j0 ax aS bL mP oU qC b_ bK qf;have bh:=m5;simp only[PO.cells]at m5;simp only[vK,rG,Qa,seval];by_cases aa:i<v.list.length
    ·obtain⟨x,hi⟩:∃x,v.list[i]? = some x:=⟨v.list[i],Qnb aa⟩;have hg:=HH hi;have e1:=Qv i _ aa (by have:=hv.nl;simp only[maxLen];omega);have c2:=aJ x (hv.list x (Qnp hi));rw[e0,Qd]at c2;simp only[Qw,PO.cells]at c2;simp only[QE aa,Qs,QoF,Qg,hg,pZ,h3,h4,h5,vi,rG,m4,m5,eE,seval];refine aC c2 ?_;by_cases hy:QS m P o x=0
     ·rw[NI aa ((Fz hi).trans hy)]at hx;have d0:((0:Int) != 0)=false:=rfl;simp only[hy,d0,rG,e1,Qa,seval];exact⟨v.list.length-(i+1),ψ,_,_,i+1,rfl,rfl,hx,ϖ,Ϡ,Ϛ,(by exact vi),(by exact vK),ω,Φ,Ζ,ϛ⟩
     ·rw[HT aa (Fz hi) hy]at hx;have d1:(QS m P o x != 0)=true:=ϳ
      simp only[d1,hx,Qa,seval]
    ·rw[Fv aa]at hx;simp only[QM aa,hx,Qa,seval]
   ·simp only[Qa,seval]
  ·exact O_
 ·have b4:(o.card==4)=false:=ã
  by_cases h5:o.card=5
  ·have b5:(o.card==5)=true:=í
   rw[Qnj h5];simp only[b4,b5,eE,seval];cases a1:(v.kd != 12)
   ·simp only[Qo1,eE,seval];refine aC co ?_;cases a2:v.oth
    ·simp only[Qnu,eE,seval];refine aC (ce h5) ?_;simp only[Qa,seval]
    ·simp only[Qa,seval]
   ·exact O_
  ·have b5:(o.card==5)=false:=í
   rw[Qni h5,Qni h4];simp only[b4,b5,eE,seval];refine aC cv ?_;simp only[Qa,seval]
end
def GJ {fr:Nat->Ob}{a b:Nat}(h1:(fr a).isRow=false)(h2:(fr b).isRow=false):∀s∈[a,b],(fr s).isRow=false:=by
 exact T_
def ZX {g:PG}{n:Int}{o:PO}(h:Xd g n=some o):o∈g.ops/\o.num=n:=by
 unfold Xd at h;exact⟨Qpc h,by simpa using Qpd h⟩
def Uz (g:PG)(n:Int):NA (λo=>o.num==n) g.ops=.tup [Qw ((Xd g n).getD HR),.bool (Xd g n).isSome]:=rfl
section
variable {M:Nat}{P:PL}(hP:P.ok M)(hM:M<=140737488351232){m:PG->V->Int}{lv:Int}(g:PG)(hg:g.ok M)(hu:∀o∈g.ops,UO P o)(sl:List (Int×V))(hn:sl.length<=maxLen)(i:Nat)(hi:i<sl.length)(hv:∀x∈sl,x.2.ok M)
theorem Qkq (y:Int×V)(o:PO)(eZ:Nat->Ob)(hf:eZ 11=.cells o.cells) :
  Qf prog 145 [V.sav y,.ptr 2 11 0] [Qb,Qb,eZ] λv m1=>v=.bool (y.1==o.num)/\m1=[Qb,Qb,eZ]:=by
 simp only[PO.cells]at hf;rw[Jo];refine wG func145 ?_;simp only[eK,f145,seval];simp only[hf,eE,seval]
def SlI (P:PL)(lv:Int)(g:PG)(o:PO)(sl:List (Int×V))(i:Nat)(k:Nat)(st:St):Prop :=
 ∃f fr j,st=⟨f,[fr],[]⟩/\k=i-j/\j<=i/\(sl.take j).any (We g o)=false/\f 2=.list (sl.map V.sav)/\f 3=.int .i64 (i:Nat)/\f 4=.int .i64 lv/\f 5=.ptr 0 5 0/\f 6=.ptr 0 6 0/\f 11=.ptr 0 11 0/\f 36=.list ((sl.take i).map V.sav)/\f 37=.int .i64 (i:Nat)/\f 38=.int .i64 (j:Nat)/\fr 5=.cells [.list (P.progs.map Qm),.list (P.enums.map QH)]/\fr 6=.cells g.cells/\fr 11=.cells o.cells/\∀s∈[15,14],(fr s).isRow=false
include hg hn hi hv in
theorem v90 (fq:∀o∈g.ops,∀v:V,v.ok M->Qi prog 146 [P.av,Qw o,v.av,.int .i64 lv] (.int .i64 (XC m P o v))) :
  Qi prog 90 [P.av,Qm g,.list (sl.map V.sav),.int .i64 (i:Nat),.int .i64 lv] (.int .i64 (JU m P g sl i)):=by
 have e0:P.av=.agg [.list (P.progs.map Qm),.list (P.enums.map QH)]:=rfl;obtain⟨x,hx⟩:∃x,sl[i]? = some x:=⟨sl[i],Qnb hi⟩;have ir:=Qnp hx;have od:=Wy hx;have co:=λn=>ID g hg.len n
 simp only[Uz]at co;have vk:=co x.1;have hle:(i<=sl.length)=True:=eq_true ψ;have hlen:(sl.take i).length=i:=Õ
 unfold JU;rw[hx];dsimp only;simp only[Qm,PG.cells]at co vk;refine wF func90 ?_;simp only[eK,f90,seval];simp only[e0,Qm,PG.cells,Qs,QoF,Qg,od,QnK,QnT,eE,seval];refine aC vk ?_;cases ho:Xd g x.1 with
 |none=>
  simp only[QoS,Qn1,HR,Qw,PO.cells,splice,Qol,Qny,QnN,Qor,Qof,Qnq,Qn7,Qoo,Qop,AV.leaf,eE,seval]
 |some o=>
  obtain⟨cI,cH⟩:=ZX ho;have aM:=λ(fr:Nat->Ob) (aI:fr 11=.cells o.cells)=>v91 (sl.take i) ψ (λy=>y.1==o.num) 145 (.ptr 0 11 0) [fr] λy _=>Qkq y o fr aI
  rw[cH]at aM;simp only[PO.cells]at aM;simp only[Qon,Qo9,Qw,PO.cells,splice,Qol,Qny,QnN,QnT,Qor,Qof,Qnq,Qn7,Qoo,Qop,AV.leaf,JR,Jz,Xz,QoS,Qn6,Qs,QoF,Qnk,Qm8,hle,true_or,Qoa,<-List.map_take,eE,seval];refine Qh (aM _ ω) ύ ?_;cases ha:(sl.take i).any (λy=>y.1==x.1)
  ·simp only[Qnu,JR,Jz,Xz,QoS,Qn6,Qs,QoF,Qnk,Qm8,hle,true_or,Qoa,<-List.map_take,hlen,Qa,seval];refine Qj (SlI P lv g o sl i) _ ⟨_,_,0,rfl,rfl,Qnk _,ό,ω,ω,ω,ω,ω,ω,ω,ω,ω,ω,ω,ω,GJ rfl rfl⟩ ?_;rintro _ st ⟨f0,bA,j,rfl,rfl,qJ,hq,bI,ax,aS,bL,bX,aU,pB,pQ,pJ,bK,cV,qB,uC⟩;refine QR (a:=_) [15,14] uC ?_;intro f fr hf hm iy;have h2:f 2=.list (sl.map V.sav):=by rw[hf,bI]<;>rfl
   have h3:f 3=.int .i64 (i:Nat):=Ϥ
   have h4:f 4=.int .i64 lv:=ϱ
   have h5:f 5=.ptr 0 5 0:=Θ
   have h6:f 6=.ptr 0 6 0:=Κ
   have aI:f 11=.ptr 0 11 0:=Ë
   have uk:f 36=.list ((sl.take i).map V.sav):=by rw[hf,pB]<;>rfl
   have sE:f 37=.int .i64 (i:Nat):=by rw[hf,pQ]<;>rfl
   have rb:f 38=.int .i64 (j:Nat):=by rw[hf,pJ]<;>rfl
   have m5:fr 5=.cells [.list (P.progs.map Qm),.list (P.enums.map QH)]:=Ϸ
   have m6:fr 6=.cells g.cells:=ϸ
   have m11:fr 11=.cells o.cells:=by rw[hm 11 ϊ,qB]<;>rfl
   have lL:=iy 15 ϊ;have g9:=iy 14 ϊ;clear hf hm iy bI ax aS bL bX aU pB pQ pJ bK cV qB uC;have bT:=m6;have oY:=m11;simp only[PG.cells]at m6;simp only[PO.cells]at m11;simp only[sE,rb,Qa,seval];by_cases aa:j<i
   ·obtain⟨y,hj⟩:∃y,sl[j]? = some y:=⟨sl[j]' ψ,Qnb ψ⟩;have ql:(sl.take i)[j]? = some y:=by rw[QnQ,Qnj aa];exact hj
    have g8:=Wy ql;have e1:=Qv j i aa ψ;have yW:=co y.1;have ht:(sl.take (j+1)).any (We g o)=We g o y:=by
     rw[Qo4,hj,List.any_append,hq];simp
    have dB:We g o y=(o.union != -1&&(((Xd g y.1).getD HR).union==o.union)):=rfl;simp only[QE aa,Qs,QoF,Qg,g8,g9,h6,uk,rb,m6,eE,seval];refine aC yW ?_;generalize (Xd g y.1).getD HR=q at dB;generalize (Xd g y.1).isSome=qb;have fin:∀(f':Fr) (ag:Nat->Ob),We g o y=false->f' 2=.list (sl.map V.sav)->f' 3=.int .i64 (i:Nat)->f' 4=.int .i64 lv->f' 5=.ptr 0 5 0->f' 6=.ptr 0 6 0->f' 11=.ptr 0 11 0->f' 36=.list ((sl.take i).map V.sav)->f' 37=.int .i64 (i:Nat)->f' 38=.int .i64 ((j+1:Nat):Int)->ag 5=.cells [.list (P.progs.map Qm),.list (P.enums.map QH)]->ag 6=.cells g.cells->ag 11=.cells o.cells->(∀s∈[15,14],(ag s).isRow=false)->∃k,k<i-j/\SlI P lv g o sl i k ⟨f',[ag],[]⟩:=by
     intro f' ag hu b2 b3 b4 b5 b6 fZ yU yl ya c5 c6 fN xR;exact⟨i-(j+1),ψ,f',ag,j+1,rfl,rfl,ψ,by rw[ht,hu],b2,b3,b4,b5,b6,fZ,yU,yl,ya,c5,c6,fN,xR⟩
    cases a1:(o.union != -1)
    ·rw[a1,QoJ]at dB;simp only[Qw,PO.cells,a1,lL,aI,rb,m11,e1,eE,seval];exact yY
    ·cases a2:(q.union==o.union)
     ·rw[a1,a2,QoW]at dB;simp only[Qw,PO.cells,a1,a2,lL,aI,rb,m11,e1,eE,seval];exact yY
     ·rw[a1,a2,QoW]at dB;have aL:(sl.take i).any (We g o)=true:=QoU.2 ⟨y,Qnp ql,dB⟩;rw[aL];simp only[Qw,PO.cells,a1,a2,lL,aI,m11,eE,seval]
   ·have e:j=i:=ψ
    subst e;have cf:=fq o cI x.2 (hv x ir);rw[e0,Qd]at cf;simp only[Qw,PO.cells]at cf;rw[hq];simp only[QM aa,Qnu,Qs,QoF,Qg,od,QnK,QnN,QnT,h2,h3,h4,h5,aI,m5,m11,eE,seval];refine aC cf ?_;simp only[Qa,seval]
  ·simp only[Qa,seval]
end
def NM (P:PL)(o:PO)(f:R):Bool:=o.kind==9&&o.card != 5&&f.wire==0&&decide ((f.bits:Int)<=2147483647) && !Yo P.enums o.target f.bits
def QaV (P:PL)(g:PG)(f:R):(!Fx P g f)=((Xd g f.num).isSome && !NM P ((Xd g f.num).getD HR) f):=by
 unfold Fx NM;cases Xd g f.num<;>rfl
def QfY (f:R):Bool:=decide (f.num<1)||decide (f.num > 65535)||decide (f.wire<0)||decide (f.wire > 6)
def QfZ (f:R):Bool:=decide (f.wire<=2) && !(f.data==[])||decide (f.wire > 2) && !((f.bits:Int)==0)
def Qf0 (f:R):Bool:=f.wire==3&&decide ((f.data.length:Int) > 4096)||decide ((f.data.length:Int) > 65536)
def Qd1 (P:PL)(g:PG)(f:R):Kk P g f=if QfY f=true then 1 else if QfZ f=true then 1 else if (!Fx P g f)=true then 1 else if Qf0 f=true then 3 else 0:=rfl
section
variable {M:Nat}{P:PL}(hP:P.ok M)
include hP in
theorem QaW (o:PO)(w:R)(n7 n9:Bool)(f:Fr)(fr:Nat->Ob)(h3:f 3=.ptr 0 3 0)(h5:f 5=.ptr 0 5 0)(h7:f 7=.bool n7)(h8:f 8=.ptr 0 8 0)(h9:f 9=.bool n9)
  (m3:fr 3=.cells [.list (P.progs.map Qm),.list (P.enums.map QH)]) (m5:fr 5=.cells [.int .i64 w.num,.int .i64 w.wire,.int .u64 (w.bits:Nat),.str w.data]) (m8:fr 8=.cells o.cells) (Q:St->Prop)
  (hQ:∀f,f 5=.ptr 0 5 0->f 7=.bool n7->f 9=.bool n9->f 10=.bool (NM P o w)->Q ⟨f,[fr],[]⟩):QF prog Gt ⟨f,[fr],[]⟩ Q:=by
 have e0:P.av=.agg [.list (P.progs.map Qm),.list (P.enums.map QH)]:=rfl;have ha:=QaP P hP o.target w.bits;rw[e0]at ha;simp only[PO.cells]at m8;unfold NM at hQ;cases a1:(o.kind==9)
 ·rw[a1]at hQ;simp only[QoJ]at hQ;simp only[Gt,a1,h8,m8,eE,seval];exact zU
 cases a2:(o.card != 5)
 ·rw[a1,a2]at hQ;simp only[QoW,QoJ]at hQ;simp only[Gt,a1,a2,h8,m8,eE,seval];exact zU
 cases a3:(w.wire==0)
 ·rw[a1,a2,a3]at hQ;simp only[QoW,QoJ]at hQ;simp only[Gt,a1,a2,a3,h5,h8,m5,m8,eE,seval];exact zU
 cases a4:decide ((w.bits:Int)<=2147483647)
 ·rw[a1,a2,a3,a4]at hQ;simp only[QoW,QoJ]at hQ;simp only[Gt,a1,a2,a3,a4,h5,h8,m5,m8,eE,seval];exact zU
 rw[a1,a2,a3,a4]at hQ;simp only[QoW]at hQ;simp only[Gt,a1,a2,a3,a4,h3,h5,h8,m3,m5,m8,eE,seval];refine aC ha ?_;simp only[Qa,seval];exact zU
include hP in
theorem v93 (g:PG)(hg:g.ok M)(w:R):Qi prog 93 [P.av,Qm g,w.av] (.int .i64 (Kk P g w)):=by
 have e0:P.av=.agg [.list (P.progs.map Qm),.list (P.enums.map QH)]:=rfl;have co:=ID g hg.len w.num;rw[Uz]at co;simp only[Qm,PG.cells]at co;have nd:(w.data != [])=!(w.data==[]):=rfl;have nb:((w.bits:Int) != 0)=!((w.bits:Int)==0):=rfl;have ef:decide (w.wire > 2)=!decide (w.wire<=2):=ϓ;rw[Qd1,QaV];unfold QfY QfZ Qf0;rw[ef];refine k93.fn ό ?_;simp only[r93,QbT,QbU,QbV,o93,e0,Qm,PG.cells,R.av,eE,seval];refine aC co ?_;generalize (Xd g w.num).getD HR=q;generalize (Xd g w.num).isSome=kb;simp only[Qw,PO.cells,splice,Qol,Qny,QnN,Qor,Qof,Qnq,Qn7,Qoo,Qop,AV.leaf,eE,seval];refine QaW hP q w (decide (w.wire<=2)) kb _ _ ω ω ω ω ω ω ω ω _ (λf h5 h7 h9 am=>?_);generalize NM P q w=K at am |-;simp only[QbW,h5,eE,seval];cases r1:decide (w.num<1)
 case true=>simp only[Nv,Qo0,Qa,seval]
 cases r2:decide (w.num > 65535)
 case true=>simp only[r2,Nv,Qo0,Qo1,h5,eE,seval]
 cases r3:decide (w.wire<0)
 case true=>simp only[r2,r3,Nv,Qo0,Qo1,h5,eE,seval]
 cases r4:decide (w.wire > 6)
 case true=>simp only[r2,r3,r4,Nv,Qo1,h5,eE,seval]
 simp only[r2,r3,r4,Qo1,Qnu,QbX,h5,h7,eE,seval];cases s1:decide (w.wire<=2)
 ·rw[s1]at h7;cases s2:((w.bits:Int)==0)
  ·simp only[s2,nb,Nw,Qok,QoJ,Qo1,h5,h7,eE,seval]
  ·cases kb<;>cases K<;>simp only[s2,nb,Nw,Ar,Qok,QoX,QoJ,QoY,Qo1,Qnu,h5,h7,h9,am,eE,seval]
   all_goals exact zT
 ·rw[s1]at h7;cases s2:(w.data==[])
  ·simp only[s2,QX,Nw,Qok,QoX,QoJ,Qo0,h5,eE,seval]
  ·cases kb<;>cases K<;>simp only[s2,QX,Nw,Ar,Qok,QoX,QoJ,QoY,Qo1,Qnu,h5,h7,h9,am,eE,seval]
   all_goals exact zT
theorem v92 (y:Int×V)(o:PO)(eZ:Nat->Ob)(hf:eZ 12=.cells o.cells) :
  Qf prog 92 [V.sav y,.ptr 2 12 0] [Qb,Qb,eZ] λv m1=>v=.bool (y.1==o.num)/\m1=[Qb,Qb,eZ]:=by
 simp only[PO.cells]at hf;rw[Jo];refine wG func92 ?_;simp only[eK,f92,seval];simp only[hf,eE,seval]
end
def DQ (sl:List (Int×V))(o:PO):Bool:=o.card==1 && !sl.any λy=>y.1==o.num
def SS (g:PG)(sl:List (Int×V)):GE g sl=g.ops.any (DQ sl):=rfl
def Bv {l:List R}{i:Nat}{x:R}(h:l[i]? = some x):(l.map R.av)[i]? = some (.agg [.int .i64 x.num,.int .i64 x.wire,.int .u64 (x.bits:Nat),.str x.data]):=by
 rw[QoA,h,QnB,R.av]
def Qkr {l:List PO}{i:Nat}{o:PO}(h:l[i]? = some o):(l.map λo=>AV.agg o.cells)[i]? = some (.agg [.int .i64 o.num,.str o.name,.str o.alias,.int .i64 o.card,.int .i64 o.key,.int .i64 o.kind,.int .i64 o.target,.int .i64 o.union]):=by
 rw[QoA,h,QnB,PO.cells]
section
variable {M:Nat}{P:PL}(hP:P.ok M){m:PG->V->Int}{lv:Int}(g:PG)(hg:g.ok M)(v:V)(hv:v.ok M)
def MrI (P:PL)(g:PG)(v:V)(k:Nat)(st:St):Prop :=
 ∃f fr i,st=⟨f,[fr],[]⟩/\k=v.raws.length-i/\Z2 (Um P g v.raws) v.raws.length 0=Z2 (Um P g v.raws) (v.raws.length-i) i/\f 4=.ptr 0 4 0/\f 5=.ptr 0 5 0/\f 63=.list (v.raws.map R.av)/\f 64=.int .i64 (v.raws.length:Nat)/\f 65=.int .i64 (i:Nat)/\fr 4=.cells [.list (P.progs.map Qm),.list (P.enums.map QH)]/\fr 5=.cells g.cells/\∀s∈[14],(fr s).isRow=false
include hP hg hv in
theorem IW {cL:RC}(f:Fr)(fr:Nat->Ob)(h4:f 4=.ptr 0 4 0)(h5:f 5=.ptr 0 5 0)(p6:f 63=.list (v.raws.map R.av))(qu:f 64=.int .i64 (v.raws.length:Nat))(nQ:f 65=.int .i64 0)
  (m4:fr 4=.cells [.list (P.progs.map Qm),.list (P.enums.map QH)]) (m5:fr 5=.cells g.cells) (iC:∀s∈[14],(fr s).isRow=false) (Q:Exit->St->Prop)
  (q1:Z2 (Um P g v.raws) v.raws.length 0≠0->∀f fr,f 8=.int .i64 (Z2 (Um P g v.raws) v.raws.length 0)->Q .ret (⟨f,[fr],[]⟩:St))
  (q2:Z2 (Um P g v.raws) v.raws.length 0=0->∀f fr,Q (.exit 5) (⟨f,[fr],[]⟩:St)) (bU:lp 49 2 f49=cL:=by simp only[eL,eK,f49,seval]):Q1 prog (.loop cL) ⟨f,[fr],[]⟩ Q:=by
 subst bU;simp only[eL,eK,f49,seval];have e0:P.av=.agg [.list (P.progs.map Qm),.list (P.enums.map QH)]:=rfl;refine Qj (MrI P g v) _ ⟨f,fr,0,rfl,rfl,rfl,h4,h5,p6,qu,nQ,m4,m5,iC⟩ ?_;clear h4 h5 p6 qu nQ m4 m5 iC;rintro _ st ⟨f0,bA,i,rfl,rfl,hx,aS,bL,qA,p9,oQ,b_,bK,iC⟩;refine QR (a:=_) [14] iC ?_;intro f fr hf hm hn;have h4:f 4=.ptr 0 4 0:=ϱ
 have h5:f 5=.ptr 0 5 0:=Θ
 have p6:f 63=.list (v.raws.map R.av):=by rw[hf,qA]<;>rfl
 have qu:f 64=.int .i64 (v.raws.length:Nat):=by rw[hf,p9]<;>rfl
 have nQ:f 65=.int .i64 (i:Nat):=by rw[hf,oQ]<;>rfl
 have m4:fr 4=.cells [.list (P.progs.map Qm),.list (P.enums.map QH)]:=ϝ
 have m5:fr 5=.cells g.cells:=Ϸ
 have g9:=hn 14 ϊ;clear hf hm hn aS bL qA p9 oQ b_ bK iC;have bh:=m5;simp only[PG.cells]at m5;simp only[qu,nQ,Qa,seval];by_cases aa:i<v.raws.length
 ·obtain⟨x,hi⟩:∃x,v.raws[i]? = some x:=⟨v.raws[i],Qnb aa⟩;have od:=Bv hi;have e1:=Qv i _ aa (by have:=hv.nr;simp only[maxLen];omega);have c1:=v93 hP g hg x;rw[e0]at c1;simp only[Qm,PG.cells,R.av]at c1;simp only[QE aa,Qs,QoF,Qg,od,g9,h4,h5,p6,nQ,m4,m5,eE,seval];refine aC c1 ?_;by_cases hy:Kk P g x=0
  ·rw[NI aa ((GF hi).trans hy)]at hx;have d0:((0:Int) != 0)=false:=rfl;simp only[hy,d0,nQ,e1,Qa,seval];exact⟨v.raws.length-(i+1),ψ,_,_,i+1,rfl,rfl,hx,Ϡ,Ϛ,(by exact p6),(by exact qu),ω,Φ,Ζ,ϛ⟩
  ·rw[HT aa (GF hi) hy]at hx;have d1:(Kk P g x != 0)=true:=ϳ
   exact IO
 ·rw[Fv aa]at hx;simp only[QM aa,Qa,seval];exact q2 hx _ _
def MoI (P:PL)(g:PG)(v:V)(k:Nat)(st:St):Prop :=
 ∃f fr i,st=⟨f,[fr],[]⟩/\k=g.ops.length-i/\i<=g.ops.length/\(g.ops.take i).any (DQ v.slots)=false/\f 4=.ptr 0 4 0/\f 5=.ptr 0 5 0/\f 6=.ptr 0 6 0/\f 45=.list (g.ops.map λo=>.agg o.cells)/\f 46=.int .i64 (g.ops.length:Nat)/\f 47=.int .i64 (i:Nat)/\fr 4=.cells [.list (P.progs.map Qm),.list (P.enums.map QH)]/\fr 5=.cells g.cells/\fr 6=.cells (vc v)/\∀s∈[12],(fr s).isRow=false
include hg hv in
theorem QaX {cL:RC}(f:Fr)(fr:Nat->Ob)(h4:f 4=.ptr 0 4 0)(h5:f 5=.ptr 0 5 0)(h6:f 6=.ptr 0 6 0)(nR:f 45=.list (g.ops.map λo=>.agg o.cells))(ot:f 46=.int .i64 (g.ops.length:Nat))(iP:f 47=.int .i64 0)
  (m4:fr 4=.cells [.list (P.progs.map Qm),.list (P.enums.map QH)]) (m5:fr 5=.cells g.cells) (m6:fr 6=.cells (vc v)) (iW:∀s∈[12],(fr s).isRow=false) (Q:Exit->St->Prop)
  (q1:GE g v.slots=true->∀f fr,f 8=.int .i64 14->Q .ret (⟨f,[fr],[]⟩:St))
  (q2:GE g v.slots=false->∀f fr,f 4=.ptr 0 4 0->f 5=.ptr 0 5 0->f 6=.ptr 0 6 0->fr 4=.cells [.list (P.progs.map Qm),.list (P.enums.map QH)]->fr 5=.cells g.cells->fr 6=.cells (vc v)->fr 14=.none->Q (.exit 3) (⟨f,[fr],[]⟩:St))
  (iC:fr 14=.none) (bU:lp 49 1 f49=cL:=by simp only[eL,eK,f49,seval]):Q1 prog (.loop cL) ⟨f,[fr],[]⟩ Q:=by
 subst bU;simp only[eL,eK,f49,seval]
 let I:Nat->St->Prop:=λk st=>MoI P g v k st/\∀f fr,st=⟨f,[fr],[]⟩->fr 14=.none
 have mk:∀k st,MoI P g v k st->∀f fr,st=⟨f,[fr],[]⟩->fr 14=.none->I k st:=λk st h f fr e n=>⟨h,λf' ag e'=>by
  rw[e]at e'
  injection e' with _ e2 _
  injection e2 with e3 _
  rw[<-e3];exact n⟩
 refine Qj I _ (mk _ _ ⟨f,fr,0,rfl,rfl,Qnk _,ό,h4,h5,h6,nR,ot,iP,m4,m5,m6,iW⟩ _ _ rfl iC) ?_;clear h4 h5 h6 nR ot iP m4 m5 m6 iW iC;rintro _ st ⟨⟨f0,bA,i,rfl,rfl,bg,hq,aS,bL,bX,oW,pr,jW,b_,bK,cV,iW⟩,iC⟩;have iC:=iC _ _ rfl;refine QR (a:=_) [12] iW ?_;intro f fr hf hm hn;have h4:f 4=.ptr 0 4 0:=ϱ
 have h5:f 5=.ptr 0 5 0:=Θ
 have h6:f 6=.ptr 0 6 0:=Κ
 have nR:f 45=.list (g.ops.map λo=>.agg o.cells):=by rw[hf,oW]<;>rfl
 have ot:f 46=.int .i64 (g.ops.length:Nat):=by rw[hf,pr]<;>rfl
 have iP:f 47=.int .i64 (i:Nat):=by rw[hf,jW]<;>rfl
 have m4:fr 4=.cells [.list (P.progs.map Qm),.list (P.enums.map QH)]:=ϝ
 have m5:fr 5=.cells g.cells:=Ϸ
 have m6:fr 6=.cells (vc v):=ϸ
 have g9:fr 14=.none:=by rw[hm 14 ϊ,iC]<;>rfl
 have dK:=hn 12 ϊ;clear hf hm hn aS bL bX oW pr jW b_ bK cV iW iC;have bT:=m6;simp only[vc]at m6;simp only[ot,iP,Qa,seval];by_cases aa:i<g.ops.length
 ·obtain⟨o,hi⟩:∃o,g.ops[i]? = some o:=⟨g.ops[i],Qnb aa⟩;have od:=Qkr hi;have e1:=Qv i _ aa hg.len;have ht:(g.ops.take (i+1)).any (DQ v.slots)=DQ v.slots o:=by
   rw[Qo4,hi,List.any_append,hq];simp
  have mn:DQ v.slots o=(o.card==1 && !v.slots.any λy=>y.1==o.num):=rfl;have fin:∀(f':Fr) (ag:Nat->Ob),DQ v.slots o=false->f' 4=.ptr 0 4 0->f' 5=.ptr 0 5 0->f' 6=.ptr 0 6 0->f' 45=.list (g.ops.map λo=>.agg o.cells)->f' 46=.int .i64 (g.ops.length:Nat)->f' 47=.int .i64 ((i+1:Nat):Int)->ag 4=.cells [.list (P.progs.map Qm),.list (P.enums.map QH)]->ag 5=.cells g.cells->ag 6=.cells (vc v)->(∀s∈[12],(ag s).isRow=false)->ag 14=.none->∃k,k<g.ops.length-i/\I k ⟨f',[ag],[]⟩:=by
   intro f' ag hu b4 b5 b6 xJ xE x8 c4 c5 c6 dS xG;exact⟨g.ops.length-(i+1),ψ,mk _ _ ⟨f',ag,i+1,rfl,rfl,ψ,by rw[ht,hu],b4,b5,b6,xJ,xE,x8,c4,c5,c6,dS⟩ _ _ rfl xG⟩
  simp only[QE aa,Qs,QoF,Qg,od,dK,nR,iP,eE,seval];cases a1:(o.card==1)
  ·rw[a1,QoJ]at mn;exact zZ
  ·rw[a1,QoW]at mn;have aM:=λ(fr:Nat->Ob) (h12:fr 12=.cells o.cells)=>v91 v.slots æ (λy=>y.1==o.num) 92 (.ptr 0 12 0) [fr] λy _=>v92 y o fr h12
   simp only[PO.cells]at aM;simp only[h6,m6,eE,seval];refine Qh (aM _ ω) ύ ?_;cases a2:v.slots.any (λy=>y.1==o.num)
   ·rw[a2]at mn;have aL:GE g v.slots=true:=QoU.2 ⟨o,Qnp hi,by show DQ v.slots o=true;rw[mn];rfl⟩;simp only[Qa,seval];exact q1 aL _ _ ω
   ·rw[a2]at mn;exact zZ
 ·have gC:GE g v.slots=false:=by rw[SS,<-hq,QnL ψ]
  simp only[QM aa,Qa,seval];exact q2 gC _ _ Ϡ Ϛ Ϝ Φ Ŀ Â (by exact g9)
def MsI (m:PG->V->Int)(P:PL)(lv:Int)(g:PG)(v:V)(k:Nat)(st:St):Prop :=
 ∃f fr i,st=⟨f,[fr],[]⟩/\k=v.slots.length-i/\Z2 (JU m P g v.slots) v.slots.length 0=Z2 (JU m P g v.slots) (v.slots.length-i) i/\f 3=.int .i64 lv/\f 4=.ptr 0 4 0/\f 5=.ptr 0 5 0/\f 6=.ptr 0 6 0/\f 29=.int .i64 (v.slots.length:Nat)/\f 30=.int .i64 (i:Nat)/\fr 4=.cells [.list (P.progs.map Qm),.list (P.enums.map QH)]/\fr 5=.cells g.cells/\fr 6=.cells (vc v)/\fr 12=.none/\fr 14=.none
include hv in
theorem AM {cL:RC}(bH:∀i,i<v.slots.length->Qi prog 90 [P.av,Qm g,.list (v.slots.map V.sav),.int .i64 (i:Nat),.int .i64 lv] (.int .i64 (JU m P g v.slots i)))
  (f:Fr) (fr:Nat->Ob) (h3:f 3=.int .i64 lv) (h4:f 4=.ptr 0 4 0) (h5:f 5=.ptr 0 5 0) (h6:f 6=.ptr 0 6 0) (kQ:f 29=.int .i64 (v.slots.length:Nat)) (ax:f 30=.int .i64 0)
  (m4:fr 4=.cells [.list (P.progs.map Qm),.list (P.enums.map QH)]) (m5:fr 5=.cells g.cells) (m6:fr 6=.cells (vc v)) (dK:fr 12=.none) (g9:fr 14=.none) (Q:Exit->St->Prop)
  (q1:Z2 (JU m P g v.slots) v.slots.length 0≠0->∀f fr,f 8=.int .i64 (Z2 (JU m P g v.slots) v.slots.length 0)->Q .ret (⟨f,[fr],[]⟩:St))
  (q2:Z2 (JU m P g v.slots) v.slots.length 0=0->∀f fr,f 4=.ptr 0 4 0->f 5=.ptr 0 5 0->f 6=.ptr 0 6 0->fr 4=.cells [.list (P.progs.map Qm),.list (P.enums.map QH)]->fr 5=.cells g.cells->fr 6=.cells (vc v)->fr 12=.none->fr 14=.none->Q (.exit 1) (⟨f,[fr],[]⟩:St)) (bU:lp 49 0 f49=cL:=by simp only[eL,eK,f49,seval]) :
  Q1 prog (.loop cL) ⟨f,[fr],[]⟩ Q:=by
 subst bU;simp only[eL,eK,f49,seval];have e0:P.av=.agg [.list (P.progs.map Qm),.list (P.enums.map QH)]:=rfl;refine Qj (MsI m P lv g v) _ ⟨f,fr,0,rfl,rfl,rfl,h3,h4,h5,h6,kQ,ax,m4,m5,m6,dK,g9⟩ ?_;clear h3 h4 h5 h6 kQ ax m4 m5 m6 dK g9;rintro _ st ⟨f,fr,i,rfl,rfl,hx,h3,h4,h5,h6,kQ,ax,m4,m5,m6,dK,g9⟩;have bh:=m5;have bT:=m6;simp only[PG.cells]at m5;simp only[vc]at m6;simp only[kQ,ax,Qa,seval];by_cases aa:i<v.slots.length
 ·have e1:=Qv i _ aa æ;have c1:=bH i aa;rw[e0]at c1;simp only[Qm,PG.cells]at c1;simp only[QE aa,h3,h4,h5,h6,ax,m4,m5,m6,eE,seval];refine aC c1 ?_;by_cases hy:JU m P g v.slots i=0
  ·rw[NI aa hy]at hx;have d0:((0:Int) != 0)=false:=rfl;simp only[hy,d0,ax,e1,Qa,seval];exact⟨v.slots.length-(i+1),ψ,_,_,i+1,rfl,rfl,hx,ϖ,Ϡ,Ϛ,Ϝ,(by exact kQ),ω,Φ,Ζ,Â,dK,g9⟩
  ·rw[HT aa rfl hy]at hx;have d1:(JU m P g v.slots i != 0)=true:=ϳ
   exact IO
 ·rw[Fv aa]at hx;simp only[QM aa,Qa,seval];exact q2 hx _ _ Ϡ Ϛ Ϝ Φ Ζ Â dK g9
include hP in
theorem v49 (hU:JD P):∀n:Nat,n<=16->∀g∈P.progs,∀v:V,v.ok M->Qi prog 49 [P.av,Qm g,v.av,.int .i64 (17-(n:Int))] (.int .i64 (XK P n g v)):=by
 have e0:P.av=.agg [.list (P.progs.map Qm),.list (P.enums.map QH)]:=rfl;intro n
 induction n with
 |zero=>
  intro _ g _ v hv;have co:=AL v hv;rw[Qd]at co;rw[Qd];have d0:decide ((17:Int)-((0:Nat):Int) > 16)=true:=rfl;refine wF func49 ?_;simp only[eK,f49,seval];simp only[e0,Qm,PG.cells,XK,eE,seval];cases a1:(v.kd != 10)
  ·simp only[Qo1,eE,seval];refine aC co ?_;cases v.oth
   ·simp only[Qnu,Qa,seval]
   ·simp only[Qa,seval]
  ·exact O_
 |succ n ih=>
  intro vT g ep v hv;have hg:=hP.progs g ep;have hu:=hU g ep;have hw:IntKind.i64.wrap (17-((n+1:Nat):Int)+1)=17-(n:Int):=ϐ
  have aJ:=λ(o:PO) (ho:o∈g.ops) (x:V) (hx:x.ok M)=>Qkj hP hw (λg hg v hv=>ih ψ g hg v hv) o (hu o ho) x hx
  have fq:=λ(o:PO) (ho:o∈g.ops) (x:V) (hx:x.ok M)=>Qkp hP o (hu o ho) x hx (aJ o ho)
  have bH:=λ(i:Nat) (hi:i<v.slots.length)=>v90 (P:=P) g hg v.slots æ i hi hv.slots fq
  have co:=AL v hv;rw[Qd]at co;rw[Qd];have d0:decide ((17:Int)-((n+1:Nat):Int) > 16)=false:=Qo8 ψ;refine wF func49 ?_;simp only[eK,f49,seval];simp only[e0,Qm,PG.cells,XK,eE,seval];cases a1:(v.kd != 10)
  ·simp only[Qo1,eE,seval];refine aC co ?_;cases v.oth
   ·simp only[d0,Qnu,Qn6,eE,seval];unfold Ho;refine AM (lv:=17-((n+1:Nat):Int)) g v hv bH _ _ ω ω ω ω ω ω ω ω ω ω ω _ (λhx f fr h8=>?_) (λhx f fr h4 h5 h6 m4 m5 m6 dK g9=>?_)
    ·rw[Qni hx];simp only[h8,Qa,seval]
    ·rw[Qnj hx];have bh:=m5;simp only[PG.cells]at m5;simp only[h5,m5,Qn6,eE,seval];refine QaX g hg v hv _ _ Ϡ Ϛ Ϝ ω ω ω Φ Ζ Ö (by simp only[Qoz,Qpu,or_false,forall_eq,dK]<;>rfl) _ (λhx f fr h8=>?_) (λhx f fr h4 h5 h6 m4 m5 m6 g9=>?_) (by exact g9)
     ·rw[hx];simp only[h8,Qa,seval]
     ·rw[hx];have bT:=m6;simp only[vc]at m6;simp only[Qnu,h6,m6,Qn6,eE,seval];refine IW hP g hg v hv _ _ Ϡ Ϛ ω ω ω Φ Ŀ (by simp only[Qoz,Qpu,or_false,forall_eq,g9]<;>rfl) _ (λhx f fr h8=>?_) (λhx f fr=>?_)
      ·simp only[h8,Qa,seval]
      ·simp only[hx,Qa,seval]
   ·simp only[Qa,seval]
  ·exact O_
end
open So
def HW {f:Nat->Int}:∀ {k i:Nat},(∀j,i<=j->j<i+k->f j=0)->Z2 f k i=0
 |0,_,_=>rfl
 |k+1,i,h=>by
  rw[Z2,Qnj (h i (Qm8 _) ψ)];exact HW λj h1 h2=>h j ψ ψ
def W5 {α:Type}{l:List α}{p:α->Bool}{i:Nat}(hi:i<=l.length):(l.take i).any p=false↔∀j (h:j<i),p (l[j]' ψ)=false:=by
 rw[List.any_eq_false]
 constructor
 ·intro h j hj;have:=h (l[j]' ψ) (Qnp (i:=j) (by rw[QnQ,Qnj hj,Qnb ψ]))
  simpa using this
 ·intro h x hx;obtain⟨j,hj⟩:=Qnn.1 hx;have hl:=(Qna.1 hj).1;rw[Qn8]at hl;rw[QnQ,Qnj ψ]at hj;obtain⟨vN,rfl⟩:=Qna.1 hj;have:=h j ψ;simp[this]
section
variable {m:PG->V->Int}{P:PL}
def IX (m:PG->V->Int)(P:PL)(g:PG)(sl:List (Int×V)):Prop :=
 (∀x∈sl,∃o,Xd g x.1=some o/\XC m P o x.2=0)/\sl.Pairwise (λy x=>(y.1==x.1)=false)/\sl.Pairwise (λy x=>∀o,Xd g x.1=some o->We g o y=false)
theorem Qd2 {g:PG}{sl:List (Int×V)}:Z2 (JU m P g sl) sl.length 0=0↔IX m P g sl:=by
 have key:∀i (hi:i<sl.length),JU m P g sl i=0↔∃o,Xd g sl[i].1=some o/\(sl.take i).any (λy=>y.1==sl[i].1)=false/\(sl.take i).any (We g o)=false/\XC m P o sl[i].2=0:=by
  intro i hi;unfold JU;rw[Qnb hi];dsimp only;cases Xd g sl[i].1 with
  |none=>simp
  |some o=>
   simp only[QnC,exists_eq_left'];cases(sl.take i).any (λy=>y.1==sl[i].1)<;>cases(sl.take i).any (We g o)<;>simp only[Qnu,Qpm,if_true,if_false,Qn2,false_and,iff_false]<;>omega
 constructor
 ·intro h;have hz:∀i (hi:i<sl.length),_:=λi hi=>(key i hi).1 (Wc h i (Qnk _) ψ)
  refine⟨λx hx=>?_,?_,?_⟩
  ·obtain⟨i,hi,rfl⟩:=Qpv hx;obtain⟨o,h1,_,_,h4⟩:=hz i hi;exact⟨o,h1,h4⟩
  ·rw[Qpr];intro i j hi hj d_;obtain⟨o,_,h2,_,_⟩:=hz j hj;exact(W5 ψ).1 h2 i d_
  ·rw[Qpr];intro i j hi hj d_ o ho;obtain⟨o',h1,_,h3,_⟩:=hz j hj;rw[h1]at ho;cases ho;exact(W5 ψ).1 h3 i d_
 ·rintro⟨h1,h2,h3⟩;refine HW λi _ hi=>?_
  rw[QnA]at hi;obtain⟨o,ho,hf⟩:=h1 sl[i] (Qn3 hi);rw[Qpr]at h2 h3;exact(key i hi).2 ⟨o,ho,(W5 ψ).2 λj hj=>h2 j i ψ hi hj,(W5 ψ).2 λj hj=>h3 j i ψ hi hj o ho,hf⟩
def EOK (m:PG->V->Int)(P:PL)(o:PO)(ps:List (V×V)):Prop :=
 (∀x∈ps,x.1.one P o.key (-1)=0/\QS m P o x.2=0)/\ps.Pairwise λq p=>XJ q.1 p.1=false
theorem KR {o:PO}{ps:List (V×V)}:Z2 (HF m P o ps) ps.length 0=0↔EOK m P o ps:=by
 have key:∀i (hi:i<ps.length),HF m P o ps i=0↔(ps[i].1.one P o.key (-1)=0/\(ps.take i).any (λq=>XJ q.1 ps[i].1)=false/\QS m P o ps[i].2=0):=by
  intro i hi;rw[Fy (Qnb hi)];by_cases hz:ps[i].1.one P o.key (-1)=0
  ·rw[Qnj hz];cases(ps.take i).any (λq=>XJ q.1 ps[i].1)<;>simp[hz]
  ·rw[Qni hz];simp[hz]
 constructor
 ·intro h;have hz:∀i (hi:i<ps.length),_:=λi hi=>(key i hi).1 (Wc h i (Qnk _) ψ)
  refine⟨λx hx=>?_,?_⟩
  ·obtain⟨i,hi,rfl⟩:=Qpv hx;exact⟨(hz i hi).1,(hz i hi).2.2⟩
  ·rw[Qpr];intro i j hi hj d_;exact(W5 ψ).1 (hz j hj).2.1 i d_
 ·rintro⟨h1,h2⟩;refine HW λi _ hi=>?_
  rw[QnA]at hi;rw[Qpr]at h2;exact(key i hi).2 ⟨(h1 _ (Qn3 hi)).1,(W5 ψ).2 λj hj=>h2 j i ψ hi hj,(h1 _ (Qn3 hi)).2⟩
theorem Km {o:PO}{l:List V}:Z2 (Bs m P o l) l.length 0=0↔∀x∈l,QS m P o x=0:=by
 constructor
 ·intro h x hx;obtain⟨i,hi,rfl⟩:=Qpv hx;have:=Wc h i (Qnk _) ψ
  rwa [Fz (Qnb hi)]at this
 ·intro h;refine HW λi _ hi=>?_
  rw[QnA]at hi;rw[Fz (Qnb hi)];exact h _ (Qn3 hi)
theorem Qd3 {g:PG}{l:List R}:Z2 (Um P g l) l.length 0=0↔∀x∈l,Kk P g x=0:=by
 constructor
 ·intro h x hx;obtain⟨i,hi,rfl⟩:=Qpv hx;have:=Wc h i (Qnk _) ψ
  rwa [GF (Qnb hi)]at this
 ·intro h;refine HW λi _ hi=>?_
  rw[QnA]at hi;rw[GF (Qnb hi)];exact h _ (Qn3 hi)
theorem WT {g:PG}{v:V}:Ho m P g v=0↔IX m P g v.slots/\GE g v.slots=false/\∀x∈v.raws,Kk P g x=0:=by
 unfold Ho;rw[<-Qd2,<-Qd3];split
 ·rename_i h;cases GE g v.slots<;>simp[h]
 ·rename_i h;simp[h]
end
def Jy {P:PL}{n:Nat}{g:PG}{v:V}:XK P (n+1) g v=0↔(v.kd=10/\v.oth=false)/\IX (XK P n) P g v.slots/\GE g v.slots=false/\∀x∈v.raws,Kk P g x=0:=by
 rw[<-WT];unfold XK;by_cases h:v.kd=10
 ·cases ho:v.oth<;>simp[h]
 ·simp[h]
def Pt {v:V}(h:v.kd≠6):v.nsc=v:=by
 cases v;unfold V.nsc Xw;rw[Qni λg=>h g.1];rfl
def Qhp {P:PL}{tg:Int}{t:List UInt8}{l p s r:List AV}(b b':Nat):GD P 6 tg 6 b t l p s r=GD P 6 tg 6 b' t l p s r:=by
 have k1:(Zz 6||(6:Int)==10||(6:Int)==11||(6:Int)==12)=false:=ϊ
 have k2:((6:Int)==9)=false:=rfl;have t6:Zz 6=false:=rfl;have f6:∀b,Wb 6 b=true:=λb=>by
  unfold Wb;rw[Qni ϊ,Qni ϊ,Qni ϊ,Qni ϊ]
 have h1:oth 6 b t l p s r=oth 6 b' t l p s r:=by
  unfold oth;rw[k1,QoY,QoY]
 have h2:Ze 6 6 b t l p s r=Ze 6 6 b' t l p s r:=by
  unfold Ze;rw[f6,f6,Qni (by rw[t6];exact Bool.false_ne_true),Qni (by rw[t6];exact Bool.false_ne_true)]
 unfold GD;rw[h1,h2,k2,QoJ,QoJ]
def SU {P:PL}{k tg:Int}{v:V}(h:v.one P k tg=0):v.nsc.one P k tg=0:=by
 by_cases hk:v.kd=6
 ·have e:=(HU h).1;rw[<-h];unfold V.one;have e1:v.nsc.kd=6:=hk;rw[e1,hk,show k=6 by omega];exact Qhp _ _
 ·rw[Pt hk];exact h
def XX {g:PG}(hd:g.ops.Pairwise λa b=>a.num<b.num){o:PO}(ho:o∈g.ops):Xd g o.num=some o:=by
 unfold Xd
 revert hd ho
 generalize g.ops=ops;intro hd ho
 induction ops with
 |nil=>cases ho
 |cons x l ih=>
  obtain⟨h1,h2⟩:=QoN.1 hd;rw[Qo7];rcases Qoz.1 ho with rfl|ho
  ·simp
  ·have:=h1 o ho;rw[show(x.num==o.num)=false by simp;omega];exact ih h2 ho
section
variable {m:PG->V->Int}{nm:PG->V->V}{P:PL}
theorem Bw (h:∀g∈P.progs,∀v,m g v=0->m g (nm g v)=0){o:PO}(ho:UO P o){v:V}(hv:QS m P o v=0):QS m P o (Xv nm P o v)=0:=by
 unfold QS Xv at *;by_cases hk:o.kind=10
 ·exact O1
 ·rw[Qni hk]at hv;rw[Qni hk,Qni hk];exact SU hv
theorem DR {o:PO}(ho:o.card=5->XS o.key)(h5:o.card=5){ps:List (V×V)}(h:EOK m P o ps):∀p∈ps,p.1.nsc=p.1:=by
 intro p hp;have e:=(HU (h.1 p hp).1).1;refine Pt ?_;have:=ho h5;unfold XS at this;omega
theorem QaY (h:∀g∈P.progs,∀v,m g v=0->m g (nm g v)=0){o:PO}(ho:UO P o){v:V}(hv:XC m P o v=0):XC m P o (XT nm P o v)=0:=by
 unfold XC XT at *;by_cases h5:o.card=5
 ·have n4:¬o.card=4:=ψ
  rw[Qnj h5]at hv;rw[Qnj h5,Qni n4,Qnj h5];split at hv
  ·omega
  have hE:=KR.1 hv;have hk:=DR ho.key h5 hE;rw[Qni Ð];refine KR.2 ?_;have hp:(QY o.key v.pairs).Perm v.pairs:=QN _;have hm:∀p∈QY o.key v.pairs,p∈v.pairs:=λp h=>hp.mem_iff.1 h
  refine⟨λx hx=>?_,?_⟩
  ·obtain⟨p,hp,rfl⟩:=Qox.1 hx;have h1:=hE.1 p (hm p hp);exact⟨SU h1.1,Bw h ho h1.2⟩
  ·show(List.map _ (QY o.key v.pairs)).Pairwise _;rw[List.pairwise_map];have h2:(QY o.key v.pairs).Pairwise λq p=>XJ q.1 p.1=false:=(hp.pairwise_iff λ{a b} h=>â).2 hE.2
   refine h2.imp_of_mem λ{a b} ha hb h=>?_
   dsimp only;rw[hk a (hm a ha),hk b (hm b hb)];exact h
 ·rw[Qni h5]at hv;rw[Qni h5];by_cases h4:o.card=4
  ·rw[Qnj h4]at hv;rw[Qnj h4,Qnj h4];split at hv
   ·omega
   have hL:=Km.1 hv;rw[Qni Ð];refine Km.2 λx hx=>?_
   obtain⟨y,hy,rfl⟩:=Qox.1 hx;exact Bw h ho (hL y hy)
  ·rw[Qni h4]at hv;rw[Qni h4,Qni h4,Qni h5];exact Bw h ho hv
theorem XU {sl:List (Int×V)}{o:PO}{x:Int×V}(h:x∈Xb nm P sl o):x.1=o.num/\∃s∈sl,s.1=o.num/\x.2=XT nm P o s.2:=by
 unfold Xb at h;cases hf:sl.find? (λs=>s.1==o.num)with
 |none=>rw[hf]at h;cases h
 |some s=>
  rw[hf]at h;dsimp only at h;have h1:s.1=o.num:=ù
  split at h
  ·simp only[Qoz,Qpu,or_false]at h;subst h;exact⟨rfl,s,Qpc hf,h1,rfl⟩
  ·cases h
theorem GK {sl:List (Int×V)}{o:PO}{p:Int×V->Int×V->Prop}:(Xb nm P sl o).Pairwise p:=by
 unfold Xb;split
 ·exact .nil
 ·split
  ·exact Qpq _ _
  ·exact .nil
theorem IY (h:∀g∈P.progs,∀v,m g v=0->m g (nm g v)=0){g:PG}(hd:g.ops.Pairwise λa b=>a.num<b.num)(hu:∀o∈g.ops,UO P o){v:V}(hv:Ho m P g v=0):Ho m P g (YL nm P g v)=0:=by
 obtain⟨⟨s1,s2,s3⟩,tT,cX⟩:=WT.1 hv;have uniq:∀ {a b:Int×V},a∈v.slots->b∈v.slots->a.1=b.1->a=b:=by
  intro a b ha hb e;obtain⟨i,hi,rfl⟩:=Qpv ha;obtain⟨j,hj,rfl⟩:=Qpv hb;rw[Qpr]at s2;rcases Nat.lt_trichotomy i j with c|c|c
  ·have:=s2 i j hi hj c;rw[e]at this;simp at this
  ·subst c;rfl
  ·have:=s2 j i hj hi c;rw[e]at this;simp at this
 refine WT.2 ⟨⟨λx hx=>?_,?_,?_⟩,?_,λx hx=>?_⟩
 ·obtain⟨o,ho,hx⟩:=QnX.1 hx;obtain⟨e,s,hs,e1,e2⟩:=XU hx;obtain⟨o',h1,h2⟩:=s1 s hs;rw[e1,XX hd ho]at h1;cases h1;exact⟨o,by rw[e];exact XX hd ho,by rw[e2];exact QaY h (hu o ho) h2⟩
 ·show(g.ops.flatMap (Xb nm P v.slots)).Pairwise _;rw[Qpx];refine⟨λ_ _=>GK,hd.imp λ{a b} dE x hx y hy=>?_⟩;have e1:=(XU hx).1;have e2:=(XU hy).1;simp;omega
 ·show(g.ops.flatMap (Xb nm P v.slots)).Pairwise _;rw[Qpx];refine⟨λ_ _=>GK,(hd.imp_of_mem λ{a b} ha hb dE x hx y hy o ho=>?_)⟩;obtain⟨e1,s,hs,es,_⟩:=XU hx;obtain⟨e2,t,ht,et,_⟩:=XU hy;rw[e2,XX hd hb]at ho;cases ho;have ay:s≠t:=λe=>by rw[e,et]at es;omega
  obtain⟨i,hi,rfl⟩:=Qpv hs;obtain⟨j,hj,rfl⟩:=Qpv ht;rw[Qpr]at s3;have bE:Xd g x.1=some a:=by rw[e1];exact XX hd ha
  unfold We;rw[bE];rcases Nat.lt_trichotomy i j with c|c|c
  ·have:=s3 i j hi hj c b (by rw[et];exact XX hd hb);unfold We at this;rw[es,XX hd ha]at this;exact this
  ·subst c;exact absurd rfl ay
  ·have:=s3 j i hj hi c a (by rw[es];exact XX hd ha);unfold We at this;rw[et,XX hd hb]at this;simp only[Qon,Qpj,bne_eq_false_iff_eq,Qo2]at this |-;rcases this with e|e
   ·by_cases c:b.union = -1
    ·exact .inl c
    ·exact .inr λg=>c ψ
   ·exact .inr λg=>e g.symm
 ·have hm:=tT;rw[SS,List.any_eq_false]at hm |-;intro o ho;have:=hm o ho;unfold DQ at this |-;by_cases hc:o.card=1
  ·have hb:(o.card==1)=true:=Ļ
   rw[hb,QoW,Qpl,Bool.not_eq_false']at this;rw[hb,QoW,Qpl,Bool.not_eq_false'];obtain⟨s,hs,e⟩:=QoU.1 this;obtain⟨t,ht⟩:∃t,v.slots.find? (λs=>s.1==o.num)=some t:=by
    cases hf:v.slots.find? (λs=>s.1==o.num)with
    |none=>exact absurd e (by simpa using Qpb.1 hf s hs)
    |some t=>exact⟨t,rfl⟩
   refine QoU.2 ⟨(o.num,XT nm P o t.2),QnX.2 ⟨o,ho,?_⟩,ό⟩;unfold Xb;rw[ht];dsimp only;rw[Qnj Ļ];simp
  ·have hb:(o.card==1)=false:=Ļ
   rw[hb,QoJ];simp
 ·exact cX x ((QN v.raws).mem_iff.1 hx)
end
def KH {P:PL}(hU:JD P)(hr:XR P):∀(n:Nat) (g:PG),g∈P.progs->∀v:V,XK P n g v=0->XK P n g (nrm P n g v)=0
 |0,_,_,v,h=>by
  unfold XK at h;split at h<;>omega
 |n+1,g,hg,v,h=>by
  have hb:=WT.2 (Jy.1 h).2;refine Jy.2 ⟨⟨rfl,?_⟩,WT.1 (IY (λg hg v h=>KH hU hr n g hg v h) (hr g hg) (hU g hg) hb)⟩;simp[V.oth,oth,nrm,YL,V.kd,V.bits,V.text,V.list,V.pairs,V.slots,V.raws,Zz]
def EW (m:PG->V->Prop)(P:PL)(o:PO)(v:V):Prop:=o.kind=10->m (Qe P o.target) v
def FW (m:PG->V->Prop)(P:PL)(o:PO)(v:V):Prop :=
 if o.card=4 then ∀x∈v.list,EW m P o x
 else if o.card=5 then(∀p∈v.pairs,p.1.kx P o.key/\EW m P o p.2)/\v.pairs.Pairwise λq p=>XJ q.1 p.1=false
 else EW m P o v
def MW (P:PL):Nat->PG->V->Prop
 |0,_,_=>False
 |n+1,g,v=>(∀s∈v.slots,∃o,Xd g s.1=some o/\FW (MW P n) P o s.2)/\v.slots.Pairwise λy x=>(y.1==x.1)=false
def AN {m:PG->V->Int}{w:PG->V->Prop}(h:∀g v,m g v=0->w g v){P:PL}{o:PO}{v:V}(he:QS m P o v=0):EW w P o v:=by
 intro hk;unfold QS at he;rw[Qnj hk]at he;exact h _ _ he
def Qhq {m:PG->V->Int}{w:PG->V->Prop}(h:∀g v,m g v=0->w g v){P:PL}{o:PO}{v:V}(he:XC m P o v=0):FW w P o v:=by
 unfold XC at he;unfold FW;by_cases h4:o.card=4
 ·rw[Qni ψ,Qnj h4]at he;rw[Qnj h4];split at he
  ·omega
  exactλx hx=>AN h (Km.1 he x hx)
 ·rw[Qni h4];by_cases h5:o.card=5
  ·rw[Qnj h5]at he;rw[Qnj h5];split at he
   ·omega
   have hE:=KR.1 he;exact⟨λp hp=>⟨AK (hE.1 p hp).1,AN h (hE.1 p hp).2⟩,hE.2⟩
  ·rw[Qni h5,Qni h4]at he;rw[Qni h5];exact AN h he
def Un {P:PL}:∀(n:Nat) (g:PG) (v:V),XK P n g v=0->MW P n g v
 |0,g,v,h=>by
  unfold XK at h;split at h<;>omega
 |n+1,g,v,h=>by
  obtain⟨_,⟨s1,s2,_⟩,_,_⟩:=Jy.1 h;refine⟨λs hs=>?_,s2⟩;obtain⟨o,ho,hf⟩:=s1 s hs;exact⟨o,ho,Qhq (Un n) hf⟩
def Qd4 {P:PL}{o:PO}(ho:o.card=5->XS o.key)(h5:o.card=5){ps:List (V×V)}(h:∀p∈ps,p.1.kx P o.key):∀p∈ps,p.1.nsc=p.1:=by
 intro p hp;have e:=(h p hp).1;refine Pt ?_;have:=ho h5;unfold XS at this;omega
end Va
namespace Va
open Go Am Rc Bt Vp
def bl (l:List UInt8):List AV:=l.map λb=>.int .u8 (b.toNat:Int)
def Cv (a b:List UInt8):bl (a++b)=bl a++bl b:=by simp[bl]
def Cw (a:List UInt8):(bl a).length=a.length:=by simp[bl]
def Uo (l:List UInt8):bytesOf (bl l)=some l:=by
 induction l with
 |nil=>rfl
 |cons b l ih=>
  show(bytesOf (bl l)).map _=_;rw[ih];simp
def Qhr (u:Nat):(u:Int).fdiv (2 ^ min 7 64)=((u / 128:Nat):Int):=by
 rw[show min 7 64=7 from rfl,Qpy _ (show(0:Int)<=2 ^ 7 by decide)];omega
def Qhs (u:Nat):bits .or .u8 (IntKind.u8.wrap (u:Int)) 128=((UInt8.ofNat (u % 128+128)).toNat:Int):=by
 rw[wu8];have h:∀n:Fin 256,bits .or .u8 ((n.val:Nat):Int) 128=((n.val % 128+128:Nat):Int):=by decide +kernel
 have:=h ⟨u % 256,ψ⟩;simp only at this;rw[show((u:Int) % 256)=((u % 256:Nat):Int)by omega,this,toNat_ofNat _ ψ];omega
def Qks (u:Nat)(h:u<128):IntKind.u8.wrap (u:Int)=((UInt8.ofNat u).toNat:Int):=by
 rw[wu8,toNat_ofNat _ ψ];omega
def Qkt (u0:Nat)(k:Nat)(st:St):Prop :=
 ∃f fr u g j l,st=⟨f,[fr],[]⟩/\k=u/\f 0=.int .u64 (u:Nat)/\f 3=.vec 0 3 g 0 l.length false/\fr 3=.vec g 1 (bl l)/\u<DH (9-j)/\l.length+j=9/\l++Wa j u=Vp.put u0
def AO (u:Nat)(hu:u<18446744073709551616):Qi prog 227 [.int .u64 u] (.str (Vp.put u)):=by
 refine wF func227 ?_;simp only[eK,f227,seval];simp only[KW,seval];refine ZW rfl rfl ?_;simp only[KW,seval];refine Qj (Qkt u) u ⟨_,_,u,1,9,[],rfl,rfl,rfl,rfl,rfl,hu,rfl,rfl⟩ ?_;rintro n st ⟨f,fr,v,g,j,l,rfl,rfl,h0,h3,hv,aa,hj,hl⟩;simp only[h0,KW,seval];refine Q4 (λh=>?_) (λh=>?_)
 ·have h:128<=n:=by(have h:(128:Int)<=n:=ϡ);omega
  obtain⟨j,rfl⟩:∃i,j=i+1:=⟨j-1,by
   rcases Qn0 j with rfl|hp
   ·simp[DH]at aa;omega
   ·omega⟩
  simp only[h0,h3,KW,seval];refine V9 rfl ?_;refine QP rfl hv rfl (Cw l).symm rfl rfl Δ Ϗ ?_;simp only[h0,Qhr,Qhs,KW,seval];refine⟨n / 128,ψ,_,_,n / 128,g+1,j,l++[UInt8.ofNat (n % 128+128)],rfl,rfl,rfl,?_,?_,?_,?_,?_⟩
  ·simp only[QnP,Qnq,Qn7,KW,seval]
  ·simp only[Q6,Cv]<;>rfl
  ·have:=Co (9-(j+1)) n ψ aa
   rwa [show 9-(j+1)+1=9-j by omega]at this
  ·simp;omega
  ·rw[<-hl,GA j n ψ];simp
 ·have h:n<128:=by(have h:(n:Int)<128:=ϡ);omega
  simp only[h0,h3,KW,seval];refine V9 rfl ?_;refine QP rfl hv rfl (Cw l).symm rfl rfl Δ Ϗ ?_;have he:=Hd (m:=[]) (fr:=QL fr 3 (.vec (g+1) 1 (bl l++[.int .u8 ((UInt8.ofNat n).toNat:Int)]))) (site:=3) (g:=g+1) (sz:=1) (n:=l.length+(0+1)) (q:=false) rfl (by simp[bl]);have hb:bytesOf (bl l++[.int .u8 ((UInt8.ofNat n).toNat:Int)])=some (l++[UInt8.ofNat n]):=by
   have:=Uo (l++[UInt8.ofNat n])
   rwa [Cv]at this
  simp only[Qks n h,he,hb,KW,seval];rw[<-hl,KD j n h]
def tk (r:Nat×Nat×Nat):AV:=.tup [.int .u64 (r.1:Nat),.int .i64 (r.2.1:Nat),.int .i64 (r.2.2:Nat)]
def Qf1:tk (0,0,4)=.tup [.int .u64 0,.int .i64 0,.int .i64 4]:=rfl
def Qf2:tk (0,0,6)=.tup [.int .u64 0,.int .i64 0,.int .i64 6]:=rfl
def Qcb (v n:Nat):tk (v,n,0)=.tup [.int .u64 (v:Nat),.int .i64 (n:Nat),.int .i64 0]:=rfl
def IZ (c:UInt8):bits .and .u8 (c.toNat:Int) 127=((c.toNat % 128:Nat):Int):=by
 have h:∀n:Fin 256,bits .and .u8 ((n.val:Nat):Int) 127=((n.val % 128:Nat):Int):=by decide +kernel
 exact h ⟨c.toNat,c.toNat_lt⟩
def Pu (i:Nat):128 ^ i=2 ^ (7*i):=by rw[Nat.pow_mul]
def Cx (acc d i:Nat)(hi:i<=9)(ha:acc<128 ^ i)(hd:d<128)(h9:i=9->d<=1) :
  bits .or .u64 (acc:Int) (IntKind.u64.wrap (IntKind.u64.wrap (d:Int)*2 ^ min (IntKind.i64.wrap (7*(i:Int))).toNat 64))=((acc+d*128 ^ i:Nat):Int):=by
 have e1:IntKind.i64.wrap (7*(i:Int))=((7*i:Nat):Int):=ϐ
 have hb:d*128 ^ i<18446744073709551616:=by
  rcases Nat.lt_or_ge i 9 with h|h
  ·have h1:128 ^ i<=128 ^ 8:=Nat.pow_le_pow_right ψ ψ
   calc d*128 ^ i<=127*128 ^ 8:=Nat.mul_le_mul ψ h1
    _<_:=ϊ
  ·have:i=9:=ψ
   subst this
   calc d*128 ^ 9<=1*128 ^ 9:=Nat.mul_le_mul (h9 rfl) (Qm8 _)
    _<_:=ϊ
 have kY:acc<18446744073709551616:=by
  refine Nat.lt_of_lt_of_le ha ?_
  calc 128 ^ i<=128 ^ 9:=Nat.pow_le_pow_right ψ hi
   _<=_:=ϊ
 have e2:IntKind.u64.wrap (d:Int)=(d:Int):=Ă
 have e3:IntKind.u64.wrap ((d:Int)*2 ^ (7*i))=((d*128 ^ i:Nat):Int):=by
  rw[Jl,Pu];have:((d*2 ^ (7*i):Nat):Int)=(d:Int)*2 ^ (7*i):=by push_cast;rfl
  rw[<-this];rw[Pu]at hb;omega
 rw[e1,QoF,Qot ψ,e2,e3,IA _ _ kY hb];congr 1
 rw[Pu]at ha |-;have:=Nat.two_pow_add_eq_or_of_lt ha d;rw[Nat.or_comm,Nat.mul_comm d,<-this,Nat.add_comm]
def QaZ {acc d i:Nat}(ha:acc<128 ^ i)(hd:d<128):acc+d*128 ^ i<128 ^ (i+1):=by
 have:d*128 ^ i<=127*128 ^ i:=Qoi _ ψ;rw[Qpi];omega
def Pv {l t:List UInt8}{c:UInt8}{i:Nat}(h:l.drop i=c :: t):l[i]? = some c/\l.drop (i+1)=t/\i<l.length:=by
 have hi:i<l.length:=by
  rcases Nat.lt_or_ge i l.length with h'|h'
  ·exact h'
  ·rw[QnO h']at h;cases h
 rw[QnU hi]at h
 injection h with h1 h2
 exact⟨by rw[Qnb hi,h1],h2,hi⟩
def Qht (s:List UInt8)(k:Nat)(st:St):Prop :=
 ∃f i acc,st=⟨f,[Qb],[]⟩/\k=s.length-i/\f 0=.str s/\f 5=.int .u64 (acc:Nat)/\f 6=.int .i64 (i:Nat)/\i<=s.length/\i<=9/\acc<128 ^ i/\JC i acc (s.drop i)=Vp.take s
def Qku (s:List UInt8):Qi prog 324 [.str s] (tk (Vp.take s)):=by
 refine wF func324 ?_;simp only[eK,f324,seval];simp only[KW,seval];refine Qj (Qht s) _ ⟨_,0,0,rfl,rfl,rfl,rfl,rfl,Qnk _,Qnk _,ϊ,rfl⟩ ?_;rintro n st ⟨f,i,acc,rfl,rfl,h0,h5,h6,bg,hi,ha,hv⟩;simp only[h0,h6,KW,seval];refine Q4 (λh=>?_) (λh=>?_)
 ·have h:i=s.length:=by(have h:(i:Int)=s.length:=ϡ);omega
  rw[QnO ψ]at hv;simp only[<-hv,JC,Qf1,KW,seval]
 ·have h:i<s.length:=by(have h:¬(i:Int)=s.length:=ϡ);omega
  obtain⟨c,t,hc⟩:∃c t,s.drop i=c :: t:=by
   cases hd:s.drop i with
   |nil=>have:=congrArg List.length hd;simp at this;omega
   |cons c t=>exact⟨c,t,rfl⟩
  obtain⟨g1,g2,_⟩:=Pv hc;rw[hc]at hv;have n0:(0<=(i:Int))=True:=ό
  have e7:IntKind.i64.wrap (7*(i:Int))=((7*i:Nat):Int):=ϐ
  have n7:(0<=IntKind.i64.wrap (7*(i:Int)))=True:=eq_true (by rw[e7];omega);have e1:IntKind.i64.wrap ((i:Int)+1)=((i+1:Nat):Int):=ϐ
  rw[JC]at hv;simp only[h0,h6,n0,g1,QoF,KW,seval];by_cases h9:i=9
  ·have e9:((i:Int)==9)=true:=Ϗ
   simp only[e9,KW,seval];refine Q4 (λao=>?_) (λao=>?_)
   ·have ao:1<c.toNat:=by(have ao:(1:Int)<c.toNat:=(by simpa using ao));omega
    rw[Qnj ⟨h9,ao⟩]at hv;simp only[<-hv,Qf2,KW,seval]
   ·have ao:c.toNat<=1:=by(have ao:(c.toNat:Int)<=1:=(by simpa using ao));omega
    have iz:¬(i=9/\1<c.toNat):=ψ
    rw[Qni iz]at hv;have hd:=Cx acc (c.toNat % 128) i hi ha ψ (λ_=>ψ);simp only[IZ,n7,hd,e1,h5,h6,KW,seval];refine Q4 (λaa=>?_) (λaa=>?_)
    ·have aa:c.toNat<128:=ψ
     exact ο
    ·exfalso;have aa:(128:Int)<=c.toNat:=ô
     omega
  ·have iz:¬(i=9/\1<c.toNat):=ψ
   rw[Qni iz]at hv;have e9:((i:Int)==9)=false:=Ϗ
   have hd:=Cx acc (c.toNat % 128) i hi ha ψ (λe=>absurd e h9);simp only[e9,IZ,n7,hd,e1,h5,h6,KW,seval];refine Q4 (λaa=>?_) (λaa=>?_)
   ·have aa:c.toNat<128:=by(have aa:(c.toNat:Int)<128:=ô);omega
    exact ο
   ·have aa:128<=c.toNat:=by(have aa:(128:Int)<=c.toNat:=ô);omega
    rw[Qni ψ]at hv;simp only[KW,seval];refine⟨s.length-(i+1),ψ,_,i+1,acc+c.toNat % 128*128 ^ i,rfl,rfl,?_,?_,?_,ψ,ψ,QaZ ha ψ,?_⟩
    ·simp only[h0,KW,seval]
    ·simp only[KW,seval]
    ·simp only[KW,seval]
    ·rw[g2,<-hv];have:=c.toNat_lt;rw[show c.toNat % 128=c.toNat-128 by omega]
open Cp
def Qa0 (c:C):Qi prog 278 [c.av] (.bool c.sound):=by
 refine wF func278 ?_;simp only[eK,f278,seval];simp only[C.av,eE,seval]
 repeat' (first|(refine Q4 (λh=>?_) (λh=>?_)<;>simp only[h,eE,seval])|(refine Zb (λh=>?_) (λh=>?_)<;>simp only[h,Ql,eE,seval])|(refine Zc (λh=>?_) (λh=>?_)<;>simp only[h,Ql,eE,seval]))
 all_goals(simp_all[C.sound]<;>omega)
def AP (c:C)(n:Int):Qi prog 326 [c.av,.int .i64 n] (c.ahead n).av:=by
 refine wF func326 ?_;simp only[eK,f326,seval];simp only[C.av,C.ahead,eE,seval]
def Qkv (s:List UInt8)(l:L):Qi prog 127 [.str s,l.av] (HS (opn s l)):=by
 refine wF func127 ?_;simp only[eK,f127,seval];simp only[L.av,eE,seval]
 repeat' (first|(refine Q4 (λh=>?_) (λh=>?_)<;>simp only[h,eE,seval])|(refine Zb (λh=>?_) (λh=>?_)<;>simp only[h,Ql,eE,seval])|(refine Zc (λh=>?_) (λh=>?_)<;>simp only[h,Ql,eE,seval]))
 all_goals((try simp only[Qnf,Qpf]at *)<;>unfold opn<;>(repeat' split)<;>first|rfl|(exfalso;omega))
def Qf3 (c:C)(n:Int):Qi prog 215 [c.av,.int .i64 n] (HS (c.spend n)):=by
 refine wF func215 ?_;simp only[eK,f215,seval];simp only[C.av,eE,seval]
 repeat' (first|(refine Q4 (λh=>?_) (λh=>?_)<;>simp only[h,eE,seval])|(refine Zb (λh=>?_) (λh=>?_)<;>simp only[h,Ql,eE,seval])|(refine Zc (λh=>?_) (λh=>?_)<;>simp only[h,Ql,eE,seval]))
 all_goals((try simp only[Qnf,Qpf]at *)<;>unfold C.spend<;>(repeat' split)<;>first|rfl|(exfalso;omega))
def DS (c:C)(hl:c.d.length<=9223372036854775807):Qi prog 216 [c.av] (.int .i64 c.left):=by
 refine wF func216 ?_;simp only[eK,f216,seval];simp only[C.av,eE,seval];refine aC (Qa0 c) ?_;have hr:=c.rest_len;cases hs:c.sound with
 |false=>
  rw[hs,Qni ό]at hr;simp only[Qok,hr,Qa,seval]
 |true=>
  rw[hs,Qnj rfl]at hr;have h:=(C.sound_iff c).1 hs;have e1:IntKind.i64.wrap (c.e-c.a)=c.e-c.a:=ϐ
  simp only[QoX,hr,e1,eE,seval]
def Qf4 (c:C)(n:Nat)(hn:n<=1000)(hl:c.d.length<=9223372036854770000):Qi prog 325 [c.av,.int .i64 (n:Int)] (.str (c.rest.take n)):=by
 refine wF func325 ?_;simp only[eK,f325,seval];simp only[C.av,eE,seval];refine aC (Qa0 c) ?_;cases hs:c.sound with
 |false=>
  simp only[Qok,C.rest_no hs,Qa,seval]
 |true=>
  have h:=(C.sound_iff c).1 hs;have e1:IntKind.i64.wrap (c.a+n)=c.a+n:=ϐ
  have hh:=C.head_of hs n _ rfl;generalize hk:(if c.a+n<c.e then c.a+n else c.e)=k at hh;have pW:c.a<=k/\k<=c.e:=by split at hk<;>omega
  have n1:(0<=c.a)=True:=eq_true h.1;have n2:(0<=k)=True:=eq_true ψ;have n3:(c.a.toNat<=k.toNat/\k.toNat<=c.d.length)=True:=eq_true ψ;simp only[QoX,e1,hk,n1,n2,n3,hh,eE,seval]
def VN (c:C)(hl:c.d.length<=9223372036854770000):Qi prog 279 [c.av] (WS c.varint):=by
 refine wF func279 ?_;simp only[eK,f279,seval];simp only[C.av,eE,seval];refine aC (Qf4 c 10 ψ hl) ?_;refine aC (Qku (c.rest.take 10)) ?_;rw[take_take];unfold C.varint;generalize Vp.take c.rest=r;obtain⟨u,n,e⟩:=r;simp only[tk,Qa,seval];refine Q4 (λh=>?_) (λh=>?_)
 ·have h:¬e=0:=ϡ
  simp only[h,WS,C.av,eE,seval]
  try rfl
 ·have h:e=0:=ϡ
  subst h;simp only[eE,seval];refine aC (AP c (n:Int)) ?_;simp only[WS,C.av,C.ahead,eE,seval]
  try rfl
def Xj {a:Nat}(h:¬a=0):((a:Int) != 0)=true:=Ĺ
def fx:Nat->Nat->List UInt8
 |0,_=>[]
 |k+1,u=>UInt8.ofNat (u % 256) :: fx k (u / 256)
def Z6 (k u:Nat):(fx k u).length=k:=by
 induction k generalizing u with
 |zero=>rfl
 |succ k ih=>simp[fx,ih]
def Qd5 (k u:Nat):fx (k+1) u=fx k u++[UInt8.ofNat (u / 256 ^ k % 256)]:=by
 induction k generalizing u with
 |zero=>simp[fx]
 |succ k ih=>
  rw[fx,ih (u / 256)];simp only[fx,Qnx,Nat.div_div_eq_div_mul,Qpi,Nat.mul_comm]
def SX:∀(k u:Nat),u<256 ^ k->(fx k u).foldr (λb v=>256*v+b.toNat) 0=u
 |0,u,h=>by simp at h;simp[fx,h]
 |k+1,u,h=>by
  rw[fx,List.foldr_cons,SX k (u / 256) (by rw[Qpi]at h;omega),toNat_ofNat _ ψ];omega
def SY (u:Nat)(t:List UInt8)(h:u<2 ^ 64):UN (fx 8 u++t)=u:=by
 unfold UN;rw[List.take_left' (Z6 8 u)];exact SX 8 u (Nat.lt_of_lt_of_eq h ϊ)
def DT (s:List UInt8):Nat->Nat
 |0=>0
 |k+1=>DT s k+((s[k]?).getD 0).toNat*256 ^ k
def I0 (s:List UInt8)(k:Nat):DT s k<256 ^ k:=by
 induction k with
 |zero=>exact Nat.one_pos
 |succ k ih=>
  have h1:=((s[k]?).getD 0).toNat_lt;have h2:((s[k]?).getD 0).toNat*256 ^ k<=255*256 ^ k:=Qoi _ ψ;rw[DT,Qpi];omega
def Cy (b:UInt8):∀(l:List UInt8) (z:Nat),l.foldr (λb v=>256*v+b.toNat) z=l.foldr (λb v=>256*v+b.toNat) 0+z*256 ^ l.length
 | [],z=>ό
 |a :: l,z=>by
  rw[List.foldr_cons,List.foldr_cons,Cy b l z,Qnq,Qpi];rw[Nat.mul_add,<-Nat.mul_assoc,Nat.mul_comm 256 z,Nat.mul_assoc z,Nat.mul_comm 256 (256 ^ _)];omega
def Pw (s:List UInt8):∀(k:Nat),k<=s.length->(s.take k).foldr (λb v=>256*v+b.toNat) 0=DT s k
 |0,_=>rfl
 |k+1,h=>by
  rw[Qnv ψ,List.foldr_append,List.foldr_cons,List.foldr_nil,Cy 0,Pw s k ψ,DT];rw[Qnb ψ,Qn8,Qot ψ];simp
def Qa1 (s:List UInt8)(h:8<=s.length):UN s=DT s 8:=Pw s 8 h
def AQ (s:List UInt8)(k:Nat)(st:St):Prop :=
 ∃f i,st=⟨f,[Qb],[]⟩/\k=8-i/\i<=8/\f 0=.str s/\f 4=.int .u64 (DT s i:Nat)/\f 9=.int .i64 (i:Nat)
def Qa2 (s:List UInt8)(i:Nat)(c:UInt8)(hi:i<8)(hc:s[i]? = some c) :
  bits .or .u64 (DT s i:Int) (IntKind.u64.wrap (IntKind.u64.wrap (c.toNat:Int)*2 ^ min (IntKind.i64.wrap (8*(i:Int))).toNat 64))=(DT s (i+1):Nat):=by
 have e1:IntKind.i64.wrap (8*(i:Int))=((8*i:Nat):Int):=ϐ
 have hp:256 ^ i=2 ^ (8*i):=by rw[Nat.pow_mul]
 have aM:=c.toNat_lt;have aa:=I0 s (i+1);have pf:=I0 s i;rw[DT,hc]at aa;simp only[Qon]at aa;have h8:256 ^ (i+1)<=256 ^ 8:=Nat.pow_le_pow_right ψ ψ;have h88:(256:Nat) ^ 8=18446744073709551616:=ϊ
 have e2:IntKind.u64.wrap (c.toNat:Int)=(c.toNat:Int):=Ă
 have e3:IntKind.u64.wrap ((c.toNat:Int)*2 ^ (8*i))=((c.toNat*256 ^ i:Nat):Int):=by
  have:((c.toNat*2 ^ (8*i):Nat):Int)=(c.toNat:Int)*2 ^ (8*i):=by push_cast;rfl
  rw[Jl,<-this,hp];rw[hp]at aa;omega
 rw[e1,QoF,Qot ψ,e2,e3,IA _ _ ψ ψ,DT,hc];congr 1
 rw[hp]at pf |-;have:=Nat.two_pow_add_eq_or_of_lt pf c.toNat;simp only[Qon];rw[Nat.or_comm,Nat.mul_comm c.toNat,<-this,Nat.add_comm]
def I3 (s:List UInt8):AV:=if s.length<8 then .tup [.int .u64 0,.int .i64 4]else .tup [.int .u64 (UN s:Nat),.int .i64 0]
def Qf5 (s:List UInt8):Qi prog 364 [.str s] (I3 s):=by
 refine wF func364 ?_;simp only[eK,f364,seval];simp only[Qa,seval];refine Q4 (λh=>?_) (λh=>?_)
 ·have h:s.length<8:=by(have h:(s.length:Int)<8:=ϡ);omega
  simp only[I3,h,Qa,seval]
 ·have h:¬s.length<8:=by(have h:¬(s.length:Int)<8:=ϡ);omega
  simp only[Qa,seval];refine Qj (AQ s) _ ⟨_,0,rfl,rfl,ψ,rfl,rfl,rfl⟩ ?_;rintro n st ⟨f,i,rfl,rfl,hi,h0,h4,h9⟩;simp only[h9,Qa,seval];refine Q4 (λhc=>?_) (λhc=>?_)
  ·have hc:i<8:=by(have hc:(i:Int)<8:=Ņ);omega
   have n0:(0<=(i:Int))=True:=ό
   obtain⟨b,hb⟩:∃b,s[i]? = some b:=⟨s[i],Qnb ψ⟩;have e1:IntKind.i64.wrap ((i:Int)+1)=((i+1:Nat):Int):=ϐ
   have e0:IntKind.i64.wrap (8*(i:Int))=((8*i:Nat):Int):=ϐ
   have n8:(0<=IntKind.i64.wrap (8*(i:Int)))=True:=eq_true (by rw[e0];omega);have ha:=Qa2 s i b hc hb;simp only[n0,QoF,hb,n8,ha,e1,h0,h4,h9,Qa,seval];exact⟨8-(i+1),ψ,_,i+1,rfl,rfl,ψ,by simp only[h0,Qa,seval],ϋ,ϋ⟩
  ·have hc:i=8:=by(have hc:¬(i:Int)<8:=Ņ);omega
   subst hc;simp only[h4,Qa,seval];rw[I3,Qni h,Qa1 s ψ]
def Qf6 (c:C)(hl:c.d.length<=9223372036854770000):Qi prog 338 [c.av] (WS c.fixed):=by
 refine wF func338 ?_;simp only[eK,f338,seval];simp only[C.av,eE,seval];refine aC (Qf4 c 8 ψ hl) ?_;have h8:UN (c.rest.take 8)=UN c.rest:=by simp[UN,Qos]
 have hlen:(c.rest.take 8).length<8↔c.rest.length<8:=Ϗ
 by_cases h:c.rest.length<8
 ·have ht:=Qf5 (c.rest.take 8);rw[I3,Qnj (hlen.2 h)]at ht;refine aC ht ?_;simp only[show(((4:Int) != 0)=true)from rfl,C.fixed,WS,h,C.av,eE,seval]
  try rfl
 ·have ht:=Qf5 (c.rest.take 8);rw[I3,Qni (λh'=>h (hlen.1 h')),h8]at ht;refine aC ht ?_;simp only[bne_self_eq_false,eE,seval];refine aC (AP c 8) ?_;simp only[WS,C.fixed,h,C.av,C.ahead,eE,seval]
  try rfl
def Px:∀(l:List UInt8),l.foldr (λb v=>256*v+b.toNat) 0<256 ^ l.length
 | []=>ό
 |b :: l=>by
  have h:=Px l;have hb:=b.toNat_lt;rw[List.foldr_cons,Qnq,Qpi];omega
def inR (n:Int):Prop:=-9223372036854775808<=n/\n<9223372036854775808
def ZD (c:C):Int×C×Nat:=match c.rest with
 | []=>(0,c,4)
 |b :: _=>((b.toNat:Int),c.ahead 1,0)
def AR (r:Int×C×Nat):AV:=.tup [.int .u8 r.1,r.2.1.av,.int .i64 (r.2.2:Nat)]
def text (c:C)(n:Int):List UInt8×C×Nat :=
 if n<0 then([],c,1)else if c.left<n then([],c,4)else if c.tx<n then([],c,3)else(c.rest.take n.toNat,c.ahead n,0)
def AS (r:List UInt8×C×Nat):AV:=.tup [.str r.1,r.2.1.av,.int .i64 (r.2.2:Nat)]
def enter (c:C)(n:Int):C×Nat :=
 if n<0 then(c,1)else if c.left<n then(c,4)else if c.dp<1 then(c,17)else({ c with e:=IntKind.i64.wrap (c.a+n),dp:=IntKind.i64.wrap (c.dp-1) },0)
def Yp (c i:C):C :=
 if ¬c.sound=true\/i.e<c.a\/c.e<i.e\/i.nd<0\/c.nd<i.nd then c else { c with a:=i.e,nd:=i.nd }
def CA {c:C}{b:UInt8}{t:List UInt8}(h:c.rest=b :: t):c.sound=true/\0<=c.a/\c.d[c.a.toNat]? = some b/\1<=c.left:=by
 have hs:c.sound=true:=by
  cases hs:c.sound with
  |true=>rfl
  |false=>rw[C.rest_no hs]at h;cases h
 have hh:=(C.sound_iff c).1 hs;rw[C.rest_of hs]at h;have h0:=congrArg (λl=>l[0]?) h;simp only[QnQ,QnR,Qoe,QnI]at h0;have hl:=congrArg List.length h;simp only[Qn8,QnS,Qnq]at hl;refine⟨hs,hh.1,?_,?_⟩
 ·split at h0
  ·exact h0
  ·cases h0
 ·have:=c.rest_len;rw[Qnj hs]at this;omega
def Qkw (c:C)(hl:c.d.length<=9223372036854775807):Qi prog 332 [c.av] (AR (ZD c)):=by
 refine wF func332 ?_;simp only[eK,f332,seval];simp only[C.av,eE,seval];refine aC (DS c hl) ?_;unfold ZD;cases hr:c.rest with
 |nil=>
  have h0:c.left=0:=by unfold C.left;rw[hr]<;>rfl
  have d0:decide (c.left<1)=true:=by rw[h0]<;>rfl
  simp only[d0,AR,C.av,eE,seval]
  try rfl
 |cons b t=>
  obtain⟨h1,h2,h3,h4⟩:=CA hr;have d0:decide (c.left<1)=false:=Ϗ
  have n1:(0<=c.a)=True:=eq_true h2;simp only[d0,n1,h3,eE,seval];refine aC (AP c 1) ?_;simp only[AR,C.av,C.ahead,eE,seval]
  try rfl
def Qkx (c:C)(n:Nat)(hs:c.sound=true)(hn:(n:Int)<=c.left)(hl:c.d.length<=9223372036854775807):Qi prog 376 [c.av,.int .i64 (n:Int)] (.list (Qy (c.rest.take n))):=by
 have h:=(C.sound_iff c).1 hs;have hr:=c.rest_len;rw[Qnj hs]at hr;have e1:IntKind.i64.wrap (c.a+n)=c.a+n:=ϐ
 have n1:(0<=c.a)=True:=eq_true h.1;have n2:(0<=c.a+(n:Int))=True:=eq_true ψ;have n3:(c.a.toNat<=(c.a+(n:Int)).toNat/\(c.a+(n:Int)).toNat<=c.d.length)=True:=eq_true ψ;have n0:(0<=(n:Int))=True:=ό
 have ht:(c.d.drop c.a.toNat).take ((c.a+(n:Int)).toNat-c.a.toNat)=c.rest.take n:=by
  rw[C.rest_of hs,Qos];congr 1
  omega
 have hlen:(c.rest.take n).length=n:=by
  have:(c.rest.length:Int)=c.left:=rfl;rw[Qn8];omega
 refine wF func376 ?_;simp only[eK,f376,seval];simp only[e1,n1,n2,n3,ht,C.av,eE,seval];refine Qar rfl (by rw[hlen];omega) rfl ?_;have hb:(Qy (c.rest.take n)).length=n:=by rw[Qy,Qn6,hlen]
 have n4:(0+0+(n-0)<=(Qy (c.rest.take n)).length)=True:=eq_true (by rw[hb];omega);have n5:(n<=n)=True:=eq_true (Qm8 n);have n6:(0<=n)=True:=eq_true (Qnk n);have h5:((Qy (c.rest.take n)).drop (0+0)).take (n-0)=Qy (c.rest.take n):=by
  simp only[QnI,QnT,Qoa];exact QnL (by rw[hb];exact Qm8 _)
 simp only[n0,n4,n5,n6,hlen,QoF,Qo9,Qph,bne_self_eq_false,eE,seval];rw[QnL (by rw[hb];omega)]
def Qky (c:C)(n:Int)(ha:inR c.a)(hl:c.d.length<=9223372036854775807):Qi prog 362 [c.av,.int .i64 n] (AS (text c n)):=by
 refine wF func362 ?_;simp only[eK,f362,seval];simp only[C.av,eE,seval];by_cases h1:n<0
 ·have d1:decide (n<0)=true:=Ϭ
  simp only[d1,eE,seval];rw[text,Qnj h1];rfl
 ·have d1:decide (n<0)=false:=Ϭ
  simp only[d1,eE,seval];refine aC (DS c hl) ?_;by_cases h2:c.left<n
  ·have d2:decide (c.left<n)=true:=ϭ
   simp only[d2,eE,seval];rw[text,Qni h1,Qnj h2];rfl
  ·have d2:decide (c.left<n)=false:=ϭ
   by_cases h3:c.tx<n
   ·have d3:decide (c.tx<n)=true:=by simpa using h3
    simp only[d2,d3,eE,seval];rw[text,Qni h1,Qni h2,Qnj h3];rfl
   ·have d3:decide (c.tx<n)=false:=by simpa using h3
    by_cases h4:n=0
    ·subst h4;simp only[d2,d3,Qom,eE,seval];rw[text,Qni h1,Qni h2,Qni h3];have e:IntKind.i64.wrap (c.a+0)=c.a:=by rw[QD];unfold inR at ha;omega
     simp only[AS,C.ahead,C.av,e,Int.toNat_zero,Qol];rfl
    ·have d4:(n==0)=false:=by simpa using h4
     simp only[d2,d3,d4,eE,seval];obtain⟨k,rfl⟩:=QoZ (show 0<=n by omega);have hs:c.sound=true:=by
      have hr:=c.rest_len;split at hr
      ·assumption
      ·omega
     refine aC (Qkx c k hs ψ hl) ?_;have hb:=Uo (c.rest.take k);have hb:bytesOf (Qy (c.rest.take k))=some (c.rest.take k):=hb;simp only[Xc,hb,eE,seval];refine aC (AP c (k:Int)) ?_;rw[text,Qni h1,Qni h2,Qni h3];simp only[AS,C.av,C.ahead,QoF,eE,seval]
     try rfl
def Qkz (c:C)(n:Int)(hl:c.d.length<=9223372036854775807):Qi prog 360 [c.av,.int .i64 n] (HS (enter c n)):=by
 refine wF func360 ?_;simp only[eK,f360,seval];simp only[C.av,eE,seval];by_cases h1:n<0
 ·have d1:decide (n<0)=true:=Ϭ
  simp only[d1,eE,seval];rw[enter,Qnj h1];rfl
 ·have d1:decide (n<0)=false:=Ϭ
  simp only[d1,eE,seval];refine aC (DS c hl) ?_;simp only[Qa,seval]
  repeat' (first|(refine Q4 (λh=>?_) (λh=>?_)<;>simp only[h,eE,seval])|(refine Zb (λh=>?_) (λh=>?_)<;>simp only[h,Ql,eE,seval])|(refine Zc (λh=>?_) (λh=>?_)<;>simp only[h,Ql,eE,seval]))
  all_goals((try simp only[Qnf,Qpf]at *)<;>unfold enter<;>(repeat' split)<;>first|rfl|(exfalso;omega))
def QkA (c i:C):Qi prog 361 [c.av,i.av] (Yp c i).av:=by
 refine wF func361 ?_;simp only[eK,f361,seval];simp only[C.av,eE,seval];refine aC (Qa0 c) ?_;unfold Yp;cases hs:c.sound with
 |false=>simp only[Qnu,not_false_eq_true,true_or,eE,seval]
 |true=>
  simp only[eE,seval]
  repeat' (first|(refine Q4 (λh=>?_) (λh=>?_)<;>simp only[h,eE,seval])|(refine Zb (λh=>?_) (λh=>?_)<;>simp only[h,Ql,eE,seval])|(refine Zc (λh=>?_) (λh=>?_)<;>simp only[h,Ql,eE,seval]))
  all_goals((try simp only[Qnf,Qpf]at *)<;>(first|rw[Qni Ϗ]|rw[Qnj Ϗ]))
open Up
def Qf7 (w:Int):Qi prog 226 [.int .i64 w] (.bool (Xx w)):=by
 refine wF func226 ?_;simp only[eK,f226,seval];simp only[Qa,seval]
 repeat' (first|(refine Q4 (λh=>?_) (λh=>?_)<;>simp only[h,eE,seval])|(refine Zb (λh=>?_) (λh=>?_)<;>simp only[h,Ql,eE,seval])|(refine Zc (λh=>?_) (λh=>?_)<;>simp only[h,Ql,Qa,seval]))
 all_goals simp_all[Xx]
def I4 {n w:Int}(h:¬(n<1\/65535<n\/w<0\/6<w)):IntKind.u64.wrap (IntKind.i64.wrap (IntKind.i64.wrap (n*8)+w))=((n*8+w).toNat:Nat)/\(n*8+w).toNat<18446744073709551616:=by
 simp only[Jl,QD];omega
def Qf8 (n w:Int):Qi prog 223 [.int .i64 n,.int .i64 w] (AI (Jd n w)):=by
 refine wF func223 ?_;simp only[eK,f223,seval];simp only[Qa,seval];by_cases hb:n<1\/65535<n\/w<0\/6<w
 ·repeat' (first|(refine Q4 (λh=>?_) (λh=>?_)<;>simp only[h,Qa,seval])|(refine Zb (λh=>?_) (λh=>?_)<;>simp only[h,Ql,eE,seval])|(refine Zc (λh=>?_) (λh=>?_)<;>simp only[h,Ql,Qa,seval]))
  all_goals first
   |(rw[Jd,Qnj hb]<;>rfl)
   |(exfalso;simp only[Qpf]at *;omega)
 ·obtain⟨e1,e2⟩:=I4 hb;have d1:decide (n<1)=false:=Ϗ
  have d2:decide (65535<n)=false:=Ϗ
  have d3:decide (w<0)=false:=Ϗ
  have d4:decide (6<w)=false:=Ϗ
  simp only[d1,d2,d3,d4,e1,Qa,seval];refine aC (AO _ e2) ?_;rw[Jd,Qni hb];simp only[AI,Qa,seval]
  try rfl
def Qa3 {u:Nat}(h:¬(u / 8<1\/65535<u / 8)):IntKind.i64.wrap (IntKind.u64.wrap ((u:Int).tdiv 8))=((u / 8:Nat):Int)/\IntKind.i64.wrap ((u:Int).tmod 8)=((u % 8:Nat):Int):=by
 have e1:(u:Int).tdiv 8=((u / 8:Nat):Int):=ú
 have e2:(u:Int).tmod 8=((u % 8:Nat):Int):=û
 rw[e1,e2];simp only[Jl,QD];omega
def Qa4 (c:C)(hl:c.d.length<=9223372036854770000):Qi prog 217 [c.av] (Cr (Qp c)):=by
 refine wF func217 ?_;simp only[eK,f217,seval];simp only[C.av,eE,seval];refine aC (VN c hl) ?_;have hv:=λh=>Jv (c:=c) ψ h
 unfold Qp;generalize c.varint=r at hv |-;obtain⟨u,d,e⟩:=r;simp only[WS,C.av,eE,seval]at hv |-;refine Q4 (λh=>?_) (λh=>?_)
 ·have h:¬e=0:=ϡ
  simp only[h,Cr,C.av,eE,seval]
 ·have h:e=0:=ϡ
  subst h;obtain⟨n,_,_,_,_,_,_,hu⟩:=hv rfl;have e1:(u:Int).tdiv 8=((u / 8:Nat):Int):=ú
  have e2:(u:Int).tmod 8=((u % 8:Nat):Int):=û
  have e3:IntKind.u64.wrap ((u / 8:Nat):Int)=((u / 8:Nat):Int):=Ă
  simp only[e2,show(((8:Int)=0))=False from ό,Qa,seval];refine Q4 (λh=>?_) (λh=>?_)
  ·have h:u % 8=7:=by(have h:((u % 8:Nat):Int)=7:=ϡ);omega
   simp only[h,Cr,C.av,eE,seval]
   try rfl
  ·have h7:¬u % 8=7:=by(have h:¬((u % 8:Nat):Int)=7:=ϡ);omega
   simp only[e1,e3,show(((8:Int)=0))=False from ό,Qa,seval];by_cases hb:u / 8<1\/65535<u / 8
   ·repeat' (first|(refine Q4 (λh=>?_) (λh=>?_)<;>simp only[h,e1,e2,e3,show(((8:Int)=0))=False from ό,eE,seval])|(refine Zb (λh=>?_) (λh=>?_)<;>simp only[h,Ql,e1,e2,e3,show(((8:Int)=0))=False from ό,if_false,eE,seval])|(refine Zc (λh=>?_) (λh=>?_)<;>simp only[h,Ql,e1,e3,show(((8:Int)=0))=False from ό,eE,seval]))
    all_goals first
     |(simp only[h7,hb,Cr,C.av,seval]<;>rfl)
     |(exfalso;simp only[Qpf]at *;omega)
   ·obtain⟨t1,t2⟩:=Qa3 hb;rw[e1,e3]at t1;rw[e2]at t2;have d1:decide (((u / 8:Nat):Int)<1)=false:=Ϗ
    have d2:decide (65535<((u / 8:Nat):Int))=false:=Ϗ
    simp only[d1,d2,e1,e2,e3,t1,t2,show(((8:Int)=0))=False from ό,eE,seval];simp only[h7,hb,Cr,C.av,seval]
    try rfl
def Qf9 {c d:C}{u:Nat}(hl:c.d.length<=9223372036854770000)(hd:c.varint=(u,d,0))(hu:¬d.left<(u:Int)) :
  d.a+u<=d.d.length/\0<=d.a/\(u:Int)<=9223372036854770000/\d.d.length=c.d.length:=by
 obtain⟨n,h1,h2,h3,h4,h5,h6,h7⟩:=Jv (c:=c) ψ (by rw[hd]);rw[hd]at h4 h6;simp only at h4 h6;have hs:=(C.sound_iff d).1 h6;have hr:=d.rest_len;rw[Qnj h6]at hr;have:d.d=c.d:=by rw[h4]
 have e:d.d.length=c.d.length:=by rw[this]
 omega
def Qd6 {c d:C}{u:Nat}(hl:c.d.length<=9223372036854770000)(hd:c.varint=(u,d,0)):d.d.length<=9223372036854770000:=by
 obtain⟨n,h1,h2,h3,h4,h5,h6,h7⟩:=Jv (c:=c) ψ (by rw[hd]);rw[hd]at h4;simp only at h4;rw[h4];exact hl
def NN (d:C):0<=d.left/\d.left<=(d.d.length:Int):=by
 have hr:=d.rest_len;have hs:=C.sound_iff d;split at hr
 ·rename_i h;have:=hs.1 h;omega
 ·omega
def QkB (c:C)(w:Int)(hl:c.d.length<=9223372036854770000):Qi prog 339 [c.av,.int .i64 w] (DM (Kv c w)):=by
  refine wF func339 ?_;simp only[eK,f339,seval];simp only[C.av,eE,seval];refine aC (VN c hl) ?_;have kH:=λu d h=>Qd6 (c:=c) (d:=d) (u:=u) hl h
  have dJ:=λu d h hu=>Qf9 (c:=c) (d:=d) (u:=u) hl h hu
  unfold Kv;generalize c.varint=r at dJ kH |-;obtain⟨u,d,e⟩:=r;simp only[WS,C.av,eE,seval];refine Q4 (λh=>?_) (λh=>?_)
  · have h:¬e=0:=ϡ
    simp only[h,DM,C.av,eE,seval]
  · have h:e=0:=ϡ
    subst h;have dJ:=dJ u d rfl;have kH:=kH u d rfl;have c_:=NN d;have e0:IntKind.u64.wrap d.left=d.left:=Ă
    by_cases hw:w=3
    all_goals
      first
        |(have dw:(w==3)=true:=by rw[hw]<;>rfl)
        |(have dw:(w==3)=false:=by simpa using hw)
      simp only[dw,eE,seval];refine aC (DS d ψ) ?_;by_cases hu:d.left<(u:Int)
      · have d1:decide (d.left<(u:Int))=true:=by simpa using hu
        simp only[e0,hu,DM,C.av,eE,seval]
        try rfl
      · have d1:decide (d.left<(u:Int))=false:=by simpa using hu
        obtain⟨k1,k2,k3,k4⟩:=dJ hu;have e1:IntKind.i64.wrap (u:Int)=u:=ϐ
        have e2:IntKind.i64.wrap (d.a+(u:Int))=d.a+u:=ϐ
        have n1:(0<=d.a)=True:=eq_true k2;have n2:(0<=d.a+(u:Int))=True:=eq_true ψ;have n3:(d.a.toNat<=(d.a+(u:Int)).toNat/\(d.a+(u:Int)).toNat<=d.d.length)=True:=eq_true ψ;have n4:(d.a+(u:Int)).toNat-d.a.toNat=u:=ψ
        first
          | (rw[Qnj hw]
             by_cases hm:c.tx<(u:Int)
             · have d2:decide (c.tx<(u:Int))=true:=Ģ
               simp only[e0,e1,hu,hm,DM,C.av,eE,seval]
               try rfl
             · have d2:decide (c.tx<(u:Int))=false:=Ģ
               simp only[e0,e1,e2,n1,n2,n3,n4,hu,hm,DM,C.av,C.ahead,eE,seval]
               try rfl)
          | (rw[Qni hw]
             by_cases hm:65536<(u:Int)
             · have d2:decide (65536<(u:Int))=true:=Ģ
               simp only[e0,e1,hu,hm,DM,C.av,eE,seval]
               try rfl
             · have d2:decide (65536<(u:Int))=false:=Ģ
               simp only[e0,e1,e2,n1,n2,n3,n4,hu,hm,DM,C.av,C.ahead,eE,seval]
               try rfl)
def QkC (c:C)(f:R)(s:Nat)(fr:Nat->Ob)(m:Qk)(hs:fr s=.cells f.av.cells)(hl:c.d.length<=9223372036854770000) :
  Qf prog 286 [c.av,.ptr 0 s 0] (fr :: m) λx m1=>x=HS (Zw c f).2/\m1=QL fr s (.cells (Zw c f).1.av.cells) :: m:=by
 refine wG func286 ?_;simp only[eK,f286,seval];simp only[R.av,AV.cells]at hs;simp only[C.av,hs,eE,seval];by_cases h0:f.wire=0
 ·have d0:(f.wire==0)=true:=by simpa using h0
  simp only[d0,eE,seval];refine aC (VN c hl) ?_;simp only[WS,hs,C.av,eE,seval];refine⟨?_,?_⟩
  ·simp only[Zw,HS,h0,C.av,seval]
   try rfl
  ·simp only[Zw,h0,R.av,E8,seval]
   try rfl
 ·have d0:(f.wire==0)=false:=by simpa using h0
  by_cases h1:f.wire=1
  ·have d1:(f.wire==1)=true:=Ϭ
   simp only[d0,d1,eE,seval];refine aC (VN c hl) ?_;simp only[WS,hs,C.av,eE,seval];refine⟨?_,?_⟩
   ·simp only[Zw,HS,h1,C.av,seval]
    try rfl
   ·simp only[Zw,h1,R.av,E8,seval]
    try rfl
  ·have d1:(f.wire==1)=false:=Ϭ
   by_cases h2:f.wire=2
   ·have d2:(f.wire==2)=true:=ϭ
    simp only[d0,d1,d2,eE,seval];refine aC (Qf6 c hl) ?_;simp only[WS,hs,C.av,eE,seval];refine⟨?_,?_⟩
    ·simp only[Zw,HS,h2,C.av,seval]
    ·simp only[Zw,h2,R.av,E8,seval]
   ·have d2:(f.wire==2)=false:=ϭ
    have hc:Zw c f=({ f with data:=(Kv c f.wire).1 },(Kv c f.wire).2.1,(Kv c f.wire).2.2):=by
     simp only[Zw,h0,h1,h2,if_false,or_self]
    simp only[d0,d1,d2,hs,eE,seval];refine aC (QkB c f.wire hl) ?_;rw[hc];simp only[DM,hs,C.av,eE,seval];exact⟨rfl,rfl⟩
def Qd7 {c:C}(hl:c.d.length<=9223372036854770000):(Qp c).2.2.1.d.length<=9223372036854770000:=by
 unfold Qp;simp only;split
 ·rename_i h0;split
  ·exact hl
  ·split
   ·exact hl
   ·obtain⟨n,_,_,_,h4,_⟩:=Jv (c:=c) ψ h0;show c.varint.2.1.d.length<=_;rw[h4];exact hl
 ·exact hl
def I5 {c:C}{n:Int}(hl:c.d.length<=9223372036854770000):(c.spend n).1.d.length<=9223372036854770000:=by
 unfold C.spend;split
 ·exact hl
 ·split<;>exact hl
def QkD (c:C)(hl:c.d.length<=9223372036854770000):Qi prog 219 [c.av] (VG (Xu c)):=by
 refine wF func219 ?_;simp only[eK,f219,seval];simp only[C.av,eE,seval];refine aC (Qa4 c hl) ?_;have mi:=Qd7 hl;unfold Xu;generalize Qp c=t at mi |-;obtain⟨num,wire,d,e⟩:=t;simp only[Cr,C.av,eE,seval]at mi |-;by_cases he:e=0
 ·subst he;simp only[eE,seval];refine aC (Qf3 d 1) ?_;have bH:=I5 (n:=1) mi;generalize d.spend 1=sp at bH |-;obtain⟨d2,e2⟩:=sp;simp only[HS,C.av,eE,seval]at bH |-;by_cases gF:e2=0
  ·subst gF;simp only[eE,seval];refine Qh (QkC d2 ⟨num,wire,0,[]⟩ 9 _ _ ?_ bH) rfl ?_
   ·simp only[R.av,eE,seval]
    try rfl
   ·generalize Zw d2 ⟨num,wire,0,[]⟩=k;obtain⟨f,d3,e3⟩:=k;simp only[HS,C.av,R.av,eE,seval];by_cases s9:e3=0
    ·subst s9;simp only[VG,R.av,C.av,eE,seval]
     try rfl
    ·simp only[Xj s9,s9,VG,zr,R.av,C.av,eE,seval]
     try rfl
  ·simp only[Xj gF,gF,VG,zr,R.av,C.av,eE,seval]
   try rfl
 ·simp only[Xj he,he,VG,zr,R.av,C.av,eE,seval]
  try rfl
end Va
namespace Va
open Go Am Rc Bt
def YZ (u:Int):Int:=if 0<=u then 2*u else -2*u-1
def Dg (u:Int):Int:=if u % 2=0 then u / 2 else -(u / 2)-1
def QkE (u:Int)(h0 : -9223372036854775808<=u)(h1:u<9223372036854775808):Qi prog 365 [.int .i64 u] (.int .u64 (YZ u)):=by
 refine wF func365 ?_;simp only[eK,f365,seval];simp only[KW,seval];congr 1
 simp only[show min 63 64=63 from rfl,show min 1 64=1 from rfl,seval,Jl,YZ,Qpy _ (show(0:Int)<=9223372036854775808 by decide)];by_cases h:0<=u
 ·rw[show u / 9223372036854775808=0 by omega,Qnj h,show(0:Int) % 18446744073709551616=0 from rfl,MZ _ ψ ψ];omega
 ·rw[show u / 9223372036854775808 = -1 by omega,Qni h,show(-1:Int) % 18446744073709551616=18446744073709551615 from rfl,M0 _ ψ ψ];omega
def QkF (u:Int)(h0:0<=u)(h1:u<18446744073709551616):Qi prog 363 [.int .u64 u] (.int .i64 (Dg u)):=by
 refine wF func363 ?_;simp only[eK,f363,seval];simp only[KW,seval];congr 1
 simp only[show min 1 64=1 from rfl,Se u h0 h1,QD,Dg,Qpy _ (show(0:Int)<=2 ^ 1 by decide)];by_cases h:u % 2=0
 ·rw[h,Qnj rfl];rw[show(0-((0+9223372036854775808) % 18446744073709551616-9223372036854775808)+9223372036854775808) % 18446744073709551616-9223372036854775808=(0:Int)by decide];rw[M1 _ ψ ψ];omega
 ·have h':u % 2=1:=ψ
  rw[h',Qni ϊ];rw[show(0-((1+9223372036854775808) % 18446744073709551616-9223372036854775808)+9223372036854775808) % 18446744073709551616-9223372036854775808=(-1:Int)by decide];rw[M2 _ ψ ψ];omega
def GL (u:Int):0<=YZ u:=by unfold YZ;split<;>omega
def Qga (u:Int)(h0 : -9223372036854775808<=u)(h1:u<9223372036854775808):YZ u<18446744073709551616:=by unfold YZ;split<;>omega
def Qd8 (u:Int):Dg (YZ u)=u:=by unfold Dg YZ;split<;>split<;>omega
def Qd9 (u:Int)(h0:0<=u):YZ (Dg u)=u:=by unfold Dg YZ;split<;>split<;>omega
open Br Up So Vp Cp
abbrev Rd (α:Type):=Except Nat (α×C)
def Z7 (c:C)(n:Int):Except Nat C:=if (c.spend n).2=0 then .ok (c.spend n).1 else .error (c.spend n).2
def Z4 (c:C):Rd Nat :=
 if c.varint.2.2=0 then(if c.varint.2.1.left<(c.varint.1:Int)then .error 4 else .ok (c.varint.1,c.varint.2.1))else .error c.varint.2.2
def Je (w:Int)(c:C):Rd R :=
 if w=3 then match Z4 c with
  |.error e=>.error e
  |.ok (n,d)=>if (text d n).2.2=0 then .ok (⟨0,w,0,(text d n).1⟩,(text d n).2.1)else .error (text d n).2.2
 else if w=2 then(if c.fixed.2.2=0 then .ok (⟨0,w,c.fixed.1,[]⟩,c.fixed.2.1)else .error c.fixed.2.2)
 else if c.varint.2.2=0 then .ok (⟨0,w,c.varint.1,[]⟩,c.varint.2.1)else .error c.varint.2.2
def X4 (w:Int)(b:Nat):Nat:=if w=1 then(IntKind.u64.wrap (Dg b)).toNat else b
def QC (k:Int)(b:Nat)(t:List UInt8):V:=.mk k b t [] [] [] []
def XP (P:PL)(k t:Int)(f:R):V×Nat :=
 if isk k=true then
  if f.wire=wk k then
   if f.wire=3 then(if k=7/\Hm f.data=false then(QC 0 0 [],7)else(QC k 0 f.data,0))
   else if Wb k (X4 f.wire f.bits)=true then
    (if k=9/\Yo P.enums t (X4 f.wire f.bits)=false then(QC 0 0 [],16)else(QC k (Xw k (X4 f.wire f.bits)) [],0))
   else(QC 0 0 [],6)
  else(QC 0 0 [],13)
 else(QC 0 0 [],12)
def Xa (l:List V):V:=.mk 11 0 [] l [] [] []
def Jp (p:List (V×V)):V:=.mk 12 0 [] [] p [] []
def XN (v:V)(n:Int):Option V:=(v.slots.find? λs=>s.1==n).map Prod.snd
def QK (v:V)(n:Int):V:=(XN v n).getD (QC 0 0 [])
def Xg (g:PG)(o:PO)(s:Int×V):Bool:=s.1==o.num||(match Xd g s.1 with
 |some q=>decide (o.union>=0)&&q.union==o.union
 |none=>false)
def X6 (g:PG)(v:V)(o:PO)(x:V):V:=.mk 10 0 [] [] [] (v.slots.filter (λs=>!Xg g o s)++[(o.num,x)]) v.raws
def Uc (v:V)(f:R):V:=.mk v.kd v.bits v.text v.list v.pairs v.slots (v.raws++[f])
def ZY (P:PL)(g:PG)(v:V)(o:PO)(c:C):Rd V :=
 match Z7 c 1 with
 |.error e=>.error e
 |.ok c1=>match Je (wk o.kind) c1 with
  |.error e=>.error e
  |.ok (f,d)=>
   if (XP P o.kind o.target f).2=16 then .ok (Uc v ⟨o.num,0,f.bits,[]⟩,d)
   else if (XP P o.kind o.target f).2=0 then
    if o.card=4 then
     if (XN v o.num).isSome=true then .ok (X6 g v o (Xa ((QK v o.num).list++[(XP P o.kind o.target f).1])),d)
     else match Z7 d 1 with
      |.error e=>.error e
      |.ok d1=>.ok (X6 g v o (Xa ((QK v o.num).list++[(XP P o.kind o.target f).1])),d1)
    else .ok (X6 g v o (XP P o.kind o.target f).1,d)
   else .error (XP P o.kind o.target f).2
section
variable (rec:Int->V->C->Rd V)
def KN (t:Int)(b:V)(k:Int)(c:C):Rd V :=
 match Z4 c with
 |.error e=>.error e
 |.ok (n,d)=>
  if (enter d n).2=0 then
   match Z7 (enter d n).1 k with
   |.error e=>.error e
   |.ok i=>match rec t b i with
    |.error e=>.error e
    |.ok (x,j)=>.ok (x,Yp d j)
  else .error (enter d n).2
def JL (g:PG)(v:V)(o:PO)(c:C):Rd V :=
 if o.card=4 then
  match KN rec o.target (QC 10 0 []) (if (XN v o.num).isSome=true then 1 else 2) c with
  |.error e=>.error e
  |.ok (x,d)=>.ok (X6 g v o (Xa ((QK v o.num).list++[x])),d)
 else
  match KN rec o.target (if (XN v o.num).isSome=true then QK v o.num else QC 10 0 []) 1 c with
  |.error e=>.error e
  |.ok (x,d)=>.ok (X6 g v o x,d)
end
def part (c:C)(n:Nat):C:={ c with e:=IntKind.i64.wrap (c.a+n) }
def JE (c i:C):C:={ c with a:=i.e,nd:=i.nd }
def ZS (P:PL)(g:PG)(o:PO):Nat->V->C->Rd V
 |0,v,c=>.ok (v,c)
 |k+1,v,c=>if 0<c.left then(match ZY P g v o c with
   |.error e=>.error e
   |.ok (w,d)=>ZS P g o k w d)else .ok (v,c)
def ZJ (P:PL)(g:PG)(v:V)(o:PO)(d:C)(i:C):Rd V :=
 match ZS P g o i.left.toNat v i with
 |.error e=>.error e
 |.ok (w,j)=>.ok (w,JE d j)
def JV (P:PL)(g:PG)(v:V)(o:PO)(c:C):Rd V :=
 match Z4 c with
 |.error e=>.error e
 |.ok (n,d)=>
  if (ZD (part d n)).2.2=0 then
   if (ZD (part d n)).1=wk o.kind then
    if (XN v o.num).isSome=true then ZJ P g v o d (ZD (part d n)).2.1
    else match Z7 (ZD (part d n)).2.1 1 with
     |.error e=>.error e
     |.ok i=>ZJ P g (X6 g v o (Xa [])) o d i
   else .error 13
  else .error (ZD (part d n)).2.2
def Zx (k:Int)(l:List (V×V))(x:V×V):List (V×V):=QY k ((l.filter λq=>!XJ q.1 x.1)++[x])
section
variable (P:PL)(rec:Int->V->C->Rd V)
def Jf (k t w:Int)(c:C):Rd V :=
 if w=wk k then
  if k=10 then KN rec t (QC 10 0 []) 0 c
  else match Je w c with
   |.error e=>.error e
   |.ok (f,d)=>if (XP P k t f).2=0 then .ok ((XP P k t f).1,d)else .error (XP P k t f).2
 else .error 13
def JF (o:PO):Nat->V×V->Bool->Bool->C->Rd (V×V)
 |0,x,_,_,c=>.ok (x,c)
 |n+1,x,a,b,c=>
  if 0<c.left then
   if (Qp c).2.2.2=0 then
    if (Qp c).1=1 then
     if a=true then .error 9
     else match Jf P rec o.key (-1) (Qp c).2.1 (Qp c).2.2.1 with
      |.error e=>.error e
      |.ok (y,d)=>JF o n (y,x.2) true b d
    else if (Qp c).1=2 then
     if b=true then .error 9
     else match Jf P rec o.kind o.target (Qp c).2.1 (Qp c).2.2.1 with
      |.error e=>.error e
      |.ok (y,d)=>JF o n (x.1,y) a true d
    else .error 18
   else .error (Qp c).2.2.2
  else .ok (x,c)
def Z8 (g:PG)(v:V)(o:PO)(c:C):Rd V :=
 match Z4 c with
 |.error e=>.error e
 |.ok (n,d)=>match Z7 (part d n) (if (XN v o.num).isSome=true then 2 else 3)with
  |.error e=>.error e
  |.ok i=>match JF P rec o i.left.toNat (QC o.key 0 [],QC o.kind 0 []) false false i with
   |.error e=>.error e
   |.ok (x,j)=>.ok (X6 g v o (Jp (Zx o.key (QK v o.num).pairs x)),JE d j)
def XV (g:PG)(v:V)(o:PO)(w:Int)(c:C):Rd V :=
 if o.card=5 then(if w=6 then Z8 P rec g v o c else .error 13)
 else if w=5/\pk o.card o.kind=true then JV P g v o c
 else if w=wk o.kind then(if o.kind=10 then JL rec g v o c else ZY P g v o c)
 else .error 13
end
def XY (P:PL)(rec:Int->V->C->Rd V)(t:Int):Nat->V->C->Rd V
 |0,v,c=>.ok (v,c)
 |k+1,v,c=>
  if 0<c.left then
   if (Qp c).2.2.2=0 then
    match Xd (Qe P t) (Qp c).1 with
    |none=>if (Xu c).2.2=0 then XY P rec t k (Uc v (Xu c).1) (Xu c).2.1 else .error (Xu c).2.2
    |some o=>match XV P rec (Qe P t) v o (Qp c).2.1 (Qp c).2.2.1 with
     |.error e=>.error e
     |.ok (w,d)=>XY P rec t k w d
   else .error (Qp c).2.2.2
  else .ok (v,c)
def Wz (P:PL):Nat->Int->V->C->Rd V
 |0,_,v,c=>.ok (v,c)
 |n+1,t,v,c=>XY P (Wz P n) t c.left.toNat v c
end Va
namespace Va
open Go Am Rc Bt Vp Cp Up
def sg:Nat->C->List R×Nat
 |0,_=>([],0)
 |k+1,c=>
  if 0<c.left then
   let r:=Xu c
   if r.2.2=0 then
    let t:=sg k r.2.1
    if t.2=0 then(r.1 :: t.1,0)else([],t.2)
   else([],r.2.2)
  else([],0)
def Qgb (s:List UInt8)(l:L):List R×Nat :=
 let o:=opn s l
 if o.2=0 then sg s.length o.1 else([],o.2)
def NO (l:List R):List AV:=l.map R.av
def Qea (a:List R):(NO a).length=a.length:=by simp[NO]
def Uq {c:C}(hl:c.d.length<=9223372036854775807)(h:c.fixed.2.2=0):c.sound=true/\8<=c.left/\c.fixed.2.1={ c with a:=c.a+8 }/\c.fixed.1<2 ^ 64:=by
 unfold C.fixed at h |-;split at h
 ·cases h
 ·rename_i hr;have aq:c.rest≠[]:=by intro e;rw[e]at hr;simp at hr
  have hs:=Pn aq;have dz:=(C.sound_iff c).1 hs;have hle:=c.rest_len;rw[Qnj hs]at hle;have h8:8<=c.left:=by unfold C.left;omega
  have hw:IntKind.i64.wrap (c.a+8)=c.a+8:=ϐ
  refine⟨hs,h8,?_,?_⟩
  ·rw[Qni hr];simp only[C.ahead,hw]
  ·rw[Qni hr];have h1:=Px (c.rest.take 8);rw[Qn8,Qot ψ]at h1;have:(256:Nat) ^ 8=2 ^ 64:=ϊ
   show UN c.rest<2 ^ 64;unfold UN;omega
structure Step (c d:C):Prop where
 n:∃k:Nat,d={ c with a:=c.a+k,nd:=d.nd }/\0<k/\(k:Int)<=c.left
 sound:c.sound=true
def Step.left {c d:C}(h:Step c d):d.sound=true/\d.left<c.left/\0<=d.left/\d.d=c.d/\d.left=c.left-(d.a-c.a):=by
 obtain⟨⟨k,h1,h2,h3⟩,h4⟩:=h;have hs:=(C.sound_iff c).1 h4;have hc:=c.rest_len;rw[Qnj h4]at hc;have e1:d.a=c.a+k:=by rw[h1]
 have e2:d.e=c.e:=by rw[h1]
 have e3:d.d=c.d:=by rw[h1]
 have hd:d.sound=true:=by
  rw[C.sound_iff,e1,e2,e3];omega
 have kH:=d.rest_len;rw[Qnj hd]at kH;exact⟨hd,ψ,ψ,e3,ψ⟩
def Py {c:C}(hl:c.d.length<=9223372036854770000)(h:(Xu c).2.2=0):Step c (Xu c).2.1:=by
 unfold Xu at h |-;simp only at h |-;split at h
 ·rename_i ht;split at h
  ·rename_i hs;split at h
   ·rename_i hk;rw[Qnj ht,Qnj hs,Qnj hk]
    -- the Jd
    unfold Qp at ht hs hk |-;simp only at ht hs hk |-;split at ht
    ·rename_i hv;rw[Qnj hv]at hs hk |-;split at ht
     ·cases ht
     ·rename_i h7;rw[Qni h7]at hs hk |-;split at ht
      ·cases ht
      ·rename_i h8;rw[Qni h8]at hs hk |-;simp only at hs hk |-;obtain⟨n,g1,g2,g3,g4,g5,g6,g7⟩:=Jv (c:=c) ψ hv;rw[g4]at hs hk |-;have fQ:=(C.sound_iff c).1 g5;have aM:=c.rest_len;rw[Qnj g5]at aM
       -- the value C9
       unfold C.spend at hs hk |-;split at hs
       ·cases hs
       ·rename_i s1;rw[Qni s1]at hk |-;split at hs
        ·cases hs
        ·rename_i s2;rw[Qni s2]at hk |-;simp only at hk |-;generalize hd:({ d:=c.d,a:=c.a+n,e:=c.e,dp:=c.dp,nd:=IntKind.i64.wrap (c.nd-1),tx:=c.tx }:C)=d at hk |-;have q1:d.d=c.d:=by rw[<-hd]
         have q2:d.a=c.a+n:=by rw[<-hd]
         have q3:d.e=c.e:=by rw[<-hd]
         have q4:d.dp=c.dp:=by rw[<-hd]
         have q5:d.tx=c.tx:=by rw[<-hd]
         have kH:d.left<=c.left-n:=by
          have:=d.rest_len;split at this
          ·omega
          ·omega
         have mk:∀(d':C) (j:Nat),d'={ d with a:=d.a+j }->(j:Int)<=d.left->Step c d':=by
          intro d' j e hj;refine⟨⟨n+j,?_,ψ,ψ⟩,g5⟩;rw[e];obtain⟨_,_,_,_,_,_⟩:=d;simp only at q1 q2 q3 q4 q5;subst q1 q2 q3 q4 q5;exact O9
         -- the contents
         unfold Zw at hk |-;split at hk
         ·rename_i w2;rw[Qnj w2];obtain⟨f1,f2,f3,f4⟩:=Uq (c:=d) (by rw[q1];omega) hk;exact mk _ 8 f3 f2
         ·rename_i w2;rw[Qni w2];split at hk
          ·rename_i w1;rw[Qnj w1];obtain⟨j,f1,f2,f3,f4,f5,f6,f7⟩:=Jv (c:=d) (by rw[q1];omega) hk;exact mk _ j f4 f3
          ·rename_i w1;rw[Qni w1];simp only at hk |-;unfold Kv at hk |-;simp only at hk |-;split at hk
           ·rename_i jC;rw[Qnj jC];by_cases hu:d.varint.2.1.left<(d.varint.1:Int)
            ·rw[Qnj hu]at hk;cases hk
            ·rw[Qni hu]at hk |-;by_cases hm:(if ((c.varint.1 % 8:Nat):Int)=3 then d.tx else 65536)<(d.varint.1:Int)
             ·rw[Qnj hm]at hk;cases hk
             ·rw[Qni hm];obtain⟨j,f1,f2,f3,f4,f5,f6,f7⟩:=Jv (c:=d) (by rw[q1];omega) jC;have gY:=(C.sound_iff d).1 f5;have dO:=d.rest_len;rw[Qnj f5]at dO;have lC:=d.varint.2.1.rest_len;rw[Qnj f6,f4]at lC;rw[f4]at hu;simp only at lC;have vP:(d.d.length:Int)=c.d.length:=by rw[q1]
              have hw:IntKind.i64.wrap (d.a+(j:Int)+(d.varint.1:Int))=d.a+j+d.varint.1:=by
               rw[QD];omega
              refine mk _ (j+d.varint.1) ?_ ψ;rw[f4];simp only[C.ahead,hw,C.mk.injEq,Qn2,and_true];omega
           ·rename_i jC;exact absurd hk jC
    ·rename_i hv;exact absurd ht hv
   ·rename_i hk;exact absurd h hk
  ·rename_i hs;exact absurd h hs
 ·rename_i ht;exact absurd h ht
open Br So
structure CI (c:C):Prop where
 len:c.d.length<=65536
 snd:c.sound=true
 nd:0<=c.nd/\c.nd<9223372036854775808
 dp:0<=c.dp/\c.dp<9223372036854775808
structure Af (c d:C):Prop where
 n:∃k:Nat,d={ c with a:=c.a+k,nd:=d.nd }/\(k:Int)<=c.left
 nd:0<=d.nd/\d.nd<=c.nd
def CI.pos {c:C}(h:CI c):0<=c.a/\c.a<=c.e/\c.e<=(c.d.length:Int):=(C.sound_iff c).1 h.snd
def CI.lf {c:C}(h:CI c):c.left=c.e-c.a:=by
 have:=c.rest_len
 rwa [Qnj h.snd]at this
def CI.big {c:C}(h:CI c):c.d.length<=9223372036854770000:=Qm9 h.len ϊ
def CI.big' {c:C}(h:CI c):c.d.length<=9223372036854775807:=Qm9 h.len ϊ
def CI.inr {c:C}(h:CI c):inR c.a:=by
 have:=h.pos;have:=h.len;unfold inR;omega
def CI.bd {c:C}(h:CI c):0<=c.left/\c.left<=65536:=by
 have:=h.pos;have:=h.len;rw[h.lf];omega
def NP {c:C}(h1:c.d.length<=65536)(h2:0<=c.a/\c.a<=c.e/\c.e<=(c.d.length:Int))(h3:0<=c.nd/\c.nd<9223372036854775808)(h4:0<=c.dp/\c.dp<9223372036854775808):CI c:=⟨h1,(C.sound_iff c).2 h2,h3,h4⟩
def Af.eqs {c d:C}(h:Af c d):d.d=c.d/\d.e=c.e/\d.dp=c.dp/\d.tx=c.tx/\∃k:Nat,d.a=c.a+k/\(k:Int)<=c.left:=by
 obtain⟨⟨k,e,hk⟩,_⟩:=h;refine⟨Å,Å,Å,Å,k,Å,hk⟩
def Af.ci {c d:C}(h:Af c d)(hc:CI c):CI d:=by
 obtain⟨e1,e2,e3,_,k,e5,hk⟩:=h.eqs;have:=hc.pos;have:=hc.lf;have:=hc.nd;have:=h.nd;exact NP (by rw[e1];exact hc.len) (by rw[e1,e2,e5];omega) ψ (by rw[e3];exact hc.dp)
def Af.left {c d:C}(h:Af c d)(hc:CI c):d.left=c.left-(d.a-c.a)/\c.a<=d.a/\d.left<=c.left:=by
 obtain⟨e1,e2,e3,_,k,e5,hk⟩:=h.eqs;rw[(h.ci hc).lf,hc.lf];omega
def YT {c d:C}(hc:CI c)(h1:d.d=c.d)(h2:d.e=c.e)(h3:d.dp=c.dp)(h4:d.tx=c.tx)(h5:c.a<=d.a/\d.a<=c.e)(h6:0<=d.nd/\d.nd<=c.nd):Af c d:=by
 refine⟨⟨(d.a-c.a).toNat,?_,by rw[hc.lf];omega⟩,h6⟩;obtain⟨_,_,_,_,_,_⟩:=d;simp only at h1 h2 h3 h4 h5;subst h1 h2 h3 h4;exact O9
def Af.refl {c:C}(hc:CI c):Af c c:=by
 have:=hc.pos;have:=hc.nd;exact YT hc rfl rfl rfl rfl ψ ψ
def Af.trans {c d i:C}(h:Af c d)(g:Af d i)(hc:CI c):Af c i:=by
 obtain⟨e1,e2,e3,e4,k,e5,hk⟩:=h.eqs;obtain⟨f1,f2,f3,f4,l,f5,hl⟩:=g.eqs;have:=(h.ci hc).lf;have:=h.nd;have:=g.nd;have:=hc.pos;exact YT hc (by rw[f1,e1]) (by rw[f2,e2]) (by rw[f3,e3]) (by rw[f4,e4]) ψ ψ
def As (c d:C):Prop:=Af c d/\c.a<d.a
def As.ci {c d:C}(h:As c d)(hc:CI c):CI d:=h.1.ci hc
def As.lt {c d:C}(h:As c d)(hc:CI c):d.left+1<=c.left:=by
 have:=(h.1.left hc).1;have:=h.2;omega
def As.trans {c d i:C}(h:As c d)(g:Af d i)(hc:CI c):As c i:=⟨h.1.trans g hc,by have:=(g.left (h.ci hc)).2.1;have:=h.2;omega⟩
def Af.strict {c d i:C}(h:Af c d)(g:As d i)(hc:CI c):As c i:=⟨h.trans g.1 hc,by have:=(h.left hc).2.1;have:=g.2;omega⟩
def Kw {c:C}(hc:CI c)(h:c.varint.2.2=0):As c c.varint.2.1/\c.varint.1<18446744073709551616:=by
 obtain⟨n,h1,h2,h3,h4,h5,h6,h7⟩:=Jv hc.big' h;have:=hc.lf;have:=hc.nd;refine⟨⟨YT hc (by rw[h4]) (by rw[h4]) (by rw[h4]) (by rw[h4]) Ĥ Ĥ,Ĥ⟩,h7⟩
def Xm {c d:C}{n:Int}(hc:CI c)(hn:0<=n)(h:Z7 c n=.ok d):Af c d/\d.a=c.a:=by
 unfold Z7 at h;split at h
 ·rename_i h0;cases h;unfold C.spend at h0 |-;rw[Qni ψ]at h0 |-;split at h0
  ·cases h0
  ·rename_i h1;have:=hc.nd;have:=hc.pos;have w:IntKind.i64.wrap (c.nd-n)=c.nd-n:=ϐ
   rw[Qni h1,w];exact⟨YT hc rfl rfl rfl rfl ϰ ϰ,rfl⟩
 ·cases h
def Ji {c d:C}{n:Nat}(hc:CI c)(h:Z4 c=.ok (n,d)):As c d/\(n:Int)<=d.left:=by
 unfold Z4 at h;split at h
 ·rename_i h0;split at h
  ·cases h
  ·rename_i h1;cases h;exact⟨(Kw hc h0).1,ψ⟩
 ·cases h
def Qeb {d:C}{n:Nat}(hc:CI d)(hn:(n:Int)<=d.left)(h:(text d n).2.2=0):Af d (text d n).2.1/\(text d n).1.length<=65536:=by
 unfold text at h |-;rw[Qni ψ,Qni ψ]at h |-;split at h
 ·cases h
 ·rename_i h1;have:=hc.pos;have:=hc.lf;have:=hc.len;have:=hc.nd;have w:IntKind.i64.wrap (d.a+(n:Int))=d.a+n:=ϐ
  rw[Qni h1];refine⟨YT hc rfl rfl rfl rfl ?_ ?_,?_⟩
  ·simp only[C.ahead,w];omega
  ·simp only[C.ahead];omega
  ·simp only[QoF];rw[Qn8];omega
def Yq {w:Int}{c d:C}{f:R}(hc:CI c)(h:Je w c=.ok (f,d)):As c d/\f.wire=w/\f.bits<18446744073709551616/\f.data.length<=65536:=by
 unfold Je at h;split at h
 ·split at h
  ·cases h
  ·rename_i n i hl;split at h
   ·rename_i ht;cases h;obtain⟨a1,a2⟩:=Ji hc hl;obtain⟨b1,b2⟩:=Qeb (a1.ci hc) a2 ht;exact⟨a1.trans b1 hc,rfl,ϰ,b2⟩
   ·cases h
 ·split at h
  ·split at h
   ·rename_i hf;cases h;obtain⟨h1,h2,h3,h4⟩:=Uq hc.big' hf;have:=hc.lf;have:=hc.nd;exact⟨⟨YT hc (by rw[h3]) (by rw[h3]) (by rw[h3]) (by rw[h3]) ĥ ĥ,ĥ⟩,rfl,h4,Qnk _⟩
   ·cases h
  ·split at h
   ·rename_i hv;cases h;obtain⟨a1,a2⟩:=Kw hc hv;exact⟨a1,rfl,a2,Qnk _⟩
   ·cases h
def WG {c:C}(hc:CI c)(h:(Qp c).2.2.2=0):As c (Qp c).2.2.1/\1<=(Qp c).1/\(Qp c).1<=65535/\0<=(Qp c).2.1/\(Qp c).2.1<=6:=by
 unfold Qp at h |-;dsimp only at h |-;split at h
 ·rename_i hv;rw[Qnj hv];split at h
  ·cases h
  ·rename_i h7;rw[Qni h7];split at h
   ·cases h
   ·rename_i h8;rw[Qni h8];dsimp only;exact⟨(Kw hc hv).1,ψ,ψ,ψ,ψ⟩
 ·rename_i hv;exact absurd h hv
def YM {d:C}{n:Nat}(hc:CI d)(hn:(n:Int)<=d.left)(h:(enter d n).2=0):(enter d n).1={ d with e:=d.a+n,dp:=d.dp-1 }/\CI (enter d n).1/\(enter d n).1.left=n:=by
 unfold enter at h |-;rw[Qni ψ,Qni ψ]at h |-;split at h
 ·cases h
 ·rename_i h1;have:=hc.pos;have:=hc.lf;have:=hc.len;have:=hc.dp;have w1:IntKind.i64.wrap (d.a+(n:Int))=d.a+n:=ϐ
  have w2:IntKind.i64.wrap (d.dp-1)=d.dp-1:=ϐ
  rw[Qni h1,w1,w2];have hi:CI ({ d with e:=d.a+n,dp:=d.dp-1 }:C):=NP hc.len ϰ hc.nd ϰ;exact⟨rfl,hi,by rw[hi.lf];dsimp only;omega⟩
def Bx {d i j:C}{n:Nat}(hc:CI d)(hn:(n:Int)<=d.left)(hi:i.e=d.a+n/\i.nd<=d.nd)(hj:Af i j):Af d (Yp d j)/\(Yp d j).left=d.left-n:=by
 obtain⟨f1,f2,f3,f4,l,f5,hl⟩:=hj.eqs;have:=hc.pos;have:=hc.lf;have:=hj.nd;unfold Yp;rw[Qni (by rw[hc.snd];simp;omega)];have h:Af d ({ d with a:=j.e,nd:=j.nd }:C):=YT hc rfl rfl rfl rfl ϰ ϰ;exact⟨h,by rw[(h.ci hc).lf];dsimp only;omega⟩
def ZZ {d:C}{n:Nat}(hc:CI d)(hn:(n:Int)<=d.left):part d n={ d with e:=d.a+n }/\CI (part d n)/\(part d n).left=n:=by
 have:=hc.pos;have:=hc.lf;have:=hc.len;have w1:IntKind.i64.wrap (d.a+(n:Int))=d.a+n:=ϐ
 unfold part;rw[w1];have hi:CI ({ d with e:=d.a+n }:C):=NP hc.len ϰ hc.nd hc.dp;exact⟨rfl,hi,by rw[hi.lf];dsimp only;omega⟩
def Hs {d i:C}{n:Nat}(hc:CI d)(hn:(n:Int)<=d.left)(hj:Af (part d n) i):Af d (JE d i)/\(JE d i).left=d.left-n:=by
 obtain⟨e1,e2,e3⟩:=ZZ hc hn;obtain⟨f1,f2,f3,f4,l,f5,hl⟩:=hj.eqs;have:=hc.pos;have:=hc.lf;have ib:=hj.nd;rw[e1]at f2 ib;dsimp only at f2 ib;have h:Af d (JE d i):=YT hc rfl rfl rfl rfl (by unfold JE;dsimp only;omega) (by unfold JE;dsimp only;omega);exact⟨h,by rw[(h.ci hc).lf];unfold JE;dsimp only;omega⟩
def HX {c:C}(hc:CI c)(h:(ZD c).2.2=0):As c (ZD c).2.1/\0<=(ZD c).1/\(ZD c).1<256:=by
 unfold ZD at h |-;cases hr:c.rest with
 |nil=>rw[hr]at h;cases h
 |cons b t=>
  obtain⟨_,_,_,h1⟩:=CA hr;have:=hc.pos;have:=hc.lf;have:=hc.len;have:=hc.nd;have:=b.toNat_lt;have w:IntKind.i64.wrap (c.a+1)=c.a+1:=ϐ
  refine⟨⟨YT hc rfl rfl rfl rfl ?_ ?_,?_⟩,?_,?_⟩<;>simp only[C.ahead,w]<;>omega
def SZ {c:C}{f:R}:(Zw c f).2.1.nd=c.nd:=by
 have hv:c.varint.2.1.nd=c.nd:=by unfold C.varint;dsimp only;split<;>rfl
 unfold Zw;split
 ·show c.fixed.2.1.nd=_;unfold C.fixed;split<;>rfl
 ·split
  ·exact hv
  ·show(Kv c f.wire).2.1.nd=_;unfold Kv;dsimp only;split
   ·split
    ·rfl
    ·by_cases hq:(if f.wire=3 then c.tx else 65536)<(c.varint.1:Int)
     ·rw[Qnj hq]
     ·rw[Qni hq];exact hv
   ·rfl
def I6 {c:C}{f:R}(hc:CI c)(h:(Zw c f).2.2=0)(h0:f.bits=0)(h1:f.data=[]):(Zw c f).1.num=f.num/\(Zw c f).1.wire=f.wire/\(Zw c f).1.bits<18446744073709551616/\(Zw c f).1.data.length<=65536:=by
 unfold Zw at h |-;split
 ·rename_i w;rw[Qnj w]at h;exact⟨rfl,rfl,(Uq hc.big' h).2.2.2,by dsimp only;rw[h1];exact Qnk _⟩
 ·rename_i w;rw[Qni w]at h;split
  ·rename_i w1;rw[Qnj w1]at h;exact⟨rfl,rfl,(Kw hc h).2,by dsimp only;rw[h1];exact Qnk _⟩
  ·rename_i w1;rw[Qni w1]at h;refine⟨rfl,rfl,by dsimp only;rw[h0];decide,?_⟩;show(Kv c f.wire).1.length<=65536;dsimp only at h;unfold Kv at h |-;dsimp only at h |-;split
   ·rename_i hv;rw[Qnj hv]at h;split
    ·exact Qnk _
    ·by_cases hq:(if f.wire=3 then c.tx else 65536)<(c.varint.1:Int)
     ·rw[Qnj hq];exact Qnk _
     ·have h3:=((Kw hc hv).1.ci hc).len;rw[Qni hq,Qn8,QnS];omega
   ·exact Qnk _
def DU {c:C}(hc:CI c)(h:(Xu c).2.2=0):As c (Xu c).2.1/\(Xu c).1.num=(Qp c).1/\1<=(Xu c).1.num/\(Xu c).1.num<=65535/\0<=(Xu c).1.wire/\(Xu c).1.wire<=6/\(Xu c).1.bits<18446744073709551616/\(Xu c).1.data.length<=65536:=by
 obtain⟨⟨k,e1,e2,e3⟩,_⟩:=Py hc.big h;have ib:0<=(Xu c).2.1.nd/\(Xu c).2.1.nd<=c.nd/\(Xu c).1.num=(Qp c).1/\1<=(Xu c).1.num/\(Xu c).1.num<=65535/\0<=(Xu c).1.wire/\(Xu c).1.wire<=6/\(Xu c).1.bits<18446744073709551616/\(Xu c).1.data.length<=65536:=by
  clear e1;unfold Xu at h |-;dsimp only at h |-;split at h
  ·rename_i ht;obtain⟨t1,t2,t3,t4,t5⟩:=WG hc ht;split at h
   ·rename_i hs;split at h
    ·rename_i hk;rw[Qnj ht,Qnj hs,Qnj hk];have dc:Z7 (Qp c).2.2.1 1=.ok ((Qp c).2.2.1.spend 1).1:=by unfold Z7;rw[Qnj hs]
     obtain⟨a1,_⟩:=Xm (t1.ci hc) ψ dc;have a2:=SZ (c:=((Qp c).2.2.1.spend 1).1) (f:={ num:=(Qp c).1,wire:=(Qp c).2.1,bits:=0,data:=[] });have a3:=a1.nd;have a4:=t1.1.nd;obtain⟨b1,b2,b3,b4⟩:=I6 (a1.ci (t1.ci hc)) hk rfl rfl;rw[b1,b2];exact⟨ψ,ψ,rfl,t2,t3,t4,t5,b3,b4⟩
    ·rename_i hk;exact absurd h hk
   ·rename_i hs;exact absurd h hs
  ·rename_i ht;exact absurd h ht
 have:=hc.lf;exact⟨⟨YT hc (by rw[e1]) (by rw[e1]) (by rw[e1]) (by rw[e1]) (by rw[e1];dsimp only;omega) ⟨ib.1,ib.2.1⟩,by rw[e1];dsimp only;omega⟩,ib.2.2⟩
end Va
namespace Va
open Go Am Rc Bt Br Up So
def Sf (k:Int)(b:Nat):Xw k (Xw k b)=Xw k b:=by
 unfold Xw;by_cases h:k=6/\US b=0
 ·rw[Qnj h,Qnj ⟨h.1,ϊ⟩]
 ·rw[Qni h,Qni h]
def S0:∀v:V,v.nsc.nsc=v.nsc
 |.mk k b t l p s r=>by
  show V.mk k (Xw k (Xw k b)) t l p s r=V.mk k (Xw k b) t l p s r;rw[Sf]
def NQ {nm:PG->V->V}{P:PL}{sl:List (Int×V)}:∀ {ops:List PO},(ops.Pairwise λa b=>a.num<b.num)->∀o∈ops,(ops.flatMap (Xb nm P sl)).find? (λs=>s.1==o.num)=(Xb nm P sl o).head?
 | [],_,_,h=>by cases h
 |x :: ops,hd,o,ho=>by
  obtain⟨h1,h2⟩:=QoN.1 hd;have hn:∀o':PO,o'.num≠o.num->(Xb nm P sl o').find? (λs=>s.1==o.num)=none:=λo' e=>by
   rw[Qpb];intro s hs;rw[(XU hs).1]
   simpa using e
  have hs:∀o':PO,o'.num=o.num->∀l:List (Int×V),(∀s∈l,s.1=o'.num)->l.find? (λs=>s.1==o.num)=l.head?:=λo' e l hl=>by
   cases l with
   |nil=>rfl
   |cons s l=>
    rw[Qo7,hl s ό,e];simp
  rw[QoH,List.find?_append];rcases Qoz.1 ho with rfl|ho
  ·rw[hs o rfl _ λs h=>(XU h).1];cases hh:(Xb nm P sl o).head? with
   |some s=>rfl
   |none=>
    rw[Option.none_or,Qpb];intro s hs;obtain⟨o',eM,hs⟩:=QnX.1 hs;have:=h1 o' eM;rw[(XU hs).1];simp;omega
  ·have:=h1 o ho;rw[hn x ψ,Option.none_or];exact NQ h2 o ho
section
variable {m:PG->V->Int}{nm:PG->V->V}{P:PL}
theorem GM (h:∀g∈P.progs,∀v,m g v=0->nm g (nm g v)=nm g v){o:PO}(ho:UO P o){v:V}(hv:QS m P o v=0):Xv nm P o (Xv nm P o v)=Xv nm P o v:=by
 unfold QS Xv at *;by_cases hk:o.kind=10
 ·exact O1
 ·rw[Qni hk,Qni hk];exact S0 v
theorem Pz (h:∀g∈P.progs,∀v,m g v=0->nm g (nm g v)=nm g v){o:PO}(ho:UO P o){v:V}(hv:XC m P o v=0):XT nm P o (XT nm P o v)=XT nm P o v:=by
 unfold XC XT at *;by_cases h5:o.card=5
 ·have n4:¬o.card=4:=ψ
  rw[Qnj h5]at hv;rw[Qni n4,Qnj h5,Qni n4,Qnj h5];split at hv
  ·omega
  have hE:=KR.1 hv;have hk:=DR ho.key h5 hE;have hp:(QY o.key v.pairs).Perm v.pairs:=QN _;have hm:∀p∈QY o.key v.pairs,p∈v.pairs:=λp h=>hp.mem_iff.1 h
  have hF:(QY o.key v.pairs).map (λp=>(p.1.nsc,Xv nm P o p.2))=(QY o.key v.pairs).map λp=>(p.1,Xv nm P o p.2) :=
   Qo5 λp h=>by rw[hk p (hm p h)]
  have hs:Zt (λx y:V×V=>kl o.key x.1 y.1) (QY o.key v.pairs):=X5 (KE o.key) _;have hS:QY o.key ((QY o.key v.pairs).map λp=>(p.1,Xv nm P o p.2))=(QY o.key v.pairs).map λp=>(p.1,Xv nm P o p.2):=by
   refine GH ?_;unfold Zt at hs |-;rw[List.pairwise_map];exact hs
  rw[hF];show V.mk 12 0 [] [] ((QY o.key ((QY o.key v.pairs).map λp=>(p.1,Xv nm P o p.2))).map λp=>(p.1.nsc,Xv nm P o p.2)) [] []=_;rw[hS,Qo6];congr 1
  refine Qo5 λp h'=>?_
  simp only[Function.comp];rw[hk p (hm p h'),GM h ho (hE.1 p (hm p h')).2]
 ·rw[Qni h5]at hv;by_cases h4:o.card=4
  ·rw[Qnj h4]at hv;rw[Qnj h4,Qnj h4];split at hv
   ·omega
   have hL:=Km.1 hv;show V.mk 11 0 [] ((v.list.map (Xv nm P o)).map (Xv nm P o)) [] [] []=_;rw[Qo6];congr 1
   exact Qo5 λx hx=>GM h ho (hL x hx)
  ·rw[Qni h4]at hv;rw[Qni h4,Qni h5,Qni h4,Qni h5];exact GM h ho hv
theorem I7 (h:∀g∈P.progs,∀v,m g v=0->nm g (nm g v)=nm g v){g:PG}(hd:g.ops.Pairwise λa b=>a.num<b.num)(hu:∀o∈g.ops,UO P o){v:V}(hv:Ho m P g v=0):YL nm P g (YL nm P g v)=YL nm P g v:=by
 obtain⟨⟨s1,_,_⟩,_,_⟩:=WT.1 hv;have cX:Zp (Zp v.raws)=Zp v.raws:=GH (X5 DP _);have bH:∀o∈g.ops,Xb nm P (g.ops.flatMap (Xb nm P v.slots)) o=Xb nm P v.slots o:=by
  intro o ho;rw[show Xb nm P (g.ops.flatMap (Xb nm P v.slots)) o=(match (g.ops.flatMap (Xb nm P v.slots)).find? (λs=>s.1==o.num)with
   |none=>[]
   |some s=>if (decide (o.card<3) || !(XT nm P o s.2).emp)=true then [(o.num,XT nm P o s.2)]else [])from rfl,NQ hd o ho]
  unfold Xb;cases hf:v.slots.find? (λs=>s.1==o.num)with
  |none=>rfl
  |some s=>
   have ma:s.1=o.num:=ù
   obtain⟨o',e1,e2⟩:=s1 s (Qpc hf);rw[ma,XX hd ho]at e1;cases e1;have hi:=Pz h (hu o ho) e2;dsimp only;by_cases hc:(decide (o.card<3) || !(XT nm P o s.2).emp)=true
   ·rw[Qnj hc];show(if (decide (o.card<3) || !(XT nm P o (XT nm P o s.2)).emp)=true then [(o.num,XT nm P o (XT nm P o s.2))]else [])=_;rw[hi,Qnj hc]
   ·rw[Qni hc];rfl
 have bB:∀ {l:List PO} {a b:PO->List (Int×V)},(∀o∈l,a o=b o)->l.flatMap a=l.flatMap b:=by
  intro l a b
  induction l with
  |nil=>intro _;rfl
  |cons x l ih=>
   intro h;rw[QoH,QoH,h x ό,ih λo ho=>h o (by simp[ho])]
 show V.mk 10 0 [] [] [] (g.ops.flatMap (Xb nm P (g.ops.flatMap (Xb nm P v.slots)))) (Zp (Zp v.raws))=_;rw[cX,bB bH];rfl
end
def Wh {P:PL}(hU:JD P)(hr:XR P):∀(n:Nat) (g:PG),g∈P.progs->∀v:V,XK P n g v=0->nrm P n g (nrm P n g v)=nrm P n g v
 |0,_,_,_,_=>rfl
 |n+1,g,hg,_,h=>I7 (λg hg v h=>Wh hU hr n g hg v h) (hr g hg) (hU g hg) (WT.2 (Jy.1 h).2)
def WU (l:List (Int×V)):List (Int×V):=QJ (λx y=>decide (x.1<y.1)) l
def QkG:SW λx y:Int×V=>decide (x.1<y.1) where
 irr x:=ό
 tr x y z h k:=ĩ
 nt x y z h k:=Ī
def I8:∀ {a b:List (Int×V)},(a.Pairwise λx y=>x.1<y.1)->(b.Pairwise λx y=>x.1<y.1)->(∀x,x∈a↔x∈b)->a=b
 | [],[],_,_,_=>rfl
 | [],y :: b,_,_,h=>by have:=(h y).2 ό;cases this
 |x :: a,[],_,_,h=>by have:=(h x).1 ό;cases this
 |x :: a,y :: b,ha,hb,h=>by
  obtain⟨a1,a2⟩:=QoN.1 ha;obtain⟨b1,b2⟩:=QoN.1 hb;have e:x=y:=by
   rcases Qoz.1 ((h x).1 ό)with e|e
   ·exact e
   ·rcases Qoz.1 ((h y).2 ό)with e'|e'
    ·exact e'.symm
    ·have:=b1 x e;have:=a1 y e';omega
  subst e;congr 1
  refine I8 a2 b2 λz=>?_
  have hz:=h z;simp only[Qoz]at hz
  constructor
  ·intro hm;rcases hz.1 (.inr hm)with e|e
   ·subst e;have:=a1 z hm;omega
   ·exact e
  ·intro hm;rcases hz.2 (.inr hm)with e|e
   ·subst e;have:=b1 z hm;omega
   ·exact e
section
variable {m:PG->V->Int}(nm:PG->V->V)(P:PL)
def J7 (o:PO)(s:Int×V):List (Int×V):=if (decide (o.card<3) || !(XT nm P o s.2).emp)=true then [(o.num,XT nm P o s.2)]else []
def K1 (g:PG)(s:Int×V):List (Int×V):=match Xd g s.1 with
 |none=>[]
 |some o=>J7 nm P o s
theorem I9 {o:PO}{s x:Int×V}:x∈J7 nm P o s↔(decide (o.card<3) || !(XT nm P o s.2).emp)=true/\x=(o.num,XT nm P o s.2):=by
 unfold J7;split
 ·rename_i h;simp[h]
 ·rename_i h;simp[h]
theorem La {sl:List (Int×V)}(hu:sl.Pairwise λy x=>(y.1==x.1)=false){s:Int×V}(hs:s∈sl):sl.find? (λt=>t.1==s.1)=some s:=by
 induction sl with
 |nil=>cases hs
 |cons x l ih=>
  obtain⟨h1,h2⟩:=QoN.1 hu;rw[Qo7];rcases Qoz.1 hs with rfl|hs
  ·simp
  ·rw[h1 s hs];exact ih h2 hs
theorem Ur {sl:List (Int×V)}{o:PO}:Xb nm P sl o=match sl.find? (λs=>s.1==o.num)with
  |none=>[]
  |some s=>J7 nm P o s:=rfl
theorem Qa5 {g:PG}(hd:g.ops.Pairwise λa b=>a.num<b.num){sl:List (Int×V)}(hu:sl.Pairwise λy x=>(y.1==x.1)=false):(WU sl).flatMap (K1 nm P g)=g.ops.flatMap (Xb nm P sl):=by
 have hp:(WU sl).Perm sl:=QN _;have w9:(WU sl).Pairwise λy x=>(y.1==x.1)=false:=(hp.pairwise_iff λ{a b} h=>by rw[Qpw];exact h).2 hu
 have pN:Zt (λx y:Int×V=>decide (x.1<y.1)) (WU sl):=X5 QkG _;have ay:(WU sl).Pairwise λx y=>x.1<y.1:=by
  unfold Zt at pN;rw[Qpr]at *;intro i j hi hj d_;have h1:=pN i j hi hj d_;have h2:=w9 i j hi hj d_;simp only[Qpf,Qo2]at h1 h2;omega
 have xL:∀s,(K1 nm P g s).Pairwise λx y:Int×V=>x.1<y.1:=λs=>by
  unfold K1;split
  ·exact .nil
  ·unfold J7;split
   ·exact Qpq _ _
   ·exact .nil
 have py:∀ {s x:Int×V},x∈K1 nm P g s->x.1=s.1:=λ{s x} h=>by
  unfold K1 at h;cases ho:Xd g s.1 with
  |none=>rw[ho]at h;cases h
  |some o=>
   rw[ho]at h;rw[((I9 nm P).1 h).2];exact(ZX ho).2
 refine I8 ?_ ?_ λx=>?_
 ·rw[Qpx];refine⟨λs _=>xL s,ay.imp λ{a b} dE x hx y hy=>?_⟩;rw[py hx,py hy];exact dE
 ·rw[Qpx];refine⟨λ_ _=>GK,hd.imp λ{a b} dE x hx y hy=>?_⟩;rw[(XU hx).1,(XU hy).1];exact dE
 ·rw[QnX,QnX]
  constructor
  ·rintro⟨s,hs,h⟩;unfold K1 at h;cases ho:Xd g s.1 with
   |none=>rw[ho]at h;cases h
   |some o=>
    rw[ho]at h;obtain⟨cI,cH⟩:=ZX ho;refine⟨o,cI,?_⟩;rw[Ur,cH,La hu (hp.mem_iff.1 hs)];exact h
  ·rintro⟨o,ho,h⟩;rw[Ur]at h;cases hf:sl.find? (λs=>s.1==o.num)with
   |none=>rw[hf]at h;cases h
   |some s=>
    rw[hf]at h;have hs:s.1=o.num:=ù
    refine⟨s,hp.mem_iff.2 (Qpc hf),?_⟩;unfold K1;rw[hs,XX hd ho];exact h
def Qcd (o:PO)(sl:List (Int×V)):List (Int×V):=sl.flatMap λs=>if (s.1==o.num)=true then J7 nm P o s else []
theorem PA {o:PO}{sl:List (Int×V)}(hu:sl.Pairwise λy x=>(y.1==x.1)=false):Qcd nm P o sl=Xb nm P sl o:=by
 rw[Ur];unfold Qcd
 induction sl with
 |nil=>rfl
 |cons x l ih=>
  obtain⟨h1,h2⟩:=QoN.1 hu;rw[QoH,Qo7];cases hx:(x.1==o.num)
  ·rw[Qni ό,Qny];exact ih h2
  ·rw[Qnj rfl];have e:x.1=o.num:=by simpa using hx
   have:l.flatMap (λs=>if (s.1==o.num)=true then J7 nm P o s else [])=[]:=by
    rw[List.flatMap_eq_nil_iff];intro s hs;have:=h1 s hs;rw[e]at this;rw[Qni (by rw[Qpw];simp[this])]
   rw[this,Qof]
end
end Va
namespace Va
open Go Am Rc Bt Br Up
def UT (a b:Int):IntKind.i64.wrap (IntKind.i64.wrap a+IntKind.i64.wrap b)=IntKind.i64.wrap (a+b):=by
 simp only[QD];omega
def Qec (a b:Int):IntKind.i64.wrap (IntKind.i64.wrap a+b)=IntKind.i64.wrap (a+b):=by
 simp only[QD];omega
section
variable {M:Nat}
def C1I (v:V)(k:Nat)(st:St):Prop :=
 ∃f fr i,st=⟨f,[fr],[]⟩/\k=v.list.length-i/\i<=v.list.length/\f 1=.ptr 0 1 0/\f 3=.int .i64 (IntKind.i64.wrap ((1+v.raws.length+Q9 (v.list.take i):Nat):Int))/\f 4=.int .i64 (i:Nat)/\fr 1=.cells (vc v)
def C2I (v:V)(k:Nat)(st:St):Prop :=
 ∃f fr i,st=⟨f,[fr],[]⟩/\k=v.pairs.length-i/\i<=v.pairs.length/\f 1=.ptr 0 1 0/\f 3=.int .i64 (IntKind.i64.wrap ((1+v.raws.length+Q9 v.list+Xo (v.pairs.take i):Nat):Int))/\f 5=.int .i64 (i:Nat)/\fr 1=.cells (vc v)
def C3I (v:V)(k:Nat)(st:St):Prop :=
 ∃f fr i,st=⟨f,[fr],[]⟩/\k=v.slots.length-i/\i<=v.slots.length/\f 1=.ptr 0 1 0/\f 3=.int .i64 (IntKind.i64.wrap ((1+v.raws.length+Q9 v.list+Xo v.pairs+Xk (v.slots.take i):Nat):Int))/\f 6=.int .i64 (i:Nat)/\fr 1=.cells (vc v)
theorem v16 (v:V)(hv:v.ok M):Qi prog 16 [v.av] (.int .i64 (IntKind.i64.wrap (v.cnt:Int))):=by
 revert hv
 refine V.ind (P:=λv=>v.ok M->Qi prog 16 [v.av] (.int .i64 (IntKind.i64.wrap (v.cnt:Int)))) ?_ v;clear v;intro v hl hp hs hv;have n1:=hv.nl;have n2:=hv.np;have n3:=hv.ns;rw[Qd];refine wF func16 ?_;simp only[eK,Tryz.f16,seval];simp only[Qn6,eE,seval];refine Qj (C1I v) _ ⟨_,_,0,rfl,rfl,Qnk _,ω,î,ω,ω⟩ ?_;rintro _ st ⟨f,fr,i,rfl,rfl,bg,h1,h3,h4,m1⟩;have dV:=m1;simp only[vc]at m1;simp only[Qn6,h1,h4,m1,eE,seval];by_cases aa:i<v.list.length
 ·obtain⟨x,hi⟩:∃x,v.list[i]? = some x:=⟨v.list[i],Qnb aa⟩;have hg:=HH hi;have e1:=Qv i _ aa ώ;have c1:=hl x (Qnp hi) (hv.list x (Qnp hi));rw[Qd]at c1;simp only[QE aa,Qs,QoF,Qg,hg,h1,h3,h4,m1,eE,seval];refine aC c1 ?_;simp only[h4,e1,UT,Qa,seval];exact⟨v.list.length-(i+1),ψ,_,_,i+1,rfl,rfl,ψ,ϕ,Ą,ω,Í⟩
 have e:i=v.list.length:=ψ
 subst e;rw[QoT]at h3;simp only[QM aa,Qa,seval];refine Qj (C2I v) _ ⟨_,_,0,rfl,rfl,Qnk _,ϕ,(by simp only[Qol,Xo,QnI,h3,Qa,seval]),ω,Í⟩ ?_;clear h1 h3 h4 m1 dV aa bg;rintro _ st ⟨f,fr,i,rfl,rfl,bg,h1,h3,h5,m1⟩;have dV:=m1;simp only[vc]at m1;simp only[Qn6,h1,h5,m1,eE,seval];by_cases aa:i<v.pairs.length
 ·obtain⟨x,hi⟩:∃x,v.pairs[i]? = some x:=⟨v.pairs[i],Qnb aa⟩;have hg:=KG hi;have e1:=Qv i _ aa ώ;have hm:=Qnp hi;have c1:=(hp x hm).1 (hv.keys x hm);have c2:=(hp x hm).2 (hv.vals x hm);rw[Qd]at c1 c2;simp only[QE aa,Qs,QoF,Qg,hg,QnK,Qol,QnT,h1,h3,h5,m1,eE,seval];refine aC c1 ?_;simp only[Qs,QoF,Qg,hg,QnK,QnN,QnT,h1,h5,m1,eE,seval];refine aC c2 ?_;simp only[h5,e1,UT,Qa,seval];exact⟨v.pairs.length-(i+1),ψ,_,_,i+1,rfl,rfl,ψ,ϕ,(by rw[IP hi];simp only[h3,<-Qpz,Qm7,Qa,seval]),ω,Í⟩
 have e:i=v.pairs.length:=ψ
 subst e;rw[QoT]at h3;simp only[QM aa,Qa,seval];refine Qj (C3I v) _ ⟨_,_,0,rfl,rfl,Qnk _,ϕ,(by simp only[Qol,Xk,QnI,h3,Qa,seval]),ω,Í⟩ ?_;clear h1 h3 h5 m1 dV aa bg;rintro _ st ⟨f,fr,i,rfl,rfl,bg,h1,h3,h6,m1⟩;have dV:=m1;simp only[vc]at m1;simp only[Qn6,h1,h6,m1,eE,seval];by_cases aa:i<v.slots.length
 ·obtain⟨x,hi⟩:∃x,v.slots[i]? = some x:=⟨v.slots[i],Qnb aa⟩;have hg:=Wy hi;have e1:=Qv i _ aa ώ;have hm:=Qnp hi;have c1:=hs x hm (hv.slots x hm);rw[Qd]at c1;simp only[QE aa,Qs,QoF,Qg,hg,QnK,QnN,QnT,h1,h3,h6,m1,eE,seval];refine aC c1 ?_;simp only[h6,e1,UT,Qa,seval];exact⟨v.slots.length-(i+1),ψ,_,_,i+1,rfl,rfl,ψ,ϕ,(by rw[IQ hi];simp only[h3,<-Qpz,Qm7,Qa,seval]),ω,Í⟩
 have e:i=v.slots.length:=ψ
 subst e;rw[QoT]at h3;simp only[QM aa,h3,Q8,Qa,seval]
end
def Wr (v:V):List V:=v.list++v.pairs.flatMap (λp=>[p.1,p.2])++v.slots.map (·.2)
def Bz (a b:List V):Q9 (a++b)=Q9 a+Q9 b:=by
 induction a with
 |nil=>simp[Q9]
 |cons x a ih=>simp only[Qnx,Q9,ih];omega
def Qed (v:V):v.cnt=1+v.raws.length+Q9 (Wr v):=by
 have h1:∀l:List (V×V),Q9 (l.flatMap λp=>[p.1,p.2])=Xo l:=by
  intro l
  induction l with
  |nil=>rfl
  |cons x l ih=>
   obtain⟨a,b⟩:=x;simp only[QoH,Bz,ih,Xo,Q9,QnI]
 have h2:∀l:List (Int×V),Q9 (l.map (·.2))=Xk l:=by
  intro l
  induction l with
  |nil=>rfl
  |cons x l ih=>
   obtain⟨a,b⟩:=x;simp only[QnJ,Q9,ih,Xk]
 rw[Q8,Wr,Bz,Bz,h1,h2];omega
def Lb {xs:List AV}(h:xs.all (λe=>e.cells.length==7)=true)(hf:QU xs=[]):xs=[]:=by
 cases xs with
 |nil=>rfl
 |cons x xs=>
  have hl:x.cells.length=7:=ü
  have:x.cells=[]:=(List.append_eq_nil_iff.1 hf).1;rw[this]at hl;exact absurd hl.symm ϊ
def QkH (xs:List AV)(fr:Nat->Ob)(m:Qk)(h:xs.all (λe=>e.cells.length==7)=true)(hn:xs.length<=1099511627776)(hr:Qn (fr 1000)=true) :
  Qf prog 149 [.list xs] (fr :: m) (λx m1=>x=.vec 0 1000 (XO (fr 1000)) 0 xs.length false/\m1=QL fr 1000 (.vec (XO (fr 1000)) 7 xs) :: m):=by
 have eH:QB (fr :: m) 0 1000=XO (fr 1000):=Kp;refine Qat.go (by simp) ?_;simp only[Aw,MQ,MS,Qa,seval];refine KC (ys:=xs) (by simp only[Qa,seval]) ?_ ?_
 ·simp only[MU,Qa,seval];refine Jt rfl ?_;simp only[Qa,seval];refine QP (site:=5) (g:=1) (xs:=[]) (ys:=xs) rfl rfl rfl rfl rfl h (by simp[maxLen];omega) (by simp;omega) ?_;simp only[Qa,seval];refine ZC (l:=0) (site:=5) (g:=2) (o:=0) (n:=xs.length) (q:=false) (sz:=7) (xs:=xs) (by simp only[QnA,Qa,seval]) (by simp only[Qa,seval]) (by simp) (by decide) hr ?_;simp only[eH,Vt,eE,seval]
  try simp[AV.still,AV.un,ZO,XZ]
 ·intro he;have hx:xs=[]:=by
   rcases he with he|he
   ·exact he
   ·exact Lb h he
  subst hx;simp only[MT,Qa,seval];refine ZW (by simp only[Qa,seval]) rfl ?_;simp only[Qa,seval];refine ZC (l:=0) (site:=2) (g:=1) (o:=0) (n:=0) (q:=false) (sz:=7) (xs:=[]) (by simp only[Qa,seval]) (by simp only[Qa,seval]) (by simp) (by decide) hr ?_;simp only[eH,Vt,eE,seval]
  try simp[AV.still,AV.un,ZO,XZ]
def QV {P:Program}{K:St->Prop}{its:List Am.Item}{f:Fr}{m:Qk}{ds:List DF}{d sz len:Nat}{z y l:List AV}{ps:List (Nat×Nat×RA)}(hy:fill f ps (Zj z sz len)=some y)(h1:AV.rfL y=true)(h2:y.all AV.leaf=true)(hc:ZG sz len (y.map nn0)=l)(h:QF P its ⟨QL f d (.list l),m,ds⟩ K) :
  QF P (⟨some d,.bsl sz len z ps,none⟩ :: its) ⟨f,m,ds⟩ K:=by
 subst hc;exact⟨y,hy,h1,h2,h⟩
def Ud (v:V)(i:Nat):List V:=v.list++(v.pairs.take i).flatMap λp=>[p.1,p.2]
def UU (v:V)(i:Nat):List V:=Ud v v.pairs.length++(v.slots.take i).map (·.2)
def FD (v:V)(i:Nat)(h:i<=v.pairs.length):(Ud v i).length=v.list.length+2*i:=by
 have:∀l:List (V×V),(l.flatMap λp=>[p.1,p.2]).length=2*l.length:=by
  intro l
  induction l with
  |nil=>rfl
  |cons x l ih=>simp only[QoH,QnP,Qnq,Qn7,ih];omega
 rw[Ud,QnP,this,Qn8];omega
def VP (v:V)(i:Nat)(h:i<=v.slots.length):(UU v i).length=v.list.length+2*v.pairs.length+i:=by
 rw[UU,QnP,FD v _ (Qm8 _),Qn6,Qn8];omega
def Qa6 {v:V}{i:Nat}{x:V×V}(h:v.pairs[i]? = some x):(Ud v (i+1)).map V.av=(Ud v i).map V.av++[x.1.av,x.2.av]:=by
 unfold Ud;rw[Qo4,h];simp
def Qa7 {v:V}{i:Nat}{x:Int×V}(h:v.slots[i]? = some x):(UU v (i+1)).map V.av=(UU v i).map V.av++[x.2.av]:=by
 unfold UU;rw[Qo4,h];simp
def S1 (v:V):UU v v.slots.length=Wr v:=by
 unfold UU Ud Wr;rw[QoT,QoT]
def DV (l:List V):(l.map V.av).all (λe=>e.cells.length==7)=true:=by
 rw[List.all_map,Qno];intro x _;simp[Qd,AV.cells]
def I1 (v:V)(k:Nat)(st:St):Prop :=
 ∃f fr i g,st=⟨f,[fr],[]⟩/\k=v.pairs.length-i/\i<=v.pairs.length/\f 1=.ptr 0 1 0/\f 3=.vec 0 1000 g 0 (Ud v i).length false/\f 12=.list (v.pairs.map V.pav)/\f 13=.int .i64 (v.pairs.length:Nat)/\f 14=.int .i64 (i:Nat)/\fr 1=.cells (vc v)/\fr 1000=.vec g 7 ((Ud v i).map V.av)/\fr 7=.none/\∀s∈[5],(fr s).isRow=false
def I2 (v:V)(k:Nat)(st:St):Prop :=
 ∃f fr i g,st=⟨f,[fr],[]⟩/\k=v.slots.length-i/\i<=v.slots.length/\f 3=.vec 0 1000 g 0 (UU v i).length false/\f 27=.list (v.slots.map V.sav)/\f 28=.int .i64 (v.slots.length:Nat)/\f 29=.int .i64 (i:Nat)/\fr 1000=.vec g 7 ((UU v i).map V.av)/\∀s∈[7],(fr s).isRow=false
def v94 (v:V)(h:v.list.length+2*v.pairs.length+v.slots.length<=1099511627776):Qi prog 94 [v.av] (.list ((Wr v).map V.av)):=by
 have cl:=λfr hr=>QkH (v.list.map V.av) fr [] (DV _) Ω hr
 rw[Qd];refine wF func94 ?_;simp only[eK,f94,seval];simp only[eE,seval];refine Qh (cl _ rfl) ϑ ?_;simp only[Qn6,eE,seval];have e0:(Ud v 0).map V.av=v.list.map V.av:=by unfold Ud;simp
 have l0:=FD v 0 (Qnk _);refine Qj (I1 v) _ ⟨_,_,0,_,rfl,rfl,Qnk _,ω,(by rw[l0];exact ω),ω,ω,ω,ω,(by rw[e0];exact ω),rfl,ϛ⟩ ?_;rintro _ st ⟨f0,bA,i,g,rfl,rfl,bg,am,ax,aG,aT,dm,m10,cF,uB,r5⟩;refine QR (a:=_) [5] r5 ?_;intro f fr hf hm hn;have h1:f 1=.ptr 0 1 0:=À
 have h3:f 3=.vec 0 1000 g 0 (Ud v i).length false:=Ϥ
 have h12:f 12=.list (v.pairs.map V.pav):=Ì
 have h13:f 13=.int .i64 (v.pairs.length:Nat):=Û
 have eW:f 14=.int .i64 (i:Nat):=Ň
 have m1:fr 1=.cells (vc v):=Ā
 have mR:fr 1000=.vec g 7 ((Ud v i).map V.av):=Ι
 have n7:fr 7=.none:=by rw[hm 7 ϊ,uB]<;>rfl
 have n5:=hn 5 ϊ;clear hf hm hn am ax aG aT dm m10 cF uB r5 e0 l0;have dV:=m1;simp only[vc]at m1;simp only[h13,eW,Qa,seval];by_cases aa:i<v.pairs.length
 ·obtain⟨x,hi⟩:∃x,v.pairs[i]? = some x:=⟨v.pairs[i],Qnb aa⟩;have hg:=KG hi;have e1:=Qv i _ aa ώ;have le:=FD v i bg;have ln:=FD v (i+1) aa;simp only[QE aa,Qs,QoF,Qg,hg,n5,h3,h12,eW,eE,seval];refine QV (l:=[x.1.av,x.2.av]) rfl rfl rfl (by rw[Qd,Qd];rfl) ?_;refine QP (site:=1000) (g:=g) (n:=(Ud v i).length) (xs:=(Ud v i).map V.av) (ys:=[x.1.av,x.2.av]) ω Β rfl ą rfl (DV [x.1,x.2]) ϔ Ϙ ?_;simp only[eW,e1,Qa,seval];exact⟨v.pairs.length-(i+1),ψ,_,_,i+1,g+1,rfl,rfl,ψ,ϕ,(by rw[ln];simp only[le,Qa,seval];rfl),Γ,Į,ω,Í,(by rw[Qa6 hi];exact ω),(by exact n7),ϛ⟩
 have e:i=v.pairs.length:=ψ
 subst e;simp only[QM aa,h1,m1,Qn6,eE,seval];have e0:UU v 0=Ud v v.pairs.length:=by unfold UU;simp
 refine Qj (I2 v) _ ⟨_,_,0,g,rfl,rfl,Qnk _,(by rw[e0];exact ϖ),ω,ω,ω,(by rw[e0];exact Β),by simp only[Qoz,Qpu,or_false,forall_eq,n7]<;>rfl⟩ ?_;clear h1 h3 h12 h13 eW m1 dV mR n5 n7 bg aa e0 g;rintro _ st ⟨f0,bA,i,g,rfl,rfl,bg,ax,pS,pm,px,cF,r7⟩;refine QR (a:=_) [7] r7 ?_;intro f fr hf hm hn;have h3:f 3=.vec 0 1000 g 0 (UU v i).length false:=Ϥ
 have uD:f 27=.list (v.slots.map V.sav):=by rw[hf,pS]<;>rfl
 have uW:f 28=.int .i64 (v.slots.length:Nat):=by rw[hf,pm]<;>rfl
 have kQ:f 29=.int .i64 (i:Nat):=by rw[hf,px]<;>rfl
 have mR:fr 1000=.vec g 7 ((UU v i).map V.av):=Ι
 have n7:=hn 7 ϊ;clear hf hm hn ax pS pm px cF r7;simp only[uW,kQ,Qa,seval];by_cases aa:i<v.slots.length
 ·obtain⟨x,hi⟩:∃x,v.slots[i]? = some x:=⟨v.slots[i],Qnb aa⟩;have hg:=Wy hi;have e1:=Qv i _ aa ώ;have le:=VP v i bg;have ln:=VP v (i+1) aa;simp only[QE aa,Qs,QoF,Qg,hg,n7,h3,uD,kQ,eE,seval];refine QV (l:=[x.2.av]) rfl rfl rfl Ġ ?_;refine QP (site:=1000) (g:=g) (n:=(UU v i).length) (xs:=(UU v i).map V.av) (ys:=[x.2.av]) ω Β rfl ą rfl (DV [x.2]) ϔ Ϙ ?_;simp only[kQ,e1,Qa,seval];exact⟨v.slots.length-(i+1),ψ,_,_,i+1,g+1,rfl,rfl,ψ,(by rw[ln];simp only[le,Qa,seval];rfl),(by exact uD),(by exact uW),ω,(by rw[Qa7 hi];exact ω),ϛ⟩
 have e:i=v.slots.length:=ψ
 subst e;rw[S1]at h3 mR;simp only[QM aa,h3,eE,seval];simp[AV.un,ZO,XZ,mR];rw[QnL ŀ]
def VcI (v:V)(k:Nat)(st:St):Prop :=
 ∃f fr i,st=⟨f,[fr],[]⟩/\k=(Wr v).length-i/\i<=(Wr v).length/\f 3=.int .i64 (IntKind.i64.wrap ((1+v.raws.length+Q9 ((Wr v).take i):Nat):Int))/\f 11=.list ((Wr v).map V.av)/\f 12=.int .i64 ((Wr v).length:Nat)/\f 13=.int .i64 (i:Nat)/\∀s∈[5],(fr s).isRow=false
def Qee {v x:V}(h:x∈Wr v):x∈v.list\/(∃p∈v.pairs,x=p.1\/x=p.2)\/∃s∈v.slots,x=s.2:=by
 unfold Wr at h;simp only[Qow,QnX,Qoz,Qpu,or_false,Qox]at h;rcases h with(h|⟨p,hp,h⟩)|⟨s,hs,rfl⟩
 ·exact .inl h
 ·exact .inr (.inl ⟨p,hp,h⟩)
 ·exact .inr (.inr ⟨s,hs,rfl⟩)
def v50 (v:V)(hv:Thin v):Qi prog 50 [v.av] (.int .i64 (IntKind.i64.wrap (v.cnt:Int))):=by
 revert hv
 refine V.ind (P:=λv=>Thin v->Qi prog 50 [v.av] (.int .i64 (IntKind.i64.wrap (v.cnt:Int)))) ?_ v;clear v;intro v hl hp hs hv;obtain⟨n,t1,t2,t3,t4⟩:=hv;have bB:∀x∈Wr v,Qi prog 50 [x.av] (.int .i64 (IntKind.i64.wrap (x.cnt:Int))):=by
  intro x hx;rcases Qee hx with h|⟨p,h,rfl|rfl⟩|⟨s,h,rfl⟩
  ·exact hl x h (t1 x h)
  ·exact(hp p h).1 (t2 p h)
  ·exact(hp p h).2 (t3 p h)
  ·exact hs s h (t4 s h)
 have fY:(Wr v).length<=maxLen:=by
  rw[<-S1,VP v _ (Qm8 _)];simp only[maxLen];omega
 have c0:=v94 v n;rw[Qd]at c0;rw[Qd];refine wF func50 ?_;simp only[eK,f50,seval];simp only[Qn6,eE,seval];refine aC c0 ?_;simp only[Qn6,Qa,seval];refine Qj (VcI v) _ ⟨_,_,0,rfl,rfl,Qnk _,î,ω,ω,ω,ϛ⟩ ?_;rintro _ st ⟨f0,bA,i,rfl,rfl,bg,ax,aU,aG,aT,r5⟩;refine QR (a:=_) [5] r5 ?_;intro f fr hf hm hn;have h3:f 3=.int .i64 (IntKind.i64.wrap ((1+v.raws.length+Q9 ((Wr v).take i):Nat):Int)):=Ϥ
 have aI:f 11=.list ((Wr v).map V.av):=Ë
 have h12:f 12=.int .i64 ((Wr v).length:Nat):=Ì
 have h13:f 13=.int .i64 (i:Nat):=Û
 have n5:=hn 5 ϊ;clear hf hm hn ax aU aG aT r5;simp only[h12,h13,Qa,seval];by_cases aa:i<(Wr v).length
 ·obtain⟨x,hi⟩:∃x,(Wr v)[i]? = some x:=⟨(Wr v)[i],Qnb aa⟩;have hg:=HH hi;have e1:=Qv i _ aa fY;have c1:=bB x (Qnp hi);rw[Qd]at c1;simp only[QE aa,Qs,QoF,Qg,hg,n5,h3,aI,h13,eE,seval];refine aC c1 ?_;simp only[h13,e1,UT,Qa,seval];exact⟨(Wr v).length-(i+1),ψ,_,_,i+1,rfl,rfl,ψ,Ą,Ø,Γ,ω,ϛ⟩
 have e:i=(Wr v).length:=ψ
 subst e;rw[QoT,<-Qed]at h3;simp only[QM aa,h3,Qa,seval]
end Va
set_option linter.unusedVariables false
namespace Tg
open Go Am
abbrev ja (a b:Nat):Am.Item:=⟨some a,.val (.mov (.t b)),none⟩
abbrev jb (z:Nat)(a b c:Nat):Am.Item:=⟨some a,.val (.iaddr z none (.t b) (.t c)),none⟩
abbrev jc (a b c:Nat):Am.Item:=⟨some a,.val (.bin .num .add (.t b) (.t c)),none⟩
abbrev jd (z:Nat)(a b:Nat):Am.Item:=⟨some a,.val (.loadr (some z) (.t b)),none⟩
abbrev je (a b c:Nat):Am.Item:=⟨some a,.val (.bin .num .sub (.t b) (.t c)),none⟩
abbrev jf (a b c:Nat):Am.Item:=⟨some a,.val (.bin .num .lss (.t b) (.t c)),none⟩
abbrev jg (a b c:Nat):Am.Item:=⟨some a,.val (.mov (.t b)),some (c,true)⟩
abbrev jh (a b:Nat)(c:Int):Am.Item:=⟨some a,.val (.bin .num .add (.t b) (.c (.int .i64 c))),none⟩
abbrev ji (z:Nat)(a b:Nat):Am.Item:=⟨none,.store z (.t a) (.t b),none⟩
abbrev jj (a b:Nat)(c:Int):Am.Item:=⟨some a,.val (.bin .num .sub (.t b) (.c (.int .i64 c))),none⟩
abbrev jk (a:Nat)(b:Int):Am.Item:=⟨some a,.val (.mov (.c (.int .i64 b))),none⟩
abbrev jQ (g:List Am.Item)(c:RC):RC:=.seq (.reg g) c
abbrev jX (a b:Nat):RC:=.cond (.t a) .skip (.exit b)
def Qce (z sr ro sm is st:Nat):List Am.Item:=[
  jk 10 0]
def Qcf (z sr ro sm is st:Nat):List Am.Item:=[
  ja 11 10,
  ja 12 3,
  jf 13 11 12]
def Qcg (z sr ro sm is st:Nat):List Am.Item:=[
  ja 16 0,
  ja 17 1,
  ja 18 10,
  jc 19 17 18,
  ja 20 0,
  ja 21 2,
  ja 22 10,
  jc 23 21 22,
  ja 24 0,
  ja 25 2,
  ja 26 10,
  jc 27 25 26,
  jb z 28 24 27,
  jd z 29 28,
  ja 30 0,
  ja 31 1,
  ja 32 10,
  jc 33 31 32,
  jb z 34 30 33,
  jd z 35 34,
  jb z 36 16 19,
  ji z 36 29,
  jb z 37 20 23,
  ji z 37 35]
def Qch (z sr ro sm is st:Nat):List Am.Item:=[
  ja 14 10,
  jh 15 14 1,
  ja 10 15]
def Qci (z sr ro sm is st:Nat):RC:=.seq (.seq (.reg (Qcf z sr ro sm is st)) (jX 13 0)) (.seq (.block 1 (.draw (Qcg z sr ro sm is st))) (.reg (Qch z sr ro sm is st)))
def rsr (z sr ro sm is st:Nat):RC:=.seq (.reg (Qce z sr ro sm is st)) (.block 0 (.loop (Qci z sr ro sm is st)))
def osr:List RR:=[]
def Qcj (z sr ro sm is st:Nat):List Am.Item:=[
  ja 12 2,
  ja 13 1,
  je 14 12 13,
  ja 10 14]
def Qck (z sr ro sm is st:Nat):List Am.Item:=[
  ja 15 3,
  ja 16 2,
  je 17 15 16,
  ja 11 17]
def Qcl (z sr ro sm is st:Nat):List Am.Item:=[
  ja 18 10,
  ja 19 11,
  ⟨(some 20),.val (.bin .num .neq (.t 18) (.t 19)),none⟩]
def Qcm (z sr ro sm is st:Nat):List Am.Item:=[
  ja 21 10,
  ja 22 11,
  ⟨(some 23),.val (.bin .num .gtr (.t 21) (.t 22)),none⟩]
def Qcn (z sr ro sm is st:Nat):List Am.Item:=[
  ja 24 0,
  ja 25 2,
  ja 26 10,
  je 27 25 26,
  ja 28 2,
  ja 29 11,
  ja 30 4,
  ⟨(some 31),.callF (.f sr) [(.t 24),(.t 27),(.t 28),(.t 29),(.t 30)],none⟩]
def Qco (z sr ro sm is st:Nat):List Am.Item:=[
  ja 32 10,
  ja 33 11,
  je 34 32 33,
  ja 10 34]
def Qcp (z sr ro sm is st:Nat):List Am.Item:=[
  ja 35 0,
  ja 36 2,
  ja 37 10,
  je 38 36 37,
  ja 39 2,
  ja 40 11,
  jc 41 39 40,
  ja 42 10,
  je 43 41 42,
  ja 44 10,
  ja 45 4,
  ⟨(some 46),.callF (.f sr) [(.t 35),(.t 38),(.t 43),(.t 44),(.t 45)],none⟩]
def Qcq (z sr ro sm is st:Nat):List Am.Item:=[
  ja 47 11,
  ja 48 10,
  je 49 47 48,
  ja 11 49]
def Qcr (z sr ro sm is st:Nat):RC:=.seq (.seq (.reg (Qcl z sr ro sm is st)) (jX 20 0)) (.block 1 (.seq (.reg (Qcm z sr ro sm is st)) (.cond (.t 23) (.seq (.reg (Qcn z sr ro sm is st)) (.reg (Qco z sr ro sm is st))) (.seq (.reg (Qcp z sr ro sm is st)) (.reg (Qcq z sr ro sm is st))))))
def Qcs (z sr ro sm is st:Nat):List Am.Item:=[
  ja 50 0,
  ja 51 2,
  ja 52 10,
  je 53 51 52,
  ja 54 2,
  ja 55 10,
  ja 56 4,
  ⟨(some 57),.callF (.f sr) [(.t 50),(.t 53),(.t 54),(.t 55),(.t 56)],none⟩]
def rro (z sr ro sm is st:Nat):RC:=.seq (.reg (Qcj z sr ro sm is st)) (.seq (.reg (Qck z sr ro sm is st)) (.seq (.block 0 (.loop (Qcr z sr ro sm is st))) (.reg (Qcs z sr ro sm is st))))
def oro:List RR:=[]
def C7 (z sr ro sm is st:Nat):List Am.Item:=[
  ja 25 2,
  ja 26 1,
  je 27 25 26,
  ⟨(some 28),.val (.bin .num .eql (.t 27) (.c (.int .i64 1))),none⟩]
def AT (z sr ro sm is st:Nat):List Am.Item:=[
  ja 29 2,
  ja 10 29]
def AU (z sr ro sm is st:Nat):List Am.Item:=[
  ja 30 3,
  ja 11 30]
def Qct (z sr ro sm is st:Nat):List Am.Item:=[
  ja 31 10,
  ja 32 11,
  jf 33 31 32]
def Qcu (z sr ro sm is st:Nat):List Am.Item:=[
  ja 34 10,
  ja 35 11,
  jc 36 34 35,
  ⟨(some 37),.val (.cvi .u64 (.t 36)),none⟩,
  ⟨(some 38),.val (.bin .num .shr (.t 37) (.c (.int .u64 1))),none⟩,
  ⟨(some 39),.val (.cvi .i64 (.t 38)),none⟩,
  ja 12 39]
def Qcv (z sr ro sm is st:Nat):List Am.Item:=[
  ja 40 4,
  ja 41 0,
  ja 42 12,
  jb z 43 41 42,
  jd z 44 43,
  ja 45 0,
  ja 46 1,
  jb z 47 45 46,
  jd z 48 47,
  ⟨(some 49),.call (.t 40) [(.t 44),(.t 48)],none⟩,
  ⟨(some 50),.val (.bin .num .lss (.t 49) (.c (.int .i64 0))),none⟩]
def Qcw (z sr ro sm is st:Nat):List Am.Item:=[
  ja 51 12,
  jh 52 51 1,
  ja 10 52]
def Qcx (z sr ro sm is st:Nat):List Am.Item:=[
  ja 53 12,
  ja 11 53]
def Qcy (z sr ro sm is st:Nat):RC:=.seq (.seq (.reg (Qct z sr ro sm is st)) (jX 33 0)) (.block 1 (.seq (.reg (Qcu z sr ro sm is st)) (.seq (.draw (Qcv z sr ro sm is st)) (.cond (.t 50) (.reg (Qcw z sr ro sm is st)) (.reg (Qcx z sr ro sm is st))))))
def AW (z sr ro sm is st:Nat):List Am.Item:=[
  ja 54 1,
  ja 13 54]
def Qcz (z sr ro sm is st:Nat):List Am.Item:=[
  ja 55 13,
  ja 56 10,
  jj 57 56 1,
  jf 58 55 57]
def Lc (z sr ro sm is st:Nat):List Am.Item:=[
  ja 61 0,
  ja 62 13,
  ja 63 0,
  ja 64 13,
  jh 65 64 1,
  ja 66 0,
  ja 67 13,
  jh 68 67 1,
  jb z 69 66 68,
  jd z 70 69,
  ja 71 0,
  ja 72 13,
  jb z 73 71 72,
  jd z 74 73,
  jb z 75 61 62,
  ji z 75 70,
  jb z 76 63 65,
  ji z 76 74]
def Ld (z sr ro sm is st:Nat):List Am.Item:=[
  ja 59 13,
  jh 60 59 1,
  ja 13 60]
def QcA (z sr ro sm is st:Nat):RC:=.seq (.seq (.reg (Qcz z sr ro sm is st)) (jX 58 2)) (.seq (.block 3 (.draw (Lc z sr ro sm is st))) (.reg (Ld z sr ro sm is st)))
def NR (z sr ro sm is st:Nat):List Am.Item:=[
  ja 77 3,
  ja 78 2,
  je 79 77 78,
  ⟨(some 80),.val (.bin .num .eql (.t 79) (.c (.int .i64 1))),none⟩]
def PB (z sr ro sm is st:Nat):List Am.Item:=[
  ja 81 1,
  ja 14 81]
def PC (z sr ro sm is st:Nat):List Am.Item:=[
  ja 82 2,
  ja 15 82]
def PD (z sr ro sm is st:Nat):List Am.Item:=[
  ja 83 14,
  ja 84 15,
  jf 85 83 84]
def PF (z sr ro sm is st:Nat):List Am.Item:=[
  ja 86 14,
  ja 87 15,
  jc 88 86 87,
  ⟨(some 89),.val (.cvi .u64 (.t 88)),none⟩,
  ⟨(some 90),.val (.bin .num .shr (.t 89) (.c (.int .u64 1))),none⟩,
  ⟨(some 91),.val (.cvi .i64 (.t 90)),none⟩,
  ja 16 91]
def PH (z sr ro sm is st:Nat):List Am.Item:=[
  ja 92 4,
  ja 93 0,
  ja 94 2,
  jb z 95 93 94,
  jd z 96 95,
  ja 97 0,
  ja 98 16,
  jb z 99 97 98,
  jd z 100 99,
  ⟨(some 101),.call (.t 92) [(.t 96),(.t 100)],none⟩,
  ⟨(some 102),.val (.bin .num .lss (.t 101) (.c (.int .i64 0))),none⟩,
  ⟨(some 103),.val (.un .not (.t 102)),none⟩]
def PJ (z sr ro sm is st:Nat):List Am.Item:=[
  ja 104 16,
  jh 105 104 1,
  ja 14 105]
def PK (z sr ro sm is st:Nat):List Am.Item:=[
  ja 106 16,
  ja 15 106]
def AX (z sr ro sm is st:Nat):RC:=.seq (.seq (.reg (PD z sr ro sm is st)) (jX 85 4)) (.block 5 (.seq (.reg (PF z sr ro sm is st)) (.seq (.draw (PH z sr ro sm is st)) (.cond (.t 103) (.reg (PJ z sr ro sm is st)) (.reg (PK z sr ro sm is st))))))
def PM (z sr ro sm is st:Nat):List Am.Item:=[
  ja 107 2,
  ja 17 107]
def PP (z sr ro sm is st:Nat):List Am.Item:=[
  ja 108 17,
  ja 109 14,
  ⟨(some 110),.val (.bin .num .gtr (.t 108) (.t 109)),none⟩]
def PQ (z sr ro sm is st:Nat):List Am.Item:=[
  ja 113 0,
  ja 114 17,
  ja 115 0,
  ja 116 17,
  jj 117 116 1,
  ja 118 0,
  ja 119 17,
  jj 120 119 1,
  jb z 121 118 120,
  jd z 122 121,
  ja 123 0,
  ja 124 17,
  jb z 125 123 124,
  jd z 126 125,
  jb z 127 113 114,
  ji z 127 122,
  jb z 128 115 117,
  ji z 128 126]
def PR (z sr ro sm is st:Nat):List Am.Item:=[
  ja 111 17,
  jj 112 111 1,
  ja 17 112]
def AY (z sr ro sm is st:Nat):RC:=.seq (.seq (.reg (PP z sr ro sm is st)) (jX 110 6)) (.seq (.block 7 (.draw (PQ z sr ro sm is st))) (.reg (PR z sr ro sm is st)))
def NS (z sr ro sm is st:Nat):List Am.Item:=[
  ja 129 1,
  ja 130 3,
  jc 131 129 130,
  ⟨(some 132),.val (.cvi .u64 (.t 131)),none⟩,
  ⟨(some 133),.val (.bin .num .shr (.t 132) (.c (.int .u64 1))),none⟩,
  ⟨(some 134),.val (.cvi .i64 (.t 133)),none⟩,
  ja 18 134]
def NT (z sr ro sm is st:Nat):List Am.Item:=[
  ja 135 18,
  ja 136 2,
  jc 137 135 136,
  ja 19 137]
def NU (z sr ro sm is st:Nat):List Am.Item:=[
  jk 20 0,
  jk 21 0]
def NV (z sr ro sm is st:Nat):List Am.Item:=[
  ja 138 2,
  ja 139 18,
  ⟨(some 140),.val (.bin .num .gtr (.t 138) (.t 139)),none⟩]
def NW (z sr ro sm is st:Nat):List Am.Item:=[
  ja 141 19,
  ja 142 3,
  je 143 141 142,
  ja 20 143]
def NX (z sr ro sm is st:Nat):List Am.Item:=[
  ja 144 18,
  ja 21 144]
def NY (z sr ro sm is st:Nat):List Am.Item:=[
  ja 145 1,
  ja 20 145]
def NZ (z sr ro sm is st:Nat):List Am.Item:=[
  ja 146 2,
  ja 21 146]
def N0 (z sr ro sm is st:Nat):List Am.Item:=[
  ja 147 19,
  jj 148 147 1,
  ja 22 148]
def N1 (z sr ro sm is st:Nat):List Am.Item:=[
  ja 149 20,
  ja 150 21,
  jf 151 149 150]
def N2 (z sr ro sm is st:Nat):List Am.Item:=[
  ja 152 20,
  ja 153 21,
  jc 154 152 153,
  ⟨(some 155),.val (.cvi .u64 (.t 154)),none⟩,
  ⟨(some 156),.val (.bin .num .shr (.t 155) (.c (.int .u64 1))),none⟩,
  ⟨(some 157),.val (.cvi .i64 (.t 156)),none⟩,
  ja 23 157]
def N3 (z sr ro sm is st:Nat):List Am.Item:=[
  ja 158 4,
  ja 159 0,
  ja 160 22,
  ja 161 23,
  je 162 160 161,
  jb z 163 159 162,
  jd z 164 163,
  ja 165 0,
  ja 166 23,
  jb z 167 165 166,
  jd z 168 167,
  ⟨(some 169),.call (.t 158) [(.t 164),(.t 168)],none⟩,
  ⟨(some 170),.val (.bin .num .lss (.t 169) (.c (.int .i64 0))),none⟩,
  ⟨(some 171),.val (.un .not (.t 170)),none⟩]
def N4 (z sr ro sm is st:Nat):List Am.Item:=[
  ja 172 23,
  jh 173 172 1,
  ja 20 173]
def N5 (z sr ro sm is st:Nat):List Am.Item:=[
  ja 174 23,
  ja 21 174]
def N6 (z sr ro sm is st:Nat):RC:=.seq (.seq (.reg (N1 z sr ro sm is st)) (jX 151 8)) (.block 9 (.seq (.reg (N2 z sr ro sm is st)) (.seq (.draw (N3 z sr ro sm is st)) (.cond (.t 171) (.reg (N4 z sr ro sm is st)) (.reg (N5 z sr ro sm is st))))))
def HY (z sr ro sm is st:Nat):List Am.Item:=[
  ja 175 19,
  ja 176 20,
  je 177 175 176,
  ja 24 177]
def HZ (z sr ro sm is st:Nat):List Am.Item:=[
  ja 178 20,
  ja 179 2,
  jf 180 178 179,
  ja 181 180,
  jg 182 2 181,
  jg 183 24 181,
  ⟨(some 184),.val (.bin .num .lss (.t 182) (.t 183)),(some (181,true))⟩,
  ⟨(some 185),.val (.pick (.t 181) (.t 184) (.c (.bool false))),none⟩]
def H1 (z sr ro sm is st:Nat):List Am.Item:=[
  ja 186 0,
  ja 187 20,
  ja 188 2,
  ja 189 24,
  ja 190 4,
  ⟨(some 191),.callF (.f ro) [(.t 186),(.t 187),(.t 188),(.t 189),(.t 190)],none⟩]
def UV (z sr ro sm is st:Nat):List Am.Item:=[
  ja 192 1,
  ja 193 20,
  jf 194 192 193,
  ja 195 194,
  jg 196 20 195,
  jg 197 18 195,
  ⟨(some 198),.val (.bin .num .lss (.t 196) (.t 197)),(some (195,true))⟩,
  ⟨(some 199),.val (.pick (.t 195) (.t 198) (.c (.bool false))),none⟩]
def UW (z sr ro sm is st:Nat):List Am.Item:=[
  ja 200 0,
  ja 201 1,
  ja 202 20,
  ja 203 18,
  ja 204 4,
  ⟨(some 205),.callF (.f sm) [(.t 200),(.t 201),(.t 202),(.t 203),(.t 204)],none⟩]
def Yr (z sr ro sm is st:Nat):List Am.Item:=[
  ja 206 18,
  ja 207 24,
  jf 208 206 207,
  ja 209 208,
  jg 210 24 209,
  jg 211 3 209,
  ⟨(some 212),.val (.bin .num .lss (.t 210) (.t 211)),(some (209,true))⟩,
  ⟨(some 213),.val (.pick (.t 209) (.t 212) (.c (.bool false))),none⟩]
def Ys (z sr ro sm is st:Nat):List Am.Item:=[
  ja 214 0,
  ja 215 18,
  ja 216 24,
  ja 217 3,
  ja 218 4,
  ⟨(some 219),.callF (.f sm) [(.t 214),(.t 215),(.t 216),(.t 217),(.t 218)],none⟩]
def rsm (z sr ro sm is st:Nat):RC:=.seq (.seq (.reg (C7 z sr ro sm is st)) (.cond (.t 28) (.seq (.reg (AT z sr ro sm is st)) (.seq (.reg (AU z sr ro sm is st)) (.seq (.block 0 (.loop (Qcy z sr ro sm is st))) (.seq (.seq (.reg (AW z sr ro sm is st)) (.block 2 (.loop (QcA z sr ro sm is st)))) (.ret))))) (.skip))) (.seq (.seq (.reg (NR z sr ro sm is st)) (.cond (.t 80) (.seq (.reg (PB z sr ro sm is st)) (.seq (.reg (PC z sr ro sm is st)) (.seq (.block 4 (.loop (AX z sr ro sm is st))) (.seq (.seq (.reg (PM z sr ro sm is st)) (.block 6 (.loop (AY z sr ro sm is st)))) (.ret))))) (.skip))) (.seq (.reg (NS z sr ro sm is st)) (.seq (.reg (NT z sr ro sm is st)) (.seq (.reg (NU z sr ro sm is st)) (.seq (.seq (.reg (NV z sr ro sm is st)) (.cond (.t 140) (.seq (.reg (NW z sr ro sm is st)) (.reg (NX z sr ro sm is st))) (.seq (.reg (NY z sr ro sm is st)) (.reg (NZ z sr ro sm is st))))) (.seq (.reg (N0 z sr ro sm is st)) (.seq (.block 8 (.loop (N6 z sr ro sm is st))) (.seq (.reg (HY z sr ro sm is st)) (.seq (.seq (.reg (HZ z sr ro sm is st)) (.cond (.t 185) (.reg (H1 z sr ro sm is st)) (.skip))) (.seq (.seq (.reg (UV z sr ro sm is st)) (.cond (.t 199) (.reg (UW z sr ro sm is st)) (.skip))) (.seq (.reg (Yr z sr ro sm is st)) (.cond (.t 213) (.reg (Ys z sr ro sm is st)) (.skip)))))))))))))
def N7:List RR:=[]
def QcC (z sr ro sm is st:Nat):List Am.Item:=[
  ja 10 1,
  jh 11 10 1,
  ja 8 11]
def QcD (z sr ro sm is st:Nat):List Am.Item:=[
  ja 12 8,
  ja 13 2,
  jf 14 12 13]
def QcE (z sr ro sm is st:Nat):List Am.Item:=[
  ja 17 8,
  ja 9 17]
def QcF (z sr ro sm is st:Nat):List Am.Item:=[
  ja 18 9,
  ja 19 1,
  ⟨(some 20),.val (.bin .num .gtr (.t 18) (.t 19)),none⟩,
  ja 21 20,
  jg 22 3 21,
  jg 23 0 21,
  jg 24 9 21,
  ⟨(some 25),.val (.iaddr z none (.t 23) (.t 24)),(some (21,true))⟩,
  ⟨(some 26),.val (.loadr (some z) (.t 25)),(some (21,true))⟩,
  jg 27 0 21,
  jg 28 9 21,
  ⟨(some 29),.val (.bin .num .sub (.t 28) (.c (.int .i64 1))),(some (21,true))⟩,
  ⟨(some 30),.val (.iaddr z none (.t 27) (.t 29)),(some (21,true))⟩,
  ⟨(some 31),.val (.loadr (some z) (.t 30)),(some (21,true))⟩,
  ⟨(some 32),.call (.t 22) [(.t 26),(.t 31)],(some (21,true))⟩,
  ⟨(some 33),.val (.bin .num .lss (.t 32) (.c (.int .i64 0))),(some (21,true))⟩,
  ⟨(some 34),.val (.pick (.t 21) (.t 33) (.c (.bool false))),none⟩]
def QcG (z sr ro sm is st:Nat):List Am.Item:=[
  ja 37 0,
  ja 38 9,
  ja 39 0,
  ja 40 9,
  jj 41 40 1,
  ja 42 0,
  ja 43 9,
  jj 44 43 1,
  jb z 45 42 44,
  jd z 46 45,
  ja 47 0,
  ja 48 9,
  jb z 49 47 48,
  jd z 50 49,
  jb z 51 37 38,
  ji z 51 46,
  jb z 52 39 41,
  ji z 52 50]
def QcH (z sr ro sm is st:Nat):List Am.Item:=[
  ja 35 9,
  jj 36 35 1,
  ja 9 36]
def QcI (z sr ro sm is st:Nat):RC:=.seq (.seq (.draw (QcF z sr ro sm is st)) (jX 34 2)) (.seq (.block 3 (.draw (QcG z sr ro sm is st))) (.reg (QcH z sr ro sm is st)))
def QcJ (z sr ro sm is st:Nat):List Am.Item:=[
  ja 15 8,
  jh 16 15 1,
  ja 8 16]
def QcK (z sr ro sm is st:Nat):RC:=.seq (.seq (.reg (QcD z sr ro sm is st)) (jX 14 0)) (.seq (.block 1 (.seq (.reg (QcE z sr ro sm is st)) (.block 2 (.loop (QcI z sr ro sm is st))))) (.reg (QcJ z sr ro sm is st)))
def ris (z sr ro sm is st:Nat):RC:=.seq (.reg (QcC z sr ro sm is st)) (.block 0 (.loop (QcK z sr ro sm is st)))
def ois:List RR:=[]
def QcL (z sr ro sm is st:Nat):List Am.Item:=[
  jk 6 20]
def QcM (z sr ro sm is st:Nat):List Am.Item:=[
  ja 10 6,
  jk 7 0,
  ja 8 10]
def QcN (z sr ro sm is st:Nat):List Am.Item:=[
  ja 11 8,
  ja 12 1,
  ⟨(some 13),.val (.bin .num .leq (.t 11) (.t 12)),none⟩]
def QcO (z sr ro sm is st:Nat):List Am.Item:=[
  ja 14 0,
  ja 15 7,
  ja 16 8,
  ja 17 2,
  ⟨(some 18),.callF (.f is) [(.t 14),(.t 15),(.t 16),(.t 17)],none⟩]
def QcP (z sr ro sm is st:Nat):List Am.Item:=[
  ja 19 8,
  ja 7 19]
def QcQ (z sr ro sm is st:Nat):List Am.Item:=[
  ja 20 8,
  ja 21 6,
  jc 22 20 21,
  ja 8 22]
def QcR (z sr ro sm is st:Nat):RC:=.seq (.seq (.reg (QcN z sr ro sm is st)) (jX 13 0)) (.block 1 (.seq (.reg (QcO z sr ro sm is st)) (.seq (.reg (QcP z sr ro sm is st)) (.reg (QcQ z sr ro sm is st)))))
def QcS (z sr ro sm is st:Nat):List Am.Item:=[
  ja 23 0,
  ja 24 7,
  ja 25 1,
  ja 26 2,
  ⟨(some 27),.callF (.f is) [(.t 23),(.t 24),(.t 25),(.t 26)],none⟩]
def QcT (z sr ro sm is st:Nat):List Am.Item:=[
  ja 28 6,
  ja 29 1,
  jf 30 28 29]
def QcU (z sr ro sm is st:Nat):List Am.Item:=[
  ja 31 6,
  ⟨(some 32),.val (.bin .num .mul (.c (.int .i64 2)) (.t 31)),none⟩,
  jk 7 0,
  ja 8 32]
def QcV (z sr ro sm is st:Nat):List Am.Item:=[
  ja 33 8,
  ja 34 1,
  ⟨(some 35),.val (.bin .num .leq (.t 33) (.t 34)),none⟩]
def Le (z sr ro sm is st:Nat):List Am.Item:=[
  ja 36 0,
  ja 37 7,
  ja 38 7,
  ja 39 6,
  jc 40 38 39,
  ja 41 8,
  ja 42 2,
  ⟨(some 43),.callF (.f sm) [(.t 36),(.t 37),(.t 40),(.t 41),(.t 42)],none⟩]
def Lf (z sr ro sm is st:Nat):List Am.Item:=[
  ja 44 8,
  ja 7 44]
def Lg (z sr ro sm is st:Nat):List Am.Item:=[
  ja 45 8,
  ja 46 6,
  ⟨(some 47),.val (.bin .num .mul (.c (.int .i64 2)) (.t 46)),none⟩,
  jc 48 45 47,
  ja 8 48]
def QcW (z sr ro sm is st:Nat):RC:=.seq (.seq (.reg (QcV z sr ro sm is st)) (jX 35 4)) (.block 5 (.seq (.reg (Le z sr ro sm is st)) (.seq (.reg (Lf z sr ro sm is st)) (.reg (Lg z sr ro sm is st)))))
def Lh (z sr ro sm is st:Nat):List Am.Item:=[
  ja 49 7,
  ja 50 6,
  jc 51 49 50,
  ja 9 51]
def Li (z sr ro sm is st:Nat):List Am.Item:=[
  ja 52 9,
  ja 53 1,
  jf 54 52 53]
def Lj (z sr ro sm is st:Nat):List Am.Item:=[
  ja 55 0,
  ja 56 7,
  ja 57 9,
  ja 58 1,
  ja 59 2,
  ⟨(some 60),.callF (.f sm) [(.t 55),(.t 56),(.t 57),(.t 58),(.t 59)],none⟩]
def PU (z sr ro sm is st:Nat):List Am.Item:=[
  ja 61 6,
  ⟨(some 62),.val (.bin .num .mul (.t 61) (.c (.int .i64 2))),none⟩,
  ja 6 62]
def QcX (z sr ro sm is st:Nat):RC:=.seq (.seq (.reg (QcT z sr ro sm is st)) (jX 30 2)) (.block 3 (.seq (.reg (QcU z sr ro sm is st)) (.seq (.block 4 (.loop (QcW z sr ro sm is st))) (.seq (.seq (.reg (Lh z sr ro sm is st)) (.seq (.reg (Li z sr ro sm is st)) (.cond (.t 54) (.reg (Lj z sr ro sm is st)) (.skip)))) (.reg (PU z sr ro sm is st))))))
def rst (z sr ro sm is st:Nat):RC:=.seq (.reg (QcL z sr ro sm is st)) (.seq (.reg (QcM z sr ro sm is st)) (.seq (.block 0 (.loop (QcR z sr ro sm is st))) (.seq (.reg (QcS z sr ro sm is st)) (.block 2 (.loop (QcX z sr ro sm is st))))))
def ost:List RR:=[]
def QcY (z sr ro sm is st:Nat):List Am.Item:=[
  ja 4 0,
  ja 5 0,
  ⟨(some 6),.val (.len 1 (.t 5)),none⟩,
  ja 7 1,
  ⟨(some 8),.callF (.f st) [(.t 4),(.t 6),(.t 7)],none⟩]
def rss (z sr ro sm is st:Nat):RC:=.reg (QcY z sr ro sm is st)
def oss:List RR:=[]
structure Cs (P:Program)(z sr ro sm is st ss:Nat):Prop where
 csr:CK P sr 38 (rsr z sr ro sm is st) osr
 cro:CK P ro 58 (rro z sr ro sm is st) oro
 csm:CK P sm 220 (rsm z sr ro sm is st) N7
 cis:CK P is 53 (ris z sr ro sm is st) ois
 cst:CK P st 63 (rst z sr ro sm is st) ost
 css:CK P ss 9 (rss z sr ro sm is st) oss
end Tg
namespace Am
open Go Bt
def Ez (E:AV->Prop)(sz:Nat)(x:AV):Prop:=E x/\∃l,x=.agg l/\l.length=sz/\AV.rfL l=true/\l.all AV.leaf=true/\∀m,AV.stillL false m l=some l
variable {E:AV->Prop}
theorem Ez.part {sz:Nat}{x:AV}(h:Ez E sz x):Am.part x.cells 0 (some sz)=some x:=by
 obtain⟨_,l,rfl,rfl,_,_,_⟩:=h;simp[Am.part,AV.cells]
theorem Ez.len {sz:Nat}{x:AV}(h:Ez E sz x):x.cells.length=sz:=by
 obtain⟨_,l,rfl,rfl,_,_,_⟩:=h;rfl
theorem Ez.leaf {sz:Nat}{x:AV}(h:Ez E sz x):x.cells.all AV.leaf=true:=by
 obtain⟨_,l,rfl,_,_,h,_⟩:=h;exact h
theorem Ez.rf {sz:Nat}{x:AV}(h:Ez E sz x):x.rf=true:=by
 obtain⟨_,l,rfl,_,h,_,_⟩:=h;exact h
theorem Ez.still {sz:Nat}{x:AV}(h:Ez E sz x)(m:Qk):x.still false m=some x:=by
 obtain⟨_,l,rfl,_,_,_,h⟩:=h;simp only[AV.still,h m,QnB]
theorem Ht {sz:Nat}{x y:AV}(h:Ez E sz x)(k:Ez E sz y)(m:Qk):AV.stillL false m [x,y]=some [x,y]:=by
 simp only[AV.stillL,h.still,k.still]
theorem Y0 {sz:Nat}{x y:AV}(h:Ez E sz x)(k:Ez E sz y):AV.rfL [x,y]=true:=by
 simp only[AV.rfL,h.rf,k.rf,Bool.and_self]
theorem Us {P:Program}{f:Fr}{m:Qk}{ds:List DF}{its:List Item}{d:Nat}{K:St->Prop}{k:Nat}{r:RA}{args:List RA}{ys:List AV}{v:AV}(hr:r.ev f=.fn (.func k) [] [])(hk:Qi P k ys v)(hy:AV.stillL false m (args.map (RA.ev f))=some ys)(h1:AV.rfL ys=true)(h2:v.rf=true)(h3:AV.rfL (args.map (RA.ev f))=true\/v.nl=true)(h:QF P its ⟨QL f d v,m,ds⟩ K) :
  QF P (⟨some d,.call r args,none⟩ :: its) ⟨f,m,ds⟩ K:=by
 refine⟨k,[],[],ys,v,hr,?_,h1,hk,h2,?_,h⟩
 ·simpa using hy
 ·simpa using h3
theorem put_put:∀ {m:Qk} {l s:Nat} {o o':Ob},Am.put (Am.put m l s o) l s o'=Am.put m l s o'
 | [],_,_,_,_=>rfl
 |fr :: m,0,s,o,o'=>by simp only[Am.put,upd_upd']
 |fr :: m,l+1,s,o,o'=>by simp only[Am.put,put_put (m:=m)]
where
 upd_upd' {f:Nat->Ob} {d:Nat} {x y:Ob}:QL (QL f d x) d y=QL f d y:=by
  funext i;simp only[QL];cases Nat.beq i d<;>rfl
theorem put_self:∀ {m:Qk} {l s:Nat} {o:Ob},Qc m l s=o->Am.put m l s o=m
 | [],_,_,_,_=>rfl
 |fr :: m,0,s,o,h=>by
  simp only[Am.put];congr 1
  funext i;simp only[QL];cases hb:Nat.beq i s with
  |false=>rfl
  |true=>rw[Qm6 hb];exact h.symm
 |fr :: m,l+1,s,o,h=>by simp only[Am.put,put_self (m:=m) h]
section
variable {m:Qk}{fr:Nat->Ob}{lv s g sz n i:Nat}{cur:List AV}{x y:AV}
theorem Ue (au:lv<m.length)(hx:cur[i]? = some x)(he:Ez E sz x):XH (fr :: Am.put m lv s (.vec g sz cur)) (some sz) (.vptr (lv+1) s g i 0)=some x:=by
 have e:Qc (fr :: Am.put m lv s (.vec g sz cur)) (lv+1) s=.vec g sz cur:=Qt au;simp only[XH,e,if_true,hx,he.part]
theorem DW (au:lv<m.length)(hx:cur[i]? = some x)(he:Ez E sz x)(hy:Ez E sz y)(h0:sz≠0):XA (fr :: Am.put m lv s (.vec g sz cur)) (.vptr (lv+1) s g i 0) y.cells=some (fr :: Am.put m lv s (.vec g sz (cur.set i y))):=by
 have e:Qc (fr :: Am.put m lv s (.vec g sz cur)) (lv+1) s=.vec g sz cur:=Qt au;obtain⟨_,l,rfl,hl,_,_,_⟩:=he;obtain⟨_,k,rfl,hk,hf,_,_⟩:=hy;have hc:0+(AV.agg k).cells.length<=(AV.agg l).cells.length/\(AV.agg k).cells.length≠0/\AV.rfL (AV.agg k).cells=true:=by
  simp only[AV.cells];exact⟨ψ,ψ,hf⟩
 simp only[XA,e,if_true,hx,Qnj hc];have hs:splice l 0 k=k:=by
  simp only[splice,Qol,Qny,QnA];rw[QnO ψ,Qof]
 simp only[Ka,AV.cells,hs,Am.put,put_put]
theorem Uf (au:lv<m.length)(hi:i<n):Qg (fr :: Am.put m lv s (.vec g sz cur)) sz none (.vec (lv+1) s g 0 n false) ((i:Nat):Int)=some (.vptr (lv+1) s g i 0):=by
 have e:Qc (fr :: Am.put m lv s (.vec g sz cur)) (lv+1) s=.vec g sz cur:=Qt au;exact ι
end
theorem put_len:∀ {m:Qk} {l s:Nat} {o:Ob},(Am.put m l s o).length=m.length
 | [],_,_,_=>rfl
 |_ :: _,0,_,_=>rfl
 |fr :: m,l+1,s,o=>by simp only[Am.put,Qnq,put_len (m:=m)]
end Am
namespace Tz
open Go Am Bt Tg
variable {Pg:Program}{cz sr ro sm is st ss:Nat}(hC:Tg.Cs Pg cz sr ro sm is st ss)(aB:cz≠0)
variable {E:AV->Prop}
def PV (X cur:List AV)(p q i:Nat):Prop :=
 cur.length=X.length/\∀j,cur[j]? = if p<=j/\j<p+i then X[q+(j-p)]? else if q<=j/\j<q+i then X[p+(j-q)]? else X[j]?
theorem PV.step {X cur:List AV}{p q i n:Nat}(h:PV X cur p q i)(hi:i<n)(hpq:p+n<=q)(hq:q+n<=X.length){x y:AV}(hx:X[q+i]? = some x)(hy:X[p+i]? = some y) :
  PV X ((cur.set (p+i) x).set (q+i) y) p q (i+1):=by
 obtain⟨h1,h2⟩:=h;refine⟨ì,λj=>?_⟩;rw[List.getElem?_set,List.length_set,h1,List.getElem?_set,h1,h2 j];by_cases a:q+i=j
 ·subst a;rw[Qnj rfl,Qnj ψ,Qni ψ,Qnj ψ,show p+(q+i-q)=p+i by omega,hy]
 ·rw[Qni a];by_cases b:p+i=j
  ·subst b;rw[Qnj rfl,Qnj ψ,Qnj ψ,show q+(p+i-p)=q+i by omega,hx]
  ·rw[Qni b]
   repeat' split
   all_goals first|rfl|(exfalso;omega)|(congr 1;omega)
theorem PV.done {P A M B S cur:List AV}(h:PV (P++A++M++B++S) cur P.length (P.length+A.length+M.length) A.length)(tB:A.length=B.length):cur=P++B++M++A++S:=by
 apply List.ext_getElem?
 intro j;rw[h.2 j];simp only[List.getElem?_append,QnP]
 repeat' split
 all_goals first|rfl|(exfalso;omega)|(congr 1;omega)
def SwS (cz:Nat)(m:Qk)(lv s g N p q n:Nat)(X:List AV)(k:Nat)(st:St):Prop :=
 ∃f i cur,st=⟨f,[Qb]++Am.put m lv s (.vec g cz cur),[]⟩/\k=n-i/\i<=n/\PV X cur p q i/\
  f 0=.vec (lv+1) s g 0 N false/\f 1=.int .i64 (p:Nat)/\f 2=.int .i64 (q:Nat)/\f 3=.int .i64 (n:Nat)/\f 10=.int .i64 (i:Nat)
include hC aB in
theorem QkI (cmp:AV)(lv s g:Nat)(P A M B S:List AV)(m:Qk)(hl:Am.Qc m lv s=.vec g cz (P++A++M++B++S))(tB:A.length=B.length)(he:∀x∈P++A++M++B++S,Ez E cz x)
  (hn:(P++A++M++B++S).length<4611686018427387904) :
  Qf Pg sr [.vec lv s g 0 (P++A++M++B++S).length false,.int .i64 (P.length:Nat),.int .i64 ((P.length+A.length+M.length:Nat):Int),.int .i64 (A.length:Nat),cmp] m
   (λx m1=>x=.tup []/\m1=Am.put m lv s (.vec g cz (P++B++M++A++S))):=by
 have _:=hC;have _:=aB;have au:lv<m.length:=Xy è;have hlen:(P++A++M++B++S).length=P.length+A.length+M.length+B.length+S.length:=ī
 refine hC.csr.go ό ?_;simp only[Qce,rsr,osr,Qa,seval];have h0:m=Am.put m lv s (.vec g cz (P++A++M++B++S)):=(put_self hl).symm;generalize hX:P++A++M++B++S=X at *;generalize hp:P.length=p at *;generalize hq:p+A.length+M.length=q at *;generalize pE:A.length=n at *;refine Qj (SwS cz m lv s g X.length p q n X) _ ⟨_,0,X,Ć,rfl,Qnk _,⟨rfl,λj=>?_⟩,ϋ,ϋ,ϋ,ϋ,ϒ⟩ ?_
 ·rw[Qni ψ,Qni ψ]
 rintro k st ⟨f,i,cur,rfl,rfl,hi,j4,f0,f1,f2,f3,f10⟩;simp only[Qci,Qcf,Qcg,Qch,f3,f10,Qa,seval];by_cases aa:i<n
 ·have d0:decide ((i:Int)<(n:Int))=true:=Ϗ
  have e1:IntKind.i64.wrap ((p:Int)+(i:Int))=((p+i:Nat):Int):=ϐ
  have e2:IntKind.i64.wrap ((q:Int)+(i:Int))=((q+i:Nat):Int):=ϐ
  have e3:IntKind.i64.wrap ((i:Int)+1)=((i+1:Nat):Int):=ϐ
  obtain⟨x,hx⟩:∃x,X[q+i]? = some x:=⟨_,Qnb ψ⟩;obtain⟨y,hy⟩:∃y,X[p+i]? = some y:=⟨_,Qnb ψ⟩;have ex:=he x (Qnp hx);have ey:=he y (Qnp hy);have cx:cur[q+i]? = some x:=by rw[j4.2,Qni ψ,Qni ψ,hx]
  have cy:cur[p+i]? = some y:=by rw[j4.2,Qni ψ,Qni ψ,hy]
  have xk:(cur.set (p+i) x)[q+i]? = some x:=by rw[Qpk ψ,cx]
  simp only[d0,e1,e2,e3,f0,f1,f2,f10,Uf au (show q+i<X.length by omega),Uf au (show p+i<X.length by omega),Ue au cx ex,Ue au cy ey,ex.len,ey.len,ex.leaf,ey.leaf,DW au cy ey ex aB,DW au xk ex ey aB,Qa,seval];exact⟨n-(i+1),ψ,_,i+1,_,rfl,rfl,ψ,j4.step aa ψ ψ hx hy,ϙ,ϩ,ϥ,Ψ,ϋ⟩
 ·have d0:decide ((i:Int)<(n:Int))=false:=Ϗ
  have fY:i=n:=ψ
  subst fY;have hc:=PV.done (P:=P) (A:=A) (M:=M) (B:=B) (S:=S) (cur:=cur) (by rw[hX,hp,pE,hq];exact j4) ψ;simp only[d0,hc,put_len,Qa,seval]
include hC aB in
theorem VQ (cmp:AV){fr:Nat->Ob}{lv s g N a b n:Nat}(P A M B S:List AV){m:Qk}(au:lv<m.length)(tB:A.length=B.length)(he:∀x∈P++A++M++B++S,Ez E cz x)
  (hn:(P++A++M++B++S).length<4611686018427387904) (hN:N=(P++A++M++B++S).length) (ha:a=P.length) (hb:b=P.length+A.length+M.length) (hc:n=A.length) :
  Qf Pg sr [.vec (lv+1) s g 0 N false,.int .i64 (a:Nat),.int .i64 (b:Nat),.int .i64 (n:Nat),cmp] (fr :: Am.put m lv s (.vec g cz (P++A++M++B++S)))
   (λx m1=>x=.tup []/\m1=fr :: Am.put m lv s (.vec g cz (P++B++M++A++S))):=by
 have _:=hC;have _:=aB;subst hN ha hb hc;refine(QkI hC aB cmp (lv+1) s g P A M B S (fr :: Am.put m lv s (.vec g cz (P++A++M++B++S))) (Qt (m:=m) au) tB he hn).mono λx m1 h=>⟨h.1,?_⟩
 exact LE
def RoS (cz:Nat)(E:AV->Prop)(m:Qk)(lv s g N al:Nat)(T:List AV)(cmp:AV)(k:Nat)(st:St):Prop :=
 ∃f P A B S,st=⟨f,[Qb]++Am.put m lv s (.vec g cz (P++A++B++S)),[]⟩/\k=A.length+B.length/\0<A.length/\0<B.length/\P.length+A.length=al/\P++B++A++S=T/\(P++A++B++S).length=N/\(∀x∈P++A++B++S,Ez E cz x)/\
  f 0=.vec (lv+1) s g 0 N false/\f 2=.int .i64 (al:Nat)/\f 4=cmp/\f 10=.int .i64 (A.length:Nat)/\f 11=.int .i64 (B.length:Nat)
include hC aB in
theorem QkJ (cmp:AV)(lv s g:Nat)(P X Y S:List AV)(m:Qk)(hl:Am.Qc m lv s=.vec g cz (P++X++Y++S))(hX:0<X.length)(hY:0<Y.length)(he:∀x∈P++X++Y++S,Ez E cz x)
  (hn:(P++X++Y++S).length<4611686018427387904) :
  Qf Pg ro [.vec lv s g 0 (P++X++Y++S).length false,.int .i64 (P.length:Nat),.int .i64 ((P.length+X.length:Nat):Int),.int .i64 ((P.length+X.length+Y.length:Nat):Int),cmp] m
   (λx m1=>x=.tup []/\m1=Am.put m lv s (.vec g cz (P++Y++X++S))):=by
 have _:=hC;have _:=aB;have au:lv<m.length:=Xy è;have hlen:(P++X++Y++S).length=P.length+X.length+Y.length+S.length:=ī
 refine hC.cro.go ό ?_;have e1:IntKind.i64.wrap (((P.length+X.length:Nat):Int)-(P.length:Int))=((X.length:Nat):Int):=ϐ
 have e2:IntKind.i64.wrap (((P.length+X.length+Y.length:Nat):Int)-((P.length+X.length:Nat):Int))=((Y.length:Nat):Int):=ϐ
 simp only[Qcj,Qck,Qcs,rro,oro,e1,e2,Qa,seval];have h0:m=Am.put m lv s (.vec g cz (P++X++Y++S)):=(put_self hl).symm;refine Qj (RoS cz E m lv s g (P++X++Y++S).length (P.length+X.length) (P++Y++X++S) cmp.sh) _ ⟨_,P,X,Y,S,Ć,rfl,hX,hY,rfl,rfl,rfl,he,ϋ,ϋ,ϋ,ϋ,ϋ⟩ ?_;generalize hT:P++Y++X++S=T;generalize hN:(P++X++Y++S).length=N at *;generalize r8:P.length+X.length=al at *;clear hl he h0 hX hY e1 e2;rintro k st ⟨f,P',A,B,S',rfl,rfl,hA,hB,hm,rX,gJ,gB,f0,f2,f4,f10,f11⟩;have uO:(P'++A++B++S').length=P'.length+A.length+B.length+S'.length:=ī
 simp only[Qcr,Qcl,Qcm,Qcn,Qco,Qcp,Qcq,f10,f11,Qa,seval];by_cases d_:A.length=B.length
 ·have d0:((A.length:Int) != (B.length:Int))=false:=Ϗ
  have e1:IntKind.i64.wrap ((al:Int)-(A.length:Int))=((P'.length:Nat):Int):=ϐ
  simp only[d0,e1,f0,f2,f4,f10,Qa,seval];have hc:=VQ hC aB cmp.sh (fr:=Qb) (g:=g) (s:=s) (N:=N) (a:=P'.length) (b:=al) (n:=A.length) P' A [] B S' au d_ (by simpa using gB) (by simp only[Qof];omega) (by simp only[Qof];omega) rfl (by simp only[Qn7];omega) rfl;simp only[Qof]at hc;refine Qh hc rfl ?_;simp only[rX,put_len,Qa,seval]
 ·have d0:((A.length:Int) != (B.length:Int))=true:=Ϗ
  simp only[d0,f10,f11,Qa,seval];by_cases ef:B.length<A.length
  ·have d1:decide ((A.length:Int) > (B.length:Int))=true:=Ϗ
   have e1:IntKind.i64.wrap ((al:Int)-(A.length:Int))=((P'.length:Nat):Int):=ϐ
   have e2:IntKind.i64.wrap ((A.length:Int)-(B.length:Int))=((A.length-B.length:Nat):Int):=ϐ
   simp only[d1,e1,f0,f2,f4,f10,f11,Qa,seval];have dJ:P'++A++B++S'=P'++A.take B.length++A.drop B.length++B++S':=by
    rw[Qnw P' (A.take _),Qou]
   have aQ:(A.take B.length).length=B.length:=Ϗ
   rw[dJ]at gB gJ |-;refine Qh (VQ hC aB cmp.sh (a:=P'.length) (b:=al) (n:=B.length) P' (A.take B.length) (A.drop B.length) B S' au aQ gB ψ gJ.symm rfl (by rw[aQ];simp;omega) aQ.symm) rfl ?_;simp only[e2,f10,f11,Qa,seval];have qn:P'++B++A.drop B.length++A.take B.length++S'=(P'++B)++A.drop B.length++A.take B.length++S':=rfl;refine⟨(A.drop B.length).length+(A.take B.length).length,?_,_,P'++B,A.drop B.length,A.take B.length,S',rfl,rfl,Ϗ,ψ,Ϗ,?_,?_,?_,ϙ,ϥ,Ν,by simp only[QnS,Qa,seval],by simp only[f11,aQ,Qa,seval]⟩
   ·simp;omega
   ·rw[<-rX];simp only[Qnw];rw[<-Qnw (A.take _),Qou]
   ·rw[<-gJ];simp only[QnP];omega
   ·intro x hx;refine gB x ?_;simp only[Qow]at hx |-
    grind
  ·have d1:decide ((A.length:Int) > (B.length:Int))=false:=Ϗ
   have e1:IntKind.i64.wrap ((al:Int)-(A.length:Int))=((P'.length:Nat):Int):=ϐ
   have e2:IntKind.i64.wrap ((B.length:Int)-(A.length:Int))=((B.length-A.length:Nat):Int):=ϐ
   have e3:IntKind.i64.wrap ((al:Int)+(B.length:Int))=((al+B.length:Nat):Int):=ϐ
   have e4:IntKind.i64.wrap (((al+B.length:Nat):Int)-(A.length:Int))=((al+B.length-A.length:Nat):Int):=ϐ
   simp only[d1,e1,e3,e4,f0,f2,f4,f10,f11,Qa,seval];have dJ:P'++A++B++S'=P'++A++B.take (B.length-A.length)++B.drop (B.length-A.length)++S':=by
    rw[Qnw (P'++A) (B.take _),Qou]
   have aQ:(B.take (B.length-A.length)).length=B.length-A.length:=ό
   have dO:(B.drop (B.length-A.length)).length=A.length:=Ϗ
   rw[dJ]at gB gJ |-;refine Qh (VQ hC aB cmp.sh (a:=P'.length) (b:=al+B.length-A.length) (n:=A.length) P' A (B.take (B.length-A.length)) (B.drop (B.length-A.length)) S' au dO.symm gB ψ gJ.symm rfl (by rw[aQ];omega) rfl) rfl ?_;simp only[e2,f10,f11,Qa,seval];refine⟨(B.drop (B.length-A.length)).length+(B.take (B.length-A.length)).length,?_,_,P',B.drop (B.length-A.length),B.take (B.length-A.length),A++S',by simp only[Qnw]<;>rfl,rfl,ψ,ψ,ψ,?_,?_,?_,ϙ,ϥ,Ν,by simp only[f10,dO,Qa,seval],by simp only[aQ,Qa,seval]⟩
   ·omega
   ·rw[<-rX];simp only[Qnw];rw[<-Qnw (B.take _),Qou]
   ·rw[<-gJ];simp only[QnP];omega
   ·intro x hx;refine gB x ?_;simp only[Qow]at hx |-
    grind
end Tz
namespace Tz
open Go Am Bt Tg So
variable {Pg:Program}{cz sr ro sm is st ss:Nat}(hC:Tg.Cs Pg cz sr ro sm is st ss)(aB:cz≠0)
variable {E:AV->Prop}
def lt (c:AV->AV->Int)(x y:AV):Bool:=decide (c x y<0)
structure Cp (Pg:Program)(cz:Nat)(E:AV->Prop)(kc:Nat)(c:AV->AV->Int):Prop where
 call:∀x y,Ez E cz x->Ez E cz y->Qi Pg kc [x,y] (.int .i64 (c x y))
 sw:SW (lt c)
def InS (cz:Nat)(m:Qk)(lv s g N i p:Nat)(kc:Nat)(c:AV->AV->Int)(P L S:List AV)(x:AV)(k:Nat)(st:St):Prop :=
 ∃f U V,st=⟨f,[Qb]++Am.put m lv s (.vec g cz (P++U++[x]++V++S)),[]⟩/\k=U.length/\U++V=L/\(∀v∈V,lt c x v=true)/\
  f 0=.vec (lv+1) s g 0 N false/\f 1=.int .i64 (P.length:Nat)/\f 2=.int .i64 (p:Nat)/\f 3=.fn (.func kc) [] []/\f 8=.int .i64 (i:Nat)/\f 9=.int .i64 ((P.length+U.length:Nat):Int)
def IoS (cz:Nat)(m:Qk)(lv s g N:Nat)(kc:Nat)(c:AV->AV->Int)(P X S:List AV)(k:Nat)(st:St):Prop :=
 ∃f i,st=⟨f,[Qb]++Am.put m lv s (.vec g cz (P++QJ (lt c) (X.take i)++X.drop i++S)),[]⟩/\k=X.length+1-i/\1<=i/\(i<=X.length\/(i=1/\X=[]))/\
  f 0=.vec (lv+1) s g 0 N false/\f 1=.int .i64 (P.length:Nat)/\f 2=.int .i64 ((P.length+X.length:Nat):Int)/\f 3=.fn (.func kc) [] []/\f 8=.int .i64 ((P.length+i:Nat):Int)
theorem AZ {α:Type}(U:List α)(h:0<U.length):∃W u,U=W++[u]:=by
 rcases List.eq_nil_or_concat U with rfl|⟨W,u,e⟩
 ·simp at h
 ·exact⟨W,u,Μ⟩
theorem DX {α:Type}{P W V:List α}{u:α}{i:Nat}(h:i=P.length+W.length):(P++(W++[u])++V)[i]? = some u:=by
 subst h;simp
include hC aB in
theorem QkK {kc:Nat}{c:AV->AV->Int}(hc:Cp Pg cz E kc c)(lv s g:Nat)(P X S:List AV)(m:Qk)(hl:Am.Qc m lv s=.vec g cz (P++X++S))(he:∀x∈P++X++S,Ez E cz x)
  (hn:(P++X++S).length<4611686018427387904) :
  Qf Pg is [.vec lv s g 0 (P++X++S).length false,.int .i64 (P.length:Nat),.int .i64 ((P.length+X.length:Nat):Int),.fn (.func kc) [] []] m
   (λx m1=>x=.tup []/\m1=Am.put m lv s (.vec g cz (P++QJ (lt c) X++S))):=by
 have _:=hC;have _:=aB;have au:lv<m.length:=Xy è;have hlen:(P++X++S).length=P.length+X.length+S.length:=ī
 refine hC.cis.go ό ?_;have e1:IntKind.i64.wrap ((P.length:Int)+1)=((P.length+1:Nat):Int):=ϐ
 simp only[QcC,ris,ois,e1,Qa,seval];have h0:m=Am.put m lv s (.vec g cz (P++QJ (lt c) (X.take 1)++X.drop 1++S)):=by
  have:P++QJ (lt c) (X.take 1)++X.drop 1++S=P++X++S:=by
   cases X with
   |nil=>simp[QJ]
   |cons x X=>simp[QJ,Z3]
  rw[this];exact(put_self hl).symm
 generalize hN:(P++X++S).length=N at *;refine Qj (IoS cz m lv s g N kc c P X S) _ ⟨_,1,Ć,rfl,Qm8 _,by
  cases X with
  |nil=>exact .inr ⟨rfl,rfl⟩
  |cons x X=>exact .inl ό,ϋ,ϋ,ϋ,ϋ,ϋ⟩ ?_
 clear h0 e1;rintro k st ⟨f,i,rfl,rfl,fi,lE,f0,f1,f2,f3,f8⟩;simp only[QcI,QcK,QcD,QcE,QcF,QcG,QcH,QcJ,f2,f8,Qa,seval];by_cases aa:i<X.length
 ·have d0:decide (((P.length+i:Nat):Int)<((P.length+X.length:Nat):Int))=true:=ϟ
  simp only[d0,f8,Qa,seval];obtain⟨x,hx⟩:∃x,X[i]? = some x:=⟨_,Qnb aa⟩;have ex:Ez E cz x:=he x (by simp[Qnp hx]);have hL:(QJ (lt c) (X.take i)).length=i:=by rw[Wg,Qn8];omega
  have xp:∀z∈QJ (lt c) (X.take i),Ez E cz z:=λz hz=>he z (by simp[QnZ (DN hz)])
  have cM:X.drop i=[x]++X.drop (i+1):=by
   rw[List.singleton_append,QnU aa];congr 1
   exact(Qna.1 hx).2
  have bZ:QJ (lt c) (X.take (i+1))=mg (lt c) (QJ (lt c) (X.take i)) [x]:=by
   rw[Qo4,hx,Option.toList_some,<-YJ hc.sw]<;>rfl
  refine Qj (InS cz m lv s g N (P.length+i) (P.length+X.length) kc c P (QJ (lt c) (X.take i)) (X.drop (i+1)++S) x) _ ⟨_,QJ (lt c) (X.take i),[],by rw[cM];simp only[Qnw,Qof]<;>rfl,rfl,Qof _,ό,ϙ,ϩ,ϥ,Ψ,by simp only[f8,Qa,seval],by simp only[hL,Qa,seval]⟩ ?_;rintro k' st ⟨f,U,V,rfl,rfl,qt,hV,f0,f1,f2,f3,f8,f9⟩;have tZ:U.length+V.length=i:=by rw[<-QnP,qt,hL]
  have ae:(P++U++[x]++V++(X.drop (i+1)++S)).length=N:=by
   rw[<-hN];simp only[QnP,QnS,QoK];omega
  simp only[f1,f9,Qa,seval];have e4:IntKind.i64.wrap (((P.length+i:Nat):Int)+1)=((P.length+(i+1):Nat):Int):=ϐ
  have fin:(∀u∈U,lt c x u=false)->P++U++[x]++V++(X.drop (i+1)++S)=P++QJ (lt c) (X.take (i+1))++X.drop (i+1)++S:=by
   intro h;rw[bZ,<-qt,UR h hV];simp
  by_cases hU:0<U.length
  ·obtain⟨W,u,rfl⟩:=AZ U hU;simp only[QnP,QoK]at tZ ae f9;have d1:decide (((P.length+(W.length+1):Nat):Int) > (P.length:Int))=true:=ϟ
   have e2:IntKind.i64.wrap (((P.length+(W.length+1):Nat):Int)-1)=((P.length+W.length:Nat):Int):=ϐ
   have eu:Ez E cz u:=xp u (by rw[<-qt];simp);have bE:(P++(W++[u])++[x]++V++(X.drop (i+1)++S))[P.length+(W.length+1)]? = some x:=by
    have:=DX (P:=P) (W:=W++[u]) (u:=x) (V:=V++(X.drop (i+1)++S)) (i:=P.length+(W.length+1)) ό
    exact Om
   have kO:(P++(W++[u])++[x]++V++(X.drop (i+1)++S))[P.length+W.length]? = some u:=by
    have:=DX (P:=P) (W:=W) (u:=u) (V:=[x]++V++(X.drop (i+1)++S)) (i:=P.length+W.length) rfl
    exact Om
   simp only[d1,e2,f0,f3,f9,QnP,Uf au (show P.length+(W.length+1)<N by omega),Uf au (show P.length+W.length<N by omega),Ue au bE ex,Ue au kO eu,Qa,seval];refine Us ϋ (hc.call x u ex eu) (Ht ex eu _) (Y0 ex eu) rfl (.inl (Y0 ex eu)) ?_;cases dg:decide (c x u<0)with
   |true=>
    have aw:((P++(W++[u])++[x]++V++(X.drop (i+1)++S)).set (P.length+(W.length+1)) u).set (P.length+W.length) x=P++W++[x]++([u]++V)++(X.drop (i+1)++S):=by
     simp[Qnw]
    have fT:((P++(W++[u])++[x]++V++(X.drop (i+1)++S)).set (P.length+(W.length+1)) u)[P.length+W.length]? = some u:=by
     rw[Qpk ψ,kO]
    simp only[dg,e2,f0,f9,Uf au (show P.length+(W.length+1)<N by omega),Uf au (show P.length+W.length<N by omega),Ue au bE ex,Ue au kO eu,ex.len,eu.len,ex.leaf,eu.leaf,DW au bE ex eu aB,DW au fT eu ex aB,Qa,seval];exact⟨W.length,ό,_,W,[u]++V,by rw[aw]<;>rfl,rfl,by rw[<-qt];simp,by
     intro v hv;rcases Qow.1 hv with hv|hv
     ·rw[Qpp.1 hv];exact dg
     ·exact hV v hv,ϙ,ϩ,ϥ,Ψ,by simp only[f8,Qa,seval],ϋ⟩
   |false=>
    have hz:∀z∈W++[u],lt c x z=false:=by
     have gH:=X5 hc.sw (X.take i);have gH:Zt (lt c) ((W++[u])++V):=by rw[qt];exact gH
     have gY:=(QoO.1 (QoO.1 gH).1).2.2;intro z hz;rcases Qow.1 hz with hz|hz
     ·exact hc.sw.nt x u z dg (gY z hz u ό)
     ·rw[Qpp.1 hz];exact dg
    simp only[dg,f8,e4,Qa,seval];exact⟨X.length+1-(i+1),ψ,_,i+1,by rw[fin hz]<;>rfl,rfl,ψ,.inl ψ,ϙ,ϩ,ϥ,Ψ,ϋ⟩
  ·have yB:U=[]:=Qoh ψ;subst yB;have d1:decide (((P.length+0:Nat):Int) > (P.length:Int))=false:=ό
   have pA:=fin ό;simp only[Qof]at pA;simp only[Qn7]at f9;simp only[d1,f8,e4,Qn7,Qa,seval];exact⟨X.length+1-(i+1),ψ,_,i+1,by rw[pA]<;>rfl,rfl,ψ,.inl ψ,ϙ,ϩ,ϥ,Ψ,ϋ⟩
 ·have d0:decide (((P.length+i:Nat):Int)<((P.length+X.length:Nat):Int))=false:=Ϣ
  have hX:QJ (lt c) (X.take i)++X.drop i=QJ (lt c) X:=by
   rcases lE with h|⟨_,rfl⟩
   ·rw[QnL ψ,QnO ψ,Qof]
   ·simp[QJ]
  have rE:P++QJ (lt c) (X.take i)++X.drop i++S=P++QJ (lt c) X++S:=by rw[Qnw P (QJ (lt c) (X.take i)) (X.drop i),hX]
  simp only[d0,rE,put_len,Qa,seval]
end Tz
namespace Tz
open Go Am Bt Tg So
variable {Pg:Program}{cz sr ro sm is st ss:Nat}(hC:Tg.Cs Pg cz sr ro sm is st ss)(aB:cz≠0)
variable {E:AV->Prop}
theorem A1 (a b:Nat)(h:a+b<9223372036854775808):IntKind.i64.wrap ((IntKind.u64.wrap ((a+b:Nat):Int)).fdiv (2 ^ min 1 64))=(((a+b) / 2:Nat):Int):=by
 rw[QD,Jl,show min 1 64=1 from rfl,show(2:Int) ^ 1=2 from rfl];have:(((a+b:Nat):Int) % 18446744073709551616)=((a+b:Nat):Int):=ψ
 rw[this,Qpy _ ψ];omega
def SaS (cz:Nat)(m:Qk)(lv s g N:Nat)(kc:Nat)(c:AV->AV->Int)(P Y S:List AV)(x:AV)(k:Nat)(st:St):Prop :=
 ∃f i j,st=⟨f,[Qb]++Am.put m lv s (.vec g cz (P++[x]++Y++S)),[]⟩/\k=j-i/\i<=j/\j<=Y.length/\(∀k y,k<i->Y[k]? = some y->lt c y x=true)/\(∀k y,j<=k->Y[k]? = some y->lt c y x=false)/\
  f 0=.vec (lv+1) s g 0 N false/\f 1=.int .i64 (P.length:Nat)/\f 4=.fn (.func kc) [] []/\f 10=.int .i64 ((P.length+1+i:Nat):Int)/\f 11=.int .i64 ((P.length+1+j:Nat):Int)
def SaT (cz:Nat)(m:Qk)(lv s g N i:Nat)(P Y S:List AV)(x:AV)(k:Nat)(st:St):Prop :=
 ∃f t,st=⟨f,[Qb]++Am.put m lv s (.vec g cz (P++Y.take t++[x]++Y.drop t++S)),[]⟩/\k=i-t/\t<=i/\
  f 0=.vec (lv+1) s g 0 N false/\f 10=.int .i64 ((P.length+1+i:Nat):Int)/\f 13=.int .i64 ((P.length+t:Nat):Int)
include hC aB in
theorem QkL {kc:Nat}{c:AV->AV->Int}(hc:Cp Pg cz E kc c)(lv s g:Nat)(P:List AV)(x:AV)(Y S:List AV)(m:Qk)(hl:Am.Qc m lv s=.vec g cz (P++[x]++Y++S))(he:∀z∈P++[x]++Y++S,Ez E cz z)
  (hn:(P++[x]++Y++S).length<4611686018427387904) (hY:Zt (lt c) Y) :
  Qf Pg sm [.vec lv s g 0 (P++[x]++Y++S).length false,.int .i64 (P.length:Nat),.int .i64 ((P.length+1:Nat):Int),.int .i64 ((P.length+1+Y.length:Nat):Int),.fn (.func kc) [] []] m
   (λv m1=>v=.tup []/\m1=Am.put m lv s (.vec g cz (P++mg (lt c) [x] Y++S))):=by
 have _:=hC;have _:=aB;have au:lv<m.length:=Xy è;have hlen:(P++[x]++Y++S).length=P.length+1+Y.length+S.length:=by simp only[QnP,QoK]
 have ex:Ez E cz x:=he x ό;have eY:∀y∈Y,Ez E cz y:=λy hy=>he y ϳ
 refine hC.csm.go ό ?_;have e1:IntKind.i64.wrap (((P.length+1:Nat):Int)-(P.length:Int))=1:=ϐ
 simp only[C7,AT,AU,AW,NR,PB,PC,PM,NS,NT,NU,NV,NW,NX,NY,NZ,N0,HY,HZ,H1,UV,UW,Yr,Ys,rsm,N7,e1,Qom,Qa,seval];have h0:m=Am.put m lv s (.vec g cz (P++[x]++Y++S)):=(put_self hl).symm;generalize hN:(P++[x]++Y++S).length=N at *;refine Qj (SaS cz m lv s g N kc c P Y S x) _ ⟨_,0,Y.length,Ć,rfl,Qnk _,Qm8 _,(by intro k y hk;exact absurd hk (Qpn _)),Đ,ϋ,ϋ,ϋ,į,ϋ⟩ ?_;clear h0 e1;rintro k st ⟨f,i,j,rfl,rfl,d_,hj,hp,hq,f0,f1,f4,f10,f11⟩;simp only[Qcy,QcA,AX,AY,N6,Qct,Qcu,Qcv,Qcw,Qcx,Qcz,Lc,Ld,PD,PF,PH,PJ,PK,PP,PQ,PR,N1,N2,N3,N4,N5,f10,f11,Qa,seval];by_cases aa:i<j
 ·have d0:decide (((P.length+1+i:Nat):Int)<((P.length+1+j:Nat):Int))=true:=ϟ
  have e2:IntKind.i64.wrap (((P.length+1+i:Nat):Int)+((P.length+1+j:Nat):Int))=(((P.length+1+i)+(P.length+1+j):Nat):Int):=ϐ
  have e3:=A1 (P.length+1+i) (P.length+1+j) ψ;have e4:((P.length+1+i)+(P.length+1+j)) / 2=P.length+1+(i+j) / 2:=ψ
  rw[e4]at e3;generalize hh:(i+j) / 2=h at *;have uH:h<j:=ψ
  have iV:i<=h:=ψ
  have e5:IntKind.i64.wrap (((P.length+1+h:Nat):Int)+1)=((P.length+1+(h+1):Nat):Int):=ϐ
  obtain⟨y,hy⟩:∃y,Y[h]? = some y:=⟨_,Qnb ψ⟩;have ey:=eY y (Qnp hy);have gy:(P++[x]++Y++S)[P.length+1+h]? = some y:=by
   rw[QoD (by simp only[QnP,QoK];omega),QoE (by simp only[QnP,QoK];omega)];rw[<-hy];congr 1;simp only[QnP,QoK];omega
  have gx:(P++[x]++Y++S)[P.length]? = some x:=by
   have:=DX (P:=P) (W:=[]) (u:=x) (V:=Y++S) (i:=P.length) rfl
   simpa only [Qnw,Qny]using this
  simp only[d0,e2,e3,f0,f1,f4,f10,f11,Uf au (show P.length+1+h<N by omega),Uf au (show P.length<N by omega),Ue au gy ey,Ue au gx ex,Qa,seval];refine Us ϋ (hc.call y x ey ex) (Ht ey ex _) (Y0 ey ex) rfl (.inl (Y0 ey ex)) ?_;cases dg:decide (c y x<0)with
  |true=>
   simp only[dg,e5,Qa,seval];exact⟨j-(h+1),ψ,_,h+1,j,rfl,rfl,ψ,hj,λk z hk hz=>YK hc.sw hY (Nat.le_of_lt_succ hk) hz hy dg,hq,ϙ,ϩ,Ν,ϋ,by simp only[f11,Qa,seval]⟩
  |false=>
   simp only[dg,Qa,seval];exact⟨h-i,ψ,_,i,h,rfl,rfl,ψ,ψ,hp,λk z hk hz=>by
    cases hb:lt c z x with
    |false=>rfl
    |true=>exact absurd (YK hc.sw hY hk hy hz hb) (by show ¬(decide _=true);rw[dg];simp),ϙ,ϩ,Ν,İ,ϋ⟩
 ·have d0:decide (((P.length+1+i:Nat):Int)<((P.length+1+j:Nat):Int))=false:=Ϣ
  have jV:j=i:=ψ
  subst jV;simp only[d0,f1,Qa,seval];have dx:mg (lt c) [x] Y=Y.take j++x :: Y.drop j:=by
   have:=QdX (lt:=lt c) (x:=x) (Y1:=Y.take j) (Y2:=Y.drop j) (λy hy=>by
    obtain⟨k,hk⟩:=QpA hy;rw[QnQ]at hk;split at hk
    ·rename_i h;exact hp k y h hk
    ·cases hk) (λy hy=>by
    obtain⟨k,hk⟩:=QpA hy;rw[QnR]at hk;exact hq _ y ψ hk)
   rwa [Qou]at this
  refine Qj (SaT cz m lv s g N j P Y S x) _ ⟨_,0,by rw[show P++Y.take 0++[x]++Y.drop 0++S=P++[x]++Y++S by simp]<;>rfl,rfl,Qnk _,ϙ,İ,į⟩ ?_;clear f0 f1 f4 f10 f11 d0 hp hq f;rintro k st ⟨f,t,rfl,rfl,ht,f0,f10,f13⟩;have e6:IntKind.i64.wrap (((P.length+1+j:Nat):Int)-1)=((P.length+j:Nat):Int):=ϐ
  have e7:IntKind.i64.wrap (((P.length+t:Nat):Int)+1)=((P.length+(t+1):Nat):Int):=ϐ
  simp only[e6,f10,f13,Qa,seval];by_cases aa:t<j
  ·have d0:decide (((P.length+t:Nat):Int)<((P.length+j:Nat):Int))=true:=ϟ
   obtain⟨y,hy⟩:∃y,Y[t]? = some y:=⟨_,Qnb ψ⟩;have ey:=eY y (Qnp hy);have cM:Y.drop t=[y]++Y.drop (t+1):=by
    rw[List.singleton_append,QnU ψ];congr 1
    exact(Qna.1 hy).2
   have bZ:Y.take (t+1)=Y.take t++[y]:=by rw[Qo4,hy]<;>rfl
   have dt:(Y.take t).length=t:=Õ
   have g1:(P++Y.take t++[x]++Y.drop t++S)[P.length+t]? = some x:=by
    have:=DX (P:=P) (W:=Y.take t) (u:=x) (V:=Y.drop t++S) (i:=P.length+t) (by rw[dt])
    exact Om
   have g2:(P++Y.take t++[x]++Y.drop t++S)[P.length+(t+1)]? = some y:=by
    have:=DX (P:=P) (W:=Y.take t++[x]) (u:=y) (V:=Y.drop (t+1)++S) (i:=P.length+(t+1)) (by rw[QnP,dt]<;>rfl);rw[cM]
    exact Om
   have g3:((P++Y.take t++[x]++Y.drop t++S).set (P.length+t) y)[P.length+(t+1)]? = some y:=by
    rw[Qpk ψ,g2]
   have aw:((P++Y.take t++[x]++Y.drop t++S).set (P.length+t) y).set (P.length+(t+1)) x=P++Y.take (t+1)++[x]++Y.drop (t+1)++S:=by
    rw[cM,bZ];simp[dt]
   simp only[d0,e7,f0,f13,Uf au (show P.length+(t+1)<N by omega),Uf au (show P.length+t<N by omega),Ue au g1 ex,Ue au g2 ey,ex.len,ey.len,ex.leaf,ey.leaf,DW au g1 ex ey aB,DW au g3 ey ex aB,Qa,seval];exact⟨j-(t+1),ψ,_,t+1,by rw[aw]<;>rfl,rfl,ψ,ϙ,İ,ϋ⟩
  ·have d0:decide (((P.length+t:Nat):Int)<((P.length+j:Nat):Int))=false:=Ϣ
   have r_:t=j:=ψ
   subst r_;have bc:P++Y.take t++[x]++Y.drop t++S=P++mg (lt c) [x] Y++S:=by rw[dx];simp
   simp only[d0,bc,put_len,Qa,seval]
end Tz
namespace Tz
open Go Am Bt Tg So
variable {Pg:Program}{cz sr ro sm is st ss:Nat}(hC:Tg.Cs Pg cz sr ro sm is st ss)(aB:cz≠0)
variable {E:AV->Prop}
def SbS (cz:Nat)(m:Qk)(lv s g N:Nat)(kc:Nat)(c:AV->AV->Int)(P X S:List AV)(y:AV)(k:Nat)(st:St):Prop :=
 ∃f i j,st=⟨f,[Qb]++Am.put m lv s (.vec g cz (P++X++[y]++S)),[]⟩/\k=j-i/\i<=j/\j<=X.length/\(∀k x,k<i->X[k]? = some x->lt c y x=false)/\(∀k x,j<=k->X[k]? = some x->lt c y x=true)/\
  f 0=.vec (lv+1) s g 0 N false/\f 2=.int .i64 ((P.length+X.length:Nat):Int)/\f 4=.fn (.func kc) [] []/\f 14=.int .i64 ((P.length+i:Nat):Int)/\f 15=.int .i64 ((P.length+j:Nat):Int)
def SbT (cz:Nat)(m:Qk)(lv s g N i:Nat)(P X S:List AV)(y:AV)(k:Nat)(st:St):Prop :=
 ∃f t,st=⟨f,[Qb]++Am.put m lv s (.vec g cz (P++X.take t++[y]++X.drop t++S)),[]⟩/\k=t-i/\i<=t/\t<=X.length/\
  f 0=.vec (lv+1) s g 0 N false/\f 14=.int .i64 ((P.length+i:Nat):Int)/\f 17=.int .i64 ((P.length+t:Nat):Int)
include hC aB in
theorem QkM {kc:Nat}{c:AV->AV->Int}(hc:Cp Pg cz E kc c)(lv s g:Nat)(P X:List AV)(y:AV)(S:List AV)(m:Qk)(hl:Am.Qc m lv s=.vec g cz (P++X++[y]++S))(he:∀x∈P++X++[y]++S,Ez E cz x)
  (hn:(P++X++[y]++S).length<4611686018427387904) (hX:Zt (lt c) X) (yT:X.length≠1) :
  Qf Pg sm [.vec lv s g 0 (P++X++[y]++S).length false,.int .i64 (P.length:Nat),.int .i64 ((P.length+X.length:Nat):Int),.int .i64 ((P.length+X.length+1:Nat):Int),.fn (.func kc) [] []] m
   (λv m1=>v=.tup []/\m1=Am.put m lv s (.vec g cz (P++mg (lt c) X [y]++S))):=by
 have _:=hC;have _:=aB;have au:lv<m.length:=Xy è;have hlen:(P++X++[y]++S).length=P.length+X.length+1+S.length:=by simp only[QnP,QoK]
 have ey:Ez E cz y:=he y ό;have eX:∀x∈X,Ez E cz x:=λx hx=>he x õ
 refine hC.csm.go ό ?_;have e1:(IntKind.i64.wrap (((P.length+X.length:Nat):Int)-(P.length:Int))==1)=false:=ó
 have e2:(IntKind.i64.wrap (((P.length+X.length+1:Nat):Int)-((P.length+X.length:Nat):Int))==1)=true:=by rw[QD];simp only[Qng];omega
 simp only[C7,AT,AU,AW,NR,PB,PC,PM,NS,NT,NU,NV,NW,NX,NY,NZ,N0,HY,HZ,H1,UV,UW,Yr,Ys,rsm,N7,e1,e2,Qa,seval];have h0:m=Am.put m lv s (.vec g cz (P++X++[y]++S)):=(put_self hl).symm;generalize hN:(P++X++[y]++S).length=N at *;refine Qj (SbS cz m lv s g N kc c P X S y) _ ⟨_,0,X.length,Ć,rfl,Qnk _,Qm8 _,(by intro k y hk;exact absurd hk (Qpn _)),Đ,ϋ,ϋ,ϋ,į,ϋ⟩ ?_;clear h0 e1 e2;rintro k st ⟨f,i,j,rfl,rfl,d_,hj,hp,hq,f0,f2,f4,f14,f15⟩;simp only[AX,AY,N6,PD,PF,PH,PJ,PK,PP,PQ,PR,N1,N2,N3,N4,N5,f14,f15,Qa,seval];by_cases aa:i<j
 ·have d0:decide (((P.length+i:Nat):Int)<((P.length+j:Nat):Int))=true:=ϟ
  have e2:IntKind.i64.wrap (((P.length+i:Nat):Int)+((P.length+j:Nat):Int))=(((P.length+i)+(P.length+j):Nat):Int):=ϐ
  have e3:=A1 (P.length+i) (P.length+j) ψ;have e4:((P.length+i)+(P.length+j)) / 2=P.length+(i+j) / 2:=ψ
  rw[e4]at e3;generalize hh:(i+j) / 2=h at *;have uH:h<j:=ψ
  have iV:i<=h:=ψ
  have e5:IntKind.i64.wrap (((P.length+h:Nat):Int)+1)=((P.length+(h+1):Nat):Int):=ϐ
  obtain⟨x,hx⟩:∃x,X[h]? = some x:=⟨_,Qnb ψ⟩;have ex:=eX x (Qnp hx);have gx:(P++X++[y]++S)[P.length+h]? = some x:=by
   rw[Qnw,Qnw,QoE ψ,QoD ψ,<-hx];congr 1;omega
  have gy:(P++X++[y]++S)[P.length+X.length]? = some y:=by
   have:=DX (P:=P) (W:=X) (u:=y) (V:=S) (i:=P.length+X.length) rfl
   exact Om
  simp only[d0,e2,e3,f0,f2,f4,f14,f15,Uf au (show P.length+h<N by omega),Uf au (show P.length+X.length<N by omega),Ue au gy ey,Ue au gx ex,Qa,seval];refine Us ϋ (hc.call y x ey ex) (Ht ey ex _) (Y0 ey ex) rfl (.inl (Y0 ey ex)) ?_;cases dg:decide (c y x<0)with
  |true=>
   simp only[dg,Qa,seval];exact⟨h-i,ψ,_,i,h,rfl,rfl,ψ,ψ,hp,λk z hk hz=>by
    have:=YY hX hc.sw hk hx hz;cases hb:lt c y z with
    |true=>rfl
    |false=>exact absurd (hc.sw.nt y z x hb this) (by show ¬(decide _=false);rw[dg];simp),ϙ,ϥ,Ν,ı,ϋ⟩
  |false=>
   simp only[dg,e5,Qa,seval];exact⟨j-(h+1),ψ,_,h+1,j,rfl,rfl,ψ,hj,λk z hk hz=>hc.sw.nt y x z dg (YY hX hc.sw (Nat.le_of_lt_succ hk) hz hx),hq,ϙ,ϥ,Ν,ϋ,by simp only[f15,Qa,seval]⟩
 ·have d0:decide (((P.length+i:Nat):Int)<((P.length+j:Nat):Int))=false:=Ϣ
  have jV:j=i:=ψ
  subst jV;simp only[d0,f2,Qa,seval];have dx:mg (lt c) X [y]=X.take j++y :: X.drop j:=by
   have:=UR (lt:=lt c) (y:=y) (X1:=X.take j) (X2:=X.drop j) (λx hx=>by
    obtain⟨k,hk⟩:=QpA hx;rw[QnQ]at hk;split at hk
    ·rename_i h;exact hp k x h hk
    ·cases hk) (λx hx=>by
    obtain⟨k,hk⟩:=QpA hx;rw[QnR]at hk;exact hq _ x ψ hk)
   rwa [Qou]at this
  refine Qj (SbT cz m lv s g N j P X S y) _ ⟨_,X.length,by rw[show P++X.take X.length++[y]++X.drop X.length++S=P++X++[y]++S by simp]<;>rfl,rfl,hj,Qm8 _,ϙ,ı,ϋ⟩ ?_;clear f0 f2 f4 f14 f15 d0 hp hq f;rintro k st ⟨f,t,rfl,rfl,ht,mi,f0,f14,f17⟩;simp only[f14,f17,Qa,seval];by_cases aa:j<t
  ·have d0:decide (((P.length+t:Nat):Int) > ((P.length+j:Nat):Int))=true:=ϟ
   obtain⟨r,rfl⟩:∃r,t=r+1:=⟨t-1,ψ⟩;have e7:IntKind.i64.wrap (((P.length+(r+1):Nat):Int)-1)=((P.length+r:Nat):Int):=ϐ
   obtain⟨x,hx⟩:∃x,X[r]? = some x:=⟨_,Qnb ψ⟩;have ex:=eX x (Qnp hx);have cM:X.drop r=[x]++X.drop (r+1):=by
    rw[List.singleton_append,QnU ψ];congr 1
    exact(Qna.1 hx).2
   have bZ:X.take (r+1)=X.take r++[x]:=by rw[Qo4,hx]<;>rfl
   have dt:(X.take r).length=r:=Õ
   have g1:(P++X.take (r+1)++[y]++X.drop (r+1)++S)[P.length+r]? = some x:=by
    have:=DX (P:=P) (W:=X.take r) (u:=x) (V:=[y]++X.drop (r+1)++S) (i:=P.length+r) (by rw[dt]);rw[bZ]
    exact Om
   have g2:(P++X.take (r+1)++[y]++X.drop (r+1)++S)[P.length+(r+1)]? = some y:=by
    have:=DX (P:=P) (W:=X.take (r+1)) (u:=y) (V:=X.drop (r+1)++S) (i:=P.length+(r+1)) Õ
    exact Om
   have g3:((P++X.take (r+1)++[y]++X.drop (r+1)++S).set (P.length+(r+1)) x)[P.length+r]? = some x:=by
    rw[Qpk ψ,g1]
   have aw:((P++X.take (r+1)++[y]++X.drop (r+1)++S).set (P.length+(r+1)) x).set (P.length+r) y=P++X.take r++[y]++X.drop r++S:=by
    rw[cM,bZ];simp[dt]
   simp only[d0,e7,f0,f17,Uf au (show P.length+(r+1)<N by omega),Uf au (show P.length+r<N by omega),Ue au g1 ex,Ue au g2 ey,ex.len,ey.len,ex.leaf,ey.leaf,DW au g2 ey ex aB,DW au g3 ex ey aB,Qa,seval];exact⟨r-j,ψ,_,r,by rw[aw]<;>rfl,rfl,ψ,ψ,ϙ,ı,ϋ⟩
  ·have d0:decide (((P.length+t:Nat):Int) > ((P.length+j:Nat):Int))=false:=Ϣ
   have r_:t=j:=ψ
   subst r_;have bc:P++X.take t++[y]++X.drop t++S=P++mg (lt c) X [y]++S:=by rw[dx];simp
   simp only[d0,bc,put_len,Qa,seval]
end Tz
namespace Tz
open Go Am Bt Tg So
variable {Pg:Program}{cz sr ro sm is st ss:Nat}(hC:Tg.Cs Pg cz sr ro sm is st ss)(aB:cz≠0)
variable {E:AV->Prop}
include hC aB in
theorem Qef (cmp:AV){fr:Nat->Ob}{lv s g N a b n:Nat}(P X Y S:List AV){m:Qk}(au:lv<m.length)(hX:0<X.length)(hY:0<Y.length)(he:∀x∈P++X++Y++S,Ez E cz x)
  (hn:(P++X++Y++S).length<4611686018427387904) (hN:N=(P++X++Y++S).length) (ha:a=P.length) (hb:b=P.length+X.length) (hc:n=P.length+X.length+Y.length) :
  Qf Pg ro [.vec (lv+1) s g 0 N false,.int .i64 (a:Nat),.int .i64 (b:Nat),.int .i64 (n:Nat),cmp] (fr :: Am.put m lv s (.vec g cz (P++X++Y++S)))
   (λx m1=>x=.tup []/\m1=fr :: Am.put m lv s (.vec g cz (P++Y++X++S))):=by
 have _:=hC;have _:=aB;subst hN ha hb hc;refine(QkJ hC aB cmp (lv+1) s g P X Y S (fr :: Am.put m lv s (.vec g cz (P++X++Y++S))) (Qt (m:=m) au) hX hY he hn).mono λx m1 h=>⟨h.1,?_⟩
 exact LE
def FE (Pg:Program)(cz sm:Nat)(E:AV->Prop)(kc:Nat)(c:AV->AV->Int)(n:Nat):Prop :=
 ∀(lv s g:Nat) (P X Y S:List AV) (m:Qk),X.length+Y.length=n->0<X.length->0<Y.length->Am.Qc m lv s=.vec g cz (P++X++Y++S)->(∀x∈P++X++Y++S,Ez E cz x)->
  (P++X++Y++S).length<4611686018427387904->Zt (lt c) X->Zt (lt c) Y->
  Qf Pg sm [.vec lv s g 0 (P++X++Y++S).length false,.int .i64 (P.length:Nat),.int .i64 ((P.length+X.length:Nat):Int),.int .i64 ((P.length+X.length+Y.length:Nat):Int),.fn (.func kc) [] []] m
   (λv m1=>v=.tup []/\m1=Am.put m lv s (.vec g cz (P++mg (lt c) X Y++S)))
include hC aB in
theorem GN {kc:Nat}{c:AV->AV->Int}{n:Nat}(h:FE Pg cz sm E kc c n){fr:Nat->Ob}{lv s g N a b e:Nat}(P X Y S:List AV){m:Qk}(au:lv<m.length)(qR:X.length+Y.length=n)(hX:0<X.length)(hY:0<Y.length)(he:∀x∈P++X++Y++S,Ez E cz x)
  (hn:(P++X++Y++S).length<4611686018427387904) (sX:Zt (lt c) X) (sY:Zt (lt c) Y) (hN:N=(P++X++Y++S).length) (ha:a=P.length) (hb:b=P.length+X.length) (hc:e=P.length+X.length+Y.length) :
  Qf Pg sm [.vec (lv+1) s g 0 N false,.int .i64 (a:Nat),.int .i64 (b:Nat),.int .i64 (e:Nat),.fn (.func kc) [] []] (fr :: Am.put m lv s (.vec g cz (P++X++Y++S)))
   (λx m1=>x=.tup []/\m1=fr :: Am.put m lv s (.vec g cz (P++mg (lt c) X Y++S))):=by
 have _:=hC;have _:=aB;subst hN ha hb hc;refine(h (lv+1) s g P X Y S (fr :: Am.put m lv s (.vec g cz (P++X++Y++S))) qR hX hY (Qt (m:=m) au) he hn sX sY).mono λx m1 h=>⟨h.1,?_⟩
 exact LE
def ScS (cz:Nat)(m:Qk)(lv s g N al s0 r0:Nat)(kc:Nat)(c:AV->AV->Int)(P X Y S:List AV)(k:Nat)(st:St):Prop :=
 ∃f i j,st=⟨f,[Qb]++Am.put m lv s (.vec g cz (P++X++Y++S)),[]⟩/\k=j-i/\s0<=i/\i<=j/\j<=r0/\
  (∀k x y,s0<=k->k<i->X[k-P.length]? = some x->Y[al-1-k]? = some y->lt c y x=false)/\(∀k x y,j<=k->k<r0->X[k-P.length]? = some x->Y[al-1-k]? = some y->lt c y x=true)/\
  f 0=.vec (lv+1) s g 0 N false/\f 1=.int .i64 (P.length:Nat)/\f 2=.int .i64 ((P.length+X.length:Nat):Int)/\f 3=.int .i64 ((P.length+X.length+Y.length:Nat):Int)/\f 4=.fn (.func kc) [] []/\
  f 18=.int .i64 (al:Nat)/\f 19=.int .i64 ((al+(P.length+X.length):Nat):Int)/\f 22=.int .i64 ((al+(P.length+X.length)-1:Nat):Int)/\f 20=.int .i64 (i:Nat)/\f 21=.int .i64 (j:Nat)
theorem Qa8 {c:AV->AV->Int}(j4:SW (lt c)){X Y:List AV}{p al t:Nat}{s0 r0:Nat}(sX:Zt (lt c) X)(sY:Zt (lt c) Y)(h1:s0<=t)(h2:t<=r0)(hp:p<=t)(htm:t<=al)(hr:r0=al\/r0=p+X.length)(hs:al-s0>=Y.length\/s0=p)(gY:al-s0<=Y.length)(cZ:r0<=p+X.length)
  (jZ:∀k x y,s0<=k->k<t->X[k-p]? = some x->Y[al-1-k]? = some y->lt c y x=false) (qq:∀k x y,t<=k->k<r0->X[k-p]? = some x->Y[al-1-k]? = some y->lt c y x=true) :
  mg (lt c) X Y=mg (lt c) (X.take (t-p)) (Y.take (al-t))++mg (lt c) (X.drop (t-p)) (Y.drop (al-t)):=by
 have key:=UQ (lt:=lt c) _ (X.take (t-p)) (Y.take (al-t)) (X.drop (t-p)) (Y.drop (al-t)) rfl ?_ ?_
 ·rwa [Qou,Qou]at key
 ·intro y hy x hx;obtain⟨k,hk⟩:=QpA hy;obtain⟨l,hl⟩:=QpA hx;rw[QnQ]at hk;split at hk
  ·rename_i iH;rw[QnR]at hl;have wy:t-p+l<X.length:=(Qna.1 hl).1;have xS:k<Y.length:=(Qna.1 hk).1;have wY:t<r0:=by rcases hr with h|h<;>omega
   by_cases yM:al-1-t<Y.length
   ·obtain⟨x0,ip⟩:∃x,X[t-p]? = some x:=⟨_,Qnb ψ⟩;obtain⟨y0,pi⟩:∃y,Y[al-1-t]? = some y:=⟨_,Qnb yM⟩;have h0:=qq t x0 y0 (Qm8 _) wY ip pi;have h3:=YK j4 sY (show k<=al-1-t by omega) hk pi h0;have h4:=YY sX j4 (show t-p<=t-p+l by omega) ip hl;cases hb:lt c y x with
    |true=>rfl
    |false=>
     have:=j4.nt y x x0 hb h4;rw[h3]at this;cases this
   ·exfalso;omega
  ·cases hk
 ·intro x hx y hy;obtain⟨k,hk⟩:=QpA hy;obtain⟨l,hl⟩:=QpA hx;rw[QnQ]at hl;split at hl
  ·rename_i aa;rw[QnR]at hk;have xS:al-t+k<Y.length:=(Qna.1 hk).1;have wy:l<X.length:=(Qna.1 hl).1;have ay:s0<t:=by rcases hs with h|h<;>omega
   by_cases rE:t-1-p<X.length
   ·obtain⟨x0,ip⟩:∃x,X[t-1-p]? = some x:=⟨_,Qnb rE⟩;obtain⟨y0,pi⟩:∃y,Y[al-1-(t-1)]? = some y:=⟨_,Qnb ψ⟩;have h0:=jZ (t-1) x0 y0 ψ ψ ip pi;have h3:=YY sX j4 (show l<=t-1-p by omega) hl ip;have h4:lt c y x0=false:=by
     cases hb:lt c y x0 with
     |false=>rfl
     |true=>
      have:=YK j4 sY (show al-1-(t-1)<=al-t+k by omega) pi hk hb;rw[h0]at this;cases this
    exact j4.nt y x0 x h4 h3
   ·exfalso;omega
  ·cases hl
section
variable {kc:Nat}{c:AV->AV->Int}{nn lv s g N:Nat}{P X1 X2 Y1 Y2 S:List AV}{m:Qk}{f:Fr}
include hC aB in
theorem Qhu (ih:∀n,n<nn->FE Pg cz sm E kc c n)(pE:X2.length+Y2.length<nn)(au:lv<m.length)(he:∀x∈P++X2++Y2++S,Ez E cz x)(hN:N=(P++X2++Y2++S).length)(hn:N<4611686018427387904)
  (sX:Zt (lt c) X2) (sY:Zt (lt c) Y2) (f0:f 0=.vec (lv+1) s g 0 N false) (f3:f 3=.int .i64 ((P.length+X2.length+Y2.length:Nat):Int)) (f4:f 4=.fn (.func kc) [] []) (f18:f 18=.int .i64 (P.length:Nat)) (f24:f 24=.int .i64 ((P.length+X2.length:Nat):Int)) :
  Q1 Pg (.seq (.reg (Yr cz sr ro sm is st)) (.cond (.t 213) (.reg (Ys cz sr ro sm is st)) (.skip))) ⟨f,Qb :: Am.put m lv s (.vec g cz (P++X2++Y2++S)),[]⟩
   (Jk N7 m.length (λv m1=>v=.tup []/\m1=Am.put m lv s (.vec g cz (P++mg (lt c) X2 Y2++S)))):=by
 have _:=hC;have _:=aB;simp only[Yr,Ys,N7,f18,f24,Qa,seval];by_cases h1:0<X2.length
 ·have d1:decide ((P.length:Int)<((P.length+X2.length:Nat):Int))=true:=ϟ
  by_cases h2:0<Y2.length
  ·have d2:decide (((P.length+X2.length:Nat):Int)<((P.length+X2.length+Y2.length:Nat):Int))=true:=ϟ
   simp only[d1,d2,f0,f3,f4,f18,f24,Qa,seval];refine Qh (GN hC aB (ih _ pE) P X2 Y2 S au rfl h1 h2 he ψ sX sY hN rfl rfl rfl) rfl ?_;simp only[put_len,Qa,seval]
  ·have d2:decide (((P.length+X2.length:Nat):Int)<((P.length+X2.length+Y2.length:Nat):Int))=false:=Ϣ
   have hy:Y2=[]:=Qoh ψ;have bc:P++X2++Y2++S=P++mg (lt c) X2 Y2++S:=by rw[hy,Wf];simp
   simp only[d1,d2,f3,f24,bc,put_len,Qa,seval]
 ·have d1:decide ((P.length:Int)<((P.length+X2.length:Nat):Int))=false:=Ϣ
  have hx:X2=[]:=Qoh ψ;have bc:P++X2++Y2++S=P++mg (lt c) X2 Y2++S:=by rw[hx,KL];simp
  simp only[d1,bc,put_len,Qa,seval]
include hC aB in
theorem Qhv (ih:∀n,n<nn->FE Pg cz sm E kc c n)(oP:X1.length+Y1.length<nn)(qj:X2.length+Y2.length<nn)(au:lv<m.length)(he:∀x∈P++X1++Y1++(X2++Y2++S),Ez E cz x)(hN:N=(P++X1++Y1++(X2++Y2++S)).length)(hn:N<4611686018427387904)
  (sH:Zt (lt c) X1) (rZ:Zt (lt c) Y1) (sX:Zt (lt c) X2) (sY:Zt (lt c) Y2) (f0:f 0=.vec (lv+1) s g 0 N false) (f1:f 1=.int .i64 (P.length:Nat)) (f3:f 3=.int .i64 ((P.length+X1.length+Y1.length+X2.length+Y2.length:Nat):Int)) (f4:f 4=.fn (.func kc) [] []) (f18:f 18=.int .i64 ((P.length+X1.length+Y1.length:Nat):Int)) (f20:f 20=.int .i64 ((P.length+X1.length:Nat):Int)) (f24:f 24=.int .i64 ((P.length+X1.length+Y1.length+X2.length:Nat):Int)) :
  Q1 Pg (.seq (.seq (.reg (UV cz sr ro sm is st)) (.cond (.t 199) (.reg (UW cz sr ro sm is st)) (.skip))) (.seq (.reg (Yr cz sr ro sm is st)) (.cond (.t 213) (.reg (Ys cz sr ro sm is st)) (.skip)))) ⟨f,Qb :: Am.put m lv s (.vec g cz (P++X1++Y1++(X2++Y2++S))),[]⟩
   (Jk N7 m.length (λv m1=>v=.tup []/\m1=Am.put m lv s (.vec g cz (P++(mg (lt c) X1 Y1++mg (lt c) X2 Y2)++S)))):=by
 have _:=hC;have _:=aB;have mN:(mg (lt c) X1 Y1).length=X1.length+Y1.length:=QfP _ _ _ rfl;have hlen:N=P.length+X1.length+Y1.length+X2.length+Y2.length+S.length:=by rw[hN];simp only[QnP];omega
 have iO:∀x∈P++mg (lt c) X1 Y1++X2++Y2++S,Ez E cz x:=by
  intro x hx;refine he x ?_;simp only[Qow]at hx |-;rcases hx with(((hx|hx)|hx)|hx)|hx
  ·exact .inl (.inl (.inl hx))
  ·exact(QfQ _ _ _ rfl hx).elim (λh=>.inl (.inl (.inr h))) (λh=>.inl (.inr h))
  ·exact .inr (.inl (.inl hx))
  ·exact .inr (.inl (.inr hx))
  ·exact .inr (.inr hx)
 have go:∀f:Fr,f 0=.vec (lv+1) s g 0 N false->f 3=.int .i64 ((P.length+X1.length+Y1.length+X2.length+Y2.length:Nat):Int)->f 4=.fn (.func kc) [] []->f 18=.int .i64 ((P.length+X1.length+Y1.length:Nat):Int)->f 24=.int .i64 ((P.length+X1.length+Y1.length+X2.length:Nat):Int)->
   Q1 Pg (.seq (.reg (Yr cz sr ro sm is st)) (.cond (.t 213) (.reg (Ys cz sr ro sm is st)) (.skip))) ⟨f,Qb :: Am.put m lv s (.vec g cz (P++mg (lt c) X1 Y1++(X2++Y2++S))),[]⟩
   (Jk N7 m.length (λv m1=>v=.tup []/\m1=Am.put m lv s (.vec g cz (P++(mg (lt c) X1 Y1++mg (lt c) X2 Y2)++S)))):=by
  intro f f0 f3 f4 f18 f24;have dT:(P++mg (lt c) X1 Y1).length=P.length+X1.length+Y1.length:=by rw[QnP,mN];omega
  have:=Qhu hC aB (P:=P++mg (lt c) X1 Y1) (X2:=X2) (Y2:=Y2) (S:=S) (m:=m) (f:=f) (g:=g) (s:=s) ih qj au iO (by rw[hlen];simp only[QnP,mN];omega) hn sX sY f0 (by rw[dT];exact f3) f4 (by rw[dT];exact f18) (by rw[dT];exact f24);rw[show P++mg (lt c) X1 Y1++(X2++Y2++S)=P++mg (lt c) X1 Y1++X2++Y2++S by simp only[Qnw],show P++(mg (lt c) X1 Y1++mg (lt c) X2 Y2)++S=P++mg (lt c) X1 Y1++mg (lt c) X2 Y2++S by simp only[Qnw]];exact this
 rw[Gq,Gq];simp only[UV,UW,f1,f20,Gp,Yf,Kf,Ye,Yg,FX,Dt,Qz,Xl,XE,cond_true,cond_false,Qn2,seval,K6];by_cases h1:0<X1.length
 ·have d1:decide ((P.length:Int)<((P.length+X1.length:Nat):Int))=true:=ϟ
  by_cases h2:0<Y1.length
  ·have d2:decide (((P.length+X1.length:Nat):Int)<((P.length+X1.length+Y1.length:Nat):Int))=true:=ϟ
   simp only[d1,d2,f0,f1,f4,f18,f20,Gp,Ke,Yd,Yf,Kf,Ye,Yg,FX,YG,Dt,Cf,YV,Gr,Qz,Xl,XE,cond_true,cond_false,Qn2,seval,K6];refine Qh (GN hC aB (ih _ oP) P X1 Y1 (X2++Y2++S) au rfl h1 h2 he ψ sH rZ hN rfl rfl rfl) rfl ?_;rw[Yd,Ke];exact zH
  ·have d2:decide (((P.length+X1.length:Nat):Int)<((P.length+X1.length+Y1.length:Nat):Int))=false:=Ϣ
   have hy:Y1=[]:=Qoh ψ;have dx:mg (lt c) X1 Y1=X1++Y1:=by rw[hy,Wf,Qof]
   rw[dx,<-Qnw P X1 Y1]at go;simp only[d1,d2,dx,f18,f20,Ke,Yd,Yf,Kf,Ye,Yg,FX,YG,Dt,Cf,YV,YF,HL,Qz,Xl,XE,cond_true,cond_false,Qn2,seval,K6];exact zH
 ·have d1:decide ((P.length:Int)<((P.length+X1.length:Nat):Int))=false:=Ϣ
  have hx:X1=[]:=Qoh ψ;have dx:mg (lt c) X1 Y1=X1++Y1:=by rw[hx,KL,Qny]
  rw[dx,<-Qnw P X1 Y1]at go;simp only[d1,dx,Ke,Yd,Yf,Kf,Ye,Yg,FX,He,Dt,Cf,YV,YF,HL,Qz,cond_true,cond_false,Qn2,seval,K6];exact zH
include hC aB in
theorem Qhw (ih:∀n,n<nn->FE Pg cz sm E kc c n)(oP:X1.length+Y1.length<nn)(qj:X2.length+Y2.length<nn)(au:lv<m.length)(he:∀x∈P++X1++X2++Y1++(Y2++S),Ez E cz x)(hN:N=(P++X1++X2++Y1++(Y2++S)).length)(hn:N<4611686018427387904)
  (sH:Zt (lt c) X1) (rZ:Zt (lt c) Y1) (sX:Zt (lt c) X2) (sY:Zt (lt c) Y2) (f0:f 0=.vec (lv+1) s g 0 N false) (f1:f 1=.int .i64 (P.length:Nat)) (f2:f 2=.int .i64 ((P.length+X1.length+X2.length:Nat):Int)) (f3:f 3=.int .i64 ((P.length+X1.length+Y1.length+X2.length+Y2.length:Nat):Int)) (f4:f 4=.fn (.func kc) [] []) (f18:f 18=.int .i64 ((P.length+X1.length+Y1.length:Nat):Int)) (f19:f 19=.int .i64 ((P.length+X1.length+Y1.length+(P.length+X1.length+X2.length):Nat):Int)) (f20:f 20=.int .i64 ((P.length+X1.length:Nat):Int)) :
  Q1 Pg (.seq (.reg (HY cz sr ro sm is st)) (.seq (.seq (.reg (HZ cz sr ro sm is st)) (.cond (.t 185) (.reg (H1 cz sr ro sm is st)) (.skip))) (.seq (.seq (.reg (UV cz sr ro sm is st)) (.cond (.t 199) (.reg (UW cz sr ro sm is st)) (.skip))) (.seq (.reg (Yr cz sr ro sm is st)) (.cond (.t 213) (.reg (Ys cz sr ro sm is st)) (.skip)))))) ⟨f,Qb :: Am.put m lv s (.vec g cz (P++X1++X2++Y1++(Y2++S))),[]⟩
   (Jk N7 m.length (λv m1=>v=.tup []/\m1=Am.put m lv s (.vec g cz (P++(mg (lt c) X1 Y1++mg (lt c) X2 Y2)++S)))):=by
 have _:=hC;have _:=aB;have hlen:N=P.length+X1.length+Y1.length+X2.length+Y2.length+S.length:=by rw[hN];simp only[QnP];omega
 have iO:∀x∈P++X1++Y1++(X2++Y2++S),Ez E cz x:=by
  intro x hx;refine he x ?_;simp only[Qow]at hx |-;rcases hx with((hx|hx)|hx)|((hx|hx)|hx)
  ·exact .inl (.inl (.inl (.inl hx)))
  ·exact .inl (.inl (.inl (.inr hx)))
  ·exact .inl (.inr hx)
  ·exact .inl (.inl (.inr hx))
  ·exact .inr (.inl hx)
  ·exact .inr (.inr hx)
 have go:∀f:Fr,f 0=.vec (lv+1) s g 0 N false->f 1=.int .i64 (P.length:Nat)->f 3=.int .i64 ((P.length+X1.length+Y1.length+X2.length+Y2.length:Nat):Int)->f 4=.fn (.func kc) [] []->f 18=.int .i64 ((P.length+X1.length+Y1.length:Nat):Int)->f 20=.int .i64 ((P.length+X1.length:Nat):Int)->f 24=.int .i64 ((P.length+X1.length+Y1.length+X2.length:Nat):Int)->_ :=
  λf f0 f1 f3 f4 f18 f20 f24=>Qhv hC aB (P:=P) (X1:=X1) (Y1:=Y1) (X2:=X2) (Y2:=Y2) (S:=S) (m:=m) (f:=f) (g:=g) (s:=s) ih oP qj au iO (by rw[hlen];simp only[QnP];omega) hn sH rZ sX sY f0 f1 f3 f4 f18 f20 f24
 have e1:IntKind.i64.wrap (((P.length+X1.length+Y1.length+(P.length+X1.length+X2.length):Nat):Int)-((P.length+X1.length:Nat):Int))=((P.length+X1.length+Y1.length+X2.length:Nat):Int):=ϐ
 rw[Gq];simp only[HY,e1,f19,f20,Gp,Ke,Yd,Yf,Kf,Ye,Yg,Dt,Qz,Xl,XE,cond_true,cond_false,Qn2,seval,K6];rw[Gq,Gq];simp only[HZ,f2,f20,Gp,Yf,Kf,Ye,Yg,FX,Dt,Qz,Xl,XE,cond_true,cond_false,Qn2,seval,K6];by_cases h1:0<X2.length
 ·have d1:decide (((P.length+X1.length:Nat):Int)<((P.length+X1.length+X2.length:Nat):Int))=true:=ϟ
  by_cases h2:0<Y1.length
  ·have d2:decide (((P.length+X1.length+X2.length:Nat):Int)<((P.length+X1.length+Y1.length+X2.length:Nat):Int))=true:=ϟ
   simp only[H1,d1,d2,f0,f2,f4,f20,Gp,Ke,Yd,Yf,Kf,Ye,Yg,FX,YG,Dt,Cf,YV,Gr,Qz,Xl,XE,cond_true,cond_false,Qn2,seval,K6];refine Qh (Qef hC aB (.fn (.func kc) [] []) (P++X1) X2 Y1 (Y2++S) (n:=P.length+X1.length+Y1.length+X2.length) au h1 h2 he ψ hN (by rw[QnP]) (by rw[QnP]) (by rw[QnP];omega)) rfl ?_;rw[Yd,Ke];rw[show P++X1++Y1++X2++(Y2++S)=P++X1++Y1++(X2++Y2++S)by simp only[Qnw]];exact zu
  ·have d2:decide (((P.length+X1.length+X2.length:Nat):Int)<((P.length+X1.length+Y1.length+X2.length:Nat):Int))=false:=Ϣ
   have hy:Y1=[]:=Qoh ψ;have ae:P++X1++X2++Y1++(Y2++S)=P++X1++Y1++(X2++Y2++S):=by rw[hy];simp
   simp only[d1,d2,ae,f2,Ke,Yd,Yf,Kf,Ye,Yg,FX,YG,Dt,Cf,YV,YF,HL,Qz,Xl,XE,cond_true,cond_false,Qn2,seval,K6];exact zu
 ·have d1:decide (((P.length+X1.length:Nat):Int)<((P.length+X1.length+X2.length:Nat):Int))=false:=Ϣ
  have hx:X2=[]:=Qoh ψ;have ae:P++X1++X2++Y1++(Y2++S)=P++X1++Y1++(X2++Y2++S):=Ο
  simp only[d1,ae,Ke,Yd,Yf,Kf,Ye,Yg,FX,He,Dt,Cf,YV,YF,HL,Qz,cond_true,cond_false,Qn2,seval,K6];exact zu
end
set_option maxHeartbeats 1000000 in
include hC aB in
theorem QkN {kc:Nat}{c:AV->AV->Int}(hc:Cp Pg cz E kc c)(nn:Nat)(ih:∀n,n<nn->FE Pg cz sm E kc c n)(lv s g:Nat)(P X Y S:List AV)(m:Qk)(qR:X.length+Y.length=nn)(yT:1<X.length)(hY1:1<Y.length)(hl:Am.Qc m lv s=.vec g cz (P++X++Y++S))(he:∀x∈P++X++Y++S,Ez E cz x)
  (hn:(P++X++Y++S).length<4611686018427387904) (sX:Zt (lt c) X) (sY:Zt (lt c) Y) :
  Qf Pg sm [.vec lv s g 0 (P++X++Y++S).length false,.int .i64 (P.length:Nat),.int .i64 ((P.length+X.length:Nat):Int),.int .i64 ((P.length+X.length+Y.length:Nat):Int),.fn (.func kc) [] []] m
   (λv m1=>v=.tup []/\m1=Am.put m lv s (.vec g cz (P++mg (lt c) X Y++S))):=by
 have _:=hC;have _:=aB;have au:lv<m.length:=Xy è;have hlen:(P++X++Y++S).length=P.length+X.length+Y.length+S.length:=ī
 refine hC.csm.go ό ?_;have e1:(IntKind.i64.wrap (((P.length+X.length:Nat):Int)-(P.length:Int))==1)=false:=ó
 have e2:(IntKind.i64.wrap (((P.length+X.length+Y.length:Nat):Int)-((P.length+X.length:Nat):Int))==1)=false:=ó
 have e3:IntKind.i64.wrap ((P.length:Int)+((P.length+X.length+Y.length:Nat):Int))=((P.length+(P.length+X.length+Y.length):Nat):Int):=ϐ
 have e4:=A1 P.length (P.length+X.length+Y.length) ψ;generalize r8:(P.length+(P.length+X.length+Y.length)) / 2=al at *;have e5:IntKind.i64.wrap ((al:Int)+((P.length+X.length:Nat):Int))=((al+(P.length+X.length):Nat):Int):=ϐ
 have e6:IntKind.i64.wrap (((al+(P.length+X.length):Nat):Int)-((P.length+X.length+Y.length:Nat):Int))=((al+(P.length+X.length)-(P.length+X.length+Y.length):Nat):Int)\/al<Y.length:=by
  by_cases h:al<Y.length
  ·exact .inr h
  ·refine .inl ?_;rw[QD];omega
 have e7:IntKind.i64.wrap (((al+(P.length+X.length):Nat):Int)-1)=((al+(P.length+X.length)-1:Nat):Int):=ϐ
 simp only[rsm,C7,NR,NS,NT,NU,NV,NW,NX,NY,NZ,N0,e1,e2,e3,e4,e5,Qa,seval];have h0:m=Am.put m lv s (.vec g cz (P++X++Y++S)):=(put_self hl).symm;generalize hN:(P++X++Y++S).length=N at *
 -- the search, from whatever bounds
 have main:∀(Q:Exit->St->Prop) (f:Fr) (s0 r0:Nat),s0<=r0->r0<=al->(r0=al\/r0=P.length+X.length)->(al-s0>=Y.length\/s0=P.length)->al-s0<=Y.length->r0<=P.length+X.length->P.length<=s0->
   f 0=.vec (lv+1) s g 0 N false->f 1=.int .i64 (P.length:Nat)->f 2=.int .i64 ((P.length+X.length:Nat):Int)->f 3=.int .i64 ((P.length+X.length+Y.length:Nat):Int)->f 4=.fn (.func kc) [] []->
   f 18=.int .i64 (al:Nat)->f 19=.int .i64 ((al+(P.length+X.length):Nat):Int)->f 22=.int .i64 ((al+(P.length+X.length)-1:Nat):Int)->f 20=.int .i64 (s0:Nat)->f 21=.int .i64 (r0:Nat)->
   (∀(f:Fr) (t:Nat),s0<=t->t<=r0->mg (lt c) X Y=mg (lt c) (X.take (t-P.length)) (Y.take (al-t))++mg (lt c) (X.drop (t-P.length)) (Y.drop (al-t))->
    f 0=.vec (lv+1) s g 0 N false->f 1=.int .i64 (P.length:Nat)->f 2=.int .i64 ((P.length+X.length:Nat):Int)->f 3=.int .i64 ((P.length+X.length+Y.length:Nat):Int)->f 4=.fn (.func kc) [] []->
    f 18=.int .i64 (al:Nat)->f 19=.int .i64 ((al+(P.length+X.length):Nat):Int)->f 20=.int .i64 (t:Nat)->Q (.exit 8) ⟨f,Qb :: Am.put m lv s (.vec g cz (P++X++Y++S)),[]⟩)->
   Q1 Pg (.loop (N6 cz sr ro sm is st)) ⟨f,Qb :: m,[]⟩ Q:=by
  intro Q f s0 r0 rV hrm hr hs gY cZ io f0 f1 f2 f3 f4 f18 f19 f22 f20 f21 hQ;refine Qj (ScS cz m lv s g N al s0 r0 kc c P X Y S) _ ⟨_,s0,r0,Ć,rfl,Qm8 _,rV,Qm8 _,(by intro k x y h1 h2;omega),(by intro k x y h1 h2;omega),f0,f1,f2,f3,f4,f18,f19,f22,f20,f21⟩ ?_;clear f0 f1 f2 f3 f4 f18 f19 f22 f20 f21 f;rintro k st ⟨f,i,j,rfl,rfl,uQ,d_,hj,hp,hq,f0,f1,f2,f3,f4,f18,f19,f22,f20,f21⟩;simp only[N6,N1,N2,N3,N4,N5,f20,f21,Qa,seval];by_cases aa:i<j
  ·have d0:decide ((i:Int)<(j:Int))=true:=ϟ
   have e8:IntKind.i64.wrap ((i:Int)+(j:Int))=((i+j:Nat):Int):=ϐ
   have e9:=A1 i j ψ;generalize hh:(i+j) / 2=h at *;have uH:h<j:=ψ
   have iV:i<=h:=ψ
   have ea:IntKind.i64.wrap ((h:Int)+1)=((h+1:Nat):Int):=ϐ
   have eb:IntKind.i64.wrap (((al+(P.length+X.length)-1:Nat):Int)-(h:Int))=((P.length+X.length+(al-1-h):Nat):Int):=ϐ
   obtain⟨x,hx⟩:∃x,X[h-P.length]? = some x:=⟨_,Qnb ψ⟩;obtain⟨y,hy⟩:∃y,Y[al-1-h]? = some y:=⟨_,Qnb ψ⟩;have ex:Ez E cz x:=he x (by simp[Qnp hx]);have ey:Ez E cz y:=he y (by simp[Qnp hy]);have gx:(P++X++Y++S)[h]? = some x:=by
    rw[Qnw,Qnw,QoE ψ,QoD ψ,hx]
   have gy:(P++X++Y++S)[P.length+X.length+(al-1-h)]? = some y:=by
    rw[Qnw,QoE (by rw[QnP];omega),QoD (by rw[QnP];omega),<-hy];congr 1;rw[QnP];omega
   simp only[d0,e8,e9,eb,f0,f4,f20,f21,f22,Uf au (show P.length+X.length+(al-1-h)<N by omega),Uf au (show h<N by omega),Ue au gy ey,Ue au gx ex,Qa,seval];refine Us ϋ (hc.call y x ey ex) (Ht ey ex _) (Y0 ey ex) rfl (.inl (Y0 ey ex)) ?_;cases dg:decide (c y x<0)with
   |true=>
    simp only[dg,Qa,seval];have gC:∀k x' y',h<=k->k<r0->X[k-P.length]? = some x'->Y[al-1-k]? = some y'->lt c y' x'=true:=by
     intro k x' y' hk lh dG mj;have h3:=YK hc.sw sY (show al-1-k<=al-1-h by omega) mj hy dg;have h4:=YY sX hc.sw (show h-P.length<=k-P.length by omega) hx dG;cases hb:lt c y' x' with
     |true=>rfl
     |false=>
      have:=hc.sw.nt y' x' x hb h4;rw[h3]at this;cases this
    exact⟨h-i,ψ,_,i,h,rfl,rfl,uQ,ψ,ψ,hp,gC,ϙ,ϩ,ϥ,Ψ,Ν,by simp only[f18,Qa,seval],by simp only[f19,Qa,seval],by simp only[f22,Qa,seval],by simp only[f20,Qa,seval],ϋ⟩
   |false=>
    simp only[dg,ea,Qa,seval];exact⟨j-(h+1),ψ,_,h+1,j,rfl,rfl,ψ,ψ,hj,λk x' y' hk lh dG mj=>by
     have h3:=YY sX hc.sw (show k-P.length<=h-P.length by omega) dG hx;have h4:lt c y' x=false:=by
      cases hb:lt c y' x with
      |false=>rfl
      |true=>exact absurd (YK hc.sw sY (show al-1-h<=al-1-k by omega) hy mj hb) (by show ¬(decide _=true);rw[dg];simp)
     exact hc.sw.nt y' x x' h4 h3,hq,ϙ,ϩ,ϥ,Ψ,Ν,by simp only[f18,Qa,seval],by simp only[f19,Qa,seval],by simp only[f22,Qa,seval],ϋ,by simp only[f21,Qa,seval]⟩
  ·have d0:decide ((i:Int)<(j:Int))=false:=Ϣ
   have jV:j=i:=ψ
   subst jV;simp only[d0,Qa,seval];refine hQ _ j ψ ψ (Qa8 hc.sw sX sY uQ hj ψ ψ hr hs gY cZ hp hq) ?_ ?_ ?_ ?_ ?_ ?_ ?_ ?_
   ·simp only[f0,Qa,seval]
   ·simp only[f1,Qa,seval]
   ·simp only[f2,Qa,seval]
   ·simp only[f3,Qa,seval]
   ·simp only[f4,Qa,seval]
   ·simp only[f18,Qa,seval]
   ·simp only[f19,Qa,seval]
   ·simp only[f20,Qa,seval]
 have fW:al<=P.length+X.length+Y.length:=ψ
 have fin:∀(f:Fr) (t:Nat),P.length<=t->t<=al->t<=P.length+X.length->al-t<=Y.length->mg (lt c) X Y=mg (lt c) (X.take (t-P.length)) (Y.take (al-t))++mg (lt c) (X.drop (t-P.length)) (Y.drop (al-t))->
    f 0=.vec (lv+1) s g 0 N false->f 1=.int .i64 (P.length:Nat)->f 2=.int .i64 ((P.length+X.length:Nat):Int)->f 3=.int .i64 ((P.length+X.length+Y.length:Nat):Int)->f 4=.fn (.func kc) [] []->
    f 18=.int .i64 (al:Nat)->f 19=.int .i64 ((al+(P.length+X.length):Nat):Int)->f 20=.int .i64 (t:Nat)->
   Q1 Pg (.seq (.reg (HY cz sr ro sm is st)) (.seq (.seq (.reg (HZ cz sr ro sm is st)) (.cond (.t 185) (.reg (H1 cz sr ro sm is st)) (.skip))) (.seq (.seq (.reg (UV cz sr ro sm is st)) (.cond (.t 199) (.reg (UW cz sr ro sm is st)) (.skip))) (.seq (.reg (Yr cz sr ro sm is st)) (.cond (.t 213) (.reg (Ys cz sr ro sm is st)) (.skip)))))) ⟨f,Qb :: Am.put m lv s (.vec g cz (P++X++Y++S)),[]⟩
   (Jk N7 m.length (λv m1=>v=.tup []/\m1=Am.put m lv s (.vec g cz (P++mg (lt c) X Y++S)))):=by
  intro f t h1 h2 h3 h4 kD f0 f1 f2 f3 f4 f18 f19 f20;have l1:(X.take (t-P.length)).length=t-P.length:=Õ
  have l2:(X.drop (t-P.length)).length=P.length+X.length-t:=ý
  have l3:(Y.take (al-t)).length=al-t:=Õ
  have l4:(Y.drop (al-t)).length=Y.length-(al-t):=by rw[QnS]
  have ae:P++X.take (t-P.length)++X.drop (t-P.length)++Y.take (al-t)++(Y.drop (al-t)++S)=P++X++Y++S:=by
   rw[Qnw P,Qou,<-Qnw _ _ S,Qnw (P++X),Qou]
  have:=Qhw hC aB (kc:=kc) (c:=c) (nn:=nn) (lv:=lv) (s:=s) (g:=g) (N:=N) (P:=P) (X1:=X.take (t-P.length)) (X2:=X.drop (t-P.length)) (Y1:=Y.take (al-t)) (Y2:=Y.drop (al-t)) (S:=S) (m:=m) (f:=f) ih
   (by rw[l1,l3];omega) (by rw[l2,l4];omega) au (by rw[ae];exact he) (by rw[ae,hN]) hn
   (List.Pairwise.sublist (List.take_sublist _ _) sX) (List.Pairwise.sublist (List.take_sublist _ _) sY) (List.Pairwise.sublist (List.drop_sublist _ _) sX) (List.Pairwise.sublist (List.drop_sublist _ _) sY)
   f0 f1 (by rw[f2,l1,l2];congr 2;omega) (by rw[f3,l1,l2,l3,l4];congr 2;omega) f4 (by rw[f18,l1,l3];congr 2;omega) (by rw[f19,l1,l2,l3];congr 2;omega) (by rw[f20,l1];congr 2;omega)
  rw[ae,<-kD]at this;exact this
 by_cases ef:al<P.length+X.length
 ·have d0:decide (((P.length+X.length:Nat):Int) > (al:Int))=true:=ϟ
  have sM:Y.length<=al:=ψ
  have xA:=e6.resolve_right ψ;simp only[d0,xA,e7,Qa,seval];refine main _ _ (al+(P.length+X.length)-(P.length+X.length+Y.length)) al ψ ψ (.inl rfl) (.inl ψ) ψ ψ ψ ?_ ?_ ?_ ?_ ?_ ?_ ?_ ?_ ?_ ?_ ?_
  case refine_11=>
   exact O2
  all_goals simp only[Qa,seval]
 ·have d0:decide (((P.length+X.length:Nat):Int) > (al:Int))=false:=Ϣ
  simp only[d0,e7,Qa,seval];refine main _ _ P.length (P.length+X.length) ψ ψ (.inr rfl) (.inr rfl) ψ ψ ψ ?_ ?_ ?_ ?_ ?_ ?_ ?_ ?_ ?_ ?_ ?_
  case refine_11=>
   exact O2
  all_goals simp only[Qa,seval]
include hC aB in
theorem sym {kc:Nat}{c:AV->AV->Int}(hc:Cp Pg cz E kc c):∀n,FE Pg cz sm E kc c n:=by
 have _:=hC;have _:=aB;intro n
 induction n using Nat.strongRecOn with
 |_ n ih=>
 intro lv s g P X Y S m qR hX hY hl he hn sX sY;by_cases h1:X.length=1
 ·obtain⟨x,rfl⟩:=List.length_eq_one_iff.1 h1;exact QkL hC aB hc lv s g P x Y S m hl he hn sY
 ·by_cases h2:Y.length=1
  ·obtain⟨y,rfl⟩:=List.length_eq_one_iff.1 h2;exact QkM hC aB hc lv s g P X y S m hl he hn sX h1
  ·exact QkN hC aB hc n ih lv s g P X Y S m qR ψ ψ hl he hn sX sY
end Tz
end Go.Proofs.YtmlohboeoeoamaaGreatDoor

/- Parts of the proof, in order. -/
import Derived.Test.YtafhmlkilcmniaaGreatDoorMPlanAgrees2

set_option linter.unusedSimpArgs false
namespace Go.Proofs.YtafhmlkilcmniaaGreatDoor.Va
open Go Am Rc Bt Br Up So

section sorting
variable {α:Type}{lt:α→α→Bool}
theorem Vf (a:α):∀l:List α,(ZU lt a l).Perm (a :: l)
 | []=>.refl _
 |x :: l=>by
  rw[ZU];cases lt x a
  ·exact .refl _
  ·exact((Vf a l).cons x).trans (.swap a x l)
theorem XC:∀l:List α,(QD lt l).Perm l
 | []=>.refl _
 |a :: l=>(Vf a _).trans ((XC l).cons a)
end sorting

theorem WT:∀ {a b c:List UInt8},Op.bytesLess a b=true→Op.bytesLess b c=true→Op.bytesLess a c=true
 |a,b,[],_,h=>by cases b<;>simp[Op.bytesLess]at h
 | [],_,_ :: _,_,_=>by simp[Op.bytesLess]
 |x :: a,[],_ :: _,h,_=>by simp[Op.bytesLess]at h
 |x :: a,y :: b,z :: c,h,k=>by
  simp only[Op.bytesLess,QZE,QY7,QZ2,QY8]at h k ⊢;rcases h with h|⟨h1,h2⟩<;>rcases k with k|⟨k1,k2⟩
  ·exact .inl (UInt8.lt_trans h k)
  ·subst k1;exact .inl h
  ·subst h1;exact .inl k
  ·subst h1 k1;exact .inr ⟨rfl,WT h2 k2⟩
theorem UL:∀ {a b:List UInt8},Op.bytesLess a b=false→Op.bytesLess b a=false→a=b
 | [],[],_,_=>rfl
 | [],_ :: _,h,_=>by simp[Op.bytesLess]at h
 |_ :: _,[],_,h=>by simp[Op.bytesLess]at h
 |x :: a,y :: b,h,k=>by
  simp only[Op.bytesLess,QZA,Q0J,Q0E,Q0F]at h k;have e:x=y:=by
   rcases Nat.lt_trichotomy x.toNat y.toNat with g|g|g
   ·exact absurd (UInt8.lt_iff_toNat_lt.2 g) h.1
   ·exact UInt8.toNat_inj.1 g
   ·exact absurd (UInt8.lt_iff_toNat_lt.2 g) k.1
  subst e;rw[UL (h.2.resolve_left fun g=>g rfl) (k.2.resolve_left fun g=>g rfl)]
theorem Kp:∀a:List UInt8,Op.bytesLess a a=false
 | []=>rfl
 |x :: a=>by simp[Op.bytesLess,Kp a]

def kl (k:Int)(a b:V):Bool :=
 if JA k=true then Op.bytesLess a.text b.text else if (k==2||k==3)=true then decide (IntKind.i64.wrap (a.bits:Int)<IntKind.i64.wrap (b.bits:Int))else decide ((a.bits:Int)<(b.bits:Int))
theorem QL7 (k:Int):SW fun x y:V×V=>kl k x.1 y.1 where
 irr x:=by
  unfold kl;split
  ·exact Kp _
  ·split<;>simp
 tr x y z h g:=by
  unfold kl at *;split
  ·rename_i ht;rw[QYS ht]at h g;exact WT h g
  ·rename_i ht;rw[QYR ht]at h g;split
   ·rename_i hs;rw[QYS hs]at h g;simp only[QZ2]at *;omega
   ·rename_i hs;rw[QYR hs]at h g;simp only[QZ2]at *;omega
 nt x y z h g:=by
  unfold kl at *;split
  ·rename_i ht;rw[QYS ht]at h g;cases hc:Op.bytesLess x.1.text z.1.text with
   |false=>rfl
   |true=>
    cases hy:Op.bytesLess y.1.text x.1.text with
    |true=>rw[WT hy hc]at g;cases g
    |false=>
     rw[UL h hy]at hc;rw[hc]at g;cases g
  ·rename_i ht;rw[QYR ht]at h g;split
   ·rename_i hs;rw[QYS hs]at h g;simp only[Q0E]at *;omega
   ·rename_i hs;rw[QYR hs]at h g;simp only[Q0E]at *;omega

def ZE (k:Int)(l:List (V×V)):List (V×V):=QD (fun x y=>kl k x.1 y.1) l
def WU (l:List R):List R:=QD (fun x y=>decide (x.num<y.num)) l
def _root_.Go.Proofs.YtafhmlkilcmniaaGreatDoor.Br.V.nsc (v:V):V:=.mk v.kd (XG v.kd v.bits) v.text v.list v.pairs v.slots v.raws
def _root_.Go.Proofs.YtafhmlkilcmniaaGreatDoor.Br.V.emp (v:V):Bool:=Va.emp v.kd v.bits v.text (v.list.map V.av) (v.pairs.map V.pav) (v.slots.map V.sav) (v.raws.map R.av)

section
variable (nm:PG→V→V)(P:PL)
def JP (o:PO)(v:V):V:=if o.kind=10 then nm (Jo P o.target) v else v.nsc
def Jp (o:PO)(v:V):V :=
 if o.card=4 then .mk 11 0 [] (v.list.map (JP nm P o)) [] [] []else if o.card=5 then .mk 12 0 [] [] ((ZE o.key v.pairs).map fun p=>(p.1.nsc,JP nm P o p.2)) [] []else JP nm P o v
def Ke (sl:List (Int×V))(o:PO):List (Int×V):=match sl.find? (fun s=>s.1==o.num)with
 |none=>[]
 |some s=>if (decide (o.card<3) || !(Jp nm P o s.2).emp)=true then [(o.num,Jp nm P o s.2)]else []
def E1 (g:PG)(v:V):V:=.mk 10 0 [] [] [] (g.ops.flatMap (Ke nm P v.slots)) (WU v.raws)
end
def Zc (P:PL):Nat→PG→V→V
 |0,_,v=>v
 |n+1,g,v=>E1 (Zc P n) P g v

theorem C4 (v:V):v.nsc.cnt=v.cnt:=by
 rw[XY,XY v];rfl
theorem Vg {f:V→V}(h:∀v,(f v).cnt≤v.cnt):∀l:List V,Xy (l.map f)≤Xy l
 | []=>QYK _
 |x :: l=>by
  have:=h x;have:=Vg h l;simp only[QZh,Xy];omega
theorem Vh {f g:V→V}(h:∀v,(f v).cnt≤v.cnt)(k:∀v,(g v).cnt≤v.cnt):∀l:List (V×V),XX (l.map fun p=>(f p.1,g p.2))≤XX l
 | []=>QYK _
 |(a,b) :: l=>by
  have:=h a;have:=k b;have:=Vh h k l;simp only[QZh,XX];omega
theorem T5 {a b:List (V×V)}(h:a.Perm b):XX a=XX b:=by
 induction h with
 |nil=>rfl
 |cons x _ ih=>obtain⟨p,q⟩:=x;simp only[XX,ih]
 |swap x y l=>obtain⟨p,q⟩:=x;obtain⟨r,s⟩:=y;simp only[XX];omega
 |trans _ _ h1 h2=>rw[h1,h2]
theorem E2 (a b:List (Int×V)):XI (a++b)=XI a+XI b:=by
 induction a with
 |nil=>simp[XI]
 |cons x a ih=>obtain⟨n,v⟩:=x;simp only[QY5,XI,ih];omega

theorem Fg {nm:PG→V→V}{P:PL}(h:∀t v,(nm (Jo P t) v).cnt≤v.cnt)(o:PO)(v:V):(JP nm P o v).cnt≤v.cnt:=by
 unfold JP;split
 ·exact h _ _
 ·rw[C4];exact QYK _
theorem C5 {nm:PG→V→V}{P:PL}(h:∀t v,(nm (Jo P t) v).cnt≤v.cnt)(o:PO)(v:V):(Jp nm P o v).cnt≤v.cnt:=by
 unfold Jp;split
 ·have:=Vg (Fg (P:=P) h o) v.list;rw[XY,XY v];simp only[V.raws,V.list,V.pairs,V.slots,QZR,XX,XI];simp only[V.list]at this;omega
 ·split
  ·have h1:=Vh (f:=V.nsc) (g:=JP nm P o) (fun v=>by rw[C4];exact QYK _) (Fg (P:=P) h o) (ZE o.key v.pairs);have h2:XX (ZE o.key v.pairs)=XX v.pairs:=T5 (XC _);rw[XY,XY v];simp only[V.raws,V.list,V.pairs,V.slots,QZR,Xy,XI];simp only[V.pairs]at h1 h2;omega
  ·exact Fg h o v

def wS (sl:List (Int×V))(n:Int):Nat:=XI (sl.filter fun s=>s.1==n)
theorem QC2 (ops:List PO)(hd:ops.Pairwise fun a b=>a.num<b.num)(n:Int)(w:Nat):(ops.map fun o=>if n=o.num then w else 0).sum≤w:=by
 induction ops with
 |nil=>simp
 |cons o ops ih=>
  obtain⟨h1,h2⟩:=Q0f.1 hd;simp only[QZh,List.sum_cons];by_cases e:n=o.num
  ·have:(ops.map fun o=>if n=o.num then w else 0).sum=0:=by
    have:∀l:List PO,(∀x∈l,n≠x.num)→(l.map fun o=>if n=o.num then w else 0).sum=0:=by
     intro l
     induction l with
     |nil=>intro _;rfl
     |cons x l ih=>
      intro h;rw[QZh,List.sum_cons,QYR (h x (by simp)),ih fun y hy=>h y (by simp[hy])]
    exact this ops fun x hx=>by have:=h1 x hx;omega
   rw[QYS e,this];omega
  ·rw[QYR e];have:=ih h2;omega
theorem QC3 (ops:List PO)(hd:ops.Pairwise fun a b=>a.num<b.num)(sl:List (Int×V)):(ops.map fun o=>wS sl o.num).sum≤XI sl:=by
 induction sl with
 |nil=>
  have:∀l:List PO,(l.map fun o=>wS [] o.num).sum=0:=by
   intro l
   induction l with
   |nil=>rfl
   |cons x l ih=>rw[QZh,List.sum_cons,ih];rfl
  rw[this];exact QYT _
 |cons s sl ih=>
  obtain⟨n,v⟩:=s;have h1:=QC2 ops hd n v.cnt;have h2:∀l:List PO,(l.map fun o=>wS ((n,v) :: sl) o.num).sum=(l.map fun o=>if n=o.num then v.cnt else 0).sum+(l.map fun o=>wS sl o.num).sum:=by
   intro l
   induction l with
   |nil=>rfl
   |cons o l ih=>
    simp only[QZh,List.sum_cons,ih];have:wS ((n,v) :: sl) o.num=(if n=o.num then v.cnt else 0)+wS sl o.num:=by
     unfold wS;by_cases e:n=o.num
     ·rw[List.filter_cons_of_pos (by simpa using e),QYS e,XI]
     ·rw[List.filter_cons_of_neg (by simpa using e),QYR e,QY9]
    omega
  rw[h2,XI];omega

theorem QfI {sl:List (Int×V)}{n:Int}{s:Int×V}(h:sl.find? (fun s=>s.1==n)=some s):s.2.cnt≤wS sl n:=by
 unfold wS
 induction sl with
 |nil=>cases h
 |cons x sl ih=>
  obtain⟨m,v⟩:=x;rw[Q0t]at h;by_cases e:m=n
  ·have hb:((m,v).1==n)=true:=by simpa using e
   rw[hb]at h;cases h;rw[List.filter_cons_of_pos (by simpa using e),XI];exact Nat.le_add_right _ _
  ·have hb:((m,v).1==n)=false:=by simpa using e
   rw[hb]at h;rw[List.filter_cons_of_neg (by simpa using e)];exact ih h

theorem E3 {nm:PG→V→V}{P:PL}(h':∀t v,(nm (Jo P t) v).cnt≤v.cnt)(g:PG)(hd:g.ops.Pairwise fun a b=>a.num<b.num)(v:V):(E1 nm P g v).cnt≤v.cnt:=by
 have h1:XI (g.ops.flatMap (Ke nm P v.slots))≤(g.ops.map fun o=>wS v.slots o.num).sum:=by
  clear hd
  induction g.ops with
  |nil=>exact QYK _
  |cons o l ih=>
   have:XI (Ke nm P v.slots o)≤wS v.slots o.num:=by
    unfold Ke;cases hf:v.slots.find? (fun s=>s.1==o.num)with
    |none=>exact QYT _
    |some s=>
     have a:=QfI hf;have b:=C5 (P:=P) h' o s.2;dsimp only;split
     ·simp only[XI];omega
     ·exact QYT _
   rw[Q0b,E2,QZh,List.sum_cons];omega
 have h2:=QC3 g.ops hd v.slots;have h3:(WU v.raws).length=v.raws.length:=(XC _).length_eq;rw[XY,XY v];simp only[E1,V.raws,V.list,V.pairs,V.slots,Xy,XX]at *;omega

def Bp (P:PL):Prop:=∀g∈P.progs,g.ops.Pairwise fun a b=>a.num<b.num
theorem FZ {P:PL}(h:Bp P)(t:Int):(Jo P t).ops.Pairwise fun a b=>a.num<b.num:=by
 unfold Jo;cases hg:P.progs[t.toNat]? with
 |none=>exact .nil
 |some g=>exact h g (QYY hg)

theorem Fh {P:PL}(h:Bp P):∀(n:Nat) (g:PG),(g.ops.Pairwise fun a b=>a.num<b.num)→∀v:V,(Zc P n g v).cnt≤v.cnt
 |0,_,_,_=>QYK _
 |n+1,g,hg,v=>E3 (fun t v=>Fh h n _ (FZ h t) v) g hg v

theorem KV {α β:Type}(f:α→β)(lt:β→β→Bool)(l:List α):XN (l.map f) lt=XN l (fun x y=>lt (f x) (f y)):=by
 unfold XN;rw[QZ5];refine G8 fun i hi=>?_
 cases i with
 |zero=>rfl
 |succ k=>
  rw[J7 (x:=f (l[k]'(by omega))) (y:=f l[k+1]) (by rw[QZ3,QYN (by omega)];rfl) (by rw[QZ3,QYN hi];rfl)];rw[J7 (QYN (by omega:k<l.length)) (QYN hi)]
theorem Vi {α β:Type}(f:α→β)(nm:β→List UInt8)(l:List α):YY (l.map f) nm=YY l (fun x=>nm (f x)):=by
 unfold YY;rw[QZ5];refine G8 fun i hi=>?_
 rw[U4 (x:=f l[i]) (by rw[QZ3,QYN hi];rfl),U4 (QYN hi),←QZq,List.all_map];rfl

theorem T6 {α:Type}{f g:α→Bool}:∀ {l:List α},(∀x∈l,f x=g x)→l.any f=l.any g
 | [],_=>rfl
 |x :: l,h=>by rw[List.any_cons,List.any_cons,h x (by simp),T6 fun y hy=>h y (by simp[hy])]

structure Sok (S:SC):Prop where
 lm:S.msgs.length≤64∧S.enums.length≤64∧S.servs.length≤64
 om:XN S.msgs (WM SM.name)=true
 oe:XN S.enums (WM SE.name)=true
 ap:∀e∈S.enums,∀m∈S.msgs,m.name≠e.name
 ms:∀m∈S.msgs,H1 S m=true
 es:∀e∈S.enums,H2 e=true
theorem Vj {S:SC}(h:JN S=true):Sok S:=by
 unfold JN at h;simp only[QY7,QYX]at h;obtain⟨⟨⟨⟨⟨h1,h2⟩,h3⟩,h4⟩,h5⟩,_⟩:=h;unfold EZ at h1;unfold EY at h2;unfold Kh at h3;simp only[QY7,QZ2]at h1 h2 h3;refine⟨⟨h1.1.1,h1.1.2,h1.2⟩,h2.1.1,h2.1.2,fun e he m hm hn=>?_,h4,h5⟩;have:=h3.1.1;rw[QZD,Q0y]at this;refine this e he (Q0A.2 ⟨m,hm,?_⟩);simp[hn]

structure Mok (S:SC)(m:SM):Prop where
 name:XE m.name=true
 len:m.fields.length≤64
 flds:∀i,i<m.fields.length→UH S m i=true
 nc:Dc S m=false
theorem ZN {S:SC}{m:SM}(h:H1 S m=true):Mok S m:=by
 unfold H1 at h;simp only[QY7,QZ2,QZD]at h;obtain⟨⟨⟨⟨⟨⟨⟨⟨h1,h2⟩,_⟩,_⟩,h3⟩,_⟩,_⟩,_⟩,h4⟩:=h;exact⟨h1,h2,Q1.1 h3,h4⟩
structure Fok (S:SC)(m:SM)(i:Nat)(f:SF):Prop where
 num:1≤f.num∧f.num≤65535
 up:∀j y,i=j+1→m.fields[j]? = some y→y.num<f.num
 name:Xo f.name=true
 twice:((m.fields.take i).any fun x=>x.name==f.name)=false
 card:Yu f=true
 typ:JL S f=true
 uni:JM m i=true
 Yb:Yb S f=true
 notes:Zo f.notes 2=0
theorem QC4 {S:SC}{m:SM}{i:Nat}{f:SF}(hf:m.fields[i]? = some f)(h:UH S m i=true):Fok S m i f:=by
 unfold UH at h;rw[hf]at h;simp only[QY7,QZ2,QZD,QY8]at h;obtain⟨⟨⟨⟨⟨⟨⟨⟨⟨⟨⟨h1,h2⟩,h3⟩,h4⟩,h5⟩,_⟩,_⟩,h6⟩,h7⟩,h8⟩,h9⟩,h10⟩:=h;refine⟨⟨h1,h2⟩,fun j y hj hy=>?_,h4,h5,h6,h7,h8,h9,h10⟩;subst hj;dsimp only at h3;rw[hy]at h3
 simpa using h3
theorem Jq {S:SC}{m:SM}(hm:Mok S m){i:Nat}{f:SF}(hf:m.fields[i]? = some f):Fok S m i f:=QC4 hf (hm.flds i (QYM.1 hf).1)

theorem C6 {t:Int}:∀ {l:List SN} {last:Option (List UInt8)},Uo t last l=0→∀n∈l,XW n.name≠0∧n.val.fitk (XW n.name)=true
 |n :: l,last,h,x,hx=>by
  rw[Uo]at h;split at h
  ·rename_i h1;rcases QZ0.1 hx with rfl|hx
   ·unfold KD at h1;split at h1
    ·cases h1
    ·rename_i h2;split at h1
     ·cases h1
     ·split at h1
      ·cases h1
      ·rename_i h3;exact⟨h2,by simpa using h3⟩
   ·exact C6 h x hx
  ·rename_i h1;exact absurd h h1
theorem QfJ {l:List SN}{t:Int}(h:Zo l t=0):∀n∈l,XW n.name≠0∧n.val.fitk (XW n.name)=true:=by
 unfold Zo at h;split at h
 ·cases h
 ·exact C6 h
theorem E4:XW alias=7:=by decide
theorem Yd {l:List SN}{t:Int}(h:Zo l t=0){v:V}(hv:Xx l=some v):v.fitk 7=true:=by
 unfold Xx at hv;cases hf:l.find? (fun n=>n.name==alias)with
 |none=>rw[hf]at hv;cases hv
 |some n=>
  rw[hf]at hv;cases hv;have hn:n.name=alias:=by simpa using Q0C hf
  have:=(QfJ h n (Q0B hf)).2
  rwa [hn,E4]at this
theorem F0 {v:V}(h:v.fitk 7=true):Z9 v.text=true∧v.text.length≤4096:=by
 unfold V.fitk X8 at h;simp only[QY7,QZ2,QZE]at h;refine⟨?_,by omega⟩;rcases h.2 with h|h
 ·exact absurd h (by decide)
 ·exact h

theorem Fi {S:SC}(hS:XN S.msgs (WM SM.name)=true):TX S:=by
 have hs:∀i (hi:i+1<S.msgs.length),Op.bytesLess S.msgs[i].name S.msgs[i+1].name=true:=by
  intro i hi;have h:=hS;unfold XN at h;have:=Q1.1 h (i+1) hi;rw[J7 (QYN (by omega:i<S.msgs.length)) (QYN hi)]at this;exact this
 have hp:∀(i j:Nat) (hi:i<S.msgs.length) (hj:j<S.msgs.length),i<j→Op.bytesLess S.msgs[i].name S.msgs[j].name=true:=by
  intro i j hi hj hij;obtain⟨d,rfl⟩:∃d,j=i+1+d:=⟨j-(i+1),by omega⟩;clear hij
  induction d with
  |zero=>exact hs i (by omega)
  |succ d ih=>exact WT (ih (by omega)) (hs (i+1+d) (by omega))
 intro i j m n hm hn e;obtain⟨hi,rfl⟩:=QYM.1 hm;obtain⟨hj,rfl⟩:=QYM.1 hn;rcases Nat.lt_trichotomy i j with c|c|c
 ·have:=hp i j hi hj c;rw[e,Kp]at this;cases this
 ·exact c
 ·have:=hp j i hj hi c;rw[e,Kp]at this;cases this

section
variable {S:SC}(hS:Sok S)
include hS
theorem UM:TX S:=Fi hS.om

theorem QfK:∀b∈QV S,b=true:=by
 have hfix:Xc S (QV S) S.msgs.length=QV S:=Y6 S _ _ (by rw[QZ9];omega);have hlen:(QV S).length=S.msgs.length:=by unfold QV;rw[H3,QZ9]
 have hD:=UM hS
 -- a step that changes something changes the count
 have hst:∀i,i≤S.msgs.length→Xc S (QV S) i=QV S:=by
  intro i hi;have mono:∀i d,Uq (Xc S (QV S) i)≤Uq (Xc S (QV S) (i+d)):=by
   intro i d
   induction d with
   |zero=>exact QYK _
   |succ d ih=>
    rw[show i+(d+1)=(i+d)+1 by omega,Xc];rcases Fa S (Xc S (QV S) (i+d)) (i+d)with g|g
    ·rw[g];exact ih
    ·omega
  rcases Wy S (QV S) i with g|g
  ·exact g
  ·have:=mono i (S.msgs.length-i);rw[show i+(S.msgs.length-i)=S.msgs.length by omega,hfix]at this;omega
 intro b hb;obtain⟨i,hi,rfl⟩:=Q0M hb;have hm:S.msgs[i]? = some (S.msgs[i]'(by omega)):=QYN (by omega);have h1:=hst (i+1) (by omega);rw[Xc,hst i (by omega)]at h1;unfold KM at h1;rw[hm]at h1;have hc:=(ZN (hS.ms _ (QZz (by omega:i<S.msgs.length)))).nc;rw[T0 hD]at hc;cases hF:(QV S)[i]with
 |true=>rfl
 |false=>
  change (if (QV S)[i]? = some false∧Xm S (QV S) (S.msgs[i]'(by omega))=false then(QV S).set i true else QV S)=QV S at h1
  rw[QYS ⟨by rw[QYN hi,hF],hc⟩]at h1;have:=congrArg (fun l:List Bool=>l[i]?) h1;rw[List.getElem?_set_self hi,QYN hi,hF]at this;cases this

theorem U8 {m:SM}(hm:m∈S.msgs){f:SF}(hf:f∈m.fields)(hk:f.kind=10):∃(j:Nat) (n:SM),S.msgs[j]? = some n∧n.name=f.tname∧Zp S f=(j:Int)∧Wm S f.tname=(j:Int)∧f.card≠3:=by
 obtain⟨i,hi⟩:=QYW.1 hf;have ht:=(Jq (ZN (hS.ms m hm)) hi).typ;unfold JL at ht;rw[QYR (by omega),QYR (by omega),QYS hk]at ht;simp only[QY7,QZc]at ht;obtain⟨h1,h2⟩:=ht;unfold Q6 at h1;obtain⟨x,hx,hxn⟩:=Q0A.1 h1;have hxn:x.name=f.tname:=by simpa using hxn
 obtain⟨j,hj⟩:=QYW.1 hx;have:=TY (UM hS) hj;rw[hxn]at this;refine⟨j,x,hj,hxn,?_,this,h2⟩;unfold Zp;rw[QYS hk];exact this
theorem Vk {m:SM}(hm:m∈S.msgs){f:SF}(hf:f∈m.fields)(hk:f.kind=9):∃(j:Nat) (n:SE),S.enums[j]? = some n∧n.name=f.tname∧Zp S f=(j:Int):=by
 obtain⟨i,hi⟩:=QYW.1 hf;have ht:=(Jq (ZN (hS.ms m hm)) hi).typ;unfold JL at ht;rw[QYR (by omega),QYS hk]at ht;unfold D7 at ht;obtain⟨x,hx,hxn⟩:=Q0A.1 ht;unfold Zp;rw[QYR (by omega),QYS hk];rcases Xi (fun m:SE=>m.name==f.tname) S.enums 0 with⟨_,hn⟩|⟨k,o,h1,h2,h3⟩
 ·exact absurd hxn (Q0z.1 hn x hx)
 ·exact⟨k,o,h2,by simpa using Q0C h3,by rw[h1];omega⟩

theorem QC5:fin (Qp S)=true:=by
 have hD:=UM hS;have hG:(Qp S).progs=S.msgs.map (QO S):=rfl
 -- what a program needs
 have hneed:∀(F:List Bool),F.length=S.msgs.length→∀m∈S.msgs,(QO S m).ops.any (Wi F)=Xm S F m:=by
  intro F _ m hm;unfold Xm Zj;rw[List.any_map,List.any_filter];show(m.fields.map (QX S (unl [] m.fields))).any (Wi F)=_;rw[List.any_map];refine T6 fun f hf=>?_
  show Wi F (QX S (unl [] m.fields) f)=_;unfold Wi;show(f.card==1&&f.kind==10 && !(F[(Zp S f).toNat]?.getD false))=_;by_cases hc:f.card=1∧f.kind=10
  ·obtain⟨j,n,h1,h2,h3,h4,_⟩:=U8 hS hm hf hc.2;simp only[Function.comp_apply,hc.1,hc.2,beq_self_eq_true,Q0p,h3,h4];rw[Q0D (by omega:(j:Int)≥0),Q0p]
  ·have:(f.card==1&&f.kind==10)=false:=by
    rw[Q0J,Q0F,Q0F];omega
   rw[this];rfl
 have hstp:∀(F:List Bool) (i:Nat),F.length=S.msgs.length→FX (Qp S).progs F→Ur (Qp S).progs F i=KM S F i:=by
  intro F i hl hk;unfold KM;cases hm:S.msgs[i]? with
  |none=>
   unfold Ur;rw[hG,QZ3,hm];rfl
  |some m=>
   have hi:=(QYM.1 hm).1;have hg:(Qp S).progs[i]? = some (QO S m):=by rw[hG,QZ3,hm];rfl
   have hb:F[i]? = some (F[i]'(by omega)):=QYN (by omega);rw[QCY hk hg hb,hneed F hl m (QYY hm)];dsimp only;cases hF:F[i]'(by omega)with
   |true=>
    rw[QYR (fun h=>by rw[hb,hF]at h;cases h.1),Q0r,←hF];exact List.set_getElem_self _
   |false=>
    cases hs:Xm S F m with
    |true=>
     rw[QYR (fun h=>by cases h.2)];show F.set i false=F;rw[←hF];exact List.set_getElem_self _
    |false=>rw[QYS ⟨by rw[hb,hF],rfl⟩];rfl
 have hrnd:∀(F:List Bool),F.length=S.msgs.length→FX (Qp S).progs F→∀i,Vc (Qp S).progs F i=Xc S F i:=by
  intro F hl hk i
  induction i with
  |zero=>rfl
  |succ i ih=>rw[Vc,Xc,←ih,hstp _ i (by rw[ih,KU,hl]) (Fe hk i)]
 have hits:∀k,Qg (Qp S).progs k=Nat.repeat (fun F=>Xc S F S.msgs.length) k (List.replicate S.msgs.length false):=by
  intro k
  induction k with
  |zero=>rw[Qg,hG,QZ5];rfl
  |succ k ih=>
   have hpl:(Qp S).progs.length=S.msgs.length:=by rw[hG,QZ5]
   rw[Qg,hrnd _ (by rw[C1,hpl]) (C2 _ k),ih,hpl];rfl
 obtain⟨j,h1,h2,h3⟩:=UJ S S.msgs.length (List.replicate S.msgs.length false);have hfix:Xc S (QV S) S.msgs.length=QV S:=Y6 S _ _ (by rw[QZ9];omega);have hstay:∀d,Nat.repeat (fun F=>Xc S F S.msgs.length) d (QV S)=QV S:=by
  intro d
  induction d with
  |zero=>rfl
  |succ d ih=>show Xc S (Nat.repeat _ d (QV S)) _=_;rw[ih,hfix]
 have hadd:∀d (F:List Bool),Nat.repeat (fun F=>Xc S F S.msgs.length) (d+j) F=Nat.repeat (fun F=>Xc S F S.msgs.length) d (Nat.repeat (fun F=>Xc S F S.msgs.length) j F):=by
  intro d
  induction d with
  |zero=>intro F;rw[QY9];rfl
  |succ d ih=>intro F;rw[show d+1+j=(d+j)+1 by omega];show Xc S (Nat.repeat _ (d+j) F) _=_;rw[ih F];rfl
 have hkey:Nat.repeat (fun F=>Xc S F S.msgs.length) S.msgs.length (List.replicate S.msgs.length false)=QV S:=by
  have e1:=hadd (S.msgs.length-j) (List.replicate S.msgs.length false);rw[Nat.sub_add_cancel h1,←h2,show Z1 S S.msgs.length (List.replicate S.msgs.length false)=QV S from rfl,hstay]at e1;exact e1
 unfold fin;rw[show(Qp S).progs.length=S.msgs.length by rw[hG,QZ5],hits,hkey,QYX];exact QfK hS
end

structure Eok (e:SE):Prop where
 name:XE e.name=true
 len:1≤e.items.length∧e.items.length≤64
 free:e.free.length≤16
 itms:∀i,i<e.items.length→UI e i=true
 spn:D9 0 2147483647 e.free=true
theorem WV {e:SE}(h:H2 e=true):Eok e:=by
 unfold H2 at h;simp only[QY7,QZ2]at h;obtain⟨⟨⟨⟨⟨⟨h1,h2⟩,h3⟩,h4⟩,h5⟩,h6⟩,_⟩:=h;exact⟨h1,⟨h2,h3⟩,h4,Q1.1 h5,h6⟩
structure Iok (e:SE)(i:Nat)(x:SI):Prop where
 num:0≤x.num∧x.num≤2147483647
 fst:i=0→x.num=0
 up:∀j y,i=j+1→e.items[j]? = some y→y.num<x.num
 name:Xo x.name=true
 twice:((e.items.take i).any fun y=>y.name==x.name)=false
 kept:kept e.free x.num=false
 notes:Zo x.notes 4=0
theorem WW {e:SE}(he:Eok e){i:Nat}{x:SI}(hx:e.items[i]? = some x):Iok e i x:=by
 have h:=he.itms i (QYM.1 hx).1;unfold UI at h;rw[hx]at h;simp only[QY7,QZ2,QZD,QY8]at h;obtain⟨⟨⟨⟨⟨⟨h1,h2⟩,h3⟩,h4⟩,h5⟩,h6⟩,h7⟩:=h;refine⟨⟨h1,h2⟩,fun h0=>?_,fun j y hj hy=>?_,h4,h5,h6,h7⟩
 ·subst h0
  simpa using h3
 ·subst hj;dsimp only at h3;rw[hy]at h3
  simpa using h3

theorem QC6 {S:SC}(hS:Sok S):lim (Qp S)=true:=by
 unfold lim;simp only[QY7,QZ2,QYX];refine⟨⟨⟨?_,?_⟩,fun g hg=>?_⟩,fun e he=>?_⟩
 ·show(S.msgs.map (QO S)).length≤64;rw[QZ5];exact hS.lm.1
 ·show(S.enums.map Jm).length≤64;rw[QZ5];exact hS.lm.2.1
 ·obtain⟨m,hm,rfl⟩:=QZ1.1 hg;unfold QCt;show decide ((m.fields.map _).length≤64)=true;rw[QZ5];exact Q0D (ZN (hS.ms m hm)).len
 ·obtain⟨x,hx,rfl⟩:=QZ1.1 he;have:=WV (hS.es x hx);unfold QCu;show(decide (1≤(x.items.map JO).length)&&decide ((x.items.map JO).length≤64)&&decide (x.free.length≤16))=true;rw[QZ5,Q0D this.len.1,Q0D this.len.2,Q0D this.free];rfl
theorem QC7 {S:SC}(hS:Sok S):nam (Qp S)=true:=by
 unfold nam;simp only[QY7,QYX];refine⟨fun g hg=>?_,fun e he=>?_⟩
 ·obtain⟨m,hm,rfl⟩:=QZ1.1 hg;have hk:=ZN (hS.ms m hm);unfold QCv;simp only[QY7,QYX];refine⟨hk.name,fun o ho=>?_⟩;obtain⟨f,hf,rfl⟩:=QZ1.1 ho;obtain⟨i,hi⟩:=QYW.1 hf;exact(Jq hk hi).name
 ·obtain⟨x,hx,rfl⟩:=QZ1.1 he;have hk:=WV (hS.es x hx);unfold QCw;simp only[QY7,QYX];refine⟨hk.name,fun o ho=>?_⟩;obtain⟨f,hf,rfl⟩:=QZ1.1 ho;obtain⟨i,hi⟩:=QYW.1 hf;exact(WW hk hi).name
theorem QC8 {S:SC}(hS:Sok S):TO (Qp S)=true:=by
 unfold TO;simp only[QY7,QYX];refine⟨⟨⟨?_,?_⟩,fun g hg=>?_⟩,fun e he=>?_⟩
 ·show XN (S.msgs.map (QO S)) _=true;rw[KV];exact hS.om
 ·show XN (S.enums.map Jm) _=true;rw[KV];exact hS.oe
 ·obtain⟨m,hm,rfl⟩:=QZ1.1 hg;have hk:=ZN (hS.ms m hm);unfold QCy;show XN (m.fields.map _) _=true;rw[KV];unfold XN;rw[Q1];intro i hi;cases i with
  |zero=>rfl
  |succ k=>
   have h1:m.fields[k]? = some (m.fields[k]'(by omega)):=QYN (by omega);have h2:m.fields[k+1]? = some m.fields[k+1]:=QYN hi;rw[J7 h1 h2];exact Q0D ((Jq hk h2).up k _ rfl h1)
 ·obtain⟨x,hx,rfl⟩:=QZ1.1 he;have hk:=WV (hS.es x hx);unfold QCz;show XN (x.items.map JO) _=true;rw[KV];unfold XN;rw[Q1];intro i hi;cases i with
  |zero=>rfl
  |succ k=>
   have h1:x.items[k]? = some (x.items[k]'(by omega)):=QYN (by omega);have h2:x.items[k+1]? = some x.items[k+1]:=QYN hi;rw[J7 h1 h2];exact Q0D ((WW hk h2).up k _ rfl h1)
theorem QC9 {S:SC}(hS:Sok S):sin (Qp S)=true:=by
 unfold sin;simp only[QY7,QYX];refine⟨fun g hg=>?_,fun e he=>?_⟩
 ·obtain⟨m,hm,rfl⟩:=QZ1.1 hg;have hk:=ZN (hS.ms m hm);unfold QCA;simp only[QY7,QYX];refine⟨fun e he=>?_,?_⟩
  ·obtain⟨x,hx,rfl⟩:=QZ1.1 he;have:(Jm x).name≠(QO S m).name:=fun h=>hS.ap x hx m hm h.symm
   simpa using this
  ·show YY (m.fields.map _) _=true;rw[Vi];unfold YY;rw[Q1];intro i hi;have h2:m.fields[i]? = some m.fields[i]:=QYN hi;rw[U4 h2,CS,QZD];exact(Jq hk h2).twice
 ·obtain⟨x,hx,rfl⟩:=QZ1.1 he;have hk:=WV (hS.es x hx);unfold QCB;show YY (x.items.map JO) _=true;rw[Vi];unfold YY;rw[Q1];intro i hi;have h2:x.items[i]? = some x.items[i]:=QYN hi;rw[U4 h2,CS,QZD];exact(WW hk h2).twice
theorem QDa {S:SC}(hS:Sok S):rng (Qp S)=true:=by
 unfold rng;simp only[QY7,QYX];refine⟨fun g hg o ho=>?_,fun e he=>?_⟩
 ·obtain⟨m,hm,rfl⟩:=QZ1.1 hg;obtain⟨f,hf,rfl⟩:=QZ1.1 ho;obtain⟨i,hi⟩:=QYW.1 hf;have:=(Jq (ZN (hS.ms m hm)) hi).num;unfold QCD;show(decide (f.num≥1)&&decide (f.num≤65535))=true;rw[Q0D this.1,Q0D this.2];rfl
 ·obtain⟨x,hx,rfl⟩:=QZ1.1 he;have hk:=WV (hS.es x hx);have hsp:=hk.spn;unfold D9 at hsp;simp only[QY7]at hsp;unfold QCG;simp only[QY7,QYX];refine⟨⟨⟨fun y hy=>QYX.1 hsp.1 y hy,hsp.2⟩,?_⟩,fun y hy=>?_⟩
  ·unfold QCF;show(match x.items.map JO with
    | []=>true
    |x :: _=>x.num==0)=true
   cases hi:x.items with
   |nil=>rfl
   |cons a l=>
    have:=(WW hk (i:=0) (x:=a) (by rw[hi];rfl)).fst rfl;show(a.num==0)=true;rw[this];rfl
  ·obtain⟨z,hz,rfl⟩:=QZ1.1 hy;obtain⟨i,hi⟩:=QYW.1 hz;have h1:=WW hk hi;unfold QCE;show(decide (z.num≤2147483647) && !kept x.free z.num)=true;rw[Q0D h1.num.2,h1.kept];rfl

theorem U9:∀(l:List SF) (us:List (List UInt8)),∃r,unl us l=us++r
 | [],us=>⟨[],by simp[unl]⟩
 |f :: l,us=>by
  rw[unl];split
  ·exact U9 l us
  ·obtain⟨r,h⟩:=U9 l (us++[f.union]);exact⟨f.union :: r,by rw[h];simp⟩
theorem Yy:∀(l:List SF) (us:List (List UInt8)) (s:List UInt8),s∈unl us l↔s∈us∨(s≠[]∧∃f∈l,f.union=s)
 | [],us,s=>by simp[unl]
 |f :: l,us,s=>by
  rw[unl];split
  ·rename_i h;rw[Yy l us s]
   constructor
   ·rintro(h1|⟨h1,g,hg,h2⟩)
    ·exact .inl h1
    ·exact .inr ⟨h1,g,by simp[hg],h2⟩
   ·rintro(h1|⟨h1,g,hg,h2⟩)
    ·exact .inl h1
    ·rcases QZ0.1 hg with rfl|hg
     ·rcases h with h|h
      ·exact absurd (h2.symm.trans h) h1
      ·rw[h2]at h;exact .inl (by simpa using h)
     ·exact .inr ⟨h1,g,hg,h2⟩
  ·rename_i h;simp only[not_or]at h;rw[Yy l _ s];simp only[QZX,Q0K]
   constructor
   ·rintro((h1|h1)|⟨h1,g,hg,h2⟩)
    ·exact .inl h1
    ·exact .inr ⟨by rw[h1];exact h.1,f,by simp,h1.symm⟩
    ·exact .inr ⟨h1,g,by simp[hg],h2⟩
   ·rintro(h1|⟨h1,g,hg,h2⟩)
    ·exact .inl (.inl h1)
    ·rcases QZ0.1 hg with rfl|hg
     ·exact .inl (.inr h2.symm)
     ·exact .inr ⟨h1,g,hg,h2⟩
theorem Yz:∀(a b:List SF) (us:List (List UInt8)),unl us (a++b)=unl (unl us a) b
 | [],b,us=>rfl
 |f :: a,b,us=>by rw[QY5,unl,unl,Yz a b]
theorem Ha {us r:List (List UInt8)}{s:List UInt8}(h:s∈us):Zk (us++r) s=Zk us s∧0≤Zk us s∧Zk us s<(us.length:Int):=by
 unfold Zk;rcases Xi (fun u=>u==s) us 0 with⟨_,hn⟩|⟨k,o,h1,h2,h3⟩
 ·exact absurd (by simp) (Q0z.1 hn s h)
 ·have hk:=(QYM.1 h2).1;have happ:∀(l:List (List UInt8)) (i:Nat),s∈l→QS (fun u=>u==s) (l++r) i=QS (fun u=>u==s) l i:=by
   intro l
   induction l with
   |nil=>intro i h;cases h
   |cons x l ih=>
    intro i h;rw[QY5,QS,QS];split
    ·rfl
    ·rename_i hx;exact ih _ ((QZ0.1 h).resolve_left fun e=>hx (by simp[e]))
  refine⟨happ us 0 h,?_,?_⟩
  ·rw[h1];omega
  ·rw[h1];omega
theorem QfL {us r:List (List UInt8)}{s:List UInt8}(h:s∉us):Zk (us++s :: r) s=(us.length:Int):=by
 unfold Zk;have:∀(l:List (List UInt8)) (i:Nat),s∉l→QS (fun u=>u==s) (l++s :: r) i=((i+l.length:Nat):Int):=by
  intro l
  induction l with
  |nil=>
   intro i _;rw[QY6,QS,QYS (by simp)];rfl
  |cons x l ih=>
   intro i h;simp only[QZ0,not_or]at h;rw[QY5,QS,QYR (by simpa using fun e=>h.1 e.symm),ih (i+1) h.2,QYZ];congr 1
   omega
 have:=this us 0 h
 simpa using this

def ZB (us:List (List UInt8))(f:SF):Int:=if f.union=[]then -1 else Zk us f.union

theorem Vl {S:SC}{m:SM}(hu:∀i,i<m.fields.length→JM m i=true):∀(b a:List SF),m.fields=a++b→KC (b.map (QX S (unl [] m.fields))) ((unl [] a).length:Int) (match a.getLast? with
   |none=>-1
   |some f=>ZB (unl [] m.fields) f)=some ((unl [] m.fields).length:Int)
 | [],a,h=>by
  rw[QZI]at h;rw[QZG,KC,h]
 |f :: b,a,h=>by
  have h2:m.fields=(a++[f])++b:=by rw[h];simp
  have ih:=Vl (S:=S) hu b (a++[f]) h2;rw[List.getLast?_concat]at ih
  change KC (b.map (QX S (unl [] m.fields))) ((unl [] (a++[f])).length:Int) (ZB (unl [] m.fields) f)=_ at ih
  have hal:m.fields[a.length]? = some f:=by rw[h];simp
  have hun:=hu a.length (QYM.1 hal).1;obtain⟨r,hr⟩:=U9 b (unl [] (a++[f]));have hfull:unl [] m.fields=unl [] (a++[f])++r:=by rw[h2,Yz,hr]
  have hone:unl [] (a++[f])=if f.union=[]∨(unl [] a).contains f.union=true then unl [] a else unl [] a++[f.union]:=by rw[Yz];rfl
  rw[QZh,KC];show(if ZB (unl [] m.fields) f=((unl [] a).length:Int)then KC (b.map _) (((unl [] a).length:Int)+1) ((unl [] a).length:Int)
   else if ZB (unl [] m.fields) f = -1∨ZB (unl [] m.fields) f=_ then KC (b.map _) ((unl [] a).length:Int) (ZB (unl [] m.fields) f)else none)=_
  by_cases h0:f.union=[]
  ·have hf:ZB (unl [] m.fields) f = -1:=by unfold ZB;rw[QYS h0]
   rw[QYS (.inl h0)]at hone;rw[hone]at ih;rw[hf]at ih ⊢;rw[QYR (by omega),QYS (.inl rfl)];exact ih
  ·by_cases hc:(unl [] a).contains f.union=true
   ·rw[QYS (.inr hc)]at hone;have hmem:f.union∈unl [] a:=by simpa using hc
    obtain⟨i1,i2,i3⟩:=Ha (r:=r) hmem;have hf:ZB (unl [] m.fields) f=Zk (unl [] a) f.union:=by
     unfold ZB;rw[QYR h0,hfull,hone];exact i1
    rw[hone]at ih
    -- the field before has the same union
    have hprev:(match a.getLast? with
      |none=>-1
      |some g=>ZB (unl [] m.fields) g)=ZB (unl [] m.fields) f:=by
     have hex:=((Yy a [] f.union).1 hmem).resolve_left (by simp);obtain⟨_,g,hg,hgu⟩:=hex;unfold JM at hun;rw[hal]at hun;simp only[QZE,QY8,QY7,QZD]at hun;have hun:=(hun.resolve_left h0).2;have htk:m.fields.take a.length=a:=by rw[h];simp
     have hany:((m.fields.take a.length).any fun x=>x.union==f.union)=true:=by
      rw[htk];exact Q0A.2 ⟨g,hg,by simp[hgu]⟩
     rw[hany]at hun;have hun:=hun.resolve_left (by decide);cases hla:a.getLast? with
     |none=>
      rw[List.getLast?_eq_none_iff]at hla;rw[hla]at hg;cases hg
     |some y=>
      dsimp only;obtain⟨a',rfl⟩:=List.getLast?_eq_some_iff.1 hla;rw[QZn,Q0d]at hun;dsimp only at hun;have hy:m.fields[a'.length]? = some y:=by rw[h];simp
      rw[hy]at hun;have hyu:y.union=f.union:=by simpa using hun
      unfold ZB;rw[hyu]
    rw[hprev,QYR (by rw[hf];omega),QYS (.inr rfl)];exact ih
   ·rw[QYR (not_or.2 ⟨h0,hc⟩)]at hone;have hnm:f.union∉unl [] a:=by simpa using hc
    have hf:ZB (unl [] m.fields) f=((unl [] a).length:Int):=by
     unfold ZB;rw[QYR h0,hfull,hone,QY4];exact QfL hnm
    rw[hone,QZn,Q0d,hf]at ih;rw[QYS hf];exact ih

theorem QfM {S:SC}(hS:Sok S):args (Qp S)=true:=by
 unfold args;simp only[QY7,QYX];refine⟨fun g hg=>?_,fun e he=>?_⟩
 ·obtain⟨m,hm,rfl⟩:=QZ1.1 hg;have hk:=ZN (hS.ms m hm);unfold Pw;simp only[QY7,QYX];refine⟨?_,fun o ho=>?_⟩
  ·unfold QCR;have:=Vl (S:=S) (m:=m) (fun i hi=>(Jq hk (QYN hi)).uni) m.fields [] rfl;show(match KC (m.fields.map (QX S (unl [] m.fields))) 0 (-1)with
    |some n=>(QO S m).unions==n
    |none=>false)=true
   have e:KC (m.fields.map (QX S (unl [] m.fields))) 0 (-1)=some ((unl [] m.fields).length:Int):=this;rw[e];show(((unl [] m.fields).length:Int)==((unl [] m.fields).length:Int))=true;simp
  ·obtain⟨f,hf,rfl⟩:=QZ1.1 ho;obtain⟨i,hi⟩:=QYW.1 hf;have fo:=Jq hk hi;have hc:=fo.card;unfold Yu at hc;simp only[QY7,QZ2]at hc;obtain⟨⟨c1,c2⟩,c3⟩:=hc;refine⟨?_,?_⟩
   ·unfold Pv;simp only[QY7,QZ2];have hal:Z9 (QX S (unl [] m.fields) f).alias=true∧(QX S (unl [] m.fields) f).alias.length≤4096:=by
     show Z9 (((Xx f.notes).map V.text).getD [])=true∧(((Xx f.notes).map V.text).getD []).length≤4096;cases hv:Xx f.notes with
     |none=>exact⟨by decide,QYT _⟩
     |some v=>exact F0 (Yd fo.notes hv)
    refine⟨⟨⟨⟨⟨hal.1,by have:=hal.2;omega⟩,c1⟩,c2⟩,c3⟩,?_⟩;unfold aim;show(if f.kind=10 then decide (Zp S f≥0)&&decide (Zp S f<((S.msgs.map (QO S)).length:Int))&&f.card != 3
     else if f.kind=9 then decide (Zp S f≥0)&&decide (Zp S f<((S.enums.map Jm).length:Int))else isk f.kind&&Zp S f == -1)=true
    rw[QZ5,QZ5];by_cases FR:f.kind=10
    ·obtain⟨j,n,h1,_,h3,_,h5⟩:=U8 hS hm hf FR;have:=(QYM.1 h1).1;rw[QYS FR,h3,Q0D (by omega:(j:Int)≥0),Q0D (by omega:(j:Int)<(S.msgs.length:Int))]
     simpa using h5
    rw[QYR FR];by_cases k9:f.kind=9
    ·obtain⟨j,n,h1,_,h3⟩:=Vk hS hm hf k9;have:=(QYM.1 h1).1;rw[QYS k9,h3,Q0D (by omega:(j:Int)≥0),Q0D (by omega:(j:Int)<(S.enums.length:Int))];rfl
    ·have ht:=fo.typ;unfold JL at ht;rw[QYR k9];by_cases k8:1≤f.kind∧f.kind≤8
     ·unfold Zp isk;rw[QYR FR,QYR k9,Q0D (by omega:f.kind≥1),Q0D (by omega:f.kind≤9)];rfl
     ·rw[QYR k8,QYR k9,QYR FR]at ht;cases ht
   ·unfold uok;show((if f.union=[]then(-1:Int)else Zk (unl [] m.fields) f.union) == -1||f.card==2)=true;by_cases h0:f.union=[]
    ·rw[QYS h0];rfl
    ·have hu:=fo.uni;unfold JM at hu;rw[hi]at hu;simp only[QZE,QY8,QY7]at hu;have:=(hu.resolve_left h0).1.1.1;rw[this,QZE];exact .inr rfl
 ·obtain⟨x,hx,rfl⟩:=QZ1.1 he;have hk:=WV (hS.es x hx);unfold QCS;simp only[QY7,QYX];refine⟨rfl,fun y hy=>?_⟩;obtain⟨z,hz,rfl⟩:=QZ1.1 hy;obtain⟨i,hi⟩:=QYW.1 hz;have h1:=(WW hk hi).notes;unfold nte JO;dsimp only;cases hv:Xx z.notes with
  |none=>rfl
  |some v=>
   have h2:=Yd h1 hv;dsimp only;rw[V.eta];show(alias==alias&&X8 7 v.kd (Int.toNat (v.bits:Int)) v.text _ _ _ _)=true;rw[QZ8];unfold V.fitk at h2
   simpa using h2

theorem QL8 {S:SC}(h:JN S=true):ck (Qp S)=0:=by
 have hS:=Vj h;unfold ck;rw[QC6 hS,QC7 hS,QC8 hS,QC9 hS,QDa hS,QfM hS,QC5 hS];rfl

end Go.Proofs.YtafhmlkilcmniaaGreatDoor.Va

namespace Go.Proofs.YtafhmlkilcmniaaGreatDoor.Va
open Go Am Rc Bt Br

section
variable {M:Nat}(hM:M≤140737488351232)(P:PL)(hP:P.ok M)(fr:Nat→Ob)(m1:fr 1=.cells (Pc P))(f:Fr)(b:Bool)(h1:f 1=.ptr 0 1 0)(h3:f 3=.bool b)(Q:Exit→St→Prop)
include hM hP m1 h1 h3

end

section
variable {M:Nat}(P:PL)(hP:P.ok M)(fr:Nat→Ob)(m1:fr 1=.cells (Pc P))(f:Fr)(b:Bool)(h1:f 1=.ptr 0 1 0)(h3:f 3=.bool b)(Q:Exit→St→Prop)
include hP m1 h1 h3

end

section
variable (x:PE)(hl1:x.items.length≤maxLen)(hl:x.free.length≤maxLen)(P:PL)(f:Fr)(b:Bool)(j:Nat)(fr:Nat→Ob)(h1:f 1=.ptr 0 1 0)(h3:f 3=.bool b)(h7:f 7=.int .i64 (j:Nat))(h8:f 8=.ptr 0 8 0)(m1:fr 1=.cells (Pc P))(m8:fr 8=.cells x.cells)(Q:Exit→St→Prop)
include hl1 hl h1 h3 h7 h8 m8

end

section
variable {M:Nat}(P:PL)(hP:P.ok M)(fr:Nat→Ob)(m1:fr 1=.cells (Pc P))(f:Fr)(b:Bool)(h1:f 1=.ptr 0 1 0)(h3:f 3=.bool b)(Q:Exit→St→Prop)
include hP m1 h1 h3

end

section
variable (k kd:Int)(b:Nat)(t:List UInt8)(l p s r:List AV)(ht:t.length+8≤maxLen)

include ht in
theorem QDb:Qi Tryz.prog 144 [.int .i64 k,vo kd b t l p s r] (.bool (X8 k kd b t l p s r)):=by
 have hl:=QRU kd b t l p s r;simp only[vo]at hl;have n1:(kd != k)=!(kd==k):=rfl;have n2:(t != [])=!(t==[]):=rfl;refine QQK.fn (by simp) ?_;simp only[vo,X8,eE,seval];refine aC (QCq k) ?_;cases hk:isk k
 ·simp only[QZN,Q0c,Qa,seval]
 simp only[n1,Q0q,Q0p,eE,seval];cases a1:(kd==k)
 ·simp only[QZN,Q0c,Qa,seval]
 have e:kd=k:=by simpa using a1
 subst e;simp only[Q0q,Q0p,eE,seval];refine aC hl ?_;cases Wb l p s r
 ·simp only[QZN,Q0c,Qa,seval]
 simp only[Q0q,Q0p,Qa,seval];refine aC (D3 kd) ?_;cases tx:JA kd
 ·simp only[QY3,Qs,eE,seval];cases a2:(t==[])
  ·simp only[QZN,Q0c,Qa,seval]
  have e:t=[]:=by simpa using a2
  subst e;have k7:(kd != 7)=true:=by
   simp only[JA,QZA,Q0F]at tx;simp[tx.1]
  have d0:decide (((0:Nat):Int)≤4096)=true:=rfl;simp only[k7,QZR,Q0q,Q0p,QZT,Q0r,Qa,seval];unfold HX;by_cases h1:kd=1
  ·subst h1;have b1:((1:Int)==1)=true:=rfl;simp only[b1,eE,seval]
  ·have b1:(kd==1)=false:=by simp[h1]
   by_cases h2:kd=2
   ·subst h2;have b2:((2:Int)==2)=true:=rfl;simp only[b1,b2,h1,eE,seval];cases hd:decide (IntKind.i64.wrap (b:Int)≥-2147483648)<;>simp only[Q0p,Q0c,Qa,seval]
   ·have b2:(kd==2)=false:=by simp[h2]
    by_cases h4:kd=4
    ·subst h4;have b4:((4:Int)==4)=true:=rfl;simp only[b1,b2,b4,h1,h2,eE,seval]
    ·have b4:(kd==4)=false:=by simp[h4]
     by_cases h9:kd=9
     ·subst h9;have b9:((9:Int)==9)=true:=rfl;simp only[b1,b2,b9,b4,h1,h2,h4,eE,seval]
     ·have b9:(kd==9)=false:=by simp[h9]
      simp only[b1,b2,b9,b4,h1,h2,h4,h9,Qa,seval]
 ·simp only[eE,seval];cases a2:((b:Int)==0)
  ·simp only[Q0c,Qa,seval]
  have hfn:HX kd b=true:=by
   simp only[JA,QZE,QY8]at tx;rcases tx with rfl|rfl<;>rfl
  cases a3:decide ((t.length:Int)≤4096)
  ·simp only[a3,hfn,Q0c,Q0G,eE,seval]
  simp only[JA,QZE,QY8]at tx;rcases tx with rfl|rfl
  ·have c8:((7:Int)==8)=false:=rfl;have c7:((7:Int) != 7)=false:=rfl;simp only[a3,c8,c7,hfn,Q0p,Q0s,eE,seval];refine aC (c94 t ht) ?_;simp only[Qa,seval]
  ·have c8:((8:Int)==8)=true:=rfl;have c7:((8:Int) != 7)=true:=rfl;simp only[a3,c8,c7,hfn,Q0r,eE,seval]

end

section
variable {M:Nat}(P:PL)(hP:P.ok M)(k tg kd:Int)(b:Nat)(t:List UInt8)(l p s r:List AV)(ht:t.length+8≤maxLen)(hs:s.length≤140737488351232)(hr:r.length≤140737488351232)

end
open Up So

def Vm (l:List Int):Int:=l.foldl (fun a t=>a+(2:Int) ^ t.toNat) 0
def H4 (x:List UInt8×Int×List Int):AV:=.agg [.int .i64 x.2.1,.int .i64 (Vm x.2.2)]
def C7:List AV→List (List UInt8×Int×List Int)→Bool
 | [],[]=>true
 |.agg [.int .i64 a,.int .i64 b] :: l,x :: r=>a==x.2.1&&b==Vm x.2.2&&C7 l r
 |_,_=>false
theorem QDc:∀ {l:List AV} {r:List (List UInt8×Int×List Int)},C7 l r=true→l=r.map H4:=by
 intro l
 induction l with
 |nil=>
  intro r h;cases r with
  |nil=>rfl
  |cons x r=>simp[C7]at h
 |cons y l ih=>
  intro r h;cases r with
  |nil=>unfold C7 at h;split at h<;>simp_all
  |cons x r=>
   unfold C7 at h;split at h
   ·simp_all
   ·rename_i hl hr;cases hl;cases hr;simp only[QY7,QY8]at h;rw[QZh,←ih h.2,H4,←h.1.1,←h.1.2]
   ·cases h
theorem UN (s:List UInt8):∀L:List (List UInt8×Int×List Int),Jy s (L.map Prod.fst) (L.map H4)=(L.find? fun x=>x.1==s).map H4
 | []=>rfl
 |x :: L=>by
  rw[QZh,QZh,Jy,UN s L,Q0t];rw[show(s==x.1)=(x.1==s)from BEq.comm];cases x.1==s<;>rfl

def UP:B0:=fun k=>match k with
 |265=>some (Ey,EA,16)
 |199=>some (QAO,QAP,21)
 |200=>some (QA1,QA2,48)
 |_=>none
theorem Wz:GM Tryz.prog UP:=by
 intro k c rs N h;unfold UP at h;split at h
 ·cases h;exact Qpi
 ·cases h;exact QAQ
 ·cases h;exact QQY
 ·cases h
def pKn:Option (AV×Qk)→Bool
 |some (.mp ks vs,_)=>ks==nK.map Prod.fst&&C7 vs nK
 |_=>false
theorem QDd:pKn (K7 Ev.X3 UP (Z6 Ev.X3 UP 300) 265 [] [])=true:=by decide +kernel
theorem QDe:Qi Tryz.prog 265 [] (.mp (nK.map Prod.fst) (nK.map H4)):=by
 have h:=QDd;unfold pKn at h;split at h
 ·rename_i ks vs m' h1;rw[QY7,QY8]at h;rw[←h.1,←QDc h.2];exact(Km Ev.WO Wz (GQ Ev.WO Wz 300) _ _ _ _ _ h1).mono fun _ _ e=>e.1
 ·cases h
def pKi (n:Int):Option (AV×Qk)→Bool
 |some (.int .i64 k,_)=>k==n
 |_=>false
def pKb (b:Bool):Option (AV×Qk)→Bool
 |some (.bool k,_)=>k==b
 |_=>false
def YA:List Int:=[1,2,3,4,5,6]
theorem E5:nK.all (fun x=>pKi x.2.1 (K7 Ev.X3 UP (Z6 Ev.X3 UP 300) 199 [.str x.1] []))=true:=by decide +kernel
theorem E6:nK.all (fun x=>YA.all fun t=>pKb (x.2.2.contains t) (K7 Ev.X3 UP (Z6 Ev.X3 UP 300) 200 [.str x.1,.int .i64 t] []))=true:=by decide +kernel
theorem E7:nK.all (fun x=>YA.all fun t=>(bits .and .i64 ((Vm x.2.2).fdiv (2 ^ (min t.toNat IntKind.i64.bits))) 1==0) == !(x.2.2.contains t))=true:=by decide +kernel
theorem QDf:nK.all (fun x=>decide (x.2.1≠0))=true:=by decide

theorem Y7 {s:List UInt8}{x:List UInt8×Int×List Int}(h:nK.find? (fun x=>x.1==s)=some x):x∈nK∧x.1=s∧XW s=x.2.1∧x.2.1≠0∧∀t,TW s t=x.2.2.contains t:=by
 have h1:=Q0B h;have h2:x.1=s:=by simpa using Q0C h
 have e:CX s=some x.2:=by unfold CX;rw[h];rfl
 refine⟨h1,h2,?_,?_,fun t=>?_⟩
 ·unfold XW;rw[e];rfl
 ·simpa using QYX.1 QDf x h1
 ·unfold TW;rw[e];rfl
theorem Y8 {s:List UInt8}(h:nK.find? (fun x=>x.1==s)=none):XW s=0:=by
 have e:CX s=none:=by unfold CX;rw[h];rfl
 unfold XW;rw[e];rfl

theorem QR1 (s:List UInt8):Qi Tryz.prog 273 [.str s] (.int .i64 (XW s)):=by
 have hm:=UN s nK;refine Qpf.fn (by simp) ?_;simp only[Qa,seval];refine aC QDe ?_;cases hf:nK.find? (fun x=>x.1==s)with
 |none=>
  rw[hf]at hm;simp only[ZH,hm,Option.map_none,Y8 hf,Qa,seval]
 |some x=>
  rw[hf]at hm;obtain⟨_,_,hk,_⟩:=Y7 hf;have hg:AV.gr (.agg [.int .i64 x.2.1,.int .i64 (Vm x.2.2)])=true:=rfl;simp only[ZH,hm,QZa,H4,hg,hk,Qa,seval]

section
variable {M:Nat}(n:SN)(hn:n.ok M)(hM:M+8≤maxLen)

theorem HH (n:SN):n.cells=[.str n.name,.int .i64 n.val.kd,.int .u64 (n.val.bits:Nat),.str n.val.text,.list (n.val.list.map V.av),.list (n.val.pairs.map V.pav),.list (n.val.slots.map V.sav),.list (n.val.raws.map R.av)]:=by
 rw[SN.cells,V.eta]

include hn in
theorem QR2:Qi Tryz.prog 266 [.agg n.cells] (.bool (FU n)):=by
 have hv:=hn.val;have n1:=hv.nl;have n2:=hv.np;have n3:=hv.ns;have n4:=hv.nr;have hf:=Px (XW n.name) n.val.kd n.val.bits n.val.text (n.val.list.map V.av) (n.val.pairs.map V.pav) (n.val.slots.map V.sav) (n.val.raws.map R.av) (by simp;omega) (by simp;omega) (by simp;omega) (by simp;omega);have he:FU n=(XW n.name != 0&&X8 (XW n.name) n.val.kd n.val.bits n.val.text (n.val.list.map V.av) (n.val.pairs.map V.pav) (n.val.slots.map V.sav) (n.val.raws.map R.av)):=rfl;simp only[vo]at hf;rw[HH,he];refine Qpa.fn (by simp) ?_;simp only[eE,seval];refine aC (QR1 n.name) ?_;cases h0:(XW n.name != 0)
 ·simp only[h0,Q0c,Qa,seval]
 ·simp only[h0,Q0p,eE,seval];refine aC hf ?_;simp only[Qa,seval]

include hn in
theorem QR3 (t:Int)(ht:t∈YA)(last:List UInt8)(ok:Bool):Qi Tryz.prog 251 [.agg n.cells,.int .i64 t,.str last,.bool ok] (.int .i64 (KD t (if ok=true then some last else none) n)):=by
 have hr:=QR2 n hn;have hm:=UN n.name nK;have t1:decide (t<1)=false:=by simp[YA]at ht;exact Q0u (by omega)
 have t2:decide (t > 6)=false:=by simp[YA]at ht;exact Q0u (by omega)
 have t3:(0≤t)=True:=by simp[YA]at ht;simp;omega
 have hrt:FU n=(XW n.name != 0&&n.val.fitk (XW n.name)):=rfl;rw[HH]at hr ⊢;unfold KD;refine Qo4.fn (by simp) ?_;simp only[eE,seval];refine aC QDe ?_;cases hf:nK.find? (fun x=>x.1==n.name)with
 |none=>
  rw[hf]at hm;rw[QYS (Y8 hf)];simp only[hm,Option.map_none,eE,seval]
 |some x=>
  rw[hf]at hm;obtain⟨hx,_,hk,h0,htg⟩:=Y7 hf;have hg:AV.gr (.agg [.int .i64 x.2.1,.int .i64 (Vm x.2.2)])=true:=rfl;have hb:(bits .and .i64 ((Vm x.2.2).fdiv (2 ^ (min t.toNat IntKind.i64.bits))) 1==0)=!(x.2.2.contains t):=by simpa using QYX.1 (QYX.1 E7 x hx) t ht
  have hb2:(bits .and .i64 ((Vm x.2.2).fdiv (2 ^ (min t.toNat 64))) 1==0)=!(x.2.2.contains t):=hb;rw[QYR (by rw[hk];exact h0),htg t];have hrt':FU n=n.val.fitk (XW n.name):=by rw[hrt,hk];simp[h0]
  simp only[hm,QZa,H4,hg,t1,t2,t3,hb2,eE,seval];cases hc:x.2.2.contains t
  ·simp only[QZN,Qa,seval]
  ·simp only[Q0q,Bool.true_eq_false,eE,seval];refine aC hr ?_;rw[hrt'];cases hq:n.val.fitk (XW n.name)
   ·simp only[QZN,Qa,seval]
   ·simp only[Q0q,Bool.true_eq_false,Qa,seval];cases ok
    ·simp only[QY3,Qa,seval]
    ·simp only[eE,seval];cases hl:Op.bytesLess n.name last
     ·simp only[Qs,hl,QY3,eE,seval];by_cases he:n.name=last
      ·have b0:(n.name==last)=true:=by simp[he]
       simp only[b0,QYS he,Qa,seval]
      ·have b0:(n.name==last)=false:=by simp[he]
       simp only[b0,QYR he,Qa,seval]
     ·simp only[Qs,hl,Qa,seval]
end

def ZX (l:List SN):Nat→Option (List UInt8)
 |0=>none
 |i+1=>(l[i]?).map SN.name
theorem KE {l:List SN}{i:Nat}{x:SN}(h:l[i]? = some x):ZX l (i+1)=some x.name:=by
 rw[ZX,h];rfl
theorem Vn {t:Int}{l:List SN}{i:Nat}{x:SN}(h:l[i]? = some x)(la:Option (List UInt8)):Uo t la (l.drop i)=if KD t la x=0 then Uo t (some x.name) (l.drop (i+1))else KD t la x:=by
 have hlt:i<l.length:=(QYM.1 h).1;rw[QZt hlt,show l[i]=x from(QYM.1 h).2];rfl

def KcI (l:List SN)(t:Int)(k:Nat)(st:St):Prop :=
 ∃f fr i la,st=⟨f,[fr],[]⟩∧k=l.length-i∧i≤l.length∧Uo t none l=Uo t (ZX l i) (l.drop i)∧f 5=.str la∧(i=0∨ZX l i=some la)∧f 1=.int .i64 t∧f 12=.list (l.map fun n=>.agg n.cells)∧f 13=.int .i64 (l.length:Nat)∧f 14=.int .i64 (i:Nat)∧∀s∈[7],(fr s).isRow=false

theorem QDg {M:Nat}(l:List SN)(hl:l.length≤maxLen)(hn:∀n∈l,n.ok M)(t:Int)(ht:t∈YA):Qi Tryz.prog 215 [.list (l.map fun n=>.agg n.cells),.int .i64 t] (.int .i64 (Zo l t)):=by
 unfold Zo;refine QoR.fn (by simp) ?_;simp only[QZ5,Qa,seval];by_cases h8:l.length > 8
 ·have d:decide ((l.length:Int) > 8)=true:=Q0D (by omega);rw[QYS h8];simp only[d,Qa,seval]
 have d:decide ((l.length:Int) > 8)=false:=Q0u (by omega);rw[QYR h8];simp only[d,Qa,seval];refine Qe (KcI l t) _ ⟨_,_,0,[],rfl,rfl,QYT _,rfl,rfl,.inl rfl,rfl,rfl,(by simp only[QZ5,Qa,seval]),rfl,by simp<;>rfl⟩ ?_;rintro _ st ⟨f0,fr0,i,la,rfl,rfl,hi,hc,h50,hla,h10,h120,h130,h140,r7⟩;refine QH (a:=_) [7] r7 ?_;intro f fr hff hm hn7;have h1:f 1=.int .i64 t:=by rw[hff,h10]<;>rfl
 have h5:f 5=.str la:=by rw[hff,h50]<;>rfl
 have h12:f 12=.list (l.map fun n=>.agg n.cells):=by rw[hff,h120]<;>rfl
 have h13:f 13=.int .i64 (l.length:Nat):=by rw[hff,h130]<;>rfl
 have h14:f 14=.int .i64 (i:Nat):=by rw[hff,h140]<;>rfl
 have n7:=hn7 7 (by decide);clear hff hm hn7 h10 h50 h120 h130 h140 r7;simp only[h13,h14,Qa,seval];by_cases hlt:i<l.length
 ·obtain⟨x,hi'⟩:∃x,l[i]? = some x:=⟨l[i],QYN hlt⟩;have hg:(l.map fun n=>AV.agg n.cells)[i]? = some (.agg x.cells):=by simp[hi']
  have e1:=Ql i _ hlt hl;have ho:=QR3 x (hn x (QYY hi')) t ht la (decide ((i:Int) > 0));have hx:(if decide ((i:Int) > 0)=true then some la else none)=ZX l i:=by
   rcases QZx i with h0|h0
   ·subst h0;rfl
   ·rw[QYS (Q0D (by omega))];rcases hla with h|h
    ·omega
    ·exact h.symm
  rw[hx]at ho;rw[Vn hi']at hc;rw[HH]at hg ho;simp only[Qw hlt,Qj,QZ8,Qd,hg,n7,h1,h5,h12,h14,eE,seval];refine aC ho ?_;by_cases hz:KD t (ZX l i) x=0
  ·have d0:(KD t (ZX l i) x != 0)=false:=by simp[hz]
   rw[QYS hz]at hc;simp only[d0,h14,e1,eE,seval];exact⟨l.length-(i+1),by omega,_,_,i+1,x.name,rfl,rfl,by omega,by rw[hc,KE hi'],rfl,.inr (KE hi'),h1,h12,h13,rfl,by simp<;>rfl⟩
  ·have d0:(KD t (ZX l i) x != 0)=true:=by simp[hz]
   rw[QYR hz]at hc;simp only[d0,hc,Qa,seval]
 ·rw[QZm (by omega)]at hc;have hc':Uo t none l=0:=hc;simp only[Qy hlt,hc',Qa,seval]

theorem QDh (s:List UInt8):Qi Tryz.prog 199 [.str s] (.int .i64 (XW s)):=by
 cases hf:nK.find? (fun x=>x.1==s)with
 |some x=>
  obtain⟨hx,hs,hk,_,_⟩:=Y7 hf;have h:=QYX.1 E5 x hx;rw[hs]at h;rw[hk];unfold pKi at h;split at h
  ·rename_i k m' h1;rw[QY8]at h;subst h;exact(Km Ev.WO Wz (GQ Ev.WO Wz 300) _ _ _ _ _ h1).mono fun _ _ e=>e.1
  ·cases h
 |none=>
  have hno:=Q0z.1 hf;have hb:∀x∈nK,(s==x.1)=false:=fun x hx=>by
   have:=hno x hx;rw[BEq.comm]
   simpa using this
  simp only[nK,List.forall_mem_cons,Q0Q,false_implies,implies_true,and_true]at hb;obtain⟨b1,b2,b3,b4,b5,b6,b7,b8,b9,b10,b11,b12,b13⟩:=hb;rw[Y8 hf];refine QAQ.fn (by simp) ?_;simp only[Qs,b1,b2,b3,b4,b5,b6,b7,b8,b9,b10,b11,b12,b13,Qa,seval]
theorem QR4 (s:List UInt8)(hs:XW s≠0)(t:Int)(ht:t∈YA):Qi Tryz.prog 200 [.str s,.int .i64 t] (.bool (TW s t)):=by
 cases hf:nK.find? (fun x=>x.1==s)with
 |some x=>
  obtain⟨hx,hs,_,_,hk⟩:=Y7 hf;have h:=QYX.1 (QYX.1 E6 x hx) t ht;rw[hs]at h;rw[hk t];unfold pKb at h;split at h
  ·rename_i k m' h1;rw[QY8]at h;subst h;exact(Km Ev.WO Wz (GQ Ev.WO Wz 300) _ _ _ _ _ h1).mono fun _ _ e=>e.1
  ·cases h
 |none=>exact absurd (Y8 hf) hs

theorem QfN {n:V}{k:Int}(h:n.fitk k=true):n.kd=k:=by
 unfold V.fitk X8 at h;simp only[QY7,QY8]at h;exact h.1.1.1.1.1.2
section
variable {M:Nat}(n:SN)(hn:n.ok M)(hM:M+8≤maxLen)
include hn hM in
theorem QR5:Qi Tryz.prog 201 [.agg n.cells] (.bool (FU n)):=by
 have hf:=QDb (XW n.name) n.val.kd n.val.bits n.val.text (n.val.list.map V.av) (n.val.pairs.map V.pav) (n.val.slots.map V.sav) (n.val.raws.map R.av) (by have:=hn.val.text;omega);have he:FU n=(XW n.name != 0&&X8 (XW n.name) n.val.kd n.val.bits n.val.text (n.val.list.map V.av) (n.val.pairs.map V.pav) (n.val.slots.map V.sav) (n.val.raws.map R.av)):=rfl;have hk:n.val.fitk (XW n.name)=X8 (XW n.name) n.val.kd n.val.bits n.val.text (n.val.list.map V.av) (n.val.pairs.map V.pav) (n.val.slots.map V.sav) (n.val.raws.map R.av):=rfl;simp only[vo]at hf;rw[HH,he,←hk];rw[←hk]at hf;refine QQH.fn (by simp) ?_;simp only[eE,seval];refine aC (QDh n.name) ?_;cases h0:(XW n.name != 0)
 ·simp only[h0,Q0c,Qa,seval]
 simp only[h0,Q0p,eE,seval];cases a1:(n.val.kd==XW n.name)
 ·have e:n.val.fitk (XW n.name)=false:=by
   rw[Q0x];intro h;rw[QfN h]at a1;simp at a1
  simp only[e,Qa,seval]
 ·simp only[eE,seval];refine aC hf ?_;simp only[Qa,seval]
end

def ScI (l:List SN)(t:Int)(k:Nat)(st:St):Prop :=
 ∃f i,st=⟨f,[Qc],[]⟩∧k=l.length-i∧i≤l.length∧Uo t none l=Uo t (ZX l i) (l.drop i)∧f 0=.list (l.map fun n=>.agg n.cells)∧f 1=.int .i64 t∧f 5=.int .i64 (i:Nat)

theorem QR6 {M:Nat}(hM:M+8≤maxLen)(l:List SN)(hl:l.length≤maxLen)(hn:∀n∈l,n.ok M)(t:Int)(ht:t∈YA):Qi Tryz.prog 146 [.list (l.map fun n=>.agg n.cells),.int .i64 t] (.int .i64 (Zo l t)):=by
 unfold Zo;refine QQE.fn (by simp) ?_;simp only[QZ5,Qa,seval];by_cases h8:l.length > 8
 ·have d:decide ((l.length:Int) > 8)=true:=Q0D (by omega);rw[QYS h8];simp only[d,Qa,seval]
 have d:decide ((l.length:Int) > 8)=false:=Q0u (by omega);rw[QYR h8];simp only[d,Qa,seval];refine Qe (ScI l t) _ ⟨_,0,rfl,rfl,QYT _,rfl,rfl,rfl,rfl⟩ ?_;rintro _ st ⟨f,i,rfl,rfl,hi,hc,h0,h1,h5⟩;simp only[QZ5,h0,h5,Qa,seval];by_cases hlt:i<l.length
 case neg=>
  rw[QZm (by omega)]at hc;have hc':Uo t none l=0:=hc;simp only[Qy hlt,hc',Qa,seval]
 obtain⟨x,hi'⟩:∃x,l[i]? = some x:=⟨l[i],QYN hlt⟩;have hx:=hn x (QYY hi');have hg:(l.map fun n=>AV.agg n.cells)[i]? = some (.agg x.cells):=by simp[hi']
 have e1:=Ql i _ hlt hl;have hr:=QR5 x hx hM;have hrt:FU x=(XW x.name != 0&&x.val.fitk (XW x.name)):=rfl;rw[Vn hi']at hc;rw[HH]at hg hr;simp only[Qw hlt,Qj,QZ8,Qd,hg,h0,h5,eE,seval];refine aC (QDh x.name) ?_;by_cases hk:XW x.name=0
 ·have b0:(XW x.name==0)=true:=by simp[hk]
  have hz:KD t (ZX l i) x=8:=by unfold KD;rw[QYS hk]
  rw[hz,QYR (by decide)]at hc;simp only[b0,hc,Qa,seval]
 have b0:(XW x.name==0)=false:=by simp[hk]
 simp only[b0,Qj,QZ8,Qd,hg,h0,h1,h5,eE,seval];refine aC (QR4 x.name hk t ht) ?_;cases a1:TW x.name t
 ·have hz:KD t (ZX l i) x=1:=by unfold KD;rw[QYR hk,QYS a1]
  rw[hz,QYR (by decide)]at hc;simp only[QZN,hc,Qa,seval]
 simp only[Q0q,Qj,QZ8,Qd,hg,h0,h5,eE,seval];refine aC hr ?_;have hrt':FU x=x.val.fitk (XW x.name):=by rw[hrt];simp[hk]
 rw[hrt'];cases a2:x.val.fitk (XW x.name)
 ·have hz:KD t (ZX l i) x=12:=by unfold KD;rw[QYR hk,QYR (by rw[a1];decide),QYS a2]
  rw[hz,QYR (by decide)]at hc;simp only[QZN,hc,Qa,seval]
 have hz:KD t (ZX l i) x=match ZX l i with
   |none=>0
   |some s=>if Op.bytesLess x.name s=true then 11 else if x.name=s then 9 else 0:=by
  unfold KD;rw[QYR hk,QYR (by rw[a1];decide),QYR (by rw[a2];decide)]<;>cases ZX l i<;>rfl
 cases i with
 |zero=>
  have c1:decide (((0:Nat):Int) > 0)=false:=rfl;have hz':KD t (ZX l 0) x=0:=hz;rw[QYS hz']at hc;simp only[Q0q,h5,Qa,seval];exact⟨l.length-(0+1),by omega,_,0+1,rfl,rfl,by omega,by rw[hc,KE hi'],h0,h1,rfl⟩
 |succ j=>
  obtain⟨p,hj⟩:∃p,l[j]? = some p:=⟨l[j],QYN (by omega)⟩;have hgj:(l.map fun n=>AV.agg n.cells)[j]? = some (.agg p.cells):=by simp[hj]
  have e2:=KS j _ hlt hl;have c1:decide (((j+1:Nat):Int) > 0)=true:=Q0D (by omega);rw[KE hj]at hz hc;dsimp only at hz;rw[HH]at hgj;simp only[Q0q,c1,e2,Qj,QZ8,Qd,hg,hgj,Qs,h0,h5,eE,seval];cases a3:Op.bytesLess x.name p.name
  ·rw[a3,QYR (by decide)]at hz;by_cases a4:x.name=p.name
   ·have b4:(x.name==p.name)=true:=by simp[a4]
    rw[QYS a4]at hz;rw[hz,QYR (by decide)]at hc;simp only[b4,c1,e2,Qj,QZ8,Qd,hg,hgj,Qs,hc,h0,h5,eE,seval]
   ·have b4:(x.name==p.name)=false:=by simp[a4]
    rw[QYR a4]at hz;rw[QYS hz]at hc;simp only[b4,c1,e2,Qj,QZ8,Qd,hg,hgj,Qs,h0,h5,e1,eE,seval];exact⟨l.length-(j+1+1),by omega,_,j+1+1,rfl,rfl,by omega,by rw[hc,KE hi'],h0,h1,rfl⟩
  ·rw[a3,QYS rfl]at hz;rw[hz,QYR (by decide)]at hc;simp only[hc,Qa,seval]

structure PB where
 dfn:List UInt8
 num:Int
 err:Int
def PB.av (x:PB):AV:=.agg [.str x.dfn,.int .i64 x.num,.int .i64 x.err]
def pb (d:List UInt8)(n:Int)(ok:Bool)(e:Int):List PB:=bif ok then []else [⟨d,n,e⟩]
theorem ZC {d:List UInt8}{n:Int}{ok:Bool}{e:Int}:pb d n ok e=[]↔ok=true:=by
 cases ok<;>simp[pb]
def XJ (d:List UInt8)(n:Int)(l:List SN)(t:Int):List PB:=pb d n (Zo l t==0) (Zo l t)
def KN {α:Type}(l:List α)(num:α→Int)(i:Nat)(x:α):Bool:=match i with
 |0=>true
 |j+1=>match l[j]? with
  |none=>true
  |some y=>decide (num x > num y)
def Kq (S:SC)(m:SM)(i:Nat)(f:SF):List PB :=
 pb m.name f.num (decide (f.num≥1)&&decide (f.num≤65535)) 6++pb m.name f.num (KN m.fields SF.num i f) 11++pb m.name f.num (Xo f.name) 8 ++
 pb m.name f.num (!((m.fields.take i).any fun x=>x.name==f.name)) 9++pb m.name f.num (!(kept m.free f.num) && !(m.gone.contains f.name)) 21 ++
 pb m.name f.num (Yu f) 1++pb m.name f.num (JL S f) 12++pb m.name f.num (JM m i) 15++pb m.name f.num (Yb S f) 1++XJ m.name f.num f.notes 2
def upto {α β:Type}(l:List α)(g:Nat→α→List β):Nat→List β
 |0=>[]
 |n+1=>upto l g n++(match l[n]? with
  |none=>[]
  |some x=>g n x)
def KF (d:List UInt8)(lo hi:Int)(l:List PS)(i:Nat)(x:PS):List PB :=
 pb d (-1) (decide (x.lo≥lo)&&decide (x.hi≤hi)&&decide (x.lo≤x.hi)) 6++pb d (-1) (match i with
  |0=>true
  |j+1=>match l[j]? with
   |none=>true
   |some y=>decide (x.lo > y.hi)) 11
def JQ (S:SC)(cy:SM→Bool)(m:SM):List PB :=
 pb m.name (-1) (XE m.name) 8++pb m.name (-1) (decide (m.fields.length≤64)&&decide (m.free.length≤16)&&decide (m.gone.length≤16)) 3 ++
 upto m.fields (Kq S m) m.fields.length++upto m.free (KF m.name 1 65535 m.free) m.free.length++upto m.gone (fun _ g=>pb m.name (-1) (Z9 g) 7) m.gone.length ++
 XJ m.name (-1) m.notes 1++pb m.name (-1) (!cy m) 19
def JR (e:SE)(i:Nat)(x:SI):List PB :=
 pb e.name x.num (decide (x.num≥0)&&decide (x.num≤2147483647)) 6++pb e.name x.num (KN e.items SI.num i x) 11++pb e.name x.num (Xo x.name) 8 ++
 pb e.name x.num (!((e.items.take i).any fun y=>y.name==x.name)) 9++pb e.name x.num (!(kept e.free x.num)) 21++XJ e.name x.num x.notes 4
def Z2 (e:SE):Bool:=match e.items with
 | []=>true
 |x :: _=>x.num==0
def JD (e:SE):List PB :=
 pb e.name (-1) (XE e.name) 8++pb e.name (-1) (decide (e.items.length≥1)&&decide (e.items.length≤64)&&decide (e.free.length≤16)) 3++pb e.name (-1) (Z2 e) 14 ++
 upto e.items (JR e) e.items.length++upto e.free (KF e.name 0 2147483647 e.free) e.free.length++XJ e.name (-1) e.notes 3
def Kr (S:SC)(v:SQ)(i:Nat)(x:SO):List PB :=
 pb v.name (i:Int) (Xo x.name) 8++pb v.name (i:Int) (match i with
  |0=>true
  |j+1=>match v.meths[j]? with
   |none=>true
   |some y=>Op.bytesLess y.name x.name) 11++pb v.name (i:Int) (Q6 S x.inn&&Q6 S x.out) 12++pb v.name (i:Int) (decide (x.shape≥1)&&decide (x.shape≤4)) 1++XJ v.name (i:Int) x.notes 6
def J0 (S:SC)(v:SQ):List PB :=
 pb v.name (-1) (XE v.name) 8++pb v.name (-1) (decide (v.meths.length≤64)) 3++upto v.meths (Kr S v) v.meths.length++XJ v.name (-1) v.notes 5
def JS (l:List (List UInt8)):List PB:=pb [] (-1) (decide (l.length≤64)) 3++pb [] (-1) (XN l Op.bytesLess) 11
def YB (S:SC)(cy:SM→Bool):List PB :=
 JS (S.msgs.map SM.name)++JS (S.enums.map SE.name)++JS (S.servs.map SQ.name)++pb [] (-1) (Kh S) 9 ++
 S.msgs.flatMap (JQ S cy)++S.enums.flatMap JD++S.servs.flatMap (J0 S)

theorem WX {α β:Type}{l:List α}{g:Nat→α→List β}{n:Nat}:upto l g n=[]↔∀i,i<n→∀x,l[i]? = some x→g i x=[]:=by
 induction n with
 |zero=>simp[upto]
 |succ n ih=>
  rw[upto,Q0R,ih]
  constructor
  ·rintro⟨h1,h2⟩ i hi x hx;rcases Q0w.1 hi with h|rfl
   ·exact h1 i h x hx
   ·rw[hx]at h2;exact h2
  ·intro h;refine⟨fun i hi=>h i (by omega),?_⟩;cases hx:l[n]? with
   |none=>rfl
   |some x=>exact h n (by omega) x hx
theorem C8 {S:SC}{m:SM}{i:Nat}{f:SF}(hf:m.fields[i]? = some f):Kq S m i f=[]↔UH S m i=true:=by
 cases i with
 |zero=>
  unfold UH;rw[hf];unfold Kq XJ KN;simp only[Q0R,ZC,QY7,and_assoc]
 |succ j=>
  unfold UH;rw[hf];unfold Kq XJ KN;simp only[Q0R,ZC,QY7,and_assoc];cases m.fields[j]?<;>exact Iff.rfl
theorem C9 {d:List UInt8}{lo hi:Int}{l:List PS}:upto l (KF d lo hi l) l.length=[]↔D9 lo hi l=true:=by
 rw[WX];unfold D9;rw[QY7,QYX];unfold XN;rw[Q1]
 constructor
 ·intro h;refine⟨fun x hx=>?_,fun i hi=>?_⟩
  ·obtain⟨i,hi⟩:=QYW.1 hx;have:=h i (QYM.1 hi).1 x hi;unfold KF at this;simp only[Q0R,ZC]at this;exact this.1
  ·cases i with
   |zero=>rfl
   |succ k=>
    have h1:l[k]? = some (l[k]'(by omega)):=QYN (by omega);have h2:l[k+1]? = some l[k+1]:=QYN hi;have:=h (k+1) hi _ h2;unfold KF at this;simp only[Q0R,ZC]at this;have:=this.2;rw[h1]at this;rw[J7 h1 h2];exact this
 ·rintro⟨h1,h2⟩ i hi x hx;unfold KF;simp only[Q0R,ZC];refine⟨h1 x (QYY hx),?_⟩;cases i with
  |zero=>rfl
  |succ k=>
   have h3:l[k]? = some (l[k]'(by omega)):=QYN (by omega);have:=h2 (k+1) hi;rw[J7 h3 hx]at this;dsimp only;rw[h3];exact this
theorem Ma {S:SC}{cy:SM→Bool}{m:SM}(hc:cy m=Dc S m):JQ S cy m=[]↔H1 S m=true:=by
 have h1:upto m.fields (Kq S m) m.fields.length=[]↔Xq (UH S m) m.fields.length=true:=by
  rw[WX,Q1]
  constructor
  ·intro h i hi;have hx:m.fields[i]? = some m.fields[i]:=QYN hi;exact(C8 hx).1 (h i hi _ hx)
  ·intro h i hi x hx;exact(C8 hx).2 (h i hi)
 have h2:upto m.gone (fun _ g=>pb m.name (-1) (Z9 g) 7) m.gone.length=[]↔m.gone.all Z9=true:=by
  rw[WX,QYX]
  constructor
  ·intro h x hx;obtain⟨i,hi⟩:=QYW.1 hx;exact ZC.1 (h i (QYM.1 hi).1 x hi)
  ·intro h i hi x hx;exact ZC.2 (h x (QYY hx))
 unfold JQ H1 XJ;rw[hc];simp only[Q0R,ZC,h1,h2,C9,QY7,and_assoc]
theorem Mb {e:SE}:JD e=[]↔H2 e=true:=by
 have h1:(Z2 e=true∧upto e.items (JR e) e.items.length=[])↔Xq (UI e) e.items.length=true:=by
  rw[WX,Q1];have key:∀i x,e.items[i]? = some x→i≠0→(JR e i x=[]↔UI e i=true):=by
   intro i x hx h0;obtain⟨j,rfl⟩:∃j,i=j+1:=⟨i-1,by omega⟩;unfold UI;rw[hx];unfold JR XJ KN;simp only[Q0R,ZC,QY7,and_assoc];cases e.items[j]?<;>exact Iff.rfl
  have key0:∀x,e.items[0]? = some x→((Z2 e=true∧JR e 0 x=[])↔UI e 0=true):=by
   intro x hx;have hf:Z2 e=(x.num==0):=by
    unfold Z2;cases hi:e.items with
    |nil=>rw[hi]at hx;cases hx
    |cons y l=>rw[hi]at hx;cases hx;rfl
   unfold UI;rw[hx,hf];unfold JR XJ KN;simp only[Q0R,ZC,QY7,and_assoc,true_and]
   constructor
   ·rintro⟨a,b,c,f,g,h,i⟩;exact⟨b,c,a,f,g,h,i⟩
   ·rintro⟨b,c,a,f,g,h,i⟩;exact⟨a,b,c,f,g,h,i⟩
  constructor
  ·rintro⟨hf,h⟩ i hi;have hx:e.items[i]? = some e.items[i]:=QYN hi;by_cases h0:i=0
   ·subst h0;exact(key0 _ hx).1 ⟨hf,h 0 hi _ hx⟩
   ·exact(key i _ hx h0).1 (h i hi _ hx)
  ·intro h;refine⟨?_,fun i hi x hx=>?_⟩
   ·cases hi:e.items with
    |nil=>unfold Z2;rw[hi]
    |cons y l=>
     have hl:0<e.items.length:=by rw[hi];simp
     exact((key0 y (by rw[hi];rfl)).2 (h 0 hl)).1
   ·by_cases h0:i=0
    ·subst h0;exact((key0 x hx).2 (h 0 hi)).2
    ·exact(key i x hx h0).2 (h i hi)
 unfold JD H2 XJ;simp only[Q0R,ZC,C9,QY7,and_assoc]
 constructor
 ·rintro⟨a,b,c,d,f,g,h,i⟩;exact⟨a,b,c,d,h1.1 ⟨f,g⟩,h,i⟩
 ·rintro⟨a,b,c,d,f,h,i⟩;exact⟨a,b,c,d,(h1.2 f).1,(h1.2 f).2,h,i⟩
theorem Mc {S:SC}{v:SQ}:J0 S v=[]↔EX S v=true:=by
 have h1:upto v.meths (Kr S v) v.meths.length=[]↔Xq (Py S v) v.meths.length=true:=by
  rw[WX,Q1];have key:∀i x,v.meths[i]? = some x→(Kr S v i x=[]↔Py S v i=true):=by
   intro i x hx;unfold Py;rw[hx];unfold Kr XJ;simp only[Q0R,ZC,QY7,and_assoc]<;>exact Iff.rfl
  constructor
  ·intro h i hi;have hx:v.meths[i]? = some v.meths[i]:=QYN hi;exact(key i _ hx).1 (h i hi _ hx)
  ·intro h i hi x hx;exact(key i x hx).2 (h i hi)
 unfold J0 EX XJ;simp only[Q0R,ZC,h1,QY7,and_assoc]
theorem flatMap_nil {α β:Type}{l:List α}{g:α→List β}:l.flatMap g=[]↔∀x∈l,g x=[]:=List.flatMap_eq_nil_iff

theorem QfO {l:List (List UInt8)}:JS l=[]↔(decide (l.length≤64)=true∧XN l Op.bytesLess=true):=by
 unfold JS;simp only[Q0R,ZC]
theorem Md {S:SC}{cy:SM→Bool}(h:TX S→∀m∈S.msgs,cy m=Dc S m):YB S cy=[]↔JN S=true:=by
 have e1:XN (S.msgs.map SM.name) Op.bytesLess=XN S.msgs (WM SM.name):=KV ..;have e2:XN (S.enums.map SE.name) Op.bytesLess=XN S.enums (WM SE.name):=KV ..;have e3:XN (S.servs.map SQ.name) Op.bytesLess=XN S.servs (WM SQ.name):=KV ..;unfold YB JN EZ EY;simp only[Q0R,QfO,ZC,flatMap_nil,QY7,QYX,QZ5,e1,e2,e3]
 constructor
 ·rintro⟨⟨⟨⟨⟨⟨⟨a1,a2⟩,b1,b2⟩,c1,c2⟩,d⟩,f⟩,g⟩,i⟩;have hD:=Fi a2;exact⟨⟨⟨⟨⟨⟨⟨a1,b1⟩,c1⟩,⟨a2,b2⟩,c2⟩,d⟩,fun m hm=>(Ma (h hD m hm)).1 (f m hm)⟩,fun e he=>Mb.1 (g e he)⟩,fun v hv=>Mc.1 (i v hv)⟩
 ·rintro⟨⟨⟨⟨⟨⟨⟨a1,b1⟩,c1⟩,⟨a2,b2⟩,c2⟩,d⟩,f⟩,g⟩,i⟩;have hD:=Fi a2;exact⟨⟨⟨⟨⟨⟨⟨a1,a2⟩,b1,b2⟩,c1,c2⟩,d⟩,fun m hm=>(Ma (h hD m hm)).2 (f m hm)⟩,fun e he=>Mb.2 (g e he)⟩,fun v hv=>Mc.2 (i v hv)⟩
theorem QfP {S:SC}:YB S (Dc S)=[]↔JN S=true:=Md fun _ _ _=>rfl
theorem QfQ {S:SC}:YB S (fun m=>Xm S (QV S) m)=[]↔JN S=true:=Md fun hD m _=>(T0 hD m).symm

def QM (x:SM):AV:=.agg x.cells
def Xl (x:SE):AV:=.agg x.cells
def QL (x:SF):AV:=.agg x.cells
def ZW (x:SI):AV:=.agg x.cells
def Df (x:SN):AV:=.agg x.cells
theorem Qz (x:SF):x.cells=[.int .i64 x.num,.str x.name,.int .i64 x.card,.int .i64 x.key,.int .i64 x.kind,.str x.tname,.str x.union,.bool x.hasd,.int .i64 x.dflt.kd,.int .u64 (x.dflt.bits:Nat),.str x.dflt.text,.list (x.dflt.list.map V.av),.list (x.dflt.pairs.map V.pav),.list (x.dflt.slots.map V.sav),.list (x.dflt.raws.map R.av),.list (x.notes.map fun n=>.agg n.cells)]:=by
 rw[SF.cells,V.eta];rfl
theorem Y9 {α:Type}(p:α→Bool):∀l:List α,l.any p=(l.find? p).isSome
 | []=>rfl
 |x :: l=>by
  rw[List.any_cons,Q0t,Y9 p l];cases p x<;>rfl

section
variable (L:List SM)(hl:L.length≤maxLen)(p:SM→Bool)(c:Nat)(cs:List AV)(m:Qk)

def JsM (k:Nat)(st:St):Prop :=
 ∃f i,st=⟨f,Qc :: m,[]⟩∧k=L.length-i∧QS p L 0=QS p (L.drop i) i∧f 0=.list (L.map QM)∧f 1=.fn (.func c) [] (AV.shL cs)∧f 7=.int .i64 (L.length:Nat)∧f 8=.int .i64 (i:Nat)

include hl in
theorem QDi (hc:∀o∈L,Qf Tryz.prog c (QM o :: AV.shL cs) (Qc :: m) fun y m1=>y=.bool (p o)∧m1=Qc :: m) :
  Qf Tryz.prog 104 [.list (L.map QM),.fn (.func c) [] cs] m fun y m1=>y=.int .i64 (QS p L 0)∧m1=m:=by
 refine Qor.go (by simp) ?_;simp only[QZ5,Qa,seval];refine Qe (JsM L p c cs m) _ ⟨_,0,rfl,rfl,rfl,rfl,rfl,rfl,rfl⟩ ?_;rintro _ st ⟨f,i,rfl,rfl,hx,h0,h1,h7,h8⟩;simp only[h7,h8,Qa,seval];by_cases hlt:i<L.length
 ·obtain⟨x,hi⟩:∃x,L[i]? = some x:=⟨L[i],QYN hlt⟩;have hcl:=hc x (QYY hi);have hg:(L.map QM)[i]? = some (QM x):=by simp[hi]
  have e1:=Ql i _ hlt hl;simp only[QM,SM.cells]at hcl;simp only[Qw hlt,Qj,QZ8,Qd,hg,QM,SM.cells,h0,h1,h8,eE,seval];refine Xa (fa:=[]) (fb:=AV.shL cs) rfl hcl (by simp only[QZh,QZG,QY6,QY5,Qa,seval]) ?_;rw[XD p hi]at hx;cases hp:p x
  ·rw[hp]at hx;simp only[QY3,if_false]at hx;simp only[h8,e1,Qa,seval];exact⟨L.length-(i+1),by omega,_,i+1,rfl,rfl,hx,h0,h1,h7,rfl⟩
  ·rw[hp]at hx;simp only[if_true]at hx;simp only[hx,Qa,seval]
 ·have hx':QS p L 0 = -1:=by rw[hx,QZm (by omega)];rfl
  simp only[Qy hlt,hx',Qa,seval]

end

section
variable (L:List SE)(hl:L.length≤maxLen)(p:SE→Bool)(c:Nat)(cs:List AV)(m:Qk)

def JsE (k:Nat)(st:St):Prop :=
 ∃f i,st=⟨f,Qc :: m,[]⟩∧k=L.length-i∧QS p L 0=QS p (L.drop i) i∧f 0=.list (L.map Xl)∧f 1=.fn (.func c) [] (AV.shL cs)∧f 7=.int .i64 (L.length:Nat)∧f 8=.int .i64 (i:Nat)

include hl in
theorem QDj (hc:∀o∈L,Qf Tryz.prog c (Xl o :: AV.shL cs) (Qc :: m) fun y m1=>y=.bool (p o)∧m1=Qc :: m) :
  Qf Tryz.prog 106 [.list (L.map Xl),.fn (.func c) [] cs] m fun y m1=>y=.int .i64 (QS p L 0)∧m1=m:=by
 refine Qoa.go (by simp) ?_;simp only[QZ5,Qa,seval];refine Qe (JsE L p c cs m) _ ⟨_,0,rfl,rfl,rfl,rfl,rfl,rfl,rfl⟩ ?_;rintro _ st ⟨f,i,rfl,rfl,hx,h0,h1,h7,h8⟩;simp only[h7,h8,Qa,seval];by_cases hlt:i<L.length
 ·obtain⟨x,hi⟩:∃x,L[i]? = some x:=⟨L[i],QYN hlt⟩;have hcl:=hc x (QYY hi);have hg:(L.map Xl)[i]? = some (Xl x):=by simp[hi]
  have e1:=Ql i _ hlt hl;simp only[Xl,SE.cells]at hcl;simp only[Qw hlt,Qj,QZ8,Qd,hg,Xl,SE.cells,h0,h1,h8,eE,seval];refine Xa (fa:=[]) (fb:=AV.shL cs) rfl hcl (by simp only[QZh,QZG,QY6,QY5,Qa,seval]) ?_;rw[XD p hi]at hx;cases hp:p x
  ·rw[hp]at hx;simp only[QY3,if_false]at hx;simp only[h8,e1,Qa,seval];exact⟨L.length-(i+1),by omega,_,i+1,rfl,rfl,hx,h0,h1,h7,rfl⟩
  ·rw[hp]at hx;simp only[if_true]at hx;simp only[hx,Qa,seval]
 ·have hx':QS p L 0 = -1:=by rw[hx,QZm (by omega)];rfl
  simp only[Qy hlt,hx',Qa,seval]

end

section
variable (L:List SF)(hl:L.length≤maxLen)(p:SF→Bool)(c:Nat)(cs:List AV)(m:Qk)

def JsF (k:Nat)(st:St):Prop :=
 ∃f i,st=⟨f,Qc :: m,[]⟩∧k=L.length-i∧QS p L 0=QS p (L.drop i) i∧f 0=.list (L.map QL)∧f 1=.fn (.func c) [] (AV.shL cs)∧f 7=.int .i64 (L.length:Nat)∧f 8=.int .i64 (i:Nat)

include hl in
theorem QR7 (hc:∀o∈L,Qf Tryz.prog c (QL o :: AV.shL cs) (Qc :: m) fun y m1=>y=.bool (p o)∧m1=Qc :: m) :
  Qf Tryz.prog 221 [.list (L.map QL),.fn (.func c) [] cs] m fun y m1=>y=.int .i64 (QS p L 0)∧m1=m:=by
 refine EM.go (by simp) ?_;simp only[QZ5,Qa,seval];refine Qe (JsF L p c cs m) _ ⟨_,0,rfl,rfl,rfl,rfl,rfl,rfl,rfl⟩ ?_;rintro _ st ⟨f,i,rfl,rfl,hx,h0,h1,h7,h8⟩;simp only[h7,h8,Qa,seval];by_cases hlt:i<L.length
 ·obtain⟨x,hi⟩:∃x,L[i]? = some x:=⟨L[i],QYN hlt⟩;have hcl:=hc x (QYY hi);have hg:(L.map QL)[i]? = some (QL x):=by simp[hi]
  have e1:=Ql i _ hlt hl;simp only[QL,Qz]at hcl;simp only[Qw hlt,Qj,QZ8,Qd,hg,QL,Qz,h0,h1,h8,eE,seval];refine Xa (fa:=[]) (fb:=AV.shL cs) rfl hcl (by simp only[QZh,QZG,QY6,QY5,Qa,seval]) ?_;rw[XD p hi]at hx;cases hp:p x
  ·rw[hp]at hx;simp only[QY3,if_false]at hx;simp only[h8,e1,Qa,seval];exact⟨L.length-(i+1),by omega,_,i+1,rfl,rfl,hx,h0,h1,h7,rfl⟩
  ·rw[hp]at hx;simp only[if_true]at hx;simp only[hx,Qa,seval]
 ·have hx':QS p L 0 = -1:=by rw[hx,QZm (by omega)];rfl
  simp only[Qy hlt,hx',Qa,seval]

include hl in
theorem E8 (hc:∀o∈L,Qf Tryz.prog c (QL o :: AV.shL (AV.shL cs)) (Qc :: Qc :: m) fun y m1=>y=.bool (p o)∧m1=Qc :: Qc :: m) :
  Qf Tryz.prog 242 [.list (L.map QL),.fn (.func c) [] cs] m fun y m1=>y=.bool (L.any p)∧m1=m:=by
 refine Quz.go (by simp) ?_;simp only[Qa,seval];refine Qb (QR7 L hl p c (AV.shL cs) _ hc) (by simp only[QZh,QZG,Qa,seval]<;>rfl) ?_;simp only[WN,Qa,seval]

end

section
variable (L:List SI)(hl:L.length≤maxLen)(p:SI→Bool)(c:Nat)(cs:List AV)(m:Qk)

def JsI (k:Nat)(st:St):Prop :=
 ∃f i,st=⟨f,Qc :: m,[]⟩∧k=L.length-i∧QS p L 0=QS p (L.drop i) i∧f 0=.list (L.map ZW)∧f 1=.fn (.func c) [] (AV.shL cs)∧f 7=.int .i64 (L.length:Nat)∧f 8=.int .i64 (i:Nat)

include hl in
theorem QR8 (hc:∀o∈L,Qf Tryz.prog c (ZW o :: AV.shL cs) (Qc :: m) fun y m1=>y=.bool (p o)∧m1=Qc :: m) :
  Qf Tryz.prog 230 [.list (L.map ZW),.fn (.func c) [] cs] m fun y m1=>y=.int .i64 (QS p L 0)∧m1=m:=by
 refine Es.go (by simp) ?_;simp only[QZ5,Qa,seval];refine Qe (JsI L p c cs m) _ ⟨_,0,rfl,rfl,rfl,rfl,rfl,rfl,rfl⟩ ?_;rintro _ st ⟨f,i,rfl,rfl,hx,h0,h1,h7,h8⟩;simp only[h7,h8,Qa,seval];by_cases hlt:i<L.length
 ·obtain⟨x,hi⟩:∃x,L[i]? = some x:=⟨L[i],QYN hlt⟩;have hcl:=hc x (QYY hi);have hg:(L.map ZW)[i]? = some (ZW x):=by simp[hi]
  have e1:=Ql i _ hlt hl;simp only[ZW,SI.cells]at hcl;simp only[Qw hlt,Qj,QZ8,Qd,hg,ZW,SI.cells,h0,h1,h8,eE,seval];refine Xa (fa:=[]) (fb:=AV.shL cs) rfl hcl (by simp only[QZh,QZG,QY6,QY5,Qa,seval]) ?_;rw[XD p hi]at hx;cases hp:p x
  ·rw[hp]at hx;simp only[QY3,if_false]at hx;simp only[h8,e1,Qa,seval];exact⟨L.length-(i+1),by omega,_,i+1,rfl,rfl,hx,h0,h1,h7,rfl⟩
  ·rw[hp]at hx;simp only[if_true]at hx;simp only[hx,Qa,seval]
 ·have hx':QS p L 0 = -1:=by rw[hx,QZm (by omega)];rfl
  simp only[Qy hlt,hx',Qa,seval]

include hl in
theorem E9 (hc:∀o∈L,Qf Tryz.prog c (ZW o :: AV.shL (AV.shL cs)) (Qc :: Qc :: m) fun y m1=>y=.bool (p o)∧m1=Qc :: Qc :: m) :
  Qf Tryz.prog 174 [.list (L.map ZW),.fn (.func c) [] cs] m fun y m1=>y=.bool (L.any p)∧m1=m:=by
 refine Er.go (by simp) ?_;simp only[Qa,seval];refine Qb (QR8 L hl p c (AV.shL cs) _ hc) (by simp only[QZh,QZG,Qa,seval]<;>rfl) ?_;simp only[WN,Qa,seval]

end

section
variable (L:List SN)(hl:L.length≤maxLen)(p:SN→Bool)(c:Nat)(cs:List AV)(m:Qk)

def JsN (k:Nat)(st:St):Prop :=
 ∃f i,st=⟨f,Qc :: m,[]⟩∧k=L.length-i∧QS p L 0=QS p (L.drop i) i∧f 0=.list (L.map Df)∧f 1=.fn (.func c) [] (AV.shL cs)∧f 7=.int .i64 (L.length:Nat)∧f 8=.int .i64 (i:Nat)

include hl in
theorem QR9 (hc:∀o∈L,Qf Tryz.prog c (Df o :: AV.shL cs) (Qc :: m) fun y m1=>y=.bool (p o)∧m1=Qc :: m) :
  Qf Tryz.prog 163 [.list (L.map Df),.fn (.func c) [] cs] m fun y m1=>y=.int .i64 (QS p L 0)∧m1=m:=by
 refine QnR.go (by simp) ?_;simp only[QZ5,Qa,seval];refine Qe (JsN L p c cs m) _ ⟨_,0,rfl,rfl,rfl,rfl,rfl,rfl,rfl⟩ ?_;rintro _ st ⟨f,i,rfl,rfl,hx,h0,h1,h7,h8⟩;simp only[h7,h8,Qa,seval];by_cases hlt:i<L.length
 ·obtain⟨x,hi⟩:∃x,L[i]? = some x:=⟨L[i],QYN hlt⟩;have hcl:=hc x (QYY hi);have hg:(L.map Df)[i]? = some (Df x):=by simp[hi]
  have e1:=Ql i _ hlt hl;simp only[Df,HH]at hcl;simp only[Qw hlt,Qj,QZ8,Qd,hg,Df,HH,h0,h1,h8,eE,seval];refine Xa (fa:=[]) (fb:=AV.shL cs) rfl hcl (by simp only[QZh,QZG,QY6,QY5,Qa,seval]) ?_;rw[XD p hi]at hx;cases hp:p x
  ·rw[hp]at hx;simp only[QY3,if_false]at hx;simp only[h8,e1,Qa,seval];exact⟨L.length-(i+1),by omega,_,i+1,rfl,rfl,hx,h0,h1,h7,rfl⟩
  ·rw[hp]at hx;simp only[if_true]at hx;simp only[hx,Qa,seval]
 ·have hx':QS p L 0 = -1:=by rw[hx,QZm (by omega)];rfl
  simp only[Qy hlt,hx',Qa,seval]

end

theorem Jg (n:Nat):(((n:Nat):Int)==0)=(n==0):=QZB.2 (by simp only[QY8];omega)
theorem QfR (a b:Nat):(((a:Nat):Int) != ((b:Nat):Int))=!decide (a=b):=by
 show(!(((a:Nat):Int)==((b:Nat):Int)))=_;congr 1
 exact QZB.2 (by simp only[QY8,QZ2];omega)
def Me:SM:=⟨[],[],[],[],[]⟩
def T7:SE:=⟨[],false,[],[],[]⟩

theorem QSa (o:SM)(fr:Nat→Ob)(n:List UInt8)(hf:fr 3=.cells [.str n]):Qf Tryz.prog 204 [QM o,.ptr 1 3 0] [Qc,fr] fun y m1=>y=.bool (o.name==n)∧m1=[Qc,fr]:=by
 refine Qpv.go (by simp) ?_;simp only[hf,QM,SM.cells,Qs,eE,seval]

theorem Fj (S:SC)(hl:S.msgs.length≤maxLen)(n:List UInt8):Qi Tryz.prog 150 [S.av,.str n] (.tup [QM ((S.msgs.find? fun m=>m.name==n).getD Me),.bool (Q6 S n)]):=by
 have e:Q6 S n=(S.msgs.find? fun m=>m.name==n).isSome:=Y9 _ _;refine Qpq.fn (by simp) ?_;simp only[SC.av,eE,seval];refine Qb (QDi S.msgs hl (fun m=>m.name==n) 204 [.ptr 0 3 0] _ fun o _=>QSa o _ n rfl) (by simp only[QZh,QZG,Qa,seval]<;>rfl) ?_;rcases Xi (fun m:SM=>m.name==n) S.msgs 0 with⟨h1,h2⟩|⟨j,o,h1,h2,h3⟩
 ·simp only[h1,e,h2,Q0g,QZy,Me,QM,SM.cells,QZG,eE,seval]
 ·have hj:(S.msgs.map fun o=>AV.agg o.cells)[j]? = some (.agg o.cells):=by simp[h2]
  have d:decide ((j:Int)<0)=false:=Q0u (by omega);rw[QY9]at h1;simp only[SM.cells]at hj;simp only[h1,d,Qj,QZ8,Qd,QY9,hj,e,h3,QZQ,Q0v,QM,SM.cells,eE,seval]

theorem QSb (o:SE)(fr:Nat→Ob)(n:List UInt8)(hf:fr 3=.cells [.str n]):Qf Tryz.prog 262 [Xl o,.ptr 1 3 0] [Qc,fr] fun y m1=>y=.bool (o.name==n)∧m1=[Qc,fr]:=by
 refine Qud.go (by simp) ?_;simp only[hf,Xl,SE.cells,Qs,eE,seval]

theorem QDk (S:SC)(hl:S.enums.length≤maxLen)(n:List UInt8):Qi Tryz.prog 244 [S.av,.str n] (.tup [Xl ((S.enums.find? fun m=>m.name==n).getD T7),.bool (D7 S n)]):=by
 have e:D7 S n=(S.enums.find? fun m=>m.name==n).isSome:=Y9 _ _;refine Qt8.fn (by simp) ?_;simp only[SC.av,eE,seval];refine Qb (QDj S.enums hl (fun m=>m.name==n) 262 [.ptr 0 3 0] _ fun o _=>QSb o _ n rfl) (by simp only[QZh,QZG,Qa,seval]<;>rfl) ?_;rcases Xi (fun m:SE=>m.name==n) S.enums 0 with⟨h1,h2⟩|⟨j,o,h1,h2,h3⟩
 ·simp only[h1,e,h2,Q0g,QZy,T7,Xl,SE.cells,QZG,eE,seval]
 ·have hj:(S.enums.map fun o=>AV.agg o.cells)[j]? = some (.agg o.cells):=by simp[h2]
  have d:decide ((j:Int)<0)=false:=Q0u (by omega);rw[QY9]at h1;simp only[SE.cells]at hj;simp only[h1,d,Qj,QZ8,Qd,QY9,hj,e,h3,QZQ,Q0v,Xl,SE.cells,eE,seval]

theorem QSc (c k:Int):Qi Tryz.prog 210 [.int .i64 c,.int .i64 k] (.bool (D8 c k)):=by
 refine Qve.fn (by simp) ?_;unfold D8;by_cases h:c=5
 ·have d:(c != 5)=false:=by simp[h]
  rw[QYS h];simp only[d,Qa,seval];cases h1:decide (k≥1)<;>cases h2:decide (k≤7)<;>simp only[h2,Q0p,Q0c,Qa,seval]
 ·have d:(c != 5)=true:=by simp[h]
  rw[QYR h];simp only[d,Qa,seval]

section
variable {M:Nat}(S:SC)(hS:S.ok M)(hM:M≤1048576)(x:SF)(hx:x.ok M)
include hS hM in
theorem Jr:S.msgs.length≤maxLen∧S.enums.length≤maxLen∧S.servs.length≤maxLen:=by
 have a:=hS.len1;have b:=hS.len2;have c:=hS.len3;simp only[maxLen];omega

include hS hM in
theorem QSd:Qi Tryz.prog 211 [S.av,QL x] (.bool (JL S x)):=by
 obtain⟨l1,l2,_⟩:=Jr S hS hM;have hm:=Fj S l1 x.tname;have he:=QDk S l2 x.tname;simp only[QM,SM.cells,SC.av]at hm;simp only[Xl,SE.cells,SC.av]at he;refine Qu7.fn (by simp) ?_;unfold JL;simp only[SC.av,QL,Qz,eE,seval];by_cases h1:x.kind≥1
 ·have d1:decide (x.kind≥1)=true:=Q0D h1;by_cases h2:x.kind≤8
  ·have d2:decide (x.kind≤8)=true:=Q0D h2;rw[QYS ⟨h1,h2⟩];simp only[d1,d2,Qs,eE,seval]
  ·have d2:decide (x.kind≤8)=false:=Q0u h2;rw[QYR fun h=>h2 h.2];by_cases h3:x.kind=9
   ·have d3:(x.kind==9)=true:=by simp[h3]
    rw[QYS h3];simp only[d1,d2,d3,eE,seval];refine aC he ?_;simp only[eE,seval]
   ·have d3:(x.kind==9)=false:=by simp[h3]
    rw[QYR h3];by_cases h4:x.kind=10
    ·have d4:(x.kind==10)=true:=by simp[h4]
     rw[QYS h4];simp only[d1,d2,d3,d4,eE,seval];refine aC hm ?_;cases Q6 S x.tname<;>simp only[Q0p,Q0c,eE,seval]
    ·have d4:(x.kind==10)=false:=by simp[h4]
     rw[QYR h4];simp only[d1,d2,d3,d4,eE,seval]
 ·have d1:decide (x.kind≥1)=false:=Q0u h1;have d3:(x.kind==9)=false:=by rw[Q0F];omega
  have d4:(x.kind==10)=false:=by rw[Q0F];omega
  rw[QYR fun h=>h1 h.1,QYR (by omega),QYR (by omega)];simp only[d1,d3,d4,eE,seval]

theorem QSe (v:V)(hv:v.ok M):Qi Tryz.prog 247 [v.av] (.bool v.zro):=by
 have n1:=hv.nl;have n2:=hv.np;have n3:=hv.ns;have n4:=hv.nr;have w:IntKind.i64.wrap (IntKind.i64.wrap (IntKind.i64.wrap ((v.list.length:Int)+(v.pairs.length:Int))+(v.slots.length:Int))+(v.raws.length:Int))=(v.list.length+v.pairs.length+v.slots.length+v.raws.length:Nat):=by
  simp only[QU];omega
 have eb:(((v.bits:Nat):Int)==0)=(v.bits==0):=Jg _;have es:(((v.list.length+v.pairs.length+v.slots.length+v.raws.length:Nat):Int)==0)=(v.list.length+v.pairs.length+v.slots.length+v.raws.length==0):=Jg _;refine Quj.fn (by simp) ?_;unfold V.zro V.av;rw[V.eta];simp only[eE,seval];cases h1:(v.kd==0)
 ·simp only[Q0c,Qa,seval]
 cases h2:(v.bits==0)
 ·simp only[h2,eb,Q0c,Q0p,eE,seval]
 cases h3:(v.text==[])
 ·simp only[h2,h3,eb,Qs,Q0c,Q0p,eE,seval]
 simp only[h2,h3,eb,Qs,w,es,QZ5,Q0p,eE,seval]

theorem QSf (o:SI)(fr:Nat→Ob)(hf:fr 3=.cells x.cells):Qf Tryz.prog 249 [ZW o,.ptr 2 3 0] [Qc,Qc,fr] fun y m1=>y=.bool (IntKind.u64.wrap o.num==(x.dflt.bits:Int))∧m1=[Qc,Qc,fr]:=by
 rw[Qz]at hf;refine Qt0.go (by simp) ?_;simp only[hf,ZW,SI.cells,eE,seval]

section
variable (k:Int)(b:Nat)(hb:b<18446744073709551616)(t:List UInt8)(l p s r:List AV)
include hb
theorem s76:Qi Tryz.prog 76 [vo k b t l p s r] (vo k (XG k b) t l p s r):=by
 refine k76.fn (by simp) ?_;simp only[vo,eE,seval];by_cases hk:k=6
 ·have b0:(k==6)=true:=by simp[hk]
  simp only[b0,eE,seval];refine aC (QRW b hb) ?_;simp only[N7,Qa,seval];by_cases hc:KL b=0
  ·simp only[hc,XG,hk,decide_true,QZJ,eE,seval]
   try rfl
  ·simp only[hc,XG,decide_false,and_false,eE,seval]
 ·have b0:(k==6)=false:=by simp[hk]
  simp only[b0,XG,hk,false_and,eE,seval]
end

include hS hM hx in
theorem QSg:Qi Tryz.prog 213 [S.av,QL x] (.bool (Yb S x)):=by
 obtain⟨l1,l2,_⟩:=Jr S hS hM;have he:=QDk S l2 x.tname;have hv:=hx.dflt;have n1:=hv.nl;have n2:=hv.np;have n3:=hv.ns;have n4:=hv.nr;have hz:=QSe x.dflt hv;have hb:x.dflt.bits<18446744073709551616:=by have:=Ry hv.bits;omega
 have hf:=Px x.kind x.dflt.kd x.dflt.bits x.dflt.text (x.dflt.list.map V.av) (x.dflt.pairs.map V.pav) (x.dflt.slots.map V.sav) (x.dflt.raws.map R.av) (by simp;omega) (by simp;omega) (by simp;omega) (by simp;omega);have hn:=s76 x.dflt.kd x.dflt.bits hb x.dflt.text (x.dflt.list.map V.av) (x.dflt.pairs.map V.pav) (x.dflt.slots.map V.sav) (x.dflt.raws.map R.av);have ef:x.dflt.fitk x.kind=X8 x.kind x.dflt.kd x.dflt.bits x.dflt.text (x.dflt.list.map V.av) (x.dflt.pairs.map V.pav) (x.dflt.slots.map V.sav) (x.dflt.raws.map R.av):=rfl;have en:(((XG x.dflt.kd x.dflt.bits:Nat):Int) != (x.dflt.bits:Nat))=!decide (XG x.dflt.kd x.dflt.bits=x.dflt.bits):=QfR _ _;simp only[V.av]at hz;rw[V.eta]at hz;simp only[vo]at hf hn;simp only[Xl,SE.cells,SC.av]at he;refine QtV.fn (by simp) ?_;unfold Yb;rw[ef];simp only[SC.av,QL,Qz,eE,seval];cases hd:x.hasd
 ·rw[QYS rfl];simp only[eE,seval];refine aC hz ?_;simp only[Qa,seval]
 rw[QYR (by simp)];by_cases hc:x.card=2
 case neg=>
  have d1:(x.card != 2)=true:=by simp[hc]
  rw[QYR fun h=>hc h.1];simp only[d1,eE,seval]
 have d1:(x.card != 2)=false:=by simp[hc]
 by_cases hu:x.union=[]
 case neg=>
  have d2:(!(x.union==[]))=true:=by simp[hu]
  rw[QYR fun h=>hu h.2.1];simp only[d1,d2,Qs,eE,seval]
 have d2:(!(x.union==[]))=false:=by simp[hu]
 simp only[d1,d2,Qs,eE,seval];refine aC hf ?_;cases hfv:X8 x.kind x.dflt.kd x.dflt.bits x.dflt.text (x.dflt.list.map V.av) (x.dflt.pairs.map V.pav) (x.dflt.slots.map V.sav) (x.dflt.raws.map R.av)
 ·rw[QYR fun h=>Bool.false_ne_true h.2.2.1];simp only[Qa,seval]
 simp only[eE,seval];refine aC hn ?_;by_cases hnb:XG x.dflt.kd x.dflt.bits=x.dflt.bits
 case neg=>
  rw[QYR fun h=>hnb h.2.2];simp only[en,hnb,decide_false,QZN,eE,seval]
 rw[QYS ⟨hc,hu,hnb⟩];have en':(((XG x.dflt.kd x.dflt.bits:Nat):Int) != (x.dflt.bits:Nat))=false:=by rw[en,Q0D hnb];rfl
 by_cases h9:x.kind=9
 case neg=>
  have d9:(x.kind != 9)=true:=by simp[h9]
  rw[QYR h9];simp only[en',d9,eE,seval]
 have d9:(x.kind != 9)=false:=by simp[h9]
 rw[QYS h9];simp only[en',d9,eE,seval];refine aC he ?_;have eh:D7 S x.tname=(S.enums.find? fun e=>e.name==x.tname).isSome:=Y9 _ _;cases hq:S.enums.find? fun e=>e.name==x.tname with
 |none=>
  rw[hq]at eh;simp only[eh,QZy,Q0g,eE,seval]
 |some e=>
  rw[hq]at eh;have hem:=hS.enums e (Q0B hq);have hlm:=hem.len1;simp only[eh,Q0v,QZQ,eE,seval];refine Qb (E9 e.items (by simp only[maxLen];omega) (fun it=>IntKind.u64.wrap it.num==(x.dflt.bits:Int)) 249 [.ptr 0 3 0] _ fun o _=>QSf x o _ (by rw[Qz,hd];exact rfl)) (by simp only[QZh,QZG,Qa,seval]<;>rfl) ?_;simp only[Qa,seval]

theorem Pz (s:List UInt8):Qi Tryz.prog 159 [.str s] (.bool (Xo s)):=by
 refine QpA.fn (by simp) ?_;simp only[Xo,Qa,seval];refine aC (QCI s) ?_;cases Q9 s
 ·simp only[Q0c,Qa,seval]
 ·simp only[Q0p,Qa,seval];refine aC (QRv s) ?_;simp only[Qa,seval]

theorem Ia (s:List UInt8)(hs:s.length≤17592186044000):Qi Tryz.prog 153 [.str s] (.bool (XE s)):=by
 have hl:=UE s;have hc:s.count 46≤s.length:=List.count_le_length;refine Qqg.fn (by simp) ?_;simp only[XE,Qa,seval];refine aC (QRD s hs) ?_;cases hf:(decide (s.length≤120)&&(Qm s).all Q9)
 ·simp only[Q0c,Qa,seval]
 ·simp only[Q0p,Qa,seval];refine aC (QCN s hs) ?_;simp only[Qa,seval];refine Qb (Ps (Qm s) (by simp only[maxLen];omega) ZL 207 [] _ fun o _=>QL1 o _) (by simp only[QZh,QZG,Qa,seval]<;>rfl) ?_;simp only[Qa,seval]
end

section
variable {M:Nat}(hM:M≤1048576)(m:SM)(hm:m.ok M)(i:Nat)(x:SF)(hi:m.fields[i]? = some x)

theorem QSh (o:SF)(fr:Nat→Ob)(hf:fr 5=.cells x.cells):Qf Tryz.prog 245 [QL o,.ptr 2 5 0] [Qc,Qc,fr] fun y m1=>y=.bool (o.name==x.union)∧m1=[Qc,Qc,fr]:=by
 rw[Qz]at hf;refine QuU.go (by simp) ?_;simp only[hf,QL,Qz,Qs,eE,seval]
theorem QSi (o:SF)(fr:Nat→Ob)(hf:fr 5=.cells x.cells):Qf Tryz.prog 246 [QL o,.ptr 2 5 0] [Qc,Qc,fr] fun y m1=>y=.bool (o.union==x.union)∧m1=[Qc,Qc,fr]:=by
 rw[Qz]at hf;refine QuP.go (by simp) ?_;simp only[hf,QL,Qz,Qs,eE,seval]

include hM hm hi in
theorem QSj:Qi Tryz.prog 212 [QM m,.int .i64 (i:Nat)] (.bool (JM m i)):=by
 have hlt:i<m.fields.length:=(QYM.1 hi).1;have hl1:=hm.len1;have hlm:m.fields.length≤maxLen:=by simp only[maxLen];omega
 have hg:(m.fields.map fun n=>AV.agg n.cells)[i]? = some (.agg x.cells):=by simp[hi]
 have hg':=hg;rw[Qz]at hg';have ht:(m.fields.map fun n=>AV.agg n.cells).take i=(m.fields.take i).map QL:=by rw[QZq];rfl
 have hsl:i≤(m.fields.map fun n=>AV.agg n.cells).length:=by rw[QZ5];omega
 unfold JM;rw[hi];refine Quu.fn (by simp) ?_;simp only[QM,SM.cells,Qj,QZ8,Qd,hg',eE,seval];cases hu:(x.union==[])
 case true=>simp only[hu,Qs,Q0r,Qa,seval]
 simp only[hu,Qs,Q0s,eE,seval];by_cases hc:x.card=2
 case neg=>
  have d1:(x.card != 2)=true:=by simp[hc]
  have d2:(x.card==2)=false:=by simp[hc]
  simp only[d1,d2,Q0c,Qa,seval]
 have d1:(x.card != 2)=false:=by simp[hc]
 have d2:(x.card==2)=true:=by simp[hc]
 simp only[d1,d2,Q0p,eE,seval];refine aC (Pz x.union) ?_;cases Xo x.union
 ·simp only[Q0c,QZN,Qa,seval]
 simp only[Q0p,Q0q,eE,seval];refine Qb (E8 m.fields hlm (fun o=>o.name==x.union) 245 [.ptr 0 5 0] _ fun o _=>QSh x o _ (by rw[Qz];exact rfl)) (by simp only[QZh,QZG,Qa,seval]<;>rfl) ?_;cases m.fields.any fun o=>o.name==x.union
 case true=>simp only[Q0q,Q0c,Qa,seval]
 have hle:(i≤m.fields.length)=True:=eq_true (by omega);simp only[QZN,Q0p,Jx,Zm,Xg,Q0g,QZ5,Qj,QZ8,QYT,QYK,hle,true_or,QZY,←QZq,eE,seval];refine Qb (E8 (m.fields.take i) (by rw[QZC];omega) (fun o=>o.union==x.union) 246 [.ptr 0 5 0] _ fun o _=>QSi x o _ (by rw[Qz];exact rfl)) (by simp only[QZh,QZG,Qa,seval]<;>rfl) ?_;cases he:(m.fields.take i).any fun o=>o.union==x.union
 ·simp only[QZN,Q0r,Qa,seval]
 ·cases i with
  |zero=>simp at he
  |succ j=>
   obtain⟨y,hj⟩:∃y,m.fields[j]? = some y:=⟨m.fields[j]'(by omega),QYN (by omega)⟩;have hgj:(m.fields.map fun n=>AV.agg n.cells)[j]? = some (.agg y.cells):=by simp[hj]
   rw[Qz]at hgj;have wj:=KS j _ hlt hlm;simp only[Q0q,Q0s,wj,Qj,QZ8,Qd,hgj,hj,Qs,eE,seval]
end

section
variable (m:Qk)(L:List SF)(hl:L.length≤maxLen)(i:Nat)(x:SF)(hi:L[i]? = some x)
theorem QSk (o:SF):Qi Tryz.prog 209 [QL o] (.str o.name):=by
 refine Qvj.fn (by simp) ?_;simp only[QL,Qz,eE,seval]
end
section
variable (m:Qk)(L:List SI)(hl:L.length≤maxLen)(i:Nat)(x:SI)(hi:L[i]? = some x)
theorem QSl (o:SI):Qi Tryz.prog 161 [ZW o] (.str o.name):=by
 refine Qs9.fn (by simp) ?_;simp only[ZW,SI.cells,eE,seval]
end

section
variable (L:List SF)(hl:L.length≤maxLen)(i:Nat)(x:SF)(hi:L[i]? = some x)(c:Nat)(nm:SF→List UInt8)(hn:∀x,Qi Tryz.prog c [QL x] (.str (nm x)))
include hi hn in
theorem QSm (y:SF)(fr:Nat→Ob)(m:Qk)(h3:fr 3=.cells [.list (L.map QL)])(h4:fr 4=.cells [.int .i64 (i:Nat)])(h5:fr 5=.cells [.fn (.func c) [] []]) :
  Qf Tryz.prog 243 [QL y,.ptr 2 5 0,.ptr 2 3 0,.ptr 2 4 0] (Qc :: Qc :: fr :: m) fun r m1=>r=.bool (nm y==nm x)∧m1=Qc :: Qc :: fr :: m:=by
 have hy:=hn y;have hx:=hn x;have hg:(L.map QL)[i]? = some (QL x):=by simp[hi]
 have g3:∀n,AV.shN n (.fn (.func c) [] [])=.fn (.func c) [] []:=fun n=>Bo n c
 simp only[QL,Qz]at hy hx hg;refine Qvt.go (by simp) ?_;simp only[QL,Qz,h5,g3,eE,seval];refine Wt (fa:=[]) (fb:=[]) rfl hy rfl rfl rfl (.inl rfl) ?_;simp only[h3,h4,h5,g3,Qj,QZ8,Qd,hg,eE,seval];refine Wt (fa:=[]) (fb:=[]) rfl hx rfl rfl rfl (.inl rfl) ?_;simp only[Qs,Qa,seval]

include hi hn hl in
theorem QSn (m:Qk):Qf Tryz.prog 208 [.list (L.map QL),.int .i64 (i:Nat),.fn (.func c) [] []] m fun r m1=>r=.bool ((L.take i).any fun y=>nm y==nm x)∧m1=m:=by
 have hlt:i<L.length:=(QYM.1 hi).1;have hle:(i≤L.length)=True:=eq_true (by omega);have g3:∀n,AV.shN n (.fn (.func c) [] [])=.fn (.func c) [] []:=fun n=>Bo n c
 refine Qvo.go (by simp) ?_;simp only[Jx,Zm,Xg,Q0g,QZ5,Qj,QZ8,QYT,QYK,hle,true_or,QZY,←QZq,eE,seval];refine Qb (E8 (L.take i) (by rw[QZC];omega) (fun y=>nm y==nm x) 243 [.ptr 0 5 0,.ptr 0 3 0,.ptr 0 4 0] _ fun o _=>QSm L i x hi c nm hn o _ _ rfl rfl rfl) (by simp only[QZh,QZG,Qa,seval]<;>rfl) ?_;simp only[Qa,seval]
end

section
variable (L:List SI)(hl:L.length≤maxLen)(i:Nat)(x:SI)(hi:L[i]? = some x)(c:Nat)(nm:SI→List UInt8)(hn:∀x,Qi Tryz.prog c [ZW x] (.str (nm x)))
include hi hn in
theorem QSo (y:SI)(fr:Nat→Ob)(m:Qk)(h3:fr 3=.cells [.list (L.map ZW)])(h4:fr 4=.cells [.int .i64 (i:Nat)])(h5:fr 5=.cells [.fn (.func c) [] []]) :
  Qf Tryz.prog 218 [ZW y,.ptr 2 5 0,.ptr 2 3 0,.ptr 2 4 0] (Qc :: Qc :: fr :: m) fun r m1=>r=.bool (nm y==nm x)∧m1=Qc :: Qc :: fr :: m:=by
 have hy:=hn y;have hx:=hn x;have hg:(L.map ZW)[i]? = some (ZW x):=by simp[hi]
 have g3:∀n,AV.shN n (.fn (.func c) [] [])=.fn (.func c) [] []:=fun n=>Bo n c
 simp only[ZW,SI.cells]at hy hx hg;refine Qtj.go (by simp) ?_;simp only[ZW,SI.cells,h5,g3,eE,seval];refine Wt (fa:=[]) (fb:=[]) rfl hy rfl rfl rfl (.inl rfl) ?_;simp only[h3,h4,h5,g3,Qj,QZ8,Qd,hg,eE,seval];refine Wt (fa:=[]) (fb:=[]) rfl hx rfl rfl rfl (.inl rfl) ?_;simp only[Qs,Qa,seval]

include hi hn hl in
theorem QSp (m:Qk):Qf Tryz.prog 160 [.list (L.map ZW),.int .i64 (i:Nat),.fn (.func c) [] []] m fun r m1=>r=.bool ((L.take i).any fun y=>nm y==nm x)∧m1=m:=by
 have hlt:i<L.length:=(QYM.1 hi).1;have hle:(i≤L.length)=True:=eq_true (by omega);have g3:∀n,AV.shN n (.fn (.func c) [] [])=.fn (.func c) [] []:=fun n=>Bo n c
 refine Qte.go (by simp) ?_;simp only[Jx,Zm,Xg,Q0g,QZ5,Qj,QZ8,QYT,QYK,hle,true_or,QZY,←QZq,eE,seval];refine Qb (E9 (L.take i) (by rw[QZC];omega) (fun y=>nm y==nm x) 218 [.ptr 0 5 0,.ptr 0 3 0,.ptr 0 4 0] _ fun o _=>QSo L i x hi c nm hn o _ _ rfl rfl rfl) (by simp only[QZh,QZG,Qa,seval]<;>rfl) ?_;simp only[Qa,seval]
end

end Go.Proofs.YtafhmlkilcmniaaGreatDoor.Va

namespace Go.Proofs.YtafhmlkilcmniaaGreatDoor.Va
open Go Am Rc Bt Br

def kv (k:Int)(b:Nat)(t:List UInt8):AV:=.agg [.int .i64 k,.int .u64 (b:Nat),.str t,.list [],.list [],.list [],.list []]
def ZF (k:Int):Prop:=(1≤k∧k≤5)∨k=7

theorem ZF.isk {k:Int}(h:ZF k):isk k=true:=by
 rcases h with h|rfl
 ·simp[Va.isk];omega
 ·rfl

theorem JZ:∀s:List UInt8,Op.bytesLess s s=false
 | []=>rfl
 |a :: l=>by simp[Op.bytesLess,JZ l]

theorem v79 (a:Int):Qi Tryz.prog 79 [.int .i64 a] (.bool false):=by
 refine k79.fn (by simp) ?_;simp only[bne_self_eq_false,Qa,seval]

theorem QDl (a:Int):Qi Tryz.prog 258 [.int .u64 a] (.bool false):=by
 refine Qlv.fn (by simp) ?_;simp only[bne_self_eq_false,Qa,seval]

theorem QDm (a:List UInt8):Qi Tryz.prog 257 [.str a] (.bool false):=by
 have e:Qs .neq a a=some (.bool false):=by simp[Qs]
 refine Qld.fn (by simp) ?_;simp only[e,Qa,seval]

def cN (a b:Int):Int:=if a<b then -1 else if b<a then 1 else 0
theorem Mf {a b:Int}:cN a b=0↔a=b:=by
 unfold cN;split
 ·omega
 ·split<;>omega

theorem T8 (a b:Int):Qi Tryz.prog 35 [.int .i64 a,.int .i64 b] (.int .i64 (cN a b)):=by
 refine k35.fn (by simp) ?_;simp only[Qa,seval];refine aC (v79 a) ?_;simp only[Qa,seval];refine aC (v79 b) ?_;simp only[Qa,seval];by_cases h1:a<b
 ·have d1:decide (a<b)=true:=by simpa using h1
  simp only[d1,cN,QYS h1,Qa,seval]
 ·have d1:decide (a<b)=false:=by simpa using h1
  by_cases h2:b<a
  ·have d2:decide (a > b)=true:=by simpa using h2
   simp only[d1,d2,cN,QYR h1,QYS h2,Qa,seval]
  ·have d2:decide (a > b)=false:=by simpa using h2
   simp only[d1,d2,cN,QYR h1,QYR h2,Qa,seval]

theorem QSq (a b:Int):Qi Tryz.prog 236 [.int .u64 a,.int .u64 b] (.int .i64 (cN a b)):=by
 refine Qlq.fn (by simp) ?_;simp only[Qa,seval];refine aC (QDl a) ?_;simp only[Qa,seval];refine aC (QDl b) ?_;simp only[Qa,seval];by_cases h1:a<b
 ·have d1:decide (a<b)=true:=by simpa using h1
  simp only[d1,cN,QYS h1,Qa,seval]
 ·have d1:decide (a<b)=false:=by simpa using h1
  by_cases h2:b<a
  ·have d2:decide (a > b)=true:=by simpa using h2
   simp only[d1,d2,cN,QYR h1,QYS h2,Qa,seval]
  ·have d2:decide (a > b)=false:=by simpa using h2
   simp only[d1,d2,cN,QYR h1,QYR h2,Qa,seval]

def cS (a b:List UInt8):Int:=if Op.bytesLess a b=true then -1 else if a==b then 0 else 1
theorem QfS {a b:List UInt8}:cS a b=0↔a=b:=by
 unfold cS
 constructor
 ·intro h;split at h
  ·omega
  ·split at h
   ·rename_i h2;simpa using h2
   ·omega
 ·rintro rfl;simp[JZ]

theorem QSr (a b:List UInt8):Qi Tryz.prog 235 [.str a,.str b] (.int .i64 (cS a b)):=by
 refine Qk8.fn (by simp) ?_;simp only[Qa,seval];refine aC (QDm a) ?_;simp only[Qa,seval];refine aC (QDm b) ?_;simp only[Qs,cS,Qa,seval];cases h1:Op.bytesLess a b
 ·cases h2:(a==b)<;>simp only[Qs,h1,h2,Q0s,Q0q,QZN,QY3,Qa,seval]
 ·simp only[Qa,seval]

def HI (k:Int)(a:Nat)(s:List UInt8)(b:Nat)(t:List UInt8):Int :=
 if JA k=true then cS s t else if (k==2||k==3)=true then cN (IntKind.i64.wrap (a:Int)) (IntKind.i64.wrap (b:Int))else cN (a:Int) (b:Int)

theorem QSs (k:Int)(hk:ZF k)(a b:Nat)(s t:List UInt8):Qi Tryz.prog 184 [kv k a s,kv k b t] (.int .i64 (HI k a s b t)):=by
 have hi:=hk.isk;have k6:(k==6)=false:=by
  rcases hk with h|rfl
  ·simp;omega
  ·rfl
 refine QmK.fn (by simp) ?_;simp only[kv,HI,bne_self_eq_false,eE,seval];refine aC (Pp k) ?_;simp only[hi,eE,seval];refine aC (QCr k) ?_;cases h1:JA k
 ·simp only[QY3,eE,seval];cases h2:(k==2)
  ·cases h3:(k==3)
   ·simp only[h3,k6,Q0H,QY3,eE,seval];refine aC (QSq _ _) ?_;simp only[Qa,seval]
   ·simp only[h3,Q0s,eE,seval];refine aC (T8 _ _) ?_;simp only[Qa,seval]
  ·simp only[Q0r,eE,seval];refine aC (T8 _ _) ?_;simp only[Qa,seval]
 ·simp only[eE,seval];refine aC (QSr s t) ?_;simp only[Qa,seval]

theorem QDn (k:Int)(hk:ZF k)(b:Nat)(t:List UInt8):Qi Tryz.prog 183 [kv k b t] (.iface 225 (kv k b t)):=by
 have hi:=hk.isk;refine Qnh.fn (by simp) ?_;simp only[kv,eE,seval];refine aC (Pp k) ?_;simp only[hi,eE,seval]

theorem QDo (k:Int)(hk:ZF k)(a b:Nat)(s t:List UInt8):Qi Tryz.prog 131 [kv k a s,kv k b t] (.int .i64 (HI k a s b t)):=by
 have h1:=QDn k hk a s;have h2:=QDn k hk b t;have h3:=QSs k hk a b s t;simp only[kv]at h1 h2 h3;refine QkF.fn (by simp) ?_;simp only[kv,bne_self_eq_false,eE,seval];refine aC h2 ?_;simp only[eE,seval];refine aC h1 ?_;simp only[eE,seval];refine aC h3 ?_;simp only[Qa,seval]

theorem Ib (k:Int)(hk:ZF k)(a b:Nat)(s t:List UInt8):Qi Tryz.prog 132 [kv k a s,kv k b t] (.bool (HI k a s b t==0)):=by
 have h1:=QDo k hk a b s t;simp only[kv]at h1;refine Qks.fn (by simp) ?_;simp only[kv,eE,seval];refine aC h1 ?_;simp only[Qa,seval]

theorem QSt (k:Int):Qi Tryz.prog 231 [.int .i64 k] (.bool (k==2||k==3)):=by
 refine QO4.fn (by simp) ?_;simp only[Qa,seval];cases h:(k==2)<;>simp only[Q0r,Q0s,Qa,seval]

theorem K2 {v:V}{P:PL}{k tg:Int}(h:v.one P k tg=0):v.av=kv k v.bits v.text∧(JA k=true→(v.bits:Int)=0)∧(JA k=false→v.text=[]):=by
 obtain⟨h1,_,h3⟩:=De h;rw[U6,h1];rw[h1]at h3;unfold X8 Wb at h3;simp only[QY7,QY8]at h3;obtain⟨⟨⟨⟨⟨_,⟨⟨⟨e1,e2⟩,e3⟩,e4⟩⟩,h4⟩,_⟩,_⟩,_⟩:=h3;have f1:=Q0P.1 (Int.ofNat_eq_zero.1 e1);have f2:=Q0P.1 (Int.ofNat_eq_zero.1 e2);have f3:=Q0P.1 (Int.ofNat_eq_zero.1 e3);have f4:=Q0P.1 (Int.ofNat_eq_zero.1 e4);rw[f1,f2,f3,f4];refine⟨rfl,fun ht=>?_,fun ht=>?_⟩
 ·rw[QYS ht]at h4;simpa using h4
 ·rw[QYR (by simp[ht])]at h4;simpa using h4

theorem Fk {x y:V}{P:PL}{k tg:Int}(_hk:ZF k)(hx:x.one P k tg=0)(hy:y.one P k tg=0)(bx:x.bits<18446744073709551616)(bY:y.bits<18446744073709551616):(HI k x.bits x.text y.bits y.text==0)=Ko x y:=by
 obtain⟨_,x1,x2⟩:=K2 hx;obtain⟨_,y1,y2⟩:=K2 hy;rw[QZB,QY8];unfold Ko HI;simp only[QY7,QY8];split
 ·rename_i ht;have:=x1 ht;have:=y1 ht;rw[QfS];exact⟨fun h=>⟨by omega,h⟩,fun h=>h.2⟩
 ·rename_i ht;have ht:JA k=false:=by simpa using ht
  rw[x2 ht,y2 ht];split
  ·rw[Mf,QU,QU];exact⟨fun h=>⟨by omega,rfl⟩,fun h=>by rw[h.1]⟩
  ·rw[Mf];exact⟨fun h=>⟨by omega,rfl⟩,fun h=>by rw[h.1]⟩

open Up

def vc (x:V):List AV:=[.int .i64 x.kd,.int .u64 (x.bits:Nat),.str x.text,.list (x.list.map V.av),.list (x.pairs.map V.pav),.list (x.slots.map V.sav),.list (x.raws.map R.av)]
theorem QE (x:V):x.av=.agg [.int .i64 x.kd,.int .u64 (x.bits:Nat),.str x.text,.list (x.list.map V.av),.list (x.pairs.map V.pav),.list (x.slots.map V.sav),.list (x.raws.map R.av)]:=by
 rw[V.av,V.eta]
theorem ZO (p:V×V):V.pav p=.agg [.int .i64 p.1.kd,.int .u64 (p.1.bits:Nat),.str p.1.text,.list (p.1.list.map V.av),.list (p.1.pairs.map V.pav),.list (p.1.slots.map V.sav),.list (p.1.raws.map R.av),.int .i64 p.2.kd,.int .u64 (p.2.bits:Nat),.str p.2.text,.list (p.2.list.map V.av),.list (p.2.pairs.map V.pav),.list (p.2.slots.map V.sav),.list (p.2.raws.map R.av)]:=by
 rw[V.pav,V.eta,V.eta];rfl
theorem Jw (s:Int×V):V.sav s=.agg [.int .i64 s.1,.int .i64 s.2.kd,.int .u64 (s.2.bits:Nat),.str s.2.text,.list (s.2.list.map V.av),.list (s.2.pairs.map V.pav),.list (s.2.slots.map V.sav),.list (s.2.raws.map R.av)]:=by
 rw[V.sav,V.eta]
theorem H5 {l:List V}{i:Nat}{x:V}(h:l[i]? = some x):(l.map V.av)[i]? = some (.agg [.int .i64 x.kd,.int .u64 (x.bits:Nat),.str x.text,.list (x.list.map V.av),.list (x.pairs.map V.pav),.list (x.slots.map V.sav),.list (x.raws.map R.av)]):=by
 rw[QZ3,h,QZa,QE]
theorem Yo {l:List (V×V)}{i:Nat}{p:V×V}(h:l[i]? = some p):(l.map V.pav)[i]? = some (.agg [.int .i64 p.1.kd,.int .u64 (p.1.bits:Nat),.str p.1.text,.list (p.1.list.map V.av),.list (p.1.pairs.map V.pav),.list (p.1.slots.map V.sav),.list (p.1.raws.map R.av),.int .i64 p.2.kd,.int .u64 (p.2.bits:Nat),.str p.2.text,.list (p.2.list.map V.av),.list (p.2.pairs.map V.pav),.list (p.2.slots.map V.sav),.list (p.2.raws.map R.av)]):=by
 rw[QZ3,h,QZa,ZO]
theorem WY {l:List (Int×V)}{i:Nat}{s:Int×V}(h:l[i]? = some s):(l.map V.sav)[i]? = some (.agg [.int .i64 s.1,.int .i64 s.2.kd,.int .u64 (s.2.bits:Nat),.str s.2.text,.list (s.2.list.map V.av),.list (s.2.pairs.map V.pav),.list (s.2.slots.map V.sav),.list (s.2.raws.map R.av)]):=by
 rw[QZ3,h,QZa,Jw]

structure UO (P:PL)(o:PO):Prop where
 tgt:o.kind=10→0≤o.target∧o.target<(P.progs.length:Int)
 enm:o.kind=9→0≤o.target∧o.target<(P.enums.length:Int)
 key:o.card=5→ZF o.key
def Use (P:PL):Prop:=∀g∈P.progs,∀o∈g.ops,UO P o

theorem T9 {P:PL}(h:ck P=0):Use P:=by
 unfold ck at h;split at h
 ·omega
 split at h
 ·omega
 split at h
 ·omega
 split at h
 ·omega
 split at h
 ·omega
 split at h
 ·omega
 rename_i ha;have ha:args P=true:=by simpa using ha
 intro g hg o ho;unfold args at ha;simp only[QY7,QYX]at ha;have h1:=ha.1 g hg;unfold Pw at h1;simp only[QY7,QYX]at h1;have h2:=(h1.2 o ho).1;unfold Pv at h2;simp only[QY7,QZ2]at h2;obtain⟨⟨_,hk⟩,hm⟩:=h2;refine⟨fun h=>?_,fun h=>?_,fun h=>?_⟩
 ·unfold aim at hm;rw[QYS h]at hm;simp only[QY7,QZ2]at hm;exact hm.1
 ·unfold aim at hm;rw[QYR (by omega),QYS h]at hm;simp only[QY7,QZ2]at hm;exact hm
 ·unfold Va.key at hk;rw[QYS h]at hk;simp only[QY7,QZ2,QZc]at hk;unfold ZF;omega

section
variable {M:Nat}{P:PL}(hP:P.ok M)(hM:M≤140737488351232){m:PG→V→Int}{lv lv1:Int}(hw:IntKind.i64.wrap (lv+1)=lv1)

include hP in
theorem QaI (k tg:Int){v:V}(hv:v.ok M):Qi Tryz.prog 228 [P.av,.int .i64 k,.int .i64 tg,v.av] (.int .i64 (v.one P k tg)):=by
 rw[U6];exact QR0 P hP k tg _ _ _ _ _ _ _ (by have:=hv.nl;simp;omega) (by have:=hv.np;simp;omega) (by have:=hv.ns;simp;omega) (by have:=hv.nr;simp;omega)

include hP hw in
theorem QSu (hm:∀g∈P.progs,∀v:V,v.ok M→Qi Tryz.prog 25 [P.av,QW g,v.av,.int .i64 lv1] (.int .i64 (m g v)))(o:PO)(ho:UO P o)(v:V)(hv:v.ok M) :
  Qi Tryz.prog 172 [P.av,Xv o,v.av,.int .i64 lv] (.int .i64 (Xt m P o v)):=by
 have e0:P.av=.agg [.list (P.progs.map QW),.list (P.enums.map Xw)]:=rfl;have h1:=QaI hP o.kind o.target hv;rw[e0,QE]at h1;rw[QE];refine Qis.fn (by simp) ?_;simp only[e0,Xv,PO.cells,Xt,eE,seval];by_cases hk:o.kind=10
 ·have b:(o.kind==10)=true:=by simp[hk]
  obtain⟨t0,t1⟩:=ho.tgt hk;obtain⟨i,hi⟩:=Q0m t0;have hlt:i<P.progs.length:=by omega
  obtain⟨g,hg⟩:∃g,P.progs[i]? = some g:=⟨P.progs[i],QYN hlt⟩;have hga:(P.progs.map QW)[i]? = some (.agg g.cells):=by simp[hg,QW]
  have hq:Jo P o.target=g:=by unfold Jo;rw[hi,QZ8,hg];rfl
  have h2:=hm g (QYY hg) v hv;rw[e0,QE]at h2;simp only[QW,PG.cells]at h2;simp only[PG.cells]at hga;rw[QYS hk,hq];simp only[b,hi,Qj,QZ8,Qd,hga,hw,eE,seval];refine aC h2 ?_;simp only[Qa,seval]
 ·have b:(o.kind==10)=false:=by simp[hk]
  rw[QYR hk];simp only[b,eE,seval];refine aC h1 ?_;simp only[Qa,seval]

end

section pairs
variable (L:List (V×V))(hl:L.length≤maxLen)(p:V×V→Bool)(c:Nat)(cap:AV)(m:Qk)

def QSv (k:Nat)(st:St):Prop :=
 ∃f i,st=⟨f,Qc :: m,[]⟩∧k=L.length-i∧QS p L 0=QS p (L.drop i) i∧f 0=.list (L.map V.pav)∧f 1=.fn (.func c) [] [cap.sh]∧f 7=.int .i64 (L.length:Nat)∧f 8=.int .i64 (i:Nat)

include hl in
theorem QSw (hc:∀o∈L,Qf Tryz.prog c [V.pav o,cap.sh] (Qc :: m) fun y m1=>y=.bool (p o)∧m1=Qc :: m) :
  Qf Tryz.prog 254 [.list (L.map V.pav),.fn (.func c) [] [cap]] m fun y m1=>y=.int .i64 (QS p L 0)∧m1=m:=by
 refine Qki.go (by simp) ?_;simp only[QZ5,Qa,seval];refine Qe (QSv L p c cap m) _ ⟨_,0,rfl,rfl,rfl,rfl,rfl,rfl,rfl⟩ ?_;rintro _ st ⟨f,i,rfl,rfl,hx,h0,h1,h7,h8⟩;simp only[h7,h8,Qa,seval];by_cases hlt:i<L.length
 ·obtain⟨x,hi⟩:∃x,L[i]? = some x:=⟨L[i],QYN hlt⟩;have hcl:=hc x (QYY hi);have hg:=Yo hi;have e1:=Ql i _ hlt hl;rw[ZO]at hcl;simp only[Qw hlt,Qj,QZ8,Qd,hg,h0,h1,h8,eE,seval];refine Xa (fa:=[]) (fb:=[cap.sh]) rfl hcl (by simp only[QZh,QZG,QY6,QY5,Qa,seval]) ?_;rw[XD p hi]at hx;cases hp:p x
  ·rw[hp]at hx;simp only[QY3,if_false]at hx;simp only[h8,e1,Qa,seval];exact⟨L.length-(i+1),by omega,_,i+1,rfl,rfl,hx,h0,h1,h7,rfl⟩
  ·rw[hp]at hx;simp only[if_true]at hx;simp only[hx,Qa,seval]
 ·have hx':QS p L 0 = -1:=by rw[hx,QZm (by omega)];rfl
  simp only[Qy hlt,hx',Qa,seval]

include hl in
theorem QDp (hc:∀o∈L,Qf Tryz.prog c [V.pav o,cap.sh.sh] (Qc :: Qc :: m) fun y m1=>y=.bool (p o)∧m1=Qc :: Qc :: m) :
  Qf Tryz.prog 223 [.list (L.map V.pav),.fn (.func c) [] [cap]] m fun y m1=>y=.bool (L.any p)∧m1=m:=by
 refine Qj6.go (by simp) ?_;simp only[Qa,seval];refine Qb (QSw L hl p c cap.sh _ hc) (by simp only[QZh,QZG,Qa,seval]) ?_;simp only[Yv,Qa,seval]

end pairs

section slots
variable (L:List (Int×V))(hl:L.length≤maxLen)(p:Int×V→Bool)(c:Nat)(cap:AV)(m:Qk)

def QSx (k:Nat)(st:St):Prop :=
 ∃f i,st=⟨f,Qc :: m,[]⟩∧k=L.length-i∧QS p L 0=QS p (L.drop i) i∧f 0=.list (L.map V.sav)∧f 1=.fn (.func c) [] [cap.sh]∧f 7=.int .i64 (L.length:Nat)∧f 8=.int .i64 (i:Nat)

include hl in
theorem QSy (hc:∀o∈L,Qf Tryz.prog c [V.sav o,cap.sh] (Qc :: m) fun y m1=>y=.bool (p o)∧m1=Qc :: m) :
  Qf Tryz.prog 118 [.list (L.map V.sav),.fn (.func c) [] [cap]] m fun y m1=>y=.int .i64 (QS p L 0)∧m1=m:=by
 refine Qh3.go (by simp) ?_;simp only[QZ5,Qa,seval];refine Qe (QSx L p c cap m) _ ⟨_,0,rfl,rfl,rfl,rfl,rfl,rfl,rfl⟩ ?_;rintro _ st ⟨f,i,rfl,rfl,hx,h0,h1,h7,h8⟩;simp only[h7,h8,Qa,seval];by_cases hlt:i<L.length
 ·obtain⟨x,hi⟩:∃x,L[i]? = some x:=⟨L[i],QYN hlt⟩;have hcl:=hc x (QYY hi);have hg:=WY hi;have e1:=Ql i _ hlt hl;rw[Jw]at hcl;simp only[Qw hlt,Qj,QZ8,Qd,hg,h0,h1,h8,eE,seval];refine Xa (fa:=[]) (fb:=[cap.sh]) rfl hcl (by simp only[QZh,QZG,QY6,QY5,Qa,seval]) ?_;rw[XD p hi]at hx;cases hp:p x
  ·rw[hp]at hx;simp only[QY3,if_false]at hx;simp only[h8,e1,Qa,seval];exact⟨L.length-(i+1),by omega,_,i+1,rfl,rfl,hx,h0,h1,h7,rfl⟩
  ·rw[hp]at hx;simp only[if_true]at hx;simp only[hx,Qa,seval]
 ·have hx':QS p L 0 = -1:=by rw[hx,QZm (by omega)];rfl
  simp only[Qy hlt,hx',Qa,seval]

include hl in
theorem v64 (hc:∀o∈L,Qf Tryz.prog c [V.sav o,cap.sh.sh] (Qc :: Qc :: m) fun y m1=>y=.bool (p o)∧m1=Qc :: Qc :: m) :
  Qf Tryz.prog 64 [.list (L.map V.sav),.fn (.func c) [] [cap]] m fun y m1=>y=.bool (L.any p)∧m1=m:=by
 refine k64.go (by simp) ?_;simp only[Qa,seval];refine Qb (QSy L hl p c cap.sh _ hc) (by simp only[QZh,QZG,Qa,seval]) ?_;simp only[Yv,Qa,seval]

end slots

theorem Ju {M:Nat}{v:V}(h:v.ok M):v.bits<18446744073709551616:=by
 have:=Ry h.bits;omega

section
variable {M:Nat}{P:PL}(hP:P.ok M)(hM:M≤140737488351232){m:PG→V→Int}{lv:Int}(o:PO)(ho:UO P o)(h5:o.card=5)(ps:List (V×V))(hn:ps.length≤maxLen)(hk:∀x∈ps,x.1.ok M)(hv:∀x∈ps,x.2.ok M)

theorem QSz {k:Int}(kk:ZF k)(q p:V×V)(hq:q.1.one P k (-1)=0)(hp:p.1.one P k (-1)=0)(bq:q.1.ok M)(bp:p.1.ok M)(frO:Nat→Ob)(hf:∀c,V.pav p=.agg c→frO 10=.cells c) :
  Qf Tryz.prog 229 [V.pav q,.ptr 2 10 0] [Qc,Qc,frO] fun y m1=>y=.bool (Ko q.1 p.1)∧m1=[Qc,Qc,frO]:=by
 have h:=Ib k kk q.1.bits p.1.bits q.1.text p.1.text;have hf:=hf _ (ZO p);rw[←(K2 hq).1,←(K2 hp).1,Fk kk hq hp (Ju bq) (Ju bp),QE,QE]at h;rw[ZO];refine Qkn.go (by simp) ?_;simp only[hf,eE,seval];refine aC h ?_;simp only[Qa,seval]

def EnI (m:PG→V→Int)(P:PL)(lv:Int)(o:PO)(ps:List (V×V))(k:Nat)(st:St):Prop :=
 ∃f fr i,st=⟨f,[fr],[]⟩∧k=ps.length-i∧Xj (J3 m P o ps) ps.length 0=Xj (J3 m P o ps) (ps.length-i) i∧(∀j y,j<i→ps[j]? = some y→y.1.one P o.key (-1)=0)∧f 2=.list (ps.map V.pav)∧f 3=.int .i64 lv∧f 4=.ptr 0 4 0∧f 5=.ptr 0 5 0∧f 13=.list (ps.map V.pav)∧f 14=.int .i64 (ps.length:Nat)∧f 15=.int .i64 (i:Nat)∧fr 4=.cells [.list (P.progs.map QW),.list (P.enums.map Xw)]∧fr 5=.cells o.cells∧∀s∈[10],(fr s).isRow=false

include hP ho h5 hn hk hv in
theorem QSA (hel:∀v:V,v.ok M→Qi Tryz.prog 172 [P.av,Xv o,v.av,.int .i64 lv] (.int .i64 (Xt m P o v))) :
  Qi Tryz.prog 173 [P.av,Xv o,.list (ps.map V.pav),.int .i64 lv] (.int .i64 (Xj (J3 m P o ps) ps.length 0)):=by
 have e0:P.av=.agg [.list (P.progs.map QW),.list (P.enums.map Xw)]:=rfl;have kk:=ho.key h5;refine Qj1.fn (by simp) ?_;simp only[e0,Xv,PO.cells,QZ5,eE,seval];refine Qe (EnI m P lv o ps) _ ⟨_,_,0,rfl,rfl,rfl,(by intro j y h;omega),rfl,rfl,rfl,rfl,rfl,rfl,rfl,rfl,rfl,by simp<;>rfl⟩ ?_;rintro _ st ⟨f0,fr0,i,rfl,rfl,hx,hks,h20,h30,h40,h50,h130,h140,h150,m40,m50,HG⟩;refine QH (a:=_) [10] HG ?_;intro f fr hf hm hn10;have h2:f 2=.list (ps.map V.pav):=by rw[hf,h20]<;>rfl
 have h3:f 3=.int .i64 lv:=by rw[hf,h30]<;>rfl
 have h4:f 4=.ptr 0 4 0:=by rw[hf,h40]<;>rfl
 have h5':f 5=.ptr 0 5 0:=by rw[hf,h50]<;>rfl
 have h13:f 13=.list (ps.map V.pav):=by rw[hf,h130]<;>rfl
 have h14:f 14=.int .i64 (ps.length:Nat):=by rw[hf,h140]<;>rfl
 have h15:f 15=.int .i64 (i:Nat):=by rw[hf,h150]<;>rfl
 have m4:fr 4=.cells [.list (P.progs.map QW),.list (P.enums.map Xw)]:=by rw[hm 4 (by decide),m40]<;>rfl
 have m5:fr 5=.cells o.cells:=by rw[hm 5 (by decide),m50]<;>rfl
 have n10:=hn10 10 (by decide);clear hf hm hn10 h20 h30 h40 h50 h130 h140 h150 m40 m50 HG;have m5':=m5;simp only[PO.cells]at m5;simp only[h14,h15,Qa,seval];by_cases hlt:i<ps.length
 ·obtain⟨x,hi⟩:∃x,ps[i]? = some x:=⟨ps[i],QYN hlt⟩;have hxm:=QYY hi;have hg:=Yo hi;have e1:=Ql i _ hlt hn;have hle:(i≤ps.length)=True:=eq_true (by omega);have c1:=QaI hP o.key (-1) (hk x hxm);have c2:=hel x.2 (hv x hxm);rw[e0,QE]at c1 c2;simp only[Xv,PO.cells]at c2;simp only[Qw hlt,Qj,QZ8,Qd,hg,n10,h4,h5',h13,h15,m4,m5,eE,seval];refine aC c1 ?_;by_cases hz:x.1.one P o.key (-1)=0
  ·have d0:((0:Int) != 0)=false:=rfl;have hcl:=fun(fr:Nat→Ob) (h10:∀c,V.pav x=.agg c→fr 10=.cells c)=>QDp (ps.take i) (by rw[QZC];omega) (fun q=>Ko q.1 x.1) 229 (.ptr 0 10 0) [fr] fun q hq=>by
    obtain⟨j,hj⟩:=QYW.1 hq;have hlj:=(QYM.1 hj).1;rw[QZC]at hlj;rw[QZo,QYS (by omega)]at hj;exact QSz kk q x (hks j q (by omega) hj) hz (hk q (QYY hj)) (hk x hxm) fr h10
   simp only[hz,d0,h2,Jx,Zm,Xg,Q0g,QZ5,Qj,QZ8,QYT,QYK,hle,true_or,QZY,←QZq,Qa,seval];refine Qb (hcl _ (fun c hc=>by rw[ZO]at hc;cases hc;exact rfl)) (by simp only[QZh,QZG,Qa,seval]<;>rfl) ?_;cases ha:(ps.take i).any (fun q=>Ko q.1 x.1)
   ·have he:J3 m P o ps i=Xt m P o x.2:=by rw[Yw hi,QYS hz,ha,QYR (by simp)]
    simp only[h3,h4,h5',m4,m5,eE,seval];refine aC c2 ?_;by_cases hy:Xt m P o x.2=0
    ·rw[Wd hlt (he.trans hy)]at hx;simp only[hy,d0,h15,e1,Qa,seval];refine⟨ps.length-(i+1),by omega,_,_,i+1,rfl,rfl,hx,?_,h2,h3,h4,h5',h13,h14,rfl,m4,m5',by simp<;>rfl⟩;intro j y hj hjy;by_cases e:j=i
     ·subst e;rw[hi]at hjy;cases hjy;exact hz
     ·exact hks j y (by omega) hjy
    ·rw[Jn hlt he hy]at hx;have d1:(Xt m P o x.2 != 0)=true:=by simp[hy]
     simp only[d1,hx,Qa,seval]
   ·rw[Jn hlt (v:=9) (by rw[Yw hi,QYS hz,ha,QYS rfl]) (by decide)]at hx;simp only[hx,Qa,seval]
  ·rw[Jn hlt ((Yw hi).trans (QYR hz)) hz]at hx;have d1:(x.1.one P o.key (-1) != 0)=true:=by simp[hz]
   simp only[d1,hx,Qa,seval]
 ·rw[Kn hlt]at hx;simp only[Qy hlt,hx,Qa,seval]

end

section
variable {M:Nat}{P:PL}(hP:P.ok M)(hM:M≤140737488351232){m:PG→V→Int}{lv:Int}(o:PO)(ho:UO P o)(v:V)(hv:v.ok M)

include hv in
theorem PA:Qi Tryz.prog 62 [v.av] (.bool v.oth):=by
 rw[U6];exact z62 _ _ _ _ _ _ _ (by have:=hv.ns;simp;omega) (by have:=hv.nr;simp;omega)

def FiI (m:PG→V→Int)(P:PL)(lv:Int)(o:PO)(v:V)(k:Nat)(st:St):Prop :=
 ∃f fr i,st=⟨f,[fr],[]⟩∧k=v.list.length-i∧Xj (WR m P o v.list) v.list.length 0=Xj (WR m P o v.list) (v.list.length-i) i∧f 3=.int .i64 lv∧f 4=.ptr 0 4 0∧f 5=.ptr 0 5 0∧f 24=.list (v.list.map V.av)∧f 25=.int .i64 (v.list.length:Nat)∧f 26=.int .i64 (i:Nat)∧fr 4=.cells [.list (P.progs.map QW),.list (P.enums.map Xw)]∧fr 5=.cells o.cells∧∀s∈[10],(fr s).isRow=false

include hP ho hv in
theorem QSB (hel:∀v:V,v.ok M→Qi Tryz.prog 172 [P.av,Xv o,v.av,.int .i64 lv] (.int .i64 (Xt m P o v))) :
  Qi Tryz.prog 117 [P.av,Xv o,v.av,.int .i64 lv] (.int .i64 (Zq m P o v)):=by
 have e0:P.av=.agg [.list (P.progs.map QW),.list (P.enums.map Xw)]:=rfl;have co:=PA v hv;have ce:=fun h5=>QSA hP o ho h5 v.pairs (by have:=hv.np;simp only[maxLen];omega) hv.keys hv.vals hel
 have cv:=hel v hv;rw[e0,QE]at cv;rw[QE]at co;simp only[e0,Xv,PO.cells]at ce cv;rw[QE];refine Qil.fn (by simp) ?_;simp only[e0,Xv,PO.cells,eE,seval];unfold Zq;by_cases h4:o.card=4
 ·have b4:(o.card==4)=true:=by simp[h4]
  have n5:¬o.card=5:=by omega
  rw[QYR n5,QYS h4];simp only[b4,eE,seval];cases a1:(v.kd != 11)
  ·simp only[Q0s,eE,seval];refine aC co ?_;cases a2:v.oth
   ·simp only[QY3,QZ5,eE,seval];refine Qe (FiI m P lv o v) _ ⟨_,_,0,rfl,rfl,rfl,rfl,rfl,rfl,rfl,rfl,rfl,rfl,rfl,by simp<;>rfl⟩ ?_;rintro _ st ⟨f0,fr0,i,rfl,rfl,hx,h30,h40,h50,h240,h250,h260,m40,m50,HG⟩;refine QH (a:=_) [10] HG ?_;intro f fr hf hm hn10;have h3:f 3=.int .i64 lv:=by rw[hf,h30]<;>rfl
    have h4:f 4=.ptr 0 4 0:=by rw[hf,h40]<;>rfl
    have h5:f 5=.ptr 0 5 0:=by rw[hf,h50]<;>rfl
    have h24:f 24=.list (v.list.map V.av):=by rw[hf,h240]<;>rfl
    have h25:f 25=.int .i64 (v.list.length:Nat):=by rw[hf,h250]<;>rfl
    have h26:f 26=.int .i64 (i:Nat):=by rw[hf,h260]<;>rfl
    have m4:fr 4=.cells [.list (P.progs.map QW),.list (P.enums.map Xw)]:=by rw[hm 4 (by decide),m40]<;>rfl
    have m5:fr 5=.cells o.cells:=by rw[hm 5 (by decide),m50]<;>rfl
    have n10:=hn10 10 (by decide);clear hf hm hn10 h30 h40 h50 h240 h250 h260 m40 m50 HG;have m5':=m5;simp only[PO.cells]at m5;simp only[h25,h26,Qa,seval];by_cases hlt:i<v.list.length
    ·obtain⟨x,hi⟩:∃x,v.list[i]? = some x:=⟨v.list[i],QYN hlt⟩;have hg:=H5 hi;have e1:=Ql i _ hlt (by have:=hv.nl;simp only[maxLen];omega);have c2:=hel x (hv.list x (QYY hi));rw[e0,QE]at c2;simp only[Xv,PO.cells]at c2;simp only[Qw hlt,Qj,QZ8,Qd,hg,n10,h3,h4,h5,h24,h26,m4,m5,eE,seval];refine aC c2 ?_;by_cases hy:Xt m P o x=0
     ·rw[Wd hlt ((Yx hi).trans hy)]at hx;have d0:((0:Int) != 0)=false:=rfl;simp only[hy,d0,h26,e1,Qa,seval];exact⟨v.list.length-(i+1),by omega,_,_,i+1,rfl,rfl,hx,h3,h4,h5,h24,h25,rfl,m4,m5',by simp<;>rfl⟩
     ·rw[Jn hlt (Yx hi) hy]at hx;have d1:(Xt m P o x != 0)=true:=by simp[hy]
      simp only[d1,hx,Qa,seval]
    ·rw[Kn hlt]at hx;simp only[Qy hlt,hx,Qa,seval]
   ·simp only[Qa,seval]
  ·simp only[Q0r,Qa,seval]
 ·have b4:(o.card==4)=false:=by simp[h4]
  by_cases h5:o.card=5
  ·have b5:(o.card==5)=true:=by simp[h5]
   rw[QYS h5];simp only[b4,b5,eE,seval];cases a1:(v.kd != 12)
   ·simp only[Q0s,eE,seval];refine aC co ?_;cases a2:v.oth
    ·simp only[QY3,eE,seval];refine aC (ce h5) ?_;simp only[Qa,seval]
    ·simp only[Qa,seval]
   ·simp only[Q0r,Qa,seval]
  ·have b5:(o.card==5)=false:=by simp[h5]
   rw[QYR h5,QYR h4];simp only[b4,b5,eE,seval];refine aC cv ?_;simp only[Qa,seval]

end

theorem Ic {fr:Nat→Ob}{a b:Nat}(h1:(fr a).isRow=false)(h2:(fr b).isRow=false):∀s∈[a,b],(fr s).isRow=false:=by
 intro s hs;simp only[QZ0,Q0Q,or_false]at hs;rcases hs with rfl|rfl
 ·exact h1
 ·exact h2

theorem Hb {g:PG}{n:Int}{o:PO}(h:X4 g n=some o):o∈g.ops∧o.num=n:=by
 unfold X4 at h;exact⟨Q0B h,by simpa using Q0C h⟩

theorem Fl (g:PG)(n:Int):CR (fun o=>o.num==n) g.ops=.tup [Xv ((X4 g n).getD G7),.bool (X4 g n).isSome]:=rfl

section
variable {M:Nat}{P:PL}(hP:P.ok M)(hM:M≤140737488351232){m:PG→V→Int}{lv:Int}(g:PG)(hg:g.ok M)(hu:∀o∈g.ops,UO P o)(sl:List (Int×V))(hn:sl.length≤maxLen)(i:Nat)(hi:i<sl.length)(hv:∀x∈sl,x.2.ok M)

theorem QSC (y:Int×V)(o:PO)(frO:Nat→Ob)(hf:frO 11=.cells o.cells) :
  Qf Tryz.prog 116 [V.sav y,.ptr 2 11 0] [Qc,Qc,frO] fun v m1=>v=.bool (y.1==o.num)∧m1=[Qc,Qc,frO]:=by
 simp only[PO.cells]at hf;rw[Jw];refine Qnm.go (by simp) ?_;simp only[hf,eE,seval]

def SlI (P:PL)(lv:Int)(g:PG)(o:PO)(sl:List (Int×V))(i:Nat)(k:Nat)(st:St):Prop :=
 ∃f fr j,st=⟨f,[fr],[]⟩∧k=i-j∧j≤i∧(sl.take j).any (Jv g o)=false∧f 2=.list (sl.map V.sav)∧f 3=.int .i64 (i:Nat)∧f 4=.int .i64 lv∧f 5=.ptr 0 5 0∧f 6=.ptr 0 6 0∧f 11=.ptr 0 11 0∧f 36=.list ((sl.take i).map V.sav)∧f 37=.int .i64 (i:Nat)∧f 38=.int .i64 (j:Nat)∧fr 5=.cells [.list (P.progs.map QW),.list (P.enums.map Xw)]∧fr 6=.cells g.cells∧fr 11=.cells o.cells∧∀s∈[15,14],(fr s).isRow=false

include hg hn hi hv in
theorem v63 (hfi:∀o∈g.ops,∀v:V,v.ok M→Qi Tryz.prog 117 [P.av,Xv o,v.av,.int .i64 lv] (.int .i64 (Zq m P o v))) :
  Qi Tryz.prog 63 [P.av,QW g,.list (sl.map V.sav),.int .i64 (i:Nat),.int .i64 lv] (.int .i64 (XB m P g sl i)):=by
 have e0:P.av=.agg [.list (P.progs.map QW),.list (P.enums.map Xw)]:=rfl;obtain⟨x,hx⟩:∃x,sl[i]? = some x:=⟨sl[i],QYN hi⟩;have hxm:=QYY hx;have hgi:=WY hx;have co:=fun n=>y30 g hg.len n
 simp only[Fl]at co;have co1:=co x.1;have hle:(i≤sl.length)=True:=eq_true (by omega);have hlen:(sl.take i).length=i:=by rw[QZC];omega
 unfold XB;rw[hx];dsimp only;simp only[QW,PG.cells]at co co1;refine k63.fn (by simp) ?_;simp only[e0,QW,PG.cells,Qj,QZ8,Qd,hgi,QZi,QZs,eE,seval];refine aC co1 ?_;cases ho:X4 g x.1 with
 |none=>
  simp only[Q0g,QZy,G7,Xv,PO.cells,splice,QZO,QY6,QZl,QZU,QZI,QYZ,QZR,QZS,List.all_nil,AV.leaf,eE,seval]
 |some o=>
  obtain⟨hom,hon⟩:=Hb ho;have hcl:=fun(fr:Nat→Ob) (h11:fr 11=.cells o.cells)=>v64 (sl.take i) (by omega) (fun y=>y.1==o.num) 116 (.ptr 0 11 0) [fr] fun y _=>QSC y o fr h11
  rw[hon]at hcl;simp only[PO.cells]at hcl;simp only[QZQ,Q0v,Xv,PO.cells,splice,QZO,QY6,QZl,QZs,QZU,QZI,QYZ,QZR,QZS,List.all_nil,AV.leaf,Jx,Zm,Xg,Q0g,QZ5,Qj,QZ8,QYT,QYK,hle,true_or,QZY,←QZq,eE,seval];refine Qb (hcl _ rfl) (by simp only[QZh,QZG,Qa,seval]<;>rfl) ?_;cases ha:(sl.take i).any (fun y=>y.1==x.1)
  ·simp only[QY3,Jx,Zm,Xg,Q0g,QZ5,Qj,QZ8,QYT,QYK,hle,true_or,QZY,←QZq,hlen,Qa,seval];refine Qe (SlI P lv g o sl i) _ ⟨_,_,0,rfl,rfl,QYT _,by simp,rfl,rfl,rfl,rfl,rfl,rfl,rfl,rfl,rfl,rfl,rfl,rfl,Ic rfl rfl⟩ ?_;rintro _ st ⟨f0,fr0,j,rfl,rfl,hji,hq,h20,h30,h40,h50,h60,h110,h360,h370,h380,m50,m60,m110,r15⟩;refine QH (a:=_) [15,14] r15 ?_;intro f fr hf hm hn15;have h2:f 2=.list (sl.map V.sav):=by rw[hf,h20]<;>rfl
   have h3:f 3=.int .i64 (i:Nat):=by rw[hf,h30]<;>rfl
   have h4:f 4=.int .i64 lv:=by rw[hf,h40]<;>rfl
   have h5:f 5=.ptr 0 5 0:=by rw[hf,h50]<;>rfl
   have h6:f 6=.ptr 0 6 0:=by rw[hf,h60]<;>rfl
   have h11:f 11=.ptr 0 11 0:=by rw[hf,h110]<;>rfl
   have h36:f 36=.list ((sl.take i).map V.sav):=by rw[hf,h360]<;>rfl
   have h37:f 37=.int .i64 (i:Nat):=by rw[hf,h370]<;>rfl
   have h38:f 38=.int .i64 (j:Nat):=by rw[hf,h380]<;>rfl
   have m5:fr 5=.cells [.list (P.progs.map QW),.list (P.enums.map Xw)]:=by rw[hm 5 (by decide),m50]<;>rfl
   have m6:fr 6=.cells g.cells:=by rw[hm 6 (by decide),m60]<;>rfl
   have m11:fr 11=.cells o.cells:=by rw[hm 11 (by decide),m110]<;>rfl
   have n15:=hn15 15 (by decide);have n14:=hn15 14 (by decide);clear hf hm hn15 h20 h30 h40 h50 h60 h110 h360 h370 h380 m50 m60 m110 r15;have m6':=m6;have m11':=m11;simp only[PG.cells]at m6;simp only[PO.cells]at m11;simp only[h37,h38,Qa,seval];by_cases hlt:j<i
   ·obtain⟨y,hj⟩:∃y,sl[j]? = some y:=⟨sl[j]'(by omega),QYN (by omega)⟩;have hj':(sl.take i)[j]? = some y:=by rw[QZo,QYS hlt];exact hj
    have hgj:=WY hj';have e1:=Ql j i hlt (by omega);have co2:=co y.1;have ht:(sl.take (j+1)).any (Jv g o)=Jv g o y:=by
     rw[Q0j,hj,List.any_append,hq];simp
    have hun:Jv g o y=(o.union != -1&&(((X4 g y.1).getD G7).union==o.union)):=rfl;simp only[Qw hlt,Qj,QZ8,Qd,hgj,n14,h6,h36,h38,m6,eE,seval];refine aC co2 ?_;generalize (X4 g y.1).getD G7=q at hun;generalize (X4 g y.1).isSome=qb;have fin:∀(f':Fr) (fr':Nat→Ob),Jv g o y=false→f' 2=.list (sl.map V.sav)→f' 3=.int .i64 (i:Nat)→f' 4=.int .i64 lv→f' 5=.ptr 0 5 0→f' 6=.ptr 0 6 0→f' 11=.ptr 0 11 0→f' 36=.list ((sl.take i).map V.sav)→f' 37=.int .i64 (i:Nat)→f' 38=.int .i64 ((j+1:Nat):Int)→fr' 5=.cells [.list (P.progs.map QW),.list (P.enums.map Xw)]→fr' 6=.cells g.cells→fr' 11=.cells o.cells→(∀s∈[15,14],(fr' s).isRow=false)→∃k,k<i-j∧SlI P lv g o sl i k ⟨f',[fr'],[]⟩:=by
     intro f' fr' hu b2 b3 b4 b5 b6 b11 b36 b37 b38 c5 c6 c11 c15;exact⟨i-(j+1),by omega,f',fr',j+1,rfl,rfl,by omega,by rw[ht,hu],b2,b3,b4,b5,b6,b11,b36,b37,b38,c5,c6,c11,c15⟩
    cases a1:(o.union != -1)
    ·rw[a1,Q0c]at hun;simp only[Xv,PO.cells,a1,n15,h11,h38,m11,e1,eE,seval];exact fin _ _ hun h2 h3 h4 h5 h6 h11 h36 h37 rfl m5 m6' m11' (Ic rfl rfl)
    ·cases a2:(q.union==o.union)
     ·rw[a1,a2,Q0p]at hun;simp only[Xv,PO.cells,a1,a2,n15,h11,h38,m11,e1,eE,seval];exact fin _ _ hun h2 h3 h4 h5 h6 h11 h36 h37 rfl m5 m6' m11' (Ic rfl rfl)
     ·rw[a1,a2,Q0p]at hun;have hany:(sl.take i).any (Jv g o)=true:=Q0A.2 ⟨y,QYY hj',hun⟩;rw[hany];simp only[Xv,PO.cells,a1,a2,n15,h11,m11,eE,seval]
   ·have e:j=i:=by omega
    subst e;have cf:=hfi o hom x.2 (hv x hxm);rw[e0,QE]at cf;simp only[Xv,PO.cells]at cf;rw[hq];simp only[Qy hlt,QY3,Qj,QZ8,Qd,hgi,QZi,QZl,QZs,h2,h3,h4,h5,h11,m5,m11,eE,seval];refine aC cf ?_;simp only[Qa,seval]
  ·simp only[Qa,seval]

end

def K3 (P:PL)(o:PO)(f:R):Bool:=o.kind==9&&o.card != 5&&f.wire==0&&decide ((f.bits:Int)≤2147483647) && !Wc P.enums o.target f.bits
theorem Vo (P:PL)(g:PG)(f:R):(!Dd P g f)=((X4 g f.num).isSome && !K3 P ((X4 g f.num).getD G7) f):=by
 unfold Dd K3;cases X4 g f.num<;>rfl
def Ie (f:R):Bool:=decide (f.num<1)||decide (f.num > 65535)||decide (f.wire<0)||decide (f.wire > 6)
def Ig (f:R):Bool:=decide (f.wire≤2) && !(f.data==[])||decide (f.wire > 2) && !((f.bits:Int)==0)
def Ih (f:R):Bool:=f.wire==3&&decide ((f.data.length:Int) > 4096)||decide ((f.data.length:Int) > 65536)
theorem Mg (P:PL)(g:PG)(f:R):Wj P g f=if Ie f=true then 1 else if Ig f=true then 1 else if (!Dd P g f)=true then 1 else if Ih f=true then 3 else 0:=rfl
section
variable {M:Nat}{P:PL}(hP:P.ok M)

include hP in
theorem Ii (o:PO)(w:R)(n7 n9:Bool)(f:Fr)(fr:Nat→Ob)(h3:f 3=.ptr 0 3 0)(h5:f 5=.ptr 0 5 0)(h7:f 7=.bool n7)(h8:f 8=.ptr 0 8 0)(h9:f 9=.bool n9)
  (m3:fr 3=.cells [.list (P.progs.map QW),.list (P.enums.map Xw)]) (m5:fr 5=.cells [.int .i64 w.num,.int .i64 w.wire,.int .u64 (w.bits:Nat),.str w.data]) (m8:fr 8=.cells o.cells) (Q:St→Prop)
  (hQ:∀f,f 5=.ptr 0 5 0→f 7=.bool n7→f 9=.bool n9→f 10=.bool (K3 P o w)→Q ⟨f,[fr],[]⟩):Qq Tryz.prog YX ⟨f,[fr],[]⟩ Q:=by
 have e0:P.av=.agg [.list (P.progs.map QW),.list (P.enums.map Xw)]:=rfl;have ha:=QC0 P hP o.target w.bits;rw[e0]at ha;simp only[PO.cells]at m8;unfold K3 at hQ;cases a1:(o.kind==9)
 ·rw[a1]at hQ;simp only[Q0c]at hQ;simp only[YX,a1,h8,m8,eE,seval];exact hQ _ h5 h7 h9 rfl
 cases a2:(o.card != 5)
 ·rw[a1,a2]at hQ;simp only[Q0p,Q0c]at hQ;simp only[YX,a1,a2,h8,m8,eE,seval];exact hQ _ h5 h7 h9 rfl
 cases a3:(w.wire==0)
 ·rw[a1,a2,a3]at hQ;simp only[Q0p,Q0c]at hQ;simp only[YX,a1,a2,a3,h5,h8,m5,m8,eE,seval];exact hQ _ h5 h7 h9 rfl
 cases a4:decide ((w.bits:Int)≤2147483647)
 ·rw[a1,a2,a3,a4]at hQ;simp only[Q0p,Q0c]at hQ;simp only[YX,a1,a2,a3,a4,h5,h8,m5,m8,eE,seval];exact hQ _ h5 h7 h9 rfl
 rw[a1,a2,a3,a4]at hQ;simp only[Q0p]at hQ;simp only[YX,a1,a2,a3,a4,h3,h5,h8,m3,m5,m8,eE,seval];refine aC ha ?_;simp only[Qa,seval];exact hQ _ h5 h7 h9 rfl

include hP in
theorem v66 (g:PG)(hg:g.ok M)(w:R):Qi Tryz.prog 66 [P.av,QW g,w.av] (.int .i64 (Wj P g w)):=by
 have e0:P.av=.agg [.list (P.progs.map QW),.list (P.enums.map Xw)]:=rfl;have co:=y30 g hg.len w.num;rw[Fl]at co;simp only[QW,PG.cells]at co;have nd:(w.data != [])=!(w.data==[]):=rfl;have nb:((w.bits:Int) != 0)=!((w.bits:Int)==0):=rfl;have hgt:decide (w.wire > 2)=!decide (w.wire≤2):=(by rw[QZB];simp only[QZ2,QZD,Q0E];omega);rw[Mg,Vo];unfold Ie Ig Ih;rw[hgt];refine k66.fn (by simp) ?_;simp only[r66,IW,IX,IY,o66,e0,QW,PG.cells,R.av,eE,seval];refine aC co ?_;generalize (X4 g w.num).getD G7=q;generalize (X4 g w.num).isSome=kb;simp only[Xv,PO.cells,splice,QZO,QY6,QZl,QZU,QZI,QYZ,QZR,QZS,List.all_nil,AV.leaf,eE,seval];refine Ii hP q w (decide (w.wire≤2)) kb _ _ rfl rfl rfl rfl rfl rfl rfl rfl _ (fun f h5 h7 h9 h10=>?_);generalize K3 P q w=K at h10 ⊢;simp only[IZ,h5,eE,seval];cases r1:decide (w.num<1)
 case true=>simp only[GT,Q0r,Qa,seval]
 cases r2:decide (w.num > 65535)
 case true=>simp only[r2,GT,Q0r,Q0s,h5,eE,seval]
 cases r3:decide (w.wire<0)
 case true=>simp only[r2,r3,GT,Q0r,Q0s,h5,eE,seval]
 cases r4:decide (w.wire > 6)
 case true=>simp only[r2,r3,r4,GT,Q0s,h5,eE,seval]
 simp only[r2,r3,r4,Q0s,QY3,I0,h5,h7,eE,seval];cases s1:decide (w.wire≤2)
 ·rw[s1]at h7;cases s2:((w.bits:Int)==0)
  ·simp only[s2,nb,GU,QZN,Q0c,Q0s,h5,h7,eE,seval]
  ·cases kb<;>cases K<;>simp only[s2,nb,GU,M7,QZN,Q0q,Q0c,Q0G,Q0s,QY3,h5,h7,h9,h10,eE,seval]
   all_goals(cases t1:(w.wire==3)<;>try simp only[Q0c,Q0p,Q0s,h5,eE,seval])
   all_goals(cases t2:decide ((w.data.length:Int) > 4096)<;>try simp only[M8,Q0s,Q0r,h5,eE,seval])
   all_goals(cases t3:decide ((w.data.length:Int) > 65536)<;>try simp only[Nb,QY3,Qa,seval])
 ·rw[s1]at h7;cases s2:(w.data==[])
  ·simp only[s2,Qs,GU,QZN,Q0q,Q0c,Q0r,h5,eE,seval]
  ·cases kb<;>cases K<;>simp only[s2,Qs,GU,M7,QZN,Q0q,Q0c,Q0G,Q0s,QY3,h5,h7,h9,h10,eE,seval]
   all_goals(cases t1:(w.wire==3)<;>try simp only[Q0c,Q0p,Q0s,h5,eE,seval])
   all_goals(cases t2:decide ((w.data.length:Int) > 4096)<;>try simp only[M8,Q0s,Q0r,h5,eE,seval])
   all_goals(cases t3:decide ((w.data.length:Int) > 65536)<;>try simp only[Nb,QY3,Qa,seval])

theorem v65 (y:Int×V)(o:PO)(frO:Nat→Ob)(hf:frO 12=.cells o.cells) :
  Qf Tryz.prog 65 [V.sav y,.ptr 2 12 0] [Qc,Qc,frO] fun v m1=>v=.bool (y.1==o.num)∧m1=[Qc,Qc,frO]:=by
 simp only[PO.cells]at hf;rw[Jw];refine k65.go (by simp) ?_;simp only[hf,eE,seval]

end

def H6 (sl:List (Int×V))(o:PO):Bool:=o.card==1 && !sl.any fun y=>y.1==o.num
theorem QfT (g:PG)(sl:List (Int×V)):Wk g sl=g.ops.any (H6 sl):=rfl

theorem QDr {l:List R}{i:Nat}{x:R}(h:l[i]? = some x):(l.map R.av)[i]? = some (.agg [.int .i64 x.num,.int .i64 x.wire,.int .u64 (x.bits:Nat),.str x.data]):=by
 rw[QZ3,h,QZa,R.av]
theorem QSD {l:List PO}{i:Nat}{o:PO}(h:l[i]? = some o):(l.map fun o=>AV.agg o.cells)[i]? = some (.agg [.int .i64 o.num,.str o.name,.str o.alias,.int .i64 o.card,.int .i64 o.key,.int .i64 o.kind,.int .i64 o.target,.int .i64 o.union]):=by
 rw[QZ3,h,QZa,PO.cells]

section
variable {M:Nat}{P:PL}(hP:P.ok M){m:PG→V→Int}{lv:Int}(g:PG)(hg:g.ok M)(v:V)(hv:v.ok M)

def MrI (P:PL)(g:PG)(v:V)(k:Nat)(st:St):Prop :=
 ∃f fr i,st=⟨f,[fr],[]⟩∧k=v.raws.length-i∧Xj (JC P g v.raws) v.raws.length 0=Xj (JC P g v.raws) (v.raws.length-i) i∧f 4=.ptr 0 4 0∧f 5=.ptr 0 5 0∧f 63=.list (v.raws.map R.av)∧f 64=.int .i64 (v.raws.length:Nat)∧f 65=.int .i64 (i:Nat)∧fr 4=.cells [.list (P.progs.map QW),.list (P.enums.map Xw)]∧fr 5=.cells g.cells∧∀s∈[14],(fr s).isRow=false

include hP hg hv in
theorem Aa (f:Fr)(fr:Nat→Ob)(h4:f 4=.ptr 0 4 0)(h5:f 5=.ptr 0 5 0)(h63:f 63=.list (v.raws.map R.av))(h64:f 64=.int .i64 (v.raws.length:Nat))(h65:f 65=.int .i64 0)
  (m4:fr 4=.cells [.list (P.progs.map QW),.list (P.enums.map Xw)]) (m5:fr 5=.cells g.cells) (WL:∀s∈[14],(fr s).isRow=false) (Q:Exit→St→Prop)
  (q1:Xj (JC P g v.raws) v.raws.length 0≠0→∀f fr,f 8=.int .i64 (Xj (JC P g v.raws) v.raws.length 0)→Q .ret (⟨f,[fr],[]⟩:St))
  (q2:Xj (JC P g v.raws) v.raws.length 0=0→∀f fr,Q (.exit 5) (⟨f,[fr],[]⟩:St)):QN Tryz.prog (.loop IV) ⟨f,[fr],[]⟩ Q:=by
 have e0:P.av=.agg [.list (P.progs.map QW),.list (P.enums.map Xw)]:=rfl;refine Qe (MrI P g v) _ ⟨f,fr,0,rfl,rfl,rfl,h4,h5,h63,h64,h65,m4,m5,WL⟩ ?_;clear h4 h5 h63 h64 h65 m4 m5 WL;rintro _ st ⟨f0,fr0,i,rfl,rfl,hx,h40,h50,h630,h640,h650,m40,m50,WL⟩;refine QH (a:=_) [14] WL ?_;intro f fr hf hm hn;have h4:f 4=.ptr 0 4 0:=by rw[hf,h40]<;>rfl
 have h5:f 5=.ptr 0 5 0:=by rw[hf,h50]<;>rfl
 have h63:f 63=.list (v.raws.map R.av):=by rw[hf,h630]<;>rfl
 have h64:f 64=.int .i64 (v.raws.length:Nat):=by rw[hf,h640]<;>rfl
 have h65:f 65=.int .i64 (i:Nat):=by rw[hf,h650]<;>rfl
 have m4:fr 4=.cells [.list (P.progs.map QW),.list (P.enums.map Xw)]:=by rw[hm 4 (by decide),m40]<;>rfl
 have m5:fr 5=.cells g.cells:=by rw[hm 5 (by decide),m50]<;>rfl
 have n14:=hn 14 (by decide);clear hf hm hn h40 h50 h630 h640 h650 m40 m50 WL;have m5':=m5;simp only[PG.cells]at m5;simp only[h64,h65,Qa,seval];by_cases hlt:i<v.raws.length
 ·obtain⟨x,hi⟩:∃x,v.raws[i]? = some x:=⟨v.raws[i],QYN hlt⟩;have hgi:=QDr hi;have e1:=Ql i _ hlt (by have:=hv.nr;simp only[maxLen];omega);have c1:=v66 hP g hg x;rw[e0]at c1;simp only[QW,PG.cells,R.av]at c1;simp only[Qw hlt,Qj,QZ8,Qd,hgi,n14,h4,h5,h63,h65,m4,m5,eE,seval];refine aC c1 ?_;by_cases hy:Wj P g x=0
  ·rw[Wd hlt ((WS hi).trans hy)]at hx;have d0:((0:Int) != 0)=false:=rfl;simp only[hy,d0,h65,e1,Qa,seval];exact⟨v.raws.length-(i+1),by omega,_,_,i+1,rfl,rfl,hx,h4,h5,h63,h64,rfl,m4,m5',by simp<;>rfl⟩
  ·rw[Jn hlt (WS hi) hy]at hx;have d1:(Wj P g x != 0)=true:=by simp[hy]
   simp only[d1,Qa,seval];exact q1 (by rw[hx];exact hy) _ _ (by rw[hx];exact rfl)
 ·rw[Kn hlt]at hx;simp only[Qy hlt,Qa,seval];exact q2 hx _ _

def MoI (P:PL)(g:PG)(v:V)(k:Nat)(st:St):Prop :=
 ∃f fr i,st=⟨f,[fr],[]⟩∧k=g.ops.length-i∧i≤g.ops.length∧(g.ops.take i).any (H6 v.slots)=false∧f 4=.ptr 0 4 0∧f 5=.ptr 0 5 0∧f 6=.ptr 0 6 0∧f 45=.list (g.ops.map fun o=>.agg o.cells)∧f 46=.int .i64 (g.ops.length:Nat)∧f 47=.int .i64 (i:Nat)∧fr 4=.cells [.list (P.progs.map QW),.list (P.enums.map Xw)]∧fr 5=.cells g.cells∧fr 6=.cells (vc v)∧∀s∈[12],(fr s).isRow=false

include hg hv in
theorem Ij (f:Fr)(fr:Nat→Ob)(h4:f 4=.ptr 0 4 0)(h5:f 5=.ptr 0 5 0)(h6:f 6=.ptr 0 6 0)(h45:f 45=.list (g.ops.map fun o=>.agg o.cells))(h46:f 46=.int .i64 (g.ops.length:Nat))(h47:f 47=.int .i64 0)
  (m4:fr 4=.cells [.list (P.progs.map QW),.list (P.enums.map Xw)]) (m5:fr 5=.cells g.cells) (m6:fr 6=.cells (vc v)) (HL:∀s∈[12],(fr s).isRow=false) (Q:Exit→St→Prop)
  (q1:Wk g v.slots=true→∀f fr,f 8=.int .i64 14→Q .ret (⟨f,[fr],[]⟩:St))
  (q2:Wk g v.slots=false→∀f fr,f 4=.ptr 0 4 0→f 5=.ptr 0 5 0→f 6=.ptr 0 6 0→fr 4=.cells [.list (P.progs.map QW),.list (P.enums.map Xw)]→fr 5=.cells g.cells→fr 6=.cells (vc v)→fr 14=.none→Q (.exit 3) (⟨f,[fr],[]⟩:St))
  (WL:fr 14=.none):QN Tryz.prog (.loop IU) ⟨f,[fr],[]⟩ Q:=by
 let I:Nat→St→Prop:=fun k st=>MoI P g v k st∧∀f fr,st=⟨f,[fr],[]⟩→fr 14=.none
 have mk:∀k st,MoI P g v k st→∀f fr,st=⟨f,[fr],[]⟩→fr 14=.none→I k st:=fun k st h f fr e n=>⟨h,fun f' fr' e'=>by
  rw[e]at e'
  injection e' with _ e2 _
  injection e2 with e3 _
  rw[←e3];exact n⟩
 refine Qe I _ (mk _ _ ⟨f,fr,0,rfl,rfl,QYT _,by simp,h4,h5,h6,h45,h46,h47,m4,m5,m6,HL⟩ _ _ rfl WL) ?_;clear h4 h5 h6 h45 h46 h47 m4 m5 m6 HL WL;rintro _ st ⟨⟨f0,fr0,i,rfl,rfl,hil,hq,h40,h50,h60,h450,h460,h470,m40,m50,m60,HL⟩,WL⟩;have WL:=WL _ _ rfl;refine QH (a:=_) [12] HL ?_;intro f fr hf hm hn;have h4:f 4=.ptr 0 4 0:=by rw[hf,h40]<;>rfl
 have h5:f 5=.ptr 0 5 0:=by rw[hf,h50]<;>rfl
 have h6:f 6=.ptr 0 6 0:=by rw[hf,h60]<;>rfl
 have h45:f 45=.list (g.ops.map fun o=>.agg o.cells):=by rw[hf,h450]<;>rfl
 have h46:f 46=.int .i64 (g.ops.length:Nat):=by rw[hf,h460]<;>rfl
 have h47:f 47=.int .i64 (i:Nat):=by rw[hf,h470]<;>rfl
 have m4:fr 4=.cells [.list (P.progs.map QW),.list (P.enums.map Xw)]:=by rw[hm 4 (by decide),m40]<;>rfl
 have m5:fr 5=.cells g.cells:=by rw[hm 5 (by decide),m50]<;>rfl
 have m6:fr 6=.cells (vc v):=by rw[hm 6 (by decide),m60]<;>rfl
 have n14:fr 14=.none:=by rw[hm 14 (by decide),WL]<;>rfl
 have n12:=hn 12 (by decide);clear hf hm hn h40 h50 h60 h450 h460 h470 m40 m50 m60 HL WL;have m6':=m6;simp only[vc]at m6;simp only[h46,h47,Qa,seval];by_cases hlt:i<g.ops.length
 ·obtain⟨o,hi⟩:∃o,g.ops[i]? = some o:=⟨g.ops[i],QYN hlt⟩;have hgi:=QSD hi;have e1:=Ql i _ hlt hg.len;have ht:(g.ops.take (i+1)).any (H6 v.slots)=H6 v.slots o:=by
   rw[Q0j,hi,List.any_append,hq];simp
  have hmi:H6 v.slots o=(o.card==1 && !v.slots.any fun y=>y.1==o.num):=rfl;have fin:∀(f':Fr) (fr':Nat→Ob),H6 v.slots o=false→f' 4=.ptr 0 4 0→f' 5=.ptr 0 5 0→f' 6=.ptr 0 6 0→f' 45=.list (g.ops.map fun o=>.agg o.cells)→f' 46=.int .i64 (g.ops.length:Nat)→f' 47=.int .i64 ((i+1:Nat):Int)→fr' 4=.cells [.list (P.progs.map QW),.list (P.enums.map Xw)]→fr' 5=.cells g.cells→fr' 6=.cells (vc v)→(∀s∈[12],(fr' s).isRow=false)→fr' 14=.none→∃k,k<g.ops.length-i∧I k ⟨f',[fr'],[]⟩:=by
   intro f' fr' hu b4 b5 b6 b45 b46 b47 c4 c5 c6 c12 c14;exact⟨g.ops.length-(i+1),by omega,mk _ _ ⟨f',fr',i+1,rfl,rfl,by omega,by rw[ht,hu],b4,b5,b6,b45,b46,b47,c4,c5,c6,c12⟩ _ _ rfl c14⟩
  simp only[Qw hlt,Qj,QZ8,Qd,hgi,n12,h45,h47,eE,seval];cases a1:(o.card==1)
  ·rw[a1,Q0c]at hmi;simp only[h47,e1,Qa,seval];exact fin _ _ hmi h4 h5 h6 h45 h46 rfl m4 m5 m6' (by simp<;>rfl) n14
  ·rw[a1,Q0p]at hmi;have hcl:=fun(fr:Nat→Ob) (h12:fr 12=.cells o.cells)=>v64 v.slots (by have:=hv.ns;simp only[maxLen];omega) (fun y=>y.1==o.num) 65 (.ptr 0 12 0) [fr] fun y _=>v65 y o fr h12
   simp only[PO.cells]at hcl;simp only[h6,m6,eE,seval];refine Qb (hcl _ rfl) (by simp only[QZh,QZG,Qa,seval]<;>rfl) ?_;cases a2:v.slots.any (fun y=>y.1==o.num)
   ·rw[a2]at hmi;have hany:Wk g v.slots=true:=Q0A.2 ⟨o,QYY hi,by show H6 v.slots o=true;rw[hmi];rfl⟩;simp only[Qa,seval];exact q1 hany _ _ rfl
   ·rw[a2]at hmi;simp only[h47,e1,Qa,seval];exact fin _ _ hmi h4 h5 h6 h45 h46 rfl m4 m5 m6' (by simp<;>rfl) n14
 ·have hq':Wk g v.slots=false:=by rw[QfT,←hq,QZj (by omega)]
  simp only[Qy hlt,Qa,seval];exact q2 hq' _ _ h4 h5 h6 m4 m5 m6' n14

def MsI (m:PG→V→Int)(P:PL)(lv:Int)(g:PG)(v:V)(k:Nat)(st:St):Prop :=
 ∃f fr i,st=⟨f,[fr],[]⟩∧k=v.slots.length-i∧Xj (XB m P g v.slots) v.slots.length 0=Xj (XB m P g v.slots) (v.slots.length-i) i∧f 3=.int .i64 lv∧f 4=.ptr 0 4 0∧f 5=.ptr 0 5 0∧f 6=.ptr 0 6 0∧f 29=.int .i64 (v.slots.length:Nat)∧f 30=.int .i64 (i:Nat)∧fr 4=.cells [.list (P.progs.map QW),.list (P.enums.map Xw)]∧fr 5=.cells g.cells∧fr 6=.cells (vc v)∧fr 12=.none∧fr 14=.none

include hv in
theorem PC (hsl:∀i,i<v.slots.length→Qi Tryz.prog 63 [P.av,QW g,.list (v.slots.map V.sav),.int .i64 (i:Nat),.int .i64 lv] (.int .i64 (XB m P g v.slots i)))
  (f:Fr) (fr:Nat→Ob) (h3:f 3=.int .i64 lv) (h4:f 4=.ptr 0 4 0) (h5:f 5=.ptr 0 5 0) (h6:f 6=.ptr 0 6 0) (h29:f 29=.int .i64 (v.slots.length:Nat)) (h30:f 30=.int .i64 0)
  (m4:fr 4=.cells [.list (P.progs.map QW),.list (P.enums.map Xw)]) (m5:fr 5=.cells g.cells) (m6:fr 6=.cells (vc v)) (n12:fr 12=.none) (n14:fr 14=.none) (Q:Exit→St→Prop)
  (q1:Xj (XB m P g v.slots) v.slots.length 0≠0→∀f fr,f 8=.int .i64 (Xj (XB m P g v.slots) v.slots.length 0)→Q .ret (⟨f,[fr],[]⟩:St))
  (q2:Xj (XB m P g v.slots) v.slots.length 0=0→∀f fr,f 4=.ptr 0 4 0→f 5=.ptr 0 5 0→f 6=.ptr 0 6 0→fr 4=.cells [.list (P.progs.map QW),.list (P.enums.map Xw)]→fr 5=.cells g.cells→fr 6=.cells (vc v)→fr 12=.none→fr 14=.none→Q (.exit 1) (⟨f,[fr],[]⟩:St)) :
  QN Tryz.prog (.loop IS) ⟨f,[fr],[]⟩ Q:=by
 have e0:P.av=.agg [.list (P.progs.map QW),.list (P.enums.map Xw)]:=rfl;refine Qe (MsI m P lv g v) _ ⟨f,fr,0,rfl,rfl,rfl,h3,h4,h5,h6,h29,h30,m4,m5,m6,n12,n14⟩ ?_;clear h3 h4 h5 h6 h29 h30 m4 m5 m6 n12 n14;rintro _ st ⟨f,fr,i,rfl,rfl,hx,h3,h4,h5,h6,h29,h30,m4,m5,m6,n12,n14⟩;have m5':=m5;have m6':=m6;simp only[PG.cells]at m5;simp only[vc]at m6;simp only[h29,h30,Qa,seval];by_cases hlt:i<v.slots.length
 ·have e1:=Ql i _ hlt (by have:=hv.ns;simp only[maxLen];omega);have c1:=hsl i hlt;rw[e0]at c1;simp only[QW,PG.cells]at c1;simp only[Qw hlt,h3,h4,h5,h6,h30,m4,m5,m6,eE,seval];refine aC c1 ?_;by_cases hy:XB m P g v.slots i=0
  ·rw[Wd hlt hy]at hx;have d0:((0:Int) != 0)=false:=rfl;simp only[hy,d0,h30,e1,Qa,seval];exact⟨v.slots.length-(i+1),by omega,_,_,i+1,rfl,rfl,hx,h3,h4,h5,h6,h29,rfl,m4,m5',m6',n12,n14⟩
  ·rw[Jn hlt rfl hy]at hx;have d1:(XB m P g v.slots i != 0)=true:=by simp[hy]
   simp only[d1,Qa,seval];exact q1 (by rw[hx];exact hy) _ _ (by rw[hx];exact rfl)
 ·rw[Kn hlt]at hx;simp only[Qy hlt,Qa,seval];exact q2 hx _ _ h4 h5 h6 m4 m5' m6' n12 n14

include hP in
theorem v25 (hU:Use P):∀n:Nat,n≤16→∀g∈P.progs,∀v:V,v.ok M→Qi Tryz.prog 25 [P.av,QW g,v.av,.int .i64 (17-(n:Int))] (.int .i64 (XF P n g v)):=by
 have e0:P.av=.agg [.list (P.progs.map QW),.list (P.enums.map Xw)]:=rfl;intro n
 induction n with
 |zero=>
  intro _ g _ v hv;have co:=PA v hv;rw[QE]at co;rw[QE];have d0:decide ((17:Int)-((0:Nat):Int) > 16)=true:=rfl;refine k25.fn (by simp) ?_;simp only[e0,QW,PG.cells,XF,eE,seval];cases a1:(v.kd != 10)
  ·simp only[Q0s,eE,seval];refine aC co ?_;cases v.oth
   ·simp only[QY3,Qa,seval]
   ·simp only[Qa,seval]
  ·simp only[Q0r,Qa,seval]
 |succ n ih=>
  intro hn16 g hgm v hv;have hg:=hP.progs g hgm;have hu:=hU g hgm;have hw:IntKind.i64.wrap (17-((n+1:Nat):Int)+1)=17-(n:Int):=by rw[QU];omega
  have hel:=fun(o:PO) (ho:o∈g.ops) (x:V) (hx:x.ok M)=>QSu hP hw (fun g hg v hv=>ih (by omega) g hg v hv) o (hu o ho) x hx
  have hfi:=fun(o:PO) (ho:o∈g.ops) (x:V) (hx:x.ok M)=>QSB hP o (hu o ho) x hx (hel o ho)
  have hsl:=fun(i:Nat) (hi:i<v.slots.length)=>v63 (P:=P) g hg v.slots (by have:=hv.ns;simp only[maxLen];omega) i hi hv.slots hfi
  have co:=PA v hv;rw[QE]at co;rw[QE];have d0:decide ((17:Int)-((n+1:Nat):Int) > 16)=false:=Q0u (by omega);refine k25.fn (by simp) ?_;simp only[e0,QW,PG.cells,XF,eE,seval];cases a1:(v.kd != 10)
  ·simp only[Q0s,eE,seval];refine aC co ?_;cases v.oth
   ·simp only[d0,QY3,QZ5,eE,seval];unfold Yc;refine PC (lv:=17-((n+1:Nat):Int)) g v hv hsl _ _ rfl rfl rfl rfl rfl rfl rfl rfl rfl rfl rfl _ (fun hx f fr h8=>?_) (fun hx f fr h4 h5 h6 m4 m5 m6 n12 n14=>?_)
    ·rw[QYR hx];simp only[h8,Qa,seval]
    ·rw[QYS hx];have m5':=m5;simp only[PG.cells]at m5;simp only[h5,m5,QZ5,eE,seval];refine Ij g hg v hv _ _ (by exact h4) (by exact h5) (by exact h6) (by rfl) (by rfl) (by rfl) (by exact m4) (by exact m5') (by exact m6) (by simp only[QZ0,Q0Q,or_false,forall_eq,n12]<;>rfl) _ (fun hx f fr h8=>?_) (fun hx f fr h4 h5 h6 m4 m5 m6 n14=>?_) (by exact n14)
     ·rw[hx];simp only[h8,Qa,seval]
     ·rw[hx];have m6':=m6;simp only[vc]at m6;simp only[QY3,h6,m6,QZ5,eE,seval];refine Aa hP g hg v hv _ _ (by exact h4) (by exact h5) (by rfl) (by rfl) (by rfl) (by exact m4) (by exact m5) (by simp only[QZ0,Q0Q,or_false,forall_eq,n14]<;>rfl) _ (fun hx f fr h8=>?_) (fun hx f fr=>?_)
      ·simp only[h8,Qa,seval]
      ·simp only[hx,Qa,seval]
   ·simp only[Qa,seval]
  ·simp only[Q0r,Qa,seval]

end
open So

theorem YC {f:Nat→Int}:∀ {k i:Nat},(∀j,i≤j→j<i+k→f j=0)→Xj f k i=0
 |0,_,_=>rfl
 |k+1,i,h=>by
  rw[Xj,QYS (h i (QYK _) (by omega))];exact YC fun j h1 h2=>h j (by omega) (by omega)

theorem Kt {α:Type}{l:List α}{p:α→Bool}{i:Nat}(hi:i≤l.length):(l.take i).any p=false↔∀j (h:j<i),p (l[j]'(by omega))=false:=by
 rw[Q0y]
 constructor
 ·intro h j hj;have:=h (l[j]'(by omega)) (QYY (i:=j) (by rw[QZo,QYS hj,QYN (by omega)]))
  simpa using this
 ·intro h x hx;obtain⟨j,hj⟩:=QYW.1 hx;have hl:=(QYM.1 hj).1;rw[QZC]at hl;rw[QZo,QYS (by omega)]at hj;obtain⟨hj1,rfl⟩:=QYM.1 hj;have:=h j (by omega);simp[this]

section
variable {m:PG→V→Int}{P:PL}

def SOK (m:PG→V→Int)(P:PL)(g:PG)(sl:List (Int×V)):Prop :=
 (∀x∈sl,∃o,X4 g x.1=some o∧Zq m P o x.2=0)∧sl.Pairwise (fun y x=>(y.1==x.1)=false)∧sl.Pairwise (fun y x=>∀o,X4 g x.1=some o→Jv g o y=false)

theorem QfU {g:PG}{sl:List (Int×V)}:Xj (XB m P g sl) sl.length 0=0↔SOK m P g sl:=by
 have key:∀i (hi:i<sl.length),XB m P g sl i=0↔∃o,X4 g sl[i].1=some o∧(sl.take i).any (fun y=>y.1==sl[i].1)=false∧(sl.take i).any (Jv g o)=false∧Zq m P o sl[i].2=0:=by
  intro i hi;unfold XB;rw[QYN hi];dsimp only;cases X4 g sl[i].1 with
  |none=>simp
  |some o=>
   simp only[QZb,exists_eq_left'];cases(sl.take i).any (fun y=>y.1==sl[i].1)<;>cases(sl.take i).any (Jv g o)<;>simp only[QY3,Bool.true_eq_false,if_true,if_false,true_and,false_and,iff_false]<;>omega
 constructor
 ·intro h;have hz:∀i (hi:i<sl.length),_:=fun i hi=>(key i hi).1 (Jf h i (QYT _) (by omega))
  refine⟨fun x hx=>?_,?_,?_⟩
  ·obtain⟨i,hi,rfl⟩:=Q0M hx;obtain⟨o,h1,_,_,h4⟩:=hz i hi;exact⟨o,h1,h4⟩
  ·rw[Q0L];intro i j hi hj hij;obtain⟨o,_,h2,_,_⟩:=hz j hj;exact(Kt (by omega)).1 h2 i hij
  ·rw[Q0L];intro i j hi hj hij o ho;obtain⟨o',h1,_,h3,_⟩:=hz j hj;rw[h1]at ho;cases ho;exact(Kt (by omega)).1 h3 i hij
 ·rintro⟨h1,h2,h3⟩;refine YC fun i _ hi=>?_
  rw[QY9]at hi;obtain⟨o,ho,hf⟩:=h1 sl[i] (QZz hi);rw[Q0L]at h2 h3;exact(key i hi).2 ⟨o,ho,(Kt (by omega)).2 fun j hj=>h2 j i (by omega) hi hj,(Kt (by omega)).2 fun j hj=>h3 j i (by omega) hi hj o ho,hf⟩

def EOK (m:PG→V→Int)(P:PL)(o:PO)(ps:List (V×V)):Prop :=
 (∀x∈ps,x.1.one P o.key (-1)=0∧Xt m P o x.2=0)∧ps.Pairwise fun q p=>Ko q.1 p.1=false

theorem QfV {o:PO}{ps:List (V×V)}:Xj (J3 m P o ps) ps.length 0=0↔EOK m P o ps:=by
 have key:∀i (hi:i<ps.length),J3 m P o ps i=0↔(ps[i].1.one P o.key (-1)=0∧(ps.take i).any (fun q=>Ko q.1 ps[i].1)=false∧Xt m P o ps[i].2=0):=by
  intro i hi;rw[Yw (QYN hi)];by_cases hz:ps[i].1.one P o.key (-1)=0
  ·rw[QYS hz];cases(ps.take i).any (fun q=>Ko q.1 ps[i].1)<;>simp[hz]
  ·rw[QYR hz];simp[hz]
 constructor
 ·intro h;have hz:∀i (hi:i<ps.length),_:=fun i hi=>(key i hi).1 (Jf h i (QYT _) (by omega))
  refine⟨fun x hx=>?_,?_⟩
  ·obtain⟨i,hi,rfl⟩:=Q0M hx;exact⟨(hz i hi).1,(hz i hi).2.2⟩
  ·rw[Q0L];intro i j hi hj hij;exact(Kt (by omega)).1 (hz j hj).2.1 i hij
 ·rintro⟨h1,h2⟩;refine YC fun i _ hi=>?_
  rw[QY9]at hi;rw[Q0L]at h2;exact(key i hi).2 ⟨(h1 _ (QZz hi)).1,(Kt (by omega)).2 fun j hj=>h2 j i (by omega) hi hj,(h1 _ (QZz hi)).2⟩

theorem QfW {o:PO}{l:List V}:Xj (WR m P o l) l.length 0=0↔∀x∈l,Xt m P o x=0:=by
 constructor
 ·intro h x hx;obtain⟨i,hi,rfl⟩:=Q0M hx;have:=Jf h i (QYT _) (by omega)
  rwa [Yx (QYN hi)]at this
 ·intro h;refine YC fun i _ hi=>?_
  rw[QY9]at hi;rw[Yx (QYN hi)];exact h _ (QZz hi)
theorem QfX {g:PG}{l:List R}:Xj (JC P g l) l.length 0=0↔∀x∈l,Wj P g x=0:=by
 constructor
 ·intro h x hx;obtain⟨i,hi,rfl⟩:=Q0M hx;have:=Jf h i (QYT _) (by omega)
  rwa [WS (QYN hi)]at this
 ·intro h;refine YC fun i _ hi=>?_
  rw[QY9]at hi;rw[WS (QYN hi)];exact h _ (QZz hi)

theorem Ik {g:PG}{v:V}:Yc m P g v=0↔SOK m P g v.slots∧Wk g v.slots=false∧∀x∈v.raws,Wj P g x=0:=by
 unfold Yc;rw[←QfU,←QfX];split
 ·rename_i h;cases Wk g v.slots<;>simp[h]
 ·rename_i h;simp[h]
end

theorem QfY {P:PL}{n:Nat}{g:PG}{v:V}:XF P (n+1) g v=0↔(v.kd=10∧v.oth=false)∧SOK (XF P n) P g v.slots∧Wk g v.slots=false∧∀x∈v.raws,Wj P g x=0:=by
 rw[←Ik];unfold XF;by_cases h:v.kd=10
 ·cases ho:v.oth<;>simp[h]
 ·simp[h]

theorem QDt {v:V}(h:v.kd≠6):v.nsc=v:=by
 cases v;unfold V.nsc XG;rw[QYR fun g=>h g.1];rfl
theorem Il {g:PG}(hd:g.ops.Pairwise fun a b=>a.num<b.num){o:PO}(ho:o∈g.ops):X4 g o.num=some o:=by
 unfold X4
 revert hd ho
 generalize g.ops=ops;intro hd ho
 induction ops with
 |nil=>cases ho
 |cons x l ih=>
  obtain⟨h1,h2⟩:=Q0f.1 hd;rw[Q0t];rcases QZ0.1 ho with rfl|ho
  ·simp
  ·have:=h1 o ho;rw[show(x.num==o.num)=false by simp;omega];exact ih h2 ho

section
variable {m:PG→V→Int}{nm:PG→V→V}{P:PL}

theorem F1 {sl:List (Int×V)}{o:PO}{x:Int×V}(h:x∈Ke nm P sl o):x.1=o.num∧∃s∈sl,s.1=o.num∧x.2=Jp nm P o s.2:=by
 unfold Ke at h;cases hf:sl.find? (fun s=>s.1==o.num)with
 |none=>rw[hf]at h;cases h
 |some s=>
  rw[hf]at h;dsimp only at h;have h1:s.1=o.num:=by simpa using Q0C hf
  split at h
  ·simp only[QZ0,Q0Q,or_false]at h;subst h;exact⟨rfl,s,Q0B hf,h1,rfl⟩
  ·cases h

theorem Im {sl:List (Int×V)}{o:PO}{p:Int×V→Int×V→Prop}:(Ke nm P sl o).Pairwise p:=by
 unfold Ke;split
 ·exact .nil
 ·split
  ·exact List.pairwise_singleton _ _
  ·exact .nil

end

section
variable {m:PG→V→Int}{nm:PG→V→V}{P:PL}

end

def Jh (l:List (Int×V)):List (Int×V):=QD (fun x y=>decide (x.1<y.1)) l
theorem QSE:SW fun x y:Int×V=>decide (x.1<y.1) where
 irr x:=by simp
 tr x y z h k:=by simp only[QZ2]at *;omega
 nt x y z h k:=by simp only[Q0E]at *;omega

theorem Ab:∀ {a b:List (Int×V)},(a.Pairwise fun x y=>x.1<y.1)→(b.Pairwise fun x y=>x.1<y.1)→(∀x,x∈a↔x∈b)→a=b
 | [],[],_,_,_=>rfl
 | [],y :: b,_,_,h=>by have:=(h y).2 (by simp);cases this
 |x :: a,[],_,_,h=>by have:=(h x).1 (by simp);cases this
 |x :: a,y :: b,ha,hb,h=>by
  obtain⟨a1,a2⟩:=Q0f.1 ha;obtain⟨b1,b2⟩:=Q0f.1 hb;have e:x=y:=by
   rcases QZ0.1 ((h x).1 (by simp))with e|e
   ·exact e
   ·rcases QZ0.1 ((h y).2 (by simp))with e'|e'
    ·exact e'.symm
    ·have:=b1 x e;have:=a1 y e';omega
  subst e;congr 1
  refine Ab a2 b2 fun z=>?_
  have hz:=h z;simp only[QZ0]at hz
  constructor
  ·intro hm;rcases hz.1 (.inr hm)with e|e
   ·subst e;have:=a1 z hm;omega
   ·exact e
  ·intro hm;rcases hz.2 (.inr hm)with e|e
   ·subst e;have:=b1 z hm;omega
   ·exact e

section
variable {m:PG→V→Int}(nm:PG→V→V)(P:PL)

def KG (o:PO)(s:Int×V):List (Int×V):=if (decide (o.card<3) || !(Jp nm P o s.2).emp)=true then [(o.num,Jp nm P o s.2)]else []
def Zb (g:PG)(s:Int×V):List (Int×V):=match X4 g s.1 with
 |none=>[]
 |some o=>KG nm P o s

theorem Ac {o:PO}{s x:Int×V}:x∈KG nm P o s↔(decide (o.card<3) || !(Jp nm P o s.2).emp)=true∧x=(o.num,Jp nm P o s.2):=by
 unfold KG;split
 ·rename_i h;simp[h]
 ·rename_i h;simp[h]

theorem Ad {sl:List (Int×V)}(hu:sl.Pairwise fun y x=>(y.1==x.1)=false){s:Int×V}(hs:s∈sl):sl.find? (fun t=>t.1==s.1)=some s:=by
 induction sl with
 |nil=>cases hs
 |cons x l ih=>
  obtain⟨h1,h2⟩:=Q0f.1 hu;rw[Q0t];rcases QZ0.1 hs with rfl|hs
  ·simp
  ·rw[h1 s hs];exact ih h2 hs

theorem Dg {sl:List (Int×V)}{o:PO}:Ke nm P sl o=match sl.find? (fun s=>s.1==o.num)with
  |none=>[]
  |some s=>KG nm P o s:=rfl

theorem Vq {g:PG}(hd:g.ops.Pairwise fun a b=>a.num<b.num){sl:List (Int×V)}(hu:sl.Pairwise fun y x=>(y.1==x.1)=false):(Jh sl).flatMap (Zb nm P g)=g.ops.flatMap (Ke nm P sl):=by
 have hp:(Jh sl).Perm sl:=XC _;have hsu:(Jh sl).Pairwise fun y x=>(y.1==x.1)=false:=(hp.pairwise_iff fun {a b} h=>by rw[Bool.beq_comm];exact h).2 hu
 have hss:ZV (fun x y:Int×V=>decide (x.1<y.1)) (Jh sl):=JJ QSE _;have hst:(Jh sl).Pairwise fun x y=>x.1<y.1:=by
  unfold ZV at hss;rw[Q0L]at *;intro i j hi hj hij;have h1:=hss i j hi hj hij;have h2:=hsu i j hi hj hij;simp only[Q0E,Q0F]at h1 h2;omega
 have kpw:∀s,(Zb nm P g s).Pairwise fun x y:Int×V=>x.1<y.1:=fun s=>by
  unfold Zb;split
  ·exact .nil
  ·unfold KG;split
   ·exact List.pairwise_singleton _ _
   ·exact .nil
 have knum:∀ {s x:Int×V},x∈Zb nm P g s→x.1=s.1:=fun {s x} h=>by
  unfold Zb at h;cases ho:X4 g s.1 with
  |none=>rw[ho]at h;cases h
  |some o=>
   rw[ho]at h;rw[((Ac nm P).1 h).2];exact(Hb ho).2
 refine Ab ?_ ?_ fun x=>?_
 ·rw[List.pairwise_flatMap];refine⟨fun s _=>kpw s,hst.imp fun {a b} hab x hx y hy=>?_⟩;rw[knum hx,knum hy];exact hab
 ·rw[List.pairwise_flatMap];refine⟨fun _ _=>Im,hd.imp fun {a b} hab x hx y hy=>?_⟩;rw[(F1 hx).1,(F1 hy).1];exact hab
 ·rw[List.mem_flatMap,List.mem_flatMap]
  constructor
  ·rintro⟨s,hs,h⟩;unfold Zb at h;cases ho:X4 g s.1 with
   |none=>rw[ho]at h;cases h
   |some o=>
    rw[ho]at h;obtain⟨hom,hon⟩:=Hb ho;refine⟨o,hom,?_⟩;rw[Dg,hon,Ad hu (hp.mem_iff.1 hs)];exact h
  ·rintro⟨o,ho,h⟩;rw[Dg]at h;cases hf:sl.find? (fun s=>s.1==o.num)with
   |none=>rw[hf]at h;cases h
   |some s=>
    rw[hf]at h;have hs:s.1=o.num:=by simpa using Q0C hf
    refine⟨s,hp.mem_iff.2 (Q0B hf),?_⟩;unfold Zb;rw[hs,Il hd ho];exact h

end

theorem We {P:Program}{Qg:List Am.Item}{f:Fr}{m:Qk}{ds:List DF}{d l:Nat}{K:St→Prop}{sz bytes el:Nat}{s r:RA}{site g n:Nat}{xs ys:List AV}(hs:s.ev f=.vec l site g 0 n false)(hl:Am.Qh m l site=.vec g sz xs)(ht:Zr site el=true)(hn:n=xs.length)(hr:r.ev f=.list ys)(hz:ys.all (fun e=>e.cells.length==sz)=true)(hm:n+ys.length≤maxLen)(hb:(n+ys.length)*bytes≤140737488355328)
  (h:Qq P Qg ⟨Qt f d (.vec l site (g+1) 0 (n+ys.length) false),Am.put m l site (.vec (g+1) sz (xs++ys)),ds⟩ K):Qq P (⟨some d,.app sz bytes el s r,none⟩ :: Qg) ⟨f,m,ds⟩ K:=by
 refine⟨l,site,g,n,xs,ys,hs,hl,ht,by omega,?_,hz,hm,hb,?_⟩
 ·show Zd m (r.ev f)=some ys;rw[hr];rfl
 ·subst hn;rw[Q0h];exact h

def Qr (fr:Nat→Ob)(s R:Nat)(d:List UInt8)(n:Int)(l:List PB):Nat→Ob :=
 Qt (Qt fr R (.vec (1+l.length) 3 (l.map PB.av))) s (.cells [.str d,.int .i64 n,.vec 0 R (1+l.length) 0 l.length false])
section
variable (fr:Nat→Ob)(s R:Nat)(d:List UInt8)(n:Int)(l:List PB)(h:R≠s)
theorem Kf:Qr fr s R d n l s=.cells [.str d,.int .i64 n,.vec 0 R (1+l.length) 0 l.length false]:=QY ..
include h in
theorem Wu:Qr fr s R d n l R=.vec (1+l.length) 3 (l.map PB.av):=by rw[Qr,Q2 _ _ h,QY]
theorem Q0 {k:Nat}(h1:k≠R)(h2:k≠s):Qr fr s R d n l k=fr k:=by rw[Qr,Q2 _ _ h2,Q2 _ _ h1]
theorem YD (n':Int):Qt (Qr fr s R d n l) s (.cells [.str d,.int .i64 n',.vec 0 R (1+l.length) 0 l.length false])=Qr fr s R d n' l:=by rw[Qr,Kj,Qr]
include h in
theorem Fm (x:PB):Qt (Qt (Qr fr s R d n l) R (.vec (1+l.length+1) 3 (l.map PB.av++[x.av]))) s (.cells [.str d,.int .i64 n,.vec 0 R (1+l.length+1) 0 (l.length+1) false])=Qr fr s R d n (l++[x]):=by
 have e:(l++[x]).length=l.length+1:=by simp
 rw[Qr,Qr,e,Q0i,JH (Qt fr R _) s R _ _ (Ne.symm h),Kj,Kj];rfl
end

section
variable (fr:Nat→Ob)(s R:Nat)(d:List UInt8)(n:Int)(l:List PB)(h:R≠s)(hR:Zr R 153=true)(hl:l.length≤1073741824)(ok:Bool)(e:Int)(m:Qk)
include h hR hl

theorem XQ  : Qf Tryz.prog 97 [.ptr 0 s 0,.bool ok,.int .i64 e] ( Qr fr s R d n l :: m) fun x m1=>x=.tup []∧m1 =  Qr fr s R d n (l++pb d n ok e) :: m:=by
 have hs:=Kf fr s R d n l;have hr:=Wu fr s R d n l h;cases ok
 ·refine Ng.go (by simp) ?_;simp only[hs,eE,seval];refine Zu rfl rfl (by decide) rfl rfl ?_;refine We (xs:=l.map PB.av) rfl (by simp only[hr,B2,seval]) hR (by simp) rfl rfl (by simp only[QYZ,QZR,maxLen];omega) (by simp only[QYZ,QZR];omega) ?_;have hb:(s==R)=false:=Q0F.2 (Ne.symm h);have ha:=Fm fr s R d n l h ⟨d,n,e⟩;have ep:pb d n false e=[⟨d,n,e⟩]:=rfl;simp only[PB.av]at ha;simp only[hs,hb,nn0,QZh,QZG,cond_false,eE,seval];simp only[ha,ep,seval]
 ·refine Ng.go (by simp) ?_;have ep:pb d n true e=[]:=rfl;simp only[ep,QZI,Qa,seval]

theorem Z3 (a:Nat→Ob):Qf Tryz.prog 97 [.ptr 1 s 0,.bool ok,.int .i64 e] (a :: Qr fr s R d n l :: m) fun x m1=>x=.tup []∧m1=a :: Qr fr s R d n (l++pb d n ok e) :: m:=by
 have hs:=Kf fr s R d n l;have hr:=Wu fr s R d n l h;cases ok
 ·refine Ng.go (by simp) ?_;simp only[hs,eE,seval];refine Zu rfl rfl (by decide) rfl rfl ?_;refine We (xs:=l.map PB.av) rfl (by simp only[hr,B2,seval]) hR (by simp) rfl rfl (by simp only[QYZ,QZR,maxLen];omega) (by simp only[QYZ,QZR];omega) ?_;have hb:(s==R)=false:=Q0F.2 (Ne.symm h);have ha:=Fm fr s R d n l h ⟨d,n,e⟩;have ep:pb d n false e=[⟨d,n,e⟩]:=rfl;simp only[PB.av]at ha;simp only[hs,hb,nn0,QZh,QZG,cond_false,eE,seval];simp only[ha,ep,seval]
 ·refine Ng.go (by simp) ?_;have ep:pb d n true e=[]:=rfl;simp only[ep,QZI,Qa,seval]

theorem QSF (a b:Nat→Ob):Qf Tryz.prog 97 [.ptr 2 s 0,.bool ok,.int .i64 e] (a :: b :: Qr fr s R d n l :: m) fun x m1=>x=.tup []∧m1=a :: b :: Qr fr s R d n (l++pb d n ok e) :: m:=by
 have hs:=Kf fr s R d n l;have hr:=Wu fr s R d n l h;cases ok
 ·refine Ng.go (by simp) ?_;simp only[hs,eE,seval];refine Zu rfl rfl (by decide) rfl rfl ?_;refine We (xs:=l.map PB.av) rfl (by simp only[hr,B2,seval]) hR (by simp) rfl rfl (by simp only[QYZ,QZR,maxLen];omega) (by simp only[QYZ,QZR];omega) ?_;have hb:(s==R)=false:=Q0F.2 (Ne.symm h);have ha:=Fm fr s R d n l h ⟨d,n,e⟩;have ep:pb d n false e=[⟨d,n,e⟩]:=rfl;simp only[PB.av]at ha;simp only[hs,hb,nn0,QZh,QZG,cond_false,eE,seval];simp only[ha,ep,seval]
 ·refine Ng.go (by simp) ?_;have ep:pb d n true e=[]:=rfl;simp only[ep,QZI,Qa,seval]

theorem Dh  {M:Nat}(N:List SN)(hN:N.length≤maxLen)(hn:∀x∈N,x.ok M)(t:Int)(ht:t∈YA):Qf Tryz.prog 157 [.ptr 0 s 0,.list (N.map fun x=>.agg x.cells),.int .i64 t] ( Qr fr s R d n l :: m) fun x m1=>x=.tup []∧m1 =  Qr fr s R d n (l++XJ d n N t) :: m:=by
 refine Ex.go (by simp) ?_;simp only[Qa,seval];refine aC (QDg N hN hn t ht) ?_;simp only[Qa,seval];refine Qb (Z3 fr s R d n l h hR hl (Zo N t==0) (Zo N t) m Qc) rfl ?_;simp only[XJ,Qa,seval]

theorem QL9 (a:Nat→Ob){M:Nat}(N:List SN)(hN:N.length≤maxLen)(hn:∀x∈N,x.ok M)(t:Int)(ht:t∈YA):Qf Tryz.prog 157 [.ptr 1 s 0,.list (N.map fun x=>.agg x.cells),.int .i64 t] (a :: Qr fr s R d n l :: m) fun x m1=>x=.tup []∧m1=a :: Qr fr s R d n (l++XJ d n N t) :: m:=by
 refine Ex.go (by simp) ?_;simp only[Qa,seval];refine aC (QDg N hN hn t ht) ?_;simp only[Qa,seval];refine Qb (QSF fr s R d n l h hR hl (Zo N t==0) (Zo N t) m Qc a) rfl ?_;simp only[XJ,Qa,seval]

end

theorem QZ {α β:Type}{l:List α}{g:Nat→α→List β}{c:Nat}(hc:∀i x,(g i x).length≤c):∀n,(upto l g n).length≤c*n
 |0=>QYK _
 |n+1=>by
  have h1:=QZ hc (l:=l) n;rw[upto,QZn,Nat.mul_succ];cases l[n]? with
  |none=>simp only[QZR];omega
  |some x=>have:=hc n x;simp only;omega
theorem Zw {α β:Type}{l:List α}{g:Nat→α→List β}{n:Nat}{x:α}(h:l[n]? = some x):upto l g (n+1)=upto l g n++g n x:=by
 rw[upto,h]
theorem Q7 (d:List UInt8)(n:Int)(ok:Bool)(e:Int):(pb d n ok e).length≤1:=by
 cases ok<;>simp[pb]

def Ae (l:List PS)(i:Nat)(x:PS):Bool:=match i with
 |0=>true
 |j+1=>match l[j]? with
  |none=>true
  |some y=>decide (x.lo > y.hi)
theorem Af (d:List UInt8)(lo hi:Int)(l:List PS)(i:Nat)(x:PS):KF d lo hi l i x=pb d (-1) (decide (x.lo≥lo)&&decide (x.hi≤hi)&&decide (x.lo≤x.hi)) 6++pb d (-1) (Ae l i x) 11:=by
 cases i<;>rfl
theorem Ku (d:List UInt8)(lo hi:Int)(F:List PS)(i:Nat)(x:PS):(KF d lo hi F i x).length≤2:=by
 unfold KF;rw[QZn];exact Nat.add_le_add (Q7 ..) (Q7 ..)

section
variable (fr:Nat→Ob)(s R:Nat)(d:List UInt8)(l:List PB)(h:R≠s)(hR:Zr R 153=true)(lo hi:Int)(F:List PS)(hF:F.length≤1048576)(m:Qk)

def SqJ (k:Nat)(st:St):Prop :=
 ∃f own i,st=⟨f,own :: Qr fr s R d (-1) (l++upto F (KF d lo hi F) i) :: m,[]⟩∧k=F.length-i∧i≤F.length∧f 0=.ptr 1 s 0∧f 1=.list (F.map Xd)∧f 2=.int .i64 lo∧f 3=.int .i64 hi∧f 10=.list (F.map Xd)∧f 11=.int .i64 (F.length:Nat)∧f 12=.int .i64 (i:Nat)∧∀s∈[9],(own s).isRow=false

def SpF (F:List PS)(s:Nat)(lo hi:Int)(i:Nat)(f:Fr):Prop:=f 0=.ptr 1 s 0∧f 1=.list (F.map Xd)∧f 2=.int .i64 lo∧f 3=.int .i64 hi∧f 8=.int .i64 (i:Nat)∧f 9=.ptr 0 9 0∧f 10=.list (F.map Xd)∧f 11=.int .i64 (F.length:Nat)∧f 12=.int .i64 (i:Nat)

section
variable (i:Nat)(x:PS)(hx:F[i]? = some x)(own:Nat→Ob)(o9:own 9=.cells x.cells)(hl:l.length≤1073741824)(f:Fr)(hf:SpF F s lo hi i f)(K:St→Prop)
include h hR hl o9 hf
theorem sp3 (hK:∀f,SpF F s lo hi i f→K ⟨f,own :: Qr fr s R d (-1) (l++pb d (-1) (decide (x.lo≥lo)&&decide (x.hi≤hi)&&decide (x.lo≤x.hi)) 6) :: m,[]⟩):Qq Tryz.prog Nk ⟨f,own :: Qr fr s R d (-1) l :: m,[]⟩ K:=by
 have hK':=hK;obtain⟨h0,h1,h2,h3,h8,h9,h10,h11,h12⟩:=hf;simp only[PS.cells]at o9;simp only[Nk,h0,h2,h9,o9,eE,seval];cases a1:decide (x.lo≥lo)
 ·rw[a1]at hK';simp only[Qa,seval];refine Qb (Z3 fr s R d (-1) l h hR hl false 6 m own) rfl ?_;simp only[Qa,seval];exact hK' _ ⟨h0,h1,h2,h3,h8,h9,h10,h11,h12⟩
 cases a2:decide (x.hi≤hi)
 ·rw[a1,a2]at hK';simp only[a2,h3,h9,o9,eE,seval];refine Qb (Z3 fr s R d (-1) l h hR hl false 6 m own) rfl ?_;simp only[Qa,seval];exact hK' _ ⟨h0,h1,h2,h3,h8,h9,h10,h11,h12⟩
 rw[a1,a2]at hK';simp only[a2,h3,h9,o9,eE,seval];refine Qb (Z3 fr s R d (-1) l h hR hl (decide (x.lo≤x.hi)) 6 m own) rfl ?_;simp only[Qa,seval];exact hK' _ ⟨h0,h1,h2,h3,h8,h9,h10,h11,h12⟩

include hx hF in
theorem sp4 (hK:∀f,SpF F s lo hi i f→K ⟨f,own :: Qr fr s R d (-1) (l++pb d (-1) (Ae F i x) 11) :: m,[]⟩):Qq Tryz.prog GY ⟨f,own :: Qr fr s R d (-1) l :: m,[]⟩ K:=by
 obtain⟨h0,h1,h2,h3,h8,h9,h10,h11,h12⟩:=hf;have hlt:i<F.length:=(QYM.1 hx).1;simp only[PS.cells]at o9;cases i with
 |zero=>
  simp only[GY,h0,h8,Qa,seval];refine Qb (Z3 fr s R d (-1) l h hR hl true 11 m own) rfl ?_;simp only[Qa,seval];exact hK _ ⟨h0,h1,h2,h3,h8,h9,h10,h11,h12⟩
 |succ j=>
  obtain⟨y,hj⟩:∃y,F[j]? = some y:=⟨F[j]'(by omega),QYN (by omega)⟩;have hg:(F.map Xd)[j]? = some (.agg [.int .i64 y.lo,.int .i64 y.hi]):=by rw[QZ3,hj];rfl
  have wj:=KS j _ hlt (by simp only[maxLen];omega);have d0:(((j+1:Nat):Int)==0)=false:=by rw[Q0F];omega
  simp only[Ae,hj]at hK;simp only[GY,d0,wj,Qj,QZ8,Qd,hg,h0,h1,h8,h9,o9,eE,seval];refine Qb (Z3 fr s R d (-1) l h hR hl (decide (x.lo > y.hi)) 11 m own) rfl ?_;simp only[Qa,seval];exact hK _ ⟨h0,h1,h2,h3,h8,h9,h10,h11,h12⟩
end

include h hR hF in
theorem QaJ (hl:l.length≤1048576000):Qf Tryz.prog 155 [.ptr 0 s 0,.list (F.map Xd),.int .i64 lo,.int .i64 hi] (Qr fr s R d (-1) l :: m) fun x m1=>x=.tup []∧m1=Qr fr s R d (-1) (l++upto F (KF d lo hi F) F.length) :: m:=by
 have hul:∀n,n≤F.length→(l++upto F (KF d lo hi F) n).length≤1051000000:=by
  intro n hn;have:=QZ (l:=F) (Ku d lo hi F) n;rw[QZn];omega
 refine QsD.go (by simp) ?_;simp only[SR,EG,EH,QZ5,Qa,seval];refine Qe (SqJ fr s R d l lo hi F m) _ ⟨_,_,0,by rw[upto,QZI],rfl,QYT _,(by rfl),(by rfl),(by rfl),(by rfl),(by rfl),(by rfl),(by rfl),by simp<;>rfl⟩ ?_;rintro _ st ⟨f0,own0,i,rfl,rfl,hi',h00,h10,h20,h30,h100,h110,h120,r9⟩;refine QH (a:=_) [9] r9 ?_;intro f own hf hm hn9;have h0:f 0=.ptr 1 s 0:=by rw[hf,h00]<;>rfl
 have h1:f 1=.list (F.map Xd):=by rw[hf,h10]<;>rfl
 have h2:f 2=.int .i64 lo:=by rw[hf,h20]<;>rfl
 have h3:f 3=.int .i64 hi:=by rw[hf,h30]<;>rfl
 have h10':f 10=.list (F.map Xd):=by rw[hf,h100]<;>rfl
 have h11:f 11=.int .i64 (F.length:Nat):=by rw[hf,h110]<;>rfl
 have h12:f 12=.int .i64 (i:Nat):=by rw[hf,h120]<;>rfl
 have n9:=hn9 9 (by decide);clear hf hm hn9 h00 h10 h20 h30 h100 h110 h120 r9;simp only[SS,h11,h12,Qa,seval];by_cases hlt:i<F.length
 case neg=>
  have e:i=F.length:=by omega
  subst e;simp only[Qy hlt,Qa,seval]
 obtain⟨x,hx⟩:∃x,F[i]? = some x:=⟨F[i],QYN hlt⟩;have hg:(F.map Xd)[i]? = some (.agg [.int .i64 x.lo,.int .i64 x.hi]):=by rw[QZ3,hx];rfl
 have e1:=Ql i _ hlt (by simp only[maxLen];omega);simp only[Qw hlt,n9,SU,Qj,QZ8,Qd,hg,h10',h12,eE,seval];refine sp3 fr s R d _ h hR lo hi F m i x _ (by rfl) (QYL (hul i hi') (by decide)) _ ⟨(by exact h0),(by exact h1),(by exact h2),(by exact h3),(by rfl),(by rfl),(by exact h10'),(by exact h11),(by exact h12)⟩ _ (fun f hf=>?_);simp only[Qa,seval];refine sp4 fr s R d _ h hR lo hi F hF m i x hx _ (by rfl) ?_ _ hf _ (fun f hf=>?_)
 ·have a:=hul i hi';have b:=Q7 d (-1) (decide (x.lo≥lo)&&decide (x.hi≤hi)&&decide (x.lo≤x.hi)) 6;rw[QZn];omega
 obtain⟨h0,h1,h2,h3,h8,h9,h10,h11,h12⟩:=hf;simp only[SX,h12,e1,Qa,seval];exact⟨F.length-(i+1),by omega,_,_,i+1,by rw[Zw hx,Af];simp only[QY4]<;>rfl,rfl,by omega,(by exact h0),(by exact h1),(by exact h2),(by exact h3),(by exact h10),(by exact h11),(by rfl),by simp<;>rfl⟩
end

end Go.Proofs.YtafhmlkilcmniaaGreatDoor.Va

set_option linter.unusedSectionVars false
namespace Go.Proofs.YtafhmlkilcmniaaGreatDoor.Va
open Go Am Rc Bt Br Up So

theorem s51 (B:List (List UInt8))(hl:B.length≤maxLen)(v:List UInt8):Qi Tryz.prog 51 [.list (B.map Qo),.str v] (.int .i64 (QS (fun b=>b==v) B 0)):=by
 let I:Nat→St→Prop:=fun k st=>∃f i,st=⟨f,[Qc],[]⟩∧k=B.length-i∧QS (fun b=>b==v) B 0=QS (fun b=>b==v) (B.drop i) i∧f 0=.list (B.map Qo)∧f 1=.str v∧f 7=.int .i64 (B.length:Nat)∧f 8=.int .i64 (i:Nat)
 refine k51.fn (by simp) ?_;simp only[QZ5,Qa,seval];refine Qe I _ ⟨_,0,rfl,rfl,rfl,rfl,rfl,rfl,rfl⟩ ?_;rintro _ st ⟨f,i,rfl,rfl,hx,h0,h1,h7,h8⟩;simp only[h7,h8,Qa,seval];by_cases hlt:i<B.length
 ·obtain⟨x,hi⟩:∃x,B[i]? = some x:=⟨B[i],QYN hlt⟩;have hg:(B.map Qo)[i]? = some (.str x):=by simp[hi,Qo]
  have e1:=Ql i _ hlt hl;have ec:(v==x)=(x==v):=BEq.comm;rw[XD _ hi]at hx;cases hv:(x==v)
  ·rw[hv,QYR (by decide)]at hx;simp only[Qw hlt,Qj,QZ8,Qd,hg,Qs,ec,hv,h0,h1,h8,e1,eE,seval];exact⟨B.length-(i+1),by omega,_,i+1,rfl,rfl,hx,h0,h1,h7,rfl⟩
  ·rw[hv,QYS rfl]at hx;simp only[Qw hlt,Qj,QZ8,Qd,hg,Qs,ec,hv,h0,h1,h8,hx,eE,seval]
 ·have hx':QS (fun b=>b==v) B 0 = -1:=by rw[hx,QZm (by omega)];rfl
  simp only[Qy hlt,hx',Qa,seval]

theorem Mh (B:List (List UInt8))(v:List UInt8):(B.any fun b=>b==v)=B.contains v:=by
 induction B with
 |nil=>rfl
 |cons b B ih=>
  rw[List.any_cons,List.contains_cons,ih,BEq.comm (a:=b)]
theorem s50 (B:List (List UInt8))(hl:B.length≤maxLen)(v:List UInt8):Qi Tryz.prog 50 [.list (B.map Qo),.str v] (.bool (B.contains v)):=by
 refine k50.fn (by simp) ?_;simp only[Qa,seval];refine aC (s51 B hl v) ?_;simp only[WN,Mh,Qa,seval]

theorem Qx {l:List PB}{a:Nat}(h:l.length≤a)(d:List UInt8)(n:Int)(ok:Bool)(e:Int):(l++pb d n ok e).length≤a+1:=by
 have:=Q7 d n ok e;rw[QZn];omega

theorem Xe (x:SM):x.cells=[.str x.name,.list (x.fields.map fun n=>.agg n.cells),.list (x.free.map fun n=>.agg n.cells),.list (x.gone.map AV.str),.list (x.notes.map fun n=>.agg n.cells)]:=rfl
def FF (s i:Nat)(f:Fr):Prop:=f 0=.ptr 1 s 0∧f 3=.int .i64 (i:Nat)∧f 5=.ptr 0 5 0∧f 6=.ptr 0 6 0∧f 8=.ptr 0 8 0

section
variable (fr:Nat→Ob)(s R:Nat)(h:R≠s)(hR:Zr R 153=true)(mm:Qk){M:Nat}(hM:M≤1048576)(S:SC)(hS:S.ok M)(m:SM)(hm:m.ok M)(i:Nat)(x:SF)(hi:m.fields[i]? = some x)
variable (own:Nat→Ob)(o5:own 5=.cells [.list (S.msgs.map fun n=>.agg n.cells),.list (S.enums.map fun n=>.agg n.cells),.list (S.servs.map fun n=>.agg n.cells)])(o6:own 6=.cells m.cells)(o8:own 8=.cells x.cells)
variable (l:List PB)(hl:l.length≤1073741824)(f:Fr)(hf:FF s i f)(K:St→Prop)
include h hR hl hf

include o8 in
theorem fk3 (hK:∀f,FF s i f→K ⟨f,own :: Qr fr s R m.name x.num (l++pb m.name x.num (decide (x.num≥1)&&decide (x.num≤65535)) 6) :: mm,[]⟩):Qq Tryz.prog No ⟨f,own :: Qr fr s R m.name x.num l :: mm,[]⟩ K:=by
 obtain⟨h0,h3,h5,h6,h8⟩:=hf;rw[Qz]at o8;simp only[No,h0,h8,o8,eE,seval];cases a1:decide (x.num≥1)
 ·rw[a1]at hK;simp only[Qa,seval];refine Qb (Z3 fr s R m.name x.num l h hR hl false 6 mm own) rfl ?_;simp only[Qa,seval];exact hK _ ⟨h0,h3,h5,h6,h8⟩
 ·rw[a1]at hK;simp only[h8,o8,eE,seval];refine Qb (Z3 fr s R m.name x.num l h hR hl (decide (x.num≤65535)) 6 mm own) rfl ?_;simp only[Qa,seval];exact hK _ ⟨h0,h3,h5,h6,h8⟩

include o6 o8 hi hM hm in
theorem fk4 (hK:∀f,FF s i f→K ⟨f,own :: Qr fr s R m.name x.num (l++pb m.name x.num (KN m.fields SF.num i x) 11) :: mm,[]⟩):Qq Tryz.prog GZ ⟨f,own :: Qr fr s R m.name x.num l :: mm,[]⟩ K:=by
 obtain⟨h0,h3,h5,h6,h8⟩:=hf;have hlt:i<m.fields.length:=(QYM.1 hi).1;have hl1:=hm.len1;rw[Qz]at o8;simp only[SM.cells]at o6;cases i with
 |zero=>
  simp only[GZ,h0,h3,Qa,seval];refine Qb (Z3 fr s R m.name x.num l h hR hl true 11 mm own) rfl ?_;simp only[Qa,seval];exact hK _ ⟨h0,h3,h5,h6,h8⟩
 |succ j=>
  obtain⟨y,hj⟩:∃y,m.fields[j]? = some y:=⟨m.fields[j]'(by omega),QYN (by omega)⟩;have hg:(m.fields.map fun n=>AV.agg n.cells)[j]? = some (.agg y.cells):=by rw[QZ3,hj];rfl
  have wj:=KS j _ hlt (by simp only[maxLen];omega);have d0:(((j+1:Nat):Int)==0)=false:=by rw[Q0F];omega
  rw[Qz]at hg;simp only[KN,hj]at hK;simp only[GZ,d0,wj,Qj,QZ8,Qd,hg,h0,h3,h6,h8,o6,o8,eE,seval];refine Qb (Z3 fr s R m.name x.num l h hR hl (decide (x.num > y.num)) 11 mm own) rfl ?_;simp only[Qa,seval];exact hK _ ⟨h0,h3,h5,h6,h8⟩

include o8 in
theorem fk5 (hK:∀f,FF s i f→K ⟨f,own :: Qr fr s R m.name x.num (l++pb m.name x.num (Xo x.name) 8) :: mm,[]⟩):Qq Tryz.prog Np ⟨f,own :: Qr fr s R m.name x.num l :: mm,[]⟩ K:=by
 obtain⟨h0,h3,h5,h6,h8⟩:=hf;rw[Qz]at o8;simp only[Np,h0,h8,o8,eE,seval];refine aC (Pz x.name) ?_
 try simp only[eE,seval]
 refine Qb (Z3 fr s R m.name x.num l h hR hl (Xo x.name) 8 mm own) rfl ?_;simp only[Qa,seval];exact hK _ ⟨h0,h3,h5,h6,h8⟩

include o6 hi hM hm in
theorem fk6 (hK:∀f,FF s i f→K ⟨f,own :: Qr fr s R m.name x.num (l++pb m.name x.num (!((m.fields.take i).any fun y=>y.name==x.name)) 9) :: mm,[]⟩):Qq Tryz.prog Nq ⟨f,own :: Qr fr s R m.name x.num l :: mm,[]⟩ K:=by
 obtain⟨h0,h3,h5,h6,h8⟩:=hf;have hl1:=hm.len1;have hsn:=QSn m.fields (by simp only[maxLen];omega) i x hi 209 SF.name QSk (own :: Qr fr s R m.name x.num l :: mm);simp only[SM.cells]at o6;simp only[Nq,h0,h3,h6,o6,eE,seval];refine Qb hsn (by simp only[QZh,QZG,Qa,seval]<;>rfl) ?_;simp only[Qa,seval];refine Qb (Z3 fr s R m.name x.num l h hR hl _ 9 mm own) rfl ?_;simp only[Qa,seval];exact hK _ ⟨h0,h3,h5,h6,h8⟩

include o6 o8 hM hm in
theorem fk7 (hK:∀f,FF s i f→K ⟨f,own :: Qr fr s R m.name x.num (l++pb m.name x.num (!(kept m.free x.num) && !(m.gone.contains x.name)) 21) :: mm,[]⟩):Qq Tryz.prog Nr ⟨f,own :: Qr fr s R m.name x.num l :: mm,[]⟩ K:=by
 obtain⟨h0,h3,h5,h6,h8⟩:=hf;have hl1:=hm.len2;have hl2:=hm.len3;have hr:Qi Tryz.prog 162 [.list (m.free.map fun n=>AV.agg n.cells),.int .i64 x.num] (.bool (kept m.free x.num)):=QCO m.free (by simp only[maxLen];omega) x.num;have hc:Qi Tryz.prog 50 [.list (m.gone.map AV.str),.str x.name] (.bool (m.gone.contains x.name)):=s50 m.gone (by simp only[maxLen];omega) x.name;rw[Qz]at o8;simp only[SM.cells]at o6;simp only[Nr,h0,h6,h8,o6,o8,eE,seval];refine aC hr ?_;cases a1:kept m.free x.num
 ·rw[a1]at hK;simp only[QZN,h6,h8,o6,o8,eE,seval];refine aC hc ?_;simp only[Qa,seval];refine Qb (Z3 fr s R m.name x.num l h hR hl (!(m.gone.contains x.name)) 21 mm own) rfl ?_;simp only[Qa,seval];exact hK _ ⟨h0,h3,h5,h6,h8⟩
 ·rw[a1]at hK;simp only[Q0q,Qa,seval];refine Qb (Z3 fr s R m.name x.num l h hR hl false 21 mm own) rfl ?_;simp only[Qa,seval];exact hK _ ⟨h0,h3,h5,h6,h8⟩

include o8 in
theorem fk8 (hK:∀f,FF s i f→K ⟨f,own :: Qr fr s R m.name x.num (l++pb m.name x.num (Yu x) 1) :: mm,[]⟩):Qq Tryz.prog Ns ⟨f,own :: Qr fr s R m.name x.num l :: mm,[]⟩ K:=by
 obtain⟨h0,h3,h5,h6,h8⟩:=hf;rw[Qz]at o8;unfold Yu at hK;simp only[Ns,h0,h8,o8,eE,seval];cases a1:decide (x.card≥1)
 ·rw[a1]at hK;simp only[Qa,seval];refine Qb (Z3 fr s R m.name x.num l h hR hl false 1 mm own) rfl ?_;simp only[Qa,seval];exact hK _ ⟨h0,h3,h5,h6,h8⟩
 cases a2:decide (x.card≤5)
 ·rw[a1,a2]at hK;simp only[a2,h8,o8,eE,seval];refine Qb (Z3 fr s R m.name x.num l h hR hl false 1 mm own) rfl ?_;simp only[Qa,seval];exact hK _ ⟨h0,h3,h5,h6,h8⟩
 rw[a1,a2]at hK;simp only[a2,h8,o8,eE,seval];refine aC (QSc x.card x.key) ?_
 try simp only[Qa,seval]
 refine Qb (Z3 fr s R m.name x.num l h hR hl (D8 x.card x.key) 1 mm own) rfl ?_;simp only[Qa,seval];exact hK _ ⟨h0,h3,h5,h6,h8⟩

include o5 o8 hS hM hm hi in
theorem fk9 (hK:∀f,FF s i f→K ⟨f,own :: Qr fr s R m.name x.num (l++pb m.name x.num (JL S x) 12) :: mm,[]⟩):Qq Tryz.prog Nt ⟨f,own :: Qr fr s R m.name x.num l :: mm,[]⟩ K:=by
 obtain⟨h0,h3,h5,h6,h8⟩:=hf;have hc:=QSd S hS hM x;simp only[SC.av,QL,Qz]at hc;rw[Qz]at o8;simp only[Nt,h0,h5,h8,o5,o8,eE,seval];refine aC hc ?_
 try simp only[eE,seval]
 refine Qb (Z3 fr s R m.name x.num l h hR hl (JL S x) 12 mm own) rfl ?_;simp only[Qa,seval];exact hK _ ⟨h0,h3,h5,h6,h8⟩

include o5 o8 hS hM hm hi in
theorem QSG (hK:∀f,FF s i f→K ⟨f,own :: Qr fr s R m.name x.num (l++pb m.name x.num (Yb S x) 1) :: mm,[]⟩):Qq Tryz.prog DX ⟨f,own :: Qr fr s R m.name x.num l :: mm,[]⟩ K:=by
 obtain⟨h0,h3,h5,h6,h8⟩:=hf;have hc:=QSg S hS hM x (hm.fields x (QYY hi));simp only[SC.av,QL,Qz]at hc;rw[Qz]at o8;simp only[DX,h0,h5,h8,o5,o8,eE,seval];refine aC hc ?_
 try simp only[eE,seval]
 refine Qb (Z3 fr s R m.name x.num l h hR hl (Yb S x) 1 mm own) rfl ?_;simp only[Qa,seval];exact hK _ ⟨h0,h3,h5,h6,h8⟩

include o6 hM hm hi in
theorem QSH (hK:∀f,FF s i f→K ⟨f,own :: Qr fr s R m.name x.num (l++pb m.name x.num (JM m i) 15) :: mm,[]⟩):Qq Tryz.prog DW ⟨f,own :: Qr fr s R m.name x.num l :: mm,[]⟩ K:=by
 obtain⟨h0,h3,h5,h6,h8⟩:=hf;have hc:=QSj hM m hm i x hi;simp only[QM,SM.cells]at hc;simp only[SM.cells]at o6;simp only[DW,h0,h3,h6,o6,eE,seval];refine aC hc ?_
 try simp only[eE,seval]
 refine Qb (Z3 fr s R m.name x.num l h hR hl (JM m i) 15 mm own) rfl ?_;simp only[Qa,seval];exact hK _ ⟨h0,h3,h5,h6,h8⟩

include o8 hM hm hi in
theorem QSI (hK:∀f,FF s i f→K ⟨f,own :: Qr fr s R m.name x.num (l++XJ m.name x.num x.notes 2) :: mm,[]⟩):Qq Tryz.prog DY ⟨f,own :: Qr fr s R m.name x.num l :: mm,[]⟩ K:=by
 obtain⟨h0,h3,h5,h6,h8⟩:=hf;have hx:=hm.fields x (QYY hi);have hln:=hx.len;rw[Qz]at o8;simp only[DY,h0,h8,o8,eE,seval];refine Qb (QL9 fr s R m.name x.num l h hR hl mm own x.notes (by simp only[maxLen];omega) hx.notes 2 (by decide)) rfl ?_;simp only[Qa,seval];exact hK _ ⟨h0,h3,h5,h6,h8⟩
end

theorem QSJ (fr:Nat→Ob)(s R:Nat)(h:R≠s)(hR:Zr R 153=true)(mm:Qk){M:Nat}(hM:M≤1048576)(S:SC)(hS:S.ok M)(m:SM)(hm:m.ok M)(i:Nat)(x:SF)(hi:m.fields[i]? = some x)(l:List PB)(hl:l.length≤1073741800)(n:Int) :
  Qf Tryz.prog 154 [.ptr 0 s 0,S.av,QM m,.int .i64 (i:Nat)] (Qr fr s R m.name n l :: mm) fun y m1=>y=.tup []∧m1=Qr fr s R m.name (-1) (l++Kq S m i x) :: mm:=by
 have hg:(m.fields.map fun n=>AV.agg n.cells)[i]? = some (.agg x.cells):=by rw[QZ3,hi];rfl
 rw[Qz]at hg;have hs:∀n l,Qr fr s R m.name n l s=.cells [.str m.name,.int .i64 n,.vec 0 R (1+l.length) 0 l.length false]:=fun n l=>Kf fr s R m.name n l
 have hn:∀n l n',Qt (Qr fr s R m.name n l) s (.cells [.str m.name,.int .i64 n',.vec 0 R (1+l.length) 0 l.length false])=Qr fr s R m.name n' l:=fun n l n'=>YD fr s R m.name n l n'
 refine QtJ.go (by simp) ?_;simp only[EK,EL,S7,S8,S9,SC.av,QM,Xe m,Qj,QZ8,Qd,hg,hs,hn,eE,seval];generalize hown:(Qt (Qt (Qt Qc 5 _) 6 _) 8 _:Nat→Ob)=own;have o5:own 5=.cells [.list (S.msgs.map fun n=>.agg n.cells),.list (S.enums.map fun n=>.agg n.cells),.list (S.servs.map fun n=>.agg n.cells)]:=by rw[←hown];exact rfl
 have o6:own 6=.cells m.cells:=by rw[←hown,Xe];exact rfl
 have o8:own 8=.cells x.cells:=by rw[←hown,Qz];exact rfl
 have q0:l.length≤1073741800:=hl;refine fk3 fr s R h hR mm m i x own o8 l (by omega) _ ⟨(by rfl),(by rfl),(by rfl),(by rfl),(by rfl)⟩ _ (fun f hf=>?_);have q1:=Qx q0 m.name x.num (decide (x.num≥1)&&decide (x.num≤65535)) 6;simp only[Qa,seval];refine fk4 fr s R h hR mm hM m hm i x hi own o6 o8 _ (by omega) f hf _ (fun f hf=>?_);have q2:=Qx q1 m.name x.num (KN m.fields SF.num i x) 11;simp only[Qa,seval];refine fk5 fr s R h hR mm m i x own o8 _ (by omega) f hf _ (fun f hf=>?_);have q3:=Qx q2 m.name x.num (Xo x.name) 8;simp only[Qa,seval];refine fk6 fr s R h hR mm hM m hm i x hi own o6 _ (by omega) f hf _ (fun f hf=>?_);have q4:=Qx q3 m.name x.num (!((m.fields.take i).any fun y=>y.name==x.name)) 9;simp only[Qa,seval];refine fk7 fr s R h hR mm hM m hm i x own o6 o8 _ (by omega) f hf _ (fun f hf=>?_);have q5:=Qx q4 m.name x.num (!(kept m.free x.num) && !(m.gone.contains x.name)) 21;simp only[Qa,seval];refine fk8 fr s R h hR mm m i x own o8 _ (by omega) f hf _ (fun f hf=>?_);have q6:=Qx q5 m.name x.num (Yu x) 1;simp only[Qa,seval];refine fk9 fr s R h hR mm hM S hS m hm i x hi own o5 o8 _ (by omega) f hf _ (fun f hf=>?_);have q7:=Qx q6 m.name x.num (JL S x) 12;simp only[Qa,seval];refine QSH fr s R h hR mm hM m hm i x hi own o6 _ (by omega) f hf _ (fun f hf=>?_);have q8:=Qx q7 m.name x.num (JM m i) 15;simp only[Qa,seval];refine QSG fr s R h hR mm hM S hS m hm i x hi own o5 o8 _ (by omega) f hf _ (fun f hf=>?_);have q9:=Qx q8 m.name x.num (Yb S x) 1;simp only[Qa,seval];refine QSI fr s R h hR mm hM m hm i x hi own o8 _ (by omega) f hf _ (fun f hf=>?_);obtain⟨h0,h3,h5,h6,h8⟩:=hf;simp only[CL,h0,hs,hn,eE,seval];unfold Kq;simp only[QY4]

theorem Ja {P:Program}{Qg:List Am.Item}{f:Fr}{m:Qk}{ds:List DF}{d:Nat}{K:St→Prop}{z:AV}{r:RA}{w:List UInt8}(hr:r.ev f=.str w)(h:Qq P Qg ⟨Qt f d (.list [.str w]),m,ds⟩ K):Qq P (⟨some d,.bsl 1 1 [z] [(0,1,r)],none⟩ :: Qg) ⟨f,m,ds⟩ K:=by
 rw[show Qq P (⟨some d,.bsl 1 1 [z] [(0,1,r)],none⟩ :: Qg) ⟨f,m,ds⟩ K=Qq P Qg ⟨Qt f d (.list [.str w]),m,ds⟩ K from IR (y:=[.str w]) (by simp[fill,hr,AV.cells,AV.leaf,Jd,List.range_succ,splice]) rfl rfl];exact h

def X5 (m:SM)(i:Nat):List (List UInt8):=((m.fields.take i).filter fun f=>f.card==1&&f.kind==10).map SF.tname
theorem F3 {m:SM}{i:Nat}{x:SF}(h:m.fields[i]? = some x):X5 m (i+1)=if (x.card==1&&x.kind==10)=true then X5 m i++[x.tname]else X5 m i:=by
 unfold X5;rw[Q0j,h,Q0k,List.filter_append,Q0i];cases hq:(x.card==1&&x.kind==10)
 ·rw[QYR (by decide),List.filter_cons,hq];simp
 ·rw[QYS rfl,List.filter_cons,hq];simp
theorem H7 (m:SM)(i:Nat):(X5 m i).length≤m.fields.length:=by
 unfold X5;rw[QZ5];exact QYL (List.length_filter_le ..) (List.length_take_le' ..)

def NdI (m:SM)(k:Nat)(st:St):Prop :=
 ∃f fr i g,st=⟨f,[fr],[]⟩∧k=m.fields.length-i∧i≤m.fields.length∧f 3=.vec 0 3 g 0 (X5 m i).length false∧f 7=.list (m.fields.map QL)∧f 8=.int .i64 (m.fields.length:Nat)∧f 9=.int .i64 (i:Nat)∧fr 3=.vec g 1 ((X5 m i).map Qo)∧∀s∈[5],(fr s).isRow=false

theorem QDw {M:Nat}(hM:M≤1048576)(m:SM)(hm:m.ok M):Qi Tryz.prog 151 [QM m] (.list ((Zj m).map Qo)):=by
 have hl1:=hm.len1;have hnd:Zj m=X5 m m.fields.length:=by unfold Zj X5;rw[Q0h]
 refine QtI.fn (by simp) ?_;simp only[QM,Xe m,eE,seval];refine ZZ rfl rfl ?_;simp only[QZ5,eE,seval];refine Qe (NdI m) _ ⟨_,_,0,_,rfl,rfl,QYT _,rfl,rfl,rfl,rfl,rfl,by simp<;>rfl⟩ ?_;rintro _ st ⟨f0,fr0,i,g,rfl,rfl,hi,h30,h70,h80,h90,m30,r5⟩;refine QH (a:=_) [5] r5 ?_;intro f fr hf hmm hn5;have h3:f 3=.vec 0 3 g 0 (X5 m i).length false:=by rw[hf,h30]<;>rfl
 have h7:f 7=.list (m.fields.map QL):=by rw[hf,h70]<;>rfl
 have h8:f 8=.int .i64 (m.fields.length:Nat):=by rw[hf,h80]<;>rfl
 have h9:f 9=.int .i64 (i:Nat):=by rw[hf,h90]<;>rfl
 have m3:fr 3=.vec g 1 ((X5 m i).map Qo):=by rw[hmm 3 (by decide),m30]<;>rfl
 have n5:=hn5 5 (by decide);clear hf hmm hn5 h30 h70 h80 h90 m30 r5;simp only[h8,h9,Qa,seval];by_cases hlt:i<m.fields.length
 case neg=>
  have e:i=m.fields.length:=by omega
  subst e;rw[←hnd]at h3 m3;have ht:List.take (Zj m).length (List.map Qo (Zj m))=List.map Qo (Zj m):=QZj (by rw[QZ5];exact QYK _);simp only[Qy hlt,h3,m3,QZ5,QZs,ht,QY9,QYK,QZP,AV.un,eE,seval]
 obtain⟨x,hx⟩:∃x,m.fields[i]? = some x:=⟨m.fields[i],QYN hlt⟩;have hg:(m.fields.map QL)[i]? = some (.agg x.cells):=by rw[QZ3,hx];rfl
 rw[Qz]at hg;have e1:=Ql i _ hlt (by simp only[maxLen];omega);have hln:=H7 m i;have hsu:=F3 hx;have fin:∀(f:Fr) (fr:Nat→Ob) (g:Nat),f 3=.vec 0 3 g 0 (X5 m (i+1)).length false→f 7=.list (m.fields.map QL)→f 8=.int .i64 (m.fields.length:Nat)→f 9=.int .i64 ((i+1:Nat):Int)→fr 3=.vec g 1 ((X5 m (i+1)).map Qo)→(∀s∈[5],(fr s).isRow=false)→∃k,k<m.fields.length-i∧NdI m k ⟨f,[fr],[]⟩ :=
  fun f fr g a b c d e r=>⟨m.fields.length-(i+1),by omega,f,fr,i+1,g,rfl,rfl,by omega,a,b,c,d,e,r⟩
 simp only[Qw hlt,n5,Qj,QZ8,Qd,hg,h7,h9,eE,seval];cases a1:(x.card==1)
 ·rw[a1,Q0c,QYR (by decide)]at hsu;simp only[h9,e1,Qa,seval];exact fin _ _ g (by rw[hsu];exact h3) h7 h8 rfl (by rw[hsu];exact m3) (by simp<;>rfl)
 cases a2:(x.kind==10)
 ·rw[a1,a2,Q0p,QYR (by decide)]at hsu;simp only[a2,h9,e1,eE,seval];exact fin _ _ g (by rw[hsu];exact h3) h7 h8 rfl (by rw[hsu];exact m3) (by simp<;>rfl)
 rw[a1,a2,Q0p,QYS rfl]at hsu;simp only[a2,h3,eE,seval];refine Ja (w:=x.tname) rfl ?_;refine QJ (xs:=(X5 m i).map Qo) rfl m3 rfl (by simp) rfl rfl (by simp only[QYZ,QZR,maxLen];omega) (by simp only[QYZ,QZR];omega) ?_;simp only[h9,e1,Qa,seval];have en:(X5 m (i+1)).length=(X5 m i).length+1:=by rw[hsu];simp
 exact fin _ _ (g+1) (by rw[en];exact rfl) h7 h8 rfl (by rw[hsu,Q0i];exact rfl) (by simp<;>rfl)

def Xr (X:List (List UInt8)):List AV:=X.map fun _=>.bool true
theorem QDx (X:List (List UInt8)):AV.grL (Xr X)=true:=by
 induction X with
 |nil=>rfl
 |cons x X ih=>rw[Xr,QZh,AV.grL,show AV.grL (X.map fun _=>.bool true)=true from ih];rfl
theorem QfZ (X:List (List UInt8)):X.length=(Xr X).length:=by rw[Xr,QZ5]
theorem Ye (n:List UInt8)(X:List (List UInt8)):Jy n X (Xr X)=if X.contains n=true then some (.bool true)else none:=by
 induction X with
 |nil=>rfl
 |cons x X ih=>
  rw[Xr,QZh,Jy,List.contains_cons];cases h:(n==x)
  ·rw[Q0s,←ih];rfl
  ·rw[Q0r,QYS rfl];rfl
theorem Ah (n:List UInt8)(X:List (List UInt8)):XS n (.bool true) X (Xr X)=if X.contains n=true then(X,Xr X)else(X++[n],Xr (X++[n])):=by
 induction X with
 |nil=>rfl
 |cons x X ih=>
  rw[Xr,QZh,XS,List.contains_cons];cases h:(n==x)
  ·rw[show XS n (.bool true) X (X.map fun _=>.bool true)=_ from ih,Q0s];cases X.contains n<;>rfl
  ·rw[Q0r,QYS rfl];rfl

section
variable {M:Nat}(hM:M≤1048576)(S:SC)(hS:S.ok M)(n:List UInt8)(X:List (List UInt8))(fr:Nat→Ob)(o1:fr 1=.cells [.list (S.msgs.map fun n=>.agg n.cells),.list (S.enums.map fun n=>.agg n.cells),.list (S.servs.map fun n=>.agg n.cells)])
include hM hS in
theorem QSK (o1:fr 1=.cells [.list (S.msgs.map fun n=>.agg n.cells),.list (S.enums.map fun n=>.agg n.cells),.list (S.servs.map fun n=>.agg n.cells)])(o3:fr 3=.cells [.mptr 0 9])(o9:fr 9=.iter (.mp X (Xr X)) 0) :
  Qf Tryz.prog 152 [Qo n,.ptr 2 1 0,.ptr 2 3 0] [Qc,Qc,fr] fun y m1=>y=.bool (Q6 S n && !X.contains n)∧m1=[Qc,Qc,fr]:=by
 obtain⟨l1,_,_⟩:=Jr S hS hM;have hc:=Fj S l1 n;simp only[QM,SM.cells,SC.av]at hc;have hg:AV.gr (.bool true)=true:=rfl;refine QvN.go (by simp) ?_;simp only[Qo,o1,eE,seval];refine aC hc ?_;cases Q6 S n
 ·simp only[Q0c,eE,seval]
 cases hX:X.contains n
 ·simp only[QZN,ZH,Ye,hX,QY3,o3,o9,eE,seval]
 ·simp only[Q0p,Q0q,ZH,Ye,hX,hg,o3,o9,eE,seval]

include hM hS in
theorem QSL (o3:fr 3=.cells [.list (S.msgs.map fun n=>.agg n.cells),.list (S.enums.map fun n=>.agg n.cells),.list (S.servs.map fun n=>.agg n.cells)])(o5:fr 5=.cells [.mp X (Xr X)]) :
  Qf Tryz.prog 216 [Qo n,.ptr 2 3 0,.ptr 2 5 0] [Qc,Qc,fr] fun y m1=>y=.bool (Q6 S n && !X.contains n)∧m1=[Qc,Qc,fr]:=by
 obtain⟨l1,_,_⟩:=Jr S hS hM;have hc:=Fj S l1 n;simp only[QM,SM.cells,SC.av]at hc;have hg:AV.gr (.bool true)=true:=rfl;refine Qtv.go (by simp) ?_;simp only[Qo,o3,eE,seval];refine aC hc ?_;cases Q6 S n
 ·simp only[Q0c,eE,seval]
 cases hX:X.contains n
 ·simp only[QZN,ZH,Ye,hX,QY3,o5,eE,seval]
 ·simp only[Q0p,Q0q,ZH,Ye,hX,hg,o5,eE,seval]

include hM hS in
theorem QSM (m:SM)(hm:m.ok M):Qi Tryz.prog 158 [S.av,QM m,.mp X (Xr X)] (.bool ((Zj m).any fun n=>Q6 S n && !X.contains n)):=by
 have hln:(Zj m).length≤maxLen:=by
  have h1:=H7 m m.fields.length;have h2:=hm.len1;have h3:Zj m=X5 m m.fields.length:=by unfold Zj X5;rw[Q0h]
  rw[h3];simp only[maxLen];omega
 have hc:=QDw hM m hm;simp only[QM,SM.cells]at hc;refine Qtp.fn (by simp) ?_;simp only[SC.av,QM,SM.cells,eE,seval];refine aC hc ?_;simp only[Qa,seval];refine Qb (Ps (Zj m) hln (fun n=>Q6 S n && !X.contains n) 216 [.ptr 0 3 0,.ptr 0 5 0] _ fun o _=>QSL hM S hS o X _ rfl rfl) (by simp only[QZh,QZG,Qa,seval]<;>rfl) ?_;simp only[Qa,seval]
end

section
variable {M:Nat}(hM:M≤1048576)(S:SC)(hS:S.ok M)
def FoI (S:SC)(k:Nat)(st:St):Prop :=
 ∃f fr i,st=⟨f,[fr],[]⟩∧k=S.msgs.length+1-i∧i≤S.msgs.length+1∧f 1=.ptr 0 1 0∧f 3=.ptr 0 3 0∧f 13=.int .i64 ((S.msgs.length+1:Nat):Int)∧f 14=.int .i64 (i:Nat)∧
  fr 1=.cells [.list (S.msgs.map fun n=>.agg n.cells),.list (S.enums.map fun n=>.agg n.cells),.list (S.servs.map fun n=>.agg n.cells)]∧fr 3=.cells [.mptr 0 9]∧fr 9=.iter (.mp (Y4 S i) (Xr (Y4 S i))) 0∧∀s∈[5,6],(fr s).isRow=false

include hM hS in
theorem QDy (X:List (List UInt8))(f:Fr)(fr:Nat→Ob)(h1:f 1=.ptr 0 1 0)(h3:f 3=.ptr 0 3 0)(h17:f 17=.list (S.msgs.map QM))(h18:f 18=.int .i64 (S.msgs.length:Nat))(h19:f 19=.int .i64 0)
  (m1:fr 1=.cells [.list (S.msgs.map fun n=>.agg n.cells),.list (S.enums.map fun n=>.agg n.cells),.list (S.servs.map fun n=>.agg n.cells)]) (m3:fr 3=.cells [.mptr 0 9]) (m9:fr 9=.iter (.mp X (Xr X)) 0) (Un:∀s∈[5,6],(fr s).isRow=false) (h13:f 13=.int .i64 ((S.msgs.length+1:Nat):Int)) (r:Int) (h14:f 14=.int .i64 r) (Q:Exit→St→Prop)
  (hq:∀(f:Fr) (fr:Nat→Ob),f 1=.ptr 0 1 0→f 3=.ptr 0 3 0→f 13=.int .i64 ((S.msgs.length+1:Nat):Int)→f 14=.int .i64 r→fr 1=.cells [.list (S.msgs.map fun n=>.agg n.cells),.list (S.enums.map fun n=>.agg n.cells),.list (S.servs.map fun n=>.agg n.cells)]→fr 3=.cells [.mptr 0 9]→fr 9=.iter (.mp (H0 S X) (Xr (H0 S X))) 0→(∀s∈[5,6],(fr s).isRow=false)→Q (.exit 2) ⟨f,[fr],[]⟩) :
  QN Tryz.prog (.loop Ta) ⟨f,[fr],[]⟩ Q:=by
 obtain⟨l1,_,_⟩:=Jr S hS hM
 let I:Nat→St→Prop:=fun k st=>∃f fr i,st=⟨f,[fr],[]⟩∧k=S.msgs.length-i∧i≤S.msgs.length∧f 1=.ptr 0 1 0∧f 3=.ptr 0 3 0∧f 17=.list (S.msgs.map QM)∧f 18=.int .i64 (S.msgs.length:Nat)∧f 19=.int .i64 (i:Nat)∧f 13=.int .i64 ((S.msgs.length+1:Nat):Int)∧f 14=.int .i64 r∧
  fr 1=.cells [.list (S.msgs.map fun n=>.agg n.cells),.list (S.enums.map fun n=>.agg n.cells),.list (S.servs.map fun n=>.agg n.cells)]∧fr 3=.cells [.mptr 0 9]∧fr 9=.iter (.mp ((S.msgs.take i).foldl (ZM S) X) (Xr ((S.msgs.take i).foldl (ZM S) X))) 0∧∀s∈[5,6],(fr s).isRow=false
 refine Qe I _ ⟨f,fr,0,rfl,rfl,QYT _,h1,h3,h17,h18,h19,h13,h14,m1,m3,m9,Un⟩ ?_;clear h1 h3 h17 h18 h19 h13 h14 m1 m3 m9 Un;rintro _ st ⟨f0,fr0,i,rfl,rfl,hi,h10,h30,h170,h180,h190,h130,h140,m10,m30,m90,Un⟩;refine QH (a:=_) [6,5] (by intro s hs;exact Un s (by simp only[QZ0,Q0Q,or_false]at hs ⊢;omega)) ?_;intro f fr hf hmm hn;have h1:f 1=.ptr 0 1 0:=by rw[hf,h10]<;>rfl
 have h3:f 3=.ptr 0 3 0:=by rw[hf,h30]<;>rfl
 have h17:f 17=.list (S.msgs.map QM):=by rw[hf,h170]<;>rfl
 have h18:f 18=.int .i64 (S.msgs.length:Nat):=by rw[hf,h180]<;>rfl
 have h19:f 19=.int .i64 (i:Nat):=by rw[hf,h190]<;>rfl
 have h13:f 13=.int .i64 ((S.msgs.length+1:Nat):Int):=by rw[hf,h130]<;>rfl
 have h14:f 14=.int .i64 r:=by rw[hf,h140]<;>rfl
 have m1:fr 1=.cells [.list (S.msgs.map fun n=>.agg n.cells),.list (S.enums.map fun n=>.agg n.cells),.list (S.servs.map fun n=>.agg n.cells)]:=by rw[hmm 1 (by decide),m10]<;>rfl
 have m3:fr 3=.cells [.mptr 0 9]:=by rw[hmm 3 (by decide),m30]<;>rfl
 have m9:fr 9=.iter (.mp ((S.msgs.take i).foldl (ZM S) X) (Xr ((S.msgs.take i).foldl (ZM S) X))) 0:=by rw[hmm 9 (by decide),m90]<;>rfl
 have n5:=hn 5 (by decide);have n6:=hn 6 (by decide);clear hf hmm hn h10 h30 h170 h180 h190 h130 h140 m10 m30 m90 Un;simp only[h18,h19,Qa,seval];by_cases hlt:i<S.msgs.length
 case neg=>
  have e:(S.msgs.take i).foldl (ZM S) X=H0 S X:=by rw[QZj (by omega)];rfl
  rw[e]at m9;simp only[Qy hlt,Qa,seval];exact hq _ _ h1 h3 h13 h14 m1 m3 m9 (by simp only[QZ0,Q0Q,or_false];rintro s (rfl|rfl)<;>simp only[n5,n6]<;>rfl)
 obtain⟨x,hx⟩:∃x,S.msgs[i]? = some x:=⟨S.msgs[i],QYN hlt⟩;have hmem:x∈S.msgs:=QYY hx;have hg:(S.msgs.map QM)[i]? = some (.agg x.cells):=by rw[QZ3,hx];rfl
 simp only[SM.cells]at hg;have e1:=Ql i _ hlt l1;have hc:=Fj S l1 x.name;simp only[QM,SM.cells,SC.av]at hc;obtain⟨y,hy⟩:∃y,S.msgs.find? (fun m=>m.name==x.name)=some y:=by
  cases hq:S.msgs.find? (fun m=>m.name==x.name)with
  |none=>have:=Q0z.1 hq x hmem;simp at this
  |some y=>exact⟨y,rfl⟩
 have hym:=hS.msgs y (Q0B hy);have hnl:(Zj y).length≤maxLen:=by
  have h1:=H7 y y.fields.length;have h2:=hym.len1;have h3:Zj y=X5 y y.fields.length:=by unfold Zj X5;rw[Q0h]
  rw[h3];simp only[maxLen];omega
 have hnd:=QDw hM y hym;simp only[QM,SM.cells]at hnd;rw[hy,QZQ]at hc;have hst:(S.msgs.take (i+1)).foldl (ZM S) X=ZM S ((S.msgs.take i).foldl (ZM S) X) x:=by
  rw[Q0j,hx,Q0k,List.foldl_append];rfl
 have hfs:∀Y,ZM S Y x=if (Zj y).any (fun n=>Q6 S n && !Y.contains n)=true then Y else if Y.contains x.name=true then Y else Y++[x.name]:=by
  intro Y;unfold ZM;rw[hy]
 have fin:∀(f:Fr) (fr:Nat→Ob),f 1=.ptr 0 1 0→f 3=.ptr 0 3 0→f 17=.list (S.msgs.map QM)→f 18=.int .i64 (S.msgs.length:Nat)→f 19=.int .i64 ((i+1:Nat):Int)→f 13=.int .i64 ((S.msgs.length+1:Nat):Int)→f 14=.int .i64 r→fr 1=.cells [.list (S.msgs.map fun n=>.agg n.cells),.list (S.enums.map fun n=>.agg n.cells),.list (S.servs.map fun n=>.agg n.cells)]→fr 3=.cells [.mptr 0 9]→fr 9=.iter (.mp ((S.msgs.take (i+1)).foldl (ZM S) X) (Xr ((S.msgs.take (i+1)).foldl (ZM S) X))) 0→(∀s∈[5,6],(fr s).isRow=false)→∃k,k<S.msgs.length-i∧I k ⟨f,[fr],[]⟩ :=
  fun f fr a b c d e g h j k l n=>⟨S.msgs.length-(i+1),by omega,f,fr,i+1,rfl,rfl,by omega,a,b,c,d,e,g,h,j,k,l,n⟩
 generalize hY:(S.msgs.take i).foldl (ZM S) X=Y at m9 hst;rw[hst,hfs]at fin;simp only[Qw hlt,n5,Qj,QZ8,Qd,hg,m1,h1,h17,h19,eE,seval];refine aC hc ?_;simp only[n6,eE,seval];refine aC hnd ?_;simp only[Qa,seval];refine Qb (Ps (Zj y) hnl (fun n=>Q6 S n && !Y.contains n) 152 [.ptr 0 1 0,.ptr 0 3 0] _ fun o _=>QSK hM S hS o Y _ m1 m3 m9) (by simp only[QZh,QZG,h1,h3,Qa,seval]<;>rfl) ?_;cases hb:(Zj y).any fun n=>Q6 S n && !Y.contains n
 ·rw[hb,QYR (by decide)]at fin;simp only[QZN,h3,m3,eE,seval];refine⟨0,9,Y,Xr Y,0,x.name,rfl,by simp only[m9,eE,seval],rfl,rfl,QDx Y,QfZ Y,?_⟩;rw[show RA.ev _ (.c (.bool true))=AV.bool true from rfl,Ah];cases hYc:Y.contains x.name
  ·rw[hYc,QYR (by decide)]at fin;simp only[Qn,QY3,h19,e1,eE,seval];exact fin _ _ h1 h3 h17 h18 rfl h13 h14 m1 m3 rfl (by simp only[QZ0,Q0Q,or_false];rintro s (rfl|rfl)<;>rfl)
  ·rw[hYc,QYS rfl]at fin;simp only[Qn,h19,e1,eE,seval];exact fin _ _ h1 h3 h17 h18 rfl h13 h14 m1 m3 rfl (by simp only[QZ0,Q0Q,or_false];rintro s (rfl|rfl)<;>rfl)
 ·rw[hb,QYS rfl]at fin;simp only[Q0q,h19,e1,Qa,seval];exact fin _ _ h1 h3 h17 h18 rfl h13 h14 m1 m3 m9 (by simp only[QZ0,Q0Q,or_false];rintro s (rfl|rfl)<;>rfl)

include hM hS in
theorem QSN:Qi Tryz.prog 100 [S.av] (.mp (Y5 S) (Xr (Y5 S))):=by
 obtain⟨l1,_,_⟩:=Jr S hS hM;have hlm:=hS.len1;have w1:IntKind.i64.wrap ((S.msgs.length:Int)+1)=((S.msgs.length+1:Nat):Int):=by rw[QU];omega
 refine QvH.fn (by simp) ?_;simp only[SC.av,eE,seval];refine⟨rfl,?_⟩;simp only[Qn,QZ5,w1,eE,seval];refine Qe (FoI S) _ ⟨_,_,0,rfl,rfl,QYT _,rfl,rfl,rfl,rfl,rfl,rfl,rfl,by intro s hs;simp only[QZ0,Q0Q,or_false]at hs;rcases hs with rfl|rfl<;>rfl⟩ ?_;rintro _ st ⟨f0,fr0,i,rfl,rfl,hi,h10,h30,h130,h140,m10,m30,m90,Un⟩;refine QH (a:=_) [6,5] (by intro s hs;exact Un s (by simp only[QZ0,Q0Q,or_false]at hs ⊢;omega)) ?_;intro f fr hf hmm hn;have h1:f 1=.ptr 0 1 0:=by rw[hf,h10]<;>rfl
 have h3:f 3=.ptr 0 3 0:=by rw[hf,h30]<;>rfl
 have h13:f 13=.int .i64 ((S.msgs.length+1:Nat):Int):=by rw[hf,h130]<;>rfl
 have h14:f 14=.int .i64 (i:Nat):=by rw[hf,h140]<;>rfl
 have m1:fr 1=.cells [.list (S.msgs.map fun n=>.agg n.cells),.list (S.enums.map fun n=>.agg n.cells),.list (S.servs.map fun n=>.agg n.cells)]:=by rw[hmm 1 (by decide),m10]<;>rfl
 have m3:fr 3=.cells [.mptr 0 9]:=by rw[hmm 3 (by decide),m30]<;>rfl
 have m9:fr 9=.iter (.mp (Y4 S i) (Xr (Y4 S i))) 0:=by rw[hmm 9 (by decide),m90]<;>rfl
 have n5:=hn 5 (by decide);have n6:=hn 6 (by decide);clear hf hmm hn h10 h30 h130 h140 m10 m30 m90 Un;simp only[h13,h14,Qa,seval];by_cases hlt:i<S.msgs.length+1
 case neg=>
  have e:i=S.msgs.length+1:=by omega
  subst e;simp only[Qy hlt,h3,m3,m9,eE,seval];rfl
 have e1:=Ql i _ hlt (by simp only[maxLen];omega);simp only[Qw hlt,m1,h1,QZ5,eE,seval];refine QDy hM S hS (Y4 S i) _ _ (by exact h1) (by exact h3) (by rfl) (by rfl) (by rfl) (by exact m1) (by exact m3) (by exact m9) (by simp only[QZ0,Q0Q,or_false];rintro s (rfl|rfl)<;>simp only[n5,n6]<;>rfl) (by exact h13) _ (by exact h14) _ (fun f fr h1 h3 h13 h14 m1 m3 m9 Un=>?_);simp only[h14,e1,Qa,seval];exact⟨S.msgs.length+1-(i+1),by omega,_,_,i+1,rfl,rfl,by omega,(by exact h1),(by exact h3),(by exact h13),(by rfl),(by exact m1),(by exact m3),(by exact m9),Un⟩
end

theorem YE (S:SC)(m:SM)(i:Nat)(x:SF):(Kq S m i x).length≤10:=by
 unfold Kq XJ;exact Qx (Qx (Qx (Qx (Qx (Qx (Qx (Qx (Qx (Q7 _ _ _ _) _ _ _ _) _ _ _ _) _ _ _ _) _ _ _ _) _ _ _ _) _ _ _ _) _ _ _ _) _ _ _ _) _ _ _ _
theorem Hc {fr:Nat→Ob}{s R:Nat}{d:List UInt8}{n:Int}{l:List PB}(h1:fr s=.cells [.str d,.int .i64 n,.vec 0 R (1+l.length) 0 l.length false])(h2:fr R=.vec (1+l.length) 3 (l.map PB.av)):Qr fr s R d n l=fr:=by
 rw[Qr,U1 _ _ _ h2,U1 _ _ _ h1]
theorem Bq (fr:Nat→Ob)(s R:Nat)(d:List UInt8)(n:Int)(h:R≠s)(A:Ob):Qt (Qt (Qt fr s A) R (.vec 1 3 [])) s (.cells ([.str d,.int .i64 n,.nils].set 2 (.vec 0 R 1 0 0 false)))=Qr fr s R d n []:=by
 rw[JH _ _ _ _ _ (Ne.symm h),Kj];rfl
theorem Fo {fr:Nat→Ob}{s R:Nat}{d:List UInt8}{n:Int}{l:List PB}{k:Nat}(h1:k≠R)(h2:k≠s)(o:Ob):Qt (Qr fr s R d n l) k o=Qr (Qt fr k o) s R d n l:=by
 rw[Qr,Qr,JH _ _ _ _ _ (Ne.symm h2),JH _ _ _ _ _ (Ne.symm h1)]

section
variable {M:Nat}(hM:M≤1048576)(S:SC)(hS:S.ok M)(m:SM)(hm:m.ok M)(X:List (List UInt8))(base:Nat→Ob)
variable (b3:base 3=.cells [.list (S.msgs.map fun n=>.agg n.cells),.list (S.enums.map fun n=>.agg n.cells),.list (S.servs.map fun n=>.agg n.cells)])(b4:base 4=.cells [.str m.name,.list (m.fields.map fun n=>.agg n.cells),.list (m.free.map fun n=>.agg n.cells),.list (m.gone.map AV.str),.list (m.notes.map fun n=>.agg n.cells)])

def MF (X:List (List UInt8))(f:Fr):Prop:=f 2=.mp X (Xr X)∧f 3=.ptr 0 3 0∧f 4=.ptr 0 4 0∧f 7=.ptr 0 14 0

include hM hS hm b3 b4 in
theorem Ai (l:List PB)(hl:l.length≤1000000)(f:Fr)(hf:MF X f)(h38:f 38=.int .i64 (m.fields.length:Nat))(h39:f 39=.int .i64 0)(Q:Exit→St→Prop)
  (hq:∀f,MF X f→Q (.exit 0) ⟨f,[Qr base 14 1100 m.name (-1) (l++upto m.fields (Kq S m) m.fields.length)],[]⟩):QN Tryz.prog (.loop Nm) ⟨f,[Qr base 14 1100 m.name (-1) l],[]⟩ Q:=by
 let I:Nat→St→Prop:=fun k st=>∃f i,st=⟨f,[Qr base 14 1100 m.name (-1) (l++upto m.fields (Kq S m) i)],[]⟩∧k=m.fields.length-i∧i≤m.fields.length∧MF X f∧f 38=.int .i64 (m.fields.length:Nat)∧f 39=.int .i64 (i:Nat)
 have hl1:=hm.len1;have c3:∀n l,Qr base 14 1100 m.name n l 3=base 3:=fun n l=>Q0 _ _ _ _ _ _ (by decide) (by decide)
 have c4:∀n l,Qr base 14 1100 m.name n l 4=base 4:=fun n l=>Q0 _ _ _ _ _ _ (by decide) (by decide)
 refine Qe I _ ⟨f,0,by rw[upto,QZI],rfl,QYT _,hf,h38,h39⟩ ?_;clear hf h38 h39;rintro _ st ⟨f,i,rfl,rfl,hi,⟨h2,h3,h4,h7⟩,h38,h39⟩;simp only[Nm,S2,h38,h39,Qa,seval];by_cases hlt:i<m.fields.length
 case neg=>
  have e:i=m.fields.length:=by omega
  subst e;simp only[Qy hlt,Qa,seval];exact hq _ ⟨h2,h3,h4,h7⟩
 obtain⟨x,hx⟩:∃x,m.fields[i]? = some x:=⟨m.fields[i],QYN hlt⟩;have e1:=Ql i _ hlt (by simp only[maxLen];omega);have hul:=QZ (l:=m.fields) (YE S m) i;have hfl:=QSJ base 14 1100 (by decide) rfl [] hM S hS m hm i x hx (l++upto m.fields (Kq S m) i) (by rw[QZn];omega) (-1);simp only[SC.av,QM,Xe m]at hfl;simp only[Qw hlt,S3,S4,S5,c3,c4,b3,b4,h3,h4,h7,h39,eE,seval];refine Qb hfl (by simp only[QZh,QZG,Qa,seval]<;>rfl) ?_;simp only[h39,e1,Qa,seval];exact⟨m.fields.length-(i+1),by omega,_,i+1,by rw[Zw hx,QY4],rfl,by omega,⟨(by exact h2),(by exact h3),(by exact h4),(by exact h7)⟩,(by exact h38),(by rfl)⟩

include hM hm in
theorem Qf0 (l:List PB)(hl:l.length≤100000000)(f:Fr)(hf:MF X f)(h53:f 53=.list (m.gone.map AV.str))(h54:f 54=.int .i64 (m.gone.length:Nat))(h55:f 55=.int .i64 0)(Q:Exit→St→Prop)
  (hq:∀f,MF X f→Q (.exit 2) ⟨f,[Qr base 14 1100 m.name (-1) (l++upto m.gone (fun _ g=>pb m.name (-1) (Z9 g) 7) m.gone.length)],[]⟩):QN Tryz.prog (.loop Nn) ⟨f,[Qr base 14 1100 m.name (-1) l],[]⟩ Q:=by
 let I:Nat→St→Prop:=fun k st=>∃f i,st=⟨f,[Qr base 14 1100 m.name (-1) (l++upto m.gone (fun _ g=>pb m.name (-1) (Z9 g) 7) i)],[]⟩∧k=m.gone.length-i∧i≤m.gone.length∧MF X f∧f 53=.list (m.gone.map AV.str)∧f 54=.int .i64 (m.gone.length:Nat)∧f 55=.int .i64 (i:Nat)
 have hl1:=hm.len3;refine Qe I _ ⟨f,0,by rw[upto,QZI],rfl,QYT _,hf,h53,h54,h55⟩ ?_;clear hf h53 h54 h55;rintro _ st ⟨f,i,rfl,rfl,hi,⟨h2,h3,h4,h7⟩,h53,h54,h55⟩;simp only[Nn,CD,h54,h55,Qa,seval];by_cases hlt:i<m.gone.length
 case neg=>
  have e:i=m.gone.length:=by omega
  subst e;simp only[Qy hlt,Qa,seval];exact hq _ ⟨h2,h3,h4,h7⟩
 obtain⟨x,hx⟩:∃x,m.gone[i]? = some x:=⟨m.gone[i],QYN hlt⟩;have hg:(m.gone.map AV.str)[i]? = some (.str x):=by rw[QZ3,hx];rfl
 have hxl:=hm.gone x (QYY hx);have e1:=Ql i _ hlt (by simp only[maxLen];omega);have hul:=QZ (l:=m.gone) (g:=fun _ g=>pb m.name (-1) (Z9 g) 7) (c:=1) (fun _ g=>Q7 ..) i;have hfl:=XQ base 14 1100 m.name (-1) (l++upto m.gone (fun _ g=>pb m.name (-1) (Z9 g) 7) i) (by decide) rfl (by rw[QZn];omega) (Z9 x) 7 [];simp only[Qw hlt,CE,CF,CG,Qj,QZ8,Qd,hg,h7,h53,h55,eE,seval];refine aC (Pu x) ?_
 try simp only[eE,seval]
 refine Qb hfl (by simp only[QZh,QZG,Qa,seval]<;>rfl) ?_;simp only[h55,e1,Qa,seval];exact⟨m.gone.length-(i+1),by omega,_,i+1,by rw[Zw hx,QY4],rfl,by omega,⟨(by exact h2),(by exact h3),(by exact h4),(by exact h7)⟩,(by exact h53),(by exact h54),(by rfl)⟩

theorem QMa (a b:Nat):decide ((if (a:Int)<(b:Int)then(b:Int)else(a:Int))≤16)=(decide (a≤16)&&decide (b≤16)):=by
 rw[QZB,QY7,QZ2,QZ2,QZ2];split<;>omega
theorem PD (a:Nat):decide ((a:Int)≤64)=decide (a≤64):=(by rw[QZB];simp only[QZ2];omega)

include hM hm b4 in
theorem im3 (l:List PB)(hl:l.length≤1000000)(f:Fr)(hf:MF X f)(K:St→Prop)
  (hK:∀f,MF X f→K ⟨f,[Qr base 14 1100 m.name (-1) (l++pb m.name (-1) (decide (m.fields.length≤64)&&decide (m.free.length≤16)&&decide (m.gone.length≤16)) 3)],[]⟩):Qq Tryz.prog Nl ⟨f,[Qr base 14 1100 m.name (-1) l],[]⟩ K:=by
 obtain⟨h2,h3,h4,h7⟩:=hf;have c4:∀n l,Qr base 14 1100 m.name n l 4=base 4:=fun n l=>Q0 _ _ _ _ _ _ (by decide) (by decide)
 rw[Bool.and_assoc]at hK;simp only[Nl,c4,b4,QZ5,PD,h4,h7,eE,seval];cases a1:decide (m.fields.length≤64)
 ·rw[a1]at hK;simp only[Qa,seval];refine Qb (XQ base 14 1100 m.name (-1) l (by decide) rfl (by omega) false 3 []) (by simp only[QZh,QZG,Qa,seval]<;>rfl) ?_;simp only[Qa,seval];exact hK _ ⟨h2,h3,h4,h7⟩
 ·rw[a1]at hK;simp only[c4,b4,QZ5,QMa,h4,eE,seval];refine Qb (XQ base 14 1100 m.name (-1) l (by decide) rfl (by omega) (decide (m.free.length≤16)&&decide (m.gone.length≤16)) 3 []) (by simp only[QZh,QZG,Qa,seval]<;>rfl) ?_;simp only[Qa,seval];exact hK _ ⟨h2,h3,h4,h7⟩
end

theorem QSO {M:Nat}(hM:M≤1048576)(S:SC)(hS:S.ok M)(m:SM)(hm:m.ok M)(X:List (List UInt8)):Qi Tryz.prog 101 [S.av,QM m,.mp X (Xr X)] (.list ((JQ S (fun m=>(Zj m).any fun n=>Q6 S n && !X.contains n) m).map PB.av)):=by
 have hl1:=hm.len1;have hl2:=hm.len2;have hl3:=hm.len3;have hl4:=hm.len4;have hnl:=hm.name;have hcy:=QSM hM S hS X m hm;simp only[SC.av,QM,Xe m]at hcy;refine Qtk.fn (by simp) ?_;simp only[EI,EJ,SY,SZ,SC.av,QM,Xe m,eE,seval];refine Xf rfl rfl rfl rfl ?_;generalize hb:(Qt (Qt Qc 3 _) 4 _:Nat→Ob)=base;have b3:base 3=.cells [.list (S.msgs.map fun n=>.agg n.cells),.list (S.enums.map fun n=>.agg n.cells),.list (S.servs.map fun n=>.agg n.cells)]:=by rw[←hb];exact rfl
 have b4:base 4=.cells [.str m.name,.list (m.fields.map fun n=>.agg n.cells),.list (m.free.map fun n=>.agg n.cells),.list (m.gone.map AV.str),.list (m.notes.map fun n=>.agg n.cells)]:=by rw[←hb];exact rfl
 have c3:∀n l,Qr base 14 1100 m.name n l 3=base 3:=fun n l=>Q0 _ _ _ _ _ _ (by decide) (by decide)
 have c4:∀n l,Qr base 14 1100 m.name n l 4=base 4:=fun n l=>Q0 _ _ _ _ _ _ (by decide) (by decide)
 have cs:∀n l,Qr base 14 1100 m.name n l 14=.cells [.str m.name,.int .i64 n,.vec 0 1100 (1+l.length) 0 l.length false]:=fun n l=>Kf base 14 1100 m.name n l
 have cR:∀n l,Qr base 14 1100 m.name n l 1100=.vec (1+l.length) 3 (l.map PB.av):=fun n l=>Wu base 14 1100 m.name n l (by decide)
 rw[Bq base 14 1100 m.name (-1) (by decide)];simp only[S0,c4,b4,eE,seval];refine aC (Ia m.name (by omega)) ?_
 try simp only[eE,seval]
 refine Qb (XQ base 14 1100 m.name (-1) [] (by decide) rfl (by simp) (XE m.name) 8 []) (by simp only[QZh,QZG,Qa,seval]<;>rfl) ?_;simp only[QY6,Qa,seval];have q1:=Q7 m.name (-1) (XE m.name) 8;refine im3 hM m hm X base b4 _ (by omega) _ ⟨(by rfl),(by rfl),(by rfl),(by rfl)⟩ _ (fun f hf=>?_);have q2:=Qx q1 m.name (-1) (decide (m.fields.length≤64)&&decide (m.free.length≤16)&&decide (m.gone.length≤16)) 3;obtain⟨h2,h3,h4,h7⟩:=hf;simp only[S1,c4,b4,QZ5,h4,eE,seval];refine Ai hM S hS m hm X base b3 b4 _ (by omega) _ ⟨(by exact h2),(by exact h3),(by exact h4),(by exact h7)⟩ (by rfl) (by rfl) _ (fun f hf=>?_);clear h2 h3 h4 h7;have q3:=QZ (l:=m.fields) (YE S m) m.fields.length;obtain⟨h2,h3,h4,h7⟩:=hf;simp only[S6,c4,b4,h4,h7,eE,seval];have hsp:=QaJ base 14 1100 m.name (pb m.name (-1) (XE m.name) 8++pb m.name (-1) (decide (m.fields.length≤64)&&decide (m.free.length≤16)&&decide (m.gone.length≤16)) 3++upto m.fields (Kq S m) m.fields.length) (by decide) rfl 1 65535 m.free (by omega) [] (by rw[QZn];omega);refine Qb hsp (by simp only[QZh,QZG,Qa,seval]<;>rfl) ?_;simp only[CC,c4,b4,QZ5,h4,eE,seval];have q4:=QZ (l:=m.free) (Ku m.name 1 65535 m.free) m.free.length;have q5:(pb m.name (-1) (XE m.name) 8++pb m.name (-1) (decide (m.fields.length≤64)&&decide (m.free.length≤16)&&decide (m.gone.length≤16)) 3++upto m.fields (Kq S m) m.fields.length++upto m.free (KF m.name 1 65535 m.free) m.free.length).length≤99000000:=by
  rw[QZn,QZn];omega
 refine Qf0 hM m hm X base _ (by omega) _ ⟨(by exact h2),(by exact h3),(by exact h4),(by exact h7)⟩ (by rfl) (by rfl) (by rfl) _ (fun f hf=>?_);clear h2 h3 h4 h7;have q6:=QZ (l:=m.gone) (g:=fun _ g=>pb m.name (-1) (Z9 g) 7) (c:=1) (fun _ g=>Q7 ..) m.gone.length;generalize hL:pb m.name (-1) (XE m.name) 8++pb m.name (-1) (decide (m.fields.length≤64)&&decide (m.free.length≤16)&&decide (m.gone.length≤16)) 3++upto m.fields (Kq S m) m.fields.length++upto m.free (KF m.name 1 65535 m.free) m.free.length++upto m.gone (fun _ g=>pb m.name (-1) (Z9 g) 7) m.gone.length=L;have q7:L.length≤101000000:=by
  rw[←hL,QZn];omega
 obtain⟨h2,h3,h4,h7⟩:=hf;simp only[CH,c4,b4,h4,h7,eE,seval];refine Qb (Dh base 14 1100 m.name (-1) L (by decide) rfl (by omega) [] m.notes (by simp only[maxLen];omega) hm.notes 1 (by decide)) (by simp only[QZh,QZG,Qa,seval]<;>rfl) ?_;have q8:(L++XJ m.name (-1) m.notes 1).length≤101000001:=Qx q7 _ _ _ _;simp only[CI,c3,c4,b3,b4,h2,h3,h4,h7,eE,seval];refine aC hcy ?_;simp only[Qa,seval];refine Qb (XQ base 14 1100 m.name (-1) (L++XJ m.name (-1) m.notes 1) (by decide) rfl (by omega) _ 19 []) (by simp only[QZh,QZG,Qa,seval]<;>rfl) ?_;have hfin:JQ S (fun m=>(Zj m).any fun n=>Q6 S n && !X.contains n) m=L++XJ m.name (-1) m.notes 1++pb m.name (-1) (!(Zj m).any fun n=>Q6 S n && !X.contains n) 19:=by rw[←hL];rfl
 rw[←hfin];have ht:∀l:List PB,List.take l.length (List.map PB.av l)=List.map PB.av l:=fun l=>QZj (by rw[QZ5];exact QYK _)
 simp only[CJ,cs,cR,h7,QZ5,QZs,ht,QY9,QYK,QZJ,QZP,AV.un,eE,seval]

theorem YF (e:SE)(i:Nat)(x:SI):(JR e i x).length≤6:=by
 unfold JR XJ;exact Qx (Qx (Qx (Qx (Qx (Q7 _ _ _ _) _ _ _ _) _ _ _ _) _ _ _ _) _ _ _ _) _ _ _ _
theorem JT (x:SI):x.cells=[.str x.name,.int .i64 x.num,.list (x.notes.map fun n=>.agg n.cells)]:=rfl
theorem XR (x:SE):x.cells=[.str x.name,.bool x.opn,.list (x.items.map fun n=>.agg n.cells),.list (x.free.map fun n=>.agg n.cells),.list (x.notes.map fun n=>.agg n.cells)]:=rfl

def EF (e:SE)(i:Nat)(f:Fr):Prop:=f 1=.ptr 0 1 0∧f 3=.ptr 0 9 0∧f 4=.int .i64 (i:Nat)∧f 5=.ptr 0 5 0∧f 48=.list (e.items.map ZW)∧f 49=.int .i64 (e.items.length:Nat)∧f 50=.int .i64 (i:Nat)

section
variable {M:Nat}(hM:M≤1048576)(e:SE)(he:e.ok M)(i:Nat)(x:SI)(hi:e.items[i]? = some x)
variable (fr:Nat→Ob)(o1:fr 1=.cells e.cells)(o5:fr 5=.cells x.cells)
variable (l:List PB)(hl:l.length≤1073741824)(f:Fr)(hf:EF e i f)(K:St→Prop)
include hl hf

include o5 in
theorem en9 (hK:∀f,EF e i f→K ⟨f,[Qr fr 9 1100 e.name x.num (l++pb e.name x.num (decide (x.num≥0)&&decide (x.num≤2147483647)) 6)],[]⟩):Qq Tryz.prog Nj ⟨f,[Qr fr 9 1100 e.name x.num l],[]⟩ K:=by
 obtain⟨h1,h3,h4,h5,h48,h49,h50⟩:=hf;have c5:∀n l,Qr fr 9 1100 e.name n l 5=fr 5:=fun n l=>Q0 _ _ _ _ _ _ (by decide) (by decide)
 rw[JT]at o5;simp only[Nj,h3,h5,c5,o5,eE,seval];cases a1:decide (x.num≥0)
 ·rw[a1]at hK;simp only[Qa,seval];refine Qb (XQ fr 9 1100 e.name x.num l (by decide) rfl hl false 6 []) (by simp only[QZh,QZG,Qa,seval]<;>rfl) ?_;simp only[Qa,seval];exact hK _ ⟨h1,h3,h4,h5,h48,h49,h50⟩
 ·rw[a1]at hK;simp only[h5,c5,o5,eE,seval];refine Qb (XQ fr 9 1100 e.name x.num l (by decide) rfl hl (decide (x.num≤2147483647)) 6 []) (by simp only[QZh,QZG,Qa,seval]<;>rfl) ?_;simp only[Qa,seval];exact hK _ ⟨h1,h3,h4,h5,h48,h49,h50⟩

include o1 o5 hi hM he in
theorem QSP (hK:∀f,EF e i f→K ⟨f,[Qr fr 9 1100 e.name x.num (l++pb e.name x.num (KN e.items SI.num i x) 11)],[]⟩):Qq Tryz.prog U3 ⟨f,[Qr fr 9 1100 e.name x.num l],[]⟩ K:=by
 obtain⟨h1,h3,h4,h5,h48,h49,h50⟩:=hf;have c1:∀n l,Qr fr 9 1100 e.name n l 1=fr 1:=fun n l=>Q0 _ _ _ _ _ _ (by decide) (by decide)
 have c5:∀n l,Qr fr 9 1100 e.name n l 5=fr 5:=fun n l=>Q0 _ _ _ _ _ _ (by decide) (by decide)
 have hlt:i<e.items.length:=(QYM.1 hi).1;have hl1:=he.len1;rw[JT]at o5;rw[XR]at o1;cases i with
 |zero=>
  simp only[U3,h3,h4,Qa,seval];refine Qb (XQ fr 9 1100 e.name x.num l (by decide) rfl hl true 11 []) (by simp only[QZh,QZG,Qa,seval]<;>rfl) ?_;simp only[Qa,seval];exact hK _ ⟨h1,h3,h4,h5,h48,h49,h50⟩
 |succ j=>
  obtain⟨y,hj⟩:∃y,e.items[j]? = some y:=⟨e.items[j]'(by omega),QYN (by omega)⟩;have hg:(e.items.map fun n=>AV.agg n.cells)[j]? = some (.agg y.cells):=by rw[QZ3,hj];rfl
  have wj:=KS j _ hlt (by simp only[maxLen];omega);have d0:(((j+1:Nat):Int)==0)=false:=by rw[Q0F];omega
  rw[JT]at hg;simp only[KN,hj]at hK;simp only[U3,d0,wj,Qj,QZ8,Qd,hg,h1,h3,h4,h5,c1,c5,o1,o5,eE,seval];refine Qb (XQ fr 9 1100 e.name x.num l (by decide) rfl hl (decide (x.num > y.num)) 11 []) (by simp only[QZh,QZG,Qa,seval]<;>rfl) ?_;simp only[Qa,seval];exact hK _ ⟨h1,h3,h4,h5,h48,h49,h50⟩

include o5 in
theorem QSQ (hK:∀f,EF e i f→K ⟨f,[Qr fr 9 1100 e.name x.num (l++pb e.name x.num (Xo x.name) 8)],[]⟩):Qq Tryz.prog DS ⟨f,[Qr fr 9 1100 e.name x.num l],[]⟩ K:=by
 obtain⟨h1,h3,h4,h5,h48,h49,h50⟩:=hf;have c5:∀n l,Qr fr 9 1100 e.name n l 5=fr 5:=fun n l=>Q0 _ _ _ _ _ _ (by decide) (by decide)
 rw[JT]at o5;simp only[DS,h3,h5,c5,o5,eE,seval];refine aC (Pz x.name) ?_
 try simp only[eE,seval]
 refine Qb (XQ fr 9 1100 e.name x.num l (by decide) rfl hl (Xo x.name) 8 []) (by simp only[QZh,QZG,Qa,seval]<;>rfl) ?_;simp only[Qa,seval];exact hK _ ⟨h1,h3,h4,h5,h48,h49,h50⟩

include o1 hi hM he in
theorem QSR (hK:∀f,EF e i f→K ⟨f,[Qr fr 9 1100 e.name x.num (l++pb e.name x.num (!((e.items.take i).any fun y=>y.name==x.name)) 9)],[]⟩):Qq Tryz.prog DT ⟨f,[Qr fr 9 1100 e.name x.num l],[]⟩ K:=by
 obtain⟨h1,h3,h4,h5,h48,h49,h50⟩:=hf;have c1:∀n l,Qr fr 9 1100 e.name n l 1=fr 1:=fun n l=>Q0 _ _ _ _ _ _ (by decide) (by decide)
 have hl1:=he.len1;have hsn:=QSp e.items (by simp only[maxLen];omega) i x hi 161 SI.name QSl [Qr fr 9 1100 e.name x.num l];rw[XR]at o1;simp only[DT,h1,h3,h4,c1,o1,eE,seval];refine Qb hsn (by simp only[QZh,QZG,Qa,seval]<;>rfl) ?_;simp only[Qa,seval];refine Qb (XQ fr 9 1100 e.name x.num l (by decide) rfl hl _ 9 []) (by simp only[QZh,QZG,Qa,seval]<;>rfl) ?_;simp only[Qa,seval];exact hK _ ⟨h1,h3,h4,h5,h48,h49,h50⟩

include o1 o5 hM he in
theorem QSS (hK:∀f,EF e i f→K ⟨f,[Qr fr 9 1100 e.name x.num (l++pb e.name x.num (!(kept e.free x.num)) 21)],[]⟩):Qq Tryz.prog DU ⟨f,[Qr fr 9 1100 e.name x.num l],[]⟩ K:=by
 obtain⟨h1,h3,h4,h5,h48,h49,h50⟩:=hf;have c1:∀n l,Qr fr 9 1100 e.name n l 1=fr 1:=fun n l=>Q0 _ _ _ _ _ _ (by decide) (by decide)
 have c5:∀n l,Qr fr 9 1100 e.name n l 5=fr 5:=fun n l=>Q0 _ _ _ _ _ _ (by decide) (by decide)
 have hl2:=he.len2;have hr:Qi Tryz.prog 162 [.list (e.free.map fun n=>AV.agg n.cells),.int .i64 x.num] (.bool (kept e.free x.num)):=QCO e.free (by simp only[maxLen];omega) x.num;rw[JT]at o5;rw[XR]at o1;simp only[DU,h1,h3,h5,c1,c5,o1,o5,eE,seval];refine aC hr ?_;simp only[Qa,seval];refine Qb (XQ fr 9 1100 e.name x.num l (by decide) rfl hl _ 21 []) (by simp only[QZh,QZG,Qa,seval]<;>rfl) ?_;simp only[Qa,seval];exact hK _ ⟨h1,h3,h4,h5,h48,h49,h50⟩

include o5 hM he hi in
theorem QST (hK:∀f,EF e i f→K ⟨f,[Qr fr 9 1100 e.name x.num (l++XJ e.name x.num x.notes 4)],[]⟩):Qq Tryz.prog DV ⟨f,[Qr fr 9 1100 e.name x.num l],[]⟩ K:=by
 obtain⟨h1,h3,h4,h5,h48,h49,h50⟩:=hf;have c5:∀n l,Qr fr 9 1100 e.name n l 5=fr 5:=fun n l=>Q0 _ _ _ _ _ _ (by decide) (by decide)
 have hx:=he.items x (QYY hi);have hln:=hx.len;rw[JT]at o5;simp only[DV,h3,h5,c5,o5,eE,seval];refine Qb (Dh fr 9 1100 e.name x.num l (by decide) rfl hl [] x.notes (by simp only[maxLen];omega) hx.notes 4 (by decide)) (by simp only[QZh,QZG,Qa,seval]<;>rfl) ?_;simp only[Qa,seval];exact hK _ ⟨h1,h3,h4,h5,h48,h49,h50⟩
end

section
variable {M:Nat}(hM:M≤1048576)(e:SE)(he:e.ok M)

include hM he in
theorem Io (l:List PB)(hl:l.length≤1000000)(n:Int)(f:Fr)(fr:Nat→Ob)(h1:f 1=.ptr 0 1 0)(h3:f 3=.ptr 0 9 0)(h48:f 48=.list (e.items.map ZW))(h49:f 49=.int .i64 (e.items.length:Nat))(h50:f 50=.int .i64 0)(o1:fr 1=.cells e.cells)(o5:fr 5=.none)(Q:Exit→St→Prop)
  (hq:∀(f:Fr) (fr:Nat→Ob) (n:Int),f 1=.ptr 0 1 0→f 3=.ptr 0 9 0→fr 1=.cells e.cells→Q (.exit 0) ⟨f,[Qr fr 9 1100 e.name n (l++upto e.items (JR e) e.items.length)],[]⟩):QN Tryz.prog (.loop SP) ⟨f,[Qr fr 9 1100 e.name n l],[]⟩ Q:=by
 let I:Nat→St→Prop:=fun k st=>∃f fr n i,st=⟨f,[Qr fr 9 1100 e.name n (l++upto e.items (JR e) i)],[]⟩∧k=e.items.length-i∧i≤e.items.length∧f 1=.ptr 0 1 0∧f 3=.ptr 0 9 0∧f 48=.list (e.items.map ZW)∧f 49=.int .i64 (e.items.length:Nat)∧f 50=.int .i64 (i:Nat)∧fr 1=.cells e.cells∧(fr 5).isRow=false
 have hl1:=he.len1;refine Qe I _ ⟨f,fr,n,0,by rw[upto,QZI],rfl,QYT _,h1,h3,h48,h49,h50,o1,by rw[o5];rfl⟩ ?_;clear h1 h3 h48 h49 h50 o1 o5;rintro _ st ⟨f0,fr0,n,i,rfl,rfl,hi,h10,h30,h480,h490,h500,X0,r5⟩;refine QH (a:=_) [5] (by intro s hs;simp only[QZ0,Q0Q,or_false]at hs;subst hs;rw[Q0 _ _ _ _ _ _ (by decide) (by decide)];exact r5) ?_;intro f fr hf hmm hn;have h1:f 1=.ptr 0 1 0:=by rw[hf,h10]<;>rfl
 have h3:f 3=.ptr 0 9 0:=by rw[hf,h30]<;>rfl
 have h48:f 48=.list (e.items.map ZW):=by rw[hf,h480]<;>rfl
 have h49:f 49=.int .i64 (e.items.length:Nat):=by rw[hf,h490]<;>rfl
 have h50:f 50=.int .i64 (i:Nat):=by rw[hf,h500]<;>rfl
 have o1:fr 1=.cells e.cells:=by rw[hmm 1 (by decide),Q0 _ _ _ _ _ _ (by decide) (by decide),X0]<;>rfl
 have o9:fr 9=.cells [.str e.name,.int .i64 n,.vec 0 1100 (1+(l++upto e.items (JR e) i).length) 0 (l++upto e.items (JR e) i).length false]:=by rw[hmm 9 (by decide),Kf]<;>rfl
 have oR:fr 1100=.vec (1+(l++upto e.items (JR e) i).length) 3 ((l++upto e.items (JR e) i).map PB.av):=by rw[hmm 1100 (by decide),Wu _ _ _ _ _ _ (by decide)]<;>rfl
 have n5:=hn 5 (by decide);clear hf hmm hn h10 h30 h480 h490 h500 X0 r5;simp only[SJ,h49,h50,Qa,seval];by_cases hlt:i<e.items.length
 case neg=>
  have ei:i=e.items.length:=by omega
  subst ei;simp only[Qy hlt,Qa,seval];rw[←Hc o9 oR];exact hq _ _ _ h1 h3 o1
 obtain⟨x,hx⟩:∃x,e.items[i]? = some x:=⟨e.items[i],QYN hlt⟩;have hg:(e.items.map ZW)[i]? = some (.agg x.cells):=by rw[QZ3,hx];rfl
 rw[JT]at hg;have e1:=Ql i _ hlt (by simp only[maxLen];omega);have hul:=QZ (l:=e.items) (YF e) i;have q0:(l++upto e.items (JR e) i).length≤100000000:=by rw[QZn];omega
 simp only[Qw hlt,n5,SK,Qj,QZ8,Qd,hg,h48,h50,eE,seval];have hfe:Qt fr 5 (.cells [.str x.name,.int .i64 x.num,.list (x.notes.map fun n=>.agg n.cells)])=Qr (Qt fr 5 (.cells [.str x.name,.int .i64 x.num,.list (x.notes.map fun n=>.agg n.cells)])) 9 1100 e.name n (l++upto e.items (JR e) i):=(Hc (by exact o9) (by exact oR)).symm;rw[hfe];generalize hF:Qt fr 5 (.cells [.str x.name,.int .i64 x.num,.list (x.notes.map fun n=>.agg n.cells)])=F;have o1':F 1=.cells e.cells:=by rw[←hF];exact(by exact o1)
 have o5':F 5=.cells x.cells:=by rw[←hF,JT];exact rfl
 clear hfe hF o1 o9 oR n5;have cs:∀n l,Qr F 9 1100 e.name n l 9=.cells [.str e.name,.int .i64 n,.vec 0 1100 (1+l.length) 0 l.length false]:=fun n l=>Kf F 9 1100 e.name n l
 have c5:∀n l,Qr F 9 1100 e.name n l 5=F 5:=fun n l=>Q0 _ _ _ _ _ _ (by decide) (by decide)
 have cn:∀n l n',Qt (Qr F 9 1100 e.name n l) 9 (.cells [.str e.name,.int .i64 n',.vec 0 1100 (1+l.length) 0 l.length false])=Qr F 9 1100 e.name n' l:=fun n l n'=>YD F 9 1100 e.name n l n'
 have o5s:=o5';rw[JT]at o5s;simp only[SL,cs,c5,cn,o5s,h3,eE,seval];refine en9 e i x F o5' _ (by omega) _ ⟨(by exact h1),(by exact h3),(by rfl),(by rfl),(by exact h48),(by exact h49),(by exact h50)⟩ _ (fun f hf=>?_);have q1:=Qx q0 e.name x.num (decide (x.num≥0)&&decide (x.num≤2147483647)) 6;simp only[Qa,seval];refine QSP hM e he i x hx F o1' o5' _ (by omega) f hf _ (fun f hf=>?_);have q2:=Qx q1 e.name x.num (KN e.items SI.num i x) 11;simp only[Qa,seval];refine QSQ e i x F o5' _ (by omega) f hf _ (fun f hf=>?_);have q3:=Qx q2 e.name x.num (Xo x.name) 8;simp only[Qa,seval];refine QSR hM e he i x hx F o1' _ (by omega) f hf _ (fun f hf=>?_);have q4:=Qx q3 e.name x.num (!((e.items.take i).any fun y=>y.name==x.name)) 9;simp only[Qa,seval];refine QSS hM e he i x F o1' o5' _ (by omega) f hf _ (fun f hf=>?_);have q5:=Qx q4 e.name x.num (!(kept e.free x.num)) 21;simp only[Qa,seval];refine QST hM e he i x hx F o5' _ (by omega) f hf _ (fun f hf=>?_);clear h1 h3 h48 h49 h50;obtain⟨h1,h3,h4,h5,h48,h49,h50⟩:=hf;simp only[Cx,h50,e1,Qa,seval];exact⟨e.items.length-(i+1),by omega,_,F,x.num,i+1,by rw[Zw hx];unfold JR;simp only[QY4]<;>rfl,rfl,by omega,(by exact h1),(by exact h3),(by exact h48),(by exact h49),(by rfl),o1',by rw[o5'];rfl⟩
end

section
variable {M:Nat}(hM:M≤1048576)(e:SE)(he:e.ok M)(base:Nat→Ob)(o1:base 1=.cells e.cells)
variable (l:List PB)(hl:l.length≤1000000)(f:Fr)(h1:f 1=.ptr 0 1 0)(h3:f 3=.ptr 0 9 0)(K:St→Prop)
include hM he o1 hl h1 h3

theorem en3 (hK:∀f:Fr,f 1=.ptr 0 1 0→f 3=.ptr 0 9 0→K ⟨f,[Qr base 9 1100 e.name (-1) (l++pb e.name (-1) (decide (e.items.length≥1)&&decide (e.items.length≤64)&&decide (e.free.length≤16)) 3)],[]⟩):Qq Tryz.prog Nh ⟨f,[Qr base 9 1100 e.name (-1) l],[]⟩ K:=by
 have c1:∀n l,Qr base 9 1100 e.name n l 1=base 1:=fun n l=>Q0 _ _ _ _ _ _ (by decide) (by decide)
 have d1:decide ((e.items.length:Int)≥1)=decide (e.items.length≥1):=(by rw[QZB];simp only[QZ2];omega);have d3:decide ((e.free.length:Int)≤16)=decide (e.free.length≤16):=(by rw[QZB];simp only[QZ2];omega);rw[XR]at o1;simp only[Nh,c1,o1,QZ5,d1,h1,h3,eE,seval];cases a1:decide (e.items.length≥1)
 ·rw[a1]at hK;simp only[Qa,seval];refine Qb (XQ base 9 1100 e.name (-1) l (by decide) rfl (by omega) false 3 []) (by simp only[QZh,QZG,Qa,seval]<;>rfl) ?_;simp only[Qa,seval];exact hK _ h1 h3
 simp only[c1,o1,QZ5,PD,h1,eE,seval];cases a2:decide (e.items.length≤64)
 ·rw[a1,a2]at hK;simp only[Qa,seval];refine Qb (XQ base 9 1100 e.name (-1) l (by decide) rfl (by omega) false 3 []) (by simp only[QZh,QZG,Qa,seval]<;>rfl) ?_;simp only[Qa,seval];exact hK _ h1 h3
 rw[a1,a2]at hK;simp only[c1,o1,QZ5,d3,h1,eE,seval];refine Qb (XQ base 9 1100 e.name (-1) l (by decide) rfl (by omega) (decide (e.free.length≤16)) 3 []) (by simp only[QZh,QZG,Qa,seval]<;>rfl) ?_;simp only[Qa,seval];exact hK _ h1 h3

theorem en4 (hK:∀f:Fr,f 1=.ptr 0 1 0→f 3=.ptr 0 9 0→K ⟨f,[Qr base 9 1100 e.name (-1) (l++pb e.name (-1) (Z2 e) 14)],[]⟩):Qq Tryz.prog Ni ⟨f,[Qr base 9 1100 e.name (-1) l],[]⟩ K:=by
 have c1:∀n l,Qr base 9 1100 e.name n l 1=base 1:=fun n l=>Q0 _ _ _ _ _ _ (by decide) (by decide)
 have z1:Int.toNat 0=0:=rfl;have z0:(0≤(0:Int))=True:=by simp
 rw[XR]at o1;simp only[Ni,c1,o1,QZ5,Jg,h1,h3,eE,seval];cases hi:e.items with
 |nil=>
  have e0:Z2 e=true:=by unfold Z2;rw[hi]
  rw[e0]at hK;simp only[QZR,Qa,seval];refine Qb (XQ base 9 1100 e.name (-1) l (by decide) rfl (by omega) true 14 []) (by simp only[QZh,QZG,Qa,seval]<;>rfl) ?_;simp only[Qa,seval];exact hK _ h1 h3
 |cons x r=>
  have e0:Z2 e=(x.num==0):=by unfold Z2;rw[hi]
  have b0:((x :: r).length==0)=false:=rfl;have hg:((x :: r).map fun n:SI=>AV.agg n.cells)[0]? = some (.agg [.str x.name,.int .i64 x.num,.list (x.notes.map fun n=>.agg n.cells)]):=rfl;rw[e0]at hK;rw[hi]at o1;simp only[c1,o1,z0,z1,Qd,hg,h1,eE,seval];refine Qb (XQ base 9 1100 e.name (-1) l (by decide) rfl (by omega) (x.num==0) 14 []) (by simp only[QZh,QZG,Qa,seval]<;>rfl) ?_;simp only[Qa,seval];exact hK _ h1 h3
end

theorem QSU {M:Nat}(hM:M≤1048576)(e:SE)(he:e.ok M):Qi Tryz.prog 102 [Xl e] (.list ((JD e).map PB.av)):=by
 have hl1:=he.len1;have hl2:=he.len2;have hl3:=he.len3;have hnl:=he.name;refine QsB.fn (by simp) ?_;simp only[ED,EE,SB,SD,Xl,XR e,eE,seval];refine Xf rfl rfl rfl rfl ?_;generalize hb:(Qt Qc 1 _:Nat→Ob)=base;have o1:base 1=.cells e.cells:=by rw[←hb,XR];exact rfl
 have c1:∀n l,Qr base 9 1100 e.name n l 1=base 1:=fun n l=>Q0 _ _ _ _ _ _ (by decide) (by decide)
 have o1s:=o1;rw[XR]at o1s;rw[Bq base 9 1100 e.name (-1) (by decide)];simp only[SG,c1,o1s,eE,seval];refine aC (Ia e.name (by omega)) ?_
 try simp only[eE,seval]
 refine Qb (XQ base 9 1100 e.name (-1) [] (by decide) rfl (by simp) (XE e.name) 8 []) (by simp only[QZh,QZG,Qa,seval]<;>rfl) ?_;simp only[QY6,Qa,seval];have q1:=Q7 e.name (-1) (XE e.name) 8;refine en3 hM e he base o1 _ (by omega) _ (by rfl) (by rfl) _ (fun f h1 h3=>?_);have q2:=Qx q1 e.name (-1) (decide (e.items.length≥1)&&decide (e.items.length≤64)&&decide (e.free.length≤16)) 3;simp only[Qa,seval];refine en4 hM e he base o1 _ (by omega) _ h1 h3 _ (fun f h1 h3=>?_);have q3:=Qx q2 e.name (-1) (Z2 e) 14;simp only[SH,c1,o1s,QZ5,h1,eE,seval];refine Io hM e he _ (by omega) (-1) _ base (by exact h1) (by exact h3) (by rfl) (by rfl) (by rfl) o1 (by rw[←hb];exact(by rfl)) _ (fun f F n h1 h3 o1=>?_);clear c1 o1s hb;have q4:=QZ (l:=e.items) (YF e) e.items.length;have o1s:=o1;rw[XR]at o1s;have c1:∀n l,Qr F 9 1100 e.name n l 1=F 1:=fun n l=>Q0 _ _ _ _ _ _ (by decide) (by decide)
 have cs:∀n l,Qr F 9 1100 e.name n l 9=.cells [.str e.name,.int .i64 n,.vec 0 1100 (1+l.length) 0 l.length false]:=fun n l=>Kf F 9 1100 e.name n l
 have cn:∀n l n',Qt (Qr F 9 1100 e.name n l) 9 (.cells [.str e.name,.int .i64 n',.vec 0 1100 (1+l.length) 0 l.length false])=Qr F 9 1100 e.name n' l:=fun n l n'=>YD F 9 1100 e.name n l n'
 have cR:∀n l,Qr F 9 1100 e.name n l 1100=.vec (1+l.length) 3 (l.map PB.av):=fun n l=>Wu F 9 1100 e.name n l (by decide)
 simp only[Cy,Cz,cs,cn,c1,o1s,h1,h3,eE,seval];generalize hL:pb e.name (-1) (XE e.name) 8++pb e.name (-1) (decide (e.items.length≥1)&&decide (e.items.length≤64)&&decide (e.free.length≤16)) 3++pb e.name (-1) (Z2 e) 14++upto e.items (JR e) e.items.length=L;have q5:L.length≤10000000:=by
  rw[←hL,QZn];omega
 have hsp:=QaJ F 9 1100 e.name L (by decide) rfl 0 2147483647 e.free (by omega) [] (by omega);refine Qb hsp (by simp only[QZh,QZG,Qa,seval]<;>rfl) ?_;have q6:=QZ (l:=e.free) (Ku e.name 0 2147483647 e.free) e.free.length;have q7:(L++upto e.free (KF e.name 0 2147483647 e.free) e.free.length).length≤20000000:=by
  rw[QZn];omega
 simp only[CA,c1,o1s,h1,h3,eE,seval];refine Qb (Dh F 9 1100 e.name (-1) _ (by decide) rfl (by omega) [] e.notes (by simp only[maxLen];omega) he.notes 3 (by decide)) (by simp only[QZh,QZG,Qa,seval]<;>rfl) ?_;have hfin:JD e=L++upto e.free (KF e.name 0 2147483647 e.free) e.free.length++XJ e.name (-1) e.notes 3:=by rw[←hL];rfl
 rw[←hfin];have ht:∀l:List PB,List.take l.length (List.map PB.av l)=List.map PB.av l:=fun l=>QZj (by rw[QZ5];exact QYK _)
 simp only[CB,cs,cR,h3,QZ5,QZs,ht,QY9,QYK,QZJ,QZP,AV.un,eE,seval]

theorem YG (S:SC)(v:SQ)(i:Nat)(x:SO):(Kr S v i x).length≤5:=by
 unfold Kr XJ;exact Qx (Qx (Qx (Qx (Q7 _ _ _ _) _ _ _ _) _ _ _ _) _ _ _ _) _ _ _ _
theorem Wn (x:SO):x.cells=[.str x.name,.str x.inn,.str x.out,.int .i64 x.shape,.list (x.notes.map fun n=>.agg n.cells)]:=rfl
theorem Wf (x:SQ):x.cells=[.str x.name,.list (x.meths.map fun n=>.agg n.cells),.list (x.notes.map fun n=>.agg n.cells)]:=rfl
def Aj (x:SO):AV:=.agg x.cells
def Yf (x:SQ):AV:=.agg x.cells
def F4 (l:List SO)(i:Nat)(x:SO):Bool:=match i with
 |0=>true
 |j+1=>match l[j]? with
  |none=>true
  |some y=>Op.bytesLess y.name x.name
theorem Ak (S:SC)(v:SQ)(i:Nat)(x:SO):Kr S v i x=pb v.name (i:Int) (Xo x.name) 8++pb v.name (i:Int) (F4 v.meths i x) 11++pb v.name (i:Int) (Q6 S x.inn&&Q6 S x.out) 12++pb v.name (i:Int) (decide (x.shape≥1)&&decide (x.shape≤4)) 1++XJ v.name (i:Int) x.notes 6:=by
 cases i<;>rfl
theorem Mi (a b:List UInt8):(!(Op.bytesLess a b||a==b))=Op.bytesLess b a:=by
 cases h1:Op.bytesLess a b
 ·cases h2:Op.bytesLess b a
  ·have:=UL h1 h2;subst this;simp
  ·have hne:(a==b)=false:=by
    rw[Q0F];rintro rfl;rw[Kp]at h2;cases h2
   rw[hne];rfl
 ·cases h2:Op.bytesLess b a
  ·rfl
  ·have:=WT h1 h2;rw[Kp]at this;cases this

def QF (v:SQ)(i:Nat)(f:Fr):Prop:=f 2=.ptr 0 2 0∧f 3=.ptr 0 3 0∧f 5=.ptr 0 15 0∧f 6=.int .i64 (i:Nat)∧f 7=.ptr 0 7 0∧f 28=.list (v.meths.map Aj)∧f 29=.int .i64 (v.meths.length:Nat)∧f 30=.int .i64 (i:Nat)

section
variable {M:Nat}(hM:M≤1048576)(S:SC)(hS:S.ok M)(v:SQ)(hv:v.ok M)(i:Nat)(x:SO)(hi:v.meths[i]? = some x)
variable (fr:Nat→Ob)(o2:fr 2=.cells [.list (S.msgs.map fun n=>.agg n.cells),.list (S.enums.map fun n=>.agg n.cells),.list (S.servs.map fun n=>.agg n.cells)])(o3:fr 3=.cells v.cells)(o7:fr 7=.cells x.cells)
variable (l:List PB)(hl:l.length≤1073741824)(f:Fr)(hf:QF v i f)(K:St→Prop)
include hl hf

include o7 in
theorem sq8 (hK:∀f,QF v i f→K ⟨f,[Qr fr 15 1100 v.name (i:Int) (l++pb v.name (i:Int) (Xo x.name) 8)],[]⟩):Qq Tryz.prog Nf ⟨f,[Qr fr 15 1100 v.name (i:Int) l],[]⟩ K:=by
 obtain⟨h2,h3,h5,h6,h7,h28,h29,h30⟩:=hf;have c7:∀n l,Qr fr 15 1100 v.name n l 7=fr 7:=fun n l=>Q0 _ _ _ _ _ _ (by decide) (by decide)
 rw[Wn]at o7;simp only[Nf,h5,h7,c7,o7,eE,seval];refine aC (Pz x.name) ?_
 try simp only[eE,seval]
 refine Qb (XQ fr 15 1100 v.name (i:Int) l (by decide) rfl hl (Xo x.name) 8 []) (by simp only[QZh,QZG,Qa,seval]<;>rfl) ?_;simp only[Qa,seval];exact hK _ ⟨h2,h3,h5,h6,h7,h28,h29,h30⟩

include o3 o7 hi hM hv in
theorem sq9 (hK:∀f,QF v i f→K ⟨f,[Qr fr 15 1100 v.name (i:Int) (l++pb v.name (i:Int) (F4 v.meths i x) 11)],[]⟩):Qq Tryz.prog GX ⟨f,[Qr fr 15 1100 v.name (i:Int) l],[]⟩ K:=by
 obtain⟨h2,h3,h5,h6,h7,h28,h29,h30⟩:=hf;have c3:∀n l,Qr fr 15 1100 v.name n l 3=fr 3:=fun n l=>Q0 _ _ _ _ _ _ (by decide) (by decide)
 have c7:∀n l,Qr fr 15 1100 v.name n l 7=fr 7:=fun n l=>Q0 _ _ _ _ _ _ (by decide) (by decide)
 have hlt:i<v.meths.length:=(QYM.1 hi).1;have hl1:=hv.len1;rw[Wn]at o7;rw[Wf]at o3;cases i with
 |zero=>
  simp only[GX,h5,h6,Qa,seval];refine Qb (XQ fr 15 1100 v.name _ l (by decide) rfl hl true 11 []) (by simp only[QZh,QZG,Qa,seval]<;>rfl) ?_;simp only[Qa,seval];exact hK _ ⟨h2,h3,h5,h6,h7,h28,h29,h30⟩
 |succ j=>
  obtain⟨y,hj⟩:∃y,v.meths[j]? = some y:=⟨v.meths[j]'(by omega),QYN (by omega)⟩;have hg:(v.meths.map fun n=>AV.agg n.cells)[j]? = some (.agg y.cells):=by rw[QZ3,hj];rfl
  have wj:=KS j _ hlt (by simp only[maxLen];omega);have d0:(((j+1:Nat):Int)==0)=false:=by rw[Q0F];omega
  have ha:Qs .gtr x.name y.name=some (.bool (Op.bytesLess y.name x.name)):=by rw[←Mi];rfl
  rw[Wn]at hg;simp only[F4,hj]at hK;simp only[GX,d0,wj,ha,Qj,QZ8,Qd,hg,h3,h5,h6,h7,c3,c7,o3,o7,eE,seval];refine Qb (XQ fr 15 1100 v.name _ l (by decide) rfl hl (Op.bytesLess y.name x.name) 11 []) (by simp only[QZh,QZG,Qa,seval]<;>rfl) ?_;simp only[Qa,seval];exact hK _ ⟨h2,h3,h5,h6,h7,h28,h29,h30⟩

theorem QSV (a b:Bool)(h9:f 9=.bool a)(h11:f 11=.bool b)(hK:∀f,QF v i f→K ⟨f,[Qr fr 15 1100 v.name (i:Int) (l++pb v.name (i:Int) (a&&b) 12)],[]⟩):Qq Tryz.prog DP ⟨f,[Qr fr 15 1100 v.name (i:Int) l],[]⟩ K:=by
 obtain⟨h2,h3,h5,h6,h7,h28,h29,h30⟩:=hf;simp only[DP,h5,h9,Qa,seval];cases a
 ·simp only[Qa,seval];refine Qb (XQ fr 15 1100 v.name (i:Int) l (by decide) rfl hl false 12 []) (by simp only[QZh,QZG,Qa,seval]<;>rfl) ?_;simp only[Qa,seval];exact hK _ ⟨h2,h3,h5,h6,h7,h28,h29,h30⟩
 ·rw[Q0p]at hK;simp only[h11,Qa,seval];refine Qb (XQ fr 15 1100 v.name (i:Int) l (by decide) rfl hl b 12 []) (by simp only[QZh,QZG,Qa,seval]<;>rfl) ?_;simp only[Qa,seval];exact hK _ ⟨h2,h3,h5,h6,h7,h28,h29,h30⟩

include o7 in
theorem QSW (hK:∀f,QF v i f→K ⟨f,[Qr fr 15 1100 v.name (i:Int) (l++pb v.name (i:Int) (decide (x.shape≥1)&&decide (x.shape≤4)) 1)],[]⟩):Qq Tryz.prog DQ ⟨f,[Qr fr 15 1100 v.name (i:Int) l],[]⟩ K:=by
 obtain⟨h2,h3,h5,h6,h7,h28,h29,h30⟩:=hf;have c7:∀n l,Qr fr 15 1100 v.name n l 7=fr 7:=fun n l=>Q0 _ _ _ _ _ _ (by decide) (by decide)
 rw[Wn]at o7;simp only[DQ,h5,h7,c7,o7,eE,seval];cases a1:decide (x.shape≥1)
 ·rw[a1]at hK;simp only[Qa,seval];refine Qb (XQ fr 15 1100 v.name (i:Int) l (by decide) rfl hl false 1 []) (by simp only[QZh,QZG,Qa,seval]<;>rfl) ?_;simp only[Qa,seval];exact hK _ ⟨h2,h3,h5,h6,h7,h28,h29,h30⟩
 ·rw[a1]at hK;simp only[h7,c7,o7,eE,seval];refine Qb (XQ fr 15 1100 v.name (i:Int) l (by decide) rfl hl (decide (x.shape≤4)) 1 []) (by simp only[QZh,QZG,Qa,seval]<;>rfl) ?_;simp only[Qa,seval];exact hK _ ⟨h2,h3,h5,h6,h7,h28,h29,h30⟩

include o7 hM hv hi in
theorem QSX (hK:∀f,QF v i f→K ⟨f,[Qr fr 15 1100 v.name (i:Int) (l++XJ v.name (i:Int) x.notes 6)],[]⟩):Qq Tryz.prog DR ⟨f,[Qr fr 15 1100 v.name (i:Int) l],[]⟩ K:=by
 obtain⟨h2,h3,h5,h6,h7,h28,h29,h30⟩:=hf;have c7:∀n l,Qr fr 15 1100 v.name n l 7=fr 7:=fun n l=>Q0 _ _ _ _ _ _ (by decide) (by decide)
 have hx:=hv.meths x (QYY hi);have hln:=hx.len;rw[Wn]at o7;simp only[DR,h5,h7,c7,o7,eE,seval];refine Qb (Dh fr 15 1100 v.name (i:Int) l (by decide) rfl hl [] x.notes (by simp only[maxLen];omega) hx.notes 6 (by decide)) (by simp only[QZh,QZG,Qa,seval]<;>rfl) ?_;simp only[Qa,seval];exact hK _ ⟨h2,h3,h5,h6,h7,h28,h29,h30⟩
end

section
variable {M:Nat}(hM:M≤1048576)(S:SC)(hS:S.ok M)(v:SQ)(hv:v.ok M)

include hM hS hv in
theorem Ip (l:List PB)(hl:l.length≤1000000)(n:Int)(f:Fr)(fr:Nat→Ob)(h2:f 2=.ptr 0 2 0)(h3:f 3=.ptr 0 3 0)(h5:f 5=.ptr 0 15 0)(h28:f 28=.list (v.meths.map Aj))(h29:f 29=.int .i64 (v.meths.length:Nat))(h30:f 30=.int .i64 0)
  (o2:fr 2=.cells [.list (S.msgs.map fun n=>.agg n.cells),.list (S.enums.map fun n=>.agg n.cells),.list (S.servs.map fun n=>.agg n.cells)]) (o3:fr 3=.cells v.cells) (o7:∀s∈[7,8,10],fr s=.none) (Q:Exit→St→Prop)
  (hq:∀(f:Fr) (fr:Nat→Ob) (n:Int),f 3=.ptr 0 3 0→f 5=.ptr 0 15 0→fr 3=.cells v.cells→Q (.exit 0) ⟨f,[Qr fr 15 1100 v.name n (l++upto v.meths (Kr S v) v.meths.length)],[]⟩):QN Tryz.prog (.loop Sq) ⟨f,[Qr fr 15 1100 v.name n l],[]⟩ Q:=by
 let I:Nat→St→Prop:=fun k st=>∃f fr n i,st=⟨f,[Qr fr 15 1100 v.name n (l++upto v.meths (Kr S v) i)],[]⟩∧k=v.meths.length-i∧i≤v.meths.length∧f 2=.ptr 0 2 0∧f 3=.ptr 0 3 0∧f 5=.ptr 0 15 0∧f 28=.list (v.meths.map Aj)∧f 29=.int .i64 (v.meths.length:Nat)∧f 30=.int .i64 (i:Nat)∧
  fr 2=.cells [.list (S.msgs.map fun n=>.agg n.cells),.list (S.enums.map fun n=>.agg n.cells),.list (S.servs.map fun n=>.agg n.cells)]∧fr 3=.cells v.cells∧∀s∈[7,8,10],(fr s).isRow=false
 obtain⟨l1,_,_⟩:=Jr S hS hM;have hl1:=hv.len1;refine Qe I _ ⟨f,fr,n,0,by rw[upto,QZI],rfl,QYT _,h2,h3,h5,h28,h29,h30,o2,o3,fun s hs=>by rw[o7 s hs];rfl⟩ ?_;clear h2 h3 h5 h28 h29 h30 o2 o3 o7;rintro _ st ⟨f0,fr0,n,i,rfl,rfl,hi,h20,h30',h50,h280,h290,h300,KB,K8,r7⟩;refine QH (a:=_) [10,8,7] (by
  intro s hs;simp only[QZ0,Q0Q,or_false]at hs;have h1:s≠1100∧s≠15:=by omega
  rw[Q0 _ _ _ _ _ _ h1.1 h1.2];exact r7 s (by simp only[QZ0,Q0Q,or_false];omega)) ?_
 intro f fr hf hmm hn;have h2:f 2=.ptr 0 2 0:=by rw[hf,h20]<;>rfl
 have h3:f 3=.ptr 0 3 0:=by rw[hf,h30']<;>rfl
 have h5:f 5=.ptr 0 15 0:=by rw[hf,h50]<;>rfl
 have h28:f 28=.list (v.meths.map Aj):=by rw[hf,h280]<;>rfl
 have h29:f 29=.int .i64 (v.meths.length:Nat):=by rw[hf,h290]<;>rfl
 have h30:f 30=.int .i64 (i:Nat):=by rw[hf,h300]<;>rfl
 have o2:fr 2=.cells [.list (S.msgs.map fun n=>.agg n.cells),.list (S.enums.map fun n=>.agg n.cells),.list (S.servs.map fun n=>.agg n.cells)]:=by rw[hmm 2 (by decide),Q0 _ _ _ _ _ _ (by decide) (by decide),KB]<;>rfl
 have o3:fr 3=.cells v.cells:=by rw[hmm 3 (by decide),Q0 _ _ _ _ _ _ (by decide) (by decide),K8]<;>rfl
 have o9:fr 15=.cells [.str v.name,.int .i64 n,.vec 0 1100 (1+(l++upto v.meths (Kr S v) i).length) 0 (l++upto v.meths (Kr S v) i).length false]:=by rw[hmm 15 (by decide),Kf]<;>rfl
 have oR:fr 1100=.vec (1+(l++upto v.meths (Kr S v) i).length) 3 ((l++upto v.meths (Kr S v) i).map PB.av):=by rw[hmm 1100 (by decide),Wu _ _ _ _ _ _ (by decide)]<;>rfl
 have n7:=hn 7 (by decide);have n8:=hn 8 (by decide);have n10:=hn 10 (by decide);clear hf hmm hn h20 h30' h50 h280 h290 h300 KB K8 r7;simp only[Sm,h29,h30,Qa,seval];by_cases hlt:i<v.meths.length
 case neg=>
  have ei:i=v.meths.length:=by omega
  subst ei;simp only[Qy hlt,Qa,seval];rw[←Hc o9 oR];exact hq _ _ _ h3 h5 o3
 obtain⟨x,hx⟩:∃x,v.meths[i]? = some x:=⟨v.meths[i],QYN hlt⟩;have hg:(v.meths.map Aj)[i]? = some (.agg x.cells):=by rw[QZ3,hx];rfl
 rw[Wn]at hg;have e1:=Ql i _ hlt (by simp only[maxLen];omega);have hul:=QZ (l:=v.meths) (YG S v) i;have q0:(l++upto v.meths (Kr S v) i).length≤100000000:=by rw[QZn];omega
 simp only[Qw hlt,n7,Sn,Qj,QZ8,Qd,hg,h28,h30,eE,seval];have hfe:Qt fr 7 (.cells [.str x.name,.str x.inn,.str x.out,.int .i64 x.shape,.list (x.notes.map fun n=>.agg n.cells)])=Qr (Qt fr 7 (.cells [.str x.name,.str x.inn,.str x.out,.int .i64 x.shape,.list (x.notes.map fun n=>.agg n.cells)])) 15 1100 v.name n (l++upto v.meths (Kr S v) i):=(Hc (by exact o9) (by exact oR)).symm;rw[hfe];generalize hF:Qt fr 7 (.cells [.str x.name,.str x.inn,.str x.out,.int .i64 x.shape,.list (x.notes.map fun n=>.agg n.cells)])=F;have o2':F 2=.cells [.list (S.msgs.map fun n=>.agg n.cells),.list (S.enums.map fun n=>.agg n.cells),.list (S.servs.map fun n=>.agg n.cells)]:=by rw[←hF];exact(by exact o2)
 have o3':F 3=.cells v.cells:=by rw[←hF];exact o3
 have o7':F 7=.cells x.cells:=by rw[←hF,Wn];exact rfl
 have n8':F 8=.none:=by rw[←hF];exact n8
 have n10':F 10=.none:=by rw[←hF];exact n10
 clear hfe hF o2 o3 o9 oR n7 n8 n10;have cs:∀n l,Qr F 15 1100 v.name n l 15=.cells [.str v.name,.int .i64 n,.vec 0 1100 (1+l.length) 0 l.length false]:=fun n l=>Kf F 15 1100 v.name n l
 have cn:∀n l n',Qt (Qr F 15 1100 v.name n l) 15 (.cells [.str v.name,.int .i64 n',.vec 0 1100 (1+l.length) 0 l.length false])=Qr F 15 1100 v.name n' l:=fun n l n'=>YD F 15 1100 v.name n l n'
 simp only[Sp,cs,cn,h5,eE,seval];refine sq8 v i x F o7' _ (by omega) _ ⟨(by exact h2),(by exact h3),(by exact h5),(by rfl),(by rfl),(by exact h28),(by exact h29),(by exact h30)⟩ _ (fun f hf=>?_);have q1:=Qx q0 v.name (i:Int) (Xo x.name) 8;simp only[Qa,seval];refine sq9 hM v hv i x hx F o3' o7' _ (by omega) f hf _ (fun f hf=>?_);have q2:=Qx q1 v.name (i:Int) (F4 v.meths i x) 11;clear h2 h3 h5 h28 h29 h30;obtain⟨h2,h3,h5,h6,h7,h28,h29,h30⟩:=hf;have hc1:=Fj S l1 x.inn;have hc2:=Fj S l1 x.out;simp only[QM,SM.cells,SC.av]at hc1 hc2;have c2:∀n l,Qr F 15 1100 v.name n l 2=F 2:=fun n l=>Q0 _ _ _ _ _ _ (by decide) (by decide)
 have c7:∀n l,Qr F 15 1100 v.name n l 7=F 7:=fun n l=>Q0 _ _ _ _ _ _ (by decide) (by decide)
 have c8:∀n l,Qr F 15 1100 v.name n l 8=F 8:=fun n l=>Q0 _ _ _ _ _ _ (by decide) (by decide)
 have c10:∀n l,Qr F 15 1100 v.name n l 10=F 10:=fun n l=>Q0 _ _ _ _ _ _ (by decide) (by decide)
 have o7s:=o7';rw[Wn]at o7s;simp only[Cq,c2,c7,o2',o7s,h2,h7,eE,seval];refine aC hc1 ?_;simp only[Cr,c2,c7,c8,o2',o7s,n8',h2,h7,eE,seval];refine aC hc2 ?_;simp only[c10,n10',eE,seval];rw[Fo (by decide) (by decide),Fo (by decide) (by decide)];generalize hF2:Qt (Qt F 8 _) 10 _=F2;have o2'':F2 2=F 2:=by rw[←hF2];exact rfl
 have o3'':F2 3=F 3:=by rw[←hF2];exact rfl
 have o7'':F2 7=F 7:=by rw[←hF2];exact rfl
 have r8:(F2 8).isRow=false:=by rw[←hF2];rfl
 have HG:(F2 10).isRow=false:=by rw[←hF2];rfl
 clear hF2;refine QSV v i F2 _ (by omega) _ ⟨(by exact h2),(by exact h3),(by exact h5),(by exact h6),(by exact h7),(by exact h28),(by exact h29),(by exact h30)⟩ _ (Q6 S x.inn) (Q6 S x.out) (by rfl) (by rfl) (fun f hf=>?_);have q3:=Qx q2 v.name (i:Int) (Q6 S x.inn&&Q6 S x.out) 12;simp only[Qa,seval];refine QSW v i x F2 (by rw[o7'',o7']) _ (by omega) f hf _ (fun f hf=>?_);have q4:=Qx q3 v.name (i:Int) (decide (x.shape≥1)&&decide (x.shape≤4)) 1;simp only[Qa,seval];refine QSX hM v hv i x hx F2 (by rw[o7'',o7']) _ (by omega) f hf _ (fun f hf=>?_);clear h2 h3 h5 h6 h7 h28 h29 h30;obtain⟨h2,h3,h5,h6,h7,h28,h29,h30⟩:=hf;simp only[Ct,h30,e1,Qa,seval];exact⟨v.meths.length-(i+1),by omega,_,F2,(i:Int),i+1,by rw[Zw hx,Ak];simp only[QY4]<;>rfl,rfl,by omega,(by exact h2),(by exact h3),(by exact h5),(by exact h28),(by exact h29),(by rfl),by rw[o2'',o2'],by rw[o3'',o3'],by
  intro s hs;simp only[QZ0,Q0Q,or_false]at hs;rcases hs with rfl|rfl|rfl
  ·rw[o7'',o7'];rfl
  ·exact r8
  ·exact HG⟩
end

theorem QSY {M:Nat}(hM:M≤1048576)(S:SC)(hS:S.ok M)(v:SQ)(hv:v.ok M):Qi Tryz.prog 103 [S.av,Yf v] (.list ((J0 S v).map PB.av)):=by
 have hl1:=hv.len1;have hl2:=hv.len2;have hnl:=hv.name;refine Qoz.fn (by simp) ?_;simp only[Eu,Ew,Sh,Si,SC.av,Yf,Wf v,eE,seval];refine Xf rfl rfl rfl rfl ?_;generalize hb:(Qt (Qt Qc 2 _) 3 _:Nat→Ob)=base;have o2:base 2=.cells [.list (S.msgs.map fun n=>.agg n.cells),.list (S.enums.map fun n=>.agg n.cells),.list (S.servs.map fun n=>.agg n.cells)]:=by rw[←hb];exact rfl
 have o3:base 3=.cells v.cells:=by rw[←hb,Wf];exact rfl
 have o7:∀s∈[7,8,10],base s=.none:=by
  intro s hs;rw[←hb];simp only[QZ0,Q0Q,or_false]at hs;rcases hs with rfl|rfl|rfl<;>rfl
 clear hb;have c3:∀n l,Qr base 15 1100 v.name n l 3=base 3:=fun n l=>Q0 _ _ _ _ _ _ (by decide) (by decide)
 have o3s:=o3;rw[Wf]at o3s;rw[Bq base 15 1100 v.name (-1) (by decide)];simp only[Sj,c3,o3s,eE,seval];refine aC (Ia v.name (by omega)) ?_
 try simp only[eE,seval]
 refine Qb (XQ base 15 1100 v.name (-1) [] (by decide) rfl (by simp) (XE v.name) 8 []) (by simp only[QZh,QZG,Qa,seval]<;>rfl) ?_;have q1:=Q7 v.name (-1) (XE v.name) 8;simp only[Sk,c3,o3s,QY6,QZ5,PD,eE,seval];refine Qb (XQ base 15 1100 v.name (-1) _ (by decide) rfl (by omega) (decide (v.meths.length≤64)) 3 []) (by simp only[QZh,QZG,Qa,seval]<;>rfl) ?_;have q2:=Qx q1 v.name (-1) (decide (v.meths.length≤64)) 3;simp only[Sl,c3,o3s,QZ5,eE,seval];refine Ip hM S hS v hv _ (by omega) (-1) _ base rfl rfl rfl rfl rfl rfl o2 o3 o7 _ (fun f F n h3 h5 o3=>?_);clear c3 o3s o2 o7;have q3:=QZ (l:=v.meths) (YG S v) v.meths.length;have o3s:=o3;rw[Wf]at o3s;have c3:∀n l,Qr F 15 1100 v.name n l 3=F 3:=fun n l=>Q0 _ _ _ _ _ _ (by decide) (by decide)
 have cs:∀n l,Qr F 15 1100 v.name n l 15=.cells [.str v.name,.int .i64 n,.vec 0 1100 (1+l.length) 0 l.length false]:=fun n l=>Kf F 15 1100 v.name n l
 have cn:∀n l n',Qt (Qr F 15 1100 v.name n l) 15 (.cells [.str v.name,.int .i64 n',.vec 0 1100 (1+l.length) 0 l.length false])=Qr F 15 1100 v.name n' l:=fun n l n'=>YD F 15 1100 v.name n l n'
 have cR:∀n l,Qr F 15 1100 v.name n l 1100=.vec (1+l.length) 3 (l.map PB.av):=fun n l=>Wu F 15 1100 v.name n l (by decide)
 simp only[Cu,Cv,cs,cn,c3,o3s,h3,h5,eE,seval];generalize hL:pb v.name (-1) (XE v.name) 8++pb v.name (-1) (decide (v.meths.length≤64)) 3++upto v.meths (Kr S v) v.meths.length=L;have q5:L.length≤10000000:=by
  rw[←hL,QZn];omega
 refine Qb (Dh F 15 1100 v.name (-1) L (by decide) rfl (by omega) [] v.notes (by simp only[maxLen];omega) hv.notes 5 (by decide)) (by simp only[QZh,QZG,Qa,seval]<;>rfl) ?_;have hfin:J0 S v=L++XJ v.name (-1) v.notes 5:=by rw[←hL];rfl
 rw[←hfin];have ht:∀l:List PB,List.take l.length (List.map PB.av l)=List.map PB.av l:=fun l=>QZj (by rw[QZ5];exact QYK _)
 simp only[Cw,cs,cR,h5,QZ5,QZs,ht,QY9,QYK,QZJ,QZP,AV.un,eE,seval]

theorem PF (a b:List UInt8):Qs .leq a b=some (.bool (!(Op.bytesLess b a))):=by
 rw[←Mi a b,Q0S];rfl

theorem s98 (L:List (List UInt8))(hl:L.length≤maxLen):Qi Tryz.prog 98 [.list (L.map Qo)] (.bool (XN L Op.bytesLess)):=by
 let I:Nat→St→Prop:=fun k st=>∃f i,st=⟨f,[Qc],[]⟩∧k=L.length-(i+1)∧Xq (K9 L Op.bytesLess) (i+1)=true∧f 0=.list (L.map Qo)∧f 3=.int .i64 ((i+1:Nat):Int)
 refine k98.fn (by simp) ?_;simp only[Qa,seval];refine Qe I _ ⟨_,0,rfl,rfl,rfl,rfl,rfl⟩ ?_;rintro _ st ⟨f,i,rfl,rfl,hx,h0,h3⟩;simp only[QZ5,h0,h3,Qa,seval];by_cases hlt:i+1<L.length
 ·obtain⟨x,hi⟩:∃x,L[i]? = some x:=⟨L[i]'(by omega),QYN (by omega)⟩;obtain⟨y,hj⟩:∃y,L[i+1]? = some y:=⟨L[i+1],QYN hlt⟩;have hg:(L.map Qo)[i]? = some (.str x):=by simp[hi,Qo]
  have hh:(L.map Qo)[i+1]? = some (.str y):=by simp[hj,Qo]
  have e1:=Ql (i+1) _ hlt hl;have e2:=KS i _ hlt hl;simp only[Qw hlt,e2,PF,Qj,QZ8,Qd,hg,hh,h0,h3,eE,seval];have hs:Xq (K9 L Op.bytesLess) (i+2)=Op.bytesLess x y:=by
   show(Xq (K9 L Op.bytesLess) (i+1)&&K9 L Op.bytesLess (i+1))=_;rw[hx,J7 hi hj,Q0p]
  cases hp:Op.bytesLess x y
  ·rw[hp]at hs;have hf:XN L Op.bytesLess=false:=by
    rw[Q0x];intro h';rw[Q1.2 fun k hk=>Q1.1 h' k (by omega)]at hs;cases hs
   simp only[hf,QZN,Qa,seval]
  ·rw[hp]at hs;simp only[h3,e1,Q0q,Qa,seval];exact⟨L.length-(i+2),by omega,_,i+1,rfl,rfl,hs,h0,rfl⟩
 ·have hf:XN L Op.bytesLess=true:=Q1.2 fun k hk=>Q1.1 hx k (by omega)
  simp only[Qy hlt,hf,Qa,seval]

structure Ls (fr:Nat→Ob)(A B C:List (List UInt8)):Prop where
 mk ::
 row:∃a b c,fr 3=.cells [.vec 0 1100 a 0 A.length false,.vec 0 1101 b 0 B.length false,.vec 0 1102 c 0 C.length false]∧fr 1100=.vec a 1 (A.map Qo)∧fr 1101=.vec b 1 (B.map Qo)∧fr 1102=.vec c 1 (C.map Qo)
 res:fr 2=.cells [.nils,.nils,.nils]

section
variable {M:Nat}(hM:M≤1048576)(S:SC)(hS:S.ok M)
include hM hS in
theorem QSZ (A B C:List (List UInt8))(hABC:A.length≤1048576∧B.length≤1048576∧C.length≤1048576)(f:Fr)(fr:Nat→Ob)(h1:f 1=.ptr 0 1 0)(h3:f 3=.ptr 0 3 0)(h2:f 2=.ptr 0 2 0)(hw:f 11=.list (S.msgs.map QM))(hz:f 12=.int .i64 (S.msgs.length:Nat))(hk:f 13=.int .i64 0)
  (o1:fr 1=.cells [.list (S.msgs.map fun n=>.agg n.cells),.list (S.enums.map fun n=>.agg n.cells),.list (S.servs.map fun n=>.agg n.cells)]) (hL:Ls fr A B C) (r5:∀s∈[5,7,9],(fr s).isRow=false) (Q:Exit→St→Prop)
  (hq:∀(f:Fr) (fr:Nat→Ob) (i:Nat),i=S.msgs.length→f 1=.ptr 0 1 0→f 3=.ptr 0 3 0→f 2=.ptr 0 2 0→fr 1=.cells [.list (S.msgs.map fun n=>.agg n.cells),.list (S.enums.map fun n=>.agg n.cells),.list (S.servs.map fun n=>.agg n.cells)]→Ls fr (A++(S.msgs.take i).map SM.name) B C→(∀s∈[5,7,9],(fr s).isRow=false)→Q (.exit 0) ⟨f,[fr],[]⟩):QN Tryz.prog (.loop LB) ⟨f,[fr],[]⟩ Q:=by
 let I:Nat→St→Prop:=fun k st=>∃f fr i,st=⟨f,[fr],[]⟩∧k=S.msgs.length-i∧i≤S.msgs.length∧f 1=.ptr 0 1 0∧f 3=.ptr 0 3 0∧f 2=.ptr 0 2 0∧f 11=.list (S.msgs.map QM)∧f 12=.int .i64 (S.msgs.length:Nat)∧f 13=.int .i64 (i:Nat)∧
  fr 1=.cells [.list (S.msgs.map fun n=>.agg n.cells),.list (S.enums.map fun n=>.agg n.cells),.list (S.servs.map fun n=>.agg n.cells)]∧Ls fr (A++(S.msgs.take i).map SM.name) B C∧∀s∈[5,7,9],(fr s).isRow=false
 have hl1:=hS.len1;obtain⟨hA,hB,hC⟩:=hABC;refine Qe I _ ⟨f,fr,0,rfl,rfl,QYT _,h1,h3,h2,hw,hz,hk,o1,by simpa using hL,r5⟩ ?_;clear h1 h3 h2 hw hz hk o1 hL r5;rintro _ st ⟨f0,fr0,i,rfl,rfl,hi,h10,h30,h20,hw0,hz0,hk0,X0,hL0,r5⟩;refine QH (a:=_) [5] (by intro s hs;exact r5 s (by simp only[QZ0,Q0Q,or_false]at hs ⊢;omega)) ?_;intro f fr hf hmm hn;have h1:f 1=.ptr 0 1 0:=by rw[hf,h10]<;>rfl
 have h3:f 3=.ptr 0 3 0:=by rw[hf,h30]<;>rfl
 have h2:f 2=.ptr 0 2 0:=by rw[hf,h20]<;>rfl
 have hw:f 11=.list (S.msgs.map QM):=by rw[hf,hw0]<;>rfl
 have hz:f 12=.int .i64 (S.msgs.length:Nat):=by rw[hf,hz0]<;>rfl
 have hk:f 13=.int .i64 (i:Nat):=by rw[hf,hk0]<;>rfl
 have o1:fr 1=.cells [.list (S.msgs.map fun n=>.agg n.cells),.list (S.enums.map fun n=>.agg n.cells),.list (S.servs.map fun n=>.agg n.cells)]:=by rw[hmm 1 (by decide),X0]<;>rfl
 obtain⟨a,b,c,m30,m00,m10,m20⟩:=hL0.row;have m4:fr 2=.cells [.nils,.nils,.nils]:=by rw[hmm 2 (by decide),hL0.res]<;>rfl
 have m3:fr 3=.cells [.vec 0 1100 a 0 ((A++(S.msgs.take i).map SM.name)).length false,.vec 0 1101 b 0 (B).length false,.vec 0 1102 c 0 (C).length false]:=by rw[hmm 3 (by decide),m30]<;>rfl
 have m0:fr 1100=.vec a 1 (((A++(S.msgs.take i).map SM.name)).map Qo):=by rw[hmm 1100 (by decide),m00]<;>rfl
 have m1:fr 1101=.vec b 1 ((B).map Qo):=by rw[hmm 1101 (by decide),m10]<;>rfl
 have m2:fr 1102=.vec c 1 ((C).map Qo):=by rw[hmm 1102 (by decide),m20]<;>rfl
 have nv:=hn 5 (by decide);have r5':∀s∈[5,7,9],(fr s).isRow=false:=by
  intro s hs;by_cases hsv:s=5
  ·subst hsv;rw[nv];rfl
  ·rw[hmm s (by simp only[QZ0,Q0Q,or_false];exact hsv)];have:=r5 s hs
   revert this
   cases fr0 s<;>intro h<;>first|rfl|exact h
 clear hf hmm hn h10 h30 h20 hw0 hz0 hk0 X0 hL0 r5 m30 m00 m10 m20;simp only[hz,hk,Qa,seval];by_cases hlt:i<S.msgs.length
 case neg=>
  simp only[Qy hlt,Qa,seval];exact hq _ _ i (by omega) h1 h3 h2 o1 ⟨⟨a,b,c,m3,m0,m1,m2⟩,m4⟩ r5'
 obtain⟨x,hx⟩:∃x,S.msgs[i]? = some x:=⟨S.msgs[i],QYN hlt⟩;have hg:(S.msgs.map QM)[i]? = some (.agg x.cells):=by rw[QZ3,hx];rfl
 rw[Xe]at hg;have e1:=Ql i _ hlt (by simp only[maxLen];omega);have ht:(S.msgs.take i).length≤i:=by rw[QZC];omega
 have hsu:(S.msgs.take (i+1)).map SM.name=(S.msgs.take i).map SM.name++[x.name]:=by rw[Q0j,hx,Q0k,Q0i];rfl
 simp only[Qw hlt,nv,Qj,QZ8,Qd,hg,h3,hw,hk,m3,eE,seval];refine Ja (w:=x.name) rfl ?_;refine QJ (xs:=(A++(S.msgs.take i).map SM.name).map Qo) rfl m0 rfl (by simp) rfl rfl (by simp only[QZn,QZ5,QYZ,QZR,maxLen];omega) (by simp only[QZn,QZ5,QYZ,QZR];omega) ?_;simp only[h3,hk,m3,e1,Qd,eE,seval];have hs':A++(S.msgs.take (i+1)).map SM.name=(A++(S.msgs.take i).map SM.name)++[x.name]:=by rw[hsu];simp only[QY4]
 have hm':(A++(S.msgs.take (i+1)).map SM.name).map Qo=(A++(S.msgs.take i).map SM.name).map Qo++[.str x.name]:=by rw[hs',Q0i];rfl
 have hn':(A++(S.msgs.take (i+1)).map SM.name).length=(A++(S.msgs.take i).map SM.name).length+1:=by rw[hs',QZn];rfl
 refine⟨S.msgs.length-(i+1),by omega,_,_,i+1,rfl,rfl,by omega,h1,h3,h2,hw,hz,rfl,o1,⟨⟨_,_,_,(by rw[hn'];rfl),?_,?_,?_⟩,m4⟩,?_⟩
 ·first|(rw[hm'];rfl)|exact m0|simp only[m0,eE,seval]
 ·first|(rw[hm'];rfl)|exact m1|simp only[m1,eE,seval]
 ·first|(rw[hm'];rfl)|exact m2|simp only[m2,eE,seval]
 ·intro s hs;simp only[QZ0,Q0Q,or_false]at hs;rcases hs with rfl|rfl|rfl<;>first|rfl|exact r5' _ (by decide)

include hM hS in
theorem QS0 (A B C:List (List UInt8))(hABC:A.length≤1048576∧B.length≤1048576∧C.length≤1048576)(f:Fr)(fr:Nat→Ob)(h1:f 1=.ptr 0 1 0)(h3:f 3=.ptr 0 3 0)(h2:f 2=.ptr 0 2 0)(hw:f 26=.list (S.enums.map Xl))(hz:f 27=.int .i64 (S.enums.length:Nat))(hk:f 28=.int .i64 0)
  (o1:fr 1=.cells [.list (S.msgs.map fun n=>.agg n.cells),.list (S.enums.map fun n=>.agg n.cells),.list (S.servs.map fun n=>.agg n.cells)]) (hL:Ls fr A B C) (r5:∀s∈[5,7,9],(fr s).isRow=false) (Q:Exit→St→Prop)
  (hq:∀(f:Fr) (fr:Nat→Ob) (i:Nat),i=S.enums.length→f 1=.ptr 0 1 0→f 3=.ptr 0 3 0→f 2=.ptr 0 2 0→fr 1=.cells [.list (S.msgs.map fun n=>.agg n.cells),.list (S.enums.map fun n=>.agg n.cells),.list (S.servs.map fun n=>.agg n.cells)]→Ls fr A (B++(S.enums.take i).map SE.name) C→(∀s∈[5,7,9],(fr s).isRow=false)→Q (.exit 2) ⟨f,[fr],[]⟩):QN Tryz.prog (.loop LC) ⟨f,[fr],[]⟩ Q:=by
 let I:Nat→St→Prop:=fun k st=>∃f fr i,st=⟨f,[fr],[]⟩∧k=S.enums.length-i∧i≤S.enums.length∧f 1=.ptr 0 1 0∧f 3=.ptr 0 3 0∧f 2=.ptr 0 2 0∧f 26=.list (S.enums.map Xl)∧f 27=.int .i64 (S.enums.length:Nat)∧f 28=.int .i64 (i:Nat)∧
  fr 1=.cells [.list (S.msgs.map fun n=>.agg n.cells),.list (S.enums.map fun n=>.agg n.cells),.list (S.servs.map fun n=>.agg n.cells)]∧Ls fr A (B++(S.enums.take i).map SE.name) C∧∀s∈[5,7,9],(fr s).isRow=false
 have hl1:=hS.len2;obtain⟨hA,hB,hC⟩:=hABC;refine Qe I _ ⟨f,fr,0,rfl,rfl,QYT _,h1,h3,h2,hw,hz,hk,o1,by simpa using hL,r5⟩ ?_;clear h1 h3 h2 hw hz hk o1 hL r5;rintro _ st ⟨f0,fr0,i,rfl,rfl,hi,h10,h30,h20,hw0,hz0,hk0,X0,hL0,r5⟩;refine QH (a:=_) [7] (by intro s hs;exact r5 s (by simp only[QZ0,Q0Q,or_false]at hs ⊢;omega)) ?_;intro f fr hf hmm hn;have h1:f 1=.ptr 0 1 0:=by rw[hf,h10]<;>rfl
 have h3:f 3=.ptr 0 3 0:=by rw[hf,h30]<;>rfl
 have h2:f 2=.ptr 0 2 0:=by rw[hf,h20]<;>rfl
 have hw:f 26=.list (S.enums.map Xl):=by rw[hf,hw0]<;>rfl
 have hz:f 27=.int .i64 (S.enums.length:Nat):=by rw[hf,hz0]<;>rfl
 have hk:f 28=.int .i64 (i:Nat):=by rw[hf,hk0]<;>rfl
 have o1:fr 1=.cells [.list (S.msgs.map fun n=>.agg n.cells),.list (S.enums.map fun n=>.agg n.cells),.list (S.servs.map fun n=>.agg n.cells)]:=by rw[hmm 1 (by decide),X0]<;>rfl
 obtain⟨a,b,c,m30,m00,m10,m20⟩:=hL0.row;have m4:fr 2=.cells [.nils,.nils,.nils]:=by rw[hmm 2 (by decide),hL0.res]<;>rfl
 have m3:fr 3=.cells [.vec 0 1100 a 0 (A).length false,.vec 0 1101 b 0 ((B++(S.enums.take i).map SE.name)).length false,.vec 0 1102 c 0 (C).length false]:=by rw[hmm 3 (by decide),m30]<;>rfl
 have m0:fr 1100=.vec a 1 ((A).map Qo):=by rw[hmm 1100 (by decide),m00]<;>rfl
 have m1:fr 1101=.vec b 1 (((B++(S.enums.take i).map SE.name)).map Qo):=by rw[hmm 1101 (by decide),m10]<;>rfl
 have m2:fr 1102=.vec c 1 ((C).map Qo):=by rw[hmm 1102 (by decide),m20]<;>rfl
 have nv:=hn 7 (by decide);have r5':∀s∈[5,7,9],(fr s).isRow=false:=by
  intro s hs;by_cases hsv:s=7
  ·subst hsv;rw[nv];rfl
  ·rw[hmm s (by simp only[QZ0,Q0Q,or_false];exact hsv)];have:=r5 s hs
   revert this
   cases fr0 s<;>intro h<;>first|rfl|exact h
 clear hf hmm hn h10 h30 h20 hw0 hz0 hk0 X0 hL0 r5 m30 m00 m10 m20;simp only[hz,hk,Qa,seval];by_cases hlt:i<S.enums.length
 case neg=>
  simp only[Qy hlt,Qa,seval];exact hq _ _ i (by omega) h1 h3 h2 o1 ⟨⟨a,b,c,m3,m0,m1,m2⟩,m4⟩ r5'
 obtain⟨x,hx⟩:∃x,S.enums[i]? = some x:=⟨S.enums[i],QYN hlt⟩;have hg:(S.enums.map Xl)[i]? = some (.agg x.cells):=by rw[QZ3,hx];rfl
 rw[XR]at hg;have e1:=Ql i _ hlt (by simp only[maxLen];omega);have ht:(S.enums.take i).length≤i:=by rw[QZC];omega
 have hsu:(S.enums.take (i+1)).map SE.name=(S.enums.take i).map SE.name++[x.name]:=by rw[Q0j,hx,Q0k,Q0i];rfl
 simp only[Qw hlt,nv,Qj,QZ8,Qd,hg,h3,hw,hk,m3,eE,seval];refine Ja (w:=x.name) rfl ?_;refine QJ (xs:=(B++(S.enums.take i).map SE.name).map Qo) rfl m1 rfl (by simp) rfl rfl (by simp only[QZn,QZ5,QYZ,QZR,maxLen];omega) (by simp only[QZn,QZ5,QYZ,QZR];omega) ?_;simp only[h3,hk,m3,e1,Qd,eE,seval];have hs':B++(S.enums.take (i+1)).map SE.name=(B++(S.enums.take i).map SE.name)++[x.name]:=by rw[hsu];simp only[QY4]
 have hm':(B++(S.enums.take (i+1)).map SE.name).map Qo=(B++(S.enums.take i).map SE.name).map Qo++[.str x.name]:=by rw[hs',Q0i];rfl
 have hn':(B++(S.enums.take (i+1)).map SE.name).length=(B++(S.enums.take i).map SE.name).length+1:=by rw[hs',QZn];rfl
 refine⟨S.enums.length-(i+1),by omega,_,_,i+1,rfl,rfl,by omega,h1,h3,h2,hw,hz,rfl,o1,⟨⟨_,_,_,(by rw[hn'];rfl),?_,?_,?_⟩,m4⟩,?_⟩
 ·first|(rw[hm'];rfl)|exact m0|simp only[m0,eE,seval]
 ·first|(rw[hm'];rfl)|exact m1|simp only[m1,eE,seval]
 ·first|(rw[hm'];rfl)|exact m2|simp only[m2,eE,seval]
 ·intro s hs;simp only[QZ0,Q0Q,or_false]at hs;rcases hs with rfl|rfl|rfl<;>first|rfl|exact r5' _ (by decide)

include hM hS in
theorem QS1 (A B C:List (List UInt8))(hABC:A.length≤1048576∧B.length≤1048576∧C.length≤1048576)(f:Fr)(fr:Nat→Ob)(h1:f 1=.ptr 0 1 0)(h3:f 3=.ptr 0 3 0)(h2:f 2=.ptr 0 2 0)(hw:f 41=.list (S.servs.map Yf))(hz:f 42=.int .i64 (S.servs.length:Nat))(hk:f 43=.int .i64 0)
  (o1:fr 1=.cells [.list (S.msgs.map fun n=>.agg n.cells),.list (S.enums.map fun n=>.agg n.cells),.list (S.servs.map fun n=>.agg n.cells)]) (hL:Ls fr A B C) (r5:∀s∈[5,7,9],(fr s).isRow=false) (Q:Exit→St→Prop)
  (hq:∀(f:Fr) (fr:Nat→Ob) (i:Nat),i=S.servs.length→f 1=.ptr 0 1 0→f 3=.ptr 0 3 0→f 2=.ptr 0 2 0→fr 1=.cells [.list (S.msgs.map fun n=>.agg n.cells),.list (S.enums.map fun n=>.agg n.cells),.list (S.servs.map fun n=>.agg n.cells)]→Ls fr A B (C++(S.servs.take i).map SQ.name)→(∀s∈[5,7,9],(fr s).isRow=false)→Q (.exit 4) ⟨f,[fr],[]⟩):QN Tryz.prog (.loop LD) ⟨f,[fr],[]⟩ Q:=by
 let I:Nat→St→Prop:=fun k st=>∃f fr i,st=⟨f,[fr],[]⟩∧k=S.servs.length-i∧i≤S.servs.length∧f 1=.ptr 0 1 0∧f 3=.ptr 0 3 0∧f 2=.ptr 0 2 0∧f 41=.list (S.servs.map Yf)∧f 42=.int .i64 (S.servs.length:Nat)∧f 43=.int .i64 (i:Nat)∧
  fr 1=.cells [.list (S.msgs.map fun n=>.agg n.cells),.list (S.enums.map fun n=>.agg n.cells),.list (S.servs.map fun n=>.agg n.cells)]∧Ls fr A B (C++(S.servs.take i).map SQ.name)∧∀s∈[5,7,9],(fr s).isRow=false
 have hl1:=hS.len3;obtain⟨hA,hB,hC⟩:=hABC;refine Qe I _ ⟨f,fr,0,rfl,rfl,QYT _,h1,h3,h2,hw,hz,hk,o1,by simpa using hL,r5⟩ ?_;clear h1 h3 h2 hw hz hk o1 hL r5;rintro _ st ⟨f0,fr0,i,rfl,rfl,hi,h10,h30,h20,hw0,hz0,hk0,X0,hL0,r5⟩;refine QH (a:=_) [9] (by intro s hs;exact r5 s (by simp only[QZ0,Q0Q,or_false]at hs ⊢;omega)) ?_;intro f fr hf hmm hn;have h1:f 1=.ptr 0 1 0:=by rw[hf,h10]<;>rfl
 have h3:f 3=.ptr 0 3 0:=by rw[hf,h30]<;>rfl
 have h2:f 2=.ptr 0 2 0:=by rw[hf,h20]<;>rfl
 have hw:f 41=.list (S.servs.map Yf):=by rw[hf,hw0]<;>rfl
 have hz:f 42=.int .i64 (S.servs.length:Nat):=by rw[hf,hz0]<;>rfl
 have hk:f 43=.int .i64 (i:Nat):=by rw[hf,hk0]<;>rfl
 have o1:fr 1=.cells [.list (S.msgs.map fun n=>.agg n.cells),.list (S.enums.map fun n=>.agg n.cells),.list (S.servs.map fun n=>.agg n.cells)]:=by rw[hmm 1 (by decide),X0]<;>rfl
 obtain⟨a,b,c,m30,m00,m10,m20⟩:=hL0.row;have m4:fr 2=.cells [.nils,.nils,.nils]:=by rw[hmm 2 (by decide),hL0.res]<;>rfl
 have m3:fr 3=.cells [.vec 0 1100 a 0 (A).length false,.vec 0 1101 b 0 (B).length false,.vec 0 1102 c 0 ((C++(S.servs.take i).map SQ.name)).length false]:=by rw[hmm 3 (by decide),m30]<;>rfl
 have m0:fr 1100=.vec a 1 ((A).map Qo):=by rw[hmm 1100 (by decide),m00]<;>rfl
 have m1:fr 1101=.vec b 1 ((B).map Qo):=by rw[hmm 1101 (by decide),m10]<;>rfl
 have m2:fr 1102=.vec c 1 (((C++(S.servs.take i).map SQ.name)).map Qo):=by rw[hmm 1102 (by decide),m20]<;>rfl
 have nv:=hn 9 (by decide);have r5':∀s∈[5,7,9],(fr s).isRow=false:=by
  intro s hs;by_cases hsv:s=9
  ·subst hsv;rw[nv];rfl
  ·rw[hmm s (by simp only[QZ0,Q0Q,or_false];exact hsv)];have:=r5 s hs
   revert this
   cases fr0 s<;>intro h<;>first|rfl|exact h
 clear hf hmm hn h10 h30 h20 hw0 hz0 hk0 X0 hL0 r5 m30 m00 m10 m20;simp only[hz,hk,Qa,seval];by_cases hlt:i<S.servs.length
 case neg=>
  simp only[Qy hlt,Qa,seval];exact hq _ _ i (by omega) h1 h3 h2 o1 ⟨⟨a,b,c,m3,m0,m1,m2⟩,m4⟩ r5'
 obtain⟨x,hx⟩:∃x,S.servs[i]? = some x:=⟨S.servs[i],QYN hlt⟩;have hg:(S.servs.map Yf)[i]? = some (.agg x.cells):=by rw[QZ3,hx];rfl
 rw[Wf]at hg;have e1:=Ql i _ hlt (by simp only[maxLen];omega);have ht:(S.servs.take i).length≤i:=by rw[QZC];omega
 have hsu:(S.servs.take (i+1)).map SQ.name=(S.servs.take i).map SQ.name++[x.name]:=by rw[Q0j,hx,Q0k,Q0i];rfl
 simp only[Qw hlt,nv,Qj,QZ8,Qd,hg,h3,hw,hk,m3,eE,seval];refine Ja (w:=x.name) rfl ?_;refine QJ (xs:=(C++(S.servs.take i).map SQ.name).map Qo) rfl m2 rfl (by simp) rfl rfl (by simp only[QZn,QZ5,QYZ,QZR,maxLen];omega) (by simp only[QZn,QZ5,QYZ,QZR];omega) ?_;simp only[h3,hk,m3,e1,Qd,eE,seval];have hs':C++(S.servs.take (i+1)).map SQ.name=(C++(S.servs.take i).map SQ.name)++[x.name]:=by rw[hsu];simp only[QY4]
 have hm':(C++(S.servs.take (i+1)).map SQ.name).map Qo=(C++(S.servs.take i).map SQ.name).map Qo++[.str x.name]:=by rw[hs',Q0i];rfl
 have hn':(C++(S.servs.take (i+1)).map SQ.name).length=(C++(S.servs.take i).map SQ.name).length+1:=by rw[hs',QZn];rfl
 refine⟨S.servs.length-(i+1),by omega,_,_,i+1,rfl,rfl,by omega,h1,h3,h2,hw,hz,rfl,o1,⟨⟨_,_,_,(by rw[hn'];rfl),?_,?_,?_⟩,m4⟩,?_⟩
 ·first|(rw[hm'];rfl)|exact m0|simp only[m0,eE,seval]
 ·first|(rw[hm'];rfl)|exact m1|simp only[m1,eE,seval]
 ·first|(rw[hm'];rfl)|exact m2|simp only[m2,eE,seval]
 ·intro s hs;simp only[QZ0,Q0Q,or_false]at hs;rcases hs with rfl|rfl|rfl<;>first|rfl|exact r5' _ (by decide)

include hM hS in
theorem s96:Qi Tryz.prog 96 [S.av] (.agg [.list ((S.msgs.map SM.name).map Qo),.list ((S.enums.map SE.name).map Qo),.list ((S.servs.map SQ.name).map Qo)]):=by
 have l1:=hS.len1;have l2:=hS.len2;have l3:=hS.len3;refine k96.fn (by simp) ?_;simp only[SC.av,eE,seval];refine Xf rfl rfl rfl rfl ?_;refine Xf rfl rfl rfl rfl ?_;refine Xf rfl rfl rfl rfl ?_;simp only[QZ5,eE,seval];refine QSZ hM S hS [] [] [] ⟨by simp,by simp,by simp⟩ _ _ rfl rfl rfl rfl rfl rfl rfl ⟨⟨1,1,1,rfl,rfl,rfl,rfl⟩,rfl⟩ (by
  intro s hs;simp only[QZ0,Q0Q,or_false]at hs;rcases hs with rfl|rfl|rfl<;>rfl) _ (fun f fr i hi h1 h3 h2 o1 hL r5=>?_)
 subst hi;rw[QY6,Q0h]at hL;simp only[h1,o1,QZ5,eE,seval];refine QS0 hM S hS _ [] [] ⟨by rw[QZ5];omega,by simp,by simp⟩ _ _ (by exact h1) (by exact h3) (by exact h2) (by rfl) (by rfl) (by rfl) o1 hL r5 _ (fun f fr i hi h1 h3 h2 o1 hL r5=>?_);subst hi;rw[QY6,Q0h]at hL;simp only[h1,o1,QZ5,eE,seval];refine QS1 hM S hS _ _ [] ⟨by rw[QZ5];omega,by rw[QZ5];omega,by simp⟩ _ _ (by exact h1) (by exact h3) (by exact h2) (by rfl) (by rfl) (by rfl) o1 hL r5 _ (fun f fr i hi h1 h3 h2 o1 hL r5=>?_);subst hi;rw[QY6,Q0h]at hL;obtain⟨a,b,c,m3,m0,m1,m2⟩:=hL.row;have ht:∀l:List (List UInt8),List.take l.length (List.map Qo l)=List.map Qo l:=fun l=>QZj (by rw[QZ5];exact QYK _)
 have m4:=hL.res;simp only[h3,h2,m3,m0,m1,m2,m4,QY9,QYK,QZJ,QZ5,QZs,AV.un,eE,seval];rw[show List.take S.msgs.length (List.map Qo (List.map SM.name S.msgs))=List.map Qo (List.map SM.name S.msgs)from QZj (by simp),show List.take S.enums.length (List.map Qo (List.map SE.name S.enums))=List.map Qo (List.map SE.name S.enums)from QZj (by simp),show List.take S.servs.length (List.map Qo (List.map SQ.name S.servs))=List.map Qo (List.map SQ.name S.servs)from QZj (by simp)]
end

theorem QS2 {k:Nat}(h:k<1):decide ((k:Int)<1)=true:=Q0D (by omega)
theorem QS3 {k:Nat}(h:k<2):decide ((k:Int)<2)=true:=Q0D (by omega)
def Yp (A B C:List (List UInt8)):Nat→List (List UInt8)
 |0=>A
 |1=>B
 |_=>C

section
variable (A B C:List (List UInt8))(hA:A.length≤maxLen)(hB:B.length≤maxLen)(hC:C.length≤maxLen)

theorem QS4 (k:Nat)(hk:k<3)(hl:(Yp A B C k).length≤maxLen)(fr:Nat→Ob)(o1:fr 1=.cells [.list (A.map Qo),.list (B.map Qo),.list (C.map Qo)])(o4:fr 4=.cells [.int .i64 (k:Nat)])(n:List UInt8) :
  Qf Tryz.prog 149 [Qo n,.ptr 2 1 0,.ptr 2 4 0] [Qc,Qc,fr] fun y m1=>y=.bool ((Yp A B C k).contains n)∧m1=[Qc,Qc,fr]:=by
 have hc:=s50 _ hl n;have hlt:decide ((k:Int)<3)=true:=Q0D (by omega);refine QvU.go (by simp) ?_;have hk3:k=0∨k=1∨k=2:=by omega
 rcases hk3 with rfl|rfl|rfl <;>
 ·simp only[Qo,o1,o4,Qd,eE,seval];refine aC hc ?_;simp only[Qa,seval]

def HJ (A B C:List (List UInt8))(i k:Nat):Bool:=(Yp A B C i).any fun s=>(Yp A B C k).contains s
def UQ (A B C:List (List UInt8)):Bool:=!HJ A B C 1 0 && !HJ A B C 2 0 && !HJ A B C 2 1

include hA hB hC in
theorem Vr (k:Nat):(Yp A B C k).length≤maxLen:=by
 unfold Yp;split<;>assumption

include hA hB hC in
theorem QMb (i:Nat)(hi:i<3)(f:Fr)(fr:Nat→Ob)(h1:f 1=.ptr 0 1 0)(h3:f 3=.int .i64 (i:Nat))(h5:f 5=.int .i64 (i:Nat))(h8:f 8=.int .i64 (i:Nat))(h9:f 9=.int .i64 0)(o1:fr 1=.cells [.list (A.map Qo),.list (B.map Qo),.list (C.map Qo)])(r4:(fr 4).isRow=false)(Q:Exit→St→Prop)
  (hq:∀(f:Fr) (fr:Nat→Ob),(∀k,k<i→HJ A B C i k=false)→f 1=.ptr 0 1 0→f 5=.int .i64 (i:Nat)→fr 1=.cells [.list (A.map Qo),.list (B.map Qo),.list (C.map Qo)]→(fr 4).isRow=false→Q (.exit 2) ⟨f,[fr],[]⟩)
  (hr:∀(f:Fr) (fr:Nat→Ob) (k:Nat),k<i→HJ A B C i k=true→f 2=.bool false→Q .ret ⟨f,[fr],[]⟩):QN Tryz.prog (.loop LA) ⟨f,[fr],[]⟩ Q:=by
 let I:Nat→St→Prop:=fun n st=>∃f fr k,st=⟨f,[fr],[]⟩∧n=i-k∧k≤i∧(∀j,j<k→HJ A B C i j=false)∧f 1=.ptr 0 1 0∧f 3=.int .i64 (i:Nat)∧f 5=.int .i64 (i:Nat)∧f 8=.int .i64 (i:Nat)∧f 9=.int .i64 (k:Nat)∧fr 1=.cells [.list (A.map Qo),.list (B.map Qo),.list (C.map Qo)]∧(fr 4).isRow=false
 refine Qe I _ ⟨f,fr,0,rfl,rfl,QYT _,fun j hj=>by omega,h1,h3,h5,h8,h9,o1,r4⟩ ?_;clear h1 h3 h5 h8 h9 o1 r4;rintro _ st ⟨f0,fr0,k,rfl,rfl,hk,hal,h10,h30,h50,h80,h90,X0,r4⟩;refine QH (a:=_) [4] (by intro s hs;simp only[QZ0,Q0Q,or_false]at hs;subst hs;exact r4) ?_;intro f fr hf hmm hn;have h1:f 1=.ptr 0 1 0:=by rw[hf,h10]<;>rfl
 have h3:f 3=.int .i64 (i:Nat):=by rw[hf,h30]<;>rfl
 have h5:f 5=.int .i64 (i:Nat):=by rw[hf,h50]<;>rfl
 have h8:f 8=.int .i64 (i:Nat):=by rw[hf,h80]<;>rfl
 have h9:f 9=.int .i64 (k:Nat):=by rw[hf,h90]<;>rfl
 have o1:fr 1=.cells [.list (A.map Qo),.list (B.map Qo),.list (C.map Qo)]:=by rw[hmm 1 (by decide),X0]<;>rfl
 have n4:=hn 4 (by decide);clear hf hmm hn h10 h30 h50 h80 h90 X0 r4;simp only[h8,h9,Qa,seval];by_cases hlt:k<i
 case neg=>
  have e:k=i:=by omega
  subst e;simp only[Qy hlt,Qa,seval];exact hq _ _ hal h1 h5 o1 (by rw[n4];rfl)
 have e1:=Ql k _ hlt (by simp only[maxLen];omega);have hcc:∀F:Nat→Ob,F 1=.cells [.list (A.map Qo),.list (B.map Qo),.list (C.map Qo)]→F 4=.cells [.int .i64 (k:Nat)]→Qf Tryz.prog 148 [.list ((Yp A B C i).map Qo),.fn (.func 149) [] [.ptr 0 1 0,.ptr 0 4 0]] [F] fun y m1=>y=.bool (HJ A B C i k)∧m1=[F] :=
  fun F g1 g4=>Ps (Yp A B C i) (Vr A B C hA hB hC i) (fun s=>(Yp A B C k).contains s) 149 [.ptr 0 1 0,.ptr 0 4 0] [F] fun o _=>QS4 A B C k (by omega) (Vr A B C hA hB hC k) F g1 g4 o
 have hi3:i=1∨i=2:=by omega
 rcases hi3 with rfl|rfl <;>
 ·first
   |simp only[QS2 hlt,n4,o1,Qd,h1,h3,h9,eE,seval]
   |simp only[QS3 hlt,n4,o1,Qd,h1,h3,h9,eE,seval]
  refine Qb (hcc _ o1 rfl) (by simp only[QZh,QZG,h1,Yp,Qa,seval]<;>rfl) ?_;cases ha:HJ A B C _ k
  ·simp only[h9,e1,Qa,seval];exact⟨_,by omega,_,_,k+1,rfl,rfl,by omega,fun j hj=>(by rcases Q0w.1 hj with h|rfl;exact hal j h;exact ha),h1,h3,h5,h8,rfl,o1,rfl⟩
  ·simp only[Qa,seval];exact hr _ _ k hlt ha rfl

include hA hB hC in
theorem s99:Qi Tryz.prog 99 [.agg [.list (A.map Qo),.list (B.map Qo),.list (C.map Qo)]] (.bool (UQ A B C)):=by
 let I:Nat→St→Prop:=fun n st=>∃f fr i,st=⟨f,[fr],[]⟩∧n=3-i∧i≤3∧(∀j,j<i→∀k,k<j→HJ A B C j k=false)∧f 1=.ptr 0 1 0∧f 5=.int .i64 (i:Nat)∧fr 1=.cells [.list (A.map Qo),.list (B.map Qo),.list (C.map Qo)]∧(fr 4).isRow=false
 refine k99.fn (by simp) ?_;simp only[eE,seval];refine Qe I _ ⟨_,_,0,rfl,rfl,by omega,fun j hj=>by omega,rfl,rfl,rfl,rfl⟩ ?_;rintro _ st ⟨f0,fr0,i,rfl,rfl,hi,hal,h10,h50,X0,r4⟩;refine QH (a:=_) [4] (by intro s hs;simp only[QZ0,Q0Q,or_false]at hs;subst hs;exact r4) ?_;intro f fr hf hmm hn;have h1:f 1=.ptr 0 1 0:=by rw[hf,h10]<;>rfl
 have h5:f 5=.int .i64 (i:Nat):=by rw[hf,h50]<;>rfl
 have o1:fr 1=.cells [.list (A.map Qo),.list (B.map Qo),.list (C.map Qo)]:=by rw[hmm 1 (by decide),X0]<;>rfl
 have n4:=hn 4 (by decide);clear hf hmm hn h10 h50 X0 r4;simp only[h5,Qa,seval];by_cases hlt:i<3
 case neg=>
  have e:i=3:=by omega
  subst e;have d:decide (((3:Nat):Int)<3)=false:=rfl;have hap:UQ A B C=true:=by
   unfold UQ;rw[hal 1 (by omega) 0 (by omega),hal 2 (by omega) 0 (by omega),hal 2 (by omega) 1 (by omega)];rfl
  simp only[hap,Qa,seval]
 have d:decide ((i:Int)<3)=true:=Q0D (by omega);have e1:=Ql i 3 hlt (by simp only[maxLen];omega);simp only[d,h5,Qa,seval];refine QMb A B C hA hB hC i hlt _ _ (by exact h1) (by rfl) (by exact h5) (by rfl) (by rfl) o1 (by rw[n4];rfl) _ (fun f fr hk h1 h5 o1 r4=>?_) (fun f fr k hk ha h2=>?_)
 ·simp only[h5,e1,Qa,seval];exact⟨3-(i+1),by omega,_,_,i+1,rfl,rfl,by omega,fun j hj=>(by rcases Q0w.1 hj with h|rfl;exact hal j h;exact hk),h1,rfl,o1,r4⟩
 ·have hap:UQ A B C=false:=by
   unfold UQ;have h3:(i=1∧k=0)∨(i=2∧k=0)∨(i=2∧k=1):=by omega
   rcases h3 with⟨rfl,rfl⟩|⟨rfl,rfl⟩|⟨rfl,rfl⟩<;>rw[ha]<;>simp
  simp only[h2,hap,Qa,seval]
end

theorem Al (S:SC):UQ (S.msgs.map SM.name) (S.enums.map SE.name) (S.servs.map SQ.name)=Kh S:=by
 have key:∀ {α β:Type} (l:List α) (r:List β) (f:α→List UInt8) (g:β→List UInt8),((l.map f).any fun s=>(r.map g).contains s)=l.any fun x=>r.any fun y=>g y==f x:=by
  intro α β l r f g;rw[List.any_map];congr 1
  funext x;show(r.map g).contains (f x)=_;rw[←Mh,List.any_map];rfl
 unfold UQ Kh HJ;show(!((S.enums.map SE.name).any fun s=>(S.msgs.map SM.name).contains s) && !((S.servs.map SQ.name).any fun s=>(S.msgs.map SM.name).contains s) && !((S.servs.map SQ.name).any fun s=>(S.enums.map SE.name).contains s))=_;rw[key,key,key]

end Go.Proofs.YtafhmlkilcmniaaGreatDoor.Va

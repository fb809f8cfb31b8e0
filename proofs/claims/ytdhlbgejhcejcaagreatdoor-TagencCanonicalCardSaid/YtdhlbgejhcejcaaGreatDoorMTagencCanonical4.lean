/- Parts of the proof, in order. -/
import Derived.Test.YtdhlbgejhcejcaaGreatDoorProg
import Derived.Test.YtdhlbgejhcejcaaGreatDoorMTagencCanonical3

set_option linter.unusedSimpArgs false
namespace Go.Proofs.YtdhlbgejhcejcaaGreatDoor.Va
open Go Am Rc Bt Br Up So

theorem Yz {f:Nat→Int}:∀ {k i:Nat},(∀j,i≤j→j<i+k→f j=0)→Xd f k i=0
 |0,_,_=>rfl
 |k+1,i,h=>by
  rw[Xd,QUQ (h i (QUm _) (by omega))];exact Yz fun j h1 h2=>h j (by omega) (by omega)

theorem JZ {α:Type}{l:List α}{p:α→Bool}{i:Nat}(hi:i≤l.length):(l.take i).any p=false↔∀j (h:j<i),p (l[j]'(by omega))=false:=by
 rw[List.any_eq_false]
 constructor
 ·intro h j hj;have:=h (l[j]'(by omega)) (QUA (i:=j) (by rw[QU0,QUQ hj,QUo (by omega)]))
  simpa using this
 ·intro h x hx;obtain⟨j,hj⟩:=QUy.1 hx;have hl:=(QUn.1 hj).1;rw[QVj]at hl;rw[QU0,QUQ (by omega)]at hj;obtain⟨hj1,rfl⟩:=QUn.1 hj;have:=h j (by omega);simp[this]

section
variable {m:PG→V→Int}{P:PL}

def SOK (m:PG→V→Int)(P:PL)(g:PG)(sl:List (Int×V)):Prop :=
 (∀x∈sl,∃o,XH g x.1=some o∧QT m P o x.2=0)∧sl.Pairwise (fun y x=>(y.1==x.1)=false)∧sl.Pairwise (fun y x=>∀o,XH g x.1=some o→Zy g o y=false)

theorem Qaz {g:PG}{sl:List (Int×V)}:Xd (XG m P g sl) sl.length 0=0↔SOK m P g sl:=by
 have key:∀i (hi:i<sl.length),XG m P g sl i=0↔∃o,XH g sl[i].1=some o∧(sl.take i).any (fun y=>y.1==sl[i].1)=false∧(sl.take i).any (Zy g o)=false∧QT m P o sl[i].2=0:=by
  intro i hi;unfold XG;rw[QUo hi];dsimp only;cases XH g sl[i].1 with
  |none=>simp
  |some o=>
   simp only[QUM,exists_eq_left'];cases(sl.take i).any (fun y=>y.1==sl[i].1)<;>cases(sl.take i).any (Zy g o)<;>simp only[QUG,QWq,if_true,if_false,true_and,false_and,iff_false]<;>omega
 constructor
 ·intro h;have hz:∀i (hi:i<sl.length),_:=fun i hi=>(key i hi).1 (Js h i (QUv _) (by omega))
  refine⟨fun x hx=>?_,?_,?_⟩
  ·obtain⟨i,hi,rfl⟩:=QWw hx;obtain⟨o,h1,_,_,h4⟩:=hz i hi;exact⟨o,h1,h4⟩
  ·rw[QWt];intro i j hi hj hij;obtain⟨o,_,h2,_,_⟩:=hz j hj;exact(JZ (by omega)).1 h2 i hij
  ·rw[QWt];intro i j hi hj hij o ho;obtain⟨o',h1,_,h3,_⟩:=hz j hj;rw[h1]at ho;cases ho;exact(JZ (by omega)).1 h3 i hij
 ·rintro⟨h1,h2,h3⟩;refine Yz fun i _ hi=>?_
  rw[QU3]at hi;obtain⟨o,ho,hf⟩:=h1 sl[i] (QVe hi);rw[QWt]at h2 h3;exact(key i hi).2 ⟨o,ho,(JZ (by omega)).2 fun j hj=>h2 j i (by omega) hi hj,(JZ (by omega)).2 fun j hj=>h3 j i (by omega) hi hj o ho,hf⟩

def EOK (m:PG→V→Int)(P:PL)(o:PO)(ps:List (V×V)):Prop :=
 (∀x∈ps,x.1.one P o.key (-1)=0∧QN m P o x.2=0)∧ps.Pairwise fun q p=>Zw q.1 p.1=false

theorem JB {o:PO}{ps:List (V×V)}:Xd (Kh m P o ps) ps.length 0=0↔EOK m P o ps:=by
 have key:∀i (hi:i<ps.length),Kh m P o ps i=0↔(ps[i].1.one P o.key (-1)=0∧(ps.take i).any (fun q=>Zw q.1 ps[i].1)=false∧QN m P o ps[i].2=0):=by
  intro i hi;rw[KE (QUo hi)];by_cases hz:ps[i].1.one P o.key (-1)=0
  ·rw[QUQ hz];cases(ps.take i).any (fun q=>Zw q.1 ps[i].1)<;>simp[hz]
  ·rw[QUB hz];simp[hz]
 constructor
 ·intro h;have hz:∀i (hi:i<ps.length),_:=fun i hi=>(key i hi).1 (Js h i (QUv _) (by omega))
  refine⟨fun x hx=>?_,?_⟩
  ·obtain⟨i,hi,rfl⟩:=QWw hx;exact⟨(hz i hi).1,(hz i hi).2.2⟩
  ·rw[QWt];intro i j hi hj hij;exact(JZ (by omega)).1 (hz j hj).2.1 i hij
 ·rintro⟨h1,h2⟩;refine Yz fun i _ hi=>?_
  rw[QU3]at hi;rw[QWt]at h2;exact(key i hi).2 ⟨(h1 _ (QVe hi)).1,(JZ (by omega)).2 fun j hj=>h2 j i (by omega) hi hj,(h1 _ (QVe hi)).2⟩

theorem JC {o:PO}{l:List V}:Xd (YY m P o l) l.length 0=0↔∀x∈l,QN m P o x=0:=by
 constructor
 ·intro h x hx;obtain⟨i,hi,rfl⟩:=QWw hx;have:=Js h i (QUv _) (by omega)
  rwa [Wo (QUo hi)]at this
 ·intro h;refine Yz fun i _ hi=>?_
  rw[QU3]at hi;rw[Wo (QUo hi)];exact h _ (QVe hi)
theorem QaA {g:PG}{l:List R}:Xd (Zu P g l) l.length 0=0↔∀x∈l,Je P g x=0:=by
 constructor
 ·intro h x hx;obtain⟨i,hi,rfl⟩:=QWw hx;have:=Js h i (QUv _) (by omega)
  rwa [WD (QUo hi)]at this
 ·intro h;refine Yz fun i _ hi=>?_
  rw[QU3]at hi;rw[WD (QUo hi)];exact h _ (QVe hi)

theorem JT {g:PG}{v:V}:Wf m P g v=0↔SOK m P g v.slots∧KD g v.slots=false∧∀x∈v.raws,Je P g x=0:=by
 unfold Wf;rw[←Qaz,←QaA];split
 ·rename_i h;cases KD g v.slots<;>simp[h]
 ·rename_i h;simp[h]
end

theorem ZU {P:PL}{n:Nat}{g:PG}{v:V}:Q9 P (n+1) g v=0↔(v.kd=10∧v.oth=false)∧SOK (Q9 P n) P g v.slots∧KD g v.slots=false∧∀x∈v.raws,Je P g x=0:=by
 rw[←JT];unfold Q9;by_cases h:v.kd=10
 ·cases ho:v.oth<;>simp[h]
 ·simp[h]

theorem B4 {v:V}(h:v.kd≠6):v.nsc=v:=by
 cases v;unfold V.nsc Xm;rw[QUB fun g=>h g.1];rfl
theorem QGG {P:PL}{tg:Int}{t:List UInt8}{l p s r:List AV}(b b':Nat):WC P 6 tg 6 b t l p s r=WC P 6 tg 6 b' t l p s r:=by
 have k1:(Zb 6||(6:Int)==10||(6:Int)==11||(6:Int)==12)=false:=by decide
 have k2:((6:Int)==9)=false:=rfl;have t6:Zb 6=false:=rfl;have f6:∀b,YT 6 b=true:=fun b=>by
  unfold YT;rw[QUB (by decide),QUB (by decide),QUB (by decide),QUB (by decide)]
 have h1:oth 6 b t l p s r=oth 6 b' t l p s r:=by
  unfold oth;rw[k1,QWk,QWk]
 have h2:Xl 6 6 b t l p s r=Xl 6 6 b' t l p s r:=by
  unfold Xl;rw[f6,f6,QUB (by rw[t6];exact Bool.false_ne_true),QUB (by rw[t6];exact Bool.false_ne_true)]
 unfold WC;rw[h1,h2,k2,QVQ,QVQ]
theorem VC {P:PL}{k tg:Int}{v:V}(h:v.one P k tg=0):v.nsc.one P k tg=0:=by
 by_cases hk:v.kd=6
 ·have e:=(Yv h).1;rw[←h];unfold V.one;have e1:v.nsc.kd=6:=hk;rw[e1,hk,show k=6 by omega];exact QGG _ _
 ·rw[B4 hk];exact h

theorem XS {g:PG}(hd:g.ops.Pairwise fun a b=>a.num<b.num){o:PO}(ho:o∈g.ops):XH g o.num=some o:=by
 unfold XH
 revert hd ho
 generalize g.ops=ops;intro hd ho
 induction ops with
 |nil=>cases ho
 |cons x l ih=>
  obtain⟨h1,h2⟩:=QVT.1 hd;rw[QWa];rcases QVI.1 ho with rfl|ho
  ·simp
  ·have:=h1 o ho;rw[show(x.num==o.num)=false by simp;omega];exact ih h2 ho

section
variable {m:PG→V→Int}{nm:PG→V→V}{P:PL}

theorem HN (h:∀g∈P.progs,∀v,m g v=0→m g (nm g v)=0){o:PO}(ho:UO P o){v:V}(hv:QN m P o v=0):QN m P o (Xj nm P o v)=0:=by
 unfold QN Xj at *;by_cases hk:o.kind=10
 ·rw[QUQ hk]at hv;rw[QUQ hk,QUQ hk];obtain⟨t0,t1⟩:=ho.tgt hk;refine h _ ?_ _ hv;unfold QL;rw[QUo (by omega:o.target.toNat<P.progs.length)];exact QVe _
 ·rw[QUB hk]at hv;rw[QUB hk,QUB hk];exact VC hv

theorem Fo {o:PO}(ho:o.card=5→X8 o.key)(h5:o.card=5){ps:List (V×V)}(h:EOK m P o ps):∀p∈ps,p.1.nsc=p.1:=by
 intro p hp;have e:=(Yv (h.1 p hp).1).1;refine B4 ?_;have:=ho h5;unfold X8 at this;omega

theorem Sm (h:∀g∈P.progs,∀v,m g v=0→m g (nm g v)=0){o:PO}(ho:UO P o){v:V}(hv:QT m P o v=0):QT m P o (Xu nm P o v)=0:=by
 unfold QT Xu at *;by_cases h5:o.card=5
 ·have n4:¬o.card=4:=by omega
  rw[QUQ h5]at hv;rw[QUQ h5,QUB n4,QUQ h5];split at hv
  ·omega
  have hE:=JB.1 hv;have hk:=Fo ho.key h5 hE;rw[QUB (by simp[V.kd,V.oth,oth,V.bits,V.text,V.list,V.pairs,V.slots,V.raws,Zb])];refine JB.2 ?_;have hp:(QZ o.key v.pairs).Perm v.pairs:=Q3 _;have hm:∀p∈QZ o.key v.pairs,p∈v.pairs:=fun p h=>hp.mem_iff.1 h
  refine⟨fun x hx=>?_,?_⟩
  ·obtain⟨p,hp,rfl⟩:=QVG.1 hx;have h1:=hE.1 p (hm p hp);exact⟨VC h1.1,HN h ho h1.2⟩
  ·show(List.map _ (QZ o.key v.pairs)).Pairwise _;rw[List.pairwise_map];have h2:(QZ o.key v.pairs).Pairwise fun q p=>Zw q.1 p.1=false:=(hp.pairwise_iff fun {a b} h=>by unfold Zw at *;rw[←h,Bool.beq_comm (a:=b.1.bits),Bool.beq_comm (a:=b.1.text)]).2 hE.2
   refine h2.imp_of_mem fun {a b} ha hb h=>?_
   dsimp only;rw[hk a (hm a ha),hk b (hm b hb)];exact h
 ·rw[QUB h5]at hv;rw[QUB h5];by_cases h4:o.card=4
  ·rw[QUQ h4]at hv;rw[QUQ h4,QUQ h4];split at hv
   ·omega
   have hL:=JC.1 hv;rw[QUB (by simp[V.kd,V.oth,oth,V.bits,V.text,V.list,V.pairs,V.slots,V.raws,Zb])];refine JC.2 fun x hx=>?_
   obtain⟨y,hy,rfl⟩:=QVG.1 hx;exact HN h ho (hL y hy)
  ·rw[QUB h4]at hv;rw[QUB h4,QUB h4,QUB h5];exact HN h ho hv

theorem Xz {sl:List (Int×V)}{o:PO}{x:Int×V}(h:x∈QW nm P sl o):x.1=o.num∧∃s∈sl,s.1=o.num∧x.2=Xu nm P o s.2:=by
 unfold QW at h;cases hf:sl.find? (fun s=>s.1==o.num)with
 |none=>rw[hf]at h;cases h
 |some s=>
  rw[hf]at h;dsimp only at h;have h1:s.1=o.num:=by simpa using QWh hf
  split at h
  ·simp only[QVI,QWv,or_false]at h;subst h;exact⟨rfl,s,QWg hf,h1,rfl⟩
  ·cases h

theorem Y5 {sl:List (Int×V)}{o:PO}{p:Int×V→Int×V→Prop}:(QW nm P sl o).Pairwise p:=by
 unfold QW;split
 ·exact .nil
 ·split
  ·exact List.pairwise_singleton _ _
  ·exact .nil

theorem PV (h:∀g∈P.progs,∀v,m g v=0→m g (nm g v)=0){g:PG}(hd:g.ops.Pairwise fun a b=>a.num<b.num)(hu:∀o∈g.ops,UO P o){v:V}(hv:Wf m P g v=0):Wf m P g (Yp nm P g v)=0:=by
 obtain⟨⟨s1,s2,s3⟩,hmis,hraw⟩:=JT.1 hv;have uniq:∀ {a b:Int×V},a∈v.slots→b∈v.slots→a.1=b.1→a=b:=by
  intro a b ha hb e;obtain⟨i,hi,rfl⟩:=QWw ha;obtain⟨j,hj,rfl⟩:=QWw hb;rw[QWt]at s2;rcases Nat.lt_trichotomy i j with c|c|c
  ·have:=s2 i j hi hj c;rw[e]at this;simp at this
  ·subst c;rfl
  ·have:=s2 j i hj hi c;rw[e]at this;simp at this
 refine JT.2 ⟨⟨fun x hx=>?_,?_,?_⟩,?_,fun x hx=>?_⟩
 ·obtain⟨o,ho,hx⟩:=QU8.1 hx;obtain⟨e,s,hs,e1,e2⟩:=Xz hx;obtain⟨o',h1,h2⟩:=s1 s hs;rw[e1,XS hd ho]at h1;cases h1;exact⟨o,by rw[e];exact XS hd ho,by rw[e2];exact Sm h (hu o ho) h2⟩
 ·show(g.ops.flatMap (QW nm P v.slots)).Pairwise _;rw[QWx];refine⟨fun _ _=>Y5,hd.imp fun {a b} hab x hx y hy=>?_⟩;have e1:=(Xz hx).1;have e2:=(Xz hy).1;simp;omega
 ·show(g.ops.flatMap (QW nm P v.slots)).Pairwise _;rw[QWx];refine⟨fun _ _=>Y5,(hd.imp_of_mem fun {a b} ha hb hab x hx y hy o ho=>?_)⟩;obtain⟨e1,s,hs,es,_⟩:=Xz hx;obtain⟨e2,t,ht,et,_⟩:=Xz hy;rw[e2,XS hd hb]at ho;cases ho;have hst:s≠t:=fun e=>by rw[e,et]at es;omega
  obtain⟨i,hi,rfl⟩:=QWw hs;obtain⟨j,hj,rfl⟩:=QWw ht;rw[QWt]at s3;have hx1:XH g x.1=some a:=by rw[e1];exact XS hd ha
  unfold Zy;rw[hx1];rcases Nat.lt_trichotomy i j with c|c|c
  ·have:=s3 i j hi hj c b (by rw[et];exact XS hd hb);unfold Zy at this;rw[es,XS hd ha]at this;exact this
  ·subst c;exact absurd rfl hst
  ·have:=s3 j i hj hi c a (by rw[es];exact XS hd ha);unfold Zy at this;rw[et,XS hd hb]at this;simp only[QVw,QWn,bne_eq_false_iff_eq,QV4]at this ⊢;rcases this with e|e
   ·by_cases c:b.union = -1
    ·exact .inl c
    ·exact .inr fun g=>c (by omega)
   ·exact .inr fun g=>e g.symm
 ·have hm:=hmis;rw[DO,List.any_eq_false]at hm ⊢;intro o ho;have:=hm o ho;unfold KH at this ⊢;by_cases hc:o.card=1
  ·have hb:(o.card==1)=true:=by simp[hc]
   rw[hb,QVZ,QWp,Bool.not_eq_false']at this;rw[hb,QVZ,QWp,Bool.not_eq_false'];obtain⟨s,hs,e⟩:=QWf.1 this;obtain⟨t,ht⟩:∃t,v.slots.find? (fun s=>s.1==o.num)=some t:=by
    cases hf:v.slots.find? (fun s=>s.1==o.num)with
    |none=>exact absurd e (by simpa using QWe.1 hf s hs)
    |some t=>exact⟨t,rfl⟩
   refine QWf.2 ⟨(o.num,Xu nm P o t.2),QU8.2 ⟨o,ho,?_⟩,by simp⟩;unfold QW;rw[ht];dsimp only;rw[QUQ (by simp[hc])];simp
  ·have hb:(o.card==1)=false:=by simp[hc]
   rw[hb,QVQ];simp
 ·exact hraw x ((Q3 v.raws).mem_iff.1 hx)

end

theorem WI {P:PL}(hU:Yy P)(hr:Ki P):∀(n:Nat) (g:PG),g∈P.progs→∀v:V,Q9 P n g v=0→Q9 P n g (nrm P n g v)=0
 |0,_,_,v,h=>by
  unfold Q9 at h;split at h<;>omega
 |n+1,g,hg,v,h=>by
  have hb:=JT.2 (ZU.1 h).2;refine ZU.2 ⟨⟨rfl,?_⟩,JT.1 (PV (fun g hg v h=>WI hU hr n g hg v h) (hr g hg) (hU g hg) hb)⟩;simp[V.oth,oth,nrm,Yp,V.kd,V.bits,V.text,V.list,V.pairs,V.slots,V.raws,Zb]

theorem NO (k:Int)(b:Nat):Xm k (Xm k b)=Xm k b:=by
 unfold Xm;by_cases h:k=6∧Yw b=0
 ·rw[QUQ h,QUQ ⟨h.1,by decide⟩]
 ·rw[QUB h,QUB h]

theorem VD:∀v:V,v.nsc.nsc=v.nsc
 |.mk k b t l p s r=>by
  show V.mk k (Xm k (Xm k b)) t l p s r=V.mk k (Xm k b) t l p s r;rw[NO]

theorem GY {nm:PG→V→V}{P:PL}{sl:List (Int×V)}:∀ {ops:List PO},(ops.Pairwise fun a b=>a.num<b.num)→∀o∈ops,(ops.flatMap (QW nm P sl)).find? (fun s=>s.1==o.num)=(QW nm P sl o).head?
 | [],_,_,h=>by cases h
 |x :: ops,hd,o,ho=>by
  obtain⟨h1,h2⟩:=QVT.1 hd;have hn:∀o':PO,o'.num≠o.num→(QW nm P sl o').find? (fun s=>s.1==o.num)=none:=fun o' e=>by
   rw[QWe];intro s hs;rw[(Xz hs).1]
   simpa using e
  have hs:∀o':PO,o'.num=o.num→∀l:List (Int×V),(∀s∈l,s.1=o'.num)→l.find? (fun s=>s.1==o.num)=l.head?:=fun o' e l hl=>by
   cases l with
   |nil=>rfl
   |cons s l=>
    rw[QWa,hl s (by simp),e];simp
  rw[QVP,List.find?_append];rcases QVI.1 ho with rfl|ho
  ·rw[hs o rfl _ fun s h=>(Xz h).1];cases hh:(QW nm P sl o).head? with
   |some s=>rfl
   |none=>
    rw[Option.none_or,QWe];intro s hs;obtain⟨o',ho',hs⟩:=QU8.1 hs;have:=h1 o' ho';rw[(Xz hs).1];simp;omega
  ·have:=h1 o ho;rw[hn x (by omega),Option.none_or];exact GY h2 o ho

section
variable {m:PG→V→Int}{nm:PG→V→V}{P:PL}

theorem WJ (h:∀g∈P.progs,∀v,m g v=0→nm g (nm g v)=nm g v){o:PO}(ho:UO P o){v:V}(hv:QN m P o v=0):Xj nm P o (Xj nm P o v)=Xj nm P o v:=by
 unfold QN Xj at *;by_cases hk:o.kind=10
 ·rw[QUQ hk]at hv;rw[QUQ hk,QUQ hk];obtain⟨t0,t1⟩:=ho.tgt hk;refine h _ ?_ _ hv;unfold QL;rw[QUo (by omega:o.target.toNat<P.progs.length)];exact QVe _
 ·rw[QUB hk,QUB hk];exact VD v

theorem B5 (h:∀g∈P.progs,∀v,m g v=0→nm g (nm g v)=nm g v){o:PO}(ho:UO P o){v:V}(hv:QT m P o v=0):Xu nm P o (Xu nm P o v)=Xu nm P o v:=by
 unfold QT Xu at *;by_cases h5:o.card=5
 ·have n4:¬o.card=4:=by omega
  rw[QUQ h5]at hv;rw[QUB n4,QUQ h5,QUB n4,QUQ h5];split at hv
  ·omega
  have hE:=JB.1 hv;have hk:=Fo ho.key h5 hE;have hp:(QZ o.key v.pairs).Perm v.pairs:=Q3 _;have hm:∀p∈QZ o.key v.pairs,p∈v.pairs:=fun p h=>hp.mem_iff.1 h
  have hF:(QZ o.key v.pairs).map (fun p=>(p.1.nsc,Xj nm P o p.2))=(QZ o.key v.pairs).map fun p=>(p.1,Xj nm P o p.2) :=
   QV8 fun p h=>by rw[hk p (hm p h)]
  have hs:Zc (fun x y:V×V=>kl o.key x.1 y.1) (QZ o.key v.pairs):=X6 (Y4 o.key) _;have hS:QZ o.key ((QZ o.key v.pairs).map fun p=>(p.1,Xj nm P o p.2))=(QZ o.key v.pairs).map fun p=>(p.1,Xj nm P o p.2):=by
   refine HK ?_;unfold Zc at hs ⊢;rw[List.pairwise_map];exact hs
  rw[hF];show V.mk 12 0 [] [] ((QZ o.key ((QZ o.key v.pairs).map fun p=>(p.1,Xj nm P o p.2))).map fun p=>(p.1.nsc,Xj nm P o p.2)) [] []=_;rw[hS,QV9];congr 1
  refine QV8 fun p h'=>?_
  simp only[Function.comp];rw[hk p (hm p h'),WJ h ho (hE.1 p (hm p h')).2]
 ·rw[QUB h5]at hv;by_cases h4:o.card=4
  ·rw[QUQ h4]at hv;rw[QUQ h4,QUQ h4];split at hv
   ·omega
   have hL:=JC.1 hv;show V.mk 11 0 [] ((v.list.map (Xj nm P o)).map (Xj nm P o)) [] [] []=_;rw[QV9];congr 1
   exact QV8 fun x hx=>WJ h ho (hL x hx)
  ·rw[QUB h4]at hv;rw[QUB h4,QUB h5,QUB h4,QUB h5];exact WJ h ho hv

theorem PW (h:∀g∈P.progs,∀v,m g v=0→nm g (nm g v)=nm g v){g:PG}(hd:g.ops.Pairwise fun a b=>a.num<b.num)(hu:∀o∈g.ops,UO P o){v:V}(hv:Wf m P g v=0):Yp nm P g (Yp nm P g v)=Yp nm P g v:=by
 obtain⟨⟨s1,_,_⟩,_,_⟩:=JT.1 hv;have hraw:X7 (X7 v.raws)=X7 v.raws:=HK (X6 BX _);have hsl:∀o∈g.ops,QW nm P (g.ops.flatMap (QW nm P v.slots)) o=QW nm P v.slots o:=by
  intro o ho;rw[show QW nm P (g.ops.flatMap (QW nm P v.slots)) o=(match (g.ops.flatMap (QW nm P v.slots)).find? (fun s=>s.1==o.num)with
   |none=>[]
   |some s=>if (decide (o.card<3) || !(Xu nm P o s.2).emp)=true then [(o.num,Xu nm P o s.2)]else [])from rfl,GY hd o ho]
  unfold QW;cases hf:v.slots.find? (fun s=>s.1==o.num)with
  |none=>rfl
  |some s=>
   have hs1:s.1=o.num:=by simpa using QWh hf
   obtain⟨o',e1,e2⟩:=s1 s (QWg hf);rw[hs1,XS hd ho]at e1;cases e1;have hi:=B5 h (hu o ho) e2;dsimp only;by_cases hc:(decide (o.card<3) || !(Xu nm P o s.2).emp)=true
   ·rw[QUQ hc];show(if (decide (o.card<3) || !(Xu nm P o (Xu nm P o s.2)).emp)=true then [(o.num,Xu nm P o (Xu nm P o s.2))]else [])=_;rw[hi,QUQ hc]
   ·rw[QUB hc];rfl
 have hall:∀ {l:List PO} {a b:PO→List (Int×V)},(∀o∈l,a o=b o)→l.flatMap a=l.flatMap b:=by
  intro l a b
  induction l with
  |nil=>intro _;rfl
  |cons x l ih=>
   intro h;rw[QVP,QVP,h x (by simp),ih fun o ho=>h o (by simp[ho])]
 show V.mk 10 0 [] [] [] (g.ops.flatMap (QW nm P (g.ops.flatMap (QW nm P v.slots)))) (X7 (X7 v.raws))=_;rw[hraw,hall hsl];rfl

end

theorem KI {P:PL}(hU:Yy P)(hr:Ki P):∀(n:Nat) (g:PG),g∈P.progs→∀v:V,Q9 P n g v=0→nrm P n g (nrm P n g v)=nrm P n g v
 |0,_,_,_,_=>rfl
 |n+1,g,hg,_,h=>PW (fun g hg v h=>KI hU hr n g hg v h) (hr g hg) (hU g hg) (JT.2 (ZU.1 h).2)

def JU (l:List (Int×V)):List (Int×V):=QC (fun x y=>decide (x.1<y.1)) l
theorem QPz:SW fun x y:Int×V=>decide (x.1<y.1) where
 irr x:=by simp
 tr x y z h k:=by simp only[QUs]at *;omega
 nt x y z h k:=by simp only[QWj]at *;omega

theorem PX:∀ {a b:List (Int×V)},(a.Pairwise fun x y=>x.1<y.1)→(b.Pairwise fun x y=>x.1<y.1)→(∀x,x∈a↔x∈b)→a=b
 | [],[],_,_,_=>rfl
 | [],y :: b,_,_,h=>by have:=(h y).2 (by simp);cases this
 |x :: a,[],_,_,h=>by have:=(h x).1 (by simp);cases this
 |x :: a,y :: b,ha,hb,h=>by
  obtain⟨a1,a2⟩:=QVT.1 ha;obtain⟨b1,b2⟩:=QVT.1 hb;have e:x=y:=by
   rcases QVI.1 ((h x).1 (by simp))with e|e
   ·exact e
   ·rcases QVI.1 ((h y).2 (by simp))with e'|e'
    ·exact e'.symm
    ·have:=b1 x e;have:=a1 y e';omega
  subst e;congr 1
  refine PX a2 b2 fun z=>?_
  have hz:=h z;simp only[QVI]at hz
  constructor
  ·intro hm;rcases hz.1 (.inr hm)with e|e
   ·subst e;have:=a1 z hm;omega
   ·exact e
  ·intro hm;rcases hz.2 (.inr hm)with e|e
   ·subst e;have:=b1 z hm;omega
   ·exact e

section
variable {m:PG→V→Int}(nm:PG→V→V)(P:PL)

def ZM (o:PO)(s:Int×V):List (Int×V):=if (decide (o.card<3) || !(Xu nm P o s.2).emp)=true then [(o.num,Xu nm P o s.2)]else []
def Jj (g:PG)(s:Int×V):List (Int×V):=match XH g s.1 with
 |none=>[]
 |some o=>ZM nm P o s

theorem PY {o:PO}{s x:Int×V}:x∈ZM nm P o s↔(decide (o.card<3) || !(Xu nm P o s.2).emp)=true∧x=(o.num,Xu nm P o s.2):=by
 unfold ZM;split
 ·rename_i h;simp[h]
 ·rename_i h;simp[h]

theorem PZ {sl:List (Int×V)}(hu:sl.Pairwise fun y x=>(y.1==x.1)=false){s:Int×V}(hs:s∈sl):sl.find? (fun t=>t.1==s.1)=some s:=by
 induction sl with
 |nil=>cases hs
 |cons x l ih=>
  obtain⟨h1,h2⟩:=QVT.1 hu;rw[QWa];rcases QVI.1 hs with rfl|hs
  ·simp
  ·rw[h1 s hs];exact ih h2 hs

theorem Wh {sl:List (Int×V)}{o:PO}:QW nm P sl o=match sl.find? (fun s=>s.1==o.num)with
  |none=>[]
  |some s=>ZM nm P o s:=rfl

theorem Sn {g:PG}(hd:g.ops.Pairwise fun a b=>a.num<b.num){sl:List (Int×V)}(hu:sl.Pairwise fun y x=>(y.1==x.1)=false):(JU sl).flatMap (Jj nm P g)=g.ops.flatMap (QW nm P sl):=by
 have hp:(JU sl).Perm sl:=Q3 _;have hsu:(JU sl).Pairwise fun y x=>(y.1==x.1)=false:=(hp.pairwise_iff fun {a b} h=>by rw[Bool.beq_comm];exact h).2 hu
 have hss:Zc (fun x y:Int×V=>decide (x.1<y.1)) (JU sl):=X6 QPz _;have hst:(JU sl).Pairwise fun x y=>x.1<y.1:=by
  unfold Zc at hss;rw[QWt]at *;intro i j hi hj hij;have h1:=hss i j hi hj hij;have h2:=hsu i j hi hj hij;simp only[QWj,QV4]at h1 h2;omega
 have kpw:∀s,(Jj nm P g s).Pairwise fun x y:Int×V=>x.1<y.1:=fun s=>by
  unfold Jj;split
  ·exact .nil
  ·unfold ZM;split
   ·exact List.pairwise_singleton _ _
   ·exact .nil
 have knum:∀ {s x:Int×V},x∈Jj nm P g s→x.1=s.1:=fun {s x} h=>by
  unfold Jj at h;cases ho:XH g s.1 with
  |none=>rw[ho]at h;cases h
  |some o=>
   rw[ho]at h;rw[((PY nm P).1 h).2];exact(Zd ho).2
 refine PX ?_ ?_ fun x=>?_
 ·rw[QWx];refine⟨fun s _=>kpw s,hst.imp fun {a b} hab x hx y hy=>?_⟩;rw[knum hx,knum hy];exact hab
 ·rw[QWx];refine⟨fun _ _=>Y5,hd.imp fun {a b} hab x hx y hy=>?_⟩;rw[(Xz hx).1,(Xz hy).1];exact hab
 ·rw[QU8,QU8]
  constructor
  ·rintro⟨s,hs,h⟩;unfold Jj at h;cases ho:XH g s.1 with
   |none=>rw[ho]at h;cases h
   |some o=>
    rw[ho]at h;obtain⟨hom,hon⟩:=Zd ho;refine⟨o,hom,?_⟩;rw[Wh,hon,PZ hu (hp.mem_iff.1 hs)];exact h
  ·rintro⟨o,ho,h⟩;rw[Wh]at h;cases hf:sl.find? (fun s=>s.1==o.num)with
   |none=>rw[hf]at h;cases h
   |some s=>
    rw[hf]at h;have hs:s.1=o.num:=by simpa using QWh hf
    refine⟨s,hp.mem_iff.2 (QWg hf),?_⟩;unfold Jj;rw[hs,XS hd ho];exact h

def TY (o:PO)(sl:List (Int×V)):List (Int×V):=sl.flatMap fun s=>if (s.1==o.num)=true then ZM nm P o s else []
theorem B6 {o:PO}{sl:List (Int×V)}(hu:sl.Pairwise fun y x=>(y.1==x.1)=false):TY nm P o sl=QW nm P sl o:=by
 rw[Wh];unfold TY
 induction sl with
 |nil=>rfl
 |cons x l ih=>
  obtain⟨h1,h2⟩:=QVT.1 hu;rw[QVP,QWa];cases hx:(x.1==o.num)
  ·rw[QUB (by simp),QUK];exact ih h2
  ·rw[QUQ rfl];have e:x.1=o.num:=by simpa using hx
   have:l.flatMap (fun s=>if (s.1==o.num)=true then ZM nm P o s else [])=[]:=by
    rw[List.flatMap_eq_nil_iff];intro s hs;have:=h1 s hs;rw[e]at this;rw[QUB (by rw[Bool.beq_comm];simp[this])]
   rw[this,QVp]

end
end Go.Proofs.YtdhlbgejhcejcaaGreatDoor.Va

namespace Go.Proofs.YtdhlbgejhcejcaaGreatDoor.Va
open Go Am Rc Bt Br Up

theorem GZ (a b:Int):IntKind.i64.wrap (IntKind.i64.wrap a+IntKind.i64.wrap b)=IntKind.i64.wrap (a+b):=by
 simp only[QF];omega
section
variable {M:Nat}

def C1I (v:V)(k:Nat)(st:St):Prop :=
 ∃f fr i,st=⟨f,[fr],[]⟩∧k=v.list.length-i∧i≤v.list.length∧f 1=.ptr 0 1 0∧f 3=.int .i64 (IntKind.i64.wrap ((1+v.raws.length+Xc (v.list.take i):Nat):Int))∧f 4=.int .i64 (i:Nat)∧fr 1=.cells (vc v)
def C2I (v:V)(k:Nat)(st:St):Prop :=
 ∃f fr i,st=⟨f,[fr],[]⟩∧k=v.pairs.length-i∧i≤v.pairs.length∧f 1=.ptr 0 1 0∧f 3=.int .i64 (IntKind.i64.wrap ((1+v.raws.length+Xc v.list+Xt (v.pairs.take i):Nat):Int))∧f 5=.int .i64 (i:Nat)∧fr 1=.cells (vc v)
def C3I (v:V)(k:Nat)(st:St):Prop :=
 ∃f fr i,st=⟨f,[fr],[]⟩∧k=v.slots.length-i∧i≤v.slots.length∧f 1=.ptr 0 1 0∧f 3=.int .i64 (IntKind.i64.wrap ((1+v.raws.length+Xc v.list+Xt v.pairs+Xk (v.slots.take i):Nat):Int))∧f 6=.int .i64 (i:Nat)∧fr 1=.cells (vc v)

theorem v21 (v:V)(hv:v.ok M):Qk Tryz.prog 21 [v.av] (.int .i64 (IntKind.i64.wrap (v.cnt:Int))):=by
 revert hv
 refine V.ind (P:=fun v=>v.ok M→Qk Tryz.prog 21 [v.av] (.int .i64 (IntKind.i64.wrap (v.cnt:Int)))) ?_ v;clear v;intro v hl hp hs hv;have n1:=hv.nl;have n2:=hv.np;have n3:=hv.ns;rw[Qr];refine k21.fn (by simp) ?_;simp only[QVh,eE,seval];refine Qd (C1I v) _ ⟨_,_,0,rfl,rfl,QUv _,(by rfl),(by simp only[QVu,Xc,QUS,Int.natCast_add,Int.natCast_one,Qa,seval]),(by rfl),(by rfl)⟩ ?_;rintro _ st ⟨f,fr,i,rfl,rfl,hil,h1,h3,h4,m1⟩;have m1':=m1;simp only[vc]at m1;simp only[QVh,h1,h4,m1,eE,seval];by_cases hlt:i<v.list.length
 ·obtain⟨x,hi⟩:∃x,v.list[i]? = some x:=⟨v.list[i],QUo hlt⟩;have hg:=WH hi;have e1:=Qm i _ hlt (by simp only[maxLen];omega);have c1:=hl x (QUA hi) (hv.list x (QUA hi));rw[Qr]at c1;simp only[Ql hlt,Qh,QVN,Qb,hg,h1,h3,h4,m1,eE,seval];refine aC c1 ?_;simp only[h4,e1,GZ,Qa,seval];exact⟨v.list.length-(i+1),by omega,_,_,i+1,rfl,rfl,by omega,(by exact h1),(by rw[UK hi];simp only[h3,←Int.natCast_add,QUk,Qa,seval]),(by rfl),(by exact m1')⟩
 have e:i=v.list.length:=by omega
 subst e;rw[QVX]at h3;simp only[Qx hlt,Qa,seval];refine Qd (C2I v) _ ⟨_,_,0,rfl,rfl,QUv _,(by exact h1),(by simp only[QVu,Xt,QUS,h3,Qa,seval]),(by rfl),(by exact m1')⟩ ?_;clear h1 h3 h4 m1 m1' hlt hil;rintro _ st ⟨f,fr,i,rfl,rfl,hil,h1,h3,h5,m1⟩;have m1':=m1;simp only[vc]at m1;simp only[QVh,h1,h5,m1,eE,seval];by_cases hlt:i<v.pairs.length
 ·obtain⟨x,hi⟩:∃x,v.pairs[i]? = some x:=⟨v.pairs[i],QUo hlt⟩;have hg:=ZT hi;have e1:=Qm i _ hlt (by simp only[maxLen];omega);have hm:=QUA hi;have c1:=(hp x hm).1 (hv.keys x hm);have c2:=(hp x hm).2 (hv.vals x hm);rw[Qr]at c1 c2;simp only[Ql hlt,Qh,QVN,Qb,hg,QUU,QVu,QU4,h1,h3,h5,m1,eE,seval];refine aC c1 ?_;simp only[Qh,QVN,Qb,hg,QUU,QUX,QU4,h1,h5,m1,eE,seval];refine aC c2 ?_;simp only[h5,e1,GZ,Qa,seval];exact⟨v.pairs.length-(i+1),by omega,_,_,i+1,rfl,rfl,by omega,(by exact h1),(by rw[Fl hi];simp only[h3,←Int.natCast_add,QUk,Qa,seval]),(by rfl),(by exact m1')⟩
 have e:i=v.pairs.length:=by omega
 subst e;rw[QVX]at h3;simp only[Qx hlt,Qa,seval];refine Qd (C3I v) _ ⟨_,_,0,rfl,rfl,QUv _,(by exact h1),(by simp only[QVu,Xk,QUS,h3,Qa,seval]),(by rfl),(by exact m1')⟩ ?_;clear h1 h3 h5 m1 m1' hlt hil;rintro _ st ⟨f,fr,i,rfl,rfl,hil,h1,h3,h6,m1⟩;have m1':=m1;simp only[vc]at m1;simp only[QVh,h1,h6,m1,eE,seval];by_cases hlt:i<v.slots.length
 ·obtain⟨x,hi⟩:∃x,v.slots[i]? = some x:=⟨v.slots[i],QUo hlt⟩;have hg:=Jv hi;have e1:=Qm i _ hlt (by simp only[maxLen];omega);have hm:=QUA hi;have c1:=hs x hm (hv.slots x hm);rw[Qr]at c1;simp only[Ql hlt,Qh,QVN,Qb,hg,QUU,QUX,QU4,h1,h3,h6,m1,eE,seval];refine aC c1 ?_;simp only[h6,e1,GZ,Qa,seval];exact⟨v.slots.length-(i+1),by omega,_,_,i+1,rfl,rfl,by omega,(by exact h1),(by rw[Fm hi];simp only[h3,←Int.natCast_add,QUk,Qa,seval]),(by rfl),(by exact m1')⟩
 have e:i=v.slots.length:=by omega
 subst e;rw[QVX]at h3;simp only[Qx hlt,h3,Xo,Qa,seval]

end

def JD (v:V):List V:=v.list++v.pairs.flatMap (fun p=>[p.1,p.2])++v.slots.map (·.2)

theorem HO (a b:List V):Xc (a++b)=Xc a+Xc b:=by
 induction a with
 |nil=>simp[Xc]
 |cons x a ih=>simp only[QUJ,Xc,ih];omega
theorem QaB (v:V):v.cnt=1+v.raws.length+Xc (JD v):=by
 have h1:∀l:List (V×V),Xc (l.flatMap fun p=>[p.1,p.2])=Xt l:=by
  intro l
  induction l with
  |nil=>rfl
  |cons x l ih=>
   obtain⟨a,b⟩:=x;simp only[QVP,HO,ih,Xt,Xc,QUS]
 have h2:∀l:List (Int×V),Xc (l.map (·.2))=Xk l:=by
  intro l
  induction l with
  |nil=>rfl
  |cons x l ih=>
   obtain⟨a,b⟩:=x;simp only[QUT,Xc,ih,Xk]
 rw[Xo,JD,HO,HO,h1,h2];omega

theorem P0 {xs:List AV}(h:xs.all (fun e=>e.cells.length==7)=true)(hf:QP xs=[]):xs=[]:=by
 cases xs with
 |nil=>rfl
 |cons x xs=>
  have hl:x.cells.length=7:=by simpa using QUz.1 h x (by simp)
  have:x.cells=[]:=(QWy.1 hf).1;rw[this]at hl;exact absurd hl.symm (by decide)

theorem QPA (xs:List AV)(fr:Nat→Ob)(m:Qo)(h:xs.all (fun e=>e.cells.length==7)=true)(hn:xs.length≤1099511627776)(hr:Qu (fr 1000)=true) :
  Qg Tryz.prog 184 [.list xs] (fr :: m) (fun x m1=>x=.vec 0 1000 (Xn (fr 1000)) 0 xs.length false∧m1=QI fr 1000 (.vec (Xn (fr 1000)) 7 xs) :: m):=by
 have hng:QD (fr :: m) 0 1000=Xn (fr 1000):=Jn;refine RH.go (by simp) ?_;simp only[Co,Bl,Bm,Qa,seval];refine Z3 (ys:=xs) (by simp only[Qa,seval]) ?_ ?_
 ·simp only[Bo,Qa,seval];refine ZC rfl ?_;simp only[Qa,seval];refine QO (site:=5) (g:=1) (xs:=[]) (ys:=xs) rfl rfl rfl rfl rfl h (by simp[maxLen];omega) (by simp;omega) ?_;simp only[Qa,seval];refine XQ (l:=0) (site:=5) (g:=2) (o:=0) (n:=xs.length) (q:=false) (sz:=7) (xs:=xs) (by simp only[QU3,Qa,seval]) (by simp only[Qa,seval]) (by simp) (by decide) hr ?_;simp only[hng,Dy,eE,seval]
  try simp[AV.still,AV.un,Zm,XC]
 ·intro he;have hx:xs=[]:=by
   rcases he with he|he
   ·exact he
   ·exact P0 h he
  subst hx;simp only[Bn,Qa,seval];refine Zp (by simp only[Qa,seval]) rfl ?_;simp only[Qa,seval];refine XQ (l:=0) (site:=2) (g:=1) (o:=0) (n:=0) (q:=false) (sz:=7) (xs:=[]) (by simp only[Qa,seval]) (by simp only[Qa,seval]) (by simp) (by decide) hr ?_;simp only[hng,Dy,eE,seval]
  try simp[AV.still,AV.un,Zm,XC]

theorem QV {P:Program}{K:St→Prop}{Qe:List Am.Item}{f:Fr}{m:Qo}{ds:List DF}{d sz len:Nat}{z y l:List AV}{ps:List (Nat×Nat×RA)}(hy:fill f ps (XM z sz len)=some y)(h1:AV.rfL y=true)(h2:y.all AV.leaf=true)(hc:XW sz len (y.map nn0)=l)(h:QE P Qe ⟨QI f d (.list l),m,ds⟩ K) :
  QE P (⟨some d,.bsl sz len z ps,none⟩ :: Qe) ⟨f,m,ds⟩ K:=by
 subst hc;exact⟨y,hy,h1,h2,h⟩

def K5 (v:V)(i:Nat):List V:=v.list++(v.pairs.take i).flatMap fun p=>[p.1,p.2]
def WK (v:V)(i:Nat):List V:=K5 v v.pairs.length++(v.slots.take i).map (·.2)

theorem Hc (v:V)(i:Nat)(h:i≤v.pairs.length):(K5 v i).length=v.list.length+2*i:=by
 have:∀l:List (V×V),(l.flatMap fun p=>[p.1,p.2]).length=2*l.length:=by
  intro l
  induction l with
  |nil=>rfl
  |cons x l ih=>simp only[QVP,QUZ,QUC,QVi,ih];omega
 rw[K5,QUZ,this,QVj];omega
theorem DP (v:V)(i:Nat)(h:i≤v.slots.length):(WK v i).length=v.list.length+2*v.pairs.length+i:=by
 rw[WK,QUZ,Hc v _ (QUm _),QVh,QVj];omega
theorem Sp {v:V}{i:Nat}{x:V×V}(h:v.pairs[i]? = some x):(K5 v (i+1)).map V.av=(K5 v i).map V.av++[x.1.av,x.2.av]:=by
 unfold K5;rw[QV6,h];simp
theorem Sq {v:V}{i:Nat}{x:Int×V}(h:v.slots[i]? = some x):(WK v (i+1)).map V.av=(WK v i).map V.av++[x.2.av]:=by
 unfold WK;rw[QV6,h];simp
theorem VE (v:V):WK v v.slots.length=JD v:=by
 unfold WK K5 JD;rw[QVX,QVX]
theorem B7 (l:List V):(l.map V.av).all (fun e=>e.cells.length==7)=true:=by
 rw[List.all_map,QUz];intro x _;simp[Qr,AV.cells]

def I1 (v:V)(k:Nat)(st:St):Prop :=
 ∃f fr i g,st=⟨f,[fr],[]⟩∧k=v.pairs.length-i∧i≤v.pairs.length∧f 1=.ptr 0 1 0∧f 3=.vec 0 1000 g 0 (K5 v i).length false∧f 12=.list (v.pairs.map V.pav)∧f 13=.int .i64 (v.pairs.length:Nat)∧f 14=.int .i64 (i:Nat)∧fr 1=.cells (vc v)∧fr 1000=.vec g 7 ((K5 v i).map V.av)∧fr 7=.none∧∀s∈[5],(fr s).isRow=false
def I2 (v:V)(k:Nat)(st:St):Prop :=
 ∃f fr i g,st=⟨f,[fr],[]⟩∧k=v.slots.length-i∧i≤v.slots.length∧f 3=.vec 0 1000 g 0 (WK v i).length false∧f 27=.list (v.slots.map V.sav)∧f 28=.int .i64 (v.slots.length:Nat)∧f 29=.int .i64 (i:Nat)∧fr 1000=.vec g 7 ((WK v i).map V.av)∧∀s∈[7],(fr s).isRow=false

theorem v94 (v:V)(h:v.list.length+2*v.pairs.length+v.slots.length≤1099511627776):Qk Tryz.prog 94 [v.av] (.list ((JD v).map V.av)):=by
 have cl:=fun fr hr=>QPA (v.list.map V.av) fr [] (B7 _) (by rw[QVh];omega) hr
 rw[Qr];refine k94.fn (by simp) ?_;simp only[eE,seval];refine Qj (cl _ rfl) (by simp only[QUT,QVn,Qa,seval]) ?_;simp only[QVh,eE,seval];have e0:(K5 v 0).map V.av=v.list.map V.av:=by unfold K5;simp
 have l0:=Hc v 0 (QUv _);refine Qd (I1 v) _ ⟨_,_,0,_,rfl,rfl,QUv _,(by rfl),(by rw[l0];exact(by rfl)),(by rfl),(by rfl),(by rfl),(by rfl),(by rw[e0];exact(by rfl)),rfl,by simp<;>rfl⟩ ?_;rintro _ st ⟨f0,fr0,i,g,rfl,rfl,hil,h10,h30,h120,h130,h140,m10,mR0,n70,r5⟩;refine QK (a:=_) [5] r5 ?_;intro f fr hf hm hn;have h1:f 1=.ptr 0 1 0:=by rw[hf,h10]<;>rfl
 have h3:f 3=.vec 0 1000 g 0 (K5 v i).length false:=by rw[hf,h30]<;>rfl
 have h12:f 12=.list (v.pairs.map V.pav):=by rw[hf,h120]<;>rfl
 have h13:f 13=.int .i64 (v.pairs.length:Nat):=by rw[hf,h130]<;>rfl
 have h14:f 14=.int .i64 (i:Nat):=by rw[hf,h140]<;>rfl
 have m1:fr 1=.cells (vc v):=by rw[hm 1 (by decide),m10]<;>rfl
 have mR:fr 1000=.vec g 7 ((K5 v i).map V.av):=by rw[hm 1000 (by decide),mR0]<;>rfl
 have n7:fr 7=.none:=by rw[hm 7 (by decide),n70]<;>rfl
 have n5:=hn 5 (by decide);clear hf hm hn h10 h30 h120 h130 h140 m10 mR0 n70 r5 e0 l0;have m1':=m1;simp only[vc]at m1;simp only[h13,h14,Qa,seval];by_cases hlt:i<v.pairs.length
 ·obtain⟨x,hi⟩:∃x,v.pairs[i]? = some x:=⟨v.pairs[i],QUo hlt⟩;have hg:=ZT hi;have e1:=Qm i _ hlt (by simp only[maxLen];omega);have le:=Hc v i hil;have ln:=Hc v (i+1) hlt;simp only[Ql hlt,Qh,QVN,Qb,hg,n5,h3,h12,h14,eE,seval];refine QV (l:=[x.1.av,x.2.av]) rfl rfl rfl (by rw[Qr,Qr];rfl) ?_;refine QO (site:=1000) (g:=g) (n:=(K5 v i).length) (xs:=(K5 v i).map V.av) (ys:=[x.1.av,x.2.av]) (by rfl) (by exact mR) rfl (by rw[QVh]) rfl (B7 [x.1,x.2]) (by simp only[QUC,QVi,maxLen];omega) (by simp only[QUC,QVi];omega) ?_;simp only[h14,e1,Qa,seval];exact⟨v.pairs.length-(i+1),by omega,_,_,i+1,g+1,rfl,rfl,by omega,(by exact h1),(by rw[ln];simp only[le,Qa,seval];rfl),(by exact h12),(by exact h13),(by rfl),(by exact m1'),(by rw[Sp hi];exact(by rfl)),(by exact n7),by simp<;>rfl⟩
 have e:i=v.pairs.length:=by omega
 subst e;simp only[Qx hlt,h1,m1,QVh,eE,seval];have e0:WK v 0=K5 v v.pairs.length:=by unfold WK;simp
 refine Qd (I2 v) _ ⟨_,_,0,g,rfl,rfl,QUv _,(by rw[e0];exact(by exact h3)),(by rfl),(by rfl),(by rfl),(by rw[e0];exact(by exact mR)),by simp only[QVI,QWv,or_false,forall_eq,n7]<;>rfl⟩ ?_;clear h1 h3 h12 h13 h14 m1 m1' mR n5 n7 hil hlt e0 g;rintro _ st ⟨f0,fr0,i,g,rfl,rfl,hil,h30,h270,h280,h290,mR0,r7⟩;refine QK (a:=_) [7] r7 ?_;intro f fr hf hm hn;have h3:f 3=.vec 0 1000 g 0 (WK v i).length false:=by rw[hf,h30]<;>rfl
 have h27:f 27=.list (v.slots.map V.sav):=by rw[hf,h270]<;>rfl
 have h28:f 28=.int .i64 (v.slots.length:Nat):=by rw[hf,h280]<;>rfl
 have h29:f 29=.int .i64 (i:Nat):=by rw[hf,h290]<;>rfl
 have mR:fr 1000=.vec g 7 ((WK v i).map V.av):=by rw[hm 1000 (by decide),mR0]<;>rfl
 have n7:=hn 7 (by decide);clear hf hm hn h30 h270 h280 h290 mR0 r7;simp only[h28,h29,Qa,seval];by_cases hlt:i<v.slots.length
 ·obtain⟨x,hi⟩:∃x,v.slots[i]? = some x:=⟨v.slots[i],QUo hlt⟩;have hg:=Jv hi;have e1:=Qm i _ hlt (by simp only[maxLen];omega);have le:=DP v i hil;have ln:=DP v (i+1) hlt;simp only[Ql hlt,Qh,QVN,Qb,hg,n7,h3,h27,h29,eE,seval];refine QV (l:=[x.2.av]) rfl rfl rfl (by rw[Qr];rfl) ?_;refine QO (site:=1000) (g:=g) (n:=(WK v i).length) (xs:=(WK v i).map V.av) (ys:=[x.2.av]) (by rfl) (by exact mR) rfl (by rw[QVh]) rfl (B7 [x.2]) (by simp only[QUC,QVi,maxLen];omega) (by simp only[QUC,QVi];omega) ?_;simp only[h29,e1,Qa,seval];exact⟨v.slots.length-(i+1),by omega,_,_,i+1,g+1,rfl,rfl,by omega,(by rw[ln];simp only[le,Qa,seval];rfl),(by exact h27),(by exact h28),(by rfl),(by rw[Sq hi];exact(by rfl)),by simp<;>rfl⟩
 have e:i=v.slots.length:=by omega
 subst e;rw[VE]at h3 mR;simp only[Qx hlt,h3,eE,seval];simp[AV.un,Zm,XC,mR];rw[QUV (by rw[QVh];exact QUm _)]

def VcI (v:V)(k:Nat)(st:St):Prop :=
 ∃f fr i,st=⟨f,[fr],[]⟩∧k=(JD v).length-i∧i≤(JD v).length∧f 3=.int .i64 (IntKind.i64.wrap ((1+v.raws.length+Xc ((JD v).take i):Nat):Int))∧f 11=.list ((JD v).map V.av)∧f 12=.int .i64 ((JD v).length:Nat)∧f 13=.int .i64 (i:Nat)∧∀s∈[5],(fr s).isRow=false

theorem QaC {v x:V}(h:x∈JD v):x∈v.list∨(∃p∈v.pairs,x=p.1∨x=p.2)∨∃s∈v.slots,x=s.2:=by
 unfold JD at h;simp only[QVE,QU8,QVI,QWv,or_false,QVG]at h;rcases h with(h|⟨p,hp,h⟩)|⟨s,hs,rfl⟩
 ·exact .inl h
 ·exact .inr (.inl ⟨p,hp,h⟩)
 ·exact .inr (.inr ⟨s,hs,rfl⟩)

theorem v59 (v:V)(hv:Thin v):Qk Tryz.prog 59 [v.av] (.int .i64 (IntKind.i64.wrap (v.cnt:Int))):=by
 revert hv
 refine V.ind (P:=fun v=>Thin v→Qk Tryz.prog 59 [v.av] (.int .i64 (IntKind.i64.wrap (v.cnt:Int)))) ?_ v;clear v;intro v hl hp hs hv;obtain⟨n,t1,t2,t3,t4⟩:=hv;have hall:∀x∈JD v,Qk Tryz.prog 59 [x.av] (.int .i64 (IntKind.i64.wrap (x.cnt:Int))):=by
  intro x hx;rcases QaC hx with h|⟨p,h,rfl|rfl⟩|⟨s,h,rfl⟩
  ·exact hl x h (t1 x h)
  ·exact(hp p h).1 (t2 p h)
  ·exact(hp p h).2 (t3 p h)
  ·exact hs s h (t4 s h)
 have hin:(JD v).length≤maxLen:=by
  rw[←VE,DP v _ (QUm _)];simp only[maxLen];omega
 have c0:=v94 v n;rw[Qr]at c0;rw[Qr];refine k59.fn (by simp) ?_;simp only[QVh,eE,seval];refine aC c0 ?_;simp only[QVh,Qa,seval];refine Qd (VcI v) _ ⟨_,_,0,rfl,rfl,QUv _,(by simp only[QVu,Xc,QUS,Int.natCast_add,Int.natCast_one,Qa,seval]),(by rfl),(by rfl),(by rfl),by simp<;>rfl⟩ ?_;rintro _ st ⟨f0,fr0,i,rfl,rfl,hil,h30,h110,h120,h130,r5⟩;refine QK (a:=_) [5] r5 ?_;intro f fr hf hm hn;have h3:f 3=.int .i64 (IntKind.i64.wrap ((1+v.raws.length+Xc ((JD v).take i):Nat):Int)):=by rw[hf,h30]<;>rfl
 have h11:f 11=.list ((JD v).map V.av):=by rw[hf,h110]<;>rfl
 have h12:f 12=.int .i64 ((JD v).length:Nat):=by rw[hf,h120]<;>rfl
 have h13:f 13=.int .i64 (i:Nat):=by rw[hf,h130]<;>rfl
 have n5:=hn 5 (by decide);clear hf hm hn h30 h110 h120 h130 r5;simp only[h12,h13,Qa,seval];by_cases hlt:i<(JD v).length
 ·obtain⟨x,hi⟩:∃x,(JD v)[i]? = some x:=⟨(JD v)[i],QUo hlt⟩;have hg:=WH hi;have e1:=Qm i _ hlt hin;have c1:=hall x (QUA hi);rw[Qr]at c1;simp only[Ql hlt,Qh,QVN,Qb,hg,n5,h3,h11,h13,eE,seval];refine aC c1 ?_;simp only[h13,e1,GZ,Qa,seval];exact⟨(JD v).length-(i+1),by omega,_,_,i+1,rfl,rfl,by omega,(by rw[UK hi];simp only[h3,←Int.natCast_add,QUk,Qa,seval]),(by exact h11),(by exact h12),(by rfl),by simp<;>rfl⟩
 have e:i=(JD v).length:=by omega
 subst e;rw[QVX,←QaB]at h3;simp only[Qx hlt,h3,Qa,seval]

end Go.Proofs.YtdhlbgejhcejcaaGreatDoor.Va

set_option linter.unusedVariables false
namespace Go.Proofs.YtdhlbgejhcejcaaGreatDoor.Tg
open Go Am

def TZ (z sr ro sm is st:Nat):List Am.Item:=[
  ⟨(some 10),.val (.mov (.c (.int .i64 0))),none⟩]
def T0 (z sr ro sm is st:Nat):List Am.Item:=[
  ⟨(some 11),.val (.mov (.t 10)),none⟩,
  ⟨(some 12),.val (.mov (.t 3)),none⟩,
  ⟨(some 13),.val (.bin .num .lss (.t 11) (.t 12)),none⟩]
def T1 (z sr ro sm is st:Nat):List Am.Item:=[
  ⟨(some 16),.val (.mov (.t 0)),none⟩,
  ⟨(some 17),.val (.mov (.t 1)),none⟩,
  ⟨(some 18),.val (.mov (.t 10)),none⟩,
  ⟨(some 19),.val (.bin .num .add (.t 17) (.t 18)),none⟩,
  ⟨(some 20),.val (.mov (.t 0)),none⟩,
  ⟨(some 21),.val (.mov (.t 2)),none⟩,
  ⟨(some 22),.val (.mov (.t 10)),none⟩,
  ⟨(some 23),.val (.bin .num .add (.t 21) (.t 22)),none⟩,
  ⟨(some 24),.val (.mov (.t 0)),none⟩,
  ⟨(some 25),.val (.mov (.t 2)),none⟩,
  ⟨(some 26),.val (.mov (.t 10)),none⟩,
  ⟨(some 27),.val (.bin .num .add (.t 25) (.t 26)),none⟩,
  ⟨(some 28),.val (.iaddr z none (.t 24) (.t 27)),none⟩,
  ⟨(some 29),.val (.loadr (some z) (.t 28)),none⟩,
  ⟨(some 30),.val (.mov (.t 0)),none⟩,
  ⟨(some 31),.val (.mov (.t 1)),none⟩,
  ⟨(some 32),.val (.mov (.t 10)),none⟩,
  ⟨(some 33),.val (.bin .num .add (.t 31) (.t 32)),none⟩,
  ⟨(some 34),.val (.iaddr z none (.t 30) (.t 33)),none⟩,
  ⟨(some 35),.val (.loadr (some z) (.t 34)),none⟩,
  ⟨(some 36),.val (.iaddr z none (.t 16) (.t 19)),none⟩,
  ⟨none,.store z (.t 36) (.t 29),none⟩,
  ⟨(some 37),.val (.iaddr z none (.t 20) (.t 23)),none⟩,
  ⟨none,.store z (.t 37) (.t 35),none⟩]
def T2 (z sr ro sm is st:Nat):List Am.Item:=[
  ⟨(some 14),.val (.mov (.t 10)),none⟩,
  ⟨(some 15),.val (.bin .num .add (.t 14) (.c (.int .i64 1))),none⟩,
  ⟨(some 10),.val (.mov (.t 15)),none⟩]
def T3 (z sr ro sm is st:Nat):RC:=.seq (.seq (.reg (T0 z sr ro sm is st)) (.cond (.t 13) (.skip) (.exit 0))) (.seq (.block 1 (.draw (T1 z sr ro sm is st))) (.reg (T2 z sr ro sm is st)))
def rsr (z sr ro sm is st:Nat):RC:=.seq (.reg (TZ z sr ro sm is st)) (.block 0 (.loop (T3 z sr ro sm is st)))
def osr:List RR:=[]

def T4 (z sr ro sm is st:Nat):List Am.Item:=[
  ⟨(some 12),.val (.mov (.t 2)),none⟩,
  ⟨(some 13),.val (.mov (.t 1)),none⟩,
  ⟨(some 14),.val (.bin .num .sub (.t 12) (.t 13)),none⟩,
  ⟨(some 10),.val (.mov (.t 14)),none⟩]
def T5 (z sr ro sm is st:Nat):List Am.Item:=[
  ⟨(some 15),.val (.mov (.t 3)),none⟩,
  ⟨(some 16),.val (.mov (.t 2)),none⟩,
  ⟨(some 17),.val (.bin .num .sub (.t 15) (.t 16)),none⟩,
  ⟨(some 11),.val (.mov (.t 17)),none⟩]
def T6 (z sr ro sm is st:Nat):List Am.Item:=[
  ⟨(some 18),.val (.mov (.t 10)),none⟩,
  ⟨(some 19),.val (.mov (.t 11)),none⟩,
  ⟨(some 20),.val (.bin .num .neq (.t 18) (.t 19)),none⟩]
def T7 (z sr ro sm is st:Nat):List Am.Item:=[
  ⟨(some 21),.val (.mov (.t 10)),none⟩,
  ⟨(some 22),.val (.mov (.t 11)),none⟩,
  ⟨(some 23),.val (.bin .num .gtr (.t 21) (.t 22)),none⟩]
def T8 (z sr ro sm is st:Nat):List Am.Item:=[
  ⟨(some 24),.val (.mov (.t 0)),none⟩,
  ⟨(some 25),.val (.mov (.t 2)),none⟩,
  ⟨(some 26),.val (.mov (.t 10)),none⟩,
  ⟨(some 27),.val (.bin .num .sub (.t 25) (.t 26)),none⟩,
  ⟨(some 28),.val (.mov (.t 2)),none⟩,
  ⟨(some 29),.val (.mov (.t 11)),none⟩,
  ⟨(some 30),.val (.mov (.t 4)),none⟩,
  ⟨(some 31),.callF (.f sr) [(.t 24),(.t 27),(.t 28),(.t 29),(.t 30)],none⟩]
def T9 (z sr ro sm is st:Nat):List Am.Item:=[
  ⟨(some 32),.val (.mov (.t 10)),none⟩,
  ⟨(some 33),.val (.mov (.t 11)),none⟩,
  ⟨(some 34),.val (.bin .num .sub (.t 32) (.t 33)),none⟩,
  ⟨(some 10),.val (.mov (.t 34)),none⟩]
def Aa (z sr ro sm is st:Nat):List Am.Item:=[
  ⟨(some 35),.val (.mov (.t 0)),none⟩,
  ⟨(some 36),.val (.mov (.t 2)),none⟩,
  ⟨(some 37),.val (.mov (.t 10)),none⟩,
  ⟨(some 38),.val (.bin .num .sub (.t 36) (.t 37)),none⟩,
  ⟨(some 39),.val (.mov (.t 2)),none⟩,
  ⟨(some 40),.val (.mov (.t 11)),none⟩,
  ⟨(some 41),.val (.bin .num .add (.t 39) (.t 40)),none⟩,
  ⟨(some 42),.val (.mov (.t 10)),none⟩,
  ⟨(some 43),.val (.bin .num .sub (.t 41) (.t 42)),none⟩,
  ⟨(some 44),.val (.mov (.t 10)),none⟩,
  ⟨(some 45),.val (.mov (.t 4)),none⟩,
  ⟨(some 46),.callF (.f sr) [(.t 35),(.t 38),(.t 43),(.t 44),(.t 45)],none⟩]
def Ab (z sr ro sm is st:Nat):List Am.Item:=[
  ⟨(some 47),.val (.mov (.t 11)),none⟩,
  ⟨(some 48),.val (.mov (.t 10)),none⟩,
  ⟨(some 49),.val (.bin .num .sub (.t 47) (.t 48)),none⟩,
  ⟨(some 11),.val (.mov (.t 49)),none⟩]
def Ac (z sr ro sm is st:Nat):RC:=.seq (.seq (.reg (T6 z sr ro sm is st)) (.cond (.t 20) (.skip) (.exit 0))) (.block 1 (.seq (.reg (T7 z sr ro sm is st)) (.cond (.t 23) (.seq (.reg (T8 z sr ro sm is st)) (.reg (T9 z sr ro sm is st))) (.seq (.reg (Aa z sr ro sm is st)) (.reg (Ab z sr ro sm is st))))))
def Ad (z sr ro sm is st:Nat):List Am.Item:=[
  ⟨(some 50),.val (.mov (.t 0)),none⟩,
  ⟨(some 51),.val (.mov (.t 2)),none⟩,
  ⟨(some 52),.val (.mov (.t 10)),none⟩,
  ⟨(some 53),.val (.bin .num .sub (.t 51) (.t 52)),none⟩,
  ⟨(some 54),.val (.mov (.t 2)),none⟩,
  ⟨(some 55),.val (.mov (.t 10)),none⟩,
  ⟨(some 56),.val (.mov (.t 4)),none⟩,
  ⟨(some 57),.callF (.f sr) [(.t 50),(.t 53),(.t 54),(.t 55),(.t 56)],none⟩]
def rro (z sr ro sm is st:Nat):RC:=.seq (.reg (T4 z sr ro sm is st)) (.seq (.reg (T5 z sr ro sm is st)) (.seq (.block 0 (.loop (Ac z sr ro sm is st))) (.reg (Ad z sr ro sm is st))))
def oro:List RR:=[]

def FH (z sr ro sm is st:Nat):List Am.Item:=[
  ⟨(some 25),.val (.mov (.t 2)),none⟩,
  ⟨(some 26),.val (.mov (.t 1)),none⟩,
  ⟨(some 27),.val (.bin .num .sub (.t 25) (.t 26)),none⟩,
  ⟨(some 28),.val (.bin .num .eql (.t 27) (.c (.int .i64 1))),none⟩]
def CR (z sr ro sm is st:Nat):List Am.Item:=[
  ⟨(some 29),.val (.mov (.t 2)),none⟩,
  ⟨(some 10),.val (.mov (.t 29)),none⟩]
def CS (z sr ro sm is st:Nat):List Am.Item:=[
  ⟨(some 30),.val (.mov (.t 3)),none⟩,
  ⟨(some 11),.val (.mov (.t 30)),none⟩]
def Ae (z sr ro sm is st:Nat):List Am.Item:=[
  ⟨(some 31),.val (.mov (.t 10)),none⟩,
  ⟨(some 32),.val (.mov (.t 11)),none⟩,
  ⟨(some 33),.val (.bin .num .lss (.t 31) (.t 32)),none⟩]
def Af (z sr ro sm is st:Nat):List Am.Item:=[
  ⟨(some 34),.val (.mov (.t 10)),none⟩,
  ⟨(some 35),.val (.mov (.t 11)),none⟩,
  ⟨(some 36),.val (.bin .num .add (.t 34) (.t 35)),none⟩,
  ⟨(some 37),.val (.cvi .u64 (.t 36)),none⟩,
  ⟨(some 38),.val (.bin .num .shr (.t 37) (.c (.int .u64 1))),none⟩,
  ⟨(some 39),.val (.cvi .i64 (.t 38)),none⟩,
  ⟨(some 12),.val (.mov (.t 39)),none⟩]
def Ag (z sr ro sm is st:Nat):List Am.Item:=[
  ⟨(some 40),.val (.mov (.t 4)),none⟩,
  ⟨(some 41),.val (.mov (.t 0)),none⟩,
  ⟨(some 42),.val (.mov (.t 12)),none⟩,
  ⟨(some 43),.val (.iaddr z none (.t 41) (.t 42)),none⟩,
  ⟨(some 44),.val (.loadr (some z) (.t 43)),none⟩,
  ⟨(some 45),.val (.mov (.t 0)),none⟩,
  ⟨(some 46),.val (.mov (.t 1)),none⟩,
  ⟨(some 47),.val (.iaddr z none (.t 45) (.t 46)),none⟩,
  ⟨(some 48),.val (.loadr (some z) (.t 47)),none⟩,
  ⟨(some 49),.call (.t 40) [(.t 44),(.t 48)],none⟩,
  ⟨(some 50),.val (.bin .num .lss (.t 49) (.c (.int .i64 0))),none⟩]
def Ah (z sr ro sm is st:Nat):List Am.Item:=[
  ⟨(some 51),.val (.mov (.t 12)),none⟩,
  ⟨(some 52),.val (.bin .num .add (.t 51) (.c (.int .i64 1))),none⟩,
  ⟨(some 10),.val (.mov (.t 52)),none⟩]
def Ai (z sr ro sm is st:Nat):List Am.Item:=[
  ⟨(some 53),.val (.mov (.t 12)),none⟩,
  ⟨(some 11),.val (.mov (.t 53)),none⟩]
def Aj (z sr ro sm is st:Nat):RC:=.seq (.seq (.reg (Ae z sr ro sm is st)) (.cond (.t 33) (.skip) (.exit 0))) (.block 1 (.seq (.reg (Af z sr ro sm is st)) (.seq (.draw (Ag z sr ro sm is st)) (.cond (.t 50) (.reg (Ah z sr ro sm is st)) (.reg (Ai z sr ro sm is st))))))
def CU (z sr ro sm is st:Nat):List Am.Item:=[
  ⟨(some 54),.val (.mov (.t 1)),none⟩,
  ⟨(some 13),.val (.mov (.t 54)),none⟩]
def Ak (z sr ro sm is st:Nat):List Am.Item:=[
  ⟨(some 55),.val (.mov (.t 13)),none⟩,
  ⟨(some 56),.val (.mov (.t 10)),none⟩,
  ⟨(some 57),.val (.bin .num .sub (.t 56) (.c (.int .i64 1))),none⟩,
  ⟨(some 58),.val (.bin .num .lss (.t 55) (.t 57)),none⟩]
def P1 (z sr ro sm is st:Nat):List Am.Item:=[
  ⟨(some 61),.val (.mov (.t 0)),none⟩,
  ⟨(some 62),.val (.mov (.t 13)),none⟩,
  ⟨(some 63),.val (.mov (.t 0)),none⟩,
  ⟨(some 64),.val (.mov (.t 13)),none⟩,
  ⟨(some 65),.val (.bin .num .add (.t 64) (.c (.int .i64 1))),none⟩,
  ⟨(some 66),.val (.mov (.t 0)),none⟩,
  ⟨(some 67),.val (.mov (.t 13)),none⟩,
  ⟨(some 68),.val (.bin .num .add (.t 67) (.c (.int .i64 1))),none⟩,
  ⟨(some 69),.val (.iaddr z none (.t 66) (.t 68)),none⟩,
  ⟨(some 70),.val (.loadr (some z) (.t 69)),none⟩,
  ⟨(some 71),.val (.mov (.t 0)),none⟩,
  ⟨(some 72),.val (.mov (.t 13)),none⟩,
  ⟨(some 73),.val (.iaddr z none (.t 71) (.t 72)),none⟩,
  ⟨(some 74),.val (.loadr (some z) (.t 73)),none⟩,
  ⟨(some 75),.val (.iaddr z none (.t 61) (.t 62)),none⟩,
  ⟨none,.store z (.t 75) (.t 70),none⟩,
  ⟨(some 76),.val (.iaddr z none (.t 63) (.t 65)),none⟩,
  ⟨none,.store z (.t 76) (.t 74),none⟩]
def P2 (z sr ro sm is st:Nat):List Am.Item:=[
  ⟨(some 59),.val (.mov (.t 13)),none⟩,
  ⟨(some 60),.val (.bin .num .add (.t 59) (.c (.int .i64 1))),none⟩,
  ⟨(some 13),.val (.mov (.t 60)),none⟩]
def Al (z sr ro sm is st:Nat):RC:=.seq (.seq (.reg (Ak z sr ro sm is st)) (.cond (.t 58) (.skip) (.exit 2))) (.seq (.block 3 (.draw (P1 z sr ro sm is st))) (.reg (P2 z sr ro sm is st)))
def G0 (z sr ro sm is st:Nat):List Am.Item:=[
  ⟨(some 77),.val (.mov (.t 3)),none⟩,
  ⟨(some 78),.val (.mov (.t 2)),none⟩,
  ⟨(some 79),.val (.bin .num .sub (.t 77) (.t 78)),none⟩,
  ⟨(some 80),.val (.bin .num .eql (.t 79) (.c (.int .i64 1))),none⟩]
def B8 (z sr ro sm is st:Nat):List Am.Item:=[
  ⟨(some 81),.val (.mov (.t 1)),none⟩,
  ⟨(some 14),.val (.mov (.t 81)),none⟩]
def B9 (z sr ro sm is st:Nat):List Am.Item:=[
  ⟨(some 82),.val (.mov (.t 2)),none⟩,
  ⟨(some 15),.val (.mov (.t 82)),none⟩]
def Na (z sr ro sm is st:Nat):List Am.Item:=[
  ⟨(some 83),.val (.mov (.t 14)),none⟩,
  ⟨(some 84),.val (.mov (.t 15)),none⟩,
  ⟨(some 85),.val (.bin .num .lss (.t 83) (.t 84)),none⟩]
def Nb (z sr ro sm is st:Nat):List Am.Item:=[
  ⟨(some 86),.val (.mov (.t 14)),none⟩,
  ⟨(some 87),.val (.mov (.t 15)),none⟩,
  ⟨(some 88),.val (.bin .num .add (.t 86) (.t 87)),none⟩,
  ⟨(some 89),.val (.cvi .u64 (.t 88)),none⟩,
  ⟨(some 90),.val (.bin .num .shr (.t 89) (.c (.int .u64 1))),none⟩,
  ⟨(some 91),.val (.cvi .i64 (.t 90)),none⟩,
  ⟨(some 16),.val (.mov (.t 91)),none⟩]
def Nc (z sr ro sm is st:Nat):List Am.Item:=[
  ⟨(some 92),.val (.mov (.t 4)),none⟩,
  ⟨(some 93),.val (.mov (.t 0)),none⟩,
  ⟨(some 94),.val (.mov (.t 2)),none⟩,
  ⟨(some 95),.val (.iaddr z none (.t 93) (.t 94)),none⟩,
  ⟨(some 96),.val (.loadr (some z) (.t 95)),none⟩,
  ⟨(some 97),.val (.mov (.t 0)),none⟩,
  ⟨(some 98),.val (.mov (.t 16)),none⟩,
  ⟨(some 99),.val (.iaddr z none (.t 97) (.t 98)),none⟩,
  ⟨(some 100),.val (.loadr (some z) (.t 99)),none⟩,
  ⟨(some 101),.call (.t 92) [(.t 96),(.t 100)],none⟩,
  ⟨(some 102),.val (.bin .num .lss (.t 101) (.c (.int .i64 0))),none⟩,
  ⟨(some 103),.val (.un .not (.t 102)),none⟩]
def Nd (z sr ro sm is st:Nat):List Am.Item:=[
  ⟨(some 104),.val (.mov (.t 16)),none⟩,
  ⟨(some 105),.val (.bin .num .add (.t 104) (.c (.int .i64 1))),none⟩,
  ⟨(some 14),.val (.mov (.t 105)),none⟩]
def Nf (z sr ro sm is st:Nat):List Am.Item:=[
  ⟨(some 106),.val (.mov (.t 16)),none⟩,
  ⟨(some 15),.val (.mov (.t 106)),none⟩]
def CV (z sr ro sm is st:Nat):RC:=.seq (.seq (.reg (Na z sr ro sm is st)) (.cond (.t 85) (.skip) (.exit 4))) (.block 5 (.seq (.reg (Nb z sr ro sm is st)) (.seq (.draw (Nc z sr ro sm is st)) (.cond (.t 103) (.reg (Nd z sr ro sm is st)) (.reg (Nf z sr ro sm is st))))))
def Ng (z sr ro sm is st:Nat):List Am.Item:=[
  ⟨(some 107),.val (.mov (.t 2)),none⟩,
  ⟨(some 17),.val (.mov (.t 107)),none⟩]
def Nh (z sr ro sm is st:Nat):List Am.Item:=[
  ⟨(some 108),.val (.mov (.t 17)),none⟩,
  ⟨(some 109),.val (.mov (.t 14)),none⟩,
  ⟨(some 110),.val (.bin .num .gtr (.t 108) (.t 109)),none⟩]
def Ni (z sr ro sm is st:Nat):List Am.Item:=[
  ⟨(some 113),.val (.mov (.t 0)),none⟩,
  ⟨(some 114),.val (.mov (.t 17)),none⟩,
  ⟨(some 115),.val (.mov (.t 0)),none⟩,
  ⟨(some 116),.val (.mov (.t 17)),none⟩,
  ⟨(some 117),.val (.bin .num .sub (.t 116) (.c (.int .i64 1))),none⟩,
  ⟨(some 118),.val (.mov (.t 0)),none⟩,
  ⟨(some 119),.val (.mov (.t 17)),none⟩,
  ⟨(some 120),.val (.bin .num .sub (.t 119) (.c (.int .i64 1))),none⟩,
  ⟨(some 121),.val (.iaddr z none (.t 118) (.t 120)),none⟩,
  ⟨(some 122),.val (.loadr (some z) (.t 121)),none⟩,
  ⟨(some 123),.val (.mov (.t 0)),none⟩,
  ⟨(some 124),.val (.mov (.t 17)),none⟩,
  ⟨(some 125),.val (.iaddr z none (.t 123) (.t 124)),none⟩,
  ⟨(some 126),.val (.loadr (some z) (.t 125)),none⟩,
  ⟨(some 127),.val (.iaddr z none (.t 113) (.t 114)),none⟩,
  ⟨none,.store z (.t 127) (.t 122),none⟩,
  ⟨(some 128),.val (.iaddr z none (.t 115) (.t 117)),none⟩,
  ⟨none,.store z (.t 128) (.t 126),none⟩]
def Nj (z sr ro sm is st:Nat):List Am.Item:=[
  ⟨(some 111),.val (.mov (.t 17)),none⟩,
  ⟨(some 112),.val (.bin .num .sub (.t 111) (.c (.int .i64 1))),none⟩,
  ⟨(some 17),.val (.mov (.t 112)),none⟩]
def CW (z sr ro sm is st:Nat):RC:=.seq (.seq (.reg (Nh z sr ro sm is st)) (.cond (.t 110) (.skip) (.exit 6))) (.seq (.block 7 (.draw (Ni z sr ro sm is st))) (.reg (Nj z sr ro sm is st)))
def G3 (z sr ro sm is st:Nat):List Am.Item:=[
  ⟨(some 129),.val (.mov (.t 1)),none⟩,
  ⟨(some 130),.val (.mov (.t 3)),none⟩,
  ⟨(some 131),.val (.bin .num .add (.t 129) (.t 130)),none⟩,
  ⟨(some 132),.val (.cvi .u64 (.t 131)),none⟩,
  ⟨(some 133),.val (.bin .num .shr (.t 132) (.c (.int .u64 1))),none⟩,
  ⟨(some 134),.val (.cvi .i64 (.t 133)),none⟩,
  ⟨(some 18),.val (.mov (.t 134)),none⟩]
def G4 (z sr ro sm is st:Nat):List Am.Item:=[
  ⟨(some 135),.val (.mov (.t 18)),none⟩,
  ⟨(some 136),.val (.mov (.t 2)),none⟩,
  ⟨(some 137),.val (.bin .num .add (.t 135) (.t 136)),none⟩,
  ⟨(some 19),.val (.mov (.t 137)),none⟩]
def G5 (z sr ro sm is st:Nat):List Am.Item:=[
  ⟨(some 20),.val (.mov (.c (.int .i64 0))),none⟩,
  ⟨(some 21),.val (.mov (.c (.int .i64 0))),none⟩]
def G6 (z sr ro sm is st:Nat):List Am.Item:=[
  ⟨(some 138),.val (.mov (.t 2)),none⟩,
  ⟨(some 139),.val (.mov (.t 18)),none⟩,
  ⟨(some 140),.val (.bin .num .gtr (.t 138) (.t 139)),none⟩]
def G7 (z sr ro sm is st:Nat):List Am.Item:=[
  ⟨(some 141),.val (.mov (.t 19)),none⟩,
  ⟨(some 142),.val (.mov (.t 3)),none⟩,
  ⟨(some 143),.val (.bin .num .sub (.t 141) (.t 142)),none⟩,
  ⟨(some 20),.val (.mov (.t 143)),none⟩]
def G8 (z sr ro sm is st:Nat):List Am.Item:=[
  ⟨(some 144),.val (.mov (.t 18)),none⟩,
  ⟨(some 21),.val (.mov (.t 144)),none⟩]
def G9 (z sr ro sm is st:Nat):List Am.Item:=[
  ⟨(some 145),.val (.mov (.t 1)),none⟩,
  ⟨(some 20),.val (.mov (.t 145)),none⟩]
def Da (z sr ro sm is st:Nat):List Am.Item:=[
  ⟨(some 146),.val (.mov (.t 2)),none⟩,
  ⟨(some 21),.val (.mov (.t 146)),none⟩]
def Db (z sr ro sm is st:Nat):List Am.Item:=[
  ⟨(some 147),.val (.mov (.t 19)),none⟩,
  ⟨(some 148),.val (.bin .num .sub (.t 147) (.c (.int .i64 1))),none⟩,
  ⟨(some 22),.val (.mov (.t 148)),none⟩]
def Dc (z sr ro sm is st:Nat):List Am.Item:=[
  ⟨(some 149),.val (.mov (.t 20)),none⟩,
  ⟨(some 150),.val (.mov (.t 21)),none⟩,
  ⟨(some 151),.val (.bin .num .lss (.t 149) (.t 150)),none⟩]
def Dd (z sr ro sm is st:Nat):List Am.Item:=[
  ⟨(some 152),.val (.mov (.t 20)),none⟩,
  ⟨(some 153),.val (.mov (.t 21)),none⟩,
  ⟨(some 154),.val (.bin .num .add (.t 152) (.t 153)),none⟩,
  ⟨(some 155),.val (.cvi .u64 (.t 154)),none⟩,
  ⟨(some 156),.val (.bin .num .shr (.t 155) (.c (.int .u64 1))),none⟩,
  ⟨(some 157),.val (.cvi .i64 (.t 156)),none⟩,
  ⟨(some 23),.val (.mov (.t 157)),none⟩]
def De (z sr ro sm is st:Nat):List Am.Item:=[
  ⟨(some 158),.val (.mov (.t 4)),none⟩,
  ⟨(some 159),.val (.mov (.t 0)),none⟩,
  ⟨(some 160),.val (.mov (.t 22)),none⟩,
  ⟨(some 161),.val (.mov (.t 23)),none⟩,
  ⟨(some 162),.val (.bin .num .sub (.t 160) (.t 161)),none⟩,
  ⟨(some 163),.val (.iaddr z none (.t 159) (.t 162)),none⟩,
  ⟨(some 164),.val (.loadr (some z) (.t 163)),none⟩,
  ⟨(some 165),.val (.mov (.t 0)),none⟩,
  ⟨(some 166),.val (.mov (.t 23)),none⟩,
  ⟨(some 167),.val (.iaddr z none (.t 165) (.t 166)),none⟩,
  ⟨(some 168),.val (.loadr (some z) (.t 167)),none⟩,
  ⟨(some 169),.call (.t 158) [(.t 164),(.t 168)],none⟩,
  ⟨(some 170),.val (.bin .num .lss (.t 169) (.c (.int .i64 0))),none⟩,
  ⟨(some 171),.val (.un .not (.t 170)),none⟩]
def Df (z sr ro sm is st:Nat):List Am.Item:=[
  ⟨(some 172),.val (.mov (.t 23)),none⟩,
  ⟨(some 173),.val (.bin .num .add (.t 172) (.c (.int .i64 1))),none⟩,
  ⟨(some 20),.val (.mov (.t 173)),none⟩]
def Dg (z sr ro sm is st:Nat):List Am.Item:=[
  ⟨(some 174),.val (.mov (.t 23)),none⟩,
  ⟨(some 21),.val (.mov (.t 174)),none⟩]
def Dh (z sr ro sm is st:Nat):RC:=.seq (.seq (.reg (Dc z sr ro sm is st)) (.cond (.t 151) (.skip) (.exit 8))) (.block 9 (.seq (.reg (Dd z sr ro sm is st)) (.seq (.draw (De z sr ro sm is st)) (.cond (.t 171) (.reg (Df z sr ro sm is st)) (.reg (Dg z sr ro sm is st))))))
def YA (z sr ro sm is st:Nat):List Am.Item:=[
  ⟨(some 175),.val (.mov (.t 19)),none⟩,
  ⟨(some 176),.val (.mov (.t 20)),none⟩,
  ⟨(some 177),.val (.bin .num .sub (.t 175) (.t 176)),none⟩,
  ⟨(some 24),.val (.mov (.t 177)),none⟩]
def YB (z sr ro sm is st:Nat):List Am.Item:=[
  ⟨(some 178),.val (.mov (.t 20)),none⟩,
  ⟨(some 179),.val (.mov (.t 2)),none⟩,
  ⟨(some 180),.val (.bin .num .lss (.t 178) (.t 179)),none⟩,
  ⟨(some 181),.val (.mov (.t 180)),none⟩,
  ⟨(some 182),.val (.mov (.t 2)),(some (181,true))⟩,
  ⟨(some 183),.val (.mov (.t 24)),(some (181,true))⟩,
  ⟨(some 184),.val (.bin .num .lss (.t 182) (.t 183)),(some (181,true))⟩,
  ⟨(some 185),.val (.pick (.t 181) (.t 184) (.c (.bool false))),none⟩]
def YC (z sr ro sm is st:Nat):List Am.Item:=[
  ⟨(some 186),.val (.mov (.t 0)),none⟩,
  ⟨(some 187),.val (.mov (.t 20)),none⟩,
  ⟨(some 188),.val (.mov (.t 2)),none⟩,
  ⟨(some 189),.val (.mov (.t 24)),none⟩,
  ⟨(some 190),.val (.mov (.t 4)),none⟩,
  ⟨(some 191),.callF (.f ro) [(.t 186),(.t 187),(.t 188),(.t 189),(.t 190)],none⟩]
def WL (z sr ro sm is st:Nat):List Am.Item:=[
  ⟨(some 192),.val (.mov (.t 1)),none⟩,
  ⟨(some 193),.val (.mov (.t 20)),none⟩,
  ⟨(some 194),.val (.bin .num .lss (.t 192) (.t 193)),none⟩,
  ⟨(some 195),.val (.mov (.t 194)),none⟩,
  ⟨(some 196),.val (.mov (.t 20)),(some (195,true))⟩,
  ⟨(some 197),.val (.mov (.t 18)),(some (195,true))⟩,
  ⟨(some 198),.val (.bin .num .lss (.t 196) (.t 197)),(some (195,true))⟩,
  ⟨(some 199),.val (.pick (.t 195) (.t 198) (.c (.bool false))),none⟩]
def WM (z sr ro sm is st:Nat):List Am.Item:=[
  ⟨(some 200),.val (.mov (.t 0)),none⟩,
  ⟨(some 201),.val (.mov (.t 1)),none⟩,
  ⟨(some 202),.val (.mov (.t 20)),none⟩,
  ⟨(some 203),.val (.mov (.t 18)),none⟩,
  ⟨(some 204),.val (.mov (.t 4)),none⟩,
  ⟨(some 205),.callF (.f sm) [(.t 200),(.t 201),(.t 202),(.t 203),(.t 204)],none⟩]
def Kj (z sr ro sm is st:Nat):List Am.Item:=[
  ⟨(some 206),.val (.mov (.t 18)),none⟩,
  ⟨(some 207),.val (.mov (.t 24)),none⟩,
  ⟨(some 208),.val (.bin .num .lss (.t 206) (.t 207)),none⟩,
  ⟨(some 209),.val (.mov (.t 208)),none⟩,
  ⟨(some 210),.val (.mov (.t 24)),(some (209,true))⟩,
  ⟨(some 211),.val (.mov (.t 3)),(some (209,true))⟩,
  ⟨(some 212),.val (.bin .num .lss (.t 210) (.t 211)),(some (209,true))⟩,
  ⟨(some 213),.val (.pick (.t 209) (.t 212) (.c (.bool false))),none⟩]
def Kk (z sr ro sm is st:Nat):List Am.Item:=[
  ⟨(some 214),.val (.mov (.t 0)),none⟩,
  ⟨(some 215),.val (.mov (.t 18)),none⟩,
  ⟨(some 216),.val (.mov (.t 24)),none⟩,
  ⟨(some 217),.val (.mov (.t 3)),none⟩,
  ⟨(some 218),.val (.mov (.t 4)),none⟩,
  ⟨(some 219),.callF (.f sm) [(.t 214),(.t 215),(.t 216),(.t 217),(.t 218)],none⟩]
def An (z sr ro sm is st:Nat):RC:=.seq (.seq (.reg (FH z sr ro sm is st)) (.cond (.t 28) (.seq (.reg (CR z sr ro sm is st)) (.seq (.reg (CS z sr ro sm is st)) (.seq (.block 0 (.loop (Aj z sr ro sm is st))) (.seq (.seq (.reg (CU z sr ro sm is st)) (.block 2 (.loop (Al z sr ro sm is st)))) (.ret))))) (.skip))) (.seq (.seq (.reg (G0 z sr ro sm is st)) (.cond (.t 80) (.seq (.reg (B8 z sr ro sm is st)) (.seq (.reg (B9 z sr ro sm is st)) (.seq (.block 4 (.loop (CV z sr ro sm is st))) (.seq (.seq (.reg (Ng z sr ro sm is st)) (.block 6 (.loop (CW z sr ro sm is st)))) (.ret))))) (.skip))) (.seq (.reg (G3 z sr ro sm is st)) (.seq (.reg (G4 z sr ro sm is st)) (.seq (.reg (G5 z sr ro sm is st)) (.seq (.seq (.reg (G6 z sr ro sm is st)) (.cond (.t 140) (.seq (.reg (G7 z sr ro sm is st)) (.reg (G8 z sr ro sm is st))) (.seq (.reg (G9 z sr ro sm is st)) (.reg (Da z sr ro sm is st))))) (.seq (.reg (Db z sr ro sm is st)) (.seq (.block 8 (.loop (Dh z sr ro sm is st))) (.seq (.reg (YA z sr ro sm is st)) (.seq (.seq (.reg (YB z sr ro sm is st)) (.cond (.t 185) (.reg (YC z sr ro sm is st)) (.skip))) (.seq (.seq (.reg (WL z sr ro sm is st)) (.cond (.t 199) (.reg (WM z sr ro sm is st)) (.skip))) (.seq (.reg (Kj z sr ro sm is st)) (.cond (.t 213) (.reg (Kk z sr ro sm is st)) (.skip)))))))))))))
def Di:List RR:=[]

def Ao (z sr ro sm is st:Nat):List Am.Item:=[
  ⟨(some 10),.val (.mov (.t 1)),none⟩,
  ⟨(some 11),.val (.bin .num .add (.t 10) (.c (.int .i64 1))),none⟩,
  ⟨(some 8),.val (.mov (.t 11)),none⟩]
def Ap (z sr ro sm is st:Nat):List Am.Item:=[
  ⟨(some 12),.val (.mov (.t 8)),none⟩,
  ⟨(some 13),.val (.mov (.t 2)),none⟩,
  ⟨(some 14),.val (.bin .num .lss (.t 12) (.t 13)),none⟩]
def Aq (z sr ro sm is st:Nat):List Am.Item:=[
  ⟨(some 17),.val (.mov (.t 8)),none⟩,
  ⟨(some 9),.val (.mov (.t 17)),none⟩]
def Ar (z sr ro sm is st:Nat):List Am.Item:=[
  ⟨(some 18),.val (.mov (.t 9)),none⟩,
  ⟨(some 19),.val (.mov (.t 1)),none⟩,
  ⟨(some 20),.val (.bin .num .gtr (.t 18) (.t 19)),none⟩,
  ⟨(some 21),.val (.mov (.t 20)),none⟩,
  ⟨(some 22),.val (.mov (.t 3)),(some (21,true))⟩,
  ⟨(some 23),.val (.mov (.t 0)),(some (21,true))⟩,
  ⟨(some 24),.val (.mov (.t 9)),(some (21,true))⟩,
  ⟨(some 25),.val (.iaddr z none (.t 23) (.t 24)),(some (21,true))⟩,
  ⟨(some 26),.val (.loadr (some z) (.t 25)),(some (21,true))⟩,
  ⟨(some 27),.val (.mov (.t 0)),(some (21,true))⟩,
  ⟨(some 28),.val (.mov (.t 9)),(some (21,true))⟩,
  ⟨(some 29),.val (.bin .num .sub (.t 28) (.c (.int .i64 1))),(some (21,true))⟩,
  ⟨(some 30),.val (.iaddr z none (.t 27) (.t 29)),(some (21,true))⟩,
  ⟨(some 31),.val (.loadr (some z) (.t 30)),(some (21,true))⟩,
  ⟨(some 32),.call (.t 22) [(.t 26),(.t 31)],(some (21,true))⟩,
  ⟨(some 33),.val (.bin .num .lss (.t 32) (.c (.int .i64 0))),(some (21,true))⟩,
  ⟨(some 34),.val (.pick (.t 21) (.t 33) (.c (.bool false))),none⟩]
def As (z sr ro sm is st:Nat):List Am.Item:=[
  ⟨(some 37),.val (.mov (.t 0)),none⟩,
  ⟨(some 38),.val (.mov (.t 9)),none⟩,
  ⟨(some 39),.val (.mov (.t 0)),none⟩,
  ⟨(some 40),.val (.mov (.t 9)),none⟩,
  ⟨(some 41),.val (.bin .num .sub (.t 40) (.c (.int .i64 1))),none⟩,
  ⟨(some 42),.val (.mov (.t 0)),none⟩,
  ⟨(some 43),.val (.mov (.t 9)),none⟩,
  ⟨(some 44),.val (.bin .num .sub (.t 43) (.c (.int .i64 1))),none⟩,
  ⟨(some 45),.val (.iaddr z none (.t 42) (.t 44)),none⟩,
  ⟨(some 46),.val (.loadr (some z) (.t 45)),none⟩,
  ⟨(some 47),.val (.mov (.t 0)),none⟩,
  ⟨(some 48),.val (.mov (.t 9)),none⟩,
  ⟨(some 49),.val (.iaddr z none (.t 47) (.t 48)),none⟩,
  ⟨(some 50),.val (.loadr (some z) (.t 49)),none⟩,
  ⟨(some 51),.val (.iaddr z none (.t 37) (.t 38)),none⟩,
  ⟨none,.store z (.t 51) (.t 46),none⟩,
  ⟨(some 52),.val (.iaddr z none (.t 39) (.t 41)),none⟩,
  ⟨none,.store z (.t 52) (.t 50),none⟩]
def Au (z sr ro sm is st:Nat):List Am.Item:=[
  ⟨(some 35),.val (.mov (.t 9)),none⟩,
  ⟨(some 36),.val (.bin .num .sub (.t 35) (.c (.int .i64 1))),none⟩,
  ⟨(some 9),.val (.mov (.t 36)),none⟩]
def Av (z sr ro sm is st:Nat):RC:=.seq (.seq (.draw (Ar z sr ro sm is st)) (.cond (.t 34) (.skip) (.exit 2))) (.seq (.block 3 (.draw (As z sr ro sm is st))) (.reg (Au z sr ro sm is st)))
def Aw (z sr ro sm is st:Nat):List Am.Item:=[
  ⟨(some 15),.val (.mov (.t 8)),none⟩,
  ⟨(some 16),.val (.bin .num .add (.t 15) (.c (.int .i64 1))),none⟩,
  ⟨(some 8),.val (.mov (.t 16)),none⟩]
def Ax (z sr ro sm is st:Nat):RC:=.seq (.seq (.reg (Ap z sr ro sm is st)) (.cond (.t 14) (.skip) (.exit 0))) (.seq (.block 1 (.seq (.reg (Aq z sr ro sm is st)) (.block 2 (.loop (Av z sr ro sm is st))))) (.reg (Aw z sr ro sm is st)))
def ris (z sr ro sm is st:Nat):RC:=.seq (.reg (Ao z sr ro sm is st)) (.block 0 (.loop (Ax z sr ro sm is st)))
def ois:List RR:=[]

def Ay (z sr ro sm is st:Nat):List Am.Item:=[
  ⟨(some 6),.val (.mov (.c (.int .i64 20))),none⟩]
def Az (z sr ro sm is st:Nat):List Am.Item:=[
  ⟨(some 10),.val (.mov (.t 6)),none⟩,
  ⟨(some 7),.val (.mov (.c (.int .i64 0))),none⟩,
  ⟨(some 8),.val (.mov (.t 10)),none⟩]
def AA (z sr ro sm is st:Nat):List Am.Item:=[
  ⟨(some 11),.val (.mov (.t 8)),none⟩,
  ⟨(some 12),.val (.mov (.t 1)),none⟩,
  ⟨(some 13),.val (.bin .num .leq (.t 11) (.t 12)),none⟩]
def AB (z sr ro sm is st:Nat):List Am.Item:=[
  ⟨(some 14),.val (.mov (.t 0)),none⟩,
  ⟨(some 15),.val (.mov (.t 7)),none⟩,
  ⟨(some 16),.val (.mov (.t 8)),none⟩,
  ⟨(some 17),.val (.mov (.t 2)),none⟩,
  ⟨(some 18),.callF (.f is) [(.t 14),(.t 15),(.t 16),(.t 17)],none⟩]
def AC (z sr ro sm is st:Nat):List Am.Item:=[
  ⟨(some 19),.val (.mov (.t 8)),none⟩,
  ⟨(some 7),.val (.mov (.t 19)),none⟩]
def AD (z sr ro sm is st:Nat):List Am.Item:=[
  ⟨(some 20),.val (.mov (.t 8)),none⟩,
  ⟨(some 21),.val (.mov (.t 6)),none⟩,
  ⟨(some 22),.val (.bin .num .add (.t 20) (.t 21)),none⟩,
  ⟨(some 8),.val (.mov (.t 22)),none⟩]
def AE (z sr ro sm is st:Nat):RC:=.seq (.seq (.reg (AA z sr ro sm is st)) (.cond (.t 13) (.skip) (.exit 0))) (.block 1 (.seq (.reg (AB z sr ro sm is st)) (.seq (.reg (AC z sr ro sm is st)) (.reg (AD z sr ro sm is st)))))
def AF (z sr ro sm is st:Nat):List Am.Item:=[
  ⟨(some 23),.val (.mov (.t 0)),none⟩,
  ⟨(some 24),.val (.mov (.t 7)),none⟩,
  ⟨(some 25),.val (.mov (.t 1)),none⟩,
  ⟨(some 26),.val (.mov (.t 2)),none⟩,
  ⟨(some 27),.callF (.f is) [(.t 23),(.t 24),(.t 25),(.t 26)],none⟩]
def AG (z sr ro sm is st:Nat):List Am.Item:=[
  ⟨(some 28),.val (.mov (.t 6)),none⟩,
  ⟨(some 29),.val (.mov (.t 1)),none⟩,
  ⟨(some 30),.val (.bin .num .lss (.t 28) (.t 29)),none⟩]
def AH (z sr ro sm is st:Nat):List Am.Item:=[
  ⟨(some 31),.val (.mov (.t 6)),none⟩,
  ⟨(some 32),.val (.bin .num .mul (.c (.int .i64 2)) (.t 31)),none⟩,
  ⟨(some 7),.val (.mov (.c (.int .i64 0))),none⟩,
  ⟨(some 8),.val (.mov (.t 32)),none⟩]
def AI (z sr ro sm is st:Nat):List Am.Item:=[
  ⟨(some 33),.val (.mov (.t 8)),none⟩,
  ⟨(some 34),.val (.mov (.t 1)),none⟩,
  ⟨(some 35),.val (.bin .num .leq (.t 33) (.t 34)),none⟩]
def P3 (z sr ro sm is st:Nat):List Am.Item:=[
  ⟨(some 36),.val (.mov (.t 0)),none⟩,
  ⟨(some 37),.val (.mov (.t 7)),none⟩,
  ⟨(some 38),.val (.mov (.t 7)),none⟩,
  ⟨(some 39),.val (.mov (.t 6)),none⟩,
  ⟨(some 40),.val (.bin .num .add (.t 38) (.t 39)),none⟩,
  ⟨(some 41),.val (.mov (.t 8)),none⟩,
  ⟨(some 42),.val (.mov (.t 2)),none⟩,
  ⟨(some 43),.callF (.f sm) [(.t 36),(.t 37),(.t 40),(.t 41),(.t 42)],none⟩]
def P4 (z sr ro sm is st:Nat):List Am.Item:=[
  ⟨(some 44),.val (.mov (.t 8)),none⟩,
  ⟨(some 7),.val (.mov (.t 44)),none⟩]
def P5 (z sr ro sm is st:Nat):List Am.Item:=[
  ⟨(some 45),.val (.mov (.t 8)),none⟩,
  ⟨(some 46),.val (.mov (.t 6)),none⟩,
  ⟨(some 47),.val (.bin .num .mul (.c (.int .i64 2)) (.t 46)),none⟩,
  ⟨(some 48),.val (.bin .num .add (.t 45) (.t 47)),none⟩,
  ⟨(some 8),.val (.mov (.t 48)),none⟩]
def AJ (z sr ro sm is st:Nat):RC:=.seq (.seq (.reg (AI z sr ro sm is st)) (.cond (.t 35) (.skip) (.exit 4))) (.block 5 (.seq (.reg (P3 z sr ro sm is st)) (.seq (.reg (P4 z sr ro sm is st)) (.reg (P5 z sr ro sm is st)))))
def P6 (z sr ro sm is st:Nat):List Am.Item:=[
  ⟨(some 49),.val (.mov (.t 7)),none⟩,
  ⟨(some 50),.val (.mov (.t 6)),none⟩,
  ⟨(some 51),.val (.bin .num .add (.t 49) (.t 50)),none⟩,
  ⟨(some 9),.val (.mov (.t 51)),none⟩]
def P7 (z sr ro sm is st:Nat):List Am.Item:=[
  ⟨(some 52),.val (.mov (.t 9)),none⟩,
  ⟨(some 53),.val (.mov (.t 1)),none⟩,
  ⟨(some 54),.val (.bin .num .lss (.t 52) (.t 53)),none⟩]
def P8 (z sr ro sm is st:Nat):List Am.Item:=[
  ⟨(some 55),.val (.mov (.t 0)),none⟩,
  ⟨(some 56),.val (.mov (.t 7)),none⟩,
  ⟨(some 57),.val (.mov (.t 9)),none⟩,
  ⟨(some 58),.val (.mov (.t 1)),none⟩,
  ⟨(some 59),.val (.mov (.t 2)),none⟩,
  ⟨(some 60),.callF (.f sm) [(.t 55),(.t 56),(.t 57),(.t 58),(.t 59)],none⟩]
def Nk (z sr ro sm is st:Nat):List Am.Item:=[
  ⟨(some 61),.val (.mov (.t 6)),none⟩,
  ⟨(some 62),.val (.bin .num .mul (.t 61) (.c (.int .i64 2))),none⟩,
  ⟨(some 6),.val (.mov (.t 62)),none⟩]
def AK (z sr ro sm is st:Nat):RC:=.seq (.seq (.reg (AG z sr ro sm is st)) (.cond (.t 30) (.skip) (.exit 2))) (.block 3 (.seq (.reg (AH z sr ro sm is st)) (.seq (.block 4 (.loop (AJ z sr ro sm is st))) (.seq (.seq (.reg (P6 z sr ro sm is st)) (.seq (.reg (P7 z sr ro sm is st)) (.cond (.t 54) (.reg (P8 z sr ro sm is st)) (.skip)))) (.reg (Nk z sr ro sm is st))))))
def rst (z sr ro sm is st:Nat):RC:=.seq (.reg (Ay z sr ro sm is st)) (.seq (.reg (Az z sr ro sm is st)) (.seq (.block 0 (.loop (AE z sr ro sm is st))) (.seq (.reg (AF z sr ro sm is st)) (.block 2 (.loop (AK z sr ro sm is st))))))
def ost:List RR:=[]

def AL (z sr ro sm is st:Nat):List Am.Item:=[
  ⟨(some 4),.val (.mov (.t 0)),none⟩,
  ⟨(some 5),.val (.mov (.t 0)),none⟩,
  ⟨(some 6),.val (.len 1 (.t 5)),none⟩,
  ⟨(some 7),.val (.mov (.t 1)),none⟩,
  ⟨(some 8),.callF (.f st) [(.t 4),(.t 6),(.t 7)],none⟩]
def rss (z sr ro sm is st:Nat):RC:=.reg (AL z sr ro sm is st)
def oss:List RR:=[]

structure Cs (P:Program)(z sr ro sm is st ss:Nat):Prop where
 csr:CK P sr 38 (rsr z sr ro sm is st) osr
 cro:CK P ro 58 (rro z sr ro sm is st) oro
 csm:CK P sm 220 (An z sr ro sm is st) Di
 cis:CK P is 53 (ris z sr ro sm is st) ois
 cst:CK P st 63 (rst z sr ro sm is st) ost
 css:CK P ss 9 (rss z sr ro sm is st) oss

end Go.Proofs.YtdhlbgejhcejcaaGreatDoor.Tg

namespace Go.Proofs.YtdhlbgejhcejcaaGreatDoor.Am
open Go Bt

def Ez (E:AV→Prop)(sz:Nat)(x:AV):Prop:=E x∧∃l,x=.agg l∧l.length=sz∧AV.rfL l=true∧l.all AV.leaf=true∧∀m,AV.stillL false m l=some l

variable {E:AV→Prop}

theorem Ez.part {sz:Nat}{x:AV}(h:Ez E sz x):Am.part x.cells 0 (some sz)=some x:=by
 obtain⟨_,l,rfl,rfl,_,_,_⟩:=h;simp[Am.part,AV.cells]
theorem Ez.len {sz:Nat}{x:AV}(h:Ez E sz x):x.cells.length=sz:=by
 obtain⟨_,l,rfl,rfl,_,_,_⟩:=h;rfl
theorem Ez.leaf {sz:Nat}{x:AV}(h:Ez E sz x):x.cells.all AV.leaf=true:=by
 obtain⟨_,l,rfl,_,_,h,_⟩:=h;exact h
theorem Ez.rf {sz:Nat}{x:AV}(h:Ez E sz x):x.rf=true:=by
 obtain⟨_,l,rfl,_,h,_,_⟩:=h;exact h

theorem Ez.still {sz:Nat}{x:AV}(h:Ez E sz x)(m:Qo):x.still false m=some x:=by
 obtain⟨_,l,rfl,_,_,_,h⟩:=h;simp only[AV.still,h m,QVd]
theorem Yd {sz:Nat}{x y:AV}(h:Ez E sz x)(k:Ez E sz y)(m:Qo):AV.stillL false m [x,y]=some [x,y]:=by
 simp only[AV.stillL,h.still,k.still]
theorem KW {sz:Nat}{x y:AV}(h:Ez E sz x)(k:Ez E sz y):AV.rfL [x,y]=true:=by
 simp only[AV.rfL,h.rf,k.rf,Bool.and_self]

theorem Wi {P:Program}{f:Fr}{m:Qo}{ds:List DF}{Qe:List Item}{d:Nat}{K:St→Prop}{k:Nat}{r:RA}{args:List RA}{ys:List AV}{v:AV}(hr:r.ev f=.fn (.func k) [] [])(hk:Qk P k ys v)(hy:AV.stillL false m (args.map (RA.ev f))=some ys)(h1:AV.rfL ys=true)(h2:v.rf=true)(h3:AV.rfL (args.map (RA.ev f))=true∨v.nl=true)(h:QE P Qe ⟨QI f d v,m,ds⟩ K) :
  QE P (⟨some d,.call r args,none⟩ :: Qe) ⟨f,m,ds⟩ K:=by
 refine⟨k,[],[],ys,v,hr,?_,h1,hk,h2,?_,h⟩
 ·simpa using hy
 ·simpa using h3

theorem Wq:∀ {m:Qo} {l s:Nat} {o o':Ob},Am.put (Am.put m l s o) l s o'=Am.put m l s o'
 | [],_,_,_,_=>rfl
 |fr :: m,0,s,o,o'=>by simp only[Am.put,upd_upd']
 |fr :: m,l+1,s,o,o'=>by simp only[Am.put,Wq (m:=m)]
where
 upd_upd' {f:Nat→Ob} {d:Nat} {x y:Ob}:QI (QI f d x) d y=QI f d y:=by
  funext i;simp only[QI];cases Nat.beq i d<;>rfl

theorem Jx:∀ {m:Qo} {l s:Nat} {o:Ob},Qf m l s=o→Am.put m l s o=m
 | [],_,_,_,_=>rfl
 |fr :: m,0,s,o,h=>by
  simp only[Am.put];congr 1
  funext i;simp only[QI];cases hb:Nat.beq i s with
  |false=>rfl
  |true=>rw[QUj hb];exact h.symm
 |fr :: m,l+1,s,o,h=>by simp only[Am.put,Jx (m:=m) h]

section
variable {m:Qo}{fr:Nat→Ob}{lv s g sz n i:Nat}{cur:List AV}{x y:AV}

theorem K6 (hlv:lv<m.length)(hx:cur[i]? = some x)(he:Ez E sz x):Xb (fr :: Am.put m lv s (.vec g sz cur)) (some sz) (.vptr (lv+1) s g i 0)=some x:=by
 have e:Qf (fr :: Am.put m lv s (.vec g sz cur)) (lv+1) s=.vec g sz cur:=Qz hlv;simp only[Xb,e,if_true,hx,he.part]

theorem UP (hlv:lv<m.length)(hx:cur[i]? = some x)(he:Ez E sz x)(hy:Ez E sz y)(h0:sz≠0):QX (fr :: Am.put m lv s (.vec g sz cur)) (.vptr (lv+1) s g i 0) y.cells=some (fr :: Am.put m lv s (.vec g sz (cur.set i y))):=by
 have e:Qf (fr :: Am.put m lv s (.vec g sz cur)) (lv+1) s=.vec g sz cur:=Qz hlv;obtain⟨_,l,rfl,hl,_,_,_⟩:=he;obtain⟨_,k,rfl,hk,hf,_,_⟩:=hy;have hc:0+(AV.agg k).cells.length≤(AV.agg l).cells.length∧(AV.agg k).cells.length≠0∧AV.rfL (AV.agg k).cells=true:=by
  simp only[AV.cells];exact⟨by omega,by omega,hf⟩
 simp only[QX,e,if_true,hx,QUQ hc];have hs:splice l 0 k=k:=by
  simp only[splice,QVu,QUK,QU3];rw[QUY (by omega),QVp]
 simp only[ZN,AV.cells,hs,Am.put,Wq]

theorem K7 (hlv:lv<m.length)(hi:i<n):Qb (fr :: Am.put m lv s (.vec g sz cur)) sz none (.vec (lv+1) s g 0 n false) ((i:Nat):Int)=some (.vptr (lv+1) s g i 0):=by
 have e:Qf (fr :: Am.put m lv s (.vec g sz cur)) (lv+1) s=.vec g sz cur:=Qz hlv;simp only[Qb,e,QVN];rw[QUQ (by omega),QUQ ⟨trivial,trivial,hi⟩,QU3]

end

theorem put_len:∀ {m:Qo} {l s:Nat} {o:Ob},(Am.put m l s o).length=m.length
 | [],_,_,_=>rfl
 |_ :: _,0,_,_=>rfl
 |fr :: m,l+1,s,o=>by simp only[Am.put,QUC,put_len (m:=m)]

end Go.Proofs.YtdhlbgejhcejcaaGreatDoor.Am

namespace Go.Proofs.YtdhlbgejhcejcaaGreatDoor.Tz
open Go Am Bt Tg
variable {Pg:Program}{cz sr ro sm is st ss:Nat}(hC:Tg.Cs Pg cz sr ro sm is st ss)(hcz:cz≠0)

variable {E:AV→Prop}

def SwI (X cur:List AV)(p q i:Nat):Prop :=
 cur.length=X.length∧∀j,cur[j]? = if p≤j∧j<p+i then X[q+(j-p)]? else if q≤j∧j<q+i then X[p+(j-q)]? else X[j]?

theorem SwI.step {X cur:List AV}{p q i n:Nat}(h:SwI X cur p q i)(hi:i<n)(hpq:p+n≤q)(hq:q+n≤X.length){x y:AV}(hx:X[q+i]? = some x)(hy:X[p+i]? = some y) :
  SwI X ((cur.set (p+i) x).set (q+i) y) p q (i+1):=by
 obtain⟨h1,h2⟩:=h;refine⟨by simp[h1],fun j=>?_⟩;rw[List.getElem?_set,List.length_set,h1,List.getElem?_set,h1,h2 j];by_cases a:q+i=j
 ·subst a;rw[QUQ rfl,QUQ (by omega),QUB (by omega),QUQ (by omega),show p+(q+i-q)=p+i by omega,hy]
 ·rw[QUB a];by_cases b:p+i=j
  ·subst b;rw[QUQ rfl,QUQ (by omega),QUQ (by omega),show q+(p+i-p)=q+i by omega,hx]
  ·rw[QUB b]
   repeat' split
   all_goals first|rfl|(exfalso;omega)|(congr 1;omega)

theorem SwI.done {P A M B S cur:List AV}(h:SwI (P++A++M++B++S) cur P.length (P.length+A.length+M.length) A.length)(hAB:A.length=B.length):cur=P++B++M++A++S:=by
 apply List.ext_getElem?
 intro j;rw[h.2 j];simp only[List.getElem?_append,QUZ]
 repeat' split
 all_goals first|rfl|(exfalso;omega)|(congr 1;omega)

def SwS (cz:Nat)(m:Qo)(lv s g N p q n:Nat)(X:List AV)(k:Nat)(st:St):Prop :=
 ∃f i cur,st=⟨f,[Qc]++Am.put m lv s (.vec g cz cur),[]⟩∧k=n-i∧i≤n∧SwI X cur p q i∧
  f 0=.vec (lv+1) s g 0 N false∧f 1=.int .i64 (p:Nat)∧f 2=.int .i64 (q:Nat)∧f 3=.int .i64 (n:Nat)∧f 10=.int .i64 (i:Nat)

include hC hcz in
theorem QPB (cmp:AV)(lv s g:Nat)(P A M B S:List AV)(m:Qo)(hl:Am.Qf m lv s=.vec g cz (P++A++M++B++S))(hAB:A.length=B.length)(he:∀x∈P++A++M++B++S,Ez E cz x)
  (hn:(P++A++M++B++S).length<4611686018427387904) :
  Qg Pg sr [.vec lv s g 0 (P++A++M++B++S).length false,.int .i64 (P.length:Nat),.int .i64 ((P.length+A.length+M.length:Nat):Int),.int .i64 (A.length:Nat),cmp] m
   (fun x m1=>x=.tup []∧m1=Am.put m lv s (.vec g cz (P++B++M++A++S))):=by
 have _:=hC;have _:=hcz;have hlv:lv<m.length:=QY (by rw[hl];simp);have hlen:(P++A++M++B++S).length=P.length+A.length+M.length+B.length+S.length:=by simp only[QUZ]
 refine hC.csr.go (by simp) ?_;simp only[TZ,rsr,osr,Qa,seval];have h0:m=Am.put m lv s (.vec g cz (P++A++M++B++S)):=(Jx hl).symm;generalize hX:P++A++M++B++S=X at *;generalize hp:P.length=p at *;generalize hq:p+A.length+M.length=q at *;generalize hnn:A.length=n at *;refine Qd (SwS cz m lv s g X.length p q n X) _ ⟨_,0,X,by rw[←h0]<;>rfl,rfl,QUv _,⟨rfl,fun j=>?_⟩,by simp only[Qa,seval],by simp only[Qa,seval],by simp only[Qa,seval],by simp only[Qa,seval],by simp only[Qa,seval]<;>rfl⟩ ?_
 ·rw[QUB (by omega),QUB (by omega)]
 rintro k st ⟨f,i,cur,rfl,rfl,hi,hsw,f0,f1,f2,f3,f10⟩;simp only[T3,T0,T1,T2,f3,f10,Qa,seval];by_cases hlt:i<n
 ·have d0:decide ((i:Int)<(n:Int))=true:=by simp;omega
  have e1:IntKind.i64.wrap ((p:Int)+(i:Int))=((p+i:Nat):Int):=by rw[QF];omega
  have e2:IntKind.i64.wrap ((q:Int)+(i:Int))=((q+i:Nat):Int):=by rw[QF];omega
  have e3:IntKind.i64.wrap ((i:Int)+1)=((i+1:Nat):Int):=by rw[QF];omega
  obtain⟨x,hx⟩:∃x,X[q+i]? = some x:=⟨_,QUo (by omega)⟩;obtain⟨y,hy⟩:∃y,X[p+i]? = some y:=⟨_,QUo (by omega)⟩;have ex:=he x (QUA hx);have ey:=he y (QUA hy);have cx:cur[q+i]? = some x:=by rw[hsw.2,QUB (by omega),QUB (by omega),hx]
  have cy:cur[p+i]? = some y:=by rw[hsw.2,QUB (by omega),QUB (by omega),hy]
  have cx':(cur.set (p+i) x)[q+i]? = some x:=by rw[QWo (by omega),cx]
  simp only[d0,e1,e2,e3,f0,f1,f2,f10,K7 hlv (show q+i<X.length by omega),K7 hlv (show p+i<X.length by omega),K6 hlv cx ex,K6 hlv cy ey,ex.len,ey.len,ex.leaf,ey.leaf,UP hlv cy ey ex hcz,UP hlv cx' ex ey hcz,Qa,seval];exact⟨n-(i+1),by omega,_,i+1,_,rfl,rfl,by omega,hsw.step hlt (by omega) (by omega) hx hy,by simp only[f0,Qa,seval],by simp only[f1,Qa,seval],by simp only[f2,Qa,seval],by simp only[f3,Qa,seval],by simp only[Qa,seval]⟩
 ·have d0:decide ((i:Int)<(n:Int))=false:=by simp;omega
  have hin:i=n:=by omega
  subst hin;have hc:=SwI.done (P:=P) (A:=A) (M:=M) (B:=B) (S:=S) (cur:=cur) (by rw[hX,hp,hnn,hq];exact hsw) (by omega);simp only[d0,hc,put_len,Qa,seval]

include hC hcz in
theorem DQ (cmp:AV){fr:Nat→Ob}{lv s g N a b n:Nat}(P A M B S:List AV){m:Qo}(hlv:lv<m.length)(hAB:A.length=B.length)(he:∀x∈P++A++M++B++S,Ez E cz x)
  (hn:(P++A++M++B++S).length<4611686018427387904) (hN:N=(P++A++M++B++S).length) (ha:a=P.length) (hb:b=P.length+A.length+M.length) (hc:n=A.length) :
  Qg Pg sr [.vec (lv+1) s g 0 N false,.int .i64 (a:Nat),.int .i64 (b:Nat),.int .i64 (n:Nat),cmp] (fr :: Am.put m lv s (.vec g cz (P++A++M++B++S)))
   (fun x m1=>x=.tup []∧m1=fr :: Am.put m lv s (.vec g cz (P++B++M++A++S))):=by
 have _:=hC;have _:=hcz;subst hN ha hb hc;refine(QPB hC hcz cmp (lv+1) s g P A M B S (fr :: Am.put m lv s (.vec g cz (P++A++M++B++S))) (Qz (m:=m) hlv) hAB he hn).mono fun x m1 h=>⟨h.1,?_⟩
 rw[h.2];simp only[Am.put,Wq]

def RoS (cz:Nat)(E:AV→Prop)(m:Qo)(lv s g N mid:Nat)(T:List AV)(cmp:AV)(k:Nat)(st:St):Prop :=
 ∃f P A B S,st=⟨f,[Qc]++Am.put m lv s (.vec g cz (P++A++B++S)),[]⟩∧k=A.length+B.length∧0<A.length∧0<B.length∧P.length+A.length=mid∧P++B++A++S=T∧(P++A++B++S).length=N∧(∀x∈P++A++B++S,Ez E cz x)∧
  f 0=.vec (lv+1) s g 0 N false∧f 2=.int .i64 (mid:Nat)∧f 4=cmp∧f 10=.int .i64 (A.length:Nat)∧f 11=.int .i64 (B.length:Nat)

include hC hcz in
theorem QPC (cmp:AV)(lv s g:Nat)(P X Y S:List AV)(m:Qo)(hl:Am.Qf m lv s=.vec g cz (P++X++Y++S))(hX:0<X.length)(hY:0<Y.length)(he:∀x∈P++X++Y++S,Ez E cz x)
  (hn:(P++X++Y++S).length<4611686018427387904) :
  Qg Pg ro [.vec lv s g 0 (P++X++Y++S).length false,.int .i64 (P.length:Nat),.int .i64 ((P.length+X.length:Nat):Int),.int .i64 ((P.length+X.length+Y.length:Nat):Int),cmp] m
   (fun x m1=>x=.tup []∧m1=Am.put m lv s (.vec g cz (P++Y++X++S))):=by
 have _:=hC;have _:=hcz;have hlv:lv<m.length:=QY (by rw[hl];simp);have hlen:(P++X++Y++S).length=P.length+X.length+Y.length+S.length:=by simp only[QUZ]
 refine hC.cro.go (by simp) ?_;have e1:IntKind.i64.wrap (((P.length+X.length:Nat):Int)-(P.length:Int))=((X.length:Nat):Int):=by rw[QF];omega
 have e2:IntKind.i64.wrap (((P.length+X.length+Y.length:Nat):Int)-((P.length+X.length:Nat):Int))=((Y.length:Nat):Int):=by rw[QF];omega
 simp only[T4,T5,Ad,rro,oro,e1,e2,Qa,seval];have h0:m=Am.put m lv s (.vec g cz (P++X++Y++S)):=(Jx hl).symm;refine Qd (RoS cz E m lv s g (P++X++Y++S).length (P.length+X.length) (P++Y++X++S) cmp.sh) _ ⟨_,P,X,Y,S,by rw[←h0]<;>rfl,rfl,hX,hY,rfl,rfl,rfl,he,by simp only[Qa,seval],by simp only[Qa,seval],by simp only[Qa,seval],by simp only[Qa,seval],by simp only[Qa,seval]⟩ ?_;generalize hT:P++Y++X++S=T;generalize hN:(P++X++Y++S).length=N at *;generalize hmid:P.length+X.length=mid at *;clear hl he h0 hX hY e1 e2;rintro k st ⟨f,P',A,B,S',rfl,rfl,hA,hB,hm,hTT,hNN,hee,f0,f2,f4,f10,f11⟩;have hlen':(P'++A++B++S').length=P'.length+A.length+B.length+S'.length:=by simp only[QUZ]
 simp only[Ac,T6,T7,T8,T9,Aa,Ab,f10,f11,Qa,seval];by_cases hij:A.length=B.length
 ·have d0:((A.length:Int) != (B.length:Int))=false:=by simp;omega
  have e1:IntKind.i64.wrap ((mid:Int)-(A.length:Int))=((P'.length:Nat):Int):=by rw[QF];omega
  simp only[d0,e1,f0,f2,f4,f10,Qa,seval];have hc:=DQ hC hcz cmp.sh (fr:=Qc) (g:=g) (s:=s) (N:=N) (a:=P'.length) (b:=mid) (n:=A.length) P' A [] B S' hlv hij (by simpa using hee) (by simp only[QVp];omega) (by simp only[QVp];omega) rfl (by simp only[QVi];omega) rfl;simp only[QVp]at hc;refine Qj hc rfl ?_;simp only[hTT,put_len,Qa,seval]
 ·have d0:((A.length:Int) != (B.length:Int))=true:=by simp;omega
  simp only[d0,f10,f11,Qa,seval];by_cases hgt:B.length<A.length
  ·have d1:decide ((A.length:Int) > (B.length:Int))=true:=by simp;omega
   have e1:IntKind.i64.wrap ((mid:Int)-(A.length:Int))=((P'.length:Nat):Int):=by rw[QF];omega
   have e2:IntKind.i64.wrap ((A.length:Int)-(B.length:Int))=((A.length-B.length:Nat):Int):=by rw[QF];omega
   simp only[d1,e1,f0,f2,f4,f10,f11,Qa,seval];have hcut:P'++A++B++S'=P'++A.take B.length++A.drop B.length++B++S':=by
    rw[QUI P' (A.take _),QVC]
   have hl1:(A.take B.length).length=B.length:=by simp;omega
   rw[hcut]at hee hNN ⊢;refine Qj (DQ hC hcz cmp.sh (a:=P'.length) (b:=mid) (n:=B.length) P' (A.take B.length) (A.drop B.length) B S' hlv hl1 hee (by omega) hNN.symm rfl (by rw[hl1];simp;omega) hl1.symm) rfl ?_;simp only[e2,f10,f11,Qa,seval];have hcat:P'++B++A.drop B.length++A.take B.length++S'=(P'++B)++A.drop B.length++A.take B.length++S':=rfl;refine⟨(A.drop B.length).length+(A.take B.length).length,?_,_,P'++B,A.drop B.length,A.take B.length,S',rfl,rfl,by simp;omega,by omega,by simp;omega,?_,?_,?_,by simp only[f0,Qa,seval],by simp only[f2,Qa,seval],by simp only[f4,Qa,seval],by simp only[QU2,Qa,seval],by simp only[f11,hl1,Qa,seval]⟩
   ·simp;omega
   ·rw[←hTT];simp only[QUI];rw[←QUI (A.take _),QVC]
   ·rw[←hNN];simp only[QUZ];omega
   ·intro x hx;refine hee x ?_;simp only[QVE]at hx ⊢
    grind
  ·have d1:decide ((A.length:Int) > (B.length:Int))=false:=by simp;omega
   have e1:IntKind.i64.wrap ((mid:Int)-(A.length:Int))=((P'.length:Nat):Int):=by rw[QF];omega
   have e2:IntKind.i64.wrap ((B.length:Int)-(A.length:Int))=((B.length-A.length:Nat):Int):=by rw[QF];omega
   have e3:IntKind.i64.wrap ((mid:Int)+(B.length:Int))=((mid+B.length:Nat):Int):=by rw[QF];omega
   have e4:IntKind.i64.wrap (((mid+B.length:Nat):Int)-(A.length:Int))=((mid+B.length-A.length:Nat):Int):=by rw[QF];omega
   simp only[d1,e1,e3,e4,f0,f2,f4,f10,f11,Qa,seval];have hcut:P'++A++B++S'=P'++A++B.take (B.length-A.length)++B.drop (B.length-A.length)++S':=by
    rw[QUI (P'++A) (B.take _),QVC]
   have hl1:(B.take (B.length-A.length)).length=B.length-A.length:=by simp
   have hl2:(B.drop (B.length-A.length)).length=A.length:=by simp;omega
   rw[hcut]at hee hNN ⊢;refine Qj (DQ hC hcz cmp.sh (a:=P'.length) (b:=mid+B.length-A.length) (n:=A.length) P' A (B.take (B.length-A.length)) (B.drop (B.length-A.length)) S' hlv hl2.symm hee (by omega) hNN.symm rfl (by rw[hl1];omega) rfl) rfl ?_;simp only[e2,f10,f11,Qa,seval];refine⟨(B.drop (B.length-A.length)).length+(B.take (B.length-A.length)).length,?_,_,P',B.drop (B.length-A.length),B.take (B.length-A.length),A++S',by simp only[QUI]<;>rfl,rfl,by omega,by omega,by omega,?_,?_,?_,by simp only[f0,Qa,seval],by simp only[f2,Qa,seval],by simp only[f4,Qa,seval],by simp only[f10,hl2,Qa,seval],by simp only[hl1,Qa,seval]⟩
   ·omega
   ·rw[←hTT];simp only[QUI];rw[←QUI (B.take _),QVC]
   ·rw[←hNN];simp only[QUZ];omega
   ·intro x hx;refine hee x ?_;simp only[QVE]at hx ⊢
    grind

end Go.Proofs.YtdhlbgejhcejcaaGreatDoor.Tz

namespace Go.Proofs.YtdhlbgejhcejcaaGreatDoor.Tz
open Go Am Bt Tg So
variable {Pg:Program}{cz sr ro sm is st ss:Nat}(hC:Tg.Cs Pg cz sr ro sm is st ss)(hcz:cz≠0)

variable {E:AV→Prop}

def lt (c:AV→AV→Int)(x y:AV):Bool:=decide (c x y<0)

structure Cp (Pg:Program)(cz:Nat)(E:AV→Prop)(kc:Nat)(c:AV→AV→Int):Prop where
 call:∀x y,Ez E cz x→Ez E cz y→Qk Pg kc [x,y] (.int .i64 (c x y))
 sw:SW (lt c)

def InS (cz:Nat)(m:Qo)(lv s g N i p:Nat)(kc:Nat)(c:AV→AV→Int)(P L S:List AV)(x:AV)(k:Nat)(st:St):Prop :=
 ∃f U V,st=⟨f,[Qc]++Am.put m lv s (.vec g cz (P++U++[x]++V++S)),[]⟩∧k=U.length∧U++V=L∧(∀v∈V,lt c x v=true)∧
  f 0=.vec (lv+1) s g 0 N false∧f 1=.int .i64 (P.length:Nat)∧f 2=.int .i64 (p:Nat)∧f 3=.fn (.func kc) [] []∧f 8=.int .i64 (i:Nat)∧f 9=.int .i64 ((P.length+U.length:Nat):Int)

def IoS (cz:Nat)(m:Qo)(lv s g N:Nat)(kc:Nat)(c:AV→AV→Int)(P X S:List AV)(k:Nat)(st:St):Prop :=
 ∃f i,st=⟨f,[Qc]++Am.put m lv s (.vec g cz (P++QC (lt c) (X.take i)++X.drop i++S)),[]⟩∧k=X.length+1-i∧1≤i∧(i≤X.length∨(i=1∧X=[]))∧
  f 0=.vec (lv+1) s g 0 N false∧f 1=.int .i64 (P.length:Nat)∧f 2=.int .i64 ((P.length+X.length:Nat):Int)∧f 3=.fn (.func kc) [] []∧f 8=.int .i64 ((P.length+i:Nat):Int)

theorem CX {α:Type}(U:List α)(h:0<U.length):∃W u,U=W++[u]:=by
 rcases List.eq_nil_or_concat U with rfl|⟨W,u,e⟩
 ·simp at h
 ·exact⟨W,u,by simpa using e⟩

theorem UQ {α:Type}{P W V:List α}{u:α}{i:Nat}(h:i=P.length+W.length):(P++(W++[u])++V)[i]? = some u:=by
 subst h;simp

include hC hcz in
theorem QPD {kc:Nat}{c:AV→AV→Int}(hc:Cp Pg cz E kc c)(lv s g:Nat)(P X S:List AV)(m:Qo)(hl:Am.Qf m lv s=.vec g cz (P++X++S))(he:∀x∈P++X++S,Ez E cz x)
  (hn:(P++X++S).length<4611686018427387904) :
  Qg Pg is [.vec lv s g 0 (P++X++S).length false,.int .i64 (P.length:Nat),.int .i64 ((P.length+X.length:Nat):Int),.fn (.func kc) [] []] m
   (fun x m1=>x=.tup []∧m1=Am.put m lv s (.vec g cz (P++QC (lt c) X++S))):=by
 have _:=hC;have _:=hcz;have hlv:lv<m.length:=QY (by rw[hl];simp);have hlen:(P++X++S).length=P.length+X.length+S.length:=by simp only[QUZ]
 refine hC.cis.go (by simp) ?_;have e1:IntKind.i64.wrap ((P.length:Int)+1)=((P.length+1:Nat):Int):=by rw[QF];omega
 simp only[Ao,ris,ois,e1,Qa,seval];have h0:m=Am.put m lv s (.vec g cz (P++QC (lt c) (X.take 1)++X.drop 1++S)):=by
  have:P++QC (lt c) (X.take 1)++X.drop 1++S=P++X++S:=by
   cases X with
   |nil=>simp[QC]
   |cons x X=>simp[QC,ZI]
  rw[this];exact(Jx hl).symm
 generalize hN:(P++X++S).length=N at *;refine Qd (IoS cz m lv s g N kc c P X S) _ ⟨_,1,by rw[←h0]<;>rfl,rfl,QUm _,by
  cases X with
  |nil=>exact .inr ⟨rfl,rfl⟩
  |cons x X=>exact .inl (by simp),by simp only[Qa,seval],by simp only[Qa,seval],by simp only[Qa,seval],by simp only[Qa,seval],by simp only[Qa,seval]⟩ ?_
 clear h0 e1;rintro k st ⟨f,i,rfl,rfl,hi1,hi2,f0,f1,f2,f3,f8⟩;simp only[Av,Ax,Ap,Aq,Ar,As,Au,Aw,f2,f8,Qa,seval];by_cases hlt:i<X.length
 ·have d0:decide (((P.length+i:Nat):Int)<((P.length+X.length:Nat):Int))=true:=by simp only[QUs];omega
  simp only[d0,f8,Qa,seval];obtain⟨x,hx⟩:∃x,X[i]? = some x:=⟨_,QUo hlt⟩;have ex:Ez E cz x:=he x (by simp[QUA hx]);have hL:(QC (lt c) (X.take i)).length=i:=by rw[Ju,QVj];omega
  have heL:∀z∈QC (lt c) (X.take i),Ez E cz z:=fun z hz=>he z (by simp[QVa (UL hz)])
  have hdrop:X.drop i=[x]++X.drop (i+1):=by
   rw[List.singleton_append,QU5 hlt];congr 1
   exact(QUn.1 hx).2
  have htake:QC (lt c) (X.take (i+1))=mg (lt c) (QC (lt c) (X.take i)) [x]:=by
   rw[QV6,hx,QV7,←WF hc.sw]<;>rfl
  refine Qd (InS cz m lv s g N (P.length+i) (P.length+X.length) kc c P (QC (lt c) (X.take i)) (X.drop (i+1)++S) x) _ ⟨_,QC (lt c) (X.take i),[],by rw[hdrop];simp only[QUI,QVp]<;>rfl,rfl,QVp _,by simp,by simp only[f0,Qa,seval],by simp only[f1,Qa,seval],by simp only[f2,Qa,seval],by simp only[f3,Qa,seval],by simp only[f8,Qa,seval],by simp only[hL,Qa,seval]⟩ ?_;rintro k' st ⟨f,U,V,rfl,rfl,hUV,hV,f0,f1,f2,f3,f8,f9⟩;have hUVl:U.length+V.length=i:=by rw[←QUZ,hUV,hL]
  have hrow:(P++U++[x]++V++(X.drop (i+1)++S)).length=N:=by
   rw[←hN];simp only[QUZ,QU2,QVR];omega
  simp only[f1,f9,Qa,seval];have e4:IntKind.i64.wrap (((P.length+i:Nat):Int)+1)=((P.length+(i+1):Nat):Int):=by rw[QF];omega
  have fin:(∀u∈U,lt c x u=false)→P++U++[x]++V++(X.drop (i+1)++S)=P++QC (lt c) (X.take (i+1))++X.drop (i+1)++S:=by
   intro h;rw[htake,←hUV,YZ h hV];simp
  by_cases hU:0<U.length
  ·obtain⟨W,u,rfl⟩:=CX U hU;simp only[QUZ,QVR]at hUVl hrow f9;have d1:decide (((P.length+(W.length+1):Nat):Int) > (P.length:Int))=true:=by simp only[QUs];omega
   have e2:IntKind.i64.wrap (((P.length+(W.length+1):Nat):Int)-1)=((P.length+W.length:Nat):Int):=by rw[QF];omega
   have eu:Ez E cz u:=heL u (by rw[←hUV];simp);have hx1:(P++(W++[u])++[x]++V++(X.drop (i+1)++S))[P.length+(W.length+1)]? = some x:=by
    have:=UQ (P:=P) (W:=W++[u]) (u:=x) (V:=V++(X.drop (i+1)++S)) (i:=P.length+(W.length+1)) (by simp)
    simpa only [QUI]using this
   have hu1:(P++(W++[u])++[x]++V++(X.drop (i+1)++S))[P.length+W.length]? = some u:=by
    have:=UQ (P:=P) (W:=W) (u:=u) (V:=[x]++V++(X.drop (i+1)++S)) (i:=P.length+W.length) rfl
    simpa only [QUI]using this
   simp only[d1,e2,f0,f3,f9,QUZ,K7 hlv (show P.length+(W.length+1)<N by omega),K7 hlv (show P.length+W.length<N by omega),K6 hlv hx1 ex,K6 hlv hu1 eu,Qa,seval];refine Wi (by simp only[Qa,seval]) (hc.call x u ex eu) (Yd ex eu _) (KW ex eu) rfl (.inl (KW ex eu)) ?_;cases hcx:decide (c x u<0)with
   |true=>
    have hset:((P++(W++[u])++[x]++V++(X.drop (i+1)++S)).set (P.length+(W.length+1)) u).set (P.length+W.length) x=P++W++[x]++([u]++V)++(X.drop (i+1)++S):=by
     simp[QUI]
    have hx2:((P++(W++[u])++[x]++V++(X.drop (i+1)++S)).set (P.length+(W.length+1)) u)[P.length+W.length]? = some u:=by
     rw[QWo (by omega),hu1]
    simp only[hcx,e2,f0,f9,K7 hlv (show P.length+(W.length+1)<N by omega),K7 hlv (show P.length+W.length<N by omega),K6 hlv hx1 ex,K6 hlv hu1 eu,ex.len,eu.len,ex.leaf,eu.leaf,UP hlv hx1 ex eu hcz,UP hlv hx2 eu ex hcz,Qa,seval];exact⟨W.length,by simp,_,W,[u]++V,by rw[hset]<;>rfl,rfl,by rw[←hUV];simp,by
     intro v hv;rcases QVE.1 hv with hv|hv
     ·rw[QWs.1 hv];exact hcx
     ·exact hV v hv,by simp only[f0,Qa,seval],by simp only[f1,Qa,seval],by simp only[f2,Qa,seval],by simp only[f3,Qa,seval],by simp only[f8,Qa,seval],by simp only[Qa,seval]⟩
   |false=>
    have hz:∀z∈W++[u],lt c x z=false:=by
     have hsrt:=X6 hc.sw (X.take i);have hsrt:Zc (lt c) ((W++[u])++V):=by rw[hUV];exact hsrt
     have hs2:=(List.pairwise_append.1 (List.pairwise_append.1 hsrt).1).2.2;intro z hz;rcases QVE.1 hz with hz|hz
     ·exact hc.sw.nt x u z hcx (hs2 z hz u (by simp))
     ·rw[QWs.1 hz];exact hcx
    simp only[hcx,f8,e4,Qa,seval];exact⟨X.length+1-(i+1),by omega,_,i+1,by rw[fin hz]<;>rfl,rfl,by omega,.inl (by omega),by simp only[f0,Qa,seval],by simp only[f1,Qa,seval],by simp only[f2,Qa,seval],by simp only[f3,Qa,seval],by simp only[Qa,seval]⟩
  ·have hU0:U=[]:=QVq (by omega);subst hU0;have d1:decide (((P.length+0:Nat):Int) > (P.length:Int))=false:=by simp
   have fin0:=fin (by simp);simp only[QVp]at fin0;simp only[QVi]at f9;simp only[d1,f8,e4,QVi,Qa,seval];exact⟨X.length+1-(i+1),by omega,_,i+1,by rw[fin0]<;>rfl,rfl,by omega,.inl (by omega),by simp only[f0,Qa,seval],by simp only[f1,Qa,seval],by simp only[f2,Qa,seval],by simp only[f3,Qa,seval],by simp only[Qa,seval]⟩
 ·have d0:decide (((P.length+i:Nat):Int)<((P.length+X.length:Nat):Int))=false:=by simp only[QWj];omega
  have hX:QC (lt c) (X.take i)++X.drop i=QC (lt c) X:=by
   rcases hi2 with h|⟨_,rfl⟩
   ·rw[QUV (by omega),QUY (by omega),QVp]
   ·simp[QC]
  have hX2:P++QC (lt c) (X.take i)++X.drop i++S=P++QC (lt c) X++S:=by rw[QUI P (QC (lt c) (X.take i)) (X.drop i),hX]
  simp only[d0,hX2,put_len,Qa,seval]

end Go.Proofs.YtdhlbgejhcejcaaGreatDoor.Tz

namespace Go.Proofs.YtdhlbgejhcejcaaGreatDoor.Tz
open Go Am Bt Tg So
variable {Pg:Program}{cz sr ro sm is st ss:Nat}(hC:Tg.Cs Pg cz sr ro sm is st ss)(hcz:cz≠0)

variable {E:AV→Prop}

theorem CY (a b:Nat)(h:a+b<9223372036854775808):IntKind.i64.wrap ((IntKind.u64.wrap ((a+b:Nat):Int)).fdiv (2 ^ min 1 64))=(((a+b) / 2:Nat):Int):=by
 rw[QF,Wz,show min 1 64=1 from rfl,show(2:Int) ^ 1=2 from rfl];have:(((a+b:Nat):Int) % 18446744073709551616)=((a+b:Nat):Int):=by omega
 rw[this,QWz _ (by omega)];omega

def SaS (cz:Nat)(m:Qo)(lv s g N:Nat)(kc:Nat)(c:AV→AV→Int)(P Y S:List AV)(x:AV)(k:Nat)(st:St):Prop :=
 ∃f i j,st=⟨f,[Qc]++Am.put m lv s (.vec g cz (P++[x]++Y++S)),[]⟩∧k=j-i∧i≤j∧j≤Y.length∧(∀k y,k<i→Y[k]? = some y→lt c y x=true)∧(∀k y,j≤k→Y[k]? = some y→lt c y x=false)∧
  f 0=.vec (lv+1) s g 0 N false∧f 1=.int .i64 (P.length:Nat)∧f 4=.fn (.func kc) [] []∧f 10=.int .i64 ((P.length+1+i:Nat):Int)∧f 11=.int .i64 ((P.length+1+j:Nat):Int)

def SaT (cz:Nat)(m:Qo)(lv s g N i:Nat)(P Y S:List AV)(x:AV)(k:Nat)(st:St):Prop :=
 ∃f t,st=⟨f,[Qc]++Am.put m lv s (.vec g cz (P++Y.take t++[x]++Y.drop t++S)),[]⟩∧k=i-t∧t≤i∧
  f 0=.vec (lv+1) s g 0 N false∧f 10=.int .i64 ((P.length+1+i:Nat):Int)∧f 13=.int .i64 ((P.length+t:Nat):Int)

include hC hcz in
theorem QPE {kc:Nat}{c:AV→AV→Int}(hc:Cp Pg cz E kc c)(lv s g:Nat)(P:List AV)(x:AV)(Y S:List AV)(m:Qo)(hl:Am.Qf m lv s=.vec g cz (P++[x]++Y++S))(he:∀z∈P++[x]++Y++S,Ez E cz z)
  (hn:(P++[x]++Y++S).length<4611686018427387904) (hY:Zc (lt c) Y) :
  Qg Pg sm [.vec lv s g 0 (P++[x]++Y++S).length false,.int .i64 (P.length:Nat),.int .i64 ((P.length+1:Nat):Int),.int .i64 ((P.length+1+Y.length:Nat):Int),.fn (.func kc) [] []] m
   (fun v m1=>v=.tup []∧m1=Am.put m lv s (.vec g cz (P++mg (lt c) [x] Y++S))):=by
 have _:=hC;have _:=hcz;have hlv:lv<m.length:=QY (by rw[hl];simp);have hlen:(P++[x]++Y++S).length=P.length+1+Y.length+S.length:=by simp only[QUZ,QVR]
 have ex:Ez E cz x:=he x (by simp);have eY:∀y∈Y,Ez E cz y:=fun y hy=>he y (by simp[hy])
 refine hC.csm.go (by simp) ?_;have e1:IntKind.i64.wrap (((P.length+1:Nat):Int)-(P.length:Int))=1:=by rw[QF];omega
 simp only[FH,CR,CS,CU,G0,B8,B9,Ng,G3,G4,G5,G6,G7,G8,G9,Da,Db,YA,YB,YC,WL,WM,Kj,Kk,An,Di,e1,QVv,Qa,seval];have h0:m=Am.put m lv s (.vec g cz (P++[x]++Y++S)):=(Jx hl).symm;generalize hN:(P++[x]++Y++S).length=N at *;refine Qd (SaS cz m lv s g N kc c P Y S x) _ ⟨_,0,Y.length,by rw[←h0]<;>rfl,rfl,QUv _,QUm _,(by intro k y hk;exact absurd hk (Nat.not_lt_zero _)),(by intro k y hk hy;rw[QVK hk]at hy;cases hy),by simp only[Qa,seval],by simp only[Qa,seval],by simp only[Qa,seval],by simp only[QUS,Qa,seval],by simp only[Qa,seval]⟩ ?_;clear h0 e1;rintro k st ⟨f,i,j,rfl,rfl,hij,hj,hp,hq,f0,f1,f4,f10,f11⟩;simp only[Aj,Al,CV,CW,Dh,Ae,Af,Ag,Ah,Ai,Ak,P1,P2,Na,Nb,Nc,Nd,Nf,Nh,Ni,Nj,Dc,Dd,De,Df,Dg,f10,f11,Qa,seval];by_cases hlt:i<j
 ·have d0:decide (((P.length+1+i:Nat):Int)<((P.length+1+j:Nat):Int))=true:=by simp only[QUs];omega
  have e2:IntKind.i64.wrap (((P.length+1+i:Nat):Int)+((P.length+1+j:Nat):Int))=(((P.length+1+i)+(P.length+1+j):Nat):Int):=by rw[QF];omega
  have e3:=CY (P.length+1+i) (P.length+1+j) (by omega);have e4:((P.length+1+i)+(P.length+1+j)) / 2=P.length+1+(i+j) / 2:=by omega
  rw[e4]at e3;generalize hh:(i+j) / 2=h at *;have hh1:h<j:=by omega
  have hh2:i≤h:=by omega
  have e5:IntKind.i64.wrap (((P.length+1+h:Nat):Int)+1)=((P.length+1+(h+1):Nat):Int):=by rw[QF];omega
  obtain⟨y,hy⟩:∃y,Y[h]? = some y:=⟨_,QUo (by omega)⟩;have ey:=eY y (QUA hy);have gy:(P++[x]++Y++S)[P.length+1+h]? = some y:=by
   rw[QVL (by simp only[QUZ,QVR];omega),QVM (by simp only[QUZ,QVR];omega)];rw[←hy];congr 1;simp only[QUZ,QVR];omega
  have gx:(P++[x]++Y++S)[P.length]? = some x:=by
   have:=UQ (P:=P) (W:=[]) (u:=x) (V:=Y++S) (i:=P.length) rfl
   simpa only [QUI,QUK]using this
  simp only[d0,e2,e3,f0,f1,f4,f10,f11,K7 hlv (show P.length+1+h<N by omega),K7 hlv (show P.length<N by omega),K6 hlv gy ey,K6 hlv gx ex,Qa,seval];refine Wi (by simp only[Qa,seval]) (hc.call y x ey ex) (Yd ey ex _) (KW ey ex) rfl (.inl (KW ey ex)) ?_;cases hcx:decide (c y x<0)with
  |true=>
   simp only[hcx,e5,Qa,seval];exact⟨j-(h+1),by omega,_,h+1,j,rfl,rfl,by omega,hj,fun k z hk hz=>KF hc.sw hY (Nat.le_of_lt_succ hk) hz hy hcx,hq,by simp only[f0,Qa,seval],by simp only[f1,Qa,seval],by simp only[f4,Qa,seval],by simp only[Qa,seval],by simp only[f11,Qa,seval]⟩
  |false=>
   simp only[hcx,Qa,seval];exact⟨h-i,by omega,_,i,h,rfl,rfl,by omega,by omega,hp,fun k z hk hz=>by
    cases hb:lt c z x with
    |false=>rfl
    |true=>exact absurd (KF hc.sw hY hk hy hz hb) (by show ¬(decide _=true);rw[hcx];simp),by simp only[f0,Qa,seval],by simp only[f1,Qa,seval],by simp only[f4,Qa,seval],by simp only[f10,Qa,seval],by simp only[Qa,seval]⟩
 ·have d0:decide (((P.length+1+i:Nat):Int)<((P.length+1+j:Nat):Int))=false:=by simp only[QWj];omega
  have hij':j=i:=by omega
  subst hij';simp only[d0,f1,Qa,seval];have hres:mg (lt c) [x] Y=Y.take j++x :: Y.drop j:=by
   have:=Qav (lt:=lt c) (x:=x) (Y1:=Y.take j) (Y2:=Y.drop j) (fun y hy=>by
    obtain⟨k,hk⟩:=QWA hy;rw[QU0]at hk;split at hk
    ·rename_i h;exact hp k y h hk
    ·cases hk) (fun y hy=>by
    obtain⟨k,hk⟩:=QWA hy;rw[QU1]at hk;exact hq _ y (by omega) hk)
   rwa [QVC]at this
  refine Qd (SaT cz m lv s g N j P Y S x) _ ⟨_,0,by rw[show P++Y.take 0++[x]++Y.drop 0++S=P++[x]++Y++S by simp]<;>rfl,rfl,QUv _,by simp only[f0,Qa,seval],by simp only[f10,Qa,seval],by simp only[QUS,Qa,seval]⟩ ?_;clear f0 f1 f4 f10 f11 d0 hp hq f;rintro k st ⟨f,t,rfl,rfl,ht,f0,f10,f13⟩;have e6:IntKind.i64.wrap (((P.length+1+j:Nat):Int)-1)=((P.length+j:Nat):Int):=by rw[QF];omega
  have e7:IntKind.i64.wrap (((P.length+t:Nat):Int)+1)=((P.length+(t+1):Nat):Int):=by rw[QF];omega
  simp only[e6,f10,f13,Qa,seval];by_cases hlt:t<j
  ·have d0:decide (((P.length+t:Nat):Int)<((P.length+j:Nat):Int))=true:=by simp only[QUs];omega
   obtain⟨y,hy⟩:∃y,Y[t]? = some y:=⟨_,QUo (by omega)⟩;have ey:=eY y (QUA hy);have hdrop:Y.drop t=[y]++Y.drop (t+1):=by
    rw[List.singleton_append,QU5 (by omega)];congr 1
    exact(QUn.1 hy).2
   have htake:Y.take (t+1)=Y.take t++[y]:=by rw[QV6,hy]<;>rfl
   have hlt':(Y.take t).length=t:=by rw[QVj];omega
   have g1:(P++Y.take t++[x]++Y.drop t++S)[P.length+t]? = some x:=by
    have:=UQ (P:=P) (W:=Y.take t) (u:=x) (V:=Y.drop t++S) (i:=P.length+t) (by rw[hlt'])
    simpa only [QUI]using this
   have g2:(P++Y.take t++[x]++Y.drop t++S)[P.length+(t+1)]? = some y:=by
    have:=UQ (P:=P) (W:=Y.take t++[x]) (u:=y) (V:=Y.drop (t+1)++S) (i:=P.length+(t+1)) (by rw[QUZ,hlt']<;>rfl);rw[hdrop]
    simpa only [QUI]using this
   have g3:((P++Y.take t++[x]++Y.drop t++S).set (P.length+t) y)[P.length+(t+1)]? = some y:=by
    rw[QWo (by omega),g2]
   have hset:((P++Y.take t++[x]++Y.drop t++S).set (P.length+t) y).set (P.length+(t+1)) x=P++Y.take (t+1)++[x]++Y.drop (t+1)++S:=by
    rw[hdrop,htake];simp[hlt']
   simp only[d0,e7,f0,f13,K7 hlv (show P.length+(t+1)<N by omega),K7 hlv (show P.length+t<N by omega),K6 hlv g1 ex,K6 hlv g2 ey,ex.len,ey.len,ex.leaf,ey.leaf,UP hlv g1 ex ey hcz,UP hlv g3 ey ex hcz,Qa,seval];exact⟨j-(t+1),by omega,_,t+1,by rw[hset]<;>rfl,rfl,by omega,by simp only[f0,Qa,seval],by simp only[f10,Qa,seval],by simp only[Qa,seval]⟩
  ·have d0:decide (((P.length+t:Nat):Int)<((P.length+j:Nat):Int))=false:=by simp only[QWj];omega
   have htj:t=j:=by omega
   subst htj;have hfin:P++Y.take t++[x]++Y.drop t++S=P++mg (lt c) [x] Y++S:=by rw[hres];simp
   simp only[d0,hfin,put_len,Qa,seval]

end Go.Proofs.YtdhlbgejhcejcaaGreatDoor.Tz

namespace Go.Proofs.YtdhlbgejhcejcaaGreatDoor.Tz
open Go Am Bt Tg So
variable {Pg:Program}{cz sr ro sm is st ss:Nat}(hC:Tg.Cs Pg cz sr ro sm is st ss)(hcz:cz≠0)

variable {E:AV→Prop}

def SbS (cz:Nat)(m:Qo)(lv s g N:Nat)(kc:Nat)(c:AV→AV→Int)(P X S:List AV)(y:AV)(k:Nat)(st:St):Prop :=
 ∃f i j,st=⟨f,[Qc]++Am.put m lv s (.vec g cz (P++X++[y]++S)),[]⟩∧k=j-i∧i≤j∧j≤X.length∧(∀k x,k<i→X[k]? = some x→lt c y x=false)∧(∀k x,j≤k→X[k]? = some x→lt c y x=true)∧
  f 0=.vec (lv+1) s g 0 N false∧f 2=.int .i64 ((P.length+X.length:Nat):Int)∧f 4=.fn (.func kc) [] []∧f 14=.int .i64 ((P.length+i:Nat):Int)∧f 15=.int .i64 ((P.length+j:Nat):Int)

def SbT (cz:Nat)(m:Qo)(lv s g N i:Nat)(P X S:List AV)(y:AV)(k:Nat)(st:St):Prop :=
 ∃f t,st=⟨f,[Qc]++Am.put m lv s (.vec g cz (P++X.take t++[y]++X.drop t++S)),[]⟩∧k=t-i∧i≤t∧t≤X.length∧
  f 0=.vec (lv+1) s g 0 N false∧f 14=.int .i64 ((P.length+i:Nat):Int)∧f 17=.int .i64 ((P.length+t:Nat):Int)

include hC hcz in
theorem QPF {kc:Nat}{c:AV→AV→Int}(hc:Cp Pg cz E kc c)(lv s g:Nat)(P X:List AV)(y:AV)(S:List AV)(m:Qo)(hl:Am.Qf m lv s=.vec g cz (P++X++[y]++S))(he:∀x∈P++X++[y]++S,Ez E cz x)
  (hn:(P++X++[y]++S).length<4611686018427387904) (hX:Zc (lt c) X) (hX1:X.length≠1) :
  Qg Pg sm [.vec lv s g 0 (P++X++[y]++S).length false,.int .i64 (P.length:Nat),.int .i64 ((P.length+X.length:Nat):Int),.int .i64 ((P.length+X.length+1:Nat):Int),.fn (.func kc) [] []] m
   (fun v m1=>v=.tup []∧m1=Am.put m lv s (.vec g cz (P++mg (lt c) X [y]++S))):=by
 have _:=hC;have _:=hcz;have hlv:lv<m.length:=QY (by rw[hl];simp);have hlen:(P++X++[y]++S).length=P.length+X.length+1+S.length:=by simp only[QUZ,QVR]
 have ey:Ez E cz y:=he y (by simp);have eX:∀x∈X,Ez E cz x:=fun x hx=>he x (by simp[hx])
 refine hC.csm.go (by simp) ?_;have e1:(IntKind.i64.wrap (((P.length+X.length:Nat):Int)-(P.length:Int))==1)=false:=by rw[QF];simp only[QV4,ne_eq];omega
 have e2:(IntKind.i64.wrap (((P.length+X.length+1:Nat):Int)-((P.length+X.length:Nat):Int))==1)=true:=by rw[QF];simp only[QUt];omega
 simp only[FH,CR,CS,CU,G0,B8,B9,Ng,G3,G4,G5,G6,G7,G8,G9,Da,Db,YA,YB,YC,WL,WM,Kj,Kk,An,Di,e1,e2,Qa,seval];have h0:m=Am.put m lv s (.vec g cz (P++X++[y]++S)):=(Jx hl).symm;generalize hN:(P++X++[y]++S).length=N at *;refine Qd (SbS cz m lv s g N kc c P X S y) _ ⟨_,0,X.length,by rw[←h0]<;>rfl,rfl,QUv _,QUm _,(by intro k y hk;exact absurd hk (Nat.not_lt_zero _)),(by intro k y hk hy;rw[QVK hk]at hy;cases hy),by simp only[Qa,seval],by simp only[Qa,seval],by simp only[Qa,seval],by simp only[QUS,Qa,seval],by simp only[Qa,seval]⟩ ?_;clear h0 e1 e2;rintro k st ⟨f,i,j,rfl,rfl,hij,hj,hp,hq,f0,f2,f4,f14,f15⟩;simp only[CV,CW,Dh,Na,Nb,Nc,Nd,Nf,Nh,Ni,Nj,Dc,Dd,De,Df,Dg,f14,f15,Qa,seval];by_cases hlt:i<j
 ·have d0:decide (((P.length+i:Nat):Int)<((P.length+j:Nat):Int))=true:=by simp only[QUs];omega
  have e2:IntKind.i64.wrap (((P.length+i:Nat):Int)+((P.length+j:Nat):Int))=(((P.length+i)+(P.length+j):Nat):Int):=by rw[QF];omega
  have e3:=CY (P.length+i) (P.length+j) (by omega);have e4:((P.length+i)+(P.length+j)) / 2=P.length+(i+j) / 2:=by omega
  rw[e4]at e3;generalize hh:(i+j) / 2=h at *;have hh1:h<j:=by omega
  have hh2:i≤h:=by omega
  have e5:IntKind.i64.wrap (((P.length+h:Nat):Int)+1)=((P.length+(h+1):Nat):Int):=by rw[QF];omega
  obtain⟨x,hx⟩:∃x,X[h]? = some x:=⟨_,QUo (by omega)⟩;have ex:=eX x (QUA hx);have gx:(P++X++[y]++S)[P.length+h]? = some x:=by
   rw[QUI,QUI,QVM (by omega),QVL (by omega),←hx];congr 1;omega
  have gy:(P++X++[y]++S)[P.length+X.length]? = some y:=by
   have:=UQ (P:=P) (W:=X) (u:=y) (V:=S) (i:=P.length+X.length) rfl
   simpa only [QUI]using this
  simp only[d0,e2,e3,f0,f2,f4,f14,f15,K7 hlv (show P.length+h<N by omega),K7 hlv (show P.length+X.length<N by omega),K6 hlv gy ey,K6 hlv gx ex,Qa,seval];refine Wi (by simp only[Qa,seval]) (hc.call y x ey ex) (Yd ey ex _) (KW ey ex) rfl (.inl (KW ey ex)) ?_;cases hcx:decide (c y x<0)with
  |true=>
   simp only[hcx,Qa,seval];exact⟨h-i,by omega,_,i,h,rfl,rfl,by omega,by omega,hp,fun k z hk hz=>by
    have:=KV hX hc.sw hk hx hz;cases hb:lt c y z with
    |true=>rfl
    |false=>exact absurd (hc.sw.nt y z x hb this) (by show ¬(decide _=false);rw[hcx];simp),by simp only[f0,Qa,seval],by simp only[f2,Qa,seval],by simp only[f4,Qa,seval],by simp only[f14,Qa,seval],by simp only[Qa,seval]⟩
  |false=>
   simp only[hcx,e5,Qa,seval];exact⟨j-(h+1),by omega,_,h+1,j,rfl,rfl,by omega,hj,fun k z hk hz=>hc.sw.nt y x z hcx (KV hX hc.sw (Nat.le_of_lt_succ hk) hz hx),hq,by simp only[f0,Qa,seval],by simp only[f2,Qa,seval],by simp only[f4,Qa,seval],by simp only[Qa,seval],by simp only[f15,Qa,seval]⟩
 ·have d0:decide (((P.length+i:Nat):Int)<((P.length+j:Nat):Int))=false:=by simp only[QWj];omega
  have hij':j=i:=by omega
  subst hij';simp only[d0,f2,Qa,seval];have hres:mg (lt c) X [y]=X.take j++y :: X.drop j:=by
   have:=YZ (lt:=lt c) (y:=y) (X1:=X.take j) (X2:=X.drop j) (fun x hx=>by
    obtain⟨k,hk⟩:=QWA hx;rw[QU0]at hk;split at hk
    ·rename_i h;exact hp k x h hk
    ·cases hk) (fun x hx=>by
    obtain⟨k,hk⟩:=QWA hx;rw[QU1]at hk;exact hq _ x (by omega) hk)
   rwa [QVC]at this
  refine Qd (SbT cz m lv s g N j P X S y) _ ⟨_,X.length,by rw[show P++X.take X.length++[y]++X.drop X.length++S=P++X++[y]++S by simp]<;>rfl,rfl,hj,QUm _,by simp only[f0,Qa,seval],by simp only[f14,Qa,seval],by simp only[Qa,seval]⟩ ?_;clear f0 f2 f4 f14 f15 d0 hp hq f;rintro k st ⟨f,t,rfl,rfl,ht,htl,f0,f14,f17⟩;simp only[f14,f17,Qa,seval];by_cases hlt:j<t
  ·have d0:decide (((P.length+t:Nat):Int) > ((P.length+j:Nat):Int))=true:=by simp only[QUs];omega
   obtain⟨r,rfl⟩:∃r,t=r+1:=⟨t-1,by omega⟩;have e7:IntKind.i64.wrap (((P.length+(r+1):Nat):Int)-1)=((P.length+r:Nat):Int):=by rw[QF];omega
   obtain⟨x,hx⟩:∃x,X[r]? = some x:=⟨_,QUo (by omega)⟩;have ex:=eX x (QUA hx);have hdrop:X.drop r=[x]++X.drop (r+1):=by
    rw[List.singleton_append,QU5 (by omega)];congr 1
    exact(QUn.1 hx).2
   have htake:X.take (r+1)=X.take r++[x]:=by rw[QV6,hx]<;>rfl
   have hlt':(X.take r).length=r:=by rw[QVj];omega
   have g1:(P++X.take (r+1)++[y]++X.drop (r+1)++S)[P.length+r]? = some x:=by
    have:=UQ (P:=P) (W:=X.take r) (u:=x) (V:=[y]++X.drop (r+1)++S) (i:=P.length+r) (by rw[hlt']);rw[htake]
    simpa only [QUI]using this
   have g2:(P++X.take (r+1)++[y]++X.drop (r+1)++S)[P.length+(r+1)]? = some y:=by
    have:=UQ (P:=P) (W:=X.take (r+1)) (u:=y) (V:=X.drop (r+1)++S) (i:=P.length+(r+1)) (by rw[QVj];omega)
    simpa only [QUI]using this
   have g3:((P++X.take (r+1)++[y]++X.drop (r+1)++S).set (P.length+(r+1)) x)[P.length+r]? = some x:=by
    rw[QWo (by omega),g1]
   have hset:((P++X.take (r+1)++[y]++X.drop (r+1)++S).set (P.length+(r+1)) x).set (P.length+r) y=P++X.take r++[y]++X.drop r++S:=by
    rw[hdrop,htake];simp[hlt']
   simp only[d0,e7,f0,f17,K7 hlv (show P.length+(r+1)<N by omega),K7 hlv (show P.length+r<N by omega),K6 hlv g1 ex,K6 hlv g2 ey,ex.len,ey.len,ex.leaf,ey.leaf,UP hlv g2 ey ex hcz,UP hlv g3 ex ey hcz,Qa,seval];exact⟨r-j,by omega,_,r,by rw[hset]<;>rfl,rfl,by omega,by omega,by simp only[f0,Qa,seval],by simp only[f14,Qa,seval],by simp only[Qa,seval]⟩
  ·have d0:decide (((P.length+t:Nat):Int) > ((P.length+j:Nat):Int))=false:=by simp only[QWj];omega
   have htj:t=j:=by omega
   subst htj;have hfin:P++X.take t++[y]++X.drop t++S=P++mg (lt c) X [y]++S:=by rw[hres];simp
   simp only[d0,hfin,put_len,Qa,seval]

end Go.Proofs.YtdhlbgejhcejcaaGreatDoor.Tz

namespace Go.Proofs.YtdhlbgejhcejcaaGreatDoor.Tz
open Go Am Bt Tg So
variable {Pg:Program}{cz sr ro sm is st ss:Nat}(hC:Tg.Cs Pg cz sr ro sm is st ss)(hcz:cz≠0)

variable {E:AV→Prop}

include hC hcz in
theorem QaD (cmp:AV){fr:Nat→Ob}{lv s g N a b n:Nat}(P X Y S:List AV){m:Qo}(hlv:lv<m.length)(hX:0<X.length)(hY:0<Y.length)(he:∀x∈P++X++Y++S,Ez E cz x)
  (hn:(P++X++Y++S).length<4611686018427387904) (hN:N=(P++X++Y++S).length) (ha:a=P.length) (hb:b=P.length+X.length) (hc:n=P.length+X.length+Y.length) :
  Qg Pg ro [.vec (lv+1) s g 0 N false,.int .i64 (a:Nat),.int .i64 (b:Nat),.int .i64 (n:Nat),cmp] (fr :: Am.put m lv s (.vec g cz (P++X++Y++S)))
   (fun x m1=>x=.tup []∧m1=fr :: Am.put m lv s (.vec g cz (P++Y++X++S))):=by
 have _:=hC;have _:=hcz;subst hN ha hb hc;refine(QPC hC hcz cmp (lv+1) s g P X Y S (fr :: Am.put m lv s (.vec g cz (P++X++Y++S))) (Qz (m:=m) hlv) hX hY he hn).mono fun x m1 h=>⟨h.1,?_⟩
 rw[h.2];simp only[Am.put,Wq]

def Hd (Pg:Program)(cz sm:Nat)(E:AV→Prop)(kc:Nat)(c:AV→AV→Int)(n:Nat):Prop :=
 ∀(lv s g:Nat) (P X Y S:List AV) (m:Qo),X.length+Y.length=n→0<X.length→0<Y.length→Am.Qf m lv s=.vec g cz (P++X++Y++S)→(∀x∈P++X++Y++S,Ez E cz x)→
  (P++X++Y++S).length<4611686018427387904→Zc (lt c) X→Zc (lt c) Y→
  Qg Pg sm [.vec lv s g 0 (P++X++Y++S).length false,.int .i64 (P.length:Nat),.int .i64 ((P.length+X.length:Nat):Int),.int .i64 ((P.length+X.length+Y.length:Nat):Int),.fn (.func kc) [] []] m
   (fun v m1=>v=.tup []∧m1=Am.put m lv s (.vec g cz (P++mg (lt c) X Y++S)))

include hC hcz in
theorem Y6 {kc:Nat}{c:AV→AV→Int}{n:Nat}(h:Hd Pg cz sm E kc c n){fr:Nat→Ob}{lv s g N a b e:Nat}(P X Y S:List AV){m:Qo}(hlv:lv<m.length)(hXY:X.length+Y.length=n)(hX:0<X.length)(hY:0<Y.length)(he:∀x∈P++X++Y++S,Ez E cz x)
  (hn:(P++X++Y++S).length<4611686018427387904) (sX:Zc (lt c) X) (sY:Zc (lt c) Y) (hN:N=(P++X++Y++S).length) (ha:a=P.length) (hb:b=P.length+X.length) (hc:e=P.length+X.length+Y.length) :
  Qg Pg sm [.vec (lv+1) s g 0 N false,.int .i64 (a:Nat),.int .i64 (b:Nat),.int .i64 (e:Nat),.fn (.func kc) [] []] (fr :: Am.put m lv s (.vec g cz (P++X++Y++S)))
   (fun x m1=>x=.tup []∧m1=fr :: Am.put m lv s (.vec g cz (P++mg (lt c) X Y++S))):=by
 have _:=hC;have _:=hcz;subst hN ha hb hc;refine(h (lv+1) s g P X Y S (fr :: Am.put m lv s (.vec g cz (P++X++Y++S))) hXY hX hY (Qz (m:=m) hlv) he hn sX sY).mono fun x m1 h=>⟨h.1,?_⟩
 rw[h.2];simp only[Am.put,Wq]

def ScS (cz:Nat)(m:Qo)(lv s g N mid s0 r0:Nat)(kc:Nat)(c:AV→AV→Int)(P X Y S:List AV)(k:Nat)(st:St):Prop :=
 ∃f i j,st=⟨f,[Qc]++Am.put m lv s (.vec g cz (P++X++Y++S)),[]⟩∧k=j-i∧s0≤i∧i≤j∧j≤r0∧
  (∀k x y,s0≤k→k<i→X[k-P.length]? = some x→Y[mid-1-k]? = some y→lt c y x=false)∧(∀k x y,j≤k→k<r0→X[k-P.length]? = some x→Y[mid-1-k]? = some y→lt c y x=true)∧
  f 0=.vec (lv+1) s g 0 N false∧f 1=.int .i64 (P.length:Nat)∧f 2=.int .i64 ((P.length+X.length:Nat):Int)∧f 3=.int .i64 ((P.length+X.length+Y.length:Nat):Int)∧f 4=.fn (.func kc) [] []∧
  f 18=.int .i64 (mid:Nat)∧f 19=.int .i64 ((mid+(P.length+X.length):Nat):Int)∧f 22=.int .i64 ((mid+(P.length+X.length)-1:Nat):Int)∧f 20=.int .i64 (i:Nat)∧f 21=.int .i64 (j:Nat)

theorem Sr {c:AV→AV→Int}(hsw:SW (lt c)){X Y:List AV}{p mid t:Nat}{s0 r0:Nat}(sX:Zc (lt c) X)(sY:Zc (lt c) Y)(h1:s0≤t)(h2:t≤r0)(hp:p≤t)(htm:t≤mid)(hr:r0=mid∨r0=p+X.length)(hs:mid-s0≥Y.length∨s0=p)(hs2:mid-s0≤Y.length)(hr2:r0≤p+X.length)
  (hlow:∀k x y,s0≤k→k<t→X[k-p]? = some x→Y[mid-1-k]? = some y→lt c y x=false) (hhigh:∀k x y,t≤k→k<r0→X[k-p]? = some x→Y[mid-1-k]? = some y→lt c y x=true) :
  mg (lt c) X Y=mg (lt c) (X.take (t-p)) (Y.take (mid-t))++mg (lt c) (X.drop (t-p)) (Y.drop (mid-t)):=by
 have key:=WG (lt:=lt c) _ (X.take (t-p)) (Y.take (mid-t)) (X.drop (t-p)) (Y.drop (mid-t)) rfl ?_ ?_
 ·rwa [QVC,QVC]at key
 ·intro y hy x hx;obtain⟨k,hk⟩:=QWA hy;obtain⟨l,hl⟩:=QWA hx;rw[QU0]at hk;split at hk
  ·rename_i hkt;rw[QU1]at hl;have hlX:t-p+l<X.length:=(QUn.1 hl).1;have hkY:k<Y.length:=(QUn.1 hk).1;have htr:t<r0:=by rcases hr with h|h<;>omega
   by_cases hY2:mid-1-t<Y.length
   ·obtain⟨x0,hx0⟩:∃x,X[t-p]? = some x:=⟨_,QUo (by omega)⟩;obtain⟨y0,hy0⟩:∃y,Y[mid-1-t]? = some y:=⟨_,QUo hY2⟩;have h0:=hhigh t x0 y0 (QUm _) htr hx0 hy0;have h3:=KF hsw sY (show k≤mid-1-t by omega) hk hy0 h0;have h4:=KV sX hsw (show t-p≤t-p+l by omega) hx0 hl;cases hb:lt c y x with
    |true=>rfl
    |false=>
     have:=hsw.nt y x x0 hb h4;rw[h3]at this;cases this
   ·exfalso;omega
  ·cases hk
 ·intro x hx y hy;obtain⟨k,hk⟩:=QWA hy;obtain⟨l,hl⟩:=QWA hx;rw[QU0]at hl;split at hl
  ·rename_i hlt;rw[QU1]at hk;have hkY:mid-t+k<Y.length:=(QUn.1 hk).1;have hlX:l<X.length:=(QUn.1 hl).1;have hst:s0<t:=by rcases hs with h|h<;>omega
   by_cases hX2:t-1-p<X.length
   ·obtain⟨x0,hx0⟩:∃x,X[t-1-p]? = some x:=⟨_,QUo hX2⟩;obtain⟨y0,hy0⟩:∃y,Y[mid-1-(t-1)]? = some y:=⟨_,QUo (by omega)⟩;have h0:=hlow (t-1) x0 y0 (by omega) (by omega) hx0 hy0;have h3:=KV sX hsw (show l≤t-1-p by omega) hl hx0;have h4:lt c y x0=false:=by
     cases hb:lt c y x0 with
     |false=>rfl
     |true=>
      have:=KF hsw sY (show mid-1-(t-1)≤mid-t+k by omega) hy0 hk hb;rw[h0]at this;cases this
    exact hsw.nt y x0 x h4 h3
   ·exfalso;omega
  ·cases hl

section
variable {kc:Nat}{c:AV→AV→Int}{nn lv s g N:Nat}{P X1 X2 Y1 Y2 S:List AV}{m:Qo}{f:Fr}

include hC hcz in
theorem QGH (ih:∀n,n<nn→Hd Pg cz sm E kc c n)(hnn:X2.length+Y2.length<nn)(hlv:lv<m.length)(he:∀x∈P++X2++Y2++S,Ez E cz x)(hN:N=(P++X2++Y2++S).length)(hn:N<4611686018427387904)
  (sX:Zc (lt c) X2) (sY:Zc (lt c) Y2) (f0:f 0=.vec (lv+1) s g 0 N false) (f3:f 3=.int .i64 ((P.length+X2.length+Y2.length:Nat):Int)) (f4:f 4=.fn (.func kc) [] []) (f18:f 18=.int .i64 (P.length:Nat)) (f24:f 24=.int .i64 ((P.length+X2.length:Nat):Int)) :
  QG Pg (.seq (.reg (Kj cz sr ro sm is st)) (.cond (.t 213) (.reg (Kk cz sr ro sm is st)) (.skip))) ⟨f,Qc :: Am.put m lv s (.vec g cz (P++X2++Y2++S)),[]⟩
   (ZK Di m.length (fun v m1=>v=.tup []∧m1=Am.put m lv s (.vec g cz (P++mg (lt c) X2 Y2++S)))):=by
 have _:=hC;have _:=hcz;simp only[Kj,Kk,Di,f18,f24,Qa,seval];by_cases h1:0<X2.length
 ·have d1:decide ((P.length:Int)<((P.length+X2.length:Nat):Int))=true:=by simp only[QUs];omega
  by_cases h2:0<Y2.length
  ·have d2:decide (((P.length+X2.length:Nat):Int)<((P.length+X2.length+Y2.length:Nat):Int))=true:=by simp only[QUs];omega
   simp only[d1,d2,f0,f3,f4,f18,f24,Qa,seval];refine Qj (Y6 hC hcz (ih _ hnn) P X2 Y2 S hlv rfl h1 h2 he (by omega) sX sY hN rfl rfl rfl) rfl ?_;simp only[put_len,Qa,seval]
  ·have d2:decide (((P.length+X2.length:Nat):Int)<((P.length+X2.length+Y2.length:Nat):Int))=false:=by simp only[QWj];omega
   have hy:Y2=[]:=QVq (by omega);have hfin:P++X2++Y2++S=P++mg (lt c) X2 Y2++S:=by rw[hy,Jt];simp
   simp only[d1,d2,f3,f24,hfin,put_len,Qa,seval]
 ·have d1:decide ((P.length:Int)<((P.length+X2.length:Nat):Int))=false:=by simp only[QWj];omega
  have hx:X2=[]:=QVq (by omega);have hfin:P++X2++Y2++S=P++mg (lt c) X2 Y2++S:=by rw[hx,Z8];simp
  simp only[d1,hfin,put_len,Qa,seval]

include hC hcz in
theorem QGI (ih:∀n,n<nn→Hd Pg cz sm E kc c n)(hn1:X1.length+Y1.length<nn)(hn2:X2.length+Y2.length<nn)(hlv:lv<m.length)(he:∀x∈P++X1++Y1++(X2++Y2++S),Ez E cz x)(hN:N=(P++X1++Y1++(X2++Y2++S)).length)(hn:N<4611686018427387904)
  (sX1:Zc (lt c) X1) (sY1:Zc (lt c) Y1) (sX:Zc (lt c) X2) (sY:Zc (lt c) Y2) (f0:f 0=.vec (lv+1) s g 0 N false) (f1:f 1=.int .i64 (P.length:Nat)) (f3:f 3=.int .i64 ((P.length+X1.length+Y1.length+X2.length+Y2.length:Nat):Int)) (f4:f 4=.fn (.func kc) [] []) (f18:f 18=.int .i64 ((P.length+X1.length+Y1.length:Nat):Int)) (f20:f 20=.int .i64 ((P.length+X1.length:Nat):Int)) (f24:f 24=.int .i64 ((P.length+X1.length+Y1.length+X2.length:Nat):Int)) :
  QG Pg (.seq (.seq (.reg (WL cz sr ro sm is st)) (.cond (.t 199) (.reg (WM cz sr ro sm is st)) (.skip))) (.seq (.reg (Kj cz sr ro sm is st)) (.cond (.t 213) (.reg (Kk cz sr ro sm is st)) (.skip)))) ⟨f,Qc :: Am.put m lv s (.vec g cz (P++X1++Y1++(X2++Y2++S))),[]⟩
   (ZK Di m.length (fun v m1=>v=.tup []∧m1=Am.put m lv s (.vec g cz (P++(mg (lt c) X1 Y1++mg (lt c) X2 Y2)++S)))):=by
 have _:=hC;have _:=hcz;have hlm:(mg (lt c) X1 Y1).length=X1.length+Y1.length:=Qws _ _ _ rfl;have hlen:N=P.length+X1.length+Y1.length+X2.length+Y2.length+S.length:=by rw[hN];simp only[QUZ];omega
 have hem:∀x∈P++mg (lt c) X1 Y1++X2++Y2++S,Ez E cz x:=by
  intro x hx;refine he x ?_;simp only[QVE]at hx ⊢;rcases hx with(((hx|hx)|hx)|hx)|hx
  ·exact .inl (.inl (.inl hx))
  ·exact(Qwt _ _ _ rfl hx).elim (fun h=>.inl (.inl (.inr h))) (fun h=>.inl (.inr h))
  ·exact .inr (.inl (.inl hx))
  ·exact .inr (.inl (.inr hx))
  ·exact .inr (.inr hx)
 have go:∀f:Fr,f 0=.vec (lv+1) s g 0 N false→f 3=.int .i64 ((P.length+X1.length+Y1.length+X2.length+Y2.length:Nat):Int)→f 4=.fn (.func kc) [] []→f 18=.int .i64 ((P.length+X1.length+Y1.length:Nat):Int)→f 24=.int .i64 ((P.length+X1.length+Y1.length+X2.length:Nat):Int)→
   QG Pg (.seq (.reg (Kj cz sr ro sm is st)) (.cond (.t 213) (.reg (Kk cz sr ro sm is st)) (.skip))) ⟨f,Qc :: Am.put m lv s (.vec g cz (P++mg (lt c) X1 Y1++(X2++Y2++S))),[]⟩
   (ZK Di m.length (fun v m1=>v=.tup []∧m1=Am.put m lv s (.vec g cz (P++(mg (lt c) X1 Y1++mg (lt c) X2 Y2)++S)))):=by
  intro f f0 f3 f4 f18 f24;have hpl:(P++mg (lt c) X1 Y1).length=P.length+X1.length+Y1.length:=by rw[QUZ,hlm];omega
  have:=QGH hC hcz (P:=P++mg (lt c) X1 Y1) (X2:=X2) (Y2:=Y2) (S:=S) (m:=m) (f:=f) (g:=g) (s:=s) ih hn2 hlv hem (by rw[hlen];simp only[QUZ,hlm];omega) hn sX sY f0 (by rw[hpl];exact f3) f4 (by rw[hpl];exact f18) (by rw[hpl];exact f24);rw[show P++mg (lt c) X1 Y1++(X2++Y2++S)=P++mg (lt c) X1 Y1++X2++Y2++S by simp only[QUI],show P++(mg (lt c) X1 Y1++mg (lt c) X2 Y2)++S=P++mg (lt c) X1 Y1++mg (lt c) X2 Y2++S by simp only[QUI]];exact this
 rw[YN,YN];simp only[WL,WM,f1,f20,YM,J8,ZP,J7,J9,Hp,Uz,Qt,QU,Q4,cond_true,cond_false,true_and,seval,Jm];by_cases h1:0<X1.length
 ·have d1:decide ((P.length:Int)<((P.length+X1.length:Nat):Int))=true:=by simp only[QUs];omega
  by_cases h2:0<Y1.length
  ·have d2:decide (((P.length+X1.length:Nat):Int)<((P.length+X1.length+Y1.length:Nat):Int))=true:=by simp only[QUs];omega
   simp only[d1,d2,f0,f1,f4,f18,f20,YM,ZO,J6,J8,ZP,J7,J9,Hp,Kw,Uz,D5,KS,YO,Qt,QU,Q4,cond_true,cond_false,true_and,seval,Jm];refine Qj (Y6 hC hcz (ih _ hn1) P X1 Y1 (X2++Y2++S) hlv rfl h1 h2 he (by omega) sX1 sY1 hN rfl rfl rfl) rfl ?_;rw[J6,ZO];refine go _ ?_ ?_ ?_ ?_ ?_
   ·simp only[f0,Qa,seval]
   ·simp only[f3,Qa,seval]
   ·simp only[f4,Qa,seval]
   ·simp only[f18,Qa,seval]
   ·simp only[f24,Qa,seval]
  ·have d2:decide (((P.length+X1.length:Nat):Int)<((P.length+X1.length+Y1.length:Nat):Int))=false:=by simp only[QWj];omega
   have hy:Y1=[]:=QVq (by omega);have hres:mg (lt c) X1 Y1=X1++Y1:=by rw[hy,Jt,QVp]
   rw[hres,←QUI P X1 Y1]at go;simp only[d1,d2,hres,f18,f20,ZO,J6,J8,ZP,J7,J9,Hp,Kw,Uz,D5,KS,Kv,Yr,Qt,QU,Q4,cond_true,cond_false,true_and,seval,Jm];refine go _ ?_ ?_ ?_ ?_ ?_
   ·simp only[f0,Qa,seval]
   ·simp only[f3,Qa,seval]
   ·simp only[f4,Qa,seval]
   ·simp only[f18,Qa,seval]
   ·simp only[f24,Qa,seval]
 ·have d1:decide ((P.length:Int)<((P.length+X1.length:Nat):Int))=false:=by simp only[QWj];omega
  have hx:X1=[]:=QVq (by omega);have hres:mg (lt c) X1 Y1=X1++Y1:=by rw[hx,Z8,QUK]
  rw[hres,←QUI P X1 Y1]at go;simp only[d1,hres,ZO,J6,J8,ZP,J7,J9,Hp,WZ,Uz,D5,KS,Kv,Yr,Qt,cond_true,cond_false,true_and,seval,Jm];refine go _ ?_ ?_ ?_ ?_ ?_
  ·simp only[f0,Qa,seval]
  ·simp only[f3,Qa,seval]
  ·simp only[f4,Qa,seval]
  ·simp only[f18,Qa,seval]
  ·simp only[f24,Qa,seval]

include hC hcz in
theorem QGJ (ih:∀n,n<nn→Hd Pg cz sm E kc c n)(hn1:X1.length+Y1.length<nn)(hn2:X2.length+Y2.length<nn)(hlv:lv<m.length)(he:∀x∈P++X1++X2++Y1++(Y2++S),Ez E cz x)(hN:N=(P++X1++X2++Y1++(Y2++S)).length)(hn:N<4611686018427387904)
  (sX1:Zc (lt c) X1) (sY1:Zc (lt c) Y1) (sX:Zc (lt c) X2) (sY:Zc (lt c) Y2) (f0:f 0=.vec (lv+1) s g 0 N false) (f1:f 1=.int .i64 (P.length:Nat)) (f2:f 2=.int .i64 ((P.length+X1.length+X2.length:Nat):Int)) (f3:f 3=.int .i64 ((P.length+X1.length+Y1.length+X2.length+Y2.length:Nat):Int)) (f4:f 4=.fn (.func kc) [] []) (f18:f 18=.int .i64 ((P.length+X1.length+Y1.length:Nat):Int)) (f19:f 19=.int .i64 ((P.length+X1.length+Y1.length+(P.length+X1.length+X2.length):Nat):Int)) (f20:f 20=.int .i64 ((P.length+X1.length:Nat):Int)) :
  QG Pg (.seq (.reg (YA cz sr ro sm is st)) (.seq (.seq (.reg (YB cz sr ro sm is st)) (.cond (.t 185) (.reg (YC cz sr ro sm is st)) (.skip))) (.seq (.seq (.reg (WL cz sr ro sm is st)) (.cond (.t 199) (.reg (WM cz sr ro sm is st)) (.skip))) (.seq (.reg (Kj cz sr ro sm is st)) (.cond (.t 213) (.reg (Kk cz sr ro sm is st)) (.skip)))))) ⟨f,Qc :: Am.put m lv s (.vec g cz (P++X1++X2++Y1++(Y2++S))),[]⟩
   (ZK Di m.length (fun v m1=>v=.tup []∧m1=Am.put m lv s (.vec g cz (P++(mg (lt c) X1 Y1++mg (lt c) X2 Y2)++S)))):=by
 have _:=hC;have _:=hcz;have hlen:N=P.length+X1.length+Y1.length+X2.length+Y2.length+S.length:=by rw[hN];simp only[QUZ];omega
 have hem:∀x∈P++X1++Y1++(X2++Y2++S),Ez E cz x:=by
  intro x hx;refine he x ?_;simp only[QVE]at hx ⊢;rcases hx with((hx|hx)|hx)|((hx|hx)|hx)
  ·exact .inl (.inl (.inl (.inl hx)))
  ·exact .inl (.inl (.inl (.inr hx)))
  ·exact .inl (.inr hx)
  ·exact .inl (.inl (.inr hx))
  ·exact .inr (.inl hx)
  ·exact .inr (.inr hx)
 have go:∀f:Fr,f 0=.vec (lv+1) s g 0 N false→f 1=.int .i64 (P.length:Nat)→f 3=.int .i64 ((P.length+X1.length+Y1.length+X2.length+Y2.length:Nat):Int)→f 4=.fn (.func kc) [] []→f 18=.int .i64 ((P.length+X1.length+Y1.length:Nat):Int)→f 20=.int .i64 ((P.length+X1.length:Nat):Int)→f 24=.int .i64 ((P.length+X1.length+Y1.length+X2.length:Nat):Int)→_ :=
  fun f f0 f1 f3 f4 f18 f20 f24=>QGI hC hcz (P:=P) (X1:=X1) (Y1:=Y1) (X2:=X2) (Y2:=Y2) (S:=S) (m:=m) (f:=f) (g:=g) (s:=s) ih hn1 hn2 hlv hem (by rw[hlen];simp only[QUZ];omega) hn sX1 sY1 sX sY f0 f1 f3 f4 f18 f20 f24
 have e1:IntKind.i64.wrap (((P.length+X1.length+Y1.length+(P.length+X1.length+X2.length):Nat):Int)-((P.length+X1.length:Nat):Int))=((P.length+X1.length+Y1.length+X2.length:Nat):Int):=by rw[QF];omega
 rw[YN];simp only[YA,e1,f19,f20,YM,ZO,J6,J8,ZP,J7,J9,Uz,Qt,QU,Q4,cond_true,cond_false,true_and,seval,Jm];rw[YN,YN];simp only[YB,f2,f20,YM,J8,ZP,J7,J9,Hp,Uz,Qt,QU,Q4,cond_true,cond_false,true_and,seval,Jm];by_cases h1:0<X2.length
 ·have d1:decide (((P.length+X1.length:Nat):Int)<((P.length+X1.length+X2.length:Nat):Int))=true:=by simp only[QUs];omega
  by_cases h2:0<Y1.length
  ·have d2:decide (((P.length+X1.length+X2.length:Nat):Int)<((P.length+X1.length+Y1.length+X2.length:Nat):Int))=true:=by simp only[QUs];omega
   simp only[YC,d1,d2,f0,f2,f4,f20,YM,ZO,J6,J8,ZP,J7,J9,Hp,Kw,Uz,D5,KS,YO,Qt,QU,Q4,cond_true,cond_false,true_and,seval,Jm];refine Qj (QaD hC hcz (.fn (.func kc) [] []) (P++X1) X2 Y1 (Y2++S) (n:=P.length+X1.length+Y1.length+X2.length) hlv h1 h2 he (by omega) hN (by rw[QUZ]) (by rw[QUZ]) (by rw[QUZ];omega)) rfl ?_;rw[J6,ZO];rw[show P++X1++Y1++X2++(Y2++S)=P++X1++Y1++(X2++Y2++S)by simp only[QUI]];refine go _ ?_ ?_ ?_ ?_ ?_ ?_ ?_
   ·simp only[f0,Qa,seval]
   ·simp only[f1,Qa,seval]
   ·simp only[f3,Qa,seval]
   ·simp only[f4,Qa,seval]
   ·simp only[f18,Qa,seval]
   ·simp only[f20,Qa,seval]
   ·simp only[Qa,seval]
  ·have d2:decide (((P.length+X1.length+X2.length:Nat):Int)<((P.length+X1.length+Y1.length+X2.length:Nat):Int))=false:=by simp only[QWj];omega
   have hy:Y1=[]:=QVq (by omega);have hrow:P++X1++X2++Y1++(Y2++S)=P++X1++Y1++(X2++Y2++S):=by rw[hy];simp
   simp only[d1,d2,hrow,f2,ZO,J6,J8,ZP,J7,J9,Hp,Kw,Uz,D5,KS,Kv,Yr,Qt,QU,Q4,cond_true,cond_false,true_and,seval,Jm];refine go _ ?_ ?_ ?_ ?_ ?_ ?_ ?_
   ·simp only[f0,Qa,seval]
   ·simp only[f1,Qa,seval]
   ·simp only[f3,Qa,seval]
   ·simp only[f4,Qa,seval]
   ·simp only[f18,Qa,seval]
   ·simp only[f20,Qa,seval]
   ·simp only[Qa,seval]
 ·have d1:decide (((P.length+X1.length:Nat):Int)<((P.length+X1.length+X2.length:Nat):Int))=false:=by simp only[QWj];omega
  have hx:X2=[]:=QVq (by omega);have hrow:P++X1++X2++Y1++(Y2++S)=P++X1++Y1++(X2++Y2++S):=by rw[hx];simp
  simp only[d1,hrow,ZO,J6,J8,ZP,J7,J9,Hp,WZ,Uz,D5,KS,Kv,Yr,Qt,cond_true,cond_false,true_and,seval,Jm];refine go _ ?_ ?_ ?_ ?_ ?_ ?_ ?_
  ·simp only[f0,Qa,seval]
  ·simp only[f1,Qa,seval]
  ·simp only[f3,Qa,seval]
  ·simp only[f4,Qa,seval]
  ·simp only[f18,Qa,seval]
  ·simp only[f20,Qa,seval]
  ·simp only[Qa,seval]

end

set_option maxHeartbeats 1000000 in
include hC hcz in
theorem QPG {kc:Nat}{c:AV→AV→Int}(hc:Cp Pg cz E kc c)(nn:Nat)(ih:∀n,n<nn→Hd Pg cz sm E kc c n)(lv s g:Nat)(P X Y S:List AV)(m:Qo)(hXY:X.length+Y.length=nn)(hX1:1<X.length)(hY1:1<Y.length)(hl:Am.Qf m lv s=.vec g cz (P++X++Y++S))(he:∀x∈P++X++Y++S,Ez E cz x)
  (hn:(P++X++Y++S).length<4611686018427387904) (sX:Zc (lt c) X) (sY:Zc (lt c) Y) :
  Qg Pg sm [.vec lv s g 0 (P++X++Y++S).length false,.int .i64 (P.length:Nat),.int .i64 ((P.length+X.length:Nat):Int),.int .i64 ((P.length+X.length+Y.length:Nat):Int),.fn (.func kc) [] []] m
   (fun v m1=>v=.tup []∧m1=Am.put m lv s (.vec g cz (P++mg (lt c) X Y++S))):=by
 have _:=hC;have _:=hcz;have hlv:lv<m.length:=QY (by rw[hl];simp);have hlen:(P++X++Y++S).length=P.length+X.length+Y.length+S.length:=by simp only[QUZ]
 refine hC.csm.go (by simp) ?_;have e1:(IntKind.i64.wrap (((P.length+X.length:Nat):Int)-(P.length:Int))==1)=false:=by rw[QF];simp only[QV4,ne_eq];omega
 have e2:(IntKind.i64.wrap (((P.length+X.length+Y.length:Nat):Int)-((P.length+X.length:Nat):Int))==1)=false:=by rw[QF];simp only[QV4,ne_eq];omega
 have e3:IntKind.i64.wrap ((P.length:Int)+((P.length+X.length+Y.length:Nat):Int))=((P.length+(P.length+X.length+Y.length):Nat):Int):=by rw[QF];omega
 have e4:=CY P.length (P.length+X.length+Y.length) (by omega);generalize hmid:(P.length+(P.length+X.length+Y.length)) / 2=mid at *;have e5:IntKind.i64.wrap ((mid:Int)+((P.length+X.length:Nat):Int))=((mid+(P.length+X.length):Nat):Int):=by rw[QF];omega
 have e6:IntKind.i64.wrap (((mid+(P.length+X.length):Nat):Int)-((P.length+X.length+Y.length:Nat):Int))=((mid+(P.length+X.length)-(P.length+X.length+Y.length):Nat):Int)∨mid<Y.length:=by
  by_cases h:mid<Y.length
  ·exact .inr h
  ·refine .inl ?_;rw[QF];omega
 have e7:IntKind.i64.wrap (((mid+(P.length+X.length):Nat):Int)-1)=((mid+(P.length+X.length)-1:Nat):Int):=by rw[QF];omega
 simp only[An,FH,G0,G3,G4,G5,G6,G7,G8,G9,Da,Db,e1,e2,e3,e4,e5,Qa,seval];have h0:m=Am.put m lv s (.vec g cz (P++X++Y++S)):=(Jx hl).symm;generalize hN:(P++X++Y++S).length=N at *
 -- the search, from whatever bounds
 have main:∀(Q:Exit→St→Prop) (f:Fr) (s0 r0:Nat),s0≤r0→r0≤mid→(r0=mid∨r0=P.length+X.length)→(mid-s0≥Y.length∨s0=P.length)→mid-s0≤Y.length→r0≤P.length+X.length→P.length≤s0→
   f 0=.vec (lv+1) s g 0 N false→f 1=.int .i64 (P.length:Nat)→f 2=.int .i64 ((P.length+X.length:Nat):Int)→f 3=.int .i64 ((P.length+X.length+Y.length:Nat):Int)→f 4=.fn (.func kc) [] []→
   f 18=.int .i64 (mid:Nat)→f 19=.int .i64 ((mid+(P.length+X.length):Nat):Int)→f 22=.int .i64 ((mid+(P.length+X.length)-1:Nat):Int)→f 20=.int .i64 (s0:Nat)→f 21=.int .i64 (r0:Nat)→
   (∀(f:Fr) (t:Nat),s0≤t→t≤r0→mg (lt c) X Y=mg (lt c) (X.take (t-P.length)) (Y.take (mid-t))++mg (lt c) (X.drop (t-P.length)) (Y.drop (mid-t))→
    f 0=.vec (lv+1) s g 0 N false→f 1=.int .i64 (P.length:Nat)→f 2=.int .i64 ((P.length+X.length:Nat):Int)→f 3=.int .i64 ((P.length+X.length+Y.length:Nat):Int)→f 4=.fn (.func kc) [] []→
    f 18=.int .i64 (mid:Nat)→f 19=.int .i64 ((mid+(P.length+X.length):Nat):Int)→f 20=.int .i64 (t:Nat)→Q (.exit 8) ⟨f,Qc :: Am.put m lv s (.vec g cz (P++X++Y++S)),[]⟩)→
   QG Pg (.loop (Dh cz sr ro sm is st)) ⟨f,Qc :: m,[]⟩ Q:=by
  intro Q f s0 r0 hsr hrm hr hs hs2 hr2 hps f0 f1 f2 f3 f4 f18 f19 f22 f20 f21 hQ;refine Qd (ScS cz m lv s g N mid s0 r0 kc c P X Y S) _ ⟨_,s0,r0,by rw[←h0]<;>rfl,rfl,QUm _,hsr,QUm _,(by intro k x y h1 h2;omega),(by intro k x y h1 h2;omega),f0,f1,f2,f3,f4,f18,f19,f22,f20,f21⟩ ?_;clear f0 f1 f2 f3 f4 f18 f19 f22 f20 f21 f;rintro k st ⟨f,i,j,rfl,rfl,hsi,hij,hj,hp,hq,f0,f1,f2,f3,f4,f18,f19,f22,f20,f21⟩;simp only[Dh,Dc,Dd,De,Df,Dg,f20,f21,Qa,seval];by_cases hlt:i<j
  ·have d0:decide ((i:Int)<(j:Int))=true:=by simp only[QUs];omega
   have e8:IntKind.i64.wrap ((i:Int)+(j:Int))=((i+j:Nat):Int):=by rw[QF];omega
   have e9:=CY i j (by omega);generalize hh:(i+j) / 2=h at *;have hh1:h<j:=by omega
   have hh2:i≤h:=by omega
   have ea:IntKind.i64.wrap ((h:Int)+1)=((h+1:Nat):Int):=by rw[QF];omega
   have eb:IntKind.i64.wrap (((mid+(P.length+X.length)-1:Nat):Int)-(h:Int))=((P.length+X.length+(mid-1-h):Nat):Int):=by rw[QF];omega
   obtain⟨x,hx⟩:∃x,X[h-P.length]? = some x:=⟨_,QUo (by omega)⟩;obtain⟨y,hy⟩:∃y,Y[mid-1-h]? = some y:=⟨_,QUo (by omega)⟩;have ex:Ez E cz x:=he x (by simp[QUA hx]);have ey:Ez E cz y:=he y (by simp[QUA hy]);have gx:(P++X++Y++S)[h]? = some x:=by
    rw[QUI,QUI,QVM (by omega),QVL (by omega),hx]
   have gy:(P++X++Y++S)[P.length+X.length+(mid-1-h)]? = some y:=by
    rw[QUI,QVM (by rw[QUZ];omega),QVL (by rw[QUZ];omega),←hy];congr 1;rw[QUZ];omega
   simp only[d0,e8,e9,eb,f0,f4,f20,f21,f22,K7 hlv (show P.length+X.length+(mid-1-h)<N by omega),K7 hlv (show h<N by omega),K6 hlv gy ey,K6 hlv gx ex,Qa,seval];refine Wi (by simp only[Qa,seval]) (hc.call y x ey ex) (Yd ey ex _) (KW ey ex) rfl (.inl (KW ey ex)) ?_;cases hcx:decide (c y x<0)with
   |true=>
    simp only[hcx,Qa,seval];have hq':∀k x' y',h≤k→k<r0→X[k-P.length]? = some x'→Y[mid-1-k]? = some y'→lt c y' x'=true:=by
     intro k x' y' hk hk2 hx' hy';have h3:=KF hc.sw sY (show mid-1-k≤mid-1-h by omega) hy' hy hcx;have h4:=KV sX hc.sw (show h-P.length≤k-P.length by omega) hx hx';cases hb:lt c y' x' with
     |true=>rfl
     |false=>
      have:=hc.sw.nt y' x' x hb h4;rw[h3]at this;cases this
    exact⟨h-i,by omega,_,i,h,rfl,rfl,hsi,by omega,by omega,hp,hq',by simp only[f0,Qa,seval],by simp only[f1,Qa,seval],by simp only[f2,Qa,seval],by simp only[f3,Qa,seval],by simp only[f4,Qa,seval],by simp only[f18,Qa,seval],by simp only[f19,Qa,seval],by simp only[f22,Qa,seval],by simp only[f20,Qa,seval],by simp only[Qa,seval]⟩
   |false=>
    simp only[hcx,ea,Qa,seval];exact⟨j-(h+1),by omega,_,h+1,j,rfl,rfl,by omega,by omega,hj,fun k x' y' hk hk2 hx' hy'=>by
     have h3:=KV sX hc.sw (show k-P.length≤h-P.length by omega) hx' hx;have h4:lt c y' x=false:=by
      cases hb:lt c y' x with
      |false=>rfl
      |true=>exact absurd (KF hc.sw sY (show mid-1-h≤mid-1-k by omega) hy hy' hb) (by show ¬(decide _=true);rw[hcx];simp)
     exact hc.sw.nt y' x x' h4 h3,hq,by simp only[f0,Qa,seval],by simp only[f1,Qa,seval],by simp only[f2,Qa,seval],by simp only[f3,Qa,seval],by simp only[f4,Qa,seval],by simp only[f18,Qa,seval],by simp only[f19,Qa,seval],by simp only[f22,Qa,seval],by simp only[Qa,seval],by simp only[f21,Qa,seval]⟩
  ·have d0:decide ((i:Int)<(j:Int))=false:=by simp only[QWj];omega
   have hij':j=i:=by omega
   subst hij';simp only[d0,Qa,seval];refine hQ _ j (by omega) (by omega) (Sr hc.sw sX sY hsi hj (by omega) (by omega) hr hs hs2 hr2 hp hq) ?_ ?_ ?_ ?_ ?_ ?_ ?_ ?_
   ·simp only[f0,Qa,seval]
   ·simp only[f1,Qa,seval]
   ·simp only[f2,Qa,seval]
   ·simp only[f3,Qa,seval]
   ·simp only[f4,Qa,seval]
   ·simp only[f18,Qa,seval]
   ·simp only[f19,Qa,seval]
   ·simp only[f20,Qa,seval]
 have hb1:mid≤P.length+X.length+Y.length:=by omega
 have fin:∀(f:Fr) (t:Nat),P.length≤t→t≤mid→t≤P.length+X.length→mid-t≤Y.length→mg (lt c) X Y=mg (lt c) (X.take (t-P.length)) (Y.take (mid-t))++mg (lt c) (X.drop (t-P.length)) (Y.drop (mid-t))→
    f 0=.vec (lv+1) s g 0 N false→f 1=.int .i64 (P.length:Nat)→f 2=.int .i64 ((P.length+X.length:Nat):Int)→f 3=.int .i64 ((P.length+X.length+Y.length:Nat):Int)→f 4=.fn (.func kc) [] []→
    f 18=.int .i64 (mid:Nat)→f 19=.int .i64 ((mid+(P.length+X.length):Nat):Int)→f 20=.int .i64 (t:Nat)→
   QG Pg (.seq (.reg (YA cz sr ro sm is st)) (.seq (.seq (.reg (YB cz sr ro sm is st)) (.cond (.t 185) (.reg (YC cz sr ro sm is st)) (.skip))) (.seq (.seq (.reg (WL cz sr ro sm is st)) (.cond (.t 199) (.reg (WM cz sr ro sm is st)) (.skip))) (.seq (.reg (Kj cz sr ro sm is st)) (.cond (.t 213) (.reg (Kk cz sr ro sm is st)) (.skip)))))) ⟨f,Qc :: Am.put m lv s (.vec g cz (P++X++Y++S)),[]⟩
   (ZK Di m.length (fun v m1=>v=.tup []∧m1=Am.put m lv s (.vec g cz (P++mg (lt c) X Y++S)))):=by
  intro f t h1 h2 h3 h4 hmg f0 f1 f2 f3 f4 f18 f19 f20;have l1:(X.take (t-P.length)).length=t-P.length:=by rw[QVj];omega
  have l2:(X.drop (t-P.length)).length=P.length+X.length-t:=by rw[QU2];omega
  have l3:(Y.take (mid-t)).length=mid-t:=by rw[QVj];omega
  have l4:(Y.drop (mid-t)).length=Y.length-(mid-t):=by rw[QU2]
  have hrow:P++X.take (t-P.length)++X.drop (t-P.length)++Y.take (mid-t)++(Y.drop (mid-t)++S)=P++X++Y++S:=by
   rw[QUI P,QVC,←QUI _ _ S,QUI (P++X),QVC]
  have:=QGJ hC hcz (kc:=kc) (c:=c) (nn:=nn) (lv:=lv) (s:=s) (g:=g) (N:=N) (P:=P) (X1:=X.take (t-P.length)) (X2:=X.drop (t-P.length)) (Y1:=Y.take (mid-t)) (Y2:=Y.drop (mid-t)) (S:=S) (m:=m) (f:=f) ih
   (by rw[l1,l3];omega) (by rw[l2,l4];omega) hlv (by rw[hrow];exact he) (by rw[hrow,hN]) hn
   (List.Pairwise.sublist (List.take_sublist _ _) sX) (List.Pairwise.sublist (List.take_sublist _ _) sY) (List.Pairwise.sublist (List.drop_sublist _ _) sX) (List.Pairwise.sublist (List.drop_sublist _ _) sY)
   f0 f1 (by rw[f2,l1,l2];congr 2;omega) (by rw[f3,l1,l2,l3,l4];congr 2;omega) f4 (by rw[f18,l1,l3];congr 2;omega) (by rw[f19,l1,l2,l3];congr 2;omega) (by rw[f20,l1];congr 2;omega)
  rw[hrow,←hmg]at this;exact this
 by_cases hgt:mid<P.length+X.length
 ·have d0:decide (((P.length+X.length:Nat):Int) > (mid:Int))=true:=by simp only[QUs];omega
  have hmy:Y.length≤mid:=by omega
  have e6':=e6.resolve_right (by omega);simp only[d0,e6',e7,Qa,seval];refine main _ _ (mid+(P.length+X.length)-(P.length+X.length+Y.length)) mid (by omega) (by omega) (.inl rfl) (.inl (by omega)) (by omega) (by omega) (by omega) ?_ ?_ ?_ ?_ ?_ ?_ ?_ ?_ ?_ ?_ ?_
  case refine_11=>
   intro f t h1 h2 hmg f0 f1 f2 f3 f4 f18 f19 f20;rw[Gt,QUQ rfl,ZO];exact fin f t (by omega) (by omega) (by omega) (by omega) hmg f0 f1 f2 f3 f4 f18 f19 f20
  all_goals simp only[Qa,seval]
 ·have d0:decide (((P.length+X.length:Nat):Int) > (mid:Int))=false:=by simp only[QWj];omega
  simp only[d0,e7,Qa,seval];refine main _ _ P.length (P.length+X.length) (by omega) (by omega) (.inr rfl) (.inr rfl) (by omega) (by omega) (by omega) ?_ ?_ ?_ ?_ ?_ ?_ ?_ ?_ ?_ ?_ ?_
  case refine_11=>
   intro f t h1 h2 hmg f0 f1 f2 f3 f4 f18 f19 f20;rw[Gt,QUQ rfl,ZO];exact fin f t (by omega) (by omega) (by omega) (by omega) hmg f0 f1 f2 f3 f4 f18 f19 f20
  all_goals simp only[Qa,seval]

include hC hcz in
theorem sym {kc:Nat}{c:AV→AV→Int}(hc:Cp Pg cz E kc c):∀n,Hd Pg cz sm E kc c n:=by
 have _:=hC;have _:=hcz;intro n
 induction n using Nat.strongRecOn with
 |_ n ih=>
 intro lv s g P X Y S m hXY hX hY hl he hn sX sY;by_cases h1:X.length=1
 ·obtain⟨x,rfl⟩:=List.length_eq_one_iff.1 h1;exact QPE hC hcz hc lv s g P x Y S m hl he hn sY
 ·by_cases h2:Y.length=1
  ·obtain⟨y,rfl⟩:=List.length_eq_one_iff.1 h2;exact QPF hC hcz hc lv s g P X y S m hl he hn sX h1
  ·exact QPG hC hcz hc n ih lv s g P X Y S m hXY (by omega) (by omega) hl he hn sX sY

end Go.Proofs.YtdhlbgejhcejcaaGreatDoor.Tz

namespace Go.Proofs.YtdhlbgejhcejcaaGreatDoor.Tz
open Go Am Bt Tg So
variable {Pg:Program}{cz sr ro sm is st ss:Nat}(hC:Tg.Cs Pg cz sr ro sm is st ss)(hcz:cz≠0)

variable {E:AV→Prop}

include hC hcz in
theorem VF {kc:Nat}{c:AV→AV→Int}(hc:Cp Pg cz E kc c){fr:Nat→Ob}{lv s g N a b:Nat}(P X S:List AV){m:Qo}(hlv:lv<m.length)(he:∀x∈P++X++S,Ez E cz x)
  (hn:(P++X++S).length<4611686018427387904) (hN:N=(P++X++S).length) (ha:a=P.length) (hb:b=P.length+X.length) :
  Qg Pg is [.vec (lv+1) s g 0 N false,.int .i64 (a:Nat),.int .i64 (b:Nat),.fn (.func kc) [] []] (fr :: Am.put m lv s (.vec g cz (P++X++S)))
   (fun x m1=>x=.tup []∧m1=fr :: Am.put m lv s (.vec g cz (P++QC (lt c) X++S))):=by
 have _:=hC;have _:=hcz;subst hN ha hb;refine(QPD hC hcz hc (lv+1) s g P X S (fr :: Am.put m lv s (.vec g cz (P++X++S))) (Qz (m:=m) hlv) he hn).mono fun x m1 h=>⟨h.1,?_⟩
 rw[h.2];simp only[Am.put,Wq]

def St1 (cz:Nat)(m:Qo)(lv s g:Nat)(kc:Nat)(c:AV→AV→Int)(xs:List AV)(k:Nat)(st:St):Prop :=
 ∃f i,st=⟨f,[Qc]++Am.put m lv s (.vec g cz (Q8 (lt c) 20 i xs++xs.drop (20*i))),[]⟩∧k=xs.length-20*i∧20*i≤xs.length∧
  f 0=.vec (lv+1) s g 0 xs.length false∧f 1=.int .i64 (xs.length:Nat)∧f 2=.fn (.func kc) [] []∧f 6=.int .i64 20∧f 7=.int .i64 ((20*i:Nat):Int)∧f 8=.int .i64 ((20*(i+1):Nat):Int)

def St2 (cz:Nat)(m:Qo)(lv s g:Nat)(kc:Nat)(c:AV→AV→Int)(xs:List AV)(k:Nat)(st:St):Prop :=
 ∃f b n,st=⟨f,[Qc]++Am.put m lv s (.vec g cz (Q8 (lt c) b n xs)),[]⟩∧k=xs.length-b∧0<b∧b<2305843009213693952∧xs.length≤b*n∧
  f 0=.vec (lv+1) s g 0 xs.length false∧f 1=.int .i64 (xs.length:Nat)∧f 2=.fn (.func kc) [] []∧f 6=.int .i64 (b:Nat)

def St3 (cz:Nat)(m:Qo)(lv s g:Nat)(kc:Nat)(c:AV→AV→Int)(xs:List AV)(b:Nat)(k:Nat)(st:St):Prop :=
 ∃f i n,st=⟨f,[Qc]++Am.put m lv s (.vec g cz (Q8 (lt c) (2*b) i xs++Q8 (lt c) b n (xs.drop (2*b*i)))),[]⟩∧k=xs.length-2*b*i∧2*b*i≤xs.length∧xs.length-2*b*i≤b*n∧
  f 0=.vec (lv+1) s g 0 xs.length false∧f 1=.int .i64 (xs.length:Nat)∧f 2=.fn (.func kc) [] []∧f 6=.int .i64 (b:Nat)∧f 7=.int .i64 ((2*b*i:Nat):Int)∧f 8=.int .i64 ((2*b*(i+1):Nat):Int)

set_option maxHeartbeats 1000000 in
include hC hcz in
theorem QPH {kc:Nat}{c:AV→AV→Int}(hc:Cp Pg cz E kc c)(lv s g:Nat)(xs:List AV)(m:Qo)(hl:Am.Qf m lv s=.vec g cz xs)(he:∀x∈xs,Ez E cz x)
  (hn:xs.length<1152921504606846976) :
  Qg Pg st [.vec lv s g 0 xs.length false,.int .i64 (xs.length:Nat),.fn (.func kc) [] []] m
   (fun x m1=>x=.tup []∧m1=Am.put m lv s (.vec g cz (QC (lt c) xs))):=by
 have _:=hC;have _:=hcz;have hlv:lv<m.length:=QY (by rw[hl];simp);refine hC.cst.go (by simp) ?_;have h0:m=Am.put m lv s (.vec g cz xs):=(Jx hl).symm;simp only[rst,Ay,Az,Qa,seval];refine Qd (St1 cz m lv s g kc c xs) _ ⟨_,0,by rw[show Q8 (lt c) 20 0 xs++xs.drop (20*0)=xs by simp[Q8],←h0]<;>rfl,rfl,by omega,by simp only[Qa,seval],by simp only[Qa,seval],by simp only[Qa,seval],by simp only[Qa,seval],by simp only[Qa,seval]<;>rfl,by simp only[Qa,seval]<;>rfl⟩ ?_;clear h0;rintro k st ⟨f,i,rfl,rfl,hi,f0,f1,f2,f6,f7,f8⟩;simp only[AE,AA,f1,f8,Qa,seval];have hbl:(Q8 (lt c) 20 i xs).length=20*i:=by rw[U9];omega
 by_cases hlt:20*(i+1)≤xs.length
 ·have d0:decide (((20*(i+1):Nat):Int)≤(xs.length:Int))=true:=by simp only[QUs];omega
  have e1:IntKind.i64.wrap (((20*(i+1):Nat):Int)+20)=((20*(i+1+1):Nat):Int):=by rw[QF];omega
  have hcut:Q8 (lt c) 20 i xs++xs.drop (20*i)=Q8 (lt c) 20 i xs++(xs.drop (20*i)).take 20++xs.drop (20*(i+1)):=by
   rw[QUI,show 20*(i+1)=20*i+20 by omega,←QUP,QVC]
  have hx1:((xs.drop (20*i)).take 20).length=20:=by rw[QVj,QU2];omega
  have hee:∀x∈Q8 (lt c) 20 i xs++(xs.drop (20*i)).take 20++xs.drop (20*(i+1)),Ez E cz x:=by
   intro x hx;refine he x ?_;rcases QVE.1 hx with hx|hx
   ·rcases QVE.1 hx with hx|hx
    ·exact Wp hx
    ·exact QU9 (QVa hx)
   ·exact QU9 hx
  have hNN:(Q8 (lt c) 20 i xs++(xs.drop (20*i)).take 20++xs.drop (20*(i+1))).length=xs.length:=by
   rw[QUZ,QUZ,hx1,hbl,QU2];omega
  simp only[d0,hcut,AB,f0,f2,f7,f8,Qa,seval];refine Qj (VF hC hcz hc (a:=20*i) (b:=20*(i+1)) (Q8 (lt c) 20 i xs) ((xs.drop (20*i)).take 20) (xs.drop (20*(i+1))) hlv hee (by omega) hNN.symm hbl.symm (by rw[hbl,hx1];omega)) rfl ?_;simp only[AC,AD,e1,f6,f8,Qa,seval];exact⟨xs.length-20*(i+1),by omega,_,i+1,by rw[Y0]<;>rfl,rfl,hlt,by simp only[f0,Qa,seval],by simp only[f1,Qa,seval],by simp only[f2,Qa,seval],by simp only[f6,Qa,seval],by simp only[Qa,seval],by simp only[Qa,seval]⟩
 ·have d0:decide (((20*(i+1):Nat):Int)≤(xs.length:Int))=false:=by simp only[QWj];omega
  have hee:∀x∈Q8 (lt c) 20 i xs++xs.drop (20*i)++[],Ez E cz x:=by
   intro x hx;refine he x ?_;rw[QVp]at hx;rcases QVE.1 hx with hx|hx
   ·exact Wp hx
   ·exact QU9 hx
  have hNN:(Q8 (lt c) 20 i xs++xs.drop (20*i)++[]).length=xs.length:=by
   rw[QVp,QUZ,hbl,QU2];omega
  have hic:=VF hC hcz hc (fr:=Qc) (g:=g) (s:=s) (N:=xs.length) (a:=20*i) (b:=xs.length) (Q8 (lt c) 20 i xs) (xs.drop (20*i)) [] hlv hee (by omega) hNN.symm hbl.symm (by rw[hbl,QU2];omega);have hsn:Q8 (lt c) 20 i xs++QC (lt c) (xs.drop (20*i))=Q8 (lt c) 20 (i+1) xs:=by
   rw[Y0,QUV (by rw[QU2];omega)]
  rw[QVp,QVp,hsn]at hic;simp only[d0,AF,f0,f1,f2,f7,Qa,seval];refine Qj hic rfl ?_;simp only[Qa,seval];refine Qd (St2 cz m lv s g kc c xs) _ ⟨_,20,i+1,rfl,rfl,by omega,by omega,by omega,by simp only[f0,Qa,seval],by simp only[f1,Qa,seval],by simp only[f2,Qa,seval],by simp only[f6,Qa,seval]<;>rfl⟩ ?_;clear f0 f1 f2 f6 f7 f8 hic hsn hNN hee d0 hlt hbl hi f i;rintro k st ⟨f,b,n,rfl,rfl,hb0,hb1,hbn,f0,f1,f2,f6⟩;simp only[AK,AG,f1,f6,Qa,seval];by_cases hlt:b<xs.length
  ·have d0:decide ((b:Int)<(xs.length:Int))=true:=by simp only[QUs];omega
   have e1:IntKind.i64.wrap (2*(b:Int))=((2*b:Nat):Int):=by rw[QF];omega
   have e1':IntKind.i64.wrap ((b:Int)*2)=((2*b:Nat):Int):=by rw[QF];omega
   simp only[d0,AH,e1,f6,Qa,seval];refine Qd (St3 cz m lv s g kc c xs b) _ ⟨_,0,n,by simp only[Q8,Nat.mul_zero,QU4,QUK]<;>rfl,rfl,by omega,by omega,by simp only[f0,Qa,seval],by simp only[f1,Qa,seval],by simp only[f2,Qa,seval],by simp only[f6,Qa,seval],by simp only[Qa,seval]<;>rfl,by simp only[QU3,Nat.mul_one,Qa,seval]⟩ ?_;clear f0 f1 f2 f6 f;rintro k st ⟨f,i,n',rfl,rfl,hi,hn',f0,f1,f2,f6,f7,f8⟩;have hA1:2*b*(i+1)=2*b*i+2*b:=Nat.mul_succ _ _;have hA2:2*b*(i+1+1)=2*b*i+2*b+2*b:=by rw[Nat.mul_succ,hA1]
   have hbl:(Q8 (lt c) (2*b) i xs).length=2*b*i:=by rw[U9];omega
   have hsnoc:=Y0 (lt:=lt c) (2*b) i xs;rw[hA1]at f8;clear hbn;generalize hA:2*b*i=A at *;simp only[AJ,AI,f1,f8,Qa,seval];generalize hL:xs.drop A=L at *;have hLl:L.length=xs.length-A:=by rw[←hL,QU2]
   have hLe:∀z∈L,Ez E cz z:=fun z hz=>he z (QU9 (by rw[hL];exact hz))
   have hPe:∀z∈Q8 (lt c) (2*b) i xs,Ez E cz z:=fun z hz=>he z (Wp hz)
   have e2:IntKind.i64.wrap (((A:Nat):Int)+(b:Int))=((A+b:Nat):Int):=by rw[QF];omega
   -- Xg blocks and the rest
   have Xg:b<L.length→∃n'',n'=n''+2∧Q8 (lt c) b n' L=QC (lt c) (L.take b)++QC (lt c) ((L.drop b).take b)++Q8 (lt c) b n'' (L.drop (2*b))∧mg (lt c) (QC (lt c) (L.take b)) (QC (lt c) ((L.drop b).take b))=QC (lt c) (L.take (2*b)):=by
    intro h
    match n',hn' with
    |0,hn'=>omega
    |1,hn'=>omega
    |n''+2,_=>
     refine⟨n'',rfl,?_,?_⟩
     ·rw[Q8,Q8,QUI,QUP,show b+b=2*b by omega]
     ·rw[WF hc.sw,Se]
   by_cases hlt2:A+2*b≤xs.length
   ·have d1:decide (((A+2*b:Nat):Int)≤(xs.length:Int))=true:=by simp only[QUs];omega
    obtain⟨n'',rfl,hrow,hmg⟩:=Xg (by omega);have hn2:b*(n''+2)=b*n''+2*b:=by rw[Nat.mul_add,Nat.mul_comm b 2]
    rw[hn2]at hn';clear Xg;generalize hZ:b*n''=Z at *;have e3:IntKind.i64.wrap (((A+2*b:Nat):Int)+((2*b:Nat):Int))=((A+2*b+2*b:Nat):Int):=by
     rw[QF];omega
    have l1:(QC (lt c) (L.take b)).length=b:=by rw[Ju,QVj];omega
    have l2:(QC (lt c) ((L.drop b).take b)).length=b:=by rw[Ju,QVj,QU2];omega
    have l3:(Q8 (lt c) b n'' (L.drop (2*b))).length=L.length-2*b:=by
     rw[U9,QU2,hZ];omega
    have hcut:Q8 (lt c) (2*b) i xs++Q8 (lt c) b (n''+2) L=Q8 (lt c) (2*b) i xs++QC (lt c) (L.take b)++QC (lt c) ((L.drop b).take b)++Q8 (lt c) b n'' (L.drop (2*b)):=by
     rw[hrow];simp only[QUI]
    have hee:∀x∈Q8 (lt c) (2*b) i xs++QC (lt c) (L.take b)++QC (lt c) ((L.drop b).take b)++Q8 (lt c) b n'' (L.drop (2*b)),Ez E cz x:=by
     rw[←hcut];intro x hx;rcases QVE.1 hx with hx|hx
     ·exact hPe x hx
     ·exact hLe x (Wp hx)
    have hNN:(Q8 (lt c) (2*b) i xs++QC (lt c) (L.take b)++QC (lt c) ((L.drop b).take b)++Q8 (lt c) b n'' (L.drop (2*b))).length=xs.length:=by
     rw[QUZ,QUZ,QUZ,l1,l2,l3,hbl];omega
    simp only[d1,hcut,e2,P3,f0,f2,f6,f7,f8,Qa,seval];refine Qj (Y6 hC hcz (sym hC hcz hc _) (a:=A) (b:=A+b) (e:=A+2*b) (Q8 (lt c) (2*b) i xs) (QC (lt c) (L.take b)) (QC (lt c) ((L.drop b).take b)) (Q8 (lt c) b n'' (L.drop (2*b))) hlv rfl (by omega) (by omega) hee (by omega) (X6 hc.sw _) (X6 hc.sw _) hNN.symm hbl.symm (by rw[hbl,l1]) (by rw[hbl,l1,l2];omega)) rfl ?_;simp only[P4,P5,e1,e3,f6,f8,Qa,seval];refine⟨xs.length-(A+2*b),by omega,_,i+1,n'',by rw[hsnoc,hmg,hA1,←QUP,hL]<;>rfl,by rw[hA1],by rw[hA1];exact hlt2,?_,by simp only[f0,Qa,seval],by simp only[f1,Qa,seval],by simp only[f2,Qa,seval],by simp only[f6,Qa,seval],by simp only[hA1,Qa,seval],by simp only[hA2,Qa,seval]⟩
    ·rw[hA1,hZ];omega
   ·have d1:decide (((A+2*b:Nat):Int)≤(xs.length:Int))=false:=by simp only[QWj];omega
    have hfin:Q8 (lt c) (2*b) i xs++QC (lt c) L=Q8 (lt c) (2*b) (i+1) xs:=by
     rw[hsnoc,QUV (by omega)]
    simp only[d1,e2,P6,P7,f1,f6,f7,Qa,seval];by_cases hm:A+b<xs.length
    ·have d2:decide (((A+b:Nat):Int)<(xs.length:Int))=true:=by simp only[QUs];omega
     obtain⟨n'',rfl,hrow,hmg⟩:=Xg (by omega);clear Xg hn';have hr0:L.drop (2*b)=[]:=QUY (by omega);have hr1:(L.drop b).take b=L.drop b:=QUV (by rw[QU2];omega);have hr2:L.take (2*b)=L:=QUV (by omega);rw[hr0,DM,QVp,hr1]at hrow;rw[hr1,hr2]at hmg;have l1:(QC (lt c) (L.take b)).length=b:=by rw[Ju,QVj];omega
     have l2:(QC (lt c) (L.drop b)).length=L.length-b:=by rw[Ju,QU2]
     have hee:∀x∈Q8 (lt c) (2*b) i xs++QC (lt c) (L.take b)++QC (lt c) (L.drop b)++[],Ez E cz x:=by
      intro x hx;rw[QVp,QUI,←hrow]at hx;rcases QVE.1 hx with hx|hx
      ·exact hPe x hx
      ·exact hLe x (Wp hx)
     have hNN:(Q8 (lt c) (2*b) i xs++QC (lt c) (L.take b)++QC (lt c) (L.drop b)++[]).length=xs.length:=by
      rw[QVp,QUZ,QUZ,l1,l2,hbl];omega
     have hsc:=Y6 hC hcz (sym hC hcz hc _) (fr:=Qc) (s:=s) (g:=g) (N:=xs.length) (a:=A) (b:=A+b) (e:=xs.length) (Q8 (lt c) (2*b) i xs) (QC (lt c) (L.take b)) (QC (lt c) (L.drop b)) [] hlv rfl (by omega) (by omega) hee (by omega) (X6 hc.sw _) (X6 hc.sw _) hNN.symm hbl.symm (by rw[hbl,l1]) (by rw[hbl,l1,l2];omega);rw[QVp,QVp,hmg,hfin,QUI,←hrow]at hsc;simp only[d2,P8,f0,f1,f2,f7,Qa,seval];refine Qj hsc rfl ?_;simp only[Nk,e1',f6,Qa,seval];exact⟨xs.length-2*b,by omega,_,2*b,i+1,rfl,rfl,by omega,by omega,by rw[hA1];omega,by simp only[f0,Qa,seval],by simp only[f1,Qa,seval],by simp only[f2,Qa,seval],by simp only[Qa,seval]⟩
    ·have d2:decide (((A+b:Nat):Int)<(xs.length:Int))=false:=by simp only[QWj];omega
     have hrow:Q8 (lt c) b n' L=QC (lt c) L:=Vv (by omega) (by omega);simp only[d2,hrow,hfin,Nk,e1',f6,Qa,seval];exact⟨xs.length-2*b,by omega,_,2*b,i+1,rfl,rfl,by omega,by omega,by rw[hA1];omega,by simp only[f0,Qa,seval],by simp only[f1,Qa,seval],by simp only[f2,Qa,seval],by simp only[Qa,seval]⟩
  ·have d0:decide ((b:Int)<(xs.length:Int))=false:=by simp only[QWj];omega
   have hfin:Q8 (lt c) b n xs=QC (lt c) xs:=Vv (by omega) hbn;simp only[d0,hfin,put_len,ost,Qa,seval]

include hC hcz in
theorem Ss {kc:Nat}{c:AV→AV→Int}(hc:Cp Pg cz E kc c)(lv s g:Nat)(xs:List AV)(m:Qo)(hl:Am.Qf m lv s=.vec g cz xs)(he:∀x∈xs,Ez E cz x)
  (hn:xs.length<1152921504606846976) :
  Qg Pg ss [.vec lv s g 0 xs.length false,.fn (.func kc) [] []] m
   (fun x m1=>x=.tup []∧m1=Am.put m lv s (.vec g cz (QC (lt c) xs))):=by
 have _:=hC;have _:=hcz;have hlv:lv<m.length:=QY (by rw[hl];simp);refine hC.css.go (by simp) ?_;have hl2:Am.Qf (Qc :: m) (lv+1) s=.vec g cz xs:=hl;simp only[AL,rss,oss,hl2,Qa,seval];refine Qj ((QPH hC hcz hc (lv+1) s g xs (Qc :: m) hl he hn).mono fun x m1 h=>⟨h.1,h.2.trans rfl⟩) rfl ?_;simp only[Am.put,put_len,Qa,seval]

end Go.Proofs.YtdhlbgejhcejcaaGreatDoor.Tz

namespace Go.Proofs.YtdhlbgejhcejcaaGreatDoor.Tg
open Go Am

theorem QGK:Cs Tryz.prog 4 283 266 235 234 191 99 where
 csr:=ck Tryz.func283 Tryz.ntmps283 (by decide +kernel)
 cro:=ck Tryz.func266 Tryz.ntmps266 (by decide +kernel)
 csm:=ck Tryz.func235 Tryz.ntmps235 (by decide +kernel)
 cis:=ck Tryz.func234 Tryz.ntmps234 (by decide +kernel)
 cst:=ck Tryz.func191 Tryz.ntmps191 (by decide +kernel)
 css:=ck Tryz.func99 Tryz.ntmps99 (by decide +kernel)

theorem QwH:Cs Tryz.prog 8 290 277 253 252 227 186 where
 csr:=ck Tryz.func290 Tryz.ntmps290 (by decide +kernel)
 cro:=ck Tryz.func277 Tryz.ntmps277 (by decide +kernel)
 csm:=ck Tryz.func253 Tryz.ntmps253 (by decide +kernel)
 cis:=ck Tryz.func252 Tryz.ntmps252 (by decide +kernel)
 cst:=ck Tryz.func227 Tryz.ntmps227 (by decide +kernel)
 css:=ck Tryz.func186 Tryz.ntmps186 (by decide +kernel)

theorem QwI:Cs Tryz.prog 14 299 291 279 278 254 229 where
 csr:=ck Tryz.func299 Tryz.ntmps299 (by decide +kernel)
 cro:=ck Tryz.func291 Tryz.ntmps291 (by decide +kernel)
 csm:=ck Tryz.func279 Tryz.ntmps279 (by decide +kernel)
 cis:=ck Tryz.func278 Tryz.ntmps278 (by decide +kernel)
 cst:=ck Tryz.func254 Tryz.ntmps254 (by decide +kernel)
 css:=ck Tryz.func229 Tryz.ntmps229 (by decide +kernel)

end Go.Proofs.YtdhlbgejhcejcaaGreatDoor.Tg

namespace Go.Proofs.YtdhlbgejhcejcaaGreatDoor.Rc
open Go Am
abbrev QPI:IL:=[je 4 4 0,je 6 6 2,je 7 7 3,jh 8]
abbrev QPJ:IL:=[jf 16 2 4,⟨some 17,.callR (.f 5) [(.t 16)],none⟩,jz 18 17,ja 19 18,yv 20 7 6 19,⟨some 21,.callR (.f 6) [(.t 20),(.c (.int .i64 300))],(some (19,false))⟩,za 22 21 19,jn 23 19 22,ja 24 23,yv 25 7 7 24,⟨some 26,.callR (.f 6) [(.t 25),(.c (.int .i64 300))],(some (24,false))⟩,za 27 26 24,jn 28 24 27,ja 29 28,yv 30 2 4 29,jv 31 1 29,yv 32 7 6 29,SP 33 7 30 31 32 29,Bg 34 33 0 29,jn 35 29 34,ja 36 35,yv 37 2 4 36,jv 38 1 36,yv 39 7 7 36,SP 40 7 37 38 39 36,Bg 41 40 0 36,jn 42 36 41]
abbrev QPK:IL:=[N4 43 8,ja 8 43]
abbrev QPL:IL:=[jf 44 2 4,ja 45 1,jf 46 7 6,yh 47 9 44 45 46,yn 9 9,jq 7 9 47]
abbrev QPM:IL:=[jf 48 2 4,ja 49 1,jf 50 7 7,yh 51 9 48 49 50,yn 10 10,jq 7 10 51]
abbrev QPN:IL:=[jb 52 0 4,jc 53 52,ja 54 1,jl 55 3 53 54,jb 56 0 55,jc 57 56,ja 11 57]
abbrev QPO:IL:=[jf 59 2 4,ja 60 11,jf 61 7 6,yh 62 10 59 60 61,ja 58 62,jx 63 58 0,jx 64 58 1,ja 12 63,ja 13 64]
abbrev QPP:IL:=[jf 66 2 4,ja 67 11,jf 68 7 9,yh 69 10 66 67 68,ja 65 69,jx 70 65 0,jx 71 65 1,ja 14 70,ja 15 71]
abbrev QPQ:IL:=[ja 72 12,ja 73 14,⟨some 74,.val (.bin .str .neq (.t 72) (.t 73)),none⟩,ja 75 74,jv 76 13 75,jv 77 15 75,zv 78 76 77 75,jn 79 75 78,ja 80 79,M2 81 0 4 2 4 80,jv 82 1 80,M2 83 0 6 7 6 80,SP 84 11 81 82 83 80,M2 85 0 4 2 4 80,jv 86 1 80,M2 87 0 9 7 9 80,SP 88 11 85 86 87 80,⟨some 89,.val (.bin .str .neq (.t 84) (.t 88)),(some (80,false))⟩,jn 90 80 89]
abbrev QPR:IL:=[jh 8]
abbrev QGL:IL:=[jw 91 0 4 2 4,ja 92 1,jw 93 0 6 7 6,yh 94 11 91 92 93,jw 95 0 4 2 4,ja 96 1,jw 97 0 7 7 7,yh 98 11 95 96 97,MU 99 94 98,jw 100 0 9 7 9,jw 101 0 10 7 10,jy 102 12 100 101,⟨some 103,.val (.bin .bool .eql (.t 99) (.t 102)),none⟩,ja 104 103,SN 105 8 104,jj 106 104 105,ja 8 106]
abbrev r3:RC:=jQ QPI (.seq (jQ QPJ (.cond (.t 42) (jQ QPK (.ret)) (.skip))) (jQ QPL (jQ QPM (jQ QPN (jQ QPO (jQ QPP (.seq (jD QPQ (.cond (.t 90) (jQ QPR (.ret)) (.skip))) (jD QGL (.ret)))))))))
abbrev o3:List RR:=[.tmp 8]
theorem k3:CT 3 107 r3 o3:=ck Tryz.func3 Tryz.ntmps3 (by decide +kernel)
abbrev QPS:IL:=[je 1 1 0,jh 2]
abbrev QPT:IL:=[jf 3 2 1,⟨some 4,.callR (.f 17) [(.t 3)],none⟩,ja 5 4,zn 6 2 1 5,zh 7 18 6 5,yl 8 7 0 5,jj 9 5 8,ja 2 9]
abbrev r5:RC:=jQ QPS (jQ QPT (.ret))
abbrev o5:List RR:=[.tmp 2]
theorem k5:CT 5 10 r5 o5:=ck Tryz.func5 Tryz.ntmps5 (by decide +kernel)
abbrev QPU:IL:=[je 2 2 0,jh 4]
abbrev QPV:IL:=[jf 5 7 2,ja 6 1,⟨some 7,.callR (.f 19) [(.t 5),(.c (.int .i64 1)),(.t 6)],none⟩,ym 8 7 0,ja 4 8]
abbrev r6:RC:=jQ QPU (jQ QPV (.ret))
abbrev o6:List RR:=[.tmp 4]
theorem k6:CT 6 9 r6 o6:=ck Tryz.func6 Tryz.ntmps6 (by decide +kernel)
abbrev QGM:IL:=[je 1 1 0,jh 2]
abbrev QGN:IL:=[jb 9 0 1,jc 10 9,ji 11 1 10,yp 12 11 60,ja 13 12,jo 14 1 1 13,js 15 14 13,ye 16 1 15 13,yk 17 16 60 13,jn 18 13 17]
abbrev QGO:IL:=[jh 2]
abbrev QGP:IL:=[jd 3 400]
abbrev QGQ:IL:=[jd 4 0]
abbrev QGR:IL:=[ja 19 4,jb 20 0 1,jc 21 20,ji 22 1 21,jp 23 19 22,ja 24 23,jg 25 3 24,GF 26 25 0 24,jj 27 24 26]
abbrev QGS:IL:=[ja 30 3,jb 31 0 1,jc 32 31,ja 33 4,jl 34 3 32 33,jb 35 1 34,jc 36 35,ji 37 1 36,MQ 38 30 37,ja 3 38]
abbrev QGT:IL:=[ja 39 3,yu 40 39 0,ja 41 40,jo 42 0 1 41,js 43 42 41,jv 44 4 41,zb 45 3 43 44 41,jo 46 0 45 41,js 47 46 41,ye 48 0 47 41,yk 49 48 300 41,jn 50 41 49]
abbrev QGU:IL:=[jh 2]
abbrev QwJ:IL:=[jd 5 0]
abbrev QwK:IL:=[ja 51 5,jb 52 0 1,jc 53 52,ja 54 4,jl 55 3 53 54,jb 56 1 55,jc 57 56,ji 58 1 57,jp 59 51 58]
abbrev QwL:IL:=[jb 62 0 1,jc 63 62,ja 64 4,jl 65 3 63 64,jb 66 1 65,jc 67 66,ja 68 5,jl 69 8 67 68,jb 70 1 69,jc 71 70,ji 72 0 71,yp 73 72 300,ja 74 73,jo 75 0 1 74,js 76 75 74,jv 77 4 74,zb 78 3 76 77 74,jo 79 1 78 74,js 80 79 74,jv 81 5 74,zb 82 8 80 81 74,jo 83 2 82 74,js 84 83 74,ye 85 0 84 74,yk 86 85 300 74,jn 87 74 86]
abbrev QwM:IL:=[jh 2]
abbrev QwN:IL:=[ja 60 5,jm 61 60 1,ja 5 61]
abbrev AM:RC:=.seq (jQ QwK (jX 59 2)) (.seq (.block 3 (jQ QwL (.cond (.t 87) (jQ QwM (.ret)) (.skip)))) (.reg QwN))
abbrev QGV:IL:=[ja 28 4,jm 29 28 1,ja 4 29]
abbrev AN:RC:=.seq (jQ QGR (jX 27 0)) (.seq (.block 1 (jQ QGS (.seq (jQ QGT (.cond (.t 50) (jQ QGU (.ret)) (.skip))) (jQ QwJ (.block 2 (.loop AM)))))) (.reg QGV))
abbrev QwO:IL:=[jd 6 0]
abbrev QwP:IL:=[ja 88 6,jb 89 1 1,jc 90 89,ji 91 1 90,jp 92 88 91,ja 93 92,jg 94 3 93,GF 95 94 0 93,jj 96 93 95]
abbrev QwQ:IL:=[jb 99 1 1,jc 100 99,ja 101 6,jl 102 5 100 101,jf 103 5 102,⟨some 7,.allocN 7 [.str [],.bool false,.nils,.nils,.nils],none⟩,jq 5 7 103]
abbrev QwR:IL:=[jb 104 2 7,jc 105 104,ji 106 1 105,ja 107 3,zy 108 106 107,ja 109 108,jo 110 3 7 109,js 111 110 109,ye 112 1 111 109,jv 113 3 109,⟨some 114,.val (.bin .num .gtr (.t 112) (.t 113)),(some (109,false))⟩,jn 115 109 114,ja 116 115,jo 117 0 7 116,js 118 117 116,ye 119 0 118 116,yk 120 119 300 116,jn 121 116 120]
abbrev QwS:IL:=[jh 2]
abbrev QwT:IL:=[ja 122 3,jb 123 2 7,jc 124 123,ji 125 1 124,MQ 126 122 125,jb 127 3 7,jc 128 127,ji 129 1 128,MQ 130 126 129,ja 3 130]
abbrev QwU:IL:=[jd 8 0]
abbrev QwV:IL:=[ja 131 8,jb 132 2 7,jc 133 132,ji 134 1 133,jp 135 131 134]
abbrev QwW:IL:=[jb 138 2 7,jc 139 138,ja 140 8,jl 141 3 139 140,jb 142 0 141,jc 143 142,ji 144 0 143,yp 145 144 300,ja 146 145,jo 147 2 7 146,js 148 147 146,jv 149 8 146,zb 150 3 148 149 146,jo 151 2 150 146,js 152 151 146,ye 153 1 152 146,yk 154 153 1 146,jn 155 146 154,ja 156 155,jo 157 2 7 156,js 158 157 156,jv 159 8 156,zb 160 3 158 159 156,jo 161 2 160 156,js 162 161 156,ye 163 1 162 156,yt 164 163 1 156,jv 165 164 156,jk 166 2 7 165,ju 167 166 165,jg 168 8 165,ya 169 3 167 168 165,jk 170 2 169 165,ju 171 170 165,N8 172 8 171 0 165,jk 173 1 172 165,jk 174 2 173 165,ju 175 174 165,ys 176 0 175 165,Bh 177 176 300 165,yx 178 165 177 156,jn 179 156 178]
abbrev QwX:IL:=[jh 2]
abbrev QwY:IL:=[ja 136 8,jm 137 136 1,ja 8 137]
abbrev AO:RC:=.seq (jQ QwV (jX 135 6)) (.seq (.block 7 (jQ QwW (.cond (.t 179) (jQ QwX (.ret)) (.skip)))) (.reg QwY))
abbrev QwZ:IL:=[ja 97 6,jm 98 97 1,ja 6 98]
abbrev AP:RC:=.gho (.drop 7) (.seq (jQ QwP (jX 96 4)) (.seq (.block 5 (jQ QwQ (.seq (jQ QwR (.cond (.t 121) (jQ QwS (.ret)) (.skip))) (jQ QwT (jQ QwU (.block 6 (.loop AO))))))) (.reg QwZ)))
abbrev Qw0:IL:=[ja 180 3,ym 181 180 0,ja 2 181]
abbrev Nl:RC:=jQ QGM (.seq (jQ QGN (.cond (.t 18) (jQ QGO (.ret)) (.skip))) (jQ QGP (.seq (jQ QGQ (.block 0 (.loop AN))) (.seq (jQ QwO (.block 4 (.loop AP))) (jQ Qw0 (.ret))))))
abbrev o17:List RR:=[.tmp 2]
theorem k17:CT 17 182 Nl o17:=ck Tryz.func17 Tryz.ntmps17 (by decide +kernel)
abbrev QGW:IL:=[je 3 3 0,jd 6 0]
abbrev QGX:IL:=[ja 11 2,zi 12 11 1,ja 2 12]
abbrev QGY:IL:=[ja 13 1,yp 14 13 40,ja 15 14,jo 16 2 3 15,js 17 16 15,ye 18 0 17 15,yk 19 18 5000 15,jn 20 15 19,ja 21 20,jo 22 6 3 21,js 23 22 21,ye 24 1 23 21,jv 25 2 21,⟨some 26,.val (.bin .num .gtr (.t 24) (.t 25)),(some (21,false))⟩,jn 27 21 26]
abbrev QGZ:IL:=[jd 6 (-1)]
abbrev QG0:IL:=[ja 28 2,jb 29 6 3,jc 30 29,ji 31 1 30,MQ 32 28 31,ja 2 32]
abbrev QG1:IL:=[jd 7 0]
abbrev QG2:IL:=[ja 33 7,jb 34 6 3,jc 35 34,ji 36 1 35,jp 37 33 36]
abbrev QG3:IL:=[jb 40 6 3,jc 41 40,ja 42 7,jl 43 4 41 42,jb 44 3 43,jc 45 44,ji 46 0 45,yp 47 46 5000]
abbrev QG4:IL:=[jd 6 (-1)]
abbrev QG5:IL:=[ja 38 7,jm 39 38 1,ja 7 39]
abbrev QG6:RC:=.seq (jQ QG2 (jX 37 0)) (.seq (.block 1 (jQ QG3 (.cond (.t 47) (jQ QG4 (.ret)) (.skip)))) (.reg QG5))
abbrev Qw2:IL:=[jd 8 0]
abbrev Qw3:IL:=[ja 48 8,jb 49 3 3,jc 50 49,ji 51 1 50,jp 52 48 51,ja 53 52,jg 54 2 53,GF 55 54 0 53,jj 56 53 55]
abbrev Qw4:IL:=[jb 59 3 3,jc 60 59,ja 61 8,jl 62 7 60 61,jf 63 7 62,ja 64 1,jm 65 64 1,ja 66 2,⟨some 67,.callR (.f 19) [(.t 63),(.t 65),(.t 66)],none⟩,ja 2 67]
abbrev Qw5:IL:=[ja 57 8,jm 58 57 1,ja 8 58]
abbrev AQ:RC:=.seq (jQ Qw3 (jX 56 2)) (.seq (.block 3 (.reg Qw4)) (.reg Qw5))
abbrev Qw6:IL:=[jd 9 0]
abbrev Qw7:IL:=[ja 68 9,jb 69 4 3,jc 70 69,ji 71 1 70,jp 72 68 71,ja 73 72,jg 74 2 73,GF 75 74 0 73,jj 76 73 75]
abbrev Qw8:IL:=[jb 79 4 3,jc 80 79,ja 81 9,jl 82 14 80 81,jb 83 0 82,jf 84 7 83,ja 85 1,jm 86 85 1,ja 87 2,⟨some 88,.callR (.f 19) [(.t 84),(.t 86),(.t 87)],none⟩,ja 2 88]
abbrev Qw9:IL:=[ja 89 2,ym 90 89 0]
abbrev Qxa:IL:=[jb 91 4 3,jc 92 91,ja 93 9,jl 94 14 92 93,jb 95 7 94,jf 96 7 95,ja 97 1,jm 98 97 1,ja 99 2,⟨some 100,.callR (.f 19) [(.t 96),(.t 98),(.t 99)],none⟩,ja 2 100]
abbrev Qxb:IL:=[ja 77 9,jm 78 77 1,ja 9 78]
abbrev AR:RC:=.seq (jQ Qw7 (jX 76 4)) (.seq (.block 5 (jQ Qw8 (jQ Qw9 (.cond (.t 90) (.reg Qxa) (.skip))))) (.reg Qxb))
abbrev Qxc:IL:=[jd 10 0]
abbrev Qxd:IL:=[ja 101 10,jb 102 5 3,jc 103 102,ji 104 1 103,jp 105 101 104,ja 106 105,jg 107 2 106,GF 108 107 0 106,jj 109 106 108]
abbrev Qxe:IL:=[jb 112 5 3,jc 113 112,ja 114 10,jl 115 8 113 114,jb 116 1 115,jf 117 7 116,ja 118 1,jm 119 118 1,ja 120 2,⟨some 121,.callR (.f 19) [(.t 117),(.t 119),(.t 120)],none⟩,ja 2 121]
abbrev Qxf:IL:=[ja 110 10,jm 111 110 1,ja 10 111]
abbrev AS:RC:=.seq (jQ Qxd (jX 109 6)) (.seq (.block 7 (.reg Qxe)) (.reg Qxf))
abbrev Qxg:IL:=[ja 122 2,ja 6 122]
abbrev r19:RC:=jQ QGW (jQ QGX (.seq (jQ QGY (.cond (.t 27) (jQ QGZ (.ret)) (.skip))) (jQ QG0 (.seq (jQ QG1 (.block 0 (.loop QG6))) (.seq (jQ Qw2 (.block 2 (.loop AQ))) (.seq (jQ Qw6 (.block 4 (.loop AR))) (.seq (jQ Qxc (.block 6 (.loop AS))) (jQ Qxg (.ret)))))))))
abbrev o19:List RR:=[.tmp 6]
theorem k19:CT 19 123 r19 o19:=ck Tryz.func19 Tryz.ntmps19 (by decide +kernel)
end Go.Proofs.YtdhlbgejhcejcaaGreatDoor.Rc

namespace Go.Proofs.YtdhlbgejhcejcaaGreatDoor.Va
open Go Am Rc Bt Br Up So

section
variable {α β:Type}{lt:β→β→Bool}{lt':α→α→Bool}{F:α→β}(h:∀x y,lt (F x) (F y)=lt' x y)
include h
theorem Nm (a:α):∀l:List α,ZI lt (F a) (l.map F)=(ZI lt' a l).map F
 | []=>rfl
 |x :: l=>by
  rw[QUT,ZI,ZI,h x a];cases lt' x a
  ·rfl
  ·show F x :: ZI lt (F a) (l.map F)=_;rw[Nm a l];rfl
theorem Wj:∀l:List α,QC lt (l.map F)=(QC lt' l).map F
 | []=>rfl
 |a :: l=>by
  rw[QUT,QC,Wj l,Nm h a];rfl
end
theorem Nn {α β:Type}{lt:β→β→Bool}(h:SW lt)(f:α→β):SW fun x y=>lt (f x) (f y) where
 irr _:=h.irr _
 tr _ _ _:=h.tr _ _ _
 nt _ _ _:=h.nt _ _ _
theorem Qxh:SW fun a b:Int=>decide (a<b) where
 irr x:=by simp
 tr x y z h k:=by simp only[QUs]at *;omega
 nt x y z h k:=by simp only[QWj]at *;omega
theorem FI (a b:Int):decide (cN a b<0)=decide (a<b):=by
 unfold cN;split
 ·rename_i h;simp[h]
 ·rename_i h;split<;>simp[h]
theorem AT (a b:List UInt8):decide (cS a b<0)=Op.bytesLess a b:=by
 unfold cS;cases Op.bytesLess a b
 ·cases(a==b)<;>simp
 ·simp

theorem UR {z:Nat}(hz:z≠0){xs:List AV}(h:xs.all (fun e=>e.cells.length==z)=true)(hf:QP xs=[]):xs=[]:=by
 cases xs with
 |nil=>rfl
 |cons x xs=>
  have hl:x.cells.length=z:=by simpa using QUz.1 h x (by simp)
  have:x.cells=[]:=(QWy.1 hf).1;rw[this]at hl;exact absurd hl.symm hz

theorem v95 (xs:List AV)(fr:Nat→Ob)(m:Qo)(h:xs.all (fun e=>e.cells.length==4)=true)(hn:xs.length≤1048576)(hr:Qu (fr 1000)=true) :
  Qg Tryz.prog 95 [.list xs] (fr :: m) (fun x m1=>x=.vec 0 1000 (Xn (fr 1000)) 0 xs.length false∧m1=QI fr 1000 (.vec (Xn (fr 1000)) 4 xs) :: m):=by
 have hng:QD (fr :: m) 0 1000=Xn (fr 1000):=Jn;refine k95.go (by simp) ?_;simp only[SX,Cj,Ck,Qa,seval];refine Z3 (ys:=xs) (by simp only[Qa,seval]) ?_ ?_
 ·simp only[Cn,Qa,seval];refine ZC rfl ?_;simp only[Qa,seval];refine QO (site:=5) (g:=1) (xs:=[]) (ys:=xs) rfl rfl rfl rfl rfl h (by simp[maxLen];omega) (by simp;omega) ?_;simp only[Qa,seval];refine XQ (l:=0) (site:=5) (g:=2) (o:=0) (n:=xs.length) (q:=false) (sz:=4) (xs:=xs) (by simp only[QU3,Qa,seval]) (by simp only[Qa,seval]) (by simp) (by decide) hr ?_;simp only[hng,Vd,eE,seval]
  try simp[AV.still,AV.un,Zm,XC]
 ·intro he;have hx:xs=[]:=by
   rcases he with he|he
   ·exact he
   ·exact UR (by decide) h he
  subst hx;simp only[Cm,Qa,seval];refine Zp (by simp only[Qa,seval]) rfl ?_;simp only[Qa,seval];refine XQ (l:=0) (site:=2) (g:=1) (o:=0) (n:=0) (q:=false) (sz:=4) (xs:=[]) (by simp only[Qa,seval]) (by simp only[Qa,seval]) (by simp) (by decide) hr ?_;simp only[hng,Vd,eE,seval]
  try simp[AV.still,AV.un,Zm,XC]

theorem QPW (xs:List AV)(fr:Nat→Ob)(m:Qo)(h:xs.all (fun e=>e.cells.length==8)=true)(hn:xs.length≤1048576)(hr:Qu (fr 1000)=true) :
  Qg Tryz.prog 185 [.list xs] (fr :: m) (fun x m1=>x=.vec 0 1000 (Xn (fr 1000)) 0 xs.length false∧m1=QI fr 1000 (.vec (Xn (fr 1000)) 8 xs) :: m):=by
 have hng:QD (fr :: m) 0 1000=Xn (fr 1000):=Jn;refine RI.go (by simp) ?_;simp only[Cq,Bp,Bq,Qa,seval];refine Z3 (ys:=xs) (by simp only[Qa,seval]) ?_ ?_
 ·simp only[Bu,Qa,seval];refine ZC rfl ?_;simp only[Qa,seval];refine QO (site:=5) (g:=1) (xs:=[]) (ys:=xs) rfl rfl rfl rfl rfl h (by simp[maxLen];omega) (by simp;omega) ?_;simp only[Qa,seval];refine XQ (l:=0) (site:=5) (g:=2) (o:=0) (n:=xs.length) (q:=false) (sz:=8) (xs:=xs) (by simp only[QU3,Qa,seval]) (by simp only[Qa,seval]) (by simp) (by decide) hr ?_;simp only[hng,Dz,eE,seval]
  try simp[AV.still,AV.un,Zm,XC]
 ·intro he;have hx:xs=[]:=by
   rcases he with he|he
   ·exact he
   ·exact UR (by decide) h he
  subst hx;simp only[Bs,Qa,seval];refine Zp (by simp only[Qa,seval]) rfl ?_;simp only[Qa,seval];refine XQ (l:=0) (site:=2) (g:=1) (o:=0) (n:=0) (q:=false) (sz:=8) (xs:=[]) (by simp only[Qa,seval]) (by simp only[Qa,seval]) (by simp) (by decide) hr ?_;simp only[hng,Dz,eE,seval]
  try simp[AV.still,AV.un,Zm,XC]

theorem QPX (xs:List AV)(fr:Nat→Ob)(m:Qo)(h:xs.all (fun e=>e.cells.length==14)=true)(hn:xs.length≤1048576)(hr:Qu (fr 1000)=true) :
  Qg Tryz.prog 228 [.list xs] (fr :: m) (fun x m1=>x=.vec 0 1000 (Xn (fr 1000)) 0 xs.length false∧m1=QI fr 1000 (.vec (Xn (fr 1000)) 14 xs) :: m):=by
 have hng:QD (fr :: m) 0 1000=Xn (fr 1000):=Jn;refine QMp.go (by simp) ?_;simp only[Qt0,Ph,Pi,Qa,seval];refine Z3 (ys:=xs) (by simp only[Qa,seval]) ?_ ?_
 ·simp only[Pk,Qa,seval];refine ZC rfl ?_;simp only[Qa,seval];refine QO (site:=5) (g:=1) (xs:=[]) (ys:=xs) rfl rfl rfl rfl rfl h (by simp[maxLen];omega) (by simp;omega) ?_;simp only[Qa,seval];refine XQ (l:=0) (site:=5) (g:=2) (o:=0) (n:=xs.length) (q:=false) (sz:=14) (xs:=xs) (by simp only[QU3,Qa,seval]) (by simp only[Qa,seval]) (by simp) (by decide) hr ?_;simp only[hng,RQ,eE,seval]
  try simp[AV.still,AV.un,Zm,XC]
 ·intro he;have hx:xs=[]:=by
   rcases he with he|he
   ·exact he
   ·exact UR (by decide) h he
  subst hx;simp only[Pj,Qa,seval];refine Zp (by simp only[Qa,seval]) rfl ?_;simp only[Qa,seval];refine XQ (l:=0) (site:=2) (g:=1) (o:=0) (n:=0) (q:=false) (sz:=14) (xs:=[]) (by simp only[Qa,seval]) (by simp only[Qa,seval]) (by simp) (by decide) hr ?_;simp only[hng,RQ,eE,seval]
  try simp[AV.still,AV.un,Zm,XC]

section rows
variable {fr:Nat→Ob}{m:Qo}{s g z n i:Nat}{xs l:List AV}
theorem Qxi (h:fr s=.vec g z xs)(hi:i<n):Qb (fr :: m) z none (.vec 0 s g 0 n false) ((i:Nat):Int)=some (.vptr 0 s g i 0):=by
 have e:Am.Qf (fr :: m) 0 s=.vec g z xs:=h;simp only[Qb,e,QVN];rw[QUQ (by omega),QUQ ⟨trivial,trivial,hi⟩,QU3]
theorem Su {k:Nat}(h:fr s=.vec g z xs)(hx:xs[i]? = some (.agg l))(hk:k≤l.length):Xb (fr :: m) (some k) (.vptr 0 s g i 0)=some (.agg (l.take k)):=by
 have e:Am.Qf (fr :: m) 0 s=.vec g z xs:=h;simp only[Xb,e,if_true,hx,Am.part];show(if 0+k≤l.length then some (AV.agg ((l.drop 0).take k))else none)=_;rw[QUQ (by omega),QU4]
theorem QPY {o:Nat}(h:fr s=.vec g z xs)(hx:xs[i]? = some (.agg l)):Xb (fr :: m) none (.vptr 0 s g i o)=l[o]?:=by
 have e:Am.Qf (fr :: m) 0 s=.vec g z xs:=h;simp only[Xb,e,if_true,hx,Am.part,AV.cells]
end rows

def eS (x:AV):Prop:=∃s:Int×V,x=V.sav s
theorem QG7 (s:Int×V):Ez eS 8 (V.sav s):=by
 refine⟨⟨s,rfl⟩,?_⟩;rw[ZS];exact⟨_,rfl,rfl,rfl,rfl,fun _=>rfl⟩
def nA:AV→Int
 |.agg (.int _ n :: _)=>n
 |_=>0
def cA (x y:AV):Int:=cN (nA x) (nA y)
theorem CZ (x y:AV):Tz.lt cA x y=decide (nA x<nA y):=FI _ _
theorem AU:SW (Tz.lt cA):=by
 have e:Tz.lt cA=fun x y=>decide (nA x<nA y):=by funext x y;exact CZ x y
 rw[e];exact Nn Qxh nA
theorem Dj (s:Int×V):nA (V.sav s)=s.1:=by rw[ZS];rfl

theorem QPZ (x y:Int×V):Qk Tryz.prog 187 [V.sav x,V.sav y] (.int .i64 (cN x.1 y.1)):=by
 rw[ZS,ZS];refine Qhl.fn (by simp) ?_;simp only[eE,seval];refine aC (CN x.1 y.1) ?_;simp only[Qa,seval]

theorem QP0:Tz.Cp Tryz.prog 8 eS 187 cA where
 call x y hx hy:=by
  obtain⟨s,rfl⟩:=hx.1;obtain⟨t,rfl⟩:=hy.1;unfold cA;rw[Dj,Dj];exact QPZ s t
 sw:=AU

theorem Sv (l:List (Int×V)):QC (Tz.lt cA) (l.map V.sav)=(JU l).map V.sav:=Wj (fun x y=>by rw[CZ,Dj,Dj]) l
theorem Yq (l:List (Int×V)):(l.map V.sav).all (fun e=>e.cells.length==8)=true:=by
 rw[List.all_map,QUz];intro x _;simp[ZS,AV.cells]
theorem ezS (l:List (Int×V)):∀x∈l.map V.sav,Ez eS 8 x:=by
 intro x hx;obtain⟨s,_,rfl⟩:=QVG.1 hx;exact QG7 s

def SoI (T:List (Int×V))(k:Nat)(st:St):Prop :=
 ∃f fr i g h,st=⟨f,[fr],[]⟩∧k=T.length-i∧i≤T.length∧f 3=.vec 0 1000 g 0 T.length false∧f 4=.vec 0 4 h 0 i false∧f 11=.vec 0 1000 g 0 T.length false∧f 12=.int .i64 (T.length:Nat)∧f 13=.int .i64 (i:Nat)∧fr 1000=.vec g 8 (T.map V.sav)∧fr 4=.vec h 8 ((T.take i).map V.sav)∧∀s∈[6],(fr s).isRow=false

theorem v96 (sl:List (Int×V))(hn:sl.length≤1048576)(hu:sl.Pairwise fun y x=>(y.1==x.1)=false):Qk Tryz.prog 96 [.list (sl.map V.sav)] (.list ((JU sl).map V.sav)):=by
 have cl:=fun fr hr=>QPW (sl.map V.sav) fr [] (Yq sl) (by rw[QVh];exact hn) hr
 have cs:=fun g (m:Qo) (hl:Am.Qf m 0 1000=.vec g 8 (sl.map V.sav))=>Tz.Ss Tg.QwH (by decide) QP0 0 1000 g (sl.map V.sav) m hl (ezS sl) (by rw[QVh];omega)
 simp only[Sv,QVh]at cs;have hperm:(JU sl).Perm sl:=Q3 _;have hlen:(JU sl).length=sl.length:=hperm.length_eq;have hun:(JU sl).Pairwise fun y x=>(y.1==x.1)=false:=(hperm.pairwise_iff fun {a b} h=>by rw[Bool.beq_comm];exact h).2 hu
 generalize JU sl=T at *;refine k96.fn (by simp) ?_;simp only[Qa,seval];refine Qj (cl _ rfl) (by simp only[QUT,QVn,Qa,seval]) ?_;simp only[QVh,Qa,seval];refine Qj (cs _ _ (by simp only[eE,seval]<;>rfl)) (by simp only[QUT,QVn,Qa,seval]) ?_;simp only[eE,seval];refine Zp (by simp only[Qa,seval]) (by simp only[Qa,seval]) ?_;simp only[eE,seval];refine Qd (SoI T) _ ⟨_,_,0,_,_,rfl,rfl,QUv _,(by rw[hlen];exact(by rfl)),(by rfl),(by rw[hlen];exact(by rfl)),(by rw[hlen];exact(by rfl)),(by rfl),(by rfl),(by rfl),by simp<;>rfl⟩ ?_;rintro _ st ⟨f0,fr0,i,g,h,rfl,rfl,hil,h30,h40,h110,h120,h130,mR0,m40,r6⟩;refine QK (a:=_) [6] r6 ?_;intro f fr hf hm hn6;have h3:f 3=.vec 0 1000 g 0 T.length false:=by rw[hf,h30]<;>rfl
 have h4:f 4=.vec 0 4 h 0 i false:=by rw[hf,h40]<;>rfl
 have h11:f 11=.vec 0 1000 g 0 T.length false:=by rw[hf,h110]<;>rfl
 have h12:f 12=.int .i64 (T.length:Nat):=by rw[hf,h120]<;>rfl
 have h13:f 13=.int .i64 (i:Nat):=by rw[hf,h130]<;>rfl
 have mR:fr 1000=.vec g 8 (T.map V.sav):=by rw[hm 1000 (by decide),mR0]<;>rfl
 have m4:fr 4=.vec h 8 ((T.take i).map V.sav):=by rw[hm 4 (by decide),m40]<;>rfl
 have n6:=hn6 6 (by decide);clear hf hm hn6 h30 h40 h110 h120 h130 mR0 m40 r6;simp only[h12,h13,Qa,seval];by_cases hlt:i<T.length
 ·obtain⟨x,hi⟩:∃x,T[i]? = some x:=⟨T[i],QUo hlt⟩;have hg:=Jv hi;have e1:=Qm i _ hlt (by simp only[maxLen];omega);have ia:∀(fr:Nat→Ob) (j:Nat),fr 1000=.vec g 8 (T.map V.sav)→j<T.length→Qb [fr] 8 none (.vec 0 1000 g 0 T.length false) ((j:Nat):Int)=some (.vptr 0 1000 g j 0):=fun fr j h hj=>Qxi h hj
  have la:∀(fr:Nat→Ob),fr 1000=.vec g 8 (T.map V.sav)→Xb [fr] (some 8) (.vptr 0 1000 g i 0)=some (.agg [.int .i64 x.1,.int .i64 x.2.kd,.int .u64 (x.2.bits:Nat),.str x.2.text,.list (x.2.list.map V.av),.list (x.2.pairs.map V.pav),.list (x.2.slots.map V.sav),.list (x.2.raws.map R.av)]):=fun fr h=>Su h hg (by simp)
  have fin:∀(f':Fr) (fr':Nat→Ob) (h':Nat),f' 3=.vec 0 1000 g 0 T.length false→f' 4=.vec 0 4 h' 0 (i+1) false→f' 11=.vec 0 1000 g 0 T.length false→f' 12=.int .i64 (T.length:Nat)→f' 13=.int .i64 ((i+1:Nat):Int)→fr' 1000=.vec g 8 (T.map V.sav)→fr' 4=.vec h' 8 ((T.take i).map V.sav++[V.sav x])→(∀s∈[6],(fr' s).isRow=false)→∃k,k<T.length-i∧SoI T k ⟨f',[fr'],[]⟩:=by
   intro f' fr' h' a3 a4 a11 a12 a13 b1 b4 b6;exact⟨T.length-(i+1),by omega,f',fr',i+1,g,h',rfl,rfl,by omega,a3,a4,a11,a12,a13,b1,by rw[b4,QV6,hi];simp,b6⟩
  have hti:((T.take i).map V.sav).length=i:=by rw[QVh,QVj];omega
  simp only[Ql hlt,ia,la,mR,hlt,n6,h3,h11,h13,e1,eE,seval];by_cases hl:i+1=T.length
  ·have d1:(((i+1:Nat):Int)==(T.length:Int))=true:=by simp;omega
   simp only[d1,h4,eE,seval];refine QV (l:=[V.sav x]) rfl rfl rfl (by rw[ZS];rfl) ?_;refine QO (site:=4) (g:=h) (n:=i) (xs:=(T.take i).map V.sav) (ys:=[V.sav x]) (by rfl) (by exact m4) rfl hti.symm rfl (Yq [x]) (by simp only[QUC,QVi,maxLen];omega) (by simp only[QUC,QVi];omega) ?_;simp only[h13,e1,Qa,seval];exact fin _ _ (h+1) (by exact h3) (by rfl) (by exact h11) (by exact h12) (by rfl) (by exact mR) (by rfl) (by simp<;>rfl)
  ·have d1:(((i+1:Nat):Int)==(T.length:Int))=false:=by simp;omega
   have hlt1:i+1<T.length:=by omega
   obtain⟨y,hj⟩:∃y,T[i+1]? = some y:=⟨T[i+1],QUo hlt1⟩;have hgj:=Jv hj;have lc:∀(fr:Nat→Ob),fr 1000=.vec g 8 (T.map V.sav)→Xb [fr] none (.vptr 0 1000 g (i+1) 0)=some (.int .i64 y.1):=fun fr h=>QPY h hgj
   have hne:(x.1 != y.1)=true:=by
    rw[QWt]at hun;have:=hun i (i+1) hlt hlt1 (by omega);rw[(QUn.1 hi).2,(QUn.1 hj).2]at this
    simpa using this
   simp only[d1,ia,lc,mR,hlt1,hne,Wu,QU3,h3,h4,e1,eE,seval];refine QV (l:=[V.sav x]) rfl rfl rfl (by rw[ZS];rfl) ?_;refine QO (site:=4) (g:=h) (n:=i) (xs:=(T.take i).map V.sav) (ys:=[V.sav x]) (by rfl) (by exact m4) rfl hti.symm rfl (Yq [x]) (by simp only[QUC,QVi,maxLen];omega) (by simp only[QUC,QVi];omega) ?_;simp only[h13,e1,Qa,seval];exact fin _ _ (h+1) (by exact h3) (by rfl) (by exact h11) (by exact h12) (by rfl) (by exact mR) (by rfl) (by simp<;>rfl)
 ·have e:i=T.length:=by omega
  subst e;rw[QVX]at m4;simp only[Qx hlt,h4,eE,seval];simp[AV.un,Zm,XC,m4];rw[QUV (by rw[QVh];exact QUm _)]

def eP (P:PL)(k:Int)(x:AV):Prop:=∃p:V×V,x=V.pav p∧p.1.one P k (-1)=0∧p.1.bits<18446744073709551616
theorem ezP {P:PL}{k:Int}{p:V×V}(h:p.1.one P k (-1)=0)(hb:p.1.bits<18446744073709551616):Ez (eP P k) 14 (V.pav p):=by
 refine⟨⟨p,rfl,h,hb⟩,?_⟩;rw[Z5];exact⟨_,rfl,rfl,rfl,rfl,fun _=>rfl⟩
def kV:AV→V
 |.agg (_ :: .int _ b :: .str t :: _)=>.mk 0 b.toNat t [] [] [] []
 |_=>.mk 0 0 [] [] [] [] []
theorem Dk (p:V×V):kV (V.pav p)=.mk 0 p.1.bits p.1.text [] [] [] []:=by rw[Z5];rfl
def cP (k:Int)(x y:AV):Int:=Hw k (kV x).bits (kV x).text (kV y).bits (kV y).text
theorem P9 (k:Int)(a b:V):decide (Hw k a.bits a.text b.bits b.text<0)=kl k a b:=by
 unfold Hw kl;split
 ·exact AT _ _
 ·split
  ·exact FI _ _
  ·exact FI _ _
theorem QG8 (k:Int):SW (Tz.lt (cP k)):=by
 have e:Tz.lt (cP k)=fun x y=>kl k (kV x,kV x).1 (kV y,kV y).1:=by funext x y;exact P9 k _ _
 rw[e];exact Nn (Y4 k) fun x=>(kV x,kV x)

theorem QP1 {P:PL}{k:Int}(hk:X8 k)(x y:V×V)(hx:x.1.one P k (-1)=0)(hy:y.1.one P k (-1)=0):Qk Tryz.prog 230 [V.pav x,V.pav y] (.int .i64 (Hw k x.1.bits x.1.text y.1.bits y.1.text)):=by
 have h:=QwC k hk x.1.bits y.1.bits x.1.text y.1.text;rw[←(ZL hx).1,←(ZL hy).1,Qr,Qr]at h;rw[Z5,Z5];refine QMs.fn (by simp) ?_;simp only[QUU,QVu,QU4,eE,seval];refine aC h ?_;simp only[Qa,seval]

theorem QP2 {P:PL}{k:Int}(hk:X8 k):Tz.Cp Tryz.prog 14 (eP P k) 230 (cP k) where
 call x y hx hy:=by
  obtain⟨p,rfl,h1,_⟩:=hx.1;obtain⟨q,rfl,h2,_⟩:=hy.1;unfold cP;rw[Dk,Dk];exact QP1 hk p q h1 h2
 sw:=QG8 k

theorem Sw (k:Int)(l:List (V×V)):QC (Tz.lt (cP k)) (l.map V.pav)=(QZ k l).map V.pav:=Wj (fun x y=>by
 show decide (cP k (V.pav x) (V.pav y)<0)=_;unfold cP;rw[Dk,Dk];exact P9 k x.1 y.1) l
theorem Wk (l:List (V×V)):(l.map V.pav).all (fun e=>e.cells.length==14)=true:=by
 rw[List.all_map,QUz];intro x _;simp[Z5,AV.cells]

def PoI (T:List (V×V))(k:Nat)(st:St):Prop :=
 ∃f fr i g h,st=⟨f,[fr],[]⟩∧k=T.length-i∧i≤T.length∧f 3=.vec 0 1000 g 0 T.length false∧f 4=.vec 0 4 h 0 i false∧f 11=.vec 0 1000 g 0 T.length false∧f 12=.int .i64 (T.length:Nat)∧f 13=.int .i64 (i:Nat)∧fr 1000=.vec g 14 (T.map V.pav)∧fr 4=.vec h 14 ((T.take i).map V.pav)∧∀s∈[6],(fr s).isRow=false

theorem QP3 {P:PL}{k:Int}(hk:X8 k)(ps:List (V×V))(hn:ps.length≤1048576)(h1:∀p∈ps,p.1.one P k (-1)=0)(hb:∀p∈ps,p.1.bits<18446744073709551616)(hu:ps.Pairwise fun q p=>Zw q.1 p.1=false):Qk Tryz.prog 189 [.list (ps.map V.pav)] (.list ((QZ k ps).map V.pav)):=by
 have cl:=fun fr hr=>QPX (ps.map V.pav) fr [] (Wk ps) (by rw[QVh];exact hn) hr
 have ez:∀x∈ps.map V.pav,Ez (eP P k) 14 x:=by
  intro x hx;obtain⟨p,hp,rfl⟩:=QVG.1 hx;exact ezP (h1 p hp) (hb p hp)
 have cs:=fun g (m:Qo) (hl:Am.Qf m 0 1000=.vec g 14 (ps.map V.pav))=>Tz.Ss Tg.QwI (by decide) (QP2 (P:=P) hk) 0 1000 g (ps.map V.pav) m hl ez (by rw[QVh];omega)
 simp only[Sw,QVh]at cs;have hperm:(QZ k ps).Perm ps:=Q3 _;have hlen:(QZ k ps).length=ps.length:=hperm.length_eq;have hun:(QZ k ps).Pairwise fun q p=>Zw q.1 p.1=false:=(hperm.pairwise_iff fun {a b} h=>by unfold Zw at *;rw[←h,Bool.beq_comm (a:=b.1.bits),Bool.beq_comm (a:=b.1.text)]).2 hu
 have h1T:∀p∈QZ k ps,p.1.one P k (-1)=0:=fun p hp=>h1 p (hperm.mem_iff.1 hp)
 have hbT:∀p∈QZ k ps,p.1.bits<18446744073709551616:=fun p hp=>hb p (hperm.mem_iff.1 hp)
 generalize QZ k ps=T at *;refine QLN.fn (by simp) ?_;simp only[Qa,seval];refine Qj (cl _ rfl) (by simp only[QUT,QVn,Qa,seval]) ?_;simp only[QVh,Qa,seval];refine Qj (cs _ _ (by simp only[eE,seval]<;>rfl)) (by simp only[QUT,QVn,Qa,seval]) ?_;simp only[eE,seval];refine Zp (by simp only[Qa,seval]) (by simp only[Qa,seval]) ?_;simp only[eE,seval];refine Qd (PoI T) _ ⟨_,_,0,_,_,rfl,rfl,QUv _,(by rw[hlen];exact(by rfl)),(by rfl),(by rw[hlen];exact(by rfl)),(by rw[hlen];exact(by rfl)),(by rfl),(by rfl),(by rfl),by simp<;>rfl⟩ ?_;rintro _ st ⟨f0,fr0,i,g,h,rfl,rfl,hil,h30,h40,h110,h120,h130,mR0,m40,r6⟩;refine QK (a:=_) [6] r6 ?_;intro f fr hf hm hn6;have h3:f 3=.vec 0 1000 g 0 T.length false:=by rw[hf,h30]<;>rfl
 have h4:f 4=.vec 0 4 h 0 i false:=by rw[hf,h40]<;>rfl
 have h11:f 11=.vec 0 1000 g 0 T.length false:=by rw[hf,h110]<;>rfl
 have h12:f 12=.int .i64 (T.length:Nat):=by rw[hf,h120]<;>rfl
 have h13:f 13=.int .i64 (i:Nat):=by rw[hf,h130]<;>rfl
 have mR:fr 1000=.vec g 14 (T.map V.pav):=by rw[hm 1000 (by decide),mR0]<;>rfl
 have m4:fr 4=.vec h 14 ((T.take i).map V.pav):=by rw[hm 4 (by decide),m40]<;>rfl
 have n6:=hn6 6 (by decide);clear hf hm hn6 h30 h40 h110 h120 h130 mR0 m40 r6;simp only[h12,h13,Qa,seval];by_cases hlt:i<T.length
 ·obtain⟨x,hi⟩:∃x,T[i]? = some x:=⟨T[i],QUo hlt⟩;have hg:=ZT hi;have e1:=Qm i _ hlt (by simp only[maxLen];omega);have ia:∀(fr:Nat→Ob) (j:Nat),fr 1000=.vec g 14 (T.map V.pav)→j<T.length→Qb [fr] 14 none (.vec 0 1000 g 0 T.length false) ((j:Nat):Int)=some (.vptr 0 1000 g j 0):=fun fr j h hj=>Qxi h hj
  have la:∀(fr:Nat→Ob),fr 1000=.vec g 14 (T.map V.pav)→Xb [fr] (some 14) (.vptr 0 1000 g i 0)=some (.agg [.int .i64 x.1.kd,.int .u64 (x.1.bits:Nat),.str x.1.text,.list (x.1.list.map V.av),.list (x.1.pairs.map V.pav),.list (x.1.slots.map V.sav),.list (x.1.raws.map R.av),.int .i64 x.2.kd,.int .u64 (x.2.bits:Nat),.str x.2.text,.list (x.2.list.map V.av),.list (x.2.pairs.map V.pav),.list (x.2.slots.map V.sav),.list (x.2.raws.map R.av)]):=fun fr h=>Su h hg (by simp)
  have fin:∀(f':Fr) (fr':Nat→Ob) (h':Nat),f' 3=.vec 0 1000 g 0 T.length false→f' 4=.vec 0 4 h' 0 (i+1) false→f' 11=.vec 0 1000 g 0 T.length false→f' 12=.int .i64 (T.length:Nat)→f' 13=.int .i64 ((i+1:Nat):Int)→fr' 1000=.vec g 14 (T.map V.pav)→fr' 4=.vec h' 14 ((T.take i).map V.pav++[V.pav x])→(∀s∈[6],(fr' s).isRow=false)→∃k,k<T.length-i∧PoI T k ⟨f',[fr'],[]⟩:=by
   intro f' fr' h' a3 a4 a11 a12 a13 b1 b4 b6;exact⟨T.length-(i+1),by omega,f',fr',i+1,g,h',rfl,rfl,by omega,a3,a4,a11,a12,a13,b1,by rw[b4,QV6,hi];simp,b6⟩
  have hti:((T.take i).map V.pav).length=i:=by rw[QVh,QVj];omega
  simp only[Ql hlt,ia,la,mR,hlt,n6,h3,h11,h13,e1,eE,seval];by_cases hl:i+1=T.length
  ·have d1:(((i+1:Nat):Int)==(T.length:Int))=true:=by simp;omega
   simp only[d1,h4,eE,seval];refine QV (l:=[V.pav x]) rfl rfl rfl (by rw[Z5];rfl) ?_;refine QO (site:=4) (g:=h) (n:=i) (xs:=(T.take i).map V.pav) (ys:=[V.pav x]) (by rfl) (by exact m4) rfl hti.symm rfl (Wk [x]) (by simp only[QUC,QVi,maxLen];omega) (by simp only[QUC,QVi];omega) ?_;simp only[h13,e1,Qa,seval];exact fin _ _ (h+1) (by exact h3) (by rfl) (by exact h11) (by exact h12) (by rfl) (by exact mR) (by rfl) (by simp<;>rfl)
  ·have d1:(((i+1:Nat):Int)==(T.length:Int))=false:=by simp;omega
   have hlt1:i+1<T.length:=by omega
   obtain⟨y,hj⟩:∃y,T[i+1]? = some y:=⟨T[i+1],QUo hlt1⟩;have hgj:=ZT hj;have lc:∀(fr:Nat→Ob),fr 1000=.vec g 14 (T.map V.pav)→Xb [fr] (some 7) (.vptr 0 1000 g (i+1) 0)=some (.agg [.int .i64 y.1.kd,.int .u64 (y.1.bits:Nat),.str y.1.text,.list (y.1.list.map V.av),.list (y.1.pairs.map V.pav),.list (y.1.slots.map V.sav),.list (y.1.raws.map R.av)]):=fun fr h=>by
    rw[Su h hgj (by simp)];rfl
   have hx1:=h1T x (QUA hi);have hy1:=h1T y (QUA hj);have hne:Zw x.1 y.1=false:=by
    rw[QWt]at hun;have:=hun i (i+1) hlt hlt1 (by omega);rw[(QUn.1 hi).2,(QUn.1 hj).2]at this;exact this
   have hq:=QwD k hk x.1.bits y.1.bits x.1.text y.1.text;rw[←(ZL hx1).1,←(ZL hy1).1,Vz hk hx1 hy1 (hbT x (QUA hi)) (hbT y (QUA hj)),hne,Qr,Qr]at hq;simp only[d1,ia,lc,mR,hlt1,Wu,QU3,QUU,QVu,QU4,h3,e1,eE,seval];refine aC hq ?_;simp only[h4,eE,seval];refine QV (l:=[V.pav x]) rfl rfl rfl (by rw[Z5];rfl) ?_;refine QO (site:=4) (g:=h) (n:=i) (xs:=(T.take i).map V.pav) (ys:=[V.pav x]) (by rfl) (by exact m4) rfl hti.symm rfl (Wk [x]) (by simp only[QUC,QVi,maxLen];omega) (by simp only[QUC,QVi];omega) ?_;simp only[h13,e1,Qa,seval];exact fin _ _ (h+1) (by exact h3) (by rfl) (by exact h11) (by exact h12) (by rfl) (by exact mR) (by rfl) (by simp<;>rfl)
 ·have e:i=T.length:=by omega
  subst e;rw[QVX]at m4;simp only[Qx hlt,h4,eE,seval];simp[AV.un,Zm,XC,m4];rw[QUV (by rw[QVh];exact QUm _)]

def eR (x:AV):Prop:=∃f:R,x=f.av
theorem QG9 (f:R):Ez eR 4 f.av:=⟨⟨f,rfl⟩,_,rfl,rfl,rfl,rfl,fun _=>rfl⟩
theorem QP4 (x y:R):Qk Tryz.prog 100 [x.av,y.av] (.int .i64 (cN x.num y.num)):=by
 refine QJ9.fn (by simp) ?_;simp only[R.av,eE,seval];refine aC (CN x.num y.num) ?_;simp only[Qa,seval]
theorem QP5:Tz.Cp Tryz.prog 4 eR 100 cA where
 call x y hx hy:=by
  obtain⟨s,rfl⟩:=hx.1;obtain⟨t,rfl⟩:=hy.1;exact QP4 s t
 sw:=AU
theorem Sx (l:List R):QC (Tz.lt cA) (l.map R.av)=(X7 l).map R.av:=Wj (fun x y=>by rw[CZ];rfl) l
theorem WN (l:List R):(l.map R.av).all (fun e=>e.cells.length==4)=true:=by
 rw[List.all_map,QUz];intro x _;rfl
theorem ezR (l:List R):∀x∈l.map R.av,Ez eR 4 x:=by
 intro x hx;obtain⟨s,_,rfl⟩:=QVG.1 hx;exact QG9 s

theorem Ra (v:V):v.nsc.av=.agg [.int .i64 v.kd,.int .u64 ((Xm v.kd v.bits:Nat):Int),.str v.text,.list (v.list.map V.av),.list (v.pairs.map V.pav),.list (v.slots.map V.sav),.list (v.raws.map R.av)]:=by
 rw[Qr];rfl
theorem w79 (b:Nat):Qk Tryz.prog 79 [.int .u64 (b:Nat)] (.int .i64 (Yw b:Nat)):=by
 refine k79.fn (by simp) ?_;have hm:(b:Int).tmod 9223372036854775808=((b % 9223372036854775808:Nat):Int):=by
  rw[Int.tmod_eq_emod_of_nonneg (by omega)];omega
 simp only[hm,Qa,seval];unfold Yw;generalize b % 9223372036854775808=z
 repeat' (first|(refine Xr (fun h=>?_) (fun h=>?_)<;>simp only[h,Qa,seval])|(refine X3 (fun h=>?_) (fun h=>?_)<;>simp only[h,Qp,eE,seval])|(refine X4 (fun h=>?_) (fun h=>?_)<;>simp only[h,Qp,eE,seval]))
 all_goals(simp only[QUs,QWj,QUt,QV4,ne_eq]at *)
 all_goals((repeat' split)<;>first|rfl|(exfalso;omega))

theorem w77 (b:Nat)(hb:b<18446744073709551616):Qk Tryz.prog 77 [.int .u64 (b:Nat)] (.int .i64 (Yw b:Nat)):=by
 refine k77.fn (by simp) ?_;have a1:bits .and .u64 (b:Int) 9218868437227405312=(((b / 4503599627370496 % 2048)*4503599627370496:Nat):Int):=by
  have:=U4 b 9218868437227405312 hb (by decide);rw[PJ]at this;exact this
 have a2:bits .and .u64 (b:Int) 4503599627370495=((b % 4503599627370496:Nat):Int):=by
  have:=U4 b 4503599627370495 hb (by decide);rw[PH]at this;exact this
 simp only[a1,a2,Qa,seval];unfold Yw
 repeat' (first|(refine Xr (fun h=>?_) (fun h=>?_)<;>simp only[h,Qa,seval])|(refine X3 (fun h=>?_) (fun h=>?_)<;>simp only[h,Qp,Qa,seval])|(refine X4 (fun h=>?_) (fun h=>?_)<;>simp only[h,Qp,eE,seval]))
 all_goals(simp only[QUt,QUN,bne_eq_false_iff_eq,QV4,ne_eq]at *)
 all_goals((repeat' split)<;>first|rfl|(exfalso;omega))

theorem v50 (v:V)(hb:v.bits<18446744073709551616):Qk Tryz.prog 50 [v.av] v.nsc.av:=by
 rw[Ra,Qr];refine k50.fn (by simp) ?_;simp only[eE,seval];by_cases hk:v.kd=6
 ·have b0:(v.kd==6)=true:=by simp[hk]
  simp only[b0,eE,seval];refine aC (w77 v.bits hb) ?_;simp only[Sf,Qa,seval];by_cases hc:Yw v.bits=0
  ·simp only[hc,Xm,hk,decide_true,and_self,splice,QUU,QVu,QUX,QU4,QUJ,QUK,QUC,QVi,eE,seval]
   try rfl
  ·simp only[hc,Xm,decide_false,and_false,eE,seval]
 ·have b0:(v.kd==6)=false:=by simp[hk]
  simp only[b0,Xm,hk,false_and,eE,seval]

theorem v53 (v:V)(_hb:v.bits<18446744073709551616):Qk Tryz.prog 53 [v.av] v.nsc.av:=by
 rw[Ra,Qr];refine k53.fn (by simp) ?_;simp only[eE,seval];by_cases hk:v.kd=6
 ·have b0:(v.kd==6)=true:=by simp[hk]
  simp only[b0,eE,seval];refine aC (w79 v.bits) ?_;simp only[Sf,Qa,seval];by_cases hc:Yw v.bits=0
  ·simp only[hc,Xm,hk,decide_true,and_self,splice,QUU,QVu,QUX,QU4,QUJ,QUK,QUC,QVi,eE,seval]
   try rfl
  ·simp only[hc,Xm,decide_false,and_false,eE,seval]
 ·have b0:(v.kd==6)=false:=by simp[hk]
  simp only[b0,Xm,hk,false_and,eE,seval]

def EW (m:PG→V→Prop)(P:PL)(o:PO)(v:V):Prop:=o.kind=10→m (QL P o.target) v
def FW (m:PG→V→Prop)(P:PL)(o:PO)(v:V):Prop :=
 if o.card=4 then ∀x∈v.list,EW m P o x
 else if o.card=5 then(∀p∈v.pairs,p.1.one P o.key (-1)=0∧EW m P o p.2)∧v.pairs.Pairwise fun q p=>Zw q.1 p.1=false
 else EW m P o v
def MW (P:PL):Nat→PG→V→Prop
 |0,_,_=>False
 |n+1,g,v=>(∀s∈v.slots,∃o,XH g s.1=some o∧FW (MW P n) P o s.2)∧v.slots.Pairwise fun y x=>(y.1==x.1)=false

theorem C0 {m:PG→V→Int}{w:PG→V→Prop}(h:∀g v,m g v=0→w g v){P:PL}{o:PO}{v:V}(he:QN m P o v=0):EW w P o v:=by
 intro hk;unfold QN at he;rw[QUQ hk]at he;exact h _ _ he
theorem QHa {m:PG→V→Int}{w:PG→V→Prop}(h:∀g v,m g v=0→w g v){P:PL}{o:PO}{v:V}(he:QT m P o v=0):FW w P o v:=by
 unfold QT at he;unfold FW;by_cases h4:o.card=4
 ·rw[QUB (by omega),QUQ h4]at he;rw[QUQ h4];split at he
  ·omega
  exact fun x hx=>C0 h (JC.1 he x hx)
 ·rw[QUB h4];by_cases h5:o.card=5
  ·rw[QUQ h5]at he;rw[QUQ h5];split at he
   ·omega
   have hE:=JB.1 he;exact⟨fun p hp=>⟨(hE.1 p hp).1,C0 h (hE.1 p hp).2⟩,hE.2⟩
  ·rw[QUB h5,QUB h4]at he;rw[QUB h5];exact C0 h he
theorem Y7 {P:PL}:∀(n:Nat) (g:PG) (v:V),Q9 P n g v=0→MW P n g v
 |0,g,v,h=>by
  unfold Q9 at h;split at h<;>omega
 |n+1,g,v,h=>by
  obtain⟨_,⟨s1,s2,_⟩,_,_⟩:=ZU.1 h;refine⟨fun s hs=>?_,s2⟩;obtain⟨o,ho,hf⟩:=s1 s hs;exact⟨o,ho,QHa (Y7 n) hf⟩
theorem QaE {P:PL}{o:PO}(ho:o.card=5→X8 o.key)(h5:o.card=5){ps:List (V×V)}(h:∀p∈ps,p.1.one P o.key (-1)=0):∀p∈ps,p.1.nsc=p.1:=by
 intro p hp;have e:=(Yv (h p hp)).1;refine B4 ?_;have:=ho h5;unfold X8 at this;omega

theorem No {x:V}:∀ {l:List V},x∈l→x.cnt≤Xc l
 |y :: l,h=>by
  rw[Xc];rcases QVI.1 h with rfl|h
  ·omega
  ·have:=No h;omega
theorem HP {x:V×V}:∀ {l:List (V×V)},x∈l→x.1.cnt+x.2.cnt≤Xt l
 |(a,b) :: l,h=>by
  rw[Xt];rcases QVI.1 h with rfl|h
  ·dsimp only;omega
  ·have:=HP h;omega
theorem Np {x:Int×V}:∀ {l:List (Int×V)},x∈l→x.2.cnt≤Xk l
 |(a,b) :: l,h=>by
  rw[Xk];rcases QVI.1 h with rfl|h
  ·dsimp only;omega
  ·have:=Np h;omega
theorem KJ (v:V):1≤v.cnt:=by rw[Xo];omega
theorem HQ:∀l:List V,l.length≤Xc l
 | []=>QUm _
 |x :: l=>by
  have:=KJ x;have:=HQ l;simp only[Xc,QUC];omega
theorem Nq:∀l:List (V×V),2*l.length≤Xt l
 | []=>QUm _
 |(a,b) :: l=>by
  have:=KJ a;have:=KJ b;have:=Nq l;simp only[Xt,QUC];omega
theorem Nr:∀l:List (Int×V),l.length≤Xk l
 | []=>QUm _
 |(a,b) :: l=>by
  have:=KJ b;have:=Nr l;simp only[Xk,QUC];omega
theorem KL {v x:V}(h:x∈v.list):x.cnt≤v.cnt:=by have:=No h;rw[Xo v];omega
theorem VG {v:V}{x:V×V}(h:x∈v.pairs):x.1.cnt≤v.cnt:=by have:=HP h;rw[Xo v];omega
theorem Wr {v:V}{x:V×V}(h:x∈v.pairs):x.2.cnt≤v.cnt:=by have:=HP h;rw[Xo v];omega
theorem Y8 {v:V}{x:Int×V}(h:x∈v.slots):x.2.cnt≤v.cnt:=by have:=Np h;rw[Xo v];omega
theorem KM (v:V):v.list.length≤v.cnt:=by have:=HQ v.list;rw[Xo v];omega
theorem Ye (v:V):v.pairs.length≤v.cnt:=by have:=Nq v.pairs;rw[Xo v];omega
theorem Yf (v:V):v.slots.length≤v.cnt:=by have:=Nr v.slots;rw[Xo v];omega
theorem HR (v:V):v.raws.length≤v.cnt:=by rw[Xo v];omega

section
variable {M:Nat}{P:PL}{m:PG→V→Prop}{nm:PG→V→V}(o:PO)(ho:UO P o)

include ho in
theorem QP6 (hm:∀(t:Int) (g:PG),P.progs[t.toNat]? = some g→0≤t→∀v:V,v.ok M→v.cnt≤1048576→m g v→Qk Tryz.prog 60 [P.av,.int .i64 t,v.av] (nm g v).av)(v:V)(hv:v.ok M)(hc:v.cnt≤1048576)(he:EW m P o v) :
  Qk Tryz.prog 188 [P.av,Qs o,v.av] (Xj nm P o v).av:=by
 have e0:P.av=.agg [.list (P.progs.map Qi),.list (P.enums.map Qq)]:=rfl;unfold Xj;by_cases hk:o.kind=10
 ·have b:(o.kind==10)=true:=by simp[hk]
  have he:=he hk;rw[QUQ hk];obtain⟨t0,t1⟩:=ho.tgt hk;obtain⟨g,hg⟩:∃g,P.progs[o.target.toNat]? = some g:=⟨P.progs[o.target.toNat]'(by omega),QUo (by omega)⟩;have hq:QL P o.target=g:=by unfold QL;rw[hg];rfl
  rw[hq]at he ⊢;have h2:=hm o.target g hg t0 v hv hc he;generalize nm g v=z at h2 ⊢;rw[e0,Qr,Qr]at h2;rw[Qr,Qr];refine RJ.fn (by simp) ?_;simp only[e0,Qs,PO.cells,b,eE,seval];refine aC h2 ?_;simp only[eE,seval]
 ·have b:(o.kind==10)=false:=by simp[hk]
  rw[QUB hk];have h1:=v50 v (Jb hv);generalize v.nsc=z at h1 ⊢;rw[Qr,Qr]at h1;rw[Qr,Qr];refine RJ.fn (by simp) ?_;simp only[e0,Qs,PO.cells,b,eE,seval];refine aC h1 ?_;simp only[eE,seval]

def NlI (P:PL)(o:PO)(l:List V)(F:V→V)(k:Nat)(st:St):Prop :=
 ∃f fr i g,st=⟨f,[fr],[]⟩∧k=l.length-i∧i≤l.length∧f 3=.ptr 0 3 0∧f 4=.ptr 0 4 0∧f 6=.ptr 0 6 0∧f 7=.ptr 0 7 0∧f 19=.list (l.map V.av)∧f 20=.int .i64 (l.length:Nat)∧f 21=.int .i64 (i:Nat)∧fr 3=.cells [.list (P.progs.map Qi),.list (P.enums.map Qq)]∧fr 4=.cells o.cells∧fr 6=.cells [.int .i64 0,.int .u64 0,.str [],.nils,.nils,.nils,.nils]∧fr 7=.cells [.int .i64 11,.int .u64 0,.str [],.vec 0 1100 g 0 i false,.nils,.nils,.nils]∧fr 1100=.vec g 7 ((l.take i).map fun x=>(F x).av)∧∀s∈[9],(fr s).isRow=false

def NpI (P:PL)(o:PO)(T:List (V×V))(F:V×V→V×V)(k:Nat)(st:St):Prop :=
 ∃f fr i g,st=⟨f,[fr],[]⟩∧k=T.length-i∧i≤T.length∧f 3=.ptr 0 3 0∧f 4=.ptr 0 4 0∧f 6=.ptr 0 6 0∧f 10=.ptr 0 10 0∧f 41=.list (T.map V.pav)∧f 42=.int .i64 (T.length:Nat)∧f 43=.int .i64 (i:Nat)∧fr 3=.cells [.list (P.progs.map Qi),.list (P.enums.map Qq)]∧fr 4=.cells o.cells∧fr 6=.cells [.int .i64 0,.int .u64 0,.str [],.nils,.nils,.nils,.nils]∧fr 10=.cells [.int .i64 12,.int .u64 0,.str [],.nils,.vec 0 1101 g 0 i false,.nils,.nils]∧fr 1101=.vec g 14 ((T.take i).map fun x=>V.pav (F x))∧∀s∈[12],(fr s).isRow=false

theorem AW (l:List V)(F:V→V):(l.map fun x=>(F x).av)=(l.map F).map V.av:=by rw[QV9];rfl
theorem Rd (l:List (V×V))(F:V×V→V×V):(l.map fun x=>V.pav (F x))=(l.map F).map V.pav:=by rw[QV9];rfl

set_option maxHeartbeats 1000000 in
include ho in
theorem v97 (hel:∀v:V,v.ok M→v.cnt≤1048576→EW m P o v→Qk Tryz.prog 188 [P.av,Qs o,v.av] (Xj nm P o v).av)(v:V)(hv:v.ok M)(hc:v.cnt≤1048576)(he:FW m P o v) :
  Qk Tryz.prog 97 [P.av,Qs o,v.av] (Xu nm P o v).av:=by
 have e0:P.av=.agg [.list (P.progs.map Qi),.list (P.enums.map Qq)]:=rfl;unfold Xu;unfold FW at he;by_cases h4:o.card=4
 ·have b4:(o.card==4)=true:=by simp[h4]
  rw[QUQ h4]at he;rw[QUQ h4];have hL:=he;have hlen:=KM v;rw[Qr v];generalize hF:Xj nm P o=F at hel ⊢;rw[show(V.mk 11 0 [] (v.list.map F) [] [] []).av=.agg [.int .i64 11,.int .u64 0,.str [],.list ((v.list.map F).map V.av),.list [],.list [],.list []]from Qr _];refine SY.fn (by simp) ?_;simp only[e0,Qs,PO.cells,b4,eE,seval];refine JP (by simp only[Qa,seval]<;>rfl) rfl (by simp only[Qa,seval]<;>rfl) rfl ?_;simp only[List.set,QVh,eE,seval];refine Qd (NlI P o v.list F) _ ⟨_,_,0,_,rfl,rfl,QUv _,(by rfl),(by rfl),(by rfl),(by rfl),(by rfl),(by rfl),(by rfl),(by rfl),(by rfl),(by rfl),(by rfl),(by rfl),by simp<;>rfl⟩ ?_;rintro _ st ⟨f0,fr0,i,g,rfl,rfl,hil,h30,h40,h60,h70,h190,h200,h210,m30,m40,m60,m70,mR0,r9⟩;refine QK (a:=_) [9] r9 ?_;intro f fr hf hm hn9;have h3:f 3=.ptr 0 3 0:=by rw[hf,h30]<;>rfl
  have h4:f 4=.ptr 0 4 0:=by rw[hf,h40]<;>rfl
  have h6:f 6=.ptr 0 6 0:=by rw[hf,h60]<;>rfl
  have h7:f 7=.ptr 0 7 0:=by rw[hf,h70]<;>rfl
  have h19:f 19=.list (v.list.map V.av):=by rw[hf,h190]<;>rfl
  have h20:f 20=.int .i64 (v.list.length:Nat):=by rw[hf,h200]<;>rfl
  have h21:f 21=.int .i64 (i:Nat):=by rw[hf,h210]<;>rfl
  have m3:fr 3=.cells [.list (P.progs.map Qi),.list (P.enums.map Qq)]:=by rw[hm 3 (by decide),m30]<;>rfl
  have m4:fr 4=.cells o.cells:=by rw[hm 4 (by decide),m40]<;>rfl
  have m6:fr 6=.cells [.int .i64 0,.int .u64 0,.str [],.nils,.nils,.nils,.nils]:=by rw[hm 6 (by decide),m60]<;>rfl
  have m7:fr 7=.cells [.int .i64 11,.int .u64 0,.str [],.vec 0 1100 g 0 i false,.nils,.nils,.nils]:=by rw[hm 7 (by decide),m70]<;>rfl
  have mR:fr 1100=.vec g 7 ((v.list.take i).map fun x=>(F x).av):=by rw[hm 1100 (by decide),mR0]<;>rfl
  have n9:=hn9 9 (by decide);clear hf hm hn9 h30 h40 h60 h70 h190 h200 h210 m30 m40 m60 m70 mR0 r9;have m4':=m4;simp only[PO.cells]at m4;simp only[h20,h21,Qa,seval];by_cases hlt:i<v.list.length
  ·obtain⟨x,hi⟩:∃x,v.list[i]? = some x:=⟨v.list[i],QUo hlt⟩;have hx:=QUA hi;have hg:=WH hi;have e1:=Qm i _ hlt (by simp only[maxLen];omega);have c1:=hel x (hv.list x hx) (QUl (KL hx) hc) (hL x hx);have hti:((v.list.take i).map fun x=>(F x).av).length=i:=by rw[QVh,QVj];omega
   have hts:(v.list.take (i+1)).map (fun x=>(F x).av)=(v.list.take i).map (fun x=>(F x).av)++[(F x).av]:=by rw[QV6,hi];simp
   generalize F x=z at c1 hts;rw[e0,Qr,Qr z]at c1;simp only[Qs,PO.cells]at c1;simp only[Ql hlt,Qh,QVN,Qb,hg,n9,h3,h4,h7,h19,h21,m3,m4,m7,eE,seval];refine aC c1 ?_;refine QV (l:=[z.av]) rfl rfl rfl (by rw[Qr];rfl) ?_;refine QO (site:=1100) (g:=g) (n:=i) (xs:=(v.list.take i).map fun x=>(F x).av) (ys:=[z.av]) (by rfl) (by exact mR) rfl hti.symm rfl (B7 [z]) (by simp only[QUC,QVi,maxLen];omega) (by simp only[QUC,QVi];omega) ?_;simp only[h7,h21,m7,e1,eE,seval];exact⟨v.list.length-(i+1),by omega,_,_,i+1,g+1,rfl,rfl,by omega,(by exact h3),(by exact h4),(by exact h6),(by exact h7),(by exact h19),(by exact h20),(by rfl),(by exact m3),(by exact m4'),(by exact m6),(by rfl),(by rw[hts];exact(by rfl)),by simp<;>rfl⟩
  ·have e:i=v.list.length:=by omega
   subst e;rw[QVX,AW]at mR;simp only[Qx hlt,h6,h7,m6,m7,eE,seval];simp[AV.un,AV.unL,Zm,XC,mR,QUV]
 ·have b4:(o.card==4)=false:=by simp[h4]
  rw[QUB h4];by_cases h5:o.card=5
  ·have b5:(o.card==5)=true:=by simp[h5]
   rw[QUB h4,QUQ h5]at he;rw[QUQ h5];have hE:=he;have hlen:=Ye v;have hk:=ho.key h5;have hkn:=QaE ho.key h5 fun p hp=>(hE.1 p hp).1
   have cp:=QP3 hk v.pairs (by omega) (fun p hp=>(hE.1 p hp).1) (fun p hp=>Jb (hv.keys p hp)) hE.2;have hperm:(QZ o.key v.pairs).Perm v.pairs:=Q3 _;have hTl:(QZ o.key v.pairs).length=v.pairs.length:=hperm.length_eq;have hTm:∀p∈QZ o.key v.pairs,p∈v.pairs:=fun p h=>hperm.mem_iff.1 h
   generalize QZ o.key v.pairs=T at *;rw[Qr v];generalize hF:(fun p:V×V=>(p.1.nsc,Xj nm P o p.2))=F;rw[show(V.mk 12 0 [] [] (T.map F) [] []).av=.agg [.int .i64 12,.int .u64 0,.str [],.list [],.list ((T.map F).map V.pav),.list [],.list []]from Qr _];refine SY.fn (by simp) ?_;simp only[e0,Qs,PO.cells,b4,b5,eE,seval];refine JP (by simp only[Qa,seval]<;>rfl) rfl (by simp only[Qa,seval]<;>rfl) rfl ?_;simp only[List.set,eE,seval];refine aC cp ?_;simp only[QVh,Qa,seval];refine Qd (NpI P o T F) _ ⟨_,_,0,_,rfl,rfl,QUv _,(by rfl),(by rfl),(by rfl),(by rfl),(by rfl),(by rfl),(by rfl),(by rfl),(by rfl),(by rfl),(by rfl),(by rfl),by simp<;>rfl⟩ ?_;rintro _ st ⟨f0,fr0,i,g,rfl,rfl,hil,h30,h40,h60,h100,h410,h420,h430,m30,m40,m60,m100,mR0,Kd⟩;refine QK (a:=_) [12] Kd ?_;intro f fr hf hm hn12;have h3:f 3=.ptr 0 3 0:=by rw[hf,h30]<;>rfl
   have h4:f 4=.ptr 0 4 0:=by rw[hf,h40]<;>rfl
   have h6:f 6=.ptr 0 6 0:=by rw[hf,h60]<;>rfl
   have h10:f 10=.ptr 0 10 0:=by rw[hf,h100]<;>rfl
   have h41:f 41=.list (T.map V.pav):=by rw[hf,h410]<;>rfl
   have h42:f 42=.int .i64 (T.length:Nat):=by rw[hf,h420]<;>rfl
   have h43:f 43=.int .i64 (i:Nat):=by rw[hf,h430]<;>rfl
   have m3:fr 3=.cells [.list (P.progs.map Qi),.list (P.enums.map Qq)]:=by rw[hm 3 (by decide),m30]<;>rfl
   have m4:fr 4=.cells o.cells:=by rw[hm 4 (by decide),m40]<;>rfl
   have m6:fr 6=.cells [.int .i64 0,.int .u64 0,.str [],.nils,.nils,.nils,.nils]:=by rw[hm 6 (by decide),m60]<;>rfl
   have m10:fr 10=.cells [.int .i64 12,.int .u64 0,.str [],.nils,.vec 0 1101 g 0 i false,.nils,.nils]:=by rw[hm 10 (by decide),m100]<;>rfl
   have mR:fr 1101=.vec g 14 ((T.take i).map fun x=>V.pav (F x)):=by rw[hm 1101 (by decide),mR0]<;>rfl
   have n12:=hn12 12 (by decide);clear hf hm hn12 h30 h40 h60 h100 h410 h420 h430 m30 m40 m60 m100 mR0 Kd;have m4':=m4;simp only[PO.cells]at m4;simp only[h42,h43,Qa,seval];by_cases hlt:i<T.length
   ·obtain⟨x,hi⟩:∃x,T[i]? = some x:=⟨T[i],QUo hlt⟩;have hx:=hTm x (QUA hi);have hg:=ZT hi;have e1:=Qm i _ hlt (by simp only[maxLen];omega);have c0:=v50 x.1 (Jb (hv.keys x hx));have c1:=hel x.2 (hv.vals x hx) (QUl (Wr hx) hc) (hE.1 x hx).2;have hti:((T.take i).map fun x=>V.pav (F x)).length=i:=by rw[QVh,QVj];omega
    have hFx:F x=(x.1.nsc,Xj nm P o x.2):=by rw[←hF]
    have hts:(T.take (i+1)).map (fun x=>V.pav (F x))=(T.take i).map (fun x=>V.pav (F x))++[V.pav (x.1.nsc,Xj nm P o x.2)]:=by rw[QV6,hi,←hFx];simp
    generalize x.1.nsc=y at c0 hts;generalize Xj nm P o x.2=z at c1 hts;rw[Qr,Qr y]at c0;rw[e0,Qr,Qr z]at c1;simp only[Qs,PO.cells]at c1;simp only[Ql hlt,Qh,QVN,Qb,hg,n12,h10,h41,h43,m10,eE,seval];refine aC c0 ?_;simp only[QUU,QUX,QU4,h3,h4,m3,m4,eE,seval];refine aC c1 ?_;simp only[eE,seval];refine QV (l:=[V.pav (y,z)]) rfl rfl rfl (by rw[Z5];rfl) ?_;refine QO (site:=1101) (g:=g) (n:=i) (xs:=(T.take i).map fun x=>V.pav (F x)) (ys:=[V.pav (y,z)]) (by rfl) (by exact mR) rfl hti.symm rfl (Wk [(y,z)]) (by simp only[QUC,QVi,maxLen];omega) (by simp only[QUC,QVi];omega) ?_;simp only[h10,h43,m10,e1,eE,seval];exact⟨T.length-(i+1),by omega,_,_,i+1,g+1,rfl,rfl,by omega,(by exact h3),(by exact h4),(by exact h6),(by exact h10),(by exact h41),(by exact h42),(by rfl),(by exact m3),(by exact m4'),(by exact m6),(by rfl),(by rw[hts];exact(by rfl)),by simp<;>rfl⟩
   ·have e:i=T.length:=by omega
    subst e;rw[QVX,Rd]at mR;simp only[Qx hlt,h6,h10,m6,m10,eE,seval];simp[AV.un,AV.unL,Zm,XC,mR,QUV]
  ·have b5:(o.card==5)=false:=by simp[h5]
   rw[QUB h4,QUB h5]at he;rw[QUB h5];have c1:=hel v hv hc he;generalize Xj nm P o v=z at c1 ⊢;rw[e0,Qr v,Qr z]at c1;simp only[Qs,PO.cells]at c1;rw[Qr v,Qr z];refine SY.fn (by simp) ?_;simp only[e0,Qs,PO.cells,b4,b5,eE,seval];refine aC c1 ?_;simp only[eE,seval]

end

theorem Qxj {ops:List PO}(h:XV ops (Zk PO.num)=true):ops.Pairwise fun a b=>a.num<b.num:=by
 have hs:∀i (hi:i+1<ops.length),ops[i].num<ops[i+1].num:=by
  intro i hi;unfold XV at h;have:=QJ.1 h (i+1) hi;rw[Z6 (QUo (by omega:i<ops.length)) (QUo hi)]at this;unfold Zk at this
  simpa using this
 rw[QWt];intro i j hi hj hij;obtain⟨d,rfl⟩:∃d,j=i+1+d:=⟨j-(i+1),by omega⟩;clear hij
 induction d with
 |zero=>exact hs i (by omega)
 |succ d ih=>
  have a:=ih (by omega);have b:=hs (i+1+d) (by omega);exact Int.lt_trans a b

theorem HS {P:PL}(h:ck P=0):UD P=true∧args P=true:=by
 unfold ck at h;split at h
 ·omega
 split at h
 ·omega
 split at h
 ·omega
 rename_i ho;split at h
 ·omega
 split at h
 ·omega
 split at h
 ·omega
 rename_i ha;exact⟨by simpa using ho,by simpa using ha⟩
theorem ZH {P:PL}(h:ck P=0):Ki P:=by
 have ho:=(HS h).1;unfold UD at ho;simp only[QUL,QUz]at ho;intro g hg;exact Qxj (ho.1.2 g hg)
def C1 (P:PL):Prop:=∀g∈P.progs,∀o∈g.ops,1≤o.card∧o.card≤5
theorem Sy {P:PL}(h:ck P=0):C1 P:=by
 have ha:=(HS h).2;intro g hg o ho;unfold args at ha;simp only[QUL,QUz]at ha;have h1:=ha.1 g hg;unfold Jd at h1;simp only[QUL,QUz]at h1;have h2:=(h1.2 o ho).1;unfold Zg at h2;simp only[QUL,QUs]at h2;exact⟨h2.1.1.1.2,h2.1.1.2⟩

theorem Y9 {fr:Nat→Ob}{a b c:Nat}(h1:(fr a).isRow=false)(h2:(fr b).isRow=false)(h3:(fr c).isRow=false):∀s∈[a,b,c],(fr s).isRow=false:=by
 intro s hs;simp only[QVI,QWv,or_false]at hs;rcases hs with rfl|rfl|rfl
 ·exact h1
 ·exact h2
 ·exact h3

section
variable (k:Int)(b:Nat)(t:List UInt8)(l p s r:List AV)

theorem w54:Qk Tryz.prog 54 [vo k b t l p s r] (.bool (BR k b t l p s r)):=by
 have hl:=y81 k b t l p s r;simp only[vo]at hl;refine k54.fn (by simp) ?_;simp only[vo,BR,eE,seval];refine aC (TQ k) ?_;cases isk k
 ·simp only[QVQ,Qa,seval]
 ·simp only[QVZ,eE,seval];cases h1:((b:Int)==0)
  ·simp only[QWk,QVQ,Qa,seval]
  ·cases h2:(t==[])
   ·simp only[h2,QWk,QH,eE,seval]
   ·simp only[h2,QVz,QH,eE,seval];refine aC hl ?_;simp only[Qa,seval]

theorem QP7 (hl:l.length≤140737488351232)(hp:p.length≤140737488351232)(hs:s.length≤140737488351232)(hr:r.length≤140737488351232) :
  Qk Tryz.prog 190 [vo k b t l p s r] (.bool (BR k b t l p s r)):=by
 have hle:=Qwg k b t l p s r hl hp hs hr;simp only[vo]at hle;refine Qhw.fn (by simp) ?_;simp only[vo,BR,eE,seval];refine aC (BD k) ?_;cases isk k
 ·simp only[QVQ,Qa,seval]
 ·simp only[QVZ,eE,seval];refine aC hle ?_;cases W7 l p s r
  ·simp only[QVQ,Qa,seval]
  ·cases h1:((b:Int)==0)<;>cases h2:(t==[])<;>cases h3:Zb k<;>simp only[h1,h2,QVz,QWk,QUG,QH,eE,seval]

theorem w27:Qk Tryz.prog 27 [vo k b t l p s r] (.bool (emp k b t l p s r)):=by
 have hz:=w54 k b t l p s r;simp only[vo]at hz;refine k27.fn (by simp) ?_;simp only[vo,emp,eE,seval];by_cases h1:k=11
 ·subst h1;have e:BR 11 b t l p s r=false:=rfl;have e1:((11:Int)==11)=true:=rfl;have e2:((11:Int)==12)=false:=rfl;simp only[e,e1,e2,QVZ,QVQ,QWl,eE,seval]
 ·have e1:(k==11)=false:=by simp[h1]
  by_cases h2:k=12
  ·subst h2;have e:BR 12 b t l p s r=false:=rfl;have e2:((12:Int)==12)=true:=rfl;simp only[e,e1,e2,QVZ,QVQ,QWl,QV3,eE,seval]
  ·have e2:(k==12)=false:=by simp[h2]
   simp only[e1,e2,QVQ,QV3,eE,seval];refine aC hz ?_;simp only[Qa,seval]

theorem w98 (hl:l.length≤140737488351232)(hp:p.length≤140737488351232)(hs:s.length≤140737488351232)(hr:r.length≤140737488351232):Qk Tryz.prog 98 [vo k b t l p s r] (.bool (emp k b t l p s r)):=by
 have hz:=QP7 k b t l p s r hl hp hs hr;simp only[vo]at hz;refine k98.fn (by simp) ?_;simp only[vo,emp,eE,seval];cases h1:(k==11)<;>cases h2:((l.length:Int)==0)<;>cases h3:(k==12)<;>cases h4:((p.length:Int)==0)<;>simp only[h2,h3,h4,QVZ,QVQ,QV2,QV3,QWl,eE,seval]
 all_goals(refine aC hz ?_;simp only[Qa,seval])

end
theorem QHb (v:V)(hc:v.cnt≤1048576):Qk Tryz.prog 98 [v.av] (.bool v.emp):=by
 have h1:=KM v;have h2:=Ye v;have h3:=Yf v;have h4:=HR v;rw[YX];exact w98 _ _ _ _ _ _ _ (by simp;omega) (by simp;omega) (by simp;omega) (by simp;omega)
theorem QHc (v:V):Qk Tryz.prog 27 [v.av] (.bool v.emp):=by
 rw[YX];exact w27 _ _ _ _ _ _ _

def NgI (P:PL)(K:Nat→List (Int×V))(T:List (Int×V))(t:Nat)(rw':List R)(k:Nat)(st:St):Prop :=
 ∃f fr i g h,st=⟨f,[fr],[]⟩∧k=T.length-i∧i≤T.length∧f 1=.int .i64 (t:Nat)∧f 3=.ptr 0 3 0∧f 6=.ptr 0 6 0∧f 7=.ptr 0 7 0∧f 30=.list (T.map V.sav)∧f 31=.int .i64 (T.length:Nat)∧f 32=.int .i64 (i:Nat)∧fr 3=.cells [.list (P.progs.map Qi),.list (P.enums.map Qq)]∧fr 6=.cells [.int .i64 0,.int .u64 0,.str [],.nils,.nils,.nils,.nils]∧fr 7=.cells [.int .i64 10,.int .u64 0,.str [],.nils,.nils,.vec 0 1100 g 0 (K i).length false,.vec 0 1000 h 0 rw'.length false]∧fr 1100=.vec g 8 ((K i).map V.sav)∧fr 1000=.vec h 4 (rw'.map R.av)∧∀s∈[13,10,9],(fr s).isRow=false

section
variable {M:Nat}{P:PL}(hP:P.ok M)

set_option maxHeartbeats 2000000 in
include hP in
theorem v60 (hU:Yy P)(hr:Ki P)(hcd:C1 P):∀(n:Nat) (t:Int) (g:PG),P.progs[t.toNat]? = some g→0≤t→∀v:V,v.ok M→v.cnt≤1048576→MW P n g v→Qk Tryz.prog 60 [P.av,.int .i64 t,v.av] (nrm P n g v).av:=by
 have e0:P.av=.agg [.list (P.progs.map Qi),.list (P.enums.map Qq)]:=rfl;intro n
 induction n with
 |zero=>
  intro t g _ _ v _ _ h;exact h.elim
 |succ n ih=>
  intro t g hgt t0 v hv hc h;have hgm:=QUA hgt;have hg:=hP.progs g hgm;have hu:=hU g hgm;have hd:=hr g hgm;obtain⟨s1,s2⟩:=h;have hnel:=fun(o:PO) (ho:o∈g.ops) (x:V) (hx:x.ok M) (hxc:x.cnt≤1048576) (he:EW (MW P n) P o x)=>QP6 o (hu o ho) (fun t g a b v c d e=>ih t g a b v c d e) x hx hxc he
  have hnfl:=fun(o:PO) (ho:o∈g.ops) (x:V) (hx:x.ok M) (hxc:x.cnt≤1048576) (he:FW (MW P n) P o x)=>v97 o (hu o ho) (hnel o ho) x hx hxc he
  have hcn:∀(o:PO) (x:V),(Xu (nrm P n) P o x).cnt≤x.cnt:=fun o x=>Vx (fun t v=>Yx hr n _ (Yb hr t) v) o x
  have lS:=Yf v;have lR:=HR v;have clR:=fun fr hr=>v95 (v.raws.map R.av) fr [] (WN v.raws) (by rw[QVh];omega) hr
  have csR:=fun g (m:Qo) (hl:Am.Qf m 0 1000=.vec g 4 (v.raws.map R.av))=>Tz.Ss Tg.QGK (by decide) QP5 0 1000 g (v.raws.map R.av) m hl (ezR v.raws) (by rw[QVh];omega)
  simp only[Sx,QVh]at csR;have csl:=v96 v.slots (by omega) s2;have hTp:(JU v.slots).Perm v.slots:=Q3 _;have hTl:(JU v.slots).length=v.slots.length:=hTp.length_eq;have hTm:∀s∈JU v.slots,s∈v.slots:=fun s h=>hTp.mem_iff.1 h
  have hfin:=Sn (nrm P n) P hd s2;have hrl:(X7 v.raws).length=v.raws.length:=(Q3 v.raws).length_eq;generalize JU v.slots=T at *;obtain⟨ti,hti⟩:=QV1 t0;subst hti;rw[QVN]at hgt;have hga:(P.progs.map Qi)[ti]? = some (.agg g.cells):=by simp[hgt,Qi]
  simp only[PG.cells]at hga;have htl:ti<P.progs.length:=(QUn.1 hgt).1;have d0:decide ((ti:Int)<0)=false:=QWb (by omega);have d1:decide ((ti:Int)≥(P.progs.length:Int))=false:=QWb (by omega);have co:=fun n=>TS g hg.len n
  simp only[KG]at co;simp only[Qi,PG.cells]at co;show Qk _ _ _ (V.mk 10 0 [] [] [] (g.ops.flatMap (QW (nrm P n) P v.slots)) (X7 v.raws)).av;rw[←hfin,Qr v];generalize hK:(fun i=>(T.take i).flatMap (Jj (nrm P n) P g))=K;have hK0:K 0=[]:=by rw[←hK];simp
  have hKn:T.flatMap (Jj (nrm P n) P g)=K T.length:=by rw[←hK];simp
  have hKl:∀i,i≤T.length→(K i).length≤i:=by
   intro i hi;rw[←hK];show((T.take i).flatMap _).length≤i;have:∀l:List (Int×V),(l.flatMap (Jj (nrm P n) P g)).length≤l.length:=by
    intro l
    induction l with
    |nil=>exact QUm _
    |cons s l ih=>
     have:(Jj (nrm P n) P g s).length≤1:=by
      unfold Jj;split
      ·simp
      ·unfold ZM;split<;>simp
     rw[QVP,QUZ,QUC];omega
   exact QUl (this _) (by rw[QVj];omega)
  rw[hKn,show(V.mk 10 0 [] [] [] (K T.length) (X7 v.raws)).av=.agg [.int .i64 10,.int .u64 0,.str [],.list [],.list [],.list ((K T.length).map V.sav),.list ((X7 v.raws).map R.av)]from Qr _];refine k60.fn (by simp) ?_;simp only[e0,eE,seval];refine Qj (clR _ rfl) (by simp only[QUT,QVn,Qa,seval]) ?_;simp only[QVh,eE,seval];refine JP (by simp only[Qa,seval]<;>rfl) rfl (by simp only[Qa,seval]<;>rfl) rfl ?_;simp only[List.set,d0,d1,QVh,eE,seval];refine aC csl ?_;simp only[QVh,Qa,seval];refine Qd (NgI P K T ti v.raws) _ ⟨_,_,0,_,_,rfl,rfl,QUv _,(by rfl),(by rfl),(by rfl),(by rfl),(by rfl),(by rfl),(by rfl),(by rfl),(by rfl),(by rw[hK0];exact(by rfl)),(by rw[hK0];exact(by rfl)),(by rfl),Y9 rfl rfl rfl⟩ ?_;rintro _ st ⟨f0,fr0,i,gs,hs,rfl,rfl,hil,h10,h30,h60,h70,h300,h310,h320,m30,m60,m70,mS0,mR0,r13⟩;refine QK (a:=_) [13,10,9] r13 ?_;intro f fr hf hm hn13;have h1:f 1=.int .i64 (ti:Nat):=by rw[hf,h10]<;>rfl
  have h3:f 3=.ptr 0 3 0:=by rw[hf,h30]<;>rfl
  have h6:f 6=.ptr 0 6 0:=by rw[hf,h60]<;>rfl
  have h7:f 7=.ptr 0 7 0:=by rw[hf,h70]<;>rfl
  have h30':f 30=.list (T.map V.sav):=by rw[hf,h300]<;>rfl
  have h31:f 31=.int .i64 (T.length:Nat):=by rw[hf,h310]<;>rfl
  have h32:f 32=.int .i64 (i:Nat):=by rw[hf,h320]<;>rfl
  have m3:fr 3=.cells [.list (P.progs.map Qi),.list (P.enums.map Qq)]:=by rw[hm 3 (by decide),m30]<;>rfl
  have m6:fr 6=.cells [.int .i64 0,.int .u64 0,.str [],.nils,.nils,.nils,.nils]:=by rw[hm 6 (by decide),m60]<;>rfl
  have m7:fr 7=.cells [.int .i64 10,.int .u64 0,.str [],.nils,.nils,.vec 0 1100 gs 0 (K i).length false,.vec 0 1000 hs 0 v.raws.length false]:=by rw[hm 7 (by decide),m70]<;>rfl
  have mS:fr 1100=.vec gs 8 ((K i).map V.sav):=by rw[hm 1100 (by decide),mS0]<;>rfl
  have mR:fr 1000=.vec hs 4 (v.raws.map R.av):=by rw[hm 1000 (by decide),mR0]<;>rfl
  have n13:=hn13 13 (by decide);have n10:=hn13 10 (by decide);have n9:=hn13 9 (by decide);clear hf hm hn13 h10 h30 h60 h70 h300 h310 h320 m30 m60 m70 mS0 mR0 r13;simp only[h31,h32,Qa,seval];by_cases hlt:i<T.length
  ·obtain⟨x,hi⟩:∃x,T[i]? = some x:=⟨T[i],QUo hlt⟩;have hx:=hTm x (QUA hi);have hgs:=Jv hi;have e1:=Qm i _ hlt (by simp only[maxLen];omega);obtain⟨o,ho,hfo⟩:=s1 x hx;obtain⟨hom,hon⟩:=Zd ho;have hcard:=hcd g hgm o hom;have c1:=co x.1;rw[ho]at c1;have hxc:=QUl (Y8 hx) hc;have c2:=hnfl o hom x.2 (hv.slots x hx) hxc hfo;have c3:=QHb (Xu (nrm P n) P o x.2) (QUl (hcn o x.2) hxc);have hKs:K (i+1)=K i++ZM (nrm P n) P o x:=by
    rw[←hK];show(T.take (i+1)).flatMap _=(T.take i).flatMap _++_;rw[QV6,hi,List.flatMap_append];have:Jj (nrm P n) P g x=ZM (nrm P n) P o x:=by unfold Jj;rw[ho]
    simp[this]
   have hkO:ZM (nrm P n) P o x=if (decide (o.card<3) || !(Xu (nrm P n) P o x.2).emp)=true then [(x.1,Xu (nrm P n) P o x.2)]else []:=by
    unfold ZM;rw[hon]
   have hKi:=hKl i (by omega);rw[hkO]at hKs;clear hkO;generalize Xu (nrm P n) P o x.2=z at c2 c3 hKs;rw[e0,Qr x.2,Qr z]at c2;rw[Qr z]at c3;simp only[Qs,PO.cells]at c2;have fin:∀(f':Fr) (fr':Nat→Ob) (gs':Nat),f' 1=.int .i64 (ti:Nat)→f' 3=.ptr 0 3 0→f' 6=.ptr 0 6 0→f' 7=.ptr 0 7 0→f' 30=.list (T.map V.sav)→f' 31=.int .i64 (T.length:Nat)→f' 32=.int .i64 ((i+1:Nat):Int)→fr' 3=.cells [.list (P.progs.map Qi),.list (P.enums.map Qq)]→fr' 6=.cells [.int .i64 0,.int .u64 0,.str [],.nils,.nils,.nils,.nils]→fr' 7=.cells [.int .i64 10,.int .u64 0,.str [],.nils,.nils,.vec 0 1100 gs' 0 (K (i+1)).length false,.vec 0 1000 hs 0 v.raws.length false]→fr' 1100=.vec gs' 8 ((K (i+1)).map V.sav)→fr' 1000=.vec hs 4 (v.raws.map R.av)→(∀s∈[13,10,9],(fr' s).isRow=false)→∃k,k<T.length-i∧NgI P K T ti v.raws k ⟨f',[fr'],[]⟩:=by
    intro f' fr' gs' a1 a3 a6 a7 a30 a31 a32 b3 b6 b7 bS bR br;exact⟨T.length-(i+1),by omega,f',fr',i+1,gs',hs,rfl,rfl,by omega,a1,a3,a6,a7,a30,a31,a32,b3,b6,b7,bS,bR,br⟩
   simp only[Ql hlt,Qh,QVN,Qb,hgs,hga,n9,h1,h3,h30',h32,m3,eE,seval];refine aC c1 ?_;simp only[QVw,QWc,Qs,PO.cells,n10,eE,seval];rcases(by omega:o.card=1∨o.card=2∨o.card=3∨o.card=4∨o.card=5)with cc|cc|cc|cc|cc
   ·have b3:(o.card==3)=false:=by simp[cc]
    have b4:(o.card==4)=false:=by simp[cc]
    have b5:(o.card==5)=false:=by simp[cc]
    rw[QUQ (by simp[cc])]at hKs;simp only[b3,b4,b5,QUU,QUX,QU4,h3,m3,eE,seval];refine aC c2 ?_;simp only[n13,h7,m7,eE,seval];refine QV (l:=[V.sav (x.1,z)]) rfl rfl rfl (by rw[ZS];rfl) ?_;refine QO (site:=1100) (g:=gs) (n:=(K i).length) (xs:=(K i).map V.sav) (ys:=[V.sav (x.1,z)]) (by rfl) (by exact mS) rfl (by rw[QVh]) rfl (Yq [(x.1,z)]) (by simp only[QUC,QVi,maxLen];omega) (by simp only[QUC,QVi];omega) ?_;simp only[h7,h32,m7,e1,eE,seval];exact fin _ _ (gs+1) (by exact h1) (by exact h3) (by exact h6) (by exact h7) (by exact h30') (by exact h31) (by rfl) (by exact m3) (by exact m6) (by rw[hKs,QUZ];exact(by rfl)) (by rw[hKs,QV5];exact(by rfl)) (by exact mR) (Y9 rfl rfl rfl)

   ·have b3:(o.card==3)=false:=by simp[cc]
    have b4:(o.card==4)=false:=by simp[cc]
    have b5:(o.card==5)=false:=by simp[cc]
    rw[QUQ (by simp[cc])]at hKs;simp only[b3,b4,b5,QUU,QUX,QU4,h3,m3,eE,seval];refine aC c2 ?_;simp only[n13,h7,m7,eE,seval];refine QV (l:=[V.sav (x.1,z)]) rfl rfl rfl (by rw[ZS];rfl) ?_;refine QO (site:=1100) (g:=gs) (n:=(K i).length) (xs:=(K i).map V.sav) (ys:=[V.sav (x.1,z)]) (by rfl) (by exact mS) rfl (by rw[QVh]) rfl (Yq [(x.1,z)]) (by simp only[QUC,QVi,maxLen];omega) (by simp only[QUC,QVi];omega) ?_;simp only[h7,h32,m7,e1,eE,seval];exact fin _ _ (gs+1) (by exact h1) (by exact h3) (by exact h6) (by exact h7) (by exact h30') (by exact h31) (by rfl) (by exact m3) (by exact m6) (by rw[hKs,QUZ];exact(by rfl)) (by rw[hKs,QV5];exact(by rfl)) (by exact mR) (Y9 rfl rfl rfl)
   ·have b3:(o.card==3)=true:=by simp[cc]
    have b4:(o.card==4)=false:=by simp[cc]
    have b5:(o.card==5)=false:=by simp[cc]
    have l3:decide (o.card<3)=false:=by simp[cc]
    rw[l3,QV3]at hKs;simp only[b3,QUU,QUX,QU4,h3,m3,eE,seval];refine aC c2 ?_;simp only[n13,eE,seval];refine aC c3 ?_;cases hz:z.emp
    ·rw[hz,QUQ (show(!false)=true from rfl)]at hKs;simp only[h7,m7,eE,seval];refine QV (l:=[V.sav (x.1,z)]) rfl rfl rfl (by rw[ZS];rfl) ?_;refine QO (site:=1100) (g:=gs) (n:=(K i).length) (xs:=(K i).map V.sav) (ys:=[V.sav (x.1,z)]) (by rfl) (by exact mS) rfl (by rw[QVh]) rfl (Yq [(x.1,z)]) (by simp only[QUC,QVi,maxLen];omega) (by simp only[QUC,QVi];omega) ?_;simp only[h7,h32,m7,e1,eE,seval];exact fin _ _ (gs+1) (by exact h1) (by exact h3) (by exact h6) (by exact h7) (by exact h30') (by exact h31) (by rfl) (by exact m3) (by exact m6) (by rw[hKs,QUZ];exact(by rfl)) (by rw[hKs,QV5];exact(by rfl)) (by exact mR) (Y9 rfl rfl rfl)
    ·rw[hz,QUB (by simp),QVp]at hKs;simp only[h32,e1,Qa,seval];exact fin _ _ gs (by exact h1) (by exact h3) (by exact h6) (by exact h7) (by exact h30') (by exact h31) (by rfl) (by exact m3) (by exact m6) (by rw[hKs];exact(by exact m7)) (by rw[hKs];exact(by exact mS)) (by exact mR) (Y9 rfl rfl rfl)

   ·have b3:(o.card==3)=false:=by simp[cc]
    have b4:(o.card==4)=true:=by simp[cc]
    have b5:(o.card==5)=false:=by simp[cc]
    have l3:decide (o.card<3)=false:=by simp[cc]
    rw[l3,QV3]at hKs;simp only[b3,b4,QUU,QUX,QU4,h3,m3,eE,seval];refine aC c2 ?_;simp only[n13,eE,seval];refine aC c3 ?_;cases hz:z.emp
    ·rw[hz,QUQ (show(!false)=true from rfl)]at hKs;simp only[h7,m7,eE,seval];refine QV (l:=[V.sav (x.1,z)]) rfl rfl rfl (by rw[ZS];rfl) ?_;refine QO (site:=1100) (g:=gs) (n:=(K i).length) (xs:=(K i).map V.sav) (ys:=[V.sav (x.1,z)]) (by rfl) (by exact mS) rfl (by rw[QVh]) rfl (Yq [(x.1,z)]) (by simp only[QUC,QVi,maxLen];omega) (by simp only[QUC,QVi];omega) ?_;simp only[h7,h32,m7,e1,eE,seval];exact fin _ _ (gs+1) (by exact h1) (by exact h3) (by exact h6) (by exact h7) (by exact h30') (by exact h31) (by rfl) (by exact m3) (by exact m6) (by rw[hKs,QUZ];exact(by rfl)) (by rw[hKs,QV5];exact(by rfl)) (by exact mR) (Y9 rfl rfl rfl)
    ·rw[hz,QUB (by simp),QVp]at hKs;simp only[h32,e1,Qa,seval];exact fin _ _ gs (by exact h1) (by exact h3) (by exact h6) (by exact h7) (by exact h30') (by exact h31) (by rfl) (by exact m3) (by exact m6) (by rw[hKs];exact(by exact m7)) (by rw[hKs];exact(by exact mS)) (by exact mR) (Y9 rfl rfl rfl)

   ·have b3:(o.card==3)=false:=by simp[cc]
    have b4:(o.card==4)=false:=by simp[cc]
    have b5:(o.card==5)=true:=by simp[cc]
    have l3:decide (o.card<3)=false:=by simp[cc]
    rw[l3,QV3]at hKs;simp only[b3,b4,b5,QUU,QUX,QU4,h3,m3,eE,seval];refine aC c2 ?_;simp only[n13,eE,seval];refine aC c3 ?_;cases hz:z.emp
    ·rw[hz,QUQ (show(!false)=true from rfl)]at hKs;simp only[h7,m7,eE,seval];refine QV (l:=[V.sav (x.1,z)]) rfl rfl rfl (by rw[ZS];rfl) ?_;refine QO (site:=1100) (g:=gs) (n:=(K i).length) (xs:=(K i).map V.sav) (ys:=[V.sav (x.1,z)]) (by rfl) (by exact mS) rfl (by rw[QVh]) rfl (Yq [(x.1,z)]) (by simp only[QUC,QVi,maxLen];omega) (by simp only[QUC,QVi];omega) ?_;simp only[h7,h32,m7,e1,eE,seval];exact fin _ _ (gs+1) (by exact h1) (by exact h3) (by exact h6) (by exact h7) (by exact h30') (by exact h31) (by rfl) (by exact m3) (by exact m6) (by rw[hKs,QUZ];exact(by rfl)) (by rw[hKs,QV5];exact(by rfl)) (by exact mR) (Y9 rfl rfl rfl)
    ·rw[hz,QUB (by simp),QVp]at hKs;simp only[h32,e1,Qa,seval];exact fin _ _ gs (by exact h1) (by exact h3) (by exact h6) (by exact h7) (by exact h30') (by exact h31) (by rfl) (by exact m3) (by exact m6) (by rw[hKs];exact(by exact m7)) (by rw[hKs];exact(by exact mS)) (by exact mR) (Y9 rfl rfl rfl)
  ·have e:i=T.length:=by omega
   subst e;simp only[Qx hlt,h7,m7,eE,seval];refine Qj (csR _ _ (by simp only[mR,eEX,seval]<;>rfl)) (by simp only[QUT,QVn,Qa,seval]) ?_;simp only[h6,h7,m6,m7,eE,seval];simp[AV.un,AV.unL,Zm,XC,mS,QUV,hrl]

end
end Go.Proofs.YtdhlbgejhcejcaaGreatDoor.Va

namespace Go.Proofs.YtdhlbgejhcejcaaGreatDoor.Va
open Go Am Rc Bt

def WO (u:Int):Int:=if 0≤u then 2*u else -2*u-1
def zag (u:Int):Int:=if u % 2=0 then u / 2 else -(u / 2)-1

theorem c49 (u:Int)(h0 : -9223372036854775808≤u)(h1:u<9223372036854775808):Qk Tryz.prog 49 [.int .i64 u] (.int .u64 (WO u)):=by
 refine k49.fn (by simp) ?_;simp only[GE,seval];congr 1
 simp only[show min 63 64=63 from rfl,show min 1 64=1 from rfl,seval,Wz,WO,QWz _ (show(0:Int)≤9223372036854775808 by decide)];by_cases h:0≤u
 ·rw[show u / 9223372036854775808=0 by omega,QUQ h,show(0:Int) % 18446744073709551616=0 from rfl,BB _ (by omega) (by omega)];omega
 ·rw[show u / 9223372036854775808 = -1 by omega,QUB h,show(-1:Int) % 18446744073709551616=18446744073709551615 from rfl,BC _ (by omega) (by omega)];omega

theorem Wl (u:Int):0≤WO u:=by unfold WO;split<;>omega
theorem Qxk (u:Int)(h0 : -9223372036854775808≤u)(h1:u<9223372036854775808):WO u<18446744073709551616:=by unfold WO;split<;>omega
theorem VH (u:Int):zag (WO u)=u:=by unfold zag WO;split<;>split<;>omega
open Br Up

def vv (k:Int)(b:Nat)(t:List UInt8)(l p s r:List AV):AV:=.agg [.int .i64 k,.int .u64 (b:Nat),.str t,.list l,.list p,.list s,.list r]

section
variable (k:Int)(b:Nat)(hb:b<18446744073709551616)(t:List UInt8)(l p s r:List AV)
include hb

theorem y50:Qk Tryz.prog 50 [vv k b t l p s r] (vv k (Xm k b) t l p s r):=by
 refine k50.fn (by simp) ?_;simp only[vv,eE,seval];by_cases hk:k=6
 ·have b0:(k==6)=true:=by simp[hk]
  simp only[b0,eE,seval];refine aC (x77 b hb) ?_;simp only[Sf,Qa,seval];by_cases hc:Yw b=0
  ·simp only[hc,Xm,hk,decide_true,and_self,splice,QUU,QVu,QUX,QU4,QUJ,QUK,QUC,QVi,eE,seval]
   try rfl
  ·simp only[hc,Xm,decide_false,and_false,eE,seval]
 ·have b0:(k==6)=false:=by simp[hk]
  simp only[b0,Xm,hk,false_and,eE,seval]

def Xa:R :=
 if k=1∨k=4∨k=5∨k=9 then⟨0,0,b,[]⟩else if k=2∨k=3 then⟨0,1,(WO (IntKind.i64.wrap (b:Int))).toNat,[]⟩
 else if k=6 then⟨0,2,Xm k b,[]⟩else if k=7∨k=8 then⟨0,3,0,t⟩else zr

theorem y23:Qk Tryz.prog 23 [vv k b t l p s r] (Xa k b t).av:=by
  have hn:=y50 k b hb t l p s r;simp only[vv]at hn;have hw0 : -9223372036854775808≤IntKind.i64.wrap (b:Int):=by rw[QF];omega
  have hw1:IntKind.i64.wrap (b:Int)<9223372036854775808:=by rw[QF];omega
  have hz:=c49 (IntKind.i64.wrap (b:Int)) hw0 hw1;have hzn:(((WO (IntKind.i64.wrap (b:Int))).toNat:Nat):Int)=WO (IntKind.i64.wrap (b:Int)):=Int.toNat_of_nonneg (Wl _);refine k23.fn (by simp) ?_;simp only[vv,eE,seval];by_cases h1:k=1∨k=4∨k=5∨k=9
  · have hs:Xa k b t=⟨0,0,b,[]⟩:=by unfold Xa;rw[QUQ h1]
    rcases h1 with rfl|rfl|rfl|rfl<;>simp only[hs,R.av,seval,splice,QUU,QVu,QUX,QU4,QUJ,QUK,QUC,QVi,eE]<;>rfl
  have hk1:(k==1)=false:=by simp;omega
  have hk4:(k==4)=false:=by simp;omega
  have hk5:(k==5)=false:=by simp;omega
  have hk9:(k==9)=false:=by simp;omega
  by_cases h2:k=2∨k=3
  · have hs:Xa k b t=⟨0,1,(WO (IntKind.i64.wrap (b:Int))).toNat,[]⟩:=by unfold Xa;rw[QUB h1,QUQ h2]
    rcases h2 with rfl|rfl <;>
      (simp only[seval,eE]
       refine aC hz ?_;simp only[hs,R.av,hzn,splice,QUU,QVu,QUX,QU4,QUJ,QUK,QUC,QVi,eE,seval])
  have hk2:(k==2)=false:=by simp;omega
  have hk3:(k==3)=false:=by simp;omega
  by_cases h6:k=6
  · have hs:Xa k b t=⟨0,2,Xm k b,[]⟩:=by unfold Xa;rw[QUB h1,QUB h2,QUQ h6]
    have b6:(k==6)=true:=by simp[h6]
    simp only[hk1,hk4,hk5,hk9,hk2,hk3,b6,QUU,QU4,QUC,QVi,eE,seval];refine aC hn ?_;simp only[hs,R.av,splice,QUU,QVu,QUX,QU4,QUJ,QUK,QUC,QVi,eE,seval]
  have hk6:(k==6)=false:=by simp;omega
  by_cases h7:k=7∨k=8
  · have hs:Xa k b t=⟨0,3,0,t⟩:=by unfold Xa;rw[QUB h1,QUB h2,QUB h6,QUQ h7]
    rcases h7 with rfl|rfl<;>simp only[hs,R.av,seval,splice,QUU,QVu,QUX,QU4,QUJ,QUK,QUC,QVi,eE]<;>rfl
  have hk7:(k==7)=false:=by simp;omega
  have hk8:(k==8)=false:=by simp;omega
  have hs:Xa k b t=zr:=by unfold Xa;rw[QUB h1,QUB h2,QUB h6,QUB h7]
  simp only[hk1,hk4,hk5,hk9,hk2,hk3,hk6,hk7,hk8,hs,zr,R.av,splice,QUU,QVu,QUX,QU4,QUK,QUC,QVi,eE,seval]
  try rfl

end

end Go.Proofs.YtdhlbgejhcejcaaGreatDoor.Va

namespace Go.Proofs.YtdhlbgejhcejcaaGreatDoor.Va
open Go Am Rc Bt Vp

def bl (l:List UInt8):List AV:=l.map fun b=>.int .u8 (b.toNat:Int)
theorem Fp (a b:List UInt8):bl (a++b)=bl a++bl b:=by simp[bl]
theorem Fq (a:List UInt8):(bl a).length=a.length:=by simp[bl]
theorem Ua (l:List UInt8):bytesOf (bl l)=some l:=by
 induction l with
 |nil=>rfl
 |cons b l ih=>
  show(bytesOf (bl l)).map _=_;rw[ih];simp

theorem QHd (u:Nat):(u:Int).fdiv (2 ^ min 7 64)=((u / 128:Nat):Int):=by
 rw[show min 7 64=7 from rfl,QWz _ (show(0:Int)≤2 ^ 7 by decide)];omega

theorem QHe (u:Nat):bits .or .u8 (IntKind.u8.wrap (u:Int)) 128=((UInt8.ofNat (u % 128+128)).toNat:Int):=by
 rw[wu8];have h:∀n:Fin 256,bits .or .u8 ((n.val:Nat):Int) 128=((n.val % 128+128:Nat):Int):=by decide +kernel
 have:=h ⟨u % 256,by omega⟩;simp only at this;rw[show((u:Int) % 256)=((u % 256:Nat):Int)by omega,this,toNat_ofNat _ (by omega)];omega

theorem QP8 (u:Nat)(h:u<128):IntKind.u8.wrap (u:Int)=((UInt8.ofNat u).toNat:Int):=by
 rw[wu8,toNat_ofNat _ (by omega)];omega

def QP9 (u0:Nat)(k:Nat)(st:St):Prop :=
 ∃f fr u g j l,st=⟨f,[fr],[]⟩∧k=u∧f 0=.int .u64 (u:Nat)∧f 3=.vec 0 3 g 0 l.length false∧fr 3=.vec g 1 (bl l)∧u<UH (9-j)∧l.length+j=9∧l++JS j u=Vp.put u0

theorem C2 (u:Nat)(hu:u<18446744073709551616):Qk Tryz.prog 107 [.int .u64 u] (.str (Vp.put u)):=by
 refine Qdh.fn (by simp) ?_;simp only[GE,seval];refine Zp rfl rfl ?_;simp only[GE,seval];refine Qd (QP9 u) u ⟨_,_,u,1,9,[],rfl,rfl,rfl,rfl,rfl,hu,rfl,rfl⟩ ?_;rintro n st ⟨f,fr,v,g,j,l,rfl,rfl,h0,h3,hv,hlt,hj,hl⟩;simp only[h0,GE,seval];refine Xr (fun h=>?_) (fun h=>?_)
 ·have h:128≤n:=by(have h:(128:Int)≤n:=(by simpa using h));omega
  obtain⟨j,rfl⟩:∃i,j=i+1:=⟨j-1,by
   rcases QVb j with rfl|hp
   ·simp[UH]at hlt;omega
   ·omega⟩
  simp only[h0,h3,GE,seval];refine D0 rfl ?_;refine QO rfl hv rfl (Fq l).symm rfl rfl (by simp[maxLen];omega) (by simp;omega) ?_;simp only[h0,QHd,QHe,GE,seval];refine⟨n / 128,by omega,_,_,n / 128,g+1,j,l++[UInt8.ofNat (n % 128+128)],rfl,rfl,rfl,?_,?_,?_,?_,?_⟩
  ·simp only[QUZ,QUC,QVi,GE,seval]
  ·simp only[QS,Fp]<;>rfl
  ·have:=Fj (9-(j+1)) n (by omega) hlt
   rwa [show 9-(j+1)+1=9-j by omega]at this
  ·simp;omega
  ·rw[←hl,BP j n (by omega)];simp
 ·have h:n<128:=by(have h:(n:Int)<128:=(by simpa using h));omega
  simp only[h0,h3,GE,seval];refine D0 rfl ?_;refine QO rfl hv rfl (Fq l).symm rfl rfl (by simp[maxLen];omega) (by simp;omega) ?_;have he:=WY (m:=[]) (fr:=QI fr 3 (.vec (g+1) 1 (bl l++[.int .u8 ((UInt8.ofNat n).toNat:Int)]))) (site:=3) (g:=g+1) (sz:=1) (n:=l.length+(0+1)) (q:=false) rfl (by simp[bl]);have hb:bytesOf (bl l++[.int .u8 ((UInt8.ofNat n).toNat:Int)])=some (l++[UInt8.ofNat n]):=by
   have:=Ua (l++[UInt8.ofNat n])
   rwa [Fp]at this
  simp only[QP8 n h,he,hb,GE,seval];rw[←hl,GR j n h]

open Cp

theorem Qxl {a:Nat}(h:¬a=0):((a:Int) != 0)=true:=by simp[h]
def fx:Nat→Nat→List UInt8
 |0,_=>[]
 |k+1,u=>UInt8.ofNat (u % 256) :: fx k (u / 256)

theorem YD (k u:Nat):(fx k u).length=k:=by
 induction k generalizing u with
 |zero=>rfl
 |succ k ih=>simp[fx,ih]

theorem QaF (k u:Nat):fx (k+1) u=fx k u++[UInt8.ofNat (u / 256 ^ k % 256)]:=by
 induction k generalizing u with
 |zero=>simp[fx]
 |succ k ih=>
  rw[fx,ih (u / 256)];simp only[fx,QUJ,Nat.div_div_eq_div_mul,Nat.pow_succ,Nat.mul_comm]

theorem VI:∀(k u:Nat),u<256 ^ k→(fx k u).foldr (fun b v=>256*v+b.toNat) 0=u
 |0,u,h=>by simp at h;simp[fx,h]
 |k+1,u,h=>by
  rw[fx,List.foldr_cons,VI k (u / 256) (by rw[Nat.pow_succ]at h;omega),toNat_ofNat _ (by omega)];omega

theorem VJ (u:Nat)(t:List UInt8)(h:u<2 ^ 64):Sc (fx 8 u++t)=u:=by
 unfold Sc;rw[List.take_left' (YD 8 u)]
 exact VI 8 u (Nat.lt_of_lt_of_eq h (by decide))

open Up

theorem Qxm (w:Int):Qk Tryz.prog 106 [.int .i64 w] (.bool (ZR w)):=by
 refine Qc7.fn (by simp) ?_;simp only[Qa,seval]
 repeat' (first|(refine Xr (fun h=>?_) (fun h=>?_)<;>simp only[h,eE,seval])|(refine X3 (fun h=>?_) (fun h=>?_)<;>simp only[h,Qp,eE,seval])|(refine X4 (fun h=>?_) (fun h=>?_)<;>simp only[h,Qp,Qa,seval]))
 all_goals simp_all[ZR]

theorem Re {n w:Int}(h:¬(n<1∨65535<n∨w<0∨6<w)):IntKind.u64.wrap (IntKind.i64.wrap (IntKind.i64.wrap (n*8)+w))=((n*8+w).toNat:Nat)∧(n*8+w).toNat<18446744073709551616:=by
 simp only[Wz,QF];omega

theorem Qxn (n w:Int):Qk Tryz.prog 103 [.int .i64 n,.int .i64 w] (CM (ZZ n w)):=by
 refine QcV.fn (by simp) ?_;simp only[Qa,seval];by_cases hb:n<1∨65535<n∨w<0∨6<w
 ·repeat' (first|(refine Xr (fun h=>?_) (fun h=>?_)<;>simp only[h,Qa,seval])|(refine X3 (fun h=>?_) (fun h=>?_)<;>simp only[h,Qp,eE,seval])|(refine X4 (fun h=>?_) (fun h=>?_)<;>simp only[h,Qp,Qa,seval]))
  all_goals first
   |(rw[ZZ,QUQ hb]<;>rfl)
   |(exfalso;simp only[QWj]at *;omega)
 ·obtain⟨e1,e2⟩:=Re hb;have d1:decide (n<1)=false:=by simp;omega
  have d2:decide (65535<n)=false:=by simp;omega
  have d3:decide (w<0)=false:=by simp;omega
  have d4:decide (6<w)=false:=by simp;omega
  simp only[d1,d2,d3,d4,e1,Qa,seval];refine aC (C2 _ e2) ?_;rw[ZZ,QUB hb];simp only[CM,Qa,seval]
  try rfl

def sg:Nat→C→List R×Nat
 |0,_=>([],0)
 |k+1,c=>
  if 0<c.left then
   let r:=nxt c
   if r.2.2=0 then
    let t:=sg k r.2.1
    if t.2=0 then(r.1 :: t.1,0)else([],t.2)
   else([],r.2.2)
  else([],0)

def QQa (s:List UInt8)(l:L):List R×Nat :=
 let o:=opn s l
 if o.2=0 then sg s.length o.1 else([],o.2)

def Dl (l:List R):List AV:=l.map R.av
theorem QaG (a:List R):(Dl a).length=a.length:=by simp[Dl]

structure Step (c d:C):Prop where
 n:∃k:Nat,d={ c with a:=c.a+k,nd:=d.nd }∧0<k∧(k:Int)≤c.left
 sound:c.sound=true

structure ScanS (s:List UInt8)(l:L)(c:C)(acc:List R):Prop where
 len:c.d.length=s.length
 all:QQa s l=(if (sg c.left.toNat c).2=0 then(acc++(sg c.left.toNat c).1,0)else([],(sg c.left.toNat c).2))
 acc:(acc.length:Int)+c.left≤s.length

end Go.Proofs.YtdhlbgejhcejcaaGreatDoor.Va

namespace Go.Proofs.YtdhlbgejhcejcaaGreatDoor.Va
open Go Am Rc Bt Vp Cp

def Qxo (u:Nat)(k:Nat)(st:St):Prop :=
 ∃f fr i,st=⟨f,[fr],[]⟩∧k=8-i∧i≤8∧f 0=.int .u64 (u:Nat)∧f 3=.vec 0 5 1 0 8 false∧f 7=.int .i64 8∧f 8=.int .i64 (i:Nat)∧fr 5=.vec 1 1 (QA (fx i u)++List.replicate (8-i) (AV.int .u8 0))

theorem QaH (u i:Nat)(hi:i<8):IntKind.u8.wrap ((u:Int).fdiv (2 ^ min (8*i) 64))=((UInt8.ofNat (u / 256 ^ i % 256)).toNat:Int):=by
 have hp:(256:Nat) ^ i=2 ^ (8*i):=by rw[Nat.pow_mul]
 rw[QVB (by omega),QWz _ (Int.le_of_lt (Int.pow_pos (by decide))),toNat_ofNat _ (Nat.mod_lt _ (by decide)),hp,wu8];have:(u:Int) / 2 ^ (8*i)=((u / 2 ^ (8*i):Nat):Int):=by push_cast;rfl
 rw[this];omega

theorem Qxp (u:Nat):Qk Tryz.prog 105 [.int .u64 u] (.str (fx 8 u)):=by
 refine QKc.fn (by simp) ?_;simp only[Qa,seval];refine U3 (n:=8) (k:=8) rfl rfl (QUm _) (by decide) (by decide) rfl ?_;simp only[eE,seval];refine Qd (Qxo u) 8 ?_ ?_
 ·exact⟨_,_,0,rfl,rfl,by omega,rfl,rfl,rfl,rfl,rfl⟩
 rintro n st ⟨f,fr,i,rfl,rfl,hi,h0,h3,h7,h8,m5⟩;simp only[h7,h8,Qa,seval];have hlen:(QA (fx i u)).length=i:=by simp[QA,YD]
 by_cases hlt:i<8
 ·have d0:decide ((i:Int)<8)=true:=by simp;omega
  have e0:IntKind.i64.wrap (8*(i:Int))=((8*i:Nat):Int):=by rw[QF];omega
  have n0:(0≤((8*i:Nat):Int))=True:=eq_true (by omega);have n1:(0≤(i:Int))=True:=by simp
  have n2:(i<8)=True:=eq_true hlt;have e1:IntKind.i64.wrap ((i:Int)+1)=((i+1:Nat):Int):=by rw[QF];omega
  have hb:=QaH u i hlt;obtain⟨j,hj⟩:∃j,8-i=j+1:=⟨7-i,by omega⟩;have hget:(QA (fx i u)++List.replicate (8-i) (AV.int .u8 0))[0+i]? = some (.int .u8 0):=by
   rw[QU3,QVM (by omega),hlen,Nat.sub_self,hj];rfl
  have hset:(QA (fx i u)++List.replicate (8-i) (AV.int .u8 0)).set (0+i) (AV.int .u8 ((UInt8.ofNat (u / 256 ^ i % 256)).toNat:Int))=QA (fx (i+1) u)++List.replicate (8-(i+1)) (AV.int .u8 0):=by
   rw[QU3,QaF,List.set_append_right _ _ (by omega),hlen,Nat.sub_self,hj,show 8-(i+1)=j by omega];simp[QA,List.replicate_succ]
  simp only[d0,e0,n0,n1,n2,e1,hb,QVN,Qb,hget,ZN,AV.rfL,AV.rf,hset,h0,h3,h8,m5,eE,seval];exact⟨8-(i+1),by omega,_,_,i+1,rfl,rfl,by omega,by simp only[h0,Qa,seval],by simp only[h3,Qa,seval],by simp only[h7,Qa,seval],by simp only[Qa,seval],by simp only[Qa,seval]⟩
 ·have hi8:i=8:=by omega
  subst hi8;have d0:decide (((8:Nat):Int)<8)=false:=rfl;rw[Nat.sub_self,List.replicate_zero,QVp]at m5;have he:=WY (m:=[]) (fr:=fr) (site:=5) (g:=1) (sz:=1) (n:=8) (q:=false) m5 (by simp[QA,YD]);have hbo:bytesOf (QA (fx 8 u))=some (fx 8 u):=Ua _;simp only[he,hbo,h3,Qa,seval]

open Up

def valid (f:R):Bool:=(ZZ f.num f.wire).2==0&&(if ZR f.wire then f.data==[]else f.bits==0)

theorem QaJ (n:Nat):(((n:Nat):Int)==0)=(n==0):=by
 by_cases h:n=0
 ·subst h;rfl
 ·rw[QV4.2 h,QV4.2 (by omega)]

theorem QQb (f:R):Qk Tryz.prog 102 [f.av] (.bool (valid f)):=by
 refine QcO.fn (by simp) ?_;simp only[R.av,eE,seval];refine aC (Qxn f.num f.wire) ?_;unfold valid;generalize ZZ f.num f.wire=t;obtain⟨s,e⟩:=t;simp only[CM,Qa,seval];by_cases he:e=0
 ·subst he;simp only[eE,seval];refine aC (Qxm f.wire) ?_;cases hn:ZR f.wire with
  |true=>
   simp only[QH,QVv,eE,seval]
  |false=>
   simp only[QaJ,QVv,eE,seval]
 ·simp only[Qxl he,Qa,seval];simp[he]

theorem QQc (p v:AV)(h fr:Nat→Ob)(m:Qo)(hs:fr 2141=.cells [p,v])(hp:p=.nilp∨p=.ptr 0 2141 0) :
  Qg Tryz.prog 193 [.ptr 1 2141 0] (h :: fr :: m) fun x m1=>x=.tup []∧m1=h :: QI fr 2141 (.cells [.ptr 0 2141 0,v]) :: m:=by
 refine QhW.go (by simp) ?_;rcases hp with rfl|rfl
 ·simp only[hs,RR.evL,eE,seval]
 ·simp only[hs,RR.evL,Ed _ _ _ hs,eE,seval]

structure Bld (fr:Nat→Ob)(bs:List UInt8):Prop where
 mk ::
 cell:∃p g,fr 2141=.cells [p,.vec 0 2005 g 0 bs.length false]∧fr 2005=.vec g 1 (QA bs)∧(p=.nilp∨p=.ptr 0 2141 0)

def Km (fr:Nat→Ob)(g:Nat)(bs:List UInt8):Nat→Ob :=
 QI (QI fr 2005 (.vec g 1 (QA bs))) 2141 (.cells [.ptr 0 2141 0,.vec 0 2005 g 0 bs.length false])

theorem KX (fr:Nat→Ob)(g:Nat)(bs:List UInt8):Bld (Km fr g bs) bs :=
 ⟨_,g,by rw[Km,QS],by rw[Km,QR _ _ (by decide),QS],.inr rfl⟩

theorem WP {fr:Nat→Ob}{g:Nat}{bs:List UInt8}{s:Nat}(h1:s≠2005)(h2:s≠2141):Km fr g bs s=fr s:=by
 rw[Km,QR _ _ h2,QR _ _ h1]

theorem Nt (bs t:List UInt8)(fr:Nat→Ob)(m:Qo)(h:Bld fr bs)(hl:bs.length+t.length≤140737488355328) :
  ∃g,Qg Tryz.prog 104 [.ptr 0 2141 0,.str t] (fr :: m) fun x m1=>x=.tup [.int .i64 (t.length:Int),.nili]∧m1=Km fr g (bs++t) :: m:=by
 obtain⟨p,g,h1,h2,h3⟩:=h.cell;refine⟨g+1,?_⟩;refine Qc2.go (by simp) ?_;simp only[Qa,seval];refine Qj (QQc p _ _ fr m h1 h3) rfl ?_;simp only[h1,eE,seval];refine Uy (xs:=QA bs) rfl (by simp only[h2,eE,seval]) rfl (by simp[QA]) rfl hl ?_;have hb:QA bs++QA t=QA (bs++t):=by simp[QA]
 have hn:bs.length+t.length=(bs++t).length:=by simp
 simp only[h1,hb,hn,eE,seval];rw[Ba _ _ _ _ _ (by decide),Dx,Ba _ _ _ _ _ (by decide),Km]

def C3 (fr:Nat→Ob)(bs:List UInt8):Nat→Ob :=
 if bs.length=0 then fr else match fr 2005 with
  |.vec g _ _=>QI fr 2005 (.vec (g+1) 1 [])
  |_=>fr

theorem QQd (bs:List UInt8)(fr:Nat→Ob)(m:Qo)(h:Bld fr bs)(hl:bs.length≤140737488355328) :
  Qg Tryz.prog 108 [.ptr 0 2141 0] (fr :: m) fun x m1=>x=.str bs∧m1=C3 fr bs :: m:=by
 obtain⟨p,g,h1,h2,h3⟩:=h.cell;refine Qdm.go (by simp) ?_;simp only[h1,eE,seval];refine⟨1,2005,g,bs.length,1,QA bs,by decide,rfl,h2,?_⟩;by_cases h0:bs.length=0
 ·have hb:bs=[]:=QVq h0;subst hb;simp only[Qp,h1,h2,QVi,Int.natCast_zero,eE,seval];refine .inl ⟨rfl,rfl,?_⟩;simp only[Qp,C3,QVi,Qa,seval]
 ·simp only[h0,Qp,h1,h2,eE,seval];refine .inr ⟨1,g,bs.length,QA bs,bs,rfl,rfl,h2,by simp[QA],h0,QUV (by simp[QA]),?_⟩;simp only[h0,Qp,h2,C3,eE,seval]

def body (f:R):List UInt8:=if f.wire=2 then fx 8 f.bits else if ZR f.wire then Vp.put f.bits else Vp.put f.data.length++f.data
def KY (f:R):List UInt8:=if valid f then(ZZ f.num f.wire).1++body f else []
def Xi (l:List R):List UInt8:=l.flatMap KY

theorem Bld.drop {fr:Nat→Ob}{bs:List UInt8}(h:Bld fr bs):Bld (QI (fun i=>(fr i).scrub 5) 5 .none) bs:=by
 obtain⟨p,g,h1,h2,h3⟩:=h.cell;refine⟨p,g,?_,?_,h3⟩
 ·rw[QR _ _ (by decide),h1];rcases h3 with rfl|rfl<;>rfl
 ·rw[QR _ _ (by decide),h2];rfl

theorem Bld.put {fr:Nat→Ob}{bs:List UInt8}(h:Bld fr bs)(o:Ob):Bld (QI fr 5 o) bs:=by
 obtain⟨p,g,h1,h2,h3⟩:=h.cell;exact⟨p,g,by rw[QR _ _ (by decide)];exact h1,by rw[QR _ _ (by decide)];exact h2,h3⟩

def AX (l:List R)(k:Nat)(st:St):Prop :=
 ∃f fr i,st=⟨f,[fr],[]⟩∧k=l.length-i∧i≤l.length∧f 3=.ptr 0 2141 0∧f 8=.list (Dl l)∧f 9=.int .i64 (l.length:Int)∧f 10=.int .i64 (i:Nat)∧(fr 5).isRow=false∧Bld fr (Xi (l.take i))

theorem Fs (l:List R)(i:Nat)(fd:R)(h:l[i]? = some fd):Xi (l.take (i+1))=Xi (l.take i)++KY fd:=by
 obtain⟨hi,e⟩:=QUn.1 h;rw[QUH hi,e];simp[Xi]

theorem QaK (l:List R)(i:Nat)(fd:R)(h:l[i]? = some fd):(Xi (l.take i)).length+(KY fd).length≤(Xi l).length:=by
 have e:Xi l=Xi (l.take (i+1))++Xi (l.drop (i+1)):=by
  unfold Xi;rw[←List.flatMap_append,QVC]
 rw[e,Fs l i fd h];simp

theorem c61 (l:List R)(hb:∀fd∈l,fd.bits<18446744073709551616∧fd.data.length<9223372036854775807)(hn:l.length<9223372036854775807)(hl:(Xi l).length≤140737488355328):Qk Tryz.prog 61 [.list (Dl l)] (.str (Xi l)):=by
 refine k61.fn (by simp) ?_;simp only[eE,seval];refine JP rfl rfl rfl rfl ?_;simp only[QaG,Qa,seval];refine Qd (AX l) _ ⟨_,_,0,rfl,rfl,QUv _,rfl,rfl,rfl,rfl,rfl,?_⟩ ?_
 ·exact⟨.nilp,1,rfl,rfl,.inl rfl⟩
 rintro n st ⟨f,fr,i,rfl,rfl,hi,h3,h8,h9,h10,m5,hB⟩;simp only[h9,h10,m5,Qa,seval];by_cases hlt:i<l.length
 ·obtain⟨fd,hfd⟩:∃fd,l[i]? = some fd:=⟨l[i],QUo hlt⟩;have hmem:=QUA hfd;obtain⟨hb1,hb2⟩:=hb fd hmem;have hfa:(Dl l)[i]? = some fd.av:=by simp[Dl,hfd]
  have hps:=Fs l i fd hfd;have hple:=QaK l i fd hfd;have d0:decide ((i:Int)<(l.length:Int))=true:=by simp;omega
  have n0:(0≤(i:Int))=True:=by simp
  have e1:IntKind.i64.wrap ((i:Int)+1)=((i+1:Nat):Int):=by rw[QF];omega
  -- how a round ends
  have fin:∀(f':Fr) (fr':Nat→Ob) (bs':List UInt8),f' 3=.ptr 0 2141 0→f' 8=.list (Dl l)→f' 9=.int .i64 (l.length:Int)→f' 10=.int .i64 (((i+1:Nat):Nat):Int)→(fr' 5).isRow=false→Bld fr' bs'→bs'=Xi (l.take i)++KY fd→∃k,k<l.length-i∧AX l k ⟨f',[fr'],[]⟩:=by
   intro f' fr' bs' g1 g2 g3 g4 g5 g6 g7;exact⟨l.length-(i+1),by omega,f',fr',i+1,rfl,rfl,by omega,g1,g2,g3,g4,g5,by rw[hps,←g7];exact g6⟩
  have hB1:=(hB.drop).put (.cells [.int .i64 fd.num,.int .i64 fd.wire,.int .u64 (fd.bits:Nat),.str fd.data]);rw[Dx]at hB1;simp only[d0,n0,QVN,Qb,hfa,R.av,h8,h10,eE,seval];refine aC (QQb fd) ?_;cases hv:valid fd with
  |false=>
   simp only[e1,h10,Qa,seval];refine fin _ _ _ ?_ ?_ ?_ ?_ ?_ hB1 ?_
   ·simp only[h3,Qa,seval]
   ·simp only[h8,Qa,seval]
   ·simp only[h9,Qa,seval]
   ·simp only[Qa,seval]
   ·simp only[Qa,seval]
   ·simp[KY,hv]
  |true=>
   simp only[eE,seval];refine aC (Qxn fd.num fd.wire) ?_;simp only[CM,Qa,seval];have hp:KY fd=(ZZ fd.num fd.wire).1++body fd:=by simp[KY,hv]
   have hpl:=congrArg List.length hp;rw[QUZ]at hpl;have hbl:∀x:Nat,x≤(body fd).length→(Xi (l.take i)).length+(ZZ fd.num fd.wire).1.length+x≤140737488355328:=by intro x hx;omega
   have hbody:body fd=if fd.wire=2 then fx 8 fd.bits else if ZR fd.wire then Vp.put fd.bits else Vp.put fd.data.length++fd.data:=rfl
   obtain⟨g1,hw1⟩:=Nt (Xi (l.take i)) (ZZ fd.num fd.wire).1 _ [] hB1 (by have:=hbl 0 (by omega);omega);refine Qj hw1 (by simp only[QUT,h3,Qa,seval]) ?_;have B2:=KX (QI (fun i=>(fr i).scrub 5) 5 (.cells [.int .i64 fd.num,.int .i64 fd.wire,.int .u64 (fd.bits:Nat),.str fd.data])) g1 (Xi (l.take i)++(ZZ fd.num fd.wire).1);have w5:Km (QI (fun i=>(fr i).scrub 5) 5 (.cells [.int .i64 fd.num,.int .i64 fd.wire,.int .u64 (fd.bits:Nat),.str fd.data])) g1 (Xi (l.take i)++(ZZ fd.num fd.wire).1) 5=.cells [.int .i64 fd.num,.int .i64 fd.wire,.int .u64 (fd.bits:Nat),.str fd.data]:=by
    rw[WP (by decide) (by decide),QS]
   have hlen2:(Xi (l.take i)++(ZZ fd.num fd.wire).1).length=(Xi (l.take i)).length+(ZZ fd.num fd.wire).1.length:=by simp
   generalize hfr2:Km (QI (fun i=>(fr i).scrub 5) 5 (.cells [.int .i64 fd.num,.int .i64 fd.wire,.int .u64 (fd.bits:Nat),.str fd.data])) g1 (Xi (l.take i)++(ZZ fd.num fd.wire).1)=fr2 at B2 w5;simp only[w5,eE,seval];by_cases w2:fd.wire=2
   ·have dw:(fd.wire==2)=true:=by simpa using w2
    have hbo:body fd=fx 8 fd.bits:=by rw[hbody,QUQ w2]
    simp only[dw,w5,eE,seval];refine aC (Qxp fd.bits) ?_;obtain⟨g2,hw2⟩:=Nt _ (fx 8 fd.bits) _ [] B2 (by rw[hlen2];exact hbl _ (by rw[hbo];exact QUm _));refine Qj hw2 (by simp only[QUT,h3,Qa,seval]) ?_;simp only[e1,h10,Qa,seval];refine fin _ _ _ ?_ ?_ ?_ ?_ ?_ (KX _ _ _) ?_
    ·simp only[h3,Qa,seval]
    ·simp only[h8,Qa,seval]
    ·simp only[h9,Qa,seval]
    ·simp only[Qa,seval]
    ·rw[WP (by decide) (by decide),w5]<;>rfl
    ·rw[hp,hbo,QUI]
   ·have dw:(fd.wire==2)=false:=by simpa using w2
    simp only[dw,w5,eE,seval];refine aC (Qxm fd.wire) ?_;cases hnu:ZR fd.wire with
    |true=>
     have hbo:body fd=Vp.put fd.bits:=by rw[hbody,QUB w2,QUQ hnu]
     simp only[w5,eE,seval];refine aC (C2 fd.bits hb1) ?_;obtain⟨g2,hw2⟩:=Nt _ (Vp.put fd.bits) _ [] B2 (by rw[hlen2];exact hbl _ (by rw[hbo];exact QUm _));refine Qj hw2 (by simp only[QUT,h3,Qa,seval]) ?_;simp only[e1,h10,Qa,seval];refine fin _ _ _ ?_ ?_ ?_ ?_ ?_ (KX _ _ _) ?_
     ·simp only[h3,Qa,seval]
     ·simp only[h8,Qa,seval]
     ·simp only[h9,Qa,seval]
     ·simp only[Qa,seval]
     ·rw[WP (by decide) (by decide),w5]<;>rfl
     ·rw[hp,hbo,QUI]
    |false=>
     have hbo:body fd=Vp.put fd.data.length++fd.data:=by rw[hbody,QUB w2,QUB (by rw[hnu];simp)]
     have hbn:=congrArg List.length hbo;rw[QUZ]at hbn;have eu:IntKind.u64.wrap (fd.data.length:Int)=(fd.data.length:Nat):=by rw[Wz];omega
     simp only[eu,w5,eE,seval];refine aC (C2 fd.data.length (by omega)) ?_;obtain⟨g2,hw2⟩:=Nt _ (Vp.put fd.data.length) _ [] B2 (by rw[hlen2];exact hbl _ (by omega));refine Qj hw2 (by simp only[QUT,h3,Qa,seval]) ?_;have B3:=KX fr2 g2 (Xi (l.take i)++(ZZ fd.num fd.wire).1++Vp.put fd.data.length);have w6:Km fr2 g2 (Xi (l.take i)++(ZZ fd.num fd.wire).1++Vp.put fd.data.length) 5=.cells [.int .i64 fd.num,.int .i64 fd.wire,.int .u64 (fd.bits:Nat),.str fd.data]:=by
      rw[WP (by decide) (by decide),w5]
     have hlen3:(Xi (l.take i)++(ZZ fd.num fd.wire).1++Vp.put fd.data.length).length=(Xi (l.take i)).length+(ZZ fd.num fd.wire).1.length+(Vp.put fd.data.length).length:=by simp;omega
     generalize hfr3:Km fr2 g2 (Xi (l.take i)++(ZZ fd.num fd.wire).1++Vp.put fd.data.length)=fr3 at B3 w6;simp only[w6,eE,seval];obtain⟨g3,hw3⟩:=Nt _ fd.data _ [] B3 (by rw[hlen3];have:=hbl (body fd).length (QUm _);omega);refine Qj hw3 (by simp only[QUT,h3,Qa,seval]) ?_;simp only[e1,h10,Qa,seval];refine fin _ _ _ ?_ ?_ ?_ ?_ ?_ (KX _ _ _) ?_
     ·simp only[h3,Qa,seval]
     ·simp only[h8,Qa,seval]
     ·simp only[h9,Qa,seval]
     ·simp only[Qa,seval]
     ·rw[WP (by decide) (by decide),w6]<;>rfl
     ·rw[hp,hbo,QUI,QUI]
 ·have d0:decide ((i:Int)<(l.length:Int))=false:=by simp;omega
  have hil:i=l.length:=by omega
  subst hil;rw[QVX]at hB;simp only[d0,Qa,seval];refine Qj (QQd (Xi l) _ [] hB.drop hl) (by simp only[QUT,h3,Qa,seval]) ?_;simp only[Qa,seval]

end Go.Proofs.YtdhlbgejhcejcaaGreatDoor.Va

namespace Go.Proofs.YtdhlbgejhcejcaaGreatDoor.Va
open Go Am Rc Bt Br Up So

def ZV (n:Int)(x:V):R:={ Xa x.kd x.bits x.text with num:=n }
section
variable (bd:Int→V→List UInt8)
def Xh (o:PO)(n:Int)(x:V):R:=if o.kind=10 then⟨n,4,0,bd o.target x⟩else ZV n x
def KN (o:PO)(p:V×V):R:=⟨o.num,6,0,Xi [ZV 1 p.1,Xh bd o 2 p.2]⟩
def Um (w:Int)(b:Nat):List UInt8:=if w=2 then fx 8 b else Vp.put b
def Un (w:Int)(x:V):List UInt8:=Um w (Xa x.kd x.bits x.text).bits
def HT (o:PO)(l:List V):R:=⟨o.num,5,0,UInt8.ofNat (wk o.kind).toNat :: l.flatMap (Un (wk o.kind))⟩
def J0 (o:PO)(x:V):List R :=
 if o.card=5 then x.pairs.map (KN bd o)
 else if pk o.card o.kind=true then [HT o x.list]
 else if o.card=4 then x.list.map (Xh bd o o.num)
 else [Xh bd o o.num x]
def XY (g:PG)(s:Int×V):List R:=match XH g s.1 with
 |none=>[]
 |some o=>J0 bd o s.2
def XK (g:PG):List (Int×V)→List R→List R
 | [],rs=>rs
 |s :: sl,rs=>rs.takeWhile (fun r=>decide (r.num<s.1))++XY bd g s++XK g sl (rs.dropWhile fun r=>decide (r.num<s.1))
end
def XE (P:PL):Nat→Int→V→List UInt8
 |0,_,_=>[]
 |n+1,t,v=>Xi (XK (XE P n) (QL P t) (nrm P (n+1) (QL P t) v).slots (nrm P (n+1) (QL P t) v).raws)

theorem Qxq (n w:Int):(ZZ n w).1.length≤10:=by
 unfold ZZ;split
 ·exact QUv _
 ·exact(Vp.put_len _).2
theorem Qxr (f:R):(KY f).length≤20+f.data.length:=by
 unfold KY;split
 ·have h1:=Qxq f.num f.wire;have h2:(body f).length≤10+f.data.length:=by
   unfold body;split
   ·rw[YD];omega
   ·split
    ·have:=(Vp.put_len f.bits).2;omega
    ·have:=(Vp.put_len f.data.length).2;rw[QUZ];omega
  rw[QUZ];omega
 ·exact QUv _
def Z1 (l:List R):Nat:=(l.map fun f=>20+f.data.length).sum
theorem Ub:∀l:List R,(Xi l).length≤Z1 l
 | []=>QUm _
 |f :: l=>by
  have h1:=Qxr f;have h2:=Ub l;unfold Xi Z1 at h2 ⊢;rw[QVP,QUZ,QUT,QWu];omega
theorem VK (a b:List R):Z1 (a++b)=Z1 a+Z1 b:=by
 unfold Z1;rw[QV5,List.sum_append]
theorem VL (f:R):Z1 [f]=20+f.data.length:=by simp[Z1]
theorem DR {P:PL}{k tg:Int}{v:V}(h:v.one P k tg=0):v.text.length≤4096:=by
 unfold V.one WC at h;split at h
 ·omega
 split at h
 ·omega
 rename_i h1 h2;simp only[QUs]at h2;omega
theorem Ft (k:Int)(b:Nat)(t:List UInt8):(Xa k b t).data.length≤t.length:=by
 unfold Xa zr
 repeat' split
 all_goals first|exact QUv _|exact QUm _
theorem Nu (n:Int)(v:V):(ZV n v).data.length≤v.text.length:=Ft _ _ _

section
variable {P:PL}{m:PG→V→Int}{bd:Int→V→List UInt8}
variable (hbd:∀(t:Int) (v:V),(0≤t∧t<(P.progs.length:Int))→m (QL P t) v=0→(bd t v).length+70000≤70000*v.cnt)
include hbd
theorem He {o:PO}(ho:UO P o){n:Int}{x:V}(h:QN m P o x=0):(Xh bd o n x).data.length+5000≤70000*x.cnt:=by
 have hc:=KJ x;unfold QN at h;unfold Xh;split
 ·rename_i hk;rw[QUQ hk]at h;have:=hbd _ _ (ho.tgt hk) h;dsimp only;omega
 ·rename_i hk;rw[QUB hk]at h;have h1:=DR h;have h2:=Nu n x;omega
theorem VM {o:PO}(ho:UO P o){p:V×V}(h1:p.1.one P o.key (-1)=0)(h2:QN m P o p.2=0):20+Z1 [ZV 1 p.1,Xh bd o 2 p.2]≤70000*(p.1.cnt+p.2.cnt):=by
 have h3:=He hbd ho (n:=2) h2;have h4:=DR h1;have h5:=Nu 1 p.1;have hc:=KJ p.1;have e:Z1 [ZV 1 p.1,Xh bd o 2 p.2]=(20+(ZV 1 p.1).data.length)+(20+(Xh bd o 2 p.2).data.length):=by simp[Z1]
 omega
theorem Nv {o:PO}(ho:UO P o){p:V×V}(h1:p.1.one P o.key (-1)=0)(h2:QN m P o p.2=0):20+(KN bd o p).data.length≤70000*(p.1.cnt+p.2.cnt):=by
 have h3:=VM hbd ho h1 h2;have h6:=Ub [ZV 1 p.1,Xh bd o 2 p.2];unfold KN;dsimp only;omega
omit hbd in
theorem VN (w:Int)(x:V):(Un w x).length≤10:=by
 unfold Un Um;split
 ·rw[YD];omega
 ·exact(Vp.put_len _).2
omit hbd in
theorem Hf (w:Int):∀l:List V,(l.flatMap (Un w)).length≤10*l.length
 | []=>QUm _
 |x :: l=>by
  have h1:=VN w x;have h2:=Hf w l;rw[QVP,QUZ,QUC];omega
theorem QaL {o:PO}(ho:UO P o){x:V}(h:QT m P o x=0):Z1 (J0 bd o x)≤70000*x.cnt:=by
 have hc:=Xo x;have hp:=KJ x;unfold QT at h;unfold J0;by_cases h5:o.card=5
 ·rw[QUQ h5]at h;rw[QUQ h5];split at h
  ·omega
  have hE:=(JB.1 h).1;have key:∀l:List (V×V),(∀p∈l,p.1.one P o.key (-1)=0∧QN m P o p.2=0)→Z1 (l.map (KN bd o))≤70000*Xt l:=by
   intro l
   induction l with
   |nil=>intro _;exact QUv _
   |cons p l ih=>
    intro hl;have i1:=ih fun q hq=>hl q (by simp[hq])
    obtain⟨a,b⟩:=hl p (by simp);have i2:=Nv hbd ho a b;obtain⟨pa,pb⟩:=p;unfold Z1 at i1 ⊢;simp only[QUT,QWu,Xt];dsimp only at i2;omega
  have:=key _ hE;omega
 ·rw[QUB h5]at h;rw[QUB h5];split
  ·have h1:=Hf (wk o.kind) x.list;have h2:=HQ x.list;rw[VL];unfold HT;simp only[QUC];omega
  ·by_cases h4:o.card=4
   ·rw[QUQ h4]at h;rw[QUQ h4];split at h
    ·omega
    have hL:=JC.1 h;have key:∀l:List V,(∀y∈l,QN m P o y=0)→Z1 (l.map (Xh bd o o.num))≤70000*Xc l:=by
     intro l
     induction l with
     |nil=>intro _;exact QUv _
     |cons y l ih=>
      intro hl;have i1:=ih fun q hq=>hl q (by simp[hq])
      have i2:=He hbd ho (n:=o.num) (hl y (by simp));unfold Z1 at i1 ⊢;simp only[QUT,QWu,Xc];omega
    have:=key _ hL;omega
   ·rw[QUB h4]at h;rw[QUB h4,VL];have:=He hbd ho (n:=o.num) h;omega
omit hbd in
theorem Nw {g:PG}{f:R}(h:Je P g f=0):f.data.length≤65536:=by
 unfold Je at h;split at h
 ·omega
 split at h
 ·omega
 split at h
 ·omega
 split at h
 ·omega
 rename_i h4;simp only[QUr,QUs,not_or]at h4;omega
theorem HU {g:PG}:∀(sl:List (Int×V)) (rs:List R),(∀x∈sl,∃o,XH g x.1=some o∧UO P o∧QT m P o x.2=0)→(∀f∈rs,Je P g f=0)→Z1 (XK bd g sl rs)≤70000*(rs.length+Xk sl)
 | [],rs,_,hr=>by
  unfold XK;have:∀l:List R,(∀f∈l,Je P g f=0)→Z1 l≤70000*l.length:=by
   intro l
   induction l with
   |nil=>intro _;exact QUv _
   |cons f l ih=>
    intro hl;have i1:=ih fun q hq=>hl q (by simp[hq])
    have i2:=Nw (hl f (by simp));unfold Z1 at i1 ⊢;simp only[QUT,QWu,QUC];omega
  have:=this rs hr;omega
 |s :: sl,rs,hs,hr=>by
  obtain⟨o,h1,ho,h2⟩:=hs s (by simp);have h3:=QaL hbd ho h2;have ih:=HU sl (rs.dropWhile fun r=>decide (r.num<s.1)) (fun x hx=>hs x (by simp[hx])) (fun f hf=>hr f ((QWB _).mem hf));have h4:∀l:List R,(∀f∈l,Je P g f=0)→Z1 l≤70000*l.length:=by
   intro l
   induction l with
   |nil=>intro _;exact QUv _
   |cons f l ih=>
    intro hl;have i1:=ih fun q hq=>hl q (by simp[hq])
    have i2:=Nw (hl f (by simp));unfold Z1 at i1 ⊢;simp only[QUT,QWu,QUC];omega
  have h5:=h4 (rs.takeWhile fun r=>decide (r.num<s.1)) (fun f hf=>hr f ((QWC _).mem hf));have h6:(rs.takeWhile fun r=>decide (r.num<s.1)).length+(rs.dropWhile fun r=>decide (r.num<s.1)).length=rs.length:=by
   rw[←QUZ,List.takeWhile_append_dropWhile]
  obtain⟨sn,sx⟩:=s;rw[XK,VK,VK];unfold XY;rw[h1];simp only[Xk];dsimp only at h3 h5 h6 ih ⊢;omega
end

theorem Hg {P:PL}(hU:Yy P)(hr:Ki P):∀(n:Nat) (t:Int) (v:V),(0≤t∧t<(P.progs.length:Int))→Q9 P n (QL P t) v=0→(XE P n t v).length+70000≤70000*v.cnt
 |0,t,v,_,h=>(Y7 0 _ _ h).elim
 |n+1,t,v,ht,h=>by
  have hg:QL P t∈P.progs:=by
   unfold QL;rw[QUo (by omega:t.toNat<P.progs.length)];exact QVe _
  have hf:=WI hU hr (n+1) (QL P t) hg v h;have hc:=Yx hr (n+1) (QL P t) (Yb hr t) v;rw[XE];generalize nrm P (n+1) (QL P t) v=w at hf hc;obtain⟨_,⟨s1,_,_⟩,_,s4⟩:=ZU.1 hf;have h1:=Ub (XK (XE P n) (QL P t) w.slots w.raws);have h2:=Xo w;have h3:=HU (m:=Q9 P n) (bd:=XE P n) (fun t v ht hm=>Hg hU hr n t v ht hm) w.slots w.raws (fun x hx=>by
   obtain⟨o,ho,hx⟩:=s1 x hx;exact⟨o,ho,hU _ hg o (Zd ho).1,hx⟩) s4
  omega

def Wd (P:PL)(m:PG→V→Int)(g:PG)(s:Int×V):Prop:=∃o,XH g s.1=some o∧QT m P o s.2=0∧(o.card<3∨s.2.emp=false)
theorem Rf {P:PL}(hU:Yy P)(hr:Ki P){n:Nat}{g:PG}(hg:g∈P.progs){v:V}(h:Q9 P (n+1) g v=0):∀s∈(nrm P (n+1) g v).slots,Wd P (Q9 P n) g s:=by
 have hf:=WI hU hr (n+1) g hg v h;obtain⟨_,⟨s1,_,_⟩,_,_⟩:=ZU.1 hf;intro s hs;obtain⟨o,ho,hx⟩:=s1 s hs;refine⟨o,ho,hx,?_⟩;have hs':s∈g.ops.flatMap (QW (nrm P n) P v.slots):=hs;obtain⟨q,hq,hsq⟩:=QU8.1 hs';unfold QW at hsq;split at hsq
 ·cases hsq
 ·split at hsq
  ·rename_i hc;rw[QWs]at hsq;subst hsq;have e:XH g q.num=some q:=XS (hr g hg) hq;rw[e]at ho;cases ho;simp only[QUr,QUs,QVk]at hc;exact hc
  ·cases hsq

theorem HV {c k:Int}(h:pk c k=true):c=4∧(k=1∨k=2∨k=3∨k=4∨k=5∨k=6∨k=9):=by
 unfold pk at h;simp only[QUL,QUr,QUs,QUt]at h;omega
theorem QHf {c k:Int}(h:pk c k=true):wk k=0∨wk k=1∨wk k=2:=by
 obtain⟨_,h⟩:=HV h;rcases h with rfl|rfl|rfl|rfl|rfl|rfl|rfl<;>decide
theorem KZ {k:Int}{b:Nat}(hb:b<18446744073709551616)(t:List UInt8):(Xa k b t).bits<18446744073709551616:=by
 unfold Xa;split
 ·exact hb
 split
 ·have h1:=Qxk (IntKind.i64.wrap (b:Int)) (by rw[QF];omega) (by rw[QF];omega);have h2:=Wl (IntKind.i64.wrap (b:Int));show(WO _).toNat<_;omega
 split
 ·show Xm k b<_;unfold Xm;split
  ·decide
  ·exact hb
 split
 ·exact(by decide:(0:Nat)<18446744073709551616)
 ·exact(by decide:(0:Nat)<18446744073709551616)
theorem Fu {M:Nat}{v:V}(hv:v.ok M):v.bits<18446744073709551616:=by
 have:=Gw hv.bits;omega
def Rb (f:R):Prop:=f.bits<18446744073709551616
theorem Rg {M:Nat}{v:V}(hv:v.ok M)(n:Int):Rb (ZV n v):=KZ (Fu hv) _
theorem Nx {M:Nat}{v:V}(hv:v.ok M)(bd:Int→V→List UInt8)(o:PO)(n:Int):Rb (Xh bd o n v):=by
 unfold Xh;split
 ·exact(by decide:(0:Nat)<18446744073709551616)
 ·exact Rg hv n
theorem Qxs {M:Nat}{v:V}(hv:v.ok M)(bd:Int→V→List UInt8)(o:PO):∀f∈J0 bd o v,Rb f:=by
 have z:(0:Nat)<18446744073709551616:=by decide
 unfold J0;split
 ·intro f hf;obtain⟨p,_,rfl⟩:=QVG.1 hf;exact z
 split
 ·intro f hf;rw[QWs]at hf;subst hf;exact z
 split
 ·intro f hf;obtain⟨y,hy,rfl⟩:=QVG.1 hf;exact Nx (hv.list y hy) _ _ _
 ·intro f hf;rw[QWs]at hf;subst hf;exact Nx hv _ _ _
theorem VP {M:Nat}(bd:Int→V→List UInt8)(g:PG):∀(sl:List (Int×V)) (rs:List R),(∀s∈sl,s.2.ok M)→(∀f∈rs,Rb f)→∀f∈XK bd g sl rs,Rb f
 | [],_,_,hr,f,hf=>hr f hf
 |s :: sl,rs,hs,hr,f,hf=>by
  rw[XK,QVE,QVE]at hf;rcases hf with(hf|hf)|hf
  ·exact hr f ((QWC _).mem hf)
  ·unfold XY at hf;split at hf
   ·cases hf
   ·exact Qxs (hs s (by simp)) bd _ f hf
  ·exact VP bd g sl _ (fun x hx=>hs x (by simp[hx])) (fun f hf=>hr f ((QWB _).mem hf)) f hf
theorem DS:∀l:List R,20*l.length≤Z1 l
 | []=>QUv _
 |f :: l=>by
  have:=DS l;unfold Z1 at this ⊢;simp only[QUT,QWu,QUC];omega
theorem QaM {l:List R}{f:R}(h:f∈l):f.data.length≤Z1 l:=by
 induction l with
 |nil=>cases h
 |cons x l ih=>
  unfold Z1 at ih ⊢;simp only[QUT,QWu];rcases QVI.1 h with rfl|h
  ·omega
  ·have:=ih h;omega
theorem Ny {l:List R}(hb:∀f∈l,Rb f)(hw:Z1 l≤140737488355328):(∀fd∈l,fd.bits<18446744073709551616∧fd.data.length<9223372036854775807)∧l.length<9223372036854775807∧(Xi l).length≤140737488355328:=by
 have h1:=DS l;have h2:=Ub l;exact⟨fun fd hf=>⟨hb fd hf,by have:=QaM hf;omega⟩,by omega,by omega⟩

end Go.Proofs.YtdhlbgejhcejcaaGreatDoor.Va

namespace Go.Proofs.YtdhlbgejhcejcaaGreatDoor.Va
open Go Am Rc Bt Vp Cp Up

theorem QaN {f:R}(h:valid f=true):0<(KY f).length:=by
 rw[KY,QUQ h,QUZ];have h':=h;unfold valid at h';simp only[QUL,QUt]at h';unfold ZZ at h' ⊢;split
 ·rename_i hb;rw[QUQ hb]at h';exact absurd h'.1 (by decide)
 ·have:=(put_len (f.num*8+f.wire).toNat).1;simp only;omega

open Br So

def Gf (f:R):Prop:=valid f=true∧f.bits<18446744073709551616∧f.data.length<18446744073709551616

theorem Nz {f:R}(hf:Gf f):∃n w:Nat,f.num=(n:Int)∧f.wire=(w:Int)∧w≤6∧n≤65535∧KY f=Vp.put (n*8+w)++body f∧((w=2∧f.data=[]∧body f=fx 8 f.bits)∨(w≤1∧f.data=[]∧body f=Vp.put f.bits)∨(3≤w∧f.bits=0∧body f=Vp.put f.data.length++f.data)):=by
 obtain⟨hv,hb,hd⟩:=hf;obtain⟨num,wire,bits,data⟩:=f;have hv':=hv;unfold valid at hv';simp only[QUL,QUt]at hv' hb hd;obtain⟨h1,h2⟩:=hv';have hr:¬(num<1∨65535<num∨wire<0∨6<wire):=fun h=>by
  unfold ZZ at h1;rw[QUQ h]at h1;cases h1
 have htag:ZZ num wire=(Vp.put (num*8+wire).toNat,0):=by unfold ZZ;rw[QUB hr]
 simp only[not_or,Int.not_lt]at hr;obtain⟨n,rfl⟩:=QV1 (show 0≤num by omega);obtain⟨w,rfl⟩:=QV1 (show 0≤wire by omega);rw[show((n:Int)*8+(w:Int)).toNat=n*8+w by omega]at htag;have hp:KY ⟨n,w,bits,data⟩=Vp.put (n*8+w)++body ⟨n,w,bits,data⟩:=by rw[KY,QUQ hv];simp only[htag]
 refine⟨n,w,rfl,rfl,by omega,by omega,hp,?_⟩;by_cases w2:w=2
 ·subst w2;exact .inl ⟨rfl,by simpa [ZR]using h2,by rw[body];exact QUQ rfl⟩
 ·by_cases w01:w≤1
  ·have hnum:ZR (w:Int)=true:=by
    have:w=0∨w=1:=by omega
    rcases this with h|h<;>rw[h]<;>rfl
   exact .inr (.inl ⟨w01,by simpa [hnum]using h2,by rw[body];simp only[hnum];rw[QUB (by omega)];simp⟩)
  ·have hnum:ZR (w:Int)=false:=by
    have:w=3∨w=4∨w=5∨w=6:=by omega
    rcases this with h|h|h|h<;>rw[h]<;>rfl
   exact .inr (.inr ⟨by omega,by simpa [hnum]using h2,by rw[body];simp only[hnum];rw[QUB (by omega)];simp⟩)

theorem Hh {a b:Nat}(ha:a<18446744073709551616)(hb:b<18446744073709551616){s t:List UInt8}(e:Vp.put a++s=Vp.put b++t):a=b∧s=t:=by
 have h1:=BQ a s ha;have h2:=BQ b t hb;rw[e,h2]at h1;have hab:a=b:=(congrArg (fun x=>x.1) h1).symm;subst hab;exact⟨rfl,List.append_cancel_left e⟩
theorem Rh {a b:Nat}(ha:a<18446744073709551616)(hb:b<18446744073709551616){s t:List UInt8}(e:fx 8 a++s=fx 8 b++t):a=b∧s=t:=by
 have h1:=VJ a s ha;have h2:=VJ b t hb;rw[e,h2]at h1;subst h1;exact⟨rfl,List.append_cancel_left e⟩
theorem QaO {f h:R}(hf:Gf f)(hh:Gf h){s t:List UInt8}(e:KY f++s=KY h++t):f=h∧s=t:=by
 obtain⟨n,w,a1,a2,a3,a4,a5,a6⟩:=Nz hf;obtain⟨n',w',b1,b2,b3,b4,b5,b6⟩:=Nz hh;rw[a5,b5,QUI,QUI]at e;obtain⟨e1,e2⟩:=Hh (by omega) (by omega) e;have hn:n=n':=by omega
 have hw:w=w':=by omega
 subst hn hw;obtain⟨num,wire,bits,data⟩:=f;obtain⟨num',wire',bits',data'⟩:=h;have q1:=hf.2.1;have q2:=hh.2.1;have q3:=hf.2.2;have q4:=hh.2.2;dsimp only at a1 a2 b1 b2 a6 b6 q1 q2 q3 q4;subst a1 a2 b1 b2;rcases a6 with⟨c1,c2,c3⟩|⟨c1,c2,c3⟩|⟨c1,c2,c3⟩
 ·rcases b6 with⟨d1,d2,d3⟩|⟨d1,d2,d3⟩|⟨d1,d2,d3⟩
  ·rw[c3,d3]at e2;obtain⟨x1,x2⟩:=Rh q1 q2 e2;subst c2 d2 x1;exact⟨rfl,x2⟩
  ·omega
  ·omega
 ·rcases b6 with⟨d1,d2,d3⟩|⟨d1,d2,d3⟩|⟨d1,d2,d3⟩
  ·omega
  ·rw[c3,d3]at e2;obtain⟨x1,x2⟩:=Hh q1 q2 e2;subst c2 d2 x1;exact⟨rfl,x2⟩
  ·omega
 ·rcases b6 with⟨d1,d2,d3⟩|⟨d1,d2,d3⟩|⟨d1,d2,d3⟩
  ·omega
  ·omega
  ·rw[c3,d3,QUI,QUI]at e2;obtain⟨x1,x2⟩:=Hh q3 q4 e2;obtain⟨y1,y2⟩:=List.append_inj x2 x1;subst c2 d2 y1;exact⟨rfl,y2⟩
theorem Ri {f:R}(hf:Gf f):KY f≠[]:=by
 have:=QaN hf.1;intro e;rw[e]at this;simp at this
theorem HW:∀ {l r:List R},(∀f∈l,Gf f)→(∀f∈r,Gf f)→Xi l=Xi r→l=r
 | [],[],_,_,_=>rfl
 | [],h :: r,_,hr,e=>by
  unfold Xi at e;rw[QVP,QWD]at e;exact absurd (QWy.1 e.symm).1 (Ri (hr h (by simp)))
 |f :: l,[],hl,_,e=>by
  unfold Xi at e;rw[QVP,QWD]at e;exact absurd (QWy.1 e).1 (Ri (hl f (by simp)))
 |f :: l,h :: r,hl,hr,e=>by
  unfold Xi at e;rw[QVP,QVP]at e;obtain⟨e1,e2⟩:=QaO (hl f (by simp)) (hr h (by simp)) e;rw[e1,HW (fun f hf=>hl f (by simp[hf])) (fun f hf=>hr f (by simp[hf])) e2]

theorem QaP {w:Int}{a b:Nat}(ha:a<18446744073709551616)(hb:b<18446744073709551616){s t:List UInt8}(e:Um w a++s=Um w b++t):a=b∧s=t:=by
 unfold Um at e;split at e
 ·exact Rh ha hb e
 ·exact Hh ha hb e
theorem Rj (w:Int)(a:Nat):Um w a≠[]:=by
 intro e;unfold Um at e;split at e
 ·have:=congrArg List.length e;rw[YD]at this;simp at this
 ·have h1:=(Vp.put_len a).1;rw[e]at h1;simp at h1
theorem VQ {M:Nat}(w:Int):∀ {l r:List V},(∀y∈l,y.ok M)→(∀y∈r,y.ok M)→l.flatMap (Un w)=r.flatMap (Un w)→l.map (fun y=>(Xa y.kd y.bits y.text).bits)=r.map fun y=>(Xa y.kd y.bits y.text).bits
 | [],[],_,_,_=>rfl
 | [],y :: r,_,_,e=>by
  rw[QVP,QWD]at e;exact absurd (QWy.1 e.symm).1 (Rj _ _)
 |x :: l,[],_,_,e=>by
  rw[QVP,QWD]at e;exact absurd (QWy.1 e).1 (Rj _ _)
 |x :: l,y :: r,hl,hr,e=>by
  rw[QVP,QVP]at e;obtain⟨e1,e2⟩:=QaP (KZ (Fu (hl x (by simp))) _) (KZ (Fu (hr y (by simp))) _) e;rw[QUT,QUT,e1,VQ w (fun y hy=>hl y (by simp[hy])) (fun y hy=>hr y (by simp[hy])) e2]

theorem QQe {v w:V}(h1:v.kd=w.kd)(h2:v.bits=w.bits)(h3:v.text=w.text)(h4:v.list=w.list)(h5:v.pairs=w.pairs)(h6:v.slots=w.slots)(h7:v.raws=w.raws):v=w:=by
 cases v;cases w;simp only[V.kd,V.bits,V.text,V.list,V.pairs,V.slots,V.raws]at h1 h2 h3 h4 h5 h6 h7;subst h1 h2 h3 h4 h5 h6 h7;rfl

theorem KO {P:PL}{k tg:Int}{v:V}(h:v.one P k tg=0):v.kd=k∧1≤k∧k≤9∧v.list=[]∧v.pairs=[]∧v.slots=[]∧v.raws=[]∧(if k=7∨k=8 then v.bits=0 else v.text=[]):=by
 obtain⟨h1,h2,h3⟩:=Yv h;have hk:=BT h3;unfold isk at hk;simp only[QUL,QUs]at hk;unfold V.oth oth at h2;simp only[QVf,QWn,bne_eq_false_iff_eq,QWj,QVh]at h2;obtain⟨⟨⟨⟨a1,a2⟩,a3⟩,_⟩,_⟩:=h2;have b1:v.list.length=0:=by rcases a1 with a|a<;>omega
 have b2:v.pairs.length=0:=by rcases a2 with a|a<;>omega
 have b3:v.slots.length+v.raws.length=0:=by rcases a3 with a|a<;>omega
 refine⟨h1,hk.1,hk.2,QWr.1 b1,QWr.1 b2,QWr.1 (by omega),QWr.1 (by omega),?_⟩;unfold Xl at h3;simp only[QUL]at h3;have h4:=h3.1.1.1.2;rw[h1]at h4;unfold Zb at h4;by_cases c:k=7∨k=8
 ·rw[QUQ c];rw[QUQ (by rcases c with c|c<;>simp[c])]at h4
  simpa using h4
 ·rw[QUB c];simp only[not_or]at c;rw[QUB (by simp[c.1,c.2])]at h4
  simpa using h4

theorem QaQ {a b:Int}(e:WO a=WO b):a=b:=by
 rw[←VH a,←VH b,e]
theorem HX {M:Nat}{P:PL}{k tg:Int}{x y:V}(hx:x.one P k tg=0)(hy:y.one P k tg=0)(ox:x.ok M)(oy:y.ok M)(nx:x.nsc=x)(ny:y.nsc=y)(e1:(Xa x.kd x.bits x.text).bits=(Xa y.kd y.bits y.text).bits)(e2:(Xa x.kd x.bits x.text).data=(Xa y.kd y.bits y.text).data):x=y:=by
 obtain⟨a1,a2,a3,a4,a5,a6,a7,a8⟩:=KO hx;obtain⟨b1,b2,b3,b4,b5,b6,b7,b8⟩:=KO hy;have hbx:=Fu ox;have hby:=Fu oy;have nbx:Xm x.kd x.bits=x.bits:=by
  have:=congrArg V.bits nx;cases x;exact this
 have nby:Xm y.kd y.bits=y.bits:=by
  have:=congrArg V.bits ny;cases y;exact this
 rw[a1]at nbx e1 e2;rw[b1]at nby e1 e2;have hbits:x.bits=y.bits∧x.text=y.text:=by
  unfold Xa at e1 e2;by_cases c1:k=1∨k=4∨k=5∨k=9
  ·rw[QUQ c1,QUQ c1]at e1;rw[QUB (by omega)]at a8 b8;exact⟨e1,a8.trans b8.symm⟩
  rw[QUB c1,QUB c1]at e1 e2;by_cases c2:k=2∨k=3
  ·rw[QUQ c2,QUQ c2]at e1;rw[QUB (by omega)]at a8 b8;refine⟨?_,a8.trans b8.symm⟩;have z1:=Wl (IntKind.i64.wrap (x.bits:Int));have z2:=Wl (IntKind.i64.wrap (y.bits:Int));dsimp only at e1;have:=QaQ (a:=IntKind.i64.wrap (x.bits:Int)) (b:=IntKind.i64.wrap (y.bits:Int)) (by omega);rw[QF,QF]at this;omega
  rw[QUB c2,QUB c2]at e1 e2;by_cases c3:k=6
  ·rw[QUQ c3,QUQ c3]at e1;rw[QUB (by omega)]at a8 b8;dsimp only at e1;rw[nbx,nby]at e1;exact⟨e1,a8.trans b8.symm⟩
  rw[QUB c3,QUB c3]at e1 e2;have c4:k=7∨k=8:=by omega
  rw[QUQ c4,QUQ c4]at e2;rw[QUQ c4]at a8 b8;exact⟨a8.trans b8.symm,e2⟩
 exact QQe (a1.trans b1.symm) hbits.1 hbits.2 (a4.trans b4.symm) (a5.trans b5.symm) (a6.trans b6.symm) (a7.trans b7.symm)

end Go.Proofs.YtdhlbgejhcejcaaGreatDoor.Va

namespace Go.Proofs.YtdhlbgejhcejcaaGreatDoor.Va
open Go Am Rc Bt Br

end Go.Proofs.YtdhlbgejhcejcaaGreatDoor.Va

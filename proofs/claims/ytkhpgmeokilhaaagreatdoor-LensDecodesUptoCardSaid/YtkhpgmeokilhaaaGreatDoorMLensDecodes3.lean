/- Parts of the proof, in order. -/
import Derived.Test.YtkhpgmeokilhaaaGreatDoorMLensDecodes2

set_option linter.unusedSimpArgs false
namespace Go.Proofs.YtkhpgmeokilhaaaGreatDoor.Va
open Go Am Rc Bt Br Up

def Zi (f:Nat→Int):Nat→Nat→Int
 |0,_=>0
 |k+1,i=>if f i=0 then Zi f k (i+1)else f i

theorem Tu {f:Nat→Int}{n i:Nat}(h:i<n):Zi f (n-i) i=if f i=0 then Zi f (n-(i+1)) (i+1)else f i:=by
 rw[show n-i=(n-(i+1))+1 by omega];rfl
theorem FN {f:Nat→Int}{n i:Nat}(h:i<n)(e:f i=0):Zi f (n-i) i=Zi f (n-(i+1)) (i+1):=by
 rw[Tu h,QmD e]
theorem UD {f:Nat→Int}{n i:Nat}{v:Int}(h:i<n)(e:f i=v)(hv:v≠0):Zi f (n-i) i=v:=by
 rw[Tu h,QmC (by rw[e];exact hv),e]
theorem GM {f:Nat→Int}{n i:Nat}(h:¬i<n):Zi f (n-i) i=0:=by
 rw[show n-i=0 by omega];rfl
theorem JV {f:Nat→Int}:∀ {k i:Nat},Zi f k i=0→∀j,i≤j→j<i+k→f j=0
 |0,_,_,_,h1,h2=>by omega
 |k+1,i,h,j,h1,h2=>by
  rw[Zi]at h;split at h
  ·rename_i h0;by_cases e:j=i
   ·rw[e];exact h0
   ·exact JV h j (by omega) (by omega)
  ·rename_i h0;exact absurd h h0

def _root_.Go.Proofs.YtkhpgmeokilhaaaGreatDoor.Br.V.oth (v:V):Bool:=Va.oth v.kd v.bits v.text (v.list.map V.av) (v.pairs.map V.pav) (v.slots.map V.sav) (v.raws.map R.av)
def _root_.Go.Proofs.YtkhpgmeokilhaaaGreatDoor.Br.V.one (P:PL)(k tg:Int)(v:V):Int:=Ga P k tg v.kd v.bits v.text (v.list.map V.av) (v.pairs.map V.pav) (v.slots.map V.sav) (v.raws.map R.av)

theorem FO (v:V):v.av=vo v.kd v.bits v.text (v.list.map V.av) (v.pairs.map V.pav) (v.slots.map V.sav) (v.raws.map R.av):=by
 rw[V.av,V.eta];rfl

def Qq (P:PL)(t:Int):PG:=P.progs[t.toNat]?.getD ⟨[],[],0⟩
def Xz (a b:V):Bool:=a.bits==b.bits&&a.text==b.text
def Xq (g:PG)(n:Int):Option PO:=g.ops.find? fun o=>o.num==n

section
variable (m:PG→V→Int)(P:PL)
def Q5 (o:PO)(v:V):Int:=if o.kind=10 then m (Qq P o.target) v else v.one P o.kind o.target
def Ur (o:PO)(ps:List (V×V))(i:Nat):Int:=match ps[i]? with
 |none=>0
 |some x=>if x.1.one P o.key (-1)=0 then(if (ps.take i).any (fun q=>Xz q.1 x.1)=true then 9 else Q5 m P o x.2)else x.1.one P o.key (-1)
def DH (o:PO)(l:List V)(i:Nat):Int:=match l[i]? with
 |none=>0
 |some x=>Q5 m P o x
def XX (o:PO)(v:V):Int :=
 if o.card=5 then(if (v.kd != 12||v.oth)=true then 12 else Zi (Ur m P o v.pairs) v.pairs.length 0)
 else if o.card=4 then(if (v.kd != 11||v.oth)=true then 12 else Zi (DH m P o v.list) v.list.length 0)
 else Q5 m P o v
def WF (g:PG)(o:PO)(y:Int×V):Bool:=o.union != -1&&(((Xq g y.1).getD Dg).union==o.union)
def Z1 (g:PG)(sl:List (Int×V))(i:Nat):Int:=match sl[i]? with
 |none=>0
 |some x=>match Xq g x.1 with
  |none=>8
  |some o=>if (sl.take i).any (fun y=>y.1==x.1)=true then 9 else if (sl.take i).any (WF g o)=true then 15 else XX m P o x.2
def NY (g:PG)(f:R):Bool:=match Xq g f.num with
 |none=>true
 |some o=>o.kind==9&&o.card != 5&&f.wire==0&&decide ((f.bits:Int)≤2147483647) && !W3 P.enums o.target f.bits
def Wi (g:PG)(f:R):Int :=
 if (decide (f.num<1)||decide (f.num > 65535)||decide (f.wire<0)||decide (f.wire > 6))=true then 1
 else if (decide (f.wire≤2) && !(f.data==[])||decide (f.wire > 2) && !((f.bits:Int)==0))=true then 1
 else if (!NY P g f)=true then 1
 else if (f.wire==3&&decide ((f.data.length:Int) > 4096)||decide ((f.data.length:Int) > 65536))=true then 3 else 0
def Wj (g:PG)(l:List R)(i:Nat):Int:=match l[i]? with
 |none=>0
 |some f=>Wi P g f
def Hc (g:PG)(sl:List (Int×V)):Bool:=g.ops.any fun o=>o.card==1 && !sl.any fun y=>y.1==o.num
def Uc (g:PG)(v:V):Int :=
 if Zi (Z1 m P g v.slots) v.slots.length 0=0 then
  (if Hc g v.slots=true then 14 else Zi (Wj P g v.raws) v.raws.length 0)
 else Zi (Z1 m P g v.slots) v.slots.length 0
end

theorem GN {m:PG→V→Int}{P:PL}{o:PO}{ps:List (V×V)}{i:Nat}{x:V×V}(h:ps[i]? = some x) :
  Ur m P o ps i=if x.1.one P o.key (-1)=0 then(if (ps.take i).any (fun q=>Xz q.1 x.1)=true then 9 else Q5 m P o x.2)else x.1.one P o.key (-1):=by
 unfold Ur;rw[h]
theorem GP {m:PG→V→Int}{P:PL}{o:PO}{l:List V}{i:Nat}{x:V}(h:l[i]? = some x):DH m P o l i=Q5 m P o x:=by
 unfold DH;rw[h]
theorem Hd {P:PL}{g:PG}{l:List R}{i:Nat}{x:R}(h:l[i]? = some x):Wj P g l i=Wi P g x:=by
 unfold Wj;rw[h]

def Za (P:PL):Nat→PG→V→Int
 |0,_,v=>if (v.kd != 10||v.oth)=true then 12 else 17
 |n+1,g,v=>if (v.kd != 10||v.oth)=true then 12 else Uc (Za P n) P g v

mutual
def _root_.Go.Proofs.YtkhpgmeokilhaaaGreatDoor.Br.V.cnt:V→Nat
 |.mk _ _ _ l p s r=>1+r.length+Q9 l+Xi p+Xg s
def Q9:List V→Nat
 | []=>0
 |x :: l=>x.cnt+Q9 l
def Xi:List (V×V)→Nat
 | []=>0
 |(a,b) :: l=>a.cnt+b.cnt+Xi l
def Xg:List (Int×V)→Nat
 | []=>0
 |(_,a) :: l=>a.cnt+Xg l
end

theorem Q1:∀v:V,v.cnt=1+v.raws.length+Q9 v.list+Xi v.pairs+Xg v.slots
 |.mk k b t l p s r=>by rw[V.cnt];rfl

theorem Nu {l:List V}{i:Nat}{x:V}(h:l[i]? = some x):Q9 (l.take (i+1))=Q9 (l.take i)+x.cnt:=by
 induction l generalizing i with
 |nil=>simp at h
 |cons y l ih=>
  cases i with
  |zero=>simp at h;subst h;simp[Q9]
  |succ i=>
   simp only[Qm4,Q9];rw[ih (by simpa using h)];omega
theorem Tv {l:List (V×V)}{i:Nat}{x:V×V}(h:l[i]? = some x):Xi (l.take (i+1))=Xi (l.take i)+(x.1.cnt+x.2.cnt):=by
 induction l generalizing i with
 |nil=>simp at h
 |cons y l ih=>
  obtain⟨y1,y2⟩:=y;cases i with
  |zero=>simp at h;subst h;simp[Xi]
  |succ i=>
   simp only[Qm4,Xi];rw[ih (by simpa using h)];omega
theorem Tw {l:List (Int×V)}{i:Nat}{x:Int×V}(h:l[i]? = some x):Xg (l.take (i+1))=Xg (l.take i)+x.2.cnt:=by
 induction l generalizing i with
 |nil=>simp at h
 |cons y l ih=>
  obtain⟨y1,y2⟩:=y;cases i with
  |zero=>simp at h;subst h;simp[Xg]
  |succ i=>
   simp only[Qm4,Xg];rw[ih (by simpa using h)];omega

inductive Thin:V→Prop
 |mk {v:V} (n:v.list.length+2*v.pairs.length+v.slots.length≤1099511627776) (list:∀x∈v.list,Thin x) (keys:∀x∈v.pairs,Thin x.1) (vals:∀x∈v.pairs,Thin x.2) (slots:∀x∈v.slots,Thin x.2):Thin v

theorem GQ {v:V}(h:v.oth=false):(v.kd≠11→v.list=[])∧(v.kd≠12→v.pairs=[])∧(v.kd≠10→v.slots=[]):=by
 unfold V.oth Va.oth at h;simp only[Qno,Qoy,bne_eq_false_iff_eq,Qov,Qnq]at h;obtain⟨⟨⟨⟨h1,h2⟩,h3⟩,_⟩,_⟩:=h;refine⟨fun h=>?_,fun h=>?_,fun h=>?_⟩
 ·rcases h1 with h1|h1
  ·exact absurd h1 h
  ·exact QoD.1 (by omega)
 ·rcases h2 with h2|h2
  ·exact absurd h2 h
  ·exact QoD.1 (by omega)
 ·rcases h3 with h3|h3
  ·exact absurd h3 h
  ·exact QoD.1 (by omega)

theorem Gb {P:PL}{k tg:Int}{v:V}(h:v.one P k tg=0):v.kd=k∧v.oth=false∧XO k v.kd v.bits v.text (v.list.map V.av) (v.pairs.map V.pav) (v.slots.map V.sav) (v.raws.map R.av)=true:=by
 unfold V.one Ga at h;split at h
 ·omega
 ·rename_i h1;split at h
  ·omega
  ·split at h
   ·omega
   ·split at h
    ·omega
    ·rename_i h2;simp only[QoA,Qno,bne_eq_false_iff_eq]at h1;exact⟨h1.1,h1.2,by simpa using h2⟩

theorem Ea {k kd:Int}{b:Nat}{t:List UInt8}{l p s r:List AV}(h:XO k kd b t l p s r=true):isk k=true:=by
 unfold XO at h;simp only[QmT]at h;exact h.1.1.1.1.1.1

theorem QdZ {k:Int}(h:isk k=true):k≠10∧k≠11∧k≠12:=by
 unfold isk at h;simp only[QmT,Qmz]at h;omega

theorem Cb {P:PL}{k tg:Int}{v:V}(h:v.one P k tg=0):Thin v:=by
 obtain⟨h1,h2,h3⟩:=Gb h;obtain⟨i1,i2,i3⟩:=QdZ (Ea h3);obtain⟨o1,o2,o3⟩:=GQ h2;rw[←h1]at i1 i2 i3;refine .mk ?_ ?_ ?_ ?_ ?_
 ·rw[o1 i2,o2 i3,o3 i1];simp
 ·rw[o1 i2];simp
 ·rw[o2 i3];simp
 ·rw[o2 i3];simp
 ·rw[o3 i1];simp

theorem Eb {P:PL}{M:Nat}:∀(n:Nat) (g:PG) (v:V),v.ok M→Za P n g v=0→Thin v:=by
 intro n
 induction n with
 |zero=>
  intro g v _ h;unfold Za at h;split at h<;>omega
 |succ n ih=>
  intro g v hv h;unfold Za at h;split at h
  ·omega
  rename_i h0;simp only[QoA,Qno,bne_eq_false_iff_eq]at h0;obtain⟨o1,o2,o3⟩:=GQ h0.2;have e1:=o1 (by omega);have e2:=o2 (by omega);unfold Uc at h;have hs:Zi (Z1 (Za P n) P g v.slots) v.slots.length 0=0:=by
   split at h
   ·assumption
   ·exact h
  refine .mk ?_ (by rw[e1];simp) (by rw[e2];simp) (by rw[e2];simp) ?_
  ·rw[e1,e2];have:=hv.ns;simp;omega
  ·intro x hx;obtain⟨i,hi⟩:=QmH.1 hx;have hlt:=(Qmu.1 hi).1;have h1:=JV hs i (QmE _) (by omega);unfold Z1 at h1;rw[hi]at h1;dsimp only at h1;split at h1
   ·omega
   rename_i o _;split at h1
   ·omega
   split at h1
   ·omega
   have hx2:=hv.slots x hx;have helem:∀y:V,y.ok M→Q5 (Za P n) P o y=0→Thin y:=by
    intro y hy he;unfold Q5 at he;split at he
    ·exact ih _ _ hy he
    ·exact Cb he
   unfold XX at h1;split at h1
   ·split at h1
    ·omega
    rename_i h2;simp only[QoA,Qno,bne_eq_false_iff_eq]at h2;obtain⟨o1,o2,o3⟩:=GQ h2.2;have e1:=o1 (by omega);have e3:=o3 (by omega);have hp:∀y∈x.2.pairs,Thin y.1∧Thin y.2:=by
     intro y hy;obtain⟨j,hj⟩:=QmH.1 hy;have hlt:=(Qmu.1 hj).1;have h3:=JV h1 j (QmE _) (by omega);unfold Ur at h3;rw[hj]at h3;dsimp only at h3;split at h3
     ·rename_i hk;split at h3
      ·omega
      ·exact⟨Cb hk,helem _ (hx2.vals y hy) h3⟩
     ·rename_i hk;exact absurd h3 hk
    refine .mk ?_ (by rw[e1];simp) (fun y hy=>(hp y hy).1) (fun y hy=>(hp y hy).2) (by rw[e3];simp);rw[e1,e3];have:=hx2.np;simp;omega
   ·split at h1
    ·split at h1
     ·omega
     rename_i h2;simp only[QoA,Qno,bne_eq_false_iff_eq]at h2;obtain⟨o1,o2,o3⟩:=GQ h2.2;have e2:=o2 (by omega);have e3:=o3 (by omega);refine .mk ?_ ?_ (by rw[e2];simp) (by rw[e2];simp) (by rw[e3];simp)
     ·rw[e2,e3];have:=hx2.nl;simp;omega
     ·intro y hy;obtain⟨j,hj⟩:=QmH.1 hy;have hlt:=(Qmu.1 hj).1;have h3:=JV h1 j (QmE _) (by omega);unfold DH at h3;rw[hj]at h3;exact helem _ (hx2.list y hy) h3
    ·exact helem _ hx2 h1

end Go.Proofs.YtkhpgmeokilhaaaGreatDoor.Va

namespace Go.Proofs.YtkhpgmeokilhaaaGreatDoor.Va
open Go Am Rc Bt Br

def kv (k:Int)(b:Nat)(t:List UInt8):AV:=.agg [.int .i64 k,.int .u64 (b:Nat),.str t,.list [],.list [],.list [],.list []]
def Ze (k:Int):Prop:=(1≤k∧k≤5)∨k=7

theorem Ze.isk {k:Int}(h:Ze k):isk k=true:=by
 rcases h with h|rfl
 ·simp[Va.isk];omega
 ·rfl

theorem FP:∀s:List UInt8,Op.bytesLess s s=false
 | []=>rfl
 |a :: l=>by simp[Op.bytesLess,FP l]

theorem Qd0 (a:Int):Qi Tryz.prog 112 [.int .i64 a] (.bool false):=by
 refine wF Tryz.func112 ?_;simp only[eK,Tryz.f112,seval];simp only[bne_self_eq_false,Qa,seval]

theorem Qd1 (a:Int):Qi Tryz.prog 334 [.int .u64 a] (.bool false):=by
 refine wF Tryz.func334 ?_;simp only[eK,Tryz.f334,seval];simp only[bne_self_eq_false,Qa,seval]

theorem Qd2 (a:List UInt8):Qi Tryz.prog 333 [.str a] (.bool false):=by
 have e:QP .neq a a=some (.bool false):=by simp[QP]
 refine wF Tryz.func333 ?_;simp only[eK,Tryz.f333,seval];simp only[e,Qa,seval]

def cN (a b:Int):Int:=if a<b then -1 else if b<a then 1 else 0
theorem MZ {a b:Int}:cN a b=0↔a=b:=by
 unfold cN;split
 ·omega
 ·split<;>omega

theorem IF (a b:Int):Qi Tryz.prog 60 [.int .i64 a,.int .i64 b] (.int .i64 (cN a b)):=by
 refine wF Tryz.func60 ?_;simp only[eK,Tryz.f60,seval];simp only[Qa,seval];refine aC (Qd0 a) ?_;simp only[Qa,seval];refine aC (Qd0 b) ?_;simp only[Qa,seval];by_cases h1:a<b
 ·have d1:decide (a<b)=true:=by simpa using h1
  simp only[d1,cN,QmD h1,Qa,seval]
 ·have d1:decide (a<b)=false:=by simpa using h1
  by_cases h2:b<a
  ·have d2:decide (a > b)=true:=by simpa using h2
   simp only[d1,d2,cN,QmC h1,QmD h2,Qa,seval]
  ·have d2:decide (a > b)=false:=by simpa using h2
   simp only[d1,d2,cN,QmC h1,QmC h2,Qa,seval]

theorem QjL (a b:Int):Qi Tryz.prog 313 [.int .u64 a,.int .u64 b] (.int .i64 (cN a b)):=by
 refine wF Tryz.func313 ?_;simp only[eK,Tryz.f313,seval];simp only[Qa,seval];refine aC (Qd1 a) ?_;simp only[Qa,seval];refine aC (Qd1 b) ?_;simp only[Qa,seval];by_cases h1:a<b
 ·have d1:decide (a<b)=true:=by simpa using h1
  simp only[d1,cN,QmD h1,Qa,seval]
 ·have d1:decide (a<b)=false:=by simpa using h1
  by_cases h2:b<a
  ·have d2:decide (a > b)=true:=by simpa using h2
   simp only[d1,d2,cN,QmC h1,QmD h2,Qa,seval]
  ·have d2:decide (a > b)=false:=by simpa using h2
   simp only[d1,d2,cN,QmC h1,QmC h2,Qa,seval]

def cS (a b:List UInt8):Int:=if Op.bytesLess a b=true then -1 else if a==b then 0 else 1
theorem Qa7 {a b:List UInt8}:cS a b=0↔a=b:=by
 unfold cS
 constructor
 ·intro h;split at h
  ·omega
  ·split at h
   ·rename_i h2;simpa using h2
   ·omega
 ·rintro rfl;simp[FP]

theorem QjM (a b:List UInt8):Qi Tryz.prog 312 [.str a,.str b] (.int .i64 (cS a b)):=by
 refine wF Tryz.func312 ?_;simp only[eK,Tryz.f312,seval];simp only[Qa,seval];refine aC (Qd2 a) ?_;simp only[Qa,seval];refine aC (Qd2 b) ?_;simp only[QP,cS,Qa,seval];cases h1:Op.bytesLess a b
 ·cases h2:(a==b)<;>simp only[QP,h1,h2,Qoh,Qod,QnE,QmO,Qa,seval]
 ·simp only[Qa,seval]

def Dj (k:Int)(a:Nat)(s:List UInt8)(b:Nat)(t:List UInt8):Int :=
 if Zh k=true then cS s t else if (k==2||k==3)=true then cN (IntKind.i64.wrap (a:Int)) (IntKind.i64.wrap (b:Int))else cN (a:Int) (b:Int)

theorem QjN (k:Int)(hk:Ze k)(a b:Nat)(s t:List UInt8):Qi Tryz.prog 265 [kv k a s,kv k b t] (.int .i64 (Dj k a s b t)):=by
 have hi:=hk.isk;have k6:(k==6)=false:=by
  rcases hk with h|rfl
  ·simp;omega
  ·rfl
 refine wF Tryz.func265 ?_;simp only[eK,Tryz.f265,seval];simp only[kv,Dj,bne_self_eq_false,eE,seval];refine aC (BH k) ?_;simp only[hi,eE,seval];refine aC (QdD k) ?_;cases h1:Zh k
 ·simp only[QmO,eE,seval];cases h2:(k==2)
  ·cases h3:(k==3)
   ·simp only[h3,k6,Qow,QmO,eE,seval];refine aC (QjL _ _) ?_;simp only[Qa,seval]
   ·simp only[h3,Qoh,eE,seval];refine aC (IF _ _) ?_;simp only[Qa,seval]
  ·simp only[Qog,eE,seval];refine aC (IF _ _) ?_;simp only[Qa,seval]
 ·simp only[eE,seval];refine aC (QjM s t) ?_;simp only[Qa,seval]

theorem Qd3 (k:Int)(hk:Ze k)(b:Nat)(t:List UInt8):Qi Tryz.prog 264 [kv k b t] (.iface 266 (kv k b t)):=by
 have hi:=hk.isk;refine wF Tryz.func264 ?_;simp only[eK,Tryz.f264,seval];simp only[kv,eE,seval];refine aC (BH k) ?_;simp only[hi,eE,seval]

theorem Qd4 (k:Int)(hk:Ze k)(a b:Nat)(s t:List UInt8):Qi Tryz.prog 200 [kv k a s,kv k b t] (.int .i64 (Dj k a s b t)):=by
 have h1:=Qd3 k hk a s;have h2:=Qd3 k hk b t;have h3:=QjN k hk a b s t;simp only[kv]at h1 h2 h3;refine wF Tryz.func200 ?_;simp only[eK,Tryz.f200,seval];simp only[kv,bne_self_eq_false,eE,seval];refine aC h2 ?_;simp only[eE,seval];refine aC h1 ?_;simp only[eE,seval];refine aC h3 ?_;simp only[Qa,seval]

theorem Ec (k:Int)(hk:Ze k)(a b:Nat)(s t:List UInt8):Qi Tryz.prog 201 [kv k a s,kv k b t] (.bool (Dj k a s b t==0)):=by
 have h1:=Qd4 k hk a b s t;simp only[kv]at h1;refine wF Tryz.func201 ?_;simp only[eK,Tryz.f201,seval];simp only[kv,eE,seval];refine aC h1 ?_;simp only[Qa,seval]

theorem Rv {v:V}{P:PL}{k tg:Int}(h:v.one P k tg=0):v.av=kv k v.bits v.text∧(Zh k=true→(v.bits:Int)=0)∧(Zh k=false→v.text=[]):=by
 obtain⟨h1,_,h3⟩:=Gb h;rw[FO,h1];rw[h1]at h3;unfold XO Ub at h3;simp only[QmT,QmA]at h3;obtain⟨⟨⟨⟨⟨_,⟨⟨⟨e1,e2⟩,e3⟩,e4⟩⟩,h4⟩,_⟩,_⟩,_⟩:=h3;have f1:=QoD.1 (Int.ofNat_eq_zero.1 e1);have f2:=QoD.1 (Int.ofNat_eq_zero.1 e2);have f3:=QoD.1 (Int.ofNat_eq_zero.1 e3);have f4:=QoD.1 (Int.ofNat_eq_zero.1 e4);rw[f1,f2,f3,f4];refine⟨rfl,fun ht=>?_,fun ht=>?_⟩
 ·rw[QmD ht]at h4;simpa using h4
 ·rw[QmC (by simp[ht])]at h4;simpa using h4

def _root_.Go.Proofs.YtkhpgmeokilhaaaGreatDoor.Br.V.kx (_P:PL)(k:Int)(v:V):Prop:=v.kd=k∧v.av=kv k v.bits v.text∧(Zh k=true→(v.bits:Int)=0)∧(Zh k=false→v.text=[])
theorem Rw {v:V}{P:PL}{k tg:Int}(h:v.one P k tg=0):v.kx P k:=⟨(Gb h).1,Rv h⟩
theorem WS {v:V}{P:PL}{k:Int}(h:v.kx P k):v.av=kv k v.bits v.text∧(Zh k=true→(v.bits:Int)=0)∧(Zh k=false→v.text=[]):=h.2

theorem BQ {x y:V}{P:PL}{k:Int}(_hk:Ze k)(hx:x.kx P k)(hy:y.kx P k)(bx:x.bits<18446744073709551616)(bY:y.bits<18446744073709551616):(Dj k x.bits x.text y.bits y.text==0)=Xz x y:=by
 obtain⟨_,x1,x2⟩:=WS hx;obtain⟨_,y1,y2⟩:=WS hy;rw[Qnp,QmA];unfold Xz Dj;simp only[QmT,QmA];split
 ·rename_i ht;have:=x1 ht;have:=y1 ht;rw[Qa7];exact⟨fun h=>⟨by omega,h⟩,fun h=>h.2⟩
 ·rename_i ht;have ht:Zh k=false:=by simpa using ht
  rw[x2 ht,y2 ht];split
  ·rw[MZ,QC,QC];exact⟨fun h=>⟨by omega,rfl⟩,fun h=>by rw[h.1]⟩
  ·rw[MZ];exact⟨fun h=>⟨by omega,rfl⟩,fun h=>by rw[h.1]⟩

open Up

def vc (x:V):List AV:=[.int .i64 x.kd,.int .u64 (x.bits:Nat),.str x.text,.list (x.list.map V.av),.list (x.pairs.map V.pav),.list (x.slots.map V.sav),.list (x.raws.map R.av)]
theorem Qe (x:V):x.av=.agg [.int .i64 x.kd,.int .u64 (x.bits:Nat),.str x.text,.list (x.list.map V.av),.list (x.pairs.map V.pav),.list (x.slots.map V.sav),.list (x.raws.map R.av)]:=by
 rw[V.av,V.eta]
theorem Z2 (p:V×V):V.pav p=.agg [.int .i64 p.1.kd,.int .u64 (p.1.bits:Nat),.str p.1.text,.list (p.1.list.map V.av),.list (p.1.pairs.map V.pav),.list (p.1.slots.map V.sav),.list (p.1.raws.map R.av),.int .i64 p.2.kd,.int .u64 (p.2.bits:Nat),.str p.2.text,.list (p.2.list.map V.av),.list (p.2.pairs.map V.pav),.list (p.2.slots.map V.sav),.list (p.2.raws.map R.av)]:=by
 rw[V.pav,V.eta,V.eta];rfl
theorem ZU (s:Int×V):V.sav s=.agg [.int .i64 s.1,.int .i64 s.2.kd,.int .u64 (s.2.bits:Nat),.str s.2.text,.list (s.2.list.map V.av),.list (s.2.pairs.map V.pav),.list (s.2.slots.map V.sav),.list (s.2.raws.map R.av)]:=by
 rw[V.sav,V.eta]
theorem He {l:List V}{i:Nat}{x:V}(h:l[i]? = some x):(l.map V.av)[i]? = some (.agg [.int .i64 x.kd,.int .u64 (x.bits:Nat),.str x.text,.list (x.list.map V.av),.list (x.pairs.map V.pav),.list (x.slots.map V.sav),.list (x.raws.map R.av)]):=by
 rw[QnT,h,QmV,Qe]
theorem WG {l:List (V×V)}{i:Nat}{p:V×V}(h:l[i]? = some p):(l.map V.pav)[i]? = some (.agg [.int .i64 p.1.kd,.int .u64 (p.1.bits:Nat),.str p.1.text,.list (p.1.list.map V.av),.list (p.1.pairs.map V.pav),.list (p.1.slots.map V.sav),.list (p.1.raws.map R.av),.int .i64 p.2.kd,.int .u64 (p.2.bits:Nat),.str p.2.text,.list (p.2.list.map V.av),.list (p.2.pairs.map V.pav),.list (p.2.slots.map V.sav),.list (p.2.raws.map R.av)]):=by
 rw[QnT,h,QmV,Z2]
theorem WH {l:List (Int×V)}{i:Nat}{s:Int×V}(h:l[i]? = some s):(l.map V.sav)[i]? = some (.agg [.int .i64 s.1,.int .i64 s.2.kd,.int .u64 (s.2.bits:Nat),.str s.2.text,.list (s.2.list.map V.av),.list (s.2.pairs.map V.pav),.list (s.2.slots.map V.sav),.list (s.2.raws.map R.av)]):=by
 rw[QnT,h,QmV,ZU]

structure UO (P:PL)(o:PO):Prop where
 tgt:o.kind=10→0≤o.target∧o.target<(P.progs.length:Int)
 enm:o.kind=9→0≤o.target∧o.target<(P.enums.length:Int)
 key:o.card=5→Ze o.key
def Kt (P:PL):Prop:=∀g∈P.progs,∀o∈g.ops,UO P o

theorem Ku {P:PL}(h:ck P=0):Kt P:=by
 unfold ck at h;split at h
 ·omega
 split at h
 ·omega
 split at h
 ·omega
 split at h
 ·omega
 split at h
 ·omega
 split at h
 ·omega
 rename_i ha;have ha:args P=true:=by simpa using ha
 intro g hg o ho;unfold args at ha;simp only[QmT,QmI]at ha;have h1:=ha.1 g hg;unfold Wg at h1;simp only[QmT,QmI]at h1;have h2:=(h1.2 o ho).1;unfold Kn at h2;simp only[QmT,Qmz]at h2;obtain⟨⟨_,hk⟩,hm⟩:=h2;refine⟨fun h=>?_,fun h=>?_,fun h=>?_⟩
 ·unfold FK at hm;rw[QmD h]at hm;simp only[QmT,Qmz]at hm;exact hm.1
 ·unfold FK at hm;rw[QmC (by omega),QmD h]at hm;simp only[QmT,Qmz]at hm;exact hm
 ·unfold Va.key at hk;rw[QmD h]at hk;simp only[QmT,Qmz,QmY]at hk;unfold Ze;omega

section
variable {M:Nat}{P:PL}(hP:P.ok M)(hM:M≤140737488351232){m:PG→V→Int}{lv lv1:Int}(hw:IntKind.i64.wrap (lv+1)=lv1)

include hP in
theorem IG (k tg:Int){v:V}(hv:v.ok M):Qi Tryz.prog 290 [P.av,.int .i64 k,.int .i64 tg,v.av] (.int .i64 (v.one P k tg)):=by
 rw[FO];exact QjK P hP k tg _ _ _ _ _ _ _ (by have:=hv.nl;simp;omega) (by have:=hv.np;simp;omega) (by have:=hv.ns;simp;omega) (by have:=hv.nr;simp;omega)

include hP hw in
theorem QjO (hm:∀g∈P.progs,∀v:V,v.ok M→Qi Tryz.prog 38 [P.av,Qm g,v.av,.int .i64 lv1] (.int .i64 (m g v)))(o:PO)(ho:UO P o)(v:V)(hv:v.ok M) :
  Qi Tryz.prog 227 [P.av,Qz o,v.av,.int .i64 lv] (.int .i64 (Q5 m P o v)):=by
 have e0:P.av=.agg [.list (P.progs.map Qm),.list (P.enums.map QE)]:=rfl;have h1:=IG hP o.kind o.target hv;rw[e0,Qe]at h1;rw[Qe];refine wF Tryz.func227 ?_;simp only[eK,Tryz.f227,seval];simp only[e0,Qz,PO.cells,Q5,eE,seval];by_cases hk:o.kind=10
 ·have b:(o.kind==10)=true:=by simp[hk]
  obtain⟨t0,t1⟩:=ho.tgt hk;obtain⟨i,hi⟩:=Qof t0;have hlt:i<P.progs.length:=by omega
  obtain⟨g,hg⟩:∃g,P.progs[i]? = some g:=⟨P.progs[i],Qmv hlt⟩;have hga:(P.progs.map Qm)[i]? = some (.agg g.cells):=by simp[hg,Qm]
  have hq:Qq P o.target=g:=by unfold Qq;rw[hi,QnY,hg];rfl
  have h2:=hm g (QmJ hg) v hv;rw[e0,Qe]at h2;simp only[Qm,PG.cells]at h2;simp only[PG.cells]at hga;rw[QmD hk,hq];simp only[b,hi,Qv,QnY,Qf,hga,hw,eE,seval];refine aC h2 ?_;simp only[Qa,seval]
 ·have b:(o.kind==10)=false:=by simp[hk]
  rw[QmC hk];simp only[b,eE,seval];refine aC h1 ?_;simp only[Qa,seval]

end

section pairs
variable (L:List (V×V))(hl:L.length≤maxLen)(p:V×V→Bool)(c:Nat)(cap:AV)(m:Qh)

include hl in
theorem QjP (hc:∀o∈L,Qd Tryz.prog c [V.pav o,cap.sh] (Qb :: m) fun y m1=>y=.bool (p o)∧m1=Qb :: m) :
  Qd Tryz.prog 255 [.list (L.map V.pav),.fn (.func c) [] [cap]] m fun y m1=>y=.int .i64 (XW p L 0)∧m1=m:=by
 refine wG Tryz.func255 ?_;simp only[eK,Tryz.f255,seval];exact HU hl (av:=V.pav) (n:=14) (s:=some 14) (cs:=[cap]) (fun x=>by rw[Z2];exact⟨rfl,rfl⟩) hc

include hl in
theorem QjQ (hc:∀o∈L,Qd Tryz.prog c [V.pav o,cap.sh.sh] (Qb :: Qb :: m) fun y m1=>y=.bool (p o)∧m1=Qb :: Qb :: m) :
  Qd Tryz.prog 190 [.list (L.map V.pav),.fn (.func c) [] [cap]] m fun y m1=>y=.bool (L.any p)∧m1=m:=by
 refine wG Tryz.func190 ?_;simp only[eK,Tryz.f190,seval];simp only[Qa,seval];refine Qg (QjP L hl p c cap.sh _ hc) (by simp only[Qm3,Qnx,Qa,seval]) ?_;simp only[BP,Qa,seval]

end pairs

section slots
variable (L:List (Int×V))(hl:L.length≤maxLen)(p:Int×V→Bool)(c:Nat)(cap:AV)(m:Qh)

include hl in
theorem QjR (hc:∀o∈L,Qd Tryz.prog c [V.sav o,cap.sh] (Qb :: m) fun y m1=>y=.bool (p o)∧m1=Qb :: m) :
  Qd Tryz.prog 167 [.list (L.map V.sav),.fn (.func c) [] [cap]] m fun y m1=>y=.int .i64 (XW p L 0)∧m1=m:=by
 refine wG Tryz.func167 ?_;simp only[eK,Tryz.f167,seval];exact HU hl (av:=V.sav) (n:=8) (s:=some 8) (cs:=[cap]) (fun x=>by rw[ZU];exact⟨rfl,rfl⟩) hc

include hl in
theorem v76 (hc:∀o∈L,Qd Tryz.prog c [V.sav o,cap.sh.sh] (Qb :: Qb :: m) fun y m1=>y=.bool (p o)∧m1=Qb :: Qb :: m) :
  Qd Tryz.prog 76 [.list (L.map V.sav),.fn (.func c) [] [cap]] m fun y m1=>y=.bool (L.any p)∧m1=m:=by
 refine wG Tryz.func76 ?_;simp only[eK,Tryz.f76,seval];simp only[Qa,seval];refine Qg (QjR L hl p c cap.sh _ hc) (by simp only[Qm3,Qnx,Qa,seval]) ?_;simp only[BP,Qa,seval]

end slots

theorem Kv (a b:Int):IntKind.i64.wrap (IntKind.i64.wrap a+IntKind.i64.wrap b)=IntKind.i64.wrap (a+b):=by
 simp only[QC];omega
theorem M0 (a b:Int):IntKind.i64.wrap (IntKind.i64.wrap a+b)=IntKind.i64.wrap (a+b):=by
 simp only[QC];omega

section
variable {M:Nat}

def C1I (v:V)(k:Nat)(st:St):Prop :=
 ∃f fr i,st=⟨f,[fr],[]⟩∧k=v.list.length-i∧i≤v.list.length∧f 1=.ptr 0 1 0∧f 3=.int .i64 (IntKind.i64.wrap ((1+v.raws.length+Q9 (v.list.take i):Nat):Int))∧f 4=.int .i64 (i:Nat)∧fr 1=.cells (vc v)
def C2I (v:V)(k:Nat)(st:St):Prop :=
 ∃f fr i,st=⟨f,[fr],[]⟩∧k=v.pairs.length-i∧i≤v.pairs.length∧f 1=.ptr 0 1 0∧f 3=.int .i64 (IntKind.i64.wrap ((1+v.raws.length+Q9 v.list+Xi (v.pairs.take i):Nat):Int))∧f 5=.int .i64 (i:Nat)∧fr 1=.cells (vc v)
def C3I (v:V)(k:Nat)(st:St):Prop :=
 ∃f fr i,st=⟨f,[fr],[]⟩∧k=v.slots.length-i∧i≤v.slots.length∧f 1=.ptr 0 1 0∧f 3=.int .i64 (IntKind.i64.wrap ((1+v.raws.length+Q9 v.list+Xi v.pairs+Xg (v.slots.take i):Nat):Int))∧f 6=.int .i64 (i:Nat)∧fr 1=.cells (vc v)

theorem v14 (v:V)(hv:v.ok M):Qi Tryz.prog 14 [v.av] (.int .i64 (IntKind.i64.wrap (v.cnt:Int))):=by
 revert hv
 refine V.ind (P:=fun v=>v.ok M→Qi Tryz.prog 14 [v.av] (.int .i64 (IntKind.i64.wrap (v.cnt:Int)))) ?_ v;clear v;intro v hl hp hs hv;have n1:=hv.nl;have n2:=hv.np;have n3:=hv.ns;rw[Qe];refine wF Tryz.func14 ?_;simp only[eK,Tryz.f14,seval];simp only[Qnq,eE,seval];refine Qk (C1I v) _ ⟨_,_,0,rfl,rfl,QmE _,(by rfl),(by simp only[QnF,Q9,Qm2,QoE,Int.natCast_one,Qa,seval]),(by rfl),(by rfl)⟩ ?_;rintro _ st ⟨f,fr,i,rfl,rfl,hil,h1,h3,h4,m1⟩;have m1':=m1;simp only[vc]at m1;simp only[Qnq,h1,h4,m1,eE,seval];by_cases hlt:i<v.list.length
 ·obtain⟨x,hi⟩:∃x,v.list[i]? = some x:=⟨v.list[i],Qmv hlt⟩;have hg:=He hi;have e1:=Qw i _ hlt (by simp only[maxLen];omega);have c1:=hl x (QmJ hi) (hv.list x (QmJ hi));rw[Qe]at c1;simp only[QD hlt,Qv,QnY,Qf,hg,h1,h3,h4,m1,eE,seval];refine aC c1 ?_;simp only[h4,e1,Kv,Qa,seval];exact⟨v.list.length-(i+1),by omega,_,_,i+1,rfl,rfl,by omega,(by exact h1),(by rw[Nu hi];simp only[h3,←QoE,Qmr,Qa,seval]),(by rfl),(by exact m1')⟩
 have e:i=v.list.length:=by omega
 subst e;rw[Qn9]at h3;simp only[QI hlt,Qa,seval];refine Qk (C2I v) _ ⟨_,_,0,rfl,rfl,QmE _,(by exact h1),(by simp only[QnF,Xi,Qm2,h3,Qa,seval]),(by rfl),(by exact m1')⟩ ?_;clear h1 h3 h4 m1 m1' hlt hil;rintro _ st ⟨f,fr,i,rfl,rfl,hil,h1,h3,h5,m1⟩;have m1':=m1;simp only[vc]at m1;simp only[Qnq,h1,h5,m1,eE,seval];by_cases hlt:i<v.pairs.length
 ·obtain⟨x,hi⟩:∃x,v.pairs[i]? = some x:=⟨v.pairs[i],Qmv hlt⟩;have hg:=WG hi;have e1:=Qw i _ hlt (by simp only[maxLen];omega);have hm:=QmJ hi;have c1:=(hp x hm).1 (hv.keys x hm);have c2:=(hp x hm).2 (hv.vals x hm);rw[Qe]at c1 c2;simp only[QD hlt,Qv,QnY,Qf,hg,Qm4,QnF,Qnd,h1,h3,h5,m1,eE,seval];refine aC c1 ?_;simp only[Qv,QnY,Qf,hg,Qm4,Qm7,Qnd,h1,h5,m1,eE,seval];refine aC c2 ?_;simp only[h5,e1,Kv,Qa,seval];exact⟨v.pairs.length-(i+1),by omega,_,_,i+1,rfl,rfl,by omega,(by exact h1),(by rw[Tv hi];simp only[h3,←QoE,Qmr,Qa,seval]),(by rfl),(by exact m1')⟩
 have e:i=v.pairs.length:=by omega
 subst e;rw[Qn9]at h3;simp only[QI hlt,Qa,seval];refine Qk (C3I v) _ ⟨_,_,0,rfl,rfl,QmE _,(by exact h1),(by simp only[QnF,Xg,Qm2,h3,Qa,seval]),(by rfl),(by exact m1')⟩ ?_;clear h1 h3 h5 m1 m1' hlt hil;rintro _ st ⟨f,fr,i,rfl,rfl,hil,h1,h3,h6,m1⟩;have m1':=m1;simp only[vc]at m1;simp only[Qnq,h1,h6,m1,eE,seval];by_cases hlt:i<v.slots.length
 ·obtain⟨x,hi⟩:∃x,v.slots[i]? = some x:=⟨v.slots[i],Qmv hlt⟩;have hg:=WH hi;have e1:=Qw i _ hlt (by simp only[maxLen];omega);have hm:=QmJ hi;have c1:=hs x hm (hv.slots x hm);rw[Qe]at c1;simp only[QD hlt,Qv,QnY,Qf,hg,Qm4,Qm7,Qnd,h1,h3,h6,m1,eE,seval];refine aC c1 ?_;simp only[h6,e1,Kv,Qa,seval];exact⟨v.slots.length-(i+1),by omega,_,_,i+1,rfl,rfl,by omega,(by exact h1),(by rw[Tw hi];simp only[h3,←QoE,Qmr,Qa,seval]),(by rfl),(by exact m1')⟩
 have e:i=v.slots.length:=by omega
 subst e;rw[Qn9]at h3;simp only[QI hlt,h3,Q1,Qa,seval]

end

def Kh (v:V):List V:=v.list++v.pairs.flatMap (fun p=>[p.1,p.2])++v.slots.map (·.2)

theorem DI (a b:List V):Q9 (a++b)=Q9 a+Q9 b:=by
 induction a with
 |nil=>simp[Q9]
 |cons x a ih=>simp only[QmR,Q9,ih];omega
theorem Qa8 (v:V):v.cnt=1+v.raws.length+Q9 (Kh v):=by
 have h1:∀l:List (V×V),Q9 (l.flatMap fun p=>[p.1,p.2])=Xi l:=by
  intro l
  induction l with
  |nil=>rfl
  |cons x l ih=>
   obtain⟨a,b⟩:=x;simp only[Qn0,DI,ih,Xi,Q9,Qm2]
 have h2:∀l:List (Int×V),Q9 (l.map (·.2))=Xg l:=by
  intro l
  induction l with
  |nil=>rfl
  |cons x l ih=>
   obtain⟨a,b⟩:=x;simp only[Qm3,Q9,ih,Xg]
 rw[Q1,Kh,DI,DI,h1,h2];omega

theorem Tx {xs:List AV}(h:xs.all (fun e=>e.cells.length==7)=true)(hf:QK xs=[]):xs=[]:=by
 cases xs with
 |nil=>rfl
 |cons x xs=>
  have hl:x.cells.length=7:=by simpa using QmI.1 h x (by simp)
  have:x.cells=[]:=(List.append_eq_nil_iff.1 hf).1;rw[this]at hl;exact absurd hl.symm (by decide)

theorem QjS (xs:List AV)(fr:Nat→Ob)(m:Qh)(h:xs.all (fun e=>e.cells.length==7)=true)(hn:xs.length≤1099511627776)(hr:Qn (fr 1000)=true) :
  Qd Tryz.prog 169 [.list xs] (fr :: m) (fun x m1=>x=.vec 0 1000 (Xr (fr 1000)) 0 xs.length false∧m1=QG fr 1000 (.vec (Xr (fr 1000)) 7 xs) :: m):=by
 have hng:Qy (fr :: m) 0 1000=Xr (fr 1000):=Jo;refine AK.go (by simp) ?_;simp only[Rg,VG,VH,Qa,seval];refine Jw (ys:=xs) (by simp only[Qa,seval]) ?_ ?_
 ·simp only[VJ,Qa,seval];refine Jp rfl ?_;simp only[Qa,seval];refine QN (site:=5) (g:=1) (xs:=[]) (ys:=xs) rfl rfl rfl rfl rfl h (by simp[maxLen];omega) (by simp;omega) ?_;simp only[Qa,seval];refine X4 (l:=0) (site:=5) (g:=2) (o:=0) (n:=xs.length) (q:=false) (sz:=7) (xs:=xs) (by simp only[QmU,Qa,seval]) (by simp only[Qa,seval]) (by simp) (by decide) hr ?_;simp only[hng,BC,eE,seval]
  try simp[AV.still,AV.un,Zr,XE]
 ·intro he;have hx:xs=[]:=by
   rcases he with he|he
   ·exact he
   ·exact Tx h he
  subst hx;simp only[VI,Qa,seval];refine Zo (by simp only[Qa,seval]) rfl ?_;simp only[Qa,seval];refine X4 (l:=0) (site:=2) (g:=1) (o:=0) (n:=0) (q:=false) (sz:=7) (xs:=[]) (by simp only[Qa,seval]) (by simp only[Qa,seval]) (by simp) (by decide) hr ?_;simp only[hng,BC,eE,seval]
  try simp[AV.still,AV.un,Zr,XE]

theorem UE {M:Nat}{v:V}(h:v.ok M):v.bits<18446744073709551616:=by
 have:=VA h.bits;omega

section
variable {M:Nat}{P:PL}(hP:P.ok M)(hM:M≤140737488351232){m:PG→V→Int}{lv:Int}(o:PO)(ho:UO P o)(h5:o.card=5)(ps:List (V×V))(hn:ps.length≤maxLen)(hk:∀x∈ps,x.1.ok M)(hv:∀x∈ps,x.2.ok M)

theorem QjT {k:Int}(kk:Ze k)(q p:V×V)(hq:q.1.one P k (-1)=0)(hp:p.1.one P k (-1)=0)(bq:q.1.ok M)(bp:p.1.ok M)(frO:Nat→Ob)(hf:∀c,V.pav p=.agg c→frO 10=.cells c) :
  Qd Tryz.prog 291 [V.pav q,.ptr 2 10 0] [Qb,Qb,frO] fun y m1=>y=.bool (Xz q.1 p.1)∧m1=[Qb,Qb,frO]:=by
 have h:=Ec k kk q.1.bits p.1.bits q.1.text p.1.text;have hf:=hf _ (Z2 p);rw[←(Rv hq).1,←(Rv hp).1,BQ kk (Rw hq) (Rw hp) (UE bq) (UE bp),Qe,Qe]at h;rw[Z2];refine wG Tryz.func291 ?_;simp only[eK,Tryz.f291,seval];simp only[hf,eE,seval];refine aC h ?_;simp only[Qa,seval]

def EnI (m:PG→V→Int)(P:PL)(lv:Int)(o:PO)(ps:List (V×V))(k:Nat)(st:St):Prop :=
 ∃f fr i,st=⟨f,[fr],[]⟩∧k=ps.length-i∧Zi (Ur m P o ps) ps.length 0=Zi (Ur m P o ps) (ps.length-i) i∧(∀j y,j<i→ps[j]? = some y→y.1.one P o.key (-1)=0)∧f 2=.list (ps.map V.pav)∧f 3=.int .i64 lv∧f 4=.ptr 0 4 0∧f 5=.ptr 0 5 0∧f 13=.list (ps.map V.pav)∧f 14=.int .i64 (ps.length:Nat)∧f 15=.int .i64 (i:Nat)∧fr 4=.cells [.list (P.progs.map Qm),.list (P.enums.map QE)]∧fr 5=.cells o.cells∧∀s∈[10],(fr s).isRow=false

include hP ho h5 hn hk hv in
theorem QjU (hel:∀v:V,v.ok M→Qi Tryz.prog 227 [P.av,Qz o,v.av,.int .i64 lv] (.int .i64 (Q5 m P o v))) :
  Qi Tryz.prog 228 [P.av,Qz o,.list (ps.map V.pav),.int .i64 lv] (.int .i64 (Zi (Ur m P o ps) ps.length 0)):=by
 have e0:P.av=.agg [.list (P.progs.map Qm),.list (P.enums.map QE)]:=rfl;have kk:=ho.key h5;refine wF Tryz.func228 ?_;simp only[eK,Tryz.f228,seval];simp only[e0,Qz,PO.cells,Qnq,eE,seval];refine Qk (EnI m P lv o ps) _ ⟨_,_,0,rfl,rfl,rfl,(by intro j y h;omega),(by rfl),(by rfl),(by rfl),(by rfl),(by rfl),(by rfl),(by rfl),(by rfl),(by rfl),by simp<;>rfl⟩ ?_;rintro _ st ⟨f0,fr0,i,rfl,rfl,hx,hks,h20,h30,h40,h50,h130,h140,h150,m40,m50,r10⟩;refine QL (a:=_) [10] r10 ?_;intro f fr hf hm hn10;have h2:f 2=.list (ps.map V.pav):=by rw[hf,h20]<;>rfl
 have h3:f 3=.int .i64 lv:=by rw[hf,h30]<;>rfl
 have h4:f 4=.ptr 0 4 0:=by rw[hf,h40]<;>rfl
 have h5':f 5=.ptr 0 5 0:=by rw[hf,h50]<;>rfl
 have h13:f 13=.list (ps.map V.pav):=by rw[hf,h130]<;>rfl
 have h14:f 14=.int .i64 (ps.length:Nat):=by rw[hf,h140]<;>rfl
 have h15:f 15=.int .i64 (i:Nat):=by rw[hf,h150]<;>rfl
 have m4:fr 4=.cells [.list (P.progs.map Qm),.list (P.enums.map QE)]:=by rw[hm 4 (by decide),m40]<;>rfl
 have m5:fr 5=.cells o.cells:=by rw[hm 5 (by decide),m50]<;>rfl
 have n10:=hn10 10 (by decide);clear hf hm hn10 h20 h30 h40 h50 h130 h140 h150 m40 m50 r10;have m5':=m5;simp only[PO.cells]at m5;simp only[h14,h15,Qa,seval];by_cases hlt:i<ps.length
 ·obtain⟨x,hi⟩:∃x,ps[i]? = some x:=⟨ps[i],Qmv hlt⟩;have hxm:=QmJ hi;have hg:=WG hi;have e1:=Qw i _ hlt hn;have hle:(i≤ps.length)=True:=eq_true (by omega);have c1:=IG hP o.key (-1) (hk x hxm);have c2:=hel x.2 (hv x hxm);rw[e0,Qe]at c1 c2;simp only[Qz,PO.cells]at c2;simp only[QD hlt,Qv,QnY,Qf,hg,n10,h4,h5',h13,h15,m4,m5,eE,seval];refine aC c1 ?_;by_cases hz:x.1.one P o.key (-1)=0
  ·have d0:((0:Int) != 0)=false:=rfl;have hcl:=fun(fr:Nat→Ob) (h10:∀c,V.pav x=.agg c→fr 10=.cells c)=>QjQ (ps.take i) (by rw[Qns];omega) (fun q=>Xz q.1 x.1) 291 (.ptr 0 10 0) [fr] fun q hq=>by
    obtain⟨j,hj⟩:=QmH.1 hq;have hlj:=(Qmu.1 hj).1;rw[Qns]at hlj;rw[Qna,QmD (by omega)]at hj;exact QjT kk q x (hks j q (by omega) hj) hz (hk q (QmJ hj)) (hk x hxm) fr h10
   simp only[hz,d0,h2,KY,Jc,XD,Qn8,Qnq,Qv,QnY,QmE,Qms,hle,true_or,Qnu,←List.map_take,Qa,seval];refine Qg (hcl _ (fun c hc=>by rw[Z2]at hc;cases hc;exact(by rfl))) (by simp only[Qm3,Qnx,Qa,seval]<;>rfl) ?_;cases ha:(ps.take i).any (fun q=>Xz q.1 x.1)
   ·have he:Ur m P o ps i=Q5 m P o x.2:=by rw[GN hi,QmD hz,ha,QmC (by simp)]
    simp only[h3,h4,h5',m4,m5,eE,seval];refine aC c2 ?_;by_cases hy:Q5 m P o x.2=0
    ·rw[FN hlt (he.trans hy)]at hx;simp only[hy,d0,h15,e1,Qa,seval];refine⟨ps.length-(i+1),by omega,_,_,i+1,rfl,rfl,hx,?_,(by exact h2),(by exact h3),(by exact h4),(by exact h5'),(by exact h13),(by exact h14),(by rfl),(by exact m4),(by exact m5'),by simp<;>rfl⟩;intro j y hj hjy;by_cases e:j=i
     ·subst e;rw[hi]at hjy;cases hjy;exact hz
     ·exact hks j y (by omega) hjy
    ·rw[UD hlt he hy]at hx;have d1:(Q5 m P o x.2 != 0)=true:=by simp[hy]
     simp only[d1,hx,Qa,seval]
   ·rw[UD hlt (v:=9) (by rw[GN hi,QmD hz,ha,QmD rfl]) (by decide)]at hx;simp only[hx,Qa,seval]
  ·rw[UD hlt ((GN hi).trans (QmC hz)) hz]at hx;have d1:(x.1.one P o.key (-1) != 0)=true:=by simp[hz]
   simp only[d1,hx,Qa,seval]
 ·rw[GM hlt]at hx;simp only[QI hlt,hx,Qa,seval]

end

section
variable {M:Nat}{P:PL}(hP:P.ok M)(hM:M≤140737488351232){m:PG→V→Int}{lv:Int}(o:PO)(ho:UO P o)(v:V)(hv:v.ok M)

include hv in
theorem Rx:Qi Tryz.prog 74 [v.av] (.bool v.oth):=by
 rw[FO];exact z74 _ _ _ _ _ _ _ (by have:=hv.ns;simp;omega) (by have:=hv.nr;simp;omega)

def FiI (m:PG→V→Int)(P:PL)(lv:Int)(o:PO)(v:V)(k:Nat)(st:St):Prop :=
 ∃f fr i,st=⟨f,[fr],[]⟩∧k=v.list.length-i∧Zi (DH m P o v.list) v.list.length 0=Zi (DH m P o v.list) (v.list.length-i) i∧f 3=.int .i64 lv∧f 4=.ptr 0 4 0∧f 5=.ptr 0 5 0∧f 24=.list (v.list.map V.av)∧f 25=.int .i64 (v.list.length:Nat)∧f 26=.int .i64 (i:Nat)∧fr 4=.cells [.list (P.progs.map Qm),.list (P.enums.map QE)]∧fr 5=.cells o.cells∧∀s∈[10],(fr s).isRow=false

include hP ho hv in
theorem QjV (hel:∀v:V,v.ok M→Qi Tryz.prog 227 [P.av,Qz o,v.av,.int .i64 lv] (.int .i64 (Q5 m P o v))) :
  Qi Tryz.prog 166 [P.av,Qz o,v.av,.int .i64 lv] (.int .i64 (XX m P o v)):=by
 have e0:P.av=.agg [.list (P.progs.map Qm),.list (P.enums.map QE)]:=rfl;have co:=Rx v hv;have ce:=fun h5=>QjU hP o ho h5 v.pairs (by have:=hv.np;simp only[maxLen];omega) hv.keys hv.vals hel
 have cv:=hel v hv;rw[e0,Qe]at cv;rw[Qe]at co;simp only[e0,Qz,PO.cells]at ce cv;rw[Qe];refine wF Tryz.func166 ?_;simp only[eK,Tryz.f166,seval];simp only[e0,Qz,PO.cells,eE,seval];unfold XX;by_cases h4:o.card=4
 ·have b4:(o.card==4)=true:=by simp[h4]
  have n5:¬o.card=5:=by omega
  rw[QmC n5,QmD h4];simp only[b4,eE,seval];cases a1:(v.kd != 11)
  ·simp only[Qoh,eE,seval];refine aC co ?_;cases a2:v.oth
   ·simp only[QmO,Qnq,eE,seval];refine Qk (FiI m P lv o v) _ ⟨_,_,0,rfl,rfl,rfl,(by rfl),(by rfl),(by rfl),(by rfl),(by rfl),(by rfl),(by rfl),(by rfl),by simp<;>rfl⟩ ?_;rintro _ st ⟨f0,fr0,i,rfl,rfl,hx,h30,h40,h50,h240,h250,h260,m40,m50,r10⟩;refine QL (a:=_) [10] r10 ?_;intro f fr hf hm hn10;have h3:f 3=.int .i64 lv:=by rw[hf,h30]<;>rfl
    have h4:f 4=.ptr 0 4 0:=by rw[hf,h40]<;>rfl
    have h5:f 5=.ptr 0 5 0:=by rw[hf,h50]<;>rfl
    have h24:f 24=.list (v.list.map V.av):=by rw[hf,h240]<;>rfl
    have h25:f 25=.int .i64 (v.list.length:Nat):=by rw[hf,h250]<;>rfl
    have h26:f 26=.int .i64 (i:Nat):=by rw[hf,h260]<;>rfl
    have m4:fr 4=.cells [.list (P.progs.map Qm),.list (P.enums.map QE)]:=by rw[hm 4 (by decide),m40]<;>rfl
    have m5:fr 5=.cells o.cells:=by rw[hm 5 (by decide),m50]<;>rfl
    have n10:=hn10 10 (by decide);clear hf hm hn10 h30 h40 h50 h240 h250 h260 m40 m50 r10;have m5':=m5;simp only[PO.cells]at m5;simp only[h25,h26,Qa,seval];by_cases hlt:i<v.list.length
    ·obtain⟨x,hi⟩:∃x,v.list[i]? = some x:=⟨v.list[i],Qmv hlt⟩;have hg:=He hi;have e1:=Qw i _ hlt (by have:=hv.nl;simp only[maxLen];omega);have c2:=hel x (hv.list x (QmJ hi));rw[e0,Qe]at c2;simp only[Qz,PO.cells]at c2;simp only[QD hlt,Qv,QnY,Qf,hg,n10,h3,h4,h5,h24,h26,m4,m5,eE,seval];refine aC c2 ?_;by_cases hy:Q5 m P o x=0
     ·rw[FN hlt ((GP hi).trans hy)]at hx;have d0:((0:Int) != 0)=false:=rfl;simp only[hy,d0,h26,e1,Qa,seval];exact⟨v.list.length-(i+1),by omega,_,_,i+1,rfl,rfl,hx,(by exact h3),(by exact h4),(by exact h5),(by exact h24),(by exact h25),(by rfl),(by exact m4),(by exact m5'),by simp<;>rfl⟩
     ·rw[UD hlt (GP hi) hy]at hx;have d1:(Q5 m P o x != 0)=true:=by simp[hy]
      simp only[d1,hx,Qa,seval]
    ·rw[GM hlt]at hx;simp only[QI hlt,hx,Qa,seval]
   ·simp only[Qa,seval]
  ·simp only[Qog,Qa,seval]
 ·have b4:(o.card==4)=false:=by simp[h4]
  by_cases h5:o.card=5
  ·have b5:(o.card==5)=true:=by simp[h5]
   rw[QmD h5];simp only[b4,b5,eE,seval];cases a1:(v.kd != 12)
   ·simp only[Qoh,eE,seval];refine aC co ?_;cases a2:v.oth
    ·simp only[QmO,eE,seval];refine aC (ce h5) ?_;simp only[Qa,seval]
    ·simp only[Qa,seval]
   ·simp only[Qog,Qa,seval]
  ·have b5:(o.card==5)=false:=by simp[h5]
   rw[QmC h5,QmC h4];simp only[b4,b5,eE,seval];refine aC cv ?_;simp only[Qa,seval]

end

theorem Hf {fr:Nat→Ob}{a b:Nat}(h1:(fr a).isRow=false)(h2:(fr b).isRow=false):∀s∈[a,b],(fr s).isRow=false:=by
 intro s hs;simp only[QnS,QoF,or_false]at hs;rcases hs with rfl|rfl
 ·exact h1
 ·exact h2

theorem KT {g:PG}{n:Int}{o:PO}(h:Xq g n=some o):o∈g.ops∧o.num=n:=by
 unfold Xq at h;exact⟨Qos h,by simpa using Qot h⟩

theorem UF (g:PG)(n:Int):MT (fun o=>o.num==n) g.ops=.tup [Qz ((Xq g n).getD Dg),.bool (Xq g n).isSome]:=rfl

section
variable {M:Nat}{P:PL}(hP:P.ok M)(hM:M≤140737488351232){m:PG→V→Int}{lv:Int}(g:PG)(hg:g.ok M)(hu:∀o∈g.ops,UO P o)(sl:List (Int×V))(hn:sl.length≤maxLen)(i:Nat)(hi:i<sl.length)(hv:∀x∈sl,x.2.ok M)

theorem QjW (y:Int×V)(o:PO)(frO:Nat→Ob)(hf:frO 11=.cells o.cells) :
  Qd Tryz.prog 165 [V.sav y,.ptr 2 11 0] [Qb,Qb,frO] fun v m1=>v=.bool (y.1==o.num)∧m1=[Qb,Qb,frO]:=by
 simp only[PO.cells]at hf;rw[ZU];refine wG Tryz.func165 ?_;simp only[eK,Tryz.f165,seval];simp only[hf,eE,seval]

def SlI (P:PL)(lv:Int)(g:PG)(o:PO)(sl:List (Int×V))(i:Nat)(k:Nat)(st:St):Prop :=
 ∃f fr j,st=⟨f,[fr],[]⟩∧k=i-j∧j≤i∧(sl.take j).any (WF g o)=false∧f 2=.list (sl.map V.sav)∧f 3=.int .i64 (i:Nat)∧f 4=.int .i64 lv∧f 5=.ptr 0 5 0∧f 6=.ptr 0 6 0∧f 11=.ptr 0 11 0∧f 36=.list ((sl.take i).map V.sav)∧f 37=.int .i64 (i:Nat)∧f 38=.int .i64 (j:Nat)∧fr 5=.cells [.list (P.progs.map Qm),.list (P.enums.map QE)]∧fr 6=.cells g.cells∧fr 11=.cells o.cells∧∀s∈[15,14],(fr s).isRow=false

include hg hn hi hv in
theorem v75 (hfi:∀o∈g.ops,∀v:V,v.ok M→Qi Tryz.prog 166 [P.av,Qz o,v.av,.int .i64 lv] (.int .i64 (XX m P o v))) :
  Qi Tryz.prog 75 [P.av,Qm g,.list (sl.map V.sav),.int .i64 (i:Nat),.int .i64 lv] (.int .i64 (Z1 m P g sl i)):=by
 have e0:P.av=.agg [.list (P.progs.map Qm),.list (P.enums.map QE)]:=rfl;obtain⟨x,hx⟩:∃x,sl[i]? = some x:=⟨sl[i],Qmv hi⟩;have hxm:=QmJ hx;have hgi:=WH hx;have co:=fun n=>Tk g hg.len n
 simp only[UF]at co;have co1:=co x.1;have hle:(i≤sl.length)=True:=eq_true (by omega);have hlen:(sl.take i).length=i:=by rw[Qns];omega
 unfold Z1;rw[hx];dsimp only;simp only[Qm,PG.cells]at co co1;refine wF Tryz.func75 ?_;simp only[eK,Tryz.f75,seval];simp only[e0,Qm,PG.cells,Qv,QnY,Qf,hgi,Qm4,Qnd,eE,seval];refine aC co1 ?_;cases ho:Xq g x.1 with
 |none=>
  simp only[Qn8,Qnl,Dg,Qz,PO.cells,splice,QnF,QmS,Qm7,QnL,Qnz,QmK,Qnr,QnI,QnJ,AV.leaf,eE,seval]
 |some o=>
  obtain⟨hom,hon⟩:=KT ho;have hcl:=fun(fr:Nat→Ob) (h11:fr 11=.cells o.cells)=>v76 (sl.take i) (by omega) (fun y=>y.1==o.num) 165 (.ptr 0 11 0) [fr] fun y _=>QjW y o fr h11
  rw[hon]at hcl;simp only[PO.cells]at hcl;simp only[QnH,Qop,Qz,PO.cells,splice,QnF,QmS,Qm7,Qnd,QnL,Qnz,QmK,Qnr,QnI,QnJ,AV.leaf,KY,Jc,XD,Qn8,Qnq,Qv,QnY,QmE,Qms,hle,true_or,Qnu,←List.map_take,eE,seval];refine Qg (hcl _ (by rfl)) (by simp only[Qm3,Qnx,Qa,seval]<;>rfl) ?_;cases ha:(sl.take i).any (fun y=>y.1==x.1)
  ·simp only[QmO,KY,Jc,XD,Qn8,Qnq,Qv,QnY,QmE,Qms,hle,true_or,Qnu,←List.map_take,hlen,Qa,seval];refine Qk (SlI P lv g o sl i) _ ⟨_,_,0,rfl,rfl,QmE _,by simp,(by rfl),(by rfl),(by rfl),(by rfl),(by rfl),(by rfl),(by rfl),(by rfl),(by rfl),(by rfl),(by rfl),(by rfl),Hf rfl rfl⟩ ?_;rintro _ st ⟨f0,fr0,j,rfl,rfl,hji,hq,h20,h30,h40,h50,h60,h110,h360,h370,h380,m50,m60,m110,r15⟩;refine QL (a:=_) [15,14] r15 ?_;intro f fr hf hm hn15;have h2:f 2=.list (sl.map V.sav):=by rw[hf,h20]<;>rfl
   have h3:f 3=.int .i64 (i:Nat):=by rw[hf,h30]<;>rfl
   have h4:f 4=.int .i64 lv:=by rw[hf,h40]<;>rfl
   have h5:f 5=.ptr 0 5 0:=by rw[hf,h50]<;>rfl
   have h6:f 6=.ptr 0 6 0:=by rw[hf,h60]<;>rfl
   have h11:f 11=.ptr 0 11 0:=by rw[hf,h110]<;>rfl
   have h36:f 36=.list ((sl.take i).map V.sav):=by rw[hf,h360]<;>rfl
   have h37:f 37=.int .i64 (i:Nat):=by rw[hf,h370]<;>rfl
   have h38:f 38=.int .i64 (j:Nat):=by rw[hf,h380]<;>rfl
   have m5:fr 5=.cells [.list (P.progs.map Qm),.list (P.enums.map QE)]:=by rw[hm 5 (by decide),m50]<;>rfl
   have m6:fr 6=.cells g.cells:=by rw[hm 6 (by decide),m60]<;>rfl
   have m11:fr 11=.cells o.cells:=by rw[hm 11 (by decide),m110]<;>rfl
   have n15:=hn15 15 (by decide);have n14:=hn15 14 (by decide);clear hf hm hn15 h20 h30 h40 h50 h60 h110 h360 h370 h380 m50 m60 m110 r15;have m6':=m6;have m11':=m11;simp only[PG.cells]at m6;simp only[PO.cells]at m11;simp only[h37,h38,Qa,seval];by_cases hlt:j<i
   ·obtain⟨y,hj⟩:∃y,sl[j]? = some y:=⟨sl[j]'(by omega),Qmv (by omega)⟩;have hj':(sl.take i)[j]? = some y:=by rw[Qna,QmD hlt];exact hj
    have hgj:=WH hj';have e1:=Qw j i hlt (by omega);have co2:=co y.1;have ht:(sl.take (j+1)).any (WF g o)=WF g o y:=by
     rw[Qok,hj,List.any_append,hq];simp
    have hun:WF g o y=(o.union != -1&&(((Xq g y.1).getD Dg).union==o.union)):=rfl;simp only[QD hlt,Qv,QnY,Qf,hgj,n14,h6,h36,h38,m6,eE,seval];refine aC co2 ?_;generalize (Xq g y.1).getD Dg=q at hun;generalize (Xq g y.1).isSome=qb;have fin:∀(f':Fr) (fr':Nat→Ob),WF g o y=false→f' 2=.list (sl.map V.sav)→f' 3=.int .i64 (i:Nat)→f' 4=.int .i64 lv→f' 5=.ptr 0 5 0→f' 6=.ptr 0 6 0→f' 11=.ptr 0 11 0→f' 36=.list ((sl.take i).map V.sav)→f' 37=.int .i64 (i:Nat)→f' 38=.int .i64 ((j+1:Nat):Int)→fr' 5=.cells [.list (P.progs.map Qm),.list (P.enums.map QE)]→fr' 6=.cells g.cells→fr' 11=.cells o.cells→(∀s∈[15,14],(fr' s).isRow=false)→∃k,k<i-j∧SlI P lv g o sl i k ⟨f',[fr'],[]⟩:=by
     intro f' fr' hu b2 b3 b4 b5 b6 b11 b36 b37 b38 c5 c6 Wu c15;exact⟨i-(j+1),by omega,f',fr',j+1,rfl,rfl,by omega,by rw[ht,hu],b2,b3,b4,b5,b6,b11,b36,b37,b38,c5,c6,Wu,c15⟩
    cases a1:(o.union != -1)
    ·rw[a1,Qn1]at hun;simp only[Qz,PO.cells,a1,n15,h11,h38,m11,e1,eE,seval];exact fin _ _ hun (by exact h2) (by exact h3) (by exact h4) (by exact h5) (by exact h6) (by exact h11) (by exact h36) (by exact h37) (by rfl) (by exact m5) (by exact m6') (by exact m11') (Hf rfl rfl)
    ·cases a2:(q.union==o.union)
     ·rw[a1,a2,Qoc]at hun;simp only[Qz,PO.cells,a1,a2,n15,h11,h38,m11,e1,eE,seval];exact fin _ _ hun (by exact h2) (by exact h3) (by exact h4) (by exact h5) (by exact h6) (by exact h11) (by exact h36) (by exact h37) (by rfl) (by exact m5) (by exact m6') (by exact m11') (Hf rfl rfl)
     ·rw[a1,a2,Qoc]at hun;have hany:(sl.take i).any (WF g o)=true:=Qoa.2 ⟨y,QmJ hj',hun⟩;rw[hany];simp only[Qz,PO.cells,a1,a2,n15,h11,m11,eE,seval]
   ·have e:j=i:=by omega
    subst e;have cf:=hfi o hom x.2 (hv x hxm);rw[e0,Qe]at cf;simp only[Qz,PO.cells]at cf;rw[hq];simp only[QI hlt,QmO,Qv,QnY,Qf,hgi,Qm4,Qm7,Qnd,h2,h3,h4,h5,h11,m5,m11,eE,seval];refine aC cf ?_;simp only[Qa,seval]
  ·simp only[Qa,seval]

end

def FQ (P:PL)(o:PO)(f:R):Bool:=o.kind==9&&o.card != 5&&f.wire==0&&decide ((f.bits:Int)≤2147483647) && !W3 P.enums o.target f.bits
theorem Ed (P:PL)(g:PG)(f:R):(!NY P g f)=((Xq g f.num).isSome && !FQ P ((Xq g f.num).getD Dg) f):=by
 unfold NY FQ;cases Xq g f.num<;>rfl
def Qd5 (f:R):Bool:=decide (f.num<1)||decide (f.num > 65535)||decide (f.wire<0)||decide (f.wire > 6)
def Qd6 (f:R):Bool:=decide (f.wire≤2) && !(f.data==[])||decide (f.wire > 2) && !((f.bits:Int)==0)
def Qd7 (f:R):Bool:=f.wire==3&&decide ((f.data.length:Int) > 4096)||decide ((f.data.length:Int) > 65536)
theorem Qa9 (P:PL)(g:PG)(f:R):Wi P g f=if Qd5 f=true then 1 else if Qd6 f=true then 1 else if (!NY P g f)=true then 1 else if Qd7 f=true then 3 else 0:=rfl
section
variable {M:Nat}{P:PL}(hP:P.ok M)

include hP in
theorem Ee (o:PO)(w:R)(n7 n9:Bool)(f:Fr)(fr:Nat→Ob)(h3:f 3=.ptr 0 3 0)(h5:f 5=.ptr 0 5 0)(h7:f 7=.bool n7)(h8:f 8=.ptr 0 8 0)(h9:f 9=.bool n9)
  (m3:fr 3=.cells [.list (P.progs.map Qm),.list (P.enums.map QE)]) (m5:fr 5=.cells [.int .i64 w.num,.int .i64 w.wire,.int .u64 (w.bits:Nat),.str w.data]) (m8:fr 8=.cells o.cells) (Q:St→Prop)
  (hQ:∀f,f 5=.ptr 0 5 0→f 7=.bool n7→f 9=.bool n9→f 10=.bool (FQ P o w)→Q ⟨f,[fr],[]⟩):QB Tryz.prog U4 ⟨f,[fr],[]⟩ Q:=by
 have e0:P.av=.agg [.list (P.progs.map Qm),.list (P.enums.map QE)]:=rfl;have ha:=A9 P hP o.target w.bits;rw[e0]at ha;simp only[PO.cells]at m8;unfold FQ at hQ;cases a1:(o.kind==9)
 ·rw[a1]at hQ;simp only[Qn1]at hQ;simp only[U4,a1,h8,m8,eE,seval];exact hQ _ (by exact h5) (by exact h7) (by exact h9) (by rfl)
 cases a2:(o.card != 5)
 ·rw[a1,a2]at hQ;simp only[Qoc,Qn1]at hQ;simp only[U4,a1,a2,h8,m8,eE,seval];exact hQ _ (by exact h5) (by exact h7) (by exact h9) (by rfl)
 cases a3:(w.wire==0)
 ·rw[a1,a2,a3]at hQ;simp only[Qoc,Qn1]at hQ;simp only[U4,a1,a2,a3,h5,h8,m5,m8,eE,seval];exact hQ _ (by exact h5) (by exact h7) (by exact h9) (by rfl)
 cases a4:decide ((w.bits:Int)≤2147483647)
 ·rw[a1,a2,a3,a4]at hQ;simp only[Qoc,Qn1]at hQ;simp only[U4,a1,a2,a3,a4,h5,h8,m5,m8,eE,seval];exact hQ _ (by exact h5) (by exact h7) (by exact h9) (by rfl)
 rw[a1,a2,a3,a4]at hQ;simp only[Qoc]at hQ;simp only[U4,a1,a2,a3,a4,h3,h5,h8,m3,m5,m8,eE,seval];refine aC ha ?_;simp only[Qa,seval];exact hQ _ (by exact h5) (by exact h7) (by exact h9) (by rfl)

include hP in
theorem v78 (g:PG)(hg:g.ok M)(w:R):Qi Tryz.prog 78 [P.av,Qm g,w.av] (.int .i64 (Wi P g w)):=by
 have e0:P.av=.agg [.list (P.progs.map Qm),.list (P.enums.map QE)]:=rfl;have co:=Tk g hg.len w.num;rw[UF]at co;simp only[Qm,PG.cells]at co;have nd:(w.data != [])=!(w.data==[]):=rfl;have nb:((w.bits:Int) != 0)=!((w.bits:Int)==0):=rfl;have hgt:decide (w.wire > 2)=!decide (w.wire≤2):=(by rw[Qnp];simp only[Qmz,Qnt,Qov];omega);rw[Qa9,Ed];unfold Qd5 Qd6 Qd7;rw[hgt];refine k78.fn (by simp) ?_;simp only[r78,Ik,Il,Im,o78,e0,Qm,PG.cells,R.av,eE,seval];refine aC co ?_;generalize (Xq g w.num).getD Dg=q;generalize (Xq g w.num).isSome=kb;simp only[Qz,PO.cells,splice,QnF,QmS,Qm7,QnL,Qnz,QmK,Qnr,QnI,QnJ,AV.leaf,eE,seval];refine Ee hP q w (decide (w.wire≤2)) kb _ _ (by rfl) (by rfl) (by rfl) (by rfl) (by rfl) (by rfl) (by rfl) (by rfl) _ (fun f h5 h7 h9 h10=>?_);generalize FQ P q w=K at h10 ⊢;simp only[Io,h5,eE,seval];cases r1:decide (w.num<1)
 case true=>simp only[Fy,Qog,Qa,seval]
 cases r2:decide (w.num > 65535)
 case true=>simp only[r2,Fy,Qog,Qoh,h5,eE,seval]
 cases r3:decide (w.wire<0)
 case true=>simp only[r2,r3,Fy,Qog,Qoh,h5,eE,seval]
 cases r4:decide (w.wire > 6)
 case true=>simp only[r2,r3,r4,Fy,Qoh,h5,eE,seval]
 simp only[r2,r3,r4,Qoh,QmO,Ip,h5,h7,eE,seval];cases s1:decide (w.wire≤2)
 ·rw[s1]at h7;cases s2:((w.bits:Int)==0)
  ·simp only[s2,nb,Fz,QnE,Qn1,Qoh,h5,h7,eE,seval]
  ·cases kb<;>cases K<;>simp only[s2,nb,Fz,Ra,QnE,Qod,Qn1,Qoe,Qoh,QmO,h5,h7,h9,h10,eE,seval]
   all_goals(cases t1:(w.wire==3)<;>try simp only[Qn1,Qoc,Qoh,h5,eE,seval])
   all_goals(cases t2:decide ((w.data.length:Int) > 4096)<;>try simp only[Re,Qoh,Qog,h5,eE,seval])
   all_goals(cases t3:decide ((w.data.length:Int) > 65536)<;>try simp only[VD,QmO,Qa,seval])
 ·rw[s1]at h7;cases s2:(w.data==[])
  ·simp only[s2,QP,Fz,QnE,Qod,Qn1,Qog,h5,eE,seval]
  ·cases kb<;>cases K<;>simp only[s2,QP,Fz,Ra,QnE,Qod,Qn1,Qoe,Qoh,QmO,h5,h7,h9,h10,eE,seval]
   all_goals(cases t1:(w.wire==3)<;>try simp only[Qn1,Qoc,Qoh,h5,eE,seval])
   all_goals(cases t2:decide ((w.data.length:Int) > 4096)<;>try simp only[Re,Qoh,Qog,h5,eE,seval])
   all_goals(cases t3:decide ((w.data.length:Int) > 65536)<;>try simp only[VD,QmO,Qa,seval])

theorem v77 (y:Int×V)(o:PO)(frO:Nat→Ob)(hf:frO 12=.cells o.cells) :
  Qd Tryz.prog 77 [V.sav y,.ptr 2 12 0] [Qb,Qb,frO] fun v m1=>v=.bool (y.1==o.num)∧m1=[Qb,Qb,frO]:=by
 simp only[PO.cells]at hf;rw[ZU];refine wG Tryz.func77 ?_;simp only[eK,Tryz.f77,seval];simp only[hf,eE,seval]

end

def Gc (sl:List (Int×V))(o:PO):Bool:=o.card==1 && !sl.any fun y=>y.1==o.num
theorem M1 (g:PG)(sl:List (Int×V)):Hc g sl=g.ops.any (Gc sl):=rfl

theorem Ry {l:List R}{i:Nat}{x:R}(h:l[i]? = some x):(l.map R.av)[i]? = some (.agg [.int .i64 x.num,.int .i64 x.wire,.int .u64 (x.bits:Nat),.str x.data]):=by
 rw[QnT,h,QmV,R.av]
theorem QjX {l:List PO}{i:Nat}{o:PO}(h:l[i]? = some o):(l.map fun o=>AV.agg o.cells)[i]? = some (.agg [.int .i64 o.num,.str o.name,.str o.alias,.int .i64 o.card,.int .i64 o.key,.int .i64 o.kind,.int .i64 o.target,.int .i64 o.union]):=by
 rw[QnT,h,QmV,PO.cells]

section
variable {M:Nat}{P:PL}(hP:P.ok M){m:PG→V→Int}{lv:Int}(g:PG)(hg:g.ok M)(v:V)(hv:v.ok M)

def MrI (P:PL)(g:PG)(v:V)(k:Nat)(st:St):Prop :=
 ∃f fr i,st=⟨f,[fr],[]⟩∧k=v.raws.length-i∧Zi (Wj P g v.raws) v.raws.length 0=Zi (Wj P g v.raws) (v.raws.length-i) i∧f 4=.ptr 0 4 0∧f 5=.ptr 0 5 0∧f 63=.list (v.raws.map R.av)∧f 64=.int .i64 (v.raws.length:Nat)∧f 65=.int .i64 (i:Nat)∧fr 4=.cells [.list (P.progs.map Qm),.list (P.enums.map QE)]∧fr 5=.cells g.cells∧∀s∈[14],(fr s).isRow=false

include hP hg hv in
theorem TA (f:Fr)(fr:Nat→Ob)(h4:f 4=.ptr 0 4 0)(h5:f 5=.ptr 0 5 0)(h63:f 63=.list (v.raws.map R.av))(h64:f 64=.int .i64 (v.raws.length:Nat))(h65:f 65=.int .i64 0)
  (m4:fr 4=.cells [.list (P.progs.map Qm),.list (P.enums.map QE)]) (m5:fr 5=.cells g.cells) (r14:∀s∈[14],(fr s).isRow=false) (Q:Exit→St→Prop)
  (q1:Zi (Wj P g v.raws) v.raws.length 0≠0→∀f fr,f 8=.int .i64 (Zi (Wj P g v.raws) v.raws.length 0)→Q .ret (⟨f,[fr],[]⟩:St))
  (q2:Zi (Wj P g v.raws) v.raws.length 0=0→∀f fr,Q (.exit 5) (⟨f,[fr],[]⟩:St)):QR Tryz.prog (.loop Ig) ⟨f,[fr],[]⟩ Q:=by
 have e0:P.av=.agg [.list (P.progs.map Qm),.list (P.enums.map QE)]:=rfl;refine Qk (MrI P g v) _ ⟨f,fr,0,rfl,rfl,rfl,h4,h5,h63,h64,h65,m4,m5,r14⟩ ?_;clear h4 h5 h63 h64 h65 m4 m5 r14;rintro _ st ⟨f0,fr0,i,rfl,rfl,hx,h40,h50,h630,h640,h650,m40,m50,r14⟩;refine QL (a:=_) [14] r14 ?_;intro f fr hf hm hn;have h4:f 4=.ptr 0 4 0:=by rw[hf,h40]<;>rfl
 have h5:f 5=.ptr 0 5 0:=by rw[hf,h50]<;>rfl
 have h63:f 63=.list (v.raws.map R.av):=by rw[hf,h630]<;>rfl
 have h64:f 64=.int .i64 (v.raws.length:Nat):=by rw[hf,h640]<;>rfl
 have h65:f 65=.int .i64 (i:Nat):=by rw[hf,h650]<;>rfl
 have m4:fr 4=.cells [.list (P.progs.map Qm),.list (P.enums.map QE)]:=by rw[hm 4 (by decide),m40]<;>rfl
 have m5:fr 5=.cells g.cells:=by rw[hm 5 (by decide),m50]<;>rfl
 have n14:=hn 14 (by decide);clear hf hm hn h40 h50 h630 h640 h650 m40 m50 r14;have m5':=m5;simp only[PG.cells]at m5;simp only[h64,h65,Qa,seval];by_cases hlt:i<v.raws.length
 ·obtain⟨x,hi⟩:∃x,v.raws[i]? = some x:=⟨v.raws[i],Qmv hlt⟩;have hgi:=Ry hi;have e1:=Qw i _ hlt (by have:=hv.nr;simp only[maxLen];omega);have c1:=v78 hP g hg x;rw[e0]at c1;simp only[Qm,PG.cells,R.av]at c1;simp only[QD hlt,Qv,QnY,Qf,hgi,n14,h4,h5,h63,h65,m4,m5,eE,seval];refine aC c1 ?_;by_cases hy:Wi P g x=0
  ·rw[FN hlt ((Hd hi).trans hy)]at hx;have d0:((0:Int) != 0)=false:=rfl;simp only[hy,d0,h65,e1,Qa,seval];exact⟨v.raws.length-(i+1),by omega,_,_,i+1,rfl,rfl,hx,(by exact h4),(by exact h5),(by exact h63),(by exact h64),(by rfl),(by exact m4),(by exact m5'),by simp<;>rfl⟩
  ·rw[UD hlt (Hd hi) hy]at hx;have d1:(Wi P g x != 0)=true:=by simp[hy]
   simp only[d1,Qa,seval];exact q1 (by rw[hx];exact hy) _ _ (by rw[hx];exact(by rfl))
 ·rw[GM hlt]at hx;simp only[QI hlt,Qa,seval];exact q2 hx _ _

def MoI (P:PL)(g:PG)(v:V)(k:Nat)(st:St):Prop :=
 ∃f fr i,st=⟨f,[fr],[]⟩∧k=g.ops.length-i∧i≤g.ops.length∧(g.ops.take i).any (Gc v.slots)=false∧f 4=.ptr 0 4 0∧f 5=.ptr 0 5 0∧f 6=.ptr 0 6 0∧f 45=.list (g.ops.map fun o=>.agg o.cells)∧f 46=.int .i64 (g.ops.length:Nat)∧f 47=.int .i64 (i:Nat)∧fr 4=.cells [.list (P.progs.map Qm),.list (P.enums.map QE)]∧fr 5=.cells g.cells∧fr 6=.cells (vc v)∧∀s∈[12],(fr s).isRow=false

include hg hv in
theorem Ef (f:Fr)(fr:Nat→Ob)(h4:f 4=.ptr 0 4 0)(h5:f 5=.ptr 0 5 0)(h6:f 6=.ptr 0 6 0)(h45:f 45=.list (g.ops.map fun o=>.agg o.cells))(h46:f 46=.int .i64 (g.ops.length:Nat))(h47:f 47=.int .i64 0)
  (m4:fr 4=.cells [.list (P.progs.map Qm),.list (P.enums.map QE)]) (m5:fr 5=.cells g.cells) (m6:fr 6=.cells (vc v)) (r12:∀s∈[12],(fr s).isRow=false) (Q:Exit→St→Prop)
  (q1:Hc g v.slots=true→∀f fr,f 8=.int .i64 14→Q .ret (⟨f,[fr],[]⟩:St))
  (q2:Hc g v.slots=false→∀f fr,f 4=.ptr 0 4 0→f 5=.ptr 0 5 0→f 6=.ptr 0 6 0→fr 4=.cells [.list (P.progs.map Qm),.list (P.enums.map QE)]→fr 5=.cells g.cells→fr 6=.cells (vc v)→fr 14=.none→Q (.exit 3) (⟨f,[fr],[]⟩:St))
  (r14:fr 14=.none):QR Tryz.prog (.loop Ie) ⟨f,[fr],[]⟩ Q:=by
 let I:Nat→St→Prop:=fun k st=>MoI P g v k st∧∀f fr,st=⟨f,[fr],[]⟩→fr 14=.none
 have mk:∀k st,MoI P g v k st→∀f fr,st=⟨f,[fr],[]⟩→fr 14=.none→I k st:=fun k st h f fr e n=>⟨h,fun f' fr' e'=>by
  rw[e]at e'
  injection e' with _ e2 _
  injection e2 with e3 _
  rw[←e3];exact n⟩
 refine Qk I _ (mk _ _ ⟨f,fr,0,rfl,rfl,QmE _,by simp,h4,h5,h6,h45,h46,h47,m4,m5,m6,r12⟩ _ _ rfl r14) ?_;clear h4 h5 h6 h45 h46 h47 m4 m5 m6 r12 r14;rintro _ st ⟨⟨f0,fr0,i,rfl,rfl,hil,hq,h40,h50,h60,h450,h460,h470,m40,m50,m60,r12⟩,r14⟩;have r14:=r14 _ _ rfl;refine QL (a:=_) [12] r12 ?_;intro f fr hf hm hn;have h4:f 4=.ptr 0 4 0:=by rw[hf,h40]<;>rfl
 have h5:f 5=.ptr 0 5 0:=by rw[hf,h50]<;>rfl
 have h6:f 6=.ptr 0 6 0:=by rw[hf,h60]<;>rfl
 have h45:f 45=.list (g.ops.map fun o=>.agg o.cells):=by rw[hf,h450]<;>rfl
 have h46:f 46=.int .i64 (g.ops.length:Nat):=by rw[hf,h460]<;>rfl
 have h47:f 47=.int .i64 (i:Nat):=by rw[hf,h470]<;>rfl
 have m4:fr 4=.cells [.list (P.progs.map Qm),.list (P.enums.map QE)]:=by rw[hm 4 (by decide),m40]<;>rfl
 have m5:fr 5=.cells g.cells:=by rw[hm 5 (by decide),m50]<;>rfl
 have m6:fr 6=.cells (vc v):=by rw[hm 6 (by decide),m60]<;>rfl
 have n14:fr 14=.none:=by rw[hm 14 (by decide),r14]<;>rfl
 have n12:=hn 12 (by decide);clear hf hm hn h40 h50 h60 h450 h460 h470 m40 m50 m60 r12 r14;have m6':=m6;simp only[vc]at m6;simp only[h46,h47,Qa,seval];by_cases hlt:i<g.ops.length
 ·obtain⟨o,hi⟩:∃o,g.ops[i]? = some o:=⟨g.ops[i],Qmv hlt⟩;have hgi:=QjX hi;have e1:=Qw i _ hlt hg.len;have ht:(g.ops.take (i+1)).any (Gc v.slots)=Gc v.slots o:=by
   rw[Qok,hi,List.any_append,hq];simp
  have hmi:Gc v.slots o=(o.card==1 && !v.slots.any fun y=>y.1==o.num):=rfl;have fin:∀(f':Fr) (fr':Nat→Ob),Gc v.slots o=false→f' 4=.ptr 0 4 0→f' 5=.ptr 0 5 0→f' 6=.ptr 0 6 0→f' 45=.list (g.ops.map fun o=>.agg o.cells)→f' 46=.int .i64 (g.ops.length:Nat)→f' 47=.int .i64 ((i+1:Nat):Int)→fr' 4=.cells [.list (P.progs.map Qm),.list (P.enums.map QE)]→fr' 5=.cells g.cells→fr' 6=.cells (vc v)→(∀s∈[12],(fr' s).isRow=false)→fr' 14=.none→∃k,k<g.ops.length-i∧I k ⟨f',[fr'],[]⟩:=by
   intro f' fr' hu b4 b5 b6 b45 b46 b47 c4 c5 c6 JB c14;exact⟨g.ops.length-(i+1),by omega,mk _ _ ⟨f',fr',i+1,rfl,rfl,by omega,by rw[ht,hu],b4,b5,b6,b45,b46,b47,c4,c5,c6,JB⟩ _ _ rfl c14⟩
  simp only[QD hlt,Qv,QnY,Qf,hgi,n12,h45,h47,eE,seval];cases a1:(o.card==1)
  ·rw[a1,Qn1]at hmi;simp only[h47,e1,Qa,seval];exact fin _ _ hmi (by exact h4) (by exact h5) (by exact h6) (by exact h45) (by exact h46) (by rfl) (by exact m4) (by exact m5) (by exact m6') (by simp<;>rfl) (by exact n14)
  ·rw[a1,Qoc]at hmi;have hcl:=fun(fr:Nat→Ob) (h12:fr 12=.cells o.cells)=>v76 v.slots (by have:=hv.ns;simp only[maxLen];omega) (fun y=>y.1==o.num) 77 (.ptr 0 12 0) [fr] fun y _=>v77 y o fr h12
   simp only[PO.cells]at hcl;simp only[h6,m6,eE,seval];refine Qg (hcl _ (by rfl)) (by simp only[Qm3,Qnx,Qa,seval]<;>rfl) ?_;cases a2:v.slots.any (fun y=>y.1==o.num)
   ·rw[a2]at hmi;have hany:Hc g v.slots=true:=Qoa.2 ⟨o,QmJ hi,by show Gc v.slots o=true;rw[hmi];rfl⟩;simp only[Qa,seval];exact q1 hany _ _ (by rfl)
   ·rw[a2]at hmi;simp only[h47,e1,Qa,seval];exact fin _ _ hmi (by exact h4) (by exact h5) (by exact h6) (by exact h45) (by exact h46) (by rfl) (by exact m4) (by exact m5) (by exact m6') (by simp<;>rfl) (by exact n14)
 ·have hq':Hc g v.slots=false:=by rw[M1,←hq,Qm5 (by omega)]
  simp only[QI hlt,Qa,seval];exact q2 hq' _ _ (by exact h4) (by exact h5) (by exact h6) (by exact m4) (by exact m5) (by exact m6') (by exact n14)

def MsI (m:PG→V→Int)(P:PL)(lv:Int)(g:PG)(v:V)(k:Nat)(st:St):Prop :=
 ∃f fr i,st=⟨f,[fr],[]⟩∧k=v.slots.length-i∧Zi (Z1 m P g v.slots) v.slots.length 0=Zi (Z1 m P g v.slots) (v.slots.length-i) i∧f 3=.int .i64 lv∧f 4=.ptr 0 4 0∧f 5=.ptr 0 5 0∧f 6=.ptr 0 6 0∧f 29=.int .i64 (v.slots.length:Nat)∧f 30=.int .i64 (i:Nat)∧fr 4=.cells [.list (P.progs.map Qm),.list (P.enums.map QE)]∧fr 5=.cells g.cells∧fr 6=.cells (vc v)∧fr 12=.none∧fr 14=.none

include hv in
theorem Rz (hsl:∀i,i<v.slots.length→Qi Tryz.prog 75 [P.av,Qm g,.list (v.slots.map V.sav),.int .i64 (i:Nat),.int .i64 lv] (.int .i64 (Z1 m P g v.slots i)))
  (f:Fr) (fr:Nat→Ob) (h3:f 3=.int .i64 lv) (h4:f 4=.ptr 0 4 0) (h5:f 5=.ptr 0 5 0) (h6:f 6=.ptr 0 6 0) (h29:f 29=.int .i64 (v.slots.length:Nat)) (h30:f 30=.int .i64 0)
  (m4:fr 4=.cells [.list (P.progs.map Qm),.list (P.enums.map QE)]) (m5:fr 5=.cells g.cells) (m6:fr 6=.cells (vc v)) (n12:fr 12=.none) (n14:fr 14=.none) (Q:Exit→St→Prop)
  (q1:Zi (Z1 m P g v.slots) v.slots.length 0≠0→∀f fr,f 8=.int .i64 (Zi (Z1 m P g v.slots) v.slots.length 0)→Q .ret (⟨f,[fr],[]⟩:St))
  (q2:Zi (Z1 m P g v.slots) v.slots.length 0=0→∀f fr,f 4=.ptr 0 4 0→f 5=.ptr 0 5 0→f 6=.ptr 0 6 0→fr 4=.cells [.list (P.progs.map Qm),.list (P.enums.map QE)]→fr 5=.cells g.cells→fr 6=.cells (vc v)→fr 12=.none→fr 14=.none→Q (.exit 1) (⟨f,[fr],[]⟩:St)) :
  QR Tryz.prog (.loop Ic) ⟨f,[fr],[]⟩ Q:=by
 have e0:P.av=.agg [.list (P.progs.map Qm),.list (P.enums.map QE)]:=rfl;refine Qk (MsI m P lv g v) _ ⟨f,fr,0,rfl,rfl,rfl,h3,h4,h5,h6,h29,h30,m4,m5,m6,n12,n14⟩ ?_;clear h3 h4 h5 h6 h29 h30 m4 m5 m6 n12 n14;rintro _ st ⟨f,fr,i,rfl,rfl,hx,h3,h4,h5,h6,h29,h30,m4,m5,m6,n12,n14⟩;have m5':=m5;have m6':=m6;simp only[PG.cells]at m5;simp only[vc]at m6;simp only[h29,h30,Qa,seval];by_cases hlt:i<v.slots.length
 ·have e1:=Qw i _ hlt (by have:=hv.ns;simp only[maxLen];omega);have c1:=hsl i hlt;rw[e0]at c1;simp only[Qm,PG.cells]at c1;simp only[QD hlt,h3,h4,h5,h6,h30,m4,m5,m6,eE,seval];refine aC c1 ?_;by_cases hy:Z1 m P g v.slots i=0
  ·rw[FN hlt hy]at hx;have d0:((0:Int) != 0)=false:=rfl;simp only[hy,d0,h30,e1,Qa,seval];exact⟨v.slots.length-(i+1),by omega,_,_,i+1,rfl,rfl,hx,(by exact h3),(by exact h4),(by exact h5),(by exact h6),(by exact h29),(by rfl),(by exact m4),(by exact m5'),(by exact m6'),n12,n14⟩
  ·rw[UD hlt rfl hy]at hx;have d1:(Z1 m P g v.slots i != 0)=true:=by simp[hy]
   simp only[d1,Qa,seval];exact q1 (by rw[hx];exact hy) _ _ (by rw[hx];exact(by rfl))
 ·rw[GM hlt]at hx;simp only[QI hlt,Qa,seval];exact q2 hx _ _ (by exact h4) (by exact h5) (by exact h6) (by exact m4) (by exact m5') (by exact m6') n12 n14

include hP in
theorem v38 (hU:Kt P):∀n:Nat,n≤16→∀g∈P.progs,∀v:V,v.ok M→Qi Tryz.prog 38 [P.av,Qm g,v.av,.int .i64 (17-(n:Int))] (.int .i64 (Za P n g v)):=by
 have e0:P.av=.agg [.list (P.progs.map Qm),.list (P.enums.map QE)]:=rfl;intro n
 induction n with
 |zero=>
  intro _ g _ v hv;have co:=Rx v hv;rw[Qe]at co;rw[Qe];have d0:decide ((17:Int)-((0:Nat):Int) > 16)=true:=rfl;refine k38.fn (by simp) ?_;simp only[e0,Qm,PG.cells,Za,eE,seval];cases a1:(v.kd != 10)
  ·simp only[Qoh,eE,seval];refine aC co ?_;cases v.oth
   ·simp only[QmO,Qa,seval]
   ·simp only[Qa,seval]
  ·simp only[Qog,Qa,seval]
 |succ n ih=>
  intro hn16 g hgm v hv;have hg:=hP.progs g hgm;have hu:=hU g hgm;have hw:IntKind.i64.wrap (17-((n+1:Nat):Int)+1)=17-(n:Int):=by rw[QC];omega
  have hel:=fun(o:PO) (ho:o∈g.ops) (x:V) (hx:x.ok M)=>QjO hP hw (fun g hg v hv=>ih (by omega) g hg v hv) o (hu o ho) x hx
  have hfi:=fun(o:PO) (ho:o∈g.ops) (x:V) (hx:x.ok M)=>QjV hP o (hu o ho) x hx (hel o ho)
  have hsl:=fun(i:Nat) (hi:i<v.slots.length)=>v75 (P:=P) g hg v.slots (by have:=hv.ns;simp only[maxLen];omega) i hi hv.slots hfi
  have co:=Rx v hv;rw[Qe]at co;rw[Qe];have d0:decide ((17:Int)-((n+1:Nat):Int) > 16)=false:=Qoo (by omega);refine k38.fn (by simp) ?_;simp only[e0,Qm,PG.cells,Za,eE,seval];cases a1:(v.kd != 10)
  ·simp only[Qoh,eE,seval];refine aC co ?_;cases v.oth
   ·simp only[d0,QmO,Qnq,eE,seval];unfold Uc;refine Rz (lv:=17-((n+1:Nat):Int)) g v hv hsl _ _ (by rfl) (by rfl) (by rfl) (by rfl) (by rfl) (by rfl) (by rfl) (by rfl) (by rfl) (by rfl) (by rfl) _ (fun hx f fr h8=>?_) (fun hx f fr h4 h5 h6 m4 m5 m6 n12 n14=>?_)
    ·rw[QmC hx];simp only[h8,Qa,seval]
    ·rw[QmD hx];have m5':=m5;simp only[PG.cells]at m5;simp only[h5,m5,Qnq,eE,seval];refine Ef g hg v hv _ _ (by exact h4) (by exact h5) (by exact h6) (by rfl) (by rfl) (by rfl) (by exact m4) (by exact m5') (by exact m6) (by simp only[QnS,QoF,or_false,forall_eq,n12]<;>rfl) _ (fun hx f fr h8=>?_) (fun hx f fr h4 h5 h6 m4 m5 m6 n14=>?_) (by exact n14)
     ·rw[hx];simp only[h8,Qa,seval]
     ·rw[hx];have m6':=m6;simp only[vc]at m6;simp only[QmO,h6,m6,Qnq,eE,seval];refine TA hP g hg v hv _ _ (by exact h4) (by exact h5) (by rfl) (by rfl) (by rfl) (by exact m4) (by exact m5) (by simp only[QnS,QoF,or_false,forall_eq,n14]<;>rfl) _ (fun hx f fr h8=>?_) (fun hx f fr=>?_)
      ·simp only[h8,Qa,seval]
      ·simp only[hx,Qa,seval]
   ·simp only[Qa,seval]
  ·simp only[Qog,Qa,seval]

end
end Go.Proofs.YtkhpgmeokilhaaaGreatDoor.Va

namespace Go.Proofs.YtkhpgmeokilhaaaGreatDoor.Rc
open Go Am Cg
end Go.Proofs.YtkhpgmeokilhaaaGreatDoor.Rc

namespace Go.Proofs.YtkhpgmeokilhaaaGreatDoor.Va
open Go Am Rc Bt Br Up

def FR:List R→Nat
 | []=>0
 |f :: l=>f.data.length+FR l
mutual
def _root_.Go.Proofs.YtkhpgmeokilhaaaGreatDoor.Br.V.sz:V→Nat
 |.mk _ _ t l p s r=>t.length+HA l+Ge p+Dk s+FR r
def HA:List V→Nat
 | []=>0
 |x :: l=>x.sz+HA l
def Ge:List (V×V)→Nat
 | []=>0
 |(a,b) :: l=>a.sz+b.sz+Ge l
def Dk:List (Int×V)→Nat
 | []=>0
 |(_,a) :: l=>a.sz+Dk l
end
theorem Qgb:∀v:V,v.sz=v.text.length+HA v.list+Ge v.pairs+Dk v.slots+FR v.raws
 |.mk k b t l p s r=>by rw[V.sz];rfl
theorem Eg {l:List R}{i:Nat}{x:R}(h:l[i]? = some x):FR (l.take (i+1))=FR (l.take i)+x.data.length:=by
 induction l generalizing i with
 |nil=>simp at h
 |cons y l ih=>
  cases i with
  |zero=>simp at h;subst h;simp[FR]
  |succ i=>
   simp only[Qm4,FR];rw[ih (by simpa using h)];omega
theorem Eh {l:List V}{i:Nat}{x:V}(h:l[i]? = some x):HA (l.take (i+1))=HA (l.take i)+x.sz:=by
 induction l generalizing i with
 |nil=>simp at h
 |cons y l ih=>
  cases i with
  |zero=>simp at h;subst h;simp[HA]
  |succ i=>
   simp only[Qm4,HA];rw[ih (by simpa using h)];omega
theorem Ei {l:List (V×V)}{i:Nat}{x:V×V}(h:l[i]? = some x):Ge (l.take (i+1))=Ge (l.take i)+x.1.sz+x.2.sz:=by
 induction l generalizing i with
 |nil=>simp at h
 |cons y l ih=>
  obtain⟨y1,y2⟩:=y;cases i with
  |zero=>simp at h;subst h;simp[Ge]
  |succ i=>
   simp only[Qm4,Ge];rw[ih (by simpa using h)];omega
theorem Ej {l:List (Int×V)}{i:Nat}{x:Int×V}(h:l[i]? = some x):Dk (l.take (i+1))=Dk (l.take i)+x.2.sz:=by
 induction l generalizing i with
 |nil=>simp at h
 |cons y l ih=>
  obtain⟨y1,y2⟩:=y;cases i with
  |zero=>simp at h;subst h;simp[Dk]
  |succ i=>
   simp only[Qm4,Dk];rw[ih (by simpa using h)];omega

section
variable {M:Nat}

def IH (v:V)(c len:Nat)(a:Nat→Nat)(k:Nat)(st:St):Prop :=
 ∃f fr i,st=⟨f,[fr],[]⟩∧k=len-i∧i≤len∧f 1=.ptr 0 1 0∧f 3=.int .i64 (IntKind.i64.wrap ((a i:Nat):Int))∧f c=.int .i64 (i:Nat)∧fr 1=.cells (vc v)

theorem w15 (hM:M≤9223372036854775807)(v:V)(hv:v.ok M):Qi Tryz.prog 15 [v.av] (.int .i64 (IntKind.i64.wrap (v.sz:Int))):=by
 revert hv
 refine V.ind (P:=fun v=>v.ok M→Qi Tryz.prog 15 [v.av] (.int .i64 (IntKind.i64.wrap (v.sz:Int)))) ?_ v;clear v;intro v hl hp hs hv;have n1:=hv.nl;have n2:=hv.np;have n3:=hv.ns;have n4:=hv.nr;have nt:=hv.text;have wt:IntKind.i64.wrap (v.text.length:Int)=(v.text.length:Int):=by rw[QC];omega
 rw[Qe];refine wF Tryz.func15 ?_;simp only[eK,Tryz.f15,seval];simp only[Qnq,eE,seval];refine Qk (IH v 4 v.list.length fun i=>v.text.length+HA (v.list.take i)) _ ⟨_,_,0,rfl,rfl,QmE _,(by first|rfl|simp only[eE,seval]),(by simp only[QnF,HA,Qm2,wt,eE,seval]),(by first|rfl|simp only[eE,seval]),(by first|rfl|simp only[eE,seval])⟩ ?_;rintro _ st ⟨f,fr,i,rfl,rfl,hil,h1,h3,h4,m1⟩;dsimp only at h3;have m1':=m1;simp only[vc]at m1;simp only[Qnq,h1,h3,h4,m1,eE,seval];by_cases hlt:i<v.list.length
 ·obtain⟨x,hi⟩:∃x,v.list[i]? = some x:=⟨v.list[i],Qmv hlt⟩;have hg:=He hi;have e1:=Qw i _ hlt (by simp only[maxLen];omega);have c1:=hl x (QmJ hi) (hv.list x (QmJ hi));rw[Qe]at c1;simp only[QD hlt,Qv,QnY,Qf,hg,h1,h3,h4,m1,eE,seval];refine aC c1 ?_;simp only[h1,h3,h4,m1,e1,Kv,eE,seval];exact⟨v.list.length-(i+1),by omega,_,_,i+1,rfl,rfl,by omega,(by first|rfl|exact h1|simp only[h1,eE,seval]),(by dsimp only;rw[Eh hi];simp only[h3,Kv,←QoE,Qmr,eE,seval]),(by first|rfl|simp only[eE,seval]),(by first|rfl|exact m1'|simp only[m1',eE,seval])⟩
 have e:i=v.list.length:=by omega
 subst e;rw[Qn9]at h3;simp only[QI hlt,h1,h3,h4,m1,eE,seval];refine Qk (IH v 5 v.pairs.length fun i=>v.text.length+HA v.list+Ge (v.pairs.take i)) _ ⟨_,_,0,rfl,rfl,QmE _,(by first|rfl|exact h1|simp only[h1,eE,seval]),(by simp only[QnF,Ge,Qm2,h3,eE,seval]),(by first|rfl|simp only[eE,seval]),(by first|rfl|exact m1'|simp only[m1',eE,seval])⟩ ?_;clear h1 h3 h4 m1 m1' hlt hil;rintro _ st ⟨f,fr,i,rfl,rfl,hil,h1,h3,h5,m1⟩;dsimp only at h3;have m1':=m1;simp only[vc]at m1;simp only[Qnq,h1,h3,h5,m1,eE,seval];by_cases hlt:i<v.pairs.length
 ·obtain⟨x,hi⟩:∃x,v.pairs[i]? = some x:=⟨v.pairs[i],Qmv hlt⟩;have hg:=WG hi;have e1:=Qw i _ hlt (by simp only[maxLen];omega);have hm:=QmJ hi;have c1:=(hp x hm).1 (hv.keys x hm);have c2:=(hp x hm).2 (hv.vals x hm);rw[Qe]at c1 c2;simp only[QD hlt,Qv,QnY,Qf,hg,Qm4,QnF,Qm7,Qnd,h1,h3,h5,m1,eE,seval];refine aC c1 ?_;simp only[Qv,QnY,Qf,hg,Qm4,QnF,Qm7,Qnd,h1,h3,h5,m1,eE,seval];refine aC c2 ?_;simp only[h1,h3,h5,m1,e1,Kv,eE,seval];exact⟨v.pairs.length-(i+1),by omega,_,_,i+1,rfl,rfl,by omega,(by first|rfl|exact h1|simp only[h1,eE,seval]),(by dsimp only;rw[Ei hi];simp only[h3,Kv,←QoE,Qmr,eE,seval]),(by first|rfl|simp only[eE,seval]),(by first|rfl|exact m1'|simp only[m1',eE,seval])⟩
 have e:i=v.pairs.length:=by omega
 subst e;rw[Qn9]at h3;simp only[QI hlt,h1,h3,h5,m1,eE,seval];refine Qk (IH v 6 v.slots.length fun i=>v.text.length+HA v.list+Ge v.pairs+Dk (v.slots.take i)) _ ⟨_,_,0,rfl,rfl,QmE _,(by first|rfl|exact h1|simp only[h1,eE,seval]),(by simp only[QnF,Dk,Qm2,h3,eE,seval]),(by first|rfl|simp only[eE,seval]),(by first|rfl|exact m1'|simp only[m1',eE,seval])⟩ ?_;clear h1 h3 h5 m1 m1' hlt hil;rintro _ st ⟨f,fr,i,rfl,rfl,hil,h1,h3,h6,m1⟩;dsimp only at h3;have m1':=m1;simp only[vc]at m1;simp only[Qnq,h1,h3,h6,m1,eE,seval];by_cases hlt:i<v.slots.length
 ·obtain⟨x,hi⟩:∃x,v.slots[i]? = some x:=⟨v.slots[i],Qmv hlt⟩;have hg:=WH hi;have e1:=Qw i _ hlt (by simp only[maxLen];omega);have hm:=QmJ hi;have c1:=hs x hm (hv.slots x hm);rw[Qe]at c1;simp only[QD hlt,Qv,QnY,Qf,hg,Qm4,QnF,Qm7,Qnd,h1,h3,h6,m1,eE,seval];refine aC c1 ?_;simp only[h1,h3,h6,m1,e1,Kv,eE,seval];exact⟨v.slots.length-(i+1),by omega,_,_,i+1,rfl,rfl,by omega,(by first|rfl|exact h1|simp only[h1,eE,seval]),(by dsimp only;rw[Ej hi];simp only[h3,Kv,←QoE,Qmr,eE,seval]),(by first|rfl|simp only[eE,seval]),(by first|rfl|exact m1'|simp only[m1',eE,seval])⟩
 have e:i=v.slots.length:=by omega
 subst e;rw[Qn9]at h3;simp only[QI hlt,h1,h3,h6,m1,eE,seval];refine Qk (IH v 7 v.raws.length fun i=>v.text.length+HA v.list+Ge v.pairs+Dk v.slots+FR (v.raws.take i)) _ ⟨_,_,0,rfl,rfl,QmE _,(by first|rfl|exact h1|simp only[h1,eE,seval]),(by simp only[QnF,FR,Qm2,h3,eE,seval]),(by first|rfl|simp only[eE,seval]),(by first|rfl|exact m1'|simp only[m1',eE,seval])⟩ ?_;clear h1 h3 h6 m1 m1' hlt hil;rintro _ st ⟨f,fr,i,rfl,rfl,hil,h1,h3,h7,m1⟩;dsimp only at h3;have m1':=m1;simp only[vc]at m1;simp only[Qnq,h1,h3,h7,m1,eE,seval];by_cases hlt:i<v.raws.length
 ·obtain⟨x,hi⟩:∃x,v.raws[i]? = some x:=⟨v.raws[i],Qmv hlt⟩;have hg:=Ry hi;have e1:=Qw i _ hlt (by simp only[maxLen];omega);simp only[QD hlt,Qv,QnY,Qf,hg,h1,h3,h7,m1,e1,M0,eE,seval];exact⟨v.raws.length-(i+1),by omega,_,_,i+1,rfl,rfl,by omega,(by first|rfl|exact h1|simp only[h1,eE,seval]),(by dsimp only;rw[Eg hi];simp only[h3,M0,←QoE,Qmr,eE,seval]),(by first|rfl|simp only[eE,seval]),(by first|rfl|exact m1'|simp only[m1',eE,seval])⟩
 have e:i=v.raws.length:=by omega
 subst e;rw[Qn9]at h3;simp only[QI hlt,h1,h3,h7,m1,Qgb,eE,seval]

end
end Go.Proofs.YtkhpgmeokilhaaaGreatDoor.Va

namespace Go.Proofs.YtkhpgmeokilhaaaGreatDoor.So

section
variable {α:Type}

def Ja (lt:α→α→Bool)(a:α):List α→List α
 | []=>[a]
 |x :: l=>bif lt x a then x :: Ja lt a l else a :: x :: l

def QF (lt:α→α→Bool):List α→List α
 | []=>[]
 |a :: l=>Ja lt a (QF lt l)

def mg (lt:α→α→Bool):List α→List α→List α
 | [],Y=>Y
 |x :: X,[]=>x :: X
 |x :: X,y :: Y=>bif lt y x then y :: mg lt (x :: X) Y else x :: mg lt X (y :: Y)
termination_by X Y=>X.length+Y.length

structure SW (lt:α→α→Bool):Prop where
 irr:∀x,lt x x=false
 tr:∀x y z,lt x y=true→lt y z=true→lt x z=true
 nt:∀x y z,lt x y=false→lt y z=false→lt x z=false

variable {lt:α→α→Bool}

theorem SW.as (h:SW lt){x y:α}(hx:lt x y=true):lt y x=false:=by
 cases hy:lt y x with
 |false=>rfl
 |true=>
  have:=h.tr x y x hx hy;rw[h.irr]at this;cases this

theorem JW (X:List α):mg lt X []=X:=by cases X<;>simp[mg]
theorem Jy (Y:List α):mg lt [] Y=Y:=by simp[mg]
theorem YL {x y:α}{X Y:List α}(h:lt y x=true):mg lt (x :: X) (y :: Y)=y :: mg lt (x :: X) Y:=by rw[mg,h];rfl
theorem Us {x y:α}{X Y:List α}(h:lt y x=false):mg lt (x :: X) (y :: Y)=x :: mg lt X (y :: Y):=by rw[mg,h];rfl
theorem Ud {a x:α}{l:List α}(h:lt x a=true):Ja lt a (x :: l)=x :: Ja lt a l:=by rw[Ja,h];rfl
theorem Ue {a x:α}{l:List α}(h:lt x a=false):Ja lt a (x :: l)=a :: x :: l:=by rw[Ja,h];rfl

theorem TB (a:α):∀Y:List α,mg lt [a] Y=Ja lt a Y
 | []=>by rw[JW];rfl
 |y :: Y=>by
  cases h:lt y a with
  |true=>rw[YL h,Ud h,TB a Y]
  |false=>rw[Us h,Ue h,Jy]

theorem Qd8 (h:SW lt)(a:α):∀(n:Nat) (X Y:List α),X.length+Y.length=n→mg lt (Ja lt a X) Y=Ja lt a (mg lt X Y):=by
 intro n
 induction n using Nat.strongRecOn with
 |_ n ih=>
 intro X Y hn;cases X with
 |nil=>
  show mg lt [a] Y=Ja lt a (mg lt [] Y);rw[Jy,TB]
 |cons x X=>
  cases Y with
  |nil=>rw[JW,JW]
  |cons y Y=>
   simp only[QmK]at hn;cases hxa:lt x a with
   |false=>
    have hi:Ja lt a (x :: X)=a :: x :: X:=Ue hxa;cases hya:lt y a with
    |true=>
     cases hyx:lt y x with
     |true=>
      have i:=ih (n-1) (by omega) (x :: X) Y (by simp only[QmK];omega);rw[hi]at i ⊢;rw[YL hya,YL hyx,Ud hya,i]
     |false=>
      have:=h.nt y x a hyx hxa;rw[hya]at this;cases this
    |false=>
     rw[hi,Us hya];cases hyx:lt y x with
     |true=>rw[YL hyx,Ue hya]
     |false=>rw[Us hyx,Ue hxa]
   |true=>
    have hi:Ja lt a (x :: X)=x :: Ja lt a X:=Ud hxa;cases hyx:lt y x with
    |true=>
     have i:=ih (n-1) (by omega) (x :: X) Y (by simp only[QmK];omega);rw[hi]at i ⊢;rw[YL hyx,YL hyx,Ud (h.tr y x a hyx hxa),i]
    |false=>
     have i:=ih (n-1) (by omega) X (y :: Y) (by simp only[QmK];omega);rw[hi,Us hyx,Us hyx,Ud hxa,i]

theorem Hg (h:SW lt):∀A B:List α,mg lt (QF lt A) (QF lt B)=QF lt (A++B)
 | [],B=>Jy _
 |a :: A,B=>by
  show mg lt (Ja lt a (QF lt A)) (QF lt B)=Ja lt a (QF lt (A++B));rw[Qd8 h a _ _ _ rfl,Hg h A B]

theorem YM:∀(n:Nat) (X1 Y1 X2 Y2:List α),X1.length+Y1.length=n→(∀y∈Y1,∀x∈X2,lt y x=true)→(∀x∈X1,∀y∈Y2,lt y x=false)→
  mg lt (X1++X2) (Y1++Y2)=mg lt X1 Y1++mg lt X2 Y2:=by
 intro n
 induction n using Nat.strongRecOn with
 |_ n ih=>
 intro X1 Y1 X2 Y2 hn h1 h2;cases X1 with
 |nil=>
  cases Y1 with
  |nil=>rw[Jy];rfl
  |cons y Y1=>
   cases X2 with
   |nil=>simp[Jy]
   |cons x X2=>
    simp only[QmK,Qnr]at hn;have i:=ih (n-1) (by omega) [] Y1 (x :: X2) Y2 (by simp only[Qnr];omega) (fun z hz=>h1 z (QmL _ hz)) h2;simp only[QmS,QmR,Jy]at i ⊢;rw[YL (h1 y (by simp) x (by simp)),i]
 |cons x X1=>
  simp only[QmK]at hn;cases Y1 with
  |nil=>
   cases Y2 with
   |nil=>simp[JW]
   |cons y Y2=>
    have i:=ih (n-1) (by omega) X1 [] X2 (y :: Y2) (by simp only[Qnr]at hn ⊢;omega) h1 (fun z hz=>h2 z (QmL _ hz));simp only[QmS,QmR,JW]at i ⊢;rw[Us (h2 x (by simp) y (by simp)),i]
  |cons y Y1=>
   simp only[QmK]at hn;simp only[QmR];cases hyx:lt y x with
   |true=>
    have i:=ih (n-1) (by omega) (x :: X1) Y1 X2 Y2 (by simp only[QmK];omega) (fun z hz=>h1 z (QmL _ hz)) h2;simp only[QmR]at i;rw[YL hyx,YL hyx,i];rfl
   |false=>
    have i:=ih (n-1) (by omega) X1 (y :: Y1) X2 Y2 (by simp only[QmK];omega) h1 (fun z hz=>h2 z (QmL _ hz));simp only[QmR]at i;rw[Us hyx,Us hyx,i];rfl

theorem Qba {x:α}{Y1 Y2:List α}(h1:∀y∈Y1,lt y x=true)(h2:∀y∈Y2,lt y x=false):mg lt [x] (Y1++Y2)=Y1++x :: Y2:=by
 have a:=YM (lt:=lt) _ [] Y1 [x] Y2 rfl (fun y hy z hz=>by rw[QoG.1 hz];exact h1 y hy) (by simp);have b:=YM (lt:=lt) _ [x] [] [] Y2 rfl (by simp) (fun z hz y hy=>by rw[QoG.1 hz];exact h2 y hy);simp only[QmS,Qnz,Jy,JW]at a b;rw[a,b];rfl

theorem DJ {y:α}{X1 X2:List α}(h1:∀x∈X1,lt y x=false)(h2:∀x∈X2,lt y x=true):mg lt (X1++X2) [y]=X1++y :: X2:=by
 have a:=YM (lt:=lt) _ X1 [y] X2 [] rfl (fun z hz x hx=>by rw[QoG.1 hz];exact h2 x hx) (by simp);have b:=YM (lt:=lt) _ X1 [] [] [y] rfl (by simp) (fun x hx z hz=>by rw[QoG.1 hz];exact h1 x hx);simp only[QmS,Qnz,Jy,JW]at a b;rw[a,b];simp

def Zs (lt:α→α→Bool)(l:List α):Prop:=l.Pairwise fun x y=>lt y x=false

theorem BR {a z:α}:∀ {l:List α},z∈Ja lt a l→z=a∨z∈l
 | [],h=>.inl (QoG.1 h)
 |x :: l,h=>by
  cases hx:lt x a with
  |true=>
   rw[Ud hx]at h;rcases QnS.1 h with rfl|h
   ·exact .inr QmN
   ·rcases BR h with h|h
    ·exact .inl h
    ·exact .inr (QmL _ h)
  |false=>
   rw[Ue hx]at h;rcases QnS.1 h with rfl|h
   ·exact .inl rfl
   ·exact .inr h

theorem Gf {z:α}:∀ {l:List α},z∈QF lt l→z∈l
 | [],h=>h
 |a :: l,h=>by
  rcases BR (l:=QF lt l) h with rfl|h
  ·exact QmN
  ·exact QmL _ (Gf h)

theorem M2 (h:SW lt)(a:α):∀ {l:List α},Zs lt l→Zs lt (Ja lt a l)
 | [],_=>QoH _ _
 |x :: l,hs=>by
  obtain⟨h1,h2⟩:=Qn5.1 hs;cases hx:lt x a with
  |true=>
   rw[Ud hx];refine Qn5.2 ⟨fun z hz=>?_,M2 h a h2⟩;rcases BR hz with rfl|hz
   ·exact h.as hx
   ·exact h1 z hz
  |false=>
   rw[Ue hx];refine Qn5.2 ⟨fun z hz=>?_,hs⟩;rcases QnS.1 hz with rfl|hz
   ·exact hx
   ·exact h.nt z x a (h1 z hz) hx

theorem Zt (h:SW lt):∀l:List α,Zs lt (QF lt l)
 | []=>List.Pairwise.nil
 |a :: l=>M2 h a (Zt h l)

theorem M3 (a:α):∀l:List α,(Ja lt a l).length=l.length+1
 | []=>rfl
 |x :: l=>by
  cases hx:lt x a with
  |true=>rw[Ud hx,QmK,M3 a l,QmK]
  |false=>rw[Ue hx];rfl

theorem JX:∀l:List α,(QF lt l).length=l.length
 | []=>rfl
 |a :: l=>by show(Ja lt a (QF lt l)).length=_;rw[M3,JX l];rfl

theorem Qd9:∀(n:Nat) (X Y:List α),X.length+Y.length=n→(mg lt X Y).length=n:=by
 intro n
 induction n using Nat.strongRecOn with
 |_ n ih=>
 intro X Y hn;cases X with
 |nil=>rw[Jy];simpa using hn
 |cons x X=>
  cases Y with
  |nil=>rw[JW];simpa using hn
  |cons y Y=>
   simp only[QmK]at hn;cases hyx:lt y x with
   |true=>
    rw[YL hyx,QmK,ih (n-1) (by omega) (x :: X) Y (by simp only[QmK];omega)];omega
   |false=>
    rw[Us hyx,QmK,ih (n-1) (by omega) X (y :: Y) (by simp only[QmK];omega)];omega

theorem Qea {z:α}:∀(n:Nat) (X Y:List α),X.length+Y.length=n→z∈mg lt X Y→z∈X∨z∈Y:=by
 intro n
 induction n using Nat.strongRecOn with
 |_ n ih=>
 intro X Y hn hz;cases X with
 |nil=>rw[Jy]at hz;exact .inr hz
 |cons x X=>
  cases Y with
  |nil=>rw[JW]at hz;exact .inl hz
  |cons y Y=>
   simp only[QmK]at hn;cases hyx:lt y x with
   |true=>
    rw[YL hyx]at hz;rcases QnS.1 hz with rfl|hz
    ·exact .inr QmN
    ·exact(ih (n-1) (by omega) (x :: X) Y (by simp only[QmK];omega) hz).imp id (QmL _)
   |false=>
    rw[Us hyx]at hz;rcases QnS.1 hz with rfl|hz
    ·exact .inl QmN
    ·exact(ih (n-1) (by omega) X (y :: Y) (by simp only[QmK];omega) hz).imp (QmL _) id

theorem WI (h:SW lt){l:List α}(hs:Zs lt l){i j:Nat}{u v x:α}(hij:i≤j)(hi:l[i]? = some u)(hj:l[j]? = some v)(hv:lt v x=true):lt u x=true:=by
 rcases Nat.lt_or_eq_of_le hij with hlt|rfl
 ·obtain⟨h1,rfl⟩:=Qmu.1 hi;obtain⟨h2,rfl⟩:=Qmu.1 hj;have:=QoI.1 hs i j h1 h2 hlt;cases hu:lt l[i] x with
  |true=>rfl
  |false=>
   have:=h.nt _ _ _ this hu;rw[hv]at this;cases this
 ·rw[hi]at hj;cases hj;exact hv

theorem UG {l:List α}(hs:Zs lt l)(h:SW lt){i j:Nat}{u v:α}(hij:i≤j)(hi:l[i]? = some u)(hj:l[j]? = some v):lt v u=false:=by
 rcases Nat.lt_or_eq_of_le hij with hlt|rfl
 ·obtain⟨h1,rfl⟩:=Qmu.1 hi;obtain⟨h2,rfl⟩:=Qmu.1 hj;exact QoI.1 hs i j h1 h2 hlt
 ·rw[hi]at hj;cases hj;exact h.irr _

def Xk (lt:α→α→Bool)(s:Nat):Nat→List α→List α
 |0,_=>[]
 |n+1,l=>QF lt (l.take s)++Xk lt s n (l.drop s)

theorem BS (s:Nat):∀k,Xk lt s k []=[]
 |0=>rfl
 |k+1=>by rw[Xk,List.take_nil,QnL,BS s k];rfl

theorem GR (s:Nat):∀(k:Nat) (l:List α),(Xk lt s k l).length=min (s*k) l.length
 |0,l=>by simp[Xk]
 |k+1,l=>by
  rw[Xk,Qm9,JX,GR s k,Qns,Qnc,Nat.mul_succ];omega

theorem Yx {s:Nat}{z:α}:∀ {k:Nat} {l:List α},z∈Xk lt s k l→z∈l
 |0,l,h=>by cases h
 |k+1,l,h=>by
  rw[Xk]at h;rcases QnP.1 h with h|h
  ·exact Qnj (Gf h)
  ·exact Qni (Yx h)

theorem Hh (s:Nat):∀(k:Nat) (l:List α),Xk lt s (k+1) l=Xk lt s k l++QF lt ((l.drop (s*k)).take s)
 |0,l=>by simp[Xk]
 |k+1,l=>by
  rw[Xk,Hh s k (l.drop s),Xk,QmQ,Qm0,Nat.mul_succ,Nat.add_comm s (s*k)]

theorem M4 {s k:Nat}{l:List α}(h:l.length≤s)(hk:l.length≤s*k):Xk lt s k l=QF lt l:=by
 cases k with
 |zero=>
  have:l=[]:=QnB (by omega);subst this;rfl
 |succ k=>rw[Xk,Qm5 h,Qm8 h,BS,Qnz]

theorem Ek (s:Nat)(l:List α):l.take s++(l.drop s).take s=l.take (2*s):=by
 rw[show 2*s=s+s by omega,List.take_add]

end

end Go.Proofs.YtkhpgmeokilhaaaGreatDoor.So

namespace Go.Proofs.YtkhpgmeokilhaaaGreatDoor.Va
open Go Am Rc Bt

def Dl (b:Nat):Nat :=
 let z:=b % 9223372036854775808
 if z > 9218868437227405312 then 0 else if z=9218868437227405312 then 1 else if z=0 then 2 else if z<4503599627370496 then 3 else 4

theorem TC (b:Nat):b &&& 4503599627370495=b % 4503599627370496:=Nat.and_two_pow_sub_one_eq_mod b 52
theorem TD (b:Nat):b &&& 9218868437227405312=(b / 4503599627370496 % 2048)*4503599627370496:=by
 have h1:(9218868437227405312:Nat)=2047 <<< 52:=by decide
 have h2:(b / 4503599627370496 % 2048)*4503599627370496=(b >>> 52 % 2 ^ 11) <<< 52:=by
  rw[Nat.shiftLeft_eq,Nat.shiftRight_eq_div_pow]
 rw[h1,h2]
 apply Nat.eq_of_testBit_eq
 intro i;rw[Nat.testBit_and,Nat.testBit_shiftLeft,Nat.testBit_shiftLeft,Nat.testBit_mod_two_pow,Nat.testBit_shiftRight,show(2047:Nat)=2 ^ 11-1 by decide,Nat.testBit_two_pow_sub_one];by_cases h:i≥52
 ·rw[show 52+(i-52)=i by omega];simp[h,Bool.and_comm]
 ·simp[h]

theorem QjY (b:Nat)(hb:b<18446744073709551616):Qi Tryz.prog 202 [.int .u64 (b:Nat)] (.int .i64 (Dl b:Nat)):=by
 refine wF Tryz.func202 ?_;simp only[eK,Tryz.f202,seval];have a1:bits .and .u64 (b:Int) 9218868437227405312=(((b / 4503599627370496 % 2048)*4503599627370496:Nat):Int):=by
  have:=Uy b 9218868437227405312 hb (by decide);rw[TD]at this;exact this
 have a2:bits .and .u64 (b:Int) 4503599627370495=((b % 4503599627370496:Nat):Int):=by
  have:=Uy b 4503599627370495 hb (by decide);rw[TC]at this;exact this
 simp only[a1,a2,Qa,seval];unfold Dl
 repeat' (first|(refine QW (fun h=>?_) (fun h=>?_)<;>simp only[h,Qa,seval])|(refine XM (fun h=>?_) (fun h=>?_)<;>simp only[h,Qj,Qa,seval])|(refine XN (fun h=>?_) (fun h=>?_)<;>simp only[h,Qj,eE,seval]))
 all_goals(simp only[QmA,QmY,bne_eq_false_iff_eq,Qoi,ne_eq]at *)
 all_goals((repeat' split)<;>first|rfl|(exfalso;omega))

def XB (k:Int)(b:Nat):Nat:=if k=6∧Dl b=0 then 9221120237041090560 else b

theorem Qeb (b:Nat):((Dl b:Int)==0)=decide (Dl b=0):=by
 rw[Qnp,QmA,Qmz];omega

open Br Up So

section sorting
variable {α:Type}{lt:α→α→Bool}
theorem Cc (a:α):∀l:List α,(Ja lt a l).Perm (a :: l)
 | []=>.refl _
 |x :: l=>by
  rw[Ja];cases lt x a
  ·exact .refl _
  ·exact((Cc a l).cons x).trans (.swap a x l)
theorem Q0:∀l:List α,(QF lt l).Perm l
 | []=>.refl _
 |a :: l=>(Cc a _).trans ((Q0 l).cons a)
theorem DK:∀ {l:List α},Zs lt l→QF lt l=l
 | [],_=>rfl
 |a :: l,h=>by
  obtain⟨h1,h2⟩:=Qn5.1 h;rw[QF,DK h2];cases l with
  |nil=>rfl
  |cons x l=>exact Ue (h1 x (by simp))
end sorting

theorem Hi:∀ {a b c:List UInt8},Op.bytesLess a b=true→Op.bytesLess b c=true→Op.bytesLess a c=true
 |a,b,[],_,h=>by cases b<;>simp[Op.bytesLess]at h
 | [],_,_ :: _,_,_=>by simp[Op.bytesLess]
 |x :: a,[],_ :: _,h,_=>by simp[Op.bytesLess]at h
 |x :: a,y :: b,z :: c,h,k=>by
  simp only[Op.bytesLess,Qmy,QmT,Qmz,QmA]at h k ⊢;rcases h with h|⟨h1,h2⟩<;>rcases k with k|⟨k1,k2⟩
  ·exact .inl (UInt8.lt_trans h k)
  ·subst k1;exact .inl h
  ·subst h1;exact .inl k
  ·subst h1 k1;exact .inr ⟨rfl,Hi h2 k2⟩
theorem Gg:∀ {a b:List UInt8},Op.bytesLess a b=false→Op.bytesLess b a=false→a=b
 | [],[],_,_=>rfl
 | [],_ :: _,h,_=>by simp[Op.bytesLess]at h
 |_ :: _,[],_,h=>by simp[Op.bytesLess]at h
 |x :: a,y :: b,h,k=>by
  simp only[Op.bytesLess,Qno,Qoy,Qov,Qoi]at h k;have e:x=y:=by
   rcases Nat.lt_trichotomy x.toNat y.toNat with g|g|g
   ·exact absurd (UInt8.lt_iff_toNat_lt.2 g) h.1
   ·exact UInt8.toNat_inj.1 g
   ·exact absurd (UInt8.lt_iff_toNat_lt.2 g) k.1
  subst e;rw[Gg (h.2.resolve_left fun g=>g rfl) (k.2.resolve_left fun g=>g rfl)]
theorem Uf:∀a:List UInt8,Op.bytesLess a a=false
 | []=>rfl
 |x :: a=>by simp[Op.bytesLess,Uf a]

def kl (k:Int)(a b:V):Bool :=
 if Zh k=true then Op.bytesLess a.text b.text else if (k==2||k==3)=true then decide (IntKind.i64.wrap (a.bits:Int)<IntKind.i64.wrap (b.bits:Int))else decide ((a.bits:Int)<(b.bits:Int))
theorem Ym (k:Int):SW fun x y:V×V=>kl k x.1 y.1 where
 irr x:=by
  unfold kl;split
  ·exact Uf _
  ·split<;>simp
 tr x y z h g:=by
  unfold kl at *;split
  ·rename_i ht;rw[QmD ht]at h g;exact Hi h g
  ·rename_i ht;rw[QmC ht]at h g;split
   ·rename_i hs;rw[QmD hs]at h g;simp only[Qmz]at *;omega
   ·rename_i hs;rw[QmC hs]at h g;simp only[Qmz]at *;omega
 nt x y z h g:=by
  unfold kl at *;split
  ·rename_i ht;rw[QmD ht]at h g;cases hc:Op.bytesLess x.1.text z.1.text with
   |false=>rfl
   |true=>
    cases hy:Op.bytesLess y.1.text x.1.text with
    |true=>rw[Hi hy hc]at g;cases g
    |false=>
     rw[Gg h hy]at hc;rw[hc]at g;cases g
  ·rename_i ht;rw[QmC ht]at h g;split
   ·rename_i hs;rw[QmD hs]at h g;simp only[Qov]at *;omega
   ·rename_i hs;rw[QmC hs]at h g;simp only[Qov]at *;omega

def Xc (k:Int)(l:List (V×V)):List (V×V):=QF (fun x y=>kl k x.1 y.1) l
def Wk (l:List R):List R:=QF (fun x y=>decide (x.num<y.num)) l
theorem QjZ:SW fun x y:R=>decide (x.num<y.num) where
 irr x:=by simp
 tr x y z h k:=by simp only[Qmz]at *;omega
 nt x y z h k:=by simp only[Qov]at *;omega

def _root_.Go.Proofs.YtkhpgmeokilhaaaGreatDoor.Br.V.nsc (v:V):V:=.mk v.kd (XB v.kd v.bits) v.text v.list v.pairs v.slots v.raws
def _root_.Go.Proofs.YtkhpgmeokilhaaaGreatDoor.Br.V.emp (v:V):Bool:=Va.emp v.kd v.bits v.text (v.list.map V.av) (v.pairs.map V.pav) (v.slots.map V.sav) (v.raws.map R.av)

section
variable (nm:PG→V→V)(P:PL)
def ZD (o:PO)(v:V):V:=if o.kind=10 then nm (Qq P o.target) v else v.nsc
def Zy (o:PO)(v:V):V :=
 if o.card=4 then .mk 11 0 [] (v.list.map (ZD nm P o)) [] [] []else if o.card=5 then .mk 12 0 [] [] ((Xc o.key v.pairs).map fun p=>(p.1.nsc,ZD nm P o p.2)) [] []else ZD nm P o v
def Xj (sl:List (Int×V))(o:PO):List (Int×V):=match sl.find? (fun s=>s.1==o.num)with
 |none=>[]
 |some s=>if (decide (o.card<3) || !(Zy nm P o s.2).emp)=true then [(o.num,Zy nm P o s.2)]else []
def Ut (g:PG)(v:V):V:=.mk 10 0 [] [] [] (g.ops.flatMap (Xj nm P v.slots)) (Wk v.raws)
end
def Zb (P:PL):Nat→PG→V→V
 |0,_,v=>v
 |n+1,g,v=>Ut (Zb P n) P g v

theorem M5 (v:V):v.nsc.cnt=v.cnt:=by
 rw[Q1,Q1 v];rfl
theorem Cd {f:V→V}(h:∀v,(f v).cnt≤v.cnt):∀l:List V,Q9 (l.map f)≤Q9 l
 | []=>Qms _
 |x :: l=>by
  have:=h x;have:=Cd h l;simp only[Qm3,Q9];omega
theorem Ce {f g:V→V}(h:∀v,(f v).cnt≤v.cnt)(k:∀v,(g v).cnt≤v.cnt):∀l:List (V×V),Xi (l.map fun p=>(f p.1,g p.2))≤Xi l
 | []=>Qms _
 |(a,b) :: l=>by
  have:=h a;have:=k b;have:=Ce h k l;simp only[Qm3,Xi];omega
theorem Nv {a b:List (V×V)}(h:a.Perm b):Xi a=Xi b:=by
 induction h with
 |nil=>rfl
 |cons x _ ih=>obtain⟨p,q⟩:=x;simp only[Xi,ih]
 |swap x y l=>obtain⟨p,q⟩:=x;obtain⟨r,s⟩:=y;simp only[Xi];omega
 |trans _ _ h1 h2=>rw[h1,h2]
theorem DL (a b:List (Int×V)):Xg (a++b)=Xg a+Xg b:=by
 induction a with
 |nil=>simp[Xg]
 |cons x a ih=>obtain⟨n,v⟩:=x;simp only[QmR,Xg,ih];omega

theorem BT {nm:PG→V→V}{P:PL}(h:∀t v,(nm (Qq P t) v).cnt≤v.cnt)(o:PO)(v:V):(ZD nm P o v).cnt≤v.cnt:=by
 unfold ZD;split
 ·exact h _ _
 ·rw[M5];exact Qms _
theorem M6 {nm:PG→V→V}{P:PL}(h:∀t v,(nm (Qq P t) v).cnt≤v.cnt)(o:PO)(v:V):(Zy nm P o v).cnt≤v.cnt:=by
 unfold Zy;split
 ·have:=Cd (BT (P:=P) h o) v.list;rw[Q1,Q1 v];simp only[V.raws,V.list,V.pairs,V.slots,Qnr,Xi,Xg];simp only[V.list]at this;omega
 ·split
  ·have h1:=Ce (f:=V.nsc) (g:=ZD nm P o) (fun v=>by rw[M5];exact Qms _) (BT (P:=P) h o) (Xc o.key v.pairs);have h2:Xi (Xc o.key v.pairs)=Xi v.pairs:=Nv (Q0 _);rw[Q1,Q1 v];simp only[V.raws,V.list,V.pairs,V.slots,Qnr,Q9,Xg];simp only[V.pairs]at h1 h2;omega
  ·exact BT h o v

def wS (sl:List (Int×V))(n:Int):Nat:=Xg (sl.filter fun s=>s.1==n)
theorem Qec (ops:List PO)(hd:ops.Pairwise fun a b=>a.num<b.num)(n:Int)(w:Nat):(ops.map fun o=>if n=o.num then w else 0).sum≤w:=by
 induction ops with
 |nil=>simp
 |cons o ops ih=>
  obtain⟨h1,h2⟩:=Qn5.1 hd;simp only[Qm3,QoJ];by_cases e:n=o.num
  ·have:(ops.map fun o=>if n=o.num then w else 0).sum=0:=by
    have:∀l:List PO,(∀x∈l,n≠x.num)→(l.map fun o=>if n=o.num then w else 0).sum=0:=by
     intro l
     induction l with
     |nil=>intro _;rfl
     |cons x l ih=>
      intro h;rw[Qm3,QoJ,QmC (h x (by simp)),ih fun y hy=>h y (by simp[hy])]
    exact this ops fun x hx=>by have:=h1 x hx;omega
   rw[QmD e,this];omega
  ·rw[QmC e];have:=ih h2;omega
theorem Qed (ops:List PO)(hd:ops.Pairwise fun a b=>a.num<b.num)(sl:List (Int×V)):(ops.map fun o=>wS sl o.num).sum≤Xg sl:=by
 induction sl with
 |nil=>
  have:∀l:List PO,(l.map fun o=>wS [] o.num).sum=0:=by
   intro l
   induction l with
   |nil=>rfl
   |cons x l ih=>rw[Qm3,QoJ,ih];rfl
  rw[this];exact QmE _
 |cons s sl ih=>
  obtain⟨n,v⟩:=s;have h1:=Qec ops hd n v.cnt;have h2:∀l:List PO,(l.map fun o=>wS ((n,v) :: sl) o.num).sum=(l.map fun o=>if n=o.num then v.cnt else 0).sum+(l.map fun o=>wS sl o.num).sum:=by
   intro l
   induction l with
   |nil=>rfl
   |cons o l ih=>
    simp only[Qm3,QoJ,ih];have:wS ((n,v) :: sl) o.num=(if n=o.num then v.cnt else 0)+wS sl o.num:=by
     unfold wS;by_cases e:n=o.num
     ·rw[List.filter_cons_of_pos (by simpa using e),QmD e,Xg]
     ·rw[List.filter_cons_of_neg (by simpa using e),QmC e,QmU]
    omega
  rw[h2,Xg];omega

theorem Qbb {sl:List (Int×V)}{n:Int}{s:Int×V}(h:sl.find? (fun s=>s.1==n)=some s):s.2.cnt≤wS sl n:=by
 unfold wS
 induction sl with
 |nil=>cases h
 |cons x sl ih=>
  obtain⟨m,v⟩:=x;rw[Qon]at h;by_cases e:m=n
  ·have hb:((m,v).1==n)=true:=by simpa using e
   rw[hb]at h;cases h;rw[List.filter_cons_of_pos (by simpa using e),Xg];exact Nat.le_add_right _ _
  ·have hb:((m,v).1==n)=false:=by simpa using e
   rw[hb]at h;rw[List.filter_cons_of_neg (by simpa using e)];exact ih h

theorem Em {nm:PG→V→V}{P:PL}(h':∀t v,(nm (Qq P t) v).cnt≤v.cnt)(g:PG)(hd:g.ops.Pairwise fun a b=>a.num<b.num)(v:V):(Ut nm P g v).cnt≤v.cnt:=by
 have h1:Xg (g.ops.flatMap (Xj nm P v.slots))≤(g.ops.map fun o=>wS v.slots o.num).sum:=by
  clear hd
  induction g.ops with
  |nil=>exact Qms _
  |cons o l ih=>
   have:Xg (Xj nm P v.slots o)≤wS v.slots o.num:=by
    unfold Xj;cases hf:v.slots.find? (fun s=>s.1==o.num)with
    |none=>exact QmE _
    |some s=>
     have a:=Qbb hf;have b:=M6 (P:=P) h' o s.2;dsimp only;split
     ·simp only[Xg];omega
     ·exact QmE _
   rw[Qn0,DL,Qm3,QoJ];omega
 have h2:=Qed g.ops hd v.slots;have h3:(Wk v.raws).length=v.raws.length:=(Q0 _).length_eq;rw[Q1,Q1 v];simp only[Ut,V.raws,V.list,V.pairs,V.slots,Q9,Xi]at *;omega

def ZG (P:PL):Prop:=∀g∈P.progs,g.ops.Pairwise fun a b=>a.num<b.num
theorem W4 {P:PL}(h:ZG P)(t:Int):(Qq P t).ops.Pairwise fun a b=>a.num<b.num:=by
 unfold Qq;cases hg:P.progs[t.toNat]? with
 |none=>exact .nil
 |some g=>exact h g (QmJ hg)

theorem Yy {P:PL}(h:ZG P):∀(n:Nat) (g:PG),(g.ops.Pairwise fun a b=>a.num<b.num)→∀v:V,(Zb P n g v).cnt≤v.cnt
 |0,_,_,_=>Qms _
 |n+1,g,hg,v=>Em (fun t v=>Yy h n _ (W4 h t) v) g hg v

theorem UH {f:Nat→Int}:∀ {k i:Nat},(∀j,i≤j→j<i+k→f j=0)→Zi f k i=0
 |0,_,_=>rfl
 |k+1,i,h=>by
  rw[Zi,QmD (h i (Qms _) (by omega))];exact UH fun j h1 h2=>h j (by omega) (by omega)

theorem KU {α:Type}{l:List α}{p:α→Bool}{i:Nat}(hi:i≤l.length):(l.take i).any p=false↔∀j (h:j<i),p (l[j]'(by omega))=false:=by
 rw[List.any_eq_false]
 constructor
 ·intro h j hj;have:=h (l[j]'(by omega)) (QmJ (i:=j) (by rw[Qna,QmD hj,Qmv (by omega)]))
  simpa using this
 ·intro h x hx;obtain⟨j,hj⟩:=QmH.1 hx;have hl:=(Qmu.1 hj).1;rw[Qns]at hl;rw[Qna,QmD (by omega)]at hj;obtain⟨hj1,rfl⟩:=Qmu.1 hj;have:=h j (by omega);simp[this]

section
variable {m:PG→V→Int}{P:PL}

def SOK (m:PG→V→Int)(P:PL)(g:PG)(sl:List (Int×V)):Prop :=
 (∀x∈sl,∃o,Xq g x.1=some o∧XX m P o x.2=0)∧sl.Pairwise (fun y x=>(y.1==x.1)=false)∧sl.Pairwise (fun y x=>∀o,Xq g x.1=some o→WF g o y=false)

theorem Qbc {g:PG}{sl:List (Int×V)}:Zi (Z1 m P g sl) sl.length 0=0↔SOK m P g sl:=by
 have key:∀i (hi:i<sl.length),Z1 m P g sl i=0↔∃o,Xq g sl[i].1=some o∧(sl.take i).any (fun y=>y.1==sl[i].1)=false∧(sl.take i).any (WF g o)=false∧XX m P o sl[i].2=0:=by
  intro i hi;unfold Z1;rw[Qmv hi];dsimp only;cases Xq g sl[i].1 with
  |none=>simp
  |some o=>
   simp only[QmW,exists_eq_left'];cases(sl.take i).any (fun y=>y.1==sl[i].1)<;>cases(sl.take i).any (WF g o)<;>simp only[QmO,QoB,if_true,if_false,Qnm,false_and,iff_false]<;>omega
 constructor
 ·intro h;have hz:∀i (hi:i<sl.length),_:=fun i hi=>(key i hi).1 (JV h i (QmE _) (by omega))
  refine⟨fun x hx=>?_,?_,?_⟩
  ·obtain⟨i,hi,rfl⟩:=QoK hx;obtain⟨o,h1,_,_,h4⟩:=hz i hi;exact⟨o,h1,h4⟩
  ·rw[QoI];intro i j hi hj hij;obtain⟨o,_,h2,_,_⟩:=hz j hj;exact(KU (by omega)).1 h2 i hij
  ·rw[QoI];intro i j hi hj hij o ho;obtain⟨o',h1,_,h3,_⟩:=hz j hj;rw[h1]at ho;cases ho;exact(KU (by omega)).1 h3 i hij
 ·rintro⟨h1,h2,h3⟩;refine UH fun i _ hi=>?_
  rw[QmU]at hi;obtain⟨o,ho,hf⟩:=h1 sl[i] (Qnn hi);rw[QoI]at h2 h3;exact(key i hi).2 ⟨o,ho,(KU (by omega)).2 fun j hj=>h2 j i (by omega) hi hj,(KU (by omega)).2 fun j hj=>h3 j i (by omega) hi hj o ho,hf⟩

def EOK (m:PG→V→Int)(P:PL)(o:PO)(ps:List (V×V)):Prop :=
 (∀x∈ps,x.1.one P o.key (-1)=0∧Q5 m P o x.2=0)∧ps.Pairwise fun q p=>Xz q.1 p.1=false

theorem Yz {o:PO}{ps:List (V×V)}:Zi (Ur m P o ps) ps.length 0=0↔EOK m P o ps:=by
 have key:∀i (hi:i<ps.length),Ur m P o ps i=0↔(ps[i].1.one P o.key (-1)=0∧(ps.take i).any (fun q=>Xz q.1 ps[i].1)=false∧Q5 m P o ps[i].2=0):=by
  intro i hi;rw[GN (Qmv hi)];by_cases hz:ps[i].1.one P o.key (-1)=0
  ·rw[QmD hz];cases(ps.take i).any (fun q=>Xz q.1 ps[i].1)<;>simp[hz]
  ·rw[QmC hz];simp[hz]
 constructor
 ·intro h;have hz:∀i (hi:i<ps.length),_:=fun i hi=>(key i hi).1 (JV h i (QmE _) (by omega))
  refine⟨fun x hx=>?_,?_⟩
  ·obtain⟨i,hi,rfl⟩:=QoK hx;exact⟨(hz i hi).1,(hz i hi).2.2⟩
  ·rw[QoI];intro i j hi hj hij;exact(KU (by omega)).1 (hz j hj).2.1 i hij
 ·rintro⟨h1,h2⟩;refine UH fun i _ hi=>?_
  rw[QmU]at hi;rw[QoI]at h2;exact(key i hi).2 ⟨(h1 _ (Qnn hi)).1,(KU (by omega)).2 fun j hj=>h2 j i (by omega) hi hj,(h1 _ (Qnn hi)).2⟩

theorem YA {o:PO}{l:List V}:Zi (DH m P o l) l.length 0=0↔∀x∈l,Q5 m P o x=0:=by
 constructor
 ·intro h x hx;obtain⟨i,hi,rfl⟩:=QoK hx;have:=JV h i (QmE _) (by omega)
  rwa [GP (Qmv hi)]at this
 ·intro h;refine UH fun i _ hi=>?_
  rw[QmU]at hi;rw[GP (Qmv hi)];exact h _ (Qnn hi)
theorem Qbd {g:PG}{l:List R}:Zi (Wj P g l) l.length 0=0↔∀x∈l,Wi P g x=0:=by
 constructor
 ·intro h x hx;obtain⟨i,hi,rfl⟩:=QoK hx;have:=JV h i (QmE _) (by omega)
  rwa [Hd (Qmv hi)]at this
 ·intro h;refine UH fun i _ hi=>?_
  rw[QmU]at hi;rw[Hd (Qmv hi)];exact h _ (Qnn hi)

theorem KH {g:PG}{v:V}:Uc m P g v=0↔SOK m P g v.slots∧Hc g v.slots=false∧∀x∈v.raws,Wi P g x=0:=by
 unfold Uc;rw[←Qbc,←Qbd];split
 ·rename_i h;cases Hc g v.slots<;>simp[h]
 ·rename_i h;simp[h]
end

theorem WJ {P:PL}{n:Nat}{g:PG}{v:V}:Za P (n+1) g v=0↔(v.kd=10∧v.oth=false)∧SOK (Za P n) P g v.slots∧Hc g v.slots=false∧∀x∈v.raws,Wi P g x=0:=by
 rw[←KH];unfold Za;by_cases h:v.kd=10
 ·cases ho:v.oth<;>simp[h]
 ·simp[h]

theorem Cf {v:V}(h:v.kd≠6):v.nsc=v:=by
 cases v;unfold V.nsc XB;rw[QmC fun g=>h g.1];rfl
theorem Qgc {P:PL}{tg:Int}{t:List UInt8}{l p s r:List AV}(b b':Nat):Ga P 6 tg 6 b t l p s r=Ga P 6 tg 6 b' t l p s r:=by
 have k1:(Zh 6||(6:Int)==10||(6:Int)==11||(6:Int)==12)=false:=by decide
 have k2:((6:Int)==9)=false:=rfl;have t6:Zh 6=false:=rfl;have f6:∀b,Wf 6 b=true:=fun b=>by
  unfold Wf;rw[QmC (by decide),QmC (by decide),QmC (by decide),QmC (by decide)]
 have h1:oth 6 b t l p s r=oth 6 b' t l p s r:=by
  unfold oth;rw[k1,Qoe,Qoe]
 have h2:XO 6 6 b t l p s r=XO 6 6 b' t l p s r:=by
  unfold XO;rw[f6,f6,QmC (by rw[t6];exact Bool.false_ne_true),QmC (by rw[t6];exact Bool.false_ne_true)]
 unfold Ga;rw[h1,h2,k2,Qn1,Qn1]
theorem M7 {P:PL}{k tg:Int}{v:V}(h:v.one P k tg=0):v.nsc.one P k tg=0:=by
 by_cases hk:v.kd=6
 ·have e:=(Gb h).1;rw[←h];unfold V.one;have e1:v.nsc.kd=6:=hk;rw[e1,hk,show k=6 by omega];exact Qgc _ _
 ·rw[Cf hk];exact h

theorem X5 {g:PG}(hd:g.ops.Pairwise fun a b=>a.num<b.num){o:PO}(ho:o∈g.ops):Xq g o.num=some o:=by
 unfold Xq
 revert hd ho
 generalize g.ops=ops;intro hd ho
 induction ops with
 |nil=>cases ho
 |cons x l ih=>
  obtain⟨h1,h2⟩:=Qn5.1 hd;rw[Qon];rcases QnS.1 ho with rfl|ho
  ·simp
  ·have:=h1 o ho;rw[show(x.num==o.num)=false by simp;omega];exact ih h2 ho

section
variable {m:PG→V→Int}{nm:PG→V→V}{P:PL}

theorem DM (h:∀g∈P.progs,∀v,m g v=0→m g (nm g v)=0){o:PO}(ho:UO P o){v:V}(hv:Q5 m P o v=0):Q5 m P o (ZD nm P o v)=0:=by
 unfold Q5 ZD at *;by_cases hk:o.kind=10
 ·rw[QmD hk]at hv;rw[QmD hk,QmD hk];obtain⟨t0,t1⟩:=ho.tgt hk;refine h _ ?_ _ hv;unfold Qq;rw[Qmv (by omega:o.target.toNat<P.progs.length)];exact Qnn _
 ·rw[QmC hk]at hv;rw[QmC hk,QmC hk];exact M7 hv

theorem Nw {o:PO}(ho:o.card=5→Ze o.key)(h5:o.card=5){ps:List (V×V)}(h:EOK m P o ps):∀p∈ps,p.1.nsc=p.1:=by
 intro p hp;have e:=(Gb (h.1 p hp).1).1;refine Cf ?_;have:=ho h5;unfold Ze at this;omega

theorem Eo (h:∀g∈P.progs,∀v,m g v=0→m g (nm g v)=0){o:PO}(ho:UO P o){v:V}(hv:XX m P o v=0):XX m P o (Zy nm P o v)=0:=by
 unfold XX Zy at *;by_cases h5:o.card=5
 ·have n4:¬o.card=4:=by omega
  rw[QmD h5]at hv;rw[QmD h5,QmC n4,QmD h5];split at hv
  ·omega
  have hE:=Yz.1 hv;have hk:=Nw ho.key h5 hE;rw[QmC (by simp[V.kd,V.oth,oth,V.bits,V.text,V.list,V.pairs,V.slots,V.raws,Zh])];refine Yz.2 ?_;have hp:(Xc o.key v.pairs).Perm v.pairs:=Q0 _;have hm:∀p∈Xc o.key v.pairs,p∈v.pairs:=fun p h=>hp.mem_iff.1 h
  refine⟨fun x hx=>?_,?_⟩
  ·obtain⟨p,hp,rfl⟩:=QnQ.1 hx;have h1:=hE.1 p (hm p hp);exact⟨M7 h1.1,DM h ho h1.2⟩
  ·show(List.map _ (Xc o.key v.pairs)).Pairwise _;rw[List.pairwise_map];have h2:(Xc o.key v.pairs).Pairwise fun q p=>Xz q.1 p.1=false:=(hp.pairwise_iff fun {a b} h=>by unfold Xz at *;rw[←h,Bool.beq_comm (a:=b.1.bits),Bool.beq_comm (a:=b.1.text)]).2 hE.2
   refine h2.imp_of_mem fun {a b} ha hb h=>?_
   dsimp only;rw[hk a (hm a ha),hk b (hm b hb)];exact h
 ·rw[QmC h5]at hv;rw[QmC h5];by_cases h4:o.card=4
  ·rw[QmD h4]at hv;rw[QmD h4,QmD h4];split at hv
   ·omega
   have hL:=YA.1 hv;rw[QmC (by simp[V.kd,V.oth,oth,V.bits,V.text,V.list,V.pairs,V.slots,V.raws,Zh])];refine YA.2 fun x hx=>?_
   obtain⟨y,hy,rfl⟩:=QnQ.1 hx;exact DM h ho (hL y hy)
  ·rw[QmC h4]at hv;rw[QmC h4,QmC h4,QmC h5];exact DM h ho hv

theorem Zj {sl:List (Int×V)}{o:PO}{x:Int×V}(h:x∈Xj nm P sl o):x.1=o.num∧∃s∈sl,s.1=o.num∧x.2=Zy nm P o s.2:=by
 unfold Xj at h;cases hf:sl.find? (fun s=>s.1==o.num)with
 |none=>rw[hf]at h;cases h
 |some s=>
  rw[hf]at h;dsimp only at h;have h1:s.1=o.num:=by simpa using Qot hf
  split at h
  ·simp only[QnS,QoF,or_false]at h;subst h;exact⟨rfl,s,Qos hf,h1,rfl⟩
  ·cases h

theorem DN {sl:List (Int×V)}{o:PO}{p:Int×V→Int×V→Prop}:(Xj nm P sl o).Pairwise p:=by
 unfold Xj;split
 ·exact .nil
 ·split
  ·exact QoH _ _
  ·exact .nil

theorem TF (h:∀g∈P.progs,∀v,m g v=0→m g (nm g v)=0){g:PG}(hd:g.ops.Pairwise fun a b=>a.num<b.num)(hu:∀o∈g.ops,UO P o){v:V}(hv:Uc m P g v=0):Uc m P g (Ut nm P g v)=0:=by
 obtain⟨⟨s1,s2,s3⟩,hmis,hraw⟩:=KH.1 hv;have uniq:∀ {a b:Int×V},a∈v.slots→b∈v.slots→a.1=b.1→a=b:=by
  intro a b ha hb e;obtain⟨i,hi,rfl⟩:=QoK ha;obtain⟨j,hj,rfl⟩:=QoK hb;rw[QoI]at s2;rcases Nat.lt_trichotomy i j with c|c|c
  ·have:=s2 i j hi hj c;rw[e]at this;simp at this
  ·subst c;rfl
  ·have:=s2 j i hj hi c;rw[e]at this;simp at this
 refine KH.2 ⟨⟨fun x hx=>?_,?_,?_⟩,?_,fun x hx=>?_⟩
 ·obtain⟨o,ho,hx⟩:=Qnh.1 hx;obtain⟨e,s,hs,e1,e2⟩:=Zj hx;obtain⟨o',h1,h2⟩:=s1 s hs;rw[e1,X5 hd ho]at h1;cases h1;exact⟨o,by rw[e];exact X5 hd ho,by rw[e2];exact Eo h (hu o ho) h2⟩
 ·show(g.ops.flatMap (Xj nm P v.slots)).Pairwise _;rw[List.pairwise_flatMap];refine⟨fun _ _=>DN,hd.imp fun {a b} hab x hx y hy=>?_⟩;have e1:=(Zj hx).1;have e2:=(Zj hy).1;simp;omega
 ·show(g.ops.flatMap (Xj nm P v.slots)).Pairwise _;rw[List.pairwise_flatMap];refine⟨fun _ _=>DN,(hd.imp_of_mem fun {a b} ha hb hab x hx y hy o ho=>?_)⟩;obtain⟨e1,s,hs,es,_⟩:=Zj hx;obtain⟨e2,t,ht,et,_⟩:=Zj hy;rw[e2,X5 hd hb]at ho;cases ho;have hst:s≠t:=fun e=>by rw[e,et]at es;omega
  obtain⟨i,hi,rfl⟩:=QoK hs;obtain⟨j,hj,rfl⟩:=QoK ht;rw[QoI]at s3;have hx1:Xq g x.1=some a:=by rw[e1];exact X5 hd ha
  unfold WF;rw[hx1];rcases Nat.lt_trichotomy i j with c|c|c
  ·have:=s3 i j hi hj c b (by rw[et];exact X5 hd hb);unfold WF at this;rw[es,X5 hd ha]at this;exact this
  ·subst c;exact absurd rfl hst
  ·have:=s3 j i hj hi c a (by rw[es];exact X5 hd ha);unfold WF at this;rw[et,X5 hd hb]at this;simp only[QnH,Qoy,bne_eq_false_iff_eq,Qoi]at this ⊢;rcases this with e|e
   ·by_cases c:b.union = -1
    ·exact .inl c
    ·exact .inr fun g=>c (by omega)
   ·exact .inr fun g=>e g.symm
 ·have hm:=hmis;rw[M1,List.any_eq_false]at hm ⊢;intro o ho;have:=hm o ho;unfold Gc at this ⊢;by_cases hc:o.card=1
  ·have hb:(o.card==1)=true:=by simp[hc]
   rw[hb,Qoc,QoA,Bool.not_eq_false']at this;rw[hb,Qoc,QoA,Bool.not_eq_false'];obtain⟨s,hs,e⟩:=Qoa.1 this;obtain⟨t,ht⟩:∃t,v.slots.find? (fun s=>s.1==o.num)=some t:=by
    cases hf:v.slots.find? (fun s=>s.1==o.num)with
    |none=>exact absurd e (by simpa using Qor.1 hf s hs)
    |some t=>exact⟨t,rfl⟩
   refine Qoa.2 ⟨(o.num,Zy nm P o t.2),Qnh.2 ⟨o,ho,?_⟩,by simp⟩;unfold Xj;rw[ht];dsimp only;rw[QmD (by simp[hc])];simp
  ·have hb:(o.card==1)=false:=by simp[hc]
   rw[hb,Qn1];simp
 ·exact hraw x ((Q0 v.raws).mem_iff.1 hx)

end

theorem YN {P:PL}(hU:Kt P)(hr:ZG P):∀(n:Nat) (g:PG),g∈P.progs→∀v:V,Za P n g v=0→Za P n g (Zb P n g v)=0
 |0,_,_,v,h=>by
  unfold Za at h;split at h<;>omega
 |n+1,g,hg,v,h=>by
  have hb:=KH.2 (WJ.1 h).2;refine WJ.2 ⟨⟨rfl,?_⟩,KH.1 (TF (fun g hg v h=>YN hU hr n g hg v h) (hr g hg) (hU g hg) hb)⟩;simp[V.oth,oth,Zb,Ut,V.kd,V.bits,V.text,V.list,V.pairs,V.slots,V.raws,Zh]

def EW (m:PG→V→Prop)(P:PL)(o:PO)(v:V):Prop:=o.kind=10→m (Qq P o.target) v
def FW (m:PG→V→Prop)(P:PL)(o:PO)(v:V):Prop :=
 if o.card=4 then ∀x∈v.list,EW m P o x
 else if o.card=5 then(∀p∈v.pairs,p.1.kx P o.key∧EW m P o p.2)∧v.pairs.Pairwise fun q p=>Xz q.1 p.1=false
 else EW m P o v
def MW (P:PL):Nat→PG→V→Prop
 |0,_,_=>False
 |n+1,g,v=>(∀s∈v.slots,∃o,Xq g s.1=some o∧FW (MW P n) P o s.2)∧v.slots.Pairwise fun y x=>(y.1==x.1)=false

theorem RD {m:PG→V→Int}{w:PG→V→Prop}(h:∀g v,m g v=0→w g v){P:PL}{o:PO}{v:V}(he:Q5 m P o v=0):EW w P o v:=by
 intro hk;unfold Q5 at he;rw[QmD hk]at he;exact h _ _ he
theorem Qgd {m:PG→V→Int}{w:PG→V→Prop}(h:∀g v,m g v=0→w g v){P:PL}{o:PO}{v:V}(he:XX m P o v=0):FW w P o v:=by
 unfold XX at he;unfold FW;by_cases h4:o.card=4
 ·rw[QmC (by omega),QmD h4]at he;rw[QmD h4];split at he
  ·omega
  exact fun x hx=>RD h (YA.1 he x hx)
 ·rw[QmC h4];by_cases h5:o.card=5
  ·rw[QmD h5]at he;rw[QmD h5];split at he
   ·omega
   have hE:=Yz.1 he;exact⟨fun p hp=>⟨Rw (hE.1 p hp).1,RD h (hE.1 p hp).2⟩,hE.2⟩
  ·rw[QmC h5,QmC h4]at he;rw[QmC h5];exact RD h he
theorem FS {P:PL}:∀(n:Nat) (g:PG) (v:V),Za P n g v=0→MW P n g v
 |0,g,v,h=>by
  unfold Za at h;split at h<;>omega
 |n+1,g,v,h=>by
  obtain⟨_,⟨s1,s2,_⟩,_,_⟩:=WJ.1 h;refine⟨fun s hs=>?_,s2⟩;obtain⟨o,ho,hf⟩:=s1 s hs;exact⟨o,ho,Qgd (FS n) hf⟩
theorem Qbe {P:PL}{o:PO}(ho:o.card=5→Ze o.key)(h5:o.card=5){ps:List (V×V)}(h:∀p∈ps,p.1.kx P o.key):∀p∈ps,p.1.nsc=p.1:=by
 intro p hp;have e:=(h p hp).1;refine Cf ?_;have:=ho h5;unfold Ze at this;omega

end Go.Proofs.YtkhpgmeokilhaaaGreatDoor.Va

namespace Go.Proofs.YtkhpgmeokilhaaaGreatDoor.Va
open Go Am Rc Bt Vp

def bl (l:List UInt8):List AV:=l.map fun b=>.int .u8 (b.toNat:Int)
theorem Nx (a b:List UInt8):bl (a++b)=bl a++bl b:=by simp[bl]
theorem Ny (a:List UInt8):(bl a).length=a.length:=by simp[bl]
theorem Yn (l:List UInt8):bytesOf (bl l)=some l:=by
 induction l with
 |nil=>rfl
 |cons b l ih=>
  show(bytesOf (bl l)).map _=_;rw[ih];simp

theorem Qge (u:Nat):(u:Int).fdiv (2 ^ min 7 64)=((u / 128:Nat):Int):=by
 rw[show min 7 64=7 from rfl,QoL _ (show(0:Int)≤2 ^ 7 by decide)];omega

theorem Qgf (u:Nat):bits .or .u8 (IntKind.u8.wrap (u:Int)) 128=((UInt8.ofNat (u % 128+128)).toNat:Int):=by
 rw[wu8];have h:∀n:Fin 256,bits .or .u8 ((n.val:Nat):Int) 128=((n.val % 128+128:Nat):Int):=by decide +kernel
 have:=h ⟨u % 256,by omega⟩;simp only at this;rw[show((u:Int) % 256)=((u % 256:Nat):Int)by omega,this,toNat_ofNat _ (by omega)];omega

theorem Qj0 (u:Nat)(h:u<128):IntKind.u8.wrap (u:Int)=((UInt8.ofNat u).toNat:Int):=by
 rw[wu8,toNat_ofNat _ (by omega)];omega

def Qj1 (u0:Nat)(k:Nat)(st:St):Prop :=
 ∃f fr u g j l,st=⟨f,[fr],[]⟩∧k=u∧f 0=.int .u64 (u:Nat)∧f 3=.vec 0 3 g 0 l.length false∧fr 3=.vec g 1 (bl l)∧u<V7 (9-j)∧l.length+j=9∧l++Yc j u=Vp.put u0

theorem II (u:Nat)(hu:u<18446744073709551616):Qi Tryz.prog 86 [.int .u64 u] (.str (Vp.put u)):=by
 refine wF Tryz.func86 ?_;simp only[eK,Tryz.f86,seval];simp only[JG,seval];refine Zo rfl rfl ?_;simp only[JG,seval];refine Qk (Qj1 u) u ⟨_,_,u,1,9,[],rfl,rfl,rfl,rfl,rfl,hu,rfl,rfl⟩ ?_;rintro n st ⟨f,fr,v,g,j,l,rfl,rfl,h0,h3,hv,hlt,hj,hl⟩;simp only[h0,JG,seval];refine QW (fun h=>?_) (fun h=>?_)
 ·have h:128≤n:=by(have h:(128:Int)≤n:=(by simpa using h));omega
  obtain⟨j,rfl⟩:∃i,j=i+1:=⟨j-1,by
   rcases Qnk j with rfl|hp
   ·simp[V7]at hlt;omega
   ·omega⟩
  simp only[h0,h3,JG,seval];refine Ng rfl ?_;refine QN rfl hv rfl (Ny l).symm rfl rfl (by simp[maxLen];omega) (by simp;omega) ?_;simp only[h0,Qge,Qgf,JG,seval];refine⟨n / 128,by omega,_,_,n / 128,g+1,j,l++[UInt8.ofNat (n % 128+128)],rfl,rfl,rfl,?_,?_,?_,?_,?_⟩
  ·simp only[Qm9,QmK,Qnr,JG,seval]
  ·simp only[QU,Nx]<;>rfl
  ·have:=To (9-(j+1)) n (by omega) hlt
   rwa [show 9-(j+1)+1=9-j by omega]at this
  ·simp;omega
  ·rw[←hl,A5 j n (by omega)];simp
 ·have h:n<128:=by(have h:(n:Int)<128:=(by simpa using h));omega
  simp only[h0,h3,JG,seval];refine Ng rfl ?_;refine QN rfl hv rfl (Ny l).symm rfl rfl (by simp[maxLen];omega) (by simp;omega) ?_;have he:=HN (m:=[]) (fr:=QG fr 3 (.vec (g+1) 1 (bl l++[.int .u8 ((UInt8.ofNat n).toNat:Int)]))) (site:=3) (g:=g+1) (sz:=1) (n:=l.length+(0+1)) (q:=false) rfl (by simp[bl]);have hb:bytesOf (bl l++[.int .u8 ((UInt8.ofNat n).toNat:Int)])=some (l++[UInt8.ofNat n]):=by
   have:=Yn (l++[UInt8.ofNat n])
   rwa [Nx]at this
  simp only[Qj0 n h,he,hb,JG,seval];rw[←hl,Rn j n h]

def tk (r:Nat×Nat×Nat):AV:=.tup [.int .u64 (r.1:Nat),.int .i64 (r.2.1:Nat),.int .i64 (r.2.2:Nat)]

theorem Qef:tk (0,0,4)=.tup [.int .u64 0,.int .i64 0,.int .i64 4]:=rfl
theorem Qeg:tk (0,0,6)=.tup [.int .u64 0,.int .i64 0,.int .i64 6]:=rfl
theorem IJ (v n:Nat):tk (v,n,0)=.tup [.int .u64 (v:Nat),.int .i64 (n:Nat),.int .i64 0]:=rfl

theorem TG (c:UInt8):bits .and .u8 (c.toNat:Int) 127=((c.toNat % 128:Nat):Int):=by
 have h:∀n:Fin 256,bits .and .u8 ((n.val:Nat):Int) 127=((n.val % 128:Nat):Int):=by decide +kernel
 exact h ⟨c.toNat,c.toNat_lt⟩

theorem Ch (i:Nat):128 ^ i=2 ^ (7*i):=by rw[Nat.pow_mul]

theorem Nz (acc d i:Nat)(hi:i≤9)(ha:acc<128 ^ i)(hd:d<128)(h9:i=9→d≤1) :
  bits .or .u64 (acc:Int) (IntKind.u64.wrap (IntKind.u64.wrap (d:Int)*2 ^ min (IntKind.i64.wrap (7*(i:Int))).toNat 64))=((acc+d*128 ^ i:Nat):Int):=by
 have e1:IntKind.i64.wrap (7*(i:Int))=((7*i:Nat):Int):=by rw[QC];omega
 have hb:d*128 ^ i<18446744073709551616:=by
  rcases Nat.lt_or_ge i 9 with h|h
  ·have h1:128 ^ i≤128 ^ 8:=Nat.pow_le_pow_right (by omega) (by omega)
   calc d*128 ^ i≤127*128 ^ 8:=Nat.mul_le_mul (by omega) h1
    _<_:=by decide
  ·have:i=9:=by omega
   subst this
   calc d*128 ^ 9≤1*128 ^ 9:=Nat.mul_le_mul (h9 rfl) (Qms _)
    _<_:=by decide
 have hacc:acc<18446744073709551616:=by
  refine Nat.lt_of_lt_of_le ha ?_
  calc 128 ^ i≤128 ^ 9:=Nat.pow_le_pow_right (by omega) hi
   _≤_:=by decide
 have e2:IntKind.u64.wrap (d:Int)=(d:Int):=by rw[JR];omega
 have e3:IntKind.u64.wrap ((d:Int)*2 ^ (7*i))=((d*128 ^ i:Nat):Int):=by
  rw[JR,Ch];have:((d*2 ^ (7*i):Nat):Int)=(d:Int)*2 ^ (7*i):=by push_cast;rfl
  rw[←this];rw[Ch]at hb;omega
 rw[e1,QnY,QnM (by omega),e2,e3,Th _ _ hacc hb];congr 1
 rw[Ch]at ha ⊢;have:=Nat.two_pow_add_eq_or_of_lt ha d;rw[Nat.or_comm,Nat.mul_comm d,←this,Nat.add_comm]

theorem Ep {acc d i:Nat}(ha:acc<128 ^ i)(hd:d<128):acc+d*128 ^ i<128 ^ (i+1):=by
 have:d*128 ^ i≤127*128 ^ i:=QnC _ (by omega);rw[Nat.pow_succ];omega

theorem Ci {l t:List UInt8}{c:UInt8}{i:Nat}(h:l.drop i=c :: t):l[i]? = some c∧l.drop (i+1)=t∧i<l.length:=by
 have hi:i<l.length:=by
  rcases Nat.lt_or_ge i l.length with h'|h'
  ·exact h'
  ·rw[Qm8 h']at h;cases h
 rw[Qne hi]at h
 injection h with h1 h2
 exact⟨by rw[Qmv hi,h1],h2,hi⟩

def Qgg (s:List UInt8)(k:Nat)(st:St):Prop :=
 ∃f i acc,st=⟨f,[Qb],[]⟩∧k=s.length-i∧f 0=.str s∧f 5=.int .u64 (acc:Nat)∧f 6=.int .i64 (i:Nat)∧i≤s.length∧i≤9∧acc<128 ^ i∧Ke i acc (s.drop i)=Vp.take s

theorem Qj2 (s:List UInt8):Qi Tryz.prog 235 [.str s] (tk (Vp.take s)):=by
 refine wF Tryz.func235 ?_;simp only[eK,Tryz.f235,seval];simp only[JG,seval];refine Qk (Qgg s) _ ⟨_,0,0,rfl,rfl,rfl,rfl,rfl,QmE _,QmE _,by decide,rfl⟩ ?_;rintro n st ⟨f,i,acc,rfl,rfl,h0,h5,h6,hil,hi,ha,hv⟩;simp only[h0,h6,JG,seval];refine QW (fun h=>?_) (fun h=>?_)
 ·have h:i=s.length:=by(have h:(i:Int)=s.length:=(by simpa using h));omega
  rw[Qm8 (by omega)]at hv;simp only[←hv,Ke,Qef,JG,seval]
 ·have h:i<s.length:=by(have h:¬(i:Int)=s.length:=(by simpa using h));omega
  obtain⟨c,t,hc⟩:∃c t,s.drop i=c :: t:=by
   cases hd:s.drop i with
   |nil=>have:=congrArg List.length hd;simp at this;omega
   |cons c t=>exact⟨c,t,rfl⟩
  obtain⟨g1,g2,_⟩:=Ci hc;rw[hc]at hv;have n0:(0≤(i:Int))=True:=by simp
  have e7:IntKind.i64.wrap (7*(i:Int))=((7*i:Nat):Int):=by rw[QC];omega
  have n7:(0≤IntKind.i64.wrap (7*(i:Int)))=True:=eq_true (by rw[e7];omega);have e1:IntKind.i64.wrap ((i:Int)+1)=((i+1:Nat):Int):=by rw[QC];omega
  rw[Ke]at hv;simp only[h0,h6,n0,g1,QnY,JG,seval];by_cases h9:i=9
  ·have e9:((i:Int)==9)=true:=by simp;omega
   simp only[e9,JG,seval];refine QW (fun hc1=>?_) (fun hc1=>?_)
   ·have hc1:1<c.toNat:=by(have hc1:(1:Int)<c.toNat:=(by simpa using hc1));omega
    rw[QmD ⟨h9,hc1⟩]at hv;simp only[←hv,Qeg,JG,seval]
   ·have hc1:c.toNat≤1:=by(have hc1:(c.toNat:Int)≤1:=(by simpa using hc1));omega
    have hbad:¬(i=9∧1<c.toNat):=by omega
    rw[QmC hbad]at hv;have hd:=Nz acc (c.toNat % 128) i hi ha (by omega) (fun _=>by omega);simp only[TG,n7,hd,e1,h5,h6,JG,seval];refine QW (fun hlt=>?_) (fun hlt=>?_)
    ·have hlt:c.toNat<128:=by omega
     rw[QmD hlt]at hv;simp only[←hv,IJ,Nat.mod_eq_of_lt hlt,h5,h6,JG,seval]
    ·exfalso;have hlt:(128:Int)≤c.toNat:=by simpa using hlt
     omega
  ·have hbad:¬(i=9∧1<c.toNat):=by omega
   rw[QmC hbad]at hv;have e9:((i:Int)==9)=false:=by simp;omega
   have hd:=Nz acc (c.toNat % 128) i hi ha (by omega) (fun e=>absurd e h9);simp only[e9,TG,n7,hd,e1,h5,h6,JG,seval];refine QW (fun hlt=>?_) (fun hlt=>?_)
   ·have hlt:c.toNat<128:=by(have hlt:(c.toNat:Int)<128:=(by simpa using hlt));omega
    rw[QmD hlt]at hv;simp only[←hv,IJ,Nat.mod_eq_of_lt hlt,h5,h6,JG,seval]
   ·have hlt:128≤c.toNat:=by(have hlt:(128:Int)≤c.toNat:=(by simpa using hlt));omega
    rw[QmC (by omega)]at hv;simp only[JG,seval];refine⟨s.length-(i+1),by omega,_,i+1,acc+c.toNat % 128*128 ^ i,rfl,rfl,?_,?_,?_,by omega,by omega,Ep ha (by omega),?_⟩
    ·simp only[h0,JG,seval]
    ·simp only[JG,seval]
    ·simp only[JG,seval]
    ·rw[g2,←hv];have:=c.toNat_lt;rw[show c.toNat % 128=c.toNat-128 by omega]

open Cp

theorem Er (c:C):Qi Tryz.prog 176 [c.av] (.bool c.sound):=by
 refine wF Tryz.func176 ?_;simp only[eK,Tryz.f176,seval];simp only[C.av,eE,seval]
 repeat' (first|(refine QW (fun h=>?_) (fun h=>?_)<;>simp only[h,eE,seval])|(refine XM (fun h=>?_) (fun h=>?_)<;>simp only[h,Qj,eE,seval])|(refine XN (fun h=>?_) (fun h=>?_)<;>simp only[h,Qj,eE,seval]))
 all_goals(simp_all[C.sound]<;>omega)

theorem RE (c:C)(n:Int):Qi Tryz.prog 237 [c.av,.int .i64 n] (c.ahead n).av:=by
 refine wF Tryz.func237 ?_;simp only[eK,Tryz.f237,seval];simp only[C.av,C.ahead,eE,seval]

theorem c42 (s:List UInt8)(l:L):Qi Tryz.prog 42 [.str s,l.av] (UC (opn s l)):=by
 refine wF Tryz.func42 ?_;simp only[eK,Tryz.f42,seval];simp only[L.av,eE,seval]
 repeat' (first|(refine QW (fun h=>?_) (fun h=>?_)<;>simp only[h,eE,seval])|(refine XM (fun h=>?_) (fun h=>?_)<;>simp only[h,Qj,eE,seval])|(refine XN (fun h=>?_) (fun h=>?_)<;>simp only[h,Qj,eE,seval]))
 all_goals((try simp only[Qmz,Qov]at *)<;>unfold opn<;>(repeat' split)<;>first|rfl|(exfalso;omega))

theorem c88 (c:C)(n:Int):Qi Tryz.prog 88 [c.av,.int .i64 n] (UC (c.spend n)):=by
 refine wF Tryz.func88 ?_;simp only[eK,Tryz.f88,seval];simp only[C.av,eE,seval]
 repeat' (first|(refine QW (fun h=>?_) (fun h=>?_)<;>simp only[h,eE,seval])|(refine XM (fun h=>?_) (fun h=>?_)<;>simp only[h,Qj,eE,seval])|(refine XN (fun h=>?_) (fun h=>?_)<;>simp only[h,Qj,eE,seval]))
 all_goals((try simp only[Qmz,Qov]at *)<;>unfold C.spend<;>(repeat' split)<;>first|rfl|(exfalso;omega))

theorem NA (c:C)(hl:c.d.length≤9223372036854775807):Qi Tryz.prog 89 [c.av] (.int .i64 c.left):=by
 refine wF Tryz.func89 ?_;simp only[eK,Tryz.f89,seval];simp only[C.av,eE,seval];refine aC (Er c) ?_;have hr:=c.rest_len;cases hs:c.sound with
 |false=>
  rw[hs,QmC (by simp)]at hr;simp only[QnE,hr,Qa,seval]
 |true=>
  rw[hs,QmD rfl]at hr;have h:=(C.sound_iff c).1 hs;have e1:IntKind.i64.wrap (c.e-c.a)=c.e-c.a:=by rw[QC];omega
  simp only[Qod,hr,e1,eE,seval]

theorem Qeh (c:C)(n:Nat)(hn:n≤1000)(hl:c.d.length≤9223372036854770000):Qi Tryz.prog 236 [c.av,.int .i64 (n:Int)] (.str (c.rest.take n)):=by
 refine wF Tryz.func236 ?_;simp only[eK,Tryz.f236,seval];simp only[C.av,eE,seval];refine aC (Er c) ?_;cases hs:c.sound with
 |false=>
  simp only[QnE,C.rest_no hs,Qa,seval]
 |true=>
  have h:=(C.sound_iff c).1 hs;have e1:IntKind.i64.wrap (c.a+n)=c.a+n:=by rw[QC];omega
  have hh:=C.head_of hs n _ rfl;generalize hk:(if c.a+n<c.e then c.a+n else c.e)=k at hh;have hk':c.a≤k∧k≤c.e:=by split at hk<;>omega
  have n1:(0≤c.a)=True:=eq_true h.1;have n2:(0≤k)=True:=eq_true (by omega);have n3:(c.a.toNat≤k.toNat∧k.toNat≤c.d.length)=True:=eq_true (by omega);simp only[Qod,e1,hk,n1,n2,n3,hh,eE,seval]

theorem BU (c:C)(hl:c.d.length≤9223372036854770000):Qi Tryz.prog 177 [c.av] (KG c.varint):=by
 refine wF Tryz.func177 ?_;simp only[eK,Tryz.f177,seval];simp only[C.av,eE,seval];refine aC (Qeh c 10 (by omega) hl) ?_;refine aC (Qj2 (c.rest.take 10)) ?_;rw[take_take];unfold C.varint;generalize Vp.take c.rest=r;obtain⟨u,n,e⟩:=r;simp only[tk,Qa,seval];refine QW (fun h=>?_) (fun h=>?_)
 ·have h:¬e=0:=by simpa using h
  simp only[h,KG,C.av,eE,seval]
  try rfl
 ·have h:e=0:=by simpa using h
  subst h;simp only[eE,seval];refine aC (RE c (n:Int)) ?_;simp only[KG,C.av,C.ahead,eE,seval]
  try rfl

theorem Q2 {a:Nat}(h:¬a=0):((a:Int) != 0)=true:=by simp[h]
def fx:Nat→Nat→List UInt8
 |0,_=>[]
 |k+1,u=>UInt8.ofNat (u % 256) :: fx k (u / 256)

theorem FT (k u:Nat):(fx k u).length=k:=by
 induction k generalizing u with
 |zero=>rfl
 |succ k ih=>simp[fx,ih]

theorem Qbf (k u:Nat):fx (k+1) u=fx k u++[UInt8.ofNat (u / 256 ^ k % 256)]:=by
 induction k generalizing u with
 |zero=>simp[fx]
 |succ k ih=>
  rw[fx,ih (u / 256)];simp only[fx,QmR,Nat.div_div_eq_div_mul,Nat.pow_succ,Nat.mul_comm]

def Gi (s:List UInt8):Nat→Nat
 |0=>0
 |k+1=>Gi s k+((s[k]?).getD 0).toNat*256 ^ k

theorem TH (s:List UInt8)(k:Nat):Gi s k<256 ^ k:=by
 induction k with
 |zero=>exact Nat.one_pos
 |succ k ih=>
  have h1:=((s[k]?).getD 0).toNat_lt;have h2:((s[k]?).getD 0).toNat*256 ^ k≤255*256 ^ k:=QnC _ (by omega);rw[Gi,Nat.pow_succ];omega

theorem NB (b:UInt8):∀(l:List UInt8) (z:Nat),l.foldr (fun b v=>256*v+b.toNat) z=l.foldr (fun b v=>256*v+b.toNat) 0+z*256 ^ l.length
 | [],z=>by simp
 |a :: l,z=>by
  rw[List.foldr_cons,List.foldr_cons,NB b l z,QmK,Nat.pow_succ];rw[Nat.mul_add,←Nat.mul_assoc,Nat.mul_comm 256 z,Nat.mul_assoc z,Nat.mul_comm 256 (256 ^ _)];omega

theorem Cj (s:List UInt8):∀(k:Nat),k≤s.length→(s.take k).foldr (fun b v=>256*v+b.toNat) 0=Gi s k
 |0,_=>rfl
 |k+1,h=>by
  rw[QmP (by omega),List.foldr_append,List.foldr_cons,List.foldr_nil,NB 0,Cj s k (by omega),Gi];rw[Qmv (by omega),Qns,QnM (by omega)];simp

theorem Es (s:List UInt8)(h:8≤s.length):H8 s=Gi s 8:=Cj s 8 h

def RF (s:List UInt8)(k:Nat)(st:St):Prop :=
 ∃f i,st=⟨f,[Qb],[]⟩∧k=8-i∧i≤8∧f 0=.str s∧f 4=.int .u64 (Gi s i:Nat)∧f 9=.int .i64 (i:Nat)

theorem Et (s:List UInt8)(i:Nat)(c:UInt8)(hi:i<8)(hc:s[i]? = some c) :
  bits .or .u64 (Gi s i:Int) (IntKind.u64.wrap (IntKind.u64.wrap (c.toNat:Int)*2 ^ min (IntKind.i64.wrap (8*(i:Int))).toNat 64))=(Gi s (i+1):Nat):=by
 have e1:IntKind.i64.wrap (8*(i:Int))=((8*i:Nat):Int):=by rw[QC];omega
 have hp:256 ^ i=2 ^ (8*i):=by rw[Nat.pow_mul]
 have hcl:=c.toNat_lt;have hlt:=TH s (i+1);have hlt0:=TH s i;rw[Gi,hc]at hlt;simp only[QnH]at hlt;have h8:256 ^ (i+1)≤256 ^ 8:=Nat.pow_le_pow_right (by omega) (by omega);have h88:(256:Nat) ^ 8=18446744073709551616:=by decide
 have e2:IntKind.u64.wrap (c.toNat:Int)=(c.toNat:Int):=by rw[JR];omega
 have e3:IntKind.u64.wrap ((c.toNat:Int)*2 ^ (8*i))=((c.toNat*256 ^ i:Nat):Int):=by
  have:((c.toNat*2 ^ (8*i):Nat):Int)=(c.toNat:Int)*2 ^ (8*i):=by push_cast;rfl
  rw[JR,←this,hp];rw[hp]at hlt;omega
 rw[e1,QnY,QnM (by omega),e2,e3,Th _ _ (by omega) (by omega),Gi,hc];congr 1
 rw[hp]at hlt0 ⊢;have:=Nat.two_pow_add_eq_or_of_lt hlt0 c.toNat;simp only[QnH];rw[Nat.or_comm,Nat.mul_comm c.toNat,←this,Nat.add_comm]

def TJ (s:List UInt8):AV:=if s.length<8 then .tup [.int .u64 0,.int .i64 4]else .tup [.int .u64 (H8 s:Nat),.int .i64 0]

theorem Qei (s:List UInt8):Qi Tryz.prog 298 [.str s] (TJ s):=by
 refine wF Tryz.func298 ?_;simp only[eK,Tryz.f298,seval];simp only[Qa,seval];refine QW (fun h=>?_) (fun h=>?_)
 ·have h:s.length<8:=by(have h:(s.length:Int)<8:=(by simpa using h));omega
  simp only[TJ,h,Qa,seval]
 ·have h:¬s.length<8:=by(have h:¬(s.length:Int)<8:=(by simpa using h));omega
  simp only[Qa,seval];refine Qk (RF s) _ ⟨_,0,rfl,rfl,by omega,rfl,rfl,rfl⟩ ?_;rintro n st ⟨f,i,rfl,rfl,hi,h0,h4,h9⟩;simp only[h9,Qa,seval];refine QW (fun hc=>?_) (fun hc=>?_)
  ·have hc:i<8:=by(have hc:(i:Int)<8:=(by simpa using hc));omega
   have n0:(0≤(i:Int))=True:=by simp
   obtain⟨b,hb⟩:∃b,s[i]? = some b:=⟨s[i],Qmv (by omega)⟩;have e1:IntKind.i64.wrap ((i:Int)+1)=((i+1:Nat):Int):=by rw[QC];omega
   have e0:IntKind.i64.wrap (8*(i:Int))=((8*i:Nat):Int):=by rw[QC];omega
   have n8:(0≤IntKind.i64.wrap (8*(i:Int)))=True:=eq_true (by rw[e0];omega);have ha:=Et s i b hc hb;simp only[n0,QnY,hb,n8,ha,e1,h0,h4,h9,Qa,seval];exact⟨8-(i+1),by omega,_,i+1,rfl,rfl,by omega,by simp only[h0,Qa,seval],by simp only[Qa,seval],by simp only[Qa,seval]⟩
  ·have hc:i=8:=by(have hc:¬(i:Int)<8:=(by simpa using hc));omega
   subst hc;simp only[h4,Qa,seval];rw[TJ,QmC h,Es s (by omega)]

theorem Qej (c:C)(hl:c.d.length≤9223372036854770000):Qi Tryz.prog 248 [c.av] (KG c.fixed):=by
 refine wF Tryz.func248 ?_;simp only[eK,Tryz.f248,seval];simp only[C.av,eE,seval];refine aC (Qeh c 8 (by omega) hl) ?_;have h8:H8 (c.rest.take 8)=H8 c.rest:=by simp[H8,List.take_take]
 have hlen:(c.rest.take 8).length<8↔c.rest.length<8:=by simp;omega
 by_cases h:c.rest.length<8
 ·have ht:=Qei (c.rest.take 8);rw[TJ,QmD (hlen.2 h)]at ht;refine aC ht ?_;simp only[show(((4:Int) != 0)=true)from rfl,C.fixed,KG,h,C.av,eE,seval]
  try rfl
 ·have ht:=Qei (c.rest.take 8);rw[TJ,QmC (fun h'=>h (hlen.1 h')),h8]at ht;refine aC ht ?_;simp only[bne_self_eq_false,eE,seval];refine aC (RE c 8) ?_;simp only[KG,C.fixed,h,C.av,C.ahead,eE,seval]
  try rfl

theorem Ck:∀(l:List UInt8),l.foldr (fun b v=>256*v+b.toNat) 0<256 ^ l.length
 | []=>by simp
 |b :: l=>by
  have h:=Ck l;have hb:=b.toNat_lt;rw[List.foldr_cons,QmK,Nat.pow_succ];omega

def hi8 (s:List UInt8)(i:Nat):Nat:=((s.take 8).drop i).foldr (fun b v=>256*v+b.toNat) 0

def IK (n:Int):Prop:=-9223372036854775808≤n∧n<9223372036854775808

def Zf (c:C):Int×C×Nat:=match c.rest with
 | []=>(0,c,4)
 |b :: _=>((b.toNat:Int),c.ahead 1,0)
def RG (r:Int×C×Nat):AV:=.tup [.int .u8 r.1,r.2.1.av,.int .i64 (r.2.2:Nat)]

def text (c:C)(n:Int):List UInt8×C×Nat :=
 if n<0 then([],c,1)else if c.left<n then([],c,4)else if c.tx<n then([],c,3)else(c.rest.take n.toNat,c.ahead n,0)
def RH (r:List UInt8×C×Nat):AV:=.tup [.str r.1,r.2.1.av,.int .i64 (r.2.2:Nat)]

def enter (c:C)(n:Int):C×Nat :=
 if n<0 then(c,1)else if c.left<n then(c,4)else if c.dp<1 then(c,17)else({ c with e:=IntKind.i64.wrap (c.a+n),dp:=IntKind.i64.wrap (c.dp-1) },0)

def Wl (c i:C):C :=
 if ¬c.sound=true∨i.e<c.a∨c.e<i.e∨i.nd<0∨c.nd<i.nd then c else { c with a:=i.e,nd:=i.nd }

theorem NC {c:C}{b:UInt8}{t:List UInt8}(h:c.rest=b :: t):c.sound=true∧0≤c.a∧c.d[c.a.toNat]? = some b∧1≤c.left:=by
 have hs:c.sound=true:=by
  cases hs:c.sound with
  |true=>rfl
  |false=>rw[C.rest_no hs]at h;cases h
 have hh:=(C.sound_iff c).1 hs;rw[C.rest_of hs]at h;have h0:=congrArg (fun l=>l[0]?) h;simp only[Qna,Qnb,Qny,Qm2]at h0;have hl:=congrArg List.length h;simp only[Qns,Qnc,QmK]at hl;refine⟨hs,hh.1,?_,?_⟩
 ·split at h0
  ·exact h0
  ·cases h0
 ·have:=c.rest_len;rw[QmD hs]at this;omega

theorem Qj3 (c:C)(hl:c.d.length≤9223372036854775807):Qi Tryz.prog 243 [c.av] (RG (Zf c)):=by
 refine wF Tryz.func243 ?_;simp only[eK,Tryz.f243,seval];simp only[C.av,eE,seval];refine aC (NA c hl) ?_;unfold Zf;cases hr:c.rest with
 |nil=>
  have h0:c.left=0:=by unfold C.left;rw[hr]<;>rfl
  have d0:decide (c.left<1)=true:=by rw[h0]<;>rfl
  simp only[d0,RG,C.av,eE,seval]
  try rfl
 |cons b t=>
  obtain⟨h1,h2,h3,h4⟩:=NC hr;have d0:decide (c.left<1)=false:=by simp;omega
  have n1:(0≤c.a)=True:=eq_true h2;simp only[d0,n1,h3,eE,seval];refine aC (RE c 1) ?_;simp only[RG,C.av,C.ahead,eE,seval]
  try rfl

theorem Qj4 (c:C)(n:Nat)(hs:c.sound=true)(hn:(n:Int)≤c.left)(hl:c.d.length≤9223372036854775807):Qi Tryz.prog 324 [c.av,.int .i64 (n:Int)] (.list (Qr (c.rest.take n))):=by
 have h:=(C.sound_iff c).1 hs;have hr:=c.rest_len;rw[QmD hs]at hr;have e1:IntKind.i64.wrap (c.a+n)=c.a+n:=by rw[QC];omega
 have n1:(0≤c.a)=True:=eq_true h.1;have n2:(0≤c.a+(n:Int))=True:=eq_true (by omega);have n3:(c.a.toNat≤(c.a+(n:Int)).toNat∧(c.a+(n:Int)).toNat≤c.d.length)=True:=eq_true (by omega);have n0:(0≤(n:Int))=True:=by simp
 have ht:(c.d.drop c.a.toNat).take ((c.a+(n:Int)).toNat-c.a.toNat)=c.rest.take n:=by
  rw[C.rest_of hs,List.take_take];congr 1
  omega
 have hlen:(c.rest.take n).length=n:=by
  have:(c.rest.length:Int)=c.left:=rfl;rw[Qns];omega
 refine wF Tryz.func324 ?_;simp only[eK,Tryz.f324,seval];simp only[e1,n1,n2,n3,ht,C.av,eE,seval];refine AI rfl (by rw[hlen];omega) rfl ?_;have hb:(Qr (c.rest.take n)).length=n:=by rw[Qr,Qnq,hlen]
 have n4:(0+0+(n-0)≤(Qr (c.rest.take n)).length)=True:=eq_true (by rw[hb];omega);have n5:(n≤n)=True:=eq_true (Qms n);have n6:(0≤n)=True:=eq_true (QmE n);have h5:((Qr (c.rest.take n)).drop (0+0)).take (n-0)=Qr (c.rest.take n):=by
  simp only[Qm2,Qnd,Qnu];exact Qm5 (by rw[hb];exact Qms _)
 simp only[n0,n4,n5,n6,hlen,QnY,Qop,Qox,bne_self_eq_false,eE,seval];rw[Qm5 (by rw[hb];omega)]

theorem Qj5 (c:C)(n:Int)(ha:IK c.a)(hl:c.d.length≤9223372036854775807):Qi Tryz.prog 295 [c.av,.int .i64 n] (RH (text c n)):=by
 refine wF Tryz.func295 ?_;simp only[eK,Tryz.f295,seval];simp only[C.av,eE,seval];by_cases h1:n<0
 ·have d1:decide (n<0)=true:=by simpa using h1
  simp only[d1,eE,seval];rw[text,QmD h1];rfl
 ·have d1:decide (n<0)=false:=by simpa using h1
  simp only[d1,eE,seval];refine aC (NA c hl) ?_;by_cases h2:c.left<n
  ·have d2:decide (c.left<n)=true:=by simpa using h2
   simp only[d2,eE,seval];rw[text,QmC h1,QmD h2];rfl
  ·have d2:decide (c.left<n)=false:=by simpa using h2
   by_cases h3:c.tx<n
   ·have d3:decide (c.tx<n)=true:=by simpa using h3
    simp only[d2,d3,eE,seval];rw[text,QmC h1,QmC h2,QmD h3];rfl
   ·have d3:decide (c.tx<n)=false:=by simpa using h3
    by_cases h4:n=0
    ·subst h4;simp only[d2,d3,QnG,eE,seval];rw[text,QmC h1,QmC h2,QmC h3];have e:IntKind.i64.wrap (c.a+0)=c.a:=by rw[QC];unfold IK at ha;omega
     simp only[RH,C.ahead,C.av,e,Int.toNat_zero,QnF];rfl
    ·have d4:(n==0)=false:=by simpa using h4
     simp only[d2,d3,d4,eE,seval];obtain⟨k,rfl⟩:=Qof (show 0≤n by omega);have hs:c.sound=true:=by
      have hr:=c.rest_len;split at hr
      ·assumption
      ·omega
     refine aC (Qj4 c k hs (by omega) hl) ?_;have hb:=Yn (c.rest.take k);have hb:bytesOf (Qr (c.rest.take k))=some (c.rest.take k):=hb;simp only[QY,hb,eE,seval];refine aC (RE c (k:Int)) ?_;rw[text,QmC h1,QmC h2,QmC h3];simp only[RH,C.av,C.ahead,QnY,eE,seval]
     try rfl

theorem Qj6 (c:C)(n:Int)(hl:c.d.length≤9223372036854775807):Qi Tryz.prog 293 [c.av,.int .i64 n] (UC (enter c n)):=by
 refine wF Tryz.func293 ?_;simp only[eK,Tryz.f293,seval];simp only[C.av,eE,seval];by_cases h1:n<0
 ·have d1:decide (n<0)=true:=by simpa using h1
  simp only[d1,eE,seval];rw[enter,QmD h1];rfl
 ·have d1:decide (n<0)=false:=by simpa using h1
  simp only[d1,eE,seval];refine aC (NA c hl) ?_;simp only[Qa,seval]
  repeat' (first|(refine QW (fun h=>?_) (fun h=>?_)<;>simp only[h,eE,seval])|(refine XM (fun h=>?_) (fun h=>?_)<;>simp only[h,Qj,eE,seval])|(refine XN (fun h=>?_) (fun h=>?_)<;>simp only[h,Qj,eE,seval]))
  all_goals((try simp only[Qmz,Qov]at *)<;>unfold enter<;>(repeat' split)<;>first|rfl|(exfalso;omega))

theorem Qj7 (c i:C):Qi Tryz.prog 294 [c.av,i.av] (Wl c i).av:=by
 refine wF Tryz.func294 ?_;simp only[eK,Tryz.f294,seval];simp only[C.av,eE,seval];refine aC (Er c) ?_;unfold Wl;cases hs:c.sound with
 |false=>simp only[QmO,not_false_eq_true,true_or,eE,seval]
 |true=>
  simp only[eE,seval]
  repeat' (first|(refine QW (fun h=>?_) (fun h=>?_)<;>simp only[h,eE,seval])|(refine XM (fun h=>?_) (fun h=>?_)<;>simp only[h,Qj,eE,seval])|(refine XN (fun h=>?_) (fun h=>?_)<;>simp only[h,Qj,eE,seval]))
  all_goals((try simp only[Qmz,Qov]at *)<;>(first|rw[QmC (by simp;omega)]|rw[QmD (by simp;omega)]))

open Up

theorem c85 (w:Int):Qi Tryz.prog 85 [.int .i64 w] (.bool (YK w)):=by
 refine wF Tryz.func85 ?_;simp only[eK,Tryz.f85,seval];simp only[Qa,seval]
 repeat' (first|(refine QW (fun h=>?_) (fun h=>?_)<;>simp only[h,eE,seval])|(refine XM (fun h=>?_) (fun h=>?_)<;>simp only[h,Qj,eE,seval])|(refine XN (fun h=>?_) (fun h=>?_)<;>simp only[h,Qj,Qa,seval]))
 all_goals simp_all[YK]

theorem TK {n w:Int}(h:¬(n<1∨65535<n∨w<0∨6<w)):IntKind.u64.wrap (IntKind.i64.wrap (IntKind.i64.wrap (n*8)+w))=((n*8+w).toNat:Nat)∧(n*8+w).toNat<18446744073709551616:=by
 simp only[JR,QC];omega

theorem c82 (n w:Int):Qi Tryz.prog 82 [.int .i64 n,.int .i64 w] (Ru (Kf n w)):=by
 refine wF Tryz.func82 ?_;simp only[eK,Tryz.f82,seval];simp only[Qa,seval];by_cases hb:n<1∨65535<n∨w<0∨6<w
 ·repeat' (first|(refine QW (fun h=>?_) (fun h=>?_)<;>simp only[h,Qa,seval])|(refine XM (fun h=>?_) (fun h=>?_)<;>simp only[h,Qj,eE,seval])|(refine XN (fun h=>?_) (fun h=>?_)<;>simp only[h,Qj,Qa,seval]))
  all_goals first
   |(rw[Kf,QmD hb]<;>rfl)
   |(exfalso;simp only[Qov]at *;omega)
 ·obtain⟨e1,e2⟩:=TK hb;have d1:decide (n<1)=false:=by simp;omega
  have d2:decide (65535<n)=false:=by simp;omega
  have d3:decide (w<0)=false:=by simp;omega
  have d4:decide (6<w)=false:=by simp;omega
  simp only[d1,d2,d3,d4,e1,Qa,seval];refine aC (II _ e2) ?_;rw[Kf,QmC hb];simp only[Ru,Qa,seval]
  try rfl

theorem Eu {u:Nat}(h:¬(u / 8<1∨65535<u / 8)):IntKind.i64.wrap (IntKind.u64.wrap ((u:Int).tdiv 8))=((u / 8:Nat):Int)∧IntKind.i64.wrap ((u:Int).tmod 8)=((u % 8:Nat):Int):=by
 have e1:(u:Int).tdiv 8=((u / 8:Nat):Int):=by rw[Int.tdiv_eq_ediv_of_nonneg (by omega)];omega
 have e2:(u:Int).tmod 8=((u % 8:Nat):Int):=by rw[Int.tmod_eq_emod_of_nonneg (by omega)];omega
 rw[e1,e2];simp only[JR,QC];omega

theorem c90 (c:C)(hl:c.d.length≤9223372036854770000):Qi Tryz.prog 90 [c.av] (Nt (Qt c)):=by
 refine wF Tryz.func90 ?_;simp only[eK,Tryz.f90,seval];simp only[C.av,eE,seval];refine aC (BU c hl) ?_;have hv:=fun h=>ZJ (c:=c) (by omega) h
 unfold Qt;generalize c.varint=r at hv ⊢;obtain⟨u,d,e⟩:=r;simp only[KG,C.av,eE,seval]at hv ⊢;refine QW (fun h=>?_) (fun h=>?_)
 ·have h:¬e=0:=by simpa using h
  simp only[h,Nt,C.av,eE,seval]
 ·have h:e=0:=by simpa using h
  subst h;obtain⟨n,_,_,_,_,_,_,hu⟩:=hv rfl;have e1:(u:Int).tdiv 8=((u / 8:Nat):Int):=by rw[Int.tdiv_eq_ediv_of_nonneg (by omega)];omega
  have e2:(u:Int).tmod 8=((u % 8:Nat):Int):=by rw[Int.tmod_eq_emod_of_nonneg (by omega)];omega
  have e3:IntKind.u64.wrap ((u / 8:Nat):Int)=((u / 8:Nat):Int):=by rw[JR];omega
  simp only[e2,show(((8:Int)=0))=False from by simp,Qa,seval];refine QW (fun h=>?_) (fun h=>?_)
  ·have h:u % 8=7:=by(have h:((u % 8:Nat):Int)=7:=(by simpa using h));omega
   simp only[h,Nt,C.av,eE,seval]
   try rfl
  ·have h7:¬u % 8=7:=by(have h:¬((u % 8:Nat):Int)=7:=(by simpa using h));omega
   simp only[e1,e3,show(((8:Int)=0))=False from by simp,Qa,seval];by_cases hb:u / 8<1∨65535<u / 8
   ·repeat' (first|(refine QW (fun h=>?_) (fun h=>?_)<;>simp only[h,e1,e2,e3,show(((8:Int)=0))=False from by simp,eE,seval])|(refine XM (fun h=>?_) (fun h=>?_)<;>simp only[h,Qj,e1,e2,e3,show(((8:Int)=0))=False from by simp,if_false,eE,seval])|(refine XN (fun h=>?_) (fun h=>?_)<;>simp only[h,Qj,e1,e3,show(((8:Int)=0))=False from by simp,eE,seval]))
    all_goals first
     |(simp only[h7,hb,Nt,C.av,seval]<;>rfl)
     |(exfalso;simp only[Qov]at *;omega)
   ·obtain⟨t1,t2⟩:=Eu hb;rw[e1,e3]at t1;rw[e2]at t2;have d1:decide (((u / 8:Nat):Int)<1)=false:=by simp;omega
    have d2:decide (65535<((u / 8:Nat):Int))=false:=by simp;omega
    simp only[d1,d2,e1,e2,e3,t1,t2,show(((8:Int)=0))=False from by simp,eE,seval];simp only[h7,hb,Nt,C.av,seval]
    try rfl

theorem Qel {c d:C}{u:Nat}(hl:c.d.length≤9223372036854770000)(hd:c.varint=(u,d,0))(hu:¬d.left<(u:Int)) :
  d.a+u≤d.d.length∧0≤d.a∧(u:Int)≤9223372036854770000∧d.d.length=c.d.length:=by
 obtain⟨n,h1,h2,h3,h4,h5,h6,h7⟩:=ZJ (c:=c) (by omega) (by rw[hd]);rw[hd]at h4 h6;simp only at h4 h6;have hs:=(C.sound_iff d).1 h6;have hr:=d.rest_len;rw[QmD h6]at hr;have:d.d=c.d:=by rw[h4]
 have e:d.d.length=c.d.length:=by rw[this]
 omega

theorem Qbg {c d:C}{u:Nat}(hl:c.d.length≤9223372036854770000)(hd:c.varint=(u,d,0)):d.d.length≤9223372036854770000:=by
 obtain⟨n,h1,h2,h3,h4,h5,h6,h7⟩:=ZJ (c:=c) (by omega) (by rw[hd]);rw[hd]at h4;simp only at h4;rw[h4];exact hl

theorem Yo (d:C):0≤d.left∧d.left≤(d.d.length:Int):=by
 have hr:=d.rest_len;have hs:=C.sound_iff d;split at hr
 ·rename_i h;have:=hs.1 h;omega
 ·omega

theorem Qj8 (c:C)(w:Int)(hl:c.d.length≤9223372036854770000):Qi Tryz.prog 249 [c.av,.int .i64 w] (H9 (Wx c w)):=by
  refine wF Tryz.func249 ?_;simp only[eK,Tryz.f249,seval];simp only[C.av,eE,seval];refine aC (BU c hl) ?_;have hdl:=fun u d h=>Qbg (c:=c) (d:=d) (u:=u) hl h
  have hcut:=fun u d h hu=>Qel (c:=c) (d:=d) (u:=u) hl h hu
  unfold Wx;generalize c.varint=r at hcut hdl ⊢;obtain⟨u,d,e⟩:=r;simp only[KG,C.av,eE,seval];refine QW (fun h=>?_) (fun h=>?_)
  · have h:¬e=0:=by simpa using h
    simp only[h,H9,C.av,eE,seval]
  · have h:e=0:=by simpa using h
    subst h;have hcut:=hcut u d rfl;have hdl:=hdl u d rfl;have hlf:=Yo d;have e0:IntKind.u64.wrap d.left=d.left:=by rw[JR];omega
    by_cases hw:w=3
    all_goals
      first
        |(have dw:(w==3)=true:=by rw[hw]<;>rfl)
        |(have dw:(w==3)=false:=by simpa using hw)
      simp only[dw,eE,seval];refine aC (NA d (by omega)) ?_;by_cases hu:d.left<(u:Int)
      · have d1:decide (d.left<(u:Int))=true:=by simpa using hu
        simp only[e0,hu,H9,C.av,eE,seval]
        try rfl
      · have d1:decide (d.left<(u:Int))=false:=by simpa using hu
        obtain⟨k1,k2,k3,k4⟩:=hcut hu;have e1:IntKind.i64.wrap (u:Int)=u:=by rw[QC];omega
        have e2:IntKind.i64.wrap (d.a+(u:Int))=d.a+u:=by rw[QC];omega
        have n1:(0≤d.a)=True:=eq_true k2;have n2:(0≤d.a+(u:Int))=True:=eq_true (by omega);have n3:(d.a.toNat≤(d.a+(u:Int)).toNat∧(d.a+(u:Int)).toNat≤d.d.length)=True:=eq_true (by omega);have n4:(d.a+(u:Int)).toNat-d.a.toNat=u:=by omega
        first
          | (rw[QmD hw]
             by_cases hm:c.tx<(u:Int)
             · have d2:decide (c.tx<(u:Int))=true:=by simpa using hm
               simp only[e0,e1,hu,hm,H9,C.av,eE,seval]
               try rfl
             · have d2:decide (c.tx<(u:Int))=false:=by simpa using hm
               simp only[e0,e1,e2,n1,n2,n3,n4,hu,hm,H9,C.av,C.ahead,eE,seval]
               try rfl)
          | (rw[QmC hw]
             by_cases hm:65536<(u:Int)
             · have d2:decide (65536<(u:Int))=true:=by simpa using hm
               simp only[e0,e1,hu,hm,H9,C.av,eE,seval]
               try rfl
             · have d2:decide (65536<(u:Int))=false:=by simpa using hm
               simp only[e0,e1,e2,n1,n2,n3,n4,hu,hm,H9,C.av,C.ahead,eE,seval]
               try rfl)

theorem Qj9 (c:C)(f:R)(s:Nat)(fr:Nat→Ob)(m:Qh)(hs:fr s=.cells f.av.cells)(hl:c.d.length≤9223372036854770000) :
  Qd Tryz.prog 183 [c.av,.ptr 0 s 0] (fr :: m) fun x m1=>x=UC (ZT c f).2∧m1=QG fr s (.cells (ZT c f).1.av.cells) :: m:=by
 refine wG Tryz.func183 ?_;simp only[eK,Tryz.f183,seval];simp only[R.av,AV.cells]at hs;simp only[C.av,hs,eE,seval];by_cases h0:f.wire=0
 ·have d0:(f.wire==0)=true:=by simpa using h0
  simp only[d0,eE,seval];refine aC (BU c hl) ?_;simp only[KG,hs,C.av,eE,seval];refine⟨?_,?_⟩
  ·simp only[ZT,UC,h0,C.av,seval]
   try rfl
  ·simp only[ZT,h0,R.av,SP,seval]
   try rfl
 ·have d0:(f.wire==0)=false:=by simpa using h0
  by_cases h1:f.wire=1
  ·have d1:(f.wire==1)=true:=by simpa using h1
   simp only[d0,d1,eE,seval];refine aC (BU c hl) ?_;simp only[KG,hs,C.av,eE,seval];refine⟨?_,?_⟩
   ·simp only[ZT,UC,h1,C.av,seval]
    try rfl
   ·simp only[ZT,h1,R.av,SP,seval]
    try rfl
  ·have d1:(f.wire==1)=false:=by simpa using h1
   by_cases h2:f.wire=2
   ·have d2:(f.wire==2)=true:=by simpa using h2
    simp only[d0,d1,d2,eE,seval];refine aC (Qej c hl) ?_;simp only[KG,hs,C.av,eE,seval];refine⟨?_,?_⟩
    ·simp only[ZT,UC,h2,C.av,seval]
    ·simp only[ZT,h2,R.av,SP,seval]
   ·have d2:(f.wire==2)=false:=by simpa using h2
    have hc:ZT c f=({ f with data:=(Wx c f.wire).1 },(Wx c f.wire).2.1,(Wx c f.wire).2.2):=by
     simp only[ZT,h0,h1,h2,if_false,or_self]
    simp only[d0,d1,d2,hs,eE,seval];refine aC (Qj8 c f.wire hl) ?_;rw[hc];simp only[H9,hs,C.av,eE,seval];exact⟨rfl,rfl⟩

theorem Qbh {c:C}(hl:c.d.length≤9223372036854770000):(Qt c).2.2.1.d.length≤9223372036854770000:=by
 unfold Qt;simp only;split
 ·rename_i h0;split
  ·exact hl
  ·split
   ·exact hl
   ·obtain⟨n,_,_,_,h4,_⟩:=ZJ (c:=c) (by omega) h0;show c.varint.2.1.d.length≤_;rw[h4];exact hl
 ·exact hl

theorem TL {c:C}{n:Int}(hl:c.d.length≤9223372036854770000):(c.spend n).1.d.length≤9223372036854770000:=by
 unfold C.spend;split
 ·exact hl
 ·split<;>exact hl

theorem c92 (c:C)(hl:c.d.length≤9223372036854770000):Qi Tryz.prog 92 [c.av] (BN (Xo c)):=by
 refine wF Tryz.func92 ?_;simp only[eK,Tryz.f92,seval];simp only[C.av,eE,seval];refine aC (c90 c hl) ?_;have htl:=Qbh hl;unfold Xo;generalize Qt c=t at htl ⊢;obtain⟨num,wire,d,e⟩:=t;simp only[Nt,C.av,eE,seval]at htl ⊢;by_cases he:e=0
 ·subst he;simp only[eE,seval];refine aC (c88 d 1) ?_;have hsl:=TL (n:=1) htl;generalize d.spend 1=sp at hsl ⊢;obtain⟨d2,e2⟩:=sp;simp only[UC,C.av,eE,seval]at hsl ⊢;by_cases he2:e2=0
  ·subst he2;simp only[eE,seval];refine Qg (Qj9 d2 ⟨num,wire,0,[]⟩ 9 _ _ ?_ hsl) rfl ?_
   ·simp only[R.av,eE,seval]
    try rfl
   ·generalize ZT d2 ⟨num,wire,0,[]⟩=k;obtain⟨f,d3,e3⟩:=k;simp only[UC,C.av,R.av,eE,seval];by_cases he3:e3=0
    ·subst he3;simp only[BN,R.av,C.av,eE,seval]
     try rfl
    ·simp only[Q2 he3,he3,BN,zr,R.av,C.av,eE,seval]
     try rfl
  ·simp only[Q2 he2,he2,BN,zr,R.av,C.av,eE,seval]
   try rfl
 ·simp only[Q2 he,he,BN,zr,R.av,C.av,eE,seval]
  try rfl

end Go.Proofs.YtkhpgmeokilhaaaGreatDoor.Va

namespace Go.Proofs.YtkhpgmeokilhaaaGreatDoor.Va
open Go Am Rc Bt

def Gj (u:Int):Int:=if 0≤u then 2*u else -2*u-1
def IM (u:Int):Int:=if u % 2=0 then u / 2 else -(u / 2)-1

theorem Qka (u:Int)(h0 : -9223372036854775808≤u)(h1:u<9223372036854775808):Qi Tryz.prog 292 [.int .i64 u] (.int .u64 (Gj u)):=by
 refine wF Tryz.func292 ?_;simp only[eK,Tryz.f292,seval];simp only[JG,seval];congr 1
 simp only[show min 63 64=63 from rfl,show min 1 64=1 from rfl,seval,JR,Gj,QoL _ (show(0:Int)≤9223372036854775808 by decide)];by_cases h:0≤u
 ·rw[show u / 9223372036854775808=0 by omega,QmD h,show(0:Int) % 18446744073709551616=0 from rfl,VN _ (by omega) (by omega)];omega
 ·rw[show u / 9223372036854775808 = -1 by omega,QmC h,show(-1:Int) % 18446744073709551616=18446744073709551615 from rfl,VP _ (by omega) (by omega)];omega

theorem Qkb (u:Int)(h0:0≤u)(h1:u<18446744073709551616):Qi Tryz.prog 296 [.int .u64 u] (.int .i64 (IM u)):=by
 refine wF Tryz.func296 ?_;simp only[eK,Tryz.f296,seval];simp only[JG,seval];congr 1
 simp only[show min 1 64=1 from rfl,Mm u h0 h1,QC,IM,QoL _ (show(0:Int)≤2 ^ 1 by decide)];by_cases h:u % 2=0
 ·rw[h,QmD rfl];rw[show(0-((0+9223372036854775808) % 18446744073709551616-9223372036854775808)+9223372036854775808) % 18446744073709551616-9223372036854775808=(0:Int)by decide];rw[VQ _ (by omega) (by omega)];omega
 ·have h':u % 2=1:=by omega
  rw[h',QmC (by decide)];rw[show(0-((1+9223372036854775808) % 18446744073709551616-9223372036854775808)+9223372036854775808) % 18446744073709551616-9223372036854775808=(-1:Int)by decide];rw[VR _ (by omega) (by omega)];omega

theorem FU (u:Int):0≤Gj u:=by unfold Gj;split<;>omega
theorem Qem (u:Int)(h0 : -9223372036854775808≤u)(h1:u<9223372036854775808):Gj u<18446744073709551616:=by unfold Gj;split<;>omega
open Br Up So Vp Cp

abbrev Rd (α:Type):=Except Nat (α×C)

def Jz (c:C)(n:Int):Except Nat C:=if (c.spend n).2=0 then .ok (c.spend n).1 else .error (c.spend n).2
def Jt (c:C):Rd Nat :=
 if c.varint.2.2=0 then(if c.varint.2.1.left<(c.varint.1:Int)then .error 4 else .ok (c.varint.1,c.varint.2.1))else .error c.varint.2.2
def JK (w:Int)(c:C):Rd R :=
 if w=3 then match Jt c with
  |.error e=>.error e
  |.ok (n,d)=>if (text d n).2.2=0 then .ok (⟨0,w,0,(text d n).1⟩,(text d n).2.1)else .error (text d n).2.2
 else if w=2 then(if c.fixed.2.2=0 then .ok (⟨0,w,c.fixed.1,[]⟩,c.fixed.2.1)else .error c.fixed.2.2)
 else if c.varint.2.2=0 then .ok (⟨0,w,c.varint.1,[]⟩,c.varint.2.1)else .error c.varint.2.2

def Z3 (w:Int)(b:Nat):Nat:=if w=1 then(IntKind.u64.wrap (IM b)).toNat else b
def QM (k:Int)(b:Nat)(t:List UInt8):V:=.mk k b t [] [] [] []
def XT (P:PL)(k t:Int)(f:R):V×Nat :=
 if isk k=true then
  if f.wire=wk k then
   if f.wire=3 then(if k=7∧Hz f.data=false then(QM 0 0 [],7)else(QM k 0 f.data,0))
   else if Wf k (Z3 f.wire f.bits)=true then
    (if k=9∧W3 P.enums t (Z3 f.wire f.bits)=false then(QM 0 0 [],16)else(QM k (XB k (Z3 f.wire f.bits)) [],0))
   else(QM 0 0 [],6)
  else(QM 0 0 [],13)
 else(QM 0 0 [],12)

def Xw (l:List V):V:=.mk 11 0 [] l [] [] []
def Wm (p:List (V×V)):V:=.mk 12 0 [] [] p [] []
def XG (v:V)(n:Int):Option V:=(v.slots.find? fun s=>s.1==n).map Prod.snd
def QT (v:V)(n:Int):V:=(XG v n).getD (QM 0 0 [])
def Zz (g:PG)(o:PO)(s:Int×V):Bool:=s.1==o.num||(match Xq g s.1 with
 |some q=>decide (o.union≥0)&&q.union==o.union
 |none=>false)
def X6 (g:PG)(v:V)(o:PO)(x:V):V:=.mk 10 0 [] [] [] (v.slots.filter (fun s=>!Zz g o s)++[(o.num,x)]) v.raws
def UI (v:V)(f:R):V:=.mk v.kd v.bits v.text v.list v.pairs v.slots (v.raws++[f])

def Wn (P:PL)(g:PG)(v:V)(o:PO)(c:C):Rd V :=
 match Jz c 1 with
 |.error e=>.error e
 |.ok c1=>match JK (wk o.kind) c1 with
  |.error e=>.error e
  |.ok (f,d)=>
   if (XT P o.kind o.target f).2=16 then .ok (UI v ⟨o.num,0,f.bits,[]⟩,d)
   else if (XT P o.kind o.target f).2=0 then
    if o.card=4 then
     if (XG v o.num).isSome=true then .ok (X6 g v o (Xw ((QT v o.num).list++[(XT P o.kind o.target f).1])),d)
     else match Jz d 1 with
      |.error e=>.error e
      |.ok d1=>.ok (X6 g v o (Xw ((QT v o.num).list++[(XT P o.kind o.target f).1])),d1)
    else .ok (X6 g v o (XT P o.kind o.target f).1,d)
   else .error (XT P o.kind o.target f).2

section
variable (rec:Int→V→C→Rd V)
def Wy (t:Int)(b:V)(k:Int)(c:C):Rd V :=
 match Jt c with
 |.error e=>.error e
 |.ok (n,d)=>
  if (enter d n).2=0 then
   match Jz (enter d n).1 k with
   |.error e=>.error e
   |.ok i=>match rec t b i with
    |.error e=>.error e
    |.ok (x,j)=>.ok (x,Wl d j)
  else .error (enter d n).2
def Ky (g:PG)(v:V)(o:PO)(c:C):Rd V :=
 if o.card=4 then
  match Wy rec o.target (QM 10 0 []) (if (XG v o.num).isSome=true then 1 else 2) c with
  |.error e=>.error e
  |.ok (x,d)=>.ok (X6 g v o (Xw ((QT v o.num).list++[x])),d)
 else
  match Wy rec o.target (if (XG v o.num).isSome=true then QT v o.num else QM 10 0 []) 1 c with
  |.error e=>.error e
  |.ok (x,d)=>.ok (X6 g v o x,d)
end

def part (c:C)(n:Nat):C:={ c with e:=IntKind.i64.wrap (c.a+n) }
def ZO (c i:C):C:={ c with a:=i.e,nd:=i.nd }
def J8 (P:PL)(g:PG)(o:PO):Nat→V→C→Rd V
 |0,v,c=>.ok (v,c)
 |k+1,v,c=>if 0<c.left then(match Wn P g v o c with
   |.error e=>.error e
   |.ok (w,d)=>J8 P g o k w d)else .ok (v,c)
def JA (P:PL)(g:PG)(v:V)(o:PO)(d:C)(i:C):Rd V :=
 match J8 P g o i.left.toNat v i with
 |.error e=>.error e
 |.ok (w,j)=>.ok (w,ZO d j)
def WT (P:PL)(g:PG)(v:V)(o:PO)(c:C):Rd V :=
 match Jt c with
 |.error e=>.error e
 |.ok (n,d)=>
  if (Zf (part d n)).2.2=0 then
   if (Zf (part d n)).1=wk o.kind then
    if (XG v o.num).isSome=true then JA P g v o d (Zf (part d n)).2.1
    else match Jz (Zf (part d n)).2.1 1 with
     |.error e=>.error e
     |.ok i=>JA P g (X6 g v o (Xw [])) o d i
   else .error 13
  else .error (Zf (part d n)).2.2

def ZH (k:Int)(l:List (V×V))(x:V×V):List (V×V):=Xc k ((l.filter fun q=>!Xz q.1 x.1)++[x])

section
variable (P:PL)(rec:Int→V→C→Rd V)
def JL (k t w:Int)(c:C):Rd V :=
 if w=wk k then
  if k=10 then Wy rec t (QM 10 0 []) 0 c
  else match JK w c with
   |.error e=>.error e
   |.ok (f,d)=>if (XT P k t f).2=0 then .ok ((XT P k t f).1,d)else .error (XT P k t f).2
 else .error 13
def JY (o:PO):Nat→V×V→Bool→Bool→C→Rd (V×V)
 |0,x,_,_,c=>.ok (x,c)
 |n+1,x,a,b,c=>
  if 0<c.left then
   if (Qt c).2.2.2=0 then
    if (Qt c).1=1 then
     if a=true then .error 9
     else match JL P rec o.key (-1) (Qt c).2.1 (Qt c).2.2.1 with
      |.error e=>.error e
      |.ok (y,d)=>JY o n (y,x.2) true b d
    else if (Qt c).1=2 then
     if b=true then .error 9
     else match JL P rec o.kind o.target (Qt c).2.1 (Qt c).2.2.1 with
      |.error e=>.error e
      |.ok (y,d)=>JY o n (x.1,y) a true d
    else .error 18
   else .error (Qt c).2.2.2
  else .ok (x,c)
def JZ (g:PG)(v:V)(o:PO)(c:C):Rd V :=
 match Jt c with
 |.error e=>.error e
 |.ok (n,d)=>match Jz (part d n) (if (XG v o.num).isSome=true then 2 else 3)with
  |.error e=>.error e
  |.ok i=>match JY P rec o i.left.toNat (QM o.key 0 [],QM o.kind 0 []) false false i with
   |.error e=>.error e
   |.ok (x,j)=>.ok (X6 g v o (Wm (ZH o.key (QT v o.num).pairs x)),ZO d j)
def Jj (g:PG)(v:V)(o:PO)(w:Int)(c:C):Rd V :=
 if o.card=5 then(if w=6 then JZ P rec g v o c else .error 13)
 else if w=5∧pk o.card o.kind=true then WT P g v o c
 else if w=wk o.kind then(if o.kind=10 then Ky rec g v o c else Wn P g v o c)
 else .error 13
end

def Z4 (P:PL)(rec:Int→V→C→Rd V)(t:Int):Nat→V→C→Rd V
 |0,v,c=>.ok (v,c)
 |k+1,v,c=>
  if 0<c.left then
   if (Qt c).2.2.2=0 then
    match Xq (Qq P t) (Qt c).1 with
    |none=>if (Xo c).2.2=0 then Z4 P rec t k (UI v (Xo c).1) (Xo c).2.1 else .error (Xo c).2.2
    |some o=>match Jj P rec (Qq P t) v o (Qt c).2.1 (Qt c).2.2.1 with
     |.error e=>.error e
     |.ok (w,d)=>Z4 P rec t k w d
   else .error (Qt c).2.2.2
  else .ok (v,c)
def Hj (P:PL):Nat→Int→V→C→Rd V
 |0,_,v,c=>.ok (v,c)
 |n+1,t,v,c=>Z4 P (Hj P n) t c.left.toNat v c

end Go.Proofs.YtkhpgmeokilhaaaGreatDoor.Va

namespace Go.Proofs.YtkhpgmeokilhaaaGreatDoor.Va
open Go Am Rc Bt Vp Cp Up

def sg:Nat→C→List R×Nat
 |0,_=>([],0)
 |k+1,c=>
  if 0<c.left then
   let r:=Xo c
   if r.2.2=0 then
    let t:=sg k r.2.1
    if t.2=0 then(r.1 :: t.1,0)else([],t.2)
   else([],r.2.2)
  else([],0)

def Qen (s:List UInt8)(l:L):List R×Nat :=
 let o:=opn s l
 if o.2=0 then sg s.length o.1 else([],o.2)

def FV (l:List R):List AV:=l.map R.av
theorem Qbi (a:List R):(FV a).length=a.length:=by simp[FV]

theorem Hk {c:C}(hl:c.d.length≤9223372036854775807)(h:c.fixed.2.2=0):c.sound=true∧8≤c.left∧c.fixed.2.1={ c with a:=c.a+8 }∧c.fixed.1<2 ^ 64:=by
 unfold C.fixed at h ⊢;split at h
 ·cases h
 ·rename_i hr;have hne:c.rest≠[]:=by intro e;rw[e]at hr;simp at hr
  have hs:=Ca hne;have hs':=(C.sound_iff c).1 hs;have hle:=c.rest_len;rw[QmD hs]at hle;have h8:8≤c.left:=by unfold C.left;omega
  have hw:IntKind.i64.wrap (c.a+8)=c.a+8:=by rw[QC];omega
  refine⟨hs,h8,?_,?_⟩
  ·rw[QmC hr];simp only[C.ahead,hw]
  ·rw[QmC hr];have h1:=Ck (c.rest.take 8);rw[Qns,QnM (by omega)]at h1;have:(256:Nat) ^ 8=2 ^ 64:=by decide
   show H8 c.rest<2 ^ 64;unfold H8;omega

structure Step (c d:C):Prop where
 n:∃k:Nat,d={ c with a:=c.a+k,nd:=d.nd }∧0<k∧(k:Int)≤c.left
 sound:c.sound=true

theorem Step.left {c d:C}(h:Step c d):d.sound=true∧d.left<c.left∧0≤d.left∧d.d=c.d∧d.left=c.left-(d.a-c.a):=by
 obtain⟨⟨k,h1,h2,h3⟩,h4⟩:=h;have hs:=(C.sound_iff c).1 h4;have hc:=c.rest_len;rw[QmD h4]at hc;have e1:d.a=c.a+k:=by rw[h1]
 have e2:d.e=c.e:=by rw[h1]
 have e3:d.d=c.d:=by rw[h1]
 have hd:d.sound=true:=by
  rw[C.sound_iff,e1,e2,e3];omega
 have hdl:=d.rest_len;rw[QmD hd]at hdl;exact⟨hd,by omega,by omega,e3,by omega⟩

theorem DO {c:C}(hl:c.d.length≤9223372036854770000)(h:(Xo c).2.2=0):Step c (Xo c).2.1:=by
 unfold Xo at h ⊢;simp only at h ⊢;split at h
 ·rename_i ht;split at h
  ·rename_i hs;split at h
   ·rename_i hk;rw[QmD ht,QmD hs,QmD hk]
    -- the Kf
    unfold Qt at ht hs hk ⊢;simp only at ht hs hk ⊢;split at ht
    ·rename_i hv;rw[QmD hv]at hs hk ⊢;split at ht
     ·cases ht
     ·rename_i h7;rw[QmC h7]at hs hk ⊢;split at ht
      ·cases ht
      ·rename_i h8;rw[QmC h8]at hs hk ⊢;simp only at hs hk ⊢;obtain⟨n,g1,g2,g3,g4,g5,g6,g7⟩:=ZJ (c:=c) (by omega) hv;rw[g4]at hs hk ⊢;have hsc:=(C.sound_iff c).1 g5;have hcl:=c.rest_len;rw[QmD g5]at hcl
       -- the value N1
       unfold C.spend at hs hk ⊢;split at hs
       ·cases hs
       ·rename_i s1;rw[QmC s1]at hk ⊢;split at hs
        ·cases hs
        ·rename_i s2;rw[QmC s2]at hk ⊢;simp only at hk ⊢;generalize hd:({ d:=c.d,a:=c.a+n,e:=c.e,dp:=c.dp,nd:=IntKind.i64.wrap (c.nd-1),tx:=c.tx }:C)=d at hk ⊢;have q1:d.d=c.d:=by rw[←hd]
         have q2:d.a=c.a+n:=by rw[←hd]
         have q3:d.e=c.e:=by rw[←hd]
         have q4:d.dp=c.dp:=by rw[←hd]
         have q5:d.tx=c.tx:=by rw[←hd]
         have hdl:d.left≤c.left-n:=by
          have:=d.rest_len;split at this
          ·omega
          ·omega
         have mk:∀(d':C) (j:Nat),d'={ d with a:=d.a+j }→(j:Int)≤d.left→Step c d':=by
          intro d' j e hj;refine⟨⟨n+j,?_,by omega,by omega⟩,g5⟩;rw[e];obtain⟨_,_,_,_,_,_⟩:=d;simp only at q1 q2 q3 q4 q5;subst q1 q2 q3 q4 q5;simp only[C.mk.injEq,Qnm,and_true];omega
         -- the contents
         unfold ZT at hk ⊢;split at hk
         ·rename_i w2;rw[QmD w2];obtain⟨f1,f2,f3,f4⟩:=Hk (c:=d) (by rw[q1];omega) hk;exact mk _ 8 f3 f2
         ·rename_i w2;rw[QmC w2];split at hk
          ·rename_i w1;rw[QmD w1];obtain⟨j,f1,f2,f3,f4,f5,f6,f7⟩:=ZJ (c:=d) (by rw[q1];omega) hk;exact mk _ j f4 f3
          ·rename_i w1;rw[QmC w1];simp only at hk ⊢;unfold Wx at hk ⊢;simp only at hk ⊢;split at hk
           ·rename_i hv2;rw[QmD hv2];by_cases hu:d.varint.2.1.left<(d.varint.1:Int)
            ·rw[QmD hu]at hk;cases hk
            ·rw[QmC hu]at hk ⊢;by_cases hm:(if ((c.varint.1 % 8:Nat):Int)=3 then d.tx else 65536)<(d.varint.1:Int)
             ·rw[QmD hm]at hk;cases hk
             ·rw[QmC hm];obtain⟨j,f1,f2,f3,f4,f5,f6,f7⟩:=ZJ (c:=d) (by rw[q1];omega) hv2;have hs2:=(C.sound_iff d).1 f5;have hl2:=d.rest_len;rw[QmD f5]at hl2;have hl3:=d.varint.2.1.rest_len;rw[QmD f6,f4]at hl3;rw[f4]at hu;simp only at hl3;have hdl':(d.d.length:Int)=c.d.length:=by rw[q1]
              have hw:IntKind.i64.wrap (d.a+(j:Int)+(d.varint.1:Int))=d.a+j+d.varint.1:=by
               rw[QC];omega
              refine mk _ (j+d.varint.1) ?_ (by omega);rw[f4];simp only[C.ahead,hw,C.mk.injEq,Qnm,and_true];omega
           ·rename_i hv2;exact absurd hk hv2
    ·rename_i hv;exact absurd ht hv
   ·rename_i hk;exact absurd h hk
  ·rename_i hs;exact absurd h hs
 ·rename_i ht;exact absurd h ht

open Br So

structure CI (c:C):Prop where
 len:c.d.length≤65536
 snd:c.sound=true
 nd:0≤c.nd∧c.nd<9223372036854775808
 dp:0≤c.dp∧c.dp<9223372036854775808
structure Af (c d:C):Prop where
 n:∃k:Nat,d={ c with a:=c.a+k,nd:=d.nd }∧(k:Int)≤c.left
 nd:0≤d.nd∧d.nd≤c.nd

theorem CI.pos {c:C}(h:CI c):0≤c.a∧c.a≤c.e∧c.e≤(c.d.length:Int):=(C.sound_iff c).1 h.snd
theorem CI.lf {c:C}(h:CI c):c.left=c.e-c.a:=by
 have:=c.rest_len
 rwa [QmD h.snd]at this
theorem CI.big {c:C}(h:CI c):c.d.length≤9223372036854770000:=Qmt h.len (by decide)
theorem CI.big' {c:C}(h:CI c):c.d.length≤9223372036854775807:=Qmt h.len (by decide)
theorem CI.inr {c:C}(h:CI c):IK c.a:=by
 have:=h.pos;have:=h.len;unfold IK;omega
theorem CI.bd {c:C}(h:CI c):0≤c.left∧c.left≤65536:=by
 have:=h.pos;have:=h.len;rw[h.lf];omega
theorem RI {c:C}(h1:c.d.length≤65536)(h2:0≤c.a∧c.a≤c.e∧c.e≤(c.d.length:Int))(h3:0≤c.nd∧c.nd<9223372036854775808)(h4:0≤c.dp∧c.dp<9223372036854775808):CI c:=⟨h1,(C.sound_iff c).2 h2,h3,h4⟩

theorem Af.eqs {c d:C}(h:Af c d):d.d=c.d∧d.e=c.e∧d.dp=c.dp∧d.tx=c.tx∧∃k:Nat,d.a=c.a+k∧(k:Int)≤c.left:=by
 obtain⟨⟨k,e,hk⟩,_⟩:=h;refine⟨by rw[e],by rw[e],by rw[e],by rw[e],k,by rw[e],hk⟩
theorem Af.ci {c d:C}(h:Af c d)(hc:CI c):CI d:=by
 obtain⟨e1,e2,e3,_,k,e5,hk⟩:=h.eqs;have:=hc.pos;have:=hc.lf;have:=hc.nd;have:=h.nd;exact RI (by rw[e1];exact hc.len) (by rw[e1,e2,e5];omega) (by omega) (by rw[e3];exact hc.dp)
theorem Af.left {c d:C}(h:Af c d)(hc:CI c):d.left=c.left-(d.a-c.a)∧c.a≤d.a∧d.left≤c.left:=by
 obtain⟨e1,e2,e3,_,k,e5,hk⟩:=h.eqs;rw[(h.ci hc).lf,hc.lf];omega
theorem WU {c d:C}(hc:CI c)(h1:d.d=c.d)(h2:d.e=c.e)(h3:d.dp=c.dp)(h4:d.tx=c.tx)(h5:c.a≤d.a∧d.a≤c.e)(h6:0≤d.nd∧d.nd≤c.nd):Af c d:=by
 refine⟨⟨(d.a-c.a).toNat,?_,by rw[hc.lf];omega⟩,h6⟩;obtain⟨_,_,_,_,_,_⟩:=d;simp only at h1 h2 h3 h4 h5;subst h1 h2 h3 h4;simp only[C.mk.injEq,Qnm,and_true];omega
theorem Af.refl {c:C}(hc:CI c):Af c c:=by
 have:=hc.pos;have:=hc.nd;exact WU hc rfl rfl rfl rfl (by omega) (by omega)
theorem Af.trans {c d i:C}(h:Af c d)(g:Af d i)(hc:CI c):Af c i:=by
 obtain⟨e1,e2,e3,e4,k,e5,hk⟩:=h.eqs;obtain⟨f1,f2,f3,f4,l,f5,hl⟩:=g.eqs;have:=(h.ci hc).lf;have:=h.nd;have:=g.nd;have:=hc.pos;exact WU hc (by rw[f1,e1]) (by rw[f2,e2]) (by rw[f3,e3]) (by rw[f4,e4]) (by omega) (by omega)
def As (c d:C):Prop:=Af c d∧c.a<d.a
theorem As.ci {c d:C}(h:As c d)(hc:CI c):CI d:=h.1.ci hc
theorem As.lt {c d:C}(h:As c d)(hc:CI c):d.left+1≤c.left:=by
 have:=(h.1.left hc).1;have:=h.2;omega
theorem As.trans {c d i:C}(h:As c d)(g:Af d i)(hc:CI c):As c i:=⟨h.1.trans g hc,by have:=(g.left (h.ci hc)).2.1;have:=h.2;omega⟩
theorem Af.strict {c d i:C}(h:Af c d)(g:As d i)(hc:CI c):As c i:=⟨h.trans g.1 hc,by have:=(h.left hc).2.1;have:=g.2;omega⟩

theorem J0 {c:C}(hc:CI c)(h:c.varint.2.2=0):As c c.varint.2.1∧c.varint.1<18446744073709551616:=by
 obtain⟨n,h1,h2,h3,h4,h5,h6,h7⟩:=ZJ hc.big' h;have:=hc.lf;have:=hc.nd;refine⟨⟨WU hc (by rw[h4]) (by rw[h4]) (by rw[h4]) (by rw[h4]) (by rw[h4];dsimp only;omega) (by rw[h4];dsimp only;omega),by rw[h4];dsimp only;omega⟩,h7⟩
theorem ZE {c d:C}{n:Int}(hc:CI c)(hn:0≤n)(h:Jz c n=.ok d):Af c d∧d.a=c.a:=by
 unfold Jz at h;split at h
 ·rename_i h0;cases h;unfold C.spend at h0 ⊢;rw[QmC (by omega)]at h0 ⊢;split at h0
  ·cases h0
  ·rename_i h1;have:=hc.nd;have:=hc.pos;have w:IntKind.i64.wrap (c.nd-n)=c.nd-n:=by rw[QC];omega
   rw[QmC h1,w];exact⟨WU hc rfl rfl rfl rfl (by dsimp only;omega) (by dsimp only;omega),rfl⟩
 ·cases h
theorem Wo {c d:C}{n:Nat}(hc:CI c)(h:Jt c=.ok (n,d)):As c d∧(n:Int)≤d.left:=by
 unfold Jt at h;split at h
 ·rename_i h0;split at h
  ·cases h
  ·rename_i h1;cases h;exact⟨(J0 hc h0).1,by omega⟩
 ·cases h
theorem Qbj {d:C}{n:Nat}(hc:CI d)(hn:(n:Int)≤d.left)(h:(text d n).2.2=0):Af d (text d n).2.1∧(text d n).1.length≤65536:=by
 unfold text at h ⊢;rw[QmC (by omega),QmC (by omega)]at h ⊢;split at h
 ·cases h
 ·rename_i h1;have:=hc.pos;have:=hc.lf;have:=hc.len;have:=hc.nd;have w:IntKind.i64.wrap (d.a+(n:Int))=d.a+n:=by rw[QC];omega
  rw[QmC h1];refine⟨WU hc rfl rfl rfl rfl ?_ ?_,?_⟩
  ·simp only[C.ahead,w];omega
  ·simp only[C.ahead];omega
  ·simp only[QnY];rw[Qns];omega
theorem Gk {w:Int}{c d:C}{f:R}(hc:CI c)(h:JK w c=.ok (f,d)):As c d∧f.wire=w∧f.bits<18446744073709551616∧f.data.length≤65536:=by
 unfold JK at h;split at h
 ·split at h
  ·cases h
  ·rename_i n i hl;split at h
   ·rename_i ht;cases h;obtain⟨a1,a2⟩:=Wo hc hl;obtain⟨b1,b2⟩:=Qbj (a1.ci hc) a2 ht;exact⟨a1.trans b1 hc,rfl,by dsimp only;omega,b2⟩
   ·cases h
 ·split at h
  ·split at h
   ·rename_i hf;cases h;obtain⟨h1,h2,h3,h4⟩:=Hk hc.big' hf;have:=hc.lf;have:=hc.nd;exact⟨⟨WU hc (by rw[h3]) (by rw[h3]) (by rw[h3]) (by rw[h3]) (by rw[h3];dsimp only;omega) (by rw[h3];dsimp only;omega),by rw[h3];dsimp only;omega⟩,rfl,h4,QmE _⟩
   ·cases h
  ·split at h
   ·rename_i hv;cases h;obtain⟨a1,a2⟩:=J0 hc hv;exact⟨a1,rfl,a2,QmE _⟩
   ·cases h
theorem UJ {c:C}(hc:CI c)(h:(Qt c).2.2.2=0):As c (Qt c).2.2.1∧1≤(Qt c).1∧(Qt c).1≤65535∧0≤(Qt c).2.1∧(Qt c).2.1≤6:=by
 unfold Qt at h ⊢;dsimp only at h ⊢;split at h
 ·rename_i hv;rw[QmD hv];split at h
  ·cases h
  ·rename_i h7;rw[QmC h7];split at h
   ·cases h
   ·rename_i h8;rw[QmC h8];dsimp only;exact⟨(J0 hc hv).1,by omega,by omega,by omega,by omega⟩
 ·rename_i hv;exact absurd h hv
theorem DP {d:C}{n:Nat}(hc:CI d)(hn:(n:Int)≤d.left)(h:(enter d n).2=0):(enter d n).1={ d with e:=d.a+n,dp:=d.dp-1 }∧CI (enter d n).1∧(enter d n).1.left=n:=by
 unfold enter at h ⊢;rw[QmC (by omega),QmC (by omega)]at h ⊢;split at h
 ·cases h
 ·rename_i h1;have:=hc.pos;have:=hc.lf;have:=hc.len;have:=hc.dp;have w1:IntKind.i64.wrap (d.a+(n:Int))=d.a+n:=by rw[QC];omega
  have w2:IntKind.i64.wrap (d.dp-1)=d.dp-1:=by rw[QC];omega
  rw[QmC h1,w1,w2];have hi:CI ({ d with e:=d.a+n,dp:=d.dp-1 }:C):=RI hc.len (by dsimp only;omega) hc.nd (by dsimp only;omega);exact⟨rfl,hi,by rw[hi.lf];dsimp only;omega⟩
theorem Cm {d i j:C}{n:Nat}(hc:CI d)(hn:(n:Int)≤d.left)(hi:i.e=d.a+n∧i.nd≤d.nd)(hj:Af i j):Af d (Wl d j)∧(Wl d j).left=d.left-n:=by
 obtain⟨f1,f2,f3,f4,l,f5,hl⟩:=hj.eqs;have:=hc.pos;have:=hc.lf;have:=hj.nd;unfold Wl;rw[QmC (by rw[hc.snd];simp;omega)];have h:Af d ({ d with a:=j.e,nd:=j.nd }:C):=WU hc rfl rfl rfl rfl (by dsimp only;omega) (by dsimp only;omega);exact⟨h,by rw[(h.ci hc).lf];dsimp only;omega⟩
theorem JD {d:C}{n:Nat}(hc:CI d)(hn:(n:Int)≤d.left):part d n={ d with e:=d.a+n }∧CI (part d n)∧(part d n).left=n:=by
 have:=hc.pos;have:=hc.lf;have:=hc.len;have w1:IntKind.i64.wrap (d.a+(n:Int))=d.a+n:=by rw[QC];omega
 unfold part;rw[w1];have hi:CI ({ d with e:=d.a+n }:C):=RI hc.len (by dsimp only;omega) hc.nd hc.dp;exact⟨rfl,hi,by rw[hi.lf];dsimp only;omega⟩
theorem Gl {d i:C}{n:Nat}(hc:CI d)(hn:(n:Int)≤d.left)(hj:Af (part d n) i):Af d (ZO d i)∧(ZO d i).left=d.left-n:=by
 obtain⟨e1,e2,e3⟩:=JD hc hn;obtain⟨f1,f2,f3,f4,l,f5,hl⟩:=hj.eqs;have:=hc.pos;have:=hc.lf;have hnd:=hj.nd;rw[e1]at f2 hnd;dsimp only at f2 hnd;have h:Af d (ZO d i):=WU hc rfl rfl rfl rfl (by unfold ZO;dsimp only;omega) (by unfold ZO;dsimp only;omega);exact⟨h,by rw[(h.ci hc).lf];unfold ZO;dsimp only;omega⟩
theorem BW {c:C}(hc:CI c)(h:(Zf c).2.2=0):As c (Zf c).2.1∧0≤(Zf c).1∧(Zf c).1<256:=by
 unfold Zf at h ⊢;cases hr:c.rest with
 |nil=>rw[hr]at h;cases h
 |cons b t=>
  obtain⟨_,_,_,h1⟩:=NC hr;have:=hc.pos;have:=hc.lf;have:=hc.len;have:=hc.nd;have:=b.toNat_lt;have w:IntKind.i64.wrap (c.a+1)=c.a+1:=by rw[QC];omega
  refine⟨⟨WU hc rfl rfl rfl rfl ?_ ?_,?_⟩,?_,?_⟩<;>simp only[C.ahead,w]<;>omega

theorem M8 {c:C}{f:R}:(ZT c f).2.1.nd=c.nd:=by
 have hv:c.varint.2.1.nd=c.nd:=by unfold C.varint;dsimp only;split<;>rfl
 unfold ZT;split
 ·show c.fixed.2.1.nd=_;unfold C.fixed;split<;>rfl
 ·split
  ·exact hv
  ·show(Wx c f.wire).2.1.nd=_;unfold Wx;dsimp only;split
   ·split
    ·rfl
    ·by_cases hq:(if f.wire=3 then c.tx else 65536)<(c.varint.1:Int)
     ·rw[QmD hq]
     ·rw[QmC hq];exact hv
   ·rfl
theorem TM {c:C}{f:R}(hc:CI c)(h:(ZT c f).2.2=0)(h0:f.bits=0)(h1:f.data=[]):(ZT c f).1.num=f.num∧(ZT c f).1.wire=f.wire∧(ZT c f).1.bits<18446744073709551616∧(ZT c f).1.data.length≤65536:=by
 unfold ZT at h ⊢;split
 ·rename_i w;rw[QmD w]at h;exact⟨rfl,rfl,(Hk hc.big' h).2.2.2,by dsimp only;rw[h1];exact QmE _⟩
 ·rename_i w;rw[QmC w]at h;split
  ·rename_i w1;rw[QmD w1]at h;exact⟨rfl,rfl,(J0 hc h).2,by dsimp only;rw[h1];exact QmE _⟩
  ·rename_i w1;rw[QmC w1]at h;refine⟨rfl,rfl,by dsimp only;rw[h0];decide,?_⟩;show(Wx c f.wire).1.length≤65536;dsimp only at h;unfold Wx at h ⊢;dsimp only at h ⊢;split
   ·rename_i hv;rw[QmD hv]at h;split
    ·exact QmE _
    ·by_cases hq:(if f.wire=3 then c.tx else 65536)<(c.varint.1:Int)
     ·rw[QmD hq];exact QmE _
     ·have h3:=((J0 hc hv).1.ci hc).len;rw[QmC hq,Qns,Qnc];omega
   ·exact QmE _
theorem Cn {c:C}(hc:CI c)(h:(Xo c).2.2=0):As c (Xo c).2.1∧(Xo c).1.num=(Qt c).1∧1≤(Xo c).1.num∧(Xo c).1.num≤65535∧0≤(Xo c).1.wire∧(Xo c).1.wire≤6∧(Xo c).1.bits<18446744073709551616∧(Xo c).1.data.length≤65536:=by
 obtain⟨⟨k,e1,e2,e3⟩,_⟩:=DO hc.big h;have hnd:0≤(Xo c).2.1.nd∧(Xo c).2.1.nd≤c.nd∧(Xo c).1.num=(Qt c).1∧1≤(Xo c).1.num∧(Xo c).1.num≤65535∧0≤(Xo c).1.wire∧(Xo c).1.wire≤6∧(Xo c).1.bits<18446744073709551616∧(Xo c).1.data.length≤65536:=by
  clear e1;unfold Xo at h ⊢;dsimp only at h ⊢;split at h
  ·rename_i ht;obtain⟨t1,t2,t3,t4,t5⟩:=UJ hc ht;split at h
   ·rename_i hs;split at h
    ·rename_i hk;rw[QmD ht,QmD hs,QmD hk];have hsp:Jz (Qt c).2.2.1 1=.ok ((Qt c).2.2.1.spend 1).1:=by unfold Jz;rw[QmD hs]
     obtain⟨a1,_⟩:=ZE (t1.ci hc) (by omega) hsp;have a2:=M8 (c:=((Qt c).2.2.1.spend 1).1) (f:={ num:=(Qt c).1,wire:=(Qt c).2.1,bits:=0,data:=[] });have a3:=a1.nd;have a4:=t1.1.nd;obtain⟨b1,b2,b3,b4⟩:=TM (a1.ci (t1.ci hc)) hk rfl rfl;rw[b1,b2];exact⟨by omega,by omega,rfl,t2,t3,t4,t5,b3,b4⟩
    ·rename_i hk;exact absurd h hk
   ·rename_i hs;exact absurd h hs
  ·rename_i ht;exact absurd h ht
 have:=hc.lf;exact⟨⟨WU hc (by rw[e1]) (by rw[e1]) (by rw[e1]) (by rw[e1]) (by rw[e1];dsimp only;omega) ⟨hnd.1,hnd.2.1⟩,by rw[e1];dsimp only;omega⟩,hnd.2.2⟩

end Go.Proofs.YtkhpgmeokilhaaaGreatDoor.Va

namespace Go.Proofs.YtkhpgmeokilhaaaGreatDoor.Va
open Go Am Rc Bt Br Up So

theorem Mo (k:Int)(b:Nat):XB k (XB k b)=XB k b:=by
 unfold XB;by_cases h:k=6∧Dl b=0
 ·rw[QmD h,QmD ⟨h.1,by decide⟩]
 ·rw[QmC h,QmC h]

theorem Qbk:∀v:V,v.nsc.nsc=v.nsc
 |.mk k b t l p s r=>by
  show V.mk k (XB k (XB k b)) t l p s r=V.mk k (XB k b) t l p s r;rw[Mo]

theorem FX {nm:PG→V→V}{P:PL}{sl:List (Int×V)}:∀ {ops:List PO},(ops.Pairwise fun a b=>a.num<b.num)→∀o∈ops,(ops.flatMap (Xj nm P sl)).find? (fun s=>s.1==o.num)=(Xj nm P sl o).head?
 | [],_,_,h=>by cases h
 |x :: ops,hd,o,ho=>by
  obtain⟨h1,h2⟩:=Qn5.1 hd;have hn:∀o':PO,o'.num≠o.num→(Xj nm P sl o').find? (fun s=>s.1==o.num)=none:=fun o' e=>by
   rw[Qor];intro s hs;rw[(Zj hs).1]
   simpa using e
  have hs:∀o':PO,o'.num=o.num→∀l:List (Int×V),(∀s∈l,s.1=o'.num)→l.find? (fun s=>s.1==o.num)=l.head?:=fun o' e l hl=>by
   cases l with
   |nil=>rfl
   |cons s l=>
    rw[Qon,hl s (by simp),e];simp
  rw[Qn0,List.find?_append];rcases QnS.1 ho with rfl|ho
  ·rw[hs o rfl _ fun s h=>(Zj h).1];cases hh:(Xj nm P sl o).head? with
   |some s=>rfl
   |none=>
    rw[Option.none_or,Qor];intro s hs;obtain⟨o',ho',hs⟩:=Qnh.1 hs;have:=h1 o' ho';rw[(Zj hs).1];simp;omega
  ·have:=h1 o ho;rw[hn x (by omega),Option.none_or];exact FX h2 o ho

section
variable {m:PG→V→Int}{nm:PG→V→V}{P:PL}

theorem DQ (h:∀g∈P.progs,∀v,m g v=0→nm g (nm g v)=nm g v){o:PO}(ho:UO P o){v:V}(hv:Q5 m P o v=0):ZD nm P o (ZD nm P o v)=ZD nm P o v:=by
 unfold Q5 ZD at *;by_cases hk:o.kind=10
 ·rw[QmD hk]at hv;rw[QmD hk,QmD hk];obtain⟨t0,t1⟩:=ho.tgt hk;refine h _ ?_ _ hv;unfold Qq;rw[Qmv (by omega:o.target.toNat<P.progs.length)];exact Qnn _
 ·rw[QmC hk,QmC hk];exact Qbk v

theorem Ex (h:∀g∈P.progs,∀v,m g v=0→nm g (nm g v)=nm g v){o:PO}(ho:UO P o){v:V}(hv:XX m P o v=0):Zy nm P o (Zy nm P o v)=Zy nm P o v:=by
 unfold XX Zy at *;by_cases h5:o.card=5
 ·have n4:¬o.card=4:=by omega
  rw[QmD h5]at hv;rw[QmC n4,QmD h5,QmC n4,QmD h5];split at hv
  ·omega
  have hE:=Yz.1 hv;have hk:=Nw ho.key h5 hE;have hp:(Xc o.key v.pairs).Perm v.pairs:=Q0 _;have hm:∀p∈Xc o.key v.pairs,p∈v.pairs:=fun p h=>hp.mem_iff.1 h
  have hF:(Xc o.key v.pairs).map (fun p=>(p.1.nsc,ZD nm P o p.2))=(Xc o.key v.pairs).map fun p=>(p.1,ZD nm P o p.2) :=
   Qol fun p h=>by rw[hk p (hm p h)]
  have hs:Zs (fun x y:V×V=>kl o.key x.1 y.1) (Xc o.key v.pairs):=Zt (Ym o.key) _;have hS:Xc o.key ((Xc o.key v.pairs).map fun p=>(p.1,ZD nm P o p.2))=(Xc o.key v.pairs).map fun p=>(p.1,ZD nm P o p.2):=by
   refine DK ?_;unfold Zs at hs ⊢;rw[List.pairwise_map];exact hs
  rw[hF];show V.mk 12 0 [] [] ((Xc o.key ((Xc o.key v.pairs).map fun p=>(p.1,ZD nm P o p.2))).map fun p=>(p.1.nsc,ZD nm P o p.2)) [] []=_;rw[hS,Qom];congr 1
  refine Qol fun p h'=>?_
  simp only[Function.comp];rw[hk p (hm p h'),DQ h ho (hE.1 p (hm p h')).2]
 ·rw[QmC h5]at hv;by_cases h4:o.card=4
  ·rw[QmD h4]at hv;rw[QmD h4,QmD h4];split at hv
   ·omega
   have hL:=YA.1 hv;show V.mk 11 0 [] ((v.list.map (ZD nm P o)).map (ZD nm P o)) [] [] []=_;rw[Qom];congr 1
   exact Qol fun x hx=>DQ h ho (hL x hx)
  ·rw[QmC h4]at hv;rw[QmC h4,QmC h5,QmC h4,QmC h5];exact DQ h ho hv

theorem TN (h:∀g∈P.progs,∀v,m g v=0→nm g (nm g v)=nm g v){g:PG}(hd:g.ops.Pairwise fun a b=>a.num<b.num)(hu:∀o∈g.ops,UO P o){v:V}(hv:Uc m P g v=0):Ut nm P g (Ut nm P g v)=Ut nm P g v:=by
 obtain⟨⟨s1,_,_⟩,_,_⟩:=KH.1 hv;have hraw:Wk (Wk v.raws)=Wk v.raws:=DK (Zt QjZ _);have hsl:∀o∈g.ops,Xj nm P (g.ops.flatMap (Xj nm P v.slots)) o=Xj nm P v.slots o:=by
  intro o ho;rw[show Xj nm P (g.ops.flatMap (Xj nm P v.slots)) o=(match (g.ops.flatMap (Xj nm P v.slots)).find? (fun s=>s.1==o.num)with
   |none=>[]
   |some s=>if (decide (o.card<3) || !(Zy nm P o s.2).emp)=true then [(o.num,Zy nm P o s.2)]else [])from rfl,FX hd o ho]
  unfold Xj;cases hf:v.slots.find? (fun s=>s.1==o.num)with
  |none=>rfl
  |some s=>
   have hs1:s.1=o.num:=by simpa using Qot hf
   obtain⟨o',e1,e2⟩:=s1 s (Qos hf);rw[hs1,X5 hd ho]at e1;cases e1;have hi:=Ex h (hu o ho) e2;dsimp only;by_cases hc:(decide (o.card<3) || !(Zy nm P o s.2).emp)=true
   ·rw[QmD hc];show(if (decide (o.card<3) || !(Zy nm P o (Zy nm P o s.2)).emp)=true then [(o.num,Zy nm P o (Zy nm P o s.2))]else [])=_;rw[hi,QmD hc]
   ·rw[QmC hc];rfl
 have hall:∀ {l:List PO} {a b:PO→List (Int×V)},(∀o∈l,a o=b o)→l.flatMap a=l.flatMap b:=by
  intro l a b
  induction l with
  |nil=>intro _;rfl
  |cons x l ih=>
   intro h;rw[Qn0,Qn0,h x (by simp),ih fun o ho=>h o (by simp[ho])]
 show V.mk 10 0 [] [] [] (g.ops.flatMap (Xj nm P (g.ops.flatMap (Xj nm P v.slots)))) (Wk (Wk v.raws))=_;rw[hraw,hall hsl];rfl

end

theorem Co {P:PL}(hU:Kt P)(hr:ZG P):∀(n:Nat) (g:PG),g∈P.progs→∀v:V,Za P n g v=0→Zb P n g (Zb P n g v)=Zb P n g v
 |0,_,_,_,_=>rfl
 |n+1,g,hg,_,h=>TN (fun g hg v h=>Co hU hr n g hg v h) (hr g hg) (hU g hg) (KH.2 (WJ.1 h).2)

def KI (l:List (Int×V)):List (Int×V):=QF (fun x y=>decide (x.1<y.1)) l
theorem Qkc:SW fun x y:Int×V=>decide (x.1<y.1) where
 irr x:=by simp
 tr x y z h k:=by simp only[Qmz]at *;omega
 nt x y z h k:=by simp only[Qov]at *;omega

theorem TO:∀ {a b:List (Int×V)},(a.Pairwise fun x y=>x.1<y.1)→(b.Pairwise fun x y=>x.1<y.1)→(∀x,x∈a↔x∈b)→a=b
 | [],[],_,_,_=>rfl
 | [],y :: b,_,_,h=>by have:=(h y).2 (by simp);cases this
 |x :: a,[],_,_,h=>by have:=(h x).1 (by simp);cases this
 |x :: a,y :: b,ha,hb,h=>by
  obtain⟨a1,a2⟩:=Qn5.1 ha;obtain⟨b1,b2⟩:=Qn5.1 hb;have e:x=y:=by
   rcases QnS.1 ((h x).1 (by simp))with e|e
   ·exact e
   ·rcases QnS.1 ((h y).2 (by simp))with e'|e'
    ·exact e'.symm
    ·have:=b1 x e;have:=a1 y e';omega
  subst e;congr 1
  refine TO a2 b2 fun z=>?_
  have hz:=h z;simp only[QnS]at hz
  constructor
  ·intro hm;rcases hz.1 (.inr hm)with e|e
   ·subst e;have:=a1 z hm;omega
   ·exact e
  ·intro hm;rcases hz.2 (.inr hm)with e|e
   ·subst e;have:=b1 z hm;omega
   ·exact e

section
variable {m:PG→V→Int}(nm:PG→V→V)(P:PL)

def WV (o:PO)(s:Int×V):List (Int×V):=if (decide (o.card<3) || !(Zy nm P o s.2).emp)=true then [(o.num,Zy nm P o s.2)]else []
def JM (g:PG)(s:Int×V):List (Int×V):=match Xq g s.1 with
 |none=>[]
 |some o=>WV nm P o s

theorem TP {o:PO}{s x:Int×V}:x∈WV nm P o s↔(decide (o.card<3) || !(Zy nm P o s.2).emp)=true∧x=(o.num,Zy nm P o s.2):=by
 unfold WV;split
 ·rename_i h;simp[h]
 ·rename_i h;simp[h]

theorem TQ {sl:List (Int×V)}(hu:sl.Pairwise fun y x=>(y.1==x.1)=false){s:Int×V}(hs:s∈sl):sl.find? (fun t=>t.1==s.1)=some s:=by
 induction sl with
 |nil=>cases hs
 |cons x l ih=>
  obtain⟨h1,h2⟩:=Qn5.1 hu;rw[Qon];rcases QnS.1 hs with rfl|hs
  ·simp
  ·rw[h1 s hs];exact ih h2 hs

theorem FY {sl:List (Int×V)}{o:PO}:Xj nm P sl o=match sl.find? (fun s=>s.1==o.num)with
  |none=>[]
  |some s=>WV nm P o s:=rfl

theorem Ey {g:PG}(hd:g.ops.Pairwise fun a b=>a.num<b.num){sl:List (Int×V)}(hu:sl.Pairwise fun y x=>(y.1==x.1)=false):(KI sl).flatMap (JM nm P g)=g.ops.flatMap (Xj nm P sl):=by
 have hp:(KI sl).Perm sl:=Q0 _;have hsu:(KI sl).Pairwise fun y x=>(y.1==x.1)=false:=(hp.pairwise_iff fun {a b} h=>by rw[Bool.beq_comm];exact h).2 hu
 have hss:Zs (fun x y:Int×V=>decide (x.1<y.1)) (KI sl):=Zt Qkc _;have hst:(KI sl).Pairwise fun x y=>x.1<y.1:=by
  unfold Zs at hss;rw[QoI]at *;intro i j hi hj hij;have h1:=hss i j hi hj hij;have h2:=hsu i j hi hj hij;simp only[Qov,Qoi]at h1 h2;omega
 have kpw:∀s,(JM nm P g s).Pairwise fun x y:Int×V=>x.1<y.1:=fun s=>by
  unfold JM;split
  ·exact .nil
  ·unfold WV;split
   ·exact QoH _ _
   ·exact .nil
 have knum:∀ {s x:Int×V},x∈JM nm P g s→x.1=s.1:=fun {s x} h=>by
  unfold JM at h;cases ho:Xq g s.1 with
  |none=>rw[ho]at h;cases h
  |some o=>
   rw[ho]at h;rw[((TP nm P).1 h).2];exact(KT ho).2
 refine TO ?_ ?_ fun x=>?_
 ·rw[List.pairwise_flatMap];refine⟨fun s _=>kpw s,hst.imp fun {a b} hab x hx y hy=>?_⟩;rw[knum hx,knum hy];exact hab
 ·rw[List.pairwise_flatMap];refine⟨fun _ _=>DN,hd.imp fun {a b} hab x hx y hy=>?_⟩;rw[(Zj hx).1,(Zj hy).1];exact hab
 ·rw[Qnh,Qnh]
  constructor
  ·rintro⟨s,hs,h⟩;unfold JM at h;cases ho:Xq g s.1 with
   |none=>rw[ho]at h;cases h
   |some o=>
    rw[ho]at h;obtain⟨hom,hon⟩:=KT ho;refine⟨o,hom,?_⟩;rw[FY,hon,TQ hu (hp.mem_iff.1 hs)];exact h
  ·rintro⟨o,ho,h⟩;rw[FY]at h;cases hf:sl.find? (fun s=>s.1==o.num)with
   |none=>rw[hf]at h;cases h
   |some s=>
    rw[hf]at h;have hs:s.1=o.num:=by simpa using Qot hf
    refine⟨s,hp.mem_iff.2 (Qos hf),?_⟩;unfold JM;rw[hs,X5 hd ho];exact h

end
end Go.Proofs.YtkhpgmeokilhaaaGreatDoor.Va

namespace Go.Proofs.YtkhpgmeokilhaaaGreatDoor.Va
open Go Am Rc Bt Br Up

theorem QS {P:Program}{K:St→Prop}{its:List Am.Item}{f:Fr}{m:Qh}{ds:List DF}{d sz len:Nat}{z y l:List AV}{ps:List (Nat×Nat×RA)}(hy:fill f ps (X9 z sz len)=some y)(h1:AV.rfL y=true)(h2:y.all AV.leaf=true)(hc:Zl sz len (y.map nn0)=l)(h:QB P its ⟨QG f d (.list l),m,ds⟩ K) :
  QB P (⟨some d,.bsl sz len z ps,none⟩ :: its) ⟨f,m,ds⟩ K:=by
 subst hc;exact⟨y,hy,h1,h2,h⟩

def Ye (v:V)(i:Nat):List V:=v.list++(v.pairs.take i).flatMap fun p=>[p.1,p.2]
def YO (v:V)(i:Nat):List V:=Ye v v.pairs.length++(v.slots.take i).map (·.2)

theorem GS (v:V)(i:Nat)(h:i≤v.pairs.length):(Ye v i).length=v.list.length+2*i:=by
 have:∀l:List (V×V),(l.flatMap fun p=>[p.1,p.2]).length=2*l.length:=by
  intro l
  induction l with
  |nil=>rfl
  |cons x l ih=>simp only[Qn0,Qm9,QmK,Qnr,ih];omega
 rw[Ye,Qm9,this,Qns];omega
theorem BX (v:V)(i:Nat)(h:i≤v.slots.length):(YO v i).length=v.list.length+2*v.pairs.length+i:=by
 rw[YO,Qm9,GS v _ (Qms _),Qnq,Qns];omega
theorem EA {v:V}{i:Nat}{x:V×V}(h:v.pairs[i]? = some x):(Ye v (i+1)).map V.av=(Ye v i).map V.av++[x.1.av,x.2.av]:=by
 unfold Ye;rw[Qok,h];simp
theorem EB {v:V}{i:Nat}{x:Int×V}(h:v.slots[i]? = some x):(YO v (i+1)).map V.av=(YO v i).map V.av++[x.2.av]:=by
 unfold YO;rw[Qok,h];simp
theorem M9 (v:V):YO v v.slots.length=Kh v:=by
 unfold YO Ye Kh;rw[Qn9,Qn9]
theorem DR (l:List V):(l.map V.av).all (fun e=>e.cells.length==7)=true:=by
 rw[List.all_map,QmI];intro x _;simp[Qe,AV.cells]

def I1 (v:V)(k:Nat)(st:St):Prop :=
 ∃f fr i g,st=⟨f,[fr],[]⟩∧k=v.pairs.length-i∧i≤v.pairs.length∧f 1=.ptr 0 1 0∧f 3=.vec 0 1000 g 0 (Ye v i).length false∧f 12=.list (v.pairs.map V.pav)∧f 13=.int .i64 (v.pairs.length:Nat)∧f 14=.int .i64 (i:Nat)∧fr 1=.cells (vc v)∧fr 1000=.vec g 7 ((Ye v i).map V.av)∧fr 7=.none∧∀s∈[5],(fr s).isRow=false
def I2 (v:V)(k:Nat)(st:St):Prop :=
 ∃f fr i g,st=⟨f,[fr],[]⟩∧k=v.slots.length-i∧i≤v.slots.length∧f 3=.vec 0 1000 g 0 (YO v i).length false∧f 27=.list (v.slots.map V.sav)∧f 28=.int .i64 (v.slots.length:Nat)∧f 29=.int .i64 (i:Nat)∧fr 1000=.vec g 7 ((YO v i).map V.av)∧∀s∈[7],(fr s).isRow=false

theorem v79 (v:V)(h:v.list.length+2*v.pairs.length+v.slots.length≤1099511627776):Qi Tryz.prog 79 [v.av] (.list ((Kh v).map V.av)):=by
 have cl:=fun fr hr=>QjS (v.list.map V.av) fr [] (DR _) (by rw[Qnq];omega) hr
 rw[Qe];refine wF Tryz.func79 ?_;simp only[eK,Tryz.f79,seval];simp only[eE,seval];refine Qg (cl _ rfl) (by simp only[Qm3,Qnx,Qa,seval]) ?_;simp only[Qnq,eE,seval];have e0:(Ye v 0).map V.av=v.list.map V.av:=by unfold Ye;simp
 have l0:=GS v 0 (QmE _);refine Qk (I1 v) _ ⟨_,_,0,_,rfl,rfl,QmE _,(by rfl),(by rw[l0];exact(by rfl)),(by rfl),(by rfl),(by rfl),(by rfl),(by rw[e0];exact(by rfl)),rfl,by simp<;>rfl⟩ ?_;rintro _ st ⟨f0,fr0,i,g,rfl,rfl,hil,h10,h30,h120,h130,h140,m10,mR0,n70,r5⟩;refine QL (a:=_) [5] r5 ?_;intro f fr hf hm hn;have h1:f 1=.ptr 0 1 0:=by rw[hf,h10]<;>rfl
 have h3:f 3=.vec 0 1000 g 0 (Ye v i).length false:=by rw[hf,h30]<;>rfl
 have h12:f 12=.list (v.pairs.map V.pav):=by rw[hf,h120]<;>rfl
 have h13:f 13=.int .i64 (v.pairs.length:Nat):=by rw[hf,h130]<;>rfl
 have h14:f 14=.int .i64 (i:Nat):=by rw[hf,h140]<;>rfl
 have m1:fr 1=.cells (vc v):=by rw[hm 1 (by decide),m10]<;>rfl
 have mR:fr 1000=.vec g 7 ((Ye v i).map V.av):=by rw[hm 1000 (by decide),mR0]<;>rfl
 have n7:fr 7=.none:=by rw[hm 7 (by decide),n70]<;>rfl
 have n5:=hn 5 (by decide);clear hf hm hn h10 h30 h120 h130 h140 m10 mR0 n70 r5 e0 l0;have m1':=m1;simp only[vc]at m1;simp only[h13,h14,Qa,seval];by_cases hlt:i<v.pairs.length
 ·obtain⟨x,hi⟩:∃x,v.pairs[i]? = some x:=⟨v.pairs[i],Qmv hlt⟩;have hg:=WG hi;have e1:=Qw i _ hlt (by simp only[maxLen];omega);have le:=GS v i hil;have ln:=GS v (i+1) hlt;simp only[QD hlt,Qv,QnY,Qf,hg,n5,h3,h12,h14,eE,seval];refine QS (l:=[x.1.av,x.2.av]) rfl rfl rfl (by rw[Qe,Qe];rfl) ?_;refine QN (site:=1000) (g:=g) (n:=(Ye v i).length) (xs:=(Ye v i).map V.av) (ys:=[x.1.av,x.2.av]) (by rfl) (by exact mR) rfl (by rw[Qnq]) rfl (DR [x.1,x.2]) (by simp only[QmK,Qnr,maxLen];omega) (by simp only[QmK,Qnr];omega) ?_;simp only[h14,e1,Qa,seval];exact⟨v.pairs.length-(i+1),by omega,_,_,i+1,g+1,rfl,rfl,by omega,(by exact h1),(by rw[ln];simp only[le,Qa,seval];rfl),(by exact h12),(by exact h13),(by rfl),(by exact m1'),(by rw[EA hi];exact(by rfl)),(by exact n7),by simp<;>rfl⟩
 have e:i=v.pairs.length:=by omega
 subst e;simp only[QI hlt,h1,m1,Qnq,eE,seval];have e0:YO v 0=Ye v v.pairs.length:=by unfold YO;simp
 refine Qk (I2 v) _ ⟨_,_,0,g,rfl,rfl,QmE _,(by rw[e0];exact(by exact h3)),(by rfl),(by rfl),(by rfl),(by rw[e0];exact(by exact mR)),by simp only[QnS,QoF,or_false,forall_eq,n7]<;>rfl⟩ ?_;clear h1 h3 h12 h13 h14 m1 m1' mR n5 n7 hil hlt e0 g;rintro _ st ⟨f0,fr0,i,g,rfl,rfl,hil,h30,h270,h280,h290,mR0,r7⟩;refine QL (a:=_) [7] r7 ?_;intro f fr hf hm hn;have h3:f 3=.vec 0 1000 g 0 (YO v i).length false:=by rw[hf,h30]<;>rfl
 have h27:f 27=.list (v.slots.map V.sav):=by rw[hf,h270]<;>rfl
 have h28:f 28=.int .i64 (v.slots.length:Nat):=by rw[hf,h280]<;>rfl
 have h29:f 29=.int .i64 (i:Nat):=by rw[hf,h290]<;>rfl
 have mR:fr 1000=.vec g 7 ((YO v i).map V.av):=by rw[hm 1000 (by decide),mR0]<;>rfl
 have n7:=hn 7 (by decide);clear hf hm hn h30 h270 h280 h290 mR0 r7;simp only[h28,h29,Qa,seval];by_cases hlt:i<v.slots.length
 ·obtain⟨x,hi⟩:∃x,v.slots[i]? = some x:=⟨v.slots[i],Qmv hlt⟩;have hg:=WH hi;have e1:=Qw i _ hlt (by simp only[maxLen];omega);have le:=BX v i hil;have ln:=BX v (i+1) hlt;simp only[QD hlt,Qv,QnY,Qf,hg,n7,h3,h27,h29,eE,seval];refine QS (l:=[x.2.av]) rfl rfl rfl (by rw[Qe];rfl) ?_;refine QN (site:=1000) (g:=g) (n:=(YO v i).length) (xs:=(YO v i).map V.av) (ys:=[x.2.av]) (by rfl) (by exact mR) rfl (by rw[Qnq]) rfl (DR [x.2]) (by simp only[QmK,Qnr,maxLen];omega) (by simp only[QmK,Qnr];omega) ?_;simp only[h29,e1,Qa,seval];exact⟨v.slots.length-(i+1),by omega,_,_,i+1,g+1,rfl,rfl,by omega,(by rw[ln];simp only[le,Qa,seval];rfl),(by exact h27),(by exact h28),(by rfl),(by rw[EB hi];exact(by rfl)),by simp<;>rfl⟩
 have e:i=v.slots.length:=by omega
 subst e;rw[M9]at h3 mR;simp only[QI hlt,h3,eE,seval];simp[AV.un,Zr,XE,mR];rw[Qm5 (by rw[Qnq];exact Qms _)]

def VcI (v:V)(k:Nat)(st:St):Prop :=
 ∃f fr i,st=⟨f,[fr],[]⟩∧k=(Kh v).length-i∧i≤(Kh v).length∧f 3=.int .i64 (IntKind.i64.wrap ((1+v.raws.length+Q9 ((Kh v).take i):Nat):Int))∧f 11=.list ((Kh v).map V.av)∧f 12=.int .i64 ((Kh v).length:Nat)∧f 13=.int .i64 (i:Nat)∧∀s∈[5],(fr s).isRow=false

theorem Qbl {v x:V}(h:x∈Kh v):x∈v.list∨(∃p∈v.pairs,x=p.1∨x=p.2)∨∃s∈v.slots,x=s.2:=by
 unfold Kh at h;simp only[QnP,Qnh,QnS,QoF,or_false,QnQ]at h;rcases h with(h|⟨p,hp,h⟩)|⟨s,hs,rfl⟩
 ·exact .inl h
 ·exact .inr (.inl ⟨p,hp,h⟩)
 ·exact .inr (.inr ⟨s,hs,rfl⟩)

theorem v39 (v:V)(hv:Thin v):Qi Tryz.prog 39 [v.av] (.int .i64 (IntKind.i64.wrap (v.cnt:Int))):=by
 revert hv
 refine V.ind (P:=fun v=>Thin v→Qi Tryz.prog 39 [v.av] (.int .i64 (IntKind.i64.wrap (v.cnt:Int)))) ?_ v;clear v;intro v hl hp hs hv;obtain⟨n,t1,t2,t3,t4⟩:=hv;have hall:∀x∈Kh v,Qi Tryz.prog 39 [x.av] (.int .i64 (IntKind.i64.wrap (x.cnt:Int))):=by
  intro x hx;rcases Qbl hx with h|⟨p,h,rfl|rfl⟩|⟨s,h,rfl⟩
  ·exact hl x h (t1 x h)
  ·exact(hp p h).1 (t2 p h)
  ·exact(hp p h).2 (t3 p h)
  ·exact hs s h (t4 s h)
 have hin:(Kh v).length≤maxLen:=by
  rw[←M9,BX v _ (Qms _)];simp only[maxLen];omega
 have c0:=v79 v n;rw[Qe]at c0;rw[Qe];refine wF Tryz.func39 ?_;simp only[eK,Tryz.f39,seval];simp only[Qnq,eE,seval];refine aC c0 ?_;simp only[Qnq,Qa,seval];refine Qk (VcI v) _ ⟨_,_,0,rfl,rfl,QmE _,(by simp only[QnF,Q9,Qm2,QoE,Int.natCast_one,Qa,seval]),(by rfl),(by rfl),(by rfl),by simp<;>rfl⟩ ?_;rintro _ st ⟨f0,fr0,i,rfl,rfl,hil,h30,h110,h120,h130,r5⟩;refine QL (a:=_) [5] r5 ?_;intro f fr hf hm hn;have h3:f 3=.int .i64 (IntKind.i64.wrap ((1+v.raws.length+Q9 ((Kh v).take i):Nat):Int)):=by rw[hf,h30]<;>rfl
 have h11:f 11=.list ((Kh v).map V.av):=by rw[hf,h110]<;>rfl
 have h12:f 12=.int .i64 ((Kh v).length:Nat):=by rw[hf,h120]<;>rfl
 have h13:f 13=.int .i64 (i:Nat):=by rw[hf,h130]<;>rfl
 have n5:=hn 5 (by decide);clear hf hm hn h30 h110 h120 h130 r5;simp only[h12,h13,Qa,seval];by_cases hlt:i<(Kh v).length
 ·obtain⟨x,hi⟩:∃x,(Kh v)[i]? = some x:=⟨(Kh v)[i],Qmv hlt⟩;have hg:=He hi;have e1:=Qw i _ hlt hin;have c1:=hall x (QmJ hi);rw[Qe]at c1;simp only[QD hlt,Qv,QnY,Qf,hg,n5,h3,h11,h13,eE,seval];refine aC c1 ?_;simp only[h13,e1,Kv,Qa,seval];exact⟨(Kh v).length-(i+1),by omega,_,_,i+1,rfl,rfl,by omega,(by rw[Nu hi];simp only[h3,←QoE,Qmr,Qa,seval]),(by exact h11),(by exact h12),(by rfl),by simp<;>rfl⟩
 have e:i=(Kh v).length:=by omega
 subst e;rw[Qn9,←Qa8]at h3;simp only[QI hlt,h3,Qa,seval]

end Go.Proofs.YtkhpgmeokilhaaaGreatDoor.Va

set_option linter.unusedVariables false
namespace Go.Proofs.YtkhpgmeokilhaaaGreatDoor.Tg
open Go Am
abbrev ja (a b:Nat):Am.Item:=⟨some a,.val (.mov (.t b)),none⟩
abbrev jb (z:Nat)(a b c:Nat):Am.Item:=⟨some a,.val (.iaddr z none (.t b) (.t c)),none⟩
abbrev jc (a b c:Nat):Am.Item:=⟨some a,.val (.bin .num .add (.t b) (.t c)),none⟩
abbrev jd (z:Nat)(a b:Nat):Am.Item:=⟨some a,.val (.loadr (some z) (.t b)),none⟩
abbrev je (a b c:Nat):Am.Item:=⟨some a,.val (.bin .num .sub (.t b) (.t c)),none⟩
abbrev jf (a b c:Nat):Am.Item:=⟨some a,.val (.bin .num .lss (.t b) (.t c)),none⟩
abbrev jg (a b c:Nat):Am.Item:=⟨some a,.val (.mov (.t b)),some (c,true)⟩
abbrev jh (a b:Nat)(c:Int):Am.Item:=⟨some a,.val (.bin .num .add (.t b) (.c (.int .i64 c))),none⟩
abbrev ji (z:Nat)(a b:Nat):Am.Item:=⟨none,.store z (.t a) (.t b),none⟩
abbrev jj (a b:Nat)(c:Int):Am.Item:=⟨some a,.val (.bin .num .sub (.t b) (.c (.int .i64 c))),none⟩
abbrev jk (a:Nat)(b:Int):Am.Item:=⟨some a,.val (.mov (.c (.int .i64 b))),none⟩
abbrev jQ (g:List Am.Item)(c:RC):RC:=.seq (.reg g) c
abbrev jD (g:List Am.Item)(c:RC):RC:=.seq (.draw g) c
abbrev jX (a b:Nat):RC:=.cond (.t a) .skip (.exit b)

def IN (z sr ro sm is st:Nat):List Am.Item:=[
  jk 10 0]
def IP (z sr ro sm is st:Nat):List Am.Item:=[
  ja 11 10,
  ja 12 3,
  jf 13 11 12]
def IQ (z sr ro sm is st:Nat):List Am.Item:=[
  ja 16 0,
  ja 17 1,
  ja 18 10,
  jc 19 17 18,
  ja 20 0,
  ja 21 2,
  ja 22 10,
  jc 23 21 22,
  ja 24 0,
  ja 25 2,
  ja 26 10,
  jc 27 25 26,
  jb z 28 24 27,
  jd z 29 28,
  ja 30 0,
  ja 31 1,
  ja 32 10,
  jc 33 31 32,
  jb z 34 30 33,
  jd z 35 34,
  jb z 36 16 19,
  ji z 36 29,
  jb z 37 20 23,
  ji z 37 35]
def IR (z sr ro sm is st:Nat):List Am.Item:=[
  ja 14 10,
  jh 15 14 1,
  ja 10 15]
def IS (z sr ro sm is st:Nat):RC:=.seq (.seq (.reg (IP z sr ro sm is st)) (jX 13 0)) (.seq (.block 1 (.draw (IQ z sr ro sm is st))) (.reg (IR z sr ro sm is st)))
def rsr (z sr ro sm is st:Nat):RC:=.seq (.reg (IN z sr ro sm is st)) (.block 0 (.loop (IS z sr ro sm is st)))
def osr:List RR:=[]

def IU (z sr ro sm is st:Nat):List Am.Item:=[
  ja 12 2,
  ja 13 1,
  je 14 12 13,
  ja 10 14]
def IV (z sr ro sm is st:Nat):List Am.Item:=[
  ja 15 3,
  ja 16 2,
  je 17 15 16,
  ja 11 17]
def IW (z sr ro sm is st:Nat):List Am.Item:=[
  ja 18 10,
  ja 19 11,
  ⟨(some 20),.val (.bin .num .neq (.t 18) (.t 19)),none⟩]
def IX (z sr ro sm is st:Nat):List Am.Item:=[
  ja 21 10,
  ja 22 11,
  ⟨(some 23),.val (.bin .num .gtr (.t 21) (.t 22)),none⟩]
def IY (z sr ro sm is st:Nat):List Am.Item:=[
  ja 24 0,
  ja 25 2,
  ja 26 10,
  je 27 25 26,
  ja 28 2,
  ja 29 11,
  ja 30 4,
  ⟨(some 31),.callF (.f sr) [(.t 24),(.t 27),(.t 28),(.t 29),(.t 30)],none⟩]
def IZ (z sr ro sm is st:Nat):List Am.Item:=[
  ja 32 10,
  ja 33 11,
  je 34 32 33,
  ja 10 34]
def I0 (z sr ro sm is st:Nat):List Am.Item:=[
  ja 35 0,
  ja 36 2,
  ja 37 10,
  je 38 36 37,
  ja 39 2,
  ja 40 11,
  jc 41 39 40,
  ja 42 10,
  je 43 41 42,
  ja 44 10,
  ja 45 4,
  ⟨(some 46),.callF (.f sr) [(.t 35),(.t 38),(.t 43),(.t 44),(.t 45)],none⟩]
def I3 (z sr ro sm is st:Nat):List Am.Item:=[
  ja 47 11,
  ja 48 10,
  je 49 47 48,
  ja 11 49]
def I4 (z sr ro sm is st:Nat):RC:=.seq (.seq (.reg (IW z sr ro sm is st)) (jX 20 0)) (.block 1 (.seq (.reg (IX z sr ro sm is st)) (.cond (.t 23) (.seq (.reg (IY z sr ro sm is st)) (.reg (IZ z sr ro sm is st))) (.seq (.reg (I0 z sr ro sm is st)) (.reg (I3 z sr ro sm is st))))))
def I5 (z sr ro sm is st:Nat):List Am.Item:=[
  ja 50 0,
  ja 51 2,
  ja 52 10,
  je 53 51 52,
  ja 54 2,
  ja 55 10,
  ja 56 4,
  ⟨(some 57),.callF (.f sr) [(.t 50),(.t 53),(.t 54),(.t 55),(.t 56)],none⟩]
def rro (z sr ro sm is st:Nat):RC:=.seq (.reg (IU z sr ro sm is st)) (.seq (.reg (IV z sr ro sm is st)) (.seq (.block 0 (.loop (I4 z sr ro sm is st))) (.reg (I5 z sr ro sm is st))))
def oro:List RR:=[]

def NZ (z sr ro sm is st:Nat):List Am.Item:=[
  ja 25 2,
  ja 26 1,
  je 27 25 26,
  ⟨(some 28),.val (.bin .num .eql (.t 27) (.c (.int .i64 1))),none⟩]
def RJ (z sr ro sm is st:Nat):List Am.Item:=[
  ja 29 2,
  ja 10 29]
def RK (z sr ro sm is st:Nat):List Am.Item:=[
  ja 30 3,
  ja 11 30]
def I6 (z sr ro sm is st:Nat):List Am.Item:=[
  ja 31 10,
  ja 32 11,
  jf 33 31 32]
def I7 (z sr ro sm is st:Nat):List Am.Item:=[
  ja 34 10,
  ja 35 11,
  jc 36 34 35,
  ⟨(some 37),.val (.cvi .u64 (.t 36)),none⟩,
  ⟨(some 38),.val (.bin .num .shr (.t 37) (.c (.int .u64 1))),none⟩,
  ⟨(some 39),.val (.cvi .i64 (.t 38)),none⟩,
  ja 12 39]
def I8 (z sr ro sm is st:Nat):List Am.Item:=[
  ja 40 4,
  ja 41 0,
  ja 42 12,
  jb z 43 41 42,
  jd z 44 43,
  ja 45 0,
  ja 46 1,
  jb z 47 45 46,
  jd z 48 47,
  ⟨(some 49),.call (.t 40) [(.t 44),(.t 48)],none⟩,
  ⟨(some 50),.val (.bin .num .lss (.t 49) (.c (.int .i64 0))),none⟩]
def I9 (z sr ro sm is st:Nat):List Am.Item:=[
  ja 51 12,
  jh 52 51 1,
  ja 10 52]
def La (z sr ro sm is st:Nat):List Am.Item:=[
  ja 53 12,
  ja 11 53]
def Lb (z sr ro sm is st:Nat):RC:=.seq (.seq (.reg (I6 z sr ro sm is st)) (jX 33 0)) (.block 1 (.seq (.reg (I7 z sr ro sm is st)) (.seq (.draw (I8 z sr ro sm is st)) (.cond (.t 50) (.reg (I9 z sr ro sm is st)) (.reg (La z sr ro sm is st))))))
def RL (z sr ro sm is st:Nat):List Am.Item:=[
  ja 54 1,
  ja 13 54]
def Lc (z sr ro sm is st:Nat):List Am.Item:=[
  ja 55 13,
  ja 56 10,
  jj 57 56 1,
  jf 58 55 57]
def TR (z sr ro sm is st:Nat):List Am.Item:=[
  ja 61 0,
  ja 62 13,
  ja 63 0,
  ja 64 13,
  jh 65 64 1,
  ja 66 0,
  ja 67 13,
  jh 68 67 1,
  jb z 69 66 68,
  jd z 70 69,
  ja 71 0,
  ja 72 13,
  jb z 73 71 72,
  jd z 74 73,
  jb z 75 61 62,
  ji z 75 70,
  jb z 76 63 65,
  ji z 76 74]
def TS (z sr ro sm is st:Nat):List Am.Item:=[
  ja 59 13,
  jh 60 59 1,
  ja 13 60]
def Ld (z sr ro sm is st:Nat):RC:=.seq (.seq (.reg (Lc z sr ro sm is st)) (jX 58 2)) (.seq (.block 3 (.draw (TR z sr ro sm is st))) (.reg (TS z sr ro sm is st)))
def FZ (z sr ro sm is st:Nat):List Am.Item:=[
  ja 77 3,
  ja 78 2,
  je 79 77 78,
  ⟨(some 80),.val (.bin .num .eql (.t 79) (.c (.int .i64 1))),none⟩]
def Cq (z sr ro sm is st:Nat):List Am.Item:=[
  ja 81 1,
  ja 14 81]
def Cr (z sr ro sm is st:Nat):List Am.Item:=[
  ja 82 2,
  ja 15 82]
def Ct (z sr ro sm is st:Nat):List Am.Item:=[
  ja 83 14,
  ja 84 15,
  jf 85 83 84]
def Cu (z sr ro sm is st:Nat):List Am.Item:=[
  ja 86 14,
  ja 87 15,
  jc 88 86 87,
  ⟨(some 89),.val (.cvi .u64 (.t 88)),none⟩,
  ⟨(some 90),.val (.bin .num .shr (.t 89) (.c (.int .u64 1))),none⟩,
  ⟨(some 91),.val (.cvi .i64 (.t 90)),none⟩,
  ja 16 91]
def Cv (z sr ro sm is st:Nat):List Am.Item:=[
  ja 92 4,
  ja 93 0,
  ja 94 2,
  jb z 95 93 94,
  jd z 96 95,
  ja 97 0,
  ja 98 16,
  jb z 99 97 98,
  jd z 100 99,
  ⟨(some 101),.call (.t 92) [(.t 96),(.t 100)],none⟩,
  ⟨(some 102),.val (.bin .num .lss (.t 101) (.c (.int .i64 0))),none⟩,
  ⟨(some 103),.val (.un .not (.t 102)),none⟩]
def Cw (z sr ro sm is st:Nat):List Am.Item:=[
  ja 104 16,
  jh 105 104 1,
  ja 14 105]
def Cx (z sr ro sm is st:Nat):List Am.Item:=[
  ja 106 16,
  ja 15 106]
def RM (z sr ro sm is st:Nat):RC:=.seq (.seq (.reg (Ct z sr ro sm is st)) (jX 85 4)) (.block 5 (.seq (.reg (Cu z sr ro sm is st)) (.seq (.draw (Cv z sr ro sm is st)) (.cond (.t 103) (.reg (Cw z sr ro sm is st)) (.reg (Cx z sr ro sm is st))))))
def Cy (z sr ro sm is st:Nat):List Am.Item:=[
  ja 107 2,
  ja 17 107]
def Cz (z sr ro sm is st:Nat):List Am.Item:=[
  ja 108 17,
  ja 109 14,
  ⟨(some 110),.val (.bin .num .gtr (.t 108) (.t 109)),none⟩]
def CA (z sr ro sm is st:Nat):List Am.Item:=[
  ja 113 0,
  ja 114 17,
  ja 115 0,
  ja 116 17,
  jj 117 116 1,
  ja 118 0,
  ja 119 17,
  jj 120 119 1,
  jb z 121 118 120,
  jd z 122 121,
  ja 123 0,
  ja 124 17,
  jb z 125 123 124,
  jd z 126 125,
  jb z 127 113 114,
  ji z 127 122,
  jb z 128 115 117,
  ji z 128 126]
def CB (z sr ro sm is st:Nat):List Am.Item:=[
  ja 111 17,
  jj 112 111 1,
  ja 17 112]
def RP (z sr ro sm is st:Nat):RC:=.seq (.seq (.reg (Cz z sr ro sm is st)) (jX 110 6)) (.seq (.block 7 (.draw (CA z sr ro sm is st))) (.reg (CB z sr ro sm is st)))
def F0 (z sr ro sm is st:Nat):List Am.Item:=[
  ja 129 1,
  ja 130 3,
  jc 131 129 130,
  ⟨(some 132),.val (.cvi .u64 (.t 131)),none⟩,
  ⟨(some 133),.val (.bin .num .shr (.t 132) (.c (.int .u64 1))),none⟩,
  ⟨(some 134),.val (.cvi .i64 (.t 133)),none⟩,
  ja 18 134]
def F1 (z sr ro sm is st:Nat):List Am.Item:=[
  ja 135 18,
  ja 136 2,
  jc 137 135 136,
  ja 19 137]
def F2 (z sr ro sm is st:Nat):List Am.Item:=[
  jk 20 0,
  jk 21 0]
def F3 (z sr ro sm is st:Nat):List Am.Item:=[
  ja 138 2,
  ja 139 18,
  ⟨(some 140),.val (.bin .num .gtr (.t 138) (.t 139)),none⟩]
def F4 (z sr ro sm is st:Nat):List Am.Item:=[
  ja 141 19,
  ja 142 3,
  je 143 141 142,
  ja 20 143]
def F5 (z sr ro sm is st:Nat):List Am.Item:=[
  ja 144 18,
  ja 21 144]
def F6 (z sr ro sm is st:Nat):List Am.Item:=[
  ja 145 1,
  ja 20 145]
def F7 (z sr ro sm is st:Nat):List Am.Item:=[
  ja 146 2,
  ja 21 146]
def F8 (z sr ro sm is st:Nat):List Am.Item:=[
  ja 147 19,
  jj 148 147 1,
  ja 22 148]
def F9 (z sr ro sm is st:Nat):List Am.Item:=[
  ja 149 20,
  ja 150 21,
  jf 151 149 150]
def Ba (z sr ro sm is st:Nat):List Am.Item:=[
  ja 152 20,
  ja 153 21,
  jc 154 152 153,
  ⟨(some 155),.val (.cvi .u64 (.t 154)),none⟩,
  ⟨(some 156),.val (.bin .num .shr (.t 155) (.c (.int .u64 1))),none⟩,
  ⟨(some 157),.val (.cvi .i64 (.t 156)),none⟩,
  ja 23 157]
def Bb (z sr ro sm is st:Nat):List Am.Item:=[
  ja 158 4,
  ja 159 0,
  ja 160 22,
  ja 161 23,
  je 162 160 161,
  jb z 163 159 162,
  jd z 164 163,
  ja 165 0,
  ja 166 23,
  jb z 167 165 166,
  jd z 168 167,
  ⟨(some 169),.call (.t 158) [(.t 164),(.t 168)],none⟩,
  ⟨(some 170),.val (.bin .num .lss (.t 169) (.c (.int .i64 0))),none⟩,
  ⟨(some 171),.val (.un .not (.t 170)),none⟩]
def Bc (z sr ro sm is st:Nat):List Am.Item:=[
  ja 172 23,
  jh 173 172 1,
  ja 20 173]
def Bd (z sr ro sm is st:Nat):List Am.Item:=[
  ja 174 23,
  ja 21 174]
def Be (z sr ro sm is st:Nat):RC:=.seq (.seq (.reg (F9 z sr ro sm is st)) (jX 151 8)) (.block 9 (.seq (.reg (Ba z sr ro sm is st)) (.seq (.draw (Bb z sr ro sm is st)) (.cond (.t 171) (.reg (Bc z sr ro sm is st)) (.reg (Bd z sr ro sm is st))))))
def UK (z sr ro sm is st:Nat):List Am.Item:=[
  ja 175 19,
  ja 176 20,
  je 177 175 176,
  ja 24 177]
def UL (z sr ro sm is st:Nat):List Am.Item:=[
  ja 178 20,
  ja 179 2,
  jf 180 178 179,
  ja 181 180,
  jg 182 2 181,
  jg 183 24 181,
  ⟨(some 184),.val (.bin .num .lss (.t 182) (.t 183)),(some (181,true))⟩,
  ⟨(some 185),.val (.pick (.t 181) (.t 184) (.c (.bool false))),none⟩]
def UM (z sr ro sm is st:Nat):List Am.Item:=[
  ja 186 0,
  ja 187 20,
  ja 188 2,
  ja 189 24,
  ja 190 4,
  ⟨(some 191),.callF (.f ro) [(.t 186),(.t 187),(.t 188),(.t 189),(.t 190)],none⟩]
def YP (z sr ro sm is st:Nat):List Am.Item:=[
  ja 192 1,
  ja 193 20,
  jf 194 192 193,
  ja 195 194,
  jg 196 20 195,
  jg 197 18 195,
  ⟨(some 198),.val (.bin .num .lss (.t 196) (.t 197)),(some (195,true))⟩,
  ⟨(some 199),.val (.pick (.t 195) (.t 198) (.c (.bool false))),none⟩]
def YQ (z sr ro sm is st:Nat):List Am.Item:=[
  ja 200 0,
  ja 201 1,
  ja 202 20,
  ja 203 18,
  ja 204 4,
  ⟨(some 205),.callF (.f sm) [(.t 200),(.t 201),(.t 202),(.t 203),(.t 204)],none⟩]
def Wp (z sr ro sm is st:Nat):List Am.Item:=[
  ja 206 18,
  ja 207 24,
  jf 208 206 207,
  ja 209 208,
  jg 210 24 209,
  jg 211 3 209,
  ⟨(some 212),.val (.bin .num .lss (.t 210) (.t 211)),(some (209,true))⟩,
  ⟨(some 213),.val (.pick (.t 209) (.t 212) (.c (.bool false))),none⟩]
def Wq (z sr ro sm is st:Nat):List Am.Item:=[
  ja 214 0,
  ja 215 18,
  ja 216 24,
  ja 217 3,
  ja 218 4,
  ⟨(some 219),.callF (.f sm) [(.t 214),(.t 215),(.t 216),(.t 217),(.t 218)],none⟩]
def Le (z sr ro sm is st:Nat):RC:=.seq (.seq (.reg (NZ z sr ro sm is st)) (.cond (.t 28) (.seq (.reg (RJ z sr ro sm is st)) (.seq (.reg (RK z sr ro sm is st)) (.seq (.block 0 (.loop (Lb z sr ro sm is st))) (.seq (.seq (.reg (RL z sr ro sm is st)) (.block 2 (.loop (Ld z sr ro sm is st)))) (.ret))))) (.skip))) (.seq (.seq (.reg (FZ z sr ro sm is st)) (.cond (.t 80) (.seq (.reg (Cq z sr ro sm is st)) (.seq (.reg (Cr z sr ro sm is st)) (.seq (.block 4 (.loop (RM z sr ro sm is st))) (.seq (.seq (.reg (Cy z sr ro sm is st)) (.block 6 (.loop (RP z sr ro sm is st)))) (.ret))))) (.skip))) (.seq (.reg (F0 z sr ro sm is st)) (.seq (.reg (F1 z sr ro sm is st)) (.seq (.reg (F2 z sr ro sm is st)) (.seq (.seq (.reg (F3 z sr ro sm is st)) (.cond (.t 140) (.seq (.reg (F4 z sr ro sm is st)) (.reg (F5 z sr ro sm is st))) (.seq (.reg (F6 z sr ro sm is st)) (.reg (F7 z sr ro sm is st))))) (.seq (.reg (F8 z sr ro sm is st)) (.seq (.block 8 (.loop (Be z sr ro sm is st))) (.seq (.reg (UK z sr ro sm is st)) (.seq (.seq (.reg (UL z sr ro sm is st)) (.cond (.t 185) (.reg (UM z sr ro sm is st)) (.skip))) (.seq (.seq (.reg (YP z sr ro sm is st)) (.cond (.t 199) (.reg (YQ z sr ro sm is st)) (.skip))) (.seq (.reg (Wp z sr ro sm is st)) (.cond (.t 213) (.reg (Wq z sr ro sm is st)) (.skip)))))))))))))
def Bf:List RR:=[]

def Lf (z sr ro sm is st:Nat):List Am.Item:=[
  ja 10 1,
  jh 11 10 1,
  ja 8 11]
def Lg (z sr ro sm is st:Nat):List Am.Item:=[
  ja 12 8,
  ja 13 2,
  jf 14 12 13]
def Lh (z sr ro sm is st:Nat):List Am.Item:=[
  ja 17 8,
  ja 9 17]
def Li (z sr ro sm is st:Nat):List Am.Item:=[
  ja 18 9,
  ja 19 1,
  ⟨(some 20),.val (.bin .num .gtr (.t 18) (.t 19)),none⟩,
  ja 21 20,
  jg 22 3 21,
  jg 23 0 21,
  jg 24 9 21,
  ⟨(some 25),.val (.iaddr z none (.t 23) (.t 24)),(some (21,true))⟩,
  ⟨(some 26),.val (.loadr (some z) (.t 25)),(some (21,true))⟩,
  jg 27 0 21,
  jg 28 9 21,
  ⟨(some 29),.val (.bin .num .sub (.t 28) (.c (.int .i64 1))),(some (21,true))⟩,
  ⟨(some 30),.val (.iaddr z none (.t 27) (.t 29)),(some (21,true))⟩,
  ⟨(some 31),.val (.loadr (some z) (.t 30)),(some (21,true))⟩,
  ⟨(some 32),.call (.t 22) [(.t 26),(.t 31)],(some (21,true))⟩,
  ⟨(some 33),.val (.bin .num .lss (.t 32) (.c (.int .i64 0))),(some (21,true))⟩,
  ⟨(some 34),.val (.pick (.t 21) (.t 33) (.c (.bool false))),none⟩]
def Lj (z sr ro sm is st:Nat):List Am.Item:=[
  ja 37 0,
  ja 38 9,
  ja 39 0,
  ja 40 9,
  jj 41 40 1,
  ja 42 0,
  ja 43 9,
  jj 44 43 1,
  jb z 45 42 44,
  jd z 46 45,
  ja 47 0,
  ja 48 9,
  jb z 49 47 48,
  jd z 50 49,
  jb z 51 37 38,
  ji z 51 46,
  jb z 52 39 41,
  ji z 52 50]
def Lk (z sr ro sm is st:Nat):List Am.Item:=[
  ja 35 9,
  jj 36 35 1,
  ja 9 36]
def Ll (z sr ro sm is st:Nat):RC:=.seq (.seq (.draw (Li z sr ro sm is st)) (jX 34 2)) (.seq (.block 3 (.draw (Lj z sr ro sm is st))) (.reg (Lk z sr ro sm is st)))
def Lm (z sr ro sm is st:Nat):List Am.Item:=[
  ja 15 8,
  jh 16 15 1,
  ja 8 16]
def Ln (z sr ro sm is st:Nat):RC:=.seq (.seq (.reg (Lg z sr ro sm is st)) (jX 14 0)) (.seq (.block 1 (.seq (.reg (Lh z sr ro sm is st)) (.block 2 (.loop (Ll z sr ro sm is st))))) (.reg (Lm z sr ro sm is st)))
def ris (z sr ro sm is st:Nat):RC:=.seq (.reg (Lf z sr ro sm is st)) (.block 0 (.loop (Ln z sr ro sm is st)))
def ois:List RR:=[]

def Lo (z sr ro sm is st:Nat):List Am.Item:=[
  jk 6 20]
def Lp (z sr ro sm is st:Nat):List Am.Item:=[
  ja 10 6,
  jk 7 0,
  ja 8 10]
def Lq (z sr ro sm is st:Nat):List Am.Item:=[
  ja 11 8,
  ja 12 1,
  ⟨(some 13),.val (.bin .num .leq (.t 11) (.t 12)),none⟩]
def Lr (z sr ro sm is st:Nat):List Am.Item:=[
  ja 14 0,
  ja 15 7,
  ja 16 8,
  ja 17 2,
  ⟨(some 18),.callF (.f is) [(.t 14),(.t 15),(.t 16),(.t 17)],none⟩]
def Ls (z sr ro sm is st:Nat):List Am.Item:=[
  ja 19 8,
  ja 7 19]
def Lt (z sr ro sm is st:Nat):List Am.Item:=[
  ja 20 8,
  ja 21 6,
  jc 22 20 21,
  ja 8 22]
def Lu (z sr ro sm is st:Nat):RC:=.seq (.seq (.reg (Lq z sr ro sm is st)) (jX 13 0)) (.block 1 (.seq (.reg (Lr z sr ro sm is st)) (.seq (.reg (Ls z sr ro sm is st)) (.reg (Lt z sr ro sm is st)))))
def Lv (z sr ro sm is st:Nat):List Am.Item:=[
  ja 23 0,
  ja 24 7,
  ja 25 1,
  ja 26 2,
  ⟨(some 27),.callF (.f is) [(.t 23),(.t 24),(.t 25),(.t 26)],none⟩]
def Lw (z sr ro sm is st:Nat):List Am.Item:=[
  ja 28 6,
  ja 29 1,
  jf 30 28 29]
def Lx (z sr ro sm is st:Nat):List Am.Item:=[
  ja 31 6,
  ⟨(some 32),.val (.bin .num .mul (.c (.int .i64 2)) (.t 31)),none⟩,
  jk 7 0,
  ja 8 32]
def Ly (z sr ro sm is st:Nat):List Am.Item:=[
  ja 33 8,
  ja 34 1,
  ⟨(some 35),.val (.bin .num .leq (.t 33) (.t 34)),none⟩]
def TT (z sr ro sm is st:Nat):List Am.Item:=[
  ja 36 0,
  ja 37 7,
  ja 38 7,
  ja 39 6,
  jc 40 38 39,
  ja 41 8,
  ja 42 2,
  ⟨(some 43),.callF (.f sm) [(.t 36),(.t 37),(.t 40),(.t 41),(.t 42)],none⟩]
def TU (z sr ro sm is st:Nat):List Am.Item:=[
  ja 44 8,
  ja 7 44]
def TV (z sr ro sm is st:Nat):List Am.Item:=[
  ja 45 8,
  ja 46 6,
  ⟨(some 47),.val (.bin .num .mul (.c (.int .i64 2)) (.t 46)),none⟩,
  jc 48 45 47,
  ja 8 48]
def Lz (z sr ro sm is st:Nat):RC:=.seq (.seq (.reg (Ly z sr ro sm is st)) (jX 35 4)) (.block 5 (.seq (.reg (TT z sr ro sm is st)) (.seq (.reg (TU z sr ro sm is st)) (.reg (TV z sr ro sm is st)))))
def TW (z sr ro sm is st:Nat):List Am.Item:=[
  ja 49 7,
  ja 50 6,
  jc 51 49 50,
  ja 9 51]
def TX (z sr ro sm is st:Nat):List Am.Item:=[
  ja 52 9,
  ja 53 1,
  jf 54 52 53]
def TZ (z sr ro sm is st:Nat):List Am.Item:=[
  ja 55 0,
  ja 56 7,
  ja 57 9,
  ja 58 1,
  ja 59 2,
  ⟨(some 60),.callF (.f sm) [(.t 55),(.t 56),(.t 57),(.t 58),(.t 59)],none⟩]
def CC (z sr ro sm is st:Nat):List Am.Item:=[
  ja 61 6,
  ⟨(some 62),.val (.bin .num .mul (.t 61) (.c (.int .i64 2))),none⟩,
  ja 6 62]
def LA (z sr ro sm is st:Nat):RC:=.seq (.seq (.reg (Lw z sr ro sm is st)) (jX 30 2)) (.block 3 (.seq (.reg (Lx z sr ro sm is st)) (.seq (.block 4 (.loop (Lz z sr ro sm is st))) (.seq (.seq (.reg (TW z sr ro sm is st)) (.seq (.reg (TX z sr ro sm is st)) (.cond (.t 54) (.reg (TZ z sr ro sm is st)) (.skip)))) (.reg (CC z sr ro sm is st))))))
def rst (z sr ro sm is st:Nat):RC:=.seq (.reg (Lo z sr ro sm is st)) (.seq (.reg (Lp z sr ro sm is st)) (.seq (.block 0 (.loop (Lu z sr ro sm is st))) (.seq (.reg (Lv z sr ro sm is st)) (.block 2 (.loop (LA z sr ro sm is st))))))
def ost:List RR:=[]

def LB (z sr ro sm is st:Nat):List Am.Item:=[
  ja 4 0,
  ja 5 0,
  ⟨(some 6),.val (.len 1 (.t 5)),none⟩,
  ja 7 1,
  ⟨(some 8),.callF (.f st) [(.t 4),(.t 6),(.t 7)],none⟩]
def rss (z sr ro sm is st:Nat):RC:=.reg (LB z sr ro sm is st)
def oss:List RR:=[]

structure Cs (P:Program)(z sr ro sm is st ss:Nat):Prop where
 csr:CK P sr 38 (rsr z sr ro sm is st) osr
 cro:CK P ro 58 (rro z sr ro sm is st) oro
 csm:CK P sm 220 (Le z sr ro sm is st) Bf
 cis:CK P is 53 (ris z sr ro sm is st) ois
 cst:CK P st 63 (rst z sr ro sm is st) ost
 css:CK P ss 9 (rss z sr ro sm is st) oss

end Go.Proofs.YtkhpgmeokilhaaaGreatDoor.Tg

namespace Go.Proofs.YtkhpgmeokilhaaaGreatDoor.Am
open Go Bt

def Ez (E:AV→Prop)(sz:Nat)(x:AV):Prop:=E x∧∃l,x=.agg l∧l.length=sz∧AV.rfL l=true∧l.all AV.leaf=true∧∀m,AV.stillL false m l=some l

variable {E:AV→Prop}

theorem Ez.part {sz:Nat}{x:AV}(h:Ez E sz x):Am.part x.cells 0 (some sz)=some x:=by
 obtain⟨_,l,rfl,rfl,_,_,_⟩:=h;simp[Am.part,AV.cells]
theorem Ez.len {sz:Nat}{x:AV}(h:Ez E sz x):x.cells.length=sz:=by
 obtain⟨_,l,rfl,rfl,_,_,_⟩:=h;rfl
theorem Ez.leaf {sz:Nat}{x:AV}(h:Ez E sz x):x.cells.all AV.leaf=true:=by
 obtain⟨_,l,rfl,_,_,h,_⟩:=h;exact h
theorem Ez.rf {sz:Nat}{x:AV}(h:Ez E sz x):x.rf=true:=by
 obtain⟨_,l,rfl,_,h,_,_⟩:=h;exact h

theorem Ez.still {sz:Nat}{x:AV}(h:Ez E sz x)(m:Qh):x.still false m=some x:=by
 obtain⟨_,l,rfl,_,_,_,h⟩:=h;simp only[AV.still,h m,QmV]
theorem Ug {sz:Nat}{x y:AV}(h:Ez E sz x)(k:Ez E sz y)(m:Qh):AV.stillL false m [x,y]=some [x,y]:=by
 simp only[AV.stillL,h.still,k.still]
theorem W5 {sz:Nat}{x y:AV}(h:Ez E sz x)(k:Ez E sz y):AV.rfL [x,y]=true:=by
 simp only[AV.rfL,h.rf,k.rf,Bool.and_self]

theorem Yp {P:Program}{f:Fr}{m:Qh}{ds:List DF}{its:List Item}{d:Nat}{K:St→Prop}{k:Nat}{r:RA}{args:List RA}{ys:List AV}{v:AV}(hr:r.ev f=.fn (.func k) [] [])(hk:Qi P k ys v)(hy:AV.stillL false m (args.map (RA.ev f))=some ys)(h1:AV.rfL ys=true)(h2:v.rf=true)(h3:AV.rfL (args.map (RA.ev f))=true∨v.nl=true)(h:QB P its ⟨QG f d v,m,ds⟩ K) :
  QB P (⟨some d,.call r args,none⟩ :: its) ⟨f,m,ds⟩ K:=by
 refine⟨k,[],[],ys,v,hr,?_,h1,hk,h2,?_,h⟩
 ·simpa using hy
 ·simpa using h3

theorem put_put:∀ {m:Qh} {l s:Nat} {o o':Ob},Am.put (Am.put m l s o) l s o'=Am.put m l s o'
 | [],_,_,_,_=>rfl
 |fr :: m,0,s,o,o'=>by simp only[Am.put,upd_upd']
 |fr :: m,l+1,s,o,o'=>by simp only[Am.put,put_put (m:=m)]
where
 upd_upd' {f:Nat→Ob} {d:Nat} {x y:Ob}:QG (QG f d x) d y=QG f d y:=by
  funext i;simp only[QG];cases Nat.beq i d<;>rfl

theorem put_self:∀ {m:Qh} {l s:Nat} {o:Ob},Qc m l s=o→Am.put m l s o=m
 | [],_,_,_,_=>rfl
 |fr :: m,0,s,o,h=>by
  simp only[Am.put];congr 1
  funext i;simp only[QG];cases hb:Nat.beq i s with
  |false=>rfl
  |true=>rw[Qmq hb];exact h.symm
 |fr :: m,l+1,s,o,h=>by simp only[Am.put,put_self (m:=m) h]

section
variable {m:Qh}{fr:Nat→Ob}{lv s g sz n i:Nat}{cur:List AV}{x y:AV}

theorem Yf (hlv:lv<m.length)(hx:cur[i]? = some x)(he:Ez E sz x):Xf (fr :: Am.put m lv s (.vec g sz cur)) (some sz) (.vptr (lv+1) s g i 0)=some x:=by
 have e:Qc (fr :: Am.put m lv s (.vec g sz cur)) (lv+1) s=.vec g sz cur:=Qo hlv;simp only[Xf,e,if_true,hx,he.part]

theorem Gm (hlv:lv<m.length)(hx:cur[i]? = some x)(he:Ez E sz x)(hy:Ez E sz y)(h0:sz≠0):Xa (fr :: Am.put m lv s (.vec g sz cur)) (.vptr (lv+1) s g i 0) y.cells=some (fr :: Am.put m lv s (.vec g sz (cur.set i y))):=by
 have e:Qc (fr :: Am.put m lv s (.vec g sz cur)) (lv+1) s=.vec g sz cur:=Qo hlv;obtain⟨_,l,rfl,hl,_,_,_⟩:=he;obtain⟨_,k,rfl,hk,hf,_,_⟩:=hy;have hc:0+(AV.agg k).cells.length≤(AV.agg l).cells.length∧(AV.agg k).cells.length≠0∧AV.rfL (AV.agg k).cells=true:=by
  simp only[AV.cells];exact⟨by omega,by omega,hf⟩
 simp only[Xa,e,if_true,hx,QmD hc];have hs:splice l 0 k=k:=by
  simp only[splice,QnF,QmS,QmU];rw[Qm8 (by omega),Qnz]
 simp only[Jd,AV.cells,hs,Am.put,put_put]

theorem Yg (hlv:lv<m.length)(hi:i<n):Qf (fr :: Am.put m lv s (.vec g sz cur)) sz none (.vec (lv+1) s g 0 n false) ((i:Nat):Int)=some (.vptr (lv+1) s g i 0):=by
 have e:Qc (fr :: Am.put m lv s (.vec g sz cur)) (lv+1) s=.vec g sz cur:=Qo hlv;simp only[Qf,e,QnY];rw[QmD (by omega),QmD ⟨trivial,trivial,hi⟩,QmU]

end

theorem put_len:∀ {m:Qh} {l s:Nat} {o:Ob},(Am.put m l s o).length=m.length
 | [],_,_,_=>rfl
 |_ :: _,0,_,_=>rfl
 |fr :: m,l+1,s,o=>by simp only[Am.put,QmK,put_len (m:=m)]

theorem wn (n:Nat)(h:n<9223372036854775808):IntKind.i64.wrap ((n:Nat):Int)=((n:Nat):Int):=by
 rw[QC];omega

end Go.Proofs.YtkhpgmeokilhaaaGreatDoor.Am

namespace Go.Proofs.YtkhpgmeokilhaaaGreatDoor.Tz
open Go Am Bt Tg
variable {Pg:Program}{cz sr ro sm is st ss:Nat}(hC:Tg.Cs Pg cz sr ro sm is st ss)(hcz:cz≠0)

variable {E:AV→Prop}

def SwI (X cur:List AV)(p q i:Nat):Prop :=
 cur.length=X.length∧∀j,cur[j]? = if p≤j∧j<p+i then X[q+(j-p)]? else if q≤j∧j<q+i then X[p+(j-q)]? else X[j]?

theorem SwI.step {X cur:List AV}{p q i n:Nat}(h:SwI X cur p q i)(hi:i<n)(hpq:p+n≤q)(hq:q+n≤X.length){x y:AV}(hx:X[q+i]? = some x)(hy:X[p+i]? = some y) :
  SwI X ((cur.set (p+i) x).set (q+i) y) p q (i+1):=by
 obtain⟨h1,h2⟩:=h;refine⟨by simp[h1],fun j=>?_⟩;rw[List.getElem?_set,List.length_set,h1,List.getElem?_set,h1,h2 j];by_cases a:q+i=j
 ·subst a;rw[QmD rfl,QmD (by omega),QmC (by omega),QmD (by omega),show p+(q+i-q)=p+i by omega,hy]
 ·rw[QmC a];by_cases b:p+i=j
  ·subst b;rw[QmD rfl,QmD (by omega),QmD (by omega),show q+(p+i-p)=q+i by omega,hx]
  ·rw[QmC b]
   repeat' split
   all_goals first|rfl|(exfalso;omega)|(congr 1;omega)

theorem SwI.done {P A M B S cur:List AV}(h:SwI (P++A++M++B++S) cur P.length (P.length+A.length+M.length) A.length)(hAB:A.length=B.length):cur=P++B++M++A++S:=by
 apply List.ext_getElem?
 intro j;rw[h.2 j];simp only[List.getElem?_append,Qm9]
 repeat' split
 all_goals first|rfl|(exfalso;omega)|(congr 1;omega)

def SwS (cz:Nat)(m:Qh)(lv s g N p q n:Nat)(X:List AV)(k:Nat)(st:St):Prop :=
 ∃f i cur,st=⟨f,[Qb]++Am.put m lv s (.vec g cz cur),[]⟩∧k=n-i∧i≤n∧SwI X cur p q i∧
  f 0=.vec (lv+1) s g 0 N false∧f 1=.int .i64 (p:Nat)∧f 2=.int .i64 (q:Nat)∧f 3=.int .i64 (n:Nat)∧f 10=.int .i64 (i:Nat)

include hC hcz in
theorem Qkd (cmp:AV)(lv s g:Nat)(P A M B S:List AV)(m:Qh)(hl:Am.Qc m lv s=.vec g cz (P++A++M++B++S))(hAB:A.length=B.length)(he:∀x∈P++A++M++B++S,Ez E cz x)
  (hn:(P++A++M++B++S).length<4611686018427387904) :
  Qd Pg sr [.vec lv s g 0 (P++A++M++B++S).length false,.int .i64 (P.length:Nat),.int .i64 ((P.length+A.length+M.length:Nat):Int),.int .i64 (A.length:Nat),cmp] m
   (fun x m1=>x=.tup []∧m1=Am.put m lv s (.vec g cz (P++B++M++A++S))):=by
 have _:=hC;have _:=hcz;have hlv:lv<m.length:=Q8 (by rw[hl];simp);have hlen:(P++A++M++B++S).length=P.length+A.length+M.length+B.length+S.length:=by simp only[Qm9]
 refine hC.csr.go (by simp) ?_;simp only[IN,rsr,osr,Qa,seval];have h0:m=Am.put m lv s (.vec g cz (P++A++M++B++S)):=(put_self hl).symm;generalize hX:P++A++M++B++S=X at *;generalize hp:P.length=p at *;generalize hq:p+A.length+M.length=q at *;generalize hnn:A.length=n at *;refine Qk (SwS cz m lv s g X.length p q n X) _ ⟨_,0,X,by rw[←h0]<;>rfl,rfl,QmE _,⟨rfl,fun j=>?_⟩,by simp only[Qa,seval],by simp only[Qa,seval],by simp only[Qa,seval],by simp only[Qa,seval],by simp only[Qa,seval]<;>rfl⟩ ?_
 ·rw[QmC (by omega),QmC (by omega)]
 rintro k st ⟨f,i,cur,rfl,rfl,hi,hsw,f0,f1,f2,f3,f10⟩;simp only[IS,IP,IQ,IR,f3,f10,Qa,seval];by_cases hlt:i<n
 ·have d0:decide ((i:Int)<(n:Int))=true:=by simp;omega
  have e1:IntKind.i64.wrap ((p:Int)+(i:Int))=((p+i:Nat):Int):=by rw[QC];omega
  have e2:IntKind.i64.wrap ((q:Int)+(i:Int))=((q+i:Nat):Int):=by rw[QC];omega
  have e3:IntKind.i64.wrap ((i:Int)+1)=((i+1:Nat):Int):=by rw[QC];omega
  obtain⟨x,hx⟩:∃x,X[q+i]? = some x:=⟨_,Qmv (by omega)⟩;obtain⟨y,hy⟩:∃y,X[p+i]? = some y:=⟨_,Qmv (by omega)⟩;have ex:=he x (QmJ hx);have ey:=he y (QmJ hy);have cx:cur[q+i]? = some x:=by rw[hsw.2,QmC (by omega),QmC (by omega),hx]
  have cy:cur[p+i]? = some y:=by rw[hsw.2,QmC (by omega),QmC (by omega),hy]
  have cx':(cur.set (p+i) x)[q+i]? = some x:=by rw[Qoz (by omega),cx]
  simp only[d0,e1,e2,e3,f0,f1,f2,f10,Yg hlv (show q+i<X.length by omega),Yg hlv (show p+i<X.length by omega),Yf hlv cx ex,Yf hlv cy ey,ex.len,ey.len,ex.leaf,ey.leaf,Gm hlv cy ey ex hcz,Gm hlv cx' ex ey hcz,Qa,seval];exact⟨n-(i+1),by omega,_,i+1,_,rfl,rfl,by omega,hsw.step hlt (by omega) (by omega) hx hy,by simp only[f0,Qa,seval],by simp only[f1,Qa,seval],by simp only[f2,Qa,seval],by simp only[f3,Qa,seval],by simp only[Qa,seval]⟩
 ·have d0:decide ((i:Int)<(n:Int))=false:=by simp;omega
  have hin:i=n:=by omega
  subst hin;have hc:=SwI.done (P:=P) (A:=A) (M:=M) (B:=B) (S:=S) (cur:=cur) (by rw[hX,hp,hnn,hq];exact hsw) (by omega);simp only[d0,hc,put_len,Qa,seval]

include hC hcz in
theorem BY (cmp:AV){fr:Nat→Ob}{lv s g N a b n:Nat}(P A M B S:List AV){m:Qh}(hlv:lv<m.length)(hAB:A.length=B.length)(he:∀x∈P++A++M++B++S,Ez E cz x)
  (hn:(P++A++M++B++S).length<4611686018427387904) (hN:N=(P++A++M++B++S).length) (ha:a=P.length) (hb:b=P.length+A.length+M.length) (hc:n=A.length) :
  Qd Pg sr [.vec (lv+1) s g 0 N false,.int .i64 (a:Nat),.int .i64 (b:Nat),.int .i64 (n:Nat),cmp] (fr :: Am.put m lv s (.vec g cz (P++A++M++B++S)))
   (fun x m1=>x=.tup []∧m1=fr :: Am.put m lv s (.vec g cz (P++B++M++A++S))):=by
 have _:=hC;have _:=hcz;subst hN ha hb hc;refine(Qkd hC hcz cmp (lv+1) s g P A M B S (fr :: Am.put m lv s (.vec g cz (P++A++M++B++S))) (Qo (m:=m) hlv) hAB he hn).mono fun x m1 h=>⟨h.1,?_⟩
 rw[h.2];simp only[Am.put,put_put]

def RoS (cz:Nat)(E:AV→Prop)(m:Qh)(lv s g N mid:Nat)(T:List AV)(cmp:AV)(k:Nat)(st:St):Prop :=
 ∃f P A B S,st=⟨f,[Qb]++Am.put m lv s (.vec g cz (P++A++B++S)),[]⟩∧k=A.length+B.length∧0<A.length∧0<B.length∧P.length+A.length=mid∧P++B++A++S=T∧(P++A++B++S).length=N∧(∀x∈P++A++B++S,Ez E cz x)∧
  f 0=.vec (lv+1) s g 0 N false∧f 2=.int .i64 (mid:Nat)∧f 4=cmp∧f 10=.int .i64 (A.length:Nat)∧f 11=.int .i64 (B.length:Nat)

include hC hcz in
theorem Qke (cmp:AV)(lv s g:Nat)(P X Y S:List AV)(m:Qh)(hl:Am.Qc m lv s=.vec g cz (P++X++Y++S))(hX:0<X.length)(hY:0<Y.length)(he:∀x∈P++X++Y++S,Ez E cz x)
  (hn:(P++X++Y++S).length<4611686018427387904) :
  Qd Pg ro [.vec lv s g 0 (P++X++Y++S).length false,.int .i64 (P.length:Nat),.int .i64 ((P.length+X.length:Nat):Int),.int .i64 ((P.length+X.length+Y.length:Nat):Int),cmp] m
   (fun x m1=>x=.tup []∧m1=Am.put m lv s (.vec g cz (P++Y++X++S))):=by
 have _:=hC;have _:=hcz;have hlv:lv<m.length:=Q8 (by rw[hl];simp);have hlen:(P++X++Y++S).length=P.length+X.length+Y.length+S.length:=by simp only[Qm9]
 refine hC.cro.go (by simp) ?_;have e1:IntKind.i64.wrap (((P.length+X.length:Nat):Int)-(P.length:Int))=((X.length:Nat):Int):=by rw[QC];omega
 have e2:IntKind.i64.wrap (((P.length+X.length+Y.length:Nat):Int)-((P.length+X.length:Nat):Int))=((Y.length:Nat):Int):=by rw[QC];omega
 simp only[IU,IV,I5,rro,oro,e1,e2,Qa,seval];have h0:m=Am.put m lv s (.vec g cz (P++X++Y++S)):=(put_self hl).symm;refine Qk (RoS cz E m lv s g (P++X++Y++S).length (P.length+X.length) (P++Y++X++S) cmp.sh) _ ⟨_,P,X,Y,S,by rw[←h0]<;>rfl,rfl,hX,hY,rfl,rfl,rfl,he,by simp only[Qa,seval],by simp only[Qa,seval],by simp only[Qa,seval],by simp only[Qa,seval],by simp only[Qa,seval]⟩ ?_;generalize hT:P++Y++X++S=T;generalize hN:(P++X++Y++S).length=N at *;generalize hmid:P.length+X.length=mid at *;clear hl he h0 hX hY e1 e2;rintro k st ⟨f,P',A,B,S',rfl,rfl,hA,hB,hm,hTT,hNN,hee,f0,f2,f4,f10,f11⟩;have hlen':(P'++A++B++S').length=P'.length+A.length+B.length+S'.length:=by simp only[Qm9]
 simp only[I4,IW,IX,IY,IZ,I0,I3,f10,f11,Qa,seval];by_cases hij:A.length=B.length
 ·have d0:((A.length:Int) != (B.length:Int))=false:=by simp;omega
  have e1:IntKind.i64.wrap ((mid:Int)-(A.length:Int))=((P'.length:Nat):Int):=by rw[QC];omega
  simp only[d0,e1,f0,f2,f4,f10,Qa,seval];have hc:=BY hC hcz cmp.sh (fr:=Qb) (g:=g) (s:=s) (N:=N) (a:=P'.length) (b:=mid) (n:=A.length) P' A [] B S' hlv hij (by simpa using hee) (by simp only[Qnz];omega) (by simp only[Qnz];omega) rfl (by simp only[Qnr];omega) rfl;simp only[Qnz]at hc;refine Qg hc rfl ?_;simp only[hTT,put_len,Qa,seval]
 ·have d0:((A.length:Int) != (B.length:Int))=true:=by simp;omega
  simp only[d0,f10,f11,Qa,seval];by_cases hgt:B.length<A.length
  ·have d1:decide ((A.length:Int) > (B.length:Int))=true:=by simp;omega
   have e1:IntKind.i64.wrap ((mid:Int)-(A.length:Int))=((P'.length:Nat):Int):=by rw[QC];omega
   have e2:IntKind.i64.wrap ((A.length:Int)-(B.length:Int))=((A.length-B.length:Nat):Int):=by rw[QC];omega
   simp only[d1,e1,f0,f2,f4,f10,f11,Qa,seval];have hcut:P'++A++B++S'=P'++A.take B.length++A.drop B.length++B++S':=by
    rw[QmQ P' (A.take _),QnN]
   have hl1:(A.take B.length).length=B.length:=by simp;omega
   rw[hcut]at hee hNN ⊢;refine Qg (BY hC hcz cmp.sh (a:=P'.length) (b:=mid) (n:=B.length) P' (A.take B.length) (A.drop B.length) B S' hlv hl1 hee (by omega) hNN.symm rfl (by rw[hl1];simp;omega) hl1.symm) rfl ?_;simp only[e2,f10,f11,Qa,seval];have hcat:P'++B++A.drop B.length++A.take B.length++S'=(P'++B)++A.drop B.length++A.take B.length++S':=rfl;refine⟨(A.drop B.length).length+(A.take B.length).length,?_,_,P'++B,A.drop B.length,A.take B.length,S',rfl,rfl,by simp;omega,by omega,by simp;omega,?_,?_,?_,by simp only[f0,Qa,seval],by simp only[f2,Qa,seval],by simp only[f4,Qa,seval],by simp only[Qnc,Qa,seval],by simp only[f11,hl1,Qa,seval]⟩
   ·simp;omega
   ·rw[←hTT];simp only[QmQ];rw[←QmQ (A.take _),QnN]
   ·rw[←hNN];simp only[Qm9];omega
   ·intro x hx;refine hee x ?_;simp only[QnP]at hx ⊢
    grind
  ·have d1:decide ((A.length:Int) > (B.length:Int))=false:=by simp;omega
   have e1:IntKind.i64.wrap ((mid:Int)-(A.length:Int))=((P'.length:Nat):Int):=by rw[QC];omega
   have e2:IntKind.i64.wrap ((B.length:Int)-(A.length:Int))=((B.length-A.length:Nat):Int):=by rw[QC];omega
   have e3:IntKind.i64.wrap ((mid:Int)+(B.length:Int))=((mid+B.length:Nat):Int):=by rw[QC];omega
   have e4:IntKind.i64.wrap (((mid+B.length:Nat):Int)-(A.length:Int))=((mid+B.length-A.length:Nat):Int):=by rw[QC];omega
   simp only[d1,e1,e3,e4,f0,f2,f4,f10,f11,Qa,seval];have hcut:P'++A++B++S'=P'++A++B.take (B.length-A.length)++B.drop (B.length-A.length)++S':=by
    rw[QmQ (P'++A) (B.take _),QnN]
   have hl1:(B.take (B.length-A.length)).length=B.length-A.length:=by simp
   have hl2:(B.drop (B.length-A.length)).length=A.length:=by simp;omega
   rw[hcut]at hee hNN ⊢;refine Qg (BY hC hcz cmp.sh (a:=P'.length) (b:=mid+B.length-A.length) (n:=A.length) P' A (B.take (B.length-A.length)) (B.drop (B.length-A.length)) S' hlv hl2.symm hee (by omega) hNN.symm rfl (by rw[hl1];omega) rfl) rfl ?_;simp only[e2,f10,f11,Qa,seval];refine⟨(B.drop (B.length-A.length)).length+(B.take (B.length-A.length)).length,?_,_,P',B.drop (B.length-A.length),B.take (B.length-A.length),A++S',by simp only[QmQ]<;>rfl,rfl,by omega,by omega,by omega,?_,?_,?_,by simp only[f0,Qa,seval],by simp only[f2,Qa,seval],by simp only[f4,Qa,seval],by simp only[f10,hl2,Qa,seval],by simp only[hl1,Qa,seval]⟩
   ·omega
   ·rw[←hTT];simp only[QmQ];rw[←QmQ (B.take _),QnN]
   ·rw[←hNN];simp only[Qm9];omega
   ·intro x hx;refine hee x ?_;simp only[QnP]at hx ⊢
    grind

end Go.Proofs.YtkhpgmeokilhaaaGreatDoor.Tz

namespace Go.Proofs.YtkhpgmeokilhaaaGreatDoor.Tz
open Go Am Bt Tg So
variable {Pg:Program}{cz sr ro sm is st ss:Nat}(hC:Tg.Cs Pg cz sr ro sm is st ss)(hcz:cz≠0)

variable {E:AV→Prop}

def lt (c:AV→AV→Int)(x y:AV):Bool:=decide (c x y<0)

structure Cp (Pg:Program)(cz:Nat)(E:AV→Prop)(kc:Nat)(c:AV→AV→Int):Prop where
 call:∀x y,Ez E cz x→Ez E cz y→Qi Pg kc [x,y] (.int .i64 (c x y))
 sw:SW (lt c)

def InS (cz:Nat)(m:Qh)(lv s g N i p:Nat)(kc:Nat)(c:AV→AV→Int)(P L S:List AV)(x:AV)(k:Nat)(st:St):Prop :=
 ∃f U V,st=⟨f,[Qb]++Am.put m lv s (.vec g cz (P++U++[x]++V++S)),[]⟩∧k=U.length∧U++V=L∧(∀v∈V,lt c x v=true)∧
  f 0=.vec (lv+1) s g 0 N false∧f 1=.int .i64 (P.length:Nat)∧f 2=.int .i64 (p:Nat)∧f 3=.fn (.func kc) [] []∧f 8=.int .i64 (i:Nat)∧f 9=.int .i64 ((P.length+U.length:Nat):Int)

def IoS (cz:Nat)(m:Qh)(lv s g N:Nat)(kc:Nat)(c:AV→AV→Int)(P X S:List AV)(k:Nat)(st:St):Prop :=
 ∃f i,st=⟨f,[Qb]++Am.put m lv s (.vec g cz (P++QF (lt c) (X.take i)++X.drop i++S)),[]⟩∧k=X.length+1-i∧1≤i∧(i≤X.length∨(i=1∧X=[]))∧
  f 0=.vec (lv+1) s g 0 N false∧f 1=.int .i64 (P.length:Nat)∧f 2=.int .i64 ((P.length+X.length:Nat):Int)∧f 3=.fn (.func kc) [] []∧f 8=.int .i64 ((P.length+i:Nat):Int)

theorem RQ {α:Type}(U:List α)(h:0<U.length):∃W u,U=W++[u]:=by
 rcases List.eq_nil_or_concat U with rfl|⟨W,u,e⟩
 ·simp at h
 ·exact⟨W,u,by simpa using e⟩

theorem Gn {α:Type}{P W V:List α}{u:α}{i:Nat}(h:i=P.length+W.length):(P++(W++[u])++V)[i]? = some u:=by
 subst h;simp

include hC hcz in
theorem Qkf {kc:Nat}{c:AV→AV→Int}(hc:Cp Pg cz E kc c)(lv s g:Nat)(P X S:List AV)(m:Qh)(hl:Am.Qc m lv s=.vec g cz (P++X++S))(he:∀x∈P++X++S,Ez E cz x)
  (hn:(P++X++S).length<4611686018427387904) :
  Qd Pg is [.vec lv s g 0 (P++X++S).length false,.int .i64 (P.length:Nat),.int .i64 ((P.length+X.length:Nat):Int),.fn (.func kc) [] []] m
   (fun x m1=>x=.tup []∧m1=Am.put m lv s (.vec g cz (P++QF (lt c) X++S))):=by
 have _:=hC;have _:=hcz;have hlv:lv<m.length:=Q8 (by rw[hl];simp);have hlen:(P++X++S).length=P.length+X.length+S.length:=by simp only[Qm9]
 refine hC.cis.go (by simp) ?_;have e1:IntKind.i64.wrap ((P.length:Int)+1)=((P.length+1:Nat):Int):=by rw[QC];omega
 simp only[Lf,ris,ois,e1,Qa,seval];have h0:m=Am.put m lv s (.vec g cz (P++QF (lt c) (X.take 1)++X.drop 1++S)):=by
  have:P++QF (lt c) (X.take 1)++X.drop 1++S=P++X++S:=by
   cases X with
   |nil=>simp[QF]
   |cons x X=>simp[QF,Ja]
  rw[this];exact(put_self hl).symm
 generalize hN:(P++X++S).length=N at *;refine Qk (IoS cz m lv s g N kc c P X S) _ ⟨_,1,by rw[←h0]<;>rfl,rfl,Qms _,by
  cases X with
  |nil=>exact .inr ⟨rfl,rfl⟩
  |cons x X=>exact .inl (by simp),by simp only[Qa,seval],by simp only[Qa,seval],by simp only[Qa,seval],by simp only[Qa,seval],by simp only[Qa,seval]⟩ ?_
 clear h0 e1;rintro k st ⟨f,i,rfl,rfl,hi1,hi2,f0,f1,f2,f3,f8⟩;simp only[Ll,Ln,Lg,Lh,Li,Lj,Lk,Lm,f2,f8,Qa,seval];by_cases hlt:i<X.length
 ·have d0:decide (((P.length+i:Nat):Int)<((P.length+X.length:Nat):Int))=true:=by simp only[Qmz];omega
  simp only[d0,f8,Qa,seval];obtain⟨x,hx⟩:∃x,X[i]? = some x:=⟨_,Qmv hlt⟩;have ex:Ez E cz x:=he x (by simp[QmJ hx]);have hL:(QF (lt c) (X.take i)).length=i:=by rw[JX,Qns];omega
  have heL:∀z∈QF (lt c) (X.take i),Ez E cz z:=fun z hz=>he z (by simp[Qnj (Gf hz)])
  have hdrop:X.drop i=[x]++X.drop (i+1):=by
   rw[List.singleton_append,Qne hlt];congr 1
   exact(Qmu.1 hx).2
  have htake:QF (lt c) (X.take (i+1))=mg (lt c) (QF (lt c) (X.take i)) [x]:=by
   rw[Qok,hx,Option.toList_some,←Hg hc.sw]<;>rfl
  refine Qk (InS cz m lv s g N (P.length+i) (P.length+X.length) kc c P (QF (lt c) (X.take i)) (X.drop (i+1)++S) x) _ ⟨_,QF (lt c) (X.take i),[],by rw[hdrop];simp only[QmQ,Qnz]<;>rfl,rfl,Qnz _,by simp,by simp only[f0,Qa,seval],by simp only[f1,Qa,seval],by simp only[f2,Qa,seval],by simp only[f3,Qa,seval],by simp only[f8,Qa,seval],by simp only[hL,Qa,seval]⟩ ?_;rintro k' st ⟨f,U,V,rfl,rfl,hUV,hV,f0,f1,f2,f3,f8,f9⟩;have hUVl:U.length+V.length=i:=by rw[←Qm9,hUV,hL]
  have hrow:(P++U++[x]++V++(X.drop (i+1)++S)).length=N:=by
   rw[←hN];simp only[Qm9,Qnc,Qn2];omega
  simp only[f1,f9,Qa,seval];have e4:IntKind.i64.wrap (((P.length+i:Nat):Int)+1)=((P.length+(i+1):Nat):Int):=by rw[QC];omega
  have fin:(∀u∈U,lt c x u=false)→P++U++[x]++V++(X.drop (i+1)++S)=P++QF (lt c) (X.take (i+1))++X.drop (i+1)++S:=by
   intro h;rw[htake,←hUV,DJ h hV];simp
  by_cases hU:0<U.length
  ·obtain⟨W,u,rfl⟩:=RQ U hU;simp only[Qm9,Qn2]at hUVl hrow f9;have d1:decide (((P.length+(W.length+1):Nat):Int) > (P.length:Int))=true:=by simp only[Qmz];omega
   have e2:IntKind.i64.wrap (((P.length+(W.length+1):Nat):Int)-1)=((P.length+W.length:Nat):Int):=by rw[QC];omega
   have eu:Ez E cz u:=heL u (by rw[←hUV];simp);have hx1:(P++(W++[u])++[x]++V++(X.drop (i+1)++S))[P.length+(W.length+1)]? = some x:=by
    have:=Gn (P:=P) (W:=W++[u]) (u:=x) (V:=V++(X.drop (i+1)++S)) (i:=P.length+(W.length+1)) (by simp)
    simpa only [QmQ]using this
   have hu1:(P++(W++[u])++[x]++V++(X.drop (i+1)++S))[P.length+W.length]? = some u:=by
    have:=Gn (P:=P) (W:=W) (u:=u) (V:=[x]++V++(X.drop (i+1)++S)) (i:=P.length+W.length) rfl
    simpa only [QmQ]using this
   simp only[d1,e2,f0,f3,f9,Qm9,Yg hlv (show P.length+(W.length+1)<N by omega),Yg hlv (show P.length+W.length<N by omega),Yf hlv hx1 ex,Yf hlv hu1 eu,Qa,seval];refine Yp (by simp only[Qa,seval]) (hc.call x u ex eu) (Ug ex eu _) (W5 ex eu) rfl (.inl (W5 ex eu)) ?_;cases hcx:decide (c x u<0)with
   |true=>
    have hset:((P++(W++[u])++[x]++V++(X.drop (i+1)++S)).set (P.length+(W.length+1)) u).set (P.length+W.length) x=P++W++[x]++([u]++V)++(X.drop (i+1)++S):=by
     simp[QmQ]
    have hx2:((P++(W++[u])++[x]++V++(X.drop (i+1)++S)).set (P.length+(W.length+1)) u)[P.length+W.length]? = some u:=by
     rw[Qoz (by omega),hu1]
    simp only[hcx,e2,f0,f9,Yg hlv (show P.length+(W.length+1)<N by omega),Yg hlv (show P.length+W.length<N by omega),Yf hlv hx1 ex,Yf hlv hu1 eu,ex.len,eu.len,ex.leaf,eu.leaf,Gm hlv hx1 ex eu hcz,Gm hlv hx2 eu ex hcz,Qa,seval];exact⟨W.length,by simp,_,W,[u]++V,by rw[hset]<;>rfl,rfl,by rw[←hUV];simp,by
     intro v hv;rcases QnP.1 hv with hv|hv
     ·rw[QoG.1 hv];exact hcx
     ·exact hV v hv,by simp only[f0,Qa,seval],by simp only[f1,Qa,seval],by simp only[f2,Qa,seval],by simp only[f3,Qa,seval],by simp only[f8,Qa,seval],by simp only[Qa,seval]⟩
   |false=>
    have hz:∀z∈W++[u],lt c x z=false:=by
     have hsrt:=Zt hc.sw (X.take i);have hsrt:Zs (lt c) ((W++[u])++V):=by rw[hUV];exact hsrt
     have hs2:=(Qn6.1 (Qn6.1 hsrt).1).2.2;intro z hz;rcases QnP.1 hz with hz|hz
     ·exact hc.sw.nt x u z hcx (hs2 z hz u (by simp))
     ·rw[QoG.1 hz];exact hcx
    simp only[hcx,f8,e4,Qa,seval];exact⟨X.length+1-(i+1),by omega,_,i+1,by rw[fin hz]<;>rfl,rfl,by omega,.inl (by omega),by simp only[f0,Qa,seval],by simp only[f1,Qa,seval],by simp only[f2,Qa,seval],by simp only[f3,Qa,seval],by simp only[Qa,seval]⟩
  ·have hU0:U=[]:=QnB (by omega);subst hU0;have d1:decide (((P.length+0:Nat):Int) > (P.length:Int))=false:=by simp
   have fin0:=fin (by simp);simp only[Qnz]at fin0;simp only[Qnr]at f9;simp only[d1,f8,e4,Qnr,Qa,seval];exact⟨X.length+1-(i+1),by omega,_,i+1,by rw[fin0]<;>rfl,rfl,by omega,.inl (by omega),by simp only[f0,Qa,seval],by simp only[f1,Qa,seval],by simp only[f2,Qa,seval],by simp only[f3,Qa,seval],by simp only[Qa,seval]⟩
 ·have d0:decide (((P.length+i:Nat):Int)<((P.length+X.length:Nat):Int))=false:=by simp only[Qov];omega
  have hX:QF (lt c) (X.take i)++X.drop i=QF (lt c) X:=by
   rcases hi2 with h|⟨_,rfl⟩
   ·rw[Qm5 (by omega),Qm8 (by omega),Qnz]
   ·simp[QF]
  have hX2:P++QF (lt c) (X.take i)++X.drop i++S=P++QF (lt c) X++S:=by rw[QmQ P (QF (lt c) (X.take i)) (X.drop i),hX]
  simp only[d0,hX2,put_len,Qa,seval]

end Go.Proofs.YtkhpgmeokilhaaaGreatDoor.Tz

namespace Go.Proofs.YtkhpgmeokilhaaaGreatDoor.Tz
open Go Am Bt Tg So
variable {Pg:Program}{cz sr ro sm is st ss:Nat}(hC:Tg.Cs Pg cz sr ro sm is st ss)(hcz:cz≠0)

variable {E:AV→Prop}

theorem RS (a b:Nat)(h:a+b<9223372036854775808):IntKind.i64.wrap ((IntKind.u64.wrap ((a+b:Nat):Int)).fdiv (2 ^ min 1 64))=(((a+b) / 2:Nat):Int):=by
 rw[QC,JR,show min 1 64=1 from rfl,show(2:Int) ^ 1=2 from rfl];have:(((a+b:Nat):Int) % 18446744073709551616)=((a+b:Nat):Int):=by omega
 rw[this,QoL _ (by omega)];omega

def SaS (cz:Nat)(m:Qh)(lv s g N:Nat)(kc:Nat)(c:AV→AV→Int)(P Y S:List AV)(x:AV)(k:Nat)(st:St):Prop :=
 ∃f i j,st=⟨f,[Qb]++Am.put m lv s (.vec g cz (P++[x]++Y++S)),[]⟩∧k=j-i∧i≤j∧j≤Y.length∧(∀k y,k<i→Y[k]? = some y→lt c y x=true)∧(∀k y,j≤k→Y[k]? = some y→lt c y x=false)∧
  f 0=.vec (lv+1) s g 0 N false∧f 1=.int .i64 (P.length:Nat)∧f 4=.fn (.func kc) [] []∧f 10=.int .i64 ((P.length+1+i:Nat):Int)∧f 11=.int .i64 ((P.length+1+j:Nat):Int)

def SaT (cz:Nat)(m:Qh)(lv s g N i:Nat)(P Y S:List AV)(x:AV)(k:Nat)(st:St):Prop :=
 ∃f t,st=⟨f,[Qb]++Am.put m lv s (.vec g cz (P++Y.take t++[x]++Y.drop t++S)),[]⟩∧k=i-t∧t≤i∧
  f 0=.vec (lv+1) s g 0 N false∧f 10=.int .i64 ((P.length+1+i:Nat):Int)∧f 13=.int .i64 ((P.length+t:Nat):Int)

include hC hcz in
theorem Qkg {kc:Nat}{c:AV→AV→Int}(hc:Cp Pg cz E kc c)(lv s g:Nat)(P:List AV)(x:AV)(Y S:List AV)(m:Qh)(hl:Am.Qc m lv s=.vec g cz (P++[x]++Y++S))(he:∀z∈P++[x]++Y++S,Ez E cz z)
  (hn:(P++[x]++Y++S).length<4611686018427387904) (hY:Zs (lt c) Y) :
  Qd Pg sm [.vec lv s g 0 (P++[x]++Y++S).length false,.int .i64 (P.length:Nat),.int .i64 ((P.length+1:Nat):Int),.int .i64 ((P.length+1+Y.length:Nat):Int),.fn (.func kc) [] []] m
   (fun v m1=>v=.tup []∧m1=Am.put m lv s (.vec g cz (P++mg (lt c) [x] Y++S))):=by
 have _:=hC;have _:=hcz;have hlv:lv<m.length:=Q8 (by rw[hl];simp);have hlen:(P++[x]++Y++S).length=P.length+1+Y.length+S.length:=by simp only[Qm9,Qn2]
 have ex:Ez E cz x:=he x (by simp);have eY:∀y∈Y,Ez E cz y:=fun y hy=>he y (by simp[hy])
 refine hC.csm.go (by simp) ?_;have e1:IntKind.i64.wrap (((P.length+1:Nat):Int)-(P.length:Int))=1:=by rw[QC];omega
 simp only[NZ,RJ,RK,RL,FZ,Cq,Cr,Cy,F0,F1,F2,F3,F4,F5,F6,F7,F8,UK,UL,UM,YP,YQ,Wp,Wq,Le,Bf,e1,QnG,Qa,seval];have h0:m=Am.put m lv s (.vec g cz (P++[x]++Y++S)):=(put_self hl).symm;generalize hN:(P++[x]++Y++S).length=N at *;refine Qk (SaS cz m lv s g N kc c P Y S x) _ ⟨_,0,Y.length,by rw[←h0]<;>rfl,rfl,QmE _,Qms _,(by intro k y hk;exact absurd hk (QoC _)),(by intro k y hk hy;rw[QnU hk]at hy;cases hy),by simp only[Qa,seval],by simp only[Qa,seval],by simp only[Qa,seval],by simp only[Qm2,Qa,seval],by simp only[Qa,seval]⟩ ?_;clear h0 e1;rintro k st ⟨f,i,j,rfl,rfl,hij,hj,hp,hq,f0,f1,f4,f10,f11⟩;simp only[Lb,Ld,RM,RP,Be,I6,I7,I8,I9,La,Lc,TR,TS,Ct,Cu,Cv,Cw,Cx,Cz,CA,CB,F9,Ba,Bb,Bc,Bd,f10,f11,Qa,seval];by_cases hlt:i<j
 ·have d0:decide (((P.length+1+i:Nat):Int)<((P.length+1+j:Nat):Int))=true:=by simp only[Qmz];omega
  have e2:IntKind.i64.wrap (((P.length+1+i:Nat):Int)+((P.length+1+j:Nat):Int))=(((P.length+1+i)+(P.length+1+j):Nat):Int):=by rw[QC];omega
  have e3:=RS (P.length+1+i) (P.length+1+j) (by omega);have e4:((P.length+1+i)+(P.length+1+j)) / 2=P.length+1+(i+j) / 2:=by omega
  rw[e4]at e3;generalize hh:(i+j) / 2=h at *;have hh1:h<j:=by omega
  have hh2:i≤h:=by omega
  have e5:IntKind.i64.wrap (((P.length+1+h:Nat):Int)+1)=((P.length+1+(h+1):Nat):Int):=by rw[QC];omega
  obtain⟨y,hy⟩:∃y,Y[h]? = some y:=⟨_,Qmv (by omega)⟩;have ey:=eY y (QmJ hy);have gy:(P++[x]++Y++S)[P.length+1+h]? = some y:=by
   rw[QnW (by simp only[Qm9,Qn2];omega),QnX (by simp only[Qm9,Qn2];omega)];rw[←hy];congr 1;simp only[Qm9,Qn2];omega
  have gx:(P++[x]++Y++S)[P.length]? = some x:=by
   have:=Gn (P:=P) (W:=[]) (u:=x) (V:=Y++S) (i:=P.length) rfl
   simpa only [QmQ,QmS]using this
  simp only[d0,e2,e3,f0,f1,f4,f10,f11,Yg hlv (show P.length+1+h<N by omega),Yg hlv (show P.length<N by omega),Yf hlv gy ey,Yf hlv gx ex,Qa,seval];refine Yp (by simp only[Qa,seval]) (hc.call y x ey ex) (Ug ey ex _) (W5 ey ex) rfl (.inl (W5 ey ex)) ?_;cases hcx:decide (c y x<0)with
  |true=>
   simp only[hcx,e5,Qa,seval];exact⟨j-(h+1),by omega,_,h+1,j,rfl,rfl,by omega,hj,fun k z hk hz=>WI hc.sw hY (Nat.le_of_lt_succ hk) hz hy hcx,hq,by simp only[f0,Qa,seval],by simp only[f1,Qa,seval],by simp only[f4,Qa,seval],by simp only[Qa,seval],by simp only[f11,Qa,seval]⟩
  |false=>
   simp only[hcx,Qa,seval];exact⟨h-i,by omega,_,i,h,rfl,rfl,by omega,by omega,hp,fun k z hk hz=>by
    cases hb:lt c z x with
    |false=>rfl
    |true=>exact absurd (WI hc.sw hY hk hy hz hb) (by show ¬(decide _=true);rw[hcx];simp),by simp only[f0,Qa,seval],by simp only[f1,Qa,seval],by simp only[f4,Qa,seval],by simp only[f10,Qa,seval],by simp only[Qa,seval]⟩
 ·have d0:decide (((P.length+1+i:Nat):Int)<((P.length+1+j:Nat):Int))=false:=by simp only[Qov];omega
  have hij':j=i:=by omega
  subst hij';simp only[d0,f1,Qa,seval];have hres:mg (lt c) [x] Y=Y.take j++x :: Y.drop j:=by
   have:=Qba (lt:=lt c) (x:=x) (Y1:=Y.take j) (Y2:=Y.drop j) (fun y hy=>by
    obtain⟨k,hk⟩:=QoM hy;rw[Qna]at hk;split at hk
    ·rename_i h;exact hp k y h hk
    ·cases hk) (fun y hy=>by
    obtain⟨k,hk⟩:=QoM hy;rw[Qnb]at hk;exact hq _ y (by omega) hk)
   rwa [QnN]at this
  refine Qk (SaT cz m lv s g N j P Y S x) _ ⟨_,0,by rw[show P++Y.take 0++[x]++Y.drop 0++S=P++[x]++Y++S by simp]<;>rfl,rfl,QmE _,by simp only[f0,Qa,seval],by simp only[f10,Qa,seval],by simp only[Qm2,Qa,seval]⟩ ?_;clear f0 f1 f4 f10 f11 d0 hp hq f;rintro k st ⟨f,t,rfl,rfl,ht,f0,f10,f13⟩;have e6:IntKind.i64.wrap (((P.length+1+j:Nat):Int)-1)=((P.length+j:Nat):Int):=by rw[QC];omega
  have e7:IntKind.i64.wrap (((P.length+t:Nat):Int)+1)=((P.length+(t+1):Nat):Int):=by rw[QC];omega
  simp only[e6,f10,f13,Qa,seval];by_cases hlt:t<j
  ·have d0:decide (((P.length+t:Nat):Int)<((P.length+j:Nat):Int))=true:=by simp only[Qmz];omega
   obtain⟨y,hy⟩:∃y,Y[t]? = some y:=⟨_,Qmv (by omega)⟩;have ey:=eY y (QmJ hy);have hdrop:Y.drop t=[y]++Y.drop (t+1):=by
    rw[List.singleton_append,Qne (by omega)];congr 1
    exact(Qmu.1 hy).2
   have htake:Y.take (t+1)=Y.take t++[y]:=by rw[Qok,hy]<;>rfl
   have hlt':(Y.take t).length=t:=by rw[Qns];omega
   have g1:(P++Y.take t++[x]++Y.drop t++S)[P.length+t]? = some x:=by
    have:=Gn (P:=P) (W:=Y.take t) (u:=x) (V:=Y.drop t++S) (i:=P.length+t) (by rw[hlt'])
    simpa only [QmQ]using this
   have g2:(P++Y.take t++[x]++Y.drop t++S)[P.length+(t+1)]? = some y:=by
    have:=Gn (P:=P) (W:=Y.take t++[x]) (u:=y) (V:=Y.drop (t+1)++S) (i:=P.length+(t+1)) (by rw[Qm9,hlt']<;>rfl);rw[hdrop]
    simpa only [QmQ]using this
   have g3:((P++Y.take t++[x]++Y.drop t++S).set (P.length+t) y)[P.length+(t+1)]? = some y:=by
    rw[Qoz (by omega),g2]
   have hset:((P++Y.take t++[x]++Y.drop t++S).set (P.length+t) y).set (P.length+(t+1)) x=P++Y.take (t+1)++[x]++Y.drop (t+1)++S:=by
    rw[hdrop,htake];simp[hlt']
   simp only[d0,e7,f0,f13,Yg hlv (show P.length+(t+1)<N by omega),Yg hlv (show P.length+t<N by omega),Yf hlv g1 ex,Yf hlv g2 ey,ex.len,ey.len,ex.leaf,ey.leaf,Gm hlv g1 ex ey hcz,Gm hlv g3 ey ex hcz,Qa,seval];exact⟨j-(t+1),by omega,_,t+1,by rw[hset]<;>rfl,rfl,by omega,by simp only[f0,Qa,seval],by simp only[f10,Qa,seval],by simp only[Qa,seval]⟩
  ·have d0:decide (((P.length+t:Nat):Int)<((P.length+j:Nat):Int))=false:=by simp only[Qov];omega
   have htj:t=j:=by omega
   subst htj;have hfin:P++Y.take t++[x]++Y.drop t++S=P++mg (lt c) [x] Y++S:=by rw[hres];simp
   simp only[d0,hfin,put_len,Qa,seval]

end Go.Proofs.YtkhpgmeokilhaaaGreatDoor.Tz

namespace Go.Proofs.YtkhpgmeokilhaaaGreatDoor.Tz
open Go Am Bt Tg So
variable {Pg:Program}{cz sr ro sm is st ss:Nat}(hC:Tg.Cs Pg cz sr ro sm is st ss)(hcz:cz≠0)

variable {E:AV→Prop}

def SbS (cz:Nat)(m:Qh)(lv s g N:Nat)(kc:Nat)(c:AV→AV→Int)(P X S:List AV)(y:AV)(k:Nat)(st:St):Prop :=
 ∃f i j,st=⟨f,[Qb]++Am.put m lv s (.vec g cz (P++X++[y]++S)),[]⟩∧k=j-i∧i≤j∧j≤X.length∧(∀k x,k<i→X[k]? = some x→lt c y x=false)∧(∀k x,j≤k→X[k]? = some x→lt c y x=true)∧
  f 0=.vec (lv+1) s g 0 N false∧f 2=.int .i64 ((P.length+X.length:Nat):Int)∧f 4=.fn (.func kc) [] []∧f 14=.int .i64 ((P.length+i:Nat):Int)∧f 15=.int .i64 ((P.length+j:Nat):Int)

def SbT (cz:Nat)(m:Qh)(lv s g N i:Nat)(P X S:List AV)(y:AV)(k:Nat)(st:St):Prop :=
 ∃f t,st=⟨f,[Qb]++Am.put m lv s (.vec g cz (P++X.take t++[y]++X.drop t++S)),[]⟩∧k=t-i∧i≤t∧t≤X.length∧
  f 0=.vec (lv+1) s g 0 N false∧f 14=.int .i64 ((P.length+i:Nat):Int)∧f 17=.int .i64 ((P.length+t:Nat):Int)

include hC hcz in
theorem Qkh {kc:Nat}{c:AV→AV→Int}(hc:Cp Pg cz E kc c)(lv s g:Nat)(P X:List AV)(y:AV)(S:List AV)(m:Qh)(hl:Am.Qc m lv s=.vec g cz (P++X++[y]++S))(he:∀x∈P++X++[y]++S,Ez E cz x)
  (hn:(P++X++[y]++S).length<4611686018427387904) (hX:Zs (lt c) X) (hX1:X.length≠1) :
  Qd Pg sm [.vec lv s g 0 (P++X++[y]++S).length false,.int .i64 (P.length:Nat),.int .i64 ((P.length+X.length:Nat):Int),.int .i64 ((P.length+X.length+1:Nat):Int),.fn (.func kc) [] []] m
   (fun v m1=>v=.tup []∧m1=Am.put m lv s (.vec g cz (P++mg (lt c) X [y]++S))):=by
 have _:=hC;have _:=hcz;have hlv:lv<m.length:=Q8 (by rw[hl];simp);have hlen:(P++X++[y]++S).length=P.length+X.length+1+S.length:=by simp only[Qm9,Qn2]
 have ey:Ez E cz y:=he y (by simp);have eX:∀x∈X,Ez E cz x:=fun x hx=>he x (by simp[hx])
 refine hC.csm.go (by simp) ?_;have e1:(IntKind.i64.wrap (((P.length+X.length:Nat):Int)-(P.length:Int))==1)=false:=by rw[QC];simp only[Qoi,ne_eq];omega
 have e2:(IntKind.i64.wrap (((P.length+X.length+1:Nat):Int)-((P.length+X.length:Nat):Int))==1)=true:=by rw[QC];simp only[QmA];omega
 simp only[NZ,RJ,RK,RL,FZ,Cq,Cr,Cy,F0,F1,F2,F3,F4,F5,F6,F7,F8,UK,UL,UM,YP,YQ,Wp,Wq,Le,Bf,e1,e2,Qa,seval];have h0:m=Am.put m lv s (.vec g cz (P++X++[y]++S)):=(put_self hl).symm;generalize hN:(P++X++[y]++S).length=N at *;refine Qk (SbS cz m lv s g N kc c P X S y) _ ⟨_,0,X.length,by rw[←h0]<;>rfl,rfl,QmE _,Qms _,(by intro k y hk;exact absurd hk (QoC _)),(by intro k y hk hy;rw[QnU hk]at hy;cases hy),by simp only[Qa,seval],by simp only[Qa,seval],by simp only[Qa,seval],by simp only[Qm2,Qa,seval],by simp only[Qa,seval]⟩ ?_;clear h0 e1 e2;rintro k st ⟨f,i,j,rfl,rfl,hij,hj,hp,hq,f0,f2,f4,f14,f15⟩;simp only[RM,RP,Be,Ct,Cu,Cv,Cw,Cx,Cz,CA,CB,F9,Ba,Bb,Bc,Bd,f14,f15,Qa,seval];by_cases hlt:i<j
 ·have d0:decide (((P.length+i:Nat):Int)<((P.length+j:Nat):Int))=true:=by simp only[Qmz];omega
  have e2:IntKind.i64.wrap (((P.length+i:Nat):Int)+((P.length+j:Nat):Int))=(((P.length+i)+(P.length+j):Nat):Int):=by rw[QC];omega
  have e3:=RS (P.length+i) (P.length+j) (by omega);have e4:((P.length+i)+(P.length+j)) / 2=P.length+(i+j) / 2:=by omega
  rw[e4]at e3;generalize hh:(i+j) / 2=h at *;have hh1:h<j:=by omega
  have hh2:i≤h:=by omega
  have e5:IntKind.i64.wrap (((P.length+h:Nat):Int)+1)=((P.length+(h+1):Nat):Int):=by rw[QC];omega
  obtain⟨x,hx⟩:∃x,X[h]? = some x:=⟨_,Qmv (by omega)⟩;have ex:=eX x (QmJ hx);have gx:(P++X++[y]++S)[P.length+h]? = some x:=by
   rw[QmQ,QmQ,QnX (by omega),QnW (by omega),←hx];congr 1;omega
  have gy:(P++X++[y]++S)[P.length+X.length]? = some y:=by
   have:=Gn (P:=P) (W:=X) (u:=y) (V:=S) (i:=P.length+X.length) rfl
   simpa only [QmQ]using this
  simp only[d0,e2,e3,f0,f2,f4,f14,f15,Yg hlv (show P.length+h<N by omega),Yg hlv (show P.length+X.length<N by omega),Yf hlv gy ey,Yf hlv gx ex,Qa,seval];refine Yp (by simp only[Qa,seval]) (hc.call y x ey ex) (Ug ey ex _) (W5 ey ex) rfl (.inl (W5 ey ex)) ?_;cases hcx:decide (c y x<0)with
  |true=>
   simp only[hcx,Qa,seval];exact⟨h-i,by omega,_,i,h,rfl,rfl,by omega,by omega,hp,fun k z hk hz=>by
    have:=UG hX hc.sw hk hx hz;cases hb:lt c y z with
    |true=>rfl
    |false=>exact absurd (hc.sw.nt y z x hb this) (by show ¬(decide _=false);rw[hcx];simp),by simp only[f0,Qa,seval],by simp only[f2,Qa,seval],by simp only[f4,Qa,seval],by simp only[f14,Qa,seval],by simp only[Qa,seval]⟩
  |false=>
   simp only[hcx,e5,Qa,seval];exact⟨j-(h+1),by omega,_,h+1,j,rfl,rfl,by omega,hj,fun k z hk hz=>hc.sw.nt y x z hcx (UG hX hc.sw (Nat.le_of_lt_succ hk) hz hx),hq,by simp only[f0,Qa,seval],by simp only[f2,Qa,seval],by simp only[f4,Qa,seval],by simp only[Qa,seval],by simp only[f15,Qa,seval]⟩
 ·have d0:decide (((P.length+i:Nat):Int)<((P.length+j:Nat):Int))=false:=by simp only[Qov];omega
  have hij':j=i:=by omega
  subst hij';simp only[d0,f2,Qa,seval];have hres:mg (lt c) X [y]=X.take j++y :: X.drop j:=by
   have:=DJ (lt:=lt c) (y:=y) (X1:=X.take j) (X2:=X.drop j) (fun x hx=>by
    obtain⟨k,hk⟩:=QoM hx;rw[Qna]at hk;split at hk
    ·rename_i h;exact hp k x h hk
    ·cases hk) (fun x hx=>by
    obtain⟨k,hk⟩:=QoM hx;rw[Qnb]at hk;exact hq _ x (by omega) hk)
   rwa [QnN]at this
  refine Qk (SbT cz m lv s g N j P X S y) _ ⟨_,X.length,by rw[show P++X.take X.length++[y]++X.drop X.length++S=P++X++[y]++S by simp]<;>rfl,rfl,hj,Qms _,by simp only[f0,Qa,seval],by simp only[f14,Qa,seval],by simp only[Qa,seval]⟩ ?_;clear f0 f2 f4 f14 f15 d0 hp hq f;rintro k st ⟨f,t,rfl,rfl,ht,htl,f0,f14,f17⟩;simp only[f14,f17,Qa,seval];by_cases hlt:j<t
  ·have d0:decide (((P.length+t:Nat):Int) > ((P.length+j:Nat):Int))=true:=by simp only[Qmz];omega
   obtain⟨r,rfl⟩:∃r,t=r+1:=⟨t-1,by omega⟩;have e7:IntKind.i64.wrap (((P.length+(r+1):Nat):Int)-1)=((P.length+r:Nat):Int):=by rw[QC];omega
   obtain⟨x,hx⟩:∃x,X[r]? = some x:=⟨_,Qmv (by omega)⟩;have ex:=eX x (QmJ hx);have hdrop:X.drop r=[x]++X.drop (r+1):=by
    rw[List.singleton_append,Qne (by omega)];congr 1
    exact(Qmu.1 hx).2
   have htake:X.take (r+1)=X.take r++[x]:=by rw[Qok,hx]<;>rfl
   have hlt':(X.take r).length=r:=by rw[Qns];omega
   have g1:(P++X.take (r+1)++[y]++X.drop (r+1)++S)[P.length+r]? = some x:=by
    have:=Gn (P:=P) (W:=X.take r) (u:=x) (V:=[y]++X.drop (r+1)++S) (i:=P.length+r) (by rw[hlt']);rw[htake]
    simpa only [QmQ]using this
   have g2:(P++X.take (r+1)++[y]++X.drop (r+1)++S)[P.length+(r+1)]? = some y:=by
    have:=Gn (P:=P) (W:=X.take (r+1)) (u:=y) (V:=X.drop (r+1)++S) (i:=P.length+(r+1)) (by rw[Qns];omega)
    simpa only [QmQ]using this
   have g3:((P++X.take (r+1)++[y]++X.drop (r+1)++S).set (P.length+(r+1)) x)[P.length+r]? = some x:=by
    rw[Qoz (by omega),g1]
   have hset:((P++X.take (r+1)++[y]++X.drop (r+1)++S).set (P.length+(r+1)) x).set (P.length+r) y=P++X.take r++[y]++X.drop r++S:=by
    rw[hdrop,htake];simp[hlt']
   simp only[d0,e7,f0,f17,Yg hlv (show P.length+(r+1)<N by omega),Yg hlv (show P.length+r<N by omega),Yf hlv g1 ex,Yf hlv g2 ey,ex.len,ey.len,ex.leaf,ey.leaf,Gm hlv g2 ey ex hcz,Gm hlv g3 ex ey hcz,Qa,seval];exact⟨r-j,by omega,_,r,by rw[hset]<;>rfl,rfl,by omega,by omega,by simp only[f0,Qa,seval],by simp only[f14,Qa,seval],by simp only[Qa,seval]⟩
  ·have d0:decide (((P.length+t:Nat):Int) > ((P.length+j:Nat):Int))=false:=by simp only[Qov];omega
   have htj:t=j:=by omega
   subst htj;have hfin:P++X.take t++[y]++X.drop t++S=P++mg (lt c) X [y]++S:=by rw[hres];simp
   simp only[d0,hfin,put_len,Qa,seval]

end Go.Proofs.YtkhpgmeokilhaaaGreatDoor.Tz

namespace Go.Proofs.YtkhpgmeokilhaaaGreatDoor.Tz
open Go Am Bt Tg So
variable {Pg:Program}{cz sr ro sm is st ss:Nat}(hC:Tg.Cs Pg cz sr ro sm is st ss)(hcz:cz≠0)

variable {E:AV→Prop}

include hC hcz in
theorem Qbm (cmp:AV){fr:Nat→Ob}{lv s g N a b n:Nat}(P X Y S:List AV){m:Qh}(hlv:lv<m.length)(hX:0<X.length)(hY:0<Y.length)(he:∀x∈P++X++Y++S,Ez E cz x)
  (hn:(P++X++Y++S).length<4611686018427387904) (hN:N=(P++X++Y++S).length) (ha:a=P.length) (hb:b=P.length+X.length) (hc:n=P.length+X.length+Y.length) :
  Qd Pg ro [.vec (lv+1) s g 0 N false,.int .i64 (a:Nat),.int .i64 (b:Nat),.int .i64 (n:Nat),cmp] (fr :: Am.put m lv s (.vec g cz (P++X++Y++S)))
   (fun x m1=>x=.tup []∧m1=fr :: Am.put m lv s (.vec g cz (P++Y++X++S))):=by
 have _:=hC;have _:=hcz;subst hN ha hb hc;refine(Qke hC hcz cmp (lv+1) s g P X Y S (fr :: Am.put m lv s (.vec g cz (P++X++Y++S))) (Qo (m:=m) hlv) hX hY he hn).mono fun x m1 h=>⟨h.1,?_⟩
 rw[h.2];simp only[Am.put,put_put]

def GT (Pg:Program)(cz sm:Nat)(E:AV→Prop)(kc:Nat)(c:AV→AV→Int)(n:Nat):Prop :=
 ∀(lv s g:Nat) (P X Y S:List AV) (m:Qh),X.length+Y.length=n→0<X.length→0<Y.length→Am.Qc m lv s=.vec g cz (P++X++Y++S)→(∀x∈P++X++Y++S,Ez E cz x)→
  (P++X++Y++S).length<4611686018427387904→Zs (lt c) X→Zs (lt c) Y→
  Qd Pg sm [.vec lv s g 0 (P++X++Y++S).length false,.int .i64 (P.length:Nat),.int .i64 ((P.length+X.length:Nat):Int),.int .i64 ((P.length+X.length+Y.length:Nat):Int),.fn (.func kc) [] []] m
   (fun v m1=>v=.tup []∧m1=Am.put m lv s (.vec g cz (P++mg (lt c) X Y++S)))

include hC hcz in
theorem Hl {kc:Nat}{c:AV→AV→Int}{n:Nat}(h:GT Pg cz sm E kc c n){fr:Nat→Ob}{lv s g N a b e:Nat}(P X Y S:List AV){m:Qh}(hlv:lv<m.length)(hXY:X.length+Y.length=n)(hX:0<X.length)(hY:0<Y.length)(he:∀x∈P++X++Y++S,Ez E cz x)
  (hn:(P++X++Y++S).length<4611686018427387904) (sX:Zs (lt c) X) (sY:Zs (lt c) Y) (hN:N=(P++X++Y++S).length) (ha:a=P.length) (hb:b=P.length+X.length) (hc:e=P.length+X.length+Y.length) :
  Qd Pg sm [.vec (lv+1) s g 0 N false,.int .i64 (a:Nat),.int .i64 (b:Nat),.int .i64 (e:Nat),.fn (.func kc) [] []] (fr :: Am.put m lv s (.vec g cz (P++X++Y++S)))
   (fun x m1=>x=.tup []∧m1=fr :: Am.put m lv s (.vec g cz (P++mg (lt c) X Y++S))):=by
 have _:=hC;have _:=hcz;subst hN ha hb hc;refine(h (lv+1) s g P X Y S (fr :: Am.put m lv s (.vec g cz (P++X++Y++S))) hXY hX hY (Qo (m:=m) hlv) he hn sX sY).mono fun x m1 h=>⟨h.1,?_⟩
 rw[h.2];simp only[Am.put,put_put]

def ScS (cz:Nat)(m:Qh)(lv s g N mid s0 r0:Nat)(kc:Nat)(c:AV→AV→Int)(P X Y S:List AV)(k:Nat)(st:St):Prop :=
 ∃f i j,st=⟨f,[Qb]++Am.put m lv s (.vec g cz (P++X++Y++S)),[]⟩∧k=j-i∧s0≤i∧i≤j∧j≤r0∧
  (∀k x y,s0≤k→k<i→X[k-P.length]? = some x→Y[mid-1-k]? = some y→lt c y x=false)∧(∀k x y,j≤k→k<r0→X[k-P.length]? = some x→Y[mid-1-k]? = some y→lt c y x=true)∧
  f 0=.vec (lv+1) s g 0 N false∧f 1=.int .i64 (P.length:Nat)∧f 2=.int .i64 ((P.length+X.length:Nat):Int)∧f 3=.int .i64 ((P.length+X.length+Y.length:Nat):Int)∧f 4=.fn (.func kc) [] []∧
  f 18=.int .i64 (mid:Nat)∧f 19=.int .i64 ((mid+(P.length+X.length):Nat):Int)∧f 22=.int .i64 ((mid+(P.length+X.length)-1:Nat):Int)∧f 20=.int .i64 (i:Nat)∧f 21=.int .i64 (j:Nat)

theorem EC {c:AV→AV→Int}(hsw:SW (lt c)){X Y:List AV}{p mid t:Nat}{s0 r0:Nat}(sX:Zs (lt c) X)(sY:Zs (lt c) Y)(h1:s0≤t)(h2:t≤r0)(hp:p≤t)(htm:t≤mid)(hr:r0=mid∨r0=p+X.length)(hs:mid-s0≥Y.length∨s0=p)(hs2:mid-s0≤Y.length)(hr2:r0≤p+X.length)
  (hlow:∀k x y,s0≤k→k<t→X[k-p]? = some x→Y[mid-1-k]? = some y→lt c y x=false) (hhigh:∀k x y,t≤k→k<r0→X[k-p]? = some x→Y[mid-1-k]? = some y→lt c y x=true) :
  mg (lt c) X Y=mg (lt c) (X.take (t-p)) (Y.take (mid-t))++mg (lt c) (X.drop (t-p)) (Y.drop (mid-t)):=by
 have key:=YM (lt:=lt c) _ (X.take (t-p)) (Y.take (mid-t)) (X.drop (t-p)) (Y.drop (mid-t)) rfl ?_ ?_
 ·rwa [QnN,QnN]at key
 ·intro y hy x hx;obtain⟨k,hk⟩:=QoM hy;obtain⟨l,hl⟩:=QoM hx;rw[Qna]at hk;split at hk
  ·rename_i hkt;rw[Qnb]at hl;have hlX:t-p+l<X.length:=(Qmu.1 hl).1;have hkY:k<Y.length:=(Qmu.1 hk).1;have htr:t<r0:=by rcases hr with h|h<;>omega
   by_cases hY2:mid-1-t<Y.length
   ·obtain⟨x0,hx0⟩:∃x,X[t-p]? = some x:=⟨_,Qmv (by omega)⟩;obtain⟨y0,hy0⟩:∃y,Y[mid-1-t]? = some y:=⟨_,Qmv hY2⟩;have h0:=hhigh t x0 y0 (Qms _) htr hx0 hy0;have h3:=WI hsw sY (show k≤mid-1-t by omega) hk hy0 h0;have h4:=UG sX hsw (show t-p≤t-p+l by omega) hx0 hl;cases hb:lt c y x with
    |true=>rfl
    |false=>
     have:=hsw.nt y x x0 hb h4;rw[h3]at this;cases this
   ·exfalso;omega
  ·cases hk
 ·intro x hx y hy;obtain⟨k,hk⟩:=QoM hy;obtain⟨l,hl⟩:=QoM hx;rw[Qna]at hl;split at hl
  ·rename_i hlt;rw[Qnb]at hk;have hkY:mid-t+k<Y.length:=(Qmu.1 hk).1;have hlX:l<X.length:=(Qmu.1 hl).1;have hst:s0<t:=by rcases hs with h|h<;>omega
   by_cases hX2:t-1-p<X.length
   ·obtain⟨x0,hx0⟩:∃x,X[t-1-p]? = some x:=⟨_,Qmv hX2⟩;obtain⟨y0,hy0⟩:∃y,Y[mid-1-(t-1)]? = some y:=⟨_,Qmv (by omega)⟩;have h0:=hlow (t-1) x0 y0 (by omega) (by omega) hx0 hy0;have h3:=UG sX hsw (show l≤t-1-p by omega) hl hx0;have h4:lt c y x0=false:=by
     cases hb:lt c y x0 with
     |false=>rfl
     |true=>
      have:=WI hsw sY (show mid-1-(t-1)≤mid-t+k by omega) hy0 hk hb;rw[h0]at this;cases this
    exact hsw.nt y x0 x h4 h3
   ·exfalso;omega
  ·cases hl

section
variable {kc:Nat}{c:AV→AV→Int}{nn lv s g N:Nat}{P X1 X2 Y1 Y2 S:List AV}{m:Qh}{f:Fr}

include hC hcz in
theorem Qgh (ih:∀n,n<nn→GT Pg cz sm E kc c n)(hnn:X2.length+Y2.length<nn)(hlv:lv<m.length)(he:∀x∈P++X2++Y2++S,Ez E cz x)(hN:N=(P++X2++Y2++S).length)(hn:N<4611686018427387904)
  (sX:Zs (lt c) X2) (sY:Zs (lt c) Y2) (f0:f 0=.vec (lv+1) s g 0 N false) (f3:f 3=.int .i64 ((P.length+X2.length+Y2.length:Nat):Int)) (f4:f 4=.fn (.func kc) [] []) (f18:f 18=.int .i64 (P.length:Nat)) (f24:f 24=.int .i64 ((P.length+X2.length:Nat):Int)) :
  QR Pg (.seq (.reg (Wp cz sr ro sm is st)) (.cond (.t 213) (.reg (Wq cz sr ro sm is st)) (.skip))) ⟨f,Qb :: Am.put m lv s (.vec g cz (P++X2++Y2++S)),[]⟩
   (Zm Bf m.length (fun v m1=>v=.tup []∧m1=Am.put m lv s (.vec g cz (P++mg (lt c) X2 Y2++S)))):=by
 have _:=hC;have _:=hcz;simp only[Wp,Wq,Bf,f18,f24,Qa,seval];by_cases h1:0<X2.length
 ·have d1:decide ((P.length:Int)<((P.length+X2.length:Nat):Int))=true:=by simp only[Qmz];omega
  by_cases h2:0<Y2.length
  ·have d2:decide (((P.length+X2.length:Nat):Int)<((P.length+X2.length+Y2.length:Nat):Int))=true:=by simp only[Qmz];omega
   simp only[d1,d2,f0,f3,f4,f18,f24,Qa,seval];refine Qg (Hl hC hcz (ih _ hnn) P X2 Y2 S hlv rfl h1 h2 he (by omega) sX sY hN rfl rfl rfl) rfl ?_;simp only[put_len,Qa,seval]
  ·have d2:decide (((P.length+X2.length:Nat):Int)<((P.length+X2.length+Y2.length:Nat):Int))=false:=by simp only[Qov];omega
   have hy:Y2=[]:=QnB (by omega);have hfin:P++X2++Y2++S=P++mg (lt c) X2 Y2++S:=by rw[hy,JW];simp
   simp only[d1,d2,f3,f24,hfin,put_len,Qa,seval]
 ·have d1:decide ((P.length:Int)<((P.length+X2.length:Nat):Int))=false:=by simp only[Qov];omega
  have hx:X2=[]:=QnB (by omega);have hfin:P++X2++Y2++S=P++mg (lt c) X2 Y2++S:=by rw[hx,Jy];simp
  simp only[d1,hfin,put_len,Qa,seval]

include hC hcz in
theorem Qgi (ih:∀n,n<nn→GT Pg cz sm E kc c n)(hn1:X1.length+Y1.length<nn)(hn2:X2.length+Y2.length<nn)(hlv:lv<m.length)(he:∀x∈P++X1++Y1++(X2++Y2++S),Ez E cz x)(hN:N=(P++X1++Y1++(X2++Y2++S)).length)(hn:N<4611686018427387904)
  (sX1:Zs (lt c) X1) (sY1:Zs (lt c) Y1) (sX:Zs (lt c) X2) (sY:Zs (lt c) Y2) (f0:f 0=.vec (lv+1) s g 0 N false) (f1:f 1=.int .i64 (P.length:Nat)) (f3:f 3=.int .i64 ((P.length+X1.length+Y1.length+X2.length+Y2.length:Nat):Int)) (f4:f 4=.fn (.func kc) [] []) (f18:f 18=.int .i64 ((P.length+X1.length+Y1.length:Nat):Int)) (f20:f 20=.int .i64 ((P.length+X1.length:Nat):Int)) (f24:f 24=.int .i64 ((P.length+X1.length+Y1.length+X2.length:Nat):Int)) :
  QR Pg (.seq (.seq (.reg (YP cz sr ro sm is st)) (.cond (.t 199) (.reg (YQ cz sr ro sm is st)) (.skip))) (.seq (.reg (Wp cz sr ro sm is st)) (.cond (.t 213) (.reg (Wq cz sr ro sm is st)) (.skip)))) ⟨f,Qb :: Am.put m lv s (.vec g cz (P++X1++Y1++(X2++Y2++S))),[]⟩
   (Zm Bf m.length (fun v m1=>v=.tup []∧m1=Am.put m lv s (.vec g cz (P++(mg (lt c) X1 Y1++mg (lt c) X2 Y2)++S)))):=by
 have _:=hC;have _:=hcz;have hlm:(mg (lt c) X1 Y1).length=X1.length+Y1.length:=Qd9 _ _ _ rfl;have hlen:N=P.length+X1.length+Y1.length+X2.length+Y2.length+S.length:=by rw[hN];simp only[Qm9];omega
 have hem:∀x∈P++mg (lt c) X1 Y1++X2++Y2++S,Ez E cz x:=by
  intro x hx;refine he x ?_;simp only[QnP]at hx ⊢;rcases hx with(((hx|hx)|hx)|hx)|hx
  ·exact .inl (.inl (.inl hx))
  ·exact(Qea _ _ _ rfl hx).elim (fun h=>.inl (.inl (.inr h))) (fun h=>.inl (.inr h))
  ·exact .inr (.inl (.inl hx))
  ·exact .inr (.inl (.inr hx))
  ·exact .inr (.inr hx)
 have go:∀f:Fr,f 0=.vec (lv+1) s g 0 N false→f 3=.int .i64 ((P.length+X1.length+Y1.length+X2.length+Y2.length:Nat):Int)→f 4=.fn (.func kc) [] []→f 18=.int .i64 ((P.length+X1.length+Y1.length:Nat):Int)→f 24=.int .i64 ((P.length+X1.length+Y1.length+X2.length:Nat):Int)→
   QR Pg (.seq (.reg (Wp cz sr ro sm is st)) (.cond (.t 213) (.reg (Wq cz sr ro sm is st)) (.skip))) ⟨f,Qb :: Am.put m lv s (.vec g cz (P++mg (lt c) X1 Y1++(X2++Y2++S))),[]⟩
   (Zm Bf m.length (fun v m1=>v=.tup []∧m1=Am.put m lv s (.vec g cz (P++(mg (lt c) X1 Y1++mg (lt c) X2 Y2)++S)))):=by
  intro f f0 f3 f4 f18 f24;have hpl:(P++mg (lt c) X1 Y1).length=P.length+X1.length+Y1.length:=by rw[Qm9,hlm];omega
  have:=Qgh hC hcz (P:=P++mg (lt c) X1 Y1) (X2:=X2) (Y2:=Y2) (S:=S) (m:=m) (f:=f) (g:=g) (s:=s) ih hn2 hlv hem (by rw[hlen];simp only[Qm9,hlm];omega) hn sX sY f0 (by rw[hpl];exact f3) f4 (by rw[hpl];exact f18) (by rw[hpl];exact f24);rw[show P++mg (lt c) X1 Y1++(X2++Y2++S)=P++mg (lt c) X1 Y1++X2++Y2++S by simp only[QmQ],show P++(mg (lt c) X1 Y1++mg (lt c) X2 Y2)++S=P++mg (lt c) X1 Y1++mg (lt c) X2 Y2++S by simp only[QmQ]];exact this
 rw[U1,U1];simp only[YP,YQ,f1,f20,U0,K7,Jg,K6,K8,Db,HP,Qx,Q3,Xe,cond_true,cond_false,Qnm,seval,JQ];by_cases h1:0<X1.length
 ·have d1:decide ((P.length:Int)<((P.length+X1.length:Nat):Int))=true:=by simp only[Qmz];omega
  by_cases h2:0<Y1.length
  ·have d2:decide (((P.length+X1.length:Nat):Int)<((P.length+X1.length+Y1.length:Nat):Int))=true:=by simp only[Qmz];omega
   simp only[d1,d2,f0,f1,f4,f18,f20,U0,Jf,K5,K7,Jg,K6,K8,Db,WC,HP,Nm,WZ,U2,Qx,Q3,Xe,cond_true,cond_false,Qnm,seval,JQ];refine Qg (Hl hC hcz (ih _ hn1) P X1 Y1 (X2++Y2++S) hlv rfl h1 h2 he (by omega) sX1 sY1 hN rfl rfl rfl) rfl ?_;rw[K5,Jf];refine go _ ?_ ?_ ?_ ?_ ?_
   ·simp only[f0,Qa,seval]
   ·simp only[f3,Qa,seval]
   ·simp only[f4,Qa,seval]
   ·simp only[f18,Qa,seval]
   ·simp only[f24,Qa,seval]
  ·have d2:decide (((P.length+X1.length:Nat):Int)<((P.length+X1.length+Y1.length:Nat):Int))=false:=by simp only[Qov];omega
   have hy:Y1=[]:=QnB (by omega);have hres:mg (lt c) X1 Y1=X1++Y1:=by rw[hy,JW,Qnz]
   rw[hres,←QmQ P X1 Y1]at go;simp only[d1,d2,hres,f18,f20,Jf,K5,K7,Jg,K6,K8,Db,WC,HP,Nm,WZ,WB,Uw,Qx,Q3,Xe,cond_true,cond_false,Qnm,seval,JQ];refine go _ ?_ ?_ ?_ ?_ ?_
   ·simp only[f0,Qa,seval]
   ·simp only[f3,Qa,seval]
   ·simp only[f4,Qa,seval]
   ·simp only[f18,Qa,seval]
   ·simp only[f24,Qa,seval]
 ·have d1:decide ((P.length:Int)<((P.length+X1.length:Nat):Int))=false:=by simp only[Qov];omega
  have hx:X1=[]:=QnB (by omega);have hres:mg (lt c) X1 Y1=X1++Y1:=by rw[hx,Jy,QmS]
  rw[hres,←QmQ P X1 Y1]at go;simp only[d1,hres,Jf,K5,K7,Jg,K6,K8,Db,Y3,HP,Nm,WZ,WB,Uw,Qx,cond_true,cond_false,Qnm,seval,JQ];refine go _ ?_ ?_ ?_ ?_ ?_
  ·simp only[f0,Qa,seval]
  ·simp only[f3,Qa,seval]
  ·simp only[f4,Qa,seval]
  ·simp only[f18,Qa,seval]
  ·simp only[f24,Qa,seval]

include hC hcz in
theorem Qgj (ih:∀n,n<nn→GT Pg cz sm E kc c n)(hn1:X1.length+Y1.length<nn)(hn2:X2.length+Y2.length<nn)(hlv:lv<m.length)(he:∀x∈P++X1++X2++Y1++(Y2++S),Ez E cz x)(hN:N=(P++X1++X2++Y1++(Y2++S)).length)(hn:N<4611686018427387904)
  (sX1:Zs (lt c) X1) (sY1:Zs (lt c) Y1) (sX:Zs (lt c) X2) (sY:Zs (lt c) Y2) (f0:f 0=.vec (lv+1) s g 0 N false) (f1:f 1=.int .i64 (P.length:Nat)) (f2:f 2=.int .i64 ((P.length+X1.length+X2.length:Nat):Int)) (f3:f 3=.int .i64 ((P.length+X1.length+Y1.length+X2.length+Y2.length:Nat):Int)) (f4:f 4=.fn (.func kc) [] []) (f18:f 18=.int .i64 ((P.length+X1.length+Y1.length:Nat):Int)) (f19:f 19=.int .i64 ((P.length+X1.length+Y1.length+(P.length+X1.length+X2.length):Nat):Int)) (f20:f 20=.int .i64 ((P.length+X1.length:Nat):Int)) :
  QR Pg (.seq (.reg (UK cz sr ro sm is st)) (.seq (.seq (.reg (UL cz sr ro sm is st)) (.cond (.t 185) (.reg (UM cz sr ro sm is st)) (.skip))) (.seq (.seq (.reg (YP cz sr ro sm is st)) (.cond (.t 199) (.reg (YQ cz sr ro sm is st)) (.skip))) (.seq (.reg (Wp cz sr ro sm is st)) (.cond (.t 213) (.reg (Wq cz sr ro sm is st)) (.skip)))))) ⟨f,Qb :: Am.put m lv s (.vec g cz (P++X1++X2++Y1++(Y2++S))),[]⟩
   (Zm Bf m.length (fun v m1=>v=.tup []∧m1=Am.put m lv s (.vec g cz (P++(mg (lt c) X1 Y1++mg (lt c) X2 Y2)++S)))):=by
 have _:=hC;have _:=hcz;have hlen:N=P.length+X1.length+Y1.length+X2.length+Y2.length+S.length:=by rw[hN];simp only[Qm9];omega
 have hem:∀x∈P++X1++Y1++(X2++Y2++S),Ez E cz x:=by
  intro x hx;refine he x ?_;simp only[QnP]at hx ⊢;rcases hx with((hx|hx)|hx)|((hx|hx)|hx)
  ·exact .inl (.inl (.inl (.inl hx)))
  ·exact .inl (.inl (.inl (.inr hx)))
  ·exact .inl (.inr hx)
  ·exact .inl (.inl (.inr hx))
  ·exact .inr (.inl hx)
  ·exact .inr (.inr hx)
 have go:∀f:Fr,f 0=.vec (lv+1) s g 0 N false→f 1=.int .i64 (P.length:Nat)→f 3=.int .i64 ((P.length+X1.length+Y1.length+X2.length+Y2.length:Nat):Int)→f 4=.fn (.func kc) [] []→f 18=.int .i64 ((P.length+X1.length+Y1.length:Nat):Int)→f 20=.int .i64 ((P.length+X1.length:Nat):Int)→f 24=.int .i64 ((P.length+X1.length+Y1.length+X2.length:Nat):Int)→_ :=
  fun f f0 f1 f3 f4 f18 f20 f24=>Qgi hC hcz (P:=P) (X1:=X1) (Y1:=Y1) (X2:=X2) (Y2:=Y2) (S:=S) (m:=m) (f:=f) (g:=g) (s:=s) ih hn1 hn2 hlv hem (by rw[hlen];simp only[Qm9];omega) hn sX1 sY1 sX sY f0 f1 f3 f4 f18 f20 f24
 have e1:IntKind.i64.wrap (((P.length+X1.length+Y1.length+(P.length+X1.length+X2.length):Nat):Int)-((P.length+X1.length:Nat):Int))=((P.length+X1.length+Y1.length+X2.length:Nat):Int):=by rw[QC];omega
 rw[U1];simp only[UK,e1,f19,f20,U0,Jf,K5,K7,Jg,K6,K8,HP,Qx,Q3,Xe,cond_true,cond_false,Qnm,seval,JQ];rw[U1,U1];simp only[UL,f2,f20,U0,K7,Jg,K6,K8,Db,HP,Qx,Q3,Xe,cond_true,cond_false,Qnm,seval,JQ];by_cases h1:0<X2.length
 ·have d1:decide (((P.length+X1.length:Nat):Int)<((P.length+X1.length+X2.length:Nat):Int))=true:=by simp only[Qmz];omega
  by_cases h2:0<Y1.length
  ·have d2:decide (((P.length+X1.length+X2.length:Nat):Int)<((P.length+X1.length+Y1.length+X2.length:Nat):Int))=true:=by simp only[Qmz];omega
   simp only[UM,d1,d2,f0,f2,f4,f20,U0,Jf,K5,K7,Jg,K6,K8,Db,WC,HP,Nm,WZ,U2,Qx,Q3,Xe,cond_true,cond_false,Qnm,seval,JQ];refine Qg (Qbm hC hcz (.fn (.func kc) [] []) (P++X1) X2 Y1 (Y2++S) (n:=P.length+X1.length+Y1.length+X2.length) hlv h1 h2 he (by omega) hN (by rw[Qm9]) (by rw[Qm9]) (by rw[Qm9];omega)) rfl ?_;rw[K5,Jf];rw[show P++X1++Y1++X2++(Y2++S)=P++X1++Y1++(X2++Y2++S)by simp only[QmQ]];refine go _ ?_ ?_ ?_ ?_ ?_ ?_ ?_
   ·simp only[f0,Qa,seval]
   ·simp only[f1,Qa,seval]
   ·simp only[f3,Qa,seval]
   ·simp only[f4,Qa,seval]
   ·simp only[f18,Qa,seval]
   ·simp only[f20,Qa,seval]
   ·simp only[Qa,seval]
  ·have d2:decide (((P.length+X1.length+X2.length:Nat):Int)<((P.length+X1.length+Y1.length+X2.length:Nat):Int))=false:=by simp only[Qov];omega
   have hy:Y1=[]:=QnB (by omega);have hrow:P++X1++X2++Y1++(Y2++S)=P++X1++Y1++(X2++Y2++S):=by rw[hy];simp
   simp only[d1,d2,hrow,f2,Jf,K5,K7,Jg,K6,K8,Db,WC,HP,Nm,WZ,WB,Uw,Qx,Q3,Xe,cond_true,cond_false,Qnm,seval,JQ];refine go _ ?_ ?_ ?_ ?_ ?_ ?_ ?_
   ·simp only[f0,Qa,seval]
   ·simp only[f1,Qa,seval]
   ·simp only[f3,Qa,seval]
   ·simp only[f4,Qa,seval]
   ·simp only[f18,Qa,seval]
   ·simp only[f20,Qa,seval]
   ·simp only[Qa,seval]
 ·have d1:decide (((P.length+X1.length:Nat):Int)<((P.length+X1.length+X2.length:Nat):Int))=false:=by simp only[Qov];omega
  have hx:X2=[]:=QnB (by omega);have hrow:P++X1++X2++Y1++(Y2++S)=P++X1++Y1++(X2++Y2++S):=by rw[hx];simp
  simp only[d1,hrow,Jf,K5,K7,Jg,K6,K8,Db,Y3,HP,Nm,WZ,WB,Uw,Qx,cond_true,cond_false,Qnm,seval,JQ];refine go _ ?_ ?_ ?_ ?_ ?_ ?_ ?_
  ·simp only[f0,Qa,seval]
  ·simp only[f1,Qa,seval]
  ·simp only[f3,Qa,seval]
  ·simp only[f4,Qa,seval]
  ·simp only[f18,Qa,seval]
  ·simp only[f20,Qa,seval]
  ·simp only[Qa,seval]

end

set_option maxHeartbeats 1000000 in
include hC hcz in
theorem Qki {kc:Nat}{c:AV→AV→Int}(hc:Cp Pg cz E kc c)(nn:Nat)(ih:∀n,n<nn→GT Pg cz sm E kc c n)(lv s g:Nat)(P X Y S:List AV)(m:Qh)(hXY:X.length+Y.length=nn)(hX1:1<X.length)(hY1:1<Y.length)(hl:Am.Qc m lv s=.vec g cz (P++X++Y++S))(he:∀x∈P++X++Y++S,Ez E cz x)
  (hn:(P++X++Y++S).length<4611686018427387904) (sX:Zs (lt c) X) (sY:Zs (lt c) Y) :
  Qd Pg sm [.vec lv s g 0 (P++X++Y++S).length false,.int .i64 (P.length:Nat),.int .i64 ((P.length+X.length:Nat):Int),.int .i64 ((P.length+X.length+Y.length:Nat):Int),.fn (.func kc) [] []] m
   (fun v m1=>v=.tup []∧m1=Am.put m lv s (.vec g cz (P++mg (lt c) X Y++S))):=by
 have _:=hC;have _:=hcz;have hlv:lv<m.length:=Q8 (by rw[hl];simp);have hlen:(P++X++Y++S).length=P.length+X.length+Y.length+S.length:=by simp only[Qm9]
 refine hC.csm.go (by simp) ?_;have e1:(IntKind.i64.wrap (((P.length+X.length:Nat):Int)-(P.length:Int))==1)=false:=by rw[QC];simp only[Qoi,ne_eq];omega
 have e2:(IntKind.i64.wrap (((P.length+X.length+Y.length:Nat):Int)-((P.length+X.length:Nat):Int))==1)=false:=by rw[QC];simp only[Qoi,ne_eq];omega
 have e3:IntKind.i64.wrap ((P.length:Int)+((P.length+X.length+Y.length:Nat):Int))=((P.length+(P.length+X.length+Y.length):Nat):Int):=by rw[QC];omega
 have e4:=RS P.length (P.length+X.length+Y.length) (by omega);generalize hmid:(P.length+(P.length+X.length+Y.length)) / 2=mid at *;have e5:IntKind.i64.wrap ((mid:Int)+((P.length+X.length:Nat):Int))=((mid+(P.length+X.length):Nat):Int):=by rw[QC];omega
 have e6:IntKind.i64.wrap (((mid+(P.length+X.length):Nat):Int)-((P.length+X.length+Y.length:Nat):Int))=((mid+(P.length+X.length)-(P.length+X.length+Y.length):Nat):Int)∨mid<Y.length:=by
  by_cases h:mid<Y.length
  ·exact .inr h
  ·refine .inl ?_;rw[QC];omega
 have e7:IntKind.i64.wrap (((mid+(P.length+X.length):Nat):Int)-1)=((mid+(P.length+X.length)-1:Nat):Int):=by rw[QC];omega
 simp only[Le,NZ,FZ,F0,F1,F2,F3,F4,F5,F6,F7,F8,e1,e2,e3,e4,e5,Qa,seval];have h0:m=Am.put m lv s (.vec g cz (P++X++Y++S)):=(put_self hl).symm;generalize hN:(P++X++Y++S).length=N at *
 -- the search, from whatever bounds
 have main:∀(Q:Exit→St→Prop) (f:Fr) (s0 r0:Nat),s0≤r0→r0≤mid→(r0=mid∨r0=P.length+X.length)→(mid-s0≥Y.length∨s0=P.length)→mid-s0≤Y.length→r0≤P.length+X.length→P.length≤s0→
   f 0=.vec (lv+1) s g 0 N false→f 1=.int .i64 (P.length:Nat)→f 2=.int .i64 ((P.length+X.length:Nat):Int)→f 3=.int .i64 ((P.length+X.length+Y.length:Nat):Int)→f 4=.fn (.func kc) [] []→
   f 18=.int .i64 (mid:Nat)→f 19=.int .i64 ((mid+(P.length+X.length):Nat):Int)→f 22=.int .i64 ((mid+(P.length+X.length)-1:Nat):Int)→f 20=.int .i64 (s0:Nat)→f 21=.int .i64 (r0:Nat)→
   (∀(f:Fr) (t:Nat),s0≤t→t≤r0→mg (lt c) X Y=mg (lt c) (X.take (t-P.length)) (Y.take (mid-t))++mg (lt c) (X.drop (t-P.length)) (Y.drop (mid-t))→
    f 0=.vec (lv+1) s g 0 N false→f 1=.int .i64 (P.length:Nat)→f 2=.int .i64 ((P.length+X.length:Nat):Int)→f 3=.int .i64 ((P.length+X.length+Y.length:Nat):Int)→f 4=.fn (.func kc) [] []→
    f 18=.int .i64 (mid:Nat)→f 19=.int .i64 ((mid+(P.length+X.length):Nat):Int)→f 20=.int .i64 (t:Nat)→Q (.exit 8) ⟨f,Qb :: Am.put m lv s (.vec g cz (P++X++Y++S)),[]⟩)→
   QR Pg (.loop (Be cz sr ro sm is st)) ⟨f,Qb :: m,[]⟩ Q:=by
  intro Q f s0 r0 hsr hrm hr hs hs2 hr2 hps f0 f1 f2 f3 f4 f18 f19 f22 f20 f21 hQ;refine Qk (ScS cz m lv s g N mid s0 r0 kc c P X Y S) _ ⟨_,s0,r0,by rw[←h0]<;>rfl,rfl,Qms _,hsr,Qms _,(by intro k x y h1 h2;omega),(by intro k x y h1 h2;omega),f0,f1,f2,f3,f4,f18,f19,f22,f20,f21⟩ ?_;clear f0 f1 f2 f3 f4 f18 f19 f22 f20 f21 f;rintro k st ⟨f,i,j,rfl,rfl,hsi,hij,hj,hp,hq,f0,f1,f2,f3,f4,f18,f19,f22,f20,f21⟩;simp only[Be,F9,Ba,Bb,Bc,Bd,f20,f21,Qa,seval];by_cases hlt:i<j
  ·have d0:decide ((i:Int)<(j:Int))=true:=by simp only[Qmz];omega
   have e8:IntKind.i64.wrap ((i:Int)+(j:Int))=((i+j:Nat):Int):=by rw[QC];omega
   have e9:=RS i j (by omega);generalize hh:(i+j) / 2=h at *;have hh1:h<j:=by omega
   have hh2:i≤h:=by omega
   have ea:IntKind.i64.wrap ((h:Int)+1)=((h+1:Nat):Int):=by rw[QC];omega
   have eb:IntKind.i64.wrap (((mid+(P.length+X.length)-1:Nat):Int)-(h:Int))=((P.length+X.length+(mid-1-h):Nat):Int):=by rw[QC];omega
   obtain⟨x,hx⟩:∃x,X[h-P.length]? = some x:=⟨_,Qmv (by omega)⟩;obtain⟨y,hy⟩:∃y,Y[mid-1-h]? = some y:=⟨_,Qmv (by omega)⟩;have ex:Ez E cz x:=he x (by simp[QmJ hx]);have ey:Ez E cz y:=he y (by simp[QmJ hy]);have gx:(P++X++Y++S)[h]? = some x:=by
    rw[QmQ,QmQ,QnX (by omega),QnW (by omega),hx]
   have gy:(P++X++Y++S)[P.length+X.length+(mid-1-h)]? = some y:=by
    rw[QmQ,QnX (by rw[Qm9];omega),QnW (by rw[Qm9];omega),←hy];congr 1;rw[Qm9];omega
   simp only[d0,e8,e9,eb,f0,f4,f20,f21,f22,Yg hlv (show P.length+X.length+(mid-1-h)<N by omega),Yg hlv (show h<N by omega),Yf hlv gy ey,Yf hlv gx ex,Qa,seval];refine Yp (by simp only[Qa,seval]) (hc.call y x ey ex) (Ug ey ex _) (W5 ey ex) rfl (.inl (W5 ey ex)) ?_;cases hcx:decide (c y x<0)with
   |true=>
    simp only[hcx,Qa,seval];have hq':∀k x' y',h≤k→k<r0→X[k-P.length]? = some x'→Y[mid-1-k]? = some y'→lt c y' x'=true:=by
     intro k x' y' hk hk2 hx' hy';have h3:=WI hc.sw sY (show mid-1-k≤mid-1-h by omega) hy' hy hcx;have h4:=UG sX hc.sw (show h-P.length≤k-P.length by omega) hx hx';cases hb:lt c y' x' with
     |true=>rfl
     |false=>
      have:=hc.sw.nt y' x' x hb h4;rw[h3]at this;cases this
    exact⟨h-i,by omega,_,i,h,rfl,rfl,hsi,by omega,by omega,hp,hq',by simp only[f0,Qa,seval],by simp only[f1,Qa,seval],by simp only[f2,Qa,seval],by simp only[f3,Qa,seval],by simp only[f4,Qa,seval],by simp only[f18,Qa,seval],by simp only[f19,Qa,seval],by simp only[f22,Qa,seval],by simp only[f20,Qa,seval],by simp only[Qa,seval]⟩
   |false=>
    simp only[hcx,ea,Qa,seval];exact⟨j-(h+1),by omega,_,h+1,j,rfl,rfl,by omega,by omega,hj,fun k x' y' hk hk2 hx' hy'=>by
     have h3:=UG sX hc.sw (show k-P.length≤h-P.length by omega) hx' hx;have h4:lt c y' x=false:=by
      cases hb:lt c y' x with
      |false=>rfl
      |true=>exact absurd (WI hc.sw sY (show mid-1-h≤mid-1-k by omega) hy hy' hb) (by show ¬(decide _=true);rw[hcx];simp)
     exact hc.sw.nt y' x x' h4 h3,hq,by simp only[f0,Qa,seval],by simp only[f1,Qa,seval],by simp only[f2,Qa,seval],by simp only[f3,Qa,seval],by simp only[f4,Qa,seval],by simp only[f18,Qa,seval],by simp only[f19,Qa,seval],by simp only[f22,Qa,seval],by simp only[Qa,seval],by simp only[f21,Qa,seval]⟩
  ·have d0:decide ((i:Int)<(j:Int))=false:=by simp only[Qov];omega
   have hij':j=i:=by omega
   subst hij';simp only[d0,Qa,seval];refine hQ _ j (by omega) (by omega) (EC hc.sw sX sY hsi hj (by omega) (by omega) hr hs hs2 hr2 hp hq) ?_ ?_ ?_ ?_ ?_ ?_ ?_ ?_
   ·simp only[f0,Qa,seval]
   ·simp only[f1,Qa,seval]
   ·simp only[f2,Qa,seval]
   ·simp only[f3,Qa,seval]
   ·simp only[f4,Qa,seval]
   ·simp only[f18,Qa,seval]
   ·simp only[f19,Qa,seval]
   ·simp only[f20,Qa,seval]
 have hb1:mid≤P.length+X.length+Y.length:=by omega
 have fin:∀(f:Fr) (t:Nat),P.length≤t→t≤mid→t≤P.length+X.length→mid-t≤Y.length→mg (lt c) X Y=mg (lt c) (X.take (t-P.length)) (Y.take (mid-t))++mg (lt c) (X.drop (t-P.length)) (Y.drop (mid-t))→
    f 0=.vec (lv+1) s g 0 N false→f 1=.int .i64 (P.length:Nat)→f 2=.int .i64 ((P.length+X.length:Nat):Int)→f 3=.int .i64 ((P.length+X.length+Y.length:Nat):Int)→f 4=.fn (.func kc) [] []→
    f 18=.int .i64 (mid:Nat)→f 19=.int .i64 ((mid+(P.length+X.length):Nat):Int)→f 20=.int .i64 (t:Nat)→
   QR Pg (.seq (.reg (UK cz sr ro sm is st)) (.seq (.seq (.reg (UL cz sr ro sm is st)) (.cond (.t 185) (.reg (UM cz sr ro sm is st)) (.skip))) (.seq (.seq (.reg (YP cz sr ro sm is st)) (.cond (.t 199) (.reg (YQ cz sr ro sm is st)) (.skip))) (.seq (.reg (Wp cz sr ro sm is st)) (.cond (.t 213) (.reg (Wq cz sr ro sm is st)) (.skip)))))) ⟨f,Qb :: Am.put m lv s (.vec g cz (P++X++Y++S)),[]⟩
   (Zm Bf m.length (fun v m1=>v=.tup []∧m1=Am.put m lv s (.vec g cz (P++mg (lt c) X Y++S)))):=by
  intro f t h1 h2 h3 h4 hmg f0 f1 f2 f3 f4 f18 f19 f20;have l1:(X.take (t-P.length)).length=t-P.length:=by rw[Qns];omega
  have l2:(X.drop (t-P.length)).length=P.length+X.length-t:=by rw[Qnc];omega
  have l3:(Y.take (mid-t)).length=mid-t:=by rw[Qns];omega
  have l4:(Y.drop (mid-t)).length=Y.length-(mid-t):=by rw[Qnc]
  have hrow:P++X.take (t-P.length)++X.drop (t-P.length)++Y.take (mid-t)++(Y.drop (mid-t)++S)=P++X++Y++S:=by
   rw[QmQ P,QnN,←QmQ _ _ S,QmQ (P++X),QnN]
  have:=Qgj hC hcz (kc:=kc) (c:=c) (nn:=nn) (lv:=lv) (s:=s) (g:=g) (N:=N) (P:=P) (X1:=X.take (t-P.length)) (X2:=X.drop (t-P.length)) (Y1:=Y.take (mid-t)) (Y2:=Y.drop (mid-t)) (S:=S) (m:=m) (f:=f) ih
   (by rw[l1,l3];omega) (by rw[l2,l4];omega) hlv (by rw[hrow];exact he) (by rw[hrow,hN]) hn
   (List.Pairwise.sublist (List.take_sublist _ _) sX) (List.Pairwise.sublist (List.take_sublist _ _) sY) (List.Pairwise.sublist (List.drop_sublist _ _) sX) (List.Pairwise.sublist (List.drop_sublist _ _) sY)
   f0 f1 (by rw[f2,l1,l2];congr 2;omega) (by rw[f3,l1,l2,l3,l4];congr 2;omega) f4 (by rw[f18,l1,l3];congr 2;omega) (by rw[f19,l1,l2,l3];congr 2;omega) (by rw[f20,l1];congr 2;omega)
  rw[hrow,←hmg]at this;exact this
 by_cases hgt:mid<P.length+X.length
 ·have d0:decide (((P.length+X.length:Nat):Int) > (mid:Int))=true:=by simp only[Qmz];omega
  have hmy:Y.length≤mid:=by omega
  have e6':=e6.resolve_right (by omega);simp only[d0,e6',e7,Qa,seval];refine main _ _ (mid+(P.length+X.length)-(P.length+X.length+Y.length)) mid (by omega) (by omega) (.inl rfl) (.inl (by omega)) (by omega) (by omega) (by omega) ?_ ?_ ?_ ?_ ?_ ?_ ?_ ?_ ?_ ?_ ?_
  case refine_11=>
   intro f t h1 h2 hmg f0 f1 f2 f3 f4 f18 f19 f20;rw[Fo,QmD rfl,Jf];exact fin f t (by omega) (by omega) (by omega) (by omega) hmg f0 f1 f2 f3 f4 f18 f19 f20
  all_goals simp only[Qa,seval]
 ·have d0:decide (((P.length+X.length:Nat):Int) > (mid:Int))=false:=by simp only[Qov];omega
  simp only[d0,e7,Qa,seval];refine main _ _ P.length (P.length+X.length) (by omega) (by omega) (.inr rfl) (.inr rfl) (by omega) (by omega) (by omega) ?_ ?_ ?_ ?_ ?_ ?_ ?_ ?_ ?_ ?_ ?_
  case refine_11=>
   intro f t h1 h2 hmg f0 f1 f2 f3 f4 f18 f19 f20;rw[Fo,QmD rfl,Jf];exact fin f t (by omega) (by omega) (by omega) (by omega) hmg f0 f1 f2 f3 f4 f18 f19 f20
  all_goals simp only[Qa,seval]

include hC hcz in
theorem sym {kc:Nat}{c:AV→AV→Int}(hc:Cp Pg cz E kc c):∀n,GT Pg cz sm E kc c n:=by
 have _:=hC;have _:=hcz;intro n
 induction n using Nat.strongRecOn with
 |_ n ih=>
 intro lv s g P X Y S m hXY hX hY hl he hn sX sY;by_cases h1:X.length=1
 ·obtain⟨x,rfl⟩:=List.length_eq_one_iff.1 h1;exact Qkg hC hcz hc lv s g P x Y S m hl he hn sY
 ·by_cases h2:Y.length=1
  ·obtain⟨y,rfl⟩:=List.length_eq_one_iff.1 h2;exact Qkh hC hcz hc lv s g P X y S m hl he hn sX h1
  ·exact Qki hC hcz hc n ih lv s g P X Y S m hXY (by omega) (by omega) hl he hn sX sY

end Go.Proofs.YtkhpgmeokilhaaaGreatDoor.Tz

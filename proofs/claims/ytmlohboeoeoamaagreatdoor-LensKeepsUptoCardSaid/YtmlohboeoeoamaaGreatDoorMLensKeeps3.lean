/- Parts of the proof, in order. -/
import Derived.Test.YtmlohboeoeoamaaGreatDoorProg
import Derived.Test.YtmlohboeoeoamaaGreatDoorMLensKeeps2

set_option linter.unusedSimpArgs false
namespace Go.Proofs.YtmlohboeoeoamaaGreatDoor.Va
open Go Am Rc Bt Br Up

def ZH (f:Nat→Int):Nat→Nat→Int
 |0,_=>0
 |k+1,i=>if f i=0 then ZH f k (i+1)else f i

theorem A3 {f:Nat→Int}{n i:Nat}(h:i<n):ZH f (n-i) i=if f i=0 then ZH f (n-(i+1)) (i+1)else f i:=by
 rw[show n-i=(n-(i+1))+1 by omega];rfl
theorem B1 {f:Nat→Int}{n i:Nat}(h:i<n)(e:f i=0):ZH f (n-i) i=ZH f (n-(i+1)) (i+1):=by
 rw[A3 h,Qlv e]
theorem Hx {f:Nat→Int}{n i:Nat}{v:Int}(h:i<n)(e:f i=v)(hv:v≠0):ZH f (n-i) i=v:=by
 rw[A3 h,Qlu (by rw[e];exact hv),e]
theorem DU {f:Nat→Int}{n i:Nat}(h:¬i<n):ZH f (n-i) i=0:=by
 rw[show n-i=0 by omega];rfl
theorem KW {f:Nat→Int}:∀ {k i:Nat},ZH f k i=0→∀j,i≤j→j<i+k→f j=0
 |0,_,_,_,h1,h2=>xw
 |k+1,i,h,j,h1,h2=>by
  rw[ZH]at h;split at h
  ·rename_i h0;by_cases e:j=i
   ·rw[e];exact h0
   ·exact KW h j xw xw
  ·rename_i h0;exact absurd h h0

def _root_.Go.Proofs.YtmlohboeoeoamaaGreatDoor.Br.V.oth (v:V):Bool:=Va.oth v.kd v.bits v.text (v.list.map V.av) (v.pairs.map V.pav) (v.slots.map V.sav) (v.raws.map R.av)
def _root_.Go.Proofs.YtmlohboeoeoamaaGreatDoor.Br.V.one (P:PL)(k tg:Int)(v:V):Int:=Dh P k tg v.kd v.bits v.text (v.list.map V.av) (v.pairs.map V.pav) (v.slots.map V.sav) (v.raws.map R.av)

theorem DV (v:V):v.av=vo v.kd v.bits v.text (v.list.map V.av) (v.pairs.map V.pav) (v.slots.map V.sav) (v.raws.map R.av):=by
 rw[V.av,V.eta];rfl

def Qg (P:PL)(t:Int):PG:=P.progs[t.toNat]?.getD ⟨[],[],0⟩
def XE (a b:V):Bool:=a.bits==b.bits&&a.text==b.text
def Q7 (g:PG)(n:Int):Option PO:=g.ops.find? fun o=>o.num==n

section
variable (m:PG→V→Int)(P:PL)
def QW (o:PO)(v:V):Int:=if o.kind=10 then m (Qg P o.target) v else v.one P o.kind o.target
def Hj (o:PO)(ps:List (V×V))(i:Nat):Int:=match ps[i]? with
 |none=>0
 |some x=>if x.1.one P o.key (-1)=0 then(if (ps.take i).any (fun q=>XE q.1 x.1)=true then 9 else QW m P o x.2)else x.1.one P o.key (-1)
def FS (o:PO)(l:List V)(i:Nat):Int:=match l[i]? with
 |none=>0
 |some x=>QW m P o x
def Xw (o:PO)(v:V):Int :=
 if o.card=5 then(if (v.kd != 12||v.oth)=true then 12 else ZH (Hj m P o v.pairs) v.pairs.length 0)
 else if o.card=4 then(if (v.kd != 11||v.oth)=true then 12 else ZH (FS m P o v.list) v.list.length 0)
 else QW m P o v
def Yr (g:PG)(o:PO)(y:Int×V):Bool:=o.union != -1&&(((Q7 g y.1).getD Uq).union==o.union)
def Jv (g:PG)(sl:List (Int×V))(i:Nat):Int:=match sl[i]? with
 |none=>0
 |some x=>match Q7 g x.1 with
  |none=>8
  |some o=>if (sl.take i).any (fun y=>y.1==x.1)=true then 9 else if (sl.take i).any (Yr g o)=true then 15 else Xw m P o x.2
def B4 (g:PG)(f:R):Bool:=match Q7 g f.num with
 |none=>true
 |some o=>o.kind==9&&o.card != 5&&f.wire==0&&decide ((f.bits:Int)≤2147483647) && !YI P.enums o.target f.bits
def JW (g:PG)(f:R):Int :=
 if (decide (f.num<1)||decide (f.num > 65535)||decide (f.wire<0)||decide (f.wire > 6))=true then 1
 else if (decide (f.wire≤2) && !(f.data==[])||decide (f.wire > 2) && !((f.bits:Int)==0))=true then 1
 else if (!B4 P g f)=true then 1
 else if (f.wire==3&&decide ((f.data.length:Int) > 4096)||decide ((f.data.length:Int) > 65536))=true then 3 else 0
def W5 (g:PG)(l:List R)(i:Nat):Int:=match l[i]? with
 |none=>0
 |some f=>JW P g f
def H9 (g:PG)(sl:List (Int×V)):Bool:=g.ops.any fun o=>o.card==1 && !sl.any fun y=>y.1==o.num
def U3 (g:PG)(v:V):Int :=
 if ZH (Jv m P g v.slots) v.slots.length 0=0 then
  (if H9 g v.slots=true then 14 else ZH (W5 P g v.raws) v.raws.length 0)
 else ZH (Jv m P g v.slots) v.slots.length 0
end

theorem DW {m:PG→V→Int}{P:PL}{o:PO}{ps:List (V×V)}{i:Nat}{x:V×V}(h:ps[i]? = some x) :
  Hj m P o ps i=if x.1.one P o.key (-1)=0 then(if (ps.take i).any (fun q=>XE q.1 x.1)=true then 9 else QW m P o x.2)else x.1.one P o.key (-1):=by
 unfold Hj;rw[h]
theorem DX {m:PG→V→Int}{P:PL}{o:PO}{l:List V}{i:Nat}{x:V}(h:l[i]? = some x):FS m P o l i=QW m P o x:=by
 unfold FS;rw[h]
theorem Ga {P:PL}{g:PG}{l:List R}{i:Nat}{x:R}(h:l[i]? = some x):W5 P g l i=JW P g x:=by
 unfold W5;rw[h]

def XF (P:PL):Nat→PG→V→Int
 |0,_,v=>if (v.kd != 10||v.oth)=true then 12 else 17
 |n+1,g,v=>if (v.kd != 10||v.oth)=true then 12 else U3 (XF P n) P g v

mutual
def _root_.Go.Proofs.YtmlohboeoeoamaaGreatDoor.Br.V.cnt:V→Nat
 |.mk _ _ _ l p s r=>1+r.length+Q9 l+Xk p+Xd s
def Q9:List V→Nat
 | []=>0
 |x :: l=>x.cnt+Q9 l
def Xk:List (V×V)→Nat
 | []=>0
 |(a,b) :: l=>a.cnt+b.cnt+Xk l
def Xd:List (Int×V)→Nat
 | []=>0
 |(_,a) :: l=>a.cnt+Xd l
end

theorem Q4:∀v:V,v.cnt=1+v.raws.length+Q9 v.list+Xk v.pairs+Xd v.slots
 |.mk k b t l p s r=>by rw[V.cnt];rfl

theorem VJ {l:List V}{i:Nat}{x:V}(h:l[i]? = some x):Q9 (l.take (i+1))=Q9 (l.take i)+x.cnt:=by
 induction l generalizing i with
 |nil=>simp at h
 |cons y l ih=>
  cases i with
  |zero=>simp at h;subst h;simp[Q9]
  |succ i=>
   simp only[QlX,Q9];exact zJ
theorem A4 {l:List (V×V)}{i:Nat}{x:V×V}(h:l[i]? = some x):Xk (l.take (i+1))=Xk (l.take i)+(x.1.cnt+x.2.cnt):=by
 induction l generalizing i with
 |nil=>simp at h
 |cons y l ih=>
  obtain⟨y1,y2⟩:=y;cases i with
  |zero=>simp at h;subst h;simp[Xk]
  |succ i=>
   simp only[QlX,Xk];exact zJ
theorem A5 {l:List (Int×V)}{i:Nat}{x:Int×V}(h:l[i]? = some x):Xd (l.take (i+1))=Xd (l.take i)+x.2.cnt:=by
 induction l generalizing i with
 |nil=>simp at h
 |cons y l ih=>
  obtain⟨y1,y2⟩:=y;cases i with
  |zero=>simp at h;subst h;simp[Xd]
  |succ i=>
   simp only[QlX,Xd];exact zJ

inductive Thin:V→Prop
 |mk {v:V} (n:v.list.length+2*v.pairs.length+v.slots.length≤1099511627776) (list:∀x∈v.list,Thin x) (keys:∀x∈v.pairs,Thin x.1) (vals:∀x∈v.pairs,Thin x.2) (slots:∀x∈v.slots,Thin x.2):Thin v

theorem DY {v:V}(h:v.oth=false):(v.kd≠11→v.list=[])∧(v.kd≠12→v.pairs=[])∧(v.kd≠10→v.slots=[]):=by
 unfold V.oth Va.oth at h;simp only[Qmh,Qnv,bne_eq_false_iff_eq,Qns,Qmj]at h;obtain⟨⟨⟨⟨h1,h2⟩,h3⟩,_⟩,_⟩:=h;refine⟨fun h=>?_,fun h=>?_,fun h=>?_⟩
 ·rcases h1 with h1|h1
  ·exact absurd h1 h
  ·exact QnA.1 xw
 ·rcases h2 with h2|h2
  ·exact absurd h2 h
  ·exact QnA.1 xw
 ·rcases h3 with h3|h3
  ·exact absurd h3 h
  ·exact QnA.1 xw

theorem Ux {P:PL}{k tg:Int}{v:V}(h:v.one P k tg=0):v.kd=k∧v.oth=false∧X8 k v.kd v.bits v.text (v.list.map V.av) (v.pairs.map V.pav) (v.slots.map V.sav) (v.raws.map R.av)=true:=by
 unfold V.one Dh at h;split at h
 ·omega
 ·rename_i h1;split at h
  ·omega
  ·split at h
   ·omega
   ·split at h
    ·omega
    ·rename_i h2;simp only[Qnx,Qmh,bne_eq_false_iff_eq]at h1;exact⟨h1.1,h1.2,jA⟩

theorem Mw {k kd:Int}{b:Nat}{t:List UInt8}{l p s r:List AV}(h:X8 k kd b t l p s r=true):isk k=true:=by
 unfold X8 at h;simp only[QlM]at h;exact h.1.1.1.1.1.1

theorem QdR {k:Int}(h:isk k=true):k≠10∧k≠11∧k≠12:=by
 unfold isk at h;simp only[QlM,Qlr]at h;omega

theorem Mx {P:PL}{k tg:Int}{v:V}(h:v.one P k tg=0):Thin v:=by
 obtain⟨h1,h2,h3⟩:=Ux h;obtain⟨i1,i2,i3⟩:=QdR (Mw h3);obtain⟨o1,o2,o3⟩:=DY h2;rw[←h1]at i1 i2 i3;refine .mk ?_ ?_ ?_ ?_ ?_
 ·rw[o1 i2,o2 i3,o3 i1];simp
 ·rw[o1 i2];simp
 ·rw[o2 i3];simp
 ·rw[o2 i3];simp
 ·rw[o3 i1];simp

theorem IW {P:PL}{M:Nat}:∀(n:Nat) (g:PG) (v:V),v.ok M→XF P n g v=0→Thin v:=by
 intro n
 induction n with
 |zero=>
  intro g v _ h;unfold XF at h;split at h<;>omega
 |succ n ih=>
  intro g v hv h;unfold XF at h;split at h
  ·omega
  rename_i h0;simp only[Qnx,Qmh,bne_eq_false_iff_eq]at h0;obtain⟨o1,o2,o3⟩:=DY h0.2;have e1:=o1 xw;have e2:=o2 xw;unfold U3 at h;have hs:ZH (Jv (XF P n) P g v.slots) v.slots.length 0=0:=by
   split at h
   ·assumption
   ·exact h
  refine .mk ?_ (by rw[e1];simp) vq vq ?_
  ·rw[e1,e2];have:=hv.ns;simp;omega
  ·intro x hx;obtain⟨i,hi⟩:=QlA.1 hx;have hlt:=(Qlm.1 hi).1;have h1:=KW hs i (Qlx _) xw;unfold Jv at h1;rw[hi]at h1;dsimp only at h1;split at h1
   ·omega
   rename_i o _;split at h1
   ·omega
   split at h1
   ·omega
   have hx2:=hv.slots x hx;have helem:∀y:V,y.ok M→QW (XF P n) P o y=0→Thin y:=by
    intro y hy he;unfold QW at he;split at he
    ·exact ih _ _ hy he
    ·exact Mx he
   unfold Xw at h1;split at h1
   ·split at h1
    ·omega
    rename_i h2;simp only[Qnx,Qmh,bne_eq_false_iff_eq]at h2;obtain⟨o1,o2,o3⟩:=DY h2.2;have e1:=o1 xw;have e3:=o3 xw;have hp:∀y∈x.2.pairs,Thin y.1∧Thin y.2:=by
     intro y hy;obtain⟨j,hj⟩:=QlA.1 hy;have hlt:=(Qlm.1 hj).1;have h3:=KW h1 j (Qlx _) xw;unfold Hj at h3;rw[hj]at h3;dsimp only at h3;split at h3
     ·rename_i hk;split at h3
      ·omega
      ·exact⟨Mx hk,helem _ (hx2.vals y hy) h3⟩
     ·rename_i hk;exact absurd h3 hk
    refine .mk ?_ (by rw[e1];simp) (fun y hy=>(hp y hy).1) (fun y hy=>(hp y hy).2) (by rw[e3];simp);rw[e1,e3];have:=hx2.np;simp;omega
   ·split at h1
    ·split at h1
     ·omega
     rename_i h2;simp only[Qnx,Qmh,bne_eq_false_iff_eq]at h2;obtain⟨o1,o2,o3⟩:=DY h2.2;have e2:=o2 xw;have e3:=o3 xw;refine .mk ?_ ?_ vq vq (by rw[e3];simp)
     ·rw[e2,e3];have:=hx2.nl;simp;omega
     ·intro y hy;obtain⟨j,hj⟩:=QlA.1 hy;have hlt:=(Qlm.1 hj).1;have h3:=KW h1 j (Qlx _) xw;unfold FS at h3;rw[hj]at h3;exact helem _ (hx2.list y hy) h3
    ·exact helem _ hx2 h1

end Go.Proofs.YtmlohboeoeoamaaGreatDoor.Va

namespace Go.Proofs.YtmlohboeoeoamaaGreatDoor.Va
open Go Am Rc Bt Br

def kv (k:Int)(b:Nat)(t:List UInt8):AV:=.agg [.int .i64 k,.int .u64 (b:Nat),.str t,.list [],.list [],.list [],.list []]
def XT (k:Int):Prop:=(1≤k∧k≤5)∨k=7

theorem XT.isk {k:Int}(h:XT k):isk k=true:=by
 rcases h with h|rfl
 ·simp[Va.isk];omega
 ·rfl

theorem B5:∀s:List UInt8,Op.bytesLess s s=false
 | []=>rfl
 |a :: l=>by simp[Op.bytesLess,B5 l]

theorem QdS (a:Int):Qh Tryz.prog 105 [.int .i64 a] (.bool false):=by
 refine wF Tryz.func105 ?_;simp only[eK,Tryz.f105,seval];simp only[bne_self_eq_false,Qa,seval]

theorem QdT (a:Int):Qh Tryz.prog 353 [.int .u64 a] (.bool false):=by
 refine wF Tryz.func353 ?_;simp only[eK,Tryz.f353,seval];simp only[bne_self_eq_false,Qa,seval]

theorem QdU (a:List UInt8):Qh Tryz.prog 352 [.str a] (.bool false):=by
 have e:QS .neq a a=some (.bool false):=by simp[QS]
 refine wF Tryz.func352 ?_;simp only[eK,Tryz.f352,seval];simp only[e,Qa,seval]

def cN (a b:Int):Int:=if a<b then -1 else if b<a then 1 else 0
theorem DZ {a b:Int}:cN a b=0↔a=b:=by
 unfold cN;split
 ·omega
 ·split<;>omega

theorem v58 (a b:Int):Qh Tryz.prog 58 [.int .i64 a,.int .i64 b] (.int .i64 (cN a b)):=by
 refine wF Tryz.func58 ?_;simp only[eK,Tryz.f58,seval];simp only[Qa,seval];refine aC (QdS a) ?_;simp only[Qa,seval];refine aC (QdS b) ?_;exact oL

theorem Qis (a b:Int):Qh Tryz.prog 309 [.int .u64 a,.int .u64 b] (.int .i64 (cN a b)):=by
 refine wF Tryz.func309 ?_;simp only[eK,Tryz.f309,seval];simp only[Qa,seval];refine aC (QdT a) ?_;simp only[Qa,seval];refine aC (QdT b) ?_;exact oL

def cS (a b:List UInt8):Int:=if Op.bytesLess a b=true then -1 else if a==b then 0 else 1
theorem Ru {a b:List UInt8}:cS a b=0↔a=b:=by
 unfold cS
 constructor
 ·intro h;split at h
  ·omega
  ·split at h
   ·rename_i h2;simpa using h2
   ·omega
 ·rintro rfl;simp[B5]

theorem Qit (a b:List UInt8):Qh Tryz.prog 308 [.str a,.str b] (.int .i64 (cS a b)):=by
 refine wF Tryz.func308 ?_;simp only[eK,Tryz.f308,seval];simp only[Qa,seval];refine aC (QdU a) ?_;simp only[Qa,seval];refine aC (QdU b) ?_;simp only[QS,cS,Qa,seval];cases h1:Op.bytesLess a b
 ·cases h2:(a==b)<;>simp only[QS,h1,h2,Qnd,Qm9,Qmx,QlH,Qa,seval]
 ·simp only[Qa,seval]

def Fy (k:Int)(a:Nat)(s:List UInt8)(b:Nat)(t:List UInt8):Int :=
 if Zp k=true then cS s t else if (k==2||k==3)=true then cN (IntKind.i64.wrap (a:Int)) (IntKind.i64.wrap (b:Int))else cN (a:Int) (b:Int)

theorem Qiu (k:Int)(hk:XT k)(a b:Nat)(s t:List UInt8):Qh Tryz.prog 248 [kv k a s,kv k b t] (.int .i64 (Fy k a s b t)):=by
 have hi:=hk.isk;have k6:(k==6)=false:=by
  rcases hk with h|rfl
  ·simp;omega
  ·rfl
 refine wF Tryz.func248 ?_;simp only[eK,Tryz.f248,seval];simp only[kv,Fy,bne_self_eq_false,eE,seval];refine aC (NV k) ?_;simp only[hi,eE,seval];refine aC (Qdv k) ?_;cases h1:Zp k
 ·simp only[QlH,eE,seval];cases h2:(k==2)
  ·cases h3:(k==3)
   ·simp only[h3,k6,Qnt,QlH,eE,seval];refine aC (Qis _ _) ?_;simp only[Qa,seval]
   ·simp only[h3,Qnd,eE,seval];refine aC (v58 _ _) ?_;simp only[Qa,seval]
  ·simp only[Qnc,eE,seval];refine aC (v58 _ _) ?_;simp only[Qa,seval]
 ·simp only[eE,seval];refine aC (Qit s t) ?_;simp only[Qa,seval]

theorem QdV (k:Int)(hk:XT k)(b:Nat)(t:List UInt8):Qh Tryz.prog 247 [kv k b t] (.iface 235 (kv k b t)):=by
 have hi:=hk.isk;refine wF Tryz.func247 ?_;simp only[eK,Tryz.f247,seval];simp only[kv,eE,seval];refine aC (NV k) ?_;simp only[hi,eE,seval]

theorem QdW (k:Int)(hk:XT k)(a b:Nat)(s t:List UInt8):Qh Tryz.prog 155 [kv k a s,kv k b t] (.int .i64 (Fy k a s b t)):=by
 have h1:=QdV k hk a s;have h2:=QdV k hk b t;have h3:=Qiu k hk a b s t;simp only[kv]at h1 h2 h3;refine wF Tryz.func155 ?_;simp only[eK,Tryz.f155,seval];simp only[kv,bne_self_eq_false,eE,seval];refine aC h2 ?_;simp only[eE,seval];refine aC h1 ?_;simp only[eE,seval];refine aC h3 ?_;simp only[Qa,seval]

theorem IX (k:Int)(hk:XT k)(a b:Nat)(s t:List UInt8):Qh Tryz.prog 156 [kv k a s,kv k b t] (.bool (Fy k a s b t==0)):=by
 have h1:=QdW k hk a b s t;simp only[kv]at h1;refine wF Tryz.func156 ?_;simp only[eK,Tryz.f156,seval];simp only[kv,eE,seval];refine aC h1 ?_;simp only[Qa,seval]

def Yh (k:Int)(b:Nat):Int:=if (k==2||k==3)=true then IntKind.u64.wrap ((b:Int)+9223372036854775808)else(b:Int)

theorem Qiv (k:Int):Qh Tryz.prog 312 [.int .i64 k] (.bool (k==2||k==3)):=by
 refine wF Tryz.func312 ?_;simp only[eK,Tryz.f312,seval];simp only[Qa,seval];cases h:(k==2)<;>simp only[Qnc,Qnd,Qa,seval]

theorem QdX (k:Int)(k6:(k != 6)=true)(b:Nat)(t:List UInt8):Qh Tryz.prog 261 [kv k b t] (.int .u64 (Yh k b)):=by
 refine wF Tryz.func261 ?_;simp only[eK,Tryz.f261,seval];simp only[kv,eE,seval];refine aC (Qiv k) ?_;unfold Yh;cases h1:(k==2||k==3)
 ·simp only[k6,QlH,eE,seval]
 ·simp only[eE,seval]

def Fz (k:Int)(a:Nat)(s:List UInt8)(b:Nat)(t:List UInt8):Int:=if Zp k=true then cS s t else cN (Yh k a) (Yh k b)

theorem Qiw (k:Int)(hk:XT k)(a b:Nat)(s t:List UInt8):Qh Tryz.prog 167 [kv k a s,kv k b t] (.int .i64 (Fz k a s b t)):=by
 have hi:=hk.isk;have k6:(k != 6)=true:=by
  rcases hk with h|rfl
  ·simp;omega
  ·rfl
 have d1:decide (k<k)=false:=xA
 have d2:decide (k > k)=false:=xA
 have hr:=QdX k k6 a s;have hq:=QdX k k6 b t;simp only[kv]at hr hq;refine wF Tryz.func167 ?_;simp only[eK,Tryz.f167,seval];simp only[kv,Fz,d1,eE,seval];refine aC (Iy k) ?_;simp only[hi,eE,seval];refine aC (NW k) ?_;cases h2:Zp k
 ·simp only[QlH,eE,seval];refine aC (NW k) ?_;simp only[h2,eE,seval];refine aC (NW k) ?_;simp only[h2,eE,seval];refine aC hr ?_;simp only[eE,seval];refine aC hq ?_;simp only[Qa,seval];by_cases c1:Yh k a<Yh k b
  ·have e1:decide (Yh k a<Yh k b)=true:=Qnr c1;simp only[e1,cN,Qlv c1,Qa,seval]
  ·have e1:decide (Yh k a<Yh k b)=false:=Qnl c1;simp only[e1,cN,Qlu c1,eE,seval];refine aC hr ?_;simp only[eE,seval];refine aC hq ?_;by_cases c2:Yh k b<Yh k a
   ·have e2:decide (Yh k a > Yh k b)=true:=Qnr c2;simp only[e2,Qlv c2,Qa,seval]
   ·have e2:decide (Yh k a > Yh k b)=false:=Qnl c2;simp only[e2,Qlu c2,Qa,seval]
 ·simp only[QS,cS,eE,seval];cases h1:Op.bytesLess s t
  ·simp only[QlH,eE,seval];refine aC (NW k) ?_;cases h3:(s==t)
   ·simp only[h1,h2,h3,QS,Qnd,Qmx,QlH,eE,seval]
   ·simp only[h1,h2,h3,QS,Qnd,Qm9,eE,seval];refine aC (NW k) ?_;simp only[h2,Qa,seval]
  ·simp only[Qa,seval]

theorem Qix (k:Int)(hk:XT k)(a b:Nat)(s t:List UInt8):Qh Tryz.prog 106 [kv k a s,kv k b t] (.int .i64 (Fz k a s b t)):=by
 have b1:(k==11)=false:=by rcases hk with h|rfl<;>simp<;>omega
 have b2:(k==12)=false:=by rcases hk with h|rfl<;>simp<;>omega
 have b3:(k==10)=false:=by rcases hk with h|rfl<;>simp<;>omega
 have hr:=Qiw k hk a b s t;simp only[kv]at hr;refine wF Tryz.func106 ?_;simp only[eK,Tryz.f106,seval];simp only[kv,bne_self_eq_false,b1,b2,b3,eE,seval];refine aC hr ?_;simp only[Qa,seval]

theorem S5 {v:V}{P:PL}{k tg:Int}(h:v.one P k tg=0):v.av=kv k v.bits v.text∧(Zp k=true→(v.bits:Int)=0)∧(Zp k=false→v.text=[]):=by
 obtain⟨h1,_,h3⟩:=Ux h;rw[DV,h1];rw[h1]at h3;unfold X8 U2 at h3;simp only[QlM,Qls]at h3;obtain⟨⟨⟨⟨⟨_,⟨⟨⟨e1,e2⟩,e3⟩,e4⟩⟩,h4⟩,_⟩,_⟩,_⟩:=h3;have f1:=QnA.1 (Int.ofNat_eq_zero.1 e1);have f2:=QnA.1 (Int.ofNat_eq_zero.1 e2);have f3:=QnA.1 (Int.ofNat_eq_zero.1 e3);have f4:=QnA.1 (Int.ofNat_eq_zero.1 e4);rw[f1,f2,f3,f4];refine⟨rfl,fun ht=>?_,fun ht=>?_⟩
 ·rw[Qlv ht]at h4;simpa using h4
 ·rw[Qlu (by simp[ht])]at h4;simpa using h4

def _root_.Go.Proofs.YtmlohboeoeoamaaGreatDoor.Br.V.kx (_P:PL)(k:Int)(v:V):Prop:=v.kd=k∧v.av=kv k v.bits v.text∧(Zp k=true→(v.bits:Int)=0)∧(Zp k=false→v.text=[])
theorem S6 {v:V}{P:PL}{k tg:Int}(h:v.one P k tg=0):v.kx P k:=⟨(Ux h).1,S5 h⟩
theorem KD {v:V}{P:PL}{k:Int}(h:v.kx P k):v.av=kv k v.bits v.text∧(Zp k=true→(v.bits:Int)=0)∧(Zp k=false→v.text=[]):=h.2

theorem N6 {x y:V}{P:PL}{k:Int}(_hk:XT k)(hx:x.kx P k)(hy:y.kx P k)(bx:x.bits<18446744073709551616)(bY:y.bits<18446744073709551616):(Fy k x.bits x.text y.bits y.text==0)=XE x y:=by
 obtain⟨_,x1,x2⟩:=KD hx;obtain⟨_,y1,y2⟩:=KD hy;rw[Qmi,Qls];unfold XE Fy;simp only[QlM,Qls];split
 ·exact yL
 ·rename_i ht;have ht:Zp k=false:=qH
  rw[x2 ht,y2 ht];split
  ·rw[DZ,QA,QA];exact zL
  ·rw[DZ];exact zL

theorem Qb1 {x y:V}{P:PL}{k:Int}(_hk:XT k)(hx:x.kx P k)(hy:y.kx P k)(bx:x.bits<18446744073709551616)(bY:y.bits<18446744073709551616):(Fz k x.bits x.text y.bits y.text==0)=XE x y:=by
 obtain⟨_,x1,x2⟩:=KD hx;obtain⟨_,y1,y2⟩:=KD hy;rw[Qmi,Qls];unfold XE Fz;simp only[QlM,Qls];split
 ·exact yL
 ·rename_i ht;have ht:Zp k=false:=qH
  rw[x2 ht,y2 ht];unfold Yh;split
  ·rw[DZ,ZM,ZM];exact zL
  ·rw[DZ];exact zL

open Up

def vc (x:V):List AV:=[.int .i64 x.kd,.int .u64 (x.bits:Nat),.str x.text,.list (x.list.map V.av),.list (x.pairs.map V.pav),.list (x.slots.map V.sav),.list (x.raws.map R.av)]
theorem Qd (x:V):x.av=.agg [.int .i64 x.kd,.int .u64 (x.bits:Nat),.str x.text,.list (x.list.map V.av),.list (x.pairs.map V.pav),.list (x.slots.map V.sav),.list (x.raws.map R.av)]:=by
 rw[V.av,V.eta]
theorem Z1 (p:V×V):V.pav p=.agg [.int .i64 p.1.kd,.int .u64 (p.1.bits:Nat),.str p.1.text,.list (p.1.list.map V.av),.list (p.1.pairs.map V.pav),.list (p.1.slots.map V.sav),.list (p.1.raws.map R.av),.int .i64 p.2.kd,.int .u64 (p.2.bits:Nat),.str p.2.text,.list (p.2.list.map V.av),.list (p.2.pairs.map V.pav),.list (p.2.slots.map V.sav),.list (p.2.raws.map R.av)]:=by
 rw[V.pav,V.eta,V.eta];rfl
theorem ZN (s:Int×V):V.sav s=.agg [.int .i64 s.1,.int .i64 s.2.kd,.int .u64 (s.2.bits:Nat),.str s.2.text,.list (s.2.list.map V.av),.list (s.2.pairs.map V.pav),.list (s.2.slots.map V.sav),.list (s.2.raws.map R.av)]:=by
 rw[V.sav,V.eta]
theorem Hk {l:List V}{i:Nat}{x:V}(h:l[i]? = some x):(l.map V.av)[i]? = some (.agg [.int .i64 x.kd,.int .u64 (x.bits:Nat),.str x.text,.list (x.list.map V.av),.list (x.pairs.map V.pav),.list (x.slots.map V.sav),.list (x.raws.map R.av)]):=by
 rw[QmN,h,QlO,Qd]
theorem Ky {l:List (V×V)}{i:Nat}{p:V×V}(h:l[i]? = some p):(l.map V.pav)[i]? = some (.agg [.int .i64 p.1.kd,.int .u64 (p.1.bits:Nat),.str p.1.text,.list (p.1.list.map V.av),.list (p.1.pairs.map V.pav),.list (p.1.slots.map V.sav),.list (p.1.raws.map R.av),.int .i64 p.2.kd,.int .u64 (p.2.bits:Nat),.str p.2.text,.list (p.2.list.map V.av),.list (p.2.pairs.map V.pav),.list (p.2.slots.map V.sav),.list (p.2.raws.map R.av)]):=by
 rw[QmN,h,QlO,Z1]
theorem Wy {l:List (Int×V)}{i:Nat}{s:Int×V}(h:l[i]? = some s):(l.map V.sav)[i]? = some (.agg [.int .i64 s.1,.int .i64 s.2.kd,.int .u64 (s.2.bits:Nat),.str s.2.text,.list (s.2.list.map V.av),.list (s.2.pairs.map V.pav),.list (s.2.slots.map V.sav),.list (s.2.raws.map R.av)]):=by
 rw[QmN,h,QlO,ZN]

structure UO (P:PL)(o:PO):Prop where
 tgt:o.kind=10→0≤o.target∧o.target<(P.progs.length:Int)
 enm:o.kind=9→0≤o.target∧o.target<(P.enums.length:Int)
 key:o.card=5→XT o.key
def JX (P:PL):Prop:=∀g∈P.progs,∀o∈g.ops,UO P o

theorem Zy {P:PL}(h:ck P=0):JX P:=by
 unfold ck at h;split at h
 ·omega
 split at h
 ·omega
 split at h
 ·omega
 split at h
 ·omega
 split at h
 ·omega
 split at h
 ·omega
 rename_i ha;have ha:args P=true:=by simpa using ha
 intro g hg o ho;unfold args at ha;simp only[QlM,QlB]at ha;have h1:=ha.1 g hg;unfold W3 at h1;simp only[QlM,QlB]at h1;have h2:=(h1.2 o ho).1;unfold Wh at h2;simp only[QlM,Qlr]at h2;obtain⟨⟨_,hk⟩,hm⟩:=h2;refine⟨fun h=>?_,fun h=>?_,fun h=>?_⟩
 ·unfold BY at hm;rw[Qlv h]at hm;simp only[QlM,Qlr]at hm;exact hm.1
 ·unfold BY at hm;rw[Qlu xw,Qlv h]at hm;simp only[QlM,Qlr]at hm;exact hm
 ·unfold Va.key at hk;rw[Qlv h]at hk;simp only[QlM,Qlr,QlR]at hk;unfold XT;omega

section
variable {M:Nat}{P:PL}(hP:P.ok M)(hM:M≤140737488351232){m:PG→V→Int}{lv lv1:Int}(hw:IntKind.i64.wrap (lv+1)=lv1)

include hP in
theorem Qac (k tg:Int){v:V}(hv:v.ok M):Qh Tryz.prog 302 [P.av,.int .i64 k,.int .i64 tg,v.av] (.int .i64 (v.one P k tg)):=by
 rw[DV];exact Qir P hP k tg _ _ _ _ _ _ _ (by have:=hv.nl;simp;omega) (by have:=hv.np;simp;omega) (by have:=hv.ns;simp;omega) (by have:=hv.nr;simp;omega)

include hP hw in
theorem Qiy (hm:∀g∈P.progs,∀v:V,v.ok M→Qh Tryz.prog 49 [P.av,Qm g,v.av,.int .i64 lv1] (.int .i64 (m g v)))(o:PO)(ho:UO P o)(v:V)(hv:v.ok M) :
  Qh Tryz.prog 240 [P.av,Qu o,v.av,.int .i64 lv] (.int .i64 (QW m P o v)):=by
 have e0:P.av=.agg [.list (P.progs.map Qm),.list (P.enums.map QC)]:=rfl;have h1:=Qac hP o.kind o.target hv;rw[e0,Qd]at h1;rw[Qd];refine wF Tryz.func240 ?_;simp only[eK,Tryz.f240,seval];simp only[e0,Qu,PO.cells,QW,eE,seval];by_cases hk:o.kind=10
 ·have b:(o.kind==10)=true:=jD
  obtain⟨t0,t1⟩:=ho.tgt hk;obtain⟨i,hi⟩:=Qnb t0;have hlt:i<P.progs.length:=xw
  obtain⟨g,hg⟩:∃g,P.progs[i]? = some g:=⟨P.progs[i],Qln hlt⟩;have hga:(P.progs.map Qm)[i]? = some (.agg g.cells):=by simp[hg,Qm]
  have hq:Qg P o.target=g:=by unfold Qg;rw[hi,QmS,hg];rfl
  have h2:=hm g (QlC hg) v hv;rw[e0,Qd]at h2;simp only[Qm,PG.cells]at h2;simp only[PG.cells]at hga;rw[Qlv hk,hq];simp only[b,hi,Qp,QmS,Qf,hga,hw,eE,seval];refine aC h2 ?_;simp only[Qa,seval]
 ·have b:(o.kind==10)=false:=jD
  rw[Qlu hk];simp only[b,eE,seval];refine aC h1 ?_;simp only[Qa,seval]

end

section pairs
variable (L:List (V×V))(hl:L.length≤maxLen)(p:V×V→Bool)(c:Nat)(cap:AV)(m:Qk)

include hl in
theorem Qiz (hc:∀o∈L,Qe Tryz.prog c [V.pav o,cap.sh] (Qb :: m) fun y m1=>y=.bool (p o)∧m1=Qb :: m) :
  Qe Tryz.prog 234 [.list (L.map V.pav),.fn (.func c) [] [cap]] m fun y m1=>y=.int .i64 (Za p L 0)∧m1=m:=by
 refine wG Tryz.func234 ?_;simp only[eK,Tryz.f234,seval];exact GZ hl (av:=V.pav) (n:=14) (s:=some 14) (cs:=[cap]) (fun x=>by rw[Z1];exact⟨rfl,rfl⟩) hc

include hl in
theorem QiA (hc:∀o∈L,Qe Tryz.prog c [V.pav o,cap.sh.sh] (Qb :: Qb :: m) fun y m1=>y=.bool (p o)∧m1=Qb :: Qb :: m) :
  Qe Tryz.prog 140 [.list (L.map V.pav),.fn (.func c) [] [cap]] m fun y m1=>y=.bool (L.any p)∧m1=m:=by
 refine wG Tryz.func140 ?_;simp only[eK,Tryz.f140,seval];simp only[Qa,seval];refine Qj (Qiz L hl p c cap.sh _ hc) xF ?_;simp only[N5,Qa,seval]

end pairs

section slots
variable (L:List (Int×V))(hl:L.length≤maxLen)(p:Int×V→Bool)(c:Nat)(cap:AV)(m:Qk)

include hl in
theorem QiB (hc:∀o∈L,Qe Tryz.prog c [V.sav o,cap.sh] (Qb :: m) fun y m1=>y=.bool (p o)∧m1=Qb :: m) :
  Qe Tryz.prog 147 [.list (L.map V.sav),.fn (.func c) [] [cap]] m fun y m1=>y=.int .i64 (Za p L 0)∧m1=m:=by
 refine wG Tryz.func147 ?_;simp only[eK,Tryz.f147,seval];exact GZ hl (av:=V.sav) (n:=8) (s:=some 8) (cs:=[cap]) (fun x=>by rw[ZN];exact⟨rfl,rfl⟩) hc

include hl in
theorem v91 (hc:∀o∈L,Qe Tryz.prog c [V.sav o,cap.sh.sh] (Qb :: Qb :: m) fun y m1=>y=.bool (p o)∧m1=Qb :: Qb :: m) :
  Qe Tryz.prog 91 [.list (L.map V.sav),.fn (.func c) [] [cap]] m fun y m1=>y=.bool (L.any p)∧m1=m:=by
 refine wG Tryz.func91 ?_;simp only[eK,Tryz.f91,seval];simp only[Qa,seval];refine Qj (QiB L hl p c cap.sh _ hc) xF ?_;simp only[N5,Qa,seval]

end slots

theorem Uy (a b:Int):IntKind.i64.wrap (IntKind.i64.wrap a+IntKind.i64.wrap b)=IntKind.i64.wrap (a+b):=by
 simp only[QA];omega
theorem Qb2 (a b:Int):IntKind.i64.wrap (IntKind.i64.wrap a+b)=IntKind.i64.wrap (a+b):=by
 simp only[QA];omega

section
variable {M:Nat}

def C1I (v:V)(k:Nat)(st:St):Prop :=
 ∃f fr i,st=⟨f,[fr],[]⟩∧k=v.list.length-i∧i≤v.list.length∧f 1=.ptr 0 1 0∧f 3=.int .i64 (IntKind.i64.wrap ((1+v.raws.length+Q9 (v.list.take i):Nat):Int))∧f 4=.int .i64 (i:Nat)∧fr 1=.cells (vc v)
def C2I (v:V)(k:Nat)(st:St):Prop :=
 ∃f fr i,st=⟨f,[fr],[]⟩∧k=v.pairs.length-i∧i≤v.pairs.length∧f 1=.ptr 0 1 0∧f 3=.int .i64 (IntKind.i64.wrap ((1+v.raws.length+Q9 v.list+Xk (v.pairs.take i):Nat):Int))∧f 5=.int .i64 (i:Nat)∧fr 1=.cells (vc v)
def C3I (v:V)(k:Nat)(st:St):Prop :=
 ∃f fr i,st=⟨f,[fr],[]⟩∧k=v.slots.length-i∧i≤v.slots.length∧f 1=.ptr 0 1 0∧f 3=.int .i64 (IntKind.i64.wrap ((1+v.raws.length+Q9 v.list+Xk v.pairs+Xd (v.slots.take i):Nat):Int))∧f 6=.int .i64 (i:Nat)∧fr 1=.cells (vc v)

theorem v16 (v:V)(hv:v.ok M):Qh Tryz.prog 16 [v.av] (.int .i64 (IntKind.i64.wrap (v.cnt:Int))):=by
 revert hv
 refine V.ind (P:=fun v=>v.ok M→Qh Tryz.prog 16 [v.av] (.int .i64 (IntKind.i64.wrap (v.cnt:Int)))) ?_ v;clear v;intro v hl hp hs hv;have n1:=hv.nl;have n2:=hv.np;have n3:=hv.ns;rw[Qd];refine wF Tryz.func16 ?_;simp only[eK,Tryz.f16,seval];simp only[Qmj,eE,seval];refine Qi (C1I v) _ ⟨_,_,0,rfl,rfl,Qlx _,xx,qs,xx,xx⟩ ?_;rintro _ st ⟨f,fr,i,rfl,rfl,hil,h1,h3,h4,m1⟩;have m1':=m1;simp only[vc]at m1;simp only[Qmj,h1,h4,m1,eE,seval];by_cases hlt:i<v.list.length
 ·obtain⟨x,hi⟩:∃x,v.list[i]? = some x:=⟨v.list[i],Qln hlt⟩;have hg:=Hk hi;have e1:=Qr i _ hlt xC;have c1:=hl x (QlC hi) (hv.list x (QlC hi));rw[Qd]at c1;simp only[QB hlt,Qp,QmS,Qf,hg,h1,h3,h4,m1,eE,seval];refine aC c1 ?_;simp only[h4,e1,Uy,Qa,seval];exact⟨v.list.length-(i+1),xw,_,_,i+1,rfl,rfl,xw,xL,qV,xx,kB⟩
 have e:i=v.list.length:=xw
 subst e;rw[Qm5]at h3;simp only[QI hlt,Qa,seval];refine Qi (C2I v) _ ⟨_,_,0,rfl,rfl,Qlx _,xL,(by simp only[Qmy,Xk,QlV,h3,Qa,seval]),xx,kB⟩ ?_;clear h1 h3 h4 m1 m1' hlt hil;rintro _ st ⟨f,fr,i,rfl,rfl,hil,h1,h3,h5,m1⟩;have m1':=m1;simp only[vc]at m1;simp only[Qmj,h1,h5,m1,eE,seval];by_cases hlt:i<v.pairs.length
 ·obtain⟨x,hi⟩:∃x,v.pairs[i]? = some x:=⟨v.pairs[i],Qln hlt⟩;have hg:=Ky hi;have e1:=Qr i _ hlt xC;have hm:=QlC hi;have c1:=(hp x hm).1 (hv.keys x hm);have c2:=(hp x hm).2 (hv.vals x hm);rw[Qd]at c1 c2;simp only[QB hlt,Qp,QmS,Qf,hg,QlX,Qmy,Ql6,h1,h3,h5,m1,eE,seval];refine aC c1 ?_;simp only[Qp,QmS,Qf,hg,QlX,Ql0,Ql6,h1,h5,m1,eE,seval];refine aC c2 ?_;simp only[h5,e1,Uy,Qa,seval];exact⟨v.pairs.length-(i+1),xw,_,_,i+1,rfl,rfl,xw,xL,(by rw[A4 hi];simp only[h3,←QnB,Qlj,Qa,seval]),xx,kB⟩
 have e:i=v.pairs.length:=xw
 subst e;rw[Qm5]at h3;simp only[QI hlt,Qa,seval];refine Qi (C3I v) _ ⟨_,_,0,rfl,rfl,Qlx _,xL,(by simp only[Qmy,Xd,QlV,h3,Qa,seval]),xx,kB⟩ ?_;clear h1 h3 h5 m1 m1' hlt hil;rintro _ st ⟨f,fr,i,rfl,rfl,hil,h1,h3,h6,m1⟩;have m1':=m1;simp only[vc]at m1;simp only[Qmj,h1,h6,m1,eE,seval];by_cases hlt:i<v.slots.length
 ·obtain⟨x,hi⟩:∃x,v.slots[i]? = some x:=⟨v.slots[i],Qln hlt⟩;have hg:=Wy hi;have e1:=Qr i _ hlt xC;have hm:=QlC hi;have c1:=hs x hm (hv.slots x hm);rw[Qd]at c1;simp only[QB hlt,Qp,QmS,Qf,hg,QlX,Ql0,Ql6,h1,h3,h6,m1,eE,seval];refine aC c1 ?_;simp only[h6,e1,Uy,Qa,seval];exact⟨v.slots.length-(i+1),xw,_,_,i+1,rfl,rfl,xw,xL,(by rw[A5 hi];simp only[h3,←QnB,Qlj,Qa,seval]),xx,kB⟩
 have e:i=v.slots.length:=xw
 subst e;rw[Qm5]at h3;simp only[QI hlt,h3,Q4,Qa,seval]

end

def Wc (v:V):List V:=v.list++v.pairs.flatMap (fun p=>[p.1,p.2])++v.slots.map (·.2)

theorem FT (a b:List V):Q9 (a++b)=Q9 a+Q9 b:=by
 induction a with
 |nil=>simp[Q9]
 |cons x a ih=>simp only[QlK,Q9,ih];omega
theorem Qb3 (v:V):v.cnt=1+v.raws.length+Q9 (Wc v):=by
 have h1:∀l:List (V×V),Q9 (l.flatMap fun p=>[p.1,p.2])=Xk l:=by
  intro l
  induction l with
  |nil=>rfl
  |cons x l ih=>
   obtain⟨a,b⟩:=x;simp only[QmU,FT,ih,Xk,Q9,QlV]
 have h2:∀l:List (Int×V),Q9 (l.map (·.2))=Xd l:=by
  intro l
  induction l with
  |nil=>rfl
  |cons x l ih=>
   obtain⟨a,b⟩:=x;simp only[QlW,Q9,ih,Xd]
 rw[Q4,Wc,FT,FT,h1,h2];omega

theorem A6 {xs:List AV}(h:xs.all (fun e=>e.cells.length==7)=true)(hf:QP xs=[]):xs=[]:=by
 cases xs with
 |nil=>rfl
 |cons x xs=>
  have hl:x.cells.length=7:=qC
  have:x.cells=[]:=(List.append_eq_nil_iff.1 hf).1;rw[this]at hl;exact absurd hl.symm xy

theorem QiC (xs:List AV)(fr:Nat→Ob)(m:Qk)(h:xs.all (fun e=>e.cells.length==7)=true)(hn:xs.length≤1099511627776)(hr:Qn (fr 1000)=true) :
  Qe Tryz.prog 149 [.list xs] (fr :: m) (fun x m1=>x=.vec 0 1000 (XB (fr 1000)) 0 xs.length false∧m1=QJ fr 1000 (.vec (XB (fr 1000)) 7 xs) :: m):=by
 have hng:Qz (fr :: m) 0 1000=XB (fr 1000):=J4;refine Iu.go (by simp) ?_;simp only[SR,C3,C4,Qa,seval];refine Kf (ys:=xs) (by simp only[Qa,seval]) ?_ ?_
 ·simp only[C6,Qa,seval];refine Z4 rfl ?_;simp only[Qa,seval];refine QF (site:=5) (g:=1) (xs:=[]) (ys:=xs) rfl rfl rfl rfl rfl h (by simp[maxLen];omega) (by simp;omega) ?_;simp only[Qa,seval];refine Zu (l:=0) (site:=5) (g:=2) (o:=0) (n:=xs.length) (q:=false) (sz:=7) (xs:=xs) (by simp only[QlN,Qa,seval]) (by simp only[Qa,seval]) (by simp) (by decide) hr ?_;simp only[hng,NQ,eE,seval]
  try simp[AV.still,AV.un,Zw,XC]
 ·intro he;have hx:xs=[]:=by
   rcases he with he|he
   ·exact he
   ·exact A6 h he
  subst hx;simp only[C5,Qa,seval];refine XO (by simp only[Qa,seval]) rfl ?_;simp only[Qa,seval];refine Zu (l:=0) (site:=2) (g:=1) (o:=0) (n:=0) (q:=false) (sz:=7) (xs:=[]) (by simp only[Qa,seval]) (by simp only[Qa,seval]) (by simp) (by decide) hr ?_;simp only[hng,NQ,eE,seval]
  try simp[AV.still,AV.un,Zw,XC]

end Go.Proofs.YtmlohboeoeoamaaGreatDoor.Va

namespace Go.Proofs.YtmlohboeoeoamaaGreatDoor.So

section
variable {α:Type}

def ZP (lt:α→α→Bool)(a:α):List α→List α
 | []=>[a]
 |x :: l=>bif lt x a then x :: ZP lt a l else a :: x :: l

def QG (lt:α→α→Bool):List α→List α
 | []=>[]
 |a :: l=>ZP lt a (QG lt l)

def mg (lt:α→α→Bool):List α→List α→List α
 | [],Y=>Y
 |x :: X,[]=>x :: X
 |x :: X,y :: Y=>bif lt y x then y :: mg lt (x :: X) Y else x :: mg lt X (y :: Y)
termination_by X Y=>X.length+Y.length

structure SW (lt:α→α→Bool):Prop where
 irr:∀x,lt x x=false
 tr:∀x y z,lt x y=true→lt y z=true→lt x z=true
 nt:∀x y z,lt x y=false→lt y z=false→lt x z=false

variable {lt:α→α→Bool}

theorem SW.as (h:SW lt){x y:α}(hx:lt x y=true):lt y x=false:=by
 cases hy:lt y x with
 |false=>rfl
 |true=>
  have:=h.tr x y x hx hy;rw[h.irr]at this;cases this

theorem KX (X:List α):mg lt X []=X:=by cases X<;>simp[mg]
theorem Km (Y:List α):mg lt [] Y=Y:=by simp[mg]
theorem Uz {x y:α}{X Y:List α}(h:lt y x=true):mg lt (x :: X) (y :: Y)=y :: mg lt (x :: X) Y:=by rw[mg,h];rfl
theorem Hl {x y:α}{X Y:List α}(h:lt y x=false):mg lt (x :: X) (y :: Y)=x :: mg lt X (y :: Y):=by rw[mg,h];rfl
theorem U4 {a x:α}{l:List α}(h:lt x a=true):ZP lt a (x :: l)=x :: ZP lt a l:=by rw[ZP,h];rfl
theorem U5 {a x:α}{l:List α}(h:lt x a=false):ZP lt a (x :: l)=a :: x :: l:=by rw[ZP,h];rfl

theorem A7 (a:α):∀Y:List α,mg lt [a] Y=ZP lt a Y
 | []=>by rw[KX];rfl
 |y :: Y=>by
  cases h:lt y a with
  |true=>rw[Uz h,U4 h,A7 a Y]
  |false=>rw[Hl h,U5 h,Km]

theorem QdY (h:SW lt)(a:α):∀(n:Nat) (X Y:List α),X.length+Y.length=n→mg lt (ZP lt a X) Y=ZP lt a (mg lt X Y):=by
 intro n
 induction n using Nat.strongRecOn with
 |_ n ih=>
 intro X Y hn;cases X with
 |nil=>
  show mg lt [a] Y=ZP lt a (mg lt [] Y);rw[Km,A7]
 |cons x X=>
  cases Y with
  |nil=>rw[KX,KX]
  |cons y Y=>
   simp only[QlD]at hn;cases hxa:lt x a with
   |false=>
    have hi:ZP lt a (x :: X)=a :: x :: X:=U5 hxa;cases hya:lt y a with
    |true=>
     cases hyx:lt y x with
     |true=>
      have i:=ih (n-1) xw (x :: X) Y xX;rw[hi]at i ⊢;rw[Uz hya,Uz hyx,U4 hya,i]
     |false=>
      have:=h.nt y x a hyx hxa;rw[hya]at this;cases this
    |false=>
     rw[hi,Hl hya];cases hyx:lt y x with
     |true=>rw[Uz hyx,U5 hya]
     |false=>rw[Hl hyx,U5 hxa]
   |true=>
    have hi:ZP lt a (x :: X)=x :: ZP lt a X:=U4 hxa;cases hyx:lt y x with
    |true=>
     have i:=ih (n-1) xw (x :: X) Y xX;rw[hi]at i ⊢;rw[Uz hyx,Uz hyx,U4 (h.tr y x a hyx hxa),i]
    |false=>
     have i:=ih (n-1) xw X (y :: Y) xX;rw[hi,Hl hyx,Hl hyx,U4 hxa,i]

theorem Ys (h:SW lt):∀A B:List α,mg lt (QG lt A) (QG lt B)=QG lt (A++B)
 | [],B=>Km _
 |a :: A,B=>by
  show mg lt (ZP lt a (QG lt A)) (QG lt B)=ZP lt a (QG lt (A++B));rw[QdY h a _ _ _ rfl,Ys h A B]

theorem UA:∀(n:Nat) (X1 Y1 X2 Y2:List α),X1.length+Y1.length=n→(∀y∈Y1,∀x∈X2,lt y x=true)→(∀x∈X1,∀y∈Y2,lt y x=false)→
  mg lt (X1++X2) (Y1++Y2)=mg lt X1 Y1++mg lt X2 Y2:=by
 intro n
 induction n using Nat.strongRecOn with
 |_ n ih=>
 intro X1 Y1 X2 Y2 hn h1 h2;cases X1 with
 |nil=>
  cases Y1 with
  |nil=>rw[Km];rfl
  |cons y Y1=>
   cases X2 with
   |nil=>simp[Km]
   |cons x X2=>
    simp only[QlD,Qmk]at hn;have i:=ih (n-1) xw [] Y1 (x :: X2) Y2 (by simp only[Qmk];omega) (fun z hz=>h1 z (QlE _ hz)) h2;simp only[QlL,QlK,Km]at i ⊢;rw[Uz (h1 y xA x xA),i]
 |cons x X1=>
  simp only[QlD]at hn;cases Y1 with
  |nil=>
   cases Y2 with
   |nil=>simp[KX]
   |cons y Y2=>
    have i:=ih (n-1) xw X1 [] X2 (y :: Y2) (by simp only[Qmk]at hn ⊢;omega) h1 (fun z hz=>h2 z (QlE _ hz));simp only[QlL,QlK,KX]at i ⊢;rw[Hl (h2 x xA y xA),i]
  |cons y Y1=>
   simp only[QlD]at hn;simp only[QlK];cases hyx:lt y x with
   |true=>
    have i:=ih (n-1) xw (x :: X1) Y1 X2 Y2 xX (fun z hz=>h1 z (QlE _ hz)) h2;simp only[QlK]at i;rw[Uz hyx,Uz hyx,i];rfl
   |false=>
    have i:=ih (n-1) xw X1 (y :: Y1) X2 Y2 xX h1 (fun z hz=>h2 z (QlE _ hz));simp only[QlK]at i;rw[Hl hyx,Hl hyx,i];rfl

theorem Qb4 {x:α}{Y1 Y2:List α}(h1:∀y∈Y1,lt y x=true)(h2:∀y∈Y2,lt y x=false):mg lt [x] (Y1++Y2)=Y1++x :: Y2:=by
 have a:=UA (lt:=lt) _ [] Y1 [x] Y2 rfl (fun y hy z hz=>by rw[QnC.1 hz];exact h1 y hy) xA;have b:=UA (lt:=lt) _ [x] [] [] Y2 rfl xA (fun z hz y hy=>by rw[QnC.1 hz];exact h2 y hy);simp only[QlL,Qms,Km,KX]at a b;rw[a,b];rfl

theorem UB {y:α}{X1 X2:List α}(h1:∀x∈X1,lt y x=false)(h2:∀x∈X2,lt y x=true):mg lt (X1++X2) [y]=X1++y :: X2:=by
 have a:=UA (lt:=lt) _ X1 [y] X2 [] rfl (fun z hz x hx=>by rw[QnC.1 hz];exact h2 x hx) xA;have b:=UA (lt:=lt) _ X1 [] [] [y] rfl xA (fun x hx z hz=>by rw[QnC.1 hz];exact h1 x hx);simp only[QlL,Qms,Km,KX]at a b;rw[a,b];simp

def ZC (lt:α→α→Bool)(l:List α):Prop:=l.Pairwise fun x y=>lt y x=false

theorem N7 {a z:α}:∀ {l:List α},z∈ZP lt a l→z=a∨z∈l
 | [],h=>.inl (QnC.1 h)
 |x :: l,h=>by
  cases hx:lt x a with
  |true=>
   rw[U4 hx]at h;rcases QmM.1 h with rfl|h
   ·exact .inr QlG
   ·rcases N7 h with h|h
    ·exact .inl h
    ·exact .inr (QlE _ h)
  |false=>
   rw[U5 hx]at h;rcases QmM.1 h with rfl|h
   ·exact .inl rfl
   ·exact .inr h

theorem Di {z:α}:∀ {l:List α},z∈QG lt l→z∈l
 | [],h=>h
 |a :: l,h=>by
  rcases N7 (l:=QG lt l) h with rfl|h
  ·exact QlG
  ·exact QlE _ (Di h)

theorem Rv (h:SW lt)(a:α):∀ {l:List α},ZC lt l→ZC lt (ZP lt a l)
 | [],_=>QnD _ _
 |x :: l,hs=>by
  obtain⟨h1,h2⟩:=Qm0.1 hs;cases hx:lt x a with
  |true=>
   rw[U4 hx];refine Qm0.2 ⟨fun z hz=>?_,Rv h a h2⟩;rcases N7 hz with rfl|hz
   ·exact h.as hx
   ·exact h1 z hz
  |false=>
   rw[U5 hx];refine Qm0.2 ⟨fun z hz=>?_,hs⟩;rcases QmM.1 hz with rfl|hz
   ·exact hx
   ·exact h.nt z x a (h1 z hz) hx

theorem Zh (h:SW lt):∀l:List α,ZC lt (QG lt l)
 | []=>List.Pairwise.nil
 |a :: l=>Rv h a (Zh h l)

theorem Rw (a:α):∀l:List α,(ZP lt a l).length=l.length+1
 | []=>rfl
 |x :: l=>by
  cases hx:lt x a with
  |true=>rw[U4 hx,QlD,Rw a l,QlD]
  |false=>rw[U5 hx];rfl

theorem KY:∀l:List α,(QG lt l).length=l.length
 | []=>rfl
 |a :: l=>by show(ZP lt a (QG lt l)).length=_;rw[Rw,KY l];rfl

theorem QdZ:∀(n:Nat) (X Y:List α),X.length+Y.length=n→(mg lt X Y).length=n:=by
 intro n
 induction n using Nat.strongRecOn with
 |_ n ih=>
 intro X Y hn;cases X with
 |nil=>rw[Km];simpa using hn
 |cons x X=>
  cases Y with
  |nil=>rw[KX];simpa using hn
  |cons y Y=>
   simp only[QlD]at hn;cases hyx:lt y x with
   |true=>
    rw[Uz hyx,QlD,ih (n-1) xw (x :: X) Y xX];omega
   |false=>
    rw[Hl hyx,QlD,ih (n-1) xw X (y :: Y) xX];omega

theorem Qd0 {z:α}:∀(n:Nat) (X Y:List α),X.length+Y.length=n→z∈mg lt X Y→z∈X∨z∈Y:=by
 intro n
 induction n using Nat.strongRecOn with
 |_ n ih=>
 intro X Y hn hz;cases X with
 |nil=>rw[Km]at hz;exact .inr hz
 |cons x X=>
  cases Y with
  |nil=>rw[KX]at hz;exact .inl hz
  |cons y Y=>
   simp only[QlD]at hn;cases hyx:lt y x with
   |true=>
    rw[Uz hyx]at hz;rcases QmM.1 hz with rfl|hz
    ·exact .inr QlG
    ·exact(ih (n-1) xw (x :: X) Y xX hz).imp id (QlE _)
   |false=>
    rw[Hl hyx]at hz;rcases QmM.1 hz with rfl|hz
    ·exact .inl QlG
    ·exact(ih (n-1) xw X (y :: Y) xX hz).imp (QlE _) id

theorem Yt (h:SW lt){l:List α}(hs:ZC lt l){i j:Nat}{u v x:α}(hij:i≤j)(hi:l[i]? = some u)(hj:l[j]? = some v)(hv:lt v x=true):lt u x=true:=by
 rcases Nat.lt_or_eq_of_le hij with hlt|rfl
 ·obtain⟨h1,rfl⟩:=Qlm.1 hi;obtain⟨h2,rfl⟩:=Qlm.1 hj;have:=QnE.1 hs i j h1 h2 hlt;cases hu:lt l[i] x with
  |true=>rfl
  |false=>
   have:=h.nt _ _ _ this hu;rw[hv]at this;cases this
 ·rw[hi]at hj;cases hj;exact hv

theorem YJ {l:List α}(hs:ZC lt l)(h:SW lt){i j:Nat}{u v:α}(hij:i≤j)(hi:l[i]? = some u)(hj:l[j]? = some v):lt v u=false:=by
 rcases Nat.lt_or_eq_of_le hij with hlt|rfl
 ·obtain⟨h1,rfl⟩:=Qlm.1 hi;obtain⟨h2,rfl⟩:=Qlm.1 hj;exact QnE.1 hs i j h1 h2 hlt
 ·rw[hi]at hj;cases hj;exact h.irr _

def XA (lt:α→α→Bool)(s:Nat):Nat→List α→List α
 |0,_=>[]
 |n+1,l=>QG lt (l.take s)++XA lt s n (l.drop s)

theorem N8 (s:Nat):∀k,XA lt s k []=[]
 |0=>rfl
 |k+1=>by rw[XA,List.take_nil,QmE,N8 s k];rfl

theorem D0 (s:Nat):∀(k:Nat) (l:List α),(XA lt s k l).length=min (s*k) l.length
 |0,l=>by simp[XA]
 |k+1,l=>by
  rw[XA,Ql2,KY,D0 s k,Qml,Ql5,Nat.mul_succ];omega

theorem Ui {s:Nat}{z:α}:∀ {k:Nat} {l:List α},z∈XA lt s k l→z∈l
 |0,l,h=>by cases h
 |k+1,l,h=>by
  rw[XA]at h;rcases QmJ.1 h with h|h
  ·exact Qmc (Di h)
  ·exact Qmb (Ui h)

theorem Gb (s:Nat):∀(k:Nat) (l:List α),XA lt s (k+1) l=XA lt s k l++QG lt ((l.drop (s*k)).take s)
 |0,l=>by simp[XA]
 |k+1,l=>by
  rw[XA,Gb s k (l.drop s),XA,QlJ,QlT,Nat.mul_succ,Nat.add_comm s (s*k)]

theorem Rx {s k:Nat}{l:List α}(h:l.length≤s)(hk:l.length≤s*k):XA lt s k l=QG lt l:=by
 cases k with
 |zero=>
  have:l=[]:=Qmu xw;subst this;rfl
 |succ k=>rw[XA,QlY h,Ql1 h,N8,Qms]

theorem IY (s:Nat)(l:List α):l.take s++(l.drop s).take s=l.take (2*s):=by
 rw[show 2*s=s+s by omega,List.take_add]

end

end Go.Proofs.YtmlohboeoeoamaaGreatDoor.So

namespace Go.Proofs.YtmlohboeoeoamaaGreatDoor.Va
open Go Am Rc Bt

def YY (b:Nat):Nat :=
 let z:=b % 9223372036854775808
 if z > 9218868437227405312 then 0 else if z=9218868437227405312 then 1 else if z=0 then 2 else if z<4503599627370496 then 3 else 4

theorem QiD (b:Nat):Qh Tryz.prog 107 [.int .u64 (b:Nat)] (.int .i64 (YY b:Nat)):=by
 refine wF Tryz.func107 ?_;simp only[eK,Tryz.f107,seval];have hm:(b:Int).tmod 9223372036854775808=((b % 9223372036854775808:Nat):Int):=by
  rw[QnF xw];omega
 simp only[hm,Qa,seval];unfold YY;generalize b % 9223372036854775808=z
 repeat' (first|(refine QV (fun h=>?_) (fun h=>?_)<;>simp only[h,Qa,seval])|(refine XH (fun h=>?_) (fun h=>?_)<;>simp only[h,Ql,eE,seval])|(refine XJ (fun h=>?_) (fun h=>?_)<;>simp only[h,Ql,eE,seval]))
 all_goals(simp only[Qlr,Qns,Qls,Qne,ne_eq]at *)
 all_goals exact yj

theorem A8 (b:Nat):b &&& 4503599627370495=b % 4503599627370496:=Nat.and_two_pow_sub_one_eq_mod b 52
theorem A9 (b:Nat):b &&& 9218868437227405312=(b / 4503599627370496 % 2048)*4503599627370496:=by
 have h1:(9218868437227405312:Nat)=2047 <<< 52:=xy
 have h2:(b / 4503599627370496 % 2048)*4503599627370496=(b >>> 52 % 2 ^ 11) <<< 52:=by
  rw[Nat.shiftLeft_eq,Nat.shiftRight_eq_div_pow]
 rw[h1,h2]
 apply Nat.eq_of_testBit_eq
 intro i;rw[Nat.testBit_and,Nat.testBit_shiftLeft,Nat.testBit_shiftLeft,Nat.testBit_mod_two_pow,Nat.testBit_shiftRight,show(2047:Nat)=2 ^ 11-1 by decide,Nat.testBit_two_pow_sub_one];by_cases h:i≥52
 ·rw[show 52+(i-52)=i by omega];simp[h,Bool.and_comm]
 ·simp[h]

theorem QiE (b:Nat)(hb:b<18446744073709551616):Qh Tryz.prog 157 [.int .u64 (b:Nat)] (.int .i64 (YY b:Nat)):=by
 refine wF Tryz.func157 ?_;simp only[eK,Tryz.f157,seval];have a1:bits .and .u64 (b:Int) 9218868437227405312=(((b / 4503599627370496 % 2048)*4503599627370496:Nat):Int):=by
  have:=Hs b 9218868437227405312 hb xy;rw[A9]at this;exact this
 have a2:bits .and .u64 (b:Int) 4503599627370495=((b % 4503599627370496:Nat):Int):=by
  have:=Hs b 4503599627370495 hb xy;rw[A8]at this;exact this
 simp only[a1,a2,Qa,seval];unfold YY
 repeat' (first|(refine QV (fun h=>?_) (fun h=>?_)<;>simp only[h,Qa,seval])|(refine XH (fun h=>?_) (fun h=>?_)<;>simp only[h,Ql,Qa,seval])|(refine XJ (fun h=>?_) (fun h=>?_)<;>simp only[h,Ql,eE,seval]))
 all_goals(simp only[Qls,QlR,bne_eq_false_iff_eq,Qne,ne_eq]at *)
 all_goals exact yj

def Xx (k:Int)(b:Nat):Nat:=if k=6∧YY b=0 then 9221120237041090560 else b

theorem S7 (b:Nat):((YY b:Int)==0)=decide (YY b=0):=by
 rw[Qmi,Qls,Qlr];omega

open Br Up So

section sorting
variable {α:Type}{lt:α→α→Bool}
theorem My (a:α):∀l:List α,(ZP lt a l).Perm (a :: l)
 | []=>.refl _
 |x :: l=>by
  rw[ZP];cases lt x a
  ·exact .refl _
  ·exact((My a l).cons x).trans (.swap a x l)
theorem QX:∀l:List α,(QG lt l).Perm l
 | []=>.refl _
 |a :: l=>(My a _).trans ((QX l).cons a)
theorem FU:∀ {l:List α},ZC lt l→QG lt l=l
 | [],_=>rfl
 |a :: l,h=>by
  obtain⟨h1,h2⟩:=Qm0.1 h;rw[QG,FU h2];cases l with
  |nil=>rfl
  |cons x l=>exact U5 (h1 x xA)
end sorting

theorem Gc:∀ {a b c:List UInt8},Op.bytesLess a b=true→Op.bytesLess b c=true→Op.bytesLess a c=true
 |a,b,[],_,h=>by cases b<;>simp[Op.bytesLess]at h
 | [],_,_ :: _,_,_=>by simp[Op.bytesLess]
 |x :: a,[],_ :: _,h,_=>wW
 |x :: a,y :: b,z :: c,h,k=>by
  simp only[Op.bytesLess,Qlq,QlM,Qlr,Qls]at h k ⊢;rcases h with h|⟨h1,h2⟩<;>rcases k with k|⟨k1,k2⟩
  ·exact .inl (UInt8.lt_trans h k)
  ·subst k1;exact .inl h
  ·subst h1;exact .inl k
  ·subst h1 k1;exact .inr ⟨rfl,Gc h2 k2⟩
theorem Dj:∀ {a b:List UInt8},Op.bytesLess a b=false→Op.bytesLess b a=false→a=b
 | [],[],_,_=>rfl
 | [],_ :: _,h,_=>wW
 |_ :: _,[],_,h=>wW
 |x :: a,y :: b,h,k=>by
  simp only[Op.bytesLess,Qmh,Qnv,Qns,Qne]at h k;have e:x=y:=by
   rcases Nat.lt_trichotomy x.toNat y.toNat with g|g|g
   ·exact absurd (UInt8.lt_iff_toNat_lt.2 g) h.1
   ·exact UInt8.toNat_inj.1 g
   ·exact absurd (UInt8.lt_iff_toNat_lt.2 g) k.1
  subst e;rw[Dj (h.2.resolve_left fun g=>g rfl) (k.2.resolve_left fun g=>g rfl)]
theorem U6:∀a:List UInt8,Op.bytesLess a a=false
 | []=>rfl
 |x :: a=>by simp[Op.bytesLess,U6 a]

def kl (k:Int)(a b:V):Bool :=
 if Zp k=true then Op.bytesLess a.text b.text else if (k==2||k==3)=true then decide (IntKind.i64.wrap (a.bits:Int)<IntKind.i64.wrap (b.bits:Int))else decide ((a.bits:Int)<(b.bits:Int))
theorem KE (k:Int):SW fun x y:V×V=>kl k x.1 y.1 where
 irr x:=by
  unfold kl;split
  ·exact U6 _
  ·split<;>simp
 tr x y z h g:=by
  unfold kl at *;split
  ·rename_i ht;rw[Qlv ht]at h g;exact Gc h g
  ·rename_i ht;rw[Qlu ht]at h g;split
   ·rename_i hs;rw[Qlv hs]at h g;simp only[Qlr]at *;omega
   ·rename_i hs;rw[Qlu hs]at h g;simp only[Qlr]at *;omega
 nt x y z h g:=by
  unfold kl at *;split
  ·rename_i ht;rw[Qlv ht]at h g;cases hc:Op.bytesLess x.1.text z.1.text with
   |false=>rfl
   |true=>
    cases hy:Op.bytesLess y.1.text x.1.text with
    |true=>rw[Gc hy hc]at g;cases g
    |false=>
     rw[Dj h hy]at hc;rw[hc]at g;cases g
  ·rename_i ht;rw[Qlu ht]at h g;split
   ·rename_i hs;rw[Qlv hs]at h g;simp only[Qns]at *;omega
   ·rename_i hs;rw[Qlu hs]at h g;simp only[Qns]at *;omega

def Q0 (k:Int)(l:List (V×V)):List (V×V):=QG (fun x y=>kl k x.1 y.1) l
def ZA (l:List R):List R:=QG (fun x y=>decide (x.num<y.num)) l
theorem N9:SW fun x y:R=>decide (x.num<y.num) where
 irr x:=xA
 tr x y z h k:=wA
 nt x y z h k:=wB

def _root_.Go.Proofs.YtmlohboeoeoamaaGreatDoor.Br.V.nsc (v:V):V:=.mk v.kd (Xx v.kd v.bits) v.text v.list v.pairs v.slots v.raws
def _root_.Go.Proofs.YtmlohboeoeoamaaGreatDoor.Br.V.emp (v:V):Bool:=Va.emp v.kd v.bits v.text (v.list.map V.av) (v.pairs.map V.pav) (v.slots.map V.sav) (v.raws.map R.av)

section
variable (nm:PG→V→V)(P:PL)
def Zb (o:PO)(v:V):V:=if o.kind=10 then nm (Qg P o.target) v else v.nsc
def Zq (o:PO)(v:V):V :=
 if o.card=4 then .mk 11 0 [] (v.list.map (Zb nm P o)) [] [] []else if o.card=5 then .mk 12 0 [] [] ((Q0 o.key v.pairs).map fun p=>(p.1.nsc,Zb nm P o p.2)) [] []else Zb nm P o v
def Xb (sl:List (Int×V))(o:PO):List (Int×V):=match sl.find? (fun s=>s.1==o.num)with
 |none=>[]
 |some s=>if (decide (o.card<3) || !(Zq nm P o s.2).emp)=true then [(o.num,Zq nm P o s.2)]else []
def YW (g:PG)(v:V):V:=.mk 10 0 [] [] [] (g.ops.flatMap (Xb nm P v.slots)) (ZA v.raws)
end
def Q5 (P:PL):Nat→PG→V→V
 |0,_,v=>v
 |n+1,g,v=>YW (Q5 P n) P g v

theorem Ry (v:V):v.nsc.cnt=v.cnt:=by
 rw[Q4,Q4 v];rfl
theorem Mz {f:V→V}(h:∀v,(f v).cnt≤v.cnt):∀l:List V,Q9 (l.map f)≤Q9 l
 | []=>Qlk _
 |x :: l=>by
  have:=h x;have:=Mz h l;simp only[QlW,Q9];omega
theorem MA {f g:V→V}(h:∀v,(f v).cnt≤v.cnt)(k:∀v,(g v).cnt≤v.cnt):∀l:List (V×V),Xk (l.map fun p=>(f p.1,g p.2))≤Xk l
 | []=>Qlk _
 |(a,b) :: l=>by
  have:=h a;have:=k b;have:=MA h k l;simp only[QlW,Xk];omega
theorem VK {a b:List (V×V)}(h:a.Perm b):Xk a=Xk b:=by
 induction h with
 |nil=>rfl
 |cons x _ ih=>obtain⟨p,q⟩:=x;simp only[Xk,ih]
 |swap x y l=>obtain⟨p,q⟩:=x;obtain⟨r,s⟩:=y;simp only[Xk];omega
 |trans _ _ h1 h2=>rw[h1,h2]
theorem FV (a b:List (Int×V)):Xd (a++b)=Xd a+Xd b:=by
 induction a with
 |nil=>simp[Xd]
 |cons x a ih=>obtain⟨n,v⟩:=x;simp only[QlK,Xd,ih];omega

theorem Vb {nm:PG→V→V}{P:PL}(h:∀t v,(nm (Qg P t) v).cnt≤v.cnt)(o:PO)(v:V):(Zb nm P o v).cnt≤v.cnt:=by
 unfold Zb;split
 ·exact h _ _
 ·rw[Ry];exact Qlk _
theorem Rz {nm:PG→V→V}{P:PL}(h:∀t v,(nm (Qg P t) v).cnt≤v.cnt)(o:PO)(v:V):(Zq nm P o v).cnt≤v.cnt:=by
 unfold Zq;split
 ·have:=Mz (Vb (P:=P) h o) v.list;rw[Q4,Q4 v];simp only[V.raws,V.list,V.pairs,V.slots,Qmk,Xk,Xd];simp only[V.list]at this;omega
 ·split
  ·have h1:=MA (f:=V.nsc) (g:=Zb nm P o) (fun v=>by rw[Ry];exact Qlk _) (Vb (P:=P) h o) (Q0 o.key v.pairs);have h2:Xk (Q0 o.key v.pairs)=Xk v.pairs:=VK (QX _);rw[Q4,Q4 v];simp only[V.raws,V.list,V.pairs,V.slots,Qmk,Q9,Xd];simp only[V.pairs]at h1 h2;omega
  ·exact Vb h o v

def wS (sl:List (Int×V))(n:Int):Nat:=Xd (sl.filter fun s=>s.1==n)
theorem Ea (ops:List PO)(hd:ops.Pairwise fun a b=>a.num<b.num)(n:Int)(w:Nat):(ops.map fun o=>if n=o.num then w else 0).sum≤w:=by
 induction ops with
 |nil=>simp
 |cons o ops ih=>
  obtain⟨h1,h2⟩:=Qm0.1 hd;simp only[QlW,QnG];by_cases e:n=o.num
  ·have:(ops.map fun o=>if n=o.num then w else 0).sum=0:=by
    have:∀l:List PO,(∀x∈l,n≠x.num)→(l.map fun o=>if n=o.num then w else 0).sum=0:=by
     intro l
     induction l with
     |nil=>intro _;rfl
     |cons x l ih=>
      intro h;rw[QlW,QnG,Qlu (h x xA),ih fun y hy=>h y kY]
    exact this ops fun x hx=>by have:=h1 x hx;omega
   rw[Qlv e,this];omega
  ·rw[Qlu e];have:=ih h2;omega
theorem Qd1 (ops:List PO)(hd:ops.Pairwise fun a b=>a.num<b.num)(sl:List (Int×V)):(ops.map fun o=>wS sl o.num).sum≤Xd sl:=by
 induction sl with
 |nil=>
  have:∀l:List PO,(l.map fun o=>wS [] o.num).sum=0:=by
   intro l
   induction l with
   |nil=>rfl
   |cons x l ih=>rw[QlW,QnG,ih];rfl
  rw[this];exact Qlx _
 |cons s sl ih=>
  obtain⟨n,v⟩:=s;have h1:=Ea ops hd n v.cnt;have h2:∀l:List PO,(l.map fun o=>wS ((n,v) :: sl) o.num).sum=(l.map fun o=>if n=o.num then v.cnt else 0).sum+(l.map fun o=>wS sl o.num).sum:=by
   intro l
   induction l with
   |nil=>rfl
   |cons o l ih=>
    simp only[QlW,QnG,ih];have:wS ((n,v) :: sl) o.num=(if n=o.num then v.cnt else 0)+wS sl o.num:=by
     unfold wS;by_cases e:n=o.num
     ·rw[List.filter_cons_of_pos kn,Qlv e,Xd]
     ·rw[QnH kn,Qlu e,QlN]
    omega
  rw[h2,Xd];omega

theorem Qb5 {sl:List (Int×V)}{n:Int}{s:Int×V}(h:sl.find? (fun s=>s.1==n)=some s):s.2.cnt≤wS sl n:=by
 unfold wS
 induction sl with
 |nil=>cases h
 |cons x sl ih=>
  obtain⟨m,v⟩:=x;rw[Qnk]at h;by_cases e:m=n
  ·have hb:((m,v).1==n)=true:=kn
   rw[hb]at h;cases h;rw[List.filter_cons_of_pos kn,Xd];exact Nat.le_add_right _ _
  ·exact yB

theorem IZ {nm:PG→V→V}{P:PL}(h':∀t v,(nm (Qg P t) v).cnt≤v.cnt)(g:PG)(hd:g.ops.Pairwise fun a b=>a.num<b.num)(v:V):(YW nm P g v).cnt≤v.cnt:=by
 have h1:Xd (g.ops.flatMap (Xb nm P v.slots))≤(g.ops.map fun o=>wS v.slots o.num).sum:=by
  clear hd
  induction g.ops with
  |nil=>exact Qlk _
  |cons o l ih=>
   have:Xd (Xb nm P v.slots o)≤wS v.slots o.num:=by
    unfold Xb;cases hf:v.slots.find? (fun s=>s.1==o.num)with
    |none=>exact Qlx _
    |some s=>
     have a:=Qb5 hf;have b:=Rz (P:=P) h' o s.2;dsimp only;split
     ·simp only[Xd];omega
     ·exact Qlx _
   rw[QmU,FV,QlW,QnG];omega
 have h2:=Qd1 g.ops hd v.slots;have h3:(ZA v.raws).length=v.raws.length:=(QX _).length_eq;rw[Q4,Q4 v];simp only[YW,V.raws,V.list,V.pairs,V.slots,Q9,Xk]at *;omega

def Zo (P:PL):Prop:=∀g∈P.progs,g.ops.Pairwise fun a b=>a.num<b.num
theorem Z7 {P:PL}(h:Zo P)(t:Int):(Qg P t).ops.Pairwise fun a b=>a.num<b.num:=by
 unfold Qg;cases hg:P.progs[t.toNat]? with
 |none=>exact .nil
 |some g=>exact h g (QlC hg)

theorem Kr {P:PL}(h:Zo P):∀(n:Nat) (g:PG),(g.ops.Pairwise fun a b=>a.num<b.num)→∀v:V,(Q5 P n g v).cnt≤v.cnt
 |0,_,_,_=>Qlk _
 |n+1,g,hg,v=>IZ (fun t v=>Kr h n _ (Z7 h t) v) g hg v

end Go.Proofs.YtmlohboeoeoamaaGreatDoor.Va

namespace Go.Proofs.YtmlohboeoeoamaaGreatDoor.Va
open Go Am Rc Bt Br Up

theorem WI {M:Nat}{v:V}(h:v.ok M):v.bits<18446744073709551616:=by
 have:=GT h.bits;omega

section
variable {M:Nat}{P:PL}(hP:P.ok M)(hM:M≤140737488351232){m:PG→V→Int}{lv:Int}(o:PO)(ho:UO P o)(h5:o.card=5)(ps:List (V×V))(hn:ps.length≤maxLen)(hk:∀x∈ps,x.1.ok M)(hv:∀x∈ps,x.2.ok M)

theorem QiF {k:Int}(kk:XT k)(q p:V×V)(hq:q.1.one P k (-1)=0)(hp:p.1.one P k (-1)=0)(bq:q.1.ok M)(bp:p.1.ok M)(frO:Nat→Ob)(hf:∀c,V.pav p=.agg c→frO 10=.cells c) :
  Qe Tryz.prog 303 [V.pav q,.ptr 2 10 0] [Qb,Qb,frO] fun y m1=>y=.bool (XE q.1 p.1)∧m1=[Qb,Qb,frO]:=by
 have h:=IX k kk q.1.bits p.1.bits q.1.text p.1.text;have hf:=hf _ (Z1 p);rw[←(S5 hq).1,←(S5 hp).1,N6 kk (S6 hq) (S6 hp) (WI bq) (WI bp),Qd,Qd]at h;rw[Z1];refine wG Tryz.func303 ?_;simp only[eK,Tryz.f303,seval];simp only[hf,eE,seval];refine aC h ?_;simp only[Qa,seval]

def EnI (m:PG→V→Int)(P:PL)(lv:Int)(o:PO)(ps:List (V×V))(k:Nat)(st:St):Prop :=
 ∃f fr i,st=⟨f,[fr],[]⟩∧k=ps.length-i∧ZH (Hj m P o ps) ps.length 0=ZH (Hj m P o ps) (ps.length-i) i∧(∀j y,j<i→ps[j]? = some y→y.1.one P o.key (-1)=0)∧f 2=.list (ps.map V.pav)∧f 3=.int .i64 lv∧f 4=.ptr 0 4 0∧f 5=.ptr 0 5 0∧f 13=.list (ps.map V.pav)∧f 14=.int .i64 (ps.length:Nat)∧f 15=.int .i64 (i:Nat)∧fr 4=.cells [.list (P.progs.map Qm),.list (P.enums.map QC)]∧fr 5=.cells o.cells∧∀s∈[10],(fr s).isRow=false

include hP ho h5 hn hk hv in
theorem QiG (hel:∀v:V,v.ok M→Qh Tryz.prog 240 [P.av,Qu o,v.av,.int .i64 lv] (.int .i64 (QW m P o v))) :
  Qh Tryz.prog 241 [P.av,Qu o,.list (ps.map V.pav),.int .i64 lv] (.int .i64 (ZH (Hj m P o ps) ps.length 0)):=by
 have e0:P.av=.agg [.list (P.progs.map Qm),.list (P.enums.map QC)]:=rfl;have kk:=ho.key h5;refine wF Tryz.func241 ?_;simp only[eK,Tryz.f241,seval];simp only[e0,Qu,PO.cells,Qmj,eE,seval];refine Qi (EnI m P lv o ps) _ ⟨_,_,0,rfl,rfl,rfl,(by intro j y h;omega),xx,xx,xx,xx,xx,xx,xx,xx,xx,xS⟩ ?_;rintro _ st ⟨f0,fr0,i,rfl,rfl,hx,hks,h20,h30,h40,h50,h130,h140,h150,m40,m50,r10⟩;refine QL (a:=_) [10] r10 ?_;intro f fr hf hm hn10;have h2:f 2=.list (ps.map V.pav):=by rw[hf,h20]<;>rfl
 have h3:f 3=.int .i64 lv:=xW
 have h4:f 4=.ptr 0 4 0:=jx
 have h5':f 5=.ptr 0 5 0:=jN
 have h13:f 13=.list (ps.map V.pav):=kG
 have h14:f 14=.int .i64 (ps.length:Nat):=wI
 have h15:f 15=.int .i64 (i:Nat):=by rw[hf,h150]<;>rfl
 have m4:fr 4=.cells [.list (P.progs.map Qm),.list (P.enums.map QC)]:=xT
 have m5:fr 5=.cells o.cells:=jF
 have n10:=hn10 10 xy;clear hf hm hn10 h20 h30 h40 h50 h130 h140 h150 m40 m50 r10;have m5':=m5;simp only[PO.cells]at m5;simp only[h14,h15,Qa,seval];by_cases hlt:i<ps.length
 ·obtain⟨x,hi⟩:∃x,ps[i]? = some x:=⟨ps[i],Qln hlt⟩;have hxm:=QlC hi;have hg:=Ky hi;have e1:=Qr i _ hlt hn;have hle:(i≤ps.length)=True:=eq_true xw;have c1:=Qac hP o.key (-1) (hk x hxm);have c2:=hel x.2 (hv x hxm);rw[e0,Qd]at c1 c2;simp only[Qu,PO.cells]at c2;simp only[QB hlt,Qp,QmS,Qf,hg,n10,h4,h5',h13,h15,m4,m5,eE,seval];refine aC c1 ?_;by_cases hz:x.1.one P o.key (-1)=0
  ·have d0:((0:Int) != 0)=false:=rfl;have hcl:=fun(fr:Nat→Ob) (h10:∀c,V.pav x=.agg c→fr 10=.cells c)=>QiA (ps.take i) kE (fun q=>XE q.1 x.1) 303 (.ptr 0 10 0) [fr] fun q hq=>by
    obtain⟨j,hj⟩:=QlA.1 hq;have hlj:=(Qlm.1 hj).1;rw[Qml]at hlj;rw[Ql3,Qlv xw]at hj;exact QiF kk q x (hks j q xw hj) hz (hk q (QlC hj)) (hk x hxm) fr h10
   simp only[hz,d0,h2,Js,Jc,Xo,Qm4,Qmj,Qp,QmS,Qlx,Qlk,hle,true_or,Qmn,←List.map_take,Qa,seval];refine Qj (hcl _ (fun c hc=>by rw[Z1]at hc;cases hc;exact xx)) xB ?_;cases ha:(ps.take i).any (fun q=>XE q.1 x.1)
   ·have he:Hj m P o ps i=QW m P o x.2:=by rw[DW hi,Qlv hz,ha,Qlu xA]
    simp only[h3,h4,h5',m4,m5,eE,seval];refine aC c2 ?_;by_cases hy:QW m P o x.2=0
    ·rw[B1 hlt (he.trans hy)]at hx;simp only[hy,d0,h15,e1,Qa,seval];refine⟨ps.length-(i+1),xw,_,_,i+1,rfl,rfl,hx,?_,v9,xM,xR,wJ,kS,(by exact h14),xx,jO,j9,xS⟩;intro j y hj hjy;by_cases e:j=i
     ·subst e;rw[hi]at hjy;cases hjy;exact hz
     ·exact hks j y xw hjy
    ·rw[Hx hlt he hy]at hx;have d1:(QW m P o x.2 != 0)=true:=kY
     simp only[d1,hx,Qa,seval]
   ·rw[Hx hlt (v:=9) (by rw[DW hi,Qlv hz,ha,Qlv rfl]) xy]at hx;simp only[hx,Qa,seval]
  ·rw[Hx hlt ((DW hi).trans (Qlu hz)) hz]at hx;have d1:(x.1.one P o.key (-1) != 0)=true:=by simp[hz]
   simp only[d1,hx,Qa,seval]
 ·rw[DU hlt]at hx;simp only[QI hlt,hx,Qa,seval]

end

section
variable {M:Nat}{P:PL}(hP:P.ok M)(hM:M≤140737488351232){m:PG→V→Int}{lv:Int}(o:PO)(ho:UO P o)(v:V)(hv:v.ok M)

include hv in
theorem S8:Qh Tryz.prog 89 [v.av] (.bool v.oth):=by
 rw[DV];exact z89 _ _ _ _ _ _ _ (by have:=hv.ns;simp;omega) (by have:=hv.nr;simp;omega)

def FiI (m:PG→V→Int)(P:PL)(lv:Int)(o:PO)(v:V)(k:Nat)(st:St):Prop :=
 ∃f fr i,st=⟨f,[fr],[]⟩∧k=v.list.length-i∧ZH (FS m P o v.list) v.list.length 0=ZH (FS m P o v.list) (v.list.length-i) i∧f 3=.int .i64 lv∧f 4=.ptr 0 4 0∧f 5=.ptr 0 5 0∧f 24=.list (v.list.map V.av)∧f 25=.int .i64 (v.list.length:Nat)∧f 26=.int .i64 (i:Nat)∧fr 4=.cells [.list (P.progs.map Qm),.list (P.enums.map QC)]∧fr 5=.cells o.cells∧∀s∈[10],(fr s).isRow=false

include hP ho hv in
theorem QiH (hel:∀v:V,v.ok M→Qh Tryz.prog 240 [P.av,Qu o,v.av,.int .i64 lv] (.int .i64 (QW m P o v))) :
  Qh Tryz.prog 146 [P.av,Qu o,v.av,.int .i64 lv] (.int .i64 (Xw m P o v)):=by
 have e0:P.av=.agg [.list (P.progs.map Qm),.list (P.enums.map QC)]:=rfl;have co:=S8 v hv;have ce:=fun h5=>QiG hP o ho h5 v.pairs (by have:=hv.np;simp only[maxLen];omega) hv.keys hv.vals hel
 have cv:=hel v hv;rw[e0,Qd]at cv;rw[Qd]at co;simp only[e0,Qu,PO.cells]at ce cv;rw[Qd];refine wF Tryz.func146 ?_;simp only[eK,Tryz.f146,seval];simp only[e0,Qu,PO.cells,eE,seval];unfold Xw;by_cases h4:o.card=4
 ·have b4:(o.card==4)=true:=kR
  have n5:¬o.card=5:=xw
  rw[Qlu n5,Qlv h4];simp only[b4,eE,seval];cases a1:(v.kd != 11)
  ·simp only[Qnd,eE,seval];refine aC co ?_;cases a2:v.oth
   ·simp only[QlH,Qmj,eE,seval];refine Qi (FiI m P lv o v) _ ⟨_,_,0,rfl,rfl,rfl,xx,xx,xx,xx,xx,xx,xx,xx,xS⟩ ?_;rintro _ st ⟨f0,fr0,i,rfl,rfl,hx,h30,h40,h50,h240,h250,h260,m40,m50,r10⟩;refine QL (a:=_) [10] r10 ?_;intro f fr hf hm hn10;have h3:f 3=.int .i64 lv:=xW
    have h4:f 4=.ptr 0 4 0:=jx
    have h5:f 5=.ptr 0 5 0:=jN
    have h24:f 24=.list (v.list.map V.av):=by rw[hf,h240]<;>rfl
    have h25:f 25=.int .i64 (v.list.length:Nat):=by rw[hf,h250]<;>rfl
    have h26:f 26=.int .i64 (i:Nat):=by rw[hf,h260]<;>rfl
    have m4:fr 4=.cells [.list (P.progs.map Qm),.list (P.enums.map QC)]:=xT
    have m5:fr 5=.cells o.cells:=jF
    have n10:=hn10 10 xy;clear hf hm hn10 h30 h40 h50 h240 h250 h260 m40 m50 r10;have m5':=m5;simp only[PO.cells]at m5;simp only[h25,h26,Qa,seval];by_cases hlt:i<v.list.length
    ·obtain⟨x,hi⟩:∃x,v.list[i]? = some x:=⟨v.list[i],Qln hlt⟩;have hg:=Hk hi;have e1:=Qr i _ hlt (by have:=hv.nl;simp only[maxLen];omega);have c2:=hel x (hv.list x (QlC hi));rw[e0,Qd]at c2;simp only[Qu,PO.cells]at c2;simp only[QB hlt,Qp,QmS,Qf,hg,n10,h3,h4,h5,h24,h26,m4,m5,eE,seval];refine aC c2 ?_;by_cases hy:QW m P o x=0
     ·rw[B1 hlt ((DX hi).trans hy)]at hx;have d0:((0:Int) != 0)=false:=rfl;simp only[hy,d0,h26,e1,Qa,seval];exact⟨v.list.length-(i+1),xw,_,_,i+1,rfl,rfl,hx,xM,xR,xN,(by exact h24),(by exact h25),xx,jO,j9,xS⟩
     ·rw[Hx hlt (DX hi) hy]at hx;have d1:(QW m P o x != 0)=true:=kY
      simp only[d1,hx,Qa,seval]
    ·rw[DU hlt]at hx;simp only[QI hlt,hx,Qa,seval]
   ·simp only[Qa,seval]
  ·exact yP
 ·have b4:(o.card==4)=false:=kR
  by_cases h5:o.card=5
  ·have b5:(o.card==5)=true:=q7
   rw[Qlv h5];simp only[b4,b5,eE,seval];cases a1:(v.kd != 12)
   ·simp only[Qnd,eE,seval];refine aC co ?_;cases a2:v.oth
    ·simp only[QlH,eE,seval];refine aC (ce h5) ?_;simp only[Qa,seval]
    ·simp only[Qa,seval]
   ·exact yP
  ·have b5:(o.card==5)=false:=q7
   rw[Qlu h5,Qlu h4];simp only[b4,b5,eE,seval];refine aC cv ?_;simp only[Qa,seval]

end

theorem Ge {fr:Nat→Ob}{a b:Nat}(h1:(fr a).isRow=false)(h2:(fr b).isRow=false):∀s∈[a,b],(fr s).isRow=false:=by
 exact yQ

theorem Jb {g:PG}{n:Int}{o:PO}(h:Q7 g n=some o):o∈g.ops∧o.num=n:=by
 unfold Q7 at h;exact⟨Qnp h,by simpa using Qnq h⟩

theorem Yu (g:PG)(n:Int):BQ (fun o=>o.num==n) g.ops=.tup [Qu ((Q7 g n).getD Uq),.bool (Q7 g n).isSome]:=rfl

section
variable {M:Nat}{P:PL}(hP:P.ok M)(hM:M≤140737488351232){m:PG→V→Int}{lv:Int}(g:PG)(hg:g.ok M)(hu:∀o∈g.ops,UO P o)(sl:List (Int×V))(hn:sl.length≤maxLen)(i:Nat)(hi:i<sl.length)(hv:∀x∈sl,x.2.ok M)

theorem QiI (y:Int×V)(o:PO)(frO:Nat→Ob)(hf:frO 11=.cells o.cells) :
  Qe Tryz.prog 145 [V.sav y,.ptr 2 11 0] [Qb,Qb,frO] fun v m1=>v=.bool (y.1==o.num)∧m1=[Qb,Qb,frO]:=by
 simp only[PO.cells]at hf;rw[ZN];refine wG Tryz.func145 ?_;simp only[eK,Tryz.f145,seval];simp only[hf,eE,seval]

def SlI (P:PL)(lv:Int)(g:PG)(o:PO)(sl:List (Int×V))(i:Nat)(k:Nat)(st:St):Prop :=
 ∃f fr j,st=⟨f,[fr],[]⟩∧k=i-j∧j≤i∧(sl.take j).any (Yr g o)=false∧f 2=.list (sl.map V.sav)∧f 3=.int .i64 (i:Nat)∧f 4=.int .i64 lv∧f 5=.ptr 0 5 0∧f 6=.ptr 0 6 0∧f 11=.ptr 0 11 0∧f 36=.list ((sl.take i).map V.sav)∧f 37=.int .i64 (i:Nat)∧f 38=.int .i64 (j:Nat)∧fr 5=.cells [.list (P.progs.map Qm),.list (P.enums.map QC)]∧fr 6=.cells g.cells∧fr 11=.cells o.cells∧∀s∈[15,14],(fr s).isRow=false

include hg hn hi hv in
theorem v90 (hfi:∀o∈g.ops,∀v:V,v.ok M→Qh Tryz.prog 146 [P.av,Qu o,v.av,.int .i64 lv] (.int .i64 (Xw m P o v))) :
  Qh Tryz.prog 90 [P.av,Qm g,.list (sl.map V.sav),.int .i64 (i:Nat),.int .i64 lv] (.int .i64 (Jv m P g sl i)):=by
 have e0:P.av=.agg [.list (P.progs.map Qm),.list (P.enums.map QC)]:=rfl;obtain⟨x,hx⟩:∃x,sl[i]? = some x:=⟨sl[i],Qln hi⟩;have hxm:=QlC hx;have hgi:=Wy hx;have co:=fun n=>AS g hg.len n
 simp only[Yu]at co;have co1:=co x.1;have hle:(i≤sl.length)=True:=eq_true xw;have hlen:(sl.take i).length=i:=kE
 unfold Jv;rw[hx];dsimp only;simp only[Qm,PG.cells]at co co1;refine wF Tryz.func90 ?_;simp only[eK,Tryz.f90,seval];simp only[e0,Qm,PG.cells,Qp,QmS,Qf,hgi,QlX,Ql6,eE,seval];refine aC co1 ?_;cases ho:Q7 g x.1 with
 |none=>
  simp only[Qm4,Qme,Uq,Qu,PO.cells,splice,Qmy,QlL,Ql0,QmE,Qms,QlD,Qmk,QmB,QmC,AV.leaf,eE,seval]
 |some o=>
  obtain⟨hom,hon⟩:=Jb ho;have hcl:=fun(fr:Nat→Ob) (h11:fr 11=.cells o.cells)=>v91 (sl.take i) xw (fun y=>y.1==o.num) 145 (.ptr 0 11 0) [fr] fun y _=>QiI y o fr h11
  rw[hon]at hcl;simp only[PO.cells]at hcl;simp only[QmA,Qnm,Qu,PO.cells,splice,Qmy,QlL,Ql0,Ql6,QmE,Qms,QlD,Qmk,QmB,QmC,AV.leaf,Js,Jc,Xo,Qm4,Qmj,Qp,QmS,Qlx,Qlk,hle,true_or,Qmn,←List.map_take,eE,seval];refine Qj (hcl _ xx) xB ?_;cases ha:(sl.take i).any (fun y=>y.1==x.1)
  ·simp only[QlH,Js,Jc,Xo,Qm4,Qmj,Qp,QmS,Qlx,Qlk,hle,true_or,Qmn,←List.map_take,hlen,Qa,seval];refine Qi (SlI P lv g o sl i) _ ⟨_,_,0,rfl,rfl,Qlx _,xA,xx,xx,xx,xx,xx,xx,xx,xx,xx,xx,xx,xx,Ge rfl rfl⟩ ?_;rintro _ st ⟨f0,fr0,j,rfl,rfl,hji,hq,h20,h30,h40,h50,h60,h110,h360,h370,h380,m50,m60,m110,r15⟩;refine QL (a:=_) [15,14] r15 ?_;intro f fr hf hm hn15;have h2:f 2=.list (sl.map V.sav):=by rw[hf,h20]<;>rfl
   have h3:f 3=.int .i64 (i:Nat):=xW
   have h4:f 4=.int .i64 lv:=jx
   have h5:f 5=.ptr 0 5 0:=jN
   have h6:f 6=.ptr 0 6 0:=jV
   have h11:f 11=.ptr 0 11 0:=kH
   have h36:f 36=.list ((sl.take i).map V.sav):=by rw[hf,h360]<;>rfl
   have h37:f 37=.int .i64 (i:Nat):=by rw[hf,h370]<;>rfl
   have h38:f 38=.int .i64 (j:Nat):=by rw[hf,h380]<;>rfl
   have m5:fr 5=.cells [.list (P.progs.map Qm),.list (P.enums.map QC)]:=jF
   have m6:fr 6=.cells g.cells:=jG
   have m11:fr 11=.cells o.cells:=by rw[hm 11 xy,m110]<;>rfl
   have n15:=hn15 15 xy;have n14:=hn15 14 xy;clear hf hm hn15 h20 h30 h40 h50 h60 h110 h360 h370 h380 m50 m60 m110 r15;have m6':=m6;have m11':=m11;simp only[PG.cells]at m6;simp only[PO.cells]at m11;simp only[h37,h38,Qa,seval];by_cases hlt:j<i
   ·obtain⟨y,hj⟩:∃y,sl[j]? = some y:=⟨sl[j]' xw,Qln xw⟩;have hj':(sl.take i)[j]? = some y:=by rw[Ql3,Qlv hlt];exact hj
    have hgj:=Wy hj';have e1:=Qr j i hlt xw;have co2:=co y.1;have ht:(sl.take (j+1)).any (Yr g o)=Yr g o y:=by
     rw[Qng,hj,List.any_append,hq];simp
    have hun:Yr g o y=(o.union != -1&&(((Q7 g y.1).getD Uq).union==o.union)):=rfl;simp only[QB hlt,Qp,QmS,Qf,hgj,n14,h6,h36,h38,m6,eE,seval];refine aC co2 ?_;generalize (Q7 g y.1).getD Uq=q at hun;generalize (Q7 g y.1).isSome=qb;have fin:∀(f':Fr) (fr':Nat→Ob),Yr g o y=false→f' 2=.list (sl.map V.sav)→f' 3=.int .i64 (i:Nat)→f' 4=.int .i64 lv→f' 5=.ptr 0 5 0→f' 6=.ptr 0 6 0→f' 11=.ptr 0 11 0→f' 36=.list ((sl.take i).map V.sav)→f' 37=.int .i64 (i:Nat)→f' 38=.int .i64 ((j+1:Nat):Int)→fr' 5=.cells [.list (P.progs.map Qm),.list (P.enums.map QC)]→fr' 6=.cells g.cells→fr' 11=.cells o.cells→(∀s∈[15,14],(fr' s).isRow=false)→∃k,k<i-j∧SlI P lv g o sl i k ⟨f',[fr'],[]⟩:=by
     intro f' fr' hu b2 b3 b4 b5 b6 b11 b36 b37 b38 c5 c6 c11 c15;exact⟨i-(j+1),xw,f',fr',j+1,rfl,rfl,xw,by rw[ht,hu],b2,b3,b4,b5,b6,b11,b36,b37,b38,c5,c6,c11,c15⟩
    cases a1:(o.union != -1)
    ·rw[a1,QmW]at hun;simp only[Qu,PO.cells,a1,n15,h11,h38,m11,e1,eE,seval];exact zl
    ·cases a2:(q.union==o.union)
     ·rw[a1,a2,Qm8]at hun;simp only[Qu,PO.cells,a1,a2,n15,h11,h38,m11,e1,eE,seval];exact zl
     ·rw[a1,a2,Qm8]at hun;have hany:(sl.take i).any (Yr g o)=true:=Qm6.2 ⟨y,QlC hj',hun⟩;rw[hany];simp only[Qu,PO.cells,a1,a2,n15,h11,m11,eE,seval]
   ·have e:j=i:=xw
    subst e;have cf:=hfi o hom x.2 (hv x hxm);rw[e0,Qd]at cf;simp only[Qu,PO.cells]at cf;rw[hq];simp only[QI hlt,QlH,Qp,QmS,Qf,hgi,QlX,Ql0,Ql6,h2,h3,h4,h5,h11,m5,m11,eE,seval];refine aC cf ?_;simp only[Qa,seval]
  ·simp only[Qa,seval]

end

def B6 (P:PL)(o:PO)(f:R):Bool:=o.kind==9&&o.card != 5&&f.wire==0&&decide ((f.bits:Int)≤2147483647) && !YI P.enums o.target f.bits
theorem I0 (P:PL)(g:PG)(f:R):(!B4 P g f)=((Q7 g f.num).isSome && !B6 P ((Q7 g f.num).getD Uq) f):=by
 unfold B4 B6;cases Q7 g f.num<;>rfl
def Qd2 (f:R):Bool:=decide (f.num<1)||decide (f.num > 65535)||decide (f.wire<0)||decide (f.wire > 6)
def Qd3 (f:R):Bool:=decide (f.wire≤2) && !(f.data==[])||decide (f.wire > 2) && !((f.bits:Int)==0)
def Qd4 (f:R):Bool:=f.wire==3&&decide ((f.data.length:Int) > 4096)||decide ((f.data.length:Int) > 65536)
theorem Qb6 (P:PL)(g:PG)(f:R):JW P g f=if Qd2 f=true then 1 else if Qd3 f=true then 1 else if (!B4 P g f)=true then 1 else if Qd4 f=true then 3 else 0:=rfl
section
variable {M:Nat}{P:PL}(hP:P.ok M)

include hP in
theorem I3 (o:PO)(w:R)(n7 n9:Bool)(f:Fr)(fr:Nat→Ob)(h3:f 3=.ptr 0 3 0)(h5:f 5=.ptr 0 5 0)(h7:f 7=.bool n7)(h8:f 8=.ptr 0 8 0)(h9:f 9=.bool n9)
  (m3:fr 3=.cells [.list (P.progs.map Qm),.list (P.enums.map QC)]) (m5:fr 5=.cells [.int .i64 w.num,.int .i64 w.wire,.int .u64 (w.bits:Nat),.str w.data]) (m8:fr 8=.cells o.cells) (Q:St→Prop)
  (hQ:∀f,f 5=.ptr 0 5 0→f 7=.bool n7→f 9=.bool n9→f 10=.bool (B6 P o w)→Q ⟨f,[fr],[]⟩):QD Tryz.prog HY ⟨f,[fr],[]⟩ Q:=by
 have e0:P.av=.agg [.list (P.progs.map Qm),.list (P.enums.map QC)]:=rfl;have ha:=IV P hP o.target w.bits;rw[e0]at ha;simp only[PO.cells]at m8;unfold B6 at hQ;cases a1:(o.kind==9)
 ·rw[a1]at hQ;simp only[QmW]at hQ;simp only[HY,a1,h8,m8,eE,seval];exact zh
 cases a2:(o.card != 5)
 ·rw[a1,a2]at hQ;simp only[Qm8,QmW]at hQ;simp only[HY,a1,a2,h8,m8,eE,seval];exact zh
 cases a3:(w.wire==0)
 ·rw[a1,a2,a3]at hQ;simp only[Qm8,QmW]at hQ;simp only[HY,a1,a2,a3,h5,h8,m5,m8,eE,seval];exact zh
 cases a4:decide ((w.bits:Int)≤2147483647)
 ·rw[a1,a2,a3,a4]at hQ;simp only[Qm8,QmW]at hQ;simp only[HY,a1,a2,a3,a4,h5,h8,m5,m8,eE,seval];exact zh
 rw[a1,a2,a3,a4]at hQ;simp only[Qm8]at hQ;simp only[HY,a1,a2,a3,a4,h3,h5,h8,m3,m5,m8,eE,seval];refine aC ha ?_;simp only[Qa,seval];exact zh

include hP in
theorem v93 (g:PG)(hg:g.ok M)(w:R):Qh Tryz.prog 93 [P.av,Qm g,w.av] (.int .i64 (JW P g w)):=by
 have e0:P.av=.agg [.list (P.progs.map Qm),.list (P.enums.map QC)]:=rfl;have co:=AS g hg.len w.num;rw[Yu]at co;simp only[Qm,PG.cells]at co;have nd:(w.data != [])=!(w.data==[]):=rfl;have nb:((w.bits:Int) != 0)=!((w.bits:Int)==0):=rfl;have hgt:decide (w.wire > 2)=!decide (w.wire≤2):=xK;rw[Qb6,I0];unfold Qd2 Qd3 Qd4;rw[hgt];refine k93.fn xA ?_;simp only[r93,LV,LW,LX,o93,e0,Qm,PG.cells,R.av,eE,seval];refine aC co ?_;generalize (Q7 g w.num).getD Uq=q;generalize (Q7 g w.num).isSome=kb;simp only[Qu,PO.cells,splice,Qmy,QlL,Ql0,QmE,Qms,QlD,Qmk,QmB,QmC,AV.leaf,eE,seval];refine I3 hP q w (decide (w.wire≤2)) kb _ _ xx xx xx xx xx xx xx xx _ (fun f h5 h7 h9 h10=>?_);generalize B6 P q w=K at h10 ⊢;simp only[LY,h5,eE,seval];cases r1:decide (w.num<1)
 case true=>simp only[BL,Qnc,Qa,seval]
 cases r2:decide (w.num > 65535)
 case true=>simp only[r2,BL,Qnc,Qnd,h5,eE,seval]
 cases r3:decide (w.wire<0)
 case true=>simp only[r2,r3,BL,Qnc,Qnd,h5,eE,seval]
 cases r4:decide (w.wire > 6)
 case true=>simp only[r2,r3,r4,BL,Qnd,h5,eE,seval]
 simp only[r2,r3,r4,Qnd,QlH,LZ,h5,h7,eE,seval];cases s1:decide (w.wire≤2)
 ·rw[s1]at h7;cases s2:((w.bits:Int)==0)
  ·simp only[s2,nb,BM,Qmx,QmW,Qnd,h5,h7,eE,seval]
  ·cases kb<;>cases K<;>simp only[s2,nb,BM,SO,Qmx,Qm9,QmW,Qna,Qnd,QlH,h5,h7,h9,h10,eE,seval]
   all_goals exact zg
 ·rw[s1]at h7;cases s2:(w.data==[])
  ·simp only[s2,QS,BM,Qmx,Qm9,QmW,Qnc,h5,eE,seval]
  ·cases kb<;>cases K<;>simp only[s2,QS,BM,SO,Qmx,Qm9,QmW,Qna,Qnd,QlH,h5,h7,h9,h10,eE,seval]
   all_goals exact zg

theorem v92 (y:Int×V)(o:PO)(frO:Nat→Ob)(hf:frO 12=.cells o.cells) :
  Qe Tryz.prog 92 [V.sav y,.ptr 2 12 0] [Qb,Qb,frO] fun v m1=>v=.bool (y.1==o.num)∧m1=[Qb,Qb,frO]:=by
 simp only[PO.cells]at hf;rw[ZN];refine wG Tryz.func92 ?_;simp only[eK,Tryz.f92,seval];simp only[hf,eE,seval]

end

def Dk (sl:List (Int×V))(o:PO):Bool:=o.card==1 && !sl.any fun y=>y.1==o.num
theorem RD (g:PG)(sl:List (Int×V)):H9 g sl=g.ops.any (Dk sl):=rfl

theorem Hm {l:List R}{i:Nat}{x:R}(h:l[i]? = some x):(l.map R.av)[i]? = some (.agg [.int .i64 x.num,.int .i64 x.wire,.int .u64 (x.bits:Nat),.str x.data]):=by
 rw[QmN,h,QlO,R.av]
theorem QiJ {l:List PO}{i:Nat}{o:PO}(h:l[i]? = some o):(l.map fun o=>AV.agg o.cells)[i]? = some (.agg [.int .i64 o.num,.str o.name,.str o.alias,.int .i64 o.card,.int .i64 o.key,.int .i64 o.kind,.int .i64 o.target,.int .i64 o.union]):=by
 rw[QmN,h,QlO,PO.cells]

section
variable {M:Nat}{P:PL}(hP:P.ok M){m:PG→V→Int}{lv:Int}(g:PG)(hg:g.ok M)(v:V)(hv:v.ok M)

def MrI (P:PL)(g:PG)(v:V)(k:Nat)(st:St):Prop :=
 ∃f fr i,st=⟨f,[fr],[]⟩∧k=v.raws.length-i∧ZH (W5 P g v.raws) v.raws.length 0=ZH (W5 P g v.raws) (v.raws.length-i) i∧f 4=.ptr 0 4 0∧f 5=.ptr 0 5 0∧f 63=.list (v.raws.map R.av)∧f 64=.int .i64 (v.raws.length:Nat)∧f 65=.int .i64 (i:Nat)∧fr 4=.cells [.list (P.progs.map Qm),.list (P.enums.map QC)]∧fr 5=.cells g.cells∧∀s∈[14],(fr s).isRow=false

include hP hg hv in
theorem Eb {cL:RC}(f:Fr)(fr:Nat→Ob)(h4:f 4=.ptr 0 4 0)(h5:f 5=.ptr 0 5 0)(h63:f 63=.list (v.raws.map R.av))(h64:f 64=.int .i64 (v.raws.length:Nat))(h65:f 65=.int .i64 0)
  (m4:fr 4=.cells [.list (P.progs.map Qm),.list (P.enums.map QC)]) (m5:fr 5=.cells g.cells) (r14:∀s∈[14],(fr s).isRow=false) (Q:Exit→St→Prop)
  (q1:ZH (W5 P g v.raws) v.raws.length 0≠0→∀f fr,f 8=.int .i64 (ZH (W5 P g v.raws) v.raws.length 0)→Q .ret (⟨f,[fr],[]⟩:St))
  (q2:ZH (W5 P g v.raws) v.raws.length 0=0→∀f fr,Q (.exit 5) (⟨f,[fr],[]⟩:St)) (hcL:lp 49 2 Tryz.f49=cL:=by simp only[eL,eK,Tryz.f49,seval]):QU Tryz.prog (.loop cL) ⟨f,[fr],[]⟩ Q:=by
 subst hcL;simp only[eL,eK,Tryz.f49,seval];have e0:P.av=.agg [.list (P.progs.map Qm),.list (P.enums.map QC)]:=rfl;refine Qi (MrI P g v) _ ⟨f,fr,0,rfl,rfl,rfl,h4,h5,h63,h64,h65,m4,m5,r14⟩ ?_;clear h4 h5 h63 h64 h65 m4 m5 r14;rintro _ st ⟨f0,fr0,i,rfl,rfl,hx,h40,h50,h630,h640,h650,m40,m50,r14⟩;refine QL (a:=_) [14] r14 ?_;intro f fr hf hm hn;have h4:f 4=.ptr 0 4 0:=jx
 have h5:f 5=.ptr 0 5 0:=jN
 have h63:f 63=.list (v.raws.map R.av):=by rw[hf,h630]<;>rfl
 have h64:f 64=.int .i64 (v.raws.length:Nat):=by rw[hf,h640]<;>rfl
 have h65:f 65=.int .i64 (i:Nat):=by rw[hf,h650]<;>rfl
 have m4:fr 4=.cells [.list (P.progs.map Qm),.list (P.enums.map QC)]:=xT
 have m5:fr 5=.cells g.cells:=jF
 have n14:=hn 14 xy;clear hf hm hn h40 h50 h630 h640 h650 m40 m50 r14;have m5':=m5;simp only[PG.cells]at m5;simp only[h64,h65,Qa,seval];by_cases hlt:i<v.raws.length
 ·obtain⟨x,hi⟩:∃x,v.raws[i]? = some x:=⟨v.raws[i],Qln hlt⟩;have hgi:=Hm hi;have e1:=Qr i _ hlt (by have:=hv.nr;simp only[maxLen];omega);have c1:=v93 hP g hg x;rw[e0]at c1;simp only[Qm,PG.cells,R.av]at c1;simp only[QB hlt,Qp,QmS,Qf,hgi,n14,h4,h5,h63,h65,m4,m5,eE,seval];refine aC c1 ?_;by_cases hy:JW P g x=0
  ·rw[B1 hlt ((Ga hi).trans hy)]at hx;have d0:((0:Int) != 0)=false:=rfl;simp only[hy,d0,h65,e1,Qa,seval];exact⟨v.raws.length-(i+1),xw,_,_,i+1,rfl,rfl,hx,xR,xN,(by exact h63),(by exact h64),xx,jO,j9,xS⟩
  ·rw[Hx hlt (Ga hi) hy]at hx;have d1:(JW P g x != 0)=true:=kY
   exact yV
 ·rw[DU hlt]at hx;simp only[QI hlt,Qa,seval];exact q2 hx _ _

def MoI (P:PL)(g:PG)(v:V)(k:Nat)(st:St):Prop :=
 ∃f fr i,st=⟨f,[fr],[]⟩∧k=g.ops.length-i∧i≤g.ops.length∧(g.ops.take i).any (Dk v.slots)=false∧f 4=.ptr 0 4 0∧f 5=.ptr 0 5 0∧f 6=.ptr 0 6 0∧f 45=.list (g.ops.map fun o=>.agg o.cells)∧f 46=.int .i64 (g.ops.length:Nat)∧f 47=.int .i64 (i:Nat)∧fr 4=.cells [.list (P.progs.map Qm),.list (P.enums.map QC)]∧fr 5=.cells g.cells∧fr 6=.cells (vc v)∧∀s∈[12],(fr s).isRow=false

include hg hv in
theorem I4 {cL:RC}(f:Fr)(fr:Nat→Ob)(h4:f 4=.ptr 0 4 0)(h5:f 5=.ptr 0 5 0)(h6:f 6=.ptr 0 6 0)(h45:f 45=.list (g.ops.map fun o=>.agg o.cells))(h46:f 46=.int .i64 (g.ops.length:Nat))(h47:f 47=.int .i64 0)
  (m4:fr 4=.cells [.list (P.progs.map Qm),.list (P.enums.map QC)]) (m5:fr 5=.cells g.cells) (m6:fr 6=.cells (vc v)) (r12:∀s∈[12],(fr s).isRow=false) (Q:Exit→St→Prop)
  (q1:H9 g v.slots=true→∀f fr,f 8=.int .i64 14→Q .ret (⟨f,[fr],[]⟩:St))
  (q2:H9 g v.slots=false→∀f fr,f 4=.ptr 0 4 0→f 5=.ptr 0 5 0→f 6=.ptr 0 6 0→fr 4=.cells [.list (P.progs.map Qm),.list (P.enums.map QC)]→fr 5=.cells g.cells→fr 6=.cells (vc v)→fr 14=.none→Q (.exit 3) (⟨f,[fr],[]⟩:St))
  (r14:fr 14=.none) (hcL:lp 49 1 Tryz.f49=cL:=by simp only[eL,eK,Tryz.f49,seval]):QU Tryz.prog (.loop cL) ⟨f,[fr],[]⟩ Q:=by
 subst hcL;simp only[eL,eK,Tryz.f49,seval]
 let I:Nat→St→Prop:=fun k st=>MoI P g v k st∧∀f fr,st=⟨f,[fr],[]⟩→fr 14=.none
 have mk:∀k st,MoI P g v k st→∀f fr,st=⟨f,[fr],[]⟩→fr 14=.none→I k st:=fun k st h f fr e n=>⟨h,fun f' fr' e'=>by
  rw[e]at e'
  injection e' with _ e2 _
  injection e2 with e3 _
  rw[←e3];exact n⟩
 refine Qi I _ (mk _ _ ⟨f,fr,0,rfl,rfl,Qlx _,xA,h4,h5,h6,h45,h46,h47,m4,m5,m6,r12⟩ _ _ rfl r14) ?_;clear h4 h5 h6 h45 h46 h47 m4 m5 m6 r12 r14;rintro _ st ⟨⟨f0,fr0,i,rfl,rfl,hil,hq,h40,h50,h60,h450,h460,h470,m40,m50,m60,r12⟩,r14⟩;have r14:=r14 _ _ rfl;refine QL (a:=_) [12] r12 ?_;intro f fr hf hm hn;have h4:f 4=.ptr 0 4 0:=jx
 have h5:f 5=.ptr 0 5 0:=jN
 have h6:f 6=.ptr 0 6 0:=jV
 have h45:f 45=.list (g.ops.map fun o=>.agg o.cells):=by rw[hf,h450]<;>rfl
 have h46:f 46=.int .i64 (g.ops.length:Nat):=by rw[hf,h460]<;>rfl
 have h47:f 47=.int .i64 (i:Nat):=by rw[hf,h470]<;>rfl
 have m4:fr 4=.cells [.list (P.progs.map Qm),.list (P.enums.map QC)]:=xT
 have m5:fr 5=.cells g.cells:=jF
 have m6:fr 6=.cells (vc v):=jG
 have n14:fr 14=.none:=by rw[hm 14 xy,r14]<;>rfl
 have n12:=hn 12 xy;clear hf hm hn h40 h50 h60 h450 h460 h470 m40 m50 m60 r12 r14;have m6':=m6;simp only[vc]at m6;simp only[h46,h47,Qa,seval];by_cases hlt:i<g.ops.length
 ·obtain⟨o,hi⟩:∃o,g.ops[i]? = some o:=⟨g.ops[i],Qln hlt⟩;have hgi:=QiJ hi;have e1:=Qr i _ hlt hg.len;have ht:(g.ops.take (i+1)).any (Dk v.slots)=Dk v.slots o:=by
   rw[Qng,hi,List.any_append,hq];simp
  have hmi:Dk v.slots o=(o.card==1 && !v.slots.any fun y=>y.1==o.num):=rfl;have fin:∀(f':Fr) (fr':Nat→Ob),Dk v.slots o=false→f' 4=.ptr 0 4 0→f' 5=.ptr 0 5 0→f' 6=.ptr 0 6 0→f' 45=.list (g.ops.map fun o=>.agg o.cells)→f' 46=.int .i64 (g.ops.length:Nat)→f' 47=.int .i64 ((i+1:Nat):Int)→fr' 4=.cells [.list (P.progs.map Qm),.list (P.enums.map QC)]→fr' 5=.cells g.cells→fr' 6=.cells (vc v)→(∀s∈[12],(fr' s).isRow=false)→fr' 14=.none→∃k,k<g.ops.length-i∧I k ⟨f',[fr'],[]⟩:=by
   intro f' fr' hu b4 b5 b6 b45 b46 b47 c4 c5 c6 c12 c14;exact⟨g.ops.length-(i+1),xw,mk _ _ ⟨f',fr',i+1,rfl,rfl,xw,by rw[ht,hu],b4,b5,b6,b45,b46,b47,c4,c5,c6,c12⟩ _ _ rfl c14⟩
  simp only[QB hlt,Qp,QmS,Qf,hgi,n12,h45,h47,eE,seval];cases a1:(o.card==1)
  ·rw[a1,QmW]at hmi;exact zm
  ·rw[a1,Qm8]at hmi;have hcl:=fun(fr:Nat→Ob) (h12:fr 12=.cells o.cells)=>v91 v.slots qf (fun y=>y.1==o.num) 92 (.ptr 0 12 0) [fr] fun y _=>v92 y o fr h12
   simp only[PO.cells]at hcl;simp only[h6,m6,eE,seval];refine Qj (hcl _ xx) xB ?_;cases a2:v.slots.any (fun y=>y.1==o.num)
   ·rw[a2]at hmi;have hany:H9 g v.slots=true:=Qm6.2 ⟨o,QlC hi,by show Dk v.slots o=true;rw[hmi];rfl⟩;simp only[Qa,seval];exact q1 hany _ _ xx
   ·rw[a2]at hmi;exact zm
 ·have hq':H9 g v.slots=false:=by rw[RD,←hq,QlY xw]
  simp only[QI hlt,Qa,seval];exact q2 hq' _ _ xR xN xU jO q9 ko (by exact n14)

def MsI (m:PG→V→Int)(P:PL)(lv:Int)(g:PG)(v:V)(k:Nat)(st:St):Prop :=
 ∃f fr i,st=⟨f,[fr],[]⟩∧k=v.slots.length-i∧ZH (Jv m P g v.slots) v.slots.length 0=ZH (Jv m P g v.slots) (v.slots.length-i) i∧f 3=.int .i64 lv∧f 4=.ptr 0 4 0∧f 5=.ptr 0 5 0∧f 6=.ptr 0 6 0∧f 29=.int .i64 (v.slots.length:Nat)∧f 30=.int .i64 (i:Nat)∧fr 4=.cells [.list (P.progs.map Qm),.list (P.enums.map QC)]∧fr 5=.cells g.cells∧fr 6=.cells (vc v)∧fr 12=.none∧fr 14=.none

include hv in
theorem S9 {cL:RC}(hsl:∀i,i<v.slots.length→Qh Tryz.prog 90 [P.av,Qm g,.list (v.slots.map V.sav),.int .i64 (i:Nat),.int .i64 lv] (.int .i64 (Jv m P g v.slots i)))
  (f:Fr) (fr:Nat→Ob) (h3:f 3=.int .i64 lv) (h4:f 4=.ptr 0 4 0) (h5:f 5=.ptr 0 5 0) (h6:f 6=.ptr 0 6 0) (h29:f 29=.int .i64 (v.slots.length:Nat)) (h30:f 30=.int .i64 0)
  (m4:fr 4=.cells [.list (P.progs.map Qm),.list (P.enums.map QC)]) (m5:fr 5=.cells g.cells) (m6:fr 6=.cells (vc v)) (n12:fr 12=.none) (n14:fr 14=.none) (Q:Exit→St→Prop)
  (q1:ZH (Jv m P g v.slots) v.slots.length 0≠0→∀f fr,f 8=.int .i64 (ZH (Jv m P g v.slots) v.slots.length 0)→Q .ret (⟨f,[fr],[]⟩:St))
  (q2:ZH (Jv m P g v.slots) v.slots.length 0=0→∀f fr,f 4=.ptr 0 4 0→f 5=.ptr 0 5 0→f 6=.ptr 0 6 0→fr 4=.cells [.list (P.progs.map Qm),.list (P.enums.map QC)]→fr 5=.cells g.cells→fr 6=.cells (vc v)→fr 12=.none→fr 14=.none→Q (.exit 1) (⟨f,[fr],[]⟩:St)) (hcL:lp 49 0 Tryz.f49=cL:=by simp only[eL,eK,Tryz.f49,seval]) :
  QU Tryz.prog (.loop cL) ⟨f,[fr],[]⟩ Q:=by
 subst hcL;simp only[eL,eK,Tryz.f49,seval];have e0:P.av=.agg [.list (P.progs.map Qm),.list (P.enums.map QC)]:=rfl;refine Qi (MsI m P lv g v) _ ⟨f,fr,0,rfl,rfl,rfl,h3,h4,h5,h6,h29,h30,m4,m5,m6,n12,n14⟩ ?_;clear h3 h4 h5 h6 h29 h30 m4 m5 m6 n12 n14;rintro _ st ⟨f,fr,i,rfl,rfl,hx,h3,h4,h5,h6,h29,h30,m4,m5,m6,n12,n14⟩;have m5':=m5;have m6':=m6;simp only[PG.cells]at m5;simp only[vc]at m6;simp only[h29,h30,Qa,seval];by_cases hlt:i<v.slots.length
 ·have e1:=Qr i _ hlt qf;have c1:=hsl i hlt;rw[e0]at c1;simp only[Qm,PG.cells]at c1;simp only[QB hlt,h3,h4,h5,h6,h30,m4,m5,m6,eE,seval];refine aC c1 ?_;by_cases hy:Jv m P g v.slots i=0
  ·rw[B1 hlt hy]at hx;have d0:((0:Int) != 0)=false:=rfl;simp only[hy,d0,h30,e1,Qa,seval];exact⟨v.slots.length-(i+1),xw,_,_,i+1,rfl,rfl,hx,xM,xR,xN,xU,(by exact h29),xx,jO,j9,ko,n12,n14⟩
  ·rw[Hx hlt rfl hy]at hx;have d1:(Jv m P g v.slots i != 0)=true:=kY
   exact yV
 ·rw[DU hlt]at hx;simp only[QI hlt,Qa,seval];exact q2 hx _ _ xR xN xU jO j9 ko n12 n14

include hP in
theorem v49 (hU:JX P):∀n:Nat,n≤16→∀g∈P.progs,∀v:V,v.ok M→Qh Tryz.prog 49 [P.av,Qm g,v.av,.int .i64 (17-(n:Int))] (.int .i64 (XF P n g v)):=by
 have e0:P.av=.agg [.list (P.progs.map Qm),.list (P.enums.map QC)]:=rfl;intro n
 induction n with
 |zero=>
  intro _ g _ v hv;have co:=S8 v hv;rw[Qd]at co;rw[Qd];have d0:decide ((17:Int)-((0:Nat):Int) > 16)=true:=rfl;refine wF Tryz.func49 ?_;simp only[eK,Tryz.f49,seval];simp only[e0,Qm,PG.cells,XF,eE,seval];cases a1:(v.kd != 10)
  ·simp only[Qnd,eE,seval];refine aC co ?_;cases v.oth
   ·simp only[QlH,Qa,seval]
   ·simp only[Qa,seval]
  ·exact yP
 |succ n ih=>
  intro hn16 g hgm v hv;have hg:=hP.progs g hgm;have hu:=hU g hgm;have hw:IntKind.i64.wrap (17-((n+1:Nat):Int)+1)=17-(n:Int):=xE
  have hel:=fun(o:PO) (ho:o∈g.ops) (x:V) (hx:x.ok M)=>Qiy hP hw (fun g hg v hv=>ih xw g hg v hv) o (hu o ho) x hx
  have hfi:=fun(o:PO) (ho:o∈g.ops) (x:V) (hx:x.ok M)=>QiH hP o (hu o ho) x hx (hel o ho)
  have hsl:=fun(i:Nat) (hi:i<v.slots.length)=>v90 (P:=P) g hg v.slots qf i hi hv.slots hfi
  have co:=S8 v hv;rw[Qd]at co;rw[Qd];have d0:decide ((17:Int)-((n+1:Nat):Int) > 16)=false:=Qnl xw;refine wF Tryz.func49 ?_;simp only[eK,Tryz.f49,seval];simp only[e0,Qm,PG.cells,XF,eE,seval];cases a1:(v.kd != 10)
  ·simp only[Qnd,eE,seval];refine aC co ?_;cases v.oth
   ·simp only[d0,QlH,Qmj,eE,seval];unfold U3;refine S9 (lv:=17-((n+1:Nat):Int)) g v hv hsl _ _ xx xx xx xx xx xx xx xx xx xx xx _ (fun hx f fr h8=>?_) (fun hx f fr h4 h5 h6 m4 m5 m6 n12 n14=>?_)
    ·rw[Qlu hx];simp only[h8,Qa,seval]
    ·rw[Qlv hx];have m5':=m5;simp only[PG.cells]at m5;simp only[h5,m5,Qmj,eE,seval];refine I4 g hg v hv _ _ xR xN xU xx xx xx jO j9 kT (by simp only[QmM,QnI,or_false,forall_eq,n12]<;>rfl) _ (fun hx f fr h8=>?_) (fun hx f fr h4 h5 h6 m4 m5 m6 n14=>?_) (by exact n14)
     ·rw[hx];simp only[h8,Qa,seval]
     ·rw[hx];have m6':=m6;simp only[vc]at m6;simp only[QlH,h6,m6,Qmj,eE,seval];refine Eb hP g hg v hv _ _ xR xN xx xx xx jO q9 (by simp only[QmM,QnI,or_false,forall_eq,n14]<;>rfl) _ (fun hx f fr h8=>?_) (fun hx f fr=>?_)
      ·simp only[h8,Qa,seval]
      ·simp only[hx,Qa,seval]
   ·simp only[Qa,seval]
  ·exact yP

end
open So

theorem Hy {f:Nat→Int}:∀ {k i:Nat},(∀j,i≤j→j<i+k→f j=0)→ZH f k i=0
 |0,_,_=>rfl
 |k+1,i,h=>by
  rw[ZH,Qlv (h i (Qlk _) xw)];exact Hy fun j h1 h2=>h j xw xw

theorem WJ {α:Type}{l:List α}{p:α→Bool}{i:Nat}(hi:i≤l.length):(l.take i).any p=false↔∀j (h:j<i),p (l[j]' xw)=false:=by
 rw[List.any_eq_false]
 constructor
 ·intro h j hj;have:=h (l[j]' xw) (QlC (i:=j) (by rw[Ql3,Qlv hj,Qln xw]))
  simpa using this
 ·intro h x hx;obtain⟨j,hj⟩:=QlA.1 hx;have hl:=(Qlm.1 hj).1;rw[Qml]at hl;rw[Ql3,Qlv xw]at hj;obtain⟨hj1,rfl⟩:=Qlm.1 hj;have:=h j xw;simp[this]

section
variable {m:PG→V→Int}{P:PL}

def SOK (m:PG→V→Int)(P:PL)(g:PG)(sl:List (Int×V)):Prop :=
 (∀x∈sl,∃o,Q7 g x.1=some o∧Xw m P o x.2=0)∧sl.Pairwise (fun y x=>(y.1==x.1)=false)∧sl.Pairwise (fun y x=>∀o,Q7 g x.1=some o→Yr g o y=false)

theorem Qb7 {g:PG}{sl:List (Int×V)}:ZH (Jv m P g sl) sl.length 0=0↔SOK m P g sl:=by
 have key:∀i (hi:i<sl.length),Jv m P g sl i=0↔∃o,Q7 g sl[i].1=some o∧(sl.take i).any (fun y=>y.1==sl[i].1)=false∧(sl.take i).any (Yr g o)=false∧Xw m P o sl[i].2=0:=by
  intro i hi;unfold Jv;rw[Qln hi];dsimp only;cases Q7 g sl[i].1 with
  |none=>simp
  |some o=>
   simp only[QlP,exists_eq_left'];cases(sl.take i).any (fun y=>y.1==sl[i].1)<;>cases(sl.take i).any (Yr g o)<;>simp only[QlH,Qny,if_true,if_false,Qmf,false_and,iff_false]<;>omega
 constructor
 ·intro h;have hz:∀i (hi:i<sl.length),_:=fun i hi=>(key i hi).1 (KW h i (Qlx _) xw)
  refine⟨fun x hx=>?_,?_,?_⟩
  ·obtain⟨i,hi,rfl⟩:=QnJ hx;obtain⟨o,h1,_,_,h4⟩:=hz i hi;exact⟨o,h1,h4⟩
  ·rw[QnE];intro i j hi hj hij;obtain⟨o,_,h2,_,_⟩:=hz j hj;exact(WJ xw).1 h2 i hij
  ·rw[QnE];intro i j hi hj hij o ho;obtain⟨o',h1,_,h3,_⟩:=hz j hj;rw[h1]at ho;cases ho;exact(WJ xw).1 h3 i hij
 ·rintro⟨h1,h2,h3⟩;refine Hy fun i _ hi=>?_
  rw[QlN]at hi;obtain⟨o,ho,hf⟩:=h1 sl[i] (Qmg hi);rw[QnE]at h2 h3;exact(key i hi).2 ⟨o,ho,(WJ xw).2 fun j hj=>h2 j i xw hi hj,(WJ xw).2 fun j hj=>h3 j i xw hi hj o ho,hf⟩

def EOK (m:PG→V→Int)(P:PL)(o:PO)(ps:List (V×V)):Prop :=
 (∀x∈ps,x.1.one P o.key (-1)=0∧QW m P o x.2=0)∧ps.Pairwise fun q p=>XE q.1 p.1=false

theorem Wa {o:PO}{ps:List (V×V)}:ZH (Hj m P o ps) ps.length 0=0↔EOK m P o ps:=by
 have key:∀i (hi:i<ps.length),Hj m P o ps i=0↔(ps[i].1.one P o.key (-1)=0∧(ps.take i).any (fun q=>XE q.1 ps[i].1)=false∧QW m P o ps[i].2=0):=by
  intro i hi;rw[DW (Qln hi)];by_cases hz:ps[i].1.one P o.key (-1)=0
  ·rw[Qlv hz];cases(ps.take i).any (fun q=>XE q.1 ps[i].1)<;>simp[hz]
  ·rw[Qlu hz];simp[hz]
 constructor
 ·intro h;have hz:∀i (hi:i<ps.length),_:=fun i hi=>(key i hi).1 (KW h i (Qlx _) xw)
  refine⟨fun x hx=>?_,?_⟩
  ·obtain⟨i,hi,rfl⟩:=QnJ hx;exact⟨(hz i hi).1,(hz i hi).2.2⟩
  ·rw[QnE];intro i j hi hj hij;exact(WJ xw).1 (hz j hj).2.1 i hij
 ·rintro⟨h1,h2⟩;refine Hy fun i _ hi=>?_
  rw[QlN]at hi;rw[QnE]at h2;exact(key i hi).2 ⟨(h1 _ (Qmg hi)).1,(WJ xw).2 fun j hj=>h2 j i xw hi hj,(h1 _ (Qmg hi)).2⟩

theorem Kt {o:PO}{l:List V}:ZH (FS m P o l) l.length 0=0↔∀x∈l,QW m P o x=0:=by
 constructor
 ·intro h x hx;obtain⟨i,hi,rfl⟩:=QnJ hx;have:=KW h i (Qlx _) xw
  rwa [DX (Qln hi)]at this
 ·intro h;refine Hy fun i _ hi=>?_
  rw[QlN]at hi;rw[DX (Qln hi)];exact h _ (Qmg hi)
theorem Qb8 {g:PG}{l:List R}:ZH (W5 P g l) l.length 0=0↔∀x∈l,JW P g x=0:=by
 constructor
 ·intro h x hx;obtain⟨i,hi,rfl⟩:=QnJ hx;have:=KW h i (Qlx _) xw
  rwa [Ga (Qln hi)]at this
 ·intro h;refine Hy fun i _ hi=>?_
  rw[QlN]at hi;rw[Ga (Qln hi)];exact h _ (Qmg hi)

theorem Wz {g:PG}{v:V}:U3 m P g v=0↔SOK m P g v.slots∧H9 g v.slots=false∧∀x∈v.raws,JW P g x=0:=by
 unfold U3;rw[←Qb7,←Qb8];split
 ·rename_i h;cases H9 g v.slots<;>simp[h]
 ·rename_i h;simp[h]
end

theorem JY {P:PL}{n:Nat}{g:PG}{v:V}:XF P (n+1) g v=0↔(v.kd=10∧v.oth=false)∧SOK (XF P n) P g v.slots∧H9 g v.slots=false∧∀x∈v.raws,JW P g x=0:=by
 rw[←Wz];unfold XF;by_cases h:v.kd=10
 ·cases ho:v.oth<;>simp[h]
 ·simp[h]

theorem MB {v:V}(h:v.kd≠6):v.nsc=v:=by
 cases v;unfold V.nsc Xx;rw[Qlu fun g=>h g.1];rfl
theorem Qfz {P:PL}{tg:Int}{t:List UInt8}{l p s r:List AV}(b b':Nat):Dh P 6 tg 6 b t l p s r=Dh P 6 tg 6 b' t l p s r:=by
 have k1:(Zp 6||(6:Int)==10||(6:Int)==11||(6:Int)==12)=false:=xy
 have k2:((6:Int)==9)=false:=rfl;have t6:Zp 6=false:=rfl;have f6:∀b,W2 6 b=true:=fun b=>by
  unfold W2;rw[Qlu xy,Qlu xy,Qlu xy,Qlu xy]
 have h1:oth 6 b t l p s r=oth 6 b' t l p s r:=by
  unfold oth;rw[k1,Qna,Qna]
 have h2:X8 6 6 b t l p s r=X8 6 6 b' t l p s r:=by
  unfold X8;rw[f6,f6,Qlu (by rw[t6];exact Bool.false_ne_true),Qlu (by rw[t6];exact Bool.false_ne_true)]
 unfold Dh;rw[h1,h2,k2,QmW,QmW]
theorem RE {P:PL}{k tg:Int}{v:V}(h:v.one P k tg=0):v.nsc.one P k tg=0:=by
 by_cases hk:v.kd=6
 ·have e:=(Ux h).1;rw[←h];unfold V.one;have e1:v.nsc.kd=6:=hk;rw[e1,hk,show k=6 by omega];exact Qfz _ _
 ·rw[MB hk];exact h

theorem XQ {g:PG}(hd:g.ops.Pairwise fun a b=>a.num<b.num){o:PO}(ho:o∈g.ops):Q7 g o.num=some o:=by
 unfold Q7
 revert hd ho
 generalize g.ops=ops;intro hd ho
 induction ops with
 |nil=>cases ho
 |cons x l ih=>
  obtain⟨h1,h2⟩:=Qm0.1 hd;rw[Qnk];rcases QmM.1 ho with rfl|ho
  ·simp
  ·have:=h1 o ho;rw[show(x.num==o.num)=false by simp;omega];exact ih h2 ho

section
variable {m:PG→V→Int}{nm:PG→V→V}{P:PL}

theorem FX (h:∀g∈P.progs,∀v,m g v=0→m g (nm g v)=0){o:PO}(ho:UO P o){v:V}(hv:QW m P o v=0):QW m P o (Zb nm P o v)=0:=by
 unfold QW Zb at *;by_cases hk:o.kind=10
 ·exact zI
 ·rw[Qlu hk]at hv;rw[Qlu hk,Qlu hk];exact RE hv

theorem VL {o:PO}(ho:o.card=5→XT o.key)(h5:o.card=5){ps:List (V×V)}(h:EOK m P o ps):∀p∈ps,p.1.nsc=p.1:=by
 intro p hp;have e:=(Ux (h.1 p hp).1).1;refine MB ?_;have:=ho h5;unfold XT at this;omega

theorem I5 (h:∀g∈P.progs,∀v,m g v=0→m g (nm g v)=0){o:PO}(ho:UO P o){v:V}(hv:Xw m P o v=0):Xw m P o (Zq nm P o v)=0:=by
 unfold Xw Zq at *;by_cases h5:o.card=5
 ·have n4:¬o.card=4:=xw
  rw[Qlv h5]at hv;rw[Qlv h5,Qlu n4,Qlv h5];split at hv
  ·omega
  have hE:=Wa.1 hv;have hk:=VL ho.key h5 hE;rw[Qlu kN];refine Wa.2 ?_;have hp:(Q0 o.key v.pairs).Perm v.pairs:=QX _;have hm:∀p∈Q0 o.key v.pairs,p∈v.pairs:=fun p h=>hp.mem_iff.1 h
  refine⟨fun x hx=>?_,?_⟩
  ·obtain⟨p,hp,rfl⟩:=QmK.1 hx;have h1:=hE.1 p (hm p hp);exact⟨RE h1.1,FX h ho h1.2⟩
  ·show(List.map _ (Q0 o.key v.pairs)).Pairwise _;rw[List.pairwise_map];have h2:(Q0 o.key v.pairs).Pairwise fun q p=>XE q.1 p.1=false:=(hp.pairwise_iff fun {a b} h=>qe).2 hE.2
   refine h2.imp_of_mem fun {a b} ha hb h=>?_
   dsimp only;rw[hk a (hm a ha),hk b (hm b hb)];exact h
 ·rw[Qlu h5]at hv;rw[Qlu h5];by_cases h4:o.card=4
  ·rw[Qlv h4]at hv;rw[Qlv h4,Qlv h4];split at hv
   ·omega
   have hL:=Kt.1 hv;rw[Qlu kN];refine Kt.2 fun x hx=>?_
   obtain⟨y,hy,rfl⟩:=QmK.1 hx;exact FX h ho (hL y hy)
  ·rw[Qlu h4]at hv;rw[Qlu h4,Qlu h4,Qlu h5];exact FX h ho hv

theorem XX {sl:List (Int×V)}{o:PO}{x:Int×V}(h:x∈Xb nm P sl o):x.1=o.num∧∃s∈sl,s.1=o.num∧x.2=Zq nm P o s.2:=by
 unfold Xb at h;cases hf:sl.find? (fun s=>s.1==o.num)with
 |none=>rw[hf]at h;cases h
 |some s=>
  rw[hf]at h;dsimp only at h;have h1:s.1=o.num:=ww
  split at h
  ·simp only[QmM,QnI,or_false]at h;subst h;exact⟨rfl,s,Qnp hf,h1,rfl⟩
  ·cases h

theorem Gg {sl:List (Int×V)}{o:PO}{p:Int×V→Int×V→Prop}:(Xb nm P sl o).Pairwise p:=by
 unfold Xb;split
 ·exact .nil
 ·split
  ·exact QnD _ _
  ·exact .nil

theorem Ec (h:∀g∈P.progs,∀v,m g v=0→m g (nm g v)=0){g:PG}(hd:g.ops.Pairwise fun a b=>a.num<b.num)(hu:∀o∈g.ops,UO P o){v:V}(hv:U3 m P g v=0):U3 m P g (YW nm P g v)=0:=by
 obtain⟨⟨s1,s2,s3⟩,hmis,hraw⟩:=Wz.1 hv;have uniq:∀ {a b:Int×V},a∈v.slots→b∈v.slots→a.1=b.1→a=b:=by
  intro a b ha hb e;obtain⟨i,hi,rfl⟩:=QnJ ha;obtain⟨j,hj,rfl⟩:=QnJ hb;rw[QnE]at s2;rcases Nat.lt_trichotomy i j with c|c|c
  ·have:=s2 i j hi hj c;rw[e]at this;simp at this
  ·subst c;rfl
  ·have:=s2 j i hj hi c;rw[e]at this;simp at this
 refine Wz.2 ⟨⟨fun x hx=>?_,?_,?_⟩,?_,fun x hx=>?_⟩
 ·obtain⟨o,ho,hx⟩:=Qma.1 hx;obtain⟨e,s,hs,e1,e2⟩:=XX hx;obtain⟨o',h1,h2⟩:=s1 s hs;rw[e1,XQ hd ho]at h1;cases h1;exact⟨o,by rw[e];exact XQ hd ho,by rw[e2];exact I5 h (hu o ho) h2⟩
 ·show(g.ops.flatMap (Xb nm P v.slots)).Pairwise _;rw[QnL];refine⟨fun _ _=>Gg,hd.imp fun {a b} hab x hx y hy=>?_⟩;have e1:=(XX hx).1;have e2:=(XX hy).1;simp;omega
 ·show(g.ops.flatMap (Xb nm P v.slots)).Pairwise _;rw[QnL];refine⟨fun _ _=>Gg,(hd.imp_of_mem fun {a b} ha hb hab x hx y hy o ho=>?_)⟩;obtain⟨e1,s,hs,es,_⟩:=XX hx;obtain⟨e2,t,ht,et,_⟩:=XX hy;rw[e2,XQ hd hb]at ho;cases ho;have hst:s≠t:=fun e=>by rw[e,et]at es;omega
  obtain⟨i,hi,rfl⟩:=QnJ hs;obtain⟨j,hj,rfl⟩:=QnJ ht;rw[QnE]at s3;have hx1:Q7 g x.1=some a:=by rw[e1];exact XQ hd ha
  unfold Yr;rw[hx1];rcases Nat.lt_trichotomy i j with c|c|c
  ·have:=s3 i j hi hj c b (by rw[et];exact XQ hd hb);unfold Yr at this;rw[es,XQ hd ha]at this;exact this
  ·subst c;exact absurd rfl hst
  ·have:=s3 j i hj hi c a (by rw[es];exact XQ hd ha);unfold Yr at this;rw[et,XQ hd hb]at this;simp only[QmA,Qnv,bne_eq_false_iff_eq,Qne]at this ⊢;rcases this with e|e
   ·by_cases c:b.union = -1
    ·exact .inl c
    ·exact .inr fun g=>c xw
   ·exact .inr fun g=>e g.symm
 ·have hm:=hmis;rw[RD,List.any_eq_false]at hm ⊢;intro o ho;have:=hm o ho;unfold Dk at this ⊢;by_cases hc:o.card=1
  ·have hb:(o.card==1)=true:=v6
   rw[hb,Qm8,Qnx,Bool.not_eq_false']at this;rw[hb,Qm8,Qnx,Bool.not_eq_false'];obtain⟨s,hs,e⟩:=Qm6.1 this;obtain⟨t,ht⟩:∃t,v.slots.find? (fun s=>s.1==o.num)=some t:=by
    cases hf:v.slots.find? (fun s=>s.1==o.num)with
    |none=>exact absurd e (by simpa using Qno.1 hf s hs)
    |some t=>exact⟨t,rfl⟩
   refine Qm6.2 ⟨(o.num,Zq nm P o t.2),Qma.2 ⟨o,ho,?_⟩,xA⟩;unfold Xb;rw[ht];dsimp only;rw[Qlv v6];simp
  ·have hb:(o.card==1)=false:=v6
   rw[hb,QmW];simp
 ·exact hraw x ((QX v.raws).mem_iff.1 hx)

end

theorem KZ {P:PL}(hU:JX P)(hr:Zo P):∀(n:Nat) (g:PG),g∈P.progs→∀v:V,XF P n g v=0→XF P n g (Q5 P n g v)=0
 |0,_,_,v,h=>by
  unfold XF at h;split at h<;>omega
 |n+1,g,hg,v,h=>by
  have hb:=Wz.2 (JY.1 h).2;refine JY.2 ⟨⟨rfl,?_⟩,Wz.1 (Ec (fun g hg v h=>KZ hU hr n g hg v h) (hr g hg) (hU g hg) hb)⟩;simp[V.oth,oth,Q5,YW,V.kd,V.bits,V.text,V.list,V.pairs,V.slots,V.raws,Zp]

theorem PV (k:Int)(b:Nat):Xx k (Xx k b)=Xx k b:=by
 unfold Xx;by_cases h:k=6∧YY b=0
 ·rw[Qlv h,Qlv ⟨h.1,xy⟩]
 ·rw[Qlu h,Qlu h]

theorem Qb9:∀v:V,v.nsc.nsc=v.nsc
 |.mk k b t l p s r=>by
  show V.mk k (Xx k (Xx k b)) t l p s r=V.mk k (Xx k b) t l p s r;rw[PV]

theorem B7 {nm:PG→V→V}{P:PL}{sl:List (Int×V)}:∀ {ops:List PO},(ops.Pairwise fun a b=>a.num<b.num)→∀o∈ops,(ops.flatMap (Xb nm P sl)).find? (fun s=>s.1==o.num)=(Xb nm P sl o).head?
 | [],_,_,h=>by cases h
 |x :: ops,hd,o,ho=>by
  obtain⟨h1,h2⟩:=Qm0.1 hd;have hn:∀o':PO,o'.num≠o.num→(Xb nm P sl o').find? (fun s=>s.1==o.num)=none:=fun o' e=>by
   rw[Qno];intro s hs;rw[(XX hs).1]
   simpa using e
  have hs:∀o':PO,o'.num=o.num→∀l:List (Int×V),(∀s∈l,s.1=o'.num)→l.find? (fun s=>s.1==o.num)=l.head?:=fun o' e l hl=>by
   cases l with
   |nil=>rfl
   |cons s l=>
    rw[Qnk,hl s xA,e];simp
  rw[QmU,List.find?_append];rcases QmM.1 ho with rfl|ho
  ·rw[hs o rfl _ fun s h=>(XX h).1];cases hh:(Xb nm P sl o).head? with
   |some s=>rfl
   |none=>
    rw[Option.none_or,Qno];intro s hs;obtain⟨o',ho',hs⟩:=Qma.1 hs;have:=h1 o' ho';rw[(XX hs).1];simp;omega
  ·have:=h1 o ho;rw[hn x xw,Option.none_or];exact B7 h2 o ho

section
variable {m:PG→V→Int}{nm:PG→V→V}{P:PL}

theorem FY (h:∀g∈P.progs,∀v,m g v=0→nm g (nm g v)=nm g v){o:PO}(ho:UO P o){v:V}(hv:QW m P o v=0):Zb nm P o (Zb nm P o v)=Zb nm P o v:=by
 unfold QW Zb at *;by_cases hk:o.kind=10
 ·exact zI
 ·rw[Qlu hk,Qlu hk];exact Qb9 v

theorem MD (h:∀g∈P.progs,∀v,m g v=0→nm g (nm g v)=nm g v){o:PO}(ho:UO P o){v:V}(hv:Xw m P o v=0):Zq nm P o (Zq nm P o v)=Zq nm P o v:=by
 unfold Xw Zq at *;by_cases h5:o.card=5
 ·have n4:¬o.card=4:=xw
  rw[Qlv h5]at hv;rw[Qlu n4,Qlv h5,Qlu n4,Qlv h5];split at hv
  ·omega
  have hE:=Wa.1 hv;have hk:=VL ho.key h5 hE;have hp:(Q0 o.key v.pairs).Perm v.pairs:=QX _;have hm:∀p∈Q0 o.key v.pairs,p∈v.pairs:=fun p h=>hp.mem_iff.1 h
  have hF:(Q0 o.key v.pairs).map (fun p=>(p.1.nsc,Zb nm P o p.2))=(Q0 o.key v.pairs).map fun p=>(p.1,Zb nm P o p.2) :=
   Qni fun p h=>by rw[hk p (hm p h)]
  have hs:ZC (fun x y:V×V=>kl o.key x.1 y.1) (Q0 o.key v.pairs):=Zh (KE o.key) _;have hS:Q0 o.key ((Q0 o.key v.pairs).map fun p=>(p.1,Zb nm P o p.2))=(Q0 o.key v.pairs).map fun p=>(p.1,Zb nm P o p.2):=by
   refine FU ?_;unfold ZC at hs ⊢;rw[List.pairwise_map];exact hs
  rw[hF];show V.mk 12 0 [] [] ((Q0 o.key ((Q0 o.key v.pairs).map fun p=>(p.1,Zb nm P o p.2))).map fun p=>(p.1.nsc,Zb nm P o p.2)) [] []=_;rw[hS,Qnj];congr 1
  refine Qni fun p h'=>?_
  simp only[Function.comp];rw[hk p (hm p h'),FY h ho (hE.1 p (hm p h')).2]
 ·rw[Qlu h5]at hv;by_cases h4:o.card=4
  ·rw[Qlv h4]at hv;rw[Qlv h4,Qlv h4];split at hv
   ·omega
   have hL:=Kt.1 hv;show V.mk 11 0 [] ((v.list.map (Zb nm P o)).map (Zb nm P o)) [] [] []=_;rw[Qnj];congr 1
   exact Qni fun x hx=>FY h ho (hL x hx)
  ·rw[Qlu h4]at hv;rw[Qlu h4,Qlu h5,Qlu h4,Qlu h5];exact FY h ho hv

theorem Ed (h:∀g∈P.progs,∀v,m g v=0→nm g (nm g v)=nm g v){g:PG}(hd:g.ops.Pairwise fun a b=>a.num<b.num)(hu:∀o∈g.ops,UO P o){v:V}(hv:U3 m P g v=0):YW nm P g (YW nm P g v)=YW nm P g v:=by
 obtain⟨⟨s1,_,_⟩,_,_⟩:=Wz.1 hv;have hraw:ZA (ZA v.raws)=ZA v.raws:=FU (Zh N9 _);have hsl:∀o∈g.ops,Xb nm P (g.ops.flatMap (Xb nm P v.slots)) o=Xb nm P v.slots o:=by
  intro o ho;rw[show Xb nm P (g.ops.flatMap (Xb nm P v.slots)) o=(match (g.ops.flatMap (Xb nm P v.slots)).find? (fun s=>s.1==o.num)with
   |none=>[]
   |some s=>if (decide (o.card<3) || !(Zq nm P o s.2).emp)=true then [(o.num,Zq nm P o s.2)]else [])from rfl,B7 hd o ho]
  unfold Xb;cases hf:v.slots.find? (fun s=>s.1==o.num)with
  |none=>rfl
  |some s=>
   have hs1:s.1=o.num:=ww
   obtain⟨o',e1,e2⟩:=s1 s (Qnp hf);rw[hs1,XQ hd ho]at e1;cases e1;have hi:=MD h (hu o ho) e2;dsimp only;by_cases hc:(decide (o.card<3) || !(Zq nm P o s.2).emp)=true
   ·rw[Qlv hc];show(if (decide (o.card<3) || !(Zq nm P o (Zq nm P o s.2)).emp)=true then [(o.num,Zq nm P o (Zq nm P o s.2))]else [])=_;rw[hi,Qlv hc]
   ·rw[Qlu hc];rfl
 have hall:∀ {l:List PO} {a b:PO→List (Int×V)},(∀o∈l,a o=b o)→l.flatMap a=l.flatMap b:=by
  intro l a b
  induction l with
  |nil=>intro _;rfl
  |cons x l ih=>
   intro h;rw[QmU,QmU,h x xA,ih fun o ho=>h o (by simp[ho])]
 show V.mk 10 0 [] [] [] (g.ops.flatMap (Xb nm P (g.ops.flatMap (Xb nm P v.slots)))) (ZA (ZA v.raws))=_;rw[hraw,hall hsl];rfl

end

theorem UC {P:PL}(hU:JX P)(hr:Zo P):∀(n:Nat) (g:PG),g∈P.progs→∀v:V,XF P n g v=0→Q5 P n g (Q5 P n g v)=Q5 P n g v
 |0,_,_,_,_=>rfl
 |n+1,g,hg,_,h=>Ed (fun g hg v h=>UC hU hr n g hg v h) (hr g hg) (hU g hg) (Wz.2 (JY.1 h).2)

def WA (l:List (Int×V)):List (Int×V):=QG (fun x y=>decide (x.1<y.1)) l
theorem QiK:SW fun x y:Int×V=>decide (x.1<y.1) where
 irr x:=xA
 tr x y z h k:=wA
 nt x y z h k:=wB

theorem Ee:∀ {a b:List (Int×V)},(a.Pairwise fun x y=>x.1<y.1)→(b.Pairwise fun x y=>x.1<y.1)→(∀x,x∈a↔x∈b)→a=b
 | [],[],_,_,_=>rfl
 | [],y :: b,_,_,h=>by have:=(h y).2 xA;cases this
 |x :: a,[],_,_,h=>by have:=(h x).1 xA;cases this
 |x :: a,y :: b,ha,hb,h=>by
  obtain⟨a1,a2⟩:=Qm0.1 ha;obtain⟨b1,b2⟩:=Qm0.1 hb;have e:x=y:=by
   rcases QmM.1 ((h x).1 xA)with e|e
   ·exact e
   ·rcases QmM.1 ((h y).2 xA)with e'|e'
    ·exact e'.symm
    ·have:=b1 x e;have:=a1 y e';omega
  subst e;congr 1
  refine Ee a2 b2 fun z=>?_
  have hz:=h z;simp only[QmM]at hz
  constructor
  ·intro hm;rcases hz.1 (.inr hm)with e|e
   ·subst e;have:=a1 z hm;omega
   ·exact e
  ·intro hm;rcases hz.2 (.inr hm)with e|e
   ·subst e;have:=b1 z hm;omega
   ·exact e

section
variable {m:PG→V→Int}(nm:PG→V→V)(P:PL)

def JM (o:PO)(s:Int×V):List (Int×V):=if (decide (o.card<3) || !(Zq nm P o s.2).emp)=true then [(o.num,Zq nm P o s.2)]else []
def KG (g:PG)(s:Int×V):List (Int×V):=match Q7 g s.1 with
 |none=>[]
 |some o=>JM nm P o s

theorem Ef {o:PO}{s x:Int×V}:x∈JM nm P o s↔(decide (o.card<3) || !(Zq nm P o s.2).emp)=true∧x=(o.num,Zq nm P o s.2):=by
 unfold JM;split
 ·rename_i h;simp[h]
 ·rename_i h;simp[h]

theorem Eg {sl:List (Int×V)}(hu:sl.Pairwise fun y x=>(y.1==x.1)=false){s:Int×V}(hs:s∈sl):sl.find? (fun t=>t.1==s.1)=some s:=by
 induction sl with
 |nil=>cases hs
 |cons x l ih=>
  obtain⟨h1,h2⟩:=Qm0.1 hu;rw[Qnk];rcases QmM.1 hs with rfl|hs
  ·simp
  ·rw[h1 s hs];exact ih h2 hs

theorem Y9 {sl:List (Int×V)}{o:PO}:Xb nm P sl o=match sl.find? (fun s=>s.1==o.num)with
  |none=>[]
  |some s=>JM nm P o s:=rfl

theorem I6 {g:PG}(hd:g.ops.Pairwise fun a b=>a.num<b.num){sl:List (Int×V)}(hu:sl.Pairwise fun y x=>(y.1==x.1)=false):(WA sl).flatMap (KG nm P g)=g.ops.flatMap (Xb nm P sl):=by
 have hp:(WA sl).Perm sl:=QX _;have hsu:(WA sl).Pairwise fun y x=>(y.1==x.1)=false:=(hp.pairwise_iff fun {a b} h=>by rw[QnK];exact h).2 hu
 have hss:ZC (fun x y:Int×V=>decide (x.1<y.1)) (WA sl):=Zh QiK _;have hst:(WA sl).Pairwise fun x y=>x.1<y.1:=by
  unfold ZC at hss;rw[QnE]at *;intro i j hi hj hij;have h1:=hss i j hi hj hij;have h2:=hsu i j hi hj hij;simp only[Qns,Qne]at h1 h2;omega
 have kpw:∀s,(KG nm P g s).Pairwise fun x y:Int×V=>x.1<y.1:=fun s=>by
  unfold KG;split
  ·exact .nil
  ·unfold JM;split
   ·exact QnD _ _
   ·exact .nil
 have knum:∀ {s x:Int×V},x∈KG nm P g s→x.1=s.1:=fun {s x} h=>by
  unfold KG at h;cases ho:Q7 g s.1 with
  |none=>rw[ho]at h;cases h
  |some o=>
   rw[ho]at h;rw[((Ef nm P).1 h).2];exact(Jb ho).2
 refine Ee ?_ ?_ fun x=>?_
 ·rw[QnL];refine⟨fun s _=>kpw s,hst.imp fun {a b} hab x hx y hy=>?_⟩;rw[knum hx,knum hy];exact hab
 ·rw[QnL];refine⟨fun _ _=>Gg,hd.imp fun {a b} hab x hx y hy=>?_⟩;rw[(XX hx).1,(XX hy).1];exact hab
 ·rw[Qma,Qma]
  constructor
  ·rintro⟨s,hs,h⟩;unfold KG at h;cases ho:Q7 g s.1 with
   |none=>rw[ho]at h;cases h
   |some o=>
    rw[ho]at h;obtain⟨hom,hon⟩:=Jb ho;refine⟨o,hom,?_⟩;rw[Y9,hon,Eg hu (hp.mem_iff.1 hs)];exact h
  ·rintro⟨o,ho,h⟩;rw[Y9]at h;cases hf:sl.find? (fun s=>s.1==o.num)with
   |none=>rw[hf]at h;cases h
   |some s=>
    rw[hf]at h;have hs:s.1=o.num:=ww
    refine⟨s,hp.mem_iff.2 (Qnp hf),?_⟩;unfold KG;rw[hs,XQ hd ho];exact h

def Qad (o:PO)(sl:List (Int×V)):List (Int×V):=sl.flatMap fun s=>if (s.1==o.num)=true then JM nm P o s else []
theorem ME {o:PO}{sl:List (Int×V)}(hu:sl.Pairwise fun y x=>(y.1==x.1)=false):Qad nm P o sl=Xb nm P sl o:=by
 rw[Y9];unfold Qad
 induction sl with
 |nil=>rfl
 |cons x l ih=>
  obtain⟨h1,h2⟩:=Qm0.1 hu;rw[QmU,Qnk];cases hx:(x.1==o.num)
  ·rw[Qlu xA,QlL];exact ih h2
  ·rw[Qlv rfl];have e:x.1=o.num:=by simpa using hx
   have:l.flatMap (fun s=>if (s.1==o.num)=true then JM nm P o s else [])=[]:=by
    rw[List.flatMap_eq_nil_iff];intro s hs;have:=h1 s hs;rw[e]at this;rw[Qlu (by rw[QnK];simp[this])]
   rw[this,Qms]

end
end Go.Proofs.YtmlohboeoeoamaaGreatDoor.Va

namespace Go.Proofs.YtmlohboeoeoamaaGreatDoor.Va
open Go Am Rc Bt Br Up

theorem QK {P:Program}{K:St→Prop}{its:List Am.Item}{f:Fr}{m:Qk}{ds:List DF}{d sz len:Nat}{z y l:List AV}{ps:List (Nat×Nat×RA)}(hy:fill f ps (X5 z sz len)=some y)(h1:AV.rfL y=true)(h2:y.all AV.leaf=true)(hc:Zz sz len (y.map nn0)=l)(h:QD P its ⟨QJ f d (.list l),m,ds⟩ K) :
  QD P (⟨some d,.bsl sz len z ps,none⟩ :: its) ⟨f,m,ds⟩ K:=by
 subst hc;exact⟨y,hy,h1,h2,h⟩

def YZ (v:V)(i:Nat):List V:=v.list++(v.pairs.take i).flatMap fun p=>[p.1,p.2]
def UD (v:V)(i:Nat):List V:=YZ v v.pairs.length++(v.slots.take i).map (·.2)

theorem D1 (v:V)(i:Nat)(h:i≤v.pairs.length):(YZ v i).length=v.list.length+2*i:=by
 have:∀l:List (V×V),(l.flatMap fun p=>[p.1,p.2]).length=2*l.length:=by
  intro l
  induction l with
  |nil=>rfl
  |cons x l ih=>simp only[QmU,Ql2,QlD,Qmk,ih];omega
 rw[YZ,Ql2,this,Qml];omega
theorem Vc (v:V)(i:Nat)(h:i≤v.slots.length):(UD v i).length=v.list.length+2*v.pairs.length+i:=by
 rw[UD,Ql2,D1 v _ (Qlk _),Qmj,Qml];omega
theorem I7 {v:V}{i:Nat}{x:V×V}(h:v.pairs[i]? = some x):(YZ v (i+1)).map V.av=(YZ v i).map V.av++[x.1.av,x.2.av]:=by
 unfold YZ;rw[Qng,h];simp
theorem I8 {v:V}{i:Nat}{x:Int×V}(h:v.slots[i]? = some x):(UD v (i+1)).map V.av=(UD v i).map V.av++[x.2.av]:=by
 unfold UD;rw[Qng,h];simp
theorem RF (v:V):UD v v.slots.length=Wc v:=by
 unfold UD YZ Wc;rw[Qm5,Qm5]
theorem Dl (l:List V):(l.map V.av).all (fun e=>e.cells.length==7)=true:=by
 rw[List.all_map,QlB];intro x _;simp[Qd,AV.cells]

def I1 (v:V)(k:Nat)(st:St):Prop :=
 ∃f fr i g,st=⟨f,[fr],[]⟩∧k=v.pairs.length-i∧i≤v.pairs.length∧f 1=.ptr 0 1 0∧f 3=.vec 0 1000 g 0 (YZ v i).length false∧f 12=.list (v.pairs.map V.pav)∧f 13=.int .i64 (v.pairs.length:Nat)∧f 14=.int .i64 (i:Nat)∧fr 1=.cells (vc v)∧fr 1000=.vec g 7 ((YZ v i).map V.av)∧fr 7=.none∧∀s∈[5],(fr s).isRow=false
def I2 (v:V)(k:Nat)(st:St):Prop :=
 ∃f fr i g,st=⟨f,[fr],[]⟩∧k=v.slots.length-i∧i≤v.slots.length∧f 3=.vec 0 1000 g 0 (UD v i).length false∧f 27=.list (v.slots.map V.sav)∧f 28=.int .i64 (v.slots.length:Nat)∧f 29=.int .i64 (i:Nat)∧fr 1000=.vec g 7 ((UD v i).map V.av)∧∀s∈[7],(fr s).isRow=false

theorem v94 (v:V)(h:v.list.length+2*v.pairs.length+v.slots.length≤1099511627776):Qh Tryz.prog 94 [v.av] (.list ((Wc v).map V.av)):=by
 have cl:=fun fr hr=>QiC (v.list.map V.av) fr [] (Dl _) kz hr
 rw[Qd];refine wF Tryz.func94 ?_;simp only[eK,Tryz.f94,seval];simp only[eE,seval];refine Qj (cl _ rfl) xF ?_;simp only[Qmj,eE,seval];have e0:(YZ v 0).map V.av=v.list.map V.av:=by unfold YZ;simp
 have l0:=D1 v 0 (Qlx _);refine Qi (I1 v) _ ⟨_,_,0,_,rfl,rfl,Qlx _,xx,(by rw[l0];exact xx),xx,xx,xx,xx,(by rw[e0];exact xx),rfl,xS⟩ ?_;rintro _ st ⟨f0,fr0,i,g,rfl,rfl,hil,h10,h30,h120,h130,h140,m10,mR0,n70,r5⟩;refine QL (a:=_) [5] r5 ?_;intro f fr hf hm hn;have h1:f 1=.ptr 0 1 0:=kj
 have h3:f 3=.vec 0 1000 g 0 (YZ v i).length false:=xW
 have h12:f 12=.list (v.pairs.map V.pav):=ku
 have h13:f 13=.int .i64 (v.pairs.length:Nat):=kG
 have h14:f 14=.int .i64 (i:Nat):=wI
 have m1:fr 1=.cells (vc v):=qG
 have mR:fr 1000=.vec g 7 ((YZ v i).map V.av):=jW
 have n7:fr 7=.none:=by rw[hm 7 xy,n70]<;>rfl
 have n5:=hn 5 xy;clear hf hm hn h10 h30 h120 h130 h140 m10 mR0 n70 r5 e0 l0;have m1':=m1;simp only[vc]at m1;simp only[h13,h14,Qa,seval];by_cases hlt:i<v.pairs.length
 ·obtain⟨x,hi⟩:∃x,v.pairs[i]? = some x:=⟨v.pairs[i],Qln hlt⟩;have hg:=Ky hi;have e1:=Qr i _ hlt xC;have le:=D1 v i hil;have ln:=D1 v (i+1) hlt;simp only[QB hlt,Qp,QmS,Qf,hg,n5,h3,h12,h14,eE,seval];refine QK (l:=[x.1.av,x.2.av]) rfl rfl rfl (by rw[Qd,Qd];rfl) ?_;refine QF (site:=1000) (g:=g) (n:=(YZ v i).length) (xs:=(YZ v i).map V.av) (ys:=[x.1.av,x.2.av]) xx j8 rfl kO rfl (Dl [x.1,x.2]) xG xI ?_;simp only[h14,e1,Qa,seval];exact⟨v.pairs.length-(i+1),xw,_,_,i+1,g+1,rfl,rfl,xw,xL,(by rw[ln];simp only[le,Qa,seval];rfl),jP,kS,xx,kB,(by rw[I7 hi];exact xx),(by exact n7),xS⟩
 have e:i=v.pairs.length:=xw
 subst e;simp only[QI hlt,h1,m1,Qmj,eE,seval];have e0:UD v 0=YZ v v.pairs.length:=by unfold UD;simp
 refine Qi (I2 v) _ ⟨_,_,0,g,rfl,rfl,Qlx _,(by rw[e0];exact xM),xx,xx,xx,(by rw[e0];exact j8),by simp only[QmM,QnI,or_false,forall_eq,n7]<;>rfl⟩ ?_;clear h1 h3 h12 h13 h14 m1 m1' mR n5 n7 hil hlt e0 g;rintro _ st ⟨f0,fr0,i,g,rfl,rfl,hil,h30,h270,h280,h290,mR0,r7⟩;refine QL (a:=_) [7] r7 ?_;intro f fr hf hm hn;have h3:f 3=.vec 0 1000 g 0 (UD v i).length false:=xW
 have h27:f 27=.list (v.slots.map V.sav):=by rw[hf,h270]<;>rfl
 have h28:f 28=.int .i64 (v.slots.length:Nat):=by rw[hf,h280]<;>rfl
 have h29:f 29=.int .i64 (i:Nat):=by rw[hf,h290]<;>rfl
 have mR:fr 1000=.vec g 7 ((UD v i).map V.av):=jW
 have n7:=hn 7 xy;clear hf hm hn h30 h270 h280 h290 mR0 r7;simp only[h28,h29,Qa,seval];by_cases hlt:i<v.slots.length
 ·obtain⟨x,hi⟩:∃x,v.slots[i]? = some x:=⟨v.slots[i],Qln hlt⟩;have hg:=Wy hi;have e1:=Qr i _ hlt xC;have le:=Vc v i hil;have ln:=Vc v (i+1) hlt;simp only[QB hlt,Qp,QmS,Qf,hg,n7,h3,h27,h29,eE,seval];refine QK (l:=[x.2.av]) rfl rfl rfl wm ?_;refine QF (site:=1000) (g:=g) (n:=(UD v i).length) (xs:=(UD v i).map V.av) (ys:=[x.2.av]) xx j8 rfl kO rfl (Dl [x.2]) xG xI ?_;simp only[h29,e1,Qa,seval];exact⟨v.slots.length-(i+1),xw,_,_,i+1,g+1,rfl,rfl,xw,(by rw[ln];simp only[le,Qa,seval];rfl),(by exact h27),(by exact h28),xx,(by rw[I8 hi];exact xx),xS⟩
 have e:i=v.slots.length:=xw
 subst e;rw[RF]at h3 mR;simp only[QI hlt,h3,eE,seval];simp[AV.un,Zw,XC,mR];rw[QlY vd]

def VcI (v:V)(k:Nat)(st:St):Prop :=
 ∃f fr i,st=⟨f,[fr],[]⟩∧k=(Wc v).length-i∧i≤(Wc v).length∧f 3=.int .i64 (IntKind.i64.wrap ((1+v.raws.length+Q9 ((Wc v).take i):Nat):Int))∧f 11=.list ((Wc v).map V.av)∧f 12=.int .i64 ((Wc v).length:Nat)∧f 13=.int .i64 (i:Nat)∧∀s∈[5],(fr s).isRow=false

theorem Qca {v x:V}(h:x∈Wc v):x∈v.list∨(∃p∈v.pairs,x=p.1∨x=p.2)∨∃s∈v.slots,x=s.2:=by
 unfold Wc at h;simp only[QmJ,Qma,QmM,QnI,or_false,QmK]at h;rcases h with(h|⟨p,hp,h⟩)|⟨s,hs,rfl⟩
 ·exact .inl h
 ·exact .inr (.inl ⟨p,hp,h⟩)
 ·exact .inr (.inr ⟨s,hs,rfl⟩)

theorem v50 (v:V)(hv:Thin v):Qh Tryz.prog 50 [v.av] (.int .i64 (IntKind.i64.wrap (v.cnt:Int))):=by
 revert hv
 refine V.ind (P:=fun v=>Thin v→Qh Tryz.prog 50 [v.av] (.int .i64 (IntKind.i64.wrap (v.cnt:Int)))) ?_ v;clear v;intro v hl hp hs hv;obtain⟨n,t1,t2,t3,t4⟩:=hv;have hall:∀x∈Wc v,Qh Tryz.prog 50 [x.av] (.int .i64 (IntKind.i64.wrap (x.cnt:Int))):=by
  intro x hx;rcases Qca hx with h|⟨p,h,rfl|rfl⟩|⟨s,h,rfl⟩
  ·exact hl x h (t1 x h)
  ·exact(hp p h).1 (t2 p h)
  ·exact(hp p h).2 (t3 p h)
  ·exact hs s h (t4 s h)
 have hin:(Wc v).length≤maxLen:=by
  rw[←RF,Vc v _ (Qlk _)];simp only[maxLen];omega
 have c0:=v94 v n;rw[Qd]at c0;rw[Qd];refine wF Tryz.func50 ?_;simp only[eK,Tryz.f50,seval];simp only[Qmj,eE,seval];refine aC c0 ?_;simp only[Qmj,Qa,seval];refine Qi (VcI v) _ ⟨_,_,0,rfl,rfl,Qlx _,qs,xx,xx,xx,xS⟩ ?_;rintro _ st ⟨f0,fr0,i,rfl,rfl,hil,h30,h110,h120,h130,r5⟩;refine QL (a:=_) [5] r5 ?_;intro f fr hf hm hn;have h3:f 3=.int .i64 (IntKind.i64.wrap ((1+v.raws.length+Q9 ((Wc v).take i):Nat):Int)):=xW
 have h11:f 11=.list ((Wc v).map V.av):=kH
 have h12:f 12=.int .i64 ((Wc v).length:Nat):=ku
 have h13:f 13=.int .i64 (i:Nat):=kG
 have n5:=hn 5 xy;clear hf hm hn h30 h110 h120 h130 r5;simp only[h12,h13,Qa,seval];by_cases hlt:i<(Wc v).length
 ·obtain⟨x,hi⟩:∃x,(Wc v)[i]? = some x:=⟨(Wc v)[i],Qln hlt⟩;have hg:=Hk hi;have e1:=Qr i _ hlt hin;have c1:=hall x (QlC hi);rw[Qd]at c1;simp only[QB hlt,Qp,QmS,Qf,hg,n5,h3,h11,h13,eE,seval];refine aC c1 ?_;simp only[h13,e1,Uy,Qa,seval];exact⟨(Wc v).length-(i+1),xw,_,_,i+1,rfl,rfl,xw,qV,jY,jP,xx,xS⟩
 have e:i=(Wc v).length:=xw
 subst e;rw[Qm5,←Qb3]at h3;exact xe

end Go.Proofs.YtmlohboeoeoamaaGreatDoor.Va

set_option linter.unusedVariables false
namespace Go.Proofs.YtmlohboeoeoamaaGreatDoor.Tg
open Go Am
abbrev ja (a b:Nat):Am.Item:=⟨some a,.val (.mov (.t b)),none⟩
abbrev jb (z:Nat)(a b c:Nat):Am.Item:=⟨some a,.val (.iaddr z none (.t b) (.t c)),none⟩
abbrev jc (a b c:Nat):Am.Item:=⟨some a,.val (.bin .num .add (.t b) (.t c)),none⟩
abbrev jd (z:Nat)(a b:Nat):Am.Item:=⟨some a,.val (.loadr (some z) (.t b)),none⟩
abbrev je (a b c:Nat):Am.Item:=⟨some a,.val (.bin .num .sub (.t b) (.t c)),none⟩
abbrev jf (a b c:Nat):Am.Item:=⟨some a,.val (.bin .num .lss (.t b) (.t c)),none⟩
abbrev jg (a b c:Nat):Am.Item:=⟨some a,.val (.mov (.t b)),some (c,true)⟩
abbrev jh (a b:Nat)(c:Int):Am.Item:=⟨some a,.val (.bin .num .add (.t b) (.c (.int .i64 c))),none⟩
abbrev ji (z:Nat)(a b:Nat):Am.Item:=⟨none,.store z (.t a) (.t b),none⟩
abbrev jj (a b:Nat)(c:Int):Am.Item:=⟨some a,.val (.bin .num .sub (.t b) (.c (.int .i64 c))),none⟩
abbrev jk (a:Nat)(b:Int):Am.Item:=⟨some a,.val (.mov (.c (.int .i64 b))),none⟩
abbrev jQ (g:List Am.Item)(c:RC):RC:=.seq (.reg g) c
abbrev jX (a b:Nat):RC:=.cond (.t a) .skip (.exit b)

def Qae (z sr ro sm is st:Nat):List Am.Item:=[
  jk 10 0]
def Qaf (z sr ro sm is st:Nat):List Am.Item:=[
  ja 11 10,
  ja 12 3,
  jf 13 11 12]
def Qag (z sr ro sm is st:Nat):List Am.Item:=[
  ja 16 0,
  ja 17 1,
  ja 18 10,
  jc 19 17 18,
  ja 20 0,
  ja 21 2,
  ja 22 10,
  jc 23 21 22,
  ja 24 0,
  ja 25 2,
  ja 26 10,
  jc 27 25 26,
  jb z 28 24 27,
  jd z 29 28,
  ja 30 0,
  ja 31 1,
  ja 32 10,
  jc 33 31 32,
  jb z 34 30 33,
  jd z 35 34,
  jb z 36 16 19,
  ji z 36 29,
  jb z 37 20 23,
  ji z 37 35]
def Qah (z sr ro sm is st:Nat):List Am.Item:=[
  ja 14 10,
  jh 15 14 1,
  ja 10 15]
def Qai (z sr ro sm is st:Nat):RC:=.seq (.seq (.reg (Qaf z sr ro sm is st)) (jX 13 0)) (.seq (.block 1 (.draw (Qag z sr ro sm is st))) (.reg (Qah z sr ro sm is st)))
def rsr (z sr ro sm is st:Nat):RC:=.seq (.reg (Qae z sr ro sm is st)) (.block 0 (.loop (Qai z sr ro sm is st)))
def osr:List RR:=[]

def Qaj (z sr ro sm is st:Nat):List Am.Item:=[
  ja 12 2,
  ja 13 1,
  je 14 12 13,
  ja 10 14]
def Qak (z sr ro sm is st:Nat):List Am.Item:=[
  ja 15 3,
  ja 16 2,
  je 17 15 16,
  ja 11 17]
def Qal (z sr ro sm is st:Nat):List Am.Item:=[
  ja 18 10,
  ja 19 11,
  ⟨(some 20),.val (.bin .num .neq (.t 18) (.t 19)),none⟩]
def Qam (z sr ro sm is st:Nat):List Am.Item:=[
  ja 21 10,
  ja 22 11,
  ⟨(some 23),.val (.bin .num .gtr (.t 21) (.t 22)),none⟩]
def Qan (z sr ro sm is st:Nat):List Am.Item:=[
  ja 24 0,
  ja 25 2,
  ja 26 10,
  je 27 25 26,
  ja 28 2,
  ja 29 11,
  ja 30 4,
  ⟨(some 31),.callF (.f sr) [(.t 24),(.t 27),(.t 28),(.t 29),(.t 30)],none⟩]
def Qao (z sr ro sm is st:Nat):List Am.Item:=[
  ja 32 10,
  ja 33 11,
  je 34 32 33,
  ja 10 34]
def Qap (z sr ro sm is st:Nat):List Am.Item:=[
  ja 35 0,
  ja 36 2,
  ja 37 10,
  je 38 36 37,
  ja 39 2,
  ja 40 11,
  jc 41 39 40,
  ja 42 10,
  je 43 41 42,
  ja 44 10,
  ja 45 4,
  ⟨(some 46),.callF (.f sr) [(.t 35),(.t 38),(.t 43),(.t 44),(.t 45)],none⟩]
def Qaq (z sr ro sm is st:Nat):List Am.Item:=[
  ja 47 11,
  ja 48 10,
  je 49 47 48,
  ja 11 49]
def Qar (z sr ro sm is st:Nat):RC:=.seq (.seq (.reg (Qal z sr ro sm is st)) (jX 20 0)) (.block 1 (.seq (.reg (Qam z sr ro sm is st)) (.cond (.t 23) (.seq (.reg (Qan z sr ro sm is st)) (.reg (Qao z sr ro sm is st))) (.seq (.reg (Qap z sr ro sm is st)) (.reg (Qaq z sr ro sm is st))))))
def Qas (z sr ro sm is st:Nat):List Am.Item:=[
  ja 50 0,
  ja 51 2,
  ja 52 10,
  je 53 51 52,
  ja 54 2,
  ja 55 10,
  ja 56 4,
  ⟨(some 57),.callF (.f sr) [(.t 50),(.t 53),(.t 54),(.t 55),(.t 56)],none⟩]
def rro (z sr ro sm is st:Nat):RC:=.seq (.reg (Qaj z sr ro sm is st)) (.seq (.reg (Qak z sr ro sm is st)) (.seq (.block 0 (.loop (Qar z sr ro sm is st))) (.reg (Qas z sr ro sm is st))))
def oro:List RR:=[]

def Ce (z sr ro sm is st:Nat):List Am.Item:=[
  ja 25 2,
  ja 26 1,
  je 27 25 26,
  ⟨(some 28),.val (.bin .num .eql (.t 27) (.c (.int .i64 1))),none⟩]
def Ta (z sr ro sm is st:Nat):List Am.Item:=[
  ja 29 2,
  ja 10 29]
def Tb (z sr ro sm is st:Nat):List Am.Item:=[
  ja 30 3,
  ja 11 30]
def Qat (z sr ro sm is st:Nat):List Am.Item:=[
  ja 31 10,
  ja 32 11,
  jf 33 31 32]
def Qau (z sr ro sm is st:Nat):List Am.Item:=[
  ja 34 10,
  ja 35 11,
  jc 36 34 35,
  ⟨(some 37),.val (.cvi .u64 (.t 36)),none⟩,
  ⟨(some 38),.val (.bin .num .shr (.t 37) (.c (.int .u64 1))),none⟩,
  ⟨(some 39),.val (.cvi .i64 (.t 38)),none⟩,
  ja 12 39]
def Qav (z sr ro sm is st:Nat):List Am.Item:=[
  ja 40 4,
  ja 41 0,
  ja 42 12,
  jb z 43 41 42,
  jd z 44 43,
  ja 45 0,
  ja 46 1,
  jb z 47 45 46,
  jd z 48 47,
  ⟨(some 49),.call (.t 40) [(.t 44),(.t 48)],none⟩,
  ⟨(some 50),.val (.bin .num .lss (.t 49) (.c (.int .i64 0))),none⟩]
def Qaw (z sr ro sm is st:Nat):List Am.Item:=[
  ja 51 12,
  jh 52 51 1,
  ja 10 52]
def Qax (z sr ro sm is st:Nat):List Am.Item:=[
  ja 53 12,
  ja 11 53]
def Qay (z sr ro sm is st:Nat):RC:=.seq (.seq (.reg (Qat z sr ro sm is st)) (jX 33 0)) (.block 1 (.seq (.reg (Qau z sr ro sm is st)) (.seq (.draw (Qav z sr ro sm is st)) (.cond (.t 50) (.reg (Qaw z sr ro sm is st)) (.reg (Qax z sr ro sm is st))))))
def Tc (z sr ro sm is st:Nat):List Am.Item:=[
  ja 54 1,
  ja 13 54]
def Qaz (z sr ro sm is st:Nat):List Am.Item:=[
  ja 55 13,
  ja 56 10,
  jj 57 56 1,
  jf 58 55 57]
def Eh (z sr ro sm is st:Nat):List Am.Item:=[
  ja 61 0,
  ja 62 13,
  ja 63 0,
  ja 64 13,
  jh 65 64 1,
  ja 66 0,
  ja 67 13,
  jh 68 67 1,
  jb z 69 66 68,
  jd z 70 69,
  ja 71 0,
  ja 72 13,
  jb z 73 71 72,
  jd z 74 73,
  jb z 75 61 62,
  ji z 75 70,
  jb z 76 63 65,
  ji z 76 74]
def Ei (z sr ro sm is st:Nat):List Am.Item:=[
  ja 59 13,
  jh 60 59 1,
  ja 13 60]
def QaA (z sr ro sm is st:Nat):RC:=.seq (.seq (.reg (Qaz z sr ro sm is st)) (jX 58 2)) (.seq (.block 3 (.draw (Eh z sr ro sm is st))) (.reg (Ei z sr ro sm is st)))
def B8 (z sr ro sm is st:Nat):List Am.Item:=[
  ja 77 3,
  ja 78 2,
  je 79 77 78,
  ⟨(some 80),.val (.bin .num .eql (.t 79) (.c (.int .i64 1))),none⟩]
def MF (z sr ro sm is st:Nat):List Am.Item:=[
  ja 81 1,
  ja 14 81]
def MG (z sr ro sm is st:Nat):List Am.Item:=[
  ja 82 2,
  ja 15 82]
def MH (z sr ro sm is st:Nat):List Am.Item:=[
  ja 83 14,
  ja 84 15,
  jf 85 83 84]
def MI (z sr ro sm is st:Nat):List Am.Item:=[
  ja 86 14,
  ja 87 15,
  jc 88 86 87,
  ⟨(some 89),.val (.cvi .u64 (.t 88)),none⟩,
  ⟨(some 90),.val (.bin .num .shr (.t 89) (.c (.int .u64 1))),none⟩,
  ⟨(some 91),.val (.cvi .i64 (.t 90)),none⟩,
  ja 16 91]
def MJ (z sr ro sm is st:Nat):List Am.Item:=[
  ja 92 4,
  ja 93 0,
  ja 94 2,
  jb z 95 93 94,
  jd z 96 95,
  ja 97 0,
  ja 98 16,
  jb z 99 97 98,
  jd z 100 99,
  ⟨(some 101),.call (.t 92) [(.t 96),(.t 100)],none⟩,
  ⟨(some 102),.val (.bin .num .lss (.t 101) (.c (.int .i64 0))),none⟩,
  ⟨(some 103),.val (.un .not (.t 102)),none⟩]
def ML (z sr ro sm is st:Nat):List Am.Item:=[
  ja 104 16,
  jh 105 104 1,
  ja 14 105]
def MM (z sr ro sm is st:Nat):List Am.Item:=[
  ja 106 16,
  ja 15 106]
def Td (z sr ro sm is st:Nat):RC:=.seq (.seq (.reg (MH z sr ro sm is st)) (jX 85 4)) (.block 5 (.seq (.reg (MI z sr ro sm is st)) (.seq (.draw (MJ z sr ro sm is st)) (.cond (.t 103) (.reg (ML z sr ro sm is st)) (.reg (MM z sr ro sm is st))))))
def MN (z sr ro sm is st:Nat):List Am.Item:=[
  ja 107 2,
  ja 17 107]
def MO (z sr ro sm is st:Nat):List Am.Item:=[
  ja 108 17,
  ja 109 14,
  ⟨(some 110),.val (.bin .num .gtr (.t 108) (.t 109)),none⟩]
def MP (z sr ro sm is st:Nat):List Am.Item:=[
  ja 113 0,
  ja 114 17,
  ja 115 0,
  ja 116 17,
  jj 117 116 1,
  ja 118 0,
  ja 119 17,
  jj 120 119 1,
  jb z 121 118 120,
  jd z 122 121,
  ja 123 0,
  ja 124 17,
  jb z 125 123 124,
  jd z 126 125,
  jb z 127 113 114,
  ji z 127 122,
  jb z 128 115 117,
  ji z 128 126]
def MQ (z sr ro sm is st:Nat):List Am.Item:=[
  ja 111 17,
  jj 112 111 1,
  ja 17 112]
def Te (z sr ro sm is st:Nat):RC:=.seq (.seq (.reg (MO z sr ro sm is st)) (jX 110 6)) (.seq (.block 7 (.draw (MP z sr ro sm is st))) (.reg (MQ z sr ro sm is st)))
def B9 (z sr ro sm is st:Nat):List Am.Item:=[
  ja 129 1,
  ja 130 3,
  jc 131 129 130,
  ⟨(some 132),.val (.cvi .u64 (.t 131)),none⟩,
  ⟨(some 133),.val (.bin .num .shr (.t 132) (.c (.int .u64 1))),none⟩,
  ⟨(some 134),.val (.cvi .i64 (.t 133)),none⟩,
  ja 18 134]
def Na (z sr ro sm is st:Nat):List Am.Item:=[
  ja 135 18,
  ja 136 2,
  jc 137 135 136,
  ja 19 137]
def Nb (z sr ro sm is st:Nat):List Am.Item:=[
  jk 20 0,
  jk 21 0]
def Nc (z sr ro sm is st:Nat):List Am.Item:=[
  ja 138 2,
  ja 139 18,
  ⟨(some 140),.val (.bin .num .gtr (.t 138) (.t 139)),none⟩]
def Nd (z sr ro sm is st:Nat):List Am.Item:=[
  ja 141 19,
  ja 142 3,
  je 143 141 142,
  ja 20 143]
def Nf (z sr ro sm is st:Nat):List Am.Item:=[
  ja 144 18,
  ja 21 144]
def Ng (z sr ro sm is st:Nat):List Am.Item:=[
  ja 145 1,
  ja 20 145]
def Nh (z sr ro sm is st:Nat):List Am.Item:=[
  ja 146 2,
  ja 21 146]
def Ni (z sr ro sm is st:Nat):List Am.Item:=[
  ja 147 19,
  jj 148 147 1,
  ja 22 148]
def Nj (z sr ro sm is st:Nat):List Am.Item:=[
  ja 149 20,
  ja 150 21,
  jf 151 149 150]
def Nk (z sr ro sm is st:Nat):List Am.Item:=[
  ja 152 20,
  ja 153 21,
  jc 154 152 153,
  ⟨(some 155),.val (.cvi .u64 (.t 154)),none⟩,
  ⟨(some 156),.val (.bin .num .shr (.t 155) (.c (.int .u64 1))),none⟩,
  ⟨(some 157),.val (.cvi .i64 (.t 156)),none⟩,
  ja 23 157]
def Nl (z sr ro sm is st:Nat):List Am.Item:=[
  ja 158 4,
  ja 159 0,
  ja 160 22,
  ja 161 23,
  je 162 160 161,
  jb z 163 159 162,
  jd z 164 163,
  ja 165 0,
  ja 166 23,
  jb z 167 165 166,
  jd z 168 167,
  ⟨(some 169),.call (.t 158) [(.t 164),(.t 168)],none⟩,
  ⟨(some 170),.val (.bin .num .lss (.t 169) (.c (.int .i64 0))),none⟩,
  ⟨(some 171),.val (.un .not (.t 170)),none⟩]
def Nm (z sr ro sm is st:Nat):List Am.Item:=[
  ja 172 23,
  jh 173 172 1,
  ja 20 173]
def Nn (z sr ro sm is st:Nat):List Am.Item:=[
  ja 174 23,
  ja 21 174]
def No (z sr ro sm is st:Nat):RC:=.seq (.seq (.reg (Nj z sr ro sm is st)) (jX 151 8)) (.block 9 (.seq (.reg (Nk z sr ro sm is st)) (.seq (.draw (Nl z sr ro sm is st)) (.cond (.t 171) (.reg (Nm z sr ro sm is st)) (.reg (Nn z sr ro sm is st))))))
def Hz (z sr ro sm is st:Nat):List Am.Item:=[
  ja 175 19,
  ja 176 20,
  je 177 175 176,
  ja 24 177]
def HA (z sr ro sm is st:Nat):List Am.Item:=[
  ja 178 20,
  ja 179 2,
  jf 180 178 179,
  ja 181 180,
  jg 182 2 181,
  jg 183 24 181,
  ⟨(some 184),.val (.bin .num .lss (.t 182) (.t 183)),(some (181,true))⟩,
  ⟨(some 185),.val (.pick (.t 181) (.t 184) (.c (.bool false))),none⟩]
def HB (z sr ro sm is st:Nat):List Am.Item:=[
  ja 186 0,
  ja 187 20,
  ja 188 2,
  ja 189 24,
  ja 190 4,
  ⟨(some 191),.callF (.f ro) [(.t 186),(.t 187),(.t 188),(.t 189),(.t 190)],none⟩]
def UE (z sr ro sm is st:Nat):List Am.Item:=[
  ja 192 1,
  ja 193 20,
  jf 194 192 193,
  ja 195 194,
  jg 196 20 195,
  jg 197 18 195,
  ⟨(some 198),.val (.bin .num .lss (.t 196) (.t 197)),(some (195,true))⟩,
  ⟨(some 199),.val (.pick (.t 195) (.t 198) (.c (.bool false))),none⟩]
def UF (z sr ro sm is st:Nat):List Am.Item:=[
  ja 200 0,
  ja 201 1,
  ja 202 20,
  ja 203 18,
  ja 204 4,
  ⟨(some 205),.callF (.f sm) [(.t 200),(.t 201),(.t 202),(.t 203),(.t 204)],none⟩]
def W6 (z sr ro sm is st:Nat):List Am.Item:=[
  ja 206 18,
  ja 207 24,
  jf 208 206 207,
  ja 209 208,
  jg 210 24 209,
  jg 211 3 209,
  ⟨(some 212),.val (.bin .num .lss (.t 210) (.t 211)),(some (209,true))⟩,
  ⟨(some 213),.val (.pick (.t 209) (.t 212) (.c (.bool false))),none⟩]
def W7 (z sr ro sm is st:Nat):List Am.Item:=[
  ja 214 0,
  ja 215 18,
  ja 216 24,
  ja 217 3,
  ja 218 4,
  ⟨(some 219),.callF (.f sm) [(.t 214),(.t 215),(.t 216),(.t 217),(.t 218)],none⟩]
def rsm (z sr ro sm is st:Nat):RC:=.seq (.seq (.reg (Ce z sr ro sm is st)) (.cond (.t 28) (.seq (.reg (Ta z sr ro sm is st)) (.seq (.reg (Tb z sr ro sm is st)) (.seq (.block 0 (.loop (Qay z sr ro sm is st))) (.seq (.seq (.reg (Tc z sr ro sm is st)) (.block 2 (.loop (QaA z sr ro sm is st)))) (.ret))))) (.skip))) (.seq (.seq (.reg (B8 z sr ro sm is st)) (.cond (.t 80) (.seq (.reg (MF z sr ro sm is st)) (.seq (.reg (MG z sr ro sm is st)) (.seq (.block 4 (.loop (Td z sr ro sm is st))) (.seq (.seq (.reg (MN z sr ro sm is st)) (.block 6 (.loop (Te z sr ro sm is st)))) (.ret))))) (.skip))) (.seq (.reg (B9 z sr ro sm is st)) (.seq (.reg (Na z sr ro sm is st)) (.seq (.reg (Nb z sr ro sm is st)) (.seq (.seq (.reg (Nc z sr ro sm is st)) (.cond (.t 140) (.seq (.reg (Nd z sr ro sm is st)) (.reg (Nf z sr ro sm is st))) (.seq (.reg (Ng z sr ro sm is st)) (.reg (Nh z sr ro sm is st))))) (.seq (.reg (Ni z sr ro sm is st)) (.seq (.block 8 (.loop (No z sr ro sm is st))) (.seq (.reg (Hz z sr ro sm is st)) (.seq (.seq (.reg (HA z sr ro sm is st)) (.cond (.t 185) (.reg (HB z sr ro sm is st)) (.skip))) (.seq (.seq (.reg (UE z sr ro sm is st)) (.cond (.t 199) (.reg (UF z sr ro sm is st)) (.skip))) (.seq (.reg (W6 z sr ro sm is st)) (.cond (.t 213) (.reg (W7 z sr ro sm is st)) (.skip)))))))))))))
def Np:List RR:=[]

def QaC (z sr ro sm is st:Nat):List Am.Item:=[
  ja 10 1,
  jh 11 10 1,
  ja 8 11]
def QaD (z sr ro sm is st:Nat):List Am.Item:=[
  ja 12 8,
  ja 13 2,
  jf 14 12 13]
def QaE (z sr ro sm is st:Nat):List Am.Item:=[
  ja 17 8,
  ja 9 17]
def QaF (z sr ro sm is st:Nat):List Am.Item:=[
  ja 18 9,
  ja 19 1,
  ⟨(some 20),.val (.bin .num .gtr (.t 18) (.t 19)),none⟩,
  ja 21 20,
  jg 22 3 21,
  jg 23 0 21,
  jg 24 9 21,
  ⟨(some 25),.val (.iaddr z none (.t 23) (.t 24)),(some (21,true))⟩,
  ⟨(some 26),.val (.loadr (some z) (.t 25)),(some (21,true))⟩,
  jg 27 0 21,
  jg 28 9 21,
  ⟨(some 29),.val (.bin .num .sub (.t 28) (.c (.int .i64 1))),(some (21,true))⟩,
  ⟨(some 30),.val (.iaddr z none (.t 27) (.t 29)),(some (21,true))⟩,
  ⟨(some 31),.val (.loadr (some z) (.t 30)),(some (21,true))⟩,
  ⟨(some 32),.call (.t 22) [(.t 26),(.t 31)],(some (21,true))⟩,
  ⟨(some 33),.val (.bin .num .lss (.t 32) (.c (.int .i64 0))),(some (21,true))⟩,
  ⟨(some 34),.val (.pick (.t 21) (.t 33) (.c (.bool false))),none⟩]
def QaG (z sr ro sm is st:Nat):List Am.Item:=[
  ja 37 0,
  ja 38 9,
  ja 39 0,
  ja 40 9,
  jj 41 40 1,
  ja 42 0,
  ja 43 9,
  jj 44 43 1,
  jb z 45 42 44,
  jd z 46 45,
  ja 47 0,
  ja 48 9,
  jb z 49 47 48,
  jd z 50 49,
  jb z 51 37 38,
  ji z 51 46,
  jb z 52 39 41,
  ji z 52 50]
def QaH (z sr ro sm is st:Nat):List Am.Item:=[
  ja 35 9,
  jj 36 35 1,
  ja 9 36]
def QaI (z sr ro sm is st:Nat):RC:=.seq (.seq (.draw (QaF z sr ro sm is st)) (jX 34 2)) (.seq (.block 3 (.draw (QaG z sr ro sm is st))) (.reg (QaH z sr ro sm is st)))
def QaJ (z sr ro sm is st:Nat):List Am.Item:=[
  ja 15 8,
  jh 16 15 1,
  ja 8 16]
def QaK (z sr ro sm is st:Nat):RC:=.seq (.seq (.reg (QaD z sr ro sm is st)) (jX 14 0)) (.seq (.block 1 (.seq (.reg (QaE z sr ro sm is st)) (.block 2 (.loop (QaI z sr ro sm is st))))) (.reg (QaJ z sr ro sm is st)))
def ris (z sr ro sm is st:Nat):RC:=.seq (.reg (QaC z sr ro sm is st)) (.block 0 (.loop (QaK z sr ro sm is st)))
def ois:List RR:=[]

def QaL (z sr ro sm is st:Nat):List Am.Item:=[
  jk 6 20]
def QaM (z sr ro sm is st:Nat):List Am.Item:=[
  ja 10 6,
  jk 7 0,
  ja 8 10]
def QaN (z sr ro sm is st:Nat):List Am.Item:=[
  ja 11 8,
  ja 12 1,
  ⟨(some 13),.val (.bin .num .leq (.t 11) (.t 12)),none⟩]
def QaO (z sr ro sm is st:Nat):List Am.Item:=[
  ja 14 0,
  ja 15 7,
  ja 16 8,
  ja 17 2,
  ⟨(some 18),.callF (.f is) [(.t 14),(.t 15),(.t 16),(.t 17)],none⟩]
def QaP (z sr ro sm is st:Nat):List Am.Item:=[
  ja 19 8,
  ja 7 19]
def QaQ (z sr ro sm is st:Nat):List Am.Item:=[
  ja 20 8,
  ja 21 6,
  jc 22 20 21,
  ja 8 22]
def QaR (z sr ro sm is st:Nat):RC:=.seq (.seq (.reg (QaN z sr ro sm is st)) (jX 13 0)) (.block 1 (.seq (.reg (QaO z sr ro sm is st)) (.seq (.reg (QaP z sr ro sm is st)) (.reg (QaQ z sr ro sm is st)))))
def QaS (z sr ro sm is st:Nat):List Am.Item:=[
  ja 23 0,
  ja 24 7,
  ja 25 1,
  ja 26 2,
  ⟨(some 27),.callF (.f is) [(.t 23),(.t 24),(.t 25),(.t 26)],none⟩]
def QaT (z sr ro sm is st:Nat):List Am.Item:=[
  ja 28 6,
  ja 29 1,
  jf 30 28 29]
def QaU (z sr ro sm is st:Nat):List Am.Item:=[
  ja 31 6,
  ⟨(some 32),.val (.bin .num .mul (.c (.int .i64 2)) (.t 31)),none⟩,
  jk 7 0,
  ja 8 32]
def QaV (z sr ro sm is st:Nat):List Am.Item:=[
  ja 33 8,
  ja 34 1,
  ⟨(some 35),.val (.bin .num .leq (.t 33) (.t 34)),none⟩]
def Ej (z sr ro sm is st:Nat):List Am.Item:=[
  ja 36 0,
  ja 37 7,
  ja 38 7,
  ja 39 6,
  jc 40 38 39,
  ja 41 8,
  ja 42 2,
  ⟨(some 43),.callF (.f sm) [(.t 36),(.t 37),(.t 40),(.t 41),(.t 42)],none⟩]
def Ek (z sr ro sm is st:Nat):List Am.Item:=[
  ja 44 8,
  ja 7 44]
def Em (z sr ro sm is st:Nat):List Am.Item:=[
  ja 45 8,
  ja 46 6,
  ⟨(some 47),.val (.bin .num .mul (.c (.int .i64 2)) (.t 46)),none⟩,
  jc 48 45 47,
  ja 8 48]
def QaW (z sr ro sm is st:Nat):RC:=.seq (.seq (.reg (QaV z sr ro sm is st)) (jX 35 4)) (.block 5 (.seq (.reg (Ej z sr ro sm is st)) (.seq (.reg (Ek z sr ro sm is st)) (.reg (Em z sr ro sm is st)))))
def Eo (z sr ro sm is st:Nat):List Am.Item:=[
  ja 49 7,
  ja 50 6,
  jc 51 49 50,
  ja 9 51]
def Ep (z sr ro sm is st:Nat):List Am.Item:=[
  ja 52 9,
  ja 53 1,
  jf 54 52 53]
def Er (z sr ro sm is st:Nat):List Am.Item:=[
  ja 55 0,
  ja 56 7,
  ja 57 9,
  ja 58 1,
  ja 59 2,
  ⟨(some 60),.callF (.f sm) [(.t 55),(.t 56),(.t 57),(.t 58),(.t 59)],none⟩]
def MS (z sr ro sm is st:Nat):List Am.Item:=[
  ja 61 6,
  ⟨(some 62),.val (.bin .num .mul (.t 61) (.c (.int .i64 2))),none⟩,
  ja 6 62]
def QaX (z sr ro sm is st:Nat):RC:=.seq (.seq (.reg (QaT z sr ro sm is st)) (jX 30 2)) (.block 3 (.seq (.reg (QaU z sr ro sm is st)) (.seq (.block 4 (.loop (QaW z sr ro sm is st))) (.seq (.seq (.reg (Eo z sr ro sm is st)) (.seq (.reg (Ep z sr ro sm is st)) (.cond (.t 54) (.reg (Er z sr ro sm is st)) (.skip)))) (.reg (MS z sr ro sm is st))))))
def rst (z sr ro sm is st:Nat):RC:=.seq (.reg (QaL z sr ro sm is st)) (.seq (.reg (QaM z sr ro sm is st)) (.seq (.block 0 (.loop (QaR z sr ro sm is st))) (.seq (.reg (QaS z sr ro sm is st)) (.block 2 (.loop (QaX z sr ro sm is st))))))
def ost:List RR:=[]

def QaY (z sr ro sm is st:Nat):List Am.Item:=[
  ja 4 0,
  ja 5 0,
  ⟨(some 6),.val (.len 1 (.t 5)),none⟩,
  ja 7 1,
  ⟨(some 8),.callF (.f st) [(.t 4),(.t 6),(.t 7)],none⟩]
def rss (z sr ro sm is st:Nat):RC:=.reg (QaY z sr ro sm is st)
def oss:List RR:=[]

structure Cs (P:Program)(z sr ro sm is st ss:Nat):Prop where
 csr:CK P sr 38 (rsr z sr ro sm is st) osr
 cro:CK P ro 58 (rro z sr ro sm is st) oro
 csm:CK P sm 220 (rsm z sr ro sm is st) Np
 cis:CK P is 53 (ris z sr ro sm is st) ois
 cst:CK P st 63 (rst z sr ro sm is st) ost
 css:CK P ss 9 (rss z sr ro sm is st) oss

end Go.Proofs.YtmlohboeoeoamaaGreatDoor.Tg

namespace Go.Proofs.YtmlohboeoeoamaaGreatDoor.Am
open Go Bt

def Ez (E:AV→Prop)(sz:Nat)(x:AV):Prop:=E x∧∃l,x=.agg l∧l.length=sz∧AV.rfL l=true∧l.all AV.leaf=true∧∀m,AV.stillL false m l=some l

variable {E:AV→Prop}

theorem Ez.part {sz:Nat}{x:AV}(h:Ez E sz x):Am.part x.cells 0 (some sz)=some x:=by
 obtain⟨_,l,rfl,rfl,_,_,_⟩:=h;simp[Am.part,AV.cells]
theorem Ez.len {sz:Nat}{x:AV}(h:Ez E sz x):x.cells.length=sz:=by
 obtain⟨_,l,rfl,rfl,_,_,_⟩:=h;rfl
theorem Ez.leaf {sz:Nat}{x:AV}(h:Ez E sz x):x.cells.all AV.leaf=true:=by
 obtain⟨_,l,rfl,_,_,h,_⟩:=h;exact h
theorem Ez.rf {sz:Nat}{x:AV}(h:Ez E sz x):x.rf=true:=by
 obtain⟨_,l,rfl,_,h,_,_⟩:=h;exact h

theorem Ez.still {sz:Nat}{x:AV}(h:Ez E sz x)(m:Qk):x.still false m=some x:=by
 obtain⟨_,l,rfl,_,_,_,h⟩:=h;simp only[AV.still,h m,QlO]
theorem U7 {sz:Nat}{x y:AV}(h:Ez E sz x)(k:Ez E sz y)(m:Qk):AV.stillL false m [x,y]=some [x,y]:=by
 simp only[AV.stillL,h.still,k.still]
theorem YK {sz:Nat}{x y:AV}(h:Ez E sz x)(k:Ez E sz y):AV.rfL [x,y]=true:=by
 simp only[AV.rfL,h.rf,k.rf,Bool.and_self]

theorem Ua {P:Program}{f:Fr}{m:Qk}{ds:List DF}{its:List Item}{d:Nat}{K:St→Prop}{k:Nat}{r:RA}{args:List RA}{ys:List AV}{v:AV}(hr:r.ev f=.fn (.func k) [] [])(hk:Qh P k ys v)(hy:AV.stillL false m (args.map (RA.ev f))=some ys)(h1:AV.rfL ys=true)(h2:v.rf=true)(h3:AV.rfL (args.map (RA.ev f))=true∨v.nl=true)(h:QD P its ⟨QJ f d v,m,ds⟩ K) :
  QD P (⟨some d,.call r args,none⟩ :: its) ⟨f,m,ds⟩ K:=by
 refine⟨k,[],[],ys,v,hr,?_,h1,hk,h2,?_,h⟩
 ·simpa using hy
 ·simpa using h3

theorem put_put:∀ {m:Qk} {l s:Nat} {o o':Ob},Am.put (Am.put m l s o) l s o'=Am.put m l s o'
 | [],_,_,_,_=>rfl
 |fr :: m,0,s,o,o'=>by simp only[Am.put,upd_upd']
 |fr :: m,l+1,s,o,o'=>by simp only[Am.put,put_put (m:=m)]
where
 upd_upd' {f:Nat→Ob} {d:Nat} {x y:Ob}:QJ (QJ f d x) d y=QJ f d y:=by
  funext i;simp only[QJ];cases Nat.beq i d<;>rfl

theorem put_self:∀ {m:Qk} {l s:Nat} {o:Ob},Qc m l s=o→Am.put m l s o=m
 | [],_,_,_,_=>rfl
 |fr :: m,0,s,o,h=>by
  simp only[Am.put];congr 1
  funext i;simp only[QJ];cases hb:Nat.beq i s with
  |false=>rfl
  |true=>rw[Qli hb];exact h.symm
 |fr :: m,l+1,s,o,h=>by simp only[Am.put,put_self (m:=m) h]

section
variable {m:Qk}{fr:Nat→Ob}{lv s g sz n i:Nat}{cur:List AV}{x y:AV}

theorem Y0 (hlv:lv<m.length)(hx:cur[i]? = some x)(he:Ez E sz x):Xn (fr :: Am.put m lv s (.vec g sz cur)) (some sz) (.vptr (lv+1) s g i 0)=some x:=by
 have e:Qc (fr :: Am.put m lv s (.vec g sz cur)) (lv+1) s=.vec g sz cur:=Qs hlv;simp only[Xn,e,if_true,hx,he.part]

theorem Dm (hlv:lv<m.length)(hx:cur[i]? = some x)(he:Ez E sz x)(hy:Ez E sz y)(h0:sz≠0):Xp (fr :: Am.put m lv s (.vec g sz cur)) (.vptr (lv+1) s g i 0) y.cells=some (fr :: Am.put m lv s (.vec g sz (cur.set i y))):=by
 have e:Qc (fr :: Am.put m lv s (.vec g sz cur)) (lv+1) s=.vec g sz cur:=Qs hlv;obtain⟨_,l,rfl,hl,_,_,_⟩:=he;obtain⟨_,k,rfl,hk,hf,_,_⟩:=hy;have hc:0+(AV.agg k).cells.length≤(AV.agg l).cells.length∧(AV.agg k).cells.length≠0∧AV.rfL (AV.agg k).cells=true:=by
  simp only[AV.cells];exact⟨xw,xw,hf⟩
 simp only[Xp,e,if_true,hx,Qlv hc];have hs:splice l 0 k=k:=by
  simp only[splice,Qmy,QlL,QlN];rw[Ql1 xw,Qms]
 simp only[JP,AV.cells,hs,Am.put,put_put]

theorem Y3 (hlv:lv<m.length)(hi:i<n):Qf (fr :: Am.put m lv s (.vec g sz cur)) sz none (.vec (lv+1) s g 0 n false) ((i:Nat):Int)=some (.vptr (lv+1) s g i 0):=by
 have e:Qc (fr :: Am.put m lv s (.vec g sz cur)) (lv+1) s=.vec g sz cur:=Qs hlv;exact xi

end

theorem put_len:∀ {m:Qk} {l s:Nat} {o:Ob},(Am.put m l s o).length=m.length
 | [],_,_,_=>rfl
 |_ :: _,0,_,_=>rfl
 |fr :: m,l+1,s,o=>by simp only[Am.put,QlD,put_len (m:=m)]

theorem wn (n:Nat)(h:n<9223372036854775808):IntKind.i64.wrap ((n:Nat):Int)=((n:Nat):Int):=by
 rw[QA];omega

end Go.Proofs.YtmlohboeoeoamaaGreatDoor.Am

namespace Go.Proofs.YtmlohboeoeoamaaGreatDoor.Tz
open Go Am Bt Tg
variable {Pg:Program}{cz sr ro sm is st ss:Nat}(hC:Tg.Cs Pg cz sr ro sm is st ss)(hcz:cz≠0)

variable {E:AV→Prop}

def SwI (X cur:List AV)(p q i:Nat):Prop :=
 cur.length=X.length∧∀j,cur[j]? = if p≤j∧j<p+i then X[q+(j-p)]? else if q≤j∧j<q+i then X[p+(j-q)]? else X[j]?

theorem SwI.step {X cur:List AV}{p q i n:Nat}(h:SwI X cur p q i)(hi:i<n)(hpq:p+n≤q)(hq:q+n≤X.length){x y:AV}(hx:X[q+i]? = some x)(hy:X[p+i]? = some y) :
  SwI X ((cur.set (p+i) x).set (q+i) y) p q (i+1):=by
 obtain⟨h1,h2⟩:=h;refine⟨qn,fun j=>?_⟩;rw[List.getElem?_set,List.length_set,h1,List.getElem?_set,h1,h2 j];by_cases a:q+i=j
 ·subst a;rw[Qlv rfl,Qlv xw,Qlu xw,Qlv xw,show p+(q+i-q)=p+i by omega,hy]
 ·rw[Qlu a];by_cases b:p+i=j
  ·subst b;rw[Qlv rfl,Qlv xw,Qlv xw,show q+(p+i-p)=q+i by omega,hx]
  ·rw[Qlu b]
   repeat' split
   all_goals first|rfl|(exfalso;omega)|(congr 1;omega)

theorem SwI.done {P A M B S cur:List AV}(h:SwI (P++A++M++B++S) cur P.length (P.length+A.length+M.length) A.length)(hAB:A.length=B.length):cur=P++B++M++A++S:=by
 apply List.ext_getElem?
 intro j;rw[h.2 j];simp only[List.getElem?_append,Ql2]
 repeat' split
 all_goals first|rfl|(exfalso;omega)|(congr 1;omega)

def SwS (cz:Nat)(m:Qk)(lv s g N p q n:Nat)(X:List AV)(k:Nat)(st:St):Prop :=
 ∃f i cur,st=⟨f,[Qb]++Am.put m lv s (.vec g cz cur),[]⟩∧k=n-i∧i≤n∧SwI X cur p q i∧
  f 0=.vec (lv+1) s g 0 N false∧f 1=.int .i64 (p:Nat)∧f 2=.int .i64 (q:Nat)∧f 3=.int .i64 (n:Nat)∧f 10=.int .i64 (i:Nat)

include hC hcz in
theorem QiL (cmp:AV)(lv s g:Nat)(P A M B S:List AV)(m:Qk)(hl:Am.Qc m lv s=.vec g cz (P++A++M++B++S))(hAB:A.length=B.length)(he:∀x∈P++A++M++B++S,Ez E cz x)
  (hn:(P++A++M++B++S).length<4611686018427387904) :
  Qe Pg sr [.vec lv s g 0 (P++A++M++B++S).length false,.int .i64 (P.length:Nat),.int .i64 ((P.length+A.length+M.length:Nat):Int),.int .i64 (A.length:Nat),cmp] m
   (fun x m1=>x=.tup []∧m1=Am.put m lv s (.vec g cz (P++B++M++A++S))):=by
 have _:=hC;have _:=hcz;have hlv:lv<m.length:=Xm qi;have hlen:(P++A++M++B++S).length=P.length+A.length+M.length+B.length+S.length:=wC
 refine hC.csr.go xA ?_;simp only[Qae,rsr,osr,Qa,seval];have h0:m=Am.put m lv s (.vec g cz (P++A++M++B++S)):=(put_self hl).symm;generalize hX:P++A++M++B++S=X at *;generalize hp:P.length=p at *;generalize hq:p+A.length+M.length=q at *;generalize hnn:A.length=n at *;refine Qi (SwS cz m lv s g X.length p q n X) _ ⟨_,0,X,q_,rfl,Qlx _,⟨rfl,fun j=>?_⟩,xz,xz,xz,xz,xJ⟩ ?_
 ·rw[Qlu xw,Qlu xw]
 rintro k st ⟨f,i,cur,rfl,rfl,hi,hsw,f0,f1,f2,f3,f10⟩;simp only[Qai,Qaf,Qag,Qah,f3,f10,Qa,seval];by_cases hlt:i<n
 ·have d0:decide ((i:Int)<(n:Int))=true:=xD
  have e1:IntKind.i64.wrap ((p:Int)+(i:Int))=((p+i:Nat):Int):=xE
  have e2:IntKind.i64.wrap ((q:Int)+(i:Int))=((q+i:Nat):Int):=xE
  have e3:IntKind.i64.wrap ((i:Int)+1)=((i+1:Nat):Int):=xE
  obtain⟨x,hx⟩:∃x,X[q+i]? = some x:=⟨_,Qln xw⟩;obtain⟨y,hy⟩:∃y,X[p+i]? = some y:=⟨_,Qln xw⟩;have ex:=he x (QlC hx);have ey:=he y (QlC hy);have cx:cur[q+i]? = some x:=by rw[hsw.2,Qlu xw,Qlu xw,hx]
  have cy:cur[p+i]? = some y:=by rw[hsw.2,Qlu xw,Qlu xw,hy]
  have cx':(cur.set (p+i) x)[q+i]? = some x:=by rw[Qnw xw,cx]
  simp only[d0,e1,e2,e3,f0,f1,f2,f10,Y3 hlv (show q+i<X.length by omega),Y3 hlv (show p+i<X.length by omega),Y0 hlv cx ex,Y0 hlv cy ey,ex.len,ey.len,ex.leaf,ey.leaf,Dm hlv cy ey ex hcz,Dm hlv cx' ex ey hcz,Qa,seval];exact⟨n-(i+1),xw,_,i+1,_,rfl,rfl,xw,hsw.step hlt xw xw hx hy,xP,j6,j3,kw,xz⟩
 ·have d0:decide ((i:Int)<(n:Int))=false:=xD
  have hin:i=n:=xw
  subst hin;have hc:=SwI.done (P:=P) (A:=A) (M:=M) (B:=B) (S:=S) (cur:=cur) (by rw[hX,hp,hnn,hq];exact hsw) xw;simp only[d0,hc,put_len,Qa,seval]

include hC hcz in
theorem Vd (cmp:AV){fr:Nat→Ob}{lv s g N a b n:Nat}(P A M B S:List AV){m:Qk}(hlv:lv<m.length)(hAB:A.length=B.length)(he:∀x∈P++A++M++B++S,Ez E cz x)
  (hn:(P++A++M++B++S).length<4611686018427387904) (hN:N=(P++A++M++B++S).length) (ha:a=P.length) (hb:b=P.length+A.length+M.length) (hc:n=A.length) :
  Qe Pg sr [.vec (lv+1) s g 0 N false,.int .i64 (a:Nat),.int .i64 (b:Nat),.int .i64 (n:Nat),cmp] (fr :: Am.put m lv s (.vec g cz (P++A++M++B++S)))
   (fun x m1=>x=.tup []∧m1=fr :: Am.put m lv s (.vec g cz (P++B++M++A++S))):=by
 have _:=hC;have _:=hcz;subst hN ha hb hc;refine(QiL hC hcz cmp (lv+1) s g P A M B S (fr :: Am.put m lv s (.vec g cz (P++A++M++B++S))) (Qs (m:=m) hlv) hAB he hn).mono fun x m1 h=>⟨h.1,?_⟩
 exact yS

def RoS (cz:Nat)(E:AV→Prop)(m:Qk)(lv s g N mid:Nat)(T:List AV)(cmp:AV)(k:Nat)(st:St):Prop :=
 ∃f P A B S,st=⟨f,[Qb]++Am.put m lv s (.vec g cz (P++A++B++S)),[]⟩∧k=A.length+B.length∧0<A.length∧0<B.length∧P.length+A.length=mid∧P++B++A++S=T∧(P++A++B++S).length=N∧(∀x∈P++A++B++S,Ez E cz x)∧
  f 0=.vec (lv+1) s g 0 N false∧f 2=.int .i64 (mid:Nat)∧f 4=cmp∧f 10=.int .i64 (A.length:Nat)∧f 11=.int .i64 (B.length:Nat)

include hC hcz in
theorem QiM (cmp:AV)(lv s g:Nat)(P X Y S:List AV)(m:Qk)(hl:Am.Qc m lv s=.vec g cz (P++X++Y++S))(hX:0<X.length)(hY:0<Y.length)(he:∀x∈P++X++Y++S,Ez E cz x)
  (hn:(P++X++Y++S).length<4611686018427387904) :
  Qe Pg ro [.vec lv s g 0 (P++X++Y++S).length false,.int .i64 (P.length:Nat),.int .i64 ((P.length+X.length:Nat):Int),.int .i64 ((P.length+X.length+Y.length:Nat):Int),cmp] m
   (fun x m1=>x=.tup []∧m1=Am.put m lv s (.vec g cz (P++Y++X++S))):=by
 have _:=hC;have _:=hcz;have hlv:lv<m.length:=Xm qi;have hlen:(P++X++Y++S).length=P.length+X.length+Y.length+S.length:=wC
 refine hC.cro.go xA ?_;have e1:IntKind.i64.wrap (((P.length+X.length:Nat):Int)-(P.length:Int))=((X.length:Nat):Int):=xE
 have e2:IntKind.i64.wrap (((P.length+X.length+Y.length:Nat):Int)-((P.length+X.length:Nat):Int))=((Y.length:Nat):Int):=xE
 simp only[Qaj,Qak,Qas,rro,oro,e1,e2,Qa,seval];have h0:m=Am.put m lv s (.vec g cz (P++X++Y++S)):=(put_self hl).symm;refine Qi (RoS cz E m lv s g (P++X++Y++S).length (P.length+X.length) (P++Y++X++S) cmp.sh) _ ⟨_,P,X,Y,S,q_,rfl,hX,hY,rfl,rfl,rfl,he,xz,xz,xz,xz,xz⟩ ?_;generalize hT:P++Y++X++S=T;generalize hN:(P++X++Y++S).length=N at *;generalize hmid:P.length+X.length=mid at *;clear hl he h0 hX hY e1 e2;rintro k st ⟨f,P',A,B,S',rfl,rfl,hA,hB,hm,hTT,hNN,hee,f0,f2,f4,f10,f11⟩;have hlen':(P'++A++B++S').length=P'.length+A.length+B.length+S'.length:=wC
 simp only[Qar,Qal,Qam,Qan,Qao,Qap,Qaq,f10,f11,Qa,seval];by_cases hij:A.length=B.length
 ·have d0:((A.length:Int) != (B.length:Int))=false:=xD
  have e1:IntKind.i64.wrap ((mid:Int)-(A.length:Int))=((P'.length:Nat):Int):=xE
  simp only[d0,e1,f0,f2,f4,f10,Qa,seval];have hc:=Vd hC hcz cmp.sh (fr:=Qb) (g:=g) (s:=s) (N:=N) (a:=P'.length) (b:=mid) (n:=A.length) P' A [] B S' hlv hij (by simpa using hee) (by simp only[Qms];omega) (by simp only[Qms];omega) rfl (by simp only[Qmk];omega) rfl;simp only[Qms]at hc;refine Qj hc rfl ?_;simp only[hTT,put_len,Qa,seval]
 ·have d0:((A.length:Int) != (B.length:Int))=true:=xD
  simp only[d0,f10,f11,Qa,seval];by_cases hgt:B.length<A.length
  ·have d1:decide ((A.length:Int) > (B.length:Int))=true:=xD
   have e1:IntKind.i64.wrap ((mid:Int)-(A.length:Int))=((P'.length:Nat):Int):=xE
   have e2:IntKind.i64.wrap ((A.length:Int)-(B.length:Int))=((A.length-B.length:Nat):Int):=xE
   simp only[d1,e1,f0,f2,f4,f10,f11,Qa,seval];have hcut:P'++A++B++S'=P'++A.take B.length++A.drop B.length++B++S':=by
    rw[QlJ P' (A.take _),QmH]
   have hl1:(A.take B.length).length=B.length:=xD
   rw[hcut]at hee hNN ⊢;refine Qj (Vd hC hcz cmp.sh (a:=P'.length) (b:=mid) (n:=B.length) P' (A.take B.length) (A.drop B.length) B S' hlv hl1 hee xw hNN.symm rfl (by rw[hl1];simp;omega) hl1.symm) rfl ?_;simp only[e2,f10,f11,Qa,seval];have hcat:P'++B++A.drop B.length++A.take B.length++S'=(P'++B)++A.drop B.length++A.take B.length++S':=rfl;refine⟨(A.drop B.length).length+(A.take B.length).length,?_,_,P'++B,A.drop B.length,A.take B.length,S',rfl,rfl,xD,xw,xD,?_,?_,?_,xP,j3,k8,by simp only[Ql5,Qa,seval],by simp only[f11,hl1,Qa,seval]⟩
   ·simp;omega
   ·rw[←hTT];simp only[QlJ];rw[←QlJ (A.take _),QmH]
   ·rw[←hNN];simp only[Ql2];omega
   ·intro x hx;refine hee x ?_;simp only[QmJ]at hx ⊢
    grind
  ·have d1:decide ((A.length:Int) > (B.length:Int))=false:=xD
   have e1:IntKind.i64.wrap ((mid:Int)-(A.length:Int))=((P'.length:Nat):Int):=xE
   have e2:IntKind.i64.wrap ((B.length:Int)-(A.length:Int))=((B.length-A.length:Nat):Int):=xE
   have e3:IntKind.i64.wrap ((mid:Int)+(B.length:Int))=((mid+B.length:Nat):Int):=xE
   have e4:IntKind.i64.wrap (((mid+B.length:Nat):Int)-(A.length:Int))=((mid+B.length-A.length:Nat):Int):=xE
   simp only[d1,e1,e3,e4,f0,f2,f4,f10,f11,Qa,seval];have hcut:P'++A++B++S'=P'++A++B.take (B.length-A.length)++B.drop (B.length-A.length)++S':=by
    rw[QlJ (P'++A) (B.take _),QmH]
   have hl1:(B.take (B.length-A.length)).length=B.length-A.length:=xA
   have hl2:(B.drop (B.length-A.length)).length=A.length:=xD
   rw[hcut]at hee hNN ⊢;refine Qj (Vd hC hcz cmp.sh (a:=P'.length) (b:=mid+B.length-A.length) (n:=A.length) P' A (B.take (B.length-A.length)) (B.drop (B.length-A.length)) S' hlv hl2.symm hee xw hNN.symm rfl (by rw[hl1];omega) rfl) rfl ?_;simp only[e2,f10,f11,Qa,seval];refine⟨(B.drop (B.length-A.length)).length+(B.take (B.length-A.length)).length,?_,_,P',B.drop (B.length-A.length),B.take (B.length-A.length),A++S',by simp only[QlJ]<;>rfl,rfl,xw,xw,xw,?_,?_,?_,xP,j3,k8,by simp only[f10,hl2,Qa,seval],by simp only[hl1,Qa,seval]⟩
   ·omega
   ·rw[←hTT];simp only[QlJ];rw[←QlJ (B.take _),QmH]
   ·rw[←hNN];simp only[Ql2];omega
   ·intro x hx;refine hee x ?_;simp only[QmJ]at hx ⊢
    grind

end Go.Proofs.YtmlohboeoeoamaaGreatDoor.Tz

namespace Go.Proofs.YtmlohboeoeoamaaGreatDoor.Tz
open Go Am Bt Tg So
variable {Pg:Program}{cz sr ro sm is st ss:Nat}(hC:Tg.Cs Pg cz sr ro sm is st ss)(hcz:cz≠0)

variable {E:AV→Prop}

def lt (c:AV→AV→Int)(x y:AV):Bool:=decide (c x y<0)

structure Cp (Pg:Program)(cz:Nat)(E:AV→Prop)(kc:Nat)(c:AV→AV→Int):Prop where
 call:∀x y,Ez E cz x→Ez E cz y→Qh Pg kc [x,y] (.int .i64 (c x y))
 sw:SW (lt c)

def InS (cz:Nat)(m:Qk)(lv s g N i p:Nat)(kc:Nat)(c:AV→AV→Int)(P L S:List AV)(x:AV)(k:Nat)(st:St):Prop :=
 ∃f U V,st=⟨f,[Qb]++Am.put m lv s (.vec g cz (P++U++[x]++V++S)),[]⟩∧k=U.length∧U++V=L∧(∀v∈V,lt c x v=true)∧
  f 0=.vec (lv+1) s g 0 N false∧f 1=.int .i64 (P.length:Nat)∧f 2=.int .i64 (p:Nat)∧f 3=.fn (.func kc) [] []∧f 8=.int .i64 (i:Nat)∧f 9=.int .i64 ((P.length+U.length:Nat):Int)

def IoS (cz:Nat)(m:Qk)(lv s g N:Nat)(kc:Nat)(c:AV→AV→Int)(P X S:List AV)(k:Nat)(st:St):Prop :=
 ∃f i,st=⟨f,[Qb]++Am.put m lv s (.vec g cz (P++QG (lt c) (X.take i)++X.drop i++S)),[]⟩∧k=X.length+1-i∧1≤i∧(i≤X.length∨(i=1∧X=[]))∧
  f 0=.vec (lv+1) s g 0 N false∧f 1=.int .i64 (P.length:Nat)∧f 2=.int .i64 ((P.length+X.length:Nat):Int)∧f 3=.fn (.func kc) [] []∧f 8=.int .i64 ((P.length+i:Nat):Int)

theorem Tf {α:Type}(U:List α)(h:0<U.length):∃W u,U=W++[u]:=by
 rcases List.eq_nil_or_concat U with rfl|⟨W,u,e⟩
 ·simp at h
 ·exact⟨W,u,kn⟩

theorem Dn {α:Type}{P W V:List α}{u:α}{i:Nat}(h:i=P.length+W.length):(P++(W++[u])++V)[i]? = some u:=by
 subst h;simp

include hC hcz in
theorem QiN {kc:Nat}{c:AV→AV→Int}(hc:Cp Pg cz E kc c)(lv s g:Nat)(P X S:List AV)(m:Qk)(hl:Am.Qc m lv s=.vec g cz (P++X++S))(he:∀x∈P++X++S,Ez E cz x)
  (hn:(P++X++S).length<4611686018427387904) :
  Qe Pg is [.vec lv s g 0 (P++X++S).length false,.int .i64 (P.length:Nat),.int .i64 ((P.length+X.length:Nat):Int),.fn (.func kc) [] []] m
   (fun x m1=>x=.tup []∧m1=Am.put m lv s (.vec g cz (P++QG (lt c) X++S))):=by
 have _:=hC;have _:=hcz;have hlv:lv<m.length:=Xm qi;have hlen:(P++X++S).length=P.length+X.length+S.length:=wC
 refine hC.cis.go xA ?_;have e1:IntKind.i64.wrap ((P.length:Int)+1)=((P.length+1:Nat):Int):=xE
 simp only[QaC,ris,ois,e1,Qa,seval];have h0:m=Am.put m lv s (.vec g cz (P++QG (lt c) (X.take 1)++X.drop 1++S)):=by
  have:P++QG (lt c) (X.take 1)++X.drop 1++S=P++X++S:=by
   cases X with
   |nil=>simp[QG]
   |cons x X=>simp[QG,ZP]
  rw[this];exact(put_self hl).symm
 generalize hN:(P++X++S).length=N at *;refine Qi (IoS cz m lv s g N kc c P X S) _ ⟨_,1,q_,rfl,Qlk _,by
  cases X with
  |nil=>exact .inr ⟨rfl,rfl⟩
  |cons x X=>exact .inl xA,xz,xz,xz,xz,xz⟩ ?_
 clear h0 e1;rintro k st ⟨f,i,rfl,rfl,hi1,hi2,f0,f1,f2,f3,f8⟩;simp only[QaI,QaK,QaD,QaE,QaF,QaG,QaH,QaJ,f2,f8,Qa,seval];by_cases hlt:i<X.length
 ·have d0:decide (((P.length+i:Nat):Int)<((P.length+X.length:Nat):Int))=true:=xY
  simp only[d0,f8,Qa,seval];obtain⟨x,hx⟩:∃x,X[i]? = some x:=⟨_,Qln hlt⟩;have ex:Ez E cz x:=he x (by simp[QlC hx]);have hL:(QG (lt c) (X.take i)).length=i:=by rw[KY,Qml];omega
  have heL:∀z∈QG (lt c) (X.take i),Ez E cz z:=fun z hz=>he z (by simp[Qmc (Di hz)])
  have hdrop:X.drop i=[x]++X.drop (i+1):=by
   rw[List.singleton_append,Ql7 hlt];congr 1
   exact(Qlm.1 hx).2
  have htake:QG (lt c) (X.take (i+1))=mg (lt c) (QG (lt c) (X.take i)) [x]:=by
   rw[Qng,hx,Qnh,←Ys hc.sw]<;>rfl
  refine Qi (InS cz m lv s g N (P.length+i) (P.length+X.length) kc c P (QG (lt c) (X.take i)) (X.drop (i+1)++S) x) _ ⟨_,QG (lt c) (X.take i),[],by rw[hdrop];simp only[QlJ,Qms]<;>rfl,rfl,Qms _,xA,xP,j6,j3,kw,by simp only[f8,Qa,seval],by simp only[hL,Qa,seval]⟩ ?_;rintro k' st ⟨f,U,V,rfl,rfl,hUV,hV,f0,f1,f2,f3,f8,f9⟩;have hUVl:U.length+V.length=i:=by rw[←Ql2,hUV,hL]
  have hrow:(P++U++[x]++V++(X.drop (i+1)++S)).length=N:=by
   rw[←hN];simp only[Ql2,Ql5,QmX];omega
  simp only[f1,f9,Qa,seval];have e4:IntKind.i64.wrap (((P.length+i:Nat):Int)+1)=((P.length+(i+1):Nat):Int):=xE
  have fin:(∀u∈U,lt c x u=false)→P++U++[x]++V++(X.drop (i+1)++S)=P++QG (lt c) (X.take (i+1))++X.drop (i+1)++S:=by
   intro h;rw[htake,←hUV,UB h hV];simp
  by_cases hU:0<U.length
  ·obtain⟨W,u,rfl⟩:=Tf U hU;simp only[Ql2,QmX]at hUVl hrow f9;have d1:decide (((P.length+(W.length+1):Nat):Int) > (P.length:Int))=true:=xY
   have e2:IntKind.i64.wrap (((P.length+(W.length+1):Nat):Int)-1)=((P.length+W.length:Nat):Int):=xE
   have eu:Ez E cz u:=heL u (by rw[←hUV];simp);have hx1:(P++(W++[u])++[x]++V++(X.drop (i+1)++S))[P.length+(W.length+1)]? = some x:=by
    have:=Dn (P:=P) (W:=W++[u]) (u:=x) (V:=V++(X.drop (i+1)++S)) (i:=P.length+(W.length+1)) xA
    exact y6
   have hu1:(P++(W++[u])++[x]++V++(X.drop (i+1)++S))[P.length+W.length]? = some u:=by
    have:=Dn (P:=P) (W:=W) (u:=u) (V:=[x]++V++(X.drop (i+1)++S)) (i:=P.length+W.length) rfl
    exact y6
   simp only[d1,e2,f0,f3,f9,Ql2,Y3 hlv (show P.length+(W.length+1)<N by omega),Y3 hlv (show P.length+W.length<N by omega),Y0 hlv hx1 ex,Y0 hlv hu1 eu,Qa,seval];refine Ua xz (hc.call x u ex eu) (U7 ex eu _) (YK ex eu) rfl (.inl (YK ex eu)) ?_;cases hcx:decide (c x u<0)with
   |true=>
    have hset:((P++(W++[u])++[x]++V++(X.drop (i+1)++S)).set (P.length+(W.length+1)) u).set (P.length+W.length) x=P++W++[x]++([u]++V)++(X.drop (i+1)++S):=by
     simp[QlJ]
    have hx2:((P++(W++[u])++[x]++V++(X.drop (i+1)++S)).set (P.length+(W.length+1)) u)[P.length+W.length]? = some u:=by
     rw[Qnw xw,hu1]
    simp only[hcx,e2,f0,f9,Y3 hlv (show P.length+(W.length+1)<N by omega),Y3 hlv (show P.length+W.length<N by omega),Y0 hlv hx1 ex,Y0 hlv hu1 eu,ex.len,eu.len,ex.leaf,eu.leaf,Dm hlv hx1 ex eu hcz,Dm hlv hx2 eu ex hcz,Qa,seval];exact⟨W.length,xA,_,W,[u]++V,by rw[hset]<;>rfl,rfl,by rw[←hUV];simp,by
     intro v hv;rcases QmJ.1 hv with hv|hv
     ·rw[QnC.1 hv];exact hcx
     ·exact hV v hv,xP,j6,j3,kw,by simp only[f8,Qa,seval],xz⟩
   |false=>
    have hz:∀z∈W++[u],lt c x z=false:=by
     have hsrt:=Zh hc.sw (X.take i);have hsrt:ZC (lt c) ((W++[u])++V):=by rw[hUV];exact hsrt
     have hs2:=(Qm1.1 (Qm1.1 hsrt).1).2.2;intro z hz;rcases QmJ.1 hz with hz|hz
     ·exact hc.sw.nt x u z hcx (hs2 z hz u xA)
     ·rw[QnC.1 hz];exact hcx
    simp only[hcx,f8,e4,Qa,seval];exact⟨X.length+1-(i+1),xw,_,i+1,by rw[fin hz]<;>rfl,rfl,xw,.inl xw,xP,j6,j3,kw,xz⟩
  ·have hU0:U=[]:=Qmu xw;subst hU0;have d1:decide (((P.length+0:Nat):Int) > (P.length:Int))=false:=xA
   have fin0:=fin xA;simp only[Qms]at fin0;simp only[Qmk]at f9;simp only[d1,f8,e4,Qmk,Qa,seval];exact⟨X.length+1-(i+1),xw,_,i+1,by rw[fin0]<;>rfl,rfl,xw,.inl xw,xP,j6,j3,kw,xz⟩
 ·have d0:decide (((P.length+i:Nat):Int)<((P.length+X.length:Nat):Int))=false:=x_
  have hX:QG (lt c) (X.take i)++X.drop i=QG (lt c) X:=by
   rcases hi2 with h|⟨_,rfl⟩
   ·rw[QlY xw,Ql1 xw,Qms]
   ·simp[QG]
  have hX2:P++QG (lt c) (X.take i)++X.drop i++S=P++QG (lt c) X++S:=by rw[QlJ P (QG (lt c) (X.take i)) (X.drop i),hX]
  simp only[d0,hX2,put_len,Qa,seval]

end Go.Proofs.YtmlohboeoeoamaaGreatDoor.Tz

namespace Go.Proofs.YtmlohboeoeoamaaGreatDoor.Tz
open Go Am Bt Tg So
variable {Pg:Program}{cz sr ro sm is st ss:Nat}(hC:Tg.Cs Pg cz sr ro sm is st ss)(hcz:cz≠0)

variable {E:AV→Prop}

theorem Th (a b:Nat)(h:a+b<9223372036854775808):IntKind.i64.wrap ((IntKind.u64.wrap ((a+b:Nat):Int)).fdiv (2 ^ min 1 64))=(((a+b) / 2:Nat):Int):=by
 rw[QA,ZM,show min 1 64=1 from rfl,show(2:Int) ^ 1=2 from rfl];have:(((a+b:Nat):Int) % 18446744073709551616)=((a+b:Nat):Int):=xw
 rw[this,QnM _ xw];omega

def SaS (cz:Nat)(m:Qk)(lv s g N:Nat)(kc:Nat)(c:AV→AV→Int)(P Y S:List AV)(x:AV)(k:Nat)(st:St):Prop :=
 ∃f i j,st=⟨f,[Qb]++Am.put m lv s (.vec g cz (P++[x]++Y++S)),[]⟩∧k=j-i∧i≤j∧j≤Y.length∧(∀k y,k<i→Y[k]? = some y→lt c y x=true)∧(∀k y,j≤k→Y[k]? = some y→lt c y x=false)∧
  f 0=.vec (lv+1) s g 0 N false∧f 1=.int .i64 (P.length:Nat)∧f 4=.fn (.func kc) [] []∧f 10=.int .i64 ((P.length+1+i:Nat):Int)∧f 11=.int .i64 ((P.length+1+j:Nat):Int)

def SaT (cz:Nat)(m:Qk)(lv s g N i:Nat)(P Y S:List AV)(x:AV)(k:Nat)(st:St):Prop :=
 ∃f t,st=⟨f,[Qb]++Am.put m lv s (.vec g cz (P++Y.take t++[x]++Y.drop t++S)),[]⟩∧k=i-t∧t≤i∧
  f 0=.vec (lv+1) s g 0 N false∧f 10=.int .i64 ((P.length+1+i:Nat):Int)∧f 13=.int .i64 ((P.length+t:Nat):Int)

include hC hcz in
theorem QiO {kc:Nat}{c:AV→AV→Int}(hc:Cp Pg cz E kc c)(lv s g:Nat)(P:List AV)(x:AV)(Y S:List AV)(m:Qk)(hl:Am.Qc m lv s=.vec g cz (P++[x]++Y++S))(he:∀z∈P++[x]++Y++S,Ez E cz z)
  (hn:(P++[x]++Y++S).length<4611686018427387904) (hY:ZC (lt c) Y) :
  Qe Pg sm [.vec lv s g 0 (P++[x]++Y++S).length false,.int .i64 (P.length:Nat),.int .i64 ((P.length+1:Nat):Int),.int .i64 ((P.length+1+Y.length:Nat):Int),.fn (.func kc) [] []] m
   (fun v m1=>v=.tup []∧m1=Am.put m lv s (.vec g cz (P++mg (lt c) [x] Y++S))):=by
 have _:=hC;have _:=hcz;have hlv:lv<m.length:=Xm qi;have hlen:(P++[x]++Y++S).length=P.length+1+Y.length+S.length:=by simp only[Ql2,QmX]
 have ex:Ez E cz x:=he x xA;have eY:∀y∈Y,Ez E cz y:=fun y hy=>he y kY
 refine hC.csm.go xA ?_;have e1:IntKind.i64.wrap (((P.length+1:Nat):Int)-(P.length:Int))=1:=xE
 simp only[Ce,Ta,Tb,Tc,B8,MF,MG,MN,B9,Na,Nb,Nc,Nd,Nf,Ng,Nh,Ni,Hz,HA,HB,UE,UF,W6,W7,rsm,Np,e1,Qmz,Qa,seval];have h0:m=Am.put m lv s (.vec g cz (P++[x]++Y++S)):=(put_self hl).symm;generalize hN:(P++[x]++Y++S).length=N at *;refine Qi (SaS cz m lv s g N kc c P Y S x) _ ⟨_,0,Y.length,q_,rfl,Qlx _,Qlk _,(by intro k y hk;exact absurd hk (Qnz _)),qY,xz,xz,xz,wK,xz⟩ ?_;clear h0 e1;rintro k st ⟨f,i,j,rfl,rfl,hij,hj,hp,hq,f0,f1,f4,f10,f11⟩;simp only[Qay,QaA,Td,Te,No,Qat,Qau,Qav,Qaw,Qax,Qaz,Eh,Ei,MH,MI,MJ,ML,MM,MO,MP,MQ,Nj,Nk,Nl,Nm,Nn,f10,f11,Qa,seval];by_cases hlt:i<j
 ·have d0:decide (((P.length+1+i:Nat):Int)<((P.length+1+j:Nat):Int))=true:=xY
  have e2:IntKind.i64.wrap (((P.length+1+i:Nat):Int)+((P.length+1+j:Nat):Int))=(((P.length+1+i)+(P.length+1+j):Nat):Int):=xE
  have e3:=Th (P.length+1+i) (P.length+1+j) xw;have e4:((P.length+1+i)+(P.length+1+j)) / 2=P.length+1+(i+j) / 2:=xw
  rw[e4]at e3;generalize hh:(i+j) / 2=h at *;have hh1:h<j:=xw
  have hh2:i≤h:=xw
  have e5:IntKind.i64.wrap (((P.length+1+h:Nat):Int)+1)=((P.length+1+(h+1):Nat):Int):=xE
  obtain⟨y,hy⟩:∃y,Y[h]? = some y:=⟨_,Qln xw⟩;have ey:=eY y (QlC hy);have gy:(P++[x]++Y++S)[P.length+1+h]? = some y:=by
   rw[QmQ (by simp only[Ql2,QmX];omega),QmR (by simp only[Ql2,QmX];omega)];rw[←hy];congr 1;simp only[Ql2,QmX];omega
  have gx:(P++[x]++Y++S)[P.length]? = some x:=by
   have:=Dn (P:=P) (W:=[]) (u:=x) (V:=Y++S) (i:=P.length) rfl
   simpa only [QlJ,QlL]using this
  simp only[d0,e2,e3,f0,f1,f4,f10,f11,Y3 hlv (show P.length+1+h<N by omega),Y3 hlv (show P.length<N by omega),Y0 hlv gy ey,Y0 hlv gx ex,Qa,seval];refine Ua xz (hc.call y x ey ex) (U7 ey ex _) (YK ey ex) rfl (.inl (YK ey ex)) ?_;cases hcx:decide (c y x<0)with
  |true=>
   simp only[hcx,e5,Qa,seval];exact⟨j-(h+1),xw,_,h+1,j,rfl,rfl,xw,hj,fun k z hk hz=>Yt hc.sw hY (Nat.le_of_lt_succ hk) hz hy hcx,hq,xP,j6,k8,xz,by simp only[f11,Qa,seval]⟩
  |false=>
   simp only[hcx,Qa,seval];exact⟨h-i,xw,_,i,h,rfl,rfl,xw,xw,hp,fun k z hk hz=>by
    cases hb:lt c z x with
    |false=>rfl
    |true=>exact absurd (Yt hc.sw hY hk hy hz hb) (by show ¬(decide _=true);rw[hcx];simp),xP,j6,k8,wL,xz⟩
 ·have d0:decide (((P.length+1+i:Nat):Int)<((P.length+1+j:Nat):Int))=false:=x_
  have hij':j=i:=xw
  subst hij';simp only[d0,f1,Qa,seval];have hres:mg (lt c) [x] Y=Y.take j++x :: Y.drop j:=by
   have:=Qb4 (lt:=lt c) (x:=x) (Y1:=Y.take j) (Y2:=Y.drop j) (fun y hy=>by
    obtain⟨k,hk⟩:=QnN hy;rw[Ql3]at hk;split at hk
    ·rename_i h;exact hp k y h hk
    ·cases hk) (fun y hy=>by
    obtain⟨k,hk⟩:=QnN hy;rw[Ql4]at hk;exact hq _ y xw hk)
   rwa [QmH]at this
  refine Qi (SaT cz m lv s g N j P Y S x) _ ⟨_,0,by rw[show P++Y.take 0++[x]++Y.drop 0++S=P++[x]++Y++S by simp]<;>rfl,rfl,Qlx _,xP,wL,wK⟩ ?_;clear f0 f1 f4 f10 f11 d0 hp hq f;rintro k st ⟨f,t,rfl,rfl,ht,f0,f10,f13⟩;have e6:IntKind.i64.wrap (((P.length+1+j:Nat):Int)-1)=((P.length+j:Nat):Int):=xE
  have e7:IntKind.i64.wrap (((P.length+t:Nat):Int)+1)=((P.length+(t+1):Nat):Int):=xE
  simp only[e6,f10,f13,Qa,seval];by_cases hlt:t<j
  ·have d0:decide (((P.length+t:Nat):Int)<((P.length+j:Nat):Int))=true:=xY
   obtain⟨y,hy⟩:∃y,Y[t]? = some y:=⟨_,Qln xw⟩;have ey:=eY y (QlC hy);have hdrop:Y.drop t=[y]++Y.drop (t+1):=by
    rw[List.singleton_append,Ql7 xw];congr 1
    exact(Qlm.1 hy).2
   have htake:Y.take (t+1)=Y.take t++[y]:=by rw[Qng,hy]<;>rfl
   have hlt':(Y.take t).length=t:=kE
   have g1:(P++Y.take t++[x]++Y.drop t++S)[P.length+t]? = some x:=by
    have:=Dn (P:=P) (W:=Y.take t) (u:=x) (V:=Y.drop t++S) (i:=P.length+t) (by rw[hlt'])
    exact y6
   have g2:(P++Y.take t++[x]++Y.drop t++S)[P.length+(t+1)]? = some y:=by
    have:=Dn (P:=P) (W:=Y.take t++[x]) (u:=y) (V:=Y.drop (t+1)++S) (i:=P.length+(t+1)) (by rw[Ql2,hlt']<;>rfl);rw[hdrop]
    exact y6
   have g3:((P++Y.take t++[x]++Y.drop t++S).set (P.length+t) y)[P.length+(t+1)]? = some y:=by
    rw[Qnw xw,g2]
   have hset:((P++Y.take t++[x]++Y.drop t++S).set (P.length+t) y).set (P.length+(t+1)) x=P++Y.take (t+1)++[x]++Y.drop (t+1)++S:=by
    rw[hdrop,htake];simp[hlt']
   simp only[d0,e7,f0,f13,Y3 hlv (show P.length+(t+1)<N by omega),Y3 hlv (show P.length+t<N by omega),Y0 hlv g1 ex,Y0 hlv g2 ey,ex.len,ey.len,ex.leaf,ey.leaf,Dm hlv g1 ex ey hcz,Dm hlv g3 ey ex hcz,Qa,seval];exact⟨j-(t+1),xw,_,t+1,by rw[hset]<;>rfl,rfl,xw,xP,wL,xz⟩
  ·have d0:decide (((P.length+t:Nat):Int)<((P.length+j:Nat):Int))=false:=x_
   have htj:t=j:=xw
   subst htj;have hfin:P++Y.take t++[x]++Y.drop t++S=P++mg (lt c) [x] Y++S:=by rw[hres];simp
   simp only[d0,hfin,put_len,Qa,seval]

end Go.Proofs.YtmlohboeoeoamaaGreatDoor.Tz

namespace Go.Proofs.YtmlohboeoeoamaaGreatDoor.Tz
open Go Am Bt Tg So
variable {Pg:Program}{cz sr ro sm is st ss:Nat}(hC:Tg.Cs Pg cz sr ro sm is st ss)(hcz:cz≠0)

variable {E:AV→Prop}

def SbS (cz:Nat)(m:Qk)(lv s g N:Nat)(kc:Nat)(c:AV→AV→Int)(P X S:List AV)(y:AV)(k:Nat)(st:St):Prop :=
 ∃f i j,st=⟨f,[Qb]++Am.put m lv s (.vec g cz (P++X++[y]++S)),[]⟩∧k=j-i∧i≤j∧j≤X.length∧(∀k x,k<i→X[k]? = some x→lt c y x=false)∧(∀k x,j≤k→X[k]? = some x→lt c y x=true)∧
  f 0=.vec (lv+1) s g 0 N false∧f 2=.int .i64 ((P.length+X.length:Nat):Int)∧f 4=.fn (.func kc) [] []∧f 14=.int .i64 ((P.length+i:Nat):Int)∧f 15=.int .i64 ((P.length+j:Nat):Int)

def SbT (cz:Nat)(m:Qk)(lv s g N i:Nat)(P X S:List AV)(y:AV)(k:Nat)(st:St):Prop :=
 ∃f t,st=⟨f,[Qb]++Am.put m lv s (.vec g cz (P++X.take t++[y]++X.drop t++S)),[]⟩∧k=t-i∧i≤t∧t≤X.length∧
  f 0=.vec (lv+1) s g 0 N false∧f 14=.int .i64 ((P.length+i:Nat):Int)∧f 17=.int .i64 ((P.length+t:Nat):Int)

include hC hcz in
theorem QiP {kc:Nat}{c:AV→AV→Int}(hc:Cp Pg cz E kc c)(lv s g:Nat)(P X:List AV)(y:AV)(S:List AV)(m:Qk)(hl:Am.Qc m lv s=.vec g cz (P++X++[y]++S))(he:∀x∈P++X++[y]++S,Ez E cz x)
  (hn:(P++X++[y]++S).length<4611686018427387904) (hX:ZC (lt c) X) (hX1:X.length≠1) :
  Qe Pg sm [.vec lv s g 0 (P++X++[y]++S).length false,.int .i64 (P.length:Nat),.int .i64 ((P.length+X.length:Nat):Int),.int .i64 ((P.length+X.length+1:Nat):Int),.fn (.func kc) [] []] m
   (fun v m1=>v=.tup []∧m1=Am.put m lv s (.vec g cz (P++mg (lt c) X [y]++S))):=by
 have _:=hC;have _:=hcz;have hlv:lv<m.length:=Xm qi;have hlen:(P++X++[y]++S).length=P.length+X.length+1+S.length:=by simp only[Ql2,QmX]
 have ey:Ez E cz y:=he y xA;have eX:∀x∈X,Ez E cz x:=fun x hx=>he x qz
 refine hC.csm.go xA ?_;have e1:(IntKind.i64.wrap (((P.length+X.length:Nat):Int)-(P.length:Int))==1)=false:=qy
 have e2:(IntKind.i64.wrap (((P.length+X.length+1:Nat):Int)-((P.length+X.length:Nat):Int))==1)=true:=by rw[QA];simp only[Qls];omega
 simp only[Ce,Ta,Tb,Tc,B8,MF,MG,MN,B9,Na,Nb,Nc,Nd,Nf,Ng,Nh,Ni,Hz,HA,HB,UE,UF,W6,W7,rsm,Np,e1,e2,Qa,seval];have h0:m=Am.put m lv s (.vec g cz (P++X++[y]++S)):=(put_self hl).symm;generalize hN:(P++X++[y]++S).length=N at *;refine Qi (SbS cz m lv s g N kc c P X S y) _ ⟨_,0,X.length,q_,rfl,Qlx _,Qlk _,(by intro k y hk;exact absurd hk (Qnz _)),qY,xz,xz,xz,wK,xz⟩ ?_;clear h0 e1 e2;rintro k st ⟨f,i,j,rfl,rfl,hij,hj,hp,hq,f0,f2,f4,f14,f15⟩;simp only[Td,Te,No,MH,MI,MJ,ML,MM,MO,MP,MQ,Nj,Nk,Nl,Nm,Nn,f14,f15,Qa,seval];by_cases hlt:i<j
 ·have d0:decide (((P.length+i:Nat):Int)<((P.length+j:Nat):Int))=true:=xY
  have e2:IntKind.i64.wrap (((P.length+i:Nat):Int)+((P.length+j:Nat):Int))=(((P.length+i)+(P.length+j):Nat):Int):=xE
  have e3:=Th (P.length+i) (P.length+j) xw;have e4:((P.length+i)+(P.length+j)) / 2=P.length+(i+j) / 2:=xw
  rw[e4]at e3;generalize hh:(i+j) / 2=h at *;have hh1:h<j:=xw
  have hh2:i≤h:=xw
  have e5:IntKind.i64.wrap (((P.length+h:Nat):Int)+1)=((P.length+(h+1):Nat):Int):=xE
  obtain⟨x,hx⟩:∃x,X[h]? = some x:=⟨_,Qln xw⟩;have ex:=eX x (QlC hx);have gx:(P++X++[y]++S)[P.length+h]? = some x:=by
   rw[QlJ,QlJ,QmR xw,QmQ xw,←hx];congr 1;omega
  have gy:(P++X++[y]++S)[P.length+X.length]? = some y:=by
   have:=Dn (P:=P) (W:=X) (u:=y) (V:=S) (i:=P.length+X.length) rfl
   exact y6
  simp only[d0,e2,e3,f0,f2,f4,f14,f15,Y3 hlv (show P.length+h<N by omega),Y3 hlv (show P.length+X.length<N by omega),Y0 hlv gy ey,Y0 hlv gx ex,Qa,seval];refine Ua xz (hc.call y x ey ex) (U7 ey ex _) (YK ey ex) rfl (.inl (YK ey ex)) ?_;cases hcx:decide (c y x<0)with
  |true=>
   simp only[hcx,Qa,seval];exact⟨h-i,xw,_,i,h,rfl,rfl,xw,xw,hp,fun k z hk hz=>by
    have:=YJ hX hc.sw hk hx hz;cases hb:lt c y z with
    |true=>rfl
    |false=>exact absurd (hc.sw.nt y z x hb this) (by show ¬(decide _=false);rw[hcx];simp),xP,j3,k8,wM,xz⟩
  |false=>
   simp only[hcx,e5,Qa,seval];exact⟨j-(h+1),xw,_,h+1,j,rfl,rfl,xw,hj,fun k z hk hz=>hc.sw.nt y x z hcx (YJ hX hc.sw (Nat.le_of_lt_succ hk) hz hx),hq,xP,j3,k8,xz,by simp only[f15,Qa,seval]⟩
 ·have d0:decide (((P.length+i:Nat):Int)<((P.length+j:Nat):Int))=false:=x_
  have hij':j=i:=xw
  subst hij';simp only[d0,f2,Qa,seval];have hres:mg (lt c) X [y]=X.take j++y :: X.drop j:=by
   have:=UB (lt:=lt c) (y:=y) (X1:=X.take j) (X2:=X.drop j) (fun x hx=>by
    obtain⟨k,hk⟩:=QnN hx;rw[Ql3]at hk;split at hk
    ·rename_i h;exact hp k x h hk
    ·cases hk) (fun x hx=>by
    obtain⟨k,hk⟩:=QnN hx;rw[Ql4]at hk;exact hq _ x xw hk)
   rwa [QmH]at this
  refine Qi (SbT cz m lv s g N j P X S y) _ ⟨_,X.length,by rw[show P++X.take X.length++[y]++X.drop X.length++S=P++X++[y]++S by simp]<;>rfl,rfl,hj,Qlk _,xP,wM,xz⟩ ?_;clear f0 f2 f4 f14 f15 d0 hp hq f;rintro k st ⟨f,t,rfl,rfl,ht,htl,f0,f14,f17⟩;simp only[f14,f17,Qa,seval];by_cases hlt:j<t
  ·have d0:decide (((P.length+t:Nat):Int) > ((P.length+j:Nat):Int))=true:=xY
   obtain⟨r,rfl⟩:∃r,t=r+1:=⟨t-1,xw⟩;have e7:IntKind.i64.wrap (((P.length+(r+1):Nat):Int)-1)=((P.length+r:Nat):Int):=xE
   obtain⟨x,hx⟩:∃x,X[r]? = some x:=⟨_,Qln xw⟩;have ex:=eX x (QlC hx);have hdrop:X.drop r=[x]++X.drop (r+1):=by
    rw[List.singleton_append,Ql7 xw];congr 1
    exact(Qlm.1 hx).2
   have htake:X.take (r+1)=X.take r++[x]:=by rw[Qng,hx]<;>rfl
   have hlt':(X.take r).length=r:=kE
   have g1:(P++X.take (r+1)++[y]++X.drop (r+1)++S)[P.length+r]? = some x:=by
    have:=Dn (P:=P) (W:=X.take r) (u:=x) (V:=[y]++X.drop (r+1)++S) (i:=P.length+r) (by rw[hlt']);rw[htake]
    exact y6
   have g2:(P++X.take (r+1)++[y]++X.drop (r+1)++S)[P.length+(r+1)]? = some y:=by
    have:=Dn (P:=P) (W:=X.take (r+1)) (u:=y) (V:=X.drop (r+1)++S) (i:=P.length+(r+1)) kE
    exact y6
   have g3:((P++X.take (r+1)++[y]++X.drop (r+1)++S).set (P.length+(r+1)) x)[P.length+r]? = some x:=by
    rw[Qnw xw,g1]
   have hset:((P++X.take (r+1)++[y]++X.drop (r+1)++S).set (P.length+(r+1)) x).set (P.length+r) y=P++X.take r++[y]++X.drop r++S:=by
    rw[hdrop,htake];simp[hlt']
   simp only[d0,e7,f0,f17,Y3 hlv (show P.length+(r+1)<N by omega),Y3 hlv (show P.length+r<N by omega),Y0 hlv g1 ex,Y0 hlv g2 ey,ex.len,ey.len,ex.leaf,ey.leaf,Dm hlv g2 ey ex hcz,Dm hlv g3 ex ey hcz,Qa,seval];exact⟨r-j,xw,_,r,by rw[hset]<;>rfl,rfl,xw,xw,xP,wM,xz⟩
  ·have d0:decide (((P.length+t:Nat):Int) > ((P.length+j:Nat):Int))=false:=x_
   have htj:t=j:=xw
   subst htj;have hfin:P++X.take t++[y]++X.drop t++S=P++mg (lt c) X [y]++S:=by rw[hres];simp
   simp only[d0,hfin,put_len,Qa,seval]

end Go.Proofs.YtmlohboeoeoamaaGreatDoor.Tz

namespace Go.Proofs.YtmlohboeoeoamaaGreatDoor.Tz
open Go Am Bt Tg So
variable {Pg:Program}{cz sr ro sm is st ss:Nat}(hC:Tg.Cs Pg cz sr ro sm is st ss)(hcz:cz≠0)

variable {E:AV→Prop}

include hC hcz in
theorem Qcb (cmp:AV){fr:Nat→Ob}{lv s g N a b n:Nat}(P X Y S:List AV){m:Qk}(hlv:lv<m.length)(hX:0<X.length)(hY:0<Y.length)(he:∀x∈P++X++Y++S,Ez E cz x)
  (hn:(P++X++Y++S).length<4611686018427387904) (hN:N=(P++X++Y++S).length) (ha:a=P.length) (hb:b=P.length+X.length) (hc:n=P.length+X.length+Y.length) :
  Qe Pg ro [.vec (lv+1) s g 0 N false,.int .i64 (a:Nat),.int .i64 (b:Nat),.int .i64 (n:Nat),cmp] (fr :: Am.put m lv s (.vec g cz (P++X++Y++S)))
   (fun x m1=>x=.tup []∧m1=fr :: Am.put m lv s (.vec g cz (P++Y++X++S))):=by
 have _:=hC;have _:=hcz;subst hN ha hb hc;refine(QiM hC hcz cmp (lv+1) s g P X Y S (fr :: Am.put m lv s (.vec g cz (P++X++Y++S))) (Qs (m:=m) hlv) hX hY he hn).mono fun x m1 h=>⟨h.1,?_⟩
 exact yS

def D2 (Pg:Program)(cz sm:Nat)(E:AV→Prop)(kc:Nat)(c:AV→AV→Int)(n:Nat):Prop :=
 ∀(lv s g:Nat) (P X Y S:List AV) (m:Qk),X.length+Y.length=n→0<X.length→0<Y.length→Am.Qc m lv s=.vec g cz (P++X++Y++S)→(∀x∈P++X++Y++S,Ez E cz x)→
  (P++X++Y++S).length<4611686018427387904→ZC (lt c) X→ZC (lt c) Y→
  Qe Pg sm [.vec lv s g 0 (P++X++Y++S).length false,.int .i64 (P.length:Nat),.int .i64 ((P.length+X.length:Nat):Int),.int .i64 ((P.length+X.length+Y.length:Nat):Int),.fn (.func kc) [] []] m
   (fun v m1=>v=.tup []∧m1=Am.put m lv s (.vec g cz (P++mg (lt c) X Y++S)))

include hC hcz in
theorem Gi {kc:Nat}{c:AV→AV→Int}{n:Nat}(h:D2 Pg cz sm E kc c n){fr:Nat→Ob}{lv s g N a b e:Nat}(P X Y S:List AV){m:Qk}(hlv:lv<m.length)(hXY:X.length+Y.length=n)(hX:0<X.length)(hY:0<Y.length)(he:∀x∈P++X++Y++S,Ez E cz x)
  (hn:(P++X++Y++S).length<4611686018427387904) (sX:ZC (lt c) X) (sY:ZC (lt c) Y) (hN:N=(P++X++Y++S).length) (ha:a=P.length) (hb:b=P.length+X.length) (hc:e=P.length+X.length+Y.length) :
  Qe Pg sm [.vec (lv+1) s g 0 N false,.int .i64 (a:Nat),.int .i64 (b:Nat),.int .i64 (e:Nat),.fn (.func kc) [] []] (fr :: Am.put m lv s (.vec g cz (P++X++Y++S)))
   (fun x m1=>x=.tup []∧m1=fr :: Am.put m lv s (.vec g cz (P++mg (lt c) X Y++S))):=by
 have _:=hC;have _:=hcz;subst hN ha hb hc;refine(h (lv+1) s g P X Y S (fr :: Am.put m lv s (.vec g cz (P++X++Y++S))) hXY hX hY (Qs (m:=m) hlv) he hn sX sY).mono fun x m1 h=>⟨h.1,?_⟩
 exact yS

def ScS (cz:Nat)(m:Qk)(lv s g N mid s0 r0:Nat)(kc:Nat)(c:AV→AV→Int)(P X Y S:List AV)(k:Nat)(st:St):Prop :=
 ∃f i j,st=⟨f,[Qb]++Am.put m lv s (.vec g cz (P++X++Y++S)),[]⟩∧k=j-i∧s0≤i∧i≤j∧j≤r0∧
  (∀k x y,s0≤k→k<i→X[k-P.length]? = some x→Y[mid-1-k]? = some y→lt c y x=false)∧(∀k x y,j≤k→k<r0→X[k-P.length]? = some x→Y[mid-1-k]? = some y→lt c y x=true)∧
  f 0=.vec (lv+1) s g 0 N false∧f 1=.int .i64 (P.length:Nat)∧f 2=.int .i64 ((P.length+X.length:Nat):Int)∧f 3=.int .i64 ((P.length+X.length+Y.length:Nat):Int)∧f 4=.fn (.func kc) [] []∧
  f 18=.int .i64 (mid:Nat)∧f 19=.int .i64 ((mid+(P.length+X.length):Nat):Int)∧f 22=.int .i64 ((mid+(P.length+X.length)-1:Nat):Int)∧f 20=.int .i64 (i:Nat)∧f 21=.int .i64 (j:Nat)

theorem I9 {c:AV→AV→Int}(hsw:SW (lt c)){X Y:List AV}{p mid t:Nat}{s0 r0:Nat}(sX:ZC (lt c) X)(sY:ZC (lt c) Y)(h1:s0≤t)(h2:t≤r0)(hp:p≤t)(htm:t≤mid)(hr:r0=mid∨r0=p+X.length)(hs:mid-s0≥Y.length∨s0=p)(hs2:mid-s0≤Y.length)(hr2:r0≤p+X.length)
  (hlow:∀k x y,s0≤k→k<t→X[k-p]? = some x→Y[mid-1-k]? = some y→lt c y x=false) (hhigh:∀k x y,t≤k→k<r0→X[k-p]? = some x→Y[mid-1-k]? = some y→lt c y x=true) :
  mg (lt c) X Y=mg (lt c) (X.take (t-p)) (Y.take (mid-t))++mg (lt c) (X.drop (t-p)) (Y.drop (mid-t)):=by
 have key:=UA (lt:=lt c) _ (X.take (t-p)) (Y.take (mid-t)) (X.drop (t-p)) (Y.drop (mid-t)) rfl ?_ ?_
 ·rwa [QmH,QmH]at key
 ·intro y hy x hx;obtain⟨k,hk⟩:=QnN hy;obtain⟨l,hl⟩:=QnN hx;rw[Ql3]at hk;split at hk
  ·rename_i hkt;rw[Ql4]at hl;have hlX:t-p+l<X.length:=(Qlm.1 hl).1;have hkY:k<Y.length:=(Qlm.1 hk).1;have htr:t<r0:=by rcases hr with h|h<;>omega
   by_cases hY2:mid-1-t<Y.length
   ·obtain⟨x0,hx0⟩:∃x,X[t-p]? = some x:=⟨_,Qln xw⟩;obtain⟨y0,hy0⟩:∃y,Y[mid-1-t]? = some y:=⟨_,Qln hY2⟩;have h0:=hhigh t x0 y0 (Qlk _) htr hx0 hy0;have h3:=Yt hsw sY (show k≤mid-1-t by omega) hk hy0 h0;have h4:=YJ sX hsw (show t-p≤t-p+l by omega) hx0 hl;cases hb:lt c y x with
    |true=>rfl
    |false=>
     have:=hsw.nt y x x0 hb h4;rw[h3]at this;cases this
   ·exfalso;omega
  ·cases hk
 ·intro x hx y hy;obtain⟨k,hk⟩:=QnN hy;obtain⟨l,hl⟩:=QnN hx;rw[Ql3]at hl;split at hl
  ·rename_i hlt;rw[Ql4]at hk;have hkY:mid-t+k<Y.length:=(Qlm.1 hk).1;have hlX:l<X.length:=(Qlm.1 hl).1;have hst:s0<t:=by rcases hs with h|h<;>omega
   by_cases hX2:t-1-p<X.length
   ·obtain⟨x0,hx0⟩:∃x,X[t-1-p]? = some x:=⟨_,Qln hX2⟩;obtain⟨y0,hy0⟩:∃y,Y[mid-1-(t-1)]? = some y:=⟨_,Qln xw⟩;have h0:=hlow (t-1) x0 y0 xw xw hx0 hy0;have h3:=YJ sX hsw (show l≤t-1-p by omega) hl hx0;have h4:lt c y x0=false:=by
     cases hb:lt c y x0 with
     |false=>rfl
     |true=>
      have:=Yt hsw sY (show mid-1-(t-1)≤mid-t+k by omega) hy0 hk hb;rw[h0]at this;cases this
    exact hsw.nt y x0 x h4 h3
   ·exfalso;omega
  ·cases hl

section
variable {kc:Nat}{c:AV→AV→Int}{nn lv s g N:Nat}{P X1 X2 Y1 Y2 S:List AV}{m:Qk}{f:Fr}

include hC hcz in
theorem QfA (ih:∀n,n<nn→D2 Pg cz sm E kc c n)(hnn:X2.length+Y2.length<nn)(hlv:lv<m.length)(he:∀x∈P++X2++Y2++S,Ez E cz x)(hN:N=(P++X2++Y2++S).length)(hn:N<4611686018427387904)
  (sX:ZC (lt c) X2) (sY:ZC (lt c) Y2) (f0:f 0=.vec (lv+1) s g 0 N false) (f3:f 3=.int .i64 ((P.length+X2.length+Y2.length:Nat):Int)) (f4:f 4=.fn (.func kc) [] []) (f18:f 18=.int .i64 (P.length:Nat)) (f24:f 24=.int .i64 ((P.length+X2.length:Nat):Int)) :
  QU Pg (.seq (.reg (W6 cz sr ro sm is st)) (.cond (.t 213) (.reg (W7 cz sr ro sm is st)) (.skip))) ⟨f,Qb :: Am.put m lv s (.vec g cz (P++X2++Y2++S)),[]⟩
   (ZI Np m.length (fun v m1=>v=.tup []∧m1=Am.put m lv s (.vec g cz (P++mg (lt c) X2 Y2++S)))):=by
 have _:=hC;have _:=hcz;simp only[W6,W7,Np,f18,f24,Qa,seval];by_cases h1:0<X2.length
 ·have d1:decide ((P.length:Int)<((P.length+X2.length:Nat):Int))=true:=xY
  by_cases h2:0<Y2.length
  ·have d2:decide (((P.length+X2.length:Nat):Int)<((P.length+X2.length+Y2.length:Nat):Int))=true:=xY
   simp only[d1,d2,f0,f3,f4,f18,f24,Qa,seval];refine Qj (Gi hC hcz (ih _ hnn) P X2 Y2 S hlv rfl h1 h2 he xw sX sY hN rfl rfl rfl) rfl ?_;simp only[put_len,Qa,seval]
  ·have d2:decide (((P.length+X2.length:Nat):Int)<((P.length+X2.length+Y2.length:Nat):Int))=false:=x_
   have hy:Y2=[]:=Qmu xw;have hfin:P++X2++Y2++S=P++mg (lt c) X2 Y2++S:=by rw[hy,KX];simp
   simp only[d1,d2,f3,f24,hfin,put_len,Qa,seval]
 ·have d1:decide ((P.length:Int)<((P.length+X2.length:Nat):Int))=false:=x_
  have hx:X2=[]:=Qmu xw;have hfin:P++X2++Y2++S=P++mg (lt c) X2 Y2++S:=by rw[hx,Km];simp
  simp only[d1,hfin,put_len,Qa,seval]

include hC hcz in
theorem QfB (ih:∀n,n<nn→D2 Pg cz sm E kc c n)(hn1:X1.length+Y1.length<nn)(hn2:X2.length+Y2.length<nn)(hlv:lv<m.length)(he:∀x∈P++X1++Y1++(X2++Y2++S),Ez E cz x)(hN:N=(P++X1++Y1++(X2++Y2++S)).length)(hn:N<4611686018427387904)
  (sX1:ZC (lt c) X1) (sY1:ZC (lt c) Y1) (sX:ZC (lt c) X2) (sY:ZC (lt c) Y2) (f0:f 0=.vec (lv+1) s g 0 N false) (f1:f 1=.int .i64 (P.length:Nat)) (f3:f 3=.int .i64 ((P.length+X1.length+Y1.length+X2.length+Y2.length:Nat):Int)) (f4:f 4=.fn (.func kc) [] []) (f18:f 18=.int .i64 ((P.length+X1.length+Y1.length:Nat):Int)) (f20:f 20=.int .i64 ((P.length+X1.length:Nat):Int)) (f24:f 24=.int .i64 ((P.length+X1.length+Y1.length+X2.length:Nat):Int)) :
  QU Pg (.seq (.seq (.reg (UE cz sr ro sm is st)) (.cond (.t 199) (.reg (UF cz sr ro sm is st)) (.skip))) (.seq (.reg (W6 cz sr ro sm is st)) (.cond (.t 213) (.reg (W7 cz sr ro sm is st)) (.skip)))) ⟨f,Qb :: Am.put m lv s (.vec g cz (P++X1++Y1++(X2++Y2++S))),[]⟩
   (ZI Np m.length (fun v m1=>v=.tup []∧m1=Am.put m lv s (.vec g cz (P++(mg (lt c) X1 Y1++mg (lt c) X2 Y2)++S)))):=by
 have _:=hC;have _:=hcz;have hlm:(mg (lt c) X1 Y1).length=X1.length+Y1.length:=QdZ _ _ _ rfl;have hlen:N=P.length+X1.length+Y1.length+X2.length+Y2.length+S.length:=by rw[hN];simp only[Ql2];omega
 have hem:∀x∈P++mg (lt c) X1 Y1++X2++Y2++S,Ez E cz x:=by
  intro x hx;refine he x ?_;simp only[QmJ]at hx ⊢;rcases hx with(((hx|hx)|hx)|hx)|hx
  ·exact .inl (.inl (.inl hx))
  ·exact(Qd0 _ _ _ rfl hx).elim (fun h=>.inl (.inl (.inr h))) (fun h=>.inl (.inr h))
  ·exact .inr (.inl (.inl hx))
  ·exact .inr (.inl (.inr hx))
  ·exact .inr (.inr hx)
 have go:∀f:Fr,f 0=.vec (lv+1) s g 0 N false→f 3=.int .i64 ((P.length+X1.length+Y1.length+X2.length+Y2.length:Nat):Int)→f 4=.fn (.func kc) [] []→f 18=.int .i64 ((P.length+X1.length+Y1.length:Nat):Int)→f 24=.int .i64 ((P.length+X1.length+Y1.length+X2.length:Nat):Int)→
   QU Pg (.seq (.reg (W6 cz sr ro sm is st)) (.cond (.t 213) (.reg (W7 cz sr ro sm is st)) (.skip))) ⟨f,Qb :: Am.put m lv s (.vec g cz (P++mg (lt c) X1 Y1++(X2++Y2++S))),[]⟩
   (ZI Np m.length (fun v m1=>v=.tup []∧m1=Am.put m lv s (.vec g cz (P++(mg (lt c) X1 Y1++mg (lt c) X2 Y2)++S)))):=by
  intro f f0 f3 f4 f18 f24;have hpl:(P++mg (lt c) X1 Y1).length=P.length+X1.length+Y1.length:=by rw[Ql2,hlm];omega
  have:=QfA hC hcz (P:=P++mg (lt c) X1 Y1) (X2:=X2) (Y2:=Y2) (S:=S) (m:=m) (f:=f) (g:=g) (s:=s) ih hn2 hlv hem (by rw[hlen];simp only[Ql2,hlm];omega) hn sX sY f0 (by rw[hpl];exact f3) f4 (by rw[hpl];exact f18) (by rw[hpl];exact f24);rw[show P++mg (lt c) X1 Y1++(X2++Y2++S)=P++mg (lt c) X1 Y1++X2++Y2++S by simp only[QlJ],show P++(mg (lt c) X1 Y1++mg (lt c) X2 Y2)++S=P++mg (lt c) X1 Y1++mg (lt c) X2 Y2++S by simp only[QlJ]];exact this
 rw[HT,HT];simp only[UE,UF,f1,f20,HS,WU,JS,WT,WV,Fq,GS,Qx,Xc,Xu,cond_true,cond_false,Qmf,seval,KS];by_cases h1:0<X1.length
 ·have d1:decide ((P.length:Int)<((P.length+X1.length:Nat):Int))=true:=xY
  by_cases h2:0<Y1.length
  ·have d2:decide (((P.length+X1.length:Nat):Int)<((P.length+X1.length+Y1.length:Nat):Int))=true:=xY
   simp only[d1,d2,f0,f1,f4,f18,f20,HS,JR,WS,WU,JS,WT,WV,Fq,Yo,GS,VB,YF,HU,Qx,Xc,Xu,cond_true,cond_false,Qmf,seval,KS];refine Qj (Gi hC hcz (ih _ hn1) P X1 Y1 (X2++Y2++S) hlv rfl h1 h2 he xw sX1 sY1 hN rfl rfl rfl) rfl ?_;rw[WS,JR];exact oT
  ·have d2:decide (((P.length+X1.length:Nat):Int)<((P.length+X1.length+Y1.length:Nat):Int))=false:=x_
   have hy:Y1=[]:=Qmu xw;have hres:mg (lt c) X1 Y1=X1++Y1:=by rw[hy,KX,Qms]
   rw[hres,←QlJ P X1 Y1]at go;simp only[d1,d2,hres,f18,f20,JR,WS,WU,JS,WT,WV,Fq,Yo,GS,VB,YF,Yn,Hq,Qx,Xc,Xu,cond_true,cond_false,Qmf,seval,KS];exact oT
 ·have d1:decide ((P.length:Int)<((P.length+X1.length:Nat):Int))=false:=x_
  have hx:X1=[]:=Qmu xw;have hres:mg (lt c) X1 Y1=X1++Y1:=by rw[hx,Km,QlL]
  rw[hres,←QlJ P X1 Y1]at go;simp only[d1,hres,JR,WS,WU,JS,WT,WV,Fq,UU,GS,VB,YF,Yn,Hq,Qx,cond_true,cond_false,Qmf,seval,KS];exact oT

include hC hcz in
theorem QfC (ih:∀n,n<nn→D2 Pg cz sm E kc c n)(hn1:X1.length+Y1.length<nn)(hn2:X2.length+Y2.length<nn)(hlv:lv<m.length)(he:∀x∈P++X1++X2++Y1++(Y2++S),Ez E cz x)(hN:N=(P++X1++X2++Y1++(Y2++S)).length)(hn:N<4611686018427387904)
  (sX1:ZC (lt c) X1) (sY1:ZC (lt c) Y1) (sX:ZC (lt c) X2) (sY:ZC (lt c) Y2) (f0:f 0=.vec (lv+1) s g 0 N false) (f1:f 1=.int .i64 (P.length:Nat)) (f2:f 2=.int .i64 ((P.length+X1.length+X2.length:Nat):Int)) (f3:f 3=.int .i64 ((P.length+X1.length+Y1.length+X2.length+Y2.length:Nat):Int)) (f4:f 4=.fn (.func kc) [] []) (f18:f 18=.int .i64 ((P.length+X1.length+Y1.length:Nat):Int)) (f19:f 19=.int .i64 ((P.length+X1.length+Y1.length+(P.length+X1.length+X2.length):Nat):Int)) (f20:f 20=.int .i64 ((P.length+X1.length:Nat):Int)) :
  QU Pg (.seq (.reg (Hz cz sr ro sm is st)) (.seq (.seq (.reg (HA cz sr ro sm is st)) (.cond (.t 185) (.reg (HB cz sr ro sm is st)) (.skip))) (.seq (.seq (.reg (UE cz sr ro sm is st)) (.cond (.t 199) (.reg (UF cz sr ro sm is st)) (.skip))) (.seq (.reg (W6 cz sr ro sm is st)) (.cond (.t 213) (.reg (W7 cz sr ro sm is st)) (.skip)))))) ⟨f,Qb :: Am.put m lv s (.vec g cz (P++X1++X2++Y1++(Y2++S))),[]⟩
   (ZI Np m.length (fun v m1=>v=.tup []∧m1=Am.put m lv s (.vec g cz (P++(mg (lt c) X1 Y1++mg (lt c) X2 Y2)++S)))):=by
 have _:=hC;have _:=hcz;have hlen:N=P.length+X1.length+Y1.length+X2.length+Y2.length+S.length:=by rw[hN];simp only[Ql2];omega
 have hem:∀x∈P++X1++Y1++(X2++Y2++S),Ez E cz x:=by
  intro x hx;refine he x ?_;simp only[QmJ]at hx ⊢;rcases hx with((hx|hx)|hx)|((hx|hx)|hx)
  ·exact .inl (.inl (.inl (.inl hx)))
  ·exact .inl (.inl (.inl (.inr hx)))
  ·exact .inl (.inr hx)
  ·exact .inl (.inl (.inr hx))
  ·exact .inr (.inl hx)
  ·exact .inr (.inr hx)
 have go:∀f:Fr,f 0=.vec (lv+1) s g 0 N false→f 1=.int .i64 (P.length:Nat)→f 3=.int .i64 ((P.length+X1.length+Y1.length+X2.length+Y2.length:Nat):Int)→f 4=.fn (.func kc) [] []→f 18=.int .i64 ((P.length+X1.length+Y1.length:Nat):Int)→f 20=.int .i64 ((P.length+X1.length:Nat):Int)→f 24=.int .i64 ((P.length+X1.length+Y1.length+X2.length:Nat):Int)→_ :=
  fun f f0 f1 f3 f4 f18 f20 f24=>QfB hC hcz (P:=P) (X1:=X1) (Y1:=Y1) (X2:=X2) (Y2:=Y2) (S:=S) (m:=m) (f:=f) (g:=g) (s:=s) ih hn1 hn2 hlv hem (by rw[hlen];simp only[Ql2];omega) hn sX1 sY1 sX sY f0 f1 f3 f4 f18 f20 f24
 have e1:IntKind.i64.wrap (((P.length+X1.length+Y1.length+(P.length+X1.length+X2.length):Nat):Int)-((P.length+X1.length:Nat):Int))=((P.length+X1.length+Y1.length+X2.length:Nat):Int):=xE
 rw[HT];simp only[Hz,e1,f19,f20,HS,JR,WS,WU,JS,WT,WV,GS,Qx,Xc,Xu,cond_true,cond_false,Qmf,seval,KS];rw[HT,HT];simp only[HA,f2,f20,HS,WU,JS,WT,WV,Fq,GS,Qx,Xc,Xu,cond_true,cond_false,Qmf,seval,KS];by_cases h1:0<X2.length
 ·have d1:decide (((P.length+X1.length:Nat):Int)<((P.length+X1.length+X2.length:Nat):Int))=true:=xY
  by_cases h2:0<Y1.length
  ·have d2:decide (((P.length+X1.length+X2.length:Nat):Int)<((P.length+X1.length+Y1.length+X2.length:Nat):Int))=true:=xY
   simp only[HB,d1,d2,f0,f2,f4,f20,HS,JR,WS,WU,JS,WT,WV,Fq,Yo,GS,VB,YF,HU,Qx,Xc,Xu,cond_true,cond_false,Qmf,seval,KS];refine Qj (Qcb hC hcz (.fn (.func kc) [] []) (P++X1) X2 Y1 (Y2++S) (n:=P.length+X1.length+Y1.length+X2.length) hlv h1 h2 he xw hN (by rw[Ql2]) (by rw[Ql2]) (by rw[Ql2];omega)) rfl ?_;rw[WS,JR];rw[show P++X1++Y1++X2++(Y2++S)=P++X1++Y1++(X2++Y2++S)by simp only[QlJ]];exact oJ
  ·have d2:decide (((P.length+X1.length+X2.length:Nat):Int)<((P.length+X1.length+Y1.length+X2.length:Nat):Int))=false:=x_
   have hy:Y1=[]:=Qmu xw;have hrow:P++X1++X2++Y1++(Y2++S)=P++X1++Y1++(X2++Y2++S):=by rw[hy];simp
   simp only[d1,d2,hrow,f2,JR,WS,WU,JS,WT,WV,Fq,Yo,GS,VB,YF,Yn,Hq,Qx,Xc,Xu,cond_true,cond_false,Qmf,seval,KS];exact oJ
 ·have d1:decide (((P.length+X1.length:Nat):Int)<((P.length+X1.length+X2.length:Nat):Int))=false:=x_
  have hx:X2=[]:=Qmu xw;have hrow:P++X1++X2++Y1++(Y2++S)=P++X1++Y1++(X2++Y2++S):=kg
  simp only[d1,hrow,JR,WS,WU,JS,WT,WV,Fq,UU,GS,VB,YF,Yn,Hq,Qx,cond_true,cond_false,Qmf,seval,KS];exact oJ

end

set_option maxHeartbeats 1000000 in
include hC hcz in
theorem QiQ {kc:Nat}{c:AV→AV→Int}(hc:Cp Pg cz E kc c)(nn:Nat)(ih:∀n,n<nn→D2 Pg cz sm E kc c n)(lv s g:Nat)(P X Y S:List AV)(m:Qk)(hXY:X.length+Y.length=nn)(hX1:1<X.length)(hY1:1<Y.length)(hl:Am.Qc m lv s=.vec g cz (P++X++Y++S))(he:∀x∈P++X++Y++S,Ez E cz x)
  (hn:(P++X++Y++S).length<4611686018427387904) (sX:ZC (lt c) X) (sY:ZC (lt c) Y) :
  Qe Pg sm [.vec lv s g 0 (P++X++Y++S).length false,.int .i64 (P.length:Nat),.int .i64 ((P.length+X.length:Nat):Int),.int .i64 ((P.length+X.length+Y.length:Nat):Int),.fn (.func kc) [] []] m
   (fun v m1=>v=.tup []∧m1=Am.put m lv s (.vec g cz (P++mg (lt c) X Y++S))):=by
 have _:=hC;have _:=hcz;have hlv:lv<m.length:=Xm qi;have hlen:(P++X++Y++S).length=P.length+X.length+Y.length+S.length:=wC
 refine hC.csm.go xA ?_;have e1:(IntKind.i64.wrap (((P.length+X.length:Nat):Int)-(P.length:Int))==1)=false:=qy
 have e2:(IntKind.i64.wrap (((P.length+X.length+Y.length:Nat):Int)-((P.length+X.length:Nat):Int))==1)=false:=qy
 have e3:IntKind.i64.wrap ((P.length:Int)+((P.length+X.length+Y.length:Nat):Int))=((P.length+(P.length+X.length+Y.length):Nat):Int):=xE
 have e4:=Th P.length (P.length+X.length+Y.length) xw;generalize hmid:(P.length+(P.length+X.length+Y.length)) / 2=mid at *;have e5:IntKind.i64.wrap ((mid:Int)+((P.length+X.length:Nat):Int))=((mid+(P.length+X.length):Nat):Int):=xE
 have e6:IntKind.i64.wrap (((mid+(P.length+X.length):Nat):Int)-((P.length+X.length+Y.length:Nat):Int))=((mid+(P.length+X.length)-(P.length+X.length+Y.length):Nat):Int)∨mid<Y.length:=by
  by_cases h:mid<Y.length
  ·exact .inr h
  ·refine .inl ?_;rw[QA];omega
 have e7:IntKind.i64.wrap (((mid+(P.length+X.length):Nat):Int)-1)=((mid+(P.length+X.length)-1:Nat):Int):=xE
 simp only[rsm,Ce,B8,B9,Na,Nb,Nc,Nd,Nf,Ng,Nh,Ni,e1,e2,e3,e4,e5,Qa,seval];have h0:m=Am.put m lv s (.vec g cz (P++X++Y++S)):=(put_self hl).symm;generalize hN:(P++X++Y++S).length=N at *
 -- the search, from whatever bounds
 have main:∀(Q:Exit→St→Prop) (f:Fr) (s0 r0:Nat),s0≤r0→r0≤mid→(r0=mid∨r0=P.length+X.length)→(mid-s0≥Y.length∨s0=P.length)→mid-s0≤Y.length→r0≤P.length+X.length→P.length≤s0→
   f 0=.vec (lv+1) s g 0 N false→f 1=.int .i64 (P.length:Nat)→f 2=.int .i64 ((P.length+X.length:Nat):Int)→f 3=.int .i64 ((P.length+X.length+Y.length:Nat):Int)→f 4=.fn (.func kc) [] []→
   f 18=.int .i64 (mid:Nat)→f 19=.int .i64 ((mid+(P.length+X.length):Nat):Int)→f 22=.int .i64 ((mid+(P.length+X.length)-1:Nat):Int)→f 20=.int .i64 (s0:Nat)→f 21=.int .i64 (r0:Nat)→
   (∀(f:Fr) (t:Nat),s0≤t→t≤r0→mg (lt c) X Y=mg (lt c) (X.take (t-P.length)) (Y.take (mid-t))++mg (lt c) (X.drop (t-P.length)) (Y.drop (mid-t))→
    f 0=.vec (lv+1) s g 0 N false→f 1=.int .i64 (P.length:Nat)→f 2=.int .i64 ((P.length+X.length:Nat):Int)→f 3=.int .i64 ((P.length+X.length+Y.length:Nat):Int)→f 4=.fn (.func kc) [] []→
    f 18=.int .i64 (mid:Nat)→f 19=.int .i64 ((mid+(P.length+X.length):Nat):Int)→f 20=.int .i64 (t:Nat)→Q (.exit 8) ⟨f,Qb :: Am.put m lv s (.vec g cz (P++X++Y++S)),[]⟩)→
   QU Pg (.loop (No cz sr ro sm is st)) ⟨f,Qb :: m,[]⟩ Q:=by
  intro Q f s0 r0 hsr hrm hr hs hs2 hr2 hps f0 f1 f2 f3 f4 f18 f19 f22 f20 f21 hQ;refine Qi (ScS cz m lv s g N mid s0 r0 kc c P X Y S) _ ⟨_,s0,r0,q_,rfl,Qlk _,hsr,Qlk _,(by intro k x y h1 h2;omega),(by intro k x y h1 h2;omega),f0,f1,f2,f3,f4,f18,f19,f22,f20,f21⟩ ?_;clear f0 f1 f2 f3 f4 f18 f19 f22 f20 f21 f;rintro k st ⟨f,i,j,rfl,rfl,hsi,hij,hj,hp,hq,f0,f1,f2,f3,f4,f18,f19,f22,f20,f21⟩;simp only[No,Nj,Nk,Nl,Nm,Nn,f20,f21,Qa,seval];by_cases hlt:i<j
  ·have d0:decide ((i:Int)<(j:Int))=true:=xY
   have e8:IntKind.i64.wrap ((i:Int)+(j:Int))=((i+j:Nat):Int):=xE
   have e9:=Th i j xw;generalize hh:(i+j) / 2=h at *;have hh1:h<j:=xw
   have hh2:i≤h:=xw
   have ea:IntKind.i64.wrap ((h:Int)+1)=((h+1:Nat):Int):=xE
   have eb:IntKind.i64.wrap (((mid+(P.length+X.length)-1:Nat):Int)-(h:Int))=((P.length+X.length+(mid-1-h):Nat):Int):=xE
   obtain⟨x,hx⟩:∃x,X[h-P.length]? = some x:=⟨_,Qln xw⟩;obtain⟨y,hy⟩:∃y,Y[mid-1-h]? = some y:=⟨_,Qln xw⟩;have ex:Ez E cz x:=he x (by simp[QlC hx]);have ey:Ez E cz y:=he y (by simp[QlC hy]);have gx:(P++X++Y++S)[h]? = some x:=by
    rw[QlJ,QlJ,QmR xw,QmQ xw,hx]
   have gy:(P++X++Y++S)[P.length+X.length+(mid-1-h)]? = some y:=by
    rw[QlJ,QmR (by rw[Ql2];omega),QmQ (by rw[Ql2];omega),←hy];congr 1;rw[Ql2];omega
   simp only[d0,e8,e9,eb,f0,f4,f20,f21,f22,Y3 hlv (show P.length+X.length+(mid-1-h)<N by omega),Y3 hlv (show h<N by omega),Y0 hlv gy ey,Y0 hlv gx ex,Qa,seval];refine Ua xz (hc.call y x ey ex) (U7 ey ex _) (YK ey ex) rfl (.inl (YK ey ex)) ?_;cases hcx:decide (c y x<0)with
   |true=>
    simp only[hcx,Qa,seval];have hq':∀k x' y',h≤k→k<r0→X[k-P.length]? = some x'→Y[mid-1-k]? = some y'→lt c y' x'=true:=by
     intro k x' y' hk hk2 hx' hy';have h3:=Yt hc.sw sY (show mid-1-k≤mid-1-h by omega) hy' hy hcx;have h4:=YJ sX hc.sw (show h-P.length≤k-P.length by omega) hx hx';cases hb:lt c y' x' with
     |true=>rfl
     |false=>
      have:=hc.sw.nt y' x' x hb h4;rw[h3]at this;cases this
    exact⟨h-i,xw,_,i,h,rfl,rfl,hsi,xw,xw,hp,hq',xP,j6,j3,kw,k8,by simp only[f18,Qa,seval],by simp only[f19,Qa,seval],by simp only[f22,Qa,seval],by simp only[f20,Qa,seval],xz⟩
   |false=>
    simp only[hcx,ea,Qa,seval];exact⟨j-(h+1),xw,_,h+1,j,rfl,rfl,xw,xw,hj,fun k x' y' hk hk2 hx' hy'=>by
     have h3:=YJ sX hc.sw (show k-P.length≤h-P.length by omega) hx' hx;have h4:lt c y' x=false:=by
      cases hb:lt c y' x with
      |false=>rfl
      |true=>exact absurd (Yt hc.sw sY (show mid-1-h≤mid-1-k by omega) hy hy' hb) (by show ¬(decide _=true);rw[hcx];simp)
     exact hc.sw.nt y' x x' h4 h3,hq,xP,j6,j3,kw,k8,by simp only[f18,Qa,seval],by simp only[f19,Qa,seval],by simp only[f22,Qa,seval],xz,by simp only[f21,Qa,seval]⟩
  ·have d0:decide ((i:Int)<(j:Int))=false:=x_
   have hij':j=i:=xw
   subst hij';simp only[d0,Qa,seval];refine hQ _ j xw xw (I9 hc.sw sX sY hsi hj xw xw hr hs hs2 hr2 hp hq) ?_ ?_ ?_ ?_ ?_ ?_ ?_ ?_
   ·simp only[f0,Qa,seval]
   ·simp only[f1,Qa,seval]
   ·simp only[f2,Qa,seval]
   ·simp only[f3,Qa,seval]
   ·simp only[f4,Qa,seval]
   ·simp only[f18,Qa,seval]
   ·simp only[f19,Qa,seval]
   ·simp only[f20,Qa,seval]
 have hb1:mid≤P.length+X.length+Y.length:=xw
 have fin:∀(f:Fr) (t:Nat),P.length≤t→t≤mid→t≤P.length+X.length→mid-t≤Y.length→mg (lt c) X Y=mg (lt c) (X.take (t-P.length)) (Y.take (mid-t))++mg (lt c) (X.drop (t-P.length)) (Y.drop (mid-t))→
    f 0=.vec (lv+1) s g 0 N false→f 1=.int .i64 (P.length:Nat)→f 2=.int .i64 ((P.length+X.length:Nat):Int)→f 3=.int .i64 ((P.length+X.length+Y.length:Nat):Int)→f 4=.fn (.func kc) [] []→
    f 18=.int .i64 (mid:Nat)→f 19=.int .i64 ((mid+(P.length+X.length):Nat):Int)→f 20=.int .i64 (t:Nat)→
   QU Pg (.seq (.reg (Hz cz sr ro sm is st)) (.seq (.seq (.reg (HA cz sr ro sm is st)) (.cond (.t 185) (.reg (HB cz sr ro sm is st)) (.skip))) (.seq (.seq (.reg (UE cz sr ro sm is st)) (.cond (.t 199) (.reg (UF cz sr ro sm is st)) (.skip))) (.seq (.reg (W6 cz sr ro sm is st)) (.cond (.t 213) (.reg (W7 cz sr ro sm is st)) (.skip)))))) ⟨f,Qb :: Am.put m lv s (.vec g cz (P++X++Y++S)),[]⟩
   (ZI Np m.length (fun v m1=>v=.tup []∧m1=Am.put m lv s (.vec g cz (P++mg (lt c) X Y++S)))):=by
  intro f t h1 h2 h3 h4 hmg f0 f1 f2 f3 f4 f18 f19 f20;have l1:(X.take (t-P.length)).length=t-P.length:=kE
  have l2:(X.drop (t-P.length)).length=P.length+X.length-t:=qE
  have l3:(Y.take (mid-t)).length=mid-t:=kE
  have l4:(Y.drop (mid-t)).length=Y.length-(mid-t):=by rw[Ql5]
  have hrow:P++X.take (t-P.length)++X.drop (t-P.length)++Y.take (mid-t)++(Y.drop (mid-t)++S)=P++X++Y++S:=by
   rw[QlJ P,QmH,←QlJ _ _ S,QlJ (P++X),QmH]
  have:=QfC hC hcz (kc:=kc) (c:=c) (nn:=nn) (lv:=lv) (s:=s) (g:=g) (N:=N) (P:=P) (X1:=X.take (t-P.length)) (X2:=X.drop (t-P.length)) (Y1:=Y.take (mid-t)) (Y2:=Y.drop (mid-t)) (S:=S) (m:=m) (f:=f) ih
   (by rw[l1,l3];omega) (by rw[l2,l4];omega) hlv (by rw[hrow];exact he) (by rw[hrow,hN]) hn
   (List.Pairwise.sublist (List.take_sublist _ _) sX) (List.Pairwise.sublist (List.take_sublist _ _) sY) (List.Pairwise.sublist (List.drop_sublist _ _) sX) (List.Pairwise.sublist (List.drop_sublist _ _) sY)
   f0 f1 (by rw[f2,l1,l2];congr 2;omega) (by rw[f3,l1,l2,l3,l4];congr 2;omega) f4 (by rw[f18,l1,l3];congr 2;omega) (by rw[f19,l1,l2,l3];congr 2;omega) (by rw[f20,l1];congr 2;omega)
  rw[hrow,←hmg]at this;exact this
 by_cases hgt:mid<P.length+X.length
 ·have d0:decide (((P.length+X.length:Nat):Int) > (mid:Int))=true:=xY
  have hmy:Y.length≤mid:=xw
  have e6':=e6.resolve_right xw;simp only[d0,e6',e7,Qa,seval];refine main _ _ (mid+(P.length+X.length)-(P.length+X.length+Y.length)) mid xw xw (.inl rfl) (.inl xw) xw xw xw ?_ ?_ ?_ ?_ ?_ ?_ ?_ ?_ ?_ ?_ ?_
  case refine_11=>
   exact zH
  all_goals simp only[Qa,seval]
 ·have d0:decide (((P.length+X.length:Nat):Int) > (mid:Int))=false:=x_
  simp only[d0,e7,Qa,seval];refine main _ _ P.length (P.length+X.length) xw xw (.inr rfl) (.inr rfl) xw xw xw ?_ ?_ ?_ ?_ ?_ ?_ ?_ ?_ ?_ ?_ ?_
  case refine_11=>
   exact zH
  all_goals simp only[Qa,seval]

include hC hcz in
theorem sym {kc:Nat}{c:AV→AV→Int}(hc:Cp Pg cz E kc c):∀n,D2 Pg cz sm E kc c n:=by
 have _:=hC;have _:=hcz;intro n
 induction n using Nat.strongRecOn with
 |_ n ih=>
 intro lv s g P X Y S m hXY hX hY hl he hn sX sY;by_cases h1:X.length=1
 ·obtain⟨x,rfl⟩:=List.length_eq_one_iff.1 h1;exact QiO hC hcz hc lv s g P x Y S m hl he hn sY
 ·by_cases h2:Y.length=1
  ·obtain⟨y,rfl⟩:=List.length_eq_one_iff.1 h2;exact QiP hC hcz hc lv s g P X y S m hl he hn sX h1
  ·exact QiQ hC hcz hc n ih lv s g P X Y S m hXY xw xw hl he hn sX sY

end Go.Proofs.YtmlohboeoeoamaaGreatDoor.Tz

namespace Go.Proofs.YtmlohboeoeoamaaGreatDoor.Tz
open Go Am Bt Tg So
variable {Pg:Program}{cz sr ro sm is st ss:Nat}(hC:Tg.Cs Pg cz sr ro sm is st ss)(hcz:cz≠0)

variable {E:AV→Prop}

include hC hcz in
theorem RG {kc:Nat}{c:AV→AV→Int}(hc:Cp Pg cz E kc c){fr:Nat→Ob}{lv s g N a b:Nat}(P X S:List AV){m:Qk}(hlv:lv<m.length)(he:∀x∈P++X++S,Ez E cz x)
  (hn:(P++X++S).length<4611686018427387904) (hN:N=(P++X++S).length) (ha:a=P.length) (hb:b=P.length+X.length) :
  Qe Pg is [.vec (lv+1) s g 0 N false,.int .i64 (a:Nat),.int .i64 (b:Nat),.fn (.func kc) [] []] (fr :: Am.put m lv s (.vec g cz (P++X++S)))
   (fun x m1=>x=.tup []∧m1=fr :: Am.put m lv s (.vec g cz (P++QG (lt c) X++S))):=by
 have _:=hC;have _:=hcz;subst hN ha hb;refine(QiN hC hcz hc (lv+1) s g P X S (fr :: Am.put m lv s (.vec g cz (P++X++S))) (Qs (m:=m) hlv) he hn).mono fun x m1 h=>⟨h.1,?_⟩
 exact yS

def St1 (cz:Nat)(m:Qk)(lv s g:Nat)(kc:Nat)(c:AV→AV→Int)(xs:List AV)(k:Nat)(st:St):Prop :=
 ∃f i,st=⟨f,[Qb]++Am.put m lv s (.vec g cz (XA (lt c) 20 i xs++xs.drop (20*i))),[]⟩∧k=xs.length-20*i∧20*i≤xs.length∧
  f 0=.vec (lv+1) s g 0 xs.length false∧f 1=.int .i64 (xs.length:Nat)∧f 2=.fn (.func kc) [] []∧f 6=.int .i64 20∧f 7=.int .i64 ((20*i:Nat):Int)∧f 8=.int .i64 ((20*(i+1):Nat):Int)

def St2 (cz:Nat)(m:Qk)(lv s g:Nat)(kc:Nat)(c:AV→AV→Int)(xs:List AV)(k:Nat)(st:St):Prop :=
 ∃f b n,st=⟨f,[Qb]++Am.put m lv s (.vec g cz (XA (lt c) b n xs)),[]⟩∧k=xs.length-b∧0<b∧b<2305843009213693952∧xs.length≤b*n∧
  f 0=.vec (lv+1) s g 0 xs.length false∧f 1=.int .i64 (xs.length:Nat)∧f 2=.fn (.func kc) [] []∧f 6=.int .i64 (b:Nat)

def St3 (cz:Nat)(m:Qk)(lv s g:Nat)(kc:Nat)(c:AV→AV→Int)(xs:List AV)(b:Nat)(k:Nat)(st:St):Prop :=
 ∃f i n,st=⟨f,[Qb]++Am.put m lv s (.vec g cz (XA (lt c) (2*b) i xs++XA (lt c) b n (xs.drop (2*b*i)))),[]⟩∧k=xs.length-2*b*i∧2*b*i≤xs.length∧xs.length-2*b*i≤b*n∧
  f 0=.vec (lv+1) s g 0 xs.length false∧f 1=.int .i64 (xs.length:Nat)∧f 2=.fn (.func kc) [] []∧f 6=.int .i64 (b:Nat)∧f 7=.int .i64 ((2*b*i:Nat):Int)∧f 8=.int .i64 ((2*b*(i+1):Nat):Int)

set_option maxHeartbeats 1000000 in
include hC hcz in
theorem QiR {kc:Nat}{c:AV→AV→Int}(hc:Cp Pg cz E kc c)(lv s g:Nat)(xs:List AV)(m:Qk)(hl:Am.Qc m lv s=.vec g cz xs)(he:∀x∈xs,Ez E cz x)
  (hn:xs.length<1152921504606846976) :
  Qe Pg st [.vec lv s g 0 xs.length false,.int .i64 (xs.length:Nat),.fn (.func kc) [] []] m
   (fun x m1=>x=.tup []∧m1=Am.put m lv s (.vec g cz (QG (lt c) xs))):=by
 have _:=hC;have _:=hcz;have hlv:lv<m.length:=Xm qi;refine hC.cst.go xA ?_;have h0:m=Am.put m lv s (.vec g cz xs):=(put_self hl).symm;simp only[rst,QaL,QaM,Qa,seval];refine Qi (St1 cz m lv s g kc c xs) _ ⟨_,0,by rw[show XA (lt c) 20 0 xs++xs.drop (20*0)=xs by simp[XA],←h0]<;>rfl,rfl,xw,xz,xz,xz,xz,xJ,xJ⟩ ?_;clear h0;rintro k st ⟨f,i,rfl,rfl,hi,f0,f1,f2,f6,f7,f8⟩;simp only[QaR,QaN,f1,f8,Qa,seval];have hbl:(XA (lt c) 20 i xs).length=20*i:=by rw[D0];omega
 by_cases hlt:20*(i+1)≤xs.length
 ·have d0:decide (((20*(i+1):Nat):Int)≤(xs.length:Int))=true:=xY
  have e1:IntKind.i64.wrap (((20*(i+1):Nat):Int)+20)=((20*(i+1+1):Nat):Int):=xE
  have hcut:XA (lt c) 20 i xs++xs.drop (20*i)=XA (lt c) 20 i xs++(xs.drop (20*i)).take 20++xs.drop (20*(i+1)):=by
   rw[QlJ,show 20*(i+1)=20*i+20 by omega,←QlT,QmH]
  have hx1:((xs.drop (20*i)).take 20).length=20:=by rw[Qml,Ql5];omega
  have hee:∀x∈XA (lt c) 20 i xs++(xs.drop (20*i)).take 20++xs.drop (20*(i+1)),Ez E cz x:=by
   intro x hx;refine he x ?_;rcases QmJ.1 hx with hx|hx
   ·rcases QmJ.1 hx with hx|hx
    ·exact Ui hx
    ·exact Qmb (Qmc hx)
   ·exact Qmb hx
  have hNN:(XA (lt c) 20 i xs++(xs.drop (20*i)).take 20++xs.drop (20*(i+1))).length=xs.length:=by
   rw[Ql2,Ql2,hx1,hbl,Ql5];omega
  simp only[d0,hcut,QaO,f0,f2,f7,f8,Qa,seval];refine Qj (RG hC hcz hc (a:=20*i) (b:=20*(i+1)) (XA (lt c) 20 i xs) ((xs.drop (20*i)).take 20) (xs.drop (20*(i+1))) hlv hee xw hNN.symm hbl.symm (by rw[hbl,hx1];omega)) rfl ?_;simp only[QaP,QaQ,e1,f6,f8,Qa,seval];exact⟨xs.length-20*(i+1),xw,_,i+1,by rw[Gb]<;>rfl,rfl,hlt,xP,j6,j3,wX,xz,xz⟩
 ·have d0:decide (((20*(i+1):Nat):Int)≤(xs.length:Int))=false:=x_
  have hee:∀x∈XA (lt c) 20 i xs++xs.drop (20*i)++[],Ez E cz x:=by
   intro x hx;refine he x ?_;rw[Qms]at hx;rcases QmJ.1 hx with hx|hx
   ·exact Ui hx
   ·exact Qmb hx
  have hNN:(XA (lt c) 20 i xs++xs.drop (20*i)++[]).length=xs.length:=by
   rw[Qms,Ql2,hbl,Ql5];omega
  have hic:=RG hC hcz hc (fr:=Qb) (g:=g) (s:=s) (N:=xs.length) (a:=20*i) (b:=xs.length) (XA (lt c) 20 i xs) (xs.drop (20*i)) [] hlv hee xw hNN.symm hbl.symm (by rw[hbl,Ql5];omega);have hsn:XA (lt c) 20 i xs++QG (lt c) (xs.drop (20*i))=XA (lt c) 20 (i+1) xs:=by
   rw[Gb,QlY qE]
  rw[Qms,Qms,hsn]at hic;simp only[d0,QaS,f0,f1,f2,f7,Qa,seval];refine Qj hic rfl ?_;simp only[Qa,seval];refine Qi (St2 cz m lv s g kc c xs) _ ⟨_,20,i+1,rfl,rfl,xw,xw,xw,xP,j6,j3,by simp only[f6,Qa,seval]<;>rfl⟩ ?_;clear f0 f1 f2 f6 f7 f8 hic hsn hNN hee d0 hlt hbl hi f i;rintro k st ⟨f,b,n,rfl,rfl,hb0,hb1,hbn,f0,f1,f2,f6⟩;simp only[QaX,QaT,f1,f6,Qa,seval];by_cases hlt:b<xs.length
  ·have d0:decide ((b:Int)<(xs.length:Int))=true:=xY
   have e1:IntKind.i64.wrap (2*(b:Int))=((2*b:Nat):Int):=xE
   have e1':IntKind.i64.wrap ((b:Int)*2)=((2*b:Nat):Int):=xE
   simp only[d0,QaU,e1,f6,Qa,seval];refine Qi (St3 cz m lv s g kc c xs b) _ ⟨_,0,n,by simp only[XA,Nat.mul_zero,Ql6,QlL]<;>rfl,rfl,xw,xw,xP,j6,j3,wX,xJ,by simp only[QlN,Nat.mul_one,Qa,seval]⟩ ?_;clear f0 f1 f2 f6 f;rintro k st ⟨f,i,n',rfl,rfl,hi,hn',f0,f1,f2,f6,f7,f8⟩;have hA1:2*b*(i+1)=2*b*i+2*b:=Nat.mul_succ _ _;have hA2:2*b*(i+1+1)=2*b*i+2*b+2*b:=by rw[Nat.mul_succ,hA1]
   have hbl:(XA (lt c) (2*b) i xs).length=2*b*i:=by rw[D0];omega
   have hsnoc:=Gb (lt:=lt c) (2*b) i xs;rw[hA1]at f8;clear hbn;generalize hA:2*b*i=A at *;simp only[QaW,QaV,f1,f8,Qa,seval];generalize hL:xs.drop A=L at *;have hLl:L.length=xs.length-A:=by rw[←hL,Ql5]
   have hLe:∀z∈L,Ez E cz z:=fun z hz=>he z (Qmb (by rw[hL];exact hz))
   have hPe:∀z∈XA (lt c) (2*b) i xs,Ez E cz z:=fun z hz=>he z (Ui hz)
   have e2:IntKind.i64.wrap (((A:Nat):Int)+(b:Int))=((A+b:Nat):Int):=xE
   -- Zx blocks and the rest
   have Zx:b<L.length→∃n'',n'=n''+2∧XA (lt c) b n' L=QG (lt c) (L.take b)++QG (lt c) ((L.drop b).take b)++XA (lt c) b n'' (L.drop (2*b))∧mg (lt c) (QG (lt c) (L.take b)) (QG (lt c) ((L.drop b).take b))=QG (lt c) (L.take (2*b)):=by
    intro h
    match n',hn' with
    |0,hn'=>omega
    |1,hn'=>omega
    |n''+2,_=>
     refine⟨n'',rfl,?_,?_⟩
     ·rw[XA,XA,QlJ,QlT,show b+b=2*b by omega]
     ·rw[Ys hc.sw,IY]
   by_cases hlt2:A+2*b≤xs.length
   ·have d1:decide (((A+2*b:Nat):Int)≤(xs.length:Int))=true:=xY
    obtain⟨n'',rfl,hrow,hmg⟩:=Zx xw;have hn2:b*(n''+2)=b*n''+2*b:=by rw[Nat.mul_add,Nat.mul_comm b 2]
    rw[hn2]at hn';clear Zx;generalize hZ:b*n''=Z at *;have e3:IntKind.i64.wrap (((A+2*b:Nat):Int)+((2*b:Nat):Int))=((A+2*b+2*b:Nat):Int):=by
     rw[QA];omega
    have l1:(QG (lt c) (L.take b)).length=b:=by rw[KY,Qml];omega
    have l2:(QG (lt c) ((L.drop b).take b)).length=b:=by rw[KY,Qml,Ql5];omega
    have l3:(XA (lt c) b n'' (L.drop (2*b))).length=L.length-2*b:=by
     rw[D0,Ql5,hZ];omega
    have hcut:XA (lt c) (2*b) i xs++XA (lt c) b (n''+2) L=XA (lt c) (2*b) i xs++QG (lt c) (L.take b)++QG (lt c) ((L.drop b).take b)++XA (lt c) b n'' (L.drop (2*b)):=by
     rw[hrow];simp only[QlJ]
    have hee:∀x∈XA (lt c) (2*b) i xs++QG (lt c) (L.take b)++QG (lt c) ((L.drop b).take b)++XA (lt c) b n'' (L.drop (2*b)),Ez E cz x:=by
     rw[←hcut];intro x hx;rcases QmJ.1 hx with hx|hx
     ·exact hPe x hx
     ·exact hLe x (Ui hx)
    have hNN:(XA (lt c) (2*b) i xs++QG (lt c) (L.take b)++QG (lt c) ((L.drop b).take b)++XA (lt c) b n'' (L.drop (2*b))).length=xs.length:=by
     rw[Ql2,Ql2,Ql2,l1,l2,l3,hbl];omega
    simp only[d1,hcut,e2,Ej,f0,f2,f6,f7,f8,Qa,seval];refine Qj (Gi hC hcz (sym hC hcz hc _) (a:=A) (b:=A+b) (e:=A+2*b) (XA (lt c) (2*b) i xs) (QG (lt c) (L.take b)) (QG (lt c) ((L.drop b).take b)) (XA (lt c) b n'' (L.drop (2*b))) hlv rfl xw xw hee xw (Zh hc.sw _) (Zh hc.sw _) hNN.symm hbl.symm (by rw[hbl,l1]) (by rw[hbl,l1,l2];omega)) rfl ?_;simp only[Ek,Em,e1,e3,f6,f8,Qa,seval];refine⟨xs.length-(A+2*b),xw,_,i+1,n'',by rw[hsnoc,hmg,hA1,←QlT,hL]<;>rfl,by rw[hA1],by rw[hA1];exact hlt2,?_,xP,j6,j3,wX,by simp only[hA1,Qa,seval],by simp only[hA2,Qa,seval]⟩
    ·rw[hA1,hZ];omega
   ·have d1:decide (((A+2*b:Nat):Int)≤(xs.length:Int))=false:=x_
    have hfin:XA (lt c) (2*b) i xs++QG (lt c) L=XA (lt c) (2*b) (i+1) xs:=by
     rw[hsnoc,QlY xw]
    simp only[d1,e2,Eo,Ep,f1,f6,f7,Qa,seval];by_cases hm:A+b<xs.length
    ·have d2:decide (((A+b:Nat):Int)<(xs.length:Int))=true:=xY
     obtain⟨n'',rfl,hrow,hmg⟩:=Zx xw;clear Zx hn';have hr0:L.drop (2*b)=[]:=Ql1 xw;have hr1:(L.drop b).take b=L.drop b:=QlY qE;have hr2:L.take (2*b)=L:=QlY xw;rw[hr0,N8,Qms,hr1]at hrow;rw[hr1,hr2]at hmg;have l1:(QG (lt c) (L.take b)).length=b:=by rw[KY,Qml];omega
     have l2:(QG (lt c) (L.drop b)).length=L.length-b:=by rw[KY,Ql5]
     have hee:∀x∈XA (lt c) (2*b) i xs++QG (lt c) (L.take b)++QG (lt c) (L.drop b)++[],Ez E cz x:=by
      intro x hx;rw[Qms,QlJ,←hrow]at hx;rcases QmJ.1 hx with hx|hx
      ·exact hPe x hx
      ·exact hLe x (Ui hx)
     have hNN:(XA (lt c) (2*b) i xs++QG (lt c) (L.take b)++QG (lt c) (L.drop b)++[]).length=xs.length:=by
      rw[Qms,Ql2,Ql2,l1,l2,hbl];omega
     have hsc:=Gi hC hcz (sym hC hcz hc _) (fr:=Qb) (s:=s) (g:=g) (N:=xs.length) (a:=A) (b:=A+b) (e:=xs.length) (XA (lt c) (2*b) i xs) (QG (lt c) (L.take b)) (QG (lt c) (L.drop b)) [] hlv rfl xw xw hee xw (Zh hc.sw _) (Zh hc.sw _) hNN.symm hbl.symm (by rw[hbl,l1]) (by rw[hbl,l1,l2];omega);rw[Qms,Qms,hmg,hfin,QlJ,←hrow]at hsc;simp only[d2,Er,f0,f1,f2,f7,Qa,seval];refine Qj hsc rfl ?_;simp only[MS,e1',f6,Qa,seval];exact zq
    ·have d2:decide (((A+b:Nat):Int)<(xs.length:Int))=false:=x_
     have hrow:XA (lt c) b n' L=QG (lt c) L:=Rx xw xw;simp only[d2,hrow,hfin,MS,e1',f6,Qa,seval];exact zq
  ·have d0:decide ((b:Int)<(xs.length:Int))=false:=x_
   have hfin:XA (lt c) b n xs=QG (lt c) xs:=Rx xw hbn;simp only[d0,hfin,put_len,ost,Qa,seval]

include hC hcz in
theorem Ti {kc:Nat}{c:AV→AV→Int}(hc:Cp Pg cz E kc c)(lv s g:Nat)(xs:List AV)(m:Qk)(hl:Am.Qc m lv s=.vec g cz xs)(he:∀x∈xs,Ez E cz x)
  (hn:xs.length<1152921504606846976) :
  Qe Pg ss [.vec lv s g 0 xs.length false,.fn (.func kc) [] []] m
   (fun x m1=>x=.tup []∧m1=Am.put m lv s (.vec g cz (QG (lt c) xs))):=by
 have _:=hC;have _:=hcz;have hlv:lv<m.length:=Xm qi;refine hC.css.go xA ?_;have hl2:Am.Qc (Qb :: m) (lv+1) s=.vec g cz xs:=hl;simp only[QaY,rss,oss,hl2,Qa,seval];refine Qj ((QiR hC hcz hc (lv+1) s g xs (Qb :: m) hl he hn).mono fun x m1 h=>⟨h.1,h.2.trans rfl⟩) rfl ?_;simp only[Am.put,put_len,Qa,seval]

end Go.Proofs.YtmlohboeoeoamaaGreatDoor.Tz

namespace Go.Proofs.YtmlohboeoeoamaaGreatDoor.Tg
open Go Am

theorem QfD:Cs Tryz.prog 4 311 258 161 160 104 56 where
 csr:=ck Tryz.func311 Tryz.ntmps311 xH
 cro:=ck Tryz.func258 Tryz.ntmps258 xH
 csm:=ck Tryz.func161 Tryz.ntmps161 xH
 cis:=ck Tryz.func160 Tryz.ntmps160 xH
 cst:=ck Tryz.func104 Tryz.ntmps104 xH
 css:=ck Tryz.func56 Tryz.ntmps56 xH

theorem Qd6:Cs Tryz.prog 8 350 305 245 244 150 96 where
 csr:=ck Tryz.func350 Tryz.ntmps350 xH
 cro:=ck Tryz.func305 Tryz.ntmps305 xH
 csm:=ck Tryz.func245 Tryz.ntmps245 xH
 cis:=ck Tryz.func244 Tryz.ntmps244 xH
 cst:=ck Tryz.func150 Tryz.ntmps150 xH
 css:=ck Tryz.func96 Tryz.ntmps96 xH

theorem Es:Cs Tryz.prog 14 370 351 307 306 246 153 where
 csr:=ck Tryz.func370 Tryz.ntmps370 xH
 cro:=ck Tryz.func351 Tryz.ntmps351 xH
 csm:=ck Tryz.func307 Tryz.ntmps307 xH
 cis:=ck Tryz.func306 Tryz.ntmps306 xH
 cst:=ck Tryz.func246 Tryz.ntmps246 xH
 css:=ck Tryz.func153 Tryz.ntmps153 xH

end Go.Proofs.YtmlohboeoeoamaaGreatDoor.Tg

namespace Go.Proofs.YtmlohboeoeoamaaGreatDoor.Rc
open Go Am Cg
end Go.Proofs.YtmlohboeoeoamaaGreatDoor.Rc

namespace Go.Proofs.YtmlohboeoeoamaaGreatDoor.Va
open Go Am Rc Bt Br Up So

section
variable {α β:Type}{lt:β→β→Bool}{lt':α→α→Bool}{F:α→β}(h:∀x y,lt (F x) (F y)=lt' x y)
include h
theorem MT (a:α):∀l:List α,ZP lt (F a) (l.map F)=(ZP lt' a l).map F
 | []=>rfl
 |x :: l=>by
  rw[QlW,ZP,ZP,h x a];cases lt' x a
  ·rfl
  ·show F x :: ZP lt (F a) (l.map F)=_;rw[MT a l];rfl
theorem Ub:∀l:List α,QG lt (l.map F)=(QG lt' l).map F
 | []=>rfl
 |a :: l=>by
  rw[QlW,QG,Ub l,MT h a];rfl
end
theorem MU {α β:Type}{lt:β→β→Bool}(h:SW lt)(f:α→β):SW fun x y=>lt (f x) (f y) where
 irr _:=h.irr _
 tr _ _ _:=h.tr _ _ _
 nt _ _ _:=h.nt _ _ _
theorem Qd7:SW fun a b:Int=>decide (a<b) where
 irr x:=xA
 tr x y z h k:=wA
 nt x y z h k:=wB
theorem Cf (a b:Int):decide (cN a b<0)=decide (a<b):=by
 unfold cN;split
 ·rename_i h;simp[h]
 ·rename_i h;split<;>simp[h]
theorem QaZ (a b:List UInt8):decide (cS a b<0)=Op.bytesLess a b:=by
 unfold cS;cases Op.bytesLess a b
 ·cases(a==b)<;>simp
 ·simp

theorem Dp {z:Nat}(hz:z≠0){xs:List AV}(h:xs.all (fun e=>e.cells.length==z)=true)(hf:QP xs=[]):xs=[]:=by
 cases xs with
 |nil=>rfl
 |cons x xs=>
  have hl:x.cells.length=z:=qC
  have:x.cells=[]:=(List.append_eq_nil_iff.1 hf).1;rw[this]at hl;exact absurd hl.symm hz

theorem v51 (xs:List AV)(fr:Nat→Ob)(m:Qk)(h:xs.all (fun e=>e.cells.length==4)=true)(hn:xs.length≤1048576)(hr:Qn (fr 1000)=true) :
  Qe Tryz.prog 51 [.list xs] (fr :: m) (fun x m1=>x=.vec 0 1000 (XB (fr 1000)) 0 xs.length false∧m1=QJ fr 1000 (.vec (XB (fr 1000)) 4 xs) :: m):=by
 have hng:Qz (fr :: m) 0 1000=XB (fr 1000):=J4;refine k51.go (by simp) ?_;simp only[LU,SK,SL,Qa,seval];refine Kf (ys:=xs) (by simp only[Qa,seval]) ?_ ?_
 ·simp only[SN,Qa,seval];refine Z4 rfl ?_;simp only[Qa,seval];refine QF (site:=5) (g:=1) (xs:=[]) (ys:=xs) rfl rfl rfl rfl rfl h (by simp[maxLen];omega) (by simp;omega) ?_;simp only[Qa,seval];refine Zu (l:=0) (site:=5) (g:=2) (o:=0) (n:=xs.length) (q:=false) (sz:=4) (xs:=xs) (by simp only[QlN,Qa,seval]) (by simp only[Qa,seval]) (by simp) (by decide) hr ?_;simp only[hng,Rh,eE,seval]
  try simp[AV.still,AV.un,Zw,XC]
 ·intro he;have hx:xs=[]:=by
   rcases he with he|he
   ·exact he
   ·exact Dp (by decide) h he
  subst hx;simp only[SM,Qa,seval];refine XO (by simp only[Qa,seval]) rfl ?_;simp only[Qa,seval];refine Zu (l:=0) (site:=2) (g:=1) (o:=0) (n:=0) (q:=false) (sz:=4) (xs:=[]) (by simp only[Qa,seval]) (by simp only[Qa,seval]) (by simp) (by decide) hr ?_;simp only[hng,Rh,eE,seval]
  try simp[AV.still,AV.un,Zw,XC]

theorem v95 (xs:List AV)(fr:Nat→Ob)(m:Qk)(h:xs.all (fun e=>e.cells.length==8)=true)(hn:xs.length≤1048576)(hr:Qn (fr 1000)=true) :
  Qe Tryz.prog 95 [.list xs] (fr :: m) (fun x m1=>x=.vec 0 1000 (XB (fr 1000)) 0 xs.length false∧m1=QJ fr 1000 (.vec (XB (fr 1000)) 8 xs) :: m):=by
 have hng:Qz (fr :: m) 0 1000=XB (fr 1000):=J4;refine L0.go (by simp) ?_;simp only[Aq,Cb,Cc,Qa,seval];refine Kf (ys:=xs) (by simp only[Qa,seval]) ?_ ?_
 ·simp only[Cd,Qa,seval];refine Z4 rfl ?_;simp only[Qa,seval];refine QF (site:=5) (g:=1) (xs:=[]) (ys:=xs) rfl rfl rfl rfl rfl h (by simp[maxLen];omega) (by simp;omega) ?_;simp only[Qa,seval];refine Zu (l:=0) (site:=5) (g:=2) (o:=0) (n:=xs.length) (q:=false) (sz:=8) (xs:=xs) (by simp only[QlN,Qa,seval]) (by simp only[Qa,seval]) (by simp) (by decide) hr ?_;simp only[hng,C2,eE,seval]
  try simp[AV.still,AV.un,Zw,XC]
 ·intro he;have hx:xs=[]:=by
   rcases he with he|he
   ·exact he
   ·exact Dp (by decide) h he
  subst hx;simp only[SQ,Qa,seval];refine XO (by simp only[Qa,seval]) rfl ?_;simp only[Qa,seval];refine Zu (l:=0) (site:=2) (g:=1) (o:=0) (n:=0) (q:=false) (sz:=8) (xs:=[]) (by simp only[Qa,seval]) (by simp only[Qa,seval]) (by simp) (by decide) hr ?_;simp only[hng,C2,eE,seval]
  try simp[AV.still,AV.un,Zw,XC]

theorem Qd8 (xs:List AV)(fr:Nat→Ob)(m:Qk)(h:xs.all (fun e=>e.cells.length==14)=true)(hn:xs.length≤1048576)(hr:Qn (fr 1000)=true) :
  Qe Tryz.prog 152 [.list xs] (fr :: m) (fun x m1=>x=.vec 0 1000 (XB (fr 1000)) 0 xs.length false∧m1=QJ fr 1000 (.vec (XB (fr 1000)) 14 xs) :: m):=by
 have hng:Qz (fr :: m) 0 1000=XB (fr 1000):=J4;refine Qdh.go (by simp) ?_;simp only[Iv,Ar,Au,Qa,seval];refine Kf (ys:=xs) (by simp only[Qa,seval]) ?_ ?_
 ·simp only[Aw,Qa,seval];refine Z4 rfl ?_;simp only[Qa,seval];refine QF (site:=5) (g:=1) (xs:=[]) (ys:=xs) rfl rfl rfl rfl rfl h (by simp[maxLen];omega) (by simp;omega) ?_;simp only[Qa,seval];refine Zu (l:=0) (site:=5) (g:=2) (o:=0) (n:=xs.length) (q:=false) (sz:=14) (xs:=xs) (by simp only[QlN,Qa,seval]) (by simp only[Qa,seval]) (by simp) (by decide) hr ?_;simp only[hng,SS,eE,seval]
  try simp[AV.still,AV.un,Zw,XC]
 ·intro he;have hx:xs=[]:=by
   rcases he with he|he
   ·exact he
   ·exact Dp (by decide) h he
  subst hx;simp only[Av,Qa,seval];refine XO (by simp only[Qa,seval]) rfl ?_;simp only[Qa,seval];refine Zu (l:=0) (site:=2) (g:=1) (o:=0) (n:=0) (q:=false) (sz:=14) (xs:=[]) (by simp only[Qa,seval]) (by simp only[Qa,seval]) (by simp) (by decide) hr ?_;simp only[hng,SS,eE,seval]
  try simp[AV.still,AV.un,Zw,XC]

section rows
variable {fr:Nat→Ob}{m:Qk}{s g z n i:Nat}{xs l:List AV}
theorem MV (h:fr s=.vec g z xs)(hi:i<n):Qf (fr :: m) z none (.vec 0 s g 0 n false) ((i:Nat):Int)=some (.vptr 0 s g i 0):=by
 have e:Am.Qc (fr :: m) 0 s=.vec g z xs:=h;exact xi
theorem FZ {k:Nat}(h:fr s=.vec g z xs)(hx:xs[i]? = some (.agg l))(hk:k≤l.length):Xn (fr :: m) (some k) (.vptr 0 s g i 0)=some (.agg (l.take k)):=by
 have e:Am.Qc (fr :: m) 0 s=.vec g z xs:=h;simp only[Xn,e,if_true,hx,Am.part];show(if 0+k≤l.length then some (AV.agg ((l.drop 0).take k))else none)=_;rw[Qlv xw,Ql6]
theorem QiS {o:Nat}(h:fr s=.vec g z xs)(hx:xs[i]? = some (.agg l)):Xn (fr :: m) none (.vptr 0 s g i o)=l[o]?:=by
 have e:Am.Qc (fr :: m) 0 s=.vec g z xs:=h;simp only[Xn,e,if_true,hx,Am.part,AV.cells]
end rows

def eS (x:AV):Prop:=∃s:Int×V,x=V.sav s
theorem QfE (s:Int×V):Ez eS 8 (V.sav s):=by
 refine⟨⟨s,rfl⟩,?_⟩;rw[ZN];exact⟨_,rfl,rfl,rfl,rfl,fun _=>rfl⟩
def nA:AV→Int
 |.agg (.int _ n :: _)=>n
 |_=>0
def cA (x y:AV):Int:=cN (nA x) (nA y)
theorem Tj (x y:AV):Tz.lt cA x y=decide (nA x<nA y):=Cf _ _
theorem Qa0:SW (Tz.lt cA):=by
 have e:Tz.lt cA=fun x y=>decide (nA x<nA y):=by funext x y;exact Tj x y
 rw[e];exact MU Qd7 nA
theorem Nq (s:Int×V):nA (V.sav s)=s.1:=qT

theorem v97 (x y:Int×V):Qh Tryz.prog 97 [V.sav x,V.sav y] (.int .i64 (cN x.1 y.1)):=by
 rw[ZN,ZN];refine wF Tryz.func97 ?_;simp only[eK,Tryz.f97,seval];simp only[eE,seval];refine aC (v58 x.1 y.1) ?_;simp only[Qa,seval]

theorem QiT:Tz.Cp Tryz.prog 8 eS 97 cA where
 call x y hx hy:=by
  obtain⟨s,rfl⟩:=hx.1;obtain⟨t,rfl⟩:=hy.1;unfold cA;rw[Nq,Nq];exact v97 s t
 sw:=Qa0

theorem La (l:List (Int×V)):QG (Tz.lt cA) (l.map V.sav)=(WA l).map V.sav:=Ub (fun x y=>by rw[Tj,Nq,Nq]) l
theorem W8 (l:List (Int×V)):(l.map V.sav).all (fun e=>e.cells.length==8)=true:=by
 rw[List.all_map,QlB];intro x _;simp[ZN,AV.cells]
theorem ezS (l:List (Int×V)):∀x∈l.map V.sav,Ez eS 8 x:=by
 intro x hx;obtain⟨s,_,rfl⟩:=QmK.1 hx;exact QfE s

def SoI (T:List (Int×V))(k:Nat)(st:St):Prop :=
 ∃f fr i g h,st=⟨f,[fr],[]⟩∧k=T.length-i∧i≤T.length∧f 3=.vec 0 1000 g 0 T.length false∧f 4=.vec 0 4 h 0 i false∧f 11=.vec 0 1000 g 0 T.length false∧f 12=.int .i64 (T.length:Nat)∧f 13=.int .i64 (i:Nat)∧fr 1000=.vec g 8 (T.map V.sav)∧fr 4=.vec h 8 ((T.take i).map V.sav)∧∀s∈[6],(fr s).isRow=false

theorem v52 (sl:List (Int×V))(hn:sl.length≤1048576)(hu:sl.Pairwise fun y x=>(y.1==x.1)=false):Qh Tryz.prog 52 [.list (sl.map V.sav)] (.list ((WA sl).map V.sav)):=by
 have cl:=fun fr hr=>v95 (sl.map V.sav) fr [] (W8 sl) (by rw[Qmj];exact hn) hr
 have cs:=fun g (m:Qk) (hl:Am.Qc m 0 1000=.vec g 8 (sl.map V.sav))=>Tz.Ti Tg.Qd6 xy QiT 0 1000 g (sl.map V.sav) m hl (ezS sl) kz
 simp only[La,Qmj]at cs;have hperm:(WA sl).Perm sl:=QX _;have hlen:(WA sl).length=sl.length:=hperm.length_eq;have hun:(WA sl).Pairwise fun y x=>(y.1==x.1)=false:=(hperm.pairwise_iff fun {a b} h=>by rw[QnK];exact h).2 hu
 generalize WA sl=T at *;refine wF Tryz.func52 ?_;simp only[eK,Tryz.f52,seval];simp only[Qa,seval];refine Qj (cl _ rfl) xF ?_;simp only[Qmj,Qa,seval];refine Qj (cs _ _ w8) xF ?_;simp only[eE,seval];refine XO xz xz ?_;simp only[eE,seval];refine Qi (SoI T) _ ⟨_,_,0,_,_,rfl,rfl,Qlx _,jL,xx,jL,jL,xx,xx,xx,xS⟩ ?_;rintro _ st ⟨f0,fr0,i,g,h,rfl,rfl,hil,h30,h40,h110,h120,h130,mR0,m40,r6⟩;refine QL (a:=_) [6] r6 ?_;intro f fr hf hm hn6;have h3:f 3=.vec 0 1000 g 0 T.length false:=xW
 have h4:f 4=.vec 0 4 h 0 i false:=jx
 have h11:f 11=.vec 0 1000 g 0 T.length false:=kH
 have h12:f 12=.int .i64 (T.length:Nat):=ku
 have h13:f 13=.int .i64 (i:Nat):=kG
 have mR:fr 1000=.vec g 8 (T.map V.sav):=jW
 have m4:fr 4=.vec h 8 ((T.take i).map V.sav):=xT
 have n6:=hn6 6 xy;clear hf hm hn6 h30 h40 h110 h120 h130 mR0 m40 r6;simp only[h12,h13,Qa,seval];by_cases hlt:i<T.length
 ·obtain⟨x,hi⟩:∃x,T[i]? = some x:=⟨T[i],Qln hlt⟩;have hg:=Wy hi;have e1:=Qr i _ hlt xC;have ia:∀(fr:Nat→Ob) (j:Nat),fr 1000=.vec g 8 (T.map V.sav)→j<T.length→Qf [fr] 8 none (.vec 0 1000 g 0 T.length false) ((j:Nat):Int)=some (.vptr 0 1000 g j 0):=fun fr j h hj=>MV h hj
  have la:∀(fr:Nat→Ob),fr 1000=.vec g 8 (T.map V.sav)→Xn [fr] (some 8) (.vptr 0 1000 g i 0)=some (.agg [.int .i64 x.1,.int .i64 x.2.kd,.int .u64 (x.2.bits:Nat),.str x.2.text,.list (x.2.list.map V.av),.list (x.2.pairs.map V.pav),.list (x.2.slots.map V.sav),.list (x.2.raws.map R.av)]):=fun fr h=>FZ h hg xA
  have fin:∀(f':Fr) (fr':Nat→Ob) (h':Nat),f' 3=.vec 0 1000 g 0 T.length false→f' 4=.vec 0 4 h' 0 (i+1) false→f' 11=.vec 0 1000 g 0 T.length false→f' 12=.int .i64 (T.length:Nat)→f' 13=.int .i64 ((i+1:Nat):Int)→fr' 1000=.vec g 8 (T.map V.sav)→fr' 4=.vec h' 8 ((T.take i).map V.sav++[V.sav x])→(∀s∈[6],(fr' s).isRow=false)→∃k,k<T.length-i∧SoI T k ⟨f',[fr'],[]⟩:=by
   exact zG
  have hti:((T.take i).map V.sav).length=i:=jR
  simp only[QB hlt,ia,la,mR,hlt,n6,h3,h11,h13,e1,eE,seval];by_cases hl:i+1=T.length
  ·have d1:(((i+1:Nat):Int)==(T.length:Int))=true:=xD
   simp only[d1,h4,eE,seval];refine QK (l:=[V.sav x]) rfl rfl rfl qT ?_;refine QF (site:=4) (g:=h) (n:=i) (xs:=(T.take i).map V.sav) (ys:=[V.sav x]) xx jO rfl hti.symm rfl (W8 [x]) xG xI ?_;exact oD
  ·have d1:(((i+1:Nat):Int)==(T.length:Int))=false:=xD
   have hlt1:i+1<T.length:=xw
   obtain⟨y,hj⟩:∃y,T[i+1]? = some y:=⟨T[i+1],Qln hlt1⟩;have hgj:=Wy hj;have lc:∀(fr:Nat→Ob),fr 1000=.vec g 8 (T.map V.sav)→Xn [fr] none (.vptr 0 1000 g (i+1) 0)=some (.int .i64 y.1):=fun fr h=>QiS h hgj
   have hne:(x.1 != y.1)=true:=by
    rw[QnE]at hun;have:=hun i (i+1) hlt hlt1 xw;rw[(Qlm.1 hi).2,(Qlm.1 hj).2]at this
    simpa using this
   simp only[d1,ia,lc,mR,hlt1,hne,YT,QlN,h3,h4,e1,eE,seval];refine QK (l:=[V.sav x]) rfl rfl rfl qT ?_;refine QF (site:=4) (g:=h) (n:=i) (xs:=(T.take i).map V.sav) (ys:=[V.sav x]) xx jO rfl hti.symm rfl (W8 [x]) xG xI ?_;exact oD
 ·have e:i=T.length:=xw
  subst e;rw[Qm5]at m4;exact zF

def eP (P:PL)(k:Int)(x:AV):Prop:=∃p:V×V,x=V.pav p∧p.1.kx P k∧p.1.bits<18446744073709551616
theorem ezP {P:PL}{k:Int}{p:V×V}(h:p.1.kx P k)(hb:p.1.bits<18446744073709551616):Ez (eP P k) 14 (V.pav p):=by
 refine⟨⟨p,rfl,h,hb⟩,?_⟩;rw[Z1];exact⟨_,rfl,rfl,rfl,rfl,fun _=>rfl⟩
def kV:AV→V
 |.agg (_ :: .int _ b :: .str t :: _)=>.mk 0 b.toNat t [] [] [] []
 |_=>.mk 0 0 [] [] [] [] []
theorem Nr (p:V×V):kV (V.pav p)=.mk 0 p.1.bits p.1.text [] [] [] []:=wx
def cP (k:Int)(x y:AV):Int:=Fy k (kV x).bits (kV x).text (kV y).bits (kV y).text
theorem Et (k:Int)(a b:V):decide (Fy k a.bits a.text b.bits b.text<0)=kl k a b:=by
 unfold Fy kl;split
 ·exact QaZ _ _
 ·split
  ·exact Cf _ _
  ·exact Cf _ _
theorem QfF (k:Int):SW (Tz.lt (cP k)):=by
 have e:Tz.lt (cP k)=fun x y=>kl k (kV x,kV x).1 (kV y,kV y).1:=by funext x y;exact Et k _ _
 rw[e];exact MU (KE k) fun x=>(kV x,kV x)

theorem QiU {P:PL}{k:Int}(hk:XT k)(x y:V×V)(hx:x.1.kx P k)(hy:y.1.kx P k):Qh Tryz.prog 154 [V.pav x,V.pav y] (.int .i64 (Fy k x.1.bits x.1.text y.1.bits y.1.text)):=by
 have h:=QdW k hk x.1.bits y.1.bits x.1.text y.1.text;rw[←(KD hx).1,←(KD hy).1,Qd,Qd]at h;rw[Z1,Z1];refine wF Tryz.func154 ?_;simp only[eK,Tryz.f154,seval];simp only[QlX,Qmy,Ql6,eE,seval];refine aC h ?_;simp only[Qa,seval]

theorem Qd9 {P:PL}{k:Int}(hk:XT k):Tz.Cp Tryz.prog 14 (eP P k) 154 (cP k) where
 call x y hx hy:=by
  obtain⟨p,rfl,h1,_⟩:=hx.1;obtain⟨q,rfl,h2,_⟩:=hy.1;unfold cP;rw[Nr,Nr];exact QiU hk p q h1 h2
 sw:=QfF k

theorem MX (k:Int)(l:List (V×V)):QG (Tz.lt (cP k)) (l.map V.pav)=(Q0 k l).map V.pav:=Ub (fun x y=>by
 show decide (cP k (V.pav x) (V.pav y)<0)=_;unfold cP;rw[Nr,Nr];exact Et k x.1 y.1) l
theorem JN (l:List (V×V)):(l.map V.pav).all (fun e=>e.cells.length==14)=true:=by
 rw[List.all_map,QlB];intro x _;simp[Z1,AV.cells]

def PoI (T:List (V×V))(k:Nat)(st:St):Prop :=
 ∃f fr i g h,st=⟨f,[fr],[]⟩∧k=T.length-i∧i≤T.length∧f 3=.vec 0 1000 g 0 T.length false∧f 4=.vec 0 4 h 0 i false∧f 11=.vec 0 1000 g 0 T.length false∧f 12=.int .i64 (T.length:Nat)∧f 13=.int .i64 (i:Nat)∧fr 1000=.vec g 14 (T.map V.pav)∧fr 4=.vec h 14 ((T.take i).map V.pav)∧∀s∈[6],(fr s).isRow=false

theorem QiV {P:PL}{k:Int}(hk:XT k)(ps:List (V×V))(hn:ps.length≤1048576)(h1:∀p∈ps,p.1.kx P k)(hb:∀p∈ps,p.1.bits<18446744073709551616)(hu:ps.Pairwise fun q p=>XE q.1 p.1=false):Qh Tryz.prog 101 [.list (ps.map V.pav)] (.list ((Q0 k ps).map V.pav)):=by
 have cl:=fun fr hr=>Qd8 (ps.map V.pav) fr [] (JN ps) (by rw[Qmj];exact hn) hr
 have ez:∀x∈ps.map V.pav,Ez (eP P k) 14 x:=by
  exact xj
 have cs:=fun g (m:Qk) (hl:Am.Qc m 0 1000=.vec g 14 (ps.map V.pav))=>Tz.Ti Tg.Es xy (Qd9 (P:=P) hk) 0 1000 g (ps.map V.pav) m hl ez kz
 simp only[MX,Qmj]at cs;have hperm:(Q0 k ps).Perm ps:=QX _;have hlen:(Q0 k ps).length=ps.length:=hperm.length_eq;have hun:(Q0 k ps).Pairwise fun q p=>XE q.1 p.1=false:=(hperm.pairwise_iff fun {a b} h=>qe).2 hu
 have h1T:∀p∈Q0 k ps,p.1.kx P k:=fun p hp=>h1 p (hperm.mem_iff.1 hp)
 have hbT:∀p∈Q0 k ps,p.1.bits<18446744073709551616:=fun p hp=>hb p (hperm.mem_iff.1 hp)
 generalize Q0 k ps=T at *;refine wF Tryz.func101 ?_;simp only[eK,Tryz.f101,seval];simp only[Qa,seval];refine Qj (cl _ rfl) xF ?_;simp only[Qmj,Qa,seval];refine Qj (cs _ _ w8) xF ?_;simp only[eE,seval];refine XO xz xz ?_;simp only[eE,seval];refine Qi (PoI T) _ ⟨_,_,0,_,_,rfl,rfl,Qlx _,jL,xx,jL,jL,xx,xx,xx,xS⟩ ?_;rintro _ st ⟨f0,fr0,i,g,h,rfl,rfl,hil,h30,h40,h110,h120,h130,mR0,m40,r6⟩;refine QL (a:=_) [6] r6 ?_;intro f fr hf hm hn6;have h3:f 3=.vec 0 1000 g 0 T.length false:=xW
 have h4:f 4=.vec 0 4 h 0 i false:=jx
 have h11:f 11=.vec 0 1000 g 0 T.length false:=kH
 have h12:f 12=.int .i64 (T.length:Nat):=ku
 have h13:f 13=.int .i64 (i:Nat):=kG
 have mR:fr 1000=.vec g 14 (T.map V.pav):=jW
 have m4:fr 4=.vec h 14 ((T.take i).map V.pav):=xT
 have n6:=hn6 6 xy;clear hf hm hn6 h30 h40 h110 h120 h130 mR0 m40 r6;simp only[h12,h13,Qa,seval];by_cases hlt:i<T.length
 ·obtain⟨x,hi⟩:∃x,T[i]? = some x:=⟨T[i],Qln hlt⟩;have hg:=Ky hi;have e1:=Qr i _ hlt xC;have ia:∀(fr:Nat→Ob) (j:Nat),fr 1000=.vec g 14 (T.map V.pav)→j<T.length→Qf [fr] 14 none (.vec 0 1000 g 0 T.length false) ((j:Nat):Int)=some (.vptr 0 1000 g j 0):=fun fr j h hj=>MV h hj
  have la:∀(fr:Nat→Ob),fr 1000=.vec g 14 (T.map V.pav)→Xn [fr] (some 14) (.vptr 0 1000 g i 0)=some (.agg [.int .i64 x.1.kd,.int .u64 (x.1.bits:Nat),.str x.1.text,.list (x.1.list.map V.av),.list (x.1.pairs.map V.pav),.list (x.1.slots.map V.sav),.list (x.1.raws.map R.av),.int .i64 x.2.kd,.int .u64 (x.2.bits:Nat),.str x.2.text,.list (x.2.list.map V.av),.list (x.2.pairs.map V.pav),.list (x.2.slots.map V.sav),.list (x.2.raws.map R.av)]):=fun fr h=>FZ h hg xA
  have fin:∀(f':Fr) (fr':Nat→Ob) (h':Nat),f' 3=.vec 0 1000 g 0 T.length false→f' 4=.vec 0 4 h' 0 (i+1) false→f' 11=.vec 0 1000 g 0 T.length false→f' 12=.int .i64 (T.length:Nat)→f' 13=.int .i64 ((i+1:Nat):Int)→fr' 1000=.vec g 14 (T.map V.pav)→fr' 4=.vec h' 14 ((T.take i).map V.pav++[V.pav x])→(∀s∈[6],(fr' s).isRow=false)→∃k,k<T.length-i∧PoI T k ⟨f',[fr'],[]⟩:=by
   exact zG
  have hti:((T.take i).map V.pav).length=i:=jR
  simp only[QB hlt,ia,la,mR,hlt,n6,h3,h11,h13,e1,eE,seval];by_cases hl:i+1=T.length
  ·have d1:(((i+1:Nat):Int)==(T.length:Int))=true:=xD
   simp only[d1,h4,eE,seval];refine QK (l:=[V.pav x]) rfl rfl rfl wx ?_;refine QF (site:=4) (g:=h) (n:=i) (xs:=(T.take i).map V.pav) (ys:=[V.pav x]) xx jO rfl hti.symm rfl (JN [x]) xG xI ?_;exact oD
  ·have d1:(((i+1:Nat):Int)==(T.length:Int))=false:=xD
   have hlt1:i+1<T.length:=xw
   obtain⟨y,hj⟩:∃y,T[i+1]? = some y:=⟨T[i+1],Qln hlt1⟩;have hgj:=Ky hj;have lc:∀(fr:Nat→Ob),fr 1000=.vec g 14 (T.map V.pav)→Xn [fr] (some 7) (.vptr 0 1000 g (i+1) 0)=some (.agg [.int .i64 y.1.kd,.int .u64 (y.1.bits:Nat),.str y.1.text,.list (y.1.list.map V.av),.list (y.1.pairs.map V.pav),.list (y.1.slots.map V.sav),.list (y.1.raws.map R.av)]):=fun fr h=>by
    rw[FZ h hgj xA];rfl
   have hx1:=h1T x (QlC hi);have hy1:=h1T y (QlC hj);have hne:XE x.1 y.1=false:=by
    rw[QnE]at hun;have:=hun i (i+1) hlt hlt1 xw;rw[(Qlm.1 hi).2,(Qlm.1 hj).2]at this;exact this
   have hq:=IX k hk x.1.bits y.1.bits x.1.text y.1.text;rw[←(KD hx1).1,←(KD hy1).1,N6 hk hx1 hy1 (hbT x (QlC hi)) (hbT y (QlC hj)),hne,Qd,Qd]at hq;simp only[d1,ia,lc,mR,hlt1,YT,QlN,QlX,Qmy,Ql6,h3,e1,eE,seval];refine aC hq ?_;simp only[h4,eE,seval];refine QK (l:=[V.pav x]) rfl rfl rfl wx ?_;refine QF (site:=4) (g:=h) (n:=i) (xs:=(T.take i).map V.pav) (ys:=[V.pav x]) xx jO rfl hti.symm rfl (JN [x]) xG xI ?_;exact oD
 ·have e:i=T.length:=xw
  subst e;rw[Qm5]at m4;exact zF

def eR (x:AV):Prop:=∃f:R,x=f.av
theorem QfG (f:R):Ez eR 4 f.av:=⟨⟨f,rfl⟩,_,rfl,rfl,rfl,rfl,fun _=>rfl⟩
theorem v57 (x y:R):Qh Tryz.prog 57 [x.av,y.av] (.int .i64 (cN x.num y.num)):=by
 refine wF Tryz.func57 ?_;simp only[eK,Tryz.f57,seval];simp only[R.av,eE,seval];refine aC (v58 x.num y.num) ?_;simp only[Qa,seval]
theorem QiW:Tz.Cp Tryz.prog 4 eR 57 cA where
 call x y hx hy:=by
  obtain⟨s,rfl⟩:=hx.1;obtain⟨t,rfl⟩:=hy.1;exact v57 s t
 sw:=Qa0
theorem Lb (l:List R):QG (Tz.lt cA) (l.map R.av)=(ZA l).map R.av:=Ub (fun x y=>by rw[Tj];rfl) l
theorem Jo (l:List R):(l.map R.av).all (fun e=>e.cells.length==4)=true:=by
 rw[List.all_map,QlB];intro x _;rfl
theorem ezR (l:List R):∀x∈l.map R.av,Ez eR 4 x:=by
 intro x hx;obtain⟨s,_,rfl⟩:=QmK.1 hx;exact QfG s

theorem MY (v:V):v.nsc.av=.agg [.int .i64 v.kd,.int .u64 ((Xx v.kd v.bits:Nat):Int),.str v.text,.list (v.list.map V.av),.list (v.pairs.map V.pav),.list (v.slots.map V.sav),.list (v.raws.map R.av)]:=by
 rw[Qd];rfl
theorem QiX (b:Nat):Qh Tryz.prog 107 [.int .u64 (b:Nat)] (.int .i64 (YY b:Nat)):=by
 refine wF Tryz.func107 ?_;simp only[eK,Tryz.f107,seval];have hm:(b:Int).tmod 9223372036854775808=((b % 9223372036854775808:Nat):Int):=by
  rw[QnF xw];omega
 simp only[hm,Qa,seval];unfold YY;generalize b % 9223372036854775808=z
 repeat' (first|(refine QV (fun h=>?_) (fun h=>?_)<;>simp only[h,Qa,seval])|(refine XH (fun h=>?_) (fun h=>?_)<;>simp only[h,Ql,eE,seval])|(refine XJ (fun h=>?_) (fun h=>?_)<;>simp only[h,Ql,eE,seval]))
 all_goals(simp only[Qlr,Qns,Qls,Qne,ne_eq]at *)
 all_goals exact yj

theorem QiY (b:Nat)(hb:b<18446744073709551616):Qh Tryz.prog 157 [.int .u64 (b:Nat)] (.int .i64 (YY b:Nat)):=by
 refine wF Tryz.func157 ?_;simp only[eK,Tryz.f157,seval];have a1:bits .and .u64 (b:Int) 9218868437227405312=(((b / 4503599627370496 % 2048)*4503599627370496:Nat):Int):=by
  have:=Hs b 9218868437227405312 hb xy;rw[A9]at this;exact this
 have a2:bits .and .u64 (b:Int) 4503599627370495=((b % 4503599627370496:Nat):Int):=by
  have:=Hs b 4503599627370495 hb xy;rw[A8]at this;exact this
 simp only[a1,a2,Qa,seval];unfold YY
 repeat' (first|(refine QV (fun h=>?_) (fun h=>?_)<;>simp only[h,Qa,seval])|(refine XH (fun h=>?_) (fun h=>?_)<;>simp only[h,Ql,Qa,seval])|(refine XJ (fun h=>?_) (fun h=>?_)<;>simp only[h,Ql,eE,seval]))
 all_goals(simp only[Qls,QlR,bne_eq_false_iff_eq,Qne,ne_eq]at *)
 all_goals exact yj

theorem Lc (v:V)(hb:v.bits<18446744073709551616):Qh Tryz.prog 102 [v.av] v.nsc.av:=by
 rw[MY,Qd];refine wF Tryz.func102 ?_;simp only[eK,Tryz.f102,seval];simp only[eE,seval];by_cases hk:v.kd=6
 ·have b0:(v.kd==6)=true:=jD
  simp only[b0,eE,seval];refine aC (QiY v.bits hb) ?_;simp only[S7,Qa,seval];by_cases hc:YY v.bits=0
  ·exact oZ
  ·exact zU
 ·have b0:(v.kd==6)=false:=jD
  exact yx

theorem v61 (v:V)(_hb:v.bits<18446744073709551616):Qh Tryz.prog 61 [v.av] v.nsc.av:=by
 rw[MY,Qd];refine wF Tryz.func61 ?_;simp only[eK,Tryz.f61,seval];simp only[eE,seval];by_cases hk:v.kd=6
 ·have b0:(v.kd==6)=true:=jD
  simp only[b0,eE,seval];refine aC (QiX v.bits) ?_;simp only[S7,Qa,seval];by_cases hc:YY v.bits=0
  ·exact oZ
  ·exact zU
 ·have b0:(v.kd==6)=false:=jD
  exact yx

def EW (m:PG→V→Prop)(P:PL)(o:PO)(v:V):Prop:=o.kind=10→m (Qg P o.target) v
def FW (m:PG→V→Prop)(P:PL)(o:PO)(v:V):Prop :=
 if o.card=4 then ∀x∈v.list,EW m P o x
 else if o.card=5 then(∀p∈v.pairs,p.1.kx P o.key∧EW m P o p.2)∧v.pairs.Pairwise fun q p=>XE q.1 p.1=false
 else EW m P o v
def MW (P:PL):Nat→PG→V→Prop
 |0,_,_=>False
 |n+1,g,v=>(∀s∈v.slots,∃o,Q7 g s.1=some o∧FW (MW P n) P o s.2)∧v.slots.Pairwise fun y x=>(y.1==x.1)=false

theorem Tk {m:PG→V→Int}{w:PG→V→Prop}(h:∀g v,m g v=0→w g v){P:PL}{o:PO}{v:V}(he:QW m P o v=0):EW w P o v:=by
 intro hk;unfold QW at he;rw[Qlv hk]at he;exact h _ _ he
theorem QfH {m:PG→V→Int}{w:PG→V→Prop}(h:∀g v,m g v=0→w g v){P:PL}{o:PO}{v:V}(he:Xw m P o v=0):FW w P o v:=by
 unfold Xw at he;unfold FW;by_cases h4:o.card=4
 ·rw[Qlu xw,Qlv h4]at he;rw[Qlv h4];split at he
  ·omega
  exact fun x hx=>Tk h (Kt.1 he x hx)
 ·rw[Qlu h4];by_cases h5:o.card=5
  ·rw[Qlv h5]at he;rw[Qlv h5];split at he
   ·omega
   have hE:=Wa.1 he;exact⟨fun p hp=>⟨S6 (hE.1 p hp).1,Tk h (hE.1 p hp).2⟩,hE.2⟩
  ·rw[Qlu h5,Qlu h4]at he;rw[Qlu h5];exact Tk h he
theorem Uc {P:PL}:∀(n:Nat) (g:PG) (v:V),XF P n g v=0→MW P n g v
 |0,g,v,h=>by
  unfold XF at h;split at h<;>omega
 |n+1,g,v,h=>by
  obtain⟨_,⟨s1,s2,_⟩,_,_⟩:=JY.1 h;refine⟨fun s hs=>?_,s2⟩;obtain⟨o,ho,hf⟩:=s1 s hs;exact⟨o,ho,QfH (Uc n) hf⟩
theorem Qcc {P:PL}{o:PO}(ho:o.card=5→XT o.key)(h5:o.card=5){ps:List (V×V)}(h:∀p∈ps,p.1.kx P o.key):∀p∈ps,p.1.nsc=p.1:=by
 intro p hp;have e:=(h p hp).1;refine MB ?_;have:=ho h5;unfold XT at this;omega

theorem F0 {x:V}:∀ {l:List V},x∈l→x.cnt≤Q9 l
 |y :: l,h=>by
  rw[Q9];rcases QmM.1 h with rfl|h
  ·omega
  ·have:=F0 h;omega
theorem Gj {x:V×V}:∀ {l:List (V×V)},x∈l→x.1.cnt+x.2.cnt≤Xk l
 |(a,b) :: l,h=>by
  rw[Xk];rcases QmM.1 h with rfl|h
  ·dsimp only;omega
  ·have:=Gj h;omega
theorem MZ {x:Int×V}:∀ {l:List (Int×V)},x∈l→x.2.cnt≤Xd l
 |(a,b) :: l,h=>by
  rw[Xd];rcases QmM.1 h with rfl|h
  ·dsimp only;omega
  ·have:=MZ h;omega
theorem X9 (v:V):1≤v.cnt:=by rw[Q4];omega
theorem Gk:∀l:List V,l.length≤Q9 l
 | []=>Qlk _
 |x :: l=>by
  have:=X9 x;have:=Gk l;simp only[Q9,QlD];omega
theorem M0:∀l:List (V×V),2*l.length≤Xk l
 | []=>Qlk _
 |(a,b) :: l=>by
  have:=X9 a;have:=X9 b;have:=M0 l;simp only[Xk,QlD];omega
theorem M1:∀l:List (Int×V),l.length≤Xd l
 | []=>Qlk _
 |(a,b) :: l=>by
  have:=X9 b;have:=M1 l;simp only[Xd,QlD];omega
theorem UG {v x:V}(h:x∈v.list):x.cnt≤v.cnt:=by have:=F0 h;rw[Q4 v];omega
theorem Ve {v:V}{x:V×V}(h:x∈v.pairs):x.1.cnt≤v.cnt:=by have:=Gj h;rw[Q4 v];omega
theorem HC {v:V}{x:V×V}(h:x∈v.pairs):x.2.cnt≤v.cnt:=by have:=Gj h;rw[Q4 v];omega
theorem ZZ {v:V}{x:Int×V}(h:x∈v.slots):x.2.cnt≤v.cnt:=by have:=MZ h;rw[Q4 v];omega
theorem ZO (v:V):v.list.length≤v.cnt:=by have:=Gk v.list;rw[Q4 v];omega
theorem Jw (v:V):v.pairs.length≤v.cnt:=by have:=M0 v.pairs;rw[Q4 v];omega
theorem XP (v:V):v.slots.length≤v.cnt:=by have:=M1 v.slots;rw[Q4 v];omega
theorem JI (v:V):v.raws.length≤v.cnt:=by rw[Q4 v];omega

section
variable {M:Nat}{P:PL}{m:PG→V→Prop}{nm:PG→V→V}(o:PO)(ho:UO P o)

include ho in
theorem QiZ (hm:∀(t:Int) (g:PG),P.progs[t.toNat]? = some g→0≤t→∀v:V,v.ok M→v.cnt≤1048576→m g v→Qh Tryz.prog 24 [P.av,.int .i64 t,v.av] (nm g v).av)(v:V)(hv:v.ok M)(hc:v.cnt≤1048576)(he:EW m P o v) :
  Qh Tryz.prog 100 [P.av,Qu o,v.av] (Zb nm P o v).av:=by
 have e0:P.av=.agg [.list (P.progs.map Qm),.list (P.enums.map QC)]:=rfl;unfold Zb;by_cases hk:o.kind=10
 ·have b:(o.kind==10)=true:=jD
  have he:=he hk;rw[Qlv hk];obtain⟨t0,t1⟩:=ho.tgt hk;obtain⟨g,hg⟩:∃g,P.progs[o.target.toNat]? = some g:=⟨P.progs[o.target.toNat]' xw,Qln xw⟩;have hq:Qg P o.target=g:=by unfold Qg;rw[hg];rfl
  rw[hq]at he ⊢;have h2:=hm o.target g hg t0 v hv hc he;generalize nm g v=z at h2 ⊢;rw[e0,Qd,Qd]at h2;rw[Qd,Qd];refine wF Tryz.func100 ?_;simp only[eK,Tryz.f100,seval];simp only[e0,Qu,PO.cells,b,eE,seval];exact yG
 ·have b:(o.kind==10)=false:=jD
  rw[Qlu hk];have h1:=Lc v (WI hv);generalize v.nsc=z at h1 ⊢;rw[Qd,Qd]at h1;rw[Qd,Qd];refine wF Tryz.func100 ?_;simp only[eK,Tryz.f100,seval];exact xf

def NlI (P:PL)(o:PO)(l:List V)(F:V→V)(k:Nat)(st:St):Prop :=
 ∃f fr i g,st=⟨f,[fr],[]⟩∧k=l.length-i∧i≤l.length∧f 3=.ptr 0 3 0∧f 4=.ptr 0 4 0∧f 6=.ptr 0 6 0∧f 7=.ptr 0 7 0∧f 19=.list (l.map V.av)∧f 20=.int .i64 (l.length:Nat)∧f 21=.int .i64 (i:Nat)∧fr 3=.cells [.list (P.progs.map Qm),.list (P.enums.map QC)]∧fr 4=.cells o.cells∧fr 6=.cells [.int .i64 0,.int .u64 0,.str [],.nils,.nils,.nils,.nils]∧fr 7=.cells [.int .i64 11,.int .u64 0,.str [],.vec 0 1100 g 0 i false,.nils,.nils,.nils]∧fr 1100=.vec g 7 ((l.take i).map fun x=>(F x).av)∧∀s∈[9],(fr s).isRow=false

def NpI (P:PL)(o:PO)(T:List (V×V))(F:V×V→V×V)(k:Nat)(st:St):Prop :=
 ∃f fr i g,st=⟨f,[fr],[]⟩∧k=T.length-i∧i≤T.length∧f 3=.ptr 0 3 0∧f 4=.ptr 0 4 0∧f 6=.ptr 0 6 0∧f 10=.ptr 0 10 0∧f 41=.list (T.map V.pav)∧f 42=.int .i64 (T.length:Nat)∧f 43=.int .i64 (i:Nat)∧fr 3=.cells [.list (P.progs.map Qm),.list (P.enums.map QC)]∧fr 4=.cells o.cells∧fr 6=.cells [.int .i64 0,.int .u64 0,.str [],.nils,.nils,.nils,.nils]∧fr 10=.cells [.int .i64 12,.int .u64 0,.str [],.nils,.vec 0 1101 g 0 i false,.nils,.nils]∧fr 1101=.vec g 14 ((T.take i).map fun x=>V.pav (F x))∧∀s∈[12],(fr s).isRow=false

theorem Qa1 (l:List V)(F:V→V):(l.map fun x=>(F x).av)=(l.map F).map V.av:=by rw[Qnj];rfl
theorem Eu (l:List (V×V))(F:V×V→V×V):(l.map fun x=>V.pav (F x))=(l.map F).map V.pav:=by rw[Qnj];rfl

set_option maxHeartbeats 1000000 in
include ho in
theorem v54 (hel:∀v:V,v.ok M→v.cnt≤1048576→EW m P o v→Qh Tryz.prog 100 [P.av,Qu o,v.av] (Zb nm P o v).av)(v:V)(hv:v.ok M)(hc:v.cnt≤1048576)(he:FW m P o v) :
  Qh Tryz.prog 54 [P.av,Qu o,v.av] (Zq nm P o v).av:=by
 have e0:P.av=.agg [.list (P.progs.map Qm),.list (P.enums.map QC)]:=rfl;unfold Zq;unfold FW at he;by_cases h4:o.card=4
 ·have b4:(o.card==4)=true:=kR
  rw[Qlv h4]at he;rw[Qlv h4];have hL:=he;have hlen:=ZO v;rw[Qd v];generalize hF:Zb nm P o=F at hel ⊢;rw[show(V.mk 11 0 [] (v.list.map F) [] [] []).av=.agg [.int .i64 11,.int .u64 0,.str [],.list ((v.list.map F).map V.av),.list [],.list [],.list []]from Qd _];refine wF Tryz.func54 ?_;simp only[eK,Tryz.f54,seval];simp only[e0,Qu,PO.cells,b4,eE,seval];refine KT xJ rfl xJ rfl ?_;simp only[List.set,Qmj,eE,seval];refine Qi (NlI P o v.list F) _ ⟨_,_,0,_,rfl,rfl,Qlx _,xx,xx,xx,xx,xx,xx,xx,xx,xx,xx,xx,xx,xS⟩ ?_;rintro _ st ⟨f0,fr0,i,g,rfl,rfl,hil,h30,h40,h60,h70,h190,h200,h210,m30,m40,m60,m70,mR0,r9⟩;refine QL (a:=_) [9] r9 ?_;intro f fr hf hm hn9;have h3:f 3=.ptr 0 3 0:=xW
  have h4:f 4=.ptr 0 4 0:=jx
  have h6:f 6=.ptr 0 6 0:=jV
  have h7:f 7=.ptr 0 7 0:=jU
  have h19:f 19=.list (v.list.map V.av):=qN
  have h20:f 20=.int .i64 (v.list.length:Nat):=qO
  have h21:f 21=.int .i64 (i:Nat):=wN
  have m3:fr 3=.cells [.list (P.progs.map Qm),.list (P.enums.map QC)]:=j0
  have m4:fr 4=.cells o.cells:=xT
  have m6:fr 6=.cells [.int .i64 0,.int .u64 0,.str [],.nils,.nils,.nils,.nils]:=jG
  have m7:fr 7=.cells [.int .i64 11,.int .u64 0,.str [],.vec 0 1100 g 0 i false,.nils,.nils,.nils]:=jZ
  have mR:fr 1100=.vec g 7 ((v.list.take i).map fun x=>(F x).av):=by rw[hm 1100 xy,mR0]<;>rfl
  have n9:=hn9 9 xy;clear hf hm hn9 h30 h40 h60 h70 h190 h200 h210 m30 m40 m60 m70 mR0 r9;have m4':=m4;simp only[PO.cells]at m4;simp only[h20,h21,Qa,seval];by_cases hlt:i<v.list.length
  ·obtain⟨x,hi⟩:∃x,v.list[i]? = some x:=⟨v.list[i],Qln hlt⟩;have hx:=QlC hi;have hg:=Hk hi;have e1:=Qr i _ hlt xC;have c1:=hel x (hv.list x hx) (Qll (UG hx) hc) (hL x hx);have hti:((v.list.take i).map fun x=>(F x).av).length=i:=jR
   have hts:(v.list.take (i+1)).map (fun x=>(F x).av)=(v.list.take i).map (fun x=>(F x).av)++[(F x).av]:=wh
   generalize F x=z at c1 hts;rw[e0,Qd,Qd z]at c1;simp only[Qu,PO.cells]at c1;simp only[QB hlt,Qp,QmS,Qf,hg,n9,h3,h4,h7,h19,h21,m3,m4,m7,eE,seval];refine aC c1 ?_;refine QK (l:=[z.av]) rfl rfl rfl wm ?_;refine QF (site:=1100) (g:=g) (n:=i) (xs:=(v.list.take i).map fun x=>(F x).av) (ys:=[z.av]) xx j8 rfl hti.symm rfl (Dl [z]) xG xI ?_;simp only[h7,h21,m7,e1,eE,seval];exact⟨v.list.length-(i+1),xw,_,_,i+1,g+1,rfl,rfl,xw,xM,xR,xU,xZ,kU,qp,xx,j5,kI,kT,xx,kJ,xS⟩
  ·exact zZ
 ·have b4:(o.card==4)=false:=kR
  rw[Qlu h4];by_cases h5:o.card=5
  ·have b5:(o.card==5)=true:=q7
   rw[Qlu h4,Qlv h5]at he;rw[Qlv h5];have hE:=he;have hlen:=Jw v;have hk:=ho.key h5;have hkn:=Qcc ho.key h5 fun p hp=>(hE.1 p hp).1
   have cp:=QiV hk v.pairs xw (fun p hp=>(hE.1 p hp).1) (fun p hp=>WI (hv.keys p hp)) hE.2;have hperm:(Q0 o.key v.pairs).Perm v.pairs:=QX _;have hTl:(Q0 o.key v.pairs).length=v.pairs.length:=hperm.length_eq;have hTm:∀p∈Q0 o.key v.pairs,p∈v.pairs:=fun p h=>hperm.mem_iff.1 h
   generalize Q0 o.key v.pairs=T at *;rw[Qd v];generalize hF:(fun p:V×V=>(p.1.nsc,Zb nm P o p.2))=F;rw[show(V.mk 12 0 [] [] (T.map F) [] []).av=.agg [.int .i64 12,.int .u64 0,.str [],.list [],.list ((T.map F).map V.pav),.list [],.list []]from Qd _];refine wF Tryz.func54 ?_;simp only[eK,Tryz.f54,seval];simp only[e0,Qu,PO.cells,b4,b5,eE,seval];refine KT xJ rfl xJ rfl ?_;simp only[List.set,eE,seval];refine aC cp ?_;simp only[Qmj,Qa,seval];refine Qi (NpI P o T F) _ ⟨_,_,0,_,rfl,rfl,Qlx _,xx,xx,xx,xx,xx,xx,xx,xx,xx,xx,xx,xx,xS⟩ ?_;rintro _ st ⟨f0,fr0,i,g,rfl,rfl,hil,h30,h40,h60,h100,h410,h420,h430,m30,m40,m60,m100,mR0,r12⟩;refine QL (a:=_) [12] r12 ?_;intro f fr hf hm hn12;have h3:f 3=.ptr 0 3 0:=xW
   have h4:f 4=.ptr 0 4 0:=jx
   have h6:f 6=.ptr 0 6 0:=jV
   have h10:f 10=.ptr 0 10 0:=qP
   have h41:f 41=.list (T.map V.pav):=by rw[hf,h410]<;>rfl
   have h42:f 42=.int .i64 (T.length:Nat):=by rw[hf,h420]<;>rfl
   have h43:f 43=.int .i64 (i:Nat):=by rw[hf,h430]<;>rfl
   have m3:fr 3=.cells [.list (P.progs.map Qm),.list (P.enums.map QC)]:=j0
   have m4:fr 4=.cells o.cells:=xT
   have m6:fr 6=.cells [.int .i64 0,.int .u64 0,.str [],.nils,.nils,.nils,.nils]:=jG
   have m10:fr 10=.cells [.int .i64 12,.int .u64 0,.str [],.nils,.vec 0 1101 g 0 i false,.nils,.nils]:=by rw[hm 10 xy,m100]<;>rfl
   have mR:fr 1101=.vec g 14 ((T.take i).map fun x=>V.pav (F x)):=by rw[hm 1101 xy,mR0]<;>rfl
   have n12:=hn12 12 xy;clear hf hm hn12 h30 h40 h60 h100 h410 h420 h430 m30 m40 m60 m100 mR0 r12;have m4':=m4;simp only[PO.cells]at m4;simp only[h42,h43,Qa,seval];by_cases hlt:i<T.length
   ·obtain⟨x,hi⟩:∃x,T[i]? = some x:=⟨T[i],Qln hlt⟩;have hx:=hTm x (QlC hi);have hg:=Ky hi;have e1:=Qr i _ hlt xC;have c0:=Lc x.1 (WI (hv.keys x hx));have c1:=hel x.2 (hv.vals x hx) (Qll (HC hx) hc) (hE.1 x hx).2;have hti:((T.take i).map fun x=>V.pav (F x)).length=i:=jR
    have hFx:F x=(x.1.nsc,Zb nm P o x.2):=by rw[←hF]
    have hts:(T.take (i+1)).map (fun x=>V.pav (F x))=(T.take i).map (fun x=>V.pav (F x))++[V.pav (x.1.nsc,Zb nm P o x.2)]:=by rw[Qng,hi,←hFx];simp
    generalize x.1.nsc=y at c0 hts;generalize Zb nm P o x.2=z at c1 hts;rw[Qd,Qd y]at c0;rw[e0,Qd,Qd z]at c1;simp only[Qu,PO.cells]at c1;simp only[QB hlt,Qp,QmS,Qf,hg,n12,h10,h41,h43,m10,eE,seval];refine aC c0 ?_;simp only[QlX,Ql0,Ql6,h3,h4,m3,m4,eE,seval];refine aC c1 ?_;simp only[eE,seval];refine QK (l:=[V.pav (y,z)]) rfl rfl rfl wx ?_;refine QF (site:=1101) (g:=g) (n:=i) (xs:=(T.take i).map fun x=>V.pav (F x)) (ys:=[V.pav (y,z)]) xx j8 rfl hti.symm rfl (JN [(y,z)]) xG xI ?_;simp only[h10,h43,m10,e1,eE,seval];exact⟨T.length-(i+1),xw,_,_,i+1,g+1,rfl,rfl,xw,xM,xR,xU,(by exact h10),(by exact h41),(by exact h42),xx,j5,kI,kT,xx,kJ,xS⟩
   ·have e:i=T.length:=xw
    subst e;rw[Qm5,Eu]at mR;simp only[QI hlt,h6,h10,m6,m10,eE,seval];simp[AV.un,AV.unL,Zw,XC,mR,QlY]
  ·have b5:(o.card==5)=false:=q7
   rw[Qlu h4,Qlu h5]at he;rw[Qlu h5];have c1:=hel v hv hc he;generalize Zb nm P o v=z at c1 ⊢;rw[e0,Qd v,Qd z]at c1;simp only[Qu,PO.cells]at c1;rw[Qd v,Qd z];refine wF Tryz.func54 ?_;simp only[eK,Tryz.f54,seval];exact x5

end
end Go.Proofs.YtmlohboeoeoamaaGreatDoor.Va

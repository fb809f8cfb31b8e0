/- Parts of the proof, in order. -/
import Derived.Test.YtdhlbgejhcejcaaGreatDoorMTagencCanonical2

set_option linter.unusedSimpArgs false
namespace Go.Proofs.YtdhlbgejhcejcaaGreatDoor.Va
open Go Am Rc Bt Br

def key (o:PO):Bool:=if o.card=5 then decide (o.key≥1)&&decide (o.key≤7)&&o.key != 6 else o.key==0
def GS (P:PL)(o:PO):Bool :=
 if o.kind=10 then decide (o.target≥0)&&decide (o.target<(P.progs.length:Int))&&o.card != 3
 else if o.kind=9 then decide (o.target≥0)&&decide (o.target<(P.enums.length:Int))else isk o.kind&&o.target == -1
def Zg (P:PL)(o:PO):Bool:=UG o.alias&&decide ((o.alias.length:Int)≤4096)&&decide (o.card≥1)&&decide (o.card≤5)&&key o&&GS P o
def X5 (o:PO):Bool:=o.union == -1||o.card==2
def Jh:List PO→Int→Int→Option Int
 | [],n,_=>some n
 |o :: l,n,b=>if o.union=n then Jh l (n+1) n else if o.union = -1∨o.union=b then Jh l n o.union else none
def Z4 (g:PG):Bool:=match Jh g.ops 0 (-1)with
 |some n=>g.unions==n
 |none=>false
def Xl (k kd:Int)(b:Nat)(t:List UInt8)(l p s r:List AV):Bool :=
 isk k&&kd==k&&W7 l p s r&&(if Zb kd=true then(b:Int)==0 else t==[])&&YT k b&&decide ((t.length:Int)≤4096)&&(k != 7||UG t)
def alias:List UInt8:=[97,108,105,97,115]
def nok:List AV→Bool
 | [.int _ kd,.int _ b,.str t,.list l,.list p,.list s,.list r]=>Xl 7 kd b.toNat t l p s r
 |_=>false
def Z7 (i:PI):Bool:=match i.notes with
 | []=>true
 | [n]=>n.name==alias&&nok n.val
 |_=>false
def Jd (P:PL)(g:PG):Bool:=Z4 g&&g.ops.all fun o=>Zg P o&&X5 o
def KC (x:PE):Bool:=x.notes.isEmpty&&x.items.all Z7
def args (P:PL):Bool:=P.progs.all (Jd P)&&P.enums.all KC

theorem Qaq {α:Type}(l:List α)(p q:α→Bool):(l.all fun x=>p x&&q x)=(l.all p&&l.all q):=by
 induction l with
 |nil=>rfl
 |cons x l ih=>
  simp only[QVx,ih];cases p x<;>cases q x<;>cases l.all p<;>cases l.all q<;>rfl

theorem Qwi (k kd:Int)(b:Nat)(t:List UInt8)(l p s r:List AV)(hl:l.length≤140737488351232)(hp:p.length≤140737488351232)(hs:s.length≤140737488351232)(hr:r.length≤140737488351232) :
  Qk Tryz.prog 275 [.int .i64 k,vo kd b t l p s r] (.bool (Xl k kd b t l p s r)):=by
 have hle:=Qwg kd b t l p s r hl hp hs hr;have hw:=QOK k b;simp only[vo]at hle;have n1:(kd != k)=!(kd==k):=rfl;have n2:(k != 7)=!(k==7):=rfl;have n3:decide ((t.length:Int) > 4096)=!decide ((t.length:Int)≤4096):=(by rw[QVg];simp only[QUs,QVk,QWj];omega);refine Qmq.fn (by simp) ?_;simp only[vo,Xl,n2,eE,seval];refine aC (BD k) ?_;cases isk k
 ·simp only[QVQ,QVt,Qa,seval]
 simp only[QVZ,QV0,n1,eE,seval];cases a1:(kd==k)
 ·simp only[QVQ,QVt,Qa,seval]
 simp only[QVZ,QV0,eE,seval];refine aC hle ?_;cases(W7 l p s r&&(if Zb kd=true then(b:Int)==0 else t==[]))
 ·simp only[QVQ,QVt,Qa,seval]
 simp only[QVZ,QV0,eE,seval];refine aC hw ?_;cases YT k b
 ·simp only[QVQ,QVt,Qa,seval]
 simp only[QVZ,QV0,n3,eE,seval];cases a2:decide ((t.length:Int)≤4096)
 ·simp only[QVQ,QVt,Qa,seval]
 simp only[QVZ,QV0,n2,Qa,seval];cases a3:(k==7)
 ·simp only[QVt,QV2,Qa,seval]
 ·simp only[QV0,QV3,eE,seval];refine aC (R9 t) ?_;simp only[Qa,seval]

theorem QOL (o:PO):Qk Tryz.prog 173 [Qs o] (.bool (key o)):=by
 refine Qgo.fn (by simp) ?_;simp only[Qs,PO.cells,key,eE,seval];by_cases h:o.card=5
 ·have b0:(o.card != 5)=false:=by simp[h]
  simp only[b0,QUQ h,eE,seval];cases a1:decide (o.key≥1)<;>cases a2:decide (o.key≤7)<;>simp only[a2,QVZ,QVQ,eE,seval]
 ·have b0:(o.card != 5)=true:=by simp[h]
  simp only[b0,QUB h,eE,seval]

section
variable (P:PL)

theorem QOM (o:PO):Qk Tryz.prog 174 [P.av,Qs o] (.bool (GS P o)):=by
 have e0:P.av=.agg [.list (P.progs.map Qi),.list (P.enums.map Qq)]:=rfl;refine Qgy.fn (by simp) ?_;simp only[e0,Qs,PO.cells,GS,eE,seval];by_cases h:o.kind=10
 ·have b0:(o.kind==10)=true:=by simp[h]
  simp only[b0,QUQ h,eE,seval];cases a1:decide (o.target≥0)<;>cases a2:decide (o.target<(P.progs.length:Int))<;>simp only[a2,QVZ,QVQ,QVh,eE,seval]
 ·have b0:(o.kind==10)=false:=by simp[h]
  by_cases h9:o.kind=9
  ·have b1:(o.kind==9)=true:=by simp[h9]
   simp only[b0,b1,QUB h,QUQ h9,eE,seval];cases a1:decide (o.target≥0)<;>simp only[QVZ,QVQ,QVh,eE,seval]
  ·have b1:(o.kind==9)=false:=by simp[h9]
   simp only[b0,b1,QUB h,QUB h9,eE,seval];refine aC (BD o.kind) ?_;cases isk o.kind<;>simp only[QVZ,QVQ,eE,seval]

def UnI (g:PG)(k:Nat)(st:St):Prop :=
 ∃f fr i n b,st=⟨f,[fr],[]⟩∧k=g.ops.length-i∧i≤g.ops.length∧(g.ops.take i).all X5=true∧Jh g.ops 0 (-1)=Jh (g.ops.drop i) n b∧0≤n∧n≤i∧-1≤b∧b<n∧f 1=.ptr 0 1 0∧f 3=.int .i64 (n-1)∧f 4=.int .i64 b∧
  f 8=.list (g.ops.map fun o=>.agg o.cells)∧f 9=.int .i64 (g.ops.length:Nat)∧f 10=.int .i64 (i:Nat)∧fr 1=.cells g.cells∧∀s∈[6],(fr s).isRow=false

theorem GT {l:List PO}{i:Nat}{o:PO}(h:l[i]? = some o)(n b:Int):Jh (l.drop i) n b=if o.union=n then Jh (l.drop (i+1)) (n+1) n else if o.union = -1∨o.union=b then Jh (l.drop (i+1)) n o.union else none:=by
 have hlt:i<l.length:=(QUn.1 h).1;rw[QU5 hlt,show l[i]=o from(QUn.1 h).2];rfl

theorem QON (g:PG)(hl:g.ops.length≤9223372036854775000):Qk Tryz.prog 170 [Qi g] (.bool (g.ops.all X5&&Z4 g)):=by
 refine Qf7.fn (by simp) ?_;simp only[Qi,PG.cells,QVh,eE,seval];refine Qd (UnI g) _ ⟨_,_,0,0,-1,rfl,rfl,QUv _,rfl,rfl,by decide,by decide,by decide,by decide,(by rfl),(by rfl),(by rfl),(by rfl),(by rfl),(by rfl),(by rfl),by simp<;>rfl⟩ ?_;rintro _ st ⟨f0,fr0,i,n,b,rfl,rfl,hil,hu,hj,hn0,hni,hb1,hbn,h10,h30,h40,h80,h90,hA0,m10,r6⟩;refine QK (a:=_) [6] r6 ?_;intro f fr hf hm hn6;have h1:f 1=.ptr 0 1 0:=by rw[hf,h10]<;>rfl
 have h3:f 3=.int .i64 (n-1):=by rw[hf,h30]<;>rfl
 have h4:f 4=.int .i64 b:=by rw[hf,h40]<;>rfl
 have h8:f 8=.list (g.ops.map fun o=>.agg o.cells):=by rw[hf,h80]<;>rfl
 have h9:f 9=.int .i64 (g.ops.length:Nat):=by rw[hf,h90]<;>rfl
 have hA:f 10=.int .i64 (i:Nat):=by rw[hf,hA0]<;>rfl
 have m1:fr 1=.cells g.cells:=by rw[hm 1 (by decide),m10]<;>rfl
 have n6:=hn6 6 (by decide);clear hf hm hn6 h10 h30 h40 h80 h90 hA0 m10 r6;simp only[PG.cells]at m1;have w0:IntKind.i64.wrap (n-1+1)=n:=by rw[QF];omega
 simp only[h9,hA,Qa,seval];by_cases hlt:i<g.ops.length
 ·obtain⟨o,hi⟩:∃o,g.ops[i]? = some o:=⟨g.ops[i],QUo hlt⟩;have hg:(g.ops.map fun o=>AV.agg o.cells)[i]? = some (.agg o.cells):=by simp[hi]
  have e1:=Qm i _ hlt (by simp only[maxLen];omega);have ht:=Q6 (q:=X5) hi;rw[hu,QVZ]at ht;have hbad:X5 o=false→g.ops.all X5=false:=fun h=>by
   rw[QWd];intro h';rw[QUz.1 h' o (QUA hi)]at h;cases h
  rw[GT hi]at hj;have fin:∀(f':Fr) (fr':Nat→Ob) (n':Int),X5 o=true→(if o.union=n then n'=n+1 else n'=n)→Jh g.ops 0 (-1)=Jh (g.ops.drop (i+1)) n' o.union→(o.union=n∨o.union = -1∨o.union=b)→f' 1=.ptr 0 1 0→f' 3=.int .i64 (n'-1)→f' 4=.int .i64 o.union→
    f' 8=.list (g.ops.map fun o=>.agg o.cells)→f' 9=.int .i64 (g.ops.length:Nat)→f' 10=.int .i64 ((i+1:Nat):Int)→fr' 1=.cells g.cells→(∀s∈[6],(fr' s).isRow=false)→∃k,k<g.ops.length-i∧UnI g k ⟨f',[fr'],[]⟩:=by
   intro f' fr' n' a b' c d e1 e3 e4 e8 e9 eA em er;refine⟨g.ops.length-(i+1),by omega,f',fr',i+1,n',o.union,rfl,rfl,by omega,by rw[ht,a],c,?_,?_,?_,?_,e1,e3,e4,e8,e9,eA,em,er⟩<;>split at b'<;>omega
  simp only[PO.cells]at hg;simp only[Ql hlt,Qh,QVN,Qb,hg,PO.cells,n6,h8,hA,eE,seval];by_cases a1:o.union = -1
  ·have b1:(o.union != -1)=false:=by simp[a1]
   have hk:X5 o=true:=by simp[X5,a1]
   rw[QUB (by omega),QUQ (.inl a1)]at hj;have mx:(if n-1<o.union then o.union else n-1)=n-1:=QUB (by omega);simp only[b1,h3,hA,mx,e1,eE,seval];exact fin _ _ n hk (by rw[QUB (by omega)]) hj (.inr (.inl a1)) (by exact h1) (by rfl) (by rfl) (by exact h8) (by exact h9) (by rfl) (by exact m1) (by simp<;>rfl)
  have b1:(o.union != -1)=true:=by simp[a1]
  by_cases a2:o.card=2
  case neg=>
   have b2:(o.card != 2)=true:=by simp[a2]
   have hk:X5 o=false:=by simp[X5,a1,a2]
   simp only[b1,b2,hbad hk,QVQ,eE,seval]
  have b2:(o.card != 2)=false:=by simp[a2]
  have hk:X5 o=true:=by simp[X5,a2]
  by_cases a3:o.union=n
  ·have b3:(o.union != n)=false:=by simp[a3]
   rw[QUQ a3,←a3]at hj;have mx:(if n-1<o.union then o.union else n-1)=o.union:=QUQ (by omega);simp only[b1,b2,b3,h3,hA,w0,mx,e1,eE,seval];exact fin _ _ (o.union+1) hk (by rw[QUQ a3,a3]) hj (.inl a3) (by exact h1) (by simp only[Qa,seval];congr 1;omega) (by rfl) (by exact h8) (by exact h9) (by rfl) (by exact m1) (by simp<;>rfl)
  have b3:(o.union != n)=true:=by simp[a3]
  by_cases a4:o.union=b
  ·have b4:(o.union != b)=false:=by simp[a4]
   rw[QUB a3,QUQ (.inr a4)]at hj;have mx:(if n-1<o.union then o.union else n-1)=n-1:=QUB (by omega);simp only[b1,b2,b3,b4,h3,h4,hA,w0,mx,e1,eE,seval];exact fin _ _ n hk (by rw[QUB a3]) hj (.inr (.inr a4)) (by exact h1) (by rfl) (by rfl) (by exact h8) (by exact h9) (by rfl) (by exact m1) (by simp<;>rfl)
  ·have b4:(o.union != b)=true:=by simp[a4]
   rw[QUB a3,QUB (by omega)]at hj;have hun:Z4 g=false:=by unfold Z4;rw[hj]
   simp only[b1,b2,b3,b4,hun,QWk,h3,h4,w0,eE,seval]
 ·rw[QUV (by omega)]at hu;rw[QUY (by omega)]at hj;have hun:Z4 g=(g.unions==n):=by unfold Z4;rw[hj];rfl
  simp only[Qx hlt,h1,h3,m1,w0,hu,hun,QVZ,eE,seval]

theorem QOO (o:PO)(fr2 fr:Nat→Ob)(h1:fr 1=.cells [.list (P.progs.map Qi),.list (P.enums.map Qq)]):Qg Tryz.prog 171 [Qs o,.ptr 7 1 0] [Qc,Qc,Qc,fr2,Qc,Qc,Qc,fr] fun y m1=>y=.bool (!Zg P o)∧m1=[Qc,Qc,Qc,fr2,Qc,Qc,Qc,fr]:=by
 have n1:decide ((o.alias.length:Int) > 4096)=!decide ((o.alias.length:Int)≤4096):=(by rw[QVg];simp only[QUs,QVk,QWj];omega);have n2:decide (o.card<1)=!decide (o.card≥1):=(by rw[QVg];simp only[QUs,QVk,QWj];omega);have n3:decide (o.card > 5)=!decide (o.card≤5):=(by rw[QVg];simp only[QUs,QVk,QWj];omega);have hk:=QOL o;have ha:Qk Tryz.prog 174 [.agg [.list (P.progs.map Qi),.list (P.enums.map Qq)],Qs o] (.bool (GS P o)):=QOM P o;simp only[Qs,PO.cells]at hk ha;refine Qgc.go (by simp) ?_;simp only[Qs,PO.cells,Zg,eE,seval];refine aC (R9 o.alias) ?_;cases UG o.alias
 ·simp only[QVQ,QVt,Qa,seval]
 simp only[QVZ,QV0,n1,eE,seval];cases a1:decide ((o.alias.length:Int)≤4096)
 ·simp only[QVQ,QVt,Qa,seval]
 simp only[n2,QVZ,QV0,eE,seval];cases a2:decide (o.card≥1)
 ·simp only[QVQ,QVt,Qa,seval]
 simp only[n3,QVZ,QV0,eE,seval];cases a3:decide (o.card≤5)
 ·simp only[QVQ,QVt,Qa,seval]
 simp only[QVZ,QV0,eE,seval];refine aC hk ?_;cases key o
 ·simp only[QVQ,QVt,Qa,seval]
 simp only[QVZ,QV0,h1,eE,seval];refine aC ha ?_;simp only[Qa,seval]

theorem QOP (g:PG)(hl:g.ops.length≤9223372036854775000)(fr:Nat→Ob)(h1:fr 1=.cells [.list (P.progs.map Qi),.list (P.enums.map Qq)]) :
  Qg Tryz.prog 169 [Qi g,.ptr 3 1 0] [Qc,Qc,Qc,fr] fun y m1=>y=.bool (!Jd P g)∧m1=[Qc,Qc,Qc,fr]:=by
 have hu:=QON g hl;have e:Jd P g=((g.ops.all X5&&Z4 g)&&g.ops.all (Zg P)):=by
  unfold Jd;rw[show(g.ops.all fun o=>Zg P o&&X5 o)=(g.ops.all (Zg P)&&g.ops.all X5)from Qaq ..];cases Z4 g<;>cases g.ops.all (Zg P)<;>cases g.ops.all X5<;>rfl
 simp only[Qi,PG.cells]at hu;refine QfT.go (by simp) ?_;simp only[Qi,PG.cells,e,eE,seval];refine aC hu ?_;cases(g.ops.all X5&&Z4 g)
 ·simp only[QVQ,QVt,Qa,seval]
 simp only[QVZ,QV0,eE,seval];refine Qj (BI g.ops (by simp only[maxLen];omega) (fun o=>!Zg P o) 171 [.ptr 4 1 0] _ fun o _=>QOO P o _ fr h1) (by simp only[QUT,QVn,Qa,seval]<;>rfl) ?_;simp only[Xs,Qa,seval]

end

def CA:Be:=fun k=>match k with
 |247=>some (QuB,QuC,16)
 |_=>none
theorem Vn:Gz Tryz.prog CA:=by
 intro k c rs N h;unfold CA at h;split at h
 ·cases h;exact QMO
 ·cases h
def Py:Option (AV×Qo)→Bool
 |some (.mp ks vs,_)=>match JK alias ks vs with
  |some (.agg [.int .i64 a,.int .i64 b])=>a==7&&b==84
  |_=>false
 |_=>false
theorem Pz:Py (Ys Ev.nat CA (Jf Ev.nat CA 300) 247 [] [])=true:=by decide +kernel
theorem Qwj:∃ks vs,Qk Tryz.prog 247 [] (.mp ks vs)∧JK alias ks vs=some (.agg [.int .i64 7,.int .i64 84]):=by
 have h:=Pz;unfold Py at h;split at h
 ·rename_i ks vs m' h1;split at h
  ·rename_i a b h2;simp only[QUL,QUt]at h;obtain⟨rfl,rfl⟩:=h;exact⟨ks,vs,(W0 Ev.nat_ok Vn (MK Ev.nat_ok Vn 300) _ _ _ _ _ h1).mono fun _ _ e=>e.1,h2⟩
  ·cases h
 ·cases h

theorem QOQ:Qk Tryz.prog 274 [.str alias] (.int .i64 7):=by
 obtain⟨ks,vs,h1,h2⟩:=Qwj;have hg:AV.gr (.agg [.int .i64 7,.int .i64 84])=true:=rfl;refine QNi.fn (by simp) ?_;simp only[Qa,seval];refine aC h1 ?_;simp only[WS,h2,hg,Qa,seval]

section
variable (kd:Int)(b:Nat)(t:List UInt8)(l p s r:List AV)(hl:l.length≤140737488351232)(hp:p.length≤140737488351232)(hs:s.length≤140737488351232)(hr:r.length≤140737488351232)

def nv:AV:=.agg [.str alias,.int .i64 kd,.int .u64 (b:Nat),.str t,.list l,.list p,.list s,.list r]

include hl hp hs hr in
theorem QOR:Qk Tryz.prog 248 [nv kd b t l p s r] (.bool (Xl 7 kd b t l p s r)):=by
 have hf:=Qwi 7 kd b t l p s r hl hp hs hr;have b0:((7:Int) != 0)=true:=rfl;simp only[vo]at hf;refine QMR.fn (by simp) ?_;simp only[nv,eE,seval];refine aC QOQ ?_;simp only[b0,eE,seval];refine aC hf ?_;simp only[Qa,seval]

include hl hp hs hr in
theorem QOS (last:List UInt8):Qk Tryz.prog 222 [nv kd b t l p s r,.int .i64 4,.str last,.bool false] (.int .i64 (if Xl 7 kd b t l p s r=true then 0 else 12)):=by
 have hf:=QOR kd b t l p s r hl hp hs hr;obtain⟨ks,vs,h1,h2⟩:=Qwj;have hg:AV.gr (.agg [.int .i64 7,.int .i64 84])=true:=rfl;have b0:decide ((4:Int)<1)=false:=rfl;have b1:decide ((4:Int) > 6)=false:=rfl;have b2:(0≤(4:Int))=True:=by simp
 have b3:(bits .and .i64 (Int.fdiv 84 (2 ^ min 4 64)) 1==0)=false:=by decide
 have b4:(bits .and .i64 ((84:Int).fdiv (2 ^ (min (4:Int).toNat IntKind.i64.bits))) 1==0)=false:=by decide
 simp only[nv]at hf;refine QMi.fn (by simp) ?_;simp only[nv,eE,seval];refine aC h1 ?_;simp only[h2,hg,b2,b3,eE,seval];refine aC hf ?_;cases Xl 7 kd b t l p s r
 ·simp only[QVt,QUG,Qa,seval]
 ·simp only[QV0,Qa,seval]

def NcI (k:Nat)(st:St):Prop :=
 ∃f fr i,st=⟨f,[fr],[]⟩∧k=1-i∧i≤1∧(i=0→∃last,f 5=.str last)∧(i=1→Xl 7 kd b t l p s r=true)∧f 1=.int .i64 4∧f 12=.list [nv kd b t l p s r]∧f 13=.int .i64 1∧f 14=.int .i64 (i:Nat)∧∀s∈[7],(fr s).isRow=false

include hl hp hs hr in
theorem QOT:Qk Tryz.prog 177 [.list [nv kd b t l p s r],.int .i64 4] (.int .i64 (if Xl 7 kd b t l p s r=true then 0 else 12)):=by
 have b0:decide (((1:Nat):Int) > 8)=false:=rfl;refine QLH.fn (by simp) ?_;simp only[QUC,QVi,QU3,Qa,seval];refine Qd (NcI kd b t l p s r) 1 ⟨_,_,0,rfl,rfl,QUv _,fun _=>⟨[],(by rfl)⟩,(fun h=>by cases h),(by rfl),(by rfl),(by rfl),(by rfl),by simp<;>rfl⟩ ?_;rintro _ st ⟨f0,fr0,i,rfl,rfl,hi,hl5,hf,h10,h120,h130,h140,r7⟩;refine QK (a:=_) [7] r7 ?_;intro f fr hff hm hn7;have h1:f 1=.int .i64 4:=by rw[hff,h10]<;>rfl
 have h12:f 12=.list [nv kd b t l p s r]:=by rw[hff,h120]<;>rfl
 have h13:f 13=.int .i64 1:=by rw[hff,h130]<;>rfl
 have h14:f 14=.int .i64 (i:Nat):=by rw[hff,h140]<;>rfl
 have h5:i=0→∃last,f 5=.str last:=fun h=>by
  obtain⟨la,e⟩:=hl5 h;exact⟨la,by rw[hff,e]<;>rfl⟩
 have n7:=hn7 7 (by decide);clear hff hm hn7 h10 h120 h130 h140 r7 hl5;have ho:=fun la=>QOS kd b t l p s r hl hp hs hr la
 simp only[nv]at ho h12;simp only[h13,h14,Qa,seval];rcases Nat.le_one_iff_eq_zero_or_eq_one.1 hi with rfl|rfl
 ·obtain⟨la,h5⟩:=h5 rfl;have c0:decide (((0:Nat):Int)<1)=true:=rfl;have c1:decide (((0:Nat):Int) > 0)=false:=rfl;have e1:IntKind.i64.wrap (((0:Nat):Int)+1)=((1:Nat):Int):=rfl;have z0:(0≤((0:Nat):Int))=True:=by simp
  have z1:Int.toNat ((0:Nat):Int)=0:=rfl;simp only[Qb,n7,h1,h5,h12,h14,eE,seval];refine aC (ho la) ?_;cases hfv:Xl 7 kd b t l p s r
  ·have d0:((12:Int) != 0)=true:=rfl;simp only[d0,QUG,Qa,seval]
  ·have d0:((0:Int) != 0)=false:=rfl;simp only[d0,h14,eE,seval];exact⟨0,by omega,_,_,1,rfl,rfl,QUm _,(fun h=>by cases h),fun _=>hfv,(by exact h1),(by exact h12),(by exact h13),(by rfl),by simp<;>rfl⟩
 ·have c0:decide (((1:Nat):Int)<1)=false:=rfl;simp only[hf rfl,Qa,seval]

end

theorem CB {M:Nat}{n:PN}(h:n.ok Tryz.prog M 32)(hM:M≤140737488351232):∃kd b t l p s r,n.val=[.int .i64 kd,.int .u64 ((b:Nat):Int),.str t,.list l,.list p,.list s,.list r]∧t.length≤M∧l.length≤140737488351232∧p.length≤140737488351232∧s.length≤140737488351232∧r.length≤140737488351232:=by
 obtain⟨_,k,hk⟩:=h;obtain⟨k,h⟩:=Zj Tryz.underlying32 hk;simp only[Q7.HasL]at h;obtain⟨_,_,e,h0,_,_,rfl,h1,_,_,rfl,h2,_,_,rfl,h3,_,_,rfl,h4,_,_,rfl,h5,_,_,rfl,h6,rfl⟩:=h;obtain⟨a0,rfl,w0⟩:=XA Tryz.underlying3 h0;obtain⟨a1,rfl,w1⟩:=XA Tryz.underlying26 h1;obtain⟨a2,rfl,w2⟩:=JA Tryz.underlying9 h2;obtain⟨_,l3,rfl,w3,_⟩:=We Tryz.underlying27 h3;obtain⟨_,l4,rfl,w4,_⟩:=We Tryz.underlying28 h4;obtain⟨_,l5,rfl,w5,_⟩:=We Tryz.underlying29 h5;obtain⟨_,l6,rfl,w6,_⟩:=We Tryz.underlying30 h6;have hb:0≤a1:=Bc w1;obtain⟨b,rfl⟩:=QV1 hb;exact⟨a0,b,a2,_,_,_,_,e,w2,by simp;omega,by simp;omega,by simp;omega,by simp;omega⟩

theorem QOU {M:Nat}(hM:M≤140737488351232)(x:PI)(hx:x.ok M)(m:Qo):Qg Tryz.prog 176 [Q5 x] m fun y m1=>y=.bool (!Z7 x)∧m1=m:=by
 have z0:(0≤(0:Int))=True:=by simp
 have z1:Int.toNat 0=0:=rfl;refine QLE.go (by simp) ?_;simp only[Q5,PI.cells,QVh,eE,seval];rcases hn:x.notes with _|⟨n,_|⟨n2,ns⟩⟩
 ·have c0:decide (((0:Nat):Int) > 1)=false:=rfl;have c1:(((0:Nat):Int)==1)=false:=rfl;have e:Z7 x=true:=by unfold Z7;rw[hn]
  simp only[QVi,QVn,e,QV0,eE,seval]
 ·obtain⟨kd,b,t,l,p,s,r,hv,ht,h3,h4,h5,h6⟩:=CB (hx.notes n (by rw[hn];simp)) hM;have c0:decide (((1:Nat):Int) > 1)=false:=rfl;have c1:(((1:Nat):Int)==1)=true:=rfl;have e:Z7 x=(n.name==alias&&Xl 7 kd b t l p s r):=by
   unfold Z7;rw[hn];show(n.name==alias&&nok n.val)=_;rw[hv];rfl
  have en:Xy n.cells=.agg [.str n.name,.int .i64 kd,.int .u64 ((b:Nat):Int),.str t,.list l,.list p,.list s,.list r]:=by
   rw[PN.cells,hv];rfl
  have hne:(!(n.name==[97,108,105,97,115]))=!(n.name==alias):=rfl;have hc:=QOT kd b t l p s r h3 h4 h5 h6;simp only[nv]at hc;simp only[QUC,QVi,QUT,QVn,QU3,en,Qb,z0,z1,QVo,QH,hne,e,eE,seval];by_cases ha:n.name=alias
  ·have b0:(n.name==alias)=true:=by simp[ha]
   rw[←ha]at hc;simp only[b0,QV0,QVZ,eE,seval];refine aC hc ?_;cases Xl 7 kd b t l p s r
   ·have d0:((12:Int) != 0)=true:=rfl;simp only[QUG,d0,QVt,Qa,seval]
   ·have d0:((0:Int) != 0)=false:=rfl;simp only[d0,QV0,Qa,seval]
  ·have b0:(n.name==alias)=false:=by simp[ha]
   simp only[b0,QVt,QVQ,Qa,seval]
 ·have c0:decide ((((ns.length+1+1:Nat)):Int) > 1)=true:=QWi (by omega);have e:Z7 x=false:=by unfold Z7;rw[hn]
  simp only[QUC,c0,e,QVt,Qa,seval]

theorem QOV {M:Nat}(hM:M≤140737488351232)(x:PE)(hx:x.ok M)(m:Qo):Qg Tryz.prog 175 [Qq x] m fun y m1=>y=.bool (!KC x)∧m1=m:=by
 have n1:decide ((x.notes.length:Int) > 0)=!x.notes.isEmpty:=by
  cases x.notes with
  |nil=>rfl
  |cons a l=>simp
 refine QLB.go (by simp) ?_;simp only[Qq,PE.cells,QVh,KC,n1,eE,seval];cases a1:x.notes.isEmpty
 ·simp only[QVt,QVQ,Qa,seval]
 simp only[QV0,QVZ,eE,seval];refine Qj (Cx x.items hx.len1 (fun o=>!Z7 o) 176 [] _ fun o ho=>QOU hM o (hx.items o ho) _) (by simp only[QUT,QVn,Qa,seval]<;>rfl) ?_;simp only[Xs,Qa,seval]

theorem z87 {M:Nat}(hM:M≤140737488351232)(P:PL)(hP:P.ok M)(hl:∀g∈P.progs,g.ops.length≤64):Qk Tryz.prog 87 [P.av] (.bool (!args P)):=by
 have e0:P.av=.agg [.list (P.progs.map Qi),.list (P.enums.map Qq)]:=rfl;refine k87.fn (by simp) ?_;simp only[e0,args,eE,seval];refine Qj (DG P.progs hP.len1 (fun g=>!Jd P g) 169 [.ptr 0 1 0] _ fun o ho=>QOP P o (QUl (hl o ho) (by decide)) _ (by rfl)) (by simp only[QUT,QVn,Qa,seval]<;>rfl) ?_;simp only[Xs,Qa,seval];cases P.progs.all (Jd P)
 ·simp only[QVt,QVQ,Qa,seval]
 simp only[QV0,QVZ,eE,seval];refine Qj (HI P.enums hP.len2 (fun g=>!KC g) 175 [] _ fun o ho=>QOV hM o (hP.enums o ho) _) (by simp only[QUT,QVn,Qa,seval]<;>rfl) ?_;simp only[Xs,Qa,seval]

def XJ (B:List Bool)(o:PO):Bool:=o.card==1&&o.kind==10 && !(B[o.target.toNat]?.getD false)
def UI (G:List PG)(B:List Bool)(i:Nat):List Bool:=match G[i]? with
 |some g=>B.set i (!g.ops.any (XJ B))
 |none=>B
def Ji (G:List PG)(B:List Bool):Nat→List Bool
 |0=>B
 |i+1=>UI G (Ji G B i) i
def Qe (G:List PG):Nat→List Bool
 |0=>List.replicate G.length false
 |c+1=>Ji G (Qe G c) G.length
def fin (P:PL):Bool:=(Qe P.progs P.progs.length).all id

def PA (P:PL):Prop:=∀g∈P.progs,∀o∈g.ops,o.kind=10→0≤o.target∧o.target<(P.progs.length:Int)

theorem Qar (G:List PG)(B:List Bool)(i:Nat):(UI G B i).length=B.length:=by
 unfold UI;split<;>simp
theorem U6 (G:List PG)(B:List Bool):∀i,(Ji G B i).length=B.length
 |0=>rfl
 |i+1=>by rw[Ji,Qar,U6 G B i]
theorem U7 (G:List PG):∀c,(Qe G c).length=G.length
 |0=>by simp[Qe]
 |c+1=>by rw[Qe,U6,U7 G c]

def Vo (G:List PG)(B:List Bool):Prop:=∀(i:Nat) (g:PG),G[i]? = some g→B[i]? = some true→g.ops.any (XJ B)=false

theorem PB {B B':List Bool}(h:∀k:Nat,B[k]?.getD false=true→B'[k]?.getD false=true){o:PO}(hn:XJ B o=false):XJ B' o=false:=by
 unfold XJ at *;cases hc:(o.card==1&&o.kind==10)
 ·rfl
 ·rw[hc]at hn;simp only[QVZ,Bool.not_eq_false']at hn ⊢;rw[h _ hn]

theorem Qas {G:List PG}{B:List Bool}(h:Vo G B)(i:Nat):Vo G (UI G B i)∧∀k:Nat,B[k]?.getD false=true→(UI G B i)[k]?.getD false=true:=by
 have mono:∀k:Nat,B[k]?.getD false=true→(UI G B i)[k]?.getD false=true:=by
  intro k hk;unfold UI;split
  ·rename_i g hg;by_cases hki:i=k
   ·subst hki;have hb:B[i]? = some true:=by
     cases hB:B[i]? with
     |none=>rw[hB]at hk;cases hk
     |some b=>rw[hB]at hk;simp at hk;rw[hk]
    have hlt:=(QUn.1 hb).1;rw[List.getElem?_set_self hlt,h i g hg hb];rfl
   ·rw[QWo hki];exact hk
  ·exact hk
 refine⟨fun j g hg hb=>?_,mono⟩;rw[List.any_eq_false];intro o ho;rw[QWp];have hB:B[j]? = some true∨g.ops.any (XJ B)=false:=by
  unfold UI at hb;split at hb
  ·rename_i g' hg';by_cases hij:i=j
   ·subst hij;rw[hg]at hg';cases hg'
    right
    by_cases hlt:i<B.length
    ·rw[List.getElem?_set_self hlt]at hb
     simpa using hb
    ·rw[QVK (by simp;omega)]at hb;cases hb
   ·rw[QWo hij]at hb;exact .inl hb
  ·exact .inl hb
 have ha:g.ops.any (XJ B)=false:=hB.elim (h j g hg) id;rw[List.any_eq_false]at ha;exact PB mono (by simpa using ha o ho)

theorem DI {G:List PG}{B:List Bool}(h:Vo G B):∀i,Vo G (Ji G B i)
 |0=>h
 |i+1=>(Qas (DI h i) i).1
theorem Vq (G:List PG):∀c,Vo G (Qe G c)
 |0=>by
  intro i g _ hb;rw[Qe,List.getElem?_replicate]at hb;split at hb<;>cases hb
 |c+1=>DI (Vq G c) _

theorem Qwk {G:List PG}{B:List Bool}(h:Vo G B){i:Nat}{g:PG}{b:Bool}(hg:G[i]? = some g)(hb:B[i]? = some b):UI G B i=B.set i (b || !g.ops.any (XJ B)):=by
 unfold UI;rw[hg];cases b with
 |false=>rfl
 |true=>
  show B.set i _=B.set i (true||_);rw[h i g hg hb];rfl

theorem CC {P:Program}{f:Fr}{d:Nat}{Qe:List Am.Item}{m:Qo}{ds:List DF}{K:St→Prop}{k l s:Nat}{args:List RA}{ys:List AV}{v:AV}(hk:Qg P k ys m fun x m1=>x=v∧m1=m)(hy:args.map (RA.ev f)=ys)(h:QE P Qe ⟨QI f d v,m,ds⟩ K) :
  QE P (⟨some d,.callK l s (.f k) args,none⟩ :: Qe) ⟨f,m,ds⟩ K:=by
 refine⟨k,[],[],v,m,rfl,?_,rfl,h⟩;show Qg P k (args.map (RA.ev f)++[]) m fun x m1=>x=v∧m1=m
 rw[QVp,hy];exact hk

theorem QOW (B:List Bool)(hl:B.length≤maxLen):Qk Tryz.prog 223 [.list (B.map AV.bool),.bool false] (.int .i64 (Q0 (fun b=>!b) B 0)):=by
 let I:Nat→St→Prop:=fun k st=>∃f i,st=⟨f,[Qc],[]⟩∧k=B.length-i∧Q0 (fun b=>!b) B 0=Q0 (fun b=>!b) (B.drop i) i∧f 0=.list (B.map AV.bool)∧f 1=.bool false∧f 7=.int .i64 (B.length:Nat)∧f 8=.int .i64 (i:Nat)
 refine Qj2.fn (by simp) ?_;simp only[QVh,Qa,seval];refine Qd I _ ⟨_,0,rfl,rfl,rfl,(by rfl),(by rfl),(by rfl),(by rfl)⟩ ?_;rintro _ st ⟨f,i,rfl,rfl,hx,h0,h1,h7,h8⟩;simp only[h7,h8,Qa,seval];by_cases hlt:i<B.length
 ·obtain⟨x,hi⟩:∃x,B[i]? = some x:=⟨B[i],QUo hlt⟩;have hg:(B.map AV.bool)[i]? = some (.bool x):=by simp[hi]
  have e1:=Qm i _ hlt hl;rw[Ze _ hi]at hx;cases x
  ·rw[QUQ (show(!false)=true from rfl)]at hx;have b0:(false==false)=true:=rfl;simp only[Ql hlt,Qh,QVN,Qb,hg,b0,h0,h1,h8,hx,eE,seval]
  ·rw[QUB (by decide)]at hx;have b0:(false==true)=false:=rfl;simp only[Ql hlt,Qh,QVN,Qb,hg,b0,h0,h1,h8,e1,eE,seval];exact⟨B.length-(i+1),by omega,_,i+1,rfl,rfl,hx,(by exact h0),(by exact h1),(by exact h7),(by rfl)⟩
 ·have hx':Q0 (fun b=>!b) B 0 = -1:=by rw[hx,QUY (by omega)];rfl
  simp only[Qx hlt,hx',Qa,seval]

theorem QOX (B:List Bool)(hl:B.length≤maxLen):Qk Tryz.prog 179 [.list (B.map AV.bool),.bool false] (.bool (!B.all id)):=by
 have e:(!B.all id)=B.any fun b=>!b:=by rw[Xs];rfl
 refine QgI.fn (by simp) ?_;simp only[Qa,seval];refine aC (QOW B hl) ?_;simp only[JR,e,Qa,seval]

theorem QOY (o:PO)(n:Nat)(B:List Bool)(hB:B.length=n)(ht:o.kind=10→0≤o.target∧o.target<(n:Int))(fr:Nat→Ob)(m:Qo)(h3:fr 3=.cells [.vec 0 9 1 0 n false])(h9:fr 9=.vec 1 1 (B.map AV.bool)) :
  Qg Tryz.prog 178 [Qs o,.ptr 3 3 0] (Qc :: Qc :: Qc :: fr :: m) fun y m1=>y=.bool (XJ B o)∧m1=Qc :: Qc :: Qc :: fr :: m:=by
 refine QgD.go (by simp) ?_;simp only[Qs,PO.cells,XJ,eE,seval];cases a1:(o.card==1)
 ·simp only[QVQ,Qa,seval]
 cases a2:(o.kind==10)
 ·simp only[a2,QVQ,QWk,eE,seval]
 obtain⟨t1,t2⟩:=ht (by simpa using a2);obtain⟨t,hte⟩:=QV1 t1;obtain⟨y,hy⟩:∃y,B[t]? = some y:=⟨B[t]'(by omega),QUo (by omega)⟩;have hg:(B.map AV.bool)[t]? = some (.bool y):=by simp[hy]
 have hlt:(t<n)=True:=eq_true (by omega);simp only[a2,hte,hy,hg,hlt,h3,h9,Qb,Qh,QVN,QVw,QVZ,QU3,eE,seval]

structure En (P:PL)(c:Nat)(B:List Bool)(f:Fr)(fr:Nat→Ob):Prop where
 h1:f 1=.ptr 0 1 0
 m1:fr 1=.cells [.list (P.progs.map Qi),.list (P.enums.map Qq)]
 h3:f 3=.ptr 0 3 0
 m3:fr 3=.cells [.vec 0 9 1 0 P.progs.length false]
 m9:fr 9=.vec 1 1 (B.map AV.bool)
 h12:f 12=.int .i64 (P.progs.length:Nat)
 h13:f 13=.int .i64 (c:Nat)
 r5:∀s∈[5],(fr s).isRow=false

theorem En.drop {P:PL}{c:Nat}{B:List Bool}{f f':Fr}{fr fr':Nat→Ob}(h:En P c B f fr)(hf:∀i,f' i=Cg [5] (f i))(hm:∀i,i∉[5]→fr' i=Gx [5] (fr i))(hn:∀i∈[5],fr' i=.none):En P c B f' fr' where
 h1:=by rw[hf,h.h1]<;>rfl
 m1:=by rw[hm 1 (by decide),h.m1]<;>rfl
 h3:=by rw[hf,h.h3]<;>rfl
 m3:=by rw[hm 3 (by decide),h.m3]<;>rfl
 m9:=by rw[hm 9 (by decide),h.m9]<;>rfl
 h12:=by rw[hf,h.h12]<;>rfl
 h13:=by rw[hf,h.h13]<;>rfl
 r5:=fun s hs=>by rw[hn s hs]<;>rfl

def EnA (P:PL)(k:Nat)(st:St):Prop:=∃f fr c,st=⟨f,[fr],[]⟩∧k=P.progs.length-c∧c≤P.progs.length∧En P c (Qe P.progs c) f fr
def EnB (P:PL)(c:Nat)(k:Nat)(st:St):Prop:=∃f fr i,st=⟨f,[fr],[]⟩∧k=P.progs.length-i∧i≤P.progs.length∧En P c (Ji P.progs (Qe P.progs c) i) f fr∧f 16=.list (P.progs.map Qi)∧f 17=.int .i64 (P.progs.length:Nat)∧f 18=.int .i64 (i:Nat)

theorem z88 {M:Nat}(P:PL)(hP:P.ok M)(hl:P.progs.length≤64)(hT:PA P):Qk Tryz.prog 88 [P.av] (.bool (!fin P)):=by
 have e0:P.av=.agg [.list (P.progs.map Qi),.list (P.enums.map Qq)]:=rfl;have hmx:P.progs.length≤maxLen:=by simp only[maxLen];omega
 have hz:JM 1 [AV.bool false]=.bool false:=rfl;have hr0:(List.replicate P.progs.length (AV.bool false))=(Qe P.progs 0).map AV.bool:=by simp[Qe]
 refine k88.fn (by simp) ?_;simp only[e0,QVh,eE,seval];refine U3 (n:=P.progs.length) (k:=P.progs.length) rfl rfl (QUm _) (by omega) (by omega) rfl ?_;simp only[hz,hr0,QVh,eE,seval];refine Qd (EnA P) _ ⟨_,_,0,rfl,rfl,QUv _,⟨(by rfl),(by rfl),(by rfl),(by rfl),(by rfl),(by rfl),(by rfl),by simp<;>rfl⟩⟩ ?_;rintro _ st ⟨f0,fr0,c,rfl,rfl,hc,H0⟩;refine QK (a:=_) [5] H0.r5 ?_;intro f fr hf hm hn;have H:=H0.drop hf hm hn;clear hf hm hn;obtain⟨h1,m1,h3,m3,m9,h12,h13,r5⟩:=id H;simp only[h12,h13,Qa,seval];by_cases hlt:c<P.progs.length
 ·have e1:=Qm c _ hlt hmx;simp only[Ql hlt,h1,m1,QVh,eE,seval];refine Qd (EnB P c) _ ⟨_,_,0,rfl,rfl,QUv _,⟨(by exact h1),(by exact m1),(by exact h3),(by exact m3),(by exact m9),(by exact h12),(by exact h13),r5⟩,(by rfl),(by rfl),(by rfl)⟩ ?_;rintro _ st ⟨f0,fr0,i,rfl,rfl,hi,H0,h160,h170,h180⟩;refine QK (a:=_) [5] H0.r5 ?_;intro f fr hf hm hn;have H:=H0.drop hf hm hn;have h16:f 16=.list (P.progs.map Qi):=by rw[hf,h160]<;>rfl
  have h17:f 17=.int .i64 (P.progs.length:Nat):=by rw[hf,h170]<;>rfl
  have h18:f 18=.int .i64 (i:Nat):=by rw[hf,h180]<;>rfl
  have n5:=hn 5 (by decide);clear hf hm hn;obtain⟨h1,m1,h3,m3,m9,h12,h13,r5⟩:=id H;simp only[h17,h18,Qa,seval];by_cases hli:i<P.progs.length
  ·obtain⟨g,hg⟩:∃g,P.progs[i]? = some g:=⟨P.progs[i],QUo hli⟩;have hgm:(P.progs.map Qi)[i]? = some (Qi g):=by simp[hg]
   have hBl:(Ji P.progs (Qe P.progs c) i).length=P.progs.length:=by rw[U6,U7]
   obtain⟨b,hb⟩:∃b,(Ji P.progs (Qe P.progs c) i)[i]? = some b:=⟨_,QUo (by omega)⟩;have hbm:((Ji P.progs (Qe P.progs c) i).map AV.bool)[i]? = some (.bool b):=by simp[hb]
   have hst:=Qwk (DI (Vq P.progs c) i) hg hb;have e2:=Qm i _ hli hmx;have s1:(i<P.progs.length)=True:=eq_true hli;have hTg:=hT g (QUA hg);generalize hBB:Ji P.progs (Qe P.progs c) i=B at *;have fin2:∀(f':Fr) (fr':Nat→Ob) (v:Bool),(b || !g.ops.any (XJ B))=v→f' 1=.ptr 0 1 0→fr' 1=.cells [.list (P.progs.map Qi),.list (P.enums.map Qq)]→f' 3=.ptr 0 3 0→fr' 3=.cells [.vec 0 9 1 0 P.progs.length false]→
     fr' 9=.vec 1 1 ((B.map AV.bool).set i (.bool v))→f' 12=.int .i64 (P.progs.length:Nat)→f' 13=.int .i64 (c:Nat)→(∀s∈[5],(fr' s).isRow=false)→f' 16=.list (P.progs.map Qi)→f' 17=.int .i64 (P.progs.length:Nat)→f' 18=.int .i64 ((i+1:Nat):Int)→∃k,k<P.progs.length-i∧EnB P c k ⟨f',[fr'],[]⟩:=by
    intro f' fr' v hv a1 a2 a3 a4 a5 a6 a7 a8 a9 a10 a11;have hB':Ji P.progs (Qe P.progs c) (i+1)=B.set i v:=by rw[Ji,hBB,hst,hv]
    exact⟨P.progs.length-(i+1),by omega,f',fr',i+1,rfl,rfl,by omega,⟨a1,a2,a3,a4,by rw[hB',a5,List.map_set],a6,a7,a8⟩,a9,a10,a11⟩
   have ist:∀(fr':Nat→Ob) (v:Bool),fr' 9=.vec 1 1 (B.map AV.bool)→QX [fr'] (.vptr 0 9 1 i 0) [.bool v]=some [QI fr' 9 (.vec 1 1 ((B.map AV.bool).set i (.bool v)))]:=by
    intro fr' v h9;have e:Am.Qf [fr'] 0 9=.vec 1 1 (B.map AV.bool):=h9;simp only[QX,e,hbm];simp[AV.cells,AV.rfL,AV.rf,Am.put,ZN]
   have ia:∀fr':Nat→Ob,fr' 9=.vec 1 1 (B.map AV.bool)→Qb [fr'] 1 none (.vec 0 9 1 0 P.progs.length false) (i:Int)=some (.vptr 0 9 1 i 0):=by
    intro fr' h9;have e:Am.Qf [fr'] 0 9=.vec 1 1 (B.map AV.bool):=h9;simp only[Qb,e,Qh,if_true,QVN];simp;omega
   have hcl:=fun(fr':Nat→Ob) (h3:fr' 3=.cells [.vec 0 9 1 0 P.progs.length false]) (h9:fr' 9=.vec 1 1 (B.map AV.bool))=>BI g.ops (hP.progs g (QUA hg)).len (XJ B) 178 [.ptr 0 3 0] [fr'] fun o ho=>QOY o P.progs.length B hBl (hTg o ho) fr' _ h3 h9
   simp only[Ql hli,Qh,QVN,Qb,hgm,Qi,PG.cells,n5,hbm,s1,QU3,h3,h16,h18,m3,m9,eE,seval];cases b
   ·simp only[eE,seval];refine CC (hcl _ (by exact m3) (by exact m9)) (by simp only[QUT,QVn,h3,Qa,seval]<;>rfl) ?_;generalize hav:g.ops.any (XJ B)=av;rw[hav]at fin2;simp only[ia,ist,h18,m9,e2,eE,seval];exact fin2 _ _ _ rfl (by exact h1) (by exact m1) (by exact h3) (by exact m3) (by rfl) (by exact h12) (by exact h13) (by simp<;>rfl) (by exact h16) (by exact h17) (by rfl)
   ·simp only[ia,ist,h18,m9,e2,eE,seval];exact fin2 _ _ _ rfl (by exact h1) (by exact m1) (by exact h3) (by exact m3) (by rfl) (by exact h12) (by exact h13) (by simp<;>rfl) (by exact h16) (by exact h17) (by rfl)
  ·have hii:i=P.progs.length:=by omega
   subst hii;simp only[Qx hli,h13,e1,Qa,seval];exact⟨P.progs.length-(c+1),by omega,_,_,c+1,rfl,rfl,by omega,⟨(by exact h1),(by exact m1),(by exact h3),(by exact m3),m9,(by exact h12),(by rfl),r5⟩⟩
 ·have hcc:c=P.progs.length:=by omega
  subst hcc;have hBl:=U7 P.progs P.progs.length;simp only[Qx hlt,h3,m3,eE,seval];refine Xx (QOX (Qe P.progs P.progs.length) (by omega)) ?_ rfl rfl (.inr rfl) ?_
  ·have el:Am.Qf [fr] 0 9=.vec 1 1 ((Qe P.progs P.progs.length).map AV.bool):=m9;simp only[QUT,QVn,AV.stillL,AV.still,el,Qa,seval];have hle:(0+P.progs.length≤((Qe P.progs P.progs.length).map AV.bool).length)=True:=eq_true (by simp;omega);have ht:((Qe P.progs P.progs.length).map AV.bool).take P.progs.length=(Qe P.progs P.progs.length).map AV.bool:=QUV (by simp;omega);simp only[QVQ,QUG,if_false,hle,if_true,ht]
  ·simp only[fin,Qa,seval]

def ck (P:PL):Int :=
 if Hu P=false then 3 else if BG P=false then 8 else if UD P=false then 11 else if BH P=false then 9 else if GQ P=false then 6 else if args P=false then 1 else if fin P=false then 19 else 0

theorem UJ {P:PL}(h:Hu P=true):P.progs.length≤64∧P.enums.length≤64∧(∀g∈P.progs,g.ops.length≤64)∧∀e∈P.enums,1≤e.items.length∧e.items.length≤64∧e.free.length≤16:=by
 unfold Hu at h;simp only[QUL,QUs,QUz]at h;obtain⟨⟨⟨h1,h2⟩,h3⟩,h4⟩:=h;refine⟨h1,h2,fun g hg=>?_,fun e he=>?_⟩
 ·have:=h3 g hg;unfold Jc at this;exact of_decide_eq_true this
 ·have:=h4 e he;unfold JE at this;simp only[QUL,QUs]at this;exact⟨this.1.1,this.1.2,this.2⟩

theorem BS {P:PL}(h:args P=true):PA P:=by
 intro g hg o ho hk;unfold args at h;simp only[QUL,QUz]at h;have h1:=h.1 g hg;unfold Jd at h1;simp only[QUL,QUz]at h1;have h2:=(h1.2 o ho).1;unfold Zg at h2;simp only[QUL]at h2;have h3:=h2.2;unfold GS at h3;rw[QUQ hk]at h3;simp only[QUL,QUs]at h3;exact⟨h3.1.1,h3.1.2⟩

theorem QOZ {M:Nat}(P:PL)(hP:P.ok M)(hM:M≤140737488351232)(hN1:∀g∈P.progs,g.name.length≤17592186044000)(hN2:∀g∈P.enums,g.name.length≤17592186044000):Qk Tryz.prog 57 [P.av] (.int .i64 (ck P)):=by
 have e0:P.av=.agg [.list (P.progs.map Qi),.list (P.enums.map Qq)]:=rfl;have c1:=z82 P hP;have c2:=QOg P hP hN1 hN2;have c3:=z84 P hP;have c4:=z85 P hP;refine k57.fn (by simp) ?_;simp only[e0,ck,eE,seval];refine aC c1 ?_;cases hl:Hu P
 ·simp only[QVt,Qa,seval]
 obtain⟨l1,l2,l3,l4⟩:=UJ hl;have c5:=z86 P hP fun e he h=>by have:=(l4 e he).1;rw[h]at this;simp at this
 have c6:=z87 hM P hP l3;simp only[QV0,QWq,eE,seval];refine aC c2 ?_;cases BG P
 ·simp only[QVt,Qa,seval]
 simp only[QV0,QWq,eE,seval];refine aC c3 ?_;cases UD P
 ·simp only[QVt,Qa,seval]
 simp only[QV0,QWq,eE,seval];refine aC c4 ?_;cases BH P
 ·simp only[QVt,Qa,seval]
 simp only[QV0,QWq,eE,seval];refine aC c5 ?_;cases GQ P
 ·simp only[QVt,Qa,seval]
 simp only[QV0,QWq,eE,seval];refine aC c6 ?_;cases ha:args P
 ·simp only[QVt,Qa,seval]
 have c7:=z88 P hP l1 (BS ha);simp only[QV0,QWq,eE,seval];refine aC c7 ?_;cases fin P
 ·simp only[QVt,Qa,seval]
 ·simp only[QV0,QWq,Qa,seval]

def Pc (P:PL):List AV:=[.list (P.progs.map Qi),.list (P.enums.map Qq)]

theorem Jr (b:Bool)(q:Nat→Bool)(i:Nat):(b&&QB q (i+1))=((b&&QB q i)&&q i):=by rw[QB,QU7]

section
variable {M:Nat}(P:PL)(hP:P.ok M)(fr:Nat→Ob)(m1:fr 1=.cells (Pc P))(f:Fr)(b:Bool)(h1:f 1=.ptr 0 1 0)(h3:f 3=.bool b)(Q:Exit→St→Prop)
include hP m1 h1 h3

theorem CD (ha:f 4=.int .i64 0)(hx:∀f,f 1=.ptr 0 1 0→f 3=.bool (b&&P.progs.all Jc)→Q (.exit 0) (⟨f,[fr],[]⟩:St)):QG Tryz.prog (.loop S7) ⟨f,[fr],[]⟩ Q:=by
 let I:Nat→St→Prop:=fun k st=>∃f i,st=⟨f,[fr],[]⟩∧k=P.progs.length-i∧i≤P.progs.length∧f 1=.ptr 0 1 0∧f 3=.bool (b&&(P.progs.take i).all Jc)∧f 4=.int .i64 (i:Nat)
 refine Qd I _ ⟨f,0,rfl,rfl,QUv _,h1,by rw[h3];simp,ha⟩ ?_;clear h1 h3 ha;simp only[Pc]at m1;rintro _ st ⟨f,i,rfl,rfl,hi,h1,h3,ha⟩;simp only[QVh,h1,m1,ha,eE,seval];by_cases hlt:i<P.progs.length
 ·obtain⟨x,hg⟩:∃x,P.progs[i]? = some x:=⟨P.progs[i],QUo hlt⟩;have hgm:(P.progs.map Qi)[i]? = some (.agg x.cells):=by simp[hg,Qi]
  have e1:=Qm i _ hlt hP.len1;have ht:=Q6 (q:=Jc) hg;have e3:decide ((x.ops.length:Int)≤64)=Jc x:=by unfold Jc ;exact(by rw[QVg];simp only[QUs];omega)
  have fin:∀f':Fr,f' 1=.ptr 0 1 0→f' 3=.bool ((b&&(P.progs.take i).all Jc)&&Jc x)→f' 4=.int .i64 ((i+1:Nat):Int)→∃k,k<P.progs.length-i∧I k ⟨f',[fr],[]⟩:=by
   intro f' a1 a3 a4;exact⟨P.progs.length-(i+1),by omega,f',i+1,rfl,rfl,by omega,a1,by rw[a3,ht,QU7],a4⟩
  simp only[PG.cells]at hgm;cases hb:(b&&(P.progs.take i).all Jc)
  ·rw[hb]at fin h3;simp only[Ql hlt,h3,ha,e1,Qa,seval];exact fin _ (by exact h1) (by rfl) (by rfl)
  ·rw[hb,QVZ]at fin;rw[hb]at h3
   skip
   all_goals
    try rw[c1]at e3
    try rw[c2]at e3
    simp only[Ql hlt,Qh,QVN,Qb,hgm,QVh,h1,m1,h3,ha,e1,e3,eE,seval];exact fin _ (by exact h1) (by rw[←e3]<;>first|rfl|simp only[eE,seval]) (by rfl)
 ·have hf:(P.progs.take i).all Jc=P.progs.all Jc:=by rw[QUV (by omega)]
  rw[hf]at h3;simp only[Qx hlt,Qa,seval];exact hx _ (by exact h1) (by exact h3)

theorem CE (ha:f 5=.int .i64 0)(hx:∀f,f 1=.ptr 0 1 0→f 3=.bool (b&&P.enums.all JE)→Q (.exit 2) (⟨f,[fr],[]⟩:St)):QG Tryz.prog (.loop S8) ⟨f,[fr],[]⟩ Q:=by
 let I:Nat→St→Prop:=fun k st=>∃f i,st=⟨f,[fr],[]⟩∧k=P.enums.length-i∧i≤P.enums.length∧f 1=.ptr 0 1 0∧f 3=.bool (b&&(P.enums.take i).all JE)∧f 5=.int .i64 (i:Nat)
 refine Qd I _ ⟨f,0,rfl,rfl,QUv _,h1,by rw[h3];simp,ha⟩ ?_;clear h1 h3 ha;simp only[Pc]at m1;rintro _ st ⟨f,i,rfl,rfl,hi,h1,h3,ha⟩;simp only[QVh,h1,m1,ha,eE,seval];by_cases hlt:i<P.enums.length
 ·obtain⟨x,hg⟩:∃x,P.enums[i]? = some x:=⟨P.enums[i],QUo hlt⟩;have hgm:(P.enums.map Qq)[i]? = some (.agg x.cells):=by simp[hg,Qq]
  have e1:=Qm i _ hlt hP.len2;have ht:=Q6 (q:=JE) hg;have e3:(decide ((x.items.length:Int)≥1)&&(decide ((x.items.length:Int)≤64)&&decide ((x.free.length:Int)≤16)))=JE x:=by unfold JE ;exact(by rw[QVg];simp only[QUs,QUL];omega)
  have fin:∀f':Fr,f' 1=.ptr 0 1 0→f' 3=.bool ((b&&(P.enums.take i).all JE)&&JE x)→f' 5=.int .i64 ((i+1:Nat):Int)→∃k,k<P.enums.length-i∧I k ⟨f',[fr],[]⟩:=by
   intro f' a1 a3 a4;exact⟨P.enums.length-(i+1),by omega,f',i+1,rfl,rfl,by omega,a1,by rw[a3,ht,QU7],a4⟩
  simp only[PE.cells]at hgm;cases hb:(b&&(P.enums.take i).all JE)
  ·rw[hb]at fin h3;simp only[Ql hlt,Qh,QVN,Qb,hgm,QVh,h1,m1,h3,ha,e1,eE,seval];exact fin _ (by exact h1) (by rfl) (by rfl)
  ·rw[hb,QVZ]at fin;rw[hb]at h3
   (cases c1:decide ((x.items.length:Int)≥1)<;>cases c2:decide ((x.items.length:Int)≤64))
   all_goals
    try rw[c1]at e3
    try rw[c2]at e3
    simp only[Ql hlt,Qh,QVN,Qb,hgm,QVh,h1,m1,h3,ha,e1,c1,c2,eE,seval];exact fin _ (by exact h1) (by rw[←e3]<;>first|rfl|simp only[eE,seval]) (by rfl)
 ·have hf:(P.enums.take i).all JE=P.enums.all JE:=by rw[QUV (by omega)]
  rw[hf]at h3;simp only[Qx hlt,Qa,seval];exact hx _ (by exact h1) (by exact h3)

theorem GU (j:Nat)(x:PG)(hj:P.progs[j]? = some x)(ha:f 4=.int .i64 (j:Nat))(hc:f 5=.int .i64 0)(hx:∀f,f 1=.ptr 0 1 0→f 3=.bool (b&&x.ops.all fun o=>XO o.name)→f 4=.int .i64 (j:Nat)→Q (.exit 2) (⟨f,[fr],[]⟩:St)):QG Tryz.prog (.loop S9) ⟨f,[fr],[]⟩ Q:=by
 let I:Nat→St→Prop:=fun k st=>∃f i,st=⟨f,[fr],[]⟩∧k=x.ops.length-i∧i≤x.ops.length∧f 1=.ptr 0 1 0∧f 3=.bool (b&&(x.ops.take i).all fun o=>XO o.name)∧f 4=.int .i64 (j:Nat)∧f 5=.int .i64 (i:Nat)
 have hjm:(P.progs.map Qi)[j]? = some (.agg x.cells):=by simp[hj,Qi]
 have hsl:x.ops.length≤maxLen:=(hP.progs x (QUA hj)).len;refine Qd I _ ⟨f,0,rfl,rfl,QUv _,h1,by rw[h3];simp,ha,hc⟩ ?_;clear h1 h3 ha hc;simp only[Pc]at m1;simp only[PG.cells]at hjm;rintro _ st ⟨f,i,rfl,rfl,hi,h1,h3,ha,hc⟩;simp only[Qh,QVN,Qb,hjm,QVh,h1,m1,ha,hc,eE,seval];by_cases hlt:i<x.ops.length
 ·obtain⟨o,hg⟩:∃o,x.ops[i]? = some o:=⟨x.ops[i],QUo hlt⟩;have hgm:(x.ops.map fun o=>AV.agg o.cells)[i]? = some (.agg o.cells):=by simp[hg]
  have e1:=Qm i _ hlt hsl;have ht:=Q6 (q:=fun o=>XO o.name) hg;have fin:∀f':Fr,f' 1=.ptr 0 1 0→f' 3=.bool ((b&&(x.ops.take i).all fun o=>XO o.name)&&XO o.name)→f' 4=.int .i64 (j:Nat)→f' 5=.int .i64 ((i+1:Nat):Int)→∃k,k<x.ops.length-i∧I k ⟨f',[fr],[]⟩:=by
   intro f' a1 a3 a4 a5;exact⟨x.ops.length-(i+1),by omega,f',i+1,rfl,rfl,by omega,a1,by rw[a3,ht,QU7],a4,a5⟩
  simp only[PO.cells]at hgm;cases hb:(b&&(x.ops.take i).all fun o=>XO o.name)
  ·rw[hb]at fin h3;simp only[Ql hlt,PO.cells,h3,hc,e1,Qa,seval];exact fin _ (by exact h1) (by rfl) (by exact ha) (by rfl)
  ·rw[hb,QVZ]at fin;rw[hb]at h3;simp only[Ql hlt,Qh,QVN,Qb,hjm,hgm,PO.cells,h1,m1,h3,ha,hc,eE,seval];refine aC (z69 o.name) ?_;simp only[hc,e1,Qa,seval];exact fin _ (by exact h1) (by rfl) (by exact ha) (by rfl)
 ·have hf:(x.ops.take i).all (fun o=>XO o.name)=x.ops.all fun o=>XO o.name:=by rw[QUV (by omega)]
  rw[hf]at h3;simp only[Qx hlt,Qa,seval];exact hx _ (by exact h1) (by exact h3) (by exact ha)

theorem CF (ha:f 4=.int .i64 0)(hx:∀f,f 1=.ptr 0 1 0→f 3=.bool (b&&P.progs.all KA)→Q (.exit 0) (⟨f,[fr],[]⟩:St)):QG Tryz.prog (.loop Ta) ⟨f,[fr],[]⟩ Q:=by
 let I:Nat→St→Prop:=fun k st=>∃f i,st=⟨f,[fr],[]⟩∧k=P.progs.length-i∧i≤P.progs.length∧f 1=.ptr 0 1 0∧f 3=.bool (b&&(P.progs.take i).all KA)∧f 4=.int .i64 (i:Nat)
 have m1':=m1;refine Qd I _ ⟨f,0,rfl,rfl,QUv _,h1,by rw[h3];simp,ha⟩ ?_;clear h1 h3 ha;simp only[Pc]at m1;rintro _ st ⟨f,i,rfl,rfl,hi,h1,h3,ha⟩;simp only[QVh,h1,m1,ha,eE,seval];by_cases hlt:i<P.progs.length
 ·obtain⟨x,hg⟩:∃x,P.progs[i]? = some x:=⟨P.progs[i],QUo hlt⟩;have hgm:(P.progs.map Qi)[i]? = some (.agg x.cells):=by simp[hg,Qi]
  have e1:=Qm i _ hlt hP.len1;have ht:=Q6 (q:=KA) hg;have hq:KA x=(Kf x.name&&x.ops.all fun o=>XO o.name):=rfl;have fin:∀f':Fr,f' 1=.ptr 0 1 0→f' 3=.bool (((b&&(P.progs.take i).all KA)&&Kf x.name)&&x.ops.all fun o=>XO o.name)→f' 4=.int .i64 ((i+1:Nat):Int)→∃k,k<P.progs.length-i∧I k ⟨f',[fr],[]⟩:=by
   intro f' a1 a3 a4;exact⟨P.progs.length-(i+1),by omega,f',i+1,rfl,rfl,by omega,a1,by rw[a3,ht,hq,QU7,QU7],a4⟩
  simp only[PG.cells]at hgm;cases hb:(b&&(P.progs.take i).all KA)
  ·rw[hb,QVQ]at fin;rw[hb]at h3;simp only[Ql hlt,h3,Qa,seval];refine GU P hP fr m1' _ false (by exact h1) (by rfl) _ i x hg (by exact ha) (by rfl) (fun f h1 h3 ha=>?_);simp only[ha,e1,Qa,seval];exact fin _ (by exact h1) (by exact h3) (by rfl)
  ·rw[hb,QVZ]at fin;rw[hb]at h3;simp only[Ql hlt,Qh,QVN,Qb,hgm,h1,m1,h3,ha,eE,seval];refine aC (z68 x.name) ?_;simp only[Qa,seval];refine GU P hP fr m1' _ (Kf x.name) (by exact h1) (by rfl) _ i x hg (by exact ha) (by rfl) (fun f h1 h3 ha=>?_);simp only[ha,e1,Qa,seval];exact fin _ (by exact h1) (by exact h3) (by rfl)
 ·have hf:(P.progs.take i).all KA=P.progs.all KA:=by rw[QUV (by omega)]
  rw[hf]at h3;simp only[Qx hlt,Qa,seval];exact hx _ (by exact h1) (by exact h3)

theorem GV (j:Nat)(x:PE)(hj:P.enums[j]? = some x)(ha:f 6=.int .i64 (j:Nat))(hc:f 7=.int .i64 0)(hx:∀f,f 1=.ptr 0 1 0→f 3=.bool (b&&x.items.all fun o=>XO o.name)→f 6=.int .i64 (j:Nat)→Q (.exit 6) (⟨f,[fr],[]⟩:St)):QG Tryz.prog (.loop Tb) ⟨f,[fr],[]⟩ Q:=by
 let I:Nat→St→Prop:=fun k st=>∃f i,st=⟨f,[fr],[]⟩∧k=x.items.length-i∧i≤x.items.length∧f 1=.ptr 0 1 0∧f 3=.bool (b&&(x.items.take i).all fun o=>XO o.name)∧f 6=.int .i64 (j:Nat)∧f 7=.int .i64 (i:Nat)
 have hjm:(P.enums.map Qq)[j]? = some (.agg x.cells):=by simp[hj,Qq]
 have hsl:x.items.length≤maxLen:=(hP.enums x (QUA hj)).len1;refine Qd I _ ⟨f,0,rfl,rfl,QUv _,h1,by rw[h3];simp,ha,hc⟩ ?_;clear h1 h3 ha hc;simp only[Pc]at m1;simp only[PE.cells]at hjm;rintro _ st ⟨f,i,rfl,rfl,hi,h1,h3,ha,hc⟩;simp only[Qh,QVN,Qb,hjm,QVh,h1,m1,ha,hc,eE,seval];by_cases hlt:i<x.items.length
 ·obtain⟨o,hg⟩:∃o,x.items[i]? = some o:=⟨x.items[i],QUo hlt⟩;have hgm:(x.items.map fun o=>AV.agg o.cells)[i]? = some (.agg o.cells):=by simp[hg]
  have e1:=Qm i _ hlt hsl;have ht:=Q6 (q:=fun o=>XO o.name) hg;have fin:∀f':Fr,f' 1=.ptr 0 1 0→f' 3=.bool ((b&&(x.items.take i).all fun o=>XO o.name)&&XO o.name)→f' 6=.int .i64 (j:Nat)→f' 7=.int .i64 ((i+1:Nat):Int)→∃k,k<x.items.length-i∧I k ⟨f',[fr],[]⟩:=by
   intro f' a1 a3 a4 a5;exact⟨x.items.length-(i+1),by omega,f',i+1,rfl,rfl,by omega,a1,by rw[a3,ht,QU7],a4,a5⟩
  simp only[PI.cells]at hgm;cases hb:(b&&(x.items.take i).all fun o=>XO o.name)
  ·rw[hb]at fin h3;simp only[Ql hlt,PI.cells,h3,hc,e1,Qa,seval];exact fin _ (by exact h1) (by rfl) (by exact ha) (by rfl)
  ·rw[hb,QVZ]at fin;rw[hb]at h3;simp only[Ql hlt,Qh,QVN,Qb,hjm,hgm,PI.cells,h1,m1,h3,ha,hc,eE,seval];refine aC (z69 o.name) ?_;simp only[hc,e1,Qa,seval];exact fin _ (by exact h1) (by rfl) (by exact ha) (by rfl)
 ·have hf:(x.items.take i).all (fun o=>XO o.name)=x.items.all fun o=>XO o.name:=by rw[QUV (by omega)]
  rw[hf]at h3;simp only[Qx hlt,Qa,seval];exact hx _ (by exact h1) (by exact h3) (by exact ha)

theorem CG (ha:f 6=.int .i64 0)(hx:∀f,f 1=.ptr 0 1 0→f 3=.bool (b&&P.enums.all K1)→Q (.exit 4) (⟨f,[fr],[]⟩:St)):QG Tryz.prog (.loop Tc) ⟨f,[fr],[]⟩ Q:=by
 let I:Nat→St→Prop:=fun k st=>∃f i,st=⟨f,[fr],[]⟩∧k=P.enums.length-i∧i≤P.enums.length∧f 1=.ptr 0 1 0∧f 3=.bool (b&&(P.enums.take i).all K1)∧f 6=.int .i64 (i:Nat)
 have m1':=m1;refine Qd I _ ⟨f,0,rfl,rfl,QUv _,h1,by rw[h3];simp,ha⟩ ?_;clear h1 h3 ha;simp only[Pc]at m1;rintro _ st ⟨f,i,rfl,rfl,hi,h1,h3,ha⟩;simp only[QVh,h1,m1,ha,eE,seval];by_cases hlt:i<P.enums.length
 ·obtain⟨x,hg⟩:∃x,P.enums[i]? = some x:=⟨P.enums[i],QUo hlt⟩;have hgm:(P.enums.map Qq)[i]? = some (.agg x.cells):=by simp[hg,Qq]
  have e1:=Qm i _ hlt hP.len2;have ht:=Q6 (q:=K1) hg;have hq:K1 x=(Kf x.name&&x.items.all fun o=>XO o.name):=rfl;have fin:∀f':Fr,f' 1=.ptr 0 1 0→f' 3=.bool (((b&&(P.enums.take i).all K1)&&Kf x.name)&&x.items.all fun o=>XO o.name)→f' 6=.int .i64 ((i+1:Nat):Int)→∃k,k<P.enums.length-i∧I k ⟨f',[fr],[]⟩:=by
   intro f' a1 a3 a4;exact⟨P.enums.length-(i+1),by omega,f',i+1,rfl,rfl,by omega,a1,by rw[a3,ht,hq,QU7,QU7],a4⟩
  simp only[PE.cells]at hgm;cases hb:(b&&(P.enums.take i).all K1)
  ·rw[hb,QVQ]at fin;rw[hb]at h3;simp only[Ql hlt,h3,Qa,seval];refine GV P hP fr m1' _ false (by exact h1) (by rfl) _ i x hg (by exact ha) (by rfl) (fun f h1 h3 ha=>?_);simp only[ha,e1,Qa,seval];exact fin _ (by exact h1) (by exact h3) (by rfl)
  ·rw[hb,QVZ]at fin;rw[hb]at h3;simp only[Ql hlt,Qh,QVN,Qb,hgm,h1,m1,h3,ha,eE,seval];refine aC (z68 x.name) ?_;simp only[Qa,seval];refine GV P hP fr m1' _ (Kf x.name) (by exact h1) (by rfl) _ i x hg (by exact ha) (by rfl) (fun f h1 h3 ha=>?_);simp only[ha,e1,Qa,seval];exact fin _ (by exact h1) (by exact h3) (by rfl)
 ·have hf:(P.enums.take i).all K1=P.enums.all K1:=by rw[QUV (by omega)]
  rw[hf]at h3;simp only[Qx hlt,Qa,seval];exact hx _ (by exact h1) (by exact h3)

theorem YU (j:Nat)(x:PG)(hj:P.progs[j]? = some x)(ha:f 4=.int .i64 (j:Nat))(hc:f 5=.int .i64 1)(hx:∀f,f 1=.ptr 0 1 0→f 3=.bool (b&&Jp x)→f 4=.int .i64 (j:Nat)→Q (.exit 2) (⟨f,[fr],[]⟩:St)):QG Tryz.prog (.loop Td) ⟨f,[fr],[]⟩ Q:=by
 let I:Nat→St→Prop:=fun k st=>∃f i,st=⟨f,[fr],[]⟩∧k=x.ops.length-i∧f 1=.ptr 0 1 0∧f 3=.bool (b&&QB (Xg x.ops (Zk PO.num)) (i+1))∧f 4=.int .i64 (j:Nat)∧f 5=.int .i64 ((i+1:Nat):Int)∧(i+1≤x.ops.length∨i=0)
 have hjm:(P.progs.map Qi)[j]? = some (.agg x.cells):=by simp[hj,Qi]
 have hsl:x.ops.length≤maxLen:=(hP.progs x (QUA hj)).len;refine Qd I _ ⟨f,0,rfl,rfl,h1,by rw[h3];simp[QB,Xg],ha,hc,.inr rfl⟩ ?_;clear h1 h3 ha hc;simp only[Pc]at m1;simp only[PG.cells]at hjm;rintro _ st ⟨f,i,rfl,rfl,h1,h3,ha,hc,hi⟩;simp only[Qh,QVN,Qb,hjm,QVh,h1,m1,ha,hc,eE,seval];by_cases hlt:i+1<x.ops.length
 ·obtain⟨o,hg⟩:∃o,x.ops[i]? = some o:=⟨x.ops[i]'(by omega),QUo (by omega)⟩;obtain⟨o2,hg2⟩:∃o,x.ops[i+1]? = some o:=⟨x.ops[i+1],QUo hlt⟩;have hgm:(x.ops.map fun o=>AV.agg o.cells)[i]? = some (.agg o.cells):=by simp[hg]
  have hgm2:(x.ops.map fun o=>AV.agg o.cells)[i+1]? = some (.agg o2.cells):=by simp[hg2]
  have e1:=Qm (i+1) _ hlt hsl;have e2:=WB i _ hlt hsl;have ht:=Jr b (Xg x.ops (Zk PO.num)) (i+1);rw[Z6 hg hg2]at ht;have hq:(Zk PO.num) o o2=decide (o.num<o2.num):=rfl;rw[hq]at ht;have fin:∀f':Fr,f' 1=.ptr 0 1 0→f' 3=.bool ((b&&QB (Xg x.ops (Zk PO.num)) (i+1))&&decide (o.num<o2.num))→f' 4=.int .i64 (j:Nat)→f' 5=.int .i64 ((i+1+1:Nat):Int)→∃k,k<x.ops.length-i∧I k ⟨f',[fr],[]⟩:=by
   intro f' a1 a3 a4 a5;exact⟨x.ops.length-(i+1),by omega,f',i+1,rfl,rfl,a1,by rw[a3,ht],a4,a5,.inl (by omega)⟩
  simp only[PO.cells]at hgm hgm2;cases hb:(b&&QB (Xg x.ops (Zk PO.num)) (i+1))
  ·rw[hb]at fin h3;simp only[Ql hlt,PO.cells,h3,hc,e1,Qa,seval];exact fin _ (by exact h1) (by rfl) (by exact ha) (by rfl)
  ·rw[hb,QVZ]at fin;rw[hb]at h3;simp only[Ql hlt,Qh,QVN,Qb,hjm,hgm,hgm2,PO.cells,h1,m1,h3,ha,hc,e1,e2,eE,seval];exact fin _ (by exact h1) (by rfl) (by exact ha) (by rfl)
 ·have hf:QB (Xg x.ops (Zk PO.num)) (i+1)=Jp x:=by
   show _=QB (Xg x.ops (Zk PO.num)) x.ops.length;rcases hi with h|h
   ·rw[show i+1=x.ops.length by omega]
   ·subst h;rcases QVb x.ops.length with h0|h0
    ·rw[h0];rfl
    ·rw[show x.ops.length=1 by omega]
  rw[hf]at h3;simp only[Qx hlt,Qa,seval];exact hx _ (by exact h1) (by exact h3) (by exact ha)

theorem CH (ha:f 4=.int .i64 0)(hx:∀f,f 1=.ptr 0 1 0→f 3=.bool (b&&(XV P.progs (XD PG.name)&&P.progs.all Jp))→Q (.exit 0) (⟨f,[fr],[]⟩:St)):QG Tryz.prog (.loop Te) ⟨f,[fr],[]⟩ Q:=by
 let q:Nat→Bool:=fun i=>Xg P.progs (XD PG.name) i&&Ht P.progs Jp i
 let I:Nat→St→Prop:=fun k st=>∃f i,st=⟨f,[fr],[]⟩∧k=P.progs.length-i∧i≤P.progs.length∧f 1=.ptr 0 1 0∧f 3=.bool (b&&QB q i)∧f 4=.int .i64 (i:Nat)
 have m1':=m1;have hqa:QB q P.progs.length=(XV P.progs (XD PG.name)&&P.progs.all Jp):=by
  show QB (fun i=>Xg P.progs (XD PG.name) i&&Ht P.progs Jp i) _=_;rw[HG,HH];rfl
 refine Qd I _ ⟨f,0,rfl,rfl,QUv _,h1,by rw[h3];simp[QB],ha⟩ ?_;clear h1 h3 ha;simp only[Pc]at m1;rintro _ st ⟨f,i,rfl,rfl,hi,h1,h3,ha⟩;simp only[QVh,h1,m1,ha,eE,seval];by_cases hlt:i<P.progs.length
 ·obtain⟨x,hg⟩:∃x,P.progs[i]? = some x:=⟨P.progs[i],QUo hlt⟩;have hgm:(P.progs.map Qi)[i]? = some (.agg x.cells):=by simp[hg,Qi]
  have e1:=Qm i _ hlt hP.len1;have ht:=Jr b q i;have hq:q i=(Xg P.progs (XD PG.name) i&&Jp x):=by show(_&&Ht P.progs Jp i)=_;rw[Yu hg]
  rw[hq,←QU7]at ht;have fin:∀f':Fr,f' 1=.ptr 0 1 0→f' 3=.bool (((b&&QB q i)&&Xg P.progs (XD PG.name) i)&&Jp x)→f' 4=.int .i64 ((i+1:Nat):Int)→∃k,k<P.progs.length-i∧I k ⟨f',[fr],[]⟩:=by
   intro f' a1 a3 a4;exact⟨P.progs.length-(i+1),by omega,f',i+1,rfl,rfl,by omega,a1,by rw[a3,ht],a4⟩
  simp only[PG.cells]at hgm;cases hb:(b&&QB q i)
  ·rw[hb,QVQ]at fin;rw[hb]at h3;simp only[Ql hlt,h3,Qa,seval];refine YU P hP fr m1' _ false (by exact h1) (by rfl) _ i x hg (by exact ha) (by rfl) (fun f h1 h3 ha=>?_);simp only[ha,e1,Qa,seval];exact fin _ (by exact h1) (by exact h3) (by rfl)
  ·rw[hb,QVZ]at fin;rw[hb]at h3;cases i with
   |zero=>
    have b0:(((0:Nat):Int)==0)=true:=rfl;rw[YR]at fin;simp only[Ql hlt,b0,h3,ha,Qa,Nat.reduceBEq,↓reduceIte];refine YU P hP fr m1' _ true (by exact h1) (by rfl) _ 0 x hg (by exact ha) (by rfl) (fun f h1 h3 ha=>?_);simp only[ha,e1,Qa,Nat.reduceBEq,↓reduceIte,Nat.reduceAdd];exact fin _ (by exact h1) (by exact h3) (by rfl)
   |succ j=>
    obtain⟨y,hgj⟩:∃y,P.progs[j]? = some y:=⟨P.progs[j]'(by omega),QUo (by omega)⟩;have hgjm:(P.progs.map Qi)[j]? = some (.agg y.cells):=by simp[hgj,Qi]
    have b0:(((j+1:Nat):Int)==0)=false:=by rw[QV4];omega
    have e2:=WB j _ hlt hP.len1;rw[Z6 hgj hg]at fin;have hq2:(XD PG.name) y x=Op.bytesLess y.name x.name:=rfl;rw[hq2]at fin;simp only[PG.cells]at hgjm;simp only[Ql hlt,Qh,QVN,Qb,hgm,hgjm,b0,e2,QH,h1,m1,h3,ha,eE,seval];refine YU P hP fr m1' _ (Op.bytesLess y.name x.name) (by exact h1) (by rfl) _ (j+1) x hg (by exact ha) (by rfl) (fun f h1 h3 ha=>?_);simp only[ha,e1,Qa,seval];exact fin _ (by exact h1) (by exact h3) (by rfl)
 ·have hf:QB q i=(XV P.progs (XD PG.name)&&P.progs.all Jp):=by rw[show i=P.progs.length by omega,hqa]
  rw[hf]at h3;simp only[Qx hlt,Qa,seval];exact hx _ (by exact h1) (by exact h3)

theorem YV (j:Nat)(x:PE)(hj:P.enums[j]? = some x)(ha:f 6=.int .i64 (j:Nat))(hc:f 7=.int .i64 1)(hx:∀f,f 1=.ptr 0 1 0→f 3=.bool (b&&JQ x)→f 6=.int .i64 (j:Nat)→Q (.exit 6) (⟨f,[fr],[]⟩:St)):QG Tryz.prog (.loop Tf) ⟨f,[fr],[]⟩ Q:=by
 let I:Nat→St→Prop:=fun k st=>∃f i,st=⟨f,[fr],[]⟩∧k=x.items.length-i∧f 1=.ptr 0 1 0∧f 3=.bool (b&&QB (Xg x.items (Zk PI.num)) (i+1))∧f 6=.int .i64 (j:Nat)∧f 7=.int .i64 ((i+1:Nat):Int)∧(i+1≤x.items.length∨i=0)
 have hjm:(P.enums.map Qq)[j]? = some (.agg x.cells):=by simp[hj,Qq]
 have hsl:x.items.length≤maxLen:=(hP.enums x (QUA hj)).len1;refine Qd I _ ⟨f,0,rfl,rfl,h1,by rw[h3];simp[QB,Xg],ha,hc,.inr rfl⟩ ?_;clear h1 h3 ha hc;simp only[Pc]at m1;simp only[PE.cells]at hjm;rintro _ st ⟨f,i,rfl,rfl,h1,h3,ha,hc,hi⟩;simp only[Qh,QVN,Qb,hjm,QVh,h1,m1,ha,hc,eE,seval];by_cases hlt:i+1<x.items.length
 ·obtain⟨o,hg⟩:∃o,x.items[i]? = some o:=⟨x.items[i]'(by omega),QUo (by omega)⟩;obtain⟨o2,hg2⟩:∃o,x.items[i+1]? = some o:=⟨x.items[i+1],QUo hlt⟩;have hgm:(x.items.map fun o=>AV.agg o.cells)[i]? = some (.agg o.cells):=by simp[hg]
  have hgm2:(x.items.map fun o=>AV.agg o.cells)[i+1]? = some (.agg o2.cells):=by simp[hg2]
  have e1:=Qm (i+1) _ hlt hsl;have e2:=WB i _ hlt hsl;have ht:=Jr b (Xg x.items (Zk PI.num)) (i+1);rw[Z6 hg hg2]at ht;have hq:(Zk PI.num) o o2=decide (o.num<o2.num):=rfl;rw[hq]at ht;have fin:∀f':Fr,f' 1=.ptr 0 1 0→f' 3=.bool ((b&&QB (Xg x.items (Zk PI.num)) (i+1))&&decide (o.num<o2.num))→f' 6=.int .i64 (j:Nat)→f' 7=.int .i64 ((i+1+1:Nat):Int)→∃k,k<x.items.length-i∧I k ⟨f',[fr],[]⟩:=by
   intro f' a1 a3 a4 a5;exact⟨x.items.length-(i+1),by omega,f',i+1,rfl,rfl,a1,by rw[a3,ht],a4,a5,.inl (by omega)⟩
  simp only[PI.cells]at hgm hgm2;cases hb:(b&&QB (Xg x.items (Zk PI.num)) (i+1))
  ·rw[hb]at fin h3;simp only[Ql hlt,PI.cells,h3,hc,e1,Qa,seval];exact fin _ (by exact h1) (by rfl) (by exact ha) (by rfl)
  ·rw[hb,QVZ]at fin;rw[hb]at h3;simp only[Ql hlt,Qh,QVN,Qb,hjm,hgm,hgm2,PI.cells,h1,m1,h3,ha,hc,e1,e2,eE,seval];exact fin _ (by exact h1) (by rfl) (by exact ha) (by rfl)
 ·have hf:QB (Xg x.items (Zk PI.num)) (i+1)=JQ x:=by
   show _=QB (Xg x.items (Zk PI.num)) x.items.length;rcases hi with h|h
   ·rw[show i+1=x.items.length by omega]
   ·subst h;rcases QVb x.items.length with h0|h0
    ·rw[h0];rfl
    ·rw[show x.items.length=1 by omega]
  rw[hf]at h3;simp only[Qx hlt,Qa,seval];exact hx _ (by exact h1) (by exact h3) (by exact ha)

theorem CI (ha:f 6=.int .i64 0)(hx:∀f,f 1=.ptr 0 1 0→f 3=.bool (b&&(XV P.enums (XD PE.name)&&P.enums.all JQ))→Q (.exit 4) (⟨f,[fr],[]⟩:St)):QG Tryz.prog (.loop Th) ⟨f,[fr],[]⟩ Q:=by
 let q:Nat→Bool:=fun i=>Xg P.enums (XD PE.name) i&&Ht P.enums JQ i
 let I:Nat→St→Prop:=fun k st=>∃f i,st=⟨f,[fr],[]⟩∧k=P.enums.length-i∧i≤P.enums.length∧f 1=.ptr 0 1 0∧f 3=.bool (b&&QB q i)∧f 6=.int .i64 (i:Nat)
 have m1':=m1;have hqa:QB q P.enums.length=(XV P.enums (XD PE.name)&&P.enums.all JQ):=by
  show QB (fun i=>Xg P.enums (XD PE.name) i&&Ht P.enums JQ i) _=_;rw[HG,HH];rfl
 refine Qd I _ ⟨f,0,rfl,rfl,QUv _,h1,by rw[h3];simp[QB],ha⟩ ?_;clear h1 h3 ha;simp only[Pc]at m1;rintro _ st ⟨f,i,rfl,rfl,hi,h1,h3,ha⟩;simp only[QVh,h1,m1,ha,eE,seval];by_cases hlt:i<P.enums.length
 ·obtain⟨x,hg⟩:∃x,P.enums[i]? = some x:=⟨P.enums[i],QUo hlt⟩;have hgm:(P.enums.map Qq)[i]? = some (.agg x.cells):=by simp[hg,Qq]
  have e1:=Qm i _ hlt hP.len2;have ht:=Jr b q i;have hq:q i=(Xg P.enums (XD PE.name) i&&JQ x):=by show(_&&Ht P.enums JQ i)=_;rw[Yu hg]
  rw[hq,←QU7]at ht;have fin:∀f':Fr,f' 1=.ptr 0 1 0→f' 3=.bool (((b&&QB q i)&&Xg P.enums (XD PE.name) i)&&JQ x)→f' 6=.int .i64 ((i+1:Nat):Int)→∃k,k<P.enums.length-i∧I k ⟨f',[fr],[]⟩:=by
   intro f' a1 a3 a4;exact⟨P.enums.length-(i+1),by omega,f',i+1,rfl,rfl,by omega,a1,by rw[a3,ht],a4⟩
  simp only[PE.cells]at hgm;cases hb:(b&&QB q i)
  ·rw[hb,QVQ]at fin;rw[hb]at h3;simp only[Ql hlt,h3,Qa,seval];refine YV P hP fr m1' _ false (by exact h1) (by rfl) _ i x hg (by exact ha) (by rfl) (fun f h1 h3 ha=>?_);simp only[ha,e1,Qa,seval];exact fin _ (by exact h1) (by exact h3) (by rfl)
  ·rw[hb,QVZ]at fin;rw[hb]at h3;cases i with
   |zero=>
    have b0:(((0:Nat):Int)==0)=true:=rfl;rw[YR]at fin;simp only[Ql hlt,b0,h3,ha,Qa,Nat.reduceBEq,↓reduceIte];refine YV P hP fr m1' _ true (by exact h1) (by rfl) _ 0 x hg (by exact ha) (by rfl) (fun f h1 h3 ha=>?_);simp only[ha,e1,Qa,Nat.reduceBEq,↓reduceIte,Nat.reduceAdd];exact fin _ (by exact h1) (by exact h3) (by rfl)
   |succ j=>
    obtain⟨y,hgj⟩:∃y,P.enums[j]? = some y:=⟨P.enums[j]'(by omega),QUo (by omega)⟩;have hgjm:(P.enums.map Qq)[j]? = some (.agg y.cells):=by simp[hgj,Qq]
    have b0:(((j+1:Nat):Int)==0)=false:=by rw[QV4];omega
    have e2:=WB j _ hlt hP.len2;rw[Z6 hgj hg]at fin;have hq2:(XD PE.name) y x=Op.bytesLess y.name x.name:=rfl;rw[hq2]at fin;simp only[PE.cells]at hgjm;simp only[Ql hlt,Qh,QVN,Qb,hgm,hgjm,b0,e2,QH,h1,m1,h3,ha,eE,seval];refine YV P hP fr m1' _ (Op.bytesLess y.name x.name) (by exact h1) (by rfl) _ (j+1) x hg (by exact ha) (by rfl) (fun f h1 h3 ha=>?_);simp only[ha,e1,Qa,seval];exact fin _ (by exact h1) (by exact h3) (by rfl)
 ·have hf:QB q i=(XV P.enums (XD PE.name)&&P.enums.all JQ):=by rw[show i=P.enums.length by omega,hqa]
  rw[hf]at h3;simp only[Qx hlt,Qa,seval];exact hx _ (by exact h1) (by exact h3)

end

section
variable {M:Nat}(P:PL)(hP:P.ok M)
include hP

theorem z36:Qk Tryz.prog 36 [P.av] (.bool (Hu P)):=by
 have e0:P.av=.agg [.list (P.progs.map Qi),.list (P.enums.map Qq)]:=rfl;have e1:decide ((P.progs.length:Int)≤64)=decide (P.progs.length≤64):=by rw[decide_eq_decide];omega
 have e2:decide ((P.enums.length:Int)≤64)=decide (P.enums.length≤64):=by rw[decide_eq_decide];omega
 refine k36.fn (by simp) ?_;simp only[e0,QVh,e1,eE,seval];have hl:Hu P=((decide (P.progs.length≤64)&&decide (P.enums.length≤64)&&P.progs.all Jc)&&P.enums.all JE):=rfl;cases a1:decide (P.progs.length≤64)<;>simp only[e2,QVh,eE,seval]
 all_goals
  refine CD P hP _ (by rfl) _ _ (by rfl) (by rfl) _ (by rfl) (fun f h1 h3=>?_);simp only[Qa,seval];refine CE P hP _ (by rfl) _ _ (by exact h1) (by exact h3) _ (by rfl) (fun f h1 h3=>?_);simp only[h3,hl,a1,QVQ,QVZ,Qa,seval]

theorem z37:Qk Tryz.prog 37 [P.av] (.bool (BG P)):=by
 have e0:P.av=.agg [.list (P.progs.map Qi),.list (P.enums.map Qq)]:=rfl;refine k37.fn (by simp) ?_;simp only[e0,eE,seval];refine CF P hP _ (by rfl) _ true (by rfl) (by rfl) _ (by rfl) (fun f h1 h3=>?_);simp only[Qa,seval];refine CG P hP _ (by rfl) _ _ (by exact h1) (by exact h3) _ (by rfl) (fun f h1 h3=>?_);simp only[h3,BG,QVZ,Qa,seval]

theorem z38:Qk Tryz.prog 38 [P.av] (.bool (UD P)):=by
 have e0:P.av=.agg [.list (P.progs.map Qi),.list (P.enums.map Qq)]:=rfl;have e:UD P=((XV P.progs (XD PG.name)&&P.progs.all Jp)&&(XV P.enums (XD PE.name)&&P.enums.all JQ)):=by
  unfold UD;cases XV P.progs (XD PG.name)<;>cases P.progs.all Jp<;>cases XV P.enums (XD PE.name)<;>rfl
 refine k38.fn (by simp) ?_;simp only[e0,eE,seval];refine CH P hP _ (by rfl) _ true (by rfl) (by rfl) _ (by rfl) (fun f h1 h3=>?_);simp only[Qa,seval];refine CI P hP _ (by rfl) _ _ (by exact h1) (by exact h3) _ (by rfl) (fun f h1 h3=>?_);simp only[h3,e,QVZ,Qa,seval]

end

theorem z70 (L:List PS)(hl:L.length≤maxLen)(n:Int):Qk Tryz.prog 70 [.list (L.map Zf),.int .i64 n] (.bool (kept L n)):=by
 let I:Nat→St→Prop:=fun k st=>∃f i,st=⟨f,[Qc],[]⟩∧k=L.length-i∧kept L n=kept (L.drop i) n∧f 0=.list (L.map Zf)∧f 1=.int .i64 n∧f 5=.int .i64 (i:Nat)
 refine k70.fn (by simp) ?_;simp only[Qa,seval];refine Qd I _ ⟨_,0,rfl,rfl,rfl,(by rfl),(by rfl),(by rfl)⟩ ?_;rintro _ st ⟨f,i,rfl,rfl,hx,h0,h1,h5⟩;simp only[QVh,h0,h5,Qa,seval];by_cases hlt:i<L.length
 ·obtain⟨x,hi⟩:∃x,L[i]? = some x:=⟨L[i],QUo hlt⟩;have hg:(L.map Zf)[i]? = some (Zf x):=by simp[hi]
  have e1:=Qm i _ hlt hl;have hd:kept (L.drop i) n=((decide (x.lo≤n)&&decide (n≤x.hi))||kept (L.drop (i+1)) n):=by
   unfold kept;rw[QU5 hlt,show L[i]=x from(QUn.1 hi).2];rfl
  rw[hd]at hx;simp only[Ql hlt,Qh,QVN,Qb,hg,Zf,PS.cells,h0,h1,h5,eE,seval];cases a1:decide (x.lo≤n)
  ·rw[a1,QVQ,QV3]at hx;simp only[h5,e1,Qa,seval];exact⟨L.length-(i+1),by omega,_,i+1,rfl,rfl,hx,(by exact h0),(by exact h1),(by rfl)⟩
  ·cases a2:decide (n≤x.hi)
   ·rw[a1,a2,QWk,QV3]at hx;simp only[a2,Qh,QVN,Qb,hg,Zf,PS.cells,h0,h1,h5,e1,eE,seval];exact⟨L.length-(i+1),by omega,_,i+1,rfl,rfl,hx,(by exact h0),(by exact h1),(by rfl)⟩
   ·rw[a1,a2,QVz,QV2]at hx;simp only[a2,Qh,QVN,Qb,hg,Zf,PS.cells,h0,h1,h5,hx,eE,seval]
 ·have hx':kept L n=false:=by rw[hx,QUY (by omega)];rfl
  simp only[Qx hlt,hx',Qa,seval]

section
variable {M:Nat}(P:PL)(hP:P.ok M)(fr:Nat→Ob)(m1:fr 1=.cells (Pc P))(f:Fr)(b:Bool)(h1:f 1=.ptr 0 1 0)(h3:f 3=.bool b)(Q:Exit→St→Prop)

include h1 h3 in
theorem Sa (L:List PO)(hl:L.length≤maxLen)(j:Nat)(x:PO)(hj:L[j]? = some x)(n:Nat)(hr:f 4=.int .i64 (n:Nat))(hL:f 6=.list (L.map fun o=>.agg o.cells))(hc:f 7=.int .i64 (j:Nat))(hd:f 8=.int .i64 0)
  (hx:∀f,f 1=.ptr 0 1 0→f 3=.bool (b&&(L.take j).all fun y=>!(y.name==x.name))→f 4=.int .i64 (n:Nat)→f 6=.list (L.map fun o=>.agg o.cells)→f 7=.int .i64 (j:Nat)→Q (.exit 6) (⟨f,[fr],[]⟩:St)) :
  QG Tryz.prog (.loop Tj) ⟨f,[fr],[]⟩ Q:=by
 let I:Nat→St→Prop:=fun k st=>∃f i,st=⟨f,[fr],[]⟩∧k=j-i∧i≤j∧f 1=.ptr 0 1 0∧f 3=.bool (b&&(L.take i).all fun y=>!(y.name==x.name))∧f 4=.int .i64 (n:Nat)∧f 6=.list (L.map fun o=>.agg o.cells)∧f 7=.int .i64 (j:Nat)∧f 8=.int .i64 (i:Nat)
 have hjl:j<L.length:=(QUn.1 hj).1;have hjm:(L.map fun o=>AV.agg o.cells)[j]? = some (.agg x.cells):=by simp[hj]
 refine Qd I _ ⟨f,0,rfl,rfl,QUv _,h1,by rw[h3];simp,hr,hL,hc,hd⟩ ?_;clear h1 h3 hr hL hc hd;simp only[PO.cells]at hjm;rintro _ st ⟨f,i,rfl,rfl,hi,h1,h3,hr,hL,hc,hd⟩;simp only[hc,hd,Qa,seval];by_cases hlt:i<j
 ·obtain⟨o,hg⟩:∃o,L[i]? = some o:=⟨L[i]'(by omega),QUo (by omega)⟩;have hgm:(L.map fun o=>AV.agg o.cells)[i]? = some (.agg o.cells):=by simp[hg]
  have e1:=Qm i _ (show i<L.length by omega) hl;have ht:=Q6 (q:=fun y:PO=>!(y.name==x.name)) hg;have fin:∀f':Fr,f' 1=.ptr 0 1 0→f' 3=.bool ((b&&(L.take i).all fun y=>!(y.name==x.name)) && !(o.name==x.name))→f' 4=.int .i64 (n:Nat)→f' 6=.list (L.map fun o=>.agg o.cells)→f' 7=.int .i64 (j:Nat)→f' 8=.int .i64 ((i+1:Nat):Int)→∃k,k<j-i∧I k ⟨f',[fr],[]⟩:=by
   intro f' a1 a3 a4 a5 a6 a7;exact⟨j-(i+1),by omega,f',i+1,rfl,rfl,by omega,a1,by rw[a3,ht,QU7],a4,a5,a6,a7⟩
  simp only[PO.cells]at hgm;cases hb:(b&&(L.take i).all fun y=>!(y.name==x.name))
  ·rw[hb]at fin h3;simp only[Ql hlt,h3,hd,e1,Qa,seval];exact fin _ (by exact h1) (by rfl) (by exact hr) (by exact hL) (by exact hc) (by rfl)
  ·rw[hb,QVZ]at fin;rw[hb]at h3;simp only[Ql hlt,Qh,QVN,Qb,hgm,hjm,PO.cells,QH,h3,hL,hc,hd,e1,eE,seval];exact fin _ (by exact h1) (by rfl) (by exact hr) (by exact hL) (by exact hc) (by rfl)
 ·rw[show i=j by omega]at h3;simp only[Qx hlt,Qa,seval];exact hx _ (by exact h1) (by exact h3) (by exact hr) (by exact hL) (by exact hc)

include h1 h3 in
theorem Sb (L:List PO)(hl:L.length≤maxLen)(n:Nat)(hr:f 4=.int .i64 (n:Nat))(hL:f 6=.list (L.map fun o=>.agg o.cells))(hc:f 7=.int .i64 0)
  (hx:∀f,f 1=.ptr 0 1 0→f 3=.bool (b&&Ky L PO.name)→f 4=.int .i64 (n:Nat)→Q (.exit 4) (⟨f,[fr],[]⟩:St)) :
  QG Tryz.prog (.loop Tk) ⟨f,[fr],[]⟩ Q:=by
 let I:Nat→St→Prop:=fun k st=>∃f i,st=⟨f,[fr],[]⟩∧k=L.length-i∧i≤L.length∧f 1=.ptr 0 1 0∧f 3=.bool (b&&QB (uniq L PO.name) i)∧f 4=.int .i64 (n:Nat)∧f 6=.list (L.map fun o=>.agg o.cells)∧f 7=.int .i64 (i:Nat)
 refine Qd I _ ⟨f,0,rfl,rfl,QUv _,h1,by rw[h3];simp[QB],hr,hL,hc⟩ ?_;clear h1 h3 hr hL hc;rintro _ st ⟨f,i,rfl,rfl,hi,h1,h3,hr,hL,hc⟩;simp only[QVh,hL,hc,Qa,seval];by_cases hlt:i<L.length
 ·obtain⟨o,hg⟩:∃o,L[i]? = some o:=⟨L[i],QUo hlt⟩;have e1:=Qm i _ hlt hl;have ht:=Jr b (uniq L PO.name) i;rw[U5 hg]at ht;simp only[Ql hlt,Qa,seval];refine Sa fr _ (b&&QB (uniq L PO.name) i) (by exact h1) (by exact h3) _ L hl i o hg n (by exact hr) (by exact hL) (by exact hc) (by rfl) (fun f h1 h3 hr hL hc=>?_);simp only[hc,e1,Qa,seval];exact⟨L.length-(i+1),by omega,_,i+1,rfl,rfl,by omega,(by exact h1),by rw[ht]<;>first|exact h3|simp only[h3,eE,seval],(by exact hr),(by exact hL),(by rfl)⟩
 ·rw[show i=L.length by omega]at h3;simp only[Qx hlt,Qa,seval];exact hx _ (by exact h1) (by exact h3) (by exact hr)

include h1 h3 in
theorem CJ (L:List PI)(hl:L.length≤maxLen)(j:Nat)(x:PI)(hj:L[j]? = some x)(n:Nat)(hr:f 9=.int .i64 (n:Nat))(hL:f 10=.list (L.map fun o=>.agg o.cells))(hc:f 11=.int .i64 (j:Nat))(hd:f 12=.int .i64 0)
  (hx:∀f,f 1=.ptr 0 1 0→f 3=.bool (b&&(L.take j).all fun y=>!(y.name==x.name))→f 9=.int .i64 (n:Nat)→f 10=.list (L.map fun o=>.agg o.cells)→f 11=.int .i64 (j:Nat)→Q (.exit 12) (⟨f,[fr],[]⟩:St)) :
  QG Tryz.prog (.loop Tm) ⟨f,[fr],[]⟩ Q:=by
 let I:Nat→St→Prop:=fun k st=>∃f i,st=⟨f,[fr],[]⟩∧k=j-i∧i≤j∧f 1=.ptr 0 1 0∧f 3=.bool (b&&(L.take i).all fun y=>!(y.name==x.name))∧f 9=.int .i64 (n:Nat)∧f 10=.list (L.map fun o=>.agg o.cells)∧f 11=.int .i64 (j:Nat)∧f 12=.int .i64 (i:Nat)
 have hjl:j<L.length:=(QUn.1 hj).1;have hjm:(L.map fun o=>AV.agg o.cells)[j]? = some (.agg x.cells):=by simp[hj]
 refine Qd I _ ⟨f,0,rfl,rfl,QUv _,h1,by rw[h3];simp,hr,hL,hc,hd⟩ ?_;clear h1 h3 hr hL hc hd;simp only[PI.cells]at hjm;rintro _ st ⟨f,i,rfl,rfl,hi,h1,h3,hr,hL,hc,hd⟩;simp only[hc,hd,Qa,seval];by_cases hlt:i<j
 ·obtain⟨o,hg⟩:∃o,L[i]? = some o:=⟨L[i]'(by omega),QUo (by omega)⟩;have hgm:(L.map fun o=>AV.agg o.cells)[i]? = some (.agg o.cells):=by simp[hg]
  have e1:=Qm i _ (show i<L.length by omega) hl;have ht:=Q6 (q:=fun y:PI=>!(y.name==x.name)) hg;have fin:∀f':Fr,f' 1=.ptr 0 1 0→f' 3=.bool ((b&&(L.take i).all fun y=>!(y.name==x.name)) && !(o.name==x.name))→f' 9=.int .i64 (n:Nat)→f' 10=.list (L.map fun o=>.agg o.cells)→f' 11=.int .i64 (j:Nat)→f' 12=.int .i64 ((i+1:Nat):Int)→∃k,k<j-i∧I k ⟨f',[fr],[]⟩:=by
   intro f' a1 a3 a4 a5 a6 a7;exact⟨j-(i+1),by omega,f',i+1,rfl,rfl,by omega,a1,by rw[a3,ht,QU7],a4,a5,a6,a7⟩
  simp only[PI.cells]at hgm;cases hb:(b&&(L.take i).all fun y=>!(y.name==x.name))
  ·rw[hb]at fin h3;simp only[Ql hlt,h3,hd,e1,Qa,seval];exact fin _ (by exact h1) (by rfl) (by exact hr) (by exact hL) (by exact hc) (by rfl)
  ·rw[hb,QVZ]at fin;rw[hb]at h3;simp only[Ql hlt,Qh,QVN,Qb,hgm,hjm,PI.cells,QH,h3,hL,hc,hd,e1,eE,seval];exact fin _ (by exact h1) (by rfl) (by exact hr) (by exact hL) (by exact hc) (by rfl)
 ·rw[show i=j by omega]at h3;simp only[Qx hlt,Qa,seval];exact hx _ (by exact h1) (by exact h3) (by exact hr) (by exact hL) (by exact hc)

include h1 h3 in
theorem CL (L:List PI)(hl:L.length≤maxLen)(n:Nat)(hr:f 9=.int .i64 (n:Nat))(hL:f 10=.list (L.map fun o=>.agg o.cells))(hc:f 11=.int .i64 0)
  (hx:∀f,f 1=.ptr 0 1 0→f 3=.bool (b&&Ky L PI.name)→f 9=.int .i64 (n:Nat)→Q (.exit 10) (⟨f,[fr],[]⟩:St)) :
  QG Tryz.prog (.loop Tn) ⟨f,[fr],[]⟩ Q:=by
 let I:Nat→St→Prop:=fun k st=>∃f i,st=⟨f,[fr],[]⟩∧k=L.length-i∧i≤L.length∧f 1=.ptr 0 1 0∧f 3=.bool (b&&QB (uniq L PI.name) i)∧f 9=.int .i64 (n:Nat)∧f 10=.list (L.map fun o=>.agg o.cells)∧f 11=.int .i64 (i:Nat)
 refine Qd I _ ⟨f,0,rfl,rfl,QUv _,h1,by rw[h3];simp[QB],hr,hL,hc⟩ ?_;clear h1 h3 hr hL hc;rintro _ st ⟨f,i,rfl,rfl,hi,h1,h3,hr,hL,hc⟩;simp only[QVh,hL,hc,Qa,seval];by_cases hlt:i<L.length
 ·obtain⟨o,hg⟩:∃o,L[i]? = some o:=⟨L[i],QUo hlt⟩;have e1:=Qm i _ hlt hl;have ht:=Jr b (uniq L PI.name) i;rw[U5 hg]at ht;simp only[Ql hlt,Qa,seval];refine CJ fr _ (b&&QB (uniq L PI.name) i) (by exact h1) (by exact h3) _ L hl i o hg n (by exact hr) (by exact hL) (by exact hc) (by rfl) (fun f h1 h3 hr hL hc=>?_);simp only[hc,e1,Qa,seval];exact⟨L.length-(i+1),by omega,_,i+1,rfl,rfl,by omega,(by exact h1),by rw[ht]<;>first|exact h3|simp only[h3,eE,seval],(by exact hr),(by exact hL),(by rfl)⟩
 ·rw[show i=L.length by omega]at h3;simp only[Qx hlt,Qa,seval];exact hx _ (by exact h1) (by exact h3) (by exact hr)

include hP m1 h1 h3

theorem QO0 (j:Nat)(x:PG)(hj:P.progs[j]? = some x)(ha:f 4=.int .i64 (j:Nat))(hc:f 5=.int .i64 0)(hx:∀f,f 1=.ptr 0 1 0→f 3=.bool (b&&P.enums.all fun e=>!(e.name==x.name))→f 4=.int .i64 (j:Nat)→Q (.exit 2) (⟨f,[fr],[]⟩:St)):QG Tryz.prog (.loop Ti) ⟨f,[fr],[]⟩ Q:=by
 let I:Nat→St→Prop:=fun k st=>∃f i,st=⟨f,[fr],[]⟩∧k=P.enums.length-i∧i≤P.enums.length∧f 1=.ptr 0 1 0∧f 3=.bool (b&&(P.enums.take i).all fun e=>!(e.name==x.name))∧f 4=.int .i64 (j:Nat)∧f 5=.int .i64 (i:Nat)
 have hjm:(P.progs.map Qi)[j]? = some (.agg x.cells):=by simp[hj,Qi]
 refine Qd I _ ⟨f,0,rfl,rfl,QUv _,h1,by rw[h3];simp,ha,hc⟩ ?_;clear h1 h3 ha hc;simp only[Pc]at m1;simp only[PG.cells]at hjm;rintro _ st ⟨f,i,rfl,rfl,hi,h1,h3,ha,hc⟩;simp only[QVh,h1,m1,hc,eE,seval];by_cases hlt:i<P.enums.length
 ·obtain⟨o,hg⟩:∃o,P.enums[i]? = some o:=⟨P.enums[i],QUo hlt⟩;have hgm:(P.enums.map Qq)[i]? = some (.agg o.cells):=by simp[hg,Qq]
  have e1:=Qm i _ hlt hP.len2;have ht:=Q6 (q:=fun y:PE=>!(y.name==x.name)) hg;have hcm:(x.name==o.name)=(o.name==x.name):=by rw[QVg,QUt,QUt];exact⟨Eq.symm,Eq.symm⟩
  have fin:∀f':Fr,f' 1=.ptr 0 1 0→f' 3=.bool ((b&&(P.enums.take i).all fun y=>!(y.name==x.name)) && !(o.name==x.name))→f' 4=.int .i64 (j:Nat)→f' 5=.int .i64 ((i+1:Nat):Int)→∃k,k<P.enums.length-i∧I k ⟨f',[fr],[]⟩:=by
   intro f' a1 a3 a4 a5;exact⟨P.enums.length-(i+1),by omega,f',i+1,rfl,rfl,by omega,a1,by rw[a3,ht,QU7],a4,a5⟩
  simp only[PE.cells]at hgm;cases hb:(b&&(P.enums.take i).all fun y=>!(y.name==x.name))
  ·rw[hb]at fin h3;simp only[Ql hlt,h3,hc,e1,Qa,seval];exact fin _ (by exact h1) (by rfl) (by exact ha) (by rfl)
  ·rw[hb,QVZ]at fin;rw[hb]at h3;simp only[Ql hlt,Qh,QVN,Qb,hjm,hgm,QH,hcm,h1,m1,h3,ha,hc,e1,eE,seval];exact fin _ (by exact h1) (by rfl) (by exact ha) (by rfl)
 ·have hf:(P.enums.take i).all (fun e=>!(e.name==x.name))=P.enums.all fun e=>!(e.name==x.name):=by rw[QUV (by omega)]
  rw[hf]at h3;simp only[Qx hlt,Qa,seval];exact hx _ (by exact h1) (by exact h3) (by exact ha)

theorem QO1 (ha:f 4=.int .i64 0)(hx:∀f,f 1=.ptr 0 1 0→f 3=.bool (b&&P.progs.all (KB P))→Q (.exit 0) (⟨f,[fr],[]⟩:St)):QG Tryz.prog (.loop Tl) ⟨f,[fr],[]⟩ Q:=by
 let I:Nat→St→Prop:=fun k st=>∃f i,st=⟨f,[fr],[]⟩∧k=P.progs.length-i∧i≤P.progs.length∧f 1=.ptr 0 1 0∧f 3=.bool (b&&(P.progs.take i).all (KB P))∧f 4=.int .i64 (i:Nat)
 have m1':=m1;refine Qd I _ ⟨f,0,rfl,rfl,QUv _,h1,by rw[h3];simp,ha⟩ ?_;clear h1 h3 ha;simp only[Pc]at m1;rintro _ st ⟨f,i,rfl,rfl,hi,h1,h3,ha⟩;simp only[QVh,h1,m1,ha,eE,seval];by_cases hlt:i<P.progs.length
 ·obtain⟨x,hg⟩:∃x,P.progs[i]? = some x:=⟨P.progs[i],QUo hlt⟩;have hgm:(P.progs.map Qi)[i]? = some (.agg x.cells):=by simp[hg,Qi]
  have e1:=Qm i _ hlt hP.len1;have ht:=Q6 (q:=KB P) hg;have hq:KB P x=((P.enums.all fun e=>!(e.name==x.name))&&Ky x.ops PO.name):=rfl;simp only[PG.cells]at hgm;simp only[Ql hlt,Qa,seval];refine QO0 P hP fr m1' _ (b&&(P.progs.take i).all (KB P)) (by exact h1) (by exact h3) _ i x hg (by exact ha) (by rfl) (fun f h1 h3 ha=>?_);simp only[Qh,QVN,Qb,hgm,h1,m1,ha,eE,seval];refine Sb fr _ _ (by exact h1) (by exact h3) _ x.ops (hP.progs x (QUA hg)).len i (by exact ha) (by rfl) (by rfl) (fun f h1 h3 ha=>?_);simp only[ha,e1,Qa,seval];exact⟨P.progs.length-(i+1),by omega,_,i+1,rfl,rfl,by omega,(by exact h1),by rw[ht,hq,←QU7,←QU7]<;>first|exact h3|simp only[h3,eE,seval],(by rfl)⟩
 ·have hf:(P.progs.take i).all (KB P)=P.progs.all (KB P):=by rw[QUV (by omega)]
  rw[hf]at h3;simp only[Qx hlt,Qa,seval];exact hx _ (by exact h1) (by exact h3)

theorem QO2 (ha:f 9=.int .i64 0)(hx:∀f,f 1=.ptr 0 1 0→f 3=.bool (b&&P.enums.all WA)→Q (.exit 8) (⟨f,[fr],[]⟩:St)):QG Tryz.prog (.loop To) ⟨f,[fr],[]⟩ Q:=by
 let I:Nat→St→Prop:=fun k st=>∃f i,st=⟨f,[fr],[]⟩∧k=P.enums.length-i∧i≤P.enums.length∧f 1=.ptr 0 1 0∧f 3=.bool (b&&(P.enums.take i).all WA)∧f 9=.int .i64 (i:Nat)
 refine Qd I _ ⟨f,0,rfl,rfl,QUv _,h1,by rw[h3];simp,ha⟩ ?_;clear h1 h3 ha;simp only[Pc]at m1;rintro _ st ⟨f,i,rfl,rfl,hi,h1,h3,ha⟩;simp only[QVh,h1,m1,ha,eE,seval];by_cases hlt:i<P.enums.length
 ·obtain⟨x,hg⟩:∃x,P.enums[i]? = some x:=⟨P.enums[i],QUo hlt⟩;have hgm:(P.enums.map Qq)[i]? = some (.agg x.cells):=by simp[hg,Qq]
  have e1:=Qm i _ hlt hP.len2;have ht:=Q6 (q:=WA) hg;have hq:WA x=Ky x.items PI.name:=rfl;simp only[PE.cells]at hgm;simp only[Ql hlt,Qh,QVN,Qb,hgm,h1,m1,ha,eE,seval];refine CL fr _ (b&&(P.enums.take i).all WA) (by exact h1) (by exact h3) _ x.items (hP.enums x (QUA hg)).len1 i (by exact ha) (by rfl) (by rfl) (fun f h1 h3 ha=>?_);simp only[ha,e1,Qa,seval];exact⟨P.enums.length-(i+1),by omega,_,i+1,rfl,rfl,by omega,(by exact h1),by rw[ht,hq,←QU7]<;>first|exact h3|simp only[h3,eE,seval],(by rfl)⟩
 ·have hf:(P.enums.take i).all WA=P.enums.all WA:=by rw[QUV (by omega)]
  rw[hf]at h3;simp only[Qx hlt,Qa,seval];exact hx _ (by exact h1) (by exact h3)

end

theorem z39 {M:Nat}(P:PL)(hP:P.ok M):Qk Tryz.prog 39 [P.av] (.bool (BH P)):=by
 have e0:P.av=.agg [.list (P.progs.map Qi),.list (P.enums.map Qq)]:=rfl;refine k39.fn (by simp) ?_;simp only[e0,eE,seval];refine QO1 P hP _ (by rfl) _ true (by rfl) (by rfl) _ (by rfl) (fun f h1 h3=>?_);simp only[Qa,seval];refine QO2 P hP _ (by rfl) _ _ (by exact h1) (by exact h3) _ (by rfl) (fun f h1 h3=>?_);simp only[h3,BH,QVZ,Qa,seval]

theorem Qwl:Qk Tryz.prog 124 [.str alias] (.int .i64 7):=by
 refine QKx.fn (by simp) ?_;have b1:(alias==([100,101,112,114,101,99,97,116,101,100]:List UInt8))=false:=by decide
 have b2:(alias==([115,101,99,114,101,116]:List UInt8))=false:=by decide
 have b3:(alias==([105,100,101,109,112,111,116,101,110,116]:List UInt8))=false:=by decide
 have b4:(alias==([100,111,99]:List UInt8))=false:=by decide
 have b5:(alias==([97,108,105,97,115]:List UInt8))=true:=by decide
 simp only[QH,b1,b2,b3,b4,b5,Qa,seval]

theorem QO3:Qk Tryz.prog 125 [.str alias,.int .i64 4] (.bool true):=by
 refine QKA.fn (by simp) ?_;have b1:(alias==([100,101,112,114,101,99,97,116,101,100]:List UInt8))=false:=by decide
 have b4:(alias==([100,111,99]:List UInt8))=false:=by decide
 have b5:(alias==([97,108,105,97,115]:List UInt8))=true:=by decide
 have c2:((4:Int)==2)=false:=rfl;have c4:((4:Int)==4)=true:=rfl;simp only[QH,b1,b4,b5,c2,c4,Qa,seval]

section
variable (kd:Int)(b:Nat)(t:List UInt8)(l p s r:List AV)(ht:t.length+8≤maxLen)
include ht

theorem QO4:Qk Tryz.prog 202 [.int .i64 7,vo kd b t l p s r] (.bool (Xl 7 kd b t l p s r)):=by
 have hl:=y81 kd b t l p s r;simp only[vo]at hl;have n1:(kd != 7)=!(kd==7):=rfl;have k7:isk 7=true:=rfl;have t7:Zb 7=true:=rfl;have f7:YT 7 b=true:=rfl;have c8:((7:Int)==8)=false:=rfl;have c7:((7:Int) != 7)=false:=rfl;refine Qs8.fn (by simp) ?_;simp only[vo,Xl,k7,f7,c7,QVZ,QVz,QV3,eE,seval];refine aC (TQ 7) ?_;simp only[k7,n1,QV0,eE,seval];by_cases hk:kd=7
 ·subst hk;have a1:((7:Int)==7)=true:=rfl;simp only[a1,QV0,QVZ,t7,eE,seval];refine aC hl ?_;cases W7 l p s r
  ·simp only[QVt,QVQ,Qa,seval]
  simp only[QV0,QVZ,Qa,seval];refine aC (HE 7) ?_;simp only[t7,eE,seval];cases a2:((b:Int)==0)
  ·simp only[QVQ,Qa,seval]
  cases a3:decide ((t.length:Int)≤4096)
  ·simp only[a3,QVQ,QWk,eE,seval]
  simp only[a3,c8,QVZ,eE,seval];refine aC (Cz t ht) ?_;simp only[Qa,seval]
 ·have a1:(kd==7)=false:=by simp[hk]
  simp only[a1,QVt,QVQ,Qa,seval]

theorem QO5:Qk Tryz.prog 126 [nv kd b t l p s r] (.bool (Xl 7 kd b t l p s r)):=by
 have hf:=QO4 kd b t l p s r ht;have b0:((7:Int) != 0)=true:=rfl;simp only[vo]at hf;refine QKD.fn (by simp) ?_;simp only[nv,eE,seval];refine aC Qwl ?_;simp only[b0,eE,seval];cases a1:(kd==7)
 ·have e:Xl 7 kd b t l p s r=false:=by unfold Xl;rw[a1];rfl
  simp only[e,Qa,seval]
 ·simp only[eE,seval];refine aC hf ?_;simp only[Qa,seval]

def RcI (k:Nat)(st:St):Prop :=
 ∃f i,st=⟨f,[Qc],[]⟩∧k=1-i∧i≤1∧(i=1→Xl 7 kd b t l p s r=true)∧f 0=.list [nv kd b t l p s r]∧f 1=.int .i64 4∧f 5=.int .i64 (i:Nat)

theorem z71:Qk Tryz.prog 71 [.list [nv kd b t l p s r],.int .i64 4] (.int .i64 (if Xl 7 kd b t l p s r=true then 0 else 12)):=by
 have b0:decide (((1:Nat):Int) > 8)=false:=rfl;have hr:=QO5 kd b t l p s r ht;simp only[nv]at hr;refine k71.fn (by simp) ?_;simp only[QUC,QVi,QU3,Qa,seval];refine Qd (RcI kd b t l p s r) 1 ⟨_,0,rfl,rfl,QUv _,(fun h=>by cases h),(by rfl),(by rfl),(by rfl)⟩ ?_;rintro _ st ⟨f,i,rfl,rfl,hi,hf,h0,h1,h5⟩;simp only[nv]at h0;simp only[h0,h5,QUC,QVi,QU3,Qa,seval];rcases Nat.le_one_iff_eq_zero_or_eq_one.1 hi with rfl|rfl
 ·have c0:decide (((0:Nat):Int)<((1:Nat):Int))=true:=rfl;have c1:decide (((0:Nat):Int) > 0)=false:=rfl;have d7:((7:Int)==0)=false:=rfl;have e1:IntKind.i64.wrap (((0:Nat):Int)+1)=((1:Nat):Int):=rfl;have z0:(0≤((0:Nat):Int))=True:=by simp
  have z1:Int.toNat ((0:Nat):Int)=0:=rfl;simp only[Qb,QVo,h0,h5,eE,seval];refine aC Qwl ?_;simp only[d7,Qb,QVo,h0,h1,h5,eE,seval];refine aC QO3 ?_;simp only[QV0,Qb,QVo,h0,h5,eE,seval];refine aC hr ?_;cases hfv:Xl 7 kd b t l p s r
  ·simp only[QVt,QUG,Qa,seval]
  ·simp only[QV0,h5,Qa,seval];exact⟨0,by omega,_,1,rfl,rfl,QUm _,fun _=>hfv,(by exact h0),(by exact h1),(by rfl)⟩
 ·have c0:decide (((1:Nat):Int)<((1:Nat):Int))=false:=rfl;simp only[hf rfl,Qa,seval]

end

section
variable (P:PL)

def YW (P:PL)(o:PO):Bool :=
 if o.kind=10 then decide (o.target≥0)&&decide (o.target<(P.progs.length:Int))&&o.card != 3
 else if o.kind=9 then decide (o.target≥0)&&decide (o.target<(P.enums.length:Int))else o.target == -1

theorem QO6 (o:PO):Qk Tryz.prog 128 [P.av,Qs o] (.bool (YW P o)):=by
 have e0:P.av=.agg [.list (P.progs.map Qi),.list (P.enums.map Qq)]:=rfl;refine QKJ.fn (by simp) ?_;simp only[e0,Qs,PO.cells,YW,eE,seval];by_cases h:o.kind=10
 ·have b0:(o.kind==10)=true:=by simp[h]
  simp only[b0,QUQ h,eE,seval];cases a1:decide (o.target≥0)<;>cases a2:decide (o.target<(P.progs.length:Int))<;>simp only[a2,QVZ,QVQ,QVh,eE,seval]
 ·have b0:(o.kind==10)=false:=by simp[h]
  by_cases h9:o.kind=9
  ·have b1:(o.kind==9)=true:=by simp[h9]
   simp only[b0,b1,QUB h,QUQ h9,eE,seval];cases a1:decide (o.target≥0)<;>simp only[QVZ,QVQ,QVh,eE,seval]
  ·have b1:(o.kind==9)=false:=by simp[h9]
   simp only[b0,b1,QUB h,QUB h9,eE,seval]

theorem Qwm (o:PO):(Zg P o&&X5 o)=(UG o.alias&&(decide ((o.alias.length:Int)≤4096)&&(decide (o.card≥1)&&(decide (o.card≤5)&&(decide (o.kind≥1)&&(decide (o.kind≤10)&&(key o&&YW P o&&X5 o))))))):=by
 have h:GS P o=(decide (o.kind≥1)&&decide (o.kind≤10)&&YW P o):=by
  unfold GS YW;by_cases h:o.kind=10
  ·rw[QUQ h,QUQ h,h];rfl
  ·rw[QUB h,QUB h];by_cases h9:o.kind=9
   ·rw[QUQ h9,QUQ h9,h9];rfl
   ·rw[QUB h9,QUB h9];congr 1
    unfold isk;rw[QVg,QUL,QUL];simp only[QUs];omega
 unfold Zg;rw[h];cases UG o.alias<;>cases decide ((o.alias.length:Int)≤4096)<;>cases decide (o.card≥1)<;>cases decide (o.card≤5)<;>cases decide (o.kind≥1)<;>cases decide (o.kind≤10)<;>cases key o<;>cases YW P o<;>cases X5 o<;>rfl

theorem z73 (o:PO)(ha:o.alias.length+8≤maxLen):Qk Tryz.prog 73 [P.av,Qs o] (.bool (Zg P o&&X5 o)):=by
 have e0:P.av=.agg [.list (P.progs.map Qi),.list (P.enums.map Qq)]:=rfl;have n1:decide ((o.alias.length:Int) > 4096)=!decide ((o.alias.length:Int)≤4096):=(by rw[QVg];simp only[QUs,QVk,QWj];omega);have n2:decide (o.card<1)=!decide (o.card≥1):=(by rw[QVg];simp only[QUs,QVk,QWj];omega);have n3:decide (o.card > 5)=!decide (o.card≤5):=(by rw[QVg];simp only[QUs,QVk,QWj];omega);have n4:decide (o.kind<1)=!decide (o.kind≥1):=(by rw[QVg];simp only[QUs,QVk,QWj];omega);have n5:decide (o.kind > 10)=!decide (o.kind≤10):=(by rw[QVg];simp only[QUs,QVk,QWj];omega);have ht:Qk Tryz.prog 128 [.agg [.list (P.progs.map Qi),.list (P.enums.map Qq)],Qs o] (.bool (YW P o)):=QO6 P o;have hk1:o.card≠5→key o=(o.key==0):=fun h=>by unfold key;rw[QUB h]
 have hk2:o.card=5→key o=((decide (o.key≥1)&&decide (o.key≤5))||o.key==7):=fun h=>by
  unfold key;rw[QUQ h,QVg];simp only[QUL,QUr,QUs,QUt,QUN,ne_eq];omega
 have hu:X5 o=(o.union == -1||o.card==2):=rfl;simp only[Qs,PO.cells]at ht;rw[Qwm];refine k73.fn (by simp) ?_;simp only[TE,TF,TG,TH,TI,TJ,r73,o73,e0,Qs,PO.cells,eE,seval];refine aC (Cz o.alias ha) ?_;cases UG o.alias
 ·simp only[QVt,QVQ,Qa,seval]
 cases a1:decide ((o.alias.length:Int)≤4096)
 ·simp only[QV0,QVt,QVZ,n1,a1,QVQ,eE,seval]
 cases a2:decide (o.card≥1)
 ·simp only[QV0,QVt,QVZ,n1,n2,a1,a2,QVQ,eE,seval]
 cases a3:decide (o.card≤5)
 ·simp only[QV0,QVt,QVZ,n1,n2,n3,a1,a2,a3,QVQ,eE,seval]
 cases a4:decide (o.kind≥1)
 ·simp only[QV0,QVt,QVZ,n1,n2,n3,n4,a1,a2,a3,a4,QVQ,eE,seval]
 cases a5:decide (o.kind≤10)
 ·simp only[QV0,QVt,QVZ,n1,n2,n3,n4,n5,a1,a2,a3,a4,a5,QVQ,eE,seval]
 have fin:∀(f:Fr) (fr:Nat→Ob) (kb:Bool),kb=key o→f 2=.ptr 0 2 0→fr 2=.cells [.list (P.progs.map Qi),.list (P.enums.map Qq)]→f 3=.ptr 0 3 0→fr 3=.cells [.int .i64 o.num,.str o.name,.str o.alias,.int .i64 o.card,.int .i64 o.key,.int .i64 o.kind,.int .i64 o.target,.int .i64 o.union]→f 5=.bool kb→
   QE Tryz.prog Ct ⟨f,[fr],[]⟩ (Kc Tryz.prog .ret (ZK [.tmp 4] 0 fun x _=>x=.bool (key o&&YW P o&&X5 o)) .normal):=by
  intro f fr kb hkb h2 m2 h3 m3 h5;subst hkb;simp only[Ct,h5,Qa,seval];cases key o
  ·simp only[QVQ,Qa,seval]
  simp only[h2,m2,h3,m3,QVZ,eE,seval];refine aC ht ?_;cases YW P o
  ·simp only[QVQ,Qa,seval]
  rw[hu];cases c1:(o.union == -1)<;>simp only[h3,m3,c1,QVZ,QV2,QV3,eE,seval]
 by_cases h5:o.card=5
 ·have b5:(o.card != 5)=false:=by simp[h5]
  have hk:=hk2 h5;simp only[QV0,QVZ,n1,n2,n3,n4,n5,a1,a2,a3,a4,a5,eE,seval];cases c1:decide (o.key≥1)<;>cases c2:decide (o.key≤5)<;>cases c3:(o.key==7)<;>simp only[c2,c3,b5,eE,seval]
  all_goals
   rw[c1,c2,c3]at hk;exact fin _ _ _ hk.symm (by rfl) (by rfl) (by rfl) (by rfl) (by rfl)
 ·have b5:(o.card != 5)=true:=by simp[h5]
  have hk:=hk1 h5;simp only[QV0,QVZ,n1,n2,n3,n4,n5,a1,a2,a3,a4,a5,eE,seval];cases c1:decide (o.key≥1)<;>cases c2:decide (o.key≤5)<;>cases c3:(o.key==7)<;>simp only[c2,c3,b5,eE,seval]
  all_goals exact fin _ _ _ hk.symm (by rfl) (by rfl) (by rfl) (by rfl) (by rfl)

end

end Go.Proofs.YtdhlbgejhcejcaaGreatDoor.Va

namespace Go.Proofs.YtdhlbgejhcejcaaGreatDoor.Cp
open Go Am Bt Vp

structure C where
 d:List UInt8
 a:Int
 e:Int
 dp:Int
 nd:Int
 tx:Int

def zc:C:=⟨[],0,0,0,0,0⟩

structure L where
 b:Int
 dp:Int
 nd:Int
 tx:Int
def C.sound (c:C):Bool:=decide (0≤c.a)&&decide (c.a≤c.e)&&decide (c.e≤(c.d.length:Int))
def C.rest (c:C):List UInt8:=bif c.sound then(c.d.drop c.a.toNat).take (c.e.toNat-c.a.toNat)else []
def C.left (c:C):Int:=(c.rest.length:Int)
def C.ahead (c:C)(n:Int):C:={ c with a:=IntKind.i64.wrap (c.a+n) }

def opn (s:List UInt8)(l:L):C×Nat :=
 if l.b<0∨l.dp<0∨l.nd<0∨l.tx<0 then(zc,1)else if l.b<(s.length:Int)then(zc,3)else(⟨s,0,s.length,l.dp,l.nd,l.tx⟩,0)

def C.varint (c:C):Nat×C×Nat :=
 let r:=Vp.take c.rest
 if r.2.2=0 then(r.1,c.ahead r.2.1,0)else(0,c,r.2.2)

def Sc (s:List UInt8):Nat:=(s.take 8).foldr (fun b u=>256*u+b.toNat) 0

def C.fixed (c:C):Nat×C×Nat :=
 if c.rest.length<8 then(0,c,4)else(Sc c.rest,c.ahead 8,0)

def C.spend (c:C)(n:Int):C×Nat :=
 if n<0 then(c,1)else if c.nd<n then(c,3)else({ c with nd:=IntKind.i64.wrap (c.nd-n) },0)

end Go.Proofs.YtdhlbgejhcejcaaGreatDoor.Cp

namespace Go.Proofs.YtdhlbgejhcejcaaGreatDoor.Up
open Go Am Bt Vp Cp

structure R where
 num:Int
 wire:Int
 bits:Nat
 data:List UInt8
 deriving DecidableEq

def R.av (f:R):AV:=.agg [.int .i64 f.num,.int .i64 f.wire,.int .u64 (f.bits:Nat),.str f.data]
def zr:R:=⟨0,0,0,[]⟩

def ZZ (num wire:Int):List UInt8×Nat :=
 if num<1∨65535<num∨wire<0∨6<wire then([],6)else(Vp.put (num*8+wire).toNat,0)
def CM (r:List UInt8×Nat):AV:=.tup [.str r.1,.int .i64 (r.2:Nat)]

def Qat (c:C):Int×Int×C×Nat :=
 let r:=c.varint
 if r.2.2=0 then
  if r.1 % 8=7 then(0,0,c,5)else if r.1 / 8<1∨65535<r.1 / 8 then(0,0,c,6)else((r.1 / 8:Nat),(r.1 % 8:Nat),r.2.1,0)
 else(0,0,c,r.2.2)
def ZR (wire:Int):Bool:=wire==0||wire==1||wire==2

def Vr (c:C)(wire:Int):List UInt8×C×Nat :=
 let r:=c.varint
 if r.2.2=0 then
  if r.2.1.left<(r.1:Int)then([],c,4)
  else if (if wire=3 then c.tx else 65536)<(r.1:Int)then([],c,3)
  else((r.2.1.d.drop r.2.1.a.toNat).take r.1,r.2.1.ahead r.1,0)
 else([],c,r.2.2)
def QO7 (c:C)(f:R):R×C×Nat :=
 if f.wire=2 then({ f with bits:=c.fixed.1 },c.fixed.2.1,c.fixed.2.2)
 else if f.wire=0∨f.wire=1 then({ f with bits:=c.varint.1 },c.varint.2.1,c.varint.2.2)
 else({ f with data:=(Vr c f.wire).1 },(Vr c f.wire).2.1,(Vr c f.wire).2.2)

def nxt (c:C):R×C×Nat :=
 let t:=Qat c
 if t.2.2.2=0 then
  let s:=t.2.2.1.spend 1
  if s.2=0 then
   let k:=QO7 s.1 { num:=t.1,wire:=t.2.1,bits:=0,data:=[] }
   if k.2.2=0 then k else(zr,c,k.2.2)
  else(zr,c,s.2)
 else(zr,c,t.2.2.2)
end Go.Proofs.YtdhlbgejhcejcaaGreatDoor.Up

namespace Go.Proofs.YtdhlbgejhcejcaaGreatDoor.Br
open Go Am Up

theorem Qau {M k:Nat}{cs:List AV}(h:Q7 Tryz.prog M k 53 cs):∃f:R,((Lit.int .i64 f.num).wf=true∧(Lit.int .i64 f.wire).wf=true∧(Lit.int .u64 (f.bits:Int)).wf=true∧f.data.length≤M)∧.agg cs=f.av:=by
 obtain⟨k,h⟩:=Zj Tryz.underlying53 h;simp only[Q7.HasL]at h;obtain⟨_,_,rfl,h0,_,_,rfl,h1,_,_,rfl,h2,_,_,rfl,h3,rfl⟩:=h;obtain⟨a0,rfl,w0⟩:=XA Tryz.underlying3 h0;obtain⟨a1,rfl,w1⟩:=XA Tryz.underlying3 h1;obtain⟨a2,rfl,w2⟩:=XA Tryz.underlying26 h2;obtain⟨a3,rfl,w3⟩:=JA Tryz.underlying9 h3;have hn:0≤a2:=Bc w2;obtain⟨n,rfl⟩:=QV1 hn;exact⟨⟨a0,a1,n,a3⟩,⟨w0,w1,w2,w3⟩,rfl⟩

inductive V where
 |mk (k:Int) (b:Nat) (t:List UInt8) (l:List V) (p:List (V×V)) (s:List (Int×V)) (r:List R)
 deriving Inhabited

mutual
def V.cells:V→List AV
 |.mk k b t l p s r=>[.int .i64 k,.int .u64 (b:Nat),.str t,.list (V.cl l),.list (V.cp p),.list (V.cs s),.list (r.map R.av)]
def V.cl:List V→List AV
 | []=>[]
 |x :: l=>.agg x.cells :: V.cl l
def V.cp:List (V×V)→List AV
 | []=>[]
 |(a,b) :: l=>.agg (a.cells++b.cells) :: V.cp l
def V.cs:List (Int×V)→List AV
 | []=>[]
 |(n,a) :: l=>.agg (.int .i64 n :: a.cells) :: V.cs l
end

def V.kd:V→Int|.mk k _ _ _ _ _ _=>k
def V.bits:V→Nat|.mk _ b _ _ _ _ _=>b
def V.text:V→List UInt8|.mk _ _ t _ _ _ _=>t
def V.list:V→List V|.mk _ _ _ l _ _ _=>l
def V.pairs:V→List (V×V)|.mk _ _ _ _ p _ _=>p
def V.slots:V→List (Int×V)|.mk _ _ _ _ _ s _=>s
def V.raws:V→List R|.mk _ _ _ _ _ _ r=>r

def V.av (v:V):AV:=.agg v.cells
def V.pav (p:V×V):AV:=.agg (p.1.cells++p.2.cells)
def V.sav (s:Int×V):AV:=.agg (.int .i64 s.1 :: s.2.cells)

theorem V.cl_eq:∀l:List V,V.cl l=l.map V.av
 | []=>rfl
 |x :: l=>by rw[V.cl,V.cl_eq l];rfl
theorem V.cp_eq:∀l:List (V×V),V.cp l=l.map V.pav
 | []=>rfl
 |(a,b) :: l=>by rw[V.cp,V.cp_eq l];rfl
theorem V.cs_eq:∀l:List (Int×V),V.cs l=l.map V.sav
 | []=>rfl
 |(n,a) :: l=>by rw[V.cs,V.cs_eq l];rfl

theorem V.eta:∀v:V,v.cells=[.int .i64 v.kd,.int .u64 (v.bits:Nat),.str v.text,.list (v.list.map V.av),.list (v.pairs.map V.pav),.list (v.slots.map V.sav),.list (v.raws.map R.av)]
 |.mk k b t l p s r=>by rw[V.cells,V.cl_eq,V.cp_eq,V.cs_eq];rfl

theorem V.ind {P:V→Prop}(h:∀v:V,(∀x∈v.list,P x)→(∀x∈v.pairs,P x.1∧P x.2)→(∀x∈v.slots,P x.2)→P v)(v:V):P v :=
 V.rec (motive_1:=P) (motive_2:=fun l=>∀x∈l,P x) (motive_3:=fun p=>∀x∈p,P x.1∧P x.2) (motive_4:=fun s=>∀x∈s,P x.2) (motive_5:=fun q=>P q.1∧P q.2) (motive_6:=fun q=>P q.2)
  (fun k b t l p s r hl hp hs=>h (.mk k b t l p s r) hl hp hs)
  (by simp) (fun a l ha hl=>by simpa using ⟨ha,hl⟩)
  (by simp) (fun a l ha hl=>by simp only[QVI,forall_eq_or_imp];exact⟨ha,hl⟩)
  (by simp) (fun a l ha hl=>by simp only[QVI,forall_eq_or_imp];exact⟨ha,hl⟩)
  (fun a b ha hb=>⟨ha,hb⟩) (fun n a ha=>ha) v

structure _root_.Go.Proofs.YtdhlbgejhcejcaaGreatDoor.Up.R.ok (M:Nat)(f:R):Prop where
 num:(Lit.int .i64 f.num).wf=true
 wire:(Lit.int .i64 f.wire).wf=true
 bits:(Lit.int .u64 (f.bits:Int)).wf=true
 data:f.data.length≤M

inductive V.ok (M:Nat):V→Prop
 |mk {v:V} (kd:(Lit.int .i64 v.kd).wf=true) (bits:(Lit.int .u64 (v.bits:Int)).wf=true) (text:v.text.length≤M) (nl:v.list.length≤1099511627776) (np:v.pairs.length≤549755813888) (ns:v.slots.length≤1099511627776) (nr:v.raws.length≤70368744177664)
   (list:∀x∈v.list,V.ok M x) (keys:∀x∈v.pairs,V.ok M x.1) (vals:∀x∈v.pairs,V.ok M x.2) (nums:∀x∈v.slots,(Lit.int .i64 x.1).wf=true) (slots:∀x∈v.slots,V.ok M x.2) (raws:∀x∈v.raws,x.ok M):V.ok M v

section
variable {M:Nat}{v:V}(h:v.ok M)
include h
theorem V.ok.kd:(Lit.int .i64 v.kd).wf=true:=by cases h;assumption
theorem V.ok.bits:(Lit.int .u64 (v.bits:Int)).wf=true:=by cases h;assumption
theorem V.ok.text:v.text.length≤M:=by cases h;assumption
theorem V.ok.nl:v.list.length≤1099511627776:=by cases h;assumption
theorem V.ok.np:v.pairs.length≤549755813888:=by cases h;assumption
theorem V.ok.ns:v.slots.length≤1099511627776:=by cases h;assumption
theorem V.ok.nr:v.raws.length≤70368744177664:=by cases h;assumption
theorem V.ok.list:∀x∈v.list,x.ok M:=by cases h;assumption
theorem V.ok.keys:∀x∈v.pairs,x.1.ok M:=by cases h;assumption
theorem V.ok.vals:∀x∈v.pairs,x.2.ok M:=by cases h;assumption
theorem V.ok.nums:∀x∈v.slots,(Lit.int .i64 x.1).wf=true:=by cases h;assumption
theorem V.ok.slots:∀x∈v.slots,x.2.ok M:=by cases h;assumption
theorem V.ok.raws:∀x∈v.raws,x.ok M:=by cases h;assumption
end

theorem V.cells_length (v:V):v.cells.length=7:=by rw[V.eta];rfl

theorem DJ {c:List AV}(h:2≤c.length):Xy c=.agg c:=by
 match c,h with
 |_ :: _ :: _,_=>rfl

theorem TV {M:Nat}(hM:M=reachBytes∨M≤1048576):∀ {k:Nat} {cs:List AV},Q7 Tryz.prog M k 32 cs→∃v:V,v.ok M∧cs=v.cells:=by
 intro k
 induction k using Nat.strongRecOn with
 |ind k ih=>
 intro cs h;cases k with
 |zero=>cases h
 |succ k=>
 simp only[Q7,Tryz.underlying32,Q7.HasL]at h;obtain⟨_,_,rfl,h0,_,_,rfl,h1,_,_,rfl,h2,_,_,rfl,h3,_,_,rfl,h4,_,_,rfl,h5,_,_,rfl,h6,rfl⟩:=h;obtain⟨a0,rfl,w0⟩:=XA Tryz.underlying3 h0;obtain⟨a1,rfl,w1⟩:=XA Tryz.underlying26 h1;obtain⟨a2,rfl,w2⟩:=JA Tryz.underlying9 h2;have hb:0≤a1:=Bc w1;obtain⟨b,rfl⟩:=QV1 hb;have sl:∀ {k0:Nat} {t e:TypeId} {cs:List AV},k0≤k→Tryz.prog.underlying t=some (.slice e)→Q7 Tryz.prog M k0 t cs→∃(k':Nat) (l:List (List AV)),k'<k∧cs=[.list (l.map Xy)]∧(l.length≤M∧(M=reachBytes→l.length*Tryz.prog.bytesOf e≤M))∧∀c∈l,Q7 Tryz.prog M k' e c:=by
  intro k0 t e cs hk hu h;cases k0 with
  |zero=>cases h
  |succ k0=>
   simp only[Q7,hu]at h;obtain⟨l,h1,h4,h3,h2⟩:=h;exact⟨k0,l,by omega,h1,⟨h2,h4.2⟩,h3⟩
 have nb:∀ {n b:Nat} (c:Nat),(n≤M∧(M=reachBytes→n*b≤M))→1048576≤c→(n*b≤140737488351232→n≤c)→n≤c:=fun c h1 h2 h3=>by
  rcases hM with e|e
  ·refine h3 (QUl (h1.2 e) ?_);rw[e];exact QUm _
  ·exact QUl h1.1 (QUl e h2)
 have y1:Tryz.prog.bytesOf 32=128:=by decide +kernel
 have y2:Tryz.prog.bytesOf 77=256:=by decide +kernel
 have y3:Tryz.prog.bytesOf 55=136:=by decide +kernel
 have y4:Tryz.prog.bytesOf 53=40:=by decide +kernel
 obtain⟨k3,l3,b3,rfl,w3,hl3⟩:=sl (QUm _) Tryz.underlying27 h3;obtain⟨k4,l4,b4,rfl,w4,hl4⟩:=sl (QUm _) Tryz.underlying28 h4;obtain⟨k5,l5,b5,rfl,w5,hl5⟩:=sl (QUm _) Tryz.underlying29 h5;obtain⟨k6,l6,b6,rfl,w6,hl6⟩:=sl (QUm _) Tryz.underlying30 h6;obtain⟨vs,rfl,hvs⟩:=Zz (f:=V.cells) (ok:=V.ok M) fun c hc=>ih k3 (by omega) (hl3 c hc)
 obtain⟨ps,rfl,hps⟩:=Zz (l:=l4) (f:=fun p:V×V=>p.1.cells++p.2.cells) (ok:=fun p=>p.1.ok M∧p.2.ok M) fun c hc=>by
  have h:=hl4 c hc;cases k4 with
  |zero=>cases h
  |succ k4=>
  simp only[Q7,Tryz.underlying77,Q7.HasL]at h;obtain⟨a,_,rfl,h0,b,_,rfl,h1,rfl⟩:=h;obtain⟨x,hx,rfl⟩:=ih k4 (by omega) h0;obtain⟨y,hy,rfl⟩:=ih k4 (by omega) h1;exact⟨(x,y),⟨hx,hy⟩,by simp⟩
 obtain⟨ss,rfl,hss⟩:=Zz (l:=l5) (f:=fun s:Int×V=>.int .i64 s.1 :: s.2.cells) (ok:=fun s=>(Lit.int .i64 s.1).wf=true∧s.2.ok M) fun c hc=>by
  have h:=hl5 c hc;cases k5 with
  |zero=>cases h
  |succ k5=>
  simp only[Q7,Tryz.underlying55,Q7.HasL]at h;obtain⟨_,_,rfl,h0,b,_,rfl,h1,rfl⟩:=h;obtain⟨a0,rfl,w0⟩:=XA Tryz.underlying3 h0;obtain⟨y,hy,rfl⟩:=ih k5 (by omega) h1;exact⟨(a0,y),⟨w0,hy⟩,by simp⟩
 obtain⟨rs,rfl,hrs⟩:=Zz (l:=l6) (f:=fun r:R=>r.av.cells) (ok:=R.ok M) fun c hc=>by
  obtain⟨f,⟨g1,g2,g3,g4⟩,e⟩:=Qau (hl6 c hc);refine⟨f,⟨g1,g2,g3,g4⟩,?_⟩;rw[←e];rfl
 refine⟨.mk a0 b a2 vs ps ss rs,.mk w0 w1 w2 (by rw[QVh,y1]at w3;exact nb _ w3 (by decide) (by omega)) (by rw[QVh,y2]at w4;exact nb _ w4 (by decide) (by omega)) (by rw[QVh,y3]at w5;exact nb _ w5 (by decide) (by omega)) (by rw[QVh,y4]at w6;exact nb _ w6 (by decide) (by omega)) hvs (fun x hx=>(hps x hx).1) (fun x hx=>(hps x hx).2) (fun x hx=>(hss x hx).1) (fun x hx=>(hss x hx).2) hrs,?_⟩;rw[V.eta];have e3:(vs.map V.cells).map Xy=vs.map V.av:=by
  rw[QV9];exact QV8 fun c _=>DJ (by rw[V.cells_length];omega)
 have e4:(ps.map (fun p=>p.1.cells++p.2.cells)).map Xy=ps.map V.pav:=by
  rw[QV9];exact QV8 fun p _=>DJ (by rw[QUZ,V.cells_length];omega)
 have e5:(ss.map (fun s=>AV.int .i64 s.1 :: s.2.cells)).map Xy=ss.map V.sav:=by
  rw[QV9];exact QV8 fun p _=>DJ (by rw[QUC,V.cells_length];omega)
 have e6:(rs.map (fun r=>r.av.cells)).map Xy=rs.map R.av:=by
  rw[QV9];exact QV8 fun r _=>rfl
 rw[e3,e4,e5,e6];rfl

end Go.Proofs.YtdhlbgejhcejcaaGreatDoor.Br

namespace Go.Proofs.YtdhlbgejhcejcaaGreatDoor.Va
open Go Am Rc Bt Br

def oth (k:Int)(b:Nat)(t:List UInt8)(l p s r:List AV):Bool :=
 (k != 11&&decide ((l.length:Int) > 0))||(k != 12&&decide ((p.length:Int) > 0))||(k != 10&&decide (((s.length+r.length:Nat):Int) > 0))||((b:Int) != 0&&(Zb k||k==10||k==11||k==12))||(!(t==[]) && !Zb k)

section
variable (k:Int)(b:Nat)(t:List UInt8)(l p s r:List AV)(hs:s.length≤140737488351232)(hr:r.length≤140737488351232)

set_option maxHeartbeats 2000000 in
include hs hr in
theorem z89:Qk Tryz.prog 89 [vo k b t l p s r] (.bool (oth k b t l p s r)):=by
 have w:IntKind.i64.wrap ((s.length:Int)+(r.length:Int))=((s.length+r.length:Nat):Int):=by simp only[QF];omega
 have n4:((b:Int) != 0)=!((b:Int)==0):=rfl;have n5:(t != [])=!(t==[]):=rfl;refine k89.fn (by simp) ?_;simp only[vo,oth,Zb,n4,eE,seval];rcases(by omega:k=7∨k=8∨k=10∨k=11∨k=12∨(k≠7∧k≠8∧k≠10∧k≠11∧k≠12))with rfl|rfl|rfl|rfl|rfl|⟨h7,h8,h10,h11,h12⟩
 ·have b7:((7:Int)==7)=true:=by decide
  have b8:((7:Int)==8)=false:=by decide
  have b10:((7:Int)==10)=false:=by decide
  have b11:((7:Int)==11)=false:=by decide
  have b12:((7:Int)==12)=false:=by decide
  have c10:((7:Int) != 10)=true:=by decide
  have c11:((7:Int) != 11)=true:=by decide
  have c12:((7:Int) != 12)=true:=by decide
  have g1:decide ((7:Int)≥10)=false:=by decide
  have g2:decide ((7:Int)≤12)=true:=by decide
  simp only[b7,b8,b10,b11,b12,c10,c11,c12,QVZ,QWl,QWk,QVz,QV0,eE,seval];cases a1:decide ((l.length:Int) > 0)<;>try simp only[c12,QV3,QV2,eE,seval]
  all_goals(cases a2:decide ((p.length:Int) > 0)<;>try simp only[c10,QV3,QV2,w,eE,seval])
  all_goals(cases a3:decide (((s.length+r.length:Nat):Int) > 0)<;>try simp only[QV3,QV2,eE,seval])
  all_goals(cases a4:((b:Int)==0)<;>try simp only[a4,n4,QVt,QV0,QH,eE,seval])
  all_goals(cases a5:(t==[])<;>try simp only[QVt,QV0,Qa,seval])

 ·have b7:((8:Int)==7)=false:=by decide
  have b8:((8:Int)==8)=true:=by decide
  have b10:((8:Int)==10)=false:=by decide
  have b11:((8:Int)==11)=false:=by decide
  have b12:((8:Int)==12)=false:=by decide
  have c10:((8:Int) != 10)=true:=by decide
  have c11:((8:Int) != 11)=true:=by decide
  have c12:((8:Int) != 12)=true:=by decide
  have g1:decide ((8:Int)≥10)=false:=by decide
  have g2:decide ((8:Int)≤12)=true:=by decide
  simp only[b7,b8,b10,b11,b12,c10,c11,c12,QVZ,QWl,QWm,QWk,QVz,QV0,eE,seval];cases a1:decide ((l.length:Int) > 0)<;>try simp only[c12,QV3,QV2,eE,seval]
  all_goals(cases a2:decide ((p.length:Int) > 0)<;>try simp only[c10,QV3,QV2,w,eE,seval])
  all_goals(cases a3:decide (((s.length+r.length:Nat):Int) > 0)<;>try simp only[QV3,QV2,eE,seval])
  all_goals(cases a4:((b:Int)==0)<;>try simp only[a4,n4,QVt,QV0,QH,eE,seval])
  all_goals(cases a5:(t==[])<;>try simp only[QVt,QV0,Qa,seval])

 ·have b7:((10:Int)==7)=false:=by decide
  have b8:((10:Int)==8)=false:=by decide
  have b10:((10:Int)==10)=true:=by decide
  have b11:((10:Int)==11)=false:=by decide
  have b12:((10:Int)==12)=false:=by decide
  have c10:((10:Int) != 10)=false:=by decide
  have c11:((10:Int) != 11)=true:=by decide
  have c12:((10:Int) != 12)=true:=by decide
  have g1:decide ((10:Int)≥10)=true:=by decide
  have g2:decide ((10:Int)≤12)=true:=by decide
  simp only[b7,b8,b10,b11,b12,c10,c11,c12,QVZ,QVQ,QWl,QWm,QVz,QVt,eE,seval];cases a1:decide ((l.length:Int) > 0)<;>try simp only[c12,QV3,QV2,eE,seval]
  all_goals(cases a2:decide ((p.length:Int) > 0)<;>try simp only[c10,QV3,QV2,eE,seval])
  all_goals(cases a3:decide (((s.length+r.length:Nat):Int) > 0)<;>try simp only[a3,g1,g2,b7,b8,b10,b11,b12,c10,c11,c12,QVZ,QVQ,QWl,QWm,QV3,QV2,QWk,QVz,QVt,QV0,w,QH,eE,seval])
  all_goals(cases a4:((b:Int)==0)<;>try simp only[a4,n4,QV3,QV2,QVt,QV0,QH,eE,seval])
  all_goals(cases a5:(t==[])<;>try simp only[QVt,QV0,Qa,seval])

 ·have b7:((11:Int)==7)=false:=by decide
  have b8:((11:Int)==8)=false:=by decide
  have b10:((11:Int)==10)=false:=by decide
  have b11:((11:Int)==11)=true:=by decide
  have b12:((11:Int)==12)=false:=by decide
  have c10:((11:Int) != 10)=true:=by decide
  have c11:((11:Int) != 11)=false:=by decide
  have c12:((11:Int) != 12)=true:=by decide
  have g1:decide ((11:Int)≥10)=true:=by decide
  have g2:decide ((11:Int)≤12)=true:=by decide
  simp only[b7,b8,b10,b11,b12,c10,c11,c12,QVZ,QVQ,QWl,QWm,QV3,QVz,QVt,eE,seval];cases a1:decide ((l.length:Int) > 0)<;>try simp only[a1,g1,g2,b7,b8,b10,b11,b12,c10,c11,c12,QVZ,QVQ,QWl,QWm,QV3,QV2,QWk,QVz,QVt,QV0,w,QH,eE,seval]
  all_goals(cases a2:decide ((p.length:Int) > 0)<;>try simp only[c10,QV3,QV2,w,eE,seval])
  all_goals(cases a3:decide (((s.length+r.length:Nat):Int) > 0)<;>try simp only[QV3,QV2,eE,seval])
  all_goals(cases a4:((b:Int)==0)<;>try simp only[a4,n4,QV3,QV2,QVt,QV0,QH,eE,seval])
  all_goals(cases a5:(t==[])<;>try simp only[QVt,QV0,Qa,seval])

 ·have b7:((12:Int)==7)=false:=by decide
  have b8:((12:Int)==8)=false:=by decide
  have b10:((12:Int)==10)=false:=by decide
  have b11:((12:Int)==11)=false:=by decide
  have b12:((12:Int)==12)=true:=by decide
  have c10:((12:Int) != 10)=true:=by decide
  have c11:((12:Int) != 11)=true:=by decide
  have c12:((12:Int) != 12)=false:=by decide
  have g1:decide ((12:Int)≥10)=true:=by decide
  have g2:decide ((12:Int)≤12)=true:=by decide
  simp only[b7,b8,b10,b11,b12,c10,c11,c12,QVZ,QVQ,QWl,QWm,QVz,QVt,eE,seval];cases a1:decide ((l.length:Int) > 0)<;>try simp only[c10,c12,QV3,QV2,w,eE,seval]
  all_goals(cases a2:decide ((p.length:Int) > 0)<;>try simp only[a2,g1,g2,b7,b8,b10,b11,b12,c10,c11,c12,QVZ,QVQ,QWl,QWm,QV3,QV2,QWk,QVz,QVt,QV0,w,QH,eE,seval])
  all_goals(cases a3:decide (((s.length+r.length:Nat):Int) > 0)<;>try simp only[QV3,QV2,eE,seval])
  all_goals(cases a4:((b:Int)==0)<;>try simp only[a4,n4,QV3,QV2,QVt,QV0,QH,eE,seval])
  all_goals(cases a5:(t==[])<;>try simp only[QVt,QV0,Qa,seval])
 ·have b7:(k==7)=false:=by simp[h7]
  have b8:(k==8)=false:=by simp[h8]
  have b10:(k==10)=false:=by simp[h10]
  have b11:(k==11)=false:=by simp[h11]
  have b12:(k==12)=false:=by simp[h12]
  have c10:(k != 10)=true:=by simp[h10]
  have c11:(k != 11)=true:=by simp[h11]
  have c12:(k != 12)=true:=by simp[h12]
  rcases(by omega:(k≥10∧¬k≤12)∨¬k≥10)with⟨q1,q2⟩|q1
  ·have g1:decide (k≥10)=true:=QWi q1;have g2:decide (k≤12)=false:=QWb q2;simp only[b7,b8,b10,b11,b12,c10,c11,c12,QVZ,QWl,QWk,QVz,QVt,eE,seval];cases a1:decide ((l.length:Int) > 0)<;>try simp only[c12,QV3,QV2,eE,seval]
   all_goals(cases a2:decide ((p.length:Int) > 0)<;>try simp only[c10,QV3,QV2,w,eE,seval])
   all_goals(cases a3:decide (((s.length+r.length:Nat):Int) > 0)<;>try simp only[QV3,QV2,eE,seval])
   all_goals(cases a4:((b:Int)==0)<;>try simp only[a4,n4,g1,g2,QVt,QV0,QH,eE,seval])
   all_goals(cases a5:(t==[])<;>try simp only[QVt,QV0,Qa,seval])
  ·have g1:decide (k≥10)=false:=QWb q1;simp only[b7,b8,b10,b11,b12,c10,c11,c12,QVZ,QWl,QWk,QVz,QVt,eE,seval];cases a1:decide ((l.length:Int) > 0)<;>try simp only[c12,QV3,QV2,eE,seval]
   all_goals(cases a2:decide ((p.length:Int) > 0)<;>try simp only[c10,QV3,QV2,w,eE,seval])
   all_goals(cases a3:decide (((s.length+r.length:Nat):Int) > 0)<;>try simp only[QV3,QV2,eE,seval])
   all_goals(cases a4:((b:Int)==0)<;>try simp only[a4,n4,g1,QVt,QV0,QH,eE,seval])
   all_goals(cases a5:(t==[])<;>try simp only[QVt,QV0,Qa,seval])

end

section
variable (k:Int)(b:Nat)(t:List UInt8)(l p s r:List AV)(hs:s.length≤140737488351232)(hr:r.length≤140737488351232)

set_option maxHeartbeats 2000000 in
include hs hr in
theorem z43:Qk Tryz.prog 43 [vo k b t l p s r] (.bool (oth k b t l p s r)):=by
 have w:IntKind.i64.wrap ((s.length:Int)+(r.length:Int))=((s.length+r.length:Nat):Int):=by simp only[QF];omega
 have n4:((b:Int) != 0)=!((b:Int)==0):=rfl;have n5:(t != [])=!(t==[]):=rfl;refine k43.fn (by simp) ?_;simp only[vo,oth,Zb,n4,eE,seval];rcases(by omega:k=7∨k=8∨k=10∨k=11∨k=12∨(k≠7∧k≠8∧k≠10∧k≠11∧k≠12))with rfl|rfl|rfl|rfl|rfl|⟨h7,h8,h10,h11,h12⟩
 ·have b7:((7:Int)==7)=true:=by decide
  have b8:((7:Int)==8)=false:=by decide
  have b10:((7:Int)==10)=false:=by decide
  have b11:((7:Int)==11)=false:=by decide
  have b12:((7:Int)==12)=false:=by decide
  have c10:((7:Int) != 10)=true:=by decide
  have c11:((7:Int) != 11)=true:=by decide
  have c12:((7:Int) != 12)=true:=by decide
  have g1:decide ((7:Int)≥10)=false:=by decide
  have g2:decide ((7:Int)≤12)=true:=by decide
  simp only[b7,b8,b10,b11,b12,c10,c11,c12,QVZ,QWl,QWk,QVz,QV0,eE,seval];cases a1:decide ((l.length:Int) > 0)<;>try simp only[c11,QV3,QV2,eE,seval]
  all_goals(cases a2:decide ((p.length:Int) > 0)<;>try simp only[c12,QV3,QV2,w,eE,seval])
  all_goals(cases a3:decide (((s.length+r.length:Nat):Int) > 0)<;>try simp only[QV3,QV2,QVt,eE,seval])
  all_goals(cases a4:((b:Int)==0)<;>try simp only[a4,n4,QVt,QV0,QH,eE,seval])
  all_goals(cases a5:(t==[])<;>try simp only[QVt,QV0,Qa,seval])

 ·have b7:((8:Int)==7)=false:=by decide
  have b8:((8:Int)==8)=true:=by decide
  have b10:((8:Int)==10)=false:=by decide
  have b11:((8:Int)==11)=false:=by decide
  have b12:((8:Int)==12)=false:=by decide
  have c10:((8:Int) != 10)=true:=by decide
  have c11:((8:Int) != 11)=true:=by decide
  have c12:((8:Int) != 12)=true:=by decide
  have g1:decide ((8:Int)≥10)=false:=by decide
  have g2:decide ((8:Int)≤12)=true:=by decide
  simp only[b7,b8,b10,b11,b12,c10,c11,c12,QVZ,QWl,QWm,QWk,QVz,QV0,eE,seval];cases a1:decide ((l.length:Int) > 0)<;>try simp only[c11,QV3,QV2,eE,seval]
  all_goals(cases a2:decide ((p.length:Int) > 0)<;>try simp only[c12,QV3,QV2,w,eE,seval])
  all_goals(cases a3:decide (((s.length+r.length:Nat):Int) > 0)<;>try simp only[QV3,QV2,QVt,eE,seval])
  all_goals(cases a4:((b:Int)==0)<;>try simp only[a4,n4,QVt,QV0,QH,eE,seval])
  all_goals(cases a5:(t==[])<;>try simp only[QVt,QV0,Qa,seval])

 ·have b7:((10:Int)==7)=false:=by decide
  have b8:((10:Int)==8)=false:=by decide
  have b10:((10:Int)==10)=true:=by decide
  have b11:((10:Int)==11)=false:=by decide
  have b12:((10:Int)==12)=false:=by decide
  have c10:((10:Int) != 10)=false:=by decide
  have c11:((10:Int) != 11)=true:=by decide
  have c12:((10:Int) != 12)=true:=by decide
  have g1:decide ((10:Int)≥10)=true:=by decide
  have g2:decide ((10:Int)≤12)=true:=by decide
  simp only[b7,b8,b10,b11,b12,c10,c11,c12,QVZ,QVQ,QWl,QWm,QVz,QVt,eE,seval];cases a1:decide ((l.length:Int) > 0)<;>try simp only[c11,QV3,QV2,eE,seval]
  all_goals(cases a2:decide ((p.length:Int) > 0)<;>try simp only[c12,QV3,QV2,w,eE,seval])
  all_goals(cases a3:decide (((s.length+r.length:Nat):Int) > 0)<;>try simp only[QV0,eE,seval])
  all_goals(cases a4:((b:Int)==0)<;>try simp only[a4,n4,b11,b12,QV3,QV2,QVt,QV0,QH,eE,seval])
  all_goals(cases a5:(t==[])<;>try simp only[QVt,QV0,Qa,seval])

 ·have b7:((11:Int)==7)=false:=by decide
  have b8:((11:Int)==8)=false:=by decide
  have b10:((11:Int)==10)=false:=by decide
  have b11:((11:Int)==11)=true:=by decide
  have b12:((11:Int)==12)=false:=by decide
  have c10:((11:Int) != 10)=true:=by decide
  have c11:((11:Int) != 11)=false:=by decide
  have c12:((11:Int) != 12)=true:=by decide
  have g1:decide ((11:Int)≥10)=true:=by decide
  have g2:decide ((11:Int)≤12)=true:=by decide
  simp only[b7,b8,b10,b11,b12,c10,c11,c12,QVZ,QVQ,QWl,QWm,QV3,QVz,QVt,eE,seval];cases a1:decide ((l.length:Int) > 0)<;>try simp only[c11,eE,seval]
  all_goals(cases a2:decide ((p.length:Int) > 0)<;>try simp only[c12,QV3,QV2,w,eE,seval])
  all_goals(cases a3:decide (((s.length+r.length:Nat):Int) > 0)<;>try simp only[QV3,QV2,QVt,eE,seval])
  all_goals(cases a4:((b:Int)==0)<;>try simp only[a4,n4,b11,QV3,QV2,QVt,QV0,QH,eE,seval])
  all_goals(cases a5:(t==[])<;>try simp only[QVt,QV0,Qa,seval])

 ·have b7:((12:Int)==7)=false:=by decide
  have b8:((12:Int)==8)=false:=by decide
  have b10:((12:Int)==10)=false:=by decide
  have b11:((12:Int)==11)=false:=by decide
  have b12:((12:Int)==12)=true:=by decide
  have c10:((12:Int) != 10)=true:=by decide
  have c11:((12:Int) != 11)=true:=by decide
  have c12:((12:Int) != 12)=false:=by decide
  have g1:decide ((12:Int)≥10)=true:=by decide
  have g2:decide ((12:Int)≤12)=true:=by decide
  simp only[b7,b8,b10,b11,b12,c10,c11,c12,QVZ,QVQ,QWl,QWm,QVz,QVt,eE,seval];cases a1:decide ((l.length:Int) > 0)<;>try simp only[c11,QV3,QV2,eE,seval]
  all_goals(cases a2:decide ((p.length:Int) > 0)<;>try simp only[c12,w,eE,seval])
  all_goals(cases a3:decide (((s.length+r.length:Nat):Int) > 0)<;>try simp only[QV3,QV2,QVt,eE,seval])
  all_goals(cases a4:((b:Int)==0)<;>try simp only[a4,n4,b11,b12,QV3,QV2,QVt,QV0,QH,eE,seval])
  all_goals(cases a5:(t==[])<;>try simp only[QVt,QV0,Qa,seval])
 ·have b7:(k==7)=false:=by simp[h7]
  have b8:(k==8)=false:=by simp[h8]
  have b10:(k==10)=false:=by simp[h10]
  have b11:(k==11)=false:=by simp[h11]
  have b12:(k==12)=false:=by simp[h12]
  have c10:(k != 10)=true:=by simp[h10]
  have c11:(k != 11)=true:=by simp[h11]
  have c12:(k != 12)=true:=by simp[h12]
  rcases(by omega:(k≥10∧¬k≤12)∨¬k≥10)with⟨q1,q2⟩|q1
  ·have g1:decide (k≥10)=true:=QWi q1;have g2:decide (k≤12)=false:=QWb q2;simp only[b7,b8,b10,b11,b12,c10,c11,c12,QVZ,QWl,QWk,QVz,QVt,eE,seval];cases a1:decide ((l.length:Int) > 0)<;>try simp only[c11,QV3,QV2,eE,seval]
   all_goals(cases a2:decide ((p.length:Int) > 0)<;>try simp only[c12,QV3,QV2,w,eE,seval])
   all_goals(cases a3:decide (((s.length+r.length:Nat):Int) > 0)<;>try simp only[QV3,QV2,QVt,eE,seval])
   all_goals(cases a4:((b:Int)==0)<;>try simp only[a4,n4,b11,b12,QVt,QV0,QH,eE,seval])
   all_goals(cases a5:(t==[])<;>try simp only[QVt,QV0,Qa,seval])
  ·have g1:decide (k≥10)=false:=QWb q1;simp only[b7,b8,b10,b11,b12,c10,c11,c12,QVZ,QWl,QWk,QVz,QVt,eE,seval];cases a1:decide ((l.length:Int) > 0)<;>try simp only[c11,QV3,QV2,eE,seval]
   all_goals(cases a2:decide ((p.length:Int) > 0)<;>try simp only[c12,QV3,QV2,w,eE,seval])
   all_goals(cases a3:decide (((s.length+r.length:Nat):Int) > 0)<;>try simp only[QV3,QV2,QVt,eE,seval])
   all_goals(cases a4:((b:Int)==0)<;>try simp only[a4,n4,b11,b12,QVt,QV0,QH,eE,seval])
   all_goals(cases a5:(t==[])<;>try simp only[QVt,QV0,Qa,seval])

end

theorem PC {α:Type}(p:α→Bool){l:List α}{i:Nat}{x:α}(hx:l[i]? = some x):(l.drop i).find? p=if p x=true then some x else(l.drop (i+1)).find? p:=by
 have hlt:i<l.length:=(QUn.1 hx).1;rw[QU5 hlt,show l[i]=x from(QUn.1 hx).2,QWa];cases p x<;>rfl

def zc:List AV:=[.int .i64 0,.str [],.str [],.int .i64 0,.int .i64 0,.int .i64 0,.int .i64 0,.int .i64 0]

def OpI (g:PG)(n:Int)(k:Nat)(st:St):Prop :=
 ∃f fr i,st=⟨f,[fr],[]⟩∧k=g.ops.length-i∧g.ops.find? (fun o=>o.num==n)=(g.ops.drop i).find? (fun o=>o.num==n)∧f 1=.int .i64 n∧f 2=.ptr 0 2 0∧f 4=.ptr 0 4 0∧f 6=.int .i64 (i:Nat)∧fr 2=.cells g.cells∧fr 4=.cells zc

theorem y45 (g:PG)(hl:g.ops.length≤maxLen)(n:Int):Qk Tryz.prog 45 [Qi g,.int .i64 n] (GL (fun o=>o.num==n) g.ops):=by
 refine k45.fn (by simp) ?_;simp only[Qi,PG.cells,eE,seval];refine Qd (OpI g n) _ ⟨_,_,0,rfl,rfl,rfl,(by rfl),(by rfl),(by rfl),(by rfl),(by rfl),(by rfl)⟩ ?_;rintro _ st ⟨f,fr,i,rfl,rfl,hx,h1,h2,h4,h6,m2,m4⟩;simp only[PG.cells,zc]at m2 m4;simp only[QVh,h2,h6,m2,eE,seval];by_cases hlt:i<g.ops.length
 ·obtain⟨x,hi⟩:∃x,g.ops[i]? = some x:=⟨g.ops[i],QUo hlt⟩;have hg:(g.ops.map fun o=>AV.agg o.cells)[i]? = some (.agg x.cells):=by simp[hi]
  have e1:=Qm i _ hlt hl;rw[PC _ hi]at hx;simp only[PO.cells]at hg m2;simp only[Ql hlt,Qh,QVN,Qb,hg,PO.cells,h1,h2,h6,m2,eE,seval];cases hp:(x.num==n)
  ·rw[hp]at hx;simp only[QUG,if_false]at hx;simp only[h6,e1,Qa,seval];exact⟨g.ops.length-(i+1),by omega,_,_,i+1,rfl,rfl,hx,(by exact h1),(by exact h2),(by exact h4),(by rfl),m2,m4⟩
  ·rw[hp]at hx;simp only[if_true]at hx;simp only[Qh,QVN,Qb,hg,GL,hx,QVw,QWc,Qs,PO.cells,h2,h4,h6,m2,m4,splice,QVu,QUK,QUX,QU4,QVA,QVp,QUC,QVi,QVx,QVy,AV.leaf,eE,seval]
 ·have hx':g.ops.find? (fun o=>o.num==n)=none:=by rw[hx,QUY (by omega)];rfl
  simp only[Qx hlt,h4,m4,GL,hx',QVW,QVc,W3,Qs,PO.cells,splice,QVu,QUK,QUX,QU4,QVA,QVp,QUC,QVi,QVx,QVy,AV.leaf,eE,seval]

section progs
variable (L:List PG)(hl:L.length≤maxLen)(p:PG→Bool)(c:Nat)(cap:AV)(m:Qo)

def IxG (k:Nat)(st:St):Prop :=
 ∃f i,st=⟨f,Qc :: m,[]⟩∧k=L.length-i∧Q0 p L 0=Q0 p (L.drop i) i∧f 0=.list (L.map Qi)∧f 1=.fn (.func c) [] [cap.sh]∧f 7=.int .i64 (L.length:Nat)∧f 8=.int .i64 (i:Nat)

include hl in
theorem y55 (hc:∀o∈L,Qg Tryz.prog c [Qi o,cap.sh] (Qc :: m) fun y m1=>y=.bool (p o)∧m1=Qc :: m) :
  Qg Tryz.prog 55 [.list (L.map Qi),.fn (.func c) [] [cap]] m fun y m1=>y=.int .i64 (Q0 p L 0)∧m1=m:=by
 refine k55.go (by simp) ?_;simp only[QVh,Qa,seval];refine Qd (IxG L p c cap m) _ ⟨_,0,rfl,rfl,rfl,(by rfl),(by rfl),(by rfl),(by rfl)⟩ ?_;rintro _ st ⟨f,i,rfl,rfl,hx,h0,h1,h7,h8⟩;simp only[h7,h8,Qa,seval];by_cases hlt:i<L.length
 ·obtain⟨x,hi⟩:∃x,L[i]? = some x:=⟨L[i],QUo hlt⟩;have hcl:=hc x (QUA hi);have hg:(L.map Qi)[i]? = some (Qi x):=by simp[hi]
  have e1:=Qm i _ hlt hl;simp only[Qi,PG.cells]at hcl;simp only[Ql hlt,Qh,QVN,Qb,hg,Qi,PG.cells,h0,h1,h8,eE,seval];refine Xf (fa:=[]) (fb:=[cap.sh]) (by rfl) hcl (by simp only[QUT,QVn,QUK,QUJ,Qa,seval]) ?_;rw[Ze p hi]at hx;cases hp:p x
  ·rw[hp]at hx;simp only[QUG,if_false]at hx;simp only[h8,e1,Qa,seval];exact⟨L.length-(i+1),by omega,_,i+1,rfl,rfl,hx,(by exact h0),(by exact h1),(by exact h7),(by rfl)⟩
  ·rw[hp]at hx;simp only[if_true]at hx;simp only[hx,Qa,seval]
 ·have hx':Q0 p L 0 = -1:=by rw[hx,QUY (by omega)];rfl
  simp only[Qx hlt,hx',Qa,seval]

end progs

section items
variable (L:List PI)(hl:L.length≤maxLen)(p:PI→Bool)(c:Nat)(cap:AV)(m:Qo)

def IxI (k:Nat)(st:St):Prop :=
 ∃f i,st=⟨f,Qc :: m,[]⟩∧k=L.length-i∧Q0 p L 0=Q0 p (L.drop i) i∧f 0=.list (L.map Q5)∧f 1=.fn (.func c) [] [cap.sh]∧f 7=.int .i64 (L.length:Nat)∧f 8=.int .i64 (i:Nat)

include hl in
theorem QO8 (hc:∀o∈L,Qg Tryz.prog c [Q5 o,cap.sh] (Qc :: m) fun y m1=>y=.bool (p o)∧m1=Qc :: m) :
  Qg Tryz.prog 243 [.list (L.map Q5),.fn (.func c) [] [cap]] m fun y m1=>y=.int .i64 (Q0 p L 0)∧m1=m:=by
 refine Qus.go (by simp) ?_;simp only[QVh,Qa,seval];refine Qd (IxI L p c cap m) _ ⟨_,0,rfl,rfl,rfl,(by rfl),(by rfl),(by rfl),(by rfl)⟩ ?_;rintro _ st ⟨f,i,rfl,rfl,hx,h0,h1,h7,h8⟩;simp only[h7,h8,Qa,seval];by_cases hlt:i<L.length
 ·obtain⟨x,hi⟩:∃x,L[i]? = some x:=⟨L[i],QUo hlt⟩;have hcl:=hc x (QUA hi);have hg:(L.map Q5)[i]? = some (Q5 x):=by simp[hi]
  have e1:=Qm i _ hlt hl;simp only[Q5,PI.cells]at hcl;simp only[Ql hlt,Qh,QVN,Qb,hg,Q5,PI.cells,h0,h1,h8,eE,seval];refine Xf (fa:=[]) (fb:=[cap.sh]) (by rfl) hcl (by simp only[QUT,QVn,QUK,QUJ,Qa,seval]) ?_;rw[Ze p hi]at hx;cases hp:p x
  ·rw[hp]at hx;simp only[QUG,if_false]at hx;simp only[h8,e1,Qa,seval];exact⟨L.length-(i+1),by omega,_,i+1,rfl,rfl,hx,(by exact h0),(by exact h1),(by exact h7),(by rfl)⟩
  ·rw[hp]at hx;simp only[if_true]at hx;simp only[hx,Qa,seval]
 ·have hx':Q0 p L 0 = -1:=by rw[hx,QUY (by omega)];rfl
  simp only[Qx hlt,hx',Qa,seval]

theorem DK {α:Type}(p:α→Bool)(l:List α):decide (Q0 p l 0≥0)=l.any p:=by
 rcases Kx p l 0 with⟨h1,h2⟩|⟨k,o,h1,_,h3⟩
 ·rw[h1];have:l.any p=false:=by
   rw[List.any_eq_false];intro x hx;exact fun h=>by have:=QWe.1 h2 x hx;exact this h
  rw[this];rfl
 ·rw[h1];have:l.any p=true:=QWf.2 ⟨o,QWg h3,QWh h3⟩;rw[this];exact QWi (by omega)

include hl in
theorem QO9 (hc:∀o∈L,Qg Tryz.prog c [Q5 o,cap.sh.sh] (Qc :: Qc :: m) fun y m1=>y=.bool (p o)∧m1=Qc :: Qc :: m) :
  Qg Tryz.prog 215 [.list (L.map Q5),.fn (.func c) [] [cap]] m fun y m1=>y=.bool (L.any p)∧m1=m:=by
 refine Qtw.go (by simp) ?_;simp only[Qa,seval];refine Qj (QO8 L hl p c cap.sh _ hc) (by simp only[QUT,QVn,Qa,seval]) ?_;simp only[DK,Qa,seval]

end items

def Fk (b:Nat)(x:PI):Bool:=IntKind.u64.wrap x.num==(b:Int)
def GW (b:Nat)(x:PI):Bool:=x.num==IntKind.i64.wrap (b:Int)

theorem Vs {b:Nat}{x:PI}(hb:b≤2147483647)(hx:(Lit.int .i64 x.num).wf=true):GW b x=Fk b x:=by
 have h1:=Qbh hx;have h2:=Qbi hx;unfold GW Fk;rw[QVg,QUt,QUt,QF,Wz];omega

theorem y56 (g:PG)(frO:Nat→Ob)(s:List UInt8)(hf:frO 3=.cells [.str s]):Qg Tryz.prog 56 [Qi g,.ptr 1 3 0] [Qc,frO] fun y m1=>y=.bool (g.name==s)∧m1=[Qc,frO]:=by
 refine k56.go (by simp) ?_;simp only[hf,Qi,PG.cells,QH,eE,seval]

theorem QPa (x:PI)(b:Nat)(frO:Nat→Ob)(hf:frO 5=.cells [.int .u64 (b:Nat)]):Qg Tryz.prog 226 [Q5 x,.ptr 2 5 0] [Qc,Qc,frO] fun y m1=>y=.bool (Fk b x)∧m1=[Qc,Qc,frO]:=by
 refine QMo.go (by simp) ?_;simp only[hf,Q5,PI.cells,Fk,eE,seval]

def pfr (s:List UInt8)(L:List PG):AV:=.tup [.int .i64 (if Q0 (fun g:PG=>g.name==s) L 0<0 then 0 else Q0 (fun g:PG=>g.name==s) L 0),.bool (decide (Q0 (fun g:PG=>g.name==s) L 0≥0))]

theorem y28 (P:PL)(hl:P.progs.length≤maxLen)(s:List UInt8):Qk Tryz.prog 28 [P.av,.str s] (pfr s P.progs):=by
 refine k28.fn (by simp) ?_;simp only[PL.av,eE,seval];refine Qj (y55 P.progs hl (fun g=>g.name==s) 56 (.ptr 0 3 0) _ fun g _=>y56 g _ s (by rfl)) (by simp only[QUT,QVn,Qa,seval]<;>rfl) ?_;unfold pfr;by_cases h:Q0 (fun g:PG=>g.name==s) P.progs 0<0
 ·have d:decide (Q0 (fun g:PG=>g.name==s) P.progs 0<0)=true:=QWi h;simp only[QUQ h,Qa,seval]
 ·have d:decide (Q0 (fun g:PG=>g.name==s) P.progs 0<0)=false:=QWb h;simp only[QUB h,Qa,seval]

def Z0 (E:List PE)(t:Int)(b:Nat):Bool :=
 if 0≤t∧t<E.length∧b≤2147483647 then
  match E[t.toNat]? with
  |some x=>x.opn||x.items.any (Fk b)
  |none=>false
 else false

theorem Qwp {M:Nat}(P:PL)(hP:P.ok M)(t:Int)(b:Nat):Qk Tryz.prog 183 [P.av,.int .i64 t,.int .u64 (b:Nat)] (.bool (Z0 P.enums t b)):=by
 have e0:P.av=.agg [.list (P.progs.map Qi),.list (P.enums.map Qq)]:=rfl;refine QLK.fn (by simp) ?_;simp only[e0,eE,seval];by_cases h1:0≤t
 ·have d1:decide (t<0)=false:=QWb (by omega);by_cases h2:t<P.enums.length
  ·have d2:decide (t≥(P.enums.length:Int))=false:=QWb (by omega);by_cases h3:b≤2147483647
   ·have d3:decide ((b:Int) > 2147483647)=false:=QWb (by omega);obtain⟨n,rfl⟩:=QV1 h1;have hn:n<P.enums.length:=by omega
    obtain⟨x,hi⟩:∃x,P.enums[n]? = some x:=⟨P.enums[n],QUo hn⟩;have hx:=hP.enums x (QUA hi);have hg:(P.enums.map Qq)[n]? = some (.agg x.cells):=by simp[hi,Qq]
    simp only[PE.cells]at hg;have ha:Z0 P.enums (n:Int) b=(x.opn||x.items.any (Fk b)):=by
     unfold Z0;rw[QUQ ⟨h1,h2,h3⟩,QVN,hi]
    simp only[d1,d2,QVh,d3,Qh,QVN,Qb,hg,ha,eE,seval];cases ho:x.opn
    ·simp only[QV3,eE,seval];refine Qj (QO9 x.items hx.len1 (Fk b) 226 (.ptr 0 5 0) _ fun y _=>QPa y b _ (by rfl)) (by simp only[QUT,QVn,Qa,seval]<;>rfl) ?_;simp only[Qa,seval]
    ·simp only[QV2,Qa,seval]
   ·have d3:decide ((b:Int) > 2147483647)=true:=QWi (by omega);have ha:Z0 P.enums t b=false:=by
     unfold Z0;rw[QUB (by omega)]
    simp only[d1,d2,QVh,d3,ha,eE,seval]
  ·have d2:decide (t≥(P.enums.length:Int))=true:=QWi (by omega);have ha:Z0 P.enums t b=false:=by
    unfold Z0;rw[QUB (by omega)]
   simp only[d1,d2,QVh,ha,eE,seval]
 ·have d1:decide (t<0)=true:=QWi (by omega);have ha:Z0 P.enums t b=false:=by
   unfold Z0;rw[QUB (by omega)]
  simp only[d1,ha,Qa,seval]

def AcI (P:PL)(L:List PI)(eo:Bool)(n b:Nat)(k:Nat)(st:St):Prop :=
 ∃f fr i,st=⟨f,[fr],[]⟩∧k=L.length-i∧f 1=.int .i64 (n:Nat)∧f 2=.int .u64 (b:Nat)∧f 3=.ptr 0 3 0∧fr 3=.cells [.list (P.progs.map Qi),.list (P.enums.map Qq)]∧f 7=.bool (eo||(L.take i).any (GW b))∧f 8=.int .i64 (i:Nat)

theorem y76 {M:Nat}(P:PL)(hP:P.ok M)(t:Int)(b:Nat):Qk Tryz.prog 76 [P.av,.int .i64 t,.int .u64 (b:Nat)] (.bool (Z0 P.enums t b)):=by
 have e0:P.av=.agg [.list (P.progs.map Qi),.list (P.enums.map Qq)]:=rfl;refine k76.fn (by simp) ?_;simp only[e0,eE,seval];by_cases h1:0≤t
 ·have d1:decide (t<0)=false:=QWb (by omega);by_cases h2:t<P.enums.length
  ·have d2:decide (t≥(P.enums.length:Int))=false:=QWb (by omega);by_cases h3:b≤2147483647
   ·have d3:decide ((b:Int) > 2147483647)=false:=QWb (by omega);obtain⟨n,rfl⟩:=QV1 h1;have hn:n<P.enums.length:=by omega
    obtain⟨x,hi⟩:∃x,P.enums[n]? = some x:=⟨P.enums[n],QUo hn⟩;have hx:=hP.enums x (QUA hi);have hg:(P.enums.map Qq)[n]? = some (.agg x.cells):=by simp[hi,Qq]
    simp only[PE.cells]at hg;have ha:Z0 P.enums (n:Int) b=(x.opn||x.items.any (GW b)):=by
     unfold Z0;rw[QUQ ⟨h1,h2,h3⟩,QVN,hi];show(x.opn||x.items.any (Fk b))=_;congr 1
     rw[QVg,QWf,QWf]
     constructor
     ·rintro⟨y,hy,hp⟩;exact⟨y,hy,by rw[Vs h3 (hx.items y hy).num];exact hp⟩
     ·rintro⟨y,hy,hp⟩;exact⟨y,hy,by rw[←Vs h3 (hx.items y hy).num];exact hp⟩
    simp only[d1,d2,QVh,d3,Qh,QVN,Qb,hg,eE,seval];refine Qd (AcI P x.items x.opn n b) _ ⟨_,_,0,rfl,rfl,(by rfl),(by rfl),(by rfl),(by rfl),by simp only[QVu,List.any_nil,QWl]<;>first|rfl|simp only[eE,seval],(by rfl)⟩ ?_;rintro _ st ⟨f,fr,i,rfl,rfl,g1,g2,g3,m3,g7,g8⟩;simp only[QVh,Qh,QVN,Qb,hg,g1,g3,m3,g8,eE,seval];by_cases hlt:i<x.items.length
    ·obtain⟨y,hd⟩:∃y,x.items[i]? = some y:=⟨x.items[i],QUo hlt⟩;have hdm:(x.items.map fun n=>AV.agg n.cells)[i]? = some (.agg y.cells):=by simp[hd]
     simp only[PI.cells]at hdm;have e1:=Qm i _ hlt hx.len1;have ht:(x.opn||(x.items.take (i+1)).any (GW b))=((x.opn||(x.items.take i).any (GW b))||GW b y):=by
      rw[QV6,hd];simp[Bool.or_assoc]
     have hp:GW b y=(y.num==IntKind.i64.wrap (b:Int)):=rfl;rw[hp]at ht;simp only[PI.cells]at hg;cases hq:(x.opn||(x.items.take i).any (GW b))
     ·rw[hq,QV3]at ht;simp only[Ql hlt,Qh,QVN,Qb,hg,hdm,hq,PI.cells,g1,g2,g3,m3,g7,g8,e1,eE,seval];exact⟨x.items.length-(i+1),by omega,_,_,i+1,rfl,rfl,(by exact g1),(by exact g2),(by exact g3),(by exact m3),by rw[ht]<;>first|rfl|simp only[eE,seval],(by rfl)⟩
     ·rw[hq,QV2]at ht;simp only[Ql hlt,hq,PI.cells,g7,g8,e1,Qa,seval];exact⟨x.items.length-(i+1),by omega,_,_,i+1,rfl,rfl,(by exact g1),(by exact g2),(by exact g3),(by exact m3),by rw[ht]<;>first|rfl|simp only[eE,seval],(by rfl)⟩
    ·rw[QUV (by omega)]at g7;simp only[Qx hlt,g7,ha,Qa,seval]
   ·have d3:decide ((b:Int) > 2147483647)=true:=QWi (by omega);have ha:Z0 P.enums t b=false:=by
     unfold Z0;rw[QUB (by omega)]
    simp only[d1,d2,QVh,d3,ha,eE,seval]
  ·have d2:decide (t≥(P.enums.length:Int))=true:=QWi (by omega);have ha:Z0 P.enums t b=false:=by
    unfold Z0;rw[QUB (by omega)]
   simp only[d1,d2,QVh,ha,eE,seval]
 ·have d1:decide (t<0)=true:=QWi (by omega);have ha:Z0 P.enums t b=false:=by
   unfold Z0;rw[QUB (by omega)]
  simp only[d1,ha,Qa,seval]

def WC (P:PL)(k tg kd:Int)(b:Nat)(t:List UInt8)(l p s r:List AV):Int :=
 if (kd != k||oth kd b t l p s r)=true then 12 else if decide ((t.length:Int) > 4096)=true then 3 else if (k==7 && !UG t)=true then 7
 else if (!Xl k kd b t l p s r)=true then 12 else if (k==9 && !Z0 P.enums tg b)=true then 16 else 0

section
variable {M:Nat}(P:PL)(hP:P.ok M)(k tg kd:Int)(b:Nat)(t:List UInt8)(l p s r:List AV)(hl:l.length≤140737488351232)(hp:p.length≤140737488351232)(hs:s.length≤140737488351232)(hr:r.length≤140737488351232)

include hP hl hp hs hr in
theorem QPb:Qk Tryz.prog 249 [P.av,.int .i64 k,.int .i64 tg,vo kd b t l p s r] (.int .i64 (WC P k tg kd b t l p s r)):=by
 have e0:P.av=.agg [.list (P.progs.map Qi),.list (P.enums.map Qq)]:=rfl;have ho:=z89 kd b t l p s r hs hr;have hf:=Qwi k kd b t l p s r hl hp hs hr;have ha:=Qwp P hP tg b;simp only[vo]at ho hf;simp only[e0]at ha;refine QlK.fn (by simp) ?_;simp only[e0,vo,WC,eE,seval];cases a1:(kd != k)
 ·simp only[QV3,eE,seval];refine aC ho ?_;cases oth kd b t l p s r
  ·simp only[QUG,eE,seval];cases a2:decide ((t.length:Int) > 4096)
   ·simp only[QUG,Qa,seval];have fin:∀c:Bool,True:=fun _=>trivial
    cases a3:(k==7)
    ·simp only[QVQ,QUG,eE,seval];refine aC hf ?_;cases Xl k kd b t l p s r
     ·simp only[QVt,Qa,seval]
     ·simp only[QV0,QUG,Qa,seval];cases a4:(k==9)
      ·simp only[QVQ,QUG,Qa,seval]
      ·simp only[QVZ,eE,seval];refine aC ha ?_;cases Z0 P.enums tg b<;>simp only[QVt,QV0,QUG,Qa,seval]
    ·simp only[QVZ,eE,seval];refine aC (R9 t) ?_;cases UG t
     ·simp only[QVt,Qa,seval]
     ·have a4:(k==9)=false:=by
       rw[QUt]at a3;subst a3;rfl
      simp only[QV0,QUG,eE,seval];refine aC hf ?_;cases Xl k kd b t l p s r
      ·simp only[QVt,Qa,seval]
      ·simp only[QV0,a4,QVQ,QUG,Qa,seval]
   ·simp only[Qa,seval]
  ·simp only[Qa,seval]
 ·simp only[QV2,Qa,seval]

end
open Up

def Xd (f:Nat→Int):Nat→Nat→Int
 |0,_=>0
 |k+1,i=>if f i=0 then Xd f k (i+1)else f i

theorem PD {f:Nat→Int}{n i:Nat}(h:i<n):Xd f (n-i) i=if f i=0 then Xd f (n-(i+1)) (i+1)else f i:=by
 rw[show n-i=(n-(i+1))+1 by omega];rfl
theorem KU {f:Nat→Int}{n i:Nat}(h:i<n)(e:f i=0):Xd f (n-i) i=Xd f (n-(i+1)) (i+1):=by
 rw[PD h,QUQ e]
theorem ZD {f:Nat→Int}{n i:Nat}{v:Int}(h:i<n)(e:f i=v)(hv:v≠0):Xd f (n-i) i=v:=by
 rw[PD h,QUB (by rw[e];exact hv),e]
theorem JY {f:Nat→Int}{n i:Nat}(h:¬i<n):Xd f (n-i) i=0:=by
 rw[show n-i=0 by omega];rfl
theorem Js {f:Nat→Int}:∀ {k i:Nat},Xd f k i=0→∀j,i≤j→j<i+k→f j=0
 |0,_,_,_,h1,h2=>by omega
 |k+1,i,h,j,h1,h2=>by
  rw[Xd]at h;split at h
  ·rename_i h0;by_cases e:j=i
   ·rw[e];exact h0
   ·exact Js h j (by omega) (by omega)
  ·rename_i h0;exact absurd h h0

def _root_.Go.Proofs.YtdhlbgejhcejcaaGreatDoor.Br.V.oth (v:V):Bool:=Va.oth v.kd v.bits v.text (v.list.map V.av) (v.pairs.map V.pav) (v.slots.map V.sav) (v.raws.map R.av)
def _root_.Go.Proofs.YtdhlbgejhcejcaaGreatDoor.Br.V.one (P:PL)(k tg:Int)(v:V):Int:=WC P k tg v.kd v.bits v.text (v.list.map V.av) (v.pairs.map V.pav) (v.slots.map V.sav) (v.raws.map R.av)

theorem YX (v:V):v.av=vo v.kd v.bits v.text (v.list.map V.av) (v.pairs.map V.pav) (v.slots.map V.sav) (v.raws.map R.av):=by
 rw[V.av,V.eta];rfl

def QL (P:PL)(t:Int):PG:=P.progs[t.toNat]?.getD ⟨[],[],0⟩
def Zw (a b:V):Bool:=a.bits==b.bits&&a.text==b.text
def XH (g:PG)(n:Int):Option PO:=g.ops.find? fun o=>o.num==n

section
variable (m:PG→V→Int)(P:PL)
def QN (o:PO)(v:V):Int:=if o.kind=10 then m (QL P o.target) v else v.one P o.kind o.target
def Kh (o:PO)(ps:List (V×V))(i:Nat):Int:=match ps[i]? with
 |none=>0
 |some x=>if x.1.one P o.key (-1)=0 then(if (ps.take i).any (fun q=>Zw q.1 x.1)=true then 9 else QN m P o x.2)else x.1.one P o.key (-1)
def YY (o:PO)(l:List V)(i:Nat):Int:=match l[i]? with
 |none=>0
 |some x=>QN m P o x
def QT (o:PO)(v:V):Int :=
 if o.card=5 then(if (v.kd != 12||v.oth)=true then 12 else Xd (Kh m P o v.pairs) v.pairs.length 0)
 else if o.card=4 then(if (v.kd != 11||v.oth)=true then 12 else Xd (YY m P o v.list) v.list.length 0)
 else QN m P o v
def Zy (g:PG)(o:PO)(y:Int×V):Bool:=o.union != -1&&(((XH g y.1).getD W3).union==o.union)
def XG (g:PG)(sl:List (Int×V))(i:Nat):Int:=match sl[i]? with
 |none=>0
 |some x=>match XH g x.1 with
  |none=>8
  |some o=>if (sl.take i).any (fun y=>y.1==x.1)=true then 9 else if (sl.take i).any (Zy g o)=true then 15 else QT m P o x.2
def XR (g:PG)(f:R):Bool:=match XH g f.num with
 |none=>true
 |some o=>o.kind==9&&o.card != 5&&f.wire==0&&decide ((f.bits:Int)≤2147483647) && !Z0 P.enums o.target f.bits
def Je (g:PG)(f:R):Int :=
 if (decide (f.num<1)||decide (f.num > 65535)||decide (f.wire<0)||decide (f.wire > 6))=true then 1
 else if (decide (f.wire≤2) && !(f.data==[])||decide (f.wire > 2) && !((f.bits:Int)==0))=true then 1
 else if (!XR P g f)=true then 1
 else if (f.wire==3&&decide ((f.data.length:Int) > 4096)||decide ((f.data.length:Int) > 65536))=true then 3 else 0
def Zu (g:PG)(l:List R)(i:Nat):Int:=match l[i]? with
 |none=>0
 |some f=>Je P g f
def KD (g:PG)(sl:List (Int×V)):Bool:=g.ops.any fun o=>o.card==1 && !sl.any fun y=>y.1==o.num
def Wf (g:PG)(v:V):Int :=
 if Xd (XG m P g v.slots) v.slots.length 0=0 then
  (if KD g v.slots=true then 14 else Xd (Zu P g v.raws) v.raws.length 0)
 else Xd (XG m P g v.slots) v.slots.length 0
end

theorem KE {m:PG→V→Int}{P:PL}{o:PO}{ps:List (V×V)}{i:Nat}{x:V×V}(h:ps[i]? = some x) :
  Kh m P o ps i=if x.1.one P o.key (-1)=0 then(if (ps.take i).any (fun q=>Zw q.1 x.1)=true then 9 else QN m P o x.2)else x.1.one P o.key (-1):=by
 unfold Kh;rw[h]
theorem Wo {m:PG→V→Int}{P:PL}{o:PO}{l:List V}{i:Nat}{x:V}(h:l[i]? = some x):YY m P o l i=QN m P o x:=by
 unfold YY;rw[h]
theorem WD {P:PL}{g:PG}{l:List R}{i:Nat}{x:R}(h:l[i]? = some x):Zu P g l i=Je P g x:=by
 unfold Zu;rw[h]

def Q9 (P:PL):Nat→PG→V→Int
 |0,_,v=>if (v.kd != 10||v.oth)=true then 12 else 17
 |n+1,g,v=>if (v.kd != 10||v.oth)=true then 12 else Wf (Q9 P n) P g v

mutual
def _root_.Go.Proofs.YtdhlbgejhcejcaaGreatDoor.Br.V.cnt:V→Nat
 |.mk _ _ _ l p s r=>1+r.length+Xc l+Xt p+Xk s
def Xc:List V→Nat
 | []=>0
 |x :: l=>x.cnt+Xc l
def Xt:List (V×V)→Nat
 | []=>0
 |(a,b) :: l=>a.cnt+b.cnt+Xt l
def Xk:List (Int×V)→Nat
 | []=>0
 |(_,a) :: l=>a.cnt+Xk l
end

theorem Xo:∀v:V,v.cnt=1+v.raws.length+Xc v.list+Xt v.pairs+Xk v.slots
 |.mk k b t l p s r=>by rw[V.cnt];rfl

theorem UK {l:List V}{i:Nat}{x:V}(h:l[i]? = some x):Xc (l.take (i+1))=Xc (l.take i)+x.cnt:=by
 induction l generalizing i with
 |nil=>simp at h
 |cons y l ih=>
  cases i with
  |zero=>simp at h;subst h;simp[Xc]
  |succ i=>
   simp only[QUU,Xc];rw[ih (by simpa using h)];omega
theorem Fl {l:List (V×V)}{i:Nat}{x:V×V}(h:l[i]? = some x):Xt (l.take (i+1))=Xt (l.take i)+(x.1.cnt+x.2.cnt):=by
 induction l generalizing i with
 |nil=>simp at h
 |cons y l ih=>
  obtain⟨y1,y2⟩:=y;cases i with
  |zero=>simp at h;subst h;simp[Xt]
  |succ i=>
   simp only[QUU,Xt];rw[ih (by simpa using h)];omega
theorem Fm {l:List (Int×V)}{i:Nat}{x:Int×V}(h:l[i]? = some x):Xk (l.take (i+1))=Xk (l.take i)+x.2.cnt:=by
 induction l generalizing i with
 |nil=>simp at h
 |cons y l ih=>
  obtain⟨y1,y2⟩:=y;cases i with
  |zero=>simp at h;subst h;simp[Xk]
  |succ i=>
   simp only[QUU,Xk];rw[ih (by simpa using h)];omega

inductive Thin:V→Prop
 |mk {v:V} (n:v.list.length+2*v.pairs.length+v.slots.length≤1099511627776) (list:∀x∈v.list,Thin x) (keys:∀x∈v.pairs,Thin x.1) (vals:∀x∈v.pairs,Thin x.2) (slots:∀x∈v.slots,Thin x.2):Thin v

theorem U8 {v:V}(h:v.oth=false):(v.kd≠11→v.list=[])∧(v.kd≠12→v.pairs=[])∧(v.kd≠10→v.slots=[]):=by
 unfold V.oth Va.oth at h;simp only[QVf,QWn,bne_eq_false_iff_eq,QWj,QVh]at h;obtain⟨⟨⟨⟨h1,h2⟩,h3⟩,_⟩,_⟩:=h;refine⟨fun h=>?_,fun h=>?_,fun h=>?_⟩
 ·rcases h1 with h1|h1
  ·exact absurd h1 h
  ·exact QWr.1 (by omega)
 ·rcases h2 with h2|h2
  ·exact absurd h2 h
  ·exact QWr.1 (by omega)
 ·rcases h3 with h3|h3
  ·exact absurd h3 h
  ·exact QWr.1 (by omega)

theorem Yv {P:PL}{k tg:Int}{v:V}(h:v.one P k tg=0):v.kd=k∧v.oth=false∧Xl k v.kd v.bits v.text (v.list.map V.av) (v.pairs.map V.pav) (v.slots.map V.sav) (v.raws.map R.av)=true:=by
 unfold V.one WC at h;split at h
 ·omega
 ·rename_i h1;split at h
  ·omega
  ·split at h
   ·omega
   ·split at h
    ·omega
    ·rename_i h2;simp only[QWp,QVf,bne_eq_false_iff_eq]at h1;exact⟨h1.1,h1.2,by simpa using h2⟩

theorem BT {k kd:Int}{b:Nat}{t:List UInt8}{l p s r:List AV}(h:Xl k kd b t l p s r=true):isk k=true:=by
 unfold Xl at h;simp only[QUL]at h;exact h.1.1.1.1.1.1

theorem Qwq {k:Int}(h:isk k=true):k≠10∧k≠11∧k≠12:=by
 unfold isk at h;simp only[QUL,QUs]at h;omega

theorem BU {P:PL}{k tg:Int}{v:V}(h:v.one P k tg=0):Thin v:=by
 obtain⟨h1,h2,h3⟩:=Yv h;obtain⟨i1,i2,i3⟩:=Qwq (BT h3);obtain⟨o1,o2,o3⟩:=U8 h2;rw[←h1]at i1 i2 i3;refine .mk ?_ ?_ ?_ ?_ ?_
 ·rw[o1 i2,o2 i3,o3 i1];simp
 ·rw[o1 i2];simp
 ·rw[o2 i3];simp
 ·rw[o2 i3];simp
 ·rw[o3 i1];simp

theorem Sd {P:PL}{M:Nat}:∀(n:Nat) (g:PG) (v:V),v.ok M→Q9 P n g v=0→Thin v:=by
 intro n
 induction n with
 |zero=>
  intro g v _ h;unfold Q9 at h;split at h<;>omega
 |succ n ih=>
  intro g v hv h;unfold Q9 at h;split at h
  ·omega
  rename_i h0;simp only[QWp,QVf,bne_eq_false_iff_eq]at h0;obtain⟨o1,o2,o3⟩:=U8 h0.2;have e1:=o1 (by omega);have e2:=o2 (by omega);unfold Wf at h;have hs:Xd (XG (Q9 P n) P g v.slots) v.slots.length 0=0:=by
   split at h
   ·assumption
   ·exact h
  refine .mk ?_ (by rw[e1];simp) (by rw[e2];simp) (by rw[e2];simp) ?_
  ·rw[e1,e2];have:=hv.ns;simp;omega
  ·intro x hx;obtain⟨i,hi⟩:=QUy.1 hx;have hlt:=(QUn.1 hi).1;have h1:=Js hs i (QUv _) (by omega);unfold XG at h1;rw[hi]at h1;dsimp only at h1;split at h1
   ·omega
   rename_i o _;split at h1
   ·omega
   split at h1
   ·omega
   have hx2:=hv.slots x hx;have helem:∀y:V,y.ok M→QN (Q9 P n) P o y=0→Thin y:=by
    intro y hy he;unfold QN at he;split at he
    ·exact ih _ _ hy he
    ·exact BU he
   unfold QT at h1;split at h1
   ·split at h1
    ·omega
    rename_i h2;simp only[QWp,QVf,bne_eq_false_iff_eq]at h2;obtain⟨o1,o2,o3⟩:=U8 h2.2;have e1:=o1 (by omega);have e3:=o3 (by omega);have hp:∀y∈x.2.pairs,Thin y.1∧Thin y.2:=by
     intro y hy;obtain⟨j,hj⟩:=QUy.1 hy;have hlt:=(QUn.1 hj).1;have h3:=Js h1 j (QUv _) (by omega);unfold Kh at h3;rw[hj]at h3;dsimp only at h3;split at h3
     ·rename_i hk;split at h3
      ·omega
      ·exact⟨BU hk,helem _ (hx2.vals y hy) h3⟩
     ·rename_i hk;exact absurd h3 hk
    refine .mk ?_ (by rw[e1];simp) (fun y hy=>(hp y hy).1) (fun y hy=>(hp y hy).2) (by rw[e3];simp);rw[e1,e3];have:=hx2.np;simp;omega
   ·split at h1
    ·split at h1
     ·omega
     rename_i h2;simp only[QWp,QVf,bne_eq_false_iff_eq]at h2;obtain⟨o1,o2,o3⟩:=U8 h2.2;have e2:=o2 (by omega);have e3:=o3 (by omega);refine .mk ?_ ?_ (by rw[e2];simp) (by rw[e2];simp) (by rw[e3];simp)
     ·rw[e2,e3];have:=hx2.nl;simp;omega
     ·intro y hy;obtain⟨j,hj⟩:=QUy.1 hy;have hlt:=(QUn.1 hj).1;have h3:=Js h1 j (QUv _) (by omega);unfold YY at h3;rw[hj]at h3;exact helem _ (hx2.list y hy) h3
    ·exact helem _ hx2 h1

end Go.Proofs.YtdhlbgejhcejcaaGreatDoor.Va

namespace Go.Proofs.YtdhlbgejhcejcaaGreatDoor.So

section
variable {α:Type}

def ZI (lt:α→α→Bool)(a:α):List α→List α
 | []=>[a]
 |x :: l=>bif lt x a then x :: ZI lt a l else a :: x :: l

def QC (lt:α→α→Bool):List α→List α
 | []=>[]
 |a :: l=>ZI lt a (QC lt l)

def mg (lt:α→α→Bool):List α→List α→List α
 | [],Y=>Y
 |x :: X,[]=>x :: X
 |x :: X,y :: Y=>bif lt y x then y :: mg lt (x :: X) Y else x :: mg lt X (y :: Y)
termination_by X Y=>X.length+Y.length

structure SW (lt:α→α→Bool):Prop where
 irr:∀x,lt x x=false
 tr:∀x y z,lt x y=true→lt y z=true→lt x z=true
 nt:∀x y z,lt x y=false→lt y z=false→lt x z=false

variable {lt:α→α→Bool}

theorem SW.as (h:SW lt){x y:α}(hx:lt x y=true):lt y x=false:=by
 cases hy:lt y x with
 |false=>rfl
 |true=>
  have:=h.tr x y x hx hy;rw[h.irr]at this;cases this

theorem Jt (X:List α):mg lt X []=X:=by cases X<;>simp[mg]
theorem Z8 (Y:List α):mg lt [] Y=Y:=by simp[mg]
theorem WE {x y:α}{X Y:List α}(h:lt y x=true):mg lt (x :: X) (y :: Y)=y :: mg lt (x :: X) Y:=by rw[mg,h];rfl
theorem Yo {x y:α}{X Y:List α}(h:lt y x=false):mg lt (x :: X) (y :: Y)=x :: mg lt X (y :: Y):=by rw[mg,h];rfl
theorem W8 {a x:α}{l:List α}(h:lt x a=true):ZI lt a (x :: l)=x :: ZI lt a l:=by rw[ZI,h];rfl
theorem W9 {a x:α}{l:List α}(h:lt x a=false):ZI lt a (x :: l)=a :: x :: l:=by rw[ZI,h];rfl

theorem PF (a:α):∀Y:List α,mg lt [a] Y=ZI lt a Y
 | []=>by rw[Jt];rfl
 |y :: Y=>by
  cases h:lt y a with
  |true=>rw[WE h,W8 h,PF a Y]
  |false=>rw[Yo h,W9 h,Z8]

theorem Qwr (h:SW lt)(a:α):∀(n:Nat) (X Y:List α),X.length+Y.length=n→mg lt (ZI lt a X) Y=ZI lt a (mg lt X Y):=by
 intro n
 induction n using Nat.strongRecOn with
 |_ n ih=>
 intro X Y hn;cases X with
 |nil=>
  show mg lt [a] Y=ZI lt a (mg lt [] Y);rw[Z8,PF]
 |cons x X=>
  cases Y with
  |nil=>rw[Jt,Jt]
  |cons y Y=>
   simp only[QUC]at hn;cases hxa:lt x a with
   |false=>
    have hi:ZI lt a (x :: X)=a :: x :: X:=W9 hxa;cases hya:lt y a with
    |true=>
     cases hyx:lt y x with
     |true=>
      have i:=ih (n-1) (by omega) (x :: X) Y (by simp only[QUC];omega);rw[hi]at i ⊢;rw[WE hya,WE hyx,W8 hya,i]
     |false=>
      have:=h.nt y x a hyx hxa;rw[hya]at this;cases this
    |false=>
     rw[hi,Yo hya];cases hyx:lt y x with
     |true=>rw[WE hyx,W9 hya]
     |false=>rw[Yo hyx,W9 hxa]
   |true=>
    have hi:ZI lt a (x :: X)=x :: ZI lt a X:=W8 hxa;cases hyx:lt y x with
    |true=>
     have i:=ih (n-1) (by omega) (x :: X) Y (by simp only[QUC];omega);rw[hi]at i ⊢;rw[WE hyx,WE hyx,W8 (h.tr y x a hyx hxa),i]
    |false=>
     have i:=ih (n-1) (by omega) X (y :: Y) (by simp only[QUC];omega);rw[hi,Yo hyx,Yo hyx,W8 hxa,i]

theorem WF (h:SW lt):∀A B:List α,mg lt (QC lt A) (QC lt B)=QC lt (A++B)
 | [],B=>Z8 _
 |a :: A,B=>by
  show mg lt (ZI lt a (QC lt A)) (QC lt B)=ZI lt a (QC lt (A++B));rw[Qwr h a _ _ _ rfl,WF h A B]

theorem WG:∀(n:Nat) (X1 Y1 X2 Y2:List α),X1.length+Y1.length=n→(∀y∈Y1,∀x∈X2,lt y x=true)→(∀x∈X1,∀y∈Y2,lt y x=false)→
  mg lt (X1++X2) (Y1++Y2)=mg lt X1 Y1++mg lt X2 Y2:=by
 intro n
 induction n using Nat.strongRecOn with
 |_ n ih=>
 intro X1 Y1 X2 Y2 hn h1 h2;cases X1 with
 |nil=>
  cases Y1 with
  |nil=>rw[Z8];rfl
  |cons y Y1=>
   cases X2 with
   |nil=>simp[Z8]
   |cons x X2=>
    simp only[QUC,QVi]at hn;have i:=ih (n-1) (by omega) [] Y1 (x :: X2) Y2 (by simp only[QVi];omega) (fun z hz=>h1 z (QUD _ hz)) h2;simp only[QUK,QUJ,Z8]at i ⊢;rw[WE (h1 y (by simp) x (by simp)),i]
 |cons x X1=>
  simp only[QUC]at hn;cases Y1 with
  |nil=>
   cases Y2 with
   |nil=>simp[Jt]
   |cons y Y2=>
    have i:=ih (n-1) (by omega) X1 [] X2 (y :: Y2) (by simp only[QVi]at hn ⊢;omega) h1 (fun z hz=>h2 z (QUD _ hz));simp only[QUK,QUJ,Jt]at i ⊢;rw[Yo (h2 x (by simp) y (by simp)),i]
  |cons y Y1=>
   simp only[QUC]at hn;simp only[QUJ];cases hyx:lt y x with
   |true=>
    have i:=ih (n-1) (by omega) (x :: X1) Y1 X2 Y2 (by simp only[QUC];omega) (fun z hz=>h1 z (QUD _ hz)) h2;simp only[QUJ]at i;rw[WE hyx,WE hyx,i];rfl
   |false=>
    have i:=ih (n-1) (by omega) X1 (y :: Y1) X2 Y2 (by simp only[QUC];omega) h1 (fun z hz=>h2 z (QUD _ hz));simp only[QUJ]at i;rw[Yo hyx,Yo hyx,i];rfl

theorem Qav {x:α}{Y1 Y2:List α}(h1:∀y∈Y1,lt y x=true)(h2:∀y∈Y2,lt y x=false):mg lt [x] (Y1++Y2)=Y1++x :: Y2:=by
 have a:=WG (lt:=lt) _ [] Y1 [x] Y2 rfl (fun y hy z hz=>by rw[QWs.1 hz];exact h1 y hy) (by simp);have b:=WG (lt:=lt) _ [x] [] [] Y2 rfl (by simp) (fun z hz y hy=>by rw[QWs.1 hz];exact h2 y hy);simp only[QUK,QVp,Z8,Jt]at a b;rw[a,b];rfl

theorem YZ {y:α}{X1 X2:List α}(h1:∀x∈X1,lt y x=false)(h2:∀x∈X2,lt y x=true):mg lt (X1++X2) [y]=X1++y :: X2:=by
 have a:=WG (lt:=lt) _ X1 [y] X2 [] rfl (fun z hz x hx=>by rw[QWs.1 hz];exact h2 x hx) (by simp);have b:=WG (lt:=lt) _ X1 [] [] [y] rfl (by simp) (fun x hx z hz=>by rw[QWs.1 hz];exact h1 x hx);simp only[QUK,QVp,Z8,Jt]at a b;rw[a,b];simp

def Zc (lt:α→α→Bool)(l:List α):Prop:=l.Pairwise fun x y=>lt y x=false

theorem DL {a z:α}:∀ {l:List α},z∈ZI lt a l→z=a∨z∈l
 | [],h=>.inl (QWs.1 h)
 |x :: l,h=>by
  cases hx:lt x a with
  |true=>
   rw[W8 hx]at h;rcases QVI.1 h with rfl|h
   ·exact .inr QUF
   ·rcases DL h with h|h
    ·exact .inl h
    ·exact .inr (QUD _ h)
  |false=>
   rw[W9 hx]at h;rcases QVI.1 h with rfl|h
   ·exact .inl rfl
   ·exact .inr h

theorem UL {z:α}:∀ {l:List α},z∈QC lt l→z∈l
 | [],h=>h
 |a :: l,h=>by
  rcases DL (l:=QC lt l) h with rfl|h
  ·exact QUF
  ·exact QUD _ (UL h)

theorem Vt (h:SW lt)(a:α):∀ {l:List α},Zc lt l→Zc lt (ZI lt a l)
 | [],_=>List.pairwise_singleton _ _
 |x :: l,hs=>by
  obtain⟨h1,h2⟩:=QVT.1 hs;cases hx:lt x a with
  |true=>
   rw[W8 hx];refine QVT.2 ⟨fun z hz=>?_,Vt h a h2⟩;rcases DL hz with rfl|hz
   ·exact h.as hx
   ·exact h1 z hz
  |false=>
   rw[W9 hx];refine QVT.2 ⟨fun z hz=>?_,hs⟩;rcases QVI.1 hz with rfl|hz
   ·exact hx
   ·exact h.nt z x a (h1 z hz) hx

theorem X6 (h:SW lt):∀l:List α,Zc lt (QC lt l)
 | []=>List.Pairwise.nil
 |a :: l=>Vt h a (X6 h l)

theorem Vu (a:α):∀l:List α,(ZI lt a l).length=l.length+1
 | []=>rfl
 |x :: l=>by
  cases hx:lt x a with
  |true=>rw[W8 hx,QUC,Vu a l,QUC]
  |false=>rw[W9 hx];rfl

theorem Ju:∀l:List α,(QC lt l).length=l.length
 | []=>rfl
 |a :: l=>by show(ZI lt a (QC lt l)).length=_;rw[Vu,Ju l];rfl

theorem Qws:∀(n:Nat) (X Y:List α),X.length+Y.length=n→(mg lt X Y).length=n:=by
 intro n
 induction n using Nat.strongRecOn with
 |_ n ih=>
 intro X Y hn;cases X with
 |nil=>rw[Z8];simpa using hn
 |cons x X=>
  cases Y with
  |nil=>rw[Jt];simpa using hn
  |cons y Y=>
   simp only[QUC]at hn;cases hyx:lt y x with
   |true=>
    rw[WE hyx,QUC,ih (n-1) (by omega) (x :: X) Y (by simp only[QUC];omega)];omega
   |false=>
    rw[Yo hyx,QUC,ih (n-1) (by omega) X (y :: Y) (by simp only[QUC];omega)];omega

theorem Qwt {z:α}:∀(n:Nat) (X Y:List α),X.length+Y.length=n→z∈mg lt X Y→z∈X∨z∈Y:=by
 intro n
 induction n using Nat.strongRecOn with
 |_ n ih=>
 intro X Y hn hz;cases X with
 |nil=>rw[Z8]at hz;exact .inr hz
 |cons x X=>
  cases Y with
  |nil=>rw[Jt]at hz;exact .inl hz
  |cons y Y=>
   simp only[QUC]at hn;cases hyx:lt y x with
   |true=>
    rw[WE hyx]at hz;rcases QVI.1 hz with rfl|hz
    ·exact .inr QUF
    ·exact(ih (n-1) (by omega) (x :: X) Y (by simp only[QUC];omega) hz).imp id (QUD _)
   |false=>
    rw[Yo hyx]at hz;rcases QVI.1 hz with rfl|hz
    ·exact .inl QUF
    ·exact(ih (n-1) (by omega) X (y :: Y) (by simp only[QUC];omega) hz).imp (QUD _) id

theorem KF (h:SW lt){l:List α}(hs:Zc lt l){i j:Nat}{u v x:α}(hij:i≤j)(hi:l[i]? = some u)(hj:l[j]? = some v)(hv:lt v x=true):lt u x=true:=by
 rcases Nat.lt_or_eq_of_le hij with hlt|rfl
 ·obtain⟨h1,rfl⟩:=QUn.1 hi;obtain⟨h2,rfl⟩:=QUn.1 hj;have:=QWt.1 hs i j h1 h2 hlt;cases hu:lt l[i] x with
  |true=>rfl
  |false=>
   have:=h.nt _ _ _ this hu;rw[hv]at this;cases this
 ·rw[hi]at hj;cases hj;exact hv

theorem KV {l:List α}(hs:Zc lt l)(h:SW lt){i j:Nat}{u v:α}(hij:i≤j)(hi:l[i]? = some u)(hj:l[j]? = some v):lt v u=false:=by
 rcases Nat.lt_or_eq_of_le hij with hlt|rfl
 ·obtain⟨h1,rfl⟩:=QUn.1 hi;obtain⟨h2,rfl⟩:=QUn.1 hj;exact QWt.1 hs i j h1 h2 hlt
 ·rw[hi]at hj;cases hj;exact h.irr _

def Q8 (lt:α→α→Bool)(s:Nat):Nat→List α→List α
 |0,_=>[]
 |n+1,l=>QC lt (l.take s)++Q8 lt s n (l.drop s)

theorem DM (s:Nat):∀k,Q8 lt s k []=[]
 |0=>rfl
 |k+1=>by rw[Q8,List.take_nil,QVA,DM s k];rfl

theorem U9 (s:Nat):∀(k:Nat) (l:List α),(Q8 lt s k l).length=min (s*k) l.length
 |0,l=>by simp[Q8]
 |k+1,l=>by
  rw[Q8,QUZ,Ju,U9 s k,QVj,QU2,Nat.mul_succ];omega

theorem Wp {s:Nat}{z:α}:∀ {k:Nat} {l:List α},z∈Q8 lt s k l→z∈l
 |0,l,h=>by cases h
 |k+1,l,h=>by
  rw[Q8]at h;rcases QVE.1 h with h|h
  ·exact QVa (UL h)
  ·exact QU9 (Wp h)

theorem Y0 (s:Nat):∀(k:Nat) (l:List α),Q8 lt s (k+1) l=Q8 lt s k l++QC lt ((l.drop (s*k)).take s)
 |0,l=>by simp[Q8]
 |k+1,l=>by
  rw[Q8,Y0 s k (l.drop s),Q8,QUI,QUP,Nat.mul_succ,Nat.add_comm s (s*k)]

theorem Vv {s k:Nat}{l:List α}(h:l.length≤s)(hk:l.length≤s*k):Q8 lt s k l=QC lt l:=by
 cases k with
 |zero=>
  have:l=[]:=QVq (by omega);subst this;rfl
 |succ k=>rw[Q8,QUV h,QUY h,DM,QVp]

theorem Se (s:Nat)(l:List α):l.take s++(l.drop s).take s=l.take (2*s):=by
 rw[show 2*s=s+s by omega,List.take_add]

end

end Go.Proofs.YtdhlbgejhcejcaaGreatDoor.So

namespace Go.Proofs.YtdhlbgejhcejcaaGreatDoor.Va
open Go Am Rc Bt

def Yw (b:Nat):Nat :=
 let z:=b % 9223372036854775808
 if z > 9218868437227405312 then 0 else if z=9218868437227405312 then 1 else if z=0 then 2 else if z<4503599627370496 then 3 else 4

theorem PH (b:Nat):b &&& 4503599627370495=b % 4503599627370496:=Nat.and_two_pow_sub_one_eq_mod b 52
theorem PJ (b:Nat):b &&& 9218868437227405312=(b / 4503599627370496 % 2048)*4503599627370496:=by
 have h1:(9218868437227405312:Nat)=2047 <<< 52:=by decide
 have h2:(b / 4503599627370496 % 2048)*4503599627370496=(b >>> 52 % 2 ^ 11) <<< 52:=by
  rw[Nat.shiftLeft_eq,Nat.shiftRight_eq_div_pow]
 rw[h1,h2]
 apply Nat.eq_of_testBit_eq
 intro i;rw[Nat.testBit_and,Nat.testBit_shiftLeft,Nat.testBit_shiftLeft,Nat.testBit_mod_two_pow,Nat.testBit_shiftRight,show(2047:Nat)=2 ^ 11-1 by decide,Nat.testBit_two_pow_sub_one];by_cases h:i≥52
 ·rw[show 52+(i-52)=i by omega];simp[h,Bool.and_comm]
 ·simp[h]

theorem x77 (b:Nat)(hb:b<18446744073709551616):Qk Tryz.prog 77 [.int .u64 (b:Nat)] (.int .i64 (Yw b:Nat)):=by
 refine k77.fn (by simp) ?_;have a1:bits .and .u64 (b:Int) 9218868437227405312=(((b / 4503599627370496 % 2048)*4503599627370496:Nat):Int):=by
  have:=U4 b 9218868437227405312 hb (by decide);rw[PJ]at this;exact this
 have a2:bits .and .u64 (b:Int) 4503599627370495=((b % 4503599627370496:Nat):Int):=by
  have:=U4 b 4503599627370495 hb (by decide);rw[PH]at this;exact this
 simp only[a1,a2,Qa,seval];unfold Yw
 repeat' (first|(refine Xr (fun h=>?_) (fun h=>?_)<;>simp only[h,Qa,seval])|(refine X3 (fun h=>?_) (fun h=>?_)<;>simp only[h,Qp,Qa,seval])|(refine X4 (fun h=>?_) (fun h=>?_)<;>simp only[h,Qp,eE,seval]))
 all_goals(simp only[QUt,QUN,bne_eq_false_iff_eq,QV4,ne_eq]at *)
 all_goals((repeat' split)<;>first|rfl|(exfalso;omega))

def Xm (k:Int)(b:Nat):Nat:=if k=6∧Yw b=0 then 9221120237041090560 else b

theorem Sf (b:Nat):((Yw b:Int)==0)=decide (Yw b=0):=by
 rw[QVg,QUt,QUs];omega

open Br Up So

section sorting
variable {α:Type}{lt:α→α→Bool}
theorem BW (a:α):∀l:List α,(ZI lt a l).Perm (a :: l)
 | []=>.refl _
 |x :: l=>by
  rw[ZI];cases lt x a
  ·exact .refl _
  ·exact((BW a l).cons x).trans (.swap a x l)
theorem Q3:∀l:List α,(QC lt l).Perm l
 | []=>.refl _
 |a :: l=>(BW a _).trans ((Q3 l).cons a)
theorem HK:∀ {l:List α},Zc lt l→QC lt l=l
 | [],_=>rfl
 |a :: l,h=>by
  obtain⟨h1,h2⟩:=QVT.1 h;rw[QC,HK h2];cases l with
  |nil=>rfl
  |cons x l=>exact W9 (h1 x (by simp))
end sorting

theorem Y3:∀ {a b c:List UInt8},Op.bytesLess a b=true→Op.bytesLess b c=true→Op.bytesLess a c=true
 |a,b,[],_,h=>by cases b<;>simp[Op.bytesLess]at h
 | [],_,_ :: _,_,_=>by simp[Op.bytesLess]
 |x :: a,[],_ :: _,h,_=>by simp[Op.bytesLess]at h
 |x :: a,y :: b,z :: c,h,k=>by
  simp only[Op.bytesLess,QUr,QUL,QUs,QUt]at h k ⊢;rcases h with h|⟨h1,h2⟩<;>rcases k with k|⟨k1,k2⟩
  ·exact .inl (UInt8.lt_trans h k)
  ·subst k1;exact .inl h
  ·subst h1;exact .inl k
  ·subst h1 k1;exact .inr ⟨rfl,Y3 h2 k2⟩
theorem UM:∀ {a b:List UInt8},Op.bytesLess a b=false→Op.bytesLess b a=false→a=b
 | [],[],_,_=>rfl
 | [],_ :: _,h,_=>by simp[Op.bytesLess]at h
 |_ :: _,[],_,h=>by simp[Op.bytesLess]at h
 |x :: a,y :: b,h,k=>by
  simp only[Op.bytesLess,QVf,QWn,QWj,QV4]at h k;have e:x=y:=by
   rcases Nat.lt_trichotomy x.toNat y.toNat with g|g|g
   ·exact absurd (UInt8.lt_iff_toNat_lt.2 g) h.1
   ·exact UInt8.toNat_inj.1 g
   ·exact absurd (UInt8.lt_iff_toNat_lt.2 g) k.1
  subst e;rw[UM (h.2.resolve_left fun g=>g rfl) (k.2.resolve_left fun g=>g rfl)]
theorem Ya:∀a:List UInt8,Op.bytesLess a a=false
 | []=>rfl
 |x :: a=>by simp[Op.bytesLess,Ya a]

def kl (k:Int)(a b:V):Bool :=
 if Zb k=true then Op.bytesLess a.text b.text else if (k==2||k==3)=true then decide (IntKind.i64.wrap (a.bits:Int)<IntKind.i64.wrap (b.bits:Int))else decide ((a.bits:Int)<(b.bits:Int))
theorem Y4 (k:Int):SW fun x y:V×V=>kl k x.1 y.1 where
 irr x:=by
  unfold kl;split
  ·exact Ya _
  ·split<;>simp
 tr x y z h g:=by
  unfold kl at *;split
  ·rename_i ht;rw[QUQ ht]at h g;exact Y3 h g
  ·rename_i ht;rw[QUB ht]at h g;split
   ·rename_i hs;rw[QUQ hs]at h g;simp only[QUs]at *;omega
   ·rename_i hs;rw[QUB hs]at h g;simp only[QUs]at *;omega
 nt x y z h g:=by
  unfold kl at *;split
  ·rename_i ht;rw[QUQ ht]at h g;cases hc:Op.bytesLess x.1.text z.1.text with
   |false=>rfl
   |true=>
    cases hy:Op.bytesLess y.1.text x.1.text with
    |true=>rw[Y3 hy hc]at g;cases g
    |false=>
     rw[UM h hy]at hc;rw[hc]at g;cases g
  ·rename_i ht;rw[QUB ht]at h g;split
   ·rename_i hs;rw[QUQ hs]at h g;simp only[QWj]at *;omega
   ·rename_i hs;rw[QUB hs]at h g;simp only[QWj]at *;omega

def QZ (k:Int)(l:List (V×V)):List (V×V):=QC (fun x y=>kl k x.1 y.1) l
def X7 (l:List R):List R:=QC (fun x y=>decide (x.num<y.num)) l
theorem BX:SW fun x y:R=>decide (x.num<y.num) where
 irr x:=by simp
 tr x y z h k:=by simp only[QUs]at *;omega
 nt x y z h k:=by simp only[QWj]at *;omega

def _root_.Go.Proofs.YtdhlbgejhcejcaaGreatDoor.Br.V.nsc (v:V):V:=.mk v.kd (Xm v.kd v.bits) v.text v.list v.pairs v.slots v.raws
def _root_.Go.Proofs.YtdhlbgejhcejcaaGreatDoor.Br.V.emp (v:V):Bool:=Va.emp v.kd v.bits v.text (v.list.map V.av) (v.pairs.map V.pav) (v.slots.map V.sav) (v.raws.map R.av)

section
variable (nm:PG→V→V)(P:PL)
def Xj (o:PO)(v:V):V:=if o.kind=10 then nm (QL P o.target) v else v.nsc
def Xu (o:PO)(v:V):V :=
 if o.card=4 then .mk 11 0 [] (v.list.map (Xj nm P o)) [] [] []else if o.card=5 then .mk 12 0 [] [] ((QZ o.key v.pairs).map fun p=>(p.1.nsc,Xj nm P o p.2)) [] []else Xj nm P o v
def QW (sl:List (Int×V))(o:PO):List (Int×V):=match sl.find? (fun s=>s.1==o.num)with
 |none=>[]
 |some s=>if (decide (o.card<3) || !(Xu nm P o s.2).emp)=true then [(o.num,Xu nm P o s.2)]else []
def Yp (g:PG)(v:V):V:=.mk 10 0 [] [] [] (g.ops.flatMap (QW nm P v.slots)) (X7 v.raws)
end
def nrm (P:PL):Nat→PG→V→V
 |0,_,v=>v
 |n+1,g,v=>Yp (nrm P n) P g v

theorem Vw (v:V):v.nsc.cnt=v.cnt:=by
 rw[Xo,Xo v];rfl
theorem BY {f:V→V}(h:∀v,(f v).cnt≤v.cnt):∀l:List V,Xc (l.map f)≤Xc l
 | []=>QUm _
 |x :: l=>by
  have:=h x;have:=BY h l;simp only[QUT,Xc];omega
theorem BZ {f g:V→V}(h:∀v,(f v).cnt≤v.cnt)(k:∀v,(g v).cnt≤v.cnt):∀l:List (V×V),Xt (l.map fun p=>(f p.1,g p.2))≤Xt l
 | []=>QUm _
 |(a,b) :: l=>by
  have:=h a;have:=k b;have:=BZ h k l;simp only[QUT,Xt];omega
theorem PK {a b:List (V×V)}(h:a.Perm b):Xt a=Xt b:=by
 induction h with
 |nil=>rfl
 |cons x _ ih=>obtain⟨p,q⟩:=x;simp only[Xt,ih]
 |swap x y l=>obtain⟨p,q⟩:=x;obtain⟨r,s⟩:=y;simp only[Xt];omega
 |trans _ _ h1 h2=>rw[h1,h2]
theorem Sg (a b:List (Int×V)):Xk (a++b)=Xk a+Xk b:=by
 induction a with
 |nil=>simp[Xk]
 |cons x a ih=>obtain⟨n,v⟩:=x;simp only[QUJ,Xk,ih];omega

theorem DN {nm:PG→V→V}{P:PL}(h:∀t v,(nm (QL P t) v).cnt≤v.cnt)(o:PO)(v:V):(Xj nm P o v).cnt≤v.cnt:=by
 unfold Xj;split
 ·exact h _ _
 ·rw[Vw];exact QUm _
theorem Vx {nm:PG→V→V}{P:PL}(h:∀t v,(nm (QL P t) v).cnt≤v.cnt)(o:PO)(v:V):(Xu nm P o v).cnt≤v.cnt:=by
 unfold Xu;split
 ·have:=BY (DN (P:=P) h o) v.list;rw[Xo,Xo v];simp only[V.raws,V.list,V.pairs,V.slots,QVi,Xt,Xk];simp only[V.list]at this;omega
 ·split
  ·have h1:=BZ (f:=V.nsc) (g:=Xj nm P o) (fun v=>by rw[Vw];exact QUm _) (DN (P:=P) h o) (QZ o.key v.pairs);have h2:Xt (QZ o.key v.pairs)=Xt v.pairs:=PK (Q3 _);rw[Xo,Xo v];simp only[V.raws,V.list,V.pairs,V.slots,QVi,Xc,Xk];simp only[V.pairs]at h1 h2;omega
  ·exact DN h o v

def wS (sl:List (Int×V))(n:Int):Nat:=Xk (sl.filter fun s=>s.1==n)
theorem Qwu (ops:List PO)(hd:ops.Pairwise fun a b=>a.num<b.num)(n:Int)(w:Nat):(ops.map fun o=>if n=o.num then w else 0).sum≤w:=by
 induction ops with
 |nil=>simp
 |cons o ops ih=>
  obtain⟨h1,h2⟩:=QVT.1 hd;simp only[QUT,QWu];by_cases e:n=o.num
  ·have:(ops.map fun o=>if n=o.num then w else 0).sum=0:=by
    have:∀l:List PO,(∀x∈l,n≠x.num)→(l.map fun o=>if n=o.num then w else 0).sum=0:=by
     intro l
     induction l with
     |nil=>intro _;rfl
     |cons x l ih=>
      intro h;rw[QUT,QWu,QUB (h x (by simp)),ih fun y hy=>h y (by simp[hy])]
    exact this ops fun x hx=>by have:=h1 x hx;omega
   rw[QUQ e,this];omega
  ·rw[QUB e];have:=ih h2;omega
theorem Qwv (ops:List PO)(hd:ops.Pairwise fun a b=>a.num<b.num)(sl:List (Int×V)):(ops.map fun o=>wS sl o.num).sum≤Xk sl:=by
 induction sl with
 |nil=>
  have:∀l:List PO,(l.map fun o=>wS [] o.num).sum=0:=by
   intro l
   induction l with
   |nil=>rfl
   |cons x l ih=>rw[QUT,QWu,ih];rfl
  rw[this];exact QUv _
 |cons s sl ih=>
  obtain⟨n,v⟩:=s;have h1:=Qwu ops hd n v.cnt;have h2:∀l:List PO,(l.map fun o=>wS ((n,v) :: sl) o.num).sum=(l.map fun o=>if n=o.num then v.cnt else 0).sum+(l.map fun o=>wS sl o.num).sum:=by
   intro l
   induction l with
   |nil=>rfl
   |cons o l ih=>
    simp only[QUT,QWu,ih];have:wS ((n,v) :: sl) o.num=(if n=o.num then v.cnt else 0)+wS sl o.num:=by
     unfold wS;by_cases e:n=o.num
     ·rw[List.filter_cons_of_pos (by simpa using e),QUQ e,Xk]
     ·rw[List.filter_cons_of_neg (by simpa using e),QUB e,QU3]
    omega
  rw[h2,Xk];omega

theorem Qaw {sl:List (Int×V)}{n:Int}{s:Int×V}(h:sl.find? (fun s=>s.1==n)=some s):s.2.cnt≤wS sl n:=by
 unfold wS
 induction sl with
 |nil=>cases h
 |cons x sl ih=>
  obtain⟨m,v⟩:=x;rw[QWa]at h;by_cases e:m=n
  ·have hb:((m,v).1==n)=true:=by simpa using e
   rw[hb]at h;cases h;rw[List.filter_cons_of_pos (by simpa using e),Xk];exact Nat.le_add_right _ _
  ·have hb:((m,v).1==n)=false:=by simpa using e
   rw[hb]at h;rw[List.filter_cons_of_neg (by simpa using e)];exact ih h

theorem Sh {nm:PG→V→V}{P:PL}(h':∀t v,(nm (QL P t) v).cnt≤v.cnt)(g:PG)(hd:g.ops.Pairwise fun a b=>a.num<b.num)(v:V):(Yp nm P g v).cnt≤v.cnt:=by
 have h1:Xk (g.ops.flatMap (QW nm P v.slots))≤(g.ops.map fun o=>wS v.slots o.num).sum:=by
  clear hd
  induction g.ops with
  |nil=>exact QUm _
  |cons o l ih=>
   have:Xk (QW nm P v.slots o)≤wS v.slots o.num:=by
    unfold QW;cases hf:v.slots.find? (fun s=>s.1==o.num)with
    |none=>exact QUv _
    |some s=>
     have a:=Qaw hf;have b:=Vx (P:=P) h' o s.2;dsimp only;split
     ·simp only[Xk];omega
     ·exact QUv _
   rw[QVP,Sg,QUT,QWu];omega
 have h2:=Qwv g.ops hd v.slots;have h3:(X7 v.raws).length=v.raws.length:=(Q3 _).length_eq;rw[Xo,Xo v];simp only[Yp,V.raws,V.list,V.pairs,V.slots,Xc,Xt]at *;omega

def Ki (P:PL):Prop:=∀g∈P.progs,g.ops.Pairwise fun a b=>a.num<b.num
theorem Yb {P:PL}(h:Ki P)(t:Int):(QL P t).ops.Pairwise fun a b=>a.num<b.num:=by
 unfold QL;cases hg:P.progs[t.toNat]? with
 |none=>exact .nil
 |some g=>exact h g (QUA hg)

theorem Yx {P:PL}(h:Ki P):∀(n:Nat) (g:PG),(g.ops.Pairwise fun a b=>a.num<b.num)→∀v:V,(nrm P n g v).cnt≤v.cnt
 |0,_,_,_=>QUm _
 |n+1,g,hg,v=>Sh (fun t v=>Yx h n _ (Yb h t) v) g hg v

end Go.Proofs.YtdhlbgejhcejcaaGreatDoor.Va

namespace Go.Proofs.YtdhlbgejhcejcaaGreatDoor.Va
open Go Am Rc Bt Br

def JoI (g:PG)(k:Nat)(st:St):Prop :=
 ∃f fr i n b,st=⟨f,[fr],[]⟩∧k=g.ops.length-i∧Jh g.ops 0 (-1)=Jh (g.ops.drop i) n b∧0≤n∧n≤(i:Int)∧((i=0∧b = -1)∨∃j o,i=j+1∧g.ops[j]? = some o∧b=o.union)∧f 1=.ptr 0 1 0∧f 3=.int .i64 n∧f 4=.int .i64 (i:Nat)∧fr 1=.cells g.cells

theorem z72 (g:PG)(hl:g.ops.length≤9223372036854775000):Qk Tryz.prog 72 [Qi g] (.bool (Z4 g)):=by
 refine k72.fn (by simp) ?_;simp only[Qi,PG.cells,eE,seval];refine Qd (JoI g) _ ⟨_,_,0,0,-1,rfl,rfl,rfl,by decide,by decide,.inl ⟨rfl,rfl⟩,(by rfl),(by rfl),(by rfl),(by rfl)⟩ ?_;rintro _ st ⟨f,fr,i,n,b,rfl,rfl,hj,hn0,hni,hb,h1,h3,h4,m1⟩;simp only[PG.cells]at m1;simp only[QVh,h1,h4,m1,eE,seval];by_cases hlt:i<g.ops.length
 ·obtain⟨o,hi⟩:∃o,g.ops[i]? = some o:=⟨g.ops[i],QUo hlt⟩;have hg:(g.ops.map fun o=>AV.agg o.cells)[i]? = some (.agg o.cells):=by simp[hi]
  have e1:=Qm i _ hlt (by simp only[maxLen];omega);have en:IntKind.i64.wrap (n+1)=n+1:=by rw[QF];omega
  rw[GT hi]at hj;have fin:∀(f':Fr) (n':Int),(if o.union=n then n'=n+1 else n'=n)→Jh g.ops 0 (-1)=Jh (g.ops.drop (i+1)) n' o.union→f' 1=.ptr 0 1 0→f' 3=.int .i64 n'→f' 4=.int .i64 ((i+1:Nat):Int)→∃k,k<g.ops.length-i∧JoI g k ⟨f',[fr],[]⟩:=by
   intro f' n' a c d e f4;refine⟨g.ops.length-(i+1),by omega,f',fr,i+1,n',o.union,rfl,rfl,c,?_,?_,.inr ⟨i,o,rfl,hi,rfl⟩,d,e,f4,m1⟩<;>split at a<;>omega
  simp only[PO.cells]at hg;simp only[Ql hlt,Qh,QVN,Qb,hg,PO.cells,h1,h3,h4,m1,eE,seval];by_cases a1:o.union=n
  ·have b1:(o.union==n)=true:=by simp[a1]
   rw[QUQ a1,←a1]at hj;simp only[b1,h3,h4,en,e1,Qa,seval];exact fin _ (n+1) (by rw[QUQ a1]) (by rw[hj,a1]) (by exact h1) (by rfl) (by rfl)
  have b1:(o.union==n)=false:=by simp[a1]
  rw[QUB a1]at hj;by_cases a2:o.union = -1
  ·have b2:(o.union != -1)=false:=by simp[a2]
   rw[QUQ (.inl a2)]at hj;simp only[b1,b2,h4,e1,Qa,seval];exact fin _ n (by rw[QUB a1]) hj (by exact h1) (by exact h3) (by rfl)
  have b2:(o.union != -1)=true:=by simp[a2]
  rcases hb with⟨rfl,rfl⟩|⟨j,p,rfl,hjp,rfl⟩
  ·have b3:(((0:Nat):Int)==0)=true:=rfl;rw[QUB (by omega)]at hj;have hun:Z4 g=false:=by unfold Z4;rw[hj]
   simp only[b1,b2,h4,hun,Qa,seval]
  ·have b3:(((j+1:Nat):Int)==0)=false:=by rw[QV4];omega
   have hgj:(g.ops.map fun o=>AV.agg o.cells)[j]? = some (.agg p.cells):=by simp[hjp]
   have e2:=WB j _ hlt (by simp only[maxLen];omega);simp only[PO.cells]at hgj;by_cases a4:o.union=p.union
   ·have b4:(p.union != o.union)=false:=by simp[a4]
    rw[QUQ (.inr a4)]at hj;simp only[b1,b2,b3,b4,e2,Qh,QVN,Qb,hgj,PO.cells,h1,h4,m1,e1,eE,seval];exact fin _ n (by rw[QUB a1]) hj (by exact h1) (by exact h3) (by rfl)
   ·have b4:(p.union != o.union)=true:=by simp;exact fun h=>a4 h.symm
    rw[QUB (by omega)]at hj;have hun:Z4 g=false:=by unfold Z4;rw[hj]
    simp only[b1,b2,b3,b4,e2,Qh,QVN,Qb,hgj,PO.cells,h1,h4,m1,hun,eE,seval]
 ·rw[QUY (by omega)]at hj;have hun:Z4 g=(g.unions==n):=by unfold Z4;rw[hj];rfl
  simp only[Qx hlt,h1,h3,m1,hun,eE,seval]

section
variable {M:Nat}(hM:M≤140737488351232)(P:PL)(hP:P.ok M)(fr:Nat→Ob)(m1:fr 1=.cells (Pc P))(f:Fr)(b:Bool)(h1:f 1=.ptr 0 1 0)(h3:f 3=.bool b)(Q:Exit→St→Prop)
include hM hP m1 h1 h3

theorem Qww (j:Nat)(x:PE)(hj:P.enums[j]? = some x)(ha:f 4=.int .i64 (j:Nat))(hc:f 5=.int .i64 0)(hx:∀f,f 1=.ptr 0 1 0→f 3=.bool (b&&x.items.all Z7)→f 4=.int .i64 (j:Nat)→Q (.exit 2) (⟨f,[fr],[]⟩:St)):QG Tryz.prog (.loop Tu) ⟨f,[fr],[]⟩ Q:=by
 let I:Nat→St→Prop:=fun k st=>∃f i,st=⟨f,[fr],[]⟩∧k=x.items.length-i∧i≤x.items.length∧f 1=.ptr 0 1 0∧f 3=.bool (b&&(x.items.take i).all Z7)∧f 4=.int .i64 (j:Nat)∧f 5=.int .i64 (i:Nat)
 have hjm:(P.enums.map Qq)[j]? = some (.agg x.cells):=by simp[hj,Qq]
 have hxo:=hP.enums x (QUA hj);have z0:(0≤(0:Int))=True:=by simp
 have z1:Int.toNat 0=0:=rfl;refine Qd I _ ⟨f,0,rfl,rfl,QUv _,h1,by rw[h3];simp,ha,hc⟩ ?_;clear h1 h3 ha hc;simp only[Pc]at m1;simp only[PE.cells]at hjm;rintro _ st ⟨f,i,rfl,rfl,hi,h1,h3,ha,hc⟩;simp only[Qh,QVN,Qb,hjm,QVh,h1,m1,ha,hc,eE,seval];by_cases hlt:i<x.items.length
 ·obtain⟨o,hg⟩:∃o,x.items[i]? = some o:=⟨x.items[i],QUo hlt⟩;have hgm:(x.items.map fun o=>AV.agg o.cells)[i]? = some (.agg o.cells):=by simp[hg]
  have e1:=Qm i _ hlt hxo.len1;have ho:=hxo.items o (QUA hg);have ht:=Q6 (q:=Z7) hg;have fin:∀f':Fr,f' 1=.ptr 0 1 0→f' 3=.bool ((b&&(x.items.take i).all Z7)&&Z7 o)→f' 4=.int .i64 (j:Nat)→f' 5=.int .i64 ((i+1:Nat):Int)→∃k,k<x.items.length-i∧I k ⟨f',[fr],[]⟩:=by
   intro f' a1 a3 a4 a5;exact⟨x.items.length-(i+1),by omega,f',i+1,rfl,rfl,by omega,a1,by rw[a3,ht,QU7],a4,a5⟩
  simp only[PI.cells]at hgm;cases hb:(b&&(x.items.take i).all Z7)
  ·rw[hb]at fin h3;simp only[Ql hlt,Qh,QVN,Qb,hjm,hgm,PI.cells,h1,m1,h3,ha,hc,e1,eE,seval];exact fin _ (by exact h1) (by rfl) (by exact ha) (by rfl)
  ·rw[hb,QVZ]at fin;rw[hb]at h3;rcases hn:o.notes with _|⟨n,_|⟨n2,ns⟩⟩
   ·have c0:(((0:Nat):Int)==0)=true:=rfl;have e:Z7 o=true:=by unfold Z7;rw[hn]
    rw[e]at fin;rw[hn]at hgm;simp only[Ql hlt,Qh,QVN,Qb,hjm,hgm,PI.cells,QVn,QVi,h1,m1,h3,ha,hc,e1,eE,seval];exact fin _ (by exact h1) (by rfl) (by exact ha) (by rfl)
   ·obtain⟨kd,b',t,l,p,s,r,hv,htl,h3',h4',h5',h6'⟩:=CB (ho.notes n (by rw[hn];simp)) hM;have c0:(((1:Nat):Int)==0)=false:=rfl;have c1:(((1:Nat):Int)==1)=true:=rfl;have e:Z7 o=(n.name==alias&&Xl 7 kd b' t l p s r):=by
     unfold Z7;rw[hn];show(n.name==alias&&nok n.val)=_;rw[hv];rfl
    have en:Xy n.cells=.agg [.str n.name,.int .i64 kd,.int .u64 ((b':Nat):Int),.str t,.list l,.list p,.list s,.list r]:=by
     rw[PN.cells,hv];rfl
    have hne:(n.name==[97,108,105,97,115])=(n.name==alias):=rfl;have hck:=z71 kd b' t l p s r (by simp only[maxLen];omega);simp only[nv]at hck;rw[e]at fin;rw[hn]at hgm;simp only[QUT,QVn,en]at hgm;simp only[Ql hlt,Qh,QVN,Qb,hjm,hgm,PI.cells,QUC,QVi,QU3,z0,z1,QVo,QH,hne,h1,m1,h3,ha,hc,eE,seval];by_cases hal:n.name=alias
    ·have b0:(n.name==alias)=true:=by simp[hal]
     rw[←hal]at hck;rw[b0,QVZ]at fin;simp only[b0,Qa,seval];refine aC hck ?_;cases hfv:Xl 7 kd b' t l p s r
     ·rw[hfv]at fin;have d0:((12:Int)==0)=false:=rfl;simp only[QUG,d0,hc,e1,Qa,seval];exact fin _ (by exact h1) (by rfl) (by exact ha) (by rfl)
     ·rw[hfv]at fin;have d0:((0:Int)==0)=true:=rfl;simp only[d0,hc,e1,Qa,seval];exact fin _ (by exact h1) (by rfl) (by exact ha) (by rfl)
    ·have b0:(n.name==alias)=false:=by simp[hal]
     rw[b0,QVQ]at fin;simp only[b0,hc,e1,Qa,seval];exact fin _ (by exact h1) (by rfl) (by exact ha) (by rfl)
   ·have c0:((((ns.length+1+1:Nat)):Int)==0)=false:=by rw[QV4];omega
    have c1:((((ns.length+1+1:Nat)):Int)==1)=false:=by rw[QV4];omega
    have e:Z7 o=false:=by unfold Z7;rw[hn]
    rw[e]at fin;rw[hn]at hgm;simp only[QUT]at hgm;simp only[Ql hlt,Qh,QVN,Qb,hjm,hgm,PI.cells,QUC,QVh,c0,c1,h1,m1,h3,ha,hc,e1,eE,seval];exact fin _ (by exact h1) (by rfl) (by exact ha) (by rfl)
 ·have hf:(x.items.take i).all Z7=x.items.all Z7:=by rw[QUV (by omega)]
  rw[hf]at h3;simp only[Qx hlt,Qa,seval];exact hx _ (by exact h1) (by exact h3) (by exact ha)

theorem QPc (ha:f 4=.int .i64 0)(hx:∀f,f 1=.ptr 0 1 0→f 3=.bool (b&&P.enums.all KC)→Q (.exit 0) (⟨f,[fr],[]⟩:St)):QG Tryz.prog (.loop Tv) ⟨f,[fr],[]⟩ Q:=by
 let I:Nat→St→Prop:=fun k st=>∃f i,st=⟨f,[fr],[]⟩∧k=P.enums.length-i∧i≤P.enums.length∧f 1=.ptr 0 1 0∧f 3=.bool (b&&(P.enums.take i).all KC)∧f 4=.int .i64 (i:Nat)
 have m1':=m1;refine Qd I _ ⟨f,0,rfl,rfl,QUv _,h1,by rw[h3];simp,ha⟩ ?_;clear h1 h3 ha;simp only[Pc]at m1;rintro _ st ⟨f,i,rfl,rfl,hi,h1,h3,ha⟩;simp only[QVh,h1,m1,ha,eE,seval];by_cases hlt:i<P.enums.length
 ·obtain⟨x,hg⟩:∃x,P.enums[i]? = some x:=⟨P.enums[i],QUo hlt⟩;have hgm:(P.enums.map Qq)[i]? = some (.agg x.cells):=by simp[hg,Qq]
  have e1:=Qm i _ hlt hP.len2;have ht:=Q6 (q:=KC) hg;have hq:KC x=(x.notes.isEmpty&&x.items.all Z7):=rfl;have hie:((x.notes.length:Int)==0)=x.notes.isEmpty:=by
   cases x.notes with
   |nil=>rfl
   |cons a l=>simp;omega
  have fin:∀f':Fr,f' 1=.ptr 0 1 0→f' 3=.bool (((b&&(P.enums.take i).all KC)&&x.notes.isEmpty)&&x.items.all Z7)→f' 4=.int .i64 ((i+1:Nat):Int)→∃k,k<P.enums.length-i∧I k ⟨f',[fr],[]⟩:=by
   intro f' a1 a3 a4;exact⟨P.enums.length-(i+1),by omega,f',i+1,rfl,rfl,by omega,a1,by rw[a3,ht,hq,QU7,QU7],a4⟩
  simp only[PE.cells]at hgm;cases hb:(b&&(P.enums.take i).all KC)
  ·rw[hb,QVQ]at fin;rw[hb]at h3;simp only[Ql hlt,h3,Qa,seval];refine Qww hM P hP fr m1' _ false (by exact h1) (by rfl) _ i x hg (by exact ha) (by rfl) (fun f h1 h3 ha=>?_);simp only[ha,e1,Qa,seval];exact fin _ (by exact h1) (by exact h3) (by rfl)
  ·rw[hb,QVZ]at fin;rw[hb]at h3;simp only[Ql hlt,Qh,QVN,Qb,hgm,QVh,hie,h1,m1,h3,ha,eE,seval];refine Qww hM P hP fr m1' _ x.notes.isEmpty (by exact h1) (by rfl) _ i x hg (by exact ha) (by rfl) (fun f h1 h3 ha=>?_);simp only[ha,e1,Qa,seval];exact fin _ (by exact h1) (by exact h3) (by rfl)
 ·have hf:(P.enums.take i).all KC=P.enums.all KC:=by rw[QUV (by omega)]
  rw[hf]at h3;simp only[Qx hlt,Qa,seval];exact hx _ (by exact h1) (by exact h3)

theorem Qwx (j:Nat)(x:PG)(hj:P.progs[j]? = some x)(ha:f 7=.int .i64 (j:Nat))(hc:f 8=.int .i64 0)(hx:∀f,f 1=.ptr 0 1 0→f 3=.bool (b&&x.ops.all fun o=>Zg P o&&X5 o)→f 7=.int .i64 (j:Nat)→Q (.exit 6) (⟨f,[fr],[]⟩:St)):QG Tryz.prog (.loop Tw) ⟨f,[fr],[]⟩ Q:=by
 let I:Nat→St→Prop:=fun k st=>∃f i,st=⟨f,[fr],[]⟩∧k=x.ops.length-i∧i≤x.ops.length∧f 1=.ptr 0 1 0∧f 3=.bool (b&&(x.ops.take i).all fun o=>Zg P o&&X5 o)∧f 7=.int .i64 (j:Nat)∧f 8=.int .i64 (i:Nat)
 have hjm:(P.progs.map Qi)[j]? = some (.agg x.cells):=by simp[hj,Qi]
 have hxo:=hP.progs x (QUA hj);refine Qd I _ ⟨f,0,rfl,rfl,QUv _,h1,by rw[h3];simp,ha,hc⟩ ?_;clear h1 h3 ha hc;simp only[Pc]at m1;simp only[PG.cells]at hjm;rintro _ st ⟨f,i,rfl,rfl,hi,h1,h3,ha,hc⟩;simp only[Qh,QVN,Qb,hjm,QVh,h1,m1,ha,hc,eE,seval];by_cases hlt:i<x.ops.length
 ·obtain⟨o,hg⟩:∃o,x.ops[i]? = some o:=⟨x.ops[i],QUo hlt⟩;have hgm:(x.ops.map fun o=>AV.agg o.cells)[i]? = some (.agg o.cells):=by simp[hg]
  have e1:=Qm i _ hlt hxo.len;have hal:o.alias.length+8≤maxLen:=by have:=(hxo.ops o (QUA hg)).alias;simp only[maxLen];omega
  have hop:Qk Tryz.prog 73 [.agg [.list (P.progs.map Qi),.list (P.enums.map Qq)],Qs o] (.bool (Zg P o&&X5 o)):=z73 P o hal;have ht:=Q6 (q:=fun o=>Zg P o&&X5 o) hg;have fin:∀f':Fr,f' 1=.ptr 0 1 0→f' 3=.bool ((b&&(x.ops.take i).all fun o=>Zg P o&&X5 o)&&(Zg P o&&X5 o))→f' 7=.int .i64 (j:Nat)→f' 8=.int .i64 ((i+1:Nat):Int)→∃k,k<x.ops.length-i∧I k ⟨f',[fr],[]⟩:=by
   intro f' a1 a3 a4 a5;exact⟨x.ops.length-(i+1),by omega,f',i+1,rfl,rfl,by omega,a1,by rw[a3,ht,QU7],a4,a5⟩
  simp only[Qs,PO.cells]at hgm hop;cases hb:(b&&(x.ops.take i).all fun o=>Zg P o&&X5 o)
  ·rw[hb]at fin h3;simp only[Ql hlt,PO.cells,h3,hc,e1,Qa,seval];exact fin _ (by exact h1) (by rfl) (by exact ha) (by rfl)
  ·rw[hb,QVZ]at fin;rw[hb]at h3;simp only[Ql hlt,Qh,QVN,Qb,hjm,hgm,PO.cells,h1,m1,h3,ha,hc,eE,seval];refine aC hop ?_;simp only[hc,e1,Qa,seval];exact fin _ (by exact h1) (by rfl) (by exact ha) (by rfl)
 ·have hf:(x.ops.take i).all (fun o=>Zg P o&&X5 o)=x.ops.all fun o=>Zg P o&&X5 o:=by rw[QUV (by omega)]
  rw[hf]at h3;simp only[Qx hlt,Qa,seval];exact hx _ (by exact h1) (by exact h3) (by exact ha)

theorem QPd (hl:∀g∈P.progs,g.ops.length≤64)(ha:f 7=.int .i64 0)(hx:∀f,f 1=.ptr 0 1 0→f 3=.bool (b&&P.progs.all (Jd P))→Q (.exit 4) (⟨f,[fr],[]⟩:St)):QG Tryz.prog (.loop Tx) ⟨f,[fr],[]⟩ Q:=by
 let I:Nat→St→Prop:=fun k st=>∃f i,st=⟨f,[fr],[]⟩∧k=P.progs.length-i∧i≤P.progs.length∧f 1=.ptr 0 1 0∧f 3=.bool (b&&(P.progs.take i).all (Jd P))∧f 7=.int .i64 (i:Nat)
 have m1':=m1;refine Qd I _ ⟨f,0,rfl,rfl,QUv _,h1,by rw[h3];simp,ha⟩ ?_;clear h1 h3 ha;simp only[Pc]at m1;rintro _ st ⟨f,i,rfl,rfl,hi,h1,h3,ha⟩;simp only[QVh,h1,m1,ha,eE,seval];by_cases hlt:i<P.progs.length
 ·obtain⟨x,hg⟩:∃x,P.progs[i]? = some x:=⟨P.progs[i],QUo hlt⟩;have hgm:(P.progs.map Qi)[i]? = some (.agg x.cells):=by simp[hg,Qi]
  have e1:=Qm i _ hlt hP.len1;have ht:=Q6 (q:=Jd P) hg;have hq:Jd P x=(Z4 x&&x.ops.all fun o=>Zg P o&&X5 o):=rfl;have hjo:=z72 x (QUl (hl x (QUA hg)) (by decide));have fin:∀f':Fr,f' 1=.ptr 0 1 0→f' 3=.bool (((b&&(P.progs.take i).all (Jd P))&&Z4 x)&&x.ops.all fun o=>Zg P o&&X5 o)→f' 7=.int .i64 ((i+1:Nat):Int)→∃k,k<P.progs.length-i∧I k ⟨f',[fr],[]⟩:=by
   intro f' a1 a3 a4;exact⟨P.progs.length-(i+1),by omega,f',i+1,rfl,rfl,by omega,a1,by rw[a3,ht,hq,QU7,QU7],a4⟩
  simp only[Qi,PG.cells]at hgm hjo;cases hb:(b&&(P.progs.take i).all (Jd P))
  ·rw[hb,QVQ]at fin;rw[hb]at h3;simp only[Ql hlt,h3,Qa,seval];refine Qwx hM P hP fr m1' _ false (by exact h1) (by rfl) _ i x hg (by exact ha) (by rfl) (fun f h1 h3 ha=>?_);simp only[ha,e1,Qa,seval];exact fin _ (by exact h1) (by exact h3) (by rfl)
  ·rw[hb,QVZ]at fin;rw[hb]at h3;simp only[Ql hlt,Qh,QVN,Qb,hgm,h1,m1,h3,ha,eE,seval];refine aC hjo ?_;simp only[Qa,seval];refine Qwx hM P hP fr m1' _ (Z4 x) (by exact h1) (by rfl) _ i x hg (by exact ha) (by rfl) (fun f h1 h3 ha=>?_);simp only[ha,e1,Qa,seval];exact fin _ (by exact h1) (by exact h3) (by rfl)
 ·have hf:(P.progs.take i).all (Jd P)=P.progs.all (Jd P):=by rw[QUV (by omega)]
  rw[hf]at h3;simp only[Qx hlt,Qa,seval];exact hx _ (by exact h1) (by exact h3)

end

theorem z41 {M:Nat}(hM:M≤140737488351232)(P:PL)(hP:P.ok M)(hl:∀g∈P.progs,g.ops.length≤64):Qk Tryz.prog 41 [P.av] (.bool (args P)):=by
 have e0:P.av=.agg [.list (P.progs.map Qi),.list (P.enums.map Qq)]:=rfl;have e:args P=(P.enums.all KC&&P.progs.all (Jd P)):=Bool.and_comm _ _;refine k41.fn (by simp) ?_;simp only[e0,eE,seval];refine QPc hM P hP _ (by rfl) _ true (by rfl) (by rfl) _ (by rfl) (fun f h1 h3=>?_);simp only[Qa,seval];refine QPd hM P hP _ (by rfl) _ _ (by exact h1) (by exact h3) _ hl (by rfl) (fun f h1 h3=>?_);simp only[h3,e,QVZ,Qa,seval]

section
variable {M:Nat}(P:PL)(hP:P.ok M)(fr:Nat→Ob)(m1:fr 1=.cells (Pc P))(f:Fr)(b:Bool)(h1:f 1=.ptr 0 1 0)(h3:f 3=.bool b)(Q:Exit→St→Prop)
include hP m1 h1 h3

theorem QPe (j:Nat)(x:PG)(hj:P.progs[j]? = some x)(ha:f 4=.int .i64 (j:Nat))(hc:f 5=.int .i64 0)(hx:∀f,f 1=.ptr 0 1 0→f 3=.bool (b&&x.ops.all Zs)→f 4=.int .i64 (j:Nat)→Q (.exit 2) (⟨f,[fr],[]⟩:St)):QG Tryz.prog (.loop Tp) ⟨f,[fr],[]⟩ Q:=by
 let I:Nat→St→Prop:=fun k st=>∃f i,st=⟨f,[fr],[]⟩∧k=x.ops.length-i∧i≤x.ops.length∧f 1=.ptr 0 1 0∧f 3=.bool (b&&(x.ops.take i).all Zs)∧f 4=.int .i64 (j:Nat)∧f 5=.int .i64 (i:Nat)
 have hjm:(P.progs.map Qi)[j]? = some (.agg x.cells):=by simp[hj,Qi]
 have hxo:=hP.progs x (QUA hj);refine Qd I _ ⟨f,0,rfl,rfl,QUv _,h1,by rw[h3];simp,ha,hc⟩ ?_;clear h1 h3 ha hc;simp only[Pc]at m1;simp only[PG.cells]at hjm;rintro _ st ⟨f,i,rfl,rfl,hi,h1,h3,ha,hc⟩;simp only[Qh,QVN,Qb,hjm,QVh,h1,m1,ha,hc,eE,seval];by_cases hlt:i<x.ops.length
 ·obtain⟨o,hg⟩:∃o,x.ops[i]? = some o:=⟨x.ops[i],QUo hlt⟩;have hgm:(x.ops.map fun o=>AV.agg o.cells)[i]? = some (.agg o.cells):=by simp[hg]
  have e1:=Qm i _ hlt hxo.len;have ht:=Q6 (q:=Zs) hg;have hq:Zs o=(decide (o.num≥1)&&decide (o.num≤65535)):=rfl;have fin:∀f':Fr,f' 1=.ptr 0 1 0→f' 3=.bool ((b&&(x.ops.take i).all Zs)&&Zs o)→f' 4=.int .i64 (j:Nat)→f' 5=.int .i64 ((i+1:Nat):Int)→∃k,k<x.ops.length-i∧I k ⟨f',[fr],[]⟩:=by
   intro f' a1 a3 a4 a5;exact⟨x.ops.length-(i+1),by omega,f',i+1,rfl,rfl,by omega,a1,by rw[a3,ht,QU7],a4,a5⟩
  simp only[PO.cells]at hgm;cases hb:(b&&(x.ops.take i).all Zs)
  ·rw[hb]at fin h3;simp only[Ql hlt,Qh,QVN,Qb,hjm,hgm,PO.cells,h1,m1,h3,ha,hc,e1,eE,seval];exact fin _ (by exact h1) (by rfl) (by exact ha) (by rfl)
  ·rw[hb,QVZ,hq]at fin;rw[hb]at h3;cases a1:decide (o.num≥1)
   ·rw[a1]at fin;simp only[Ql hlt,Qh,QVN,Qb,hjm,hgm,PO.cells,a1,h1,m1,h3,ha,hc,e1,eE,seval];exact fin _ (by exact h1) (by rfl) (by exact ha) (by rfl)
   ·rw[a1,QVZ]at fin;simp only[Ql hlt,Qh,QVN,Qb,hjm,hgm,PO.cells,a1,h1,m1,h3,ha,hc,e1,eE,seval];exact fin _ (by exact h1) (by rfl) (by exact ha) (by rfl)
 ·have hf:(x.ops.take i).all Zs=x.ops.all Zs:=by rw[QUV (by omega)]
  rw[hf]at h3;simp only[Qx hlt,Qa,seval];exact hx _ (by exact h1) (by exact h3) (by exact ha)

theorem QPf (ha:f 4=.int .i64 0)(hx:∀f,f 1=.ptr 0 1 0→f 3=.bool (b&&P.progs.all fun g=>g.ops.all Zs)→Q (.exit 0) (⟨f,[fr],[]⟩:St)):QG Tryz.prog (.loop Tq) ⟨f,[fr],[]⟩ Q:=by
 let I:Nat→St→Prop:=fun k st=>∃f i,st=⟨f,[fr],[]⟩∧k=P.progs.length-i∧i≤P.progs.length∧f 1=.ptr 0 1 0∧f 3=.bool (b&&(P.progs.take i).all fun g=>g.ops.all Zs)∧f 4=.int .i64 (i:Nat)
 have m1':=m1;refine Qd I _ ⟨f,0,rfl,rfl,QUv _,h1,by rw[h3];simp,ha⟩ ?_;clear h1 h3 ha;simp only[Pc]at m1;rintro _ st ⟨f,i,rfl,rfl,hi,h1,h3,ha⟩;simp only[QVh,h1,m1,ha,eE,seval];by_cases hlt:i<P.progs.length
 ·obtain⟨x,hg⟩:∃x,P.progs[i]? = some x:=⟨P.progs[i],QUo hlt⟩;have e1:=Qm i _ hlt hP.len1;have ht:=Q6 (q:=fun g:PG=>g.ops.all Zs) hg;simp only[Ql hlt,Qa,seval];refine QPe P hP fr m1' _ (b&&(P.progs.take i).all fun g=>g.ops.all Zs) (by exact h1) (by exact h3) _ i x hg (by exact ha) (by rfl) (fun f h1 h3 ha=>?_);simp only[ha,e1,Qa,seval];exact⟨P.progs.length-(i+1),by omega,_,i+1,rfl,rfl,by omega,(by exact h1),by rw[ht,←QU7]<;>first|exact h3|simp only[h3,eE,seval],(by rfl)⟩
 ·have hf:(P.progs.take i).all (fun g=>g.ops.all Zs)=P.progs.all fun g=>g.ops.all Zs:=by rw[QUV (by omega)]
  rw[hf]at h3;simp only[Qx hlt,Qa,seval];exact hx _ (by exact h1) (by exact h3)

end

def Hv (x:PE)(i:Nat):Bool:=match x.items[i]? with
 |some o=>(i != 0||o.num==0)&&Ym x o
 |none=>true

theorem Qax (x:PE):QB (Hv x) x.items.length=(UE x&&x.items.all (Ym x)):=by
 rw[QVg,QUL,QJ,QUz]
 constructor
 ·intro h;refine⟨?_,fun o ho=>?_⟩
  ·unfold UE;cases hi:x.items with
   |nil=>rfl
   |cons a l=>
    have:=h 0 (by rw[hi];simp);unfold Hv at this;rw[hi]at this;simp only[QVo,QUL]at this
    simpa using this.1
  ·obtain⟨i,hi⟩:=QUy.1 ho;have:=h i (QUn.1 hi).1;unfold Hv at this;rw[hi]at this;simp only[QUL]at this;exact this.2
 ·rintro⟨h1,h2⟩ i _;unfold Hv;cases hg:x.items[i]? with
  |none=>rfl
  |some o=>
   simp only[QUL];refine⟨?_,h2 o (QUA hg)⟩;cases i with
   |zero=>
    unfold UE at h1;cases hx:x.items with
    |nil=>rw[hx]at hg;cases hg
    |cons a l=>
     rw[hx]at h1 hg;cases hg
     simpa using h1
   |succ k=>rfl

section
variable (x:PE)(hl1:x.items.length≤maxLen)(hl:x.free.length≤maxLen)(P:PL)(f:Fr)(b:Bool)(j:Nat)(fr:Nat→Ob)(h1:f 1=.ptr 0 1 0)(h3:f 3=.bool b)(h7:f 7=.int .i64 (j:Nat))(h8:f 8=.ptr 0 8 0)(m1:fr 1=.cells (Pc P))(m8:fr 8=.cells x.cells)(Q:Exit→St→Prop)
include hl1 hl h1 h3 h7 h8 m8

theorem PM (hc:f 9=.int .i64 0)(hx:∀f,f 1=.ptr 0 1 0→f 3=.bool (b&&(UE x&&x.items.all (Ym x)))→f 7=.int .i64 (j:Nat)→f 8=.ptr 0 8 0→Q (.exit 6) (⟨f,[fr],[]⟩:St)):QG Tryz.prog (.loop Tr) ⟨f,[fr],[]⟩ Q:=by
 let I:Nat→St→Prop:=fun k st=>∃f i,st=⟨f,[fr],[]⟩∧k=x.items.length-i∧i≤x.items.length∧f 1=.ptr 0 1 0∧f 3=.bool (b&&QB (Hv x) i)∧f 7=.int .i64 (j:Nat)∧f 8=.ptr 0 8 0∧f 9=.int .i64 (i:Nat)
 refine Qd I _ ⟨f,0,rfl,rfl,QUv _,h1,by rw[h3];simp[QB],h7,h8,hc⟩ ?_;clear h1 h3 h7 h8 hc;simp only[PE.cells]at m8;rintro _ st ⟨f,i,rfl,rfl,hi,h1,h3,h7,h8,hc⟩;simp only[QVh,m8,h8,hc,eE,seval];by_cases hlt:i<x.items.length
 ·obtain⟨o,hg⟩:∃o,x.items[i]? = some o:=⟨x.items[i],QUo hlt⟩;have hgm:(x.items.map fun o=>AV.agg o.cells)[i]? = some (.agg o.cells):=by simp[hg]
  have e1:=Qm i _ hlt hl1;have ht:=Jr b (Hv x) i;have hr:Qk Tryz.prog 70 [.list (x.free.map fun n=>AV.agg n.cells),.int .i64 o.num] (.bool (kept x.free o.num)):=z70 x.free hl o.num;have hq:Hv x i=((i != 0||o.num==0)&&(decide (o.num≤2147483647) && !kept x.free o.num)):=by unfold Hv;rw[hg];rfl
  rw[hq]at ht;have fin:∀(f':Fr) (v:Bool),((b&&QB (Hv x) i)&&((i != 0||o.num==0)&&(decide (o.num≤2147483647) && !kept x.free o.num)))=v→f' 1=.ptr 0 1 0→f' 3=.bool v→f' 7=.int .i64 (j:Nat)→f' 8=.ptr 0 8 0→f' 9=.int .i64 ((i+1:Nat):Int)→∃k,k<x.items.length-i∧I k ⟨f',[fr],[]⟩:=by
   intro f' v hv a1 a3 a4 a5 a6;exact⟨x.items.length-(i+1),by omega,f',i+1,rfl,rfl,by omega,a1,by rw[a3,ht,hv],a4,a5,a6⟩
  simp only[PI.cells]at hgm;cases hb:(b&&QB (Hv x) i)
  ·rw[hb]at fin h3;simp only[QVQ]at fin;simp only[Ql hlt,Qh,QVN,Qb,hgm,PI.cells,m8,h3,h8,hc,e1,eE,seval];exact fin _ _ rfl (by exact h1) (by rfl) (by exact h7) (by exact h8) (by rfl)
  ·rw[hb]at fin h3;simp only[QVZ]at fin;cases a1:decide (o.num≤2147483647)
   ·simp only[a1,QVQ,QWk]at fin;simp only[Ql hlt,Qh,QVN,Qb,hgm,PI.cells,a1,m8,h3,h8,hc,e1,eE,seval];exact fin _ _ rfl (by exact h1) (by rfl) (by exact h7) (by exact h8) (by rfl)
   simp only[a1,QVZ]at fin;have gt:∀(q:Bool),(i != 0||o.num==0)=q→(decide ((i:Int) > 0)=true∧q=true)∨(decide ((i:Int) > 0)=false∧(o.num==0)=q):=by
    intro q hq;cases i with
    |zero=>exact .inr ⟨rfl,hq⟩
    |succ k=>exact .inl ⟨QWi (by omega),hq.symm⟩
   cases a2:(i != 0||o.num==0)
   ·rw[a2]at fin;simp only[QVQ]at fin;rcases gt _ a2 with⟨g1,g2⟩|⟨g1,g2⟩
    ·cases g2
    ·simp only[Ql hlt,Qh,QVN,Qb,hgm,PI.cells,a1,g1,g2,m8,h3,h8,hc,e1,eE,seval];exact fin _ _ rfl (by exact h1) (by rfl) (by exact h7) (by exact h8) (by rfl)
   ·rw[a2]at fin;simp only[QVZ]at fin;rcases gt _ a2 with⟨g1,g2⟩|⟨g1,g2⟩
    all_goals
     simp only[Ql hlt,Qh,QVN,Qb,hgm,PI.cells,a1,g1,g2,m8,h3,h8,hc,eE,seval];refine aC hr ?_;simp only[hc,e1,Qa,seval];exact fin _ _ rfl (by exact h1) (by rfl) (by exact h7) (by exact h8) (by rfl)
 ·rw[show i=x.items.length by omega,Qax]at h3;simp only[Qx hlt,Qa,seval];exact hx _ (by exact h1) (by exact h3) (by exact h7) (by exact h8)

omit hl1 in
include m1 in
theorem PP (hc:f 11=.int .i64 0)(hrow:∀s∈[12],(fr s).isRow=false)(hx:∀f fr,f 1=.ptr 0 1 0→f 3=.bool (b&&(x.free.all GP&&XV x.free Ul))→f 7=.int .i64 (j:Nat)→fr 1=.cells (Pc P)→(∀s∈[12,8],(fr s).isRow=false)→Q (.exit 8) (⟨f,[fr],[]⟩:St)):QG Tryz.prog (.loop Ts) ⟨f,[fr],[]⟩ Q:=by
 let I:Nat→St→Prop:=fun k st=>∃f fr i,st=⟨f,[fr],[]⟩∧k=x.free.length-i∧i≤x.free.length∧f 1=.ptr 0 1 0∧f 3=.bool (b&&QB (K4 x.free) i)∧f 7=.int .i64 (j:Nat)∧f 8=.ptr 0 8 0∧f 11=.int .i64 (i:Nat)∧fr 1=.cells (Pc P)∧fr 8=.cells x.cells∧∀s∈[12],(fr s).isRow=false
 refine Qd I _ ⟨f,fr,0,rfl,rfl,QUv _,h1,by rw[h3];simp[QB],h7,h8,hc,m1,m8,hrow⟩ ?_;clear h1 h3 h7 h8 hc m1 m8 hrow;rintro _ st ⟨f0,fr0,i,rfl,rfl,hi,h10,h30,h70,h80,hc0,m10,m80,Kd⟩;refine QK (a:=_) [12] Kd ?_;intro f fr hf hm hn;have h1:f 1=.ptr 0 1 0:=by rw[hf,h10]<;>rfl
 have h3:f 3=.bool (b&&QB (K4 x.free) i):=by rw[hf,h30]<;>rfl
 have h7:f 7=.int .i64 (j:Nat):=by rw[hf,h70]<;>rfl
 have h8:f 8=.ptr 0 8 0:=by rw[hf,h80]<;>rfl
 have hc:f 11=.int .i64 (i:Nat):=by rw[hf,hc0]<;>rfl
 have m1:fr 1=.cells (Pc P):=by rw[hm 1 (by decide),m10]<;>rfl
 have m8:fr 8=.cells x.cells:=by rw[hm 8 (by decide),m80]<;>rfl
 have n12:=hn 12 (by decide);clear hf hm hn h10 h30 h70 h80 hc0 m10 m80 Kd;have m8':=m8;simp only[PE.cells]at m8;simp only[QVh,m8,h8,hc,eE,seval];by_cases hlt:i<x.free.length
 ·obtain⟨y,hg⟩:∃y,x.free[i]? = some y:=⟨x.free[i],QUo hlt⟩;have hgm:(x.free.map fun o=>AV.agg o.cells)[i]? = some (.agg y.cells):=by simp[hg]
  have e1:=Qm i _ hlt hl;have ht:=Jr b (K4 x.free) i;have hq:K4 x.free i=((decide (y.lo≥0)&&decide (y.hi≤2147483647)&&decide (y.lo≤y.hi))&&Xg x.free Ul i):=by unfold K4;rw[Yu hg];rfl
  rw[hq]at ht;have fin:∀(f':Fr) (fr':Nat→Ob) (v:Bool),((b&&QB (K4 x.free) i)&&((decide (y.lo≥0)&&decide (y.hi≤2147483647)&&decide (y.lo≤y.hi))&&Xg x.free Ul i))=v→f' 1=.ptr 0 1 0→f' 3=.bool v→f' 7=.int .i64 (j:Nat)→f' 8=.ptr 0 8 0→f' 11=.int .i64 ((i+1:Nat):Int)→fr' 1=.cells (Pc P)→fr' 8=.cells x.cells→(∀s∈[12],(fr' s).isRow=false)→∃k,k<x.free.length-i∧I k ⟨f',[fr'],[]⟩:=by
   intro f' fr' v hv a1 a3 a4 a5 a6 a7 a8 a9;exact⟨x.free.length-(i+1),by omega,f',fr',i+1,rfl,rfl,by omega,a1,by rw[a3,ht,hv],a4,a5,a6,a7,a8,a9⟩
  simp only[PS.cells]at hgm;cases hb:(b&&QB (K4 x.free) i)
  ·rw[hb]at fin h3;simp only[QVQ]at fin;simp only[Ql hlt,Qh,QVN,Qb,hgm,PS.cells,n12,m8,h3,h8,hc,e1,eE,seval];exact fin _ _ _ rfl (by exact h1) (by rfl) (by exact h7) (by exact h8) (by rfl) (by exact m1) (by exact m8') (by simp<;>rfl)
  rw[hb]at fin h3;simp only[QVZ]at fin;cases a1:decide (y.lo≥0)
  ·simp only[a1,QVQ]at fin;simp only[Ql hlt,Qh,QVN,Qb,hgm,PS.cells,n12,a1,m8,h3,h8,hc,e1,eE,seval];exact fin _ _ _ rfl (by exact h1) (by rfl) (by exact h7) (by exact h8) (by rfl) (by exact m1) (by exact m8') (by simp<;>rfl)
  cases a2:decide (y.hi≤2147483647)
  ·simp only[a1,a2,QVQ,QWk]at fin;simp only[Ql hlt,Qh,QVN,Qb,hgm,PS.cells,n12,a1,a2,m8,h3,h8,hc,e1,eE,seval];exact fin _ _ _ rfl (by exact h1) (by rfl) (by exact h7) (by exact h8) (by rfl) (by exact m1) (by exact m8') (by simp<;>rfl)
  cases a3:decide (y.lo≤y.hi)
  ·simp only[a1,a2,a3,QVQ,QWk]at fin;simp only[Ql hlt,Qh,QVN,Qb,hgm,PS.cells,n12,a1,a2,a3,m8,h3,h8,hc,e1,eE,seval];exact fin _ _ _ rfl (by exact h1) (by rfl) (by exact h7) (by exact h8) (by rfl) (by exact m1) (by exact m8') (by simp<;>rfl)
  simp only[a1,a2,a3,QVZ,QVz]at fin;cases i with
  |zero=>
   have d0:(((0:Nat):Int)==0)=true:=rfl;rw[YR]at fin;simp only[Ql hlt,Qh,QVN,Qb,hgm,PS.cells,n12,a1,a2,a3,d0,m8,h3,h8,hc,e1,eE,Nat.reduceBEq,↓reduceIte,Nat.reduceAdd,Nat.reduceLeDiff];exact fin _ _ _ rfl (by exact h1) (by rfl) (by exact h7) (by exact h8) (by rfl) (by exact m1) (by exact m8') (by simp<;>rfl)
  |succ k=>
   have d0:(((k+1:Nat):Int)==0)=false:=by rw[QV4];omega
   obtain⟨z,hgz⟩:∃z,x.free[k]? = some z:=⟨x.free[k]'(by omega),QUo (by omega)⟩;have hgzm:(x.free.map fun o=>AV.agg o.cells)[k]? = some (.agg z.cells):=by simp[hgz]
   have w:=WB k _ hlt hl;have hs:Ul z y=decide (y.lo > z.hi):=rfl;rw[Z6 hgz hg,hs]at fin;simp only[PS.cells]at hgzm;simp only[Ql hlt,Qh,QVN,Qb,hgm,hgzm,w,PS.cells,n12,a1,a2,a3,d0,m8,h3,h8,hc,e1,eE,seval];exact fin _ _ _ rfl (by exact h1) (by rfl) (by exact h7) (by exact h8) (by rfl) (by exact m1) (by exact m8') (by simp<;>rfl)
 ·rw[show i=x.free.length by omega,Vl]at h3;simp only[Qx hlt,Qa,seval];refine hx _ _ (by exact h1) (by exact h3) (by exact h7) (by exact m1) (fun s hs=>?_);simp at hs;rcases hs with rfl|rfl
  ·rw[n12];rfl
  ·rw[m8];rfl

end

section
variable {M:Nat}(P:PL)(hP:P.ok M)(fr:Nat→Ob)(m1:fr 1=.cells (Pc P))(f:Fr)(b:Bool)(h1:f 1=.ptr 0 1 0)(h3:f 3=.bool b)(Q:Exit→St→Prop)
include hP m1 h1 h3

theorem QPg (ha:f 7=.int .i64 0)(hrow:∀s∈[12,8],(fr s).isRow=false)(hx:∀f fr,f 1=.ptr 0 1 0→f 3=.bool (b&&P.enums.all Jq)→Q (.exit 4) (⟨f,[fr],[]⟩:St)):QG Tryz.prog (.loop Tt) ⟨f,[fr],[]⟩ Q:=by
 let I:Nat→St→Prop:=fun k st=>∃f fr i,st=⟨f,[fr],[]⟩∧k=P.enums.length-i∧i≤P.enums.length∧f 1=.ptr 0 1 0∧f 3=.bool (b&&(P.enums.take i).all Jq)∧f 7=.int .i64 (i:Nat)∧fr 1=.cells (Pc P)∧∀s∈[12,8],(fr s).isRow=false
 refine Qd I _ ⟨f,fr,0,rfl,rfl,QUv _,h1,by rw[h3];simp,ha,m1,hrow⟩ ?_;clear h1 h3 ha m1 hrow;rintro _ st ⟨f0,fr0,i,rfl,rfl,hi,h10,h30,ha0,m10,hr⟩;refine QK (a:=_) [12,8] hr ?_;intro f fr hf hm hn;have h1:f 1=.ptr 0 1 0:=by rw[hf,h10]<;>rfl
 have h3:f 3=.bool (b&&(P.enums.take i).all Jq):=by rw[hf,h30]<;>rfl
 have ha:f 7=.int .i64 (i:Nat):=by rw[hf,ha0]<;>rfl
 have m1:fr 1=.cells (Pc P):=by rw[hm 1 (by decide),m10]<;>rfl
 have n12:=hn 12 (by decide);have n8:=hn 8 (by decide);clear hf hm hn h10 h30 ha0 m10 hr;have m1':=m1;simp only[Pc]at m1;simp only[QVh,h1,m1,ha,eE,seval];by_cases hlt:i<P.enums.length
 ·obtain⟨x,hg⟩:∃x,P.enums[i]? = some x:=⟨P.enums[i],QUo hlt⟩;have hgm:(P.enums.map Qq)[i]? = some (.agg x.cells):=by simp[hg,Qq]
  have e1:=Qm i _ hlt hP.len2;have ht:=Q6 (q:=Jq) hg;have hq:(b&&(P.enums.take (i+1)).all Jq)=((b&&(P.enums.take i).all Jq&&(UE x&&x.items.all (Ym x)))&&(x.free.all GP&&XV x.free Ul)):=by
   rw[ht];unfold Jq;cases b<;>cases(P.enums.take i).all _<;>cases x.free.all GP<;>cases XV x.free Ul<;>cases UE x<;>cases x.items.all (Ym x)<;>rfl
  have hxo:=hP.enums x (QUA hg);simp only[PE.cells]at hgm;simp only[Ql hlt,Qh,QVN,Qb,hgm,n8,h1,m1,ha,eE,seval];refine PM x hxo.len1 hxo.len2 _ (b&&(P.enums.take i).all Jq) i _ (by exact h1) (by exact h3) (by exact ha) (by rfl) (by rfl) _ (by rfl) (fun f h1 h3 ha h8=>?_);simp only[Qa,seval];refine PP x hxo.len2 P _ _ i _ (by exact h1) (by exact h3) (by exact ha) (by exact h8) (by exact m1') (by rfl) _ (by rfl) (fun s hs=>by simp at hs;subst hs;rw[QR _ _ (by decide)];first|rw[n12];rfl|(rw[QR _ _ (by decide),n12];rfl)) (fun f fr h1 h3 ha m1 hr=>?_);simp only[ha,e1,Qa,seval];exact⟨P.enums.length-(i+1),by omega,_,fr,i+1,rfl,rfl,by omega,(by exact h1),by rw[hq]<;>first|exact h3|simp only[h3,eE,seval],(by rfl),m1,hr⟩
 ·have hf:(P.enums.take i).all Jq=P.enums.all Jq:=by rw[QUV (by omega)]
  rw[hf]at h3;simp only[Qx hlt,Qa,seval];exact hx _ _ (by exact h1) (by exact h3)

end

theorem z40 {M:Nat}(P:PL)(hP:P.ok M):Qk Tryz.prog 40 [P.av] (.bool (GQ P)):=by
 have e0:P.av=.agg [.list (P.progs.map Qi),.list (P.enums.map Qq)]:=rfl;refine k40.fn (by simp) ?_;simp only[e0,eE,seval];refine QPf P hP _ (by rfl) _ true (by rfl) (by rfl) _ (by rfl) (fun f h1 h3=>?_);simp only[Qa,seval];refine QPg P hP _ (by rfl) _ _ (by exact h1) (by exact h3) _ (by rfl) (fun s hs=>by simp at hs;rcases hs with rfl|rfl<;>rfl) (fun f fr h1 h3=>?_);simp only[h3,GQ,QVZ,Qa,seval]

section
variable (k kd:Int)(b:Nat)(t:List UInt8)(l p s r:List AV)(ht:t.length+8≤maxLen)

include ht in
theorem QPh:Qk Tryz.prog 202 [.int .i64 k,vo kd b t l p s r] (.bool (Xl k kd b t l p s r)):=by
 have hl:=y81 kd b t l p s r;simp only[vo]at hl;have n1:(kd != k)=!(kd==k):=rfl;have n2:(t != [])=!(t==[]):=rfl;refine Qs8.fn (by simp) ?_;simp only[vo,Xl,eE,seval];refine aC (TQ k) ?_;cases hk:isk k
 ·simp only[QVt,QVQ,Qa,seval]
 simp only[n1,QV0,QVZ,eE,seval];cases a1:(kd==k)
 ·simp only[QVt,QVQ,Qa,seval]
 have e:kd=k:=by simpa using a1
 subst e;simp only[QV0,QVZ,eE,seval];refine aC hl ?_;cases W7 l p s r
 ·simp only[QVt,QVQ,Qa,seval]
 simp only[QV0,QVZ,Qa,seval];refine aC (HE kd) ?_;cases tx:Zb kd
 ·simp only[QUG,QH,eE,seval];cases a2:(t==[])
  ·simp only[QVt,QVQ,Qa,seval]
  have e:t=[]:=by simpa using a2
  subst e;have k7:(kd != 7)=true:=by
   simp only[Zb,QVf,QV4]at tx;simp[tx.1]
  have d0:decide (((0:Nat):Int)≤4096)=true:=rfl;simp only[k7,QVi,QV0,QVZ,QVz,QV2,Qa,seval];unfold YT;by_cases h1:kd=1
  ·subst h1;have b1:((1:Int)==1)=true:=rfl;simp only[b1,eE,seval]
  ·have b1:(kd==1)=false:=by simp[h1]
   by_cases h2:kd=2
   ·subst h2;have b2:((2:Int)==2)=true:=rfl;simp only[b1,b2,h1,eE,seval];cases hd:decide (IntKind.i64.wrap (b:Int)≥-2147483648)<;>simp only[QVZ,QVQ,Qa,seval]
   ·have b2:(kd==2)=false:=by simp[h2]
    by_cases h4:kd=4
    ·subst h4;have b4:((4:Int)==4)=true:=rfl;simp only[b1,b2,b4,h1,h2,eE,seval]
    ·have b4:(kd==4)=false:=by simp[h4]
     by_cases h9:kd=9
     ·subst h9;have b9:((9:Int)==9)=true:=rfl;simp only[b1,b2,b9,b4,h1,h2,h4,eE,seval]
     ·have b9:(kd==9)=false:=by simp[h9]
      simp only[b1,b2,b9,b4,h1,h2,h4,h9,Qa,seval]
 ·simp only[eE,seval];cases a2:((b:Int)==0)
  ·simp only[QVQ,Qa,seval]
  have hfn:YT kd b=true:=by
   simp only[Zb,QUr,QUt]at tx;rcases tx with rfl|rfl<;>rfl
  cases a3:decide ((t.length:Int)≤4096)
  ·simp only[a3,hfn,QVQ,QWk,eE,seval]
  simp only[Zb,QUr,QUt]at tx;rcases tx with rfl|rfl
  ·have c8:((7:Int)==8)=false:=rfl;have c7:((7:Int) != 7)=false:=rfl;simp only[a3,c8,c7,hfn,QVZ,QV3,eE,seval];refine aC (Cz t ht) ?_;simp only[Qa,seval]
  ·have c8:((8:Int)==8)=true:=rfl;have c7:((8:Int) != 7)=true:=rfl;simp only[a3,c8,c7,hfn,QV2,eE,seval]

end

section
variable {M:Nat}(P:PL)(hP:P.ok M)(k tg kd:Int)(b:Nat)(t:List UInt8)(l p s r:List AV)(ht:t.length+8≤maxLen)(hs:s.length≤140737488351232)(hr:r.length≤140737488351232)

include hP ht hs hr in
theorem QPi:Qk Tryz.prog 129 [P.av,.int .i64 k,.int .i64 tg,vo kd b t l p s r] (.int .i64 (WC P k tg kd b t l p s r)):=by
 have e0:P.av=.agg [.list (P.progs.map Qi),.list (P.enums.map Qq)]:=rfl;have ho:=z43 kd b t l p s r hs hr;have hf:=QPh k kd b t l p s r ht;have ha:=y76 P hP tg b;simp only[vo]at ho hf;simp only[e0]at ha;refine QKM.fn (by simp) ?_;simp only[e0,vo,WC,eE,seval];cases a1:(kd != k)
 ·simp only[QV3,eE,seval];refine aC ho ?_;cases oth kd b t l p s r
  ·simp only[QUG,eE,seval];cases a2:decide ((t.length:Int) > 4096)
   ·simp only[QUG,Qa,seval];cases a3:(k==7)
    ·simp only[QVQ,QUG,eE,seval];refine aC hf ?_;cases Xl k kd b t l p s r
     ·simp only[QVt,Qa,seval]
     ·simp only[QV0,QUG,Qa,seval];cases a4:(k==9)
      ·simp only[QVQ,QUG,Qa,seval]
      ·simp only[QVZ,eE,seval];refine aC ha ?_;cases Z0 P.enums tg b<;>simp only[QVt,QV0,QUG,Qa,seval]
    ·simp only[QVZ,eE,seval];refine aC (Cz t ht) ?_;cases UG t
     ·simp only[QVt,Qa,seval]
     ·have a4:(k==9)=false:=by
       rw[QUt]at a3;subst a3;rfl
      simp only[QV0,QUG,eE,seval];refine aC hf ?_;cases Xl k kd b t l p s r
      ·simp only[QVt,Qa,seval]
      ·simp only[QV0,a4,QVQ,QUG,Qa,seval]
   ·simp only[Qa,seval]
  ·simp only[Qa,seval]
 ·simp only[QV2,Qa,seval]

end

def kv (k:Int)(b:Nat)(t:List UInt8):AV:=.agg [.int .i64 k,.int .u64 (b:Nat),.str t,.list [],.list [],.list [],.list []]
def X8 (k:Int):Prop:=(1≤k∧k≤5)∨k=7

theorem X8.isk {k:Int}(h:X8 k):isk k=true:=by
 rcases h with h|rfl
 ·simp[Va.isk];omega
 ·rfl

theorem GX:∀s:List UInt8,Op.bytesLess s s=false
 | []=>rfl
 |a :: l=>by simp[Op.bytesLess,GX l]

theorem Qwy (a:Int):Qk Tryz.prog 192 [.int .i64 a] (.bool false):=by
 refine QhQ.fn (by simp) ?_;simp only[bne_self_eq_false,Qa,seval]

theorem Qwz (a:Int):Qk Tryz.prog 293 [.int .u64 a] (.bool false):=by
 refine QNA.fn (by simp) ?_;simp only[bne_self_eq_false,Qa,seval]

theorem QwA (a:List UInt8):Qk Tryz.prog 292 [.str a] (.bool false):=by
 have e:QH .neq a a=some (.bool false):=by simp[QH]
 refine QNx.fn (by simp) ?_;simp only[e,Qa,seval]

def cN (a b:Int):Int:=if a<b then -1 else if b<a then 1 else 0
theorem Ha {a b:Int}:cN a b=0↔a=b:=by
 unfold cN;split
 ·omega
 ·split<;>omega

theorem CN (a b:Int):Qk Tryz.prog 101 [.int .i64 a,.int .i64 b] (.int .i64 (cN a b)):=by
 refine QcE.fn (by simp) ?_;simp only[Qa,seval];refine aC (Qwy a) ?_;simp only[Qa,seval];refine aC (Qwy b) ?_;simp only[Qa,seval];by_cases h1:a<b
 ·have d1:decide (a<b)=true:=by simpa using h1
  simp only[d1,cN,QUQ h1,Qa,seval]
 ·have d1:decide (a<b)=false:=by simpa using h1
  by_cases h2:b<a
  ·have d2:decide (a > b)=true:=by simpa using h2
   simp only[d1,d2,cN,QUB h1,QUQ h2,Qa,seval]
  ·have d2:decide (a > b)=false:=by simpa using h2
   simp only[d1,d2,cN,QUB h1,QUB h2,Qa,seval]

theorem QPj (a b:Int):Qk Tryz.prog 281 [.int .u64 a,.int .u64 b] (.int .i64 (cN a b)):=by
 refine QNr.fn (by simp) ?_;simp only[Qa,seval];refine aC (Qwz a) ?_;simp only[Qa,seval];refine aC (Qwz b) ?_;simp only[Qa,seval];by_cases h1:a<b
 ·have d1:decide (a<b)=true:=by simpa using h1
  simp only[d1,cN,QUQ h1,Qa,seval]
 ·have d1:decide (a<b)=false:=by simpa using h1
  by_cases h2:b<a
  ·have d2:decide (a > b)=true:=by simpa using h2
   simp only[d1,d2,cN,QUB h1,QUQ h2,Qa,seval]
  ·have d2:decide (a > b)=false:=by simpa using h2
   simp only[d1,d2,cN,QUB h1,QUB h2,Qa,seval]

def cS (a b:List UInt8):Int:=if Op.bytesLess a b=true then -1 else if a==b then 0 else 1
theorem Vy {a b:List UInt8}:cS a b=0↔a=b:=by
 unfold cS
 constructor
 ·intro h;split at h
  ·omega
  ·split at h
   ·rename_i h2;simpa using h2
   ·omega
 ·rintro rfl;simp[GX]

theorem QPk (a b:List UInt8):Qk Tryz.prog 280 [.str a,.str b] (.int .i64 (cS a b)):=by
 refine QNo.fn (by simp) ?_;simp only[Qa,seval];refine aC (QwA a) ?_;simp only[Qa,seval];refine aC (QwA b) ?_;simp only[QH,cS,Qa,seval];cases h1:Op.bytesLess a b
 ·cases h2:(a==b)<;>simp only[QH,h1,h2,QV3,QV0,QVt,QUG,Qa,seval]
 ·simp only[Qa,seval]

def Hw (k:Int)(a:Nat)(s:List UInt8)(b:Nat)(t:List UInt8):Int :=
 if Zb k=true then cS s t else if (k==2||k==3)=true then cN (IntKind.i64.wrap (a:Int)) (IntKind.i64.wrap (b:Int))else cN (a:Int) (b:Int)

theorem QPl (k:Int)(hk:X8 k)(a b:Nat)(s t:List UInt8):Qk Tryz.prog 256 [kv k a s,kv k b t] (.int .i64 (Hw k a s b t)):=by
 have hi:=hk.isk;have k6:(k==6)=false:=by
  rcases hk with h|rfl
  ·simp;omega
  ·rfl
 refine QM3.fn (by simp) ?_;simp only[kv,Hw,bne_self_eq_false,eE,seval];refine aC (BD k) ?_;simp only[hi,eE,seval];refine aC (Qv1 k) ?_;cases h1:Zb k
 ·simp only[QUG,eE,seval];cases h2:(k==2)
  ·cases h3:(k==3)
   ·simp only[h3,k6,QWl,QUG,eE,seval];refine aC (QPj _ _) ?_;simp only[Qa,seval]
   ·simp only[h3,QV3,eE,seval];refine aC (CN _ _) ?_;simp only[Qa,seval]
  ·simp only[QV2,eE,seval];refine aC (CN _ _) ?_;simp only[Qa,seval]
 ·simp only[eE,seval];refine aC (QPk s t) ?_;simp only[Qa,seval]

theorem QwB (k:Int)(hk:X8 k)(b:Nat)(t:List UInt8):Qk Tryz.prog 255 [kv k b t] (.iface 238 (kv k b t)):=by
 have hi:=hk.isk;refine QM0.fn (by simp) ?_;simp only[kv,eE,seval];refine aC (BD k) ?_;simp only[hi,eE,seval]

theorem QwC (k:Int)(hk:X8 k)(a b:Nat)(s t:List UInt8):Qk Tryz.prog 231 [kv k a s,kv k b t] (.int .i64 (Hw k a s b t)):=by
 have h1:=QwB k hk a s;have h2:=QwB k hk b t;have h3:=QPl k hk a b s t;simp only[kv]at h1 h2 h3;refine QMv.fn (by simp) ?_;simp only[kv,bne_self_eq_false,eE,seval];refine aC h2 ?_;simp only[eE,seval];refine aC h1 ?_;simp only[eE,seval];refine aC h3 ?_;simp only[Qa,seval]

theorem QwD (k:Int)(hk:X8 k)(a b:Nat)(s t:List UInt8):Qk Tryz.prog 232 [kv k a s,kv k b t] (.bool (Hw k a s b t==0)):=by
 have h1:=QwC k hk a b s t;simp only[kv]at h1;refine QMy.fn (by simp) ?_;simp only[kv,eE,seval];refine aC h1 ?_;simp only[Qa,seval]

def Kn (k:Int)(b:Nat):Int:=if (k==2||k==3)=true then IntKind.u64.wrap ((b:Int)+9223372036854775808)else(b:Int)

theorem QPm (k:Int):Qk Tryz.prog 238 [.int .i64 k] (.bool (k==2||k==3)):=by
 refine QMC.fn (by simp) ?_;simp only[Qa,seval];cases h:(k==2)<;>simp only[QV2,QV3,Qa,seval]

theorem QwE (k:Int)(k6:(k != 6)=true)(b:Nat)(t:List UInt8):Qk Tryz.prog 206 [kv k b t] (.int .u64 (Kn k b)):=by
 refine QL4.fn (by simp) ?_;simp only[kv,eE,seval];refine aC (QPm k) ?_;unfold Kn;cases h1:(k==2||k==3)
 ·simp only[k6,QUG,eE,seval]
 ·simp only[eE,seval]

def UN (k:Int)(a:Nat)(s:List UInt8)(b:Nat)(t:List UInt8):Int:=if Zb k=true then cS s t else cN (Kn k a) (Kn k b)

theorem QPn (k:Int)(hk:X8 k)(a b:Nat)(s t:List UInt8):Qk Tryz.prog 136 [kv k a s,kv k b t] (.int .i64 (UN k a s b t)):=by
 have hi:=hk.isk;have k6:(k != 6)=true:=by
  rcases hk with h|rfl
  ·simp;omega
  ·rfl
 have d1:decide (k<k)=false:=by simp
 have d2:decide (k > k)=false:=by simp
 have hr:=QwE k k6 a s;have hq:=QwE k k6 b t;simp only[kv]at hr hq;refine QKS.fn (by simp) ?_;simp only[kv,UN,d1,eE,seval];refine aC (TQ k) ?_;simp only[hi,eE,seval];refine aC (HE k) ?_;cases h2:Zb k
 ·simp only[QUG,eE,seval];refine aC (HE k) ?_;simp only[h2,eE,seval];refine aC (HE k) ?_;simp only[h2,eE,seval];refine aC hr ?_;simp only[eE,seval];refine aC hq ?_;simp only[Qa,seval];by_cases c1:Kn k a<Kn k b
  ·have e1:decide (Kn k a<Kn k b)=true:=QWi c1;simp only[e1,cN,QUQ c1,Qa,seval]
  ·have e1:decide (Kn k a<Kn k b)=false:=QWb c1;simp only[e1,cN,QUB c1,eE,seval];refine aC hr ?_;simp only[eE,seval];refine aC hq ?_;by_cases c2:Kn k b<Kn k a
   ·have e2:decide (Kn k a > Kn k b)=true:=QWi c2;simp only[e2,QUQ c2,Qa,seval]
   ·have e2:decide (Kn k a > Kn k b)=false:=QWb c2;simp only[e2,QUB c2,Qa,seval]
 ·simp only[QH,cS,eE,seval];cases h1:Op.bytesLess s t
  ·simp only[QUG,eE,seval];refine aC (HE k) ?_;cases h3:(s==t)
   ·simp only[h1,h2,h3,QH,QV3,QVt,QUG,eE,seval]
   ·simp only[h1,h2,h3,QH,QV3,QV0,eE,seval];refine aC (HE k) ?_;simp only[h2,Qa,seval]
  ·simp only[Qa,seval]

theorem v78 (k:Int)(hk:X8 k)(a b:Nat)(s t:List UInt8):Qk Tryz.prog 78 [kv k a s,kv k b t] (.int .i64 (UN k a s b t)):=by
 have b1:(k==11)=false:=by rcases hk with h|rfl<;>simp<;>omega
 have b2:(k==12)=false:=by rcases hk with h|rfl<;>simp<;>omega
 have b3:(k==10)=false:=by rcases hk with h|rfl<;>simp<;>omega
 have hr:=QPn k hk a b s t;simp only[kv]at hr;refine k78.fn (by simp) ?_;simp only[kv,bne_self_eq_false,b1,b2,b3,eE,seval];refine aC hr ?_;simp only[Qa,seval]

theorem QPo (k:Int)(hk:X8 k)(a b:Nat)(s t:List UInt8):Qk Tryz.prog 130 [kv k a s,kv k b t] (.bool (UN k a s b t==0)):=by
 have hr:=v78 k hk a b s t;simp only[kv]at hr;refine QKP.fn (by simp) ?_;simp only[kv,eE,seval];refine aC hr ?_;simp only[Qa,seval]

theorem ZL {v:V}{P:PL}{k tg:Int}(h:v.one P k tg=0):v.av=kv k v.bits v.text∧(Zb k=true→(v.bits:Int)=0)∧(Zb k=false→v.text=[]):=by
 obtain⟨h1,_,h3⟩:=Yv h;rw[YX,h1];rw[h1]at h3;unfold Xl W7 at h3;simp only[QUL,QUt]at h3;obtain⟨⟨⟨⟨⟨_,⟨⟨⟨e1,e2⟩,e3⟩,e4⟩⟩,h4⟩,_⟩,_⟩,_⟩:=h3;have f1:=QWr.1 (Int.ofNat_eq_zero.1 e1);have f2:=QWr.1 (Int.ofNat_eq_zero.1 e2);have f3:=QWr.1 (Int.ofNat_eq_zero.1 e3);have f4:=QWr.1 (Int.ofNat_eq_zero.1 e4);rw[f1,f2,f3,f4];refine⟨rfl,fun ht=>?_,fun ht=>?_⟩
 ·rw[QUQ ht]at h4;simpa using h4
 ·rw[QUB (by simp[ht])]at h4;simpa using h4

theorem Vz {x y:V}{P:PL}{k tg:Int}(_hk:X8 k)(hx:x.one P k tg=0)(hy:y.one P k tg=0)(bx:x.bits<18446744073709551616)(bY:y.bits<18446744073709551616):(Hw k x.bits x.text y.bits y.text==0)=Zw x y:=by
 obtain⟨_,x1,x2⟩:=ZL hx;obtain⟨_,y1,y2⟩:=ZL hy;rw[QVg,QUt];unfold Zw Hw;simp only[QUL,QUt];split
 ·rename_i ht;have:=x1 ht;have:=y1 ht;rw[Vy];exact⟨fun h=>⟨by omega,h⟩,fun h=>h.2⟩
 ·rename_i ht;have ht:Zb k=false:=by simpa using ht
  rw[x2 ht,y2 ht];split
  ·rw[Ha,QF,QF];exact⟨fun h=>⟨by omega,rfl⟩,fun h=>by rw[h.1]⟩
  ·rw[Ha];exact⟨fun h=>⟨by omega,rfl⟩,fun h=>by rw[h.1]⟩

theorem VA {x y:V}{P:PL}{k tg:Int}(_hk:X8 k)(hx:x.one P k tg=0)(hy:y.one P k tg=0)(bx:x.bits<18446744073709551616)(bY:y.bits<18446744073709551616):(UN k x.bits x.text y.bits y.text==0)=Zw x y:=by
 obtain⟨_,x1,x2⟩:=ZL hx;obtain⟨_,y1,y2⟩:=ZL hy;rw[QVg,QUt];unfold Zw UN;simp only[QUL,QUt];split
 ·rename_i ht;have:=x1 ht;have:=y1 ht;rw[Vy];exact⟨fun h=>⟨by omega,h⟩,fun h=>h.2⟩
 ·rename_i ht;have ht:Zb k=false:=by simpa using ht
  rw[x2 ht,y2 ht];unfold Kn;split
  ·rw[Ha,Wz,Wz];exact⟨fun h=>⟨by omega,rfl⟩,fun h=>by rw[h.1]⟩
  ·rw[Ha];exact⟨fun h=>⟨by omega,rfl⟩,fun h=>by rw[h.1]⟩

open Up

def vc (x:V):List AV:=[.int .i64 x.kd,.int .u64 (x.bits:Nat),.str x.text,.list (x.list.map V.av),.list (x.pairs.map V.pav),.list (x.slots.map V.sav),.list (x.raws.map R.av)]
theorem Qr (x:V):x.av=.agg [.int .i64 x.kd,.int .u64 (x.bits:Nat),.str x.text,.list (x.list.map V.av),.list (x.pairs.map V.pav),.list (x.slots.map V.sav),.list (x.raws.map R.av)]:=by
 rw[V.av,V.eta]
theorem Z5 (p:V×V):V.pav p=.agg [.int .i64 p.1.kd,.int .u64 (p.1.bits:Nat),.str p.1.text,.list (p.1.list.map V.av),.list (p.1.pairs.map V.pav),.list (p.1.slots.map V.sav),.list (p.1.raws.map R.av),.int .i64 p.2.kd,.int .u64 (p.2.bits:Nat),.str p.2.text,.list (p.2.list.map V.av),.list (p.2.pairs.map V.pav),.list (p.2.slots.map V.sav),.list (p.2.raws.map R.av)]:=by
 rw[V.pav,V.eta,V.eta];rfl
theorem ZS (s:Int×V):V.sav s=.agg [.int .i64 s.1,.int .i64 s.2.kd,.int .u64 (s.2.bits:Nat),.str s.2.text,.list (s.2.list.map V.av),.list (s.2.pairs.map V.pav),.list (s.2.slots.map V.sav),.list (s.2.raws.map R.av)]:=by
 rw[V.sav,V.eta]
theorem WH {l:List V}{i:Nat}{x:V}(h:l[i]? = some x):(l.map V.av)[i]? = some (.agg [.int .i64 x.kd,.int .u64 (x.bits:Nat),.str x.text,.list (x.list.map V.av),.list (x.pairs.map V.pav),.list (x.slots.map V.sav),.list (x.raws.map R.av)]):=by
 rw[QVJ,h,QVd,Qr]
theorem ZT {l:List (V×V)}{i:Nat}{p:V×V}(h:l[i]? = some p):(l.map V.pav)[i]? = some (.agg [.int .i64 p.1.kd,.int .u64 (p.1.bits:Nat),.str p.1.text,.list (p.1.list.map V.av),.list (p.1.pairs.map V.pav),.list (p.1.slots.map V.sav),.list (p.1.raws.map R.av),.int .i64 p.2.kd,.int .u64 (p.2.bits:Nat),.str p.2.text,.list (p.2.list.map V.av),.list (p.2.pairs.map V.pav),.list (p.2.slots.map V.sav),.list (p.2.raws.map R.av)]):=by
 rw[QVJ,h,QVd,Z5]
theorem Jv {l:List (Int×V)}{i:Nat}{s:Int×V}(h:l[i]? = some s):(l.map V.sav)[i]? = some (.agg [.int .i64 s.1,.int .i64 s.2.kd,.int .u64 (s.2.bits:Nat),.str s.2.text,.list (s.2.list.map V.av),.list (s.2.pairs.map V.pav),.list (s.2.slots.map V.sav),.list (s.2.raws.map R.av)]):=by
 rw[QVJ,h,QVd,ZS]

structure UO (P:PL)(o:PO):Prop where
 tgt:o.kind=10→0≤o.target∧o.target<(P.progs.length:Int)
 enm:o.kind=9→0≤o.target∧o.target<(P.enums.length:Int)
 key:o.card=5→X8 o.key
def Yy (P:PL):Prop:=∀g∈P.progs,∀o∈g.ops,UO P o

theorem Jw {P:PL}(h:ck P=0):Yy P:=by
 unfold ck at h;split at h
 ·omega
 split at h
 ·omega
 split at h
 ·omega
 split at h
 ·omega
 split at h
 ·omega
 split at h
 ·omega
 rename_i ha;have ha:args P=true:=by simpa using ha
 intro g hg o ho;unfold args at ha;simp only[QUL,QUz]at ha;have h1:=ha.1 g hg;unfold Jd at h1;simp only[QUL,QUz]at h1;have h2:=(h1.2 o ho).1;unfold Zg at h2;simp only[QUL,QUs]at h2;obtain⟨⟨_,hk⟩,hm⟩:=h2;refine⟨fun h=>?_,fun h=>?_,fun h=>?_⟩
 ·unfold GS at hm;rw[QUQ h]at hm;simp only[QUL,QUs]at hm;exact hm.1
 ·unfold GS at hm;rw[QUB (by omega),QUQ h]at hm;simp only[QUL,QUs]at hm;exact hm
 ·unfold Va.key at hk;rw[QUQ h]at hk;simp only[QUL,QUs,QUN]at hk;unfold X8;omega

section
variable {M:Nat}{P:PL}(hP:P.ok M)(hM:M≤140737488351232){m:PG→V→Int}{lv lv1:Int}(hw:IntKind.i64.wrap (lv+1)=lv1)

include hP in
theorem TW (k tg:Int){v:V}(hv:v.ok M):Qk Tryz.prog 249 [P.av,.int .i64 k,.int .i64 tg,v.av] (.int .i64 (v.one P k tg)):=by
 rw[YX];exact QPb P hP k tg _ _ _ _ _ _ _ (by have:=hv.nl;simp;omega) (by have:=hv.np;simp;omega) (by have:=hv.ns;simp;omega) (by have:=hv.nr;simp;omega)

include hP hM in
theorem TX (k tg:Int){v:V}(hv:v.ok M):Qk Tryz.prog 129 [P.av,.int .i64 k,.int .i64 tg,v.av] (.int .i64 (v.one P k tg)):=by
 rw[YX];exact QPi P hP k tg _ _ _ _ _ _ _ (by have:=hv.text;simp only[maxLen];omega) (by have:=hv.ns;simp;omega) (by have:=hv.nr;simp;omega)

include hP hw in
theorem QPp (hm:∀g∈P.progs,∀v:V,v.ok M→Qk Tryz.prog 58 [P.av,Qi g,v.av,.int .i64 lv1] (.int .i64 (m g v)))(o:PO)(ho:UO P o)(v:V)(hv:v.ok M) :
  Qk Tryz.prog 224 [P.av,Qs o,v.av,.int .i64 lv] (.int .i64 (QN m P o v)):=by
 have e0:P.av=.agg [.list (P.progs.map Qi),.list (P.enums.map Qq)]:=rfl;have h1:=TW hP o.kind o.target hv;rw[e0,Qr]at h1;rw[Qr];refine Qj9.fn (by simp) ?_;simp only[e0,Qs,PO.cells,QN,eE,seval];by_cases hk:o.kind=10
 ·have b:(o.kind==10)=true:=by simp[hk]
  obtain⟨t0,t1⟩:=ho.tgt hk;obtain⟨i,hi⟩:=QV1 t0;have hlt:i<P.progs.length:=by omega
  obtain⟨g,hg⟩:∃g,P.progs[i]? = some g:=⟨P.progs[i],QUo hlt⟩;have hga:(P.progs.map Qi)[i]? = some (.agg g.cells):=by simp[hg,Qi]
  have hq:QL P o.target=g:=by unfold QL;rw[hi,QVN,hg];rfl
  have h2:=hm g (QUA hg) v hv;rw[e0,Qr]at h2;simp only[Qi,PG.cells]at h2;simp only[PG.cells]at hga;rw[QUQ hk,hq];simp only[b,hi,Qh,QVN,Qb,hga,hw,eE,seval];refine aC h2 ?_;simp only[Qa,seval]
 ·have b:(o.kind==10)=false:=by simp[hk]
  rw[QUB hk];simp only[b,eE,seval];refine aC h1 ?_;simp only[Qa,seval]

include hP hM hw in
theorem v75 (hm:∀(t:Int) (g:PG),P.progs[t.toNat]? = some g→0≤t→∀v:V,v.ok M→Qk Tryz.prog 20 [P.av,.int .i64 t,v.av,.int .i64 lv1] (.int .i64 (m g v)))(o:PO)(ho:UO P o)(v:V)(hv:v.ok M) :
  Qk Tryz.prog 75 [P.av,Qs o,v.av,.int .i64 lv] (.int .i64 (QN m P o v)):=by
 have e0:P.av=.agg [.list (P.progs.map Qi),.list (P.enums.map Qq)]:=rfl;have h1:=TX hP hM o.kind o.target hv;rw[e0,Qr]at h1;rw[Qr];refine k75.fn (by simp) ?_;simp only[e0,Qs,PO.cells,QN,eE,seval];by_cases hk:o.kind=10
 ·have b:(o.kind==10)=true:=by simp[hk]
  obtain⟨t0,t1⟩:=ho.tgt hk;obtain⟨g,hg⟩:∃g,P.progs[o.target.toNat]? = some g:=⟨P.progs[o.target.toNat]'(by omega),QUo (by omega)⟩;have hq:QL P o.target=g:=by unfold QL;rw[hg];rfl
  have h2:=hm o.target g hg t0 v hv;rw[e0,Qr]at h2;rw[QUQ hk,hq];simp only[b,hw,eE,seval];refine aC h2 ?_;simp only[Qa,seval]
 ·have b:(o.kind==10)=false:=by simp[hk]
  rw[QUB hk];simp only[b,eE,seval];refine aC h1 ?_;simp only[Qa,seval]

end

section pairs
variable (L:List (V×V))(hl:L.length≤maxLen)(p:V×V→Bool)(c:Nat)(cap:AV)(m:Qo)

def QPq (k:Nat)(st:St):Prop :=
 ∃f i,st=⟨f,Qc :: m,[]⟩∧k=L.length-i∧Q0 p L 0=Q0 p (L.drop i) i∧f 0=.list (L.map V.pav)∧f 1=.fn (.func c) [] [cap.sh]∧f 7=.int .i64 (L.length:Nat)∧f 8=.int .i64 (i:Nat)

include hl in
theorem QPr (hc:∀o∈L,Qg Tryz.prog c [V.pav o,cap.sh] (Qc :: m) fun y m1=>y=.bool (p o)∧m1=Qc :: m) :
  Qg Tryz.prog 276 [.list (L.map V.pav),.fn (.func c) [] [cap]] m fun y m1=>y=.int .i64 (Q0 p L 0)∧m1=m:=by
 refine QNl.go (by simp) ?_;simp only[QVh,Qa,seval];refine Qd (QPq L p c cap m) _ ⟨_,0,rfl,rfl,rfl,(by rfl),(by rfl),(by rfl),(by rfl)⟩ ?_;rintro _ st ⟨f,i,rfl,rfl,hx,h0,h1,h7,h8⟩;simp only[h7,h8,Qa,seval];by_cases hlt:i<L.length
 ·obtain⟨x,hi⟩:∃x,L[i]? = some x:=⟨L[i],QUo hlt⟩;have hcl:=hc x (QUA hi);have hg:=ZT hi;have e1:=Qm i _ hlt hl;rw[Z5]at hcl;simp only[Ql hlt,Qh,QVN,Qb,hg,h0,h1,h8,eE,seval];refine Xf (fa:=[]) (fb:=[cap.sh]) (by rfl) hcl (by simp only[QUT,QVn,QUK,QUJ,Qa,seval]) ?_;rw[Ze p hi]at hx;cases hp:p x
  ·rw[hp]at hx;simp only[QUG,if_false]at hx;simp only[h8,e1,Qa,seval];exact⟨L.length-(i+1),by omega,_,i+1,rfl,rfl,hx,(by exact h0),(by exact h1),(by exact h7),(by rfl)⟩
  ·rw[hp]at hx;simp only[if_true]at hx;simp only[hx,Qa,seval]
 ·have hx':Q0 p L 0 = -1:=by rw[hx,QUY (by omega)];rfl
  simp only[Qx hlt,hx',Qa,seval]

include hl in
theorem QPs (hc:∀o∈L,Qg Tryz.prog c [V.pav o,cap.sh.sh] (Qc :: Qc :: m) fun y m1=>y=.bool (p o)∧m1=Qc :: Qc :: m) :
  Qg Tryz.prog 250 [.list (L.map V.pav),.fn (.func c) [] [cap]] m fun y m1=>y=.bool (L.any p)∧m1=m:=by
 refine QMU.go (by simp) ?_;simp only[Qa,seval];refine Qj (QPr L hl p c cap.sh _ hc) (by simp only[QUT,QVn,Qa,seval]) ?_;simp only[DK,Qa,seval]

end pairs

section slots
variable (L:List (Int×V))(hl:L.length≤maxLen)(p:Int×V→Bool)(c:Nat)(cap:AV)(m:Qo)

def QPt (k:Nat)(st:St):Prop :=
 ∃f i,st=⟨f,Qc :: m,[]⟩∧k=L.length-i∧Q0 p L 0=Q0 p (L.drop i) i∧f 0=.list (L.map V.sav)∧f 1=.fn (.func c) [] [cap.sh]∧f 7=.int .i64 (L.length:Nat)∧f 8=.int .i64 (i:Nat)

include hl in
theorem QPu (hc:∀o∈L,Qg Tryz.prog c [V.sav o,cap.sh] (Qc :: m) fun y m1=>y=.bool (p o)∧m1=Qc :: m) :
  Qg Tryz.prog 182 [.list (L.map V.sav),.fn (.func c) [] [cap]] m fun y m1=>y=.int .i64 (Q0 p L 0)∧m1=m:=by
 refine Qhd.go (by simp) ?_;simp only[QVh,Qa,seval];refine Qd (QPt L p c cap m) _ ⟨_,0,rfl,rfl,rfl,(by rfl),(by rfl),(by rfl),(by rfl)⟩ ?_;rintro _ st ⟨f,i,rfl,rfl,hx,h0,h1,h7,h8⟩;simp only[h7,h8,Qa,seval];by_cases hlt:i<L.length
 ·obtain⟨x,hi⟩:∃x,L[i]? = some x:=⟨L[i],QUo hlt⟩;have hcl:=hc x (QUA hi);have hg:=Jv hi;have e1:=Qm i _ hlt hl;rw[ZS]at hcl;simp only[Ql hlt,Qh,QVN,Qb,hg,h0,h1,h8,eE,seval];refine Xf (fa:=[]) (fb:=[cap.sh]) (by rfl) hcl (by simp only[QUT,QVn,QUK,QUJ,Qa,seval]) ?_;rw[Ze p hi]at hx;cases hp:p x
  ·rw[hp]at hx;simp only[QUG,if_false]at hx;simp only[h8,e1,Qa,seval];exact⟨L.length-(i+1),by omega,_,i+1,rfl,rfl,hx,(by exact h0),(by exact h1),(by exact h7),(by rfl)⟩
  ·rw[hp]at hx;simp only[if_true]at hx;simp only[hx,Qa,seval]
 ·have hx':Q0 p L 0 = -1:=by rw[hx,QUY (by omega)];rfl
  simp only[Qx hlt,hx',Qa,seval]

include hl in
theorem v91 (hc:∀o∈L,Qg Tryz.prog c [V.sav o,cap.sh.sh] (Qc :: Qc :: m) fun y m1=>y=.bool (p o)∧m1=Qc :: Qc :: m) :
  Qg Tryz.prog 91 [.list (L.map V.sav),.fn (.func c) [] [cap]] m fun y m1=>y=.bool (L.any p)∧m1=m:=by
 refine k91.go (by simp) ?_;simp only[Qa,seval];refine Qj (QPu L hl p c cap.sh _ hc) (by simp only[QUT,QVn,Qa,seval]) ?_;simp only[DK,Qa,seval]

end slots

theorem Jb {M:Nat}{v:V}(h:v.ok M):v.bits<18446744073709551616:=by
 have:=Gw h.bits;omega

section
variable {M:Nat}{P:PL}(hP:P.ok M)(hM:M≤140737488351232){m:PG→V→Int}{lv:Int}(o:PO)(ho:UO P o)(h5:o.card=5)(ps:List (V×V))(hn:ps.length≤maxLen)(hk:∀x∈ps,x.1.ok M)(hv:∀x∈ps,x.2.ok M)

theorem QPv {k:Int}(kk:X8 k)(q p:V×V)(hq:q.1.one P k (-1)=0)(hp:p.1.one P k (-1)=0)(bq:q.1.ok M)(bp:p.1.ok M)(frO:Nat→Ob)(hf:∀c,V.pav p=.agg c→frO 10=.cells c) :
  Qg Tryz.prog 251 [V.pav q,.ptr 2 10 0] [Qc,Qc,frO] fun y m1=>y=.bool (Zw q.1 p.1)∧m1=[Qc,Qc,frO]:=by
 have h:=QwD k kk q.1.bits p.1.bits q.1.text p.1.text;have hf:=hf _ (Z5 p);rw[←(ZL hq).1,←(ZL hp).1,Vz kk hq hp (Jb bq) (Jb bp),Qr,Qr]at h;rw[Z5];refine QMX.go (by simp) ?_;simp only[hf,eE,seval];refine aC h ?_;simp only[Qa,seval]

def EnI (m:PG→V→Int)(P:PL)(lv:Int)(o:PO)(ps:List (V×V))(k:Nat)(st:St):Prop :=
 ∃f fr i,st=⟨f,[fr],[]⟩∧k=ps.length-i∧Xd (Kh m P o ps) ps.length 0=Xd (Kh m P o ps) (ps.length-i) i∧(∀j y,j<i→ps[j]? = some y→y.1.one P o.key (-1)=0)∧f 2=.list (ps.map V.pav)∧f 3=.int .i64 lv∧f 4=.ptr 0 4 0∧f 5=.ptr 0 5 0∧f 13=.list (ps.map V.pav)∧f 14=.int .i64 (ps.length:Nat)∧f 15=.int .i64 (i:Nat)∧fr 4=.cells [.list (P.progs.map Qi),.list (P.enums.map Qq)]∧fr 5=.cells o.cells∧∀s∈[10],(fr s).isRow=false

include hP ho h5 hn hk hv in
theorem QPw (hel:∀v:V,v.ok M→Qk Tryz.prog 224 [P.av,Qs o,v.av,.int .i64 lv] (.int .i64 (QN m P o v))) :
  Qk Tryz.prog 225 [P.av,Qs o,.list (ps.map V.pav),.int .i64 lv] (.int .i64 (Xd (Kh m P o ps) ps.length 0)):=by
 have e0:P.av=.agg [.list (P.progs.map Qi),.list (P.enums.map Qq)]:=rfl;have kk:=ho.key h5;refine QMl.fn (by simp) ?_;simp only[e0,Qs,PO.cells,QVh,eE,seval];refine Qd (EnI m P lv o ps) _ ⟨_,_,0,rfl,rfl,rfl,(by intro j y h;omega),(by rfl),(by rfl),(by rfl),(by rfl),(by rfl),(by rfl),(by rfl),(by rfl),(by rfl),by simp<;>rfl⟩ ?_;rintro _ st ⟨f0,fr0,i,rfl,rfl,hx,hks,h20,h30,h40,h50,h130,h140,h150,m40,m50,Fe⟩;refine QK (a:=_) [10] Fe ?_;intro f fr hf hm hn10;have h2:f 2=.list (ps.map V.pav):=by rw[hf,h20]<;>rfl
 have h3:f 3=.int .i64 lv:=by rw[hf,h30]<;>rfl
 have h4:f 4=.ptr 0 4 0:=by rw[hf,h40]<;>rfl
 have h5':f 5=.ptr 0 5 0:=by rw[hf,h50]<;>rfl
 have h13:f 13=.list (ps.map V.pav):=by rw[hf,h130]<;>rfl
 have h14:f 14=.int .i64 (ps.length:Nat):=by rw[hf,h140]<;>rfl
 have h15:f 15=.int .i64 (i:Nat):=by rw[hf,h150]<;>rfl
 have m4:fr 4=.cells [.list (P.progs.map Qi),.list (P.enums.map Qq)]:=by rw[hm 4 (by decide),m40]<;>rfl
 have m5:fr 5=.cells o.cells:=by rw[hm 5 (by decide),m50]<;>rfl
 have n10:=hn10 10 (by decide);clear hf hm hn10 h20 h30 h40 h50 h130 h140 h150 m40 m50 Fe;have m5':=m5;simp only[PO.cells]at m5;simp only[h14,h15,Qa,seval];by_cases hlt:i<ps.length
 ·obtain⟨x,hi⟩:∃x,ps[i]? = some x:=⟨ps[i],QUo hlt⟩;have hxm:=QUA hi;have hg:=ZT hi;have e1:=Qm i _ hlt hn;have hle:(i≤ps.length)=True:=eq_true (by omega);have c1:=TW hP o.key (-1) (hk x hxm);have c2:=hel x.2 (hv x hxm);rw[e0,Qr]at c1 c2;simp only[Qs,PO.cells]at c2;simp only[Ql hlt,Qh,QVN,Qb,hg,n10,h4,h5',h13,h15,m4,m5,eE,seval];refine aC c1 ?_;by_cases hz:x.1.one P o.key (-1)=0
  ·have d0:((0:Int) != 0)=false:=rfl;have hcl:=fun(fr:Nat→Ob) (h10:∀c,V.pav x=.agg c→fr 10=.cells c)=>QPs (ps.take i) (by rw[QVj];omega) (fun q=>Zw q.1 x.1) 251 (.ptr 0 10 0) [fr] fun q hq=>by
    obtain⟨j,hj⟩:=QUy.1 hq;have hlj:=(QUn.1 hj).1;rw[QVj]at hlj;rw[QU0,QUQ (by omega)]at hj;exact QPv kk q x (hks j q (by omega) hj) hz (hk q (QUA hj)) (hk x hxm) fr h10
   simp only[hz,d0,h2,ZA,Zq,Q1,QVW,QVh,Qh,QVN,QUv,QUm,hle,true_or,QVF,←List.map_take,Qa,seval];refine Qj (hcl _ (fun c hc=>by rw[Z5]at hc;cases hc;exact(by rfl))) (by simp only[QUT,QVn,Qa,seval]<;>rfl) ?_;cases ha:(ps.take i).any (fun q=>Zw q.1 x.1)
   ·have he:Kh m P o ps i=QN m P o x.2:=by rw[KE hi,QUQ hz,ha,QUB (by simp)]
    simp only[h3,h4,h5',m4,m5,eE,seval];refine aC c2 ?_;by_cases hy:QN m P o x.2=0
    ·rw[KU hlt (he.trans hy)]at hx;simp only[hy,d0,h15,e1,Qa,seval];refine⟨ps.length-(i+1),by omega,_,_,i+1,rfl,rfl,hx,?_,(by exact h2),(by exact h3),(by exact h4),(by exact h5'),(by exact h13),(by exact h14),(by rfl),(by exact m4),(by exact m5'),by simp<;>rfl⟩;intro j y hj hjy;by_cases e:j=i
     ·subst e;rw[hi]at hjy;cases hjy;exact hz
     ·exact hks j y (by omega) hjy
    ·rw[ZD hlt he hy]at hx;have d1:(QN m P o x.2 != 0)=true:=by simp[hy]
     simp only[d1,hx,Qa,seval]
   ·rw[ZD hlt (v:=9) (by rw[KE hi,QUQ hz,ha,QUQ rfl]) (by decide)]at hx;simp only[hx,Qa,seval]
  ·rw[ZD hlt ((KE hi).trans (QUB hz)) hz]at hx;have d1:(x.1.one P o.key (-1) != 0)=true:=by simp[hz]
   simp only[d1,hx,Qa,seval]
 ·rw[JY hlt]at hx;simp only[Qx hlt,hx,Qa,seval]

theorem PQ {k:Int}(kk:X8 k)(i:Nat)(x:V×V)(hi:ps[i]? = some x)(hz:x.1.one P k (-1)=0)(hks:∀j y,j<i→ps[j]? = some y→y.1.one P k (-1)=0)(hn:ps.length≤maxLen)(hk:∀x∈ps,x.1.ok M)(f:Fr)(fr:Nat→Ob)(lv:Int)(h2:f 2=.list (ps.map V.pav))(h3:f 3=.int .i64 lv)(h4:f 4=.ptr 0 4 0)(h5:f 5=.ptr 0 5 0)(h9:f 9=.int .i64 (i:Nat))(h11:f 11=.int .i64 0)(Q:Exit→St→Prop)
  (q1:(ps.take i).any (fun q=>Zw q.1 x.1)=true→∀f,f 8=.int .i64 9→Q .ret (⟨f,[fr],[]⟩:St))
  (q2:(ps.take i).any (fun q=>Zw q.1 x.1)=false→∀f,f 2=.list (ps.map V.pav)→f 3=.int .i64 lv→f 4=.ptr 0 4 0→f 5=.ptr 0 5 0→f 9=.int .i64 (i:Nat)→Q (.exit 2) (⟨f,[fr],[]⟩:St)) :
  QG Tryz.prog (.loop TK) ⟨f,[fr],[]⟩ Q:=by
 let I:Nat→St→Prop:=fun k st=>∃f j,st=⟨f,[fr],[]⟩∧k=i-j∧j≤i∧(ps.take j).any (fun q=>Zw q.1 x.1)=false∧f 2=.list (ps.map V.pav)∧f 3=.int .i64 lv∧f 4=.ptr 0 4 0∧f 5=.ptr 0 5 0∧f 9=.int .i64 (i:Nat)∧f 11=.int .i64 (j:Nat)
 refine Qd I _ ⟨f,0,rfl,rfl,QUv _,by simp,h2,h3,h4,h5,h9,h11⟩ ?_;clear h2 h3 h4 h5 h9 h11;rintro _ st ⟨f,j,rfl,rfl,hji,ha,h2,h3,h4,h5,h9,h11⟩;have hil:=(QUn.1 hi).1;simp only[h9,h11,Qa,seval];by_cases hlt:j<i
 ·obtain⟨y,hj⟩:∃y,ps[j]? = some y:=⟨ps[j]'(by omega),QUo (by omega)⟩;have hg:=ZT hj;have hgi:=ZT hi;have e1:=Qm j i hlt (by omega);have hy:=hks j y hlt hj;have h:=QPo k kk y.1.bits x.1.bits y.1.text x.1.text;rw[←(ZL hy).1,←(ZL hz).1,VA kk hy hz (Jb (hk y (QUA hj))) (Jb (hk x (QUA hi))),Qr,Qr]at h;have ht:(ps.take (j+1)).any (fun q=>Zw q.1 x.1)=Zw y.1 x.1:=by
   rw[QV6,hj,List.any_append,ha];simp
  simp only[Ql hlt,Qh,QVN,Qb,hg,hgi,h2,h9,h11,QUU,QVu,QU4,eE,seval];refine aC h ?_;cases hq:Zw y.1 x.1
  ·simp only[h11,e1,Qa,seval];exact⟨i-(j+1),by omega,_,j+1,rfl,rfl,by omega,by rw[ht,hq],(by exact h2),(by exact h3),(by exact h4),(by exact h5),(by exact h9),(by rfl)⟩
  ·simp only[Qa,seval];refine q1 ?_ _ (by rfl);refine QWf.2 ⟨y,?_,hq⟩;exact QUA (i:=j) (by rw[QU0,QUQ hlt];exact hj)
 ·have e:j=i:=by omega
  subst e;simp only[Qx hlt,Qa,seval];exact q2 ha _ (by exact h2) (by exact h3) (by exact h4) (by exact h5) (by exact h9)

def QaI (m:PG→V→Int)(P:PL)(lv:Int)(o:PO)(ps:List (V×V))(k:Nat)(st:St):Prop :=
 ∃f fr i,st=⟨f,[fr],[]⟩∧k=ps.length-i∧Xd (Kh m P o ps) ps.length 0=Xd (Kh m P o ps) (ps.length-i) i∧(∀j y,j<i→ps[j]? = some y→y.1.one P o.key (-1)=0)∧f 2=.list (ps.map V.pav)∧f 3=.int .i64 lv∧f 4=.ptr 0 4 0∧f 5=.ptr 0 5 0∧f 9=.int .i64 (i:Nat)∧fr 4=.cells [.list (P.progs.map Qi),.list (P.enums.map Qq)]∧fr 5=.cells o.cells

include hP hM ho h5 hn hk hv in
theorem v74 (hel:∀v:V,v.ok M→Qk Tryz.prog 75 [P.av,Qs o,v.av,.int .i64 lv] (.int .i64 (QN m P o v))) :
  Qk Tryz.prog 74 [P.av,Qs o,.list (ps.map V.pav),.int .i64 lv] (.int .i64 (Xd (Kh m P o ps) ps.length 0)):=by
 have e0:P.av=.agg [.list (P.progs.map Qi),.list (P.enums.map Qq)]:=rfl;have kk:=ho.key h5;refine k74.fn (by simp) ?_;simp only[e0,Qs,PO.cells,eE,seval];refine Qd (QaI m P lv o ps) _ ⟨_,_,0,rfl,rfl,rfl,(by intro j y h;omega),(by rfl),(by rfl),(by rfl),(by rfl),(by rfl),(by rfl),(by rfl)⟩ ?_;rintro _ st ⟨f,fr,i,rfl,rfl,hx,hks,h2,h3,h4,h5',h9,m4,m5⟩;have m5':=m5;simp only[PO.cells]at m5;simp only[QVh,h2,h9,Qa,seval];by_cases hlt:i<ps.length
 ·obtain⟨x,hi⟩:∃x,ps[i]? = some x:=⟨ps[i],QUo hlt⟩;have hxm:=QUA hi;have hg:=ZT hi;have e1:=Qm i _ hlt hn;have c1:=TX hP hM o.key (-1) (hk x hxm);have c2:=hel x.2 (hv x hxm);rw[e0,Qr]at c1 c2;simp only[Qs,PO.cells]at c2;simp only[Ql hlt,Qh,QVN,Qb,hg,QUU,QVu,QU4,h2,h4,h5',h9,m4,m5,eE,seval];refine aC c1 ?_;by_cases hz:x.1.one P o.key (-1)=0
  ·have d0:((0:Int) != 0)=false:=rfl;simp only[hz,d0,Qa,seval];refine PQ ps kk i x hi hz hks hn hk _ _ lv (by exact h2) (by exact h3) (by exact h4) (by exact h5') (by exact h9) (by rfl) _ (fun ha f h8=>?_) (fun ha f h2 h3 h4 h5' h9=>?_)
   ·rw[ZD hlt (v:=9) (by rw[KE hi,QUQ hz,ha,QUQ rfl]) (by decide)]at hx;simp only[hx,h8,Qa,seval]
   ·have he:Kh m P o ps i=QN m P o x.2:=by rw[KE hi,QUQ hz,ha,QUB (by simp)]
    simp only[Qh,QVN,Qb,hg,QUU,QUX,QU4,h2,h3,h4,h5',h9,m4,m5,eE,seval];refine aC c2 ?_;by_cases hy:QN m P o x.2=0
    ·rw[KU hlt (he.trans hy)]at hx;simp only[hy,d0,h9,e1,Qa,seval];refine⟨ps.length-(i+1),by omega,_,_,i+1,rfl,rfl,hx,?_,(by exact h2),(by exact h3),(by exact h4),(by exact h5'),(by rfl),(by exact m4),(by exact m5')⟩;intro j y hj hjy;by_cases e:j=i
     ·subst e;rw[hi]at hjy;cases hjy;exact hz
     ·exact hks j y (by omega) hjy
    ·rw[ZD hlt he hy]at hx;have d1:(QN m P o x.2 != 0)=true:=by simp[hy]
     simp only[d1,hx,Qa,seval]
  ·rw[ZD hlt ((KE hi).trans (QUB hz)) hz]at hx;have d1:(x.1.one P o.key (-1) != 0)=true:=by simp[hz]
   simp only[d1,hx,Qa,seval]
 ·rw[JY hlt]at hx;simp only[Qx hlt,hx,Qa,seval]

end

section
variable {M:Nat}{P:PL}(hP:P.ok M)(hM:M≤140737488351232){m:PG→V→Int}{lv:Int}(o:PO)(ho:UO P o)(v:V)(hv:v.ok M)

include hv in
theorem CO:Qk Tryz.prog 89 [v.av] (.bool v.oth):=by
 rw[YX];exact z89 _ _ _ _ _ _ _ (by have:=hv.ns;simp;omega) (by have:=hv.nr;simp;omega)
include hv in
theorem CP:Qk Tryz.prog 43 [v.av] (.bool v.oth):=by
 rw[YX];exact z43 _ _ _ _ _ _ _ (by have:=hv.ns;simp;omega) (by have:=hv.nr;simp;omega)

def FiI (m:PG→V→Int)(P:PL)(lv:Int)(o:PO)(v:V)(k:Nat)(st:St):Prop :=
 ∃f fr i,st=⟨f,[fr],[]⟩∧k=v.list.length-i∧Xd (YY m P o v.list) v.list.length 0=Xd (YY m P o v.list) (v.list.length-i) i∧f 3=.int .i64 lv∧f 4=.ptr 0 4 0∧f 5=.ptr 0 5 0∧f 24=.list (v.list.map V.av)∧f 25=.int .i64 (v.list.length:Nat)∧f 26=.int .i64 (i:Nat)∧fr 4=.cells [.list (P.progs.map Qi),.list (P.enums.map Qq)]∧fr 5=.cells o.cells∧∀s∈[10],(fr s).isRow=false

include hP ho hv in
theorem QPx (hel:∀v:V,v.ok M→Qk Tryz.prog 224 [P.av,Qs o,v.av,.int .i64 lv] (.int .i64 (QN m P o v))) :
  Qk Tryz.prog 181 [P.av,Qs o,v.av,.int .i64 lv] (.int .i64 (QT m P o v)):=by
 have e0:P.av=.agg [.list (P.progs.map Qi),.list (P.enums.map Qq)]:=rfl;have co:=CO v hv;have ce:=fun h5=>QPw hP o ho h5 v.pairs (by have:=hv.np;simp only[maxLen];omega) hv.keys hv.vals hel
 have cv:=hel v hv;rw[e0,Qr]at cv;rw[Qr]at co;simp only[e0,Qs,PO.cells]at ce cv;rw[Qr];refine Qg1.fn (by simp) ?_;simp only[e0,Qs,PO.cells,eE,seval];unfold QT;by_cases h4:o.card=4
 ·have b4:(o.card==4)=true:=by simp[h4]
  have n5:¬o.card=5:=by omega
  rw[QUB n5,QUQ h4];simp only[b4,eE,seval];cases a1:(v.kd != 11)
  ·simp only[QV3,eE,seval];refine aC co ?_;cases a2:v.oth
   ·simp only[QUG,QVh,eE,seval];refine Qd (FiI m P lv o v) _ ⟨_,_,0,rfl,rfl,rfl,(by rfl),(by rfl),(by rfl),(by rfl),(by rfl),(by rfl),(by rfl),(by rfl),by simp<;>rfl⟩ ?_;rintro _ st ⟨f0,fr0,i,rfl,rfl,hx,h30,h40,h50,h240,h250,h260,m40,m50,Fe⟩;refine QK (a:=_) [10] Fe ?_;intro f fr hf hm hn10;have h3:f 3=.int .i64 lv:=by rw[hf,h30]<;>rfl
    have h4:f 4=.ptr 0 4 0:=by rw[hf,h40]<;>rfl
    have h5:f 5=.ptr 0 5 0:=by rw[hf,h50]<;>rfl
    have h24:f 24=.list (v.list.map V.av):=by rw[hf,h240]<;>rfl
    have h25:f 25=.int .i64 (v.list.length:Nat):=by rw[hf,h250]<;>rfl
    have h26:f 26=.int .i64 (i:Nat):=by rw[hf,h260]<;>rfl
    have m4:fr 4=.cells [.list (P.progs.map Qi),.list (P.enums.map Qq)]:=by rw[hm 4 (by decide),m40]<;>rfl
    have m5:fr 5=.cells o.cells:=by rw[hm 5 (by decide),m50]<;>rfl
    have n10:=hn10 10 (by decide);clear hf hm hn10 h30 h40 h50 h240 h250 h260 m40 m50 Fe;have m5':=m5;simp only[PO.cells]at m5;simp only[h25,h26,Qa,seval];by_cases hlt:i<v.list.length
    ·obtain⟨x,hi⟩:∃x,v.list[i]? = some x:=⟨v.list[i],QUo hlt⟩;have hg:=WH hi;have e1:=Qm i _ hlt (by have:=hv.nl;simp only[maxLen];omega);have c2:=hel x (hv.list x (QUA hi));rw[e0,Qr]at c2;simp only[Qs,PO.cells]at c2;simp only[Ql hlt,Qh,QVN,Qb,hg,n10,h3,h4,h5,h24,h26,m4,m5,eE,seval];refine aC c2 ?_;by_cases hy:QN m P o x=0
     ·rw[KU hlt ((Wo hi).trans hy)]at hx;have d0:((0:Int) != 0)=false:=rfl;simp only[hy,d0,h26,e1,Qa,seval];exact⟨v.list.length-(i+1),by omega,_,_,i+1,rfl,rfl,hx,(by exact h3),(by exact h4),(by exact h5),(by exact h24),(by exact h25),(by rfl),(by exact m4),(by exact m5'),by simp<;>rfl⟩
     ·rw[ZD hlt (Wo hi) hy]at hx;have d1:(QN m P o x != 0)=true:=by simp[hy]
      simp only[d1,hx,Qa,seval]
    ·rw[JY hlt]at hx;simp only[Qx hlt,hx,Qa,seval]
   ·simp only[Qa,seval]
  ·simp only[QV2,Qa,seval]
 ·have b4:(o.card==4)=false:=by simp[h4]
  by_cases h5:o.card=5
  ·have b5:(o.card==5)=true:=by simp[h5]
   rw[QUQ h5];simp only[b4,b5,eE,seval];cases a1:(v.kd != 12)
   ·simp only[QV3,eE,seval];refine aC co ?_;cases a2:v.oth
    ·simp only[QUG,eE,seval];refine aC (ce h5) ?_;simp only[Qa,seval]
    ·simp only[Qa,seval]
   ·simp only[QV2,Qa,seval]
  ·have b5:(o.card==5)=false:=by simp[h5]
   rw[QUB h5,QUB h4];simp only[b4,b5,eE,seval];refine aC cv ?_;simp only[Qa,seval]

def CoI (m:PG→V→Int)(P:PL)(lv:Int)(o:PO)(v:V)(k:Nat)(st:St):Prop :=
 ∃f fr i,st=⟨f,[fr],[]⟩∧k=v.list.length-i∧Xd (YY m P o v.list) v.list.length 0=Xd (YY m P o v.list) (v.list.length-i) i∧f 3=.int .i64 lv∧f 4=.ptr 0 4 0∧f 5=.ptr 0 5 0∧f 6=.ptr 0 6 0∧f 9=.int .i64 (i:Nat)∧fr 4=.cells [.list (P.progs.map Qi),.list (P.enums.map Qq)]∧fr 5=.cells o.cells∧fr 6=.cells (vc v)

include hP hM ho hv in
theorem v46 (hel:∀v:V,v.ok M→Qk Tryz.prog 75 [P.av,Qs o,v.av,.int .i64 lv] (.int .i64 (QN m P o v))) :
  Qk Tryz.prog 46 [P.av,Qs o,v.av,.int .i64 lv] (.int .i64 (QT m P o v)):=by
 have e0:P.av=.agg [.list (P.progs.map Qi),.list (P.enums.map Qq)]:=rfl;have co:=CP v hv;have ce:=fun h5=>v74 hP hM o ho h5 v.pairs (by have:=hv.np;simp only[maxLen];omega) hv.keys hv.vals hel
 have cv:=hel v hv;rw[e0,Qr]at cv;rw[Qr]at co;simp only[e0,Qs,PO.cells]at ce cv;rw[Qr];refine k46.fn (by simp) ?_;simp only[e0,Qs,PO.cells,eE,seval];unfold QT;by_cases h5:o.card=5
 ·have b5:(o.card==5)=true:=by simp[h5]
  rw[QUQ h5];simp only[b5,eE,seval];cases a1:(v.kd != 12)
  ·simp only[QV3,eE,seval];refine aC co ?_;cases a2:v.oth
   ·simp only[QUG,eE,seval];refine aC (ce h5) ?_;simp only[Qa,seval]
   ·simp only[Qa,seval]
  ·simp only[QV2,Qa,seval]
 ·have b5:(o.card==5)=false:=by simp[h5]
  rw[QUB h5];by_cases h4:o.card=4
  ·have b4:(o.card==4)=true:=by simp[h4]
   rw[QUQ h4];simp only[b5,b4,eE,seval];cases a1:(v.kd != 11)
   ·simp only[QV3,eE,seval];refine aC co ?_;cases a2:v.oth
    ·simp only[QUG,Qa,seval];refine Qd (CoI m P lv o v) _ ⟨_,_,0,rfl,rfl,rfl,(by rfl),(by rfl),(by rfl),(by rfl),(by rfl),(by rfl),(by rfl),(by rfl)⟩ ?_;rintro _ st ⟨f,fr,i,rfl,rfl,hx,h3,h4,h5,h6,h9,m4,m5,m6⟩;have m5':=m5;have m6':=m6;simp only[PO.cells]at m5;simp only[vc]at m6;simp only[QVh,h6,h9,m6,eE,seval];by_cases hlt:i<v.list.length
     ·obtain⟨x,hi⟩:∃x,v.list[i]? = some x:=⟨v.list[i],QUo hlt⟩;have hg:=WH hi;have e1:=Qm i _ hlt (by have:=hv.nl;simp only[maxLen];omega);have c2:=hel x (hv.list x (QUA hi));rw[e0,Qr]at c2;simp only[Qs,PO.cells]at c2;simp only[Ql hlt,Qh,QVN,Qb,hg,QUU,QU4,h3,h4,h5,h6,h9,m4,m5,m6,eE,seval];refine aC c2 ?_;by_cases hy:QN m P o x=0
      ·rw[KU hlt ((Wo hi).trans hy)]at hx;have d0:((0:Int) != 0)=false:=rfl;simp only[hy,d0,h9,e1,Qa,seval];exact⟨v.list.length-(i+1),by omega,_,_,i+1,rfl,rfl,hx,(by exact h3),(by exact h4),(by exact h5),(by exact h6),(by rfl),(by exact m4),(by exact m5'),(by exact m6')⟩
      ·rw[ZD hlt (Wo hi) hy]at hx;have d1:(QN m P o x != 0)=true:=by simp[hy]
       simp only[d1,hx,Qa,seval]
     ·rw[JY hlt]at hx;simp only[Qx hlt,hx,Qa,seval]
    ·simp only[Qa,seval]
   ·simp only[QV2,Qa,seval]
  ·have b4:(o.card==4)=false:=by simp[h4]
   rw[QUB h4];simp only[b5,b4,eE,seval];refine aC cv ?_;simp only[Qa,seval]

end

def Yc (g:PG)(sl:List (Int×V))(i:Nat):Int:=match sl[i]? with
 |none=>0
 |some x=>match XH g x.1 with
  |none=>8
  |some o=>if (sl.take i).any (fun y=>y.1==x.1)=true then 9 else if (sl.take i).any (Zy g o)=true then 15 else 0

theorem Qay {m:PG→V→Int}{P:PL}{g:PG}{sl:List (Int×V)}{i:Nat}{x:Int×V}(h:sl[i]? = some x) :
  (Yc g sl i≠0→XG m P g sl i=Yc g sl i)∧(Yc g sl i=0→∃o,XH g x.1=some o∧XG m P g sl i=QT m P o x.2):=by
 unfold Yc XG;rw[h];dsimp only;cases ho:XH g x.1 with
 |none=>exact⟨fun _=>rfl,fun h=>by simp at h⟩
 |some o=>
  dsimp only;cases(sl.take i).any (fun y=>y.1==x.1)
  ·cases(sl.take i).any (Zy g o)
   ·simp
   ·simp
  ·simp

theorem Si {fr:Nat→Ob}{a b:Nat}(h1:(fr a).isRow=false)(h2:(fr b).isRow=false):∀s∈[a,b],(fr s).isRow=false:=by
 intro s hs;simp only[QVI,QWv,or_false]at hs;rcases hs with rfl|rfl
 ·exact h1
 ·exact h2

theorem Zd {g:PG}{n:Int}{o:PO}(h:XH g n=some o):o∈g.ops∧o.num=n:=by
 unfold XH at h;exact⟨QWg h,by simpa using QWh h⟩

theorem KG (g:PG)(n:Int):GL (fun o=>o.num==n) g.ops=.tup [Qs ((XH g n).getD W3),.bool (XH g n).isSome]:=rfl

section
variable {M:Nat}{P:PL}(hP:P.ok M)(hM:M≤140737488351232){m:PG→V→Int}{lv:Int}(g:PG)(hg:g.ok M)(hu:∀o∈g.ops,UO P o)(sl:List (Int×V))(hn:sl.length≤maxLen)(i:Nat)(hi:i<sl.length)(hv:∀x∈sl,x.2.ok M)

theorem QPy (y:Int×V)(o:PO)(frO:Nat→Ob)(hf:frO 11=.cells o.cells) :
  Qg Tryz.prog 180 [V.sav y,.ptr 2 11 0] [Qc,Qc,frO] fun v m1=>v=.bool (y.1==o.num)∧m1=[Qc,Qc,frO]:=by
 simp only[PO.cells]at hf;rw[ZS];refine QgN.go (by simp) ?_;simp only[hf,eE,seval]

def SlI (P:PL)(lv:Int)(g:PG)(o:PO)(sl:List (Int×V))(i:Nat)(k:Nat)(st:St):Prop :=
 ∃f fr j,st=⟨f,[fr],[]⟩∧k=i-j∧j≤i∧(sl.take j).any (Zy g o)=false∧f 2=.list (sl.map V.sav)∧f 3=.int .i64 (i:Nat)∧f 4=.int .i64 lv∧f 5=.ptr 0 5 0∧f 6=.ptr 0 6 0∧f 11=.ptr 0 11 0∧f 36=.list ((sl.take i).map V.sav)∧f 37=.int .i64 (i:Nat)∧f 38=.int .i64 (j:Nat)∧fr 5=.cells [.list (P.progs.map Qi),.list (P.enums.map Qq)]∧fr 6=.cells g.cells∧fr 11=.cells o.cells∧∀s∈[15,14],(fr s).isRow=false

include hg hn hi hv in
theorem v90 (hfi:∀o∈g.ops,∀v:V,v.ok M→Qk Tryz.prog 181 [P.av,Qs o,v.av,.int .i64 lv] (.int .i64 (QT m P o v))) :
  Qk Tryz.prog 90 [P.av,Qi g,.list (sl.map V.sav),.int .i64 (i:Nat),.int .i64 lv] (.int .i64 (XG m P g sl i)):=by
 have e0:P.av=.agg [.list (P.progs.map Qi),.list (P.enums.map Qq)]:=rfl;obtain⟨x,hx⟩:∃x,sl[i]? = some x:=⟨sl[i],QUo hi⟩;have hxm:=QUA hx;have hgi:=Jv hx;have co:=fun n=>TS g hg.len n
 simp only[KG]at co;have co1:=co x.1;have hle:(i≤sl.length)=True:=eq_true (by omega);have hlen:(sl.take i).length=i:=by rw[QVj];omega
 unfold XG;rw[hx];dsimp only;simp only[Qi,PG.cells]at co co1;refine k90.fn (by simp) ?_;simp only[e0,Qi,PG.cells,Qh,QVN,Qb,hgi,QUU,QU4,eE,seval];refine aC co1 ?_;cases ho:XH g x.1 with
 |none=>
  simp only[QVW,QVc,W3,Qs,PO.cells,splice,QVu,QUK,QUX,QVA,QVp,QUC,QVi,QVx,QVy,AV.leaf,eE,seval]
 |some o=>
  obtain⟨hom,hon⟩:=Zd ho;have hcl:=fun(fr:Nat→Ob) (h11:fr 11=.cells o.cells)=>v91 (sl.take i) (by omega) (fun y=>y.1==o.num) 180 (.ptr 0 11 0) [fr] fun y _=>QPy y o fr h11
  rw[hon]at hcl;simp only[PO.cells]at hcl;simp only[QVw,QWc,Qs,PO.cells,splice,QVu,QUK,QUX,QU4,QVA,QVp,QUC,QVi,QVx,QVy,AV.leaf,ZA,Zq,Q1,QVW,QVh,Qh,QVN,QUv,QUm,hle,true_or,QVF,←List.map_take,eE,seval];refine Qj (hcl _ (by rfl)) (by simp only[QUT,QVn,Qa,seval]<;>rfl) ?_;cases ha:(sl.take i).any (fun y=>y.1==x.1)
  ·simp only[QUG,ZA,Zq,Q1,QVW,QVh,Qh,QVN,QUv,QUm,hle,true_or,QVF,←List.map_take,hlen,Qa,seval];refine Qd (SlI P lv g o sl i) _ ⟨_,_,0,rfl,rfl,QUv _,by simp,(by rfl),(by rfl),(by rfl),(by rfl),(by rfl),(by rfl),(by rfl),(by rfl),(by rfl),(by rfl),(by rfl),(by rfl),Si rfl rfl⟩ ?_;rintro _ st ⟨f0,fr0,j,rfl,rfl,hji,hq,h20,h30,h40,h50,h60,h110,h360,h370,h380,m50,m60,m110,r15⟩;refine QK (a:=_) [15,14] r15 ?_;intro f fr hf hm hn15;have h2:f 2=.list (sl.map V.sav):=by rw[hf,h20]<;>rfl
   have h3:f 3=.int .i64 (i:Nat):=by rw[hf,h30]<;>rfl
   have h4:f 4=.int .i64 lv:=by rw[hf,h40]<;>rfl
   have h5:f 5=.ptr 0 5 0:=by rw[hf,h50]<;>rfl
   have h6:f 6=.ptr 0 6 0:=by rw[hf,h60]<;>rfl
   have h11:f 11=.ptr 0 11 0:=by rw[hf,h110]<;>rfl
   have h36:f 36=.list ((sl.take i).map V.sav):=by rw[hf,h360]<;>rfl
   have h37:f 37=.int .i64 (i:Nat):=by rw[hf,h370]<;>rfl
   have h38:f 38=.int .i64 (j:Nat):=by rw[hf,h380]<;>rfl
   have m5:fr 5=.cells [.list (P.progs.map Qi),.list (P.enums.map Qq)]:=by rw[hm 5 (by decide),m50]<;>rfl
   have m6:fr 6=.cells g.cells:=by rw[hm 6 (by decide),m60]<;>rfl
   have m11:fr 11=.cells o.cells:=by rw[hm 11 (by decide),m110]<;>rfl
   have n15:=hn15 15 (by decide);have n14:=hn15 14 (by decide);clear hf hm hn15 h20 h30 h40 h50 h60 h110 h360 h370 h380 m50 m60 m110 r15;have m6':=m6;have m11':=m11;simp only[PG.cells]at m6;simp only[PO.cells]at m11;simp only[h37,h38,Qa,seval];by_cases hlt:j<i
   ·obtain⟨y,hj⟩:∃y,sl[j]? = some y:=⟨sl[j]'(by omega),QUo (by omega)⟩;have hj':(sl.take i)[j]? = some y:=by rw[QU0,QUQ hlt];exact hj
    have hgj:=Jv hj';have e1:=Qm j i hlt (by omega);have co2:=co y.1;have ht:(sl.take (j+1)).any (Zy g o)=Zy g o y:=by
     rw[QV6,hj,List.any_append,hq];simp
    have hun:Zy g o y=(o.union != -1&&(((XH g y.1).getD W3).union==o.union)):=rfl;simp only[Ql hlt,Qh,QVN,Qb,hgj,n14,h6,h36,h38,m6,eE,seval];refine aC co2 ?_;generalize (XH g y.1).getD W3=q at hun;generalize (XH g y.1).isSome=qb;have fin:∀(f':Fr) (fr':Nat→Ob),Zy g o y=false→f' 2=.list (sl.map V.sav)→f' 3=.int .i64 (i:Nat)→f' 4=.int .i64 lv→f' 5=.ptr 0 5 0→f' 6=.ptr 0 6 0→f' 11=.ptr 0 11 0→f' 36=.list ((sl.take i).map V.sav)→f' 37=.int .i64 (i:Nat)→f' 38=.int .i64 ((j+1:Nat):Int)→fr' 5=.cells [.list (P.progs.map Qi),.list (P.enums.map Qq)]→fr' 6=.cells g.cells→fr' 11=.cells o.cells→(∀s∈[15,14],(fr' s).isRow=false)→∃k,k<i-j∧SlI P lv g o sl i k ⟨f',[fr'],[]⟩:=by
     intro f' fr' hu b2 b3 b4 b5 b6 b11 b36 b37 b38 c5 c6 c11 c15;exact⟨i-(j+1),by omega,f',fr',j+1,rfl,rfl,by omega,by rw[ht,hu],b2,b3,b4,b5,b6,b11,b36,b37,b38,c5,c6,c11,c15⟩
    cases a1:(o.union != -1)
    ·rw[a1,QVQ]at hun;simp only[Qs,PO.cells,a1,n15,h11,h38,m11,e1,eE,seval];exact fin _ _ hun (by exact h2) (by exact h3) (by exact h4) (by exact h5) (by exact h6) (by exact h11) (by exact h36) (by exact h37) (by rfl) (by exact m5) (by exact m6') (by exact m11') (Si rfl rfl)
    ·cases a2:(q.union==o.union)
     ·rw[a1,a2,QVZ]at hun;simp only[Qs,PO.cells,a1,a2,n15,h11,h38,m11,e1,eE,seval];exact fin _ _ hun (by exact h2) (by exact h3) (by exact h4) (by exact h5) (by exact h6) (by exact h11) (by exact h36) (by exact h37) (by rfl) (by exact m5) (by exact m6') (by exact m11') (Si rfl rfl)
     ·rw[a1,a2,QVZ]at hun;have hany:(sl.take i).any (Zy g o)=true:=QWf.2 ⟨y,QUA hj',hun⟩;rw[hany];simp only[Qs,PO.cells,a1,a2,n15,h11,m11,eE,seval]
   ·have e:j=i:=by omega
    subst e;have cf:=hfi o hom x.2 (hv x hxm);rw[e0,Qr]at cf;simp only[Qs,PO.cells]at cf;rw[hq];simp only[Qx hlt,QUG,Qh,QVN,Qb,hgi,QUU,QUX,QU4,h2,h3,h4,h5,h11,m5,m11,eE,seval];refine aC cf ?_;simp only[Qa,seval]
  ·simp only[Qa,seval]

def SrI (g:PG)(o:PO)(sl:List (Int×V))(i:Nat)(n:Int)(k:Nat)(st:St):Prop :=
 ∃f fr j,st=⟨f,[fr],[]⟩∧k=i-j∧j≤i∧(sl.take j).any (fun y=>y.1==n)=false∧f 1=.list (sl.map V.sav)∧f 2=.int .i64 (i:Nat)∧f 3=.ptr 0 3 0∧f 7=.ptr 0 7 0∧f 9=.bool ((sl.take j).any (Zy g o))∧f 10=.int .i64 (j:Nat)∧fr 3=.cells g.cells∧fr 7=.cells o.cells∧∀s∈[11],(fr s).isRow=false

include hg hn hi in
theorem v44:Qk Tryz.prog 44 [Qi g,.list (sl.map V.sav),.int .i64 (i:Nat)] (.int .i64 (Yc g sl i)):=by
 obtain⟨x,hx⟩:∃x,sl[i]? = some x:=⟨sl[i],QUo hi⟩;have hxm:=QUA hx;have hgi:=Jv hx;have co:=fun n=>y45 g hg.len n
 simp only[KG]at co;have co1:=co x.1;unfold Yc;rw[hx];dsimp only;simp only[Qi,PG.cells]at co co1;refine k44.fn (by simp) ?_;simp only[Qi,PG.cells,Qh,QVN,Qb,hgi,QUU,QU4,eE,seval];refine aC co1 ?_;cases ho:XH g x.1 with
 |none=>
  simp only[QVW,QVc,W3,Qs,PO.cells,splice,QVu,QUK,QUX,QVA,QVp,QUC,QVi,QVx,QVy,AV.leaf,eE,seval]
 |some o=>
  obtain⟨hom,hon⟩:=Zd ho;simp only[QVw,QWc,Qs,PO.cells,splice,QVu,QUK,QUX,QVA,QVp,QUC,QVi,QVx,QVy,AV.leaf,eE,seval];refine Qd (SrI g o sl i x.1) _ ⟨_,_,0,rfl,rfl,QUv _,by simp,(by rfl),(by rfl),(by rfl),(by rfl),(by rfl),(by rfl),(by rfl),(by rfl),by simp<;>rfl⟩ ?_;rintro _ st ⟨f0,fr0,j,rfl,rfl,hji,hq,h10,h20,h30,h70,h90,h100,m30,m70,JX⟩;refine QK (a:=_) [11] JX ?_;intro f fr hf hm hn11;have h1:f 1=.list (sl.map V.sav):=by rw[hf,h10]<;>rfl
  have h2:f 2=.int .i64 (i:Nat):=by rw[hf,h20]<;>rfl
  have h3:f 3=.ptr 0 3 0:=by rw[hf,h30]<;>rfl
  have h7:f 7=.ptr 0 7 0:=by rw[hf,h70]<;>rfl
  have h9:f 9=.bool ((sl.take j).any (Zy g o)):=by rw[hf,h90]<;>rfl
  have h10':f 10=.int .i64 (j:Nat):=by rw[hf,h100]<;>rfl
  have m3:fr 3=.cells g.cells:=by rw[hm 3 (by decide),m30]<;>rfl
  have m7:fr 7=.cells o.cells:=by rw[hm 7 (by decide),m70]<;>rfl
  have n11:=hn11 11 (by decide);clear hf hm hn11 h10 h20 h30 h70 h90 h100 m30 m70 JX;have m3':=m3;have m7':=m7;simp only[PG.cells]at m3;simp only[PO.cells]at m7;simp only[h2,h10',Qa,seval];by_cases hlt:j<i
  ·obtain⟨y,hj⟩:∃y,sl[j]? = some y:=⟨sl[j]'(by omega),QUo (by omega)⟩;have hj':(sl.take i)[j]? = some y:=by rw[QU0,QUQ hlt];exact hj
   have hgj:=Jv hj;have e1:=Qm j i hlt (by omega);have co2:=co y.1;have ht:∀p:Int×V→Bool,(sl.take (j+1)).any p=((sl.take j).any p||p y):=fun p=>by
    rw[QV6,hj,List.any_append];simp
   have hun:Zy g o y=(o.union != -1&&(((XH g y.1).getD W3).union==o.union)):=rfl;simp only[Ql hlt,Qh,QVN,Qb,hgj,hgi,h1,h2,h10',eE,seval];cases a0:(y.1==x.1)
   ·simp only[Qh,QVN,Qb,hgj,h1,h3,h10',m3,eE,seval];refine aC co2 ?_;generalize (XH g y.1).getD W3=q at hun;generalize (XH g y.1).isSome=qb;have fin:∀(f':Fr) (fr':Nat→Ob) (b:Bool),((sl.take j).any (Zy g o)||Zy g o y)=b→f' 1=.list (sl.map V.sav)→f' 2=.int .i64 (i:Nat)→f' 3=.ptr 0 3 0→f' 7=.ptr 0 7 0→f' 9=.bool b→f' 10=.int .i64 ((j+1:Nat):Int)→fr' 3=.cells g.cells→fr' 7=.cells o.cells→(∀s∈[11],(fr' s).isRow=false)→∃k,k<i-j∧SrI g o sl i x.1 k ⟨f',[fr'],[]⟩:=by
     intro f' fr' b hu b1 b2 b3 b7 b9 b10 c3 c7 c11;exact⟨i-(j+1),by omega,f',fr',j+1,rfl,rfl,by omega,by rw[ht,hq,a0];rfl,b1,b2,b3,b7,by rw[b9,ht,hu],b10,c3,c7,c11⟩
    cases ab:(sl.take j).any (Zy g o)
    ·rw[ab]at h9 fin;cases a1:(o.union != -1)
     ·rw[a1,QVQ]at hun;simp only[Qs,PO.cells,a1,n11,h7,h9,h10',m7,e1,eE,seval];exact fin _ _ false (by rw[hun];rfl) (by exact h1) (by exact h2) (by exact h3) (by exact h7) (by rfl) (by rfl) (by exact m3') (by exact m7') (by simp<;>rfl)
     ·cases a2:(q.union==o.union)
      ·rw[a1,a2,QVZ]at hun;simp only[Qs,PO.cells,a1,a2,n11,h7,h9,h10',m7,e1,eE,seval];exact fin _ _ false (by rw[hun];rfl) (by exact h1) (by exact h2) (by exact h3) (by exact h7) (by rfl) (by rfl) (by exact m3') (by exact m7') (by simp<;>rfl)
      ·rw[a1,a2,QVZ]at hun;simp only[Qs,PO.cells,a1,a2,n11,h7,h9,h10',m7,e1,eE,seval];exact fin _ _ true (by rw[hun];rfl) (by exact h1) (by exact h2) (by exact h3) (by exact h7) (by rfl) (by rfl) (by exact m3') (by exact m7') (by simp<;>rfl)
    ·rw[ab]at h9 fin;simp only[Qs,PO.cells,n11,h9,h10',e1,eE,seval];exact fin _ _ true (by simp) (by exact h1) (by exact h2) (by exact h3) (by exact h7) (by rfl) (by rfl) (by exact m3') (by exact m7') (by simp<;>rfl)
   ·have hany:(sl.take i).any (fun y=>y.1==x.1)=true:=QWf.2 ⟨y,QUA hj',a0⟩;simp only[hany,Qa,seval]
  ·have e:j=i:=by omega
   subst e;simp only[Qx hlt,hq,QUG,h9,Qa,seval];cases hb:(sl.take j).any (Zy g o)
   ·rw[hb]at h9;simp only[QUG,Qa,seval]
   ·rw[hb]at h9;simp only[Qa,seval]

end

def Wg (P:PL)(o:PO)(f:R):Bool:=o.kind==9&&o.card != 5&&f.wire==0&&decide ((f.bits:Int)≤2147483647) && !Z0 P.enums o.target f.bits
theorem Sj (P:PL)(g:PG)(f:R):(!XR P g f)=((XH g f.num).isSome && !Wg P ((XH g f.num).getD W3) f):=by
 unfold XR Wg;cases XH g f.num<;>rfl
def B0 (f:R):Bool:=decide (f.num<1)||decide (f.num > 65535)||decide (f.wire<0)||decide (f.wire > 6)
def B1 (f:R):Bool:=decide (f.wire≤2) && !(f.data==[])||decide (f.wire > 2) && !((f.bits:Int)==0)
def HL (f:R):Bool:=f.wire==3&&decide ((f.data.length:Int) > 4096)||decide ((f.data.length:Int) > 65536)
theorem VB (P:PL)(g:PG)(f:R):Je P g f=if B0 f=true then 1 else if B1 f=true then 1 else if (!XR P g f)=true then 1 else if HL f=true then 3 else 0:=rfl
def Hb (P:PL)(g:PG)(f:R):Bool:=!B0 f && !B1 f&&XR P g f
theorem PR (P:PL)(g:PG)(f:R):Je P g f=if (!Hb P g f)=true then 1 else if HL f=true then 3 else 0:=by
 rw[VB];unfold Hb;cases B0 f<;>cases B1 f<;>cases XR P g f<;>simp

section
variable {M:Nat}{P:PL}(hP:P.ok M)

include hP in
theorem Sk (o:PO)(w:R)(n7 n9:Bool)(f:Fr)(fr:Nat→Ob)(h3:f 3=.ptr 0 3 0)(h5:f 5=.ptr 0 5 0)(h7:f 7=.bool n7)(h8:f 8=.ptr 0 8 0)(h9:f 9=.bool n9)
  (m3:fr 3=.cells [.list (P.progs.map Qi),.list (P.enums.map Qq)]) (m5:fr 5=.cells [.int .i64 w.num,.int .i64 w.wire,.int .u64 (w.bits:Nat),.str w.data]) (m8:fr 8=.cells o.cells) (Q:St→Prop)
  (hQ:∀f,f 5=.ptr 0 5 0→f 7=.bool n7→f 9=.bool n9→f 10=.bool (Wg P o w)→Q ⟨f,[fr],[]⟩):QE Tryz.prog YP ⟨f,[fr],[]⟩ Q:=by
 have e0:P.av=.agg [.list (P.progs.map Qi),.list (P.enums.map Qq)]:=rfl;have ha:=Qwp P hP o.target w.bits;rw[e0]at ha;simp only[PO.cells]at m8;unfold Wg at hQ;cases a1:(o.kind==9)
 ·rw[a1]at hQ;simp only[QVQ]at hQ;simp only[YP,a1,h8,m8,eE,seval];exact hQ _ (by exact h5) (by exact h7) (by exact h9) (by rfl)
 cases a2:(o.card != 5)
 ·rw[a1,a2]at hQ;simp only[QVZ,QVQ]at hQ;simp only[YP,a1,a2,h8,m8,eE,seval];exact hQ _ (by exact h5) (by exact h7) (by exact h9) (by rfl)
 cases a3:(w.wire==0)
 ·rw[a1,a2,a3]at hQ;simp only[QVZ,QVQ]at hQ;simp only[YP,a1,a2,a3,h5,h8,m5,m8,eE,seval];exact hQ _ (by exact h5) (by exact h7) (by exact h9) (by rfl)
 cases a4:decide ((w.bits:Int)≤2147483647)
 ·rw[a1,a2,a3,a4]at hQ;simp only[QVZ,QVQ]at hQ;simp only[YP,a1,a2,a3,a4,h5,h8,m5,m8,eE,seval];exact hQ _ (by exact h5) (by exact h7) (by exact h9) (by rfl)
 rw[a1,a2,a3,a4]at hQ;simp only[QVZ]at hQ;simp only[YP,a1,a2,a3,a4,h3,h5,h8,m3,m5,m8,eE,seval];refine aC ha ?_;simp only[Qa,seval];exact hQ _ (by exact h5) (by exact h7) (by exact h9) (by rfl)

include hP in
theorem v93 (g:PG)(hg:g.ok M)(w:R):Qk Tryz.prog 93 [P.av,Qi g,w.av] (.int .i64 (Je P g w)):=by
 have e0:P.av=.agg [.list (P.progs.map Qi),.list (P.enums.map Qq)]:=rfl;have co:=TS g hg.len w.num;rw[KG]at co;simp only[Qi,PG.cells]at co;have nd:(w.data != [])=!(w.data==[]):=rfl;have nb:((w.bits:Int) != 0)=!((w.bits:Int)==0):=rfl;have hgt:decide (w.wire > 2)=!decide (w.wire≤2):=(by rw[QVg];simp only[QUs,QVk,QWj];omega);rw[VB,Sj];unfold B0 B1 HL;rw[hgt];refine k93.fn (by simp) ?_;simp only[r93,TL,TM,TN,o93,e0,Qi,PG.cells,R.av,eE,seval];refine aC co ?_;generalize (XH g w.num).getD W3=q;generalize (XH g w.num).isSome=kb;simp only[Qs,PO.cells,splice,QVu,QUK,QUX,QVA,QVp,QUC,QVi,QVx,QVy,AV.leaf,eE,seval];refine Sk hP q w (decide (w.wire≤2)) kb _ _ (by rfl) (by rfl) (by rfl) (by rfl) (by rfl) (by rfl) (by rfl) (by rfl) _ (fun f h5 h7 h9 h10=>?_);generalize Wg P q w=K at h10 ⊢;simp only[TO,h5,eE,seval];cases r1:decide (w.num<1)
 case true=>simp only[GH,QV2,Qa,seval]
 cases r2:decide (w.num > 65535)
 case true=>simp only[r2,GH,QV2,QV3,h5,eE,seval]
 cases r3:decide (w.wire<0)
 case true=>simp only[r2,r3,GH,QV2,QV3,h5,eE,seval]
 cases r4:decide (w.wire > 6)
 case true=>simp only[r2,r3,r4,GH,QV3,h5,eE,seval]
 simp only[r2,r3,r4,QV3,QUG,TP,h5,h7,eE,seval];cases s1:decide (w.wire≤2)
 ·rw[s1]at h7;cases s2:((w.bits:Int)==0)
  ·simp only[s2,nb,GI,QVt,QVQ,QV3,h5,h7,eE,seval]
  ·cases kb<;>cases K<;>simp only[s2,nb,GI,Cu,QVt,QV0,QVQ,QWk,QV3,QUG,h5,h7,h9,h10,eE,seval]
   all_goals(cases t1:(w.wire==3)<;>try simp only[QVQ,QVZ,QV3,h5,eE,seval])
   all_goals(cases t2:decide ((w.data.length:Int) > 4096)<;>try simp only[Cv,QV3,QV2,h5,eE,seval])
   all_goals(cases t3:decide ((w.data.length:Int) > 65536)<;>try simp only[Bv,QUG,Qa,seval])
 ·rw[s1]at h7;cases s2:(w.data==[])
  ·simp only[s2,QH,GI,QVt,QV0,QVQ,QV2,h5,eE,seval]
  ·cases kb<;>cases K<;>simp only[s2,QH,GI,Cu,QVt,QV0,QVQ,QWk,QV3,QUG,h5,h7,h9,h10,eE,seval]
   all_goals(cases t1:(w.wire==3)<;>try simp only[QVQ,QVZ,QV3,h5,eE,seval])
   all_goals(cases t2:decide ((w.data.length:Int) > 4096)<;>try simp only[Cv,QV3,QV2,h5,eE,seval])
   all_goals(cases t3:decide ((w.data.length:Int) > 65536)<;>try simp only[Bv,QUG,Qa,seval])

theorem PT {o:PO}{x:PE}(w:R)(ho:0≤o.target∧o.target<(P.enums.length:Int))(hx:P.enums[o.target.toNat]? = some x)(hopn:x.opn=true):Wg P o w=false:=by
 unfold Wg;cases hb:decide ((w.bits:Int)≤2147483647)
 ·simp
 ·have:Z0 P.enums o.target w.bits=true:=by
   unfold Z0;rw[QUQ ⟨ho.1,ho.2,by have:=of_decide_eq_true hb;omega⟩,hx];simp[hopn]
  rw[this];simp

set_option maxHeartbeats 2000000 in
include hP in
theorem v48 (g:PG)(hg:g.ok M)(hu:∀o∈g.ops,UO P o)(w:R):Qk Tryz.prog 48 [P.av,Qi g,w.av] (.bool (Hb P g w)):=by
 have e0:P.av=.agg [.list (P.progs.map Qi),.list (P.enums.map Qq)]:=rfl;have co:=y45 g hg.len w.num;rw[KG]at co;simp only[Qi,PG.cells]at co;have nd:(w.data != [])=!(w.data==[]):=rfl;have nb:((w.bits:Int) != 0)=!((w.bits:Int)==0):=rfl;have hgt:decide (w.wire > 2)=!decide (w.wire≤2):=(by rw[QVg];simp only[QUs,QVk,QWj];omega);unfold Hb B0 B1;rw[hgt];refine k48.fn (by simp) ?_;simp only[e0,Qi,PG.cells,R.av,eE,seval];cases r1:decide (w.num<1)
 case true=>simp only[QV2,QV0,QVQ,Qa,seval]
 cases r2:decide (w.num > 65535)
 case true=>simp only[r2,QV2,QV3,QV0,QVQ,eE,seval]
 cases r3:decide (w.wire<0)
 case true=>simp only[r2,r3,QV2,QV3,QV0,QVQ,eE,seval]
 cases r4:decide (w.wire > 6)
 case true=>simp only[r2,r3,r4,QV3,QV0,QVQ,eE,seval]
 simp only[r2,r3,r4,QV3,QVt,QVZ,eE,seval];cases s1:decide (w.wire≤2)<;>cases s2:((w.bits:Int)==0)<;>cases s3:(w.data==[])
 all_goals(simp only[hgt,s1,s2,s3,nb,QH,QVt,QV0,QVZ,QVz,QWk,QVQ,QV3,QWl,eE,seval])
 all_goals(
  refine aC co ?_;unfold XR;cases ho:XH g w.num with
  |none=>
   simp only[QVW,QVc,W3,Qs,PO.cells,splice,QVu,QUK,QUX,QVA,QVp,QUC,QVi,QVx,QVy,AV.leaf,eE,seval]
  |some o=>
   have hom:=(Zd ho).1;have hu:=hu o hom;have ha:=y76 P hP o.target w.bits;rw[e0]at ha;simp only[QVw,QWc,Qs,PO.cells,splice,QVu,QUK,QUX,QVA,QVp,QUC,QVi,QVx,QVy,AV.leaf,eE,seval];by_cases hk:o.kind=9
   ·have a1:(o.kind==9)=true:=by simp[hk]
    obtain⟨t0,t1⟩:=hu.enm hk;obtain⟨i,hi⟩:=QV1 t0;have hlt:i<P.enums.length:=by omega
    obtain⟨x,hx⟩:∃x,P.enums[i]? = some x:=⟨P.enums[i],QUo hlt⟩;have hxa:(P.enums.map Qq)[i]? = some (.agg x.cells):=by simp[hx,Qq]
    simp only[PE.cells]at hxa;have hop:x.opn=true→Wg P o w=false:=fun h=>PT w ⟨t0,t1⟩ (by rw[hi,QVN];exact hx) h
    unfold Wg at hop;rw[hi]at ha hop;rw[hi];rw[a1,QVZ]at hop;simp only[a1,Qh,QVN,Qb,hxa,QVZ,eE,seval];cases ax:x.opn
    ·cases a2:(o.card != 5)
     ·simp only[a2,QVt,QVQ,eE,seval]
     cases a3:(w.wire==0)
     ·simp only[a2,a3,QVt,QVZ,QVQ,eE,seval]
     cases a4:decide ((w.bits:Int)≤2147483647)
     ·simp only[a2,a3,a4,QVt,QVZ,QVQ,eE,seval]
     simp only[a2,a3,a4,QVt,QVZ,eE,seval];refine aC ha ?_;simp only[Qa,seval]
    ·simp only[hop ax,QV0,Qa,seval]
   ·have a1:(o.kind==9)=false:=by simp[hk]
    simp only[a1,QVQ,Qa,seval])

def SeI (v:V)(n:Int)(k:Nat)(st:St):Prop :=
 ∃f fr i,st=⟨f,[fr],[]⟩∧k=v.slots.length-i∧i≤v.slots.length∧(v.slots.take i).any (fun y=>y.1==n)=false∧f 1=.int .i64 n∧f 2=.ptr 0 2 0∧f 5=.int .i64 (i:Nat)∧fr 2=.cells (vc v)

theorem v47 (v:V)(hn:v.slots.length≤maxLen)(n:Int):Qk Tryz.prog 47 [v.av,.int .i64 n] (.bool (v.slots.any fun y=>y.1==n)):=by
 rw[Qr];refine k47.fn (by simp) ?_;simp only[eE,seval];refine Qd (SeI v n) _ ⟨_,_,0,rfl,rfl,QUv _,by simp,(by rfl),(by rfl),(by rfl),(by rfl)⟩ ?_;rintro _ st ⟨f,fr,i,rfl,rfl,hil,hq,h1,h2,h5,m2⟩;have m2':=m2;simp only[vc]at m2;simp only[QVh,h2,h5,m2,eE,seval];by_cases hlt:i<v.slots.length
 ·obtain⟨y,hi⟩:∃y,v.slots[i]? = some y:=⟨v.slots[i],QUo hlt⟩;have hg:=Jv hi;have e1:=Qm i _ hlt hn;have ht:(v.slots.take (i+1)).any (fun y=>y.1==n)=(y.1==n):=by
   rw[QV6,hi,List.any_append,hq];simp
  simp only[Ql hlt,Qh,QVN,Qb,hg,h1,h2,h5,m2,eE,seval];cases a:(y.1==n)
  ·simp only[h5,e1,Qa,seval];exact⟨v.slots.length-(i+1),by omega,_,_,i+1,rfl,rfl,by omega,by rw[ht,a],(by exact h1),(by exact h2),(by rfl),(by exact m2')⟩
  ·have hany:(v.slots.any fun y=>y.1==n)=true:=QWf.2 ⟨y,QUA hi,a⟩;simp only[hany,Qa,seval]
 ·have hq':(v.slots.any fun y=>y.1==n)=false:=by rw[←hq,QUV (by omega)]
  simp only[Qx hlt,hq',Qa,seval]

theorem v92 (y:Int×V)(o:PO)(frO:Nat→Ob)(hf:frO 12=.cells o.cells) :
  Qg Tryz.prog 92 [V.sav y,.ptr 2 12 0] [Qc,Qc,frO] fun v m1=>v=.bool (y.1==o.num)∧m1=[Qc,Qc,frO]:=by
 simp only[PO.cells]at hf;rw[ZS];refine k92.go (by simp) ?_;simp only[hf,eE,seval]

end

def KH (sl:List (Int×V))(o:PO):Bool:=o.card==1 && !sl.any fun y=>y.1==o.num
theorem DO (g:PG)(sl:List (Int×V)):KD g sl=g.ops.any (KH sl):=rfl

theorem HM {l:List R}{i:Nat}{x:R}(h:l[i]? = some x):(l.map R.av)[i]? = some (.agg [.int .i64 x.num,.int .i64 x.wire,.int .u64 (x.bits:Nat),.str x.data]):=by
 rw[QVJ,h,QVd,R.av]
theorem QwF {l:List PO}{i:Nat}{o:PO}(h:l[i]? = some o):(l.map fun o=>AV.agg o.cells)[i]? = some (.agg [.int .i64 o.num,.str o.name,.str o.alias,.int .i64 o.card,.int .i64 o.key,.int .i64 o.kind,.int .i64 o.target,.int .i64 o.union]):=by
 rw[QVJ,h,QVd,PO.cells]

section
variable {M:Nat}{P:PL}(hP:P.ok M){m:PG→V→Int}{lv:Int}(g:PG)(hg:g.ok M)(v:V)(hv:v.ok M)

def MrI (P:PL)(g:PG)(v:V)(k:Nat)(st:St):Prop :=
 ∃f fr i,st=⟨f,[fr],[]⟩∧k=v.raws.length-i∧Xd (Zu P g v.raws) v.raws.length 0=Xd (Zu P g v.raws) (v.raws.length-i) i∧f 4=.ptr 0 4 0∧f 5=.ptr 0 5 0∧f 63=.list (v.raws.map R.av)∧f 64=.int .i64 (v.raws.length:Nat)∧f 65=.int .i64 (i:Nat)∧fr 4=.cells [.list (P.progs.map Qi),.list (P.enums.map Qq)]∧fr 5=.cells g.cells∧∀s∈[14],(fr s).isRow=false

include hP hg hv in
theorem PU (f:Fr)(fr:Nat→Ob)(h4:f 4=.ptr 0 4 0)(h5:f 5=.ptr 0 5 0)(h63:f 63=.list (v.raws.map R.av))(h64:f 64=.int .i64 (v.raws.length:Nat))(h65:f 65=.int .i64 0)
  (m4:fr 4=.cells [.list (P.progs.map Qi),.list (P.enums.map Qq)]) (m5:fr 5=.cells g.cells) (r14:∀s∈[14],(fr s).isRow=false) (Q:Exit→St→Prop)
  (q1:Xd (Zu P g v.raws) v.raws.length 0≠0→∀f fr,f 8=.int .i64 (Xd (Zu P g v.raws) v.raws.length 0)→Q .ret (⟨f,[fr],[]⟩:St))
  (q2:Xd (Zu P g v.raws) v.raws.length 0=0→∀f fr,Q (.exit 5) (⟨f,[fr],[]⟩:St)):QG Tryz.prog (.loop SU) ⟨f,[fr],[]⟩ Q:=by
 have e0:P.av=.agg [.list (P.progs.map Qi),.list (P.enums.map Qq)]:=rfl;refine Qd (MrI P g v) _ ⟨f,fr,0,rfl,rfl,rfl,h4,h5,h63,h64,h65,m4,m5,r14⟩ ?_;clear h4 h5 h63 h64 h65 m4 m5 r14;rintro _ st ⟨f0,fr0,i,rfl,rfl,hx,h40,h50,h630,h640,h650,m40,m50,r14⟩;refine QK (a:=_) [14] r14 ?_;intro f fr hf hm hn;have h4:f 4=.ptr 0 4 0:=by rw[hf,h40]<;>rfl
 have h5:f 5=.ptr 0 5 0:=by rw[hf,h50]<;>rfl
 have h63:f 63=.list (v.raws.map R.av):=by rw[hf,h630]<;>rfl
 have h64:f 64=.int .i64 (v.raws.length:Nat):=by rw[hf,h640]<;>rfl
 have h65:f 65=.int .i64 (i:Nat):=by rw[hf,h650]<;>rfl
 have m4:fr 4=.cells [.list (P.progs.map Qi),.list (P.enums.map Qq)]:=by rw[hm 4 (by decide),m40]<;>rfl
 have m5:fr 5=.cells g.cells:=by rw[hm 5 (by decide),m50]<;>rfl
 have n14:=hn 14 (by decide);clear hf hm hn h40 h50 h630 h640 h650 m40 m50 r14;have m5':=m5;simp only[PG.cells]at m5;simp only[h64,h65,Qa,seval];by_cases hlt:i<v.raws.length
 ·obtain⟨x,hi⟩:∃x,v.raws[i]? = some x:=⟨v.raws[i],QUo hlt⟩;have hgi:=HM hi;have e1:=Qm i _ hlt (by have:=hv.nr;simp only[maxLen];omega);have c1:=v93 hP g hg x;rw[e0]at c1;simp only[Qi,PG.cells,R.av]at c1;simp only[Ql hlt,Qh,QVN,Qb,hgi,n14,h4,h5,h63,h65,m4,m5,eE,seval];refine aC c1 ?_;by_cases hy:Je P g x=0
  ·rw[KU hlt ((WD hi).trans hy)]at hx;have d0:((0:Int) != 0)=false:=rfl;simp only[hy,d0,h65,e1,Qa,seval];exact⟨v.raws.length-(i+1),by omega,_,_,i+1,rfl,rfl,hx,(by exact h4),(by exact h5),(by exact h63),(by exact h64),(by rfl),(by exact m4),(by exact m5'),by simp<;>rfl⟩
  ·rw[ZD hlt (WD hi) hy]at hx;have d1:(Je P g x != 0)=true:=by simp[hy]
   simp only[d1,Qa,seval];exact q1 (by rw[hx];exact hy) _ _ (by rw[hx];exact(by rfl))
 ·rw[JY hlt]at hx;simp only[Qx hlt,Qa,seval];exact q2 hx _ _

def MoI (P:PL)(g:PG)(v:V)(k:Nat)(st:St):Prop :=
 ∃f fr i,st=⟨f,[fr],[]⟩∧k=g.ops.length-i∧i≤g.ops.length∧(g.ops.take i).any (KH v.slots)=false∧f 4=.ptr 0 4 0∧f 5=.ptr 0 5 0∧f 6=.ptr 0 6 0∧f 45=.list (g.ops.map fun o=>.agg o.cells)∧f 46=.int .i64 (g.ops.length:Nat)∧f 47=.int .i64 (i:Nat)∧fr 4=.cells [.list (P.progs.map Qi),.list (P.enums.map Qq)]∧fr 5=.cells g.cells∧fr 6=.cells (vc v)∧∀s∈[12],(fr s).isRow=false

include hg hv in
theorem Sl (f:Fr)(fr:Nat→Ob)(h4:f 4=.ptr 0 4 0)(h5:f 5=.ptr 0 5 0)(h6:f 6=.ptr 0 6 0)(h45:f 45=.list (g.ops.map fun o=>.agg o.cells))(h46:f 46=.int .i64 (g.ops.length:Nat))(h47:f 47=.int .i64 0)
  (m4:fr 4=.cells [.list (P.progs.map Qi),.list (P.enums.map Qq)]) (m5:fr 5=.cells g.cells) (m6:fr 6=.cells (vc v)) (Kd:∀s∈[12],(fr s).isRow=false) (Q:Exit→St→Prop)
  (q1:KD g v.slots=true→∀f fr,f 8=.int .i64 14→Q .ret (⟨f,[fr],[]⟩:St))
  (q2:KD g v.slots=false→∀f fr,f 4=.ptr 0 4 0→f 5=.ptr 0 5 0→f 6=.ptr 0 6 0→fr 4=.cells [.list (P.progs.map Qi),.list (P.enums.map Qq)]→fr 5=.cells g.cells→fr 6=.cells (vc v)→fr 14=.none→Q (.exit 3) (⟨f,[fr],[]⟩:St))
  (r14:fr 14=.none):QG Tryz.prog (.loop SS) ⟨f,[fr],[]⟩ Q:=by
 let I:Nat→St→Prop:=fun k st=>MoI P g v k st∧∀f fr,st=⟨f,[fr],[]⟩→fr 14=.none
 have mk:∀k st,MoI P g v k st→∀f fr,st=⟨f,[fr],[]⟩→fr 14=.none→I k st:=fun k st h f fr e n=>⟨h,fun f' fr' e'=>by
  rw[e]at e'
  injection e' with _ e2 _
  injection e2 with e3 _
  rw[←e3];exact n⟩
 refine Qd I _ (mk _ _ ⟨f,fr,0,rfl,rfl,QUv _,by simp,h4,h5,h6,h45,h46,h47,m4,m5,m6,Kd⟩ _ _ rfl r14) ?_;clear h4 h5 h6 h45 h46 h47 m4 m5 m6 Kd r14;rintro _ st ⟨⟨f0,fr0,i,rfl,rfl,hil,hq,h40,h50,h60,h450,h460,h470,m40,m50,m60,Kd⟩,r14⟩;have r14:=r14 _ _ rfl;refine QK (a:=_) [12] Kd ?_;intro f fr hf hm hn;have h4:f 4=.ptr 0 4 0:=by rw[hf,h40]<;>rfl
 have h5:f 5=.ptr 0 5 0:=by rw[hf,h50]<;>rfl
 have h6:f 6=.ptr 0 6 0:=by rw[hf,h60]<;>rfl
 have h45:f 45=.list (g.ops.map fun o=>.agg o.cells):=by rw[hf,h450]<;>rfl
 have h46:f 46=.int .i64 (g.ops.length:Nat):=by rw[hf,h460]<;>rfl
 have h47:f 47=.int .i64 (i:Nat):=by rw[hf,h470]<;>rfl
 have m4:fr 4=.cells [.list (P.progs.map Qi),.list (P.enums.map Qq)]:=by rw[hm 4 (by decide),m40]<;>rfl
 have m5:fr 5=.cells g.cells:=by rw[hm 5 (by decide),m50]<;>rfl
 have m6:fr 6=.cells (vc v):=by rw[hm 6 (by decide),m60]<;>rfl
 have n14:fr 14=.none:=by rw[hm 14 (by decide),r14]<;>rfl
 have n12:=hn 12 (by decide);clear hf hm hn h40 h50 h60 h450 h460 h470 m40 m50 m60 Kd r14;have m6':=m6;simp only[vc]at m6;simp only[h46,h47,Qa,seval];by_cases hlt:i<g.ops.length
 ·obtain⟨o,hi⟩:∃o,g.ops[i]? = some o:=⟨g.ops[i],QUo hlt⟩;have hgi:=QwF hi;have e1:=Qm i _ hlt hg.len;have ht:(g.ops.take (i+1)).any (KH v.slots)=KH v.slots o:=by
   rw[QV6,hi,List.any_append,hq];simp
  have hmi:KH v.slots o=(o.card==1 && !v.slots.any fun y=>y.1==o.num):=rfl;have fin:∀(f':Fr) (fr':Nat→Ob),KH v.slots o=false→f' 4=.ptr 0 4 0→f' 5=.ptr 0 5 0→f' 6=.ptr 0 6 0→f' 45=.list (g.ops.map fun o=>.agg o.cells)→f' 46=.int .i64 (g.ops.length:Nat)→f' 47=.int .i64 ((i+1:Nat):Int)→fr' 4=.cells [.list (P.progs.map Qi),.list (P.enums.map Qq)]→fr' 5=.cells g.cells→fr' 6=.cells (vc v)→(∀s∈[12],(fr' s).isRow=false)→fr' 14=.none→∃k,k<g.ops.length-i∧I k ⟨f',[fr'],[]⟩:=by
   intro f' fr' hu b4 b5 b6 b45 b46 b47 c4 c5 c6 c12 c14;exact⟨g.ops.length-(i+1),by omega,mk _ _ ⟨f',fr',i+1,rfl,rfl,by omega,by rw[ht,hu],b4,b5,b6,b45,b46,b47,c4,c5,c6,c12⟩ _ _ rfl c14⟩
  simp only[Ql hlt,Qh,QVN,Qb,hgi,n12,h45,h47,eE,seval];cases a1:(o.card==1)
  ·rw[a1,QVQ]at hmi;simp only[h47,e1,Qa,seval];exact fin _ _ hmi (by exact h4) (by exact h5) (by exact h6) (by exact h45) (by exact h46) (by rfl) (by exact m4) (by exact m5) (by exact m6') (by simp<;>rfl) (by exact n14)
  ·rw[a1,QVZ]at hmi;have hcl:=fun(fr:Nat→Ob) (h12:fr 12=.cells o.cells)=>v91 v.slots (by have:=hv.ns;simp only[maxLen];omega) (fun y=>y.1==o.num) 92 (.ptr 0 12 0) [fr] fun y _=>v92 y o fr h12
   simp only[PO.cells]at hcl;simp only[h6,m6,eE,seval];refine Qj (hcl _ (by rfl)) (by simp only[QUT,QVn,Qa,seval]<;>rfl) ?_;cases a2:v.slots.any (fun y=>y.1==o.num)
   ·rw[a2]at hmi;have hany:KD g v.slots=true:=QWf.2 ⟨o,QUA hi,by show KH v.slots o=true;rw[hmi];rfl⟩;simp only[Qa,seval];exact q1 hany _ _ (by rfl)
   ·rw[a2]at hmi;simp only[h47,e1,Qa,seval];exact fin _ _ hmi (by exact h4) (by exact h5) (by exact h6) (by exact h45) (by exact h46) (by rfl) (by exact m4) (by exact m5) (by exact m6') (by simp<;>rfl) (by exact n14)
 ·have hq':KD g v.slots=false:=by rw[DO,←hq,QUV (by omega)]
  simp only[Qx hlt,Qa,seval];exact q2 hq' _ _ (by exact h4) (by exact h5) (by exact h6) (by exact m4) (by exact m5) (by exact m6') (by exact n14)

def MsI (m:PG→V→Int)(P:PL)(lv:Int)(g:PG)(v:V)(k:Nat)(st:St):Prop :=
 ∃f fr i,st=⟨f,[fr],[]⟩∧k=v.slots.length-i∧Xd (XG m P g v.slots) v.slots.length 0=Xd (XG m P g v.slots) (v.slots.length-i) i∧f 3=.int .i64 lv∧f 4=.ptr 0 4 0∧f 5=.ptr 0 5 0∧f 6=.ptr 0 6 0∧f 29=.int .i64 (v.slots.length:Nat)∧f 30=.int .i64 (i:Nat)∧fr 4=.cells [.list (P.progs.map Qi),.list (P.enums.map Qq)]∧fr 5=.cells g.cells∧fr 6=.cells (vc v)∧fr 12=.none∧fr 14=.none

include hv in
theorem CQ (hsl:∀i,i<v.slots.length→Qk Tryz.prog 90 [P.av,Qi g,.list (v.slots.map V.sav),.int .i64 (i:Nat),.int .i64 lv] (.int .i64 (XG m P g v.slots i)))
  (f:Fr) (fr:Nat→Ob) (h3:f 3=.int .i64 lv) (h4:f 4=.ptr 0 4 0) (h5:f 5=.ptr 0 5 0) (h6:f 6=.ptr 0 6 0) (h29:f 29=.int .i64 (v.slots.length:Nat)) (h30:f 30=.int .i64 0)
  (m4:fr 4=.cells [.list (P.progs.map Qi),.list (P.enums.map Qq)]) (m5:fr 5=.cells g.cells) (m6:fr 6=.cells (vc v)) (n12:fr 12=.none) (n14:fr 14=.none) (Q:Exit→St→Prop)
  (q1:Xd (XG m P g v.slots) v.slots.length 0≠0→∀f fr,f 8=.int .i64 (Xd (XG m P g v.slots) v.slots.length 0)→Q .ret (⟨f,[fr],[]⟩:St))
  (q2:Xd (XG m P g v.slots) v.slots.length 0=0→∀f fr,f 4=.ptr 0 4 0→f 5=.ptr 0 5 0→f 6=.ptr 0 6 0→fr 4=.cells [.list (P.progs.map Qi),.list (P.enums.map Qq)]→fr 5=.cells g.cells→fr 6=.cells (vc v)→fr 12=.none→fr 14=.none→Q (.exit 1) (⟨f,[fr],[]⟩:St)) :
  QG Tryz.prog (.loop SR) ⟨f,[fr],[]⟩ Q:=by
 have e0:P.av=.agg [.list (P.progs.map Qi),.list (P.enums.map Qq)]:=rfl;refine Qd (MsI m P lv g v) _ ⟨f,fr,0,rfl,rfl,rfl,h3,h4,h5,h6,h29,h30,m4,m5,m6,n12,n14⟩ ?_;clear h3 h4 h5 h6 h29 h30 m4 m5 m6 n12 n14;rintro _ st ⟨f,fr,i,rfl,rfl,hx,h3,h4,h5,h6,h29,h30,m4,m5,m6,n12,n14⟩;have m5':=m5;have m6':=m6;simp only[PG.cells]at m5;simp only[vc]at m6;simp only[h29,h30,Qa,seval];by_cases hlt:i<v.slots.length
 ·have e1:=Qm i _ hlt (by have:=hv.ns;simp only[maxLen];omega);have c1:=hsl i hlt;rw[e0]at c1;simp only[Qi,PG.cells]at c1;simp only[Ql hlt,h3,h4,h5,h6,h30,m4,m5,m6,eE,seval];refine aC c1 ?_;by_cases hy:XG m P g v.slots i=0
  ·rw[KU hlt hy]at hx;have d0:((0:Int) != 0)=false:=rfl;simp only[hy,d0,h30,e1,Qa,seval];exact⟨v.slots.length-(i+1),by omega,_,_,i+1,rfl,rfl,hx,(by exact h3),(by exact h4),(by exact h5),(by exact h6),(by exact h29),(by rfl),(by exact m4),(by exact m5'),(by exact m6'),n12,n14⟩
  ·rw[ZD hlt rfl hy]at hx;have d1:(XG m P g v.slots i != 0)=true:=by simp[hy]
   simp only[d1,Qa,seval];exact q1 (by rw[hx];exact hy) _ _ (by rw[hx];exact(by rfl))
 ·rw[JY hlt]at hx;simp only[Qx hlt,Qa,seval];exact q2 hx _ _ (by exact h4) (by exact h5) (by exact h6) (by exact m4) (by exact m5') (by exact m6') n12 n14

include hP in
theorem v58 (hU:Yy P):∀n:Nat,n≤16→∀g∈P.progs,∀v:V,v.ok M→Qk Tryz.prog 58 [P.av,Qi g,v.av,.int .i64 (17-(n:Int))] (.int .i64 (Q9 P n g v)):=by
 have e0:P.av=.agg [.list (P.progs.map Qi),.list (P.enums.map Qq)]:=rfl;intro n
 induction n with
 |zero=>
  intro _ g _ v hv;have co:=CO v hv;rw[Qr]at co;rw[Qr];have d0:decide ((17:Int)-((0:Nat):Int) > 16)=true:=rfl;refine k58.fn (by simp) ?_;simp only[e0,Qi,PG.cells,Q9,eE,seval];cases a1:(v.kd != 10)
  ·simp only[QV3,eE,seval];refine aC co ?_;cases v.oth
   ·simp only[QUG,Qa,seval]
   ·simp only[Qa,seval]
  ·simp only[QV2,Qa,seval]
 |succ n ih=>
  intro hn16 g hgm v hv;have hg:=hP.progs g hgm;have hu:=hU g hgm;have hw:IntKind.i64.wrap (17-((n+1:Nat):Int)+1)=17-(n:Int):=by rw[QF];omega
  have hel:=fun(o:PO) (ho:o∈g.ops) (x:V) (hx:x.ok M)=>QPp hP hw (fun g hg v hv=>ih (by omega) g hg v hv) o (hu o ho) x hx
  have hfi:=fun(o:PO) (ho:o∈g.ops) (x:V) (hx:x.ok M)=>QPx hP o (hu o ho) x hx (hel o ho)
  have hsl:=fun(i:Nat) (hi:i<v.slots.length)=>v90 (P:=P) g hg v.slots (by have:=hv.ns;simp only[maxLen];omega) i hi hv.slots hfi
  have co:=CO v hv;rw[Qr]at co;rw[Qr];have d0:decide ((17:Int)-((n+1:Nat):Int) > 16)=false:=QWb (by omega);refine k58.fn (by simp) ?_;simp only[e0,Qi,PG.cells,Q9,eE,seval];cases a1:(v.kd != 10)
  ·simp only[QV3,eE,seval];refine aC co ?_;cases v.oth
   ·simp only[d0,QUG,QVh,eE,seval];unfold Wf;refine CQ (lv:=17-((n+1:Nat):Int)) g v hv hsl _ _ (by rfl) (by rfl) (by rfl) (by rfl) (by rfl) (by rfl) (by rfl) (by rfl) (by rfl) (by rfl) (by rfl) _ (fun hx f fr h8=>?_) (fun hx f fr h4 h5 h6 m4 m5 m6 n12 n14=>?_)
    ·rw[QUB hx];simp only[h8,Qa,seval]
    ·rw[QUQ hx];have m5':=m5;simp only[PG.cells]at m5;simp only[h5,m5,QVh,eE,seval];refine Sl g hg v hv _ _ (by exact h4) (by exact h5) (by exact h6) (by rfl) (by rfl) (by rfl) (by exact m4) (by exact m5') (by exact m6) (by simp only[QVI,QWv,or_false,forall_eq,n12]<;>rfl) _ (fun hx f fr h8=>?_) (fun hx f fr h4 h5 h6 m4 m5 m6 n14=>?_) (by exact n14)
     ·rw[hx];simp only[h8,Qa,seval]
     ·rw[hx];have m6':=m6;simp only[vc]at m6;simp only[QUG,h6,m6,QVh,eE,seval];refine PU hP g hg v hv _ _ (by exact h4) (by exact h5) (by rfl) (by rfl) (by rfl) (by exact m4) (by exact m5) (by simp only[QVI,QWv,or_false,forall_eq,n14]<;>rfl) _ (fun hx f fr h8=>?_) (fun hx f fr=>?_)
      ·simp only[h8,Qa,seval]
      ·simp only[hx,Qa,seval]
   ·simp only[Qa,seval]
  ·simp only[QV2,Qa,seval]

end
end Go.Proofs.YtdhlbgejhcejcaaGreatDoor.Va

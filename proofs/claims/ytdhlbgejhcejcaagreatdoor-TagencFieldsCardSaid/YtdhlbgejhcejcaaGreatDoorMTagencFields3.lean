/- Parts of the proof, in order. -/
import Derived.Test.YtdhlbgejhcejcaaGreatDoorMTagencFields2

set_option linter.unusedSimpArgs false
namespace Go.Proofs.YtdhlbgejhcejcaaGreatDoor.Va
open Go Am Rc Bt Br

def key (o:PO):Bool:=if o.card=5 then decide (o.key≥1)&&decide (o.key≤7)&&o.key != 6 else o.key==0
def GF (P:PL)(o:PO):Bool :=
 if o.kind=10 then decide (o.target≥0)&&decide (o.target<(P.progs.length:Int))&&o.card != 3
 else if o.kind=9 then decide (o.target≥0)&&decide (o.target<(P.enums.length:Int))else isk o.kind&&o.target == -1
def Za (P:PL)(o:PO):Bool:=Hj o.alias&&decide ((o.alias.length:Int)≤4096)&&decide (o.card≥1)&&decide (o.card≤5)&&key o&&GF P o
def X0 (o:PO):Bool:=o.union == -1||o.card==2
def Z6:List PO→Int→Int→Option Int
 | [],n,_=>some n
 |o :: l,n,b=>if o.union=n then Z6 l (n+1) n else if o.union = -1∨o.union=b then Z6 l n o.union else none
def ZT (g:PG):Bool:=match Z6 g.ops 0 (-1)with
 |some n=>g.unions==n
 |none=>false
def Xk (k kd:Int)(b:Nat)(t:List UInt8)(l p s r:List AV):Bool :=
 isk k&&kd==k&&WQ l p s r&&(if Zc kd=true then(b:Int)==0 else t==[])&&Yx k b&&decide ((t.length:Int)≤4096)&&(k != 7||Hj t)
def alias:List UInt8:=[97,108,105,97,115]
def nok:List AV→Bool
 | [.int _ kd,.int _ b,.str t,.list l,.list p,.list s,.list r]=>Xk 7 kd b.toNat t l p s r
 |_=>false
def ZV (i:PI):Bool:=match i.notes with
 | []=>true
 | [n]=>n.name==alias&&nok n.val
 |_=>false
def Z1 (P:PL)(g:PG):Bool:=ZT g&&g.ops.all fun o=>Za P o&&X0 o
def KB (x:PE):Bool:=x.notes.isEmpty&&x.items.all ZV
def args (P:PL):Bool:=P.progs.all (Z1 P)&&P.enums.all KB

theorem Qac {α:Type}(l:List α)(p q:α→Bool):(l.all fun x=>p x&&q x)=(l.all p&&l.all q):=by
 induction l with
 |nil=>rfl
 |cons x l ih=>
  simp only[QXs,ih];cases p x<;>cases q x<;>cases l.all p<;>cases l.all q<;>rfl

theorem QQg (k kd:Int)(b:Nat)(t:List UInt8)(l p s r:List AV)(hl:l.length≤140737488351232)(hp:p.length≤140737488351232)(hs:s.length≤140737488351232)(hr:r.length≤140737488351232) :
  Qi Tryz.prog 275 [.int .i64 k,vo kd b t l p s r] (.bool (Xk k kd b t l p s r)):=by
 have hle:=Qv6 kd b t l p s r hl hp hs hr;have hw:=QQf k b;simp only[vo]at hle;have n1:(kd != k)=!(kd==k):=rfl;have n2:(k != 7)=!(k==7):=rfl;have n3:decide ((t.length:Int) > 4096)=!decide ((t.length:Int)≤4096):=(by rw[QXa];simp only[QWl,QXe,QYb];omega);refine Ql4.fn (by simp) ?_;simp only[vo,Xk,n2,eE,seval];refine aC (Bu k) ?_;cases isk k
 ·simp only[QXM,QXo,Qa,seval]
 simp only[QXT,QXU,n1,eE,seval];cases a1:(kd==k)
 ·simp only[QXM,QXo,Qa,seval]
 simp only[QXT,QXU,eE,seval];refine aC hle ?_;cases(WQ l p s r&&(if Zc kd=true then(b:Int)==0 else t==[]))
 ·simp only[QXM,QXo,Qa,seval]
 simp only[QXT,QXU,eE,seval];refine aC hw ?_;cases Yx k b
 ·simp only[QXM,QXo,Qa,seval]
 simp only[QXT,QXU,n3,eE,seval];cases a2:decide ((t.length:Int)≤4096)
 ·simp only[QXM,QXo,Qa,seval]
 simp only[QXT,QXU,n2,Qa,seval];cases a3:(k==7)
 ·simp only[QXo,QXW,Qa,seval]
 ·simp only[QXU,QXX,eE,seval];refine aC (Qv2 t) ?_;simp only[Qa,seval]

theorem QQh (o:PO):Qi Tryz.prog 173 [Qv o] (.bool (key o)):=by
 refine Qf6.fn (by simp) ?_;simp only[Qv,PO.cells,key,eE,seval];by_cases h:o.card=5
 ·have b0:(o.card != 5)=false:=by simp[h]
  simp only[b0,QWJ h,eE,seval];cases a1:decide (o.key≥1)<;>cases a2:decide (o.key≤7)<;>simp only[a2,QXT,QXM,eE,seval]
 ·have b0:(o.card != 5)=true:=by simp[h]
  simp only[b0,QWu h,eE,seval]

section
variable (P:PL)

theorem QQi (o:PO):Qi Tryz.prog 174 [P.av,Qv o] (.bool (GF P o)):=by
 have e0:P.av=.agg [.list (P.progs.map Qp),.list (P.enums.map Qr)]:=rfl;refine Qgg.fn (by simp) ?_;simp only[e0,Qv,PO.cells,GF,eE,seval];by_cases h:o.kind=10
 ·have b0:(o.kind==10)=true:=by simp[h]
  simp only[b0,QWJ h,eE,seval];cases a1:decide (o.target≥0)<;>cases a2:decide (o.target<(P.progs.length:Int))<;>simp only[a2,QXT,QXM,QXb,eE,seval]
 ·have b0:(o.kind==10)=false:=by simp[h]
  by_cases h9:o.kind=9
  ·have b1:(o.kind==9)=true:=by simp[h9]
   simp only[b0,b1,QWu h,QWJ h9,eE,seval];cases a1:decide (o.target≥0)<;>simp only[QXT,QXM,QXb,eE,seval]
  ·have b1:(o.kind==9)=false:=by simp[h9]
   simp only[b0,b1,QWu h,QWu h9,eE,seval];refine aC (Bu o.kind) ?_;cases isk o.kind<;>simp only[QXT,QXM,eE,seval]

def UnI (g:PG)(k:Nat)(st:St):Prop :=
 ∃f fr i n b,st=⟨f,[fr],[]⟩∧k=g.ops.length-i∧i≤g.ops.length∧(g.ops.take i).all X0=true∧Z6 g.ops 0 (-1)=Z6 (g.ops.drop i) n b∧0≤n∧n≤i∧-1≤b∧b<n∧f 1=.ptr 0 1 0∧f 3=.int .i64 (n-1)∧f 4=.int .i64 b∧
  f 8=.list (g.ops.map fun o=>.agg o.cells)∧f 9=.int .i64 (g.ops.length:Nat)∧f 10=.int .i64 (i:Nat)∧fr 1=.cells g.cells∧∀s∈[6],(fr s).isRow=false

theorem GG {l:List PO}{i:Nat}{o:PO}(h:l[i]? = some o)(n b:Int):Z6 (l.drop i) n b=if o.union=n then Z6 (l.drop (i+1)) (n+1) n else if o.union = -1∨o.union=b then Z6 (l.drop (i+1)) n o.union else none:=by
 have hlt:i<l.length:=(QWg.1 h).1;rw[QWY hlt,show l[i]=o from(QWg.1 h).2];rfl

theorem QQj (g:PG)(hl:g.ops.length≤9223372036854775000):Qi Tryz.prog 170 [Qp g] (.bool (g.ops.all X0&&ZT g)):=by
 refine QfP.fn (by simp) ?_;simp only[Qp,PG.cells,QXb,eE,seval];refine Qc (UnI g) _ ⟨_,_,0,0,-1,rfl,rfl,QWo _,rfl,rfl,by decide,by decide,by decide,by decide,(by rfl),(by rfl),(by rfl),(by rfl),(by rfl),(by rfl),(by rfl),by simp<;>rfl⟩ ?_;rintro _ st ⟨f0,fr0,i,n,b,rfl,rfl,hil,hu,hj,hn0,hni,hb1,hbn,h10,h30,h40,h80,h90,hA0,m10,r6⟩;refine QN (a:=_) [6] r6 ?_;intro f fr hf hm hn6;have h1:f 1=.ptr 0 1 0:=by rw[hf,h10]<;>rfl
 have h3:f 3=.int .i64 (n-1):=by rw[hf,h30]<;>rfl
 have h4:f 4=.int .i64 b:=by rw[hf,h40]<;>rfl
 have h8:f 8=.list (g.ops.map fun o=>.agg o.cells):=by rw[hf,h80]<;>rfl
 have h9:f 9=.int .i64 (g.ops.length:Nat):=by rw[hf,h90]<;>rfl
 have hA:f 10=.int .i64 (i:Nat):=by rw[hf,hA0]<;>rfl
 have m1:fr 1=.cells g.cells:=by rw[hm 1 (by decide),m10]<;>rfl
 have n6:=hn6 6 (by decide);clear hf hm hn6 h10 h30 h40 h80 h90 hA0 m10 r6;simp only[PG.cells]at m1;have w0:IntKind.i64.wrap (n-1+1)=n:=by rw[QC];omega
 simp only[h9,hA,Qa,seval];by_cases hlt:i<g.ops.length
 ·obtain⟨o,hi⟩:∃o,g.ops[i]? = some o:=⟨g.ops[i],QWh hlt⟩;have hg:(g.ops.map fun o=>AV.agg o.cells)[i]? = some (.agg o.cells):=by simp[hi]
  have e1:=Qo i _ hlt (by simp only[maxLen];omega);have ht:=Q5 (q:=X0) hi;rw[hu,QXT]at ht;have hbad:X0 o=false→g.ops.all X0=false:=fun h=>by
   rw[QX7];intro h';rw[QWs.1 h' o (QWt hi)]at h;cases h
  rw[GG hi]at hj;have fin:∀(f':Fr) (fr':Nat→Ob) (n':Int),X0 o=true→(if o.union=n then n'=n+1 else n'=n)→Z6 g.ops 0 (-1)=Z6 (g.ops.drop (i+1)) n' o.union→(o.union=n∨o.union = -1∨o.union=b)→f' 1=.ptr 0 1 0→f' 3=.int .i64 (n'-1)→f' 4=.int .i64 o.union→
    f' 8=.list (g.ops.map fun o=>.agg o.cells)→f' 9=.int .i64 (g.ops.length:Nat)→f' 10=.int .i64 ((i+1:Nat):Int)→fr' 1=.cells g.cells→(∀s∈[6],(fr' s).isRow=false)→∃k,k<g.ops.length-i∧UnI g k ⟨f',[fr'],[]⟩:=by
   intro f' fr' n' a b' c d e1 e3 e4 e8 e9 eA em er;refine⟨g.ops.length-(i+1),by omega,f',fr',i+1,n',o.union,rfl,rfl,by omega,by rw[ht,a],c,?_,?_,?_,?_,e1,e3,e4,e8,e9,eA,em,er⟩<;>split at b'<;>omega
  simp only[PO.cells]at hg;simp only[Ql hlt,Qg,QXI,Qb,hg,PO.cells,n6,h8,hA,eE,seval];by_cases a1:o.union = -1
  ·have b1:(o.union != -1)=false:=by simp[a1]
   have hk:X0 o=true:=by simp[X0,a1]
   rw[QWu (by omega),QWJ (.inl a1)]at hj;have mx:(if n-1<o.union then o.union else n-1)=n-1:=QWu (by omega);simp only[b1,h3,hA,mx,e1,eE,seval];exact fin _ _ n hk (by rw[QWu (by omega)]) hj (.inr (.inl a1)) (by exact h1) (by rfl) (by rfl) (by exact h8) (by exact h9) (by rfl) (by exact m1) (by simp<;>rfl)
  have b1:(o.union != -1)=true:=by simp[a1]
  by_cases a2:o.card=2
  case neg=>
   have b2:(o.card != 2)=true:=by simp[a2]
   have hk:X0 o=false:=by simp[X0,a1,a2]
   simp only[b1,b2,hbad hk,QXM,eE,seval]
  have b2:(o.card != 2)=false:=by simp[a2]
  have hk:X0 o=true:=by simp[X0,a2]
  by_cases a3:o.union=n
  ·have b3:(o.union != n)=false:=by simp[a3]
   rw[QWJ a3,←a3]at hj;have mx:(if n-1<o.union then o.union else n-1)=o.union:=QWJ (by omega);simp only[b1,b2,b3,h3,hA,w0,mx,e1,eE,seval];exact fin _ _ (o.union+1) hk (by rw[QWJ a3,a3]) hj (.inl a3) (by exact h1) (by simp only[Qa,seval];congr 1;omega) (by rfl) (by exact h8) (by exact h9) (by rfl) (by exact m1) (by simp<;>rfl)
  have b3:(o.union != n)=true:=by simp[a3]
  by_cases a4:o.union=b
  ·have b4:(o.union != b)=false:=by simp[a4]
   rw[QWu a3,QWJ (.inr a4)]at hj;have mx:(if n-1<o.union then o.union else n-1)=n-1:=QWu (by omega);simp only[b1,b2,b3,b4,h3,h4,hA,w0,mx,e1,eE,seval];exact fin _ _ n hk (by rw[QWu a3]) hj (.inr (.inr a4)) (by exact h1) (by rfl) (by rfl) (by exact h8) (by exact h9) (by rfl) (by exact m1) (by simp<;>rfl)
  ·have b4:(o.union != b)=true:=by simp[a4]
   rw[QWu a3,QWu (by omega)]at hj;have hun:ZT g=false:=by unfold ZT;rw[hj]
   simp only[b1,b2,b3,b4,hun,QYc,h3,h4,w0,eE,seval]
 ·rw[QWO (by omega)]at hu;rw[QWR (by omega)]at hj;have hun:ZT g=(g.unions==n):=by unfold ZT;rw[hj];rfl
  simp only[QA hlt,h1,h3,m1,w0,hu,hun,QXT,eE,seval]

theorem QQk (o:PO)(fr2 fr:Nat→Ob)(h1:fr 1=.cells [.list (P.progs.map Qp),.list (P.enums.map Qr)]):Qh Tryz.prog 171 [Qv o,.ptr 7 1 0] [Qd,Qd,Qd,fr2,Qd,Qd,Qd,fr] fun y m1=>y=.bool (!Za P o)∧m1=[Qd,Qd,Qd,fr2,Qd,Qd,Qd,fr]:=by
 have n1:decide ((o.alias.length:Int) > 4096)=!decide ((o.alias.length:Int)≤4096):=(by rw[QXa];simp only[QWl,QXe,QYb];omega);have n2:decide (o.card<1)=!decide (o.card≥1):=(by rw[QXa];simp only[QWl,QXe,QYb];omega);have n3:decide (o.card > 5)=!decide (o.card≤5):=(by rw[QXa];simp only[QWl,QXe,QYb];omega);have hk:=QQh o;have ha:Qi Tryz.prog 174 [.agg [.list (P.progs.map Qp),.list (P.enums.map Qr)],Qv o] (.bool (GF P o)):=QQi P o;simp only[Qv,PO.cells]at hk ha;refine QfU.go (by simp) ?_;simp only[Qv,PO.cells,Za,eE,seval];refine aC (Qv2 o.alias) ?_;cases Hj o.alias
 ·simp only[QXM,QXo,Qa,seval]
 simp only[QXT,QXU,n1,eE,seval];cases a1:decide ((o.alias.length:Int)≤4096)
 ·simp only[QXM,QXo,Qa,seval]
 simp only[n2,QXT,QXU,eE,seval];cases a2:decide (o.card≥1)
 ·simp only[QXM,QXo,Qa,seval]
 simp only[n3,QXT,QXU,eE,seval];cases a3:decide (o.card≤5)
 ·simp only[QXM,QXo,Qa,seval]
 simp only[QXT,QXU,eE,seval];refine aC hk ?_;cases key o
 ·simp only[QXM,QXo,Qa,seval]
 simp only[QXT,QXU,h1,eE,seval];refine aC ha ?_;simp only[Qa,seval]

theorem QQl (g:PG)(hl:g.ops.length≤9223372036854775000)(fr:Nat→Ob)(h1:fr 1=.cells [.list (P.progs.map Qp),.list (P.enums.map Qr)]) :
  Qh Tryz.prog 169 [Qp g,.ptr 3 1 0] [Qd,Qd,Qd,fr] fun y m1=>y=.bool (!Z1 P g)∧m1=[Qd,Qd,Qd,fr]:=by
 have hu:=QQj g hl;have e:Z1 P g=((g.ops.all X0&&ZT g)&&g.ops.all (Za P)):=by
  unfold Z1;rw[show(g.ops.all fun o=>Za P o&&X0 o)=(g.ops.all (Za P)&&g.ops.all X0)from Qac ..];cases ZT g<;>cases g.ops.all (Za P)<;>cases g.ops.all X0<;>rfl
 simp only[Qp,PG.cells]at hu;refine QfB.go (by simp) ?_;simp only[Qp,PG.cells,e,eE,seval];refine aC hu ?_;cases(g.ops.all X0&&ZT g)
 ·simp only[QXM,QXo,Qa,seval]
 simp only[QXT,QXU,eE,seval];refine Qj (BA g.ops (by simp only[maxLen];omega) (fun o=>!Za P o) 171 [.ptr 4 1 0] _ fun o _=>QQk P o _ fr h1) (by simp only[QWM,QXh,Qa,seval]<;>rfl) ?_;simp only[Xj,Qa,seval]

end

def Ck:F8:=fun k=>match k with
 |247=>some (QuD,QuE,16)
 |_=>none
theorem Ve:Gk Tryz.prog Ck:=by
 intro k c rs N h;unfold Ck at h;split at h
 ·cases h;exact QOs
 ·cases h
def Pv:Option (AV×Qn)→Bool
 |some (.mp ks vs,_)=>match JG alias ks vs with
  |some (.agg [.int .i64 a,.int .i64 b])=>a==7&&b==84
  |_=>false
 |_=>false
theorem Pw:Pv (Ya Ev.nat Ck (Z3 Ev.nat Ck 300) 247 [] [])=true:=by decide +kernel
theorem Qv8:∃ks vs,Qi Tryz.prog 247 [] (.mp ks vs)∧JG alias ks vs=some (.agg [.int .i64 7,.int .i64 84]):=by
 have h:=Pw;unfold Pv at h;split at h
 ·rename_i ks vs m' h1;split at h
  ·rename_i a b h2;simp only[QWE,QWm]at h;obtain⟨rfl,rfl⟩:=h;exact⟨ks,vs,(WL Ev.nat_ok Ve (MF Ev.nat_ok Ve 300) _ _ _ _ _ h1).mono fun _ _ e=>e.1,h2⟩
  ·cases h
 ·cases h

theorem QQm:Qi Tryz.prog 274 [.str alias] (.int .i64 7):=by
 obtain⟨ks,vs,h1,h2⟩:=Qv8;have hg:AV.gr (.agg [.int .i64 7,.int .i64 84])=true:=rfl;refine QOQ.fn (by simp) ?_;simp only[Qa,seval];refine aC h1 ?_;simp only[WD,h2,hg,Qa,seval]

section
variable (kd:Int)(b:Nat)(t:List UInt8)(l p s r:List AV)(hl:l.length≤140737488351232)(hp:p.length≤140737488351232)(hs:s.length≤140737488351232)(hr:r.length≤140737488351232)

def nv:AV:=.agg [.str alias,.int .i64 kd,.int .u64 (b:Nat),.str t,.list l,.list p,.list s,.list r]

include hl hp hs hr in
theorem QQn:Qi Tryz.prog 248 [nv kd b t l p s r] (.bool (Xk 7 kd b t l p s r)):=by
 have hf:=QQg 7 kd b t l p s r hl hp hs hr;have b0:((7:Int) != 0)=true:=rfl;simp only[vo]at hf;refine QOv.fn (by simp) ?_;simp only[nv,eE,seval];refine aC QQm ?_;simp only[b0,eE,seval];refine aC hf ?_;simp only[Qa,seval]

include hl hp hs hr in
theorem QQo (last:List UInt8):Qi Tryz.prog 222 [nv kd b t l p s r,.int .i64 4,.str last,.bool false] (.int .i64 (if Xk 7 kd b t l p s r=true then 0 else 12)):=by
 have hf:=QQn kd b t l p s r hl hp hs hr;obtain⟨ks,vs,h1,h2⟩:=Qv8;have hg:AV.gr (.agg [.int .i64 7,.int .i64 84])=true:=rfl;have b0:decide ((4:Int)<1)=false:=rfl;have b1:decide ((4:Int) > 6)=false:=rfl;have b2:(0≤(4:Int))=True:=by simp
 have b3:(bits .and .i64 (Int.fdiv 84 (2 ^ min 4 64)) 1==0)=false:=by decide
 have b4:(bits .and .i64 ((84:Int).fdiv (2 ^ (min (4:Int).toNat IntKind.i64.bits))) 1==0)=false:=by decide
 simp only[nv]at hf;refine QN1.fn (by simp) ?_;simp only[nv,eE,seval];refine aC h1 ?_;simp only[h2,hg,b2,b3,eE,seval];refine aC hf ?_;cases Xk 7 kd b t l p s r
 ·simp only[QXo,QWz,Qa,seval]
 ·simp only[QXU,Qa,seval]

def NcI (k:Nat)(st:St):Prop :=
 ∃f fr i,st=⟨f,[fr],[]⟩∧k=1-i∧i≤1∧(i=0→∃last,f 5=.str last)∧(i=1→Xk 7 kd b t l p s r=true)∧f 1=.int .i64 4∧f 12=.list [nv kd b t l p s r]∧f 13=.int .i64 1∧f 14=.int .i64 (i:Nat)∧∀s∈[7],(fr s).isRow=false

include hl hp hs hr in
theorem QQp:Qi Tryz.prog 177 [.list [nv kd b t l p s r],.int .i64 4] (.int .i64 (if Xk 7 kd b t l p s r=true then 0 else 12)):=by
 have b0:decide (((1:Nat):Int) > 8)=false:=rfl;refine QNm.fn (by simp) ?_;simp only[QWv,QXc,QWW,Qa,seval];refine Qc (NcI kd b t l p s r) 1 ⟨_,_,0,rfl,rfl,QWo _,fun _=>⟨[],(by rfl)⟩,(fun h=>by cases h),(by rfl),(by rfl),(by rfl),(by rfl),by simp<;>rfl⟩ ?_;rintro _ st ⟨f0,fr0,i,rfl,rfl,hi,hl5,hf,h10,h120,h130,h140,r7⟩;refine QN (a:=_) [7] r7 ?_;intro f fr hff hm hn7;have h1:f 1=.int .i64 4:=by rw[hff,h10]<;>rfl
 have h12:f 12=.list [nv kd b t l p s r]:=by rw[hff,h120]<;>rfl
 have h13:f 13=.int .i64 1:=by rw[hff,h130]<;>rfl
 have h14:f 14=.int .i64 (i:Nat):=by rw[hff,h140]<;>rfl
 have h5:i=0→∃last,f 5=.str last:=fun h=>by
  obtain⟨la,e⟩:=hl5 h;exact⟨la,by rw[hff,e]<;>rfl⟩
 have n7:=hn7 7 (by decide);clear hff hm hn7 h10 h120 h130 h140 r7 hl5;have ho:=fun la=>QQo kd b t l p s r hl hp hs hr la
 simp only[nv]at ho h12;simp only[h13,h14,Qa,seval];rcases Nat.le_one_iff_eq_zero_or_eq_one.1 hi with rfl|rfl
 ·obtain⟨la,h5⟩:=h5 rfl;have c0:decide (((0:Nat):Int)<1)=true:=rfl;have c1:decide (((0:Nat):Int) > 0)=false:=rfl;have e1:IntKind.i64.wrap (((0:Nat):Int)+1)=((1:Nat):Int):=rfl;have z0:(0≤((0:Nat):Int))=True:=by simp
  have z1:Int.toNat ((0:Nat):Int)=0:=rfl;simp only[Qb,n7,h1,h5,h12,h14,eE,seval];refine aC (ho la) ?_;cases hfv:Xk 7 kd b t l p s r
  ·have d0:((12:Int) != 0)=true:=rfl;simp only[d0,QWz,Qa,seval]
  ·have d0:((0:Int) != 0)=false:=rfl;simp only[d0,h14,eE,seval];exact⟨0,by omega,_,_,1,rfl,rfl,QWe _,(fun h=>by cases h),fun _=>hfv,(by exact h1),(by exact h12),(by exact h13),(by rfl),by simp<;>rfl⟩
 ·have c0:decide (((1:Nat):Int)<1)=false:=rfl;simp only[hf rfl,Qa,seval]

end

theorem Cm {M:Nat}{n:PN}(h:n.ok Tryz.prog M 32)(hM:M≤140737488351232):∃kd b t l p s r,n.val=[.int .i64 kd,.int .u64 ((b:Nat):Int),.str t,.list l,.list p,.list s,.list r]∧t.length≤M∧l.length≤140737488351232∧p.length≤140737488351232∧s.length≤140737488351232∧r.length≤140737488351232:=by
 obtain⟨_,k,hk⟩:=h;obtain⟨k,h⟩:=Zd Tryz.underlying32 hk;simp only[Q6.HasL]at h;obtain⟨_,_,e,h0,_,_,rfl,h1,_,_,rfl,h2,_,_,rfl,h3,_,_,rfl,h4,_,_,rfl,h5,_,_,rfl,h6,rfl⟩:=h;obtain⟨a0,rfl,w0⟩:=Xw Tryz.underlying3 h0;obtain⟨a1,rfl,w1⟩:=Xw Tryz.underlying26 h1;obtain⟨a2,rfl,w2⟩:=Jr Tryz.underlying9 h2;obtain⟨_,l3,rfl,w3,_⟩:=K6 Tryz.underlying27 h3;obtain⟨_,l4,rfl,w4,_⟩:=K6 Tryz.underlying28 h4;obtain⟨_,l5,rfl,w5,_⟩:=K6 Tryz.underlying29 h5;obtain⟨_,l6,rfl,w6,_⟩:=K6 Tryz.underlying30 h6;have hb:0≤a1:=F6 w1;obtain⟨b,rfl⟩:=QXV hb;exact⟨a0,b,a2,_,_,_,_,e,w2,by simp;omega,by simp;omega,by simp;omega,by simp;omega⟩

theorem QQq {M:Nat}(hM:M≤140737488351232)(x:PI)(hx:x.ok M)(m:Qn):Qh Tryz.prog 176 [Xe x] m fun y m1=>y=.bool (!ZV x)∧m1=m:=by
 have z0:(0≤(0:Int))=True:=by simp
 have z1:Int.toNat 0=0:=rfl;refine QNj.go (by simp) ?_;simp only[Xe,PI.cells,QXb,eE,seval];rcases hn:x.notes with _|⟨n,_|⟨n2,ns⟩⟩
 ·have c0:decide (((0:Nat):Int) > 1)=false:=rfl;have c1:(((0:Nat):Int)==1)=false:=rfl;have e:ZV x=true:=by unfold ZV;rw[hn]
  simp only[QXc,QXh,e,QXU,eE,seval]
 ·obtain⟨kd,b,t,l,p,s,r,hv,ht,h3,h4,h5,h6⟩:=Cm (hx.notes n (by rw[hn];simp)) hM;have c0:decide (((1:Nat):Int) > 1)=false:=rfl;have c1:(((1:Nat):Int)==1)=true:=rfl;have e:ZV x=(n.name==alias&&Xk 7 kd b t l p s r):=by
   unfold ZV;rw[hn];show(n.name==alias&&nok n.val)=_;rw[hv];rfl
  have en:Xs n.cells=.agg [.str n.name,.int .i64 kd,.int .u64 ((b:Nat):Int),.str t,.list l,.list p,.list s,.list r]:=by
   rw[PN.cells,hv];rfl
  have hne:(!(n.name==[97,108,105,97,115]))=!(n.name==alias):=rfl;have hc:=QQp kd b t l p s r h3 h4 h5 h6;simp only[nv]at hc;simp only[QWv,QXc,QWM,QXh,QWW,en,Qb,z0,z1,QXi,QL,hne,e,eE,seval];by_cases ha:n.name=alias
  ·have b0:(n.name==alias)=true:=by simp[ha]
   rw[←ha]at hc;simp only[b0,QXU,QXT,eE,seval];refine aC hc ?_;cases Xk 7 kd b t l p s r
   ·have d0:((12:Int) != 0)=true:=rfl;simp only[QWz,d0,QXo,Qa,seval]
   ·have d0:((0:Int) != 0)=false:=rfl;simp only[d0,QXU,Qa,seval]
  ·have b0:(n.name==alias)=false:=by simp[ha]
   simp only[b0,QXo,QXM,Qa,seval]
 ·have c0:decide ((((ns.length+1+1:Nat)):Int) > 1)=true:=QYa (by omega);have e:ZV x=false:=by unfold ZV;rw[hn]
  simp only[QWv,c0,e,QXo,Qa,seval]

theorem QQr {M:Nat}(hM:M≤140737488351232)(x:PE)(hx:x.ok M)(m:Qn):Qh Tryz.prog 175 [Qr x] m fun y m1=>y=.bool (!KB x)∧m1=m:=by
 have n1:decide ((x.notes.length:Int) > 0)=!x.notes.isEmpty:=by
  cases x.notes with
  |nil=>rfl
  |cons a l=>simp
 refine QNg.go (by simp) ?_;simp only[Qr,PE.cells,QXb,KB,n1,eE,seval];cases a1:x.notes.isEmpty
 ·simp only[QXo,QXM,Qa,seval]
 simp only[QXU,QXT,eE,seval];refine Qj (Cg x.items hx.len1 (fun o=>!ZV o) 176 [] _ fun o ho=>QQq hM o (hx.items o ho) _) (by simp only[QWM,QXh,Qa,seval]<;>rfl) ?_;simp only[Xj,Qa,seval]

theorem z87 {M:Nat}(hM:M≤140737488351232)(P:PL)(hP:P.ok M)(hl:∀g∈P.progs,g.ops.length≤64):Qi Tryz.prog 87 [P.av] (.bool (!args P)):=by
 have e0:P.av=.agg [.list (P.progs.map Qp),.list (P.enums.map Qr)]:=rfl;refine k87.fn (by simp) ?_;simp only[e0,args,eE,seval];refine Qj (Dv P.progs hP.len1 (fun g=>!Z1 P g) 169 [.ptr 0 1 0] _ fun o ho=>QQl P o (QWf (hl o ho) (by decide)) _ (by rfl)) (by simp only[QWM,QXh,Qa,seval]<;>rfl) ?_;simp only[Xj,Qa,seval];cases P.progs.all (Z1 P)
 ·simp only[QXo,QXM,Qa,seval]
 simp only[QXU,QXT,eE,seval];refine Qj (HA P.enums hP.len2 (fun g=>!KB g) 175 [] _ fun o ho=>QQr hM o (hP.enums o ho) _) (by simp only[QWM,QXh,Qa,seval]<;>rfl) ?_;simp only[Xj,Qa,seval]

def XD (B:List Bool)(o:PO):Bool:=o.card==1&&o.kind==10 && !(B[o.target.toNat]?.getD false)
def Ul (G:List PG)(B:List Bool)(i:Nat):List Bool:=match G[i]? with
 |some g=>B.set i (!g.ops.any (XD B))
 |none=>B
def Z7 (G:List PG)(B:List Bool):Nat→List Bool
 |0=>B
 |i+1=>Ul G (Z7 G B i) i
def Qe (G:List PG):Nat→List Bool
 |0=>List.replicate G.length false
 |c+1=>Z7 G (Qe G c) G.length
def fin (P:PL):Bool:=(Qe P.progs P.progs.length).all id

def Px (P:PL):Prop:=∀g∈P.progs,∀o∈g.ops,o.kind=10→0≤o.target∧o.target<(P.progs.length:Int)

theorem Qad (G:List PG)(B:List Bool)(i:Nat):(Ul G B i).length=B.length:=by
 unfold Ul;split<;>simp
theorem UL (G:List PG)(B:List Bool):∀i,(Z7 G B i).length=B.length
 |0=>rfl
 |i+1=>by rw[Z7,Qad,UL G B i]
theorem UM (G:List PG):∀c,(Qe G c).length=G.length
 |0=>by simp[Qe]
 |c+1=>by rw[Qe,UL,UM G c]

def Vf (G:List PG)(B:List Bool):Prop:=∀(i:Nat) (g:PG),G[i]? = some g→B[i]? = some true→g.ops.any (XD B)=false

theorem Py {B B':List Bool}(h:∀k:Nat,B[k]?.getD false=true→B'[k]?.getD false=true){o:PO}(hn:XD B o=false):XD B' o=false:=by
 unfold XD at *;cases hc:(o.card==1&&o.kind==10)
 ·rfl
 ·rw[hc]at hn;simp only[QXT,Bool.not_eq_false']at hn ⊢;rw[h _ hn]

theorem Qae {G:List PG}{B:List Bool}(h:Vf G B)(i:Nat):Vf G (Ul G B i)∧∀k:Nat,B[k]?.getD false=true→(Ul G B i)[k]?.getD false=true:=by
 have mono:∀k:Nat,B[k]?.getD false=true→(Ul G B i)[k]?.getD false=true:=by
  intro k hk;unfold Ul;split
  ·rename_i g hg;by_cases hki:i=k
   ·subst hki;have hb:B[i]? = some true:=by
     cases hB:B[i]? with
     |none=>rw[hB]at hk;cases hk
     |some b=>rw[hB]at hk;simp at hk;rw[hk]
    have hlt:=(QWg.1 hb).1;rw[List.getElem?_set_self hlt,h i g hg hb];rfl
   ·rw[QYg hki];exact hk
  ·exact hk
 refine⟨fun j g hg hb=>?_,mono⟩;rw[List.any_eq_false];intro o ho;rw[Bool.not_eq_true];have hB:B[j]? = some true∨g.ops.any (XD B)=false:=by
  unfold Ul at hb;split at hb
  ·rename_i g' hg';by_cases hij:i=j
   ·subst hij;rw[hg]at hg';cases hg'
    right
    by_cases hlt:i<B.length
    ·rw[List.getElem?_set_self hlt]at hb
     simpa using hb
    ·rw[QXF (by simp;omega)]at hb;cases hb
   ·rw[QYg hij]at hb;exact .inl hb
  ·exact .inl hb
 have ha:g.ops.any (XD B)=false:=hB.elim (h j g hg) id;rw[List.any_eq_false]at ha;exact Py mono (by simpa using ha o ho)

theorem Dx {G:List PG}{B:List Bool}(h:Vf G B):∀i,Vf G (Z7 G B i)
 |0=>h
 |i+1=>(Qae (Dx h i) i).1
theorem Vg (G:List PG):∀c,Vf G (Qe G c)
 |0=>by
  intro i g _ hb;rw[Qe,List.getElem?_replicate]at hb;split at hb<;>cases hb
 |c+1=>Dx (Vg G c) _

theorem Qv9 {G:List PG}{B:List Bool}(h:Vf G B){i:Nat}{g:PG}{b:Bool}(hg:G[i]? = some g)(hb:B[i]? = some b):Ul G B i=B.set i (b || !g.ops.any (XD B)):=by
 unfold Ul;rw[hg];cases b with
 |false=>rfl
 |true=>
  show B.set i _=B.set i (true||_);rw[h i g hg hb];rfl

theorem Cn {P:Program}{f:Fr}{d:Nat}{Qe:List Am.Item}{m:Qn}{ds:List DF}{K:St→Prop}{k l s:Nat}{args:List RA}{ys:List AV}{v:AV}(hk:Qh P k ys m fun x m1=>x=v∧m1=m)(hy:args.map (RA.ev f)=ys)(h:QE P Qe ⟨QH f d v,m,ds⟩ K) :
  QE P (⟨some d,.callK l s (.f k) args,none⟩ :: Qe) ⟨f,m,ds⟩ K:=by
 refine⟨k,[],[],v,m,rfl,?_,rfl,h⟩;show Qh P k (args.map (RA.ev f)++[]) m fun x m1=>x=v∧m1=m
 rw[QXj,hy];exact hk

theorem QQs (B:List Bool)(hl:B.length≤maxLen):Qi Tryz.prog 223 [.list (B.map AV.bool),.bool false] (.int .i64 (XN (fun b=>!b) B 0)):=by
 let I:Nat→St→Prop:=fun k st=>∃f i,st=⟨f,[Qd],[]⟩∧k=B.length-i∧XN (fun b=>!b) B 0=XN (fun b=>!b) (B.drop i) i∧f 0=.list (B.map AV.bool)∧f 1=.bool false∧f 7=.int .i64 (B.length:Nat)∧f 8=.int .i64 (i:Nat)
 refine QjI.fn (by simp) ?_;simp only[QXb,Qa,seval];refine Qc I _ ⟨_,0,rfl,rfl,rfl,(by rfl),(by rfl),(by rfl),(by rfl)⟩ ?_;rintro _ st ⟨f,i,rfl,rfl,hx,h0,h1,h7,h8⟩;simp only[h7,h8,Qa,seval];by_cases hlt:i<B.length
 ·obtain⟨x,hi⟩:∃x,B[i]? = some x:=⟨B[i],QWh hlt⟩;have hg:(B.map AV.bool)[i]? = some (.bool x):=by simp[hi]
  have e1:=Qo i _ hlt hl;rw[Je _ hi]at hx;cases x
  ·rw[QWJ (show(!false)=true from rfl)]at hx;have b0:(false==false)=true:=rfl;simp only[Ql hlt,Qg,QXI,Qb,hg,b0,h0,h1,h8,hx,eE,seval]
  ·rw[QWu (by decide)]at hx;have b0:(false==true)=false:=rfl;simp only[Ql hlt,Qg,QXI,Qb,hg,b0,h0,h1,h8,e1,eE,seval];exact⟨B.length-(i+1),by omega,_,i+1,rfl,rfl,hx,(by exact h0),(by exact h1),(by exact h7),(by rfl)⟩
 ·have hx':XN (fun b=>!b) B 0 = -1:=by rw[hx,QWR (by omega)];rfl
  simp only[QA hlt,hx',Qa,seval]

theorem QQt (B:List Bool)(hl:B.length≤maxLen):Qi Tryz.prog 179 [.list (B.map AV.bool),.bool false] (.bool (!B.all id)):=by
 have e:(!B.all id)=B.any fun b=>!b:=by rw[Xj];rfl
 refine Qgq.fn (by simp) ?_;simp only[Qa,seval];refine aC (QQs B hl) ?_;simp only[JM,e,Qa,seval]

theorem QQu (o:PO)(n:Nat)(B:List Bool)(hB:B.length=n)(ht:o.kind=10→0≤o.target∧o.target<(n:Int))(fr:Nat→Ob)(m:Qn)(h3:fr 3=.cells [.vec 0 9 1 0 n false])(h9:fr 9=.vec 1 1 (B.map AV.bool)) :
  Qh Tryz.prog 178 [Qv o,.ptr 3 3 0] (Qd :: Qd :: Qd :: fr :: m) fun y m1=>y=.bool (XD B o)∧m1=Qd :: Qd :: Qd :: fr :: m:=by
 refine Qgl.go (by simp) ?_;simp only[Qv,PO.cells,XD,eE,seval];cases a1:(o.card==1)
 ·simp only[QXM,Qa,seval]
 cases a2:(o.kind==10)
 ·simp only[a2,QXM,QYc,eE,seval]
 obtain⟨t1,t2⟩:=ht (by simpa using a2);obtain⟨t,hte⟩:=QXV t1;obtain⟨y,hy⟩:∃y,B[t]? = some y:=⟨B[t]'(by omega),QWh (by omega)⟩;have hg:(B.map AV.bool)[t]? = some (.bool y):=by simp[hy]
 have hlt:(t<n)=True:=eq_true (by omega);simp only[a2,hte,hy,hg,hlt,h3,h9,Qb,Qg,QXI,QXr,QXT,QWW,eE,seval]

structure En (P:PL)(c:Nat)(B:List Bool)(f:Fr)(fr:Nat→Ob):Prop where
 h1:f 1=.ptr 0 1 0
 m1:fr 1=.cells [.list (P.progs.map Qp),.list (P.enums.map Qr)]
 h3:f 3=.ptr 0 3 0
 m3:fr 3=.cells [.vec 0 9 1 0 P.progs.length false]
 m9:fr 9=.vec 1 1 (B.map AV.bool)
 h12:f 12=.int .i64 (P.progs.length:Nat)
 h13:f 13=.int .i64 (c:Nat)
 r5:∀s∈[5],(fr s).isRow=false

theorem En.drop {P:PL}{c:Nat}{B:List Bool}{f f':Fr}{fr fr':Nat→Ob}(h:En P c B f fr)(hf:∀i,f' i=V4 [5] (f i))(hm:∀i,i∉[5]→fr' i=Gi [5] (fr i))(hn:∀i∈[5],fr' i=.none):En P c B f' fr' where
 h1:=by rw[hf,h.h1]<;>rfl
 m1:=by rw[hm 1 (by decide),h.m1]<;>rfl
 h3:=by rw[hf,h.h3]<;>rfl
 m3:=by rw[hm 3 (by decide),h.m3]<;>rfl
 m9:=by rw[hm 9 (by decide),h.m9]<;>rfl
 h12:=by rw[hf,h.h12]<;>rfl
 h13:=by rw[hf,h.h13]<;>rfl
 r5:=fun s hs=>by rw[hn s hs]<;>rfl

def EnA (P:PL)(k:Nat)(st:St):Prop:=∃f fr c,st=⟨f,[fr],[]⟩∧k=P.progs.length-c∧c≤P.progs.length∧En P c (Qe P.progs c) f fr
def EnB (P:PL)(c:Nat)(k:Nat)(st:St):Prop:=∃f fr i,st=⟨f,[fr],[]⟩∧k=P.progs.length-i∧i≤P.progs.length∧En P c (Z7 P.progs (Qe P.progs c) i) f fr∧f 16=.list (P.progs.map Qp)∧f 17=.int .i64 (P.progs.length:Nat)∧f 18=.int .i64 (i:Nat)

theorem z88 {M:Nat}(P:PL)(hP:P.ok M)(hl:P.progs.length≤64)(hT:Px P):Qi Tryz.prog 88 [P.av] (.bool (!fin P)):=by
 have e0:P.av=.agg [.list (P.progs.map Qp),.list (P.enums.map Qr)]:=rfl;have hmx:P.progs.length≤maxLen:=by simp only[maxLen];omega
 have hz:JI 1 [AV.bool false]=.bool false:=rfl;have hr0:(List.replicate P.progs.length (AV.bool false))=(Qe P.progs 0).map AV.bool:=by simp[Qe]
 refine k88.fn (by simp) ?_;simp only[e0,QXb,eE,seval];refine UI (n:=P.progs.length) (k:=P.progs.length) rfl rfl (QWe _) (by omega) (by omega) rfl ?_;simp only[hz,hr0,QXb,eE,seval];refine Qc (EnA P) _ ⟨_,_,0,rfl,rfl,QWo _,⟨(by rfl),(by rfl),(by rfl),(by rfl),(by rfl),(by rfl),(by rfl),by simp<;>rfl⟩⟩ ?_;rintro _ st ⟨f0,fr0,c,rfl,rfl,hc,H0⟩;refine QN (a:=_) [5] H0.r5 ?_;intro f fr hf hm hn;have H:=H0.drop hf hm hn;clear hf hm hn;obtain⟨h1,m1,h3,m3,m9,h12,h13,r5⟩:=id H;simp only[h12,h13,Qa,seval];by_cases hlt:c<P.progs.length
 ·have e1:=Qo c _ hlt hmx;simp only[Ql hlt,h1,m1,QXb,eE,seval];refine Qc (EnB P c) _ ⟨_,_,0,rfl,rfl,QWo _,⟨(by exact h1),(by exact m1),(by exact h3),(by exact m3),(by exact m9),(by exact h12),(by exact h13),r5⟩,(by rfl),(by rfl),(by rfl)⟩ ?_;rintro _ st ⟨f0,fr0,i,rfl,rfl,hi,H0,h160,h170,h180⟩;refine QN (a:=_) [5] H0.r5 ?_;intro f fr hf hm hn;have H:=H0.drop hf hm hn;have h16:f 16=.list (P.progs.map Qp):=by rw[hf,h160]<;>rfl
  have h17:f 17=.int .i64 (P.progs.length:Nat):=by rw[hf,h170]<;>rfl
  have h18:f 18=.int .i64 (i:Nat):=by rw[hf,h180]<;>rfl
  have n5:=hn 5 (by decide);clear hf hm hn;obtain⟨h1,m1,h3,m3,m9,h12,h13,r5⟩:=id H;simp only[h17,h18,Qa,seval];by_cases hli:i<P.progs.length
  ·obtain⟨g,hg⟩:∃g,P.progs[i]? = some g:=⟨P.progs[i],QWh hli⟩;have hgm:(P.progs.map Qp)[i]? = some (Qp g):=by simp[hg]
   have hBl:(Z7 P.progs (Qe P.progs c) i).length=P.progs.length:=by rw[UL,UM]
   obtain⟨b,hb⟩:∃b,(Z7 P.progs (Qe P.progs c) i)[i]? = some b:=⟨_,QWh (by omega)⟩;have hbm:((Z7 P.progs (Qe P.progs c) i).map AV.bool)[i]? = some (.bool b):=by simp[hb]
   have hst:=Qv9 (Dx (Vg P.progs c) i) hg hb;have e2:=Qo i _ hli hmx;have s1:(i<P.progs.length)=True:=eq_true hli;have hTg:=hT g (QWt hg);generalize hBB:Z7 P.progs (Qe P.progs c) i=B at *;have fin2:∀(f':Fr) (fr':Nat→Ob) (v:Bool),(b || !g.ops.any (XD B))=v→f' 1=.ptr 0 1 0→fr' 1=.cells [.list (P.progs.map Qp),.list (P.enums.map Qr)]→f' 3=.ptr 0 3 0→fr' 3=.cells [.vec 0 9 1 0 P.progs.length false]→
     fr' 9=.vec 1 1 ((B.map AV.bool).set i (.bool v))→f' 12=.int .i64 (P.progs.length:Nat)→f' 13=.int .i64 (c:Nat)→(∀s∈[5],(fr' s).isRow=false)→f' 16=.list (P.progs.map Qp)→f' 17=.int .i64 (P.progs.length:Nat)→f' 18=.int .i64 ((i+1:Nat):Int)→∃k,k<P.progs.length-i∧EnB P c k ⟨f',[fr'],[]⟩:=by
    intro f' fr' v hv a1 a2 a3 a4 a5 a6 a7 a8 a9 a10 a11;have hB':Z7 P.progs (Qe P.progs c) (i+1)=B.set i v:=by rw[Z7,hBB,hst,hv]
    exact⟨P.progs.length-(i+1),by omega,f',fr',i+1,rfl,rfl,by omega,⟨a1,a2,a3,a4,by rw[hB',a5,List.map_set],a6,a7,a8⟩,a9,a10,a11⟩
   have ist:∀(fr':Nat→Ob) (v:Bool),fr' 9=.vec 1 1 (B.map AV.bool)→QX [fr'] (.vptr 0 9 1 i 0) [.bool v]=some [QH fr' 9 (.vec 1 1 ((B.map AV.bool).set i (.bool v)))]:=by
    intro fr' v h9;have e:Am.Qf [fr'] 0 9=.vec 1 1 (B.map AV.bool):=h9;simp only[QX,e,hbm];simp[AV.cells,AV.rfL,AV.rf,Am.put,ZF]
   have ia:∀fr':Nat→Ob,fr' 9=.vec 1 1 (B.map AV.bool)→Qb [fr'] 1 none (.vec 0 9 1 0 P.progs.length false) (i:Int)=some (.vptr 0 9 1 i 0):=by
    intro fr' h9;have e:Am.Qf [fr'] 0 9=.vec 1 1 (B.map AV.bool):=h9;simp only[Qb,e,Qg,if_true,QXI];simp;omega
   have hcl:=fun(fr':Nat→Ob) (h3:fr' 3=.cells [.vec 0 9 1 0 P.progs.length false]) (h9:fr' 9=.vec 1 1 (B.map AV.bool))=>BA g.ops (hP.progs g (QWt hg)).len (XD B) 178 [.ptr 0 3 0] [fr'] fun o ho=>QQu o P.progs.length B hBl (hTg o ho) fr' _ h3 h9
   simp only[Ql hli,Qg,QXI,Qb,hgm,Qp,PG.cells,n5,hbm,s1,QWW,h3,h16,h18,m3,m9,eE,seval];cases b
   ·simp only[eE,seval];refine Cn (hcl _ (by exact m3) (by exact m9)) (by simp only[QWM,QXh,h3,Qa,seval]<;>rfl) ?_;generalize hav:g.ops.any (XD B)=av;rw[hav]at fin2;simp only[ia,ist,h18,m9,e2,eE,seval];exact fin2 _ _ _ rfl (by exact h1) (by exact m1) (by exact h3) (by exact m3) (by rfl) (by exact h12) (by exact h13) (by simp<;>rfl) (by exact h16) (by exact h17) (by rfl)
   ·simp only[ia,ist,h18,m9,e2,eE,seval];exact fin2 _ _ _ rfl (by exact h1) (by exact m1) (by exact h3) (by exact m3) (by rfl) (by exact h12) (by exact h13) (by simp<;>rfl) (by exact h16) (by exact h17) (by rfl)
  ·have hii:i=P.progs.length:=by omega
   subst hii;simp only[QA hli,h13,e1,Qa,seval];exact⟨P.progs.length-(c+1),by omega,_,_,c+1,rfl,rfl,by omega,⟨(by exact h1),(by exact m1),(by exact h3),(by exact m3),m9,(by exact h12),(by rfl),r5⟩⟩
 ·have hcc:c=P.progs.length:=by omega
  subst hcc;have hBl:=UM P.progs P.progs.length;simp only[QA hlt,h3,m3,eE,seval];refine Xr (QQt (Qe P.progs P.progs.length) (by omega)) ?_ rfl rfl (.inr rfl) ?_
  ·have el:Am.Qf [fr] 0 9=.vec 1 1 ((Qe P.progs P.progs.length).map AV.bool):=m9;simp only[QWM,QXh,AV.stillL,AV.still,el,Qa,seval];have hle:(0+P.progs.length≤((Qe P.progs P.progs.length).map AV.bool).length)=True:=eq_true (by simp;omega);have ht:((Qe P.progs P.progs.length).map AV.bool).take P.progs.length=(Qe P.progs P.progs.length).map AV.bool:=QWO (by simp;omega);simp only[QXM,QWz,if_false,hle,if_true,ht]
  ·simp only[fin,Qa,seval]

def ck (P:PL):Int :=
 if Hh P=false then 3 else if Bx P=false then 8 else if Hi P=false then 11 else if Bz P=false then 9 else if GC P=false then 6 else if args P=false then 1 else if fin P=false then 19 else 0

theorem Um {P:PL}(h:Hh P=true):P.progs.length≤64∧P.enums.length≤64∧(∀g∈P.progs,g.ops.length≤64)∧∀e∈P.enums,1≤e.items.length∧e.items.length≤64∧e.free.length≤16:=by
 unfold Hh at h;simp only[QWE,QWl,QWs]at h;obtain⟨⟨⟨h1,h2⟩,h3⟩,h4⟩:=h;refine⟨h1,h2,fun g hg=>?_,fun e he=>?_⟩
 ·have:=h3 g hg;unfold Z0 at this;exact of_decide_eq_true this
 ·have:=h4 e he;unfold Jx at this;simp only[QWE,QWl]at this;exact⟨this.1.1,this.1.2,this.2⟩

theorem BJ {P:PL}(h:args P=true):Px P:=by
 intro g hg o ho hk;unfold args at h;simp only[QWE,QWs]at h;have h1:=h.1 g hg;unfold Z1 at h1;simp only[QWE,QWs]at h1;have h2:=(h1.2 o ho).1;unfold Za at h2;simp only[QWE]at h2;have h3:=h2.2;unfold GF at h3;rw[QWJ hk]at h3;simp only[QWE,QWl]at h3;exact⟨h3.1.1,h3.1.2⟩

theorem QQv {M:Nat}(P:PL)(hP:P.ok M)(hM:M≤140737488351232)(hN1:∀g∈P.progs,g.name.length≤17592186044000)(hN2:∀g∈P.enums,g.name.length≤17592186044000):Qi Tryz.prog 57 [P.av] (.int .i64 (ck P)):=by
 have e0:P.av=.agg [.list (P.progs.map Qp),.list (P.enums.map Qr)]:=rfl;have c1:=z82 P hP;have c2:=QPL P hP hN1 hN2;have c3:=z84 P hP;have c4:=z85 P hP;refine k57.fn (by simp) ?_;simp only[e0,ck,eE,seval];refine aC c1 ?_;cases hl:Hh P
 ·simp only[QXo,Qa,seval]
 obtain⟨l1,l2,l3,l4⟩:=Um hl;have c5:=z86 P hP fun e he h=>by have:=(l4 e he).1;rw[h]at this;simp at this
 have c6:=z87 hM P hP l3;simp only[QXU,QYh,eE,seval];refine aC c2 ?_;cases Bx P
 ·simp only[QXo,Qa,seval]
 simp only[QXU,QYh,eE,seval];refine aC c3 ?_;cases Hi P
 ·simp only[QXo,Qa,seval]
 simp only[QXU,QYh,eE,seval];refine aC c4 ?_;cases Bz P
 ·simp only[QXo,Qa,seval]
 simp only[QXU,QYh,eE,seval];refine aC c5 ?_;cases GC P
 ·simp only[QXo,Qa,seval]
 simp only[QXU,QYh,eE,seval];refine aC c6 ?_;cases ha:args P
 ·simp only[QXo,Qa,seval]
 have c7:=z88 P hP l1 (BJ ha);simp only[QXU,QYh,eE,seval];refine aC c7 ?_;cases fin P
 ·simp only[QXo,Qa,seval]
 ·simp only[QXU,QYh,Qa,seval]

def Pc (P:PL):List AV:=[.list (P.progs.map Qp),.list (P.enums.map Qr)]

theorem Ji (b:Bool)(q:Nat→Bool)(i:Nat):(b&&QB q (i+1))=((b&&QB q i)&&q i):=by rw[QB,QW0]

section
variable {M:Nat}(P:PL)(hP:P.ok M)(fr:Nat→Ob)(m1:fr 1=.cells (Pc P))(f:Fr)(b:Bool)(h1:f 1=.ptr 0 1 0)(h3:f 3=.bool b)(Q:Exit→St→Prop)
include hP m1 h1 h3

theorem Co (ha:f 4=.int .i64 0)(hx:∀f,f 1=.ptr 0 1 0→f 3=.bool (b&&P.progs.all Z0)→Q (.exit 0) (⟨f,[fr],[]⟩:St)):QG Tryz.prog (.loop SY) ⟨f,[fr],[]⟩ Q:=by
 let I:Nat→St→Prop:=fun k st=>∃f i,st=⟨f,[fr],[]⟩∧k=P.progs.length-i∧i≤P.progs.length∧f 1=.ptr 0 1 0∧f 3=.bool (b&&(P.progs.take i).all Z0)∧f 4=.int .i64 (i:Nat)
 refine Qc I _ ⟨f,0,rfl,rfl,QWo _,h1,by rw[h3];simp,ha⟩ ?_;clear h1 h3 ha;simp only[Pc]at m1;rintro _ st ⟨f,i,rfl,rfl,hi,h1,h3,ha⟩;simp only[QXb,h1,m1,ha,eE,seval];by_cases hlt:i<P.progs.length
 ·obtain⟨x,hg⟩:∃x,P.progs[i]? = some x:=⟨P.progs[i],QWh hlt⟩;have hgm:(P.progs.map Qp)[i]? = some (.agg x.cells):=by simp[hg,Qp]
  have e1:=Qo i _ hlt hP.len1;have ht:=Q5 (q:=Z0) hg;have e3:decide ((x.ops.length:Int)≤64)=Z0 x:=by unfold Z0 ;exact(by rw[QXa];simp only[QWl];omega)
  have fin:∀f':Fr,f' 1=.ptr 0 1 0→f' 3=.bool ((b&&(P.progs.take i).all Z0)&&Z0 x)→f' 4=.int .i64 ((i+1:Nat):Int)→∃k,k<P.progs.length-i∧I k ⟨f',[fr],[]⟩:=by
   intro f' a1 a3 a4;exact⟨P.progs.length-(i+1),by omega,f',i+1,rfl,rfl,by omega,a1,by rw[a3,ht,QW0],a4⟩
  simp only[PG.cells]at hgm;cases hb:(b&&(P.progs.take i).all Z0)
  ·rw[hb]at fin h3;simp only[Ql hlt,h3,ha,e1,Qa,seval];exact fin _ (by exact h1) (by rfl) (by rfl)
  ·rw[hb,QXT]at fin;rw[hb]at h3
   skip
   all_goals
    try rw[c1]at e3
    try rw[c2]at e3
    simp only[Ql hlt,Qg,QXI,Qb,hgm,QXb,h1,m1,h3,ha,e1,e3,eE,seval];exact fin _ (by exact h1) (by rw[←e3]<;>first|rfl|simp only[eE,seval]) (by rfl)
 ·have hf:(P.progs.take i).all Z0=P.progs.all Z0:=by rw[QWO (by omega)]
  rw[hf]at h3;simp only[QA hlt,Qa,seval];exact hx _ (by exact h1) (by exact h3)

theorem Cq (ha:f 5=.int .i64 0)(hx:∀f,f 1=.ptr 0 1 0→f 3=.bool (b&&P.enums.all Jx)→Q (.exit 2) (⟨f,[fr],[]⟩:St)):QG Tryz.prog (.loop SZ) ⟨f,[fr],[]⟩ Q:=by
 let I:Nat→St→Prop:=fun k st=>∃f i,st=⟨f,[fr],[]⟩∧k=P.enums.length-i∧i≤P.enums.length∧f 1=.ptr 0 1 0∧f 3=.bool (b&&(P.enums.take i).all Jx)∧f 5=.int .i64 (i:Nat)
 refine Qc I _ ⟨f,0,rfl,rfl,QWo _,h1,by rw[h3];simp,ha⟩ ?_;clear h1 h3 ha;simp only[Pc]at m1;rintro _ st ⟨f,i,rfl,rfl,hi,h1,h3,ha⟩;simp only[QXb,h1,m1,ha,eE,seval];by_cases hlt:i<P.enums.length
 ·obtain⟨x,hg⟩:∃x,P.enums[i]? = some x:=⟨P.enums[i],QWh hlt⟩;have hgm:(P.enums.map Qr)[i]? = some (.agg x.cells):=by simp[hg,Qr]
  have e1:=Qo i _ hlt hP.len2;have ht:=Q5 (q:=Jx) hg;have e3:(decide ((x.items.length:Int)≥1)&&(decide ((x.items.length:Int)≤64)&&decide ((x.free.length:Int)≤16)))=Jx x:=by unfold Jx ;exact(by rw[QXa];simp only[QWl,QWE];omega)
  have fin:∀f':Fr,f' 1=.ptr 0 1 0→f' 3=.bool ((b&&(P.enums.take i).all Jx)&&Jx x)→f' 5=.int .i64 ((i+1:Nat):Int)→∃k,k<P.enums.length-i∧I k ⟨f',[fr],[]⟩:=by
   intro f' a1 a3 a4;exact⟨P.enums.length-(i+1),by omega,f',i+1,rfl,rfl,by omega,a1,by rw[a3,ht,QW0],a4⟩
  simp only[PE.cells]at hgm;cases hb:(b&&(P.enums.take i).all Jx)
  ·rw[hb]at fin h3;simp only[Ql hlt,Qg,QXI,Qb,hgm,QXb,h1,m1,h3,ha,e1,eE,seval];exact fin _ (by exact h1) (by rfl) (by rfl)
  ·rw[hb,QXT]at fin;rw[hb]at h3
   (cases c1:decide ((x.items.length:Int)≥1)<;>cases c2:decide ((x.items.length:Int)≤64))
   all_goals
    try rw[c1]at e3
    try rw[c2]at e3
    simp only[Ql hlt,Qg,QXI,Qb,hgm,QXb,h1,m1,h3,ha,e1,c1,c2,eE,seval];exact fin _ (by exact h1) (by rw[←e3]<;>first|rfl|simp only[eE,seval]) (by rfl)
 ·have hf:(P.enums.take i).all Jx=P.enums.all Jx:=by rw[QWO (by omega)]
  rw[hf]at h3;simp only[QA hlt,Qa,seval];exact hx _ (by exact h1) (by exact h3)

theorem GH (j:Nat)(x:PG)(hj:P.progs[j]? = some x)(ha:f 4=.int .i64 (j:Nat))(hc:f 5=.int .i64 0)(hx:∀f,f 1=.ptr 0 1 0→f 3=.bool (b&&x.ops.all fun o=>XH o.name)→f 4=.int .i64 (j:Nat)→Q (.exit 2) (⟨f,[fr],[]⟩:St)):QG Tryz.prog (.loop S0) ⟨f,[fr],[]⟩ Q:=by
 let I:Nat→St→Prop:=fun k st=>∃f i,st=⟨f,[fr],[]⟩∧k=x.ops.length-i∧i≤x.ops.length∧f 1=.ptr 0 1 0∧f 3=.bool (b&&(x.ops.take i).all fun o=>XH o.name)∧f 4=.int .i64 (j:Nat)∧f 5=.int .i64 (i:Nat)
 have hjm:(P.progs.map Qp)[j]? = some (.agg x.cells):=by simp[hj,Qp]
 have hsl:x.ops.length≤maxLen:=(hP.progs x (QWt hj)).len;refine Qc I _ ⟨f,0,rfl,rfl,QWo _,h1,by rw[h3];simp,ha,hc⟩ ?_;clear h1 h3 ha hc;simp only[Pc]at m1;simp only[PG.cells]at hjm;rintro _ st ⟨f,i,rfl,rfl,hi,h1,h3,ha,hc⟩;simp only[Qg,QXI,Qb,hjm,QXb,h1,m1,ha,hc,eE,seval];by_cases hlt:i<x.ops.length
 ·obtain⟨o,hg⟩:∃o,x.ops[i]? = some o:=⟨x.ops[i],QWh hlt⟩;have hgm:(x.ops.map fun o=>AV.agg o.cells)[i]? = some (.agg o.cells):=by simp[hg]
  have e1:=Qo i _ hlt hsl;have ht:=Q5 (q:=fun o=>XH o.name) hg;have fin:∀f':Fr,f' 1=.ptr 0 1 0→f' 3=.bool ((b&&(x.ops.take i).all fun o=>XH o.name)&&XH o.name)→f' 4=.int .i64 (j:Nat)→f' 5=.int .i64 ((i+1:Nat):Int)→∃k,k<x.ops.length-i∧I k ⟨f',[fr],[]⟩:=by
   intro f' a1 a3 a4 a5;exact⟨x.ops.length-(i+1),by omega,f',i+1,rfl,rfl,by omega,a1,by rw[a3,ht,QW0],a4,a5⟩
  simp only[PO.cells]at hgm;cases hb:(b&&(x.ops.take i).all fun o=>XH o.name)
  ·rw[hb]at fin h3;simp only[Ql hlt,PO.cells,h3,hc,e1,Qa,seval];exact fin _ (by exact h1) (by rfl) (by exact ha) (by rfl)
  ·rw[hb,QXT]at fin;rw[hb]at h3;simp only[Ql hlt,Qg,QXI,Qb,hjm,hgm,PO.cells,h1,m1,h3,ha,hc,eE,seval];refine aC (z69 o.name) ?_;simp only[hc,e1,Qa,seval];exact fin _ (by exact h1) (by rfl) (by exact ha) (by rfl)
 ·have hf:(x.ops.take i).all (fun o=>XH o.name)=x.ops.all fun o=>XH o.name:=by rw[QWO (by omega)]
  rw[hf]at h3;simp only[QA hlt,Qa,seval];exact hx _ (by exact h1) (by exact h3) (by exact ha)

theorem Cr (ha:f 4=.int .i64 0)(hx:∀f,f 1=.ptr 0 1 0→f 3=.bool (b&&P.progs.all Kz)→Q (.exit 0) (⟨f,[fr],[]⟩:St)):QG Tryz.prog (.loop S1) ⟨f,[fr],[]⟩ Q:=by
 let I:Nat→St→Prop:=fun k st=>∃f i,st=⟨f,[fr],[]⟩∧k=P.progs.length-i∧i≤P.progs.length∧f 1=.ptr 0 1 0∧f 3=.bool (b&&(P.progs.take i).all Kz)∧f 4=.int .i64 (i:Nat)
 have m1':=m1;refine Qc I _ ⟨f,0,rfl,rfl,QWo _,h1,by rw[h3];simp,ha⟩ ?_;clear h1 h3 ha;simp only[Pc]at m1;rintro _ st ⟨f,i,rfl,rfl,hi,h1,h3,ha⟩;simp only[QXb,h1,m1,ha,eE,seval];by_cases hlt:i<P.progs.length
 ·obtain⟨x,hg⟩:∃x,P.progs[i]? = some x:=⟨P.progs[i],QWh hlt⟩;have hgm:(P.progs.map Qp)[i]? = some (.agg x.cells):=by simp[hg,Qp]
  have e1:=Qo i _ hlt hP.len1;have ht:=Q5 (q:=Kz) hg;have hq:Kz x=(Ka x.name&&x.ops.all fun o=>XH o.name):=rfl;have fin:∀f':Fr,f' 1=.ptr 0 1 0→f' 3=.bool (((b&&(P.progs.take i).all Kz)&&Ka x.name)&&x.ops.all fun o=>XH o.name)→f' 4=.int .i64 ((i+1:Nat):Int)→∃k,k<P.progs.length-i∧I k ⟨f',[fr],[]⟩:=by
   intro f' a1 a3 a4;exact⟨P.progs.length-(i+1),by omega,f',i+1,rfl,rfl,by omega,a1,by rw[a3,ht,hq,QW0,QW0],a4⟩
  simp only[PG.cells]at hgm;cases hb:(b&&(P.progs.take i).all Kz)
  ·rw[hb,QXM]at fin;rw[hb]at h3;simp only[Ql hlt,h3,Qa,seval];refine GH P hP fr m1' _ false (by exact h1) (by rfl) _ i x hg (by exact ha) (by rfl) (fun f h1 h3 ha=>?_);simp only[ha,e1,Qa,seval];exact fin _ (by exact h1) (by exact h3) (by rfl)
  ·rw[hb,QXT]at fin;rw[hb]at h3;simp only[Ql hlt,Qg,QXI,Qb,hgm,h1,m1,h3,ha,eE,seval];refine aC (z68 x.name) ?_;simp only[Qa,seval];refine GH P hP fr m1' _ (Ka x.name) (by exact h1) (by rfl) _ i x hg (by exact ha) (by rfl) (fun f h1 h3 ha=>?_);simp only[ha,e1,Qa,seval];exact fin _ (by exact h1) (by exact h3) (by rfl)
 ·have hf:(P.progs.take i).all Kz=P.progs.all Kz:=by rw[QWO (by omega)]
  rw[hf]at h3;simp only[QA hlt,Qa,seval];exact hx _ (by exact h1) (by exact h3)

theorem GI (j:Nat)(x:PE)(hj:P.enums[j]? = some x)(ha:f 6=.int .i64 (j:Nat))(hc:f 7=.int .i64 0)(hx:∀f,f 1=.ptr 0 1 0→f 3=.bool (b&&x.items.all fun o=>XH o.name)→f 6=.int .i64 (j:Nat)→Q (.exit 6) (⟨f,[fr],[]⟩:St)):QG Tryz.prog (.loop S2) ⟨f,[fr],[]⟩ Q:=by
 let I:Nat→St→Prop:=fun k st=>∃f i,st=⟨f,[fr],[]⟩∧k=x.items.length-i∧i≤x.items.length∧f 1=.ptr 0 1 0∧f 3=.bool (b&&(x.items.take i).all fun o=>XH o.name)∧f 6=.int .i64 (j:Nat)∧f 7=.int .i64 (i:Nat)
 have hjm:(P.enums.map Qr)[j]? = some (.agg x.cells):=by simp[hj,Qr]
 have hsl:x.items.length≤maxLen:=(hP.enums x (QWt hj)).len1;refine Qc I _ ⟨f,0,rfl,rfl,QWo _,h1,by rw[h3];simp,ha,hc⟩ ?_;clear h1 h3 ha hc;simp only[Pc]at m1;simp only[PE.cells]at hjm;rintro _ st ⟨f,i,rfl,rfl,hi,h1,h3,ha,hc⟩;simp only[Qg,QXI,Qb,hjm,QXb,h1,m1,ha,hc,eE,seval];by_cases hlt:i<x.items.length
 ·obtain⟨o,hg⟩:∃o,x.items[i]? = some o:=⟨x.items[i],QWh hlt⟩;have hgm:(x.items.map fun o=>AV.agg o.cells)[i]? = some (.agg o.cells):=by simp[hg]
  have e1:=Qo i _ hlt hsl;have ht:=Q5 (q:=fun o=>XH o.name) hg;have fin:∀f':Fr,f' 1=.ptr 0 1 0→f' 3=.bool ((b&&(x.items.take i).all fun o=>XH o.name)&&XH o.name)→f' 6=.int .i64 (j:Nat)→f' 7=.int .i64 ((i+1:Nat):Int)→∃k,k<x.items.length-i∧I k ⟨f',[fr],[]⟩:=by
   intro f' a1 a3 a4 a5;exact⟨x.items.length-(i+1),by omega,f',i+1,rfl,rfl,by omega,a1,by rw[a3,ht,QW0],a4,a5⟩
  simp only[PI.cells]at hgm;cases hb:(b&&(x.items.take i).all fun o=>XH o.name)
  ·rw[hb]at fin h3;simp only[Ql hlt,PI.cells,h3,hc,e1,Qa,seval];exact fin _ (by exact h1) (by rfl) (by exact ha) (by rfl)
  ·rw[hb,QXT]at fin;rw[hb]at h3;simp only[Ql hlt,Qg,QXI,Qb,hjm,hgm,PI.cells,h1,m1,h3,ha,hc,eE,seval];refine aC (z69 o.name) ?_;simp only[hc,e1,Qa,seval];exact fin _ (by exact h1) (by rfl) (by exact ha) (by rfl)
 ·have hf:(x.items.take i).all (fun o=>XH o.name)=x.items.all fun o=>XH o.name:=by rw[QWO (by omega)]
  rw[hf]at h3;simp only[QA hlt,Qa,seval];exact hx _ (by exact h1) (by exact h3) (by exact ha)

theorem Ct (ha:f 6=.int .i64 0)(hx:∀f,f 1=.ptr 0 1 0→f 3=.bool (b&&P.enums.all KU)→Q (.exit 4) (⟨f,[fr],[]⟩:St)):QG Tryz.prog (.loop S3) ⟨f,[fr],[]⟩ Q:=by
 let I:Nat→St→Prop:=fun k st=>∃f i,st=⟨f,[fr],[]⟩∧k=P.enums.length-i∧i≤P.enums.length∧f 1=.ptr 0 1 0∧f 3=.bool (b&&(P.enums.take i).all KU)∧f 6=.int .i64 (i:Nat)
 have m1':=m1;refine Qc I _ ⟨f,0,rfl,rfl,QWo _,h1,by rw[h3];simp,ha⟩ ?_;clear h1 h3 ha;simp only[Pc]at m1;rintro _ st ⟨f,i,rfl,rfl,hi,h1,h3,ha⟩;simp only[QXb,h1,m1,ha,eE,seval];by_cases hlt:i<P.enums.length
 ·obtain⟨x,hg⟩:∃x,P.enums[i]? = some x:=⟨P.enums[i],QWh hlt⟩;have hgm:(P.enums.map Qr)[i]? = some (.agg x.cells):=by simp[hg,Qr]
  have e1:=Qo i _ hlt hP.len2;have ht:=Q5 (q:=KU) hg;have hq:KU x=(Ka x.name&&x.items.all fun o=>XH o.name):=rfl;have fin:∀f':Fr,f' 1=.ptr 0 1 0→f' 3=.bool (((b&&(P.enums.take i).all KU)&&Ka x.name)&&x.items.all fun o=>XH o.name)→f' 6=.int .i64 ((i+1:Nat):Int)→∃k,k<P.enums.length-i∧I k ⟨f',[fr],[]⟩:=by
   intro f' a1 a3 a4;exact⟨P.enums.length-(i+1),by omega,f',i+1,rfl,rfl,by omega,a1,by rw[a3,ht,hq,QW0,QW0],a4⟩
  simp only[PE.cells]at hgm;cases hb:(b&&(P.enums.take i).all KU)
  ·rw[hb,QXM]at fin;rw[hb]at h3;simp only[Ql hlt,h3,Qa,seval];refine GI P hP fr m1' _ false (by exact h1) (by rfl) _ i x hg (by exact ha) (by rfl) (fun f h1 h3 ha=>?_);simp only[ha,e1,Qa,seval];exact fin _ (by exact h1) (by exact h3) (by rfl)
  ·rw[hb,QXT]at fin;rw[hb]at h3;simp only[Ql hlt,Qg,QXI,Qb,hgm,h1,m1,h3,ha,eE,seval];refine aC (z68 x.name) ?_;simp only[Qa,seval];refine GI P hP fr m1' _ (Ka x.name) (by exact h1) (by rfl) _ i x hg (by exact ha) (by rfl) (fun f h1 h3 ha=>?_);simp only[ha,e1,Qa,seval];exact fin _ (by exact h1) (by exact h3) (by rfl)
 ·have hf:(P.enums.take i).all KU=P.enums.all KU:=by rw[QWO (by omega)]
  rw[hf]at h3;simp only[QA hlt,Qa,seval];exact hx _ (by exact h1) (by exact h3)

theorem Yy (j:Nat)(x:PG)(hj:P.progs[j]? = some x)(ha:f 4=.int .i64 (j:Nat))(hc:f 5=.int .i64 1)(hx:∀f,f 1=.ptr 0 1 0→f 3=.bool (b&&Jg x)→f 4=.int .i64 (j:Nat)→Q (.exit 2) (⟨f,[fr],[]⟩:St)):QG Tryz.prog (.loop S4) ⟨f,[fr],[]⟩ Q:=by
 let I:Nat→St→Prop:=fun k st=>∃f i,st=⟨f,[fr],[]⟩∧k=x.ops.length-i∧f 1=.ptr 0 1 0∧f 3=.bool (b&&QB (Xa x.ops (Ze PO.num)) (i+1))∧f 4=.int .i64 (j:Nat)∧f 5=.int .i64 ((i+1:Nat):Int)∧(i+1≤x.ops.length∨i=0)
 have hjm:(P.progs.map Qp)[j]? = some (.agg x.cells):=by simp[hj,Qp]
 have hsl:x.ops.length≤maxLen:=(hP.progs x (QWt hj)).len;refine Qc I _ ⟨f,0,rfl,rfl,h1,by rw[h3];simp[QB,Xa],ha,hc,.inr rfl⟩ ?_;clear h1 h3 ha hc;simp only[Pc]at m1;simp only[PG.cells]at hjm;rintro _ st ⟨f,i,rfl,rfl,h1,h3,ha,hc,hi⟩;simp only[Qg,QXI,Qb,hjm,QXb,h1,m1,ha,hc,eE,seval];by_cases hlt:i+1<x.ops.length
 ·obtain⟨o,hg⟩:∃o,x.ops[i]? = some o:=⟨x.ops[i]'(by omega),QWh (by omega)⟩;obtain⟨o2,hg2⟩:∃o,x.ops[i+1]? = some o:=⟨x.ops[i+1],QWh hlt⟩;have hgm:(x.ops.map fun o=>AV.agg o.cells)[i]? = some (.agg o.cells):=by simp[hg]
  have hgm2:(x.ops.map fun o=>AV.agg o.cells)[i+1]? = some (.agg o2.cells):=by simp[hg2]
  have e1:=Qo (i+1) _ hlt hsl;have e2:=Wn i _ hlt hsl;have ht:=Ji b (Xa x.ops (Ze PO.num)) (i+1);rw[Jf hg hg2]at ht;have hq:(Ze PO.num) o o2=decide (o.num<o2.num):=rfl;rw[hq]at ht;have fin:∀f':Fr,f' 1=.ptr 0 1 0→f' 3=.bool ((b&&QB (Xa x.ops (Ze PO.num)) (i+1))&&decide (o.num<o2.num))→f' 4=.int .i64 (j:Nat)→f' 5=.int .i64 ((i+1+1:Nat):Int)→∃k,k<x.ops.length-i∧I k ⟨f',[fr],[]⟩:=by
   intro f' a1 a3 a4 a5;exact⟨x.ops.length-(i+1),by omega,f',i+1,rfl,rfl,a1,by rw[a3,ht],a4,a5,.inl (by omega)⟩
  simp only[PO.cells]at hgm hgm2;cases hb:(b&&QB (Xa x.ops (Ze PO.num)) (i+1))
  ·rw[hb]at fin h3;simp only[Ql hlt,PO.cells,h3,hc,e1,Qa,seval];exact fin _ (by exact h1) (by rfl) (by exact ha) (by rfl)
  ·rw[hb,QXT]at fin;rw[hb]at h3;simp only[Ql hlt,Qg,QXI,Qb,hjm,hgm,hgm2,PO.cells,h1,m1,h3,ha,hc,e1,e2,eE,seval];exact fin _ (by exact h1) (by rfl) (by exact ha) (by rfl)
 ·have hf:QB (Xa x.ops (Ze PO.num)) (i+1)=Jg x:=by
   show _=QB (Xa x.ops (Ze PO.num)) x.ops.length;rcases hi with h|h
   ·rw[show i+1=x.ops.length by omega]
   ·subst h;rcases QW4 x.ops.length with h0|h0
    ·rw[h0];rfl
    ·rw[show x.ops.length=1 by omega]
  rw[hf]at h3;simp only[QA hlt,Qa,seval];exact hx _ (by exact h1) (by exact h3) (by exact ha)

theorem Cu (ha:f 4=.int .i64 0)(hx:∀f,f 1=.ptr 0 1 0→f 3=.bool (b&&(XX P.progs (XI PG.name)&&P.progs.all Jg))→Q (.exit 0) (⟨f,[fr],[]⟩:St)):QG Tryz.prog (.loop S5) ⟨f,[fr],[]⟩ Q:=by
 let q:Nat→Bool:=fun i=>Xa P.progs (XI PG.name) i&&Hg P.progs Jg i
 let I:Nat→St→Prop:=fun k st=>∃f i,st=⟨f,[fr],[]⟩∧k=P.progs.length-i∧i≤P.progs.length∧f 1=.ptr 0 1 0∧f 3=.bool (b&&QB q i)∧f 4=.int .i64 (i:Nat)
 have m1':=m1;have hqa:QB q P.progs.length=(XX P.progs (XI PG.name)&&P.progs.all Jg):=by
  show QB (fun i=>Xa P.progs (XI PG.name) i&&Hg P.progs Jg i) _=_;rw[Hy,Hz];rfl
 refine Qc I _ ⟨f,0,rfl,rfl,QWo _,h1,by rw[h3];simp[QB],ha⟩ ?_;clear h1 h3 ha;simp only[Pc]at m1;rintro _ st ⟨f,i,rfl,rfl,hi,h1,h3,ha⟩;simp only[QXb,h1,m1,ha,eE,seval];by_cases hlt:i<P.progs.length
 ·obtain⟨x,hg⟩:∃x,P.progs[i]? = some x:=⟨P.progs[i],QWh hlt⟩;have hgm:(P.progs.map Qp)[i]? = some (.agg x.cells):=by simp[hg,Qp]
  have e1:=Qo i _ hlt hP.len1;have ht:=Ji b q i;have hq:q i=(Xa P.progs (XI PG.name) i&&Jg x):=by show(_&&Hg P.progs Jg i)=_;rw[Yd hg]
  rw[hq,←QW0]at ht;have fin:∀f':Fr,f' 1=.ptr 0 1 0→f' 3=.bool (((b&&QB q i)&&Xa P.progs (XI PG.name) i)&&Jg x)→f' 4=.int .i64 ((i+1:Nat):Int)→∃k,k<P.progs.length-i∧I k ⟨f',[fr],[]⟩:=by
   intro f' a1 a3 a4;exact⟨P.progs.length-(i+1),by omega,f',i+1,rfl,rfl,by omega,a1,by rw[a3,ht],a4⟩
  simp only[PG.cells]at hgm;cases hb:(b&&QB q i)
  ·rw[hb,QXM]at fin;rw[hb]at h3;simp only[Ql hlt,h3,Qa,seval];refine Yy P hP fr m1' _ false (by exact h1) (by rfl) _ i x hg (by exact ha) (by rfl) (fun f h1 h3 ha=>?_);simp only[ha,e1,Qa,seval];exact fin _ (by exact h1) (by exact h3) (by rfl)
  ·rw[hb,QXT]at fin;rw[hb]at h3;cases i with
   |zero=>
    have b0:(((0:Nat):Int)==0)=true:=rfl;rw[Yv]at fin;simp only[Ql hlt,b0,h3,ha,Qa,Nat.reduceBEq,↓reduceIte];refine Yy P hP fr m1' _ true (by exact h1) (by rfl) _ 0 x hg (by exact ha) (by rfl) (fun f h1 h3 ha=>?_);simp only[ha,e1,Qa,Nat.reduceBEq,↓reduceIte,Nat.reduceAdd];exact fin _ (by exact h1) (by exact h3) (by rfl)
   |succ j=>
    obtain⟨y,hgj⟩:∃y,P.progs[j]? = some y:=⟨P.progs[j]'(by omega),QWh (by omega)⟩;have hgjm:(P.progs.map Qp)[j]? = some (.agg y.cells):=by simp[hgj,Qp]
    have b0:(((j+1:Nat):Int)==0)=false:=by rw[QXY];omega
    have e2:=Wn j _ hlt hP.len1;rw[Jf hgj hg]at fin;have hq2:(XI PG.name) y x=Op.bytesLess y.name x.name:=rfl;rw[hq2]at fin;simp only[PG.cells]at hgjm;simp only[Ql hlt,Qg,QXI,Qb,hgm,hgjm,b0,e2,QL,h1,m1,h3,ha,eE,seval];refine Yy P hP fr m1' _ (Op.bytesLess y.name x.name) (by exact h1) (by rfl) _ (j+1) x hg (by exact ha) (by rfl) (fun f h1 h3 ha=>?_);simp only[ha,e1,Qa,seval];exact fin _ (by exact h1) (by exact h3) (by rfl)
 ·have hf:QB q i=(XX P.progs (XI PG.name)&&P.progs.all Jg):=by rw[show i=P.progs.length by omega,hqa]
  rw[hf]at h3;simp only[QA hlt,Qa,seval];exact hx _ (by exact h1) (by exact h3)

theorem Yz (j:Nat)(x:PE)(hj:P.enums[j]? = some x)(ha:f 6=.int .i64 (j:Nat))(hc:f 7=.int .i64 1)(hx:∀f,f 1=.ptr 0 1 0→f 3=.bool (b&&JL x)→f 6=.int .i64 (j:Nat)→Q (.exit 6) (⟨f,[fr],[]⟩:St)):QG Tryz.prog (.loop S6) ⟨f,[fr],[]⟩ Q:=by
 let I:Nat→St→Prop:=fun k st=>∃f i,st=⟨f,[fr],[]⟩∧k=x.items.length-i∧f 1=.ptr 0 1 0∧f 3=.bool (b&&QB (Xa x.items (Ze PI.num)) (i+1))∧f 6=.int .i64 (j:Nat)∧f 7=.int .i64 ((i+1:Nat):Int)∧(i+1≤x.items.length∨i=0)
 have hjm:(P.enums.map Qr)[j]? = some (.agg x.cells):=by simp[hj,Qr]
 have hsl:x.items.length≤maxLen:=(hP.enums x (QWt hj)).len1;refine Qc I _ ⟨f,0,rfl,rfl,h1,by rw[h3];simp[QB,Xa],ha,hc,.inr rfl⟩ ?_;clear h1 h3 ha hc;simp only[Pc]at m1;simp only[PE.cells]at hjm;rintro _ st ⟨f,i,rfl,rfl,h1,h3,ha,hc,hi⟩;simp only[Qg,QXI,Qb,hjm,QXb,h1,m1,ha,hc,eE,seval];by_cases hlt:i+1<x.items.length
 ·obtain⟨o,hg⟩:∃o,x.items[i]? = some o:=⟨x.items[i]'(by omega),QWh (by omega)⟩;obtain⟨o2,hg2⟩:∃o,x.items[i+1]? = some o:=⟨x.items[i+1],QWh hlt⟩;have hgm:(x.items.map fun o=>AV.agg o.cells)[i]? = some (.agg o.cells):=by simp[hg]
  have hgm2:(x.items.map fun o=>AV.agg o.cells)[i+1]? = some (.agg o2.cells):=by simp[hg2]
  have e1:=Qo (i+1) _ hlt hsl;have e2:=Wn i _ hlt hsl;have ht:=Ji b (Xa x.items (Ze PI.num)) (i+1);rw[Jf hg hg2]at ht;have hq:(Ze PI.num) o o2=decide (o.num<o2.num):=rfl;rw[hq]at ht;have fin:∀f':Fr,f' 1=.ptr 0 1 0→f' 3=.bool ((b&&QB (Xa x.items (Ze PI.num)) (i+1))&&decide (o.num<o2.num))→f' 6=.int .i64 (j:Nat)→f' 7=.int .i64 ((i+1+1:Nat):Int)→∃k,k<x.items.length-i∧I k ⟨f',[fr],[]⟩:=by
   intro f' a1 a3 a4 a5;exact⟨x.items.length-(i+1),by omega,f',i+1,rfl,rfl,a1,by rw[a3,ht],a4,a5,.inl (by omega)⟩
  simp only[PI.cells]at hgm hgm2;cases hb:(b&&QB (Xa x.items (Ze PI.num)) (i+1))
  ·rw[hb]at fin h3;simp only[Ql hlt,PI.cells,h3,hc,e1,Qa,seval];exact fin _ (by exact h1) (by rfl) (by exact ha) (by rfl)
  ·rw[hb,QXT]at fin;rw[hb]at h3;simp only[Ql hlt,Qg,QXI,Qb,hjm,hgm,hgm2,PI.cells,h1,m1,h3,ha,hc,e1,e2,eE,seval];exact fin _ (by exact h1) (by rfl) (by exact ha) (by rfl)
 ·have hf:QB (Xa x.items (Ze PI.num)) (i+1)=JL x:=by
   show _=QB (Xa x.items (Ze PI.num)) x.items.length;rcases hi with h|h
   ·rw[show i+1=x.items.length by omega]
   ·subst h;rcases QW4 x.items.length with h0|h0
    ·rw[h0];rfl
    ·rw[show x.items.length=1 by omega]
  rw[hf]at h3;simp only[QA hlt,Qa,seval];exact hx _ (by exact h1) (by exact h3) (by exact ha)

theorem Cv (ha:f 6=.int .i64 0)(hx:∀f,f 1=.ptr 0 1 0→f 3=.bool (b&&(XX P.enums (XI PE.name)&&P.enums.all JL))→Q (.exit 4) (⟨f,[fr],[]⟩:St)):QG Tryz.prog (.loop S7) ⟨f,[fr],[]⟩ Q:=by
 let q:Nat→Bool:=fun i=>Xa P.enums (XI PE.name) i&&Hg P.enums JL i
 let I:Nat→St→Prop:=fun k st=>∃f i,st=⟨f,[fr],[]⟩∧k=P.enums.length-i∧i≤P.enums.length∧f 1=.ptr 0 1 0∧f 3=.bool (b&&QB q i)∧f 6=.int .i64 (i:Nat)
 have m1':=m1;have hqa:QB q P.enums.length=(XX P.enums (XI PE.name)&&P.enums.all JL):=by
  show QB (fun i=>Xa P.enums (XI PE.name) i&&Hg P.enums JL i) _=_;rw[Hy,Hz];rfl
 refine Qc I _ ⟨f,0,rfl,rfl,QWo _,h1,by rw[h3];simp[QB],ha⟩ ?_;clear h1 h3 ha;simp only[Pc]at m1;rintro _ st ⟨f,i,rfl,rfl,hi,h1,h3,ha⟩;simp only[QXb,h1,m1,ha,eE,seval];by_cases hlt:i<P.enums.length
 ·obtain⟨x,hg⟩:∃x,P.enums[i]? = some x:=⟨P.enums[i],QWh hlt⟩;have hgm:(P.enums.map Qr)[i]? = some (.agg x.cells):=by simp[hg,Qr]
  have e1:=Qo i _ hlt hP.len2;have ht:=Ji b q i;have hq:q i=(Xa P.enums (XI PE.name) i&&JL x):=by show(_&&Hg P.enums JL i)=_;rw[Yd hg]
  rw[hq,←QW0]at ht;have fin:∀f':Fr,f' 1=.ptr 0 1 0→f' 3=.bool (((b&&QB q i)&&Xa P.enums (XI PE.name) i)&&JL x)→f' 6=.int .i64 ((i+1:Nat):Int)→∃k,k<P.enums.length-i∧I k ⟨f',[fr],[]⟩:=by
   intro f' a1 a3 a4;exact⟨P.enums.length-(i+1),by omega,f',i+1,rfl,rfl,by omega,a1,by rw[a3,ht],a4⟩
  simp only[PE.cells]at hgm;cases hb:(b&&QB q i)
  ·rw[hb,QXM]at fin;rw[hb]at h3;simp only[Ql hlt,h3,Qa,seval];refine Yz P hP fr m1' _ false (by exact h1) (by rfl) _ i x hg (by exact ha) (by rfl) (fun f h1 h3 ha=>?_);simp only[ha,e1,Qa,seval];exact fin _ (by exact h1) (by exact h3) (by rfl)
  ·rw[hb,QXT]at fin;rw[hb]at h3;cases i with
   |zero=>
    have b0:(((0:Nat):Int)==0)=true:=rfl;rw[Yv]at fin;simp only[Ql hlt,b0,h3,ha,Qa,Nat.reduceBEq,↓reduceIte];refine Yz P hP fr m1' _ true (by exact h1) (by rfl) _ 0 x hg (by exact ha) (by rfl) (fun f h1 h3 ha=>?_);simp only[ha,e1,Qa,Nat.reduceBEq,↓reduceIte,Nat.reduceAdd];exact fin _ (by exact h1) (by exact h3) (by rfl)
   |succ j=>
    obtain⟨y,hgj⟩:∃y,P.enums[j]? = some y:=⟨P.enums[j]'(by omega),QWh (by omega)⟩;have hgjm:(P.enums.map Qr)[j]? = some (.agg y.cells):=by simp[hgj,Qr]
    have b0:(((j+1:Nat):Int)==0)=false:=by rw[QXY];omega
    have e2:=Wn j _ hlt hP.len2;rw[Jf hgj hg]at fin;have hq2:(XI PE.name) y x=Op.bytesLess y.name x.name:=rfl;rw[hq2]at fin;simp only[PE.cells]at hgjm;simp only[Ql hlt,Qg,QXI,Qb,hgm,hgjm,b0,e2,QL,h1,m1,h3,ha,eE,seval];refine Yz P hP fr m1' _ (Op.bytesLess y.name x.name) (by exact h1) (by rfl) _ (j+1) x hg (by exact ha) (by rfl) (fun f h1 h3 ha=>?_);simp only[ha,e1,Qa,seval];exact fin _ (by exact h1) (by exact h3) (by rfl)
 ·have hf:QB q i=(XX P.enums (XI PE.name)&&P.enums.all JL):=by rw[show i=P.enums.length by omega,hqa]
  rw[hf]at h3;simp only[QA hlt,Qa,seval];exact hx _ (by exact h1) (by exact h3)

end

section
variable {M:Nat}(P:PL)(hP:P.ok M)
include hP

theorem z36:Qi Tryz.prog 36 [P.av] (.bool (Hh P)):=by
 have e0:P.av=.agg [.list (P.progs.map Qp),.list (P.enums.map Qr)]:=rfl;have e1:decide ((P.progs.length:Int)≤64)=decide (P.progs.length≤64):=by rw[decide_eq_decide];omega
 have e2:decide ((P.enums.length:Int)≤64)=decide (P.enums.length≤64):=by rw[decide_eq_decide];omega
 refine k36.fn (by simp) ?_;simp only[e0,QXb,e1,eE,seval];have hl:Hh P=((decide (P.progs.length≤64)&&decide (P.enums.length≤64)&&P.progs.all Z0)&&P.enums.all Jx):=rfl;cases a1:decide (P.progs.length≤64)<;>simp only[e2,QXb,eE,seval]
 all_goals
  refine Co P hP _ (by rfl) _ _ (by rfl) (by rfl) _ (by rfl) (fun f h1 h3=>?_);simp only[Qa,seval];refine Cq P hP _ (by rfl) _ _ (by exact h1) (by exact h3) _ (by rfl) (fun f h1 h3=>?_);simp only[h3,hl,a1,QXM,QXT,Qa,seval]

theorem z37:Qi Tryz.prog 37 [P.av] (.bool (Bx P)):=by
 have e0:P.av=.agg [.list (P.progs.map Qp),.list (P.enums.map Qr)]:=rfl;refine k37.fn (by simp) ?_;simp only[e0,eE,seval];refine Cr P hP _ (by rfl) _ true (by rfl) (by rfl) _ (by rfl) (fun f h1 h3=>?_);simp only[Qa,seval];refine Ct P hP _ (by rfl) _ _ (by exact h1) (by exact h3) _ (by rfl) (fun f h1 h3=>?_);simp only[h3,Bx,QXT,Qa,seval]

theorem z38:Qi Tryz.prog 38 [P.av] (.bool (Hi P)):=by
 have e0:P.av=.agg [.list (P.progs.map Qp),.list (P.enums.map Qr)]:=rfl;have e:Hi P=((XX P.progs (XI PG.name)&&P.progs.all Jg)&&(XX P.enums (XI PE.name)&&P.enums.all JL)):=by
  unfold Hi;cases XX P.progs (XI PG.name)<;>cases P.progs.all Jg<;>cases XX P.enums (XI PE.name)<;>rfl
 refine k38.fn (by simp) ?_;simp only[e0,eE,seval];refine Cu P hP _ (by rfl) _ true (by rfl) (by rfl) _ (by rfl) (fun f h1 h3=>?_);simp only[Qa,seval];refine Cv P hP _ (by rfl) _ _ (by exact h1) (by exact h3) _ (by rfl) (fun f h1 h3=>?_);simp only[h3,e,QXT,Qa,seval]

end

theorem z70 (L:List PS)(hl:L.length≤maxLen)(n:Int):Qi Tryz.prog 70 [.list (L.map X9),.int .i64 n] (.bool (kept L n)):=by
 let I:Nat→St→Prop:=fun k st=>∃f i,st=⟨f,[Qd],[]⟩∧k=L.length-i∧kept L n=kept (L.drop i) n∧f 0=.list (L.map X9)∧f 1=.int .i64 n∧f 5=.int .i64 (i:Nat)
 refine k70.fn (by simp) ?_;simp only[Qa,seval];refine Qc I _ ⟨_,0,rfl,rfl,rfl,(by rfl),(by rfl),(by rfl)⟩ ?_;rintro _ st ⟨f,i,rfl,rfl,hx,h0,h1,h5⟩;simp only[QXb,h0,h5,Qa,seval];by_cases hlt:i<L.length
 ·obtain⟨x,hi⟩:∃x,L[i]? = some x:=⟨L[i],QWh hlt⟩;have hg:(L.map X9)[i]? = some (X9 x):=by simp[hi]
  have e1:=Qo i _ hlt hl;have hd:kept (L.drop i) n=((decide (x.lo≤n)&&decide (n≤x.hi))||kept (L.drop (i+1)) n):=by
   unfold kept;rw[QWY hlt,show L[i]=x from(QWg.1 hi).2];rfl
  rw[hd]at hx;simp only[Ql hlt,Qg,QXI,Qb,hg,X9,PS.cells,h0,h1,h5,eE,seval];cases a1:decide (x.lo≤n)
  ·rw[a1,QXM,QXX]at hx;simp only[h5,e1,Qa,seval];exact⟨L.length-(i+1),by omega,_,i+1,rfl,rfl,hx,(by exact h0),(by exact h1),(by rfl)⟩
  ·cases a2:decide (n≤x.hi)
   ·rw[a1,a2,QYc,QXX]at hx;simp only[a2,Qg,QXI,Qb,hg,X9,PS.cells,h0,h1,h5,e1,eE,seval];exact⟨L.length-(i+1),by omega,_,i+1,rfl,rfl,hx,(by exact h0),(by exact h1),(by rfl)⟩
   ·rw[a1,a2,QXu,QXW]at hx;simp only[a2,Qg,QXI,Qb,hg,X9,PS.cells,h0,h1,h5,hx,eE,seval]
 ·have hx':kept L n=false:=by rw[hx,QWR (by omega)];rfl
  simp only[QA hlt,hx',Qa,seval]

section
variable {M:Nat}(P:PL)(hP:P.ok M)(fr:Nat→Ob)(m1:fr 1=.cells (Pc P))(f:Fr)(b:Bool)(h1:f 1=.ptr 0 1 0)(h3:f 3=.bool b)(Q:Exit→St→Prop)

include h1 h3 in
theorem R6 (L:List PO)(hl:L.length≤maxLen)(j:Nat)(x:PO)(hj:L[j]? = some x)(n:Nat)(hr:f 4=.int .i64 (n:Nat))(hL:f 6=.list (L.map fun o=>.agg o.cells))(hc:f 7=.int .i64 (j:Nat))(hd:f 8=.int .i64 0)
  (hx:∀f,f 1=.ptr 0 1 0→f 3=.bool (b&&(L.take j).all fun y=>!(y.name==x.name))→f 4=.int .i64 (n:Nat)→f 6=.list (L.map fun o=>.agg o.cells)→f 7=.int .i64 (j:Nat)→Q (.exit 6) (⟨f,[fr],[]⟩:St)) :
  QG Tryz.prog (.loop S9) ⟨f,[fr],[]⟩ Q:=by
 let I:Nat→St→Prop:=fun k st=>∃f i,st=⟨f,[fr],[]⟩∧k=j-i∧i≤j∧f 1=.ptr 0 1 0∧f 3=.bool (b&&(L.take i).all fun y=>!(y.name==x.name))∧f 4=.int .i64 (n:Nat)∧f 6=.list (L.map fun o=>.agg o.cells)∧f 7=.int .i64 (j:Nat)∧f 8=.int .i64 (i:Nat)
 have hjl:j<L.length:=(QWg.1 hj).1;have hjm:(L.map fun o=>AV.agg o.cells)[j]? = some (.agg x.cells):=by simp[hj]
 refine Qc I _ ⟨f,0,rfl,rfl,QWo _,h1,by rw[h3];simp,hr,hL,hc,hd⟩ ?_;clear h1 h3 hr hL hc hd;simp only[PO.cells]at hjm;rintro _ st ⟨f,i,rfl,rfl,hi,h1,h3,hr,hL,hc,hd⟩;simp only[hc,hd,Qa,seval];by_cases hlt:i<j
 ·obtain⟨o,hg⟩:∃o,L[i]? = some o:=⟨L[i]'(by omega),QWh (by omega)⟩;have hgm:(L.map fun o=>AV.agg o.cells)[i]? = some (.agg o.cells):=by simp[hg]
  have e1:=Qo i _ (show i<L.length by omega) hl;have ht:=Q5 (q:=fun y:PO=>!(y.name==x.name)) hg;have fin:∀f':Fr,f' 1=.ptr 0 1 0→f' 3=.bool ((b&&(L.take i).all fun y=>!(y.name==x.name)) && !(o.name==x.name))→f' 4=.int .i64 (n:Nat)→f' 6=.list (L.map fun o=>.agg o.cells)→f' 7=.int .i64 (j:Nat)→f' 8=.int .i64 ((i+1:Nat):Int)→∃k,k<j-i∧I k ⟨f',[fr],[]⟩:=by
   intro f' a1 a3 a4 a5 a6 a7;exact⟨j-(i+1),by omega,f',i+1,rfl,rfl,by omega,a1,by rw[a3,ht,QW0],a4,a5,a6,a7⟩
  simp only[PO.cells]at hgm;cases hb:(b&&(L.take i).all fun y=>!(y.name==x.name))
  ·rw[hb]at fin h3;simp only[Ql hlt,h3,hd,e1,Qa,seval];exact fin _ (by exact h1) (by rfl) (by exact hr) (by exact hL) (by exact hc) (by rfl)
  ·rw[hb,QXT]at fin;rw[hb]at h3;simp only[Ql hlt,Qg,QXI,Qb,hgm,hjm,PO.cells,QL,h3,hL,hc,hd,e1,eE,seval];exact fin _ (by exact h1) (by rfl) (by exact hr) (by exact hL) (by exact hc) (by rfl)
 ·rw[show i=j by omega]at h3;simp only[QA hlt,Qa,seval];exact hx _ (by exact h1) (by exact h3) (by exact hr) (by exact hL) (by exact hc)

include h1 h3 in
theorem R7 (L:List PO)(hl:L.length≤maxLen)(n:Nat)(hr:f 4=.int .i64 (n:Nat))(hL:f 6=.list (L.map fun o=>.agg o.cells))(hc:f 7=.int .i64 0)
  (hx:∀f,f 1=.ptr 0 1 0→f 3=.bool (b&&Kx L PO.name)→f 4=.int .i64 (n:Nat)→Q (.exit 4) (⟨f,[fr],[]⟩:St)) :
  QG Tryz.prog (.loop Ta) ⟨f,[fr],[]⟩ Q:=by
 let I:Nat→St→Prop:=fun k st=>∃f i,st=⟨f,[fr],[]⟩∧k=L.length-i∧i≤L.length∧f 1=.ptr 0 1 0∧f 3=.bool (b&&QB (uniq L PO.name) i)∧f 4=.int .i64 (n:Nat)∧f 6=.list (L.map fun o=>.agg o.cells)∧f 7=.int .i64 (i:Nat)
 refine Qc I _ ⟨f,0,rfl,rfl,QWo _,h1,by rw[h3];simp[QB],hr,hL,hc⟩ ?_;clear h1 h3 hr hL hc;rintro _ st ⟨f,i,rfl,rfl,hi,h1,h3,hr,hL,hc⟩;simp only[QXb,hL,hc,Qa,seval];by_cases hlt:i<L.length
 ·obtain⟨o,hg⟩:∃o,L[i]? = some o:=⟨L[i],QWh hlt⟩;have e1:=Qo i _ hlt hl;have ht:=Ji b (uniq L PO.name) i;rw[UK hg]at ht;simp only[Ql hlt,Qa,seval];refine R6 fr _ (b&&QB (uniq L PO.name) i) (by exact h1) (by exact h3) _ L hl i o hg n (by exact hr) (by exact hL) (by exact hc) (by rfl) (fun f h1 h3 hr hL hc=>?_);simp only[hc,e1,Qa,seval];exact⟨L.length-(i+1),by omega,_,i+1,rfl,rfl,by omega,(by exact h1),by rw[ht]<;>first|exact h3|simp only[h3,eE,seval],(by exact hr),(by exact hL),(by rfl)⟩
 ·rw[show i=L.length by omega]at h3;simp only[QA hlt,Qa,seval];exact hx _ (by exact h1) (by exact h3) (by exact hr)

include h1 h3 in
theorem Cw (L:List PI)(hl:L.length≤maxLen)(j:Nat)(x:PI)(hj:L[j]? = some x)(n:Nat)(hr:f 9=.int .i64 (n:Nat))(hL:f 10=.list (L.map fun o=>.agg o.cells))(hc:f 11=.int .i64 (j:Nat))(hd:f 12=.int .i64 0)
  (hx:∀f,f 1=.ptr 0 1 0→f 3=.bool (b&&(L.take j).all fun y=>!(y.name==x.name))→f 9=.int .i64 (n:Nat)→f 10=.list (L.map fun o=>.agg o.cells)→f 11=.int .i64 (j:Nat)→Q (.exit 12) (⟨f,[fr],[]⟩:St)) :
  QG Tryz.prog (.loop Tc) ⟨f,[fr],[]⟩ Q:=by
 let I:Nat→St→Prop:=fun k st=>∃f i,st=⟨f,[fr],[]⟩∧k=j-i∧i≤j∧f 1=.ptr 0 1 0∧f 3=.bool (b&&(L.take i).all fun y=>!(y.name==x.name))∧f 9=.int .i64 (n:Nat)∧f 10=.list (L.map fun o=>.agg o.cells)∧f 11=.int .i64 (j:Nat)∧f 12=.int .i64 (i:Nat)
 have hjl:j<L.length:=(QWg.1 hj).1;have hjm:(L.map fun o=>AV.agg o.cells)[j]? = some (.agg x.cells):=by simp[hj]
 refine Qc I _ ⟨f,0,rfl,rfl,QWo _,h1,by rw[h3];simp,hr,hL,hc,hd⟩ ?_;clear h1 h3 hr hL hc hd;simp only[PI.cells]at hjm;rintro _ st ⟨f,i,rfl,rfl,hi,h1,h3,hr,hL,hc,hd⟩;simp only[hc,hd,Qa,seval];by_cases hlt:i<j
 ·obtain⟨o,hg⟩:∃o,L[i]? = some o:=⟨L[i]'(by omega),QWh (by omega)⟩;have hgm:(L.map fun o=>AV.agg o.cells)[i]? = some (.agg o.cells):=by simp[hg]
  have e1:=Qo i _ (show i<L.length by omega) hl;have ht:=Q5 (q:=fun y:PI=>!(y.name==x.name)) hg;have fin:∀f':Fr,f' 1=.ptr 0 1 0→f' 3=.bool ((b&&(L.take i).all fun y=>!(y.name==x.name)) && !(o.name==x.name))→f' 9=.int .i64 (n:Nat)→f' 10=.list (L.map fun o=>.agg o.cells)→f' 11=.int .i64 (j:Nat)→f' 12=.int .i64 ((i+1:Nat):Int)→∃k,k<j-i∧I k ⟨f',[fr],[]⟩:=by
   intro f' a1 a3 a4 a5 a6 a7;exact⟨j-(i+1),by omega,f',i+1,rfl,rfl,by omega,a1,by rw[a3,ht,QW0],a4,a5,a6,a7⟩
  simp only[PI.cells]at hgm;cases hb:(b&&(L.take i).all fun y=>!(y.name==x.name))
  ·rw[hb]at fin h3;simp only[Ql hlt,h3,hd,e1,Qa,seval];exact fin _ (by exact h1) (by rfl) (by exact hr) (by exact hL) (by exact hc) (by rfl)
  ·rw[hb,QXT]at fin;rw[hb]at h3;simp only[Ql hlt,Qg,QXI,Qb,hgm,hjm,PI.cells,QL,h3,hL,hc,hd,e1,eE,seval];exact fin _ (by exact h1) (by rfl) (by exact hr) (by exact hL) (by exact hc) (by rfl)
 ·rw[show i=j by omega]at h3;simp only[QA hlt,Qa,seval];exact hx _ (by exact h1) (by exact h3) (by exact hr) (by exact hL) (by exact hc)

include h1 h3 in
theorem Cx (L:List PI)(hl:L.length≤maxLen)(n:Nat)(hr:f 9=.int .i64 (n:Nat))(hL:f 10=.list (L.map fun o=>.agg o.cells))(hc:f 11=.int .i64 0)
  (hx:∀f,f 1=.ptr 0 1 0→f 3=.bool (b&&Kx L PI.name)→f 9=.int .i64 (n:Nat)→Q (.exit 10) (⟨f,[fr],[]⟩:St)) :
  QG Tryz.prog (.loop Td) ⟨f,[fr],[]⟩ Q:=by
 let I:Nat→St→Prop:=fun k st=>∃f i,st=⟨f,[fr],[]⟩∧k=L.length-i∧i≤L.length∧f 1=.ptr 0 1 0∧f 3=.bool (b&&QB (uniq L PI.name) i)∧f 9=.int .i64 (n:Nat)∧f 10=.list (L.map fun o=>.agg o.cells)∧f 11=.int .i64 (i:Nat)
 refine Qc I _ ⟨f,0,rfl,rfl,QWo _,h1,by rw[h3];simp[QB],hr,hL,hc⟩ ?_;clear h1 h3 hr hL hc;rintro _ st ⟨f,i,rfl,rfl,hi,h1,h3,hr,hL,hc⟩;simp only[QXb,hL,hc,Qa,seval];by_cases hlt:i<L.length
 ·obtain⟨o,hg⟩:∃o,L[i]? = some o:=⟨L[i],QWh hlt⟩;have e1:=Qo i _ hlt hl;have ht:=Ji b (uniq L PI.name) i;rw[UK hg]at ht;simp only[Ql hlt,Qa,seval];refine Cw fr _ (b&&QB (uniq L PI.name) i) (by exact h1) (by exact h3) _ L hl i o hg n (by exact hr) (by exact hL) (by exact hc) (by rfl) (fun f h1 h3 hr hL hc=>?_);simp only[hc,e1,Qa,seval];exact⟨L.length-(i+1),by omega,_,i+1,rfl,rfl,by omega,(by exact h1),by rw[ht]<;>first|exact h3|simp only[h3,eE,seval],(by exact hr),(by exact hL),(by rfl)⟩
 ·rw[show i=L.length by omega]at h3;simp only[QA hlt,Qa,seval];exact hx _ (by exact h1) (by exact h3) (by exact hr)

include hP m1 h1 h3

theorem QQw (j:Nat)(x:PG)(hj:P.progs[j]? = some x)(ha:f 4=.int .i64 (j:Nat))(hc:f 5=.int .i64 0)(hx:∀f,f 1=.ptr 0 1 0→f 3=.bool (b&&P.enums.all fun e=>!(e.name==x.name))→f 4=.int .i64 (j:Nat)→Q (.exit 2) (⟨f,[fr],[]⟩:St)):QG Tryz.prog (.loop S8) ⟨f,[fr],[]⟩ Q:=by
 let I:Nat→St→Prop:=fun k st=>∃f i,st=⟨f,[fr],[]⟩∧k=P.enums.length-i∧i≤P.enums.length∧f 1=.ptr 0 1 0∧f 3=.bool (b&&(P.enums.take i).all fun e=>!(e.name==x.name))∧f 4=.int .i64 (j:Nat)∧f 5=.int .i64 (i:Nat)
 have hjm:(P.progs.map Qp)[j]? = some (.agg x.cells):=by simp[hj,Qp]
 refine Qc I _ ⟨f,0,rfl,rfl,QWo _,h1,by rw[h3];simp,ha,hc⟩ ?_;clear h1 h3 ha hc;simp only[Pc]at m1;simp only[PG.cells]at hjm;rintro _ st ⟨f,i,rfl,rfl,hi,h1,h3,ha,hc⟩;simp only[QXb,h1,m1,hc,eE,seval];by_cases hlt:i<P.enums.length
 ·obtain⟨o,hg⟩:∃o,P.enums[i]? = some o:=⟨P.enums[i],QWh hlt⟩;have hgm:(P.enums.map Qr)[i]? = some (.agg o.cells):=by simp[hg,Qr]
  have e1:=Qo i _ hlt hP.len2;have ht:=Q5 (q:=fun y:PE=>!(y.name==x.name)) hg;have hcm:(x.name==o.name)=(o.name==x.name):=by rw[QXa,QWm,QWm];exact⟨Eq.symm,Eq.symm⟩
  have fin:∀f':Fr,f' 1=.ptr 0 1 0→f' 3=.bool ((b&&(P.enums.take i).all fun y=>!(y.name==x.name)) && !(o.name==x.name))→f' 4=.int .i64 (j:Nat)→f' 5=.int .i64 ((i+1:Nat):Int)→∃k,k<P.enums.length-i∧I k ⟨f',[fr],[]⟩:=by
   intro f' a1 a3 a4 a5;exact⟨P.enums.length-(i+1),by omega,f',i+1,rfl,rfl,by omega,a1,by rw[a3,ht,QW0],a4,a5⟩
  simp only[PE.cells]at hgm;cases hb:(b&&(P.enums.take i).all fun y=>!(y.name==x.name))
  ·rw[hb]at fin h3;simp only[Ql hlt,h3,hc,e1,Qa,seval];exact fin _ (by exact h1) (by rfl) (by exact ha) (by rfl)
  ·rw[hb,QXT]at fin;rw[hb]at h3;simp only[Ql hlt,Qg,QXI,Qb,hjm,hgm,QL,hcm,h1,m1,h3,ha,hc,e1,eE,seval];exact fin _ (by exact h1) (by rfl) (by exact ha) (by rfl)
 ·have hf:(P.enums.take i).all (fun e=>!(e.name==x.name))=P.enums.all fun e=>!(e.name==x.name):=by rw[QWO (by omega)]
  rw[hf]at h3;simp only[QA hlt,Qa,seval];exact hx _ (by exact h1) (by exact h3) (by exact ha)

theorem QQx (ha:f 4=.int .i64 0)(hx:∀f,f 1=.ptr 0 1 0→f 3=.bool (b&&P.progs.all (KA P))→Q (.exit 0) (⟨f,[fr],[]⟩:St)):QG Tryz.prog (.loop Tb) ⟨f,[fr],[]⟩ Q:=by
 let I:Nat→St→Prop:=fun k st=>∃f i,st=⟨f,[fr],[]⟩∧k=P.progs.length-i∧i≤P.progs.length∧f 1=.ptr 0 1 0∧f 3=.bool (b&&(P.progs.take i).all (KA P))∧f 4=.int .i64 (i:Nat)
 have m1':=m1;refine Qc I _ ⟨f,0,rfl,rfl,QWo _,h1,by rw[h3];simp,ha⟩ ?_;clear h1 h3 ha;simp only[Pc]at m1;rintro _ st ⟨f,i,rfl,rfl,hi,h1,h3,ha⟩;simp only[QXb,h1,m1,ha,eE,seval];by_cases hlt:i<P.progs.length
 ·obtain⟨x,hg⟩:∃x,P.progs[i]? = some x:=⟨P.progs[i],QWh hlt⟩;have hgm:(P.progs.map Qp)[i]? = some (.agg x.cells):=by simp[hg,Qp]
  have e1:=Qo i _ hlt hP.len1;have ht:=Q5 (q:=KA P) hg;have hq:KA P x=((P.enums.all fun e=>!(e.name==x.name))&&Kx x.ops PO.name):=rfl;simp only[PG.cells]at hgm;simp only[Ql hlt,Qa,seval];refine QQw P hP fr m1' _ (b&&(P.progs.take i).all (KA P)) (by exact h1) (by exact h3) _ i x hg (by exact ha) (by rfl) (fun f h1 h3 ha=>?_);simp only[Qg,QXI,Qb,hgm,h1,m1,ha,eE,seval];refine R7 fr _ _ (by exact h1) (by exact h3) _ x.ops (hP.progs x (QWt hg)).len i (by exact ha) (by rfl) (by rfl) (fun f h1 h3 ha=>?_);simp only[ha,e1,Qa,seval];exact⟨P.progs.length-(i+1),by omega,_,i+1,rfl,rfl,by omega,(by exact h1),by rw[ht,hq,←QW0,←QW0]<;>first|exact h3|simp only[h3,eE,seval],(by rfl)⟩
 ·have hf:(P.progs.take i).all (KA P)=P.progs.all (KA P):=by rw[QWO (by omega)]
  rw[hf]at h3;simp only[QA hlt,Qa,seval];exact hx _ (by exact h1) (by exact h3)

theorem QQy (ha:f 9=.int .i64 0)(hx:∀f,f 1=.ptr 0 1 0→f 3=.bool (b&&P.enums.all Wm)→Q (.exit 8) (⟨f,[fr],[]⟩:St)):QG Tryz.prog (.loop Te) ⟨f,[fr],[]⟩ Q:=by
 let I:Nat→St→Prop:=fun k st=>∃f i,st=⟨f,[fr],[]⟩∧k=P.enums.length-i∧i≤P.enums.length∧f 1=.ptr 0 1 0∧f 3=.bool (b&&(P.enums.take i).all Wm)∧f 9=.int .i64 (i:Nat)
 refine Qc I _ ⟨f,0,rfl,rfl,QWo _,h1,by rw[h3];simp,ha⟩ ?_;clear h1 h3 ha;simp only[Pc]at m1;rintro _ st ⟨f,i,rfl,rfl,hi,h1,h3,ha⟩;simp only[QXb,h1,m1,ha,eE,seval];by_cases hlt:i<P.enums.length
 ·obtain⟨x,hg⟩:∃x,P.enums[i]? = some x:=⟨P.enums[i],QWh hlt⟩;have hgm:(P.enums.map Qr)[i]? = some (.agg x.cells):=by simp[hg,Qr]
  have e1:=Qo i _ hlt hP.len2;have ht:=Q5 (q:=Wm) hg;have hq:Wm x=Kx x.items PI.name:=rfl;simp only[PE.cells]at hgm;simp only[Ql hlt,Qg,QXI,Qb,hgm,h1,m1,ha,eE,seval];refine Cx fr _ (b&&(P.enums.take i).all Wm) (by exact h1) (by exact h3) _ x.items (hP.enums x (QWt hg)).len1 i (by exact ha) (by rfl) (by rfl) (fun f h1 h3 ha=>?_);simp only[ha,e1,Qa,seval];exact⟨P.enums.length-(i+1),by omega,_,i+1,rfl,rfl,by omega,(by exact h1),by rw[ht,hq,←QW0]<;>first|exact h3|simp only[h3,eE,seval],(by rfl)⟩
 ·have hf:(P.enums.take i).all Wm=P.enums.all Wm:=by rw[QWO (by omega)]
  rw[hf]at h3;simp only[QA hlt,Qa,seval];exact hx _ (by exact h1) (by exact h3)

end

theorem z39 {M:Nat}(P:PL)(hP:P.ok M):Qi Tryz.prog 39 [P.av] (.bool (Bz P)):=by
 have e0:P.av=.agg [.list (P.progs.map Qp),.list (P.enums.map Qr)]:=rfl;refine k39.fn (by simp) ?_;simp only[e0,eE,seval];refine QQx P hP _ (by rfl) _ true (by rfl) (by rfl) _ (by rfl) (fun f h1 h3=>?_);simp only[Qa,seval];refine QQy P hP _ (by rfl) _ _ (by exact h1) (by exact h3) _ (by rfl) (fun f h1 h3=>?_);simp only[h3,Bz,QXT,Qa,seval]

theorem Qwa:Qi Tryz.prog 124 [.str alias] (.int .i64 7):=by
 refine QMc.fn (by simp) ?_;have b1:(alias==([100,101,112,114,101,99,97,116,101,100]:List UInt8))=false:=by decide
 have b2:(alias==([115,101,99,114,101,116]:List UInt8))=false:=by decide
 have b3:(alias==([105,100,101,109,112,111,116,101,110,116]:List UInt8))=false:=by decide
 have b4:(alias==([100,111,99]:List UInt8))=false:=by decide
 have b5:(alias==([97,108,105,97,115]:List UInt8))=true:=by decide
 simp only[QL,b1,b2,b3,b4,b5,Qa,seval]

theorem QQz:Qi Tryz.prog 125 [.str alias,.int .i64 4] (.bool true):=by
 refine QMf.fn (by simp) ?_;have b1:(alias==([100,101,112,114,101,99,97,116,101,100]:List UInt8))=false:=by decide
 have b4:(alias==([100,111,99]:List UInt8))=false:=by decide
 have b5:(alias==([97,108,105,97,115]:List UInt8))=true:=by decide
 have c2:((4:Int)==2)=false:=rfl;have c4:((4:Int)==4)=true:=rfl;simp only[QL,b1,b4,b5,c2,c4,Qa,seval]

section
variable (kd:Int)(b:Nat)(t:List UInt8)(l p s r:List AV)(ht:t.length+8≤maxLen)
include ht

theorem QQA:Qi Tryz.prog 202 [.int .i64 7,vo kd b t l p s r] (.bool (Xk 7 kd b t l p s r)):=by
 have hl:=y81 kd b t l p s r;simp only[vo]at hl;have n1:(kd != 7)=!(kd==7):=rfl;have k7:isk 7=true:=rfl;have t7:Zc 7=true:=rfl;have f7:Yx 7 b=true:=rfl;have c8:((7:Int)==8)=false:=rfl;have c7:((7:Int) != 7)=false:=rfl;refine Qtp.fn (by simp) ?_;simp only[vo,Xk,k7,f7,c7,QXT,QXu,QXX,eE,seval];refine aC (TC 7) ?_;simp only[k7,n1,QXU,eE,seval];by_cases hk:kd=7
 ·subst hk;have a1:((7:Int)==7)=true:=rfl;simp only[a1,QXU,QXT,t7,eE,seval];refine aC hl ?_;cases WQ l p s r
  ·simp only[QXo,QXM,Qa,seval]
  simp only[QXU,QXT,Qa,seval];refine aC (Hv 7) ?_;simp only[t7,eE,seval];cases a2:((b:Int)==0)
  ·simp only[QXM,Qa,seval]
  cases a3:decide ((t.length:Int)≤4096)
  ·simp only[a3,QXM,QYc,eE,seval]
  simp only[a3,c8,QXT,eE,seval];refine aC (Ci t ht) ?_;simp only[Qa,seval]
 ·have a1:(kd==7)=false:=by simp[hk]
  simp only[a1,QXo,QXM,Qa,seval]

theorem QQB:Qi Tryz.prog 126 [nv kd b t l p s r] (.bool (Xk 7 kd b t l p s r)):=by
 have hf:=QQA kd b t l p s r ht;have b0:((7:Int) != 0)=true:=rfl;simp only[vo]at hf;refine QMi.fn (by simp) ?_;simp only[nv,eE,seval];refine aC Qwa ?_;simp only[b0,eE,seval];cases a1:(kd==7)
 ·have e:Xk 7 kd b t l p s r=false:=by unfold Xk;rw[a1];rfl
  simp only[e,Qa,seval]
 ·simp only[eE,seval];refine aC hf ?_;simp only[Qa,seval]

def RcI (k:Nat)(st:St):Prop :=
 ∃f i,st=⟨f,[Qd],[]⟩∧k=1-i∧i≤1∧(i=1→Xk 7 kd b t l p s r=true)∧f 0=.list [nv kd b t l p s r]∧f 1=.int .i64 4∧f 5=.int .i64 (i:Nat)

theorem z71:Qi Tryz.prog 71 [.list [nv kd b t l p s r],.int .i64 4] (.int .i64 (if Xk 7 kd b t l p s r=true then 0 else 12)):=by
 have b0:decide (((1:Nat):Int) > 8)=false:=rfl;have hr:=QQB kd b t l p s r ht;simp only[nv]at hr;refine k71.fn (by simp) ?_;simp only[QWv,QXc,QWW,Qa,seval];refine Qc (RcI kd b t l p s r) 1 ⟨_,0,rfl,rfl,QWo _,(fun h=>by cases h),(by rfl),(by rfl),(by rfl)⟩ ?_;rintro _ st ⟨f,i,rfl,rfl,hi,hf,h0,h1,h5⟩;simp only[nv]at h0;simp only[h0,h5,QWv,QXc,QWW,Qa,seval];rcases Nat.le_one_iff_eq_zero_or_eq_one.1 hi with rfl|rfl
 ·have c0:decide (((0:Nat):Int)<((1:Nat):Int))=true:=rfl;have c1:decide (((0:Nat):Int) > 0)=false:=rfl;have d7:((7:Int)==0)=false:=rfl;have e1:IntKind.i64.wrap (((0:Nat):Int)+1)=((1:Nat):Int):=rfl;have z0:(0≤((0:Nat):Int))=True:=by simp
  have z1:Int.toNat ((0:Nat):Int)=0:=rfl;simp only[Qb,QXi,h0,h5,eE,seval];refine aC Qwa ?_;simp only[d7,Qb,QXi,h0,h1,h5,eE,seval];refine aC QQz ?_;simp only[QXU,Qb,QXi,h0,h5,eE,seval];refine aC hr ?_;cases hfv:Xk 7 kd b t l p s r
  ·simp only[QXo,QWz,Qa,seval]
  ·simp only[QXU,h5,Qa,seval];exact⟨0,by omega,_,1,rfl,rfl,QWe _,fun _=>hfv,(by exact h0),(by exact h1),(by rfl)⟩
 ·have c0:decide (((1:Nat):Int)<((1:Nat):Int))=false:=rfl;simp only[hf rfl,Qa,seval]

end

section
variable (P:PL)

def YA (P:PL)(o:PO):Bool :=
 if o.kind=10 then decide (o.target≥0)&&decide (o.target<(P.progs.length:Int))&&o.card != 3
 else if o.kind=9 then decide (o.target≥0)&&decide (o.target<(P.enums.length:Int))else o.target == -1

theorem QQC (o:PO):Qi Tryz.prog 128 [P.av,Qv o] (.bool (YA P o)):=by
 have e0:P.av=.agg [.list (P.progs.map Qp),.list (P.enums.map Qr)]:=rfl;refine QMo.fn (by simp) ?_;simp only[e0,Qv,PO.cells,YA,eE,seval];by_cases h:o.kind=10
 ·have b0:(o.kind==10)=true:=by simp[h]
  simp only[b0,QWJ h,eE,seval];cases a1:decide (o.target≥0)<;>cases a2:decide (o.target<(P.progs.length:Int))<;>simp only[a2,QXT,QXM,QXb,eE,seval]
 ·have b0:(o.kind==10)=false:=by simp[h]
  by_cases h9:o.kind=9
  ·have b1:(o.kind==9)=true:=by simp[h9]
   simp only[b0,b1,QWu h,QWJ h9,eE,seval];cases a1:decide (o.target≥0)<;>simp only[QXT,QXM,QXb,eE,seval]
  ·have b1:(o.kind==9)=false:=by simp[h9]
   simp only[b0,b1,QWu h,QWu h9,eE,seval]

theorem Qwb (o:PO):(Za P o&&X0 o)=(Hj o.alias&&(decide ((o.alias.length:Int)≤4096)&&(decide (o.card≥1)&&(decide (o.card≤5)&&(decide (o.kind≥1)&&(decide (o.kind≤10)&&(key o&&YA P o&&X0 o))))))):=by
 have h:GF P o=(decide (o.kind≥1)&&decide (o.kind≤10)&&YA P o):=by
  unfold GF YA;by_cases h:o.kind=10
  ·rw[QWJ h,QWJ h,h];rfl
  ·rw[QWu h,QWu h];by_cases h9:o.kind=9
   ·rw[QWJ h9,QWJ h9,h9];rfl
   ·rw[QWu h9,QWu h9];congr 1
    unfold isk;rw[QXa,QWE,QWE];simp only[QWl];omega
 unfold Za;rw[h];cases Hj o.alias<;>cases decide ((o.alias.length:Int)≤4096)<;>cases decide (o.card≥1)<;>cases decide (o.card≤5)<;>cases decide (o.kind≥1)<;>cases decide (o.kind≤10)<;>cases key o<;>cases YA P o<;>cases X0 o<;>rfl

theorem z73 (o:PO)(ha:o.alias.length+8≤maxLen):Qi Tryz.prog 73 [P.av,Qv o] (.bool (Za P o&&X0 o)):=by
 have e0:P.av=.agg [.list (P.progs.map Qp),.list (P.enums.map Qr)]:=rfl;have n1:decide ((o.alias.length:Int) > 4096)=!decide ((o.alias.length:Int)≤4096):=(by rw[QXa];simp only[QWl,QXe,QYb];omega);have n2:decide (o.card<1)=!decide (o.card≥1):=(by rw[QXa];simp only[QWl,QXe,QYb];omega);have n3:decide (o.card > 5)=!decide (o.card≤5):=(by rw[QXa];simp only[QWl,QXe,QYb];omega);have n4:decide (o.kind<1)=!decide (o.kind≥1):=(by rw[QXa];simp only[QWl,QXe,QYb];omega);have n5:decide (o.kind > 10)=!decide (o.kind≤10):=(by rw[QXa];simp only[QWl,QXe,QYb];omega);have ht:Qi Tryz.prog 128 [.agg [.list (P.progs.map Qp),.list (P.enums.map Qr)],Qv o] (.bool (YA P o)):=QQC P o;have hk1:o.card≠5→key o=(o.key==0):=fun h=>by unfold key;rw[QWu h]
 have hk2:o.card=5→key o=((decide (o.key≥1)&&decide (o.key≤5))||o.key==7):=fun h=>by
  unfold key;rw[QWJ h,QXa];simp only[QWE,QWk,QWl,QWm,QWG,ne_eq];omega
 have hu:X0 o=(o.union == -1||o.card==2):=rfl;simp only[Qv,PO.cells]at ht;rw[Qwb];refine k73.fn (by simp) ?_;simp only[Tt,Tu,Tv,Tw,Tx,TA,r73,o73,e0,Qv,PO.cells,eE,seval];refine aC (Ci o.alias ha) ?_;cases Hj o.alias
 ·simp only[QXo,QXM,Qa,seval]
 cases a1:decide ((o.alias.length:Int)≤4096)
 ·simp only[QXU,QXo,QXT,n1,a1,QXM,eE,seval]
 cases a2:decide (o.card≥1)
 ·simp only[QXU,QXo,QXT,n1,n2,a1,a2,QXM,eE,seval]
 cases a3:decide (o.card≤5)
 ·simp only[QXU,QXo,QXT,n1,n2,n3,a1,a2,a3,QXM,eE,seval]
 cases a4:decide (o.kind≥1)
 ·simp only[QXU,QXo,QXT,n1,n2,n3,n4,a1,a2,a3,a4,QXM,eE,seval]
 cases a5:decide (o.kind≤10)
 ·simp only[QXU,QXo,QXT,n1,n2,n3,n4,n5,a1,a2,a3,a4,a5,QXM,eE,seval]
 have fin:∀(f:Fr) (fr:Nat→Ob) (kb:Bool),kb=key o→f 2=.ptr 0 2 0→fr 2=.cells [.list (P.progs.map Qp),.list (P.enums.map Qr)]→f 3=.ptr 0 3 0→fr 3=.cells [.int .i64 o.num,.str o.name,.str o.alias,.int .i64 o.card,.int .i64 o.key,.int .i64 o.kind,.int .i64 o.target,.int .i64 o.union]→f 5=.bool kb→
   QE Tryz.prog Ce ⟨f,[fr],[]⟩ (Kc Tryz.prog .ret (Zo [.tmp 4] 0 fun x _=>x=.bool (key o&&YA P o&&X0 o)) .normal):=by
  intro f fr kb hkb h2 m2 h3 m3 h5;subst hkb;simp only[Ce,h5,Qa,seval];cases key o
  ·simp only[QXM,Qa,seval]
  simp only[h2,m2,h3,m3,QXT,eE,seval];refine aC ht ?_;cases YA P o
  ·simp only[QXM,Qa,seval]
  rw[hu];cases c1:(o.union == -1)<;>simp only[h3,m3,c1,QXT,QXW,QXX,eE,seval]
 by_cases h5:o.card=5
 ·have b5:(o.card != 5)=false:=by simp[h5]
  have hk:=hk2 h5;simp only[QXU,QXT,n1,n2,n3,n4,n5,a1,a2,a3,a4,a5,eE,seval];cases c1:decide (o.key≥1)<;>cases c2:decide (o.key≤5)<;>cases c3:(o.key==7)<;>simp only[c2,c3,b5,eE,seval]
  all_goals
   rw[c1,c2,c3]at hk;exact fin _ _ _ hk.symm (by rfl) (by rfl) (by rfl) (by rfl) (by rfl)
 ·have b5:(o.card != 5)=true:=by simp[h5]
  have hk:=hk1 h5;simp only[QXU,QXT,n1,n2,n3,n4,n5,a1,a2,a3,a4,a5,eE,seval];cases c1:decide (o.key≥1)<;>cases c2:decide (o.key≤5)<;>cases c3:(o.key==7)<;>simp only[c2,c3,b5,eE,seval]
  all_goals exact fin _ _ _ hk.symm (by rfl) (by rfl) (by rfl) (by rfl) (by rfl)

end

end Go.Proofs.YtdhlbgejhcejcaaGreatDoor.Va

namespace Go.Proofs.YtdhlbgejhcejcaaGreatDoor.Cp
open Go Am Bt Vp

structure C where
 d:List UInt8
 a:Int
 e:Int
 dp:Int
 nd:Int
 tx:Int

def C.av (c:C):AV:=.agg [.str c.d,.int .i64 c.a,.int .i64 c.e,.int .i64 c.dp,.int .i64 c.nd,.int .i64 c.tx]
def zc:C:=⟨[],0,0,0,0,0⟩

structure L where
 b:Int
 dp:Int
 nd:Int
 tx:Int
def L.av (l:L):AV:=.agg [.int .i64 l.b,.int .i64 l.dp,.int .i64 l.nd,.int .i64 l.tx]

def C.sound (c:C):Bool:=decide (0≤c.a)&&decide (c.a≤c.e)&&decide (c.e≤(c.d.length:Int))
def C.rest (c:C):List UInt8:=bif c.sound then(c.d.drop c.a.toNat).take (c.e.toNat-c.a.toNat)else []
def C.left (c:C):Int:=(c.rest.length:Int)
def C.ahead (c:C)(n:Int):C:={ c with a:=IntKind.i64.wrap (c.a+n) }

def opn (s:List UInt8)(l:L):C×Nat :=
 if l.b<0∨l.dp<0∨l.nd<0∨l.tx<0 then(zc,1)else if l.b<(s.length:Int)then(zc,3)else(⟨s,0,s.length,l.dp,l.nd,l.tx⟩,0)

def C.varint (c:C):Nat×C×Nat :=
 let r:=Vp.take c.rest
 if r.2.2=0 then(r.1,c.ahead r.2.1,0)else(0,c,r.2.2)

def Dy (s:List UInt8):Nat:=(s.take 8).foldr (fun b u=>256*u+b.toNat) 0

def C.fixed (c:C):Nat×C×Nat :=
 if c.rest.length<8 then(0,c,4)else(Dy c.rest,c.ahead 8,0)

def C.spend (c:C)(n:Int):C×Nat :=
 if n<0 then(c,1)else if c.nd<n then(c,3)else({ c with nd:=IntKind.i64.wrap (c.nd-n) },0)

def YB (r:Nat×C×Nat):AV:=.tup [.int .u64 (r.1:Nat),r.2.1.av,.int .i64 (r.2.2:Nat)]
def TG (r:C×Nat):AV:=.tup [r.1.av,.int .i64 (r.2:Nat)]

theorem C.sound_iff (c:C):c.sound=true↔0≤c.a∧c.a≤c.e∧c.e≤(c.d.length:Int):=by
 simp[C.sound,and_assoc]

theorem C.rest_len (c:C):c.left=if c.sound=true then c.e-c.a else 0:=by
 unfold C.left C.rest;split
 ·rename_i h;rw[h];have:=(C.sound_iff c).1 h;simp;omega
 ·rename_i h;have h:c.sound=false:=by simpa using h
  rw[h];rfl

theorem C.rest_of {c:C}(h:c.sound=true):c.rest=(c.d.drop c.a.toNat).take (c.e.toNat-c.a.toNat):=by
 unfold C.rest;rw[h];rfl

theorem C.rest_no {c:C}(h:c.sound=false):c.rest=[]:=by
 unfold C.rest;rw[h];rfl

end Go.Proofs.YtdhlbgejhcejcaaGreatDoor.Cp

namespace Go.Proofs.YtdhlbgejhcejcaaGreatDoor.Up
open Go Am Bt Vp Cp

structure R where
 num:Int
 wire:Int
 bits:Nat
 data:List UInt8
 deriving DecidableEq

def R.av (f:R):AV:=.agg [.int .i64 f.num,.int .i64 f.wire,.int .u64 (f.bits:Nat),.str f.data]
def zr:R:=⟨0,0,0,[]⟩

def Zm (num wire:Int):List UInt8×Nat :=
 if num<1∨65535<num∨wire<0∨6<wire then([],6)else(Vp.put (num*8+wire).toNat,0)
def Cy (r:List UInt8×Nat):AV:=.tup [.str r.1,.int .i64 (r.2:Nat)]

def XW (c:C):Int×Int×C×Nat :=
 let r:=c.varint
 if r.2.2=0 then
  if r.1 % 8=7 then(0,0,c,5)else if r.1 / 8<1∨65535<r.1 / 8 then(0,0,c,6)else((r.1 / 8:Nat),(r.1 % 8:Nat),r.2.1,0)
 else(0,0,c,r.2.2)
def Vh (r:Int×Int×C×Nat):AV:=.tup [.int .i64 r.1,.int .i64 r.2.1,r.2.2.1.av,.int .i64 (r.2.2.2:Nat)]

def Xb (wire:Int):Bool:=wire==0||wire==1||wire==2

def Kn (c:C)(wire:Int):List UInt8×C×Nat :=
 let r:=c.varint
 if r.2.2=0 then
  if r.2.1.left<(r.1:Int)then([],c,4)
  else if (if wire=3 then c.tx else 65536)<(r.1:Int)then([],c,3)
  else((r.2.1.d.drop r.2.1.a.toNat).take r.1,r.2.1.ahead r.1,0)
 else([],c,r.2.2)
def Z2 (c:C)(f:R):R×C×Nat :=
 if f.wire=2 then({ f with bits:=c.fixed.1 },c.fixed.2.1,c.fixed.2.2)
 else if f.wire=0∨f.wire=1 then({ f with bits:=c.varint.1 },c.varint.2.1,c.varint.2.2)
 else({ f with data:=(Kn c f.wire).1 },(Kn c f.wire).2.1,(Kn c f.wire).2.2)

def ZP (c:C):R×C×Nat :=
 let t:=XW c
 if t.2.2.2=0 then
  let s:=t.2.2.1.spend 1
  if s.2=0 then
   let k:=Z2 s.1 { num:=t.1,wire:=t.2.1,bits:=0,data:=[] }
   if k.2.2=0 then k else(zr,c,k.2.2)
  else(zr,c,s.2)
 else(zr,c,t.2.2.2)
def JO (r:R×C×Nat):AV:=.tup [r.1.av,r.2.1.av,.int .i64 (r.2.2:Nat)]

theorem BK {c:C}(h:c.rest≠[]):c.sound=true:=by
 cases hs:c.sound with
 |true=>rfl
 |false=>exact absurd (C.rest_no hs) h

theorem Zf {c:C}(hl:c.d.length≤9223372036854775807)(h:c.varint.2.2=0):∃n:Nat,0<n∧n≤10∧(n:Int)≤c.left∧c.varint.2.1={ c with a:=c.a+n }∧c.sound=true∧c.varint.2.1.sound=true∧c.varint.1<2 ^ 64:=by
 unfold C.varint at h ⊢;have hb:=W4 c.rest;generalize Vp.take c.rest=r at h hb ⊢;obtain⟨u,n,e⟩:=r;simp only at h hb ⊢;split at h
 ·rename_i he;subst he;obtain⟨h1,h2,h3,h4⟩:=hb rfl;have hne:c.rest≠[]:=by intro e;rw[e]at h2;simp at h2;omega
  have hs:=BK hne;have hs':=(C.sound_iff c).1 hs;have hle:=c.rest_len;rw[QWJ hs]at hle;have hw:IntKind.i64.wrap (c.a+(n:Int))=c.a+n:=by
   have:(n:Int)≤c.left:=by unfold C.left;omega
   rw[QC];omega
  have hnl:(n:Int)≤c.left:=by unfold C.left;omega
  refine⟨n,h1,h3,hnl,?_,hs,?_,?_⟩
  ·rw[QWJ rfl];simp only[C.ahead,hw]
  ·rw[QWJ rfl];rw[C.sound_iff];simp only[C.ahead,hw];omega
  ·rw[QWJ rfl];exact h4
 ·rename_i he;exact absurd h he

end Go.Proofs.YtdhlbgejhcejcaaGreatDoor.Up

namespace Go.Proofs.YtdhlbgejhcejcaaGreatDoor.Br
open Go Am Up

theorem Qaf {M k:Nat}{cs:List AV}(h:Q6 Tryz.prog M k 53 cs):∃f:R,((Lit.int .i64 f.num).wf=true∧(Lit.int .i64 f.wire).wf=true∧(Lit.int .u64 (f.bits:Int)).wf=true∧f.data.length≤M)∧.agg cs=f.av:=by
 obtain⟨k,h⟩:=Zd Tryz.underlying53 h;simp only[Q6.HasL]at h;obtain⟨_,_,rfl,h0,_,_,rfl,h1,_,_,rfl,h2,_,_,rfl,h3,rfl⟩:=h;obtain⟨a0,rfl,w0⟩:=Xw Tryz.underlying3 h0;obtain⟨a1,rfl,w1⟩:=Xw Tryz.underlying3 h1;obtain⟨a2,rfl,w2⟩:=Xw Tryz.underlying26 h2;obtain⟨a3,rfl,w3⟩:=Jr Tryz.underlying9 h3;have hn:0≤a2:=F6 w2;obtain⟨n,rfl⟩:=QXV hn;exact⟨⟨a0,a1,n,a3⟩,⟨w0,w1,w2,w3⟩,rfl⟩

inductive V where
 |mk (k:Int) (b:Nat) (t:List UInt8) (l:List V) (p:List (V×V)) (s:List (Int×V)) (r:List R)
 deriving Inhabited

mutual
def V.cells:V→List AV
 |.mk k b t l p s r=>[.int .i64 k,.int .u64 (b:Nat),.str t,.list (V.cl l),.list (V.cp p),.list (V.cs s),.list (r.map R.av)]
def V.cl:List V→List AV
 | []=>[]
 |x :: l=>.agg x.cells :: V.cl l
def V.cp:List (V×V)→List AV
 | []=>[]
 |(a,b) :: l=>.agg (a.cells++b.cells) :: V.cp l
def V.cs:List (Int×V)→List AV
 | []=>[]
 |(n,a) :: l=>.agg (.int .i64 n :: a.cells) :: V.cs l
end

def V.kd:V→Int|.mk k _ _ _ _ _ _=>k
def V.bits:V→Nat|.mk _ b _ _ _ _ _=>b
def V.text:V→List UInt8|.mk _ _ t _ _ _ _=>t
def V.list:V→List V|.mk _ _ _ l _ _ _=>l
def V.pairs:V→List (V×V)|.mk _ _ _ _ p _ _=>p
def V.slots:V→List (Int×V)|.mk _ _ _ _ _ s _=>s
def V.raws:V→List R|.mk _ _ _ _ _ _ r=>r

def V.av (v:V):AV:=.agg v.cells
def V.pav (p:V×V):AV:=.agg (p.1.cells++p.2.cells)
def V.sav (s:Int×V):AV:=.agg (.int .i64 s.1 :: s.2.cells)

theorem V.cl_eq:∀l:List V,V.cl l=l.map V.av
 | []=>rfl
 |x :: l=>by rw[V.cl,V.cl_eq l];rfl
theorem V.cp_eq:∀l:List (V×V),V.cp l=l.map V.pav
 | []=>rfl
 |(a,b) :: l=>by rw[V.cp,V.cp_eq l];rfl
theorem V.cs_eq:∀l:List (Int×V),V.cs l=l.map V.sav
 | []=>rfl
 |(n,a) :: l=>by rw[V.cs,V.cs_eq l];rfl

theorem V.eta:∀v:V,v.cells=[.int .i64 v.kd,.int .u64 (v.bits:Nat),.str v.text,.list (v.list.map V.av),.list (v.pairs.map V.pav),.list (v.slots.map V.sav),.list (v.raws.map R.av)]
 |.mk k b t l p s r=>by rw[V.cells,V.cl_eq,V.cp_eq,V.cs_eq];rfl

theorem V.ind {P:V→Prop}(h:∀v:V,(∀x∈v.list,P x)→(∀x∈v.pairs,P x.1∧P x.2)→(∀x∈v.slots,P x.2)→P v)(v:V):P v :=
 V.rec (motive_1:=P) (motive_2:=fun l=>∀x∈l,P x) (motive_3:=fun p=>∀x∈p,P x.1∧P x.2) (motive_4:=fun s=>∀x∈s,P x.2) (motive_5:=fun q=>P q.1∧P q.2) (motive_6:=fun q=>P q.2)
  (fun k b t l p s r hl hp hs=>h (.mk k b t l p s r) hl hp hs)
  (by simp) (fun a l ha hl=>by simpa using ⟨ha,hl⟩)
  (by simp) (fun a l ha hl=>by simp only[QXD,forall_eq_or_imp];exact⟨ha,hl⟩)
  (by simp) (fun a l ha hl=>by simp only[QXD,forall_eq_or_imp];exact⟨ha,hl⟩)
  (fun a b ha hb=>⟨ha,hb⟩) (fun n a ha=>ha) v

structure _root_.Go.Proofs.YtdhlbgejhcejcaaGreatDoor.Up.R.ok (M:Nat)(f:R):Prop where
 num:(Lit.int .i64 f.num).wf=true
 wire:(Lit.int .i64 f.wire).wf=true
 bits:(Lit.int .u64 (f.bits:Int)).wf=true
 data:f.data.length≤M

inductive V.ok (M:Nat):V→Prop
 |mk {v:V} (kd:(Lit.int .i64 v.kd).wf=true) (bits:(Lit.int .u64 (v.bits:Int)).wf=true) (text:v.text.length≤M) (nl:v.list.length≤1099511627776) (np:v.pairs.length≤549755813888) (ns:v.slots.length≤1099511627776) (nr:v.raws.length≤70368744177664)
   (list:∀x∈v.list,V.ok M x) (keys:∀x∈v.pairs,V.ok M x.1) (vals:∀x∈v.pairs,V.ok M x.2) (nums:∀x∈v.slots,(Lit.int .i64 x.1).wf=true) (slots:∀x∈v.slots,V.ok M x.2) (raws:∀x∈v.raws,x.ok M):V.ok M v

section
variable {M:Nat}{v:V}(h:v.ok M)
include h
theorem V.ok.kd:(Lit.int .i64 v.kd).wf=true:=by cases h;assumption
theorem V.ok.bits:(Lit.int .u64 (v.bits:Int)).wf=true:=by cases h;assumption
theorem V.ok.text:v.text.length≤M:=by cases h;assumption
theorem V.ok.nl:v.list.length≤1099511627776:=by cases h;assumption
theorem V.ok.np:v.pairs.length≤549755813888:=by cases h;assumption
theorem V.ok.ns:v.slots.length≤1099511627776:=by cases h;assumption
theorem V.ok.nr:v.raws.length≤70368744177664:=by cases h;assumption
theorem V.ok.list:∀x∈v.list,x.ok M:=by cases h;assumption
theorem V.ok.keys:∀x∈v.pairs,x.1.ok M:=by cases h;assumption
theorem V.ok.vals:∀x∈v.pairs,x.2.ok M:=by cases h;assumption
theorem V.ok.nums:∀x∈v.slots,(Lit.int .i64 x.1).wf=true:=by cases h;assumption
theorem V.ok.slots:∀x∈v.slots,x.2.ok M:=by cases h;assumption
theorem V.ok.raws:∀x∈v.raws,x.ok M:=by cases h;assumption
end

theorem V.cells_length (v:V):v.cells.length=7:=by rw[V.eta];rfl

theorem Dz {c:List AV}(h:2≤c.length):Xs c=.agg c:=by
 match c,h with
 |_ :: _ :: _,_=>rfl

theorem QHP {M:Nat}(hM:M=reachBytes∨M≤1048576):∀ {k:Nat} {cs:List AV},Q6 Tryz.prog M k 32 cs→∃v:V,v.ok M∧cs=v.cells:=by
 intro k
 induction k using Nat.strongRecOn with
 |ind k ih=>
 intro cs h;cases k with
 |zero=>cases h
 |succ k=>
 simp only[Q6,Tryz.underlying32,Q6.HasL]at h;obtain⟨_,_,rfl,h0,_,_,rfl,h1,_,_,rfl,h2,_,_,rfl,h3,_,_,rfl,h4,_,_,rfl,h5,_,_,rfl,h6,rfl⟩:=h;obtain⟨a0,rfl,w0⟩:=Xw Tryz.underlying3 h0;obtain⟨a1,rfl,w1⟩:=Xw Tryz.underlying26 h1;obtain⟨a2,rfl,w2⟩:=Jr Tryz.underlying9 h2;have hb:0≤a1:=F6 w1;obtain⟨b,rfl⟩:=QXV hb;have sl:∀ {k0:Nat} {t e:TypeId} {cs:List AV},k0≤k→Tryz.prog.underlying t=some (.slice e)→Q6 Tryz.prog M k0 t cs→∃(k':Nat) (l:List (List AV)),k'<k∧cs=[.list (l.map Xs)]∧(l.length≤M∧(M=reachBytes→l.length*Tryz.prog.bytesOf e≤M))∧∀c∈l,Q6 Tryz.prog M k' e c:=by
  intro k0 t e cs hk hu h;cases k0 with
  |zero=>cases h
  |succ k0=>
   simp only[Q6,hu]at h;obtain⟨l,h1,h4,h3,h2⟩:=h;exact⟨k0,l,by omega,h1,⟨h2,h4.2⟩,h3⟩
 have nb:∀ {n b:Nat} (c:Nat),(n≤M∧(M=reachBytes→n*b≤M))→1048576≤c→(n*b≤140737488351232→n≤c)→n≤c:=fun c h1 h2 h3=>by
  rcases hM with e|e
  ·refine h3 (QWf (h1.2 e) ?_);rw[e];exact QWe _
  ·exact QWf h1.1 (QWf e h2)
 have y1:Tryz.prog.bytesOf 32=128:=by decide +kernel
 have y2:Tryz.prog.bytesOf 77=256:=by decide +kernel
 have y3:Tryz.prog.bytesOf 55=136:=by decide +kernel
 have y4:Tryz.prog.bytesOf 53=40:=by decide +kernel
 obtain⟨k3,l3,b3,rfl,w3,hl3⟩:=sl (QWe _) Tryz.underlying27 h3;obtain⟨k4,l4,b4,rfl,w4,hl4⟩:=sl (QWe _) Tryz.underlying28 h4;obtain⟨k5,l5,b5,rfl,w5,hl5⟩:=sl (QWe _) Tryz.underlying29 h5;obtain⟨k6,l6,b6,rfl,w6,hl6⟩:=sl (QWe _) Tryz.underlying30 h6;obtain⟨vs,rfl,hvs⟩:=Zs (f:=V.cells) (ok:=V.ok M) fun c hc=>ih k3 (by omega) (hl3 c hc)
 obtain⟨ps,rfl,hps⟩:=Zs (l:=l4) (f:=fun p:V×V=>p.1.cells++p.2.cells) (ok:=fun p=>p.1.ok M∧p.2.ok M) fun c hc=>by
  have h:=hl4 c hc;cases k4 with
  |zero=>cases h
  |succ k4=>
  simp only[Q6,Tryz.underlying77,Q6.HasL]at h;obtain⟨a,_,rfl,h0,b,_,rfl,h1,rfl⟩:=h;obtain⟨x,hx,rfl⟩:=ih k4 (by omega) h0;obtain⟨y,hy,rfl⟩:=ih k4 (by omega) h1;exact⟨(x,y),⟨hx,hy⟩,by simp⟩
 obtain⟨ss,rfl,hss⟩:=Zs (l:=l5) (f:=fun s:Int×V=>.int .i64 s.1 :: s.2.cells) (ok:=fun s=>(Lit.int .i64 s.1).wf=true∧s.2.ok M) fun c hc=>by
  have h:=hl5 c hc;cases k5 with
  |zero=>cases h
  |succ k5=>
  simp only[Q6,Tryz.underlying55,Q6.HasL]at h;obtain⟨_,_,rfl,h0,b,_,rfl,h1,rfl⟩:=h;obtain⟨a0,rfl,w0⟩:=Xw Tryz.underlying3 h0;obtain⟨y,hy,rfl⟩:=ih k5 (by omega) h1;exact⟨(a0,y),⟨w0,hy⟩,by simp⟩
 obtain⟨rs,rfl,hrs⟩:=Zs (l:=l6) (f:=fun r:R=>r.av.cells) (ok:=R.ok M) fun c hc=>by
  obtain⟨f,⟨g1,g2,g3,g4⟩,e⟩:=Qaf (hl6 c hc);refine⟨f,⟨g1,g2,g3,g4⟩,?_⟩;rw[←e];rfl
 refine⟨.mk a0 b a2 vs ps ss rs,.mk w0 w1 w2 (by rw[QXb,y1]at w3;exact nb _ w3 (by decide) (by omega)) (by rw[QXb,y2]at w4;exact nb _ w4 (by decide) (by omega)) (by rw[QXb,y3]at w5;exact nb _ w5 (by decide) (by omega)) (by rw[QXb,y4]at w6;exact nb _ w6 (by decide) (by omega)) hvs (fun x hx=>(hps x hx).1) (fun x hx=>(hps x hx).2) (fun x hx=>(hss x hx).1) (fun x hx=>(hss x hx).2) hrs,?_⟩;rw[V.eta];have e3:(vs.map V.cells).map Xs=vs.map V.av:=by
  rw[QX3];exact QX2 fun c _=>Dz (by rw[V.cells_length];omega)
 have e4:(ps.map (fun p=>p.1.cells++p.2.cells)).map Xs=ps.map V.pav:=by
  rw[QX3];exact QX2 fun p _=>Dz (by rw[QWS,V.cells_length];omega)
 have e5:(ss.map (fun s=>AV.int .i64 s.1 :: s.2.cells)).map Xs=ss.map V.sav:=by
  rw[QX3];exact QX2 fun p _=>Dz (by rw[QWv,V.cells_length];omega)
 have e6:(rs.map (fun r=>r.av.cells)).map Xs=rs.map R.av:=by
  rw[QX3];exact QX2 fun r _=>rfl
 rw[e3,e4,e5,e6];rfl

end Go.Proofs.YtdhlbgejhcejcaaGreatDoor.Br

namespace Go.Proofs.YtdhlbgejhcejcaaGreatDoor.Va
open Go Am Rc Bt Br

def oth (k:Int)(b:Nat)(t:List UInt8)(l p s r:List AV):Bool :=
 (k != 11&&decide ((l.length:Int) > 0))||(k != 12&&decide ((p.length:Int) > 0))||(k != 10&&decide (((s.length+r.length:Nat):Int) > 0))||((b:Int) != 0&&(Zc k||k==10||k==11||k==12))||(!(t==[]) && !Zc k)

section
variable (k:Int)(b:Nat)(t:List UInt8)(l p s r:List AV)(hs:s.length≤140737488351232)(hr:r.length≤140737488351232)

end

section
variable (k:Int)(b:Nat)(t:List UInt8)(l p s r:List AV)(hs:s.length≤140737488351232)(hr:r.length≤140737488351232)

set_option maxHeartbeats 2000000 in
include hs hr in
theorem z43:Qi Tryz.prog 43 [vo k b t l p s r] (.bool (oth k b t l p s r)):=by
 have w:IntKind.i64.wrap ((s.length:Int)+(r.length:Int))=((s.length+r.length:Nat):Int):=by simp only[QC];omega
 have n4:((b:Int) != 0)=!((b:Int)==0):=rfl;have n5:(t != [])=!(t==[]):=rfl;refine k43.fn (by simp) ?_;simp only[vo,oth,Zc,n4,eE,seval];rcases(by omega:k=7∨k=8∨k=10∨k=11∨k=12∨(k≠7∧k≠8∧k≠10∧k≠11∧k≠12))with rfl|rfl|rfl|rfl|rfl|⟨h7,h8,h10,h11,h12⟩
 ·have b7:((7:Int)==7)=true:=by decide
  have b8:((7:Int)==8)=false:=by decide
  have b10:((7:Int)==10)=false:=by decide
  have b11:((7:Int)==11)=false:=by decide
  have b12:((7:Int)==12)=false:=by decide
  have c10:((7:Int) != 10)=true:=by decide
  have c11:((7:Int) != 11)=true:=by decide
  have c12:((7:Int) != 12)=true:=by decide
  have g1:decide ((7:Int)≥10)=false:=by decide
  have g2:decide ((7:Int)≤12)=true:=by decide
  simp only[b7,b8,b10,b11,b12,c10,c11,c12,QXT,QYd,QYc,QXu,QXU,eE,seval];cases a1:decide ((l.length:Int) > 0)<;>try simp only[c11,QXX,QXW,eE,seval]
  all_goals(cases a2:decide ((p.length:Int) > 0)<;>try simp only[c12,QXX,QXW,w,eE,seval])
  all_goals(cases a3:decide (((s.length+r.length:Nat):Int) > 0)<;>try simp only[QXX,QXW,QXo,eE,seval])
  all_goals(cases a4:((b:Int)==0)<;>try simp only[a4,n4,QXo,QXU,QL,eE,seval])
  all_goals(cases a5:(t==[])<;>try simp only[QXo,QXU,Qa,seval])

 ·have b7:((8:Int)==7)=false:=by decide
  have b8:((8:Int)==8)=true:=by decide
  have b10:((8:Int)==10)=false:=by decide
  have b11:((8:Int)==11)=false:=by decide
  have b12:((8:Int)==12)=false:=by decide
  have c10:((8:Int) != 10)=true:=by decide
  have c11:((8:Int) != 11)=true:=by decide
  have c12:((8:Int) != 12)=true:=by decide
  have g1:decide ((8:Int)≥10)=false:=by decide
  have g2:decide ((8:Int)≤12)=true:=by decide
  simp only[b7,b8,b10,b11,b12,c10,c11,c12,QXT,QYd,Bool.or_true,QYc,QXu,QXU,eE,seval];cases a1:decide ((l.length:Int) > 0)<;>try simp only[c11,QXX,QXW,eE,seval]
  all_goals(cases a2:decide ((p.length:Int) > 0)<;>try simp only[c12,QXX,QXW,w,eE,seval])
  all_goals(cases a3:decide (((s.length+r.length:Nat):Int) > 0)<;>try simp only[QXX,QXW,QXo,eE,seval])
  all_goals(cases a4:((b:Int)==0)<;>try simp only[a4,n4,QXo,QXU,QL,eE,seval])
  all_goals(cases a5:(t==[])<;>try simp only[QXo,QXU,Qa,seval])

 ·have b7:((10:Int)==7)=false:=by decide
  have b8:((10:Int)==8)=false:=by decide
  have b10:((10:Int)==10)=true:=by decide
  have b11:((10:Int)==11)=false:=by decide
  have b12:((10:Int)==12)=false:=by decide
  have c10:((10:Int) != 10)=false:=by decide
  have c11:((10:Int) != 11)=true:=by decide
  have c12:((10:Int) != 12)=true:=by decide
  have g1:decide ((10:Int)≥10)=true:=by decide
  have g2:decide ((10:Int)≤12)=true:=by decide
  simp only[b7,b8,b10,b11,b12,c10,c11,c12,QXT,QXM,QYd,Bool.or_true,QXu,QXo,eE,seval];cases a1:decide ((l.length:Int) > 0)<;>try simp only[c11,QXX,QXW,eE,seval]
  all_goals(cases a2:decide ((p.length:Int) > 0)<;>try simp only[c12,QXX,QXW,w,eE,seval])
  all_goals(cases a3:decide (((s.length+r.length:Nat):Int) > 0)<;>try simp only[QXU,eE,seval])
  all_goals(cases a4:((b:Int)==0)<;>try simp only[a4,n4,b11,b12,QXX,QXW,QXo,QXU,QL,eE,seval])
  all_goals(cases a5:(t==[])<;>try simp only[QXo,QXU,Qa,seval])

 ·have b7:((11:Int)==7)=false:=by decide
  have b8:((11:Int)==8)=false:=by decide
  have b10:((11:Int)==10)=false:=by decide
  have b11:((11:Int)==11)=true:=by decide
  have b12:((11:Int)==12)=false:=by decide
  have c10:((11:Int) != 10)=true:=by decide
  have c11:((11:Int) != 11)=false:=by decide
  have c12:((11:Int) != 12)=true:=by decide
  have g1:decide ((11:Int)≥10)=true:=by decide
  have g2:decide ((11:Int)≤12)=true:=by decide
  simp only[b7,b8,b10,b11,b12,c10,c11,c12,QXT,QXM,QYd,Bool.or_true,QXX,QXu,QXo,eE,seval];cases a1:decide ((l.length:Int) > 0)<;>try simp only[c11,eE,seval]
  all_goals(cases a2:decide ((p.length:Int) > 0)<;>try simp only[c12,QXX,QXW,w,eE,seval])
  all_goals(cases a3:decide (((s.length+r.length:Nat):Int) > 0)<;>try simp only[QXX,QXW,QXo,eE,seval])
  all_goals(cases a4:((b:Int)==0)<;>try simp only[a4,n4,b11,QXX,QXW,QXo,QXU,QL,eE,seval])
  all_goals(cases a5:(t==[])<;>try simp only[QXo,QXU,Qa,seval])

 ·have b7:((12:Int)==7)=false:=by decide
  have b8:((12:Int)==8)=false:=by decide
  have b10:((12:Int)==10)=false:=by decide
  have b11:((12:Int)==11)=false:=by decide
  have b12:((12:Int)==12)=true:=by decide
  have c10:((12:Int) != 10)=true:=by decide
  have c11:((12:Int) != 11)=true:=by decide
  have c12:((12:Int) != 12)=false:=by decide
  have g1:decide ((12:Int)≥10)=true:=by decide
  have g2:decide ((12:Int)≤12)=true:=by decide
  simp only[b7,b8,b10,b11,b12,c10,c11,c12,QXT,QXM,QYd,Bool.or_true,QXu,QXo,eE,seval];cases a1:decide ((l.length:Int) > 0)<;>try simp only[c11,QXX,QXW,eE,seval]
  all_goals(cases a2:decide ((p.length:Int) > 0)<;>try simp only[c12,w,eE,seval])
  all_goals(cases a3:decide (((s.length+r.length:Nat):Int) > 0)<;>try simp only[QXX,QXW,QXo,eE,seval])
  all_goals(cases a4:((b:Int)==0)<;>try simp only[a4,n4,b11,b12,QXX,QXW,QXo,QXU,QL,eE,seval])
  all_goals(cases a5:(t==[])<;>try simp only[QXo,QXU,Qa,seval])
 ·have b7:(k==7)=false:=by simp[h7]
  have b8:(k==8)=false:=by simp[h8]
  have b10:(k==10)=false:=by simp[h10]
  have b11:(k==11)=false:=by simp[h11]
  have b12:(k==12)=false:=by simp[h12]
  have c10:(k != 10)=true:=by simp[h10]
  have c11:(k != 11)=true:=by simp[h11]
  have c12:(k != 12)=true:=by simp[h12]
  rcases(by omega:(k≥10∧¬k≤12)∨¬k≥10)with⟨q1,q2⟩|q1
  ·have g1:decide (k≥10)=true:=QYa q1;have g2:decide (k≤12)=false:=QX5 q2;simp only[b7,b8,b10,b11,b12,c10,c11,c12,QXT,QYd,QYc,QXu,QXo,eE,seval];cases a1:decide ((l.length:Int) > 0)<;>try simp only[c11,QXX,QXW,eE,seval]
   all_goals(cases a2:decide ((p.length:Int) > 0)<;>try simp only[c12,QXX,QXW,w,eE,seval])
   all_goals(cases a3:decide (((s.length+r.length:Nat):Int) > 0)<;>try simp only[QXX,QXW,QXo,eE,seval])
   all_goals(cases a4:((b:Int)==0)<;>try simp only[a4,n4,b11,b12,QXo,QXU,QL,eE,seval])
   all_goals(cases a5:(t==[])<;>try simp only[QXo,QXU,Qa,seval])
  ·have g1:decide (k≥10)=false:=QX5 q1;simp only[b7,b8,b10,b11,b12,c10,c11,c12,QXT,QYd,QYc,QXu,QXo,eE,seval];cases a1:decide ((l.length:Int) > 0)<;>try simp only[c11,QXX,QXW,eE,seval]
   all_goals(cases a2:decide ((p.length:Int) > 0)<;>try simp only[c12,QXX,QXW,w,eE,seval])
   all_goals(cases a3:decide (((s.length+r.length:Nat):Int) > 0)<;>try simp only[QXX,QXW,QXo,eE,seval])
   all_goals(cases a4:((b:Int)==0)<;>try simp only[a4,n4,b11,b12,QXo,QXU,QL,eE,seval])
   all_goals(cases a5:(t==[])<;>try simp only[QXo,QXU,Qa,seval])

end

theorem Pz {α:Type}(p:α→Bool){l:List α}{i:Nat}{x:α}(hx:l[i]? = some x):(l.drop i).find? p=if p x=true then some x else(l.drop (i+1)).find? p:=by
 have hlt:i<l.length:=(QWg.1 hx).1;rw[QWY hlt,show l[i]=x from(QWg.1 hx).2,QX4];cases p x<;>rfl

def zc:List AV:=[.int .i64 0,.str [],.str [],.int .i64 0,.int .i64 0,.int .i64 0,.int .i64 0,.int .i64 0]

def OpI (g:PG)(n:Int)(k:Nat)(st:St):Prop :=
 ∃f fr i,st=⟨f,[fr],[]⟩∧k=g.ops.length-i∧g.ops.find? (fun o=>o.num==n)=(g.ops.drop i).find? (fun o=>o.num==n)∧f 1=.int .i64 n∧f 2=.ptr 0 2 0∧f 4=.ptr 0 4 0∧f 6=.int .i64 (i:Nat)∧fr 2=.cells g.cells∧fr 4=.cells zc

theorem y45 (g:PG)(hl:g.ops.length≤maxLen)(n:Int):Qi Tryz.prog 45 [Qp g,.int .i64 n] (Gy (fun o=>o.num==n) g.ops):=by
 refine k45.fn (by simp) ?_;simp only[Qp,PG.cells,eE,seval];refine Qc (OpI g n) _ ⟨_,_,0,rfl,rfl,rfl,(by rfl),(by rfl),(by rfl),(by rfl),(by rfl),(by rfl)⟩ ?_;rintro _ st ⟨f,fr,i,rfl,rfl,hx,h1,h2,h4,h6,m2,m4⟩;simp only[PG.cells,zc]at m2 m4;simp only[QXb,h2,h6,m2,eE,seval];by_cases hlt:i<g.ops.length
 ·obtain⟨x,hi⟩:∃x,g.ops[i]? = some x:=⟨g.ops[i],QWh hlt⟩;have hg:(g.ops.map fun o=>AV.agg o.cells)[i]? = some (.agg x.cells):=by simp[hi]
  have e1:=Qo i _ hlt hl;rw[Pz _ hi]at hx;simp only[PO.cells]at hg m2;simp only[Ql hlt,Qg,QXI,Qb,hg,PO.cells,h1,h2,h6,m2,eE,seval];cases hp:(x.num==n)
  ·rw[hp]at hx;simp only[QWz,if_false]at hx;simp only[h6,e1,Qa,seval];exact⟨g.ops.length-(i+1),by omega,_,_,i+1,rfl,rfl,hx,(by exact h1),(by exact h2),(by exact h4),(by rfl),m2,m4⟩
  ·rw[hp]at hx;simp only[if_true]at hx;simp only[Qg,QXI,Qb,hg,Gy,hx,QXr,QX6,Qv,PO.cells,h2,h4,h6,m2,m4,splice,QXp,QWD,QWQ,QWX,QXv,QXj,QWv,QXc,QXs,QXt,AV.leaf,eE,seval]
 ·have hx':g.ops.find? (fun o=>o.num==n)=none:=by rw[hx,QWR (by omega)];rfl
  simp only[QA hlt,h4,m4,Gy,hx',QXQ,QW5,Gx,Qv,PO.cells,splice,QXp,QWD,QWQ,QWX,QXv,QXj,QWv,QXc,QXs,QXt,AV.leaf,eE,seval]

section progs
variable (L:List PG)(hl:L.length≤maxLen)(p:PG→Bool)(c:Nat)(cap:AV)(m:Qn)

end progs

section items
variable (L:List PI)(hl:L.length≤maxLen)(p:PI→Bool)(c:Nat)(cap:AV)(m:Qn)

end items

def TH (b:Nat)(x:PI):Bool:=IntKind.u64.wrap x.num==(b:Int)
def GJ (b:Nat)(x:PI):Bool:=x.num==IntKind.i64.wrap (b:Int)

theorem Vi {b:Nat}{x:PI}(hb:b≤2147483647)(hx:(Lit.int .i64 x.num).wf=true):GJ b x=TH b x:=by
 have h1:=Qa4 hx;have h2:=Qa5 hx;unfold GJ TH;rw[QXa,QWm,QWm,QC,ZS];omega

def Wp (E:List PE)(t:Int)(b:Nat):Bool :=
 if 0≤t∧t<E.length∧b≤2147483647 then
  match E[t.toNat]? with
  |some x=>x.opn||x.items.any (TH b)
  |none=>false
 else false

def AcI (P:PL)(L:List PI)(eo:Bool)(n b:Nat)(k:Nat)(st:St):Prop :=
 ∃f fr i,st=⟨f,[fr],[]⟩∧k=L.length-i∧f 1=.int .i64 (n:Nat)∧f 2=.int .u64 (b:Nat)∧f 3=.ptr 0 3 0∧fr 3=.cells [.list (P.progs.map Qp),.list (P.enums.map Qr)]∧f 7=.bool (eo||(L.take i).any (GJ b))∧f 8=.int .i64 (i:Nat)

theorem y76 {M:Nat}(P:PL)(hP:P.ok M)(t:Int)(b:Nat):Qi Tryz.prog 76 [P.av,.int .i64 t,.int .u64 (b:Nat)] (.bool (Wp P.enums t b)):=by
 have e0:P.av=.agg [.list (P.progs.map Qp),.list (P.enums.map Qr)]:=rfl;refine k76.fn (by simp) ?_;simp only[e0,eE,seval];by_cases h1:0≤t
 ·have d1:decide (t<0)=false:=QX5 (by omega);by_cases h2:t<P.enums.length
  ·have d2:decide (t≥(P.enums.length:Int))=false:=QX5 (by omega);by_cases h3:b≤2147483647
   ·have d3:decide ((b:Int) > 2147483647)=false:=QX5 (by omega);obtain⟨n,rfl⟩:=QXV h1;have hn:n<P.enums.length:=by omega
    obtain⟨x,hi⟩:∃x,P.enums[n]? = some x:=⟨P.enums[n],QWh hn⟩;have hx:=hP.enums x (QWt hi);have hg:(P.enums.map Qr)[n]? = some (.agg x.cells):=by simp[hi,Qr]
    simp only[PE.cells]at hg;have ha:Wp P.enums (n:Int) b=(x.opn||x.items.any (GJ b)):=by
     unfold Wp;rw[QWJ ⟨h1,h2,h3⟩,QXI,hi];show(x.opn||x.items.any (TH b))=_;congr 1
     rw[QXa,QX8,QX8]
     constructor
     ·rintro⟨y,hy,hp⟩;exact⟨y,hy,by rw[Vi h3 (hx.items y hy).num];exact hp⟩
     ·rintro⟨y,hy,hp⟩;exact⟨y,hy,by rw[←Vi h3 (hx.items y hy).num];exact hp⟩
    simp only[d1,d2,QXb,d3,Qg,QXI,Qb,hg,eE,seval];refine Qc (AcI P x.items x.opn n b) _ ⟨_,_,0,rfl,rfl,(by rfl),(by rfl),(by rfl),(by rfl),by simp only[QXp,List.any_nil,QYd]<;>first|rfl|simp only[eE,seval],(by rfl)⟩ ?_;rintro _ st ⟨f,fr,i,rfl,rfl,g1,g2,g3,m3,g7,g8⟩;simp only[QXb,Qg,QXI,Qb,hg,g1,g3,m3,g8,eE,seval];by_cases hlt:i<x.items.length
    ·obtain⟨y,hd⟩:∃y,x.items[i]? = some y:=⟨x.items[i],QWh hlt⟩;have hdm:(x.items.map fun n=>AV.agg n.cells)[i]? = some (.agg y.cells):=by simp[hd]
     simp only[PI.cells]at hdm;have e1:=Qo i _ hlt hx.len1;have ht:(x.opn||(x.items.take (i+1)).any (GJ b))=((x.opn||(x.items.take i).any (GJ b))||GJ b y):=by
      rw[QX0,hd];simp[Bool.or_assoc]
     have hp:GJ b y=(y.num==IntKind.i64.wrap (b:Int)):=rfl;rw[hp]at ht;simp only[PI.cells]at hg;cases hq:(x.opn||(x.items.take i).any (GJ b))
     ·rw[hq,QXX]at ht;simp only[Ql hlt,Qg,QXI,Qb,hg,hdm,hq,PI.cells,g1,g2,g3,m3,g7,g8,e1,eE,seval];exact⟨x.items.length-(i+1),by omega,_,_,i+1,rfl,rfl,(by exact g1),(by exact g2),(by exact g3),(by exact m3),by rw[ht]<;>first|rfl|simp only[eE,seval],(by rfl)⟩
     ·rw[hq,QXW]at ht;simp only[Ql hlt,hq,PI.cells,g7,g8,e1,Qa,seval];exact⟨x.items.length-(i+1),by omega,_,_,i+1,rfl,rfl,(by exact g1),(by exact g2),(by exact g3),(by exact m3),by rw[ht]<;>first|rfl|simp only[eE,seval],(by rfl)⟩
    ·rw[QWO (by omega)]at g7;simp only[QA hlt,g7,ha,Qa,seval]
   ·have d3:decide ((b:Int) > 2147483647)=true:=QYa (by omega);have ha:Wp P.enums t b=false:=by
     unfold Wp;rw[QWu (by omega)]
    simp only[d1,d2,QXb,d3,ha,eE,seval]
  ·have d2:decide (t≥(P.enums.length:Int))=true:=QYa (by omega);have ha:Wp P.enums t b=false:=by
    unfold Wp;rw[QWu (by omega)]
   simp only[d1,d2,QXb,ha,eE,seval]
 ·have d1:decide (t<0)=true:=QYa (by omega);have ha:Wp P.enums t b=false:=by
   unfold Wp;rw[QWu (by omega)]
  simp only[d1,ha,Qa,seval]

def Un (P:PL)(k tg kd:Int)(b:Nat)(t:List UInt8)(l p s r:List AV):Int :=
 if (kd != k||oth kd b t l p s r)=true then 12 else if decide ((t.length:Int) > 4096)=true then 3 else if (k==7 && !Hj t)=true then 7
 else if (!Xk k kd b t l p s r)=true then 12 else if (k==9 && !Wp P.enums tg b)=true then 16 else 0

section
variable {M:Nat}(P:PL)(hP:P.ok M)(k tg kd:Int)(b:Nat)(t:List UInt8)(l p s r:List AV)(hl:l.length≤140737488351232)(hp:p.length≤140737488351232)(hs:s.length≤140737488351232)(hr:r.length≤140737488351232)

end
open Up

def XR (f:Nat→Int):Nat→Nat→Int
 |0,_=>0
 |k+1,i=>if f i=0 then XR f k (i+1)else f i

theorem PA {f:Nat→Int}{n i:Nat}(h:i<n):XR f (n-i) i=if f i=0 then XR f (n-(i+1)) (i+1)else f i:=by
 rw[show n-i=(n-(i+1))+1 by omega];rfl
theorem GK {f:Nat→Int}{n i:Nat}(h:i<n)(e:f i=0):XR f (n-i) i=XR f (n-(i+1)) (i+1):=by
 rw[PA h,QWJ e]
theorem KO {f:Nat→Int}{n i:Nat}{v:Int}(h:i<n)(e:f i=v)(hv:v≠0):XR f (n-i) i=v:=by
 rw[PA h,QWu (by rw[e];exact hv),e]
theorem UN {f:Nat→Int}{n i:Nat}(h:¬i<n):XR f (n-i) i=0:=by
 rw[show n-i=0 by omega];rfl
theorem Wq {f:Nat→Int}:∀ {k i:Nat},XR f k i=0→∀j,i≤j→j<i+k→f j=0
 |0,_,_,_,h1,h2=>by omega
 |k+1,i,h,j,h1,h2=>by
  rw[XR]at h;split at h
  ·rename_i h0;by_cases e:j=i
   ·rw[e];exact h0
   ·exact Wq h j (by omega) (by omega)
  ·rename_i h0;exact absurd h h0

def _root_.Go.Proofs.YtdhlbgejhcejcaaGreatDoor.Br.V.oth (v:V):Bool:=Va.oth v.kd v.bits v.text (v.list.map V.av) (v.pairs.map V.pav) (v.slots.map V.sav) (v.raws.map R.av)
def _root_.Go.Proofs.YtdhlbgejhcejcaaGreatDoor.Br.V.one (P:PL)(k tg:Int)(v:V):Int:=Un P k tg v.kd v.bits v.text (v.list.map V.av) (v.pairs.map V.pav) (v.slots.map V.sav) (v.raws.map R.av)

theorem GL (v:V):v.av=vo v.kd v.bits v.text (v.list.map V.av) (v.pairs.map V.pav) (v.slots.map V.sav) (v.raws.map R.av):=by
 rw[V.av,V.eta];rfl

def QR (P:PL)(t:Int):PG:=P.progs[t.toNat]?.getD ⟨[],[],0⟩
def ZJ (a b:V):Bool:=a.bits==b.bits&&a.text==b.text
def Zg (g:PG)(n:Int):Option PO:=g.ops.find? fun o=>o.num==n

section
variable (m:PG→V→Int)(P:PL)
def QU (o:PO)(v:V):Int:=if o.kind=10 then m (QR P o.target) v else v.one P o.kind o.target
def YC (o:PO)(ps:List (V×V))(i:Nat):Int:=match ps[i]? with
 |none=>0
 |some x=>if x.1.one P o.key (-1)=0 then(if (ps.take i).any (fun q=>ZJ q.1 x.1)=true then 9 else QU m P o x.2)else x.1.one P o.key (-1)
def DA (o:PO)(l:List V)(i:Nat):Int:=match l[i]? with
 |none=>0
 |some x=>QU m P o x
def Xc (o:PO)(v:V):Int :=
 if o.card=5 then(if (v.kd != 12||v.oth)=true then 12 else XR (YC m P o v.pairs) v.pairs.length 0)
 else if o.card=4 then(if (v.kd != 11||v.oth)=true then 12 else XR (DA m P o v.list) v.list.length 0)
 else QU m P o v
def Jz (g:PG)(o:PO)(y:Int×V):Bool:=o.union != -1&&(((Zg g y.1).getD Gx).union==o.union)
def Js (g:PG)(sl:List (Int×V))(i:Nat):Int:=match sl[i]? with
 |none=>0
 |some x=>match Zg g x.1 with
  |none=>8
  |some o=>if (sl.take i).any (fun y=>y.1==x.1)=true then 9 else if (sl.take i).any (Jz g o)=true then 15 else Xc m P o x.2
def UP (g:PG)(f:R):Bool:=match Zg g f.num with
 |none=>true
 |some o=>o.kind==9&&o.card != 5&&f.wire==0&&decide ((f.bits:Int)≤2147483647) && !Wp P.enums o.target f.bits
def JP (g:PG)(f:R):Int :=
 if (decide (f.num<1)||decide (f.num > 65535)||decide (f.wire<0)||decide (f.wire > 6))=true then 1
 else if (decide (f.wire≤2) && !(f.data==[])||decide (f.wire > 2) && !((f.bits:Int)==0))=true then 1
 else if (!UP P g f)=true then 1
 else if (f.wire==3&&decide ((f.data.length:Int) > 4096)||decide ((f.data.length:Int) > 65536))=true then 3 else 0
def Jt (g:PG)(l:List R)(i:Nat):Int:=match l[i]? with
 |none=>0
 |some f=>JP P g f
def YD (g:PG)(sl:List (Int×V)):Bool:=g.ops.any fun o=>o.card==1 && !sl.any fun y=>y.1==o.num
def YE (g:PG)(v:V):Int :=
 if XR (Js m P g v.slots) v.slots.length 0=0 then
  (if YD g v.slots=true then 14 else XR (Jt P g v.raws) v.raws.length 0)
 else XR (Js m P g v.slots) v.slots.length 0
end

theorem UQ {m:PG→V→Int}{P:PL}{o:PO}{ps:List (V×V)}{i:Nat}{x:V×V}(h:ps[i]? = some x) :
  YC m P o ps i=if x.1.one P o.key (-1)=0 then(if (ps.take i).any (fun q=>ZJ q.1 x.1)=true then 9 else QU m P o x.2)else x.1.one P o.key (-1):=by
 unfold YC;rw[h]
theorem UR {m:PG→V→Int}{P:PL}{o:PO}{l:List V}{i:Nat}{x:V}(h:l[i]? = some x):DA m P o l i=QU m P o x:=by
 unfold DA;rw[h]
theorem HC {P:PL}{g:PG}{l:List R}{i:Nat}{x:R}(h:l[i]? = some x):Jt P g l i=JP P g x:=by
 unfold Jt;rw[h]

def XJ (P:PL):Nat→PG→V→Int
 |0,_,v=>if (v.kd != 10||v.oth)=true then 12 else 17
 |n+1,g,v=>if (v.kd != 10||v.oth)=true then 12 else YE (XJ P n) P g v

mutual
def _root_.Go.Proofs.YtdhlbgejhcejcaaGreatDoor.Br.V.cnt:V→Nat
 |.mk _ _ _ l p s r=>1+r.length+XT l+Xz p+Xf s
def XT:List V→Nat
 | []=>0
 |x :: l=>x.cnt+XT l
def Xz:List (V×V)→Nat
 | []=>0
 |(a,b) :: l=>a.cnt+b.cnt+Xz l
def Xf:List (Int×V)→Nat
 | []=>0
 |(_,a) :: l=>a.cnt+Xf l
end

theorem Xn:∀v:V,v.cnt=1+v.raws.length+XT v.list+Xz v.pairs+Xf v.slots
 |.mk k b t l p s r=>by rw[V.cnt];rfl

theorem D9 {l:List V}{i:Nat}{x:V}(h:l[i]? = some x):XT (l.take (i+1))=XT (l.take i)+x.cnt:=by
 induction l generalizing i with
 |nil=>simp at h
 |cons y l ih=>
  cases i with
  |zero=>simp at h;subst h;simp[XT]
  |succ i=>
   simp only[QWN,XT];rw[ih (by simpa using h)];omega
theorem Fa {l:List (V×V)}{i:Nat}{x:V×V}(h:l[i]? = some x):Xz (l.take (i+1))=Xz (l.take i)+(x.1.cnt+x.2.cnt):=by
 induction l generalizing i with
 |nil=>simp at h
 |cons y l ih=>
  obtain⟨y1,y2⟩:=y;cases i with
  |zero=>simp at h;subst h;simp[Xz]
  |succ i=>
   simp only[QWN,Xz];rw[ih (by simpa using h)];omega
theorem Fb {l:List (Int×V)}{i:Nat}{x:Int×V}(h:l[i]? = some x):Xf (l.take (i+1))=Xf (l.take i)+x.2.cnt:=by
 induction l generalizing i with
 |nil=>simp at h
 |cons y l ih=>
  obtain⟨y1,y2⟩:=y;cases i with
  |zero=>simp at h;subst h;simp[Xf]
  |succ i=>
   simp only[QWN,Xf];rw[ih (by simpa using h)];omega

inductive Thin:V→Prop
 |mk {v:V} (n:v.list.length+2*v.pairs.length+v.slots.length≤1099511627776) (list:∀x∈v.list,Thin x) (keys:∀x∈v.pairs,Thin x.1) (vals:∀x∈v.pairs,Thin x.2) (slots:∀x∈v.slots,Thin x.2):Thin v

theorem Uo {P:PL}{k tg:Int}{v:V}(h:v.one P k tg=0):v.kd=k∧v.oth=false∧Xk k v.kd v.bits v.text (v.list.map V.av) (v.pairs.map V.pav) (v.slots.map V.sav) (v.raws.map R.av)=true:=by
 unfold V.one Un at h;split at h
 ·omega
 ·rename_i h1;split at h
  ·omega
  ·split at h
   ·omega
   ·split at h
    ·omega
    ·rename_i h2;simp only[Bool.not_eq_true,QW9,bne_eq_false_iff_eq]at h1;exact⟨h1.1,h1.2,by simpa using h2⟩

theorem R8 {k kd:Int}{b:Nat}{t:List UInt8}{l p s r:List AV}(h:Xk k kd b t l p s r=true):isk k=true:=by
 unfold Xk at h;simp only[QWE]at h;exact h.1.1.1.1.1.1

end Go.Proofs.YtdhlbgejhcejcaaGreatDoor.Va

namespace Go.Proofs.YtdhlbgejhcejcaaGreatDoor.So

section
variable {α:Type}

def ZB (lt:α→α→Bool)(a:α):List α→List α
 | []=>[a]
 |x :: l=>bif lt x a then x :: ZB lt a l else a :: x :: l

def QD (lt:α→α→Bool):List α→List α
 | []=>[]
 |a :: l=>ZB lt a (QD lt l)

def mg (lt:α→α→Bool):List α→List α→List α
 | [],Y=>Y
 |x :: X,[]=>x :: X
 |x :: X,y :: Y=>bif lt y x then y :: mg lt (x :: X) Y else x :: mg lt X (y :: Y)
termination_by X Y=>X.length+Y.length

structure SW (lt:α→α→Bool):Prop where
 irr:∀x,lt x x=false
 tr:∀x y z,lt x y=true→lt y z=true→lt x z=true
 nt:∀x y z,lt x y=false→lt y z=false→lt x z=false

variable {lt:α→α→Bool}

theorem SW.as (h:SW lt){x y:α}(hx:lt x y=true):lt y x=false:=by
 cases hy:lt y x with
 |false=>rfl
 |true=>
  have:=h.tr x y x hx hy;rw[h.irr]at this;cases this

theorem Jj (X:List α):mg lt X []=X:=by cases X<;>simp[mg]
theorem ZW (Y:List α):mg lt [] Y=Y:=by simp[mg]
theorem Wr {x y:α}{X Y:List α}(h:lt y x=true):mg lt (x :: X) (y :: Y)=y :: mg lt (x :: X) Y:=by rw[mg,h];rfl
theorem W5 {x y:α}{X Y:List α}(h:lt y x=false):mg lt (x :: X) (y :: Y)=x :: mg lt X (y :: Y):=by rw[mg,h];rfl
theorem WR {a x:α}{l:List α}(h:lt x a=true):ZB lt a (x :: l)=x :: ZB lt a l:=by rw[ZB,h];rfl
theorem WS {a x:α}{l:List α}(h:lt x a=false):ZB lt a (x :: l)=a :: x :: l:=by rw[ZB,h];rfl

theorem PB (a:α):∀Y:List α,mg lt [a] Y=ZB lt a Y
 | []=>by rw[Jj];rfl
 |y :: Y=>by
  cases h:lt y a with
  |true=>rw[Wr h,WR h,PB a Y]
  |false=>rw[W5 h,WS h,ZW]

theorem Qwd (h:SW lt)(a:α):∀(n:Nat) (X Y:List α),X.length+Y.length=n→mg lt (ZB lt a X) Y=ZB lt a (mg lt X Y):=by
 intro n
 induction n using Nat.strongRecOn with
 |_ n ih=>
 intro X Y hn;cases X with
 |nil=>
  show mg lt [a] Y=ZB lt a (mg lt [] Y);rw[ZW,PB]
 |cons x X=>
  cases Y with
  |nil=>rw[Jj,Jj]
  |cons y Y=>
   simp only[QWv]at hn;cases hxa:lt x a with
   |false=>
    have hi:ZB lt a (x :: X)=a :: x :: X:=WS hxa;cases hya:lt y a with
    |true=>
     cases hyx:lt y x with
     |true=>
      have i:=ih (n-1) (by omega) (x :: X) Y (by simp only[QWv];omega);rw[hi]at i ⊢;rw[Wr hya,Wr hyx,WR hya,i]
     |false=>
      have:=h.nt y x a hyx hxa;rw[hya]at this;cases this
    |false=>
     rw[hi,W5 hya];cases hyx:lt y x with
     |true=>rw[Wr hyx,WS hya]
     |false=>rw[W5 hyx,WS hxa]
   |true=>
    have hi:ZB lt a (x :: X)=x :: ZB lt a X:=WR hxa;cases hyx:lt y x with
    |true=>
     have i:=ih (n-1) (by omega) (x :: X) Y (by simp only[QWv];omega);rw[hi]at i ⊢;rw[Wr hyx,Wr hyx,WR (h.tr y x a hyx hxa),i]
    |false=>
     have i:=ih (n-1) (by omega) X (y :: Y) (by simp only[QWv];omega);rw[hi,W5 hyx,W5 hyx,WR hxa,i]

theorem Ws (h:SW lt):∀A B:List α,mg lt (QD lt A) (QD lt B)=QD lt (A++B)
 | [],B=>ZW _
 |a :: A,B=>by
  show mg lt (ZB lt a (QD lt A)) (QD lt B)=ZB lt a (QD lt (A++B));rw[Qwd h a _ _ _ rfl,Ws h A B]

theorem Wt:∀(n:Nat) (X1 Y1 X2 Y2:List α),X1.length+Y1.length=n→(∀y∈Y1,∀x∈X2,lt y x=true)→(∀x∈X1,∀y∈Y2,lt y x=false)→
  mg lt (X1++X2) (Y1++Y2)=mg lt X1 Y1++mg lt X2 Y2:=by
 intro n
 induction n using Nat.strongRecOn with
 |_ n ih=>
 intro X1 Y1 X2 Y2 hn h1 h2;cases X1 with
 |nil=>
  cases Y1 with
  |nil=>rw[ZW];rfl
  |cons y Y1=>
   cases X2 with
   |nil=>simp[ZW]
   |cons x X2=>
    simp only[QWv,QXc]at hn;have i:=ih (n-1) (by omega) [] Y1 (x :: X2) Y2 (by simp only[QXc];omega) (fun z hz=>h1 z (QWw _ hz)) h2;simp only[QWD,QWC,ZW]at i ⊢;rw[Wr (h1 y (by simp) x (by simp)),i]
 |cons x X1=>
  simp only[QWv]at hn;cases Y1 with
  |nil=>
   cases Y2 with
   |nil=>simp[Jj]
   |cons y Y2=>
    have i:=ih (n-1) (by omega) X1 [] X2 (y :: Y2) (by simp only[QXc]at hn ⊢;omega) h1 (fun z hz=>h2 z (QWw _ hz));simp only[QWD,QWC,Jj]at i ⊢;rw[W5 (h2 x (by simp) y (by simp)),i]
  |cons y Y1=>
   simp only[QWv]at hn;simp only[QWC];cases hyx:lt y x with
   |true=>
    have i:=ih (n-1) (by omega) (x :: X1) Y1 X2 Y2 (by simp only[QWv];omega) (fun z hz=>h1 z (QWw _ hz)) h2;simp only[QWC]at i;rw[Wr hyx,Wr hyx,i];rfl
   |false=>
    have i:=ih (n-1) (by omega) X1 (y :: Y1) X2 Y2 (by simp only[QWv];omega) h1 (fun z hz=>h2 z (QWw _ hz));simp only[QWC]at i;rw[W5 hyx,W5 hyx,i];rfl

theorem Qag {x:α}{Y1 Y2:List α}(h1:∀y∈Y1,lt y x=true)(h2:∀y∈Y2,lt y x=false):mg lt [x] (Y1++Y2)=Y1++x :: Y2:=by
 have a:=Wt (lt:=lt) _ [] Y1 [x] Y2 rfl (fun y hy z hz=>by rw[QYi.1 hz];exact h1 y hy) (by simp);have b:=Wt (lt:=lt) _ [x] [] [] Y2 rfl (by simp) (fun z hz y hy=>by rw[QYi.1 hz];exact h2 y hy);simp only[QWD,QXj,ZW,Jj]at a b;rw[a,b];rfl

theorem YF {y:α}{X1 X2:List α}(h1:∀x∈X1,lt y x=false)(h2:∀x∈X2,lt y x=true):mg lt (X1++X2) [y]=X1++y :: X2:=by
 have a:=Wt (lt:=lt) _ X1 [y] X2 [] rfl (fun z hz x hx=>by rw[QYi.1 hz];exact h2 x hx) (by simp);have b:=Wt (lt:=lt) _ X1 [] [] [y] rfl (by simp) (fun x hx z hz=>by rw[QYi.1 hz];exact h1 x hx);simp only[QWD,QXj,ZW,Jj]at a b;rw[a,b];simp

def X6 (lt:α→α→Bool)(l:List α):Prop:=l.Pairwise fun x y=>lt y x=false

theorem DB {a z:α}:∀ {l:List α},z∈ZB lt a l→z=a∨z∈l
 | [],h=>.inl (QYi.1 h)
 |x :: l,h=>by
  cases hx:lt x a with
  |true=>
   rw[WR hx]at h;rcases QXD.1 h with rfl|h
   ·exact .inr QWy
   ·rcases DB h with h|h
    ·exact .inl h
    ·exact .inr (QWw _ h)
  |false=>
   rw[WS hx]at h;rcases QXD.1 h with rfl|h
   ·exact .inl rfl
   ·exact .inr h

theorem Uq {z:α}:∀ {l:List α},z∈QD lt l→z∈l
 | [],h=>h
 |a :: l,h=>by
  rcases DB (l:=QD lt l) h with rfl|h
  ·exact QWy
  ·exact QWw _ (Uq h)

theorem Vj (h:SW lt)(a:α):∀ {l:List α},X6 lt l→X6 lt (ZB lt a l)
 | [],_=>List.pairwise_singleton _ _
 |x :: l,hs=>by
  obtain⟨h1,h2⟩:=QXP.1 hs;cases hx:lt x a with
  |true=>
   rw[WR hx];refine QXP.2 ⟨fun z hz=>?_,Vj h a h2⟩;rcases DB hz with rfl|hz
   ·exact h.as hx
   ·exact h1 z hz
  |false=>
   rw[WS hx];refine QXP.2 ⟨fun z hz=>?_,hs⟩;rcases QXD.1 hz with rfl|hz
   ·exact hx
   ·exact h.nt z x a (h1 z hz) hx

theorem XS (h:SW lt):∀l:List α,X6 lt (QD lt l)
 | []=>List.Pairwise.nil
 |a :: l=>Vj h a (XS h l)

theorem Vk (a:α):∀l:List α,(ZB lt a l).length=l.length+1
 | []=>rfl
 |x :: l=>by
  cases hx:lt x a with
  |true=>rw[WR hx,QWv,Vk a l,QWv]
  |false=>rw[WS hx];rfl

theorem Jk:∀l:List α,(QD lt l).length=l.length
 | []=>rfl
 |a :: l=>by show(ZB lt a (QD lt l)).length=_;rw[Vk,Jk l];rfl

theorem Qwe:∀(n:Nat) (X Y:List α),X.length+Y.length=n→(mg lt X Y).length=n:=by
 intro n
 induction n using Nat.strongRecOn with
 |_ n ih=>
 intro X Y hn;cases X with
 |nil=>rw[ZW];simpa using hn
 |cons x X=>
  cases Y with
  |nil=>rw[Jj];simpa using hn
  |cons y Y=>
   simp only[QWv]at hn;cases hyx:lt y x with
   |true=>
    rw[Wr hyx,QWv,ih (n-1) (by omega) (x :: X) Y (by simp only[QWv];omega)];omega
   |false=>
    rw[W5 hyx,QWv,ih (n-1) (by omega) X (y :: Y) (by simp only[QWv];omega)];omega

theorem Qwf {z:α}:∀(n:Nat) (X Y:List α),X.length+Y.length=n→z∈mg lt X Y→z∈X∨z∈Y:=by
 intro n
 induction n using Nat.strongRecOn with
 |_ n ih=>
 intro X Y hn hz;cases X with
 |nil=>rw[ZW]at hz;exact .inr hz
 |cons x X=>
  cases Y with
  |nil=>rw[Jj]at hz;exact .inl hz
  |cons y Y=>
   simp only[QWv]at hn;cases hyx:lt y x with
   |true=>
    rw[Wr hyx]at hz;rcases QXD.1 hz with rfl|hz
    ·exact .inr QWy
    ·exact(ih (n-1) (by omega) (x :: X) Y (by simp only[QWv];omega) hz).imp id (QWw _)
   |false=>
    rw[W5 hyx]at hz;rcases QXD.1 hz with rfl|hz
    ·exact .inl QWy
    ·exact(ih (n-1) (by omega) X (y :: Y) (by simp only[QWv];omega) hz).imp (QWw _) id

theorem KC (h:SW lt){l:List α}(hs:X6 lt l){i j:Nat}{u v x:α}(hij:i≤j)(hi:l[i]? = some u)(hj:l[j]? = some v)(hv:lt v x=true):lt u x=true:=by
 rcases Nat.lt_or_eq_of_le hij with hlt|rfl
 ·obtain⟨h1,rfl⟩:=QWg.1 hi;obtain⟨h2,rfl⟩:=QWg.1 hj;have:=QYj.1 hs i j h1 h2 hlt;cases hu:lt l[i] x with
  |true=>rfl
  |false=>
   have:=h.nt _ _ _ this hu;rw[hv]at this;cases this
 ·rw[hi]at hj;cases hj;exact hv

theorem KP {l:List α}(hs:X6 lt l)(h:SW lt){i j:Nat}{u v:α}(hij:i≤j)(hi:l[i]? = some u)(hj:l[j]? = some v):lt v u=false:=by
 rcases Nat.lt_or_eq_of_le hij with hlt|rfl
 ·obtain⟨h1,rfl⟩:=QWg.1 hi;obtain⟨h2,rfl⟩:=QWg.1 hj;exact QYj.1 hs i j h1 h2 hlt
 ·rw[hi]at hj;cases hj;exact h.irr _

def Q7 (lt:α→α→Bool)(s:Nat):Nat→List α→List α
 |0,_=>[]
 |n+1,l=>QD lt (l.take s)++Q7 lt s n (l.drop s)

theorem DC (s:Nat):∀k,Q7 lt s k []=[]
 |0=>rfl
 |k+1=>by rw[Q7,List.take_nil,QXv,DC s k];rfl

theorem US (s:Nat):∀(k:Nat) (l:List α),(Q7 lt s k l).length=min (s*k) l.length
 |0,l=>by simp[Q7]
 |k+1,l=>by
  rw[Q7,QWS,Jk,US s k,QXd,QWV,Nat.mul_succ];omega

theorem We {s:Nat}{z:α}:∀ {k:Nat} {l:List α},z∈Q7 lt s k l→z∈l
 |0,l,h=>by cases h
 |k+1,l,h=>by
  rw[Q7]at h;rcases QXz.1 h with h|h
  ·exact QW3 (Uq h)
  ·exact QW2 (We h)

theorem YG (s:Nat):∀(k:Nat) (l:List α),Q7 lt s (k+1) l=Q7 lt s k l++QD lt ((l.drop (s*k)).take s)
 |0,l=>by simp[Q7]
 |k+1,l=>by
  rw[Q7,YG s k (l.drop s),Q7,QWB,QWI,Nat.mul_succ,Nat.add_comm s (s*k)]

theorem Vl {s k:Nat}{l:List α}(h:l.length≤s)(hk:l.length≤s*k):Q7 lt s k l=QD lt l:=by
 cases k with
 |zero=>
  have:l=[]:=QXl (by omega);subst this;rfl
 |succ k=>rw[Q7,QWO h,QWR h,DC,QXj]

theorem R9 (s:Nat)(l:List α):l.take s++(l.drop s).take s=l.take (2*s):=by
 rw[show 2*s=s+s by omega,List.take_add]

end

end Go.Proofs.YtdhlbgejhcejcaaGreatDoor.So

namespace Go.Proofs.YtdhlbgejhcejcaaGreatDoor.Va
open Go Am Rc Bt

def Ye (b:Nat):Nat :=
 let z:=b % 9223372036854775808
 if z > 9218868437227405312 then 0 else if z=9218868437227405312 then 1 else if z=0 then 2 else if z<4503599627370496 then 3 else 4

theorem PC (b:Nat):b &&& 4503599627370495=b % 4503599627370496:=Nat.and_two_pow_sub_one_eq_mod b 52
theorem PD (b:Nat):b &&& 9218868437227405312=(b / 4503599627370496 % 2048)*4503599627370496:=by
 have h1:(9218868437227405312:Nat)=2047 <<< 52:=by decide
 have h2:(b / 4503599627370496 % 2048)*4503599627370496=(b >>> 52 % 2 ^ 11) <<< 52:=by
  rw[Nat.shiftLeft_eq,Nat.shiftRight_eq_div_pow]
 rw[h1,h2]
 apply Nat.eq_of_testBit_eq
 intro i;rw[Nat.testBit_and,Nat.testBit_shiftLeft,Nat.testBit_shiftLeft,Nat.testBit_mod_two_pow,Nat.testBit_shiftRight,show(2047:Nat)=2 ^ 11-1 by decide,Nat.testBit_two_pow_sub_one];by_cases h:i≥52
 ·rw[show 52+(i-52)=i by omega];simp[h,Bool.and_comm]
 ·simp[h]

theorem x77 (b:Nat)(hb:b<18446744073709551616):Qi Tryz.prog 77 [.int .u64 (b:Nat)] (.int .i64 (Ye b:Nat)):=by
 refine k77.fn (by simp) ?_;have a1:bits .and .u64 (b:Int) 9218868437227405312=(((b / 4503599627370496 % 2048)*4503599627370496:Nat):Int):=by
  have:=UJ b 9218868437227405312 hb (by decide);rw[PD]at this;exact this
 have a2:bits .and .u64 (b:Int) 4503599627370495=((b % 4503599627370496:Nat):Int):=by
  have:=UJ b 4503599627370495 hb (by decide);rw[PC]at this;exact this
 simp only[a1,a2,Qa,seval];unfold Ye
 repeat' (first|(refine QP (fun h=>?_) (fun h=>?_)<;>simp only[h,Qa,seval])|(refine Xl (fun h=>?_) (fun h=>?_)<;>simp only[h,Qk,Qa,seval])|(refine Xm (fun h=>?_) (fun h=>?_)<;>simp only[h,Qk,eE,seval]))
 all_goals(simp only[QWm,QWG,bne_eq_false_iff_eq,QXY,ne_eq]at *)
 all_goals((repeat' split)<;>first|rfl|(exfalso;omega))

def Xt (k:Int)(b:Nat):Nat:=if k=6∧Ye b=0 then 9221120237041090560 else b

theorem Sa (b:Nat):((Ye b:Int)==0)=decide (Ye b=0):=by
 rw[QXa,QWm,QWl];omega

open Br Up So

section sorting
variable {α:Type}{lt:α→α→Bool}
theorem BL (a:α):∀l:List α,(ZB lt a l).Perm (a :: l)
 | []=>.refl _
 |x :: l=>by
  rw[ZB];cases lt x a
  ·exact .refl _
  ·exact((BL a l).cons x).trans (.swap a x l)
theorem Q3:∀l:List α,(QD lt l).Perm l
 | []=>.refl _
 |a :: l=>(BL a _).trans ((Q3 l).cons a)
theorem HD:∀ {l:List α},X6 lt l→QD lt l=l
 | [],_=>rfl
 |a :: l,h=>by
  obtain⟨h1,h2⟩:=QXP.1 h;rw[QD,HD h2];cases l with
  |nil=>rfl
  |cons x l=>exact WS (h1 x (by simp))
end sorting

theorem HE:∀ {a b c:List UInt8},Op.bytesLess a b=true→Op.bytesLess b c=true→Op.bytesLess a c=true
 |a,b,[],_,h=>by cases b<;>simp[Op.bytesLess]at h
 | [],_,_ :: _,_,_=>by simp[Op.bytesLess]
 |x :: a,[],_ :: _,h,_=>by simp[Op.bytesLess]at h
 |x :: a,y :: b,z :: c,h,k=>by
  simp only[Op.bytesLess,QWk,QWE,QWl,QWm]at h k ⊢;rcases h with h|⟨h1,h2⟩<;>rcases k with k|⟨k1,k2⟩
  ·exact .inl (UInt8.lt_trans h k)
  ·subst k1;exact .inl h
  ·subst h1;exact .inl k
  ·subst h1 k1;exact .inr ⟨rfl,HE h2 k2⟩
theorem Ur:∀ {a b:List UInt8},Op.bytesLess a b=false→Op.bytesLess b a=false→a=b
 | [],[],_,_=>rfl
 | [],_ :: _,h,_=>by simp[Op.bytesLess]at h
 |_ :: _,[],_,h=>by simp[Op.bytesLess]at h
 |x :: a,y :: b,h,k=>by
  simp only[Op.bytesLess,QW9,QYf,QYb,QXY]at h k;have e:x=y:=by
   rcases Nat.lt_trichotomy x.toNat y.toNat with g|g|g
   ·exact absurd (UInt8.lt_iff_toNat_lt.2 g) h.1
   ·exact UInt8.toNat_inj.1 g
   ·exact absurd (UInt8.lt_iff_toNat_lt.2 g) k.1
  subst e;rw[Ur (h.2.resolve_left fun g=>g rfl) (k.2.resolve_left fun g=>g rfl)]
theorem Fc:∀a:List UInt8,Op.bytesLess a a=false
 | []=>rfl
 |x :: a=>by simp[Op.bytesLess,Fc a]

def kl (k:Int)(a b:V):Bool :=
 if Zc k=true then Op.bytesLess a.text b.text else if (k==2||k==3)=true then decide (IntKind.i64.wrap (a.bits:Int)<IntKind.i64.wrap (b.bits:Int))else decide ((a.bits:Int)<(b.bits:Int))
theorem YH (k:Int):SW fun x y:V×V=>kl k x.1 y.1 where
 irr x:=by
  unfold kl;split
  ·exact Fc _
  ·split<;>simp
 tr x y z h g:=by
  unfold kl at *;split
  ·rename_i ht;rw[QWJ ht]at h g;exact HE h g
  ·rename_i ht;rw[QWu ht]at h g;split
   ·rename_i hs;rw[QWJ hs]at h g;simp only[QWl]at *;omega
   ·rename_i hs;rw[QWu hs]at h g;simp only[QWl]at *;omega
 nt x y z h g:=by
  unfold kl at *;split
  ·rename_i ht;rw[QWJ ht]at h g;cases hc:Op.bytesLess x.1.text z.1.text with
   |false=>rfl
   |true=>
    cases hy:Op.bytesLess y.1.text x.1.text with
    |true=>rw[HE hy hc]at g;cases g
    |false=>
     rw[Ur h hy]at hc;rw[hc]at g;cases g
  ·rename_i ht;rw[QWu ht]at h g;split
   ·rename_i hs;rw[QWJ hs]at h g;simp only[QYb]at *;omega
   ·rename_i hs;rw[QWu hs]at h g;simp only[QYb]at *;omega

def Q0 (k:Int)(l:List (V×V)):List (V×V):=QD (fun x y=>kl k x.1 y.1) l
def XU (l:List R):List R:=QD (fun x y=>decide (x.num<y.num)) l
theorem DD:SW fun x y:R=>decide (x.num<y.num) where
 irr x:=by simp
 tr x y z h k:=by simp only[QWl]at *;omega
 nt x y z h k:=by simp only[QYb]at *;omega

def _root_.Go.Proofs.YtdhlbgejhcejcaaGreatDoor.Br.V.nsc (v:V):V:=.mk v.kd (Xt v.kd v.bits) v.text v.list v.pairs v.slots v.raws
def _root_.Go.Proofs.YtdhlbgejhcejcaaGreatDoor.Br.V.emp (v:V):Bool:=Va.emp v.kd v.bits v.text (v.list.map V.av) (v.pairs.map V.pav) (v.slots.map V.sav) (v.raws.map R.av)

section
variable (nm:PG→V→V)(P:PL)
def Xu (o:PO)(v:V):V:=if o.kind=10 then nm (QR P o.target) v else v.nsc
def XB (o:PO)(v:V):V :=
 if o.card=4 then .mk 11 0 [] (v.list.map (Xu nm P o)) [] [] []else if o.card=5 then .mk 12 0 [] [] ((Q0 o.key v.pairs).map fun p=>(p.1.nsc,Xu nm P o p.2)) [] []else Xu nm P o v
def QV (sl:List (Int×V))(o:PO):List (Int×V):=match sl.find? (fun s=>s.1==o.num)with
 |none=>[]
 |some s=>if (decide (o.card<3) || !(XB nm P o s.2).emp)=true then [(o.num,XB nm P o s.2)]else []
def W6 (g:PG)(v:V):V:=.mk 10 0 [] [] [] (g.ops.flatMap (QV nm P v.slots)) (XU v.raws)
end
def nrm (P:PL):Nat→PG→V→V
 |0,_,v=>v
 |n+1,g,v=>W6 (nrm P n) P g v

theorem Vm (v:V):v.nsc.cnt=v.cnt:=by
 rw[Xn,Xn v];rfl
theorem BM {f:V→V}(h:∀v,(f v).cnt≤v.cnt):∀l:List V,XT (l.map f)≤XT l
 | []=>QWe _
 |x :: l=>by
  have:=h x;have:=BM h l;simp only[QWM,XT];omega
theorem BN {f g:V→V}(h:∀v,(f v).cnt≤v.cnt)(k:∀v,(g v).cnt≤v.cnt):∀l:List (V×V),Xz (l.map fun p=>(f p.1,g p.2))≤Xz l
 | []=>QWe _
 |(a,b) :: l=>by
  have:=h a;have:=k b;have:=BN h k l;simp only[QWM,Xz];omega
theorem PF {a b:List (V×V)}(h:a.Perm b):Xz a=Xz b:=by
 induction h with
 |nil=>rfl
 |cons x _ ih=>obtain⟨p,q⟩:=x;simp only[Xz,ih]
 |swap x y l=>obtain⟨p,q⟩:=x;obtain⟨r,s⟩:=y;simp only[Xz];omega
 |trans _ _ h1 h2=>rw[h1,h2]
theorem Sb (a b:List (Int×V)):Xf (a++b)=Xf a+Xf b:=by
 induction a with
 |nil=>simp[Xf]
 |cons x a ih=>obtain⟨n,v⟩:=x;simp only[QWC,Xf,ih];omega

theorem DE {nm:PG→V→V}{P:PL}(h:∀t v,(nm (QR P t) v).cnt≤v.cnt)(o:PO)(v:V):(Xu nm P o v).cnt≤v.cnt:=by
 unfold Xu;split
 ·exact h _ _
 ·rw[Vm];exact QWe _
theorem Vn {nm:PG→V→V}{P:PL}(h:∀t v,(nm (QR P t) v).cnt≤v.cnt)(o:PO)(v:V):(XB nm P o v).cnt≤v.cnt:=by
 unfold XB;split
 ·have:=BM (DE (P:=P) h o) v.list;rw[Xn,Xn v];simp only[V.raws,V.list,V.pairs,V.slots,QXc,Xz,Xf];simp only[V.list]at this;omega
 ·split
  ·have h1:=BN (f:=V.nsc) (g:=Xu nm P o) (fun v=>by rw[Vm];exact QWe _) (DE (P:=P) h o) (Q0 o.key v.pairs);have h2:Xz (Q0 o.key v.pairs)=Xz v.pairs:=PF (Q3 _);rw[Xn,Xn v];simp only[V.raws,V.list,V.pairs,V.slots,QXc,XT,Xf];simp only[V.pairs]at h1 h2;omega
  ·exact DE h o v

def wS (sl:List (Int×V))(n:Int):Nat:=Xf (sl.filter fun s=>s.1==n)
theorem Qwg (ops:List PO)(hd:ops.Pairwise fun a b=>a.num<b.num)(n:Int)(w:Nat):(ops.map fun o=>if n=o.num then w else 0).sum≤w:=by
 induction ops with
 |nil=>simp
 |cons o ops ih=>
  obtain⟨h1,h2⟩:=QXP.1 hd;simp only[QWM,QYk];by_cases e:n=o.num
  ·have:(ops.map fun o=>if n=o.num then w else 0).sum=0:=by
    have:∀l:List PO,(∀x∈l,n≠x.num)→(l.map fun o=>if n=o.num then w else 0).sum=0:=by
     intro l
     induction l with
     |nil=>intro _;rfl
     |cons x l ih=>
      intro h;rw[QWM,QYk,QWu (h x (by simp)),ih fun y hy=>h y (by simp[hy])]
    exact this ops fun x hx=>by have:=h1 x hx;omega
   rw[QWJ e,this];omega
  ·rw[QWu e];have:=ih h2;omega
theorem Qwh (ops:List PO)(hd:ops.Pairwise fun a b=>a.num<b.num)(sl:List (Int×V)):(ops.map fun o=>wS sl o.num).sum≤Xf sl:=by
 induction sl with
 |nil=>
  have:∀l:List PO,(l.map fun o=>wS [] o.num).sum=0:=by
   intro l
   induction l with
   |nil=>rfl
   |cons x l ih=>rw[QWM,QYk,ih];rfl
  rw[this];exact QWo _
 |cons s sl ih=>
  obtain⟨n,v⟩:=s;have h1:=Qwg ops hd n v.cnt;have h2:∀l:List PO,(l.map fun o=>wS ((n,v) :: sl) o.num).sum=(l.map fun o=>if n=o.num then v.cnt else 0).sum+(l.map fun o=>wS sl o.num).sum:=by
   intro l
   induction l with
   |nil=>rfl
   |cons o l ih=>
    simp only[QWM,QYk,ih];have:wS ((n,v) :: sl) o.num=(if n=o.num then v.cnt else 0)+wS sl o.num:=by
     unfold wS;by_cases e:n=o.num
     ·rw[List.filter_cons_of_pos (by simpa using e),QWJ e,Xf]
     ·rw[List.filter_cons_of_neg (by simpa using e),QWu e,QWW]
    omega
  rw[h2,Xf];omega

theorem Qah {sl:List (Int×V)}{n:Int}{s:Int×V}(h:sl.find? (fun s=>s.1==n)=some s):s.2.cnt≤wS sl n:=by
 unfold wS
 induction sl with
 |nil=>cases h
 |cons x sl ih=>
  obtain⟨m,v⟩:=x;rw[QX4]at h;by_cases e:m=n
  ·have hb:((m,v).1==n)=true:=by simpa using e
   rw[hb]at h;cases h;rw[List.filter_cons_of_pos (by simpa using e),Xf];exact Nat.le_add_right _ _
  ·have hb:((m,v).1==n)=false:=by simpa using e
   rw[hb]at h;rw[List.filter_cons_of_neg (by simpa using e)];exact ih h

theorem Sc {nm:PG→V→V}{P:PL}(h':∀t v,(nm (QR P t) v).cnt≤v.cnt)(g:PG)(hd:g.ops.Pairwise fun a b=>a.num<b.num)(v:V):(W6 nm P g v).cnt≤v.cnt:=by
 have h1:Xf (g.ops.flatMap (QV nm P v.slots))≤(g.ops.map fun o=>wS v.slots o.num).sum:=by
  clear hd
  induction g.ops with
  |nil=>exact QWe _
  |cons o l ih=>
   have:Xf (QV nm P v.slots o)≤wS v.slots o.num:=by
    unfold QV;cases hf:v.slots.find? (fun s=>s.1==o.num)with
    |none=>exact QWo _
    |some s=>
     have a:=Qah hf;have b:=Vn (P:=P) h' o s.2;dsimp only;split
     ·simp only[Xf];omega
     ·exact QWo _
   rw[QXK,Sb,QWM,QYk];omega
 have h2:=Qwh g.ops hd v.slots;have h3:(XU v.raws).length=v.raws.length:=(Q3 _).length_eq;rw[Xn,Xn v];simp only[W6,V.raws,V.list,V.pairs,V.slots,XT,Xz]at *;omega

def Kd (P:PL):Prop:=∀g∈P.progs,g.ops.Pairwise fun a b=>a.num<b.num
theorem Us {P:PL}(h:Kd P)(t:Int):(QR P t).ops.Pairwise fun a b=>a.num<b.num:=by
 unfold QR;cases hg:P.progs[t.toNat]? with
 |none=>exact .nil
 |some g=>exact h g (QWt hg)

theorem UT {P:PL}(h:Kd P):∀(n:Nat) (g:PG),(g.ops.Pairwise fun a b=>a.num<b.num)→∀v:V,(nrm P n g v).cnt≤v.cnt
 |0,_,_,_=>QWe _
 |n+1,g,hg,v=>Sc (fun t v=>UT h n _ (Us h t) v) g hg v

end Go.Proofs.YtdhlbgejhcejcaaGreatDoor.Va

namespace Go.Proofs.YtdhlbgejhcejcaaGreatDoor.Va
open Go Am Rc Bt Br

def JoI (g:PG)(k:Nat)(st:St):Prop :=
 ∃f fr i n b,st=⟨f,[fr],[]⟩∧k=g.ops.length-i∧Z6 g.ops 0 (-1)=Z6 (g.ops.drop i) n b∧0≤n∧n≤(i:Int)∧((i=0∧b = -1)∨∃j o,i=j+1∧g.ops[j]? = some o∧b=o.union)∧f 1=.ptr 0 1 0∧f 3=.int .i64 n∧f 4=.int .i64 (i:Nat)∧fr 1=.cells g.cells

theorem z72 (g:PG)(hl:g.ops.length≤9223372036854775000):Qi Tryz.prog 72 [Qp g] (.bool (ZT g)):=by
 refine k72.fn (by simp) ?_;simp only[Qp,PG.cells,eE,seval];refine Qc (JoI g) _ ⟨_,_,0,0,-1,rfl,rfl,rfl,by decide,by decide,.inl ⟨rfl,rfl⟩,(by rfl),(by rfl),(by rfl),(by rfl)⟩ ?_;rintro _ st ⟨f,fr,i,n,b,rfl,rfl,hj,hn0,hni,hb,h1,h3,h4,m1⟩;simp only[PG.cells]at m1;simp only[QXb,h1,h4,m1,eE,seval];by_cases hlt:i<g.ops.length
 ·obtain⟨o,hi⟩:∃o,g.ops[i]? = some o:=⟨g.ops[i],QWh hlt⟩;have hg:(g.ops.map fun o=>AV.agg o.cells)[i]? = some (.agg o.cells):=by simp[hi]
  have e1:=Qo i _ hlt (by simp only[maxLen];omega);have en:IntKind.i64.wrap (n+1)=n+1:=by rw[QC];omega
  rw[GG hi]at hj;have fin:∀(f':Fr) (n':Int),(if o.union=n then n'=n+1 else n'=n)→Z6 g.ops 0 (-1)=Z6 (g.ops.drop (i+1)) n' o.union→f' 1=.ptr 0 1 0→f' 3=.int .i64 n'→f' 4=.int .i64 ((i+1:Nat):Int)→∃k,k<g.ops.length-i∧JoI g k ⟨f',[fr],[]⟩:=by
   intro f' n' a c d e f4;refine⟨g.ops.length-(i+1),by omega,f',fr,i+1,n',o.union,rfl,rfl,c,?_,?_,.inr ⟨i,o,rfl,hi,rfl⟩,d,e,f4,m1⟩<;>split at a<;>omega
  simp only[PO.cells]at hg;simp only[Ql hlt,Qg,QXI,Qb,hg,PO.cells,h1,h3,h4,m1,eE,seval];by_cases a1:o.union=n
  ·have b1:(o.union==n)=true:=by simp[a1]
   rw[QWJ a1,←a1]at hj;simp only[b1,h3,h4,en,e1,Qa,seval];exact fin _ (n+1) (by rw[QWJ a1]) (by rw[hj,a1]) (by exact h1) (by rfl) (by rfl)
  have b1:(o.union==n)=false:=by simp[a1]
  rw[QWu a1]at hj;by_cases a2:o.union = -1
  ·have b2:(o.union != -1)=false:=by simp[a2]
   rw[QWJ (.inl a2)]at hj;simp only[b1,b2,h4,e1,Qa,seval];exact fin _ n (by rw[QWu a1]) hj (by exact h1) (by exact h3) (by rfl)
  have b2:(o.union != -1)=true:=by simp[a2]
  rcases hb with⟨rfl,rfl⟩|⟨j,p,rfl,hjp,rfl⟩
  ·have b3:(((0:Nat):Int)==0)=true:=rfl;rw[QWu (by omega)]at hj;have hun:ZT g=false:=by unfold ZT;rw[hj]
   simp only[b1,b2,h4,hun,Qa,seval]
  ·have b3:(((j+1:Nat):Int)==0)=false:=by rw[QXY];omega
   have hgj:(g.ops.map fun o=>AV.agg o.cells)[j]? = some (.agg p.cells):=by simp[hjp]
   have e2:=Wn j _ hlt (by simp only[maxLen];omega);simp only[PO.cells]at hgj;by_cases a4:o.union=p.union
   ·have b4:(p.union != o.union)=false:=by simp[a4]
    rw[QWJ (.inr a4)]at hj;simp only[b1,b2,b3,b4,e2,Qg,QXI,Qb,hgj,PO.cells,h1,h4,m1,e1,eE,seval];exact fin _ n (by rw[QWu a1]) hj (by exact h1) (by exact h3) (by rfl)
   ·have b4:(p.union != o.union)=true:=by simp;exact fun h=>a4 h.symm
    rw[QWu (by omega)]at hj;have hun:ZT g=false:=by unfold ZT;rw[hj]
    simp only[b1,b2,b3,b4,e2,Qg,QXI,Qb,hgj,PO.cells,h1,h4,m1,hun,eE,seval]
 ·rw[QWR (by omega)]at hj;have hun:ZT g=(g.unions==n):=by unfold ZT;rw[hj];rfl
  simp only[QA hlt,h1,h3,m1,hun,eE,seval]

section
variable {M:Nat}(hM:M≤140737488351232)(P:PL)(hP:P.ok M)(fr:Nat→Ob)(m1:fr 1=.cells (Pc P))(f:Fr)(b:Bool)(h1:f 1=.ptr 0 1 0)(h3:f 3=.bool b)(Q:Exit→St→Prop)
include hM hP m1 h1 h3

theorem Qwi (j:Nat)(x:PE)(hj:P.enums[j]? = some x)(ha:f 4=.int .i64 (j:Nat))(hc:f 5=.int .i64 0)(hx:∀f,f 1=.ptr 0 1 0→f 3=.bool (b&&x.items.all ZV)→f 4=.int .i64 (j:Nat)→Q (.exit 2) (⟨f,[fr],[]⟩:St)):QG Tryz.prog (.loop Tl) ⟨f,[fr],[]⟩ Q:=by
 let I:Nat→St→Prop:=fun k st=>∃f i,st=⟨f,[fr],[]⟩∧k=x.items.length-i∧i≤x.items.length∧f 1=.ptr 0 1 0∧f 3=.bool (b&&(x.items.take i).all ZV)∧f 4=.int .i64 (j:Nat)∧f 5=.int .i64 (i:Nat)
 have hjm:(P.enums.map Qr)[j]? = some (.agg x.cells):=by simp[hj,Qr]
 have hxo:=hP.enums x (QWt hj);have z0:(0≤(0:Int))=True:=by simp
 have z1:Int.toNat 0=0:=rfl;refine Qc I _ ⟨f,0,rfl,rfl,QWo _,h1,by rw[h3];simp,ha,hc⟩ ?_;clear h1 h3 ha hc;simp only[Pc]at m1;simp only[PE.cells]at hjm;rintro _ st ⟨f,i,rfl,rfl,hi,h1,h3,ha,hc⟩;simp only[Qg,QXI,Qb,hjm,QXb,h1,m1,ha,hc,eE,seval];by_cases hlt:i<x.items.length
 ·obtain⟨o,hg⟩:∃o,x.items[i]? = some o:=⟨x.items[i],QWh hlt⟩;have hgm:(x.items.map fun o=>AV.agg o.cells)[i]? = some (.agg o.cells):=by simp[hg]
  have e1:=Qo i _ hlt hxo.len1;have ho:=hxo.items o (QWt hg);have ht:=Q5 (q:=ZV) hg;have fin:∀f':Fr,f' 1=.ptr 0 1 0→f' 3=.bool ((b&&(x.items.take i).all ZV)&&ZV o)→f' 4=.int .i64 (j:Nat)→f' 5=.int .i64 ((i+1:Nat):Int)→∃k,k<x.items.length-i∧I k ⟨f',[fr],[]⟩:=by
   intro f' a1 a3 a4 a5;exact⟨x.items.length-(i+1),by omega,f',i+1,rfl,rfl,by omega,a1,by rw[a3,ht,QW0],a4,a5⟩
  simp only[PI.cells]at hgm;cases hb:(b&&(x.items.take i).all ZV)
  ·rw[hb]at fin h3;simp only[Ql hlt,Qg,QXI,Qb,hjm,hgm,PI.cells,h1,m1,h3,ha,hc,e1,eE,seval];exact fin _ (by exact h1) (by rfl) (by exact ha) (by rfl)
  ·rw[hb,QXT]at fin;rw[hb]at h3;rcases hn:o.notes with _|⟨n,_|⟨n2,ns⟩⟩
   ·have c0:(((0:Nat):Int)==0)=true:=rfl;have e:ZV o=true:=by unfold ZV;rw[hn]
    rw[e]at fin;rw[hn]at hgm;simp only[Ql hlt,Qg,QXI,Qb,hjm,hgm,PI.cells,QXh,QXc,h1,m1,h3,ha,hc,e1,eE,seval];exact fin _ (by exact h1) (by rfl) (by exact ha) (by rfl)
   ·obtain⟨kd,b',t,l,p,s,r,hv,htl,h3',h4',h5',h6'⟩:=Cm (ho.notes n (by rw[hn];simp)) hM;have c0:(((1:Nat):Int)==0)=false:=rfl;have c1:(((1:Nat):Int)==1)=true:=rfl;have e:ZV o=(n.name==alias&&Xk 7 kd b' t l p s r):=by
     unfold ZV;rw[hn];show(n.name==alias&&nok n.val)=_;rw[hv];rfl
    have en:Xs n.cells=.agg [.str n.name,.int .i64 kd,.int .u64 ((b':Nat):Int),.str t,.list l,.list p,.list s,.list r]:=by
     rw[PN.cells,hv];rfl
    have hne:(n.name==[97,108,105,97,115])=(n.name==alias):=rfl;have hck:=z71 kd b' t l p s r (by simp only[maxLen];omega);simp only[nv]at hck;rw[e]at fin;rw[hn]at hgm;simp only[QWM,QXh,en]at hgm;simp only[Ql hlt,Qg,QXI,Qb,hjm,hgm,PI.cells,QWv,QXc,QWW,z0,z1,QXi,QL,hne,h1,m1,h3,ha,hc,eE,seval];by_cases hal:n.name=alias
    ·have b0:(n.name==alias)=true:=by simp[hal]
     rw[←hal]at hck;rw[b0,QXT]at fin;simp only[b0,Qa,seval];refine aC hck ?_;cases hfv:Xk 7 kd b' t l p s r
     ·rw[hfv]at fin;have d0:((12:Int)==0)=false:=rfl;simp only[QWz,d0,hc,e1,Qa,seval];exact fin _ (by exact h1) (by rfl) (by exact ha) (by rfl)
     ·rw[hfv]at fin;have d0:((0:Int)==0)=true:=rfl;simp only[d0,hc,e1,Qa,seval];exact fin _ (by exact h1) (by rfl) (by exact ha) (by rfl)
    ·have b0:(n.name==alias)=false:=by simp[hal]
     rw[b0,QXM]at fin;simp only[b0,hc,e1,Qa,seval];exact fin _ (by exact h1) (by rfl) (by exact ha) (by rfl)
   ·have c0:((((ns.length+1+1:Nat)):Int)==0)=false:=by rw[QXY];omega
    have c1:((((ns.length+1+1:Nat)):Int)==1)=false:=by rw[QXY];omega
    have e:ZV o=false:=by unfold ZV;rw[hn]
    rw[e]at fin;rw[hn]at hgm;simp only[QWM]at hgm;simp only[Ql hlt,Qg,QXI,Qb,hjm,hgm,PI.cells,QWv,QXb,c0,c1,h1,m1,h3,ha,hc,e1,eE,seval];exact fin _ (by exact h1) (by rfl) (by exact ha) (by rfl)
 ·have hf:(x.items.take i).all ZV=x.items.all ZV:=by rw[QWO (by omega)]
  rw[hf]at h3;simp only[QA hlt,Qa,seval];exact hx _ (by exact h1) (by exact h3) (by exact ha)

theorem QQD (ha:f 4=.int .i64 0)(hx:∀f,f 1=.ptr 0 1 0→f 3=.bool (b&&P.enums.all KB)→Q (.exit 0) (⟨f,[fr],[]⟩:St)):QG Tryz.prog (.loop Tm) ⟨f,[fr],[]⟩ Q:=by
 let I:Nat→St→Prop:=fun k st=>∃f i,st=⟨f,[fr],[]⟩∧k=P.enums.length-i∧i≤P.enums.length∧f 1=.ptr 0 1 0∧f 3=.bool (b&&(P.enums.take i).all KB)∧f 4=.int .i64 (i:Nat)
 have m1':=m1;refine Qc I _ ⟨f,0,rfl,rfl,QWo _,h1,by rw[h3];simp,ha⟩ ?_;clear h1 h3 ha;simp only[Pc]at m1;rintro _ st ⟨f,i,rfl,rfl,hi,h1,h3,ha⟩;simp only[QXb,h1,m1,ha,eE,seval];by_cases hlt:i<P.enums.length
 ·obtain⟨x,hg⟩:∃x,P.enums[i]? = some x:=⟨P.enums[i],QWh hlt⟩;have hgm:(P.enums.map Qr)[i]? = some (.agg x.cells):=by simp[hg,Qr]
  have e1:=Qo i _ hlt hP.len2;have ht:=Q5 (q:=KB) hg;have hq:KB x=(x.notes.isEmpty&&x.items.all ZV):=rfl;have hie:((x.notes.length:Int)==0)=x.notes.isEmpty:=by
   cases x.notes with
   |nil=>rfl
   |cons a l=>simp;omega
  have fin:∀f':Fr,f' 1=.ptr 0 1 0→f' 3=.bool (((b&&(P.enums.take i).all KB)&&x.notes.isEmpty)&&x.items.all ZV)→f' 4=.int .i64 ((i+1:Nat):Int)→∃k,k<P.enums.length-i∧I k ⟨f',[fr],[]⟩:=by
   intro f' a1 a3 a4;exact⟨P.enums.length-(i+1),by omega,f',i+1,rfl,rfl,by omega,a1,by rw[a3,ht,hq,QW0,QW0],a4⟩
  simp only[PE.cells]at hgm;cases hb:(b&&(P.enums.take i).all KB)
  ·rw[hb,QXM]at fin;rw[hb]at h3;simp only[Ql hlt,h3,Qa,seval];refine Qwi hM P hP fr m1' _ false (by exact h1) (by rfl) _ i x hg (by exact ha) (by rfl) (fun f h1 h3 ha=>?_);simp only[ha,e1,Qa,seval];exact fin _ (by exact h1) (by exact h3) (by rfl)
  ·rw[hb,QXT]at fin;rw[hb]at h3;simp only[Ql hlt,Qg,QXI,Qb,hgm,QXb,hie,h1,m1,h3,ha,eE,seval];refine Qwi hM P hP fr m1' _ x.notes.isEmpty (by exact h1) (by rfl) _ i x hg (by exact ha) (by rfl) (fun f h1 h3 ha=>?_);simp only[ha,e1,Qa,seval];exact fin _ (by exact h1) (by exact h3) (by rfl)
 ·have hf:(P.enums.take i).all KB=P.enums.all KB:=by rw[QWO (by omega)]
  rw[hf]at h3;simp only[QA hlt,Qa,seval];exact hx _ (by exact h1) (by exact h3)

theorem Qwj (j:Nat)(x:PG)(hj:P.progs[j]? = some x)(ha:f 7=.int .i64 (j:Nat))(hc:f 8=.int .i64 0)(hx:∀f,f 1=.ptr 0 1 0→f 3=.bool (b&&x.ops.all fun o=>Za P o&&X0 o)→f 7=.int .i64 (j:Nat)→Q (.exit 6) (⟨f,[fr],[]⟩:St)):QG Tryz.prog (.loop Tn) ⟨f,[fr],[]⟩ Q:=by
 let I:Nat→St→Prop:=fun k st=>∃f i,st=⟨f,[fr],[]⟩∧k=x.ops.length-i∧i≤x.ops.length∧f 1=.ptr 0 1 0∧f 3=.bool (b&&(x.ops.take i).all fun o=>Za P o&&X0 o)∧f 7=.int .i64 (j:Nat)∧f 8=.int .i64 (i:Nat)
 have hjm:(P.progs.map Qp)[j]? = some (.agg x.cells):=by simp[hj,Qp]
 have hxo:=hP.progs x (QWt hj);refine Qc I _ ⟨f,0,rfl,rfl,QWo _,h1,by rw[h3];simp,ha,hc⟩ ?_;clear h1 h3 ha hc;simp only[Pc]at m1;simp only[PG.cells]at hjm;rintro _ st ⟨f,i,rfl,rfl,hi,h1,h3,ha,hc⟩;simp only[Qg,QXI,Qb,hjm,QXb,h1,m1,ha,hc,eE,seval];by_cases hlt:i<x.ops.length
 ·obtain⟨o,hg⟩:∃o,x.ops[i]? = some o:=⟨x.ops[i],QWh hlt⟩;have hgm:(x.ops.map fun o=>AV.agg o.cells)[i]? = some (.agg o.cells):=by simp[hg]
  have e1:=Qo i _ hlt hxo.len;have hal:o.alias.length+8≤maxLen:=by have:=(hxo.ops o (QWt hg)).alias;simp only[maxLen];omega
  have hop:Qi Tryz.prog 73 [.agg [.list (P.progs.map Qp),.list (P.enums.map Qr)],Qv o] (.bool (Za P o&&X0 o)):=z73 P o hal;have ht:=Q5 (q:=fun o=>Za P o&&X0 o) hg;have fin:∀f':Fr,f' 1=.ptr 0 1 0→f' 3=.bool ((b&&(x.ops.take i).all fun o=>Za P o&&X0 o)&&(Za P o&&X0 o))→f' 7=.int .i64 (j:Nat)→f' 8=.int .i64 ((i+1:Nat):Int)→∃k,k<x.ops.length-i∧I k ⟨f',[fr],[]⟩:=by
   intro f' a1 a3 a4 a5;exact⟨x.ops.length-(i+1),by omega,f',i+1,rfl,rfl,by omega,a1,by rw[a3,ht,QW0],a4,a5⟩
  simp only[Qv,PO.cells]at hgm hop;cases hb:(b&&(x.ops.take i).all fun o=>Za P o&&X0 o)
  ·rw[hb]at fin h3;simp only[Ql hlt,PO.cells,h3,hc,e1,Qa,seval];exact fin _ (by exact h1) (by rfl) (by exact ha) (by rfl)
  ·rw[hb,QXT]at fin;rw[hb]at h3;simp only[Ql hlt,Qg,QXI,Qb,hjm,hgm,PO.cells,h1,m1,h3,ha,hc,eE,seval];refine aC hop ?_;simp only[hc,e1,Qa,seval];exact fin _ (by exact h1) (by rfl) (by exact ha) (by rfl)
 ·have hf:(x.ops.take i).all (fun o=>Za P o&&X0 o)=x.ops.all fun o=>Za P o&&X0 o:=by rw[QWO (by omega)]
  rw[hf]at h3;simp only[QA hlt,Qa,seval];exact hx _ (by exact h1) (by exact h3) (by exact ha)

theorem QQE (hl:∀g∈P.progs,g.ops.length≤64)(ha:f 7=.int .i64 0)(hx:∀f,f 1=.ptr 0 1 0→f 3=.bool (b&&P.progs.all (Z1 P))→Q (.exit 4) (⟨f,[fr],[]⟩:St)):QG Tryz.prog (.loop To) ⟨f,[fr],[]⟩ Q:=by
 let I:Nat→St→Prop:=fun k st=>∃f i,st=⟨f,[fr],[]⟩∧k=P.progs.length-i∧i≤P.progs.length∧f 1=.ptr 0 1 0∧f 3=.bool (b&&(P.progs.take i).all (Z1 P))∧f 7=.int .i64 (i:Nat)
 have m1':=m1;refine Qc I _ ⟨f,0,rfl,rfl,QWo _,h1,by rw[h3];simp,ha⟩ ?_;clear h1 h3 ha;simp only[Pc]at m1;rintro _ st ⟨f,i,rfl,rfl,hi,h1,h3,ha⟩;simp only[QXb,h1,m1,ha,eE,seval];by_cases hlt:i<P.progs.length
 ·obtain⟨x,hg⟩:∃x,P.progs[i]? = some x:=⟨P.progs[i],QWh hlt⟩;have hgm:(P.progs.map Qp)[i]? = some (.agg x.cells):=by simp[hg,Qp]
  have e1:=Qo i _ hlt hP.len1;have ht:=Q5 (q:=Z1 P) hg;have hq:Z1 P x=(ZT x&&x.ops.all fun o=>Za P o&&X0 o):=rfl;have hjo:=z72 x (QWf (hl x (QWt hg)) (by decide));have fin:∀f':Fr,f' 1=.ptr 0 1 0→f' 3=.bool (((b&&(P.progs.take i).all (Z1 P))&&ZT x)&&x.ops.all fun o=>Za P o&&X0 o)→f' 7=.int .i64 ((i+1:Nat):Int)→∃k,k<P.progs.length-i∧I k ⟨f',[fr],[]⟩:=by
   intro f' a1 a3 a4;exact⟨P.progs.length-(i+1),by omega,f',i+1,rfl,rfl,by omega,a1,by rw[a3,ht,hq,QW0,QW0],a4⟩
  simp only[Qp,PG.cells]at hgm hjo;cases hb:(b&&(P.progs.take i).all (Z1 P))
  ·rw[hb,QXM]at fin;rw[hb]at h3;simp only[Ql hlt,h3,Qa,seval];refine Qwj hM P hP fr m1' _ false (by exact h1) (by rfl) _ i x hg (by exact ha) (by rfl) (fun f h1 h3 ha=>?_);simp only[ha,e1,Qa,seval];exact fin _ (by exact h1) (by exact h3) (by rfl)
  ·rw[hb,QXT]at fin;rw[hb]at h3;simp only[Ql hlt,Qg,QXI,Qb,hgm,h1,m1,h3,ha,eE,seval];refine aC hjo ?_;simp only[Qa,seval];refine Qwj hM P hP fr m1' _ (ZT x) (by exact h1) (by rfl) _ i x hg (by exact ha) (by rfl) (fun f h1 h3 ha=>?_);simp only[ha,e1,Qa,seval];exact fin _ (by exact h1) (by exact h3) (by rfl)
 ·have hf:(P.progs.take i).all (Z1 P)=P.progs.all (Z1 P):=by rw[QWO (by omega)]
  rw[hf]at h3;simp only[QA hlt,Qa,seval];exact hx _ (by exact h1) (by exact h3)

end

theorem z41 {M:Nat}(hM:M≤140737488351232)(P:PL)(hP:P.ok M)(hl:∀g∈P.progs,g.ops.length≤64):Qi Tryz.prog 41 [P.av] (.bool (args P)):=by
 have e0:P.av=.agg [.list (P.progs.map Qp),.list (P.enums.map Qr)]:=rfl;have e:args P=(P.enums.all KB&&P.progs.all (Z1 P)):=Bool.and_comm _ _;refine k41.fn (by simp) ?_;simp only[e0,eE,seval];refine QQD hM P hP _ (by rfl) _ true (by rfl) (by rfl) _ (by rfl) (fun f h1 h3=>?_);simp only[Qa,seval];refine QQE hM P hP _ (by rfl) _ _ (by exact h1) (by exact h3) _ hl (by rfl) (fun f h1 h3=>?_);simp only[h3,e,QXT,Qa,seval]

section
variable {M:Nat}(P:PL)(hP:P.ok M)(fr:Nat→Ob)(m1:fr 1=.cells (Pc P))(f:Fr)(b:Bool)(h1:f 1=.ptr 0 1 0)(h3:f 3=.bool b)(Q:Exit→St→Prop)
include hP m1 h1 h3

theorem QQF (j:Nat)(x:PG)(hj:P.progs[j]? = some x)(ha:f 4=.int .i64 (j:Nat))(hc:f 5=.int .i64 0)(hx:∀f,f 1=.ptr 0 1 0→f 3=.bool (b&&x.ops.all Zl)→f 4=.int .i64 (j:Nat)→Q (.exit 2) (⟨f,[fr],[]⟩:St)):QG Tryz.prog (.loop Tf) ⟨f,[fr],[]⟩ Q:=by
 let I:Nat→St→Prop:=fun k st=>∃f i,st=⟨f,[fr],[]⟩∧k=x.ops.length-i∧i≤x.ops.length∧f 1=.ptr 0 1 0∧f 3=.bool (b&&(x.ops.take i).all Zl)∧f 4=.int .i64 (j:Nat)∧f 5=.int .i64 (i:Nat)
 have hjm:(P.progs.map Qp)[j]? = some (.agg x.cells):=by simp[hj,Qp]
 have hxo:=hP.progs x (QWt hj);refine Qc I _ ⟨f,0,rfl,rfl,QWo _,h1,by rw[h3];simp,ha,hc⟩ ?_;clear h1 h3 ha hc;simp only[Pc]at m1;simp only[PG.cells]at hjm;rintro _ st ⟨f,i,rfl,rfl,hi,h1,h3,ha,hc⟩;simp only[Qg,QXI,Qb,hjm,QXb,h1,m1,ha,hc,eE,seval];by_cases hlt:i<x.ops.length
 ·obtain⟨o,hg⟩:∃o,x.ops[i]? = some o:=⟨x.ops[i],QWh hlt⟩;have hgm:(x.ops.map fun o=>AV.agg o.cells)[i]? = some (.agg o.cells):=by simp[hg]
  have e1:=Qo i _ hlt hxo.len;have ht:=Q5 (q:=Zl) hg;have hq:Zl o=(decide (o.num≥1)&&decide (o.num≤65535)):=rfl;have fin:∀f':Fr,f' 1=.ptr 0 1 0→f' 3=.bool ((b&&(x.ops.take i).all Zl)&&Zl o)→f' 4=.int .i64 (j:Nat)→f' 5=.int .i64 ((i+1:Nat):Int)→∃k,k<x.ops.length-i∧I k ⟨f',[fr],[]⟩:=by
   intro f' a1 a3 a4 a5;exact⟨x.ops.length-(i+1),by omega,f',i+1,rfl,rfl,by omega,a1,by rw[a3,ht,QW0],a4,a5⟩
  simp only[PO.cells]at hgm;cases hb:(b&&(x.ops.take i).all Zl)
  ·rw[hb]at fin h3;simp only[Ql hlt,Qg,QXI,Qb,hjm,hgm,PO.cells,h1,m1,h3,ha,hc,e1,eE,seval];exact fin _ (by exact h1) (by rfl) (by exact ha) (by rfl)
  ·rw[hb,QXT,hq]at fin;rw[hb]at h3;cases a1:decide (o.num≥1)
   ·rw[a1]at fin;simp only[Ql hlt,Qg,QXI,Qb,hjm,hgm,PO.cells,a1,h1,m1,h3,ha,hc,e1,eE,seval];exact fin _ (by exact h1) (by rfl) (by exact ha) (by rfl)
   ·rw[a1,QXT]at fin;simp only[Ql hlt,Qg,QXI,Qb,hjm,hgm,PO.cells,a1,h1,m1,h3,ha,hc,e1,eE,seval];exact fin _ (by exact h1) (by rfl) (by exact ha) (by rfl)
 ·have hf:(x.ops.take i).all Zl=x.ops.all Zl:=by rw[QWO (by omega)]
  rw[hf]at h3;simp only[QA hlt,Qa,seval];exact hx _ (by exact h1) (by exact h3) (by exact ha)

theorem QQG (ha:f 4=.int .i64 0)(hx:∀f,f 1=.ptr 0 1 0→f 3=.bool (b&&P.progs.all fun g=>g.ops.all Zl)→Q (.exit 0) (⟨f,[fr],[]⟩:St)):QG Tryz.prog (.loop Th) ⟨f,[fr],[]⟩ Q:=by
 let I:Nat→St→Prop:=fun k st=>∃f i,st=⟨f,[fr],[]⟩∧k=P.progs.length-i∧i≤P.progs.length∧f 1=.ptr 0 1 0∧f 3=.bool (b&&(P.progs.take i).all fun g=>g.ops.all Zl)∧f 4=.int .i64 (i:Nat)
 have m1':=m1;refine Qc I _ ⟨f,0,rfl,rfl,QWo _,h1,by rw[h3];simp,ha⟩ ?_;clear h1 h3 ha;simp only[Pc]at m1;rintro _ st ⟨f,i,rfl,rfl,hi,h1,h3,ha⟩;simp only[QXb,h1,m1,ha,eE,seval];by_cases hlt:i<P.progs.length
 ·obtain⟨x,hg⟩:∃x,P.progs[i]? = some x:=⟨P.progs[i],QWh hlt⟩;have e1:=Qo i _ hlt hP.len1;have ht:=Q5 (q:=fun g:PG=>g.ops.all Zl) hg;simp only[Ql hlt,Qa,seval];refine QQF P hP fr m1' _ (b&&(P.progs.take i).all fun g=>g.ops.all Zl) (by exact h1) (by exact h3) _ i x hg (by exact ha) (by rfl) (fun f h1 h3 ha=>?_);simp only[ha,e1,Qa,seval];exact⟨P.progs.length-(i+1),by omega,_,i+1,rfl,rfl,by omega,(by exact h1),by rw[ht,←QW0]<;>first|exact h3|simp only[h3,eE,seval],(by rfl)⟩
 ·have hf:(P.progs.take i).all (fun g=>g.ops.all Zl)=P.progs.all fun g=>g.ops.all Zl:=by rw[QWO (by omega)]
  rw[hf]at h3;simp only[QA hlt,Qa,seval];exact hx _ (by exact h1) (by exact h3)

end

def Hk (x:PE)(i:Nat):Bool:=match x.items[i]? with
 |some o=>(i != 0||o.num==0)&&W2 x o
 |none=>true

theorem Qai (x:PE):QB (Hk x) x.items.length=(Ui x&&x.items.all (W2 x)):=by
 rw[QXa,QWE,QI,QWs]
 constructor
 ·intro h;refine⟨?_,fun o ho=>?_⟩
  ·unfold Ui;cases hi:x.items with
   |nil=>rfl
   |cons a l=>
    have:=h 0 (by rw[hi];simp);unfold Hk at this;rw[hi]at this;simp only[QXi,QWE]at this
    simpa using this.1
  ·obtain⟨i,hi⟩:=QWr.1 ho;have:=h i (QWg.1 hi).1;unfold Hk at this;rw[hi]at this;simp only[QWE]at this;exact this.2
 ·rintro⟨h1,h2⟩ i _;unfold Hk;cases hg:x.items[i]? with
  |none=>rfl
  |some o=>
   simp only[QWE];refine⟨?_,h2 o (QWt hg)⟩;cases i with
   |zero=>
    unfold Ui at h1;cases hx:x.items with
    |nil=>rw[hx]at hg;cases hg
    |cons a l=>
     rw[hx]at h1 hg;cases hg
     simpa using h1
   |succ k=>rfl

section
variable (x:PE)(hl1:x.items.length≤maxLen)(hl:x.free.length≤maxLen)(P:PL)(f:Fr)(b:Bool)(j:Nat)(fr:Nat→Ob)(h1:f 1=.ptr 0 1 0)(h3:f 3=.bool b)(h7:f 7=.int .i64 (j:Nat))(h8:f 8=.ptr 0 8 0)(m1:fr 1=.cells (Pc P))(m8:fr 8=.cells x.cells)(Q:Exit→St→Prop)
include hl1 hl h1 h3 h7 h8 m8

theorem PH (hc:f 9=.int .i64 0)(hx:∀f,f 1=.ptr 0 1 0→f 3=.bool (b&&(Ui x&&x.items.all (W2 x)))→f 7=.int .i64 (j:Nat)→f 8=.ptr 0 8 0→Q (.exit 6) (⟨f,[fr],[]⟩:St)):QG Tryz.prog (.loop Ti) ⟨f,[fr],[]⟩ Q:=by
 let I:Nat→St→Prop:=fun k st=>∃f i,st=⟨f,[fr],[]⟩∧k=x.items.length-i∧i≤x.items.length∧f 1=.ptr 0 1 0∧f 3=.bool (b&&QB (Hk x) i)∧f 7=.int .i64 (j:Nat)∧f 8=.ptr 0 8 0∧f 9=.int .i64 (i:Nat)
 refine Qc I _ ⟨f,0,rfl,rfl,QWo _,h1,by rw[h3];simp[QB],h7,h8,hc⟩ ?_;clear h1 h3 h7 h8 hc;simp only[PE.cells]at m8;rintro _ st ⟨f,i,rfl,rfl,hi,h1,h3,h7,h8,hc⟩;simp only[QXb,m8,h8,hc,eE,seval];by_cases hlt:i<x.items.length
 ·obtain⟨o,hg⟩:∃o,x.items[i]? = some o:=⟨x.items[i],QWh hlt⟩;have hgm:(x.items.map fun o=>AV.agg o.cells)[i]? = some (.agg o.cells):=by simp[hg]
  have e1:=Qo i _ hlt hl1;have ht:=Ji b (Hk x) i;have hr:Qi Tryz.prog 70 [.list (x.free.map fun n=>AV.agg n.cells),.int .i64 o.num] (.bool (kept x.free o.num)):=z70 x.free hl o.num;have hq:Hk x i=((i != 0||o.num==0)&&(decide (o.num≤2147483647) && !kept x.free o.num)):=by unfold Hk;rw[hg];rfl
  rw[hq]at ht;have fin:∀(f':Fr) (v:Bool),((b&&QB (Hk x) i)&&((i != 0||o.num==0)&&(decide (o.num≤2147483647) && !kept x.free o.num)))=v→f' 1=.ptr 0 1 0→f' 3=.bool v→f' 7=.int .i64 (j:Nat)→f' 8=.ptr 0 8 0→f' 9=.int .i64 ((i+1:Nat):Int)→∃k,k<x.items.length-i∧I k ⟨f',[fr],[]⟩:=by
   intro f' v hv a1 a3 a4 a5 a6;exact⟨x.items.length-(i+1),by omega,f',i+1,rfl,rfl,by omega,a1,by rw[a3,ht,hv],a4,a5,a6⟩
  simp only[PI.cells]at hgm;cases hb:(b&&QB (Hk x) i)
  ·rw[hb]at fin h3;simp only[QXM]at fin;simp only[Ql hlt,Qg,QXI,Qb,hgm,PI.cells,m8,h3,h8,hc,e1,eE,seval];exact fin _ _ rfl (by exact h1) (by rfl) (by exact h7) (by exact h8) (by rfl)
  ·rw[hb]at fin h3;simp only[QXT]at fin;cases a1:decide (o.num≤2147483647)
   ·simp only[a1,QXM,QYc]at fin;simp only[Ql hlt,Qg,QXI,Qb,hgm,PI.cells,a1,m8,h3,h8,hc,e1,eE,seval];exact fin _ _ rfl (by exact h1) (by rfl) (by exact h7) (by exact h8) (by rfl)
   simp only[a1,QXT]at fin;have gt:∀(q:Bool),(i != 0||o.num==0)=q→(decide ((i:Int) > 0)=true∧q=true)∨(decide ((i:Int) > 0)=false∧(o.num==0)=q):=by
    intro q hq;cases i with
    |zero=>exact .inr ⟨rfl,hq⟩
    |succ k=>exact .inl ⟨QYa (by omega),hq.symm⟩
   cases a2:(i != 0||o.num==0)
   ·rw[a2]at fin;simp only[QXM]at fin;rcases gt _ a2 with⟨g1,g2⟩|⟨g1,g2⟩
    ·cases g2
    ·simp only[Ql hlt,Qg,QXI,Qb,hgm,PI.cells,a1,g1,g2,m8,h3,h8,hc,e1,eE,seval];exact fin _ _ rfl (by exact h1) (by rfl) (by exact h7) (by exact h8) (by rfl)
   ·rw[a2]at fin;simp only[QXT]at fin;rcases gt _ a2 with⟨g1,g2⟩|⟨g1,g2⟩
    all_goals
     simp only[Ql hlt,Qg,QXI,Qb,hgm,PI.cells,a1,g1,g2,m8,h3,h8,hc,eE,seval];refine aC hr ?_;simp only[hc,e1,Qa,seval];exact fin _ _ rfl (by exact h1) (by rfl) (by exact h7) (by exact h8) (by rfl)
 ·rw[show i=x.items.length by omega,Qai]at h3;simp only[QA hlt,Qa,seval];exact hx _ (by exact h1) (by exact h3) (by exact h7) (by exact h8)

omit hl1 in
include m1 in
theorem PJ (hc:f 11=.int .i64 0)(hrow:∀s∈[12],(fr s).isRow=false)(hx:∀f fr,f 1=.ptr 0 1 0→f 3=.bool (b&&(x.free.all GB&&XX x.free YZ))→f 7=.int .i64 (j:Nat)→fr 1=.cells (Pc P)→(∀s∈[12,8],(fr s).isRow=false)→Q (.exit 8) (⟨f,[fr],[]⟩:St)):QG Tryz.prog (.loop Tj) ⟨f,[fr],[]⟩ Q:=by
 let I:Nat→St→Prop:=fun k st=>∃f fr i,st=⟨f,[fr],[]⟩∧k=x.free.length-i∧i≤x.free.length∧f 1=.ptr 0 1 0∧f 3=.bool (b&&QB (KX x.free) i)∧f 7=.int .i64 (j:Nat)∧f 8=.ptr 0 8 0∧f 11=.int .i64 (i:Nat)∧fr 1=.cells (Pc P)∧fr 8=.cells x.cells∧∀s∈[12],(fr s).isRow=false
 refine Qc I _ ⟨f,fr,0,rfl,rfl,QWo _,h1,by rw[h3];simp[QB],h7,h8,hc,m1,m8,hrow⟩ ?_;clear h1 h3 h7 h8 hc m1 m8 hrow;rintro _ st ⟨f0,fr0,i,rfl,rfl,hi,h10,h30,h70,h80,hc0,m10,m80,Yb⟩;refine QN (a:=_) [12] Yb ?_;intro f fr hf hm hn;have h1:f 1=.ptr 0 1 0:=by rw[hf,h10]<;>rfl
 have h3:f 3=.bool (b&&QB (KX x.free) i):=by rw[hf,h30]<;>rfl
 have h7:f 7=.int .i64 (j:Nat):=by rw[hf,h70]<;>rfl
 have h8:f 8=.ptr 0 8 0:=by rw[hf,h80]<;>rfl
 have hc:f 11=.int .i64 (i:Nat):=by rw[hf,hc0]<;>rfl
 have m1:fr 1=.cells (Pc P):=by rw[hm 1 (by decide),m10]<;>rfl
 have m8:fr 8=.cells x.cells:=by rw[hm 8 (by decide),m80]<;>rfl
 have n12:=hn 12 (by decide);clear hf hm hn h10 h30 h70 h80 hc0 m10 m80 Yb;have m8':=m8;simp only[PE.cells]at m8;simp only[QXb,m8,h8,hc,eE,seval];by_cases hlt:i<x.free.length
 ·obtain⟨y,hg⟩:∃y,x.free[i]? = some y:=⟨x.free[i],QWh hlt⟩;have hgm:(x.free.map fun o=>AV.agg o.cells)[i]? = some (.agg y.cells):=by simp[hg]
  have e1:=Qo i _ hlt hl;have ht:=Ji b (KX x.free) i;have hq:KX x.free i=((decide (y.lo≥0)&&decide (y.hi≤2147483647)&&decide (y.lo≤y.hi))&&Xa x.free YZ i):=by unfold KX;rw[Yd hg];rfl
  rw[hq]at ht;have fin:∀(f':Fr) (fr':Nat→Ob) (v:Bool),((b&&QB (KX x.free) i)&&((decide (y.lo≥0)&&decide (y.hi≤2147483647)&&decide (y.lo≤y.hi))&&Xa x.free YZ i))=v→f' 1=.ptr 0 1 0→f' 3=.bool v→f' 7=.int .i64 (j:Nat)→f' 8=.ptr 0 8 0→f' 11=.int .i64 ((i+1:Nat):Int)→fr' 1=.cells (Pc P)→fr' 8=.cells x.cells→(∀s∈[12],(fr' s).isRow=false)→∃k,k<x.free.length-i∧I k ⟨f',[fr'],[]⟩:=by
   intro f' fr' v hv a1 a3 a4 a5 a6 a7 a8 a9;exact⟨x.free.length-(i+1),by omega,f',fr',i+1,rfl,rfl,by omega,a1,by rw[a3,ht,hv],a4,a5,a6,a7,a8,a9⟩
  simp only[PS.cells]at hgm;cases hb:(b&&QB (KX x.free) i)
  ·rw[hb]at fin h3;simp only[QXM]at fin;simp only[Ql hlt,Qg,QXI,Qb,hgm,PS.cells,n12,m8,h3,h8,hc,e1,eE,seval];exact fin _ _ _ rfl (by exact h1) (by rfl) (by exact h7) (by exact h8) (by rfl) (by exact m1) (by exact m8') (by simp<;>rfl)
  rw[hb]at fin h3;simp only[QXT]at fin;cases a1:decide (y.lo≥0)
  ·simp only[a1,QXM]at fin;simp only[Ql hlt,Qg,QXI,Qb,hgm,PS.cells,n12,a1,m8,h3,h8,hc,e1,eE,seval];exact fin _ _ _ rfl (by exact h1) (by rfl) (by exact h7) (by exact h8) (by rfl) (by exact m1) (by exact m8') (by simp<;>rfl)
  cases a2:decide (y.hi≤2147483647)
  ·simp only[a1,a2,QXM,QYc]at fin;simp only[Ql hlt,Qg,QXI,Qb,hgm,PS.cells,n12,a1,a2,m8,h3,h8,hc,e1,eE,seval];exact fin _ _ _ rfl (by exact h1) (by rfl) (by exact h7) (by exact h8) (by rfl) (by exact m1) (by exact m8') (by simp<;>rfl)
  cases a3:decide (y.lo≤y.hi)
  ·simp only[a1,a2,a3,QXM,QYc]at fin;simp only[Ql hlt,Qg,QXI,Qb,hgm,PS.cells,n12,a1,a2,a3,m8,h3,h8,hc,e1,eE,seval];exact fin _ _ _ rfl (by exact h1) (by rfl) (by exact h7) (by exact h8) (by rfl) (by exact m1) (by exact m8') (by simp<;>rfl)
  simp only[a1,a2,a3,QXT,QXu]at fin;cases i with
  |zero=>
   have d0:(((0:Nat):Int)==0)=true:=rfl;rw[Yv]at fin;simp only[Ql hlt,Qg,QXI,Qb,hgm,PS.cells,n12,a1,a2,a3,d0,m8,h3,h8,hc,e1,eE,Nat.reduceBEq,↓reduceIte,Nat.reduceAdd,Nat.reduceLeDiff];exact fin _ _ _ rfl (by exact h1) (by rfl) (by exact h7) (by exact h8) (by rfl) (by exact m1) (by exact m8') (by simp<;>rfl)
  |succ k=>
   have d0:(((k+1:Nat):Int)==0)=false:=by rw[QXY];omega
   obtain⟨z,hgz⟩:∃z,x.free[k]? = some z:=⟨x.free[k]'(by omega),QWh (by omega)⟩;have hgzm:(x.free.map fun o=>AV.agg o.cells)[k]? = some (.agg z.cells):=by simp[hgz]
   have w:=Wn k _ hlt hl;have hs:YZ z y=decide (y.lo > z.hi):=rfl;rw[Jf hgz hg,hs]at fin;simp only[PS.cells]at hgzm;simp only[Ql hlt,Qg,QXI,Qb,hgm,hgzm,w,PS.cells,n12,a1,a2,a3,d0,m8,h3,h8,hc,e1,eE,seval];exact fin _ _ _ rfl (by exact h1) (by rfl) (by exact h7) (by exact h8) (by rfl) (by exact m1) (by exact m8') (by simp<;>rfl)
 ·rw[show i=x.free.length by omega,Vd]at h3;simp only[QA hlt,Qa,seval];refine hx _ _ (by exact h1) (by exact h3) (by exact h7) (by exact m1) (fun s hs=>?_);simp at hs;rcases hs with rfl|rfl
  ·rw[n12];rfl
  ·rw[m8];rfl

end

section
variable {M:Nat}(P:PL)(hP:P.ok M)(fr:Nat→Ob)(m1:fr 1=.cells (Pc P))(f:Fr)(b:Bool)(h1:f 1=.ptr 0 1 0)(h3:f 3=.bool b)(Q:Exit→St→Prop)
include hP m1 h1 h3

theorem QQH (ha:f 7=.int .i64 0)(hrow:∀s∈[12,8],(fr s).isRow=false)(hx:∀f fr,f 1=.ptr 0 1 0→f 3=.bool (b&&P.enums.all Jh)→Q (.exit 4) (⟨f,[fr],[]⟩:St)):QG Tryz.prog (.loop Tk) ⟨f,[fr],[]⟩ Q:=by
 let I:Nat→St→Prop:=fun k st=>∃f fr i,st=⟨f,[fr],[]⟩∧k=P.enums.length-i∧i≤P.enums.length∧f 1=.ptr 0 1 0∧f 3=.bool (b&&(P.enums.take i).all Jh)∧f 7=.int .i64 (i:Nat)∧fr 1=.cells (Pc P)∧∀s∈[12,8],(fr s).isRow=false
 refine Qc I _ ⟨f,fr,0,rfl,rfl,QWo _,h1,by rw[h3];simp,ha,m1,hrow⟩ ?_;clear h1 h3 ha m1 hrow;rintro _ st ⟨f0,fr0,i,rfl,rfl,hi,h10,h30,ha0,m10,hr⟩;refine QN (a:=_) [12,8] hr ?_;intro f fr hf hm hn;have h1:f 1=.ptr 0 1 0:=by rw[hf,h10]<;>rfl
 have h3:f 3=.bool (b&&(P.enums.take i).all Jh):=by rw[hf,h30]<;>rfl
 have ha:f 7=.int .i64 (i:Nat):=by rw[hf,ha0]<;>rfl
 have m1:fr 1=.cells (Pc P):=by rw[hm 1 (by decide),m10]<;>rfl
 have n12:=hn 12 (by decide);have n8:=hn 8 (by decide);clear hf hm hn h10 h30 ha0 m10 hr;have m1':=m1;simp only[Pc]at m1;simp only[QXb,h1,m1,ha,eE,seval];by_cases hlt:i<P.enums.length
 ·obtain⟨x,hg⟩:∃x,P.enums[i]? = some x:=⟨P.enums[i],QWh hlt⟩;have hgm:(P.enums.map Qr)[i]? = some (.agg x.cells):=by simp[hg,Qr]
  have e1:=Qo i _ hlt hP.len2;have ht:=Q5 (q:=Jh) hg;have hq:(b&&(P.enums.take (i+1)).all Jh)=((b&&(P.enums.take i).all Jh&&(Ui x&&x.items.all (W2 x)))&&(x.free.all GB&&XX x.free YZ)):=by
   rw[ht];unfold Jh;cases b<;>cases(P.enums.take i).all _<;>cases x.free.all GB<;>cases XX x.free YZ<;>cases Ui x<;>cases x.items.all (W2 x)<;>rfl
  have hxo:=hP.enums x (QWt hg);simp only[PE.cells]at hgm;simp only[Ql hlt,Qg,QXI,Qb,hgm,n8,h1,m1,ha,eE,seval];refine PH x hxo.len1 hxo.len2 _ (b&&(P.enums.take i).all Jh) i _ (by exact h1) (by exact h3) (by exact ha) (by rfl) (by rfl) _ (by rfl) (fun f h1 h3 ha h8=>?_);simp only[Qa,seval];refine PJ x hxo.len2 P _ _ i _ (by exact h1) (by exact h3) (by exact ha) (by exact h8) (by exact m1') (by rfl) _ (by rfl) (fun s hs=>by simp at hs;subst hs;rw[QO _ _ (by decide)];first|rw[n12];rfl|(rw[QO _ _ (by decide),n12];rfl)) (fun f fr h1 h3 ha m1 hr=>?_);simp only[ha,e1,Qa,seval];exact⟨P.enums.length-(i+1),by omega,_,fr,i+1,rfl,rfl,by omega,(by exact h1),by rw[hq]<;>first|exact h3|simp only[h3,eE,seval],(by rfl),m1,hr⟩
 ·have hf:(P.enums.take i).all Jh=P.enums.all Jh:=by rw[QWO (by omega)]
  rw[hf]at h3;simp only[QA hlt,Qa,seval];exact hx _ _ (by exact h1) (by exact h3)

end

theorem z40 {M:Nat}(P:PL)(hP:P.ok M):Qi Tryz.prog 40 [P.av] (.bool (GC P)):=by
 have e0:P.av=.agg [.list (P.progs.map Qp),.list (P.enums.map Qr)]:=rfl;refine k40.fn (by simp) ?_;simp only[e0,eE,seval];refine QQG P hP _ (by rfl) _ true (by rfl) (by rfl) _ (by rfl) (fun f h1 h3=>?_);simp only[Qa,seval];refine QQH P hP _ (by rfl) _ _ (by exact h1) (by exact h3) _ (by rfl) (fun s hs=>by simp at hs;rcases hs with rfl|rfl<;>rfl) (fun f fr h1 h3=>?_);simp only[h3,GC,QXT,Qa,seval]

section
variable (k kd:Int)(b:Nat)(t:List UInt8)(l p s r:List AV)(ht:t.length+8≤maxLen)

include ht in
theorem QQI:Qi Tryz.prog 202 [.int .i64 k,vo kd b t l p s r] (.bool (Xk k kd b t l p s r)):=by
 have hl:=y81 kd b t l p s r;simp only[vo]at hl;have n1:(kd != k)=!(kd==k):=rfl;have n2:(t != [])=!(t==[]):=rfl;refine Qtp.fn (by simp) ?_;simp only[vo,Xk,eE,seval];refine aC (TC k) ?_;cases hk:isk k
 ·simp only[QXo,QXM,Qa,seval]
 simp only[n1,QXU,QXT,eE,seval];cases a1:(kd==k)
 ·simp only[QXo,QXM,Qa,seval]
 have e:kd=k:=by simpa using a1
 subst e;simp only[QXU,QXT,eE,seval];refine aC hl ?_;cases WQ l p s r
 ·simp only[QXo,QXM,Qa,seval]
 simp only[QXU,QXT,Qa,seval];refine aC (Hv kd) ?_;cases tx:Zc kd
 ·simp only[QWz,QL,eE,seval];cases a2:(t==[])
  ·simp only[QXo,QXM,Qa,seval]
  have e:t=[]:=by simpa using a2
  subst e;have k7:(kd != 7)=true:=by
   simp only[Zc,QW9,QXY]at tx;simp[tx.1]
  have d0:decide (((0:Nat):Int)≤4096)=true:=rfl;simp only[k7,QXc,QXU,QXT,QXu,QXW,Qa,seval];unfold Yx;by_cases h1:kd=1
  ·subst h1;have b1:((1:Int)==1)=true:=rfl;simp only[b1,eE,seval]
  ·have b1:(kd==1)=false:=by simp[h1]
   by_cases h2:kd=2
   ·subst h2;have b2:((2:Int)==2)=true:=rfl;simp only[b1,b2,h1,eE,seval];cases hd:decide (IntKind.i64.wrap (b:Int)≥-2147483648)<;>simp only[QXT,QXM,Qa,seval]
   ·have b2:(kd==2)=false:=by simp[h2]
    by_cases h4:kd=4
    ·subst h4;have b4:((4:Int)==4)=true:=rfl;simp only[b1,b2,b4,h1,h2,eE,seval]
    ·have b4:(kd==4)=false:=by simp[h4]
     by_cases h9:kd=9
     ·subst h9;have b9:((9:Int)==9)=true:=rfl;simp only[b1,b2,b9,b4,h1,h2,h4,eE,seval]
     ·have b9:(kd==9)=false:=by simp[h9]
      simp only[b1,b2,b9,b4,h1,h2,h4,h9,Qa,seval]
 ·simp only[eE,seval];cases a2:((b:Int)==0)
  ·simp only[QXM,Qa,seval]
  have hfn:Yx kd b=true:=by
   simp only[Zc,QWk,QWm]at tx;rcases tx with rfl|rfl<;>rfl
  cases a3:decide ((t.length:Int)≤4096)
  ·simp only[a3,hfn,QXM,QYc,eE,seval]
  simp only[Zc,QWk,QWm]at tx;rcases tx with rfl|rfl
  ·have c8:((7:Int)==8)=false:=rfl;have c7:((7:Int) != 7)=false:=rfl;simp only[a3,c8,c7,hfn,QXT,QXX,eE,seval];refine aC (Ci t ht) ?_;simp only[Qa,seval]
  ·have c8:((8:Int)==8)=true:=rfl;have c7:((8:Int) != 7)=true:=rfl;simp only[a3,c8,c7,hfn,QXW,eE,seval]

end

section
variable {M:Nat}(P:PL)(hP:P.ok M)(k tg kd:Int)(b:Nat)(t:List UInt8)(l p s r:List AV)(ht:t.length+8≤maxLen)(hs:s.length≤140737488351232)(hr:r.length≤140737488351232)

include hP ht hs hr in
theorem QQJ:Qi Tryz.prog 129 [P.av,.int .i64 k,.int .i64 tg,vo kd b t l p s r] (.int .i64 (Un P k tg kd b t l p s r)):=by
 have e0:P.av=.agg [.list (P.progs.map Qp),.list (P.enums.map Qr)]:=rfl;have ho:=z43 kd b t l p s r hs hr;have hf:=QQI k kd b t l p s r ht;have ha:=y76 P hP tg b;simp only[vo]at ho hf;simp only[e0]at ha;refine QMr.fn (by simp) ?_;simp only[e0,vo,Un,eE,seval];cases a1:(kd != k)
 ·simp only[QXX,eE,seval];refine aC ho ?_;cases oth kd b t l p s r
  ·simp only[QWz,eE,seval];cases a2:decide ((t.length:Int) > 4096)
   ·simp only[QWz,Qa,seval];cases a3:(k==7)
    ·simp only[QXM,QWz,eE,seval];refine aC hf ?_;cases Xk k kd b t l p s r
     ·simp only[QXo,Qa,seval]
     ·simp only[QXU,QWz,Qa,seval];cases a4:(k==9)
      ·simp only[QXM,QWz,Qa,seval]
      ·simp only[QXT,eE,seval];refine aC ha ?_;cases Wp P.enums tg b<;>simp only[QXo,QXU,QWz,Qa,seval]
    ·simp only[QXT,eE,seval];refine aC (Ci t ht) ?_;cases Hj t
     ·simp only[QXo,Qa,seval]
     ·have a4:(k==9)=false:=by
       rw[QWm]at a3;subst a3;rfl
      simp only[QXU,QWz,eE,seval];refine aC hf ?_;cases Xk k kd b t l p s r
      ·simp only[QXo,Qa,seval]
      ·simp only[QXU,a4,QXM,QWz,Qa,seval]
   ·simp only[Qa,seval]
  ·simp only[Qa,seval]
 ·simp only[QXW,Qa,seval]

end

def kv (k:Int)(b:Nat)(t:List UInt8):AV:=.agg [.int .i64 k,.int .u64 (b:Nat),.str t,.list [],.list [],.list [],.list []]
def Zb (k:Int):Prop:=(1≤k∧k≤5)∨k=7

theorem Zb.isk {k:Int}(h:Zb k):isk k=true:=by
 rcases h with h|rfl
 ·simp[Va.isk];omega
 ·rfl

theorem GM:∀s:List UInt8,Op.bytesLess s s=false
 | []=>rfl
 |a :: l=>by simp[Op.bytesLess,GM l]

theorem Qwk (a:Int):Qi Tryz.prog 192 [.int .i64 a] (.bool false):=by
 refine Qhw.fn (by simp) ?_;simp only[bne_self_eq_false,Qa,seval]

theorem Qwl (a:Int):Qi Tryz.prog 293 [.int .u64 a] (.bool false):=by
 refine QO5.fn (by simp) ?_;simp only[bne_self_eq_false,Qa,seval]

theorem Qwm (a:List UInt8):Qi Tryz.prog 292 [.str a] (.bool false):=by
 have e:QL .neq a a=some (.bool false):=by simp[QL]
 refine QO2.fn (by simp) ?_;simp only[e,Qa,seval]

def cN (a b:Int):Int:=if a<b then -1 else if b<a then 1 else 0
theorem UU {a b:Int}:cN a b=0↔a=b:=by
 unfold cN;split
 ·omega
 ·split<;>omega

theorem Cz (a b:Int):Qi Tryz.prog 101 [.int .i64 a,.int .i64 b] (.int .i64 (cN a b)):=by
 refine Qcm.fn (by simp) ?_;simp only[Qa,seval];refine aC (Qwk a) ?_;simp only[Qa,seval];refine aC (Qwk b) ?_;simp only[Qa,seval];by_cases h1:a<b
 ·have d1:decide (a<b)=true:=by simpa using h1
  simp only[d1,cN,QWJ h1,Qa,seval]
 ·have d1:decide (a<b)=false:=by simpa using h1
  by_cases h2:b<a
  ·have d2:decide (a > b)=true:=by simpa using h2
   simp only[d1,d2,cN,QWu h1,QWJ h2,Qa,seval]
  ·have d2:decide (a > b)=false:=by simpa using h2
   simp only[d1,d2,cN,QWu h1,QWu h2,Qa,seval]

theorem QQK (a b:Int):Qi Tryz.prog 281 [.int .u64 a,.int .u64 b] (.int .i64 (cN a b)):=by
 refine QOW.fn (by simp) ?_;simp only[Qa,seval];refine aC (Qwl a) ?_;simp only[Qa,seval];refine aC (Qwl b) ?_;simp only[Qa,seval];by_cases h1:a<b
 ·have d1:decide (a<b)=true:=by simpa using h1
  simp only[d1,cN,QWJ h1,Qa,seval]
 ·have d1:decide (a<b)=false:=by simpa using h1
  by_cases h2:b<a
  ·have d2:decide (a > b)=true:=by simpa using h2
   simp only[d1,d2,cN,QWu h1,QWJ h2,Qa,seval]
  ·have d2:decide (a > b)=false:=by simpa using h2
   simp only[d1,d2,cN,QWu h1,QWu h2,Qa,seval]

def cS (a b:List UInt8):Int:=if Op.bytesLess a b=true then -1 else if a==b then 0 else 1
theorem Vo {a b:List UInt8}:cS a b=0↔a=b:=by
 unfold cS
 constructor
 ·intro h;split at h
  ·omega
  ·split at h
   ·rename_i h2;simpa using h2
   ·omega
 ·rintro rfl;simp[GM]

theorem QQL (a b:List UInt8):Qi Tryz.prog 280 [.str a,.str b] (.int .i64 (cS a b)):=by
 refine QOT.fn (by simp) ?_;simp only[Qa,seval];refine aC (Qwm a) ?_;simp only[Qa,seval];refine aC (Qwm b) ?_;simp only[QL,cS,Qa,seval];cases h1:Op.bytesLess a b
 ·cases h2:(a==b)<;>simp only[QL,h1,h2,QXX,QXU,QXo,QWz,Qa,seval]
 ·simp only[Qa,seval]

def Hl (k:Int)(a:Nat)(s:List UInt8)(b:Nat)(t:List UInt8):Int :=
 if Zc k=true then cS s t else if (k==2||k==3)=true then cN (IntKind.i64.wrap (a:Int)) (IntKind.i64.wrap (b:Int))else cN (a:Int) (b:Int)

theorem QQM (k:Int)(hk:Zb k)(a b:Nat)(s t:List UInt8):Qi Tryz.prog 256 [kv k a s,kv k b t] (.int .i64 (Hl k a s b t)):=by
 have hi:=hk.isk;have k6:(k==6)=false:=by
  rcases hk with h|rfl
  ·simp;omega
  ·rfl
 refine QOB.fn (by simp) ?_;simp only[kv,Hl,bne_self_eq_false,eE,seval];refine aC (Bu k) ?_;simp only[hi,eE,seval];refine aC (QvQ k) ?_;cases h1:Zc k
 ·simp only[QWz,eE,seval];cases h2:(k==2)
  ·cases h3:(k==3)
   ·simp only[h3,k6,QYd,QWz,eE,seval];refine aC (QQK _ _) ?_;simp only[Qa,seval]
   ·simp only[h3,QXX,eE,seval];refine aC (Cz _ _) ?_;simp only[Qa,seval]
  ·simp only[QXW,eE,seval];refine aC (Cz _ _) ?_;simp only[Qa,seval]
 ·simp only[eE,seval];refine aC (QQL s t) ?_;simp only[Qa,seval]

theorem Qwn (k:Int)(hk:Zb k)(b:Nat)(t:List UInt8):Qi Tryz.prog 255 [kv k b t] (.iface 238 (kv k b t)):=by
 have hi:=hk.isk;refine QOy.fn (by simp) ?_;simp only[kv,eE,seval];refine aC (Bu k) ?_;simp only[hi,eE,seval]

theorem Qwo (k:Int)(hk:Zb k)(a b:Nat)(s t:List UInt8):Qi Tryz.prog 231 [kv k a s,kv k b t] (.int .i64 (Hl k a s b t)):=by
 have h1:=Qwn k hk a s;have h2:=Qwn k hk b t;have h3:=QQM k hk a b s t;simp only[kv]at h1 h2 h3;refine QN8.fn (by simp) ?_;simp only[kv,bne_self_eq_false,eE,seval];refine aC h2 ?_;simp only[eE,seval];refine aC h1 ?_;simp only[eE,seval];refine aC h3 ?_;simp only[Qa,seval]

theorem QQN (k:Int)(hk:Zb k)(a b:Nat)(s t:List UInt8):Qi Tryz.prog 232 [kv k a s,kv k b t] (.bool (Hl k a s b t==0)):=by
 have h1:=Qwo k hk a b s t;simp only[kv]at h1;refine QOb.fn (by simp) ?_;simp only[kv,eE,seval];refine aC h1 ?_;simp only[Qa,seval]

def Ko (k:Int)(b:Nat):Int:=if (k==2||k==3)=true then IntKind.u64.wrap ((b:Int)+9223372036854775808)else(b:Int)

theorem QQO (k:Int):Qi Tryz.prog 238 [.int .i64 k] (.bool (k==2||k==3)):=by
 refine QOf.fn (by simp) ?_;simp only[Qa,seval];cases h:(k==2)<;>simp only[QXW,QXX,Qa,seval]

theorem Qwp (k:Int)(k6:(k != 6)=true)(b:Nat)(t:List UInt8):Qi Tryz.prog 206 [kv k b t] (.int .u64 (Ko k b)):=by
 refine QNM.fn (by simp) ?_;simp only[kv,eE,seval];refine aC (QQO k) ?_;unfold Ko;cases h1:(k==2||k==3)
 ·simp only[k6,QWz,eE,seval]
 ·simp only[eE,seval]

def Ut (k:Int)(a:Nat)(s:List UInt8)(b:Nat)(t:List UInt8):Int:=if Zc k=true then cS s t else cN (Ko k a) (Ko k b)

theorem QQP (k:Int)(hk:Zb k)(a b:Nat)(s t:List UInt8):Qi Tryz.prog 136 [kv k a s,kv k b t] (.int .i64 (Ut k a s b t)):=by
 have hi:=hk.isk;have k6:(k != 6)=true:=by
  rcases hk with h|rfl
  ·simp;omega
  ·rfl
 have d1:decide (k<k)=false:=by simp
 have d2:decide (k > k)=false:=by simp
 have hr:=Qwp k k6 a s;have hq:=Qwp k k6 b t;simp only[kv]at hr hq;refine QMx.fn (by simp) ?_;simp only[kv,Ut,d1,eE,seval];refine aC (TC k) ?_;simp only[hi,eE,seval];refine aC (Hv k) ?_;cases h2:Zc k
 ·simp only[QWz,eE,seval];refine aC (Hv k) ?_;simp only[h2,eE,seval];refine aC (Hv k) ?_;simp only[h2,eE,seval];refine aC hr ?_;simp only[eE,seval];refine aC hq ?_;simp only[Qa,seval];by_cases c1:Ko k a<Ko k b
  ·have e1:decide (Ko k a<Ko k b)=true:=QYa c1;simp only[e1,cN,QWJ c1,Qa,seval]
  ·have e1:decide (Ko k a<Ko k b)=false:=QX5 c1;simp only[e1,cN,QWu c1,eE,seval];refine aC hr ?_;simp only[eE,seval];refine aC hq ?_;by_cases c2:Ko k b<Ko k a
   ·have e2:decide (Ko k a > Ko k b)=true:=QYa c2;simp only[e2,QWJ c2,Qa,seval]
   ·have e2:decide (Ko k a > Ko k b)=false:=QX5 c2;simp only[e2,QWu c2,Qa,seval]
 ·simp only[QL,cS,eE,seval];cases h1:Op.bytesLess s t
  ·simp only[QWz,eE,seval];refine aC (Hv k) ?_;cases h3:(s==t)
   ·simp only[h1,h2,h3,QL,QXX,QXo,QWz,eE,seval]
   ·simp only[h1,h2,h3,QL,QXX,QXU,eE,seval];refine aC (Hv k) ?_;simp only[h2,Qa,seval]
  ·simp only[Qa,seval]

theorem v78 (k:Int)(hk:Zb k)(a b:Nat)(s t:List UInt8):Qi Tryz.prog 78 [kv k a s,kv k b t] (.int .i64 (Ut k a s b t)):=by
 have b1:(k==11)=false:=by rcases hk with h|rfl<;>simp<;>omega
 have b2:(k==12)=false:=by rcases hk with h|rfl<;>simp<;>omega
 have b3:(k==10)=false:=by rcases hk with h|rfl<;>simp<;>omega
 have hr:=QQP k hk a b s t;simp only[kv]at hr;refine k78.fn (by simp) ?_;simp only[kv,bne_self_eq_false,b1,b2,b3,eE,seval];refine aC hr ?_;simp only[Qa,seval]

theorem QQQ (k:Int)(hk:Zb k)(a b:Nat)(s t:List UInt8):Qi Tryz.prog 130 [kv k a s,kv k b t] (.bool (Ut k a s b t==0)):=by
 have hr:=v78 k hk a b s t;simp only[kv]at hr;refine QMu.fn (by simp) ?_;simp only[kv,eE,seval];refine aC hr ?_;simp only[Qa,seval]

theorem Z8 {v:V}{P:PL}{k tg:Int}(h:v.one P k tg=0):v.av=kv k v.bits v.text∧(Zc k=true→(v.bits:Int)=0)∧(Zc k=false→v.text=[]):=by
 obtain⟨h1,_,h3⟩:=Uo h;rw[GL,h1];rw[h1]at h3;unfold Xk WQ at h3;simp only[QWE,QWm]at h3;obtain⟨⟨⟨⟨⟨_,⟨⟨⟨e1,e2⟩,e3⟩,e4⟩⟩,h4⟩,_⟩,_⟩,_⟩:=h3;have f1:=QYl.1 (Int.ofNat_eq_zero.1 e1);have f2:=QYl.1 (Int.ofNat_eq_zero.1 e2);have f3:=QYl.1 (Int.ofNat_eq_zero.1 e3);have f4:=QYl.1 (Int.ofNat_eq_zero.1 e4);rw[f1,f2,f3,f4];refine⟨rfl,fun ht=>?_,fun ht=>?_⟩
 ·rw[QWJ ht]at h4;simpa using h4
 ·rw[QWu (by simp[ht])]at h4;simpa using h4

theorem Qaj {x y:V}{P:PL}{k tg:Int}(_hk:Zb k)(hx:x.one P k tg=0)(hy:y.one P k tg=0)(bx:x.bits<18446744073709551616)(bY:y.bits<18446744073709551616):(Hl k x.bits x.text y.bits y.text==0)=ZJ x y:=by
 obtain⟨_,x1,x2⟩:=Z8 hx;obtain⟨_,y1,y2⟩:=Z8 hy;rw[QXa,QWm];unfold ZJ Hl;simp only[QWE,QWm];split
 ·rename_i ht;have:=x1 ht;have:=y1 ht;rw[Vo];exact⟨fun h=>⟨by omega,h⟩,fun h=>h.2⟩
 ·rename_i ht;have ht:Zc k=false:=by simpa using ht
  rw[x2 ht,y2 ht];split
  ·rw[UU,QC,QC];exact⟨fun h=>⟨by omega,rfl⟩,fun h=>by rw[h.1]⟩
  ·rw[UU];exact⟨fun h=>⟨by omega,rfl⟩,fun h=>by rw[h.1]⟩

theorem Vq {x y:V}{P:PL}{k tg:Int}(_hk:Zb k)(hx:x.one P k tg=0)(hy:y.one P k tg=0)(bx:x.bits<18446744073709551616)(bY:y.bits<18446744073709551616):(Ut k x.bits x.text y.bits y.text==0)=ZJ x y:=by
 obtain⟨_,x1,x2⟩:=Z8 hx;obtain⟨_,y1,y2⟩:=Z8 hy;rw[QXa,QWm];unfold ZJ Ut;simp only[QWE,QWm];split
 ·rename_i ht;have:=x1 ht;have:=y1 ht;rw[Vo];exact⟨fun h=>⟨by omega,h⟩,fun h=>h.2⟩
 ·rename_i ht;have ht:Zc k=false:=by simpa using ht
  rw[x2 ht,y2 ht];unfold Ko;split
  ·rw[UU,ZS,ZS];exact⟨fun h=>⟨by omega,rfl⟩,fun h=>by rw[h.1]⟩
  ·rw[UU];exact⟨fun h=>⟨by omega,rfl⟩,fun h=>by rw[h.1]⟩

open Up

def vc (x:V):List AV:=[.int .i64 x.kd,.int .u64 (x.bits:Nat),.str x.text,.list (x.list.map V.av),.list (x.pairs.map V.pav),.list (x.slots.map V.sav),.list (x.raws.map R.av)]
theorem Qw (x:V):x.av=.agg [.int .i64 x.kd,.int .u64 (x.bits:Nat),.str x.text,.list (x.list.map V.av),.list (x.pairs.map V.pav),.list (x.slots.map V.sav),.list (x.raws.map R.av)]:=by
 rw[V.av,V.eta]
theorem Ke (p:V×V):V.pav p=.agg [.int .i64 p.1.kd,.int .u64 (p.1.bits:Nat),.str p.1.text,.list (p.1.list.map V.av),.list (p.1.pairs.map V.pav),.list (p.1.slots.map V.sav),.list (p.1.raws.map R.av),.int .i64 p.2.kd,.int .u64 (p.2.bits:Nat),.str p.2.text,.list (p.2.list.map V.av),.list (p.2.pairs.map V.pav),.list (p.2.slots.map V.sav),.list (p.2.raws.map R.av)]:=by
 rw[V.pav,V.eta,V.eta];rfl
theorem ZK (s:Int×V):V.sav s=.agg [.int .i64 s.1,.int .i64 s.2.kd,.int .u64 (s.2.bits:Nat),.str s.2.text,.list (s.2.list.map V.av),.list (s.2.pairs.map V.pav),.list (s.2.slots.map V.sav),.list (s.2.raws.map R.av)]:=by
 rw[V.sav,V.eta]
theorem YI {l:List V}{i:Nat}{x:V}(h:l[i]? = some x):(l.map V.av)[i]? = some (.agg [.int .i64 x.kd,.int .u64 (x.bits:Nat),.str x.text,.list (x.list.map V.av),.list (x.pairs.map V.pav),.list (x.slots.map V.sav),.list (x.raws.map R.av)]):=by
 rw[QXE,h,QW6,Qw]
theorem Jl {l:List (V×V)}{i:Nat}{p:V×V}(h:l[i]? = some p):(l.map V.pav)[i]? = some (.agg [.int .i64 p.1.kd,.int .u64 (p.1.bits:Nat),.str p.1.text,.list (p.1.list.map V.av),.list (p.1.pairs.map V.pav),.list (p.1.slots.map V.sav),.list (p.1.raws.map R.av),.int .i64 p.2.kd,.int .u64 (p.2.bits:Nat),.str p.2.text,.list (p.2.list.map V.av),.list (p.2.pairs.map V.pav),.list (p.2.slots.map V.sav),.list (p.2.raws.map R.av)]):=by
 rw[QXE,h,QW6,Ke]
theorem JQ {l:List (Int×V)}{i:Nat}{s:Int×V}(h:l[i]? = some s):(l.map V.sav)[i]? = some (.agg [.int .i64 s.1,.int .i64 s.2.kd,.int .u64 (s.2.bits:Nat),.str s.2.text,.list (s.2.list.map V.av),.list (s.2.pairs.map V.pav),.list (s.2.slots.map V.sav),.list (s.2.raws.map R.av)]):=by
 rw[QXE,h,QW6,ZK]

structure UO (P:PL)(o:PO):Prop where
 tgt:o.kind=10→0≤o.target∧o.target<(P.progs.length:Int)
 enm:o.kind=9→0≤o.target∧o.target<(P.enums.length:Int)
 key:o.card=5→Zb o.key
def Y0 (P:PL):Prop:=∀g∈P.progs,∀o∈g.ops,UO P o

theorem Kf {P:PL}(h:ck P=0):Y0 P:=by
 unfold ck at h;split at h
 ·omega
 split at h
 ·omega
 split at h
 ·omega
 split at h
 ·omega
 split at h
 ·omega
 split at h
 ·omega
 rename_i ha;have ha:args P=true:=by simpa using ha
 intro g hg o ho;unfold args at ha;simp only[QWE,QWs]at ha;have h1:=ha.1 g hg;unfold Z1 at h1;simp only[QWE,QWs]at h1;have h2:=(h1.2 o ho).1;unfold Za at h2;simp only[QWE,QWl]at h2;obtain⟨⟨_,hk⟩,hm⟩:=h2;refine⟨fun h=>?_,fun h=>?_,fun h=>?_⟩
 ·unfold GF at hm;rw[QWJ h]at hm;simp only[QWE,QWl]at hm;exact hm.1
 ·unfold GF at hm;rw[QWu (by omega),QWJ h]at hm;simp only[QWE,QWl]at hm;exact hm
 ·unfold Va.key at hk;rw[QWJ h]at hk;simp only[QWE,QWl,QWG]at hk;unfold Zb;omega

section
variable {M:Nat}{P:PL}(hP:P.ok M)(hM:M≤140737488351232){m:PG→V→Int}{lv lv1:Int}(hw:IntKind.i64.wrap (lv+1)=lv1)

include hP hM in
theorem TI (k tg:Int){v:V}(hv:v.ok M):Qi Tryz.prog 129 [P.av,.int .i64 k,.int .i64 tg,v.av] (.int .i64 (v.one P k tg)):=by
 rw[GL];exact QQJ P hP k tg _ _ _ _ _ _ _ (by have:=hv.text;simp only[maxLen];omega) (by have:=hv.ns;simp;omega) (by have:=hv.nr;simp;omega)

include hP hM hw in
theorem v75 (hm:∀(t:Int) (g:PG),P.progs[t.toNat]? = some g→0≤t→∀v:V,v.ok M→Qi Tryz.prog 20 [P.av,.int .i64 t,v.av,.int .i64 lv1] (.int .i64 (m g v)))(o:PO)(ho:UO P o)(v:V)(hv:v.ok M) :
  Qi Tryz.prog 75 [P.av,Qv o,v.av,.int .i64 lv] (.int .i64 (QU m P o v)):=by
 have e0:P.av=.agg [.list (P.progs.map Qp),.list (P.enums.map Qr)]:=rfl;have h1:=TI hP hM o.kind o.target hv;rw[e0,Qw]at h1;rw[Qw];refine k75.fn (by simp) ?_;simp only[e0,Qv,PO.cells,QU,eE,seval];by_cases hk:o.kind=10
 ·have b:(o.kind==10)=true:=by simp[hk]
  obtain⟨t0,t1⟩:=ho.tgt hk;obtain⟨g,hg⟩:∃g,P.progs[o.target.toNat]? = some g:=⟨P.progs[o.target.toNat]'(by omega),QWh (by omega)⟩;have hq:QR P o.target=g:=by unfold QR;rw[hg];rfl
  have h2:=hm o.target g hg t0 v hv;rw[e0,Qw]at h2;rw[QWJ hk,hq];simp only[b,hw,eE,seval];refine aC h2 ?_;simp only[Qa,seval]
 ·have b:(o.kind==10)=false:=by simp[hk]
  rw[QWu hk];simp only[b,eE,seval];refine aC h1 ?_;simp only[Qa,seval]

end

section pairs
variable (L:List (V×V))(hl:L.length≤maxLen)(p:V×V→Bool)(c:Nat)(cap:AV)(m:Qn)

end pairs

section slots
variable (L:List (Int×V))(hl:L.length≤maxLen)(p:Int×V→Bool)(c:Nat)(cap:AV)(m:Qn)

end slots

theorem JY {M:Nat}{v:V}(h:v.ok M):v.bits<18446744073709551616:=by
 have:=Gg h.bits;omega

section
variable {M:Nat}{P:PL}(hP:P.ok M)(hM:M≤140737488351232){m:PG→V→Int}{lv:Int}(o:PO)(ho:UO P o)(h5:o.card=5)(ps:List (V×V))(hn:ps.length≤maxLen)(hk:∀x∈ps,x.1.ok M)(hv:∀x∈ps,x.2.ok M)

theorem PK {k:Int}(kk:Zb k)(i:Nat)(x:V×V)(hi:ps[i]? = some x)(hz:x.1.one P k (-1)=0)(hks:∀j y,j<i→ps[j]? = some y→y.1.one P k (-1)=0)(hn:ps.length≤maxLen)(hk:∀x∈ps,x.1.ok M)(f:Fr)(fr:Nat→Ob)(lv:Int)(h2:f 2=.list (ps.map V.pav))(h3:f 3=.int .i64 lv)(h4:f 4=.ptr 0 4 0)(h5:f 5=.ptr 0 5 0)(h9:f 9=.int .i64 (i:Nat))(h11:f 11=.int .i64 0)(Q:Exit→St→Prop)
  (q1:(ps.take i).any (fun q=>ZJ q.1 x.1)=true→∀f,f 8=.int .i64 9→Q .ret (⟨f,[fr],[]⟩:St))
  (q2:(ps.take i).any (fun q=>ZJ q.1 x.1)=false→∀f,f 2=.list (ps.map V.pav)→f 3=.int .i64 lv→f 4=.ptr 0 4 0→f 5=.ptr 0 5 0→f 9=.int .i64 (i:Nat)→Q (.exit 2) (⟨f,[fr],[]⟩:St)) :
  QG Tryz.prog (.loop TB) ⟨f,[fr],[]⟩ Q:=by
 let I:Nat→St→Prop:=fun k st=>∃f j,st=⟨f,[fr],[]⟩∧k=i-j∧j≤i∧(ps.take j).any (fun q=>ZJ q.1 x.1)=false∧f 2=.list (ps.map V.pav)∧f 3=.int .i64 lv∧f 4=.ptr 0 4 0∧f 5=.ptr 0 5 0∧f 9=.int .i64 (i:Nat)∧f 11=.int .i64 (j:Nat)
 refine Qc I _ ⟨f,0,rfl,rfl,QWo _,by simp,h2,h3,h4,h5,h9,h11⟩ ?_;clear h2 h3 h4 h5 h9 h11;rintro _ st ⟨f,j,rfl,rfl,hji,ha,h2,h3,h4,h5,h9,h11⟩;have hil:=(QWg.1 hi).1;simp only[h9,h11,Qa,seval];by_cases hlt:j<i
 ·obtain⟨y,hj⟩:∃y,ps[j]? = some y:=⟨ps[j]'(by omega),QWh (by omega)⟩;have hg:=Jl hj;have hgi:=Jl hi;have e1:=Qo j i hlt (by omega);have hy:=hks j y hlt hj;have h:=QQQ k kk y.1.bits x.1.bits y.1.text x.1.text;rw[←(Z8 hy).1,←(Z8 hz).1,Vq kk hy hz (JY (hk y (QWt hj))) (JY (hk x (QWt hi))),Qw,Qw]at h;have ht:(ps.take (j+1)).any (fun q=>ZJ q.1 x.1)=ZJ y.1 x.1:=by
   rw[QX0,hj,List.any_append,ha];simp
  simp only[Ql hlt,Qg,QXI,Qb,hg,hgi,h2,h9,h11,QWN,QXp,QWX,eE,seval];refine aC h ?_;cases hq:ZJ y.1 x.1
  ·simp only[h11,e1,Qa,seval];exact⟨i-(j+1),by omega,_,j+1,rfl,rfl,by omega,by rw[ht,hq],(by exact h2),(by exact h3),(by exact h4),(by exact h5),(by exact h9),(by rfl)⟩
  ·simp only[Qa,seval];refine q1 ?_ _ (by rfl);refine QX8.2 ⟨y,?_,hq⟩;exact QWt (i:=j) (by rw[QWT,QWJ hlt];exact hj)
 ·have e:j=i:=by omega
  subst e;simp only[QA hlt,Qa,seval];exact q2 ha _ (by exact h2) (by exact h3) (by exact h4) (by exact h5) (by exact h9)

def QaI (m:PG→V→Int)(P:PL)(lv:Int)(o:PO)(ps:List (V×V))(k:Nat)(st:St):Prop :=
 ∃f fr i,st=⟨f,[fr],[]⟩∧k=ps.length-i∧XR (YC m P o ps) ps.length 0=XR (YC m P o ps) (ps.length-i) i∧(∀j y,j<i→ps[j]? = some y→y.1.one P o.key (-1)=0)∧f 2=.list (ps.map V.pav)∧f 3=.int .i64 lv∧f 4=.ptr 0 4 0∧f 5=.ptr 0 5 0∧f 9=.int .i64 (i:Nat)∧fr 4=.cells [.list (P.progs.map Qp),.list (P.enums.map Qr)]∧fr 5=.cells o.cells

include hP hM ho h5 hn hk hv in
theorem v74 (hel:∀v:V,v.ok M→Qi Tryz.prog 75 [P.av,Qv o,v.av,.int .i64 lv] (.int .i64 (QU m P o v))) :
  Qi Tryz.prog 74 [P.av,Qv o,.list (ps.map V.pav),.int .i64 lv] (.int .i64 (XR (YC m P o ps) ps.length 0)):=by
 have e0:P.av=.agg [.list (P.progs.map Qp),.list (P.enums.map Qr)]:=rfl;have kk:=ho.key h5;refine k74.fn (by simp) ?_;simp only[e0,Qv,PO.cells,eE,seval];refine Qc (QaI m P lv o ps) _ ⟨_,_,0,rfl,rfl,rfl,(by intro j y h;omega),(by rfl),(by rfl),(by rfl),(by rfl),(by rfl),(by rfl),(by rfl)⟩ ?_;rintro _ st ⟨f,fr,i,rfl,rfl,hx,hks,h2,h3,h4,h5',h9,m4,m5⟩;have m5':=m5;simp only[PO.cells]at m5;simp only[QXb,h2,h9,Qa,seval];by_cases hlt:i<ps.length
 ·obtain⟨x,hi⟩:∃x,ps[i]? = some x:=⟨ps[i],QWh hlt⟩;have hxm:=QWt hi;have hg:=Jl hi;have e1:=Qo i _ hlt hn;have c1:=TI hP hM o.key (-1) (hk x hxm);have c2:=hel x.2 (hv x hxm);rw[e0,Qw]at c1 c2;simp only[Qv,PO.cells]at c2;simp only[Ql hlt,Qg,QXI,Qb,hg,QWN,QXp,QWX,h2,h4,h5',h9,m4,m5,eE,seval];refine aC c1 ?_;by_cases hz:x.1.one P o.key (-1)=0
  ·have d0:((0:Int) != 0)=false:=rfl;simp only[hz,d0,Qa,seval];refine PK ps kk i x hi hz hks hn hk _ _ lv (by exact h2) (by exact h3) (by exact h4) (by exact h5') (by exact h9) (by rfl) _ (fun ha f h8=>?_) (fun ha f h2 h3 h4 h5' h9=>?_)
   ·rw[KO hlt (v:=9) (by rw[UQ hi,QWJ hz,ha,QWJ rfl]) (by decide)]at hx;simp only[hx,h8,Qa,seval]
   ·have he:YC m P o ps i=QU m P o x.2:=by rw[UQ hi,QWJ hz,ha,QWu (by simp)]
    simp only[Qg,QXI,Qb,hg,QWN,QWQ,QWX,h2,h3,h4,h5',h9,m4,m5,eE,seval];refine aC c2 ?_;by_cases hy:QU m P o x.2=0
    ·rw[GK hlt (he.trans hy)]at hx;simp only[hy,d0,h9,e1,Qa,seval];refine⟨ps.length-(i+1),by omega,_,_,i+1,rfl,rfl,hx,?_,(by exact h2),(by exact h3),(by exact h4),(by exact h5'),(by rfl),(by exact m4),(by exact m5')⟩;intro j y hj hjy;by_cases e:j=i
     ·subst e;rw[hi]at hjy;cases hjy;exact hz
     ·exact hks j y (by omega) hjy
    ·rw[KO hlt he hy]at hx;have d1:(QU m P o x.2 != 0)=true:=by simp[hy]
     simp only[d1,hx,Qa,seval]
  ·rw[KO hlt ((UQ hi).trans (QWu hz)) hz]at hx;have d1:(x.1.one P o.key (-1) != 0)=true:=by simp[hz]
   simp only[d1,hx,Qa,seval]
 ·rw[UN hlt]at hx;simp only[QA hlt,hx,Qa,seval]

end

section
variable {M:Nat}{P:PL}(hP:P.ok M)(hM:M≤140737488351232){m:PG→V→Int}{lv:Int}(o:PO)(ho:UO P o)(v:V)(hv:v.ok M)

include hv in
theorem CA:Qi Tryz.prog 43 [v.av] (.bool v.oth):=by
 rw[GL];exact z43 _ _ _ _ _ _ _ (by have:=hv.ns;simp;omega) (by have:=hv.nr;simp;omega)

def CoI (m:PG→V→Int)(P:PL)(lv:Int)(o:PO)(v:V)(k:Nat)(st:St):Prop :=
 ∃f fr i,st=⟨f,[fr],[]⟩∧k=v.list.length-i∧XR (DA m P o v.list) v.list.length 0=XR (DA m P o v.list) (v.list.length-i) i∧f 3=.int .i64 lv∧f 4=.ptr 0 4 0∧f 5=.ptr 0 5 0∧f 6=.ptr 0 6 0∧f 9=.int .i64 (i:Nat)∧fr 4=.cells [.list (P.progs.map Qp),.list (P.enums.map Qr)]∧fr 5=.cells o.cells∧fr 6=.cells (vc v)

include hP hM ho hv in
theorem v46 (hel:∀v:V,v.ok M→Qi Tryz.prog 75 [P.av,Qv o,v.av,.int .i64 lv] (.int .i64 (QU m P o v))) :
  Qi Tryz.prog 46 [P.av,Qv o,v.av,.int .i64 lv] (.int .i64 (Xc m P o v)):=by
 have e0:P.av=.agg [.list (P.progs.map Qp),.list (P.enums.map Qr)]:=rfl;have co:=CA v hv;have ce:=fun h5=>v74 hP hM o ho h5 v.pairs (by have:=hv.np;simp only[maxLen];omega) hv.keys hv.vals hel
 have cv:=hel v hv;rw[e0,Qw]at cv;rw[Qw]at co;simp only[e0,Qv,PO.cells]at ce cv;rw[Qw];refine k46.fn (by simp) ?_;simp only[e0,Qv,PO.cells,eE,seval];unfold Xc;by_cases h5:o.card=5
 ·have b5:(o.card==5)=true:=by simp[h5]
  rw[QWJ h5];simp only[b5,eE,seval];cases a1:(v.kd != 12)
  ·simp only[QXX,eE,seval];refine aC co ?_;cases a2:v.oth
   ·simp only[QWz,eE,seval];refine aC (ce h5) ?_;simp only[Qa,seval]
   ·simp only[Qa,seval]
  ·simp only[QXW,Qa,seval]
 ·have b5:(o.card==5)=false:=by simp[h5]
  rw[QWu h5];by_cases h4:o.card=4
  ·have b4:(o.card==4)=true:=by simp[h4]
   rw[QWJ h4];simp only[b5,b4,eE,seval];cases a1:(v.kd != 11)
   ·simp only[QXX,eE,seval];refine aC co ?_;cases a2:v.oth
    ·simp only[QWz,Qa,seval];refine Qc (CoI m P lv o v) _ ⟨_,_,0,rfl,rfl,rfl,(by rfl),(by rfl),(by rfl),(by rfl),(by rfl),(by rfl),(by rfl),(by rfl)⟩ ?_;rintro _ st ⟨f,fr,i,rfl,rfl,hx,h3,h4,h5,h6,h9,m4,m5,m6⟩;have m5':=m5;have m6':=m6;simp only[PO.cells]at m5;simp only[vc]at m6;simp only[QXb,h6,h9,m6,eE,seval];by_cases hlt:i<v.list.length
     ·obtain⟨x,hi⟩:∃x,v.list[i]? = some x:=⟨v.list[i],QWh hlt⟩;have hg:=YI hi;have e1:=Qo i _ hlt (by have:=hv.nl;simp only[maxLen];omega);have c2:=hel x (hv.list x (QWt hi));rw[e0,Qw]at c2;simp only[Qv,PO.cells]at c2;simp only[Ql hlt,Qg,QXI,Qb,hg,QWN,QWX,h3,h4,h5,h6,h9,m4,m5,m6,eE,seval];refine aC c2 ?_;by_cases hy:QU m P o x=0
      ·rw[GK hlt ((UR hi).trans hy)]at hx;have d0:((0:Int) != 0)=false:=rfl;simp only[hy,d0,h9,e1,Qa,seval];exact⟨v.list.length-(i+1),by omega,_,_,i+1,rfl,rfl,hx,(by exact h3),(by exact h4),(by exact h5),(by exact h6),(by rfl),(by exact m4),(by exact m5'),(by exact m6')⟩
      ·rw[KO hlt (UR hi) hy]at hx;have d1:(QU m P o x != 0)=true:=by simp[hy]
       simp only[d1,hx,Qa,seval]
     ·rw[UN hlt]at hx;simp only[QA hlt,hx,Qa,seval]
    ·simp only[Qa,seval]
   ·simp only[QXW,Qa,seval]
  ·have b4:(o.card==4)=false:=by simp[h4]
   rw[QWu h4];simp only[b5,b4,eE,seval];refine aC cv ?_;simp only[Qa,seval]

end

def WT (g:PG)(sl:List (Int×V))(i:Nat):Int:=match sl[i]? with
 |none=>0
 |some x=>match Zg g x.1 with
  |none=>8
  |some o=>if (sl.take i).any (fun y=>y.1==x.1)=true then 9 else if (sl.take i).any (Jz g o)=true then 15 else 0

theorem Qak {m:PG→V→Int}{P:PL}{g:PG}{sl:List (Int×V)}{i:Nat}{x:Int×V}(h:sl[i]? = some x) :
  (WT g sl i≠0→Js m P g sl i=WT g sl i)∧(WT g sl i=0→∃o,Zg g x.1=some o∧Js m P g sl i=Xc m P o x.2):=by
 unfold WT Js;rw[h];dsimp only;cases ho:Zg g x.1 with
 |none=>exact⟨fun _=>rfl,fun h=>by simp at h⟩
 |some o=>
  dsimp only;cases(sl.take i).any (fun y=>y.1==x.1)
  ·cases(sl.take i).any (Jz g o)
   ·simp
   ·simp
  ·simp

theorem ZL {g:PG}{n:Int}{o:PO}(h:Zg g n=some o):o∈g.ops∧o.num=n:=by
 unfold Zg at h;exact⟨QX9 h,by simpa using List.find?_some h⟩

theorem Yf (g:PG)(n:Int):Gy (fun o=>o.num==n) g.ops=.tup [Qv ((Zg g n).getD Gx),.bool (Zg g n).isSome]:=rfl

section
variable {M:Nat}{P:PL}(hP:P.ok M)(hM:M≤140737488351232){m:PG→V→Int}{lv:Int}(g:PG)(hg:g.ok M)(hu:∀o∈g.ops,UO P o)(sl:List (Int×V))(hn:sl.length≤maxLen)(i:Nat)(hi:i<sl.length)(hv:∀x∈sl,x.2.ok M)

def SrI (g:PG)(o:PO)(sl:List (Int×V))(i:Nat)(n:Int)(k:Nat)(st:St):Prop :=
 ∃f fr j,st=⟨f,[fr],[]⟩∧k=i-j∧j≤i∧(sl.take j).any (fun y=>y.1==n)=false∧f 1=.list (sl.map V.sav)∧f 2=.int .i64 (i:Nat)∧f 3=.ptr 0 3 0∧f 7=.ptr 0 7 0∧f 9=.bool ((sl.take j).any (Jz g o))∧f 10=.int .i64 (j:Nat)∧fr 3=.cells g.cells∧fr 7=.cells o.cells∧∀s∈[11],(fr s).isRow=false

include hg hn hi in
theorem v44:Qi Tryz.prog 44 [Qp g,.list (sl.map V.sav),.int .i64 (i:Nat)] (.int .i64 (WT g sl i)):=by
 obtain⟨x,hx⟩:∃x,sl[i]? = some x:=⟨sl[i],QWh hi⟩;have hxm:=QWt hx;have hgi:=JQ hx;have co:=fun n=>y45 g hg.len n
 simp only[Yf]at co;have co1:=co x.1;unfold WT;rw[hx];dsimp only;simp only[Qp,PG.cells]at co co1;refine k44.fn (by simp) ?_;simp only[Qp,PG.cells,Qg,QXI,Qb,hgi,QWN,QWX,eE,seval];refine aC co1 ?_;cases ho:Zg g x.1 with
 |none=>
  simp only[QXQ,QW5,Gx,Qv,PO.cells,splice,QXp,QWD,QWQ,QXv,QXj,QWv,QXc,QXs,QXt,AV.leaf,eE,seval]
 |some o=>
  obtain⟨hom,hon⟩:=ZL ho;simp only[QXr,QX6,Qv,PO.cells,splice,QXp,QWD,QWQ,QXv,QXj,QWv,QXc,QXs,QXt,AV.leaf,eE,seval];refine Qc (SrI g o sl i x.1) _ ⟨_,_,0,rfl,rfl,QWo _,by simp,(by rfl),(by rfl),(by rfl),(by rfl),(by rfl),(by rfl),(by rfl),(by rfl),by simp<;>rfl⟩ ?_;rintro _ st ⟨f0,fr0,j,rfl,rfl,hji,hq,h10,h20,h30,h70,h90,h100,m30,m70,JX⟩;refine QN (a:=_) [11] JX ?_;intro f fr hf hm hn11;have h1:f 1=.list (sl.map V.sav):=by rw[hf,h10]<;>rfl
  have h2:f 2=.int .i64 (i:Nat):=by rw[hf,h20]<;>rfl
  have h3:f 3=.ptr 0 3 0:=by rw[hf,h30]<;>rfl
  have h7:f 7=.ptr 0 7 0:=by rw[hf,h70]<;>rfl
  have h9:f 9=.bool ((sl.take j).any (Jz g o)):=by rw[hf,h90]<;>rfl
  have h10':f 10=.int .i64 (j:Nat):=by rw[hf,h100]<;>rfl
  have m3:fr 3=.cells g.cells:=by rw[hm 3 (by decide),m30]<;>rfl
  have m7:fr 7=.cells o.cells:=by rw[hm 7 (by decide),m70]<;>rfl
  have n11:=hn11 11 (by decide);clear hf hm hn11 h10 h20 h30 h70 h90 h100 m30 m70 JX;have m3':=m3;have m7':=m7;simp only[PG.cells]at m3;simp only[PO.cells]at m7;simp only[h2,h10',Qa,seval];by_cases hlt:j<i
  ·obtain⟨y,hj⟩:∃y,sl[j]? = some y:=⟨sl[j]'(by omega),QWh (by omega)⟩;have hj':(sl.take i)[j]? = some y:=by rw[QWT,QWJ hlt];exact hj
   have hgj:=JQ hj;have e1:=Qo j i hlt (by omega);have co2:=co y.1;have ht:∀p:Int×V→Bool,(sl.take (j+1)).any p=((sl.take j).any p||p y):=fun p=>by
    rw[QX0,hj,List.any_append];simp
   have hun:Jz g o y=(o.union != -1&&(((Zg g y.1).getD Gx).union==o.union)):=rfl;simp only[Ql hlt,Qg,QXI,Qb,hgj,hgi,h1,h2,h10',eE,seval];cases a0:(y.1==x.1)
   ·simp only[Qg,QXI,Qb,hgj,h1,h3,h10',m3,eE,seval];refine aC co2 ?_;generalize (Zg g y.1).getD Gx=q at hun;generalize (Zg g y.1).isSome=qb;have fin:∀(f':Fr) (fr':Nat→Ob) (b:Bool),((sl.take j).any (Jz g o)||Jz g o y)=b→f' 1=.list (sl.map V.sav)→f' 2=.int .i64 (i:Nat)→f' 3=.ptr 0 3 0→f' 7=.ptr 0 7 0→f' 9=.bool b→f' 10=.int .i64 ((j+1:Nat):Int)→fr' 3=.cells g.cells→fr' 7=.cells o.cells→(∀s∈[11],(fr' s).isRow=false)→∃k,k<i-j∧SrI g o sl i x.1 k ⟨f',[fr'],[]⟩:=by
     intro f' fr' b hu b1 b2 b3 b7 b9 b10 c3 c7 c11;exact⟨i-(j+1),by omega,f',fr',j+1,rfl,rfl,by omega,by rw[ht,hq,a0];rfl,b1,b2,b3,b7,by rw[b9,ht,hu],b10,c3,c7,c11⟩
    cases ab:(sl.take j).any (Jz g o)
    ·rw[ab]at h9 fin;cases a1:(o.union != -1)
     ·rw[a1,QXM]at hun;simp only[Qv,PO.cells,a1,n11,h7,h9,h10',m7,e1,eE,seval];exact fin _ _ false (by rw[hun];rfl) (by exact h1) (by exact h2) (by exact h3) (by exact h7) (by rfl) (by rfl) (by exact m3') (by exact m7') (by simp<;>rfl)
     ·cases a2:(q.union==o.union)
      ·rw[a1,a2,QXT]at hun;simp only[Qv,PO.cells,a1,a2,n11,h7,h9,h10',m7,e1,eE,seval];exact fin _ _ false (by rw[hun];rfl) (by exact h1) (by exact h2) (by exact h3) (by exact h7) (by rfl) (by rfl) (by exact m3') (by exact m7') (by simp<;>rfl)
      ·rw[a1,a2,QXT]at hun;simp only[Qv,PO.cells,a1,a2,n11,h7,h9,h10',m7,e1,eE,seval];exact fin _ _ true (by rw[hun];rfl) (by exact h1) (by exact h2) (by exact h3) (by exact h7) (by rfl) (by rfl) (by exact m3') (by exact m7') (by simp<;>rfl)
    ·rw[ab]at h9 fin;simp only[Qv,PO.cells,n11,h9,h10',e1,eE,seval];exact fin _ _ true (by simp) (by exact h1) (by exact h2) (by exact h3) (by exact h7) (by rfl) (by rfl) (by exact m3') (by exact m7') (by simp<;>rfl)
   ·have hany:(sl.take i).any (fun y=>y.1==x.1)=true:=QX8.2 ⟨y,QWt hj',a0⟩;simp only[hany,Qa,seval]
  ·have e:j=i:=by omega
   subst e;simp only[QA hlt,hq,QWz,h9,Qa,seval];cases hb:(sl.take j).any (Jz g o)
   ·rw[hb]at h9;simp only[QWz,Qa,seval]
   ·rw[hb]at h9;simp only[Qa,seval]

end

def Fz (P:PL)(o:PO)(f:R):Bool:=o.kind==9&&o.card != 5&&f.wire==0&&decide ((f.bits:Int)≤2147483647) && !Wp P.enums o.target f.bits
def CB (f:R):Bool:=decide (f.num<1)||decide (f.num > 65535)||decide (f.wire<0)||decide (f.wire > 6)
def CC (f:R):Bool:=decide (f.wire≤2) && !(f.data==[])||decide (f.wire > 2) && !((f.bits:Int)==0)
def DG (f:R):Bool:=f.wire==3&&decide ((f.data.length:Int) > 4096)||decide ((f.data.length:Int) > 65536)
theorem Qal (P:PL)(g:PG)(f:R):JP P g f=if CB f=true then 1 else if CC f=true then 1 else if (!UP P g f)=true then 1 else if DG f=true then 3 else 0:=rfl
def UV (P:PL)(g:PG)(f:R):Bool:=!CB f && !CC f&&UP P g f
theorem PM (P:PL)(g:PG)(f:R):JP P g f=if (!UV P g f)=true then 1 else if DG f=true then 3 else 0:=by
 rw[Qal];unfold UV;cases CB f<;>cases CC f<;>cases UP P g f<;>simp

section
variable {M:Nat}{P:PL}(hP:P.ok M)

theorem PP {o:PO}{x:PE}(w:R)(ho:0≤o.target∧o.target<(P.enums.length:Int))(hx:P.enums[o.target.toNat]? = some x)(hopn:x.opn=true):Fz P o w=false:=by
 unfold Fz;cases hb:decide ((w.bits:Int)≤2147483647)
 ·simp
 ·have:Wp P.enums o.target w.bits=true:=by
   unfold Wp;rw[QWJ ⟨ho.1,ho.2,by have:=of_decide_eq_true hb;omega⟩,hx];simp[hopn]
  rw[this];simp

set_option maxHeartbeats 2000000 in
include hP in
theorem v48 (g:PG)(hg:g.ok M)(hu:∀o∈g.ops,UO P o)(w:R):Qi Tryz.prog 48 [P.av,Qp g,w.av] (.bool (UV P g w)):=by
 have e0:P.av=.agg [.list (P.progs.map Qp),.list (P.enums.map Qr)]:=rfl;have co:=y45 g hg.len w.num;rw[Yf]at co;simp only[Qp,PG.cells]at co;have nd:(w.data != [])=!(w.data==[]):=rfl;have nb:((w.bits:Int) != 0)=!((w.bits:Int)==0):=rfl;have hgt:decide (w.wire > 2)=!decide (w.wire≤2):=(by rw[QXa];simp only[QWl,QXe,QYb];omega);unfold UV CB CC;rw[hgt];refine k48.fn (by simp) ?_;simp only[e0,Qp,PG.cells,R.av,eE,seval];cases r1:decide (w.num<1)
 case true=>simp only[QXW,QXU,QXM,Qa,seval]
 cases r2:decide (w.num > 65535)
 case true=>simp only[r2,QXW,QXX,QXU,QXM,eE,seval]
 cases r3:decide (w.wire<0)
 case true=>simp only[r2,r3,QXW,QXX,QXU,QXM,eE,seval]
 cases r4:decide (w.wire > 6)
 case true=>simp only[r2,r3,r4,QXX,QXU,QXM,eE,seval]
 simp only[r2,r3,r4,QXX,QXo,QXT,eE,seval];cases s1:decide (w.wire≤2)<;>cases s2:((w.bits:Int)==0)<;>cases s3:(w.data==[])
 all_goals(simp only[hgt,s1,s2,s3,nb,QL,QXo,QXU,QXT,QXu,QYc,QXM,QXX,QYd,eE,seval])
 all_goals(
  refine aC co ?_;unfold UP;cases ho:Zg g w.num with
  |none=>
   simp only[QXQ,QW5,Gx,Qv,PO.cells,splice,QXp,QWD,QWQ,QXv,QXj,QWv,QXc,QXs,QXt,AV.leaf,eE,seval]
  |some o=>
   have hom:=(ZL ho).1;have hu:=hu o hom;have ha:=y76 P hP o.target w.bits;rw[e0]at ha;simp only[QXr,QX6,Qv,PO.cells,splice,QXp,QWD,QWQ,QXv,QXj,QWv,QXc,QXs,QXt,AV.leaf,eE,seval];by_cases hk:o.kind=9
   ·have a1:(o.kind==9)=true:=by simp[hk]
    obtain⟨t0,t1⟩:=hu.enm hk;obtain⟨i,hi⟩:=QXV t0;have hlt:i<P.enums.length:=by omega
    obtain⟨x,hx⟩:∃x,P.enums[i]? = some x:=⟨P.enums[i],QWh hlt⟩;have hxa:(P.enums.map Qr)[i]? = some (.agg x.cells):=by simp[hx,Qr]
    simp only[PE.cells]at hxa;have hop:x.opn=true→Fz P o w=false:=fun h=>PP w ⟨t0,t1⟩ (by rw[hi,QXI];exact hx) h
    unfold Fz at hop;rw[hi]at ha hop;rw[hi];rw[a1,QXT]at hop;simp only[a1,Qg,QXI,Qb,hxa,QXT,eE,seval];cases ax:x.opn
    ·cases a2:(o.card != 5)
     ·simp only[a2,QXo,QXM,eE,seval]
     cases a3:(w.wire==0)
     ·simp only[a2,a3,QXo,QXT,QXM,eE,seval]
     cases a4:decide ((w.bits:Int)≤2147483647)
     ·simp only[a2,a3,a4,QXo,QXT,QXM,eE,seval]
     simp only[a2,a3,a4,QXo,QXT,eE,seval];refine aC ha ?_;simp only[Qa,seval]
    ·simp only[hop ax,QXU,Qa,seval]
   ·have a1:(o.kind==9)=false:=by simp[hk]
    simp only[a1,QXM,Qa,seval])

def SeI (v:V)(n:Int)(k:Nat)(st:St):Prop :=
 ∃f fr i,st=⟨f,[fr],[]⟩∧k=v.slots.length-i∧i≤v.slots.length∧(v.slots.take i).any (fun y=>y.1==n)=false∧f 1=.int .i64 n∧f 2=.ptr 0 2 0∧f 5=.int .i64 (i:Nat)∧fr 2=.cells (vc v)

theorem v47 (v:V)(hn:v.slots.length≤maxLen)(n:Int):Qi Tryz.prog 47 [v.av,.int .i64 n] (.bool (v.slots.any fun y=>y.1==n)):=by
 rw[Qw];refine k47.fn (by simp) ?_;simp only[eE,seval];refine Qc (SeI v n) _ ⟨_,_,0,rfl,rfl,QWo _,by simp,(by rfl),(by rfl),(by rfl),(by rfl)⟩ ?_;rintro _ st ⟨f,fr,i,rfl,rfl,hil,hq,h1,h2,h5,m2⟩;have m2':=m2;simp only[vc]at m2;simp only[QXb,h2,h5,m2,eE,seval];by_cases hlt:i<v.slots.length
 ·obtain⟨y,hi⟩:∃y,v.slots[i]? = some y:=⟨v.slots[i],QWh hlt⟩;have hg:=JQ hi;have e1:=Qo i _ hlt hn;have ht:(v.slots.take (i+1)).any (fun y=>y.1==n)=(y.1==n):=by
   rw[QX0,hi,List.any_append,hq];simp
  simp only[Ql hlt,Qg,QXI,Qb,hg,h1,h2,h5,m2,eE,seval];cases a:(y.1==n)
  ·simp only[h5,e1,Qa,seval];exact⟨v.slots.length-(i+1),by omega,_,_,i+1,rfl,rfl,by omega,by rw[ht,a],(by exact h1),(by exact h2),(by rfl),(by exact m2')⟩
  ·have hany:(v.slots.any fun y=>y.1==n)=true:=QX8.2 ⟨y,QWt hi,a⟩;simp only[hany,Qa,seval]
 ·have hq':(v.slots.any fun y=>y.1==n)=false:=by rw[←hq,QWO (by omega)]
  simp only[QA hlt,hq',Qa,seval]

end

def HF (sl:List (Int×V))(o:PO):Bool:=o.card==1 && !sl.any fun y=>y.1==o.num
theorem Vr (g:PG)(sl:List (Int×V)):YD g sl=g.ops.any (HF sl):=rfl

theorem YJ {l:List R}{i:Nat}{x:R}(h:l[i]? = some x):(l.map R.av)[i]? = some (.agg [.int .i64 x.num,.int .i64 x.wire,.int .u64 (x.bits:Nat),.str x.data]):=by
 rw[QXE,h,QW6,R.av]
theorem QQR {l:List PO}{i:Nat}{o:PO}(h:l[i]? = some o):(l.map fun o=>AV.agg o.cells)[i]? = some (.agg [.int .i64 o.num,.str o.name,.str o.alias,.int .i64 o.card,.int .i64 o.key,.int .i64 o.kind,.int .i64 o.target,.int .i64 o.union]):=by
 rw[QXE,h,QW6,PO.cells]

section
variable {M:Nat}{P:PL}(hP:P.ok M){m:PG→V→Int}{lv:Int}(g:PG)(hg:g.ok M)(v:V)(hv:v.ok M)

end
open So

theorem Yg {f:Nat→Int}:∀ {k i:Nat},(∀j,i≤j→j<i+k→f j=0)→XR f k i=0
 |0,_,_=>rfl
 |k+1,i,h=>by
  rw[XR,QWJ (h i (QWe _) (by omega))];exact Yg fun j h1 h2=>h j (by omega) (by omega)

theorem JZ {α:Type}{l:List α}{p:α→Bool}{i:Nat}(hi:i≤l.length):(l.take i).any p=false↔∀j (h:j<i),p (l[j]'(by omega))=false:=by
 rw[List.any_eq_false]
 constructor
 ·intro h j hj;have:=h (l[j]'(by omega)) (QWt (i:=j) (by rw[QWT,QWJ hj,QWh (by omega)]))
  simpa using this
 ·intro h x hx;obtain⟨j,hj⟩:=QWr.1 hx;have hl:=(QWg.1 hj).1;rw[QXd]at hl;rw[QWT,QWJ (by omega)]at hj;obtain⟨hj1,rfl⟩:=QWg.1 hj;have:=h j (by omega);simp[this]

section
variable {m:PG→V→Int}{P:PL}

def SOK (m:PG→V→Int)(P:PL)(g:PG)(sl:List (Int×V)):Prop :=
 (∀x∈sl,∃o,Zg g x.1=some o∧Xc m P o x.2=0)∧sl.Pairwise (fun y x=>(y.1==x.1)=false)∧sl.Pairwise (fun y x=>∀o,Zg g x.1=some o→Jz g o y=false)

theorem Qam {g:PG}{sl:List (Int×V)}:XR (Js m P g sl) sl.length 0=0↔SOK m P g sl:=by
 have key:∀i (hi:i<sl.length),Js m P g sl i=0↔∃o,Zg g sl[i].1=some o∧(sl.take i).any (fun y=>y.1==sl[i].1)=false∧(sl.take i).any (Jz g o)=false∧Xc m P o sl[i].2=0:=by
  intro i hi;unfold Js;rw[QWh hi];dsimp only;cases Zg g sl[i].1 with
  |none=>simp
  |some o=>
   simp only[QWF,exists_eq_left'];cases(sl.take i).any (fun y=>y.1==sl[i].1)<;>cases(sl.take i).any (Jz g o)<;>simp only[QWz,QYh,if_true,if_false,QW7,false_and,iff_false]<;>omega
 constructor
 ·intro h;have hz:∀i (hi:i<sl.length),_:=fun i hi=>(key i hi).1 (Wq h i (QWo _) (by omega))
  refine⟨fun x hx=>?_,?_,?_⟩
  ·obtain⟨i,hi,rfl⟩:=QYm hx;obtain⟨o,h1,_,_,h4⟩:=hz i hi;exact⟨o,h1,h4⟩
  ·rw[QYj];intro i j hi hj hij;obtain⟨o,_,h2,_,_⟩:=hz j hj;exact(JZ (by omega)).1 h2 i hij
  ·rw[QYj];intro i j hi hj hij o ho;obtain⟨o',h1,_,h3,_⟩:=hz j hj;rw[h1]at ho;cases ho;exact(JZ (by omega)).1 h3 i hij
 ·rintro⟨h1,h2,h3⟩;refine Yg fun i _ hi=>?_
  rw[QWW]at hi;obtain⟨o,ho,hf⟩:=h1 sl[i] (QW8 hi);rw[QYj]at h2 h3;exact(key i hi).2 ⟨o,ho,(JZ (by omega)).2 fun j hj=>h2 j i (by omega) hi hj,(JZ (by omega)).2 fun j hj=>h3 j i (by omega) hi hj o ho,hf⟩

def EOK (m:PG→V→Int)(P:PL)(o:PO)(ps:List (V×V)):Prop :=
 (∀x∈ps,x.1.one P o.key (-1)=0∧QU m P o x.2=0)∧ps.Pairwise fun q p=>ZJ q.1 p.1=false

theorem KD {o:PO}{ps:List (V×V)}:XR (YC m P o ps) ps.length 0=0↔EOK m P o ps:=by
 have key:∀i (hi:i<ps.length),YC m P o ps i=0↔(ps[i].1.one P o.key (-1)=0∧(ps.take i).any (fun q=>ZJ q.1 ps[i].1)=false∧QU m P o ps[i].2=0):=by
  intro i hi;rw[UQ (QWh hi)];by_cases hz:ps[i].1.one P o.key (-1)=0
  ·rw[QWJ hz];cases(ps.take i).any (fun q=>ZJ q.1 ps[i].1)<;>simp[hz]
  ·rw[QWu hz];simp[hz]
 constructor
 ·intro h;have hz:∀i (hi:i<ps.length),_:=fun i hi=>(key i hi).1 (Wq h i (QWo _) (by omega))
  refine⟨fun x hx=>?_,?_⟩
  ·obtain⟨i,hi,rfl⟩:=QYm hx;exact⟨(hz i hi).1,(hz i hi).2.2⟩
  ·rw[QYj];intro i j hi hj hij;exact(JZ (by omega)).1 (hz j hj).2.1 i hij
 ·rintro⟨h1,h2⟩;refine Yg fun i _ hi=>?_
  rw[QWW]at hi;rw[QYj]at h2;exact(key i hi).2 ⟨(h1 _ (QW8 hi)).1,(JZ (by omega)).2 fun j hj=>h2 j i (by omega) hi hj,(h1 _ (QW8 hi)).2⟩

theorem KE {o:PO}{l:List V}:XR (DA m P o l) l.length 0=0↔∀x∈l,QU m P o x=0:=by
 constructor
 ·intro h x hx;obtain⟨i,hi,rfl⟩:=QYm hx;have:=Wq h i (QWo _) (by omega)
  rwa [UR (QWh hi)]at this
 ·intro h;refine Yg fun i _ hi=>?_
  rw[QWW]at hi;rw[UR (QWh hi)];exact h _ (QW8 hi)
theorem Qan {g:PG}{l:List R}:XR (Jt P g l) l.length 0=0↔∀x∈l,JP P g x=0:=by
 constructor
 ·intro h x hx;obtain⟨i,hi,rfl⟩:=QYm hx;have:=Wq h i (QWo _) (by omega)
  rwa [HC (QWh hi)]at this
 ·intro h;refine Yg fun i _ hi=>?_
  rw[QWW]at hi;rw[HC (QWh hi)];exact h _ (QW8 hi)

theorem JR {g:PG}{v:V}:YE m P g v=0↔SOK m P g v.slots∧YD g v.slots=false∧∀x∈v.raws,JP P g x=0:=by
 unfold YE;rw[←Qam,←Qan];split
 ·rename_i h;cases YD g v.slots<;>simp[h]
 ·rename_i h;simp[h]
end

theorem ZZ {P:PL}{n:Nat}{g:PG}{v:V}:XJ P (n+1) g v=0↔(v.kd=10∧v.oth=false)∧SOK (XJ P n) P g v.slots∧YD g v.slots=false∧∀x∈v.raws,JP P g x=0:=by
 rw[←JR];unfold XJ;by_cases h:v.kd=10
 ·cases ho:v.oth<;>simp[h]
 ·simp[h]

theorem BO {v:V}(h:v.kd≠6):v.nsc=v:=by
 cases v;unfold V.nsc Xt;rw[QWu fun g=>h g.1];rfl
theorem QHQ {P:PL}{tg:Int}{t:List UInt8}{l p s r:List AV}(b b':Nat):Un P 6 tg 6 b t l p s r=Un P 6 tg 6 b' t l p s r:=by
 have k1:(Zc 6||(6:Int)==10||(6:Int)==11||(6:Int)==12)=false:=by decide
 have k2:((6:Int)==9)=false:=rfl;have t6:Zc 6=false:=rfl;have f6:∀b,Yx 6 b=true:=fun b=>by
  unfold Yx;rw[QWu (by decide),QWu (by decide),QWu (by decide),QWu (by decide)]
 have h1:oth 6 b t l p s r=oth 6 b' t l p s r:=by
  unfold oth;rw[k1,QYc,QYc]
 have h2:Xk 6 6 b t l p s r=Xk 6 6 b' t l p s r:=by
  unfold Xk;rw[f6,f6,QWu (by rw[t6];exact Bool.false_ne_true),QWu (by rw[t6];exact Bool.false_ne_true)]
 unfold Un;rw[h1,h2,k2,QXM,QXM]
theorem Vs {P:PL}{k tg:Int}{v:V}(h:v.one P k tg=0):v.nsc.one P k tg=0:=by
 by_cases hk:v.kd=6
 ·have e:=(Uo h).1;rw[←h];unfold V.one;have e1:v.nsc.kd=6:=hk;rw[e1,hk,show k=6 by omega];exact QHQ _ _
 ·rw[BO hk];exact h

theorem XO {g:PG}(hd:g.ops.Pairwise fun a b=>a.num<b.num){o:PO}(ho:o∈g.ops):Zg g o.num=some o:=by
 unfold Zg
 revert hd ho
 generalize g.ops=ops;intro hd ho
 induction ops with
 |nil=>cases ho
 |cons x l ih=>
  obtain⟨h1,h2⟩:=QXP.1 hd;rw[QX4];rcases QXD.1 ho with rfl|ho
  ·simp
  ·have:=h1 o ho;rw[show(x.num==o.num)=false by simp;omega];exact ih h2 ho

section
variable {m:PG→V→Int}{nm:PG→V→V}{P:PL}

theorem HG (h:∀g∈P.progs,∀v,m g v=0→m g (nm g v)=0){o:PO}(ho:UO P o){v:V}(hv:QU m P o v=0):QU m P o (Xu nm P o v)=0:=by
 unfold QU Xu at *;by_cases hk:o.kind=10
 ·rw[QWJ hk]at hv;rw[QWJ hk,QWJ hk];obtain⟨t0,t1⟩:=ho.tgt hk;refine h _ ?_ _ hv;unfold QR;rw[QWh (by omega:o.target.toNat<P.progs.length)];exact QW8 _
 ·rw[QWu hk]at hv;rw[QWu hk,QWu hk];exact Vs hv

theorem Fe {o:PO}(ho:o.card=5→Zb o.key)(h5:o.card=5){ps:List (V×V)}(h:EOK m P o ps):∀p∈ps,p.1.nsc=p.1:=by
 intro p hp;have e:=(Uo (h.1 p hp).1).1;refine BO ?_;have:=ho h5;unfold Zb at this;omega

theorem Sd (h:∀g∈P.progs,∀v,m g v=0→m g (nm g v)=0){o:PO}(ho:UO P o){v:V}(hv:Xc m P o v=0):Xc m P o (XB nm P o v)=0:=by
 unfold Xc XB at *;by_cases h5:o.card=5
 ·have n4:¬o.card=4:=by omega
  rw[QWJ h5]at hv;rw[QWJ h5,QWu n4,QWJ h5];split at hv
  ·omega
  have hE:=KD.1 hv;have hk:=Fe ho.key h5 hE;rw[QWu (by simp[V.kd,V.oth,oth,V.bits,V.text,V.list,V.pairs,V.slots,V.raws,Zc])];refine KD.2 ?_;have hp:(Q0 o.key v.pairs).Perm v.pairs:=Q3 _;have hm:∀p∈Q0 o.key v.pairs,p∈v.pairs:=fun p h=>hp.mem_iff.1 h
  refine⟨fun x hx=>?_,?_⟩
  ·obtain⟨p,hp,rfl⟩:=QXB.1 hx;have h1:=hE.1 p (hm p hp);exact⟨Vs h1.1,HG h ho h1.2⟩
  ·show(List.map _ (Q0 o.key v.pairs)).Pairwise _;rw[List.pairwise_map];have h2:(Q0 o.key v.pairs).Pairwise fun q p=>ZJ q.1 p.1=false:=(hp.pairwise_iff fun {a b} h=>by unfold ZJ at *;rw[←h,Bool.beq_comm (a:=b.1.bits),Bool.beq_comm (a:=b.1.text)]).2 hE.2
   refine h2.imp_of_mem fun {a b} ha hb h=>?_
   dsimp only;rw[hk a (hm a ha),hk b (hm b hb)];exact h
 ·rw[QWu h5]at hv;rw[QWu h5];by_cases h4:o.card=4
  ·rw[QWJ h4]at hv;rw[QWJ h4,QWJ h4];split at hv
   ·omega
   have hL:=KE.1 hv;rw[QWu (by simp[V.kd,V.oth,oth,V.bits,V.text,V.list,V.pairs,V.slots,V.raws,Zc])];refine KE.2 fun x hx=>?_
   obtain⟨y,hy,rfl⟩:=QXB.1 hx;exact HG h ho (hL y hy)
  ·rw[QWu h4]at hv;rw[QWu h4,QWu h4,QWu h5];exact HG h ho hv

theorem Xv {sl:List (Int×V)}{o:PO}{x:Int×V}(h:x∈QV nm P sl o):x.1=o.num∧∃s∈sl,s.1=o.num∧x.2=XB nm P o s.2:=by
 unfold QV at h;cases hf:sl.find? (fun s=>s.1==o.num)with
 |none=>rw[hf]at h;cases h
 |some s=>
  rw[hf]at h;dsimp only at h;have h1:s.1=o.num:=by simpa using List.find?_some hf
  split at h
  ·simp only[QXD,QYn,or_false]at h;subst h;exact⟨rfl,s,QX9 hf,h1,rfl⟩
  ·cases h

theorem YK {sl:List (Int×V)}{o:PO}{p:Int×V→Int×V→Prop}:(QV nm P sl o).Pairwise p:=by
 unfold QV;split
 ·exact .nil
 ·split
  ·exact List.pairwise_singleton _ _
  ·exact .nil

theorem PQ (h:∀g∈P.progs,∀v,m g v=0→m g (nm g v)=0){g:PG}(hd:g.ops.Pairwise fun a b=>a.num<b.num)(hu:∀o∈g.ops,UO P o){v:V}(hv:YE m P g v=0):YE m P g (W6 nm P g v)=0:=by
 obtain⟨⟨s1,s2,s3⟩,hmis,hraw⟩:=JR.1 hv;have uniq:∀ {a b:Int×V},a∈v.slots→b∈v.slots→a.1=b.1→a=b:=by
  intro a b ha hb e;obtain⟨i,hi,rfl⟩:=QYm ha;obtain⟨j,hj,rfl⟩:=QYm hb;rw[QYj]at s2;rcases Nat.lt_trichotomy i j with c|c|c
  ·have:=s2 i j hi hj c;rw[e]at this;simp at this
  ·subst c;rfl
  ·have:=s2 j i hj hi c;rw[e]at this;simp at this
 refine JR.2 ⟨⟨fun x hx=>?_,?_,?_⟩,?_,fun x hx=>?_⟩
 ·obtain⟨o,ho,hx⟩:=QW1.1 hx;obtain⟨e,s,hs,e1,e2⟩:=Xv hx;obtain⟨o',h1,h2⟩:=s1 s hs;rw[e1,XO hd ho]at h1;cases h1;exact⟨o,by rw[e];exact XO hd ho,by rw[e2];exact Sd h (hu o ho) h2⟩
 ·show(g.ops.flatMap (QV nm P v.slots)).Pairwise _;rw[QYo];refine⟨fun _ _=>YK,hd.imp fun {a b} hab x hx y hy=>?_⟩;have e1:=(Xv hx).1;have e2:=(Xv hy).1;simp;omega
 ·show(g.ops.flatMap (QV nm P v.slots)).Pairwise _;rw[QYo];refine⟨fun _ _=>YK,(hd.imp_of_mem fun {a b} ha hb hab x hx y hy o ho=>?_)⟩;obtain⟨e1,s,hs,es,_⟩:=Xv hx;obtain⟨e2,t,ht,et,_⟩:=Xv hy;rw[e2,XO hd hb]at ho;cases ho;have hst:s≠t:=fun e=>by rw[e,et]at es;omega
  obtain⟨i,hi,rfl⟩:=QYm hs;obtain⟨j,hj,rfl⟩:=QYm ht;rw[QYj]at s3;have hx1:Zg g x.1=some a:=by rw[e1];exact XO hd ha
  unfold Jz;rw[hx1];rcases Nat.lt_trichotomy i j with c|c|c
  ·have:=s3 i j hi hj c b (by rw[et];exact XO hd hb);unfold Jz at this;rw[es,XO hd ha]at this;exact this
  ·subst c;exact absurd rfl hst
  ·have:=s3 j i hj hi c a (by rw[es];exact XO hd ha);unfold Jz at this;rw[et,XO hd hb]at this;simp only[QXr,QYf,bne_eq_false_iff_eq,QXY]at this ⊢;rcases this with e|e
   ·by_cases c:b.union = -1
    ·exact .inl c
    ·exact .inr fun g=>c (by omega)
   ·exact .inr fun g=>e g.symm
 ·have hm:=hmis;rw[Vr,List.any_eq_false]at hm ⊢;intro o ho;have:=hm o ho;unfold HF at this ⊢;by_cases hc:o.card=1
  ·have hb:(o.card==1)=true:=by simp[hc]
   rw[hb,QXT,Bool.not_eq_true,Bool.not_eq_false']at this;rw[hb,QXT,Bool.not_eq_true,Bool.not_eq_false'];obtain⟨s,hs,e⟩:=QX8.1 this;obtain⟨t,ht⟩:∃t,v.slots.find? (fun s=>s.1==o.num)=some t:=by
    cases hf:v.slots.find? (fun s=>s.1==o.num)with
    |none=>exact absurd e (by simpa using List.find?_eq_none.1 hf s hs)
    |some t=>exact⟨t,rfl⟩
   refine QX8.2 ⟨(o.num,XB nm P o t.2),QW1.2 ⟨o,ho,?_⟩,by simp⟩;unfold QV;rw[ht];dsimp only;rw[QWJ (by simp[hc])];simp
  ·have hb:(o.card==1)=false:=by simp[hc]
   rw[hb,QXM];simp
 ·exact hraw x ((Q3 v.raws).mem_iff.1 hx)

end

theorem YL {P:PL}(hU:Y0 P)(hr:Kd P):∀(n:Nat) (g:PG),g∈P.progs→∀v:V,XJ P n g v=0→XJ P n g (nrm P n g v)=0
 |0,_,_,v,h=>by
  unfold XJ at h;split at h<;>omega
 |n+1,g,hg,v,h=>by
  have hb:=JR.2 (ZZ.1 h).2;refine ZZ.2 ⟨⟨rfl,?_⟩,JR.1 (PQ (fun g hg v h=>YL hU hr n g hg v h) (hr g hg) (hU g hg) hb)⟩;simp[V.oth,oth,nrm,W6,V.kd,V.bits,V.text,V.list,V.pairs,V.slots,V.raws,Zc]

theorem NH (k:Int)(b:Nat):Xt k (Xt k b)=Xt k b:=by
 unfold Xt;by_cases h:k=6∧Ye b=0
 ·rw[QWJ h,QWJ ⟨h.1,by decide⟩]
 ·rw[QWu h,QWu h]

theorem Vt:∀v:V,v.nsc.nsc=v.nsc
 |.mk k b t l p s r=>by
  show V.mk k (Xt k (Xt k b)) t l p s r=V.mk k (Xt k b) t l p s r;rw[NH]

theorem GN {nm:PG→V→V}{P:PL}{sl:List (Int×V)}:∀ {ops:List PO},(ops.Pairwise fun a b=>a.num<b.num)→∀o∈ops,(ops.flatMap (QV nm P sl)).find? (fun s=>s.1==o.num)=(QV nm P sl o).head?
 | [],_,_,h=>by cases h
 |x :: ops,hd,o,ho=>by
  obtain⟨h1,h2⟩:=QXP.1 hd;have hn:∀o':PO,o'.num≠o.num→(QV nm P sl o').find? (fun s=>s.1==o.num)=none:=fun o' e=>by
   rw[List.find?_eq_none];intro s hs;rw[(Xv hs).1]
   simpa using e
  have hs:∀o':PO,o'.num=o.num→∀l:List (Int×V),(∀s∈l,s.1=o'.num)→l.find? (fun s=>s.1==o.num)=l.head?:=fun o' e l hl=>by
   cases l with
   |nil=>rfl
   |cons s l=>
    rw[QX4,hl s (by simp),e];simp
  rw[QXK,List.find?_append];rcases QXD.1 ho with rfl|ho
  ·rw[hs o rfl _ fun s h=>(Xv h).1];cases hh:(QV nm P sl o).head? with
   |some s=>rfl
   |none=>
    rw[Option.none_or,List.find?_eq_none];intro s hs;obtain⟨o',ho',hs⟩:=QW1.1 hs;have:=h1 o' ho';rw[(Xv hs).1];simp;omega
  ·have:=h1 o ho;rw[hn x (by omega),Option.none_or];exact GN h2 o ho

section
variable {m:PG→V→Int}{nm:PG→V→V}{P:PL}

theorem HH (h:∀g∈P.progs,∀v,m g v=0→nm g (nm g v)=nm g v){o:PO}(ho:UO P o){v:V}(hv:QU m P o v=0):Xu nm P o (Xu nm P o v)=Xu nm P o v:=by
 unfold QU Xu at *;by_cases hk:o.kind=10
 ·rw[QWJ hk]at hv;rw[QWJ hk,QWJ hk];obtain⟨t0,t1⟩:=ho.tgt hk;refine h _ ?_ _ hv;unfold QR;rw[QWh (by omega:o.target.toNat<P.progs.length)];exact QW8 _
 ·rw[QWu hk,QWu hk];exact Vt v

theorem BP (h:∀g∈P.progs,∀v,m g v=0→nm g (nm g v)=nm g v){o:PO}(ho:UO P o){v:V}(hv:Xc m P o v=0):XB nm P o (XB nm P o v)=XB nm P o v:=by
 unfold Xc XB at *;by_cases h5:o.card=5
 ·have n4:¬o.card=4:=by omega
  rw[QWJ h5]at hv;rw[QWu n4,QWJ h5,QWu n4,QWJ h5];split at hv
  ·omega
  have hE:=KD.1 hv;have hk:=Fe ho.key h5 hE;have hp:(Q0 o.key v.pairs).Perm v.pairs:=Q3 _;have hm:∀p∈Q0 o.key v.pairs,p∈v.pairs:=fun p h=>hp.mem_iff.1 h
  have hF:(Q0 o.key v.pairs).map (fun p=>(p.1.nsc,Xu nm P o p.2))=(Q0 o.key v.pairs).map fun p=>(p.1,Xu nm P o p.2) :=
   QX2 fun p h=>by rw[hk p (hm p h)]
  have hs:X6 (fun x y:V×V=>kl o.key x.1 y.1) (Q0 o.key v.pairs):=XS (YH o.key) _;have hS:Q0 o.key ((Q0 o.key v.pairs).map fun p=>(p.1,Xu nm P o p.2))=(Q0 o.key v.pairs).map fun p=>(p.1,Xu nm P o p.2):=by
   refine HD ?_;unfold X6 at hs ⊢;rw[List.pairwise_map];exact hs
  rw[hF];show V.mk 12 0 [] [] ((Q0 o.key ((Q0 o.key v.pairs).map fun p=>(p.1,Xu nm P o p.2))).map fun p=>(p.1.nsc,Xu nm P o p.2)) [] []=_;rw[hS,QX3];congr 1
  refine QX2 fun p h'=>?_
  simp only[Function.comp];rw[hk p (hm p h'),HH h ho (hE.1 p (hm p h')).2]
 ·rw[QWu h5]at hv;by_cases h4:o.card=4
  ·rw[QWJ h4]at hv;rw[QWJ h4,QWJ h4];split at hv
   ·omega
   have hL:=KE.1 hv;show V.mk 11 0 [] ((v.list.map (Xu nm P o)).map (Xu nm P o)) [] [] []=_;rw[QX3];congr 1
   exact QX2 fun x hx=>HH h ho (hL x hx)
  ·rw[QWu h4]at hv;rw[QWu h4,QWu h5,QWu h4,QWu h5];exact HH h ho hv

theorem PR (h:∀g∈P.progs,∀v,m g v=0→nm g (nm g v)=nm g v){g:PG}(hd:g.ops.Pairwise fun a b=>a.num<b.num)(hu:∀o∈g.ops,UO P o){v:V}(hv:YE m P g v=0):W6 nm P g (W6 nm P g v)=W6 nm P g v:=by
 obtain⟨⟨s1,_,_⟩,_,_⟩:=JR.1 hv;have hraw:XU (XU v.raws)=XU v.raws:=HD (XS DD _);have hsl:∀o∈g.ops,QV nm P (g.ops.flatMap (QV nm P v.slots)) o=QV nm P v.slots o:=by
  intro o ho;rw[show QV nm P (g.ops.flatMap (QV nm P v.slots)) o=(match (g.ops.flatMap (QV nm P v.slots)).find? (fun s=>s.1==o.num)with
   |none=>[]
   |some s=>if (decide (o.card<3) || !(XB nm P o s.2).emp)=true then [(o.num,XB nm P o s.2)]else [])from rfl,GN hd o ho]
  unfold QV;cases hf:v.slots.find? (fun s=>s.1==o.num)with
  |none=>rfl
  |some s=>
   have hs1:s.1=o.num:=by simpa using List.find?_some hf
   obtain⟨o',e1,e2⟩:=s1 s (QX9 hf);rw[hs1,XO hd ho]at e1;cases e1;have hi:=BP h (hu o ho) e2;dsimp only;by_cases hc:(decide (o.card<3) || !(XB nm P o s.2).emp)=true
   ·rw[QWJ hc];show(if (decide (o.card<3) || !(XB nm P o (XB nm P o s.2)).emp)=true then [(o.num,XB nm P o (XB nm P o s.2))]else [])=_;rw[hi,QWJ hc]
   ·rw[QWu hc];rfl
 have hall:∀ {l:List PO} {a b:PO→List (Int×V)},(∀o∈l,a o=b o)→l.flatMap a=l.flatMap b:=by
  intro l a b
  induction l with
  |nil=>intro _;rfl
  |cons x l ih=>
   intro h;rw[QXK,QXK,h x (by simp),ih fun o ho=>h o (by simp[ho])]
 show V.mk 10 0 [] [] [] (g.ops.flatMap (QV nm P (g.ops.flatMap (QV nm P v.slots)))) (XU (XU v.raws))=_;rw[hraw,hall hsl];rfl

end

theorem BQ {P:PL}(hU:Y0 P)(hr:Kd P):∀(n:Nat) (g:PG),g∈P.progs→∀v:V,XJ P n g v=0→nrm P n g (nrm P n g v)=nrm P n g v
 |0,_,_,_,_=>rfl
 |n+1,g,hg,_,h=>PR (fun g hg v h=>BQ hU hr n g hg v h) (hr g hg) (hU g hg) (JR.2 (ZZ.1 h).2)

def JS (l:List (Int×V)):List (Int×V):=QD (fun x y=>decide (x.1<y.1)) l
theorem QQS:SW fun x y:Int×V=>decide (x.1<y.1) where
 irr x:=by simp
 tr x y z h k:=by simp only[QWl]at *;omega
 nt x y z h k:=by simp only[QYb]at *;omega

theorem PT:∀ {a b:List (Int×V)},(a.Pairwise fun x y=>x.1<y.1)→(b.Pairwise fun x y=>x.1<y.1)→(∀x,x∈a↔x∈b)→a=b
 | [],[],_,_,_=>rfl
 | [],y :: b,_,_,h=>by have:=(h y).2 (by simp);cases this
 |x :: a,[],_,_,h=>by have:=(h x).1 (by simp);cases this
 |x :: a,y :: b,ha,hb,h=>by
  obtain⟨a1,a2⟩:=QXP.1 ha;obtain⟨b1,b2⟩:=QXP.1 hb;have e:x=y:=by
   rcases QXD.1 ((h x).1 (by simp))with e|e
   ·exact e
   ·rcases QXD.1 ((h y).2 (by simp))with e'|e'
    ·exact e'.symm
    ·have:=b1 x e;have:=a1 y e';omega
  subst e;congr 1
  refine PT a2 b2 fun z=>?_
  have hz:=h z;simp only[QXD]at hz
  constructor
  ·intro hm;rcases hz.1 (.inr hm)with e|e
   ·subst e;have:=a1 z hm;omega
   ·exact e
  ·intro hm;rcases hz.2 (.inr hm)with e|e
   ·subst e;have:=b1 z hm;omega
   ·exact e

section
variable {m:PG→V→Int}(nm:PG→V→V)(P:PL)

def ZD (o:PO)(s:Int×V):List (Int×V):=if (decide (o.card<3) || !(XB nm P o s.2).emp)=true then [(o.num,XB nm P o s.2)]else []
def Z9 (g:PG)(s:Int×V):List (Int×V):=match Zg g s.1 with
 |none=>[]
 |some o=>ZD nm P o s

theorem PU {o:PO}{s x:Int×V}:x∈ZD nm P o s↔(decide (o.card<3) || !(XB nm P o s.2).emp)=true∧x=(o.num,XB nm P o s.2):=by
 unfold ZD;split
 ·rename_i h;simp[h]
 ·rename_i h;simp[h]

theorem PV {sl:List (Int×V)}(hu:sl.Pairwise fun y x=>(y.1==x.1)=false){s:Int×V}(hs:s∈sl):sl.find? (fun t=>t.1==s.1)=some s:=by
 induction sl with
 |nil=>cases hs
 |cons x l ih=>
  obtain⟨h1,h2⟩:=QXP.1 hu;rw[QX4];rcases QXD.1 hs with rfl|hs
  ·simp
  ·rw[h1 s hs];exact ih h2 hs

theorem K7 {sl:List (Int×V)}{o:PO}:QV nm P sl o=match sl.find? (fun s=>s.1==o.num)with
  |none=>[]
  |some s=>ZD nm P o s:=rfl

theorem Se {g:PG}(hd:g.ops.Pairwise fun a b=>a.num<b.num){sl:List (Int×V)}(hu:sl.Pairwise fun y x=>(y.1==x.1)=false):(JS sl).flatMap (Z9 nm P g)=g.ops.flatMap (QV nm P sl):=by
 have hp:(JS sl).Perm sl:=Q3 _;have hsu:(JS sl).Pairwise fun y x=>(y.1==x.1)=false:=(hp.pairwise_iff fun {a b} h=>by rw[Bool.beq_comm];exact h).2 hu
 have hss:X6 (fun x y:Int×V=>decide (x.1<y.1)) (JS sl):=XS QQS _;have hst:(JS sl).Pairwise fun x y=>x.1<y.1:=by
  unfold X6 at hss;rw[QYj]at *;intro i j hi hj hij;have h1:=hss i j hi hj hij;have h2:=hsu i j hi hj hij;simp only[QYb,QXY]at h1 h2;omega
 have kpw:∀s,(Z9 nm P g s).Pairwise fun x y:Int×V=>x.1<y.1:=fun s=>by
  unfold Z9;split
  ·exact .nil
  ·unfold ZD;split
   ·exact List.pairwise_singleton _ _
   ·exact .nil
 have knum:∀ {s x:Int×V},x∈Z9 nm P g s→x.1=s.1:=fun {s x} h=>by
  unfold Z9 at h;cases ho:Zg g s.1 with
  |none=>rw[ho]at h;cases h
  |some o=>
   rw[ho]at h;rw[((PU nm P).1 h).2];exact(ZL ho).2
 refine PT ?_ ?_ fun x=>?_
 ·rw[QYo];refine⟨fun s _=>kpw s,hst.imp fun {a b} hab x hx y hy=>?_⟩;rw[knum hx,knum hy];exact hab
 ·rw[QYo];refine⟨fun _ _=>YK,hd.imp fun {a b} hab x hx y hy=>?_⟩;rw[(Xv hx).1,(Xv hy).1];exact hab
 ·rw[QW1,QW1]
  constructor
  ·rintro⟨s,hs,h⟩;unfold Z9 at h;cases ho:Zg g s.1 with
   |none=>rw[ho]at h;cases h
   |some o=>
    rw[ho]at h;obtain⟨hom,hon⟩:=ZL ho;refine⟨o,hom,?_⟩;rw[K7,hon,PV hu (hp.mem_iff.1 hs)];exact h
  ·rintro⟨o,ho,h⟩;rw[K7]at h;cases hf:sl.find? (fun s=>s.1==o.num)with
   |none=>rw[hf]at h;cases h
   |some s=>
    rw[hf]at h;have hs:s.1=o.num:=by simpa using List.find?_some hf
    refine⟨s,hp.mem_iff.2 (QX9 hf),?_⟩;unfold Z9;rw[hs,XO hd ho];exact h

def TJ (o:PO)(sl:List (Int×V)):List (Int×V):=sl.flatMap fun s=>if (s.1==o.num)=true then ZD nm P o s else []
theorem BR {o:PO}{sl:List (Int×V)}(hu:sl.Pairwise fun y x=>(y.1==x.1)=false):TJ nm P o sl=QV nm P sl o:=by
 rw[K7];unfold TJ
 induction sl with
 |nil=>rfl
 |cons x l ih=>
  obtain⟨h1,h2⟩:=QXP.1 hu;rw[QXK,QX4];cases hx:(x.1==o.num)
  ·rw[QWu (by simp),QWD];exact ih h2
  ·rw[QWJ rfl];have e:x.1=o.num:=by simpa using hx
   have:l.flatMap (fun s=>if (s.1==o.num)=true then ZD nm P o s else [])=[]:=by
    rw[List.flatMap_eq_nil_iff];intro s hs;have:=h1 s hs;rw[e]at this;rw[QWu (by rw[Bool.beq_comm];simp[this])]
   rw[this,QXj]

end
end Go.Proofs.YtdhlbgejhcejcaaGreatDoor.Va

namespace Go.Proofs.YtdhlbgejhcejcaaGreatDoor.Va
open Go Am Rc Bt Br Up

theorem BS (a b:Int):IntKind.i64.wrap (IntKind.i64.wrap a+IntKind.i64.wrap b)=IntKind.i64.wrap (a+b):=by
 simp only[QC];omega
section
variable {M:Nat}

def C1I (v:V)(k:Nat)(st:St):Prop :=
 ∃f fr i,st=⟨f,[fr],[]⟩∧k=v.list.length-i∧i≤v.list.length∧f 1=.ptr 0 1 0∧f 3=.int .i64 (IntKind.i64.wrap ((1+v.raws.length+XT (v.list.take i):Nat):Int))∧f 4=.int .i64 (i:Nat)∧fr 1=.cells (vc v)
def C2I (v:V)(k:Nat)(st:St):Prop :=
 ∃f fr i,st=⟨f,[fr],[]⟩∧k=v.pairs.length-i∧i≤v.pairs.length∧f 1=.ptr 0 1 0∧f 3=.int .i64 (IntKind.i64.wrap ((1+v.raws.length+XT v.list+Xz (v.pairs.take i):Nat):Int))∧f 5=.int .i64 (i:Nat)∧fr 1=.cells (vc v)
def C3I (v:V)(k:Nat)(st:St):Prop :=
 ∃f fr i,st=⟨f,[fr],[]⟩∧k=v.slots.length-i∧i≤v.slots.length∧f 1=.ptr 0 1 0∧f 3=.int .i64 (IntKind.i64.wrap ((1+v.raws.length+XT v.list+Xz v.pairs+Xf (v.slots.take i):Nat):Int))∧f 6=.int .i64 (i:Nat)∧fr 1=.cells (vc v)

theorem v21 (v:V)(hv:v.ok M):Qi Tryz.prog 21 [v.av] (.int .i64 (IntKind.i64.wrap (v.cnt:Int))):=by
 revert hv
 refine V.ind (P:=fun v=>v.ok M→Qi Tryz.prog 21 [v.av] (.int .i64 (IntKind.i64.wrap (v.cnt:Int)))) ?_ v;clear v;intro v hl hp hs hv;have n1:=hv.nl;have n2:=hv.np;have n3:=hv.ns;rw[Qw];refine k21.fn (by simp) ?_;simp only[QXb,eE,seval];refine Qc (C1I v) _ ⟨_,_,0,rfl,rfl,QWo _,(by rfl),(by simp only[QXp,XT,QWL,Int.natCast_add,Int.natCast_one,Qa,seval]),(by rfl),(by rfl)⟩ ?_;rintro _ st ⟨f,fr,i,rfl,rfl,hil,h1,h3,h4,m1⟩;have m1':=m1;simp only[vc]at m1;simp only[QXb,h1,h4,m1,eE,seval];by_cases hlt:i<v.list.length
 ·obtain⟨x,hi⟩:∃x,v.list[i]? = some x:=⟨v.list[i],QWh hlt⟩;have hg:=YI hi;have e1:=Qo i _ hlt (by simp only[maxLen];omega);have c1:=hl x (QWt hi) (hv.list x (QWt hi));rw[Qw]at c1;simp only[Ql hlt,Qg,QXI,Qb,hg,h1,h3,h4,m1,eE,seval];refine aC c1 ?_;simp only[h4,e1,BS,Qa,seval];exact⟨v.list.length-(i+1),by omega,_,_,i+1,rfl,rfl,by omega,(by exact h1),(by rw[D9 hi];simp only[h3,←Int.natCast_add,QWd,Qa,seval]),(by rfl),(by exact m1')⟩
 have e:i=v.list.length:=by omega
 subst e;rw[QXR]at h3;simp only[QA hlt,Qa,seval];refine Qc (C2I v) _ ⟨_,_,0,rfl,rfl,QWo _,(by exact h1),(by simp only[QXp,Xz,QWL,h3,Qa,seval]),(by rfl),(by exact m1')⟩ ?_;clear h1 h3 h4 m1 m1' hlt hil;rintro _ st ⟨f,fr,i,rfl,rfl,hil,h1,h3,h5,m1⟩;have m1':=m1;simp only[vc]at m1;simp only[QXb,h1,h5,m1,eE,seval];by_cases hlt:i<v.pairs.length
 ·obtain⟨x,hi⟩:∃x,v.pairs[i]? = some x:=⟨v.pairs[i],QWh hlt⟩;have hg:=Jl hi;have e1:=Qo i _ hlt (by simp only[maxLen];omega);have hm:=QWt hi;have c1:=(hp x hm).1 (hv.keys x hm);have c2:=(hp x hm).2 (hv.vals x hm);rw[Qw]at c1 c2;simp only[Ql hlt,Qg,QXI,Qb,hg,QWN,QXp,QWX,h1,h3,h5,m1,eE,seval];refine aC c1 ?_;simp only[Qg,QXI,Qb,hg,QWN,QWQ,QWX,h1,h5,m1,eE,seval];refine aC c2 ?_;simp only[h5,e1,BS,Qa,seval];exact⟨v.pairs.length-(i+1),by omega,_,_,i+1,rfl,rfl,by omega,(by exact h1),(by rw[Fa hi];simp only[h3,←Int.natCast_add,QWd,Qa,seval]),(by rfl),(by exact m1')⟩
 have e:i=v.pairs.length:=by omega
 subst e;rw[QXR]at h3;simp only[QA hlt,Qa,seval];refine Qc (C3I v) _ ⟨_,_,0,rfl,rfl,QWo _,(by exact h1),(by simp only[QXp,Xf,QWL,h3,Qa,seval]),(by rfl),(by exact m1')⟩ ?_;clear h1 h3 h5 m1 m1' hlt hil;rintro _ st ⟨f,fr,i,rfl,rfl,hil,h1,h3,h6,m1⟩;have m1':=m1;simp only[vc]at m1;simp only[QXb,h1,h6,m1,eE,seval];by_cases hlt:i<v.slots.length
 ·obtain⟨x,hi⟩:∃x,v.slots[i]? = some x:=⟨v.slots[i],QWh hlt⟩;have hg:=JQ hi;have e1:=Qo i _ hlt (by simp only[maxLen];omega);have hm:=QWt hi;have c1:=hs x hm (hv.slots x hm);rw[Qw]at c1;simp only[Ql hlt,Qg,QXI,Qb,hg,QWN,QWQ,QWX,h1,h3,h6,m1,eE,seval];refine aC c1 ?_;simp only[h6,e1,BS,Qa,seval];exact⟨v.slots.length-(i+1),by omega,_,_,i+1,rfl,rfl,by omega,(by exact h1),(by rw[Fb hi];simp only[h3,←Int.natCast_add,QWd,Qa,seval]),(by rfl),(by exact m1')⟩
 have e:i=v.slots.length:=by omega
 subst e;rw[QXR]at h3;simp only[QA hlt,h3,Xn,Qa,seval]

end

theorem QY {P:Program}{K:St→Prop}{Qe:List Am.Item}{f:Fr}{m:Qn}{ds:List DF}{d sz len:Nat}{z y l:List AV}{ps:List (Nat×Nat×RA)}(hy:fill f ps (Xg z sz len)=some y)(h1:AV.rfL y=true)(h2:y.all AV.leaf=true)(hc:XF sz len (y.map nn0)=l)(h:QE P Qe ⟨QH f d (.list l),m,ds⟩ K) :
  QE P (⟨some d,.bsl sz len z ps,none⟩ :: Qe) ⟨f,m,ds⟩ K:=by
 subst hc;exact⟨y,hy,h1,h2,h⟩

theorem Qwr (l:List V):(l.map V.av).all (fun e=>e.cells.length==7)=true:=by
 rw[List.all_map,QWs];intro x _;simp[Qw,AV.cells]

end Go.Proofs.YtdhlbgejhcejcaaGreatDoor.Va

set_option linter.unusedVariables false
namespace Go.Proofs.YtdhlbgejhcejcaaGreatDoor.Tg
open Go Am

def TK (z sr ro sm is st:Nat):List Am.Item:=[
  ⟨(some 10),.val (.mov (.c (.int .i64 0))),none⟩]
def TL (z sr ro sm is st:Nat):List Am.Item:=[
  ⟨(some 11),.val (.mov (.t 10)),none⟩,
  ⟨(some 12),.val (.mov (.t 3)),none⟩,
  ⟨(some 13),.val (.bin .num .lss (.t 11) (.t 12)),none⟩]
def TM (z sr ro sm is st:Nat):List Am.Item:=[
  ⟨(some 16),.val (.mov (.t 0)),none⟩,
  ⟨(some 17),.val (.mov (.t 1)),none⟩,
  ⟨(some 18),.val (.mov (.t 10)),none⟩,
  ⟨(some 19),.val (.bin .num .add (.t 17) (.t 18)),none⟩,
  ⟨(some 20),.val (.mov (.t 0)),none⟩,
  ⟨(some 21),.val (.mov (.t 2)),none⟩,
  ⟨(some 22),.val (.mov (.t 10)),none⟩,
  ⟨(some 23),.val (.bin .num .add (.t 21) (.t 22)),none⟩,
  ⟨(some 24),.val (.mov (.t 0)),none⟩,
  ⟨(some 25),.val (.mov (.t 2)),none⟩,
  ⟨(some 26),.val (.mov (.t 10)),none⟩,
  ⟨(some 27),.val (.bin .num .add (.t 25) (.t 26)),none⟩,
  ⟨(some 28),.val (.iaddr z none (.t 24) (.t 27)),none⟩,
  ⟨(some 29),.val (.loadr (some z) (.t 28)),none⟩,
  ⟨(some 30),.val (.mov (.t 0)),none⟩,
  ⟨(some 31),.val (.mov (.t 1)),none⟩,
  ⟨(some 32),.val (.mov (.t 10)),none⟩,
  ⟨(some 33),.val (.bin .num .add (.t 31) (.t 32)),none⟩,
  ⟨(some 34),.val (.iaddr z none (.t 30) (.t 33)),none⟩,
  ⟨(some 35),.val (.loadr (some z) (.t 34)),none⟩,
  ⟨(some 36),.val (.iaddr z none (.t 16) (.t 19)),none⟩,
  ⟨none,.store z (.t 36) (.t 29),none⟩,
  ⟨(some 37),.val (.iaddr z none (.t 20) (.t 23)),none⟩,
  ⟨none,.store z (.t 37) (.t 35),none⟩]
def TN (z sr ro sm is st:Nat):List Am.Item:=[
  ⟨(some 14),.val (.mov (.t 10)),none⟩,
  ⟨(some 15),.val (.bin .num .add (.t 14) (.c (.int .i64 1))),none⟩,
  ⟨(some 10),.val (.mov (.t 15)),none⟩]
def TO (z sr ro sm is st:Nat):RC:=.seq (.seq (.reg (TL z sr ro sm is st)) (.cond (.t 13) (.skip) (.exit 0))) (.seq (.block 1 (.draw (TM z sr ro sm is st))) (.reg (TN z sr ro sm is st)))
def rsr (z sr ro sm is st:Nat):RC:=.seq (.reg (TK z sr ro sm is st)) (.block 0 (.loop (TO z sr ro sm is st)))
def osr:List RR:=[]

def TP (z sr ro sm is st:Nat):List Am.Item:=[
  ⟨(some 12),.val (.mov (.t 2)),none⟩,
  ⟨(some 13),.val (.mov (.t 1)),none⟩,
  ⟨(some 14),.val (.bin .num .sub (.t 12) (.t 13)),none⟩,
  ⟨(some 10),.val (.mov (.t 14)),none⟩]
def TQ (z sr ro sm is st:Nat):List Am.Item:=[
  ⟨(some 15),.val (.mov (.t 3)),none⟩,
  ⟨(some 16),.val (.mov (.t 2)),none⟩,
  ⟨(some 17),.val (.bin .num .sub (.t 15) (.t 16)),none⟩,
  ⟨(some 11),.val (.mov (.t 17)),none⟩]
def TR (z sr ro sm is st:Nat):List Am.Item:=[
  ⟨(some 18),.val (.mov (.t 10)),none⟩,
  ⟨(some 19),.val (.mov (.t 11)),none⟩,
  ⟨(some 20),.val (.bin .num .neq (.t 18) (.t 19)),none⟩]
def TS (z sr ro sm is st:Nat):List Am.Item:=[
  ⟨(some 21),.val (.mov (.t 10)),none⟩,
  ⟨(some 22),.val (.mov (.t 11)),none⟩,
  ⟨(some 23),.val (.bin .num .gtr (.t 21) (.t 22)),none⟩]
def TT (z sr ro sm is st:Nat):List Am.Item:=[
  ⟨(some 24),.val (.mov (.t 0)),none⟩,
  ⟨(some 25),.val (.mov (.t 2)),none⟩,
  ⟨(some 26),.val (.mov (.t 10)),none⟩,
  ⟨(some 27),.val (.bin .num .sub (.t 25) (.t 26)),none⟩,
  ⟨(some 28),.val (.mov (.t 2)),none⟩,
  ⟨(some 29),.val (.mov (.t 11)),none⟩,
  ⟨(some 30),.val (.mov (.t 4)),none⟩,
  ⟨(some 31),.callF (.f sr) [(.t 24),(.t 27),(.t 28),(.t 29),(.t 30)],none⟩]
def TU (z sr ro sm is st:Nat):List Am.Item:=[
  ⟨(some 32),.val (.mov (.t 10)),none⟩,
  ⟨(some 33),.val (.mov (.t 11)),none⟩,
  ⟨(some 34),.val (.bin .num .sub (.t 32) (.t 33)),none⟩,
  ⟨(some 10),.val (.mov (.t 34)),none⟩]
def TV (z sr ro sm is st:Nat):List Am.Item:=[
  ⟨(some 35),.val (.mov (.t 0)),none⟩,
  ⟨(some 36),.val (.mov (.t 2)),none⟩,
  ⟨(some 37),.val (.mov (.t 10)),none⟩,
  ⟨(some 38),.val (.bin .num .sub (.t 36) (.t 37)),none⟩,
  ⟨(some 39),.val (.mov (.t 2)),none⟩,
  ⟨(some 40),.val (.mov (.t 11)),none⟩,
  ⟨(some 41),.val (.bin .num .add (.t 39) (.t 40)),none⟩,
  ⟨(some 42),.val (.mov (.t 10)),none⟩,
  ⟨(some 43),.val (.bin .num .sub (.t 41) (.t 42)),none⟩,
  ⟨(some 44),.val (.mov (.t 10)),none⟩,
  ⟨(some 45),.val (.mov (.t 4)),none⟩,
  ⟨(some 46),.callF (.f sr) [(.t 35),(.t 38),(.t 43),(.t 44),(.t 45)],none⟩]
def TW (z sr ro sm is st:Nat):List Am.Item:=[
  ⟨(some 47),.val (.mov (.t 11)),none⟩,
  ⟨(some 48),.val (.mov (.t 10)),none⟩,
  ⟨(some 49),.val (.bin .num .sub (.t 47) (.t 48)),none⟩,
  ⟨(some 11),.val (.mov (.t 49)),none⟩]
def TX (z sr ro sm is st:Nat):RC:=.seq (.seq (.reg (TR z sr ro sm is st)) (.cond (.t 20) (.skip) (.exit 0))) (.block 1 (.seq (.reg (TS z sr ro sm is st)) (.cond (.t 23) (.seq (.reg (TT z sr ro sm is st)) (.reg (TU z sr ro sm is st))) (.seq (.reg (TV z sr ro sm is st)) (.reg (TW z sr ro sm is st))))))
def TY (z sr ro sm is st:Nat):List Am.Item:=[
  ⟨(some 50),.val (.mov (.t 0)),none⟩,
  ⟨(some 51),.val (.mov (.t 2)),none⟩,
  ⟨(some 52),.val (.mov (.t 10)),none⟩,
  ⟨(some 53),.val (.bin .num .sub (.t 51) (.t 52)),none⟩,
  ⟨(some 54),.val (.mov (.t 2)),none⟩,
  ⟨(some 55),.val (.mov (.t 10)),none⟩,
  ⟨(some 56),.val (.mov (.t 4)),none⟩,
  ⟨(some 57),.callF (.f sr) [(.t 50),(.t 53),(.t 54),(.t 55),(.t 56)],none⟩]
def rro (z sr ro sm is st:Nat):RC:=.seq (.reg (TP z sr ro sm is st)) (.seq (.reg (TQ z sr ro sm is st)) (.seq (.block 0 (.loop (TX z sr ro sm is st))) (.reg (TY z sr ro sm is st))))
def oro:List RR:=[]

def FA (z sr ro sm is st:Nat):List Am.Item:=[
  ⟨(some 25),.val (.mov (.t 2)),none⟩,
  ⟨(some 26),.val (.mov (.t 1)),none⟩,
  ⟨(some 27),.val (.bin .num .sub (.t 25) (.t 26)),none⟩,
  ⟨(some 28),.val (.bin .num .eql (.t 27) (.c (.int .i64 1))),none⟩]
def CD (z sr ro sm is st:Nat):List Am.Item:=[
  ⟨(some 29),.val (.mov (.t 2)),none⟩,
  ⟨(some 10),.val (.mov (.t 29)),none⟩]
def CE (z sr ro sm is st:Nat):List Am.Item:=[
  ⟨(some 30),.val (.mov (.t 3)),none⟩,
  ⟨(some 11),.val (.mov (.t 30)),none⟩]
def TZ (z sr ro sm is st:Nat):List Am.Item:=[
  ⟨(some 31),.val (.mov (.t 10)),none⟩,
  ⟨(some 32),.val (.mov (.t 11)),none⟩,
  ⟨(some 33),.val (.bin .num .lss (.t 31) (.t 32)),none⟩]
def T0 (z sr ro sm is st:Nat):List Am.Item:=[
  ⟨(some 34),.val (.mov (.t 10)),none⟩,
  ⟨(some 35),.val (.mov (.t 11)),none⟩,
  ⟨(some 36),.val (.bin .num .add (.t 34) (.t 35)),none⟩,
  ⟨(some 37),.val (.cvi .u64 (.t 36)),none⟩,
  ⟨(some 38),.val (.bin .num .shr (.t 37) (.c (.int .u64 1))),none⟩,
  ⟨(some 39),.val (.cvi .i64 (.t 38)),none⟩,
  ⟨(some 12),.val (.mov (.t 39)),none⟩]
def T1 (z sr ro sm is st:Nat):List Am.Item:=[
  ⟨(some 40),.val (.mov (.t 4)),none⟩,
  ⟨(some 41),.val (.mov (.t 0)),none⟩,
  ⟨(some 42),.val (.mov (.t 12)),none⟩,
  ⟨(some 43),.val (.iaddr z none (.t 41) (.t 42)),none⟩,
  ⟨(some 44),.val (.loadr (some z) (.t 43)),none⟩,
  ⟨(some 45),.val (.mov (.t 0)),none⟩,
  ⟨(some 46),.val (.mov (.t 1)),none⟩,
  ⟨(some 47),.val (.iaddr z none (.t 45) (.t 46)),none⟩,
  ⟨(some 48),.val (.loadr (some z) (.t 47)),none⟩,
  ⟨(some 49),.call (.t 40) [(.t 44),(.t 48)],none⟩,
  ⟨(some 50),.val (.bin .num .lss (.t 49) (.c (.int .i64 0))),none⟩]
def T2 (z sr ro sm is st:Nat):List Am.Item:=[
  ⟨(some 51),.val (.mov (.t 12)),none⟩,
  ⟨(some 52),.val (.bin .num .add (.t 51) (.c (.int .i64 1))),none⟩,
  ⟨(some 10),.val (.mov (.t 52)),none⟩]
def T3 (z sr ro sm is st:Nat):List Am.Item:=[
  ⟨(some 53),.val (.mov (.t 12)),none⟩,
  ⟨(some 11),.val (.mov (.t 53)),none⟩]
def T4 (z sr ro sm is st:Nat):RC:=.seq (.seq (.reg (TZ z sr ro sm is st)) (.cond (.t 33) (.skip) (.exit 0))) (.block 1 (.seq (.reg (T0 z sr ro sm is st)) (.seq (.draw (T1 z sr ro sm is st)) (.cond (.t 50) (.reg (T2 z sr ro sm is st)) (.reg (T3 z sr ro sm is st))))))
def CF (z sr ro sm is st:Nat):List Am.Item:=[
  ⟨(some 54),.val (.mov (.t 1)),none⟩,
  ⟨(some 13),.val (.mov (.t 54)),none⟩]
def T5 (z sr ro sm is st:Nat):List Am.Item:=[
  ⟨(some 55),.val (.mov (.t 13)),none⟩,
  ⟨(some 56),.val (.mov (.t 10)),none⟩,
  ⟨(some 57),.val (.bin .num .sub (.t 56) (.c (.int .i64 1))),none⟩,
  ⟨(some 58),.val (.bin .num .lss (.t 55) (.t 57)),none⟩]
def PW (z sr ro sm is st:Nat):List Am.Item:=[
  ⟨(some 61),.val (.mov (.t 0)),none⟩,
  ⟨(some 62),.val (.mov (.t 13)),none⟩,
  ⟨(some 63),.val (.mov (.t 0)),none⟩,
  ⟨(some 64),.val (.mov (.t 13)),none⟩,
  ⟨(some 65),.val (.bin .num .add (.t 64) (.c (.int .i64 1))),none⟩,
  ⟨(some 66),.val (.mov (.t 0)),none⟩,
  ⟨(some 67),.val (.mov (.t 13)),none⟩,
  ⟨(some 68),.val (.bin .num .add (.t 67) (.c (.int .i64 1))),none⟩,
  ⟨(some 69),.val (.iaddr z none (.t 66) (.t 68)),none⟩,
  ⟨(some 70),.val (.loadr (some z) (.t 69)),none⟩,
  ⟨(some 71),.val (.mov (.t 0)),none⟩,
  ⟨(some 72),.val (.mov (.t 13)),none⟩,
  ⟨(some 73),.val (.iaddr z none (.t 71) (.t 72)),none⟩,
  ⟨(some 74),.val (.loadr (some z) (.t 73)),none⟩,
  ⟨(some 75),.val (.iaddr z none (.t 61) (.t 62)),none⟩,
  ⟨none,.store z (.t 75) (.t 70),none⟩,
  ⟨(some 76),.val (.iaddr z none (.t 63) (.t 65)),none⟩,
  ⟨none,.store z (.t 76) (.t 74),none⟩]
def PX (z sr ro sm is st:Nat):List Am.Item:=[
  ⟨(some 59),.val (.mov (.t 13)),none⟩,
  ⟨(some 60),.val (.bin .num .add (.t 59) (.c (.int .i64 1))),none⟩,
  ⟨(some 13),.val (.mov (.t 60)),none⟩]
def T6 (z sr ro sm is st:Nat):RC:=.seq (.seq (.reg (T5 z sr ro sm is st)) (.cond (.t 58) (.skip) (.exit 2))) (.seq (.block 3 (.draw (PW z sr ro sm is st))) (.reg (PX z sr ro sm is st)))
def GP (z sr ro sm is st:Nat):List Am.Item:=[
  ⟨(some 77),.val (.mov (.t 3)),none⟩,
  ⟨(some 78),.val (.mov (.t 2)),none⟩,
  ⟨(some 79),.val (.bin .num .sub (.t 77) (.t 78)),none⟩,
  ⟨(some 80),.val (.bin .num .eql (.t 79) (.c (.int .i64 1))),none⟩]
def BT (z sr ro sm is st:Nat):List Am.Item:=[
  ⟨(some 81),.val (.mov (.t 1)),none⟩,
  ⟨(some 14),.val (.mov (.t 81)),none⟩]
def BU (z sr ro sm is st:Nat):List Am.Item:=[
  ⟨(some 82),.val (.mov (.t 2)),none⟩,
  ⟨(some 15),.val (.mov (.t 82)),none⟩]
def BW (z sr ro sm is st:Nat):List Am.Item:=[
  ⟨(some 83),.val (.mov (.t 14)),none⟩,
  ⟨(some 84),.val (.mov (.t 15)),none⟩,
  ⟨(some 85),.val (.bin .num .lss (.t 83) (.t 84)),none⟩]
def BX (z sr ro sm is st:Nat):List Am.Item:=[
  ⟨(some 86),.val (.mov (.t 14)),none⟩,
  ⟨(some 87),.val (.mov (.t 15)),none⟩,
  ⟨(some 88),.val (.bin .num .add (.t 86) (.t 87)),none⟩,
  ⟨(some 89),.val (.cvi .u64 (.t 88)),none⟩,
  ⟨(some 90),.val (.bin .num .shr (.t 89) (.c (.int .u64 1))),none⟩,
  ⟨(some 91),.val (.cvi .i64 (.t 90)),none⟩,
  ⟨(some 16),.val (.mov (.t 91)),none⟩]
def BY (z sr ro sm is st:Nat):List Am.Item:=[
  ⟨(some 92),.val (.mov (.t 4)),none⟩,
  ⟨(some 93),.val (.mov (.t 0)),none⟩,
  ⟨(some 94),.val (.mov (.t 2)),none⟩,
  ⟨(some 95),.val (.iaddr z none (.t 93) (.t 94)),none⟩,
  ⟨(some 96),.val (.loadr (some z) (.t 95)),none⟩,
  ⟨(some 97),.val (.mov (.t 0)),none⟩,
  ⟨(some 98),.val (.mov (.t 16)),none⟩,
  ⟨(some 99),.val (.iaddr z none (.t 97) (.t 98)),none⟩,
  ⟨(some 100),.val (.loadr (some z) (.t 99)),none⟩,
  ⟨(some 101),.call (.t 92) [(.t 96),(.t 100)],none⟩,
  ⟨(some 102),.val (.bin .num .lss (.t 101) (.c (.int .i64 0))),none⟩,
  ⟨(some 103),.val (.un .not (.t 102)),none⟩]
def BZ (z sr ro sm is st:Nat):List Am.Item:=[
  ⟨(some 104),.val (.mov (.t 16)),none⟩,
  ⟨(some 105),.val (.bin .num .add (.t 104) (.c (.int .i64 1))),none⟩,
  ⟨(some 14),.val (.mov (.t 105)),none⟩]
def B0 (z sr ro sm is st:Nat):List Am.Item:=[
  ⟨(some 106),.val (.mov (.t 16)),none⟩,
  ⟨(some 15),.val (.mov (.t 106)),none⟩]
def CG (z sr ro sm is st:Nat):RC:=.seq (.seq (.reg (BW z sr ro sm is st)) (.cond (.t 85) (.skip) (.exit 4))) (.block 5 (.seq (.reg (BX z sr ro sm is st)) (.seq (.draw (BY z sr ro sm is st)) (.cond (.t 103) (.reg (BZ z sr ro sm is st)) (.reg (B0 z sr ro sm is st))))))
def B1 (z sr ro sm is st:Nat):List Am.Item:=[
  ⟨(some 107),.val (.mov (.t 2)),none⟩,
  ⟨(some 17),.val (.mov (.t 107)),none⟩]
def B4 (z sr ro sm is st:Nat):List Am.Item:=[
  ⟨(some 108),.val (.mov (.t 17)),none⟩,
  ⟨(some 109),.val (.mov (.t 14)),none⟩,
  ⟨(some 110),.val (.bin .num .gtr (.t 108) (.t 109)),none⟩]
def B5 (z sr ro sm is st:Nat):List Am.Item:=[
  ⟨(some 113),.val (.mov (.t 0)),none⟩,
  ⟨(some 114),.val (.mov (.t 17)),none⟩,
  ⟨(some 115),.val (.mov (.t 0)),none⟩,
  ⟨(some 116),.val (.mov (.t 17)),none⟩,
  ⟨(some 117),.val (.bin .num .sub (.t 116) (.c (.int .i64 1))),none⟩,
  ⟨(some 118),.val (.mov (.t 0)),none⟩,
  ⟨(some 119),.val (.mov (.t 17)),none⟩,
  ⟨(some 120),.val (.bin .num .sub (.t 119) (.c (.int .i64 1))),none⟩,
  ⟨(some 121),.val (.iaddr z none (.t 118) (.t 120)),none⟩,
  ⟨(some 122),.val (.loadr (some z) (.t 121)),none⟩,
  ⟨(some 123),.val (.mov (.t 0)),none⟩,
  ⟨(some 124),.val (.mov (.t 17)),none⟩,
  ⟨(some 125),.val (.iaddr z none (.t 123) (.t 124)),none⟩,
  ⟨(some 126),.val (.loadr (some z) (.t 125)),none⟩,
  ⟨(some 127),.val (.iaddr z none (.t 113) (.t 114)),none⟩,
  ⟨none,.store z (.t 127) (.t 122),none⟩,
  ⟨(some 128),.val (.iaddr z none (.t 115) (.t 117)),none⟩,
  ⟨none,.store z (.t 128) (.t 126),none⟩]
def B6 (z sr ro sm is st:Nat):List Am.Item:=[
  ⟨(some 111),.val (.mov (.t 17)),none⟩,
  ⟨(some 112),.val (.bin .num .sub (.t 111) (.c (.int .i64 1))),none⟩,
  ⟨(some 17),.val (.mov (.t 112)),none⟩]
def CH (z sr ro sm is st:Nat):RC:=.seq (.seq (.reg (B4 z sr ro sm is st)) (.cond (.t 110) (.skip) (.exit 6))) (.seq (.block 7 (.draw (B5 z sr ro sm is st))) (.reg (B6 z sr ro sm is st)))
def GQ (z sr ro sm is st:Nat):List Am.Item:=[
  ⟨(some 129),.val (.mov (.t 1)),none⟩,
  ⟨(some 130),.val (.mov (.t 3)),none⟩,
  ⟨(some 131),.val (.bin .num .add (.t 129) (.t 130)),none⟩,
  ⟨(some 132),.val (.cvi .u64 (.t 131)),none⟩,
  ⟨(some 133),.val (.bin .num .shr (.t 132) (.c (.int .u64 1))),none⟩,
  ⟨(some 134),.val (.cvi .i64 (.t 133)),none⟩,
  ⟨(some 18),.val (.mov (.t 134)),none⟩]
def GR (z sr ro sm is st:Nat):List Am.Item:=[
  ⟨(some 135),.val (.mov (.t 18)),none⟩,
  ⟨(some 136),.val (.mov (.t 2)),none⟩,
  ⟨(some 137),.val (.bin .num .add (.t 135) (.t 136)),none⟩,
  ⟨(some 19),.val (.mov (.t 137)),none⟩]
def GS (z sr ro sm is st:Nat):List Am.Item:=[
  ⟨(some 20),.val (.mov (.c (.int .i64 0))),none⟩,
  ⟨(some 21),.val (.mov (.c (.int .i64 0))),none⟩]
def GT (z sr ro sm is st:Nat):List Am.Item:=[
  ⟨(some 138),.val (.mov (.t 2)),none⟩,
  ⟨(some 139),.val (.mov (.t 18)),none⟩,
  ⟨(some 140),.val (.bin .num .gtr (.t 138) (.t 139)),none⟩]
def GU (z sr ro sm is st:Nat):List Am.Item:=[
  ⟨(some 141),.val (.mov (.t 19)),none⟩,
  ⟨(some 142),.val (.mov (.t 3)),none⟩,
  ⟨(some 143),.val (.bin .num .sub (.t 141) (.t 142)),none⟩,
  ⟨(some 20),.val (.mov (.t 143)),none⟩]
def GV (z sr ro sm is st:Nat):List Am.Item:=[
  ⟨(some 144),.val (.mov (.t 18)),none⟩,
  ⟨(some 21),.val (.mov (.t 144)),none⟩]
def GW (z sr ro sm is st:Nat):List Am.Item:=[
  ⟨(some 145),.val (.mov (.t 1)),none⟩,
  ⟨(some 20),.val (.mov (.t 145)),none⟩]
def GX (z sr ro sm is st:Nat):List Am.Item:=[
  ⟨(some 146),.val (.mov (.t 2)),none⟩,
  ⟨(some 21),.val (.mov (.t 146)),none⟩]
def GY (z sr ro sm is st:Nat):List Am.Item:=[
  ⟨(some 147),.val (.mov (.t 19)),none⟩,
  ⟨(some 148),.val (.bin .num .sub (.t 147) (.c (.int .i64 1))),none⟩,
  ⟨(some 22),.val (.mov (.t 148)),none⟩]
def GZ (z sr ro sm is st:Nat):List Am.Item:=[
  ⟨(some 149),.val (.mov (.t 20)),none⟩,
  ⟨(some 150),.val (.mov (.t 21)),none⟩,
  ⟨(some 151),.val (.bin .num .lss (.t 149) (.t 150)),none⟩]
def G0 (z sr ro sm is st:Nat):List Am.Item:=[
  ⟨(some 152),.val (.mov (.t 20)),none⟩,
  ⟨(some 153),.val (.mov (.t 21)),none⟩,
  ⟨(some 154),.val (.bin .num .add (.t 152) (.t 153)),none⟩,
  ⟨(some 155),.val (.cvi .u64 (.t 154)),none⟩,
  ⟨(some 156),.val (.bin .num .shr (.t 155) (.c (.int .u64 1))),none⟩,
  ⟨(some 157),.val (.cvi .i64 (.t 156)),none⟩,
  ⟨(some 23),.val (.mov (.t 157)),none⟩]
def G3 (z sr ro sm is st:Nat):List Am.Item:=[
  ⟨(some 158),.val (.mov (.t 4)),none⟩,
  ⟨(some 159),.val (.mov (.t 0)),none⟩,
  ⟨(some 160),.val (.mov (.t 22)),none⟩,
  ⟨(some 161),.val (.mov (.t 23)),none⟩,
  ⟨(some 162),.val (.bin .num .sub (.t 160) (.t 161)),none⟩,
  ⟨(some 163),.val (.iaddr z none (.t 159) (.t 162)),none⟩,
  ⟨(some 164),.val (.loadr (some z) (.t 163)),none⟩,
  ⟨(some 165),.val (.mov (.t 0)),none⟩,
  ⟨(some 166),.val (.mov (.t 23)),none⟩,
  ⟨(some 167),.val (.iaddr z none (.t 165) (.t 166)),none⟩,
  ⟨(some 168),.val (.loadr (some z) (.t 167)),none⟩,
  ⟨(some 169),.call (.t 158) [(.t 164),(.t 168)],none⟩,
  ⟨(some 170),.val (.bin .num .lss (.t 169) (.c (.int .i64 0))),none⟩,
  ⟨(some 171),.val (.un .not (.t 170)),none⟩]
def G4 (z sr ro sm is st:Nat):List Am.Item:=[
  ⟨(some 172),.val (.mov (.t 23)),none⟩,
  ⟨(some 173),.val (.bin .num .add (.t 172) (.c (.int .i64 1))),none⟩,
  ⟨(some 20),.val (.mov (.t 173)),none⟩]
def G5 (z sr ro sm is st:Nat):List Am.Item:=[
  ⟨(some 174),.val (.mov (.t 23)),none⟩,
  ⟨(some 21),.val (.mov (.t 174)),none⟩]
def G6 (z sr ro sm is st:Nat):RC:=.seq (.seq (.reg (GZ z sr ro sm is st)) (.cond (.t 151) (.skip) (.exit 8))) (.block 9 (.seq (.reg (G0 z sr ro sm is st)) (.seq (.draw (G3 z sr ro sm is st)) (.cond (.t 171) (.reg (G4 z sr ro sm is st)) (.reg (G5 z sr ro sm is st))))))
def Yh (z sr ro sm is st:Nat):List Am.Item:=[
  ⟨(some 175),.val (.mov (.t 19)),none⟩,
  ⟨(some 176),.val (.mov (.t 20)),none⟩,
  ⟨(some 177),.val (.bin .num .sub (.t 175) (.t 176)),none⟩,
  ⟨(some 24),.val (.mov (.t 177)),none⟩]
def Yi (z sr ro sm is st:Nat):List Am.Item:=[
  ⟨(some 178),.val (.mov (.t 20)),none⟩,
  ⟨(some 179),.val (.mov (.t 2)),none⟩,
  ⟨(some 180),.val (.bin .num .lss (.t 178) (.t 179)),none⟩,
  ⟨(some 181),.val (.mov (.t 180)),none⟩,
  ⟨(some 182),.val (.mov (.t 2)),(some (181,true))⟩,
  ⟨(some 183),.val (.mov (.t 24)),(some (181,true))⟩,
  ⟨(some 184),.val (.bin .num .lss (.t 182) (.t 183)),(some (181,true))⟩,
  ⟨(some 185),.val (.pick (.t 181) (.t 184) (.c (.bool false))),none⟩]
def Yj (z sr ro sm is st:Nat):List Am.Item:=[
  ⟨(some 186),.val (.mov (.t 0)),none⟩,
  ⟨(some 187),.val (.mov (.t 20)),none⟩,
  ⟨(some 188),.val (.mov (.t 2)),none⟩,
  ⟨(some 189),.val (.mov (.t 24)),none⟩,
  ⟨(some 190),.val (.mov (.t 4)),none⟩,
  ⟨(some 191),.callF (.f ro) [(.t 186),(.t 187),(.t 188),(.t 189),(.t 190)],none⟩]
def Wu (z sr ro sm is st:Nat):List Am.Item:=[
  ⟨(some 192),.val (.mov (.t 1)),none⟩,
  ⟨(some 193),.val (.mov (.t 20)),none⟩,
  ⟨(some 194),.val (.bin .num .lss (.t 192) (.t 193)),none⟩,
  ⟨(some 195),.val (.mov (.t 194)),none⟩,
  ⟨(some 196),.val (.mov (.t 20)),(some (195,true))⟩,
  ⟨(some 197),.val (.mov (.t 18)),(some (195,true))⟩,
  ⟨(some 198),.val (.bin .num .lss (.t 196) (.t 197)),(some (195,true))⟩,
  ⟨(some 199),.val (.pick (.t 195) (.t 198) (.c (.bool false))),none⟩]
def Wv (z sr ro sm is st:Nat):List Am.Item:=[
  ⟨(some 200),.val (.mov (.t 0)),none⟩,
  ⟨(some 201),.val (.mov (.t 1)),none⟩,
  ⟨(some 202),.val (.mov (.t 20)),none⟩,
  ⟨(some 203),.val (.mov (.t 18)),none⟩,
  ⟨(some 204),.val (.mov (.t 4)),none⟩,
  ⟨(some 205),.callF (.f sm) [(.t 200),(.t 201),(.t 202),(.t 203),(.t 204)],none⟩]
def Kh (z sr ro sm is st:Nat):List Am.Item:=[
  ⟨(some 206),.val (.mov (.t 18)),none⟩,
  ⟨(some 207),.val (.mov (.t 24)),none⟩,
  ⟨(some 208),.val (.bin .num .lss (.t 206) (.t 207)),none⟩,
  ⟨(some 209),.val (.mov (.t 208)),none⟩,
  ⟨(some 210),.val (.mov (.t 24)),(some (209,true))⟩,
  ⟨(some 211),.val (.mov (.t 3)),(some (209,true))⟩,
  ⟨(some 212),.val (.bin .num .lss (.t 210) (.t 211)),(some (209,true))⟩,
  ⟨(some 213),.val (.pick (.t 209) (.t 212) (.c (.bool false))),none⟩]
def Ki (z sr ro sm is st:Nat):List Am.Item:=[
  ⟨(some 214),.val (.mov (.t 0)),none⟩,
  ⟨(some 215),.val (.mov (.t 18)),none⟩,
  ⟨(some 216),.val (.mov (.t 24)),none⟩,
  ⟨(some 217),.val (.mov (.t 3)),none⟩,
  ⟨(some 218),.val (.mov (.t 4)),none⟩,
  ⟨(some 219),.callF (.f sm) [(.t 214),(.t 215),(.t 216),(.t 217),(.t 218)],none⟩]
def T7 (z sr ro sm is st:Nat):RC:=.seq (.seq (.reg (FA z sr ro sm is st)) (.cond (.t 28) (.seq (.reg (CD z sr ro sm is st)) (.seq (.reg (CE z sr ro sm is st)) (.seq (.block 0 (.loop (T4 z sr ro sm is st))) (.seq (.seq (.reg (CF z sr ro sm is st)) (.block 2 (.loop (T6 z sr ro sm is st)))) (.ret))))) (.skip))) (.seq (.seq (.reg (GP z sr ro sm is st)) (.cond (.t 80) (.seq (.reg (BT z sr ro sm is st)) (.seq (.reg (BU z sr ro sm is st)) (.seq (.block 4 (.loop (CG z sr ro sm is st))) (.seq (.seq (.reg (B1 z sr ro sm is st)) (.block 6 (.loop (CH z sr ro sm is st)))) (.ret))))) (.skip))) (.seq (.reg (GQ z sr ro sm is st)) (.seq (.reg (GR z sr ro sm is st)) (.seq (.reg (GS z sr ro sm is st)) (.seq (.seq (.reg (GT z sr ro sm is st)) (.cond (.t 140) (.seq (.reg (GU z sr ro sm is st)) (.reg (GV z sr ro sm is st))) (.seq (.reg (GW z sr ro sm is st)) (.reg (GX z sr ro sm is st))))) (.seq (.reg (GY z sr ro sm is st)) (.seq (.block 8 (.loop (G6 z sr ro sm is st))) (.seq (.reg (Yh z sr ro sm is st)) (.seq (.seq (.reg (Yi z sr ro sm is st)) (.cond (.t 185) (.reg (Yj z sr ro sm is st)) (.skip))) (.seq (.seq (.reg (Wu z sr ro sm is st)) (.cond (.t 199) (.reg (Wv z sr ro sm is st)) (.skip))) (.seq (.reg (Kh z sr ro sm is st)) (.cond (.t 213) (.reg (Ki z sr ro sm is st)) (.skip)))))))))))))
def G7:List RR:=[]

def T8 (z sr ro sm is st:Nat):List Am.Item:=[
  ⟨(some 10),.val (.mov (.t 1)),none⟩,
  ⟨(some 11),.val (.bin .num .add (.t 10) (.c (.int .i64 1))),none⟩,
  ⟨(some 8),.val (.mov (.t 11)),none⟩]
def T9 (z sr ro sm is st:Nat):List Am.Item:=[
  ⟨(some 12),.val (.mov (.t 8)),none⟩,
  ⟨(some 13),.val (.mov (.t 2)),none⟩,
  ⟨(some 14),.val (.bin .num .lss (.t 12) (.t 13)),none⟩]
def Aa (z sr ro sm is st:Nat):List Am.Item:=[
  ⟨(some 17),.val (.mov (.t 8)),none⟩,
  ⟨(some 9),.val (.mov (.t 17)),none⟩]
def Ab (z sr ro sm is st:Nat):List Am.Item:=[
  ⟨(some 18),.val (.mov (.t 9)),none⟩,
  ⟨(some 19),.val (.mov (.t 1)),none⟩,
  ⟨(some 20),.val (.bin .num .gtr (.t 18) (.t 19)),none⟩,
  ⟨(some 21),.val (.mov (.t 20)),none⟩,
  ⟨(some 22),.val (.mov (.t 3)),(some (21,true))⟩,
  ⟨(some 23),.val (.mov (.t 0)),(some (21,true))⟩,
  ⟨(some 24),.val (.mov (.t 9)),(some (21,true))⟩,
  ⟨(some 25),.val (.iaddr z none (.t 23) (.t 24)),(some (21,true))⟩,
  ⟨(some 26),.val (.loadr (some z) (.t 25)),(some (21,true))⟩,
  ⟨(some 27),.val (.mov (.t 0)),(some (21,true))⟩,
  ⟨(some 28),.val (.mov (.t 9)),(some (21,true))⟩,
  ⟨(some 29),.val (.bin .num .sub (.t 28) (.c (.int .i64 1))),(some (21,true))⟩,
  ⟨(some 30),.val (.iaddr z none (.t 27) (.t 29)),(some (21,true))⟩,
  ⟨(some 31),.val (.loadr (some z) (.t 30)),(some (21,true))⟩,
  ⟨(some 32),.call (.t 22) [(.t 26),(.t 31)],(some (21,true))⟩,
  ⟨(some 33),.val (.bin .num .lss (.t 32) (.c (.int .i64 0))),(some (21,true))⟩,
  ⟨(some 34),.val (.pick (.t 21) (.t 33) (.c (.bool false))),none⟩]
def Ac (z sr ro sm is st:Nat):List Am.Item:=[
  ⟨(some 37),.val (.mov (.t 0)),none⟩,
  ⟨(some 38),.val (.mov (.t 9)),none⟩,
  ⟨(some 39),.val (.mov (.t 0)),none⟩,
  ⟨(some 40),.val (.mov (.t 9)),none⟩,
  ⟨(some 41),.val (.bin .num .sub (.t 40) (.c (.int .i64 1))),none⟩,
  ⟨(some 42),.val (.mov (.t 0)),none⟩,
  ⟨(some 43),.val (.mov (.t 9)),none⟩,
  ⟨(some 44),.val (.bin .num .sub (.t 43) (.c (.int .i64 1))),none⟩,
  ⟨(some 45),.val (.iaddr z none (.t 42) (.t 44)),none⟩,
  ⟨(some 46),.val (.loadr (some z) (.t 45)),none⟩,
  ⟨(some 47),.val (.mov (.t 0)),none⟩,
  ⟨(some 48),.val (.mov (.t 9)),none⟩,
  ⟨(some 49),.val (.iaddr z none (.t 47) (.t 48)),none⟩,
  ⟨(some 50),.val (.loadr (some z) (.t 49)),none⟩,
  ⟨(some 51),.val (.iaddr z none (.t 37) (.t 38)),none⟩,
  ⟨none,.store z (.t 51) (.t 46),none⟩,
  ⟨(some 52),.val (.iaddr z none (.t 39) (.t 41)),none⟩,
  ⟨none,.store z (.t 52) (.t 50),none⟩]
def Ad (z sr ro sm is st:Nat):List Am.Item:=[
  ⟨(some 35),.val (.mov (.t 9)),none⟩,
  ⟨(some 36),.val (.bin .num .sub (.t 35) (.c (.int .i64 1))),none⟩,
  ⟨(some 9),.val (.mov (.t 36)),none⟩]
def Ae (z sr ro sm is st:Nat):RC:=.seq (.seq (.draw (Ab z sr ro sm is st)) (.cond (.t 34) (.skip) (.exit 2))) (.seq (.block 3 (.draw (Ac z sr ro sm is st))) (.reg (Ad z sr ro sm is st)))
def Af (z sr ro sm is st:Nat):List Am.Item:=[
  ⟨(some 15),.val (.mov (.t 8)),none⟩,
  ⟨(some 16),.val (.bin .num .add (.t 15) (.c (.int .i64 1))),none⟩,
  ⟨(some 8),.val (.mov (.t 16)),none⟩]
def Ag (z sr ro sm is st:Nat):RC:=.seq (.seq (.reg (T9 z sr ro sm is st)) (.cond (.t 14) (.skip) (.exit 0))) (.seq (.block 1 (.seq (.reg (Aa z sr ro sm is st)) (.block 2 (.loop (Ae z sr ro sm is st))))) (.reg (Af z sr ro sm is st)))
def ris (z sr ro sm is st:Nat):RC:=.seq (.reg (T8 z sr ro sm is st)) (.block 0 (.loop (Ag z sr ro sm is st)))
def ois:List RR:=[]

def Ah (z sr ro sm is st:Nat):List Am.Item:=[
  ⟨(some 6),.val (.mov (.c (.int .i64 20))),none⟩]
def Ai (z sr ro sm is st:Nat):List Am.Item:=[
  ⟨(some 10),.val (.mov (.t 6)),none⟩,
  ⟨(some 7),.val (.mov (.c (.int .i64 0))),none⟩,
  ⟨(some 8),.val (.mov (.t 10)),none⟩]
def Aj (z sr ro sm is st:Nat):List Am.Item:=[
  ⟨(some 11),.val (.mov (.t 8)),none⟩,
  ⟨(some 12),.val (.mov (.t 1)),none⟩,
  ⟨(some 13),.val (.bin .num .leq (.t 11) (.t 12)),none⟩]
def Ak (z sr ro sm is st:Nat):List Am.Item:=[
  ⟨(some 14),.val (.mov (.t 0)),none⟩,
  ⟨(some 15),.val (.mov (.t 7)),none⟩,
  ⟨(some 16),.val (.mov (.t 8)),none⟩,
  ⟨(some 17),.val (.mov (.t 2)),none⟩,
  ⟨(some 18),.callF (.f is) [(.t 14),(.t 15),(.t 16),(.t 17)],none⟩]
def Al (z sr ro sm is st:Nat):List Am.Item:=[
  ⟨(some 19),.val (.mov (.t 8)),none⟩,
  ⟨(some 7),.val (.mov (.t 19)),none⟩]
def An (z sr ro sm is st:Nat):List Am.Item:=[
  ⟨(some 20),.val (.mov (.t 8)),none⟩,
  ⟨(some 21),.val (.mov (.t 6)),none⟩,
  ⟨(some 22),.val (.bin .num .add (.t 20) (.t 21)),none⟩,
  ⟨(some 8),.val (.mov (.t 22)),none⟩]
def Ao (z sr ro sm is st:Nat):RC:=.seq (.seq (.reg (Aj z sr ro sm is st)) (.cond (.t 13) (.skip) (.exit 0))) (.block 1 (.seq (.reg (Ak z sr ro sm is st)) (.seq (.reg (Al z sr ro sm is st)) (.reg (An z sr ro sm is st)))))
def Ap (z sr ro sm is st:Nat):List Am.Item:=[
  ⟨(some 23),.val (.mov (.t 0)),none⟩,
  ⟨(some 24),.val (.mov (.t 7)),none⟩,
  ⟨(some 25),.val (.mov (.t 1)),none⟩,
  ⟨(some 26),.val (.mov (.t 2)),none⟩,
  ⟨(some 27),.callF (.f is) [(.t 23),(.t 24),(.t 25),(.t 26)],none⟩]
def Aq (z sr ro sm is st:Nat):List Am.Item:=[
  ⟨(some 28),.val (.mov (.t 6)),none⟩,
  ⟨(some 29),.val (.mov (.t 1)),none⟩,
  ⟨(some 30),.val (.bin .num .lss (.t 28) (.t 29)),none⟩]
def Ar (z sr ro sm is st:Nat):List Am.Item:=[
  ⟨(some 31),.val (.mov (.t 6)),none⟩,
  ⟨(some 32),.val (.bin .num .mul (.c (.int .i64 2)) (.t 31)),none⟩,
  ⟨(some 7),.val (.mov (.c (.int .i64 0))),none⟩,
  ⟨(some 8),.val (.mov (.t 32)),none⟩]
def As (z sr ro sm is st:Nat):List Am.Item:=[
  ⟨(some 33),.val (.mov (.t 8)),none⟩,
  ⟨(some 34),.val (.mov (.t 1)),none⟩,
  ⟨(some 35),.val (.bin .num .leq (.t 33) (.t 34)),none⟩]
def PY (z sr ro sm is st:Nat):List Am.Item:=[
  ⟨(some 36),.val (.mov (.t 0)),none⟩,
  ⟨(some 37),.val (.mov (.t 7)),none⟩,
  ⟨(some 38),.val (.mov (.t 7)),none⟩,
  ⟨(some 39),.val (.mov (.t 6)),none⟩,
  ⟨(some 40),.val (.bin .num .add (.t 38) (.t 39)),none⟩,
  ⟨(some 41),.val (.mov (.t 8)),none⟩,
  ⟨(some 42),.val (.mov (.t 2)),none⟩,
  ⟨(some 43),.callF (.f sm) [(.t 36),(.t 37),(.t 40),(.t 41),(.t 42)],none⟩]
def PZ (z sr ro sm is st:Nat):List Am.Item:=[
  ⟨(some 44),.val (.mov (.t 8)),none⟩,
  ⟨(some 7),.val (.mov (.t 44)),none⟩]
def P0 (z sr ro sm is st:Nat):List Am.Item:=[
  ⟨(some 45),.val (.mov (.t 8)),none⟩,
  ⟨(some 46),.val (.mov (.t 6)),none⟩,
  ⟨(some 47),.val (.bin .num .mul (.c (.int .i64 2)) (.t 46)),none⟩,
  ⟨(some 48),.val (.bin .num .add (.t 45) (.t 47)),none⟩,
  ⟨(some 8),.val (.mov (.t 48)),none⟩]
def Au (z sr ro sm is st:Nat):RC:=.seq (.seq (.reg (As z sr ro sm is st)) (.cond (.t 35) (.skip) (.exit 4))) (.block 5 (.seq (.reg (PY z sr ro sm is st)) (.seq (.reg (PZ z sr ro sm is st)) (.reg (P0 z sr ro sm is st)))))
def P1 (z sr ro sm is st:Nat):List Am.Item:=[
  ⟨(some 49),.val (.mov (.t 7)),none⟩,
  ⟨(some 50),.val (.mov (.t 6)),none⟩,
  ⟨(some 51),.val (.bin .num .add (.t 49) (.t 50)),none⟩,
  ⟨(some 9),.val (.mov (.t 51)),none⟩]
def P2 (z sr ro sm is st:Nat):List Am.Item:=[
  ⟨(some 52),.val (.mov (.t 9)),none⟩,
  ⟨(some 53),.val (.mov (.t 1)),none⟩,
  ⟨(some 54),.val (.bin .num .lss (.t 52) (.t 53)),none⟩]
def P3 (z sr ro sm is st:Nat):List Am.Item:=[
  ⟨(some 55),.val (.mov (.t 0)),none⟩,
  ⟨(some 56),.val (.mov (.t 7)),none⟩,
  ⟨(some 57),.val (.mov (.t 9)),none⟩,
  ⟨(some 58),.val (.mov (.t 1)),none⟩,
  ⟨(some 59),.val (.mov (.t 2)),none⟩,
  ⟨(some 60),.callF (.f sm) [(.t 55),(.t 56),(.t 57),(.t 58),(.t 59)],none⟩]
def B7 (z sr ro sm is st:Nat):List Am.Item:=[
  ⟨(some 61),.val (.mov (.t 6)),none⟩,
  ⟨(some 62),.val (.bin .num .mul (.t 61) (.c (.int .i64 2))),none⟩,
  ⟨(some 6),.val (.mov (.t 62)),none⟩]
def Av (z sr ro sm is st:Nat):RC:=.seq (.seq (.reg (Aq z sr ro sm is st)) (.cond (.t 30) (.skip) (.exit 2))) (.block 3 (.seq (.reg (Ar z sr ro sm is st)) (.seq (.block 4 (.loop (Au z sr ro sm is st))) (.seq (.seq (.reg (P1 z sr ro sm is st)) (.seq (.reg (P2 z sr ro sm is st)) (.cond (.t 54) (.reg (P3 z sr ro sm is st)) (.skip)))) (.reg (B7 z sr ro sm is st))))))
def rst (z sr ro sm is st:Nat):RC:=.seq (.reg (Ah z sr ro sm is st)) (.seq (.reg (Ai z sr ro sm is st)) (.seq (.block 0 (.loop (Ao z sr ro sm is st))) (.seq (.reg (Ap z sr ro sm is st)) (.block 2 (.loop (Av z sr ro sm is st))))))
def ost:List RR:=[]

def Aw (z sr ro sm is st:Nat):List Am.Item:=[
  ⟨(some 4),.val (.mov (.t 0)),none⟩,
  ⟨(some 5),.val (.mov (.t 0)),none⟩,
  ⟨(some 6),.val (.len 1 (.t 5)),none⟩,
  ⟨(some 7),.val (.mov (.t 1)),none⟩,
  ⟨(some 8),.callF (.f st) [(.t 4),(.t 6),(.t 7)],none⟩]
def rss (z sr ro sm is st:Nat):RC:=.reg (Aw z sr ro sm is st)
def oss:List RR:=[]

structure Cs (P:Program)(z sr ro sm is st ss:Nat):Prop where
 csr:CK P sr 38 (rsr z sr ro sm is st) osr
 cro:CK P ro 58 (rro z sr ro sm is st) oro
 csm:CK P sm 220 (T7 z sr ro sm is st) G7
 cis:CK P is 53 (ris z sr ro sm is st) ois
 cst:CK P st 63 (rst z sr ro sm is st) ost
 css:CK P ss 9 (rss z sr ro sm is st) oss

end Go.Proofs.YtdhlbgejhcejcaaGreatDoor.Tg

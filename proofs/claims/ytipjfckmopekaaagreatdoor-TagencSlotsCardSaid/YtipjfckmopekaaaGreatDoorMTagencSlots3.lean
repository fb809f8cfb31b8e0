/- Parts of the proof, in order. -/
import Derived.Test.YtipjfckmopekaaaGreatDoorMTagencSlots2

set_option linter.unusedSimpArgs false
namespace Go.Proofs.YtipjfckmopekaaaGreatDoor.Va
open Go Am Rc Bt Br

def key (o:PO):Bool:=if o.card=5 then decide (o.key≥1)&&decide (o.key≤7)&&o.key != 6 else o.key==0
def Gv (P:PL)(o:PO):Bool :=
 if o.kind=10 then decide (o.target≥0)&&decide (o.target<(P.progs.length:Int))&&o.card != 3
 else if o.kind=9 then decide (o.target≥0)&&decide (o.target<(P.enums.length:Int))else isk o.kind&&o.target == -1
def X4 (P:PL)(o:PO):Bool:=Hh o.alias&&decide ((o.alias.length:Int)≤4096)&&decide (o.card≥1)&&decide (o.card≤5)&&key o&&Gv P o
def XU (o:PO):Bool:=o.union == -1||o.card==2
def Z4:List PO→Int→Int→Option Int
 | [],n,_=>some n
 |o :: l,n,b=>if o.union=n then Z4 l (n+1) n else if o.union = -1∨o.union=b then Z4 l n o.union else none
def ZR (g:PG):Bool:=match Z4 g.ops 0 (-1)with
 |some n=>g.unions==n
 |none=>false
def Xx (k kd:Int)(b:Nat)(t:List UInt8)(l p s r:List AV):Bool :=
 isk k&&kd==k&&WR l p s r&&(if X9 kd=true then(b:Int)==0 else t==[])&&Yx k b&&decide ((t.length:Int)≤4096)&&(k != 7||Hh t)
def alias:List UInt8:=[97,108,105,97,115]
def nok:List AV→Bool
 | [.int _ kd,.int _ b,.str t,.list l,.list p,.list s,.list r]=>Xx 7 kd b.toNat t l p s r
 |_=>false
def ZS (i:PI):Bool:=match i.notes with
 | []=>true
 | [n]=>n.name==alias&&nok n.val
 |_=>false
def ZZ (P:PL)(g:PG):Bool:=ZR g&&g.ops.all fun o=>X4 P o&&XU o
def Ky (x:PE):Bool:=x.notes.isEmpty&&x.items.all ZS
def args (P:PL):Bool:=P.progs.all (ZZ P)&&P.enums.all Ky

theorem LL {α:Type}(l:List α)(p q:α→Bool):(l.all fun x=>p x&&q x)=(l.all p&&l.all q):=by
 induction l with
 |nil=>rfl
 |cons x l ih=>
  simp only[QWY,ih];cases p x<;>cases q x<;>cases l.all p<;>cases l.all q<;>rfl

theorem QPK (k kd:Int)(b:Nat)(t:List UInt8)(l p s r:List AV)(hl:l.length≤140737488351232)(hp:p.length≤140737488351232)(hs:s.length≤140737488351232)(hr:r.length≤140737488351232) :
  Qj Tryz.prog 279 [.int .i64 k,vo kd b t l p s r] (.bool (Xx k kd b t l p s r)):=by
 have hle:=QvE kd b t l p s r hl hp hs hr;have hw:=QPJ k b;simp only[vo]at hle;have n1:(kd != k)=!(kd==k):=rfl;have n2:(k != 7)=!(k==7):=rfl;have n3:decide ((t.length:Int) > 4096)=!decide ((t.length:Int)≤4096):=(by rw[QWH];simp only[QVS,QWL,QXE];omega);refine Qly.fn (by simp) ?_;simp only[vo,Xx,n2,eE,seval];refine Qb (F9 k) rfl rfl rfl (.inl rfl) ?_;cases isk k
 ·simp only[QXh,QWU,Qa,seval]
 simp only[QXo,QXp,n1,eE,seval];cases a1:(kd==k)
 ·simp only[QXh,QWU,Qa,seval]
 simp only[QXo,QXp,eE,seval];refine Qb hle rfl rfl rfl (.inl rfl) ?_;cases(WR l p s r&&(if X9 kd=true then(b:Int)==0 else t==[]))
 ·simp only[QXh,QWU,Qa,seval]
 simp only[QXo,QXp,eE,seval];refine Qb hw rfl rfl rfl (.inl rfl) ?_;cases Yx k b
 ·simp only[QXh,QWU,Qa,seval]
 simp only[QXo,QXp,n3,eE,seval];cases a2:decide ((t.length:Int)≤4096)
 ·simp only[QXh,QWU,Qa,seval]
 simp only[QXo,QXp,n2,Qa,seval];cases a3:(k==7)
 ·simp only[QWU,QXr,Qa,seval]
 ·simp only[QXp,QXs,eE,seval];refine Qb (QvB t) rfl rfl rfl (.inl rfl) ?_;simp only[Qa,seval]

theorem QPL (o:PO):Qj Tryz.prog 169 [Qt o] (.bool (key o)):=by
 refine QfA.fn (by simp) ?_;simp only[Qt,PO.cells,key,eE,seval];by_cases h:o.card=5
 ·have b0:(o.card != 5)=false:=by simp[h]
  simp only[b0,QWg h,eE,seval];cases a1:decide (o.key≥1)<;>cases a2:decide (o.key≤7)<;>simp only[a2,QXo,QXh,eE,seval]
 ·have b0:(o.card != 5)=true:=by simp[h]
  simp only[b0,QV1 h,eE,seval]

section
variable (P:PL)

theorem QPM (o:PO):Qj Tryz.prog 170 [P.av,Qt o] (.bool (Gv P o)):=by
 have e0:P.av=.agg [.list (P.progs.map Qn),.list (P.enums.map Qr)]:=rfl;refine QfK.fn (by simp) ?_;simp only[e0,Qt,PO.cells,Gv,eE,seval];by_cases h:o.kind=10
 ·have b0:(o.kind==10)=true:=by simp[h]
  simp only[b0,QWg h,eE,seval];cases a1:decide (o.target≥0)<;>cases a2:decide (o.target<(P.progs.length:Int))<;>simp only[a2,QXo,QXh,QWI,eE,seval]
 ·have b0:(o.kind==10)=false:=by simp[h]
  by_cases h9:o.kind=9
  ·have b1:(o.kind==9)=true:=by simp[h9]
   simp only[b0,b1,QV1 h,QWg h9,eE,seval];cases a1:decide (o.target≥0)<;>simp only[QXo,QXh,QWI,eE,seval]
  ·have b1:(o.kind==9)=false:=by simp[h9]
   simp only[b0,b1,QV1 h,QV1 h9,eE,seval];refine Qb (F9 o.kind) rfl rfl rfl (.inl rfl) ?_;cases isk o.kind<;>simp only[QXo,QXh,eE,seval]

def UnI (g:PG)(k:Nat)(st:St):Prop :=
 ∃f fr i n b,st=⟨f,[fr],[]⟩∧k=g.ops.length-i∧i≤g.ops.length∧(g.ops.take i).all XU=true∧Z4 g.ops 0 (-1)=Z4 (g.ops.drop i) n b∧0≤n∧n≤i∧-1≤b∧b<n∧f 1=.ptr 0 1 0∧f 3=.int .i64 (n-1)∧f 4=.int .i64 b∧
  f 8=.list (g.ops.map fun o=>.agg o.cells)∧f 9=.int .i64 (g.ops.length:Nat)∧f 10=.int .i64 (i:Nat)∧fr 1=.cells g.cells∧∀s∈[6],(fr s).isRow=false

theorem Gw {l:List PO}{i:Nat}{o:PO}(h:l[i]? = some o)(n b:Int):Z4 (l.drop i) n b=if o.union=n then Z4 (l.drop (i+1)) (n+1) n else if o.union = -1∨o.union=b then Z4 (l.drop (i+1)) n o.union else none:=by
 have hlt:i<l.length:=(QVN.1 h).1;rw[QWv hlt,show l[i]=o from(QVN.1 h).2];rfl

theorem QPN (g:PG)(hl:g.ops.length≤9223372036854775000):Qj Tryz.prog 166 [Qn g] (.bool (g.ops.all XU&&ZR g)):=by
 refine Qfj.fn (by simp) ?_;simp only[Qn,PG.cells,QWI,eE,seval];refine Qd (UnI g) _ ⟨_,_,0,0,-1,rfl,rfl,QVV _,rfl,rfl,by decide,by decide,by decide,by decide,(by rfl),(by rfl),(by rfl),(by rfl),(by rfl),(by rfl),(by rfl),by simp<;>rfl⟩ ?_;rintro _ st ⟨f0,fr0,i,n,b,rfl,rfl,hil,hu,hj,hn0,hni,hb1,hbn,h10,h30,h40,h80,h90,hA0,m10,r6⟩;refine QO (a:=_) [6] r6 ?_;intro f fr hf hm hn6;have h1:f 1=.ptr 0 1 0:=by rw[hf,h10]<;>rfl
 have h3:f 3=.int .i64 (n-1):=by rw[hf,h30]<;>rfl
 have h4:f 4=.int .i64 b:=by rw[hf,h40]<;>rfl
 have h8:f 8=.list (g.ops.map fun o=>.agg o.cells):=by rw[hf,h80]<;>rfl
 have h9:f 9=.int .i64 (g.ops.length:Nat):=by rw[hf,h90]<;>rfl
 have hA:f 10=.int .i64 (i:Nat):=by rw[hf,hA0]<;>rfl
 have m1:fr 1=.cells g.cells:=by rw[hm 1 (by decide),m10]<;>rfl
 have n6:=hn6 6 (by decide);clear hf hm hn6 h10 h30 h40 h80 h90 hA0 m10 r6;simp only[PG.cells]at m1;have w0:IntKind.i64.wrap (n-1+1)=n:=by rw[QG];omega
 simp only[h9,hA,Qa,seval];by_cases hlt:i<g.ops.length
 ·obtain⟨o,hi⟩:∃o,g.ops[i]? = some o:=⟨g.ops[i],QVO hlt⟩;have hg:(g.ops.map fun o=>AV.agg o.cells)[i]? = some (.agg o.cells):=by simp[hi]
  have e1:=Qm i _ hlt (by simp only[maxLen];omega);have ht:=Q3 (q:=XU) hi;rw[hu,QXo]at ht;have hbad:XU o=false→g.ops.all XU=false:=fun h=>by
   rw[QXA];intro h';rw[QVZ.1 h' o (QV0 hi)]at h;cases h
  rw[Gw hi]at hj;have fin:∀(f':Fr) (fr':Nat→Ob) (n':Int),XU o=true→(if o.union=n then n'=n+1 else n'=n)→Z4 g.ops 0 (-1)=Z4 (g.ops.drop (i+1)) n' o.union→(o.union=n∨o.union = -1∨o.union=b)→f' 1=.ptr 0 1 0→f' 3=.int .i64 (n'-1)→f' 4=.int .i64 o.union→
    f' 8=.list (g.ops.map fun o=>.agg o.cells)→f' 9=.int .i64 (g.ops.length:Nat)→f' 10=.int .i64 ((i+1:Nat):Int)→fr' 1=.cells g.cells→(∀s∈[6],(fr' s).isRow=false)→∃k,k<g.ops.length-i∧UnI g k ⟨f',[fr'],[]⟩:=by
   intro f' fr' n' a b' c d e1 e3 e4 e8 e9 eA em er;refine⟨g.ops.length-(i+1),by omega,f',fr',i+1,n',o.union,rfl,rfl,by omega,by rw[ht,a],c,?_,?_,?_,?_,e1,e3,e4,e8,e9,eA,em,er⟩<;>split at b'<;>omega
  simp only[PO.cells]at hg;simp only[Ql hlt,Qh,QXe,Qc,hg,PO.cells,n6,h8,hA,eE,seval];by_cases a1:o.union = -1
  ·have b1:(o.union != -1)=false:=by simp[a1]
   have hk:XU o=true:=by simp[XU,a1]
   rw[QV1 (by omega),QWg (.inl a1)]at hj;have mx:(if n-1<o.union then o.union else n-1)=n-1:=QV1 (by omega);simp only[b1,h3,hA,mx,e1,eE,seval];exact fin _ _ n hk (by rw[QV1 (by omega)]) hj (.inr (.inl a1)) (by exact h1) (by rfl) (by rfl) (by exact h8) (by exact h9) (by rfl) (by exact m1) (by simp<;>rfl)
  have b1:(o.union != -1)=true:=by simp[a1]
  by_cases a2:o.card=2
  case neg=>
   have b2:(o.card != 2)=true:=by simp[a2]
   have hk:XU o=false:=by simp[XU,a1,a2]
   simp only[b1,b2,hbad hk,QXh,eE,seval]
  have b2:(o.card != 2)=false:=by simp[a2]
  have hk:XU o=true:=by simp[XU,a2]
  by_cases a3:o.union=n
  ·have b3:(o.union != n)=false:=by simp[a3]
   rw[QWg a3,←a3]at hj;have mx:(if n-1<o.union then o.union else n-1)=o.union:=QWg (by omega);simp only[b1,b2,b3,h3,hA,w0,mx,e1,eE,seval];exact fin _ _ (o.union+1) hk (by rw[QWg a3,a3]) hj (.inl a3) (by exact h1) (by simp only[Qa,seval];congr 1;omega) (by rfl) (by exact h8) (by exact h9) (by rfl) (by exact m1) (by simp<;>rfl)
  have b3:(o.union != n)=true:=by simp[a3]
  by_cases a4:o.union=b
  ·have b4:(o.union != b)=false:=by simp[a4]
   rw[QV1 a3,QWg (.inr a4)]at hj;have mx:(if n-1<o.union then o.union else n-1)=n-1:=QV1 (by omega);simp only[b1,b2,b3,b4,h3,h4,hA,w0,mx,e1,eE,seval];exact fin _ _ n hk (by rw[QV1 a3]) hj (.inr (.inr a4)) (by exact h1) (by rfl) (by rfl) (by exact h8) (by exact h9) (by rfl) (by exact m1) (by simp<;>rfl)
  ·have b4:(o.union != b)=true:=by simp[a4]
   rw[QV1 a3,QV1 (by omega)]at hj;have hun:ZR g=false:=by unfold ZR;rw[hj]
   simp only[b1,b2,b3,b4,hun,QXF,h3,h4,w0,eE,seval]
 ·rw[QWl (by omega)]at hu;rw[QWo (by omega)]at hj;have hun:ZR g=(g.unions==n):=by unfold ZR;rw[hj];rfl
  simp only[Qy hlt,h1,h3,m1,w0,hu,hun,QXo,eE,seval]

theorem QPO (o:PO)(fr2 fr:Nat→Ob)(h1:fr 1=.cells [.list (P.progs.map Qn),.list (P.enums.map Qr)]):Qi Tryz.prog 167 [Qt o,.ptr 7 1 0] [Qe,Qe,Qe,fr2,Qe,Qe,Qe,fr] fun y m1=>y=.bool (!X4 P o)∧m1=[Qe,Qe,Qe,fr2,Qe,Qe,Qe,fr]:=by
 have n1:decide ((o.alias.length:Int) > 4096)=!decide ((o.alias.length:Int)≤4096):=(by rw[QWH];simp only[QVS,QWL,QXE];omega);have n2:decide (o.card<1)=!decide (o.card≥1):=(by rw[QWH];simp only[QVS,QWL,QXE];omega);have n3:decide (o.card > 5)=!decide (o.card≤5):=(by rw[QWH];simp only[QVS,QWL,QXE];omega);have hk:=QPL o;have ha:Qj Tryz.prog 170 [.agg [.list (P.progs.map Qn),.list (P.enums.map Qr)],Qt o] (.bool (Gv P o)):=QPM P o;simp only[Qt,PO.cells]at hk ha;refine Qfo.go (by simp) ?_;simp only[Qt,PO.cells,X4,eE,seval];refine Qb (QvB o.alias) rfl rfl rfl (.inl rfl) ?_;cases Hh o.alias
 ·simp only[QXh,QWU,Qa,seval]
 simp only[QXo,QXp,n1,eE,seval];cases a1:decide ((o.alias.length:Int)≤4096)
 ·simp only[QXh,QWU,Qa,seval]
 simp only[n2,QXo,QXp,eE,seval];cases a2:decide (o.card≥1)
 ·simp only[QXh,QWU,Qa,seval]
 simp only[n3,QXo,QXp,eE,seval];cases a3:decide (o.card≤5)
 ·simp only[QXh,QWU,Qa,seval]
 simp only[QXo,QXp,eE,seval];refine Qb hk rfl rfl rfl (.inl rfl) ?_;cases key o
 ·simp only[QXh,QWU,Qa,seval]
 simp only[QXo,QXp,h1,eE,seval];refine Qb ha rfl rfl rfl (.inl rfl) ?_;simp only[Qa,seval]

theorem QPP (g:PG)(hl:g.ops.length≤9223372036854775000)(fr:Nat→Ob)(h1:fr 1=.cells [.list (P.progs.map Qn),.list (P.enums.map Qr)]) :
  Qi Tryz.prog 165 [Qn g,.ptr 3 1 0] [Qe,Qe,Qe,fr] fun y m1=>y=.bool (!ZZ P g)∧m1=[Qe,Qe,Qe,fr]:=by
 have hu:=QPN g hl;have e:ZZ P g=((g.ops.all XU&&ZR g)&&g.ops.all (X4 P)):=by
  unfold ZZ;rw[show(g.ops.all fun o=>X4 P o&&XU o)=(g.ops.all (X4 P)&&g.ops.all XU)from LL ..];cases ZR g<;>cases g.ops.all (X4 P)<;>cases g.ops.all XU<;>rfl
 simp only[Qn,PG.cells]at hu;refine Qe5.go (by simp) ?_;simp only[Qn,PG.cells,e,eE,seval];refine Qb hu rfl rfl rfl (.inl rfl) ?_;cases(g.ops.all XU&&ZR g)
 ·simp only[QXh,QWU,Qa,seval]
 simp only[QXo,QXp,eE,seval];refine Qk (Bf g.ops (by simp only[maxLen];omega) (fun o=>!X4 P o) 167 [.ptr 4 1 0] _ fun o _=>QPO P o _ fr h1) (by simp only[QWj,QWO,Qa,seval]<;>rfl) ?_;simp only[Xk,Qa,seval]

end

def VX:FM:=fun k=>match k with
 |249=>some (Qt1,Qt2,16)
 |_=>none
theorem NT:Gb Tryz.prog VX:=by
 intro k c rs N h;unfold VX at h;split at h
 ·cases h;exact QNQ
 ·cases h
def M2:Option (AV×Qq)→Bool
 |some (.mp ks vs,_)=>match JF alias ks vs with
  |some (.agg [.int .i64 a,.int .i64 b])=>a==7&&b==84
  |_=>false
 |_=>false
theorem M3:M2 (W8 Ev.nat VX (Z2 Ev.nat VX 300) 249 [] [])=true:=by decide +kernel
theorem QvG:∃ks vs,Qj Tryz.prog 249 [] (.mp ks vs)∧JF alias ks vs=some (.agg [.int .i64 7,.int .i64 84]):=by
 have h:=M3;unfold M2 at h;split at h
 ·rename_i ks vs m' h1;split at h
  ·rename_i a b h2;simp only[QWb,QVT]at h;obtain⟨rfl,rfl⟩:=h;exact⟨ks,vs,(WL Ev.nat_ok NT (Mc Ev.nat_ok NT 300) _ _ _ _ _ h1).mono fun _ _ e=>e.1,h2⟩
  ·cases h
 ·cases h

theorem QPQ:Qj Tryz.prog 278 [.str alias] (.int .i64 7):=by
 obtain⟨ks,vs,h1,h2⟩:=QvG;have hg:AV.gr (.agg [.int .i64 7,.int .i64 84])=true:=rfl;refine QOh.fn (by simp) ?_;simp only[Qa,seval];refine Qb h1 rfl rfl rfl (.inl rfl) ?_;simp only[WE,h2,hg,Qa,seval]

section
variable (kd:Int)(b:Nat)(t:List UInt8)(l p s r:List AV)(hl:l.length≤140737488351232)(hp:p.length≤140737488351232)(hs:s.length≤140737488351232)(hr:r.length≤140737488351232)

def nv:AV:=.agg [.str alias,.int .i64 kd,.int .u64 (b:Nat),.str t,.list l,.list p,.list s,.list r]

include hl hp hs hr in
theorem QPR:Qj Tryz.prog 250 [nv kd b t l p s r] (.bool (Xx 7 kd b t l p s r)):=by
 have hf:=QPK 7 kd b t l p s r hl hp hs hr;have b0:((7:Int) != 0)=true:=rfl;simp only[vo]at hf;refine QNT.fn (by simp) ?_;simp only[nv,eE,seval];refine Qb QPQ rfl rfl rfl (.inl rfl) ?_;simp only[b0,eE,seval];refine Qb hf rfl rfl rfl (.inl rfl) ?_;simp only[Qa,seval]

include hl hp hs hr in
theorem QPS (last:List UInt8):Qj Tryz.prog 218 [nv kd b t l p s r,.int .i64 4,.str last,.bool false] (.int .i64 (if Xx 7 kd b t l p s r=true then 0 else 12)):=by
 have hf:=QPR kd b t l p s r hl hp hs hr;obtain⟨ks,vs,h1,h2⟩:=QvG;have hg:AV.gr (.agg [.int .i64 7,.int .i64 84])=true:=rfl;have b0:decide ((4:Int)<1)=false:=rfl;have b1:decide ((4:Int) > 6)=false:=rfl;have b2:(0≤(4:Int))=True:=by simp
 have b3:(bits .and .i64 (Int.fdiv 84 (2 ^ min 4 64)) 1==0)=false:=by decide
 have b4:(bits .and .i64 ((84:Int).fdiv (2 ^ (min (4:Int).toNat IntKind.i64.bits))) 1==0)=false:=by decide
 simp only[nv]at hf;refine QNm.fn (by simp) ?_;simp only[nv,eE,seval];refine Qb h1 rfl rfl rfl (.inl rfl) ?_;simp only[h2,hg,b2,b3,eE,seval];refine Qb hf rfl rfl rfl (.inl rfl) ?_;cases Xx 7 kd b t l p s r
 ·simp only[QWU,QV6,Qa,seval]
 ·simp only[QXp,Qa,seval]

def NcI (k:Nat)(st:St):Prop :=
 ∃f fr i,st=⟨f,[fr],[]⟩∧k=1-i∧i≤1∧(i=0→∃last,f 5=.str last)∧(i=1→Xx 7 kd b t l p s r=true)∧f 1=.int .i64 4∧f 12=.list [nv kd b t l p s r]∧f 13=.int .i64 1∧f 14=.int .i64 (i:Nat)∧∀s∈[7],(fr s).isRow=false

include hl hp hs hr in
theorem QPT:Qj Tryz.prog 173 [.list [nv kd b t l p s r],.int .i64 4] (.int .i64 (if Xx 7 kd b t l p s r=true then 0 else 12)):=by
 have b0:decide (((1:Nat):Int) > 8)=false:=rfl;refine QME.fn (by simp) ?_;simp only[QV2,QWJ,QWt,Qa,seval];refine Qd (NcI kd b t l p s r) 1 ⟨_,_,0,rfl,rfl,QVV _,fun _=>⟨[],(by rfl)⟩,(fun h=>by cases h),(by rfl),(by rfl),(by rfl),(by rfl),by simp<;>rfl⟩ ?_;rintro _ st ⟨f0,fr0,i,rfl,rfl,hi,hl5,hf,h10,h120,h130,h140,r7⟩;refine QO (a:=_) [7] r7 ?_;intro f fr hff hm hn7;have h1:f 1=.int .i64 4:=by rw[hff,h10]<;>rfl
 have h12:f 12=.list [nv kd b t l p s r]:=by rw[hff,h120]<;>rfl
 have h13:f 13=.int .i64 1:=by rw[hff,h130]<;>rfl
 have h14:f 14=.int .i64 (i:Nat):=by rw[hff,h140]<;>rfl
 have h5:i=0→∃last,f 5=.str last:=fun h=>by
  obtain⟨la,e⟩:=hl5 h;exact⟨la,by rw[hff,e]<;>rfl⟩
 have n7:=hn7 7 (by decide);clear hff hm hn7 h10 h120 h130 h140 r7 hl5;have ho:=fun la=>QPS kd b t l p s r hl hp hs hr la
 simp only[nv]at ho h12;simp only[h13,h14,Qa,seval];rcases Nat.le_one_iff_eq_zero_or_eq_one.1 hi with rfl|rfl
 ·obtain⟨la,h5⟩:=h5 rfl;have c0:decide (((0:Nat):Int)<1)=true:=rfl;have c1:decide (((0:Nat):Int) > 0)=false:=rfl;have e1:IntKind.i64.wrap (((0:Nat):Int)+1)=((1:Nat):Int):=rfl;have z0:(0≤((0:Nat):Int))=True:=by simp
  have z1:Int.toNat ((0:Nat):Int)=0:=rfl;simp only[Qc,n7,h1,h5,h12,h14,eE,seval];refine Qb (ho la) rfl rfl rfl (.inl rfl) ?_;cases hfv:Xx 7 kd b t l p s r
  ·have d0:((12:Int) != 0)=true:=rfl;simp only[d0,QV6,Qa,seval]
  ·have d0:((0:Int) != 0)=false:=rfl;simp only[d0,h14,eE,seval];exact⟨0,by omega,_,_,1,rfl,rfl,QVL _,(fun h=>by cases h),fun _=>hfv,(by exact h1),(by exact h12),(by exact h13),(by rfl),by simp<;>rfl⟩
 ·have c0:decide (((1:Nat):Int)<1)=false:=rfl;simp only[hf rfl,Qa,seval]

end

theorem VY {M:Nat}{n:PN}(h:n.ok Tryz.prog M 32)(hM:M≤140737488351232):∃kd b t l p s r,n.val=[.int .i64 kd,.int .u64 ((b:Nat):Int),.str t,.list l,.list p,.list s,.list r]∧t.length≤M∧l.length≤140737488351232∧p.length≤140737488351232∧s.length≤140737488351232∧r.length≤140737488351232:=by
 obtain⟨_,k,hk⟩:=h;obtain⟨k,h⟩:=X6 Tryz.underlying32 hk;simp only[Q6.HasL]at h;obtain⟨_,_,e,h0,_,_,rfl,h1,_,_,rfl,h2,_,_,rfl,h3,_,_,rfl,h4,_,_,rfl,h5,_,_,rfl,h6,rfl⟩:=h;obtain⟨a0,rfl,w0⟩:=Xo Tryz.underlying3 h0;obtain⟨a1,rfl,w1⟩:=Xo Tryz.underlying26 h1;obtain⟨a2,rfl,w2⟩:=Jq Tryz.underlying9 h2;obtain⟨_,l3,rfl,w3,_⟩:=K9 Tryz.underlying27 h3;obtain⟨_,l4,rfl,w4,_⟩:=K9 Tryz.underlying28 h4;obtain⟨_,l5,rfl,w5,_⟩:=K9 Tryz.underlying29 h5;obtain⟨_,l6,rfl,w6,_⟩:=K9 Tryz.underlying30 h6;have hb:0≤a1:=FK w1;obtain⟨b,rfl⟩:=QXq hb;exact⟨a0,b,a2,_,_,_,_,e,w2,by simp;omega,by simp;omega,by simp;omega,by simp;omega⟩

theorem QPU {M:Nat}(hM:M≤140737488351232)(x:PI)(hx:x.ok M)(m:Qq):Qi Tryz.prog 172 [Xg x] m fun y m1=>y=.bool (!ZS x)∧m1=m:=by
 have z0:(0≤(0:Int))=True:=by simp
 have z1:Int.toNat 0=0:=rfl;refine QMB.go (by simp) ?_;simp only[Xg,PI.cells,QWI,eE,seval];rcases hn:x.notes with _|⟨n,_|⟨n2,ns⟩⟩
 ·have c0:decide (((0:Nat):Int) > 1)=false:=rfl;have c1:(((0:Nat):Int)==1)=false:=rfl;have e:ZS x=true:=by unfold ZS;rw[hn]
  simp only[QWJ,QWO,e,QXp,eE,seval]
 ·obtain⟨kd,b,t,l,p,s,r,hv,ht,h3,h4,h5,h6⟩:=VY (hx.notes n (by rw[hn];simp)) hM;have c0:decide (((1:Nat):Int) > 1)=false:=rfl;have c1:(((1:Nat):Int)==1)=true:=rfl;have e:ZS x=(n.name==alias&&Xx 7 kd b t l p s r):=by
   unfold ZS;rw[hn];show(n.name==alias&&nok n.val)=_;rw[hv];rfl
  have en:Xn n.cells=.agg [.str n.name,.int .i64 kd,.int .u64 ((b:Nat):Int),.str t,.list l,.list p,.list s,.list r]:=by
   rw[PN.cells,hv];rfl
  have hne:(!(n.name==[97,108,105,97,115]))=!(n.name==alias):=rfl;have hc:=QPT kd b t l p s r h3 h4 h5 h6;simp only[nv]at hc;simp only[QV2,QWJ,QWj,QWO,QWt,en,Qc,z0,z1,QWP,QL,hne,e,eE,seval];by_cases ha:n.name=alias
  ·have b0:(n.name==alias)=true:=by simp[ha]
   rw[←ha]at hc;simp only[b0,QXp,QXo,eE,seval];refine Qb hc rfl rfl rfl (.inl rfl) ?_;cases Xx 7 kd b t l p s r
   ·have d0:((12:Int) != 0)=true:=rfl;simp only[QV6,d0,QWU,Qa,seval]
   ·have d0:((0:Int) != 0)=false:=rfl;simp only[d0,QXp,Qa,seval]
  ·have b0:(n.name==alias)=false:=by simp[ha]
   simp only[b0,QWU,QXh,Qa,seval]
 ·have c0:decide ((((ns.length+1+1:Nat)):Int) > 1)=true:=QXD (by omega);have e:ZS x=false:=by unfold ZS;rw[hn]
  simp only[QV2,c0,e,QWU,Qa,seval]

theorem QPV {M:Nat}(hM:M≤140737488351232)(x:PE)(hx:x.ok M)(m:Qq):Qi Tryz.prog 171 [Qr x] m fun y m1=>y=.bool (!Ky x)∧m1=m:=by
 have n1:decide ((x.notes.length:Int) > 0)=!x.notes.isEmpty:=by
  cases x.notes with
  |nil=>rfl
  |cons a l=>simp
 refine QMy.go (by simp) ?_;simp only[Qr,PE.cells,QWI,Ky,n1,eE,seval];cases a1:x.notes.isEmpty
 ·simp only[QWU,QXh,Qa,seval]
 simp only[QXp,QXo,eE,seval];refine Qk (VS x.items hx.len1 (fun o=>!ZS o) 172 [] _ fun o ho=>QPU hM o (hx.items o ho) _) (by simp only[QWj,QWO,Qa,seval]<;>rfl) ?_;simp only[Xk,Qa,seval]

theorem z88 {M:Nat}(hM:M≤140737488351232)(P:PL)(hP:P.ok M)(hl:∀g∈P.progs,g.ops.length≤64):Qj Tryz.prog 88 [P.av] (.bool (!args P)):=by
 have e0:P.av=.agg [.list (P.progs.map Qn),.list (P.enums.map Qr)]:=rfl;refine k88.fn (by simp) ?_;simp only[e0,args,eE,seval];refine Qk (Dj P.progs hP.len1 (fun g=>!ZZ P g) 165 [.ptr 0 1 0] _ fun o ho=>QPP P o (QVM (hl o ho) (by decide)) _ (by rfl)) (by simp only[QWj,QWO,Qa,seval]<;>rfl) ?_;simp only[Xk,Qa,seval];cases P.progs.all (ZZ P)
 ·simp only[QWU,QXh,Qa,seval]
 simp only[QXp,QXo,eE,seval];refine Qk (Hx P.enums hP.len2 (fun g=>!Ky g) 171 [] _ fun o ho=>QPV hM o (hP.enums o ho) _) (by simp only[QWj,QWO,Qa,seval]<;>rfl) ?_;simp only[Xk,Qa,seval]

def Xy (B:List Bool)(o:PO):Bool:=o.card==1&&o.kind==10 && !(B[o.target.toNat]?.getD false)
def Ui (G:List PG)(B:List Bool)(i:Nat):List Bool:=match G[i]? with
 |some g=>B.set i (!g.ops.any (Xy B))
 |none=>B
def Z5 (G:List PG)(B:List Bool):Nat→List Bool
 |0=>B
 |i+1=>Ui G (Z5 G B i) i
def Qf (G:List PG):Nat→List Bool
 |0=>List.replicate G.length false
 |c+1=>Z5 G (Qf G c) G.length
def fin (P:PL):Bool:=(Qf P.progs P.progs.length).all id

def M4 (P:PL):Prop:=∀g∈P.progs,∀o∈g.ops,o.kind=10→0≤o.target∧o.target<(P.progs.length:Int)

theorem LM (G:List PG)(B:List Bool)(i:Nat):(Ui G B i).length=B.length:=by
 unfold Ui;split<;>simp
theorem UJ (G:List PG)(B:List Bool):∀i,(Z5 G B i).length=B.length
 |0=>rfl
 |i+1=>by rw[Z5,LM,UJ G B i]
theorem UK (G:List PG):∀c,(Qf G c).length=G.length
 |0=>by simp[Qf]
 |c+1=>by rw[Qf,UJ,UK G c]

def NU (G:List PG)(B:List Bool):Prop:=∀(i:Nat) (g:PG),G[i]? = some g→B[i]? = some true→g.ops.any (Xy B)=false

theorem M5 {B B':List Bool}(h:∀k:Nat,B[k]?.getD false=true→B'[k]?.getD false=true){o:PO}(hn:Xy B o=false):Xy B' o=false:=by
 unfold Xy at *;cases hc:(o.card==1&&o.kind==10)
 ·rfl
 ·rw[hc]at hn;simp only[QXo,Bool.not_eq_false']at hn ⊢;rw[h _ hn]

theorem LN {G:List PG}{B:List Bool}(h:NU G B)(i:Nat):NU G (Ui G B i)∧∀k:Nat,B[k]?.getD false=true→(Ui G B i)[k]?.getD false=true:=by
 have mono:∀k:Nat,B[k]?.getD false=true→(Ui G B i)[k]?.getD false=true:=by
  intro k hk;unfold Ui;split
  ·rename_i g hg;by_cases hki:i=k
   ·subst hki;have hb:B[i]? = some true:=by
     cases hB:B[i]? with
     |none=>rw[hB]at hk;cases hk
     |some b=>rw[hB]at hk;simp at hk;rw[hk]
    have hlt:=(QVN.1 hb).1;rw[List.getElem?_set_self hlt,h i g hg hb];rfl
   ·rw[QXH hki];exact hk
  ·exact hk
 refine⟨fun j g hg hb=>?_,mono⟩;rw[List.any_eq_false];intro o ho;rw[Bool.not_eq_true];have hB:B[j]? = some true∨g.ops.any (Xy B)=false:=by
  unfold Ui at hb;split at hb
  ·rename_i g' hg';by_cases hij:i=j
   ·subst hij;rw[hg]at hg';cases hg'
    right
    by_cases hlt:i<B.length
    ·rw[List.getElem?_set_self hlt]at hb
     simpa using hb
    ·rw[QXb (by simp;omega)]at hb;cases hb
   ·rw[QXH hij]at hb;exact .inl hb
  ·exact .inl hb
 have ha:g.ops.any (Xy B)=false:=hB.elim (h j g hg) id;rw[List.any_eq_false]at ha;exact M5 mono (by simpa using ha o ho)

theorem Dl {G:List PG}{B:List Bool}(h:NU G B):∀i,NU G (Z5 G B i)
 |0=>h
 |i+1=>(LN (Dl h i) i).1
theorem NV (G:List PG):∀c,NU G (Qf G c)
 |0=>by
  intro i g _ hb;rw[Qf,List.getElem?_replicate]at hb;split at hb<;>cases hb
 |c+1=>Dl (NV G c) _

theorem QvH {G:List PG}{B:List Bool}(h:NU G B){i:Nat}{g:PG}{b:Bool}(hg:G[i]? = some g)(hb:B[i]? = some b):Ui G B i=B.set i (b || !g.ops.any (Xy B)):=by
 unfold Ui;rw[hg];cases b with
 |false=>rfl
 |true=>
  show B.set i _=B.set i (true||_);rw[h i g hg hb];rfl

theorem VZ {P:Program}{f:Fr}{d:Nat}{Qf:List Am.Item}{m:Qq}{ds:List DF}{K:St→Prop}{k l s:Nat}{args:List RA}{ys:List AV}{v:AV}(hk:Qi P k ys m fun x m1=>x=v∧m1=m)(hy:args.map (RA.ev f)=ys)(h:QF P Qf ⟨QJ f d v,m,ds⟩ K) :
  QF P (⟨some d,.callK l s (.f k) args,none⟩ :: Qf) ⟨f,m,ds⟩ K:=by
 refine⟨k,[],[],v,m,rfl,?_,rfl,h⟩;show Qi P k (args.map (RA.ev f)++[]) m fun x m1=>x=v∧m1=m
 rw[QWQ,hy];exact hk

theorem QPW (B:List Bool)(hl:B.length≤maxLen):Qj Tryz.prog 219 [.list (B.map AV.bool),.bool false] (.int .i64 (XH (fun b=>!b) B 0)):=by
 let I:Nat→St→Prop:=fun k st=>∃f i,st=⟨f,[Qe],[]⟩∧k=B.length-i∧XH (fun b=>!b) B 0=XH (fun b=>!b) (B.drop i) i∧f 0=.list (B.map AV.bool)∧f 1=.bool false∧f 7=.int .i64 (B.length:Nat)∧f 8=.int .i64 (i:Nat)
 refine Qjc.fn (by simp) ?_;simp only[QWI,Qa,seval];refine Qd I _ ⟨_,0,rfl,rfl,rfl,(by rfl),(by rfl),(by rfl),(by rfl)⟩ ?_;rintro _ st ⟨f,i,rfl,rfl,hx,h0,h1,h7,h8⟩;simp only[h7,h8,Qa,seval];by_cases hlt:i<B.length
 ·obtain⟨x,hi⟩:∃x,B[i]? = some x:=⟨B[i],QVO hlt⟩;have hg:(B.map AV.bool)[i]? = some (.bool x):=by simp[hi]
  have e1:=Qm i _ hlt hl;rw[Je _ hi]at hx;cases x
  ·rw[QWg (show(!false)=true from rfl)]at hx;have b0:(false==false)=true:=rfl;simp only[Ql hlt,Qh,QXe,Qc,hg,b0,h0,h1,h8,hx,eE,seval]
  ·rw[QV1 (by decide)]at hx;have b0:(false==true)=false:=rfl;simp only[Ql hlt,Qh,QXe,Qc,hg,b0,h0,h1,h8,e1,eE,seval];exact⟨B.length-(i+1),by omega,_,i+1,rfl,rfl,hx,(by exact h0),(by exact h1),(by exact h7),(by rfl)⟩
 ·have hx':XH (fun b=>!b) B 0 = -1:=by rw[hx,QWo (by omega)];rfl
  simp only[Qy hlt,hx',Qa,seval]

theorem QPX (B:List Bool)(hl:B.length≤maxLen):Qj Tryz.prog 175 [.list (B.map AV.bool),.bool false] (.bool (!B.all id)):=by
 have e:(!B.all id)=B.any fun b=>!b:=by rw[Xk];rfl
 refine QfU.fn (by simp) ?_;simp only[Qa,seval];refine Qb (QPW B hl) rfl rfl rfl (.inl rfl) ?_;simp only[JL,e,Qa,seval]

theorem QPY (o:PO)(n:Nat)(B:List Bool)(hB:B.length=n)(ht:o.kind=10→0≤o.target∧o.target<(n:Int))(fr:Nat→Ob)(m:Qq)(h3:fr 3=.cells [.vec 0 9 1 0 n false])(h9:fr 9=.vec 1 1 (B.map AV.bool)) :
  Qi Tryz.prog 174 [Qt o,.ptr 3 3 0] (Qe :: Qe :: Qe :: fr :: m) fun y m1=>y=.bool (Xy B o)∧m1=Qe :: Qe :: Qe :: fr :: m:=by
 refine QfP.go (by simp) ?_;simp only[Qt,PO.cells,Xy,eE,seval];cases a1:(o.card==1)
 ·simp only[QXh,Qa,seval]
 cases a2:(o.kind==10)
 ·simp only[a2,QXh,QXF,eE,seval]
 obtain⟨t1,t2⟩:=ht (by simpa using a2);obtain⟨t,hte⟩:=QXq t1;obtain⟨y,hy⟩:∃y,B[t]? = some y:=⟨B[t]'(by omega),QVO (by omega)⟩;have hg:(B.map AV.bool)[t]? = some (.bool y):=by simp[hy]
 have hlt:(t<n)=True:=eq_true (by omega);simp only[a2,hte,hy,hg,hlt,h3,h9,Qc,Qh,QXe,QWX,QXo,QWt,eE,seval]

structure En (P:PL)(c:Nat)(B:List Bool)(f:Fr)(fr:Nat→Ob):Prop where
 h1:f 1=.ptr 0 1 0
 m1:fr 1=.cells [.list (P.progs.map Qn),.list (P.enums.map Qr)]
 h3:f 3=.ptr 0 3 0
 m3:fr 3=.cells [.vec 0 9 1 0 P.progs.length false]
 m9:fr 9=.vec 1 1 (B.map AV.bool)
 h12:f 12=.int .i64 (P.progs.length:Nat)
 h13:f 13=.int .i64 (c:Nat)
 r5:∀s∈[5],(fr s).isRow=false

theorem En.drop {P:PL}{c:Nat}{B:List Bool}{f f':Fr}{fr fr':Nat→Ob}(h:En P c B f fr)(hf:∀i,f' i=VE [5] (f i))(hm:∀i,i∉[5]→fr' i=H9 [5] (fr i))(hn:∀i∈[5],fr' i=.none):En P c B f' fr' where
 h1:=by rw[hf,h.h1]<;>rfl
 m1:=by rw[hm 1 (by decide),h.m1]<;>rfl
 h3:=by rw[hf,h.h3]<;>rfl
 m3:=by rw[hm 3 (by decide),h.m3]<;>rfl
 m9:=by rw[hm 9 (by decide),h.m9]<;>rfl
 h12:=by rw[hf,h.h12]<;>rfl
 h13:=by rw[hf,h.h13]<;>rfl
 r5:=fun s hs=>by rw[hn s hs]<;>rfl

def EnA (P:PL)(k:Nat)(st:St):Prop:=∃f fr c,st=⟨f,[fr],[]⟩∧k=P.progs.length-c∧c≤P.progs.length∧En P c (Qf P.progs c) f fr
def EnB (P:PL)(c:Nat)(k:Nat)(st:St):Prop:=∃f fr i,st=⟨f,[fr],[]⟩∧k=P.progs.length-i∧i≤P.progs.length∧En P c (Z5 P.progs (Qf P.progs c) i) f fr∧f 16=.list (P.progs.map Qn)∧f 17=.int .i64 (P.progs.length:Nat)∧f 18=.int .i64 (i:Nat)

theorem z89 {M:Nat}(P:PL)(hP:P.ok M)(hl:P.progs.length≤64)(hT:M4 P):Qj Tryz.prog 89 [P.av] (.bool (!fin P)):=by
 have e0:P.av=.agg [.list (P.progs.map Qn),.list (P.enums.map Qr)]:=rfl;have hmx:P.progs.length≤maxLen:=by simp only[maxLen];omega
 have hz:JH 1 [AV.bool false]=.bool false:=rfl;have hr0:(List.replicate P.progs.length (AV.bool false))=(Qf P.progs 0).map AV.bool:=by simp[Qf]
 refine k89.fn (by simp) ?_;simp only[e0,QWI,eE,seval];refine UG (n:=P.progs.length) (k:=P.progs.length) rfl rfl (QVL _) (by omega) (by omega) rfl ?_;simp only[hz,hr0,QWI,eE,seval];refine Qd (EnA P) _ ⟨_,_,0,rfl,rfl,QVV _,⟨(by rfl),(by rfl),(by rfl),(by rfl),(by rfl),(by rfl),(by rfl),by simp<;>rfl⟩⟩ ?_;rintro _ st ⟨f0,fr0,c,rfl,rfl,hc,H0⟩;refine QO (a:=_) [5] H0.r5 ?_;intro f fr hf hm hn;have H:=H0.drop hf hm hn;clear hf hm hn;obtain⟨h1,m1,h3,m3,m9,h12,h13,r5⟩:=id H;simp only[h12,h13,Qa,seval];by_cases hlt:c<P.progs.length
 ·have e1:=Qm c _ hlt hmx;simp only[Ql hlt,h1,m1,QWI,eE,seval];refine Qd (EnB P c) _ ⟨_,_,0,rfl,rfl,QVV _,⟨(by exact h1),(by exact m1),(by exact h3),(by exact m3),(by exact m9),(by exact h12),(by exact h13),r5⟩,(by rfl),(by rfl),(by rfl)⟩ ?_;rintro _ st ⟨f0,fr0,i,rfl,rfl,hi,H0,h160,h170,h180⟩;refine QO (a:=_) [5] H0.r5 ?_;intro f fr hf hm hn;have H:=H0.drop hf hm hn;have h16:f 16=.list (P.progs.map Qn):=by rw[hf,h160]<;>rfl
  have h17:f 17=.int .i64 (P.progs.length:Nat):=by rw[hf,h170]<;>rfl
  have h18:f 18=.int .i64 (i:Nat):=by rw[hf,h180]<;>rfl
  have n5:=hn 5 (by decide);clear hf hm hn;obtain⟨h1,m1,h3,m3,m9,h12,h13,r5⟩:=id H;simp only[h17,h18,Qa,seval];by_cases hli:i<P.progs.length
  ·obtain⟨g,hg⟩:∃g,P.progs[i]? = some g:=⟨P.progs[i],QVO hli⟩;have hgm:(P.progs.map Qn)[i]? = some (Qn g):=by simp[hg]
   have hBl:(Z5 P.progs (Qf P.progs c) i).length=P.progs.length:=by rw[UJ,UK]
   obtain⟨b,hb⟩:∃b,(Z5 P.progs (Qf P.progs c) i)[i]? = some b:=⟨_,QVO (by omega)⟩;have hbm:((Z5 P.progs (Qf P.progs c) i).map AV.bool)[i]? = some (.bool b):=by simp[hb]
   have hst:=QvH (Dl (NV P.progs c) i) hg hb;have e2:=Qm i _ hli hmx;have s1:(i<P.progs.length)=True:=eq_true hli;have hTg:=hT g (QV0 hg);generalize hBB:Z5 P.progs (Qf P.progs c) i=B at *;have fin2:∀(f':Fr) (fr':Nat→Ob) (v:Bool),(b || !g.ops.any (Xy B))=v→f' 1=.ptr 0 1 0→fr' 1=.cells [.list (P.progs.map Qn),.list (P.enums.map Qr)]→f' 3=.ptr 0 3 0→fr' 3=.cells [.vec 0 9 1 0 P.progs.length false]→
     fr' 9=.vec 1 1 ((B.map AV.bool).set i (.bool v))→f' 12=.int .i64 (P.progs.length:Nat)→f' 13=.int .i64 (c:Nat)→(∀s∈[5],(fr' s).isRow=false)→f' 16=.list (P.progs.map Qn)→f' 17=.int .i64 (P.progs.length:Nat)→f' 18=.int .i64 ((i+1:Nat):Int)→∃k,k<P.progs.length-i∧EnB P c k ⟨f',[fr'],[]⟩:=by
    intro f' fr' v hv a1 a2 a3 a4 a5 a6 a7 a8 a9 a10 a11;have hB':Z5 P.progs (Qf P.progs c) (i+1)=B.set i v:=by rw[Z5,hBB,hst,hv]
    exact⟨P.progs.length-(i+1),by omega,f',fr',i+1,rfl,rfl,by omega,⟨a1,a2,a3,a4,by rw[hB',a5,List.map_set],a6,a7,a8⟩,a9,a10,a11⟩
   have ist:∀(fr':Nat→Ob) (v:Bool),fr' 9=.vec 1 1 (B.map AV.bool)→QV [fr'] (.vptr 0 9 1 i 0) [.bool v]=some [QJ fr' 9 (.vec 1 1 ((B.map AV.bool).set i (.bool v)))]:=by
    intro fr' v h9;have e:Am.Qg [fr'] 0 9=.vec 1 1 (B.map AV.bool):=h9;simp only[QV,e,hbm];simp[AV.cells,AV.rfL,AV.rf,Am.put,ZC]
   have ia:∀fr':Nat→Ob,fr' 9=.vec 1 1 (B.map AV.bool)→Qc [fr'] 1 none (.vec 0 9 1 0 P.progs.length false) (i:Int)=some (.vptr 0 9 1 i 0):=by
    intro fr' h9;have e:Am.Qg [fr'] 0 9=.vec 1 1 (B.map AV.bool):=h9;simp only[Qc,e,Qh,if_true,QXe];simp;omega
   have hcl:=fun(fr':Nat→Ob) (h3:fr' 3=.cells [.vec 0 9 1 0 P.progs.length false]) (h9:fr' 9=.vec 1 1 (B.map AV.bool))=>Bf g.ops (hP.progs g (QV0 hg)).len (Xy B) 174 [.ptr 0 3 0] [fr'] fun o ho=>QPY o P.progs.length B hBl (hTg o ho) fr' _ h3 h9
   simp only[Ql hli,Qh,QXe,Qc,hgm,Qn,PG.cells,n5,hbm,s1,QWt,h3,h16,h18,m3,m9,eE,seval];cases b
   ·simp only[eE,seval];refine VZ (hcl _ (by exact m3) (by exact m9)) (by simp only[QWj,QWO,h3,Qa,seval]<;>rfl) ?_;generalize hav:g.ops.any (Xy B)=av;rw[hav]at fin2;simp only[ia,ist,h18,m9,e2,eE,seval];exact fin2 _ _ _ rfl (by exact h1) (by exact m1) (by exact h3) (by exact m3) (by rfl) (by exact h12) (by exact h13) (by simp<;>rfl) (by exact h16) (by exact h17) (by rfl)
   ·simp only[ia,ist,h18,m9,e2,eE,seval];exact fin2 _ _ _ rfl (by exact h1) (by exact m1) (by exact h3) (by exact m3) (by rfl) (by exact h12) (by exact h13) (by simp<;>rfl) (by exact h16) (by exact h17) (by rfl)
  ·have hii:i=P.progs.length:=by omega
   subst hii;simp only[Qy hli,h13,e1,Qa,seval];exact⟨P.progs.length-(c+1),by omega,_,_,c+1,rfl,rfl,by omega,⟨(by exact h1),(by exact m1),(by exact h3),(by exact m3),m9,(by exact h12),(by rfl),r5⟩⟩
 ·have hcc:c=P.progs.length:=by omega
  subst hcc;have hBl:=UK P.progs P.progs.length;simp only[Qy hlt,h3,m3,eE,seval];refine Qb (QPX (Qf P.progs P.progs.length) (by omega)) ?_ rfl rfl (.inr rfl) ?_
  ·have el:Am.Qg [fr] 0 9=.vec 1 1 ((Qf P.progs P.progs.length).map AV.bool):=m9;simp only[QWj,QWO,AV.stillL,AV.still,el,Qa,seval];have hle:(0+P.progs.length≤((Qf P.progs P.progs.length).map AV.bool).length)=True:=eq_true (by simp;omega);have ht:((Qf P.progs P.progs.length).map AV.bool).take P.progs.length=(Qf P.progs P.progs.length).map AV.bool:=QWl (by simp;omega);simp only[QXh,QV6,if_false,hle,if_true,ht]
  ·simp only[fin,Qa,seval]

def ck (P:PL):Int :=
 if Hf P=false then 3 else if Bc P=false then 8 else if Hg P=false then 11 else if Bd P=false then 9 else if Be P=false then 6 else if args P=false then 1 else if fin P=false then 19 else 0

theorem Uj {P:PL}(h:Hf P=true):P.progs.length≤64∧P.enums.length≤64∧(∀g∈P.progs,g.ops.length≤64)∧∀e∈P.enums,1≤e.items.length∧e.items.length≤64∧e.free.length≤16:=by
 unfold Hf at h;simp only[QWb,QVS,QVZ]at h;obtain⟨⟨⟨h1,h2⟩,h3⟩,h4⟩:=h;refine⟨h1,h2,fun g hg=>?_,fun e he=>?_⟩
 ·have:=h3 g hg;unfold ZY at this;exact of_decide_eq_true this
 ·have:=h4 e he;unfold Jx at this;simp only[QWb,QVS]at this;exact⟨this.1.1,this.1.2,this.2⟩

theorem Bo {P:PL}(h:args P=true):M4 P:=by
 intro g hg o ho hk;unfold args at h;simp only[QWb,QVZ]at h;have h1:=h.1 g hg;unfold ZZ at h1;simp only[QWb,QVZ]at h1;have h2:=(h1.2 o ho).1;unfold X4 at h2;simp only[QWb]at h2;have h3:=h2.2;unfold Gv at h3;rw[QWg hk]at h3;simp only[QWb,QVS]at h3;exact⟨h3.1.1,h3.1.2⟩

theorem QPZ {M:Nat}(P:PL)(hP:P.ok M)(hM:M≤140737488351232)(hN1:∀g∈P.progs,g.name.length≤17592186044000)(hN2:∀g∈P.enums,g.name.length≤17592186044000):Qj Tryz.prog 54 [P.av] (.int .i64 (ck P)):=by
 have e0:P.av=.agg [.list (P.progs.map Qn),.list (P.enums.map Qr)]:=rfl;have c1:=z83 P hP;have c2:=QPf P hP hN1 hN2;have c3:=z85 P hP;have c4:=z86 P hP;refine k54.fn (by simp) ?_;simp only[e0,ck,eE,seval];refine Qb c1 rfl rfl rfl (.inl rfl) ?_;cases hl:Hf P
 ·simp only[QWU,Qa,seval]
 obtain⟨l1,l2,l3,l4⟩:=Uj hl;have c5:=z87 P hP fun e he h=>by have:=(l4 e he).1;rw[h]at this;simp at this
 have c6:=z88 hM P hP l3;simp only[QXp,QXI,eE,seval];refine Qb c2 rfl rfl rfl (.inl rfl) ?_;cases Bc P
 ·simp only[QWU,Qa,seval]
 simp only[QXp,QXI,eE,seval];refine Qb c3 rfl rfl rfl (.inl rfl) ?_;cases Hg P
 ·simp only[QWU,Qa,seval]
 simp only[QXp,QXI,eE,seval];refine Qb c4 rfl rfl rfl (.inl rfl) ?_;cases Bd P
 ·simp only[QWU,Qa,seval]
 simp only[QXp,QXI,eE,seval];refine Qb c5 rfl rfl rfl (.inl rfl) ?_;cases Be P
 ·simp only[QWU,Qa,seval]
 simp only[QXp,QXI,eE,seval];refine Qb c6 rfl rfl rfl (.inl rfl) ?_;cases ha:args P
 ·simp only[QWU,Qa,seval]
 have c7:=z89 P hP l1 (Bo ha);simp only[QXp,QXI,eE,seval];refine Qb c7 rfl rfl rfl (.inl rfl) ?_;cases fin P
 ·simp only[QWU,Qa,seval]
 ·simp only[QXp,QXI,Qa,seval]

def Pc (P:PL):List AV:=[.list (P.progs.map Qn),.list (P.enums.map Qr)]

theorem Ji (b:Bool)(q:Nat→Bool)(i:Nat):(b&&QC q (i+1))=((b&&QC q i)&&q i):=by rw[QC,QWx]

section
variable {M:Nat}(P:PL)(hP:P.ok M)(fr:Nat→Ob)(m1:fr 1=.cells (Pc P))(f:Fr)(b:Bool)(h1:f 1=.ptr 0 1 0)(h3:f 3=.bool b)(Q:Exit→St→Prop)
include hP m1 h1 h3

theorem V0 (ha:f 4=.int .i64 0)(hx:∀f,f 1=.ptr 0 1 0→f 3=.bool (b&&P.progs.all ZY)→Q (.exit 0) (⟨f,[fr],[]⟩:St)):QH Tryz.prog (.loop Sj) ⟨f,[fr],[]⟩ Q:=by
 let I:Nat→St→Prop:=fun k st=>∃f i,st=⟨f,[fr],[]⟩∧k=P.progs.length-i∧i≤P.progs.length∧f 1=.ptr 0 1 0∧f 3=.bool (b&&(P.progs.take i).all ZY)∧f 4=.int .i64 (i:Nat)
 refine Qd I _ ⟨f,0,rfl,rfl,QVV _,h1,by rw[h3];simp,ha⟩ ?_;clear h1 h3 ha;simp only[Pc]at m1;rintro _ st ⟨f,i,rfl,rfl,hi,h1,h3,ha⟩;simp only[QWI,h1,m1,ha,eE,seval];by_cases hlt:i<P.progs.length
 ·obtain⟨x,hg⟩:∃x,P.progs[i]? = some x:=⟨P.progs[i],QVO hlt⟩;have hgm:(P.progs.map Qn)[i]? = some (.agg x.cells):=by simp[hg,Qn]
  have e1:=Qm i _ hlt hP.len1;have ht:=Q3 (q:=ZY) hg;have e3:decide ((x.ops.length:Int)≤64)=ZY x:=by unfold ZY ;exact(by rw[QWH];simp only[QVS];omega)
  have fin:∀f':Fr,f' 1=.ptr 0 1 0→f' 3=.bool ((b&&(P.progs.take i).all ZY)&&ZY x)→f' 4=.int .i64 ((i+1:Nat):Int)→∃k,k<P.progs.length-i∧I k ⟨f',[fr],[]⟩:=by
   intro f' a1 a3 a4;exact⟨P.progs.length-(i+1),by omega,f',i+1,rfl,rfl,by omega,a1,by rw[a3,ht,QWx],a4⟩
  simp only[PG.cells]at hgm;cases hb:(b&&(P.progs.take i).all ZY)
  ·rw[hb]at fin h3;simp only[Ql hlt,h3,ha,e1,Qa,seval];exact fin _ (by exact h1) (by rfl) (by rfl)
  ·rw[hb,QXo]at fin;rw[hb]at h3
   skip
   all_goals
    try rw[c1]at e3
    try rw[c2]at e3
    simp only[Ql hlt,Qh,QXe,Qc,hgm,QWI,h1,m1,h3,ha,e1,e3,eE,seval];exact fin _ (by exact h1) (by rw[←e3]<;>first|rfl|simp only[eE,seval]) (by rfl)
 ·have hf:(P.progs.take i).all ZY=P.progs.all ZY:=by rw[QWl (by omega)]
  rw[hf]at h3;simp only[Qy hlt,Qa,seval];exact hx _ (by exact h1) (by exact h3)

theorem V1 (ha:f 5=.int .i64 0)(hx:∀f,f 1=.ptr 0 1 0→f 3=.bool (b&&P.enums.all Jx)→Q (.exit 2) (⟨f,[fr],[]⟩:St)):QH Tryz.prog (.loop Sk) ⟨f,[fr],[]⟩ Q:=by
 let I:Nat→St→Prop:=fun k st=>∃f i,st=⟨f,[fr],[]⟩∧k=P.enums.length-i∧i≤P.enums.length∧f 1=.ptr 0 1 0∧f 3=.bool (b&&(P.enums.take i).all Jx)∧f 5=.int .i64 (i:Nat)
 refine Qd I _ ⟨f,0,rfl,rfl,QVV _,h1,by rw[h3];simp,ha⟩ ?_;clear h1 h3 ha;simp only[Pc]at m1;rintro _ st ⟨f,i,rfl,rfl,hi,h1,h3,ha⟩;simp only[QWI,h1,m1,ha,eE,seval];by_cases hlt:i<P.enums.length
 ·obtain⟨x,hg⟩:∃x,P.enums[i]? = some x:=⟨P.enums[i],QVO hlt⟩;have hgm:(P.enums.map Qr)[i]? = some (.agg x.cells):=by simp[hg,Qr]
  have e1:=Qm i _ hlt hP.len2;have ht:=Q3 (q:=Jx) hg;have e3:(decide ((x.items.length:Int)≥1)&&(decide ((x.items.length:Int)≤64)&&decide ((x.free.length:Int)≤16)))=Jx x:=by unfold Jx ;exact(by rw[QWH];simp only[QVS,QWb];omega)
  have fin:∀f':Fr,f' 1=.ptr 0 1 0→f' 3=.bool ((b&&(P.enums.take i).all Jx)&&Jx x)→f' 5=.int .i64 ((i+1:Nat):Int)→∃k,k<P.enums.length-i∧I k ⟨f',[fr],[]⟩:=by
   intro f' a1 a3 a4;exact⟨P.enums.length-(i+1),by omega,f',i+1,rfl,rfl,by omega,a1,by rw[a3,ht,QWx],a4⟩
  simp only[PE.cells]at hgm;cases hb:(b&&(P.enums.take i).all Jx)
  ·rw[hb]at fin h3;simp only[Ql hlt,Qh,QXe,Qc,hgm,QWI,h1,m1,h3,ha,e1,eE,seval];exact fin _ (by exact h1) (by rfl) (by rfl)
  ·rw[hb,QXo]at fin;rw[hb]at h3
   (cases c1:decide ((x.items.length:Int)≥1)<;>cases c2:decide ((x.items.length:Int)≤64))
   all_goals
    try rw[c1]at e3
    try rw[c2]at e3
    simp only[Ql hlt,Qh,QXe,Qc,hgm,QWI,h1,m1,h3,ha,e1,c1,c2,eE,seval];exact fin _ (by exact h1) (by rw[←e3]<;>first|rfl|simp only[eE,seval]) (by rfl)
 ·have hf:(P.enums.take i).all Jx=P.enums.all Jx:=by rw[QWl (by omega)]
  rw[hf]at h3;simp only[Qy hlt,Qa,seval];exact hx _ (by exact h1) (by exact h3)

theorem Gx (j:Nat)(x:PG)(hj:P.progs[j]? = some x)(ha:f 4=.int .i64 (j:Nat))(hc:f 5=.int .i64 0)(hx:∀f,f 1=.ptr 0 1 0→f 3=.bool (b&&x.ops.all fun o=>XF o.name)→f 4=.int .i64 (j:Nat)→Q (.exit 2) (⟨f,[fr],[]⟩:St)):QH Tryz.prog (.loop Sl) ⟨f,[fr],[]⟩ Q:=by
 let I:Nat→St→Prop:=fun k st=>∃f i,st=⟨f,[fr],[]⟩∧k=x.ops.length-i∧i≤x.ops.length∧f 1=.ptr 0 1 0∧f 3=.bool (b&&(x.ops.take i).all fun o=>XF o.name)∧f 4=.int .i64 (j:Nat)∧f 5=.int .i64 (i:Nat)
 have hjm:(P.progs.map Qn)[j]? = some (.agg x.cells):=by simp[hj,Qn]
 have hsl:x.ops.length≤maxLen:=(hP.progs x (QV0 hj)).len;refine Qd I _ ⟨f,0,rfl,rfl,QVV _,h1,by rw[h3];simp,ha,hc⟩ ?_;clear h1 h3 ha hc;simp only[Pc]at m1;simp only[PG.cells]at hjm;rintro _ st ⟨f,i,rfl,rfl,hi,h1,h3,ha,hc⟩;simp only[Qh,QXe,Qc,hjm,QWI,h1,m1,ha,hc,eE,seval];by_cases hlt:i<x.ops.length
 ·obtain⟨o,hg⟩:∃o,x.ops[i]? = some o:=⟨x.ops[i],QVO hlt⟩;have hgm:(x.ops.map fun o=>AV.agg o.cells)[i]? = some (.agg o.cells):=by simp[hg]
  have e1:=Qm i _ hlt hsl;have ht:=Q3 (q:=fun o=>XF o.name) hg;have fin:∀f':Fr,f' 1=.ptr 0 1 0→f' 3=.bool ((b&&(x.ops.take i).all fun o=>XF o.name)&&XF o.name)→f' 4=.int .i64 (j:Nat)→f' 5=.int .i64 ((i+1:Nat):Int)→∃k,k<x.ops.length-i∧I k ⟨f',[fr],[]⟩:=by
   intro f' a1 a3 a4 a5;exact⟨x.ops.length-(i+1),by omega,f',i+1,rfl,rfl,by omega,a1,by rw[a3,ht,QWx],a4,a5⟩
  simp only[PO.cells]at hgm;cases hb:(b&&(x.ops.take i).all fun o=>XF o.name)
  ·rw[hb]at fin h3;simp only[Ql hlt,PO.cells,h3,hc,e1,Qa,seval];exact fin _ (by exact h1) (by rfl) (by exact ha) (by rfl)
  ·rw[hb,QXo]at fin;rw[hb]at h3;simp only[Ql hlt,Qh,QXe,Qc,hjm,hgm,PO.cells,h1,m1,h3,ha,hc,eE,seval];refine Qb (z77 o.name) rfl rfl rfl (.inl rfl) ?_;simp only[hc,e1,Qa,seval];exact fin _ (by exact h1) (by rfl) (by exact ha) (by rfl)
 ·have hf:(x.ops.take i).all (fun o=>XF o.name)=x.ops.all fun o=>XF o.name:=by rw[QWl (by omega)]
  rw[hf]at h3;simp only[Qy hlt,Qa,seval];exact hx _ (by exact h1) (by exact h3) (by exact ha)

theorem V2 (ha:f 4=.int .i64 0)(hx:∀f,f 1=.ptr 0 1 0→f 3=.bool (b&&P.progs.all Kw)→Q (.exit 0) (⟨f,[fr],[]⟩:St)):QH Tryz.prog (.loop Sm) ⟨f,[fr],[]⟩ Q:=by
 let I:Nat→St→Prop:=fun k st=>∃f i,st=⟨f,[fr],[]⟩∧k=P.progs.length-i∧i≤P.progs.length∧f 1=.ptr 0 1 0∧f 3=.bool (b&&(P.progs.take i).all Kw)∧f 4=.int .i64 (i:Nat)
 have m1':=m1;refine Qd I _ ⟨f,0,rfl,rfl,QVV _,h1,by rw[h3];simp,ha⟩ ?_;clear h1 h3 ha;simp only[Pc]at m1;rintro _ st ⟨f,i,rfl,rfl,hi,h1,h3,ha⟩;simp only[QWI,h1,m1,ha,eE,seval];by_cases hlt:i<P.progs.length
 ·obtain⟨x,hg⟩:∃x,P.progs[i]? = some x:=⟨P.progs[i],QVO hlt⟩;have hgm:(P.progs.map Qn)[i]? = some (.agg x.cells):=by simp[hg,Qn]
  have e1:=Qm i _ hlt hP.len1;have ht:=Q3 (q:=Kw) hg;have hq:Kw x=(Kd x.name&&x.ops.all fun o=>XF o.name):=rfl;have fin:∀f':Fr,f' 1=.ptr 0 1 0→f' 3=.bool (((b&&(P.progs.take i).all Kw)&&Kd x.name)&&x.ops.all fun o=>XF o.name)→f' 4=.int .i64 ((i+1:Nat):Int)→∃k,k<P.progs.length-i∧I k ⟨f',[fr],[]⟩:=by
   intro f' a1 a3 a4;exact⟨P.progs.length-(i+1),by omega,f',i+1,rfl,rfl,by omega,a1,by rw[a3,ht,hq,QWx,QWx],a4⟩
  simp only[PG.cells]at hgm;cases hb:(b&&(P.progs.take i).all Kw)
  ·rw[hb,QXh]at fin;rw[hb]at h3;simp only[Ql hlt,h3,Qa,seval];refine Gx P hP fr m1' _ false (by exact h1) (by rfl) _ i x hg (by exact ha) (by rfl) (fun f h1 h3 ha=>?_);simp only[ha,e1,Qa,seval];exact fin _ (by exact h1) (by exact h3) (by rfl)
  ·rw[hb,QXo]at fin;rw[hb]at h3;simp only[Ql hlt,Qh,QXe,Qc,hgm,h1,m1,h3,ha,eE,seval];refine Qb (z76 x.name) rfl rfl rfl (.inl rfl) ?_;simp only[Qa,seval];refine Gx P hP fr m1' _ (Kd x.name) (by exact h1) (by rfl) _ i x hg (by exact ha) (by rfl) (fun f h1 h3 ha=>?_);simp only[ha,e1,Qa,seval];exact fin _ (by exact h1) (by exact h3) (by rfl)
 ·have hf:(P.progs.take i).all Kw=P.progs.all Kw:=by rw[QWl (by omega)]
  rw[hf]at h3;simp only[Qy hlt,Qa,seval];exact hx _ (by exact h1) (by exact h3)

theorem Gy (j:Nat)(x:PE)(hj:P.enums[j]? = some x)(ha:f 6=.int .i64 (j:Nat))(hc:f 7=.int .i64 0)(hx:∀f,f 1=.ptr 0 1 0→f 3=.bool (b&&x.items.all fun o=>XF o.name)→f 6=.int .i64 (j:Nat)→Q (.exit 6) (⟨f,[fr],[]⟩:St)):QH Tryz.prog (.loop Sn) ⟨f,[fr],[]⟩ Q:=by
 let I:Nat→St→Prop:=fun k st=>∃f i,st=⟨f,[fr],[]⟩∧k=x.items.length-i∧i≤x.items.length∧f 1=.ptr 0 1 0∧f 3=.bool (b&&(x.items.take i).all fun o=>XF o.name)∧f 6=.int .i64 (j:Nat)∧f 7=.int .i64 (i:Nat)
 have hjm:(P.enums.map Qr)[j]? = some (.agg x.cells):=by simp[hj,Qr]
 have hsl:x.items.length≤maxLen:=(hP.enums x (QV0 hj)).len1;refine Qd I _ ⟨f,0,rfl,rfl,QVV _,h1,by rw[h3];simp,ha,hc⟩ ?_;clear h1 h3 ha hc;simp only[Pc]at m1;simp only[PE.cells]at hjm;rintro _ st ⟨f,i,rfl,rfl,hi,h1,h3,ha,hc⟩;simp only[Qh,QXe,Qc,hjm,QWI,h1,m1,ha,hc,eE,seval];by_cases hlt:i<x.items.length
 ·obtain⟨o,hg⟩:∃o,x.items[i]? = some o:=⟨x.items[i],QVO hlt⟩;have hgm:(x.items.map fun o=>AV.agg o.cells)[i]? = some (.agg o.cells):=by simp[hg]
  have e1:=Qm i _ hlt hsl;have ht:=Q3 (q:=fun o=>XF o.name) hg;have fin:∀f':Fr,f' 1=.ptr 0 1 0→f' 3=.bool ((b&&(x.items.take i).all fun o=>XF o.name)&&XF o.name)→f' 6=.int .i64 (j:Nat)→f' 7=.int .i64 ((i+1:Nat):Int)→∃k,k<x.items.length-i∧I k ⟨f',[fr],[]⟩:=by
   intro f' a1 a3 a4 a5;exact⟨x.items.length-(i+1),by omega,f',i+1,rfl,rfl,by omega,a1,by rw[a3,ht,QWx],a4,a5⟩
  simp only[PI.cells]at hgm;cases hb:(b&&(x.items.take i).all fun o=>XF o.name)
  ·rw[hb]at fin h3;simp only[Ql hlt,PI.cells,h3,hc,e1,Qa,seval];exact fin _ (by exact h1) (by rfl) (by exact ha) (by rfl)
  ·rw[hb,QXo]at fin;rw[hb]at h3;simp only[Ql hlt,Qh,QXe,Qc,hjm,hgm,PI.cells,h1,m1,h3,ha,hc,eE,seval];refine Qb (z77 o.name) rfl rfl rfl (.inl rfl) ?_;simp only[hc,e1,Qa,seval];exact fin _ (by exact h1) (by rfl) (by exact ha) (by rfl)
 ·have hf:(x.items.take i).all (fun o=>XF o.name)=x.items.all fun o=>XF o.name:=by rw[QWl (by omega)]
  rw[hf]at h3;simp only[Qy hlt,Qa,seval];exact hx _ (by exact h1) (by exact h3) (by exact ha)

theorem V3 (ha:f 6=.int .i64 0)(hx:∀f,f 1=.ptr 0 1 0→f 3=.bool (b&&P.enums.all KR)→Q (.exit 4) (⟨f,[fr],[]⟩:St)):QH Tryz.prog (.loop Sp) ⟨f,[fr],[]⟩ Q:=by
 let I:Nat→St→Prop:=fun k st=>∃f i,st=⟨f,[fr],[]⟩∧k=P.enums.length-i∧i≤P.enums.length∧f 1=.ptr 0 1 0∧f 3=.bool (b&&(P.enums.take i).all KR)∧f 6=.int .i64 (i:Nat)
 have m1':=m1;refine Qd I _ ⟨f,0,rfl,rfl,QVV _,h1,by rw[h3];simp,ha⟩ ?_;clear h1 h3 ha;simp only[Pc]at m1;rintro _ st ⟨f,i,rfl,rfl,hi,h1,h3,ha⟩;simp only[QWI,h1,m1,ha,eE,seval];by_cases hlt:i<P.enums.length
 ·obtain⟨x,hg⟩:∃x,P.enums[i]? = some x:=⟨P.enums[i],QVO hlt⟩;have hgm:(P.enums.map Qr)[i]? = some (.agg x.cells):=by simp[hg,Qr]
  have e1:=Qm i _ hlt hP.len2;have ht:=Q3 (q:=KR) hg;have hq:KR x=(Kd x.name&&x.items.all fun o=>XF o.name):=rfl;have fin:∀f':Fr,f' 1=.ptr 0 1 0→f' 3=.bool (((b&&(P.enums.take i).all KR)&&Kd x.name)&&x.items.all fun o=>XF o.name)→f' 6=.int .i64 ((i+1:Nat):Int)→∃k,k<P.enums.length-i∧I k ⟨f',[fr],[]⟩:=by
   intro f' a1 a3 a4;exact⟨P.enums.length-(i+1),by omega,f',i+1,rfl,rfl,by omega,a1,by rw[a3,ht,hq,QWx,QWx],a4⟩
  simp only[PE.cells]at hgm;cases hb:(b&&(P.enums.take i).all KR)
  ·rw[hb,QXh]at fin;rw[hb]at h3;simp only[Ql hlt,h3,Qa,seval];refine Gy P hP fr m1' _ false (by exact h1) (by rfl) _ i x hg (by exact ha) (by rfl) (fun f h1 h3 ha=>?_);simp only[ha,e1,Qa,seval];exact fin _ (by exact h1) (by exact h3) (by rfl)
  ·rw[hb,QXo]at fin;rw[hb]at h3;simp only[Ql hlt,Qh,QXe,Qc,hgm,h1,m1,h3,ha,eE,seval];refine Qb (z76 x.name) rfl rfl rfl (.inl rfl) ?_;simp only[Qa,seval];refine Gy P hP fr m1' _ (Kd x.name) (by exact h1) (by rfl) _ i x hg (by exact ha) (by rfl) (fun f h1 h3 ha=>?_);simp only[ha,e1,Qa,seval];exact fin _ (by exact h1) (by exact h3) (by rfl)
 ·have hf:(P.enums.take i).all KR=P.enums.all KR:=by rw[QWl (by omega)]
  rw[hf]at h3;simp only[Qy hlt,Qa,seval];exact hx _ (by exact h1) (by exact h3)

theorem Yy (j:Nat)(x:PG)(hj:P.progs[j]? = some x)(ha:f 4=.int .i64 (j:Nat))(hc:f 5=.int .i64 1)(hx:∀f,f 1=.ptr 0 1 0→f 3=.bool (b&&Jg x)→f 4=.int .i64 (j:Nat)→Q (.exit 2) (⟨f,[fr],[]⟩:St)):QH Tryz.prog (.loop Sq) ⟨f,[fr],[]⟩ Q:=by
 let I:Nat→St→Prop:=fun k st=>∃f i,st=⟨f,[fr],[]⟩∧k=x.ops.length-i∧f 1=.ptr 0 1 0∧f 3=.bool (b&&QC (Xc x.ops (X7 PO.num)) (i+1))∧f 4=.int .i64 (j:Nat)∧f 5=.int .i64 ((i+1:Nat):Int)∧(i+1≤x.ops.length∨i=0)
 have hjm:(P.progs.map Qn)[j]? = some (.agg x.cells):=by simp[hj,Qn]
 have hsl:x.ops.length≤maxLen:=(hP.progs x (QV0 hj)).len;refine Qd I _ ⟨f,0,rfl,rfl,h1,by rw[h3];simp[QC,Xc],ha,hc,.inr rfl⟩ ?_;clear h1 h3 ha hc;simp only[Pc]at m1;simp only[PG.cells]at hjm;rintro _ st ⟨f,i,rfl,rfl,h1,h3,ha,hc,hi⟩;simp only[Qh,QXe,Qc,hjm,QWI,h1,m1,ha,hc,eE,seval];by_cases hlt:i+1<x.ops.length
 ·obtain⟨o,hg⟩:∃o,x.ops[i]? = some o:=⟨x.ops[i]'(by omega),QVO (by omega)⟩;obtain⟨o2,hg2⟩:∃o,x.ops[i+1]? = some o:=⟨x.ops[i+1],QVO hlt⟩;have hgm:(x.ops.map fun o=>AV.agg o.cells)[i]? = some (.agg o.cells):=by simp[hg]
  have hgm2:(x.ops.map fun o=>AV.agg o.cells)[i+1]? = some (.agg o2.cells):=by simp[hg2]
  have e1:=Qm (i+1) _ hlt hsl;have e2:=Wr i _ hlt hsl;have ht:=Ji b (Xc x.ops (X7 PO.num)) (i+1);rw[Jf hg hg2]at ht;have hq:(X7 PO.num) o o2=decide (o.num<o2.num):=rfl;rw[hq]at ht;have fin:∀f':Fr,f' 1=.ptr 0 1 0→f' 3=.bool ((b&&QC (Xc x.ops (X7 PO.num)) (i+1))&&decide (o.num<o2.num))→f' 4=.int .i64 (j:Nat)→f' 5=.int .i64 ((i+1+1:Nat):Int)→∃k,k<x.ops.length-i∧I k ⟨f',[fr],[]⟩:=by
   intro f' a1 a3 a4 a5;exact⟨x.ops.length-(i+1),by omega,f',i+1,rfl,rfl,a1,by rw[a3,ht],a4,a5,.inl (by omega)⟩
  simp only[PO.cells]at hgm hgm2;cases hb:(b&&QC (Xc x.ops (X7 PO.num)) (i+1))
  ·rw[hb]at fin h3;simp only[Ql hlt,PO.cells,h3,hc,e1,Qa,seval];exact fin _ (by exact h1) (by rfl) (by exact ha) (by rfl)
  ·rw[hb,QXo]at fin;rw[hb]at h3;simp only[Ql hlt,Qh,QXe,Qc,hjm,hgm,hgm2,PO.cells,h1,m1,h3,ha,hc,e1,e2,eE,seval];exact fin _ (by exact h1) (by rfl) (by exact ha) (by rfl)
 ·have hf:QC (Xc x.ops (X7 PO.num)) (i+1)=Jg x:=by
   show _=QC (Xc x.ops (X7 PO.num)) x.ops.length;rcases hi with h|h
   ·rw[show i+1=x.ops.length by omega]
   ·subst h;rcases QWB x.ops.length with h0|h0
    ·rw[h0];rfl
    ·rw[show x.ops.length=1 by omega]
  rw[hf]at h3;simp only[Qy hlt,Qa,seval];exact hx _ (by exact h1) (by exact h3) (by exact ha)

theorem V4 (ha:f 4=.int .i64 0)(hx:∀f,f 1=.ptr 0 1 0→f 3=.bool (b&&(XR P.progs (XG PG.name)&&P.progs.all Jg))→Q (.exit 0) (⟨f,[fr],[]⟩:St)):QH Tryz.prog (.loop Sr) ⟨f,[fr],[]⟩ Q:=by
 let q:Nat→Bool:=fun i=>Xc P.progs (XG PG.name) i&&He P.progs Jg i
 let I:Nat→St→Prop:=fun k st=>∃f i,st=⟨f,[fr],[]⟩∧k=P.progs.length-i∧i≤P.progs.length∧f 1=.ptr 0 1 0∧f 3=.bool (b&&QC q i)∧f 4=.int .i64 (i:Nat)
 have m1':=m1;have hqa:QC q P.progs.length=(XR P.progs (XG PG.name)&&P.progs.all Jg):=by
  show QC (fun i=>Xc P.progs (XG PG.name) i&&He P.progs Jg i) _=_;rw[Hv,Hw];rfl
 refine Qd I _ ⟨f,0,rfl,rfl,QVV _,h1,by rw[h3];simp[QC],ha⟩ ?_;clear h1 h3 ha;simp only[Pc]at m1;rintro _ st ⟨f,i,rfl,rfl,hi,h1,h3,ha⟩;simp only[QWI,h1,m1,ha,eE,seval];by_cases hlt:i<P.progs.length
 ·obtain⟨x,hg⟩:∃x,P.progs[i]? = some x:=⟨P.progs[i],QVO hlt⟩;have hgm:(P.progs.map Qn)[i]? = some (.agg x.cells):=by simp[hg,Qn]
  have e1:=Qm i _ hlt hP.len1;have ht:=Ji b q i;have hq:q i=(Xc P.progs (XG PG.name) i&&Jg x):=by show(_&&He P.progs Jg i)=_;rw[Ya hg]
  rw[hq,←QWx]at ht;have fin:∀f':Fr,f' 1=.ptr 0 1 0→f' 3=.bool (((b&&QC q i)&&Xc P.progs (XG PG.name) i)&&Jg x)→f' 4=.int .i64 ((i+1:Nat):Int)→∃k,k<P.progs.length-i∧I k ⟨f',[fr],[]⟩:=by
   intro f' a1 a3 a4;exact⟨P.progs.length-(i+1),by omega,f',i+1,rfl,rfl,by omega,a1,by rw[a3,ht],a4⟩
  simp only[PG.cells]at hgm;cases hb:(b&&QC q i)
  ·rw[hb,QXh]at fin;rw[hb]at h3;simp only[Ql hlt,h3,Qa,seval];refine Yy P hP fr m1' _ false (by exact h1) (by rfl) _ i x hg (by exact ha) (by rfl) (fun f h1 h3 ha=>?_);simp only[ha,e1,Qa,seval];exact fin _ (by exact h1) (by exact h3) (by rfl)
  ·rw[hb,QXo]at fin;rw[hb]at h3;cases i with
   |zero=>
    have b0:(((0:Nat):Int)==0)=true:=rfl;rw[Yv]at fin;simp only[Ql hlt,b0,h3,ha,Qa,Nat.reduceBEq,↓reduceIte];refine Yy P hP fr m1' _ true (by exact h1) (by rfl) _ 0 x hg (by exact ha) (by rfl) (fun f h1 h3 ha=>?_);simp only[ha,e1,Qa,Nat.reduceBEq,↓reduceIte,Nat.reduceAdd];exact fin _ (by exact h1) (by exact h3) (by rfl)
   |succ j=>
    obtain⟨y,hgj⟩:∃y,P.progs[j]? = some y:=⟨P.progs[j]'(by omega),QVO (by omega)⟩;have hgjm:(P.progs.map Qn)[j]? = some (.agg y.cells):=by simp[hgj,Qn]
    have b0:(((j+1:Nat):Int)==0)=false:=by rw[QXt];omega
    have e2:=Wr j _ hlt hP.len1;rw[Jf hgj hg]at fin;have hq2:(XG PG.name) y x=Op.bytesLess y.name x.name:=rfl;rw[hq2]at fin;simp only[PG.cells]at hgjm;simp only[Ql hlt,Qh,QXe,Qc,hgm,hgjm,b0,e2,QL,h1,m1,h3,ha,eE,seval];refine Yy P hP fr m1' _ (Op.bytesLess y.name x.name) (by exact h1) (by rfl) _ (j+1) x hg (by exact ha) (by rfl) (fun f h1 h3 ha=>?_);simp only[ha,e1,Qa,seval];exact fin _ (by exact h1) (by exact h3) (by rfl)
 ·have hf:QC q i=(XR P.progs (XG PG.name)&&P.progs.all Jg):=by rw[show i=P.progs.length by omega,hqa]
  rw[hf]at h3;simp only[Qy hlt,Qa,seval];exact hx _ (by exact h1) (by exact h3)

theorem Yz (j:Nat)(x:PE)(hj:P.enums[j]? = some x)(ha:f 6=.int .i64 (j:Nat))(hc:f 7=.int .i64 1)(hx:∀f,f 1=.ptr 0 1 0→f 3=.bool (b&&JK x)→f 6=.int .i64 (j:Nat)→Q (.exit 6) (⟨f,[fr],[]⟩:St)):QH Tryz.prog (.loop Ss) ⟨f,[fr],[]⟩ Q:=by
 let I:Nat→St→Prop:=fun k st=>∃f i,st=⟨f,[fr],[]⟩∧k=x.items.length-i∧f 1=.ptr 0 1 0∧f 3=.bool (b&&QC (Xc x.items (X7 PI.num)) (i+1))∧f 6=.int .i64 (j:Nat)∧f 7=.int .i64 ((i+1:Nat):Int)∧(i+1≤x.items.length∨i=0)
 have hjm:(P.enums.map Qr)[j]? = some (.agg x.cells):=by simp[hj,Qr]
 have hsl:x.items.length≤maxLen:=(hP.enums x (QV0 hj)).len1;refine Qd I _ ⟨f,0,rfl,rfl,h1,by rw[h3];simp[QC,Xc],ha,hc,.inr rfl⟩ ?_;clear h1 h3 ha hc;simp only[Pc]at m1;simp only[PE.cells]at hjm;rintro _ st ⟨f,i,rfl,rfl,h1,h3,ha,hc,hi⟩;simp only[Qh,QXe,Qc,hjm,QWI,h1,m1,ha,hc,eE,seval];by_cases hlt:i+1<x.items.length
 ·obtain⟨o,hg⟩:∃o,x.items[i]? = some o:=⟨x.items[i]'(by omega),QVO (by omega)⟩;obtain⟨o2,hg2⟩:∃o,x.items[i+1]? = some o:=⟨x.items[i+1],QVO hlt⟩;have hgm:(x.items.map fun o=>AV.agg o.cells)[i]? = some (.agg o.cells):=by simp[hg]
  have hgm2:(x.items.map fun o=>AV.agg o.cells)[i+1]? = some (.agg o2.cells):=by simp[hg2]
  have e1:=Qm (i+1) _ hlt hsl;have e2:=Wr i _ hlt hsl;have ht:=Ji b (Xc x.items (X7 PI.num)) (i+1);rw[Jf hg hg2]at ht;have hq:(X7 PI.num) o o2=decide (o.num<o2.num):=rfl;rw[hq]at ht;have fin:∀f':Fr,f' 1=.ptr 0 1 0→f' 3=.bool ((b&&QC (Xc x.items (X7 PI.num)) (i+1))&&decide (o.num<o2.num))→f' 6=.int .i64 (j:Nat)→f' 7=.int .i64 ((i+1+1:Nat):Int)→∃k,k<x.items.length-i∧I k ⟨f',[fr],[]⟩:=by
   intro f' a1 a3 a4 a5;exact⟨x.items.length-(i+1),by omega,f',i+1,rfl,rfl,a1,by rw[a3,ht],a4,a5,.inl (by omega)⟩
  simp only[PI.cells]at hgm hgm2;cases hb:(b&&QC (Xc x.items (X7 PI.num)) (i+1))
  ·rw[hb]at fin h3;simp only[Ql hlt,PI.cells,h3,hc,e1,Qa,seval];exact fin _ (by exact h1) (by rfl) (by exact ha) (by rfl)
  ·rw[hb,QXo]at fin;rw[hb]at h3;simp only[Ql hlt,Qh,QXe,Qc,hjm,hgm,hgm2,PI.cells,h1,m1,h3,ha,hc,e1,e2,eE,seval];exact fin _ (by exact h1) (by rfl) (by exact ha) (by rfl)
 ·have hf:QC (Xc x.items (X7 PI.num)) (i+1)=JK x:=by
   show _=QC (Xc x.items (X7 PI.num)) x.items.length;rcases hi with h|h
   ·rw[show i+1=x.items.length by omega]
   ·subst h;rcases QWB x.items.length with h0|h0
    ·rw[h0];rfl
    ·rw[show x.items.length=1 by omega]
  rw[hf]at h3;simp only[Qy hlt,Qa,seval];exact hx _ (by exact h1) (by exact h3) (by exact ha)

theorem V5 (ha:f 6=.int .i64 0)(hx:∀f,f 1=.ptr 0 1 0→f 3=.bool (b&&(XR P.enums (XG PE.name)&&P.enums.all JK))→Q (.exit 4) (⟨f,[fr],[]⟩:St)):QH Tryz.prog (.loop Su) ⟨f,[fr],[]⟩ Q:=by
 let q:Nat→Bool:=fun i=>Xc P.enums (XG PE.name) i&&He P.enums JK i
 let I:Nat→St→Prop:=fun k st=>∃f i,st=⟨f,[fr],[]⟩∧k=P.enums.length-i∧i≤P.enums.length∧f 1=.ptr 0 1 0∧f 3=.bool (b&&QC q i)∧f 6=.int .i64 (i:Nat)
 have m1':=m1;have hqa:QC q P.enums.length=(XR P.enums (XG PE.name)&&P.enums.all JK):=by
  show QC (fun i=>Xc P.enums (XG PE.name) i&&He P.enums JK i) _=_;rw[Hv,Hw];rfl
 refine Qd I _ ⟨f,0,rfl,rfl,QVV _,h1,by rw[h3];simp[QC],ha⟩ ?_;clear h1 h3 ha;simp only[Pc]at m1;rintro _ st ⟨f,i,rfl,rfl,hi,h1,h3,ha⟩;simp only[QWI,h1,m1,ha,eE,seval];by_cases hlt:i<P.enums.length
 ·obtain⟨x,hg⟩:∃x,P.enums[i]? = some x:=⟨P.enums[i],QVO hlt⟩;have hgm:(P.enums.map Qr)[i]? = some (.agg x.cells):=by simp[hg,Qr]
  have e1:=Qm i _ hlt hP.len2;have ht:=Ji b q i;have hq:q i=(Xc P.enums (XG PE.name) i&&JK x):=by show(_&&He P.enums JK i)=_;rw[Ya hg]
  rw[hq,←QWx]at ht;have fin:∀f':Fr,f' 1=.ptr 0 1 0→f' 3=.bool (((b&&QC q i)&&Xc P.enums (XG PE.name) i)&&JK x)→f' 6=.int .i64 ((i+1:Nat):Int)→∃k,k<P.enums.length-i∧I k ⟨f',[fr],[]⟩:=by
   intro f' a1 a3 a4;exact⟨P.enums.length-(i+1),by omega,f',i+1,rfl,rfl,by omega,a1,by rw[a3,ht],a4⟩
  simp only[PE.cells]at hgm;cases hb:(b&&QC q i)
  ·rw[hb,QXh]at fin;rw[hb]at h3;simp only[Ql hlt,h3,Qa,seval];refine Yz P hP fr m1' _ false (by exact h1) (by rfl) _ i x hg (by exact ha) (by rfl) (fun f h1 h3 ha=>?_);simp only[ha,e1,Qa,seval];exact fin _ (by exact h1) (by exact h3) (by rfl)
  ·rw[hb,QXo]at fin;rw[hb]at h3;cases i with
   |zero=>
    have b0:(((0:Nat):Int)==0)=true:=rfl;rw[Yv]at fin;simp only[Ql hlt,b0,h3,ha,Qa,Nat.reduceBEq,↓reduceIte];refine Yz P hP fr m1' _ true (by exact h1) (by rfl) _ 0 x hg (by exact ha) (by rfl) (fun f h1 h3 ha=>?_);simp only[ha,e1,Qa,Nat.reduceBEq,↓reduceIte,Nat.reduceAdd];exact fin _ (by exact h1) (by exact h3) (by rfl)
   |succ j=>
    obtain⟨y,hgj⟩:∃y,P.enums[j]? = some y:=⟨P.enums[j]'(by omega),QVO (by omega)⟩;have hgjm:(P.enums.map Qr)[j]? = some (.agg y.cells):=by simp[hgj,Qr]
    have b0:(((j+1:Nat):Int)==0)=false:=by rw[QXt];omega
    have e2:=Wr j _ hlt hP.len2;rw[Jf hgj hg]at fin;have hq2:(XG PE.name) y x=Op.bytesLess y.name x.name:=rfl;rw[hq2]at fin;simp only[PE.cells]at hgjm;simp only[Ql hlt,Qh,QXe,Qc,hgm,hgjm,b0,e2,QL,h1,m1,h3,ha,eE,seval];refine Yz P hP fr m1' _ (Op.bytesLess y.name x.name) (by exact h1) (by rfl) _ (j+1) x hg (by exact ha) (by rfl) (fun f h1 h3 ha=>?_);simp only[ha,e1,Qa,seval];exact fin _ (by exact h1) (by exact h3) (by rfl)
 ·have hf:QC q i=(XR P.enums (XG PE.name)&&P.enums.all JK):=by rw[show i=P.enums.length by omega,hqa]
  rw[hf]at h3;simp only[Qy hlt,Qa,seval];exact hx _ (by exact h1) (by exact h3)

end

section
variable {M:Nat}(P:PL)(hP:P.ok M)
include hP

theorem z43:Qj Tryz.prog 43 [P.av] (.bool (Hf P)):=by
 have e0:P.av=.agg [.list (P.progs.map Qn),.list (P.enums.map Qr)]:=rfl;have e1:decide ((P.progs.length:Int)≤64)=decide (P.progs.length≤64):=by rw[decide_eq_decide];omega
 have e2:decide ((P.enums.length:Int)≤64)=decide (P.enums.length≤64):=by rw[decide_eq_decide];omega
 refine k43.fn (by simp) ?_;simp only[e0,QWI,e1,eE,seval];have hl:Hf P=((decide (P.progs.length≤64)&&decide (P.enums.length≤64)&&P.progs.all ZY)&&P.enums.all Jx):=rfl;cases a1:decide (P.progs.length≤64)<;>simp only[e2,QWI,eE,seval]
 all_goals
  refine V0 P hP _ (by rfl) _ _ (by rfl) (by rfl) _ (by rfl) (fun f h1 h3=>?_);simp only[Qa,seval];refine V1 P hP _ (by rfl) _ _ (by exact h1) (by exact h3) _ (by rfl) (fun f h1 h3=>?_);simp only[h3,hl,a1,QXh,QXo,Qa,seval]

theorem z44:Qj Tryz.prog 44 [P.av] (.bool (Bc P)):=by
 have e0:P.av=.agg [.list (P.progs.map Qn),.list (P.enums.map Qr)]:=rfl;refine k44.fn (by simp) ?_;simp only[e0,eE,seval];refine V2 P hP _ (by rfl) _ true (by rfl) (by rfl) _ (by rfl) (fun f h1 h3=>?_);simp only[Qa,seval];refine V3 P hP _ (by rfl) _ _ (by exact h1) (by exact h3) _ (by rfl) (fun f h1 h3=>?_);simp only[h3,Bc,QXo,Qa,seval]

theorem z45:Qj Tryz.prog 45 [P.av] (.bool (Hg P)):=by
 have e0:P.av=.agg [.list (P.progs.map Qn),.list (P.enums.map Qr)]:=rfl;have e:Hg P=((XR P.progs (XG PG.name)&&P.progs.all Jg)&&(XR P.enums (XG PE.name)&&P.enums.all JK)):=by
  unfold Hg;cases XR P.progs (XG PG.name)<;>cases P.progs.all Jg<;>cases XR P.enums (XG PE.name)<;>rfl
 refine k45.fn (by simp) ?_;simp only[e0,eE,seval];refine V4 P hP _ (by rfl) _ true (by rfl) (by rfl) _ (by rfl) (fun f h1 h3=>?_);simp only[Qa,seval];refine V5 P hP _ (by rfl) _ _ (by exact h1) (by exact h3) _ (by rfl) (fun f h1 h3=>?_);simp only[h3,e,QXo,Qa,seval]

end

theorem z78 (L:List PS)(hl:L.length≤maxLen)(n:Int):Qj Tryz.prog 78 [.list (L.map X3),.int .i64 n] (.bool (kept L n)):=by
 let I:Nat→St→Prop:=fun k st=>∃f i,st=⟨f,[Qe],[]⟩∧k=L.length-i∧kept L n=kept (L.drop i) n∧f 0=.list (L.map X3)∧f 1=.int .i64 n∧f 5=.int .i64 (i:Nat)
 refine k78.fn (by simp) ?_;simp only[Qa,seval];refine Qd I _ ⟨_,0,rfl,rfl,rfl,(by rfl),(by rfl),(by rfl)⟩ ?_;rintro _ st ⟨f,i,rfl,rfl,hx,h0,h1,h5⟩;simp only[QWI,h0,h5,Qa,seval];by_cases hlt:i<L.length
 ·obtain⟨x,hi⟩:∃x,L[i]? = some x:=⟨L[i],QVO hlt⟩;have hg:(L.map X3)[i]? = some (X3 x):=by simp[hi]
  have e1:=Qm i _ hlt hl;have hd:kept (L.drop i) n=((decide (x.lo≤n)&&decide (n≤x.hi))||kept (L.drop (i+1)) n):=by
   unfold kept;rw[QWv hlt,show L[i]=x from(QVN.1 hi).2];rfl
  rw[hd]at hx;simp only[Ql hlt,Qh,QXe,Qc,hg,X3,PS.cells,h0,h1,h5,eE,seval];cases a1:decide (x.lo≤n)
  ·rw[a1,QXh,QXs]at hx;simp only[h5,e1,Qa,seval];exact⟨L.length-(i+1),by omega,_,i+1,rfl,rfl,hx,(by exact h0),(by exact h1),(by rfl)⟩
  ·cases a2:decide (n≤x.hi)
   ·rw[a1,a2,QXF,QXs]at hx;simp only[a2,Qh,QXe,Qc,hg,X3,PS.cells,h0,h1,h5,e1,eE,seval];exact⟨L.length-(i+1),by omega,_,i+1,rfl,rfl,hx,(by exact h0),(by exact h1),(by rfl)⟩
   ·rw[a1,a2,QW0,QXr]at hx;simp only[a2,Qh,QXe,Qc,hg,X3,PS.cells,h0,h1,h5,hx,eE,seval]
 ·have hx':kept L n=false:=by rw[hx,QWo (by omega)];rfl
  simp only[Qy hlt,hx',Qa,seval]

section
variable {M:Nat}(P:PL)(hP:P.ok M)(fr:Nat→Ob)(m1:fr 1=.cells (Pc P))(f:Fr)(b:Bool)(h1:f 1=.ptr 0 1 0)(h3:f 3=.bool b)(Q:Exit→St→Prop)

include h1 h3 in
theorem Ru (L:List PO)(hl:L.length≤maxLen)(j:Nat)(x:PO)(hj:L[j]? = some x)(n:Nat)(hr:f 4=.int .i64 (n:Nat))(hL:f 6=.list (L.map fun o=>.agg o.cells))(hc:f 7=.int .i64 (j:Nat))(hd:f 8=.int .i64 0)
  (hx:∀f,f 1=.ptr 0 1 0→f 3=.bool (b&&(L.take j).all fun y=>!(y.name==x.name))→f 4=.int .i64 (n:Nat)→f 6=.list (L.map fun o=>.agg o.cells)→f 7=.int .i64 (j:Nat)→Q (.exit 6) (⟨f,[fr],[]⟩:St)) :
  QH Tryz.prog (.loop Sw) ⟨f,[fr],[]⟩ Q:=by
 let I:Nat→St→Prop:=fun k st=>∃f i,st=⟨f,[fr],[]⟩∧k=j-i∧i≤j∧f 1=.ptr 0 1 0∧f 3=.bool (b&&(L.take i).all fun y=>!(y.name==x.name))∧f 4=.int .i64 (n:Nat)∧f 6=.list (L.map fun o=>.agg o.cells)∧f 7=.int .i64 (j:Nat)∧f 8=.int .i64 (i:Nat)
 have hjl:j<L.length:=(QVN.1 hj).1;have hjm:(L.map fun o=>AV.agg o.cells)[j]? = some (.agg x.cells):=by simp[hj]
 refine Qd I _ ⟨f,0,rfl,rfl,QVV _,h1,by rw[h3];simp,hr,hL,hc,hd⟩ ?_;clear h1 h3 hr hL hc hd;simp only[PO.cells]at hjm;rintro _ st ⟨f,i,rfl,rfl,hi,h1,h3,hr,hL,hc,hd⟩;simp only[hc,hd,Qa,seval];by_cases hlt:i<j
 ·obtain⟨o,hg⟩:∃o,L[i]? = some o:=⟨L[i]'(by omega),QVO (by omega)⟩;have hgm:(L.map fun o=>AV.agg o.cells)[i]? = some (.agg o.cells):=by simp[hg]
  have e1:=Qm i _ (show i<L.length by omega) hl;have ht:=Q3 (q:=fun y:PO=>!(y.name==x.name)) hg;have fin:∀f':Fr,f' 1=.ptr 0 1 0→f' 3=.bool ((b&&(L.take i).all fun y=>!(y.name==x.name)) && !(o.name==x.name))→f' 4=.int .i64 (n:Nat)→f' 6=.list (L.map fun o=>.agg o.cells)→f' 7=.int .i64 (j:Nat)→f' 8=.int .i64 ((i+1:Nat):Int)→∃k,k<j-i∧I k ⟨f',[fr],[]⟩:=by
   intro f' a1 a3 a4 a5 a6 a7;exact⟨j-(i+1),by omega,f',i+1,rfl,rfl,by omega,a1,by rw[a3,ht,QWx],a4,a5,a6,a7⟩
  simp only[PO.cells]at hgm;cases hb:(b&&(L.take i).all fun y=>!(y.name==x.name))
  ·rw[hb]at fin h3;simp only[Ql hlt,h3,hd,e1,Qa,seval];exact fin _ (by exact h1) (by rfl) (by exact hr) (by exact hL) (by exact hc) (by rfl)
  ·rw[hb,QXo]at fin;rw[hb]at h3;simp only[Ql hlt,Qh,QXe,Qc,hgm,hjm,PO.cells,QL,h3,hL,hc,hd,e1,eE,seval];exact fin _ (by exact h1) (by rfl) (by exact hr) (by exact hL) (by exact hc) (by rfl)
 ·rw[show i=j by omega]at h3;simp only[Qy hlt,Qa,seval];exact hx _ (by exact h1) (by exact h3) (by exact hr) (by exact hL) (by exact hc)

include h1 h3 in
theorem Rv (L:List PO)(hl:L.length≤maxLen)(n:Nat)(hr:f 4=.int .i64 (n:Nat))(hL:f 6=.list (L.map fun o=>.agg o.cells))(hc:f 7=.int .i64 0)
  (hx:∀f,f 1=.ptr 0 1 0→f 3=.bool (b&&Ku L PO.name)→f 4=.int .i64 (n:Nat)→Q (.exit 4) (⟨f,[fr],[]⟩:St)) :
  QH Tryz.prog (.loop Sx) ⟨f,[fr],[]⟩ Q:=by
 let I:Nat→St→Prop:=fun k st=>∃f i,st=⟨f,[fr],[]⟩∧k=L.length-i∧i≤L.length∧f 1=.ptr 0 1 0∧f 3=.bool (b&&QC (uniq L PO.name) i)∧f 4=.int .i64 (n:Nat)∧f 6=.list (L.map fun o=>.agg o.cells)∧f 7=.int .i64 (i:Nat)
 refine Qd I _ ⟨f,0,rfl,rfl,QVV _,h1,by rw[h3];simp[QC],hr,hL,hc⟩ ?_;clear h1 h3 hr hL hc;rintro _ st ⟨f,i,rfl,rfl,hi,h1,h3,hr,hL,hc⟩;simp only[QWI,hL,hc,Qa,seval];by_cases hlt:i<L.length
 ·obtain⟨o,hg⟩:∃o,L[i]? = some o:=⟨L[i],QVO hlt⟩;have e1:=Qm i _ hlt hl;have ht:=Ji b (uniq L PO.name) i;rw[UI hg]at ht;simp only[Ql hlt,Qa,seval];refine Ru fr _ (b&&QC (uniq L PO.name) i) (by exact h1) (by exact h3) _ L hl i o hg n (by exact hr) (by exact hL) (by exact hc) (by rfl) (fun f h1 h3 hr hL hc=>?_);simp only[hc,e1,Qa,seval];exact⟨L.length-(i+1),by omega,_,i+1,rfl,rfl,by omega,(by exact h1),by rw[ht]<;>first|exact h3|simp only[h3,eE,seval],(by exact hr),(by exact hL),(by rfl)⟩
 ·rw[show i=L.length by omega]at h3;simp only[Qy hlt,Qa,seval];exact hx _ (by exact h1) (by exact h3) (by exact hr)

include h1 h3 in
theorem V6 (L:List PI)(hl:L.length≤maxLen)(j:Nat)(x:PI)(hj:L[j]? = some x)(n:Nat)(hr:f 9=.int .i64 (n:Nat))(hL:f 10=.list (L.map fun o=>.agg o.cells))(hc:f 11=.int .i64 (j:Nat))(hd:f 12=.int .i64 0)
  (hx:∀f,f 1=.ptr 0 1 0→f 3=.bool (b&&(L.take j).all fun y=>!(y.name==x.name))→f 9=.int .i64 (n:Nat)→f 10=.list (L.map fun o=>.agg o.cells)→f 11=.int .i64 (j:Nat)→Q (.exit 12) (⟨f,[fr],[]⟩:St)) :
  QH Tryz.prog (.loop Sz) ⟨f,[fr],[]⟩ Q:=by
 let I:Nat→St→Prop:=fun k st=>∃f i,st=⟨f,[fr],[]⟩∧k=j-i∧i≤j∧f 1=.ptr 0 1 0∧f 3=.bool (b&&(L.take i).all fun y=>!(y.name==x.name))∧f 9=.int .i64 (n:Nat)∧f 10=.list (L.map fun o=>.agg o.cells)∧f 11=.int .i64 (j:Nat)∧f 12=.int .i64 (i:Nat)
 have hjl:j<L.length:=(QVN.1 hj).1;have hjm:(L.map fun o=>AV.agg o.cells)[j]? = some (.agg x.cells):=by simp[hj]
 refine Qd I _ ⟨f,0,rfl,rfl,QVV _,h1,by rw[h3];simp,hr,hL,hc,hd⟩ ?_;clear h1 h3 hr hL hc hd;simp only[PI.cells]at hjm;rintro _ st ⟨f,i,rfl,rfl,hi,h1,h3,hr,hL,hc,hd⟩;simp only[hc,hd,Qa,seval];by_cases hlt:i<j
 ·obtain⟨o,hg⟩:∃o,L[i]? = some o:=⟨L[i]'(by omega),QVO (by omega)⟩;have hgm:(L.map fun o=>AV.agg o.cells)[i]? = some (.agg o.cells):=by simp[hg]
  have e1:=Qm i _ (show i<L.length by omega) hl;have ht:=Q3 (q:=fun y:PI=>!(y.name==x.name)) hg;have fin:∀f':Fr,f' 1=.ptr 0 1 0→f' 3=.bool ((b&&(L.take i).all fun y=>!(y.name==x.name)) && !(o.name==x.name))→f' 9=.int .i64 (n:Nat)→f' 10=.list (L.map fun o=>.agg o.cells)→f' 11=.int .i64 (j:Nat)→f' 12=.int .i64 ((i+1:Nat):Int)→∃k,k<j-i∧I k ⟨f',[fr],[]⟩:=by
   intro f' a1 a3 a4 a5 a6 a7;exact⟨j-(i+1),by omega,f',i+1,rfl,rfl,by omega,a1,by rw[a3,ht,QWx],a4,a5,a6,a7⟩
  simp only[PI.cells]at hgm;cases hb:(b&&(L.take i).all fun y=>!(y.name==x.name))
  ·rw[hb]at fin h3;simp only[Ql hlt,h3,hd,e1,Qa,seval];exact fin _ (by exact h1) (by rfl) (by exact hr) (by exact hL) (by exact hc) (by rfl)
  ·rw[hb,QXo]at fin;rw[hb]at h3;simp only[Ql hlt,Qh,QXe,Qc,hgm,hjm,PI.cells,QL,h3,hL,hc,hd,e1,eE,seval];exact fin _ (by exact h1) (by rfl) (by exact hr) (by exact hL) (by exact hc) (by rfl)
 ·rw[show i=j by omega]at h3;simp only[Qy hlt,Qa,seval];exact hx _ (by exact h1) (by exact h3) (by exact hr) (by exact hL) (by exact hc)

include h1 h3 in
theorem V7 (L:List PI)(hl:L.length≤maxLen)(n:Nat)(hr:f 9=.int .i64 (n:Nat))(hL:f 10=.list (L.map fun o=>.agg o.cells))(hc:f 11=.int .i64 0)
  (hx:∀f,f 1=.ptr 0 1 0→f 3=.bool (b&&Ku L PI.name)→f 9=.int .i64 (n:Nat)→Q (.exit 10) (⟨f,[fr],[]⟩:St)) :
  QH Tryz.prog (.loop SA) ⟨f,[fr],[]⟩ Q:=by
 let I:Nat→St→Prop:=fun k st=>∃f i,st=⟨f,[fr],[]⟩∧k=L.length-i∧i≤L.length∧f 1=.ptr 0 1 0∧f 3=.bool (b&&QC (uniq L PI.name) i)∧f 9=.int .i64 (n:Nat)∧f 10=.list (L.map fun o=>.agg o.cells)∧f 11=.int .i64 (i:Nat)
 refine Qd I _ ⟨f,0,rfl,rfl,QVV _,h1,by rw[h3];simp[QC],hr,hL,hc⟩ ?_;clear h1 h3 hr hL hc;rintro _ st ⟨f,i,rfl,rfl,hi,h1,h3,hr,hL,hc⟩;simp only[QWI,hL,hc,Qa,seval];by_cases hlt:i<L.length
 ·obtain⟨o,hg⟩:∃o,L[i]? = some o:=⟨L[i],QVO hlt⟩;have e1:=Qm i _ hlt hl;have ht:=Ji b (uniq L PI.name) i;rw[UI hg]at ht;simp only[Ql hlt,Qa,seval];refine V6 fr _ (b&&QC (uniq L PI.name) i) (by exact h1) (by exact h3) _ L hl i o hg n (by exact hr) (by exact hL) (by exact hc) (by rfl) (fun f h1 h3 hr hL hc=>?_);simp only[hc,e1,Qa,seval];exact⟨L.length-(i+1),by omega,_,i+1,rfl,rfl,by omega,(by exact h1),by rw[ht]<;>first|exact h3|simp only[h3,eE,seval],(by exact hr),(by exact hL),(by rfl)⟩
 ·rw[show i=L.length by omega]at h3;simp only[Qy hlt,Qa,seval];exact hx _ (by exact h1) (by exact h3) (by exact hr)

include hP m1 h1 h3

theorem QP0 (j:Nat)(x:PG)(hj:P.progs[j]? = some x)(ha:f 4=.int .i64 (j:Nat))(hc:f 5=.int .i64 0)(hx:∀f,f 1=.ptr 0 1 0→f 3=.bool (b&&P.enums.all fun e=>!(e.name==x.name))→f 4=.int .i64 (j:Nat)→Q (.exit 2) (⟨f,[fr],[]⟩:St)):QH Tryz.prog (.loop Sv) ⟨f,[fr],[]⟩ Q:=by
 let I:Nat→St→Prop:=fun k st=>∃f i,st=⟨f,[fr],[]⟩∧k=P.enums.length-i∧i≤P.enums.length∧f 1=.ptr 0 1 0∧f 3=.bool (b&&(P.enums.take i).all fun e=>!(e.name==x.name))∧f 4=.int .i64 (j:Nat)∧f 5=.int .i64 (i:Nat)
 have hjm:(P.progs.map Qn)[j]? = some (.agg x.cells):=by simp[hj,Qn]
 refine Qd I _ ⟨f,0,rfl,rfl,QVV _,h1,by rw[h3];simp,ha,hc⟩ ?_;clear h1 h3 ha hc;simp only[Pc]at m1;simp only[PG.cells]at hjm;rintro _ st ⟨f,i,rfl,rfl,hi,h1,h3,ha,hc⟩;simp only[QWI,h1,m1,hc,eE,seval];by_cases hlt:i<P.enums.length
 ·obtain⟨o,hg⟩:∃o,P.enums[i]? = some o:=⟨P.enums[i],QVO hlt⟩;have hgm:(P.enums.map Qr)[i]? = some (.agg o.cells):=by simp[hg,Qr]
  have e1:=Qm i _ hlt hP.len2;have ht:=Q3 (q:=fun y:PE=>!(y.name==x.name)) hg;have hcm:(x.name==o.name)=(o.name==x.name):=by rw[QWH,QVT,QVT];exact⟨Eq.symm,Eq.symm⟩
  have fin:∀f':Fr,f' 1=.ptr 0 1 0→f' 3=.bool ((b&&(P.enums.take i).all fun y=>!(y.name==x.name)) && !(o.name==x.name))→f' 4=.int .i64 (j:Nat)→f' 5=.int .i64 ((i+1:Nat):Int)→∃k,k<P.enums.length-i∧I k ⟨f',[fr],[]⟩:=by
   intro f' a1 a3 a4 a5;exact⟨P.enums.length-(i+1),by omega,f',i+1,rfl,rfl,by omega,a1,by rw[a3,ht,QWx],a4,a5⟩
  simp only[PE.cells]at hgm;cases hb:(b&&(P.enums.take i).all fun y=>!(y.name==x.name))
  ·rw[hb]at fin h3;simp only[Ql hlt,h3,hc,e1,Qa,seval];exact fin _ (by exact h1) (by rfl) (by exact ha) (by rfl)
  ·rw[hb,QXo]at fin;rw[hb]at h3;simp only[Ql hlt,Qh,QXe,Qc,hjm,hgm,QL,hcm,h1,m1,h3,ha,hc,e1,eE,seval];exact fin _ (by exact h1) (by rfl) (by exact ha) (by rfl)
 ·have hf:(P.enums.take i).all (fun e=>!(e.name==x.name))=P.enums.all fun e=>!(e.name==x.name):=by rw[QWl (by omega)]
  rw[hf]at h3;simp only[Qy hlt,Qa,seval];exact hx _ (by exact h1) (by exact h3) (by exact ha)

theorem QP1 (ha:f 4=.int .i64 0)(hx:∀f,f 1=.ptr 0 1 0→f 3=.bool (b&&P.progs.all (Kx P))→Q (.exit 0) (⟨f,[fr],[]⟩:St)):QH Tryz.prog (.loop Sy) ⟨f,[fr],[]⟩ Q:=by
 let I:Nat→St→Prop:=fun k st=>∃f i,st=⟨f,[fr],[]⟩∧k=P.progs.length-i∧i≤P.progs.length∧f 1=.ptr 0 1 0∧f 3=.bool (b&&(P.progs.take i).all (Kx P))∧f 4=.int .i64 (i:Nat)
 have m1':=m1;refine Qd I _ ⟨f,0,rfl,rfl,QVV _,h1,by rw[h3];simp,ha⟩ ?_;clear h1 h3 ha;simp only[Pc]at m1;rintro _ st ⟨f,i,rfl,rfl,hi,h1,h3,ha⟩;simp only[QWI,h1,m1,ha,eE,seval];by_cases hlt:i<P.progs.length
 ·obtain⟨x,hg⟩:∃x,P.progs[i]? = some x:=⟨P.progs[i],QVO hlt⟩;have hgm:(P.progs.map Qn)[i]? = some (.agg x.cells):=by simp[hg,Qn]
  have e1:=Qm i _ hlt hP.len1;have ht:=Q3 (q:=Kx P) hg;have hq:Kx P x=((P.enums.all fun e=>!(e.name==x.name))&&Ku x.ops PO.name):=rfl;simp only[PG.cells]at hgm;simp only[Ql hlt,Qa,seval];refine QP0 P hP fr m1' _ (b&&(P.progs.take i).all (Kx P)) (by exact h1) (by exact h3) _ i x hg (by exact ha) (by rfl) (fun f h1 h3 ha=>?_);simp only[Qh,QXe,Qc,hgm,h1,m1,ha,eE,seval];refine Rv fr _ _ (by exact h1) (by exact h3) _ x.ops (hP.progs x (QV0 hg)).len i (by exact ha) (by rfl) (by rfl) (fun f h1 h3 ha=>?_);simp only[ha,e1,Qa,seval];exact⟨P.progs.length-(i+1),by omega,_,i+1,rfl,rfl,by omega,(by exact h1),by rw[ht,hq,←QWx,←QWx]<;>first|exact h3|simp only[h3,eE,seval],(by rfl)⟩
 ·have hf:(P.progs.take i).all (Kx P)=P.progs.all (Kx P):=by rw[QWl (by omega)]
  rw[hf]at h3;simp only[Qy hlt,Qa,seval];exact hx _ (by exact h1) (by exact h3)

theorem QP2 (ha:f 9=.int .i64 0)(hx:∀f,f 1=.ptr 0 1 0→f 3=.bool (b&&P.enums.all Wq)→Q (.exit 8) (⟨f,[fr],[]⟩:St)):QH Tryz.prog (.loop SB) ⟨f,[fr],[]⟩ Q:=by
 let I:Nat→St→Prop:=fun k st=>∃f i,st=⟨f,[fr],[]⟩∧k=P.enums.length-i∧i≤P.enums.length∧f 1=.ptr 0 1 0∧f 3=.bool (b&&(P.enums.take i).all Wq)∧f 9=.int .i64 (i:Nat)
 refine Qd I _ ⟨f,0,rfl,rfl,QVV _,h1,by rw[h3];simp,ha⟩ ?_;clear h1 h3 ha;simp only[Pc]at m1;rintro _ st ⟨f,i,rfl,rfl,hi,h1,h3,ha⟩;simp only[QWI,h1,m1,ha,eE,seval];by_cases hlt:i<P.enums.length
 ·obtain⟨x,hg⟩:∃x,P.enums[i]? = some x:=⟨P.enums[i],QVO hlt⟩;have hgm:(P.enums.map Qr)[i]? = some (.agg x.cells):=by simp[hg,Qr]
  have e1:=Qm i _ hlt hP.len2;have ht:=Q3 (q:=Wq) hg;have hq:Wq x=Ku x.items PI.name:=rfl;simp only[PE.cells]at hgm;simp only[Ql hlt,Qh,QXe,Qc,hgm,h1,m1,ha,eE,seval];refine V7 fr _ (b&&(P.enums.take i).all Wq) (by exact h1) (by exact h3) _ x.items (hP.enums x (QV0 hg)).len1 i (by exact ha) (by rfl) (by rfl) (fun f h1 h3 ha=>?_);simp only[ha,e1,Qa,seval];exact⟨P.enums.length-(i+1),by omega,_,i+1,rfl,rfl,by omega,(by exact h1),by rw[ht,hq,←QWx]<;>first|exact h3|simp only[h3,eE,seval],(by rfl)⟩
 ·have hf:(P.enums.take i).all Wq=P.enums.all Wq:=by rw[QWl (by omega)]
  rw[hf]at h3;simp only[Qy hlt,Qa,seval];exact hx _ (by exact h1) (by exact h3)

end

theorem z46 {M:Nat}(P:PL)(hP:P.ok M):Qj Tryz.prog 46 [P.av] (.bool (Bd P)):=by
 have e0:P.av=.agg [.list (P.progs.map Qn),.list (P.enums.map Qr)]:=rfl;refine k46.fn (by simp) ?_;simp only[e0,eE,seval];refine QP1 P hP _ (by rfl) _ true (by rfl) (by rfl) _ (by rfl) (fun f h1 h3=>?_);simp only[Qa,seval];refine QP2 P hP _ (by rfl) _ _ (by exact h1) (by exact h3) _ (by rfl) (fun f h1 h3=>?_);simp only[h3,Bd,QXo,Qa,seval]

theorem QvI:Qj Tryz.prog 128 [.str alias] (.int .i64 7):=by
 refine QLD.fn (by simp) ?_;have b1:(alias==([100,101,112,114,101,99,97,116,101,100]:List UInt8))=false:=by decide
 have b2:(alias==([115,101,99,114,101,116]:List UInt8))=false:=by decide
 have b3:(alias==([105,100,101,109,112,111,116,101,110,116]:List UInt8))=false:=by decide
 have b4:(alias==([100,111,99]:List UInt8))=false:=by decide
 have b5:(alias==([97,108,105,97,115]:List UInt8))=true:=by decide
 simp only[QL,b1,b2,b3,b4,b5,Qa,seval]

theorem QP3:Qj Tryz.prog 129 [.str alias,.int .i64 4] (.bool true):=by
 refine QLG.fn (by simp) ?_;have b1:(alias==([100,101,112,114,101,99,97,116,101,100]:List UInt8))=false:=by decide
 have b4:(alias==([100,111,99]:List UInt8))=false:=by decide
 have b5:(alias==([97,108,105,97,115]:List UInt8))=true:=by decide
 have c2:((4:Int)==2)=false:=rfl;have c4:((4:Int)==4)=true:=rfl;simp only[QL,b1,b4,b5,c2,c4,Qa,seval]

section
variable (kd:Int)(b:Nat)(t:List UInt8)(l p s r:List AV)(ht:t.length+8≤maxLen)
include ht

theorem QP4:Qj Tryz.prog 201 [.int .i64 7,vo kd b t l p s r] (.bool (Xx 7 kd b t l p s r)):=by
 have hl:=Rt kd b t l p s r;simp only[vo]at hl;have n1:(kd != 7)=!(kd==7):=rfl;have k7:isk 7=true:=rfl;have t7:X9 7=true:=rfl;have f7:Yx 7 b=true:=rfl;have c8:((7:Int)==8)=false:=rfl;have c7:((7:Int) != 7)=false:=rfl;refine QsP.fn (by simp) ?_;simp only[vo,Xx,k7,f7,c7,QXo,QW0,QXs,eE,seval];refine Qb (VQ 7) rfl rfl rfl (.inl rfl) ?_;simp only[k7,n1,QXp,eE,seval];by_cases hk:kd=7
 ·subst hk;have a1:((7:Int)==7)=true:=rfl;simp only[a1,QXp,QXo,t7,eE,seval];refine Qb hl rfl rfl rfl (.inl rfl) ?_;cases WR l p s r
  ·simp only[QWU,QXh,Qa,seval]
  simp only[QXp,QXo,Qa,seval];refine Qb (Hs 7) rfl rfl rfl (.inl rfl) ?_;simp only[t7,eE,seval];cases a2:((b:Int)==0)
  ·simp only[QXh,Qa,seval]
  cases a3:decide ((t.length:Int)≤4096)
  ·simp only[a3,QXh,QXF,eE,seval]
  simp only[a3,c8,QXo,eE,seval];refine Qb (VU t ht) rfl rfl rfl (.inl rfl) ?_;simp only[Qa,seval]
 ·have a1:(kd==7)=false:=by simp[hk]
  simp only[a1,QWU,QXh,Qa,seval]

theorem QP5:Qj Tryz.prog 130 [nv kd b t l p s r] (.bool (Xx 7 kd b t l p s r)):=by
 have hf:=QP4 kd b t l p s r ht;have b0:((7:Int) != 0)=true:=rfl;simp only[vo]at hf;refine QLJ.fn (by simp) ?_;simp only[nv,eE,seval];refine Qb QvI rfl rfl rfl (.inl rfl) ?_;simp only[b0,eE,seval];cases a1:(kd==7)
 ·have e:Xx 7 kd b t l p s r=false:=by unfold Xx;rw[a1];rfl
  simp only[e,Qa,seval]
 ·simp only[eE,seval];refine Qb hf rfl rfl rfl (.inl rfl) ?_;simp only[Qa,seval]

def RcI (k:Nat)(st:St):Prop :=
 ∃f i,st=⟨f,[Qe],[]⟩∧k=1-i∧i≤1∧(i=1→Xx 7 kd b t l p s r=true)∧f 0=.list [nv kd b t l p s r]∧f 1=.int .i64 4∧f 5=.int .i64 (i:Nat)

theorem z79:Qj Tryz.prog 79 [.list [nv kd b t l p s r],.int .i64 4] (.int .i64 (if Xx 7 kd b t l p s r=true then 0 else 12)):=by
 have b0:decide (((1:Nat):Int) > 8)=false:=rfl;have hr:=QP5 kd b t l p s r ht;simp only[nv]at hr;refine k79.fn (by simp) ?_;simp only[QV2,QWJ,QWt,Qa,seval];refine Qd (RcI kd b t l p s r) 1 ⟨_,0,rfl,rfl,QVV _,(fun h=>by cases h),(by rfl),(by rfl),(by rfl)⟩ ?_;rintro _ st ⟨f,i,rfl,rfl,hi,hf,h0,h1,h5⟩;simp only[nv]at h0;simp only[h0,h5,QV2,QWJ,QWt,Qa,seval];rcases Nat.le_one_iff_eq_zero_or_eq_one.1 hi with rfl|rfl
 ·have c0:decide (((0:Nat):Int)<((1:Nat):Int))=true:=rfl;have c1:decide (((0:Nat):Int) > 0)=false:=rfl;have d7:((7:Int)==0)=false:=rfl;have e1:IntKind.i64.wrap (((0:Nat):Int)+1)=((1:Nat):Int):=rfl;have z0:(0≤((0:Nat):Int))=True:=by simp
  have z1:Int.toNat ((0:Nat):Int)=0:=rfl;simp only[Qc,QWP,h0,h5,eE,seval];refine Qb QvI rfl rfl rfl (.inl rfl) ?_;simp only[d7,Qc,QWP,h0,h1,h5,eE,seval];refine Qb QP3 rfl rfl rfl (.inl rfl) ?_;simp only[QXp,Qc,QWP,h0,h5,eE,seval];refine Qb hr rfl rfl rfl (.inl rfl) ?_;cases hfv:Xx 7 kd b t l p s r
  ·simp only[QWU,QV6,Qa,seval]
  ·simp only[QXp,h5,Qa,seval];exact⟨0,by omega,_,1,rfl,rfl,QVL _,fun _=>hfv,(by exact h0),(by exact h1),(by rfl)⟩
 ·have c0:decide (((1:Nat):Int)<((1:Nat):Int))=false:=rfl;simp only[hf rfl,Qa,seval]

end

section
variable (P:PL)

def YA (P:PL)(o:PO):Bool :=
 if o.kind=10 then decide (o.target≥0)&&decide (o.target<(P.progs.length:Int))&&o.card != 3
 else if o.kind=9 then decide (o.target≥0)&&decide (o.target<(P.enums.length:Int))else o.target == -1

theorem QP6 (o:PO):Qj Tryz.prog 132 [P.av,Qt o] (.bool (YA P o)):=by
 have e0:P.av=.agg [.list (P.progs.map Qn),.list (P.enums.map Qr)]:=rfl;refine QLP.fn (by simp) ?_;simp only[e0,Qt,PO.cells,YA,eE,seval];by_cases h:o.kind=10
 ·have b0:(o.kind==10)=true:=by simp[h]
  simp only[b0,QWg h,eE,seval];cases a1:decide (o.target≥0)<;>cases a2:decide (o.target<(P.progs.length:Int))<;>simp only[a2,QXo,QXh,QWI,eE,seval]
 ·have b0:(o.kind==10)=false:=by simp[h]
  by_cases h9:o.kind=9
  ·have b1:(o.kind==9)=true:=by simp[h9]
   simp only[b0,b1,QV1 h,QWg h9,eE,seval];cases a1:decide (o.target≥0)<;>simp only[QXo,QXh,QWI,eE,seval]
  ·have b1:(o.kind==9)=false:=by simp[h9]
   simp only[b0,b1,QV1 h,QV1 h9,eE,seval]

theorem QvJ (o:PO):(X4 P o&&XU o)=(Hh o.alias&&(decide ((o.alias.length:Int)≤4096)&&(decide (o.card≥1)&&(decide (o.card≤5)&&(decide (o.kind≥1)&&(decide (o.kind≤10)&&(key o&&YA P o&&XU o))))))):=by
 have h:Gv P o=(decide (o.kind≥1)&&decide (o.kind≤10)&&YA P o):=by
  unfold Gv YA;by_cases h:o.kind=10
  ·rw[QWg h,QWg h,h];rfl
  ·rw[QV1 h,QV1 h];by_cases h9:o.kind=9
   ·rw[QWg h9,QWg h9,h9];rfl
   ·rw[QV1 h9,QV1 h9];congr 1
    unfold isk;rw[QWH,QWb,QWb];simp only[QVS];omega
 unfold X4;rw[h];cases Hh o.alias<;>cases decide ((o.alias.length:Int)≤4096)<;>cases decide (o.card≥1)<;>cases decide (o.card≤5)<;>cases decide (o.kind≥1)<;>cases decide (o.kind≤10)<;>cases key o<;>cases YA P o<;>cases XU o<;>rfl

theorem z81 (o:PO)(ha:o.alias.length+8≤maxLen):Qj Tryz.prog 81 [P.av,Qt o] (.bool (X4 P o&&XU o)):=by
 have e0:P.av=.agg [.list (P.progs.map Qn),.list (P.enums.map Qr)]:=rfl;have n1:decide ((o.alias.length:Int) > 4096)=!decide ((o.alias.length:Int)≤4096):=(by rw[QWH];simp only[QVS,QWL,QXE];omega);have n2:decide (o.card<1)=!decide (o.card≥1):=(by rw[QWH];simp only[QVS,QWL,QXE];omega);have n3:decide (o.card > 5)=!decide (o.card≤5):=(by rw[QWH];simp only[QVS,QWL,QXE];omega);have n4:decide (o.kind<1)=!decide (o.kind≥1):=(by rw[QWH];simp only[QVS,QWL,QXE];omega);have n5:decide (o.kind > 10)=!decide (o.kind≤10):=(by rw[QWH];simp only[QVS,QWL,QXE];omega);have ht:Qj Tryz.prog 132 [.agg [.list (P.progs.map Qn),.list (P.enums.map Qr)],Qt o] (.bool (YA P o)):=QP6 P o;have hk1:o.card≠5→key o=(o.key==0):=fun h=>by unfold key;rw[QV1 h]
 have hk2:o.card=5→key o=((decide (o.key≥1)&&decide (o.key≤5))||o.key==7):=fun h=>by
  unfold key;rw[QWg h,QWH];simp only[QWb,QVR,QVS,QVT,QWd,ne_eq];omega
 have hu:XU o=(o.union == -1||o.card==2):=rfl;simp only[Qt,PO.cells]at ht;rw[QvJ];refine k81.fn (by simp) ?_;simp only[SO,SP,SQ,SR,SS,STw,r81,o81,e0,Qt,PO.cells,eE,seval];refine Qb (VU o.alias ha) rfl rfl rfl (.inl rfl) ?_;cases Hh o.alias
 ·simp only[QWU,QXh,Qa,seval]
 cases a1:decide ((o.alias.length:Int)≤4096)
 ·simp only[QXp,QWU,QXo,n1,a1,QXh,eE,seval]
 cases a2:decide (o.card≥1)
 ·simp only[QXp,QWU,QXo,n1,n2,a1,a2,QXh,eE,seval]
 cases a3:decide (o.card≤5)
 ·simp only[QXp,QWU,QXo,n1,n2,n3,a1,a2,a3,QXh,eE,seval]
 cases a4:decide (o.kind≥1)
 ·simp only[QXp,QWU,QXo,n1,n2,n3,n4,a1,a2,a3,a4,QXh,eE,seval]
 cases a5:decide (o.kind≤10)
 ·simp only[QXp,QWU,QXo,n1,n2,n3,n4,n5,a1,a2,a3,a4,a5,QXh,eE,seval]
 have fin:∀(f:Fr) (fr:Nat→Ob) (kb:Bool),kb=key o→f 2=.ptr 0 2 0→fr 2=.cells [.list (P.progs.map Qn),.list (P.enums.map Qr)]→f 3=.ptr 0 3 0→fr 3=.cells [.int .i64 o.num,.str o.name,.str o.alias,.int .i64 o.card,.int .i64 o.key,.int .i64 o.kind,.int .i64 o.target,.int .i64 o.union]→f 5=.bool kb→
   QF Tryz.prog VP ⟨f,[fr],[]⟩ (Kc Tryz.prog .ret (Zi [.tmp 4] 0 fun x _=>x=.bool (key o&&YA P o&&XU o)) .normal):=by
  intro f fr kb hkb h2 m2 h3 m3 h5;subst hkb;simp only[VP,h5,Qa,seval];cases key o
  ·simp only[QXh,Qa,seval]
  simp only[h2,m2,h3,m3,QXo,eE,seval];refine Qb ht rfl rfl rfl (.inl rfl) ?_;cases YA P o
  ·simp only[QXh,Qa,seval]
  rw[hu];cases c1:(o.union == -1)<;>simp only[h3,m3,c1,QXo,QXr,QXs,eE,seval]
 by_cases h5:o.card=5
 ·have b5:(o.card != 5)=false:=by simp[h5]
  have hk:=hk2 h5;simp only[QXp,QXo,n1,n2,n3,n4,n5,a1,a2,a3,a4,a5,eE,seval];cases c1:decide (o.key≥1)<;>cases c2:decide (o.key≤5)<;>cases c3:(o.key==7)<;>simp only[c2,c3,b5,eE,seval]
  all_goals
   rw[c1,c2,c3]at hk;exact fin _ _ _ hk.symm (by rfl) (by rfl) (by rfl) (by rfl) (by rfl)
 ·have b5:(o.card != 5)=true:=by simp[h5]
  have hk:=hk1 h5;simp only[QXp,QXo,n1,n2,n3,n4,n5,a1,a2,a3,a4,a5,eE,seval];cases c1:decide (o.key≥1)<;>cases c2:decide (o.key≤5)<;>cases c3:(o.key==7)<;>simp only[c2,c3,b5,eE,seval]
  all_goals exact fin _ _ _ hk.symm (by rfl) (by rfl) (by rfl) (by rfl) (by rfl)

end

end Go.Proofs.YtipjfckmopekaaaGreatDoor.Va

namespace Go.Proofs.YtipjfckmopekaaaGreatDoor.Cp
open Go Am Bt Vp

structure C where
 d:List UInt8
 a:Int
 e:Int
 dp:Int
 nd:Int
 tx:Int

def C.av (c:C):AV:=.agg [.str c.d,.int .i64 c.a,.int .i64 c.e,.int .i64 c.dp,.int .i64 c.nd,.int .i64 c.tx]
def zc:C:=⟨[],0,0,0,0,0⟩

structure L where
 b:Int
 dp:Int
 nd:Int
 tx:Int
def L.av (l:L):AV:=.agg [.int .i64 l.b,.int .i64 l.dp,.int .i64 l.nd,.int .i64 l.tx]

def C.sound (c:C):Bool:=decide (0≤c.a)&&decide (c.a≤c.e)&&decide (c.e≤(c.d.length:Int))
def C.rest (c:C):List UInt8:=bif c.sound then(c.d.drop c.a.toNat).take (c.e.toNat-c.a.toNat)else []
def C.left (c:C):Int:=(c.rest.length:Int)
def C.ahead (c:C)(n:Int):C:={ c with a:=IntKind.i64.wrap (c.a+n) }

def opn (s:List UInt8)(l:L):C×Nat :=
 if l.b<0∨l.dp<0∨l.nd<0∨l.tx<0 then(zc,1)else if l.b<(s.length:Int)then(zc,3)else(⟨s,0,s.length,l.dp,l.nd,l.tx⟩,0)

def C.varint (c:C):Nat×C×Nat :=
 let r:=Vp.take c.rest
 if r.2.2=0 then(r.1,c.ahead r.2.1,0)else(0,c,r.2.2)

def Rw (s:List UInt8):Nat:=(s.take 8).foldr (fun b u=>256*u+b.toNat) 0

def C.fixed (c:C):Nat×C×Nat :=
 if c.rest.length<8 then(0,c,4)else(Rw c.rest,c.ahead 8,0)

def C.spend (c:C)(n:Int):C×Nat :=
 if n<0 then(c,1)else if c.nd<n then(c,3)else({ c with nd:=IntKind.i64.wrap (c.nd-n) },0)

theorem C.sound_iff (c:C):c.sound=true↔0≤c.a∧c.a≤c.e∧c.e≤(c.d.length:Int):=by
 simp[C.sound,and_assoc]

theorem C.rest_len (c:C):c.left=if c.sound=true then c.e-c.a else 0:=by
 unfold C.left C.rest;split
 ·rename_i h;rw[h];have:=(C.sound_iff c).1 h;simp;omega
 ·rename_i h;have h:c.sound=false:=by simpa using h
  rw[h];rfl

theorem C.rest_no {c:C}(h:c.sound=false):c.rest=[]:=by
 unfold C.rest;rw[h];rfl

end Go.Proofs.YtipjfckmopekaaaGreatDoor.Cp

namespace Go.Proofs.YtipjfckmopekaaaGreatDoor.Up
open Go Am Bt Vp Cp

structure R where
 num:Int
 wire:Int
 bits:Nat
 data:List UInt8
 deriving DecidableEq

def R.av (f:R):AV:=.agg [.int .i64 f.num,.int .i64 f.wire,.int .u64 (f.bits:Nat),.str f.data]
def zr:R:=⟨0,0,0,[]⟩

def XY (num wire:Int):List UInt8×Nat :=
 if num<1∨65535<num∨wire<0∨6<wire then([],6)else(Vp.put (num*8+wire).toNat,0)
def Uk (r:List UInt8×Nat):AV:=.tup [.str r.1,.int .i64 (r.2:Nat)]

def NW (c:C):Int×Int×C×Nat :=
 let r:=c.varint
 if r.2.2=0 then
  if r.1 % 8=7 then(0,0,c,5)else if r.1 / 8<1∨65535<r.1 / 8 then(0,0,c,6)else((r.1 / 8:Nat),(r.1 % 8:Nat),r.2.1,0)
 else(0,0,c,r.2.2)
def ZG (wire:Int):Bool:=wire==0||wire==1||wire==2

def Bp (c:C)(wire:Int):List UInt8×C×Nat :=
 let r:=c.varint
 if r.2.2=0 then
  if r.2.1.left<(r.1:Int)then([],c,4)
  else if (if wire=3 then c.tx else 65536)<(r.1:Int)then([],c,3)
  else((r.2.1.d.drop r.2.1.a.toNat).take r.1,r.2.1.ahead r.1,0)
 else([],c,r.2.2)
def QvK (c:C)(f:R):R×C×Nat :=
 if f.wire=2 then({ f with bits:=c.fixed.1 },c.fixed.2.1,c.fixed.2.2)
 else if f.wire=0∨f.wire=1 then({ f with bits:=c.varint.1 },c.varint.2.1,c.varint.2.2)
 else({ f with data:=(Bp c f.wire).1 },(Bp c f.wire).2.1,(Bp c f.wire).2.2)

def Yb (c:C):R×C×Nat :=
 let t:=NW c
 if t.2.2.2=0 then
  let s:=t.2.2.1.spend 1
  if s.2=0 then
   let k:=QvK s.1 { num:=t.1,wire:=t.2.1,bits:=0,data:=[] }
   if k.2.2=0 then k else(zr,c,k.2.2)
  else(zr,c,s.2)
 else(zr,c,t.2.2.2)
theorem Bq {c:C}(h:c.rest≠[]):c.sound=true:=by
 cases hs:c.sound with
 |true=>rfl
 |false=>exact absurd (C.rest_no hs) h

theorem W3 {c:C}(hl:c.d.length≤9223372036854775807)(h:c.varint.2.2=0):∃n:Nat,0<n∧n≤10∧(n:Int)≤c.left∧c.varint.2.1={ c with a:=c.a+n }∧c.sound=true∧c.varint.2.1.sound=true∧c.varint.1<2 ^ 64:=by
 unfold C.varint at h ⊢;have hb:=Ng c.rest;generalize Vp.take c.rest=r at h hb ⊢;obtain⟨u,n,e⟩:=r;simp only at h hb ⊢;split at h
 ·rename_i he;subst he;obtain⟨h1,h2,h3,h4⟩:=hb rfl;have hne:c.rest≠[]:=by intro e;rw[e]at h2;simp at h2;omega
  have hs:=Bq hne;have hs':=(C.sound_iff c).1 hs;have hle:=c.rest_len;rw[QWg hs]at hle;have hw:IntKind.i64.wrap (c.a+(n:Int))=c.a+n:=by
   have:(n:Int)≤c.left:=by unfold C.left;omega
   rw[QG];omega
  have hnl:(n:Int)≤c.left:=by unfold C.left;omega
  refine⟨n,h1,h3,hnl,?_,hs,?_,?_⟩
  ·rw[QWg rfl];simp only[C.ahead,hw]
  ·rw[QWg rfl];rw[C.sound_iff];simp only[C.ahead,hw];omega
  ·rw[QWg rfl];exact h4
 ·rename_i he;exact absurd h he

end Go.Proofs.YtipjfckmopekaaaGreatDoor.Up

namespace Go.Proofs.YtipjfckmopekaaaGreatDoor.Br
open Go Am Up

theorem LO {M k:Nat}{cs:List AV}(h:Q6 Tryz.prog M k 52 cs):∃f:R,((Lit.int .i64 f.num).wf=true∧(Lit.int .i64 f.wire).wf=true∧(Lit.int .u64 (f.bits:Int)).wf=true∧f.data.length≤M)∧.agg cs=f.av:=by
 obtain⟨k,h⟩:=X6 Tryz.underlying52 h;simp only[Q6.HasL]at h;obtain⟨_,_,rfl,h0,_,_,rfl,h1,_,_,rfl,h2,_,_,rfl,h3,rfl⟩:=h;obtain⟨a0,rfl,w0⟩:=Xo Tryz.underlying3 h0;obtain⟨a1,rfl,w1⟩:=Xo Tryz.underlying3 h1;obtain⟨a2,rfl,w2⟩:=Xo Tryz.underlying26 h2;obtain⟨a3,rfl,w3⟩:=Jq Tryz.underlying9 h3;have hn:0≤a2:=FK w2;obtain⟨n,rfl⟩:=QXq hn;exact⟨⟨a0,a1,n,a3⟩,⟨w0,w1,w2,w3⟩,rfl⟩

inductive V where
 |mk (k:Int) (b:Nat) (t:List UInt8) (l:List V) (p:List (V×V)) (s:List (Int×V)) (r:List R)
 deriving Inhabited

mutual
def V.cells:V→List AV
 |.mk k b t l p s r=>[.int .i64 k,.int .u64 (b:Nat),.str t,.list (V.cl l),.list (V.cp p),.list (V.cs s),.list (r.map R.av)]
def V.cl:List V→List AV
 | []=>[]
 |x :: l=>.agg x.cells :: V.cl l
def V.cp:List (V×V)→List AV
 | []=>[]
 |(a,b) :: l=>.agg (a.cells++b.cells) :: V.cp l
def V.cs:List (Int×V)→List AV
 | []=>[]
 |(n,a) :: l=>.agg (.int .i64 n :: a.cells) :: V.cs l
end

def V.kd:V→Int|.mk k _ _ _ _ _ _=>k
def V.bits:V→Nat|.mk _ b _ _ _ _ _=>b
def V.text:V→List UInt8|.mk _ _ t _ _ _ _=>t
def V.list:V→List V|.mk _ _ _ l _ _ _=>l
def V.pairs:V→List (V×V)|.mk _ _ _ _ p _ _=>p
def V.slots:V→List (Int×V)|.mk _ _ _ _ _ s _=>s
def V.raws:V→List R|.mk _ _ _ _ _ _ r=>r

def V.av (v:V):AV:=.agg v.cells
def V.pav (p:V×V):AV:=.agg (p.1.cells++p.2.cells)
def V.sav (s:Int×V):AV:=.agg (.int .i64 s.1 :: s.2.cells)

theorem V.cl_eq:∀l:List V,V.cl l=l.map V.av
 | []=>rfl
 |x :: l=>by rw[V.cl,V.cl_eq l];rfl
theorem V.cp_eq:∀l:List (V×V),V.cp l=l.map V.pav
 | []=>rfl
 |(a,b) :: l=>by rw[V.cp,V.cp_eq l];rfl
theorem V.cs_eq:∀l:List (Int×V),V.cs l=l.map V.sav
 | []=>rfl
 |(n,a) :: l=>by rw[V.cs,V.cs_eq l];rfl

theorem V.eta:∀v:V,v.cells=[.int .i64 v.kd,.int .u64 (v.bits:Nat),.str v.text,.list (v.list.map V.av),.list (v.pairs.map V.pav),.list (v.slots.map V.sav),.list (v.raws.map R.av)]
 |.mk k b t l p s r=>by rw[V.cells,V.cl_eq,V.cp_eq,V.cs_eq];rfl

theorem V.ind {P:V→Prop}(h:∀v:V,(∀x∈v.list,P x)→(∀x∈v.pairs,P x.1∧P x.2)→(∀x∈v.slots,P x.2)→P v)(v:V):P v :=
 V.rec (motive_1:=P) (motive_2:=fun l=>∀x∈l,P x) (motive_3:=fun p=>∀x∈p,P x.1∧P x.2) (motive_4:=fun s=>∀x∈s,P x.2) (motive_5:=fun q=>P q.1∧P q.2) (motive_6:=fun q=>P q.2)
  (fun k b t l p s r hl hp hs=>h (.mk k b t l p s r) hl hp hs)
  (by simp) (fun a l ha hl=>by simpa using ⟨ha,hl⟩)
  (by simp) (fun a l ha hl=>by simp only[QW9,forall_eq_or_imp];exact⟨ha,hl⟩)
  (by simp) (fun a l ha hl=>by simp only[QW9,forall_eq_or_imp];exact⟨ha,hl⟩)
  (fun a b ha hb=>⟨ha,hb⟩) (fun n a ha=>ha) v

structure _root_.Go.Proofs.YtipjfckmopekaaaGreatDoor.Up.R.ok (M:Nat)(f:R):Prop where
 num:(Lit.int .i64 f.num).wf=true
 wire:(Lit.int .i64 f.wire).wf=true
 bits:(Lit.int .u64 (f.bits:Int)).wf=true
 data:f.data.length≤M

inductive V.ok (M:Nat):V→Prop
 |mk {v:V} (kd:(Lit.int .i64 v.kd).wf=true) (bits:(Lit.int .u64 (v.bits:Int)).wf=true) (text:v.text.length≤M) (nl:v.list.length≤1099511627776) (np:v.pairs.length≤549755813888) (ns:v.slots.length≤1099511627776) (nr:v.raws.length≤70368744177664)
   (list:∀x∈v.list,V.ok M x) (keys:∀x∈v.pairs,V.ok M x.1) (vals:∀x∈v.pairs,V.ok M x.2) (nums:∀x∈v.slots,(Lit.int .i64 x.1).wf=true) (slots:∀x∈v.slots,V.ok M x.2) (raws:∀x∈v.raws,x.ok M):V.ok M v

section
variable {M:Nat}{v:V}(h:v.ok M)
include h
theorem V.ok.kd:(Lit.int .i64 v.kd).wf=true:=by cases h;assumption
theorem V.ok.bits:(Lit.int .u64 (v.bits:Int)).wf=true:=by cases h;assumption
theorem V.ok.text:v.text.length≤M:=by cases h;assumption
theorem V.ok.nl:v.list.length≤1099511627776:=by cases h;assumption
theorem V.ok.np:v.pairs.length≤549755813888:=by cases h;assumption
theorem V.ok.ns:v.slots.length≤1099511627776:=by cases h;assumption
theorem V.ok.nr:v.raws.length≤70368744177664:=by cases h;assumption
theorem V.ok.list:∀x∈v.list,x.ok M:=by cases h;assumption
theorem V.ok.keys:∀x∈v.pairs,x.1.ok M:=by cases h;assumption
theorem V.ok.vals:∀x∈v.pairs,x.2.ok M:=by cases h;assumption
theorem V.ok.nums:∀x∈v.slots,(Lit.int .i64 x.1).wf=true:=by cases h;assumption
theorem V.ok.slots:∀x∈v.slots,x.2.ok M:=by cases h;assumption
theorem V.ok.raws:∀x∈v.raws,x.ok M:=by cases h;assumption
end

theorem V.cells_length (v:V):v.cells.length=7:=by rw[V.eta];rfl

theorem Dm {c:List AV}(h:2≤c.length):Xn c=.agg c:=by
 match c,h with
 |_ :: _ :: _,_=>rfl

theorem QGA {M:Nat}(hM:M=reachBytes∨M≤1048576):∀ {k:Nat} {cs:List AV},Q6 Tryz.prog M k 32 cs→∃v:V,v.ok M∧cs=v.cells:=by
 intro k
 induction k using Nat.strongRecOn with
 |ind k ih=>
 intro cs h;cases k with
 |zero=>cases h
 |succ k=>
 simp only[Q6,Tryz.underlying32,Q6.HasL]at h;obtain⟨_,_,rfl,h0,_,_,rfl,h1,_,_,rfl,h2,_,_,rfl,h3,_,_,rfl,h4,_,_,rfl,h5,_,_,rfl,h6,rfl⟩:=h;obtain⟨a0,rfl,w0⟩:=Xo Tryz.underlying3 h0;obtain⟨a1,rfl,w1⟩:=Xo Tryz.underlying26 h1;obtain⟨a2,rfl,w2⟩:=Jq Tryz.underlying9 h2;have hb:0≤a1:=FK w1;obtain⟨b,rfl⟩:=QXq hb;have sl:∀ {k0:Nat} {t e:TypeId} {cs:List AV},k0≤k→Tryz.prog.underlying t=some (.slice e)→Q6 Tryz.prog M k0 t cs→∃(k':Nat) (l:List (List AV)),k'<k∧cs=[.list (l.map Xn)]∧(l.length≤M∧(M=reachBytes→l.length*Tryz.prog.bytesOf e≤M))∧∀c∈l,Q6 Tryz.prog M k' e c:=by
  intro k0 t e cs hk hu h;cases k0 with
  |zero=>cases h
  |succ k0=>
   simp only[Q6,hu]at h;obtain⟨l,h1,h4,h3,h2⟩:=h;exact⟨k0,l,by omega,h1,⟨h2,h4.2⟩,h3⟩
 have nb:∀ {n b:Nat} (c:Nat),(n≤M∧(M=reachBytes→n*b≤M))→1048576≤c→(n*b≤140737488351232→n≤c)→n≤c:=fun c h1 h2 h3=>by
  rcases hM with e|e
  ·refine h3 (QVM (h1.2 e) ?_);rw[e];exact QVL _
  ·exact QVM h1.1 (QVM e h2)
 have y1:Tryz.prog.bytesOf 32=128:=by decide +kernel
 have y2:Tryz.prog.bytesOf 75=256:=by decide +kernel
 have y3:Tryz.prog.bytesOf 47=136:=by decide +kernel
 have y4:Tryz.prog.bytesOf 52=40:=by decide +kernel
 obtain⟨k3,l3,b3,rfl,w3,hl3⟩:=sl (QVL _) Tryz.underlying27 h3;obtain⟨k4,l4,b4,rfl,w4,hl4⟩:=sl (QVL _) Tryz.underlying28 h4;obtain⟨k5,l5,b5,rfl,w5,hl5⟩:=sl (QVL _) Tryz.underlying29 h5;obtain⟨k6,l6,b6,rfl,w6,hl6⟩:=sl (QVL _) Tryz.underlying30 h6;obtain⟨vs,rfl,hvs⟩:=Zn (f:=V.cells) (ok:=V.ok M) fun c hc=>ih k3 (by omega) (hl3 c hc)
 obtain⟨ps,rfl,hps⟩:=Zn (l:=l4) (f:=fun p:V×V=>p.1.cells++p.2.cells) (ok:=fun p=>p.1.ok M∧p.2.ok M) fun c hc=>by
  have h:=hl4 c hc;cases k4 with
  |zero=>cases h
  |succ k4=>
  simp only[Q6,Tryz.underlying75,Q6.HasL]at h;obtain⟨a,_,rfl,h0,b,_,rfl,h1,rfl⟩:=h;obtain⟨x,hx,rfl⟩:=ih k4 (by omega) h0;obtain⟨y,hy,rfl⟩:=ih k4 (by omega) h1;exact⟨(x,y),⟨hx,hy⟩,by simp⟩
 obtain⟨ss,rfl,hss⟩:=Zn (l:=l5) (f:=fun s:Int×V=>.int .i64 s.1 :: s.2.cells) (ok:=fun s=>(Lit.int .i64 s.1).wf=true∧s.2.ok M) fun c hc=>by
  have h:=hl5 c hc;cases k5 with
  |zero=>cases h
  |succ k5=>
  simp only[Q6,Tryz.underlying47,Q6.HasL]at h;obtain⟨_,_,rfl,h0,b,_,rfl,h1,rfl⟩:=h;obtain⟨a0,rfl,w0⟩:=Xo Tryz.underlying3 h0;obtain⟨y,hy,rfl⟩:=ih k5 (by omega) h1;exact⟨(a0,y),⟨w0,hy⟩,by simp⟩
 obtain⟨rs,rfl,hrs⟩:=Zn (l:=l6) (f:=fun r:R=>r.av.cells) (ok:=R.ok M) fun c hc=>by
  obtain⟨f,⟨g1,g2,g3,g4⟩,e⟩:=LO (hl6 c hc);refine⟨f,⟨g1,g2,g3,g4⟩,?_⟩;rw[←e];rfl
 refine⟨.mk a0 b a2 vs ps ss rs,.mk w0 w1 w2 (by rw[QWI,y1]at w3;exact nb _ w3 (by decide) (by omega)) (by rw[QWI,y2]at w4;exact nb _ w4 (by decide) (by omega)) (by rw[QWI,y3]at w5;exact nb _ w5 (by decide) (by omega)) (by rw[QWI,y4]at w6;exact nb _ w6 (by decide) (by omega)) hvs (fun x hx=>(hps x hx).1) (fun x hx=>(hps x hx).2) (fun x hx=>(hss x hx).1) (fun x hx=>(hss x hx).2) hrs,?_⟩;rw[V.eta];have e3:(vs.map V.cells).map Xn=vs.map V.av:=by
  rw[QXx];exact List.map_congr_left fun c _=>Dm (by rw[V.cells_length];omega)
 have e4:(ps.map (fun p=>p.1.cells++p.2.cells)).map Xn=ps.map V.pav:=by
  rw[QXx];exact List.map_congr_left fun p _=>Dm (by rw[QWp,V.cells_length];omega)
 have e5:(ss.map (fun s=>AV.int .i64 s.1 :: s.2.cells)).map Xn=ss.map V.sav:=by
  rw[QXx];exact List.map_congr_left fun p _=>Dm (by rw[QV2,V.cells_length];omega)
 have e6:(rs.map (fun r=>r.av.cells)).map Xn=rs.map R.av:=by
  rw[QXx];exact List.map_congr_left fun r _=>rfl
 rw[e3,e4,e5,e6];rfl

end Go.Proofs.YtipjfckmopekaaaGreatDoor.Br

namespace Go.Proofs.YtipjfckmopekaaaGreatDoor.Va
open Go Am Rc Bt Br

def oth (k:Int)(b:Nat)(t:List UInt8)(l p s r:List AV):Bool :=
 (k != 11&&decide ((l.length:Int) > 0))||(k != 12&&decide ((p.length:Int) > 0))||(k != 10&&decide (((s.length+r.length:Nat):Int) > 0))||((b:Int) != 0&&(X9 k||k==10||k==11||k==12))||(!(t==[]) && !X9 k)

section
variable (k:Int)(b:Nat)(t:List UInt8)(l p s r:List AV)(hs:s.length≤140737488351232)(hr:r.length≤140737488351232)

end

section
variable (k:Int)(b:Nat)(t:List UInt8)(l p s r:List AV)(hs:s.length≤140737488351232)(hr:r.length≤140737488351232)

set_option maxHeartbeats 2000000 in
include hs hr in
theorem z59:Qj Tryz.prog 59 [vo k b t l p s r] (.bool (oth k b t l p s r)):=by
 have w:IntKind.i64.wrap ((s.length:Int)+(r.length:Int))=((s.length+r.length:Nat):Int):=by simp only[QG];omega
 have n4:((b:Int) != 0)=!((b:Int)==0):=rfl;have n5:(t != [])=!(t==[]):=rfl;refine k59.fn (by simp) ?_;simp only[vo,oth,X9,n4,eE,seval];rcases(by omega:k=7∨k=8∨k=10∨k=11∨k=12∨(k≠7∧k≠8∧k≠10∧k≠11∧k≠12))with rfl|rfl|rfl|rfl|rfl|⟨h7,h8,h10,h11,h12⟩
 ·have b7:((7:Int)==7)=true:=by decide
  have b8:((7:Int)==8)=false:=by decide
  have b10:((7:Int)==10)=false:=by decide
  have b11:((7:Int)==11)=false:=by decide
  have b12:((7:Int)==12)=false:=by decide
  have c10:((7:Int) != 10)=true:=by decide
  have c11:((7:Int) != 11)=true:=by decide
  have c12:((7:Int) != 12)=true:=by decide
  have g1:decide ((7:Int)≥10)=false:=by decide
  have g2:decide ((7:Int)≤12)=true:=by decide
  simp only[b7,b8,b10,b11,b12,c10,c11,c12,QXo,QXG,QXF,QW0,QXp,eE,seval];cases a1:decide ((l.length:Int) > 0)<;>try simp only[c11,QXs,QXr,eE,seval]
  all_goals(cases a2:decide ((p.length:Int) > 0)<;>try simp only[c12,QXs,QXr,w,eE,seval])
  all_goals(cases a3:decide (((s.length+r.length:Nat):Int) > 0)<;>try simp only[QXs,QXr,QWU,eE,seval])
  all_goals(cases a4:((b:Int)==0)<;>try simp only[a4,n4,QWU,QXp,QL,eE,seval])
  all_goals(cases a5:(t==[])<;>try simp only[QWU,QXp,Qa,seval])

 ·have b7:((8:Int)==7)=false:=by decide
  have b8:((8:Int)==8)=true:=by decide
  have b10:((8:Int)==10)=false:=by decide
  have b11:((8:Int)==11)=false:=by decide
  have b12:((8:Int)==12)=false:=by decide
  have c10:((8:Int) != 10)=true:=by decide
  have c11:((8:Int) != 11)=true:=by decide
  have c12:((8:Int) != 12)=true:=by decide
  have g1:decide ((8:Int)≥10)=false:=by decide
  have g2:decide ((8:Int)≤12)=true:=by decide
  simp only[b7,b8,b10,b11,b12,c10,c11,c12,QXo,QXG,Bool.or_true,QXF,QW0,QXp,eE,seval];cases a1:decide ((l.length:Int) > 0)<;>try simp only[c11,QXs,QXr,eE,seval]
  all_goals(cases a2:decide ((p.length:Int) > 0)<;>try simp only[c12,QXs,QXr,w,eE,seval])
  all_goals(cases a3:decide (((s.length+r.length:Nat):Int) > 0)<;>try simp only[QXs,QXr,QWU,eE,seval])
  all_goals(cases a4:((b:Int)==0)<;>try simp only[a4,n4,QWU,QXp,QL,eE,seval])
  all_goals(cases a5:(t==[])<;>try simp only[QWU,QXp,Qa,seval])

 ·have b7:((10:Int)==7)=false:=by decide
  have b8:((10:Int)==8)=false:=by decide
  have b10:((10:Int)==10)=true:=by decide
  have b11:((10:Int)==11)=false:=by decide
  have b12:((10:Int)==12)=false:=by decide
  have c10:((10:Int) != 10)=false:=by decide
  have c11:((10:Int) != 11)=true:=by decide
  have c12:((10:Int) != 12)=true:=by decide
  have g1:decide ((10:Int)≥10)=true:=by decide
  have g2:decide ((10:Int)≤12)=true:=by decide
  simp only[b7,b8,b10,b11,b12,c10,c11,c12,QXo,QXh,QXG,Bool.or_true,QW0,QWU,eE,seval];cases a1:decide ((l.length:Int) > 0)<;>try simp only[c11,QXs,QXr,eE,seval]
  all_goals(cases a2:decide ((p.length:Int) > 0)<;>try simp only[c12,QXs,QXr,w,eE,seval])
  all_goals(cases a3:decide (((s.length+r.length:Nat):Int) > 0)<;>try simp only[QXp,eE,seval])
  all_goals(cases a4:((b:Int)==0)<;>try simp only[a4,n4,b11,b12,QXs,QXr,QWU,QXp,QL,eE,seval])
  all_goals(cases a5:(t==[])<;>try simp only[QWU,QXp,Qa,seval])

 ·have b7:((11:Int)==7)=false:=by decide
  have b8:((11:Int)==8)=false:=by decide
  have b10:((11:Int)==10)=false:=by decide
  have b11:((11:Int)==11)=true:=by decide
  have b12:((11:Int)==12)=false:=by decide
  have c10:((11:Int) != 10)=true:=by decide
  have c11:((11:Int) != 11)=false:=by decide
  have c12:((11:Int) != 12)=true:=by decide
  have g1:decide ((11:Int)≥10)=true:=by decide
  have g2:decide ((11:Int)≤12)=true:=by decide
  simp only[b7,b8,b10,b11,b12,c10,c11,c12,QXo,QXh,QXG,Bool.or_true,QXs,QW0,QWU,eE,seval];cases a1:decide ((l.length:Int) > 0)<;>try simp only[c11,eE,seval]
  all_goals(cases a2:decide ((p.length:Int) > 0)<;>try simp only[c12,QXs,QXr,w,eE,seval])
  all_goals(cases a3:decide (((s.length+r.length:Nat):Int) > 0)<;>try simp only[QXs,QXr,QWU,eE,seval])
  all_goals(cases a4:((b:Int)==0)<;>try simp only[a4,n4,b11,QXs,QXr,QWU,QXp,QL,eE,seval])
  all_goals(cases a5:(t==[])<;>try simp only[QWU,QXp,Qa,seval])

 ·have b7:((12:Int)==7)=false:=by decide
  have b8:((12:Int)==8)=false:=by decide
  have b10:((12:Int)==10)=false:=by decide
  have b11:((12:Int)==11)=false:=by decide
  have b12:((12:Int)==12)=true:=by decide
  have c10:((12:Int) != 10)=true:=by decide
  have c11:((12:Int) != 11)=true:=by decide
  have c12:((12:Int) != 12)=false:=by decide
  have g1:decide ((12:Int)≥10)=true:=by decide
  have g2:decide ((12:Int)≤12)=true:=by decide
  simp only[b7,b8,b10,b11,b12,c10,c11,c12,QXo,QXh,QXG,Bool.or_true,QW0,QWU,eE,seval];cases a1:decide ((l.length:Int) > 0)<;>try simp only[c11,QXs,QXr,eE,seval]
  all_goals(cases a2:decide ((p.length:Int) > 0)<;>try simp only[c12,w,eE,seval])
  all_goals(cases a3:decide (((s.length+r.length:Nat):Int) > 0)<;>try simp only[QXs,QXr,QWU,eE,seval])
  all_goals(cases a4:((b:Int)==0)<;>try simp only[a4,n4,b11,b12,QXs,QXr,QWU,QXp,QL,eE,seval])
  all_goals(cases a5:(t==[])<;>try simp only[QWU,QXp,Qa,seval])
 ·have b7:(k==7)=false:=by simp[h7]
  have b8:(k==8)=false:=by simp[h8]
  have b10:(k==10)=false:=by simp[h10]
  have b11:(k==11)=false:=by simp[h11]
  have b12:(k==12)=false:=by simp[h12]
  have c10:(k != 10)=true:=by simp[h10]
  have c11:(k != 11)=true:=by simp[h11]
  have c12:(k != 12)=true:=by simp[h12]
  rcases(by omega:(k≥10∧¬k≤12)∨¬k≥10)with⟨q1,q2⟩|q1
  ·have g1:decide (k≥10)=true:=QXD q1;have g2:decide (k≤12)=false:=QXy q2;simp only[b7,b8,b10,b11,b12,c10,c11,c12,QXo,QXG,QXF,QW0,QWU,eE,seval];cases a1:decide ((l.length:Int) > 0)<;>try simp only[c11,QXs,QXr,eE,seval]
   all_goals(cases a2:decide ((p.length:Int) > 0)<;>try simp only[c12,QXs,QXr,w,eE,seval])
   all_goals(cases a3:decide (((s.length+r.length:Nat):Int) > 0)<;>try simp only[QXs,QXr,QWU,eE,seval])
   all_goals(cases a4:((b:Int)==0)<;>try simp only[a4,n4,b11,b12,QWU,QXp,QL,eE,seval])
   all_goals(cases a5:(t==[])<;>try simp only[QWU,QXp,Qa,seval])
  ·have g1:decide (k≥10)=false:=QXy q1;simp only[b7,b8,b10,b11,b12,c10,c11,c12,QXo,QXG,QXF,QW0,QWU,eE,seval];cases a1:decide ((l.length:Int) > 0)<;>try simp only[c11,QXs,QXr,eE,seval]
   all_goals(cases a2:decide ((p.length:Int) > 0)<;>try simp only[c12,QXs,QXr,w,eE,seval])
   all_goals(cases a3:decide (((s.length+r.length:Nat):Int) > 0)<;>try simp only[QXs,QXr,QWU,eE,seval])
   all_goals(cases a4:((b:Int)==0)<;>try simp only[a4,n4,b11,b12,QWU,QXp,QL,eE,seval])
   all_goals(cases a5:(t==[])<;>try simp only[QWU,QXp,Qa,seval])

end

theorem M6 {α:Type}(p:α→Bool){l:List α}{i:Nat}{x:α}(hx:l[i]? = some x):(l.drop i).find? p=if p x=true then some x else(l.drop (i+1)).find? p:=by
 have hlt:i<l.length:=(QVN.1 hx).1;rw[QWv hlt,show l[i]=x from(QVN.1 hx).2,List.find?_cons];cases p x<;>rfl

def zc:List AV:=[.int .i64 0,.str [],.str [],.int .i64 0,.int .i64 0,.int .i64 0,.int .i64 0,.int .i64 0]

def OpI (g:PG)(n:Int)(k:Nat)(st:St):Prop :=
 ∃f fr i,st=⟨f,[fr],[]⟩∧k=g.ops.length-i∧g.ops.find? (fun o=>o.num==n)=(g.ops.drop i).find? (fun o=>o.num==n)∧f 1=.int .i64 n∧f 2=.ptr 0 2 0∧f 4=.ptr 0 4 0∧f 6=.int .i64 (i:Nat)∧fr 2=.cells g.cells∧fr 4=.cells zc

theorem SZ (g:PG)(hl:g.ops.length≤maxLen)(n:Int):Qj Tryz.prog 38 [Qn g,.int .i64 n] (Gq (fun o=>o.num==n) g.ops):=by
 refine k38.fn (by simp) ?_;simp only[Qn,PG.cells,eE,seval];refine Qd (OpI g n) _ ⟨_,_,0,rfl,rfl,rfl,(by rfl),(by rfl),(by rfl),(by rfl),(by rfl),(by rfl)⟩ ?_;rintro _ st ⟨f,fr,i,rfl,rfl,hx,h1,h2,h4,h6,m2,m4⟩;simp only[PG.cells,zc]at m2 m4;simp only[QWI,h2,h6,m2,eE,seval];by_cases hlt:i<g.ops.length
 ·obtain⟨x,hi⟩:∃x,g.ops[i]? = some x:=⟨g.ops[i],QVO hlt⟩;have hg:(g.ops.map fun o=>AV.agg o.cells)[i]? = some (.agg x.cells):=by simp[hi]
  have e1:=Qm i _ hlt hl;rw[M6 _ hi]at hx;simp only[PO.cells]at hg m2;simp only[Ql hlt,Qh,QXe,Qc,hg,PO.cells,h1,h2,h6,m2,eE,seval];cases hp:(x.num==n)
  ·rw[hp]at hx;simp only[QV6,if_false]at hx;simp only[h6,e1,Qa,seval];exact⟨g.ops.length-(i+1),by omega,_,_,i+1,rfl,rfl,hx,(by exact h1),(by exact h2),(by exact h4),(by rfl),m2,m4⟩
  ·rw[hp]at hx;simp only[if_true]at hx;simp only[Qh,QXe,Qc,hg,Gq,hx,QWX,QXz,Qt,PO.cells,h2,h4,h6,m2,m4,splice,QWV,QWa,QWn,QWu,QW1,QWQ,QV2,QWJ,QWY,QWZ,AV.leaf,eE,seval]
 ·have hx':g.ops.find? (fun o=>o.num==n)=none:=by rw[hx,QWo (by omega)];rfl
  simp only[Qy hlt,h4,m4,Gq,hx',QXl,QWC,Gp,Qt,PO.cells,splice,QWV,QWa,QWn,QWu,QW1,QWQ,QV2,QWJ,QWY,QWZ,AV.leaf,eE,seval]

section progs
variable (L:List PG)(hl:L.length≤maxLen)(p:PG→Bool)(c:Nat)(cap:AV)(m:Qq)

end progs

section items
variable (L:List PI)(hl:L.length≤maxLen)(p:PI→Bool)(c:Nat)(cap:AV)(m:Qq)

end items

def S0 (b:Nat)(x:PI):Bool:=IntKind.u64.wrap x.num==(b:Int)
def Gz (b:Nat)(x:PI):Bool:=x.num==IntKind.i64.wrap (b:Int)

theorem NX {b:Nat}{x:PI}(hb:b≤2147483647)(hx:(Lit.int .i64 x.num).wf=true):Gz b x=S0 b x:=by
 have h1:=Qau hx;have h2:=Qav hx;unfold Gz S0;rw[QWH,QVT,QVT,QG,Jc];omega

def Ws (E:List PE)(t:Int)(b:Nat):Bool :=
 if 0≤t∧t<E.length∧b≤2147483647 then
  match E[t.toNat]? with
  |some x=>x.opn||x.items.any (S0 b)
  |none=>false
 else false

def AcI (P:PL)(L:List PI)(eo:Bool)(n b:Nat)(k:Nat)(st:St):Prop :=
 ∃f fr i,st=⟨f,[fr],[]⟩∧k=L.length-i∧f 1=.int .i64 (n:Nat)∧f 2=.int .u64 (b:Nat)∧f 3=.ptr 0 3 0∧fr 3=.cells [.list (P.progs.map Qn),.list (P.enums.map Qr)]∧f 7=.bool (eo||(L.take i).any (Gz b))∧f 8=.int .i64 (i:Nat)

theorem QvL {M:Nat}(P:PL)(hP:P.ok M)(t:Int)(b:Nat):Qj Tryz.prog 112 [P.av,.int .i64 t,.int .u64 (b:Nat)] (.bool (Ws P.enums t b)):=by
 have e0:P.av=.agg [.list (P.progs.map Qn),.list (P.enums.map Qr)]:=rfl;refine QK8.fn (by simp) ?_;simp only[e0,eE,seval];by_cases h1:0≤t
 ·have d1:decide (t<0)=false:=QXy (by omega);by_cases h2:t<P.enums.length
  ·have d2:decide (t≥(P.enums.length:Int))=false:=QXy (by omega);by_cases h3:b≤2147483647
   ·have d3:decide ((b:Int) > 2147483647)=false:=QXy (by omega);obtain⟨n,rfl⟩:=QXq h1;have hn:n<P.enums.length:=by omega
    obtain⟨x,hi⟩:∃x,P.enums[n]? = some x:=⟨P.enums[n],QVO hn⟩;have hx:=hP.enums x (QV0 hi);have hg:(P.enums.map Qr)[n]? = some (.agg x.cells):=by simp[hi,Qr]
    simp only[PE.cells]at hg;have ha:Ws P.enums (n:Int) b=(x.opn||x.items.any (Gz b)):=by
     unfold Ws;rw[QWg ⟨h1,h2,h3⟩,QXe,hi];show(x.opn||x.items.any (S0 b))=_;congr 1
     rw[QWH,QXB,QXB]
     constructor
     ·rintro⟨y,hy,hp⟩;exact⟨y,hy,by rw[NX h3 (hx.items y hy).num];exact hp⟩
     ·rintro⟨y,hy,hp⟩;exact⟨y,hy,by rw[←NX h3 (hx.items y hy).num];exact hp⟩
    simp only[d1,d2,QWI,d3,Qh,QXe,Qc,hg,eE,seval];refine Qd (AcI P x.items x.opn n b) _ ⟨_,_,0,rfl,rfl,(by rfl),(by rfl),(by rfl),(by rfl),by simp only[QWV,List.any_nil,QXG]<;>first|rfl|simp only[eE,seval],(by rfl)⟩ ?_;rintro _ st ⟨f,fr,i,rfl,rfl,g1,g2,g3,m3,g7,g8⟩;simp only[QWI,Qh,QXe,Qc,hg,g1,g3,m3,g8,eE,seval];by_cases hlt:i<x.items.length
    ·obtain⟨y,hd⟩:∃y,x.items[i]? = some y:=⟨x.items[i],QVO hlt⟩;have hdm:(x.items.map fun n=>AV.agg n.cells)[i]? = some (.agg y.cells):=by simp[hd]
     simp only[PI.cells]at hdm;have e1:=Qm i _ hlt hx.len1;have ht:(x.opn||(x.items.take (i+1)).any (Gz b))=((x.opn||(x.items.take i).any (Gz b))||Gz b y):=by
      rw[QXv,hd];simp[Bool.or_assoc]
     have hp:Gz b y=(y.num==IntKind.i64.wrap (b:Int)):=rfl;rw[hp]at ht;simp only[PI.cells]at hg;cases hq:(x.opn||(x.items.take i).any (Gz b))
     ·rw[hq,QXs]at ht;simp only[Ql hlt,Qh,QXe,Qc,hg,hdm,hq,PI.cells,g1,g2,g3,m3,g7,g8,e1,eE,seval];exact⟨x.items.length-(i+1),by omega,_,_,i+1,rfl,rfl,(by exact g1),(by exact g2),(by exact g3),(by exact m3),by rw[ht]<;>first|rfl|simp only[eE,seval],(by rfl)⟩
     ·rw[hq,QXr]at ht;simp only[Ql hlt,hq,PI.cells,g7,g8,e1,Qa,seval];exact⟨x.items.length-(i+1),by omega,_,_,i+1,rfl,rfl,(by exact g1),(by exact g2),(by exact g3),(by exact m3),by rw[ht]<;>first|rfl|simp only[eE,seval],(by rfl)⟩
    ·rw[QWl (by omega)]at g7;simp only[Qy hlt,g7,ha,Qa,seval]
   ·have d3:decide ((b:Int) > 2147483647)=true:=QXD (by omega);have ha:Ws P.enums t b=false:=by
     unfold Ws;rw[QV1 (by omega)]
    simp only[d1,d2,QWI,d3,ha,eE,seval]
  ·have d2:decide (t≥(P.enums.length:Int))=true:=QXD (by omega);have ha:Ws P.enums t b=false:=by
    unfold Ws;rw[QV1 (by omega)]
   simp only[d1,d2,QWI,ha,eE,seval]
 ·have d1:decide (t<0)=true:=QXD (by omega);have ha:Ws P.enums t b=false:=by
   unfold Ws;rw[QV1 (by omega)]
  simp only[d1,ha,Qa,seval]

def Ul (P:PL)(k tg kd:Int)(b:Nat)(t:List UInt8)(l p s r:List AV):Int :=
 if (kd != k||oth kd b t l p s r)=true then 12 else if decide ((t.length:Int) > 4096)=true then 3 else if (k==7 && !Hh t)=true then 7
 else if (!Xx k kd b t l p s r)=true then 12 else if (k==9 && !Ws P.enums tg b)=true then 16 else 0

section
variable {M:Nat}(P:PL)(hP:P.ok M)(k tg kd:Int)(b:Nat)(t:List UInt8)(l p s r:List AV)(hl:l.length≤140737488351232)(hp:p.length≤140737488351232)(hs:s.length≤140737488351232)(hr:r.length≤140737488351232)

end
open Up

def XN (f:Nat→Int):Nat→Nat→Int
 |0,_=>0
 |k+1,i=>if f i=0 then XN f k (i+1)else f i

theorem M7 {f:Nat→Int}{n i:Nat}(h:i<n):XN f (n-i) i=if f i=0 then XN f (n-(i+1)) (i+1)else f i:=by
 rw[show n-i=(n-(i+1))+1 by omega];rfl
theorem GA {f:Nat→Int}{n i:Nat}(h:i<n)(e:f i=0):XN f (n-i) i=XN f (n-(i+1)) (i+1):=by
 rw[M7 h,QWg e]
theorem KH {f:Nat→Int}{n i:Nat}{v:Int}(h:i<n)(e:f i=v)(hv:v≠0):XN f (n-i) i=v:=by
 rw[M7 h,QV1 (by rw[e];exact hv),e]
theorem UL {f:Nat→Int}{n i:Nat}(h:¬i<n):XN f (n-i) i=0:=by
 rw[show n-i=0 by omega];rfl
theorem Wt {f:Nat→Int}:∀ {k i:Nat},XN f k i=0→∀j,i≤j→j<i+k→f j=0
 |0,_,_,_,h1,h2=>by omega
 |k+1,i,h,j,h1,h2=>by
  rw[XN]at h;split at h
  ·rename_i h0;by_cases e:j=i
   ·rw[e];exact h0
   ·exact Wt h j (by omega) (by omega)
  ·rename_i h0;exact absurd h h0

def _root_.Go.Proofs.YtipjfckmopekaaaGreatDoor.Br.V.oth (v:V):Bool:=Va.oth v.kd v.bits v.text (v.list.map V.av) (v.pairs.map V.pav) (v.slots.map V.sav) (v.raws.map R.av)
def _root_.Go.Proofs.YtipjfckmopekaaaGreatDoor.Br.V.one (P:PL)(k tg:Int)(v:V):Int:=Ul P k tg v.kd v.bits v.text (v.list.map V.av) (v.pairs.map V.pav) (v.slots.map V.sav) (v.raws.map R.av)

theorem GB (v:V):v.av=vo v.kd v.bits v.text (v.list.map V.av) (v.pairs.map V.pav) (v.slots.map V.sav) (v.raws.map R.av):=by
 rw[V.av,V.eta];rfl

def QW (P:PL)(t:Int):PG:=P.progs[t.toNat]?.getD ⟨[],[],0⟩
def ZH (a b:V):Bool:=a.bits==b.bits&&a.text==b.text
def Ze (g:PG)(n:Int):Option PO:=g.ops.find? fun o=>o.num==n

section
variable (m:PG→V→Int)(P:PL)
def QT (o:PO)(v:V):Int:=if o.kind=10 then m (QW P o.target) v else v.one P o.kind o.target
def YB (o:PO)(ps:List (V×V))(i:Nat):Int:=match ps[i]? with
 |none=>0
 |some x=>if x.1.one P o.key (-1)=0 then(if (ps.take i).any (fun q=>ZH q.1 x.1)=true then 9 else QT m P o x.2)else x.1.one P o.key (-1)
def Dn (o:PO)(l:List V)(i:Nat):Int:=match l[i]? with
 |none=>0
 |some x=>QT m P o x
def Xd (o:PO)(v:V):Int :=
 if o.card=5 then(if (v.kd != 12||v.oth)=true then 12 else XN (YB m P o v.pairs) v.pairs.length 0)
 else if o.card=4 then(if (v.kd != 11||v.oth)=true then 12 else XN (Dn m P o v.list) v.list.length 0)
 else QT m P o v
def Jz (g:PG)(o:PO)(y:Int×V):Bool:=o.union != -1&&(((Ze g y.1).getD Gp).union==o.union)
def Jr (g:PG)(sl:List (Int×V))(i:Nat):Int:=match sl[i]? with
 |none=>0
 |some x=>match Ze g x.1 with
  |none=>8
  |some o=>if (sl.take i).any (fun y=>y.1==x.1)=true then 9 else if (sl.take i).any (Jz g o)=true then 15 else Xd m P o x.2
def GC (g:PG)(f:R):Bool:=match Ze g f.num with
 |none=>true
 |some o=>o.kind==9&&o.card != 5&&f.wire==0&&decide ((f.bits:Int)≤2147483647) && !Ws P.enums o.target f.bits
def KU (g:PG)(f:R):Int :=
 if (decide (f.num<1)||decide (f.num > 65535)||decide (f.wire<0)||decide (f.wire > 6))=true then 1
 else if (decide (f.wire≤2) && !(f.data==[])||decide (f.wire > 2) && !((f.bits:Int)==0))=true then 1
 else if (!GC P g f)=true then 1
 else if (f.wire==3&&decide ((f.data.length:Int) > 4096)||decide ((f.data.length:Int) > 65536))=true then 3 else 0
def Js (g:PG)(l:List R)(i:Nat):Int:=match l[i]? with
 |none=>0
 |some f=>KU P g f
def YC (g:PG)(sl:List (Int×V)):Bool:=g.ops.any fun o=>o.card==1 && !sl.any fun y=>y.1==o.num
def UM (g:PG)(v:V):Int :=
 if XN (Jr m P g v.slots) v.slots.length 0=0 then
  (if YC g v.slots=true then 14 else XN (Js P g v.raws) v.raws.length 0)
 else XN (Jr m P g v.slots) v.slots.length 0
end

theorem UN {m:PG→V→Int}{P:PL}{o:PO}{ps:List (V×V)}{i:Nat}{x:V×V}(h:ps[i]? = some x) :
  YB m P o ps i=if x.1.one P o.key (-1)=0 then(if (ps.take i).any (fun q=>ZH q.1 x.1)=true then 9 else QT m P o x.2)else x.1.one P o.key (-1):=by
 unfold YB;rw[h]
theorem UP {m:PG→V→Int}{P:PL}{o:PO}{l:List V}{i:Nat}{x:V}(h:l[i]? = some x):Dn m P o l i=QT m P o x:=by
 unfold Dn;rw[h]
theorem Hz {P:PL}{g:PG}{l:List R}{i:Nat}{x:R}(h:l[i]? = some x):Js P g l i=KU P g x:=by
 unfold Js;rw[h]

def XK (P:PL):Nat→PG→V→Int
 |0,_,v=>if (v.kd != 10||v.oth)=true then 12 else 17
 |n+1,g,v=>if (v.kd != 10||v.oth)=true then 12 else UM (XK P n) P g v

mutual
def _root_.Go.Proofs.YtipjfckmopekaaaGreatDoor.Br.V.cnt:V→Nat
 |.mk _ _ _ l p s r=>1+r.length+XO l+Xs p+Xf s
def XO:List V→Nat
 | []=>0
 |x :: l=>x.cnt+XO l
def Xs:List (V×V)→Nat
 | []=>0
 |(a,b) :: l=>a.cnt+b.cnt+Xs l
def Xf:List (Int×V)→Nat
 | []=>0
 |(_,a) :: l=>a.cnt+Xf l
end

theorem Xh:∀v:V,v.cnt=1+v.raws.length+XO v.list+Xs v.pairs+Xf v.slots
 |.mk k b t l p s r=>by rw[V.cnt];rfl

theorem DV {l:List V}{i:Nat}{x:V}(h:l[i]? = some x):XO (l.take (i+1))=XO (l.take i)+x.cnt:=by
 induction l generalizing i with
 |nil=>simp at h
 |cons y l ih=>
  cases i with
  |zero=>simp at h;subst h;simp[XO]
  |succ i=>
   simp only[QWk,XO];rw[ih (by simpa using h)];omega
theorem DW {l:List (V×V)}{i:Nat}{x:V×V}(h:l[i]? = some x):Xs (l.take (i+1))=Xs (l.take i)+(x.1.cnt+x.2.cnt):=by
 induction l generalizing i with
 |nil=>simp at h
 |cons y l ih=>
  obtain⟨y1,y2⟩:=y;cases i with
  |zero=>simp at h;subst h;simp[Xs]
  |succ i=>
   simp only[QWk,Xs];rw[ih (by simpa using h)];omega
theorem DX {l:List (Int×V)}{i:Nat}{x:Int×V}(h:l[i]? = some x):Xf (l.take (i+1))=Xf (l.take i)+x.2.cnt:=by
 induction l generalizing i with
 |nil=>simp at h
 |cons y l ih=>
  obtain⟨y1,y2⟩:=y;cases i with
  |zero=>simp at h;subst h;simp[Xf]
  |succ i=>
   simp only[QWk,Xf];rw[ih (by simpa using h)];omega

inductive Thin:V→Prop
 |mk {v:V} (n:v.list.length+2*v.pairs.length+v.slots.length≤1099511627776) (list:∀x∈v.list,Thin x) (keys:∀x∈v.pairs,Thin x.1) (vals:∀x∈v.pairs,Thin x.2) (slots:∀x∈v.slots,Thin x.2):Thin v

theorem Um {P:PL}{k tg:Int}{v:V}(h:v.one P k tg=0):v.kd=k∧v.oth=false∧Xx k v.kd v.bits v.text (v.list.map V.av) (v.pairs.map V.pav) (v.slots.map V.sav) (v.raws.map R.av)=true:=by
 unfold V.one Ul at h;split at h
 ·omega
 ·rename_i h1;split at h
  ·omega
  ·split at h
   ·omega
   ·split at h
    ·omega
    ·rename_i h2;simp only[Bool.not_eq_true,QWG,bne_eq_false_iff_eq]at h1;exact⟨h1.1,h1.2,by simpa using h2⟩

end Go.Proofs.YtipjfckmopekaaaGreatDoor.Va

namespace Go.Proofs.YtipjfckmopekaaaGreatDoor.So

section
variable {α:Type}

def Zw (lt:α→α→Bool)(a:α):List α→List α
 | []=>[a]
 |x :: l=>bif lt x a then x :: Zw lt a l else a :: x :: l

def QE (lt:α→α→Bool):List α→List α
 | []=>[]
 |a :: l=>Zw lt a (QE lt l)

def mg (lt:α→α→Bool):List α→List α→List α
 | [],Y=>Y
 |x :: X,[]=>x :: X
 |x :: X,y :: Y=>bif lt y x then y :: mg lt (x :: X) Y else x :: mg lt X (y :: Y)
termination_by X Y=>X.length+Y.length

structure SW (lt:α→α→Bool):Prop where
 irr:∀x,lt x x=false
 tr:∀x y z,lt x y=true→lt y z=true→lt x z=true
 nt:∀x y z,lt x y=false→lt y z=false→lt x z=false

variable {lt:α→α→Bool}

theorem SW.as (h:SW lt){x y:α}(hx:lt x y=true):lt y x=false:=by
 cases hy:lt y x with
 |false=>rfl
 |true=>
  have:=h.tr x y x hx hy;rw[h.irr]at this;cases this

theorem Jj (X:List α):mg lt X []=X:=by cases X<;>simp[mg]
theorem ZT (Y:List α):mg lt [] Y=Y:=by simp[mg]
theorem Wu {x y:α}{X Y:List α}(h:lt y x=true):mg lt (x :: X) (y :: Y)=y :: mg lt (x :: X) Y:=by rw[mg,h];rfl
theorem W4 {x y:α}{X Y:List α}(h:lt y x=false):mg lt (x :: X) (y :: Y)=x :: mg lt X (y :: Y):=by rw[mg,h];rfl
theorem WS {a x:α}{l:List α}(h:lt x a=true):Zw lt a (x :: l)=x :: Zw lt a l:=by rw[Zw,h];rfl
theorem YD {a x:α}{l:List α}(h:lt x a=false):Zw lt a (x :: l)=a :: x :: l:=by rw[Zw,h];rfl

theorem M8 (a:α):∀Y:List α,mg lt [a] Y=Zw lt a Y
 | []=>by rw[Jj];rfl
 |y :: Y=>by
  cases h:lt y a with
  |true=>rw[Wu h,WS h,M8 a Y]
  |false=>rw[W4 h,YD h,ZT]

theorem QvM (h:SW lt)(a:α):∀(n:Nat) (X Y:List α),X.length+Y.length=n→mg lt (Zw lt a X) Y=Zw lt a (mg lt X Y):=by
 intro n
 induction n using Nat.strongRecOn with
 |_ n ih=>
 intro X Y hn;cases X with
 |nil=>
  show mg lt [a] Y=Zw lt a (mg lt [] Y);rw[ZT,M8]
 |cons x X=>
  cases Y with
  |nil=>rw[Jj,Jj]
  |cons y Y=>
   simp only[QV2]at hn;cases hxa:lt x a with
   |false=>
    have hi:Zw lt a (x :: X)=a :: x :: X:=YD hxa;cases hya:lt y a with
    |true=>
     cases hyx:lt y x with
     |true=>
      have i:=ih (n-1) (by omega) (x :: X) Y (by simp only[QV2];omega);rw[hi]at i ⊢;rw[Wu hya,Wu hyx,WS hya,i]
     |false=>
      have:=h.nt y x a hyx hxa;rw[hya]at this;cases this
    |false=>
     rw[hi,W4 hya];cases hyx:lt y x with
     |true=>rw[Wu hyx,YD hya]
     |false=>rw[W4 hyx,YD hxa]
   |true=>
    have hi:Zw lt a (x :: X)=x :: Zw lt a X:=WS hxa;cases hyx:lt y x with
    |true=>
     have i:=ih (n-1) (by omega) (x :: X) Y (by simp only[QV2];omega);rw[hi]at i ⊢;rw[Wu hyx,Wu hyx,WS (h.tr y x a hyx hxa),i]
    |false=>
     have i:=ih (n-1) (by omega) X (y :: Y) (by simp only[QV2];omega);rw[hi,W4 hyx,W4 hyx,WS hxa,i]

theorem Wv (h:SW lt):∀A B:List α,mg lt (QE lt A) (QE lt B)=QE lt (A++B)
 | [],B=>ZT _
 |a :: A,B=>by
  show mg lt (Zw lt a (QE lt A)) (QE lt B)=Zw lt a (QE lt (A++B));rw[QvM h a _ _ _ rfl,Wv h A B]

theorem Ww:∀(n:Nat) (X1 Y1 X2 Y2:List α),X1.length+Y1.length=n→(∀y∈Y1,∀x∈X2,lt y x=true)→(∀x∈X1,∀y∈Y2,lt y x=false)→
  mg lt (X1++X2) (Y1++Y2)=mg lt X1 Y1++mg lt X2 Y2:=by
 intro n
 induction n using Nat.strongRecOn with
 |_ n ih=>
 intro X1 Y1 X2 Y2 hn h1 h2;cases X1 with
 |nil=>
  cases Y1 with
  |nil=>rw[ZT];rfl
  |cons y Y1=>
   cases X2 with
   |nil=>simp[ZT]
   |cons x X2=>
    simp only[QV2,QWJ]at hn;have i:=ih (n-1) (by omega) [] Y1 (x :: X2) Y2 (by simp only[QWJ];omega) (fun z hz=>h1 z (QV3 _ hz)) h2;simp only[QWa,QV9,ZT]at i ⊢;rw[Wu (h1 y (by simp) x (by simp)),i]
 |cons x X1=>
  simp only[QV2]at hn;cases Y1 with
  |nil=>
   cases Y2 with
   |nil=>simp[Jj]
   |cons y Y2=>
    have i:=ih (n-1) (by omega) X1 [] X2 (y :: Y2) (by simp only[QWJ]at hn ⊢;omega) h1 (fun z hz=>h2 z (QV3 _ hz));simp only[QWa,QV9,Jj]at i ⊢;rw[W4 (h2 x (by simp) y (by simp)),i]
  |cons y Y1=>
   simp only[QV2]at hn;simp only[QV9];cases hyx:lt y x with
   |true=>
    have i:=ih (n-1) (by omega) (x :: X1) Y1 X2 Y2 (by simp only[QV2];omega) (fun z hz=>h1 z (QV3 _ hz)) h2;simp only[QV9]at i;rw[Wu hyx,Wu hyx,i];rfl
   |false=>
    have i:=ih (n-1) (by omega) X1 (y :: Y1) X2 Y2 (by simp only[QV2];omega) h1 (fun z hz=>h2 z (QV3 _ hz));simp only[QV9]at i;rw[W4 hyx,W4 hyx,i];rfl

theorem LP {x:α}{Y1 Y2:List α}(h1:∀y∈Y1,lt y x=true)(h2:∀y∈Y2,lt y x=false):mg lt [x] (Y1++Y2)=Y1++x :: Y2:=by
 have a:=Ww (lt:=lt) _ [] Y1 [x] Y2 rfl (fun y hy z hz=>by rw[QXJ.1 hz];exact h1 y hy) (by simp);have b:=Ww (lt:=lt) _ [x] [] [] Y2 rfl (by simp) (fun z hz y hy=>by rw[QXJ.1 hz];exact h2 y hy);simp only[QWa,QWQ,ZT,Jj]at a b;rw[a,b];rfl

theorem YE {y:α}{X1 X2:List α}(h1:∀x∈X1,lt y x=false)(h2:∀x∈X2,lt y x=true):mg lt (X1++X2) [y]=X1++y :: X2:=by
 have a:=Ww (lt:=lt) _ X1 [y] X2 [] rfl (fun z hz x hx=>by rw[QXJ.1 hz];exact h2 x hx) (by simp);have b:=Ww (lt:=lt) _ X1 [] [] [y] rfl (by simp) (fun x hx z hz=>by rw[QXJ.1 hz];exact h1 x hx);simp only[QWa,QWQ,ZT,Jj]at a b;rw[a,b];simp

def Zf (lt:α→α→Bool)(l:List α):Prop:=l.Pairwise fun x y=>lt y x=false

theorem Dp {a z:α}:∀ {l:List α},z∈Zw lt a l→z=a∨z∈l
 | [],h=>.inl (QXJ.1 h)
 |x :: l,h=>by
  cases hx:lt x a with
  |true=>
   rw[WS hx]at h;rcases QW9.1 h with rfl|h
   ·exact .inr QV5
   ·rcases Dp h with h|h
    ·exact .inl h
    ·exact .inr (QV3 _ h)
  |false=>
   rw[YD hx]at h;rcases QW9.1 h with rfl|h
   ·exact .inl rfl
   ·exact .inr h

theorem Un {z:α}:∀ {l:List α},z∈QE lt l→z∈l
 | [],h=>h
 |a :: l,h=>by
  rcases Dp (l:=QE lt l) h with rfl|h
  ·exact QV5
  ·exact QV3 _ (Un h)

theorem NY (h:SW lt)(a:α):∀ {l:List α},Zf lt l→Zf lt (Zw lt a l)
 | [],_=>List.pairwise_singleton _ _
 |x :: l,hs=>by
  obtain⟨h1,h2⟩:=QXk.1 hs;cases hx:lt x a with
  |true=>
   rw[WS hx];refine QXk.2 ⟨fun z hz=>?_,NY h a h2⟩;rcases Dp hz with rfl|hz
   ·exact h.as hx
   ·exact h1 z hz
  |false=>
   rw[YD hx];refine QXk.2 ⟨fun z hz=>?_,hs⟩;rcases QW9.1 hz with rfl|hz
   ·exact hx
   ·exact h.nt z x a (h1 z hz) hx

theorem Zr (h:SW lt):∀l:List α,Zf lt (QE lt l)
 | []=>List.Pairwise.nil
 |a :: l=>NY h a (Zr h l)

theorem NZ (a:α):∀l:List α,(Zw lt a l).length=l.length+1
 | []=>rfl
 |x :: l=>by
  cases hx:lt x a with
  |true=>rw[WS hx,QV2,NZ a l,QV2]
  |false=>rw[YD hx];rfl

theorem Jk:∀l:List α,(QE lt l).length=l.length
 | []=>rfl
 |a :: l=>by show(Zw lt a (QE lt l)).length=_;rw[NZ,Jk l];rfl

theorem QvN:∀(n:Nat) (X Y:List α),X.length+Y.length=n→(mg lt X Y).length=n:=by
 intro n
 induction n using Nat.strongRecOn with
 |_ n ih=>
 intro X Y hn;cases X with
 |nil=>rw[ZT];simpa using hn
 |cons x X=>
  cases Y with
  |nil=>rw[Jj];simpa using hn
  |cons y Y=>
   simp only[QV2]at hn;cases hyx:lt y x with
   |true=>
    rw[Wu hyx,QV2,ih (n-1) (by omega) (x :: X) Y (by simp only[QV2];omega)];omega
   |false=>
    rw[W4 hyx,QV2,ih (n-1) (by omega) X (y :: Y) (by simp only[QV2];omega)];omega

theorem QvO {z:α}:∀(n:Nat) (X Y:List α),X.length+Y.length=n→z∈mg lt X Y→z∈X∨z∈Y:=by
 intro n
 induction n using Nat.strongRecOn with
 |_ n ih=>
 intro X Y hn hz;cases X with
 |nil=>rw[ZT]at hz;exact .inr hz
 |cons x X=>
  cases Y with
  |nil=>rw[Jj]at hz;exact .inl hz
  |cons y Y=>
   simp only[QV2]at hn;cases hyx:lt y x with
   |true=>
    rw[Wu hyx]at hz;rcases QW9.1 hz with rfl|hz
    ·exact .inr QV5
    ·exact(ih (n-1) (by omega) (x :: X) Y (by simp only[QV2];omega) hz).imp id (QV3 _)
   |false=>
    rw[W4 hyx]at hz;rcases QW9.1 hz with rfl|hz
    ·exact .inl QV5
    ·exact(ih (n-1) (by omega) X (y :: Y) (by simp only[QV2];omega) hz).imp (QV3 _) id

theorem Kz (h:SW lt){l:List α}(hs:Zf lt l){i j:Nat}{u v x:α}(hij:i≤j)(hi:l[i]? = some u)(hj:l[j]? = some v)(hv:lt v x=true):lt u x=true:=by
 rcases Nat.lt_or_eq_of_le hij with hlt|rfl
 ·obtain⟨h1,rfl⟩:=QVN.1 hi;obtain⟨h2,rfl⟩:=QVN.1 hj;have:=QXK.1 hs i j h1 h2 hlt;cases hu:lt l[i] x with
  |true=>rfl
  |false=>
   have:=h.nt _ _ _ this hu;rw[hv]at this;cases this
 ·rw[hi]at hj;cases hj;exact hv

theorem KI {l:List α}(hs:Zf lt l)(h:SW lt){i j:Nat}{u v:α}(hij:i≤j)(hi:l[i]? = some u)(hj:l[j]? = some v):lt v u=false:=by
 rcases Nat.lt_or_eq_of_le hij with hlt|rfl
 ·obtain⟨h1,rfl⟩:=QVN.1 hi;obtain⟨h2,rfl⟩:=QVN.1 hj;exact QXK.1 hs i j h1 h2 hlt
 ·rw[hi]at hj;cases hj;exact h.irr _

def Q7 (lt:α→α→Bool)(s:Nat):Nat→List α→List α
 |0,_=>[]
 |n+1,l=>QE lt (l.take s)++Q7 lt s n (l.drop s)

theorem Dq (s:Nat):∀k,Q7 lt s k []=[]
 |0=>rfl
 |k+1=>by rw[Q7,List.take_nil,QW1,Dq s k];rfl

theorem UQ (s:Nat):∀(k:Nat) (l:List α),(Q7 lt s k l).length=min (s*k) l.length
 |0,l=>by simp[Q7]
 |k+1,l=>by
  rw[Q7,QWp,Jk,UQ s k,QWK,QWs,Nat.mul_succ];omega

theorem Wf {s:Nat}{z:α}:∀ {k:Nat} {l:List α},z∈Q7 lt s k l→z∈l
 |0,l,h=>by cases h
 |k+1,l,h=>by
  rw[Q7]at h;rcases QW5.1 h with h|h
  ·exact QWA (Un h)
  ·exact QWz (Wf h)

theorem YF (s:Nat):∀(k:Nat) (l:List α),Q7 lt s (k+1) l=Q7 lt s k l++QE lt ((l.drop (s*k)).take s)
 |0,l=>by simp[Q7]
 |k+1,l=>by
  rw[Q7,YF s k (l.drop s),Q7,QV8,QWf,Nat.mul_succ,Nat.add_comm s (s*k)]

theorem N0 {s k:Nat}{l:List α}(h:l.length≤s)(hk:l.length≤s*k):Q7 lt s k l=QE lt l:=by
 cases k with
 |zero=>
  have:l=[]:=QWR (by omega);subst this;rfl
 |succ k=>rw[Q7,QWl h,QWo h,Dq,QWQ]

theorem Rx (s:Nat)(l:List α):l.take s++(l.drop s).take s=l.take (2*s):=by
 rw[show 2*s=s+s by omega,List.take_add]

end

end Go.Proofs.YtipjfckmopekaaaGreatDoor.So

namespace Go.Proofs.YtipjfckmopekaaaGreatDoor.Va
open Go Am Rc Bt

def Wx (b:Nat):Nat :=
 let z:=b % 9223372036854775808
 if z > 9218868437227405312 then 0 else if z=9218868437227405312 then 1 else if z=0 then 2 else if z<4503599627370496 then 3 else 4

theorem QP7 (b:Nat):Qj Tryz.prog 123 [.int .u64 (b:Nat)] (.int .i64 (Wx b:Nat)):=by
 refine QpQ.fn (by simp) ?_;have hm:(b:Int).tmod 9223372036854775808=((b % 9223372036854775808:Nat):Int):=by
  rw[QXL (by omega)];omega
 simp only[hm,Qa,seval];unfold Wx;generalize b % 9223372036854775808=z
 repeat' (first|(refine Q1 (fun h=>?_) (fun h=>?_)<;>simp only[h,Qa,seval])|(refine Xz (fun h=>?_) (fun h=>?_)<;>simp only[h,Qo,eE,seval])|(refine XA (fun h=>?_) (fun h=>?_)<;>simp only[h,Qo,eE,seval]))
 all_goals(simp only[QVS,QXE,QVT,QXt,ne_eq]at *)
 all_goals((repeat' split)<;>first|rfl|(exfalso;omega))

theorem M9 (b:Nat):b &&& 4503599627370495=b % 4503599627370496:=Nat.and_two_pow_sub_one_eq_mod b 52
theorem Pa (b:Nat):b &&& 9218868437227405312=(b / 4503599627370496 % 2048)*4503599627370496:=by
 have h1:(9218868437227405312:Nat)=2047 <<< 52:=by decide
 have h2:(b / 4503599627370496 % 2048)*4503599627370496=(b >>> 52 % 2 ^ 11) <<< 52:=by
  rw[Nat.shiftLeft_eq,Nat.shiftRight_eq_div_pow]
 rw[h1,h2]
 apply Nat.eq_of_testBit_eq
 intro i;rw[Nat.testBit_and,Nat.testBit_shiftLeft,Nat.testBit_shiftLeft,Nat.testBit_mod_two_pow,Nat.testBit_shiftRight,show(2047:Nat)=2 ^ 11-1 by decide,Nat.testBit_two_pow_sub_one];by_cases h:i≥52
 ·rw[show 52+(i-52)=i by omega];simp[h,Bool.and_comm]
 ·simp[h]

theorem x82 (b:Nat)(hb:b<18446744073709551616):Qj Tryz.prog 82 [.int .u64 (b:Nat)] (.int .i64 (Wx b:Nat)):=by
 refine k82.fn (by simp) ?_;have a1:bits .and .u64 (b:Int) 9218868437227405312=(((b / 4503599627370496 % 2048)*4503599627370496:Nat):Int):=by
  have:=UH b 9218868437227405312 hb (by decide);rw[Pa]at this;exact this
 have a2:bits .and .u64 (b:Int) 4503599627370495=((b % 4503599627370496:Nat):Int):=by
  have:=UH b 4503599627370495 hb (by decide);rw[M9]at this;exact this
 simp only[a1,a2,Qa,seval];unfold Wx
 repeat' (first|(refine Q1 (fun h=>?_) (fun h=>?_)<;>simp only[h,Qa,seval])|(refine Xz (fun h=>?_) (fun h=>?_)<;>simp only[h,Qo,Qa,seval])|(refine XA (fun h=>?_) (fun h=>?_)<;>simp only[h,Qo,eE,seval]))
 all_goals(simp only[QVT,QWd,bne_eq_false_iff_eq,QXt,ne_eq]at *)
 all_goals((repeat' split)<;>first|rfl|(exfalso;omega))

def XD (k:Int)(b:Nat):Nat:=if k=6∧Wx b=0 then 9221120237041090560 else b

theorem V8 (b:Nat):((Wx b:Int)==0)=decide (Wx b=0):=by
 rw[QWH,QVT,QVS];omega

open Br Up So

section sorting
variable {α:Type}{lt:α→α→Bool}
theorem Bs (a:α):∀l:List α,(Zw lt a l).Perm (a :: l)
 | []=>.refl _
 |x :: l=>by
  rw[Zw];cases lt x a
  ·exact .refl _
  ·exact((Bs a l).cons x).trans (.swap a x l)
theorem Xa:∀l:List α,(QE lt l).Perm l
 | []=>.refl _
 |a :: l=>(Bs a _).trans ((Xa l).cons a)
end sorting

theorem HA:∀ {a b c:List UInt8},Op.bytesLess a b=true→Op.bytesLess b c=true→Op.bytesLess a c=true
 |a,b,[],_,h=>by cases b<;>simp[Op.bytesLess]at h
 | [],_,_ :: _,_,_=>by simp[Op.bytesLess]
 |x :: a,[],_ :: _,h,_=>by simp[Op.bytesLess]at h
 |x :: a,y :: b,z :: c,h,k=>by
  simp only[Op.bytesLess,QVR,QWb,QVS,QVT]at h k ⊢;rcases h with h|⟨h1,h2⟩<;>rcases k with k|⟨k1,k2⟩
  ·exact .inl (UInt8.lt_trans h k)
  ·subst k1;exact .inl h
  ·subst h1;exact .inl k
  ·subst h1 k1;exact .inr ⟨rfl,HA h2 k2⟩
theorem Uo:∀ {a b:List UInt8},Op.bytesLess a b=false→Op.bytesLess b a=false→a=b
 | [],[],_,_=>rfl
 | [],_ :: _,h,_=>by simp[Op.bytesLess]at h
 |_ :: _,[],_,h=>by simp[Op.bytesLess]at h
 |x :: a,y :: b,h,k=>by
  simp only[Op.bytesLess,QWG,Bool.and_eq_false_iff,QXE,QXt]at h k;have e:x=y:=by
   rcases Nat.lt_trichotomy x.toNat y.toNat with g|g|g
   ·exact absurd (UInt8.lt_iff_toNat_lt.2 g) h.1
   ·exact UInt8.toNat_inj.1 g
   ·exact absurd (UInt8.lt_iff_toNat_lt.2 g) k.1
  subst e;rw[Uo (h.2.resolve_left fun g=>g rfl) (k.2.resolve_left fun g=>g rfl)]
theorem DY:∀a:List UInt8,Op.bytesLess a a=false
 | []=>rfl
 |x :: a=>by simp[Op.bytesLess,DY a]

def kl (k:Int)(a b:V):Bool :=
 if X9 k=true then Op.bytesLess a.text b.text else if (k==2||k==3)=true then decide (IntKind.i64.wrap (a.bits:Int)<IntKind.i64.wrap (b.bits:Int))else decide ((a.bits:Int)<(b.bits:Int))
theorem UR (k:Int):SW fun x y:V×V=>kl k x.1 y.1 where
 irr x:=by
  unfold kl;split
  ·exact DY _
  ·split<;>simp
 tr x y z h g:=by
  unfold kl at *;split
  ·rename_i ht;rw[QWg ht]at h g;exact HA h g
  ·rename_i ht;rw[QV1 ht]at h g;split
   ·rename_i hs;rw[QWg hs]at h g;simp only[QVS]at *;omega
   ·rename_i hs;rw[QV1 hs]at h g;simp only[QVS]at *;omega
 nt x y z h g:=by
  unfold kl at *;split
  ·rename_i ht;rw[QWg ht]at h g;cases hc:Op.bytesLess x.1.text z.1.text with
   |false=>rfl
   |true=>
    cases hy:Op.bytesLess y.1.text x.1.text with
    |true=>rw[HA hy hc]at g;cases g
    |false=>
     rw[Uo h hy]at hc;rw[hc]at g;cases g
  ·rename_i ht;rw[QV1 ht]at h g;split
   ·rename_i hs;rw[QWg hs]at h g;simp only[QXE]at *;omega
   ·rename_i hs;rw[QV1 hs]at h g;simp only[QXE]at *;omega

def Xe (k:Int)(l:List (V×V)):List (V×V):=QE (fun x y=>kl k x.1 y.1) l
def Zv (l:List R):List R:=QE (fun x y=>decide (x.num<y.num)) l
theorem V9:SW fun x y:R=>decide (x.num<y.num) where
 irr x:=by simp
 tr x y z h k:=by simp only[QVS]at *;omega
 nt x y z h k:=by simp only[QXE]at *;omega

def _root_.Go.Proofs.YtipjfckmopekaaaGreatDoor.Br.V.nsc (v:V):V:=.mk v.kd (XD v.kd v.bits) v.text v.list v.pairs v.slots v.raws
def _root_.Go.Proofs.YtipjfckmopekaaaGreatDoor.Br.V.emp (v:V):Bool:=Va.emp v.kd v.bits v.text (v.list.map V.av) (v.pairs.map V.pav) (v.slots.map V.sav) (v.raws.map R.av)

section
variable (nm:PG→V→V)(P:PL)
def Zx (o:PO)(v:V):V:=if o.kind=10 then nm (QW P o.target) v else v.nsc
def ZN (o:PO)(v:V):V :=
 if o.card=4 then .mk 11 0 [] (v.list.map (Zx nm P o)) [] [] []else if o.card=5 then .mk 12 0 [] [] ((Xe o.key v.pairs).map fun p=>(p.1.nsc,Zx nm P o p.2)) [] []else Zx nm P o v
def Xv (sl:List (Int×V))(o:PO):List (Int×V):=match sl.find? (fun s=>s.1==o.num)with
 |none=>[]
 |some s=>if (decide (o.card<3) || !(ZN nm P o s.2).emp)=true then [(o.num,ZN nm P o s.2)]else []
def HB (g:PG)(v:V):V:=.mk 10 0 [] [] [] (g.ops.flatMap (Xv nm P v.slots)) (Zv v.raws)
end
def Xb (P:PL):Nat→PG→V→V
 |0,_,v=>v
 |n+1,g,v=>HB (Xb P n) P g v

theorem N1 (v:V):v.nsc.cnt=v.cnt:=by
 rw[Xh,Xh v];rfl
theorem Bu {f:V→V}(h:∀v,(f v).cnt≤v.cnt):∀l:List V,XO (l.map f)≤XO l
 | []=>QVL _
 |x :: l=>by
  have:=h x;have:=Bu h l;simp only[QWj,XO];omega
theorem Bv {f g:V→V}(h:∀v,(f v).cnt≤v.cnt)(k:∀v,(g v).cnt≤v.cnt):∀l:List (V×V),Xs (l.map fun p=>(f p.1,g p.2))≤Xs l
 | []=>QVL _
 |(a,b) :: l=>by
  have:=h a;have:=k b;have:=Bv h k l;simp only[QWj,Xs];omega
theorem Pb {a b:List (V×V)}(h:a.Perm b):Xs a=Xs b:=by
 induction h with
 |nil=>rfl
 |cons x _ ih=>obtain⟨p,q⟩:=x;simp only[Xs,ih]
 |swap x y l=>obtain⟨p,q⟩:=x;obtain⟨r,s⟩:=y;simp only[Xs];omega
 |trans _ _ h1 h2=>rw[h1,h2]
theorem Ry (a b:List (Int×V)):Xf (a++b)=Xf a+Xf b:=by
 induction a with
 |nil=>simp[Xf]
 |cons x a ih=>obtain⟨n,v⟩:=x;simp only[QV9,Xf,ih];omega

theorem Dr {nm:PG→V→V}{P:PL}(h:∀t v,(nm (QW P t) v).cnt≤v.cnt)(o:PO)(v:V):(Zx nm P o v).cnt≤v.cnt:=by
 unfold Zx;split
 ·exact h _ _
 ·rw[N1];exact QVL _
theorem N2 {nm:PG→V→V}{P:PL}(h:∀t v,(nm (QW P t) v).cnt≤v.cnt)(o:PO)(v:V):(ZN nm P o v).cnt≤v.cnt:=by
 unfold ZN;split
 ·have:=Bu (Dr (P:=P) h o) v.list;rw[Xh,Xh v];simp only[V.raws,V.list,V.pairs,V.slots,QWJ,Xs,Xf];simp only[V.list]at this;omega
 ·split
  ·have h1:=Bv (f:=V.nsc) (g:=Zx nm P o) (fun v=>by rw[N1];exact QVL _) (Dr (P:=P) h o) (Xe o.key v.pairs);have h2:Xs (Xe o.key v.pairs)=Xs v.pairs:=Pb (Xa _);rw[Xh,Xh v];simp only[V.raws,V.list,V.pairs,V.slots,QWJ,XO,Xf];simp only[V.pairs]at h1 h2;omega
  ·exact Dr h o v

def wS (sl:List (Int×V))(n:Int):Nat:=Xf (sl.filter fun s=>s.1==n)
theorem QvP (ops:List PO)(hd:ops.Pairwise fun a b=>a.num<b.num)(n:Int)(w:Nat):(ops.map fun o=>if n=o.num then w else 0).sum≤w:=by
 induction ops with
 |nil=>simp
 |cons o ops ih=>
  obtain⟨h1,h2⟩:=QXk.1 hd;simp only[QWj,QXM];by_cases e:n=o.num
  ·have:(ops.map fun o=>if n=o.num then w else 0).sum=0:=by
    have:∀l:List PO,(∀x∈l,n≠x.num)→(l.map fun o=>if n=o.num then w else 0).sum=0:=by
     intro l
     induction l with
     |nil=>intro _;rfl
     |cons x l ih=>
      intro h;rw[QWj,QXM,QV1 (h x (by simp)),ih fun y hy=>h y (by simp[hy])]
    exact this ops fun x hx=>by have:=h1 x hx;omega
   rw[QWg e,this];omega
  ·rw[QV1 e];have:=ih h2;omega
theorem QvQ (ops:List PO)(hd:ops.Pairwise fun a b=>a.num<b.num)(sl:List (Int×V)):(ops.map fun o=>wS sl o.num).sum≤Xf sl:=by
 induction sl with
 |nil=>
  have:∀l:List PO,(l.map fun o=>wS [] o.num).sum=0:=by
   intro l
   induction l with
   |nil=>rfl
   |cons x l ih=>rw[QWj,QXM,ih];rfl
  rw[this];exact QVV _
 |cons s sl ih=>
  obtain⟨n,v⟩:=s;have h1:=QvP ops hd n v.cnt;have h2:∀l:List PO,(l.map fun o=>wS ((n,v) :: sl) o.num).sum=(l.map fun o=>if n=o.num then v.cnt else 0).sum+(l.map fun o=>wS sl o.num).sum:=by
   intro l
   induction l with
   |nil=>rfl
   |cons o l ih=>
    simp only[QWj,QXM,ih];have:wS ((n,v) :: sl) o.num=(if n=o.num then v.cnt else 0)+wS sl o.num:=by
     unfold wS;by_cases e:n=o.num
     ·rw[List.filter_cons_of_pos (by simpa using e),QWg e,Xf]
     ·rw[List.filter_cons_of_neg (by simpa using e),QV1 e,QWt]
    omega
  rw[h2,Xf];omega

theorem LQ {sl:List (Int×V)}{n:Int}{s:Int×V}(h:sl.find? (fun s=>s.1==n)=some s):s.2.cnt≤wS sl n:=by
 unfold wS
 induction sl with
 |nil=>cases h
 |cons x sl ih=>
  obtain⟨m,v⟩:=x;rw[List.find?_cons]at h;by_cases e:m=n
  ·have hb:((m,v).1==n)=true:=by simpa using e
   rw[hb]at h;cases h;rw[List.filter_cons_of_pos (by simpa using e),Xf];exact Nat.le_add_right _ _
  ·have hb:((m,v).1==n)=false:=by simpa using e
   rw[hb]at h;rw[List.filter_cons_of_neg (by simpa using e)];exact ih h

theorem Rz {nm:PG→V→V}{P:PL}(h':∀t v,(nm (QW P t) v).cnt≤v.cnt)(g:PG)(hd:g.ops.Pairwise fun a b=>a.num<b.num)(v:V):(HB nm P g v).cnt≤v.cnt:=by
 have h1:Xf (g.ops.flatMap (Xv nm P v.slots))≤(g.ops.map fun o=>wS v.slots o.num).sum:=by
  clear hd
  induction g.ops with
  |nil=>exact QVL _
  |cons o l ih=>
   have:Xf (Xv nm P v.slots o)≤wS v.slots o.num:=by
    unfold Xv;cases hf:v.slots.find? (fun s=>s.1==o.num)with
    |none=>exact QVV _
    |some s=>
     have a:=LQ hf;have b:=N2 (P:=P) h' o s.2;dsimp only;split
     ·simp only[Xf];omega
     ·exact QVV _
   rw[QXg,Ry,QWj,QXM];omega
 have h2:=QvQ g.ops hd v.slots;have h3:(Zv v.raws).length=v.raws.length:=(Xa _).length_eq;rw[Xh,Xh v];simp only[HB,V.raws,V.list,V.pairs,V.slots,XO,Xs]at *;omega

def Ke (P:PL):Prop:=∀g∈P.progs,g.ops.Pairwise fun a b=>a.num<b.num
theorem Uq {P:PL}(h:Ke P)(t:Int):(QW P t).ops.Pairwise fun a b=>a.num<b.num:=by
 unfold QW;cases hg:P.progs[t.toNat]? with
 |none=>exact .nil
 |some g=>exact h g (QV0 hg)

theorem Yc {P:PL}(h:Ke P):∀(n:Nat) (g:PG),(g.ops.Pairwise fun a b=>a.num<b.num)→∀v:V,(Xb P n g v).cnt≤v.cnt
 |0,_,_,_=>QVL _
 |n+1,g,hg,v=>Rz (fun t v=>Yc h n _ (Uq h t) v) g hg v

end Go.Proofs.YtipjfckmopekaaaGreatDoor.Va

namespace Go.Proofs.YtipjfckmopekaaaGreatDoor.Va
open Go Am Rc Bt Br

def JoI (g:PG)(k:Nat)(st:St):Prop :=
 ∃f fr i n b,st=⟨f,[fr],[]⟩∧k=g.ops.length-i∧Z4 g.ops 0 (-1)=Z4 (g.ops.drop i) n b∧0≤n∧n≤(i:Int)∧((i=0∧b = -1)∨∃j o,i=j+1∧g.ops[j]? = some o∧b=o.union)∧f 1=.ptr 0 1 0∧f 3=.int .i64 n∧f 4=.int .i64 (i:Nat)∧fr 1=.cells g.cells

theorem z80 (g:PG)(hl:g.ops.length≤9223372036854775000):Qj Tryz.prog 80 [Qn g] (.bool (ZR g)):=by
 refine k80.fn (by simp) ?_;simp only[Qn,PG.cells,eE,seval];refine Qd (JoI g) _ ⟨_,_,0,0,-1,rfl,rfl,rfl,by decide,by decide,.inl ⟨rfl,rfl⟩,(by rfl),(by rfl),(by rfl),(by rfl)⟩ ?_;rintro _ st ⟨f,fr,i,n,b,rfl,rfl,hj,hn0,hni,hb,h1,h3,h4,m1⟩;simp only[PG.cells]at m1;simp only[QWI,h1,h4,m1,eE,seval];by_cases hlt:i<g.ops.length
 ·obtain⟨o,hi⟩:∃o,g.ops[i]? = some o:=⟨g.ops[i],QVO hlt⟩;have hg:(g.ops.map fun o=>AV.agg o.cells)[i]? = some (.agg o.cells):=by simp[hi]
  have e1:=Qm i _ hlt (by simp only[maxLen];omega);have en:IntKind.i64.wrap (n+1)=n+1:=by rw[QG];omega
  rw[Gw hi]at hj;have fin:∀(f':Fr) (n':Int),(if o.union=n then n'=n+1 else n'=n)→Z4 g.ops 0 (-1)=Z4 (g.ops.drop (i+1)) n' o.union→f' 1=.ptr 0 1 0→f' 3=.int .i64 n'→f' 4=.int .i64 ((i+1:Nat):Int)→∃k,k<g.ops.length-i∧JoI g k ⟨f',[fr],[]⟩:=by
   intro f' n' a c d e f4;refine⟨g.ops.length-(i+1),by omega,f',fr,i+1,n',o.union,rfl,rfl,c,?_,?_,.inr ⟨i,o,rfl,hi,rfl⟩,d,e,f4,m1⟩<;>split at a<;>omega
  simp only[PO.cells]at hg;simp only[Ql hlt,Qh,QXe,Qc,hg,PO.cells,h1,h3,h4,m1,eE,seval];by_cases a1:o.union=n
  ·have b1:(o.union==n)=true:=by simp[a1]
   rw[QWg a1,←a1]at hj;simp only[b1,h3,h4,en,e1,Qa,seval];exact fin _ (n+1) (by rw[QWg a1]) (by rw[hj,a1]) (by exact h1) (by rfl) (by rfl)
  have b1:(o.union==n)=false:=by simp[a1]
  rw[QV1 a1]at hj;by_cases a2:o.union = -1
  ·have b2:(o.union != -1)=false:=by simp[a2]
   rw[QWg (.inl a2)]at hj;simp only[b1,b2,h4,e1,Qa,seval];exact fin _ n (by rw[QV1 a1]) hj (by exact h1) (by exact h3) (by rfl)
  have b2:(o.union != -1)=true:=by simp[a2]
  rcases hb with⟨rfl,rfl⟩|⟨j,p,rfl,hjp,rfl⟩
  ·have b3:(((0:Nat):Int)==0)=true:=rfl;rw[QV1 (by omega)]at hj;have hun:ZR g=false:=by unfold ZR;rw[hj]
   simp only[b1,b2,h4,hun,Qa,seval]
  ·have b3:(((j+1:Nat):Int)==0)=false:=by rw[QXt];omega
   have hgj:(g.ops.map fun o=>AV.agg o.cells)[j]? = some (.agg p.cells):=by simp[hjp]
   have e2:=Wr j _ hlt (by simp only[maxLen];omega);simp only[PO.cells]at hgj;by_cases a4:o.union=p.union
   ·have b4:(p.union != o.union)=false:=by simp[a4]
    rw[QWg (.inr a4)]at hj;simp only[b1,b2,b3,b4,e2,Qh,QXe,Qc,hgj,PO.cells,h1,h4,m1,e1,eE,seval];exact fin _ n (by rw[QV1 a1]) hj (by exact h1) (by exact h3) (by rfl)
   ·have b4:(p.union != o.union)=true:=by simp;exact fun h=>a4 h.symm
    rw[QV1 (by omega)]at hj;have hun:ZR g=false:=by unfold ZR;rw[hj]
    simp only[b1,b2,b3,b4,e2,Qh,QXe,Qc,hgj,PO.cells,h1,h4,m1,hun,eE,seval]
 ·rw[QWo (by omega)]at hj;have hun:ZR g=(g.unions==n):=by unfold ZR;rw[hj];rfl
  simp only[Qy hlt,h1,h3,m1,hun,eE,seval]

section
variable {M:Nat}(hM:M≤140737488351232)(P:PL)(hP:P.ok M)(fr:Nat→Ob)(m1:fr 1=.cells (Pc P))(f:Fr)(b:Bool)(h1:f 1=.ptr 0 1 0)(h3:f 3=.bool b)(Q:Exit→St→Prop)
include hM hP m1 h1 h3

theorem QvR (j:Nat)(x:PE)(hj:P.enums[j]? = some x)(ha:f 4=.int .i64 (j:Nat))(hc:f 5=.int .i64 0)(hx:∀f,f 1=.ptr 0 1 0→f 3=.bool (b&&x.items.all ZS)→f 4=.int .i64 (j:Nat)→Q (.exit 2) (⟨f,[fr],[]⟩:St)):QH Tryz.prog (.loop SH) ⟨f,[fr],[]⟩ Q:=by
 let I:Nat→St→Prop:=fun k st=>∃f i,st=⟨f,[fr],[]⟩∧k=x.items.length-i∧i≤x.items.length∧f 1=.ptr 0 1 0∧f 3=.bool (b&&(x.items.take i).all ZS)∧f 4=.int .i64 (j:Nat)∧f 5=.int .i64 (i:Nat)
 have hjm:(P.enums.map Qr)[j]? = some (.agg x.cells):=by simp[hj,Qr]
 have hxo:=hP.enums x (QV0 hj);have z0:(0≤(0:Int))=True:=by simp
 have z1:Int.toNat 0=0:=rfl;refine Qd I _ ⟨f,0,rfl,rfl,QVV _,h1,by rw[h3];simp,ha,hc⟩ ?_;clear h1 h3 ha hc;simp only[Pc]at m1;simp only[PE.cells]at hjm;rintro _ st ⟨f,i,rfl,rfl,hi,h1,h3,ha,hc⟩;simp only[Qh,QXe,Qc,hjm,QWI,h1,m1,ha,hc,eE,seval];by_cases hlt:i<x.items.length
 ·obtain⟨o,hg⟩:∃o,x.items[i]? = some o:=⟨x.items[i],QVO hlt⟩;have hgm:(x.items.map fun o=>AV.agg o.cells)[i]? = some (.agg o.cells):=by simp[hg]
  have e1:=Qm i _ hlt hxo.len1;have ho:=hxo.items o (QV0 hg);have ht:=Q3 (q:=ZS) hg;have fin:∀f':Fr,f' 1=.ptr 0 1 0→f' 3=.bool ((b&&(x.items.take i).all ZS)&&ZS o)→f' 4=.int .i64 (j:Nat)→f' 5=.int .i64 ((i+1:Nat):Int)→∃k,k<x.items.length-i∧I k ⟨f',[fr],[]⟩:=by
   intro f' a1 a3 a4 a5;exact⟨x.items.length-(i+1),by omega,f',i+1,rfl,rfl,by omega,a1,by rw[a3,ht,QWx],a4,a5⟩
  simp only[PI.cells]at hgm;cases hb:(b&&(x.items.take i).all ZS)
  ·rw[hb]at fin h3;simp only[Ql hlt,Qh,QXe,Qc,hjm,hgm,PI.cells,h1,m1,h3,ha,hc,e1,eE,seval];exact fin _ (by exact h1) (by rfl) (by exact ha) (by rfl)
  ·rw[hb,QXo]at fin;rw[hb]at h3;rcases hn:o.notes with _|⟨n,_|⟨n2,ns⟩⟩
   ·have c0:(((0:Nat):Int)==0)=true:=rfl;have e:ZS o=true:=by unfold ZS;rw[hn]
    rw[e]at fin;rw[hn]at hgm;simp only[Ql hlt,Qh,QXe,Qc,hjm,hgm,PI.cells,QWO,QWJ,h1,m1,h3,ha,hc,e1,eE,seval];exact fin _ (by exact h1) (by rfl) (by exact ha) (by rfl)
   ·obtain⟨kd,b',t,l,p,s,r,hv,htl,h3',h4',h5',h6'⟩:=VY (ho.notes n (by rw[hn];simp)) hM;have c0:(((1:Nat):Int)==0)=false:=rfl;have c1:(((1:Nat):Int)==1)=true:=rfl;have e:ZS o=(n.name==alias&&Xx 7 kd b' t l p s r):=by
     unfold ZS;rw[hn];show(n.name==alias&&nok n.val)=_;rw[hv];rfl
    have en:Xn n.cells=.agg [.str n.name,.int .i64 kd,.int .u64 ((b':Nat):Int),.str t,.list l,.list p,.list s,.list r]:=by
     rw[PN.cells,hv];rfl
    have hne:(n.name==[97,108,105,97,115])=(n.name==alias):=rfl;have hck:=z79 kd b' t l p s r (by simp only[maxLen];omega);simp only[nv]at hck;rw[e]at fin;rw[hn]at hgm;simp only[QWj,QWO,en]at hgm;simp only[Ql hlt,Qh,QXe,Qc,hjm,hgm,PI.cells,QV2,QWJ,QWt,z0,z1,QWP,QL,hne,h1,m1,h3,ha,hc,eE,seval];by_cases hal:n.name=alias
    ·have b0:(n.name==alias)=true:=by simp[hal]
     rw[←hal]at hck;rw[b0,QXo]at fin;simp only[b0,Qa,seval];refine Qb hck rfl rfl rfl (.inl rfl) ?_;cases hfv:Xx 7 kd b' t l p s r
     ·rw[hfv]at fin;have d0:((12:Int)==0)=false:=rfl;simp only[QV6,d0,hc,e1,Qa,seval];exact fin _ (by exact h1) (by rfl) (by exact ha) (by rfl)
     ·rw[hfv]at fin;have d0:((0:Int)==0)=true:=rfl;simp only[d0,hc,e1,Qa,seval];exact fin _ (by exact h1) (by rfl) (by exact ha) (by rfl)
    ·have b0:(n.name==alias)=false:=by simp[hal]
     rw[b0,QXh]at fin;simp only[b0,hc,e1,Qa,seval];exact fin _ (by exact h1) (by rfl) (by exact ha) (by rfl)
   ·have c0:((((ns.length+1+1:Nat)):Int)==0)=false:=by rw[QXt];omega
    have c1:((((ns.length+1+1:Nat)):Int)==1)=false:=by rw[QXt];omega
    have e:ZS o=false:=by unfold ZS;rw[hn]
    rw[e]at fin;rw[hn]at hgm;simp only[QWj]at hgm;simp only[Ql hlt,Qh,QXe,Qc,hjm,hgm,PI.cells,QV2,QWI,c0,c1,h1,m1,h3,ha,hc,e1,eE,seval];exact fin _ (by exact h1) (by rfl) (by exact ha) (by rfl)
 ·have hf:(x.items.take i).all ZS=x.items.all ZS:=by rw[QWl (by omega)]
  rw[hf]at h3;simp only[Qy hlt,Qa,seval];exact hx _ (by exact h1) (by exact h3) (by exact ha)

theorem QP8 (ha:f 4=.int .i64 0)(hx:∀f,f 1=.ptr 0 1 0→f 3=.bool (b&&P.enums.all Ky)→Q (.exit 0) (⟨f,[fr],[]⟩:St)):QH Tryz.prog (.loop SI) ⟨f,[fr],[]⟩ Q:=by
 let I:Nat→St→Prop:=fun k st=>∃f i,st=⟨f,[fr],[]⟩∧k=P.enums.length-i∧i≤P.enums.length∧f 1=.ptr 0 1 0∧f 3=.bool (b&&(P.enums.take i).all Ky)∧f 4=.int .i64 (i:Nat)
 have m1':=m1;refine Qd I _ ⟨f,0,rfl,rfl,QVV _,h1,by rw[h3];simp,ha⟩ ?_;clear h1 h3 ha;simp only[Pc]at m1;rintro _ st ⟨f,i,rfl,rfl,hi,h1,h3,ha⟩;simp only[QWI,h1,m1,ha,eE,seval];by_cases hlt:i<P.enums.length
 ·obtain⟨x,hg⟩:∃x,P.enums[i]? = some x:=⟨P.enums[i],QVO hlt⟩;have hgm:(P.enums.map Qr)[i]? = some (.agg x.cells):=by simp[hg,Qr]
  have e1:=Qm i _ hlt hP.len2;have ht:=Q3 (q:=Ky) hg;have hq:Ky x=(x.notes.isEmpty&&x.items.all ZS):=rfl;have hie:((x.notes.length:Int)==0)=x.notes.isEmpty:=by
   cases x.notes with
   |nil=>rfl
   |cons a l=>simp;omega
  have fin:∀f':Fr,f' 1=.ptr 0 1 0→f' 3=.bool (((b&&(P.enums.take i).all Ky)&&x.notes.isEmpty)&&x.items.all ZS)→f' 4=.int .i64 ((i+1:Nat):Int)→∃k,k<P.enums.length-i∧I k ⟨f',[fr],[]⟩:=by
   intro f' a1 a3 a4;exact⟨P.enums.length-(i+1),by omega,f',i+1,rfl,rfl,by omega,a1,by rw[a3,ht,hq,QWx,QWx],a4⟩
  simp only[PE.cells]at hgm;cases hb:(b&&(P.enums.take i).all Ky)
  ·rw[hb,QXh]at fin;rw[hb]at h3;simp only[Ql hlt,h3,Qa,seval];refine QvR hM P hP fr m1' _ false (by exact h1) (by rfl) _ i x hg (by exact ha) (by rfl) (fun f h1 h3 ha=>?_);simp only[ha,e1,Qa,seval];exact fin _ (by exact h1) (by exact h3) (by rfl)
  ·rw[hb,QXo]at fin;rw[hb]at h3;simp only[Ql hlt,Qh,QXe,Qc,hgm,QWI,hie,h1,m1,h3,ha,eE,seval];refine QvR hM P hP fr m1' _ x.notes.isEmpty (by exact h1) (by rfl) _ i x hg (by exact ha) (by rfl) (fun f h1 h3 ha=>?_);simp only[ha,e1,Qa,seval];exact fin _ (by exact h1) (by exact h3) (by rfl)
 ·have hf:(P.enums.take i).all Ky=P.enums.all Ky:=by rw[QWl (by omega)]
  rw[hf]at h3;simp only[Qy hlt,Qa,seval];exact hx _ (by exact h1) (by exact h3)

theorem QvS (j:Nat)(x:PG)(hj:P.progs[j]? = some x)(ha:f 7=.int .i64 (j:Nat))(hc:f 8=.int .i64 0)(hx:∀f,f 1=.ptr 0 1 0→f 3=.bool (b&&x.ops.all fun o=>X4 P o&&XU o)→f 7=.int .i64 (j:Nat)→Q (.exit 6) (⟨f,[fr],[]⟩:St)):QH Tryz.prog (.loop SJ) ⟨f,[fr],[]⟩ Q:=by
 let I:Nat→St→Prop:=fun k st=>∃f i,st=⟨f,[fr],[]⟩∧k=x.ops.length-i∧i≤x.ops.length∧f 1=.ptr 0 1 0∧f 3=.bool (b&&(x.ops.take i).all fun o=>X4 P o&&XU o)∧f 7=.int .i64 (j:Nat)∧f 8=.int .i64 (i:Nat)
 have hjm:(P.progs.map Qn)[j]? = some (.agg x.cells):=by simp[hj,Qn]
 have hxo:=hP.progs x (QV0 hj);refine Qd I _ ⟨f,0,rfl,rfl,QVV _,h1,by rw[h3];simp,ha,hc⟩ ?_;clear h1 h3 ha hc;simp only[Pc]at m1;simp only[PG.cells]at hjm;rintro _ st ⟨f,i,rfl,rfl,hi,h1,h3,ha,hc⟩;simp only[Qh,QXe,Qc,hjm,QWI,h1,m1,ha,hc,eE,seval];by_cases hlt:i<x.ops.length
 ·obtain⟨o,hg⟩:∃o,x.ops[i]? = some o:=⟨x.ops[i],QVO hlt⟩;have hgm:(x.ops.map fun o=>AV.agg o.cells)[i]? = some (.agg o.cells):=by simp[hg]
  have e1:=Qm i _ hlt hxo.len;have hal:o.alias.length+8≤maxLen:=by have:=(hxo.ops o (QV0 hg)).alias;simp only[maxLen];omega
  have hop:Qj Tryz.prog 81 [.agg [.list (P.progs.map Qn),.list (P.enums.map Qr)],Qt o] (.bool (X4 P o&&XU o)):=z81 P o hal;have ht:=Q3 (q:=fun o=>X4 P o&&XU o) hg;have fin:∀f':Fr,f' 1=.ptr 0 1 0→f' 3=.bool ((b&&(x.ops.take i).all fun o=>X4 P o&&XU o)&&(X4 P o&&XU o))→f' 7=.int .i64 (j:Nat)→f' 8=.int .i64 ((i+1:Nat):Int)→∃k,k<x.ops.length-i∧I k ⟨f',[fr],[]⟩:=by
   intro f' a1 a3 a4 a5;exact⟨x.ops.length-(i+1),by omega,f',i+1,rfl,rfl,by omega,a1,by rw[a3,ht,QWx],a4,a5⟩
  simp only[Qt,PO.cells]at hgm hop;cases hb:(b&&(x.ops.take i).all fun o=>X4 P o&&XU o)
  ·rw[hb]at fin h3;simp only[Ql hlt,PO.cells,h3,hc,e1,Qa,seval];exact fin _ (by exact h1) (by rfl) (by exact ha) (by rfl)
  ·rw[hb,QXo]at fin;rw[hb]at h3;simp only[Ql hlt,Qh,QXe,Qc,hjm,hgm,PO.cells,h1,m1,h3,ha,hc,eE,seval];refine Qb hop rfl rfl rfl (.inl rfl) ?_;simp only[hc,e1,Qa,seval];exact fin _ (by exact h1) (by rfl) (by exact ha) (by rfl)
 ·have hf:(x.ops.take i).all (fun o=>X4 P o&&XU o)=x.ops.all fun o=>X4 P o&&XU o:=by rw[QWl (by omega)]
  rw[hf]at h3;simp only[Qy hlt,Qa,seval];exact hx _ (by exact h1) (by exact h3) (by exact ha)

theorem QP9 (hl:∀g∈P.progs,g.ops.length≤64)(ha:f 7=.int .i64 0)(hx:∀f,f 1=.ptr 0 1 0→f 3=.bool (b&&P.progs.all (ZZ P))→Q (.exit 4) (⟨f,[fr],[]⟩:St)):QH Tryz.prog (.loop SK) ⟨f,[fr],[]⟩ Q:=by
 let I:Nat→St→Prop:=fun k st=>∃f i,st=⟨f,[fr],[]⟩∧k=P.progs.length-i∧i≤P.progs.length∧f 1=.ptr 0 1 0∧f 3=.bool (b&&(P.progs.take i).all (ZZ P))∧f 7=.int .i64 (i:Nat)
 have m1':=m1;refine Qd I _ ⟨f,0,rfl,rfl,QVV _,h1,by rw[h3];simp,ha⟩ ?_;clear h1 h3 ha;simp only[Pc]at m1;rintro _ st ⟨f,i,rfl,rfl,hi,h1,h3,ha⟩;simp only[QWI,h1,m1,ha,eE,seval];by_cases hlt:i<P.progs.length
 ·obtain⟨x,hg⟩:∃x,P.progs[i]? = some x:=⟨P.progs[i],QVO hlt⟩;have hgm:(P.progs.map Qn)[i]? = some (.agg x.cells):=by simp[hg,Qn]
  have e1:=Qm i _ hlt hP.len1;have ht:=Q3 (q:=ZZ P) hg;have hq:ZZ P x=(ZR x&&x.ops.all fun o=>X4 P o&&XU o):=rfl;have hjo:=z80 x (QVM (hl x (QV0 hg)) (by decide));have fin:∀f':Fr,f' 1=.ptr 0 1 0→f' 3=.bool (((b&&(P.progs.take i).all (ZZ P))&&ZR x)&&x.ops.all fun o=>X4 P o&&XU o)→f' 7=.int .i64 ((i+1:Nat):Int)→∃k,k<P.progs.length-i∧I k ⟨f',[fr],[]⟩:=by
   intro f' a1 a3 a4;exact⟨P.progs.length-(i+1),by omega,f',i+1,rfl,rfl,by omega,a1,by rw[a3,ht,hq,QWx,QWx],a4⟩
  simp only[Qn,PG.cells]at hgm hjo;cases hb:(b&&(P.progs.take i).all (ZZ P))
  ·rw[hb,QXh]at fin;rw[hb]at h3;simp only[Ql hlt,h3,Qa,seval];refine QvS hM P hP fr m1' _ false (by exact h1) (by rfl) _ i x hg (by exact ha) (by rfl) (fun f h1 h3 ha=>?_);simp only[ha,e1,Qa,seval];exact fin _ (by exact h1) (by exact h3) (by rfl)
  ·rw[hb,QXo]at fin;rw[hb]at h3;simp only[Ql hlt,Qh,QXe,Qc,hgm,h1,m1,h3,ha,eE,seval];refine Qb hjo rfl rfl rfl (.inl rfl) ?_;simp only[Qa,seval];refine QvS hM P hP fr m1' _ (ZR x) (by exact h1) (by rfl) _ i x hg (by exact ha) (by rfl) (fun f h1 h3 ha=>?_);simp only[ha,e1,Qa,seval];exact fin _ (by exact h1) (by exact h3) (by rfl)
 ·have hf:(P.progs.take i).all (ZZ P)=P.progs.all (ZZ P):=by rw[QWl (by omega)]
  rw[hf]at h3;simp only[Qy hlt,Qa,seval];exact hx _ (by exact h1) (by exact h3)

end

theorem z48 {M:Nat}(hM:M≤140737488351232)(P:PL)(hP:P.ok M)(hl:∀g∈P.progs,g.ops.length≤64):Qj Tryz.prog 48 [P.av] (.bool (args P)):=by
 have e0:P.av=.agg [.list (P.progs.map Qn),.list (P.enums.map Qr)]:=rfl;have e:args P=(P.enums.all Ky&&P.progs.all (ZZ P)):=Bool.and_comm _ _;refine k48.fn (by simp) ?_;simp only[e0,eE,seval];refine QP8 hM P hP _ (by rfl) _ true (by rfl) (by rfl) _ (by rfl) (fun f h1 h3=>?_);simp only[Qa,seval];refine QP9 hM P hP _ (by rfl) _ _ (by exact h1) (by exact h3) _ hl (by rfl) (fun f h1 h3=>?_);simp only[h3,e,QXo,Qa,seval]

section
variable {M:Nat}(P:PL)(hP:P.ok M)(fr:Nat→Ob)(m1:fr 1=.cells (Pc P))(f:Fr)(b:Bool)(h1:f 1=.ptr 0 1 0)(h3:f 3=.bool b)(Q:Exit→St→Prop)
include hP m1 h1 h3

theorem QQa (j:Nat)(x:PG)(hj:P.progs[j]? = some x)(ha:f 4=.int .i64 (j:Nat))(hc:f 5=.int .i64 0)(hx:∀f,f 1=.ptr 0 1 0→f 3=.bool (b&&x.ops.all Zl)→f 4=.int .i64 (j:Nat)→Q (.exit 2) (⟨f,[fr],[]⟩:St)):QH Tryz.prog (.loop SC) ⟨f,[fr],[]⟩ Q:=by
 let I:Nat→St→Prop:=fun k st=>∃f i,st=⟨f,[fr],[]⟩∧k=x.ops.length-i∧i≤x.ops.length∧f 1=.ptr 0 1 0∧f 3=.bool (b&&(x.ops.take i).all Zl)∧f 4=.int .i64 (j:Nat)∧f 5=.int .i64 (i:Nat)
 have hjm:(P.progs.map Qn)[j]? = some (.agg x.cells):=by simp[hj,Qn]
 have hxo:=hP.progs x (QV0 hj);refine Qd I _ ⟨f,0,rfl,rfl,QVV _,h1,by rw[h3];simp,ha,hc⟩ ?_;clear h1 h3 ha hc;simp only[Pc]at m1;simp only[PG.cells]at hjm;rintro _ st ⟨f,i,rfl,rfl,hi,h1,h3,ha,hc⟩;simp only[Qh,QXe,Qc,hjm,QWI,h1,m1,ha,hc,eE,seval];by_cases hlt:i<x.ops.length
 ·obtain⟨o,hg⟩:∃o,x.ops[i]? = some o:=⟨x.ops[i],QVO hlt⟩;have hgm:(x.ops.map fun o=>AV.agg o.cells)[i]? = some (.agg o.cells):=by simp[hg]
  have e1:=Qm i _ hlt hxo.len;have ht:=Q3 (q:=Zl) hg;have hq:Zl o=(decide (o.num≥1)&&decide (o.num≤65535)):=rfl;have fin:∀f':Fr,f' 1=.ptr 0 1 0→f' 3=.bool ((b&&(x.ops.take i).all Zl)&&Zl o)→f' 4=.int .i64 (j:Nat)→f' 5=.int .i64 ((i+1:Nat):Int)→∃k,k<x.ops.length-i∧I k ⟨f',[fr],[]⟩:=by
   intro f' a1 a3 a4 a5;exact⟨x.ops.length-(i+1),by omega,f',i+1,rfl,rfl,by omega,a1,by rw[a3,ht,QWx],a4,a5⟩
  simp only[PO.cells]at hgm;cases hb:(b&&(x.ops.take i).all Zl)
  ·rw[hb]at fin h3;simp only[Ql hlt,Qh,QXe,Qc,hjm,hgm,PO.cells,h1,m1,h3,ha,hc,e1,eE,seval];exact fin _ (by exact h1) (by rfl) (by exact ha) (by rfl)
  ·rw[hb,QXo,hq]at fin;rw[hb]at h3;cases a1:decide (o.num≥1)
   ·rw[a1]at fin;simp only[Ql hlt,Qh,QXe,Qc,hjm,hgm,PO.cells,a1,h1,m1,h3,ha,hc,e1,eE,seval];exact fin _ (by exact h1) (by rfl) (by exact ha) (by rfl)
   ·rw[a1,QXo]at fin;simp only[Ql hlt,Qh,QXe,Qc,hjm,hgm,PO.cells,a1,h1,m1,h3,ha,hc,e1,eE,seval];exact fin _ (by exact h1) (by rfl) (by exact ha) (by rfl)
 ·have hf:(x.ops.take i).all Zl=x.ops.all Zl:=by rw[QWl (by omega)]
  rw[hf]at h3;simp only[Qy hlt,Qa,seval];exact hx _ (by exact h1) (by exact h3) (by exact ha)

theorem QQb (ha:f 4=.int .i64 0)(hx:∀f,f 1=.ptr 0 1 0→f 3=.bool (b&&P.progs.all fun g=>g.ops.all Zl)→Q (.exit 0) (⟨f,[fr],[]⟩:St)):QH Tryz.prog (.loop SD) ⟨f,[fr],[]⟩ Q:=by
 let I:Nat→St→Prop:=fun k st=>∃f i,st=⟨f,[fr],[]⟩∧k=P.progs.length-i∧i≤P.progs.length∧f 1=.ptr 0 1 0∧f 3=.bool (b&&(P.progs.take i).all fun g=>g.ops.all Zl)∧f 4=.int .i64 (i:Nat)
 have m1':=m1;refine Qd I _ ⟨f,0,rfl,rfl,QVV _,h1,by rw[h3];simp,ha⟩ ?_;clear h1 h3 ha;simp only[Pc]at m1;rintro _ st ⟨f,i,rfl,rfl,hi,h1,h3,ha⟩;simp only[QWI,h1,m1,ha,eE,seval];by_cases hlt:i<P.progs.length
 ·obtain⟨x,hg⟩:∃x,P.progs[i]? = some x:=⟨P.progs[i],QVO hlt⟩;have e1:=Qm i _ hlt hP.len1;have ht:=Q3 (q:=fun g:PG=>g.ops.all Zl) hg;simp only[Ql hlt,Qa,seval];refine QQa P hP fr m1' _ (b&&(P.progs.take i).all fun g=>g.ops.all Zl) (by exact h1) (by exact h3) _ i x hg (by exact ha) (by rfl) (fun f h1 h3 ha=>?_);simp only[ha,e1,Qa,seval];exact⟨P.progs.length-(i+1),by omega,_,i+1,rfl,rfl,by omega,(by exact h1),by rw[ht,←QWx]<;>first|exact h3|simp only[h3,eE,seval],(by rfl)⟩
 ·have hf:(P.progs.take i).all (fun g=>g.ops.all Zl)=P.progs.all fun g=>g.ops.all Zl:=by rw[QWl (by omega)]
  rw[hf]at h3;simp only[Qy hlt,Qa,seval];exact hx _ (by exact h1) (by exact h3)

end

def Hi (x:PE)(i:Nat):Bool:=match x.items[i]? with
 |some o=>(i != 0||o.num==0)&&W0 x o
 |none=>true

theorem LR (x:PE):QC (Hi x) x.items.length=(Uf x&&x.items.all (W0 x)):=by
 rw[QWH,QWb,QK,QVZ]
 constructor
 ·intro h;refine⟨?_,fun o ho=>?_⟩
  ·unfold Uf;cases hi:x.items with
   |nil=>rfl
   |cons a l=>
    have:=h 0 (by rw[hi];simp);unfold Hi at this;rw[hi]at this;simp only[QWP,QWb]at this
    simpa using this.1
  ·obtain⟨i,hi⟩:=QVY.1 ho;have:=h i (QVN.1 hi).1;unfold Hi at this;rw[hi]at this;simp only[QWb]at this;exact this.2
 ·rintro⟨h1,h2⟩ i _;unfold Hi;cases hg:x.items[i]? with
  |none=>rfl
  |some o=>
   simp only[QWb];refine⟨?_,h2 o (QV0 hg)⟩;cases i with
   |zero=>
    unfold Uf at h1;cases hx:x.items with
    |nil=>rw[hx]at hg;cases hg
    |cons a l=>
     rw[hx]at h1 hg;cases hg
     simpa using h1
   |succ k=>rfl

section
variable (x:PE)(hl1:x.items.length≤maxLen)(hl:x.free.length≤maxLen)(P:PL)(f:Fr)(b:Bool)(j:Nat)(fr:Nat→Ob)(h1:f 1=.ptr 0 1 0)(h3:f 3=.bool b)(h7:f 7=.int .i64 (j:Nat))(h8:f 8=.ptr 0 8 0)(m1:fr 1=.cells (Pc P))(m8:fr 8=.cells x.cells)(Q:Exit→St→Prop)
include hl1 hl h1 h3 h7 h8 m8

theorem Pd (hc:f 9=.int .i64 0)(hx:∀f,f 1=.ptr 0 1 0→f 3=.bool (b&&(Uf x&&x.items.all (W0 x)))→f 7=.int .i64 (j:Nat)→f 8=.ptr 0 8 0→Q (.exit 6) (⟨f,[fr],[]⟩:St)):QH Tryz.prog (.loop SE) ⟨f,[fr],[]⟩ Q:=by
 let I:Nat→St→Prop:=fun k st=>∃f i,st=⟨f,[fr],[]⟩∧k=x.items.length-i∧i≤x.items.length∧f 1=.ptr 0 1 0∧f 3=.bool (b&&QC (Hi x) i)∧f 7=.int .i64 (j:Nat)∧f 8=.ptr 0 8 0∧f 9=.int .i64 (i:Nat)
 refine Qd I _ ⟨f,0,rfl,rfl,QVV _,h1,by rw[h3];simp[QC],h7,h8,hc⟩ ?_;clear h1 h3 h7 h8 hc;simp only[PE.cells]at m8;rintro _ st ⟨f,i,rfl,rfl,hi,h1,h3,h7,h8,hc⟩;simp only[QWI,m8,h8,hc,eE,seval];by_cases hlt:i<x.items.length
 ·obtain⟨o,hg⟩:∃o,x.items[i]? = some o:=⟨x.items[i],QVO hlt⟩;have hgm:(x.items.map fun o=>AV.agg o.cells)[i]? = some (.agg o.cells):=by simp[hg]
  have e1:=Qm i _ hlt hl1;have ht:=Ji b (Hi x) i;have hr:Qj Tryz.prog 78 [.list (x.free.map fun n=>AV.agg n.cells),.int .i64 o.num] (.bool (kept x.free o.num)):=z78 x.free hl o.num;have hq:Hi x i=((i != 0||o.num==0)&&(decide (o.num≤2147483647) && !kept x.free o.num)):=by unfold Hi;rw[hg];rfl
  rw[hq]at ht;have fin:∀(f':Fr) (v:Bool),((b&&QC (Hi x) i)&&((i != 0||o.num==0)&&(decide (o.num≤2147483647) && !kept x.free o.num)))=v→f' 1=.ptr 0 1 0→f' 3=.bool v→f' 7=.int .i64 (j:Nat)→f' 8=.ptr 0 8 0→f' 9=.int .i64 ((i+1:Nat):Int)→∃k,k<x.items.length-i∧I k ⟨f',[fr],[]⟩:=by
   intro f' v hv a1 a3 a4 a5 a6;exact⟨x.items.length-(i+1),by omega,f',i+1,rfl,rfl,by omega,a1,by rw[a3,ht,hv],a4,a5,a6⟩
  simp only[PI.cells]at hgm;cases hb:(b&&QC (Hi x) i)
  ·rw[hb]at fin h3;simp only[QXh]at fin;simp only[Ql hlt,Qh,QXe,Qc,hgm,PI.cells,m8,h3,h8,hc,e1,eE,seval];exact fin _ _ rfl (by exact h1) (by rfl) (by exact h7) (by exact h8) (by rfl)
  ·rw[hb]at fin h3;simp only[QXo]at fin;cases a1:decide (o.num≤2147483647)
   ·simp only[a1,QXh,QXF]at fin;simp only[Ql hlt,Qh,QXe,Qc,hgm,PI.cells,a1,m8,h3,h8,hc,e1,eE,seval];exact fin _ _ rfl (by exact h1) (by rfl) (by exact h7) (by exact h8) (by rfl)
   simp only[a1,QXo]at fin;have gt:∀(q:Bool),(i != 0||o.num==0)=q→(decide ((i:Int) > 0)=true∧q=true)∨(decide ((i:Int) > 0)=false∧(o.num==0)=q):=by
    intro q hq;cases i with
    |zero=>exact .inr ⟨rfl,hq⟩
    |succ k=>exact .inl ⟨QXD (by omega),hq.symm⟩
   cases a2:(i != 0||o.num==0)
   ·rw[a2]at fin;simp only[QXh]at fin;rcases gt _ a2 with⟨g1,g2⟩|⟨g1,g2⟩
    ·cases g2
    ·simp only[Ql hlt,Qh,QXe,Qc,hgm,PI.cells,a1,g1,g2,m8,h3,h8,hc,e1,eE,seval];exact fin _ _ rfl (by exact h1) (by rfl) (by exact h7) (by exact h8) (by rfl)
   ·rw[a2]at fin;simp only[QXo]at fin;rcases gt _ a2 with⟨g1,g2⟩|⟨g1,g2⟩
    all_goals
     simp only[Ql hlt,Qh,QXe,Qc,hgm,PI.cells,a1,g1,g2,m8,h3,h8,hc,eE,seval];refine Qb hr rfl rfl rfl (.inl rfl) ?_;simp only[hc,e1,Qa,seval];exact fin _ _ rfl (by exact h1) (by rfl) (by exact h7) (by exact h8) (by rfl)
 ·rw[show i=x.items.length by omega,LR]at h3;simp only[Qy hlt,Qa,seval];exact hx _ (by exact h1) (by exact h3) (by exact h7) (by exact h8)

omit hl1 in
include m1 in
theorem Pe (hc:f 11=.int .i64 0)(hrow:∀s∈[12],(fr s).isRow=false)(hx:∀f fr,f 1=.ptr 0 1 0→f 3=.bool (b&&(x.free.all Gt&&XR x.free YY))→f 7=.int .i64 (j:Nat)→fr 1=.cells (Pc P)→(∀s∈[12,8],(fr s).isRow=false)→Q (.exit 8) (⟨f,[fr],[]⟩:St)):QH Tryz.prog (.loop SF) ⟨f,[fr],[]⟩ Q:=by
 let I:Nat→St→Prop:=fun k st=>∃f fr i,st=⟨f,[fr],[]⟩∧k=x.free.length-i∧i≤x.free.length∧f 1=.ptr 0 1 0∧f 3=.bool (b&&QC (KW x.free) i)∧f 7=.int .i64 (j:Nat)∧f 8=.ptr 0 8 0∧f 11=.int .i64 (i:Nat)∧fr 1=.cells (Pc P)∧fr 8=.cells x.cells∧∀s∈[12],(fr s).isRow=false
 refine Qd I _ ⟨f,fr,0,rfl,rfl,QVV _,h1,by rw[h3];simp[QC],h7,h8,hc,m1,m8,hrow⟩ ?_;clear h1 h3 h7 h8 hc m1 m8 hrow;rintro _ st ⟨f0,fr0,i,rfl,rfl,hi,h10,h30,h70,h80,hc0,m10,m80,WM⟩;refine QO (a:=_) [12] WM ?_;intro f fr hf hm hn;have h1:f 1=.ptr 0 1 0:=by rw[hf,h10]<;>rfl
 have h3:f 3=.bool (b&&QC (KW x.free) i):=by rw[hf,h30]<;>rfl
 have h7:f 7=.int .i64 (j:Nat):=by rw[hf,h70]<;>rfl
 have h8:f 8=.ptr 0 8 0:=by rw[hf,h80]<;>rfl
 have hc:f 11=.int .i64 (i:Nat):=by rw[hf,hc0]<;>rfl
 have m1:fr 1=.cells (Pc P):=by rw[hm 1 (by decide),m10]<;>rfl
 have m8:fr 8=.cells x.cells:=by rw[hm 8 (by decide),m80]<;>rfl
 have n12:=hn 12 (by decide);clear hf hm hn h10 h30 h70 h80 hc0 m10 m80 WM;have m8':=m8;simp only[PE.cells]at m8;simp only[QWI,m8,h8,hc,eE,seval];by_cases hlt:i<x.free.length
 ·obtain⟨y,hg⟩:∃y,x.free[i]? = some y:=⟨x.free[i],QVO hlt⟩;have hgm:(x.free.map fun o=>AV.agg o.cells)[i]? = some (.agg y.cells):=by simp[hg]
  have e1:=Qm i _ hlt hl;have ht:=Ji b (KW x.free) i;have hq:KW x.free i=((decide (y.lo≥0)&&decide (y.hi≤2147483647)&&decide (y.lo≤y.hi))&&Xc x.free YY i):=by unfold KW;rw[Ya hg];rfl
  rw[hq]at ht;have fin:∀(f':Fr) (fr':Nat→Ob) (v:Bool),((b&&QC (KW x.free) i)&&((decide (y.lo≥0)&&decide (y.hi≤2147483647)&&decide (y.lo≤y.hi))&&Xc x.free YY i))=v→f' 1=.ptr 0 1 0→f' 3=.bool v→f' 7=.int .i64 (j:Nat)→f' 8=.ptr 0 8 0→f' 11=.int .i64 ((i+1:Nat):Int)→fr' 1=.cells (Pc P)→fr' 8=.cells x.cells→(∀s∈[12],(fr' s).isRow=false)→∃k,k<x.free.length-i∧I k ⟨f',[fr'],[]⟩:=by
   intro f' fr' v hv a1 a3 a4 a5 a6 a7 a8 a9;exact⟨x.free.length-(i+1),by omega,f',fr',i+1,rfl,rfl,by omega,a1,by rw[a3,ht,hv],a4,a5,a6,a7,a8,a9⟩
  simp only[PS.cells]at hgm;cases hb:(b&&QC (KW x.free) i)
  ·rw[hb]at fin h3;simp only[QXh]at fin;simp only[Ql hlt,Qh,QXe,Qc,hgm,PS.cells,n12,m8,h3,h8,hc,e1,eE,seval];exact fin _ _ _ rfl (by exact h1) (by rfl) (by exact h7) (by exact h8) (by rfl) (by exact m1) (by exact m8') (by simp<;>rfl)
  rw[hb]at fin h3;simp only[QXo]at fin;cases a1:decide (y.lo≥0)
  ·simp only[a1,QXh]at fin;simp only[Ql hlt,Qh,QXe,Qc,hgm,PS.cells,n12,a1,m8,h3,h8,hc,e1,eE,seval];exact fin _ _ _ rfl (by exact h1) (by rfl) (by exact h7) (by exact h8) (by rfl) (by exact m1) (by exact m8') (by simp<;>rfl)
  cases a2:decide (y.hi≤2147483647)
  ·simp only[a1,a2,QXh,QXF]at fin;simp only[Ql hlt,Qh,QXe,Qc,hgm,PS.cells,n12,a1,a2,m8,h3,h8,hc,e1,eE,seval];exact fin _ _ _ rfl (by exact h1) (by rfl) (by exact h7) (by exact h8) (by rfl) (by exact m1) (by exact m8') (by simp<;>rfl)
  cases a3:decide (y.lo≤y.hi)
  ·simp only[a1,a2,a3,QXh,QXF]at fin;simp only[Ql hlt,Qh,QXe,Qc,hgm,PS.cells,n12,a1,a2,a3,m8,h3,h8,hc,e1,eE,seval];exact fin _ _ _ rfl (by exact h1) (by rfl) (by exact h7) (by exact h8) (by rfl) (by exact m1) (by exact m8') (by simp<;>rfl)
  simp only[a1,a2,a3,QXo,QW0]at fin;cases i with
  |zero=>
   have d0:(((0:Nat):Int)==0)=true:=rfl;rw[Yv]at fin;simp only[Ql hlt,Qh,QXe,Qc,hgm,PS.cells,n12,a1,a2,a3,d0,m8,h3,h8,hc,e1,eE,Nat.reduceBEq,↓reduceIte,Nat.reduceAdd,Nat.reduceLeDiff];exact fin _ _ _ rfl (by exact h1) (by rfl) (by exact h7) (by exact h8) (by rfl) (by exact m1) (by exact m8') (by simp<;>rfl)
  |succ k=>
   have d0:(((k+1:Nat):Int)==0)=false:=by rw[QXt];omega
   obtain⟨z,hgz⟩:∃z,x.free[k]? = some z:=⟨x.free[k]'(by omega),QVO (by omega)⟩;have hgzm:(x.free.map fun o=>AV.agg o.cells)[k]? = some (.agg z.cells):=by simp[hgz]
   have w:=Wr k _ hlt hl;have hs:YY z y=decide (y.lo > z.hi):=rfl;rw[Jf hgz hg,hs]at fin;simp only[PS.cells]at hgzm;simp only[Ql hlt,Qh,QXe,Qc,hgm,hgzm,w,PS.cells,n12,a1,a2,a3,d0,m8,h3,h8,hc,e1,eE,seval];exact fin _ _ _ rfl (by exact h1) (by rfl) (by exact h7) (by exact h8) (by rfl) (by exact m1) (by exact m8') (by simp<;>rfl)
 ·rw[show i=x.free.length by omega,NS]at h3;simp only[Qy hlt,Qa,seval];refine hx _ _ (by exact h1) (by exact h3) (by exact h7) (by exact m1) (fun s hs=>?_);simp at hs;rcases hs with rfl|rfl
  ·rw[n12];rfl
  ·rw[m8];rfl

end

section
variable {M:Nat}(P:PL)(hP:P.ok M)(fr:Nat→Ob)(m1:fr 1=.cells (Pc P))(f:Fr)(b:Bool)(h1:f 1=.ptr 0 1 0)(h3:f 3=.bool b)(Q:Exit→St→Prop)
include hP m1 h1 h3

theorem QQc (ha:f 7=.int .i64 0)(hrow:∀s∈[12,8],(fr s).isRow=false)(hx:∀f fr,f 1=.ptr 0 1 0→f 3=.bool (b&&P.enums.all Jh)→Q (.exit 4) (⟨f,[fr],[]⟩:St)):QH Tryz.prog (.loop SG) ⟨f,[fr],[]⟩ Q:=by
 let I:Nat→St→Prop:=fun k st=>∃f fr i,st=⟨f,[fr],[]⟩∧k=P.enums.length-i∧i≤P.enums.length∧f 1=.ptr 0 1 0∧f 3=.bool (b&&(P.enums.take i).all Jh)∧f 7=.int .i64 (i:Nat)∧fr 1=.cells (Pc P)∧∀s∈[12,8],(fr s).isRow=false
 refine Qd I _ ⟨f,fr,0,rfl,rfl,QVV _,h1,by rw[h3];simp,ha,m1,hrow⟩ ?_;clear h1 h3 ha m1 hrow;rintro _ st ⟨f0,fr0,i,rfl,rfl,hi,h10,h30,ha0,m10,hr⟩;refine QO (a:=_) [12,8] hr ?_;intro f fr hf hm hn;have h1:f 1=.ptr 0 1 0:=by rw[hf,h10]<;>rfl
 have h3:f 3=.bool (b&&(P.enums.take i).all Jh):=by rw[hf,h30]<;>rfl
 have ha:f 7=.int .i64 (i:Nat):=by rw[hf,ha0]<;>rfl
 have m1:fr 1=.cells (Pc P):=by rw[hm 1 (by decide),m10]<;>rfl
 have n12:=hn 12 (by decide);have n8:=hn 8 (by decide);clear hf hm hn h10 h30 ha0 m10 hr;have m1':=m1;simp only[Pc]at m1;simp only[QWI,h1,m1,ha,eE,seval];by_cases hlt:i<P.enums.length
 ·obtain⟨x,hg⟩:∃x,P.enums[i]? = some x:=⟨P.enums[i],QVO hlt⟩;have hgm:(P.enums.map Qr)[i]? = some (.agg x.cells):=by simp[hg,Qr]
  have e1:=Qm i _ hlt hP.len2;have ht:=Q3 (q:=Jh) hg;have hq:(b&&(P.enums.take (i+1)).all Jh)=((b&&(P.enums.take i).all Jh&&(Uf x&&x.items.all (W0 x)))&&(x.free.all Gt&&XR x.free YY)):=by
   rw[ht];unfold Jh;cases b<;>cases(P.enums.take i).all _<;>cases x.free.all Gt<;>cases XR x.free YY<;>cases Uf x<;>cases x.items.all (W0 x)<;>rfl
  have hxo:=hP.enums x (QV0 hg);simp only[PE.cells]at hgm;simp only[Ql hlt,Qh,QXe,Qc,hgm,n8,h1,m1,ha,eE,seval];refine Pd x hxo.len1 hxo.len2 _ (b&&(P.enums.take i).all Jh) i _ (by exact h1) (by exact h3) (by exact ha) (by rfl) (by rfl) _ (by rfl) (fun f h1 h3 ha h8=>?_);simp only[Qa,seval];refine Pe x hxo.len2 P _ _ i _ (by exact h1) (by exact h3) (by exact ha) (by exact h8) (by exact m1') (by rfl) _ (by rfl) (fun s hs=>by simp at hs;subst hs;rw[QS _ _ (by decide)];first|rw[n12];rfl|(rw[QS _ _ (by decide),n12];rfl)) (fun f fr h1 h3 ha m1 hr=>?_);simp only[ha,e1,Qa,seval];exact⟨P.enums.length-(i+1),by omega,_,fr,i+1,rfl,rfl,by omega,(by exact h1),by rw[hq]<;>first|exact h3|simp only[h3,eE,seval],(by rfl),m1,hr⟩
 ·have hf:(P.enums.take i).all Jh=P.enums.all Jh:=by rw[QWl (by omega)]
  rw[hf]at h3;simp only[Qy hlt,Qa,seval];exact hx _ _ (by exact h1) (by exact h3)

end

theorem z47 {M:Nat}(P:PL)(hP:P.ok M):Qj Tryz.prog 47 [P.av] (.bool (Be P)):=by
 have e0:P.av=.agg [.list (P.progs.map Qn),.list (P.enums.map Qr)]:=rfl;refine k47.fn (by simp) ?_;simp only[e0,eE,seval];refine QQb P hP _ (by rfl) _ true (by rfl) (by rfl) _ (by rfl) (fun f h1 h3=>?_);simp only[Qa,seval];refine QQc P hP _ (by rfl) _ _ (by exact h1) (by exact h3) _ (by rfl) (fun s hs=>by simp at hs;rcases hs with rfl|rfl<;>rfl) (fun f fr h1 h3=>?_);simp only[h3,Be,QXo,Qa,seval]

section
variable (k kd:Int)(b:Nat)(t:List UInt8)(l p s r:List AV)(ht:t.length+8≤maxLen)

include ht in
theorem QQd:Qj Tryz.prog 201 [.int .i64 k,vo kd b t l p s r] (.bool (Xx k kd b t l p s r)):=by
 have hl:=Rt kd b t l p s r;simp only[vo]at hl;have n1:(kd != k)=!(kd==k):=rfl;have n2:(t != [])=!(t==[]):=rfl;refine QsP.fn (by simp) ?_;simp only[vo,Xx,eE,seval];refine Qb (VQ k) rfl rfl rfl (.inl rfl) ?_;cases hk:isk k
 ·simp only[QWU,QXh,Qa,seval]
 simp only[n1,QXp,QXo,eE,seval];cases a1:(kd==k)
 ·simp only[QWU,QXh,Qa,seval]
 have e:kd=k:=by simpa using a1
 subst e;simp only[QXp,QXo,eE,seval];refine Qb hl rfl rfl rfl (.inl rfl) ?_;cases WR l p s r
 ·simp only[QWU,QXh,Qa,seval]
 simp only[QXp,QXo,Qa,seval];refine Qb (Hs kd) rfl rfl rfl (.inl rfl) ?_;cases tx:X9 kd
 ·simp only[QV6,QL,eE,seval];cases a2:(t==[])
  ·simp only[QWU,QXh,Qa,seval]
  have e:t=[]:=by simpa using a2
  subst e;have k7:(kd != 7)=true:=by
   simp only[X9,QWG,QXt]at tx;simp[tx.1]
  have d0:decide (((0:Nat):Int)≤4096)=true:=rfl;simp only[k7,QWJ,QXp,QXo,QW0,QXr,Qa,seval];unfold Yx;by_cases h1:kd=1
  ·subst h1;have b1:((1:Int)==1)=true:=rfl;simp only[b1,eE,seval]
  ·have b1:(kd==1)=false:=by simp[h1]
   by_cases h2:kd=2
   ·subst h2;have b2:((2:Int)==2)=true:=rfl;simp only[b1,b2,h1,eE,seval];cases hd:decide (IntKind.i64.wrap (b:Int)≥-2147483648)<;>simp only[QXo,QXh,Qa,seval]
   ·have b2:(kd==2)=false:=by simp[h2]
    by_cases h4:kd=4
    ·subst h4;have b4:((4:Int)==4)=true:=rfl;simp only[b1,b2,b4,h1,h2,eE,seval]
    ·have b4:(kd==4)=false:=by simp[h4]
     by_cases h9:kd=9
     ·subst h9;have b9:((9:Int)==9)=true:=rfl;simp only[b1,b2,b9,b4,h1,h2,h4,eE,seval]
     ·have b9:(kd==9)=false:=by simp[h9]
      simp only[b1,b2,b9,b4,h1,h2,h4,h9,Qa,seval]
 ·simp only[eE,seval];cases a2:((b:Int)==0)
  ·simp only[QXh,Qa,seval]
  have hfn:Yx kd b=true:=by
   simp only[X9,QVR,QVT]at tx;rcases tx with rfl|rfl<;>rfl
  cases a3:decide ((t.length:Int)≤4096)
  ·simp only[a3,hfn,QXh,QXF,eE,seval]
  simp only[X9,QVR,QVT]at tx;rcases tx with rfl|rfl
  ·have c8:((7:Int)==8)=false:=rfl;have c7:((7:Int) != 7)=false:=rfl;simp only[a3,c8,c7,hfn,QXo,QXs,eE,seval];refine Qb (VU t ht) rfl rfl rfl (.inl rfl) ?_;simp only[Qa,seval]
  ·have c8:((8:Int)==8)=true:=rfl;have c7:((8:Int) != 7)=true:=rfl;simp only[a3,c8,c7,hfn,QXr,eE,seval]

end

section
variable {M:Nat}(P:PL)(hP:P.ok M)(k tg kd:Int)(b:Nat)(t:List UInt8)(l p s r:List AV)(ht:t.length+8≤maxLen)(hs:s.length≤140737488351232)(hr:r.length≤140737488351232)

include hP ht hs hr in
theorem QQe:Qj Tryz.prog 190 [P.av,.int .i64 k,.int .i64 tg,vo kd b t l p s r] (.int .i64 (Ul P k tg kd b t l p s r)):=by
 have e0:P.av=.agg [.list (P.progs.map Qn),.list (P.enums.map Qr)]:=rfl;have ho:=z59 kd b t l p s r hs hr;have hf:=QQd k kd b t l p s r ht;have ha:=QvL P hP tg b;simp only[vo]at ho hf;simp only[e0]at ha;refine QMK.fn (by simp) ?_;simp only[e0,vo,Ul,eE,seval];cases a1:(kd != k)
 ·simp only[QXs,eE,seval];refine Qb ho rfl rfl rfl (.inl rfl) ?_;cases oth kd b t l p s r
  ·simp only[QV6,eE,seval];cases a2:decide ((t.length:Int) > 4096)
   ·simp only[QV6,Qa,seval];cases a3:(k==7)
    ·simp only[QXh,QV6,eE,seval];refine Qb hf rfl rfl rfl (.inl rfl) ?_;cases Xx k kd b t l p s r
     ·simp only[QWU,Qa,seval]
     ·simp only[QXp,QV6,Qa,seval];cases a4:(k==9)
      ·simp only[QXh,QV6,Qa,seval]
      ·simp only[QXo,eE,seval];refine Qb ha rfl rfl rfl (.inl rfl) ?_;cases Ws P.enums tg b<;>simp only[QWU,QXp,QV6,Qa,seval]
    ·simp only[QXo,eE,seval];refine Qb (VU t ht) rfl rfl rfl (.inl rfl) ?_;cases Hh t
     ·simp only[QWU,Qa,seval]
     ·have a4:(k==9)=false:=by
       rw[QVT]at a3;subst a3;rfl
      simp only[QXp,QV6,eE,seval];refine Qb hf rfl rfl rfl (.inl rfl) ?_;cases Xx k kd b t l p s r
      ·simp only[QWU,Qa,seval]
      ·simp only[QXp,a4,QXh,QV6,Qa,seval]
   ·simp only[Qa,seval]
  ·simp only[Qa,seval]
 ·simp only[QXr,Qa,seval]

end

def kv (k:Int)(b:Nat)(t:List UInt8):AV:=.agg [.int .i64 k,.int .u64 (b:Nat),.str t,.list [],.list [],.list [],.list []]
def X5 (k:Int):Prop:=(1≤k∧k≤5)∨k=7

theorem X5.isk {k:Int}(h:X5 k):isk k=true:=by
 rcases h with h|rfl
 ·simp[Va.isk];omega
 ·rfl

theorem GD:∀s:List UInt8,Op.bytesLess s s=false
 | []=>rfl
 |a :: l=>by simp[Op.bytesLess,GD l]

theorem QvT (a:Int):Qj Tryz.prog 188 [.int .i64 a] (.bool false):=by
 refine Qg0.fn (by simp) ?_;simp only[bne_self_eq_false,Qa,seval]

theorem QvU (a:Int):Qj Tryz.prog 298 [.int .u64 a] (.bool false):=by
 refine QOz.fn (by simp) ?_;simp only[bne_self_eq_false,Qa,seval]

theorem QvV (a:List UInt8):Qj Tryz.prog 297 [.str a] (.bool false):=by
 have e:QL .neq a a=some (.bool false):=by simp[QL]
 refine QOw.fn (by simp) ?_;simp only[e,Qa,seval]

def cN (a b:Int):Int:=if a<b then -1 else if b<a then 1 else 0
theorem US {a b:Int}:cN a b=0↔a=b:=by
 unfold cN;split
 ·omega
 ·split<;>omega

theorem Ca (a b:Int):Qj Tryz.prog 102 [.int .i64 a,.int .i64 b] (.int .i64 (cN a b)):=by
 refine QbQ.fn (by simp) ?_;simp only[Qa,seval];refine Qb (QvT a) rfl rfl rfl (.inl rfl) ?_;simp only[Qa,seval];refine Qb (QvT b) rfl rfl rfl (.inl rfl) ?_;simp only[Qa,seval];by_cases h1:a<b
 ·have d1:decide (a<b)=true:=by simpa using h1
  simp only[d1,cN,QWg h1,Qa,seval]
 ·have d1:decide (a<b)=false:=by simpa using h1
  by_cases h2:b<a
  ·have d2:decide (a > b)=true:=by simpa using h2
   simp only[d1,d2,cN,QV1 h1,QWg h2,Qa,seval]
  ·have d2:decide (a > b)=false:=by simpa using h2
   simp only[d1,d2,cN,QV1 h1,QV1 h2,Qa,seval]

theorem QQf (a b:Int):Qj Tryz.prog 285 [.int .u64 a,.int .u64 b] (.int .i64 (cN a b)):=by
 refine QOn.fn (by simp) ?_;simp only[Qa,seval];refine Qb (QvU a) rfl rfl rfl (.inl rfl) ?_;simp only[Qa,seval];refine Qb (QvU b) rfl rfl rfl (.inl rfl) ?_;simp only[Qa,seval];by_cases h1:a<b
 ·have d1:decide (a<b)=true:=by simpa using h1
  simp only[d1,cN,QWg h1,Qa,seval]
 ·have d1:decide (a<b)=false:=by simpa using h1
  by_cases h2:b<a
  ·have d2:decide (a > b)=true:=by simpa using h2
   simp only[d1,d2,cN,QV1 h1,QWg h2,Qa,seval]
  ·have d2:decide (a > b)=false:=by simpa using h2
   simp only[d1,d2,cN,QV1 h1,QV1 h2,Qa,seval]

def cS (a b:List UInt8):Int:=if Op.bytesLess a b=true then -1 else if a==b then 0 else 1
theorem N3 {a b:List UInt8}:cS a b=0↔a=b:=by
 unfold cS
 constructor
 ·intro h;split at h
  ·omega
  ·split at h
   ·rename_i h2;simpa using h2
   ·omega
 ·rintro rfl;simp[GD]

theorem QQg (a b:List UInt8):Qj Tryz.prog 284 [.str a,.str b] (.int .i64 (cS a b)):=by
 refine QOk.fn (by simp) ?_;simp only[Qa,seval];refine Qb (QvV a) rfl rfl rfl (.inl rfl) ?_;simp only[Qa,seval];refine Qb (QvV b) rfl rfl rfl (.inl rfl) ?_;simp only[QL,cS,Qa,seval];cases h1:Op.bytesLess a b
 ·cases h2:(a==b)<;>simp only[QL,h1,h2,QXs,QXp,QWU,QV6,Qa,seval]
 ·simp only[Qa,seval]

def Hj (k:Int)(a:Nat)(s:List UInt8)(b:Nat)(t:List UInt8):Int :=
 if X9 k=true then cS s t else if (k==2||k==3)=true then cN (IntKind.i64.wrap (a:Int)) (IntKind.i64.wrap (b:Int))else cN (a:Int) (b:Int)

theorem QQh (k:Int)(hk:X5 k)(a b:Nat)(s t:List UInt8):Qj Tryz.prog 258 [kv k a s,kv k b t] (.int .i64 (Hj k a s b t)):=by
 have hi:=hk.isk;have k6:(k==6)=false:=by
  rcases hk with h|rfl
  ·simp;omega
  ·rfl
 refine QNZ.fn (by simp) ?_;simp only[kv,Hj,bne_self_eq_false,eE,seval];refine Qb (F9 k) rfl rfl rfl (.inl rfl) ?_;simp only[hi,eE,seval];refine Qb (Qvp k) rfl rfl rfl (.inl rfl) ?_;cases h1:X9 k
 ·simp only[QV6,eE,seval];cases h2:(k==2)
  ·cases h3:(k==3)
   ·simp only[h3,k6,QXG,QV6,eE,seval];refine Qb (QQf _ _) rfl rfl rfl (.inl rfl) ?_;simp only[Qa,seval]
   ·simp only[h3,QXs,eE,seval];refine Qb (Ca _ _) rfl rfl rfl (.inl rfl) ?_;simp only[Qa,seval]
  ·simp only[QXr,eE,seval];refine Qb (Ca _ _) rfl rfl rfl (.inl rfl) ?_;simp only[Qa,seval]
 ·simp only[eE,seval];refine Qb (QQg s t) rfl rfl rfl (.inl rfl) ?_;simp only[Qa,seval]

theorem QvW (k:Int)(hk:X5 k)(b:Nat)(t:List UInt8):Qj Tryz.prog 257 [kv k b t] (.iface 218 (kv k b t)):=by
 have hi:=hk.isk;refine QNW.fn (by simp) ?_;simp only[kv,eE,seval];refine Qb (F9 k) rfl rfl rfl (.inl rfl) ?_;simp only[hi,eE,seval]

theorem QvX (k:Int)(hk:X5 k)(a b:Nat)(s t:List UInt8):Qj Tryz.prog 227 [kv k a s,kv k b t] (.int .i64 (Hj k a s b t)):=by
 have h1:=QvW k hk a s;have h2:=QvW k hk b t;have h3:=QQh k hk a b s t;simp only[kv]at h1 h2 h3;refine QNt.fn (by simp) ?_;simp only[kv,bne_self_eq_false,eE,seval];refine Qb h2 rfl rfl rfl (.inl rfl) ?_;simp only[eE,seval];refine Qb h1 rfl rfl rfl (.inl rfl) ?_;simp only[eE,seval];refine Qb h3 rfl rfl rfl (.inl rfl) ?_;simp only[Qa,seval]

theorem QQi (k:Int)(hk:X5 k)(a b:Nat)(s t:List UInt8):Qj Tryz.prog 228 [kv k a s,kv k b t] (.bool (Hj k a s b t==0)):=by
 have h1:=QvX k hk a b s t;simp only[kv]at h1;refine QNw.fn (by simp) ?_;simp only[kv,eE,seval];refine Qb h1 rfl rfl rfl (.inl rfl) ?_;simp only[Qa,seval]

def Kk (k:Int)(b:Nat):Int:=if (k==2||k==3)=true then IntKind.u64.wrap ((b:Int)+9223372036854775808)else(b:Int)

theorem QQj (k:Int):Qj Tryz.prog 288 [.int .i64 k] (.bool (k==2||k==3)):=by
 refine QOq.fn (by simp) ?_;simp only[Qa,seval];cases h:(k==2)<;>simp only[QXr,QXs,Qa,seval]

theorem QvY (k:Int)(k6:(k != 6)=true)(b:Nat)(t:List UInt8):Qj Tryz.prog 270 [kv k b t] (.int .u64 (Kk k b)):=by
 refine QN2.fn (by simp) ?_;simp only[kv,eE,seval];refine Qb (QQj k) rfl rfl rfl (.inl rfl) ?_;unfold Kk;cases h1:(k==2||k==3)
 ·simp only[k6,QV6,eE,seval]
 ·simp only[eE,seval]

def Ur (k:Int)(a:Nat)(s:List UInt8)(b:Nat)(t:List UInt8):Int:=if X9 k=true then cS s t else cN (Kk k a) (Kk k b)

theorem QQk (k:Int)(hk:X5 k)(a b:Nat)(s t:List UInt8):Qj Tryz.prog 238 [kv k a s,kv k b t] (.int .i64 (Ur k a s b t)):=by
 have hi:=hk.isk;have k6:(k != 6)=true:=by
  rcases hk with h|rfl
  ·simp;omega
  ·rfl
 have d1:decide (k<k)=false:=by simp
 have d2:decide (k > k)=false:=by simp
 have hr:=QvY k k6 a s;have hq:=QvY k k6 b t;simp only[kv]at hr hq;refine QNz.fn (by simp) ?_;simp only[kv,Ur,d1,eE,seval];refine Qb (VQ k) rfl rfl rfl (.inl rfl) ?_;simp only[hi,eE,seval];refine Qb (Hs k) rfl rfl rfl (.inl rfl) ?_;cases h2:X9 k
 ·simp only[QV6,eE,seval];refine Qb (Hs k) rfl rfl rfl (.inl rfl) ?_;simp only[h2,eE,seval];refine Qb (Hs k) rfl rfl rfl (.inl rfl) ?_;simp only[h2,eE,seval];refine Qb hr rfl rfl rfl (.inl rfl) ?_;simp only[eE,seval];refine Qb hq rfl rfl rfl (.inl rfl) ?_;simp only[Qa,seval];by_cases c1:Kk k a<Kk k b
  ·have e1:decide (Kk k a<Kk k b)=true:=QXD c1;simp only[e1,cN,QWg c1,Qa,seval]
  ·have e1:decide (Kk k a<Kk k b)=false:=QXy c1;simp only[e1,cN,QV1 c1,eE,seval];refine Qb hr rfl rfl rfl (.inl rfl) ?_;simp only[eE,seval];refine Qb hq rfl rfl rfl (.inl rfl) ?_;by_cases c2:Kk k b<Kk k a
   ·have e2:decide (Kk k a > Kk k b)=true:=QXD c2;simp only[e2,QWg c2,Qa,seval]
   ·have e2:decide (Kk k a > Kk k b)=false:=QXy c2;simp only[e2,QV1 c2,Qa,seval]
 ·simp only[QL,cS,eE,seval];cases h1:Op.bytesLess s t
  ·simp only[QV6,eE,seval];refine Qb (Hs k) rfl rfl rfl (.inl rfl) ?_;cases h3:(s==t)
   ·simp only[h1,h2,h3,QL,QXs,QWU,QV6,eE,seval]
   ·simp only[h1,h2,h3,QL,QXs,QXp,eE,seval];refine Qb (Hs k) rfl rfl rfl (.inl rfl) ?_;simp only[h2,Qa,seval]
  ·simp only[Qa,seval]

theorem QvZ (k:Int)(hk:X5 k)(a b:Nat)(s t:List UInt8):Qj Tryz.prog 192 [kv k a s,kv k b t] (.int .i64 (Ur k a s b t)):=by
 have b1:(k==11)=false:=by rcases hk with h|rfl<;>simp<;>omega
 have b2:(k==12)=false:=by rcases hk with h|rfl<;>simp<;>omega
 have b3:(k==10)=false:=by rcases hk with h|rfl<;>simp<;>omega
 have hr:=QQk k hk a b s t;simp only[kv]at hr;refine QMQ.fn (by simp) ?_;simp only[kv,bne_self_eq_false,b1,b2,b3,eE,seval];refine Qb hr rfl rfl rfl (.inl rfl) ?_;simp only[Qa,seval]

theorem QQl (k:Int)(hk:X5 k)(a b:Nat)(s t:List UInt8):Qj Tryz.prog 191 [kv k a s,kv k b t] (.bool (Ur k a s b t==0)):=by
 have hr:=QvZ k hk a b s t;simp only[kv]at hr;refine QMN.fn (by simp) ?_;simp only[kv,eE,seval];refine Qb hr rfl rfl rfl (.inl rfl) ?_;simp only[Qa,seval]

theorem Z6 {v:V}{P:PL}{k tg:Int}(h:v.one P k tg=0):v.av=kv k v.bits v.text∧(X9 k=true→(v.bits:Int)=0)∧(X9 k=false→v.text=[]):=by
 obtain⟨h1,_,h3⟩:=Um h;rw[GB,h1];rw[h1]at h3;unfold Xx WR at h3;simp only[QWb,QVT]at h3;obtain⟨⟨⟨⟨⟨_,⟨⟨⟨e1,e2⟩,e3⟩,e4⟩⟩,h4⟩,_⟩,_⟩,_⟩:=h3;have f1:=QXN.1 (Int.ofNat_eq_zero.1 e1);have f2:=QXN.1 (Int.ofNat_eq_zero.1 e2);have f3:=QXN.1 (Int.ofNat_eq_zero.1 e3);have f4:=QXN.1 (Int.ofNat_eq_zero.1 e4);rw[f1,f2,f3,f4];refine⟨rfl,fun ht=>?_,fun ht=>?_⟩
 ·rw[QWg ht]at h4;simpa using h4
 ·rw[QV1 (by simp[ht])]at h4;simpa using h4

theorem LS {x y:V}{P:PL}{k tg:Int}(_hk:X5 k)(hx:x.one P k tg=0)(hy:y.one P k tg=0)(bx:x.bits<18446744073709551616)(bY:y.bits<18446744073709551616):(Hj k x.bits x.text y.bits y.text==0)=ZH x y:=by
 obtain⟨_,x1,x2⟩:=Z6 hx;obtain⟨_,y1,y2⟩:=Z6 hy;rw[QWH,QVT];unfold ZH Hj;simp only[QWb,QVT];split
 ·rename_i ht;have:=x1 ht;have:=y1 ht;rw[N3];exact⟨fun h=>⟨by omega,h⟩,fun h=>h.2⟩
 ·rename_i ht;have ht:X9 k=false:=by simpa using ht
  rw[x2 ht,y2 ht];split
  ·rw[US,QG,QG];exact⟨fun h=>⟨by omega,rfl⟩,fun h=>by rw[h.1]⟩
  ·rw[US];exact⟨fun h=>⟨by omega,rfl⟩,fun h=>by rw[h.1]⟩

theorem N4 {x y:V}{P:PL}{k tg:Int}(_hk:X5 k)(hx:x.one P k tg=0)(hy:y.one P k tg=0)(bx:x.bits<18446744073709551616)(bY:y.bits<18446744073709551616):(Ur k x.bits x.text y.bits y.text==0)=ZH x y:=by
 obtain⟨_,x1,x2⟩:=Z6 hx;obtain⟨_,y1,y2⟩:=Z6 hy;rw[QWH,QVT];unfold ZH Ur;simp only[QWb,QVT];split
 ·rename_i ht;have:=x1 ht;have:=y1 ht;rw[N3];exact⟨fun h=>⟨by omega,h⟩,fun h=>h.2⟩
 ·rename_i ht;have ht:X9 k=false:=by simpa using ht
  rw[x2 ht,y2 ht];unfold Kk;split
  ·rw[US,Jc,Jc];exact⟨fun h=>⟨by omega,rfl⟩,fun h=>by rw[h.1]⟩
  ·rw[US];exact⟨fun h=>⟨by omega,rfl⟩,fun h=>by rw[h.1]⟩

open Up

def vc (x:V):List AV:=[.int .i64 x.kd,.int .u64 (x.bits:Nat),.str x.text,.list (x.list.map V.av),.list (x.pairs.map V.pav),.list (x.slots.map V.sav),.list (x.raws.map R.av)]
theorem Qw (x:V):x.av=.agg [.int .i64 x.kd,.int .u64 (x.bits:Nat),.str x.text,.list (x.list.map V.av),.list (x.pairs.map V.pav),.list (x.slots.map V.sav),.list (x.raws.map R.av)]:=by
 rw[V.av,V.eta]
theorem Kf (p:V×V):V.pav p=.agg [.int .i64 p.1.kd,.int .u64 (p.1.bits:Nat),.str p.1.text,.list (p.1.list.map V.av),.list (p.1.pairs.map V.pav),.list (p.1.slots.map V.sav),.list (p.1.raws.map R.av),.int .i64 p.2.kd,.int .u64 (p.2.bits:Nat),.str p.2.text,.list (p.2.list.map V.av),.list (p.2.pairs.map V.pav),.list (p.2.slots.map V.sav),.list (p.2.raws.map R.av)]:=by
 rw[V.pav,V.eta,V.eta];rfl
theorem Zm (s:Int×V):V.sav s=.agg [.int .i64 s.1,.int .i64 s.2.kd,.int .u64 (s.2.bits:Nat),.str s.2.text,.list (s.2.list.map V.av),.list (s.2.pairs.map V.pav),.list (s.2.slots.map V.sav),.list (s.2.raws.map R.av)]:=by
 rw[V.sav,V.eta]
theorem Wy {l:List V}{i:Nat}{x:V}(h:l[i]? = some x):(l.map V.av)[i]? = some (.agg [.int .i64 x.kd,.int .u64 (x.bits:Nat),.str x.text,.list (x.list.map V.av),.list (x.pairs.map V.pav),.list (x.slots.map V.sav),.list (x.raws.map R.av)]):=by
 rw[QXa,h,QWD,Qw]
theorem Z0 {l:List (V×V)}{i:Nat}{p:V×V}(h:l[i]? = some p):(l.map V.pav)[i]? = some (.agg [.int .i64 p.1.kd,.int .u64 (p.1.bits:Nat),.str p.1.text,.list (p.1.list.map V.av),.list (p.1.pairs.map V.pav),.list (p.1.slots.map V.sav),.list (p.1.raws.map R.av),.int .i64 p.2.kd,.int .u64 (p.2.bits:Nat),.str p.2.text,.list (p.2.list.map V.av),.list (p.2.pairs.map V.pav),.list (p.2.slots.map V.sav),.list (p.2.raws.map R.av)]):=by
 rw[QXa,h,QWD,Kf]
theorem JA {l:List (Int×V)}{i:Nat}{s:Int×V}(h:l[i]? = some s):(l.map V.sav)[i]? = some (.agg [.int .i64 s.1,.int .i64 s.2.kd,.int .u64 (s.2.bits:Nat),.str s.2.text,.list (s.2.list.map V.av),.list (s.2.pairs.map V.pav),.list (s.2.slots.map V.sav),.list (s.2.raws.map R.av)]):=by
 rw[QXa,h,QWD,Zm]

structure UO (P:PL)(o:PO):Prop where
 tgt:o.kind=10→0≤o.target∧o.target<(P.progs.length:Int)
 enm:o.kind=9→0≤o.target∧o.target<(P.enums.length:Int)
 key:o.card=5→X5 o.key
def Yd (P:PL):Prop:=∀g∈P.progs,∀o∈g.ops,UO P o

theorem Jl {P:PL}(h:ck P=0):Yd P:=by
 unfold ck at h;split at h
 ·omega
 split at h
 ·omega
 split at h
 ·omega
 split at h
 ·omega
 split at h
 ·omega
 split at h
 ·omega
 rename_i ha;have ha:args P=true:=by simpa using ha
 intro g hg o ho;unfold args at ha;simp only[QWb,QVZ]at ha;have h1:=ha.1 g hg;unfold ZZ at h1;simp only[QWb,QVZ]at h1;have h2:=(h1.2 o ho).1;unfold X4 at h2;simp only[QWb,QVS]at h2;obtain⟨⟨_,hk⟩,hm⟩:=h2;refine⟨fun h=>?_,fun h=>?_,fun h=>?_⟩
 ·unfold Gv at hm;rw[QWg h]at hm;simp only[QWb,QVS]at hm;exact hm.1
 ·unfold Gv at hm;rw[QV1 (by omega),QWg h]at hm;simp only[QWb,QVS]at hm;exact hm
 ·unfold Va.key at hk;rw[QWg h]at hk;simp only[QWb,QVS,QWd]at hk;unfold X5;omega

section
variable {M:Nat}{P:PL}(hP:P.ok M)(hM:M≤140737488351232){m:PG→V→Int}{lv lv1:Int}(hw:IntKind.i64.wrap (lv+1)=lv1)

include hP hM in
theorem S1 (k tg:Int){v:V}(hv:v.ok M):Qj Tryz.prog 190 [P.av,.int .i64 k,.int .i64 tg,v.av] (.int .i64 (v.one P k tg)):=by
 rw[GB];exact QQe P hP k tg _ _ _ _ _ _ _ (by have:=hv.text;simp only[maxLen];omega) (by have:=hv.ns;simp;omega) (by have:=hv.nr;simp;omega)

include hP hM hw in
theorem QQm (hm:∀(t:Int) (g:PG),P.progs[t.toNat]? = some g→0≤t→∀v:V,v.ok M→Qj Tryz.prog 31 [P.av,.int .i64 t,v.av,.int .i64 lv1] (.int .i64 (m g v)))(o:PO)(ho:UO P o)(v:V)(hv:v.ok M) :
  Qj Tryz.prog 111 [P.av,Qt o,v.av,.int .i64 lv] (.int .i64 (QT m P o v)):=by
 have e0:P.av=.agg [.list (P.progs.map Qn),.list (P.enums.map Qr)]:=rfl;have h1:=S1 hP hM o.kind o.target hv;rw[e0,Qw]at h1;rw[Qw];refine QK5.fn (by simp) ?_;simp only[e0,Qt,PO.cells,QT,eE,seval];by_cases hk:o.kind=10
 ·have b:(o.kind==10)=true:=by simp[hk]
  obtain⟨t0,t1⟩:=ho.tgt hk;obtain⟨g,hg⟩:∃g,P.progs[o.target.toNat]? = some g:=⟨P.progs[o.target.toNat]'(by omega),QVO (by omega)⟩;have hq:QW P o.target=g:=by unfold QW;rw[hg];rfl
  have h2:=hm o.target g hg t0 v hv;rw[e0,Qw]at h2;rw[QWg hk,hq];simp only[b,hw,eE,seval];refine Qb h2 rfl rfl rfl (.inl rfl) ?_;simp only[Qa,seval]
 ·have b:(o.kind==10)=false:=by simp[hk]
  rw[QV1 hk];simp only[b,eE,seval];refine Qb h1 rfl rfl rfl (.inl rfl) ?_;simp only[Qa,seval]

end

section pairs
variable (L:List (V×V))(hl:L.length≤maxLen)(p:V×V→Bool)(c:Nat)(cap:AV)(m:Qq)

end pairs

section slots
variable (L:List (Int×V))(hl:L.length≤maxLen)(p:Int×V→Bool)(c:Nat)(cap:AV)(m:Qq)

end slots

theorem JV {M:Nat}{v:V}(h:v.ok M):v.bits<18446744073709551616:=by
 have:=H8 h.bits;omega

section
variable {M:Nat}{P:PL}(hP:P.ok M)(hM:M≤140737488351232){m:PG→V→Int}{lv:Int}(o:PO)(ho:UO P o)(h5:o.card=5)(ps:List (V×V))(hn:ps.length≤maxLen)(hk:∀x∈ps,x.1.ok M)(hv:∀x∈ps,x.2.ok M)

theorem Pf {k:Int}(kk:X5 k)(i:Nat)(x:V×V)(hi:ps[i]? = some x)(hz:x.1.one P k (-1)=0)(hks:∀j y,j<i→ps[j]? = some y→y.1.one P k (-1)=0)(hn:ps.length≤maxLen)(hk:∀x∈ps,x.1.ok M)(f:Fr)(fr:Nat→Ob)(lv:Int)(h2:f 2=.list (ps.map V.pav))(h3:f 3=.int .i64 lv)(h4:f 4=.ptr 0 4 0)(h5:f 5=.ptr 0 5 0)(h9:f 9=.int .i64 (i:Nat))(h11:f 11=.int .i64 0)(Q:Exit→St→Prop)
  (q1:(ps.take i).any (fun q=>ZH q.1 x.1)=true→∀f,f 8=.int .i64 9→Q .ret (⟨f,[fr],[]⟩:St))
  (q2:(ps.take i).any (fun q=>ZH q.1 x.1)=false→∀f,f 2=.list (ps.map V.pav)→f 3=.int .i64 lv→f 4=.ptr 0 4 0→f 5=.ptr 0 5 0→f 9=.int .i64 (i:Nat)→Q (.exit 2) (⟨f,[fr],[]⟩:St)) :
  QH Tryz.prog (.loop ME) ⟨f,[fr],[]⟩ Q:=by
 let I:Nat→St→Prop:=fun k st=>∃f j,st=⟨f,[fr],[]⟩∧k=i-j∧j≤i∧(ps.take j).any (fun q=>ZH q.1 x.1)=false∧f 2=.list (ps.map V.pav)∧f 3=.int .i64 lv∧f 4=.ptr 0 4 0∧f 5=.ptr 0 5 0∧f 9=.int .i64 (i:Nat)∧f 11=.int .i64 (j:Nat)
 refine Qd I _ ⟨f,0,rfl,rfl,QVV _,by simp,h2,h3,h4,h5,h9,h11⟩ ?_;clear h2 h3 h4 h5 h9 h11;rintro _ st ⟨f,j,rfl,rfl,hji,ha,h2,h3,h4,h5,h9,h11⟩;have hil:=(QVN.1 hi).1;simp only[h9,h11,Qa,seval];by_cases hlt:j<i
 ·obtain⟨y,hj⟩:∃y,ps[j]? = some y:=⟨ps[j]'(by omega),QVO (by omega)⟩;have hg:=Z0 hj;have hgi:=Z0 hi;have e1:=Qm j i hlt (by omega);have hy:=hks j y hlt hj;have h:=QQl k kk y.1.bits x.1.bits y.1.text x.1.text;rw[←(Z6 hy).1,←(Z6 hz).1,N4 kk hy hz (JV (hk y (QV0 hj))) (JV (hk x (QV0 hi))),Qw,Qw]at h;have ht:(ps.take (j+1)).any (fun q=>ZH q.1 x.1)=ZH y.1 x.1:=by
   rw[QXv,hj,List.any_append,ha];simp
  simp only[Ql hlt,Qh,QXe,Qc,hg,hgi,h2,h9,h11,QWk,QWV,QWu,eE,seval];refine Qb h rfl rfl rfl (.inl rfl) ?_;cases hq:ZH y.1 x.1
  ·simp only[h11,e1,Qa,seval];exact⟨i-(j+1),by omega,_,j+1,rfl,rfl,by omega,by rw[ht,hq],(by exact h2),(by exact h3),(by exact h4),(by exact h5),(by exact h9),(by rfl)⟩
  ·simp only[Qa,seval];refine q1 ?_ _ (by rfl);refine QXB.2 ⟨y,?_,hq⟩;exact QV0 (i:=j) (by rw[QWq,QWg hlt];exact hj)
 ·have e:j=i:=by omega
  subst e;simp only[Qy hlt,Qa,seval];exact q2 ha _ (by exact h2) (by exact h3) (by exact h4) (by exact h5) (by exact h9)

def QaI (m:PG→V→Int)(P:PL)(lv:Int)(o:PO)(ps:List (V×V))(k:Nat)(st:St):Prop :=
 ∃f fr i,st=⟨f,[fr],[]⟩∧k=ps.length-i∧XN (YB m P o ps) ps.length 0=XN (YB m P o ps) (ps.length-i) i∧(∀j y,j<i→ps[j]? = some y→y.1.one P o.key (-1)=0)∧f 2=.list (ps.map V.pav)∧f 3=.int .i64 lv∧f 4=.ptr 0 4 0∧f 5=.ptr 0 5 0∧f 9=.int .i64 (i:Nat)∧fr 4=.cells [.list (P.progs.map Qn),.list (P.enums.map Qr)]∧fr 5=.cells o.cells

include hP hM ho h5 hn hk hv in
theorem QQn (hel:∀v:V,v.ok M→Qj Tryz.prog 111 [P.av,Qt o,v.av,.int .i64 lv] (.int .i64 (QT m P o v))) :
  Qj Tryz.prog 110 [P.av,Qt o,.list (ps.map V.pav),.int .i64 lv] (.int .i64 (XN (YB m P o ps) ps.length 0)):=by
 have e0:P.av=.agg [.list (P.progs.map Qn),.list (P.enums.map Qr)]:=rfl;have kk:=ho.key h5;refine QK2.fn (by simp) ?_;simp only[e0,Qt,PO.cells,eE,seval];refine Qd (QaI m P lv o ps) _ ⟨_,_,0,rfl,rfl,rfl,(by intro j y h;omega),(by rfl),(by rfl),(by rfl),(by rfl),(by rfl),(by rfl),(by rfl)⟩ ?_;rintro _ st ⟨f,fr,i,rfl,rfl,hx,hks,h2,h3,h4,h5',h9,m4,m5⟩;have m5':=m5;simp only[PO.cells]at m5;simp only[QWI,h2,h9,Qa,seval];by_cases hlt:i<ps.length
 ·obtain⟨x,hi⟩:∃x,ps[i]? = some x:=⟨ps[i],QVO hlt⟩;have hxm:=QV0 hi;have hg:=Z0 hi;have e1:=Qm i _ hlt hn;have c1:=S1 hP hM o.key (-1) (hk x hxm);have c2:=hel x.2 (hv x hxm);rw[e0,Qw]at c1 c2;simp only[Qt,PO.cells]at c2;simp only[Ql hlt,Qh,QXe,Qc,hg,QWk,QWV,QWu,h2,h4,h5',h9,m4,m5,eE,seval];refine Qb c1 rfl rfl rfl (.inl rfl) ?_;by_cases hz:x.1.one P o.key (-1)=0
  ·have d0:((0:Int) != 0)=false:=rfl;simp only[hz,d0,Qa,seval];refine Pf ps kk i x hi hz hks hn hk _ _ lv (by exact h2) (by exact h3) (by exact h4) (by exact h5') (by exact h9) (by rfl) _ (fun ha f h8=>?_) (fun ha f h2 h3 h4 h5' h9=>?_)
   ·rw[KH hlt (v:=9) (by rw[UN hi,QWg hz,ha,QWg rfl]) (by decide)]at hx;simp only[hx,h8,Qa,seval]
   ·have he:YB m P o ps i=QT m P o x.2:=by rw[UN hi,QWg hz,ha,QV1 (by simp)]
    simp only[Qh,QXe,Qc,hg,QWk,QWn,QWu,h2,h3,h4,h5',h9,m4,m5,eE,seval];refine Qb c2 rfl rfl rfl (.inl rfl) ?_;by_cases hy:QT m P o x.2=0
    ·rw[GA hlt (he.trans hy)]at hx;simp only[hy,d0,h9,e1,Qa,seval];refine⟨ps.length-(i+1),by omega,_,_,i+1,rfl,rfl,hx,?_,(by exact h2),(by exact h3),(by exact h4),(by exact h5'),(by rfl),(by exact m4),(by exact m5')⟩;intro j y hj hjy;by_cases e:j=i
     ·subst e;rw[hi]at hjy;cases hjy;exact hz
     ·exact hks j y (by omega) hjy
    ·rw[KH hlt he hy]at hx;have d1:(QT m P o x.2 != 0)=true:=by simp[hy]
     simp only[d1,hx,Qa,seval]
  ·rw[KH hlt ((UN hi).trans (QV1 hz)) hz]at hx;have d1:(x.1.one P o.key (-1) != 0)=true:=by simp[hz]
   simp only[d1,hx,Qa,seval]
 ·rw[UL hlt]at hx;simp only[Qy hlt,hx,Qa,seval]

end

section
variable {M:Nat}{P:PL}(hP:P.ok M)(hM:M≤140737488351232){m:PG→V→Int}{lv:Int}(o:PO)(ho:UO P o)(v:V)(hv:v.ok M)

include hv in
theorem Cb:Qj Tryz.prog 59 [v.av] (.bool v.oth):=by
 rw[GB];exact z59 _ _ _ _ _ _ _ (by have:=hv.ns;simp;omega) (by have:=hv.nr;simp;omega)

def CoI (m:PG→V→Int)(P:PL)(lv:Int)(o:PO)(v:V)(k:Nat)(st:St):Prop :=
 ∃f fr i,st=⟨f,[fr],[]⟩∧k=v.list.length-i∧XN (Dn m P o v.list) v.list.length 0=XN (Dn m P o v.list) (v.list.length-i) i∧f 3=.int .i64 lv∧f 4=.ptr 0 4 0∧f 5=.ptr 0 5 0∧f 6=.ptr 0 6 0∧f 9=.int .i64 (i:Nat)∧fr 4=.cells [.list (P.progs.map Qn),.list (P.enums.map Qr)]∧fr 5=.cells o.cells∧fr 6=.cells (vc v)

include hP hM ho hv in
theorem v61 (hel:∀v:V,v.ok M→Qj Tryz.prog 111 [P.av,Qt o,v.av,.int .i64 lv] (.int .i64 (QT m P o v))) :
  Qj Tryz.prog 61 [P.av,Qt o,v.av,.int .i64 lv] (.int .i64 (Xd m P o v)):=by
 have e0:P.av=.agg [.list (P.progs.map Qn),.list (P.enums.map Qr)]:=rfl;have co:=Cb v hv;have ce:=fun h5=>QQn hP hM o ho h5 v.pairs (by have:=hv.np;simp only[maxLen];omega) hv.keys hv.vals hel
 have cv:=hel v hv;rw[e0,Qw]at cv;rw[Qw]at co;simp only[e0,Qt,PO.cells]at ce cv;rw[Qw];refine k61.fn (by simp) ?_;simp only[e0,Qt,PO.cells,eE,seval];unfold Xd;by_cases h5:o.card=5
 ·have b5:(o.card==5)=true:=by simp[h5]
  rw[QWg h5];simp only[b5,eE,seval];cases a1:(v.kd != 12)
  ·simp only[QXs,eE,seval];refine Qb co rfl rfl rfl (.inl rfl) ?_;cases a2:v.oth
   ·simp only[QV6,eE,seval];refine Qb (ce h5) rfl rfl rfl (.inl rfl) ?_;simp only[Qa,seval]
   ·simp only[Qa,seval]
  ·simp only[QXr,Qa,seval]
 ·have b5:(o.card==5)=false:=by simp[h5]
  rw[QV1 h5];by_cases h4:o.card=4
  ·have b4:(o.card==4)=true:=by simp[h4]
   rw[QWg h4];simp only[b5,b4,eE,seval];cases a1:(v.kd != 11)
   ·simp only[QXs,eE,seval];refine Qb co rfl rfl rfl (.inl rfl) ?_;cases a2:v.oth
    ·simp only[QV6,Qa,seval];refine Qd (CoI m P lv o v) _ ⟨_,_,0,rfl,rfl,rfl,(by rfl),(by rfl),(by rfl),(by rfl),(by rfl),(by rfl),(by rfl),(by rfl)⟩ ?_;rintro _ st ⟨f,fr,i,rfl,rfl,hx,h3,h4,h5,h6,h9,m4,m5,m6⟩;have m5':=m5;have m6':=m6;simp only[PO.cells]at m5;simp only[vc]at m6;simp only[QWI,h6,h9,m6,eE,seval];by_cases hlt:i<v.list.length
     ·obtain⟨x,hi⟩:∃x,v.list[i]? = some x:=⟨v.list[i],QVO hlt⟩;have hg:=Wy hi;have e1:=Qm i _ hlt (by have:=hv.nl;simp only[maxLen];omega);have c2:=hel x (hv.list x (QV0 hi));rw[e0,Qw]at c2;simp only[Qt,PO.cells]at c2;simp only[Ql hlt,Qh,QXe,Qc,hg,QWk,QWu,h3,h4,h5,h6,h9,m4,m5,m6,eE,seval];refine Qb c2 rfl rfl rfl (.inl rfl) ?_;by_cases hy:QT m P o x=0
      ·rw[GA hlt ((UP hi).trans hy)]at hx;have d0:((0:Int) != 0)=false:=rfl;simp only[hy,d0,h9,e1,Qa,seval];exact⟨v.list.length-(i+1),by omega,_,_,i+1,rfl,rfl,hx,(by exact h3),(by exact h4),(by exact h5),(by exact h6),(by rfl),(by exact m4),(by exact m5'),(by exact m6')⟩
      ·rw[KH hlt (UP hi) hy]at hx;have d1:(QT m P o x != 0)=true:=by simp[hy]
       simp only[d1,hx,Qa,seval]
     ·rw[UL hlt]at hx;simp only[Qy hlt,hx,Qa,seval]
    ·simp only[Qa,seval]
   ·simp only[QXr,Qa,seval]
  ·have b4:(o.card==4)=false:=by simp[h4]
   rw[QV1 h4];simp only[b5,b4,eE,seval];refine Qb cv rfl rfl rfl (.inl rfl) ?_;simp only[Qa,seval]

end

def WT (g:PG)(sl:List (Int×V))(i:Nat):Int:=match sl[i]? with
 |none=>0
 |some x=>match Ze g x.1 with
  |none=>8
  |some o=>if (sl.take i).any (fun y=>y.1==x.1)=true then 9 else if (sl.take i).any (Jz g o)=true then 15 else 0

theorem LT {m:PG→V→Int}{P:PL}{g:PG}{sl:List (Int×V)}{i:Nat}{x:Int×V}(h:sl[i]? = some x) :
  (WT g sl i≠0→Jr m P g sl i=WT g sl i)∧(WT g sl i=0→∃o,Ze g x.1=some o∧Jr m P g sl i=Xd m P o x.2):=by
 unfold WT Jr;rw[h];dsimp only;cases ho:Ze g x.1 with
 |none=>exact⟨fun _=>rfl,fun h=>by simp at h⟩
 |some o=>
  dsimp only;cases(sl.take i).any (fun y=>y.1==x.1)
  ·cases(sl.take i).any (Jz g o)
   ·simp
   ·simp
  ·simp

theorem Zo {g:PG}{n:Int}{o:PO}(h:Ze g n=some o):o∈g.ops∧o.num=n:=by
 unfold Ze at h;exact⟨QXC h,by simpa using List.find?_some h⟩

theorem Wg (g:PG)(n:Int):Gq (fun o=>o.num==n) g.ops=.tup [Qt ((Ze g n).getD Gp),.bool (Ze g n).isSome]:=rfl

section
variable {M:Nat}{P:PL}(hP:P.ok M)(hM:M≤140737488351232){m:PG→V→Int}{lv:Int}(g:PG)(hg:g.ok M)(hu:∀o∈g.ops,UO P o)(sl:List (Int×V))(hn:sl.length≤maxLen)(i:Nat)(hi:i<sl.length)(hv:∀x∈sl,x.2.ok M)

def SrI (g:PG)(o:PO)(sl:List (Int×V))(i:Nat)(n:Int)(k:Nat)(st:St):Prop :=
 ∃f fr j,st=⟨f,[fr],[]⟩∧k=i-j∧j≤i∧(sl.take j).any (fun y=>y.1==n)=false∧f 1=.list (sl.map V.sav)∧f 2=.int .i64 (i:Nat)∧f 3=.ptr 0 3 0∧f 7=.ptr 0 7 0∧f 9=.bool ((sl.take j).any (Jz g o))∧f 10=.int .i64 (j:Nat)∧fr 3=.cells g.cells∧fr 7=.cells o.cells∧∀s∈[11],(fr s).isRow=false

include hg hn hi in
theorem v60:Qj Tryz.prog 60 [Qn g,.list (sl.map V.sav),.int .i64 (i:Nat)] (.int .i64 (WT g sl i)):=by
 obtain⟨x,hx⟩:∃x,sl[i]? = some x:=⟨sl[i],QVO hi⟩;have hxm:=QV0 hx;have hgi:=JA hx;have co:=fun n=>SZ g hg.len n
 simp only[Wg]at co;have co1:=co x.1;unfold WT;rw[hx];dsimp only;simp only[Qn,PG.cells]at co co1;refine k60.fn (by simp) ?_;simp only[Qn,PG.cells,Qh,QXe,Qc,hgi,QWk,QWu,eE,seval];refine Qb co1 rfl rfl rfl (.inl rfl) ?_;cases ho:Ze g x.1 with
 |none=>
  simp only[QXl,QWC,Gp,Qt,PO.cells,splice,QWV,QWa,QWn,QW1,QWQ,QV2,QWJ,QWY,QWZ,AV.leaf,eE,seval]
 |some o=>
  obtain⟨hom,hon⟩:=Zo ho;simp only[QWX,QXz,Qt,PO.cells,splice,QWV,QWa,QWn,QW1,QWQ,QV2,QWJ,QWY,QWZ,AV.leaf,eE,seval];refine Qd (SrI g o sl i x.1) _ ⟨_,_,0,rfl,rfl,QVV _,by simp,(by rfl),(by rfl),(by rfl),(by rfl),(by rfl),(by rfl),(by rfl),(by rfl),by simp<;>rfl⟩ ?_;rintro _ st ⟨f0,fr0,j,rfl,rfl,hji,hq,h10,h20,h30,h70,h90,h100,m30,m70,Z8⟩;refine QO (a:=_) [11] Z8 ?_;intro f fr hf hm hn11;have h1:f 1=.list (sl.map V.sav):=by rw[hf,h10]<;>rfl
  have h2:f 2=.int .i64 (i:Nat):=by rw[hf,h20]<;>rfl
  have h3:f 3=.ptr 0 3 0:=by rw[hf,h30]<;>rfl
  have h7:f 7=.ptr 0 7 0:=by rw[hf,h70]<;>rfl
  have h9:f 9=.bool ((sl.take j).any (Jz g o)):=by rw[hf,h90]<;>rfl
  have h10':f 10=.int .i64 (j:Nat):=by rw[hf,h100]<;>rfl
  have m3:fr 3=.cells g.cells:=by rw[hm 3 (by decide),m30]<;>rfl
  have m7:fr 7=.cells o.cells:=by rw[hm 7 (by decide),m70]<;>rfl
  have n11:=hn11 11 (by decide);clear hf hm hn11 h10 h20 h30 h70 h90 h100 m30 m70 Z8;have m3':=m3;have m7':=m7;simp only[PG.cells]at m3;simp only[PO.cells]at m7;simp only[h2,h10',Qa,seval];by_cases hlt:j<i
  ·obtain⟨y,hj⟩:∃y,sl[j]? = some y:=⟨sl[j]'(by omega),QVO (by omega)⟩;have hj':(sl.take i)[j]? = some y:=by rw[QWq,QWg hlt];exact hj
   have hgj:=JA hj;have e1:=Qm j i hlt (by omega);have co2:=co y.1;have ht:∀p:Int×V→Bool,(sl.take (j+1)).any p=((sl.take j).any p||p y):=fun p=>by
    rw[QXv,hj,List.any_append];simp
   have hun:Jz g o y=(o.union != -1&&(((Ze g y.1).getD Gp).union==o.union)):=rfl;simp only[Ql hlt,Qh,QXe,Qc,hgj,hgi,h1,h2,h10',eE,seval];cases a0:(y.1==x.1)
   ·simp only[Qh,QXe,Qc,hgj,h1,h3,h10',m3,eE,seval];refine Qb co2 rfl rfl rfl (.inl rfl) ?_;generalize (Ze g y.1).getD Gp=q at hun;generalize (Ze g y.1).isSome=qb;have fin:∀(f':Fr) (fr':Nat→Ob) (b:Bool),((sl.take j).any (Jz g o)||Jz g o y)=b→f' 1=.list (sl.map V.sav)→f' 2=.int .i64 (i:Nat)→f' 3=.ptr 0 3 0→f' 7=.ptr 0 7 0→f' 9=.bool b→f' 10=.int .i64 ((j+1:Nat):Int)→fr' 3=.cells g.cells→fr' 7=.cells o.cells→(∀s∈[11],(fr' s).isRow=false)→∃k,k<i-j∧SrI g o sl i x.1 k ⟨f',[fr'],[]⟩:=by
     intro f' fr' b hu b1 b2 b3 b7 b9 b10 c3 c7 c11;exact⟨i-(j+1),by omega,f',fr',j+1,rfl,rfl,by omega,by rw[ht,hq,a0];rfl,b1,b2,b3,b7,by rw[b9,ht,hu],b10,c3,c7,c11⟩
    cases ab:(sl.take j).any (Jz g o)
    ·rw[ab]at h9 fin;cases a1:(o.union != -1)
     ·rw[a1,QXh]at hun;simp only[Qt,PO.cells,a1,n11,h7,h9,h10',m7,e1,eE,seval];exact fin _ _ false (by rw[hun];rfl) (by exact h1) (by exact h2) (by exact h3) (by exact h7) (by rfl) (by rfl) (by exact m3') (by exact m7') (by simp<;>rfl)
     ·cases a2:(q.union==o.union)
      ·rw[a1,a2,QXo]at hun;simp only[Qt,PO.cells,a1,a2,n11,h7,h9,h10',m7,e1,eE,seval];exact fin _ _ false (by rw[hun];rfl) (by exact h1) (by exact h2) (by exact h3) (by exact h7) (by rfl) (by rfl) (by exact m3') (by exact m7') (by simp<;>rfl)
      ·rw[a1,a2,QXo]at hun;simp only[Qt,PO.cells,a1,a2,n11,h7,h9,h10',m7,e1,eE,seval];exact fin _ _ true (by rw[hun];rfl) (by exact h1) (by exact h2) (by exact h3) (by exact h7) (by rfl) (by rfl) (by exact m3') (by exact m7') (by simp<;>rfl)
    ·rw[ab]at h9 fin;simp only[Qt,PO.cells,n11,h9,h10',e1,eE,seval];exact fin _ _ true (by simp) (by exact h1) (by exact h2) (by exact h3) (by exact h7) (by rfl) (by rfl) (by exact m3') (by exact m7') (by simp<;>rfl)
   ·have hany:(sl.take i).any (fun y=>y.1==x.1)=true:=QXB.2 ⟨y,QV0 hj',a0⟩;simp only[hany,Qa,seval]
  ·have e:j=i:=by omega
   subst e;simp only[Qy hlt,hq,QV6,h9,Qa,seval];cases hb:(sl.take j).any (Jz g o)
   ·rw[hb]at h9;simp only[QV6,Qa,seval]
   ·rw[hb]at h9;simp only[Qa,seval]

end

def Fb (P:PL)(o:PO)(f:R):Bool:=o.kind==9&&o.card != 5&&f.wire==0&&decide ((f.bits:Int)≤2147483647) && !Ws P.enums o.target f.bits
def Cc (f:R):Bool:=decide (f.num<1)||decide (f.num > 65535)||decide (f.wire<0)||decide (f.wire > 6)
def Cd (f:R):Bool:=decide (f.wire≤2) && !(f.data==[])||decide (f.wire > 2) && !((f.bits:Int)==0)
def Ds (f:R):Bool:=f.wire==3&&decide ((f.data.length:Int) > 4096)||decide ((f.data.length:Int) > 65536)
theorem LU (P:PL)(g:PG)(f:R):KU P g f=if Cc f=true then 1 else if Cd f=true then 1 else if (!GC P g f)=true then 1 else if Ds f=true then 3 else 0:=rfl
def UT (P:PL)(g:PG)(f:R):Bool:=!Cc f && !Cd f&&GC P g f
theorem Ph (P:PL)(g:PG)(f:R):KU P g f=if (!UT P g f)=true then 1 else if Ds f=true then 3 else 0:=by
 rw[LU];unfold UT;cases Cc f<;>cases Cd f<;>cases GC P g f<;>simp

section
variable {M:Nat}{P:PL}(hP:P.ok M)

theorem Pi {o:PO}{x:PE}(w:R)(ho:0≤o.target∧o.target<(P.enums.length:Int))(hx:P.enums[o.target.toNat]? = some x)(hopn:x.opn=true):Fb P o w=false:=by
 unfold Fb;cases hb:decide ((w.bits:Int)≤2147483647)
 ·simp
 ·have:Ws P.enums o.target w.bits=true:=by
   unfold Ws;rw[QWg ⟨ho.1,ho.2,by have:=of_decide_eq_true hb;omega⟩,hx];simp[hopn]
  rw[this];simp

set_option maxHeartbeats 2000000 in
include hP in
theorem v63 (g:PG)(hg:g.ok M)(hu:∀o∈g.ops,UO P o)(w:R):Qj Tryz.prog 63 [P.av,Qn g,w.av] (.bool (UT P g w)):=by
 have e0:P.av=.agg [.list (P.progs.map Qn),.list (P.enums.map Qr)]:=rfl;have co:=SZ g hg.len w.num;rw[Wg]at co;simp only[Qn,PG.cells]at co;have nd:(w.data != [])=!(w.data==[]):=rfl;have nb:((w.bits:Int) != 0)=!((w.bits:Int)==0):=rfl;have hgt:decide (w.wire > 2)=!decide (w.wire≤2):=(by rw[QWH];simp only[QVS,QWL,QXE];omega);unfold UT Cc Cd;rw[hgt];refine k63.fn (by simp) ?_;simp only[e0,Qn,PG.cells,R.av,eE,seval];cases r1:decide (w.num<1)
 case true=>simp only[QXr,QXp,QXh,Qa,seval]
 cases r2:decide (w.num > 65535)
 case true=>simp only[r2,QXr,QXs,QXp,QXh,eE,seval]
 cases r3:decide (w.wire<0)
 case true=>simp only[r2,r3,QXr,QXs,QXp,QXh,eE,seval]
 cases r4:decide (w.wire > 6)
 case true=>simp only[r2,r3,r4,QXs,QXp,QXh,eE,seval]
 simp only[r2,r3,r4,QXs,QWU,QXo,eE,seval];cases s1:decide (w.wire≤2)<;>cases s2:((w.bits:Int)==0)<;>cases s3:(w.data==[])
 all_goals(simp only[hgt,s1,s2,s3,nb,QL,QWU,QXp,QXo,QW0,QXF,QXh,QXs,QXG,eE,seval])
 all_goals(
  refine Qb co rfl rfl rfl (.inl rfl) ?_;unfold GC;cases ho:Ze g w.num with
  |none=>
   simp only[QXl,QWC,Gp,Qt,PO.cells,splice,QWV,QWa,QWn,QW1,QWQ,QV2,QWJ,QWY,QWZ,AV.leaf,eE,seval]
  |some o=>
   have hom:=(Zo ho).1;have hu:=hu o hom;have ha:=QvL P hP o.target w.bits;rw[e0]at ha;simp only[QWX,QXz,Qt,PO.cells,splice,QWV,QWa,QWn,QW1,QWQ,QV2,QWJ,QWY,QWZ,AV.leaf,eE,seval];by_cases hk:o.kind=9
   ·have a1:(o.kind==9)=true:=by simp[hk]
    obtain⟨t0,t1⟩:=hu.enm hk;obtain⟨i,hi⟩:=QXq t0;have hlt:i<P.enums.length:=by omega
    obtain⟨x,hx⟩:∃x,P.enums[i]? = some x:=⟨P.enums[i],QVO hlt⟩;have hxa:(P.enums.map Qr)[i]? = some (.agg x.cells):=by simp[hx,Qr]
    simp only[PE.cells]at hxa;have hop:x.opn=true→Fb P o w=false:=fun h=>Pi w ⟨t0,t1⟩ (by rw[hi,QXe];exact hx) h
    unfold Fb at hop;rw[hi]at ha hop;rw[hi];rw[a1,QXo]at hop;simp only[a1,Qh,QXe,Qc,hxa,QXo,eE,seval];cases ax:x.opn
    ·cases a2:(o.card != 5)
     ·simp only[a2,QWU,QXh,eE,seval]
     cases a3:(w.wire==0)
     ·simp only[a2,a3,QWU,QXo,QXh,eE,seval]
     cases a4:decide ((w.bits:Int)≤2147483647)
     ·simp only[a2,a3,a4,QWU,QXo,QXh,eE,seval]
     simp only[a2,a3,a4,QWU,QXo,eE,seval];refine Qb ha rfl rfl rfl (.inl rfl) ?_;simp only[Qa,seval]
    ·simp only[hop ax,QXp,Qa,seval]
   ·have a1:(o.kind==9)=false:=by simp[hk]
    simp only[a1,QXh,Qa,seval])

def SeI (v:V)(n:Int)(k:Nat)(st:St):Prop :=
 ∃f fr i,st=⟨f,[fr],[]⟩∧k=v.slots.length-i∧i≤v.slots.length∧(v.slots.take i).any (fun y=>y.1==n)=false∧f 1=.int .i64 n∧f 2=.ptr 0 2 0∧f 5=.int .i64 (i:Nat)∧fr 2=.cells (vc v)

theorem v62 (v:V)(hn:v.slots.length≤maxLen)(n:Int):Qj Tryz.prog 62 [v.av,.int .i64 n] (.bool (v.slots.any fun y=>y.1==n)):=by
 rw[Qw];refine k62.fn (by simp) ?_;simp only[eE,seval];refine Qd (SeI v n) _ ⟨_,_,0,rfl,rfl,QVV _,by simp,(by rfl),(by rfl),(by rfl),(by rfl)⟩ ?_;rintro _ st ⟨f,fr,i,rfl,rfl,hil,hq,h1,h2,h5,m2⟩;have m2':=m2;simp only[vc]at m2;simp only[QWI,h2,h5,m2,eE,seval];by_cases hlt:i<v.slots.length
 ·obtain⟨y,hi⟩:∃y,v.slots[i]? = some y:=⟨v.slots[i],QVO hlt⟩;have hg:=JA hi;have e1:=Qm i _ hlt hn;have ht:(v.slots.take (i+1)).any (fun y=>y.1==n)=(y.1==n):=by
   rw[QXv,hi,List.any_append,hq];simp
  simp only[Ql hlt,Qh,QXe,Qc,hg,h1,h2,h5,m2,eE,seval];cases a:(y.1==n)
  ·simp only[h5,e1,Qa,seval];exact⟨v.slots.length-(i+1),by omega,_,_,i+1,rfl,rfl,by omega,by rw[ht,a],(by exact h1),(by exact h2),(by rfl),(by exact m2')⟩
  ·have hany:(v.slots.any fun y=>y.1==n)=true:=QXB.2 ⟨y,QV0 hi,a⟩;simp only[hany,Qa,seval]
 ·have hq':(v.slots.any fun y=>y.1==n)=false:=by rw[←hq,QWl (by omega)]
  simp only[Qy hlt,hq',Qa,seval]

end

def HC (sl:List (Int×V))(o:PO):Bool:=o.card==1 && !sl.any fun y=>y.1==o.num
theorem N5 (g:PG)(sl:List (Int×V)):YC g sl=g.ops.any (HC sl):=rfl

theorem Us {l:List R}{i:Nat}{x:R}(h:l[i]? = some x):(l.map R.av)[i]? = some (.agg [.int .i64 x.num,.int .i64 x.wire,.int .u64 (x.bits:Nat),.str x.data]):=by
 rw[QXa,h,QWD,R.av]
theorem QQo {l:List PO}{i:Nat}{o:PO}(h:l[i]? = some o):(l.map fun o=>AV.agg o.cells)[i]? = some (.agg [.int .i64 o.num,.str o.name,.str o.alias,.int .i64 o.card,.int .i64 o.key,.int .i64 o.kind,.int .i64 o.target,.int .i64 o.union]):=by
 rw[QXa,h,QWD,PO.cells]

section
variable {M:Nat}{P:PL}(hP:P.ok M){m:PG→V→Int}{lv:Int}(g:PG)(hg:g.ok M)(v:V)(hv:v.ok M)

end
open So

theorem Ye {f:Nat→Int}:∀ {k i:Nat},(∀j,i≤j→j<i+k→f j=0)→XN f k i=0
 |0,_,_=>rfl
 |k+1,i,h=>by
  rw[XN,QWg (h i (QVL _) (by omega))];exact Ye fun j h1 h2=>h j (by omega) (by omega)

theorem JW {α:Type}{l:List α}{p:α→Bool}{i:Nat}(hi:i≤l.length):(l.take i).any p=false↔∀j (h:j<i),p (l[j]'(by omega))=false:=by
 rw[List.any_eq_false]
 constructor
 ·intro h j hj;have:=h (l[j]'(by omega)) (QV0 (i:=j) (by rw[QWq,QWg hj,QVO (by omega)]))
  simpa using this
 ·intro h x hx;obtain⟨j,hj⟩:=QVY.1 hx;have hl:=(QVN.1 hj).1;rw[QWK]at hl;rw[QWq,QWg (by omega)]at hj;obtain⟨hj1,rfl⟩:=QVN.1 hj;have:=h j (by omega);simp[this]

section
variable {m:PG→V→Int}{P:PL}

def SOK (m:PG→V→Int)(P:PL)(g:PG)(sl:List (Int×V)):Prop :=
 (∀x∈sl,∃o,Ze g x.1=some o∧Xd m P o x.2=0)∧sl.Pairwise (fun y x=>(y.1==x.1)=false)∧sl.Pairwise (fun y x=>∀o,Ze g x.1=some o→Jz g o y=false)

theorem LV {g:PG}{sl:List (Int×V)}:XN (Jr m P g sl) sl.length 0=0↔SOK m P g sl:=by
 have key:∀i (hi:i<sl.length),Jr m P g sl i=0↔∃o,Ze g sl[i].1=some o∧(sl.take i).any (fun y=>y.1==sl[i].1)=false∧(sl.take i).any (Jz g o)=false∧Xd m P o sl[i].2=0:=by
  intro i hi;unfold Jr;rw[QVO hi];dsimp only;cases Ze g sl[i].1 with
  |none=>simp
  |some o=>
   simp only[QWc,exists_eq_left'];cases(sl.take i).any (fun y=>y.1==sl[i].1)<;>cases(sl.take i).any (Jz g o)<;>simp only[QV6,QXI,if_true,if_false,QWE,false_and,iff_false]<;>omega
 constructor
 ·intro h;have hz:∀i (hi:i<sl.length),_:=fun i hi=>(key i hi).1 (Wt h i (QVV _) (by omega))
  refine⟨fun x hx=>?_,?_,?_⟩
  ·obtain⟨i,hi,rfl⟩:=QXO hx;obtain⟨o,h1,_,_,h4⟩:=hz i hi;exact⟨o,h1,h4⟩
  ·rw[QXK];intro i j hi hj hij;obtain⟨o,_,h2,_,_⟩:=hz j hj;exact(JW (by omega)).1 h2 i hij
  ·rw[QXK];intro i j hi hj hij o ho;obtain⟨o',h1,_,h3,_⟩:=hz j hj;rw[h1]at ho;cases ho;exact(JW (by omega)).1 h3 i hij
 ·rintro⟨h1,h2,h3⟩;refine Ye fun i _ hi=>?_
  rw[QWt]at hi;obtain⟨o,ho,hf⟩:=h1 sl[i] (QWF hi);rw[QXK]at h2 h3;exact(key i hi).2 ⟨o,ho,(JW (by omega)).2 fun j hj=>h2 j i (by omega) hi hj,(JW (by omega)).2 fun j hj=>h3 j i (by omega) hi hj o ho,hf⟩

def EOK (m:PG→V→Int)(P:PL)(o:PO)(ps:List (V×V)):Prop :=
 (∀x∈ps,x.1.one P o.key (-1)=0∧QT m P o x.2=0)∧ps.Pairwise fun q p=>ZH q.1 p.1=false

theorem Wh {o:PO}{ps:List (V×V)}:XN (YB m P o ps) ps.length 0=0↔EOK m P o ps:=by
 have key:∀i (hi:i<ps.length),YB m P o ps i=0↔(ps[i].1.one P o.key (-1)=0∧(ps.take i).any (fun q=>ZH q.1 ps[i].1)=false∧QT m P o ps[i].2=0):=by
  intro i hi;rw[UN (QVO hi)];by_cases hz:ps[i].1.one P o.key (-1)=0
  ·rw[QWg hz];cases(ps.take i).any (fun q=>ZH q.1 ps[i].1)<;>simp[hz]
  ·rw[QV1 hz];simp[hz]
 constructor
 ·intro h;have hz:∀i (hi:i<ps.length),_:=fun i hi=>(key i hi).1 (Wt h i (QVV _) (by omega))
  refine⟨fun x hx=>?_,?_⟩
  ·obtain⟨i,hi,rfl⟩:=QXO hx;exact⟨(hz i hi).1,(hz i hi).2.2⟩
  ·rw[QXK];intro i j hi hj hij;exact(JW (by omega)).1 (hz j hj).2.1 i hij
 ·rintro⟨h1,h2⟩;refine Ye fun i _ hi=>?_
  rw[QWt]at hi;rw[QXK]at h2;exact(key i hi).2 ⟨(h1 _ (QWF hi)).1,(JW (by omega)).2 fun j hj=>h2 j i (by omega) hi hj,(h1 _ (QWF hi)).2⟩

theorem KA {o:PO}{l:List V}:XN (Dn m P o l) l.length 0=0↔∀x∈l,QT m P o x=0:=by
 constructor
 ·intro h x hx;obtain⟨i,hi,rfl⟩:=QXO hx;have:=Wt h i (QVV _) (by omega)
  rwa [UP (QVO hi)]at this
 ·intro h;refine Ye fun i _ hi=>?_
  rw[QWt]at hi;rw[UP (QVO hi)];exact h _ (QWF hi)
theorem LW {g:PG}{l:List R}:XN (Js P g l) l.length 0=0↔∀x∈l,KU P g x=0:=by
 constructor
 ·intro h x hx;obtain⟨i,hi,rfl⟩:=QXO hx;have:=Wt h i (QVV _) (by omega)
  rwa [Hz (QVO hi)]at this
 ·intro h;refine Ye fun i _ hi=>?_
  rw[QWt]at hi;rw[Hz (QVO hi)];exact h _ (QWF hi)

theorem Wz {g:PG}{v:V}:UM m P g v=0↔SOK m P g v.slots∧YC g v.slots=false∧∀x∈v.raws,KU P g x=0:=by
 unfold UM;rw[←LV,←LW];split
 ·rename_i h;cases YC g v.slots<;>simp[h]
 ·rename_i h;simp[h]
end

theorem JX {P:PL}{n:Nat}{g:PG}{v:V}:XK P (n+1) g v=0↔(v.kd=10∧v.oth=false)∧SOK (XK P n) P g v.slots∧YC g v.slots=false∧∀x∈v.raws,KU P g x=0:=by
 rw[←Wz];unfold XK;by_cases h:v.kd=10
 ·cases ho:v.oth<;>simp[h]
 ·simp[h]

theorem Bw {v:V}(h:v.kd≠6):v.nsc=v:=by
 cases v;unfold V.nsc XD;rw[QV1 fun g=>h g.1];rfl
theorem QGB {P:PL}{tg:Int}{t:List UInt8}{l p s r:List AV}(b b':Nat):Ul P 6 tg 6 b t l p s r=Ul P 6 tg 6 b' t l p s r:=by
 have k1:(X9 6||(6:Int)==10||(6:Int)==11||(6:Int)==12)=false:=by decide
 have k2:((6:Int)==9)=false:=rfl;have t6:X9 6=false:=rfl;have f6:∀b,Yx 6 b=true:=fun b=>by
  unfold Yx;rw[QV1 (by decide),QV1 (by decide),QV1 (by decide),QV1 (by decide)]
 have h1:oth 6 b t l p s r=oth 6 b' t l p s r:=by
  unfold oth;rw[k1,QXF,QXF]
 have h2:Xx 6 6 b t l p s r=Xx 6 6 b' t l p s r:=by
  unfold Xx;rw[f6,f6,QV1 (by rw[t6];exact Bool.false_ne_true),QV1 (by rw[t6];exact Bool.false_ne_true)]
 unfold Ul;rw[h1,h2,k2,QXh,QXh]
theorem N6 {P:PL}{k tg:Int}{v:V}(h:v.one P k tg=0):v.nsc.one P k tg=0:=by
 by_cases hk:v.kd=6
 ·have e:=(Um h).1;rw[←h];unfold V.one;have e1:v.nsc.kd=6:=hk;rw[e1,hk,show k=6 by omega];exact QGB _ _
 ·rw[Bw hk];exact h

theorem Zg {g:PG}(hd:g.ops.Pairwise fun a b=>a.num<b.num){o:PO}(ho:o∈g.ops):Ze g o.num=some o:=by
 unfold Ze
 revert hd ho
 generalize g.ops=ops;intro hd ho
 induction ops with
 |nil=>cases ho
 |cons x l ih=>
  obtain⟨h1,h2⟩:=QXk.1 hd;rw[List.find?_cons];rcases QW9.1 ho with rfl|ho
  ·simp
  ·have:=h1 o ho;rw[show(x.num==o.num)=false by simp;omega];exact ih h2 ho

section
variable {m:PG→V→Int}{nm:PG→V→V}{P:PL}

theorem HD (h:∀g∈P.progs,∀v,m g v=0→m g (nm g v)=0){o:PO}(ho:UO P o){v:V}(hv:QT m P o v=0):QT m P o (Zx nm P o v)=0:=by
 unfold QT Zx at *;by_cases hk:o.kind=10
 ·rw[QWg hk]at hv;rw[QWg hk,QWg hk];obtain⟨t0,t1⟩:=ho.tgt hk;refine h _ ?_ _ hv;unfold QW;rw[QVO (by omega:o.target.toNat<P.progs.length)];exact QWF _
 ·rw[QV1 hk]at hv;rw[QV1 hk,QV1 hk];exact N6 hv

theorem Pj {o:PO}(ho:o.card=5→X5 o.key)(h5:o.card=5){ps:List (V×V)}(h:EOK m P o ps):∀p∈ps,p.1.nsc=p.1:=by
 intro p hp;have e:=(Um (h.1 p hp).1).1;refine Bw ?_;have:=ho h5;unfold X5 at this;omega

theorem RD (h:∀g∈P.progs,∀v,m g v=0→m g (nm g v)=0){o:PO}(ho:UO P o){v:V}(hv:Xd m P o v=0):Xd m P o (ZN nm P o v)=0:=by
 unfold Xd ZN at *;by_cases h5:o.card=5
 ·have n4:¬o.card=4:=by omega
  rw[QWg h5]at hv;rw[QWg h5,QV1 n4,QWg h5];split at hv
  ·omega
  have hE:=Wh.1 hv;have hk:=Pj ho.key h5 hE;rw[QV1 (by simp[V.kd,V.oth,oth,V.bits,V.text,V.list,V.pairs,V.slots,V.raws,X9])];refine Wh.2 ?_;have hp:(Xe o.key v.pairs).Perm v.pairs:=Xa _;have hm:∀p∈Xe o.key v.pairs,p∈v.pairs:=fun p h=>hp.mem_iff.1 h
  refine⟨fun x hx=>?_,?_⟩
  ·obtain⟨p,hp,rfl⟩:=QW7.1 hx;have h1:=hE.1 p (hm p hp);exact⟨N6 h1.1,HD h ho h1.2⟩
  ·show(List.map _ (Xe o.key v.pairs)).Pairwise _;rw[List.pairwise_map];have h2:(Xe o.key v.pairs).Pairwise fun q p=>ZH q.1 p.1=false:=(hp.pairwise_iff fun {a b} h=>by unfold ZH at *;rw[←h,Bool.beq_comm (a:=b.1.bits),Bool.beq_comm (a:=b.1.text)]).2 hE.2
   refine h2.imp_of_mem fun {a b} ha hb h=>?_
   dsimp only;rw[hk a (hm a ha),hk b (hm b hb)];exact h
 ·rw[QV1 h5]at hv;rw[QV1 h5];by_cases h4:o.card=4
  ·rw[QWg h4]at hv;rw[QWg h4,QWg h4];split at hv
   ·omega
   have hL:=KA.1 hv;rw[QV1 (by simp[V.kd,V.oth,oth,V.bits,V.text,V.list,V.pairs,V.slots,V.raws,X9])];refine KA.2 fun x hx=>?_
   obtain⟨y,hy,rfl⟩:=QW7.1 hx;exact HD h ho (hL y hy)
  ·rw[QV1 h4]at hv;rw[QV1 h4,QV1 h4,QV1 h5];exact HD h ho hv

theorem ZO {sl:List (Int×V)}{o:PO}{x:Int×V}(h:x∈Xv nm P sl o):x.1=o.num∧∃s∈sl,s.1=o.num∧x.2=ZN nm P o s.2:=by
 unfold Xv at h;cases hf:sl.find? (fun s=>s.1==o.num)with
 |none=>rw[hf]at h;cases h
 |some s=>
  rw[hf]at h;dsimp only at h;have h1:s.1=o.num:=by simpa using List.find?_some hf
  split at h
  ·simp only[QW9,QXP,or_false]at h;subst h;exact⟨rfl,s,QXC hf,h1,rfl⟩
  ·cases h

theorem HE {sl:List (Int×V)}{o:PO}{p:Int×V→Int×V→Prop}:(Xv nm P sl o).Pairwise p:=by
 unfold Xv;split
 ·exact .nil
 ·split
  ·exact List.pairwise_singleton _ _
  ·exact .nil

theorem Pk (h:∀g∈P.progs,∀v,m g v=0→m g (nm g v)=0){g:PG}(hd:g.ops.Pairwise fun a b=>a.num<b.num)(hu:∀o∈g.ops,UO P o){v:V}(hv:UM m P g v=0):UM m P g (HB nm P g v)=0:=by
 obtain⟨⟨s1,s2,s3⟩,hmis,hraw⟩:=Wz.1 hv;have uniq:∀ {a b:Int×V},a∈v.slots→b∈v.slots→a.1=b.1→a=b:=by
  intro a b ha hb e;obtain⟨i,hi,rfl⟩:=QXO ha;obtain⟨j,hj,rfl⟩:=QXO hb;rw[QXK]at s2;rcases Nat.lt_trichotomy i j with c|c|c
  ·have:=s2 i j hi hj c;rw[e]at this;simp at this
  ·subst c;rfl
  ·have:=s2 j i hj hi c;rw[e]at this;simp at this
 refine Wz.2 ⟨⟨fun x hx=>?_,?_,?_⟩,?_,fun x hx=>?_⟩
 ·obtain⟨o,ho,hx⟩:=QWy.1 hx;obtain⟨e,s,hs,e1,e2⟩:=ZO hx;obtain⟨o',h1,h2⟩:=s1 s hs;rw[e1,Zg hd ho]at h1;cases h1;exact⟨o,by rw[e];exact Zg hd ho,by rw[e2];exact RD h (hu o ho) h2⟩
 ·show(g.ops.flatMap (Xv nm P v.slots)).Pairwise _;rw[List.pairwise_flatMap];refine⟨fun _ _=>HE,hd.imp fun {a b} hab x hx y hy=>?_⟩;have e1:=(ZO hx).1;have e2:=(ZO hy).1;simp;omega
 ·show(g.ops.flatMap (Xv nm P v.slots)).Pairwise _;rw[List.pairwise_flatMap];refine⟨fun _ _=>HE,(hd.imp_of_mem fun {a b} ha hb hab x hx y hy o ho=>?_)⟩;obtain⟨e1,s,hs,es,_⟩:=ZO hx;obtain⟨e2,t,ht,et,_⟩:=ZO hy;rw[e2,Zg hd hb]at ho;cases ho;have hst:s≠t:=fun e=>by rw[e,et]at es;omega
  obtain⟨i,hi,rfl⟩:=QXO hs;obtain⟨j,hj,rfl⟩:=QXO ht;rw[QXK]at s3;have hx1:Ze g x.1=some a:=by rw[e1];exact Zg hd ha
  unfold Jz;rw[hx1];rcases Nat.lt_trichotomy i j with c|c|c
  ·have:=s3 i j hi hj c b (by rw[et];exact Zg hd hb);unfold Jz at this;rw[es,Zg hd ha]at this;exact this
  ·subst c;exact absurd rfl hst
  ·have:=s3 j i hj hi c a (by rw[es];exact Zg hd ha);unfold Jz at this;rw[et,Zg hd hb]at this;simp only[QWX,Bool.and_eq_false_iff,bne_eq_false_iff_eq,QXt]at this ⊢;rcases this with e|e
   ·by_cases c:b.union = -1
    ·exact .inl c
    ·exact .inr fun g=>c (by omega)
   ·exact .inr fun g=>e g.symm
 ·have hm:=hmis;rw[N5,List.any_eq_false]at hm ⊢;intro o ho;have:=hm o ho;unfold HC at this ⊢;by_cases hc:o.card=1
  ·have hb:(o.card==1)=true:=by simp[hc]
   rw[hb,QXo,Bool.not_eq_true,Bool.not_eq_false']at this;rw[hb,QXo,Bool.not_eq_true,Bool.not_eq_false'];obtain⟨s,hs,e⟩:=QXB.1 this;obtain⟨t,ht⟩:∃t,v.slots.find? (fun s=>s.1==o.num)=some t:=by
    cases hf:v.slots.find? (fun s=>s.1==o.num)with
    |none=>exact absurd e (by simpa using List.find?_eq_none.1 hf s hs)
    |some t=>exact⟨t,rfl⟩
   refine QXB.2 ⟨(o.num,ZN nm P o t.2),QWy.2 ⟨o,ho,?_⟩,by simp⟩;unfold Xv;rw[ht];dsimp only;rw[QWg (by simp[hc])];simp
  ·have hb:(o.card==1)=false:=by simp[hc]
   rw[hb,QXh];simp
 ·exact hraw x ((Xa v.raws).mem_iff.1 hx)

end

theorem WA {P:PL}(hU:Yd P)(hr:Ke P):∀(n:Nat) (g:PG),g∈P.progs→∀v:V,XK P n g v=0→XK P n g (Xb P n g v)=0
 |0,_,_,v,h=>by
  unfold XK at h;split at h<;>omega
 |n+1,g,hg,v,h=>by
  have hb:=Wz.2 (JX.1 h).2;refine JX.2 ⟨⟨rfl,?_⟩,Wz.1 (Pk (fun g hg v h=>WA hU hr n g hg v h) (hr g hg) (hU g hg) hb)⟩;simp[V.oth,oth,Xb,HB,V.kd,V.bits,V.text,V.list,V.pairs,V.slots,V.raws,X9]

section
variable {m:PG→V→Int}{nm:PG→V→V}{P:PL}

end

def JM (l:List (Int×V)):List (Int×V):=QE (fun x y=>decide (x.1<y.1)) l
theorem QQp:SW fun x y:Int×V=>decide (x.1<y.1) where
 irr x:=by simp
 tr x y z h k:=by simp only[QVS]at *;omega
 nt x y z h k:=by simp only[QXE]at *;omega

theorem Pl:∀ {a b:List (Int×V)},(a.Pairwise fun x y=>x.1<y.1)→(b.Pairwise fun x y=>x.1<y.1)→(∀x,x∈a↔x∈b)→a=b
 | [],[],_,_,_=>rfl
 | [],y :: b,_,_,h=>by have:=(h y).2 (by simp);cases this
 |x :: a,[],_,_,h=>by have:=(h x).1 (by simp);cases this
 |x :: a,y :: b,ha,hb,h=>by
  obtain⟨a1,a2⟩:=QXk.1 ha;obtain⟨b1,b2⟩:=QXk.1 hb;have e:x=y:=by
   rcases QW9.1 ((h x).1 (by simp))with e|e
   ·exact e
   ·rcases QW9.1 ((h y).2 (by simp))with e'|e'
    ·exact e'.symm
    ·have:=b1 x e;have:=a1 y e';omega
  subst e;congr 1
  refine Pl a2 b2 fun z=>?_
  have hz:=h z;simp only[QW9]at hz
  constructor
  ·intro hm;rcases hz.1 (.inr hm)with e|e
   ·subst e;have:=a1 z hm;omega
   ·exact e
  ·intro hm;rcases hz.2 (.inr hm)with e|e
   ·subst e;have:=b1 z hm;omega
   ·exact e

section
variable {m:PG→V→Int}(nm:PG→V→V)(P:PL)

def Zz (o:PO)(s:Int×V):List (Int×V):=if (decide (o.card<3) || !(ZN nm P o s.2).emp)=true then [(o.num,ZN nm P o s.2)]else []
def Z7 (g:PG)(s:Int×V):List (Int×V):=match Ze g s.1 with
 |none=>[]
 |some o=>Zz nm P o s

theorem Pm {o:PO}{s x:Int×V}:x∈Zz nm P o s↔(decide (o.card<3) || !(ZN nm P o s.2).emp)=true∧x=(o.num,ZN nm P o s.2):=by
 unfold Zz;split
 ·rename_i h;simp[h]
 ·rename_i h;simp[h]

theorem Pn {sl:List (Int×V)}(hu:sl.Pairwise fun y x=>(y.1==x.1)=false){s:Int×V}(hs:s∈sl):sl.find? (fun t=>t.1==s.1)=some s:=by
 induction sl with
 |nil=>cases hs
 |cons x l ih=>
  obtain⟨h1,h2⟩:=QXk.1 hu;rw[List.find?_cons];rcases QW9.1 hs with rfl|hs
  ·simp
  ·rw[h1 s hs];exact ih h2 hs

theorem Wa {sl:List (Int×V)}{o:PO}:Xv nm P sl o=match sl.find? (fun s=>s.1==o.num)with
  |none=>[]
  |some s=>Zz nm P o s:=rfl

theorem RE {g:PG}(hd:g.ops.Pairwise fun a b=>a.num<b.num){sl:List (Int×V)}(hu:sl.Pairwise fun y x=>(y.1==x.1)=false):(JM sl).flatMap (Z7 nm P g)=g.ops.flatMap (Xv nm P sl):=by
 have hp:(JM sl).Perm sl:=Xa _;have hsu:(JM sl).Pairwise fun y x=>(y.1==x.1)=false:=(hp.pairwise_iff fun {a b} h=>by rw[Bool.beq_comm];exact h).2 hu
 have hss:Zf (fun x y:Int×V=>decide (x.1<y.1)) (JM sl):=Zr QQp _;have hst:(JM sl).Pairwise fun x y=>x.1<y.1:=by
  unfold Zf at hss;rw[QXK]at *;intro i j hi hj hij;have h1:=hss i j hi hj hij;have h2:=hsu i j hi hj hij;simp only[QXE,QXt]at h1 h2;omega
 have kpw:∀s,(Z7 nm P g s).Pairwise fun x y:Int×V=>x.1<y.1:=fun s=>by
  unfold Z7;split
  ·exact .nil
  ·unfold Zz;split
   ·exact List.pairwise_singleton _ _
   ·exact .nil
 have knum:∀ {s x:Int×V},x∈Z7 nm P g s→x.1=s.1:=fun {s x} h=>by
  unfold Z7 at h;cases ho:Ze g s.1 with
  |none=>rw[ho]at h;cases h
  |some o=>
   rw[ho]at h;rw[((Pm nm P).1 h).2];exact(Zo ho).2
 refine Pl ?_ ?_ fun x=>?_
 ·rw[List.pairwise_flatMap];refine⟨fun s _=>kpw s,hst.imp fun {a b} hab x hx y hy=>?_⟩;rw[knum hx,knum hy];exact hab
 ·rw[List.pairwise_flatMap];refine⟨fun _ _=>HE,hd.imp fun {a b} hab x hx y hy=>?_⟩;rw[(ZO hx).1,(ZO hy).1];exact hab
 ·rw[QWy,QWy]
  constructor
  ·rintro⟨s,hs,h⟩;unfold Z7 at h;cases ho:Ze g s.1 with
   |none=>rw[ho]at h;cases h
   |some o=>
    rw[ho]at h;obtain⟨hom,hon⟩:=Zo ho;refine⟨o,hom,?_⟩;rw[Wa,hon,Pn hu (hp.mem_iff.1 hs)];exact h
  ·rintro⟨o,ho,h⟩;rw[Wa]at h;cases hf:sl.find? (fun s=>s.1==o.num)with
   |none=>rw[hf]at h;cases h
   |some s=>
    rw[hf]at h;have hs:s.1=o.num:=by simpa using List.find?_some hf
    refine⟨s,hp.mem_iff.2 (QXC hf),?_⟩;unfold Z7;rw[hs,Zg hd ho];exact h

def S2 (o:PO)(sl:List (Int×V)):List (Int×V):=sl.flatMap fun s=>if (s.1==o.num)=true then Zz nm P o s else []
theorem Bx {o:PO}{sl:List (Int×V)}(hu:sl.Pairwise fun y x=>(y.1==x.1)=false):S2 nm P o sl=Xv nm P sl o:=by
 rw[Wa];unfold S2
 induction sl with
 |nil=>rfl
 |cons x l ih=>
  obtain⟨h1,h2⟩:=QXk.1 hu;rw[QXg,List.find?_cons];cases hx:(x.1==o.num)
  ·rw[QV1 (by simp),QWa];exact ih h2
  ·rw[QWg rfl];have e:x.1=o.num:=by simpa using hx
   have:l.flatMap (fun s=>if (s.1==o.num)=true then Zz nm P o s else [])=[]:=by
    rw[List.flatMap_eq_nil_iff];intro s hs;have:=h1 s hs;rw[e]at this;rw[QV1 (by rw[Bool.beq_comm];simp[this])]
   rw[this,QWQ]

end
end Go.Proofs.YtipjfckmopekaaaGreatDoor.Va

namespace Go.Proofs.YtipjfckmopekaaaGreatDoor.Va
open Go Am Rc Bt Br Up

theorem Bz (a b:Int):IntKind.i64.wrap (IntKind.i64.wrap a+IntKind.i64.wrap b)=IntKind.i64.wrap (a+b):=by
 simp only[QG];omega
section
variable {M:Nat}

def C1I (v:V)(k:Nat)(st:St):Prop :=
 ∃f fr i,st=⟨f,[fr],[]⟩∧k=v.list.length-i∧i≤v.list.length∧f 1=.ptr 0 1 0∧f 3=.int .i64 (IntKind.i64.wrap ((1+v.raws.length+XO (v.list.take i):Nat):Int))∧f 4=.int .i64 (i:Nat)∧fr 1=.cells (vc v)
def C2I (v:V)(k:Nat)(st:St):Prop :=
 ∃f fr i,st=⟨f,[fr],[]⟩∧k=v.pairs.length-i∧i≤v.pairs.length∧f 1=.ptr 0 1 0∧f 3=.int .i64 (IntKind.i64.wrap ((1+v.raws.length+XO v.list+Xs (v.pairs.take i):Nat):Int))∧f 5=.int .i64 (i:Nat)∧fr 1=.cells (vc v)
def C3I (v:V)(k:Nat)(st:St):Prop :=
 ∃f fr i,st=⟨f,[fr],[]⟩∧k=v.slots.length-i∧i≤v.slots.length∧f 1=.ptr 0 1 0∧f 3=.int .i64 (IntKind.i64.wrap ((1+v.raws.length+XO v.list+Xs v.pairs+Xf (v.slots.take i):Nat):Int))∧f 6=.int .i64 (i:Nat)∧fr 1=.cells (vc v)

theorem v32 (v:V)(hv:v.ok M):Qj Tryz.prog 32 [v.av] (.int .i64 (IntKind.i64.wrap (v.cnt:Int))):=by
 revert hv
 refine V.ind (P:=fun v=>v.ok M→Qj Tryz.prog 32 [v.av] (.int .i64 (IntKind.i64.wrap (v.cnt:Int)))) ?_ v;clear v;intro v hl hp hs hv;have n1:=hv.nl;have n2:=hv.np;have n3:=hv.ns;rw[Qw];refine k32.fn (by simp) ?_;simp only[QWI,eE,seval];refine Qd (C1I v) _ ⟨_,_,0,rfl,rfl,QVV _,(by rfl),(by simp only[QWV,XO,QWi,Int.natCast_add,Int.natCast_one,Qa,seval]),(by rfl),(by rfl)⟩ ?_;rintro _ st ⟨f,fr,i,rfl,rfl,hil,h1,h3,h4,m1⟩;have m1':=m1;simp only[vc]at m1;simp only[QWI,h1,h4,m1,eE,seval];by_cases hlt:i<v.list.length
 ·obtain⟨x,hi⟩:∃x,v.list[i]? = some x:=⟨v.list[i],QVO hlt⟩;have hg:=Wy hi;have e1:=Qm i _ hlt (by simp only[maxLen];omega);have c1:=hl x (QV0 hi) (hv.list x (QV0 hi));rw[Qw]at c1;simp only[Ql hlt,Qh,QXe,Qc,hg,h1,h3,h4,m1,eE,seval];refine Qb c1 rfl rfl rfl (.inl rfl) ?_;simp only[h4,e1,Bz,Qa,seval];exact⟨v.list.length-(i+1),by omega,_,_,i+1,rfl,rfl,by omega,(by exact h1),(by rw[DV hi];simp only[h3,←Int.natCast_add,QVK,Qa,seval]),(by rfl),(by exact m1')⟩
 have e:i=v.list.length:=by omega
 subst e;rw[QXm]at h3;simp only[Qy hlt,Qa,seval];refine Qd (C2I v) _ ⟨_,_,0,rfl,rfl,QVV _,(by exact h1),(by simp only[QWV,Xs,QWi,h3,Qa,seval]),(by rfl),(by exact m1')⟩ ?_;clear h1 h3 h4 m1 m1' hlt hil;rintro _ st ⟨f,fr,i,rfl,rfl,hil,h1,h3,h5,m1⟩;have m1':=m1;simp only[vc]at m1;simp only[QWI,h1,h5,m1,eE,seval];by_cases hlt:i<v.pairs.length
 ·obtain⟨x,hi⟩:∃x,v.pairs[i]? = some x:=⟨v.pairs[i],QVO hlt⟩;have hg:=Z0 hi;have e1:=Qm i _ hlt (by simp only[maxLen];omega);have hm:=QV0 hi;have c1:=(hp x hm).1 (hv.keys x hm);have c2:=(hp x hm).2 (hv.vals x hm);rw[Qw]at c1 c2;simp only[Ql hlt,Qh,QXe,Qc,hg,QWk,QWV,QWu,h1,h3,h5,m1,eE,seval];refine Qb c1 rfl rfl rfl (.inl rfl) ?_;simp only[Qh,QXe,Qc,hg,QWk,QWn,QWu,h1,h5,m1,eE,seval];refine Qb c2 rfl rfl rfl (.inl rfl) ?_;simp only[h5,e1,Bz,Qa,seval];exact⟨v.pairs.length-(i+1),by omega,_,_,i+1,rfl,rfl,by omega,(by exact h1),(by rw[DW hi];simp only[h3,←Int.natCast_add,QVK,Qa,seval]),(by rfl),(by exact m1')⟩
 have e:i=v.pairs.length:=by omega
 subst e;rw[QXm]at h3;simp only[Qy hlt,Qa,seval];refine Qd (C3I v) _ ⟨_,_,0,rfl,rfl,QVV _,(by exact h1),(by simp only[QWV,Xf,QWi,h3,Qa,seval]),(by rfl),(by exact m1')⟩ ?_;clear h1 h3 h5 m1 m1' hlt hil;rintro _ st ⟨f,fr,i,rfl,rfl,hil,h1,h3,h6,m1⟩;have m1':=m1;simp only[vc]at m1;simp only[QWI,h1,h6,m1,eE,seval];by_cases hlt:i<v.slots.length
 ·obtain⟨x,hi⟩:∃x,v.slots[i]? = some x:=⟨v.slots[i],QVO hlt⟩;have hg:=JA hi;have e1:=Qm i _ hlt (by simp only[maxLen];omega);have hm:=QV0 hi;have c1:=hs x hm (hv.slots x hm);rw[Qw]at c1;simp only[Ql hlt,Qh,QXe,Qc,hg,QWk,QWn,QWu,h1,h3,h6,m1,eE,seval];refine Qb c1 rfl rfl rfl (.inl rfl) ?_;simp only[h6,e1,Bz,Qa,seval];exact⟨v.slots.length-(i+1),by omega,_,_,i+1,rfl,rfl,by omega,(by exact h1),(by rw[DX hi];simp only[h3,←Int.natCast_add,QVK,Qa,seval]),(by rfl),(by exact m1')⟩
 have e:i=v.slots.length:=by omega
 subst e;rw[QXm]at h3;simp only[Qy hlt,h3,Xh,Qa,seval]

end

theorem QP {P:Program}{K:St→Prop}{Qf:List Am.Item}{f:Fr}{m:Qq}{ds:List DF}{d sz len:Nat}{z y l:List AV}{ps:List (Nat×Nat×RA)}(hy:fill f ps (XC z sz len)=some y)(h1:AV.rfL y=true)(h2:y.all AV.leaf=true)(hc:XP sz len (y.map nn0)=l)(h:QF P Qf ⟨QJ f d (.list l),m,ds⟩ K) :
  QF P (⟨some d,.bsl sz len z ps,none⟩ :: Qf) ⟨f,m,ds⟩ K:=by
 subst hc;exact⟨y,hy,h1,h2,h⟩

theorem Qv1 (l:List V):(l.map V.av).all (fun e=>e.cells.length==7)=true:=by
 rw[List.all_map,QVZ];intro x _;simp[Qw,AV.cells]

end Go.Proofs.YtipjfckmopekaaaGreatDoor.Va

set_option linter.unusedVariables false
namespace Go.Proofs.YtipjfckmopekaaaGreatDoor.Tg
open Go Am

def S3 (z sr ro sm is st:Nat):List Am.Item:=[
  ⟨(some 10),.val (.mov (.c (.int .i64 0))),none⟩]
def S4 (z sr ro sm is st:Nat):List Am.Item:=[
  ⟨(some 11),.val (.mov (.t 10)),none⟩,
  ⟨(some 12),.val (.mov (.t 3)),none⟩,
  ⟨(some 13),.val (.bin .num .lss (.t 11) (.t 12)),none⟩]
def S5 (z sr ro sm is st:Nat):List Am.Item:=[
  ⟨(some 16),.val (.mov (.t 0)),none⟩,
  ⟨(some 17),.val (.mov (.t 1)),none⟩,
  ⟨(some 18),.val (.mov (.t 10)),none⟩,
  ⟨(some 19),.val (.bin .num .add (.t 17) (.t 18)),none⟩,
  ⟨(some 20),.val (.mov (.t 0)),none⟩,
  ⟨(some 21),.val (.mov (.t 2)),none⟩,
  ⟨(some 22),.val (.mov (.t 10)),none⟩,
  ⟨(some 23),.val (.bin .num .add (.t 21) (.t 22)),none⟩,
  ⟨(some 24),.val (.mov (.t 0)),none⟩,
  ⟨(some 25),.val (.mov (.t 2)),none⟩,
  ⟨(some 26),.val (.mov (.t 10)),none⟩,
  ⟨(some 27),.val (.bin .num .add (.t 25) (.t 26)),none⟩,
  ⟨(some 28),.val (.iaddr z none (.t 24) (.t 27)),none⟩,
  ⟨(some 29),.val (.loadr (some z) (.t 28)),none⟩,
  ⟨(some 30),.val (.mov (.t 0)),none⟩,
  ⟨(some 31),.val (.mov (.t 1)),none⟩,
  ⟨(some 32),.val (.mov (.t 10)),none⟩,
  ⟨(some 33),.val (.bin .num .add (.t 31) (.t 32)),none⟩,
  ⟨(some 34),.val (.iaddr z none (.t 30) (.t 33)),none⟩,
  ⟨(some 35),.val (.loadr (some z) (.t 34)),none⟩,
  ⟨(some 36),.val (.iaddr z none (.t 16) (.t 19)),none⟩,
  ⟨none,.store z (.t 36) (.t 29),none⟩,
  ⟨(some 37),.val (.iaddr z none (.t 20) (.t 23)),none⟩,
  ⟨none,.store z (.t 37) (.t 35),none⟩]
def S6 (z sr ro sm is st:Nat):List Am.Item:=[
  ⟨(some 14),.val (.mov (.t 10)),none⟩,
  ⟨(some 15),.val (.bin .num .add (.t 14) (.c (.int .i64 1))),none⟩,
  ⟨(some 10),.val (.mov (.t 15)),none⟩]
def S7 (z sr ro sm is st:Nat):RC:=.seq (.seq (.reg (S4 z sr ro sm is st)) (.cond (.t 13) (.skip) (.exit 0))) (.seq (.block 1 (.draw (S5 z sr ro sm is st))) (.reg (S6 z sr ro sm is st)))
def rsr (z sr ro sm is st:Nat):RC:=.seq (.reg (S3 z sr ro sm is st)) (.block 0 (.loop (S7 z sr ro sm is st)))
def osr:List RR:=[]

def S8 (z sr ro sm is st:Nat):List Am.Item:=[
  ⟨(some 12),.val (.mov (.t 2)),none⟩,
  ⟨(some 13),.val (.mov (.t 1)),none⟩,
  ⟨(some 14),.val (.bin .num .sub (.t 12) (.t 13)),none⟩,
  ⟨(some 10),.val (.mov (.t 14)),none⟩]
def S9 (z sr ro sm is st:Nat):List Am.Item:=[
  ⟨(some 15),.val (.mov (.t 3)),none⟩,
  ⟨(some 16),.val (.mov (.t 2)),none⟩,
  ⟨(some 17),.val (.bin .num .sub (.t 15) (.t 16)),none⟩,
  ⟨(some 11),.val (.mov (.t 17)),none⟩]
def Ta (z sr ro sm is st:Nat):List Am.Item:=[
  ⟨(some 18),.val (.mov (.t 10)),none⟩,
  ⟨(some 19),.val (.mov (.t 11)),none⟩,
  ⟨(some 20),.val (.bin .num .neq (.t 18) (.t 19)),none⟩]
def Tb (z sr ro sm is st:Nat):List Am.Item:=[
  ⟨(some 21),.val (.mov (.t 10)),none⟩,
  ⟨(some 22),.val (.mov (.t 11)),none⟩,
  ⟨(some 23),.val (.bin .num .gtr (.t 21) (.t 22)),none⟩]
def Tc (z sr ro sm is st:Nat):List Am.Item:=[
  ⟨(some 24),.val (.mov (.t 0)),none⟩,
  ⟨(some 25),.val (.mov (.t 2)),none⟩,
  ⟨(some 26),.val (.mov (.t 10)),none⟩,
  ⟨(some 27),.val (.bin .num .sub (.t 25) (.t 26)),none⟩,
  ⟨(some 28),.val (.mov (.t 2)),none⟩,
  ⟨(some 29),.val (.mov (.t 11)),none⟩,
  ⟨(some 30),.val (.mov (.t 4)),none⟩,
  ⟨(some 31),.callF (.f sr) [(.t 24),(.t 27),(.t 28),(.t 29),(.t 30)],none⟩]
def Td (z sr ro sm is st:Nat):List Am.Item:=[
  ⟨(some 32),.val (.mov (.t 10)),none⟩,
  ⟨(some 33),.val (.mov (.t 11)),none⟩,
  ⟨(some 34),.val (.bin .num .sub (.t 32) (.t 33)),none⟩,
  ⟨(some 10),.val (.mov (.t 34)),none⟩]
def Te (z sr ro sm is st:Nat):List Am.Item:=[
  ⟨(some 35),.val (.mov (.t 0)),none⟩,
  ⟨(some 36),.val (.mov (.t 2)),none⟩,
  ⟨(some 37),.val (.mov (.t 10)),none⟩,
  ⟨(some 38),.val (.bin .num .sub (.t 36) (.t 37)),none⟩,
  ⟨(some 39),.val (.mov (.t 2)),none⟩,
  ⟨(some 40),.val (.mov (.t 11)),none⟩,
  ⟨(some 41),.val (.bin .num .add (.t 39) (.t 40)),none⟩,
  ⟨(some 42),.val (.mov (.t 10)),none⟩,
  ⟨(some 43),.val (.bin .num .sub (.t 41) (.t 42)),none⟩,
  ⟨(some 44),.val (.mov (.t 10)),none⟩,
  ⟨(some 45),.val (.mov (.t 4)),none⟩,
  ⟨(some 46),.callF (.f sr) [(.t 35),(.t 38),(.t 43),(.t 44),(.t 45)],none⟩]
def Tf (z sr ro sm is st:Nat):List Am.Item:=[
  ⟨(some 47),.val (.mov (.t 11)),none⟩,
  ⟨(some 48),.val (.mov (.t 10)),none⟩,
  ⟨(some 49),.val (.bin .num .sub (.t 47) (.t 48)),none⟩,
  ⟨(some 11),.val (.mov (.t 49)),none⟩]
def Th (z sr ro sm is st:Nat):RC:=.seq (.seq (.reg (Ta z sr ro sm is st)) (.cond (.t 20) (.skip) (.exit 0))) (.block 1 (.seq (.reg (Tb z sr ro sm is st)) (.cond (.t 23) (.seq (.reg (Tc z sr ro sm is st)) (.reg (Td z sr ro sm is st))) (.seq (.reg (Te z sr ro sm is st)) (.reg (Tf z sr ro sm is st))))))
def Ti (z sr ro sm is st:Nat):List Am.Item:=[
  ⟨(some 50),.val (.mov (.t 0)),none⟩,
  ⟨(some 51),.val (.mov (.t 2)),none⟩,
  ⟨(some 52),.val (.mov (.t 10)),none⟩,
  ⟨(some 53),.val (.bin .num .sub (.t 51) (.t 52)),none⟩,
  ⟨(some 54),.val (.mov (.t 2)),none⟩,
  ⟨(some 55),.val (.mov (.t 10)),none⟩,
  ⟨(some 56),.val (.mov (.t 4)),none⟩,
  ⟨(some 57),.callF (.f sr) [(.t 50),(.t 53),(.t 54),(.t 55),(.t 56)],none⟩]
def rro (z sr ro sm is st:Nat):RC:=.seq (.reg (S8 z sr ro sm is st)) (.seq (.reg (S9 z sr ro sm is st)) (.seq (.block 0 (.loop (Th z sr ro sm is st))) (.reg (Ti z sr ro sm is st))))
def oro:List RR:=[]

def Fc (z sr ro sm is st:Nat):List Am.Item:=[
  ⟨(some 25),.val (.mov (.t 2)),none⟩,
  ⟨(some 26),.val (.mov (.t 1)),none⟩,
  ⟨(some 27),.val (.bin .num .sub (.t 25) (.t 26)),none⟩,
  ⟨(some 28),.val (.bin .num .eql (.t 27) (.c (.int .i64 1))),none⟩]
def Ce (z sr ro sm is st:Nat):List Am.Item:=[
  ⟨(some 29),.val (.mov (.t 2)),none⟩,
  ⟨(some 10),.val (.mov (.t 29)),none⟩]
def Cf (z sr ro sm is st:Nat):List Am.Item:=[
  ⟨(some 30),.val (.mov (.t 3)),none⟩,
  ⟨(some 11),.val (.mov (.t 30)),none⟩]
def Tj (z sr ro sm is st:Nat):List Am.Item:=[
  ⟨(some 31),.val (.mov (.t 10)),none⟩,
  ⟨(some 32),.val (.mov (.t 11)),none⟩,
  ⟨(some 33),.val (.bin .num .lss (.t 31) (.t 32)),none⟩]
def Tk (z sr ro sm is st:Nat):List Am.Item:=[
  ⟨(some 34),.val (.mov (.t 10)),none⟩,
  ⟨(some 35),.val (.mov (.t 11)),none⟩,
  ⟨(some 36),.val (.bin .num .add (.t 34) (.t 35)),none⟩,
  ⟨(some 37),.val (.cvi .u64 (.t 36)),none⟩,
  ⟨(some 38),.val (.bin .num .shr (.t 37) (.c (.int .u64 1))),none⟩,
  ⟨(some 39),.val (.cvi .i64 (.t 38)),none⟩,
  ⟨(some 12),.val (.mov (.t 39)),none⟩]
def Tl (z sr ro sm is st:Nat):List Am.Item:=[
  ⟨(some 40),.val (.mov (.t 4)),none⟩,
  ⟨(some 41),.val (.mov (.t 0)),none⟩,
  ⟨(some 42),.val (.mov (.t 12)),none⟩,
  ⟨(some 43),.val (.iaddr z none (.t 41) (.t 42)),none⟩,
  ⟨(some 44),.val (.loadr (some z) (.t 43)),none⟩,
  ⟨(some 45),.val (.mov (.t 0)),none⟩,
  ⟨(some 46),.val (.mov (.t 1)),none⟩,
  ⟨(some 47),.val (.iaddr z none (.t 45) (.t 46)),none⟩,
  ⟨(some 48),.val (.loadr (some z) (.t 47)),none⟩,
  ⟨(some 49),.call (.t 40) [(.t 44),(.t 48)],none⟩,
  ⟨(some 50),.val (.bin .num .lss (.t 49) (.c (.int .i64 0))),none⟩]
def Tm (z sr ro sm is st:Nat):List Am.Item:=[
  ⟨(some 51),.val (.mov (.t 12)),none⟩,
  ⟨(some 52),.val (.bin .num .add (.t 51) (.c (.int .i64 1))),none⟩,
  ⟨(some 10),.val (.mov (.t 52)),none⟩]
def Tn (z sr ro sm is st:Nat):List Am.Item:=[
  ⟨(some 53),.val (.mov (.t 12)),none⟩,
  ⟨(some 11),.val (.mov (.t 53)),none⟩]
def To (z sr ro sm is st:Nat):RC:=.seq (.seq (.reg (Tj z sr ro sm is st)) (.cond (.t 33) (.skip) (.exit 0))) (.block 1 (.seq (.reg (Tk z sr ro sm is st)) (.seq (.draw (Tl z sr ro sm is st)) (.cond (.t 50) (.reg (Tm z sr ro sm is st)) (.reg (Tn z sr ro sm is st))))))
def Cg (z sr ro sm is st:Nat):List Am.Item:=[
  ⟨(some 54),.val (.mov (.t 1)),none⟩,
  ⟨(some 13),.val (.mov (.t 54)),none⟩]
def Tp (z sr ro sm is st:Nat):List Am.Item:=[
  ⟨(some 55),.val (.mov (.t 13)),none⟩,
  ⟨(some 56),.val (.mov (.t 10)),none⟩,
  ⟨(some 57),.val (.bin .num .sub (.t 56) (.c (.int .i64 1))),none⟩,
  ⟨(some 58),.val (.bin .num .lss (.t 55) (.t 57)),none⟩]
def Po (z sr ro sm is st:Nat):List Am.Item:=[
  ⟨(some 61),.val (.mov (.t 0)),none⟩,
  ⟨(some 62),.val (.mov (.t 13)),none⟩,
  ⟨(some 63),.val (.mov (.t 0)),none⟩,
  ⟨(some 64),.val (.mov (.t 13)),none⟩,
  ⟨(some 65),.val (.bin .num .add (.t 64) (.c (.int .i64 1))),none⟩,
  ⟨(some 66),.val (.mov (.t 0)),none⟩,
  ⟨(some 67),.val (.mov (.t 13)),none⟩,
  ⟨(some 68),.val (.bin .num .add (.t 67) (.c (.int .i64 1))),none⟩,
  ⟨(some 69),.val (.iaddr z none (.t 66) (.t 68)),none⟩,
  ⟨(some 70),.val (.loadr (some z) (.t 69)),none⟩,
  ⟨(some 71),.val (.mov (.t 0)),none⟩,
  ⟨(some 72),.val (.mov (.t 13)),none⟩,
  ⟨(some 73),.val (.iaddr z none (.t 71) (.t 72)),none⟩,
  ⟨(some 74),.val (.loadr (some z) (.t 73)),none⟩,
  ⟨(some 75),.val (.iaddr z none (.t 61) (.t 62)),none⟩,
  ⟨none,.store z (.t 75) (.t 70),none⟩,
  ⟨(some 76),.val (.iaddr z none (.t 63) (.t 65)),none⟩,
  ⟨none,.store z (.t 76) (.t 74),none⟩]
def Pp (z sr ro sm is st:Nat):List Am.Item:=[
  ⟨(some 59),.val (.mov (.t 13)),none⟩,
  ⟨(some 60),.val (.bin .num .add (.t 59) (.c (.int .i64 1))),none⟩,
  ⟨(some 13),.val (.mov (.t 60)),none⟩]
def Tq (z sr ro sm is st:Nat):RC:=.seq (.seq (.reg (Tp z sr ro sm is st)) (.cond (.t 58) (.skip) (.exit 2))) (.seq (.block 3 (.draw (Po z sr ro sm is st))) (.reg (Pp z sr ro sm is st)))
def GE (z sr ro sm is st:Nat):List Am.Item:=[
  ⟨(some 77),.val (.mov (.t 3)),none⟩,
  ⟨(some 78),.val (.mov (.t 2)),none⟩,
  ⟨(some 79),.val (.bin .num .sub (.t 77) (.t 78)),none⟩,
  ⟨(some 80),.val (.bin .num .eql (.t 79) (.c (.int .i64 1))),none⟩]
def BA (z sr ro sm is st:Nat):List Am.Item:=[
  ⟨(some 81),.val (.mov (.t 1)),none⟩,
  ⟨(some 14),.val (.mov (.t 81)),none⟩]
def BB (z sr ro sm is st:Nat):List Am.Item:=[
  ⟨(some 82),.val (.mov (.t 2)),none⟩,
  ⟨(some 15),.val (.mov (.t 82)),none⟩]
def BC (z sr ro sm is st:Nat):List Am.Item:=[
  ⟨(some 83),.val (.mov (.t 14)),none⟩,
  ⟨(some 84),.val (.mov (.t 15)),none⟩,
  ⟨(some 85),.val (.bin .num .lss (.t 83) (.t 84)),none⟩]
def BD (z sr ro sm is st:Nat):List Am.Item:=[
  ⟨(some 86),.val (.mov (.t 14)),none⟩,
  ⟨(some 87),.val (.mov (.t 15)),none⟩,
  ⟨(some 88),.val (.bin .num .add (.t 86) (.t 87)),none⟩,
  ⟨(some 89),.val (.cvi .u64 (.t 88)),none⟩,
  ⟨(some 90),.val (.bin .num .shr (.t 89) (.c (.int .u64 1))),none⟩,
  ⟨(some 91),.val (.cvi .i64 (.t 90)),none⟩,
  ⟨(some 16),.val (.mov (.t 91)),none⟩]
def BE (z sr ro sm is st:Nat):List Am.Item:=[
  ⟨(some 92),.val (.mov (.t 4)),none⟩,
  ⟨(some 93),.val (.mov (.t 0)),none⟩,
  ⟨(some 94),.val (.mov (.t 2)),none⟩,
  ⟨(some 95),.val (.iaddr z none (.t 93) (.t 94)),none⟩,
  ⟨(some 96),.val (.loadr (some z) (.t 95)),none⟩,
  ⟨(some 97),.val (.mov (.t 0)),none⟩,
  ⟨(some 98),.val (.mov (.t 16)),none⟩,
  ⟨(some 99),.val (.iaddr z none (.t 97) (.t 98)),none⟩,
  ⟨(some 100),.val (.loadr (some z) (.t 99)),none⟩,
  ⟨(some 101),.call (.t 92) [(.t 96),(.t 100)],none⟩,
  ⟨(some 102),.val (.bin .num .lss (.t 101) (.c (.int .i64 0))),none⟩,
  ⟨(some 103),.val (.un .not (.t 102)),none⟩]
def BF (z sr ro sm is st:Nat):List Am.Item:=[
  ⟨(some 104),.val (.mov (.t 16)),none⟩,
  ⟨(some 105),.val (.bin .num .add (.t 104) (.c (.int .i64 1))),none⟩,
  ⟨(some 14),.val (.mov (.t 105)),none⟩]
def BG (z sr ro sm is st:Nat):List Am.Item:=[
  ⟨(some 106),.val (.mov (.t 16)),none⟩,
  ⟨(some 15),.val (.mov (.t 106)),none⟩]
def Ch (z sr ro sm is st:Nat):RC:=.seq (.seq (.reg (BC z sr ro sm is st)) (.cond (.t 85) (.skip) (.exit 4))) (.block 5 (.seq (.reg (BD z sr ro sm is st)) (.seq (.draw (BE z sr ro sm is st)) (.cond (.t 103) (.reg (BF z sr ro sm is st)) (.reg (BG z sr ro sm is st))))))
def BH (z sr ro sm is st:Nat):List Am.Item:=[
  ⟨(some 107),.val (.mov (.t 2)),none⟩,
  ⟨(some 17),.val (.mov (.t 107)),none⟩]
def BI (z sr ro sm is st:Nat):List Am.Item:=[
  ⟨(some 108),.val (.mov (.t 17)),none⟩,
  ⟨(some 109),.val (.mov (.t 14)),none⟩,
  ⟨(some 110),.val (.bin .num .gtr (.t 108) (.t 109)),none⟩]
def BJ (z sr ro sm is st:Nat):List Am.Item:=[
  ⟨(some 113),.val (.mov (.t 0)),none⟩,
  ⟨(some 114),.val (.mov (.t 17)),none⟩,
  ⟨(some 115),.val (.mov (.t 0)),none⟩,
  ⟨(some 116),.val (.mov (.t 17)),none⟩,
  ⟨(some 117),.val (.bin .num .sub (.t 116) (.c (.int .i64 1))),none⟩,
  ⟨(some 118),.val (.mov (.t 0)),none⟩,
  ⟨(some 119),.val (.mov (.t 17)),none⟩,
  ⟨(some 120),.val (.bin .num .sub (.t 119) (.c (.int .i64 1))),none⟩,
  ⟨(some 121),.val (.iaddr z none (.t 118) (.t 120)),none⟩,
  ⟨(some 122),.val (.loadr (some z) (.t 121)),none⟩,
  ⟨(some 123),.val (.mov (.t 0)),none⟩,
  ⟨(some 124),.val (.mov (.t 17)),none⟩,
  ⟨(some 125),.val (.iaddr z none (.t 123) (.t 124)),none⟩,
  ⟨(some 126),.val (.loadr (some z) (.t 125)),none⟩,
  ⟨(some 127),.val (.iaddr z none (.t 113) (.t 114)),none⟩,
  ⟨none,.store z (.t 127) (.t 122),none⟩,
  ⟨(some 128),.val (.iaddr z none (.t 115) (.t 117)),none⟩,
  ⟨none,.store z (.t 128) (.t 126),none⟩]
def BK (z sr ro sm is st:Nat):List Am.Item:=[
  ⟨(some 111),.val (.mov (.t 17)),none⟩,
  ⟨(some 112),.val (.bin .num .sub (.t 111) (.c (.int .i64 1))),none⟩,
  ⟨(some 17),.val (.mov (.t 112)),none⟩]
def Ci (z sr ro sm is st:Nat):RC:=.seq (.seq (.reg (BI z sr ro sm is st)) (.cond (.t 110) (.skip) (.exit 6))) (.seq (.block 7 (.draw (BJ z sr ro sm is st))) (.reg (BK z sr ro sm is st)))
def GF (z sr ro sm is st:Nat):List Am.Item:=[
  ⟨(some 129),.val (.mov (.t 1)),none⟩,
  ⟨(some 130),.val (.mov (.t 3)),none⟩,
  ⟨(some 131),.val (.bin .num .add (.t 129) (.t 130)),none⟩,
  ⟨(some 132),.val (.cvi .u64 (.t 131)),none⟩,
  ⟨(some 133),.val (.bin .num .shr (.t 132) (.c (.int .u64 1))),none⟩,
  ⟨(some 134),.val (.cvi .i64 (.t 133)),none⟩,
  ⟨(some 18),.val (.mov (.t 134)),none⟩]
def GG (z sr ro sm is st:Nat):List Am.Item:=[
  ⟨(some 135),.val (.mov (.t 18)),none⟩,
  ⟨(some 136),.val (.mov (.t 2)),none⟩,
  ⟨(some 137),.val (.bin .num .add (.t 135) (.t 136)),none⟩,
  ⟨(some 19),.val (.mov (.t 137)),none⟩]
def GH (z sr ro sm is st:Nat):List Am.Item:=[
  ⟨(some 20),.val (.mov (.c (.int .i64 0))),none⟩,
  ⟨(some 21),.val (.mov (.c (.int .i64 0))),none⟩]
def GI (z sr ro sm is st:Nat):List Am.Item:=[
  ⟨(some 138),.val (.mov (.t 2)),none⟩,
  ⟨(some 139),.val (.mov (.t 18)),none⟩,
  ⟨(some 140),.val (.bin .num .gtr (.t 138) (.t 139)),none⟩]
def GJ (z sr ro sm is st:Nat):List Am.Item:=[
  ⟨(some 141),.val (.mov (.t 19)),none⟩,
  ⟨(some 142),.val (.mov (.t 3)),none⟩,
  ⟨(some 143),.val (.bin .num .sub (.t 141) (.t 142)),none⟩,
  ⟨(some 20),.val (.mov (.t 143)),none⟩]
def GK (z sr ro sm is st:Nat):List Am.Item:=[
  ⟨(some 144),.val (.mov (.t 18)),none⟩,
  ⟨(some 21),.val (.mov (.t 144)),none⟩]
def GL (z sr ro sm is st:Nat):List Am.Item:=[
  ⟨(some 145),.val (.mov (.t 1)),none⟩,
  ⟨(some 20),.val (.mov (.t 145)),none⟩]
def GM (z sr ro sm is st:Nat):List Am.Item:=[
  ⟨(some 146),.val (.mov (.t 2)),none⟩,
  ⟨(some 21),.val (.mov (.t 146)),none⟩]
def GN (z sr ro sm is st:Nat):List Am.Item:=[
  ⟨(some 147),.val (.mov (.t 19)),none⟩,
  ⟨(some 148),.val (.bin .num .sub (.t 147) (.c (.int .i64 1))),none⟩,
  ⟨(some 22),.val (.mov (.t 148)),none⟩]
def GP (z sr ro sm is st:Nat):List Am.Item:=[
  ⟨(some 149),.val (.mov (.t 20)),none⟩,
  ⟨(some 150),.val (.mov (.t 21)),none⟩,
  ⟨(some 151),.val (.bin .num .lss (.t 149) (.t 150)),none⟩]
def GQ (z sr ro sm is st:Nat):List Am.Item:=[
  ⟨(some 152),.val (.mov (.t 20)),none⟩,
  ⟨(some 153),.val (.mov (.t 21)),none⟩,
  ⟨(some 154),.val (.bin .num .add (.t 152) (.t 153)),none⟩,
  ⟨(some 155),.val (.cvi .u64 (.t 154)),none⟩,
  ⟨(some 156),.val (.bin .num .shr (.t 155) (.c (.int .u64 1))),none⟩,
  ⟨(some 157),.val (.cvi .i64 (.t 156)),none⟩,
  ⟨(some 23),.val (.mov (.t 157)),none⟩]
def GR (z sr ro sm is st:Nat):List Am.Item:=[
  ⟨(some 158),.val (.mov (.t 4)),none⟩,
  ⟨(some 159),.val (.mov (.t 0)),none⟩,
  ⟨(some 160),.val (.mov (.t 22)),none⟩,
  ⟨(some 161),.val (.mov (.t 23)),none⟩,
  ⟨(some 162),.val (.bin .num .sub (.t 160) (.t 161)),none⟩,
  ⟨(some 163),.val (.iaddr z none (.t 159) (.t 162)),none⟩,
  ⟨(some 164),.val (.loadr (some z) (.t 163)),none⟩,
  ⟨(some 165),.val (.mov (.t 0)),none⟩,
  ⟨(some 166),.val (.mov (.t 23)),none⟩,
  ⟨(some 167),.val (.iaddr z none (.t 165) (.t 166)),none⟩,
  ⟨(some 168),.val (.loadr (some z) (.t 167)),none⟩,
  ⟨(some 169),.call (.t 158) [(.t 164),(.t 168)],none⟩,
  ⟨(some 170),.val (.bin .num .lss (.t 169) (.c (.int .i64 0))),none⟩,
  ⟨(some 171),.val (.un .not (.t 170)),none⟩]
def GS (z sr ro sm is st:Nat):List Am.Item:=[
  ⟨(some 172),.val (.mov (.t 23)),none⟩,
  ⟨(some 173),.val (.bin .num .add (.t 172) (.c (.int .i64 1))),none⟩,
  ⟨(some 20),.val (.mov (.t 173)),none⟩]
def GT (z sr ro sm is st:Nat):List Am.Item:=[
  ⟨(some 174),.val (.mov (.t 23)),none⟩,
  ⟨(some 21),.val (.mov (.t 174)),none⟩]
def GU (z sr ro sm is st:Nat):RC:=.seq (.seq (.reg (GP z sr ro sm is st)) (.cond (.t 151) (.skip) (.exit 8))) (.block 9 (.seq (.reg (GQ z sr ro sm is st)) (.seq (.draw (GR z sr ro sm is st)) (.cond (.t 171) (.reg (GS z sr ro sm is st)) (.reg (GT z sr ro sm is st))))))
def Yf (z sr ro sm is st:Nat):List Am.Item:=[
  ⟨(some 175),.val (.mov (.t 19)),none⟩,
  ⟨(some 176),.val (.mov (.t 20)),none⟩,
  ⟨(some 177),.val (.bin .num .sub (.t 175) (.t 176)),none⟩,
  ⟨(some 24),.val (.mov (.t 177)),none⟩]
def Yg (z sr ro sm is st:Nat):List Am.Item:=[
  ⟨(some 178),.val (.mov (.t 20)),none⟩,
  ⟨(some 179),.val (.mov (.t 2)),none⟩,
  ⟨(some 180),.val (.bin .num .lss (.t 178) (.t 179)),none⟩,
  ⟨(some 181),.val (.mov (.t 180)),none⟩,
  ⟨(some 182),.val (.mov (.t 2)),(some (181,true))⟩,
  ⟨(some 183),.val (.mov (.t 24)),(some (181,true))⟩,
  ⟨(some 184),.val (.bin .num .lss (.t 182) (.t 183)),(some (181,true))⟩,
  ⟨(some 185),.val (.pick (.t 181) (.t 184) (.c (.bool false))),none⟩]
def Yh (z sr ro sm is st:Nat):List Am.Item:=[
  ⟨(some 186),.val (.mov (.t 0)),none⟩,
  ⟨(some 187),.val (.mov (.t 20)),none⟩,
  ⟨(some 188),.val (.mov (.t 2)),none⟩,
  ⟨(some 189),.val (.mov (.t 24)),none⟩,
  ⟨(some 190),.val (.mov (.t 4)),none⟩,
  ⟨(some 191),.callF (.f ro) [(.t 186),(.t 187),(.t 188),(.t 189),(.t 190)],none⟩]
def WB (z sr ro sm is st:Nat):List Am.Item:=[
  ⟨(some 192),.val (.mov (.t 1)),none⟩,
  ⟨(some 193),.val (.mov (.t 20)),none⟩,
  ⟨(some 194),.val (.bin .num .lss (.t 192) (.t 193)),none⟩,
  ⟨(some 195),.val (.mov (.t 194)),none⟩,
  ⟨(some 196),.val (.mov (.t 20)),(some (195,true))⟩,
  ⟨(some 197),.val (.mov (.t 18)),(some (195,true))⟩,
  ⟨(some 198),.val (.bin .num .lss (.t 196) (.t 197)),(some (195,true))⟩,
  ⟨(some 199),.val (.pick (.t 195) (.t 198) (.c (.bool false))),none⟩]
def WC (z sr ro sm is st:Nat):List Am.Item:=[
  ⟨(some 200),.val (.mov (.t 0)),none⟩,
  ⟨(some 201),.val (.mov (.t 1)),none⟩,
  ⟨(some 202),.val (.mov (.t 20)),none⟩,
  ⟨(some 203),.val (.mov (.t 18)),none⟩,
  ⟨(some 204),.val (.mov (.t 4)),none⟩,
  ⟨(some 205),.callF (.f sm) [(.t 200),(.t 201),(.t 202),(.t 203),(.t 204)],none⟩]
def Kh (z sr ro sm is st:Nat):List Am.Item:=[
  ⟨(some 206),.val (.mov (.t 18)),none⟩,
  ⟨(some 207),.val (.mov (.t 24)),none⟩,
  ⟨(some 208),.val (.bin .num .lss (.t 206) (.t 207)),none⟩,
  ⟨(some 209),.val (.mov (.t 208)),none⟩,
  ⟨(some 210),.val (.mov (.t 24)),(some (209,true))⟩,
  ⟨(some 211),.val (.mov (.t 3)),(some (209,true))⟩,
  ⟨(some 212),.val (.bin .num .lss (.t 210) (.t 211)),(some (209,true))⟩,
  ⟨(some 213),.val (.pick (.t 209) (.t 212) (.c (.bool false))),none⟩]
def Ki (z sr ro sm is st:Nat):List Am.Item:=[
  ⟨(some 214),.val (.mov (.t 0)),none⟩,
  ⟨(some 215),.val (.mov (.t 18)),none⟩,
  ⟨(some 216),.val (.mov (.t 24)),none⟩,
  ⟨(some 217),.val (.mov (.t 3)),none⟩,
  ⟨(some 218),.val (.mov (.t 4)),none⟩,
  ⟨(some 219),.callF (.f sm) [(.t 214),(.t 215),(.t 216),(.t 217),(.t 218)],none⟩]
def Tr (z sr ro sm is st:Nat):RC:=.seq (.seq (.reg (Fc z sr ro sm is st)) (.cond (.t 28) (.seq (.reg (Ce z sr ro sm is st)) (.seq (.reg (Cf z sr ro sm is st)) (.seq (.block 0 (.loop (To z sr ro sm is st))) (.seq (.seq (.reg (Cg z sr ro sm is st)) (.block 2 (.loop (Tq z sr ro sm is st)))) (.ret))))) (.skip))) (.seq (.seq (.reg (GE z sr ro sm is st)) (.cond (.t 80) (.seq (.reg (BA z sr ro sm is st)) (.seq (.reg (BB z sr ro sm is st)) (.seq (.block 4 (.loop (Ch z sr ro sm is st))) (.seq (.seq (.reg (BH z sr ro sm is st)) (.block 6 (.loop (Ci z sr ro sm is st)))) (.ret))))) (.skip))) (.seq (.reg (GF z sr ro sm is st)) (.seq (.reg (GG z sr ro sm is st)) (.seq (.reg (GH z sr ro sm is st)) (.seq (.seq (.reg (GI z sr ro sm is st)) (.cond (.t 140) (.seq (.reg (GJ z sr ro sm is st)) (.reg (GK z sr ro sm is st))) (.seq (.reg (GL z sr ro sm is st)) (.reg (GM z sr ro sm is st))))) (.seq (.reg (GN z sr ro sm is st)) (.seq (.block 8 (.loop (GU z sr ro sm is st))) (.seq (.reg (Yf z sr ro sm is st)) (.seq (.seq (.reg (Yg z sr ro sm is st)) (.cond (.t 185) (.reg (Yh z sr ro sm is st)) (.skip))) (.seq (.seq (.reg (WB z sr ro sm is st)) (.cond (.t 199) (.reg (WC z sr ro sm is st)) (.skip))) (.seq (.reg (Kh z sr ro sm is st)) (.cond (.t 213) (.reg (Ki z sr ro sm is st)) (.skip)))))))))))))
def GV:List RR:=[]

def Ts (z sr ro sm is st:Nat):List Am.Item:=[
  ⟨(some 10),.val (.mov (.t 1)),none⟩,
  ⟨(some 11),.val (.bin .num .add (.t 10) (.c (.int .i64 1))),none⟩,
  ⟨(some 8),.val (.mov (.t 11)),none⟩]
def Tt (z sr ro sm is st:Nat):List Am.Item:=[
  ⟨(some 12),.val (.mov (.t 8)),none⟩,
  ⟨(some 13),.val (.mov (.t 2)),none⟩,
  ⟨(some 14),.val (.bin .num .lss (.t 12) (.t 13)),none⟩]
def Tu (z sr ro sm is st:Nat):List Am.Item:=[
  ⟨(some 17),.val (.mov (.t 8)),none⟩,
  ⟨(some 9),.val (.mov (.t 17)),none⟩]
def Tv (z sr ro sm is st:Nat):List Am.Item:=[
  ⟨(some 18),.val (.mov (.t 9)),none⟩,
  ⟨(some 19),.val (.mov (.t 1)),none⟩,
  ⟨(some 20),.val (.bin .num .gtr (.t 18) (.t 19)),none⟩,
  ⟨(some 21),.val (.mov (.t 20)),none⟩,
  ⟨(some 22),.val (.mov (.t 3)),(some (21,true))⟩,
  ⟨(some 23),.val (.mov (.t 0)),(some (21,true))⟩,
  ⟨(some 24),.val (.mov (.t 9)),(some (21,true))⟩,
  ⟨(some 25),.val (.iaddr z none (.t 23) (.t 24)),(some (21,true))⟩,
  ⟨(some 26),.val (.loadr (some z) (.t 25)),(some (21,true))⟩,
  ⟨(some 27),.val (.mov (.t 0)),(some (21,true))⟩,
  ⟨(some 28),.val (.mov (.t 9)),(some (21,true))⟩,
  ⟨(some 29),.val (.bin .num .sub (.t 28) (.c (.int .i64 1))),(some (21,true))⟩,
  ⟨(some 30),.val (.iaddr z none (.t 27) (.t 29)),(some (21,true))⟩,
  ⟨(some 31),.val (.loadr (some z) (.t 30)),(some (21,true))⟩,
  ⟨(some 32),.call (.t 22) [(.t 26),(.t 31)],(some (21,true))⟩,
  ⟨(some 33),.val (.bin .num .lss (.t 32) (.c (.int .i64 0))),(some (21,true))⟩,
  ⟨(some 34),.val (.pick (.t 21) (.t 33) (.c (.bool false))),none⟩]
def Tw (z sr ro sm is st:Nat):List Am.Item:=[
  ⟨(some 37),.val (.mov (.t 0)),none⟩,
  ⟨(some 38),.val (.mov (.t 9)),none⟩,
  ⟨(some 39),.val (.mov (.t 0)),none⟩,
  ⟨(some 40),.val (.mov (.t 9)),none⟩,
  ⟨(some 41),.val (.bin .num .sub (.t 40) (.c (.int .i64 1))),none⟩,
  ⟨(some 42),.val (.mov (.t 0)),none⟩,
  ⟨(some 43),.val (.mov (.t 9)),none⟩,
  ⟨(some 44),.val (.bin .num .sub (.t 43) (.c (.int .i64 1))),none⟩,
  ⟨(some 45),.val (.iaddr z none (.t 42) (.t 44)),none⟩,
  ⟨(some 46),.val (.loadr (some z) (.t 45)),none⟩,
  ⟨(some 47),.val (.mov (.t 0)),none⟩,
  ⟨(some 48),.val (.mov (.t 9)),none⟩,
  ⟨(some 49),.val (.iaddr z none (.t 47) (.t 48)),none⟩,
  ⟨(some 50),.val (.loadr (some z) (.t 49)),none⟩,
  ⟨(some 51),.val (.iaddr z none (.t 37) (.t 38)),none⟩,
  ⟨none,.store z (.t 51) (.t 46),none⟩,
  ⟨(some 52),.val (.iaddr z none (.t 39) (.t 41)),none⟩,
  ⟨none,.store z (.t 52) (.t 50),none⟩]
def Tx (z sr ro sm is st:Nat):List Am.Item:=[
  ⟨(some 35),.val (.mov (.t 9)),none⟩,
  ⟨(some 36),.val (.bin .num .sub (.t 35) (.c (.int .i64 1))),none⟩,
  ⟨(some 9),.val (.mov (.t 36)),none⟩]
def TA (z sr ro sm is st:Nat):RC:=.seq (.seq (.draw (Tv z sr ro sm is st)) (.cond (.t 34) (.skip) (.exit 2))) (.seq (.block 3 (.draw (Tw z sr ro sm is st))) (.reg (Tx z sr ro sm is st)))
def TB (z sr ro sm is st:Nat):List Am.Item:=[
  ⟨(some 15),.val (.mov (.t 8)),none⟩,
  ⟨(some 16),.val (.bin .num .add (.t 15) (.c (.int .i64 1))),none⟩,
  ⟨(some 8),.val (.mov (.t 16)),none⟩]
def TC (z sr ro sm is st:Nat):RC:=.seq (.seq (.reg (Tt z sr ro sm is st)) (.cond (.t 14) (.skip) (.exit 0))) (.seq (.block 1 (.seq (.reg (Tu z sr ro sm is st)) (.block 2 (.loop (TA z sr ro sm is st))))) (.reg (TB z sr ro sm is st)))
def ris (z sr ro sm is st:Nat):RC:=.seq (.reg (Ts z sr ro sm is st)) (.block 0 (.loop (TC z sr ro sm is st)))
def ois:List RR:=[]

def TD (z sr ro sm is st:Nat):List Am.Item:=[
  ⟨(some 6),.val (.mov (.c (.int .i64 20))),none⟩]
def TE (z sr ro sm is st:Nat):List Am.Item:=[
  ⟨(some 10),.val (.mov (.t 6)),none⟩,
  ⟨(some 7),.val (.mov (.c (.int .i64 0))),none⟩,
  ⟨(some 8),.val (.mov (.t 10)),none⟩]
def TF (z sr ro sm is st:Nat):List Am.Item:=[
  ⟨(some 11),.val (.mov (.t 8)),none⟩,
  ⟨(some 12),.val (.mov (.t 1)),none⟩,
  ⟨(some 13),.val (.bin .num .leq (.t 11) (.t 12)),none⟩]
def TG (z sr ro sm is st:Nat):List Am.Item:=[
  ⟨(some 14),.val (.mov (.t 0)),none⟩,
  ⟨(some 15),.val (.mov (.t 7)),none⟩,
  ⟨(some 16),.val (.mov (.t 8)),none⟩,
  ⟨(some 17),.val (.mov (.t 2)),none⟩,
  ⟨(some 18),.callF (.f is) [(.t 14),(.t 15),(.t 16),(.t 17)],none⟩]
def TH (z sr ro sm is st:Nat):List Am.Item:=[
  ⟨(some 19),.val (.mov (.t 8)),none⟩,
  ⟨(some 7),.val (.mov (.t 19)),none⟩]
def TI (z sr ro sm is st:Nat):List Am.Item:=[
  ⟨(some 20),.val (.mov (.t 8)),none⟩,
  ⟨(some 21),.val (.mov (.t 6)),none⟩,
  ⟨(some 22),.val (.bin .num .add (.t 20) (.t 21)),none⟩,
  ⟨(some 8),.val (.mov (.t 22)),none⟩]
def TJ (z sr ro sm is st:Nat):RC:=.seq (.seq (.reg (TF z sr ro sm is st)) (.cond (.t 13) (.skip) (.exit 0))) (.block 1 (.seq (.reg (TG z sr ro sm is st)) (.seq (.reg (TH z sr ro sm is st)) (.reg (TI z sr ro sm is st)))))
def TK (z sr ro sm is st:Nat):List Am.Item:=[
  ⟨(some 23),.val (.mov (.t 0)),none⟩,
  ⟨(some 24),.val (.mov (.t 7)),none⟩,
  ⟨(some 25),.val (.mov (.t 1)),none⟩,
  ⟨(some 26),.val (.mov (.t 2)),none⟩,
  ⟨(some 27),.callF (.f is) [(.t 23),(.t 24),(.t 25),(.t 26)],none⟩]
def TL (z sr ro sm is st:Nat):List Am.Item:=[
  ⟨(some 28),.val (.mov (.t 6)),none⟩,
  ⟨(some 29),.val (.mov (.t 1)),none⟩,
  ⟨(some 30),.val (.bin .num .lss (.t 28) (.t 29)),none⟩]
def TM (z sr ro sm is st:Nat):List Am.Item:=[
  ⟨(some 31),.val (.mov (.t 6)),none⟩,
  ⟨(some 32),.val (.bin .num .mul (.c (.int .i64 2)) (.t 31)),none⟩,
  ⟨(some 7),.val (.mov (.c (.int .i64 0))),none⟩,
  ⟨(some 8),.val (.mov (.t 32)),none⟩]
def TN (z sr ro sm is st:Nat):List Am.Item:=[
  ⟨(some 33),.val (.mov (.t 8)),none⟩,
  ⟨(some 34),.val (.mov (.t 1)),none⟩,
  ⟨(some 35),.val (.bin .num .leq (.t 33) (.t 34)),none⟩]
def Pq (z sr ro sm is st:Nat):List Am.Item:=[
  ⟨(some 36),.val (.mov (.t 0)),none⟩,
  ⟨(some 37),.val (.mov (.t 7)),none⟩,
  ⟨(some 38),.val (.mov (.t 7)),none⟩,
  ⟨(some 39),.val (.mov (.t 6)),none⟩,
  ⟨(some 40),.val (.bin .num .add (.t 38) (.t 39)),none⟩,
  ⟨(some 41),.val (.mov (.t 8)),none⟩,
  ⟨(some 42),.val (.mov (.t 2)),none⟩,
  ⟨(some 43),.callF (.f sm) [(.t 36),(.t 37),(.t 40),(.t 41),(.t 42)],none⟩]
def Pr (z sr ro sm is st:Nat):List Am.Item:=[
  ⟨(some 44),.val (.mov (.t 8)),none⟩,
  ⟨(some 7),.val (.mov (.t 44)),none⟩]
def Ps (z sr ro sm is st:Nat):List Am.Item:=[
  ⟨(some 45),.val (.mov (.t 8)),none⟩,
  ⟨(some 46),.val (.mov (.t 6)),none⟩,
  ⟨(some 47),.val (.bin .num .mul (.c (.int .i64 2)) (.t 46)),none⟩,
  ⟨(some 48),.val (.bin .num .add (.t 45) (.t 47)),none⟩,
  ⟨(some 8),.val (.mov (.t 48)),none⟩]
def TO (z sr ro sm is st:Nat):RC:=.seq (.seq (.reg (TN z sr ro sm is st)) (.cond (.t 35) (.skip) (.exit 4))) (.block 5 (.seq (.reg (Pq z sr ro sm is st)) (.seq (.reg (Pr z sr ro sm is st)) (.reg (Ps z sr ro sm is st)))))
def Pt (z sr ro sm is st:Nat):List Am.Item:=[
  ⟨(some 49),.val (.mov (.t 7)),none⟩,
  ⟨(some 50),.val (.mov (.t 6)),none⟩,
  ⟨(some 51),.val (.bin .num .add (.t 49) (.t 50)),none⟩,
  ⟨(some 9),.val (.mov (.t 51)),none⟩]
def Pu (z sr ro sm is st:Nat):List Am.Item:=[
  ⟨(some 52),.val (.mov (.t 9)),none⟩,
  ⟨(some 53),.val (.mov (.t 1)),none⟩,
  ⟨(some 54),.val (.bin .num .lss (.t 52) (.t 53)),none⟩]
def Pv (z sr ro sm is st:Nat):List Am.Item:=[
  ⟨(some 55),.val (.mov (.t 0)),none⟩,
  ⟨(some 56),.val (.mov (.t 7)),none⟩,
  ⟨(some 57),.val (.mov (.t 9)),none⟩,
  ⟨(some 58),.val (.mov (.t 1)),none⟩,
  ⟨(some 59),.val (.mov (.t 2)),none⟩,
  ⟨(some 60),.callF (.f sm) [(.t 55),(.t 56),(.t 57),(.t 58),(.t 59)],none⟩]
def BL (z sr ro sm is st:Nat):List Am.Item:=[
  ⟨(some 61),.val (.mov (.t 6)),none⟩,
  ⟨(some 62),.val (.bin .num .mul (.t 61) (.c (.int .i64 2))),none⟩,
  ⟨(some 6),.val (.mov (.t 62)),none⟩]
def TP (z sr ro sm is st:Nat):RC:=.seq (.seq (.reg (TL z sr ro sm is st)) (.cond (.t 30) (.skip) (.exit 2))) (.block 3 (.seq (.reg (TM z sr ro sm is st)) (.seq (.block 4 (.loop (TO z sr ro sm is st))) (.seq (.seq (.reg (Pt z sr ro sm is st)) (.seq (.reg (Pu z sr ro sm is st)) (.cond (.t 54) (.reg (Pv z sr ro sm is st)) (.skip)))) (.reg (BL z sr ro sm is st))))))
def rst (z sr ro sm is st:Nat):RC:=.seq (.reg (TD z sr ro sm is st)) (.seq (.reg (TE z sr ro sm is st)) (.seq (.block 0 (.loop (TJ z sr ro sm is st))) (.seq (.reg (TK z sr ro sm is st)) (.block 2 (.loop (TP z sr ro sm is st))))))
def ost:List RR:=[]

def TQ (z sr ro sm is st:Nat):List Am.Item:=[
  ⟨(some 4),.val (.mov (.t 0)),none⟩,
  ⟨(some 5),.val (.mov (.t 0)),none⟩,
  ⟨(some 6),.val (.len 1 (.t 5)),none⟩,
  ⟨(some 7),.val (.mov (.t 1)),none⟩,
  ⟨(some 8),.callF (.f st) [(.t 4),(.t 6),(.t 7)],none⟩]
def rss (z sr ro sm is st:Nat):RC:=.reg (TQ z sr ro sm is st)
def oss:List RR:=[]

structure Cs (P:Program)(z sr ro sm is st ss:Nat):Prop where
 csr:CK P sr 38 (rsr z sr ro sm is st) osr
 cro:CK P ro 58 (rro z sr ro sm is st) oro
 csm:CK P sm 220 (Tr z sr ro sm is st) GV
 cis:CK P is 53 (ris z sr ro sm is st) ois
 cst:CK P st 63 (rst z sr ro sm is st) ost
 css:CK P ss 9 (rss z sr ro sm is st) oss

end Go.Proofs.YtipjfckmopekaaaGreatDoor.Tg

namespace Go.Proofs.YtipjfckmopekaaaGreatDoor.Am
open Go Bt

def Ez (E:AV→Prop)(sz:Nat)(x:AV):Prop:=E x∧∃l,x=.agg l∧l.length=sz∧AV.rfL l=true∧l.all AV.leaf=true∧∀m,AV.stillL false m l=some l

variable {E:AV→Prop}

theorem Ez.part {sz:Nat}{x:AV}(h:Ez E sz x):Am.part x.cells 0 (some sz)=some x:=by
 obtain⟨_,l,rfl,rfl,_,_,_⟩:=h;simp[Am.part,AV.cells]
theorem Ez.len {sz:Nat}{x:AV}(h:Ez E sz x):x.cells.length=sz:=by
 obtain⟨_,l,rfl,rfl,_,_,_⟩:=h;rfl
theorem Ez.leaf {sz:Nat}{x:AV}(h:Ez E sz x):x.cells.all AV.leaf=true:=by
 obtain⟨_,l,rfl,_,_,h,_⟩:=h;exact h
theorem Ez.rf {sz:Nat}{x:AV}(h:Ez E sz x):x.rf=true:=by
 obtain⟨_,l,rfl,_,h,_,_⟩:=h;exact h

theorem Ez.still {sz:Nat}{x:AV}(h:Ez E sz x)(m:Qq):x.still false m=some x:=by
 obtain⟨_,l,rfl,_,_,_,h⟩:=h;simp only[AV.still,h m,QWD]
theorem WU {sz:Nat}{x y:AV}(h:Ez E sz x)(k:Ez E sz y)(m:Qq):AV.stillL false m [x,y]=some [x,y]:=by
 simp only[AV.stillL,h.still,k.still]
theorem KJ {sz:Nat}{x y:AV}(h:Ez E sz x)(k:Ez E sz y):AV.rfL [x,y]=true:=by
 simp only[AV.rfL,h.rf,k.rf,Bool.and_self]

theorem Wb {P:Program}{f:Fr}{m:Qq}{ds:List DF}{Qf:List Item}{d:Nat}{K:St→Prop}{k:Nat}{r:RA}{args:List RA}{ys:List AV}{v:AV}(hr:r.ev f=.fn (.func k) [] [])(hk:Qj P k ys v)(hy:AV.stillL false m (args.map (RA.ev f))=some ys)(h1:AV.rfL ys=true)(h2:v.rf=true)(h3:AV.rfL (args.map (RA.ev f))=true∨v.nl=true)(h:QF P Qf ⟨QJ f d v,m,ds⟩ K) :
  QF P (⟨some d,.call r args,none⟩ :: Qf) ⟨f,m,ds⟩ K:=by
 refine⟨k,[],[],ys,v,hr,?_,h1,hk,h2,?_,h⟩
 ·simpa using hy
 ·simpa using h3

theorem Wi:∀ {m:Qq} {l s:Nat} {o o':Ob},Am.put (Am.put m l s o) l s o'=Am.put m l s o'
 | [],_,_,_,_=>rfl
 |fr :: m,0,s,o,o'=>by simp only[Am.put,upd_upd']
 |fr :: m,l+1,s,o,o'=>by simp only[Am.put,Wi (m:=m)]
where
 upd_upd' {f:Nat→Ob} {d:Nat} {x y:Ob}:QJ (QJ f d x) d y=QJ f d y:=by
  funext i;simp only[QJ];cases Nat.beq i d<;>rfl

theorem Jm:∀ {m:Qq} {l s:Nat} {o:Ob},Qg m l s=o→Am.put m l s o=m
 | [],_,_,_,_=>rfl
 |fr :: m,0,s,o,h=>by
  simp only[Am.put];congr 1
  funext i;simp only[QJ];cases hb:Nat.beq i s with
  |false=>rfl
  |true=>rw[QVJ hb];exact h.symm
 |fr :: m,l+1,s,o,h=>by simp only[Am.put,Jm (m:=m) h]

section
variable {m:Qq}{fr:Nat→Ob}{lv s g sz n i:Nat}{cur:List AV}{x y:AV}

theorem KY (hlv:lv<m.length)(hx:cur[i]? = some x)(he:Ez E sz x):Q9 (fr :: Am.put m lv s (.vec g sz cur)) (some sz) (.vptr (lv+1) s g i 0)=some x:=by
 have e:Qg (fr :: Am.put m lv s (.vec g sz cur)) (lv+1) s=.vec g sz cur:=QA hlv;simp only[Q9,e,if_true,hx,he.part]

theorem Ut (hlv:lv<m.length)(hx:cur[i]? = some x)(he:Ez E sz x)(hy:Ez E sz y)(h0:sz≠0):QV (fr :: Am.put m lv s (.vec g sz cur)) (.vptr (lv+1) s g i 0) y.cells=some (fr :: Am.put m lv s (.vec g sz (cur.set i y))):=by
 have e:Qg (fr :: Am.put m lv s (.vec g sz cur)) (lv+1) s=.vec g sz cur:=QA hlv;obtain⟨_,l,rfl,hl,_,_,_⟩:=he;obtain⟨_,k,rfl,hk,hf,_,_⟩:=hy;have hc:0+(AV.agg k).cells.length≤(AV.agg l).cells.length∧(AV.agg k).cells.length≠0∧AV.rfL (AV.agg k).cells=true:=by
  simp only[AV.cells];exact⟨by omega,by omega,hf⟩
 simp only[QV,e,if_true,hx,QWg hc];have hs:splice l 0 k=k:=by
  simp only[splice,QWV,QWa,QWt];rw[QWo (by omega),QWQ]
 simp only[ZC,AV.cells,hs,Am.put,Wi]

theorem KZ (hlv:lv<m.length)(hi:i<n):Qc (fr :: Am.put m lv s (.vec g sz cur)) sz none (.vec (lv+1) s g 0 n false) ((i:Nat):Int)=some (.vptr (lv+1) s g i 0):=by
 have e:Qg (fr :: Am.put m lv s (.vec g sz cur)) (lv+1) s=.vec g sz cur:=QA hlv;simp only[Qc,e,QXe];rw[QWg (by omega),QWg ⟨trivial,trivial,hi⟩,QWt]

end

theorem put_len:∀ {m:Qq} {l s:Nat} {o:Ob},(Am.put m l s o).length=m.length
 | [],_,_,_=>rfl
 |_ :: _,0,_,_=>rfl
 |fr :: m,l+1,s,o=>by simp only[Am.put,QV2,put_len (m:=m)]

end Go.Proofs.YtipjfckmopekaaaGreatDoor.Am

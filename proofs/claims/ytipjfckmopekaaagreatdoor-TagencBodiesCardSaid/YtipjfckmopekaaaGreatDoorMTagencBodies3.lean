/- Parts of the proof, in order. -/
import Derived.Test.YtipjfckmopekaaaGreatDoorMTagencBodies2

set_option linter.unusedSimpArgs false
namespace Go.Proofs.YtipjfckmopekaaaGreatDoor.Va
open Go Am Rc Bt Br

def key (o:PO):Bool:=if o.card=5 then decide (o.key≥1)&&decide (o.key≤7)&&o.key != 6 else o.key==0
def Gl (P:PL)(o:PO):Bool :=
 if o.kind=10 then decide (o.target≥0)&&decide (o.target<(P.progs.length:Int))&&o.card != 3
 else if o.kind=9 then decide (o.target≥0)&&decide (o.target<(P.enums.length:Int))else isk o.kind&&o.target == -1
def X3 (P:PL)(o:PO):Bool:=U8 o.alias&&decide ((o.alias.length:Int)≤4096)&&decide (o.card≥1)&&decide (o.card≤5)&&key o&&Gl P o
def XT (o:PO):Bool:=o.union == -1||o.card==2
def Z2:List PO→Int→Int→Option Int
 | [],n,_=>some n
 |o :: l,n,b=>if o.union=n then Z2 l (n+1) n else if o.union = -1∨o.union=b then Z2 l n o.union else none
def ZP (g:PG):Bool:=match Z2 g.ops 0 (-1)with
 |some n=>g.unions==n
 |none=>false
def Xx (k kd:Int)(b:Nat)(t:List UInt8)(l p s r:List AV):Bool :=
 isk k&&kd==k&&WJ l p s r&&(if X8 kd=true then(b:Int)==0 else t==[])&&Yl k b&&decide ((t.length:Int)≤4096)&&(k != 7||U8 t)
def alias:List UInt8:=[97,108,105,97,115]
def nok:List AV→Bool
 | [.int _ kd,.int _ b,.str t,.list l,.list p,.list s,.list r]=>Xx 7 kd b.toNat t l p s r
 |_=>false
def ZR (i:PI):Bool:=match i.notes with
 | []=>true
 | [n]=>n.name==alias&&nok n.val
 |_=>false
def ZY (P:PL)(g:PG):Bool:=ZP g&&g.ops.all fun o=>X3 P o&&XT o
def Kn (x:PE):Bool:=x.notes.isEmpty&&x.items.all ZR
def args (P:PL):Bool:=P.progs.all (ZY P)&&P.enums.all Kn

theorem Lv {α:Type}(l:List α)(p q:α→Bool):(l.all fun x=>p x&&q x)=(l.all p&&l.all q):=by
 induction l with
 |nil=>rfl
 |cons x l ih=>
  simp only[QVX,ih];cases p x<;>cases q x<;>cases l.all p<;>cases l.all q<;>rfl

theorem QOQ (k kd:Int)(b:Nat)(t:List UInt8)(l p s r:List AV)(hl:l.length≤140737488351232)(hp:p.length≤140737488351232)(hs:s.length≤140737488351232)(hr:r.length≤140737488351232) :
  Qj Tryz.prog 279 [.int .i64 k,vo kd b t l p s r] (.bool (Xx k kd b t l p s r)):=by
 have hle:=Qu7 kd b t l p s r hl hp hs hr;have hw:=QOP k b;simp only[vo]at hle;have n1:(kd != k)=!(kd==k):=rfl;have n2:(k != 7)=!(k==7):=rfl;have n3:decide ((t.length:Int) > 4096)=!decide ((t.length:Int)≤4096):=(by rw[QVG];simp only[QUR,QVK,QWD];omega);refine Qlf.fn (by simp) ?_;simp only[vo,Xx,n2,eE,seval];refine Qb (FY k) rfl rfl rfl (.inl rfl) ?_;cases isk k
 ·simp only[QWg,QVT,Qa,seval]
 simp only[QWn,QWo,n1,eE,seval];cases a1:(kd==k)
 ·simp only[QWg,QVT,Qa,seval]
 simp only[QWn,QWo,eE,seval];refine Qb hle rfl rfl rfl (.inl rfl) ?_;cases(WJ l p s r&&(if X8 kd=true then(b:Int)==0 else t==[]))
 ·simp only[QWg,QVT,Qa,seval]
 simp only[QWn,QWo,eE,seval];refine Qb hw rfl rfl rfl (.inl rfl) ?_;cases Yl k b
 ·simp only[QWg,QVT,Qa,seval]
 simp only[QWn,QWo,n3,eE,seval];cases a2:decide ((t.length:Int)≤4096)
 ·simp only[QWg,QVT,Qa,seval]
 simp only[QWn,QWo,n2,Qa,seval];cases a3:(k==7)
 ·simp only[QVT,QWq,Qa,seval]
 ·simp only[QWo,QWr,eE,seval];refine Qb (Qu4 t) rfl rfl rfl (.inl rfl) ?_;simp only[Qa,seval]

theorem QOR (o:PO):Qj Tryz.prog 169 [Qt o] (.bool (key o)):=by
 refine Qfh.fn (by simp) ?_;simp only[Qt,PO.cells,key,eE,seval];by_cases h:o.card=5
 ·have b0:(o.card != 5)=false:=by simp[h]
  simp only[b0,QVf h,eE,seval];cases a1:decide (o.key≥1)<;>cases a2:decide (o.key≤7)<;>simp only[a2,QWn,QWg,eE,seval]
 ·have b0:(o.card != 5)=true:=by simp[h]
  simp only[b0,QU0 h,eE,seval]

section
variable (P:PL)

theorem QOS (o:PO):Qj Tryz.prog 170 [P.av,Qt o] (.bool (Gl P o)):=by
 have e0:P.av=.agg [.list (P.progs.map Qn),.list (P.enums.map Qr)]:=rfl;refine Qfr.fn (by simp) ?_;simp only[e0,Qt,PO.cells,Gl,eE,seval];by_cases h:o.kind=10
 ·have b0:(o.kind==10)=true:=by simp[h]
  simp only[b0,QVf h,eE,seval];cases a1:decide (o.target≥0)<;>cases a2:decide (o.target<(P.progs.length:Int))<;>simp only[a2,QWn,QWg,QVH,eE,seval]
 ·have b0:(o.kind==10)=false:=by simp[h]
  by_cases h9:o.kind=9
  ·have b1:(o.kind==9)=true:=by simp[h9]
   simp only[b0,b1,QU0 h,QVf h9,eE,seval];cases a1:decide (o.target≥0)<;>simp only[QWn,QWg,QVH,eE,seval]
  ·have b1:(o.kind==9)=false:=by simp[h9]
   simp only[b0,b1,QU0 h,QU0 h9,eE,seval];refine Qb (FY o.kind) rfl rfl rfl (.inl rfl) ?_;cases isk o.kind<;>simp only[QWn,QWg,eE,seval]

def UnI (g:PG)(k:Nat)(st:St):Prop :=
 ∃f fr i n b,st=⟨f,[fr],[]⟩∧k=g.ops.length-i∧i≤g.ops.length∧(g.ops.take i).all XT=true∧Z2 g.ops 0 (-1)=Z2 (g.ops.drop i) n b∧0≤n∧n≤i∧-1≤b∧b<n∧f 1=.ptr 0 1 0∧f 3=.int .i64 (n-1)∧f 4=.int .i64 b∧
  f 8=.list (g.ops.map fun o=>.agg o.cells)∧f 9=.int .i64 (g.ops.length:Nat)∧f 10=.int .i64 (i:Nat)∧fr 1=.cells g.cells∧∀s∈[6],(fr s).isRow=false

theorem Gm {l:List PO}{i:Nat}{o:PO}(h:l[i]? = some o)(n b:Int):Z2 (l.drop i) n b=if o.union=n then Z2 (l.drop (i+1)) (n+1) n else if o.union = -1∨o.union=b then Z2 (l.drop (i+1)) n o.union else none:=by
 have hlt:i<l.length:=(QUM.1 h).1;rw[QVu hlt,show l[i]=o from(QUM.1 h).2];rfl

theorem QOT (g:PG)(hl:g.ops.length≤9223372036854775000):Qj Tryz.prog 166 [Qn g] (.bool (g.ops.all XT&&ZP g)):=by
 refine Qe0.fn (by simp) ?_;simp only[Qn,PG.cells,QVH,eE,seval];refine Qd (UnI g) _ ⟨_,_,0,0,-1,rfl,rfl,QUU _,rfl,rfl,by decide,by decide,by decide,by decide,(by rfl),(by rfl),(by rfl),(by rfl),(by rfl),(by rfl),(by rfl),by simp<;>rfl⟩ ?_;rintro _ st ⟨f0,fr0,i,n,b,rfl,rfl,hil,hu,hj,hn0,hni,hb1,hbn,h10,h30,h40,h80,h90,hA0,m10,r6⟩;refine QO (a:=_) [6] r6 ?_;intro f fr hf hm hn6;have h1:f 1=.ptr 0 1 0:=by rw[hf,h10]<;>rfl
 have h3:f 3=.int .i64 (n-1):=by rw[hf,h30]<;>rfl
 have h4:f 4=.int .i64 b:=by rw[hf,h40]<;>rfl
 have h8:f 8=.list (g.ops.map fun o=>.agg o.cells):=by rw[hf,h80]<;>rfl
 have h9:f 9=.int .i64 (g.ops.length:Nat):=by rw[hf,h90]<;>rfl
 have hA:f 10=.int .i64 (i:Nat):=by rw[hf,hA0]<;>rfl
 have m1:fr 1=.cells g.cells:=by rw[hm 1 (by decide),m10]<;>rfl
 have n6:=hn6 6 (by decide);clear hf hm hn6 h10 h30 h40 h80 h90 hA0 m10 r6;simp only[PG.cells]at m1;have w0:IntKind.i64.wrap (n-1+1)=n:=by rw[QG];omega
 simp only[h9,hA,Qa,seval];by_cases hlt:i<g.ops.length
 ·obtain⟨o,hi⟩:∃o,g.ops[i]? = some o:=⟨g.ops[i],QUN hlt⟩;have hg:(g.ops.map fun o=>AV.agg o.cells)[i]? = some (.agg o.cells):=by simp[hi]
  have e1:=Qq i _ hlt (by simp only[maxLen];omega);have ht:=Q2 (q:=XT) hi;rw[hu,QWn]at ht;have hbad:XT o=false→g.ops.all XT=false:=fun h=>by
   rw[QWz];intro h';rw[QUY.1 h' o (QUZ hi)]at h;cases h
  rw[Gm hi]at hj;have fin:∀(f':Fr) (fr':Nat→Ob) (n':Int),XT o=true→(if o.union=n then n'=n+1 else n'=n)→Z2 g.ops 0 (-1)=Z2 (g.ops.drop (i+1)) n' o.union→(o.union=n∨o.union = -1∨o.union=b)→f' 1=.ptr 0 1 0→f' 3=.int .i64 (n'-1)→f' 4=.int .i64 o.union→
    f' 8=.list (g.ops.map fun o=>.agg o.cells)→f' 9=.int .i64 (g.ops.length:Nat)→f' 10=.int .i64 ((i+1:Nat):Int)→fr' 1=.cells g.cells→(∀s∈[6],(fr' s).isRow=false)→∃k,k<g.ops.length-i∧UnI g k ⟨f',[fr'],[]⟩:=by
   intro f' fr' n' a b' c d e1 e3 e4 e8 e9 eA em er;refine⟨g.ops.length-(i+1),by omega,f',fr',i+1,n',o.union,rfl,rfl,by omega,by rw[ht,a],c,?_,?_,?_,?_,e1,e3,e4,e8,e9,eA,em,er⟩<;>split at b'<;>omega
  simp only[PO.cells]at hg;simp only[Qm hlt,Qi,QWd,Qc,hg,PO.cells,n6,h8,hA,eE,seval];by_cases a1:o.union = -1
  ·have b1:(o.union != -1)=false:=by simp[a1]
   have hk:XT o=true:=by simp[XT,a1]
   rw[QU0 (by omega),QVf (.inl a1)]at hj;have mx:(if n-1<o.union then o.union else n-1)=n-1:=QU0 (by omega);simp only[b1,h3,hA,mx,e1,eE,seval];exact fin _ _ n hk (by rw[QU0 (by omega)]) hj (.inr (.inl a1)) (by exact h1) (by rfl) (by rfl) (by exact h8) (by exact h9) (by rfl) (by exact m1) (by simp<;>rfl)
  have b1:(o.union != -1)=true:=by simp[a1]
  by_cases a2:o.card=2
  case neg=>
   have b2:(o.card != 2)=true:=by simp[a2]
   have hk:XT o=false:=by simp[XT,a1,a2]
   simp only[b1,b2,hbad hk,QWg,eE,seval]
  have b2:(o.card != 2)=false:=by simp[a2]
  have hk:XT o=true:=by simp[XT,a2]
  by_cases a3:o.union=n
  ·have b3:(o.union != n)=false:=by simp[a3]
   rw[QVf a3,←a3]at hj;have mx:(if n-1<o.union then o.union else n-1)=o.union:=QVf (by omega);simp only[b1,b2,b3,h3,hA,w0,mx,e1,eE,seval];exact fin _ _ (o.union+1) hk (by rw[QVf a3,a3]) hj (.inl a3) (by exact h1) (by simp only[Qa,seval];congr 1;omega) (by rfl) (by exact h8) (by exact h9) (by rfl) (by exact m1) (by simp<;>rfl)
  have b3:(o.union != n)=true:=by simp[a3]
  by_cases a4:o.union=b
  ·have b4:(o.union != b)=false:=by simp[a4]
   rw[QU0 a3,QVf (.inr a4)]at hj;have mx:(if n-1<o.union then o.union else n-1)=n-1:=QU0 (by omega);simp only[b1,b2,b3,b4,h3,h4,hA,w0,mx,e1,eE,seval];exact fin _ _ n hk (by rw[QU0 a3]) hj (.inr (.inr a4)) (by exact h1) (by rfl) (by rfl) (by exact h8) (by exact h9) (by rfl) (by exact m1) (by simp<;>rfl)
  ·have b4:(o.union != b)=true:=by simp[a4]
   rw[QU0 a3,QU0 (by omega)]at hj;have hun:ZP g=false:=by unfold ZP;rw[hj]
   simp only[b1,b2,b3,b4,hun,QWE,h3,h4,w0,eE,seval]
 ·rw[QVk (by omega)]at hu;rw[QVn (by omega)]at hj;have hun:ZP g=(g.unions==n):=by unfold ZP;rw[hj];rfl
  simp only[QB hlt,h1,h3,m1,w0,hu,hun,QWn,eE,seval]

theorem QOU (o:PO)(fr2 fr:Nat→Ob)(h1:fr 1=.cells [.list (P.progs.map Qn),.list (P.enums.map Qr)]):Qh Tryz.prog 167 [Qt o,.ptr 7 1 0] [Qe,Qe,Qe,fr2,Qe,Qe,Qe,fr] fun y m1=>y=.bool (!X3 P o)∧m1=[Qe,Qe,Qe,fr2,Qe,Qe,Qe,fr]:=by
 have n1:decide ((o.alias.length:Int) > 4096)=!decide ((o.alias.length:Int)≤4096):=(by rw[QVG];simp only[QUR,QVK,QWD];omega);have n2:decide (o.card<1)=!decide (o.card≥1):=(by rw[QVG];simp only[QUR,QVK,QWD];omega);have n3:decide (o.card > 5)=!decide (o.card≤5):=(by rw[QVG];simp only[QUR,QVK,QWD];omega);have hk:=QOR o;have ha:Qj Tryz.prog 170 [.agg [.list (P.progs.map Qn),.list (P.enums.map Qr)],Qt o] (.bool (Gl P o)):=QOS P o;simp only[Qt,PO.cells]at hk ha;refine Qe5.go (by simp) ?_;simp only[Qt,PO.cells,X3,eE,seval];refine Qb (Qu4 o.alias) rfl rfl rfl (.inl rfl) ?_;cases U8 o.alias
 ·simp only[QWg,QVT,Qa,seval]
 simp only[QWn,QWo,n1,eE,seval];cases a1:decide ((o.alias.length:Int)≤4096)
 ·simp only[QWg,QVT,Qa,seval]
 simp only[n2,QWn,QWo,eE,seval];cases a2:decide (o.card≥1)
 ·simp only[QWg,QVT,Qa,seval]
 simp only[n3,QWn,QWo,eE,seval];cases a3:decide (o.card≤5)
 ·simp only[QWg,QVT,Qa,seval]
 simp only[QWn,QWo,eE,seval];refine Qb hk rfl rfl rfl (.inl rfl) ?_;cases key o
 ·simp only[QWg,QVT,Qa,seval]
 simp only[QWn,QWo,h1,eE,seval];refine Qb ha rfl rfl rfl (.inl rfl) ?_;simp only[Qa,seval]

theorem QOV (g:PG)(hl:g.ops.length≤9223372036854775000)(fr:Nat→Ob)(h1:fr 1=.cells [.list (P.progs.map Qn),.list (P.enums.map Qr)]) :
  Qh Tryz.prog 165 [Qn g,.ptr 3 1 0] [Qe,Qe,Qe,fr] fun y m1=>y=.bool (!ZY P g)∧m1=[Qe,Qe,Qe,fr]:=by
 have hu:=QOT g hl;have e:ZY P g=((g.ops.all XT&&ZP g)&&g.ops.all (X3 P)):=by
  unfold ZY;rw[show(g.ops.all fun o=>X3 P o&&XT o)=(g.ops.all (X3 P)&&g.ops.all XT)from Lv ..];cases ZP g<;>cases g.ops.all (X3 P)<;>cases g.ops.all XT<;>rfl
 simp only[Qn,PG.cells]at hu;refine QeM.go (by simp) ?_;simp only[Qn,PG.cells,e,eE,seval];refine Qb hu rfl rfl rfl (.inl rfl) ?_;cases(g.ops.all XT&&ZP g)
 ·simp only[QWg,QVT,Qa,seval]
 simp only[QWn,QWo,eE,seval];refine Qk (F4 g.ops (by simp only[maxLen];omega) (fun o=>!X3 P o) 167 [.ptr 4 1 0] _ fun o _=>QOU P o _ fr h1) (by simp only[QVi,QVN,Qa,seval]<;>rfl) ?_;simp only[Xk,Qa,seval]

end

def VK:FB:=fun k=>match k with
 |249=>some (Qtu,Qtv,16)
 |_=>none
theorem NH:H2 Tryz.prog VK:=by
 intro k c rs N h;unfold VK at h;split at h
 ·cases h;exact QMW
 ·cases h
def MN:Option (AV×Qp)→Bool
 |some (.mp ks vs,_)=>match JB alias ks vs with
  |some (.agg [.int .i64 a,.int .i64 b])=>a==7&&b==84
  |_=>false
 |_=>false
theorem MO:MN (WY Ev.nat VK (Z0 Ev.nat VK 300) 249 [] [])=true:=by decide +kernel
theorem Qu9:∃ks vs,Qj Tryz.prog 249 [] (.mp ks vs)∧JB alias ks vs=some (.agg [.int .i64 7,.int .i64 84]):=by
 have h:=MO;unfold MN at h;split at h
 ·rename_i ks vs m' h1;split at h
  ·rename_i a b h2;simp only[QVa,QUS]at h;obtain⟨rfl,rfl⟩:=h;exact⟨ks,vs,(WD Ev.nat_ok NH (CZ Ev.nat_ok NH 300) _ _ _ _ _ h1).mono fun _ _ e=>e.1,h2⟩
  ·cases h
 ·cases h

theorem QOW:Qj Tryz.prog 278 [.str alias] (.int .i64 7):=by
 obtain⟨ks,vs,h1,h2⟩:=Qu9;have hg:AV.gr (.agg [.int .i64 7,.int .i64 84])=true:=rfl;refine QNn.fn (by simp) ?_;simp only[Qa,seval];refine Qb h1 rfl rfl rfl (.inl rfl) ?_;simp only[Ww,h2,hg,Qa,seval]

section
variable (kd:Int)(b:Nat)(t:List UInt8)(l p s r:List AV)(hl:l.length≤140737488351232)(hp:p.length≤140737488351232)(hs:s.length≤140737488351232)(hr:r.length≤140737488351232)

def nv:AV:=.agg [.str alias,.int .i64 kd,.int .u64 (b:Nat),.str t,.list l,.list p,.list s,.list r]

include hl hp hs hr in
theorem QOX:Qj Tryz.prog 250 [nv kd b t l p s r] (.bool (Xx 7 kd b t l p s r)):=by
 have hf:=QOQ 7 kd b t l p s r hl hp hs hr;have b0:((7:Int) != 0)=true:=rfl;simp only[vo]at hf;refine QMZ.fn (by simp) ?_;simp only[nv,eE,seval];refine Qb QOW rfl rfl rfl (.inl rfl) ?_;simp only[b0,eE,seval];refine Qb hf rfl rfl rfl (.inl rfl) ?_;simp only[Qa,seval]

include hl hp hs hr in
theorem QOY (last:List UInt8):Qj Tryz.prog 218 [nv kd b t l p s r,.int .i64 4,.str last,.bool false] (.int .i64 (if Xx 7 kd b t l p s r=true then 0 else 12)):=by
 have hf:=QOX kd b t l p s r hl hp hs hr;obtain⟨ks,vs,h1,h2⟩:=Qu9;have hg:AV.gr (.agg [.int .i64 7,.int .i64 84])=true:=rfl;have b0:decide ((4:Int)<1)=false:=rfl;have b1:decide ((4:Int) > 6)=false:=rfl;have b2:(0≤(4:Int))=True:=by simp
 have b3:(bits .and .i64 (Int.fdiv 84 (2 ^ min 4 64)) 1==0)=false:=by decide
 have b4:(bits .and .i64 ((84:Int).fdiv (2 ^ (min (4:Int).toNat IntKind.i64.bits))) 1==0)=false:=by decide
 simp only[nv]at hf;refine QMs.fn (by simp) ?_;simp only[nv,eE,seval];refine Qb h1 rfl rfl rfl (.inl rfl) ?_;simp only[h2,hg,b2,b3,eE,seval];refine Qb hf rfl rfl rfl (.inl rfl) ?_;cases Xx 7 kd b t l p s r
 ·simp only[QVT,QU5,Qa,seval]
 ·simp only[QWo,Qa,seval]

def NcI (k:Nat)(st:St):Prop :=
 ∃f fr i,st=⟨f,[fr],[]⟩∧k=1-i∧i≤1∧(i=0→∃last,f 5=.str last)∧(i=1→Xx 7 kd b t l p s r=true)∧f 1=.int .i64 4∧f 12=.list [nv kd b t l p s r]∧f 13=.int .i64 1∧f 14=.int .i64 (i:Nat)∧∀s∈[7],(fr s).isRow=false

include hl hp hs hr in
theorem QOZ:Qj Tryz.prog 173 [.list [nv kd b t l p s r],.int .i64 4] (.int .i64 (if Xx 7 kd b t l p s r=true then 0 else 12)):=by
 have b0:decide (((1:Nat):Int) > 8)=false:=rfl;refine QLK.fn (by simp) ?_;simp only[QU1,QVI,QVs,Qa,seval];refine Qd (NcI kd b t l p s r) 1 ⟨_,_,0,rfl,rfl,QUU _,fun _=>⟨[],(by rfl)⟩,(fun h=>by cases h),(by rfl),(by rfl),(by rfl),(by rfl),by simp<;>rfl⟩ ?_;rintro _ st ⟨f0,fr0,i,rfl,rfl,hi,hl5,hf,h10,h120,h130,h140,r7⟩;refine QO (a:=_) [7] r7 ?_;intro f fr hff hm hn7;have h1:f 1=.int .i64 4:=by rw[hff,h10]<;>rfl
 have h12:f 12=.list [nv kd b t l p s r]:=by rw[hff,h120]<;>rfl
 have h13:f 13=.int .i64 1:=by rw[hff,h130]<;>rfl
 have h14:f 14=.int .i64 (i:Nat):=by rw[hff,h140]<;>rfl
 have h5:i=0→∃last,f 5=.str last:=fun h=>by
  obtain⟨la,e⟩:=hl5 h;exact⟨la,by rw[hff,e]<;>rfl⟩
 have n7:=hn7 7 (by decide);clear hff hm hn7 h10 h120 h130 h140 r7 hl5;have ho:=fun la=>QOY kd b t l p s r hl hp hs hr la
 simp only[nv]at ho h12;simp only[h13,h14,Qa,seval];rcases Nat.le_one_iff_eq_zero_or_eq_one.1 hi with rfl|rfl
 ·obtain⟨la,h5⟩:=h5 rfl;have c0:decide (((0:Nat):Int)<1)=true:=rfl;have c1:decide (((0:Nat):Int) > 0)=false:=rfl;have e1:IntKind.i64.wrap (((0:Nat):Int)+1)=((1:Nat):Int):=rfl;have z0:(0≤((0:Nat):Int))=True:=by simp
  have z1:Int.toNat ((0:Nat):Int)=0:=rfl;simp only[Qc,n7,h1,h5,h12,h14,eE,seval];refine Qb (ho la) rfl rfl rfl (.inl rfl) ?_;cases hfv:Xx 7 kd b t l p s r
  ·have d0:((12:Int) != 0)=true:=rfl;simp only[d0,QU5,Qa,seval]
  ·have d0:((0:Int) != 0)=false:=rfl;simp only[d0,h14,eE,seval];exact⟨0,by omega,_,_,1,rfl,rfl,QUK _,(fun h=>by cases h),fun _=>hfv,(by exact h1),(by exact h12),(by exact h13),(by rfl),by simp<;>rfl⟩
 ·have c0:decide (((1:Nat):Int)<1)=false:=rfl;simp only[hf rfl,Qa,seval]

end

theorem VL {M:Nat}{n:PN}(h:n.ok Tryz.prog M 32)(hM:M≤140737488351232):∃kd b t l p s r,n.val=[.int .i64 kd,.int .u64 ((b:Nat):Int),.str t,.list l,.list p,.list s,.list r]∧t.length≤M∧l.length≤140737488351232∧p.length≤140737488351232∧s.length≤140737488351232∧r.length≤140737488351232:=by
 obtain⟨_,k,hk⟩:=h;obtain⟨k,h⟩:=X5 Tryz.underlying32 hk;simp only[Q5.HasL]at h;obtain⟨_,_,e,h0,_,_,rfl,h1,_,_,rfl,h2,_,_,rfl,h3,_,_,rfl,h4,_,_,rfl,h5,_,_,rfl,h6,rfl⟩:=h;obtain⟨a0,rfl,w0⟩:=Xo Tryz.underlying3 h0;obtain⟨a1,rfl,w1⟩:=Xo Tryz.underlying26 h1;obtain⟨a2,rfl,w2⟩:=Jn Tryz.underlying9 h2;obtain⟨_,l3,rfl,w3,_⟩:=K3 Tryz.underlying27 h3;obtain⟨_,l4,rfl,w4,_⟩:=K3 Tryz.underlying28 h4;obtain⟨_,l5,rfl,w5,_⟩:=K3 Tryz.underlying29 h5;obtain⟨_,l6,rfl,w6,_⟩:=K3 Tryz.underlying30 h6;have hb:0≤a1:=Fz w1;obtain⟨b,rfl⟩:=QWp hb;exact⟨a0,b,a2,_,_,_,_,e,w2,by simp;omega,by simp;omega,by simp;omega,by simp;omega⟩

theorem QO0 {M:Nat}(hM:M≤140737488351232)(x:PI)(hx:x.ok M)(m:Qp):Qh Tryz.prog 172 [Xg x] m fun y m1=>y=.bool (!ZR x)∧m1=m:=by
 have z0:(0≤(0:Int))=True:=by simp
 have z1:Int.toNat 0=0:=rfl;refine QLH.go (by simp) ?_;simp only[Xg,PI.cells,QVH,eE,seval];rcases hn:x.notes with _|⟨n,_|⟨n2,ns⟩⟩
 ·have c0:decide (((0:Nat):Int) > 1)=false:=rfl;have c1:(((0:Nat):Int)==1)=false:=rfl;have e:ZR x=true:=by unfold ZR;rw[hn]
  simp only[QVI,QVN,e,QWo,eE,seval]
 ·obtain⟨kd,b,t,l,p,s,r,hv,ht,h3,h4,h5,h6⟩:=VL (hx.notes n (by rw[hn];simp)) hM;have c0:decide (((1:Nat):Int) > 1)=false:=rfl;have c1:(((1:Nat):Int)==1)=true:=rfl;have e:ZR x=(n.name==alias&&Xx 7 kd b t l p s r):=by
   unfold ZR;rw[hn];show(n.name==alias&&nok n.val)=_;rw[hv];rfl
  have en:Xn n.cells=.agg [.str n.name,.int .i64 kd,.int .u64 ((b:Nat):Int),.str t,.list l,.list p,.list s,.list r]:=by
   rw[PN.cells,hv];rfl
  have hne:(!(n.name==[97,108,105,97,115]))=!(n.name==alias):=rfl;have hc:=QOZ kd b t l p s r h3 h4 h5 h6;simp only[nv]at hc;simp only[QU1,QVI,QVi,QVN,QVs,en,Qc,z0,z1,QVO,QM,hne,e,eE,seval];by_cases ha:n.name=alias
  ·have b0:(n.name==alias)=true:=by simp[ha]
   rw[←ha]at hc;simp only[b0,QWo,QWn,eE,seval];refine Qb hc rfl rfl rfl (.inl rfl) ?_;cases Xx 7 kd b t l p s r
   ·have d0:((12:Int) != 0)=true:=rfl;simp only[QU5,d0,QVT,Qa,seval]
   ·have d0:((0:Int) != 0)=false:=rfl;simp only[d0,QWo,Qa,seval]
  ·have b0:(n.name==alias)=false:=by simp[ha]
   simp only[b0,QVT,QWg,Qa,seval]
 ·have c0:decide ((((ns.length+1+1:Nat)):Int) > 1)=true:=QWC (by omega);have e:ZR x=false:=by unfold ZR;rw[hn]
  simp only[QU1,c0,e,QVT,Qa,seval]

theorem QO1 {M:Nat}(hM:M≤140737488351232)(x:PE)(hx:x.ok M)(m:Qp):Qh Tryz.prog 171 [Qr x] m fun y m1=>y=.bool (!Kn x)∧m1=m:=by
 have n1:decide ((x.notes.length:Int) > 0)=!x.notes.isEmpty:=by
  cases x.notes with
  |nil=>rfl
  |cons a l=>simp
 refine QLE.go (by simp) ?_;simp only[Qr,PE.cells,QVH,Kn,n1,eE,seval];cases a1:x.notes.isEmpty
 ·simp only[QVT,QWg,Qa,seval]
 simp only[QWo,QWn,eE,seval];refine Qk (VF x.items hx.len1 (fun o=>!ZR o) 172 [] _ fun o ho=>QO0 hM o (hx.items o ho) _) (by simp only[QVi,QVN,Qa,seval]<;>rfl) ?_;simp only[Xk,Qa,seval]

theorem z88 {M:Nat}(hM:M≤140737488351232)(P:PL)(hP:P.ok M)(hl:∀g∈P.progs,g.ops.length≤64):Qj Tryz.prog 88 [P.av] (.bool (!args P)):=by
 have e0:P.av=.agg [.list (P.progs.map Qn),.list (P.enums.map Qr)]:=rfl;refine k88.fn (by simp) ?_;simp only[e0,args,eE,seval];refine Qk (G8 P.progs hP.len1 (fun g=>!ZY P g) 165 [.ptr 0 1 0] _ fun o ho=>QOV P o (QUL (hl o ho) (by decide)) _ (by rfl)) (by simp only[QVi,QVN,Qa,seval]<;>rfl) ?_;simp only[Xk,Qa,seval];cases P.progs.all (ZY P)
 ·simp only[QVT,QWg,Qa,seval]
 simp only[QWo,QWn,eE,seval];refine Qk (Ho P.enums hP.len2 (fun g=>!Kn g) 171 [] _ fun o ho=>QO1 hM o (hP.enums o ho) _) (by simp only[QVi,QVN,Qa,seval]<;>rfl) ?_;simp only[Xk,Qa,seval]

def Xy (B:List Bool)(o:PO):Bool:=o.card==1&&o.kind==10 && !(B[o.target.toNat]?.getD false)
def Y8 (G:List PG)(B:List Bool)(i:Nat):List Bool:=match G[i]? with
 |some g=>B.set i (!g.ops.any (Xy B))
 |none=>B
def Z3 (G:List PG)(B:List Bool):Nat→List Bool
 |0=>B
 |i+1=>Y8 G (Z3 G B i) i
def Qf (G:List PG):Nat→List Bool
 |0=>List.replicate G.length false
 |c+1=>Z3 G (Qf G c) G.length
def fin (P:PL):Bool:=(Qf P.progs P.progs.length).all id

def MP (P:PL):Prop:=∀g∈P.progs,∀o∈g.ops,o.kind=10→0≤o.target∧o.target<(P.progs.length:Int)

theorem Lw (G:List PG)(B:List Bool)(i:Nat):(Y8 G B i).length=B.length:=by
 unfold Y8;split<;>simp
theorem Uz (G:List PG)(B:List Bool):∀i,(Z3 G B i).length=B.length
 |0=>rfl
 |i+1=>by rw[Z3,Lw,Uz G B i]
theorem UA (G:List PG):∀c,(Qf G c).length=G.length
 |0=>by simp[Qf]
 |c+1=>by rw[Qf,Uz,UA G c]

def NI (G:List PG)(B:List Bool):Prop:=∀(i:Nat) (g:PG),G[i]? = some g→B[i]? = some true→g.ops.any (Xy B)=false

theorem MQ {B B':List Bool}(h:∀k:Nat,B[k]?.getD false=true→B'[k]?.getD false=true){o:PO}(hn:Xy B o=false):Xy B' o=false:=by
 unfold Xy at *;cases hc:(o.card==1&&o.kind==10)
 ·rfl
 ·rw[hc]at hn;simp only[QWn,Bool.not_eq_false']at hn ⊢;rw[h _ hn]

theorem Lx {G:List PG}{B:List Bool}(h:NI G B)(i:Nat):NI G (Y8 G B i)∧∀k:Nat,B[k]?.getD false=true→(Y8 G B i)[k]?.getD false=true:=by
 have mono:∀k:Nat,B[k]?.getD false=true→(Y8 G B i)[k]?.getD false=true:=by
  intro k hk;unfold Y8;split
  ·rename_i g hg;by_cases hki:i=k
   ·subst hki;have hb:B[i]? = some true:=by
     cases hB:B[i]? with
     |none=>rw[hB]at hk;cases hk
     |some b=>rw[hB]at hk;simp at hk;rw[hk]
    have hlt:=(QUM.1 hb).1;rw[List.getElem?_set_self hlt,h i g hg hb];rfl
   ·rw[QWG hki];exact hk
  ·exact hk
 refine⟨fun j g hg hb=>?_,mono⟩;rw[List.any_eq_false];intro o ho;rw[Bool.not_eq_true];have hB:B[j]? = some true∨g.ops.any (Xy B)=false:=by
  unfold Y8 at hb;split at hb
  ·rename_i g' hg';by_cases hij:i=j
   ·subst hij;rw[hg]at hg';cases hg'
    right
    by_cases hlt:i<B.length
    ·rw[List.getElem?_set_self hlt]at hb
     simpa using hb
    ·rw[QWa (by simp;omega)]at hb;cases hb
   ·rw[QWG hij]at hb;exact .inl hb
  ·exact .inl hb
 have ha:g.ops.any (Xy B)=false:=hB.elim (h j g hg) id;rw[List.any_eq_false]at ha;exact MQ mono (by simpa using ha o ho)

theorem Da {G:List PG}{B:List Bool}(h:NI G B):∀i,NI G (Z3 G B i)
 |0=>h
 |i+1=>(Lx (Da h i) i).1
theorem NJ (G:List PG):∀c,NI G (Qf G c)
 |0=>by
  intro i g _ hb;rw[Qf,List.getElem?_replicate]at hb;split at hb<;>cases hb
 |c+1=>Da (NJ G c) _

theorem Qva {G:List PG}{B:List Bool}(h:NI G B){i:Nat}{g:PG}{b:Bool}(hg:G[i]? = some g)(hb:B[i]? = some b):Y8 G B i=B.set i (b || !g.ops.any (Xy B)):=by
 unfold Y8;rw[hg];cases b with
 |false=>rfl
 |true=>
  show B.set i _=B.set i (true||_);rw[h i g hg hb];rfl

theorem VM {P:Program}{f:Fr}{d:Nat}{Qf:List Am.Item}{m:Qp}{ds:List DF}{K:St→Prop}{k l s:Nat}{args:List RA}{ys:List AV}{v:AV}(hk:Qh P k ys m fun x m1=>x=v∧m1=m)(hy:args.map (RA.ev f)=ys)(h:QF P Qf ⟨QJ f d v,m,ds⟩ K) :
  QF P (⟨some d,.callK l s (.f k) args,none⟩ :: Qf) ⟨f,m,ds⟩ K:=by
 refine⟨k,[],[],v,m,rfl,?_,rfl,h⟩;show Qh P k (args.map (RA.ev f)++[]) m fun x m1=>x=v∧m1=m
 rw[QVP,hy];exact hk

theorem QO2 (B:List Bool)(hl:B.length≤maxLen):Qj Tryz.prog 219 [.list (B.map AV.bool),.bool false] (.int .i64 (XH (fun b=>!b) B 0)):=by
 let I:Nat→St→Prop:=fun k st=>∃f i,st=⟨f,[Qe],[]⟩∧k=B.length-i∧XH (fun b=>!b) B 0=XH (fun b=>!b) (B.drop i) i∧f 0=.list (B.map AV.bool)∧f 1=.bool false∧f 7=.int .i64 (B.length:Nat)∧f 8=.int .i64 (i:Nat)
 refine QiT.fn (by simp) ?_;simp only[QVH,Qa,seval];refine Qd I _ ⟨_,0,rfl,rfl,rfl,(by rfl),(by rfl),(by rfl),(by rfl)⟩ ?_;rintro _ st ⟨f,i,rfl,rfl,hx,h0,h1,h7,h8⟩;simp only[h7,h8,Qa,seval];by_cases hlt:i<B.length
 ·obtain⟨x,hi⟩:∃x,B[i]? = some x:=⟨B[i],QUN hlt⟩;have hg:(B.map AV.bool)[i]? = some (.bool x):=by simp[hi]
  have e1:=Qq i _ hlt hl;rw[Jc _ hi]at hx;cases x
  ·rw[QVf (show(!false)=true from rfl)]at hx;have b0:(false==false)=true:=rfl;simp only[Qm hlt,Qi,QWd,Qc,hg,b0,h0,h1,h8,hx,eE,seval]
  ·rw[QU0 (by decide)]at hx;have b0:(false==true)=false:=rfl;simp only[Qm hlt,Qi,QWd,Qc,hg,b0,h0,h1,h8,e1,eE,seval];exact⟨B.length-(i+1),by omega,_,i+1,rfl,rfl,hx,(by exact h0),(by exact h1),(by exact h7),(by rfl)⟩
 ·have hx':XH (fun b=>!b) B 0 = -1:=by rw[hx,QVn (by omega)];rfl
  simp only[QB hlt,hx',Qa,seval]

theorem QO3 (B:List Bool)(hl:B.length≤maxLen):Qj Tryz.prog 175 [.list (B.map AV.bool),.bool false] (.bool (!B.all id)):=by
 have e:(!B.all id)=B.any fun b=>!b:=by rw[Xk];rfl
 refine QfB.fn (by simp) ?_;simp only[Qa,seval];refine Qb (QO2 B hl) rfl rfl rfl (.inl rfl) ?_;simp only[JH,e,Qa,seval]

theorem QO4 (o:PO)(n:Nat)(B:List Bool)(hB:B.length=n)(ht:o.kind=10→0≤o.target∧o.target<(n:Int))(fr:Nat→Ob)(m:Qp)(h3:fr 3=.cells [.vec 0 9 1 0 n false])(h9:fr 9=.vec 1 1 (B.map AV.bool)) :
  Qh Tryz.prog 174 [Qt o,.ptr 3 3 0] (Qe :: Qe :: Qe :: fr :: m) fun y m1=>y=.bool (Xy B o)∧m1=Qe :: Qe :: Qe :: fr :: m:=by
 refine Qfw.go (by simp) ?_;simp only[Qt,PO.cells,Xy,eE,seval];cases a1:(o.card==1)
 ·simp only[QWg,Qa,seval]
 cases a2:(o.kind==10)
 ·simp only[a2,QWg,QWE,eE,seval]
 obtain⟨t1,t2⟩:=ht (by simpa using a2);obtain⟨t,hte⟩:=QWp t1;obtain⟨y,hy⟩:∃y,B[t]? = some y:=⟨B[t]'(by omega),QUN (by omega)⟩;have hg:(B.map AV.bool)[t]? = some (.bool y):=by simp[hy]
 have hlt:(t<n)=True:=eq_true (by omega);simp only[a2,hte,hy,hg,hlt,h3,h9,Qc,Qi,QWd,QVW,QWn,QVs,eE,seval]

structure En (P:PL)(c:Nat)(B:List Bool)(f:Fr)(fr:Nat→Ob):Prop where
 h1:f 1=.ptr 0 1 0
 m1:fr 1=.cells [.list (P.progs.map Qn),.list (P.enums.map Qr)]
 h3:f 3=.ptr 0 3 0
 m3:fr 3=.cells [.vec 0 9 1 0 P.progs.length false]
 m9:fr 9=.vec 1 1 (B.map AV.bool)
 h12:f 12=.int .i64 (P.progs.length:Nat)
 h13:f 13=.int .i64 (c:Nat)
 r5:∀s∈[5],(fr s).isRow=false

theorem En.drop {P:PL}{c:Nat}{B:List Bool}{f f':Fr}{fr fr':Nat→Ob}(h:En P c B f fr)(hf:∀i,f' i=Vs [5] (f i))(hm:∀i,i∉[5]→fr' i=HZ [5] (fr i))(hn:∀i∈[5],fr' i=.none):En P c B f' fr' where
 h1:=by rw[hf,h.h1]<;>rfl
 m1:=by rw[hm 1 (by decide),h.m1]<;>rfl
 h3:=by rw[hf,h.h3]<;>rfl
 m3:=by rw[hm 3 (by decide),h.m3]<;>rfl
 m9:=by rw[hm 9 (by decide),h.m9]<;>rfl
 h12:=by rw[hf,h.h12]<;>rfl
 h13:=by rw[hf,h.h13]<;>rfl
 r5:=fun s hs=>by rw[hn s hs]<;>rfl

def EnA (P:PL)(k:Nat)(st:St):Prop:=∃f fr c,st=⟨f,[fr],[]⟩∧k=P.progs.length-c∧c≤P.progs.length∧En P c (Qf P.progs c) f fr
def EnB (P:PL)(c:Nat)(k:Nat)(st:St):Prop:=∃f fr i,st=⟨f,[fr],[]⟩∧k=P.progs.length-i∧i≤P.progs.length∧En P c (Z3 P.progs (Qf P.progs c) i) f fr∧f 16=.list (P.progs.map Qn)∧f 17=.int .i64 (P.progs.length:Nat)∧f 18=.int .i64 (i:Nat)

theorem z89 {M:Nat}(P:PL)(hP:P.ok M)(hl:P.progs.length≤64)(hT:MP P):Qj Tryz.prog 89 [P.av] (.bool (!fin P)):=by
 have e0:P.av=.agg [.list (P.progs.map Qn),.list (P.enums.map Qr)]:=rfl;have hmx:P.progs.length≤maxLen:=by simp only[maxLen];omega
 have hz:JD 1 [AV.bool false]=.bool false:=rfl;have hr0:(List.replicate P.progs.length (AV.bool false))=(Qf P.progs 0).map AV.bool:=by simp[Qf]
 refine k89.fn (by simp) ?_;simp only[e0,QVH,eE,seval];refine Uw (n:=P.progs.length) (k:=P.progs.length) rfl rfl (QUK _) (by omega) (by omega) rfl ?_;simp only[hz,hr0,QVH,eE,seval];refine Qd (EnA P) _ ⟨_,_,0,rfl,rfl,QUU _,⟨(by rfl),(by rfl),(by rfl),(by rfl),(by rfl),(by rfl),(by rfl),by simp<;>rfl⟩⟩ ?_;rintro _ st ⟨f0,fr0,c,rfl,rfl,hc,H0⟩;refine QO (a:=_) [5] H0.r5 ?_;intro f fr hf hm hn;have H:=H0.drop hf hm hn;clear hf hm hn;obtain⟨h1,m1,h3,m3,m9,h12,h13,r5⟩:=id H;simp only[h12,h13,Qa,seval];by_cases hlt:c<P.progs.length
 ·have e1:=Qq c _ hlt hmx;simp only[Qm hlt,h1,m1,QVH,eE,seval];refine Qd (EnB P c) _ ⟨_,_,0,rfl,rfl,QUU _,⟨(by exact h1),(by exact m1),(by exact h3),(by exact m3),(by exact m9),(by exact h12),(by exact h13),r5⟩,(by rfl),(by rfl),(by rfl)⟩ ?_;rintro _ st ⟨f0,fr0,i,rfl,rfl,hi,H0,h160,h170,h180⟩;refine QO (a:=_) [5] H0.r5 ?_;intro f fr hf hm hn;have H:=H0.drop hf hm hn;have h16:f 16=.list (P.progs.map Qn):=by rw[hf,h160]<;>rfl
  have h17:f 17=.int .i64 (P.progs.length:Nat):=by rw[hf,h170]<;>rfl
  have h18:f 18=.int .i64 (i:Nat):=by rw[hf,h180]<;>rfl
  have n5:=hn 5 (by decide);clear hf hm hn;obtain⟨h1,m1,h3,m3,m9,h12,h13,r5⟩:=id H;simp only[h17,h18,Qa,seval];by_cases hli:i<P.progs.length
  ·obtain⟨g,hg⟩:∃g,P.progs[i]? = some g:=⟨P.progs[i],QUN hli⟩;have hgm:(P.progs.map Qn)[i]? = some (Qn g):=by simp[hg]
   have hBl:(Z3 P.progs (Qf P.progs c) i).length=P.progs.length:=by rw[Uz,UA]
   obtain⟨b,hb⟩:∃b,(Z3 P.progs (Qf P.progs c) i)[i]? = some b:=⟨_,QUN (by omega)⟩;have hbm:((Z3 P.progs (Qf P.progs c) i).map AV.bool)[i]? = some (.bool b):=by simp[hb]
   have hst:=Qva (Da (NJ P.progs c) i) hg hb;have e2:=Qq i _ hli hmx;have s1:(i<P.progs.length)=True:=eq_true hli;have hTg:=hT g (QUZ hg);generalize hBB:Z3 P.progs (Qf P.progs c) i=B at *;have fin2:∀(f':Fr) (fr':Nat→Ob) (v:Bool),(b || !g.ops.any (Xy B))=v→f' 1=.ptr 0 1 0→fr' 1=.cells [.list (P.progs.map Qn),.list (P.enums.map Qr)]→f' 3=.ptr 0 3 0→fr' 3=.cells [.vec 0 9 1 0 P.progs.length false]→
     fr' 9=.vec 1 1 ((B.map AV.bool).set i (.bool v))→f' 12=.int .i64 (P.progs.length:Nat)→f' 13=.int .i64 (c:Nat)→(∀s∈[5],(fr' s).isRow=false)→f' 16=.list (P.progs.map Qn)→f' 17=.int .i64 (P.progs.length:Nat)→f' 18=.int .i64 ((i+1:Nat):Int)→∃k,k<P.progs.length-i∧EnB P c k ⟨f',[fr'],[]⟩:=by
    intro f' fr' v hv a1 a2 a3 a4 a5 a6 a7 a8 a9 a10 a11;have hB':Z3 P.progs (Qf P.progs c) (i+1)=B.set i v:=by rw[Z3,hBB,hst,hv]
    exact⟨P.progs.length-(i+1),by omega,f',fr',i+1,rfl,rfl,by omega,⟨a1,a2,a3,a4,by rw[hB',a5,List.map_set],a6,a7,a8⟩,a9,a10,a11⟩
   have ist:∀(fr':Nat→Ob) (v:Bool),fr' 9=.vec 1 1 (B.map AV.bool)→QV [fr'] (.vptr 0 9 1 i 0) [.bool v]=some [QJ fr' 9 (.vec 1 1 ((B.map AV.bool).set i (.bool v)))]:=by
    intro fr' v h9;have e:Am.Qg [fr'] 0 9=.vec 1 1 (B.map AV.bool):=h9;simp only[QV,e,hbm];simp[AV.cells,AV.rfL,AV.rf,Am.put,Zz]
   have ia:∀fr':Nat→Ob,fr' 9=.vec 1 1 (B.map AV.bool)→Qc [fr'] 1 none (.vec 0 9 1 0 P.progs.length false) (i:Int)=some (.vptr 0 9 1 i 0):=by
    intro fr' h9;have e:Am.Qg [fr'] 0 9=.vec 1 1 (B.map AV.bool):=h9;simp only[Qc,e,Qi,if_true,QWd];simp;omega
   have hcl:=fun(fr':Nat→Ob) (h3:fr' 3=.cells [.vec 0 9 1 0 P.progs.length false]) (h9:fr' 9=.vec 1 1 (B.map AV.bool))=>F4 g.ops (hP.progs g (QUZ hg)).len (Xy B) 174 [.ptr 0 3 0] [fr'] fun o ho=>QO4 o P.progs.length B hBl (hTg o ho) fr' _ h3 h9
   simp only[Qm hli,Qi,QWd,Qc,hgm,Qn,PG.cells,n5,hbm,s1,QVs,h3,h16,h18,m3,m9,eE,seval];cases b
   ·simp only[eE,seval];refine VM (hcl _ (by exact m3) (by exact m9)) (by simp only[QVi,QVN,h3,Qa,seval]<;>rfl) ?_;generalize hav:g.ops.any (Xy B)=av;rw[hav]at fin2;simp only[ia,ist,h18,m9,e2,eE,seval];exact fin2 _ _ _ rfl (by exact h1) (by exact m1) (by exact h3) (by exact m3) (by rfl) (by exact h12) (by exact h13) (by simp<;>rfl) (by exact h16) (by exact h17) (by rfl)
   ·simp only[ia,ist,h18,m9,e2,eE,seval];exact fin2 _ _ _ rfl (by exact h1) (by exact m1) (by exact h3) (by exact m3) (by rfl) (by exact h12) (by exact h13) (by simp<;>rfl) (by exact h16) (by exact h17) (by rfl)
  ·have hii:i=P.progs.length:=by omega
   subst hii;simp only[QB hli,h13,e1,Qa,seval];exact⟨P.progs.length-(c+1),by omega,_,_,c+1,rfl,rfl,by omega,⟨(by exact h1),(by exact m1),(by exact h3),(by exact m3),m9,(by exact h12),(by rfl),r5⟩⟩
 ·have hcc:c=P.progs.length:=by omega
  subst hcc;have hBl:=UA P.progs P.progs.length;simp only[QB hlt,h3,m3,eE,seval];refine Qb (QO3 (Qf P.progs P.progs.length) (by omega)) ?_ rfl rfl (.inr rfl) ?_
  ·have el:Am.Qg [fr] 0 9=.vec 1 1 ((Qf P.progs P.progs.length).map AV.bool):=m9;simp only[QVi,QVN,AV.stillL,AV.still,el,Qa,seval];have hle:(0+P.progs.length≤((Qf P.progs P.progs.length).map AV.bool).length)=True:=eq_true (by simp;omega);have ht:((Qf P.progs P.progs.length).map AV.bool).take P.progs.length=(Qf P.progs P.progs.length).map AV.bool:=QVk (by simp;omega);simp only[QWg,QU5,if_false,hle,if_true,ht]
  ·simp only[fin,Qa,seval]

def ck (P:PL):Int :=
 if U6 P=false then 3 else if F1 P=false then 8 else if U7 P=false then 11 else if F2 P=false then 9 else if F3 P=false then 6 else if args P=false then 1 else if fin P=false then 19 else 0

theorem Y9 {P:PL}(h:U6 P=true):P.progs.length≤64∧P.enums.length≤64∧(∀g∈P.progs,g.ops.length≤64)∧∀e∈P.enums,1≤e.items.length∧e.items.length≤64∧e.free.length≤16:=by
 unfold U6 at h;simp only[QVa,QUR,QUY]at h;obtain⟨⟨⟨h1,h2⟩,h3⟩,h4⟩:=h;refine⟨h1,h2,fun g hg=>?_,fun e he=>?_⟩
 ·have:=h3 g hg;unfold ZX at this;exact of_decide_eq_true this
 ·have:=h4 e he;unfold Jt at this;simp only[QVa,QUR]at this;exact⟨this.1.1,this.1.2,this.2⟩

theorem Bd {P:PL}(h:args P=true):MP P:=by
 intro g hg o ho hk;unfold args at h;simp only[QVa,QUY]at h;have h1:=h.1 g hg;unfold ZY at h1;simp only[QVa,QUY]at h1;have h2:=(h1.2 o ho).1;unfold X3 at h2;simp only[QVa]at h2;have h3:=h2.2;unfold Gl at h3;rw[QVf hk]at h3;simp only[QVa,QUR]at h3;exact⟨h3.1.1,h3.1.2⟩

theorem QO5 {M:Nat}(P:PL)(hP:P.ok M)(hM:M≤140737488351232)(hN1:∀g∈P.progs,g.name.length≤17592186044000)(hN2:∀g∈P.enums,g.name.length≤17592186044000):Qj Tryz.prog 54 [P.av] (.int .i64 (ck P)):=by
 have e0:P.av=.agg [.list (P.progs.map Qn),.list (P.enums.map Qr)]:=rfl;have c1:=z83 P hP;have c2:=QOl P hP hN1 hN2;have c3:=z85 P hP;have c4:=z86 P hP;refine k54.fn (by simp) ?_;simp only[e0,ck,eE,seval];refine Qb c1 rfl rfl rfl (.inl rfl) ?_;cases hl:U6 P
 ·simp only[QVT,Qa,seval]
 obtain⟨l1,l2,l3,l4⟩:=Y9 hl;have c5:=z87 P hP fun e he h=>by have:=(l4 e he).1;rw[h]at this;simp at this
 have c6:=z88 hM P hP l3;simp only[QWo,QWH,eE,seval];refine Qb c2 rfl rfl rfl (.inl rfl) ?_;cases F1 P
 ·simp only[QVT,Qa,seval]
 simp only[QWo,QWH,eE,seval];refine Qb c3 rfl rfl rfl (.inl rfl) ?_;cases U7 P
 ·simp only[QVT,Qa,seval]
 simp only[QWo,QWH,eE,seval];refine Qb c4 rfl rfl rfl (.inl rfl) ?_;cases F2 P
 ·simp only[QVT,Qa,seval]
 simp only[QWo,QWH,eE,seval];refine Qb c5 rfl rfl rfl (.inl rfl) ?_;cases F3 P
 ·simp only[QVT,Qa,seval]
 simp only[QWo,QWH,eE,seval];refine Qb c6 rfl rfl rfl (.inl rfl) ?_;cases ha:args P
 ·simp only[QVT,Qa,seval]
 have c7:=z89 P hP l1 (Bd ha);simp only[QWo,QWH,eE,seval];refine Qb c7 rfl rfl rfl (.inl rfl) ?_;cases fin P
 ·simp only[QVT,Qa,seval]
 ·simp only[QWo,QWH,Qa,seval]

def Pc (P:PL):List AV:=[.list (P.progs.map Qn),.list (P.enums.map Qr)]

theorem Jg (b:Bool)(q:Nat→Bool)(i:Nat):(b&&QC q (i+1))=((b&&QC q i)&&q i):=by rw[QC,QVw]

section
variable {M:Nat}(P:PL)(hP:P.ok M)(fr:Nat→Ob)(m1:fr 1=.cells (Pc P))(f:Fr)(b:Bool)(h1:f 1=.ptr 0 1 0)(h3:f 3=.bool b)(Q:Exit→St→Prop)
include hP m1 h1 h3

theorem VN (ha:f 4=.int .i64 0)(hx:∀f,f 1=.ptr 0 1 0→f 3=.bool (b&&P.progs.all ZX)→Q (.exit 0) (⟨f,[fr],[]⟩:St)):QI Tryz.prog (.loop R3) ⟨f,[fr],[]⟩ Q:=by
 let I:Nat→St→Prop:=fun k st=>∃f i,st=⟨f,[fr],[]⟩∧k=P.progs.length-i∧i≤P.progs.length∧f 1=.ptr 0 1 0∧f 3=.bool (b&&(P.progs.take i).all ZX)∧f 4=.int .i64 (i:Nat)
 refine Qd I _ ⟨f,0,rfl,rfl,QUU _,h1,by rw[h3];simp,ha⟩ ?_;clear h1 h3 ha;simp only[Pc]at m1;rintro _ st ⟨f,i,rfl,rfl,hi,h1,h3,ha⟩;simp only[QVH,h1,m1,ha,eE,seval];by_cases hlt:i<P.progs.length
 ·obtain⟨x,hg⟩:∃x,P.progs[i]? = some x:=⟨P.progs[i],QUN hlt⟩;have hgm:(P.progs.map Qn)[i]? = some (.agg x.cells):=by simp[hg,Qn]
  have e1:=Qq i _ hlt hP.len1;have ht:=Q2 (q:=ZX) hg;have e3:decide ((x.ops.length:Int)≤64)=ZX x:=by unfold ZX ;exact(by rw[QVG];simp only[QUR];omega)
  have fin:∀f':Fr,f' 1=.ptr 0 1 0→f' 3=.bool ((b&&(P.progs.take i).all ZX)&&ZX x)→f' 4=.int .i64 ((i+1:Nat):Int)→∃k,k<P.progs.length-i∧I k ⟨f',[fr],[]⟩:=by
   intro f' a1 a3 a4;exact⟨P.progs.length-(i+1),by omega,f',i+1,rfl,rfl,by omega,a1,by rw[a3,ht,QVw],a4⟩
  simp only[PG.cells]at hgm;cases hb:(b&&(P.progs.take i).all ZX)
  ·rw[hb]at fin h3;simp only[Qm hlt,h3,ha,e1,Qa,seval];exact fin _ (by exact h1) (by rfl) (by rfl)
  ·rw[hb,QWn]at fin;rw[hb]at h3
   skip
   all_goals
    try rw[c1]at e3
    try rw[c2]at e3
    simp only[Qm hlt,Qi,QWd,Qc,hgm,QVH,h1,m1,h3,ha,e1,e3,eE,seval];exact fin _ (by exact h1) (by rw[←e3]<;>first|rfl|simp only[eE,seval]) (by rfl)
 ·have hf:(P.progs.take i).all ZX=P.progs.all ZX:=by rw[QVk (by omega)]
  rw[hf]at h3;simp only[QB hlt,Qa,seval];exact hx _ (by exact h1) (by exact h3)

theorem VP (ha:f 5=.int .i64 0)(hx:∀f,f 1=.ptr 0 1 0→f 3=.bool (b&&P.enums.all Jt)→Q (.exit 2) (⟨f,[fr],[]⟩:St)):QI Tryz.prog (.loop R4) ⟨f,[fr],[]⟩ Q:=by
 let I:Nat→St→Prop:=fun k st=>∃f i,st=⟨f,[fr],[]⟩∧k=P.enums.length-i∧i≤P.enums.length∧f 1=.ptr 0 1 0∧f 3=.bool (b&&(P.enums.take i).all Jt)∧f 5=.int .i64 (i:Nat)
 refine Qd I _ ⟨f,0,rfl,rfl,QUU _,h1,by rw[h3];simp,ha⟩ ?_;clear h1 h3 ha;simp only[Pc]at m1;rintro _ st ⟨f,i,rfl,rfl,hi,h1,h3,ha⟩;simp only[QVH,h1,m1,ha,eE,seval];by_cases hlt:i<P.enums.length
 ·obtain⟨x,hg⟩:∃x,P.enums[i]? = some x:=⟨P.enums[i],QUN hlt⟩;have hgm:(P.enums.map Qr)[i]? = some (.agg x.cells):=by simp[hg,Qr]
  have e1:=Qq i _ hlt hP.len2;have ht:=Q2 (q:=Jt) hg;have e3:(decide ((x.items.length:Int)≥1)&&(decide ((x.items.length:Int)≤64)&&decide ((x.free.length:Int)≤16)))=Jt x:=by unfold Jt ;exact(by rw[QVG];simp only[QUR,QVa];omega)
  have fin:∀f':Fr,f' 1=.ptr 0 1 0→f' 3=.bool ((b&&(P.enums.take i).all Jt)&&Jt x)→f' 5=.int .i64 ((i+1:Nat):Int)→∃k,k<P.enums.length-i∧I k ⟨f',[fr],[]⟩:=by
   intro f' a1 a3 a4;exact⟨P.enums.length-(i+1),by omega,f',i+1,rfl,rfl,by omega,a1,by rw[a3,ht,QVw],a4⟩
  simp only[PE.cells]at hgm;cases hb:(b&&(P.enums.take i).all Jt)
  ·rw[hb]at fin h3;simp only[Qm hlt,Qi,QWd,Qc,hgm,QVH,h1,m1,h3,ha,e1,eE,seval];exact fin _ (by exact h1) (by rfl) (by rfl)
  ·rw[hb,QWn]at fin;rw[hb]at h3
   (cases c1:decide ((x.items.length:Int)≥1)<;>cases c2:decide ((x.items.length:Int)≤64))
   all_goals
    try rw[c1]at e3
    try rw[c2]at e3
    simp only[Qm hlt,Qi,QWd,Qc,hgm,QVH,h1,m1,h3,ha,e1,c1,c2,eE,seval];exact fin _ (by exact h1) (by rw[←e3]<;>first|rfl|simp only[eE,seval]) (by rfl)
 ·have hf:(P.enums.take i).all Jt=P.enums.all Jt:=by rw[QVk (by omega)]
  rw[hf]at h3;simp only[QB hlt,Qa,seval];exact hx _ (by exact h1) (by exact h3)

theorem Gn (j:Nat)(x:PG)(hj:P.progs[j]? = some x)(ha:f 4=.int .i64 (j:Nat))(hc:f 5=.int .i64 0)(hx:∀f,f 1=.ptr 0 1 0→f 3=.bool (b&&x.ops.all fun o=>XF o.name)→f 4=.int .i64 (j:Nat)→Q (.exit 2) (⟨f,[fr],[]⟩:St)):QI Tryz.prog (.loop R5) ⟨f,[fr],[]⟩ Q:=by
 let I:Nat→St→Prop:=fun k st=>∃f i,st=⟨f,[fr],[]⟩∧k=x.ops.length-i∧i≤x.ops.length∧f 1=.ptr 0 1 0∧f 3=.bool (b&&(x.ops.take i).all fun o=>XF o.name)∧f 4=.int .i64 (j:Nat)∧f 5=.int .i64 (i:Nat)
 have hjm:(P.progs.map Qn)[j]? = some (.agg x.cells):=by simp[hj,Qn]
 have hsl:x.ops.length≤maxLen:=(hP.progs x (QUZ hj)).len;refine Qd I _ ⟨f,0,rfl,rfl,QUU _,h1,by rw[h3];simp,ha,hc⟩ ?_;clear h1 h3 ha hc;simp only[Pc]at m1;simp only[PG.cells]at hjm;rintro _ st ⟨f,i,rfl,rfl,hi,h1,h3,ha,hc⟩;simp only[Qi,QWd,Qc,hjm,QVH,h1,m1,ha,hc,eE,seval];by_cases hlt:i<x.ops.length
 ·obtain⟨o,hg⟩:∃o,x.ops[i]? = some o:=⟨x.ops[i],QUN hlt⟩;have hgm:(x.ops.map fun o=>AV.agg o.cells)[i]? = some (.agg o.cells):=by simp[hg]
  have e1:=Qq i _ hlt hsl;have ht:=Q2 (q:=fun o=>XF o.name) hg;have fin:∀f':Fr,f' 1=.ptr 0 1 0→f' 3=.bool ((b&&(x.ops.take i).all fun o=>XF o.name)&&XF o.name)→f' 4=.int .i64 (j:Nat)→f' 5=.int .i64 ((i+1:Nat):Int)→∃k,k<x.ops.length-i∧I k ⟨f',[fr],[]⟩:=by
   intro f' a1 a3 a4 a5;exact⟨x.ops.length-(i+1),by omega,f',i+1,rfl,rfl,by omega,a1,by rw[a3,ht,QVw],a4,a5⟩
  simp only[PO.cells]at hgm;cases hb:(b&&(x.ops.take i).all fun o=>XF o.name)
  ·rw[hb]at fin h3;simp only[Qm hlt,PO.cells,h3,hc,e1,Qa,seval];exact fin _ (by exact h1) (by rfl) (by exact ha) (by rfl)
  ·rw[hb,QWn]at fin;rw[hb]at h3;simp only[Qm hlt,Qi,QWd,Qc,hjm,hgm,PO.cells,h1,m1,h3,ha,hc,eE,seval];refine Qb (z77 o.name) rfl rfl rfl (.inl rfl) ?_;simp only[hc,e1,Qa,seval];exact fin _ (by exact h1) (by rfl) (by exact ha) (by rfl)
 ·have hf:(x.ops.take i).all (fun o=>XF o.name)=x.ops.all fun o=>XF o.name:=by rw[QVk (by omega)]
  rw[hf]at h3;simp only[QB hlt,Qa,seval];exact hx _ (by exact h1) (by exact h3) (by exact ha)

theorem VQ (ha:f 4=.int .i64 0)(hx:∀f,f 1=.ptr 0 1 0→f 3=.bool (b&&P.progs.all Kk)→Q (.exit 0) (⟨f,[fr],[]⟩:St)):QI Tryz.prog (.loop R6) ⟨f,[fr],[]⟩ Q:=by
 let I:Nat→St→Prop:=fun k st=>∃f i,st=⟨f,[fr],[]⟩∧k=P.progs.length-i∧i≤P.progs.length∧f 1=.ptr 0 1 0∧f 3=.bool (b&&(P.progs.take i).all Kk)∧f 4=.int .i64 (i:Nat)
 have m1':=m1;refine Qd I _ ⟨f,0,rfl,rfl,QUU _,h1,by rw[h3];simp,ha⟩ ?_;clear h1 h3 ha;simp only[Pc]at m1;rintro _ st ⟨f,i,rfl,rfl,hi,h1,h3,ha⟩;simp only[QVH,h1,m1,ha,eE,seval];by_cases hlt:i<P.progs.length
 ·obtain⟨x,hg⟩:∃x,P.progs[i]? = some x:=⟨P.progs[i],QUN hlt⟩;have hgm:(P.progs.map Qn)[i]? = some (.agg x.cells):=by simp[hg,Qn]
  have e1:=Qq i _ hlt hP.len1;have ht:=Q2 (q:=Kk) hg;have hq:Kk x=(J1 x.name&&x.ops.all fun o=>XF o.name):=rfl;have fin:∀f':Fr,f' 1=.ptr 0 1 0→f' 3=.bool (((b&&(P.progs.take i).all Kk)&&J1 x.name)&&x.ops.all fun o=>XF o.name)→f' 4=.int .i64 ((i+1:Nat):Int)→∃k,k<P.progs.length-i∧I k ⟨f',[fr],[]⟩:=by
   intro f' a1 a3 a4;exact⟨P.progs.length-(i+1),by omega,f',i+1,rfl,rfl,by omega,a1,by rw[a3,ht,hq,QVw,QVw],a4⟩
  simp only[PG.cells]at hgm;cases hb:(b&&(P.progs.take i).all Kk)
  ·rw[hb,QWg]at fin;rw[hb]at h3;simp only[Qm hlt,h3,Qa,seval];refine Gn P hP fr m1' _ false (by exact h1) (by rfl) _ i x hg (by exact ha) (by rfl) (fun f h1 h3 ha=>?_);simp only[ha,e1,Qa,seval];exact fin _ (by exact h1) (by exact h3) (by rfl)
  ·rw[hb,QWn]at fin;rw[hb]at h3;simp only[Qm hlt,Qi,QWd,Qc,hgm,h1,m1,h3,ha,eE,seval];refine Qb (z76 x.name) rfl rfl rfl (.inl rfl) ?_;simp only[Qa,seval];refine Gn P hP fr m1' _ (J1 x.name) (by exact h1) (by rfl) _ i x hg (by exact ha) (by rfl) (fun f h1 h3 ha=>?_);simp only[ha,e1,Qa,seval];exact fin _ (by exact h1) (by exact h3) (by rfl)
 ·have hf:(P.progs.take i).all Kk=P.progs.all Kk:=by rw[QVk (by omega)]
  rw[hf]at h3;simp only[QB hlt,Qa,seval];exact hx _ (by exact h1) (by exact h3)

theorem Gp (j:Nat)(x:PE)(hj:P.enums[j]? = some x)(ha:f 6=.int .i64 (j:Nat))(hc:f 7=.int .i64 0)(hx:∀f,f 1=.ptr 0 1 0→f 3=.bool (b&&x.items.all fun o=>XF o.name)→f 6=.int .i64 (j:Nat)→Q (.exit 6) (⟨f,[fr],[]⟩:St)):QI Tryz.prog (.loop R7) ⟨f,[fr],[]⟩ Q:=by
 let I:Nat→St→Prop:=fun k st=>∃f i,st=⟨f,[fr],[]⟩∧k=x.items.length-i∧i≤x.items.length∧f 1=.ptr 0 1 0∧f 3=.bool (b&&(x.items.take i).all fun o=>XF o.name)∧f 6=.int .i64 (j:Nat)∧f 7=.int .i64 (i:Nat)
 have hjm:(P.enums.map Qr)[j]? = some (.agg x.cells):=by simp[hj,Qr]
 have hsl:x.items.length≤maxLen:=(hP.enums x (QUZ hj)).len1;refine Qd I _ ⟨f,0,rfl,rfl,QUU _,h1,by rw[h3];simp,ha,hc⟩ ?_;clear h1 h3 ha hc;simp only[Pc]at m1;simp only[PE.cells]at hjm;rintro _ st ⟨f,i,rfl,rfl,hi,h1,h3,ha,hc⟩;simp only[Qi,QWd,Qc,hjm,QVH,h1,m1,ha,hc,eE,seval];by_cases hlt:i<x.items.length
 ·obtain⟨o,hg⟩:∃o,x.items[i]? = some o:=⟨x.items[i],QUN hlt⟩;have hgm:(x.items.map fun o=>AV.agg o.cells)[i]? = some (.agg o.cells):=by simp[hg]
  have e1:=Qq i _ hlt hsl;have ht:=Q2 (q:=fun o=>XF o.name) hg;have fin:∀f':Fr,f' 1=.ptr 0 1 0→f' 3=.bool ((b&&(x.items.take i).all fun o=>XF o.name)&&XF o.name)→f' 6=.int .i64 (j:Nat)→f' 7=.int .i64 ((i+1:Nat):Int)→∃k,k<x.items.length-i∧I k ⟨f',[fr],[]⟩:=by
   intro f' a1 a3 a4 a5;exact⟨x.items.length-(i+1),by omega,f',i+1,rfl,rfl,by omega,a1,by rw[a3,ht,QVw],a4,a5⟩
  simp only[PI.cells]at hgm;cases hb:(b&&(x.items.take i).all fun o=>XF o.name)
  ·rw[hb]at fin h3;simp only[Qm hlt,PI.cells,h3,hc,e1,Qa,seval];exact fin _ (by exact h1) (by rfl) (by exact ha) (by rfl)
  ·rw[hb,QWn]at fin;rw[hb]at h3;simp only[Qm hlt,Qi,QWd,Qc,hjm,hgm,PI.cells,h1,m1,h3,ha,hc,eE,seval];refine Qb (z77 o.name) rfl rfl rfl (.inl rfl) ?_;simp only[hc,e1,Qa,seval];exact fin _ (by exact h1) (by rfl) (by exact ha) (by rfl)
 ·have hf:(x.items.take i).all (fun o=>XF o.name)=x.items.all fun o=>XF o.name:=by rw[QVk (by omega)]
  rw[hf]at h3;simp only[QB hlt,Qa,seval];exact hx _ (by exact h1) (by exact h3) (by exact ha)

theorem VR (ha:f 6=.int .i64 0)(hx:∀f,f 1=.ptr 0 1 0→f 3=.bool (b&&P.enums.all KL)→Q (.exit 4) (⟨f,[fr],[]⟩:St)):QI Tryz.prog (.loop R8) ⟨f,[fr],[]⟩ Q:=by
 let I:Nat→St→Prop:=fun k st=>∃f i,st=⟨f,[fr],[]⟩∧k=P.enums.length-i∧i≤P.enums.length∧f 1=.ptr 0 1 0∧f 3=.bool (b&&(P.enums.take i).all KL)∧f 6=.int .i64 (i:Nat)
 have m1':=m1;refine Qd I _ ⟨f,0,rfl,rfl,QUU _,h1,by rw[h3];simp,ha⟩ ?_;clear h1 h3 ha;simp only[Pc]at m1;rintro _ st ⟨f,i,rfl,rfl,hi,h1,h3,ha⟩;simp only[QVH,h1,m1,ha,eE,seval];by_cases hlt:i<P.enums.length
 ·obtain⟨x,hg⟩:∃x,P.enums[i]? = some x:=⟨P.enums[i],QUN hlt⟩;have hgm:(P.enums.map Qr)[i]? = some (.agg x.cells):=by simp[hg,Qr]
  have e1:=Qq i _ hlt hP.len2;have ht:=Q2 (q:=KL) hg;have hq:KL x=(J1 x.name&&x.items.all fun o=>XF o.name):=rfl;have fin:∀f':Fr,f' 1=.ptr 0 1 0→f' 3=.bool (((b&&(P.enums.take i).all KL)&&J1 x.name)&&x.items.all fun o=>XF o.name)→f' 6=.int .i64 ((i+1:Nat):Int)→∃k,k<P.enums.length-i∧I k ⟨f',[fr],[]⟩:=by
   intro f' a1 a3 a4;exact⟨P.enums.length-(i+1),by omega,f',i+1,rfl,rfl,by omega,a1,by rw[a3,ht,hq,QVw,QVw],a4⟩
  simp only[PE.cells]at hgm;cases hb:(b&&(P.enums.take i).all KL)
  ·rw[hb,QWg]at fin;rw[hb]at h3;simp only[Qm hlt,h3,Qa,seval];refine Gp P hP fr m1' _ false (by exact h1) (by rfl) _ i x hg (by exact ha) (by rfl) (fun f h1 h3 ha=>?_);simp only[ha,e1,Qa,seval];exact fin _ (by exact h1) (by exact h3) (by rfl)
  ·rw[hb,QWn]at fin;rw[hb]at h3;simp only[Qm hlt,Qi,QWd,Qc,hgm,h1,m1,h3,ha,eE,seval];refine Qb (z76 x.name) rfl rfl rfl (.inl rfl) ?_;simp only[Qa,seval];refine Gp P hP fr m1' _ (J1 x.name) (by exact h1) (by rfl) _ i x hg (by exact ha) (by rfl) (fun f h1 h3 ha=>?_);simp only[ha,e1,Qa,seval];exact fin _ (by exact h1) (by exact h3) (by rfl)
 ·have hf:(P.enums.take i).all KL=P.enums.all KL:=by rw[QVk (by omega)]
  rw[hf]at h3;simp only[QB hlt,Qa,seval];exact hx _ (by exact h1) (by exact h3)

theorem Ym (j:Nat)(x:PG)(hj:P.progs[j]? = some x)(ha:f 4=.int .i64 (j:Nat))(hc:f 5=.int .i64 1)(hx:∀f,f 1=.ptr 0 1 0→f 3=.bool (b&&Je x)→f 4=.int .i64 (j:Nat)→Q (.exit 2) (⟨f,[fr],[]⟩:St)):QI Tryz.prog (.loop R9) ⟨f,[fr],[]⟩ Q:=by
 let I:Nat→St→Prop:=fun k st=>∃f i,st=⟨f,[fr],[]⟩∧k=x.ops.length-i∧f 1=.ptr 0 1 0∧f 3=.bool (b&&QC (Xb x.ops (X6 PO.num)) (i+1))∧f 4=.int .i64 (j:Nat)∧f 5=.int .i64 ((i+1:Nat):Int)∧(i+1≤x.ops.length∨i=0)
 have hjm:(P.progs.map Qn)[j]? = some (.agg x.cells):=by simp[hj,Qn]
 have hsl:x.ops.length≤maxLen:=(hP.progs x (QUZ hj)).len;refine Qd I _ ⟨f,0,rfl,rfl,h1,by rw[h3];simp[QC,Xb],ha,hc,.inr rfl⟩ ?_;clear h1 h3 ha hc;simp only[Pc]at m1;simp only[PG.cells]at hjm;rintro _ st ⟨f,i,rfl,rfl,h1,h3,ha,hc,hi⟩;simp only[Qi,QWd,Qc,hjm,QVH,h1,m1,ha,hc,eE,seval];by_cases hlt:i+1<x.ops.length
 ·obtain⟨o,hg⟩:∃o,x.ops[i]? = some o:=⟨x.ops[i]'(by omega),QUN (by omega)⟩;obtain⟨o2,hg2⟩:∃o,x.ops[i+1]? = some o:=⟨x.ops[i+1],QUN hlt⟩;have hgm:(x.ops.map fun o=>AV.agg o.cells)[i]? = some (.agg o.cells):=by simp[hg]
  have hgm2:(x.ops.map fun o=>AV.agg o.cells)[i+1]? = some (.agg o2.cells):=by simp[hg2]
  have e1:=Qq (i+1) _ hlt hsl;have e2:=Wj i _ hlt hsl;have ht:=Jg b (Xb x.ops (X6 PO.num)) (i+1);rw[Jd hg hg2]at ht;have hq:(X6 PO.num) o o2=decide (o.num<o2.num):=rfl;rw[hq]at ht;have fin:∀f':Fr,f' 1=.ptr 0 1 0→f' 3=.bool ((b&&QC (Xb x.ops (X6 PO.num)) (i+1))&&decide (o.num<o2.num))→f' 4=.int .i64 (j:Nat)→f' 5=.int .i64 ((i+1+1:Nat):Int)→∃k,k<x.ops.length-i∧I k ⟨f',[fr],[]⟩:=by
   intro f' a1 a3 a4 a5;exact⟨x.ops.length-(i+1),by omega,f',i+1,rfl,rfl,a1,by rw[a3,ht],a4,a5,.inl (by omega)⟩
  simp only[PO.cells]at hgm hgm2;cases hb:(b&&QC (Xb x.ops (X6 PO.num)) (i+1))
  ·rw[hb]at fin h3;simp only[Qm hlt,PO.cells,h3,hc,e1,Qa,seval];exact fin _ (by exact h1) (by rfl) (by exact ha) (by rfl)
  ·rw[hb,QWn]at fin;rw[hb]at h3;simp only[Qm hlt,Qi,QWd,Qc,hjm,hgm,hgm2,PO.cells,h1,m1,h3,ha,hc,e1,e2,eE,seval];exact fin _ (by exact h1) (by rfl) (by exact ha) (by rfl)
 ·have hf:QC (Xb x.ops (X6 PO.num)) (i+1)=Je x:=by
   show _=QC (Xb x.ops (X6 PO.num)) x.ops.length;rcases hi with h|h
   ·rw[show i+1=x.ops.length by omega]
   ·subst h;rcases QVA x.ops.length with h0|h0
    ·rw[h0];rfl
    ·rw[show x.ops.length=1 by omega]
  rw[hf]at h3;simp only[QB hlt,Qa,seval];exact hx _ (by exact h1) (by exact h3) (by exact ha)

theorem VS (ha:f 4=.int .i64 0)(hx:∀f,f 1=.ptr 0 1 0→f 3=.bool (b&&(XQ P.progs (XG PG.name)&&P.progs.all Je))→Q (.exit 0) (⟨f,[fr],[]⟩:St)):QI Tryz.prog (.loop Sa) ⟨f,[fr],[]⟩ Q:=by
 let q:Nat→Bool:=fun i=>Xb P.progs (XG PG.name) i&&U5 P.progs Je i
 let I:Nat→St→Prop:=fun k st=>∃f i,st=⟨f,[fr],[]⟩∧k=P.progs.length-i∧i≤P.progs.length∧f 1=.ptr 0 1 0∧f 3=.bool (b&&QC q i)∧f 4=.int .i64 (i:Nat)
 have m1':=m1;have hqa:QC q P.progs.length=(XQ P.progs (XG PG.name)&&P.progs.all Je):=by
  show QC (fun i=>Xb P.progs (XG PG.name) i&&U5 P.progs Je i) _=_;rw[Hm,Hn];rfl
 refine Qd I _ ⟨f,0,rfl,rfl,QUU _,h1,by rw[h3];simp[QC],ha⟩ ?_;clear h1 h3 ha;simp only[Pc]at m1;rintro _ st ⟨f,i,rfl,rfl,hi,h1,h3,ha⟩;simp only[QVH,h1,m1,ha,eE,seval];by_cases hlt:i<P.progs.length
 ·obtain⟨x,hg⟩:∃x,P.progs[i]? = some x:=⟨P.progs[i],QUN hlt⟩;have hgm:(P.progs.map Qn)[i]? = some (.agg x.cells):=by simp[hg,Qn]
  have e1:=Qq i _ hlt hP.len1;have ht:=Jg b q i;have hq:q i=(Xb P.progs (XG PG.name) i&&Je x):=by show(_&&U5 P.progs Je i)=_;rw[W0 hg]
  rw[hq,←QVw]at ht;have fin:∀f':Fr,f' 1=.ptr 0 1 0→f' 3=.bool (((b&&QC q i)&&Xb P.progs (XG PG.name) i)&&Je x)→f' 4=.int .i64 ((i+1:Nat):Int)→∃k,k<P.progs.length-i∧I k ⟨f',[fr],[]⟩:=by
   intro f' a1 a3 a4;exact⟨P.progs.length-(i+1),by omega,f',i+1,rfl,rfl,by omega,a1,by rw[a3,ht],a4⟩
  simp only[PG.cells]at hgm;cases hb:(b&&QC q i)
  ·rw[hb,QWg]at fin;rw[hb]at h3;simp only[Qm hlt,h3,Qa,seval];refine Ym P hP fr m1' _ false (by exact h1) (by rfl) _ i x hg (by exact ha) (by rfl) (fun f h1 h3 ha=>?_);simp only[ha,e1,Qa,seval];exact fin _ (by exact h1) (by exact h3) (by rfl)
  ·rw[hb,QWn]at fin;rw[hb]at h3;cases i with
   |zero=>
    have b0:(((0:Nat):Int)==0)=true:=rfl;rw[Yj]at fin;simp only[Qm hlt,b0,h3,ha,Qa,Nat.reduceBEq,↓reduceIte];refine Ym P hP fr m1' _ true (by exact h1) (by rfl) _ 0 x hg (by exact ha) (by rfl) (fun f h1 h3 ha=>?_);simp only[ha,e1,Qa,Nat.reduceBEq,↓reduceIte,Nat.reduceAdd];exact fin _ (by exact h1) (by exact h3) (by rfl)
   |succ j=>
    obtain⟨y,hgj⟩:∃y,P.progs[j]? = some y:=⟨P.progs[j]'(by omega),QUN (by omega)⟩;have hgjm:(P.progs.map Qn)[j]? = some (.agg y.cells):=by simp[hgj,Qn]
    have b0:(((j+1:Nat):Int)==0)=false:=by rw[QWs];omega
    have e2:=Wj j _ hlt hP.len1;rw[Jd hgj hg]at fin;have hq2:(XG PG.name) y x=Op.bytesLess y.name x.name:=rfl;rw[hq2]at fin;simp only[PG.cells]at hgjm;simp only[Qm hlt,Qi,QWd,Qc,hgm,hgjm,b0,e2,QM,h1,m1,h3,ha,eE,seval];refine Ym P hP fr m1' _ (Op.bytesLess y.name x.name) (by exact h1) (by rfl) _ (j+1) x hg (by exact ha) (by rfl) (fun f h1 h3 ha=>?_);simp only[ha,e1,Qa,seval];exact fin _ (by exact h1) (by exact h3) (by rfl)
 ·have hf:QC q i=(XQ P.progs (XG PG.name)&&P.progs.all Je):=by rw[show i=P.progs.length by omega,hqa]
  rw[hf]at h3;simp only[QB hlt,Qa,seval];exact hx _ (by exact h1) (by exact h3)

theorem Yn (j:Nat)(x:PE)(hj:P.enums[j]? = some x)(ha:f 6=.int .i64 (j:Nat))(hc:f 7=.int .i64 1)(hx:∀f,f 1=.ptr 0 1 0→f 3=.bool (b&&JG x)→f 6=.int .i64 (j:Nat)→Q (.exit 6) (⟨f,[fr],[]⟩:St)):QI Tryz.prog (.loop Sb) ⟨f,[fr],[]⟩ Q:=by
 let I:Nat→St→Prop:=fun k st=>∃f i,st=⟨f,[fr],[]⟩∧k=x.items.length-i∧f 1=.ptr 0 1 0∧f 3=.bool (b&&QC (Xb x.items (X6 PI.num)) (i+1))∧f 6=.int .i64 (j:Nat)∧f 7=.int .i64 ((i+1:Nat):Int)∧(i+1≤x.items.length∨i=0)
 have hjm:(P.enums.map Qr)[j]? = some (.agg x.cells):=by simp[hj,Qr]
 have hsl:x.items.length≤maxLen:=(hP.enums x (QUZ hj)).len1;refine Qd I _ ⟨f,0,rfl,rfl,h1,by rw[h3];simp[QC,Xb],ha,hc,.inr rfl⟩ ?_;clear h1 h3 ha hc;simp only[Pc]at m1;simp only[PE.cells]at hjm;rintro _ st ⟨f,i,rfl,rfl,h1,h3,ha,hc,hi⟩;simp only[Qi,QWd,Qc,hjm,QVH,h1,m1,ha,hc,eE,seval];by_cases hlt:i+1<x.items.length
 ·obtain⟨o,hg⟩:∃o,x.items[i]? = some o:=⟨x.items[i]'(by omega),QUN (by omega)⟩;obtain⟨o2,hg2⟩:∃o,x.items[i+1]? = some o:=⟨x.items[i+1],QUN hlt⟩;have hgm:(x.items.map fun o=>AV.agg o.cells)[i]? = some (.agg o.cells):=by simp[hg]
  have hgm2:(x.items.map fun o=>AV.agg o.cells)[i+1]? = some (.agg o2.cells):=by simp[hg2]
  have e1:=Qq (i+1) _ hlt hsl;have e2:=Wj i _ hlt hsl;have ht:=Jg b (Xb x.items (X6 PI.num)) (i+1);rw[Jd hg hg2]at ht;have hq:(X6 PI.num) o o2=decide (o.num<o2.num):=rfl;rw[hq]at ht;have fin:∀f':Fr,f' 1=.ptr 0 1 0→f' 3=.bool ((b&&QC (Xb x.items (X6 PI.num)) (i+1))&&decide (o.num<o2.num))→f' 6=.int .i64 (j:Nat)→f' 7=.int .i64 ((i+1+1:Nat):Int)→∃k,k<x.items.length-i∧I k ⟨f',[fr],[]⟩:=by
   intro f' a1 a3 a4 a5;exact⟨x.items.length-(i+1),by omega,f',i+1,rfl,rfl,a1,by rw[a3,ht],a4,a5,.inl (by omega)⟩
  simp only[PI.cells]at hgm hgm2;cases hb:(b&&QC (Xb x.items (X6 PI.num)) (i+1))
  ·rw[hb]at fin h3;simp only[Qm hlt,PI.cells,h3,hc,e1,Qa,seval];exact fin _ (by exact h1) (by rfl) (by exact ha) (by rfl)
  ·rw[hb,QWn]at fin;rw[hb]at h3;simp only[Qm hlt,Qi,QWd,Qc,hjm,hgm,hgm2,PI.cells,h1,m1,h3,ha,hc,e1,e2,eE,seval];exact fin _ (by exact h1) (by rfl) (by exact ha) (by rfl)
 ·have hf:QC (Xb x.items (X6 PI.num)) (i+1)=JG x:=by
   show _=QC (Xb x.items (X6 PI.num)) x.items.length;rcases hi with h|h
   ·rw[show i+1=x.items.length by omega]
   ·subst h;rcases QVA x.items.length with h0|h0
    ·rw[h0];rfl
    ·rw[show x.items.length=1 by omega]
  rw[hf]at h3;simp only[QB hlt,Qa,seval];exact hx _ (by exact h1) (by exact h3) (by exact ha)

theorem VT (ha:f 6=.int .i64 0)(hx:∀f,f 1=.ptr 0 1 0→f 3=.bool (b&&(XQ P.enums (XG PE.name)&&P.enums.all JG))→Q (.exit 4) (⟨f,[fr],[]⟩:St)):QI Tryz.prog (.loop Sc) ⟨f,[fr],[]⟩ Q:=by
 let q:Nat→Bool:=fun i=>Xb P.enums (XG PE.name) i&&U5 P.enums JG i
 let I:Nat→St→Prop:=fun k st=>∃f i,st=⟨f,[fr],[]⟩∧k=P.enums.length-i∧i≤P.enums.length∧f 1=.ptr 0 1 0∧f 3=.bool (b&&QC q i)∧f 6=.int .i64 (i:Nat)
 have m1':=m1;have hqa:QC q P.enums.length=(XQ P.enums (XG PE.name)&&P.enums.all JG):=by
  show QC (fun i=>Xb P.enums (XG PE.name) i&&U5 P.enums JG i) _=_;rw[Hm,Hn];rfl
 refine Qd I _ ⟨f,0,rfl,rfl,QUU _,h1,by rw[h3];simp[QC],ha⟩ ?_;clear h1 h3 ha;simp only[Pc]at m1;rintro _ st ⟨f,i,rfl,rfl,hi,h1,h3,ha⟩;simp only[QVH,h1,m1,ha,eE,seval];by_cases hlt:i<P.enums.length
 ·obtain⟨x,hg⟩:∃x,P.enums[i]? = some x:=⟨P.enums[i],QUN hlt⟩;have hgm:(P.enums.map Qr)[i]? = some (.agg x.cells):=by simp[hg,Qr]
  have e1:=Qq i _ hlt hP.len2;have ht:=Jg b q i;have hq:q i=(Xb P.enums (XG PE.name) i&&JG x):=by show(_&&U5 P.enums JG i)=_;rw[W0 hg]
  rw[hq,←QVw]at ht;have fin:∀f':Fr,f' 1=.ptr 0 1 0→f' 3=.bool (((b&&QC q i)&&Xb P.enums (XG PE.name) i)&&JG x)→f' 6=.int .i64 ((i+1:Nat):Int)→∃k,k<P.enums.length-i∧I k ⟨f',[fr],[]⟩:=by
   intro f' a1 a3 a4;exact⟨P.enums.length-(i+1),by omega,f',i+1,rfl,rfl,by omega,a1,by rw[a3,ht],a4⟩
  simp only[PE.cells]at hgm;cases hb:(b&&QC q i)
  ·rw[hb,QWg]at fin;rw[hb]at h3;simp only[Qm hlt,h3,Qa,seval];refine Yn P hP fr m1' _ false (by exact h1) (by rfl) _ i x hg (by exact ha) (by rfl) (fun f h1 h3 ha=>?_);simp only[ha,e1,Qa,seval];exact fin _ (by exact h1) (by exact h3) (by rfl)
  ·rw[hb,QWn]at fin;rw[hb]at h3;cases i with
   |zero=>
    have b0:(((0:Nat):Int)==0)=true:=rfl;rw[Yj]at fin;simp only[Qm hlt,b0,h3,ha,Qa,Nat.reduceBEq,↓reduceIte];refine Yn P hP fr m1' _ true (by exact h1) (by rfl) _ 0 x hg (by exact ha) (by rfl) (fun f h1 h3 ha=>?_);simp only[ha,e1,Qa,Nat.reduceBEq,↓reduceIte,Nat.reduceAdd];exact fin _ (by exact h1) (by exact h3) (by rfl)
   |succ j=>
    obtain⟨y,hgj⟩:∃y,P.enums[j]? = some y:=⟨P.enums[j]'(by omega),QUN (by omega)⟩;have hgjm:(P.enums.map Qr)[j]? = some (.agg y.cells):=by simp[hgj,Qr]
    have b0:(((j+1:Nat):Int)==0)=false:=by rw[QWs];omega
    have e2:=Wj j _ hlt hP.len2;rw[Jd hgj hg]at fin;have hq2:(XG PE.name) y x=Op.bytesLess y.name x.name:=rfl;rw[hq2]at fin;simp only[PE.cells]at hgjm;simp only[Qm hlt,Qi,QWd,Qc,hgm,hgjm,b0,e2,QM,h1,m1,h3,ha,eE,seval];refine Yn P hP fr m1' _ (Op.bytesLess y.name x.name) (by exact h1) (by rfl) _ (j+1) x hg (by exact ha) (by rfl) (fun f h1 h3 ha=>?_);simp only[ha,e1,Qa,seval];exact fin _ (by exact h1) (by exact h3) (by rfl)
 ·have hf:QC q i=(XQ P.enums (XG PE.name)&&P.enums.all JG):=by rw[show i=P.enums.length by omega,hqa]
  rw[hf]at h3;simp only[QB hlt,Qa,seval];exact hx _ (by exact h1) (by exact h3)

end

section
variable {M:Nat}(P:PL)(hP:P.ok M)
include hP

theorem z43:Qj Tryz.prog 43 [P.av] (.bool (U6 P)):=by
 have e0:P.av=.agg [.list (P.progs.map Qn),.list (P.enums.map Qr)]:=rfl;have e1:decide ((P.progs.length:Int)≤64)=decide (P.progs.length≤64):=by rw[decide_eq_decide];omega
 have e2:decide ((P.enums.length:Int)≤64)=decide (P.enums.length≤64):=by rw[decide_eq_decide];omega
 refine k43.fn (by simp) ?_;simp only[e0,QVH,e1,eE,seval];have hl:U6 P=((decide (P.progs.length≤64)&&decide (P.enums.length≤64)&&P.progs.all ZX)&&P.enums.all Jt):=rfl;cases a1:decide (P.progs.length≤64)<;>simp only[e2,QVH,eE,seval]
 all_goals
  refine VN P hP _ (by rfl) _ _ (by rfl) (by rfl) _ (by rfl) (fun f h1 h3=>?_);simp only[Qa,seval];refine VP P hP _ (by rfl) _ _ (by exact h1) (by exact h3) _ (by rfl) (fun f h1 h3=>?_);simp only[h3,hl,a1,QWg,QWn,Qa,seval]

theorem z44:Qj Tryz.prog 44 [P.av] (.bool (F1 P)):=by
 have e0:P.av=.agg [.list (P.progs.map Qn),.list (P.enums.map Qr)]:=rfl;refine k44.fn (by simp) ?_;simp only[e0,eE,seval];refine VQ P hP _ (by rfl) _ true (by rfl) (by rfl) _ (by rfl) (fun f h1 h3=>?_);simp only[Qa,seval];refine VR P hP _ (by rfl) _ _ (by exact h1) (by exact h3) _ (by rfl) (fun f h1 h3=>?_);simp only[h3,F1,QWn,Qa,seval]

theorem z45:Qj Tryz.prog 45 [P.av] (.bool (U7 P)):=by
 have e0:P.av=.agg [.list (P.progs.map Qn),.list (P.enums.map Qr)]:=rfl;have e:U7 P=((XQ P.progs (XG PG.name)&&P.progs.all Je)&&(XQ P.enums (XG PE.name)&&P.enums.all JG)):=by
  unfold U7;cases XQ P.progs (XG PG.name)<;>cases P.progs.all Je<;>cases XQ P.enums (XG PE.name)<;>rfl
 refine k45.fn (by simp) ?_;simp only[e0,eE,seval];refine VS P hP _ (by rfl) _ true (by rfl) (by rfl) _ (by rfl) (fun f h1 h3=>?_);simp only[Qa,seval];refine VT P hP _ (by rfl) _ _ (by exact h1) (by exact h3) _ (by rfl) (fun f h1 h3=>?_);simp only[h3,e,QWn,Qa,seval]

end

theorem z78 (L:List PS)(hl:L.length≤maxLen)(n:Int):Qj Tryz.prog 78 [.list (L.map X0),.int .i64 n] (.bool (kept L n)):=by
 let I:Nat→St→Prop:=fun k st=>∃f i,st=⟨f,[Qe],[]⟩∧k=L.length-i∧kept L n=kept (L.drop i) n∧f 0=.list (L.map X0)∧f 1=.int .i64 n∧f 5=.int .i64 (i:Nat)
 refine k78.fn (by simp) ?_;simp only[Qa,seval];refine Qd I _ ⟨_,0,rfl,rfl,rfl,(by rfl),(by rfl),(by rfl)⟩ ?_;rintro _ st ⟨f,i,rfl,rfl,hx,h0,h1,h5⟩;simp only[QVH,h0,h5,Qa,seval];by_cases hlt:i<L.length
 ·obtain⟨x,hi⟩:∃x,L[i]? = some x:=⟨L[i],QUN hlt⟩;have hg:(L.map X0)[i]? = some (X0 x):=by simp[hi]
  have e1:=Qq i _ hlt hl;have hd:kept (L.drop i) n=((decide (x.lo≤n)&&decide (n≤x.hi))||kept (L.drop (i+1)) n):=by
   unfold kept;rw[QVu hlt,show L[i]=x from(QUM.1 hi).2];rfl
  rw[hd]at hx;simp only[Qm hlt,Qi,QWd,Qc,hg,X0,PS.cells,h0,h1,h5,eE,seval];cases a1:decide (x.lo≤n)
  ·rw[a1,QWg,QWr]at hx;simp only[h5,e1,Qa,seval];exact⟨L.length-(i+1),by omega,_,i+1,rfl,rfl,hx,(by exact h0),(by exact h1),(by rfl)⟩
  ·cases a2:decide (n≤x.hi)
   ·rw[a1,a2,QWE,QWr]at hx;simp only[a2,Qi,QWd,Qc,hg,X0,PS.cells,h0,h1,h5,e1,eE,seval];exact⟨L.length-(i+1),by omega,_,i+1,rfl,rfl,hx,(by exact h0),(by exact h1),(by rfl)⟩
   ·rw[a1,a2,QVZ,QWq]at hx;simp only[a2,Qi,QWd,Qc,hg,X0,PS.cells,h0,h1,h5,hx,eE,seval]
 ·have hx':kept L n=false:=by rw[hx,QVn (by omega)];rfl
  simp only[QB hlt,hx',Qa,seval]

section
variable {M:Nat}(P:PL)(hP:P.ok M)(fr:Nat→Ob)(m1:fr 1=.cells (Pc P))(f:Fr)(b:Bool)(h1:f 1=.ptr 0 1 0)(h3:f 3=.bool b)(Q:Exit→St→Prop)

include h1 h3 in
theorem Rj (L:List PO)(hl:L.length≤maxLen)(j:Nat)(x:PO)(hj:L[j]? = some x)(n:Nat)(hr:f 4=.int .i64 (n:Nat))(hL:f 6=.list (L.map fun o=>.agg o.cells))(hc:f 7=.int .i64 (j:Nat))(hd:f 8=.int .i64 0)
  (hx:∀f,f 1=.ptr 0 1 0→f 3=.bool (b&&(L.take j).all fun y=>!(y.name==x.name))→f 4=.int .i64 (n:Nat)→f 6=.list (L.map fun o=>.agg o.cells)→f 7=.int .i64 (j:Nat)→Q (.exit 6) (⟨f,[fr],[]⟩:St)) :
  QI Tryz.prog (.loop Se) ⟨f,[fr],[]⟩ Q:=by
 let I:Nat→St→Prop:=fun k st=>∃f i,st=⟨f,[fr],[]⟩∧k=j-i∧i≤j∧f 1=.ptr 0 1 0∧f 3=.bool (b&&(L.take i).all fun y=>!(y.name==x.name))∧f 4=.int .i64 (n:Nat)∧f 6=.list (L.map fun o=>.agg o.cells)∧f 7=.int .i64 (j:Nat)∧f 8=.int .i64 (i:Nat)
 have hjl:j<L.length:=(QUM.1 hj).1;have hjm:(L.map fun o=>AV.agg o.cells)[j]? = some (.agg x.cells):=by simp[hj]
 refine Qd I _ ⟨f,0,rfl,rfl,QUU _,h1,by rw[h3];simp,hr,hL,hc,hd⟩ ?_;clear h1 h3 hr hL hc hd;simp only[PO.cells]at hjm;rintro _ st ⟨f,i,rfl,rfl,hi,h1,h3,hr,hL,hc,hd⟩;simp only[hc,hd,Qa,seval];by_cases hlt:i<j
 ·obtain⟨o,hg⟩:∃o,L[i]? = some o:=⟨L[i]'(by omega),QUN (by omega)⟩;have hgm:(L.map fun o=>AV.agg o.cells)[i]? = some (.agg o.cells):=by simp[hg]
  have e1:=Qq i _ (show i<L.length by omega) hl;have ht:=Q2 (q:=fun y:PO=>!(y.name==x.name)) hg;have fin:∀f':Fr,f' 1=.ptr 0 1 0→f' 3=.bool ((b&&(L.take i).all fun y=>!(y.name==x.name)) && !(o.name==x.name))→f' 4=.int .i64 (n:Nat)→f' 6=.list (L.map fun o=>.agg o.cells)→f' 7=.int .i64 (j:Nat)→f' 8=.int .i64 ((i+1:Nat):Int)→∃k,k<j-i∧I k ⟨f',[fr],[]⟩:=by
   intro f' a1 a3 a4 a5 a6 a7;exact⟨j-(i+1),by omega,f',i+1,rfl,rfl,by omega,a1,by rw[a3,ht,QVw],a4,a5,a6,a7⟩
  simp only[PO.cells]at hgm;cases hb:(b&&(L.take i).all fun y=>!(y.name==x.name))
  ·rw[hb]at fin h3;simp only[Qm hlt,h3,hd,e1,Qa,seval];exact fin _ (by exact h1) (by rfl) (by exact hr) (by exact hL) (by exact hc) (by rfl)
  ·rw[hb,QWn]at fin;rw[hb]at h3;simp only[Qm hlt,Qi,QWd,Qc,hgm,hjm,PO.cells,QM,h3,hL,hc,hd,e1,eE,seval];exact fin _ (by exact h1) (by rfl) (by exact hr) (by exact hL) (by exact hc) (by rfl)
 ·rw[show i=j by omega]at h3;simp only[QB hlt,Qa,seval];exact hx _ (by exact h1) (by exact h3) (by exact hr) (by exact hL) (by exact hc)

include h1 h3 in
theorem Rk (L:List PO)(hl:L.length≤maxLen)(n:Nat)(hr:f 4=.int .i64 (n:Nat))(hL:f 6=.list (L.map fun o=>.agg o.cells))(hc:f 7=.int .i64 0)
  (hx:∀f,f 1=.ptr 0 1 0→f 3=.bool (b&&Ki L PO.name)→f 4=.int .i64 (n:Nat)→Q (.exit 4) (⟨f,[fr],[]⟩:St)) :
  QI Tryz.prog (.loop Sf) ⟨f,[fr],[]⟩ Q:=by
 let I:Nat→St→Prop:=fun k st=>∃f i,st=⟨f,[fr],[]⟩∧k=L.length-i∧i≤L.length∧f 1=.ptr 0 1 0∧f 3=.bool (b&&QC (uniq L PO.name) i)∧f 4=.int .i64 (n:Nat)∧f 6=.list (L.map fun o=>.agg o.cells)∧f 7=.int .i64 (i:Nat)
 refine Qd I _ ⟨f,0,rfl,rfl,QUU _,h1,by rw[h3];simp[QC],hr,hL,hc⟩ ?_;clear h1 h3 hr hL hc;rintro _ st ⟨f,i,rfl,rfl,hi,h1,h3,hr,hL,hc⟩;simp only[QVH,hL,hc,Qa,seval];by_cases hlt:i<L.length
 ·obtain⟨o,hg⟩:∃o,L[i]? = some o:=⟨L[i],QUN hlt⟩;have e1:=Qq i _ hlt hl;have ht:=Jg b (uniq L PO.name) i;rw[Uy hg]at ht;simp only[Qm hlt,Qa,seval];refine Rj fr _ (b&&QC (uniq L PO.name) i) (by exact h1) (by exact h3) _ L hl i o hg n (by exact hr) (by exact hL) (by exact hc) (by rfl) (fun f h1 h3 hr hL hc=>?_);simp only[hc,e1,Qa,seval];exact⟨L.length-(i+1),by omega,_,i+1,rfl,rfl,by omega,(by exact h1),by rw[ht]<;>first|exact h3|simp only[h3,eE,seval],(by exact hr),(by exact hL),(by rfl)⟩
 ·rw[show i=L.length by omega]at h3;simp only[QB hlt,Qa,seval];exact hx _ (by exact h1) (by exact h3) (by exact hr)

include h1 h3 in
theorem VU (L:List PI)(hl:L.length≤maxLen)(j:Nat)(x:PI)(hj:L[j]? = some x)(n:Nat)(hr:f 9=.int .i64 (n:Nat))(hL:f 10=.list (L.map fun o=>.agg o.cells))(hc:f 11=.int .i64 (j:Nat))(hd:f 12=.int .i64 0)
  (hx:∀f,f 1=.ptr 0 1 0→f 3=.bool (b&&(L.take j).all fun y=>!(y.name==x.name))→f 9=.int .i64 (n:Nat)→f 10=.list (L.map fun o=>.agg o.cells)→f 11=.int .i64 (j:Nat)→Q (.exit 12) (⟨f,[fr],[]⟩:St)) :
  QI Tryz.prog (.loop Sh) ⟨f,[fr],[]⟩ Q:=by
 let I:Nat→St→Prop:=fun k st=>∃f i,st=⟨f,[fr],[]⟩∧k=j-i∧i≤j∧f 1=.ptr 0 1 0∧f 3=.bool (b&&(L.take i).all fun y=>!(y.name==x.name))∧f 9=.int .i64 (n:Nat)∧f 10=.list (L.map fun o=>.agg o.cells)∧f 11=.int .i64 (j:Nat)∧f 12=.int .i64 (i:Nat)
 have hjl:j<L.length:=(QUM.1 hj).1;have hjm:(L.map fun o=>AV.agg o.cells)[j]? = some (.agg x.cells):=by simp[hj]
 refine Qd I _ ⟨f,0,rfl,rfl,QUU _,h1,by rw[h3];simp,hr,hL,hc,hd⟩ ?_;clear h1 h3 hr hL hc hd;simp only[PI.cells]at hjm;rintro _ st ⟨f,i,rfl,rfl,hi,h1,h3,hr,hL,hc,hd⟩;simp only[hc,hd,Qa,seval];by_cases hlt:i<j
 ·obtain⟨o,hg⟩:∃o,L[i]? = some o:=⟨L[i]'(by omega),QUN (by omega)⟩;have hgm:(L.map fun o=>AV.agg o.cells)[i]? = some (.agg o.cells):=by simp[hg]
  have e1:=Qq i _ (show i<L.length by omega) hl;have ht:=Q2 (q:=fun y:PI=>!(y.name==x.name)) hg;have fin:∀f':Fr,f' 1=.ptr 0 1 0→f' 3=.bool ((b&&(L.take i).all fun y=>!(y.name==x.name)) && !(o.name==x.name))→f' 9=.int .i64 (n:Nat)→f' 10=.list (L.map fun o=>.agg o.cells)→f' 11=.int .i64 (j:Nat)→f' 12=.int .i64 ((i+1:Nat):Int)→∃k,k<j-i∧I k ⟨f',[fr],[]⟩:=by
   intro f' a1 a3 a4 a5 a6 a7;exact⟨j-(i+1),by omega,f',i+1,rfl,rfl,by omega,a1,by rw[a3,ht,QVw],a4,a5,a6,a7⟩
  simp only[PI.cells]at hgm;cases hb:(b&&(L.take i).all fun y=>!(y.name==x.name))
  ·rw[hb]at fin h3;simp only[Qm hlt,h3,hd,e1,Qa,seval];exact fin _ (by exact h1) (by rfl) (by exact hr) (by exact hL) (by exact hc) (by rfl)
  ·rw[hb,QWn]at fin;rw[hb]at h3;simp only[Qm hlt,Qi,QWd,Qc,hgm,hjm,PI.cells,QM,h3,hL,hc,hd,e1,eE,seval];exact fin _ (by exact h1) (by rfl) (by exact hr) (by exact hL) (by exact hc) (by rfl)
 ·rw[show i=j by omega]at h3;simp only[QB hlt,Qa,seval];exact hx _ (by exact h1) (by exact h3) (by exact hr) (by exact hL) (by exact hc)

include h1 h3 in
theorem VV (L:List PI)(hl:L.length≤maxLen)(n:Nat)(hr:f 9=.int .i64 (n:Nat))(hL:f 10=.list (L.map fun o=>.agg o.cells))(hc:f 11=.int .i64 0)
  (hx:∀f,f 1=.ptr 0 1 0→f 3=.bool (b&&Ki L PI.name)→f 9=.int .i64 (n:Nat)→Q (.exit 10) (⟨f,[fr],[]⟩:St)) :
  QI Tryz.prog (.loop Si) ⟨f,[fr],[]⟩ Q:=by
 let I:Nat→St→Prop:=fun k st=>∃f i,st=⟨f,[fr],[]⟩∧k=L.length-i∧i≤L.length∧f 1=.ptr 0 1 0∧f 3=.bool (b&&QC (uniq L PI.name) i)∧f 9=.int .i64 (n:Nat)∧f 10=.list (L.map fun o=>.agg o.cells)∧f 11=.int .i64 (i:Nat)
 refine Qd I _ ⟨f,0,rfl,rfl,QUU _,h1,by rw[h3];simp[QC],hr,hL,hc⟩ ?_;clear h1 h3 hr hL hc;rintro _ st ⟨f,i,rfl,rfl,hi,h1,h3,hr,hL,hc⟩;simp only[QVH,hL,hc,Qa,seval];by_cases hlt:i<L.length
 ·obtain⟨o,hg⟩:∃o,L[i]? = some o:=⟨L[i],QUN hlt⟩;have e1:=Qq i _ hlt hl;have ht:=Jg b (uniq L PI.name) i;rw[Uy hg]at ht;simp only[Qm hlt,Qa,seval];refine VU fr _ (b&&QC (uniq L PI.name) i) (by exact h1) (by exact h3) _ L hl i o hg n (by exact hr) (by exact hL) (by exact hc) (by rfl) (fun f h1 h3 hr hL hc=>?_);simp only[hc,e1,Qa,seval];exact⟨L.length-(i+1),by omega,_,i+1,rfl,rfl,by omega,(by exact h1),by rw[ht]<;>first|exact h3|simp only[h3,eE,seval],(by exact hr),(by exact hL),(by rfl)⟩
 ·rw[show i=L.length by omega]at h3;simp only[QB hlt,Qa,seval];exact hx _ (by exact h1) (by exact h3) (by exact hr)

include hP m1 h1 h3

theorem QO6 (j:Nat)(x:PG)(hj:P.progs[j]? = some x)(ha:f 4=.int .i64 (j:Nat))(hc:f 5=.int .i64 0)(hx:∀f,f 1=.ptr 0 1 0→f 3=.bool (b&&P.enums.all fun e=>!(e.name==x.name))→f 4=.int .i64 (j:Nat)→Q (.exit 2) (⟨f,[fr],[]⟩:St)):QI Tryz.prog (.loop Sd) ⟨f,[fr],[]⟩ Q:=by
 let I:Nat→St→Prop:=fun k st=>∃f i,st=⟨f,[fr],[]⟩∧k=P.enums.length-i∧i≤P.enums.length∧f 1=.ptr 0 1 0∧f 3=.bool (b&&(P.enums.take i).all fun e=>!(e.name==x.name))∧f 4=.int .i64 (j:Nat)∧f 5=.int .i64 (i:Nat)
 have hjm:(P.progs.map Qn)[j]? = some (.agg x.cells):=by simp[hj,Qn]
 refine Qd I _ ⟨f,0,rfl,rfl,QUU _,h1,by rw[h3];simp,ha,hc⟩ ?_;clear h1 h3 ha hc;simp only[Pc]at m1;simp only[PG.cells]at hjm;rintro _ st ⟨f,i,rfl,rfl,hi,h1,h3,ha,hc⟩;simp only[QVH,h1,m1,hc,eE,seval];by_cases hlt:i<P.enums.length
 ·obtain⟨o,hg⟩:∃o,P.enums[i]? = some o:=⟨P.enums[i],QUN hlt⟩;have hgm:(P.enums.map Qr)[i]? = some (.agg o.cells):=by simp[hg,Qr]
  have e1:=Qq i _ hlt hP.len2;have ht:=Q2 (q:=fun y:PE=>!(y.name==x.name)) hg;have hcm:(x.name==o.name)=(o.name==x.name):=by rw[QVG,QUS,QUS];exact⟨Eq.symm,Eq.symm⟩
  have fin:∀f':Fr,f' 1=.ptr 0 1 0→f' 3=.bool ((b&&(P.enums.take i).all fun y=>!(y.name==x.name)) && !(o.name==x.name))→f' 4=.int .i64 (j:Nat)→f' 5=.int .i64 ((i+1:Nat):Int)→∃k,k<P.enums.length-i∧I k ⟨f',[fr],[]⟩:=by
   intro f' a1 a3 a4 a5;exact⟨P.enums.length-(i+1),by omega,f',i+1,rfl,rfl,by omega,a1,by rw[a3,ht,QVw],a4,a5⟩
  simp only[PE.cells]at hgm;cases hb:(b&&(P.enums.take i).all fun y=>!(y.name==x.name))
  ·rw[hb]at fin h3;simp only[Qm hlt,h3,hc,e1,Qa,seval];exact fin _ (by exact h1) (by rfl) (by exact ha) (by rfl)
  ·rw[hb,QWn]at fin;rw[hb]at h3;simp only[Qm hlt,Qi,QWd,Qc,hjm,hgm,QM,hcm,h1,m1,h3,ha,hc,e1,eE,seval];exact fin _ (by exact h1) (by rfl) (by exact ha) (by rfl)
 ·have hf:(P.enums.take i).all (fun e=>!(e.name==x.name))=P.enums.all fun e=>!(e.name==x.name):=by rw[QVk (by omega)]
  rw[hf]at h3;simp only[QB hlt,Qa,seval];exact hx _ (by exact h1) (by exact h3) (by exact ha)

theorem QO7 (ha:f 4=.int .i64 0)(hx:∀f,f 1=.ptr 0 1 0→f 3=.bool (b&&P.progs.all (Km P))→Q (.exit 0) (⟨f,[fr],[]⟩:St)):QI Tryz.prog (.loop Sg) ⟨f,[fr],[]⟩ Q:=by
 let I:Nat→St→Prop:=fun k st=>∃f i,st=⟨f,[fr],[]⟩∧k=P.progs.length-i∧i≤P.progs.length∧f 1=.ptr 0 1 0∧f 3=.bool (b&&(P.progs.take i).all (Km P))∧f 4=.int .i64 (i:Nat)
 have m1':=m1;refine Qd I _ ⟨f,0,rfl,rfl,QUU _,h1,by rw[h3];simp,ha⟩ ?_;clear h1 h3 ha;simp only[Pc]at m1;rintro _ st ⟨f,i,rfl,rfl,hi,h1,h3,ha⟩;simp only[QVH,h1,m1,ha,eE,seval];by_cases hlt:i<P.progs.length
 ·obtain⟨x,hg⟩:∃x,P.progs[i]? = some x:=⟨P.progs[i],QUN hlt⟩;have hgm:(P.progs.map Qn)[i]? = some (.agg x.cells):=by simp[hg,Qn]
  have e1:=Qq i _ hlt hP.len1;have ht:=Q2 (q:=Km P) hg;have hq:Km P x=((P.enums.all fun e=>!(e.name==x.name))&&Ki x.ops PO.name):=rfl;simp only[PG.cells]at hgm;simp only[Qm hlt,Qa,seval];refine QO6 P hP fr m1' _ (b&&(P.progs.take i).all (Km P)) (by exact h1) (by exact h3) _ i x hg (by exact ha) (by rfl) (fun f h1 h3 ha=>?_);simp only[Qi,QWd,Qc,hgm,h1,m1,ha,eE,seval];refine Rk fr _ _ (by exact h1) (by exact h3) _ x.ops (hP.progs x (QUZ hg)).len i (by exact ha) (by rfl) (by rfl) (fun f h1 h3 ha=>?_);simp only[ha,e1,Qa,seval];exact⟨P.progs.length-(i+1),by omega,_,i+1,rfl,rfl,by omega,(by exact h1),by rw[ht,hq,←QVw,←QVw]<;>first|exact h3|simp only[h3,eE,seval],(by rfl)⟩
 ·have hf:(P.progs.take i).all (Km P)=P.progs.all (Km P):=by rw[QVk (by omega)]
  rw[hf]at h3;simp only[QB hlt,Qa,seval];exact hx _ (by exact h1) (by exact h3)

theorem QO8 (ha:f 9=.int .i64 0)(hx:∀f,f 1=.ptr 0 1 0→f 3=.bool (b&&P.enums.all Wi)→Q (.exit 8) (⟨f,[fr],[]⟩:St)):QI Tryz.prog (.loop Sj) ⟨f,[fr],[]⟩ Q:=by
 let I:Nat→St→Prop:=fun k st=>∃f i,st=⟨f,[fr],[]⟩∧k=P.enums.length-i∧i≤P.enums.length∧f 1=.ptr 0 1 0∧f 3=.bool (b&&(P.enums.take i).all Wi)∧f 9=.int .i64 (i:Nat)
 refine Qd I _ ⟨f,0,rfl,rfl,QUU _,h1,by rw[h3];simp,ha⟩ ?_;clear h1 h3 ha;simp only[Pc]at m1;rintro _ st ⟨f,i,rfl,rfl,hi,h1,h3,ha⟩;simp only[QVH,h1,m1,ha,eE,seval];by_cases hlt:i<P.enums.length
 ·obtain⟨x,hg⟩:∃x,P.enums[i]? = some x:=⟨P.enums[i],QUN hlt⟩;have hgm:(P.enums.map Qr)[i]? = some (.agg x.cells):=by simp[hg,Qr]
  have e1:=Qq i _ hlt hP.len2;have ht:=Q2 (q:=Wi) hg;have hq:Wi x=Ki x.items PI.name:=rfl;simp only[PE.cells]at hgm;simp only[Qm hlt,Qi,QWd,Qc,hgm,h1,m1,ha,eE,seval];refine VV fr _ (b&&(P.enums.take i).all Wi) (by exact h1) (by exact h3) _ x.items (hP.enums x (QUZ hg)).len1 i (by exact ha) (by rfl) (by rfl) (fun f h1 h3 ha=>?_);simp only[ha,e1,Qa,seval];exact⟨P.enums.length-(i+1),by omega,_,i+1,rfl,rfl,by omega,(by exact h1),by rw[ht,hq,←QVw]<;>first|exact h3|simp only[h3,eE,seval],(by rfl)⟩
 ·have hf:(P.enums.take i).all Wi=P.enums.all Wi:=by rw[QVk (by omega)]
  rw[hf]at h3;simp only[QB hlt,Qa,seval];exact hx _ (by exact h1) (by exact h3)

end

theorem z46 {M:Nat}(P:PL)(hP:P.ok M):Qj Tryz.prog 46 [P.av] (.bool (F2 P)):=by
 have e0:P.av=.agg [.list (P.progs.map Qn),.list (P.enums.map Qr)]:=rfl;refine k46.fn (by simp) ?_;simp only[e0,eE,seval];refine QO7 P hP _ (by rfl) _ true (by rfl) (by rfl) _ (by rfl) (fun f h1 h3=>?_);simp only[Qa,seval];refine QO8 P hP _ (by rfl) _ _ (by exact h1) (by exact h3) _ (by rfl) (fun f h1 h3=>?_);simp only[h3,F2,QWn,Qa,seval]

theorem Qvb:Qj Tryz.prog 128 [.str alias] (.int .i64 7):=by
 refine QKJ.fn (by simp) ?_;have b1:(alias==([100,101,112,114,101,99,97,116,101,100]:List UInt8))=false:=by decide
 have b2:(alias==([115,101,99,114,101,116]:List UInt8))=false:=by decide
 have b3:(alias==([105,100,101,109,112,111,116,101,110,116]:List UInt8))=false:=by decide
 have b4:(alias==([100,111,99]:List UInt8))=false:=by decide
 have b5:(alias==([97,108,105,97,115]:List UInt8))=true:=by decide
 simp only[QM,b1,b2,b3,b4,b5,Qa,seval]

theorem QO9:Qj Tryz.prog 129 [.str alias,.int .i64 4] (.bool true):=by
 refine QKM.fn (by simp) ?_;have b1:(alias==([100,101,112,114,101,99,97,116,101,100]:List UInt8))=false:=by decide
 have b4:(alias==([100,111,99]:List UInt8))=false:=by decide
 have b5:(alias==([97,108,105,97,115]:List UInt8))=true:=by decide
 have c2:((4:Int)==2)=false:=rfl;have c4:((4:Int)==4)=true:=rfl;simp only[QM,b1,b4,b5,c2,c4,Qa,seval]

section
variable (kd:Int)(b:Nat)(t:List UInt8)(l p s r:List AV)(ht:t.length+8≤maxLen)
include ht

theorem QPa:Qj Tryz.prog 201 [.int .i64 7,vo kd b t l p s r] (.bool (Xx 7 kd b t l p s r)):=by
 have hl:=Ri kd b t l p s r;simp only[vo]at hl;have n1:(kd != 7)=!(kd==7):=rfl;have k7:isk 7=true:=rfl;have t7:X8 7=true:=rfl;have f7:Yl 7 b=true:=rfl;have c8:((7:Int)==8)=false:=rfl;have c7:((7:Int) != 7)=false:=rfl;refine Qsi.fn (by simp) ?_;simp only[vo,Xx,k7,f7,c7,QWn,QVZ,QWr,eE,seval];refine Qb (VD 7) rfl rfl rfl (.inl rfl) ?_;simp only[k7,n1,QWo,eE,seval];by_cases hk:kd=7
 ·subst hk;have a1:((7:Int)==7)=true:=rfl;simp only[a1,QWo,QWn,t7,eE,seval];refine Qb hl rfl rfl rfl (.inl rfl) ?_;cases WJ l p s r
  ·simp only[QVT,QWg,Qa,seval]
  simp only[QWo,QWn,Qa,seval];refine Qb (Hj 7) rfl rfl rfl (.inl rfl) ?_;simp only[t7,eE,seval];cases a2:((b:Int)==0)
  ·simp only[QWg,Qa,seval]
  cases a3:decide ((t.length:Int)≤4096)
  ·simp only[a3,QWg,QWE,eE,seval]
  simp only[a3,c8,QWn,eE,seval];refine Qb (VH t ht) rfl rfl rfl (.inl rfl) ?_;simp only[Qa,seval]
 ·have a1:(kd==7)=false:=by simp[hk]
  simp only[a1,QVT,QWg,Qa,seval]

theorem QPb:Qj Tryz.prog 130 [nv kd b t l p s r] (.bool (Xx 7 kd b t l p s r)):=by
 have hf:=QPa kd b t l p s r ht;have b0:((7:Int) != 0)=true:=rfl;simp only[vo]at hf;refine QKP.fn (by simp) ?_;simp only[nv,eE,seval];refine Qb Qvb rfl rfl rfl (.inl rfl) ?_;simp only[b0,eE,seval];cases a1:(kd==7)
 ·have e:Xx 7 kd b t l p s r=false:=by unfold Xx;rw[a1];rfl
  simp only[e,Qa,seval]
 ·simp only[eE,seval];refine Qb hf rfl rfl rfl (.inl rfl) ?_;simp only[Qa,seval]

def RcI (k:Nat)(st:St):Prop :=
 ∃f i,st=⟨f,[Qe],[]⟩∧k=1-i∧i≤1∧(i=1→Xx 7 kd b t l p s r=true)∧f 0=.list [nv kd b t l p s r]∧f 1=.int .i64 4∧f 5=.int .i64 (i:Nat)

theorem z79:Qj Tryz.prog 79 [.list [nv kd b t l p s r],.int .i64 4] (.int .i64 (if Xx 7 kd b t l p s r=true then 0 else 12)):=by
 have b0:decide (((1:Nat):Int) > 8)=false:=rfl;have hr:=QPb kd b t l p s r ht;simp only[nv]at hr;refine k79.fn (by simp) ?_;simp only[QU1,QVI,QVs,Qa,seval];refine Qd (RcI kd b t l p s r) 1 ⟨_,0,rfl,rfl,QUU _,(fun h=>by cases h),(by rfl),(by rfl),(by rfl)⟩ ?_;rintro _ st ⟨f,i,rfl,rfl,hi,hf,h0,h1,h5⟩;simp only[nv]at h0;simp only[h0,h5,QU1,QVI,QVs,Qa,seval];rcases Nat.le_one_iff_eq_zero_or_eq_one.1 hi with rfl|rfl
 ·have c0:decide (((0:Nat):Int)<((1:Nat):Int))=true:=rfl;have c1:decide (((0:Nat):Int) > 0)=false:=rfl;have d7:((7:Int)==0)=false:=rfl;have e1:IntKind.i64.wrap (((0:Nat):Int)+1)=((1:Nat):Int):=rfl;have z0:(0≤((0:Nat):Int))=True:=by simp
  have z1:Int.toNat ((0:Nat):Int)=0:=rfl;simp only[Qc,QVO,h0,h5,eE,seval];refine Qb Qvb rfl rfl rfl (.inl rfl) ?_;simp only[d7,Qc,QVO,h0,h1,h5,eE,seval];refine Qb QO9 rfl rfl rfl (.inl rfl) ?_;simp only[QWo,Qc,QVO,h0,h5,eE,seval];refine Qb hr rfl rfl rfl (.inl rfl) ?_;cases hfv:Xx 7 kd b t l p s r
  ·simp only[QVT,QU5,Qa,seval]
  ·simp only[QWo,h5,Qa,seval];exact⟨0,by omega,_,1,rfl,rfl,QUK _,fun _=>hfv,(by exact h0),(by exact h1),(by rfl)⟩
 ·have c0:decide (((1:Nat):Int)<((1:Nat):Int))=false:=rfl;simp only[hf rfl,Qa,seval]

end

section
variable (P:PL)

def Yo (P:PL)(o:PO):Bool :=
 if o.kind=10 then decide (o.target≥0)&&decide (o.target<(P.progs.length:Int))&&o.card != 3
 else if o.kind=9 then decide (o.target≥0)&&decide (o.target<(P.enums.length:Int))else o.target == -1

theorem QPc (o:PO):Qj Tryz.prog 132 [P.av,Qt o] (.bool (Yo P o)):=by
 have e0:P.av=.agg [.list (P.progs.map Qn),.list (P.enums.map Qr)]:=rfl;refine QKV.fn (by simp) ?_;simp only[e0,Qt,PO.cells,Yo,eE,seval];by_cases h:o.kind=10
 ·have b0:(o.kind==10)=true:=by simp[h]
  simp only[b0,QVf h,eE,seval];cases a1:decide (o.target≥0)<;>cases a2:decide (o.target<(P.progs.length:Int))<;>simp only[a2,QWn,QWg,QVH,eE,seval]
 ·have b0:(o.kind==10)=false:=by simp[h]
  by_cases h9:o.kind=9
  ·have b1:(o.kind==9)=true:=by simp[h9]
   simp only[b0,b1,QU0 h,QVf h9,eE,seval];cases a1:decide (o.target≥0)<;>simp only[QWn,QWg,QVH,eE,seval]
  ·have b1:(o.kind==9)=false:=by simp[h9]
   simp only[b0,b1,QU0 h,QU0 h9,eE,seval]

theorem Qvc (o:PO):(X3 P o&&XT o)=(U8 o.alias&&(decide ((o.alias.length:Int)≤4096)&&(decide (o.card≥1)&&(decide (o.card≤5)&&(decide (o.kind≥1)&&(decide (o.kind≤10)&&(key o&&Yo P o&&XT o))))))):=by
 have h:Gl P o=(decide (o.kind≥1)&&decide (o.kind≤10)&&Yo P o):=by
  unfold Gl Yo;by_cases h:o.kind=10
  ·rw[QVf h,QVf h,h];rfl
  ·rw[QU0 h,QU0 h];by_cases h9:o.kind=9
   ·rw[QVf h9,QVf h9,h9];rfl
   ·rw[QU0 h9,QU0 h9];congr 1
    unfold isk;rw[QVG,QVa,QVa];simp only[QUR];omega
 unfold X3;rw[h];cases U8 o.alias<;>cases decide ((o.alias.length:Int)≤4096)<;>cases decide (o.card≥1)<;>cases decide (o.card≤5)<;>cases decide (o.kind≥1)<;>cases decide (o.kind≤10)<;>cases key o<;>cases Yo P o<;>cases XT o<;>rfl

theorem z81 (o:PO)(ha:o.alias.length+8≤maxLen):Qj Tryz.prog 81 [P.av,Qt o] (.bool (X3 P o&&XT o)):=by
 have e0:P.av=.agg [.list (P.progs.map Qn),.list (P.enums.map Qr)]:=rfl;have n1:decide ((o.alias.length:Int) > 4096)=!decide ((o.alias.length:Int)≤4096):=(by rw[QVG];simp only[QUR,QVK,QWD];omega);have n2:decide (o.card<1)=!decide (o.card≥1):=(by rw[QVG];simp only[QUR,QVK,QWD];omega);have n3:decide (o.card > 5)=!decide (o.card≤5):=(by rw[QVG];simp only[QUR,QVK,QWD];omega);have n4:decide (o.kind<1)=!decide (o.kind≥1):=(by rw[QVG];simp only[QUR,QVK,QWD];omega);have n5:decide (o.kind > 10)=!decide (o.kind≤10):=(by rw[QVG];simp only[QUR,QVK,QWD];omega);have ht:Qj Tryz.prog 132 [.agg [.list (P.progs.map Qn),.list (P.enums.map Qr)],Qt o] (.bool (Yo P o)):=QPc P o;have hk1:o.card≠5→key o=(o.key==0):=fun h=>by unfold key;rw[QU0 h]
 have hk2:o.card=5→key o=((decide (o.key≥1)&&decide (o.key≤5))||o.key==7):=fun h=>by
  unfold key;rw[QVf h,QVG];simp only[QVa,QUQ,QUR,QUS,QVc,ne_eq];omega
 have hu:XT o=(o.union == -1||o.card==2):=rfl;simp only[Qt,PO.cells]at ht;rw[Qvc];refine k81.fn (by simp) ?_;simp only[Sy,Sz,SA,SB,SC,SD,r81,o81,e0,Qt,PO.cells,eE,seval];refine Qb (VH o.alias ha) rfl rfl rfl (.inl rfl) ?_;cases U8 o.alias
 ·simp only[QVT,QWg,Qa,seval]
 cases a1:decide ((o.alias.length:Int)≤4096)
 ·simp only[QWo,QVT,QWn,n1,a1,QWg,eE,seval]
 cases a2:decide (o.card≥1)
 ·simp only[QWo,QVT,QWn,n1,n2,a1,a2,QWg,eE,seval]
 cases a3:decide (o.card≤5)
 ·simp only[QWo,QVT,QWn,n1,n2,n3,a1,a2,a3,QWg,eE,seval]
 cases a4:decide (o.kind≥1)
 ·simp only[QWo,QVT,QWn,n1,n2,n3,n4,a1,a2,a3,a4,QWg,eE,seval]
 cases a5:decide (o.kind≤10)
 ·simp only[QWo,QVT,QWn,n1,n2,n3,n4,n5,a1,a2,a3,a4,a5,QWg,eE,seval]
 have fin:∀(f:Fr) (fr:Nat→Ob) (kb:Bool),kb=key o→f 2=.ptr 0 2 0→fr 2=.cells [.list (P.progs.map Qn),.list (P.enums.map Qr)]→f 3=.ptr 0 3 0→fr 3=.cells [.int .i64 o.num,.str o.name,.str o.alias,.int .i64 o.card,.int .i64 o.key,.int .i64 o.kind,.int .i64 o.target,.int .i64 o.union]→f 5=.bool kb→
   QF Tryz.prog VC ⟨f,[fr],[]⟩ (Kc Tryz.prog .ret (Zg [.tmp 4] 0 fun x _=>x=.bool (key o&&Yo P o&&XT o)) .normal):=by
  intro f fr kb hkb h2 m2 h3 m3 h5;subst hkb;simp only[VC,h5,Qa,seval];cases key o
  ·simp only[QWg,Qa,seval]
  simp only[h2,m2,h3,m3,QWn,eE,seval];refine Qb ht rfl rfl rfl (.inl rfl) ?_;cases Yo P o
  ·simp only[QWg,Qa,seval]
  rw[hu];cases c1:(o.union == -1)<;>simp only[h3,m3,c1,QWn,QWq,QWr,eE,seval]
 by_cases h5:o.card=5
 ·have b5:(o.card != 5)=false:=by simp[h5]
  have hk:=hk2 h5;simp only[QWo,QWn,n1,n2,n3,n4,n5,a1,a2,a3,a4,a5,eE,seval];cases c1:decide (o.key≥1)<;>cases c2:decide (o.key≤5)<;>cases c3:(o.key==7)<;>simp only[c2,c3,b5,eE,seval]
  all_goals
   rw[c1,c2,c3]at hk;exact fin _ _ _ hk.symm (by rfl) (by rfl) (by rfl) (by rfl) (by rfl)
 ·have b5:(o.card != 5)=true:=by simp[h5]
  have hk:=hk1 h5;simp only[QWo,QWn,n1,n2,n3,n4,n5,a1,a2,a3,a4,a5,eE,seval];cases c1:decide (o.key≥1)<;>cases c2:decide (o.key≤5)<;>cases c3:(o.key==7)<;>simp only[c2,c3,b5,eE,seval]
  all_goals exact fin _ _ _ hk.symm (by rfl) (by rfl) (by rfl) (by rfl) (by rfl)

end

end Go.Proofs.YtipjfckmopekaaaGreatDoor.Va

namespace Go.Proofs.YtipjfckmopekaaaGreatDoor.Cp
open Go Am Bt Vp

structure C where
 d:List UInt8
 a:Int
 e:Int
 dp:Int
 nd:Int
 tx:Int

def C.av (c:C):AV:=.agg [.str c.d,.int .i64 c.a,.int .i64 c.e,.int .i64 c.dp,.int .i64 c.nd,.int .i64 c.tx]
def zc:C:=⟨[],0,0,0,0,0⟩

structure L where
 b:Int
 dp:Int
 nd:Int
 tx:Int
def L.av (l:L):AV:=.agg [.int .i64 l.b,.int .i64 l.dp,.int .i64 l.nd,.int .i64 l.tx]

def C.sound (c:C):Bool:=decide (0≤c.a)&&decide (c.a≤c.e)&&decide (c.e≤(c.d.length:Int))
def C.rest (c:C):List UInt8:=bif c.sound then(c.d.drop c.a.toNat).take (c.e.toNat-c.a.toNat)else []
def C.left (c:C):Int:=(c.rest.length:Int)
def C.ahead (c:C)(n:Int):C:={ c with a:=IntKind.i64.wrap (c.a+n) }

def opn (s:List UInt8)(l:L):C×Nat :=
 if l.b<0∨l.dp<0∨l.nd<0∨l.tx<0 then(zc,1)else if l.b<(s.length:Int)then(zc,3)else(⟨s,0,s.length,l.dp,l.nd,l.tx⟩,0)

def C.varint (c:C):Nat×C×Nat :=
 let r:=Vp.take c.rest
 if r.2.2=0 then(r.1,c.ahead r.2.1,0)else(0,c,r.2.2)

def Rl (s:List UInt8):Nat:=(s.take 8).foldr (fun b u=>256*u+b.toNat) 0

def C.fixed (c:C):Nat×C×Nat :=
 if c.rest.length<8 then(0,c,4)else(Rl c.rest,c.ahead 8,0)

def C.spend (c:C)(n:Int):C×Nat :=
 if n<0 then(c,1)else if c.nd<n then(c,3)else({ c with nd:=IntKind.i64.wrap (c.nd-n) },0)

theorem C.sound_iff (c:C):c.sound=true↔0≤c.a∧c.a≤c.e∧c.e≤(c.d.length:Int):=by
 simp[C.sound,and_assoc]

theorem C.rest_len (c:C):c.left=if c.sound=true then c.e-c.a else 0:=by
 unfold C.left C.rest;split
 ·rename_i h;rw[h];have:=(C.sound_iff c).1 h;simp;omega
 ·rename_i h;have h:c.sound=false:=by simpa using h
  rw[h];rfl

theorem C.rest_no {c:C}(h:c.sound=false):c.rest=[]:=by
 unfold C.rest;rw[h];rfl

end Go.Proofs.YtipjfckmopekaaaGreatDoor.Cp

namespace Go.Proofs.YtipjfckmopekaaaGreatDoor.Up
open Go Am Bt Vp Cp

structure R where
 num:Int
 wire:Int
 bits:Nat
 data:List UInt8
 deriving DecidableEq

def R.av (f:R):AV:=.agg [.int .i64 f.num,.int .i64 f.wire,.int .u64 (f.bits:Nat),.str f.data]
def zr:R:=⟨0,0,0,[]⟩

def XX (num wire:Int):List UInt8×Nat :=
 if num<1∨65535<num∨wire<0∨6<wire then([],6)else(Vp.put (num*8+wire).toNat,0)
def Ua (r:List UInt8×Nat):AV:=.tup [.str r.1,.int .i64 (r.2:Nat)]

def NK (c:C):Int×Int×C×Nat :=
 let r:=c.varint
 if r.2.2=0 then
  if r.1 % 8=7 then(0,0,c,5)else if r.1 / 8<1∨65535<r.1 / 8 then(0,0,c,6)else((r.1 / 8:Nat),(r.1 % 8:Nat),r.2.1,0)
 else(0,0,c,r.2.2)
def ZD (wire:Int):Bool:=wire==0||wire==1||wire==2

def Be (c:C)(wire:Int):List UInt8×C×Nat :=
 let r:=c.varint
 if r.2.2=0 then
  if r.2.1.left<(r.1:Int)then([],c,4)
  else if (if wire=3 then c.tx else 65536)<(r.1:Int)then([],c,3)
  else((r.2.1.d.drop r.2.1.a.toNat).take r.1,r.2.1.ahead r.1,0)
 else([],c,r.2.2)
def Qvd (c:C)(f:R):R×C×Nat :=
 if f.wire=2 then({ f with bits:=c.fixed.1 },c.fixed.2.1,c.fixed.2.2)
 else if f.wire=0∨f.wire=1 then({ f with bits:=c.varint.1 },c.varint.2.1,c.varint.2.2)
 else({ f with data:=(Be c f.wire).1 },(Be c f.wire).2.1,(Be c f.wire).2.2)

def W2 (c:C):R×C×Nat :=
 let t:=NK c
 if t.2.2.2=0 then
  let s:=t.2.2.1.spend 1
  if s.2=0 then
   let k:=Qvd s.1 { num:=t.1,wire:=t.2.1,bits:=0,data:=[] }
   if k.2.2=0 then k else(zr,c,k.2.2)
  else(zr,c,s.2)
 else(zr,c,t.2.2.2)
theorem Bf {c:C}(h:c.rest≠[]):c.sound=true:=by
 cases hs:c.sound with
 |true=>rfl
 |false=>exact absurd (C.rest_no hs) h

theorem WT {c:C}(hl:c.d.length≤9223372036854775807)(h:c.varint.2.2=0):∃n:Nat,0<n∧n≤10∧(n:Int)≤c.left∧c.varint.2.1={ c with a:=c.a+n }∧c.sound=true∧c.varint.2.1.sound=true∧c.varint.1<2 ^ 64:=by
 unfold C.varint at h ⊢;have hb:=B4 c.rest;generalize Vp.take c.rest=r at h hb ⊢;obtain⟨u,n,e⟩:=r;simp only at h hb ⊢;split at h
 ·rename_i he;subst he;obtain⟨h1,h2,h3,h4⟩:=hb rfl;have hne:c.rest≠[]:=by intro e;rw[e]at h2;simp at h2;omega
  have hs:=Bf hne;have hs':=(C.sound_iff c).1 hs;have hle:=c.rest_len;rw[QVf hs]at hle;have hw:IntKind.i64.wrap (c.a+(n:Int))=c.a+n:=by
   have:(n:Int)≤c.left:=by unfold C.left;omega
   rw[QG];omega
  have hnl:(n:Int)≤c.left:=by unfold C.left;omega
  refine⟨n,h1,h3,hnl,?_,hs,?_,?_⟩
  ·rw[QVf rfl];simp only[C.ahead,hw]
  ·rw[QVf rfl];rw[C.sound_iff];simp only[C.ahead,hw];omega
  ·rw[QVf rfl];exact h4
 ·rename_i he;exact absurd h he

end Go.Proofs.YtipjfckmopekaaaGreatDoor.Up

namespace Go.Proofs.YtipjfckmopekaaaGreatDoor.Br
open Go Am Up

theorem Ly {M k:Nat}{cs:List AV}(h:Q5 Tryz.prog M k 52 cs):∃f:R,((Lit.int .i64 f.num).wf=true∧(Lit.int .i64 f.wire).wf=true∧(Lit.int .u64 (f.bits:Int)).wf=true∧f.data.length≤M)∧.agg cs=f.av:=by
 obtain⟨k,h⟩:=X5 Tryz.underlying52 h;simp only[Q5.HasL]at h;obtain⟨_,_,rfl,h0,_,_,rfl,h1,_,_,rfl,h2,_,_,rfl,h3,rfl⟩:=h;obtain⟨a0,rfl,w0⟩:=Xo Tryz.underlying3 h0;obtain⟨a1,rfl,w1⟩:=Xo Tryz.underlying3 h1;obtain⟨a2,rfl,w2⟩:=Xo Tryz.underlying26 h2;obtain⟨a3,rfl,w3⟩:=Jn Tryz.underlying9 h3;have hn:0≤a2:=Fz w2;obtain⟨n,rfl⟩:=QWp hn;exact⟨⟨a0,a1,n,a3⟩,⟨w0,w1,w2,w3⟩,rfl⟩

inductive V where
 |mk (k:Int) (b:Nat) (t:List UInt8) (l:List V) (p:List (V×V)) (s:List (Int×V)) (r:List R)
 deriving Inhabited

mutual
def V.cells:V→List AV
 |.mk k b t l p s r=>[.int .i64 k,.int .u64 (b:Nat),.str t,.list (V.cl l),.list (V.cp p),.list (V.cs s),.list (r.map R.av)]
def V.cl:List V→List AV
 | []=>[]
 |x :: l=>.agg x.cells :: V.cl l
def V.cp:List (V×V)→List AV
 | []=>[]
 |(a,b) :: l=>.agg (a.cells++b.cells) :: V.cp l
def V.cs:List (Int×V)→List AV
 | []=>[]
 |(n,a) :: l=>.agg (.int .i64 n :: a.cells) :: V.cs l
end

def V.kd:V→Int|.mk k _ _ _ _ _ _=>k
def V.bits:V→Nat|.mk _ b _ _ _ _ _=>b
def V.text:V→List UInt8|.mk _ _ t _ _ _ _=>t
def V.list:V→List V|.mk _ _ _ l _ _ _=>l
def V.pairs:V→List (V×V)|.mk _ _ _ _ p _ _=>p
def V.slots:V→List (Int×V)|.mk _ _ _ _ _ s _=>s
def V.raws:V→List R|.mk _ _ _ _ _ _ r=>r

def V.av (v:V):AV:=.agg v.cells
def V.pav (p:V×V):AV:=.agg (p.1.cells++p.2.cells)
def V.sav (s:Int×V):AV:=.agg (.int .i64 s.1 :: s.2.cells)

theorem V.cl_eq:∀l:List V,V.cl l=l.map V.av
 | []=>rfl
 |x :: l=>by rw[V.cl,V.cl_eq l];rfl
theorem V.cp_eq:∀l:List (V×V),V.cp l=l.map V.pav
 | []=>rfl
 |(a,b) :: l=>by rw[V.cp,V.cp_eq l];rfl
theorem V.cs_eq:∀l:List (Int×V),V.cs l=l.map V.sav
 | []=>rfl
 |(n,a) :: l=>by rw[V.cs,V.cs_eq l];rfl

theorem V.eta:∀v:V,v.cells=[.int .i64 v.kd,.int .u64 (v.bits:Nat),.str v.text,.list (v.list.map V.av),.list (v.pairs.map V.pav),.list (v.slots.map V.sav),.list (v.raws.map R.av)]
 |.mk k b t l p s r=>by rw[V.cells,V.cl_eq,V.cp_eq,V.cs_eq];rfl

theorem V.ind {P:V→Prop}(h:∀v:V,(∀x∈v.list,P x)→(∀x∈v.pairs,P x.1∧P x.2)→(∀x∈v.slots,P x.2)→P v)(v:V):P v :=
 V.rec (motive_1:=P) (motive_2:=fun l=>∀x∈l,P x) (motive_3:=fun p=>∀x∈p,P x.1∧P x.2) (motive_4:=fun s=>∀x∈s,P x.2) (motive_5:=fun q=>P q.1∧P q.2) (motive_6:=fun q=>P q.2)
  (fun k b t l p s r hl hp hs=>h (.mk k b t l p s r) hl hp hs)
  (by simp) (fun a l ha hl=>by simpa using ⟨ha,hl⟩)
  (by simp) (fun a l ha hl=>by simp only[QV8,forall_eq_or_imp];exact⟨ha,hl⟩)
  (by simp) (fun a l ha hl=>by simp only[QV8,forall_eq_or_imp];exact⟨ha,hl⟩)
  (fun a b ha hb=>⟨ha,hb⟩) (fun n a ha=>ha) v

structure _root_.Go.Proofs.YtipjfckmopekaaaGreatDoor.Up.R.ok (M:Nat)(f:R):Prop where
 num:(Lit.int .i64 f.num).wf=true
 wire:(Lit.int .i64 f.wire).wf=true
 bits:(Lit.int .u64 (f.bits:Int)).wf=true
 data:f.data.length≤M

inductive V.ok (M:Nat):V→Prop
 |mk {v:V} (kd:(Lit.int .i64 v.kd).wf=true) (bits:(Lit.int .u64 (v.bits:Int)).wf=true) (text:v.text.length≤M) (nl:v.list.length≤1099511627776) (np:v.pairs.length≤549755813888) (ns:v.slots.length≤1099511627776) (nr:v.raws.length≤70368744177664)
   (list:∀x∈v.list,V.ok M x) (keys:∀x∈v.pairs,V.ok M x.1) (vals:∀x∈v.pairs,V.ok M x.2) (nums:∀x∈v.slots,(Lit.int .i64 x.1).wf=true) (slots:∀x∈v.slots,V.ok M x.2) (raws:∀x∈v.raws,x.ok M):V.ok M v

section
variable {M:Nat}{v:V}(h:v.ok M)
include h
theorem V.ok.kd:(Lit.int .i64 v.kd).wf=true:=by cases h;assumption
theorem V.ok.bits:(Lit.int .u64 (v.bits:Int)).wf=true:=by cases h;assumption
theorem V.ok.text:v.text.length≤M:=by cases h;assumption
theorem V.ok.nl:v.list.length≤1099511627776:=by cases h;assumption
theorem V.ok.np:v.pairs.length≤549755813888:=by cases h;assumption
theorem V.ok.ns:v.slots.length≤1099511627776:=by cases h;assumption
theorem V.ok.nr:v.raws.length≤70368744177664:=by cases h;assumption
theorem V.ok.list:∀x∈v.list,x.ok M:=by cases h;assumption
theorem V.ok.keys:∀x∈v.pairs,x.1.ok M:=by cases h;assumption
theorem V.ok.vals:∀x∈v.pairs,x.2.ok M:=by cases h;assumption
theorem V.ok.nums:∀x∈v.slots,(Lit.int .i64 x.1).wf=true:=by cases h;assumption
theorem V.ok.slots:∀x∈v.slots,x.2.ok M:=by cases h;assumption
theorem V.ok.raws:∀x∈v.raws,x.ok M:=by cases h;assumption
end

theorem V.cells_length (v:V):v.cells.length=7:=by rw[V.eta];rfl

theorem Db {c:List AV}(h:2≤c.length):Xn c=.agg c:=by
 match c,h with
 |_ :: _ :: _,_=>rfl

theorem QFK {M:Nat}(hM:M=reachBytes∨M≤1048576):∀ {k:Nat} {cs:List AV},Q5 Tryz.prog M k 32 cs→∃v:V,v.ok M∧cs=v.cells:=by
 intro k
 induction k using Nat.strongRecOn with
 |ind k ih=>
 intro cs h;cases k with
 |zero=>cases h
 |succ k=>
 simp only[Q5,Tryz.underlying32,Q5.HasL]at h;obtain⟨_,_,rfl,h0,_,_,rfl,h1,_,_,rfl,h2,_,_,rfl,h3,_,_,rfl,h4,_,_,rfl,h5,_,_,rfl,h6,rfl⟩:=h;obtain⟨a0,rfl,w0⟩:=Xo Tryz.underlying3 h0;obtain⟨a1,rfl,w1⟩:=Xo Tryz.underlying26 h1;obtain⟨a2,rfl,w2⟩:=Jn Tryz.underlying9 h2;have hb:0≤a1:=Fz w1;obtain⟨b,rfl⟩:=QWp hb;have sl:∀ {k0:Nat} {t e:TypeId} {cs:List AV},k0≤k→Tryz.prog.underlying t=some (.slice e)→Q5 Tryz.prog M k0 t cs→∃(k':Nat) (l:List (List AV)),k'<k∧cs=[.list (l.map Xn)]∧(l.length≤M∧(M=reachBytes→l.length*Tryz.prog.bytesOf e≤M))∧∀c∈l,Q5 Tryz.prog M k' e c:=by
  intro k0 t e cs hk hu h;cases k0 with
  |zero=>cases h
  |succ k0=>
   simp only[Q5,hu]at h;obtain⟨l,h1,h4,h3,h2⟩:=h;exact⟨k0,l,by omega,h1,⟨h2,h4.2⟩,h3⟩
 have nb:∀ {n b:Nat} (c:Nat),(n≤M∧(M=reachBytes→n*b≤M))→1048576≤c→(n*b≤140737488351232→n≤c)→n≤c:=fun c h1 h2 h3=>by
  rcases hM with e|e
  ·refine h3 (QUL (h1.2 e) ?_);rw[e];exact QUK _
  ·exact QUL h1.1 (QUL e h2)
 have y1:Tryz.prog.bytesOf 32=128:=by decide +kernel
 have y2:Tryz.prog.bytesOf 75=256:=by decide +kernel
 have y3:Tryz.prog.bytesOf 47=136:=by decide +kernel
 have y4:Tryz.prog.bytesOf 52=40:=by decide +kernel
 obtain⟨k3,l3,b3,rfl,w3,hl3⟩:=sl (QUK _) Tryz.underlying27 h3;obtain⟨k4,l4,b4,rfl,w4,hl4⟩:=sl (QUK _) Tryz.underlying28 h4;obtain⟨k5,l5,b5,rfl,w5,hl5⟩:=sl (QUK _) Tryz.underlying29 h5;obtain⟨k6,l6,b6,rfl,w6,hl6⟩:=sl (QUK _) Tryz.underlying30 h6;obtain⟨vs,rfl,hvs⟩:=Zk (f:=V.cells) (ok:=V.ok M) fun c hc=>ih k3 (by omega) (hl3 c hc)
 obtain⟨ps,rfl,hps⟩:=Zk (l:=l4) (f:=fun p:V×V=>p.1.cells++p.2.cells) (ok:=fun p=>p.1.ok M∧p.2.ok M) fun c hc=>by
  have h:=hl4 c hc;cases k4 with
  |zero=>cases h
  |succ k4=>
  simp only[Q5,Tryz.underlying75,Q5.HasL]at h;obtain⟨a,_,rfl,h0,b,_,rfl,h1,rfl⟩:=h;obtain⟨x,hx,rfl⟩:=ih k4 (by omega) h0;obtain⟨y,hy,rfl⟩:=ih k4 (by omega) h1;exact⟨(x,y),⟨hx,hy⟩,by simp⟩
 obtain⟨ss,rfl,hss⟩:=Zk (l:=l5) (f:=fun s:Int×V=>.int .i64 s.1 :: s.2.cells) (ok:=fun s=>(Lit.int .i64 s.1).wf=true∧s.2.ok M) fun c hc=>by
  have h:=hl5 c hc;cases k5 with
  |zero=>cases h
  |succ k5=>
  simp only[Q5,Tryz.underlying47,Q5.HasL]at h;obtain⟨_,_,rfl,h0,b,_,rfl,h1,rfl⟩:=h;obtain⟨a0,rfl,w0⟩:=Xo Tryz.underlying3 h0;obtain⟨y,hy,rfl⟩:=ih k5 (by omega) h1;exact⟨(a0,y),⟨w0,hy⟩,by simp⟩
 obtain⟨rs,rfl,hrs⟩:=Zk (l:=l6) (f:=fun r:R=>r.av.cells) (ok:=R.ok M) fun c hc=>by
  obtain⟨f,⟨g1,g2,g3,g4⟩,e⟩:=Ly (hl6 c hc);refine⟨f,⟨g1,g2,g3,g4⟩,?_⟩;rw[←e];rfl
 refine⟨.mk a0 b a2 vs ps ss rs,.mk w0 w1 w2 (by rw[QVH,y1]at w3;exact nb _ w3 (by decide) (by omega)) (by rw[QVH,y2]at w4;exact nb _ w4 (by decide) (by omega)) (by rw[QVH,y3]at w5;exact nb _ w5 (by decide) (by omega)) (by rw[QVH,y4]at w6;exact nb _ w6 (by decide) (by omega)) hvs (fun x hx=>(hps x hx).1) (fun x hx=>(hps x hx).2) (fun x hx=>(hss x hx).1) (fun x hx=>(hss x hx).2) hrs,?_⟩;rw[V.eta];have e3:(vs.map V.cells).map Xn=vs.map V.av:=by
  rw[QWw];exact List.map_congr_left fun c _=>Db (by rw[V.cells_length];omega)
 have e4:(ps.map (fun p=>p.1.cells++p.2.cells)).map Xn=ps.map V.pav:=by
  rw[QWw];exact List.map_congr_left fun p _=>Db (by rw[QVo,V.cells_length];omega)
 have e5:(ss.map (fun s=>AV.int .i64 s.1 :: s.2.cells)).map Xn=ss.map V.sav:=by
  rw[QWw];exact List.map_congr_left fun p _=>Db (by rw[QU1,V.cells_length];omega)
 have e6:(rs.map (fun r=>r.av.cells)).map Xn=rs.map R.av:=by
  rw[QWw];exact List.map_congr_left fun r _=>rfl
 rw[e3,e4,e5,e6];rfl

end Go.Proofs.YtipjfckmopekaaaGreatDoor.Br

namespace Go.Proofs.YtipjfckmopekaaaGreatDoor.Va
open Go Am Rc Bt Br

def oth (k:Int)(b:Nat)(t:List UInt8)(l p s r:List AV):Bool :=
 (k != 11&&decide ((l.length:Int) > 0))||(k != 12&&decide ((p.length:Int) > 0))||(k != 10&&decide (((s.length+r.length:Nat):Int) > 0))||((b:Int) != 0&&(X8 k||k==10||k==11||k==12))||(!(t==[]) && !X8 k)

section
variable (k:Int)(b:Nat)(t:List UInt8)(l p s r:List AV)(hs:s.length≤140737488351232)(hr:r.length≤140737488351232)

end

section
variable (k:Int)(b:Nat)(t:List UInt8)(l p s r:List AV)(hs:s.length≤140737488351232)(hr:r.length≤140737488351232)

set_option maxHeartbeats 2000000 in
include hs hr in
theorem z59:Qj Tryz.prog 59 [vo k b t l p s r] (.bool (oth k b t l p s r)):=by
 have w:IntKind.i64.wrap ((s.length:Int)+(r.length:Int))=((s.length+r.length:Nat):Int):=by simp only[QG];omega
 have n4:((b:Int) != 0)=!((b:Int)==0):=rfl;have n5:(t != [])=!(t==[]):=rfl;refine k59.fn (by simp) ?_;simp only[vo,oth,X8,n4,eE,seval];rcases(by omega:k=7∨k=8∨k=10∨k=11∨k=12∨(k≠7∧k≠8∧k≠10∧k≠11∧k≠12))with rfl|rfl|rfl|rfl|rfl|⟨h7,h8,h10,h11,h12⟩
 ·have b7:((7:Int)==7)=true:=by decide
  have b8:((7:Int)==8)=false:=by decide
  have b10:((7:Int)==10)=false:=by decide
  have b11:((7:Int)==11)=false:=by decide
  have b12:((7:Int)==12)=false:=by decide
  have c10:((7:Int) != 10)=true:=by decide
  have c11:((7:Int) != 11)=true:=by decide
  have c12:((7:Int) != 12)=true:=by decide
  have g1:decide ((7:Int)≥10)=false:=by decide
  have g2:decide ((7:Int)≤12)=true:=by decide
  simp only[b7,b8,b10,b11,b12,c10,c11,c12,QWn,QWF,QWE,QVZ,QWo,eE,seval];cases a1:decide ((l.length:Int) > 0)<;>try simp only[c11,QWr,QWq,eE,seval]
  all_goals(cases a2:decide ((p.length:Int) > 0)<;>try simp only[c12,QWr,QWq,w,eE,seval])
  all_goals(cases a3:decide (((s.length+r.length:Nat):Int) > 0)<;>try simp only[QWr,QWq,QVT,eE,seval])
  all_goals(cases a4:((b:Int)==0)<;>try simp only[a4,n4,QVT,QWo,QM,eE,seval])
  all_goals(cases a5:(t==[])<;>try simp only[QVT,QWo,Qa,seval])

 ·have b7:((8:Int)==7)=false:=by decide
  have b8:((8:Int)==8)=true:=by decide
  have b10:((8:Int)==10)=false:=by decide
  have b11:((8:Int)==11)=false:=by decide
  have b12:((8:Int)==12)=false:=by decide
  have c10:((8:Int) != 10)=true:=by decide
  have c11:((8:Int) != 11)=true:=by decide
  have c12:((8:Int) != 12)=true:=by decide
  have g1:decide ((8:Int)≥10)=false:=by decide
  have g2:decide ((8:Int)≤12)=true:=by decide
  simp only[b7,b8,b10,b11,b12,c10,c11,c12,QWn,QWF,Bool.or_true,QWE,QVZ,QWo,eE,seval];cases a1:decide ((l.length:Int) > 0)<;>try simp only[c11,QWr,QWq,eE,seval]
  all_goals(cases a2:decide ((p.length:Int) > 0)<;>try simp only[c12,QWr,QWq,w,eE,seval])
  all_goals(cases a3:decide (((s.length+r.length:Nat):Int) > 0)<;>try simp only[QWr,QWq,QVT,eE,seval])
  all_goals(cases a4:((b:Int)==0)<;>try simp only[a4,n4,QVT,QWo,QM,eE,seval])
  all_goals(cases a5:(t==[])<;>try simp only[QVT,QWo,Qa,seval])

 ·have b7:((10:Int)==7)=false:=by decide
  have b8:((10:Int)==8)=false:=by decide
  have b10:((10:Int)==10)=true:=by decide
  have b11:((10:Int)==11)=false:=by decide
  have b12:((10:Int)==12)=false:=by decide
  have c10:((10:Int) != 10)=false:=by decide
  have c11:((10:Int) != 11)=true:=by decide
  have c12:((10:Int) != 12)=true:=by decide
  have g1:decide ((10:Int)≥10)=true:=by decide
  have g2:decide ((10:Int)≤12)=true:=by decide
  simp only[b7,b8,b10,b11,b12,c10,c11,c12,QWn,QWg,QWF,Bool.or_true,QVZ,QVT,eE,seval];cases a1:decide ((l.length:Int) > 0)<;>try simp only[c11,QWr,QWq,eE,seval]
  all_goals(cases a2:decide ((p.length:Int) > 0)<;>try simp only[c12,QWr,QWq,w,eE,seval])
  all_goals(cases a3:decide (((s.length+r.length:Nat):Int) > 0)<;>try simp only[QWo,eE,seval])
  all_goals(cases a4:((b:Int)==0)<;>try simp only[a4,n4,b11,b12,QWr,QWq,QVT,QWo,QM,eE,seval])
  all_goals(cases a5:(t==[])<;>try simp only[QVT,QWo,Qa,seval])

 ·have b7:((11:Int)==7)=false:=by decide
  have b8:((11:Int)==8)=false:=by decide
  have b10:((11:Int)==10)=false:=by decide
  have b11:((11:Int)==11)=true:=by decide
  have b12:((11:Int)==12)=false:=by decide
  have c10:((11:Int) != 10)=true:=by decide
  have c11:((11:Int) != 11)=false:=by decide
  have c12:((11:Int) != 12)=true:=by decide
  have g1:decide ((11:Int)≥10)=true:=by decide
  have g2:decide ((11:Int)≤12)=true:=by decide
  simp only[b7,b8,b10,b11,b12,c10,c11,c12,QWn,QWg,QWF,Bool.or_true,QWr,QVZ,QVT,eE,seval];cases a1:decide ((l.length:Int) > 0)<;>try simp only[c11,eE,seval]
  all_goals(cases a2:decide ((p.length:Int) > 0)<;>try simp only[c12,QWr,QWq,w,eE,seval])
  all_goals(cases a3:decide (((s.length+r.length:Nat):Int) > 0)<;>try simp only[QWr,QWq,QVT,eE,seval])
  all_goals(cases a4:((b:Int)==0)<;>try simp only[a4,n4,b11,QWr,QWq,QVT,QWo,QM,eE,seval])
  all_goals(cases a5:(t==[])<;>try simp only[QVT,QWo,Qa,seval])

 ·have b7:((12:Int)==7)=false:=by decide
  have b8:((12:Int)==8)=false:=by decide
  have b10:((12:Int)==10)=false:=by decide
  have b11:((12:Int)==11)=false:=by decide
  have b12:((12:Int)==12)=true:=by decide
  have c10:((12:Int) != 10)=true:=by decide
  have c11:((12:Int) != 11)=true:=by decide
  have c12:((12:Int) != 12)=false:=by decide
  have g1:decide ((12:Int)≥10)=true:=by decide
  have g2:decide ((12:Int)≤12)=true:=by decide
  simp only[b7,b8,b10,b11,b12,c10,c11,c12,QWn,QWg,QWF,Bool.or_true,QVZ,QVT,eE,seval];cases a1:decide ((l.length:Int) > 0)<;>try simp only[c11,QWr,QWq,eE,seval]
  all_goals(cases a2:decide ((p.length:Int) > 0)<;>try simp only[c12,w,eE,seval])
  all_goals(cases a3:decide (((s.length+r.length:Nat):Int) > 0)<;>try simp only[QWr,QWq,QVT,eE,seval])
  all_goals(cases a4:((b:Int)==0)<;>try simp only[a4,n4,b11,b12,QWr,QWq,QVT,QWo,QM,eE,seval])
  all_goals(cases a5:(t==[])<;>try simp only[QVT,QWo,Qa,seval])
 ·have b7:(k==7)=false:=by simp[h7]
  have b8:(k==8)=false:=by simp[h8]
  have b10:(k==10)=false:=by simp[h10]
  have b11:(k==11)=false:=by simp[h11]
  have b12:(k==12)=false:=by simp[h12]
  have c10:(k != 10)=true:=by simp[h10]
  have c11:(k != 11)=true:=by simp[h11]
  have c12:(k != 12)=true:=by simp[h12]
  rcases(by omega:(k≥10∧¬k≤12)∨¬k≥10)with⟨q1,q2⟩|q1
  ·have g1:decide (k≥10)=true:=QWC q1;have g2:decide (k≤12)=false:=QWx q2;simp only[b7,b8,b10,b11,b12,c10,c11,c12,QWn,QWF,QWE,QVZ,QVT,eE,seval];cases a1:decide ((l.length:Int) > 0)<;>try simp only[c11,QWr,QWq,eE,seval]
   all_goals(cases a2:decide ((p.length:Int) > 0)<;>try simp only[c12,QWr,QWq,w,eE,seval])
   all_goals(cases a3:decide (((s.length+r.length:Nat):Int) > 0)<;>try simp only[QWr,QWq,QVT,eE,seval])
   all_goals(cases a4:((b:Int)==0)<;>try simp only[a4,n4,b11,b12,QVT,QWo,QM,eE,seval])
   all_goals(cases a5:(t==[])<;>try simp only[QVT,QWo,Qa,seval])
  ·have g1:decide (k≥10)=false:=QWx q1;simp only[b7,b8,b10,b11,b12,c10,c11,c12,QWn,QWF,QWE,QVZ,QVT,eE,seval];cases a1:decide ((l.length:Int) > 0)<;>try simp only[c11,QWr,QWq,eE,seval]
   all_goals(cases a2:decide ((p.length:Int) > 0)<;>try simp only[c12,QWr,QWq,w,eE,seval])
   all_goals(cases a3:decide (((s.length+r.length:Nat):Int) > 0)<;>try simp only[QWr,QWq,QVT,eE,seval])
   all_goals(cases a4:((b:Int)==0)<;>try simp only[a4,n4,b11,b12,QVT,QWo,QM,eE,seval])
   all_goals(cases a5:(t==[])<;>try simp only[QVT,QWo,Qa,seval])

end

theorem MS {α:Type}(p:α→Bool){l:List α}{i:Nat}{x:α}(hx:l[i]? = some x):(l.drop i).find? p=if p x=true then some x else(l.drop (i+1)).find? p:=by
 have hlt:i<l.length:=(QUM.1 hx).1;rw[QVu hlt,show l[i]=x from(QUM.1 hx).2,List.find?_cons];cases p x<;>rfl

def zc:List AV:=[.int .i64 0,.str [],.str [],.int .i64 0,.int .i64 0,.int .i64 0,.int .i64 0,.int .i64 0]

def OpI (g:PG)(n:Int)(k:Nat)(st:St):Prop :=
 ∃f fr i,st=⟨f,[fr],[]⟩∧k=g.ops.length-i∧g.ops.find? (fun o=>o.num==n)=(g.ops.drop i).find? (fun o=>o.num==n)∧f 1=.int .i64 n∧f 2=.ptr 0 2 0∧f 4=.ptr 0 4 0∧f 6=.int .i64 (i:Nat)∧fr 2=.cells g.cells∧fr 4=.cells zc

theorem SH (g:PG)(hl:g.ops.length≤maxLen)(n:Int):Qj Tryz.prog 38 [Qn g,.int .i64 n] (Gf (fun o=>o.num==n) g.ops):=by
 refine k38.fn (by simp) ?_;simp only[Qn,PG.cells,eE,seval];refine Qd (OpI g n) _ ⟨_,_,0,rfl,rfl,rfl,(by rfl),(by rfl),(by rfl),(by rfl),(by rfl),(by rfl)⟩ ?_;rintro _ st ⟨f,fr,i,rfl,rfl,hx,h1,h2,h4,h6,m2,m4⟩;simp only[PG.cells,zc]at m2 m4;simp only[QVH,h2,h6,m2,eE,seval];by_cases hlt:i<g.ops.length
 ·obtain⟨x,hi⟩:∃x,g.ops[i]? = some x:=⟨g.ops[i],QUN hlt⟩;have hg:(g.ops.map fun o=>AV.agg o.cells)[i]? = some (.agg x.cells):=by simp[hi]
  have e1:=Qq i _ hlt hl;rw[MS _ hi]at hx;simp only[PO.cells]at hg m2;simp only[Qm hlt,Qi,QWd,Qc,hg,PO.cells,h1,h2,h6,m2,eE,seval];cases hp:(x.num==n)
  ·rw[hp]at hx;simp only[QU5,if_false]at hx;simp only[h6,e1,Qa,seval];exact⟨g.ops.length-(i+1),by omega,_,_,i+1,rfl,rfl,hx,(by exact h1),(by exact h2),(by exact h4),(by rfl),m2,m4⟩
  ·rw[hp]at hx;simp only[if_true]at hx;simp only[Qi,QWd,Qc,hg,Gf,hx,QVW,QWy,Qt,PO.cells,h2,h4,h6,m2,m4,splice,QVU,QU9,QVm,QVt,QV0,QVP,QU1,QVI,QVX,QVY,AV.leaf,eE,seval]
 ·have hx':g.ops.find? (fun o=>o.num==n)=none:=by rw[hx,QVn (by omega)];rfl
  simp only[QB hlt,h4,m4,Gf,hx',QWk,QVB,Ge,Qt,PO.cells,splice,QVU,QU9,QVm,QVt,QV0,QVP,QU1,QVI,QVX,QVY,AV.leaf,eE,seval]

section progs
variable (L:List PG)(hl:L.length≤maxLen)(p:PG→Bool)(c:Nat)(cap:AV)(m:Qp)

end progs

section items
variable (L:List PI)(hl:L.length≤maxLen)(p:PI→Bool)(c:Nat)(cap:AV)(m:Qp)

end items

def SI (b:Nat)(x:PI):Bool:=IntKind.u64.wrap x.num==(b:Int)
def Gq (b:Nat)(x:PI):Bool:=x.num==IntKind.i64.wrap (b:Int)

theorem NL {b:Nat}{x:PI}(hb:b≤2147483647)(hx:(Lit.int .i64 x.num).wf=true):Gq b x=SI b x:=by
 have h1:=Qab hx;have h2:=Qac hx;unfold Gq SI;rw[QVG,QUS,QUS,QG,Ja];omega

def Wk (E:List PE)(t:Int)(b:Nat):Bool :=
 if 0≤t∧t<E.length∧b≤2147483647 then
  match E[t.toNat]? with
  |some x=>x.opn||x.items.any (SI b)
  |none=>false
 else false

def AcI (P:PL)(L:List PI)(eo:Bool)(n b:Nat)(k:Nat)(st:St):Prop :=
 ∃f fr i,st=⟨f,[fr],[]⟩∧k=L.length-i∧f 1=.int .i64 (n:Nat)∧f 2=.int .u64 (b:Nat)∧f 3=.ptr 0 3 0∧fr 3=.cells [.list (P.progs.map Qn),.list (P.enums.map Qr)]∧f 7=.bool (eo||(L.take i).any (Gq b))∧f 8=.int .i64 (i:Nat)

theorem Qve {M:Nat}(P:PL)(hP:P.ok M)(t:Int)(b:Nat):Qj Tryz.prog 112 [P.av,.int .i64 t,.int .u64 (b:Nat)] (.bool (Wk P.enums t b)):=by
 have e0:P.av=.agg [.list (P.progs.map Qn),.list (P.enums.map Qr)]:=rfl;refine QKe.fn (by simp) ?_;simp only[e0,eE,seval];by_cases h1:0≤t
 ·have d1:decide (t<0)=false:=QWx (by omega);by_cases h2:t<P.enums.length
  ·have d2:decide (t≥(P.enums.length:Int))=false:=QWx (by omega);by_cases h3:b≤2147483647
   ·have d3:decide ((b:Int) > 2147483647)=false:=QWx (by omega);obtain⟨n,rfl⟩:=QWp h1;have hn:n<P.enums.length:=by omega
    obtain⟨x,hi⟩:∃x,P.enums[n]? = some x:=⟨P.enums[n],QUN hn⟩;have hx:=hP.enums x (QUZ hi);have hg:(P.enums.map Qr)[n]? = some (.agg x.cells):=by simp[hi,Qr]
    simp only[PE.cells]at hg;have ha:Wk P.enums (n:Int) b=(x.opn||x.items.any (Gq b)):=by
     unfold Wk;rw[QVf ⟨h1,h2,h3⟩,QWd,hi];show(x.opn||x.items.any (SI b))=_;congr 1
     rw[QVG,QWA,QWA]
     constructor
     ·rintro⟨y,hy,hp⟩;exact⟨y,hy,by rw[NL h3 (hx.items y hy).num];exact hp⟩
     ·rintro⟨y,hy,hp⟩;exact⟨y,hy,by rw[←NL h3 (hx.items y hy).num];exact hp⟩
    simp only[d1,d2,QVH,d3,Qi,QWd,Qc,hg,eE,seval];refine Qd (AcI P x.items x.opn n b) _ ⟨_,_,0,rfl,rfl,(by rfl),(by rfl),(by rfl),(by rfl),by simp only[QVU,List.any_nil,QWF]<;>first|rfl|simp only[eE,seval],(by rfl)⟩ ?_;rintro _ st ⟨f,fr,i,rfl,rfl,g1,g2,g3,m3,g7,g8⟩;simp only[QVH,Qi,QWd,Qc,hg,g1,g3,m3,g8,eE,seval];by_cases hlt:i<x.items.length
    ·obtain⟨y,hd⟩:∃y,x.items[i]? = some y:=⟨x.items[i],QUN hlt⟩;have hdm:(x.items.map fun n=>AV.agg n.cells)[i]? = some (.agg y.cells):=by simp[hd]
     simp only[PI.cells]at hdm;have e1:=Qq i _ hlt hx.len1;have ht:(x.opn||(x.items.take (i+1)).any (Gq b))=((x.opn||(x.items.take i).any (Gq b))||Gq b y):=by
      rw[QWu,hd];simp[Bool.or_assoc]
     have hp:Gq b y=(y.num==IntKind.i64.wrap (b:Int)):=rfl;rw[hp]at ht;simp only[PI.cells]at hg;cases hq:(x.opn||(x.items.take i).any (Gq b))
     ·rw[hq,QWr]at ht;simp only[Qm hlt,Qi,QWd,Qc,hg,hdm,hq,PI.cells,g1,g2,g3,m3,g7,g8,e1,eE,seval];exact⟨x.items.length-(i+1),by omega,_,_,i+1,rfl,rfl,(by exact g1),(by exact g2),(by exact g3),(by exact m3),by rw[ht]<;>first|rfl|simp only[eE,seval],(by rfl)⟩
     ·rw[hq,QWq]at ht;simp only[Qm hlt,hq,PI.cells,g7,g8,e1,Qa,seval];exact⟨x.items.length-(i+1),by omega,_,_,i+1,rfl,rfl,(by exact g1),(by exact g2),(by exact g3),(by exact m3),by rw[ht]<;>first|rfl|simp only[eE,seval],(by rfl)⟩
    ·rw[QVk (by omega)]at g7;simp only[QB hlt,g7,ha,Qa,seval]
   ·have d3:decide ((b:Int) > 2147483647)=true:=QWC (by omega);have ha:Wk P.enums t b=false:=by
     unfold Wk;rw[QU0 (by omega)]
    simp only[d1,d2,QVH,d3,ha,eE,seval]
  ·have d2:decide (t≥(P.enums.length:Int))=true:=QWC (by omega);have ha:Wk P.enums t b=false:=by
    unfold Wk;rw[QU0 (by omega)]
   simp only[d1,d2,QVH,ha,eE,seval]
 ·have d1:decide (t<0)=true:=QWC (by omega);have ha:Wk P.enums t b=false:=by
   unfold Wk;rw[QU0 (by omega)]
  simp only[d1,ha,Qa,seval]

def Ub (P:PL)(k tg kd:Int)(b:Nat)(t:List UInt8)(l p s r:List AV):Int :=
 if (kd != k||oth kd b t l p s r)=true then 12 else if decide ((t.length:Int) > 4096)=true then 3 else if (k==7 && !U8 t)=true then 7
 else if (!Xx k kd b t l p s r)=true then 12 else if (k==9 && !Wk P.enums tg b)=true then 16 else 0

section
variable {M:Nat}(P:PL)(hP:P.ok M)(k tg kd:Int)(b:Nat)(t:List UInt8)(l p s r:List AV)(hl:l.length≤140737488351232)(hp:p.length≤140737488351232)(hs:s.length≤140737488351232)(hr:r.length≤140737488351232)

end
open Up

def XM (f:Nat→Int):Nat→Nat→Int
 |0,_=>0
 |k+1,i=>if f i=0 then XM f k (i+1)else f i

theorem MT {f:Nat→Int}{n i:Nat}(h:i<n):XM f (n-i) i=if f i=0 then XM f (n-(i+1)) (i+1)else f i:=by
 rw[show n-i=(n-(i+1))+1 by omega];rfl
theorem Gr {f:Nat→Int}{n i:Nat}(h:i<n)(e:f i=0):XM f (n-i) i=XM f (n-(i+1)) (i+1):=by
 rw[MT h,QVf e]
theorem KA {f:Nat→Int}{n i:Nat}{v:Int}(h:i<n)(e:f i=v)(hv:v≠0):XM f (n-i) i=v:=by
 rw[MT h,QU0 (by rw[e];exact hv),e]
theorem UB {f:Nat→Int}{n i:Nat}(h:¬i<n):XM f (n-i) i=0:=by
 rw[show n-i=0 by omega];rfl
theorem Wl {f:Nat→Int}:∀ {k i:Nat},XM f k i=0→∀j,i≤j→j<i+k→f j=0
 |0,_,_,_,h1,h2=>by omega
 |k+1,i,h,j,h1,h2=>by
  rw[XM]at h;split at h
  ·rename_i h0;by_cases e:j=i
   ·rw[e];exact h0
   ·exact Wl h j (by omega) (by omega)
  ·rename_i h0;exact absurd h h0

def _root_.Go.Proofs.YtipjfckmopekaaaGreatDoor.Br.V.oth (v:V):Bool:=Va.oth v.kd v.bits v.text (v.list.map V.av) (v.pairs.map V.pav) (v.slots.map V.sav) (v.raws.map R.av)
def _root_.Go.Proofs.YtipjfckmopekaaaGreatDoor.Br.V.one (P:PL)(k tg:Int)(v:V):Int:=Ub P k tg v.kd v.bits v.text (v.list.map V.av) (v.pairs.map V.pav) (v.slots.map V.sav) (v.raws.map R.av)

theorem Gs (v:V):v.av=vo v.kd v.bits v.text (v.list.map V.av) (v.pairs.map V.pav) (v.slots.map V.sav) (v.raws.map R.av):=by
 rw[V.av,V.eta];rfl

def Q8 (P:PL)(t:Int):PG:=P.progs[t.toNat]?.getD ⟨[],[],0⟩
def ZE (a b:V):Bool:=a.bits==b.bits&&a.text==b.text
def Zc (g:PG)(n:Int):Option PO:=g.ops.find? fun o=>o.num==n

section
variable (m:PG→V→Int)(P:PL)
def QT (o:PO)(v:V):Int:=if o.kind=10 then m (Q8 P o.target) v else v.one P o.kind o.target
def Yp (o:PO)(ps:List (V×V))(i:Nat):Int:=match ps[i]? with
 |none=>0
 |some x=>if x.1.one P o.key (-1)=0 then(if (ps.take i).any (fun q=>ZE q.1 x.1)=true then 9 else QT m P o x.2)else x.1.one P o.key (-1)
def Dc (o:PO)(l:List V)(i:Nat):Int:=match l[i]? with
 |none=>0
 |some x=>QT m P o x
def Xc (o:PO)(v:V):Int :=
 if o.card=5 then(if (v.kd != 12||v.oth)=true then 12 else XM (Yp m P o v.pairs) v.pairs.length 0)
 else if o.card=4 then(if (v.kd != 11||v.oth)=true then 12 else XM (Dc m P o v.list) v.list.length 0)
 else QT m P o v
def Jv (g:PG)(o:PO)(y:Int×V):Bool:=o.union != -1&&(((Zc g y.1).getD Ge).union==o.union)
def Jo (g:PG)(sl:List (Int×V))(i:Nat):Int:=match sl[i]? with
 |none=>0
 |some x=>match Zc g x.1 with
  |none=>8
  |some o=>if (sl.take i).any (fun y=>y.1==x.1)=true then 9 else if (sl.take i).any (Jv g o)=true then 15 else Xc m P o x.2
def Gt (g:PG)(f:R):Bool:=match Zc g f.num with
 |none=>true
 |some o=>o.kind==9&&o.card != 5&&f.wire==0&&decide ((f.bits:Int)≤2147483647) && !Wk P.enums o.target f.bits
def KO (g:PG)(f:R):Int :=
 if (decide (f.num<1)||decide (f.num > 65535)||decide (f.wire<0)||decide (f.wire > 6))=true then 1
 else if (decide (f.wire≤2) && !(f.data==[])||decide (f.wire > 2) && !((f.bits:Int)==0))=true then 1
 else if (!Gt P g f)=true then 1
 else if (f.wire==3&&decide ((f.data.length:Int) > 4096)||decide ((f.data.length:Int) > 65536))=true then 3 else 0
def Jp (g:PG)(l:List R)(i:Nat):Int:=match l[i]? with
 |none=>0
 |some f=>KO P g f
def Yq (g:PG)(sl:List (Int×V)):Bool:=g.ops.any fun o=>o.card==1 && !sl.any fun y=>y.1==o.num
def UC (g:PG)(v:V):Int :=
 if XM (Jo m P g v.slots) v.slots.length 0=0 then
  (if Yq g v.slots=true then 14 else XM (Jp P g v.raws) v.raws.length 0)
 else XM (Jo m P g v.slots) v.slots.length 0
end

theorem UD {m:PG→V→Int}{P:PL}{o:PO}{ps:List (V×V)}{i:Nat}{x:V×V}(h:ps[i]? = some x) :
  Yp m P o ps i=if x.1.one P o.key (-1)=0 then(if (ps.take i).any (fun q=>ZE q.1 x.1)=true then 9 else QT m P o x.2)else x.1.one P o.key (-1):=by
 unfold Yp;rw[h]
theorem UE {m:PG→V→Int}{P:PL}{o:PO}{l:List V}{i:Nat}{x:V}(h:l[i]? = some x):Dc m P o l i=QT m P o x:=by
 unfold Dc;rw[h]
theorem Hq {P:PL}{g:PG}{l:List R}{i:Nat}{x:R}(h:l[i]? = some x):Jp P g l i=KO P g x:=by
 unfold Jp;rw[h]

def XU (P:PL):Nat→PG→V→Int
 |0,_,v=>if (v.kd != 10||v.oth)=true then 12 else 17
 |n+1,g,v=>if (v.kd != 10||v.oth)=true then 12 else UC (XU P n) P g v

mutual
def _root_.Go.Proofs.YtipjfckmopekaaaGreatDoor.Br.V.cnt:V→Nat
 |.mk _ _ _ l p s r=>1+r.length+XN l+Xs p+Xf s
def XN:List V→Nat
 | []=>0
 |x :: l=>x.cnt+XN l
def Xs:List (V×V)→Nat
 | []=>0
 |(a,b) :: l=>a.cnt+b.cnt+Xs l
def Xf:List (Int×V)→Nat
 | []=>0
 |(_,a) :: l=>a.cnt+Xf l
end

theorem Xh:∀v:V,v.cnt=1+v.raws.length+XN v.list+Xs v.pairs+Xf v.slots
 |.mk k b t l p s r=>by rw[V.cnt];rfl

theorem DK {l:List V}{i:Nat}{x:V}(h:l[i]? = some x):XN (l.take (i+1))=XN (l.take i)+x.cnt:=by
 induction l generalizing i with
 |nil=>simp at h
 |cons y l ih=>
  cases i with
  |zero=>simp at h;subst h;simp[XN]
  |succ i=>
   simp only[QVj,XN];rw[ih (by simpa using h)];omega
theorem DL {l:List (V×V)}{i:Nat}{x:V×V}(h:l[i]? = some x):Xs (l.take (i+1))=Xs (l.take i)+(x.1.cnt+x.2.cnt):=by
 induction l generalizing i with
 |nil=>simp at h
 |cons y l ih=>
  obtain⟨y1,y2⟩:=y;cases i with
  |zero=>simp at h;subst h;simp[Xs]
  |succ i=>
   simp only[QVj,Xs];rw[ih (by simpa using h)];omega
theorem DM {l:List (Int×V)}{i:Nat}{x:Int×V}(h:l[i]? = some x):Xf (l.take (i+1))=Xf (l.take i)+x.2.cnt:=by
 induction l generalizing i with
 |nil=>simp at h
 |cons y l ih=>
  obtain⟨y1,y2⟩:=y;cases i with
  |zero=>simp at h;subst h;simp[Xf]
  |succ i=>
   simp only[QVj,Xf];rw[ih (by simpa using h)];omega

inductive Thin:V→Prop
 |mk {v:V} (n:v.list.length+2*v.pairs.length+v.slots.length≤1099511627776) (list:∀x∈v.list,Thin x) (keys:∀x∈v.pairs,Thin x.1) (vals:∀x∈v.pairs,Thin x.2) (slots:∀x∈v.slots,Thin x.2):Thin v

theorem Uc {P:PL}{k tg:Int}{v:V}(h:v.one P k tg=0):v.kd=k∧v.oth=false∧Xx k v.kd v.bits v.text (v.list.map V.av) (v.pairs.map V.pav) (v.slots.map V.sav) (v.raws.map R.av)=true:=by
 unfold V.one Ub at h;split at h
 ·omega
 ·rename_i h1;split at h
  ·omega
  ·split at h
   ·omega
   ·split at h
    ·omega
    ·rename_i h2;simp only[Bool.not_eq_true,QVF,bne_eq_false_iff_eq]at h1;exact⟨h1.1,h1.2,by simpa using h2⟩

end Go.Proofs.YtipjfckmopekaaaGreatDoor.Va

namespace Go.Proofs.YtipjfckmopekaaaGreatDoor.So

section
variable {α:Type}

def Zt (lt:α→α→Bool)(a:α):List α→List α
 | []=>[a]
 |x :: l=>bif lt x a then x :: Zt lt a l else a :: x :: l

def QE (lt:α→α→Bool):List α→List α
 | []=>[]
 |a :: l=>Zt lt a (QE lt l)

def mg (lt:α→α→Bool):List α→List α→List α
 | [],Y=>Y
 |x :: X,[]=>x :: X
 |x :: X,y :: Y=>bif lt y x then y :: mg lt (x :: X) Y else x :: mg lt X (y :: Y)
termination_by X Y=>X.length+Y.length

structure SW (lt:α→α→Bool):Prop where
 irr:∀x,lt x x=false
 tr:∀x y z,lt x y=true→lt y z=true→lt x z=true
 nt:∀x y z,lt x y=false→lt y z=false→lt x z=false

variable {lt:α→α→Bool}

theorem SW.as (h:SW lt){x y:α}(hx:lt x y=true):lt y x=false:=by
 cases hy:lt y x with
 |false=>rfl
 |true=>
  have:=h.tr x y x hx hy;rw[h.irr]at this;cases this

theorem Jh (X:List α):mg lt X []=X:=by cases X<;>simp[mg]
theorem ZS (Y:List α):mg lt [] Y=Y:=by simp[mg]
theorem Wm {x y:α}{X Y:List α}(h:lt y x=true):mg lt (x :: X) (y :: Y)=y :: mg lt (x :: X) Y:=by rw[mg,h];rfl
theorem WU {x y:α}{X Y:List α}(h:lt y x=false):mg lt (x :: X) (y :: Y)=x :: mg lt X (y :: Y):=by rw[mg,h];rfl
theorem WK {a x:α}{l:List α}(h:lt x a=true):Zt lt a (x :: l)=x :: Zt lt a l:=by rw[Zt,h];rfl
theorem Yr {a x:α}{l:List α}(h:lt x a=false):Zt lt a (x :: l)=a :: x :: l:=by rw[Zt,h];rfl

theorem MU (a:α):∀Y:List α,mg lt [a] Y=Zt lt a Y
 | []=>by rw[Jh];rfl
 |y :: Y=>by
  cases h:lt y a with
  |true=>rw[Wm h,WK h,MU a Y]
  |false=>rw[WU h,Yr h,ZS]

theorem Qvf (h:SW lt)(a:α):∀(n:Nat) (X Y:List α),X.length+Y.length=n→mg lt (Zt lt a X) Y=Zt lt a (mg lt X Y):=by
 intro n
 induction n using Nat.strongRecOn with
 |_ n ih=>
 intro X Y hn;cases X with
 |nil=>
  show mg lt [a] Y=Zt lt a (mg lt [] Y);rw[ZS,MU]
 |cons x X=>
  cases Y with
  |nil=>rw[Jh,Jh]
  |cons y Y=>
   simp only[QU1]at hn;cases hxa:lt x a with
   |false=>
    have hi:Zt lt a (x :: X)=a :: x :: X:=Yr hxa;cases hya:lt y a with
    |true=>
     cases hyx:lt y x with
     |true=>
      have i:=ih (n-1) (by omega) (x :: X) Y (by simp only[QU1];omega);rw[hi]at i ⊢;rw[Wm hya,Wm hyx,WK hya,i]
     |false=>
      have:=h.nt y x a hyx hxa;rw[hya]at this;cases this
    |false=>
     rw[hi,WU hya];cases hyx:lt y x with
     |true=>rw[Wm hyx,Yr hya]
     |false=>rw[WU hyx,Yr hxa]
   |true=>
    have hi:Zt lt a (x :: X)=x :: Zt lt a X:=WK hxa;cases hyx:lt y x with
    |true=>
     have i:=ih (n-1) (by omega) (x :: X) Y (by simp only[QU1];omega);rw[hi]at i ⊢;rw[Wm hyx,Wm hyx,WK (h.tr y x a hyx hxa),i]
    |false=>
     have i:=ih (n-1) (by omega) X (y :: Y) (by simp only[QU1];omega);rw[hi,WU hyx,WU hyx,WK hxa,i]

theorem Wn (h:SW lt):∀A B:List α,mg lt (QE lt A) (QE lt B)=QE lt (A++B)
 | [],B=>ZS _
 |a :: A,B=>by
  show mg lt (Zt lt a (QE lt A)) (QE lt B)=Zt lt a (QE lt (A++B));rw[Qvf h a _ _ _ rfl,Wn h A B]

theorem Wo:∀(n:Nat) (X1 Y1 X2 Y2:List α),X1.length+Y1.length=n→(∀y∈Y1,∀x∈X2,lt y x=true)→(∀x∈X1,∀y∈Y2,lt y x=false)→
  mg lt (X1++X2) (Y1++Y2)=mg lt X1 Y1++mg lt X2 Y2:=by
 intro n
 induction n using Nat.strongRecOn with
 |_ n ih=>
 intro X1 Y1 X2 Y2 hn h1 h2;cases X1 with
 |nil=>
  cases Y1 with
  |nil=>rw[ZS];rfl
  |cons y Y1=>
   cases X2 with
   |nil=>simp[ZS]
   |cons x X2=>
    simp only[QU1,QVI]at hn;have i:=ih (n-1) (by omega) [] Y1 (x :: X2) Y2 (by simp only[QVI];omega) (fun z hz=>h1 z (QU2 _ hz)) h2;simp only[QU9,QU8,ZS]at i ⊢;rw[Wm (h1 y (by simp) x (by simp)),i]
 |cons x X1=>
  simp only[QU1]at hn;cases Y1 with
  |nil=>
   cases Y2 with
   |nil=>simp[Jh]
   |cons y Y2=>
    have i:=ih (n-1) (by omega) X1 [] X2 (y :: Y2) (by simp only[QVI]at hn ⊢;omega) h1 (fun z hz=>h2 z (QU2 _ hz));simp only[QU9,QU8,Jh]at i ⊢;rw[WU (h2 x (by simp) y (by simp)),i]
  |cons y Y1=>
   simp only[QU1]at hn;simp only[QU8];cases hyx:lt y x with
   |true=>
    have i:=ih (n-1) (by omega) (x :: X1) Y1 X2 Y2 (by simp only[QU1];omega) (fun z hz=>h1 z (QU2 _ hz)) h2;simp only[QU8]at i;rw[Wm hyx,Wm hyx,i];rfl
   |false=>
    have i:=ih (n-1) (by omega) X1 (y :: Y1) X2 Y2 (by simp only[QU1];omega) h1 (fun z hz=>h2 z (QU2 _ hz));simp only[QU8]at i;rw[WU hyx,WU hyx,i];rfl

theorem Lz {x:α}{Y1 Y2:List α}(h1:∀y∈Y1,lt y x=true)(h2:∀y∈Y2,lt y x=false):mg lt [x] (Y1++Y2)=Y1++x :: Y2:=by
 have a:=Wo (lt:=lt) _ [] Y1 [x] Y2 rfl (fun y hy z hz=>by rw[QWI.1 hz];exact h1 y hy) (by simp);have b:=Wo (lt:=lt) _ [x] [] [] Y2 rfl (by simp) (fun z hz y hy=>by rw[QWI.1 hz];exact h2 y hy);simp only[QU9,QVP,ZS,Jh]at a b;rw[a,b];rfl

theorem Ys {y:α}{X1 X2:List α}(h1:∀x∈X1,lt y x=false)(h2:∀x∈X2,lt y x=true):mg lt (X1++X2) [y]=X1++y :: X2:=by
 have a:=Wo (lt:=lt) _ X1 [y] X2 [] rfl (fun z hz x hx=>by rw[QWI.1 hz];exact h2 x hx) (by simp);have b:=Wo (lt:=lt) _ X1 [] [] [y] rfl (by simp) (fun x hx z hz=>by rw[QWI.1 hz];exact h1 x hx);simp only[QU9,QVP,ZS,Jh]at a b;rw[a,b];simp

def Zd (lt:α→α→Bool)(l:List α):Prop:=l.Pairwise fun x y=>lt y x=false

theorem Dd {a z:α}:∀ {l:List α},z∈Zt lt a l→z=a∨z∈l
 | [],h=>.inl (QWI.1 h)
 |x :: l,h=>by
  cases hx:lt x a with
  |true=>
   rw[WK hx]at h;rcases QV8.1 h with rfl|h
   ·exact .inr QU4
   ·rcases Dd h with h|h
    ·exact .inl h
    ·exact .inr (QU2 _ h)
  |false=>
   rw[Yr hx]at h;rcases QV8.1 h with rfl|h
   ·exact .inl rfl
   ·exact .inr h

theorem Ud {z:α}:∀ {l:List α},z∈QE lt l→z∈l
 | [],h=>h
 |a :: l,h=>by
  rcases Dd (l:=QE lt l) h with rfl|h
  ·exact QU4
  ·exact QU2 _ (Ud h)

theorem NM (h:SW lt)(a:α):∀ {l:List α},Zd lt l→Zd lt (Zt lt a l)
 | [],_=>List.pairwise_singleton _ _
 |x :: l,hs=>by
  obtain⟨h1,h2⟩:=QWj.1 hs;cases hx:lt x a with
  |true=>
   rw[WK hx];refine QWj.2 ⟨fun z hz=>?_,NM h a h2⟩;rcases Dd hz with rfl|hz
   ·exact h.as hx
   ·exact h1 z hz
  |false=>
   rw[Yr hx];refine QWj.2 ⟨fun z hz=>?_,hs⟩;rcases QV8.1 hz with rfl|hz
   ·exact hx
   ·exact h.nt z x a (h1 z hz) hx

theorem Zn (h:SW lt):∀l:List α,Zd lt (QE lt l)
 | []=>List.Pairwise.nil
 |a :: l=>NM h a (Zn h l)

theorem NN (a:α):∀l:List α,(Zt lt a l).length=l.length+1
 | []=>rfl
 |x :: l=>by
  cases hx:lt x a with
  |true=>rw[WK hx,QU1,NN a l,QU1]
  |false=>rw[Yr hx];rfl

theorem Ji:∀l:List α,(QE lt l).length=l.length
 | []=>rfl
 |a :: l=>by show(Zt lt a (QE lt l)).length=_;rw[NN,Ji l];rfl

theorem Qvg:∀(n:Nat) (X Y:List α),X.length+Y.length=n→(mg lt X Y).length=n:=by
 intro n
 induction n using Nat.strongRecOn with
 |_ n ih=>
 intro X Y hn;cases X with
 |nil=>rw[ZS];simpa using hn
 |cons x X=>
  cases Y with
  |nil=>rw[Jh];simpa using hn
  |cons y Y=>
   simp only[QU1]at hn;cases hyx:lt y x with
   |true=>
    rw[Wm hyx,QU1,ih (n-1) (by omega) (x :: X) Y (by simp only[QU1];omega)];omega
   |false=>
    rw[WU hyx,QU1,ih (n-1) (by omega) X (y :: Y) (by simp only[QU1];omega)];omega

theorem Qvh {z:α}:∀(n:Nat) (X Y:List α),X.length+Y.length=n→z∈mg lt X Y→z∈X∨z∈Y:=by
 intro n
 induction n using Nat.strongRecOn with
 |_ n ih=>
 intro X Y hn hz;cases X with
 |nil=>rw[ZS]at hz;exact .inr hz
 |cons x X=>
  cases Y with
  |nil=>rw[Jh]at hz;exact .inl hz
  |cons y Y=>
   simp only[QU1]at hn;cases hyx:lt y x with
   |true=>
    rw[Wm hyx]at hz;rcases QV8.1 hz with rfl|hz
    ·exact .inr QU4
    ·exact(ih (n-1) (by omega) (x :: X) Y (by simp only[QU1];omega) hz).imp id (QU2 _)
   |false=>
    rw[WU hyx]at hz;rcases QV8.1 hz with rfl|hz
    ·exact .inl QU4
    ·exact(ih (n-1) (by omega) X (y :: Y) (by simp only[QU1];omega) hz).imp (QU2 _) id

theorem Ko (h:SW lt){l:List α}(hs:Zd lt l){i j:Nat}{u v x:α}(hij:i≤j)(hi:l[i]? = some u)(hj:l[j]? = some v)(hv:lt v x=true):lt u x=true:=by
 rcases Nat.lt_or_eq_of_le hij with hlt|rfl
 ·obtain⟨h1,rfl⟩:=QUM.1 hi;obtain⟨h2,rfl⟩:=QUM.1 hj;have:=QWJ.1 hs i j h1 h2 hlt;cases hu:lt l[i] x with
  |true=>rfl
  |false=>
   have:=h.nt _ _ _ this hu;rw[hv]at this;cases this
 ·rw[hi]at hj;cases hj;exact hv

theorem KB {l:List α}(hs:Zd lt l)(h:SW lt){i j:Nat}{u v:α}(hij:i≤j)(hi:l[i]? = some u)(hj:l[j]? = some v):lt v u=false:=by
 rcases Nat.lt_or_eq_of_le hij with hlt|rfl
 ·obtain⟨h1,rfl⟩:=QUM.1 hi;obtain⟨h2,rfl⟩:=QUM.1 hj;exact QWJ.1 hs i j h1 h2 hlt
 ·rw[hi]at hj;cases hj;exact h.irr _

def Q6 (lt:α→α→Bool)(s:Nat):Nat→List α→List α
 |0,_=>[]
 |n+1,l=>QE lt (l.take s)++Q6 lt s n (l.drop s)

theorem De (s:Nat):∀k,Q6 lt s k []=[]
 |0=>rfl
 |k+1=>by rw[Q6,List.take_nil,QV0,De s k];rfl

theorem UF (s:Nat):∀(k:Nat) (l:List α),(Q6 lt s k l).length=min (s*k) l.length
 |0,l=>by simp[Q6]
 |k+1,l=>by
  rw[Q6,QVo,Ji,UF s k,QVJ,QVr,Nat.mul_succ];omega

theorem K8 {s:Nat}{z:α}:∀ {k:Nat} {l:List α},z∈Q6 lt s k l→z∈l
 |0,l,h=>by cases h
 |k+1,l,h=>by
  rw[Q6]at h;rcases QV4.1 h with h|h
  ·exact QVz (Ud h)
  ·exact QVy (K8 h)

theorem Yt (s:Nat):∀(k:Nat) (l:List α),Q6 lt s (k+1) l=Q6 lt s k l++QE lt ((l.drop (s*k)).take s)
 |0,l=>by simp[Q6]
 |k+1,l=>by
  rw[Q6,Yt s k (l.drop s),Q6,QU7,QVe,Nat.mul_succ,Nat.add_comm s (s*k)]

theorem NO {s k:Nat}{l:List α}(h:l.length≤s)(hk:l.length≤s*k):Q6 lt s k l=QE lt l:=by
 cases k with
 |zero=>
  have:l=[]:=QVQ (by omega);subst this;rfl
 |succ k=>rw[Q6,QVk h,QVn h,De,QVP]

theorem Rm (s:Nat)(l:List α):l.take s++(l.drop s).take s=l.take (2*s):=by
 rw[show 2*s=s+s by omega,List.take_add]

end

end Go.Proofs.YtipjfckmopekaaaGreatDoor.So

namespace Go.Proofs.YtipjfckmopekaaaGreatDoor.Va
open Go Am Rc Bt

def Wp (b:Nat):Nat :=
 let z:=b % 9223372036854775808
 if z > 9218868437227405312 then 0 else if z=9218868437227405312 then 1 else if z=0 then 2 else if z<4503599627370496 then 3 else 4

theorem QPd (b:Nat):Qj Tryz.prog 123 [.int .u64 (b:Nat)] (.int .i64 (Wp b:Nat)):=by
 refine Qpj.fn (by simp) ?_;have hm:(b:Int).tmod 9223372036854775808=((b % 9223372036854775808:Nat):Int):=by
  rw[QWK (by omega)];omega
 simp only[hm,Qa,seval];unfold Wp;generalize b % 9223372036854775808=z
 repeat' (first|(refine Q0 (fun h=>?_) (fun h=>?_)<;>simp only[h,Qa,seval])|(refine Xz (fun h=>?_) (fun h=>?_)<;>simp only[h,Ql,eE,seval])|(refine XA (fun h=>?_) (fun h=>?_)<;>simp only[h,Ql,eE,seval]))
 all_goals(simp only[QUR,QWD,QUS,QWs,ne_eq]at *)
 all_goals((repeat' split)<;>first|rfl|(exfalso;omega))

theorem MV (b:Nat):b &&& 4503599627370495=b % 4503599627370496:=Nat.and_two_pow_sub_one_eq_mod b 52
theorem MX (b:Nat):b &&& 9218868437227405312=(b / 4503599627370496 % 2048)*4503599627370496:=by
 have h1:(9218868437227405312:Nat)=2047 <<< 52:=by decide
 have h2:(b / 4503599627370496 % 2048)*4503599627370496=(b >>> 52 % 2 ^ 11) <<< 52:=by
  rw[Nat.shiftLeft_eq,Nat.shiftRight_eq_div_pow]
 rw[h1,h2]
 apply Nat.eq_of_testBit_eq
 intro i;rw[Nat.testBit_and,Nat.testBit_shiftLeft,Nat.testBit_shiftLeft,Nat.testBit_mod_two_pow,Nat.testBit_shiftRight,show(2047:Nat)=2 ^ 11-1 by decide,Nat.testBit_two_pow_sub_one];by_cases h:i≥52
 ·rw[show 52+(i-52)=i by omega];simp[h,Bool.and_comm]
 ·simp[h]

theorem x82 (b:Nat)(hb:b<18446744073709551616):Qj Tryz.prog 82 [.int .u64 (b:Nat)] (.int .i64 (Wp b:Nat)):=by
 refine k82.fn (by simp) ?_;have a1:bits .and .u64 (b:Int) 9218868437227405312=(((b / 4503599627370496 % 2048)*4503599627370496:Nat):Int):=by
  have:=Ux b 9218868437227405312 hb (by decide);rw[MX]at this;exact this
 have a2:bits .and .u64 (b:Int) 4503599627370495=((b % 4503599627370496:Nat):Int):=by
  have:=Ux b 4503599627370495 hb (by decide);rw[MV]at this;exact this
 simp only[a1,a2,Qa,seval];unfold Wp
 repeat' (first|(refine Q0 (fun h=>?_) (fun h=>?_)<;>simp only[h,Qa,seval])|(refine Xz (fun h=>?_) (fun h=>?_)<;>simp only[h,Ql,Qa,seval])|(refine XA (fun h=>?_) (fun h=>?_)<;>simp only[h,Ql,eE,seval]))
 all_goals(simp only[QUS,QVc,bne_eq_false_iff_eq,QWs,ne_eq]at *)
 all_goals((repeat' split)<;>first|rfl|(exfalso;omega))

def XD (k:Int)(b:Nat):Nat:=if k=6∧Wp b=0 then 9221120237041090560 else b

theorem VW (b:Nat):((Wp b:Int)==0)=decide (Wp b=0):=by
 rw[QVG,QUS,QUR];omega

open Br Up So

section sorting
variable {α:Type}{lt:α→α→Bool}
theorem Bg (a:α):∀l:List α,(Zt lt a l).Perm (a :: l)
 | []=>.refl _
 |x :: l=>by
  rw[Zt];cases lt x a
  ·exact .refl _
  ·exact((Bg a l).cons x).trans (.swap a x l)
theorem Xa:∀l:List α,(QE lt l).Perm l
 | []=>.refl _
 |a :: l=>(Bg a _).trans ((Xa l).cons a)
end sorting

theorem Hr:∀ {a b c:List UInt8},Op.bytesLess a b=true→Op.bytesLess b c=true→Op.bytesLess a c=true
 |a,b,[],_,h=>by cases b<;>simp[Op.bytesLess]at h
 | [],_,_ :: _,_,_=>by simp[Op.bytesLess]
 |x :: a,[],_ :: _,h,_=>by simp[Op.bytesLess]at h
 |x :: a,y :: b,z :: c,h,k=>by
  simp only[Op.bytesLess,QUQ,QVa,QUR,QUS]at h k ⊢;rcases h with h|⟨h1,h2⟩<;>rcases k with k|⟨k1,k2⟩
  ·exact .inl (UInt8.lt_trans h k)
  ·subst k1;exact .inl h
  ·subst h1;exact .inl k
  ·subst h1 k1;exact .inr ⟨rfl,Hr h2 k2⟩
theorem Ue:∀ {a b:List UInt8},Op.bytesLess a b=false→Op.bytesLess b a=false→a=b
 | [],[],_,_=>rfl
 | [],_ :: _,h,_=>by simp[Op.bytesLess]at h
 |_ :: _,[],_,h=>by simp[Op.bytesLess]at h
 |x :: a,y :: b,h,k=>by
  simp only[Op.bytesLess,QVF,Bool.and_eq_false_iff,QWD,QWs]at h k;have e:x=y:=by
   rcases Nat.lt_trichotomy x.toNat y.toNat with g|g|g
   ·exact absurd (UInt8.lt_iff_toNat_lt.2 g) h.1
   ·exact UInt8.toNat_inj.1 g
   ·exact absurd (UInt8.lt_iff_toNat_lt.2 g) k.1
  subst e;rw[Ue (h.2.resolve_left fun g=>g rfl) (k.2.resolve_left fun g=>g rfl)]
theorem DN:∀a:List UInt8,Op.bytesLess a a=false
 | []=>rfl
 |x :: a=>by simp[Op.bytesLess,DN a]

def kl (k:Int)(a b:V):Bool :=
 if X8 k=true then Op.bytesLess a.text b.text else if (k==2||k==3)=true then decide (IntKind.i64.wrap (a.bits:Int)<IntKind.i64.wrap (b.bits:Int))else decide ((a.bits:Int)<(b.bits:Int))
theorem UG (k:Int):SW fun x y:V×V=>kl k x.1 y.1 where
 irr x:=by
  unfold kl;split
  ·exact DN _
  ·split<;>simp
 tr x y z h g:=by
  unfold kl at *;split
  ·rename_i ht;rw[QVf ht]at h g;exact Hr h g
  ·rename_i ht;rw[QU0 ht]at h g;split
   ·rename_i hs;rw[QVf hs]at h g;simp only[QUR]at *;omega
   ·rename_i hs;rw[QU0 hs]at h g;simp only[QUR]at *;omega
 nt x y z h g:=by
  unfold kl at *;split
  ·rename_i ht;rw[QVf ht]at h g;cases hc:Op.bytesLess x.1.text z.1.text with
   |false=>rfl
   |true=>
    cases hy:Op.bytesLess y.1.text x.1.text with
    |true=>rw[Hr hy hc]at g;cases g
    |false=>
     rw[Ue h hy]at hc;rw[hc]at g;cases g
  ·rename_i ht;rw[QU0 ht]at h g;split
   ·rename_i hs;rw[QVf hs]at h g;simp only[QWD]at *;omega
   ·rename_i hs;rw[QU0 hs]at h g;simp only[QWD]at *;omega

def Xe (k:Int)(l:List (V×V)):List (V×V):=QE (fun x y=>kl k x.1 y.1) l
def Zs (l:List R):List R:=QE (fun x y=>decide (x.num<y.num)) l
theorem VX:SW fun x y:R=>decide (x.num<y.num) where
 irr x:=by simp
 tr x y z h k:=by simp only[QUR]at *;omega
 nt x y z h k:=by simp only[QWD]at *;omega

def _root_.Go.Proofs.YtipjfckmopekaaaGreatDoor.Br.V.nsc (v:V):V:=.mk v.kd (XD v.kd v.bits) v.text v.list v.pairs v.slots v.raws
def _root_.Go.Proofs.YtipjfckmopekaaaGreatDoor.Br.V.emp (v:V):Bool:=Va.emp v.kd v.bits v.text (v.list.map V.av) (v.pairs.map V.pav) (v.slots.map V.sav) (v.raws.map R.av)

section
variable (nm:PG→V→V)(P:PL)
def Zu (o:PO)(v:V):V:=if o.kind=10 then nm (Q8 P o.target) v else v.nsc
def ZL (o:PO)(v:V):V :=
 if o.card=4 then .mk 11 0 [] (v.list.map (Zu nm P o)) [] [] []else if o.card=5 then .mk 12 0 [] [] ((Xe o.key v.pairs).map fun p=>(p.1.nsc,Zu nm P o p.2)) [] []else Zu nm P o v
def Xv (sl:List (Int×V))(o:PO):List (Int×V):=match sl.find? (fun s=>s.1==o.num)with
 |none=>[]
 |some s=>if (decide (o.card<3) || !(ZL nm P o s.2).emp)=true then [(o.num,ZL nm P o s.2)]else []
def Hs (g:PG)(v:V):V:=.mk 10 0 [] [] [] (g.ops.flatMap (Xv nm P v.slots)) (Zs v.raws)
end
def Xd (P:PL):Nat→PG→V→V
 |0,_,v=>v
 |n+1,g,v=>Hs (Xd P n) P g v

theorem NP (v:V):v.nsc.cnt=v.cnt:=by
 rw[Xh,Xh v];rfl
theorem Bh {f:V→V}(h:∀v,(f v).cnt≤v.cnt):∀l:List V,XN (l.map f)≤XN l
 | []=>QUK _
 |x :: l=>by
  have:=h x;have:=Bh h l;simp only[QVi,XN];omega
theorem Bi {f g:V→V}(h:∀v,(f v).cnt≤v.cnt)(k:∀v,(g v).cnt≤v.cnt):∀l:List (V×V),Xs (l.map fun p=>(f p.1,g p.2))≤Xs l
 | []=>QUK _
 |(a,b) :: l=>by
  have:=h a;have:=k b;have:=Bi h k l;simp only[QVi,Xs];omega
theorem MY {a b:List (V×V)}(h:a.Perm b):Xs a=Xs b:=by
 induction h with
 |nil=>rfl
 |cons x _ ih=>obtain⟨p,q⟩:=x;simp only[Xs,ih]
 |swap x y l=>obtain⟨p,q⟩:=x;obtain⟨r,s⟩:=y;simp only[Xs];omega
 |trans _ _ h1 h2=>rw[h1,h2]
theorem Rn (a b:List (Int×V)):Xf (a++b)=Xf a+Xf b:=by
 induction a with
 |nil=>simp[Xf]
 |cons x a ih=>obtain⟨n,v⟩:=x;simp only[QU8,Xf,ih];omega

theorem Df {nm:PG→V→V}{P:PL}(h:∀t v,(nm (Q8 P t) v).cnt≤v.cnt)(o:PO)(v:V):(Zu nm P o v).cnt≤v.cnt:=by
 unfold Zu;split
 ·exact h _ _
 ·rw[NP];exact QUK _
theorem NQ {nm:PG→V→V}{P:PL}(h:∀t v,(nm (Q8 P t) v).cnt≤v.cnt)(o:PO)(v:V):(ZL nm P o v).cnt≤v.cnt:=by
 unfold ZL;split
 ·have:=Bh (Df (P:=P) h o) v.list;rw[Xh,Xh v];simp only[V.raws,V.list,V.pairs,V.slots,QVI,Xs,Xf];simp only[V.list]at this;omega
 ·split
  ·have h1:=Bi (f:=V.nsc) (g:=Zu nm P o) (fun v=>by rw[NP];exact QUK _) (Df (P:=P) h o) (Xe o.key v.pairs);have h2:Xs (Xe o.key v.pairs)=Xs v.pairs:=MY (Xa _);rw[Xh,Xh v];simp only[V.raws,V.list,V.pairs,V.slots,QVI,XN,Xf];simp only[V.pairs]at h1 h2;omega
  ·exact Df h o v

def wS (sl:List (Int×V))(n:Int):Nat:=Xf (sl.filter fun s=>s.1==n)
theorem Qvi (ops:List PO)(hd:ops.Pairwise fun a b=>a.num<b.num)(n:Int)(w:Nat):(ops.map fun o=>if n=o.num then w else 0).sum≤w:=by
 induction ops with
 |nil=>simp
 |cons o ops ih=>
  obtain⟨h1,h2⟩:=QWj.1 hd;simp only[QVi,QWL];by_cases e:n=o.num
  ·have:(ops.map fun o=>if n=o.num then w else 0).sum=0:=by
    have:∀l:List PO,(∀x∈l,n≠x.num)→(l.map fun o=>if n=o.num then w else 0).sum=0:=by
     intro l
     induction l with
     |nil=>intro _;rfl
     |cons x l ih=>
      intro h;rw[QVi,QWL,QU0 (h x (by simp)),ih fun y hy=>h y (by simp[hy])]
    exact this ops fun x hx=>by have:=h1 x hx;omega
   rw[QVf e,this];omega
  ·rw[QU0 e];have:=ih h2;omega
theorem Qvj (ops:List PO)(hd:ops.Pairwise fun a b=>a.num<b.num)(sl:List (Int×V)):(ops.map fun o=>wS sl o.num).sum≤Xf sl:=by
 induction sl with
 |nil=>
  have:∀l:List PO,(l.map fun o=>wS [] o.num).sum=0:=by
   intro l
   induction l with
   |nil=>rfl
   |cons x l ih=>rw[QVi,QWL,ih];rfl
  rw[this];exact QUU _
 |cons s sl ih=>
  obtain⟨n,v⟩:=s;have h1:=Qvi ops hd n v.cnt;have h2:∀l:List PO,(l.map fun o=>wS ((n,v) :: sl) o.num).sum=(l.map fun o=>if n=o.num then v.cnt else 0).sum+(l.map fun o=>wS sl o.num).sum:=by
   intro l
   induction l with
   |nil=>rfl
   |cons o l ih=>
    simp only[QVi,QWL,ih];have:wS ((n,v) :: sl) o.num=(if n=o.num then v.cnt else 0)+wS sl o.num:=by
     unfold wS;by_cases e:n=o.num
     ·rw[List.filter_cons_of_pos (by simpa using e),QVf e,Xf]
     ·rw[List.filter_cons_of_neg (by simpa using e),QU0 e,QVs]
    omega
  rw[h2,Xf];omega

theorem LA {sl:List (Int×V)}{n:Int}{s:Int×V}(h:sl.find? (fun s=>s.1==n)=some s):s.2.cnt≤wS sl n:=by
 unfold wS
 induction sl with
 |nil=>cases h
 |cons x sl ih=>
  obtain⟨m,v⟩:=x;rw[List.find?_cons]at h;by_cases e:m=n
  ·have hb:((m,v).1==n)=true:=by simpa using e
   rw[hb]at h;cases h;rw[List.filter_cons_of_pos (by simpa using e),Xf];exact Nat.le_add_right _ _
  ·have hb:((m,v).1==n)=false:=by simpa using e
   rw[hb]at h;rw[List.filter_cons_of_neg (by simpa using e)];exact ih h

theorem Ro {nm:PG→V→V}{P:PL}(h':∀t v,(nm (Q8 P t) v).cnt≤v.cnt)(g:PG)(hd:g.ops.Pairwise fun a b=>a.num<b.num)(v:V):(Hs nm P g v).cnt≤v.cnt:=by
 have h1:Xf (g.ops.flatMap (Xv nm P v.slots))≤(g.ops.map fun o=>wS v.slots o.num).sum:=by
  clear hd
  induction g.ops with
  |nil=>exact QUK _
  |cons o l ih=>
   have:Xf (Xv nm P v.slots o)≤wS v.slots o.num:=by
    unfold Xv;cases hf:v.slots.find? (fun s=>s.1==o.num)with
    |none=>exact QUU _
    |some s=>
     have a:=LA hf;have b:=NQ (P:=P) h' o s.2;dsimp only;split
     ·simp only[Xf];omega
     ·exact QUU _
   rw[QWf,Rn,QVi,QWL];omega
 have h2:=Qvj g.ops hd v.slots;have h3:(Zs v.raws).length=v.raws.length:=(Xa _).length_eq;rw[Xh,Xh v];simp only[Hs,V.raws,V.list,V.pairs,V.slots,XN,Xs]at *;omega

def Kv (P:PL):Prop:=∀g∈P.progs,g.ops.Pairwise fun a b=>a.num<b.num
theorem Uf {P:PL}(h:Kv P)(t:Int):(Q8 P t).ops.Pairwise fun a b=>a.num<b.num:=by
 unfold Q8;cases hg:P.progs[t.toNat]? with
 |none=>exact .nil
 |some g=>exact h g (QUZ hg)

theorem W3 {P:PL}(h:Kv P):∀(n:Nat) (g:PG),(g.ops.Pairwise fun a b=>a.num<b.num)→∀v:V,(Xd P n g v).cnt≤v.cnt
 |0,_,_,_=>QUK _
 |n+1,g,hg,v=>Ro (fun t v=>W3 h n _ (Uf h t) v) g hg v

end Go.Proofs.YtipjfckmopekaaaGreatDoor.Va

namespace Go.Proofs.YtipjfckmopekaaaGreatDoor.Va
open Go Am Rc Bt Br

def JoI (g:PG)(k:Nat)(st:St):Prop :=
 ∃f fr i n b,st=⟨f,[fr],[]⟩∧k=g.ops.length-i∧Z2 g.ops 0 (-1)=Z2 (g.ops.drop i) n b∧0≤n∧n≤(i:Int)∧((i=0∧b = -1)∨∃j o,i=j+1∧g.ops[j]? = some o∧b=o.union)∧f 1=.ptr 0 1 0∧f 3=.int .i64 n∧f 4=.int .i64 (i:Nat)∧fr 1=.cells g.cells

theorem z80 (g:PG)(hl:g.ops.length≤9223372036854775000):Qj Tryz.prog 80 [Qn g] (.bool (ZP g)):=by
 refine k80.fn (by simp) ?_;simp only[Qn,PG.cells,eE,seval];refine Qd (JoI g) _ ⟨_,_,0,0,-1,rfl,rfl,rfl,by decide,by decide,.inl ⟨rfl,rfl⟩,(by rfl),(by rfl),(by rfl),(by rfl)⟩ ?_;rintro _ st ⟨f,fr,i,n,b,rfl,rfl,hj,hn0,hni,hb,h1,h3,h4,m1⟩;simp only[PG.cells]at m1;simp only[QVH,h1,h4,m1,eE,seval];by_cases hlt:i<g.ops.length
 ·obtain⟨o,hi⟩:∃o,g.ops[i]? = some o:=⟨g.ops[i],QUN hlt⟩;have hg:(g.ops.map fun o=>AV.agg o.cells)[i]? = some (.agg o.cells):=by simp[hi]
  have e1:=Qq i _ hlt (by simp only[maxLen];omega);have en:IntKind.i64.wrap (n+1)=n+1:=by rw[QG];omega
  rw[Gm hi]at hj;have fin:∀(f':Fr) (n':Int),(if o.union=n then n'=n+1 else n'=n)→Z2 g.ops 0 (-1)=Z2 (g.ops.drop (i+1)) n' o.union→f' 1=.ptr 0 1 0→f' 3=.int .i64 n'→f' 4=.int .i64 ((i+1:Nat):Int)→∃k,k<g.ops.length-i∧JoI g k ⟨f',[fr],[]⟩:=by
   intro f' n' a c d e f4;refine⟨g.ops.length-(i+1),by omega,f',fr,i+1,n',o.union,rfl,rfl,c,?_,?_,.inr ⟨i,o,rfl,hi,rfl⟩,d,e,f4,m1⟩<;>split at a<;>omega
  simp only[PO.cells]at hg;simp only[Qm hlt,Qi,QWd,Qc,hg,PO.cells,h1,h3,h4,m1,eE,seval];by_cases a1:o.union=n
  ·have b1:(o.union==n)=true:=by simp[a1]
   rw[QVf a1,←a1]at hj;simp only[b1,h3,h4,en,e1,Qa,seval];exact fin _ (n+1) (by rw[QVf a1]) (by rw[hj,a1]) (by exact h1) (by rfl) (by rfl)
  have b1:(o.union==n)=false:=by simp[a1]
  rw[QU0 a1]at hj;by_cases a2:o.union = -1
  ·have b2:(o.union != -1)=false:=by simp[a2]
   rw[QVf (.inl a2)]at hj;simp only[b1,b2,h4,e1,Qa,seval];exact fin _ n (by rw[QU0 a1]) hj (by exact h1) (by exact h3) (by rfl)
  have b2:(o.union != -1)=true:=by simp[a2]
  rcases hb with⟨rfl,rfl⟩|⟨j,p,rfl,hjp,rfl⟩
  ·have b3:(((0:Nat):Int)==0)=true:=rfl;rw[QU0 (by omega)]at hj;have hun:ZP g=false:=by unfold ZP;rw[hj]
   simp only[b1,b2,h4,hun,Qa,seval]
  ·have b3:(((j+1:Nat):Int)==0)=false:=by rw[QWs];omega
   have hgj:(g.ops.map fun o=>AV.agg o.cells)[j]? = some (.agg p.cells):=by simp[hjp]
   have e2:=Wj j _ hlt (by simp only[maxLen];omega);simp only[PO.cells]at hgj;by_cases a4:o.union=p.union
   ·have b4:(p.union != o.union)=false:=by simp[a4]
    rw[QVf (.inr a4)]at hj;simp only[b1,b2,b3,b4,e2,Qi,QWd,Qc,hgj,PO.cells,h1,h4,m1,e1,eE,seval];exact fin _ n (by rw[QU0 a1]) hj (by exact h1) (by exact h3) (by rfl)
   ·have b4:(p.union != o.union)=true:=by simp;exact fun h=>a4 h.symm
    rw[QU0 (by omega)]at hj;have hun:ZP g=false:=by unfold ZP;rw[hj]
    simp only[b1,b2,b3,b4,e2,Qi,QWd,Qc,hgj,PO.cells,h1,h4,m1,hun,eE,seval]
 ·rw[QVn (by omega)]at hj;have hun:ZP g=(g.unions==n):=by unfold ZP;rw[hj];rfl
  simp only[QB hlt,h1,h3,m1,hun,eE,seval]

section
variable {M:Nat}(hM:M≤140737488351232)(P:PL)(hP:P.ok M)(fr:Nat→Ob)(m1:fr 1=.cells (Pc P))(f:Fr)(b:Bool)(h1:f 1=.ptr 0 1 0)(h3:f 3=.bool b)(Q:Exit→St→Prop)
include hM hP m1 h1 h3

theorem Qvk (j:Nat)(x:PE)(hj:P.enums[j]? = some x)(ha:f 4=.int .i64 (j:Nat))(hc:f 5=.int .i64 0)(hx:∀f,f 1=.ptr 0 1 0→f 3=.bool (b&&x.items.all ZR)→f 4=.int .i64 (j:Nat)→Q (.exit 2) (⟨f,[fr],[]⟩:St)):QI Tryz.prog (.loop Sq) ⟨f,[fr],[]⟩ Q:=by
 let I:Nat→St→Prop:=fun k st=>∃f i,st=⟨f,[fr],[]⟩∧k=x.items.length-i∧i≤x.items.length∧f 1=.ptr 0 1 0∧f 3=.bool (b&&(x.items.take i).all ZR)∧f 4=.int .i64 (j:Nat)∧f 5=.int .i64 (i:Nat)
 have hjm:(P.enums.map Qr)[j]? = some (.agg x.cells):=by simp[hj,Qr]
 have hxo:=hP.enums x (QUZ hj);have z0:(0≤(0:Int))=True:=by simp
 have z1:Int.toNat 0=0:=rfl;refine Qd I _ ⟨f,0,rfl,rfl,QUU _,h1,by rw[h3];simp,ha,hc⟩ ?_;clear h1 h3 ha hc;simp only[Pc]at m1;simp only[PE.cells]at hjm;rintro _ st ⟨f,i,rfl,rfl,hi,h1,h3,ha,hc⟩;simp only[Qi,QWd,Qc,hjm,QVH,h1,m1,ha,hc,eE,seval];by_cases hlt:i<x.items.length
 ·obtain⟨o,hg⟩:∃o,x.items[i]? = some o:=⟨x.items[i],QUN hlt⟩;have hgm:(x.items.map fun o=>AV.agg o.cells)[i]? = some (.agg o.cells):=by simp[hg]
  have e1:=Qq i _ hlt hxo.len1;have ho:=hxo.items o (QUZ hg);have ht:=Q2 (q:=ZR) hg;have fin:∀f':Fr,f' 1=.ptr 0 1 0→f' 3=.bool ((b&&(x.items.take i).all ZR)&&ZR o)→f' 4=.int .i64 (j:Nat)→f' 5=.int .i64 ((i+1:Nat):Int)→∃k,k<x.items.length-i∧I k ⟨f',[fr],[]⟩:=by
   intro f' a1 a3 a4 a5;exact⟨x.items.length-(i+1),by omega,f',i+1,rfl,rfl,by omega,a1,by rw[a3,ht,QVw],a4,a5⟩
  simp only[PI.cells]at hgm;cases hb:(b&&(x.items.take i).all ZR)
  ·rw[hb]at fin h3;simp only[Qm hlt,Qi,QWd,Qc,hjm,hgm,PI.cells,h1,m1,h3,ha,hc,e1,eE,seval];exact fin _ (by exact h1) (by rfl) (by exact ha) (by rfl)
  ·rw[hb,QWn]at fin;rw[hb]at h3;rcases hn:o.notes with _|⟨n,_|⟨n2,ns⟩⟩
   ·have c0:(((0:Nat):Int)==0)=true:=rfl;have e:ZR o=true:=by unfold ZR;rw[hn]
    rw[e]at fin;rw[hn]at hgm;simp only[Qm hlt,Qi,QWd,Qc,hjm,hgm,PI.cells,QVN,QVI,h1,m1,h3,ha,hc,e1,eE,seval];exact fin _ (by exact h1) (by rfl) (by exact ha) (by rfl)
   ·obtain⟨kd,b',t,l,p,s,r,hv,htl,h3',h4',h5',h6'⟩:=VL (ho.notes n (by rw[hn];simp)) hM;have c0:(((1:Nat):Int)==0)=false:=rfl;have c1:(((1:Nat):Int)==1)=true:=rfl;have e:ZR o=(n.name==alias&&Xx 7 kd b' t l p s r):=by
     unfold ZR;rw[hn];show(n.name==alias&&nok n.val)=_;rw[hv];rfl
    have en:Xn n.cells=.agg [.str n.name,.int .i64 kd,.int .u64 ((b':Nat):Int),.str t,.list l,.list p,.list s,.list r]:=by
     rw[PN.cells,hv];rfl
    have hne:(n.name==[97,108,105,97,115])=(n.name==alias):=rfl;have hck:=z79 kd b' t l p s r (by simp only[maxLen];omega);simp only[nv]at hck;rw[e]at fin;rw[hn]at hgm;simp only[QVi,QVN,en]at hgm;simp only[Qm hlt,Qi,QWd,Qc,hjm,hgm,PI.cells,QU1,QVI,QVs,z0,z1,QVO,QM,hne,h1,m1,h3,ha,hc,eE,seval];by_cases hal:n.name=alias
    ·have b0:(n.name==alias)=true:=by simp[hal]
     rw[←hal]at hck;rw[b0,QWn]at fin;simp only[b0,Qa,seval];refine Qb hck rfl rfl rfl (.inl rfl) ?_;cases hfv:Xx 7 kd b' t l p s r
     ·rw[hfv]at fin;have d0:((12:Int)==0)=false:=rfl;simp only[QU5,d0,hc,e1,Qa,seval];exact fin _ (by exact h1) (by rfl) (by exact ha) (by rfl)
     ·rw[hfv]at fin;have d0:((0:Int)==0)=true:=rfl;simp only[d0,hc,e1,Qa,seval];exact fin _ (by exact h1) (by rfl) (by exact ha) (by rfl)
    ·have b0:(n.name==alias)=false:=by simp[hal]
     rw[b0,QWg]at fin;simp only[b0,hc,e1,Qa,seval];exact fin _ (by exact h1) (by rfl) (by exact ha) (by rfl)
   ·have c0:((((ns.length+1+1:Nat)):Int)==0)=false:=by rw[QWs];omega
    have c1:((((ns.length+1+1:Nat)):Int)==1)=false:=by rw[QWs];omega
    have e:ZR o=false:=by unfold ZR;rw[hn]
    rw[e]at fin;rw[hn]at hgm;simp only[QVi]at hgm;simp only[Qm hlt,Qi,QWd,Qc,hjm,hgm,PI.cells,QU1,QVH,c0,c1,h1,m1,h3,ha,hc,e1,eE,seval];exact fin _ (by exact h1) (by rfl) (by exact ha) (by rfl)
 ·have hf:(x.items.take i).all ZR=x.items.all ZR:=by rw[QVk (by omega)]
  rw[hf]at h3;simp only[QB hlt,Qa,seval];exact hx _ (by exact h1) (by exact h3) (by exact ha)

theorem QPe (ha:f 4=.int .i64 0)(hx:∀f,f 1=.ptr 0 1 0→f 3=.bool (b&&P.enums.all Kn)→Q (.exit 0) (⟨f,[fr],[]⟩:St)):QI Tryz.prog (.loop Sr) ⟨f,[fr],[]⟩ Q:=by
 let I:Nat→St→Prop:=fun k st=>∃f i,st=⟨f,[fr],[]⟩∧k=P.enums.length-i∧i≤P.enums.length∧f 1=.ptr 0 1 0∧f 3=.bool (b&&(P.enums.take i).all Kn)∧f 4=.int .i64 (i:Nat)
 have m1':=m1;refine Qd I _ ⟨f,0,rfl,rfl,QUU _,h1,by rw[h3];simp,ha⟩ ?_;clear h1 h3 ha;simp only[Pc]at m1;rintro _ st ⟨f,i,rfl,rfl,hi,h1,h3,ha⟩;simp only[QVH,h1,m1,ha,eE,seval];by_cases hlt:i<P.enums.length
 ·obtain⟨x,hg⟩:∃x,P.enums[i]? = some x:=⟨P.enums[i],QUN hlt⟩;have hgm:(P.enums.map Qr)[i]? = some (.agg x.cells):=by simp[hg,Qr]
  have e1:=Qq i _ hlt hP.len2;have ht:=Q2 (q:=Kn) hg;have hq:Kn x=(x.notes.isEmpty&&x.items.all ZR):=rfl;have hie:((x.notes.length:Int)==0)=x.notes.isEmpty:=by
   cases x.notes with
   |nil=>rfl
   |cons a l=>simp;omega
  have fin:∀f':Fr,f' 1=.ptr 0 1 0→f' 3=.bool (((b&&(P.enums.take i).all Kn)&&x.notes.isEmpty)&&x.items.all ZR)→f' 4=.int .i64 ((i+1:Nat):Int)→∃k,k<P.enums.length-i∧I k ⟨f',[fr],[]⟩:=by
   intro f' a1 a3 a4;exact⟨P.enums.length-(i+1),by omega,f',i+1,rfl,rfl,by omega,a1,by rw[a3,ht,hq,QVw,QVw],a4⟩
  simp only[PE.cells]at hgm;cases hb:(b&&(P.enums.take i).all Kn)
  ·rw[hb,QWg]at fin;rw[hb]at h3;simp only[Qm hlt,h3,Qa,seval];refine Qvk hM P hP fr m1' _ false (by exact h1) (by rfl) _ i x hg (by exact ha) (by rfl) (fun f h1 h3 ha=>?_);simp only[ha,e1,Qa,seval];exact fin _ (by exact h1) (by exact h3) (by rfl)
  ·rw[hb,QWn]at fin;rw[hb]at h3;simp only[Qm hlt,Qi,QWd,Qc,hgm,QVH,hie,h1,m1,h3,ha,eE,seval];refine Qvk hM P hP fr m1' _ x.notes.isEmpty (by exact h1) (by rfl) _ i x hg (by exact ha) (by rfl) (fun f h1 h3 ha=>?_);simp only[ha,e1,Qa,seval];exact fin _ (by exact h1) (by exact h3) (by rfl)
 ·have hf:(P.enums.take i).all Kn=P.enums.all Kn:=by rw[QVk (by omega)]
  rw[hf]at h3;simp only[QB hlt,Qa,seval];exact hx _ (by exact h1) (by exact h3)

theorem Qvl (j:Nat)(x:PG)(hj:P.progs[j]? = some x)(ha:f 7=.int .i64 (j:Nat))(hc:f 8=.int .i64 0)(hx:∀f,f 1=.ptr 0 1 0→f 3=.bool (b&&x.ops.all fun o=>X3 P o&&XT o)→f 7=.int .i64 (j:Nat)→Q (.exit 6) (⟨f,[fr],[]⟩:St)):QI Tryz.prog (.loop Ss) ⟨f,[fr],[]⟩ Q:=by
 let I:Nat→St→Prop:=fun k st=>∃f i,st=⟨f,[fr],[]⟩∧k=x.ops.length-i∧i≤x.ops.length∧f 1=.ptr 0 1 0∧f 3=.bool (b&&(x.ops.take i).all fun o=>X3 P o&&XT o)∧f 7=.int .i64 (j:Nat)∧f 8=.int .i64 (i:Nat)
 have hjm:(P.progs.map Qn)[j]? = some (.agg x.cells):=by simp[hj,Qn]
 have hxo:=hP.progs x (QUZ hj);refine Qd I _ ⟨f,0,rfl,rfl,QUU _,h1,by rw[h3];simp,ha,hc⟩ ?_;clear h1 h3 ha hc;simp only[Pc]at m1;simp only[PG.cells]at hjm;rintro _ st ⟨f,i,rfl,rfl,hi,h1,h3,ha,hc⟩;simp only[Qi,QWd,Qc,hjm,QVH,h1,m1,ha,hc,eE,seval];by_cases hlt:i<x.ops.length
 ·obtain⟨o,hg⟩:∃o,x.ops[i]? = some o:=⟨x.ops[i],QUN hlt⟩;have hgm:(x.ops.map fun o=>AV.agg o.cells)[i]? = some (.agg o.cells):=by simp[hg]
  have e1:=Qq i _ hlt hxo.len;have hal:o.alias.length+8≤maxLen:=by have:=(hxo.ops o (QUZ hg)).alias;simp only[maxLen];omega
  have hop:Qj Tryz.prog 81 [.agg [.list (P.progs.map Qn),.list (P.enums.map Qr)],Qt o] (.bool (X3 P o&&XT o)):=z81 P o hal;have ht:=Q2 (q:=fun o=>X3 P o&&XT o) hg;have fin:∀f':Fr,f' 1=.ptr 0 1 0→f' 3=.bool ((b&&(x.ops.take i).all fun o=>X3 P o&&XT o)&&(X3 P o&&XT o))→f' 7=.int .i64 (j:Nat)→f' 8=.int .i64 ((i+1:Nat):Int)→∃k,k<x.ops.length-i∧I k ⟨f',[fr],[]⟩:=by
   intro f' a1 a3 a4 a5;exact⟨x.ops.length-(i+1),by omega,f',i+1,rfl,rfl,by omega,a1,by rw[a3,ht,QVw],a4,a5⟩
  simp only[Qt,PO.cells]at hgm hop;cases hb:(b&&(x.ops.take i).all fun o=>X3 P o&&XT o)
  ·rw[hb]at fin h3;simp only[Qm hlt,PO.cells,h3,hc,e1,Qa,seval];exact fin _ (by exact h1) (by rfl) (by exact ha) (by rfl)
  ·rw[hb,QWn]at fin;rw[hb]at h3;simp only[Qm hlt,Qi,QWd,Qc,hjm,hgm,PO.cells,h1,m1,h3,ha,hc,eE,seval];refine Qb hop rfl rfl rfl (.inl rfl) ?_;simp only[hc,e1,Qa,seval];exact fin _ (by exact h1) (by rfl) (by exact ha) (by rfl)
 ·have hf:(x.ops.take i).all (fun o=>X3 P o&&XT o)=x.ops.all fun o=>X3 P o&&XT o:=by rw[QVk (by omega)]
  rw[hf]at h3;simp only[QB hlt,Qa,seval];exact hx _ (by exact h1) (by exact h3) (by exact ha)

theorem QPf (hl:∀g∈P.progs,g.ops.length≤64)(ha:f 7=.int .i64 0)(hx:∀f,f 1=.ptr 0 1 0→f 3=.bool (b&&P.progs.all (ZY P))→Q (.exit 4) (⟨f,[fr],[]⟩:St)):QI Tryz.prog (.loop Su) ⟨f,[fr],[]⟩ Q:=by
 let I:Nat→St→Prop:=fun k st=>∃f i,st=⟨f,[fr],[]⟩∧k=P.progs.length-i∧i≤P.progs.length∧f 1=.ptr 0 1 0∧f 3=.bool (b&&(P.progs.take i).all (ZY P))∧f 7=.int .i64 (i:Nat)
 have m1':=m1;refine Qd I _ ⟨f,0,rfl,rfl,QUU _,h1,by rw[h3];simp,ha⟩ ?_;clear h1 h3 ha;simp only[Pc]at m1;rintro _ st ⟨f,i,rfl,rfl,hi,h1,h3,ha⟩;simp only[QVH,h1,m1,ha,eE,seval];by_cases hlt:i<P.progs.length
 ·obtain⟨x,hg⟩:∃x,P.progs[i]? = some x:=⟨P.progs[i],QUN hlt⟩;have hgm:(P.progs.map Qn)[i]? = some (.agg x.cells):=by simp[hg,Qn]
  have e1:=Qq i _ hlt hP.len1;have ht:=Q2 (q:=ZY P) hg;have hq:ZY P x=(ZP x&&x.ops.all fun o=>X3 P o&&XT o):=rfl;have hjo:=z80 x (QUL (hl x (QUZ hg)) (by decide));have fin:∀f':Fr,f' 1=.ptr 0 1 0→f' 3=.bool (((b&&(P.progs.take i).all (ZY P))&&ZP x)&&x.ops.all fun o=>X3 P o&&XT o)→f' 7=.int .i64 ((i+1:Nat):Int)→∃k,k<P.progs.length-i∧I k ⟨f',[fr],[]⟩:=by
   intro f' a1 a3 a4;exact⟨P.progs.length-(i+1),by omega,f',i+1,rfl,rfl,by omega,a1,by rw[a3,ht,hq,QVw,QVw],a4⟩
  simp only[Qn,PG.cells]at hgm hjo;cases hb:(b&&(P.progs.take i).all (ZY P))
  ·rw[hb,QWg]at fin;rw[hb]at h3;simp only[Qm hlt,h3,Qa,seval];refine Qvl hM P hP fr m1' _ false (by exact h1) (by rfl) _ i x hg (by exact ha) (by rfl) (fun f h1 h3 ha=>?_);simp only[ha,e1,Qa,seval];exact fin _ (by exact h1) (by exact h3) (by rfl)
  ·rw[hb,QWn]at fin;rw[hb]at h3;simp only[Qm hlt,Qi,QWd,Qc,hgm,h1,m1,h3,ha,eE,seval];refine Qb hjo rfl rfl rfl (.inl rfl) ?_;simp only[Qa,seval];refine Qvl hM P hP fr m1' _ (ZP x) (by exact h1) (by rfl) _ i x hg (by exact ha) (by rfl) (fun f h1 h3 ha=>?_);simp only[ha,e1,Qa,seval];exact fin _ (by exact h1) (by exact h3) (by rfl)
 ·have hf:(P.progs.take i).all (ZY P)=P.progs.all (ZY P):=by rw[QVk (by omega)]
  rw[hf]at h3;simp only[QB hlt,Qa,seval];exact hx _ (by exact h1) (by exact h3)

end

theorem z48 {M:Nat}(hM:M≤140737488351232)(P:PL)(hP:P.ok M)(hl:∀g∈P.progs,g.ops.length≤64):Qj Tryz.prog 48 [P.av] (.bool (args P)):=by
 have e0:P.av=.agg [.list (P.progs.map Qn),.list (P.enums.map Qr)]:=rfl;have e:args P=(P.enums.all Kn&&P.progs.all (ZY P)):=Bool.and_comm _ _;refine k48.fn (by simp) ?_;simp only[e0,eE,seval];refine QPe hM P hP _ (by rfl) _ true (by rfl) (by rfl) _ (by rfl) (fun f h1 h3=>?_);simp only[Qa,seval];refine QPf hM P hP _ (by rfl) _ _ (by exact h1) (by exact h3) _ hl (by rfl) (fun f h1 h3=>?_);simp only[h3,e,QWn,Qa,seval]

section
variable {M:Nat}(P:PL)(hP:P.ok M)(fr:Nat→Ob)(m1:fr 1=.cells (Pc P))(f:Fr)(b:Bool)(h1:f 1=.ptr 0 1 0)(h3:f 3=.bool b)(Q:Exit→St→Prop)
include hP m1 h1 h3

theorem QPg (j:Nat)(x:PG)(hj:P.progs[j]? = some x)(ha:f 4=.int .i64 (j:Nat))(hc:f 5=.int .i64 0)(hx:∀f,f 1=.ptr 0 1 0→f 3=.bool (b&&x.ops.all Zj)→f 4=.int .i64 (j:Nat)→Q (.exit 2) (⟨f,[fr],[]⟩:St)):QI Tryz.prog (.loop Sk) ⟨f,[fr],[]⟩ Q:=by
 let I:Nat→St→Prop:=fun k st=>∃f i,st=⟨f,[fr],[]⟩∧k=x.ops.length-i∧i≤x.ops.length∧f 1=.ptr 0 1 0∧f 3=.bool (b&&(x.ops.take i).all Zj)∧f 4=.int .i64 (j:Nat)∧f 5=.int .i64 (i:Nat)
 have hjm:(P.progs.map Qn)[j]? = some (.agg x.cells):=by simp[hj,Qn]
 have hxo:=hP.progs x (QUZ hj);refine Qd I _ ⟨f,0,rfl,rfl,QUU _,h1,by rw[h3];simp,ha,hc⟩ ?_;clear h1 h3 ha hc;simp only[Pc]at m1;simp only[PG.cells]at hjm;rintro _ st ⟨f,i,rfl,rfl,hi,h1,h3,ha,hc⟩;simp only[Qi,QWd,Qc,hjm,QVH,h1,m1,ha,hc,eE,seval];by_cases hlt:i<x.ops.length
 ·obtain⟨o,hg⟩:∃o,x.ops[i]? = some o:=⟨x.ops[i],QUN hlt⟩;have hgm:(x.ops.map fun o=>AV.agg o.cells)[i]? = some (.agg o.cells):=by simp[hg]
  have e1:=Qq i _ hlt hxo.len;have ht:=Q2 (q:=Zj) hg;have hq:Zj o=(decide (o.num≥1)&&decide (o.num≤65535)):=rfl;have fin:∀f':Fr,f' 1=.ptr 0 1 0→f' 3=.bool ((b&&(x.ops.take i).all Zj)&&Zj o)→f' 4=.int .i64 (j:Nat)→f' 5=.int .i64 ((i+1:Nat):Int)→∃k,k<x.ops.length-i∧I k ⟨f',[fr],[]⟩:=by
   intro f' a1 a3 a4 a5;exact⟨x.ops.length-(i+1),by omega,f',i+1,rfl,rfl,by omega,a1,by rw[a3,ht,QVw],a4,a5⟩
  simp only[PO.cells]at hgm;cases hb:(b&&(x.ops.take i).all Zj)
  ·rw[hb]at fin h3;simp only[Qm hlt,Qi,QWd,Qc,hjm,hgm,PO.cells,h1,m1,h3,ha,hc,e1,eE,seval];exact fin _ (by exact h1) (by rfl) (by exact ha) (by rfl)
  ·rw[hb,QWn,hq]at fin;rw[hb]at h3;cases a1:decide (o.num≥1)
   ·rw[a1]at fin;simp only[Qm hlt,Qi,QWd,Qc,hjm,hgm,PO.cells,a1,h1,m1,h3,ha,hc,e1,eE,seval];exact fin _ (by exact h1) (by rfl) (by exact ha) (by rfl)
   ·rw[a1,QWn]at fin;simp only[Qm hlt,Qi,QWd,Qc,hjm,hgm,PO.cells,a1,h1,m1,h3,ha,hc,e1,eE,seval];exact fin _ (by exact h1) (by rfl) (by exact ha) (by rfl)
 ·have hf:(x.ops.take i).all Zj=x.ops.all Zj:=by rw[QVk (by omega)]
  rw[hf]at h3;simp only[QB hlt,Qa,seval];exact hx _ (by exact h1) (by exact h3) (by exact ha)

theorem QPh (ha:f 4=.int .i64 0)(hx:∀f,f 1=.ptr 0 1 0→f 3=.bool (b&&P.progs.all fun g=>g.ops.all Zj)→Q (.exit 0) (⟨f,[fr],[]⟩:St)):QI Tryz.prog (.loop Sl) ⟨f,[fr],[]⟩ Q:=by
 let I:Nat→St→Prop:=fun k st=>∃f i,st=⟨f,[fr],[]⟩∧k=P.progs.length-i∧i≤P.progs.length∧f 1=.ptr 0 1 0∧f 3=.bool (b&&(P.progs.take i).all fun g=>g.ops.all Zj)∧f 4=.int .i64 (i:Nat)
 have m1':=m1;refine Qd I _ ⟨f,0,rfl,rfl,QUU _,h1,by rw[h3];simp,ha⟩ ?_;clear h1 h3 ha;simp only[Pc]at m1;rintro _ st ⟨f,i,rfl,rfl,hi,h1,h3,ha⟩;simp only[QVH,h1,m1,ha,eE,seval];by_cases hlt:i<P.progs.length
 ·obtain⟨x,hg⟩:∃x,P.progs[i]? = some x:=⟨P.progs[i],QUN hlt⟩;have e1:=Qq i _ hlt hP.len1;have ht:=Q2 (q:=fun g:PG=>g.ops.all Zj) hg;simp only[Qm hlt,Qa,seval];refine QPg P hP fr m1' _ (b&&(P.progs.take i).all fun g=>g.ops.all Zj) (by exact h1) (by exact h3) _ i x hg (by exact ha) (by rfl) (fun f h1 h3 ha=>?_);simp only[ha,e1,Qa,seval];exact⟨P.progs.length-(i+1),by omega,_,i+1,rfl,rfl,by omega,(by exact h1),by rw[ht,←QVw]<;>first|exact h3|simp only[h3,eE,seval],(by rfl)⟩
 ·have hf:(P.progs.take i).all (fun g=>g.ops.all Zj)=P.progs.all fun g=>g.ops.all Zj:=by rw[QVk (by omega)]
  rw[hf]at h3;simp only[QB hlt,Qa,seval];exact hx _ (by exact h1) (by exact h3)

end

def U9 (x:PE)(i:Nat):Bool:=match x.items[i]? with
 |some o=>(i != 0||o.num==0)&&WR x o
 |none=>true

theorem LB (x:PE):QC (U9 x) x.items.length=(Y5 x&&x.items.all (WR x)):=by
 rw[QVG,QVa,QK,QUY]
 constructor
 ·intro h;refine⟨?_,fun o ho=>?_⟩
  ·unfold Y5;cases hi:x.items with
   |nil=>rfl
   |cons a l=>
    have:=h 0 (by rw[hi];simp);unfold U9 at this;rw[hi]at this;simp only[QVO,QVa]at this
    simpa using this.1
  ·obtain⟨i,hi⟩:=QUX.1 ho;have:=h i (QUM.1 hi).1;unfold U9 at this;rw[hi]at this;simp only[QVa]at this;exact this.2
 ·rintro⟨h1,h2⟩ i _;unfold U9;cases hg:x.items[i]? with
  |none=>rfl
  |some o=>
   simp only[QVa];refine⟨?_,h2 o (QUZ hg)⟩;cases i with
   |zero=>
    unfold Y5 at h1;cases hx:x.items with
    |nil=>rw[hx]at hg;cases hg
    |cons a l=>
     rw[hx]at h1 hg;cases hg
     simpa using h1
   |succ k=>rfl

section
variable (x:PE)(hl1:x.items.length≤maxLen)(hl:x.free.length≤maxLen)(P:PL)(f:Fr)(b:Bool)(j:Nat)(fr:Nat→Ob)(h1:f 1=.ptr 0 1 0)(h3:f 3=.bool b)(h7:f 7=.int .i64 (j:Nat))(h8:f 8=.ptr 0 8 0)(m1:fr 1=.cells (Pc P))(m8:fr 8=.cells x.cells)(Q:Exit→St→Prop)
include hl1 hl h1 h3 h7 h8 m8

theorem MZ (hc:f 9=.int .i64 0)(hx:∀f,f 1=.ptr 0 1 0→f 3=.bool (b&&(Y5 x&&x.items.all (WR x)))→f 7=.int .i64 (j:Nat)→f 8=.ptr 0 8 0→Q (.exit 6) (⟨f,[fr],[]⟩:St)):QI Tryz.prog (.loop Sm) ⟨f,[fr],[]⟩ Q:=by
 let I:Nat→St→Prop:=fun k st=>∃f i,st=⟨f,[fr],[]⟩∧k=x.items.length-i∧i≤x.items.length∧f 1=.ptr 0 1 0∧f 3=.bool (b&&QC (U9 x) i)∧f 7=.int .i64 (j:Nat)∧f 8=.ptr 0 8 0∧f 9=.int .i64 (i:Nat)
 refine Qd I _ ⟨f,0,rfl,rfl,QUU _,h1,by rw[h3];simp[QC],h7,h8,hc⟩ ?_;clear h1 h3 h7 h8 hc;simp only[PE.cells]at m8;rintro _ st ⟨f,i,rfl,rfl,hi,h1,h3,h7,h8,hc⟩;simp only[QVH,m8,h8,hc,eE,seval];by_cases hlt:i<x.items.length
 ·obtain⟨o,hg⟩:∃o,x.items[i]? = some o:=⟨x.items[i],QUN hlt⟩;have hgm:(x.items.map fun o=>AV.agg o.cells)[i]? = some (.agg o.cells):=by simp[hg]
  have e1:=Qq i _ hlt hl1;have ht:=Jg b (U9 x) i;have hr:Qj Tryz.prog 78 [.list (x.free.map fun n=>AV.agg n.cells),.int .i64 o.num] (.bool (kept x.free o.num)):=z78 x.free hl o.num;have hq:U9 x i=((i != 0||o.num==0)&&(decide (o.num≤2147483647) && !kept x.free o.num)):=by unfold U9;rw[hg];rfl
  rw[hq]at ht;have fin:∀(f':Fr) (v:Bool),((b&&QC (U9 x) i)&&((i != 0||o.num==0)&&(decide (o.num≤2147483647) && !kept x.free o.num)))=v→f' 1=.ptr 0 1 0→f' 3=.bool v→f' 7=.int .i64 (j:Nat)→f' 8=.ptr 0 8 0→f' 9=.int .i64 ((i+1:Nat):Int)→∃k,k<x.items.length-i∧I k ⟨f',[fr],[]⟩:=by
   intro f' v hv a1 a3 a4 a5 a6;exact⟨x.items.length-(i+1),by omega,f',i+1,rfl,rfl,by omega,a1,by rw[a3,ht,hv],a4,a5,a6⟩
  simp only[PI.cells]at hgm;cases hb:(b&&QC (U9 x) i)
  ·rw[hb]at fin h3;simp only[QWg]at fin;simp only[Qm hlt,Qi,QWd,Qc,hgm,PI.cells,m8,h3,h8,hc,e1,eE,seval];exact fin _ _ rfl (by exact h1) (by rfl) (by exact h7) (by exact h8) (by rfl)
  ·rw[hb]at fin h3;simp only[QWn]at fin;cases a1:decide (o.num≤2147483647)
   ·simp only[a1,QWg,QWE]at fin;simp only[Qm hlt,Qi,QWd,Qc,hgm,PI.cells,a1,m8,h3,h8,hc,e1,eE,seval];exact fin _ _ rfl (by exact h1) (by rfl) (by exact h7) (by exact h8) (by rfl)
   simp only[a1,QWn]at fin;have gt:∀(q:Bool),(i != 0||o.num==0)=q→(decide ((i:Int) > 0)=true∧q=true)∨(decide ((i:Int) > 0)=false∧(o.num==0)=q):=by
    intro q hq;cases i with
    |zero=>exact .inr ⟨rfl,hq⟩
    |succ k=>exact .inl ⟨QWC (by omega),hq.symm⟩
   cases a2:(i != 0||o.num==0)
   ·rw[a2]at fin;simp only[QWg]at fin;rcases gt _ a2 with⟨g1,g2⟩|⟨g1,g2⟩
    ·cases g2
    ·simp only[Qm hlt,Qi,QWd,Qc,hgm,PI.cells,a1,g1,g2,m8,h3,h8,hc,e1,eE,seval];exact fin _ _ rfl (by exact h1) (by rfl) (by exact h7) (by exact h8) (by rfl)
   ·rw[a2]at fin;simp only[QWn]at fin;rcases gt _ a2 with⟨g1,g2⟩|⟨g1,g2⟩
    all_goals
     simp only[Qm hlt,Qi,QWd,Qc,hgm,PI.cells,a1,g1,g2,m8,h3,h8,hc,eE,seval];refine Qb hr rfl rfl rfl (.inl rfl) ?_;simp only[hc,e1,Qa,seval];exact fin _ _ rfl (by exact h1) (by rfl) (by exact h7) (by exact h8) (by rfl)
 ·rw[show i=x.items.length by omega,LB]at h3;simp only[QB hlt,Qa,seval];exact hx _ (by exact h1) (by exact h3) (by exact h7) (by exact h8)

omit hl1 in
include m1 in
theorem M0 (hc:f 11=.int .i64 0)(hrow:∀s∈[12],(fr s).isRow=false)(hx:∀f fr,f 1=.ptr 0 1 0→f 3=.bool (b&&(x.free.all Gj&&XQ x.free YN))→f 7=.int .i64 (j:Nat)→fr 1=.cells (Pc P)→(∀s∈[12,8],(fr s).isRow=false)→Q (.exit 8) (⟨f,[fr],[]⟩:St)):QI Tryz.prog (.loop Sn) ⟨f,[fr],[]⟩ Q:=by
 let I:Nat→St→Prop:=fun k st=>∃f fr i,st=⟨f,[fr],[]⟩∧k=x.free.length-i∧i≤x.free.length∧f 1=.ptr 0 1 0∧f 3=.bool (b&&QC (KQ x.free) i)∧f 7=.int .i64 (j:Nat)∧f 8=.ptr 0 8 0∧f 11=.int .i64 (i:Nat)∧fr 1=.cells (Pc P)∧fr 8=.cells x.cells∧∀s∈[12],(fr s).isRow=false
 refine Qd I _ ⟨f,fr,0,rfl,rfl,QUU _,h1,by rw[h3];simp[QC],h7,h8,hc,m1,m8,hrow⟩ ?_;clear h1 h3 h7 h8 hc m1 m8 hrow;rintro _ st ⟨f0,fr0,i,rfl,rfl,hi,h10,h30,h70,h80,hc0,m10,m80,WE⟩;refine QO (a:=_) [12] WE ?_;intro f fr hf hm hn;have h1:f 1=.ptr 0 1 0:=by rw[hf,h10]<;>rfl
 have h3:f 3=.bool (b&&QC (KQ x.free) i):=by rw[hf,h30]<;>rfl
 have h7:f 7=.int .i64 (j:Nat):=by rw[hf,h70]<;>rfl
 have h8:f 8=.ptr 0 8 0:=by rw[hf,h80]<;>rfl
 have hc:f 11=.int .i64 (i:Nat):=by rw[hf,hc0]<;>rfl
 have m1:fr 1=.cells (Pc P):=by rw[hm 1 (by decide),m10]<;>rfl
 have m8:fr 8=.cells x.cells:=by rw[hm 8 (by decide),m80]<;>rfl
 have n12:=hn 12 (by decide);clear hf hm hn h10 h30 h70 h80 hc0 m10 m80 WE;have m8':=m8;simp only[PE.cells]at m8;simp only[QVH,m8,h8,hc,eE,seval];by_cases hlt:i<x.free.length
 ·obtain⟨y,hg⟩:∃y,x.free[i]? = some y:=⟨x.free[i],QUN hlt⟩;have hgm:(x.free.map fun o=>AV.agg o.cells)[i]? = some (.agg y.cells):=by simp[hg]
  have e1:=Qq i _ hlt hl;have ht:=Jg b (KQ x.free) i;have hq:KQ x.free i=((decide (y.lo≥0)&&decide (y.hi≤2147483647)&&decide (y.lo≤y.hi))&&Xb x.free YN i):=by unfold KQ;rw[W0 hg];rfl
  rw[hq]at ht;have fin:∀(f':Fr) (fr':Nat→Ob) (v:Bool),((b&&QC (KQ x.free) i)&&((decide (y.lo≥0)&&decide (y.hi≤2147483647)&&decide (y.lo≤y.hi))&&Xb x.free YN i))=v→f' 1=.ptr 0 1 0→f' 3=.bool v→f' 7=.int .i64 (j:Nat)→f' 8=.ptr 0 8 0→f' 11=.int .i64 ((i+1:Nat):Int)→fr' 1=.cells (Pc P)→fr' 8=.cells x.cells→(∀s∈[12],(fr' s).isRow=false)→∃k,k<x.free.length-i∧I k ⟨f',[fr'],[]⟩:=by
   intro f' fr' v hv a1 a3 a4 a5 a6 a7 a8 a9;exact⟨x.free.length-(i+1),by omega,f',fr',i+1,rfl,rfl,by omega,a1,by rw[a3,ht,hv],a4,a5,a6,a7,a8,a9⟩
  simp only[PS.cells]at hgm;cases hb:(b&&QC (KQ x.free) i)
  ·rw[hb]at fin h3;simp only[QWg]at fin;simp only[Qm hlt,Qi,QWd,Qc,hgm,PS.cells,n12,m8,h3,h8,hc,e1,eE,seval];exact fin _ _ _ rfl (by exact h1) (by rfl) (by exact h7) (by exact h8) (by rfl) (by exact m1) (by exact m8') (by simp<;>rfl)
  rw[hb]at fin h3;simp only[QWn]at fin;cases a1:decide (y.lo≥0)
  ·simp only[a1,QWg]at fin;simp only[Qm hlt,Qi,QWd,Qc,hgm,PS.cells,n12,a1,m8,h3,h8,hc,e1,eE,seval];exact fin _ _ _ rfl (by exact h1) (by rfl) (by exact h7) (by exact h8) (by rfl) (by exact m1) (by exact m8') (by simp<;>rfl)
  cases a2:decide (y.hi≤2147483647)
  ·simp only[a1,a2,QWg,QWE]at fin;simp only[Qm hlt,Qi,QWd,Qc,hgm,PS.cells,n12,a1,a2,m8,h3,h8,hc,e1,eE,seval];exact fin _ _ _ rfl (by exact h1) (by rfl) (by exact h7) (by exact h8) (by rfl) (by exact m1) (by exact m8') (by simp<;>rfl)
  cases a3:decide (y.lo≤y.hi)
  ·simp only[a1,a2,a3,QWg,QWE]at fin;simp only[Qm hlt,Qi,QWd,Qc,hgm,PS.cells,n12,a1,a2,a3,m8,h3,h8,hc,e1,eE,seval];exact fin _ _ _ rfl (by exact h1) (by rfl) (by exact h7) (by exact h8) (by rfl) (by exact m1) (by exact m8') (by simp<;>rfl)
  simp only[a1,a2,a3,QWn,QVZ]at fin;cases i with
  |zero=>
   have d0:(((0:Nat):Int)==0)=true:=rfl;rw[Yj]at fin;simp only[Qm hlt,Qi,QWd,Qc,hgm,PS.cells,n12,a1,a2,a3,d0,m8,h3,h8,hc,e1,eE,Nat.reduceBEq,↓reduceIte,Nat.reduceAdd,Nat.reduceLeDiff];exact fin _ _ _ rfl (by exact h1) (by rfl) (by exact h7) (by exact h8) (by rfl) (by exact m1) (by exact m8') (by simp<;>rfl)
  |succ k=>
   have d0:(((k+1:Nat):Int)==0)=false:=by rw[QWs];omega
   obtain⟨z,hgz⟩:∃z,x.free[k]? = some z:=⟨x.free[k]'(by omega),QUN (by omega)⟩;have hgzm:(x.free.map fun o=>AV.agg o.cells)[k]? = some (.agg z.cells):=by simp[hgz]
   have w:=Wj k _ hlt hl;have hs:YN z y=decide (y.lo > z.hi):=rfl;rw[Jd hgz hg,hs]at fin;simp only[PS.cells]at hgzm;simp only[Qm hlt,Qi,QWd,Qc,hgm,hgzm,w,PS.cells,n12,a1,a2,a3,d0,m8,h3,h8,hc,e1,eE,seval];exact fin _ _ _ rfl (by exact h1) (by rfl) (by exact h7) (by exact h8) (by rfl) (by exact m1) (by exact m8') (by simp<;>rfl)
 ·rw[show i=x.free.length by omega,NG]at h3;simp only[QB hlt,Qa,seval];refine hx _ _ (by exact h1) (by exact h3) (by exact h7) (by exact m1) (fun s hs=>?_);simp at hs;rcases hs with rfl|rfl
  ·rw[n12];rfl
  ·rw[m8];rfl

end

section
variable {M:Nat}(P:PL)(hP:P.ok M)(fr:Nat→Ob)(m1:fr 1=.cells (Pc P))(f:Fr)(b:Bool)(h1:f 1=.ptr 0 1 0)(h3:f 3=.bool b)(Q:Exit→St→Prop)
include hP m1 h1 h3

theorem QPi (ha:f 7=.int .i64 0)(hrow:∀s∈[12,8],(fr s).isRow=false)(hx:∀f fr,f 1=.ptr 0 1 0→f 3=.bool (b&&P.enums.all Jf)→Q (.exit 4) (⟨f,[fr],[]⟩:St)):QI Tryz.prog (.loop Sp) ⟨f,[fr],[]⟩ Q:=by
 let I:Nat→St→Prop:=fun k st=>∃f fr i,st=⟨f,[fr],[]⟩∧k=P.enums.length-i∧i≤P.enums.length∧f 1=.ptr 0 1 0∧f 3=.bool (b&&(P.enums.take i).all Jf)∧f 7=.int .i64 (i:Nat)∧fr 1=.cells (Pc P)∧∀s∈[12,8],(fr s).isRow=false
 refine Qd I _ ⟨f,fr,0,rfl,rfl,QUU _,h1,by rw[h3];simp,ha,m1,hrow⟩ ?_;clear h1 h3 ha m1 hrow;rintro _ st ⟨f0,fr0,i,rfl,rfl,hi,h10,h30,ha0,m10,hr⟩;refine QO (a:=_) [12,8] hr ?_;intro f fr hf hm hn;have h1:f 1=.ptr 0 1 0:=by rw[hf,h10]<;>rfl
 have h3:f 3=.bool (b&&(P.enums.take i).all Jf):=by rw[hf,h30]<;>rfl
 have ha:f 7=.int .i64 (i:Nat):=by rw[hf,ha0]<;>rfl
 have m1:fr 1=.cells (Pc P):=by rw[hm 1 (by decide),m10]<;>rfl
 have n12:=hn 12 (by decide);have n8:=hn 8 (by decide);clear hf hm hn h10 h30 ha0 m10 hr;have m1':=m1;simp only[Pc]at m1;simp only[QVH,h1,m1,ha,eE,seval];by_cases hlt:i<P.enums.length
 ·obtain⟨x,hg⟩:∃x,P.enums[i]? = some x:=⟨P.enums[i],QUN hlt⟩;have hgm:(P.enums.map Qr)[i]? = some (.agg x.cells):=by simp[hg,Qr]
  have e1:=Qq i _ hlt hP.len2;have ht:=Q2 (q:=Jf) hg;have hq:(b&&(P.enums.take (i+1)).all Jf)=((b&&(P.enums.take i).all Jf&&(Y5 x&&x.items.all (WR x)))&&(x.free.all Gj&&XQ x.free YN)):=by
   rw[ht];unfold Jf;cases b<;>cases(P.enums.take i).all _<;>cases x.free.all Gj<;>cases XQ x.free YN<;>cases Y5 x<;>cases x.items.all (WR x)<;>rfl
  have hxo:=hP.enums x (QUZ hg);simp only[PE.cells]at hgm;simp only[Qm hlt,Qi,QWd,Qc,hgm,n8,h1,m1,ha,eE,seval];refine MZ x hxo.len1 hxo.len2 _ (b&&(P.enums.take i).all Jf) i _ (by exact h1) (by exact h3) (by exact ha) (by rfl) (by rfl) _ (by rfl) (fun f h1 h3 ha h8=>?_);simp only[Qa,seval];refine M0 x hxo.len2 P _ _ i _ (by exact h1) (by exact h3) (by exact ha) (by exact h8) (by exact m1') (by rfl) _ (by rfl) (fun s hs=>by simp at hs;subst hs;rw[QS _ _ (by decide)];first|rw[n12];rfl|(rw[QS _ _ (by decide),n12];rfl)) (fun f fr h1 h3 ha m1 hr=>?_);simp only[ha,e1,Qa,seval];exact⟨P.enums.length-(i+1),by omega,_,fr,i+1,rfl,rfl,by omega,(by exact h1),by rw[hq]<;>first|exact h3|simp only[h3,eE,seval],(by rfl),m1,hr⟩
 ·have hf:(P.enums.take i).all Jf=P.enums.all Jf:=by rw[QVk (by omega)]
  rw[hf]at h3;simp only[QB hlt,Qa,seval];exact hx _ _ (by exact h1) (by exact h3)

end

theorem z47 {M:Nat}(P:PL)(hP:P.ok M):Qj Tryz.prog 47 [P.av] (.bool (F3 P)):=by
 have e0:P.av=.agg [.list (P.progs.map Qn),.list (P.enums.map Qr)]:=rfl;refine k47.fn (by simp) ?_;simp only[e0,eE,seval];refine QPh P hP _ (by rfl) _ true (by rfl) (by rfl) _ (by rfl) (fun f h1 h3=>?_);simp only[Qa,seval];refine QPi P hP _ (by rfl) _ _ (by exact h1) (by exact h3) _ (by rfl) (fun s hs=>by simp at hs;rcases hs with rfl|rfl<;>rfl) (fun f fr h1 h3=>?_);simp only[h3,F3,QWn,Qa,seval]

section
variable (k kd:Int)(b:Nat)(t:List UInt8)(l p s r:List AV)(ht:t.length+8≤maxLen)

include ht in
theorem QPj:Qj Tryz.prog 201 [.int .i64 k,vo kd b t l p s r] (.bool (Xx k kd b t l p s r)):=by
 have hl:=Ri kd b t l p s r;simp only[vo]at hl;have n1:(kd != k)=!(kd==k):=rfl;have n2:(t != [])=!(t==[]):=rfl;refine Qsi.fn (by simp) ?_;simp only[vo,Xx,eE,seval];refine Qb (VD k) rfl rfl rfl (.inl rfl) ?_;cases hk:isk k
 ·simp only[QVT,QWg,Qa,seval]
 simp only[n1,QWo,QWn,eE,seval];cases a1:(kd==k)
 ·simp only[QVT,QWg,Qa,seval]
 have e:kd=k:=by simpa using a1
 subst e;simp only[QWo,QWn,eE,seval];refine Qb hl rfl rfl rfl (.inl rfl) ?_;cases WJ l p s r
 ·simp only[QVT,QWg,Qa,seval]
 simp only[QWo,QWn,Qa,seval];refine Qb (Hj kd) rfl rfl rfl (.inl rfl) ?_;cases tx:X8 kd
 ·simp only[QU5,QM,eE,seval];cases a2:(t==[])
  ·simp only[QVT,QWg,Qa,seval]
  have e:t=[]:=by simpa using a2
  subst e;have k7:(kd != 7)=true:=by
   simp only[X8,QVF,QWs]at tx;simp[tx.1]
  have d0:decide (((0:Nat):Int)≤4096)=true:=rfl;simp only[k7,QVI,QWo,QWn,QVZ,QWq,Qa,seval];unfold Yl;by_cases h1:kd=1
  ·subst h1;have b1:((1:Int)==1)=true:=rfl;simp only[b1,eE,seval]
  ·have b1:(kd==1)=false:=by simp[h1]
   by_cases h2:kd=2
   ·subst h2;have b2:((2:Int)==2)=true:=rfl;simp only[b1,b2,h1,eE,seval];cases hd:decide (IntKind.i64.wrap (b:Int)≥-2147483648)<;>simp only[QWn,QWg,Qa,seval]
   ·have b2:(kd==2)=false:=by simp[h2]
    by_cases h4:kd=4
    ·subst h4;have b4:((4:Int)==4)=true:=rfl;simp only[b1,b2,b4,h1,h2,eE,seval]
    ·have b4:(kd==4)=false:=by simp[h4]
     by_cases h9:kd=9
     ·subst h9;have b9:((9:Int)==9)=true:=rfl;simp only[b1,b2,b9,b4,h1,h2,h4,eE,seval]
     ·have b9:(kd==9)=false:=by simp[h9]
      simp only[b1,b2,b9,b4,h1,h2,h4,h9,Qa,seval]
 ·simp only[eE,seval];cases a2:((b:Int)==0)
  ·simp only[QWg,Qa,seval]
  have hfn:Yl kd b=true:=by
   simp only[X8,QUQ,QUS]at tx;rcases tx with rfl|rfl<;>rfl
  cases a3:decide ((t.length:Int)≤4096)
  ·simp only[a3,hfn,QWg,QWE,eE,seval]
  simp only[X8,QUQ,QUS]at tx;rcases tx with rfl|rfl
  ·have c8:((7:Int)==8)=false:=rfl;have c7:((7:Int) != 7)=false:=rfl;simp only[a3,c8,c7,hfn,QWn,QWr,eE,seval];refine Qb (VH t ht) rfl rfl rfl (.inl rfl) ?_;simp only[Qa,seval]
  ·have c8:((8:Int)==8)=true:=rfl;have c7:((8:Int) != 7)=true:=rfl;simp only[a3,c8,c7,hfn,QWq,eE,seval]

end

section
variable {M:Nat}(P:PL)(hP:P.ok M)(k tg kd:Int)(b:Nat)(t:List UInt8)(l p s r:List AV)(ht:t.length+8≤maxLen)(hs:s.length≤140737488351232)(hr:r.length≤140737488351232)

include hP ht hs hr in
theorem QPk:Qj Tryz.prog 190 [P.av,.int .i64 k,.int .i64 tg,vo kd b t l p s r] (.int .i64 (Ub P k tg kd b t l p s r)):=by
 have e0:P.av=.agg [.list (P.progs.map Qn),.list (P.enums.map Qr)]:=rfl;have ho:=z59 kd b t l p s r hs hr;have hf:=QPj k kd b t l p s r ht;have ha:=Qve P hP tg b;simp only[vo]at ho hf;simp only[e0]at ha;refine QLQ.fn (by simp) ?_;simp only[e0,vo,Ub,eE,seval];cases a1:(kd != k)
 ·simp only[QWr,eE,seval];refine Qb ho rfl rfl rfl (.inl rfl) ?_;cases oth kd b t l p s r
  ·simp only[QU5,eE,seval];cases a2:decide ((t.length:Int) > 4096)
   ·simp only[QU5,Qa,seval];cases a3:(k==7)
    ·simp only[QWg,QU5,eE,seval];refine Qb hf rfl rfl rfl (.inl rfl) ?_;cases Xx k kd b t l p s r
     ·simp only[QVT,Qa,seval]
     ·simp only[QWo,QU5,Qa,seval];cases a4:(k==9)
      ·simp only[QWg,QU5,Qa,seval]
      ·simp only[QWn,eE,seval];refine Qb ha rfl rfl rfl (.inl rfl) ?_;cases Wk P.enums tg b<;>simp only[QVT,QWo,QU5,Qa,seval]
    ·simp only[QWn,eE,seval];refine Qb (VH t ht) rfl rfl rfl (.inl rfl) ?_;cases U8 t
     ·simp only[QVT,Qa,seval]
     ·have a4:(k==9)=false:=by
       rw[QUS]at a3;subst a3;rfl
      simp only[QWo,QU5,eE,seval];refine Qb hf rfl rfl rfl (.inl rfl) ?_;cases Xx k kd b t l p s r
      ·simp only[QVT,Qa,seval]
      ·simp only[QWo,a4,QWg,QU5,Qa,seval]
   ·simp only[Qa,seval]
  ·simp only[Qa,seval]
 ·simp only[QWq,Qa,seval]

end

def kv (k:Int)(b:Nat)(t:List UInt8):AV:=.agg [.int .i64 k,.int .u64 (b:Nat),.str t,.list [],.list [],.list [],.list []]
def X4 (k:Int):Prop:=(1≤k∧k≤5)∨k=7

theorem X4.isk {k:Int}(h:X4 k):isk k=true:=by
 rcases h with h|rfl
 ·simp[Va.isk];omega
 ·rfl

theorem Gu:∀s:List UInt8,Op.bytesLess s s=false
 | []=>rfl
 |a :: l=>by simp[Op.bytesLess,Gu l]

theorem Qvm (a:Int):Qj Tryz.prog 188 [.int .i64 a] (.bool false):=by
 refine QgH.fn (by simp) ?_;simp only[bne_self_eq_false,Qa,seval]

theorem Qvn (a:Int):Qj Tryz.prog 298 [.int .u64 a] (.bool false):=by
 refine QNF.fn (by simp) ?_;simp only[bne_self_eq_false,Qa,seval]

theorem Qvo (a:List UInt8):Qj Tryz.prog 297 [.str a] (.bool false):=by
 have e:QM .neq a a=some (.bool false):=by simp[QM]
 refine QNC.fn (by simp) ?_;simp only[e,Qa,seval]

def cN (a b:Int):Int:=if a<b then -1 else if b<a then 1 else 0
theorem UH {a b:Int}:cN a b=0↔a=b:=by
 unfold cN;split
 ·omega
 ·split<;>omega

theorem VY (a b:Int):Qj Tryz.prog 102 [.int .i64 a,.int .i64 b] (.int .i64 (cN a b)):=by
 refine Qbx.fn (by simp) ?_;simp only[Qa,seval];refine Qb (Qvm a) rfl rfl rfl (.inl rfl) ?_;simp only[Qa,seval];refine Qb (Qvm b) rfl rfl rfl (.inl rfl) ?_;simp only[Qa,seval];by_cases h1:a<b
 ·have d1:decide (a<b)=true:=by simpa using h1
  simp only[d1,cN,QVf h1,Qa,seval]
 ·have d1:decide (a<b)=false:=by simpa using h1
  by_cases h2:b<a
  ·have d2:decide (a > b)=true:=by simpa using h2
   simp only[d1,d2,cN,QU0 h1,QVf h2,Qa,seval]
  ·have d2:decide (a > b)=false:=by simpa using h2
   simp only[d1,d2,cN,QU0 h1,QU0 h2,Qa,seval]

theorem QPl (a b:Int):Qj Tryz.prog 285 [.int .u64 a,.int .u64 b] (.int .i64 (cN a b)):=by
 refine QNt.fn (by simp) ?_;simp only[Qa,seval];refine Qb (Qvn a) rfl rfl rfl (.inl rfl) ?_;simp only[Qa,seval];refine Qb (Qvn b) rfl rfl rfl (.inl rfl) ?_;simp only[Qa,seval];by_cases h1:a<b
 ·have d1:decide (a<b)=true:=by simpa using h1
  simp only[d1,cN,QVf h1,Qa,seval]
 ·have d1:decide (a<b)=false:=by simpa using h1
  by_cases h2:b<a
  ·have d2:decide (a > b)=true:=by simpa using h2
   simp only[d1,d2,cN,QU0 h1,QVf h2,Qa,seval]
  ·have d2:decide (a > b)=false:=by simpa using h2
   simp only[d1,d2,cN,QU0 h1,QU0 h2,Qa,seval]

def cS (a b:List UInt8):Int:=if Op.bytesLess a b=true then -1 else if a==b then 0 else 1
theorem NR {a b:List UInt8}:cS a b=0↔a=b:=by
 unfold cS
 constructor
 ·intro h;split at h
  ·omega
  ·split at h
   ·rename_i h2;simpa using h2
   ·omega
 ·rintro rfl;simp[Gu]

theorem QPm (a b:List UInt8):Qj Tryz.prog 284 [.str a,.str b] (.int .i64 (cS a b)):=by
 refine QNq.fn (by simp) ?_;simp only[Qa,seval];refine Qb (Qvo a) rfl rfl rfl (.inl rfl) ?_;simp only[Qa,seval];refine Qb (Qvo b) rfl rfl rfl (.inl rfl) ?_;simp only[QM,cS,Qa,seval];cases h1:Op.bytesLess a b
 ·cases h2:(a==b)<;>simp only[QM,h1,h2,QWr,QWo,QVT,QU5,Qa,seval]
 ·simp only[Qa,seval]

def Ha (k:Int)(a:Nat)(s:List UInt8)(b:Nat)(t:List UInt8):Int :=
 if X8 k=true then cS s t else if (k==2||k==3)=true then cN (IntKind.i64.wrap (a:Int)) (IntKind.i64.wrap (b:Int))else cN (a:Int) (b:Int)

theorem QPn (k:Int)(hk:X4 k)(a b:Nat)(s t:List UInt8):Qj Tryz.prog 258 [kv k a s,kv k b t] (.int .i64 (Ha k a s b t)):=by
 have hi:=hk.isk;have k6:(k==6)=false:=by
  rcases hk with h|rfl
  ·simp;omega
  ·rfl
 refine QM5.fn (by simp) ?_;simp only[kv,Ha,bne_self_eq_false,eE,seval];refine Qb (FY k) rfl rfl rfl (.inl rfl) ?_;simp only[hi,eE,seval];refine Qb (QuS k) rfl rfl rfl (.inl rfl) ?_;cases h1:X8 k
 ·simp only[QU5,eE,seval];cases h2:(k==2)
  ·cases h3:(k==3)
   ·simp only[h3,k6,QWF,QU5,eE,seval];refine Qb (QPl _ _) rfl rfl rfl (.inl rfl) ?_;simp only[Qa,seval]
   ·simp only[h3,QWr,eE,seval];refine Qb (VY _ _) rfl rfl rfl (.inl rfl) ?_;simp only[Qa,seval]
  ·simp only[QWq,eE,seval];refine Qb (VY _ _) rfl rfl rfl (.inl rfl) ?_;simp only[Qa,seval]
 ·simp only[eE,seval];refine Qb (QPm s t) rfl rfl rfl (.inl rfl) ?_;simp only[Qa,seval]

theorem Qvp (k:Int)(hk:X4 k)(b:Nat)(t:List UInt8):Qj Tryz.prog 257 [kv k b t] (.iface 218 (kv k b t)):=by
 have hi:=hk.isk;refine QM2.fn (by simp) ?_;simp only[kv,eE,seval];refine Qb (FY k) rfl rfl rfl (.inl rfl) ?_;simp only[hi,eE,seval]

theorem Qvq (k:Int)(hk:X4 k)(a b:Nat)(s t:List UInt8):Qj Tryz.prog 227 [kv k a s,kv k b t] (.int .i64 (Ha k a s b t)):=by
 have h1:=Qvp k hk a s;have h2:=Qvp k hk b t;have h3:=QPn k hk a b s t;simp only[kv]at h1 h2 h3;refine QMz.fn (by simp) ?_;simp only[kv,bne_self_eq_false,eE,seval];refine Qb h2 rfl rfl rfl (.inl rfl) ?_;simp only[eE,seval];refine Qb h1 rfl rfl rfl (.inl rfl) ?_;simp only[eE,seval];refine Qb h3 rfl rfl rfl (.inl rfl) ?_;simp only[Qa,seval]

theorem QPo (k:Int)(hk:X4 k)(a b:Nat)(s t:List UInt8):Qj Tryz.prog 228 [kv k a s,kv k b t] (.bool (Ha k a s b t==0)):=by
 have h1:=Qvq k hk a b s t;simp only[kv]at h1;refine QMC.fn (by simp) ?_;simp only[kv,eE,seval];refine Qb h1 rfl rfl rfl (.inl rfl) ?_;simp only[Qa,seval]

def J7 (k:Int)(b:Nat):Int:=if (k==2||k==3)=true then IntKind.u64.wrap ((b:Int)+9223372036854775808)else(b:Int)

theorem QPp (k:Int):Qj Tryz.prog 288 [.int .i64 k] (.bool (k==2||k==3)):=by
 refine QNw.fn (by simp) ?_;simp only[Qa,seval];cases h:(k==2)<;>simp only[QWq,QWr,Qa,seval]

theorem Qvr (k:Int)(k6:(k != 6)=true)(b:Nat)(t:List UInt8):Qj Tryz.prog 270 [kv k b t] (.int .u64 (J7 k b)):=by
 refine QM8.fn (by simp) ?_;simp only[kv,eE,seval];refine Qb (QPp k) rfl rfl rfl (.inl rfl) ?_;unfold J7;cases h1:(k==2||k==3)
 ·simp only[k6,QU5,eE,seval]
 ·simp only[eE,seval]

def Ug (k:Int)(a:Nat)(s:List UInt8)(b:Nat)(t:List UInt8):Int:=if X8 k=true then cS s t else cN (J7 k a) (J7 k b)

theorem QPq (k:Int)(hk:X4 k)(a b:Nat)(s t:List UInt8):Qj Tryz.prog 238 [kv k a s,kv k b t] (.int .i64 (Ug k a s b t)):=by
 have hi:=hk.isk;have k6:(k != 6)=true:=by
  rcases hk with h|rfl
  ·simp;omega
  ·rfl
 have d1:decide (k<k)=false:=by simp
 have d2:decide (k > k)=false:=by simp
 have hr:=Qvr k k6 a s;have hq:=Qvr k k6 b t;simp only[kv]at hr hq;refine QMF.fn (by simp) ?_;simp only[kv,Ug,d1,eE,seval];refine Qb (VD k) rfl rfl rfl (.inl rfl) ?_;simp only[hi,eE,seval];refine Qb (Hj k) rfl rfl rfl (.inl rfl) ?_;cases h2:X8 k
 ·simp only[QU5,eE,seval];refine Qb (Hj k) rfl rfl rfl (.inl rfl) ?_;simp only[h2,eE,seval];refine Qb (Hj k) rfl rfl rfl (.inl rfl) ?_;simp only[h2,eE,seval];refine Qb hr rfl rfl rfl (.inl rfl) ?_;simp only[eE,seval];refine Qb hq rfl rfl rfl (.inl rfl) ?_;simp only[Qa,seval];by_cases c1:J7 k a<J7 k b
  ·have e1:decide (J7 k a<J7 k b)=true:=QWC c1;simp only[e1,cN,QVf c1,Qa,seval]
  ·have e1:decide (J7 k a<J7 k b)=false:=QWx c1;simp only[e1,cN,QU0 c1,eE,seval];refine Qb hr rfl rfl rfl (.inl rfl) ?_;simp only[eE,seval];refine Qb hq rfl rfl rfl (.inl rfl) ?_;by_cases c2:J7 k b<J7 k a
   ·have e2:decide (J7 k a > J7 k b)=true:=QWC c2;simp only[e2,QVf c2,Qa,seval]
   ·have e2:decide (J7 k a > J7 k b)=false:=QWx c2;simp only[e2,QU0 c2,Qa,seval]
 ·simp only[QM,cS,eE,seval];cases h1:Op.bytesLess s t
  ·simp only[QU5,eE,seval];refine Qb (Hj k) rfl rfl rfl (.inl rfl) ?_;cases h3:(s==t)
   ·simp only[h1,h2,h3,QM,QWr,QVT,QU5,eE,seval]
   ·simp only[h1,h2,h3,QM,QWr,QWo,eE,seval];refine Qb (Hj k) rfl rfl rfl (.inl rfl) ?_;simp only[h2,Qa,seval]
  ·simp only[Qa,seval]

theorem Qvs (k:Int)(hk:X4 k)(a b:Nat)(s t:List UInt8):Qj Tryz.prog 192 [kv k a s,kv k b t] (.int .i64 (Ug k a s b t)):=by
 have b1:(k==11)=false:=by rcases hk with h|rfl<;>simp<;>omega
 have b2:(k==12)=false:=by rcases hk with h|rfl<;>simp<;>omega
 have b3:(k==10)=false:=by rcases hk with h|rfl<;>simp<;>omega
 have hr:=QPq k hk a b s t;simp only[kv]at hr;refine QLW.fn (by simp) ?_;simp only[kv,bne_self_eq_false,b1,b2,b3,eE,seval];refine Qb hr rfl rfl rfl (.inl rfl) ?_;simp only[Qa,seval]

theorem QPr (k:Int)(hk:X4 k)(a b:Nat)(s t:List UInt8):Qj Tryz.prog 191 [kv k a s,kv k b t] (.bool (Ug k a s b t==0)):=by
 have hr:=Qvs k hk a b s t;simp only[kv]at hr;refine QLT.fn (by simp) ?_;simp only[kv,eE,seval];refine Qb hr rfl rfl rfl (.inl rfl) ?_;simp only[Qa,seval]

theorem Z4 {v:V}{P:PL}{k tg:Int}(h:v.one P k tg=0):v.av=kv k v.bits v.text∧(X8 k=true→(v.bits:Int)=0)∧(X8 k=false→v.text=[]):=by
 obtain⟨h1,_,h3⟩:=Uc h;rw[Gs,h1];rw[h1]at h3;unfold Xx WJ at h3;simp only[QVa,QUS]at h3;obtain⟨⟨⟨⟨⟨_,⟨⟨⟨e1,e2⟩,e3⟩,e4⟩⟩,h4⟩,_⟩,_⟩,_⟩:=h3;have f1:=QWM.1 (Int.ofNat_eq_zero.1 e1);have f2:=QWM.1 (Int.ofNat_eq_zero.1 e2);have f3:=QWM.1 (Int.ofNat_eq_zero.1 e3);have f4:=QWM.1 (Int.ofNat_eq_zero.1 e4);rw[f1,f2,f3,f4];refine⟨rfl,fun ht=>?_,fun ht=>?_⟩
 ·rw[QVf ht]at h4;simpa using h4
 ·rw[QU0 (by simp[ht])]at h4;simpa using h4

theorem LC {x y:V}{P:PL}{k tg:Int}(_hk:X4 k)(hx:x.one P k tg=0)(hy:y.one P k tg=0)(bx:x.bits<18446744073709551616)(bY:y.bits<18446744073709551616):(Ha k x.bits x.text y.bits y.text==0)=ZE x y:=by
 obtain⟨_,x1,x2⟩:=Z4 hx;obtain⟨_,y1,y2⟩:=Z4 hy;rw[QVG,QUS];unfold ZE Ha;simp only[QVa,QUS];split
 ·rename_i ht;have:=x1 ht;have:=y1 ht;rw[NR];exact⟨fun h=>⟨by omega,h⟩,fun h=>h.2⟩
 ·rename_i ht;have ht:X8 k=false:=by simpa using ht
  rw[x2 ht,y2 ht];split
  ·rw[UH,QG,QG];exact⟨fun h=>⟨by omega,rfl⟩,fun h=>by rw[h.1]⟩
  ·rw[UH];exact⟨fun h=>⟨by omega,rfl⟩,fun h=>by rw[h.1]⟩

theorem NS {x y:V}{P:PL}{k tg:Int}(_hk:X4 k)(hx:x.one P k tg=0)(hy:y.one P k tg=0)(bx:x.bits<18446744073709551616)(bY:y.bits<18446744073709551616):(Ug k x.bits x.text y.bits y.text==0)=ZE x y:=by
 obtain⟨_,x1,x2⟩:=Z4 hx;obtain⟨_,y1,y2⟩:=Z4 hy;rw[QVG,QUS];unfold ZE Ug;simp only[QVa,QUS];split
 ·rename_i ht;have:=x1 ht;have:=y1 ht;rw[NR];exact⟨fun h=>⟨by omega,h⟩,fun h=>h.2⟩
 ·rename_i ht;have ht:X8 k=false:=by simpa using ht
  rw[x2 ht,y2 ht];unfold J7;split
  ·rw[UH,Ja,Ja];exact⟨fun h=>⟨by omega,rfl⟩,fun h=>by rw[h.1]⟩
  ·rw[UH];exact⟨fun h=>⟨by omega,rfl⟩,fun h=>by rw[h.1]⟩

open Up

def vc (x:V):List AV:=[.int .i64 x.kd,.int .u64 (x.bits:Nat),.str x.text,.list (x.list.map V.av),.list (x.pairs.map V.pav),.list (x.slots.map V.sav),.list (x.raws.map R.av)]
theorem Qy (x:V):x.av=.agg [.int .i64 x.kd,.int .u64 (x.bits:Nat),.str x.text,.list (x.list.map V.av),.list (x.pairs.map V.pav),.list (x.slots.map V.sav),.list (x.raws.map R.av)]:=by
 rw[V.av,V.eta]
theorem J2 (p:V×V):V.pav p=.agg [.int .i64 p.1.kd,.int .u64 (p.1.bits:Nat),.str p.1.text,.list (p.1.list.map V.av),.list (p.1.pairs.map V.pav),.list (p.1.slots.map V.sav),.list (p.1.raws.map R.av),.int .i64 p.2.kd,.int .u64 (p.2.bits:Nat),.str p.2.text,.list (p.2.list.map V.av),.list (p.2.pairs.map V.pav),.list (p.2.slots.map V.sav),.list (p.2.raws.map R.av)]:=by
 rw[V.pav,V.eta,V.eta];rfl
theorem ZQ (s:Int×V):V.sav s=.agg [.int .i64 s.1,.int .i64 s.2.kd,.int .u64 (s.2.bits:Nat),.str s.2.text,.list (s.2.list.map V.av),.list (s.2.pairs.map V.pav),.list (s.2.slots.map V.sav),.list (s.2.raws.map R.av)]:=by
 rw[V.sav,V.eta]
theorem Yu {l:List V}{i:Nat}{x:V}(h:l[i]? = some x):(l.map V.av)[i]? = some (.agg [.int .i64 x.kd,.int .u64 (x.bits:Nat),.str x.text,.list (x.list.map V.av),.list (x.pairs.map V.pav),.list (x.slots.map V.sav),.list (x.raws.map R.av)]):=by
 rw[QV9,h,QVC,Qy]
theorem Jw {l:List (V×V)}{i:Nat}{p:V×V}(h:l[i]? = some p):(l.map V.pav)[i]? = some (.agg [.int .i64 p.1.kd,.int .u64 (p.1.bits:Nat),.str p.1.text,.list (p.1.list.map V.av),.list (p.1.pairs.map V.pav),.list (p.1.slots.map V.sav),.list (p.1.raws.map R.av),.int .i64 p.2.kd,.int .u64 (p.2.bits:Nat),.str p.2.text,.list (p.2.list.map V.av),.list (p.2.pairs.map V.pav),.list (p.2.slots.map V.sav),.list (p.2.raws.map R.av)]):=by
 rw[QV9,h,QVC,J2]
theorem Kp {l:List (Int×V)}{i:Nat}{s:Int×V}(h:l[i]? = some s):(l.map V.sav)[i]? = some (.agg [.int .i64 s.1,.int .i64 s.2.kd,.int .u64 (s.2.bits:Nat),.str s.2.text,.list (s.2.list.map V.av),.list (s.2.pairs.map V.pav),.list (s.2.slots.map V.sav),.list (s.2.raws.map R.av)]):=by
 rw[QV9,h,QVC,ZQ]

structure UO (P:PL)(o:PO):Prop where
 tgt:o.kind=10→0≤o.target∧o.target<(P.progs.length:Int)
 enm:o.kind=9→0≤o.target∧o.target<(P.enums.length:Int)
 key:o.card=5→X4 o.key
def YO (P:PL):Prop:=∀g∈P.progs,∀o∈g.ops,UO P o

theorem Bj {P:PL}(h:ck P=0):YO P:=by
 unfold ck at h;split at h
 ·omega
 split at h
 ·omega
 split at h
 ·omega
 split at h
 ·omega
 split at h
 ·omega
 split at h
 ·omega
 rename_i ha;have ha:args P=true:=by simpa using ha
 intro g hg o ho;unfold args at ha;simp only[QVa,QUY]at ha;have h1:=ha.1 g hg;unfold ZY at h1;simp only[QVa,QUY]at h1;have h2:=(h1.2 o ho).1;unfold X3 at h2;simp only[QVa,QUR]at h2;obtain⟨⟨_,hk⟩,hm⟩:=h2;refine⟨fun h=>?_,fun h=>?_,fun h=>?_⟩
 ·unfold Gl at hm;rw[QVf h]at hm;simp only[QVa,QUR]at hm;exact hm.1
 ·unfold Gl at hm;rw[QU0 (by omega),QVf h]at hm;simp only[QVa,QUR]at hm;exact hm
 ·unfold Va.key at hk;rw[QVf h]at hk;simp only[QVa,QUR,QVc]at hk;unfold X4;omega

section
variable {M:Nat}{P:PL}(hP:P.ok M)(hM:M≤140737488351232){m:PG→V→Int}{lv lv1:Int}(hw:IntKind.i64.wrap (lv+1)=lv1)

include hP hM in
theorem SJ (k tg:Int){v:V}(hv:v.ok M):Qj Tryz.prog 190 [P.av,.int .i64 k,.int .i64 tg,v.av] (.int .i64 (v.one P k tg)):=by
 rw[Gs];exact QPk P hP k tg _ _ _ _ _ _ _ (by have:=hv.text;simp only[maxLen];omega) (by have:=hv.ns;simp;omega) (by have:=hv.nr;simp;omega)

include hP hM hw in
theorem QPs (hm:∀(t:Int) (g:PG),P.progs[t.toNat]? = some g→0≤t→∀v:V,v.ok M→Qj Tryz.prog 31 [P.av,.int .i64 t,v.av,.int .i64 lv1] (.int .i64 (m g v)))(o:PO)(ho:UO P o)(v:V)(hv:v.ok M) :
  Qj Tryz.prog 111 [P.av,Qt o,v.av,.int .i64 lv] (.int .i64 (QT m P o v)):=by
 have e0:P.av=.agg [.list (P.progs.map Qn),.list (P.enums.map Qr)]:=rfl;have h1:=SJ hP hM o.kind o.target hv;rw[e0,Qy]at h1;rw[Qy];refine QKb.fn (by simp) ?_;simp only[e0,Qt,PO.cells,QT,eE,seval];by_cases hk:o.kind=10
 ·have b:(o.kind==10)=true:=by simp[hk]
  obtain⟨t0,t1⟩:=ho.tgt hk;obtain⟨g,hg⟩:∃g,P.progs[o.target.toNat]? = some g:=⟨P.progs[o.target.toNat]'(by omega),QUN (by omega)⟩;have hq:Q8 P o.target=g:=by unfold Q8;rw[hg];rfl
  have h2:=hm o.target g hg t0 v hv;rw[e0,Qy]at h2;rw[QVf hk,hq];simp only[b,hw,eE,seval];refine Qb h2 rfl rfl rfl (.inl rfl) ?_;simp only[Qa,seval]
 ·have b:(o.kind==10)=false:=by simp[hk]
  rw[QU0 hk];simp only[b,eE,seval];refine Qb h1 rfl rfl rfl (.inl rfl) ?_;simp only[Qa,seval]

end

section pairs
variable (L:List (V×V))(hl:L.length≤maxLen)(p:V×V→Bool)(c:Nat)(cap:AV)(m:Qp)

end pairs

section slots
variable (L:List (Int×V))(hl:L.length≤maxLen)(p:Int×V→Bool)(c:Nat)(cap:AV)(m:Qp)

end slots

theorem JO {M:Nat}{v:V}(h:v.ok M):v.bits<18446744073709551616:=by
 have:=HY h.bits;omega

section
variable {M:Nat}{P:PL}(hP:P.ok M)(hM:M≤140737488351232){m:PG→V→Int}{lv:Int}(o:PO)(ho:UO P o)(h5:o.card=5)(ps:List (V×V))(hn:ps.length≤maxLen)(hk:∀x∈ps,x.1.ok M)(hv:∀x∈ps,x.2.ok M)

theorem M1 {k:Int}(kk:X4 k)(i:Nat)(x:V×V)(hi:ps[i]? = some x)(hz:x.1.one P k (-1)=0)(hks:∀j y,j<i→ps[j]? = some y→y.1.one P k (-1)=0)(hn:ps.length≤maxLen)(hk:∀x∈ps,x.1.ok M)(f:Fr)(fr:Nat→Ob)(lv:Int)(h2:f 2=.list (ps.map V.pav))(h3:f 3=.int .i64 lv)(h4:f 4=.ptr 0 4 0)(h5:f 5=.ptr 0 5 0)(h9:f 9=.int .i64 (i:Nat))(h11:f 11=.int .i64 0)(Q:Exit→St→Prop)
  (q1:(ps.take i).any (fun q=>ZE q.1 x.1)=true→∀f,f 8=.int .i64 9→Q .ret (⟨f,[fr],[]⟩:St))
  (q2:(ps.take i).any (fun q=>ZE q.1 x.1)=false→∀f,f 2=.list (ps.map V.pav)→f 3=.int .i64 lv→f 4=.ptr 0 4 0→f 5=.ptr 0 5 0→f 9=.int .i64 (i:Nat)→Q (.exit 2) (⟨f,[fr],[]⟩:St)) :
  QI Tryz.prog (.loop Mq) ⟨f,[fr],[]⟩ Q:=by
 let I:Nat→St→Prop:=fun k st=>∃f j,st=⟨f,[fr],[]⟩∧k=i-j∧j≤i∧(ps.take j).any (fun q=>ZE q.1 x.1)=false∧f 2=.list (ps.map V.pav)∧f 3=.int .i64 lv∧f 4=.ptr 0 4 0∧f 5=.ptr 0 5 0∧f 9=.int .i64 (i:Nat)∧f 11=.int .i64 (j:Nat)
 refine Qd I _ ⟨f,0,rfl,rfl,QUU _,by simp,h2,h3,h4,h5,h9,h11⟩ ?_;clear h2 h3 h4 h5 h9 h11;rintro _ st ⟨f,j,rfl,rfl,hji,ha,h2,h3,h4,h5,h9,h11⟩;have hil:=(QUM.1 hi).1;simp only[h9,h11,Qa,seval];by_cases hlt:j<i
 ·obtain⟨y,hj⟩:∃y,ps[j]? = some y:=⟨ps[j]'(by omega),QUN (by omega)⟩;have hg:=Jw hj;have hgi:=Jw hi;have e1:=Qq j i hlt (by omega);have hy:=hks j y hlt hj;have h:=QPr k kk y.1.bits x.1.bits y.1.text x.1.text;rw[←(Z4 hy).1,←(Z4 hz).1,NS kk hy hz (JO (hk y (QUZ hj))) (JO (hk x (QUZ hi))),Qy,Qy]at h;have ht:(ps.take (j+1)).any (fun q=>ZE q.1 x.1)=ZE y.1 x.1:=by
   rw[QWu,hj,List.any_append,ha];simp
  simp only[Qm hlt,Qi,QWd,Qc,hg,hgi,h2,h9,h11,QVj,QVU,QVt,eE,seval];refine Qb h rfl rfl rfl (.inl rfl) ?_;cases hq:ZE y.1 x.1
  ·simp only[h11,e1,Qa,seval];exact⟨i-(j+1),by omega,_,j+1,rfl,rfl,by omega,by rw[ht,hq],(by exact h2),(by exact h3),(by exact h4),(by exact h5),(by exact h9),(by rfl)⟩
  ·simp only[Qa,seval];refine q1 ?_ _ (by rfl);refine QWA.2 ⟨y,?_,hq⟩;exact QUZ (i:=j) (by rw[QVp,QVf hlt];exact hj)
 ·have e:j=i:=by omega
  subst e;simp only[QB hlt,Qa,seval];exact q2 ha _ (by exact h2) (by exact h3) (by exact h4) (by exact h5) (by exact h9)

def QaI (m:PG→V→Int)(P:PL)(lv:Int)(o:PO)(ps:List (V×V))(k:Nat)(st:St):Prop :=
 ∃f fr i,st=⟨f,[fr],[]⟩∧k=ps.length-i∧XM (Yp m P o ps) ps.length 0=XM (Yp m P o ps) (ps.length-i) i∧(∀j y,j<i→ps[j]? = some y→y.1.one P o.key (-1)=0)∧f 2=.list (ps.map V.pav)∧f 3=.int .i64 lv∧f 4=.ptr 0 4 0∧f 5=.ptr 0 5 0∧f 9=.int .i64 (i:Nat)∧fr 4=.cells [.list (P.progs.map Qn),.list (P.enums.map Qr)]∧fr 5=.cells o.cells

include hP hM ho h5 hn hk hv in
theorem QPt (hel:∀v:V,v.ok M→Qj Tryz.prog 111 [P.av,Qt o,v.av,.int .i64 lv] (.int .i64 (QT m P o v))) :
  Qj Tryz.prog 110 [P.av,Qt o,.list (ps.map V.pav),.int .i64 lv] (.int .i64 (XM (Yp m P o ps) ps.length 0)):=by
 have e0:P.av=.agg [.list (P.progs.map Qn),.list (P.enums.map Qr)]:=rfl;have kk:=ho.key h5;refine QJ8.fn (by simp) ?_;simp only[e0,Qt,PO.cells,eE,seval];refine Qd (QaI m P lv o ps) _ ⟨_,_,0,rfl,rfl,rfl,(by intro j y h;omega),(by rfl),(by rfl),(by rfl),(by rfl),(by rfl),(by rfl),(by rfl)⟩ ?_;rintro _ st ⟨f,fr,i,rfl,rfl,hx,hks,h2,h3,h4,h5',h9,m4,m5⟩;have m5':=m5;simp only[PO.cells]at m5;simp only[QVH,h2,h9,Qa,seval];by_cases hlt:i<ps.length
 ·obtain⟨x,hi⟩:∃x,ps[i]? = some x:=⟨ps[i],QUN hlt⟩;have hxm:=QUZ hi;have hg:=Jw hi;have e1:=Qq i _ hlt hn;have c1:=SJ hP hM o.key (-1) (hk x hxm);have c2:=hel x.2 (hv x hxm);rw[e0,Qy]at c1 c2;simp only[Qt,PO.cells]at c2;simp only[Qm hlt,Qi,QWd,Qc,hg,QVj,QVU,QVt,h2,h4,h5',h9,m4,m5,eE,seval];refine Qb c1 rfl rfl rfl (.inl rfl) ?_;by_cases hz:x.1.one P o.key (-1)=0
  ·have d0:((0:Int) != 0)=false:=rfl;simp only[hz,d0,Qa,seval];refine M1 ps kk i x hi hz hks hn hk _ _ lv (by exact h2) (by exact h3) (by exact h4) (by exact h5') (by exact h9) (by rfl) _ (fun ha f h8=>?_) (fun ha f h2 h3 h4 h5' h9=>?_)
   ·rw[KA hlt (v:=9) (by rw[UD hi,QVf hz,ha,QVf rfl]) (by decide)]at hx;simp only[hx,h8,Qa,seval]
   ·have he:Yp m P o ps i=QT m P o x.2:=by rw[UD hi,QVf hz,ha,QU0 (by simp)]
    simp only[Qi,QWd,Qc,hg,QVj,QVm,QVt,h2,h3,h4,h5',h9,m4,m5,eE,seval];refine Qb c2 rfl rfl rfl (.inl rfl) ?_;by_cases hy:QT m P o x.2=0
    ·rw[Gr hlt (he.trans hy)]at hx;simp only[hy,d0,h9,e1,Qa,seval];refine⟨ps.length-(i+1),by omega,_,_,i+1,rfl,rfl,hx,?_,(by exact h2),(by exact h3),(by exact h4),(by exact h5'),(by rfl),(by exact m4),(by exact m5')⟩;intro j y hj hjy;by_cases e:j=i
     ·subst e;rw[hi]at hjy;cases hjy;exact hz
     ·exact hks j y (by omega) hjy
    ·rw[KA hlt he hy]at hx;have d1:(QT m P o x.2 != 0)=true:=by simp[hy]
     simp only[d1,hx,Qa,seval]
  ·rw[KA hlt ((UD hi).trans (QU0 hz)) hz]at hx;have d1:(x.1.one P o.key (-1) != 0)=true:=by simp[hz]
   simp only[d1,hx,Qa,seval]
 ·rw[UB hlt]at hx;simp only[QB hlt,hx,Qa,seval]

end

section
variable {M:Nat}{P:PL}(hP:P.ok M)(hM:M≤140737488351232){m:PG→V→Int}{lv:Int}(o:PO)(ho:UO P o)(v:V)(hv:v.ok M)

include hv in
theorem VZ:Qj Tryz.prog 59 [v.av] (.bool v.oth):=by
 rw[Gs];exact z59 _ _ _ _ _ _ _ (by have:=hv.ns;simp;omega) (by have:=hv.nr;simp;omega)

def CoI (m:PG→V→Int)(P:PL)(lv:Int)(o:PO)(v:V)(k:Nat)(st:St):Prop :=
 ∃f fr i,st=⟨f,[fr],[]⟩∧k=v.list.length-i∧XM (Dc m P o v.list) v.list.length 0=XM (Dc m P o v.list) (v.list.length-i) i∧f 3=.int .i64 lv∧f 4=.ptr 0 4 0∧f 5=.ptr 0 5 0∧f 6=.ptr 0 6 0∧f 9=.int .i64 (i:Nat)∧fr 4=.cells [.list (P.progs.map Qn),.list (P.enums.map Qr)]∧fr 5=.cells o.cells∧fr 6=.cells (vc v)

include hP hM ho hv in
theorem v61 (hel:∀v:V,v.ok M→Qj Tryz.prog 111 [P.av,Qt o,v.av,.int .i64 lv] (.int .i64 (QT m P o v))) :
  Qj Tryz.prog 61 [P.av,Qt o,v.av,.int .i64 lv] (.int .i64 (Xc m P o v)):=by
 have e0:P.av=.agg [.list (P.progs.map Qn),.list (P.enums.map Qr)]:=rfl;have co:=VZ v hv;have ce:=fun h5=>QPt hP hM o ho h5 v.pairs (by have:=hv.np;simp only[maxLen];omega) hv.keys hv.vals hel
 have cv:=hel v hv;rw[e0,Qy]at cv;rw[Qy]at co;simp only[e0,Qt,PO.cells]at ce cv;rw[Qy];refine k61.fn (by simp) ?_;simp only[e0,Qt,PO.cells,eE,seval];unfold Xc;by_cases h5:o.card=5
 ·have b5:(o.card==5)=true:=by simp[h5]
  rw[QVf h5];simp only[b5,eE,seval];cases a1:(v.kd != 12)
  ·simp only[QWr,eE,seval];refine Qb co rfl rfl rfl (.inl rfl) ?_;cases a2:v.oth
   ·simp only[QU5,eE,seval];refine Qb (ce h5) rfl rfl rfl (.inl rfl) ?_;simp only[Qa,seval]
   ·simp only[Qa,seval]
  ·simp only[QWq,Qa,seval]
 ·have b5:(o.card==5)=false:=by simp[h5]
  rw[QU0 h5];by_cases h4:o.card=4
  ·have b4:(o.card==4)=true:=by simp[h4]
   rw[QVf h4];simp only[b5,b4,eE,seval];cases a1:(v.kd != 11)
   ·simp only[QWr,eE,seval];refine Qb co rfl rfl rfl (.inl rfl) ?_;cases a2:v.oth
    ·simp only[QU5,Qa,seval];refine Qd (CoI m P lv o v) _ ⟨_,_,0,rfl,rfl,rfl,(by rfl),(by rfl),(by rfl),(by rfl),(by rfl),(by rfl),(by rfl),(by rfl)⟩ ?_;rintro _ st ⟨f,fr,i,rfl,rfl,hx,h3,h4,h5,h6,h9,m4,m5,m6⟩;have m5':=m5;have m6':=m6;simp only[PO.cells]at m5;simp only[vc]at m6;simp only[QVH,h6,h9,m6,eE,seval];by_cases hlt:i<v.list.length
     ·obtain⟨x,hi⟩:∃x,v.list[i]? = some x:=⟨v.list[i],QUN hlt⟩;have hg:=Yu hi;have e1:=Qq i _ hlt (by have:=hv.nl;simp only[maxLen];omega);have c2:=hel x (hv.list x (QUZ hi));rw[e0,Qy]at c2;simp only[Qt,PO.cells]at c2;simp only[Qm hlt,Qi,QWd,Qc,hg,QVj,QVt,h3,h4,h5,h6,h9,m4,m5,m6,eE,seval];refine Qb c2 rfl rfl rfl (.inl rfl) ?_;by_cases hy:QT m P o x=0
      ·rw[Gr hlt ((UE hi).trans hy)]at hx;have d0:((0:Int) != 0)=false:=rfl;simp only[hy,d0,h9,e1,Qa,seval];exact⟨v.list.length-(i+1),by omega,_,_,i+1,rfl,rfl,hx,(by exact h3),(by exact h4),(by exact h5),(by exact h6),(by rfl),(by exact m4),(by exact m5'),(by exact m6')⟩
      ·rw[KA hlt (UE hi) hy]at hx;have d1:(QT m P o x != 0)=true:=by simp[hy]
       simp only[d1,hx,Qa,seval]
     ·rw[UB hlt]at hx;simp only[QB hlt,hx,Qa,seval]
    ·simp only[Qa,seval]
   ·simp only[QWq,Qa,seval]
  ·have b4:(o.card==4)=false:=by simp[h4]
   rw[QU0 h4];simp only[b5,b4,eE,seval];refine Qb cv rfl rfl rfl (.inl rfl) ?_;simp only[Qa,seval]

end

def WL (g:PG)(sl:List (Int×V))(i:Nat):Int:=match sl[i]? with
 |none=>0
 |some x=>match Zc g x.1 with
  |none=>8
  |some o=>if (sl.take i).any (fun y=>y.1==x.1)=true then 9 else if (sl.take i).any (Jv g o)=true then 15 else 0

theorem LD {m:PG→V→Int}{P:PL}{g:PG}{sl:List (Int×V)}{i:Nat}{x:Int×V}(h:sl[i]? = some x) :
  (WL g sl i≠0→Jo m P g sl i=WL g sl i)∧(WL g sl i=0→∃o,Zc g x.1=some o∧Jo m P g sl i=Xc m P o x.2):=by
 unfold WL Jo;rw[h];dsimp only;cases ho:Zc g x.1 with
 |none=>exact⟨fun _=>rfl,fun h=>by simp at h⟩
 |some o=>
  dsimp only;cases(sl.take i).any (fun y=>y.1==x.1)
  ·cases(sl.take i).any (Jv g o)
   ·simp
   ·simp
  ·simp

theorem ZF {g:PG}{n:Int}{o:PO}(h:Zc g n=some o):o∈g.ops∧o.num=n:=by
 unfold Zc at h;exact⟨QWB h,by simpa using List.find?_some h⟩

theorem K9 (g:PG)(n:Int):Gf (fun o=>o.num==n) g.ops=.tup [Qt ((Zc g n).getD Ge),.bool (Zc g n).isSome]:=rfl

section
variable {M:Nat}{P:PL}(hP:P.ok M)(hM:M≤140737488351232){m:PG→V→Int}{lv:Int}(g:PG)(hg:g.ok M)(hu:∀o∈g.ops,UO P o)(sl:List (Int×V))(hn:sl.length≤maxLen)(i:Nat)(hi:i<sl.length)(hv:∀x∈sl,x.2.ok M)

def SrI (g:PG)(o:PO)(sl:List (Int×V))(i:Nat)(n:Int)(k:Nat)(st:St):Prop :=
 ∃f fr j,st=⟨f,[fr],[]⟩∧k=i-j∧j≤i∧(sl.take j).any (fun y=>y.1==n)=false∧f 1=.list (sl.map V.sav)∧f 2=.int .i64 (i:Nat)∧f 3=.ptr 0 3 0∧f 7=.ptr 0 7 0∧f 9=.bool ((sl.take j).any (Jv g o))∧f 10=.int .i64 (j:Nat)∧fr 3=.cells g.cells∧fr 7=.cells o.cells∧∀s∈[11],(fr s).isRow=false

include hg hn hi in
theorem v60:Qj Tryz.prog 60 [Qn g,.list (sl.map V.sav),.int .i64 (i:Nat)] (.int .i64 (WL g sl i)):=by
 obtain⟨x,hx⟩:∃x,sl[i]? = some x:=⟨sl[i],QUN hi⟩;have hxm:=QUZ hx;have hgi:=Kp hx;have co:=fun n=>SH g hg.len n
 simp only[K9]at co;have co1:=co x.1;unfold WL;rw[hx];dsimp only;simp only[Qn,PG.cells]at co co1;refine k60.fn (by simp) ?_;simp only[Qn,PG.cells,Qi,QWd,Qc,hgi,QVj,QVt,eE,seval];refine Qb co1 rfl rfl rfl (.inl rfl) ?_;cases ho:Zc g x.1 with
 |none=>
  simp only[QWk,QVB,Ge,Qt,PO.cells,splice,QVU,QU9,QVm,QV0,QVP,QU1,QVI,QVX,QVY,AV.leaf,eE,seval]
 |some o=>
  obtain⟨hom,hon⟩:=ZF ho;simp only[QVW,QWy,Qt,PO.cells,splice,QVU,QU9,QVm,QV0,QVP,QU1,QVI,QVX,QVY,AV.leaf,eE,seval];refine Qd (SrI g o sl i x.1) _ ⟨_,_,0,rfl,rfl,QUU _,by simp,(by rfl),(by rfl),(by rfl),(by rfl),(by rfl),(by rfl),(by rfl),(by rfl),by simp<;>rfl⟩ ?_;rintro _ st ⟨f0,fr0,j,rfl,rfl,hji,hq,h10,h20,h30,h70,h90,h100,m30,m70,Z6⟩;refine QO (a:=_) [11] Z6 ?_;intro f fr hf hm hn11;have h1:f 1=.list (sl.map V.sav):=by rw[hf,h10]<;>rfl
  have h2:f 2=.int .i64 (i:Nat):=by rw[hf,h20]<;>rfl
  have h3:f 3=.ptr 0 3 0:=by rw[hf,h30]<;>rfl
  have h7:f 7=.ptr 0 7 0:=by rw[hf,h70]<;>rfl
  have h9:f 9=.bool ((sl.take j).any (Jv g o)):=by rw[hf,h90]<;>rfl
  have h10':f 10=.int .i64 (j:Nat):=by rw[hf,h100]<;>rfl
  have m3:fr 3=.cells g.cells:=by rw[hm 3 (by decide),m30]<;>rfl
  have m7:fr 7=.cells o.cells:=by rw[hm 7 (by decide),m70]<;>rfl
  have n11:=hn11 11 (by decide);clear hf hm hn11 h10 h20 h30 h70 h90 h100 m30 m70 Z6;have m3':=m3;have m7':=m7;simp only[PG.cells]at m3;simp only[PO.cells]at m7;simp only[h2,h10',Qa,seval];by_cases hlt:j<i
  ·obtain⟨y,hj⟩:∃y,sl[j]? = some y:=⟨sl[j]'(by omega),QUN (by omega)⟩;have hj':(sl.take i)[j]? = some y:=by rw[QVp,QVf hlt];exact hj
   have hgj:=Kp hj;have e1:=Qq j i hlt (by omega);have co2:=co y.1;have ht:∀p:Int×V→Bool,(sl.take (j+1)).any p=((sl.take j).any p||p y):=fun p=>by
    rw[QWu,hj,List.any_append];simp
   have hun:Jv g o y=(o.union != -1&&(((Zc g y.1).getD Ge).union==o.union)):=rfl;simp only[Qm hlt,Qi,QWd,Qc,hgj,hgi,h1,h2,h10',eE,seval];cases a0:(y.1==x.1)
   ·simp only[Qi,QWd,Qc,hgj,h1,h3,h10',m3,eE,seval];refine Qb co2 rfl rfl rfl (.inl rfl) ?_;generalize (Zc g y.1).getD Ge=q at hun;generalize (Zc g y.1).isSome=qb;have fin:∀(f':Fr) (fr':Nat→Ob) (b:Bool),((sl.take j).any (Jv g o)||Jv g o y)=b→f' 1=.list (sl.map V.sav)→f' 2=.int .i64 (i:Nat)→f' 3=.ptr 0 3 0→f' 7=.ptr 0 7 0→f' 9=.bool b→f' 10=.int .i64 ((j+1:Nat):Int)→fr' 3=.cells g.cells→fr' 7=.cells o.cells→(∀s∈[11],(fr' s).isRow=false)→∃k,k<i-j∧SrI g o sl i x.1 k ⟨f',[fr'],[]⟩:=by
     intro f' fr' b hu b1 b2 b3 b7 b9 b10 c3 c7 c11;exact⟨i-(j+1),by omega,f',fr',j+1,rfl,rfl,by omega,by rw[ht,hq,a0];rfl,b1,b2,b3,b7,by rw[b9,ht,hu],b10,c3,c7,c11⟩
    cases ab:(sl.take j).any (Jv g o)
    ·rw[ab]at h9 fin;cases a1:(o.union != -1)
     ·rw[a1,QWg]at hun;simp only[Qt,PO.cells,a1,n11,h7,h9,h10',m7,e1,eE,seval];exact fin _ _ false (by rw[hun];rfl) (by exact h1) (by exact h2) (by exact h3) (by exact h7) (by rfl) (by rfl) (by exact m3') (by exact m7') (by simp<;>rfl)
     ·cases a2:(q.union==o.union)
      ·rw[a1,a2,QWn]at hun;simp only[Qt,PO.cells,a1,a2,n11,h7,h9,h10',m7,e1,eE,seval];exact fin _ _ false (by rw[hun];rfl) (by exact h1) (by exact h2) (by exact h3) (by exact h7) (by rfl) (by rfl) (by exact m3') (by exact m7') (by simp<;>rfl)
      ·rw[a1,a2,QWn]at hun;simp only[Qt,PO.cells,a1,a2,n11,h7,h9,h10',m7,e1,eE,seval];exact fin _ _ true (by rw[hun];rfl) (by exact h1) (by exact h2) (by exact h3) (by exact h7) (by rfl) (by rfl) (by exact m3') (by exact m7') (by simp<;>rfl)
    ·rw[ab]at h9 fin;simp only[Qt,PO.cells,n11,h9,h10',e1,eE,seval];exact fin _ _ true (by simp) (by exact h1) (by exact h2) (by exact h3) (by exact h7) (by rfl) (by rfl) (by exact m3') (by exact m7') (by simp<;>rfl)
   ·have hany:(sl.take i).any (fun y=>y.1==x.1)=true:=QWA.2 ⟨y,QUZ hj',a0⟩;simp only[hany,Qa,seval]
  ·have e:j=i:=by omega
   subst e;simp only[QB hlt,hq,QU5,h9,Qa,seval];cases hb:(sl.take j).any (Jv g o)
   ·rw[hb]at h9;simp only[QU5,Qa,seval]
   ·rw[hb]at h9;simp only[Qa,seval]

end

def D0 (P:PL)(o:PO)(f:R):Bool:=o.kind==9&&o.card != 5&&f.wire==0&&decide ((f.bits:Int)≤2147483647) && !Wk P.enums o.target f.bits
def V0 (f:R):Bool:=decide (f.num<1)||decide (f.num > 65535)||decide (f.wire<0)||decide (f.wire > 6)
def V1 (f:R):Bool:=decide (f.wire≤2) && !(f.data==[])||decide (f.wire > 2) && !((f.bits:Int)==0)
def Dg (f:R):Bool:=f.wire==3&&decide ((f.data.length:Int) > 4096)||decide ((f.data.length:Int) > 65536)
theorem LE (P:PL)(g:PG)(f:R):KO P g f=if V0 f=true then 1 else if V1 f=true then 1 else if (!Gt P g f)=true then 1 else if Dg f=true then 3 else 0:=rfl
def UI (P:PL)(g:PG)(f:R):Bool:=!V0 f && !V1 f&&Gt P g f
theorem M2 (P:PL)(g:PG)(f:R):KO P g f=if (!UI P g f)=true then 1 else if Dg f=true then 3 else 0:=by
 rw[LE];unfold UI;cases V0 f<;>cases V1 f<;>cases Gt P g f<;>simp

section
variable {M:Nat}{P:PL}(hP:P.ok M)

theorem M3 {o:PO}{x:PE}(w:R)(ho:0≤o.target∧o.target<(P.enums.length:Int))(hx:P.enums[o.target.toNat]? = some x)(hopn:x.opn=true):D0 P o w=false:=by
 unfold D0;cases hb:decide ((w.bits:Int)≤2147483647)
 ·simp
 ·have:Wk P.enums o.target w.bits=true:=by
   unfold Wk;rw[QVf ⟨ho.1,ho.2,by have:=of_decide_eq_true hb;omega⟩,hx];simp[hopn]
  rw[this];simp

set_option maxHeartbeats 2000000 in
include hP in
theorem v63 (g:PG)(hg:g.ok M)(hu:∀o∈g.ops,UO P o)(w:R):Qj Tryz.prog 63 [P.av,Qn g,w.av] (.bool (UI P g w)):=by
 have e0:P.av=.agg [.list (P.progs.map Qn),.list (P.enums.map Qr)]:=rfl;have co:=SH g hg.len w.num;rw[K9]at co;simp only[Qn,PG.cells]at co;have nd:(w.data != [])=!(w.data==[]):=rfl;have nb:((w.bits:Int) != 0)=!((w.bits:Int)==0):=rfl;have hgt:decide (w.wire > 2)=!decide (w.wire≤2):=(by rw[QVG];simp only[QUR,QVK,QWD];omega);unfold UI V0 V1;rw[hgt];refine k63.fn (by simp) ?_;simp only[e0,Qn,PG.cells,R.av,eE,seval];cases r1:decide (w.num<1)
 case true=>simp only[QWq,QWo,QWg,Qa,seval]
 cases r2:decide (w.num > 65535)
 case true=>simp only[r2,QWq,QWr,QWo,QWg,eE,seval]
 cases r3:decide (w.wire<0)
 case true=>simp only[r2,r3,QWq,QWr,QWo,QWg,eE,seval]
 cases r4:decide (w.wire > 6)
 case true=>simp only[r2,r3,r4,QWr,QWo,QWg,eE,seval]
 simp only[r2,r3,r4,QWr,QVT,QWn,eE,seval];cases s1:decide (w.wire≤2)<;>cases s2:((w.bits:Int)==0)<;>cases s3:(w.data==[])
 all_goals(simp only[hgt,s1,s2,s3,nb,QM,QVT,QWo,QWn,QVZ,QWE,QWg,QWr,QWF,eE,seval])
 all_goals(
  refine Qb co rfl rfl rfl (.inl rfl) ?_;unfold Gt;cases ho:Zc g w.num with
  |none=>
   simp only[QWk,QVB,Ge,Qt,PO.cells,splice,QVU,QU9,QVm,QV0,QVP,QU1,QVI,QVX,QVY,AV.leaf,eE,seval]
  |some o=>
   have hom:=(ZF ho).1;have hu:=hu o hom;have ha:=Qve P hP o.target w.bits;rw[e0]at ha;simp only[QVW,QWy,Qt,PO.cells,splice,QVU,QU9,QVm,QV0,QVP,QU1,QVI,QVX,QVY,AV.leaf,eE,seval];by_cases hk:o.kind=9
   ·have a1:(o.kind==9)=true:=by simp[hk]
    obtain⟨t0,t1⟩:=hu.enm hk;obtain⟨i,hi⟩:=QWp t0;have hlt:i<P.enums.length:=by omega
    obtain⟨x,hx⟩:∃x,P.enums[i]? = some x:=⟨P.enums[i],QUN hlt⟩;have hxa:(P.enums.map Qr)[i]? = some (.agg x.cells):=by simp[hx,Qr]
    simp only[PE.cells]at hxa;have hop:x.opn=true→D0 P o w=false:=fun h=>M3 w ⟨t0,t1⟩ (by rw[hi,QWd];exact hx) h
    unfold D0 at hop;rw[hi]at ha hop;rw[hi];rw[a1,QWn]at hop;simp only[a1,Qi,QWd,Qc,hxa,QWn,eE,seval];cases ax:x.opn
    ·cases a2:(o.card != 5)
     ·simp only[a2,QVT,QWg,eE,seval]
     cases a3:(w.wire==0)
     ·simp only[a2,a3,QVT,QWn,QWg,eE,seval]
     cases a4:decide ((w.bits:Int)≤2147483647)
     ·simp only[a2,a3,a4,QVT,QWn,QWg,eE,seval]
     simp only[a2,a3,a4,QVT,QWn,eE,seval];refine Qb ha rfl rfl rfl (.inl rfl) ?_;simp only[Qa,seval]
    ·simp only[hop ax,QWo,Qa,seval]
   ·have a1:(o.kind==9)=false:=by simp[hk]
    simp only[a1,QWg,Qa,seval])

def SeI (v:V)(n:Int)(k:Nat)(st:St):Prop :=
 ∃f fr i,st=⟨f,[fr],[]⟩∧k=v.slots.length-i∧i≤v.slots.length∧(v.slots.take i).any (fun y=>y.1==n)=false∧f 1=.int .i64 n∧f 2=.ptr 0 2 0∧f 5=.int .i64 (i:Nat)∧fr 2=.cells (vc v)

theorem v62 (v:V)(hn:v.slots.length≤maxLen)(n:Int):Qj Tryz.prog 62 [v.av,.int .i64 n] (.bool (v.slots.any fun y=>y.1==n)):=by
 rw[Qy];refine k62.fn (by simp) ?_;simp only[eE,seval];refine Qd (SeI v n) _ ⟨_,_,0,rfl,rfl,QUU _,by simp,(by rfl),(by rfl),(by rfl),(by rfl)⟩ ?_;rintro _ st ⟨f,fr,i,rfl,rfl,hil,hq,h1,h2,h5,m2⟩;have m2':=m2;simp only[vc]at m2;simp only[QVH,h2,h5,m2,eE,seval];by_cases hlt:i<v.slots.length
 ·obtain⟨y,hi⟩:∃y,v.slots[i]? = some y:=⟨v.slots[i],QUN hlt⟩;have hg:=Kp hi;have e1:=Qq i _ hlt hn;have ht:(v.slots.take (i+1)).any (fun y=>y.1==n)=(y.1==n):=by
   rw[QWu,hi,List.any_append,hq];simp
  simp only[Qm hlt,Qi,QWd,Qc,hg,h1,h2,h5,m2,eE,seval];cases a:(y.1==n)
  ·simp only[h5,e1,Qa,seval];exact⟨v.slots.length-(i+1),by omega,_,_,i+1,rfl,rfl,by omega,by rw[ht,a],(by exact h1),(by exact h2),(by rfl),(by exact m2')⟩
  ·have hany:(v.slots.any fun y=>y.1==n)=true:=QWA.2 ⟨y,QUZ hi,a⟩;simp only[hany,Qa,seval]
 ·have hq':(v.slots.any fun y=>y.1==n)=false:=by rw[←hq,QVk (by omega)]
  simp only[QB hlt,hq',Qa,seval]

end

def Ht (sl:List (Int×V))(o:PO):Bool:=o.card==1 && !sl.any fun y=>y.1==o.num
theorem NT (g:PG)(sl:List (Int×V)):Yq g sl=g.ops.any (Ht sl):=rfl

theorem Dh {l:List R}{i:Nat}{x:R}(h:l[i]? = some x):(l.map R.av)[i]? = some (.agg [.int .i64 x.num,.int .i64 x.wire,.int .u64 (x.bits:Nat),.str x.data]):=by
 rw[QV9,h,QVC,R.av]
theorem QPu {l:List PO}{i:Nat}{o:PO}(h:l[i]? = some o):(l.map fun o=>AV.agg o.cells)[i]? = some (.agg [.int .i64 o.num,.str o.name,.str o.alias,.int .i64 o.card,.int .i64 o.key,.int .i64 o.kind,.int .i64 o.target,.int .i64 o.union]):=by
 rw[QV9,h,QVC,PO.cells]

section
variable {M:Nat}{P:PL}(hP:P.ok M){m:PG→V→Int}{lv:Int}(g:PG)(hg:g.ok M)(v:V)(hv:v.ok M)

end
open So

theorem W4 {f:Nat→Int}:∀ {k i:Nat},(∀j,i≤j→j<i+k→f j=0)→XM f k i=0
 |0,_,_=>rfl
 |k+1,i,h=>by
  rw[XM,QVf (h i (QUK _) (by omega))];exact W4 fun j h1 h2=>h j (by omega) (by omega)

theorem JP {α:Type}{l:List α}{p:α→Bool}{i:Nat}(hi:i≤l.length):(l.take i).any p=false↔∀j (h:j<i),p (l[j]'(by omega))=false:=by
 rw[List.any_eq_false]
 constructor
 ·intro h j hj;have:=h (l[j]'(by omega)) (QUZ (i:=j) (by rw[QVp,QVf hj,QUN (by omega)]))
  simpa using this
 ·intro h x hx;obtain⟨j,hj⟩:=QUX.1 hx;have hl:=(QUM.1 hj).1;rw[QVJ]at hl;rw[QVp,QVf (by omega)]at hj;obtain⟨hj1,rfl⟩:=QUM.1 hj;have:=h j (by omega);simp[this]

section
variable {m:PG→V→Int}{P:PL}

def SOK (m:PG→V→Int)(P:PL)(g:PG)(sl:List (Int×V)):Prop :=
 (∀x∈sl,∃o,Zc g x.1=some o∧Xc m P o x.2=0)∧sl.Pairwise (fun y x=>(y.1==x.1)=false)∧sl.Pairwise (fun y x=>∀o,Zc g x.1=some o→Jv g o y=false)

theorem LF {g:PG}{sl:List (Int×V)}:XM (Jo m P g sl) sl.length 0=0↔SOK m P g sl:=by
 have key:∀i (hi:i<sl.length),Jo m P g sl i=0↔∃o,Zc g sl[i].1=some o∧(sl.take i).any (fun y=>y.1==sl[i].1)=false∧(sl.take i).any (Jv g o)=false∧Xc m P o sl[i].2=0:=by
  intro i hi;unfold Jo;rw[QUN hi];dsimp only;cases Zc g sl[i].1 with
  |none=>simp
  |some o=>
   simp only[QVb,exists_eq_left'];cases(sl.take i).any (fun y=>y.1==sl[i].1)<;>cases(sl.take i).any (Jv g o)<;>simp only[QU5,QWH,if_true,if_false,QVD,false_and,iff_false]<;>omega
 constructor
 ·intro h;have hz:∀i (hi:i<sl.length),_:=fun i hi=>(key i hi).1 (Wl h i (QUU _) (by omega))
  refine⟨fun x hx=>?_,?_,?_⟩
  ·obtain⟨i,hi,rfl⟩:=QWN hx;obtain⟨o,h1,_,_,h4⟩:=hz i hi;exact⟨o,h1,h4⟩
  ·rw[QWJ];intro i j hi hj hij;obtain⟨o,_,h2,_,_⟩:=hz j hj;exact(JP (by omega)).1 h2 i hij
  ·rw[QWJ];intro i j hi hj hij o ho;obtain⟨o',h1,_,h3,_⟩:=hz j hj;rw[h1]at ho;cases ho;exact(JP (by omega)).1 h3 i hij
 ·rintro⟨h1,h2,h3⟩;refine W4 fun i _ hi=>?_
  rw[QVs]at hi;obtain⟨o,ho,hf⟩:=h1 sl[i] (QVE hi);rw[QWJ]at h2 h3;exact(key i hi).2 ⟨o,ho,(JP (by omega)).2 fun j hj=>h2 j i (by omega) hi hj,(JP (by omega)).2 fun j hj=>h3 j i (by omega) hi hj o ho,hf⟩

def EOK (m:PG→V→Int)(P:PL)(o:PO)(ps:List (V×V)):Prop :=
 (∀x∈ps,x.1.one P o.key (-1)=0∧QT m P o x.2=0)∧ps.Pairwise fun q p=>ZE q.1 p.1=false

theorem Wa {o:PO}{ps:List (V×V)}:XM (Yp m P o ps) ps.length 0=0↔EOK m P o ps:=by
 have key:∀i (hi:i<ps.length),Yp m P o ps i=0↔(ps[i].1.one P o.key (-1)=0∧(ps.take i).any (fun q=>ZE q.1 ps[i].1)=false∧QT m P o ps[i].2=0):=by
  intro i hi;rw[UD (QUN hi)];by_cases hz:ps[i].1.one P o.key (-1)=0
  ·rw[QVf hz];cases(ps.take i).any (fun q=>ZE q.1 ps[i].1)<;>simp[hz]
  ·rw[QU0 hz];simp[hz]
 constructor
 ·intro h;have hz:∀i (hi:i<ps.length),_:=fun i hi=>(key i hi).1 (Wl h i (QUU _) (by omega))
  refine⟨fun x hx=>?_,?_⟩
  ·obtain⟨i,hi,rfl⟩:=QWN hx;exact⟨(hz i hi).1,(hz i hi).2.2⟩
  ·rw[QWJ];intro i j hi hj hij;exact(JP (by omega)).1 (hz j hj).2.1 i hij
 ·rintro⟨h1,h2⟩;refine W4 fun i _ hi=>?_
  rw[QVs]at hi;rw[QWJ]at h2;exact(key i hi).2 ⟨(h1 _ (QVE hi)).1,(JP (by omega)).2 fun j hj=>h2 j i (by omega) hi hj,(h1 _ (QVE hi)).2⟩

theorem Kq {o:PO}{l:List V}:XM (Dc m P o l) l.length 0=0↔∀x∈l,QT m P o x=0:=by
 constructor
 ·intro h x hx;obtain⟨i,hi,rfl⟩:=QWN hx;have:=Wl h i (QUU _) (by omega)
  rwa [UE (QUN hi)]at this
 ·intro h;refine W4 fun i _ hi=>?_
  rw[QVs]at hi;rw[UE (QUN hi)];exact h _ (QVE hi)
theorem LG {g:PG}{l:List R}:XM (Jp P g l) l.length 0=0↔∀x∈l,KO P g x=0:=by
 constructor
 ·intro h x hx;obtain⟨i,hi,rfl⟩:=QWN hx;have:=Wl h i (QUU _) (by omega)
  rwa [Hq (QUN hi)]at this
 ·intro h;refine W4 fun i _ hi=>?_
  rw[QVs]at hi;rw[Hq (QUN hi)];exact h _ (QVE hi)

theorem Wq {g:PG}{v:V}:UC m P g v=0↔SOK m P g v.slots∧Yq g v.slots=false∧∀x∈v.raws,KO P g x=0:=by
 unfold UC;rw[←LF,←LG];split
 ·rename_i h;cases Yq g v.slots<;>simp[h]
 ·rename_i h;simp[h]
end

theorem Kr {P:PL}{n:Nat}{g:PG}{v:V}:XU P (n+1) g v=0↔(v.kd=10∧v.oth=false)∧SOK (XU P n) P g v.slots∧Yq g v.slots=false∧∀x∈v.raws,KO P g x=0:=by
 rw[←Wq];unfold XU;by_cases h:v.kd=10
 ·cases ho:v.oth<;>simp[h]
 ·simp[h]

theorem Bk {v:V}(h:v.kd≠6):v.nsc=v:=by
 cases v;unfold V.nsc XD;rw[QU0 fun g=>h g.1];rfl
theorem QFL {P:PL}{tg:Int}{t:List UInt8}{l p s r:List AV}(b b':Nat):Ub P 6 tg 6 b t l p s r=Ub P 6 tg 6 b' t l p s r:=by
 have k1:(X8 6||(6:Int)==10||(6:Int)==11||(6:Int)==12)=false:=by decide
 have k2:((6:Int)==9)=false:=rfl;have t6:X8 6=false:=rfl;have f6:∀b,Yl 6 b=true:=fun b=>by
  unfold Yl;rw[QU0 (by decide),QU0 (by decide),QU0 (by decide),QU0 (by decide)]
 have h1:oth 6 b t l p s r=oth 6 b' t l p s r:=by
  unfold oth;rw[k1,QWE,QWE]
 have h2:Xx 6 6 b t l p s r=Xx 6 6 b' t l p s r:=by
  unfold Xx;rw[f6,f6,QU0 (by rw[t6];exact Bool.false_ne_true),QU0 (by rw[t6];exact Bool.false_ne_true)]
 unfold Ub;rw[h1,h2,k2,QWg,QWg]
theorem NU {P:PL}{k tg:Int}{v:V}(h:v.one P k tg=0):v.nsc.one P k tg=0:=by
 by_cases hk:v.kd=6
 ·have e:=(Uc h).1;rw[←h];unfold V.one;have e1:v.nsc.kd=6:=hk;rw[e1,hk,show k=6 by omega];exact QFL _ _
 ·rw[Bk hk];exact h

theorem Ze {g:PG}(hd:g.ops.Pairwise fun a b=>a.num<b.num){o:PO}(ho:o∈g.ops):Zc g o.num=some o:=by
 unfold Zc
 revert hd ho
 generalize g.ops=ops;intro hd ho
 induction ops with
 |nil=>cases ho
 |cons x l ih=>
  obtain⟨h1,h2⟩:=QWj.1 hd;rw[List.find?_cons];rcases QV8.1 ho with rfl|ho
  ·simp
  ·have:=h1 o ho;rw[show(x.num==o.num)=false by simp;omega];exact ih h2 ho

section
variable {m:PG→V→Int}{nm:PG→V→V}{P:PL}

theorem Hu (h:∀g∈P.progs,∀v,m g v=0→m g (nm g v)=0){o:PO}(ho:UO P o){v:V}(hv:QT m P o v=0):QT m P o (Zu nm P o v)=0:=by
 unfold QT Zu at *;by_cases hk:o.kind=10
 ·rw[QVf hk]at hv;rw[QVf hk,QVf hk];obtain⟨t0,t1⟩:=ho.tgt hk;refine h _ ?_ _ hv;unfold Q8;rw[QUN (by omega:o.target.toNat<P.progs.length)];exact QVE _
 ·rw[QU0 hk]at hv;rw[QU0 hk,QU0 hk];exact NU hv

theorem M4 {o:PO}(ho:o.card=5→X4 o.key)(h5:o.card=5){ps:List (V×V)}(h:EOK m P o ps):∀p∈ps,p.1.nsc=p.1:=by
 intro p hp;have e:=(Uc (h.1 p hp).1).1;refine Bk ?_;have:=ho h5;unfold X4 at this;omega

theorem Rp (h:∀g∈P.progs,∀v,m g v=0→m g (nm g v)=0){o:PO}(ho:UO P o){v:V}(hv:Xc m P o v=0):Xc m P o (ZL nm P o v)=0:=by
 unfold Xc ZL at *;by_cases h5:o.card=5
 ·have n4:¬o.card=4:=by omega
  rw[QVf h5]at hv;rw[QVf h5,QU0 n4,QVf h5];split at hv
  ·omega
  have hE:=Wa.1 hv;have hk:=M4 ho.key h5 hE;rw[QU0 (by simp[V.kd,V.oth,oth,V.bits,V.text,V.list,V.pairs,V.slots,V.raws,X8])];refine Wa.2 ?_;have hp:(Xe o.key v.pairs).Perm v.pairs:=Xa _;have hm:∀p∈Xe o.key v.pairs,p∈v.pairs:=fun p h=>hp.mem_iff.1 h
  refine⟨fun x hx=>?_,?_⟩
  ·obtain⟨p,hp,rfl⟩:=QV6.1 hx;have h1:=hE.1 p (hm p hp);exact⟨NU h1.1,Hu h ho h1.2⟩
  ·show(List.map _ (Xe o.key v.pairs)).Pairwise _;rw[List.pairwise_map];have h2:(Xe o.key v.pairs).Pairwise fun q p=>ZE q.1 p.1=false:=(hp.pairwise_iff fun {a b} h=>by unfold ZE at *;rw[←h,Bool.beq_comm (a:=b.1.bits),Bool.beq_comm (a:=b.1.text)]).2 hE.2
   refine h2.imp_of_mem fun {a b} ha hb h=>?_
   dsimp only;rw[hk a (hm a ha),hk b (hm b hb)];exact h
 ·rw[QU0 h5]at hv;rw[QU0 h5];by_cases h4:o.card=4
  ·rw[QVf h4]at hv;rw[QVf h4,QVf h4];split at hv
   ·omega
   have hL:=Kq.1 hv;rw[QU0 (by simp[V.kd,V.oth,oth,V.bits,V.text,V.list,V.pairs,V.slots,V.raws,X8])];refine Kq.2 fun x hx=>?_
   obtain⟨y,hy,rfl⟩:=QV6.1 hx;exact Hu h ho (hL y hy)
  ·rw[QU0 h4]at hv;rw[QU0 h4,QU0 h4,QU0 h5];exact Hu h ho hv

theorem ZM {sl:List (Int×V)}{o:PO}{x:Int×V}(h:x∈Xv nm P sl o):x.1=o.num∧∃s∈sl,s.1=o.num∧x.2=ZL nm P o s.2:=by
 unfold Xv at h;cases hf:sl.find? (fun s=>s.1==o.num)with
 |none=>rw[hf]at h;cases h
 |some s=>
  rw[hf]at h;dsimp only at h;have h1:s.1=o.num:=by simpa using List.find?_some hf
  split at h
  ·simp only[QV8,QWO,or_false]at h;subst h;exact⟨rfl,s,QWB hf,h1,rfl⟩
  ·cases h

theorem Hv {sl:List (Int×V)}{o:PO}{p:Int×V→Int×V→Prop}:(Xv nm P sl o).Pairwise p:=by
 unfold Xv;split
 ·exact .nil
 ·split
  ·exact List.pairwise_singleton _ _
  ·exact .nil

theorem M5 (h:∀g∈P.progs,∀v,m g v=0→m g (nm g v)=0){g:PG}(hd:g.ops.Pairwise fun a b=>a.num<b.num)(hu:∀o∈g.ops,UO P o){v:V}(hv:UC m P g v=0):UC m P g (Hs nm P g v)=0:=by
 obtain⟨⟨s1,s2,s3⟩,hmis,hraw⟩:=Wq.1 hv;have uniq:∀ {a b:Int×V},a∈v.slots→b∈v.slots→a.1=b.1→a=b:=by
  intro a b ha hb e;obtain⟨i,hi,rfl⟩:=QWN ha;obtain⟨j,hj,rfl⟩:=QWN hb;rw[QWJ]at s2;rcases Nat.lt_trichotomy i j with c|c|c
  ·have:=s2 i j hi hj c;rw[e]at this;simp at this
  ·subst c;rfl
  ·have:=s2 j i hj hi c;rw[e]at this;simp at this
 refine Wq.2 ⟨⟨fun x hx=>?_,?_,?_⟩,?_,fun x hx=>?_⟩
 ·obtain⟨o,ho,hx⟩:=QVx.1 hx;obtain⟨e,s,hs,e1,e2⟩:=ZM hx;obtain⟨o',h1,h2⟩:=s1 s hs;rw[e1,Ze hd ho]at h1;cases h1;exact⟨o,by rw[e];exact Ze hd ho,by rw[e2];exact Rp h (hu o ho) h2⟩
 ·show(g.ops.flatMap (Xv nm P v.slots)).Pairwise _;rw[List.pairwise_flatMap];refine⟨fun _ _=>Hv,hd.imp fun {a b} hab x hx y hy=>?_⟩;have e1:=(ZM hx).1;have e2:=(ZM hy).1;simp;omega
 ·show(g.ops.flatMap (Xv nm P v.slots)).Pairwise _;rw[List.pairwise_flatMap];refine⟨fun _ _=>Hv,(hd.imp_of_mem fun {a b} ha hb hab x hx y hy o ho=>?_)⟩;obtain⟨e1,s,hs,es,_⟩:=ZM hx;obtain⟨e2,t,ht,et,_⟩:=ZM hy;rw[e2,Ze hd hb]at ho;cases ho;have hst:s≠t:=fun e=>by rw[e,et]at es;omega
  obtain⟨i,hi,rfl⟩:=QWN hs;obtain⟨j,hj,rfl⟩:=QWN ht;rw[QWJ]at s3;have hx1:Zc g x.1=some a:=by rw[e1];exact Ze hd ha
  unfold Jv;rw[hx1];rcases Nat.lt_trichotomy i j with c|c|c
  ·have:=s3 i j hi hj c b (by rw[et];exact Ze hd hb);unfold Jv at this;rw[es,Ze hd ha]at this;exact this
  ·subst c;exact absurd rfl hst
  ·have:=s3 j i hj hi c a (by rw[es];exact Ze hd ha);unfold Jv at this;rw[et,Ze hd hb]at this;simp only[QVW,Bool.and_eq_false_iff,bne_eq_false_iff_eq,QWs]at this ⊢;rcases this with e|e
   ·by_cases c:b.union = -1
    ·exact .inl c
    ·exact .inr fun g=>c (by omega)
   ·exact .inr fun g=>e g.symm
 ·have hm:=hmis;rw[NT,List.any_eq_false]at hm ⊢;intro o ho;have:=hm o ho;unfold Ht at this ⊢;by_cases hc:o.card=1
  ·have hb:(o.card==1)=true:=by simp[hc]
   rw[hb,QWn,Bool.not_eq_true,Bool.not_eq_false']at this;rw[hb,QWn,Bool.not_eq_true,Bool.not_eq_false'];obtain⟨s,hs,e⟩:=QWA.1 this;obtain⟨t,ht⟩:∃t,v.slots.find? (fun s=>s.1==o.num)=some t:=by
    cases hf:v.slots.find? (fun s=>s.1==o.num)with
    |none=>exact absurd e (by simpa using List.find?_eq_none.1 hf s hs)
    |some t=>exact⟨t,rfl⟩
   refine QWA.2 ⟨(o.num,ZL nm P o t.2),QVx.2 ⟨o,ho,?_⟩,by simp⟩;unfold Xv;rw[ht];dsimp only;rw[QVf (by simp[hc])];simp
  ·have hb:(o.card==1)=false:=by simp[hc]
   rw[hb,QWg];simp
 ·exact hraw x ((Xa v.raws).mem_iff.1 hx)

end

theorem Wr {P:PL}(hU:YO P)(hr:Kv P):∀(n:Nat) (g:PG),g∈P.progs→∀v:V,XU P n g v=0→XU P n g (Xd P n g v)=0
 |0,_,_,v,h=>by
  unfold XU at h;split at h<;>omega
 |n+1,g,hg,v,h=>by
  have hb:=Wq.2 (Kr.1 h).2;refine Kr.2 ⟨⟨rfl,?_⟩,Wq.1 (M5 (fun g hg v h=>Wr hU hr n g hg v h) (hr g hg) (hU g hg) hb)⟩;simp[V.oth,oth,Xd,Hs,V.kd,V.bits,V.text,V.list,V.pairs,V.slots,V.raws,X8]

section
variable {m:PG→V→Int}{nm:PG→V→V}{P:PL}

end

def JI (l:List (Int×V)):List (Int×V):=QE (fun x y=>decide (x.1<y.1)) l
theorem QPv:SW fun x y:Int×V=>decide (x.1<y.1) where
 irr x:=by simp
 tr x y z h k:=by simp only[QUR]at *;omega
 nt x y z h k:=by simp only[QWD]at *;omega

theorem M6:∀ {a b:List (Int×V)},(a.Pairwise fun x y=>x.1<y.1)→(b.Pairwise fun x y=>x.1<y.1)→(∀x,x∈a↔x∈b)→a=b
 | [],[],_,_,_=>rfl
 | [],y :: b,_,_,h=>by have:=(h y).2 (by simp);cases this
 |x :: a,[],_,_,h=>by have:=(h x).1 (by simp);cases this
 |x :: a,y :: b,ha,hb,h=>by
  obtain⟨a1,a2⟩:=QWj.1 ha;obtain⟨b1,b2⟩:=QWj.1 hb;have e:x=y:=by
   rcases QV8.1 ((h x).1 (by simp))with e|e
   ·exact e
   ·rcases QV8.1 ((h y).2 (by simp))with e'|e'
    ·exact e'.symm
    ·have:=b1 x e;have:=a1 y e';omega
  subst e;congr 1
  refine M6 a2 b2 fun z=>?_
  have hz:=h z;simp only[QV8]at hz
  constructor
  ·intro hm;rcases hz.1 (.inr hm)with e|e
   ·subst e;have:=a1 z hm;omega
   ·exact e
  ·intro hm;rcases hz.2 (.inr hm)with e|e
   ·subst e;have:=b1 z hm;omega
   ·exact e

section
variable {m:PG→V→Int}(nm:PG→V→V)(P:PL)

def Zw (o:PO)(s:Int×V):List (Int×V):=if (decide (o.card<3) || !(ZL nm P o s.2).emp)=true then [(o.num,ZL nm P o s.2)]else []
def Z5 (g:PG)(s:Int×V):List (Int×V):=match Zc g s.1 with
 |none=>[]
 |some o=>Zw nm P o s

theorem M7 {o:PO}{s x:Int×V}:x∈Zw nm P o s↔(decide (o.card<3) || !(ZL nm P o s.2).emp)=true∧x=(o.num,ZL nm P o s.2):=by
 unfold Zw;split
 ·rename_i h;simp[h]
 ·rename_i h;simp[h]

theorem M8 {sl:List (Int×V)}(hu:sl.Pairwise fun y x=>(y.1==x.1)=false){s:Int×V}(hs:s∈sl):sl.find? (fun t=>t.1==s.1)=some s:=by
 induction sl with
 |nil=>cases hs
 |cons x l ih=>
  obtain⟨h1,h2⟩:=QWj.1 hu;rw[List.find?_cons];rcases QV8.1 hs with rfl|hs
  ·simp
  ·rw[h1 s hs];exact ih h2 hs

theorem K4 {sl:List (Int×V)}{o:PO}:Xv nm P sl o=match sl.find? (fun s=>s.1==o.num)with
  |none=>[]
  |some s=>Zw nm P o s:=rfl

theorem Rq {g:PG}(hd:g.ops.Pairwise fun a b=>a.num<b.num){sl:List (Int×V)}(hu:sl.Pairwise fun y x=>(y.1==x.1)=false):(JI sl).flatMap (Z5 nm P g)=g.ops.flatMap (Xv nm P sl):=by
 have hp:(JI sl).Perm sl:=Xa _;have hsu:(JI sl).Pairwise fun y x=>(y.1==x.1)=false:=(hp.pairwise_iff fun {a b} h=>by rw[Bool.beq_comm];exact h).2 hu
 have hss:Zd (fun x y:Int×V=>decide (x.1<y.1)) (JI sl):=Zn QPv _;have hst:(JI sl).Pairwise fun x y=>x.1<y.1:=by
  unfold Zd at hss;rw[QWJ]at *;intro i j hi hj hij;have h1:=hss i j hi hj hij;have h2:=hsu i j hi hj hij;simp only[QWD,QWs]at h1 h2;omega
 have kpw:∀s,(Z5 nm P g s).Pairwise fun x y:Int×V=>x.1<y.1:=fun s=>by
  unfold Z5;split
  ·exact .nil
  ·unfold Zw;split
   ·exact List.pairwise_singleton _ _
   ·exact .nil
 have knum:∀ {s x:Int×V},x∈Z5 nm P g s→x.1=s.1:=fun {s x} h=>by
  unfold Z5 at h;cases ho:Zc g s.1 with
  |none=>rw[ho]at h;cases h
  |some o=>
   rw[ho]at h;rw[((M7 nm P).1 h).2];exact(ZF ho).2
 refine M6 ?_ ?_ fun x=>?_
 ·rw[List.pairwise_flatMap];refine⟨fun s _=>kpw s,hst.imp fun {a b} hab x hx y hy=>?_⟩;rw[knum hx,knum hy];exact hab
 ·rw[List.pairwise_flatMap];refine⟨fun _ _=>Hv,hd.imp fun {a b} hab x hx y hy=>?_⟩;rw[(ZM hx).1,(ZM hy).1];exact hab
 ·rw[QVx,QVx]
  constructor
  ·rintro⟨s,hs,h⟩;unfold Z5 at h;cases ho:Zc g s.1 with
   |none=>rw[ho]at h;cases h
   |some o=>
    rw[ho]at h;obtain⟨hom,hon⟩:=ZF ho;refine⟨o,hom,?_⟩;rw[K4,hon,M8 hu (hp.mem_iff.1 hs)];exact h
  ·rintro⟨o,ho,h⟩;rw[K4]at h;cases hf:sl.find? (fun s=>s.1==o.num)with
   |none=>rw[hf]at h;cases h
   |some s=>
    rw[hf]at h;have hs:s.1=o.num:=by simpa using List.find?_some hf
    refine⟨s,hp.mem_iff.2 (QWB hf),?_⟩;unfold Z5;rw[hs,Ze hd ho];exact h

def SK (o:PO)(sl:List (Int×V)):List (Int×V):=sl.flatMap fun s=>if (s.1==o.num)=true then Zw nm P o s else []
theorem Bl {o:PO}{sl:List (Int×V)}(hu:sl.Pairwise fun y x=>(y.1==x.1)=false):SK nm P o sl=Xv nm P sl o:=by
 rw[K4];unfold SK
 induction sl with
 |nil=>rfl
 |cons x l ih=>
  obtain⟨h1,h2⟩:=QWj.1 hu;rw[QWf,List.find?_cons];cases hx:(x.1==o.num)
  ·rw[QU0 (by simp),QU9];exact ih h2
  ·rw[QVf rfl];have e:x.1=o.num:=by simpa using hx
   have:l.flatMap (fun s=>if (s.1==o.num)=true then Zw nm P o s else [])=[]:=by
    rw[List.flatMap_eq_nil_iff];intro s hs;have:=h1 s hs;rw[e]at this;rw[QU0 (by rw[Bool.beq_comm];simp[this])]
   rw[this,QVP]

end
end Go.Proofs.YtipjfckmopekaaaGreatDoor.Va

namespace Go.Proofs.YtipjfckmopekaaaGreatDoor.Va
open Go Am Rc Bt Br Up

theorem Bm (a b:Int):IntKind.i64.wrap (IntKind.i64.wrap a+IntKind.i64.wrap b)=IntKind.i64.wrap (a+b):=by
 simp only[QG];omega
section
variable {M:Nat}

def C1I (v:V)(k:Nat)(st:St):Prop :=
 ∃f fr i,st=⟨f,[fr],[]⟩∧k=v.list.length-i∧i≤v.list.length∧f 1=.ptr 0 1 0∧f 3=.int .i64 (IntKind.i64.wrap ((1+v.raws.length+XN (v.list.take i):Nat):Int))∧f 4=.int .i64 (i:Nat)∧fr 1=.cells (vc v)
def C2I (v:V)(k:Nat)(st:St):Prop :=
 ∃f fr i,st=⟨f,[fr],[]⟩∧k=v.pairs.length-i∧i≤v.pairs.length∧f 1=.ptr 0 1 0∧f 3=.int .i64 (IntKind.i64.wrap ((1+v.raws.length+XN v.list+Xs (v.pairs.take i):Nat):Int))∧f 5=.int .i64 (i:Nat)∧fr 1=.cells (vc v)
def C3I (v:V)(k:Nat)(st:St):Prop :=
 ∃f fr i,st=⟨f,[fr],[]⟩∧k=v.slots.length-i∧i≤v.slots.length∧f 1=.ptr 0 1 0∧f 3=.int .i64 (IntKind.i64.wrap ((1+v.raws.length+XN v.list+Xs v.pairs+Xf (v.slots.take i):Nat):Int))∧f 6=.int .i64 (i:Nat)∧fr 1=.cells (vc v)

theorem v32 (v:V)(hv:v.ok M):Qj Tryz.prog 32 [v.av] (.int .i64 (IntKind.i64.wrap (v.cnt:Int))):=by
 revert hv
 refine V.ind (P:=fun v=>v.ok M→Qj Tryz.prog 32 [v.av] (.int .i64 (IntKind.i64.wrap (v.cnt:Int)))) ?_ v;clear v;intro v hl hp hs hv;have n1:=hv.nl;have n2:=hv.np;have n3:=hv.ns;rw[Qy];refine k32.fn (by simp) ?_;simp only[QVH,eE,seval];refine Qd (C1I v) _ ⟨_,_,0,rfl,rfl,QUU _,(by rfl),(by simp only[QVU,XN,QVh,Int.natCast_add,Int.natCast_one,Qa,seval]),(by rfl),(by rfl)⟩ ?_;rintro _ st ⟨f,fr,i,rfl,rfl,hil,h1,h3,h4,m1⟩;have m1':=m1;simp only[vc]at m1;simp only[QVH,h1,h4,m1,eE,seval];by_cases hlt:i<v.list.length
 ·obtain⟨x,hi⟩:∃x,v.list[i]? = some x:=⟨v.list[i],QUN hlt⟩;have hg:=Yu hi;have e1:=Qq i _ hlt (by simp only[maxLen];omega);have c1:=hl x (QUZ hi) (hv.list x (QUZ hi));rw[Qy]at c1;simp only[Qm hlt,Qi,QWd,Qc,hg,h1,h3,h4,m1,eE,seval];refine Qb c1 rfl rfl rfl (.inl rfl) ?_;simp only[h4,e1,Bm,Qa,seval];exact⟨v.list.length-(i+1),by omega,_,_,i+1,rfl,rfl,by omega,(by exact h1),(by rw[DK hi];simp only[h3,←Int.natCast_add,QUJ,Qa,seval]),(by rfl),(by exact m1')⟩
 have e:i=v.list.length:=by omega
 subst e;rw[QWl]at h3;simp only[QB hlt,Qa,seval];refine Qd (C2I v) _ ⟨_,_,0,rfl,rfl,QUU _,(by exact h1),(by simp only[QVU,Xs,QVh,h3,Qa,seval]),(by rfl),(by exact m1')⟩ ?_;clear h1 h3 h4 m1 m1' hlt hil;rintro _ st ⟨f,fr,i,rfl,rfl,hil,h1,h3,h5,m1⟩;have m1':=m1;simp only[vc]at m1;simp only[QVH,h1,h5,m1,eE,seval];by_cases hlt:i<v.pairs.length
 ·obtain⟨x,hi⟩:∃x,v.pairs[i]? = some x:=⟨v.pairs[i],QUN hlt⟩;have hg:=Jw hi;have e1:=Qq i _ hlt (by simp only[maxLen];omega);have hm:=QUZ hi;have c1:=(hp x hm).1 (hv.keys x hm);have c2:=(hp x hm).2 (hv.vals x hm);rw[Qy]at c1 c2;simp only[Qm hlt,Qi,QWd,Qc,hg,QVj,QVU,QVt,h1,h3,h5,m1,eE,seval];refine Qb c1 rfl rfl rfl (.inl rfl) ?_;simp only[Qi,QWd,Qc,hg,QVj,QVm,QVt,h1,h5,m1,eE,seval];refine Qb c2 rfl rfl rfl (.inl rfl) ?_;simp only[h5,e1,Bm,Qa,seval];exact⟨v.pairs.length-(i+1),by omega,_,_,i+1,rfl,rfl,by omega,(by exact h1),(by rw[DL hi];simp only[h3,←Int.natCast_add,QUJ,Qa,seval]),(by rfl),(by exact m1')⟩
 have e:i=v.pairs.length:=by omega
 subst e;rw[QWl]at h3;simp only[QB hlt,Qa,seval];refine Qd (C3I v) _ ⟨_,_,0,rfl,rfl,QUU _,(by exact h1),(by simp only[QVU,Xf,QVh,h3,Qa,seval]),(by rfl),(by exact m1')⟩ ?_;clear h1 h3 h5 m1 m1' hlt hil;rintro _ st ⟨f,fr,i,rfl,rfl,hil,h1,h3,h6,m1⟩;have m1':=m1;simp only[vc]at m1;simp only[QVH,h1,h6,m1,eE,seval];by_cases hlt:i<v.slots.length
 ·obtain⟨x,hi⟩:∃x,v.slots[i]? = some x:=⟨v.slots[i],QUN hlt⟩;have hg:=Kp hi;have e1:=Qq i _ hlt (by simp only[maxLen];omega);have hm:=QUZ hi;have c1:=hs x hm (hv.slots x hm);rw[Qy]at c1;simp only[Qm hlt,Qi,QWd,Qc,hg,QVj,QVm,QVt,h1,h3,h6,m1,eE,seval];refine Qb c1 rfl rfl rfl (.inl rfl) ?_;simp only[h6,e1,Bm,Qa,seval];exact⟨v.slots.length-(i+1),by omega,_,_,i+1,rfl,rfl,by omega,(by exact h1),(by rw[DM hi];simp only[h3,←Int.natCast_add,QUJ,Qa,seval]),(by rfl),(by exact m1')⟩
 have e:i=v.slots.length:=by omega
 subst e;rw[QWl]at h3;simp only[QB hlt,h3,Xh,Qa,seval]

end

theorem QP {P:Program}{K:St→Prop}{Qf:List Am.Item}{f:Fr}{m:Qp}{ds:List DF}{d sz len:Nat}{z y l:List AV}{ps:List (Nat×Nat×RA)}(hy:fill f ps (XC z sz len)=some y)(h1:AV.rfL y=true)(h2:y.all AV.leaf=true)(hc:XO sz len (y.map nn0)=l)(h:QF P Qf ⟨QJ f d (.list l),m,ds⟩ K) :
  QF P (⟨some d,.bsl sz len z ps,none⟩ :: Qf) ⟨f,m,ds⟩ K:=by
 subst hc;exact⟨y,hy,h1,h2,h⟩

theorem Qvu (l:List V):(l.map V.av).all (fun e=>e.cells.length==7)=true:=by
 rw[List.all_map,QUY];intro x _;simp[Qy,AV.cells]

end Go.Proofs.YtipjfckmopekaaaGreatDoor.Va

set_option linter.unusedVariables false
namespace Go.Proofs.YtipjfckmopekaaaGreatDoor.Tg
open Go Am

def SL (z sr ro sm is st:Nat):List Am.Item:=[
  ⟨(some 10),.val (.mov (.c (.int .i64 0))),none⟩]
def SM (z sr ro sm is st:Nat):List Am.Item:=[
  ⟨(some 11),.val (.mov (.t 10)),none⟩,
  ⟨(some 12),.val (.mov (.t 3)),none⟩,
  ⟨(some 13),.val (.bin .num .lss (.t 11) (.t 12)),none⟩]
def SN (z sr ro sm is st:Nat):List Am.Item:=[
  ⟨(some 16),.val (.mov (.t 0)),none⟩,
  ⟨(some 17),.val (.mov (.t 1)),none⟩,
  ⟨(some 18),.val (.mov (.t 10)),none⟩,
  ⟨(some 19),.val (.bin .num .add (.t 17) (.t 18)),none⟩,
  ⟨(some 20),.val (.mov (.t 0)),none⟩,
  ⟨(some 21),.val (.mov (.t 2)),none⟩,
  ⟨(some 22),.val (.mov (.t 10)),none⟩,
  ⟨(some 23),.val (.bin .num .add (.t 21) (.t 22)),none⟩,
  ⟨(some 24),.val (.mov (.t 0)),none⟩,
  ⟨(some 25),.val (.mov (.t 2)),none⟩,
  ⟨(some 26),.val (.mov (.t 10)),none⟩,
  ⟨(some 27),.val (.bin .num .add (.t 25) (.t 26)),none⟩,
  ⟨(some 28),.val (.iaddr z none (.t 24) (.t 27)),none⟩,
  ⟨(some 29),.val (.loadr (some z) (.t 28)),none⟩,
  ⟨(some 30),.val (.mov (.t 0)),none⟩,
  ⟨(some 31),.val (.mov (.t 1)),none⟩,
  ⟨(some 32),.val (.mov (.t 10)),none⟩,
  ⟨(some 33),.val (.bin .num .add (.t 31) (.t 32)),none⟩,
  ⟨(some 34),.val (.iaddr z none (.t 30) (.t 33)),none⟩,
  ⟨(some 35),.val (.loadr (some z) (.t 34)),none⟩,
  ⟨(some 36),.val (.iaddr z none (.t 16) (.t 19)),none⟩,
  ⟨none,.store z (.t 36) (.t 29),none⟩,
  ⟨(some 37),.val (.iaddr z none (.t 20) (.t 23)),none⟩,
  ⟨none,.store z (.t 37) (.t 35),none⟩]
def SO (z sr ro sm is st:Nat):List Am.Item:=[
  ⟨(some 14),.val (.mov (.t 10)),none⟩,
  ⟨(some 15),.val (.bin .num .add (.t 14) (.c (.int .i64 1))),none⟩,
  ⟨(some 10),.val (.mov (.t 15)),none⟩]
def SP (z sr ro sm is st:Nat):RC:=.seq (.seq (.reg (SM z sr ro sm is st)) (.cond (.t 13) (.skip) (.exit 0))) (.seq (.block 1 (.draw (SN z sr ro sm is st))) (.reg (SO z sr ro sm is st)))
def rsr (z sr ro sm is st:Nat):RC:=.seq (.reg (SL z sr ro sm is st)) (.block 0 (.loop (SP z sr ro sm is st)))
def osr:List RR:=[]

def SQ (z sr ro sm is st:Nat):List Am.Item:=[
  ⟨(some 12),.val (.mov (.t 2)),none⟩,
  ⟨(some 13),.val (.mov (.t 1)),none⟩,
  ⟨(some 14),.val (.bin .num .sub (.t 12) (.t 13)),none⟩,
  ⟨(some 10),.val (.mov (.t 14)),none⟩]
def SR (z sr ro sm is st:Nat):List Am.Item:=[
  ⟨(some 15),.val (.mov (.t 3)),none⟩,
  ⟨(some 16),.val (.mov (.t 2)),none⟩,
  ⟨(some 17),.val (.bin .num .sub (.t 15) (.t 16)),none⟩,
  ⟨(some 11),.val (.mov (.t 17)),none⟩]
def SS (z sr ro sm is st:Nat):List Am.Item:=[
  ⟨(some 18),.val (.mov (.t 10)),none⟩,
  ⟨(some 19),.val (.mov (.t 11)),none⟩,
  ⟨(some 20),.val (.bin .num .neq (.t 18) (.t 19)),none⟩]
def ST (z sr ro sm is st:Nat):List Am.Item:=[
  ⟨(some 21),.val (.mov (.t 10)),none⟩,
  ⟨(some 22),.val (.mov (.t 11)),none⟩,
  ⟨(some 23),.val (.bin .num .gtr (.t 21) (.t 22)),none⟩]
def SU (z sr ro sm is st:Nat):List Am.Item:=[
  ⟨(some 24),.val (.mov (.t 0)),none⟩,
  ⟨(some 25),.val (.mov (.t 2)),none⟩,
  ⟨(some 26),.val (.mov (.t 10)),none⟩,
  ⟨(some 27),.val (.bin .num .sub (.t 25) (.t 26)),none⟩,
  ⟨(some 28),.val (.mov (.t 2)),none⟩,
  ⟨(some 29),.val (.mov (.t 11)),none⟩,
  ⟨(some 30),.val (.mov (.t 4)),none⟩,
  ⟨(some 31),.callF (.f sr) [(.t 24),(.t 27),(.t 28),(.t 29),(.t 30)],none⟩]
def SX (z sr ro sm is st:Nat):List Am.Item:=[
  ⟨(some 32),.val (.mov (.t 10)),none⟩,
  ⟨(some 33),.val (.mov (.t 11)),none⟩,
  ⟨(some 34),.val (.bin .num .sub (.t 32) (.t 33)),none⟩,
  ⟨(some 10),.val (.mov (.t 34)),none⟩]
def SY (z sr ro sm is st:Nat):List Am.Item:=[
  ⟨(some 35),.val (.mov (.t 0)),none⟩,
  ⟨(some 36),.val (.mov (.t 2)),none⟩,
  ⟨(some 37),.val (.mov (.t 10)),none⟩,
  ⟨(some 38),.val (.bin .num .sub (.t 36) (.t 37)),none⟩,
  ⟨(some 39),.val (.mov (.t 2)),none⟩,
  ⟨(some 40),.val (.mov (.t 11)),none⟩,
  ⟨(some 41),.val (.bin .num .add (.t 39) (.t 40)),none⟩,
  ⟨(some 42),.val (.mov (.t 10)),none⟩,
  ⟨(some 43),.val (.bin .num .sub (.t 41) (.t 42)),none⟩,
  ⟨(some 44),.val (.mov (.t 10)),none⟩,
  ⟨(some 45),.val (.mov (.t 4)),none⟩,
  ⟨(some 46),.callF (.f sr) [(.t 35),(.t 38),(.t 43),(.t 44),(.t 45)],none⟩]
def SZ (z sr ro sm is st:Nat):List Am.Item:=[
  ⟨(some 47),.val (.mov (.t 11)),none⟩,
  ⟨(some 48),.val (.mov (.t 10)),none⟩,
  ⟨(some 49),.val (.bin .num .sub (.t 47) (.t 48)),none⟩,
  ⟨(some 11),.val (.mov (.t 49)),none⟩]
def S0 (z sr ro sm is st:Nat):RC:=.seq (.seq (.reg (SS z sr ro sm is st)) (.cond (.t 20) (.skip) (.exit 0))) (.block 1 (.seq (.reg (ST z sr ro sm is st)) (.cond (.t 23) (.seq (.reg (SU z sr ro sm is st)) (.reg (SX z sr ro sm is st))) (.seq (.reg (SY z sr ro sm is st)) (.reg (SZ z sr ro sm is st))))))
def S1 (z sr ro sm is st:Nat):List Am.Item:=[
  ⟨(some 50),.val (.mov (.t 0)),none⟩,
  ⟨(some 51),.val (.mov (.t 2)),none⟩,
  ⟨(some 52),.val (.mov (.t 10)),none⟩,
  ⟨(some 53),.val (.bin .num .sub (.t 51) (.t 52)),none⟩,
  ⟨(some 54),.val (.mov (.t 2)),none⟩,
  ⟨(some 55),.val (.mov (.t 10)),none⟩,
  ⟨(some 56),.val (.mov (.t 4)),none⟩,
  ⟨(some 57),.callF (.f sr) [(.t 50),(.t 53),(.t 54),(.t 55),(.t 56)],none⟩]
def rro (z sr ro sm is st:Nat):RC:=.seq (.reg (SQ z sr ro sm is st)) (.seq (.reg (SR z sr ro sm is st)) (.seq (.block 0 (.loop (S0 z sr ro sm is st))) (.reg (S1 z sr ro sm is st))))
def oro:List RR:=[]

def D1 (z sr ro sm is st:Nat):List Am.Item:=[
  ⟨(some 25),.val (.mov (.t 2)),none⟩,
  ⟨(some 26),.val (.mov (.t 1)),none⟩,
  ⟨(some 27),.val (.bin .num .sub (.t 25) (.t 26)),none⟩,
  ⟨(some 28),.val (.bin .num .eql (.t 27) (.c (.int .i64 1))),none⟩]
def V2 (z sr ro sm is st:Nat):List Am.Item:=[
  ⟨(some 29),.val (.mov (.t 2)),none⟩,
  ⟨(some 10),.val (.mov (.t 29)),none⟩]
def V3 (z sr ro sm is st:Nat):List Am.Item:=[
  ⟨(some 30),.val (.mov (.t 3)),none⟩,
  ⟨(some 11),.val (.mov (.t 30)),none⟩]
def S2 (z sr ro sm is st:Nat):List Am.Item:=[
  ⟨(some 31),.val (.mov (.t 10)),none⟩,
  ⟨(some 32),.val (.mov (.t 11)),none⟩,
  ⟨(some 33),.val (.bin .num .lss (.t 31) (.t 32)),none⟩]
def S3 (z sr ro sm is st:Nat):List Am.Item:=[
  ⟨(some 34),.val (.mov (.t 10)),none⟩,
  ⟨(some 35),.val (.mov (.t 11)),none⟩,
  ⟨(some 36),.val (.bin .num .add (.t 34) (.t 35)),none⟩,
  ⟨(some 37),.val (.cvi .u64 (.t 36)),none⟩,
  ⟨(some 38),.val (.bin .num .shr (.t 37) (.c (.int .u64 1))),none⟩,
  ⟨(some 39),.val (.cvi .i64 (.t 38)),none⟩,
  ⟨(some 12),.val (.mov (.t 39)),none⟩]
def S4 (z sr ro sm is st:Nat):List Am.Item:=[
  ⟨(some 40),.val (.mov (.t 4)),none⟩,
  ⟨(some 41),.val (.mov (.t 0)),none⟩,
  ⟨(some 42),.val (.mov (.t 12)),none⟩,
  ⟨(some 43),.val (.iaddr z none (.t 41) (.t 42)),none⟩,
  ⟨(some 44),.val (.loadr (some z) (.t 43)),none⟩,
  ⟨(some 45),.val (.mov (.t 0)),none⟩,
  ⟨(some 46),.val (.mov (.t 1)),none⟩,
  ⟨(some 47),.val (.iaddr z none (.t 45) (.t 46)),none⟩,
  ⟨(some 48),.val (.loadr (some z) (.t 47)),none⟩,
  ⟨(some 49),.call (.t 40) [(.t 44),(.t 48)],none⟩,
  ⟨(some 50),.val (.bin .num .lss (.t 49) (.c (.int .i64 0))),none⟩]
def S5 (z sr ro sm is st:Nat):List Am.Item:=[
  ⟨(some 51),.val (.mov (.t 12)),none⟩,
  ⟨(some 52),.val (.bin .num .add (.t 51) (.c (.int .i64 1))),none⟩,
  ⟨(some 10),.val (.mov (.t 52)),none⟩]
def S6 (z sr ro sm is st:Nat):List Am.Item:=[
  ⟨(some 53),.val (.mov (.t 12)),none⟩,
  ⟨(some 11),.val (.mov (.t 53)),none⟩]
def S7 (z sr ro sm is st:Nat):RC:=.seq (.seq (.reg (S2 z sr ro sm is st)) (.cond (.t 33) (.skip) (.exit 0))) (.block 1 (.seq (.reg (S3 z sr ro sm is st)) (.seq (.draw (S4 z sr ro sm is st)) (.cond (.t 50) (.reg (S5 z sr ro sm is st)) (.reg (S6 z sr ro sm is st))))))
def V4 (z sr ro sm is st:Nat):List Am.Item:=[
  ⟨(some 54),.val (.mov (.t 1)),none⟩,
  ⟨(some 13),.val (.mov (.t 54)),none⟩]
def S8 (z sr ro sm is st:Nat):List Am.Item:=[
  ⟨(some 55),.val (.mov (.t 13)),none⟩,
  ⟨(some 56),.val (.mov (.t 10)),none⟩,
  ⟨(some 57),.val (.bin .num .sub (.t 56) (.c (.int .i64 1))),none⟩,
  ⟨(some 58),.val (.bin .num .lss (.t 55) (.t 57)),none⟩]
def M9 (z sr ro sm is st:Nat):List Am.Item:=[
  ⟨(some 61),.val (.mov (.t 0)),none⟩,
  ⟨(some 62),.val (.mov (.t 13)),none⟩,
  ⟨(some 63),.val (.mov (.t 0)),none⟩,
  ⟨(some 64),.val (.mov (.t 13)),none⟩,
  ⟨(some 65),.val (.bin .num .add (.t 64) (.c (.int .i64 1))),none⟩,
  ⟨(some 66),.val (.mov (.t 0)),none⟩,
  ⟨(some 67),.val (.mov (.t 13)),none⟩,
  ⟨(some 68),.val (.bin .num .add (.t 67) (.c (.int .i64 1))),none⟩,
  ⟨(some 69),.val (.iaddr z none (.t 66) (.t 68)),none⟩,
  ⟨(some 70),.val (.loadr (some z) (.t 69)),none⟩,
  ⟨(some 71),.val (.mov (.t 0)),none⟩,
  ⟨(some 72),.val (.mov (.t 13)),none⟩,
  ⟨(some 73),.val (.iaddr z none (.t 71) (.t 72)),none⟩,
  ⟨(some 74),.val (.loadr (some z) (.t 73)),none⟩,
  ⟨(some 75),.val (.iaddr z none (.t 61) (.t 62)),none⟩,
  ⟨none,.store z (.t 75) (.t 70),none⟩,
  ⟨(some 76),.val (.iaddr z none (.t 63) (.t 65)),none⟩,
  ⟨none,.store z (.t 76) (.t 74),none⟩]
def Pa (z sr ro sm is st:Nat):List Am.Item:=[
  ⟨(some 59),.val (.mov (.t 13)),none⟩,
  ⟨(some 60),.val (.bin .num .add (.t 59) (.c (.int .i64 1))),none⟩,
  ⟨(some 13),.val (.mov (.t 60)),none⟩]
def S9 (z sr ro sm is st:Nat):RC:=.seq (.seq (.reg (S8 z sr ro sm is st)) (.cond (.t 58) (.skip) (.exit 2))) (.seq (.block 3 (.draw (M9 z sr ro sm is st))) (.reg (Pa z sr ro sm is st)))
def Gv (z sr ro sm is st:Nat):List Am.Item:=[
  ⟨(some 77),.val (.mov (.t 3)),none⟩,
  ⟨(some 78),.val (.mov (.t 2)),none⟩,
  ⟨(some 79),.val (.bin .num .sub (.t 77) (.t 78)),none⟩,
  ⟨(some 80),.val (.bin .num .eql (.t 79) (.c (.int .i64 1))),none⟩]
def Bn (z sr ro sm is st:Nat):List Am.Item:=[
  ⟨(some 81),.val (.mov (.t 1)),none⟩,
  ⟨(some 14),.val (.mov (.t 81)),none⟩]
def Bo (z sr ro sm is st:Nat):List Am.Item:=[
  ⟨(some 82),.val (.mov (.t 2)),none⟩,
  ⟨(some 15),.val (.mov (.t 82)),none⟩]
def Bp (z sr ro sm is st:Nat):List Am.Item:=[
  ⟨(some 83),.val (.mov (.t 14)),none⟩,
  ⟨(some 84),.val (.mov (.t 15)),none⟩,
  ⟨(some 85),.val (.bin .num .lss (.t 83) (.t 84)),none⟩]
def Bq (z sr ro sm is st:Nat):List Am.Item:=[
  ⟨(some 86),.val (.mov (.t 14)),none⟩,
  ⟨(some 87),.val (.mov (.t 15)),none⟩,
  ⟨(some 88),.val (.bin .num .add (.t 86) (.t 87)),none⟩,
  ⟨(some 89),.val (.cvi .u64 (.t 88)),none⟩,
  ⟨(some 90),.val (.bin .num .shr (.t 89) (.c (.int .u64 1))),none⟩,
  ⟨(some 91),.val (.cvi .i64 (.t 90)),none⟩,
  ⟨(some 16),.val (.mov (.t 91)),none⟩]
def Bs (z sr ro sm is st:Nat):List Am.Item:=[
  ⟨(some 92),.val (.mov (.t 4)),none⟩,
  ⟨(some 93),.val (.mov (.t 0)),none⟩,
  ⟨(some 94),.val (.mov (.t 2)),none⟩,
  ⟨(some 95),.val (.iaddr z none (.t 93) (.t 94)),none⟩,
  ⟨(some 96),.val (.loadr (some z) (.t 95)),none⟩,
  ⟨(some 97),.val (.mov (.t 0)),none⟩,
  ⟨(some 98),.val (.mov (.t 16)),none⟩,
  ⟨(some 99),.val (.iaddr z none (.t 97) (.t 98)),none⟩,
  ⟨(some 100),.val (.loadr (some z) (.t 99)),none⟩,
  ⟨(some 101),.call (.t 92) [(.t 96),(.t 100)],none⟩,
  ⟨(some 102),.val (.bin .num .lss (.t 101) (.c (.int .i64 0))),none⟩,
  ⟨(some 103),.val (.un .not (.t 102)),none⟩]
def Bu (z sr ro sm is st:Nat):List Am.Item:=[
  ⟨(some 104),.val (.mov (.t 16)),none⟩,
  ⟨(some 105),.val (.bin .num .add (.t 104) (.c (.int .i64 1))),none⟩,
  ⟨(some 14),.val (.mov (.t 105)),none⟩]
def Bv (z sr ro sm is st:Nat):List Am.Item:=[
  ⟨(some 106),.val (.mov (.t 16)),none⟩,
  ⟨(some 15),.val (.mov (.t 106)),none⟩]
def V5 (z sr ro sm is st:Nat):RC:=.seq (.seq (.reg (Bp z sr ro sm is st)) (.cond (.t 85) (.skip) (.exit 4))) (.block 5 (.seq (.reg (Bq z sr ro sm is st)) (.seq (.draw (Bs z sr ro sm is st)) (.cond (.t 103) (.reg (Bu z sr ro sm is st)) (.reg (Bv z sr ro sm is st))))))
def Bw (z sr ro sm is st:Nat):List Am.Item:=[
  ⟨(some 107),.val (.mov (.t 2)),none⟩,
  ⟨(some 17),.val (.mov (.t 107)),none⟩]
def Bx (z sr ro sm is st:Nat):List Am.Item:=[
  ⟨(some 108),.val (.mov (.t 17)),none⟩,
  ⟨(some 109),.val (.mov (.t 14)),none⟩,
  ⟨(some 110),.val (.bin .num .gtr (.t 108) (.t 109)),none⟩]
def Bz (z sr ro sm is st:Nat):List Am.Item:=[
  ⟨(some 113),.val (.mov (.t 0)),none⟩,
  ⟨(some 114),.val (.mov (.t 17)),none⟩,
  ⟨(some 115),.val (.mov (.t 0)),none⟩,
  ⟨(some 116),.val (.mov (.t 17)),none⟩,
  ⟨(some 117),.val (.bin .num .sub (.t 116) (.c (.int .i64 1))),none⟩,
  ⟨(some 118),.val (.mov (.t 0)),none⟩,
  ⟨(some 119),.val (.mov (.t 17)),none⟩,
  ⟨(some 120),.val (.bin .num .sub (.t 119) (.c (.int .i64 1))),none⟩,
  ⟨(some 121),.val (.iaddr z none (.t 118) (.t 120)),none⟩,
  ⟨(some 122),.val (.loadr (some z) (.t 121)),none⟩,
  ⟨(some 123),.val (.mov (.t 0)),none⟩,
  ⟨(some 124),.val (.mov (.t 17)),none⟩,
  ⟨(some 125),.val (.iaddr z none (.t 123) (.t 124)),none⟩,
  ⟨(some 126),.val (.loadr (some z) (.t 125)),none⟩,
  ⟨(some 127),.val (.iaddr z none (.t 113) (.t 114)),none⟩,
  ⟨none,.store z (.t 127) (.t 122),none⟩,
  ⟨(some 128),.val (.iaddr z none (.t 115) (.t 117)),none⟩,
  ⟨none,.store z (.t 128) (.t 126),none⟩]
def BA (z sr ro sm is st:Nat):List Am.Item:=[
  ⟨(some 111),.val (.mov (.t 17)),none⟩,
  ⟨(some 112),.val (.bin .num .sub (.t 111) (.c (.int .i64 1))),none⟩,
  ⟨(some 17),.val (.mov (.t 112)),none⟩]
def V6 (z sr ro sm is st:Nat):RC:=.seq (.seq (.reg (Bx z sr ro sm is st)) (.cond (.t 110) (.skip) (.exit 6))) (.seq (.block 7 (.draw (Bz z sr ro sm is st))) (.reg (BA z sr ro sm is st)))
def Gw (z sr ro sm is st:Nat):List Am.Item:=[
  ⟨(some 129),.val (.mov (.t 1)),none⟩,
  ⟨(some 130),.val (.mov (.t 3)),none⟩,
  ⟨(some 131),.val (.bin .num .add (.t 129) (.t 130)),none⟩,
  ⟨(some 132),.val (.cvi .u64 (.t 131)),none⟩,
  ⟨(some 133),.val (.bin .num .shr (.t 132) (.c (.int .u64 1))),none⟩,
  ⟨(some 134),.val (.cvi .i64 (.t 133)),none⟩,
  ⟨(some 18),.val (.mov (.t 134)),none⟩]
def Gx (z sr ro sm is st:Nat):List Am.Item:=[
  ⟨(some 135),.val (.mov (.t 18)),none⟩,
  ⟨(some 136),.val (.mov (.t 2)),none⟩,
  ⟨(some 137),.val (.bin .num .add (.t 135) (.t 136)),none⟩,
  ⟨(some 19),.val (.mov (.t 137)),none⟩]
def Gy (z sr ro sm is st:Nat):List Am.Item:=[
  ⟨(some 20),.val (.mov (.c (.int .i64 0))),none⟩,
  ⟨(some 21),.val (.mov (.c (.int .i64 0))),none⟩]
def Gz (z sr ro sm is st:Nat):List Am.Item:=[
  ⟨(some 138),.val (.mov (.t 2)),none⟩,
  ⟨(some 139),.val (.mov (.t 18)),none⟩,
  ⟨(some 140),.val (.bin .num .gtr (.t 138) (.t 139)),none⟩]
def GA (z sr ro sm is st:Nat):List Am.Item:=[
  ⟨(some 141),.val (.mov (.t 19)),none⟩,
  ⟨(some 142),.val (.mov (.t 3)),none⟩,
  ⟨(some 143),.val (.bin .num .sub (.t 141) (.t 142)),none⟩,
  ⟨(some 20),.val (.mov (.t 143)),none⟩]
def GB (z sr ro sm is st:Nat):List Am.Item:=[
  ⟨(some 144),.val (.mov (.t 18)),none⟩,
  ⟨(some 21),.val (.mov (.t 144)),none⟩]
def GC (z sr ro sm is st:Nat):List Am.Item:=[
  ⟨(some 145),.val (.mov (.t 1)),none⟩,
  ⟨(some 20),.val (.mov (.t 145)),none⟩]
def GD (z sr ro sm is st:Nat):List Am.Item:=[
  ⟨(some 146),.val (.mov (.t 2)),none⟩,
  ⟨(some 21),.val (.mov (.t 146)),none⟩]
def GE (z sr ro sm is st:Nat):List Am.Item:=[
  ⟨(some 147),.val (.mov (.t 19)),none⟩,
  ⟨(some 148),.val (.bin .num .sub (.t 147) (.c (.int .i64 1))),none⟩,
  ⟨(some 22),.val (.mov (.t 148)),none⟩]
def GF (z sr ro sm is st:Nat):List Am.Item:=[
  ⟨(some 149),.val (.mov (.t 20)),none⟩,
  ⟨(some 150),.val (.mov (.t 21)),none⟩,
  ⟨(some 151),.val (.bin .num .lss (.t 149) (.t 150)),none⟩]
def GG (z sr ro sm is st:Nat):List Am.Item:=[
  ⟨(some 152),.val (.mov (.t 20)),none⟩,
  ⟨(some 153),.val (.mov (.t 21)),none⟩,
  ⟨(some 154),.val (.bin .num .add (.t 152) (.t 153)),none⟩,
  ⟨(some 155),.val (.cvi .u64 (.t 154)),none⟩,
  ⟨(some 156),.val (.bin .num .shr (.t 155) (.c (.int .u64 1))),none⟩,
  ⟨(some 157),.val (.cvi .i64 (.t 156)),none⟩,
  ⟨(some 23),.val (.mov (.t 157)),none⟩]
def GH (z sr ro sm is st:Nat):List Am.Item:=[
  ⟨(some 158),.val (.mov (.t 4)),none⟩,
  ⟨(some 159),.val (.mov (.t 0)),none⟩,
  ⟨(some 160),.val (.mov (.t 22)),none⟩,
  ⟨(some 161),.val (.mov (.t 23)),none⟩,
  ⟨(some 162),.val (.bin .num .sub (.t 160) (.t 161)),none⟩,
  ⟨(some 163),.val (.iaddr z none (.t 159) (.t 162)),none⟩,
  ⟨(some 164),.val (.loadr (some z) (.t 163)),none⟩,
  ⟨(some 165),.val (.mov (.t 0)),none⟩,
  ⟨(some 166),.val (.mov (.t 23)),none⟩,
  ⟨(some 167),.val (.iaddr z none (.t 165) (.t 166)),none⟩,
  ⟨(some 168),.val (.loadr (some z) (.t 167)),none⟩,
  ⟨(some 169),.call (.t 158) [(.t 164),(.t 168)],none⟩,
  ⟨(some 170),.val (.bin .num .lss (.t 169) (.c (.int .i64 0))),none⟩,
  ⟨(some 171),.val (.un .not (.t 170)),none⟩]
def GI (z sr ro sm is st:Nat):List Am.Item:=[
  ⟨(some 172),.val (.mov (.t 23)),none⟩,
  ⟨(some 173),.val (.bin .num .add (.t 172) (.c (.int .i64 1))),none⟩,
  ⟨(some 20),.val (.mov (.t 173)),none⟩]
def GJ (z sr ro sm is st:Nat):List Am.Item:=[
  ⟨(some 174),.val (.mov (.t 23)),none⟩,
  ⟨(some 21),.val (.mov (.t 174)),none⟩]
def GK (z sr ro sm is st:Nat):RC:=.seq (.seq (.reg (GF z sr ro sm is st)) (.cond (.t 151) (.skip) (.exit 8))) (.block 9 (.seq (.reg (GG z sr ro sm is st)) (.seq (.draw (GH z sr ro sm is st)) (.cond (.t 171) (.reg (GI z sr ro sm is st)) (.reg (GJ z sr ro sm is st))))))
def W5 (z sr ro sm is st:Nat):List Am.Item:=[
  ⟨(some 175),.val (.mov (.t 19)),none⟩,
  ⟨(some 176),.val (.mov (.t 20)),none⟩,
  ⟨(some 177),.val (.bin .num .sub (.t 175) (.t 176)),none⟩,
  ⟨(some 24),.val (.mov (.t 177)),none⟩]
def W6 (z sr ro sm is st:Nat):List Am.Item:=[
  ⟨(some 178),.val (.mov (.t 20)),none⟩,
  ⟨(some 179),.val (.mov (.t 2)),none⟩,
  ⟨(some 180),.val (.bin .num .lss (.t 178) (.t 179)),none⟩,
  ⟨(some 181),.val (.mov (.t 180)),none⟩,
  ⟨(some 182),.val (.mov (.t 2)),(some (181,true))⟩,
  ⟨(some 183),.val (.mov (.t 24)),(some (181,true))⟩,
  ⟨(some 184),.val (.bin .num .lss (.t 182) (.t 183)),(some (181,true))⟩,
  ⟨(some 185),.val (.pick (.t 181) (.t 184) (.c (.bool false))),none⟩]
def W7 (z sr ro sm is st:Nat):List Am.Item:=[
  ⟨(some 186),.val (.mov (.t 0)),none⟩,
  ⟨(some 187),.val (.mov (.t 20)),none⟩,
  ⟨(some 188),.val (.mov (.t 2)),none⟩,
  ⟨(some 189),.val (.mov (.t 24)),none⟩,
  ⟨(some 190),.val (.mov (.t 4)),none⟩,
  ⟨(some 191),.callF (.f ro) [(.t 186),(.t 187),(.t 188),(.t 189),(.t 190)],none⟩]
def Ws (z sr ro sm is st:Nat):List Am.Item:=[
  ⟨(some 192),.val (.mov (.t 1)),none⟩,
  ⟨(some 193),.val (.mov (.t 20)),none⟩,
  ⟨(some 194),.val (.bin .num .lss (.t 192) (.t 193)),none⟩,
  ⟨(some 195),.val (.mov (.t 194)),none⟩,
  ⟨(some 196),.val (.mov (.t 20)),(some (195,true))⟩,
  ⟨(some 197),.val (.mov (.t 18)),(some (195,true))⟩,
  ⟨(some 198),.val (.bin .num .lss (.t 196) (.t 197)),(some (195,true))⟩,
  ⟨(some 199),.val (.pick (.t 195) (.t 198) (.c (.bool false))),none⟩]
def Wt (z sr ro sm is st:Nat):List Am.Item:=[
  ⟨(some 200),.val (.mov (.t 0)),none⟩,
  ⟨(some 201),.val (.mov (.t 1)),none⟩,
  ⟨(some 202),.val (.mov (.t 20)),none⟩,
  ⟨(some 203),.val (.mov (.t 18)),none⟩,
  ⟨(some 204),.val (.mov (.t 4)),none⟩,
  ⟨(some 205),.callF (.f sm) [(.t 200),(.t 201),(.t 202),(.t 203),(.t 204)],none⟩]
def J3 (z sr ro sm is st:Nat):List Am.Item:=[
  ⟨(some 206),.val (.mov (.t 18)),none⟩,
  ⟨(some 207),.val (.mov (.t 24)),none⟩,
  ⟨(some 208),.val (.bin .num .lss (.t 206) (.t 207)),none⟩,
  ⟨(some 209),.val (.mov (.t 208)),none⟩,
  ⟨(some 210),.val (.mov (.t 24)),(some (209,true))⟩,
  ⟨(some 211),.val (.mov (.t 3)),(some (209,true))⟩,
  ⟨(some 212),.val (.bin .num .lss (.t 210) (.t 211)),(some (209,true))⟩,
  ⟨(some 213),.val (.pick (.t 209) (.t 212) (.c (.bool false))),none⟩]
def J4 (z sr ro sm is st:Nat):List Am.Item:=[
  ⟨(some 214),.val (.mov (.t 0)),none⟩,
  ⟨(some 215),.val (.mov (.t 18)),none⟩,
  ⟨(some 216),.val (.mov (.t 24)),none⟩,
  ⟨(some 217),.val (.mov (.t 3)),none⟩,
  ⟨(some 218),.val (.mov (.t 4)),none⟩,
  ⟨(some 219),.callF (.f sm) [(.t 214),(.t 215),(.t 216),(.t 217),(.t 218)],none⟩]
def Ta (z sr ro sm is st:Nat):RC:=.seq (.seq (.reg (D1 z sr ro sm is st)) (.cond (.t 28) (.seq (.reg (V2 z sr ro sm is st)) (.seq (.reg (V3 z sr ro sm is st)) (.seq (.block 0 (.loop (S7 z sr ro sm is st))) (.seq (.seq (.reg (V4 z sr ro sm is st)) (.block 2 (.loop (S9 z sr ro sm is st)))) (.ret))))) (.skip))) (.seq (.seq (.reg (Gv z sr ro sm is st)) (.cond (.t 80) (.seq (.reg (Bn z sr ro sm is st)) (.seq (.reg (Bo z sr ro sm is st)) (.seq (.block 4 (.loop (V5 z sr ro sm is st))) (.seq (.seq (.reg (Bw z sr ro sm is st)) (.block 6 (.loop (V6 z sr ro sm is st)))) (.ret))))) (.skip))) (.seq (.reg (Gw z sr ro sm is st)) (.seq (.reg (Gx z sr ro sm is st)) (.seq (.reg (Gy z sr ro sm is st)) (.seq (.seq (.reg (Gz z sr ro sm is st)) (.cond (.t 140) (.seq (.reg (GA z sr ro sm is st)) (.reg (GB z sr ro sm is st))) (.seq (.reg (GC z sr ro sm is st)) (.reg (GD z sr ro sm is st))))) (.seq (.reg (GE z sr ro sm is st)) (.seq (.block 8 (.loop (GK z sr ro sm is st))) (.seq (.reg (W5 z sr ro sm is st)) (.seq (.seq (.reg (W6 z sr ro sm is st)) (.cond (.t 185) (.reg (W7 z sr ro sm is st)) (.skip))) (.seq (.seq (.reg (Ws z sr ro sm is st)) (.cond (.t 199) (.reg (Wt z sr ro sm is st)) (.skip))) (.seq (.reg (J3 z sr ro sm is st)) (.cond (.t 213) (.reg (J4 z sr ro sm is st)) (.skip)))))))))))))
def GL:List RR:=[]

def Tb (z sr ro sm is st:Nat):List Am.Item:=[
  ⟨(some 10),.val (.mov (.t 1)),none⟩,
  ⟨(some 11),.val (.bin .num .add (.t 10) (.c (.int .i64 1))),none⟩,
  ⟨(some 8),.val (.mov (.t 11)),none⟩]
def Tc (z sr ro sm is st:Nat):List Am.Item:=[
  ⟨(some 12),.val (.mov (.t 8)),none⟩,
  ⟨(some 13),.val (.mov (.t 2)),none⟩,
  ⟨(some 14),.val (.bin .num .lss (.t 12) (.t 13)),none⟩]
def Td (z sr ro sm is st:Nat):List Am.Item:=[
  ⟨(some 17),.val (.mov (.t 8)),none⟩,
  ⟨(some 9),.val (.mov (.t 17)),none⟩]
def Te (z sr ro sm is st:Nat):List Am.Item:=[
  ⟨(some 18),.val (.mov (.t 9)),none⟩,
  ⟨(some 19),.val (.mov (.t 1)),none⟩,
  ⟨(some 20),.val (.bin .num .gtr (.t 18) (.t 19)),none⟩,
  ⟨(some 21),.val (.mov (.t 20)),none⟩,
  ⟨(some 22),.val (.mov (.t 3)),(some (21,true))⟩,
  ⟨(some 23),.val (.mov (.t 0)),(some (21,true))⟩,
  ⟨(some 24),.val (.mov (.t 9)),(some (21,true))⟩,
  ⟨(some 25),.val (.iaddr z none (.t 23) (.t 24)),(some (21,true))⟩,
  ⟨(some 26),.val (.loadr (some z) (.t 25)),(some (21,true))⟩,
  ⟨(some 27),.val (.mov (.t 0)),(some (21,true))⟩,
  ⟨(some 28),.val (.mov (.t 9)),(some (21,true))⟩,
  ⟨(some 29),.val (.bin .num .sub (.t 28) (.c (.int .i64 1))),(some (21,true))⟩,
  ⟨(some 30),.val (.iaddr z none (.t 27) (.t 29)),(some (21,true))⟩,
  ⟨(some 31),.val (.loadr (some z) (.t 30)),(some (21,true))⟩,
  ⟨(some 32),.call (.t 22) [(.t 26),(.t 31)],(some (21,true))⟩,
  ⟨(some 33),.val (.bin .num .lss (.t 32) (.c (.int .i64 0))),(some (21,true))⟩,
  ⟨(some 34),.val (.pick (.t 21) (.t 33) (.c (.bool false))),none⟩]
def Tf (z sr ro sm is st:Nat):List Am.Item:=[
  ⟨(some 37),.val (.mov (.t 0)),none⟩,
  ⟨(some 38),.val (.mov (.t 9)),none⟩,
  ⟨(some 39),.val (.mov (.t 0)),none⟩,
  ⟨(some 40),.val (.mov (.t 9)),none⟩,
  ⟨(some 41),.val (.bin .num .sub (.t 40) (.c (.int .i64 1))),none⟩,
  ⟨(some 42),.val (.mov (.t 0)),none⟩,
  ⟨(some 43),.val (.mov (.t 9)),none⟩,
  ⟨(some 44),.val (.bin .num .sub (.t 43) (.c (.int .i64 1))),none⟩,
  ⟨(some 45),.val (.iaddr z none (.t 42) (.t 44)),none⟩,
  ⟨(some 46),.val (.loadr (some z) (.t 45)),none⟩,
  ⟨(some 47),.val (.mov (.t 0)),none⟩,
  ⟨(some 48),.val (.mov (.t 9)),none⟩,
  ⟨(some 49),.val (.iaddr z none (.t 47) (.t 48)),none⟩,
  ⟨(some 50),.val (.loadr (some z) (.t 49)),none⟩,
  ⟨(some 51),.val (.iaddr z none (.t 37) (.t 38)),none⟩,
  ⟨none,.store z (.t 51) (.t 46),none⟩,
  ⟨(some 52),.val (.iaddr z none (.t 39) (.t 41)),none⟩,
  ⟨none,.store z (.t 52) (.t 50),none⟩]
def Th (z sr ro sm is st:Nat):List Am.Item:=[
  ⟨(some 35),.val (.mov (.t 9)),none⟩,
  ⟨(some 36),.val (.bin .num .sub (.t 35) (.c (.int .i64 1))),none⟩,
  ⟨(some 9),.val (.mov (.t 36)),none⟩]
def Ti (z sr ro sm is st:Nat):RC:=.seq (.seq (.draw (Te z sr ro sm is st)) (.cond (.t 34) (.skip) (.exit 2))) (.seq (.block 3 (.draw (Tf z sr ro sm is st))) (.reg (Th z sr ro sm is st)))
def Tj (z sr ro sm is st:Nat):List Am.Item:=[
  ⟨(some 15),.val (.mov (.t 8)),none⟩,
  ⟨(some 16),.val (.bin .num .add (.t 15) (.c (.int .i64 1))),none⟩,
  ⟨(some 8),.val (.mov (.t 16)),none⟩]
def Tk (z sr ro sm is st:Nat):RC:=.seq (.seq (.reg (Tc z sr ro sm is st)) (.cond (.t 14) (.skip) (.exit 0))) (.seq (.block 1 (.seq (.reg (Td z sr ro sm is st)) (.block 2 (.loop (Ti z sr ro sm is st))))) (.reg (Tj z sr ro sm is st)))
def ris (z sr ro sm is st:Nat):RC:=.seq (.reg (Tb z sr ro sm is st)) (.block 0 (.loop (Tk z sr ro sm is st)))
def ois:List RR:=[]

def Tl (z sr ro sm is st:Nat):List Am.Item:=[
  ⟨(some 6),.val (.mov (.c (.int .i64 20))),none⟩]
def Tm (z sr ro sm is st:Nat):List Am.Item:=[
  ⟨(some 10),.val (.mov (.t 6)),none⟩,
  ⟨(some 7),.val (.mov (.c (.int .i64 0))),none⟩,
  ⟨(some 8),.val (.mov (.t 10)),none⟩]
def Tn (z sr ro sm is st:Nat):List Am.Item:=[
  ⟨(some 11),.val (.mov (.t 8)),none⟩,
  ⟨(some 12),.val (.mov (.t 1)),none⟩,
  ⟨(some 13),.val (.bin .num .leq (.t 11) (.t 12)),none⟩]
def To (z sr ro sm is st:Nat):List Am.Item:=[
  ⟨(some 14),.val (.mov (.t 0)),none⟩,
  ⟨(some 15),.val (.mov (.t 7)),none⟩,
  ⟨(some 16),.val (.mov (.t 8)),none⟩,
  ⟨(some 17),.val (.mov (.t 2)),none⟩,
  ⟨(some 18),.callF (.f is) [(.t 14),(.t 15),(.t 16),(.t 17)],none⟩]
def Tp (z sr ro sm is st:Nat):List Am.Item:=[
  ⟨(some 19),.val (.mov (.t 8)),none⟩,
  ⟨(some 7),.val (.mov (.t 19)),none⟩]
def Tq (z sr ro sm is st:Nat):List Am.Item:=[
  ⟨(some 20),.val (.mov (.t 8)),none⟩,
  ⟨(some 21),.val (.mov (.t 6)),none⟩,
  ⟨(some 22),.val (.bin .num .add (.t 20) (.t 21)),none⟩,
  ⟨(some 8),.val (.mov (.t 22)),none⟩]
def Tr (z sr ro sm is st:Nat):RC:=.seq (.seq (.reg (Tn z sr ro sm is st)) (.cond (.t 13) (.skip) (.exit 0))) (.block 1 (.seq (.reg (To z sr ro sm is st)) (.seq (.reg (Tp z sr ro sm is st)) (.reg (Tq z sr ro sm is st)))))
def Ts (z sr ro sm is st:Nat):List Am.Item:=[
  ⟨(some 23),.val (.mov (.t 0)),none⟩,
  ⟨(some 24),.val (.mov (.t 7)),none⟩,
  ⟨(some 25),.val (.mov (.t 1)),none⟩,
  ⟨(some 26),.val (.mov (.t 2)),none⟩,
  ⟨(some 27),.callF (.f is) [(.t 23),(.t 24),(.t 25),(.t 26)],none⟩]
def Tt (z sr ro sm is st:Nat):List Am.Item:=[
  ⟨(some 28),.val (.mov (.t 6)),none⟩,
  ⟨(some 29),.val (.mov (.t 1)),none⟩,
  ⟨(some 30),.val (.bin .num .lss (.t 28) (.t 29)),none⟩]
def Tu (z sr ro sm is st:Nat):List Am.Item:=[
  ⟨(some 31),.val (.mov (.t 6)),none⟩,
  ⟨(some 32),.val (.bin .num .mul (.c (.int .i64 2)) (.t 31)),none⟩,
  ⟨(some 7),.val (.mov (.c (.int .i64 0))),none⟩,
  ⟨(some 8),.val (.mov (.t 32)),none⟩]
def Tv (z sr ro sm is st:Nat):List Am.Item:=[
  ⟨(some 33),.val (.mov (.t 8)),none⟩,
  ⟨(some 34),.val (.mov (.t 1)),none⟩,
  ⟨(some 35),.val (.bin .num .leq (.t 33) (.t 34)),none⟩]
def Pb (z sr ro sm is st:Nat):List Am.Item:=[
  ⟨(some 36),.val (.mov (.t 0)),none⟩,
  ⟨(some 37),.val (.mov (.t 7)),none⟩,
  ⟨(some 38),.val (.mov (.t 7)),none⟩,
  ⟨(some 39),.val (.mov (.t 6)),none⟩,
  ⟨(some 40),.val (.bin .num .add (.t 38) (.t 39)),none⟩,
  ⟨(some 41),.val (.mov (.t 8)),none⟩,
  ⟨(some 42),.val (.mov (.t 2)),none⟩,
  ⟨(some 43),.callF (.f sm) [(.t 36),(.t 37),(.t 40),(.t 41),(.t 42)],none⟩]
def Pd (z sr ro sm is st:Nat):List Am.Item:=[
  ⟨(some 44),.val (.mov (.t 8)),none⟩,
  ⟨(some 7),.val (.mov (.t 44)),none⟩]
def Pe (z sr ro sm is st:Nat):List Am.Item:=[
  ⟨(some 45),.val (.mov (.t 8)),none⟩,
  ⟨(some 46),.val (.mov (.t 6)),none⟩,
  ⟨(some 47),.val (.bin .num .mul (.c (.int .i64 2)) (.t 46)),none⟩,
  ⟨(some 48),.val (.bin .num .add (.t 45) (.t 47)),none⟩,
  ⟨(some 8),.val (.mov (.t 48)),none⟩]
def Tw (z sr ro sm is st:Nat):RC:=.seq (.seq (.reg (Tv z sr ro sm is st)) (.cond (.t 35) (.skip) (.exit 4))) (.block 5 (.seq (.reg (Pb z sr ro sm is st)) (.seq (.reg (Pd z sr ro sm is st)) (.reg (Pe z sr ro sm is st)))))
def Pf (z sr ro sm is st:Nat):List Am.Item:=[
  ⟨(some 49),.val (.mov (.t 7)),none⟩,
  ⟨(some 50),.val (.mov (.t 6)),none⟩,
  ⟨(some 51),.val (.bin .num .add (.t 49) (.t 50)),none⟩,
  ⟨(some 9),.val (.mov (.t 51)),none⟩]
def Ph (z sr ro sm is st:Nat):List Am.Item:=[
  ⟨(some 52),.val (.mov (.t 9)),none⟩,
  ⟨(some 53),.val (.mov (.t 1)),none⟩,
  ⟨(some 54),.val (.bin .num .lss (.t 52) (.t 53)),none⟩]
def Pi (z sr ro sm is st:Nat):List Am.Item:=[
  ⟨(some 55),.val (.mov (.t 0)),none⟩,
  ⟨(some 56),.val (.mov (.t 7)),none⟩,
  ⟨(some 57),.val (.mov (.t 9)),none⟩,
  ⟨(some 58),.val (.mov (.t 1)),none⟩,
  ⟨(some 59),.val (.mov (.t 2)),none⟩,
  ⟨(some 60),.callF (.f sm) [(.t 55),(.t 56),(.t 57),(.t 58),(.t 59)],none⟩]
def BB (z sr ro sm is st:Nat):List Am.Item:=[
  ⟨(some 61),.val (.mov (.t 6)),none⟩,
  ⟨(some 62),.val (.bin .num .mul (.t 61) (.c (.int .i64 2))),none⟩,
  ⟨(some 6),.val (.mov (.t 62)),none⟩]
def Tx (z sr ro sm is st:Nat):RC:=.seq (.seq (.reg (Tt z sr ro sm is st)) (.cond (.t 30) (.skip) (.exit 2))) (.block 3 (.seq (.reg (Tu z sr ro sm is st)) (.seq (.block 4 (.loop (Tw z sr ro sm is st))) (.seq (.seq (.reg (Pf z sr ro sm is st)) (.seq (.reg (Ph z sr ro sm is st)) (.cond (.t 54) (.reg (Pi z sr ro sm is st)) (.skip)))) (.reg (BB z sr ro sm is st))))))
def rst (z sr ro sm is st:Nat):RC:=.seq (.reg (Tl z sr ro sm is st)) (.seq (.reg (Tm z sr ro sm is st)) (.seq (.block 0 (.loop (Tr z sr ro sm is st))) (.seq (.reg (Ts z sr ro sm is st)) (.block 2 (.loop (Tx z sr ro sm is st))))))
def ost:List RR:=[]

def TA (z sr ro sm is st:Nat):List Am.Item:=[
  ⟨(some 4),.val (.mov (.t 0)),none⟩,
  ⟨(some 5),.val (.mov (.t 0)),none⟩,
  ⟨(some 6),.val (.len 1 (.t 5)),none⟩,
  ⟨(some 7),.val (.mov (.t 1)),none⟩,
  ⟨(some 8),.callF (.f st) [(.t 4),(.t 6),(.t 7)],none⟩]
def rss (z sr ro sm is st:Nat):RC:=.reg (TA z sr ro sm is st)
def oss:List RR:=[]

structure Cs (P:Program)(z sr ro sm is st ss:Nat):Prop where
 csr:CK P sr 38 (rsr z sr ro sm is st) osr
 cro:CK P ro 58 (rro z sr ro sm is st) oro
 csm:CK P sm 220 (Ta z sr ro sm is st) GL
 cis:CK P is 53 (ris z sr ro sm is st) ois
 cst:CK P st 63 (rst z sr ro sm is st) ost
 css:CK P ss 9 (rss z sr ro sm is st) oss

end Go.Proofs.YtipjfckmopekaaaGreatDoor.Tg

namespace Go.Proofs.YtipjfckmopekaaaGreatDoor.Am
open Go Bt

def Ez (E:AV→Prop)(sz:Nat)(x:AV):Prop:=E x∧∃l,x=.agg l∧l.length=sz∧AV.rfL l=true∧l.all AV.leaf=true∧∀m,AV.stillL false m l=some l

variable {E:AV→Prop}

theorem Ez.part {sz:Nat}{x:AV}(h:Ez E sz x):Am.part x.cells 0 (some sz)=some x:=by
 obtain⟨_,l,rfl,rfl,_,_,_⟩:=h;simp[Am.part,AV.cells]
theorem Ez.len {sz:Nat}{x:AV}(h:Ez E sz x):x.cells.length=sz:=by
 obtain⟨_,l,rfl,rfl,_,_,_⟩:=h;rfl
theorem Ez.leaf {sz:Nat}{x:AV}(h:Ez E sz x):x.cells.all AV.leaf=true:=by
 obtain⟨_,l,rfl,_,_,h,_⟩:=h;exact h
theorem Ez.rf {sz:Nat}{x:AV}(h:Ez E sz x):x.rf=true:=by
 obtain⟨_,l,rfl,_,h,_,_⟩:=h;exact h

theorem Ez.still {sz:Nat}{x:AV}(h:Ez E sz x)(m:Qp):x.still false m=some x:=by
 obtain⟨_,l,rfl,_,_,_,h⟩:=h;simp only[AV.still,h m,QVC]
theorem WM {sz:Nat}{x y:AV}(h:Ez E sz x)(k:Ez E sz y)(m:Qp):AV.stillL false m [x,y]=some [x,y]:=by
 simp only[AV.stillL,h.still,k.still]
theorem KC {sz:Nat}{x y:AV}(h:Ez E sz x)(k:Ez E sz y):AV.rfL [x,y]=true:=by
 simp only[AV.rfL,h.rf,k.rf,Bool.and_self]

theorem K5 {P:Program}{f:Fr}{m:Qp}{ds:List DF}{Qf:List Item}{d:Nat}{K:St→Prop}{k:Nat}{r:RA}{args:List RA}{ys:List AV}{v:AV}(hr:r.ev f=.fn (.func k) [] [])(hk:Qj P k ys v)(hy:AV.stillL false m (args.map (RA.ev f))=some ys)(h1:AV.rfL ys=true)(h2:v.rf=true)(h3:AV.rfL (args.map (RA.ev f))=true∨v.nl=true)(h:QF P Qf ⟨QJ f d v,m,ds⟩ K) :
  QF P (⟨some d,.call r args,none⟩ :: Qf) ⟨f,m,ds⟩ K:=by
 refine⟨k,[],[],ys,v,hr,?_,h1,hk,h2,?_,h⟩
 ·simpa using hy
 ·simpa using h3

theorem Wb:∀ {m:Qp} {l s:Nat} {o o':Ob},Am.put (Am.put m l s o) l s o'=Am.put m l s o'
 | [],_,_,_,_=>rfl
 |fr :: m,0,s,o,o'=>by simp only[Am.put,upd_upd']
 |fr :: m,l+1,s,o,o'=>by simp only[Am.put,Wb (m:=m)]
where
 upd_upd' {f:Nat→Ob} {d:Nat} {x y:Ob}:QJ (QJ f d x) d y=QJ f d y:=by
  funext i;simp only[QJ];cases Nat.beq i d<;>rfl

theorem Jj:∀ {m:Qp} {l s:Nat} {o:Ob},Qg m l s=o→Am.put m l s o=m
 | [],_,_,_,_=>rfl
 |fr :: m,0,s,o,h=>by
  simp only[Am.put];congr 1
  funext i;simp only[QJ];cases hb:Nat.beq i s with
  |false=>rfl
  |true=>rw[QUI hb];exact h.symm
 |fr :: m,l+1,s,o,h=>by simp only[Am.put,Jj (m:=m) h]

section
variable {m:Qp}{fr:Nat→Ob}{lv s g sz n i:Nat}{cur:List AV}{x y:AV}

theorem KS (hlv:lv<m.length)(hx:cur[i]? = some x)(he:Ez E sz x):Q9 (fr :: Am.put m lv s (.vec g sz cur)) (some sz) (.vptr (lv+1) s g i 0)=some x:=by
 have e:Qg (fr :: Am.put m lv s (.vec g sz cur)) (lv+1) s=.vec g sz cur:=Qz hlv;simp only[Q9,e,if_true,hx,he.part]

theorem Uh (hlv:lv<m.length)(hx:cur[i]? = some x)(he:Ez E sz x)(hy:Ez E sz y)(h0:sz≠0):QV (fr :: Am.put m lv s (.vec g sz cur)) (.vptr (lv+1) s g i 0) y.cells=some (fr :: Am.put m lv s (.vec g sz (cur.set i y))):=by
 have e:Qg (fr :: Am.put m lv s (.vec g sz cur)) (lv+1) s=.vec g sz cur:=Qz hlv;obtain⟨_,l,rfl,hl,_,_,_⟩:=he;obtain⟨_,k,rfl,hk,hf,_,_⟩:=hy;have hc:0+(AV.agg k).cells.length≤(AV.agg l).cells.length∧(AV.agg k).cells.length≠0∧AV.rfL (AV.agg k).cells=true:=by
  simp only[AV.cells];exact⟨by omega,by omega,hf⟩
 simp only[QV,e,if_true,hx,QVf hc];have hs:splice l 0 k=k:=by
  simp only[splice,QVU,QU9,QVs];rw[QVn (by omega),QVP]
 simp only[Zz,AV.cells,hs,Am.put,Wb]

theorem KT (hlv:lv<m.length)(hi:i<n):Qc (fr :: Am.put m lv s (.vec g sz cur)) sz none (.vec (lv+1) s g 0 n false) ((i:Nat):Int)=some (.vptr (lv+1) s g i 0):=by
 have e:Qg (fr :: Am.put m lv s (.vec g sz cur)) (lv+1) s=.vec g sz cur:=Qz hlv;simp only[Qc,e,QWd];rw[QVf (by omega),QVf ⟨trivial,trivial,hi⟩,QVs]

end

theorem put_len:∀ {m:Qp} {l s:Nat} {o:Ob},(Am.put m l s o).length=m.length
 | [],_,_,_=>rfl
 |_ :: _,0,_,_=>rfl
 |fr :: m,l+1,s,o=>by simp only[Am.put,QU1,put_len (m:=m)]

end Go.Proofs.YtipjfckmopekaaaGreatDoor.Am

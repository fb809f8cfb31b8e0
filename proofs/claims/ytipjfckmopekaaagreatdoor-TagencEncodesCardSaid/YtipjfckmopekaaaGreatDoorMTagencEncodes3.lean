/- Parts of the proof, in order. -/
import Derived.Test.YtipjfckmopekaaaGreatDoorMTagencEncodes2

set_option linter.unusedSimpArgs false
namespace Go.Proofs.YtipjfckmopekaaaGreatDoor.Va
open Go Am Rc Bt Br

def key (o:PO):Bool:=if o.card=5 then decide (o.key≥1)&&decide (o.key≤7)&&o.key != 6 else o.key==0
def GF (P:PL)(o:PO):Bool :=
 if o.kind=10 then decide (o.target≥0)&&decide (o.target<(P.progs.length:Int))&&o.card != 3
 else if o.kind=9 then decide (o.target≥0)&&decide (o.target<(P.enums.length:Int))else isk o.kind&&o.target == -1
def X9 (P:PL)(o:PO):Bool:=Uu o.alias&&decide ((o.alias.length:Int)≤4096)&&decide (o.card≥1)&&decide (o.card≤5)&&key o&&GF P o
def X0 (o:PO):Bool:=o.union == -1||o.card==2
def Jf:List PO→Int→Int→Option Int
 | [],n,_=>some n
 |o :: l,n,b=>if o.union=n then Jf l (n+1) n else if o.union = -1∨o.union=b then Jf l n o.union else none
def ZY (g:PG):Bool:=match Jf g.ops 0 (-1)with
 |some n=>g.unions==n
 |none=>false
def Xo (k kd:Int)(b:Nat)(t:List UInt8)(l p s r:List AV):Bool :=
 isk k&&kd==k&&W0 l p s r&&(if Za kd=true then(b:Int)==0 else t==[])&&YH k b&&decide ((t.length:Int)≤4096)&&(k != 7||Uu t)
def alias:List UInt8:=[97,108,105,97,115]
def nok:List AV→Bool
 | [.int _ kd,.int _ b,.str t,.list l,.list p,.list s,.list r]=>Xo 7 kd b.toNat t l p s r
 |_=>false
def Z2 (i:PI):Bool:=match i.notes with
 | []=>true
 | [n]=>n.name==alias&&nok n.val
 |_=>false
def Jb (P:PL)(g:PG):Bool:=ZY g&&g.ops.all fun o=>X9 P o&&X0 o
def Kz (x:PE):Bool:=x.notes.isEmpty&&x.items.all Z2
def args (P:PL):Bool:=P.progs.all (Jb P)&&P.enums.all Kz

theorem Qav {α:Type}(l:List α)(p q:α→Bool):(l.all fun x=>p x&&q x)=(l.all p&&l.all q):=by
 induction l with
 |nil=>rfl
 |cons x l ih=>
  simp only[QYD,ih];cases p x<;>cases q x<;>cases l.all p<;>cases l.all q<;>rfl

theorem QwM (k kd:Int)(b:Nat)(t:List UInt8)(l p s r:List AV)(hl:l.length≤140737488351232)(hp:p.length≤140737488351232)(hs:s.length≤140737488351232)(hr:r.length≤140737488351232) :
  Qk Tryz.prog 279 [.int .i64 k,vo kd b t l p s r] (.bool (Xo k kd b t l p s r)):=by
 have hle:=QwK kd b t l p s r hl hp hs hr;have hw:=QQ0 k b;simp only[vo]at hle;have n1:(kd != k)=!(kd==k):=rfl;have n2:(k != 7)=!(k==7):=rfl;have n3:decide ((t.length:Int) > 4096)=!decide ((t.length:Int)≤4096):=(by rw[QYm];simp only[QXx,QYq,QZj];omega);refine Qmm.fn (by simp) ?_;simp only[vo,Xo,n2,eE,seval];refine aC (Bq k) ?_;cases isk k
 ·simp only[QYW,QYz,Qa,seval]
 simp only[QY3,QY4,n1,eE,seval];cases a1:(kd==k)
 ·simp only[QYW,QYz,Qa,seval]
 simp only[QY3,QY4,eE,seval];refine aC hle ?_;cases(W0 l p s r&&(if Za kd=true then(b:Int)==0 else t==[]))
 ·simp only[QYW,QYz,Qa,seval]
 simp only[QY3,QY4,eE,seval];refine aC hw ?_;cases YH k b
 ·simp only[QYW,QYz,Qa,seval]
 simp only[QY3,QY4,n3,eE,seval];cases a2:decide ((t.length:Int)≤4096)
 ·simp only[QYW,QYz,Qa,seval]
 simp only[QY3,QY4,n2,Qa,seval];cases a3:(k==7)
 ·simp only[QYz,QY6,Qa,seval]
 ·simp only[QY4,QY7,eE,seval];refine aC (RV t) ?_;simp only[Qa,seval]

theorem QQ1 (o:PO):Qk Tryz.prog 169 [Qr o] (.bool (key o)):=by
 refine Qgk.fn (by simp) ?_;simp only[Qr,PO.cells,key,eE,seval];by_cases h:o.card=5
 ·have b0:(o.card != 5)=false:=by simp[h]
  simp only[b0,QXV h,eE,seval];cases a1:decide (o.key≥1)<;>cases a2:decide (o.key≤7)<;>simp only[a2,QY3,QYW,eE,seval]
 ·have b0:(o.card != 5)=true:=by simp[h]
  simp only[b0,QXG h,eE,seval]

section
variable (P:PL)

theorem QQ2 (o:PO):Qk Tryz.prog 170 [P.av,Qr o] (.bool (GF P o)):=by
 have e0:P.av=.agg [.list (P.progs.map Qh),.list (P.enums.map Qq)]:=rfl;refine Qgu.fn (by simp) ?_;simp only[e0,Qr,PO.cells,GF,eE,seval];by_cases h:o.kind=10
 ·have b0:(o.kind==10)=true:=by simp[h]
  simp only[b0,QXV h,eE,seval];cases a1:decide (o.target≥0)<;>cases a2:decide (o.target<(P.progs.length:Int))<;>simp only[a2,QY3,QYW,QYn,eE,seval]
 ·have b0:(o.kind==10)=false:=by simp[h]
  by_cases h9:o.kind=9
  ·have b1:(o.kind==9)=true:=by simp[h9]
   simp only[b0,b1,QXG h,QXV h9,eE,seval];cases a1:decide (o.target≥0)<;>simp only[QY3,QYW,QYn,eE,seval]
  ·have b1:(o.kind==9)=false:=by simp[h9]
   simp only[b0,b1,QXG h,QXG h9,eE,seval];refine aC (Bq o.kind) ?_;cases isk o.kind<;>simp only[QY3,QYW,eE,seval]

def UnI (g:PG)(k:Nat)(st:St):Prop :=
 ∃f fr i n b,st=⟨f,[fr],[]⟩∧k=g.ops.length-i∧i≤g.ops.length∧(g.ops.take i).all X0=true∧Jf g.ops 0 (-1)=Jf (g.ops.drop i) n b∧0≤n∧n≤i∧-1≤b∧b<n∧f 1=.ptr 0 1 0∧f 3=.int .i64 (n-1)∧f 4=.int .i64 b∧
  f 8=.list (g.ops.map fun o=>.agg o.cells)∧f 9=.int .i64 (g.ops.length:Nat)∧f 10=.int .i64 (i:Nat)∧fr 1=.cells g.cells∧∀s∈[6],(fr s).isRow=false

theorem GG {l:List PO}{i:Nat}{o:PO}(h:l[i]? = some o)(n b:Int):Jf (l.drop i) n b=if o.union=n then Jf (l.drop (i+1)) (n+1) n else if o.union = -1∨o.union=b then Jf (l.drop (i+1)) n o.union else none:=by
 have hlt:i<l.length:=(QXs.1 h).1;rw[QYa hlt,show l[i]=o from(QXs.1 h).2];rfl

theorem QQ3 (g:PG)(hl:g.ops.length≤9223372036854775000):Qk Tryz.prog 166 [Qh g] (.bool (g.ops.all X0&&ZY g)):=by
 refine Qf3.fn (by simp) ?_;simp only[Qh,PG.cells,QYn,eE,seval];refine Qd (UnI g) _ ⟨_,_,0,0,-1,rfl,rfl,QXA _,rfl,rfl,by decide,by decide,by decide,by decide,(by rfl),(by rfl),(by rfl),(by rfl),(by rfl),(by rfl),(by rfl),by simp<;>rfl⟩ ?_;rintro _ st ⟨f0,fr0,i,n,b,rfl,rfl,hil,hu,hj,hn0,hni,hb1,hbn,h10,h30,h40,h80,h90,hA0,m10,r6⟩;refine QJ (a:=_) [6] r6 ?_;intro f fr hf hm hn6;have h1:f 1=.ptr 0 1 0:=by rw[hf,h10]<;>rfl
 have h3:f 3=.int .i64 (n-1):=by rw[hf,h30]<;>rfl
 have h4:f 4=.int .i64 b:=by rw[hf,h40]<;>rfl
 have h8:f 8=.list (g.ops.map fun o=>.agg o.cells):=by rw[hf,h80]<;>rfl
 have h9:f 9=.int .i64 (g.ops.length:Nat):=by rw[hf,h90]<;>rfl
 have hA:f 10=.int .i64 (i:Nat):=by rw[hf,hA0]<;>rfl
 have m1:fr 1=.cells g.cells:=by rw[hm 1 (by decide),m10]<;>rfl
 have n6:=hn6 6 (by decide);clear hf hm hn6 h10 h30 h40 h80 h90 hA0 m10 r6;simp only[PG.cells]at m1;have w0:IntKind.i64.wrap (n-1+1)=n:=by rw[QE];omega
 simp only[h9,hA,Qa,seval];by_cases hlt:i<g.ops.length
 ·obtain⟨o,hi⟩:∃o,g.ops[i]? = some o:=⟨g.ops[i],QXt hlt⟩;have hg:(g.ops.map fun o=>AV.agg o.cells)[i]? = some (.agg o.cells):=by simp[hi]
  have e1:=Ql i _ hlt (by simp only[maxLen];omega);have ht:=Q6 (q:=X0) hi;rw[hu,QY3]at ht;have hbad:X0 o=false→g.ops.all X0=false:=fun h=>by
   rw[QZf];intro h';rw[QXE.1 h' o (QXF hi)]at h;cases h
  rw[GG hi]at hj;have fin:∀(f':Fr) (fr':Nat→Ob) (n':Int),X0 o=true→(if o.union=n then n'=n+1 else n'=n)→Jf g.ops 0 (-1)=Jf (g.ops.drop (i+1)) n' o.union→(o.union=n∨o.union = -1∨o.union=b)→f' 1=.ptr 0 1 0→f' 3=.int .i64 (n'-1)→f' 4=.int .i64 o.union→
    f' 8=.list (g.ops.map fun o=>.agg o.cells)→f' 9=.int .i64 (g.ops.length:Nat)→f' 10=.int .i64 ((i+1:Nat):Int)→fr' 1=.cells g.cells→(∀s∈[6],(fr' s).isRow=false)→∃k,k<g.ops.length-i∧UnI g k ⟨f',[fr'],[]⟩:=by
   intro f' fr' n' a b' c d e1 e3 e4 e8 e9 eA em er;refine⟨g.ops.length-(i+1),by omega,f',fr',i+1,n',o.union,rfl,rfl,by omega,by rw[ht,a],c,?_,?_,?_,?_,e1,e3,e4,e8,e9,eA,em,er⟩<;>split at b'<;>omega
  simp only[PO.cells]at hg;simp only[Qm hlt,Qi,QYT,Qb,hg,PO.cells,n6,h8,hA,eE,seval];by_cases a1:o.union = -1
  ·have b1:(o.union != -1)=false:=by simp[a1]
   have hk:X0 o=true:=by simp[X0,a1]
   rw[QXG (by omega),QXV (.inl a1)]at hj;have mx:(if n-1<o.union then o.union else n-1)=n-1:=QXG (by omega);simp only[b1,h3,hA,mx,e1,eE,seval];exact fin _ _ n hk (by rw[QXG (by omega)]) hj (.inr (.inl a1)) (by exact h1) (by rfl) (by rfl) (by exact h8) (by exact h9) (by rfl) (by exact m1) (by simp<;>rfl)
  have b1:(o.union != -1)=true:=by simp[a1]
  by_cases a2:o.card=2
  case neg=>
   have b2:(o.card != 2)=true:=by simp[a2]
   have hk:X0 o=false:=by simp[X0,a1,a2]
   simp only[b1,b2,hbad hk,QYW,eE,seval]
  have b2:(o.card != 2)=false:=by simp[a2]
  have hk:X0 o=true:=by simp[X0,a2]
  by_cases a3:o.union=n
  ·have b3:(o.union != n)=false:=by simp[a3]
   rw[QXV a3,←a3]at hj;have mx:(if n-1<o.union then o.union else n-1)=o.union:=QXV (by omega);simp only[b1,b2,b3,h3,hA,w0,mx,e1,eE,seval];exact fin _ _ (o.union+1) hk (by rw[QXV a3,a3]) hj (.inl a3) (by exact h1) (by simp only[Qa,seval];congr 1;omega) (by rfl) (by exact h8) (by exact h9) (by rfl) (by exact m1) (by simp<;>rfl)
  have b3:(o.union != n)=true:=by simp[a3]
  by_cases a4:o.union=b
  ·have b4:(o.union != b)=false:=by simp[a4]
   rw[QXG a3,QXV (.inr a4)]at hj;have mx:(if n-1<o.union then o.union else n-1)=n-1:=QXG (by omega);simp only[b1,b2,b3,b4,h3,h4,hA,w0,mx,e1,eE,seval];exact fin _ _ n hk (by rw[QXG a3]) hj (.inr (.inr a4)) (by exact h1) (by rfl) (by rfl) (by exact h8) (by exact h9) (by rfl) (by exact m1) (by simp<;>rfl)
  ·have b4:(o.union != b)=true:=by simp[a4]
   rw[QXG a3,QXG (by omega)]at hj;have hun:ZY g=false:=by unfold ZY;rw[hj]
   simp only[b1,b2,b3,b4,hun,QZk,h3,h4,w0,eE,seval]
 ·rw[QX0 (by omega)]at hu;rw[QX3 (by omega)]at hj;have hun:ZY g=(g.unions==n):=by unfold ZY;rw[hj];rfl
  simp only[Qw hlt,h1,h3,m1,w0,hu,hun,QY3,eE,seval]

theorem QQ4 (o:PO)(fr2 fr:Nat→Ob)(h1:fr 1=.cells [.list (P.progs.map Qh),.list (P.enums.map Qq)]):Qg Tryz.prog 167 [Qr o,.ptr 7 1 0] [Qc,Qc,Qc,fr2,Qc,Qc,Qc,fr] fun y m1=>y=.bool (!X9 P o)∧m1=[Qc,Qc,Qc,fr2,Qc,Qc,Qc,fr]:=by
 have n1:decide ((o.alias.length:Int) > 4096)=!decide ((o.alias.length:Int)≤4096):=(by rw[QYm];simp only[QXx,QYq,QZj];omega);have n2:decide (o.card<1)=!decide (o.card≥1):=(by rw[QYm];simp only[QXx,QYq,QZj];omega);have n3:decide (o.card > 5)=!decide (o.card≤5):=(by rw[QYm];simp only[QXx,QYq,QZj];omega);have hk:=QQ1 o;have ha:Qk Tryz.prog 170 [.agg [.list (P.progs.map Qh),.list (P.enums.map Qq)],Qr o] (.bool (GF P o)):=QQ2 P o;simp only[Qr,PO.cells]at hk ha;refine Qf8.go (by simp) ?_;simp only[Qr,PO.cells,X9,eE,seval];refine aC (RV o.alias) ?_;cases Uu o.alias
 ·simp only[QYW,QYz,Qa,seval]
 simp only[QY3,QY4,n1,eE,seval];cases a1:decide ((o.alias.length:Int)≤4096)
 ·simp only[QYW,QYz,Qa,seval]
 simp only[n2,QY3,QY4,eE,seval];cases a2:decide (o.card≥1)
 ·simp only[QYW,QYz,Qa,seval]
 simp only[n3,QY3,QY4,eE,seval];cases a3:decide (o.card≤5)
 ·simp only[QYW,QYz,Qa,seval]
 simp only[QY3,QY4,eE,seval];refine aC hk ?_;cases key o
 ·simp only[QYW,QYz,Qa,seval]
 simp only[QY3,QY4,h1,eE,seval];refine aC ha ?_;simp only[Qa,seval]

theorem QQ5 (g:PG)(hl:g.ops.length≤9223372036854775000)(fr:Nat→Ob)(h1:fr 1=.cells [.list (P.progs.map Qh),.list (P.enums.map Qq)]) :
  Qg Tryz.prog 165 [Qh g,.ptr 3 1 0] [Qc,Qc,Qc,fr] fun y m1=>y=.bool (!Jb P g)∧m1=[Qc,Qc,Qc,fr]:=by
 have hu:=QQ3 g hl;have e:Jb P g=((g.ops.all X0&&ZY g)&&g.ops.all (X9 P)):=by
  unfold Jb;rw[show(g.ops.all fun o=>X9 P o&&X0 o)=(g.ops.all (X9 P)&&g.ops.all X0)from Qav ..];cases ZY g<;>cases g.ops.all (X9 P)<;>cases g.ops.all X0<;>rfl
 simp only[Qh,PG.cells]at hu;refine QfP.go (by simp) ?_;simp only[Qh,PG.cells,e,eE,seval];refine aC hu ?_;cases(g.ops.all X0&&ZY g)
 ·simp only[QYW,QYz,Qa,seval]
 simp only[QY3,QY4,eE,seval];refine Qj (Bz g.ops (by simp only[maxLen];omega) (fun o=>!X9 P o) 167 [.ptr 4 1 0] _ fun o _=>QQ4 P o _ fr h1) (by simp only[QXY,QYt,Qa,seval]<;>rfl) ?_;simp only[Xr,Qa,seval]

end

def Ch:F1:=fun k=>match k with
 |249=>some (QuV,QuW,16)
 |_=>none
theorem N9:Gm Tryz.prog Ch:=by
 intro k c rs N h;unfold Ch at h;split at h
 ·cases h;exact QOY
 ·cases h
def Pl:Option (AV×Qo)→Bool
 |some (.mp ks vs,_)=>match JK alias ks vs with
  |some (.agg [.int .i64 a,.int .i64 b])=>a==7&&b==84
  |_=>false
 |_=>false
theorem Pm:Pl (Yi Ev.nat Ch (Jd Ev.nat Ch 300) 249 [] [])=true:=by decide +kernel
theorem QwN:∃ks vs,Qk Tryz.prog 249 [] (.mp ks vs)∧JK alias ks vs=some (.agg [.int .i64 7,.int .i64 84]):=by
 have h:=Pm;unfold Pl at h;split at h
 ·rename_i ks vs m' h1;split at h
  ·rename_i a b h2;simp only[QXQ,QXy]at h;obtain⟨rfl,rfl⟩:=h;exact⟨ks,vs,(WU Ev.nat_ok N9 (Mv Ev.nat_ok N9 300) _ _ _ _ _ h1).mono fun _ _ e=>e.1,h2⟩
  ·cases h
 ·cases h

theorem QQ6:Qk Tryz.prog 278 [.str alias] (.int .i64 7):=by
 obtain⟨ks,vs,h1,h2⟩:=QwN;have hg:AV.gr (.agg [.int .i64 7,.int .i64 84])=true:=rfl;refine QPv.fn (by simp) ?_;simp only[Qa,seval];refine aC h1 ?_;simp only[WN,h2,hg,Qa,seval]

section
variable (kd:Int)(b:Nat)(t:List UInt8)(l p s r:List AV)(hl:l.length≤140737488351232)(hp:p.length≤140737488351232)(hs:s.length≤140737488351232)(hr:r.length≤140737488351232)

def nv:AV:=.agg [.str alias,.int .i64 kd,.int .u64 (b:Nat),.str t,.list l,.list p,.list s,.list r]

include hl hp hs hr in
theorem QQ7:Qk Tryz.prog 250 [nv kd b t l p s r] (.bool (Xo 7 kd b t l p s r)):=by
 have hf:=QwM 7 kd b t l p s r hl hp hs hr;have b0:((7:Int) != 0)=true:=rfl;simp only[vo]at hf;refine QO1.fn (by simp) ?_;simp only[nv,eE,seval];refine aC QQ6 ?_;simp only[b0,eE,seval];refine aC hf ?_;simp only[Qa,seval]

include hl hp hs hr in
theorem QQ8 (last:List UInt8):Qk Tryz.prog 218 [nv kd b t l p s r,.int .i64 4,.str last,.bool false] (.int .i64 (if Xo 7 kd b t l p s r=true then 0 else 12)):=by
 have hf:=QQ7 kd b t l p s r hl hp hs hr;obtain⟨ks,vs,h1,h2⟩:=QwN;have hg:AV.gr (.agg [.int .i64 7,.int .i64 84])=true:=rfl;have b0:decide ((4:Int)<1)=false:=rfl;have b1:decide ((4:Int) > 6)=false:=rfl;have b2:(0≤(4:Int))=True:=by simp
 have b3:(bits .and .i64 (Int.fdiv 84 (2 ^ min 4 64)) 1==0)=false:=by decide
 have b4:(bits .and .i64 ((84:Int).fdiv (2 ^ (min (4:Int).toNat IntKind.i64.bits))) 1==0)=false:=by decide
 simp only[nv]at hf;refine QOp.fn (by simp) ?_;simp only[nv,eE,seval];refine aC h1 ?_;simp only[h2,hg,b2,b3,eE,seval];refine aC hf ?_;cases Xo 7 kd b t l p s r
 ·simp only[QYz,QXL,Qa,seval]
 ·simp only[QY4,Qa,seval]

def NcI (k:Nat)(st:St):Prop :=
 ∃f fr i,st=⟨f,[fr],[]⟩∧k=1-i∧i≤1∧(i=0→∃last,f 5=.str last)∧(i=1→Xo 7 kd b t l p s r=true)∧f 1=.int .i64 4∧f 12=.list [nv kd b t l p s r]∧f 13=.int .i64 1∧f 14=.int .i64 (i:Nat)∧∀s∈[7],(fr s).isRow=false

include hl hp hs hr in
theorem QQ9:Qk Tryz.prog 173 [.list [nv kd b t l p s r],.int .i64 4] (.int .i64 (if Xo 7 kd b t l p s r=true then 0 else 12)):=by
 have b0:decide (((1:Nat):Int) > 8)=false:=rfl;refine QNF.fn (by simp) ?_;simp only[QXH,QYo,QX8,Qa,seval];refine Qd (NcI kd b t l p s r) 1 ⟨_,_,0,rfl,rfl,QXA _,fun _=>⟨[],(by rfl)⟩,(fun h=>by cases h),(by rfl),(by rfl),(by rfl),(by rfl),by simp<;>rfl⟩ ?_;rintro _ st ⟨f0,fr0,i,rfl,rfl,hi,hl5,hf,h10,h120,h130,h140,r7⟩;refine QJ (a:=_) [7] r7 ?_;intro f fr hff hm hn7;have h1:f 1=.int .i64 4:=by rw[hff,h10]<;>rfl
 have h12:f 12=.list [nv kd b t l p s r]:=by rw[hff,h120]<;>rfl
 have h13:f 13=.int .i64 1:=by rw[hff,h130]<;>rfl
 have h14:f 14=.int .i64 (i:Nat):=by rw[hff,h140]<;>rfl
 have h5:i=0→∃last,f 5=.str last:=fun h=>by
  obtain⟨la,e⟩:=hl5 h;exact⟨la,by rw[hff,e]<;>rfl⟩
 have n7:=hn7 7 (by decide);clear hff hm hn7 h10 h120 h130 h140 r7 hl5;have ho:=fun la=>QQ8 kd b t l p s r hl hp hs hr la
 simp only[nv]at ho h12;simp only[h13,h14,Qa,seval];rcases Nat.le_one_iff_eq_zero_or_eq_one.1 hi with rfl|rfl
 ·obtain⟨la,h5⟩:=h5 rfl;have c0:decide (((0:Nat):Int)<1)=true:=rfl;have c1:decide (((0:Nat):Int) > 0)=false:=rfl;have e1:IntKind.i64.wrap (((0:Nat):Int)+1)=((1:Nat):Int):=rfl;have z0:(0≤((0:Nat):Int))=True:=by simp
  have z1:Int.toNat ((0:Nat):Int)=0:=rfl;simp only[Qb,n7,h1,h5,h12,h14,eE,seval];refine aC (ho la) ?_;cases hfv:Xo 7 kd b t l p s r
  ·have d0:((12:Int) != 0)=true:=rfl;simp only[d0,QXL,Qa,seval]
  ·have d0:((0:Int) != 0)=false:=rfl;simp only[d0,h14,eE,seval];exact⟨0,by omega,_,_,1,rfl,rfl,QXq _,(fun h=>by cases h),fun _=>hfv,(by exact h1),(by exact h12),(by exact h13),(by rfl),by simp<;>rfl⟩
 ·have c0:decide (((1:Nat):Int)<1)=false:=rfl;simp only[hf rfl,Qa,seval]

end

theorem Ci {M:Nat}{n:PN}(h:n.ok Tryz.prog M 32)(hM:M≤140737488351232):∃kd b t l p s r,n.val=[.int .i64 kd,.int .u64 ((b:Nat):Int),.str t,.list l,.list p,.list s,.list r]∧t.length≤M∧l.length≤140737488351232∧p.length≤140737488351232∧s.length≤140737488351232∧r.length≤140737488351232:=by
 obtain⟨_,k,hk⟩:=h;obtain⟨k,h⟩:=Zc Tryz.underlying32 hk;simp only[Q8.HasL]at h;obtain⟨_,_,e,h0,_,_,rfl,h1,_,_,rfl,h2,_,_,rfl,h3,_,_,rfl,h4,_,_,rfl,h5,_,_,rfl,h6,rfl⟩:=h;obtain⟨a0,rfl,w0⟩:=Xx Tryz.underlying3 h0;obtain⟨a1,rfl,w1⟩:=Xx Tryz.underlying26 h1;obtain⟨a2,rfl,w2⟩:=Jz Tryz.underlying9 h2;obtain⟨_,l3,rfl,w3,_⟩:=Wh Tryz.underlying27 h3;obtain⟨_,l4,rfl,w4,_⟩:=Wh Tryz.underlying28 h4;obtain⟨_,l5,rfl,w5,_⟩:=Wh Tryz.underlying29 h5;obtain⟨_,l6,rfl,w6,_⟩:=Wh Tryz.underlying30 h6;have hb:0≤a1:=FZ w1;obtain⟨b,rfl⟩:=QY5 hb;exact⟨a0,b,a2,_,_,_,_,e,w2,by simp;omega,by simp;omega,by simp;omega,by simp;omega⟩

theorem QRa {M:Nat}(hM:M≤140737488351232)(x:PI)(hx:x.ok M)(m:Qo):Qg Tryz.prog 172 [Q4 x] m fun y m1=>y=.bool (!Z2 x)∧m1=m:=by
 have z0:(0≤(0:Int))=True:=by simp
 have z1:Int.toNat 0=0:=rfl;refine QNC.go (by simp) ?_;simp only[Q4,PI.cells,QYn,eE,seval];rcases hn:x.notes with _|⟨n,_|⟨n2,ns⟩⟩
 ·have c0:decide (((0:Nat):Int) > 1)=false:=rfl;have c1:(((0:Nat):Int)==1)=false:=rfl;have e:Z2 x=true:=by unfold Z2;rw[hn]
  simp only[QYo,QYt,e,QY4,eE,seval]
 ·obtain⟨kd,b,t,l,p,s,r,hv,ht,h3,h4,h5,h6⟩:=Ci (hx.notes n (by rw[hn];simp)) hM;have c0:decide (((1:Nat):Int) > 1)=false:=rfl;have c1:(((1:Nat):Int)==1)=true:=rfl;have e:Z2 x=(n.name==alias&&Xo 7 kd b t l p s r):=by
   unfold Z2;rw[hn];show(n.name==alias&&nok n.val)=_;rw[hv];rfl
  have en:Xw n.cells=.agg [.str n.name,.int .i64 kd,.int .u64 ((b:Nat):Int),.str t,.list l,.list p,.list s,.list r]:=by
   rw[PN.cells,hv];rfl
  have hne:(!(n.name==[97,108,105,97,115]))=!(n.name==alias):=rfl;have hc:=QQ9 kd b t l p s r h3 h4 h5 h6;simp only[nv]at hc;simp only[QXH,QYo,QXY,QYt,QX8,en,Qb,z0,z1,QYu,QI,hne,e,eE,seval];by_cases ha:n.name=alias
  ·have b0:(n.name==alias)=true:=by simp[ha]
   rw[←ha]at hc;simp only[b0,QY4,QY3,eE,seval];refine aC hc ?_;cases Xo 7 kd b t l p s r
   ·have d0:((12:Int) != 0)=true:=rfl;simp only[QXL,d0,QYz,Qa,seval]
   ·have d0:((0:Int) != 0)=false:=rfl;simp only[d0,QY4,Qa,seval]
  ·have b0:(n.name==alias)=false:=by simp[ha]
   simp only[b0,QYz,QYW,Qa,seval]
 ·have c0:decide ((((ns.length+1+1:Nat)):Int) > 1)=true:=QZi (by omega);have e:Z2 x=false:=by unfold Z2;rw[hn]
  simp only[QXH,c0,e,QYz,Qa,seval]

theorem QRb {M:Nat}(hM:M≤140737488351232)(x:PE)(hx:x.ok M)(m:Qo):Qg Tryz.prog 171 [Qq x] m fun y m1=>y=.bool (!Kz x)∧m1=m:=by
 have n1:decide ((x.notes.length:Int) > 0)=!x.notes.isEmpty:=by
  cases x.notes with
  |nil=>rfl
  |cons a l=>simp
 refine QNz.go (by simp) ?_;simp only[Qq,PE.cells,QYn,Kz,n1,eE,seval];cases a1:x.notes.isEmpty
 ·simp only[QYz,QYW,Qa,seval]
 simp only[QY4,QY3,eE,seval];refine Qj (Cc x.items hx.len1 (fun o=>!Z2 o) 172 [] _ fun o ho=>QRa hM o (hx.items o ho) _) (by simp only[QXY,QYt,Qa,seval]<;>rfl) ?_;simp only[Xr,Qa,seval]

theorem z88 {M:Nat}(hM:M≤140737488351232)(P:PL)(hP:P.ok M)(hl:∀g∈P.progs,g.ops.length≤64):Qk Tryz.prog 88 [P.av] (.bool (!args P)):=by
 have e0:P.av=.agg [.list (P.progs.map Qh),.list (P.enums.map Qq)]:=rfl;refine k88.fn (by simp) ?_;simp only[e0,args,eE,seval];refine Qj (Ds P.progs hP.len1 (fun g=>!Jb P g) 165 [.ptr 0 1 0] _ fun o ho=>QQ5 P o (QXr (hl o ho) (by decide)) _ (by rfl)) (by simp only[QXY,QYt,Qa,seval]<;>rfl) ?_;simp only[Xr,Qa,seval];cases P.progs.all (Jb P)
 ·simp only[QYz,QYW,Qa,seval]
 simp only[QY4,QY3,eE,seval];refine Qj (HF P.enums hP.len2 (fun g=>!Kz g) 171 [] _ fun o ho=>QRb hM o (hP.enums o ho) _) (by simp only[QXY,QYt,Qa,seval]<;>rfl) ?_;simp only[Xr,Qa,seval]

def XE (B:List Bool)(o:PO):Bool:=o.card==1&&o.kind==10 && !(B[o.target.toNat]?.getD false)
def Uw (G:List PG)(B:List Bool)(i:Nat):List Bool:=match G[i]? with
 |some g=>B.set i (!g.ops.any (XE B))
 |none=>B
def Jg (G:List PG)(B:List Bool):Nat→List Bool
 |0=>B
 |i+1=>Uw G (Jg G B i) i
def Qe (G:List PG):Nat→List Bool
 |0=>List.replicate G.length false
 |c+1=>Jg G (Qe G c) G.length
def fin (P:PL):Bool:=(Qe P.progs P.progs.length).all id

def Pn (P:PL):Prop:=∀g∈P.progs,∀o∈g.ops,o.kind=10→0≤o.target∧o.target<(P.progs.length:Int)

theorem Qaw (G:List PG)(B:List Bool)(i:Nat):(Uw G B i).length=B.length:=by
 unfold Uw;split<;>simp
theorem UV (G:List PG)(B:List Bool):∀i,(Jg G B i).length=B.length
 |0=>rfl
 |i+1=>by rw[Jg,Qaw,UV G B i]
theorem UW (G:List PG):∀c,(Qe G c).length=G.length
 |0=>by simp[Qe]
 |c+1=>by rw[Qe,UV,UW G c]

def Vb (G:List PG)(B:List Bool):Prop:=∀(i:Nat) (g:PG),G[i]? = some g→B[i]? = some true→g.ops.any (XE B)=false

theorem Po {B B':List Bool}(h:∀k:Nat,B[k]?.getD false=true→B'[k]?.getD false=true){o:PO}(hn:XE B o=false):XE B' o=false:=by
 unfold XE at *;cases hc:(o.card==1&&o.kind==10)
 ·rfl
 ·rw[hc]at hn;simp only[QY3,Bool.not_eq_false']at hn ⊢;rw[h _ hn]

theorem Qax {G:List PG}{B:List Bool}(h:Vb G B)(i:Nat):Vb G (Uw G B i)∧∀k:Nat,B[k]?.getD false=true→(Uw G B i)[k]?.getD false=true:=by
 have mono:∀k:Nat,B[k]?.getD false=true→(Uw G B i)[k]?.getD false=true:=by
  intro k hk;unfold Uw;split
  ·rename_i g hg;by_cases hki:i=k
   ·subst hki;have hb:B[i]? = some true:=by
     cases hB:B[i]? with
     |none=>rw[hB]at hk;cases hk
     |some b=>rw[hB]at hk;simp at hk;rw[hk]
    have hlt:=(QXs.1 hb).1;rw[List.getElem?_set_self hlt,h i g hg hb];rfl
   ·rw[QZo hki];exact hk
  ·exact hk
 refine⟨fun j g hg hb=>?_,mono⟩;rw[List.any_eq_false];intro o ho;rw[QZp];have hB:B[j]? = some true∨g.ops.any (XE B)=false:=by
  unfold Uw at hb;split at hb
  ·rename_i g' hg';by_cases hij:i=j
   ·subst hij;rw[hg]at hg';cases hg'
    right
    by_cases hlt:i<B.length
    ·rw[List.getElem?_set_self hlt]at hb
     simpa using hb
    ·rw[QYQ (by simp;omega)]at hb;cases hb
   ·rw[QZo hij]at hb;exact .inl hb
  ·exact .inl hb
 have ha:g.ops.any (XE B)=false:=hB.elim (h j g hg) id;rw[List.any_eq_false]at ha;exact Po mono (by simpa using ha o ho)

theorem Du {G:List PG}{B:List Bool}(h:Vb G B):∀i,Vb G (Jg G B i)
 |0=>h
 |i+1=>(Qax (Du h i) i).1
theorem Vc (G:List PG):∀c,Vb G (Qe G c)
 |0=>by
  intro i g _ hb;rw[Qe,List.getElem?_replicate]at hb;split at hb<;>cases hb
 |c+1=>Du (Vc G c) _

theorem QwO {G:List PG}{B:List Bool}(h:Vb G B){i:Nat}{g:PG}{b:Bool}(hg:G[i]? = some g)(hb:B[i]? = some b):Uw G B i=B.set i (b || !g.ops.any (XE B)):=by
 unfold Uw;rw[hg];cases b with
 |false=>rfl
 |true=>
  show B.set i _=B.set i (true||_);rw[h i g hg hb];rfl

theorem Cj {P:Program}{f:Fr}{d:Nat}{Qe:List Am.Item}{m:Qo}{ds:List DF}{K:St→Prop}{k l s:Nat}{args:List RA}{ys:List AV}{v:AV}(hk:Qg P k ys m fun x m1=>x=v∧m1=m)(hy:args.map (RA.ev f)=ys)(h:QD P Qe ⟨QK f d v,m,ds⟩ K) :
  QD P (⟨some d,.callK l s (.f k) args,none⟩ :: Qe) ⟨f,m,ds⟩ K:=by
 refine⟨k,[],[],v,m,rfl,?_,rfl,h⟩;show Qg P k (args.map (RA.ev f)++[]) m fun x m1=>x=v∧m1=m
 rw[QYv,hy];exact hk

theorem QRc (B:List Bool)(hl:B.length≤maxLen):Qk Tryz.prog 219 [.list (B.map AV.bool),.bool false] (.int .i64 (QU (fun b=>!b) B 0)):=by
 let I:Nat→St→Prop:=fun k st=>∃f i,st=⟨f,[Qc],[]⟩∧k=B.length-i∧QU (fun b=>!b) B 0=QU (fun b=>!b) (B.drop i) i∧f 0=.list (B.map AV.bool)∧f 1=.bool false∧f 7=.int .i64 (B.length:Nat)∧f 8=.int .i64 (i:Nat)
 refine QjY.fn (by simp) ?_;simp only[QYn,Qa,seval];refine Qd I _ ⟨_,0,rfl,rfl,rfl,(by rfl),(by rfl),(by rfl),(by rfl)⟩ ?_;rintro _ st ⟨f,i,rfl,rfl,hx,h0,h1,h7,h8⟩;simp only[h7,h8,Qa,seval];by_cases hlt:i<B.length
 ·obtain⟨x,hi⟩:∃x,B[i]? = some x:=⟨B[i],QXt hlt⟩;have hg:(B.map AV.bool)[i]? = some (.bool x):=by simp[hi]
  have e1:=Ql i _ hlt hl;rw[XV _ hi]at hx;cases x
  ·rw[QXV (show(!false)=true from rfl)]at hx;have b0:(false==false)=true:=rfl;simp only[Qm hlt,Qi,QYT,Qb,hg,b0,h0,h1,h8,hx,eE,seval]
  ·rw[QXG (by decide)]at hx;have b0:(false==true)=false:=rfl;simp only[Qm hlt,Qi,QYT,Qb,hg,b0,h0,h1,h8,e1,eE,seval];exact⟨B.length-(i+1),by omega,_,i+1,rfl,rfl,hx,(by exact h0),(by exact h1),(by exact h7),(by rfl)⟩
 ·have hx':QU (fun b=>!b) B 0 = -1:=by rw[hx,QX3 (by omega)];rfl
  simp only[Qw hlt,hx',Qa,seval]

theorem QRd (B:List Bool)(hl:B.length≤maxLen):Qk Tryz.prog 175 [.list (B.map AV.bool),.bool false] (.bool (!B.all id)):=by
 have e:(!B.all id)=B.any fun b=>!b:=by rw[Xr];rfl
 refine QgE.fn (by simp) ?_;simp only[Qa,seval];refine aC (QRc B hl) ?_;simp only[JQ,e,Qa,seval]

theorem QRe (o:PO)(n:Nat)(B:List Bool)(hB:B.length=n)(ht:o.kind=10→0≤o.target∧o.target<(n:Int))(fr:Nat→Ob)(m:Qo)(h3:fr 3=.cells [.vec 0 9 1 0 n false])(h9:fr 9=.vec 1 1 (B.map AV.bool)) :
  Qg Tryz.prog 174 [Qr o,.ptr 3 3 0] (Qc :: Qc :: Qc :: fr :: m) fun y m1=>y=.bool (XE B o)∧m1=Qc :: Qc :: Qc :: fr :: m:=by
 refine Qgz.go (by simp) ?_;simp only[Qr,PO.cells,XE,eE,seval];cases a1:(o.card==1)
 ·simp only[QYW,Qa,seval]
 cases a2:(o.kind==10)
 ·simp only[a2,QYW,QZk,eE,seval]
 obtain⟨t1,t2⟩:=ht (by simpa using a2);obtain⟨t,hte⟩:=QY5 t1;obtain⟨y,hy⟩:∃y,B[t]? = some y:=⟨B[t]'(by omega),QXt (by omega)⟩;have hg:(B.map AV.bool)[t]? = some (.bool y):=by simp[hy]
 have hlt:(t<n)=True:=eq_true (by omega);simp only[a2,hte,hy,hg,hlt,h3,h9,Qb,Qi,QYT,QYC,QY3,QX8,eE,seval]

structure En (P:PL)(c:Nat)(B:List Bool)(f:Fr)(fr:Nat→Ob):Prop where
 h1:f 1=.ptr 0 1 0
 m1:fr 1=.cells [.list (P.progs.map Qh),.list (P.enums.map Qq)]
 h3:f 3=.ptr 0 3 0
 m3:fr 3=.cells [.vec 0 9 1 0 P.progs.length false]
 m9:fr 9=.vec 1 1 (B.map AV.bool)
 h12:f 12=.int .i64 (P.progs.length:Nat)
 h13:f 13=.int .i64 (c:Nat)
 r5:∀s∈[5],(fr s).isRow=false

theorem En.drop {P:PL}{c:Nat}{B:List Bool}{f f':Fr}{fr fr':Nat→Ob}(h:En P c B f fr)(hf:∀i,f' i=VX [5] (f i))(hm:∀i,i∉[5]→fr' i=Gk [5] (fr i))(hn:∀i∈[5],fr' i=.none):En P c B f' fr' where
 h1:=by rw[hf,h.h1]<;>rfl
 m1:=by rw[hm 1 (by decide),h.m1]<;>rfl
 h3:=by rw[hf,h.h3]<;>rfl
 m3:=by rw[hm 3 (by decide),h.m3]<;>rfl
 m9:=by rw[hm 9 (by decide),h.m9]<;>rfl
 h12:=by rw[hf,h.h12]<;>rfl
 h13:=by rw[hf,h.h13]<;>rfl
 r5:=fun s hs=>by rw[hn s hs]<;>rfl

def EnA (P:PL)(k:Nat)(st:St):Prop:=∃f fr c,st=⟨f,[fr],[]⟩∧k=P.progs.length-c∧c≤P.progs.length∧En P c (Qe P.progs c) f fr
def EnB (P:PL)(c:Nat)(k:Nat)(st:St):Prop:=∃f fr i,st=⟨f,[fr],[]⟩∧k=P.progs.length-i∧i≤P.progs.length∧En P c (Jg P.progs (Qe P.progs c) i) f fr∧f 16=.list (P.progs.map Qh)∧f 17=.int .i64 (P.progs.length:Nat)∧f 18=.int .i64 (i:Nat)

theorem z89 {M:Nat}(P:PL)(hP:P.ok M)(hl:P.progs.length≤64)(hT:Pn P):Qk Tryz.prog 89 [P.av] (.bool (!fin P)):=by
 have e0:P.av=.agg [.list (P.progs.map Qh),.list (P.enums.map Qq)]:=rfl;have hmx:P.progs.length≤maxLen:=by simp only[maxLen];omega
 have hz:JM 1 [AV.bool false]=.bool false:=rfl;have hr0:(List.replicate P.progs.length (AV.bool false))=(Qe P.progs 0).map AV.bool:=by simp[Qe]
 refine k89.fn (by simp) ?_;simp only[e0,QYn,eE,seval];refine US (n:=P.progs.length) (k:=P.progs.length) rfl rfl (QXq _) (by omega) (by omega) rfl ?_;simp only[hz,hr0,QYn,eE,seval];refine Qd (EnA P) _ ⟨_,_,0,rfl,rfl,QXA _,⟨(by rfl),(by rfl),(by rfl),(by rfl),(by rfl),(by rfl),(by rfl),by simp<;>rfl⟩⟩ ?_;rintro _ st ⟨f0,fr0,c,rfl,rfl,hc,H0⟩;refine QJ (a:=_) [5] H0.r5 ?_;intro f fr hf hm hn;have H:=H0.drop hf hm hn;clear hf hm hn;obtain⟨h1,m1,h3,m3,m9,h12,h13,r5⟩:=id H;simp only[h12,h13,Qa,seval];by_cases hlt:c<P.progs.length
 ·have e1:=Ql c _ hlt hmx;simp only[Qm hlt,h1,m1,QYn,eE,seval];refine Qd (EnB P c) _ ⟨_,_,0,rfl,rfl,QXA _,⟨(by exact h1),(by exact m1),(by exact h3),(by exact m3),(by exact m9),(by exact h12),(by exact h13),r5⟩,(by rfl),(by rfl),(by rfl)⟩ ?_;rintro _ st ⟨f0,fr0,i,rfl,rfl,hi,H0,h160,h170,h180⟩;refine QJ (a:=_) [5] H0.r5 ?_;intro f fr hf hm hn;have H:=H0.drop hf hm hn;have h16:f 16=.list (P.progs.map Qh):=by rw[hf,h160]<;>rfl
  have h17:f 17=.int .i64 (P.progs.length:Nat):=by rw[hf,h170]<;>rfl
  have h18:f 18=.int .i64 (i:Nat):=by rw[hf,h180]<;>rfl
  have n5:=hn 5 (by decide);clear hf hm hn;obtain⟨h1,m1,h3,m3,m9,h12,h13,r5⟩:=id H;simp only[h17,h18,Qa,seval];by_cases hli:i<P.progs.length
  ·obtain⟨g,hg⟩:∃g,P.progs[i]? = some g:=⟨P.progs[i],QXt hli⟩;have hgm:(P.progs.map Qh)[i]? = some (Qh g):=by simp[hg]
   have hBl:(Jg P.progs (Qe P.progs c) i).length=P.progs.length:=by rw[UV,UW]
   obtain⟨b,hb⟩:∃b,(Jg P.progs (Qe P.progs c) i)[i]? = some b:=⟨_,QXt (by omega)⟩;have hbm:((Jg P.progs (Qe P.progs c) i).map AV.bool)[i]? = some (.bool b):=by simp[hb]
   have hst:=QwO (Du (Vc P.progs c) i) hg hb;have e2:=Ql i _ hli hmx;have s1:(i<P.progs.length)=True:=eq_true hli;have hTg:=hT g (QXF hg);generalize hBB:Jg P.progs (Qe P.progs c) i=B at *;have fin2:∀(f':Fr) (fr':Nat→Ob) (v:Bool),(b || !g.ops.any (XE B))=v→f' 1=.ptr 0 1 0→fr' 1=.cells [.list (P.progs.map Qh),.list (P.enums.map Qq)]→f' 3=.ptr 0 3 0→fr' 3=.cells [.vec 0 9 1 0 P.progs.length false]→
     fr' 9=.vec 1 1 ((B.map AV.bool).set i (.bool v))→f' 12=.int .i64 (P.progs.length:Nat)→f' 13=.int .i64 (c:Nat)→(∀s∈[5],(fr' s).isRow=false)→f' 16=.list (P.progs.map Qh)→f' 17=.int .i64 (P.progs.length:Nat)→f' 18=.int .i64 ((i+1:Nat):Int)→∃k,k<P.progs.length-i∧EnB P c k ⟨f',[fr'],[]⟩:=by
    intro f' fr' v hv a1 a2 a3 a4 a5 a6 a7 a8 a9 a10 a11;have hB':Jg P.progs (Qe P.progs c) (i+1)=B.set i v:=by rw[Jg,hBB,hst,hv]
    exact⟨P.progs.length-(i+1),by omega,f',fr',i+1,rfl,rfl,by omega,⟨a1,a2,a3,a4,by rw[hB',a5,List.map_set],a6,a7,a8⟩,a9,a10,a11⟩
   have ist:∀(fr':Nat→Ob) (v:Bool),fr' 9=.vec 1 1 (B.map AV.bool)→QV [fr'] (.vptr 0 9 1 i 0) [.bool v]=some [QK fr' 9 (.vec 1 1 ((B.map AV.bool).set i (.bool v)))]:=by
    intro fr' v h9;have e:Am.Qf [fr'] 0 9=.vec 1 1 (B.map AV.bool):=h9;simp only[QV,e,hbm];simp[AV.cells,AV.rfL,AV.rf,Am.put,ZL]
   have ia:∀fr':Nat→Ob,fr' 9=.vec 1 1 (B.map AV.bool)→Qb [fr'] 1 none (.vec 0 9 1 0 P.progs.length false) (i:Int)=some (.vptr 0 9 1 i 0):=by
    intro fr' h9;have e:Am.Qf [fr'] 0 9=.vec 1 1 (B.map AV.bool):=h9;simp only[Qb,e,Qi,if_true,QYT];simp;omega
   have hcl:=fun(fr':Nat→Ob) (h3:fr' 3=.cells [.vec 0 9 1 0 P.progs.length false]) (h9:fr' 9=.vec 1 1 (B.map AV.bool))=>Bz g.ops (hP.progs g (QXF hg)).len (XE B) 174 [.ptr 0 3 0] [fr'] fun o ho=>QRe o P.progs.length B hBl (hTg o ho) fr' _ h3 h9
   simp only[Qm hli,Qi,QYT,Qb,hgm,Qh,PG.cells,n5,hbm,s1,QX8,h3,h16,h18,m3,m9,eE,seval];cases b
   ·simp only[eE,seval];refine Cj (hcl _ (by exact m3) (by exact m9)) (by simp only[QXY,QYt,h3,Qa,seval]<;>rfl) ?_;generalize hav:g.ops.any (XE B)=av;rw[hav]at fin2;simp only[ia,ist,h18,m9,e2,eE,seval];exact fin2 _ _ _ rfl (by exact h1) (by exact m1) (by exact h3) (by exact m3) (by rfl) (by exact h12) (by exact h13) (by simp<;>rfl) (by exact h16) (by exact h17) (by rfl)
   ·simp only[ia,ist,h18,m9,e2,eE,seval];exact fin2 _ _ _ rfl (by exact h1) (by exact m1) (by exact h3) (by exact m3) (by rfl) (by exact h12) (by exact h13) (by simp<;>rfl) (by exact h16) (by exact h17) (by rfl)
  ·have hii:i=P.progs.length:=by omega
   subst hii;simp only[Qw hli,h13,e1,Qa,seval];exact⟨P.progs.length-(c+1),by omega,_,_,c+1,rfl,rfl,by omega,⟨(by exact h1),(by exact m1),(by exact h3),(by exact m3),m9,(by exact h12),(by rfl),r5⟩⟩
 ·have hcc:c=P.progs.length:=by omega
  subst hcc;have hBl:=UW P.progs P.progs.length;simp only[Qw hlt,h3,m3,eE,seval];refine Xv (QRd (Qe P.progs P.progs.length) (by omega)) ?_ rfl rfl (.inr rfl) ?_
  ·have el:Am.Qf [fr] 0 9=.vec 1 1 ((Qe P.progs P.progs.length).map AV.bool):=m9;simp only[QXY,QYt,AV.stillL,AV.still,el,Qa,seval];have hle:(0+P.progs.length≤((Qe P.progs P.progs.length).map AV.bool).length)=True:=eq_true (by simp;omega);have ht:((Qe P.progs P.progs.length).map AV.bool).take P.progs.length=(Qe P.progs P.progs.length).map AV.bool:=QX0 (by simp;omega);simp only[QYW,QXL,if_false,hle,if_true,ht]
  ·simp only[fin,Qa,seval]

def ck (P:PL):Int :=
 if Hp P=false then 3 else if Bv P=false then 8 else if Hq P=false then 11 else if Bw P=false then 9 else if Bx P=false then 6 else if args P=false then 1 else if fin P=false then 19 else 0

theorem Ux {P:PL}(h:Hp P=true):P.progs.length≤64∧P.enums.length≤64∧(∀g∈P.progs,g.ops.length≤64)∧∀e∈P.enums,1≤e.items.length∧e.items.length≤64∧e.free.length≤16:=by
 unfold Hp at h;simp only[QXQ,QXx,QXE]at h;obtain⟨⟨⟨h1,h2⟩,h3⟩,h4⟩:=h;refine⟨h1,h2,fun g hg=>?_,fun e he=>?_⟩
 ·have:=h3 g hg;unfold Ja at this;exact of_decide_eq_true this
 ·have:=h4 e he;unfold JD at this;simp only[QXQ,QXx]at this;exact⟨this.1.1,this.1.2,this.2⟩

theorem BI {P:PL}(h:args P=true):Pn P:=by
 intro g hg o ho hk;unfold args at h;simp only[QXQ,QXE]at h;have h1:=h.1 g hg;unfold Jb at h1;simp only[QXQ,QXE]at h1;have h2:=(h1.2 o ho).1;unfold X9 at h2;simp only[QXQ]at h2;have h3:=h2.2;unfold GF at h3;rw[QXV hk]at h3;simp only[QXQ,QXx]at h3;exact⟨h3.1.1,h3.1.2⟩

theorem QRf {M:Nat}(P:PL)(hP:P.ok M)(hM:M≤140737488351232)(hN1:∀g∈P.progs,g.name.length≤17592186044000)(hN2:∀g∈P.enums,g.name.length≤17592186044000):Qk Tryz.prog 54 [P.av] (.int .i64 (ck P)):=by
 have e0:P.av=.agg [.list (P.progs.map Qh),.list (P.enums.map Qq)]:=rfl;have c1:=z83 P hP;have c2:=QQw P hP hN1 hN2;have c3:=z85 P hP;have c4:=z86 P hP;refine k54.fn (by simp) ?_;simp only[e0,ck,eE,seval];refine aC c1 ?_;cases hl:Hp P
 ·simp only[QYz,Qa,seval]
 obtain⟨l1,l2,l3,l4⟩:=Ux hl;have c5:=z87 P hP fun e he h=>by have:=(l4 e he).1;rw[h]at this;simp at this
 have c6:=z88 hM P hP l3;simp only[QY4,QZq,eE,seval];refine aC c2 ?_;cases Bv P
 ·simp only[QYz,Qa,seval]
 simp only[QY4,QZq,eE,seval];refine aC c3 ?_;cases Hq P
 ·simp only[QYz,Qa,seval]
 simp only[QY4,QZq,eE,seval];refine aC c4 ?_;cases Bw P
 ·simp only[QYz,Qa,seval]
 simp only[QY4,QZq,eE,seval];refine aC c5 ?_;cases Bx P
 ·simp only[QYz,Qa,seval]
 simp only[QY4,QZq,eE,seval];refine aC c6 ?_;cases ha:args P
 ·simp only[QYz,Qa,seval]
 have c7:=z89 P hP l1 (BI ha);simp only[QY4,QZq,eE,seval];refine aC c7 ?_;cases fin P
 ·simp only[QYz,Qa,seval]
 ·simp only[QY4,QZq,Qa,seval]

def Pc (P:PL):List AV:=[.list (P.progs.map Qh),.list (P.enums.map Qq)]

theorem Jr (b:Bool)(q:Nat→Bool)(i:Nat):(b&&QB q (i+1))=((b&&QB q i)&&q i):=by rw[QB,QYc]

section
variable {M:Nat}(P:PL)(hP:P.ok M)(fr:Nat→Ob)(m1:fr 1=.cells (Pc P))(f:Fr)(b:Bool)(h1:f 1=.ptr 0 1 0)(h3:f 3=.bool b)(Q:Exit→St→Prop)
include hP m1 h1 h3

theorem Ck (ha:f 4=.int .i64 0)(hx:∀f,f 1=.ptr 0 1 0→f 3=.bool (b&&P.progs.all Ja)→Q (.exit 0) (⟨f,[fr],[]⟩:St)):QH Tryz.prog (.loop SN) ⟨f,[fr],[]⟩ Q:=by
 let I:Nat→St→Prop:=fun k st=>∃f i,st=⟨f,[fr],[]⟩∧k=P.progs.length-i∧i≤P.progs.length∧f 1=.ptr 0 1 0∧f 3=.bool (b&&(P.progs.take i).all Ja)∧f 4=.int .i64 (i:Nat)
 refine Qd I _ ⟨f,0,rfl,rfl,QXA _,h1,by rw[h3];simp,ha⟩ ?_;clear h1 h3 ha;simp only[Pc]at m1;rintro _ st ⟨f,i,rfl,rfl,hi,h1,h3,ha⟩;simp only[QYn,h1,m1,ha,eE,seval];by_cases hlt:i<P.progs.length
 ·obtain⟨x,hg⟩:∃x,P.progs[i]? = some x:=⟨P.progs[i],QXt hlt⟩;have hgm:(P.progs.map Qh)[i]? = some (.agg x.cells):=by simp[hg,Qh]
  have e1:=Ql i _ hlt hP.len1;have ht:=Q6 (q:=Ja) hg;have e3:decide ((x.ops.length:Int)≤64)=Ja x:=by unfold Ja ;exact(by rw[QYm];simp only[QXx];omega)
  have fin:∀f':Fr,f' 1=.ptr 0 1 0→f' 3=.bool ((b&&(P.progs.take i).all Ja)&&Ja x)→f' 4=.int .i64 ((i+1:Nat):Int)→∃k,k<P.progs.length-i∧I k ⟨f',[fr],[]⟩:=by
   intro f' a1 a3 a4;exact⟨P.progs.length-(i+1),by omega,f',i+1,rfl,rfl,by omega,a1,by rw[a3,ht,QYc],a4⟩
  simp only[PG.cells]at hgm;cases hb:(b&&(P.progs.take i).all Ja)
  ·rw[hb]at fin h3;simp only[Qm hlt,h3,ha,e1,Qa,seval];exact fin _ (by exact h1) (by rfl) (by rfl)
  ·rw[hb,QY3]at fin;rw[hb]at h3
   skip
   all_goals
    try rw[c1]at e3
    try rw[c2]at e3
    simp only[Qm hlt,Qi,QYT,Qb,hgm,QYn,h1,m1,h3,ha,e1,e3,eE,seval];exact fin _ (by exact h1) (by rw[←e3]<;>first|rfl|simp only[eE,seval]) (by rfl)
 ·have hf:(P.progs.take i).all Ja=P.progs.all Ja:=by rw[QX0 (by omega)]
  rw[hf]at h3;simp only[Qw hlt,Qa,seval];exact hx _ (by exact h1) (by exact h3)

theorem Cm (ha:f 5=.int .i64 0)(hx:∀f,f 1=.ptr 0 1 0→f 3=.bool (b&&P.enums.all JD)→Q (.exit 2) (⟨f,[fr],[]⟩:St)):QH Tryz.prog (.loop SO) ⟨f,[fr],[]⟩ Q:=by
 let I:Nat→St→Prop:=fun k st=>∃f i,st=⟨f,[fr],[]⟩∧k=P.enums.length-i∧i≤P.enums.length∧f 1=.ptr 0 1 0∧f 3=.bool (b&&(P.enums.take i).all JD)∧f 5=.int .i64 (i:Nat)
 refine Qd I _ ⟨f,0,rfl,rfl,QXA _,h1,by rw[h3];simp,ha⟩ ?_;clear h1 h3 ha;simp only[Pc]at m1;rintro _ st ⟨f,i,rfl,rfl,hi,h1,h3,ha⟩;simp only[QYn,h1,m1,ha,eE,seval];by_cases hlt:i<P.enums.length
 ·obtain⟨x,hg⟩:∃x,P.enums[i]? = some x:=⟨P.enums[i],QXt hlt⟩;have hgm:(P.enums.map Qq)[i]? = some (.agg x.cells):=by simp[hg,Qq]
  have e1:=Ql i _ hlt hP.len2;have ht:=Q6 (q:=JD) hg;have e3:(decide ((x.items.length:Int)≥1)&&(decide ((x.items.length:Int)≤64)&&decide ((x.free.length:Int)≤16)))=JD x:=by unfold JD ;exact(by rw[QYm];simp only[QXx,QXQ];omega)
  have fin:∀f':Fr,f' 1=.ptr 0 1 0→f' 3=.bool ((b&&(P.enums.take i).all JD)&&JD x)→f' 5=.int .i64 ((i+1:Nat):Int)→∃k,k<P.enums.length-i∧I k ⟨f',[fr],[]⟩:=by
   intro f' a1 a3 a4;exact⟨P.enums.length-(i+1),by omega,f',i+1,rfl,rfl,by omega,a1,by rw[a3,ht,QYc],a4⟩
  simp only[PE.cells]at hgm;cases hb:(b&&(P.enums.take i).all JD)
  ·rw[hb]at fin h3;simp only[Qm hlt,Qi,QYT,Qb,hgm,QYn,h1,m1,h3,ha,e1,eE,seval];exact fin _ (by exact h1) (by rfl) (by rfl)
  ·rw[hb,QY3]at fin;rw[hb]at h3
   (cases c1:decide ((x.items.length:Int)≥1)<;>cases c2:decide ((x.items.length:Int)≤64))
   all_goals
    try rw[c1]at e3
    try rw[c2]at e3
    simp only[Qm hlt,Qi,QYT,Qb,hgm,QYn,h1,m1,h3,ha,e1,c1,c2,eE,seval];exact fin _ (by exact h1) (by rw[←e3]<;>first|rfl|simp only[eE,seval]) (by rfl)
 ·have hf:(P.enums.take i).all JD=P.enums.all JD:=by rw[QX0 (by omega)]
  rw[hf]at h3;simp only[Qw hlt,Qa,seval];exact hx _ (by exact h1) (by exact h3)

theorem GH (j:Nat)(x:PG)(hj:P.progs[j]? = some x)(ha:f 4=.int .i64 (j:Nat))(hc:f 5=.int .i64 0)(hx:∀f,f 1=.ptr 0 1 0→f 3=.bool (b&&x.ops.all fun o=>XM o.name)→f 4=.int .i64 (j:Nat)→Q (.exit 2) (⟨f,[fr],[]⟩:St)):QH Tryz.prog (.loop SP) ⟨f,[fr],[]⟩ Q:=by
 let I:Nat→St→Prop:=fun k st=>∃f i,st=⟨f,[fr],[]⟩∧k=x.ops.length-i∧i≤x.ops.length∧f 1=.ptr 0 1 0∧f 3=.bool (b&&(x.ops.take i).all fun o=>XM o.name)∧f 4=.int .i64 (j:Nat)∧f 5=.int .i64 (i:Nat)
 have hjm:(P.progs.map Qh)[j]? = some (.agg x.cells):=by simp[hj,Qh]
 have hsl:x.ops.length≤maxLen:=(hP.progs x (QXF hj)).len;refine Qd I _ ⟨f,0,rfl,rfl,QXA _,h1,by rw[h3];simp,ha,hc⟩ ?_;clear h1 h3 ha hc;simp only[Pc]at m1;simp only[PG.cells]at hjm;rintro _ st ⟨f,i,rfl,rfl,hi,h1,h3,ha,hc⟩;simp only[Qi,QYT,Qb,hjm,QYn,h1,m1,ha,hc,eE,seval];by_cases hlt:i<x.ops.length
 ·obtain⟨o,hg⟩:∃o,x.ops[i]? = some o:=⟨x.ops[i],QXt hlt⟩;have hgm:(x.ops.map fun o=>AV.agg o.cells)[i]? = some (.agg o.cells):=by simp[hg]
  have e1:=Ql i _ hlt hsl;have ht:=Q6 (q:=fun o=>XM o.name) hg;have fin:∀f':Fr,f' 1=.ptr 0 1 0→f' 3=.bool ((b&&(x.ops.take i).all fun o=>XM o.name)&&XM o.name)→f' 4=.int .i64 (j:Nat)→f' 5=.int .i64 ((i+1:Nat):Int)→∃k,k<x.ops.length-i∧I k ⟨f',[fr],[]⟩:=by
   intro f' a1 a3 a4 a5;exact⟨x.ops.length-(i+1),by omega,f',i+1,rfl,rfl,by omega,a1,by rw[a3,ht,QYc],a4,a5⟩
  simp only[PO.cells]at hgm;cases hb:(b&&(x.ops.take i).all fun o=>XM o.name)
  ·rw[hb]at fin h3;simp only[Qm hlt,PO.cells,h3,hc,e1,Qa,seval];exact fin _ (by exact h1) (by rfl) (by exact ha) (by rfl)
  ·rw[hb,QY3]at fin;rw[hb]at h3;simp only[Qm hlt,Qi,QYT,Qb,hjm,hgm,PO.cells,h1,m1,h3,ha,hc,eE,seval];refine aC (z77 o.name) ?_;simp only[hc,e1,Qa,seval];exact fin _ (by exact h1) (by rfl) (by exact ha) (by rfl)
 ·have hf:(x.ops.take i).all (fun o=>XM o.name)=x.ops.all fun o=>XM o.name:=by rw[QX0 (by omega)]
  rw[hf]at h3;simp only[Qw hlt,Qa,seval];exact hx _ (by exact h1) (by exact h3) (by exact ha)

theorem Cn (ha:f 4=.int .i64 0)(hx:∀f,f 1=.ptr 0 1 0→f 3=.bool (b&&P.progs.all Kx)→Q (.exit 0) (⟨f,[fr],[]⟩:St)):QH Tryz.prog (.loop SQ) ⟨f,[fr],[]⟩ Q:=by
 let I:Nat→St→Prop:=fun k st=>∃f i,st=⟨f,[fr],[]⟩∧k=P.progs.length-i∧i≤P.progs.length∧f 1=.ptr 0 1 0∧f 3=.bool (b&&(P.progs.take i).all Kx)∧f 4=.int .i64 (i:Nat)
 have m1':=m1;refine Qd I _ ⟨f,0,rfl,rfl,QXA _,h1,by rw[h3];simp,ha⟩ ?_;clear h1 h3 ha;simp only[Pc]at m1;rintro _ st ⟨f,i,rfl,rfl,hi,h1,h3,ha⟩;simp only[QYn,h1,m1,ha,eE,seval];by_cases hlt:i<P.progs.length
 ·obtain⟨x,hg⟩:∃x,P.progs[i]? = some x:=⟨P.progs[i],QXt hlt⟩;have hgm:(P.progs.map Qh)[i]? = some (.agg x.cells):=by simp[hg,Qh]
  have e1:=Ql i _ hlt hP.len1;have ht:=Q6 (q:=Kx) hg;have hq:Kx x=(Ke x.name&&x.ops.all fun o=>XM o.name):=rfl;have fin:∀f':Fr,f' 1=.ptr 0 1 0→f' 3=.bool (((b&&(P.progs.take i).all Kx)&&Ke x.name)&&x.ops.all fun o=>XM o.name)→f' 4=.int .i64 ((i+1:Nat):Int)→∃k,k<P.progs.length-i∧I k ⟨f',[fr],[]⟩:=by
   intro f' a1 a3 a4;exact⟨P.progs.length-(i+1),by omega,f',i+1,rfl,rfl,by omega,a1,by rw[a3,ht,hq,QYc,QYc],a4⟩
  simp only[PG.cells]at hgm;cases hb:(b&&(P.progs.take i).all Kx)
  ·rw[hb,QYW]at fin;rw[hb]at h3;simp only[Qm hlt,h3,Qa,seval];refine GH P hP fr m1' _ false (by exact h1) (by rfl) _ i x hg (by exact ha) (by rfl) (fun f h1 h3 ha=>?_);simp only[ha,e1,Qa,seval];exact fin _ (by exact h1) (by exact h3) (by rfl)
  ·rw[hb,QY3]at fin;rw[hb]at h3;simp only[Qm hlt,Qi,QYT,Qb,hgm,h1,m1,h3,ha,eE,seval];refine aC (z76 x.name) ?_;simp only[Qa,seval];refine GH P hP fr m1' _ (Ke x.name) (by exact h1) (by rfl) _ i x hg (by exact ha) (by rfl) (fun f h1 h3 ha=>?_);simp only[ha,e1,Qa,seval];exact fin _ (by exact h1) (by exact h3) (by rfl)
 ·have hf:(P.progs.take i).all Kx=P.progs.all Kx:=by rw[QX0 (by omega)]
  rw[hf]at h3;simp only[Qw hlt,Qa,seval];exact hx _ (by exact h1) (by exact h3)

theorem GI (j:Nat)(x:PE)(hj:P.enums[j]? = some x)(ha:f 6=.int .i64 (j:Nat))(hc:f 7=.int .i64 0)(hx:∀f,f 1=.ptr 0 1 0→f 3=.bool (b&&x.items.all fun o=>XM o.name)→f 6=.int .i64 (j:Nat)→Q (.exit 6) (⟨f,[fr],[]⟩:St)):QH Tryz.prog (.loop SR) ⟨f,[fr],[]⟩ Q:=by
 let I:Nat→St→Prop:=fun k st=>∃f i,st=⟨f,[fr],[]⟩∧k=x.items.length-i∧i≤x.items.length∧f 1=.ptr 0 1 0∧f 3=.bool (b&&(x.items.take i).all fun o=>XM o.name)∧f 6=.int .i64 (j:Nat)∧f 7=.int .i64 (i:Nat)
 have hjm:(P.enums.map Qq)[j]? = some (.agg x.cells):=by simp[hj,Qq]
 have hsl:x.items.length≤maxLen:=(hP.enums x (QXF hj)).len1;refine Qd I _ ⟨f,0,rfl,rfl,QXA _,h1,by rw[h3];simp,ha,hc⟩ ?_;clear h1 h3 ha hc;simp only[Pc]at m1;simp only[PE.cells]at hjm;rintro _ st ⟨f,i,rfl,rfl,hi,h1,h3,ha,hc⟩;simp only[Qi,QYT,Qb,hjm,QYn,h1,m1,ha,hc,eE,seval];by_cases hlt:i<x.items.length
 ·obtain⟨o,hg⟩:∃o,x.items[i]? = some o:=⟨x.items[i],QXt hlt⟩;have hgm:(x.items.map fun o=>AV.agg o.cells)[i]? = some (.agg o.cells):=by simp[hg]
  have e1:=Ql i _ hlt hsl;have ht:=Q6 (q:=fun o=>XM o.name) hg;have fin:∀f':Fr,f' 1=.ptr 0 1 0→f' 3=.bool ((b&&(x.items.take i).all fun o=>XM o.name)&&XM o.name)→f' 6=.int .i64 (j:Nat)→f' 7=.int .i64 ((i+1:Nat):Int)→∃k,k<x.items.length-i∧I k ⟨f',[fr],[]⟩:=by
   intro f' a1 a3 a4 a5;exact⟨x.items.length-(i+1),by omega,f',i+1,rfl,rfl,by omega,a1,by rw[a3,ht,QYc],a4,a5⟩
  simp only[PI.cells]at hgm;cases hb:(b&&(x.items.take i).all fun o=>XM o.name)
  ·rw[hb]at fin h3;simp only[Qm hlt,PI.cells,h3,hc,e1,Qa,seval];exact fin _ (by exact h1) (by rfl) (by exact ha) (by rfl)
  ·rw[hb,QY3]at fin;rw[hb]at h3;simp only[Qm hlt,Qi,QYT,Qb,hjm,hgm,PI.cells,h1,m1,h3,ha,hc,eE,seval];refine aC (z77 o.name) ?_;simp only[hc,e1,Qa,seval];exact fin _ (by exact h1) (by rfl) (by exact ha) (by rfl)
 ·have hf:(x.items.take i).all (fun o=>XM o.name)=x.items.all fun o=>XM o.name:=by rw[QX0 (by omega)]
  rw[hf]at h3;simp only[Qw hlt,Qa,seval];exact hx _ (by exact h1) (by exact h3) (by exact ha)

theorem Co (ha:f 6=.int .i64 0)(hx:∀f,f 1=.ptr 0 1 0→f 3=.bool (b&&P.enums.all KY)→Q (.exit 4) (⟨f,[fr],[]⟩:St)):QH Tryz.prog (.loop SS) ⟨f,[fr],[]⟩ Q:=by
 let I:Nat→St→Prop:=fun k st=>∃f i,st=⟨f,[fr],[]⟩∧k=P.enums.length-i∧i≤P.enums.length∧f 1=.ptr 0 1 0∧f 3=.bool (b&&(P.enums.take i).all KY)∧f 6=.int .i64 (i:Nat)
 have m1':=m1;refine Qd I _ ⟨f,0,rfl,rfl,QXA _,h1,by rw[h3];simp,ha⟩ ?_;clear h1 h3 ha;simp only[Pc]at m1;rintro _ st ⟨f,i,rfl,rfl,hi,h1,h3,ha⟩;simp only[QYn,h1,m1,ha,eE,seval];by_cases hlt:i<P.enums.length
 ·obtain⟨x,hg⟩:∃x,P.enums[i]? = some x:=⟨P.enums[i],QXt hlt⟩;have hgm:(P.enums.map Qq)[i]? = some (.agg x.cells):=by simp[hg,Qq]
  have e1:=Ql i _ hlt hP.len2;have ht:=Q6 (q:=KY) hg;have hq:KY x=(Ke x.name&&x.items.all fun o=>XM o.name):=rfl;have fin:∀f':Fr,f' 1=.ptr 0 1 0→f' 3=.bool (((b&&(P.enums.take i).all KY)&&Ke x.name)&&x.items.all fun o=>XM o.name)→f' 6=.int .i64 ((i+1:Nat):Int)→∃k,k<P.enums.length-i∧I k ⟨f',[fr],[]⟩:=by
   intro f' a1 a3 a4;exact⟨P.enums.length-(i+1),by omega,f',i+1,rfl,rfl,by omega,a1,by rw[a3,ht,hq,QYc,QYc],a4⟩
  simp only[PE.cells]at hgm;cases hb:(b&&(P.enums.take i).all KY)
  ·rw[hb,QYW]at fin;rw[hb]at h3;simp only[Qm hlt,h3,Qa,seval];refine GI P hP fr m1' _ false (by exact h1) (by rfl) _ i x hg (by exact ha) (by rfl) (fun f h1 h3 ha=>?_);simp only[ha,e1,Qa,seval];exact fin _ (by exact h1) (by exact h3) (by rfl)
  ·rw[hb,QY3]at fin;rw[hb]at h3;simp only[Qm hlt,Qi,QYT,Qb,hgm,h1,m1,h3,ha,eE,seval];refine aC (z76 x.name) ?_;simp only[Qa,seval];refine GI P hP fr m1' _ (Ke x.name) (by exact h1) (by rfl) _ i x hg (by exact ha) (by rfl) (fun f h1 h3 ha=>?_);simp only[ha,e1,Qa,seval];exact fin _ (by exact h1) (by exact h3) (by rfl)
 ·have hf:(P.enums.take i).all KY=P.enums.all KY:=by rw[QX0 (by omega)]
  rw[hf]at h3;simp only[Qw hlt,Qa,seval];exact hx _ (by exact h1) (by exact h3)

theorem YI (j:Nat)(x:PG)(hj:P.progs[j]? = some x)(ha:f 4=.int .i64 (j:Nat))(hc:f 5=.int .i64 1)(hx:∀f,f 1=.ptr 0 1 0→f 3=.bool (b&&Jp x)→f 4=.int .i64 (j:Nat)→Q (.exit 2) (⟨f,[fr],[]⟩:St)):QH Tryz.prog (.loop SU) ⟨f,[fr],[]⟩ Q:=by
 let I:Nat→St→Prop:=fun k st=>∃f i,st=⟨f,[fr],[]⟩∧k=x.ops.length-i∧f 1=.ptr 0 1 0∧f 3=.bool (b&&QB (Xg x.ops (Zd PO.num)) (i+1))∧f 4=.int .i64 (j:Nat)∧f 5=.int .i64 ((i+1:Nat):Int)∧(i+1≤x.ops.length∨i=0)
 have hjm:(P.progs.map Qh)[j]? = some (.agg x.cells):=by simp[hj,Qh]
 have hsl:x.ops.length≤maxLen:=(hP.progs x (QXF hj)).len;refine Qd I _ ⟨f,0,rfl,rfl,h1,by rw[h3];simp[QB,Xg],ha,hc,.inr rfl⟩ ?_;clear h1 h3 ha hc;simp only[Pc]at m1;simp only[PG.cells]at hjm;rintro _ st ⟨f,i,rfl,rfl,h1,h3,ha,hc,hi⟩;simp only[Qi,QYT,Qb,hjm,QYn,h1,m1,ha,hc,eE,seval];by_cases hlt:i+1<x.ops.length
 ·obtain⟨o,hg⟩:∃o,x.ops[i]? = some o:=⟨x.ops[i]'(by omega),QXt (by omega)⟩;obtain⟨o2,hg2⟩:∃o,x.ops[i+1]? = some o:=⟨x.ops[i+1],QXt hlt⟩;have hgm:(x.ops.map fun o=>AV.agg o.cells)[i]? = some (.agg o.cells):=by simp[hg]
  have hgm2:(x.ops.map fun o=>AV.agg o.cells)[i+1]? = some (.agg o2.cells):=by simp[hg2]
  have e1:=Ql (i+1) _ hlt hsl;have e2:=Wz i _ hlt hsl;have ht:=Jr b (Xg x.ops (Zd PO.num)) (i+1);rw[Jo hg hg2]at ht;have hq:(Zd PO.num) o o2=decide (o.num<o2.num):=rfl;rw[hq]at ht;have fin:∀f':Fr,f' 1=.ptr 0 1 0→f' 3=.bool ((b&&QB (Xg x.ops (Zd PO.num)) (i+1))&&decide (o.num<o2.num))→f' 4=.int .i64 (j:Nat)→f' 5=.int .i64 ((i+1+1:Nat):Int)→∃k,k<x.ops.length-i∧I k ⟨f',[fr],[]⟩:=by
   intro f' a1 a3 a4 a5;exact⟨x.ops.length-(i+1),by omega,f',i+1,rfl,rfl,a1,by rw[a3,ht],a4,a5,.inl (by omega)⟩
  simp only[PO.cells]at hgm hgm2;cases hb:(b&&QB (Xg x.ops (Zd PO.num)) (i+1))
  ·rw[hb]at fin h3;simp only[Qm hlt,PO.cells,h3,hc,e1,Qa,seval];exact fin _ (by exact h1) (by rfl) (by exact ha) (by rfl)
  ·rw[hb,QY3]at fin;rw[hb]at h3;simp only[Qm hlt,Qi,QYT,Qb,hjm,hgm,hgm2,PO.cells,h1,m1,h3,ha,hc,e1,e2,eE,seval];exact fin _ (by exact h1) (by rfl) (by exact ha) (by rfl)
 ·have hf:QB (Xg x.ops (Zd PO.num)) (i+1)=Jp x:=by
   show _=QB (Xg x.ops (Zd PO.num)) x.ops.length;rcases hi with h|h
   ·rw[show i+1=x.ops.length by omega]
   ·subst h;rcases QYg x.ops.length with h0|h0
    ·rw[h0];rfl
    ·rw[show x.ops.length=1 by omega]
  rw[hf]at h3;simp only[Qw hlt,Qa,seval];exact hx _ (by exact h1) (by exact h3) (by exact ha)

theorem Cq (ha:f 4=.int .i64 0)(hx:∀f,f 1=.ptr 0 1 0→f 3=.bool (b&&(XW P.progs (XN PG.name)&&P.progs.all Jp))→Q (.exit 0) (⟨f,[fr],[]⟩:St)):QH Tryz.prog (.loop SX) ⟨f,[fr],[]⟩ Q:=by
 let q:Nat→Bool:=fun i=>Xg P.progs (XN PG.name) i&&Ho P.progs Jp i
 let I:Nat→St→Prop:=fun k st=>∃f i,st=⟨f,[fr],[]⟩∧k=P.progs.length-i∧i≤P.progs.length∧f 1=.ptr 0 1 0∧f 3=.bool (b&&QB q i)∧f 4=.int .i64 (i:Nat)
 have m1':=m1;have hqa:QB q P.progs.length=(XW P.progs (XN PG.name)&&P.progs.all Jp):=by
  show QB (fun i=>Xg P.progs (XN PG.name) i&&Ho P.progs Jp i) _=_;rw[HD,HE];rfl
 refine Qd I _ ⟨f,0,rfl,rfl,QXA _,h1,by rw[h3];simp[QB],ha⟩ ?_;clear h1 h3 ha;simp only[Pc]at m1;rintro _ st ⟨f,i,rfl,rfl,hi,h1,h3,ha⟩;simp only[QYn,h1,m1,ha,eE,seval];by_cases hlt:i<P.progs.length
 ·obtain⟨x,hg⟩:∃x,P.progs[i]? = some x:=⟨P.progs[i],QXt hlt⟩;have hgm:(P.progs.map Qh)[i]? = some (.agg x.cells):=by simp[hg,Qh]
  have e1:=Ql i _ hlt hP.len1;have ht:=Jr b q i;have hq:q i=(Xg P.progs (XN PG.name) i&&Jp x):=by show(_&&Ho P.progs Jp i)=_;rw[Yk hg]
  rw[hq,←QYc]at ht;have fin:∀f':Fr,f' 1=.ptr 0 1 0→f' 3=.bool (((b&&QB q i)&&Xg P.progs (XN PG.name) i)&&Jp x)→f' 4=.int .i64 ((i+1:Nat):Int)→∃k,k<P.progs.length-i∧I k ⟨f',[fr],[]⟩:=by
   intro f' a1 a3 a4;exact⟨P.progs.length-(i+1),by omega,f',i+1,rfl,rfl,by omega,a1,by rw[a3,ht],a4⟩
  simp only[PG.cells]at hgm;cases hb:(b&&QB q i)
  ·rw[hb,QYW]at fin;rw[hb]at h3;simp only[Qm hlt,h3,Qa,seval];refine YI P hP fr m1' _ false (by exact h1) (by rfl) _ i x hg (by exact ha) (by rfl) (fun f h1 h3 ha=>?_);simp only[ha,e1,Qa,seval];exact fin _ (by exact h1) (by exact h3) (by rfl)
  ·rw[hb,QY3]at fin;rw[hb]at h3;cases i with
   |zero=>
    have b0:(((0:Nat):Int)==0)=true:=rfl;rw[YF]at fin;simp only[Qm hlt,b0,h3,ha,Qa,Nat.reduceBEq,↓reduceIte];refine YI P hP fr m1' _ true (by exact h1) (by rfl) _ 0 x hg (by exact ha) (by rfl) (fun f h1 h3 ha=>?_);simp only[ha,e1,Qa,Nat.reduceBEq,↓reduceIte,Nat.reduceAdd];exact fin _ (by exact h1) (by exact h3) (by rfl)
   |succ j=>
    obtain⟨y,hgj⟩:∃y,P.progs[j]? = some y:=⟨P.progs[j]'(by omega),QXt (by omega)⟩;have hgjm:(P.progs.map Qh)[j]? = some (.agg y.cells):=by simp[hgj,Qh]
    have b0:(((j+1:Nat):Int)==0)=false:=by rw[QY8];omega
    have e2:=Wz j _ hlt hP.len1;rw[Jo hgj hg]at fin;have hq2:(XN PG.name) y x=Op.bytesLess y.name x.name:=rfl;rw[hq2]at fin;simp only[PG.cells]at hgjm;simp only[Qm hlt,Qi,QYT,Qb,hgm,hgjm,b0,e2,QI,h1,m1,h3,ha,eE,seval];refine YI P hP fr m1' _ (Op.bytesLess y.name x.name) (by exact h1) (by rfl) _ (j+1) x hg (by exact ha) (by rfl) (fun f h1 h3 ha=>?_);simp only[ha,e1,Qa,seval];exact fin _ (by exact h1) (by exact h3) (by rfl)
 ·have hf:QB q i=(XW P.progs (XN PG.name)&&P.progs.all Jp):=by rw[show i=P.progs.length by omega,hqa]
  rw[hf]at h3;simp only[Qw hlt,Qa,seval];exact hx _ (by exact h1) (by exact h3)

theorem YJ (j:Nat)(x:PE)(hj:P.enums[j]? = some x)(ha:f 6=.int .i64 (j:Nat))(hc:f 7=.int .i64 1)(hx:∀f,f 1=.ptr 0 1 0→f 3=.bool (b&&JP x)→f 6=.int .i64 (j:Nat)→Q (.exit 6) (⟨f,[fr],[]⟩:St)):QH Tryz.prog (.loop SY) ⟨f,[fr],[]⟩ Q:=by
 let I:Nat→St→Prop:=fun k st=>∃f i,st=⟨f,[fr],[]⟩∧k=x.items.length-i∧f 1=.ptr 0 1 0∧f 3=.bool (b&&QB (Xg x.items (Zd PI.num)) (i+1))∧f 6=.int .i64 (j:Nat)∧f 7=.int .i64 ((i+1:Nat):Int)∧(i+1≤x.items.length∨i=0)
 have hjm:(P.enums.map Qq)[j]? = some (.agg x.cells):=by simp[hj,Qq]
 have hsl:x.items.length≤maxLen:=(hP.enums x (QXF hj)).len1;refine Qd I _ ⟨f,0,rfl,rfl,h1,by rw[h3];simp[QB,Xg],ha,hc,.inr rfl⟩ ?_;clear h1 h3 ha hc;simp only[Pc]at m1;simp only[PE.cells]at hjm;rintro _ st ⟨f,i,rfl,rfl,h1,h3,ha,hc,hi⟩;simp only[Qi,QYT,Qb,hjm,QYn,h1,m1,ha,hc,eE,seval];by_cases hlt:i+1<x.items.length
 ·obtain⟨o,hg⟩:∃o,x.items[i]? = some o:=⟨x.items[i]'(by omega),QXt (by omega)⟩;obtain⟨o2,hg2⟩:∃o,x.items[i+1]? = some o:=⟨x.items[i+1],QXt hlt⟩;have hgm:(x.items.map fun o=>AV.agg o.cells)[i]? = some (.agg o.cells):=by simp[hg]
  have hgm2:(x.items.map fun o=>AV.agg o.cells)[i+1]? = some (.agg o2.cells):=by simp[hg2]
  have e1:=Ql (i+1) _ hlt hsl;have e2:=Wz i _ hlt hsl;have ht:=Jr b (Xg x.items (Zd PI.num)) (i+1);rw[Jo hg hg2]at ht;have hq:(Zd PI.num) o o2=decide (o.num<o2.num):=rfl;rw[hq]at ht;have fin:∀f':Fr,f' 1=.ptr 0 1 0→f' 3=.bool ((b&&QB (Xg x.items (Zd PI.num)) (i+1))&&decide (o.num<o2.num))→f' 6=.int .i64 (j:Nat)→f' 7=.int .i64 ((i+1+1:Nat):Int)→∃k,k<x.items.length-i∧I k ⟨f',[fr],[]⟩:=by
   intro f' a1 a3 a4 a5;exact⟨x.items.length-(i+1),by omega,f',i+1,rfl,rfl,a1,by rw[a3,ht],a4,a5,.inl (by omega)⟩
  simp only[PI.cells]at hgm hgm2;cases hb:(b&&QB (Xg x.items (Zd PI.num)) (i+1))
  ·rw[hb]at fin h3;simp only[Qm hlt,PI.cells,h3,hc,e1,Qa,seval];exact fin _ (by exact h1) (by rfl) (by exact ha) (by rfl)
  ·rw[hb,QY3]at fin;rw[hb]at h3;simp only[Qm hlt,Qi,QYT,Qb,hjm,hgm,hgm2,PI.cells,h1,m1,h3,ha,hc,e1,e2,eE,seval];exact fin _ (by exact h1) (by rfl) (by exact ha) (by rfl)
 ·have hf:QB (Xg x.items (Zd PI.num)) (i+1)=JP x:=by
   show _=QB (Xg x.items (Zd PI.num)) x.items.length;rcases hi with h|h
   ·rw[show i+1=x.items.length by omega]
   ·subst h;rcases QYg x.items.length with h0|h0
    ·rw[h0];rfl
    ·rw[show x.items.length=1 by omega]
  rw[hf]at h3;simp only[Qw hlt,Qa,seval];exact hx _ (by exact h1) (by exact h3) (by exact ha)

theorem Cr (ha:f 6=.int .i64 0)(hx:∀f,f 1=.ptr 0 1 0→f 3=.bool (b&&(XW P.enums (XN PE.name)&&P.enums.all JP))→Q (.exit 4) (⟨f,[fr],[]⟩:St)):QH Tryz.prog (.loop SZ) ⟨f,[fr],[]⟩ Q:=by
 let q:Nat→Bool:=fun i=>Xg P.enums (XN PE.name) i&&Ho P.enums JP i
 let I:Nat→St→Prop:=fun k st=>∃f i,st=⟨f,[fr],[]⟩∧k=P.enums.length-i∧i≤P.enums.length∧f 1=.ptr 0 1 0∧f 3=.bool (b&&QB q i)∧f 6=.int .i64 (i:Nat)
 have m1':=m1;have hqa:QB q P.enums.length=(XW P.enums (XN PE.name)&&P.enums.all JP):=by
  show QB (fun i=>Xg P.enums (XN PE.name) i&&Ho P.enums JP i) _=_;rw[HD,HE];rfl
 refine Qd I _ ⟨f,0,rfl,rfl,QXA _,h1,by rw[h3];simp[QB],ha⟩ ?_;clear h1 h3 ha;simp only[Pc]at m1;rintro _ st ⟨f,i,rfl,rfl,hi,h1,h3,ha⟩;simp only[QYn,h1,m1,ha,eE,seval];by_cases hlt:i<P.enums.length
 ·obtain⟨x,hg⟩:∃x,P.enums[i]? = some x:=⟨P.enums[i],QXt hlt⟩;have hgm:(P.enums.map Qq)[i]? = some (.agg x.cells):=by simp[hg,Qq]
  have e1:=Ql i _ hlt hP.len2;have ht:=Jr b q i;have hq:q i=(Xg P.enums (XN PE.name) i&&JP x):=by show(_&&Ho P.enums JP i)=_;rw[Yk hg]
  rw[hq,←QYc]at ht;have fin:∀f':Fr,f' 1=.ptr 0 1 0→f' 3=.bool (((b&&QB q i)&&Xg P.enums (XN PE.name) i)&&JP x)→f' 6=.int .i64 ((i+1:Nat):Int)→∃k,k<P.enums.length-i∧I k ⟨f',[fr],[]⟩:=by
   intro f' a1 a3 a4;exact⟨P.enums.length-(i+1),by omega,f',i+1,rfl,rfl,by omega,a1,by rw[a3,ht],a4⟩
  simp only[PE.cells]at hgm;cases hb:(b&&QB q i)
  ·rw[hb,QYW]at fin;rw[hb]at h3;simp only[Qm hlt,h3,Qa,seval];refine YJ P hP fr m1' _ false (by exact h1) (by rfl) _ i x hg (by exact ha) (by rfl) (fun f h1 h3 ha=>?_);simp only[ha,e1,Qa,seval];exact fin _ (by exact h1) (by exact h3) (by rfl)
  ·rw[hb,QY3]at fin;rw[hb]at h3;cases i with
   |zero=>
    have b0:(((0:Nat):Int)==0)=true:=rfl;rw[YF]at fin;simp only[Qm hlt,b0,h3,ha,Qa,Nat.reduceBEq,↓reduceIte];refine YJ P hP fr m1' _ true (by exact h1) (by rfl) _ 0 x hg (by exact ha) (by rfl) (fun f h1 h3 ha=>?_);simp only[ha,e1,Qa,Nat.reduceBEq,↓reduceIte,Nat.reduceAdd];exact fin _ (by exact h1) (by exact h3) (by rfl)
   |succ j=>
    obtain⟨y,hgj⟩:∃y,P.enums[j]? = some y:=⟨P.enums[j]'(by omega),QXt (by omega)⟩;have hgjm:(P.enums.map Qq)[j]? = some (.agg y.cells):=by simp[hgj,Qq]
    have b0:(((j+1:Nat):Int)==0)=false:=by rw[QY8];omega
    have e2:=Wz j _ hlt hP.len2;rw[Jo hgj hg]at fin;have hq2:(XN PE.name) y x=Op.bytesLess y.name x.name:=rfl;rw[hq2]at fin;simp only[PE.cells]at hgjm;simp only[Qm hlt,Qi,QYT,Qb,hgm,hgjm,b0,e2,QI,h1,m1,h3,ha,eE,seval];refine YJ P hP fr m1' _ (Op.bytesLess y.name x.name) (by exact h1) (by rfl) _ (j+1) x hg (by exact ha) (by rfl) (fun f h1 h3 ha=>?_);simp only[ha,e1,Qa,seval];exact fin _ (by exact h1) (by exact h3) (by rfl)
 ·have hf:QB q i=(XW P.enums (XN PE.name)&&P.enums.all JP):=by rw[show i=P.enums.length by omega,hqa]
  rw[hf]at h3;simp only[Qw hlt,Qa,seval];exact hx _ (by exact h1) (by exact h3)

end

section
variable {M:Nat}(P:PL)(hP:P.ok M)
include hP

theorem z43:Qk Tryz.prog 43 [P.av] (.bool (Hp P)):=by
 have e0:P.av=.agg [.list (P.progs.map Qh),.list (P.enums.map Qq)]:=rfl;have e1:decide ((P.progs.length:Int)≤64)=decide (P.progs.length≤64):=by rw[decide_eq_decide];omega
 have e2:decide ((P.enums.length:Int)≤64)=decide (P.enums.length≤64):=by rw[decide_eq_decide];omega
 refine k43.fn (by simp) ?_;simp only[e0,QYn,e1,eE,seval];have hl:Hp P=((decide (P.progs.length≤64)&&decide (P.enums.length≤64)&&P.progs.all Ja)&&P.enums.all JD):=rfl;cases a1:decide (P.progs.length≤64)<;>simp only[e2,QYn,eE,seval]
 all_goals
  refine Ck P hP _ (by rfl) _ _ (by rfl) (by rfl) _ (by rfl) (fun f h1 h3=>?_);simp only[Qa,seval];refine Cm P hP _ (by rfl) _ _ (by exact h1) (by exact h3) _ (by rfl) (fun f h1 h3=>?_);simp only[h3,hl,a1,QYW,QY3,Qa,seval]

theorem z44:Qk Tryz.prog 44 [P.av] (.bool (Bv P)):=by
 have e0:P.av=.agg [.list (P.progs.map Qh),.list (P.enums.map Qq)]:=rfl;refine k44.fn (by simp) ?_;simp only[e0,eE,seval];refine Cn P hP _ (by rfl) _ true (by rfl) (by rfl) _ (by rfl) (fun f h1 h3=>?_);simp only[Qa,seval];refine Co P hP _ (by rfl) _ _ (by exact h1) (by exact h3) _ (by rfl) (fun f h1 h3=>?_);simp only[h3,Bv,QY3,Qa,seval]

theorem z45:Qk Tryz.prog 45 [P.av] (.bool (Hq P)):=by
 have e0:P.av=.agg [.list (P.progs.map Qh),.list (P.enums.map Qq)]:=rfl;have e:Hq P=((XW P.progs (XN PG.name)&&P.progs.all Jp)&&(XW P.enums (XN PE.name)&&P.enums.all JP)):=by
  unfold Hq;cases XW P.progs (XN PG.name)<;>cases P.progs.all Jp<;>cases XW P.enums (XN PE.name)<;>rfl
 refine k45.fn (by simp) ?_;simp only[e0,eE,seval];refine Cq P hP _ (by rfl) _ true (by rfl) (by rfl) _ (by rfl) (fun f h1 h3=>?_);simp only[Qa,seval];refine Cr P hP _ (by rfl) _ _ (by exact h1) (by exact h3) _ (by rfl) (fun f h1 h3=>?_);simp only[h3,e,QY3,Qa,seval]

end

theorem z78 (L:List PS)(hl:L.length≤maxLen)(n:Int):Qk Tryz.prog 78 [.list (L.map X8),.int .i64 n] (.bool (kept L n)):=by
 let I:Nat→St→Prop:=fun k st=>∃f i,st=⟨f,[Qc],[]⟩∧k=L.length-i∧kept L n=kept (L.drop i) n∧f 0=.list (L.map X8)∧f 1=.int .i64 n∧f 5=.int .i64 (i:Nat)
 refine k78.fn (by simp) ?_;simp only[Qa,seval];refine Qd I _ ⟨_,0,rfl,rfl,rfl,(by rfl),(by rfl),(by rfl)⟩ ?_;rintro _ st ⟨f,i,rfl,rfl,hx,h0,h1,h5⟩;simp only[QYn,h0,h5,Qa,seval];by_cases hlt:i<L.length
 ·obtain⟨x,hi⟩:∃x,L[i]? = some x:=⟨L[i],QXt hlt⟩;have hg:(L.map X8)[i]? = some (X8 x):=by simp[hi]
  have e1:=Ql i _ hlt hl;have hd:kept (L.drop i) n=((decide (x.lo≤n)&&decide (n≤x.hi))||kept (L.drop (i+1)) n):=by
   unfold kept;rw[QYa hlt,show L[i]=x from(QXs.1 hi).2];rfl
  rw[hd]at hx;simp only[Qm hlt,Qi,QYT,Qb,hg,X8,PS.cells,h0,h1,h5,eE,seval];cases a1:decide (x.lo≤n)
  ·rw[a1,QYW,QY7]at hx;simp only[h5,e1,Qa,seval];exact⟨L.length-(i+1),by omega,_,i+1,rfl,rfl,hx,(by exact h0),(by exact h1),(by rfl)⟩
  ·cases a2:decide (n≤x.hi)
   ·rw[a1,a2,QZk,QY7]at hx;simp only[a2,Qi,QYT,Qb,hg,X8,PS.cells,h0,h1,h5,e1,eE,seval];exact⟨L.length-(i+1),by omega,_,i+1,rfl,rfl,hx,(by exact h0),(by exact h1),(by rfl)⟩
   ·rw[a1,a2,QYF,QY6]at hx;simp only[a2,Qi,QYT,Qb,hg,X8,PS.cells,h0,h1,h5,hx,eE,seval]
 ·have hx':kept L n=false:=by rw[hx,QX3 (by omega)];rfl
  simp only[Qw hlt,hx',Qa,seval]

section
variable {M:Nat}(P:PL)(hP:P.ok M)(fr:Nat→Ob)(m1:fr 1=.cells (Pc P))(f:Fr)(b:Bool)(h1:f 1=.ptr 0 1 0)(h3:f 3=.bool b)(Q:Exit→St→Prop)

include h1 h3 in
theorem RY (L:List PO)(hl:L.length≤maxLen)(j:Nat)(x:PO)(hj:L[j]? = some x)(n:Nat)(hr:f 4=.int .i64 (n:Nat))(hL:f 6=.list (L.map fun o=>.agg o.cells))(hc:f 7=.int .i64 (j:Nat))(hd:f 8=.int .i64 0)
  (hx:∀f,f 1=.ptr 0 1 0→f 3=.bool (b&&(L.take j).all fun y=>!(y.name==x.name))→f 4=.int .i64 (n:Nat)→f 6=.list (L.map fun o=>.agg o.cells)→f 7=.int .i64 (j:Nat)→Q (.exit 6) (⟨f,[fr],[]⟩:St)) :
  QH Tryz.prog (.loop S1) ⟨f,[fr],[]⟩ Q:=by
 let I:Nat→St→Prop:=fun k st=>∃f i,st=⟨f,[fr],[]⟩∧k=j-i∧i≤j∧f 1=.ptr 0 1 0∧f 3=.bool (b&&(L.take i).all fun y=>!(y.name==x.name))∧f 4=.int .i64 (n:Nat)∧f 6=.list (L.map fun o=>.agg o.cells)∧f 7=.int .i64 (j:Nat)∧f 8=.int .i64 (i:Nat)
 have hjl:j<L.length:=(QXs.1 hj).1;have hjm:(L.map fun o=>AV.agg o.cells)[j]? = some (.agg x.cells):=by simp[hj]
 refine Qd I _ ⟨f,0,rfl,rfl,QXA _,h1,by rw[h3];simp,hr,hL,hc,hd⟩ ?_;clear h1 h3 hr hL hc hd;simp only[PO.cells]at hjm;rintro _ st ⟨f,i,rfl,rfl,hi,h1,h3,hr,hL,hc,hd⟩;simp only[hc,hd,Qa,seval];by_cases hlt:i<j
 ·obtain⟨o,hg⟩:∃o,L[i]? = some o:=⟨L[i]'(by omega),QXt (by omega)⟩;have hgm:(L.map fun o=>AV.agg o.cells)[i]? = some (.agg o.cells):=by simp[hg]
  have e1:=Ql i _ (show i<L.length by omega) hl;have ht:=Q6 (q:=fun y:PO=>!(y.name==x.name)) hg;have fin:∀f':Fr,f' 1=.ptr 0 1 0→f' 3=.bool ((b&&(L.take i).all fun y=>!(y.name==x.name)) && !(o.name==x.name))→f' 4=.int .i64 (n:Nat)→f' 6=.list (L.map fun o=>.agg o.cells)→f' 7=.int .i64 (j:Nat)→f' 8=.int .i64 ((i+1:Nat):Int)→∃k,k<j-i∧I k ⟨f',[fr],[]⟩:=by
   intro f' a1 a3 a4 a5 a6 a7;exact⟨j-(i+1),by omega,f',i+1,rfl,rfl,by omega,a1,by rw[a3,ht,QYc],a4,a5,a6,a7⟩
  simp only[PO.cells]at hgm;cases hb:(b&&(L.take i).all fun y=>!(y.name==x.name))
  ·rw[hb]at fin h3;simp only[Qm hlt,h3,hd,e1,Qa,seval];exact fin _ (by exact h1) (by rfl) (by exact hr) (by exact hL) (by exact hc) (by rfl)
  ·rw[hb,QY3]at fin;rw[hb]at h3;simp only[Qm hlt,Qi,QYT,Qb,hgm,hjm,PO.cells,QI,h3,hL,hc,hd,e1,eE,seval];exact fin _ (by exact h1) (by rfl) (by exact hr) (by exact hL) (by exact hc) (by rfl)
 ·rw[show i=j by omega]at h3;simp only[Qw hlt,Qa,seval];exact hx _ (by exact h1) (by exact h3) (by exact hr) (by exact hL) (by exact hc)

include h1 h3 in
theorem RZ (L:List PO)(hl:L.length≤maxLen)(n:Nat)(hr:f 4=.int .i64 (n:Nat))(hL:f 6=.list (L.map fun o=>.agg o.cells))(hc:f 7=.int .i64 0)
  (hx:∀f,f 1=.ptr 0 1 0→f 3=.bool (b&&Kv L PO.name)→f 4=.int .i64 (n:Nat)→Q (.exit 4) (⟨f,[fr],[]⟩:St)) :
  QH Tryz.prog (.loop S2) ⟨f,[fr],[]⟩ Q:=by
 let I:Nat→St→Prop:=fun k st=>∃f i,st=⟨f,[fr],[]⟩∧k=L.length-i∧i≤L.length∧f 1=.ptr 0 1 0∧f 3=.bool (b&&QB (uniq L PO.name) i)∧f 4=.int .i64 (n:Nat)∧f 6=.list (L.map fun o=>.agg o.cells)∧f 7=.int .i64 (i:Nat)
 refine Qd I _ ⟨f,0,rfl,rfl,QXA _,h1,by rw[h3];simp[QB],hr,hL,hc⟩ ?_;clear h1 h3 hr hL hc;rintro _ st ⟨f,i,rfl,rfl,hi,h1,h3,hr,hL,hc⟩;simp only[QYn,hL,hc,Qa,seval];by_cases hlt:i<L.length
 ·obtain⟨o,hg⟩:∃o,L[i]? = some o:=⟨L[i],QXt hlt⟩;have e1:=Ql i _ hlt hl;have ht:=Jr b (uniq L PO.name) i;rw[UU hg]at ht;simp only[Qm hlt,Qa,seval];refine RY fr _ (b&&QB (uniq L PO.name) i) (by exact h1) (by exact h3) _ L hl i o hg n (by exact hr) (by exact hL) (by exact hc) (by rfl) (fun f h1 h3 hr hL hc=>?_);simp only[hc,e1,Qa,seval];exact⟨L.length-(i+1),by omega,_,i+1,rfl,rfl,by omega,(by exact h1),by rw[ht]<;>first|exact h3|simp only[h3,eE,seval],(by exact hr),(by exact hL),(by rfl)⟩
 ·rw[show i=L.length by omega]at h3;simp only[Qw hlt,Qa,seval];exact hx _ (by exact h1) (by exact h3) (by exact hr)

include h1 h3 in
theorem Ct (L:List PI)(hl:L.length≤maxLen)(j:Nat)(x:PI)(hj:L[j]? = some x)(n:Nat)(hr:f 9=.int .i64 (n:Nat))(hL:f 10=.list (L.map fun o=>.agg o.cells))(hc:f 11=.int .i64 (j:Nat))(hd:f 12=.int .i64 0)
  (hx:∀f,f 1=.ptr 0 1 0→f 3=.bool (b&&(L.take j).all fun y=>!(y.name==x.name))→f 9=.int .i64 (n:Nat)→f 10=.list (L.map fun o=>.agg o.cells)→f 11=.int .i64 (j:Nat)→Q (.exit 12) (⟨f,[fr],[]⟩:St)) :
  QH Tryz.prog (.loop S4) ⟨f,[fr],[]⟩ Q:=by
 let I:Nat→St→Prop:=fun k st=>∃f i,st=⟨f,[fr],[]⟩∧k=j-i∧i≤j∧f 1=.ptr 0 1 0∧f 3=.bool (b&&(L.take i).all fun y=>!(y.name==x.name))∧f 9=.int .i64 (n:Nat)∧f 10=.list (L.map fun o=>.agg o.cells)∧f 11=.int .i64 (j:Nat)∧f 12=.int .i64 (i:Nat)
 have hjl:j<L.length:=(QXs.1 hj).1;have hjm:(L.map fun o=>AV.agg o.cells)[j]? = some (.agg x.cells):=by simp[hj]
 refine Qd I _ ⟨f,0,rfl,rfl,QXA _,h1,by rw[h3];simp,hr,hL,hc,hd⟩ ?_;clear h1 h3 hr hL hc hd;simp only[PI.cells]at hjm;rintro _ st ⟨f,i,rfl,rfl,hi,h1,h3,hr,hL,hc,hd⟩;simp only[hc,hd,Qa,seval];by_cases hlt:i<j
 ·obtain⟨o,hg⟩:∃o,L[i]? = some o:=⟨L[i]'(by omega),QXt (by omega)⟩;have hgm:(L.map fun o=>AV.agg o.cells)[i]? = some (.agg o.cells):=by simp[hg]
  have e1:=Ql i _ (show i<L.length by omega) hl;have ht:=Q6 (q:=fun y:PI=>!(y.name==x.name)) hg;have fin:∀f':Fr,f' 1=.ptr 0 1 0→f' 3=.bool ((b&&(L.take i).all fun y=>!(y.name==x.name)) && !(o.name==x.name))→f' 9=.int .i64 (n:Nat)→f' 10=.list (L.map fun o=>.agg o.cells)→f' 11=.int .i64 (j:Nat)→f' 12=.int .i64 ((i+1:Nat):Int)→∃k,k<j-i∧I k ⟨f',[fr],[]⟩:=by
   intro f' a1 a3 a4 a5 a6 a7;exact⟨j-(i+1),by omega,f',i+1,rfl,rfl,by omega,a1,by rw[a3,ht,QYc],a4,a5,a6,a7⟩
  simp only[PI.cells]at hgm;cases hb:(b&&(L.take i).all fun y=>!(y.name==x.name))
  ·rw[hb]at fin h3;simp only[Qm hlt,h3,hd,e1,Qa,seval];exact fin _ (by exact h1) (by rfl) (by exact hr) (by exact hL) (by exact hc) (by rfl)
  ·rw[hb,QY3]at fin;rw[hb]at h3;simp only[Qm hlt,Qi,QYT,Qb,hgm,hjm,PI.cells,QI,h3,hL,hc,hd,e1,eE,seval];exact fin _ (by exact h1) (by rfl) (by exact hr) (by exact hL) (by exact hc) (by rfl)
 ·rw[show i=j by omega]at h3;simp only[Qw hlt,Qa,seval];exact hx _ (by exact h1) (by exact h3) (by exact hr) (by exact hL) (by exact hc)

include h1 h3 in
theorem Cu (L:List PI)(hl:L.length≤maxLen)(n:Nat)(hr:f 9=.int .i64 (n:Nat))(hL:f 10=.list (L.map fun o=>.agg o.cells))(hc:f 11=.int .i64 0)
  (hx:∀f,f 1=.ptr 0 1 0→f 3=.bool (b&&Kv L PI.name)→f 9=.int .i64 (n:Nat)→Q (.exit 10) (⟨f,[fr],[]⟩:St)) :
  QH Tryz.prog (.loop S5) ⟨f,[fr],[]⟩ Q:=by
 let I:Nat→St→Prop:=fun k st=>∃f i,st=⟨f,[fr],[]⟩∧k=L.length-i∧i≤L.length∧f 1=.ptr 0 1 0∧f 3=.bool (b&&QB (uniq L PI.name) i)∧f 9=.int .i64 (n:Nat)∧f 10=.list (L.map fun o=>.agg o.cells)∧f 11=.int .i64 (i:Nat)
 refine Qd I _ ⟨f,0,rfl,rfl,QXA _,h1,by rw[h3];simp[QB],hr,hL,hc⟩ ?_;clear h1 h3 hr hL hc;rintro _ st ⟨f,i,rfl,rfl,hi,h1,h3,hr,hL,hc⟩;simp only[QYn,hL,hc,Qa,seval];by_cases hlt:i<L.length
 ·obtain⟨o,hg⟩:∃o,L[i]? = some o:=⟨L[i],QXt hlt⟩;have e1:=Ql i _ hlt hl;have ht:=Jr b (uniq L PI.name) i;rw[UU hg]at ht;simp only[Qm hlt,Qa,seval];refine Ct fr _ (b&&QB (uniq L PI.name) i) (by exact h1) (by exact h3) _ L hl i o hg n (by exact hr) (by exact hL) (by exact hc) (by rfl) (fun f h1 h3 hr hL hc=>?_);simp only[hc,e1,Qa,seval];exact⟨L.length-(i+1),by omega,_,i+1,rfl,rfl,by omega,(by exact h1),by rw[ht]<;>first|exact h3|simp only[h3,eE,seval],(by exact hr),(by exact hL),(by rfl)⟩
 ·rw[show i=L.length by omega]at h3;simp only[Qw hlt,Qa,seval];exact hx _ (by exact h1) (by exact h3) (by exact hr)

include hP m1 h1 h3

theorem QRg (j:Nat)(x:PG)(hj:P.progs[j]? = some x)(ha:f 4=.int .i64 (j:Nat))(hc:f 5=.int .i64 0)(hx:∀f,f 1=.ptr 0 1 0→f 3=.bool (b&&P.enums.all fun e=>!(e.name==x.name))→f 4=.int .i64 (j:Nat)→Q (.exit 2) (⟨f,[fr],[]⟩:St)):QH Tryz.prog (.loop S0) ⟨f,[fr],[]⟩ Q:=by
 let I:Nat→St→Prop:=fun k st=>∃f i,st=⟨f,[fr],[]⟩∧k=P.enums.length-i∧i≤P.enums.length∧f 1=.ptr 0 1 0∧f 3=.bool (b&&(P.enums.take i).all fun e=>!(e.name==x.name))∧f 4=.int .i64 (j:Nat)∧f 5=.int .i64 (i:Nat)
 have hjm:(P.progs.map Qh)[j]? = some (.agg x.cells):=by simp[hj,Qh]
 refine Qd I _ ⟨f,0,rfl,rfl,QXA _,h1,by rw[h3];simp,ha,hc⟩ ?_;clear h1 h3 ha hc;simp only[Pc]at m1;simp only[PG.cells]at hjm;rintro _ st ⟨f,i,rfl,rfl,hi,h1,h3,ha,hc⟩;simp only[QYn,h1,m1,hc,eE,seval];by_cases hlt:i<P.enums.length
 ·obtain⟨o,hg⟩:∃o,P.enums[i]? = some o:=⟨P.enums[i],QXt hlt⟩;have hgm:(P.enums.map Qq)[i]? = some (.agg o.cells):=by simp[hg,Qq]
  have e1:=Ql i _ hlt hP.len2;have ht:=Q6 (q:=fun y:PE=>!(y.name==x.name)) hg;have hcm:(x.name==o.name)=(o.name==x.name):=by rw[QYm,QXy,QXy];exact⟨Eq.symm,Eq.symm⟩
  have fin:∀f':Fr,f' 1=.ptr 0 1 0→f' 3=.bool ((b&&(P.enums.take i).all fun y=>!(y.name==x.name)) && !(o.name==x.name))→f' 4=.int .i64 (j:Nat)→f' 5=.int .i64 ((i+1:Nat):Int)→∃k,k<P.enums.length-i∧I k ⟨f',[fr],[]⟩:=by
   intro f' a1 a3 a4 a5;exact⟨P.enums.length-(i+1),by omega,f',i+1,rfl,rfl,by omega,a1,by rw[a3,ht,QYc],a4,a5⟩
  simp only[PE.cells]at hgm;cases hb:(b&&(P.enums.take i).all fun y=>!(y.name==x.name))
  ·rw[hb]at fin h3;simp only[Qm hlt,h3,hc,e1,Qa,seval];exact fin _ (by exact h1) (by rfl) (by exact ha) (by rfl)
  ·rw[hb,QY3]at fin;rw[hb]at h3;simp only[Qm hlt,Qi,QYT,Qb,hjm,hgm,QI,hcm,h1,m1,h3,ha,hc,e1,eE,seval];exact fin _ (by exact h1) (by rfl) (by exact ha) (by rfl)
 ·have hf:(P.enums.take i).all (fun e=>!(e.name==x.name))=P.enums.all fun e=>!(e.name==x.name):=by rw[QX0 (by omega)]
  rw[hf]at h3;simp only[Qw hlt,Qa,seval];exact hx _ (by exact h1) (by exact h3) (by exact ha)

theorem QRh (ha:f 4=.int .i64 0)(hx:∀f,f 1=.ptr 0 1 0→f 3=.bool (b&&P.progs.all (Ky P))→Q (.exit 0) (⟨f,[fr],[]⟩:St)):QH Tryz.prog (.loop S3) ⟨f,[fr],[]⟩ Q:=by
 let I:Nat→St→Prop:=fun k st=>∃f i,st=⟨f,[fr],[]⟩∧k=P.progs.length-i∧i≤P.progs.length∧f 1=.ptr 0 1 0∧f 3=.bool (b&&(P.progs.take i).all (Ky P))∧f 4=.int .i64 (i:Nat)
 have m1':=m1;refine Qd I _ ⟨f,0,rfl,rfl,QXA _,h1,by rw[h3];simp,ha⟩ ?_;clear h1 h3 ha;simp only[Pc]at m1;rintro _ st ⟨f,i,rfl,rfl,hi,h1,h3,ha⟩;simp only[QYn,h1,m1,ha,eE,seval];by_cases hlt:i<P.progs.length
 ·obtain⟨x,hg⟩:∃x,P.progs[i]? = some x:=⟨P.progs[i],QXt hlt⟩;have hgm:(P.progs.map Qh)[i]? = some (.agg x.cells):=by simp[hg,Qh]
  have e1:=Ql i _ hlt hP.len1;have ht:=Q6 (q:=Ky P) hg;have hq:Ky P x=((P.enums.all fun e=>!(e.name==x.name))&&Kv x.ops PO.name):=rfl;simp only[PG.cells]at hgm;simp only[Qm hlt,Qa,seval];refine QRg P hP fr m1' _ (b&&(P.progs.take i).all (Ky P)) (by exact h1) (by exact h3) _ i x hg (by exact ha) (by rfl) (fun f h1 h3 ha=>?_);simp only[Qi,QYT,Qb,hgm,h1,m1,ha,eE,seval];refine RZ fr _ _ (by exact h1) (by exact h3) _ x.ops (hP.progs x (QXF hg)).len i (by exact ha) (by rfl) (by rfl) (fun f h1 h3 ha=>?_);simp only[ha,e1,Qa,seval];exact⟨P.progs.length-(i+1),by omega,_,i+1,rfl,rfl,by omega,(by exact h1),by rw[ht,hq,←QYc,←QYc]<;>first|exact h3|simp only[h3,eE,seval],(by rfl)⟩
 ·have hf:(P.progs.take i).all (Ky P)=P.progs.all (Ky P):=by rw[QX0 (by omega)]
  rw[hf]at h3;simp only[Qw hlt,Qa,seval];exact hx _ (by exact h1) (by exact h3)

theorem QRi (ha:f 9=.int .i64 0)(hx:∀f,f 1=.ptr 0 1 0→f 3=.bool (b&&P.enums.all Wy)→Q (.exit 8) (⟨f,[fr],[]⟩:St)):QH Tryz.prog (.loop S6) ⟨f,[fr],[]⟩ Q:=by
 let I:Nat→St→Prop:=fun k st=>∃f i,st=⟨f,[fr],[]⟩∧k=P.enums.length-i∧i≤P.enums.length∧f 1=.ptr 0 1 0∧f 3=.bool (b&&(P.enums.take i).all Wy)∧f 9=.int .i64 (i:Nat)
 refine Qd I _ ⟨f,0,rfl,rfl,QXA _,h1,by rw[h3];simp,ha⟩ ?_;clear h1 h3 ha;simp only[Pc]at m1;rintro _ st ⟨f,i,rfl,rfl,hi,h1,h3,ha⟩;simp only[QYn,h1,m1,ha,eE,seval];by_cases hlt:i<P.enums.length
 ·obtain⟨x,hg⟩:∃x,P.enums[i]? = some x:=⟨P.enums[i],QXt hlt⟩;have hgm:(P.enums.map Qq)[i]? = some (.agg x.cells):=by simp[hg,Qq]
  have e1:=Ql i _ hlt hP.len2;have ht:=Q6 (q:=Wy) hg;have hq:Wy x=Kv x.items PI.name:=rfl;simp only[PE.cells]at hgm;simp only[Qm hlt,Qi,QYT,Qb,hgm,h1,m1,ha,eE,seval];refine Cu fr _ (b&&(P.enums.take i).all Wy) (by exact h1) (by exact h3) _ x.items (hP.enums x (QXF hg)).len1 i (by exact ha) (by rfl) (by rfl) (fun f h1 h3 ha=>?_);simp only[ha,e1,Qa,seval];exact⟨P.enums.length-(i+1),by omega,_,i+1,rfl,rfl,by omega,(by exact h1),by rw[ht,hq,←QYc]<;>first|exact h3|simp only[h3,eE,seval],(by rfl)⟩
 ·have hf:(P.enums.take i).all Wy=P.enums.all Wy:=by rw[QX0 (by omega)]
  rw[hf]at h3;simp only[Qw hlt,Qa,seval];exact hx _ (by exact h1) (by exact h3)

end

theorem z46 {M:Nat}(P:PL)(hP:P.ok M):Qk Tryz.prog 46 [P.av] (.bool (Bw P)):=by
 have e0:P.av=.agg [.list (P.progs.map Qh),.list (P.enums.map Qq)]:=rfl;refine k46.fn (by simp) ?_;simp only[e0,eE,seval];refine QRh P hP _ (by rfl) _ true (by rfl) (by rfl) _ (by rfl) (fun f h1 h3=>?_);simp only[Qa,seval];refine QRi P hP _ (by rfl) _ _ (by exact h1) (by exact h3) _ (by rfl) (fun f h1 h3=>?_);simp only[h3,Bw,QY3,Qa,seval]

theorem QwP:Qk Tryz.prog 128 [.str alias] (.int .i64 7):=by
 refine QME.fn (by simp) ?_;have b1:(alias==([100,101,112,114,101,99,97,116,101,100]:List UInt8))=false:=by decide
 have b2:(alias==([115,101,99,114,101,116]:List UInt8))=false:=by decide
 have b3:(alias==([105,100,101,109,112,111,116,101,110,116]:List UInt8))=false:=by decide
 have b4:(alias==([100,111,99]:List UInt8))=false:=by decide
 have b5:(alias==([97,108,105,97,115]:List UInt8))=true:=by decide
 simp only[QI,b1,b2,b3,b4,b5,Qa,seval]

theorem QRj:Qk Tryz.prog 129 [.str alias,.int .i64 4] (.bool true):=by
 refine QMH.fn (by simp) ?_;have b1:(alias==([100,101,112,114,101,99,97,116,101,100]:List UInt8))=false:=by decide
 have b4:(alias==([100,111,99]:List UInt8))=false:=by decide
 have b5:(alias==([97,108,105,97,115]:List UInt8))=true:=by decide
 have c2:((4:Int)==2)=false:=rfl;have c4:((4:Int)==4)=true:=rfl;simp only[QI,b1,b4,b5,c2,c4,Qa,seval]

section
variable (kd:Int)(b:Nat)(t:List UInt8)(l p s r:List AV)(ht:t.length+8≤maxLen)
include ht

theorem QRk:Qk Tryz.prog 201 [.int .i64 7,vo kd b t l p s r] (.bool (Xo 7 kd b t l p s r)):=by
 have hl:=RX kd b t l p s r;simp only[vo]at hl;have n1:(kd != 7)=!(kd==7):=rfl;have k7:isk 7=true:=rfl;have t7:Za 7=true:=rfl;have f7:YH 7 b=true:=rfl;have c8:((7:Int)==8)=false:=rfl;have c7:((7:Int) != 7)=false:=rfl;refine Qtu.fn (by simp) ?_;simp only[vo,Xo,k7,f7,c7,QY3,QYF,QY7,eE,seval];refine aC (Ca 7) ?_;simp only[k7,n1,QY4,eE,seval];by_cases hk:kd=7
 ·subst hk;have a1:((7:Int)==7)=true:=rfl;simp only[a1,QY4,QY3,t7,eE,seval];refine aC hl ?_;cases W0 l p s r
  ·simp only[QYz,QYW,Qa,seval]
  simp only[QY4,QY3,Qa,seval];refine aC (HB 7) ?_;simp only[t7,eE,seval];cases a2:((b:Int)==0)
  ·simp only[QYW,Qa,seval]
  cases a3:decide ((t.length:Int)≤4096)
  ·simp only[a3,QYW,QZk,eE,seval]
  simp only[a3,c8,QY3,eE,seval];refine aC (Ce t ht) ?_;simp only[Qa,seval]
 ·have a1:(kd==7)=false:=by simp[hk]
  simp only[a1,QYz,QYW,Qa,seval]

theorem QRl:Qk Tryz.prog 130 [nv kd b t l p s r] (.bool (Xo 7 kd b t l p s r)):=by
 have hf:=QRk kd b t l p s r ht;have b0:((7:Int) != 0)=true:=rfl;simp only[vo]at hf;refine QMK.fn (by simp) ?_;simp only[nv,eE,seval];refine aC QwP ?_;simp only[b0,eE,seval];cases a1:(kd==7)
 ·have e:Xo 7 kd b t l p s r=false:=by unfold Xo;rw[a1];rfl
  simp only[e,Qa,seval]
 ·simp only[eE,seval];refine aC hf ?_;simp only[Qa,seval]

def RcI (k:Nat)(st:St):Prop :=
 ∃f i,st=⟨f,[Qc],[]⟩∧k=1-i∧i≤1∧(i=1→Xo 7 kd b t l p s r=true)∧f 0=.list [nv kd b t l p s r]∧f 1=.int .i64 4∧f 5=.int .i64 (i:Nat)

theorem z79:Qk Tryz.prog 79 [.list [nv kd b t l p s r],.int .i64 4] (.int .i64 (if Xo 7 kd b t l p s r=true then 0 else 12)):=by
 have b0:decide (((1:Nat):Int) > 8)=false:=rfl;have hr:=QRl kd b t l p s r ht;simp only[nv]at hr;refine k79.fn (by simp) ?_;simp only[QXH,QYo,QX8,Qa,seval];refine Qd (RcI kd b t l p s r) 1 ⟨_,0,rfl,rfl,QXA _,(fun h=>by cases h),(by rfl),(by rfl),(by rfl)⟩ ?_;rintro _ st ⟨f,i,rfl,rfl,hi,hf,h0,h1,h5⟩;simp only[nv]at h0;simp only[h0,h5,QXH,QYo,QX8,Qa,seval];rcases Nat.le_one_iff_eq_zero_or_eq_one.1 hi with rfl|rfl
 ·have c0:decide (((0:Nat):Int)<((1:Nat):Int))=true:=rfl;have c1:decide (((0:Nat):Int) > 0)=false:=rfl;have d7:((7:Int)==0)=false:=rfl;have e1:IntKind.i64.wrap (((0:Nat):Int)+1)=((1:Nat):Int):=rfl;have z0:(0≤((0:Nat):Int))=True:=by simp
  have z1:Int.toNat ((0:Nat):Int)=0:=rfl;simp only[Qb,QYu,h0,h5,eE,seval];refine aC QwP ?_;simp only[d7,Qb,QYu,h0,h1,h5,eE,seval];refine aC QRj ?_;simp only[QY4,Qb,QYu,h0,h5,eE,seval];refine aC hr ?_;cases hfv:Xo 7 kd b t l p s r
  ·simp only[QYz,QXL,Qa,seval]
  ·simp only[QY4,h5,Qa,seval];exact⟨0,by omega,_,1,rfl,rfl,QXq _,fun _=>hfv,(by exact h0),(by exact h1),(by rfl)⟩
 ·have c0:decide (((1:Nat):Int)<((1:Nat):Int))=false:=rfl;simp only[hf rfl,Qa,seval]

end

section
variable (P:PL)

def YK (P:PL)(o:PO):Bool :=
 if o.kind=10 then decide (o.target≥0)&&decide (o.target<(P.progs.length:Int))&&o.card != 3
 else if o.kind=9 then decide (o.target≥0)&&decide (o.target<(P.enums.length:Int))else o.target == -1

theorem QRm (o:PO):Qk Tryz.prog 132 [P.av,Qr o] (.bool (YK P o)):=by
 have e0:P.av=.agg [.list (P.progs.map Qh),.list (P.enums.map Qq)]:=rfl;refine QMQ.fn (by simp) ?_;simp only[e0,Qr,PO.cells,YK,eE,seval];by_cases h:o.kind=10
 ·have b0:(o.kind==10)=true:=by simp[h]
  simp only[b0,QXV h,eE,seval];cases a1:decide (o.target≥0)<;>cases a2:decide (o.target<(P.progs.length:Int))<;>simp only[a2,QY3,QYW,QYn,eE,seval]
 ·have b0:(o.kind==10)=false:=by simp[h]
  by_cases h9:o.kind=9
  ·have b1:(o.kind==9)=true:=by simp[h9]
   simp only[b0,b1,QXG h,QXV h9,eE,seval];cases a1:decide (o.target≥0)<;>simp only[QY3,QYW,QYn,eE,seval]
  ·have b1:(o.kind==9)=false:=by simp[h9]
   simp only[b0,b1,QXG h,QXG h9,eE,seval]

theorem QwQ (o:PO):(X9 P o&&X0 o)=(Uu o.alias&&(decide ((o.alias.length:Int)≤4096)&&(decide (o.card≥1)&&(decide (o.card≤5)&&(decide (o.kind≥1)&&(decide (o.kind≤10)&&(key o&&YK P o&&X0 o))))))):=by
 have h:GF P o=(decide (o.kind≥1)&&decide (o.kind≤10)&&YK P o):=by
  unfold GF YK;by_cases h:o.kind=10
  ·rw[QXV h,QXV h,h];rfl
  ·rw[QXG h,QXG h];by_cases h9:o.kind=9
   ·rw[QXV h9,QXV h9,h9];rfl
   ·rw[QXG h9,QXG h9];congr 1
    unfold isk;rw[QYm,QXQ,QXQ];simp only[QXx];omega
 unfold X9;rw[h];cases Uu o.alias<;>cases decide ((o.alias.length:Int)≤4096)<;>cases decide (o.card≥1)<;>cases decide (o.card≤5)<;>cases decide (o.kind≥1)<;>cases decide (o.kind≤10)<;>cases key o<;>cases YK P o<;>cases X0 o<;>rfl

theorem z81 (o:PO)(ha:o.alias.length+8≤maxLen):Qk Tryz.prog 81 [P.av,Qr o] (.bool (X9 P o&&X0 o)):=by
 have e0:P.av=.agg [.list (P.progs.map Qh),.list (P.enums.map Qq)]:=rfl;have n1:decide ((o.alias.length:Int) > 4096)=!decide ((o.alias.length:Int)≤4096):=(by rw[QYm];simp only[QXx,QYq,QZj];omega);have n2:decide (o.card<1)=!decide (o.card≥1):=(by rw[QYm];simp only[QXx,QYq,QZj];omega);have n3:decide (o.card > 5)=!decide (o.card≤5):=(by rw[QYm];simp only[QXx,QYq,QZj];omega);have n4:decide (o.kind<1)=!decide (o.kind≥1):=(by rw[QYm];simp only[QXx,QYq,QZj];omega);have n5:decide (o.kind > 10)=!decide (o.kind≤10):=(by rw[QYm];simp only[QXx,QYq,QZj];omega);have ht:Qk Tryz.prog 132 [.agg [.list (P.progs.map Qh),.list (P.enums.map Qq)],Qr o] (.bool (YK P o)):=QRm P o;have hk1:o.card≠5→key o=(o.key==0):=fun h=>by unfold key;rw[QXG h]
 have hk2:o.card=5→key o=((decide (o.key≥1)&&decide (o.key≤5))||o.key==7):=fun h=>by
  unfold key;rw[QXV h,QYm];simp only[QXQ,QXw,QXx,QXy,QXS,ne_eq];omega
 have hu:X0 o=(o.union == -1||o.card==2):=rfl;simp only[Qr,PO.cells]at ht;rw[QwQ];refine k81.fn (by simp) ?_;simp only[Tk,Tl,Tm,Tn,To,Tp,r81,o81,e0,Qr,PO.cells,eE,seval];refine aC (Ce o.alias ha) ?_;cases Uu o.alias
 ·simp only[QYz,QYW,Qa,seval]
 cases a1:decide ((o.alias.length:Int)≤4096)
 ·simp only[QY4,QYz,QY3,n1,a1,QYW,eE,seval]
 cases a2:decide (o.card≥1)
 ·simp only[QY4,QYz,QY3,n1,n2,a1,a2,QYW,eE,seval]
 cases a3:decide (o.card≤5)
 ·simp only[QY4,QYz,QY3,n1,n2,n3,a1,a2,a3,QYW,eE,seval]
 cases a4:decide (o.kind≥1)
 ·simp only[QY4,QYz,QY3,n1,n2,n3,n4,a1,a2,a3,a4,QYW,eE,seval]
 cases a5:decide (o.kind≤10)
 ·simp only[QY4,QYz,QY3,n1,n2,n3,n4,n5,a1,a2,a3,a4,a5,QYW,eE,seval]
 have fin:∀(f:Fr) (fr:Nat→Ob) (kb:Bool),kb=key o→f 2=.ptr 0 2 0→fr 2=.cells [.list (P.progs.map Qh),.list (P.enums.map Qq)]→f 3=.ptr 0 3 0→fr 3=.cells [.int .i64 o.num,.str o.name,.str o.alias,.int .i64 o.card,.int .i64 o.key,.int .i64 o.kind,.int .i64 o.target,.int .i64 o.union]→f 5=.bool kb→
   QD Tryz.prog V7 ⟨f,[fr],[]⟩ (Kc Tryz.prog .ret (Zl [.tmp 4] 0 fun x _=>x=.bool (key o&&YK P o&&X0 o)) .normal):=by
  intro f fr kb hkb h2 m2 h3 m3 h5;subst hkb;simp only[V7,h5,Qa,seval];cases key o
  ·simp only[QYW,Qa,seval]
  simp only[h2,m2,h3,m3,QY3,eE,seval];refine aC ht ?_;cases YK P o
  ·simp only[QYW,Qa,seval]
  rw[hu];cases c1:(o.union == -1)<;>simp only[h3,m3,c1,QY3,QY6,QY7,eE,seval]
 by_cases h5:o.card=5
 ·have b5:(o.card != 5)=false:=by simp[h5]
  have hk:=hk2 h5;simp only[QY4,QY3,n1,n2,n3,n4,n5,a1,a2,a3,a4,a5,eE,seval];cases c1:decide (o.key≥1)<;>cases c2:decide (o.key≤5)<;>cases c3:(o.key==7)<;>simp only[c2,c3,b5,eE,seval]
  all_goals
   rw[c1,c2,c3]at hk;exact fin _ _ _ hk.symm (by rfl) (by rfl) (by rfl) (by rfl) (by rfl)
 ·have b5:(o.card != 5)=true:=by simp[h5]
  have hk:=hk1 h5;simp only[QY4,QY3,n1,n2,n3,n4,n5,a1,a2,a3,a4,a5,eE,seval];cases c1:decide (o.key≥1)<;>cases c2:decide (o.key≤5)<;>cases c3:(o.key==7)<;>simp only[c2,c3,b5,eE,seval]
  all_goals exact fin _ _ _ hk.symm (by rfl) (by rfl) (by rfl) (by rfl) (by rfl)

end

end Go.Proofs.YtipjfckmopekaaaGreatDoor.Va

namespace Go.Proofs.YtipjfckmopekaaaGreatDoor.Cp
open Go Am Bt Vp

structure C where
 d:List UInt8
 a:Int
 e:Int
 dp:Int
 nd:Int
 tx:Int

def C.av (c:C):AV:=.agg [.str c.d,.int .i64 c.a,.int .i64 c.e,.int .i64 c.dp,.int .i64 c.nd,.int .i64 c.tx]
def zc:C:=⟨[],0,0,0,0,0⟩

structure L where
 b:Int
 dp:Int
 nd:Int
 tx:Int
def L.av (l:L):AV:=.agg [.int .i64 l.b,.int .i64 l.dp,.int .i64 l.nd,.int .i64 l.tx]

def C.sound (c:C):Bool:=decide (0≤c.a)&&decide (c.a≤c.e)&&decide (c.e≤(c.d.length:Int))
def C.rest (c:C):List UInt8:=bif c.sound then(c.d.drop c.a.toNat).take (c.e.toNat-c.a.toNat)else []
def C.left (c:C):Int:=(c.rest.length:Int)
def C.ahead (c:C)(n:Int):C:={ c with a:=IntKind.i64.wrap (c.a+n) }

def opn (s:List UInt8)(l:L):C×Nat :=
 if l.b<0∨l.dp<0∨l.nd<0∨l.tx<0 then(zc,1)else if l.b<(s.length:Int)then(zc,3)else(⟨s,0,s.length,l.dp,l.nd,l.tx⟩,0)

def C.varint (c:C):Nat×C×Nat :=
 let r:=Vp.take c.rest
 if r.2.2=0 then(r.1,c.ahead r.2.1,0)else(0,c,r.2.2)

def R0 (s:List UInt8):Nat:=(s.take 8).foldr (fun b u=>256*u+b.toNat) 0

def C.fixed (c:C):Nat×C×Nat :=
 if c.rest.length<8 then(0,c,4)else(R0 c.rest,c.ahead 8,0)

def C.spend (c:C)(n:Int):C×Nat :=
 if n<0 then(c,1)else if c.nd<n then(c,3)else({ c with nd:=IntKind.i64.wrap (c.nd-n) },0)

theorem C.sound_iff (c:C):c.sound=true↔0≤c.a∧c.a≤c.e∧c.e≤(c.d.length:Int):=by
 simp[C.sound,and_assoc]

theorem C.rest_len (c:C):c.left=if c.sound=true then c.e-c.a else 0:=by
 unfold C.left C.rest;split
 ·rename_i h;rw[h];have:=(C.sound_iff c).1 h;simp;omega
 ·rename_i h;have h:c.sound=false:=by simpa using h
  rw[h];rfl

theorem C.rest_no {c:C}(h:c.sound=false):c.rest=[]:=by
 unfold C.rest;rw[h];rfl

end Go.Proofs.YtipjfckmopekaaaGreatDoor.Cp

namespace Go.Proofs.YtipjfckmopekaaaGreatDoor.Up
open Go Am Bt Vp Cp

structure R where
 num:Int
 wire:Int
 bits:Nat
 data:List UInt8
 deriving DecidableEq

def R.av (f:R):AV:=.agg [.int .i64 f.num,.int .i64 f.wire,.int .u64 (f.bits:Nat),.str f.data]
def zr:R:=⟨0,0,0,[]⟩

def X6 (num wire:Int):List UInt8×Nat :=
 if num<1∨65535<num∨wire<0∨6<wire then([],6)else(Vp.put (num*8+wire).toNat,0)
def Uy (r:List UInt8×Nat):AV:=.tup [.str r.1,.int .i64 (r.2:Nat)]

def Vd (c:C):Int×Int×C×Nat :=
 let r:=c.varint
 if r.2.2=0 then
  if r.1 % 8=7 then(0,0,c,5)else if r.1 / 8<1∨65535<r.1 / 8 then(0,0,c,6)else((r.1 / 8:Nat),(r.1 % 8:Nat),r.2.1,0)
 else(0,0,c,r.2.2)
def ZP (wire:Int):Bool:=wire==0||wire==1||wire==2

def BJ (c:C)(wire:Int):List UInt8×C×Nat :=
 let r:=c.varint
 if r.2.2=0 then
  if r.2.1.left<(r.1:Int)then([],c,4)
  else if (if wire=3 then c.tx else 65536)<(r.1:Int)then([],c,3)
  else((r.2.1.d.drop r.2.1.a.toNat).take r.1,r.2.1.ahead r.1,0)
 else([],c,r.2.2)
def QwR (c:C)(f:R):R×C×Nat :=
 if f.wire=2 then({ f with bits:=c.fixed.1 },c.fixed.2.1,c.fixed.2.2)
 else if f.wire=0∨f.wire=1 then({ f with bits:=c.varint.1 },c.varint.2.1,c.varint.2.2)
 else({ f with data:=(BJ c f.wire).1 },(BJ c f.wire).2.1,(BJ c f.wire).2.2)

def Yl (c:C):R×C×Nat :=
 let t:=Vd c
 if t.2.2.2=0 then
  let s:=t.2.2.1.spend 1
  if s.2=0 then
   let k:=QwR s.1 { num:=t.1,wire:=t.2.1,bits:=0,data:=[] }
   if k.2.2=0 then k else(zr,c,k.2.2)
  else(zr,c,s.2)
 else(zr,c,t.2.2.2)
theorem BK {c:C}(h:c.rest≠[]):c.sound=true:=by
 cases hs:c.sound with
 |true=>rfl
 |false=>exact absurd (C.rest_no hs) h

theorem Yc {c:C}(hl:c.d.length≤9223372036854775807)(h:c.varint.2.2=0):∃n:Nat,0<n∧n≤10∧(n:Int)≤c.left∧c.varint.2.1={ c with a:=c.a+n }∧c.sound=true∧c.varint.2.1.sound=true∧c.varint.1<2 ^ 64:=by
 unfold C.varint at h ⊢;have hb:=NA c.rest;generalize Vp.take c.rest=r at h hb ⊢;obtain⟨u,n,e⟩:=r;simp only at h hb ⊢;split at h
 ·rename_i he;subst he;obtain⟨h1,h2,h3,h4⟩:=hb rfl;have hne:c.rest≠[]:=by intro e;rw[e]at h2;simp at h2;omega
  have hs:=BK hne;have hs':=(C.sound_iff c).1 hs;have hle:=c.rest_len;rw[QXV hs]at hle;have hw:IntKind.i64.wrap (c.a+(n:Int))=c.a+n:=by
   have:(n:Int)≤c.left:=by unfold C.left;omega
   rw[QE];omega
  have hnl:(n:Int)≤c.left:=by unfold C.left;omega
  refine⟨n,h1,h3,hnl,?_,hs,?_,?_⟩
  ·rw[QXV rfl];simp only[C.ahead,hw]
  ·rw[QXV rfl];rw[C.sound_iff];simp only[C.ahead,hw];omega
  ·rw[QXV rfl];exact h4
 ·rename_i he;exact absurd h he

end Go.Proofs.YtipjfckmopekaaaGreatDoor.Up

namespace Go.Proofs.YtipjfckmopekaaaGreatDoor.Br
open Go Am Up

theorem Qay {M k:Nat}{cs:List AV}(h:Q8 Tryz.prog M k 52 cs):∃f:R,((Lit.int .i64 f.num).wf=true∧(Lit.int .i64 f.wire).wf=true∧(Lit.int .u64 (f.bits:Int)).wf=true∧f.data.length≤M)∧.agg cs=f.av:=by
 obtain⟨k,h⟩:=Zc Tryz.underlying52 h;simp only[Q8.HasL]at h;obtain⟨_,_,rfl,h0,_,_,rfl,h1,_,_,rfl,h2,_,_,rfl,h3,rfl⟩:=h;obtain⟨a0,rfl,w0⟩:=Xx Tryz.underlying3 h0;obtain⟨a1,rfl,w1⟩:=Xx Tryz.underlying3 h1;obtain⟨a2,rfl,w2⟩:=Xx Tryz.underlying26 h2;obtain⟨a3,rfl,w3⟩:=Jz Tryz.underlying9 h3;have hn:0≤a2:=FZ w2;obtain⟨n,rfl⟩:=QY5 hn;exact⟨⟨a0,a1,n,a3⟩,⟨w0,w1,w2,w3⟩,rfl⟩

inductive V where
 |mk (k:Int) (b:Nat) (t:List UInt8) (l:List V) (p:List (V×V)) (s:List (Int×V)) (r:List R)
 deriving Inhabited

mutual
def V.cells:V→List AV
 |.mk k b t l p s r=>[.int .i64 k,.int .u64 (b:Nat),.str t,.list (V.cl l),.list (V.cp p),.list (V.cs s),.list (r.map R.av)]
def V.cl:List V→List AV
 | []=>[]
 |x :: l=>.agg x.cells :: V.cl l
def V.cp:List (V×V)→List AV
 | []=>[]
 |(a,b) :: l=>.agg (a.cells++b.cells) :: V.cp l
def V.cs:List (Int×V)→List AV
 | []=>[]
 |(n,a) :: l=>.agg (.int .i64 n :: a.cells) :: V.cs l
end

def V.kd:V→Int|.mk k _ _ _ _ _ _=>k
def V.bits:V→Nat|.mk _ b _ _ _ _ _=>b
def V.text:V→List UInt8|.mk _ _ t _ _ _ _=>t
def V.list:V→List V|.mk _ _ _ l _ _ _=>l
def V.pairs:V→List (V×V)|.mk _ _ _ _ p _ _=>p
def V.slots:V→List (Int×V)|.mk _ _ _ _ _ s _=>s
def V.raws:V→List R|.mk _ _ _ _ _ _ r=>r

def V.av (v:V):AV:=.agg v.cells
def V.pav (p:V×V):AV:=.agg (p.1.cells++p.2.cells)
def V.sav (s:Int×V):AV:=.agg (.int .i64 s.1 :: s.2.cells)

theorem V.cl_eq:∀l:List V,V.cl l=l.map V.av
 | []=>rfl
 |x :: l=>by rw[V.cl,V.cl_eq l];rfl
theorem V.cp_eq:∀l:List (V×V),V.cp l=l.map V.pav
 | []=>rfl
 |(a,b) :: l=>by rw[V.cp,V.cp_eq l];rfl
theorem V.cs_eq:∀l:List (Int×V),V.cs l=l.map V.sav
 | []=>rfl
 |(n,a) :: l=>by rw[V.cs,V.cs_eq l];rfl

theorem V.eta:∀v:V,v.cells=[.int .i64 v.kd,.int .u64 (v.bits:Nat),.str v.text,.list (v.list.map V.av),.list (v.pairs.map V.pav),.list (v.slots.map V.sav),.list (v.raws.map R.av)]
 |.mk k b t l p s r=>by rw[V.cells,V.cl_eq,V.cp_eq,V.cs_eq];rfl

theorem V.ind {P:V→Prop}(h:∀v:V,(∀x∈v.list,P x)→(∀x∈v.pairs,P x.1∧P x.2)→(∀x∈v.slots,P x.2)→P v)(v:V):P v :=
 V.rec (motive_1:=P) (motive_2:=fun l=>∀x∈l,P x) (motive_3:=fun p=>∀x∈p,P x.1∧P x.2) (motive_4:=fun s=>∀x∈s,P x.2) (motive_5:=fun q=>P q.1∧P q.2) (motive_6:=fun q=>P q.2)
  (fun k b t l p s r hl hp hs=>h (.mk k b t l p s r) hl hp hs)
  (by simp) (fun a l ha hl=>by simpa using ⟨ha,hl⟩)
  (by simp) (fun a l ha hl=>by simp only[QYO,forall_eq_or_imp];exact⟨ha,hl⟩)
  (by simp) (fun a l ha hl=>by simp only[QYO,forall_eq_or_imp];exact⟨ha,hl⟩)
  (fun a b ha hb=>⟨ha,hb⟩) (fun n a ha=>ha) v

structure _root_.Go.Proofs.YtipjfckmopekaaaGreatDoor.Up.R.ok (M:Nat)(f:R):Prop where
 num:(Lit.int .i64 f.num).wf=true
 wire:(Lit.int .i64 f.wire).wf=true
 bits:(Lit.int .u64 (f.bits:Int)).wf=true
 data:f.data.length≤M

inductive V.ok (M:Nat):V→Prop
 |mk {v:V} (kd:(Lit.int .i64 v.kd).wf=true) (bits:(Lit.int .u64 (v.bits:Int)).wf=true) (text:v.text.length≤M) (nl:v.list.length≤1099511627776) (np:v.pairs.length≤549755813888) (ns:v.slots.length≤1099511627776) (nr:v.raws.length≤70368744177664)
   (list:∀x∈v.list,V.ok M x) (keys:∀x∈v.pairs,V.ok M x.1) (vals:∀x∈v.pairs,V.ok M x.2) (nums:∀x∈v.slots,(Lit.int .i64 x.1).wf=true) (slots:∀x∈v.slots,V.ok M x.2) (raws:∀x∈v.raws,x.ok M):V.ok M v

section
variable {M:Nat}{v:V}(h:v.ok M)
include h
theorem V.ok.kd:(Lit.int .i64 v.kd).wf=true:=by cases h;assumption
theorem V.ok.bits:(Lit.int .u64 (v.bits:Int)).wf=true:=by cases h;assumption
theorem V.ok.text:v.text.length≤M:=by cases h;assumption
theorem V.ok.nl:v.list.length≤1099511627776:=by cases h;assumption
theorem V.ok.np:v.pairs.length≤549755813888:=by cases h;assumption
theorem V.ok.ns:v.slots.length≤1099511627776:=by cases h;assumption
theorem V.ok.nr:v.raws.length≤70368744177664:=by cases h;assumption
theorem V.ok.list:∀x∈v.list,x.ok M:=by cases h;assumption
theorem V.ok.keys:∀x∈v.pairs,x.1.ok M:=by cases h;assumption
theorem V.ok.vals:∀x∈v.pairs,x.2.ok M:=by cases h;assumption
theorem V.ok.nums:∀x∈v.slots,(Lit.int .i64 x.1).wf=true:=by cases h;assumption
theorem V.ok.slots:∀x∈v.slots,x.2.ok M:=by cases h;assumption
theorem V.ok.raws:∀x∈v.raws,x.ok M:=by cases h;assumption
end

theorem V.cells_length (v:V):v.cells.length=7:=by rw[V.eta];rfl

theorem Dv {c:List AV}(h:2≤c.length):Xw c=.agg c:=by
 match c,h with
 |_ :: _ :: _,_=>rfl

theorem QHx {M:Nat}(hM:M=reachBytes∨M≤1048576):∀ {k:Nat} {cs:List AV},Q8 Tryz.prog M k 32 cs→∃v:V,v.ok M∧cs=v.cells:=by
 intro k
 induction k using Nat.strongRecOn with
 |ind k ih=>
 intro cs h;cases k with
 |zero=>cases h
 |succ k=>
 simp only[Q8,Tryz.underlying32,Q8.HasL]at h;obtain⟨_,_,rfl,h0,_,_,rfl,h1,_,_,rfl,h2,_,_,rfl,h3,_,_,rfl,h4,_,_,rfl,h5,_,_,rfl,h6,rfl⟩:=h;obtain⟨a0,rfl,w0⟩:=Xx Tryz.underlying3 h0;obtain⟨a1,rfl,w1⟩:=Xx Tryz.underlying26 h1;obtain⟨a2,rfl,w2⟩:=Jz Tryz.underlying9 h2;have hb:0≤a1:=FZ w1;obtain⟨b,rfl⟩:=QY5 hb;have sl:∀ {k0:Nat} {t e:TypeId} {cs:List AV},k0≤k→Tryz.prog.underlying t=some (.slice e)→Q8 Tryz.prog M k0 t cs→∃(k':Nat) (l:List (List AV)),k'<k∧cs=[.list (l.map Xw)]∧(l.length≤M∧(M=reachBytes→l.length*Tryz.prog.bytesOf e≤M))∧∀c∈l,Q8 Tryz.prog M k' e c:=by
  intro k0 t e cs hk hu h;cases k0 with
  |zero=>cases h
  |succ k0=>
   simp only[Q8,hu]at h;obtain⟨l,h1,h4,h3,h2⟩:=h;exact⟨k0,l,by omega,h1,⟨h2,h4.2⟩,h3⟩
 have nb:∀ {n b:Nat} (c:Nat),(n≤M∧(M=reachBytes→n*b≤M))→1048576≤c→(n*b≤140737488351232→n≤c)→n≤c:=fun c h1 h2 h3=>by
  rcases hM with e|e
  ·refine h3 (QXr (h1.2 e) ?_);rw[e];exact QXq _
  ·exact QXr h1.1 (QXr e h2)
 have y1:Tryz.prog.bytesOf 32=128:=by decide +kernel
 have y2:Tryz.prog.bytesOf 75=256:=by decide +kernel
 have y3:Tryz.prog.bytesOf 47=136:=by decide +kernel
 have y4:Tryz.prog.bytesOf 52=40:=by decide +kernel
 obtain⟨k3,l3,b3,rfl,w3,hl3⟩:=sl (QXq _) Tryz.underlying27 h3;obtain⟨k4,l4,b4,rfl,w4,hl4⟩:=sl (QXq _) Tryz.underlying28 h4;obtain⟨k5,l5,b5,rfl,w5,hl5⟩:=sl (QXq _) Tryz.underlying29 h5;obtain⟨k6,l6,b6,rfl,w6,hl6⟩:=sl (QXq _) Tryz.underlying30 h6;obtain⟨vs,rfl,hvs⟩:=Zt (f:=V.cells) (ok:=V.ok M) fun c hc=>ih k3 (by omega) (hl3 c hc)
 obtain⟨ps,rfl,hps⟩:=Zt (l:=l4) (f:=fun p:V×V=>p.1.cells++p.2.cells) (ok:=fun p=>p.1.ok M∧p.2.ok M) fun c hc=>by
  have h:=hl4 c hc;cases k4 with
  |zero=>cases h
  |succ k4=>
  simp only[Q8,Tryz.underlying75,Q8.HasL]at h;obtain⟨a,_,rfl,h0,b,_,rfl,h1,rfl⟩:=h;obtain⟨x,hx,rfl⟩:=ih k4 (by omega) h0;obtain⟨y,hy,rfl⟩:=ih k4 (by omega) h1;exact⟨(x,y),⟨hx,hy⟩,by simp⟩
 obtain⟨ss,rfl,hss⟩:=Zt (l:=l5) (f:=fun s:Int×V=>.int .i64 s.1 :: s.2.cells) (ok:=fun s=>(Lit.int .i64 s.1).wf=true∧s.2.ok M) fun c hc=>by
  have h:=hl5 c hc;cases k5 with
  |zero=>cases h
  |succ k5=>
  simp only[Q8,Tryz.underlying47,Q8.HasL]at h;obtain⟨_,_,rfl,h0,b,_,rfl,h1,rfl⟩:=h;obtain⟨a0,rfl,w0⟩:=Xx Tryz.underlying3 h0;obtain⟨y,hy,rfl⟩:=ih k5 (by omega) h1;exact⟨(a0,y),⟨w0,hy⟩,by simp⟩
 obtain⟨rs,rfl,hrs⟩:=Zt (l:=l6) (f:=fun r:R=>r.av.cells) (ok:=R.ok M) fun c hc=>by
  obtain⟨f,⟨g1,g2,g3,g4⟩,e⟩:=Qay (hl6 c hc);refine⟨f,⟨g1,g2,g3,g4⟩,?_⟩;rw[←e];rfl
 refine⟨.mk a0 b a2 vs ps ss rs,.mk w0 w1 w2 (by rw[QYn,y1]at w3;exact nb _ w3 (by decide) (by omega)) (by rw[QYn,y2]at w4;exact nb _ w4 (by decide) (by omega)) (by rw[QYn,y3]at w5;exact nb _ w5 (by decide) (by omega)) (by rw[QYn,y4]at w6;exact nb _ w6 (by decide) (by omega)) hvs (fun x hx=>(hps x hx).1) (fun x hx=>(hps x hx).2) (fun x hx=>(hss x hx).1) (fun x hx=>(hss x hx).2) hrs,?_⟩;rw[V.eta];have e3:(vs.map V.cells).map Xw=vs.map V.av:=by
  rw[QZc];exact List.map_congr_left fun c _=>Dv (by rw[V.cells_length];omega)
 have e4:(ps.map (fun p=>p.1.cells++p.2.cells)).map Xw=ps.map V.pav:=by
  rw[QZc];exact List.map_congr_left fun p _=>Dv (by rw[QX4,V.cells_length];omega)
 have e5:(ss.map (fun s=>AV.int .i64 s.1 :: s.2.cells)).map Xw=ss.map V.sav:=by
  rw[QZc];exact List.map_congr_left fun p _=>Dv (by rw[QXH,V.cells_length];omega)
 have e6:(rs.map (fun r=>r.av.cells)).map Xw=rs.map R.av:=by
  rw[QZc];exact List.map_congr_left fun r _=>rfl
 rw[e3,e4,e5,e6];rfl

end Go.Proofs.YtipjfckmopekaaaGreatDoor.Br

namespace Go.Proofs.YtipjfckmopekaaaGreatDoor.Va
open Go Am Rc Bt Br

def oth (k:Int)(b:Nat)(t:List UInt8)(l p s r:List AV):Bool :=
 (k != 11&&decide ((l.length:Int) > 0))||(k != 12&&decide ((p.length:Int) > 0))||(k != 10&&decide (((s.length+r.length:Nat):Int) > 0))||((b:Int) != 0&&(Za k||k==10||k==11||k==12))||(!(t==[]) && !Za k)

section
variable (k:Int)(b:Nat)(t:List UInt8)(l p s r:List AV)(hs:s.length≤140737488351232)(hr:r.length≤140737488351232)

set_option maxHeartbeats 2000000 in
include hs hr in
theorem z90:Qk Tryz.prog 90 [vo k b t l p s r] (.bool (oth k b t l p s r)):=by
 have w:IntKind.i64.wrap ((s.length:Int)+(r.length:Int))=((s.length+r.length:Nat):Int):=by simp only[QE];omega
 have n4:((b:Int) != 0)=!((b:Int)==0):=rfl;have n5:(t != [])=!(t==[]):=rfl;refine k90.fn (by simp) ?_;simp only[vo,oth,Za,n4,eE,seval];rcases(by omega:k=7∨k=8∨k=10∨k=11∨k=12∨(k≠7∧k≠8∧k≠10∧k≠11∧k≠12))with rfl|rfl|rfl|rfl|rfl|⟨h7,h8,h10,h11,h12⟩
 ·have b7:((7:Int)==7)=true:=by decide
  have b8:((7:Int)==8)=false:=by decide
  have b10:((7:Int)==10)=false:=by decide
  have b11:((7:Int)==11)=false:=by decide
  have b12:((7:Int)==12)=false:=by decide
  have c10:((7:Int) != 10)=true:=by decide
  have c11:((7:Int) != 11)=true:=by decide
  have c12:((7:Int) != 12)=true:=by decide
  have g1:decide ((7:Int)≥10)=false:=by decide
  have g2:decide ((7:Int)≤12)=true:=by decide
  simp only[b7,b8,b10,b11,b12,c10,c11,c12,QY3,QZl,QZk,QYF,QY4,eE,seval];cases a1:decide ((l.length:Int) > 0)<;>try simp only[c12,QY7,QY6,eE,seval]
  all_goals(cases a2:decide ((p.length:Int) > 0)<;>try simp only[c10,QY7,QY6,w,eE,seval])
  all_goals(cases a3:decide (((s.length+r.length:Nat):Int) > 0)<;>try simp only[QY7,QY6,eE,seval])
  all_goals(cases a4:((b:Int)==0)<;>try simp only[a4,n4,QYz,QY4,QI,eE,seval])
  all_goals(cases a5:(t==[])<;>try simp only[QYz,QY4,Qa,seval])

 ·have b7:((8:Int)==7)=false:=by decide
  have b8:((8:Int)==8)=true:=by decide
  have b10:((8:Int)==10)=false:=by decide
  have b11:((8:Int)==11)=false:=by decide
  have b12:((8:Int)==12)=false:=by decide
  have c10:((8:Int) != 10)=true:=by decide
  have c11:((8:Int) != 11)=true:=by decide
  have c12:((8:Int) != 12)=true:=by decide
  have g1:decide ((8:Int)≥10)=false:=by decide
  have g2:decide ((8:Int)≤12)=true:=by decide
  simp only[b7,b8,b10,b11,b12,c10,c11,c12,QY3,QZl,QZm,QZk,QYF,QY4,eE,seval];cases a1:decide ((l.length:Int) > 0)<;>try simp only[c12,QY7,QY6,eE,seval]
  all_goals(cases a2:decide ((p.length:Int) > 0)<;>try simp only[c10,QY7,QY6,w,eE,seval])
  all_goals(cases a3:decide (((s.length+r.length:Nat):Int) > 0)<;>try simp only[QY7,QY6,eE,seval])
  all_goals(cases a4:((b:Int)==0)<;>try simp only[a4,n4,QYz,QY4,QI,eE,seval])
  all_goals(cases a5:(t==[])<;>try simp only[QYz,QY4,Qa,seval])

 ·have b7:((10:Int)==7)=false:=by decide
  have b8:((10:Int)==8)=false:=by decide
  have b10:((10:Int)==10)=true:=by decide
  have b11:((10:Int)==11)=false:=by decide
  have b12:((10:Int)==12)=false:=by decide
  have c10:((10:Int) != 10)=false:=by decide
  have c11:((10:Int) != 11)=true:=by decide
  have c12:((10:Int) != 12)=true:=by decide
  have g1:decide ((10:Int)≥10)=true:=by decide
  have g2:decide ((10:Int)≤12)=true:=by decide
  simp only[b7,b8,b10,b11,b12,c10,c11,c12,QY3,QYW,QZl,QZm,QYF,QYz,eE,seval];cases a1:decide ((l.length:Int) > 0)<;>try simp only[c12,QY7,QY6,eE,seval]
  all_goals(cases a2:decide ((p.length:Int) > 0)<;>try simp only[c10,QY7,QY6,eE,seval])
  all_goals(cases a3:decide (((s.length+r.length:Nat):Int) > 0)<;>try simp only[a3,g1,g2,b7,b8,b10,b11,b12,c10,c11,c12,QY3,QYW,QZl,QZm,QY7,QY6,QZk,QYF,QYz,QY4,w,QI,eE,seval])
  all_goals(cases a4:((b:Int)==0)<;>try simp only[a4,n4,QY7,QY6,QYz,QY4,QI,eE,seval])
  all_goals(cases a5:(t==[])<;>try simp only[QYz,QY4,Qa,seval])

 ·have b7:((11:Int)==7)=false:=by decide
  have b8:((11:Int)==8)=false:=by decide
  have b10:((11:Int)==10)=false:=by decide
  have b11:((11:Int)==11)=true:=by decide
  have b12:((11:Int)==12)=false:=by decide
  have c10:((11:Int) != 10)=true:=by decide
  have c11:((11:Int) != 11)=false:=by decide
  have c12:((11:Int) != 12)=true:=by decide
  have g1:decide ((11:Int)≥10)=true:=by decide
  have g2:decide ((11:Int)≤12)=true:=by decide
  simp only[b7,b8,b10,b11,b12,c10,c11,c12,QY3,QYW,QZl,QZm,QY7,QYF,QYz,eE,seval];cases a1:decide ((l.length:Int) > 0)<;>try simp only[a1,g1,g2,b7,b8,b10,b11,b12,c10,c11,c12,QY3,QYW,QZl,QZm,QY7,QY6,QZk,QYF,QYz,QY4,w,QI,eE,seval]
  all_goals(cases a2:decide ((p.length:Int) > 0)<;>try simp only[c10,QY7,QY6,w,eE,seval])
  all_goals(cases a3:decide (((s.length+r.length:Nat):Int) > 0)<;>try simp only[QY7,QY6,eE,seval])
  all_goals(cases a4:((b:Int)==0)<;>try simp only[a4,n4,QY7,QY6,QYz,QY4,QI,eE,seval])
  all_goals(cases a5:(t==[])<;>try simp only[QYz,QY4,Qa,seval])

 ·have b7:((12:Int)==7)=false:=by decide
  have b8:((12:Int)==8)=false:=by decide
  have b10:((12:Int)==10)=false:=by decide
  have b11:((12:Int)==11)=false:=by decide
  have b12:((12:Int)==12)=true:=by decide
  have c10:((12:Int) != 10)=true:=by decide
  have c11:((12:Int) != 11)=true:=by decide
  have c12:((12:Int) != 12)=false:=by decide
  have g1:decide ((12:Int)≥10)=true:=by decide
  have g2:decide ((12:Int)≤12)=true:=by decide
  simp only[b7,b8,b10,b11,b12,c10,c11,c12,QY3,QYW,QZl,QZm,QYF,QYz,eE,seval];cases a1:decide ((l.length:Int) > 0)<;>try simp only[c10,c12,QY7,QY6,w,eE,seval]
  all_goals(cases a2:decide ((p.length:Int) > 0)<;>try simp only[a2,g1,g2,b7,b8,b10,b11,b12,c10,c11,c12,QY3,QYW,QZl,QZm,QY7,QY6,QZk,QYF,QYz,QY4,w,QI,eE,seval])
  all_goals(cases a3:decide (((s.length+r.length:Nat):Int) > 0)<;>try simp only[QY7,QY6,eE,seval])
  all_goals(cases a4:((b:Int)==0)<;>try simp only[a4,n4,QY7,QY6,QYz,QY4,QI,eE,seval])
  all_goals(cases a5:(t==[])<;>try simp only[QYz,QY4,Qa,seval])
 ·have b7:(k==7)=false:=by simp[h7]
  have b8:(k==8)=false:=by simp[h8]
  have b10:(k==10)=false:=by simp[h10]
  have b11:(k==11)=false:=by simp[h11]
  have b12:(k==12)=false:=by simp[h12]
  have c10:(k != 10)=true:=by simp[h10]
  have c11:(k != 11)=true:=by simp[h11]
  have c12:(k != 12)=true:=by simp[h12]
  rcases(by omega:(k≥10∧¬k≤12)∨¬k≥10)with⟨q1,q2⟩|q1
  ·have g1:decide (k≥10)=true:=QZi q1;have g2:decide (k≤12)=false:=QZd q2;simp only[b7,b8,b10,b11,b12,c10,c11,c12,QY3,QZl,QZk,QYF,QYz,eE,seval];cases a1:decide ((l.length:Int) > 0)<;>try simp only[c12,QY7,QY6,eE,seval]
   all_goals(cases a2:decide ((p.length:Int) > 0)<;>try simp only[c10,QY7,QY6,w,eE,seval])
   all_goals(cases a3:decide (((s.length+r.length:Nat):Int) > 0)<;>try simp only[QY7,QY6,eE,seval])
   all_goals(cases a4:((b:Int)==0)<;>try simp only[a4,n4,g1,g2,QYz,QY4,QI,eE,seval])
   all_goals(cases a5:(t==[])<;>try simp only[QYz,QY4,Qa,seval])
  ·have g1:decide (k≥10)=false:=QZd q1;simp only[b7,b8,b10,b11,b12,c10,c11,c12,QY3,QZl,QZk,QYF,QYz,eE,seval];cases a1:decide ((l.length:Int) > 0)<;>try simp only[c12,QY7,QY6,eE,seval]
   all_goals(cases a2:decide ((p.length:Int) > 0)<;>try simp only[c10,QY7,QY6,w,eE,seval])
   all_goals(cases a3:decide (((s.length+r.length:Nat):Int) > 0)<;>try simp only[QY7,QY6,eE,seval])
   all_goals(cases a4:((b:Int)==0)<;>try simp only[a4,n4,g1,QYz,QY4,QI,eE,seval])
   all_goals(cases a5:(t==[])<;>try simp only[QYz,QY4,Qa,seval])

end

section
variable (k:Int)(b:Nat)(t:List UInt8)(l p s r:List AV)(hs:s.length≤140737488351232)(hr:r.length≤140737488351232)

set_option maxHeartbeats 2000000 in
include hs hr in
theorem z59:Qk Tryz.prog 59 [vo k b t l p s r] (.bool (oth k b t l p s r)):=by
 have w:IntKind.i64.wrap ((s.length:Int)+(r.length:Int))=((s.length+r.length:Nat):Int):=by simp only[QE];omega
 have n4:((b:Int) != 0)=!((b:Int)==0):=rfl;have n5:(t != [])=!(t==[]):=rfl;refine k59.fn (by simp) ?_;simp only[vo,oth,Za,n4,eE,seval];rcases(by omega:k=7∨k=8∨k=10∨k=11∨k=12∨(k≠7∧k≠8∧k≠10∧k≠11∧k≠12))with rfl|rfl|rfl|rfl|rfl|⟨h7,h8,h10,h11,h12⟩
 ·have b7:((7:Int)==7)=true:=by decide
  have b8:((7:Int)==8)=false:=by decide
  have b10:((7:Int)==10)=false:=by decide
  have b11:((7:Int)==11)=false:=by decide
  have b12:((7:Int)==12)=false:=by decide
  have c10:((7:Int) != 10)=true:=by decide
  have c11:((7:Int) != 11)=true:=by decide
  have c12:((7:Int) != 12)=true:=by decide
  have g1:decide ((7:Int)≥10)=false:=by decide
  have g2:decide ((7:Int)≤12)=true:=by decide
  simp only[b7,b8,b10,b11,b12,c10,c11,c12,QY3,QZl,QZk,QYF,QY4,eE,seval];cases a1:decide ((l.length:Int) > 0)<;>try simp only[c11,QY7,QY6,eE,seval]
  all_goals(cases a2:decide ((p.length:Int) > 0)<;>try simp only[c12,QY7,QY6,w,eE,seval])
  all_goals(cases a3:decide (((s.length+r.length:Nat):Int) > 0)<;>try simp only[QY7,QY6,QYz,eE,seval])
  all_goals(cases a4:((b:Int)==0)<;>try simp only[a4,n4,QYz,QY4,QI,eE,seval])
  all_goals(cases a5:(t==[])<;>try simp only[QYz,QY4,Qa,seval])

 ·have b7:((8:Int)==7)=false:=by decide
  have b8:((8:Int)==8)=true:=by decide
  have b10:((8:Int)==10)=false:=by decide
  have b11:((8:Int)==11)=false:=by decide
  have b12:((8:Int)==12)=false:=by decide
  have c10:((8:Int) != 10)=true:=by decide
  have c11:((8:Int) != 11)=true:=by decide
  have c12:((8:Int) != 12)=true:=by decide
  have g1:decide ((8:Int)≥10)=false:=by decide
  have g2:decide ((8:Int)≤12)=true:=by decide
  simp only[b7,b8,b10,b11,b12,c10,c11,c12,QY3,QZl,QZm,QZk,QYF,QY4,eE,seval];cases a1:decide ((l.length:Int) > 0)<;>try simp only[c11,QY7,QY6,eE,seval]
  all_goals(cases a2:decide ((p.length:Int) > 0)<;>try simp only[c12,QY7,QY6,w,eE,seval])
  all_goals(cases a3:decide (((s.length+r.length:Nat):Int) > 0)<;>try simp only[QY7,QY6,QYz,eE,seval])
  all_goals(cases a4:((b:Int)==0)<;>try simp only[a4,n4,QYz,QY4,QI,eE,seval])
  all_goals(cases a5:(t==[])<;>try simp only[QYz,QY4,Qa,seval])

 ·have b7:((10:Int)==7)=false:=by decide
  have b8:((10:Int)==8)=false:=by decide
  have b10:((10:Int)==10)=true:=by decide
  have b11:((10:Int)==11)=false:=by decide
  have b12:((10:Int)==12)=false:=by decide
  have c10:((10:Int) != 10)=false:=by decide
  have c11:((10:Int) != 11)=true:=by decide
  have c12:((10:Int) != 12)=true:=by decide
  have g1:decide ((10:Int)≥10)=true:=by decide
  have g2:decide ((10:Int)≤12)=true:=by decide
  simp only[b7,b8,b10,b11,b12,c10,c11,c12,QY3,QYW,QZl,QZm,QYF,QYz,eE,seval];cases a1:decide ((l.length:Int) > 0)<;>try simp only[c11,QY7,QY6,eE,seval]
  all_goals(cases a2:decide ((p.length:Int) > 0)<;>try simp only[c12,QY7,QY6,w,eE,seval])
  all_goals(cases a3:decide (((s.length+r.length:Nat):Int) > 0)<;>try simp only[QY4,eE,seval])
  all_goals(cases a4:((b:Int)==0)<;>try simp only[a4,n4,b11,b12,QY7,QY6,QYz,QY4,QI,eE,seval])
  all_goals(cases a5:(t==[])<;>try simp only[QYz,QY4,Qa,seval])

 ·have b7:((11:Int)==7)=false:=by decide
  have b8:((11:Int)==8)=false:=by decide
  have b10:((11:Int)==10)=false:=by decide
  have b11:((11:Int)==11)=true:=by decide
  have b12:((11:Int)==12)=false:=by decide
  have c10:((11:Int) != 10)=true:=by decide
  have c11:((11:Int) != 11)=false:=by decide
  have c12:((11:Int) != 12)=true:=by decide
  have g1:decide ((11:Int)≥10)=true:=by decide
  have g2:decide ((11:Int)≤12)=true:=by decide
  simp only[b7,b8,b10,b11,b12,c10,c11,c12,QY3,QYW,QZl,QZm,QY7,QYF,QYz,eE,seval];cases a1:decide ((l.length:Int) > 0)<;>try simp only[c11,eE,seval]
  all_goals(cases a2:decide ((p.length:Int) > 0)<;>try simp only[c12,QY7,QY6,w,eE,seval])
  all_goals(cases a3:decide (((s.length+r.length:Nat):Int) > 0)<;>try simp only[QY7,QY6,QYz,eE,seval])
  all_goals(cases a4:((b:Int)==0)<;>try simp only[a4,n4,b11,QY7,QY6,QYz,QY4,QI,eE,seval])
  all_goals(cases a5:(t==[])<;>try simp only[QYz,QY4,Qa,seval])

 ·have b7:((12:Int)==7)=false:=by decide
  have b8:((12:Int)==8)=false:=by decide
  have b10:((12:Int)==10)=false:=by decide
  have b11:((12:Int)==11)=false:=by decide
  have b12:((12:Int)==12)=true:=by decide
  have c10:((12:Int) != 10)=true:=by decide
  have c11:((12:Int) != 11)=true:=by decide
  have c12:((12:Int) != 12)=false:=by decide
  have g1:decide ((12:Int)≥10)=true:=by decide
  have g2:decide ((12:Int)≤12)=true:=by decide
  simp only[b7,b8,b10,b11,b12,c10,c11,c12,QY3,QYW,QZl,QZm,QYF,QYz,eE,seval];cases a1:decide ((l.length:Int) > 0)<;>try simp only[c11,QY7,QY6,eE,seval]
  all_goals(cases a2:decide ((p.length:Int) > 0)<;>try simp only[c12,w,eE,seval])
  all_goals(cases a3:decide (((s.length+r.length:Nat):Int) > 0)<;>try simp only[QY7,QY6,QYz,eE,seval])
  all_goals(cases a4:((b:Int)==0)<;>try simp only[a4,n4,b11,b12,QY7,QY6,QYz,QY4,QI,eE,seval])
  all_goals(cases a5:(t==[])<;>try simp only[QYz,QY4,Qa,seval])
 ·have b7:(k==7)=false:=by simp[h7]
  have b8:(k==8)=false:=by simp[h8]
  have b10:(k==10)=false:=by simp[h10]
  have b11:(k==11)=false:=by simp[h11]
  have b12:(k==12)=false:=by simp[h12]
  have c10:(k != 10)=true:=by simp[h10]
  have c11:(k != 11)=true:=by simp[h11]
  have c12:(k != 12)=true:=by simp[h12]
  rcases(by omega:(k≥10∧¬k≤12)∨¬k≥10)with⟨q1,q2⟩|q1
  ·have g1:decide (k≥10)=true:=QZi q1;have g2:decide (k≤12)=false:=QZd q2;simp only[b7,b8,b10,b11,b12,c10,c11,c12,QY3,QZl,QZk,QYF,QYz,eE,seval];cases a1:decide ((l.length:Int) > 0)<;>try simp only[c11,QY7,QY6,eE,seval]
   all_goals(cases a2:decide ((p.length:Int) > 0)<;>try simp only[c12,QY7,QY6,w,eE,seval])
   all_goals(cases a3:decide (((s.length+r.length:Nat):Int) > 0)<;>try simp only[QY7,QY6,QYz,eE,seval])
   all_goals(cases a4:((b:Int)==0)<;>try simp only[a4,n4,b11,b12,QYz,QY4,QI,eE,seval])
   all_goals(cases a5:(t==[])<;>try simp only[QYz,QY4,Qa,seval])
  ·have g1:decide (k≥10)=false:=QZd q1;simp only[b7,b8,b10,b11,b12,c10,c11,c12,QY3,QZl,QZk,QYF,QYz,eE,seval];cases a1:decide ((l.length:Int) > 0)<;>try simp only[c11,QY7,QY6,eE,seval]
   all_goals(cases a2:decide ((p.length:Int) > 0)<;>try simp only[c12,QY7,QY6,w,eE,seval])
   all_goals(cases a3:decide (((s.length+r.length:Nat):Int) > 0)<;>try simp only[QY7,QY6,QYz,eE,seval])
   all_goals(cases a4:((b:Int)==0)<;>try simp only[a4,n4,b11,b12,QYz,QY4,QI,eE,seval])
   all_goals(cases a5:(t==[])<;>try simp only[QYz,QY4,Qa,seval])

end

theorem Pp {α:Type}(p:α→Bool){l:List α}{i:Nat}{x:α}(hx:l[i]? = some x):(l.drop i).find? p=if p x=true then some x else(l.drop (i+1)).find? p:=by
 have hlt:i<l.length:=(QXs.1 hx).1;rw[QYa hlt,show l[i]=x from(QXs.1 hx).2,List.find?_cons];cases p x<;>rfl

def zc:List AV:=[.int .i64 0,.str [],.str [],.int .i64 0,.int .i64 0,.int .i64 0,.int .i64 0,.int .i64 0]

def OpI (g:PG)(n:Int)(k:Nat)(st:St):Prop :=
 ∃f fr i,st=⟨f,[fr],[]⟩∧k=g.ops.length-i∧g.ops.find? (fun o=>o.num==n)=(g.ops.drop i).find? (fun o=>o.num==n)∧f 1=.int .i64 n∧f 2=.ptr 0 2 0∧f 4=.ptr 0 4 0∧f 6=.int .i64 (i:Nat)∧fr 2=.cells g.cells∧fr 4=.cells zc

theorem TB (g:PG)(hl:g.ops.length≤maxLen)(n:Int):Qk Tryz.prog 38 [Qh g,.int .i64 n] (GA (fun o=>o.num==n) g.ops):=by
 refine k38.fn (by simp) ?_;simp only[Qh,PG.cells,eE,seval];refine Qd (OpI g n) _ ⟨_,_,0,rfl,rfl,rfl,(by rfl),(by rfl),(by rfl),(by rfl),(by rfl),(by rfl)⟩ ?_;rintro _ st ⟨f,fr,i,rfl,rfl,hx,h1,h2,h4,h6,m2,m4⟩;simp only[PG.cells,zc]at m2 m4;simp only[QYn,h2,h6,m2,eE,seval];by_cases hlt:i<g.ops.length
 ·obtain⟨x,hi⟩:∃x,g.ops[i]? = some x:=⟨g.ops[i],QXt hlt⟩;have hg:(g.ops.map fun o=>AV.agg o.cells)[i]? = some (.agg x.cells):=by simp[hi]
  have e1:=Ql i _ hlt hl;rw[Pp _ hi]at hx;simp only[PO.cells]at hg m2;simp only[Qm hlt,Qi,QYT,Qb,hg,PO.cells,h1,h2,h6,m2,eE,seval];cases hp:(x.num==n)
  ·rw[hp]at hx;simp only[QXL,if_false]at hx;simp only[h6,e1,Qa,seval];exact⟨g.ops.length-(i+1),by omega,_,_,i+1,rfl,rfl,hx,(by exact h1),(by exact h2),(by exact h4),(by rfl),m2,m4⟩
  ·rw[hp]at hx;simp only[if_true]at hx;simp only[Qi,QYT,Qb,hg,GA,hx,QYC,QZe,Qr,PO.cells,h2,h4,h6,m2,m4,splice,QYA,QXP,QX2,QX9,QYG,QYv,QXH,QYo,QYD,QYE,AV.leaf,eE,seval]
 ·have hx':g.ops.find? (fun o=>o.num==n)=none:=by rw[hx,QX3 (by omega)];rfl
  simp only[Qw hlt,h4,m4,GA,hx',QY0,QYh,WW,Qr,PO.cells,splice,QYA,QXP,QX2,QX9,QYG,QYv,QXH,QYo,QYD,QYE,AV.leaf,eE,seval]

section progs
variable (L:List PG)(hl:L.length≤maxLen)(p:PG→Bool)(c:Nat)(cap:AV)(m:Qo)

def IxG (k:Nat)(st:St):Prop :=
 ∃f i,st=⟨f,Qc :: m,[]⟩∧k=L.length-i∧QU p L 0=QU p (L.drop i) i∧f 0=.list (L.map Qh)∧f 1=.fn (.func c) [] [cap.sh]∧f 7=.int .i64 (L.length:Nat)∧f 8=.int .i64 (i:Nat)

include hl in
theorem y52 (hc:∀o∈L,Qg Tryz.prog c [Qh o,cap.sh] (Qc :: m) fun y m1=>y=.bool (p o)∧m1=Qc :: m) :
  Qg Tryz.prog 52 [.list (L.map Qh),.fn (.func c) [] [cap]] m fun y m1=>y=.int .i64 (QU p L 0)∧m1=m:=by
 refine k52.go (by simp) ?_;simp only[QYn,Qa,seval];refine Qd (IxG L p c cap m) _ ⟨_,0,rfl,rfl,rfl,(by rfl),(by rfl),(by rfl),(by rfl)⟩ ?_;rintro _ st ⟨f,i,rfl,rfl,hx,h0,h1,h7,h8⟩;simp only[h7,h8,Qa,seval];by_cases hlt:i<L.length
 ·obtain⟨x,hi⟩:∃x,L[i]? = some x:=⟨L[i],QXt hlt⟩;have hcl:=hc x (QXF hi);have hg:(L.map Qh)[i]? = some (Qh x):=by simp[hi]
  have e1:=Ql i _ hlt hl;simp only[Qh,PG.cells]at hcl;simp only[Qm hlt,Qi,QYT,Qb,hg,Qh,PG.cells,h0,h1,h8,eE,seval];refine Xf (fa:=[]) (fb:=[cap.sh]) (by rfl) hcl (by simp only[QXY,QYt,QXP,QXO,Qa,seval]) ?_;rw[XV p hi]at hx;cases hp:p x
  ·rw[hp]at hx;simp only[QXL,if_false]at hx;simp only[h8,e1,Qa,seval];exact⟨L.length-(i+1),by omega,_,i+1,rfl,rfl,hx,(by exact h0),(by exact h1),(by exact h7),(by rfl)⟩
  ·rw[hp]at hx;simp only[if_true]at hx;simp only[hx,Qa,seval]
 ·have hx':QU p L 0 = -1:=by rw[hx,QX3 (by omega)];rfl
  simp only[Qw hlt,hx',Qa,seval]

end progs

section items
variable (L:List PI)(hl:L.length≤maxLen)(p:PI→Bool)(c:Nat)(cap:AV)(m:Qo)

def IxI (k:Nat)(st:St):Prop :=
 ∃f i,st=⟨f,Qc :: m,[]⟩∧k=L.length-i∧QU p L 0=QU p (L.drop i) i∧f 0=.list (L.map Q4)∧f 1=.fn (.func c) [] [cap.sh]∧f 7=.int .i64 (L.length:Nat)∧f 8=.int .i64 (i:Nat)

include hl in
theorem QRn (hc:∀o∈L,Qg Tryz.prog c [Q4 o,cap.sh] (Qc :: m) fun y m1=>y=.bool (p o)∧m1=Qc :: m) :
  Qg Tryz.prog 245 [.list (L.map Q4),.fn (.func c) [] [cap]] m fun y m1=>y=.int .i64 (QU p L 0)∧m1=m:=by
 refine QuM.go (by simp) ?_;simp only[QYn,Qa,seval];refine Qd (IxI L p c cap m) _ ⟨_,0,rfl,rfl,rfl,(by rfl),(by rfl),(by rfl),(by rfl)⟩ ?_;rintro _ st ⟨f,i,rfl,rfl,hx,h0,h1,h7,h8⟩;simp only[h7,h8,Qa,seval];by_cases hlt:i<L.length
 ·obtain⟨x,hi⟩:∃x,L[i]? = some x:=⟨L[i],QXt hlt⟩;have hcl:=hc x (QXF hi);have hg:(L.map Q4)[i]? = some (Q4 x):=by simp[hi]
  have e1:=Ql i _ hlt hl;simp only[Q4,PI.cells]at hcl;simp only[Qm hlt,Qi,QYT,Qb,hg,Q4,PI.cells,h0,h1,h8,eE,seval];refine Xf (fa:=[]) (fb:=[cap.sh]) (by rfl) hcl (by simp only[QXY,QYt,QXP,QXO,Qa,seval]) ?_;rw[XV p hi]at hx;cases hp:p x
  ·rw[hp]at hx;simp only[QXL,if_false]at hx;simp only[h8,e1,Qa,seval];exact⟨L.length-(i+1),by omega,_,i+1,rfl,rfl,hx,(by exact h0),(by exact h1),(by exact h7),(by rfl)⟩
  ·rw[hp]at hx;simp only[if_true]at hx;simp only[hx,Qa,seval]
 ·have hx':QU p L 0 = -1:=by rw[hx,QX3 (by omega)];rfl
  simp only[Qw hlt,hx',Qa,seval]

theorem Dw {α:Type}(p:α→Bool)(l:List α):decide (QU p l 0≥0)=l.any p:=by
 rcases Wx p l 0 with⟨h1,h2⟩|⟨k,o,h1,_,h3⟩
 ·rw[h1];have:l.any p=false:=by
   rw[List.any_eq_false];intro x hx;exact fun h=>by have:=List.find?_eq_none.1 h2 x hx;exact this h
  rw[this];rfl
 ·rw[h1];have:l.any p=true:=QZg.2 ⟨o,QZh h3,List.find?_some h3⟩;rw[this];exact QZi (by omega)

include hl in
theorem QRo (hc:∀o∈L,Qg Tryz.prog c [Q4 o,cap.sh.sh] (Qc :: Qc :: m) fun y m1=>y=.bool (p o)∧m1=Qc :: Qc :: m) :
  Qg Tryz.prog 211 [.list (L.map Q4),.fn (.func c) [] [cap]] m fun y m1=>y=.bool (L.any p)∧m1=m:=by
 refine QtG.go (by simp) ?_;simp only[Qa,seval];refine Qj (QRn L hl p c cap.sh _ hc) (by simp only[QXY,QYt,Qa,seval]) ?_;simp only[Dw,Qa,seval]

end items

def D9 (b:Nat)(x:PI):Bool:=IntKind.u64.wrap x.num==(b:Int)
def GJ (b:Nat)(x:PI):Bool:=x.num==IntKind.i64.wrap (b:Int)

theorem Ve {b:Nat}{x:PI}(hb:b≤2147483647)(hx:(Lit.int .i64 x.num).wf=true):GJ b x=D9 b x:=by
 have h1:=Qbc hx;have h2:=Qbd hx;unfold GJ D9;rw[QYm,QXy,QXy,QE,Jm];omega

theorem y53 (g:PG)(frO:Nat→Ob)(s:List UInt8)(hf:frO 3=.cells [.str s]):Qg Tryz.prog 53 [Qh g,.ptr 1 3 0] [Qc,frO] fun y m1=>y=.bool (g.name==s)∧m1=[Qc,frO]:=by
 refine k53.go (by simp) ?_;simp only[hf,Qh,PG.cells,QI,eE,seval]

theorem QRp (x:PI)(b:Nat)(frO:Nat→Ob)(hf:frO 5=.cells [.int .u64 (b:Nat)]):Qg Tryz.prog 222 [Q4 x,.ptr 2 5 0] [Qc,Qc,frO] fun y m1=>y=.bool (D9 b x)∧m1=[Qc,Qc,frO]:=by
 refine QOv.go (by simp) ?_;simp only[hf,Q4,PI.cells,D9,eE,seval]

def BL (s:List UInt8)(L:List PG):AV:=.tup [.int .i64 (if QU (fun g:PG=>g.name==s) L 0<0 then 0 else QU (fun g:PG=>g.name==s) L 0),.bool (decide (QU (fun g:PG=>g.name==s) L 0≥0))]

theorem y26 (P:PL)(hl:P.progs.length≤maxLen)(s:List UInt8):Qk Tryz.prog 26 [P.av,.str s] (BL s P.progs):=by
 refine k26.fn (by simp) ?_;simp only[PL.av,eE,seval];refine Qj (y52 P.progs hl (fun g=>g.name==s) 53 (.ptr 0 3 0) _ fun g _=>y53 g _ s (by rfl)) (by simp only[QXY,QYt,Qa,seval]<;>rfl) ?_;unfold BL;by_cases h:QU (fun g:PG=>g.name==s) P.progs 0<0
 ·have d:decide (QU (fun g:PG=>g.name==s) P.progs 0<0)=true:=QZi h;simp only[QXV h,Qa,seval]
 ·have d:decide (QU (fun g:PG=>g.name==s) P.progs 0<0)=false:=QZd h;simp only[QXG h,Qa,seval]

def FdI (P:PL)(s:List UInt8)(k:Nat)(st:St):Prop :=
 ∃f fr i,st=⟨f,[fr],[]⟩∧k=P.progs.length-i∧QU (fun g:PG=>g.name==s) P.progs 0=QU (fun g:PG=>g.name==s) (P.progs.drop i) i∧f 1=.str s∧f 2=.ptr 0 2 0∧f 6=.int .i64 (i:Nat)∧fr 2=.cells [.list (P.progs.map Qh),.list (P.enums.map Qq)]

theorem y30 (P:PL)(hl:P.progs.length≤maxLen)(s:List UInt8):Qk Tryz.prog 30 [P.av,.str s] (BL s P.progs):=by
 have e0:P.av=.agg [.list (P.progs.map Qh),.list (P.enums.map Qq)]:=rfl;refine k30.fn (by simp) ?_;simp only[e0,eE,seval];refine Qd (FdI P s) _ ⟨_,_,0,rfl,rfl,rfl,(by rfl),(by rfl),(by rfl),(by rfl)⟩ ?_;rintro _ st ⟨f,fr,i,rfl,rfl,hx,h1,h2,h6,m2⟩;simp only[QYn,h2,h6,m2,eE,seval];by_cases hlt:i<P.progs.length
 ·obtain⟨x,hi⟩:∃x,P.progs[i]? = some x:=⟨P.progs[i],QXt hlt⟩;have hg:(P.progs.map Qh)[i]? = some (.agg x.cells):=by simp[hi,Qh]
  have e1:=Ql i _ hlt hl;simp only[PG.cells]at hg;rw[XV _ hi]at hx;simp only[Qm hlt,Qi,QYT,Qb,hg,h1,h2,h6,m2,QI,eE,seval];cases hp:(x.name==s)
  ·rw[hp]at hx;simp only[QXL,if_false]at hx;simp only[h6,e1,Qa,seval];exact⟨P.progs.length-(i+1),by omega,_,_,i+1,rfl,rfl,hx,(by exact h1),(by exact h2),(by rfl),m2⟩
  ·rw[hp]at hx;simp only[if_true]at hx;have d1:¬((i:Int)<0):=by omega
   have d2:decide ((i:Int)≥0)=true:=QZi (by omega);simp only[BL,hx,QXG d1,d2,h6,Qa,seval]
 ·have hx':QU (fun g:PG=>g.name==s) P.progs 0 = -1:=by rw[hx,QX3 (by omega)];rfl
  have d1:((-1:Int)<0):=by omega
  have d2:decide ((-1:Int)≥0)=false:=QZd (by omega);simp only[Qw hlt,BL,hx',Qa,seval]

def Z3 (E:List PE)(t:Int)(b:Nat):Bool :=
 if 0≤t∧t<E.length∧b≤2147483647 then
  match E[t.toNat]? with
  |some x=>x.opn||x.items.any (D9 b)
  |none=>false
 else false

theorem QwS {M:Nat}(P:PL)(hP:P.ok M)(t:Int)(b:Nat):Qk Tryz.prog 179 [P.av,.int .i64 t,.int .u64 (b:Nat)] (.bool (Z3 P.enums t b)):=by
 have e0:P.av=.agg [.list (P.progs.map Qh),.list (P.enums.map Qq)]:=rfl;refine QNI.fn (by simp) ?_;simp only[e0,eE,seval];by_cases h1:0≤t
 ·have d1:decide (t<0)=false:=QZd (by omega);by_cases h2:t<P.enums.length
  ·have d2:decide (t≥(P.enums.length:Int))=false:=QZd (by omega);by_cases h3:b≤2147483647
   ·have d3:decide ((b:Int) > 2147483647)=false:=QZd (by omega);obtain⟨n,rfl⟩:=QY5 h1;have hn:n<P.enums.length:=by omega
    obtain⟨x,hi⟩:∃x,P.enums[n]? = some x:=⟨P.enums[n],QXt hn⟩;have hx:=hP.enums x (QXF hi);have hg:(P.enums.map Qq)[n]? = some (.agg x.cells):=by simp[hi,Qq]
    simp only[PE.cells]at hg;have ha:Z3 P.enums (n:Int) b=(x.opn||x.items.any (D9 b)):=by
     unfold Z3;rw[QXV ⟨h1,h2,h3⟩,QYT,hi]
    simp only[d1,d2,QYn,d3,Qi,QYT,Qb,hg,ha,eE,seval];cases ho:x.opn
    ·simp only[QY7,eE,seval];refine Qj (QRo x.items hx.len1 (D9 b) 222 (.ptr 0 5 0) _ fun y _=>QRp y b _ (by rfl)) (by simp only[QXY,QYt,Qa,seval]<;>rfl) ?_;simp only[Qa,seval]
    ·simp only[QY6,Qa,seval]
   ·have d3:decide ((b:Int) > 2147483647)=true:=QZi (by omega);have ha:Z3 P.enums t b=false:=by
     unfold Z3;rw[QXG (by omega)]
    simp only[d1,d2,QYn,d3,ha,eE,seval]
  ·have d2:decide (t≥(P.enums.length:Int))=true:=QZi (by omega);have ha:Z3 P.enums t b=false:=by
    unfold Z3;rw[QXG (by omega)]
   simp only[d1,d2,QYn,ha,eE,seval]
 ·have d1:decide (t<0)=true:=QZi (by omega);have ha:Z3 P.enums t b=false:=by
   unfold Z3;rw[QXG (by omega)]
  simp only[d1,ha,Qa,seval]

def AcI (P:PL)(L:List PI)(eo:Bool)(n b:Nat)(k:Nat)(st:St):Prop :=
 ∃f fr i,st=⟨f,[fr],[]⟩∧k=L.length-i∧f 1=.int .i64 (n:Nat)∧f 2=.int .u64 (b:Nat)∧f 3=.ptr 0 3 0∧fr 3=.cells [.list (P.progs.map Qh),.list (P.enums.map Qq)]∧f 7=.bool (eo||(L.take i).any (GJ b))∧f 8=.int .i64 (i:Nat)

theorem QwT {M:Nat}(P:PL)(hP:P.ok M)(t:Int)(b:Nat):Qk Tryz.prog 112 [P.av,.int .i64 t,.int .u64 (b:Nat)] (.bool (Z3 P.enums t b)):=by
 have e0:P.av=.agg [.list (P.progs.map Qh),.list (P.enums.map Qq)]:=rfl;refine QL9.fn (by simp) ?_;simp only[e0,eE,seval];by_cases h1:0≤t
 ·have d1:decide (t<0)=false:=QZd (by omega);by_cases h2:t<P.enums.length
  ·have d2:decide (t≥(P.enums.length:Int))=false:=QZd (by omega);by_cases h3:b≤2147483647
   ·have d3:decide ((b:Int) > 2147483647)=false:=QZd (by omega);obtain⟨n,rfl⟩:=QY5 h1;have hn:n<P.enums.length:=by omega
    obtain⟨x,hi⟩:∃x,P.enums[n]? = some x:=⟨P.enums[n],QXt hn⟩;have hx:=hP.enums x (QXF hi);have hg:(P.enums.map Qq)[n]? = some (.agg x.cells):=by simp[hi,Qq]
    simp only[PE.cells]at hg;have ha:Z3 P.enums (n:Int) b=(x.opn||x.items.any (GJ b)):=by
     unfold Z3;rw[QXV ⟨h1,h2,h3⟩,QYT,hi];show(x.opn||x.items.any (D9 b))=_;congr 1
     rw[QYm,QZg,QZg]
     constructor
     ·rintro⟨y,hy,hp⟩;exact⟨y,hy,by rw[Ve h3 (hx.items y hy).num];exact hp⟩
     ·rintro⟨y,hy,hp⟩;exact⟨y,hy,by rw[←Ve h3 (hx.items y hy).num];exact hp⟩
    simp only[d1,d2,QYn,d3,Qi,QYT,Qb,hg,eE,seval];refine Qd (AcI P x.items x.opn n b) _ ⟨_,_,0,rfl,rfl,(by rfl),(by rfl),(by rfl),(by rfl),by simp only[QYA,List.any_nil,QZl]<;>first|rfl|simp only[eE,seval],(by rfl)⟩ ?_;rintro _ st ⟨f,fr,i,rfl,rfl,g1,g2,g3,m3,g7,g8⟩;simp only[QYn,Qi,QYT,Qb,hg,g1,g3,m3,g8,eE,seval];by_cases hlt:i<x.items.length
    ·obtain⟨y,hd⟩:∃y,x.items[i]? = some y:=⟨x.items[i],QXt hlt⟩;have hdm:(x.items.map fun n=>AV.agg n.cells)[i]? = some (.agg y.cells):=by simp[hd]
     simp only[PI.cells]at hdm;have e1:=Ql i _ hlt hx.len1;have ht:(x.opn||(x.items.take (i+1)).any (GJ b))=((x.opn||(x.items.take i).any (GJ b))||GJ b y):=by
      rw[QZa,hd];simp[Bool.or_assoc]
     have hp:GJ b y=(y.num==IntKind.i64.wrap (b:Int)):=rfl;rw[hp]at ht;simp only[PI.cells]at hg;cases hq:(x.opn||(x.items.take i).any (GJ b))
     ·rw[hq,QY7]at ht;simp only[Qm hlt,Qi,QYT,Qb,hg,hdm,hq,PI.cells,g1,g2,g3,m3,g7,g8,e1,eE,seval];exact⟨x.items.length-(i+1),by omega,_,_,i+1,rfl,rfl,(by exact g1),(by exact g2),(by exact g3),(by exact m3),by rw[ht]<;>first|rfl|simp only[eE,seval],(by rfl)⟩
     ·rw[hq,QY6]at ht;simp only[Qm hlt,hq,PI.cells,g7,g8,e1,Qa,seval];exact⟨x.items.length-(i+1),by omega,_,_,i+1,rfl,rfl,(by exact g1),(by exact g2),(by exact g3),(by exact m3),by rw[ht]<;>first|rfl|simp only[eE,seval],(by rfl)⟩
    ·rw[QX0 (by omega)]at g7;simp only[Qw hlt,g7,ha,Qa,seval]
   ·have d3:decide ((b:Int) > 2147483647)=true:=QZi (by omega);have ha:Z3 P.enums t b=false:=by
     unfold Z3;rw[QXG (by omega)]
    simp only[d1,d2,QYn,d3,ha,eE,seval]
  ·have d2:decide (t≥(P.enums.length:Int))=true:=QZi (by omega);have ha:Z3 P.enums t b=false:=by
    unfold Z3;rw[QXG (by omega)]
   simp only[d1,d2,QYn,ha,eE,seval]
 ·have d1:decide (t<0)=true:=QZi (by omega);have ha:Z3 P.enums t b=false:=by
   unfold Z3;rw[QXG (by omega)]
  simp only[d1,ha,Qa,seval]

def Yd (P:PL)(k tg kd:Int)(b:Nat)(t:List UInt8)(l p s r:List AV):Int :=
 if (kd != k||oth kd b t l p s r)=true then 12 else if decide ((t.length:Int) > 4096)=true then 3 else if (k==7 && !Uu t)=true then 7
 else if (!Xo k kd b t l p s r)=true then 12 else if (k==9 && !Z3 P.enums tg b)=true then 16 else 0

section
variable {M:Nat}(P:PL)(hP:P.ok M)(k tg kd:Int)(b:Nat)(t:List UInt8)(l p s r:List AV)(hl:l.length≤140737488351232)(hp:p.length≤140737488351232)(hs:s.length≤140737488351232)(hr:r.length≤140737488351232)

include hP hl hp hs hr in
theorem QRq:Qk Tryz.prog 251 [P.av,.int .i64 k,.int .i64 tg,vo kd b t l p s r] (.int .i64 (Yd P k tg kd b t l p s r)):=by
 have e0:P.av=.agg [.list (P.progs.map Qh),.list (P.enums.map Qq)]:=rfl;have ho:=z90 kd b t l p s r hs hr;have hf:=QwM k kd b t l p s r hl hp hs hr;have ha:=QwS P hP tg b;simp only[vo]at ho hf;simp only[e0]at ha;refine QlG.fn (by simp) ?_;simp only[e0,vo,Yd,eE,seval];cases a1:(kd != k)
 ·simp only[QY7,eE,seval];refine aC ho ?_;cases oth kd b t l p s r
  ·simp only[QXL,eE,seval];cases a2:decide ((t.length:Int) > 4096)
   ·simp only[QXL,Qa,seval];have fin:∀c:Bool,True:=fun _=>trivial
    cases a3:(k==7)
    ·simp only[QYW,QXL,eE,seval];refine aC hf ?_;cases Xo k kd b t l p s r
     ·simp only[QYz,Qa,seval]
     ·simp only[QY4,QXL,Qa,seval];cases a4:(k==9)
      ·simp only[QYW,QXL,Qa,seval]
      ·simp only[QY3,eE,seval];refine aC ha ?_;cases Z3 P.enums tg b<;>simp only[QYz,QY4,QXL,Qa,seval]
    ·simp only[QY3,eE,seval];refine aC (RV t) ?_;cases Uu t
     ·simp only[QYz,Qa,seval]
     ·have a4:(k==9)=false:=by
       rw[QXy]at a3;subst a3;rfl
      simp only[QY4,QXL,eE,seval];refine aC hf ?_;cases Xo k kd b t l p s r
      ·simp only[QYz,Qa,seval]
      ·simp only[QY4,a4,QYW,QXL,Qa,seval]
   ·simp only[Qa,seval]
  ·simp only[Qa,seval]
 ·simp only[QY6,Qa,seval]

end
open Up

def Xe (f:Nat→Int):Nat→Nat→Int
 |0,_=>0
 |k+1,i=>if f i=0 then Xe f k (i+1)else f i

theorem Pq {f:Nat→Int}{n i:Nat}(h:i<n):Xe f (n-i) i=if f i=0 then Xe f (n-(i+1)) (i+1)else f i:=by
 rw[show n-i=(n-(i+1))+1 by omega];rfl
theorem KO {f:Nat→Int}{n i:Nat}(h:i<n)(e:f i=0):Xe f (n-i) i=Xe f (n-(i+1)) (i+1):=by
 rw[Pq h,QXV e]
theorem Zz {f:Nat→Int}{n i:Nat}{v:Int}(h:i<n)(e:f i=v)(hv:v≠0):Xe f (n-i) i=v:=by
 rw[Pq h,QXG (by rw[e];exact hv),e]
theorem JY {f:Nat→Int}{n i:Nat}(h:¬i<n):Xe f (n-i) i=0:=by
 rw[show n-i=0 by omega];rfl
theorem Js {f:Nat→Int}:∀ {k i:Nat},Xe f k i=0→∀j,i≤j→j<i+k→f j=0
 |0,_,_,_,h1,h2=>by omega
 |k+1,i,h,j,h1,h2=>by
  rw[Xe]at h;split at h
  ·rename_i h0;by_cases e:j=i
   ·rw[e];exact h0
   ·exact Js h j (by omega) (by omega)
  ·rename_i h0;exact absurd h h0

def _root_.Go.Proofs.YtipjfckmopekaaaGreatDoor.Br.V.oth (v:V):Bool:=Va.oth v.kd v.bits v.text (v.list.map V.av) (v.pairs.map V.pav) (v.slots.map V.sav) (v.raws.map R.av)
def _root_.Go.Proofs.YtipjfckmopekaaaGreatDoor.Br.V.one (P:PL)(k tg:Int)(v:V):Int:=Yd P k tg v.kd v.bits v.text (v.list.map V.av) (v.pairs.map V.pav) (v.slots.map V.sav) (v.raws.map R.av)

theorem YL (v:V):v.av=vo v.kd v.bits v.text (v.list.map V.av) (v.pairs.map V.pav) (v.slots.map V.sav) (v.raws.map R.av):=by
 rw[V.av,V.eta];rfl

def Q1 (P:PL)(t:Int):PG:=P.progs[t.toNat]?.getD ⟨[],[],0⟩
def Zo (a b:V):Bool:=a.bits==b.bits&&a.text==b.text
def XO (g:PG)(n:Int):Option PO:=g.ops.find? fun o=>o.num==n

section
variable (m:PG→V→Int)(P:PL)
def QN (o:PO)(v:V):Int:=if o.kind=10 then m (Q1 P o.target) v else v.one P o.kind o.target
def Kf (o:PO)(ps:List (V×V))(i:Nat):Int:=match ps[i]? with
 |none=>0
 |some x=>if x.1.one P o.key (-1)=0 then(if (ps.take i).any (fun q=>Zo q.1 x.1)=true then 9 else QN m P o x.2)else x.1.one P o.key (-1)
def YM (o:PO)(l:List V)(i:Nat):Int:=match l[i]? with
 |none=>0
 |some x=>QN m P o x
def Q3 (o:PO)(v:V):Int :=
 if o.card=5 then(if (v.kd != 12||v.oth)=true then 12 else Xe (Kf m P o v.pairs) v.pairs.length 0)
 else if o.card=4 then(if (v.kd != 11||v.oth)=true then 12 else Xe (YM m P o v.list) v.list.length 0)
 else QN m P o v
def Zr (g:PG)(o:PO)(y:Int×V):Bool:=o.union != -1&&(((XO g y.1).getD WW).union==o.union)
def XB (g:PG)(sl:List (Int×V))(i:Nat):Int:=match sl[i]? with
 |none=>0
 |some x=>match XO g x.1 with
  |none=>8
  |some o=>if (sl.take i).any (fun y=>y.1==x.1)=true then 9 else if (sl.take i).any (Zr g o)=true then 15 else Q3 m P o x.2
def YN (g:PG)(f:R):Bool:=match XO g f.num with
 |none=>true
 |some o=>o.kind==9&&o.card != 5&&f.wire==0&&decide ((f.bits:Int)≤2147483647) && !Z3 P.enums o.target f.bits
def JR (g:PG)(f:R):Int :=
 if (decide (f.num<1)||decide (f.num > 65535)||decide (f.wire<0)||decide (f.wire > 6))=true then 1
 else if (decide (f.wire≤2) && !(f.data==[])||decide (f.wire > 2) && !((f.bits:Int)==0))=true then 1
 else if (!YN P g f)=true then 1
 else if (f.wire==3&&decide ((f.data.length:Int) > 4096)||decide ((f.data.length:Int) > 65536))=true then 3 else 0
def Zm (g:PG)(l:List R)(i:Nat):Int:=match l[i]? with
 |none=>0
 |some f=>JR P g f
def KA (g:PG)(sl:List (Int×V)):Bool:=g.ops.any fun o=>o.card==1 && !sl.any fun y=>y.1==o.num
def W2 (g:PG)(v:V):Int :=
 if Xe (XB m P g v.slots) v.slots.length 0=0 then
  (if KA g v.slots=true then 14 else Xe (Zm P g v.raws) v.raws.length 0)
 else Xe (XB m P g v.slots) v.slots.length 0
end

theorem KB {m:PG→V→Int}{P:PL}{o:PO}{ps:List (V×V)}{i:Nat}{x:V×V}(h:ps[i]? = some x) :
  Kf m P o ps i=if x.1.one P o.key (-1)=0 then(if (ps.take i).any (fun q=>Zo q.1 x.1)=true then 9 else QN m P o x.2)else x.1.one P o.key (-1):=by
 unfold Kf;rw[h]
theorem Wn {m:PG→V→Int}{P:PL}{o:PO}{l:List V}{i:Nat}{x:V}(h:l[i]? = some x):YM m P o l i=QN m P o x:=by
 unfold YM;rw[h]
theorem WA {P:PL}{g:PG}{l:List R}{i:Nat}{x:R}(h:l[i]? = some x):Zm P g l i=JR P g x:=by
 unfold Zm;rw[h]

def Xl (P:PL):Nat→PG→V→Int
 |0,_,v=>if (v.kd != 10||v.oth)=true then 12 else 17
 |n+1,g,v=>if (v.kd != 10||v.oth)=true then 12 else W2 (Xl P n) P g v

mutual
def _root_.Go.Proofs.YtipjfckmopekaaaGreatDoor.Br.V.cnt:V→Nat
 |.mk _ _ _ l p s r=>1+r.length+Xd l+Xs p+Xh s
def Xd:List V→Nat
 | []=>0
 |x :: l=>x.cnt+Xd l
def Xs:List (V×V)→Nat
 | []=>0
 |(a,b) :: l=>a.cnt+b.cnt+Xs l
def Xh:List (Int×V)→Nat
 | []=>0
 |(_,a) :: l=>a.cnt+Xh l
end

theorem Xk:∀v:V,v.cnt=1+v.raws.length+Xd v.list+Xs v.pairs+Xh v.slots
 |.mk k b t l p s r=>by rw[V.cnt];rfl

theorem Uz {l:List V}{i:Nat}{x:V}(h:l[i]? = some x):Xd (l.take (i+1))=Xd (l.take i)+x.cnt:=by
 induction l generalizing i with
 |nil=>simp at h
 |cons y l ih=>
  cases i with
  |zero=>simp at h;subst h;simp[Xd]
  |succ i=>
   simp only[QXZ,Xd];rw[ih (by simpa using h)];omega
theorem Fa {l:List (V×V)}{i:Nat}{x:V×V}(h:l[i]? = some x):Xs (l.take (i+1))=Xs (l.take i)+(x.1.cnt+x.2.cnt):=by
 induction l generalizing i with
 |nil=>simp at h
 |cons y l ih=>
  obtain⟨y1,y2⟩:=y;cases i with
  |zero=>simp at h;subst h;simp[Xs]
  |succ i=>
   simp only[QXZ,Xs];rw[ih (by simpa using h)];omega
theorem Fb {l:List (Int×V)}{i:Nat}{x:Int×V}(h:l[i]? = some x):Xh (l.take (i+1))=Xh (l.take i)+x.2.cnt:=by
 induction l generalizing i with
 |nil=>simp at h
 |cons y l ih=>
  obtain⟨y1,y2⟩:=y;cases i with
  |zero=>simp at h;subst h;simp[Xh]
  |succ i=>
   simp only[QXZ,Xh];rw[ih (by simpa using h)];omega

inductive Thin:V→Prop
 |mk {v:V} (n:v.list.length+2*v.pairs.length+v.slots.length≤1099511627776) (list:∀x∈v.list,Thin x) (keys:∀x∈v.pairs,Thin x.1) (vals:∀x∈v.pairs,Thin x.2) (slots:∀x∈v.slots,Thin x.2):Thin v

theorem UX {v:V}(h:v.oth=false):(v.kd≠11→v.list=[])∧(v.kd≠12→v.pairs=[])∧(v.kd≠10→v.slots=[]):=by
 unfold V.oth Va.oth at h;simp only[QYl,QZn,bne_eq_false_iff_eq,QZj,QYn]at h;obtain⟨⟨⟨⟨h1,h2⟩,h3⟩,_⟩,_⟩:=h;refine⟨fun h=>?_,fun h=>?_,fun h=>?_⟩
 ·rcases h1 with h1|h1
  ·exact absurd h1 h
  ·exact QZr.1 (by omega)
 ·rcases h2 with h2|h2
  ·exact absurd h2 h
  ·exact QZr.1 (by omega)
 ·rcases h3 with h3|h3
  ·exact absurd h3 h
  ·exact QZr.1 (by omega)

theorem Ym {P:PL}{k tg:Int}{v:V}(h:v.one P k tg=0):v.kd=k∧v.oth=false∧Xo k v.kd v.bits v.text (v.list.map V.av) (v.pairs.map V.pav) (v.slots.map V.sav) (v.raws.map R.av)=true:=by
 unfold V.one Yd at h;split at h
 ·omega
 ·rename_i h1;split at h
  ·omega
  ·split at h
   ·omega
   ·split at h
    ·omega
    ·rename_i h2;simp only[QZp,QYl,bne_eq_false_iff_eq]at h1;exact⟨h1.1,h1.2,by simpa using h2⟩

theorem R1 {k kd:Int}{b:Nat}{t:List UInt8}{l p s r:List AV}(h:Xo k kd b t l p s r=true):isk k=true:=by
 unfold Xo at h;simp only[QXQ]at h;exact h.1.1.1.1.1.1

theorem QwU {k:Int}(h:isk k=true):k≠10∧k≠11∧k≠12:=by
 unfold isk at h;simp only[QXQ,QXx]at h;omega

theorem BM {P:PL}{k tg:Int}{v:V}(h:v.one P k tg=0):Thin v:=by
 obtain⟨h1,h2,h3⟩:=Ym h;obtain⟨i1,i2,i3⟩:=QwU (R1 h3);obtain⟨o1,o2,o3⟩:=UX h2;rw[←h1]at i1 i2 i3;refine .mk ?_ ?_ ?_ ?_ ?_
 ·rw[o1 i2,o2 i3,o3 i1];simp
 ·rw[o1 i2];simp
 ·rw[o2 i3];simp
 ·rw[o2 i3];simp
 ·rw[o3 i1];simp

theorem R2 {P:PL}{M:Nat}:∀(n:Nat) (g:PG) (v:V),v.ok M→Xl P n g v=0→Thin v:=by
 intro n
 induction n with
 |zero=>
  intro g v _ h;unfold Xl at h;split at h<;>omega
 |succ n ih=>
  intro g v hv h;unfold Xl at h;split at h
  ·omega
  rename_i h0;simp only[QZp,QYl,bne_eq_false_iff_eq]at h0;obtain⟨o1,o2,o3⟩:=UX h0.2;have e1:=o1 (by omega);have e2:=o2 (by omega);unfold W2 at h;have hs:Xe (XB (Xl P n) P g v.slots) v.slots.length 0=0:=by
   split at h
   ·assumption
   ·exact h
  refine .mk ?_ (by rw[e1];simp) (by rw[e2];simp) (by rw[e2];simp) ?_
  ·rw[e1,e2];have:=hv.ns;simp;omega
  ·intro x hx;obtain⟨i,hi⟩:=QXD.1 hx;have hlt:=(QXs.1 hi).1;have h1:=Js hs i (QXA _) (by omega);unfold XB at h1;rw[hi]at h1;dsimp only at h1;split at h1
   ·omega
   rename_i o _;split at h1
   ·omega
   split at h1
   ·omega
   have hx2:=hv.slots x hx;have helem:∀y:V,y.ok M→QN (Xl P n) P o y=0→Thin y:=by
    intro y hy he;unfold QN at he;split at he
    ·exact ih _ _ hy he
    ·exact BM he
   unfold Q3 at h1;split at h1
   ·split at h1
    ·omega
    rename_i h2;simp only[QZp,QYl,bne_eq_false_iff_eq]at h2;obtain⟨o1,o2,o3⟩:=UX h2.2;have e1:=o1 (by omega);have e3:=o3 (by omega);have hp:∀y∈x.2.pairs,Thin y.1∧Thin y.2:=by
     intro y hy;obtain⟨j,hj⟩:=QXD.1 hy;have hlt:=(QXs.1 hj).1;have h3:=Js h1 j (QXA _) (by omega);unfold Kf at h3;rw[hj]at h3;dsimp only at h3;split at h3
     ·rename_i hk;split at h3
      ·omega
      ·exact⟨BM hk,helem _ (hx2.vals y hy) h3⟩
     ·rename_i hk;exact absurd h3 hk
    refine .mk ?_ (by rw[e1];simp) (fun y hy=>(hp y hy).1) (fun y hy=>(hp y hy).2) (by rw[e3];simp);rw[e1,e3];have:=hx2.np;simp;omega
   ·split at h1
    ·split at h1
     ·omega
     rename_i h2;simp only[QZp,QYl,bne_eq_false_iff_eq]at h2;obtain⟨o1,o2,o3⟩:=UX h2.2;have e2:=o2 (by omega);have e3:=o3 (by omega);refine .mk ?_ ?_ (by rw[e2];simp) (by rw[e2];simp) (by rw[e3];simp)
     ·rw[e2,e3];have:=hx2.nl;simp;omega
     ·intro y hy;obtain⟨j,hj⟩:=QXD.1 hy;have hlt:=(QXs.1 hj).1;have h3:=Js h1 j (QXA _) (by omega);unfold YM at h3;rw[hj]at h3;exact helem _ (hx2.list y hy) h3
    ·exact helem _ hx2 h1

end Go.Proofs.YtipjfckmopekaaaGreatDoor.Va

namespace Go.Proofs.YtipjfckmopekaaaGreatDoor.So

section
variable {α:Type}

def ZF (lt:α→α→Bool)(a:α):List α→List α
 | []=>[a]
 |x :: l=>bif lt x a then x :: ZF lt a l else a :: x :: l

def QF (lt:α→α→Bool):List α→List α
 | []=>[]
 |a :: l=>ZF lt a (QF lt l)

def mg (lt:α→α→Bool):List α→List α→List α
 | [],Y=>Y
 |x :: X,[]=>x :: X
 |x :: X,y :: Y=>bif lt y x then y :: mg lt (x :: X) Y else x :: mg lt X (y :: Y)
termination_by X Y=>X.length+Y.length

structure SW (lt:α→α→Bool):Prop where
 irr:∀x,lt x x=false
 tr:∀x y z,lt x y=true→lt y z=true→lt x z=true
 nt:∀x y z,lt x y=false→lt y z=false→lt x z=false

variable {lt:α→α→Bool}

theorem SW.as (h:SW lt){x y:α}(hx:lt x y=true):lt y x=false:=by
 cases hy:lt y x with
 |false=>rfl
 |true=>
  have:=h.tr x y x hx hy;rw[h.irr]at this;cases this

theorem Jt (X:List α):mg lt X []=X:=by cases X<;>simp[mg]
theorem Z4 (Y:List α):mg lt [] Y=Y:=by simp[mg]
theorem WB {x y:α}{X Y:List α}(h:lt y x=true):mg lt (x :: X) (y :: Y)=y :: mg lt (x :: X) Y:=by rw[mg,h];rfl
theorem Ye {x y:α}{X Y:List α}(h:lt y x=false):mg lt (x :: X) (y :: Y)=x :: mg lt X (y :: Y):=by rw[mg,h];rfl
theorem W3 {a x:α}{l:List α}(h:lt x a=true):ZF lt a (x :: l)=x :: ZF lt a l:=by rw[ZF,h];rfl
theorem YO {a x:α}{l:List α}(h:lt x a=false):ZF lt a (x :: l)=a :: x :: l:=by rw[ZF,h];rfl

theorem Pr (a:α):∀Y:List α,mg lt [a] Y=ZF lt a Y
 | []=>by rw[Jt];rfl
 |y :: Y=>by
  cases h:lt y a with
  |true=>rw[WB h,W3 h,Pr a Y]
  |false=>rw[Ye h,YO h,Z4]

theorem QwV (h:SW lt)(a:α):∀(n:Nat) (X Y:List α),X.length+Y.length=n→mg lt (ZF lt a X) Y=ZF lt a (mg lt X Y):=by
 intro n
 induction n using Nat.strongRecOn with
 |_ n ih=>
 intro X Y hn;cases X with
 |nil=>
  show mg lt [a] Y=ZF lt a (mg lt [] Y);rw[Z4,Pr]
 |cons x X=>
  cases Y with
  |nil=>rw[Jt,Jt]
  |cons y Y=>
   simp only[QXH]at hn;cases hxa:lt x a with
   |false=>
    have hi:ZF lt a (x :: X)=a :: x :: X:=YO hxa;cases hya:lt y a with
    |true=>
     cases hyx:lt y x with
     |true=>
      have i:=ih (n-1) (by omega) (x :: X) Y (by simp only[QXH];omega);rw[hi]at i ⊢;rw[WB hya,WB hyx,W3 hya,i]
     |false=>
      have:=h.nt y x a hyx hxa;rw[hya]at this;cases this
    |false=>
     rw[hi,Ye hya];cases hyx:lt y x with
     |true=>rw[WB hyx,YO hya]
     |false=>rw[Ye hyx,YO hxa]
   |true=>
    have hi:ZF lt a (x :: X)=x :: ZF lt a X:=W3 hxa;cases hyx:lt y x with
    |true=>
     have i:=ih (n-1) (by omega) (x :: X) Y (by simp only[QXH];omega);rw[hi]at i ⊢;rw[WB hyx,WB hyx,W3 (h.tr y x a hyx hxa),i]
    |false=>
     have i:=ih (n-1) (by omega) X (y :: Y) (by simp only[QXH];omega);rw[hi,Ye hyx,Ye hyx,W3 hxa,i]

theorem WC (h:SW lt):∀A B:List α,mg lt (QF lt A) (QF lt B)=QF lt (A++B)
 | [],B=>Z4 _
 |a :: A,B=>by
  show mg lt (ZF lt a (QF lt A)) (QF lt B)=ZF lt a (QF lt (A++B));rw[QwV h a _ _ _ rfl,WC h A B]

theorem WD:∀(n:Nat) (X1 Y1 X2 Y2:List α),X1.length+Y1.length=n→(∀y∈Y1,∀x∈X2,lt y x=true)→(∀x∈X1,∀y∈Y2,lt y x=false)→
  mg lt (X1++X2) (Y1++Y2)=mg lt X1 Y1++mg lt X2 Y2:=by
 intro n
 induction n using Nat.strongRecOn with
 |_ n ih=>
 intro X1 Y1 X2 Y2 hn h1 h2;cases X1 with
 |nil=>
  cases Y1 with
  |nil=>rw[Z4];rfl
  |cons y Y1=>
   cases X2 with
   |nil=>simp[Z4]
   |cons x X2=>
    simp only[QXH,QYo]at hn;have i:=ih (n-1) (by omega) [] Y1 (x :: X2) Y2 (by simp only[QYo];omega) (fun z hz=>h1 z (QXI _ hz)) h2;simp only[QXP,QXO,Z4]at i ⊢;rw[WB (h1 y (by simp) x (by simp)),i]
 |cons x X1=>
  simp only[QXH]at hn;cases Y1 with
  |nil=>
   cases Y2 with
   |nil=>simp[Jt]
   |cons y Y2=>
    have i:=ih (n-1) (by omega) X1 [] X2 (y :: Y2) (by simp only[QYo]at hn ⊢;omega) h1 (fun z hz=>h2 z (QXI _ hz));simp only[QXP,QXO,Jt]at i ⊢;rw[Ye (h2 x (by simp) y (by simp)),i]
  |cons y Y1=>
   simp only[QXH]at hn;simp only[QXO];cases hyx:lt y x with
   |true=>
    have i:=ih (n-1) (by omega) (x :: X1) Y1 X2 Y2 (by simp only[QXH];omega) (fun z hz=>h1 z (QXI _ hz)) h2;simp only[QXO]at i;rw[WB hyx,WB hyx,i];rfl
   |false=>
    have i:=ih (n-1) (by omega) X1 (y :: Y1) X2 Y2 (by simp only[QXH];omega) h1 (fun z hz=>h2 z (QXI _ hz));simp only[QXO]at i;rw[Ye hyx,Ye hyx,i];rfl

theorem Qaz {x:α}{Y1 Y2:List α}(h1:∀y∈Y1,lt y x=true)(h2:∀y∈Y2,lt y x=false):mg lt [x] (Y1++Y2)=Y1++x :: Y2:=by
 have a:=WD (lt:=lt) _ [] Y1 [x] Y2 rfl (fun y hy z hz=>by rw[QZs.1 hz];exact h1 y hy) (by simp);have b:=WD (lt:=lt) _ [x] [] [] Y2 rfl (by simp) (fun z hz y hy=>by rw[QZs.1 hz];exact h2 y hy);simp only[QXP,QYv,Z4,Jt]at a b;rw[a,b];rfl

theorem YP {y:α}{X1 X2:List α}(h1:∀x∈X1,lt y x=false)(h2:∀x∈X2,lt y x=true):mg lt (X1++X2) [y]=X1++y :: X2:=by
 have a:=WD (lt:=lt) _ X1 [y] X2 [] rfl (fun z hz x hx=>by rw[QZs.1 hz];exact h2 x hx) (by simp);have b:=WD (lt:=lt) _ X1 [] [] [y] rfl (by simp) (fun x hx z hz=>by rw[QZs.1 hz];exact h1 x hx);simp only[QXP,QYv,Z4,Jt]at a b;rw[a,b];simp

def Zi (lt:α→α→Bool)(l:List α):Prop:=l.Pairwise fun x y=>lt y x=false

theorem Dx {a z:α}:∀ {l:List α},z∈ZF lt a l→z=a∨z∈l
 | [],h=>.inl (QZs.1 h)
 |x :: l,h=>by
  cases hx:lt x a with
  |true=>
   rw[W3 hx]at h;rcases QYO.1 h with rfl|h
   ·exact .inr QXK
   ·rcases Dx h with h|h
    ·exact .inl h
    ·exact .inr (QXI _ h)
  |false=>
   rw[YO hx]at h;rcases QYO.1 h with rfl|h
   ·exact .inl rfl
   ·exact .inr h

theorem UA {z:α}:∀ {l:List α},z∈QF lt l→z∈l
 | [],h=>h
 |a :: l,h=>by
  rcases Dx (l:=QF lt l) h with rfl|h
  ·exact QXK
  ·exact QXI _ (UA h)

theorem Vf (h:SW lt)(a:α):∀ {l:List α},Zi lt l→Zi lt (ZF lt a l)
 | [],_=>List.pairwise_singleton _ _
 |x :: l,hs=>by
  obtain⟨h1,h2⟩:=QYZ.1 hs;cases hx:lt x a with
  |true=>
   rw[W3 hx];refine QYZ.2 ⟨fun z hz=>?_,Vf h a h2⟩;rcases Dx hz with rfl|hz
   ·exact h.as hx
   ·exact h1 z hz
  |false=>
   rw[YO hx];refine QYZ.2 ⟨fun z hz=>?_,hs⟩;rcases QYO.1 hz with rfl|hz
   ·exact hx
   ·exact h.nt z x a (h1 z hz) hx

theorem ZA (h:SW lt):∀l:List α,Zi lt (QF lt l)
 | []=>List.Pairwise.nil
 |a :: l=>Vf h a (ZA h l)

theorem Vg (a:α):∀l:List α,(ZF lt a l).length=l.length+1
 | []=>rfl
 |x :: l=>by
  cases hx:lt x a with
  |true=>rw[W3 hx,QXH,Vg a l,QXH]
  |false=>rw[YO hx];rfl

theorem Ju:∀l:List α,(QF lt l).length=l.length
 | []=>rfl
 |a :: l=>by show(ZF lt a (QF lt l)).length=_;rw[Vg,Ju l];rfl

theorem QwW:∀(n:Nat) (X Y:List α),X.length+Y.length=n→(mg lt X Y).length=n:=by
 intro n
 induction n using Nat.strongRecOn with
 |_ n ih=>
 intro X Y hn;cases X with
 |nil=>rw[Z4];simpa using hn
 |cons x X=>
  cases Y with
  |nil=>rw[Jt];simpa using hn
  |cons y Y=>
   simp only[QXH]at hn;cases hyx:lt y x with
   |true=>
    rw[WB hyx,QXH,ih (n-1) (by omega) (x :: X) Y (by simp only[QXH];omega)];omega
   |false=>
    rw[Ye hyx,QXH,ih (n-1) (by omega) X (y :: Y) (by simp only[QXH];omega)];omega

theorem QwX {z:α}:∀(n:Nat) (X Y:List α),X.length+Y.length=n→z∈mg lt X Y→z∈X∨z∈Y:=by
 intro n
 induction n using Nat.strongRecOn with
 |_ n ih=>
 intro X Y hn hz;cases X with
 |nil=>rw[Z4]at hz;exact .inr hz
 |cons x X=>
  cases Y with
  |nil=>rw[Jt]at hz;exact .inl hz
  |cons y Y=>
   simp only[QXH]at hn;cases hyx:lt y x with
   |true=>
    rw[WB hyx]at hz;rcases QYO.1 hz with rfl|hz
    ·exact .inr QXK
    ·exact(ih (n-1) (by omega) (x :: X) Y (by simp only[QXH];omega) hz).imp id (QXI _)
   |false=>
    rw[Ye hyx]at hz;rcases QYO.1 hz with rfl|hz
    ·exact .inl QXK
    ·exact(ih (n-1) (by omega) X (y :: Y) (by simp only[QXH];omega) hz).imp (QXI _) id

theorem KC (h:SW lt){l:List α}(hs:Zi lt l){i j:Nat}{u v x:α}(hij:i≤j)(hi:l[i]? = some u)(hj:l[j]? = some v)(hv:lt v x=true):lt u x=true:=by
 rcases Nat.lt_or_eq_of_le hij with hlt|rfl
 ·obtain⟨h1,rfl⟩:=QXs.1 hi;obtain⟨h2,rfl⟩:=QXs.1 hj;have:=QZt.1 hs i j h1 h2 hlt;cases hu:lt l[i] x with
  |true=>rfl
  |false=>
   have:=h.nt _ _ _ this hu;rw[hv]at this;cases this
 ·rw[hi]at hj;cases hj;exact hv

theorem KP {l:List α}(hs:Zi lt l)(h:SW lt){i j:Nat}{u v:α}(hij:i≤j)(hi:l[i]? = some u)(hj:l[j]? = some v):lt v u=false:=by
 rcases Nat.lt_or_eq_of_le hij with hlt|rfl
 ·obtain⟨h1,rfl⟩:=QXs.1 hi;obtain⟨h2,rfl⟩:=QXs.1 hj;exact QZt.1 hs i j h1 h2 hlt
 ·rw[hi]at hj;cases hj;exact h.irr _

def Q9 (lt:α→α→Bool)(s:Nat):Nat→List α→List α
 |0,_=>[]
 |n+1,l=>QF lt (l.take s)++Q9 lt s n (l.drop s)

theorem Dy (s:Nat):∀k,Q9 lt s k []=[]
 |0=>rfl
 |k+1=>by rw[Q9,List.take_nil,QYG,Dy s k];rfl

theorem UY (s:Nat):∀(k:Nat) (l:List α),(Q9 lt s k l).length=min (s*k) l.length
 |0,l=>by simp[Q9]
 |k+1,l=>by
  rw[Q9,QX4,Ju,UY s k,QYp,QX7,Nat.mul_succ];omega

theorem Wo {s:Nat}{z:α}:∀ {k:Nat} {l:List α},z∈Q9 lt s k l→z∈l
 |0,l,h=>by cases h
 |k+1,l,h=>by
  rw[Q9]at h;rcases QYK.1 h with h|h
  ·exact QYf (UA h)
  ·exact QYe (Wo h)

theorem YQ (s:Nat):∀(k:Nat) (l:List α),Q9 lt s (k+1) l=Q9 lt s k l++QF lt ((l.drop (s*k)).take s)
 |0,l=>by simp[Q9]
 |k+1,l=>by
  rw[Q9,YQ s k (l.drop s),Q9,QXN,QXU,Nat.mul_succ,Nat.add_comm s (s*k)]

theorem Vh {s k:Nat}{l:List α}(h:l.length≤s)(hk:l.length≤s*k):Q9 lt s k l=QF lt l:=by
 cases k with
 |zero=>
  have:l=[]:=QYw (by omega);subst this;rfl
 |succ k=>rw[Q9,QX0 h,QX3 h,Dy,QYv]

theorem R3 (s:Nat)(l:List α):l.take s++(l.drop s).take s=l.take (2*s):=by
 rw[show 2*s=s+s by omega,List.take_add]

end

end Go.Proofs.YtipjfckmopekaaaGreatDoor.So

namespace Go.Proofs.YtipjfckmopekaaaGreatDoor.Va
open Go Am Rc Bt

def WE (b:Nat):Nat :=
 let z:=b % 9223372036854775808
 if z > 9218868437227405312 then 0 else if z=9218868437227405312 then 1 else if z=0 then 2 else if z<4503599627370496 then 3 else 4

theorem QRr (b:Nat):Qk Tryz.prog 123 [.int .u64 (b:Nat)] (.int .i64 (WE b:Nat)):=by
 refine Qqq.fn (by simp) ?_;have hm:(b:Int).tmod 9223372036854775808=((b % 9223372036854775808:Nat):Int):=by
  rw[QZu (by omega)];omega
 simp only[hm,Qa,seval];unfold WE;generalize b % 9223372036854775808=z
 repeat' (first|(refine Q2 (fun h=>?_) (fun h=>?_)<;>simp only[h,Qa,seval])|(refine XG (fun h=>?_) (fun h=>?_)<;>simp only[h,Qn,eE,seval])|(refine XH (fun h=>?_) (fun h=>?_)<;>simp only[h,Qn,eE,seval]))
 all_goals(simp only[QXx,QZj,QXy,QY8,ne_eq]at *)
 all_goals((repeat' split)<;>first|rfl|(exfalso;omega))

theorem Ps (b:Nat):b &&& 4503599627370495=b % 4503599627370496:=Nat.and_two_pow_sub_one_eq_mod b 52
theorem Pt (b:Nat):b &&& 9218868437227405312=(b / 4503599627370496 % 2048)*4503599627370496:=by
 have h1:(9218868437227405312:Nat)=2047 <<< 52:=by decide
 have h2:(b / 4503599627370496 % 2048)*4503599627370496=(b >>> 52 % 2 ^ 11) <<< 52:=by
  rw[Nat.shiftLeft_eq,Nat.shiftRight_eq_div_pow]
 rw[h1,h2]
 apply Nat.eq_of_testBit_eq
 intro i;rw[Nat.testBit_and,Nat.testBit_shiftLeft,Nat.testBit_shiftLeft,Nat.testBit_mod_two_pow,Nat.testBit_shiftRight,show(2047:Nat)=2 ^ 11-1 by decide,Nat.testBit_two_pow_sub_one];by_cases h:i≥52
 ·rw[show 52+(i-52)=i by omega];simp[h,Bool.and_comm]
 ·simp[h]

theorem x82 (b:Nat)(hb:b<18446744073709551616):Qk Tryz.prog 82 [.int .u64 (b:Nat)] (.int .i64 (WE b:Nat)):=by
 refine k82.fn (by simp) ?_;have a1:bits .and .u64 (b:Int) 9218868437227405312=(((b / 4503599627370496 % 2048)*4503599627370496:Nat):Int):=by
  have:=UT b 9218868437227405312 hb (by decide);rw[Pt]at this;exact this
 have a2:bits .and .u64 (b:Int) 4503599627370495=((b % 4503599627370496:Nat):Int):=by
  have:=UT b 4503599627370495 hb (by decide);rw[Ps]at this;exact this
 simp only[a1,a2,Qa,seval];unfold WE
 repeat' (first|(refine Q2 (fun h=>?_) (fun h=>?_)<;>simp only[h,Qa,seval])|(refine XG (fun h=>?_) (fun h=>?_)<;>simp only[h,Qn,Qa,seval])|(refine XH (fun h=>?_) (fun h=>?_)<;>simp only[h,Qn,eE,seval]))
 all_goals(simp only[QXy,QXS,bne_eq_false_iff_eq,QY8,ne_eq]at *)
 all_goals((repeat' split)<;>first|rfl|(exfalso;omega))

def XK (k:Int)(b:Nat):Nat:=if k=6∧WE b=0 then 9221120237041090560 else b

theorem Cv (b:Nat):((WE b:Int)==0)=decide (WE b=0):=by
 rw[QYm,QXy,QXx];omega

open Br Up So

section sorting
variable {α:Type}{lt:α→α→Bool}
theorem BN (a:α):∀l:List α,(ZF lt a l).Perm (a :: l)
 | []=>.refl _
 |x :: l=>by
  rw[ZF];cases lt x a
  ·exact .refl _
  ·exact((BN a l).cons x).trans (.swap a x l)
theorem Xc:∀l:List α,(QF lt l).Perm l
 | []=>.refl _
 |a :: l=>(BN a _).trans ((Xc l).cons a)
end sorting

theorem HH:∀ {a b c:List UInt8},Op.bytesLess a b=true→Op.bytesLess b c=true→Op.bytesLess a c=true
 |a,b,[],_,h=>by cases b<;>simp[Op.bytesLess]at h
 | [],_,_ :: _,_,_=>by simp[Op.bytesLess]
 |x :: a,[],_ :: _,h,_=>by simp[Op.bytesLess]at h
 |x :: a,y :: b,z :: c,h,k=>by
  simp only[Op.bytesLess,QXw,QXQ,QXx,QXy]at h k ⊢;rcases h with h|⟨h1,h2⟩<;>rcases k with k|⟨k1,k2⟩
  ·exact .inl (UInt8.lt_trans h k)
  ·subst k1;exact .inl h
  ·subst h1;exact .inl k
  ·subst h1 k1;exact .inr ⟨rfl,HH h2 k2⟩
theorem UB:∀ {a b:List UInt8},Op.bytesLess a b=false→Op.bytesLess b a=false→a=b
 | [],[],_,_=>rfl
 | [],_ :: _,h,_=>by simp[Op.bytesLess]at h
 |_ :: _,[],_,h=>by simp[Op.bytesLess]at h
 |x :: a,y :: b,h,k=>by
  simp only[Op.bytesLess,QYl,QZn,QZj,QY8]at h k;have e:x=y:=by
   rcases Nat.lt_trichotomy x.toNat y.toNat with g|g|g
   ·exact absurd (UInt8.lt_iff_toNat_lt.2 g) h.1
   ·exact UInt8.toNat_inj.1 g
   ·exact absurd (UInt8.lt_iff_toNat_lt.2 g) k.1
  subst e;rw[UB (h.2.resolve_left fun g=>g rfl) (k.2.resolve_left fun g=>g rfl)]
theorem Fc:∀a:List UInt8,Op.bytesLess a a=false
 | []=>rfl
 |x :: a=>by simp[Op.bytesLess,Fc a]

def kl (k:Int)(a b:V):Bool :=
 if Za k=true then Op.bytesLess a.text b.text else if (k==2||k==3)=true then decide (IntKind.i64.wrap (a.bits:Int)<IntKind.i64.wrap (b.bits:Int))else decide ((a.bits:Int)<(b.bits:Int))
theorem UZ (k:Int):SW fun x y:V×V=>kl k x.1 y.1 where
 irr x:=by
  unfold kl;split
  ·exact Fc _
  ·split<;>simp
 tr x y z h g:=by
  unfold kl at *;split
  ·rename_i ht;rw[QXV ht]at h g;exact HH h g
  ·rename_i ht;rw[QXG ht]at h g;split
   ·rename_i hs;rw[QXV hs]at h g;simp only[QXx]at *;omega
   ·rename_i hs;rw[QXG hs]at h g;simp only[QXx]at *;omega
 nt x y z h g:=by
  unfold kl at *;split
  ·rename_i ht;rw[QXV ht]at h g;cases hc:Op.bytesLess x.1.text z.1.text with
   |false=>rfl
   |true=>
    cases hy:Op.bytesLess y.1.text x.1.text with
    |true=>rw[HH hy hc]at g;cases g
    |false=>
     rw[UB h hy]at hc;rw[hc]at g;cases g
  ·rename_i ht;rw[QXG ht]at h g;split
   ·rename_i hs;rw[QXV hs]at h g;simp only[QZj]at *;omega
   ·rename_i hs;rw[QXG hs]at h g;simp only[QZj]at *;omega

def Xj (k:Int)(l:List (V×V)):List (V×V):=QF (fun x y=>kl k x.1 y.1) l
def ZE (l:List R):List R:=QF (fun x y=>decide (x.num<y.num)) l
theorem Cw:SW fun x y:R=>decide (x.num<y.num) where
 irr x:=by simp
 tr x y z h k:=by simp only[QXx]at *;omega
 nt x y z h k:=by simp only[QZj]at *;omega

def _root_.Go.Proofs.YtipjfckmopekaaaGreatDoor.Br.V.nsc (v:V):V:=.mk v.kd (XK v.kd v.bits) v.text v.list v.pairs v.slots v.raws
def _root_.Go.Proofs.YtipjfckmopekaaaGreatDoor.Br.V.emp (v:V):Bool:=Va.emp v.kd v.bits v.text (v.list.map V.av) (v.pairs.map V.pav) (v.slots.map V.sav) (v.raws.map R.av)

section
variable (nm:PG→V→V)(P:PL)
def ZG (o:PO)(v:V):V:=if o.kind=10 then nm (Q1 P o.target) v else v.nsc
def ZT (o:PO)(v:V):V :=
 if o.card=4 then .mk 11 0 [] (v.list.map (ZG nm P o)) [] [] []else if o.card=5 then .mk 12 0 [] [] ((Xj o.key v.pairs).map fun p=>(p.1.nsc,ZG nm P o p.2)) [] []else ZG nm P o v
def XC (sl:List (Int×V))(o:PO):List (Int×V):=match sl.find? (fun s=>s.1==o.num)with
 |none=>[]
 |some s=>if (decide (o.card<3) || !(ZT nm P o s.2).emp)=true then [(o.num,ZT nm P o s.2)]else []
def HI (g:PG)(v:V):V:=.mk 10 0 [] [] [] (g.ops.flatMap (XC nm P v.slots)) (ZE v.raws)
end
def Xi (P:PL):Nat→PG→V→V
 |0,_,v=>v
 |n+1,g,v=>HI (Xi P n) P g v

theorem Vi (v:V):v.nsc.cnt=v.cnt:=by
 rw[Xk,Xk v];rfl
theorem BO {f:V→V}(h:∀v,(f v).cnt≤v.cnt):∀l:List V,Xd (l.map f)≤Xd l
 | []=>QXq _
 |x :: l=>by
  have:=h x;have:=BO h l;simp only[QXY,Xd];omega
theorem BP {f g:V→V}(h:∀v,(f v).cnt≤v.cnt)(k:∀v,(g v).cnt≤v.cnt):∀l:List (V×V),Xs (l.map fun p=>(f p.1,g p.2))≤Xs l
 | []=>QXq _
 |(a,b) :: l=>by
  have:=h a;have:=k b;have:=BP h k l;simp only[QXY,Xs];omega
theorem Pu {a b:List (V×V)}(h:a.Perm b):Xs a=Xs b:=by
 induction h with
 |nil=>rfl
 |cons x _ ih=>obtain⟨p,q⟩:=x;simp only[Xs,ih]
 |swap x y l=>obtain⟨p,q⟩:=x;obtain⟨r,s⟩:=y;simp only[Xs];omega
 |trans _ _ h1 h2=>rw[h1,h2]
theorem R4 (a b:List (Int×V)):Xh (a++b)=Xh a+Xh b:=by
 induction a with
 |nil=>simp[Xh]
 |cons x a ih=>obtain⟨n,v⟩:=x;simp only[QXO,Xh,ih];omega

theorem Dz {nm:PG→V→V}{P:PL}(h:∀t v,(nm (Q1 P t) v).cnt≤v.cnt)(o:PO)(v:V):(ZG nm P o v).cnt≤v.cnt:=by
 unfold ZG;split
 ·exact h _ _
 ·rw[Vi];exact QXq _
theorem Vj {nm:PG→V→V}{P:PL}(h:∀t v,(nm (Q1 P t) v).cnt≤v.cnt)(o:PO)(v:V):(ZT nm P o v).cnt≤v.cnt:=by
 unfold ZT;split
 ·have:=BO (Dz (P:=P) h o) v.list;rw[Xk,Xk v];simp only[V.raws,V.list,V.pairs,V.slots,QYo,Xs,Xh];simp only[V.list]at this;omega
 ·split
  ·have h1:=BP (f:=V.nsc) (g:=ZG nm P o) (fun v=>by rw[Vi];exact QXq _) (Dz (P:=P) h o) (Xj o.key v.pairs);have h2:Xs (Xj o.key v.pairs)=Xs v.pairs:=Pu (Xc _);rw[Xk,Xk v];simp only[V.raws,V.list,V.pairs,V.slots,QYo,Xd,Xh];simp only[V.pairs]at h1 h2;omega
  ·exact Dz h o v

def wS (sl:List (Int×V))(n:Int):Nat:=Xh (sl.filter fun s=>s.1==n)
theorem QwY (ops:List PO)(hd:ops.Pairwise fun a b=>a.num<b.num)(n:Int)(w:Nat):(ops.map fun o=>if n=o.num then w else 0).sum≤w:=by
 induction ops with
 |nil=>simp
 |cons o ops ih=>
  obtain⟨h1,h2⟩:=QYZ.1 hd;simp only[QXY,QZv];by_cases e:n=o.num
  ·have:(ops.map fun o=>if n=o.num then w else 0).sum=0:=by
    have:∀l:List PO,(∀x∈l,n≠x.num)→(l.map fun o=>if n=o.num then w else 0).sum=0:=by
     intro l
     induction l with
     |nil=>intro _;rfl
     |cons x l ih=>
      intro h;rw[QXY,QZv,QXG (h x (by simp)),ih fun y hy=>h y (by simp[hy])]
    exact this ops fun x hx=>by have:=h1 x hx;omega
   rw[QXV e,this];omega
  ·rw[QXG e];have:=ih h2;omega
theorem QwZ (ops:List PO)(hd:ops.Pairwise fun a b=>a.num<b.num)(sl:List (Int×V)):(ops.map fun o=>wS sl o.num).sum≤Xh sl:=by
 induction sl with
 |nil=>
  have:∀l:List PO,(l.map fun o=>wS [] o.num).sum=0:=by
   intro l
   induction l with
   |nil=>rfl
   |cons x l ih=>rw[QXY,QZv,ih];rfl
  rw[this];exact QXA _
 |cons s sl ih=>
  obtain⟨n,v⟩:=s;have h1:=QwY ops hd n v.cnt;have h2:∀l:List PO,(l.map fun o=>wS ((n,v) :: sl) o.num).sum=(l.map fun o=>if n=o.num then v.cnt else 0).sum+(l.map fun o=>wS sl o.num).sum:=by
   intro l
   induction l with
   |nil=>rfl
   |cons o l ih=>
    simp only[QXY,QZv,ih];have:wS ((n,v) :: sl) o.num=(if n=o.num then v.cnt else 0)+wS sl o.num:=by
     unfold wS;by_cases e:n=o.num
     ·rw[List.filter_cons_of_pos (by simpa using e),QXV e,Xh]
     ·rw[List.filter_cons_of_neg (by simpa using e),QXG e,QX8]
    omega
  rw[h2,Xh];omega

theorem QaA {sl:List (Int×V)}{n:Int}{s:Int×V}(h:sl.find? (fun s=>s.1==n)=some s):s.2.cnt≤wS sl n:=by
 unfold wS
 induction sl with
 |nil=>cases h
 |cons x sl ih=>
  obtain⟨m,v⟩:=x;rw[List.find?_cons]at h;by_cases e:m=n
  ·have hb:((m,v).1==n)=true:=by simpa using e
   rw[hb]at h;cases h;rw[List.filter_cons_of_pos (by simpa using e),Xh];exact Nat.le_add_right _ _
  ·have hb:((m,v).1==n)=false:=by simpa using e
   rw[hb]at h;rw[List.filter_cons_of_neg (by simpa using e)];exact ih h

theorem R5 {nm:PG→V→V}{P:PL}(h':∀t v,(nm (Q1 P t) v).cnt≤v.cnt)(g:PG)(hd:g.ops.Pairwise fun a b=>a.num<b.num)(v:V):(HI nm P g v).cnt≤v.cnt:=by
 have h1:Xh (g.ops.flatMap (XC nm P v.slots))≤(g.ops.map fun o=>wS v.slots o.num).sum:=by
  clear hd
  induction g.ops with
  |nil=>exact QXq _
  |cons o l ih=>
   have:Xh (XC nm P v.slots o)≤wS v.slots o.num:=by
    unfold XC;cases hf:v.slots.find? (fun s=>s.1==o.num)with
    |none=>exact QXA _
    |some s=>
     have a:=QaA hf;have b:=Vj (P:=P) h' o s.2;dsimp only;split
     ·simp only[Xh];omega
     ·exact QXA _
   rw[QYV,R4,QXY,QZv];omega
 have h2:=QwZ g.ops hd v.slots;have h3:(ZE v.raws).length=v.raws.length:=(Xc _).length_eq;rw[Xk,Xk v];simp only[HI,V.raws,V.list,V.pairs,V.slots,Xd,Xs]at *;omega

def KI (P:PL):Prop:=∀g∈P.progs,g.ops.Pairwise fun a b=>a.num<b.num
theorem UC {P:PL}(h:KI P)(t:Int):(Q1 P t).ops.Pairwise fun a b=>a.num<b.num:=by
 unfold Q1;cases hg:P.progs[t.toNat]? with
 |none=>exact .nil
 |some g=>exact h g (QXF hg)

theorem Yn {P:PL}(h:KI P):∀(n:Nat) (g:PG),(g.ops.Pairwise fun a b=>a.num<b.num)→∀v:V,(Xi P n g v).cnt≤v.cnt
 |0,_,_,_=>QXq _
 |n+1,g,hg,v=>R5 (fun t v=>Yn h n _ (UC h t) v) g hg v

end Go.Proofs.YtipjfckmopekaaaGreatDoor.Va

namespace Go.Proofs.YtipjfckmopekaaaGreatDoor.Va
open Go Am Rc Bt Br

def JoI (g:PG)(k:Nat)(st:St):Prop :=
 ∃f fr i n b,st=⟨f,[fr],[]⟩∧k=g.ops.length-i∧Jf g.ops 0 (-1)=Jf (g.ops.drop i) n b∧0≤n∧n≤(i:Int)∧((i=0∧b = -1)∨∃j o,i=j+1∧g.ops[j]? = some o∧b=o.union)∧f 1=.ptr 0 1 0∧f 3=.int .i64 n∧f 4=.int .i64 (i:Nat)∧fr 1=.cells g.cells

theorem z80 (g:PG)(hl:g.ops.length≤9223372036854775000):Qk Tryz.prog 80 [Qh g] (.bool (ZY g)):=by
 refine k80.fn (by simp) ?_;simp only[Qh,PG.cells,eE,seval];refine Qd (JoI g) _ ⟨_,_,0,0,-1,rfl,rfl,rfl,by decide,by decide,.inl ⟨rfl,rfl⟩,(by rfl),(by rfl),(by rfl),(by rfl)⟩ ?_;rintro _ st ⟨f,fr,i,n,b,rfl,rfl,hj,hn0,hni,hb,h1,h3,h4,m1⟩;simp only[PG.cells]at m1;simp only[QYn,h1,h4,m1,eE,seval];by_cases hlt:i<g.ops.length
 ·obtain⟨o,hi⟩:∃o,g.ops[i]? = some o:=⟨g.ops[i],QXt hlt⟩;have hg:(g.ops.map fun o=>AV.agg o.cells)[i]? = some (.agg o.cells):=by simp[hi]
  have e1:=Ql i _ hlt (by simp only[maxLen];omega);have en:IntKind.i64.wrap (n+1)=n+1:=by rw[QE];omega
  rw[GG hi]at hj;have fin:∀(f':Fr) (n':Int),(if o.union=n then n'=n+1 else n'=n)→Jf g.ops 0 (-1)=Jf (g.ops.drop (i+1)) n' o.union→f' 1=.ptr 0 1 0→f' 3=.int .i64 n'→f' 4=.int .i64 ((i+1:Nat):Int)→∃k,k<g.ops.length-i∧JoI g k ⟨f',[fr],[]⟩:=by
   intro f' n' a c d e f4;refine⟨g.ops.length-(i+1),by omega,f',fr,i+1,n',o.union,rfl,rfl,c,?_,?_,.inr ⟨i,o,rfl,hi,rfl⟩,d,e,f4,m1⟩<;>split at a<;>omega
  simp only[PO.cells]at hg;simp only[Qm hlt,Qi,QYT,Qb,hg,PO.cells,h1,h3,h4,m1,eE,seval];by_cases a1:o.union=n
  ·have b1:(o.union==n)=true:=by simp[a1]
   rw[QXV a1,←a1]at hj;simp only[b1,h3,h4,en,e1,Qa,seval];exact fin _ (n+1) (by rw[QXV a1]) (by rw[hj,a1]) (by exact h1) (by rfl) (by rfl)
  have b1:(o.union==n)=false:=by simp[a1]
  rw[QXG a1]at hj;by_cases a2:o.union = -1
  ·have b2:(o.union != -1)=false:=by simp[a2]
   rw[QXV (.inl a2)]at hj;simp only[b1,b2,h4,e1,Qa,seval];exact fin _ n (by rw[QXG a1]) hj (by exact h1) (by exact h3) (by rfl)
  have b2:(o.union != -1)=true:=by simp[a2]
  rcases hb with⟨rfl,rfl⟩|⟨j,p,rfl,hjp,rfl⟩
  ·have b3:(((0:Nat):Int)==0)=true:=rfl;rw[QXG (by omega)]at hj;have hun:ZY g=false:=by unfold ZY;rw[hj]
   simp only[b1,b2,h4,hun,Qa,seval]
  ·have b3:(((j+1:Nat):Int)==0)=false:=by rw[QY8];omega
   have hgj:(g.ops.map fun o=>AV.agg o.cells)[j]? = some (.agg p.cells):=by simp[hjp]
   have e2:=Wz j _ hlt (by simp only[maxLen];omega);simp only[PO.cells]at hgj;by_cases a4:o.union=p.union
   ·have b4:(p.union != o.union)=false:=by simp[a4]
    rw[QXV (.inr a4)]at hj;simp only[b1,b2,b3,b4,e2,Qi,QYT,Qb,hgj,PO.cells,h1,h4,m1,e1,eE,seval];exact fin _ n (by rw[QXG a1]) hj (by exact h1) (by exact h3) (by rfl)
   ·have b4:(p.union != o.union)=true:=by simp;exact fun h=>a4 h.symm
    rw[QXG (by omega)]at hj;have hun:ZY g=false:=by unfold ZY;rw[hj]
    simp only[b1,b2,b3,b4,e2,Qi,QYT,Qb,hgj,PO.cells,h1,h4,m1,hun,eE,seval]
 ·rw[QX3 (by omega)]at hj;have hun:ZY g=(g.unions==n):=by unfold ZY;rw[hj];rfl
  simp only[Qw hlt,h1,h3,m1,hun,eE,seval]

section
variable {M:Nat}(hM:M≤140737488351232)(P:PL)(hP:P.ok M)(fr:Nat→Ob)(m1:fr 1=.cells (Pc P))(f:Fr)(b:Bool)(h1:f 1=.ptr 0 1 0)(h3:f 3=.bool b)(Q:Exit→St→Prop)
include hM hP m1 h1 h3

theorem Qw0 (j:Nat)(x:PE)(hj:P.enums[j]? = some x)(ha:f 4=.int .i64 (j:Nat))(hc:f 5=.int .i64 0)(hx:∀f,f 1=.ptr 0 1 0→f 3=.bool (b&&x.items.all Z2)→f 4=.int .i64 (j:Nat)→Q (.exit 2) (⟨f,[fr],[]⟩:St)):QH Tryz.prog (.loop Tc) ⟨f,[fr],[]⟩ Q:=by
 let I:Nat→St→Prop:=fun k st=>∃f i,st=⟨f,[fr],[]⟩∧k=x.items.length-i∧i≤x.items.length∧f 1=.ptr 0 1 0∧f 3=.bool (b&&(x.items.take i).all Z2)∧f 4=.int .i64 (j:Nat)∧f 5=.int .i64 (i:Nat)
 have hjm:(P.enums.map Qq)[j]? = some (.agg x.cells):=by simp[hj,Qq]
 have hxo:=hP.enums x (QXF hj);have z0:(0≤(0:Int))=True:=by simp
 have z1:Int.toNat 0=0:=rfl;refine Qd I _ ⟨f,0,rfl,rfl,QXA _,h1,by rw[h3];simp,ha,hc⟩ ?_;clear h1 h3 ha hc;simp only[Pc]at m1;simp only[PE.cells]at hjm;rintro _ st ⟨f,i,rfl,rfl,hi,h1,h3,ha,hc⟩;simp only[Qi,QYT,Qb,hjm,QYn,h1,m1,ha,hc,eE,seval];by_cases hlt:i<x.items.length
 ·obtain⟨o,hg⟩:∃o,x.items[i]? = some o:=⟨x.items[i],QXt hlt⟩;have hgm:(x.items.map fun o=>AV.agg o.cells)[i]? = some (.agg o.cells):=by simp[hg]
  have e1:=Ql i _ hlt hxo.len1;have ho:=hxo.items o (QXF hg);have ht:=Q6 (q:=Z2) hg;have fin:∀f':Fr,f' 1=.ptr 0 1 0→f' 3=.bool ((b&&(x.items.take i).all Z2)&&Z2 o)→f' 4=.int .i64 (j:Nat)→f' 5=.int .i64 ((i+1:Nat):Int)→∃k,k<x.items.length-i∧I k ⟨f',[fr],[]⟩:=by
   intro f' a1 a3 a4 a5;exact⟨x.items.length-(i+1),by omega,f',i+1,rfl,rfl,by omega,a1,by rw[a3,ht,QYc],a4,a5⟩
  simp only[PI.cells]at hgm;cases hb:(b&&(x.items.take i).all Z2)
  ·rw[hb]at fin h3;simp only[Qm hlt,Qi,QYT,Qb,hjm,hgm,PI.cells,h1,m1,h3,ha,hc,e1,eE,seval];exact fin _ (by exact h1) (by rfl) (by exact ha) (by rfl)
  ·rw[hb,QY3]at fin;rw[hb]at h3;rcases hn:o.notes with _|⟨n,_|⟨n2,ns⟩⟩
   ·have c0:(((0:Nat):Int)==0)=true:=rfl;have e:Z2 o=true:=by unfold Z2;rw[hn]
    rw[e]at fin;rw[hn]at hgm;simp only[Qm hlt,Qi,QYT,Qb,hjm,hgm,PI.cells,QYt,QYo,h1,m1,h3,ha,hc,e1,eE,seval];exact fin _ (by exact h1) (by rfl) (by exact ha) (by rfl)
   ·obtain⟨kd,b',t,l,p,s,r,hv,htl,h3',h4',h5',h6'⟩:=Ci (ho.notes n (by rw[hn];simp)) hM;have c0:(((1:Nat):Int)==0)=false:=rfl;have c1:(((1:Nat):Int)==1)=true:=rfl;have e:Z2 o=(n.name==alias&&Xo 7 kd b' t l p s r):=by
     unfold Z2;rw[hn];show(n.name==alias&&nok n.val)=_;rw[hv];rfl
    have en:Xw n.cells=.agg [.str n.name,.int .i64 kd,.int .u64 ((b':Nat):Int),.str t,.list l,.list p,.list s,.list r]:=by
     rw[PN.cells,hv];rfl
    have hne:(n.name==[97,108,105,97,115])=(n.name==alias):=rfl;have hck:=z79 kd b' t l p s r (by simp only[maxLen];omega);simp only[nv]at hck;rw[e]at fin;rw[hn]at hgm;simp only[QXY,QYt,en]at hgm;simp only[Qm hlt,Qi,QYT,Qb,hjm,hgm,PI.cells,QXH,QYo,QX8,z0,z1,QYu,QI,hne,h1,m1,h3,ha,hc,eE,seval];by_cases hal:n.name=alias
    ·have b0:(n.name==alias)=true:=by simp[hal]
     rw[←hal]at hck;rw[b0,QY3]at fin;simp only[b0,Qa,seval];refine aC hck ?_;cases hfv:Xo 7 kd b' t l p s r
     ·rw[hfv]at fin;have d0:((12:Int)==0)=false:=rfl;simp only[QXL,d0,hc,e1,Qa,seval];exact fin _ (by exact h1) (by rfl) (by exact ha) (by rfl)
     ·rw[hfv]at fin;have d0:((0:Int)==0)=true:=rfl;simp only[d0,hc,e1,Qa,seval];exact fin _ (by exact h1) (by rfl) (by exact ha) (by rfl)
    ·have b0:(n.name==alias)=false:=by simp[hal]
     rw[b0,QYW]at fin;simp only[b0,hc,e1,Qa,seval];exact fin _ (by exact h1) (by rfl) (by exact ha) (by rfl)
   ·have c0:((((ns.length+1+1:Nat)):Int)==0)=false:=by rw[QY8];omega
    have c1:((((ns.length+1+1:Nat)):Int)==1)=false:=by rw[QY8];omega
    have e:Z2 o=false:=by unfold Z2;rw[hn]
    rw[e]at fin;rw[hn]at hgm;simp only[QXY]at hgm;simp only[Qm hlt,Qi,QYT,Qb,hjm,hgm,PI.cells,QXH,QYn,c0,c1,h1,m1,h3,ha,hc,e1,eE,seval];exact fin _ (by exact h1) (by rfl) (by exact ha) (by rfl)
 ·have hf:(x.items.take i).all Z2=x.items.all Z2:=by rw[QX0 (by omega)]
  rw[hf]at h3;simp only[Qw hlt,Qa,seval];exact hx _ (by exact h1) (by exact h3) (by exact ha)

theorem QRs (ha:f 4=.int .i64 0)(hx:∀f,f 1=.ptr 0 1 0→f 3=.bool (b&&P.enums.all Kz)→Q (.exit 0) (⟨f,[fr],[]⟩:St)):QH Tryz.prog (.loop Td) ⟨f,[fr],[]⟩ Q:=by
 let I:Nat→St→Prop:=fun k st=>∃f i,st=⟨f,[fr],[]⟩∧k=P.enums.length-i∧i≤P.enums.length∧f 1=.ptr 0 1 0∧f 3=.bool (b&&(P.enums.take i).all Kz)∧f 4=.int .i64 (i:Nat)
 have m1':=m1;refine Qd I _ ⟨f,0,rfl,rfl,QXA _,h1,by rw[h3];simp,ha⟩ ?_;clear h1 h3 ha;simp only[Pc]at m1;rintro _ st ⟨f,i,rfl,rfl,hi,h1,h3,ha⟩;simp only[QYn,h1,m1,ha,eE,seval];by_cases hlt:i<P.enums.length
 ·obtain⟨x,hg⟩:∃x,P.enums[i]? = some x:=⟨P.enums[i],QXt hlt⟩;have hgm:(P.enums.map Qq)[i]? = some (.agg x.cells):=by simp[hg,Qq]
  have e1:=Ql i _ hlt hP.len2;have ht:=Q6 (q:=Kz) hg;have hq:Kz x=(x.notes.isEmpty&&x.items.all Z2):=rfl;have hie:((x.notes.length:Int)==0)=x.notes.isEmpty:=by
   cases x.notes with
   |nil=>rfl
   |cons a l=>simp;omega
  have fin:∀f':Fr,f' 1=.ptr 0 1 0→f' 3=.bool (((b&&(P.enums.take i).all Kz)&&x.notes.isEmpty)&&x.items.all Z2)→f' 4=.int .i64 ((i+1:Nat):Int)→∃k,k<P.enums.length-i∧I k ⟨f',[fr],[]⟩:=by
   intro f' a1 a3 a4;exact⟨P.enums.length-(i+1),by omega,f',i+1,rfl,rfl,by omega,a1,by rw[a3,ht,hq,QYc,QYc],a4⟩
  simp only[PE.cells]at hgm;cases hb:(b&&(P.enums.take i).all Kz)
  ·rw[hb,QYW]at fin;rw[hb]at h3;simp only[Qm hlt,h3,Qa,seval];refine Qw0 hM P hP fr m1' _ false (by exact h1) (by rfl) _ i x hg (by exact ha) (by rfl) (fun f h1 h3 ha=>?_);simp only[ha,e1,Qa,seval];exact fin _ (by exact h1) (by exact h3) (by rfl)
  ·rw[hb,QY3]at fin;rw[hb]at h3;simp only[Qm hlt,Qi,QYT,Qb,hgm,QYn,hie,h1,m1,h3,ha,eE,seval];refine Qw0 hM P hP fr m1' _ x.notes.isEmpty (by exact h1) (by rfl) _ i x hg (by exact ha) (by rfl) (fun f h1 h3 ha=>?_);simp only[ha,e1,Qa,seval];exact fin _ (by exact h1) (by exact h3) (by rfl)
 ·have hf:(P.enums.take i).all Kz=P.enums.all Kz:=by rw[QX0 (by omega)]
  rw[hf]at h3;simp only[Qw hlt,Qa,seval];exact hx _ (by exact h1) (by exact h3)

theorem Qw1 (j:Nat)(x:PG)(hj:P.progs[j]? = some x)(ha:f 7=.int .i64 (j:Nat))(hc:f 8=.int .i64 0)(hx:∀f,f 1=.ptr 0 1 0→f 3=.bool (b&&x.ops.all fun o=>X9 P o&&X0 o)→f 7=.int .i64 (j:Nat)→Q (.exit 6) (⟨f,[fr],[]⟩:St)):QH Tryz.prog (.loop Te) ⟨f,[fr],[]⟩ Q:=by
 let I:Nat→St→Prop:=fun k st=>∃f i,st=⟨f,[fr],[]⟩∧k=x.ops.length-i∧i≤x.ops.length∧f 1=.ptr 0 1 0∧f 3=.bool (b&&(x.ops.take i).all fun o=>X9 P o&&X0 o)∧f 7=.int .i64 (j:Nat)∧f 8=.int .i64 (i:Nat)
 have hjm:(P.progs.map Qh)[j]? = some (.agg x.cells):=by simp[hj,Qh]
 have hxo:=hP.progs x (QXF hj);refine Qd I _ ⟨f,0,rfl,rfl,QXA _,h1,by rw[h3];simp,ha,hc⟩ ?_;clear h1 h3 ha hc;simp only[Pc]at m1;simp only[PG.cells]at hjm;rintro _ st ⟨f,i,rfl,rfl,hi,h1,h3,ha,hc⟩;simp only[Qi,QYT,Qb,hjm,QYn,h1,m1,ha,hc,eE,seval];by_cases hlt:i<x.ops.length
 ·obtain⟨o,hg⟩:∃o,x.ops[i]? = some o:=⟨x.ops[i],QXt hlt⟩;have hgm:(x.ops.map fun o=>AV.agg o.cells)[i]? = some (.agg o.cells):=by simp[hg]
  have e1:=Ql i _ hlt hxo.len;have hal:o.alias.length+8≤maxLen:=by have:=(hxo.ops o (QXF hg)).alias;simp only[maxLen];omega
  have hop:Qk Tryz.prog 81 [.agg [.list (P.progs.map Qh),.list (P.enums.map Qq)],Qr o] (.bool (X9 P o&&X0 o)):=z81 P o hal;have ht:=Q6 (q:=fun o=>X9 P o&&X0 o) hg;have fin:∀f':Fr,f' 1=.ptr 0 1 0→f' 3=.bool ((b&&(x.ops.take i).all fun o=>X9 P o&&X0 o)&&(X9 P o&&X0 o))→f' 7=.int .i64 (j:Nat)→f' 8=.int .i64 ((i+1:Nat):Int)→∃k,k<x.ops.length-i∧I k ⟨f',[fr],[]⟩:=by
   intro f' a1 a3 a4 a5;exact⟨x.ops.length-(i+1),by omega,f',i+1,rfl,rfl,by omega,a1,by rw[a3,ht,QYc],a4,a5⟩
  simp only[Qr,PO.cells]at hgm hop;cases hb:(b&&(x.ops.take i).all fun o=>X9 P o&&X0 o)
  ·rw[hb]at fin h3;simp only[Qm hlt,PO.cells,h3,hc,e1,Qa,seval];exact fin _ (by exact h1) (by rfl) (by exact ha) (by rfl)
  ·rw[hb,QY3]at fin;rw[hb]at h3;simp only[Qm hlt,Qi,QYT,Qb,hjm,hgm,PO.cells,h1,m1,h3,ha,hc,eE,seval];refine aC hop ?_;simp only[hc,e1,Qa,seval];exact fin _ (by exact h1) (by rfl) (by exact ha) (by rfl)
 ·have hf:(x.ops.take i).all (fun o=>X9 P o&&X0 o)=x.ops.all fun o=>X9 P o&&X0 o:=by rw[QX0 (by omega)]
  rw[hf]at h3;simp only[Qw hlt,Qa,seval];exact hx _ (by exact h1) (by exact h3) (by exact ha)

theorem QRt (hl:∀g∈P.progs,g.ops.length≤64)(ha:f 7=.int .i64 0)(hx:∀f,f 1=.ptr 0 1 0→f 3=.bool (b&&P.progs.all (Jb P))→Q (.exit 4) (⟨f,[fr],[]⟩:St)):QH Tryz.prog (.loop Tf) ⟨f,[fr],[]⟩ Q:=by
 let I:Nat→St→Prop:=fun k st=>∃f i,st=⟨f,[fr],[]⟩∧k=P.progs.length-i∧i≤P.progs.length∧f 1=.ptr 0 1 0∧f 3=.bool (b&&(P.progs.take i).all (Jb P))∧f 7=.int .i64 (i:Nat)
 have m1':=m1;refine Qd I _ ⟨f,0,rfl,rfl,QXA _,h1,by rw[h3];simp,ha⟩ ?_;clear h1 h3 ha;simp only[Pc]at m1;rintro _ st ⟨f,i,rfl,rfl,hi,h1,h3,ha⟩;simp only[QYn,h1,m1,ha,eE,seval];by_cases hlt:i<P.progs.length
 ·obtain⟨x,hg⟩:∃x,P.progs[i]? = some x:=⟨P.progs[i],QXt hlt⟩;have hgm:(P.progs.map Qh)[i]? = some (.agg x.cells):=by simp[hg,Qh]
  have e1:=Ql i _ hlt hP.len1;have ht:=Q6 (q:=Jb P) hg;have hq:Jb P x=(ZY x&&x.ops.all fun o=>X9 P o&&X0 o):=rfl;have hjo:=z80 x (QXr (hl x (QXF hg)) (by decide));have fin:∀f':Fr,f' 1=.ptr 0 1 0→f' 3=.bool (((b&&(P.progs.take i).all (Jb P))&&ZY x)&&x.ops.all fun o=>X9 P o&&X0 o)→f' 7=.int .i64 ((i+1:Nat):Int)→∃k,k<P.progs.length-i∧I k ⟨f',[fr],[]⟩:=by
   intro f' a1 a3 a4;exact⟨P.progs.length-(i+1),by omega,f',i+1,rfl,rfl,by omega,a1,by rw[a3,ht,hq,QYc,QYc],a4⟩
  simp only[Qh,PG.cells]at hgm hjo;cases hb:(b&&(P.progs.take i).all (Jb P))
  ·rw[hb,QYW]at fin;rw[hb]at h3;simp only[Qm hlt,h3,Qa,seval];refine Qw1 hM P hP fr m1' _ false (by exact h1) (by rfl) _ i x hg (by exact ha) (by rfl) (fun f h1 h3 ha=>?_);simp only[ha,e1,Qa,seval];exact fin _ (by exact h1) (by exact h3) (by rfl)
  ·rw[hb,QY3]at fin;rw[hb]at h3;simp only[Qm hlt,Qi,QYT,Qb,hgm,h1,m1,h3,ha,eE,seval];refine aC hjo ?_;simp only[Qa,seval];refine Qw1 hM P hP fr m1' _ (ZY x) (by exact h1) (by rfl) _ i x hg (by exact ha) (by rfl) (fun f h1 h3 ha=>?_);simp only[ha,e1,Qa,seval];exact fin _ (by exact h1) (by exact h3) (by rfl)
 ·have hf:(P.progs.take i).all (Jb P)=P.progs.all (Jb P):=by rw[QX0 (by omega)]
  rw[hf]at h3;simp only[Qw hlt,Qa,seval];exact hx _ (by exact h1) (by exact h3)

end

theorem z48 {M:Nat}(hM:M≤140737488351232)(P:PL)(hP:P.ok M)(hl:∀g∈P.progs,g.ops.length≤64):Qk Tryz.prog 48 [P.av] (.bool (args P)):=by
 have e0:P.av=.agg [.list (P.progs.map Qh),.list (P.enums.map Qq)]:=rfl;have e:args P=(P.enums.all Kz&&P.progs.all (Jb P)):=Bool.and_comm _ _;refine k48.fn (by simp) ?_;simp only[e0,eE,seval];refine QRs hM P hP _ (by rfl) _ true (by rfl) (by rfl) _ (by rfl) (fun f h1 h3=>?_);simp only[Qa,seval];refine QRt hM P hP _ (by rfl) _ _ (by exact h1) (by exact h3) _ hl (by rfl) (fun f h1 h3=>?_);simp only[h3,e,QY3,Qa,seval]

section
variable {M:Nat}(P:PL)(hP:P.ok M)(fr:Nat→Ob)(m1:fr 1=.cells (Pc P))(f:Fr)(b:Bool)(h1:f 1=.ptr 0 1 0)(h3:f 3=.bool b)(Q:Exit→St→Prop)
include hP m1 h1 h3

theorem QRu (j:Nat)(x:PG)(hj:P.progs[j]? = some x)(ha:f 4=.int .i64 (j:Nat))(hc:f 5=.int .i64 0)(hx:∀f,f 1=.ptr 0 1 0→f 3=.bool (b&&x.ops.all Zq)→f 4=.int .i64 (j:Nat)→Q (.exit 2) (⟨f,[fr],[]⟩:St)):QH Tryz.prog (.loop S7) ⟨f,[fr],[]⟩ Q:=by
 let I:Nat→St→Prop:=fun k st=>∃f i,st=⟨f,[fr],[]⟩∧k=x.ops.length-i∧i≤x.ops.length∧f 1=.ptr 0 1 0∧f 3=.bool (b&&(x.ops.take i).all Zq)∧f 4=.int .i64 (j:Nat)∧f 5=.int .i64 (i:Nat)
 have hjm:(P.progs.map Qh)[j]? = some (.agg x.cells):=by simp[hj,Qh]
 have hxo:=hP.progs x (QXF hj);refine Qd I _ ⟨f,0,rfl,rfl,QXA _,h1,by rw[h3];simp,ha,hc⟩ ?_;clear h1 h3 ha hc;simp only[Pc]at m1;simp only[PG.cells]at hjm;rintro _ st ⟨f,i,rfl,rfl,hi,h1,h3,ha,hc⟩;simp only[Qi,QYT,Qb,hjm,QYn,h1,m1,ha,hc,eE,seval];by_cases hlt:i<x.ops.length
 ·obtain⟨o,hg⟩:∃o,x.ops[i]? = some o:=⟨x.ops[i],QXt hlt⟩;have hgm:(x.ops.map fun o=>AV.agg o.cells)[i]? = some (.agg o.cells):=by simp[hg]
  have e1:=Ql i _ hlt hxo.len;have ht:=Q6 (q:=Zq) hg;have hq:Zq o=(decide (o.num≥1)&&decide (o.num≤65535)):=rfl;have fin:∀f':Fr,f' 1=.ptr 0 1 0→f' 3=.bool ((b&&(x.ops.take i).all Zq)&&Zq o)→f' 4=.int .i64 (j:Nat)→f' 5=.int .i64 ((i+1:Nat):Int)→∃k,k<x.ops.length-i∧I k ⟨f',[fr],[]⟩:=by
   intro f' a1 a3 a4 a5;exact⟨x.ops.length-(i+1),by omega,f',i+1,rfl,rfl,by omega,a1,by rw[a3,ht,QYc],a4,a5⟩
  simp only[PO.cells]at hgm;cases hb:(b&&(x.ops.take i).all Zq)
  ·rw[hb]at fin h3;simp only[Qm hlt,Qi,QYT,Qb,hjm,hgm,PO.cells,h1,m1,h3,ha,hc,e1,eE,seval];exact fin _ (by exact h1) (by rfl) (by exact ha) (by rfl)
  ·rw[hb,QY3,hq]at fin;rw[hb]at h3;cases a1:decide (o.num≥1)
   ·rw[a1]at fin;simp only[Qm hlt,Qi,QYT,Qb,hjm,hgm,PO.cells,a1,h1,m1,h3,ha,hc,e1,eE,seval];exact fin _ (by exact h1) (by rfl) (by exact ha) (by rfl)
   ·rw[a1,QY3]at fin;simp only[Qm hlt,Qi,QYT,Qb,hjm,hgm,PO.cells,a1,h1,m1,h3,ha,hc,e1,eE,seval];exact fin _ (by exact h1) (by rfl) (by exact ha) (by rfl)
 ·have hf:(x.ops.take i).all Zq=x.ops.all Zq:=by rw[QX0 (by omega)]
  rw[hf]at h3;simp only[Qw hlt,Qa,seval];exact hx _ (by exact h1) (by exact h3) (by exact ha)

theorem QRv (ha:f 4=.int .i64 0)(hx:∀f,f 1=.ptr 0 1 0→f 3=.bool (b&&P.progs.all fun g=>g.ops.all Zq)→Q (.exit 0) (⟨f,[fr],[]⟩:St)):QH Tryz.prog (.loop S8) ⟨f,[fr],[]⟩ Q:=by
 let I:Nat→St→Prop:=fun k st=>∃f i,st=⟨f,[fr],[]⟩∧k=P.progs.length-i∧i≤P.progs.length∧f 1=.ptr 0 1 0∧f 3=.bool (b&&(P.progs.take i).all fun g=>g.ops.all Zq)∧f 4=.int .i64 (i:Nat)
 have m1':=m1;refine Qd I _ ⟨f,0,rfl,rfl,QXA _,h1,by rw[h3];simp,ha⟩ ?_;clear h1 h3 ha;simp only[Pc]at m1;rintro _ st ⟨f,i,rfl,rfl,hi,h1,h3,ha⟩;simp only[QYn,h1,m1,ha,eE,seval];by_cases hlt:i<P.progs.length
 ·obtain⟨x,hg⟩:∃x,P.progs[i]? = some x:=⟨P.progs[i],QXt hlt⟩;have e1:=Ql i _ hlt hP.len1;have ht:=Q6 (q:=fun g:PG=>g.ops.all Zq) hg;simp only[Qm hlt,Qa,seval];refine QRu P hP fr m1' _ (b&&(P.progs.take i).all fun g=>g.ops.all Zq) (by exact h1) (by exact h3) _ i x hg (by exact ha) (by rfl) (fun f h1 h3 ha=>?_);simp only[ha,e1,Qa,seval];exact⟨P.progs.length-(i+1),by omega,_,i+1,rfl,rfl,by omega,(by exact h1),by rw[ht,←QYc]<;>first|exact h3|simp only[h3,eE,seval],(by rfl)⟩
 ·have hf:(P.progs.take i).all (fun g=>g.ops.all Zq)=P.progs.all fun g=>g.ops.all Zq:=by rw[QX0 (by omega)]
  rw[hf]at h3;simp only[Qw hlt,Qa,seval];exact hx _ (by exact h1) (by exact h3)

end

def Hr (x:PE)(i:Nat):Bool:=match x.items[i]? with
 |some o=>(i != 0||o.num==0)&&Ya x o
 |none=>true

theorem QaB (x:PE):QB (Hr x) x.items.length=(Us x&&x.items.all (Ya x)):=by
 rw[QYm,QXQ,QL,QXE]
 constructor
 ·intro h;refine⟨?_,fun o ho=>?_⟩
  ·unfold Us;cases hi:x.items with
   |nil=>rfl
   |cons a l=>
    have:=h 0 (by rw[hi];simp);unfold Hr at this;rw[hi]at this;simp only[QYu,QXQ]at this
    simpa using this.1
  ·obtain⟨i,hi⟩:=QXD.1 ho;have:=h i (QXs.1 hi).1;unfold Hr at this;rw[hi]at this;simp only[QXQ]at this;exact this.2
 ·rintro⟨h1,h2⟩ i _;unfold Hr;cases hg:x.items[i]? with
  |none=>rfl
  |some o=>
   simp only[QXQ];refine⟨?_,h2 o (QXF hg)⟩;cases i with
   |zero=>
    unfold Us at h1;cases hx:x.items with
    |nil=>rw[hx]at hg;cases hg
    |cons a l=>
     rw[hx]at h1 hg;cases hg
     simpa using h1
   |succ k=>rfl

section
variable (x:PE)(hl1:x.items.length≤maxLen)(hl:x.free.length≤maxLen)(P:PL)(f:Fr)(b:Bool)(j:Nat)(fr:Nat→Ob)(h1:f 1=.ptr 0 1 0)(h3:f 3=.bool b)(h7:f 7=.int .i64 (j:Nat))(h8:f 8=.ptr 0 8 0)(m1:fr 1=.cells (Pc P))(m8:fr 8=.cells x.cells)(Q:Exit→St→Prop)
include hl1 hl h1 h3 h7 h8 m8

theorem Pv (hc:f 9=.int .i64 0)(hx:∀f,f 1=.ptr 0 1 0→f 3=.bool (b&&(Us x&&x.items.all (Ya x)))→f 7=.int .i64 (j:Nat)→f 8=.ptr 0 8 0→Q (.exit 6) (⟨f,[fr],[]⟩:St)):QH Tryz.prog (.loop S9) ⟨f,[fr],[]⟩ Q:=by
 let I:Nat→St→Prop:=fun k st=>∃f i,st=⟨f,[fr],[]⟩∧k=x.items.length-i∧i≤x.items.length∧f 1=.ptr 0 1 0∧f 3=.bool (b&&QB (Hr x) i)∧f 7=.int .i64 (j:Nat)∧f 8=.ptr 0 8 0∧f 9=.int .i64 (i:Nat)
 refine Qd I _ ⟨f,0,rfl,rfl,QXA _,h1,by rw[h3];simp[QB],h7,h8,hc⟩ ?_;clear h1 h3 h7 h8 hc;simp only[PE.cells]at m8;rintro _ st ⟨f,i,rfl,rfl,hi,h1,h3,h7,h8,hc⟩;simp only[QYn,m8,h8,hc,eE,seval];by_cases hlt:i<x.items.length
 ·obtain⟨o,hg⟩:∃o,x.items[i]? = some o:=⟨x.items[i],QXt hlt⟩;have hgm:(x.items.map fun o=>AV.agg o.cells)[i]? = some (.agg o.cells):=by simp[hg]
  have e1:=Ql i _ hlt hl1;have ht:=Jr b (Hr x) i;have hr:Qk Tryz.prog 78 [.list (x.free.map fun n=>AV.agg n.cells),.int .i64 o.num] (.bool (kept x.free o.num)):=z78 x.free hl o.num;have hq:Hr x i=((i != 0||o.num==0)&&(decide (o.num≤2147483647) && !kept x.free o.num)):=by unfold Hr;rw[hg];rfl
  rw[hq]at ht;have fin:∀(f':Fr) (v:Bool),((b&&QB (Hr x) i)&&((i != 0||o.num==0)&&(decide (o.num≤2147483647) && !kept x.free o.num)))=v→f' 1=.ptr 0 1 0→f' 3=.bool v→f' 7=.int .i64 (j:Nat)→f' 8=.ptr 0 8 0→f' 9=.int .i64 ((i+1:Nat):Int)→∃k,k<x.items.length-i∧I k ⟨f',[fr],[]⟩:=by
   intro f' v hv a1 a3 a4 a5 a6;exact⟨x.items.length-(i+1),by omega,f',i+1,rfl,rfl,by omega,a1,by rw[a3,ht,hv],a4,a5,a6⟩
  simp only[PI.cells]at hgm;cases hb:(b&&QB (Hr x) i)
  ·rw[hb]at fin h3;simp only[QYW]at fin;simp only[Qm hlt,Qi,QYT,Qb,hgm,PI.cells,m8,h3,h8,hc,e1,eE,seval];exact fin _ _ rfl (by exact h1) (by rfl) (by exact h7) (by exact h8) (by rfl)
  ·rw[hb]at fin h3;simp only[QY3]at fin;cases a1:decide (o.num≤2147483647)
   ·simp only[a1,QYW,QZk]at fin;simp only[Qm hlt,Qi,QYT,Qb,hgm,PI.cells,a1,m8,h3,h8,hc,e1,eE,seval];exact fin _ _ rfl (by exact h1) (by rfl) (by exact h7) (by exact h8) (by rfl)
   simp only[a1,QY3]at fin;have gt:∀(q:Bool),(i != 0||o.num==0)=q→(decide ((i:Int) > 0)=true∧q=true)∨(decide ((i:Int) > 0)=false∧(o.num==0)=q):=by
    intro q hq;cases i with
    |zero=>exact .inr ⟨rfl,hq⟩
    |succ k=>exact .inl ⟨QZi (by omega),hq.symm⟩
   cases a2:(i != 0||o.num==0)
   ·rw[a2]at fin;simp only[QYW]at fin;rcases gt _ a2 with⟨g1,g2⟩|⟨g1,g2⟩
    ·cases g2
    ·simp only[Qm hlt,Qi,QYT,Qb,hgm,PI.cells,a1,g1,g2,m8,h3,h8,hc,e1,eE,seval];exact fin _ _ rfl (by exact h1) (by rfl) (by exact h7) (by exact h8) (by rfl)
   ·rw[a2]at fin;simp only[QY3]at fin;rcases gt _ a2 with⟨g1,g2⟩|⟨g1,g2⟩
    all_goals
     simp only[Qm hlt,Qi,QYT,Qb,hgm,PI.cells,a1,g1,g2,m8,h3,h8,hc,eE,seval];refine aC hr ?_;simp only[hc,e1,Qa,seval];exact fin _ _ rfl (by exact h1) (by rfl) (by exact h7) (by exact h8) (by rfl)
 ·rw[show i=x.items.length by omega,QaB]at h3;simp only[Qw hlt,Qa,seval];exact hx _ (by exact h1) (by exact h3) (by exact h7) (by exact h8)

omit hl1 in
include m1 in
theorem Pw (hc:f 11=.int .i64 0)(hrow:∀s∈[12],(fr s).isRow=false)(hx:∀f fr,f 1=.ptr 0 1 0→f 3=.bool (b&&(x.free.all GD&&XW x.free Uc))→f 7=.int .i64 (j:Nat)→fr 1=.cells (Pc P)→(∀s∈[12,8],(fr s).isRow=false)→Q (.exit 8) (⟨f,[fr],[]⟩:St)):QH Tryz.prog (.loop Ta) ⟨f,[fr],[]⟩ Q:=by
 let I:Nat→St→Prop:=fun k st=>∃f fr i,st=⟨f,[fr],[]⟩∧k=x.free.length-i∧i≤x.free.length∧f 1=.ptr 0 1 0∧f 3=.bool (b&&QB (K2 x.free) i)∧f 7=.int .i64 (j:Nat)∧f 8=.ptr 0 8 0∧f 11=.int .i64 (i:Nat)∧fr 1=.cells (Pc P)∧fr 8=.cells x.cells∧∀s∈[12],(fr s).isRow=false
 refine Qd I _ ⟨f,fr,0,rfl,rfl,QXA _,h1,by rw[h3];simp[QB],h7,h8,hc,m1,m8,hrow⟩ ?_;clear h1 h3 h7 h8 hc m1 m8 hrow;rintro _ st ⟨f0,fr0,i,rfl,rfl,hi,h10,h30,h70,h80,hc0,m10,m80,JX⟩;refine QJ (a:=_) [12] JX ?_;intro f fr hf hm hn;have h1:f 1=.ptr 0 1 0:=by rw[hf,h10]<;>rfl
 have h3:f 3=.bool (b&&QB (K2 x.free) i):=by rw[hf,h30]<;>rfl
 have h7:f 7=.int .i64 (j:Nat):=by rw[hf,h70]<;>rfl
 have h8:f 8=.ptr 0 8 0:=by rw[hf,h80]<;>rfl
 have hc:f 11=.int .i64 (i:Nat):=by rw[hf,hc0]<;>rfl
 have m1:fr 1=.cells (Pc P):=by rw[hm 1 (by decide),m10]<;>rfl
 have m8:fr 8=.cells x.cells:=by rw[hm 8 (by decide),m80]<;>rfl
 have n12:=hn 12 (by decide);clear hf hm hn h10 h30 h70 h80 hc0 m10 m80 JX;have m8':=m8;simp only[PE.cells]at m8;simp only[QYn,m8,h8,hc,eE,seval];by_cases hlt:i<x.free.length
 ·obtain⟨y,hg⟩:∃y,x.free[i]? = some y:=⟨x.free[i],QXt hlt⟩;have hgm:(x.free.map fun o=>AV.agg o.cells)[i]? = some (.agg y.cells):=by simp[hg]
  have e1:=Ql i _ hlt hl;have ht:=Jr b (K2 x.free) i;have hq:K2 x.free i=((decide (y.lo≥0)&&decide (y.hi≤2147483647)&&decide (y.lo≤y.hi))&&Xg x.free Uc i):=by unfold K2;rw[Yk hg];rfl
  rw[hq]at ht;have fin:∀(f':Fr) (fr':Nat→Ob) (v:Bool),((b&&QB (K2 x.free) i)&&((decide (y.lo≥0)&&decide (y.hi≤2147483647)&&decide (y.lo≤y.hi))&&Xg x.free Uc i))=v→f' 1=.ptr 0 1 0→f' 3=.bool v→f' 7=.int .i64 (j:Nat)→f' 8=.ptr 0 8 0→f' 11=.int .i64 ((i+1:Nat):Int)→fr' 1=.cells (Pc P)→fr' 8=.cells x.cells→(∀s∈[12],(fr' s).isRow=false)→∃k,k<x.free.length-i∧I k ⟨f',[fr'],[]⟩:=by
   intro f' fr' v hv a1 a3 a4 a5 a6 a7 a8 a9;exact⟨x.free.length-(i+1),by omega,f',fr',i+1,rfl,rfl,by omega,a1,by rw[a3,ht,hv],a4,a5,a6,a7,a8,a9⟩
  simp only[PS.cells]at hgm;cases hb:(b&&QB (K2 x.free) i)
  ·rw[hb]at fin h3;simp only[QYW]at fin;simp only[Qm hlt,Qi,QYT,Qb,hgm,PS.cells,n12,m8,h3,h8,hc,e1,eE,seval];exact fin _ _ _ rfl (by exact h1) (by rfl) (by exact h7) (by exact h8) (by rfl) (by exact m1) (by exact m8') (by simp<;>rfl)
  rw[hb]at fin h3;simp only[QY3]at fin;cases a1:decide (y.lo≥0)
  ·simp only[a1,QYW]at fin;simp only[Qm hlt,Qi,QYT,Qb,hgm,PS.cells,n12,a1,m8,h3,h8,hc,e1,eE,seval];exact fin _ _ _ rfl (by exact h1) (by rfl) (by exact h7) (by exact h8) (by rfl) (by exact m1) (by exact m8') (by simp<;>rfl)
  cases a2:decide (y.hi≤2147483647)
  ·simp only[a1,a2,QYW,QZk]at fin;simp only[Qm hlt,Qi,QYT,Qb,hgm,PS.cells,n12,a1,a2,m8,h3,h8,hc,e1,eE,seval];exact fin _ _ _ rfl (by exact h1) (by rfl) (by exact h7) (by exact h8) (by rfl) (by exact m1) (by exact m8') (by simp<;>rfl)
  cases a3:decide (y.lo≤y.hi)
  ·simp only[a1,a2,a3,QYW,QZk]at fin;simp only[Qm hlt,Qi,QYT,Qb,hgm,PS.cells,n12,a1,a2,a3,m8,h3,h8,hc,e1,eE,seval];exact fin _ _ _ rfl (by exact h1) (by rfl) (by exact h7) (by exact h8) (by rfl) (by exact m1) (by exact m8') (by simp<;>rfl)
  simp only[a1,a2,a3,QY3,QYF]at fin;cases i with
  |zero=>
   have d0:(((0:Nat):Int)==0)=true:=rfl;rw[YF]at fin;simp only[Qm hlt,Qi,QYT,Qb,hgm,PS.cells,n12,a1,a2,a3,d0,m8,h3,h8,hc,e1,eE,Nat.reduceBEq,↓reduceIte,Nat.reduceAdd,Nat.reduceLeDiff];exact fin _ _ _ rfl (by exact h1) (by rfl) (by exact h7) (by exact h8) (by rfl) (by exact m1) (by exact m8') (by simp<;>rfl)
  |succ k=>
   have d0:(((k+1:Nat):Int)==0)=false:=by rw[QY8];omega
   obtain⟨z,hgz⟩:∃z,x.free[k]? = some z:=⟨x.free[k]'(by omega),QXt (by omega)⟩;have hgzm:(x.free.map fun o=>AV.agg o.cells)[k]? = some (.agg z.cells):=by simp[hgz]
   have w:=Wz k _ hlt hl;have hs:Uc z y=decide (y.lo > z.hi):=rfl;rw[Jo hgz hg,hs]at fin;simp only[PS.cells]at hgzm;simp only[Qm hlt,Qi,QYT,Qb,hgm,hgzm,w,PS.cells,n12,a1,a2,a3,d0,m8,h3,h8,hc,e1,eE,seval];exact fin _ _ _ rfl (by exact h1) (by rfl) (by exact h7) (by exact h8) (by rfl) (by exact m1) (by exact m8') (by simp<;>rfl)
 ·rw[show i=x.free.length by omega,N8]at h3;simp only[Qw hlt,Qa,seval];refine hx _ _ (by exact h1) (by exact h3) (by exact h7) (by exact m1) (fun s hs=>?_);simp at hs;rcases hs with rfl|rfl
  ·rw[n12];rfl
  ·rw[m8];rfl

end

section
variable {M:Nat}(P:PL)(hP:P.ok M)(fr:Nat→Ob)(m1:fr 1=.cells (Pc P))(f:Fr)(b:Bool)(h1:f 1=.ptr 0 1 0)(h3:f 3=.bool b)(Q:Exit→St→Prop)
include hP m1 h1 h3

theorem QRw (ha:f 7=.int .i64 0)(hrow:∀s∈[12,8],(fr s).isRow=false)(hx:∀f fr,f 1=.ptr 0 1 0→f 3=.bool (b&&P.enums.all Jq)→Q (.exit 4) (⟨f,[fr],[]⟩:St)):QH Tryz.prog (.loop Tb) ⟨f,[fr],[]⟩ Q:=by
 let I:Nat→St→Prop:=fun k st=>∃f fr i,st=⟨f,[fr],[]⟩∧k=P.enums.length-i∧i≤P.enums.length∧f 1=.ptr 0 1 0∧f 3=.bool (b&&(P.enums.take i).all Jq)∧f 7=.int .i64 (i:Nat)∧fr 1=.cells (Pc P)∧∀s∈[12,8],(fr s).isRow=false
 refine Qd I _ ⟨f,fr,0,rfl,rfl,QXA _,h1,by rw[h3];simp,ha,m1,hrow⟩ ?_;clear h1 h3 ha m1 hrow;rintro _ st ⟨f0,fr0,i,rfl,rfl,hi,h10,h30,ha0,m10,hr⟩;refine QJ (a:=_) [12,8] hr ?_;intro f fr hf hm hn;have h1:f 1=.ptr 0 1 0:=by rw[hf,h10]<;>rfl
 have h3:f 3=.bool (b&&(P.enums.take i).all Jq):=by rw[hf,h30]<;>rfl
 have ha:f 7=.int .i64 (i:Nat):=by rw[hf,ha0]<;>rfl
 have m1:fr 1=.cells (Pc P):=by rw[hm 1 (by decide),m10]<;>rfl
 have n12:=hn 12 (by decide);have n8:=hn 8 (by decide);clear hf hm hn h10 h30 ha0 m10 hr;have m1':=m1;simp only[Pc]at m1;simp only[QYn,h1,m1,ha,eE,seval];by_cases hlt:i<P.enums.length
 ·obtain⟨x,hg⟩:∃x,P.enums[i]? = some x:=⟨P.enums[i],QXt hlt⟩;have hgm:(P.enums.map Qq)[i]? = some (.agg x.cells):=by simp[hg,Qq]
  have e1:=Ql i _ hlt hP.len2;have ht:=Q6 (q:=Jq) hg;have hq:(b&&(P.enums.take (i+1)).all Jq)=((b&&(P.enums.take i).all Jq&&(Us x&&x.items.all (Ya x)))&&(x.free.all GD&&XW x.free Uc)):=by
   rw[ht];unfold Jq;cases b<;>cases(P.enums.take i).all _<;>cases x.free.all GD<;>cases XW x.free Uc<;>cases Us x<;>cases x.items.all (Ya x)<;>rfl
  have hxo:=hP.enums x (QXF hg);simp only[PE.cells]at hgm;simp only[Qm hlt,Qi,QYT,Qb,hgm,n8,h1,m1,ha,eE,seval];refine Pv x hxo.len1 hxo.len2 _ (b&&(P.enums.take i).all Jq) i _ (by exact h1) (by exact h3) (by exact ha) (by rfl) (by rfl) _ (by rfl) (fun f h1 h3 ha h8=>?_);simp only[Qa,seval];refine Pw x hxo.len2 P _ _ i _ (by exact h1) (by exact h3) (by exact ha) (by exact h8) (by exact m1') (by rfl) _ (by rfl) (fun s hs=>by simp at hs;subst hs;rw[QS _ _ (by decide)];first|rw[n12];rfl|(rw[QS _ _ (by decide),n12];rfl)) (fun f fr h1 h3 ha m1 hr=>?_);simp only[ha,e1,Qa,seval];exact⟨P.enums.length-(i+1),by omega,_,fr,i+1,rfl,rfl,by omega,(by exact h1),by rw[hq]<;>first|exact h3|simp only[h3,eE,seval],(by rfl),m1,hr⟩
 ·have hf:(P.enums.take i).all Jq=P.enums.all Jq:=by rw[QX0 (by omega)]
  rw[hf]at h3;simp only[Qw hlt,Qa,seval];exact hx _ _ (by exact h1) (by exact h3)

end

theorem z47 {M:Nat}(P:PL)(hP:P.ok M):Qk Tryz.prog 47 [P.av] (.bool (Bx P)):=by
 have e0:P.av=.agg [.list (P.progs.map Qh),.list (P.enums.map Qq)]:=rfl;refine k47.fn (by simp) ?_;simp only[e0,eE,seval];refine QRv P hP _ (by rfl) _ true (by rfl) (by rfl) _ (by rfl) (fun f h1 h3=>?_);simp only[Qa,seval];refine QRw P hP _ (by rfl) _ _ (by exact h1) (by exact h3) _ (by rfl) (fun s hs=>by simp at hs;rcases hs with rfl|rfl<;>rfl) (fun f fr h1 h3=>?_);simp only[h3,Bx,QY3,Qa,seval]

section
variable (k kd:Int)(b:Nat)(t:List UInt8)(l p s r:List AV)(ht:t.length+8≤maxLen)

include ht in
theorem QRx:Qk Tryz.prog 201 [.int .i64 k,vo kd b t l p s r] (.bool (Xo k kd b t l p s r)):=by
 have hl:=RX kd b t l p s r;simp only[vo]at hl;have n1:(kd != k)=!(kd==k):=rfl;have n2:(t != [])=!(t==[]):=rfl;refine Qtu.fn (by simp) ?_;simp only[vo,Xo,eE,seval];refine aC (Ca k) ?_;cases hk:isk k
 ·simp only[QYz,QYW,Qa,seval]
 simp only[n1,QY4,QY3,eE,seval];cases a1:(kd==k)
 ·simp only[QYz,QYW,Qa,seval]
 have e:kd=k:=by simpa using a1
 subst e;simp only[QY4,QY3,eE,seval];refine aC hl ?_;cases W0 l p s r
 ·simp only[QYz,QYW,Qa,seval]
 simp only[QY4,QY3,Qa,seval];refine aC (HB kd) ?_;cases tx:Za kd
 ·simp only[QXL,QI,eE,seval];cases a2:(t==[])
  ·simp only[QYz,QYW,Qa,seval]
  have e:t=[]:=by simpa using a2
  subst e;have k7:(kd != 7)=true:=by
   simp only[Za,QYl,QY8]at tx;simp[tx.1]
  have d0:decide (((0:Nat):Int)≤4096)=true:=rfl;simp only[k7,QYo,QY4,QY3,QYF,QY6,Qa,seval];unfold YH;by_cases h1:kd=1
  ·subst h1;have b1:((1:Int)==1)=true:=rfl;simp only[b1,eE,seval]
  ·have b1:(kd==1)=false:=by simp[h1]
   by_cases h2:kd=2
   ·subst h2;have b2:((2:Int)==2)=true:=rfl;simp only[b1,b2,h1,eE,seval];cases hd:decide (IntKind.i64.wrap (b:Int)≥-2147483648)<;>simp only[QY3,QYW,Qa,seval]
   ·have b2:(kd==2)=false:=by simp[h2]
    by_cases h4:kd=4
    ·subst h4;have b4:((4:Int)==4)=true:=rfl;simp only[b1,b2,b4,h1,h2,eE,seval]
    ·have b4:(kd==4)=false:=by simp[h4]
     by_cases h9:kd=9
     ·subst h9;have b9:((9:Int)==9)=true:=rfl;simp only[b1,b2,b9,b4,h1,h2,h4,eE,seval]
     ·have b9:(kd==9)=false:=by simp[h9]
      simp only[b1,b2,b9,b4,h1,h2,h4,h9,Qa,seval]
 ·simp only[eE,seval];cases a2:((b:Int)==0)
  ·simp only[QYW,Qa,seval]
  have hfn:YH kd b=true:=by
   simp only[Za,QXw,QXy]at tx;rcases tx with rfl|rfl<;>rfl
  cases a3:decide ((t.length:Int)≤4096)
  ·simp only[a3,hfn,QYW,QZk,eE,seval]
  simp only[Za,QXw,QXy]at tx;rcases tx with rfl|rfl
  ·have c8:((7:Int)==8)=false:=rfl;have c7:((7:Int) != 7)=false:=rfl;simp only[a3,c8,c7,hfn,QY3,QY7,eE,seval];refine aC (Ce t ht) ?_;simp only[Qa,seval]
  ·have c8:((8:Int)==8)=true:=rfl;have c7:((8:Int) != 7)=true:=rfl;simp only[a3,c8,c7,hfn,QY6,eE,seval]

end

section
variable {M:Nat}(P:PL)(hP:P.ok M)(k tg kd:Int)(b:Nat)(t:List UInt8)(l p s r:List AV)(ht:t.length+8≤maxLen)(hs:s.length≤140737488351232)(hr:r.length≤140737488351232)

include hP ht hs hr in
theorem QRy:Qk Tryz.prog 190 [P.av,.int .i64 k,.int .i64 tg,vo kd b t l p s r] (.int .i64 (Yd P k tg kd b t l p s r)):=by
 have e0:P.av=.agg [.list (P.progs.map Qh),.list (P.enums.map Qq)]:=rfl;have ho:=z59 kd b t l p s r hs hr;have hf:=QRx k kd b t l p s r ht;have ha:=QwT P hP tg b;simp only[vo]at ho hf;simp only[e0]at ha;refine QNO.fn (by simp) ?_;simp only[e0,vo,Yd,eE,seval];cases a1:(kd != k)
 ·simp only[QY7,eE,seval];refine aC ho ?_;cases oth kd b t l p s r
  ·simp only[QXL,eE,seval];cases a2:decide ((t.length:Int) > 4096)
   ·simp only[QXL,Qa,seval];cases a3:(k==7)
    ·simp only[QYW,QXL,eE,seval];refine aC hf ?_;cases Xo k kd b t l p s r
     ·simp only[QYz,Qa,seval]
     ·simp only[QY4,QXL,Qa,seval];cases a4:(k==9)
      ·simp only[QYW,QXL,Qa,seval]
      ·simp only[QY3,eE,seval];refine aC ha ?_;cases Z3 P.enums tg b<;>simp only[QYz,QY4,QXL,Qa,seval]
    ·simp only[QY3,eE,seval];refine aC (Ce t ht) ?_;cases Uu t
     ·simp only[QYz,Qa,seval]
     ·have a4:(k==9)=false:=by
       rw[QXy]at a3;subst a3;rfl
      simp only[QY4,QXL,eE,seval];refine aC hf ?_;cases Xo k kd b t l p s r
      ·simp only[QYz,Qa,seval]
      ·simp only[QY4,a4,QYW,QXL,Qa,seval]
   ·simp only[Qa,seval]
  ·simp only[Qa,seval]
 ·simp only[QY6,Qa,seval]

end

def kv (k:Int)(b:Nat)(t:List UInt8):AV:=.agg [.int .i64 k,.int .u64 (b:Nat),.str t,.list [],.list [],.list [],.list []]
def X3 (k:Int):Prop:=(1≤k∧k≤5)∨k=7

theorem X3.isk {k:Int}(h:X3 k):isk k=true:=by
 rcases h with h|rfl
 ·simp[Va.isk];omega
 ·rfl

theorem GK:∀s:List UInt8,Op.bytesLess s s=false
 | []=>rfl
 |a :: l=>by simp[Op.bytesLess,GK l]

theorem Qw2 (a:Int):Qk Tryz.prog 188 [.int .i64 a] (.bool false):=by
 refine QhM.fn (by simp) ?_;simp only[bne_self_eq_false,Qa,seval]

theorem Qw3 (a:Int):Qk Tryz.prog 298 [.int .u64 a] (.bool false):=by
 refine QPQ.fn (by simp) ?_;simp only[bne_self_eq_false,Qa,seval]

theorem Qw4 (a:List UInt8):Qk Tryz.prog 297 [.str a] (.bool false):=by
 have e:QI .neq a a=some (.bool false):=by simp[QI]
 refine QPN.fn (by simp) ?_;simp only[e,Qa,seval]

def cN (a b:Int):Int:=if a<b then -1 else if b<a then 1 else 0
theorem U0 {a b:Int}:cN a b=0↔a=b:=by
 unfold cN;split
 ·omega
 ·split<;>omega

theorem Cx (a b:Int):Qk Tryz.prog 102 [.int .i64 a,.int .i64 b] (.int .i64 (cN a b)):=by
 refine QcA.fn (by simp) ?_;simp only[Qa,seval];refine aC (Qw2 a) ?_;simp only[Qa,seval];refine aC (Qw2 b) ?_;simp only[Qa,seval];by_cases h1:a<b
 ·have d1:decide (a<b)=true:=by simpa using h1
  simp only[d1,cN,QXV h1,Qa,seval]
 ·have d1:decide (a<b)=false:=by simpa using h1
  by_cases h2:b<a
  ·have d2:decide (a > b)=true:=by simpa using h2
   simp only[d1,d2,cN,QXG h1,QXV h2,Qa,seval]
  ·have d2:decide (a > b)=false:=by simpa using h2
   simp only[d1,d2,cN,QXG h1,QXG h2,Qa,seval]

theorem QRz (a b:Int):Qk Tryz.prog 285 [.int .u64 a,.int .u64 b] (.int .i64 (cN a b)):=by
 refine QPE.fn (by simp) ?_;simp only[Qa,seval];refine aC (Qw3 a) ?_;simp only[Qa,seval];refine aC (Qw3 b) ?_;simp only[Qa,seval];by_cases h1:a<b
 ·have d1:decide (a<b)=true:=by simpa using h1
  simp only[d1,cN,QXV h1,Qa,seval]
 ·have d1:decide (a<b)=false:=by simpa using h1
  by_cases h2:b<a
  ·have d2:decide (a > b)=true:=by simpa using h2
   simp only[d1,d2,cN,QXG h1,QXV h2,Qa,seval]
  ·have d2:decide (a > b)=false:=by simpa using h2
   simp only[d1,d2,cN,QXG h1,QXG h2,Qa,seval]

def cS (a b:List UInt8):Int:=if Op.bytesLess a b=true then -1 else if a==b then 0 else 1
theorem Vk {a b:List UInt8}:cS a b=0↔a=b:=by
 unfold cS
 constructor
 ·intro h;split at h
  ·omega
  ·split at h
   ·rename_i h2;simpa using h2
   ·omega
 ·rintro rfl;simp[GK]

theorem QRA (a b:List UInt8):Qk Tryz.prog 284 [.str a,.str b] (.int .i64 (cS a b)):=by
 refine QPB.fn (by simp) ?_;simp only[Qa,seval];refine aC (Qw4 a) ?_;simp only[Qa,seval];refine aC (Qw4 b) ?_;simp only[QI,cS,Qa,seval];cases h1:Op.bytesLess a b
 ·cases h2:(a==b)<;>simp only[QI,h1,h2,QY7,QY4,QYz,QXL,Qa,seval]
 ·simp only[Qa,seval]

def Hs (k:Int)(a:Nat)(s:List UInt8)(b:Nat)(t:List UInt8):Int :=
 if Za k=true then cS s t else if (k==2||k==3)=true then cN (IntKind.i64.wrap (a:Int)) (IntKind.i64.wrap (b:Int))else cN (a:Int) (b:Int)

theorem QRB (k:Int)(hk:X3 k)(a b:Nat)(s t:List UInt8):Qk Tryz.prog 258 [kv k a s,kv k b t] (.int .i64 (Hs k a s b t)):=by
 have hi:=hk.isk;have k6:(k==6)=false:=by
  rcases hk with h|rfl
  ·simp;omega
  ·rfl
 refine QPd.fn (by simp) ?_;simp only[kv,Hs,bne_self_eq_false,eE,seval];refine aC (Bq k) ?_;simp only[hi,eE,seval];refine aC (Qww k) ?_;cases h1:Za k
 ·simp only[QXL,eE,seval];cases h2:(k==2)
  ·cases h3:(k==3)
   ·simp only[h3,k6,QZl,QXL,eE,seval];refine aC (QRz _ _) ?_;simp only[Qa,seval]
   ·simp only[h3,QY7,eE,seval];refine aC (Cx _ _) ?_;simp only[Qa,seval]
  ·simp only[QY6,eE,seval];refine aC (Cx _ _) ?_;simp only[Qa,seval]
 ·simp only[eE,seval];refine aC (QRA s t) ?_;simp only[Qa,seval]

theorem Qw5 (k:Int)(hk:X3 k)(b:Nat)(t:List UInt8):Qk Tryz.prog 257 [kv k b t] (.iface 218 (kv k b t)):=by
 have hi:=hk.isk;refine QPa.fn (by simp) ?_;simp only[kv,eE,seval];refine aC (Bq k) ?_;simp only[hi,eE,seval]

theorem Qw6 (k:Int)(hk:X3 k)(a b:Nat)(s t:List UInt8):Qk Tryz.prog 227 [kv k a s,kv k b t] (.int .i64 (Hs k a s b t)):=by
 have h1:=Qw5 k hk a s;have h2:=Qw5 k hk b t;have h3:=QRB k hk a b s t;simp only[kv]at h1 h2 h3;refine QOC.fn (by simp) ?_;simp only[kv,bne_self_eq_false,eE,seval];refine aC h2 ?_;simp only[eE,seval];refine aC h1 ?_;simp only[eE,seval];refine aC h3 ?_;simp only[Qa,seval]

theorem Qw7 (k:Int)(hk:X3 k)(a b:Nat)(s t:List UInt8):Qk Tryz.prog 228 [kv k a s,kv k b t] (.bool (Hs k a s b t==0)):=by
 have h1:=Qw6 k hk a b s t;simp only[kv]at h1;refine QOF.fn (by simp) ?_;simp only[kv,eE,seval];refine aC h1 ?_;simp only[Qa,seval]

def Km (k:Int)(b:Nat):Int:=if (k==2||k==3)=true then IntKind.u64.wrap ((b:Int)+9223372036854775808)else(b:Int)

theorem QRC (k:Int):Qk Tryz.prog 288 [.int .i64 k] (.bool (k==2||k==3)):=by
 refine QPH.fn (by simp) ?_;simp only[Qa,seval];cases h:(k==2)<;>simp only[QY6,QY7,Qa,seval]

theorem Qw8 (k:Int)(k6:(k != 6)=true)(b:Nat)(t:List UInt8):Qk Tryz.prog 270 [kv k b t] (.int .u64 (Km k b)):=by
 refine QPg.fn (by simp) ?_;simp only[kv,eE,seval];refine aC (QRC k) ?_;unfold Km;cases h1:(k==2||k==3)
 ·simp only[k6,QXL,eE,seval]
 ·simp only[eE,seval]

def UD (k:Int)(a:Nat)(s:List UInt8)(b:Nat)(t:List UInt8):Int:=if Za k=true then cS s t else cN (Km k a) (Km k b)

theorem QRD (k:Int)(hk:X3 k)(a b:Nat)(s t:List UInt8):Qk Tryz.prog 238 [kv k a s,kv k b t] (.int .i64 (UD k a s b t)):=by
 have hi:=hk.isk;have k6:(k != 6)=true:=by
  rcases hk with h|rfl
  ·simp;omega
  ·rfl
 have d1:decide (k<k)=false:=by simp
 have d2:decide (k > k)=false:=by simp
 have hr:=Qw8 k k6 a s;have hq:=Qw8 k k6 b t;simp only[kv]at hr hq;refine QOI.fn (by simp) ?_;simp only[kv,UD,d1,eE,seval];refine aC (Ca k) ?_;simp only[hi,eE,seval];refine aC (HB k) ?_;cases h2:Za k
 ·simp only[QXL,eE,seval];refine aC (HB k) ?_;simp only[h2,eE,seval];refine aC (HB k) ?_;simp only[h2,eE,seval];refine aC hr ?_;simp only[eE,seval];refine aC hq ?_;simp only[Qa,seval];by_cases c1:Km k a<Km k b
  ·have e1:decide (Km k a<Km k b)=true:=QZi c1;simp only[e1,cN,QXV c1,Qa,seval]
  ·have e1:decide (Km k a<Km k b)=false:=QZd c1;simp only[e1,cN,QXG c1,eE,seval];refine aC hr ?_;simp only[eE,seval];refine aC hq ?_;by_cases c2:Km k b<Km k a
   ·have e2:decide (Km k a > Km k b)=true:=QZi c2;simp only[e2,QXV c2,Qa,seval]
   ·have e2:decide (Km k a > Km k b)=false:=QZd c2;simp only[e2,QXG c2,Qa,seval]
 ·simp only[QI,cS,eE,seval];cases h1:Op.bytesLess s t
  ·simp only[QXL,eE,seval];refine aC (HB k) ?_;cases h3:(s==t)
   ·simp only[h1,h2,h3,QI,QY7,QYz,QXL,eE,seval]
   ·simp only[h1,h2,h3,QI,QY7,QY4,eE,seval];refine aC (HB k) ?_;simp only[h2,Qa,seval]
  ·simp only[Qa,seval]

theorem Qw9 (k:Int)(hk:X3 k)(a b:Nat)(s t:List UInt8):Qk Tryz.prog 192 [kv k a s,kv k b t] (.int .i64 (UD k a s b t)):=by
 have b1:(k==11)=false:=by rcases hk with h|rfl<;>simp<;>omega
 have b2:(k==12)=false:=by rcases hk with h|rfl<;>simp<;>omega
 have b3:(k==10)=false:=by rcases hk with h|rfl<;>simp<;>omega
 have hr:=QRD k hk a b s t;simp only[kv]at hr;refine QNU.fn (by simp) ?_;simp only[kv,bne_self_eq_false,b1,b2,b3,eE,seval];refine aC hr ?_;simp only[Qa,seval]

theorem QRE (k:Int)(hk:X3 k)(a b:Nat)(s t:List UInt8):Qk Tryz.prog 191 [kv k a s,kv k b t] (.bool (UD k a s b t==0)):=by
 have hr:=Qw9 k hk a b s t;simp only[kv]at hr;refine QNR.fn (by simp) ?_;simp only[kv,eE,seval];refine aC hr ?_;simp only[Qa,seval]

theorem ZI {v:V}{P:PL}{k tg:Int}(h:v.one P k tg=0):v.av=kv k v.bits v.text∧(Za k=true→(v.bits:Int)=0)∧(Za k=false→v.text=[]):=by
 obtain⟨h1,_,h3⟩:=Ym h;rw[YL,h1];rw[h1]at h3;unfold Xo W0 at h3;simp only[QXQ,QXy]at h3;obtain⟨⟨⟨⟨⟨_,⟨⟨⟨e1,e2⟩,e3⟩,e4⟩⟩,h4⟩,_⟩,_⟩,_⟩:=h3;have f1:=QZr.1 (Int.ofNat_eq_zero.1 e1);have f2:=QZr.1 (Int.ofNat_eq_zero.1 e2);have f3:=QZr.1 (Int.ofNat_eq_zero.1 e3);have f4:=QZr.1 (Int.ofNat_eq_zero.1 e4);rw[f1,f2,f3,f4];refine⟨rfl,fun ht=>?_,fun ht=>?_⟩
 ·rw[QXV ht]at h4;simpa using h4
 ·rw[QXG (by simp[ht])]at h4;simpa using h4

theorem Vl {x y:V}{P:PL}{k tg:Int}(_hk:X3 k)(hx:x.one P k tg=0)(hy:y.one P k tg=0)(bx:x.bits<18446744073709551616)(bY:y.bits<18446744073709551616):(Hs k x.bits x.text y.bits y.text==0)=Zo x y:=by
 obtain⟨_,x1,x2⟩:=ZI hx;obtain⟨_,y1,y2⟩:=ZI hy;rw[QYm,QXy];unfold Zo Hs;simp only[QXQ,QXy];split
 ·rename_i ht;have:=x1 ht;have:=y1 ht;rw[Vk];exact⟨fun h=>⟨by omega,h⟩,fun h=>h.2⟩
 ·rename_i ht;have ht:Za k=false:=by simpa using ht
  rw[x2 ht,y2 ht];split
  ·rw[U0,QE,QE];exact⟨fun h=>⟨by omega,rfl⟩,fun h=>by rw[h.1]⟩
  ·rw[U0];exact⟨fun h=>⟨by omega,rfl⟩,fun h=>by rw[h.1]⟩

theorem Vm {x y:V}{P:PL}{k tg:Int}(_hk:X3 k)(hx:x.one P k tg=0)(hy:y.one P k tg=0)(bx:x.bits<18446744073709551616)(bY:y.bits<18446744073709551616):(UD k x.bits x.text y.bits y.text==0)=Zo x y:=by
 obtain⟨_,x1,x2⟩:=ZI hx;obtain⟨_,y1,y2⟩:=ZI hy;rw[QYm,QXy];unfold Zo UD;simp only[QXQ,QXy];split
 ·rename_i ht;have:=x1 ht;have:=y1 ht;rw[Vk];exact⟨fun h=>⟨by omega,h⟩,fun h=>h.2⟩
 ·rename_i ht;have ht:Za k=false:=by simpa using ht
  rw[x2 ht,y2 ht];unfold Km;split
  ·rw[U0,Jm,Jm];exact⟨fun h=>⟨by omega,rfl⟩,fun h=>by rw[h.1]⟩
  ·rw[U0];exact⟨fun h=>⟨by omega,rfl⟩,fun h=>by rw[h.1]⟩

open Up

def vc (x:V):List AV:=[.int .i64 x.kd,.int .u64 (x.bits:Nat),.str x.text,.list (x.list.map V.av),.list (x.pairs.map V.pav),.list (x.slots.map V.sav),.list (x.raws.map R.av)]
theorem Qs (x:V):x.av=.agg [.int .i64 x.kd,.int .u64 (x.bits:Nat),.str x.text,.list (x.list.map V.av),.list (x.pairs.map V.pav),.list (x.slots.map V.sav),.list (x.raws.map R.av)]:=by
 rw[V.av,V.eta]
theorem ZZ (p:V×V):V.pav p=.agg [.int .i64 p.1.kd,.int .u64 (p.1.bits:Nat),.str p.1.text,.list (p.1.list.map V.av),.list (p.1.pairs.map V.pav),.list (p.1.slots.map V.sav),.list (p.1.raws.map R.av),.int .i64 p.2.kd,.int .u64 (p.2.bits:Nat),.str p.2.text,.list (p.2.list.map V.av),.list (p.2.pairs.map V.pav),.list (p.2.slots.map V.sav),.list (p.2.raws.map R.av)]:=by
 rw[V.pav,V.eta,V.eta];rfl
theorem Zs (s:Int×V):V.sav s=.agg [.int .i64 s.1,.int .i64 s.2.kd,.int .u64 (s.2.bits:Nat),.str s.2.text,.list (s.2.list.map V.av),.list (s.2.pairs.map V.pav),.list (s.2.slots.map V.sav),.list (s.2.raws.map R.av)]:=by
 rw[V.sav,V.eta]
theorem WF {l:List V}{i:Nat}{x:V}(h:l[i]? = some x):(l.map V.av)[i]? = some (.agg [.int .i64 x.kd,.int .u64 (x.bits:Nat),.str x.text,.list (x.list.map V.av),.list (x.pairs.map V.pav),.list (x.slots.map V.sav),.list (x.raws.map R.av)]):=by
 rw[QYP,h,QYi,Qs]
theorem Z0 {l:List (V×V)}{i:Nat}{p:V×V}(h:l[i]? = some p):(l.map V.pav)[i]? = some (.agg [.int .i64 p.1.kd,.int .u64 (p.1.bits:Nat),.str p.1.text,.list (p.1.list.map V.av),.list (p.1.pairs.map V.pav),.list (p.1.slots.map V.sav),.list (p.1.raws.map R.av),.int .i64 p.2.kd,.int .u64 (p.2.bits:Nat),.str p.2.text,.list (p.2.list.map V.av),.list (p.2.pairs.map V.pav),.list (p.2.slots.map V.sav),.list (p.2.raws.map R.av)]):=by
 rw[QYP,h,QYi,ZZ]
theorem Jv {l:List (Int×V)}{i:Nat}{s:Int×V}(h:l[i]? = some s):(l.map V.sav)[i]? = some (.agg [.int .i64 s.1,.int .i64 s.2.kd,.int .u64 (s.2.bits:Nat),.str s.2.text,.list (s.2.list.map V.av),.list (s.2.pairs.map V.pav),.list (s.2.slots.map V.sav),.list (s.2.raws.map R.av)]):=by
 rw[QYP,h,QYi,Zs]

structure UO (P:PL)(o:PO):Prop where
 tgt:o.kind=10→0≤o.target∧o.target<(P.progs.length:Int)
 enm:o.kind=9→0≤o.target∧o.target<(P.enums.length:Int)
 key:o.card=5→X3 o.key
def Yo (P:PL):Prop:=∀g∈P.progs,∀o∈g.ops,UO P o

theorem GL {P:PL}(h:ck P=0):Yo P:=by
 unfold ck at h;split at h
 ·omega
 split at h
 ·omega
 split at h
 ·omega
 split at h
 ·omega
 split at h
 ·omega
 split at h
 ·omega
 rename_i ha;have ha:args P=true:=by simpa using ha
 intro g hg o ho;unfold args at ha;simp only[QXQ,QXE]at ha;have h1:=ha.1 g hg;unfold Jb at h1;simp only[QXQ,QXE]at h1;have h2:=(h1.2 o ho).1;unfold X9 at h2;simp only[QXQ,QXx]at h2;obtain⟨⟨_,hk⟩,hm⟩:=h2;refine⟨fun h=>?_,fun h=>?_,fun h=>?_⟩
 ·unfold GF at hm;rw[QXV h]at hm;simp only[QXQ,QXx]at hm;exact hm.1
 ·unfold GF at hm;rw[QXG (by omega),QXV h]at hm;simp only[QXQ,QXx]at hm;exact hm
 ·unfold Va.key at hk;rw[QXV h]at hk;simp only[QXQ,QXx,QXS]at hk;unfold X3;omega

section
variable {M:Nat}{P:PL}(hP:P.ok M)(hM:M≤140737488351232){m:PG→V→Int}{lv lv1:Int}(hw:IntKind.i64.wrap (lv+1)=lv1)

include hP in
theorem TC (k tg:Int){v:V}(hv:v.ok M):Qk Tryz.prog 251 [P.av,.int .i64 k,.int .i64 tg,v.av] (.int .i64 (v.one P k tg)):=by
 rw[YL];exact QRq P hP k tg _ _ _ _ _ _ _ (by have:=hv.nl;simp;omega) (by have:=hv.np;simp;omega) (by have:=hv.ns;simp;omega) (by have:=hv.nr;simp;omega)

include hP hM in
theorem TD (k tg:Int){v:V}(hv:v.ok M):Qk Tryz.prog 190 [P.av,.int .i64 k,.int .i64 tg,v.av] (.int .i64 (v.one P k tg)):=by
 rw[YL];exact QRy P hP k tg _ _ _ _ _ _ _ (by have:=hv.text;simp only[maxLen];omega) (by have:=hv.ns;simp;omega) (by have:=hv.nr;simp;omega)

include hP hw in
theorem QRF (hm:∀g∈P.progs,∀v:V,v.ok M→Qk Tryz.prog 55 [P.av,Qh g,v.av,.int .i64 lv1] (.int .i64 (m g v)))(o:PO)(ho:UO P o)(v:V)(hv:v.ok M) :
  Qk Tryz.prog 220 [P.av,Qr o,v.av,.int .i64 lv] (.int .i64 (QN m P o v)):=by
 have e0:P.av=.agg [.list (P.progs.map Qh),.list (P.enums.map Qq)]:=rfl;have h1:=TC hP o.kind o.target hv;rw[e0,Qs]at h1;rw[Qs];refine Qj5.fn (by simp) ?_;simp only[e0,Qr,PO.cells,QN,eE,seval];by_cases hk:o.kind=10
 ·have b:(o.kind==10)=true:=by simp[hk]
  obtain⟨t0,t1⟩:=ho.tgt hk;obtain⟨i,hi⟩:=QY5 t0;have hlt:i<P.progs.length:=by omega
  obtain⟨g,hg⟩:∃g,P.progs[i]? = some g:=⟨P.progs[i],QXt hlt⟩;have hga:(P.progs.map Qh)[i]? = some (.agg g.cells):=by simp[hg,Qh]
  have hq:Q1 P o.target=g:=by unfold Q1;rw[hi,QYT,hg];rfl
  have h2:=hm g (QXF hg) v hv;rw[e0,Qs]at h2;simp only[Qh,PG.cells]at h2;simp only[PG.cells]at hga;rw[QXV hk,hq];simp only[b,hi,Qi,QYT,Qb,hga,hw,eE,seval];refine aC h2 ?_;simp only[Qa,seval]
 ·have b:(o.kind==10)=false:=by simp[hk]
  rw[QXG hk];simp only[b,eE,seval];refine aC h1 ?_;simp only[Qa,seval]

include hP hM hw in
theorem QRG (hm:∀(t:Int) (g:PG),P.progs[t.toNat]? = some g→0≤t→∀v:V,v.ok M→Qk Tryz.prog 31 [P.av,.int .i64 t,v.av,.int .i64 lv1] (.int .i64 (m g v)))(o:PO)(ho:UO P o)(v:V)(hv:v.ok M) :
  Qk Tryz.prog 111 [P.av,Qr o,v.av,.int .i64 lv] (.int .i64 (QN m P o v)):=by
 have e0:P.av=.agg [.list (P.progs.map Qh),.list (P.enums.map Qq)]:=rfl;have h1:=TD hP hM o.kind o.target hv;rw[e0,Qs]at h1;rw[Qs];refine QL6.fn (by simp) ?_;simp only[e0,Qr,PO.cells,QN,eE,seval];by_cases hk:o.kind=10
 ·have b:(o.kind==10)=true:=by simp[hk]
  obtain⟨t0,t1⟩:=ho.tgt hk;obtain⟨g,hg⟩:∃g,P.progs[o.target.toNat]? = some g:=⟨P.progs[o.target.toNat]'(by omega),QXt (by omega)⟩;have hq:Q1 P o.target=g:=by unfold Q1;rw[hg];rfl
  have h2:=hm o.target g hg t0 v hv;rw[e0,Qs]at h2;rw[QXV hk,hq];simp only[b,hw,eE,seval];refine aC h2 ?_;simp only[Qa,seval]
 ·have b:(o.kind==10)=false:=by simp[hk]
  rw[QXG hk];simp only[b,eE,seval];refine aC h1 ?_;simp only[Qa,seval]

end

section pairs
variable (L:List (V×V))(hl:L.length≤maxLen)(p:V×V→Bool)(c:Nat)(cap:AV)(m:Qo)

def QRH (k:Nat)(st:St):Prop :=
 ∃f i,st=⟨f,Qc :: m,[]⟩∧k=L.length-i∧QU p L 0=QU p (L.drop i) i∧f 0=.list (L.map V.pav)∧f 1=.fn (.func c) [] [cap.sh]∧f 7=.int .i64 (L.length:Nat)∧f 8=.int .i64 (i:Nat)

include hl in
theorem QRI (hc:∀o∈L,Qg Tryz.prog c [V.pav o,cap.sh] (Qc :: m) fun y m1=>y=.bool (p o)∧m1=Qc :: m) :
  Qg Tryz.prog 280 [.list (L.map V.pav),.fn (.func c) [] [cap]] m fun y m1=>y=.int .i64 (QU p L 0)∧m1=m:=by
 refine QPy.go (by simp) ?_;simp only[QYn,Qa,seval];refine Qd (QRH L p c cap m) _ ⟨_,0,rfl,rfl,rfl,(by rfl),(by rfl),(by rfl),(by rfl)⟩ ?_;rintro _ st ⟨f,i,rfl,rfl,hx,h0,h1,h7,h8⟩;simp only[h7,h8,Qa,seval];by_cases hlt:i<L.length
 ·obtain⟨x,hi⟩:∃x,L[i]? = some x:=⟨L[i],QXt hlt⟩;have hcl:=hc x (QXF hi);have hg:=Z0 hi;have e1:=Ql i _ hlt hl;rw[ZZ]at hcl;simp only[Qm hlt,Qi,QYT,Qb,hg,h0,h1,h8,eE,seval];refine Xf (fa:=[]) (fb:=[cap.sh]) (by rfl) hcl (by simp only[QXY,QYt,QXP,QXO,Qa,seval]) ?_;rw[XV p hi]at hx;cases hp:p x
  ·rw[hp]at hx;simp only[QXL,if_false]at hx;simp only[h8,e1,Qa,seval];exact⟨L.length-(i+1),by omega,_,i+1,rfl,rfl,hx,(by exact h0),(by exact h1),(by exact h7),(by rfl)⟩
  ·rw[hp]at hx;simp only[if_true]at hx;simp only[hx,Qa,seval]
 ·have hx':QU p L 0 = -1:=by rw[hx,QX3 (by omega)];rfl
  simp only[Qw hlt,hx',Qa,seval]

include hl in
theorem QRJ (hc:∀o∈L,Qg Tryz.prog c [V.pav o,cap.sh.sh] (Qc :: Qc :: m) fun y m1=>y=.bool (p o)∧m1=Qc :: Qc :: m) :
  Qg Tryz.prog 252 [.list (L.map V.pav),.fn (.func c) [] [cap]] m fun y m1=>y=.bool (L.any p)∧m1=m:=by
 refine QO4.go (by simp) ?_;simp only[Qa,seval];refine Qj (QRI L hl p c cap.sh _ hc) (by simp only[QXY,QYt,Qa,seval]) ?_;simp only[Dw,Qa,seval]

end pairs

section slots
variable (L:List (Int×V))(hl:L.length≤maxLen)(p:Int×V→Bool)(c:Nat)(cap:AV)(m:Qo)

def QRK (k:Nat)(st:St):Prop :=
 ∃f i,st=⟨f,Qc :: m,[]⟩∧k=L.length-i∧QU p L 0=QU p (L.drop i) i∧f 0=.list (L.map V.sav)∧f 1=.fn (.func c) [] [cap.sh]∧f 7=.int .i64 (L.length:Nat)∧f 8=.int .i64 (i:Nat)

include hl in
theorem QRL (hc:∀o∈L,Qg Tryz.prog c [V.sav o,cap.sh] (Qc :: m) fun y m1=>y=.bool (p o)∧m1=Qc :: m) :
  Qg Tryz.prog 178 [.list (L.map V.sav),.fn (.func c) [] [cap]] m fun y m1=>y=.int .i64 (QU p L 0)∧m1=m:=by
 refine Qg9.go (by simp) ?_;simp only[QYn,Qa,seval];refine Qd (QRK L p c cap m) _ ⟨_,0,rfl,rfl,rfl,(by rfl),(by rfl),(by rfl),(by rfl)⟩ ?_;rintro _ st ⟨f,i,rfl,rfl,hx,h0,h1,h7,h8⟩;simp only[h7,h8,Qa,seval];by_cases hlt:i<L.length
 ·obtain⟨x,hi⟩:∃x,L[i]? = some x:=⟨L[i],QXt hlt⟩;have hcl:=hc x (QXF hi);have hg:=Jv hi;have e1:=Ql i _ hlt hl;rw[Zs]at hcl;simp only[Qm hlt,Qi,QYT,Qb,hg,h0,h1,h8,eE,seval];refine Xf (fa:=[]) (fb:=[cap.sh]) (by rfl) hcl (by simp only[QXY,QYt,QXP,QXO,Qa,seval]) ?_;rw[XV p hi]at hx;cases hp:p x
  ·rw[hp]at hx;simp only[QXL,if_false]at hx;simp only[h8,e1,Qa,seval];exact⟨L.length-(i+1),by omega,_,i+1,rfl,rfl,hx,(by exact h0),(by exact h1),(by exact h7),(by rfl)⟩
  ·rw[hp]at hx;simp only[if_true]at hx;simp only[hx,Qa,seval]
 ·have hx':QU p L 0 = -1:=by rw[hx,QX3 (by omega)];rfl
  simp only[Qw hlt,hx',Qa,seval]

include hl in
theorem v92 (hc:∀o∈L,Qg Tryz.prog c [V.sav o,cap.sh.sh] (Qc :: Qc :: m) fun y m1=>y=.bool (p o)∧m1=Qc :: Qc :: m) :
  Qg Tryz.prog 92 [.list (L.map V.sav),.fn (.func c) [] [cap]] m fun y m1=>y=.bool (L.any p)∧m1=m:=by
 refine k92.go (by simp) ?_;simp only[Qa,seval];refine Qj (QRL L hl p c cap.sh _ hc) (by simp only[QXY,QYt,Qa,seval]) ?_;simp only[Dw,Qa,seval]

end slots

theorem Z9 {M:Nat}{v:V}(h:v.ok M):v.bits<18446744073709551616:=by
 have:=Gj h.bits;omega

section
variable {M:Nat}{P:PL}(hP:P.ok M)(hM:M≤140737488351232){m:PG→V→Int}{lv:Int}(o:PO)(ho:UO P o)(h5:o.card=5)(ps:List (V×V))(hn:ps.length≤maxLen)(hk:∀x∈ps,x.1.ok M)(hv:∀x∈ps,x.2.ok M)

theorem QRM {k:Int}(kk:X3 k)(q p:V×V)(hq:q.1.one P k (-1)=0)(hp:p.1.one P k (-1)=0)(bq:q.1.ok M)(bp:p.1.ok M)(frO:Nat→Ob)(hf:∀c,V.pav p=.agg c→frO 10=.cells c) :
  Qg Tryz.prog 253 [V.pav q,.ptr 2 10 0] [Qc,Qc,frO] fun y m1=>y=.bool (Zo q.1 p.1)∧m1=[Qc,Qc,frO]:=by
 have h:=Qw7 k kk q.1.bits p.1.bits q.1.text p.1.text;have hf:=hf _ (ZZ p);rw[←(ZI hq).1,←(ZI hp).1,Vl kk hq hp (Z9 bq) (Z9 bp),Qs,Qs]at h;rw[ZZ];refine QO7.go (by simp) ?_;simp only[hf,eE,seval];refine aC h ?_;simp only[Qa,seval]

def EnI (m:PG→V→Int)(P:PL)(lv:Int)(o:PO)(ps:List (V×V))(k:Nat)(st:St):Prop :=
 ∃f fr i,st=⟨f,[fr],[]⟩∧k=ps.length-i∧Xe (Kf m P o ps) ps.length 0=Xe (Kf m P o ps) (ps.length-i) i∧(∀j y,j<i→ps[j]? = some y→y.1.one P o.key (-1)=0)∧f 2=.list (ps.map V.pav)∧f 3=.int .i64 lv∧f 4=.ptr 0 4 0∧f 5=.ptr 0 5 0∧f 13=.list (ps.map V.pav)∧f 14=.int .i64 (ps.length:Nat)∧f 15=.int .i64 (i:Nat)∧fr 4=.cells [.list (P.progs.map Qh),.list (P.enums.map Qq)]∧fr 5=.cells o.cells∧∀s∈[10],(fr s).isRow=false

include hP ho h5 hn hk hv in
theorem QRN (hel:∀v:V,v.ok M→Qk Tryz.prog 220 [P.av,Qr o,v.av,.int .i64 lv] (.int .i64 (QN m P o v))) :
  Qk Tryz.prog 221 [P.av,Qr o,.list (ps.map V.pav),.int .i64 lv] (.int .i64 (Xe (Kf m P o ps) ps.length 0)):=by
 have e0:P.av=.agg [.list (P.progs.map Qh),.list (P.enums.map Qq)]:=rfl;have kk:=ho.key h5;refine QOs.fn (by simp) ?_;simp only[e0,Qr,PO.cells,QYn,eE,seval];refine Qd (EnI m P lv o ps) _ ⟨_,_,0,rfl,rfl,rfl,(by intro j y h;omega),(by rfl),(by rfl),(by rfl),(by rfl),(by rfl),(by rfl),(by rfl),(by rfl),(by rfl),by simp<;>rfl⟩ ?_;rintro _ st ⟨f0,fr0,i,rfl,rfl,hx,hks,h20,h30,h40,h50,h130,h140,h150,m40,m50,D5⟩;refine QJ (a:=_) [10] D5 ?_;intro f fr hf hm hn10;have h2:f 2=.list (ps.map V.pav):=by rw[hf,h20]<;>rfl
 have h3:f 3=.int .i64 lv:=by rw[hf,h30]<;>rfl
 have h4:f 4=.ptr 0 4 0:=by rw[hf,h40]<;>rfl
 have h5':f 5=.ptr 0 5 0:=by rw[hf,h50]<;>rfl
 have h13:f 13=.list (ps.map V.pav):=by rw[hf,h130]<;>rfl
 have h14:f 14=.int .i64 (ps.length:Nat):=by rw[hf,h140]<;>rfl
 have h15:f 15=.int .i64 (i:Nat):=by rw[hf,h150]<;>rfl
 have m4:fr 4=.cells [.list (P.progs.map Qh),.list (P.enums.map Qq)]:=by rw[hm 4 (by decide),m40]<;>rfl
 have m5:fr 5=.cells o.cells:=by rw[hm 5 (by decide),m50]<;>rfl
 have n10:=hn10 10 (by decide);clear hf hm hn10 h20 h30 h40 h50 h130 h140 h150 m40 m50 D5;have m5':=m5;simp only[PO.cells]at m5;simp only[h14,h15,Qa,seval];by_cases hlt:i<ps.length
 ·obtain⟨x,hi⟩:∃x,ps[i]? = some x:=⟨ps[i],QXt hlt⟩;have hxm:=QXF hi;have hg:=Z0 hi;have e1:=Ql i _ hlt hn;have hle:(i≤ps.length)=True:=eq_true (by omega);have c1:=TC hP o.key (-1) (hk x hxm);have c2:=hel x.2 (hv x hxm);rw[e0,Qs]at c1 c2;simp only[Qr,PO.cells]at c2;simp only[Qm hlt,Qi,QYT,Qb,hg,n10,h4,h5',h13,h15,m4,m5,eE,seval];refine aC c1 ?_;by_cases hz:x.1.one P o.key (-1)=0
  ·have d0:((0:Int) != 0)=false:=rfl;have hcl:=fun(fr:Nat→Ob) (h10:∀c,V.pav x=.agg c→fr 10=.cells c)=>QRJ (ps.take i) (by rw[QYp];omega) (fun q=>Zo q.1 x.1) 253 (.ptr 0 10 0) [fr] fun q hq=>by
    obtain⟨j,hj⟩:=QXD.1 hq;have hlj:=(QXs.1 hj).1;rw[QYp]at hlj;rw[QX5,QXV (by omega)]at hj;exact QRM kk q x (hks j q (by omega) hj) hz (hk q (QXF hj)) (hk x hxm) fr h10
   simp only[hz,d0,h2,Zv,Zg,QX,QY0,QYn,Qi,QYT,QXA,QXq,hle,true_or,QYL,←List.map_take,Qa,seval];refine Qj (hcl _ (fun c hc=>by rw[ZZ]at hc;cases hc;exact(by rfl))) (by simp only[QXY,QYt,Qa,seval]<;>rfl) ?_;cases ha:(ps.take i).any (fun q=>Zo q.1 x.1)
   ·have he:Kf m P o ps i=QN m P o x.2:=by rw[KB hi,QXV hz,ha,QXG (by simp)]
    simp only[h3,h4,h5',m4,m5,eE,seval];refine aC c2 ?_;by_cases hy:QN m P o x.2=0
    ·rw[KO hlt (he.trans hy)]at hx;simp only[hy,d0,h15,e1,Qa,seval];refine⟨ps.length-(i+1),by omega,_,_,i+1,rfl,rfl,hx,?_,(by exact h2),(by exact h3),(by exact h4),(by exact h5'),(by exact h13),(by exact h14),(by rfl),(by exact m4),(by exact m5'),by simp<;>rfl⟩;intro j y hj hjy;by_cases e:j=i
     ·subst e;rw[hi]at hjy;cases hjy;exact hz
     ·exact hks j y (by omega) hjy
    ·rw[Zz hlt he hy]at hx;have d1:(QN m P o x.2 != 0)=true:=by simp[hy]
     simp only[d1,hx,Qa,seval]
   ·rw[Zz hlt (v:=9) (by rw[KB hi,QXV hz,ha,QXV rfl]) (by decide)]at hx;simp only[hx,Qa,seval]
  ·rw[Zz hlt ((KB hi).trans (QXG hz)) hz]at hx;have d1:(x.1.one P o.key (-1) != 0)=true:=by simp[hz]
   simp only[d1,hx,Qa,seval]
 ·rw[JY hlt]at hx;simp only[Qw hlt,hx,Qa,seval]

theorem Px {k:Int}(kk:X3 k)(i:Nat)(x:V×V)(hi:ps[i]? = some x)(hz:x.1.one P k (-1)=0)(hks:∀j y,j<i→ps[j]? = some y→y.1.one P k (-1)=0)(hn:ps.length≤maxLen)(hk:∀x∈ps,x.1.ok M)(f:Fr)(fr:Nat→Ob)(lv:Int)(h2:f 2=.list (ps.map V.pav))(h3:f 3=.int .i64 lv)(h4:f 4=.ptr 0 4 0)(h5:f 5=.ptr 0 5 0)(h9:f 9=.int .i64 (i:Nat))(h11:f 11=.int .i64 0)(Q:Exit→St→Prop)
  (q1:(ps.take i).any (fun q=>Zo q.1 x.1)=true→∀f,f 8=.int .i64 9→Q .ret (⟨f,[fr],[]⟩:St))
  (q2:(ps.take i).any (fun q=>Zo q.1 x.1)=false→∀f,f 2=.list (ps.map V.pav)→f 3=.int .i64 lv→f 4=.ptr 0 4 0→f 5=.ptr 0 5 0→f 9=.int .i64 (i:Nat)→Q (.exit 2) (⟨f,[fr],[]⟩:St)) :
  QH Tryz.prog (.loop MX) ⟨f,[fr],[]⟩ Q:=by
 let I:Nat→St→Prop:=fun k st=>∃f j,st=⟨f,[fr],[]⟩∧k=i-j∧j≤i∧(ps.take j).any (fun q=>Zo q.1 x.1)=false∧f 2=.list (ps.map V.pav)∧f 3=.int .i64 lv∧f 4=.ptr 0 4 0∧f 5=.ptr 0 5 0∧f 9=.int .i64 (i:Nat)∧f 11=.int .i64 (j:Nat)
 refine Qd I _ ⟨f,0,rfl,rfl,QXA _,by simp,h2,h3,h4,h5,h9,h11⟩ ?_;clear h2 h3 h4 h5 h9 h11;rintro _ st ⟨f,j,rfl,rfl,hji,ha,h2,h3,h4,h5,h9,h11⟩;have hil:=(QXs.1 hi).1;simp only[h9,h11,Qa,seval];by_cases hlt:j<i
 ·obtain⟨y,hj⟩:∃y,ps[j]? = some y:=⟨ps[j]'(by omega),QXt (by omega)⟩;have hg:=Z0 hj;have hgi:=Z0 hi;have e1:=Ql j i hlt (by omega);have hy:=hks j y hlt hj;have h:=QRE k kk y.1.bits x.1.bits y.1.text x.1.text;rw[←(ZI hy).1,←(ZI hz).1,Vm kk hy hz (Z9 (hk y (QXF hj))) (Z9 (hk x (QXF hi))),Qs,Qs]at h;have ht:(ps.take (j+1)).any (fun q=>Zo q.1 x.1)=Zo y.1 x.1:=by
   rw[QZa,hj,List.any_append,ha];simp
  simp only[Qm hlt,Qi,QYT,Qb,hg,hgi,h2,h9,h11,QXZ,QYA,QX9,eE,seval];refine aC h ?_;cases hq:Zo y.1 x.1
  ·simp only[h11,e1,Qa,seval];exact⟨i-(j+1),by omega,_,j+1,rfl,rfl,by omega,by rw[ht,hq],(by exact h2),(by exact h3),(by exact h4),(by exact h5),(by exact h9),(by rfl)⟩
  ·simp only[Qa,seval];refine q1 ?_ _ (by rfl);refine QZg.2 ⟨y,?_,hq⟩;exact QXF (i:=j) (by rw[QX5,QXV hlt];exact hj)
 ·have e:j=i:=by omega
  subst e;simp only[Qw hlt,Qa,seval];exact q2 ha _ (by exact h2) (by exact h3) (by exact h4) (by exact h5) (by exact h9)

def QaI (m:PG→V→Int)(P:PL)(lv:Int)(o:PO)(ps:List (V×V))(k:Nat)(st:St):Prop :=
 ∃f fr i,st=⟨f,[fr],[]⟩∧k=ps.length-i∧Xe (Kf m P o ps) ps.length 0=Xe (Kf m P o ps) (ps.length-i) i∧(∀j y,j<i→ps[j]? = some y→y.1.one P o.key (-1)=0)∧f 2=.list (ps.map V.pav)∧f 3=.int .i64 lv∧f 4=.ptr 0 4 0∧f 5=.ptr 0 5 0∧f 9=.int .i64 (i:Nat)∧fr 4=.cells [.list (P.progs.map Qh),.list (P.enums.map Qq)]∧fr 5=.cells o.cells

include hP hM ho h5 hn hk hv in
theorem QRO (hel:∀v:V,v.ok M→Qk Tryz.prog 111 [P.av,Qr o,v.av,.int .i64 lv] (.int .i64 (QN m P o v))) :
  Qk Tryz.prog 110 [P.av,Qr o,.list (ps.map V.pav),.int .i64 lv] (.int .i64 (Xe (Kf m P o ps) ps.length 0)):=by
 have e0:P.av=.agg [.list (P.progs.map Qh),.list (P.enums.map Qq)]:=rfl;have kk:=ho.key h5;refine QL3.fn (by simp) ?_;simp only[e0,Qr,PO.cells,eE,seval];refine Qd (QaI m P lv o ps) _ ⟨_,_,0,rfl,rfl,rfl,(by intro j y h;omega),(by rfl),(by rfl),(by rfl),(by rfl),(by rfl),(by rfl),(by rfl)⟩ ?_;rintro _ st ⟨f,fr,i,rfl,rfl,hx,hks,h2,h3,h4,h5',h9,m4,m5⟩;have m5':=m5;simp only[PO.cells]at m5;simp only[QYn,h2,h9,Qa,seval];by_cases hlt:i<ps.length
 ·obtain⟨x,hi⟩:∃x,ps[i]? = some x:=⟨ps[i],QXt hlt⟩;have hxm:=QXF hi;have hg:=Z0 hi;have e1:=Ql i _ hlt hn;have c1:=TD hP hM o.key (-1) (hk x hxm);have c2:=hel x.2 (hv x hxm);rw[e0,Qs]at c1 c2;simp only[Qr,PO.cells]at c2;simp only[Qm hlt,Qi,QYT,Qb,hg,QXZ,QYA,QX9,h2,h4,h5',h9,m4,m5,eE,seval];refine aC c1 ?_;by_cases hz:x.1.one P o.key (-1)=0
  ·have d0:((0:Int) != 0)=false:=rfl;simp only[hz,d0,Qa,seval];refine Px ps kk i x hi hz hks hn hk _ _ lv (by exact h2) (by exact h3) (by exact h4) (by exact h5') (by exact h9) (by rfl) _ (fun ha f h8=>?_) (fun ha f h2 h3 h4 h5' h9=>?_)
   ·rw[Zz hlt (v:=9) (by rw[KB hi,QXV hz,ha,QXV rfl]) (by decide)]at hx;simp only[hx,h8,Qa,seval]
   ·have he:Kf m P o ps i=QN m P o x.2:=by rw[KB hi,QXV hz,ha,QXG (by simp)]
    simp only[Qi,QYT,Qb,hg,QXZ,QX2,QX9,h2,h3,h4,h5',h9,m4,m5,eE,seval];refine aC c2 ?_;by_cases hy:QN m P o x.2=0
    ·rw[KO hlt (he.trans hy)]at hx;simp only[hy,d0,h9,e1,Qa,seval];refine⟨ps.length-(i+1),by omega,_,_,i+1,rfl,rfl,hx,?_,(by exact h2),(by exact h3),(by exact h4),(by exact h5'),(by rfl),(by exact m4),(by exact m5')⟩;intro j y hj hjy;by_cases e:j=i
     ·subst e;rw[hi]at hjy;cases hjy;exact hz
     ·exact hks j y (by omega) hjy
    ·rw[Zz hlt he hy]at hx;have d1:(QN m P o x.2 != 0)=true:=by simp[hy]
     simp only[d1,hx,Qa,seval]
  ·rw[Zz hlt ((KB hi).trans (QXG hz)) hz]at hx;have d1:(x.1.one P o.key (-1) != 0)=true:=by simp[hz]
   simp only[d1,hx,Qa,seval]
 ·rw[JY hlt]at hx;simp only[Qw hlt,hx,Qa,seval]

end

section
variable {M:Nat}{P:PL}(hP:P.ok M)(hM:M≤140737488351232){m:PG→V→Int}{lv:Int}(o:PO)(ho:UO P o)(v:V)(hv:v.ok M)

include hv in
theorem Cy:Qk Tryz.prog 90 [v.av] (.bool v.oth):=by
 rw[YL];exact z90 _ _ _ _ _ _ _ (by have:=hv.ns;simp;omega) (by have:=hv.nr;simp;omega)
include hv in
theorem Cz:Qk Tryz.prog 59 [v.av] (.bool v.oth):=by
 rw[YL];exact z59 _ _ _ _ _ _ _ (by have:=hv.ns;simp;omega) (by have:=hv.nr;simp;omega)

def FiI (m:PG→V→Int)(P:PL)(lv:Int)(o:PO)(v:V)(k:Nat)(st:St):Prop :=
 ∃f fr i,st=⟨f,[fr],[]⟩∧k=v.list.length-i∧Xe (YM m P o v.list) v.list.length 0=Xe (YM m P o v.list) (v.list.length-i) i∧f 3=.int .i64 lv∧f 4=.ptr 0 4 0∧f 5=.ptr 0 5 0∧f 24=.list (v.list.map V.av)∧f 25=.int .i64 (v.list.length:Nat)∧f 26=.int .i64 (i:Nat)∧fr 4=.cells [.list (P.progs.map Qh),.list (P.enums.map Qq)]∧fr 5=.cells o.cells∧∀s∈[10],(fr s).isRow=false

include hP ho hv in
theorem QRP (hel:∀v:V,v.ok M→Qk Tryz.prog 220 [P.av,Qr o,v.av,.int .i64 lv] (.int .i64 (QN m P o v))) :
  Qk Tryz.prog 177 [P.av,Qr o,v.av,.int .i64 lv] (.int .i64 (Q3 m P o v)):=by
 have e0:P.av=.agg [.list (P.progs.map Qh),.list (P.enums.map Qq)]:=rfl;have co:=Cy v hv;have ce:=fun h5=>QRN hP o ho h5 v.pairs (by have:=hv.np;simp only[maxLen];omega) hv.keys hv.vals hel
 have cv:=hel v hv;rw[e0,Qs]at cv;rw[Qs]at co;simp only[e0,Qr,PO.cells]at ce cv;rw[Qs];refine QgX.fn (by simp) ?_;simp only[e0,Qr,PO.cells,eE,seval];unfold Q3;by_cases h4:o.card=4
 ·have b4:(o.card==4)=true:=by simp[h4]
  have n5:¬o.card=5:=by omega
  rw[QXG n5,QXV h4];simp only[b4,eE,seval];cases a1:(v.kd != 11)
  ·simp only[QY7,eE,seval];refine aC co ?_;cases a2:v.oth
   ·simp only[QXL,QYn,eE,seval];refine Qd (FiI m P lv o v) _ ⟨_,_,0,rfl,rfl,rfl,(by rfl),(by rfl),(by rfl),(by rfl),(by rfl),(by rfl),(by rfl),(by rfl),by simp<;>rfl⟩ ?_;rintro _ st ⟨f0,fr0,i,rfl,rfl,hx,h30,h40,h50,h240,h250,h260,m40,m50,D5⟩;refine QJ (a:=_) [10] D5 ?_;intro f fr hf hm hn10;have h3:f 3=.int .i64 lv:=by rw[hf,h30]<;>rfl
    have h4:f 4=.ptr 0 4 0:=by rw[hf,h40]<;>rfl
    have h5:f 5=.ptr 0 5 0:=by rw[hf,h50]<;>rfl
    have h24:f 24=.list (v.list.map V.av):=by rw[hf,h240]<;>rfl
    have h25:f 25=.int .i64 (v.list.length:Nat):=by rw[hf,h250]<;>rfl
    have h26:f 26=.int .i64 (i:Nat):=by rw[hf,h260]<;>rfl
    have m4:fr 4=.cells [.list (P.progs.map Qh),.list (P.enums.map Qq)]:=by rw[hm 4 (by decide),m40]<;>rfl
    have m5:fr 5=.cells o.cells:=by rw[hm 5 (by decide),m50]<;>rfl
    have n10:=hn10 10 (by decide);clear hf hm hn10 h30 h40 h50 h240 h250 h260 m40 m50 D5;have m5':=m5;simp only[PO.cells]at m5;simp only[h25,h26,Qa,seval];by_cases hlt:i<v.list.length
    ·obtain⟨x,hi⟩:∃x,v.list[i]? = some x:=⟨v.list[i],QXt hlt⟩;have hg:=WF hi;have e1:=Ql i _ hlt (by have:=hv.nl;simp only[maxLen];omega);have c2:=hel x (hv.list x (QXF hi));rw[e0,Qs]at c2;simp only[Qr,PO.cells]at c2;simp only[Qm hlt,Qi,QYT,Qb,hg,n10,h3,h4,h5,h24,h26,m4,m5,eE,seval];refine aC c2 ?_;by_cases hy:QN m P o x=0
     ·rw[KO hlt ((Wn hi).trans hy)]at hx;have d0:((0:Int) != 0)=false:=rfl;simp only[hy,d0,h26,e1,Qa,seval];exact⟨v.list.length-(i+1),by omega,_,_,i+1,rfl,rfl,hx,(by exact h3),(by exact h4),(by exact h5),(by exact h24),(by exact h25),(by rfl),(by exact m4),(by exact m5'),by simp<;>rfl⟩
     ·rw[Zz hlt (Wn hi) hy]at hx;have d1:(QN m P o x != 0)=true:=by simp[hy]
      simp only[d1,hx,Qa,seval]
    ·rw[JY hlt]at hx;simp only[Qw hlt,hx,Qa,seval]
   ·simp only[Qa,seval]
  ·simp only[QY6,Qa,seval]
 ·have b4:(o.card==4)=false:=by simp[h4]
  by_cases h5:o.card=5
  ·have b5:(o.card==5)=true:=by simp[h5]
   rw[QXV h5];simp only[b4,b5,eE,seval];cases a1:(v.kd != 12)
   ·simp only[QY7,eE,seval];refine aC co ?_;cases a2:v.oth
    ·simp only[QXL,eE,seval];refine aC (ce h5) ?_;simp only[Qa,seval]
    ·simp only[Qa,seval]
   ·simp only[QY6,Qa,seval]
  ·have b5:(o.card==5)=false:=by simp[h5]
   rw[QXG h5,QXG h4];simp only[b4,b5,eE,seval];refine aC cv ?_;simp only[Qa,seval]

def CoI (m:PG→V→Int)(P:PL)(lv:Int)(o:PO)(v:V)(k:Nat)(st:St):Prop :=
 ∃f fr i,st=⟨f,[fr],[]⟩∧k=v.list.length-i∧Xe (YM m P o v.list) v.list.length 0=Xe (YM m P o v.list) (v.list.length-i) i∧f 3=.int .i64 lv∧f 4=.ptr 0 4 0∧f 5=.ptr 0 5 0∧f 6=.ptr 0 6 0∧f 9=.int .i64 (i:Nat)∧fr 4=.cells [.list (P.progs.map Qh),.list (P.enums.map Qq)]∧fr 5=.cells o.cells∧fr 6=.cells (vc v)

include hP hM ho hv in
theorem v61 (hel:∀v:V,v.ok M→Qk Tryz.prog 111 [P.av,Qr o,v.av,.int .i64 lv] (.int .i64 (QN m P o v))) :
  Qk Tryz.prog 61 [P.av,Qr o,v.av,.int .i64 lv] (.int .i64 (Q3 m P o v)):=by
 have e0:P.av=.agg [.list (P.progs.map Qh),.list (P.enums.map Qq)]:=rfl;have co:=Cz v hv;have ce:=fun h5=>QRO hP hM o ho h5 v.pairs (by have:=hv.np;simp only[maxLen];omega) hv.keys hv.vals hel
 have cv:=hel v hv;rw[e0,Qs]at cv;rw[Qs]at co;simp only[e0,Qr,PO.cells]at ce cv;rw[Qs];refine k61.fn (by simp) ?_;simp only[e0,Qr,PO.cells,eE,seval];unfold Q3;by_cases h5:o.card=5
 ·have b5:(o.card==5)=true:=by simp[h5]
  rw[QXV h5];simp only[b5,eE,seval];cases a1:(v.kd != 12)
  ·simp only[QY7,eE,seval];refine aC co ?_;cases a2:v.oth
   ·simp only[QXL,eE,seval];refine aC (ce h5) ?_;simp only[Qa,seval]
   ·simp only[Qa,seval]
  ·simp only[QY6,Qa,seval]
 ·have b5:(o.card==5)=false:=by simp[h5]
  rw[QXG h5];by_cases h4:o.card=4
  ·have b4:(o.card==4)=true:=by simp[h4]
   rw[QXV h4];simp only[b5,b4,eE,seval];cases a1:(v.kd != 11)
   ·simp only[QY7,eE,seval];refine aC co ?_;cases a2:v.oth
    ·simp only[QXL,Qa,seval];refine Qd (CoI m P lv o v) _ ⟨_,_,0,rfl,rfl,rfl,(by rfl),(by rfl),(by rfl),(by rfl),(by rfl),(by rfl),(by rfl),(by rfl)⟩ ?_;rintro _ st ⟨f,fr,i,rfl,rfl,hx,h3,h4,h5,h6,h9,m4,m5,m6⟩;have m5':=m5;have m6':=m6;simp only[PO.cells]at m5;simp only[vc]at m6;simp only[QYn,h6,h9,m6,eE,seval];by_cases hlt:i<v.list.length
     ·obtain⟨x,hi⟩:∃x,v.list[i]? = some x:=⟨v.list[i],QXt hlt⟩;have hg:=WF hi;have e1:=Ql i _ hlt (by have:=hv.nl;simp only[maxLen];omega);have c2:=hel x (hv.list x (QXF hi));rw[e0,Qs]at c2;simp only[Qr,PO.cells]at c2;simp only[Qm hlt,Qi,QYT,Qb,hg,QXZ,QX9,h3,h4,h5,h6,h9,m4,m5,m6,eE,seval];refine aC c2 ?_;by_cases hy:QN m P o x=0
      ·rw[KO hlt ((Wn hi).trans hy)]at hx;have d0:((0:Int) != 0)=false:=rfl;simp only[hy,d0,h9,e1,Qa,seval];exact⟨v.list.length-(i+1),by omega,_,_,i+1,rfl,rfl,hx,(by exact h3),(by exact h4),(by exact h5),(by exact h6),(by rfl),(by exact m4),(by exact m5'),(by exact m6')⟩
      ·rw[Zz hlt (Wn hi) hy]at hx;have d1:(QN m P o x != 0)=true:=by simp[hy]
       simp only[d1,hx,Qa,seval]
     ·rw[JY hlt]at hx;simp only[Qw hlt,hx,Qa,seval]
    ·simp only[Qa,seval]
   ·simp only[QY6,Qa,seval]
  ·have b4:(o.card==4)=false:=by simp[h4]
   rw[QXG h4];simp only[b5,b4,eE,seval];refine aC cv ?_;simp only[Qa,seval]

end

def W4 (g:PG)(sl:List (Int×V))(i:Nat):Int:=match sl[i]? with
 |none=>0
 |some x=>match XO g x.1 with
  |none=>8
  |some o=>if (sl.take i).any (fun y=>y.1==x.1)=true then 9 else if (sl.take i).any (Zr g o)=true then 15 else 0

theorem QaC {m:PG→V→Int}{P:PL}{g:PG}{sl:List (Int×V)}{i:Nat}{x:Int×V}(h:sl[i]? = some x) :
  (W4 g sl i≠0→XB m P g sl i=W4 g sl i)∧(W4 g sl i=0→∃o,XO g x.1=some o∧XB m P g sl i=Q3 m P o x.2):=by
 unfold W4 XB;rw[h];dsimp only;cases ho:XO g x.1 with
 |none=>exact⟨fun _=>rfl,fun h=>by simp at h⟩
 |some o=>
  dsimp only;cases(sl.take i).any (fun y=>y.1==x.1)
  ·cases(sl.take i).any (Zr g o)
   ·simp
   ·simp
  ·simp

theorem R6 {fr:Nat→Ob}{a b:Nat}(h1:(fr a).isRow=false)(h2:(fr b).isRow=false):∀s∈[a,b],(fr s).isRow=false:=by
 intro s hs;simp only[QYO,QZw,or_false]at hs;rcases hs with rfl|rfl
 ·exact h1
 ·exact h2

theorem Zu {g:PG}{n:Int}{o:PO}(h:XO g n=some o):o∈g.ops∧o.num=n:=by
 unfold XO at h;exact⟨QZh h,by simpa using List.find?_some h⟩

theorem JZ (g:PG)(n:Int):GA (fun o=>o.num==n) g.ops=.tup [Qr ((XO g n).getD WW),.bool (XO g n).isSome]:=rfl

section
variable {M:Nat}{P:PL}(hP:P.ok M)(hM:M≤140737488351232){m:PG→V→Int}{lv:Int}(g:PG)(hg:g.ok M)(hu:∀o∈g.ops,UO P o)(sl:List (Int×V))(hn:sl.length≤maxLen)(i:Nat)(hi:i<sl.length)(hv:∀x∈sl,x.2.ok M)

theorem QRQ (y:Int×V)(o:PO)(frO:Nat→Ob)(hf:frO 11=.cells o.cells) :
  Qg Tryz.prog 176 [V.sav y,.ptr 2 11 0] [Qc,Qc,frO] fun v m1=>v=.bool (y.1==o.num)∧m1=[Qc,Qc,frO]:=by
 simp only[PO.cells]at hf;rw[Zs];refine QgJ.go (by simp) ?_;simp only[hf,eE,seval]

def SlI (P:PL)(lv:Int)(g:PG)(o:PO)(sl:List (Int×V))(i:Nat)(k:Nat)(st:St):Prop :=
 ∃f fr j,st=⟨f,[fr],[]⟩∧k=i-j∧j≤i∧(sl.take j).any (Zr g o)=false∧f 2=.list (sl.map V.sav)∧f 3=.int .i64 (i:Nat)∧f 4=.int .i64 lv∧f 5=.ptr 0 5 0∧f 6=.ptr 0 6 0∧f 11=.ptr 0 11 0∧f 36=.list ((sl.take i).map V.sav)∧f 37=.int .i64 (i:Nat)∧f 38=.int .i64 (j:Nat)∧fr 5=.cells [.list (P.progs.map Qh),.list (P.enums.map Qq)]∧fr 6=.cells g.cells∧fr 11=.cells o.cells∧∀s∈[15,14],(fr s).isRow=false

include hg hn hi hv in
theorem v91 (hfi:∀o∈g.ops,∀v:V,v.ok M→Qk Tryz.prog 177 [P.av,Qr o,v.av,.int .i64 lv] (.int .i64 (Q3 m P o v))) :
  Qk Tryz.prog 91 [P.av,Qh g,.list (sl.map V.sav),.int .i64 (i:Nat),.int .i64 lv] (.int .i64 (XB m P g sl i)):=by
 have e0:P.av=.agg [.list (P.progs.map Qh),.list (P.enums.map Qq)]:=rfl;obtain⟨x,hx⟩:∃x,sl[i]? = some x:=⟨sl[i],QXt hi⟩;have hxm:=QXF hx;have hgi:=Jv hx;have co:=fun n=>Tw g hg.len n
 simp only[JZ]at co;have co1:=co x.1;have hle:(i≤sl.length)=True:=eq_true (by omega);have hlen:(sl.take i).length=i:=by rw[QYp];omega
 unfold XB;rw[hx];dsimp only;simp only[Qh,PG.cells]at co co1;refine k91.fn (by simp) ?_;simp only[e0,Qh,PG.cells,Qi,QYT,Qb,hgi,QXZ,QX9,eE,seval];refine aC co1 ?_;cases ho:XO g x.1 with
 |none=>
  simp only[QY0,QYh,WW,Qr,PO.cells,splice,QYA,QXP,QX2,QYG,QYv,QXH,QYo,QYD,QYE,AV.leaf,eE,seval]
 |some o=>
  obtain⟨hom,hon⟩:=Zu ho;have hcl:=fun(fr:Nat→Ob) (h11:fr 11=.cells o.cells)=>v92 (sl.take i) (by omega) (fun y=>y.1==o.num) 176 (.ptr 0 11 0) [fr] fun y _=>QRQ y o fr h11
  rw[hon]at hcl;simp only[PO.cells]at hcl;simp only[QYC,QZe,Qr,PO.cells,splice,QYA,QXP,QX2,QX9,QYG,QYv,QXH,QYo,QYD,QYE,AV.leaf,Zv,Zg,QX,QY0,QYn,Qi,QYT,QXA,QXq,hle,true_or,QYL,←List.map_take,eE,seval];refine Qj (hcl _ (by rfl)) (by simp only[QXY,QYt,Qa,seval]<;>rfl) ?_;cases ha:(sl.take i).any (fun y=>y.1==x.1)
  ·simp only[QXL,Zv,Zg,QX,QY0,QYn,Qi,QYT,QXA,QXq,hle,true_or,QYL,←List.map_take,hlen,Qa,seval];refine Qd (SlI P lv g o sl i) _ ⟨_,_,0,rfl,rfl,QXA _,by simp,(by rfl),(by rfl),(by rfl),(by rfl),(by rfl),(by rfl),(by rfl),(by rfl),(by rfl),(by rfl),(by rfl),(by rfl),R6 rfl rfl⟩ ?_;rintro _ st ⟨f0,fr0,j,rfl,rfl,hji,hq,h20,h30,h40,h50,h60,h110,h360,h370,h380,m50,m60,m110,ML⟩;refine QJ (a:=_) [15,14] ML ?_;intro f fr hf hm hn15;have h2:f 2=.list (sl.map V.sav):=by rw[hf,h20]<;>rfl
   have h3:f 3=.int .i64 (i:Nat):=by rw[hf,h30]<;>rfl
   have h4:f 4=.int .i64 lv:=by rw[hf,h40]<;>rfl
   have h5:f 5=.ptr 0 5 0:=by rw[hf,h50]<;>rfl
   have h6:f 6=.ptr 0 6 0:=by rw[hf,h60]<;>rfl
   have h11:f 11=.ptr 0 11 0:=by rw[hf,h110]<;>rfl
   have h36:f 36=.list ((sl.take i).map V.sav):=by rw[hf,h360]<;>rfl
   have h37:f 37=.int .i64 (i:Nat):=by rw[hf,h370]<;>rfl
   have h38:f 38=.int .i64 (j:Nat):=by rw[hf,h380]<;>rfl
   have m5:fr 5=.cells [.list (P.progs.map Qh),.list (P.enums.map Qq)]:=by rw[hm 5 (by decide),m50]<;>rfl
   have m6:fr 6=.cells g.cells:=by rw[hm 6 (by decide),m60]<;>rfl
   have m11:fr 11=.cells o.cells:=by rw[hm 11 (by decide),m110]<;>rfl
   have n15:=hn15 15 (by decide);have n14:=hn15 14 (by decide);clear hf hm hn15 h20 h30 h40 h50 h60 h110 h360 h370 h380 m50 m60 m110 ML;have m6':=m6;have m11':=m11;simp only[PG.cells]at m6;simp only[PO.cells]at m11;simp only[h37,h38,Qa,seval];by_cases hlt:j<i
   ·obtain⟨y,hj⟩:∃y,sl[j]? = some y:=⟨sl[j]'(by omega),QXt (by omega)⟩;have hj':(sl.take i)[j]? = some y:=by rw[QX5,QXV hlt];exact hj
    have hgj:=Jv hj';have e1:=Ql j i hlt (by omega);have co2:=co y.1;have ht:(sl.take (j+1)).any (Zr g o)=Zr g o y:=by
     rw[QZa,hj,List.any_append,hq];simp
    have hun:Zr g o y=(o.union != -1&&(((XO g y.1).getD WW).union==o.union)):=rfl;simp only[Qm hlt,Qi,QYT,Qb,hgj,n14,h6,h36,h38,m6,eE,seval];refine aC co2 ?_;generalize (XO g y.1).getD WW=q at hun;generalize (XO g y.1).isSome=qb;have fin:∀(f':Fr) (fr':Nat→Ob),Zr g o y=false→f' 2=.list (sl.map V.sav)→f' 3=.int .i64 (i:Nat)→f' 4=.int .i64 lv→f' 5=.ptr 0 5 0→f' 6=.ptr 0 6 0→f' 11=.ptr 0 11 0→f' 36=.list ((sl.take i).map V.sav)→f' 37=.int .i64 (i:Nat)→f' 38=.int .i64 ((j+1:Nat):Int)→fr' 5=.cells [.list (P.progs.map Qh),.list (P.enums.map Qq)]→fr' 6=.cells g.cells→fr' 11=.cells o.cells→(∀s∈[15,14],(fr' s).isRow=false)→∃k,k<i-j∧SlI P lv g o sl i k ⟨f',[fr'],[]⟩:=by
     intro f' fr' hu b2 b3 b4 b5 b6 b11 b36 b37 b38 c5 c6 c11 c15;exact⟨i-(j+1),by omega,f',fr',j+1,rfl,rfl,by omega,by rw[ht,hu],b2,b3,b4,b5,b6,b11,b36,b37,b38,c5,c6,c11,c15⟩
    cases a1:(o.union != -1)
    ·rw[a1,QYW]at hun;simp only[Qr,PO.cells,a1,n15,h11,h38,m11,e1,eE,seval];exact fin _ _ hun (by exact h2) (by exact h3) (by exact h4) (by exact h5) (by exact h6) (by exact h11) (by exact h36) (by exact h37) (by rfl) (by exact m5) (by exact m6') (by exact m11') (R6 rfl rfl)
    ·cases a2:(q.union==o.union)
     ·rw[a1,a2,QY3]at hun;simp only[Qr,PO.cells,a1,a2,n15,h11,h38,m11,e1,eE,seval];exact fin _ _ hun (by exact h2) (by exact h3) (by exact h4) (by exact h5) (by exact h6) (by exact h11) (by exact h36) (by exact h37) (by rfl) (by exact m5) (by exact m6') (by exact m11') (R6 rfl rfl)
     ·rw[a1,a2,QY3]at hun;have hany:(sl.take i).any (Zr g o)=true:=QZg.2 ⟨y,QXF hj',hun⟩;rw[hany];simp only[Qr,PO.cells,a1,a2,n15,h11,m11,eE,seval]
   ·have e:j=i:=by omega
    subst e;have cf:=hfi o hom x.2 (hv x hxm);rw[e0,Qs]at cf;simp only[Qr,PO.cells]at cf;rw[hq];simp only[Qw hlt,QXL,Qi,QYT,Qb,hgi,QXZ,QX2,QX9,h2,h3,h4,h5,h11,m5,m11,eE,seval];refine aC cf ?_;simp only[Qa,seval]
  ·simp only[Qa,seval]

def SrI (g:PG)(o:PO)(sl:List (Int×V))(i:Nat)(n:Int)(k:Nat)(st:St):Prop :=
 ∃f fr j,st=⟨f,[fr],[]⟩∧k=i-j∧j≤i∧(sl.take j).any (fun y=>y.1==n)=false∧f 1=.list (sl.map V.sav)∧f 2=.int .i64 (i:Nat)∧f 3=.ptr 0 3 0∧f 7=.ptr 0 7 0∧f 9=.bool ((sl.take j).any (Zr g o))∧f 10=.int .i64 (j:Nat)∧fr 3=.cells g.cells∧fr 7=.cells o.cells∧∀s∈[11],(fr s).isRow=false

include hg hn hi in
theorem v60:Qk Tryz.prog 60 [Qh g,.list (sl.map V.sav),.int .i64 (i:Nat)] (.int .i64 (W4 g sl i)):=by
 obtain⟨x,hx⟩:∃x,sl[i]? = some x:=⟨sl[i],QXt hi⟩;have hxm:=QXF hx;have hgi:=Jv hx;have co:=fun n=>TB g hg.len n
 simp only[JZ]at co;have co1:=co x.1;unfold W4;rw[hx];dsimp only;simp only[Qh,PG.cells]at co co1;refine k60.fn (by simp) ?_;simp only[Qh,PG.cells,Qi,QYT,Qb,hgi,QXZ,QX9,eE,seval];refine aC co1 ?_;cases ho:XO g x.1 with
 |none=>
  simp only[QY0,QYh,WW,Qr,PO.cells,splice,QYA,QXP,QX2,QYG,QYv,QXH,QYo,QYD,QYE,AV.leaf,eE,seval]
 |some o=>
  obtain⟨hom,hon⟩:=Zu ho;simp only[QYC,QZe,Qr,PO.cells,splice,QYA,QXP,QX2,QYG,QYv,QXH,QYo,QYD,QYE,AV.leaf,eE,seval];refine Qd (SrI g o sl i x.1) _ ⟨_,_,0,rfl,rfl,QXA _,by simp,(by rfl),(by rfl),(by rfl),(by rfl),(by rfl),(by rfl),(by rfl),(by rfl),by simp<;>rfl⟩ ?_;rintro _ st ⟨f0,fr0,j,rfl,rfl,hji,hq,h10,h20,h30,h70,h90,h100,m30,m70,Z5⟩;refine QJ (a:=_) [11] Z5 ?_;intro f fr hf hm hn11;have h1:f 1=.list (sl.map V.sav):=by rw[hf,h10]<;>rfl
  have h2:f 2=.int .i64 (i:Nat):=by rw[hf,h20]<;>rfl
  have h3:f 3=.ptr 0 3 0:=by rw[hf,h30]<;>rfl
  have h7:f 7=.ptr 0 7 0:=by rw[hf,h70]<;>rfl
  have h9:f 9=.bool ((sl.take j).any (Zr g o)):=by rw[hf,h90]<;>rfl
  have h10':f 10=.int .i64 (j:Nat):=by rw[hf,h100]<;>rfl
  have m3:fr 3=.cells g.cells:=by rw[hm 3 (by decide),m30]<;>rfl
  have m7:fr 7=.cells o.cells:=by rw[hm 7 (by decide),m70]<;>rfl
  have n11:=hn11 11 (by decide);clear hf hm hn11 h10 h20 h30 h70 h90 h100 m30 m70 Z5;have m3':=m3;have m7':=m7;simp only[PG.cells]at m3;simp only[PO.cells]at m7;simp only[h2,h10',Qa,seval];by_cases hlt:j<i
  ·obtain⟨y,hj⟩:∃y,sl[j]? = some y:=⟨sl[j]'(by omega),QXt (by omega)⟩;have hj':(sl.take i)[j]? = some y:=by rw[QX5,QXV hlt];exact hj
   have hgj:=Jv hj;have e1:=Ql j i hlt (by omega);have co2:=co y.1;have ht:∀p:Int×V→Bool,(sl.take (j+1)).any p=((sl.take j).any p||p y):=fun p=>by
    rw[QZa,hj,List.any_append];simp
   have hun:Zr g o y=(o.union != -1&&(((XO g y.1).getD WW).union==o.union)):=rfl;simp only[Qm hlt,Qi,QYT,Qb,hgj,hgi,h1,h2,h10',eE,seval];cases a0:(y.1==x.1)
   ·simp only[Qi,QYT,Qb,hgj,h1,h3,h10',m3,eE,seval];refine aC co2 ?_;generalize (XO g y.1).getD WW=q at hun;generalize (XO g y.1).isSome=qb;have fin:∀(f':Fr) (fr':Nat→Ob) (b:Bool),((sl.take j).any (Zr g o)||Zr g o y)=b→f' 1=.list (sl.map V.sav)→f' 2=.int .i64 (i:Nat)→f' 3=.ptr 0 3 0→f' 7=.ptr 0 7 0→f' 9=.bool b→f' 10=.int .i64 ((j+1:Nat):Int)→fr' 3=.cells g.cells→fr' 7=.cells o.cells→(∀s∈[11],(fr' s).isRow=false)→∃k,k<i-j∧SrI g o sl i x.1 k ⟨f',[fr'],[]⟩:=by
     intro f' fr' b hu b1 b2 b3 b7 b9 b10 c3 c7 c11;exact⟨i-(j+1),by omega,f',fr',j+1,rfl,rfl,by omega,by rw[ht,hq,a0];rfl,b1,b2,b3,b7,by rw[b9,ht,hu],b10,c3,c7,c11⟩
    cases ab:(sl.take j).any (Zr g o)
    ·rw[ab]at h9 fin;cases a1:(o.union != -1)
     ·rw[a1,QYW]at hun;simp only[Qr,PO.cells,a1,n11,h7,h9,h10',m7,e1,eE,seval];exact fin _ _ false (by rw[hun];rfl) (by exact h1) (by exact h2) (by exact h3) (by exact h7) (by rfl) (by rfl) (by exact m3') (by exact m7') (by simp<;>rfl)
     ·cases a2:(q.union==o.union)
      ·rw[a1,a2,QY3]at hun;simp only[Qr,PO.cells,a1,a2,n11,h7,h9,h10',m7,e1,eE,seval];exact fin _ _ false (by rw[hun];rfl) (by exact h1) (by exact h2) (by exact h3) (by exact h7) (by rfl) (by rfl) (by exact m3') (by exact m7') (by simp<;>rfl)
      ·rw[a1,a2,QY3]at hun;simp only[Qr,PO.cells,a1,a2,n11,h7,h9,h10',m7,e1,eE,seval];exact fin _ _ true (by rw[hun];rfl) (by exact h1) (by exact h2) (by exact h3) (by exact h7) (by rfl) (by rfl) (by exact m3') (by exact m7') (by simp<;>rfl)
    ·rw[ab]at h9 fin;simp only[Qr,PO.cells,n11,h9,h10',e1,eE,seval];exact fin _ _ true (by simp) (by exact h1) (by exact h2) (by exact h3) (by exact h7) (by rfl) (by rfl) (by exact m3') (by exact m7') (by simp<;>rfl)
   ·have hany:(sl.take i).any (fun y=>y.1==x.1)=true:=QZg.2 ⟨y,QXF hj',a0⟩;simp only[hany,Qa,seval]
  ·have e:j=i:=by omega
   subst e;simp only[Qw hlt,hq,QXL,h9,Qa,seval];cases hb:(sl.take j).any (Zr g o)
   ·rw[hb]at h9;simp only[QXL,Qa,seval]
   ·rw[hb]at h9;simp only[Qa,seval]

end

def Wi (P:PL)(o:PO)(f:R):Bool:=o.kind==9&&o.card != 5&&f.wire==0&&decide ((f.bits:Int)≤2147483647) && !Z3 P.enums o.target f.bits
theorem R7 (P:PL)(g:PG)(f:R):(!YN P g f)=((XO g f.num).isSome && !Wi P ((XO g f.num).getD WW) f):=by
 unfold YN Wi;cases XO g f.num<;>rfl
def BQ (f:R):Bool:=decide (f.num<1)||decide (f.num > 65535)||decide (f.wire<0)||decide (f.wire > 6)
def BR (f:R):Bool:=decide (f.wire≤2) && !(f.data==[])||decide (f.wire > 2) && !((f.bits:Int)==0)
def HJ (f:R):Bool:=f.wire==3&&decide ((f.data.length:Int) > 4096)||decide ((f.data.length:Int) > 65536)
theorem Vn (P:PL)(g:PG)(f:R):JR P g f=if BQ f=true then 1 else if BR f=true then 1 else if (!YN P g f)=true then 1 else if HJ f=true then 3 else 0:=rfl
def U1 (P:PL)(g:PG)(f:R):Bool:=!BQ f && !BR f&&YN P g f
theorem Py (P:PL)(g:PG)(f:R):JR P g f=if (!U1 P g f)=true then 1 else if HJ f=true then 3 else 0:=by
 rw[Vn];unfold U1;cases BQ f<;>cases BR f<;>cases YN P g f<;>simp

section
variable {M:Nat}{P:PL}(hP:P.ok M)

include hP in
theorem R8 (o:PO)(w:R)(n7 n9:Bool)(f:Fr)(fr:Nat→Ob)(h3:f 3=.ptr 0 3 0)(h5:f 5=.ptr 0 5 0)(h7:f 7=.bool n7)(h8:f 8=.ptr 0 8 0)(h9:f 9=.bool n9)
  (m3:fr 3=.cells [.list (P.progs.map Qh),.list (P.enums.map Qq)]) (m5:fr 5=.cells [.int .i64 w.num,.int .i64 w.wire,.int .u64 (w.bits:Nat),.str w.data]) (m8:fr 8=.cells o.cells) (Q:St→Prop)
  (hQ:∀f,f 5=.ptr 0 5 0→f 7=.bool n7→f 9=.bool n9→f 10=.bool (Wi P o w)→Q ⟨f,[fr],[]⟩):QD Tryz.prog YE ⟨f,[fr],[]⟩ Q:=by
 have e0:P.av=.agg [.list (P.progs.map Qh),.list (P.enums.map Qq)]:=rfl;have ha:=QwS P hP o.target w.bits;rw[e0]at ha;simp only[PO.cells]at m8;unfold Wi at hQ;cases a1:(o.kind==9)
 ·rw[a1]at hQ;simp only[QYW]at hQ;simp only[YE,a1,h8,m8,eE,seval];exact hQ _ (by exact h5) (by exact h7) (by exact h9) (by rfl)
 cases a2:(o.card != 5)
 ·rw[a1,a2]at hQ;simp only[QY3,QYW]at hQ;simp only[YE,a1,a2,h8,m8,eE,seval];exact hQ _ (by exact h5) (by exact h7) (by exact h9) (by rfl)
 cases a3:(w.wire==0)
 ·rw[a1,a2,a3]at hQ;simp only[QY3,QYW]at hQ;simp only[YE,a1,a2,a3,h5,h8,m5,m8,eE,seval];exact hQ _ (by exact h5) (by exact h7) (by exact h9) (by rfl)
 cases a4:decide ((w.bits:Int)≤2147483647)
 ·rw[a1,a2,a3,a4]at hQ;simp only[QY3,QYW]at hQ;simp only[YE,a1,a2,a3,a4,h5,h8,m5,m8,eE,seval];exact hQ _ (by exact h5) (by exact h7) (by exact h9) (by rfl)
 rw[a1,a2,a3,a4]at hQ;simp only[QY3]at hQ;simp only[YE,a1,a2,a3,a4,h3,h5,h8,m3,m5,m8,eE,seval];refine aC ha ?_;simp only[Qa,seval];exact hQ _ (by exact h5) (by exact h7) (by exact h9) (by rfl)

include hP in
theorem v94 (g:PG)(hg:g.ok M)(w:R):Qk Tryz.prog 94 [P.av,Qh g,w.av] (.int .i64 (JR P g w)):=by
 have e0:P.av=.agg [.list (P.progs.map Qh),.list (P.enums.map Qq)]:=rfl;have co:=Tw g hg.len w.num;rw[JZ]at co;simp only[Qh,PG.cells]at co;have nd:(w.data != [])=!(w.data==[]):=rfl;have nb:((w.bits:Int) != 0)=!((w.bits:Int)==0):=rfl;have hgt:decide (w.wire > 2)=!decide (w.wire≤2):=(by rw[QYm];simp only[QXx,QYq,QZj];omega);rw[Vn,R7];unfold BQ BR HJ;rw[hgt];refine k94.fn (by simp) ?_;simp only[r94,Tq,Tr,Ts,o94,e0,Qh,PG.cells,R.av,eE,seval];refine aC co ?_;generalize (XO g w.num).getD WW=q;generalize (XO g w.num).isSome=kb;simp only[Qr,PO.cells,splice,QYA,QXP,QX2,QYG,QYv,QXH,QYo,QYD,QYE,AV.leaf,eE,seval];refine R8 hP q w (decide (w.wire≤2)) kb _ _ (by rfl) (by rfl) (by rfl) (by rfl) (by rfl) (by rfl) (by rfl) (by rfl) _ (fun f h5 h7 h9 h10=>?_);generalize Wi P q w=K at h10 ⊢;simp only[Tt,h5,eE,seval];cases r1:decide (w.num<1)
 case true=>simp only[Gv,QY6,Qa,seval]
 cases r2:decide (w.num > 65535)
 case true=>simp only[r2,Gv,QY6,QY7,h5,eE,seval]
 cases r3:decide (w.wire<0)
 case true=>simp only[r2,r3,Gv,QY6,QY7,h5,eE,seval]
 cases r4:decide (w.wire > 6)
 case true=>simp only[r2,r3,r4,Gv,QY7,h5,eE,seval]
 simp only[r2,r3,r4,QY7,QXL,Tu,h5,h7,eE,seval];cases s1:decide (w.wire≤2)
 ·rw[s1]at h7;cases s2:((w.bits:Int)==0)
  ·simp only[s2,nb,Gw,QYz,QYW,QY7,h5,h7,eE,seval]
  ·cases kb<;>cases K<;>simp only[s2,nb,Gw,V8,QYz,QY4,QYW,QZk,QY7,QXL,h5,h7,h9,h10,eE,seval]
   all_goals(cases t1:(w.wire==3)<;>try simp only[QYW,QY3,QY7,h5,eE,seval])
   all_goals(cases t2:decide ((w.data.length:Int) > 4096)<;>try simp only[V9,QY7,QY6,h5,eE,seval])
   all_goals(cases t3:decide ((w.data.length:Int) > 65536)<;>try simp only[Bj,QXL,Qa,seval])
 ·rw[s1]at h7;cases s2:(w.data==[])
  ·simp only[s2,QI,Gw,QYz,QY4,QYW,QY6,h5,eE,seval]
  ·cases kb<;>cases K<;>simp only[s2,QI,Gw,V8,QYz,QY4,QYW,QZk,QY7,QXL,h5,h7,h9,h10,eE,seval]
   all_goals(cases t1:(w.wire==3)<;>try simp only[QYW,QY3,QY7,h5,eE,seval])
   all_goals(cases t2:decide ((w.data.length:Int) > 4096)<;>try simp only[V9,QY7,QY6,h5,eE,seval])
   all_goals(cases t3:decide ((w.data.length:Int) > 65536)<;>try simp only[Bj,QXL,Qa,seval])

theorem Pz {o:PO}{x:PE}(w:R)(ho:0≤o.target∧o.target<(P.enums.length:Int))(hx:P.enums[o.target.toNat]? = some x)(hopn:x.opn=true):Wi P o w=false:=by
 unfold Wi;cases hb:decide ((w.bits:Int)≤2147483647)
 ·simp
 ·have:Z3 P.enums o.target w.bits=true:=by
   unfold Z3;rw[QXV ⟨ho.1,ho.2,by have:=of_decide_eq_true hb;omega⟩,hx];simp[hopn]
  rw[this];simp

set_option maxHeartbeats 2000000 in
include hP in
theorem v63 (g:PG)(hg:g.ok M)(hu:∀o∈g.ops,UO P o)(w:R):Qk Tryz.prog 63 [P.av,Qh g,w.av] (.bool (U1 P g w)):=by
 have e0:P.av=.agg [.list (P.progs.map Qh),.list (P.enums.map Qq)]:=rfl;have co:=TB g hg.len w.num;rw[JZ]at co;simp only[Qh,PG.cells]at co;have nd:(w.data != [])=!(w.data==[]):=rfl;have nb:((w.bits:Int) != 0)=!((w.bits:Int)==0):=rfl;have hgt:decide (w.wire > 2)=!decide (w.wire≤2):=(by rw[QYm];simp only[QXx,QYq,QZj];omega);unfold U1 BQ BR;rw[hgt];refine k63.fn (by simp) ?_;simp only[e0,Qh,PG.cells,R.av,eE,seval];cases r1:decide (w.num<1)
 case true=>simp only[QY6,QY4,QYW,Qa,seval]
 cases r2:decide (w.num > 65535)
 case true=>simp only[r2,QY6,QY7,QY4,QYW,eE,seval]
 cases r3:decide (w.wire<0)
 case true=>simp only[r2,r3,QY6,QY7,QY4,QYW,eE,seval]
 cases r4:decide (w.wire > 6)
 case true=>simp only[r2,r3,r4,QY7,QY4,QYW,eE,seval]
 simp only[r2,r3,r4,QY7,QYz,QY3,eE,seval];cases s1:decide (w.wire≤2)<;>cases s2:((w.bits:Int)==0)<;>cases s3:(w.data==[])
 all_goals(simp only[hgt,s1,s2,s3,nb,QI,QYz,QY4,QY3,QYF,QZk,QYW,QY7,QZl,eE,seval])
 all_goals(
  refine aC co ?_;unfold YN;cases ho:XO g w.num with
  |none=>
   simp only[QY0,QYh,WW,Qr,PO.cells,splice,QYA,QXP,QX2,QYG,QYv,QXH,QYo,QYD,QYE,AV.leaf,eE,seval]
  |some o=>
   have hom:=(Zu ho).1;have hu:=hu o hom;have ha:=QwT P hP o.target w.bits;rw[e0]at ha;simp only[QYC,QZe,Qr,PO.cells,splice,QYA,QXP,QX2,QYG,QYv,QXH,QYo,QYD,QYE,AV.leaf,eE,seval];by_cases hk:o.kind=9
   ·have a1:(o.kind==9)=true:=by simp[hk]
    obtain⟨t0,t1⟩:=hu.enm hk;obtain⟨i,hi⟩:=QY5 t0;have hlt:i<P.enums.length:=by omega
    obtain⟨x,hx⟩:∃x,P.enums[i]? = some x:=⟨P.enums[i],QXt hlt⟩;have hxa:(P.enums.map Qq)[i]? = some (.agg x.cells):=by simp[hx,Qq]
    simp only[PE.cells]at hxa;have hop:x.opn=true→Wi P o w=false:=fun h=>Pz w ⟨t0,t1⟩ (by rw[hi,QYT];exact hx) h
    unfold Wi at hop;rw[hi]at ha hop;rw[hi];rw[a1,QY3]at hop;simp only[a1,Qi,QYT,Qb,hxa,QY3,eE,seval];cases ax:x.opn
    ·cases a2:(o.card != 5)
     ·simp only[a2,QYz,QYW,eE,seval]
     cases a3:(w.wire==0)
     ·simp only[a2,a3,QYz,QY3,QYW,eE,seval]
     cases a4:decide ((w.bits:Int)≤2147483647)
     ·simp only[a2,a3,a4,QYz,QY3,QYW,eE,seval]
     simp only[a2,a3,a4,QYz,QY3,eE,seval];refine aC ha ?_;simp only[Qa,seval]
    ·simp only[hop ax,QY4,Qa,seval]
   ·have a1:(o.kind==9)=false:=by simp[hk]
    simp only[a1,QYW,Qa,seval])

def SeI (v:V)(n:Int)(k:Nat)(st:St):Prop :=
 ∃f fr i,st=⟨f,[fr],[]⟩∧k=v.slots.length-i∧i≤v.slots.length∧(v.slots.take i).any (fun y=>y.1==n)=false∧f 1=.int .i64 n∧f 2=.ptr 0 2 0∧f 5=.int .i64 (i:Nat)∧fr 2=.cells (vc v)

theorem v62 (v:V)(hn:v.slots.length≤maxLen)(n:Int):Qk Tryz.prog 62 [v.av,.int .i64 n] (.bool (v.slots.any fun y=>y.1==n)):=by
 rw[Qs];refine k62.fn (by simp) ?_;simp only[eE,seval];refine Qd (SeI v n) _ ⟨_,_,0,rfl,rfl,QXA _,by simp,(by rfl),(by rfl),(by rfl),(by rfl)⟩ ?_;rintro _ st ⟨f,fr,i,rfl,rfl,hil,hq,h1,h2,h5,m2⟩;have m2':=m2;simp only[vc]at m2;simp only[QYn,h2,h5,m2,eE,seval];by_cases hlt:i<v.slots.length
 ·obtain⟨y,hi⟩:∃y,v.slots[i]? = some y:=⟨v.slots[i],QXt hlt⟩;have hg:=Jv hi;have e1:=Ql i _ hlt hn;have ht:(v.slots.take (i+1)).any (fun y=>y.1==n)=(y.1==n):=by
   rw[QZa,hi,List.any_append,hq];simp
  simp only[Qm hlt,Qi,QYT,Qb,hg,h1,h2,h5,m2,eE,seval];cases a:(y.1==n)
  ·simp only[h5,e1,Qa,seval];exact⟨v.slots.length-(i+1),by omega,_,_,i+1,rfl,rfl,by omega,by rw[ht,a],(by exact h1),(by exact h2),(by rfl),(by exact m2')⟩
  ·have hany:(v.slots.any fun y=>y.1==n)=true:=QZg.2 ⟨y,QXF hi,a⟩;simp only[hany,Qa,seval]
 ·have hq':(v.slots.any fun y=>y.1==n)=false:=by rw[←hq,QX0 (by omega)]
  simp only[Qw hlt,hq',Qa,seval]

theorem v93 (y:Int×V)(o:PO)(frO:Nat→Ob)(hf:frO 12=.cells o.cells) :
  Qg Tryz.prog 93 [V.sav y,.ptr 2 12 0] [Qc,Qc,frO] fun v m1=>v=.bool (y.1==o.num)∧m1=[Qc,Qc,frO]:=by
 simp only[PO.cells]at hf;rw[Zs];refine k93.go (by simp) ?_;simp only[hf,eE,seval]

end
end Go.Proofs.YtipjfckmopekaaaGreatDoor.Va

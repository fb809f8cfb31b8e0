/- Parts of the proof, in order. -/
import Derived.Test.YtfgchfdkiomfpaaGreatProg
import Derived.Test.YtfgchfdkiomfpaaGreatMTagdecOnto2

set_option linter.unusedSimpArgs false
namespace Go.Proofs.YtfgchfdkiomfpaaGreat.Va
open Go Am Rc Bt Br

def JoI (g:PG)(k:Nat)(st:St):Prop :=
 ∃f fr i n b,st=⟨f,[fr],[]⟩∧k=g.ops.length-i∧JS g.ops 0 (-1)=JS (g.ops.drop i) n b∧0≤n∧n≤(i:Int)∧((i=0∧b = -1)∨∃j o,i=j+1∧g.ops[j]? = some o∧b=o.union)∧f 1=.ptr 0 1 0∧f 3=.int .i64 n∧f 4=.int .i64 (i:Nat)∧fr 1=.cells g.cells

theorem z65 (g:PG)(hl:g.ops.length≤9223372036854775000):Qj Tryz.prog 65 [Qp g] (.bool (Wp g)):=by
 refine k65.fn (by simp) ?_;simp only[Qp,PG.cells,eE,seval];refine Qg (JoI g) _ ⟨_,_,0,0,-1,rfl,rfl,rfl,by decide,by decide,.inl ⟨rfl,rfl⟩,(by rfl),(by rfl),(by rfl),(by rfl)⟩ ?_;rintro _ st ⟨f,fr,i,n,b,rfl,rfl,hj,hn0,hni,hb,h1,h3,h4,m1⟩;simp only[PG.cells]at m1;simp only[QPz,h1,h4,m1,eE,seval];by_cases hlt:i<g.ops.length
 ·obtain⟨o,hi⟩:∃o,g.ops[i]? = some o:=⟨g.ops[i],QOH hlt⟩;have hg:(g.ops.map fun o=>AV.agg o.cells)[i]? = some (.agg o.cells):=by simp[hi]
  have e1:=Qx i _ hlt (by simp only[maxLen];omega);have en:IntKind.i64.wrap (n+1)=n+1:=by rw[QA];omega
  rw[Co hi]at hj;have fin:∀(f':Fr) (n':Int),(if o.union=n then n'=n+1 else n'=n)→JS g.ops 0 (-1)=JS (g.ops.drop (i+1)) n' o.union→f' 1=.ptr 0 1 0→f' 3=.int .i64 n'→f' 4=.int .i64 ((i+1:Nat):Int)→∃k,k<g.ops.length-i∧JoI g k ⟨f',[fr],[]⟩:=by
   intro f' n' a c d e f4;refine⟨g.ops.length-(i+1),by omega,f',fr,i+1,n',o.union,rfl,rfl,c,?_,?_,.inr ⟨i,o,rfl,hi,rfl⟩,d,e,f4,m1⟩<;>split at a<;>omega
  simp only[PO.cells]at hg;simp only[Qt hlt,Qm,QP7,Qf,hg,PO.cells,h1,h3,h4,m1,eE,seval];by_cases a1:o.union=n
  ·have b1:(o.union==n)=true:=by simp[a1]
   rw[QO9 a1,←a1]at hj;simp only[b1,h3,h4,en,e1,Qb,seval];exact fin _ (n+1) (by rw[QO9 a1]) (by rw[hj,a1]) (by exact h1) (by rfl) (by rfl)
  have b1:(o.union==n)=false:=by simp[a1]
  rw[QOS a1]at hj;by_cases a2:o.union = -1
  ·have b2:(o.union != -1)=false:=by simp[a2]
   rw[QO9 (.inl a2)]at hj;simp only[b1,b2,h4,e1,Qb,seval];exact fin _ n (by rw[QOS a1]) hj (by exact h1) (by exact h3) (by rfl)
  have b2:(o.union != -1)=true:=by simp[a2]
  rcases hb with⟨rfl,rfl⟩|⟨j,p,rfl,hjp,rfl⟩
  ·have b3:(((0:Nat):Int)==0)=true:=rfl;rw[QOS (by omega)]at hj;have hun:Wp g=false:=by unfold Wp;rw[hj]
   simp only[b1,b2,h4,hun,Qb,seval]
  ·have b3:(((j+1:Nat):Int)==0)=false:=by rw[QQp];omega
   have hgj:(g.ops.map fun o=>AV.agg o.cells)[j]? = some (.agg p.cells):=by simp[hjp]
   have e2:=Dn j _ hlt (by simp only[maxLen];omega);simp only[PO.cells]at hgj;by_cases a4:o.union=p.union
   ·have b4:(p.union != o.union)=false:=by simp[a4]
    rw[QO9 (.inr a4)]at hj;simp only[b1,b2,b3,b4,e2,Qm,QP7,Qf,hgj,PO.cells,h1,h4,m1,e1,eE,seval];exact fin _ n (by rw[QOS a1]) hj (by exact h1) (by exact h3) (by rfl)
   ·have b4:(p.union != o.union)=true:=by simp;exact fun h=>a4 h.symm
    rw[QOS (by omega)]at hj;have hun:Wp g=false:=by unfold Wp;rw[hj]
    simp only[b1,b2,b3,b4,e2,Qm,QP7,Qf,hgj,PO.cells,h1,h4,m1,hun,eE,seval]
 ·rw[QPh (by omega)]at hj;have hun:Wp g=(g.unions==n):=by unfold Wp;rw[hj];rfl
  simp only[QS hlt,h1,h3,m1,hun,eE,seval]

section
variable {M:Nat}(hM:M≤140737488351232)(P:PL)(hP:P.ok M)(fr:Nat→Ob)(m1:fr 1=.cells (Pc P))(f:Fr)(b:Bool)(h1:f 1=.ptr 0 1 0)(h3:f 3=.bool b)(Q:Exit→St→Prop)
include hM hP m1 h1 h3

theorem Qsq (j:Nat)(x:PE)(hj:P.enums[j]? = some x)(ha:f 4=.int .i64 (j:Nat))(hc:f 5=.int .i64 0)(hx:∀f,f 1=.ptr 0 1 0→f 3=.bool (b&&x.items.all Wc)→f 4=.int .i64 (j:Nat)→Q (.exit 2) (⟨f,[fr],[]⟩:St)):QJ Tryz.prog (.loop SY) ⟨f,[fr],[]⟩ Q:=by
 let I:Nat→St→Prop:=fun k st=>∃f i,st=⟨f,[fr],[]⟩∧k=x.items.length-i∧i≤x.items.length∧f 1=.ptr 0 1 0∧f 3=.bool (b&&(x.items.take i).all Wc)∧f 4=.int .i64 (j:Nat)∧f 5=.int .i64 (i:Nat)
 have hjm:(P.enums.map QV)[j]? = some (.agg x.cells):=by simp[hj,QV]
 have hxo:=hP.enums x (QOR hj);have z0:(0≤(0:Int))=True:=by simp
 have z1:Int.toNat 0=0:=rfl;refine Qg I _ ⟨f,0,rfl,rfl,QOM _,h1,by rw[h3];simp,ha,hc⟩ ?_;clear h1 h3 ha hc;simp only[Pc]at m1;simp only[PE.cells]at hjm;rintro _ st ⟨f,i,rfl,rfl,hi,h1,h3,ha,hc⟩;simp only[Qm,QP7,Qf,hjm,QPz,h1,m1,ha,hc,eE,seval];by_cases hlt:i<x.items.length
 ·obtain⟨o,hg⟩:∃o,x.items[i]? = some o:=⟨x.items[i],QOH hlt⟩;have hgm:(x.items.map fun o=>AV.agg o.cells)[i]? = some (.agg o.cells):=by simp[hg]
  have e1:=Qx i _ hlt hxo.len1;have ho:=hxo.items o (QOR hg);have ht:=Xj (q:=Wc) hg;have fin:∀f':Fr,f' 1=.ptr 0 1 0→f' 3=.bool ((b&&(x.items.take i).all Wc)&&Wc o)→f' 4=.int .i64 (j:Nat)→f' 5=.int .i64 ((i+1:Nat):Int)→∃k,k<x.items.length-i∧I k ⟨f',[fr],[]⟩:=by
   intro f' a1 a3 a4 a5;exact⟨x.items.length-(i+1),by omega,f',i+1,rfl,rfl,by omega,a1,by rw[a3,ht,QPq],a4,a5⟩
  simp only[PI.cells]at hgm;cases hb:(b&&(x.items.take i).all Wc)
  ·rw[hb]at fin h3;simp only[Qt hlt,Qm,QP7,Qf,hjm,hgm,PI.cells,h1,m1,h3,ha,hc,e1,eE,seval];exact fin _ (by exact h1) (by rfl) (by exact ha) (by rfl)
  ·rw[hb,QQk]at fin;rw[hb]at h3;rcases hn:o.notes with _|⟨n,_|⟨n2,ns⟩⟩
   ·have c0:(((0:Nat):Int)==0)=true:=rfl;have e:Wc o=true:=by unfold Wc;rw[hn]
    rw[e]at fin;rw[hn]at hgm;simp only[Qt hlt,Qm,QP7,Qf,hjm,hgm,PI.cells,QPG,QPA,h1,m1,h3,ha,hc,e1,eE,seval];exact fin _ (by exact h1) (by rfl) (by exact ha) (by rfl)
   ·obtain⟨kd,b',t,l,p,s,r,hv,htl,h3',h4',h5',h6'⟩:=QDl (ho.notes n (by rw[hn];simp)) hM;have c0:(((1:Nat):Int)==0)=false:=rfl;have c1:(((1:Nat):Int)==1)=true:=rfl;have e:Wc o=(n.name==alias&&Zn 7 kd b' t l p s r):=by
     unfold Wc;rw[hn];show(n.name==alias&&nok n.val)=_;rw[hv];rfl
    have en:ZK n.cells=.agg [.str n.name,.int .i64 kd,.int .u64 ((b':Nat):Int),.str t,.list l,.list p,.list s,.list r]:=by
     rw[PN.cells,hv];rfl
    have hne:(n.name==[97,108,105,97,115])=(n.name==alias):=rfl;have hck:=z64 kd b' t l p s r (by simp only[maxLen];omega);simp only[nv]at hck;rw[e]at fin;rw[hn]at hgm;simp only[QPc,QPG,en]at hgm;simp only[Qt hlt,Qm,QP7,Qf,hjm,hgm,PI.cells,QOT,QPA,QPm,z0,z1,QPH,Q2,hne,h1,m1,h3,ha,hc,eE,seval];by_cases hal:n.name=alias
    ·have b0:(n.name==alias)=true:=by simp[hal]
     rw[←hal]at hck;rw[b0,QQk]at fin;simp only[b0,Qb,seval];refine Qa hck rfl rfl rfl (.inl rfl) ?_;cases hfv:Zn 7 kd b' t l p s r
     ·rw[hfv]at fin;have d0:((12:Int)==0)=false:=rfl;simp only[QOX,d0,hc,e1,Qb,seval];exact fin _ (by exact h1) (by rfl) (by exact ha) (by rfl)
     ·rw[hfv]at fin;have d0:((0:Int)==0)=true:=rfl;simp only[d0,hc,e1,Qb,seval];exact fin _ (by exact h1) (by rfl) (by exact ha) (by rfl)
    ·have b0:(n.name==alias)=false:=by simp[hal]
     rw[b0,QQa]at fin;simp only[b0,hc,e1,Qb,seval];exact fin _ (by exact h1) (by rfl) (by exact ha) (by rfl)
   ·have c0:((((ns.length+1+1:Nat)):Int)==0)=false:=by rw[QQp];omega
    have c1:((((ns.length+1+1:Nat)):Int)==1)=false:=by rw[QQp];omega
    have e:Wc o=false:=by unfold Wc;rw[hn]
    rw[e]at fin;rw[hn]at hgm;simp only[QPc]at hgm;simp only[Qt hlt,Qm,QP7,Qf,hjm,hgm,PI.cells,QOT,QPz,c0,c1,h1,m1,h3,ha,hc,e1,eE,seval];exact fin _ (by exact h1) (by rfl) (by exact ha) (by rfl)
 ·have hf:(x.items.take i).all Wc=x.items.all Wc:=by rw[QPe (by omega)]
  rw[hf]at h3;simp only[QS hlt,Qb,seval];exact hx _ (by exact h1) (by exact h3) (by exact ha)

theorem QJY (ha:f 4=.int .i64 0)(hx:∀f,f 1=.ptr 0 1 0→f 3=.bool (b&&P.enums.all Yp)→Q (.exit 0) (⟨f,[fr],[]⟩:St)):QJ Tryz.prog (.loop SZ) ⟨f,[fr],[]⟩ Q:=by
 let I:Nat→St→Prop:=fun k st=>∃f i,st=⟨f,[fr],[]⟩∧k=P.enums.length-i∧i≤P.enums.length∧f 1=.ptr 0 1 0∧f 3=.bool (b&&(P.enums.take i).all Yp)∧f 4=.int .i64 (i:Nat)
 have m1':=m1;refine Qg I _ ⟨f,0,rfl,rfl,QOM _,h1,by rw[h3];simp,ha⟩ ?_;clear h1 h3 ha;simp only[Pc]at m1;rintro _ st ⟨f,i,rfl,rfl,hi,h1,h3,ha⟩;simp only[QPz,h1,m1,ha,eE,seval];by_cases hlt:i<P.enums.length
 ·obtain⟨x,hg⟩:∃x,P.enums[i]? = some x:=⟨P.enums[i],QOH hlt⟩;have hgm:(P.enums.map QV)[i]? = some (.agg x.cells):=by simp[hg,QV]
  have e1:=Qx i _ hlt hP.len2;have ht:=Xj (q:=Yp) hg;have hq:Yp x=(x.notes.isEmpty&&x.items.all Wc):=rfl;have hie:((x.notes.length:Int)==0)=x.notes.isEmpty:=by
   cases x.notes with
   |nil=>rfl
   |cons a l=>simp;omega
  have fin:∀f':Fr,f' 1=.ptr 0 1 0→f' 3=.bool (((b&&(P.enums.take i).all Yp)&&x.notes.isEmpty)&&x.items.all Wc)→f' 4=.int .i64 ((i+1:Nat):Int)→∃k,k<P.enums.length-i∧I k ⟨f',[fr],[]⟩:=by
   intro f' a1 a3 a4;exact⟨P.enums.length-(i+1),by omega,f',i+1,rfl,rfl,by omega,a1,by rw[a3,ht,hq,QPq,QPq],a4⟩
  simp only[PE.cells]at hgm;cases hb:(b&&(P.enums.take i).all Yp)
  ·rw[hb,QQa]at fin;rw[hb]at h3;simp only[Qt hlt,h3,Qb,seval];refine Qsq hM P hP fr m1' _ false (by exact h1) (by rfl) _ i x hg (by exact ha) (by rfl) (fun f h1 h3 ha=>?_);simp only[ha,e1,Qb,seval];exact fin _ (by exact h1) (by exact h3) (by rfl)
  ·rw[hb,QQk]at fin;rw[hb]at h3;simp only[Qt hlt,Qm,QP7,Qf,hgm,QPz,hie,h1,m1,h3,ha,eE,seval];refine Qsq hM P hP fr m1' _ x.notes.isEmpty (by exact h1) (by rfl) _ i x hg (by exact ha) (by rfl) (fun f h1 h3 ha=>?_);simp only[ha,e1,Qb,seval];exact fin _ (by exact h1) (by exact h3) (by rfl)
 ·have hf:(P.enums.take i).all Yp=P.enums.all Yp:=by rw[QPe (by omega)]
  rw[hf]at h3;simp only[QS hlt,Qb,seval];exact hx _ (by exact h1) (by exact h3)

theorem Qsr (j:Nat)(x:PG)(hj:P.progs[j]? = some x)(ha:f 7=.int .i64 (j:Nat))(hc:f 8=.int .i64 0)(hx:∀f,f 1=.ptr 0 1 0→f 3=.bool (b&&x.ops.all fun o=>Js P o&&KJ o)→f 7=.int .i64 (j:Nat)→Q (.exit 6) (⟨f,[fr],[]⟩:St)):QJ Tryz.prog (.loop S0) ⟨f,[fr],[]⟩ Q:=by
 let I:Nat→St→Prop:=fun k st=>∃f i,st=⟨f,[fr],[]⟩∧k=x.ops.length-i∧i≤x.ops.length∧f 1=.ptr 0 1 0∧f 3=.bool (b&&(x.ops.take i).all fun o=>Js P o&&KJ o)∧f 7=.int .i64 (j:Nat)∧f 8=.int .i64 (i:Nat)
 have hjm:(P.progs.map Qp)[j]? = some (.agg x.cells):=by simp[hj,Qp]
 have hxo:=hP.progs x (QOR hj);refine Qg I _ ⟨f,0,rfl,rfl,QOM _,h1,by rw[h3];simp,ha,hc⟩ ?_;clear h1 h3 ha hc;simp only[Pc]at m1;simp only[PG.cells]at hjm;rintro _ st ⟨f,i,rfl,rfl,hi,h1,h3,ha,hc⟩;simp only[Qm,QP7,Qf,hjm,QPz,h1,m1,ha,hc,eE,seval];by_cases hlt:i<x.ops.length
 ·obtain⟨o,hg⟩:∃o,x.ops[i]? = some o:=⟨x.ops[i],QOH hlt⟩;have hgm:(x.ops.map fun o=>AV.agg o.cells)[i]? = some (.agg o.cells):=by simp[hg]
  have e1:=Qx i _ hlt hxo.len;have hal:o.alias.length+8≤maxLen:=by have:=(hxo.ops o (QOR hg)).alias;simp only[maxLen];omega
  have hop:Qj Tryz.prog 66 [.agg [.list (P.progs.map Qp),.list (P.enums.map QV)],Qy o] (.bool (Js P o&&KJ o)):=z66 P o hal;have ht:=Xj (q:=fun o=>Js P o&&KJ o) hg;have fin:∀f':Fr,f' 1=.ptr 0 1 0→f' 3=.bool ((b&&(x.ops.take i).all fun o=>Js P o&&KJ o)&&(Js P o&&KJ o))→f' 7=.int .i64 (j:Nat)→f' 8=.int .i64 ((i+1:Nat):Int)→∃k,k<x.ops.length-i∧I k ⟨f',[fr],[]⟩:=by
   intro f' a1 a3 a4 a5;exact⟨x.ops.length-(i+1),by omega,f',i+1,rfl,rfl,by omega,a1,by rw[a3,ht,QPq],a4,a5⟩
  simp only[Qy,PO.cells]at hgm hop;cases hb:(b&&(x.ops.take i).all fun o=>Js P o&&KJ o)
  ·rw[hb]at fin h3;simp only[Qt hlt,PO.cells,h3,hc,e1,Qb,seval];exact fin _ (by exact h1) (by rfl) (by exact ha) (by rfl)
  ·rw[hb,QQk]at fin;rw[hb]at h3;simp only[Qt hlt,Qm,QP7,Qf,hjm,hgm,PO.cells,h1,m1,h3,ha,hc,eE,seval];refine Qa hop rfl rfl rfl (.inl rfl) ?_;simp only[hc,e1,Qb,seval];exact fin _ (by exact h1) (by rfl) (by exact ha) (by rfl)
 ·have hf:(x.ops.take i).all (fun o=>Js P o&&KJ o)=x.ops.all fun o=>Js P o&&KJ o:=by rw[QPe (by omega)]
  rw[hf]at h3;simp only[QS hlt,Qb,seval];exact hx _ (by exact h1) (by exact h3) (by exact ha)

theorem QJZ (hl:∀g∈P.progs,g.ops.length≤64)(ha:f 7=.int .i64 0)(hx:∀f,f 1=.ptr 0 1 0→f 3=.bool (b&&P.progs.all (KB P))→Q (.exit 4) (⟨f,[fr],[]⟩:St)):QJ Tryz.prog (.loop S1) ⟨f,[fr],[]⟩ Q:=by
 let I:Nat→St→Prop:=fun k st=>∃f i,st=⟨f,[fr],[]⟩∧k=P.progs.length-i∧i≤P.progs.length∧f 1=.ptr 0 1 0∧f 3=.bool (b&&(P.progs.take i).all (KB P))∧f 7=.int .i64 (i:Nat)
 have m1':=m1;refine Qg I _ ⟨f,0,rfl,rfl,QOM _,h1,by rw[h3];simp,ha⟩ ?_;clear h1 h3 ha;simp only[Pc]at m1;rintro _ st ⟨f,i,rfl,rfl,hi,h1,h3,ha⟩;simp only[QPz,h1,m1,ha,eE,seval];by_cases hlt:i<P.progs.length
 ·obtain⟨x,hg⟩:∃x,P.progs[i]? = some x:=⟨P.progs[i],QOH hlt⟩;have hgm:(P.progs.map Qp)[i]? = some (.agg x.cells):=by simp[hg,Qp]
  have e1:=Qx i _ hlt hP.len1;have ht:=Xj (q:=KB P) hg;have hq:KB P x=(Wp x&&x.ops.all fun o=>Js P o&&KJ o):=rfl;have hjo:=z65 x (QOF (hl x (QOR hg)) (by decide));have fin:∀f':Fr,f' 1=.ptr 0 1 0→f' 3=.bool (((b&&(P.progs.take i).all (KB P))&&Wp x)&&x.ops.all fun o=>Js P o&&KJ o)→f' 7=.int .i64 ((i+1:Nat):Int)→∃k,k<P.progs.length-i∧I k ⟨f',[fr],[]⟩:=by
   intro f' a1 a3 a4;exact⟨P.progs.length-(i+1),by omega,f',i+1,rfl,rfl,by omega,a1,by rw[a3,ht,hq,QPq,QPq],a4⟩
  simp only[Qp,PG.cells]at hgm hjo;cases hb:(b&&(P.progs.take i).all (KB P))
  ·rw[hb,QQa]at fin;rw[hb]at h3;simp only[Qt hlt,h3,Qb,seval];refine Qsr hM P hP fr m1' _ false (by exact h1) (by rfl) _ i x hg (by exact ha) (by rfl) (fun f h1 h3 ha=>?_);simp only[ha,e1,Qb,seval];exact fin _ (by exact h1) (by exact h3) (by rfl)
  ·rw[hb,QQk]at fin;rw[hb]at h3;simp only[Qt hlt,Qm,QP7,Qf,hgm,h1,m1,h3,ha,eE,seval];refine Qa hjo rfl rfl rfl (.inl rfl) ?_;simp only[Qb,seval];refine Qsr hM P hP fr m1' _ (Wp x) (by exact h1) (by rfl) _ i x hg (by exact ha) (by rfl) (fun f h1 h3 ha=>?_);simp only[ha,e1,Qb,seval];exact fin _ (by exact h1) (by exact h3) (by rfl)
 ·have hf:(P.progs.take i).all (KB P)=P.progs.all (KB P):=by rw[QPe (by omega)]
  rw[hf]at h3;simp only[QS hlt,Qb,seval];exact hx _ (by exact h1) (by exact h3)

end

theorem z33 {M:Nat}(hM:M≤140737488351232)(P:PL)(hP:P.ok M)(hl:∀g∈P.progs,g.ops.length≤64):Qj Tryz.prog 33 [P.av] (.bool (args P)):=by
 have e0:P.av=.agg [.list (P.progs.map Qp),.list (P.enums.map QV)]:=rfl;have e:args P=(P.enums.all Yp&&P.progs.all (KB P)):=Bool.and_comm _ _;refine k33.fn (by simp) ?_;simp only[e0,eE,seval];refine QJY hM P hP _ (by rfl) _ true (by rfl) (by rfl) _ (by rfl) (fun f h1 h3=>?_);simp only[Qb,seval];refine QJZ hM P hP _ (by rfl) _ _ (by exact h1) (by exact h3) _ hl (by rfl) (fun f h1 h3=>?_);simp only[h3,e,QQk,Qb,seval]

section
variable {M:Nat}(P:PL)(hP:P.ok M)(fr:Nat→Ob)(m1:fr 1=.cells (Pc P))(f:Fr)(b:Bool)(h1:f 1=.ptr 0 1 0)(h3:f 3=.bool b)(Q:Exit→St→Prop)
include hP m1 h1 h3

theorem QJ0 (j:Nat)(x:PG)(hj:P.progs[j]? = some x)(ha:f 4=.int .i64 (j:Nat))(hc:f 5=.int .i64 0)(hx:∀f,f 1=.ptr 0 1 0→f 3=.bool (b&&x.ops.all JY)→f 4=.int .i64 (j:Nat)→Q (.exit 2) (⟨f,[fr],[]⟩:St)):QJ Tryz.prog (.loop Tl) ⟨f,[fr],[]⟩ Q:=by
 let I:Nat→St→Prop:=fun k st=>∃f i,st=⟨f,[fr],[]⟩∧k=x.ops.length-i∧i≤x.ops.length∧f 1=.ptr 0 1 0∧f 3=.bool (b&&(x.ops.take i).all JY)∧f 4=.int .i64 (j:Nat)∧f 5=.int .i64 (i:Nat)
 have hjm:(P.progs.map Qp)[j]? = some (.agg x.cells):=by simp[hj,Qp]
 have hxo:=hP.progs x (QOR hj);refine Qg I _ ⟨f,0,rfl,rfl,QOM _,h1,by rw[h3];simp,ha,hc⟩ ?_;clear h1 h3 ha hc;simp only[Pc]at m1;simp only[PG.cells]at hjm;rintro _ st ⟨f,i,rfl,rfl,hi,h1,h3,ha,hc⟩;simp only[Qm,QP7,Qf,hjm,QPz,h1,m1,ha,hc,eE,seval];by_cases hlt:i<x.ops.length
 ·obtain⟨o,hg⟩:∃o,x.ops[i]? = some o:=⟨x.ops[i],QOH hlt⟩;have hgm:(x.ops.map fun o=>AV.agg o.cells)[i]? = some (.agg o.cells):=by simp[hg]
  have e1:=Qx i _ hlt hxo.len;have ht:=Xj (q:=JY) hg;have hq:JY o=(decide (o.num≥1)&&decide (o.num≤65535)):=rfl;have fin:∀f':Fr,f' 1=.ptr 0 1 0→f' 3=.bool ((b&&(x.ops.take i).all JY)&&JY o)→f' 4=.int .i64 (j:Nat)→f' 5=.int .i64 ((i+1:Nat):Int)→∃k,k<x.ops.length-i∧I k ⟨f',[fr],[]⟩:=by
   intro f' a1 a3 a4 a5;exact⟨x.ops.length-(i+1),by omega,f',i+1,rfl,rfl,by omega,a1,by rw[a3,ht,QPq],a4,a5⟩
  simp only[PO.cells]at hgm;cases hb:(b&&(x.ops.take i).all JY)
  ·rw[hb]at fin h3;simp only[Qt hlt,Qm,QP7,Qf,hjm,hgm,PO.cells,h1,m1,h3,ha,hc,e1,eE,seval];exact fin _ (by exact h1) (by rfl) (by exact ha) (by rfl)
  ·rw[hb,QQk,hq]at fin;rw[hb]at h3;cases a1:decide (o.num≥1)
   ·rw[a1]at fin;simp only[Qt hlt,Qm,QP7,Qf,hjm,hgm,PO.cells,a1,h1,m1,h3,ha,hc,e1,eE,seval];exact fin _ (by exact h1) (by rfl) (by exact ha) (by rfl)
   ·rw[a1,QQk]at fin;simp only[Qt hlt,Qm,QP7,Qf,hjm,hgm,PO.cells,a1,h1,m1,h3,ha,hc,e1,eE,seval];exact fin _ (by exact h1) (by rfl) (by exact ha) (by rfl)
 ·have hf:(x.ops.take i).all JY=x.ops.all JY:=by rw[QPe (by omega)]
  rw[hf]at h3;simp only[QS hlt,Qb,seval];exact hx _ (by exact h1) (by exact h3) (by exact ha)

theorem QJ1 (ha:f 4=.int .i64 0)(hx:∀f,f 1=.ptr 0 1 0→f 3=.bool (b&&P.progs.all fun g=>g.ops.all JY)→Q (.exit 0) (⟨f,[fr],[]⟩:St)):QJ Tryz.prog (.loop Tm) ⟨f,[fr],[]⟩ Q:=by
 let I:Nat→St→Prop:=fun k st=>∃f i,st=⟨f,[fr],[]⟩∧k=P.progs.length-i∧i≤P.progs.length∧f 1=.ptr 0 1 0∧f 3=.bool (b&&(P.progs.take i).all fun g=>g.ops.all JY)∧f 4=.int .i64 (i:Nat)
 have m1':=m1;refine Qg I _ ⟨f,0,rfl,rfl,QOM _,h1,by rw[h3];simp,ha⟩ ?_;clear h1 h3 ha;simp only[Pc]at m1;rintro _ st ⟨f,i,rfl,rfl,hi,h1,h3,ha⟩;simp only[QPz,h1,m1,ha,eE,seval];by_cases hlt:i<P.progs.length
 ·obtain⟨x,hg⟩:∃x,P.progs[i]? = some x:=⟨P.progs[i],QOH hlt⟩;have e1:=Qx i _ hlt hP.len1;have ht:=Xj (q:=fun g:PG=>g.ops.all JY) hg;simp only[Qt hlt,Qb,seval];refine QJ0 P hP fr m1' _ (b&&(P.progs.take i).all fun g=>g.ops.all JY) (by exact h1) (by exact h3) _ i x hg (by exact ha) (by rfl) (fun f h1 h3 ha=>?_);simp only[ha,e1,Qb,seval];exact⟨P.progs.length-(i+1),by omega,_,i+1,rfl,rfl,by omega,(by exact h1),by rw[ht,←QPq]<;>first|exact h3|simp only[h3,eE,seval],(by rfl)⟩
 ·have hf:(P.progs.take i).all (fun g=>g.ops.all JY)=P.progs.all fun g=>g.ops.all JY:=by rw[QPe (by omega)]
  rw[hf]at h3;simp only[QS hlt,Qb,seval];exact hx _ (by exact h1) (by exact h3)

end

def Hn (x:PE)(i:Nat):Bool:=match x.items[i]? with
 |some o=>(i != 0||o.num==0)&&Dm x o
 |none=>true

theorem LZ (x:PE):QM (Hn x) x.items.length=(HG x&&x.items.all (Dm x)):=by
 rw[QQv,QO2,ZQ,QOQ]
 constructor
 ·intro h;refine⟨?_,fun o ho=>?_⟩
  ·unfold HG;cases hi:x.items with
   |nil=>rfl
   |cons a l=>
    have:=h 0 (by rw[hi];simp);unfold Hn at this;rw[hi]at this;simp only[QPH,QO2]at this
    simpa using this.1
  ·obtain⟨i,hi⟩:=QOP.1 ho;have:=h i (QOG.1 hi).1;unfold Hn at this;rw[hi]at this;simp only[QO2]at this;exact this.2
 ·rintro⟨h1,h2⟩ i _;unfold Hn;cases hg:x.items[i]? with
  |none=>rfl
  |some o=>
   simp only[QO2];refine⟨?_,h2 o (QOR hg)⟩;cases i with
   |zero=>
    unfold HG at h1;cases hx:x.items with
    |nil=>rw[hx]at hg;cases hg
    |cons a l=>
     rw[hx]at h1 hg;cases hg
     simpa using h1
   |succ k=>rfl

section
variable (x:PE)(hl1:x.items.length≤maxLen)(hl:x.free.length≤maxLen)(P:PL)(f:Fr)(b:Bool)(j:Nat)(fr:Nat→Ob)(h1:f 1=.ptr 0 1 0)(h3:f 3=.bool b)(h7:f 7=.int .i64 (j:Nat))(h8:f 8=.ptr 0 8 0)(m1:fr 1=.cells (Pc P))(m8:fr 8=.cells x.cells)(Q:Exit→St→Prop)
include hl1 hl h1 h3 h7 h8 m8

theorem Pr (hc:f 9=.int .i64 0)(hx:∀f,f 1=.ptr 0 1 0→f 3=.bool (b&&(HG x&&x.items.all (Dm x)))→f 7=.int .i64 (j:Nat)→f 8=.ptr 0 8 0→Q (.exit 6) (⟨f,[fr],[]⟩:St)):QJ Tryz.prog (.loop Tn) ⟨f,[fr],[]⟩ Q:=by
 let I:Nat→St→Prop:=fun k st=>∃f i,st=⟨f,[fr],[]⟩∧k=x.items.length-i∧i≤x.items.length∧f 1=.ptr 0 1 0∧f 3=.bool (b&&QM (Hn x) i)∧f 7=.int .i64 (j:Nat)∧f 8=.ptr 0 8 0∧f 9=.int .i64 (i:Nat)
 refine Qg I _ ⟨f,0,rfl,rfl,QOM _,h1,by rw[h3];simp[QM],h7,h8,hc⟩ ?_;clear h1 h3 h7 h8 hc;simp only[PE.cells]at m8;rintro _ st ⟨f,i,rfl,rfl,hi,h1,h3,h7,h8,hc⟩;simp only[QPz,m8,h8,hc,eE,seval];by_cases hlt:i<x.items.length
 ·obtain⟨o,hg⟩:∃o,x.items[i]? = some o:=⟨x.items[i],QOH hlt⟩;have hgm:(x.items.map fun o=>AV.agg o.cells)[i]? = some (.agg o.cells):=by simp[hg]
  have e1:=Qx i _ hlt hl1;have ht:=JB b (Hn x) i;have hr:Qj Tryz.prog 63 [.list (x.free.map fun n=>AV.agg n.cells),.int .i64 o.num] (.bool (kept x.free o.num)):=z63 x.free hl o.num;have hq:Hn x i=((i != 0||o.num==0)&&(decide (o.num≤2147483647) && !kept x.free o.num)):=by unfold Hn;rw[hg];rfl
  rw[hq]at ht;have fin:∀(f':Fr) (v:Bool),((b&&QM (Hn x) i)&&((i != 0||o.num==0)&&(decide (o.num≤2147483647) && !kept x.free o.num)))=v→f' 1=.ptr 0 1 0→f' 3=.bool v→f' 7=.int .i64 (j:Nat)→f' 8=.ptr 0 8 0→f' 9=.int .i64 ((i+1:Nat):Int)→∃k,k<x.items.length-i∧I k ⟨f',[fr],[]⟩:=by
   intro f' v hv a1 a3 a4 a5 a6;exact⟨x.items.length-(i+1),by omega,f',i+1,rfl,rfl,by omega,a1,by rw[a3,ht,hv],a4,a5,a6⟩
  simp only[PI.cells]at hgm;cases hb:(b&&QM (Hn x) i)
  ·rw[hb]at fin h3;simp only[QQa]at fin;simp only[Qt hlt,Qm,QP7,Qf,hgm,PI.cells,m8,h3,h8,hc,e1,eE,seval];exact fin _ _ rfl (by exact h1) (by rfl) (by exact h7) (by exact h8) (by rfl)
  ·rw[hb]at fin h3;simp only[QQk]at fin;cases a1:decide (o.num≤2147483647)
   ·simp only[a1,QQa,QQy]at fin;simp only[Qt hlt,Qm,QP7,Qf,hgm,PI.cells,a1,m8,h3,h8,hc,e1,eE,seval];exact fin _ _ rfl (by exact h1) (by rfl) (by exact h7) (by exact h8) (by rfl)
   simp only[a1,QQk]at fin;have gt:∀(q:Bool),(i != 0||o.num==0)=q→(decide ((i:Int) > 0)=true∧q=true)∨(decide ((i:Int) > 0)=false∧(o.num==0)=q):=by
    intro q hq;cases i with
    |zero=>exact .inr ⟨rfl,hq⟩
    |succ k=>exact .inl ⟨QQx (by omega),hq.symm⟩
   cases a2:(i != 0||o.num==0)
   ·rw[a2]at fin;simp only[QQa]at fin;rcases gt _ a2 with⟨g1,g2⟩|⟨g1,g2⟩
    ·cases g2
    ·simp only[Qt hlt,Qm,QP7,Qf,hgm,PI.cells,a1,g1,g2,m8,h3,h8,hc,e1,eE,seval];exact fin _ _ rfl (by exact h1) (by rfl) (by exact h7) (by exact h8) (by rfl)
   ·rw[a2]at fin;simp only[QQk]at fin;rcases gt _ a2 with⟨g1,g2⟩|⟨g1,g2⟩
    all_goals
     simp only[Qt hlt,Qm,QP7,Qf,hgm,PI.cells,a1,g1,g2,m8,h3,h8,hc,eE,seval];refine Qa hr rfl rfl rfl (.inl rfl) ?_;simp only[hc,e1,Qb,seval];exact fin _ _ rfl (by exact h1) (by rfl) (by exact h7) (by exact h8) (by rfl)
 ·rw[show i=x.items.length by omega,LZ]at h3;simp only[QS hlt,Qb,seval];exact hx _ (by exact h1) (by exact h3) (by exact h7) (by exact h8)

omit hl1 in
include m1 in
theorem Ps (hc:f 11=.int .i64 0)(hrow:∀s∈[12],(fr s).isRow=false)(hx:∀f fr,f 1=.ptr 0 1 0→f 3=.bool (b&&(x.free.all N7&&JU x.free Gv))→f 7=.int .i64 (j:Nat)→fr 1=.cells (Pc P)→(∀s∈[12,8],(fr s).isRow=false)→Q (.exit 8) (⟨f,[fr],[]⟩:St)):QJ Tryz.prog (.loop To) ⟨f,[fr],[]⟩ Q:=by
 let I:Nat→St→Prop:=fun k st=>∃f fr i,st=⟨f,[fr],[]⟩∧k=x.free.length-i∧i≤x.free.length∧f 1=.ptr 0 1 0∧f 3=.bool (b&&QM (Gw x.free) i)∧f 7=.int .i64 (j:Nat)∧f 8=.ptr 0 8 0∧f 11=.int .i64 (i:Nat)∧fr 1=.cells (Pc P)∧fr 8=.cells x.cells∧∀s∈[12],(fr s).isRow=false
 refine Qg I _ ⟨f,fr,0,rfl,rfl,QOM _,h1,by rw[h3];simp[QM],h7,h8,hc,m1,m8,hrow⟩ ?_;clear h1 h3 h7 h8 hc m1 m8 hrow;rintro _ st ⟨f0,fr0,i,rfl,rfl,hi,h10,h30,h70,h80,hc0,m10,m80,Ut⟩;refine Q7 (a:=_) [12] Ut ?_;intro f fr hf hm hn;have h1:f 1=.ptr 0 1 0:=by rw[hf,h10]<;>rfl
 have h3:f 3=.bool (b&&QM (Gw x.free) i):=by rw[hf,h30]<;>rfl
 have h7:f 7=.int .i64 (j:Nat):=by rw[hf,h70]<;>rfl
 have h8:f 8=.ptr 0 8 0:=by rw[hf,h80]<;>rfl
 have hc:f 11=.int .i64 (i:Nat):=by rw[hf,hc0]<;>rfl
 have m1:fr 1=.cells (Pc P):=by rw[hm 1 (by decide),m10]<;>rfl
 have m8:fr 8=.cells x.cells:=by rw[hm 8 (by decide),m80]<;>rfl
 have n12:=hn 12 (by decide);clear hf hm hn h10 h30 h70 h80 hc0 m10 m80 Ut;have m8':=m8;simp only[PE.cells]at m8;simp only[QPz,m8,h8,hc,eE,seval];by_cases hlt:i<x.free.length
 ·obtain⟨y,hg⟩:∃y,x.free[i]? = some y:=⟨x.free[i],QOH hlt⟩;have hgm:(x.free.map fun o=>AV.agg o.cells)[i]? = some (.agg y.cells):=by simp[hg]
  have e1:=Qx i _ hlt hl;have ht:=JB b (Gw x.free) i;have hq:Gw x.free i=((decide (y.lo≥0)&&decide (y.hi≤2147483647)&&decide (y.lo≤y.hi))&&Za x.free Gv i):=by unfold Gw;rw[Ux hg];rfl
  rw[hq]at ht;have fin:∀(f':Fr) (fr':Nat→Ob) (v:Bool),((b&&QM (Gw x.free) i)&&((decide (y.lo≥0)&&decide (y.hi≤2147483647)&&decide (y.lo≤y.hi))&&Za x.free Gv i))=v→f' 1=.ptr 0 1 0→f' 3=.bool v→f' 7=.int .i64 (j:Nat)→f' 8=.ptr 0 8 0→f' 11=.int .i64 ((i+1:Nat):Int)→fr' 1=.cells (Pc P)→fr' 8=.cells x.cells→(∀s∈[12],(fr' s).isRow=false)→∃k,k<x.free.length-i∧I k ⟨f',[fr'],[]⟩:=by
   intro f' fr' v hv a1 a3 a4 a5 a6 a7 a8 a9;exact⟨x.free.length-(i+1),by omega,f',fr',i+1,rfl,rfl,by omega,a1,by rw[a3,ht,hv],a4,a5,a6,a7,a8,a9⟩
  simp only[PS.cells]at hgm;cases hb:(b&&QM (Gw x.free) i)
  ·rw[hb]at fin h3;simp only[QQa]at fin;simp only[Qt hlt,Qm,QP7,Qf,hgm,PS.cells,n12,m8,h3,h8,hc,e1,eE,seval];exact fin _ _ _ rfl (by exact h1) (by rfl) (by exact h7) (by exact h8) (by rfl) (by exact m1) (by exact m8') (by simp<;>rfl)
  rw[hb]at fin h3;simp only[QQk]at fin;cases a1:decide (y.lo≥0)
  ·simp only[a1,QQa]at fin;simp only[Qt hlt,Qm,QP7,Qf,hgm,PS.cells,n12,a1,m8,h3,h8,hc,e1,eE,seval];exact fin _ _ _ rfl (by exact h1) (by rfl) (by exact h7) (by exact h8) (by rfl) (by exact m1) (by exact m8') (by simp<;>rfl)
  cases a2:decide (y.hi≤2147483647)
  ·simp only[a1,a2,QQa,QQy]at fin;simp only[Qt hlt,Qm,QP7,Qf,hgm,PS.cells,n12,a1,a2,m8,h3,h8,hc,e1,eE,seval];exact fin _ _ _ rfl (by exact h1) (by rfl) (by exact h7) (by exact h8) (by rfl) (by exact m1) (by exact m8') (by simp<;>rfl)
  cases a3:decide (y.lo≤y.hi)
  ·simp only[a1,a2,a3,QQa,QQy]at fin;simp only[Qt hlt,Qm,QP7,Qf,hgm,PS.cells,n12,a1,a2,a3,m8,h3,h8,hc,e1,eE,seval];exact fin _ _ _ rfl (by exact h1) (by rfl) (by exact h7) (by exact h8) (by rfl) (by exact m1) (by exact m8') (by simp<;>rfl)
  simp only[a1,a2,a3,QQk,QPS]at fin;cases i with
  |zero=>
   have d0:(((0:Nat):Int)==0)=true:=rfl;rw[HE]at fin;simp only[Qt hlt,Qm,QP7,Qf,hgm,PS.cells,n12,a1,a2,a3,d0,m8,h3,h8,hc,e1,eE,Nat.reduceBEq,↓reduceIte,Nat.reduceAdd,Nat.reduceLeDiff];exact fin _ _ _ rfl (by exact h1) (by rfl) (by exact h7) (by exact h8) (by rfl) (by exact m1) (by exact m8') (by simp<;>rfl)
  |succ k=>
   have d0:(((k+1:Nat):Int)==0)=false:=by rw[QQp];omega
   obtain⟨z,hgz⟩:∃z,x.free[k]? = some z:=⟨x.free[k]'(by omega),QOH (by omega)⟩;have hgzm:(x.free.map fun o=>AV.agg o.cells)[k]? = some (.agg z.cells):=by simp[hgz]
   have w:=Dn k _ hlt hl;have hs:Gv z y=decide (y.lo > z.hi):=rfl;rw[Yx hgz hg,hs]at fin;simp only[PS.cells]at hgzm;simp only[Qt hlt,Qm,QP7,Qf,hgm,hgzm,w,PS.cells,n12,a1,a2,a3,d0,m8,h3,h8,hc,e1,eE,seval];exact fin _ _ _ rfl (by exact h1) (by rfl) (by exact h7) (by exact h8) (by rfl) (by exact m1) (by exact m8') (by simp<;>rfl)
 ·rw[show i=x.free.length by omega,LT]at h3;simp only[QS hlt,Qb,seval];refine hx _ _ (by exact h1) (by exact h3) (by exact h7) (by exact m1) (fun s hs=>?_);simp at hs;rcases hs with rfl|rfl
  ·rw[n12];rfl
  ·rw[m8];rfl

end

section
variable {M:Nat}(P:PL)(hP:P.ok M)(fr:Nat→Ob)(m1:fr 1=.cells (Pc P))(f:Fr)(b:Bool)(h1:f 1=.ptr 0 1 0)(h3:f 3=.bool b)(Q:Exit→St→Prop)
include hP m1 h1 h3

theorem QJ2 (ha:f 7=.int .i64 0)(hrow:∀s∈[12,8],(fr s).isRow=false)(hx:∀f fr,f 1=.ptr 0 1 0→f 3=.bool (b&&P.enums.all WS)→Q (.exit 4) (⟨f,[fr],[]⟩:St)):QJ Tryz.prog (.loop Tp) ⟨f,[fr],[]⟩ Q:=by
 let I:Nat→St→Prop:=fun k st=>∃f fr i,st=⟨f,[fr],[]⟩∧k=P.enums.length-i∧i≤P.enums.length∧f 1=.ptr 0 1 0∧f 3=.bool (b&&(P.enums.take i).all WS)∧f 7=.int .i64 (i:Nat)∧fr 1=.cells (Pc P)∧∀s∈[12,8],(fr s).isRow=false
 refine Qg I _ ⟨f,fr,0,rfl,rfl,QOM _,h1,by rw[h3];simp,ha,m1,hrow⟩ ?_;clear h1 h3 ha m1 hrow;rintro _ st ⟨f0,fr0,i,rfl,rfl,hi,h10,h30,ha0,m10,hr⟩;refine Q7 (a:=_) [12,8] hr ?_;intro f fr hf hm hn;have h1:f 1=.ptr 0 1 0:=by rw[hf,h10]<;>rfl
 have h3:f 3=.bool (b&&(P.enums.take i).all WS):=by rw[hf,h30]<;>rfl
 have ha:f 7=.int .i64 (i:Nat):=by rw[hf,ha0]<;>rfl
 have m1:fr 1=.cells (Pc P):=by rw[hm 1 (by decide),m10]<;>rfl
 have n12:=hn 12 (by decide);have n8:=hn 8 (by decide);clear hf hm hn h10 h30 ha0 m10 hr;have m1':=m1;simp only[Pc]at m1;simp only[QPz,h1,m1,ha,eE,seval];by_cases hlt:i<P.enums.length
 ·obtain⟨x,hg⟩:∃x,P.enums[i]? = some x:=⟨P.enums[i],QOH hlt⟩;have hgm:(P.enums.map QV)[i]? = some (.agg x.cells):=by simp[hg,QV]
  have e1:=Qx i _ hlt hP.len2;have ht:=Xj (q:=WS) hg;have hq:(b&&(P.enums.take (i+1)).all WS)=((b&&(P.enums.take i).all WS&&(HG x&&x.items.all (Dm x)))&&(x.free.all N7&&JU x.free Gv)):=by
   rw[ht];unfold WS;cases b<;>cases(P.enums.take i).all _<;>cases x.free.all N7<;>cases JU x.free Gv<;>cases HG x<;>cases x.items.all (Dm x)<;>rfl
  have hxo:=hP.enums x (QOR hg);simp only[PE.cells]at hgm;simp only[Qt hlt,Qm,QP7,Qf,hgm,n8,h1,m1,ha,eE,seval];refine Pr x hxo.len1 hxo.len2 _ (b&&(P.enums.take i).all WS) i _ (by exact h1) (by exact h3) (by exact ha) (by rfl) (by rfl) _ (by rfl) (fun f h1 h3 ha h8=>?_);simp only[Qb,seval];refine Ps x hxo.len2 P _ _ i _ (by exact h1) (by exact h3) (by exact ha) (by exact h8) (by exact m1') (by rfl) _ (by rfl) (fun s hs=>by simp at hs;subst hs;rw[Xc _ _ (by decide)];first|rw[n12];rfl|(rw[Xc _ _ (by decide),n12];rfl)) (fun f fr h1 h3 ha m1 hr=>?_);simp only[ha,e1,Qb,seval];exact⟨P.enums.length-(i+1),by omega,_,fr,i+1,rfl,rfl,by omega,(by exact h1),by rw[hq]<;>first|exact h3|simp only[h3,eE,seval],(by rfl),m1,hr⟩
 ·have hf:(P.enums.take i).all WS=P.enums.all WS:=by rw[QPe (by omega)]
  rw[hf]at h3;simp only[QS hlt,Qb,seval];exact hx _ _ (by exact h1) (by exact h3)

end

theorem z32 {M:Nat}(P:PL)(hP:P.ok M):Qj Tryz.prog 32 [P.av] (.bool (TF P)):=by
 have e0:P.av=.agg [.list (P.progs.map Qp),.list (P.enums.map QV)]:=rfl;refine k32.fn (by simp) ?_;simp only[e0,eE,seval];refine QJ1 P hP _ (by rfl) _ true (by rfl) (by rfl) _ (by rfl) (fun f h1 h3=>?_);simp only[Qb,seval];refine QJ2 P hP _ (by rfl) _ _ (by exact h1) (by exact h3) _ (by rfl) (fun s hs=>by simp at hs;rcases hs with rfl|rfl<;>rfl) (fun f fr h1 h3=>?_);simp only[h3,TF,QQk,Qb,seval]

section
variable (k kd:Int)(b:Nat)(t:List UInt8)(l p s r:List AV)(ht:t.length+8≤maxLen)

include ht in
theorem QJ3:Qj Tryz.prog 169 [.int .i64 k,vo kd b t l p s r] (.bool (Zn k kd b t l p s r)):=by
 have hl:=R3 kd b t l p s r;simp only[vo]at hl;have n1:(kd != k)=!(kd==k):=rfl;have n2:(t != [])=!(t==[]):=rfl;refine QkH.fn (by simp) ?_;simp only[vo,Zn,eE,seval];refine Qa (Dk k) rfl rfl rfl (.inl rfl) ?_;cases hk:isk k
 ·simp only[QPM,QQa,Qb,seval]
 simp only[n1,QQl,QQk,eE,seval];cases a1:(kd==k)
 ·simp only[QPM,QQa,Qb,seval]
 have e:kd=k:=by simpa using a1
 subst e;simp only[QQl,QQk,eE,seval];refine Qa hl rfl rfl rfl (.inl rfl) ?_;cases Wr l p s r
 ·simp only[QPM,QQa,Qb,seval]
 simp only[QQl,QQk,Qb,seval];refine Qa (Wm kd) rfl rfl rfl (.inl rfl) ?_;cases tx:XV kd
 ·simp only[QOX,Q2,eE,seval];cases a2:(t==[])
  ·simp only[QPM,QQa,Qb,seval]
  have e:t=[]:=by simpa using a2
  subst e;have k7:(kd != 7)=true:=by
   simp only[XV,QPy,QQp]at tx;simp[tx.1]
  have d0:decide (((0:Nat):Int)≤4096)=true:=rfl;simp only[k7,QPA,QQl,QQk,QPS,QQn,Qb,seval];unfold ZR;by_cases h1:kd=1
  ·subst h1;have b1:((1:Int)==1)=true:=rfl;simp only[b1,eE,seval]
  ·have b1:(kd==1)=false:=by simp[h1]
   by_cases h2:kd=2
   ·subst h2;have b2:((2:Int)==2)=true:=rfl;simp only[b1,b2,h1,eE,seval];cases hd:decide (IntKind.i64.wrap (b:Int)≥-2147483648)<;>simp only[QQk,QQa,Qb,seval]
   ·have b2:(kd==2)=false:=by simp[h2]
    by_cases h4:kd=4
    ·subst h4;have b4:((4:Int)==4)=true:=rfl;simp only[b1,b2,b4,h1,h2,eE,seval]
    ·have b4:(kd==4)=false:=by simp[h4]
     by_cases h9:kd=9
     ·subst h9;have b9:((9:Int)==9)=true:=rfl;simp only[b1,b2,b9,b4,h1,h2,h4,eE,seval]
     ·have b9:(kd==9)=false:=by simp[h9]
      simp only[b1,b2,b9,b4,h1,h2,h4,h9,Qb,seval]
 ·simp only[eE,seval];cases a2:((b:Int)==0)
  ·simp only[QQa,Qb,seval]
  have hfn:ZR kd b=true:=by
   simp only[XV,QPE,QO5]at tx;rcases tx with rfl|rfl<;>rfl
  cases a3:decide ((t.length:Int)≤4096)
  ·simp only[a3,hfn,QQa,QQy,eE,seval]
  simp only[XV,QPE,QO5]at tx;rcases tx with rfl|rfl
  ·have c8:((7:Int)==8)=false:=rfl;have c7:((7:Int) != 7)=false:=rfl;simp only[a3,c8,c7,hfn,QQk,QQo,eE,seval];refine Qa (Ck t ht) rfl rfl rfl (.inl rfl) ?_;simp only[Qb,seval]
  ·have c8:((8:Int)==8)=true:=rfl;have c7:((8:Int) != 7)=true:=rfl;simp only[a3,c8,c7,hfn,QQn,eE,seval]

end

section
variable {M:Nat}(P:PL)(hP:P.ok M)(k tg kd:Int)(b:Nat)(t:List UInt8)(l p s r:List AV)(ht:t.length+8≤maxLen)(hs:s.length≤140737488351232)(hr:r.length≤140737488351232)

end

def kv (k:Int)(b:Nat)(t:List UInt8):AV:=.agg [.int .i64 k,.int .u64 (b:Nat),.str t,.list [],.list [],.list [],.list []]
def Xo (k:Int):Prop:=(1≤k∧k≤5)∨k=7

theorem Xo.isk {k:Int}(h:Xo k):isk k=true:=by
 rcases h with h|rfl
 ·simp[Va.isk];omega
 ·rfl

theorem JT:∀s:List UInt8,Op.bytesLess s s=false
 | []=>rfl
 |a :: l=>by simp[Op.bytesLess,JT l]

theorem Qss (a:Int):Qj Tryz.prog 107 [.int .i64 a] (.bool false):=by
 refine Qbv.fn (by simp) ?_;simp only[bne_self_eq_false,Qb,seval]

theorem Qst (a:Int):Qj Tryz.prog 224 [.int .u64 a] (.bool false):=by
 refine QGF.fn (by simp) ?_;simp only[bne_self_eq_false,Qb,seval]

theorem Qsu (a:List UInt8):Qj Tryz.prog 223 [.str a] (.bool false):=by
 have e:Q2 .neq a a=some (.bool false):=by simp[Q2]
 refine QGC.fn (by simp) ?_;simp only[e,Qb,seval]

def cN (a b:Int):Int:=if a<b then -1 else if b<a then 1 else 0
theorem U4 {a b:Int}:cN a b=0↔a=b:=by
 unfold cN;split
 ·omega
 ·split<;>omega

theorem TJ (a b:Int):Qj Tryz.prog 60 [.int .i64 a,.int .i64 b] (.int .i64 (cN a b)):=by
 refine k60.fn (by simp) ?_;simp only[Qb,seval];refine Qa (Qss a) rfl rfl rfl (.inl rfl) ?_;simp only[Qb,seval];refine Qa (Qss b) rfl rfl rfl (.inl rfl) ?_;simp only[Qb,seval];by_cases h1:a<b
 ·have d1:decide (a<b)=true:=by simpa using h1
  simp only[d1,cN,QO9 h1,Qb,seval]
 ·have d1:decide (a<b)=false:=by simpa using h1
  by_cases h2:b<a
  ·have d2:decide (a > b)=true:=by simpa using h2
   simp only[d1,d2,cN,QOS h1,QO9 h2,Qb,seval]
  ·have d2:decide (a > b)=false:=by simpa using h2
   simp only[d1,d2,cN,QOS h1,QOS h2,Qb,seval]

theorem QJ4 (a b:Int):Qj Tryz.prog 214 [.int .u64 a,.int .u64 b] (.int .i64 (cN a b)):=by
 refine QGz.fn (by simp) ?_;simp only[Qb,seval];refine Qa (Qst a) rfl rfl rfl (.inl rfl) ?_;simp only[Qb,seval];refine Qa (Qst b) rfl rfl rfl (.inl rfl) ?_;simp only[Qb,seval];by_cases h1:a<b
 ·have d1:decide (a<b)=true:=by simpa using h1
  simp only[d1,cN,QO9 h1,Qb,seval]
 ·have d1:decide (a<b)=false:=by simpa using h1
  by_cases h2:b<a
  ·have d2:decide (a > b)=true:=by simpa using h2
   simp only[d1,d2,cN,QOS h1,QO9 h2,Qb,seval]
  ·have d2:decide (a > b)=false:=by simpa using h2
   simp only[d1,d2,cN,QOS h1,QOS h2,Qb,seval]

def cS (a b:List UInt8):Int:=if Op.bytesLess a b=true then -1 else if a==b then 0 else 1
theorem Vh {a b:List UInt8}:cS a b=0↔a=b:=by
 unfold cS
 constructor
 ·intro h;split at h
  ·omega
  ·split at h
   ·rename_i h2;simpa using h2
   ·omega
 ·rintro rfl;simp[JT]

theorem QJ5 (a b:List UInt8):Qj Tryz.prog 213 [.str a,.str b] (.int .i64 (cS a b)):=by
 refine QGw.fn (by simp) ?_;simp only[Qb,seval];refine Qa (Qsu a) rfl rfl rfl (.inl rfl) ?_;simp only[Qb,seval];refine Qa (Qsu b) rfl rfl rfl (.inl rfl) ?_;simp only[Q2,cS,Qb,seval];cases h1:Op.bytesLess a b
 ·cases h2:(a==b)<;>simp only[Q2,h1,h2,QQo,QQl,QPM,QOX,Qb,seval]
 ·simp only[Qb,seval]

def Ho (k:Int)(a:Nat)(s:List UInt8)(b:Nat)(t:List UInt8):Int :=
 if XV k=true then cS s t else if (k==2||k==3)=true then cN (IntKind.i64.wrap (a:Int)) (IntKind.i64.wrap (b:Int))else cN (a:Int) (b:Int)

theorem QJ6 (k:Int)(hk:Xo k)(a b:Nat)(s t:List UInt8):Qj Tryz.prog 193 [kv k a s,kv k b t] (.int .i64 (Ho k a s b t)):=by
 have hi:=hk.isk;have k6:(k==6)=false:=by
  rcases hk with h|rfl
  ·simp;omega
  ·rfl
 refine QGq.fn (by simp) ?_;simp only[kv,Ho,bne_self_eq_false,eE,seval];refine Qa (Ba k) rfl rfl rfl (.inl rfl) ?_;simp only[hi,eE,seval];refine Qa (Qr7 k) rfl rfl rfl (.inl rfl) ?_;cases h1:XV k
 ·simp only[QOX,eE,seval];cases h2:(k==2)
  ·cases h3:(k==3)
   ·simp only[h3,k6,QQz,QOX,eE,seval];refine Qa (QJ4 _ _) rfl rfl rfl (.inl rfl) ?_;simp only[Qb,seval]
   ·simp only[h3,QQo,eE,seval];refine Qa (TJ _ _) rfl rfl rfl (.inl rfl) ?_;simp only[Qb,seval]
  ·simp only[QQn,eE,seval];refine Qa (TJ _ _) rfl rfl rfl (.inl rfl) ?_;simp only[Qb,seval]
 ·simp only[eE,seval];refine Qa (QJ5 s t) rfl rfl rfl (.inl rfl) ?_;simp only[Qb,seval]

theorem Qsv (k:Int)(hk:Xo k)(b:Nat)(t:List UInt8):Qj Tryz.prog 192 [kv k b t] (.iface 188 (kv k b t)):=by
 have hi:=hk.isk;refine QHU.fn (by simp) ?_;simp only[kv,eE,seval];refine Qa (Ba k) rfl rfl rfl (.inl rfl) ?_;simp only[hi,eE,seval]

theorem Qsw (k:Int)(hk:Xo k)(a b:Nat)(s t:List UInt8):Qj Tryz.prog 160 [kv k a s,kv k b t] (.int .i64 (Ho k a s b t)):=by
 have h1:=Qsv k hk a s;have h2:=Qsv k hk b t;have h3:=QJ6 k hk a b s t;simp only[kv]at h1 h2 h3;refine QHR.fn (by simp) ?_;simp only[kv,bne_self_eq_false,eE,seval];refine Qa h2 rfl rfl rfl (.inl rfl) ?_;simp only[eE,seval];refine Qa h1 rfl rfl rfl (.inl rfl) ?_;simp only[eE,seval];refine Qa h3 rfl rfl rfl (.inl rfl) ?_;simp only[Qb,seval]

theorem Qsx (k:Int)(hk:Xo k)(a b:Nat)(s t:List UInt8):Qj Tryz.prog 161 [kv k a s,kv k b t] (.bool (Ho k a s b t==0)):=by
 have h1:=Qsw k hk a b s t;simp only[kv]at h1;refine QGe.fn (by simp) ?_;simp only[kv,eE,seval];refine Qa h1 rfl rfl rfl (.inl rfl) ?_;simp only[Qb,seval]

def KL (k:Int)(b:Nat):Int:=if (k==2||k==3)=true then IntKind.u64.wrap ((b:Int)+9223372036854775808)else(b:Int)

theorem Qsy (k:Int):Qj Tryz.prog 171 [.int .i64 k] (.bool (k==2||k==3)):=by
 refine QHO.fn (by simp) ?_;simp only[Qb,seval];cases h:(k==2)<;>simp only[QQn,QQo,Qb,seval]

theorem Qsz (k:Int)(k6:(k != 6)=true)(b:Nat)(t:List UInt8):Qj Tryz.prog 120 [kv k b t] (.int .u64 (KL k b)):=by
 refine Qn8.fn (by simp) ?_;simp only[kv,eE,seval];refine Qa (Qsy k) rfl rfl rfl (.inl rfl) ?_;unfold KL;cases h1:(k==2||k==3)
 ·simp only[k6,QOX,eE,seval]
 ·simp only[eE,seval]

def UH (k:Int)(a:Nat)(s:List UInt8)(b:Nat)(t:List UInt8):Int:=if XV k=true then cS s t else cN (KL k a) (KL k b)

theorem v72 (k:Int)(hk:Xo k)(a b:Nat)(s t:List UInt8):Qj Tryz.prog 72 [kv k a s,kv k b t] (.int .i64 (UH k a s b t)):=by
 have hi:=hk.isk;have k6:(k != 6)=true:=by
  rcases hk with h|rfl
  ·simp;omega
  ·rfl
 have d1:decide (k<k)=false:=by simp
 have d2:decide (k > k)=false:=by simp
 have hr:=Qsz k k6 a s;have hq:=Qsz k k6 b t;simp only[kv]at hr hq;refine k72.fn (by simp) ?_;simp only[kv,UH,d1,eE,seval];refine Qa (Dk k) rfl rfl rfl (.inl rfl) ?_;simp only[hi,eE,seval];refine Qa (Wm k) rfl rfl rfl (.inl rfl) ?_;cases h2:XV k
 ·simp only[QOX,eE,seval];refine Qa (Wm k) rfl rfl rfl (.inl rfl) ?_;simp only[h2,eE,seval];refine Qa (Wm k) rfl rfl rfl (.inl rfl) ?_;simp only[h2,eE,seval];refine Qa hr rfl rfl rfl (.inl rfl) ?_;simp only[eE,seval];refine Qa hq rfl rfl rfl (.inl rfl) ?_;simp only[Qb,seval];by_cases c1:KL k a<KL k b
  ·have e1:decide (KL k a<KL k b)=true:=QQx c1;simp only[e1,cN,QO9 c1,Qb,seval]
  ·have e1:decide (KL k a<KL k b)=false:=QQt c1;simp only[e1,cN,QOS c1,eE,seval];refine Qa hr rfl rfl rfl (.inl rfl) ?_;simp only[eE,seval];refine Qa hq rfl rfl rfl (.inl rfl) ?_;by_cases c2:KL k b<KL k a
   ·have e2:decide (KL k a > KL k b)=true:=QQx c2;simp only[e2,QO9 c2,Qb,seval]
   ·have e2:decide (KL k a > KL k b)=false:=QQt c2;simp only[e2,QOS c2,Qb,seval]
 ·simp only[Q2,cS,eE,seval];cases h1:Op.bytesLess s t
  ·simp only[QOX,eE,seval];refine Qa (Wm k) rfl rfl rfl (.inl rfl) ?_;cases h3:(s==t)
   ·simp only[h1,h2,h3,Q2,QQo,QPM,QOX,eE,seval]
   ·simp only[h1,h2,h3,Q2,QQo,QQl,eE,seval];refine Qa (Wm k) rfl rfl rfl (.inl rfl) ?_;simp only[h2,Qb,seval]
  ·simp only[Qb,seval]

theorem v41 (k:Int)(hk:Xo k)(a b:Nat)(s t:List UInt8):Qj Tryz.prog 41 [kv k a s,kv k b t] (.int .i64 (UH k a s b t)):=by
 have b1:(k==11)=false:=by rcases hk with h|rfl<;>simp<;>omega
 have b2:(k==12)=false:=by rcases hk with h|rfl<;>simp<;>omega
 have b3:(k==10)=false:=by rcases hk with h|rfl<;>simp<;>omega
 have hr:=v72 k hk a b s t;simp only[kv]at hr;refine k41.fn (by simp) ?_;simp only[kv,bne_self_eq_false,b1,b2,b3,eE,seval];refine Qa hr rfl rfl rfl (.inl rfl) ?_;simp only[Qb,seval]

theorem Jt {v:V}{P:PL}{k tg:Int}(h:v.one P k tg=0):v.av=kv k v.bits v.text∧(XV k=true→(v.bits:Int)=0)∧(XV k=false→v.text=[]):=by
 obtain⟨h1,_,h3⟩:=Bn h;rw[Cz,h1];rw[h1]at h3;unfold Zn Wr at h3;simp only[QO2,QO5]at h3;obtain⟨⟨⟨⟨⟨_,⟨⟨⟨e1,e2⟩,e3⟩,e4⟩⟩,h4⟩,_⟩,_⟩,_⟩:=h3;have f1:=List.length_eq_zero_iff.1 (Int.ofNat_eq_zero.1 e1);have f2:=List.length_eq_zero_iff.1 (Int.ofNat_eq_zero.1 e2);have f3:=List.length_eq_zero_iff.1 (Int.ofNat_eq_zero.1 e3);have f4:=List.length_eq_zero_iff.1 (Int.ofNat_eq_zero.1 e4);rw[f1,f2,f3,f4];refine⟨rfl,fun ht=>?_,fun ht=>?_⟩
 ·rw[QO9 ht]at h4;simpa using h4
 ·rw[QOS (by simp[ht])]at h4;simpa using h4

theorem Vi {x y:V}{P:PL}{k tg:Int}(_hk:Xo k)(hx:x.one P k tg=0)(hy:y.one P k tg=0)(bx:x.bits<18446744073709551616)(bY:y.bits<18446744073709551616):(Ho k x.bits x.text y.bits y.text==0)=Q0 x y:=by
 obtain⟨_,x1,x2⟩:=Jt hx;obtain⟨_,y1,y2⟩:=Jt hy;rw[QQv,QO5];unfold Q0 Ho;simp only[QO2,QO5];split
 ·rename_i ht;have:=x1 ht;have:=y1 ht;rw[Vh];exact⟨fun h=>⟨by omega,h⟩,fun h=>h.2⟩
 ·rename_i ht;have ht:XV k=false:=by simpa using ht
  rw[x2 ht,y2 ht];split
  ·rw[U4,QA,QA];exact⟨fun h=>⟨by omega,rfl⟩,fun h=>by rw[h.1]⟩
  ·rw[U4];exact⟨fun h=>⟨by omega,rfl⟩,fun h=>by rw[h.1]⟩

theorem Vj {x y:V}{P:PL}{k tg:Int}(_hk:Xo k)(hx:x.one P k tg=0)(hy:y.one P k tg=0)(bx:x.bits<18446744073709551616)(bY:y.bits<18446744073709551616):(UH k x.bits x.text y.bits y.text==0)=Q0 x y:=by
 obtain⟨_,x1,x2⟩:=Jt hx;obtain⟨_,y1,y2⟩:=Jt hy;rw[QQv,QO5];unfold Q0 UH;simp only[QO2,QO5];split
 ·rename_i ht;have:=x1 ht;have:=y1 ht;rw[Vh];exact⟨fun h=>⟨by omega,h⟩,fun h=>h.2⟩
 ·rename_i ht;have ht:XV k=false:=by simpa using ht
  rw[x2 ht,y2 ht];unfold KL;split
  ·rw[U4,XY,XY];exact⟨fun h=>⟨by omega,rfl⟩,fun h=>by rw[h.1]⟩
  ·rw[U4];exact⟨fun h=>⟨by omega,rfl⟩,fun h=>by rw[h.1]⟩

open Up

def vc (x:V):List AV:=[.int .i64 x.kd,.int .u64 (x.bits:Nat),.str x.text,.list (x.list.map V.av),.list (x.pairs.map V.pav),.list (x.slots.map V.sav),.list (x.raws.map R.av)]
theorem Qc (x:V):x.av=.agg [.int .i64 x.kd,.int .u64 (x.bits:Nat),.str x.text,.list (x.list.map V.av),.list (x.pairs.map V.pav),.list (x.slots.map V.sav),.list (x.raws.map R.av)]:=by
 rw[V.av,V.eta]
theorem Q4 (p:V×V):V.pav p=.agg [.int .i64 p.1.kd,.int .u64 (p.1.bits:Nat),.str p.1.text,.list (p.1.list.map V.av),.list (p.1.pairs.map V.pav),.list (p.1.slots.map V.sav),.list (p.1.raws.map R.av),.int .i64 p.2.kd,.int .u64 (p.2.bits:Nat),.str p.2.text,.list (p.2.list.map V.av),.list (p.2.pairs.map V.pav),.list (p.2.slots.map V.sav),.list (p.2.raws.map R.av)]:=by
 rw[V.pav,V.eta,V.eta];rfl
theorem ZG (s:Int×V):V.sav s=.agg [.int .i64 s.1,.int .i64 s.2.kd,.int .u64 (s.2.bits:Nat),.str s.2.text,.list (s.2.list.map V.av),.list (s.2.pairs.map V.pav),.list (s.2.slots.map V.sav),.list (s.2.raws.map R.av)]:=by
 rw[V.sav,V.eta]
theorem R9 {l:List V}{i:Nat}{x:V}(h:l[i]? = some x):(l.map V.av)[i]? = some (.agg [.int .i64 x.kd,.int .u64 (x.bits:Nat),.str x.text,.list (x.list.map V.av),.list (x.pairs.map V.pav),.list (x.slots.map V.sav),.list (x.raws.map R.av)]):=by
 rw[QP2,h,QPw,Qc]
theorem Ke {l:List (V×V)}{i:Nat}{p:V×V}(h:l[i]? = some p):(l.map V.pav)[i]? = some (.agg [.int .i64 p.1.kd,.int .u64 (p.1.bits:Nat),.str p.1.text,.list (p.1.list.map V.av),.list (p.1.pairs.map V.pav),.list (p.1.slots.map V.sav),.list (p.1.raws.map R.av),.int .i64 p.2.kd,.int .u64 (p.2.bits:Nat),.str p.2.text,.list (p.2.list.map V.av),.list (p.2.pairs.map V.pav),.list (p.2.slots.map V.sav),.list (p.2.raws.map R.av)]):=by
 rw[QP2,h,QPw,Q4]
theorem Y4 {l:List (Int×V)}{i:Nat}{s:Int×V}(h:l[i]? = some s):(l.map V.sav)[i]? = some (.agg [.int .i64 s.1,.int .i64 s.2.kd,.int .u64 (s.2.bits:Nat),.str s.2.text,.list (s.2.list.map V.av),.list (s.2.pairs.map V.pav),.list (s.2.slots.map V.sav),.list (s.2.raws.map R.av)]):=by
 rw[QP2,h,QPw,ZG]

structure UO (P:PL)(o:PO):Prop where
 tgt:o.kind=10→0≤o.target∧o.target<(P.progs.length:Int)
 enm:o.kind=9→0≤o.target∧o.target<(P.enums.length:Int)
 key:o.card=5→Xo o.key
def YB (P:PL):Prop:=∀g∈P.progs,∀o∈g.ops,UO P o

theorem GA {P:PL}(h:ck P=0):YB P:=by
 unfold ck at h;split at h
 ·omega
 split at h
 ·omega
 split at h
 ·omega
 split at h
 ·omega
 split at h
 ·omega
 split at h
 ·omega
 rename_i ha;have ha:args P=true:=by simpa using ha
 intro g hg o ho;unfold args at ha;simp only[QO2,QOQ]at ha;have h1:=ha.1 g hg;unfold KB at h1;simp only[QO2,QOQ]at h1;have h2:=(h1.2 o ho).1;unfold Js at h2;simp only[QO2,QP1]at h2;obtain⟨⟨_,hk⟩,hm⟩:=h2;refine⟨fun h=>?_,fun h=>?_,fun h=>?_⟩
 ·unfold N8 at hm;rw[QO9 h]at hm;simp only[QO2,QP1]at hm;exact hm.1
 ·unfold N8 at hm;rw[QOS (by omega),QO9 h]at hm;simp only[QO2,QP1]at hm;exact hm
 ·unfold Va.key at hk;rw[QO9 h]at hk;simp only[QO2,QP1,QO6]at hk;unfold Xo;omega

section
variable {M:Nat}{P:PL}(hP:P.ok M)(hM:M≤140737488351232){m:PG→V→Int}{lv lv1:Int}(hw:IntKind.i64.wrap (lv+1)=lv1)

end

section pairs
variable (L:List (V×V))(hl:L.length≤maxLen)(p:V×V→Bool)(c:Nat)(cap:AV)(m:Qh)

end pairs

section slots
variable (L:List (Int×V))(hl:L.length≤maxLen)(p:Int×V→Bool)(c:Nat)(cap:AV)(m:Qh)

end slots

theorem WH {M:Nat}{v:V}(h:v.ok M):v.bits<18446744073709551616:=by
 have:=Qaw h.bits;omega

section
variable {M:Nat}{P:PL}(hP:P.ok M)(hM:M≤140737488351232){m:PG→V→Int}{lv:Int}(o:PO)(ho:UO P o)(h5:o.card=5)(ps:List (V×V))(hn:ps.length≤maxLen)(hk:∀x∈ps,x.1.ok M)(hv:∀x∈ps,x.2.ok M)

end

section
variable {M:Nat}{P:PL}(hP:P.ok M)(hM:M≤140737488351232){m:PG→V→Int}{lv:Int}(o:PO)(ho:UO P o)(v:V)(hv:v.ok M)

end

theorem Dv {fr:Nat→Ob}{a b:Nat}(h1:(fr a).isRow=false)(h2:(fr b).isRow=false):∀s∈[a,b],(fr s).isRow=false:=by
 intro s hs;simp only[QP0,QQF,or_false]at hs;rcases hs with rfl|rfl
 ·exact h1
 ·exact h2

theorem YC {g:PG}{n:Int}{o:PO}(h:XL g n=some o):o∈g.ops∧o.num=n:=by
 unfold XL at h;exact⟨QQB h,by simpa using List.find?_some h⟩

theorem U5 (g:PG)(n:Int):Gt (fun o=>o.num==n) g.ops=.tup [Qy ((XL g n).getD N5),.bool (XL g n).isSome]:=rfl

section
variable {M:Nat}{P:PL}(hP:P.ok M)(hM:M≤140737488351232){m:PG→V→Int}{lv:Int}(g:PG)(hg:g.ok M)(hu:∀o∈g.ops,UO P o)(sl:List (Int×V))(hn:sl.length≤maxLen)(i:Nat)(hi:i<sl.length)(hv:∀x∈sl,x.2.ok M)

end

section
variable {M:Nat}{P:PL}(hP:P.ok M)

end

theorem CC {l:List R}{i:Nat}{x:R}(h:l[i]? = some x):(l.map R.av)[i]? = some (.agg [.int .i64 x.num,.int .i64 x.wire,.int .u64 (x.bits:Nat),.str x.data]):=by
 rw[QP2,h,QPw,R.av]
section
variable {M:Nat}{P:PL}(hP:P.ok M){m:PG→V→Int}{lv:Int}(g:PG)(hg:g.ok M)(v:V)(hv:v.ok M)

end
open So

section
variable {m:PG→V→Int}{P:PL}

end

theorem Pt {v:V}(h:v.kd≠6):v.nsc=v:=by
 cases v;unfold V.nsc Zi;rw[QOS fun g=>h g.1];rfl
theorem QDm {P:PL}{tg:Int}{t:List UInt8}{l p s r:List AV}(b b':Nat):Yq P 6 tg 6 b t l p s r=Yq P 6 tg 6 b' t l p s r:=by
 have k1:(XV 6||(6:Int)==10||(6:Int)==11||(6:Int)==12)=false:=by decide
 have k2:((6:Int)==9)=false:=rfl;have t6:XV 6=false:=rfl;have f6:∀b,ZR 6 b=true:=fun b=>by
  unfold ZR;rw[QOS (by decide),QOS (by decide),QOS (by decide),QOS (by decide)]
 have h1:oth 6 b t l p s r=oth 6 b' t l p s r:=by
  unfold oth;rw[k1,QQy,QQy]
 have h2:Zn 6 6 b t l p s r=Zn 6 6 b' t l p s r:=by
  unfold Zn;rw[f6,f6,QOS (by rw[t6];exact Bool.false_ne_true),QOS (by rw[t6];exact Bool.false_ne_true)]
 unfold Yq;rw[h1,h2,k2,QQa,QQa]
theorem L0 {P:PL}{k tg:Int}{v:V}(h:v.one P k tg=0):v.nsc.one P k tg=0:=by
 by_cases hk:v.kd=6
 ·have e:=(Bn h).1;rw[←h];unfold V.one;have e1:v.nsc.kd=6:=hk;rw[e1,hk,show k=6 by omega];exact QDm _ _
 ·rw[Pt hk];exact h

theorem WV {g:PG}(hd:g.ops.Pairwise fun a b=>a.num<b.num){o:PO}(ho:o∈g.ops):XL g o.num=some o:=by
 unfold XL
 revert hd ho
 generalize g.ops=ops;intro hd ho
 induction ops with
 |nil=>cases ho
 |cons x l ih=>
  obtain⟨h1,h2⟩:=QQe.1 hd;rw[QQs];rcases QP0.1 ho with rfl|ho
  ·simp
  ·have:=h1 o ho;rw[show(x.num==o.num)=false by simp;omega];exact ih h2 ho

section
variable {m:PG→V→Int}{nm:PG→V→V}{P:PL}

theorem Ko {sl:List (Int×V)}{o:PO}{x:Int×V}(h:x∈X7 nm P sl o):x.1=o.num∧∃s∈sl,s.1=o.num∧x.2=Jj nm P o s.2:=by
 unfold X7 at h;cases hf:sl.find? (fun s=>s.1==o.num)with
 |none=>rw[hf]at h;cases h
 |some s=>
  rw[hf]at h;dsimp only at h;have h1:s.1=o.num:=by simpa using List.find?_some hf
  split at h
  ·simp only[QP0,QQF,or_false]at h;subst h;exact⟨rfl,s,QQB hf,h1,rfl⟩
  ·cases h

theorem Bu {sl:List (Int×V)}{o:PO}{p:Int×V→Int×V→Prop}:(X7 nm P sl o).Pairwise p:=by
 unfold X7;split
 ·exact .nil
 ·split
  ·exact QQD _ _
  ·exact .nil

end

def EW (m:PG→V→Prop)(P:PL)(o:PO)(v:V):Prop:=o.kind=10→m (QE P o.target) v
def FW (m:PG→V→Prop)(P:PL)(o:PO)(v:V):Prop :=
 if o.card=4 then ∀x∈v.list,EW m P o x
 else if o.card=5 then(∀p∈v.pairs,p.1.one P o.key (-1)=0∧EW m P o p.2)∧v.pairs.Pairwise fun q p=>Q0 q.1 p.1=false
 else EW m P o v
def MW (P:PL):Nat→PG→V→Prop
 |0,_,_=>False
 |n+1,g,v=>(∀s∈v.slots,∃o,XL g s.1=some o∧FW (MW P n) P o s.2)∧v.slots.Pairwise fun y x=>(y.1==x.1)=false

theorem Vk {P:PL}{o:PO}(ho:o.card=5→Xo o.key)(h5:o.card=5){ps:List (V×V)}(h:∀p∈ps,p.1.one P o.key (-1)=0):∀p∈ps,p.1.nsc=p.1:=by
 intro p hp;have e:=(Bn (h p hp)).1;refine Pt ?_;have:=ho h5;unfold Xo at this;omega

end Go.Proofs.YtfgchfdkiomfpaaGreat.Va

namespace Go.Proofs.YtfgchfdkiomfpaaGreat.Va
open Go Am Rc Bt Vp

def bl (l:List UInt8):List AV:=l.map fun b=>.int .u8 (b.toNat:Int)
theorem CD (l:List UInt8):bytesOf (bl l)=some l:=by
 induction l with
 |nil=>rfl
 |cons b l ih=>
  show(bytesOf (bl l)).map _=_;rw[ih];simp

theorem Vl (n:Nat):(n:Int).tmod 128=((n % 128:Nat):Int):=by
 rw[QQG (by omega)];omega

def tk (r:Nat×Nat×Nat):AV:=.tup [.int .u64 (r.1:Nat),.int .i64 (r.2.1:Nat),.int .i64 (r.2.2:Nat)]

theorem Pu:tk (0,0,4)=.tup [.int .u64 0,.int .i64 0,.int .i64 4]:=rfl
theorem Pv:tk (0,0,6)=.tup [.int .u64 0,.int .i64 0,.int .i64 6]:=rfl
theorem Fk (v n:Nat):tk (v,n,0)=.tup [.int .u64 (v:Nat),.int .i64 (n:Nat),.int .i64 0]:=rfl

theorem Pw (c:UInt8):bits .and .u8 (c.toNat:Int) 127=((c.toNat % 128:Nat):Int):=by
 have h:∀n:Fin 256,bits .and .u8 ((n.val:Nat):Int) 127=((n.val % 128:Nat):Int):=by decide +kernel
 exact h ⟨c.toNat,c.toNat_lt⟩

theorem Bv (i:Nat):128 ^ i=2 ^ (7*i):=by rw[Nat.pow_mul]

theorem DW (acc d i:Nat)(hi:i≤9)(ha:acc<128 ^ i)(hd:d<128)(h9:i=9→d≤1) :
  bits .or .u64 (acc:Int) (IntKind.u64.wrap (IntKind.u64.wrap (d:Int)*2 ^ min (IntKind.i64.wrap (7*(i:Int))).toNat 64))=((acc+d*128 ^ i:Nat):Int):=by
 have e1:IntKind.i64.wrap (7*(i:Int))=((7*i:Nat):Int):=by rw[QA];omega
 have hb:d*128 ^ i<18446744073709551616:=by
  rcases Nat.lt_or_ge i 9 with h|h
  ·have h1:128 ^ i≤128 ^ 8:=QQA (by omega) (by omega)
   calc d*128 ^ i≤127*128 ^ 8:=Nat.mul_le_mul (by omega) h1
    _<_:=by decide
  ·have:i=9:=by omega
   subst this
   calc d*128 ^ 9≤1*128 ^ 9:=Nat.mul_le_mul (h9 rfl) (QOE _)
    _<_:=by decide
 have hacc:acc<18446744073709551616:=by
  refine QOL ha ?_
  calc 128 ^ i≤128 ^ 9:=QQA (by omega) hi
   _≤_:=by decide
 have e2:IntKind.u64.wrap (d:Int)=(d:Int):=by rw[XY];omega
 have e3:IntKind.u64.wrap ((d:Int)*2 ^ (7*i))=((d*128 ^ i:Nat):Int):=by
  rw[XY,Bv];have:((d*2 ^ (7*i):Nat):Int)=(d:Int)*2 ^ (7*i):=by push_cast;rfl
  rw[←this];rw[Bv]at hb;omega
 rw[e1,QP7,QPU (by omega),e2,e3,Pl _ _ hacc hb];congr 1
 rw[Bv]at ha ⊢;have:=Nat.two_pow_add_eq_or_of_lt ha d;rw[Nat.or_comm,Nat.mul_comm d,←this,Nat.add_comm]

theorem Bw {acc d i:Nat}(ha:acc<128 ^ i)(hd:d<128):acc+d*128 ^ i<128 ^ (i+1):=by
 have:d*128 ^ i≤127*128 ^ i:=QPK _ (by omega);rw[Nat.pow_succ];omega

theorem UI {l t:List UInt8}{c:UInt8}{i:Nat}(h:l.drop i=c :: t):l[i]? = some c∧l.drop (i+1)=t∧i<l.length:=by
 have hi:i<l.length:=by
  rcases Nat.lt_or_ge i l.length with h'|h'
  ·exact h'
  ·rw[QPh h']at h;cases h
 rw[QPo hi]at h
 injection h with h1 h2
 exact⟨by rw[QOH hi,h1],h2,hi⟩

def QDn (s:List UInt8)(k:Nat)(st:St):Prop :=
 ∃f i acc,st=⟨f,[QD],[]⟩∧k=s.length-i∧f 0=.str s∧f 5=.int .u64 (acc:Nat)∧f 6=.int .i64 (i:Nat)∧i≤s.length∧i≤9∧acc<128 ^ i∧JV i acc (s.drop i)=Vp.take s

theorem QJ7 (s:List UInt8):Qj Tryz.prog 139 [.str s] (tk (Vp.take s)):=by
  refine QcZ.fn (by simp) ?_;simp only[Zp,seval];refine Qg (QDn s) _ ⟨_,0,0,rfl,rfl,rfl,rfl,rfl,QOM _,QOM _,by decide,rfl⟩ ?_;rintro n st ⟨f,i,acc,rfl,rfl,h0,h5,h6,hil,hi,ha,hv⟩;simp only[h0,h6,Zp,seval];refine QI (fun h=>?_) (fun h=>?_)
  · have h : i = s.length:=by (have h : (i : Int) = s.length:=(by simpa using h));omega
    rw[QPh (by omega)]at hv;simp only[←hv,JV,Pu,Zp,seval]
  · have h : i < s.length:=by (have h : ¬ (i : Int) = s.length:=(by simpa using h));omega
    obtain⟨c,t,hc⟩:∃c t,s.drop i=c :: t:=by
      cases hd:s.drop i with
      |nil=>have:=congrArg List.length hd;simp at this;omega
      |cons c t=>exact⟨c,t,rfl⟩
    obtain⟨g1,g2,_⟩:=UI hc;rw[hc]at hv;have n0:(0≤(i:Int))=True:=by simp
    have e7:IntKind.i64.wrap (7*(i:Int))=((7*i:Nat):Int):=by rw[QA];omega
    have n7:(0≤IntKind.i64.wrap (7*(i:Int)))=True:=eq_true (by rw[e7];omega);have e1:IntKind.i64.wrap ((i:Int)+1)=((i+1:Nat):Int):=by rw[QA];omega
    rw[JV]at hv;simp only[h0,h6,n0,g1,QP7,Zp,seval];by_cases h9:i=9
    · have e9:((i:Int)==9)=true:=by simp;omega
      simp only[e9,Zp,seval];refine QI (fun hc1=>?_) (fun hc1=>?_)
      · have hc1 : 1 < c.toNat:=by (have hc1 : (1 : Int) < c.toNat:=(by simpa using hc1));omega
        rw[QO9 ⟨h9,hc1⟩]at hv;simp only[←hv,Pv,Zp,seval]
      · have hc1 : c.toNat ≤ 1:=by (have hc1 : (c.toNat : Int) ≤ 1:=(by simpa using hc1));omega
        have hbad:¬(i=9∧1<c.toNat):=by omega
        rw[QOS hbad]at hv;have hd:=DW acc (c.toNat % 128) i hi ha (by omega) (fun _=>by omega);simp only[Pw,n7,hd,e1,h5,h6,Zp,seval];refine QI (fun hlt=>?_) (fun hlt=>?_)
        · have hlt:c.toNat<128:=by omega
          rw[QO9 hlt]at hv;simp only[←hv,Fk,QP5 hlt,h5,h6,Zp,seval]
        · exfalso;have hlt:(128:Int)≤c.toNat:=by simpa using hlt
          omega
    · have hbad:¬(i=9∧1<c.toNat):=by omega
      rw[QOS hbad]at hv;have e9:((i:Int)==9)=false:=by simp;omega
      have hd:=DW acc (c.toNat % 128) i hi ha (by omega) (fun e=>absurd e h9);simp only[e9,Pw,n7,hd,e1,h5,h6,Zp,seval];refine QI (fun hlt=>?_) (fun hlt=>?_)
      · have hlt : c.toNat < 128:=by (have hlt : (c.toNat : Int) < 128:=(by simpa using hlt));omega
        rw[QO9 hlt]at hv;simp only[←hv,Fk,QP5 hlt,h5,h6,Zp,seval]
      · have hlt : 128 ≤ c.toNat:=by (have hlt : (128 : Int) ≤ c.toNat:=(by simpa using hlt));omega
        rw[QOS (by omega)]at hv;simp only[Zp,seval];refine⟨s.length-(i+1),by omega,_,i+1,acc+c.toNat % 128*128 ^ i,rfl,rfl,?_,?_,?_,by omega,by omega,Bw ha (by omega),?_⟩
        · simp only[h0,Zp,seval]
        · simp only[Zp,seval]
        · simp only[Zp,seval]
        · rw[g2,←hv];have:=c.toNat_lt;rw[show c.toNat % 128=c.toNat-128 by omega]

theorem QsA {acc i:Nat}(hi:i≤9)(ha:acc<128 ^ i):acc<9223372036854775808:=by
 refine QOL ha ?_
 calc 128 ^ i≤128 ^ 9:=QQA (by omega) hi
  _≤_:=by decide
theorem QsB {i:Nat}(hi:i≤9):128 ^ i≤9223372036854775808:=by
 calc 128 ^ i≤128 ^ 9:=QQA (by omega) hi
  _≤_:=by decide
theorem Px {d i:Nat}(hi:i≤9)(hd:d<128)(h9:i=9→d≤1):d*128 ^ i≤9223372036854775808:=by
 rcases Nat.lt_or_ge i 9 with h|h
 ·have h1:128 ^ i≤128 ^ 8:=QQA (by omega) (by omega)
  calc d*128 ^ i≤127*128 ^ 8:=Nat.mul_le_mul (by omega) h1
   _≤_:=by decide
 ·have:i=9:=by omega
  calc d*128 ^ i≤1*9223372036854775808:=Nat.mul_le_mul (h9 this) (QsB hi)
   _≤_:=by decide
theorem DX (d i:Nat)(hi:i≤9)(hd:d<128)(h9:i=9→d≤1):IntKind.u64.wrap ((d:Int)*((128 ^ i:Nat):Int))=((d*128 ^ i:Nat):Int):=by
 have hb:=Px hi hd h9;have:((d*128 ^ i:Nat):Int)=(d:Int)*((128 ^ i:Nat):Int):=Int.natCast_mul ..;rw[XY,←this];omega
theorem GB (acc d i:Nat)(hi:i≤9)(ha:acc<128 ^ i)(hd:d<128)(h9:i=9→d≤1):IntKind.u64.wrap ((acc:Int)+((d*128 ^ i:Nat):Int))=((acc+d*128 ^ i:Nat):Int):=by
 have hb:=Px hi hd h9;have hc:=QsA hi ha;rw[XY];omega
theorem Sa (i:Nat)(hi:i<9):IntKind.u64.wrap (((128 ^ i:Nat):Int)*128)=((128 ^ (i+1):Nat):Int):=by
 have h:128 ^ i≤128 ^ 8:=QQA (by omega) (by omega);have h2:(128:Nat) ^ 8=72057594037927936:=by decide
 rw[XY,Nat.pow_succ];omega

def QsC (s:List UInt8)(k:Nat)(st:St):Prop :=
 ∃f i acc,st=⟨f,[QD],[]⟩∧k=s.length-i∧f 0=.str s∧f 5=.int .u64 (acc:Nat)∧f 6=.int .u64 ((128 ^ i:Nat):Int)∧f 7=.int .i64 (i:Nat)∧i≤s.length∧i≤9∧acc<128 ^ i∧JV i acc (s.drop i)=Vp.take s

theorem QJ8 (s:List UInt8):Qj Tryz.prog 172 [.str s] (tk (Vp.take s)):=by
  refine QIc.fn (by simp) ?_;simp only[Zp,seval];refine Qg (QsC s) _ ⟨_,0,0,rfl,rfl,rfl,rfl,rfl,rfl,QOM _,QOM _,by decide,rfl⟩ ?_;rintro n st ⟨f,i,acc,rfl,rfl,h0,h5,h6,h7,hil,hi,ha,hv⟩;have e10:decide ((i:Int)<10)=true:=by simp;omega
  simp only[h0,h7,e10,Zp,seval];refine QI (fun h=>?_) (fun h=>?_)
  · have h : i = s.length:=by (have h : (s.length : Int) ≤ i:=(by simpa using h));omega
    rw[QPh (by omega)]at hv;simp only[←hv,JV,Pu,Zp,seval]
  · have h : i < s.length:=by (have h : (i : Int) < s.length:=(by simpa using h));omega
    obtain⟨c,t,hc⟩:∃c t,s.drop i=c :: t:=by
      cases hd:s.drop i with
      |nil=>have:=congrArg List.length hd;simp at this;omega
      |cons c t=>exact⟨c,t,rfl⟩
    obtain⟨g1,g2,_⟩:=UI hc;rw[hc]at hv;have n0:(0≤(i:Int))=True:=by simp
    have e1:IntKind.i64.wrap ((i:Int)+1)=((i+1:Nat):Int):=by rw[QA];omega
    have hcl:=c.toNat_lt;have ec:IntKind.u64.wrap (c.toNat:Int)=(c.toNat:Int):=by rw[XY];omega
    rw[JV]at hv;simp only[h0,h7,n0,g1,ec,QP7,Zp,seval];by_cases h9:i=9
    · have e9:((i:Int)==9)=true:=by simp;omega
      simp only[e9,Zp,seval];refine QI (fun hc1=>?_) (fun hc1=>?_)
      · have hc1 : 1 < c.toNat:=by (have hc1 : (1 : Int) < c.toNat:=(by simpa using hc1));omega
        rw[QO9 ⟨h9,hc1⟩]at hv;simp only[←hv,Pv,Zp,seval]
      · have hc1 : c.toNat ≤ 1:=by (have hc1 : (c.toNat : Int) ≤ 1:=(by simpa using hc1));omega
        have hbad:¬(i=9∧1<c.toNat):=by omega
        rw[QOS hbad]at hv;have hm:=DX (c.toNat % 128) i hi (by omega) (fun _=>by omega);have hd:=GB acc (c.toNat % 128) i hi ha (by omega) (fun _=>by omega);simp only[Vl,hm,hd,h5,h6,Zp,seval];refine QI (fun hlt=>?_) (fun hlt=>?_)
        · have hlt:c.toNat<128:=by omega
          rw[QO9 hlt]at hv;simp only[←hv,Fk,QP5 hlt,e1,h5,h7,Zp,seval]
        · exfalso;have hlt:(128:Int)≤c.toNat:=by simpa using hlt
          omega
    · have hbad:¬(i=9∧1<c.toNat):=by omega
      rw[QOS hbad]at hv;have e9:((i:Int)==9)=false:=by simp;omega
      have hm:=DX (c.toNat % 128) i hi (by omega) (fun e=>absurd e h9);have hd:=GB acc (c.toNat % 128) i hi ha (by omega) (fun e=>absurd e h9);have hp:=Sa i (by omega);simp only[e9,Vl,hm,hd,h5,h6,Zp,seval];refine QI (fun hlt=>?_) (fun hlt=>?_)
      · have hlt : c.toNat < 128:=by (have hlt : (c.toNat : Int) < 128:=(by simpa using hlt));omega
        rw[QO9 hlt]at hv;simp only[←hv,Fk,QP5 hlt,e1,h5,h7,Zp,seval]
      · have hlt : 128 ≤ c.toNat:=by (have hlt : (128 : Int) ≤ c.toNat:=(by simpa using hlt));omega
        rw[QOS (by omega)]at hv;simp only[hp,e1,h6,h7,Zp,seval];refine⟨s.length-(i+1),by omega,_,i+1,acc+c.toNat % 128*128 ^ i,rfl,rfl,?_,?_,?_,?_,by omega,by omega,Bw ha (by omega),?_⟩
        · simp only[h0,Zp,seval]
        · simp only[Zp,seval]
        · simp only[Zp,seval]
        · simp only[Zp,seval]
        · rw[g2,←hv];rw[show c.toNat % 128=c.toNat-128 by omega]

open Cp

theorem c88 (c:C):Qj Tryz.prog 88 [c.av] (.bool c.sound):=by
 refine k88.fn (by simp) ?_;simp only[C.av,eE,seval]
 repeat' (first|(refine QI (fun h=>?_) (fun h=>?_)<;>simp only[h,eE,seval])|(refine Xk (fun h=>?_) (fun h=>?_)<;>simp only[h,Qk,eE,seval])|(refine Xl (fun h=>?_) (fun h=>?_)<;>simp only[h,Qk,eE,seval]))
 all_goals(simp_all[C.sound]<;>omega)

theorem QsE (c:C):Qj Tryz.prog 121 [c.av] (.bool c.sound):=by
 refine QIu.fn (by simp) ?_;simp only[C.av,eE,seval]
 repeat' (first|(refine QI (fun h=>?_) (fun h=>?_)<;>simp only[h,eE,seval])|(refine Xk (fun h=>?_) (fun h=>?_)<;>simp only[h,Qk,eE,seval])|(refine Xl (fun h=>?_) (fun h=>?_)<;>simp only[h,Qk,eE,seval]))
 all_goals(simp_all[C.sound]<;>omega)

theorem CE (c:C)(n:Int):Qj Tryz.prog 141 [c.av,.int .i64 n] (c.ahead n).av:=by
 refine Qdc.fn (by simp) ?_;simp only[C.av,C.ahead,eE,seval]

theorem CF (c:C)(n:Int):Qj Tryz.prog 173 [c.av,.int .i64 n] (c.ahead n).av:=by
 refine QID.fn (by simp) ?_;simp only[C.av,C.ahead,eE,seval]

theorem c24 (s:List UInt8)(l:L):Qj Tryz.prog 24 [.str s,l.av] (Z6 (opn s l)):=by
 refine k24.fn (by simp) ?_;simp only[L.av,eE,seval]
 repeat' (first|(refine QI (fun h=>?_) (fun h=>?_)<;>simp only[h,eE,seval])|(refine Xk (fun h=>?_) (fun h=>?_)<;>simp only[h,Qk,eE,seval])|(refine Xl (fun h=>?_) (fun h=>?_)<;>simp only[h,Qk,eE,seval]))
 all_goals((try simp only[QP1,QQw]at *)<;>unfold opn<;>(repeat' split)<;>first|rfl|(exfalso;omega))

theorem c20 (s:List UInt8)(l:L):Qj Tryz.prog 20 [.str s,l.av] (Z6 (opn s l)):=by
 refine k20.fn (by simp) ?_;simp only[L.av,eE,seval]
 repeat' (first|(refine QI (fun h=>?_) (fun h=>?_)<;>simp only[h,eE,seval])|(refine Xk (fun h=>?_) (fun h=>?_)<;>simp only[h,Qk,eE,seval])|(refine Xl (fun h=>?_) (fun h=>?_)<;>simp only[h,Qk,eE,seval]))
 all_goals((try simp only[QP1,QQw]at *)<;>unfold opn<;>(repeat' split)<;>first|rfl|(exfalso;omega))

theorem c47 (c:C)(n:Int):Qj Tryz.prog 47 [c.av,.int .i64 n] (Z6 (c.spend n)):=by
 refine k47.fn (by simp) ?_;simp only[C.av,eE,seval]
 repeat' (first|(refine QI (fun h=>?_) (fun h=>?_)<;>simp only[h,eE,seval])|(refine Xk (fun h=>?_) (fun h=>?_)<;>simp only[h,Qk,eE,seval])|(refine Xl (fun h=>?_) (fun h=>?_)<;>simp only[h,Qk,eE,seval]))
 all_goals((try simp only[QP1,QQw]at *)<;>unfold C.spend<;>(repeat' split)<;>first|rfl|(exfalso;omega))

theorem DY (c:C)(n:Int):Qj Tryz.prog 21 [c.av,.int .i64 n] (Z6 (c.spend n)):=by
 refine k21.fn (by simp) ?_;simp only[C.av,eE,seval]
 repeat' (first|(refine QI (fun h=>?_) (fun h=>?_)<;>simp only[h,eE,seval])|(refine Xk (fun h=>?_) (fun h=>?_)<;>simp only[h,Qk,eE,seval])|(refine Xl (fun h=>?_) (fun h=>?_)<;>simp only[h,Qk,eE,seval]))
 all_goals((try simp only[QP1,QQw]at *)<;>unfold C.spend<;>(repeat' split)<;>first|rfl|(exfalso;omega))

theorem DZ (c:C)(hl:c.d.length≤9223372036854775807):Qj Tryz.prog 48 [c.av] (.int .i64 c.left):=by
 refine k48.fn (by simp) ?_;simp only[C.av,eE,seval];refine Qa (c88 c) rfl rfl rfl (.inl rfl) ?_;have hr:=c.rest_len;cases hs:c.sound with
 |false=>
  rw[hs,QOS (by simp)]at hr;simp only[QPM,hr,Qb,seval]
 |true=>
  rw[hs,QO9 rfl]at hr;have h:=(C.sound_iff c).1 hs;have e1:IntKind.i64.wrap (c.e-c.a)=c.e-c.a:=by rw[QA];omega
  simp only[QQl,hr,e1,eE,seval]

theorem QsF (c:C)(n:Nat)(hn:n≤1000)(hl:c.d.length≤9223372036854770000):Qj Tryz.prog 140 [c.av,.int .i64 (n:Int)] (.str (c.rest.take n)):=by
 refine Qc6.fn (by simp) ?_;simp only[C.av,eE,seval];refine Qa (c88 c) rfl rfl rfl (.inl rfl) ?_;cases hs:c.sound with
 |false=>
  simp only[QPM,C.rest_no hs,Qb,seval]
 |true=>
  have h:=(C.sound_iff c).1 hs;have e1:IntKind.i64.wrap (c.a+n)=c.a+n:=by rw[QA];omega
  have hh:=C.head_of hs n _ rfl;generalize hk:(if c.a+n<c.e then c.a+n else c.e)=k at hh;have hk':c.a≤k∧k≤c.e:=by split at hk<;>omega
  have n1:(0≤c.a)=True:=eq_true h.1;have n2:(0≤k)=True:=eq_true (by omega);have n3:(c.a.toNat≤k.toNat∧k.toNat≤c.d.length)=True:=eq_true (by omega);simp only[QQl,e1,hk,n1,n2,n3,hh,eE,seval]

theorem Py (c:C):Qj Tryz.prog 73 [c.av] (.str c.rest):=by
 refine k73.fn (by simp) ?_;simp only[C.av,eE,seval];refine Qa (QsE c) rfl rfl rfl (.inl rfl) ?_;cases hs:c.sound with
 |false=>
  simp only[QPM,C.rest_no hs,Qb,seval]
 |true=>
  have h:=(C.sound_iff c).1 hs;have n1:(0≤c.a)=True:=eq_true h.1;have n2:(0≤c.e)=True:=eq_true (by omega);have n3:(c.a.toNat≤c.e.toNat∧c.e.toNat≤c.d.length)=True:=eq_true (by omega);simp only[QQl,n1,n2,n3,C.rest_of hs,eE,seval]

theorem Vm (c:C):Qj Tryz.prog 42 [c.av] (.int .i64 c.left):=by
 refine k42.fn (by simp) ?_;simp only[C.av,eE,seval];refine Qa (Py c) rfl rfl rfl (.inl rfl) ?_;simp only[C.left,Qb,seval]

theorem Vn (c:C)(hl:c.d.length≤9223372036854770000):Qj Tryz.prog 89 [c.av] (X3 c.varint):=by
 refine k89.fn (by simp) ?_;simp only[C.av,eE,seval];refine Qa (QsF c 10 (by omega) hl) rfl rfl rfl (.inl rfl) ?_;refine Qa (QJ7 (c.rest.take 10)) rfl rfl rfl (.inl rfl) ?_;rw[take_take];unfold C.varint;generalize Vp.take c.rest=r;obtain⟨u,n,e⟩:=r;simp only[tk,Qb,seval];refine QI (fun h=>?_) (fun h=>?_)
 ·have h:¬e=0:=by simpa using h
  simp only[h,X3,C.av,eE,seval]
  try rfl
 ·have h:e=0:=by simpa using h
  subst h;simp only[eE,seval];refine Qa (CE c (n:Int)) rfl rfl rfl (.inl rfl) ?_;simp only[X3,C.av,C.ahead,eE,seval]
  try rfl

theorem CG (c:C):Qj Tryz.prog 122 [c.av] (X3 c.varint):=by
 refine QIA.fn (by simp) ?_;simp only[C.av,eE,seval];refine Qa (Py c) rfl rfl rfl (.inl rfl) ?_;refine Qa (QJ8 c.rest) rfl rfl rfl (.inl rfl) ?_;unfold C.varint;generalize Vp.take c.rest=r;obtain⟨u,n,e⟩:=r;simp only[tk,Qb,seval];refine QI (fun h=>?_) (fun h=>?_)
 ·have h:¬e=0:=by simpa using h
  simp only[h,X3,C.av,eE,seval]
  try rfl
 ·have h:e=0:=by simpa using h
  subst h;simp only[eE,seval];refine Qa (CF c (n:Int)) rfl rfl rfl (.inl rfl) ?_;simp only[X3,C.av,C.ahead,eE,seval]
  try rfl

theorem Qr {a:Nat}(h:¬a=0):((a:Int) != 0)=true:=by simp[h]
def UJ (s:List UInt8):Nat→Nat
 |0=>0
 |k+1=>UJ s k+((s[k]?).getD 0).toNat*256 ^ k

theorem Pz (s:List UInt8)(k:Nat):UJ s k<256 ^ k:=by
 induction k with
 |zero=>exact Nat.one_pos
 |succ k ih=>
  have h1:=((s[k]?).getD 0).toNat_lt;have h2:((s[k]?).getD 0).toNat*256 ^ k≤255*256 ^ k:=QPK _ (by omega);rw[UJ,Nat.pow_succ];omega

theorem D0 (b:UInt8):∀(l:List UInt8) (z:Nat),l.foldr (fun b v=>256*v+b.toNat) z=l.foldr (fun b v=>256*v+b.toNat) 0+z*256 ^ l.length
 | [],z=>by simp
 |a :: l,z=>by
  rw[List.foldr_cons,List.foldr_cons,D0 b l z,QOT,Nat.pow_succ];rw[Nat.mul_add,←Nat.mul_assoc,Nat.mul_comm 256 z,Nat.mul_assoc z,Nat.mul_comm 256 (256 ^ _)];omega

theorem Bx (s:List UInt8):∀(k:Nat),k≤s.length→(s.take k).foldr (fun b v=>256*v+b.toNat) 0=UJ s k
 |0,_=>rfl
 |k+1,h=>by
  rw[QOY (by omega),List.foldr_append,List.foldr_cons,List.foldr_nil,D0 0,Bx s k (by omega),UJ];rw[QOH (by omega),QPB,QPU (by omega)];simp

theorem Sb (s:List UInt8)(h:8≤s.length):UD s=UJ s 8:=Bx s 8 h

theorem CH (s:List UInt8)(k:Nat)(h:k<s.length)(hk:k<8):((s.take 8).drop k).foldr (fun b v=>256*v+b.toNat) 0=256*((s.take 8).drop (k+1)).foldr (fun b v=>256*v+b.toNat) 0+((s[k]?).getD 0).toNat:=by
 have hl:k<(s.take 8).length:=by simp;omega
 rw[QPo hl,List.foldr_cons];rw[QOH h];simp

def CJ (s:List UInt8)(k:Nat)(st:St):Prop :=
 ∃f i,st=⟨f,[QD],[]⟩∧k=8-i∧i≤8∧f 0=.str s∧f 4=.int .u64 (UJ s i:Nat)∧f 9=.int .i64 (i:Nat)

theorem Sc (s:List UInt8)(i:Nat)(c:UInt8)(hi:i<8)(hc:s[i]? = some c) :
  bits .or .u64 (UJ s i:Int) (IntKind.u64.wrap (IntKind.u64.wrap (c.toNat:Int)*2 ^ min (IntKind.i64.wrap (8*(i:Int))).toNat 64))=(UJ s (i+1):Nat):=by
 have e1:IntKind.i64.wrap (8*(i:Int))=((8*i:Nat):Int):=by rw[QA];omega
 have hp:256 ^ i=2 ^ (8*i):=by rw[Nat.pow_mul]
 have hcl:=c.toNat_lt;have hlt:=Pz s (i+1);have hlt0:=Pz s i;rw[UJ,hc]at hlt;simp only[QPP]at hlt;have h8:256 ^ (i+1)≤256 ^ 8:=QQA (by omega) (by omega);have h88:(256:Nat) ^ 8=18446744073709551616:=by decide
 have e2:IntKind.u64.wrap (c.toNat:Int)=(c.toNat:Int):=by rw[XY];omega
 have e3:IntKind.u64.wrap ((c.toNat:Int)*2 ^ (8*i))=((c.toNat*256 ^ i:Nat):Int):=by
  have:((c.toNat*2 ^ (8*i):Nat):Int)=(c.toNat:Int)*2 ^ (8*i):=by push_cast;rfl
  rw[XY,←this,hp];rw[hp]at hlt;omega
 rw[e1,QP7,QPU (by omega),e2,e3,Pl _ _ (by omega) (by omega),UJ,hc];congr 1
 rw[hp]at hlt0 ⊢;have:=Nat.two_pow_add_eq_or_of_lt hlt0 c.toNat;simp only[QPP];rw[Nat.or_comm,Nat.mul_comm c.toNat,←this,Nat.add_comm]

def PA (s:List UInt8):AV:=if s.length<8 then .tup [.int .u64 0,.int .i64 4]else .tup [.int .u64 (UD s:Nat),.int .i64 0]

theorem QsG (s:List UInt8):Qj Tryz.prog 188 [.str s] (PA s):=by
 refine QF2.fn (by simp) ?_;simp only[Qb,seval];refine QI (fun h=>?_) (fun h=>?_)
 ·have h : s.length < 8:=by (have h : (s.length : Int) < 8:=(by simpa using h));omega
  simp only[PA,h,Qb,seval]
 ·have h : ¬ s.length < 8:=by (have h : ¬ (s.length : Int) < 8:=(by simpa using h));omega
  simp only[Qb,seval];refine Qg (CJ s) _ ⟨_,0,rfl,rfl,by omega,rfl,rfl,rfl⟩ ?_;rintro n st ⟨f,i,rfl,rfl,hi,h0,h4,h9⟩;simp only[h9,Qb,seval];refine QI (fun hc=>?_) (fun hc=>?_)
  ·have hc : i < 8:=by (have hc : (i : Int) < 8:=(by simpa using hc));omega
   have n0:(0≤(i:Int))=True:=by simp
   obtain⟨b,hb⟩:∃b,s[i]? = some b:=⟨s[i],QOH (by omega)⟩;have e1:IntKind.i64.wrap ((i:Int)+1)=((i+1:Nat):Int):=by rw[QA];omega
   have e0:IntKind.i64.wrap (8*(i:Int))=((8*i:Nat):Int):=by rw[QA];omega
   have n8:(0≤IntKind.i64.wrap (8*(i:Int)))=True:=eq_true (by rw[e0];omega);have ha:=Sc s i b hc hb;simp only[n0,QP7,hb,n8,ha,e1,h0,h4,h9,Qb,seval];exact⟨8-(i+1),by omega,_,i+1,rfl,rfl,by omega,by simp only[h0,Qb,seval],by simp only[Qb,seval],by simp only[Qb,seval]⟩
  ·have hc : i = 8:=by (have hc : ¬ (i : Int) < 8:=(by simpa using hc));omega
   subst hc;simp only[h4,Qb,seval];rw[PA,QOS h,Sb s (by omega)]

theorem QsH (c:C)(hl:c.d.length≤9223372036854770000):Qj Tryz.prog 153 [c.av] (X3 c.fixed):=by
 refine QFU.fn (by simp) ?_;simp only[C.av,eE,seval];refine Qa (QsF c 8 (by omega) hl) rfl rfl rfl (.inl rfl) ?_;have h8:UD (c.rest.take 8)=UD c.rest:=by simp[UD,List.take_take]
 have hlen:(c.rest.take 8).length<8↔c.rest.length<8:=by simp;omega
 by_cases h:c.rest.length<8
 ·have ht:=QsG (c.rest.take 8);rw[PA,QO9 (hlen.2 h)]at ht;refine Qa ht rfl rfl rfl (.inl rfl) ?_;simp only[show(((4:Int) != 0)=true)from rfl,C.fixed,X3,h,C.av,eE,seval]
  try rfl
 ·have ht:=QsG (c.rest.take 8);rw[PA,QOS (fun h'=>h (hlen.1 h')),h8]at ht;refine Qa ht rfl rfl rfl (.inl rfl) ?_;simp only[bne_self_eq_false,eE,seval];refine Qa (CE c 8) rfl rfl rfl (.inl rfl) ?_;simp only[X3,C.fixed,h,C.av,C.ahead,eE,seval]
  try rfl

theorem HL:∀(l:List UInt8),l.foldr (fun b v=>256*v+b.toNat) 0<256 ^ l.length
 | []=>by simp
 |b :: l=>by
  have h:=HL l;have hb:=b.toNat_lt;rw[List.foldr_cons,QOT,Nat.pow_succ];omega

def GC (s:List UInt8)(i:Nat):Nat:=((s.take 8).drop i).foldr (fun b v=>256*v+b.toNat) 0

theorem Sd (s:List UInt8)(i:Nat)(hi:i<8)(hs:8≤s.length)(c:UInt8)(hc:s[i]? = some c):IntKind.u64.wrap (IntKind.u64.wrap ((GC s (i+1):Nat)*256:Int)+IntKind.u64.wrap (c.toNat:Int))=((GC s i:Nat):Int)∧IntKind.u64.wrap (IntKind.u64.wrap (256*(GC s (i+1):Nat):Int)+IntKind.u64.wrap (c.toNat:Int))=((GC s i:Nat):Int):=by
 have h:=CH s i (by omega) hi;rw[hc]at h;simp only[QPP]at h;have h:GC s i=256*GC s (i+1)+c.toNat:=h;have hlt:GC s i<256 ^ (8-i):=by
  have:=HL ((s.take 8).drop i);rw[QPl,QPB,QPU hs]at this;exact this
 have h8:256 ^ (8-i)≤256 ^ 8:=QQA (by omega) (by omega);have h88:(256:Nat) ^ 8=18446744073709551616:=by decide
 have hcl:=c.toNat_lt
 constructor<;>(simp only[XY];omega)

def L1 (s:List UInt8)(fr:Nat→Ob)(k:Nat)(st:St):Prop :=
 ∃f,∃i:Nat,st=⟨f,[fr],[]⟩∧k=i∧i≤8∧f 1=.ptr 0 1 0∧f 3=.ptr 0 3 0∧f 5=.str s∧f 6=.int .u64 (GC s i:Nat)∧f 7=.int .i64 ((i:Int)-1)

theorem QsI (c:C):Qj Tryz.prog 174 [c.av] (X3 c.fixed):=by
  refine QIo.fn (by simp) ?_;simp only[C.av,eE,seval];refine Qa (Py c) rfl rfl rfl (.inl rfl) ?_;simp only[Qb,seval];refine QI (fun h=>?_) (fun h=>?_)
  · have h : c.rest.length < 8:=by (have h : (c.rest.length : Int) < 8:=(by simpa using h));omega
    simp only[C.fixed,X3,h,C.av,eE,seval]
    try rfl
  · have h : ¬ c.rest.length < 8:=by (have h : ¬ (c.rest.length : Int) < 8:=(by simpa using h));omega
    simp only[Qb,seval];refine Qg (L1 c.rest _) _ ⟨_,8,rfl,rfl,by omega,rfl,rfl,rfl,?_,rfl⟩ ?_
    · simp[GC,Zp,seval]
    rintro n st ⟨f,i,rfl,rfl,hi,h1,h3,h5,h6,h7⟩;simp only[h7,Qb,seval];refine QI (fun hc=>?_) (fun hc=>?_)
    · have hc : 1 ≤ n:=by (have hc : (0 : Int) ≤ (n : Int) - 1:=(by simpa using hc));omega
      obtain⟨i,rfl⟩:∃i,n=i+1:=⟨n-1,by omega⟩;have e0:(((i+1:Nat):Int)-1)=(i:Int):=by omega
      have n0:(0≤(i:Int))=True:=by simp
      obtain⟨b,hb⟩:∃b,c.rest[i]? = some b:=⟨c.rest[i],QOH (by omega)⟩;have e1:IntKind.i64.wrap ((i:Int)-1)=(i:Int)-1:=by rw[QA];omega
      have ha:=(Sd c.rest i (by omega) (by omega) b hb).1;simp only[e0,n0,QP7,hb,ha,e1,h5,h6,h7,Qb,seval];exact⟨i,by omega,_,i,rfl,rfl,by omega,by simp only[h1,Qb,seval],by simp only[h3,Qb,seval],by simp only[h5,Qb,seval],by simp only[Qb,seval],by simp only[Qb,seval]⟩
    · have hc : n = 0:=by (have hc : ¬ (0 : Int) ≤ (n : Int) - 1:=(by simpa using hc));omega
      subst hc;simp only[h1,h6,eE,seval];refine Qa (CF c 8) rfl rfl rfl (.inl rfl) ?_;simp only[X3,C.fixed,h,C.av,C.ahead,h3,eE,seval]
      try rfl

def TK (n:Int):Prop:=-9223372036854775808≤n∧n<9223372036854775808

def Zd (c:C):Int×C×Nat:=match c.rest with
 | []=>(0,c,4)
 |b :: _=>((b.toNat:Int),c.ahead 1,0)
def UK (r:Int×C×Nat):AV:=.tup [.int .u8 r.1,r.2.1.av,.int .i64 (r.2.2:Nat)]

def text (c:C)(n:Int):List UInt8×C×Nat :=
 if n<0 then([],c,1)else if c.left<n then([],c,4)else if c.tx<n then([],c,3)else(c.rest.take n.toNat,c.ahead n,0)
def HM (r:List UInt8×C×Nat):AV:=.tup [.str r.1,r.2.1.av,.int .i64 (r.2.2:Nat)]

def enter (c:C)(n:Int):C×Nat :=
 if n<0 then(c,1)else if c.left<n then(c,4)else if c.dp<1 then(c,17)else({ c with e:=IntKind.i64.wrap (c.a+n),dp:=IntKind.i64.wrap (c.dp-1) },0)

def J6 (c i:C):C :=
 if ¬c.sound=true∨i.e<c.a∨c.e<i.e∨i.nd<0∨c.nd<i.nd then c else { c with a:=i.e,nd:=i.nd }

theorem D1 {c:C}{b:UInt8}{t:List UInt8}(h:c.rest=b :: t):c.sound=true∧0≤c.a∧c.d[c.a.toNat]? = some b∧1≤c.left:=by
 have hs:c.sound=true:=by
  cases hs:c.sound with
  |true=>rfl
  |false=>rw[C.rest_no hs]at h;cases h
 have hh:=(C.sound_iff c).1 hs;rw[C.rest_of hs]at h;have h0:=congrArg (fun l=>l[0]?) h;simp only[QPj,QPk,QPH,QPb]at h0;have hl:=congrArg List.length h;simp only[QPB,QPl,QOT]at hl;refine⟨hs,hh.1,?_,?_⟩
 ·split at h0
  ·exact h0
  ·cases h0
 ·have:=c.rest_len;rw[QO9 hs]at this;omega

theorem QJ9 (c:C)(hl:c.d.length≤9223372036854775807):Qj Tryz.prog 147 [c.av] (UK (Zd c)):=by
 refine QdV.fn (by simp) ?_;simp only[C.av,eE,seval];refine Qa (DZ c hl) rfl rfl rfl (.inl rfl) ?_;unfold Zd;cases hr:c.rest with
 |nil=>
  have h0:c.left=0:=by unfold C.left;rw[hr]<;>rfl
  have d0:decide (c.left<1)=true:=by rw[h0]<;>rfl
  simp only[d0,UK,C.av,eE,seval]
  try rfl
 |cons b t=>
  obtain⟨h1,h2,h3,h4⟩:=D1 hr;have d0:decide (c.left<1)=false:=by simp;omega
  have n1:(0≤c.a)=True:=eq_true h2;simp only[d0,n1,h3,eE,seval];refine Qa (CE c 1) rfl rfl rfl (.inl rfl) ?_;simp only[UK,C.av,C.ahead,eE,seval]
  try rfl

theorem QKa (c:C):Qj Tryz.prog 130 [c.av] (UK (Zd c)):=by
 refine QIi.fn (by simp) ?_;simp only[C.av,eE,seval];refine Qa (Py c) rfl rfl rfl (.inl rfl) ?_;unfold Zd;cases hr:c.rest with
 |nil=>
  simp only[Q2,UK,C.av,QPO,eE,seval]
  try rfl
 |cons b t=>
  have d0:((b :: t)==[])=false:=rfl;simp only[Q2,d0,Int.toNat_zero,eE,seval];refine Qa (CF c 1) rfl rfl rfl (.inl rfl) ?_;simp only[UK,C.av,C.ahead,eE,seval]
  try rfl

theorem QKb (c:C)(n:Nat)(hs:c.sound=true)(hn:(n:Int)≤c.left)(hl:c.d.length≤9223372036854775807):Qj Tryz.prog 205 [c.av,.int .i64 (n:Int)] (.list (Xm (c.rest.take n))):=by
 have h:=(C.sound_iff c).1 hs;have hr:=c.rest_len;rw[QO9 hs]at hr;have e1:IntKind.i64.wrap (c.a+n)=c.a+n:=by rw[QA];omega
 have n1:(0≤c.a)=True:=eq_true h.1;have n2:(0≤c.a+(n:Int))=True:=eq_true (by omega);have n3:(c.a.toNat≤(c.a+(n:Int)).toNat∧(c.a+(n:Int)).toNat≤c.d.length)=True:=eq_true (by omega);have n0:(0≤(n:Int))=True:=by simp
 have ht:(c.d.drop c.a.toNat).take ((c.a+(n:Int)).toNat-c.a.toNat)=c.rest.take n:=by
  rw[C.rest_of hs,List.take_take];congr 1
  omega
 have hlen:(c.rest.take n).length=n:=by
  have:(c.rest.length:Int)=c.left:=rfl;rw[QPB];omega
 refine QGt.fn (by simp) ?_;simp only[e1,n1,n2,n3,ht,C.av,eE,seval];refine RD rfl (by rw[hlen];omega) rfl ?_;have hb:(Xm (c.rest.take n)).length=n:=by rw[Xm,QPz,hlen]
 have n4:(0+0+(n-0)≤(Xm (c.rest.take n)).length)=True:=eq_true (by rw[hb];omega);have n5:(n≤n)=True:=eq_true (QOE n);have n6:(0≤n)=True:=eq_true (QOM n);have h5:((Xm (c.rest.take n)).drop (0+0)).take (n-0)=Xm (c.rest.take n):=by
  simp only[QPb,QPn,QPD];exact QPe (by rw[hb];exact QOE _)
 simp only[n0,n4,n5,n6,hlen,QP7,QQu,Bool.or_true,bne_self_eq_false,eE,seval];rw[QPe (by rw[hb];omega)]

theorem QKc (c:C)(n:Int)(ha:TK c.a)(hl:c.d.length≤9223372036854775807):Qj Tryz.prog 183 [c.av,.int .i64 n] (HM (text c n)):=by
 refine QGn.fn (by simp) ?_;simp only[C.av,eE,seval];by_cases h1:n<0
 ·have d1:decide (n<0)=true:=by simpa using h1
  simp only[d1,eE,seval];rw[text,QO9 h1];rfl
 ·have d1:decide (n<0)=false:=by simpa using h1
  simp only[d1,eE,seval];refine Qa (DZ c hl) rfl rfl rfl (.inl rfl) ?_;by_cases h2:c.left<n
  ·have d2:decide (c.left<n)=true:=by simpa using h2
   simp only[d2,eE,seval];rw[text,QOS h1,QO9 h2];rfl
  ·have d2:decide (c.left<n)=false:=by simpa using h2
   by_cases h3:c.tx<n
   ·have d3:decide (c.tx<n)=true:=by simpa using h3
    simp only[d2,d3,eE,seval];rw[text,QOS h1,QOS h2,QO9 h3];rfl
   ·have d3:decide (c.tx<n)=false:=by simpa using h3
    by_cases h4:n=0
    ·subst h4;simp only[d2,d3,QPO,eE,seval];rw[text,QOS h1,QOS h2,QOS h3];have e:IntKind.i64.wrap (c.a+0)=c.a:=by rw[QA];unfold TK at ha;omega
     simp only[HM,C.ahead,C.av,e,Int.toNat_zero,QPN];rfl
    ·have d4:(n==0)=false:=by simpa using h4
     simp only[d2,d3,d4,eE,seval];obtain⟨k,rfl⟩:=QQm (show 0≤n by omega);have hs:c.sound=true:=by
      have hr:=c.rest_len;split at hr
      ·assumption
      ·omega
     refine Qa (QKb c k hs (by omega) hl) rfl rfl rfl (.inl rfl) ?_;have hb:=CD (c.rest.take k);have hb:bytesOf (Xm (c.rest.take k))=some (c.rest.take k):=hb;simp only[QY,hb,eE,seval];refine Qa (CE c (k:Int)) rfl rfl rfl (.inl rfl) ?_;rw[text,QOS h1,QOS h2,QOS h3];simp only[HM,C.av,C.ahead,QP7,eE,seval]
     try rfl

theorem QKd (c:C)(n:Int):Qj Tryz.prog 178 [c.av,.int .i64 n] (HM (text c n)):=by
 refine QIx.fn (by simp) ?_;simp only[C.av,eE,seval];refine Qa (Py c) rfl rfl rfl (.inl rfl) ?_;have hcl:(c.rest.length:Int)=c.left:=rfl;simp only[Qb,seval];by_cases h1:n<0
 ·have d1:decide (n<0)=true:=by simpa using h1
  simp only[d1,eE,seval];rw[text,QO9 h1];rfl
 ·have d1:decide (n<0)=false:=by simpa using h1
  by_cases h2:c.left<n
  ·have d2:decide (c.left<n)=true:=by simpa using h2
   simp only[d1,d2,hcl,eE,seval];rw[text,QOS h1,QO9 h2];rfl
  ·have d2:decide (c.left<n)=false:=by simpa using h2
   by_cases h3:c.tx<n
   ·have d3:decide (c.tx<n)=true:=by simpa using h3
    simp only[d1,d2,d3,hcl,eE,seval];rw[text,QOS h1,QOS h2,QO9 h3];rfl
   ·have d3:decide (c.tx<n)=false:=by simpa using h3
    have n0:(0≤n)=True:=eq_true (by omega);have n1:(0≤n.toNat∧n.toNat≤c.rest.length)=True:=eq_true (by omega);simp only[d1,d2,d3,hcl,n0,n1,QPD,eE,seval];refine Qa (CF c n) rfl rfl rfl (.inl rfl) ?_;rw[text,QOS h1,QOS h2,QOS h3];simp only[HM,C.av,C.ahead,eE,seval]
    try rfl

theorem QKe (c:C)(n:Int)(hl:c.d.length≤9223372036854775807):Qj Tryz.prog 181 [c.av,.int .i64 n] (Z6 (enter c n)):=by
 refine QGh.fn (by simp) ?_;simp only[C.av,eE,seval];by_cases h1:n<0
 ·have d1:decide (n<0)=true:=by simpa using h1
  simp only[d1,eE,seval];rw[enter,QO9 h1];rfl
 ·have d1:decide (n<0)=false:=by simpa using h1
  simp only[d1,eE,seval];refine Qa (DZ c hl) rfl rfl rfl (.inl rfl) ?_;simp only[Qb,seval]
  repeat' (first|(refine QI (fun h=>?_) (fun h=>?_)<;>simp only[h,eE,seval])|(refine Xk (fun h=>?_) (fun h=>?_)<;>simp only[h,Qk,eE,seval])|(refine Xl (fun h=>?_) (fun h=>?_)<;>simp only[h,Qk,eE,seval]))
  all_goals((try simp only[QP1,QQw]at *)<;>unfold enter<;>(repeat' split)<;>first|rfl|(exfalso;omega))

theorem QKf (c:C)(n:Int):Qj Tryz.prog 176 [c.av,.int .i64 n] (Z6 (enter c n)):=by
 refine QIl.fn (by simp) ?_;simp only[C.av,eE,seval];by_cases h1:n<0
 ·have d1:decide (n<0)=true:=by simpa using h1
  simp only[d1,eE,seval];rw[enter,QO9 h1];rfl
 ·have d1:decide (n<0)=false:=by simpa using h1
  simp only[d1,eE,seval];refine Qa (Vm c) rfl rfl rfl (.inl rfl) ?_;simp only[Qb,seval]
  repeat' (first|(refine QI (fun h=>?_) (fun h=>?_)<;>simp only[h,eE,seval])|(refine Xk (fun h=>?_) (fun h=>?_)<;>simp only[h,Qk,eE,seval])|(refine Xl (fun h=>?_) (fun h=>?_)<;>simp only[h,Qk,eE,seval]))
  all_goals((try simp only[QP1,QQw]at *)<;>unfold enter<;>(repeat' split)<;>first|rfl|(exfalso;omega))

theorem QKg (c i:C):Qj Tryz.prog 182 [c.av,i.av] (J6 c i).av:=by
 refine QGk.fn (by simp) ?_;simp only[C.av,eE,seval];refine Qa (c88 c) rfl rfl rfl (.inl rfl) ?_;unfold J6;cases hs:c.sound with
 |false=>simp only[QOX,not_false_eq_true,true_or,eE,seval]
 |true=>
  simp only[eE,seval]
  repeat' (first|(refine QI (fun h=>?_) (fun h=>?_)<;>simp only[h,eE,seval])|(refine Xk (fun h=>?_) (fun h=>?_)<;>simp only[h,Qk,eE,seval])|(refine Xl (fun h=>?_) (fun h=>?_)<;>simp only[h,Qk,eE,seval]))
  all_goals((try simp only[QP1,QQw]at *)<;>(first|rw[QOS (by simp;omega)]|rw[QO9 (by simp;omega)]))

theorem QKh (c i:C):Qj Tryz.prog 177 [c.av,i.av] (J6 c i).av:=by
 refine QIr.fn (by simp) ?_;simp only[C.av,eE,seval];refine Qa (QsE c) rfl rfl rfl (.inl rfl) ?_;unfold J6;cases hs:c.sound with
 |false=>simp only[QOX,not_false_eq_true,true_or,eE,seval]
 |true=>
  simp only[eE,seval]
  repeat' (first|(refine QI (fun h=>?_) (fun h=>?_)<;>simp only[h,eE,seval])|(refine Xk (fun h=>?_) (fun h=>?_)<;>simp only[h,Qk,eE,seval])|(refine Xl (fun h=>?_) (fun h=>?_)<;>simp only[h,Qk,eE,seval]))
  all_goals((try simp only[QP1,QQw]at *)<;>(first|rw[QOS (by simp;omega)]|rw[QO9 (by simp;omega)]))

open Up

theorem QKi (w:Int):Qj Tryz.prog 175 [.int .i64 w] (.bool (Wd w)):=by
 refine QIM.fn (by simp) ?_;simp only[Qb,seval]
 repeat' (first|(refine QI (fun h=>?_) (fun h=>?_)<;>simp only[h,eE,seval])|(refine Xk (fun h=>?_) (fun h=>?_)<;>simp only[h,Qk,eE,seval])|(refine Xl (fun h=>?_) (fun h=>?_)<;>simp only[h,Qk,Qb,seval]))
 all_goals simp_all[Wd]

theorem Bz {u:Nat}(h:¬(u / 8<1∨65535<u / 8)):IntKind.i64.wrap (IntKind.u64.wrap ((u:Int).tdiv 8))=((u / 8:Nat):Int)∧IntKind.i64.wrap ((u:Int).tmod 8)=((u % 8:Nat):Int):=by
 have e1:(u:Int).tdiv 8=((u / 8:Nat):Int):=by rw[QQH (by omega)];omega
 have e2:(u:Int).tmod 8=((u % 8:Nat):Int):=by rw[QQG (by omega)];omega
 rw[e1,e2];simp only[XY,QA];omega

theorem c49 (c:C)(hl:c.d.length≤9223372036854770000):Qj Tryz.prog 49 [c.av] (Wt (Qw c)):=by
  refine k49.fn (by simp) ?_;simp only[C.av,eE,seval];refine Qa (Vn c hl) rfl rfl rfl (.inl rfl) ?_;have hv:=fun h=>XS (c:=c) (by omega) h
  unfold Qw;generalize c.varint=r at hv ⊢;obtain⟨u,d,e⟩:=r;simp only[X3,C.av,eE,seval]at hv ⊢;refine QI (fun h=>?_) (fun h=>?_)
  · have h:¬e=0:=by simpa using h
    simp only[h,Wt,C.av,eE,seval]
  · have h:e=0:=by simpa using h
    subst h;obtain⟨n,_,_,_,_,_,_,hu⟩:=hv rfl;have e1:(u:Int).tdiv 8=((u / 8:Nat):Int):=by rw[QQH (by omega)];omega
    have e2:(u:Int).tmod 8=((u % 8:Nat):Int):=by rw[QQG (by omega)];omega
    have e3:IntKind.u64.wrap ((u / 8:Nat):Int)=((u / 8:Nat):Int):=by rw[XY];omega
    simp only[e2,show(((8:Int)=0))=False from by simp,Qb,seval];refine QI (fun h=>?_) (fun h=>?_)
    · have h : u % 8 = 7:=by (have h : ((u % 8 : Nat) : Int) = 7:=(by simpa using h));omega
      simp only[h,Wt,C.av,eE,seval]
      try rfl
    · have h7 : ¬ u % 8 = 7:=by (have h : ¬ ((u % 8 : Nat) : Int) = 7:=(by simpa using h));omega
      simp only[e1,e3,show(((8:Int)=0))=False from by simp,Qb,seval];by_cases hb:u / 8<1∨65535<u / 8
      · repeat' (first|(refine QI (fun h=>?_) (fun h=>?_)<;>simp only[h,e1,e2,e3,show(((8:Int)=0))=False from by simp,eE,seval])|(refine Xk (fun h=>?_) (fun h=>?_)<;>simp only[h,Qk,e1,e2,e3,show(((8:Int)=0))=False from by simp,if_false,eE,seval])|(refine Xl (fun h=>?_) (fun h=>?_)<;>simp only[h,Qk,e1,e3,show(((8:Int)=0))=False from by simp,eE,seval]))
        all_goals first
          |(simp only[h7,hb,Wt,C.av,seval]<;>rfl)
          |(exfalso;simp only[QQw]at *;omega)
      · obtain⟨t1,t2⟩:=Bz hb;rw[e1,e3]at t1;rw[e2]at t2;have d1:decide (((u / 8:Nat):Int)<1)=false:=by simp;omega
        have d2:decide (65535<((u / 8:Nat):Int))=false:=by simp;omega
        simp only[d1,d2,e1,e2,e3,t1,t2,show(((8:Int)=0))=False from by simp,eE,seval];simp only[h7,hb,Wt,C.av,seval]
        try rfl

theorem c74 (c:C)(hl:c.d.length≤9223372036854770000):Qj Tryz.prog 74 [c.av] (Wt (Qw c)):=by
  refine k74.fn (by simp) ?_;simp only[C.av,eE,seval];refine Qa (CG c) rfl rfl rfl (.inl rfl) ?_;have hv:=fun h=>XS (c:=c) (by omega) h
  unfold Qw;generalize c.varint=r at hv ⊢;obtain⟨u,d,e⟩:=r;simp only[X3,C.av,eE,seval]at hv ⊢;refine QI (fun h=>?_) (fun h=>?_)
  · have h:¬e=0:=by simpa using h
    simp only[h,Wt,C.av,eE,seval]
  · have h:e=0:=by simpa using h
    subst h;obtain⟨n,_,_,_,_,_,_,hu⟩:=hv rfl;have e1:(u:Int).tdiv 8=((u / 8:Nat):Int):=by rw[QQH (by omega)];omega
    have e2:(u:Int).tmod 8=((u % 8:Nat):Int):=by rw[QQG (by omega)];omega
    have e3:IntKind.u64.wrap ((u / 8:Nat):Int)=((u / 8:Nat):Int):=by rw[XY];omega
    simp only[e2,show(((8:Int)=0))=False from by simp,Qb,seval];refine QI (fun h=>?_) (fun h=>?_)
    · have h : u % 8 = 7:=by (have h : ((u % 8 : Nat) : Int) = 7:=(by simpa using h));omega
      simp only[h,Wt,C.av,eE,seval]
      try rfl
    · have h7 : ¬ u % 8 = 7:=by (have h : ¬ ((u % 8 : Nat) : Int) = 7:=(by simpa using h));omega
      simp only[e1,e3,show(((8:Int)=0))=False from by simp,Qb,seval];by_cases hb:u / 8<1∨65535<u / 8
      · repeat' (first|(refine QI (fun h=>?_) (fun h=>?_)<;>simp only[h,e1,e2,e3,show(((8:Int)=0))=False from by simp,eE,seval])|(refine Xk (fun h=>?_) (fun h=>?_)<;>simp only[h,Qk,e1,e2,e3,show(((8:Int)=0))=False from by simp,if_false,eE,seval])|(refine Xl (fun h=>?_) (fun h=>?_)<;>simp only[h,Qk,e1,e3,show(((8:Int)=0))=False from by simp,eE,seval]))
        all_goals first
          |(simp only[h7,hb,Wt,C.av,seval]<;>rfl)
          |(exfalso;simp only[QQw]at *;omega)
      · obtain⟨t1,t2⟩:=Bz hb;rw[e1,e3]at t1;rw[e2]at t2;have d1:decide (((u / 8:Nat):Int)<1)=false:=by simp;omega
        have d2:decide (65535<((u / 8:Nat):Int))=false:=by simp;omega
        simp only[d1,d2,e1,e2,e3,t1,t2,show(((8:Int)=0))=False from by simp,eE,seval];simp only[h7,hb,Wt,C.av,seval]
        try rfl

theorem PB {c d:C}{u:Nat}(hl:c.d.length≤9223372036854770000)(hd:c.varint=(u,d,0))(hu:¬d.left<(u:Int)) :
  d.a+u≤d.d.length∧0≤d.a∧(u:Int)≤9223372036854770000∧d.d.length=c.d.length:=by
 obtain⟨n,h1,h2,h3,h4,h5,h6,h7⟩:=XS (c:=c) (by omega) (by rw[hd]);rw[hd]at h4 h6;simp only at h4 h6;have hs:=(C.sound_iff d).1 h6;have hr:=d.rest_len;rw[QO9 h6]at hr;have:d.d=c.d:=by rw[h4]
 have e:d.d.length=c.d.length:=by rw[this]
 omega

theorem Vo {c d:C}{u:Nat}(hl:c.d.length≤9223372036854770000)(hd:c.varint=(u,d,0)):d.d.length≤9223372036854770000:=by
 obtain⟨n,h1,h2,h3,h4,h5,h6,h7⟩:=XS (c:=c) (by omega) (by rw[hd]);rw[hd]at h4;simp only at h4;rw[h4];exact hl

theorem GD (d:C):0≤d.left∧d.left≤(d.d.length:Int):=by
 have hr:=d.rest_len;have hs:=C.sound_iff d;split at hr
 ·rename_i h;have:=hs.1 h;omega
 ·omega

theorem QKj (c:C)(w:Int)(hl:c.d.length≤9223372036854770000):Qj Tryz.prog 154 [c.av,.int .i64 w] (UE (We c w)):=by
  refine QFX.fn (by simp) ?_;simp only[C.av,eE,seval];refine Qa (Vn c hl) rfl rfl rfl (.inl rfl) ?_;have hdl:=fun u d h=>Vo (c:=c) (d:=d) (u:=u) hl h
  have hcut:=fun u d h hu=>PB (c:=c) (d:=d) (u:=u) hl h hu
  unfold We;generalize c.varint=r at hcut hdl ⊢;obtain⟨u,d,e⟩:=r;simp only[X3,C.av,eE,seval];refine QI (fun h=>?_) (fun h=>?_)
  · have h:¬e=0:=by simpa using h
    simp only[h,UE,C.av,eE,seval]
  · have h:e=0:=by simpa using h
    subst h;have hcut:=hcut u d rfl;have hdl:=hdl u d rfl;have hlf:=GD d;have e0:IntKind.u64.wrap d.left=d.left:=by rw[XY];omega
    by_cases hw:w=3
    all_goals
      first
        |(have dw:(w==3)=true:=by rw[hw]<;>rfl)
        |(have dw:(w==3)=false:=by simpa using hw)
      simp only[dw,eE,seval];refine Qa (DZ d (by omega)) rfl rfl rfl (.inl rfl) ?_;by_cases hu:d.left<(u:Int)
      · have d1:decide (d.left<(u:Int))=true:=by simpa using hu
        simp only[e0,hu,UE,C.av,eE,seval]
        try rfl
      · have d1:decide (d.left<(u:Int))=false:=by simpa using hu
        obtain⟨k1,k2,k3,k4⟩:=hcut hu;have e1:IntKind.i64.wrap (u:Int)=u:=by rw[QA];omega
        have e2:IntKind.i64.wrap (d.a+(u:Int))=d.a+u:=by rw[QA];omega
        have n1:(0≤d.a)=True:=eq_true k2;have n2:(0≤d.a+(u:Int))=True:=eq_true (by omega);have n3:(d.a.toNat≤(d.a+(u:Int)).toNat∧(d.a+(u:Int)).toNat≤d.d.length)=True:=eq_true (by omega);have n4:(d.a+(u:Int)).toNat-d.a.toNat=u:=by omega
        first
          | (rw[QO9 hw]
             by_cases hm:c.tx<(u:Int)
             · have d2:decide (c.tx<(u:Int))=true:=by simpa using hm
               simp only[e0,e1,hu,hm,UE,C.av,eE,seval]
               try rfl
             · have d2:decide (c.tx<(u:Int))=false:=by simpa using hm
               simp only[e0,e1,e2,n1,n2,n3,n4,hu,hm,UE,C.av,C.ahead,eE,seval]
               try rfl)
          | (rw[QOS hw]
             by_cases hm:65536<(u:Int)
             · have d2:decide (65536<(u:Int))=true:=by simpa using hm
               simp only[e0,e1,hu,hm,UE,C.av,eE,seval]
               try rfl
             · have d2:decide (65536<(u:Int))=false:=by simpa using hm
               simp only[e0,e1,e2,n1,n2,n3,n4,hu,hm,UE,C.av,C.ahead,eE,seval]
               try rfl)

theorem c96 (c:C)(f:R)(s:Nat)(fr:Nat→Ob)(m:Qh)(hs:fr s=.cells f.av.cells)(hl:c.d.length≤9223372036854770000) :
  Qu Tryz.prog 96 [c.av,.ptr 0 s 0] (fr :: m) fun x m1=>x=Z6 (Zb c f).2∧m1=QG fr s (.cells (Zb c f).1.av.cells) :: m:=by
 refine k96.go (by simp) ?_;simp only[R.av,AV.cells]at hs;simp only[C.av,hs,eE,seval];by_cases h0:f.wire=0
 ·have d0:(f.wire==0)=true:=by simpa using h0
  simp only[d0,eE,seval];refine Qa (Vn c hl) rfl rfl rfl (.inl rfl) ?_;simp only[X3,hs,C.av,eE,seval];refine⟨?_,?_⟩
  ·simp only[Zb,Z6,h0,C.av,seval]
   try rfl
  ·simp only[Zb,h0,R.av,MX,seval]
   try rfl
 ·have d0:(f.wire==0)=false:=by simpa using h0
  by_cases h1:f.wire=1
  ·have d1:(f.wire==1)=true:=by simpa using h1
   simp only[d0,d1,eE,seval];refine Qa (Vn c hl) rfl rfl rfl (.inl rfl) ?_;simp only[X3,hs,C.av,eE,seval];refine⟨?_,?_⟩
   ·simp only[Zb,Z6,h1,C.av,seval]
    try rfl
   ·simp only[Zb,h1,R.av,MX,seval]
    try rfl
  ·have d1:(f.wire==1)=false:=by simpa using h1
   by_cases h2:f.wire=2
   ·have d2:(f.wire==2)=true:=by simpa using h2
    simp only[d0,d1,d2,eE,seval];refine Qa (QsH c hl) rfl rfl rfl (.inl rfl) ?_;simp only[X3,hs,C.av,eE,seval];refine⟨?_,?_⟩
    ·simp only[Zb,Z6,h2,C.av,seval]
    ·simp only[Zb,h2,R.av,MX,seval]
   ·have d2:(f.wire==2)=false:=by simpa using h2
    have hc:Zb c f=({ f with data:=(We c f.wire).1 },(We c f.wire).2.1,(We c f.wire).2.2):=by
     simp only[Zb,h0,h1,h2,if_false,or_self]
    simp only[d0,d1,d2,hs,eE,seval];refine Qa (QKj c f.wire hl) rfl rfl rfl (.inl rfl) ?_;rw[hc];simp only[UE,hs,C.av,eE,seval];exact⟨rfl,rfl⟩

theorem Vq {c:C}(hl:c.d.length≤9223372036854770000):(Qw c).2.2.1.d.length≤9223372036854770000:=by
 unfold Qw;simp only;split
 ·rename_i h0;split
  ·exact hl
  ·split
   ·exact hl
   ·obtain⟨n,_,_,_,h4,_⟩:=XS (c:=c) (by omega) h0;show c.varint.2.1.d.length≤_;rw[h4];exact hl
 ·exact hl

theorem D2 {c:C}{n:Int}(hl:c.d.length≤9223372036854770000):(c.spend n).1.d.length≤9223372036854770000:=by
 unfold C.spend;split
 ·exact hl
 ·split<;>exact hl

theorem c51 (c:C)(hl:c.d.length≤9223372036854770000):Qj Tryz.prog 51 [c.av] (ZS (XF c)):=by
 refine k51.fn (by simp) ?_;simp only[C.av,eE,seval];refine Qa (c49 c hl) rfl rfl rfl (.inl rfl) ?_;have htl:=Vq hl;unfold XF;generalize Qw c=t at htl ⊢;obtain⟨num,wire,d,e⟩:=t;simp only[Wt,C.av,eE,seval]at htl ⊢;by_cases he:e=0
 ·subst he;simp only[eE,seval];refine Qa (c47 d 1) rfl rfl rfl (.inl rfl) ?_;have hsl:=D2 (n:=1) htl;generalize d.spend 1=sp at hsl ⊢;obtain⟨d2,e2⟩:=sp;simp only[Z6,C.av,eE,seval]at hsl ⊢;by_cases he2:e2=0
  ·subst he2;simp only[eE,seval];refine QU (c96 d2 ⟨num,wire,0,[]⟩ 9 _ _ ?_ hsl) rfl ?_
   ·simp only[R.av,eE,seval]
    try rfl
   ·generalize Zb d2 ⟨num,wire,0,[]⟩=k;obtain⟨f,d3,e3⟩:=k;simp only[Z6,C.av,R.av,eE,seval];by_cases he3:e3=0
    ·subst he3;simp only[ZS,R.av,C.av,eE,seval]
     try rfl
    ·simp only[Qr he3,he3,ZS,zr,R.av,C.av,eE,seval]
     try rfl
  ·simp only[Qr he2,he2,ZS,zr,R.av,C.av,eE,seval]
   try rfl
 ·simp only[Qr he,he,ZS,zr,R.av,C.av,eE,seval]
  try rfl

def Y5 (c:C)(f:R):R×C×Nat :=
 if f.wire=2 then({ f with bits:=c.fixed.1 },c.fixed.2.1,c.fixed.2.2)
 else if c.varint.2.2≠0∨Wd f.wire=true then({ f with bits:=c.varint.1 },c.varint.2.1,c.varint.2.2)
 else if c.varint.2.1.left<(c.varint.1:Int)then(f,c,4)
 else if (f.wire=3∧c.varint.2.1.tx<(c.varint.1:Int))∨(f.wire≠3∧65536<c.varint.1)then(f,c,3)
 else({ f with data:=(c.varint.2.1.d.drop c.varint.2.1.a.toNat).take c.varint.1 },c.varint.2.1.ahead c.varint.1,0)

theorem QKk (c:C)(f:R)(hl:c.d.length≤9223372036854770000):Qj Tryz.prog 123 [f.av,c.av] (ZS (Y5 c f)):=by
 refine QIJ.fn (by simp) ?_;simp only[C.av,R.av,eE,seval];by_cases h2:f.wire=2
 ·have d2:(f.wire==2)=true:=by simpa using h2
  simp only[d2,eE,seval];refine Qa (QsI c) rfl rfl rfl (.inl rfl) ?_;simp only[X3,ZS,Y5,h2,C.av,R.av,eE,seval]
 ·have d2:(f.wire==2)=false:=by simpa using h2
  simp only[d2,eE,seval];refine Qa (CG c) rfl rfl rfl (.inl rfl) ?_;have hcut:=fun u d h hu=>PB (c:=c) (d:=d) (u:=u) hl h hu
  have hdl:=fun u d h=>Vo (c:=c) (d:=d) (u:=u) hl h
  unfold Y5;generalize c.varint=r at hcut hdl ⊢;obtain⟨u,d,e⟩:=r;simp only[X3,C.av,eE,seval];by_cases he:e=0
  ·subst he;simp only[eE,seval];refine Qa (QKi f.wire) rfl rfl rfl (.inl rfl) ?_;cases hn:Wd f.wire with
   |true=>simp only[ZS,R.av,C.av,h2,or_true,eE,seval]
   |false=>
    have hdl:=hdl u d rfl;have hlf:=GD d;have e0:IntKind.u64.wrap d.left=d.left:=by rw[XY];omega
    simp only[eE,seval];refine Qa (Vm d) rfl rfl rfl (.inl rfl) ?_;have hcut:=hcut u d rfl;by_cases hu:d.left<(u:Int)
    ·simp only[e0,hu,ZS,R.av,C.av,h2,or_self,eE,seval]
     try rfl
    ·obtain⟨k1,k2,k3,k4⟩:=hcut hu;have e1:IntKind.i64.wrap (u:Int)=u:=by rw[QA];omega
     have e2:IntKind.i64.wrap (d.a+(u:Int))=d.a+u:=by rw[QA];omega
     have n1:(0≤d.a)=True:=eq_true k2;have n2:(0≤d.a+(u:Int))=True:=eq_true (by omega);have n3:(d.a.toNat≤(d.a+(u:Int)).toNat∧(d.a+(u:Int)).toNat≤d.d.length)=True:=eq_true (by omega);have n4:(d.a+(u:Int)).toNat-d.a.toNat=u:=by omega
     have d1:decide (d.left<(u:Int))=false:=by simpa using hu
     simp only[e0,d1,eE,seval];by_cases hw:f.wire=3
     ·have dw:(f.wire==3)=true:=by simpa using hw
      by_cases hm:d.tx<(u:Int)
      ·have d2:decide (d.tx<(u:Int))=true:=by simpa using hm
       simp only[e1,hu,hm,hw,QPO,ZS,R.av,C.av,or_self,true_or,eE,seval]
       try rfl
      ·have d2:decide (d.tx<(u:Int))=false:=by simpa using hm
       simp only[e1,e2,n1,n2,n3,n4,hu,hm,hw,QPO,bne_self_eq_false,ZS,R.av,C.av,C.ahead,or_self,and_false,false_and,eE,seval]
       try rfl
     ·have dw:(f.wire==3)=false:=by simpa using hw
      have dw':(f.wire != 3)=true:=by simpa using hw
      by_cases hm:65536<(u:Int)
      ·have d2:decide (65536<(u:Int))=true:=by simpa using hm
       have hm':65536<u:=by omega
       simp only[dw,dw',d2,hu,hm',hw,h2,ZS,R.av,C.av,or_self,or_true,false_and,and_self,eE,seval]
       try rfl
      ·have d2:decide (65536<(u:Int))=false:=by simpa using hm
       have hm':¬65536<u:=by omega
       simp only[dw,dw',d2,e1,e2,n1,n2,n3,n4,hu,hm',hw,h2,ZS,R.av,C.av,C.ahead,or_self,and_false,false_and,eE,seval]
       try rfl
  ·simp only[Qr he,he,h2,ZS,R.av,C.av,true_or,eE,seval]

theorem CL (c:C)(f:R)(hl:c.d.length≤9223372036854770000):(Y5 c f).2.2=(Zb c f).2.2∧((Zb c f).2.2=0→Y5 c f=Zb c f):=by
 unfold Y5 Zb We;by_cases h2:f.wire=2
 ·simp[h2]
 ·by_cases hv:c.varint.2.2=0
  ·obtain⟨n,_,_,_,h4,_⟩:=XS (c:=c) (by omega) hv;have htx:c.varint.2.1.tx=c.tx:=by rw[h4]
   by_cases hn:f.wire=0∨f.wire=1
   ·have:Wd f.wire=true:=by rcases hn with h|h<;>simp[Wd,h]
    simp[h2,hn,this]
   ·have:Wd f.wire=false:=by
     simp only[not_or]at hn;simp[Wd,hn.1,hn.2,h2]
    simp only[h2,hn,hv,this,htx,ne_eq,not_true_eq_false,or_self,if_false,if_true,QOX];by_cases hu:c.varint.2.1.left<(c.varint.1:Int)
    ·simp[hu]
    ·simp only[hu,if_false];by_cases hw:f.wire=3
     ·by_cases hm:c.tx<(c.varint.1:Int)<;>simp[hw,hm]
     ·by_cases hm:65536<c.varint.1
      ·have hm':(65536:Int)<(c.varint.1:Int):=by omega
       simp[hw,hm,hm']
      ·have hm':¬(65536:Int)<(c.varint.1:Int):=by omega
       simp[hw,hm,hm']
  ·simp only[h2,hv,ne_eq,not_false_eq_true,true_or,if_true,if_false];by_cases hn:f.wire=0∨f.wire=1
   ·simp[hn]
   ·simp[hn,hv]

theorem c76 (c:C)(hl:c.d.length≤9223372036854770000):Qj Tryz.prog 76 [c.av] (ZS (XF c)):=by
 refine k76.fn (by simp) ?_;simp only[C.av,eE,seval];refine Qa (c74 c (by omega)) rfl rfl rfl (.inl rfl) ?_;have htl:=Vq hl;unfold XF;generalize Qw c=t at htl ⊢;obtain⟨num,wire,d,e⟩:=t;simp only[Wt,C.av,eE,seval]at htl ⊢;by_cases he:e=0
 ·subst he;simp only[eE,seval];refine Qa (DY d 1) rfl rfl rfl (.inl rfl) ?_;have hsl:=D2 (n:=1) htl;generalize d.spend 1=sp at hsl ⊢;obtain⟨d2,e2⟩:=sp;simp only[Z6,C.av,eE,seval]at hsl ⊢;by_cases he2:e2=0
  ·subst he2;simp only[eE,seval];refine Qa (QKk d2 ⟨num,wire,0,[]⟩ hsl) rfl rfl rfl (.inl rfl) ?_;obtain⟨q1,q2⟩:=CL d2 ⟨num,wire,0,[]⟩ hsl;generalize Zb d2 ⟨num,wire,0,[]⟩=k at q1 q2 ⊢;generalize Y5 d2 ⟨num,wire,0,[]⟩=rk at q1 q2 ⊢;obtain⟨f,d3,e3⟩:=k;obtain⟨rf,rd3,re3⟩:=rk;simp only at q1 q2;subst q1;by_cases he3:re3=0
   ·have q2:=q2 he3;simp only[Prod.mk.injEq]at q2;obtain⟨rfl,rfl,_⟩:=q2;subst he3;simp only[ZS,R.av,C.av,eE,seval]
    try rfl
   ·simp only[Qr he3,he3,ZS,zr,R.av,C.av,eE,seval]
    try rfl
  ·simp only[Qr he2,he2,ZS,zr,R.av,C.av,eE,seval]
   try rfl
 ·simp only[Qr he,he,ZS,zr,R.av,C.av,eE,seval]
  try rfl

end Go.Proofs.YtfgchfdkiomfpaaGreat.Va

namespace Go.Proofs.YtfgchfdkiomfpaaGreat.Va
open Go Am Rc Bt

def BA (u:Int):Int:=if u % 2=0 then u / 2 else -(u / 2)-1

theorem QKl (u:Int)(h0:0≤u)(h1:u<18446744073709551616):Qj Tryz.prog 185 [.int .u64 u] (.int .i64 (BA u)):=by
 refine QfG.fn (by simp) ?_;simp only[Zp,seval];congr 1
 simp only[show min 1 64=1 from rfl,Np u h0 h1,QA,BA,Int.fdiv_eq_ediv_of_nonneg _ (show(0:Int)≤2 ^ 1 by decide)];by_cases h:u % 2=0
 ·rw[h,QO9 rfl];rw[show(0-((0+9223372036854775808) % 18446744073709551616-9223372036854775808)+9223372036854775808) % 18446744073709551616-9223372036854775808=(0:Int)by decide];rw[F8 _ (by omega) (by omega)];omega
 ·have h':u % 2=1:=by omega
  rw[h',QOS (by decide)];rw[show(0-((1+9223372036854775808) % 18446744073709551616-9223372036854775808)+9223372036854775808) % 18446744073709551616-9223372036854775808=(-1:Int)by decide];rw[F9 _ (by omega) (by omega)];omega

theorem QKm (u:Int)(h0:0≤u)(h1:u<18446744073709551616):Qj Tryz.prog 179 [.int .u64 u] (.int .i64 (BA u)):=by
 refine QIf.fn (by simp) ?_;simp only[Zp,seval];rw[QQG h0];refine QI (fun h=>?_) (fun h=>?_)<;>simp only[Zp,seval]<;>rw[QQH h0]
 ·have h:u % 2=0:=by simpa using h
  congr 1
  simp only[XY,QA,BA,QO9 h];omega
 ·have h:¬u % 2=0:=by simpa using h
  congr 1
  simp only[XY,QA,BA,QOS h];omega

open Br Up So Vp Cp

abbrev Rd (α:Type):=Except Nat (α×C)

def JE (c:C)(n:Int):Except Nat C:=if (c.spend n).2=0 then .ok (c.spend n).1 else .error (c.spend n).2
def Jd (c:C):Rd Nat :=
 if c.varint.2.2=0 then(if c.varint.2.1.left<(c.varint.1:Int)then .error 4 else .ok (c.varint.1,c.varint.2.1))else .error c.varint.2.2
def Kp (w:Int)(c:C):Rd R :=
 if w=3 then match Jd c with
  |.error e=>.error e
  |.ok (n,d)=>if (text d n).2.2=0 then .ok (⟨0,w,0,(text d n).1⟩,(text d n).2.1)else .error (text d n).2.2
 else if w=2 then(if c.fixed.2.2=0 then .ok (⟨0,w,c.fixed.1,[]⟩,c.fixed.2.1)else .error c.fixed.2.2)
 else if c.varint.2.2=0 then .ok (⟨0,w,c.varint.1,[]⟩,c.varint.2.1)else .error c.varint.2.2

def Xr (w:Int)(b:Nat):Nat:=if w=1 then(IntKind.u64.wrap (BA b)).toNat else b
def Qs (k:Int)(b:Nat)(t:List UInt8):V:=.mk k b t [] [] [] []
def Q9 (P:PL)(k t:Int)(f:R):V×Nat :=
 if isk k=true then
  if f.wire=wk k then
   if f.wire=3 then(if k=7∧Yz f.data=false then(Qs 0 0 [],7)else(Qs k 0 f.data,0))
   else if ZR k (Xr f.wire f.bits)=true then
    (if k=9∧Jc P.enums t (Xr f.wire f.bits)=false then(Qs 0 0 [],16)else(Qs k (Zi k (Xr f.wire f.bits)) [],0))
   else(Qs 0 0 [],6)
  else(Qs 0 0 [],13)
 else(Qs 0 0 [],12)

def Q5 (l:List V):V:=.mk 11 0 [] l [] [] []
def Z7 (p:List (V×V)):V:=.mk 12 0 [] [] p [] []
def Xq (v:V)(n:Int):Option V:=(v.slots.find? fun s=>s.1==n).map Prod.snd
def QL (v:V)(n:Int):V:=(Xq v n).getD (Qs 0 0 [])
def Xs (g:PG)(o:PO)(s:Int×V):Bool:=s.1==o.num||(match XL g s.1 with
 |some q=>decide (o.union≥0)&&q.union==o.union
 |none=>false)
def Xg (g:PG)(v:V)(o:PO)(x:V):V:=.mk 10 0 [] [] [] (v.slots.filter (fun s=>!Xs g o s)++[(o.num,x)]) v.raws
def Wf (v:V)(f:R):V:=.mk v.kd v.bits v.text v.list v.pairs v.slots (v.raws++[f])

def WW (P:PL)(g:PG)(v:V)(o:PO)(c:C):Rd V :=
 match JE c 1 with
 |.error e=>.error e
 |.ok c1=>match Kp (wk o.kind) c1 with
  |.error e=>.error e
  |.ok (f,d)=>
   if (Q9 P o.kind o.target f).2=16 then .ok (Wf v ⟨o.num,0,f.bits,[]⟩,d)
   else if (Q9 P o.kind o.target f).2=0 then
    if o.card=4 then
     if (Xq v o.num).isSome=true then .ok (Xg g v o (Q5 ((QL v o.num).list++[(Q9 P o.kind o.target f).1])),d)
     else match JE d 1 with
      |.error e=>.error e
      |.ok d1=>.ok (Xg g v o (Q5 ((QL v o.num).list++[(Q9 P o.kind o.target f).1])),d1)
    else .ok (Xg g v o (Q9 P o.kind o.target f).1,d)
   else .error (Q9 P o.kind o.target f).2

section
variable (rec:Int→V→C→Rd V)
def Je (t:Int)(b:V)(k:Int)(c:C):Rd V :=
 match Jd c with
 |.error e=>.error e
 |.ok (n,d)=>
  if (enter d n).2=0 then
   match JE (enter d n).1 k with
   |.error e=>.error e
   |.ok i=>match rec t b i with
    |.error e=>.error e
    |.ok (x,j)=>.ok (x,J6 d j)
  else .error (enter d n).2
def Ju (g:PG)(v:V)(o:PO)(c:C):Rd V :=
 if o.card=4 then
  match Je rec o.target (Qs 10 0 []) (if (Xq v o.num).isSome=true then 1 else 2) c with
  |.error e=>.error e
  |.ok (x,d)=>.ok (Xg g v o (Q5 ((QL v o.num).list++[x])),d)
 else
  match Je rec o.target (if (Xq v o.num).isSome=true then QL v o.num else Qs 10 0 []) 1 c with
  |.error e=>.error e
  |.ok (x,d)=>.ok (Xg g v o x,d)
end

def part (c:C)(n:Nat):C:={ c with e:=IntKind.i64.wrap (c.a+n) }
def XZ (c i:C):C:={ c with a:=i.e,nd:=i.nd }
def K6 (P:PL)(g:PG)(o:PO):Nat→V→C→Rd V
 |0,v,c=>.ok (v,c)
 |k+1,v,c=>if 0<c.left then(match WW P g v o c with
   |.error e=>.error e
   |.ok (w,d)=>K6 P g o k w d)else .ok (v,c)
def Wg (P:PL)(g:PG)(v:V)(o:PO)(d:C)(i:C):Rd V :=
 match K6 P g o i.left.toNat v i with
 |.error e=>.error e
 |.ok (w,j)=>.ok (w,XZ d j)
def Yg (P:PL)(g:PG)(v:V)(o:PO)(c:C):Rd V :=
 match Jd c with
 |.error e=>.error e
 |.ok (n,d)=>
  if (Zd (part d n)).2.2=0 then
   if (Zd (part d n)).1=wk o.kind then
    if (Xq v o.num).isSome=true then Wg P g v o d (Zd (part d n)).2.1
    else match JE (Zd (part d n)).2.1 1 with
     |.error e=>.error e
     |.ok i=>Wg P g (Xg g v o (Q5 [])) o d i
   else .error 13
  else .error (Zd (part d n)).2.2

def Xy (k:Int)(l:List (V×V))(x:V×V):List (V×V):=QT k ((l.filter fun q=>!Q0 q.1 x.1)++[x])

section
variable (P:PL)(rec:Int→V→C→Rd V)
def ZE (k t w:Int)(c:C):Rd V :=
 if w=wk k then
  if k=10 then Je rec t (Qs 10 0 []) 0 c
  else match Kp w c with
   |.error e=>.error e
   |.ok (f,d)=>if (Q9 P k t f).2=0 then .ok ((Q9 P k t f).1,d)else .error (Q9 P k t f).2
 else .error 13
def Jg (o:PO):Nat→V×V→Bool→Bool→C→Rd (V×V)
 |0,x,_,_,c=>.ok (x,c)
 |n+1,x,a,b,c=>
  if 0<c.left then
   if (Qw c).2.2.2=0 then
    if (Qw c).1=1 then
     if a=true then .error 9
     else match ZE P rec o.key (-1) (Qw c).2.1 (Qw c).2.2.1 with
      |.error e=>.error e
      |.ok (y,d)=>Jg o n (y,x.2) true b d
    else if (Qw c).1=2 then
     if b=true then .error 9
     else match ZE P rec o.kind o.target (Qw c).2.1 (Qw c).2.2.1 with
      |.error e=>.error e
      |.ok (y,d)=>Jg o n (x.1,y) a true d
    else .error 18
   else .error (Qw c).2.2.2
  else .ok (x,c)
def Jk (g:PG)(v:V)(o:PO)(c:C):Rd V :=
 match Jd c with
 |.error e=>.error e
 |.ok (n,d)=>match JE (part d n) (if (Xq v o.num).isSome=true then 2 else 3)with
  |.error e=>.error e
  |.ok i=>match Jg P rec o i.left.toNat (Qs o.key 0 [],Qs o.kind 0 []) false false i with
   |.error e=>.error e
   |.ok (x,j)=>.ok (Xg g v o (Z7 (Xy o.key (QL v o.num).pairs x)),XZ d j)
def J7 (g:PG)(v:V)(o:PO)(w:Int)(c:C):Rd V :=
 if o.card=5 then(if w=6 then Jk P rec g v o c else .error 13)
 else if w=5∧pk o.card o.kind=true then Yg P g v o c
 else if w=wk o.kind then(if o.kind=10 then Ju rec g v o c else WW P g v o c)
 else .error 13
end

def Zu (P:PL)(rec:Int→V→C→Rd V)(t:Int):Nat→V→C→Rd V
 |0,v,c=>.ok (v,c)
 |k+1,v,c=>
  if 0<c.left then
   if (Qw c).2.2.2=0 then
    match XL (QE P t) (Qw c).1 with
    |none=>if (XF c).2.2=0 then Zu P rec t k (Wf v (XF c).1) (XF c).2.1 else .error (XF c).2.2
    |some o=>match J7 P rec (QE P t) v o (Qw c).2.1 (Qw c).2.2.1 with
     |.error e=>.error e
     |.ok (w,d)=>Zu P rec t k w d
   else .error (Qw c).2.2.2
  else .ok (v,c)
def WX (P:PL):Nat→Int→V→C→Rd V
 |0,_,v,c=>.ok (v,c)
 |n+1,t,v,c=>Zu P (WX P n) t c.left.toNat v c

end Go.Proofs.YtfgchfdkiomfpaaGreat.Va

namespace Go.Proofs.YtfgchfdkiomfpaaGreat.Va
open Go Am Rc Bt Vp Cp Up

theorem Y6 {c:C}(hl:c.d.length≤9223372036854775807)(h:c.fixed.2.2=0):c.sound=true∧8≤c.left∧c.fixed.2.1={ c with a:=c.a+8 }∧c.fixed.1<2 ^ 64:=by
 unfold C.fixed at h ⊢;split at h
 ·cases h
 ·rename_i hr;have hne:c.rest≠[]:=by intro e;rw[e]at hr;simp at hr
  have hs:=Bl hne;have hs':=(C.sound_iff c).1 hs;have hle:=c.rest_len;rw[QO9 hs]at hle;have h8:8≤c.left:=by unfold C.left;omega
  have hw:IntKind.i64.wrap (c.a+8)=c.a+8:=by rw[QA];omega
  refine⟨hs,h8,?_,?_⟩
  ·rw[QOS hr];simp only[C.ahead,hw]
  ·rw[QOS hr];have h1:=HL (c.rest.take 8);rw[QPB,QPU (by omega)]at h1;have:(256:Nat) ^ 8=2 ^ 64:=by decide
   show UD c.rest<2 ^ 64;unfold UD;omega

structure Step (c d:C):Prop where
 n:∃k:Nat,d={ c with a:=c.a+k,nd:=d.nd }∧0<k∧(k:Int)≤c.left
 sound:c.sound=true

theorem Step.left {c d:C}(h:Step c d):d.sound=true∧d.left<c.left∧0≤d.left∧d.d=c.d∧d.left=c.left-(d.a-c.a):=by
 obtain⟨⟨k,h1,h2,h3⟩,h4⟩:=h;have hs:=(C.sound_iff c).1 h4;have hc:=c.rest_len;rw[QO9 h4]at hc;have e1:d.a=c.a+k:=by rw[h1]
 have e2:d.e=c.e:=by rw[h1]
 have e3:d.d=c.d:=by rw[h1]
 have hd:d.sound=true:=by
  rw[C.sound_iff,e1,e2,e3];omega
 have hdl:=d.rest_len;rw[QO9 hd]at hdl;exact⟨hd,by omega,by omega,e3,by omega⟩

theorem Se {c:C}(hl:c.d.length≤9223372036854770000)(h:(XF c).2.2=0):Step c (XF c).2.1:=by
 unfold XF at h ⊢;simp only at h ⊢;split at h
 ·rename_i ht;split at h
  ·rename_i hs;split at h
   ·rename_i hk;rw[QO9 ht,QO9 hs,QO9 hk]
    -- the tag
    unfold Qw at ht hs hk ⊢;simp only at ht hs hk ⊢;split at ht
    ·rename_i hv;rw[QO9 hv]at hs hk ⊢;split at ht
     ·cases ht
     ·rename_i h7;rw[QOS h7]at hs hk ⊢;split at ht
      ·cases ht
      ·rename_i h8;rw[QOS h8]at hs hk ⊢;simp only at hs hk ⊢;obtain⟨n,g1,g2,g3,g4,g5,g6,g7⟩:=XS (c:=c) (by omega) hv;rw[g4]at hs hk ⊢;have hsc:=(C.sound_iff c).1 g5;have hcl:=c.rest_len;rw[QO9 g5]at hcl
       -- the value spent
       unfold C.spend at hs hk ⊢;split at hs
       ·cases hs
       ·rename_i s1;rw[QOS s1]at hk ⊢;split at hs
        ·cases hs
        ·rename_i s2;rw[QOS s2]at hk ⊢;simp only at hk ⊢;generalize hd:({ d:=c.d,a:=c.a+n,e:=c.e,dp:=c.dp,nd:=IntKind.i64.wrap (c.nd-1),tx:=c.tx }:C)=d at hk ⊢;have q1:d.d=c.d:=by rw[←hd]
         have q2:d.a=c.a+n:=by rw[←hd]
         have q3:d.e=c.e:=by rw[←hd]
         have q4:d.dp=c.dp:=by rw[←hd]
         have q5:d.tx=c.tx:=by rw[←hd]
         have hdl:d.left≤c.left-n:=by
          have:=d.rest_len;split at this
          ·omega
          ·omega
         have mk:∀(d':C) (j:Nat),d'={ d with a:=d.a+j }→(j:Int)≤d.left→Step c d':=by
          intro d' j e hj;refine⟨⟨n+j,?_,by omega,by omega⟩,g5⟩;rw[e];obtain⟨_,_,_,_,_,_⟩:=d;simp only at q1 q2 q3 q4 q5;subst q1 q2 q3 q4 q5;simp only[C.mk.injEq,true_and,and_true];omega
         -- the contents
         unfold Zb at hk ⊢;split at hk
         ·rename_i w2;rw[QO9 w2];obtain⟨f1,f2,f3,f4⟩:=Y6 (c:=d) (by rw[q1];omega) hk;exact mk _ 8 f3 f2
         ·rename_i w2;rw[QOS w2];split at hk
          ·rename_i w1;rw[QO9 w1];obtain⟨j,f1,f2,f3,f4,f5,f6,f7⟩:=XS (c:=d) (by rw[q1];omega) hk;exact mk _ j f4 f3
          ·rename_i w1;rw[QOS w1];simp only at hk ⊢;unfold We at hk ⊢;simp only at hk ⊢;split at hk
           ·rename_i hv2;rw[QO9 hv2];by_cases hu:d.varint.2.1.left<(d.varint.1:Int)
            ·rw[QO9 hu]at hk;cases hk
            ·rw[QOS hu]at hk ⊢;by_cases hm:(if ((c.varint.1 % 8:Nat):Int)=3 then d.tx else 65536)<(d.varint.1:Int)
             ·rw[QO9 hm]at hk;cases hk
             ·rw[QOS hm];obtain⟨j,f1,f2,f3,f4,f5,f6,f7⟩:=XS (c:=d) (by rw[q1];omega) hv2;have hs2:=(C.sound_iff d).1 f5;have hl2:=d.rest_len;rw[QO9 f5]at hl2;have hl3:=d.varint.2.1.rest_len;rw[QO9 f6,f4]at hl3;rw[f4]at hu;simp only at hl3;have hdl':(d.d.length:Int)=c.d.length:=by rw[q1]
              have hw:IntKind.i64.wrap (d.a+(j:Int)+(d.varint.1:Int))=d.a+j+d.varint.1:=by
               rw[QA];omega
              refine mk _ (j+d.varint.1) ?_ (by omega);rw[f4];simp only[C.ahead,hw,C.mk.injEq,true_and,and_true];omega
           ·rename_i hv2;exact absurd hk hv2
    ·rename_i hv;exact absurd ht hv
   ·rename_i hk;exact absurd h hk
  ·rename_i hs;exact absurd h hs
 ·rename_i ht;exact absurd h ht

open Br So

structure CI (c:C):Prop where
 len:c.d.length≤3000
 snd:c.sound=true
 nd:0≤c.nd∧c.nd<9223372036854775808
 dp:0≤c.dp∧c.dp<9223372036854775808
structure Af (c d:C):Prop where
 n:∃k:Nat,d={ c with a:=c.a+k,nd:=d.nd }∧(k:Int)≤c.left
 nd:0≤d.nd∧d.nd≤c.nd

theorem CI.pos {c:C}(h:CI c):0≤c.a∧c.a≤c.e∧c.e≤(c.d.length:Int):=(C.sound_iff c).1 h.snd
theorem CI.lf {c:C}(h:CI c):c.left=c.e-c.a:=by
 have:=c.rest_len
 rwa [QO9 h.snd]at this
theorem CI.big {c:C}(h:CI c):c.d.length≤9223372036854770000:=QOF h.len (by decide)
theorem CI.big' {c:C}(h:CI c):c.d.length≤9223372036854775807:=QOF h.len (by decide)
theorem CI.inr {c:C}(h:CI c):TK c.a:=by
 have:=h.pos;have:=h.len;unfold TK;omega
theorem CI.bd {c:C}(h:CI c):0≤c.left∧c.left≤3000:=by
 have:=h.pos;have:=h.len;rw[h.lf];omega
theorem CM {c:C}(h1:c.d.length≤3000)(h2:0≤c.a∧c.a≤c.e∧c.e≤(c.d.length:Int))(h3:0≤c.nd∧c.nd<9223372036854775808)(h4:0≤c.dp∧c.dp<9223372036854775808):CI c:=⟨h1,(C.sound_iff c).2 h2,h3,h4⟩

theorem Af.eqs {c d:C}(h:Af c d):d.d=c.d∧d.e=c.e∧d.dp=c.dp∧d.tx=c.tx∧∃k:Nat,d.a=c.a+k∧(k:Int)≤c.left:=by
 obtain⟨⟨k,e,hk⟩,_⟩:=h;refine⟨by rw[e],by rw[e],by rw[e],by rw[e],k,by rw[e],hk⟩
theorem Af.ci {c d:C}(h:Af c d)(hc:CI c):CI d:=by
 obtain⟨e1,e2,e3,_,k,e5,hk⟩:=h.eqs;have:=hc.pos;have:=hc.lf;have:=hc.nd;have:=h.nd;exact CM (by rw[e1];exact hc.len) (by rw[e1,e2,e5];omega) (by omega) (by rw[e3];exact hc.dp)
theorem Af.left {c d:C}(h:Af c d)(hc:CI c):d.left=c.left-(d.a-c.a)∧c.a≤d.a∧d.left≤c.left:=by
 obtain⟨e1,e2,e3,_,k,e5,hk⟩:=h.eqs;rw[(h.ci hc).lf,hc.lf];omega
theorem K7 {c d:C}(hc:CI c)(h1:d.d=c.d)(h2:d.e=c.e)(h3:d.dp=c.dp)(h4:d.tx=c.tx)(h5:c.a≤d.a∧d.a≤c.e)(h6:0≤d.nd∧d.nd≤c.nd):Af c d:=by
 refine⟨⟨(d.a-c.a).toNat,?_,by rw[hc.lf];omega⟩,h6⟩;obtain⟨_,_,_,_,_,_⟩:=d;simp only at h1 h2 h3 h4 h5;subst h1 h2 h3 h4;simp only[C.mk.injEq,true_and,and_true];omega
theorem Af.refl {c:C}(hc:CI c):Af c c:=by
 have:=hc.pos;have:=hc.nd;exact K7 hc rfl rfl rfl rfl (by omega) (by omega)
theorem Af.trans {c d i:C}(h:Af c d)(g:Af d i)(hc:CI c):Af c i:=by
 obtain⟨e1,e2,e3,e4,k,e5,hk⟩:=h.eqs;obtain⟨f1,f2,f3,f4,l,f5,hl⟩:=g.eqs;have:=(h.ci hc).lf;have:=h.nd;have:=g.nd;have:=hc.pos;exact K7 hc (by rw[f1,e1]) (by rw[f2,e2]) (by rw[f3,e3]) (by rw[f4,e4]) (by omega) (by omega)
def As (c d:C):Prop:=Af c d∧c.a<d.a
theorem As.ci {c d:C}(h:As c d)(hc:CI c):CI d:=h.1.ci hc
theorem As.lt {c d:C}(h:As c d)(hc:CI c):d.left+1≤c.left:=by
 have:=(h.1.left hc).1;have:=h.2;omega
theorem As.trans {c d i:C}(h:As c d)(g:Af d i)(hc:CI c):As c i:=⟨h.1.trans g hc,by have:=(g.left (h.ci hc)).2.1;have:=h.2;omega⟩
theorem Af.strict {c d i:C}(h:Af c d)(g:As d i)(hc:CI c):As c i:=⟨h.trans g.1 hc,by have:=(h.left hc).2.1;have:=g.2;omega⟩

theorem JF {c:C}(hc:CI c)(h:c.varint.2.2=0):As c c.varint.2.1∧c.varint.1<18446744073709551616:=by
 obtain⟨n,h1,h2,h3,h4,h5,h6,h7⟩:=XS hc.big' h;have:=hc.lf;have:=hc.nd;refine⟨⟨K7 hc (by rw[h4]) (by rw[h4]) (by rw[h4]) (by rw[h4]) (by rw[h4];dsimp only;omega) (by rw[h4];dsimp only;omega),by rw[h4];dsimp only;omega⟩,h7⟩
theorem XW {c d:C}{n:Int}(hc:CI c)(hn:0≤n)(h:JE c n=.ok d):Af c d∧d.a=c.a:=by
 unfold JE at h;split at h
 ·rename_i h0;cases h;unfold C.spend at h0 ⊢;rw[QOS (by omega)]at h0 ⊢;split at h0
  ·cases h0
  ·rename_i h1;have:=hc.nd;have:=hc.pos;have w:IntKind.i64.wrap (c.nd-n)=c.nd-n:=by rw[QA];omega
   rw[QOS h1,w];exact⟨K7 hc rfl rfl rfl rfl (by dsimp only;omega) (by dsimp only;omega),rfl⟩
 ·cases h
theorem Jl {c d:C}{n:Nat}(hc:CI c)(h:Jd c=.ok (n,d)):As c d∧(n:Int)≤d.left:=by
 unfold Jd at h;split at h
 ·rename_i h0;split at h
  ·cases h
  ·rename_i h1;cases h;exact⟨(JF hc h0).1,by omega⟩
 ·cases h
theorem L2 {d:C}{n:Nat}(hc:CI d)(hn:(n:Int)≤d.left)(h:(text d n).2.2=0):Af d (text d n).2.1∧(text d n).1.length≤3000:=by
 unfold text at h ⊢;rw[QOS (by omega),QOS (by omega)]at h ⊢;split at h
 ·cases h
 ·rename_i h1;have:=hc.pos;have:=hc.lf;have:=hc.len;have:=hc.nd;have w:IntKind.i64.wrap (d.a+(n:Int))=d.a+n:=by rw[QA];omega
  rw[QOS h1];refine⟨K7 hc rfl rfl rfl rfl ?_ ?_,?_⟩
  ·simp only[C.ahead,w];omega
  ·simp only[C.ahead];omega
  ·simp only[QP7];rw[QPB];omega
theorem WY {w:Int}{c d:C}{f:R}(hc:CI c)(h:Kp w c=.ok (f,d)):As c d∧f.wire=w∧f.bits<18446744073709551616∧f.data.length≤3000:=by
 unfold Kp at h;split at h
 ·split at h
  ·cases h
  ·rename_i n i hl;split at h
   ·rename_i ht;cases h;obtain⟨a1,a2⟩:=Jl hc hl;obtain⟨b1,b2⟩:=L2 (a1.ci hc) a2 ht;exact⟨a1.trans b1 hc,rfl,by dsimp only;omega,b2⟩
   ·cases h
 ·split at h
  ·split at h
   ·rename_i hf;cases h;obtain⟨h1,h2,h3,h4⟩:=Y6 hc.big' hf;have:=hc.lf;have:=hc.nd;exact⟨⟨K7 hc (by rw[h3]) (by rw[h3]) (by rw[h3]) (by rw[h3]) (by rw[h3];dsimp only;omega) (by rw[h3];dsimp only;omega),by rw[h3];dsimp only;omega⟩,rfl,h4,QOM _⟩
   ·cases h
  ·split at h
   ·rename_i hv;cases h;obtain⟨a1,a2⟩:=JF hc hv;exact⟨a1,rfl,a2,QOM _⟩
   ·cases h
theorem Wh {c:C}(hc:CI c)(h:(Qw c).2.2.2=0):As c (Qw c).2.2.1∧1≤(Qw c).1∧(Qw c).1≤65535∧0≤(Qw c).2.1∧(Qw c).2.1≤6:=by
 unfold Qw at h ⊢;dsimp only at h ⊢;split at h
 ·rename_i hv;rw[QO9 hv];split at h
  ·cases h
  ·rename_i h7;rw[QOS h7];split at h
   ·cases h
   ·rename_i h8;rw[QOS h8];dsimp only;exact⟨(JF hc hv).1,by omega,by omega,by omega,by omega⟩
 ·rename_i hv;exact absurd h hv
theorem HN {d:C}{n:Nat}(hc:CI d)(hn:(n:Int)≤d.left)(h:(enter d n).2=0):(enter d n).1={ d with e:=d.a+n,dp:=d.dp-1 }∧CI (enter d n).1∧(enter d n).1.left=n:=by
 unfold enter at h ⊢;rw[QOS (by omega),QOS (by omega)]at h ⊢;split at h
 ·cases h
 ·rename_i h1;have:=hc.pos;have:=hc.lf;have:=hc.len;have:=hc.dp;have w1:IntKind.i64.wrap (d.a+(n:Int))=d.a+n:=by rw[QA];omega
  have w2:IntKind.i64.wrap (d.dp-1)=d.dp-1:=by rw[QA];omega
  rw[QOS h1,w1,w2];have hi:CI ({ d with e:=d.a+n,dp:=d.dp-1 }:C):=CM hc.len (by dsimp only;omega) hc.nd (by dsimp only;omega);exact⟨rfl,hi,by rw[hi.lf];dsimp only;omega⟩
theorem Sf {d i j:C}{n:Nat}(hc:CI d)(hn:(n:Int)≤d.left)(hi:i.e=d.a+n∧i.nd≤d.nd)(hj:Af i j):Af d (J6 d j)∧(J6 d j).left=d.left-n:=by
 obtain⟨f1,f2,f3,f4,l,f5,hl⟩:=hj.eqs;have:=hc.pos;have:=hc.lf;have:=hj.nd;unfold J6;rw[QOS (by rw[hc.snd];simp;omega)];have h:Af d ({ d with a:=j.e,nd:=j.nd }:C):=K7 hc rfl rfl rfl rfl (by dsimp only;omega) (by dsimp only;omega);exact⟨h,by rw[(h.ci hc).lf];dsimp only;omega⟩
theorem Kq {d:C}{n:Nat}(hc:CI d)(hn:(n:Int)≤d.left):part d n={ d with e:=d.a+n }∧CI (part d n)∧(part d n).left=n:=by
 have:=hc.pos;have:=hc.lf;have:=hc.len;have w1:IntKind.i64.wrap (d.a+(n:Int))=d.a+n:=by rw[QA];omega
 unfold part;rw[w1];have hi:CI ({ d with e:=d.a+n }:C):=CM hc.len (by dsimp only;omega) hc.nd hc.dp;exact⟨rfl,hi,by rw[hi.lf];dsimp only;omega⟩
theorem D3 {d i:C}{n:Nat}(hc:CI d)(hn:(n:Int)≤d.left)(hj:Af (part d n) i):Af d (XZ d i)∧(XZ d i).left=d.left-n:=by
 obtain⟨e1,e2,e3⟩:=Kq hc hn;obtain⟨f1,f2,f3,f4,l,f5,hl⟩:=hj.eqs;have:=hc.pos;have:=hc.lf;have hnd:=hj.nd;rw[e1]at f2 hnd;dsimp only at f2 hnd;have h:Af d (XZ d i):=K7 hc rfl rfl rfl rfl (by unfold XZ;dsimp only;omega) (by unfold XZ;dsimp only;omega);exact⟨h,by rw[(h.ci hc).lf];unfold XZ;dsimp only;omega⟩
theorem Dw {c:C}(hc:CI c)(h:(Zd c).2.2=0):As c (Zd c).2.1∧0≤(Zd c).1∧(Zd c).1<256:=by
 unfold Zd at h ⊢;cases hr:c.rest with
 |nil=>rw[hr]at h;cases h
 |cons b t=>
  obtain⟨_,_,_,h1⟩:=D1 hr;have:=hc.pos;have:=hc.lf;have:=hc.len;have:=hc.nd;have:=b.toNat_lt;have w:IntKind.i64.wrap (c.a+1)=c.a+1:=by rw[QA];omega
  refine⟨⟨K7 hc rfl rfl rfl rfl ?_ ?_,?_⟩,?_,?_⟩<;>simp only[C.ahead,w]<;>omega

theorem L3 {c:C}{f:R}:(Zb c f).2.1.nd=c.nd:=by
 have hv:c.varint.2.1.nd=c.nd:=by unfold C.varint;dsimp only;split<;>rfl
 unfold Zb;split
 ·show c.fixed.2.1.nd=_;unfold C.fixed;split<;>rfl
 ·split
  ·exact hv
  ·show(We c f.wire).2.1.nd=_;unfold We;dsimp only;split
   ·split
    ·rfl
    ·by_cases hq:(if f.wire=3 then c.tx else 65536)<(c.varint.1:Int)
     ·rw[QO9 hq]
     ·rw[QOS hq];exact hv
   ·rfl
theorem PC {c:C}{f:R}(hc:CI c)(h:(Zb c f).2.2=0)(h0:f.bits=0)(h1:f.data=[]):(Zb c f).1.num=f.num∧(Zb c f).1.wire=f.wire∧(Zb c f).1.bits<18446744073709551616∧(Zb c f).1.data.length≤3000:=by
 unfold Zb at h ⊢;split
 ·rename_i w;rw[QO9 w]at h;exact⟨rfl,rfl,(Y6 hc.big' h).2.2.2,by dsimp only;rw[h1];exact QOM _⟩
 ·rename_i w;rw[QOS w]at h;split
  ·rename_i w1;rw[QO9 w1]at h;exact⟨rfl,rfl,(JF hc h).2,by dsimp only;rw[h1];exact QOM _⟩
  ·rename_i w1;rw[QOS w1]at h;refine⟨rfl,rfl,by dsimp only;rw[h0];decide,?_⟩;show(We c f.wire).1.length≤3000;dsimp only at h;unfold We at h ⊢;dsimp only at h ⊢;split
   ·rename_i hv;rw[QO9 hv]at h;split
    ·exact QOM _
    ·by_cases hq:(if f.wire=3 then c.tx else 65536)<(c.varint.1:Int)
     ·rw[QO9 hq];exact QOM _
     ·have h3:=((JF hc hv).1.ci hc).len;rw[QOS hq,QPB,QPl];omega
   ·exact QOM _
theorem BB {c:C}(hc:CI c)(h:(XF c).2.2=0):As c (XF c).2.1∧(XF c).1.num=(Qw c).1∧1≤(XF c).1.num∧(XF c).1.num≤65535∧0≤(XF c).1.wire∧(XF c).1.wire≤6∧(XF c).1.bits<18446744073709551616∧(XF c).1.data.length≤3000:=by
 obtain⟨⟨k,e1,e2,e3⟩,_⟩:=Se hc.big h;have hnd:0≤(XF c).2.1.nd∧(XF c).2.1.nd≤c.nd∧(XF c).1.num=(Qw c).1∧1≤(XF c).1.num∧(XF c).1.num≤65535∧0≤(XF c).1.wire∧(XF c).1.wire≤6∧(XF c).1.bits<18446744073709551616∧(XF c).1.data.length≤3000:=by
  clear e1;unfold XF at h ⊢;dsimp only at h ⊢;split at h
  ·rename_i ht;obtain⟨t1,t2,t3,t4,t5⟩:=Wh hc ht;split at h
   ·rename_i hs;split at h
    ·rename_i hk;rw[QO9 ht,QO9 hs,QO9 hk];have hsp:JE (Qw c).2.2.1 1=.ok ((Qw c).2.2.1.spend 1).1:=by unfold JE;rw[QO9 hs]
     obtain⟨a1,_⟩:=XW (t1.ci hc) (by omega) hsp;have a2:=L3 (c:=((Qw c).2.2.1.spend 1).1) (f:={ num:=(Qw c).1,wire:=(Qw c).2.1,bits:=0,data:=[] });have a3:=a1.nd;have a4:=t1.1.nd;obtain⟨b1,b2,b3,b4⟩:=PC (a1.ci (t1.ci hc)) hk rfl rfl;rw[b1,b2];exact⟨by omega,by omega,rfl,t2,t3,t4,t5,b3,b4⟩
    ·rename_i hk;exact absurd h hk
   ·rename_i hs;exact absurd h hs
  ·rename_i ht;exact absurd h ht
 have:=hc.lf;exact⟨⟨K7 hc (by rw[e1]) (by rw[e1]) (by rw[e1]) (by rw[e1]) (by rw[e1];dsimp only;omega) ⟨hnd.1,hnd.2.1⟩,by rw[e1];dsimp only;omega⟩,hnd.2.2⟩

end Go.Proofs.YtfgchfdkiomfpaaGreat.Va

namespace Go.Proofs.YtfgchfdkiomfpaaGreat.Va
open Go Am Rc Bt Br Up So

section
variable {m:PG→V→Int}{nm:PG→V→V}{P:PL}

end

def Kf (l:List (Int×V)):List (Int×V):=QB (fun x y=>decide (x.1<y.1)) l
theorem QKn:SW fun x y:Int×V=>decide (x.1<y.1) where
 irr x:=by simp
 tr x y z h k:=by simp only[QP1]at *;omega
 nt x y z h k:=by simp only[QQw]at *;omega

theorem PD:∀ {a b:List (Int×V)},(a.Pairwise fun x y=>x.1<y.1)→(b.Pairwise fun x y=>x.1<y.1)→(∀x,x∈a↔x∈b)→a=b
 | [],[],_,_,_=>rfl
 | [],y :: b,_,_,h=>by have:=(h y).2 (by simp);cases this
 |x :: a,[],_,_,h=>by have:=(h x).1 (by simp);cases this
 |x :: a,y :: b,ha,hb,h=>by
  obtain⟨a1,a2⟩:=QQe.1 ha;obtain⟨b1,b2⟩:=QQe.1 hb;have e:x=y:=by
   rcases QP0.1 ((h x).1 (by simp))with e|e
   ·exact e
   ·rcases QP0.1 ((h y).2 (by simp))with e'|e'
    ·exact e'.symm
    ·have:=b1 x e;have:=a1 y e';omega
  subst e;congr 1
  refine PD a2 b2 fun z=>?_
  have hz:=h z;simp only[QP0]at hz
  constructor
  ·intro hm;rcases hz.1 (.inr hm)with e|e
   ·subst e;have:=a1 z hm;omega
   ·exact e
  ·intro hm;rcases hz.2 (.inr hm)with e|e
   ·subst e;have:=b1 z hm;omega
   ·exact e

section
variable {m:PG→V→Int}(nm:PG→V→V)(P:PL)

def ZZ (o:PO)(s:Int×V):List (Int×V):=if (decide (o.card<3) || !(Jj nm P o s.2).emp)=true then [(o.num,Jj nm P o s.2)]else []
def Jv (g:PG)(s:Int×V):List (Int×V):=match XL g s.1 with
 |none=>[]
 |some o=>ZZ nm P o s

theorem PF {o:PO}{s x:Int×V}:x∈ZZ nm P o s↔(decide (o.card<3) || !(Jj nm P o s.2).emp)=true∧x=(o.num,Jj nm P o s.2):=by
 unfold ZZ;split
 ·rename_i h;simp[h]
 ·rename_i h;simp[h]

theorem PH {sl:List (Int×V)}(hu:sl.Pairwise fun y x=>(y.1==x.1)=false){s:Int×V}(hs:s∈sl):sl.find? (fun t=>t.1==s.1)=some s:=by
 induction sl with
 |nil=>cases hs
 |cons x l ih=>
  obtain⟨h1,h2⟩:=QQe.1 hu;rw[QQs];rcases QP0.1 hs with rfl|hs
  ·simp
  ·rw[h1 s hs];exact ih h2 hs

theorem WB {sl:List (Int×V)}{o:PO}:X7 nm P sl o=match sl.find? (fun s=>s.1==o.num)with
  |none=>[]
  |some s=>ZZ nm P o s:=rfl

theorem Sg {g:PG}(hd:g.ops.Pairwise fun a b=>a.num<b.num){sl:List (Int×V)}(hu:sl.Pairwise fun y x=>(y.1==x.1)=false):(Kf sl).flatMap (Jv nm P g)=g.ops.flatMap (X7 nm P sl):=by
 have hp:(Kf sl).Perm sl:=QW _;have hsu:(Kf sl).Pairwise fun y x=>(y.1==x.1)=false:=(hp.pairwise_iff fun {a b} h=>by rw[Bool.beq_comm];exact h).2 hu
 have hss:X5 (fun x y:Int×V=>decide (x.1<y.1)) (Kf sl):=XX QKn _;have hst:(Kf sl).Pairwise fun x y=>x.1<y.1:=by
  unfold X5 at hss;rw[QQE]at *;intro i j hi hj hij;have h1:=hss i j hi hj hij;have h2:=hsu i j hi hj hij;simp only[QQw,QQp]at h1 h2;omega
 have kpw:∀s,(Jv nm P g s).Pairwise fun x y:Int×V=>x.1<y.1:=fun s=>by
  unfold Jv;split
  ·exact .nil
  ·unfold ZZ;split
   ·exact QQD _ _
   ·exact .nil
 have knum:∀ {s x:Int×V},x∈Jv nm P g s→x.1=s.1:=fun {s x} h=>by
  unfold Jv at h;cases ho:XL g s.1 with
  |none=>rw[ho]at h;cases h
  |some o=>
   rw[ho]at h;rw[((PF nm P).1 h).2];exact(YC ho).2
 refine PD ?_ ?_ fun x=>?_
 ·rw[List.pairwise_flatMap];refine⟨fun s _=>kpw s,hst.imp fun {a b} hab x hx y hy=>?_⟩;rw[knum hx,knum hy];exact hab
 ·rw[List.pairwise_flatMap];refine⟨fun _ _=>Bu,hd.imp fun {a b} hab x hx y hy=>?_⟩;rw[(Ko hx).1,(Ko hy).1];exact hab
 ·rw[QPr,QPr]
  constructor
  ·rintro⟨s,hs,h⟩;unfold Jv at h;cases ho:XL g s.1 with
   |none=>rw[ho]at h;cases h
   |some o=>
    rw[ho]at h;obtain⟨hom,hon⟩:=YC ho;refine⟨o,hom,?_⟩;rw[WB,hon,PH hu (hp.mem_iff.1 hs)];exact h
  ·rintro⟨o,ho,h⟩;rw[WB]at h;cases hf:sl.find? (fun s=>s.1==o.num)with
   |none=>rw[hf]at h;cases h
   |some s=>
    rw[hf]at h;have hs:s.1=o.num:=by simpa using List.find?_some hf
    refine⟨s,hp.mem_iff.2 (QQB hf),?_⟩;unfold Jv;rw[hs,WV hd ho];exact h

def TL (o:PO)(sl:List (Int×V)):List (Int×V):=sl.flatMap fun s=>if (s.1==o.num)=true then ZZ nm P o s else []
theorem BC {o:PO}{sl:List (Int×V)}(hu:sl.Pairwise fun y x=>(y.1==x.1)=false):TL nm P o sl=X7 nm P sl o:=by
 rw[WB];unfold TL
 induction sl with
 |nil=>rfl
 |cons x l ih=>
  obtain⟨h1,h2⟩:=QQe.1 hu;rw[QP9,QQs];cases hx:(x.1==o.num)
  ·rw[QOS (by simp),QO1];exact ih h2
  ·rw[QO9 rfl];have e:x.1=o.num:=by simpa using hx
   have:l.flatMap (fun s=>if (s.1==o.num)=true then ZZ nm P o s else [])=[]:=by
    rw[List.flatMap_eq_nil_iff];intro s hs;have:=h1 s hs;rw[e]at this;rw[QOS (by rw[Bool.beq_comm];simp[this])]
   rw[this,QPI]

end
end Go.Proofs.YtfgchfdkiomfpaaGreat.Va

namespace Go.Proofs.YtfgchfdkiomfpaaGreat.Va
open Go Am Rc Bt Br Up

section
variable {M:Nat}

end

theorem QO {P:Program}{K:St→Prop}{Qe:List Am.Item}{f:Fr}{m:Qh}{ds:List DF}{d sz len:Nat}{z y l:List AV}{ps:List (Nat×Nat×RA)}(hy:fill f ps (XD z sz len)=some y)(h1:AV.rfL y=true)(h2:y.all AV.leaf=true)(hc:XP sz len (y.map nn0)=l)(h:QC P Qe ⟨QG f d (.list l),m,ds⟩ K) :
  QC P (⟨some d,.bsl sz len z ps,none⟩ :: Qe) ⟨f,m,ds⟩ K:=by
 subst hc;exact⟨y,hy,h1,h2,h⟩

theorem Dx (l:List V):(l.map V.av).all (fun e=>e.cells.length==7)=true:=by
 rw[List.all_map,QOQ];intro x _;simp[Qc,AV.cells]

end Go.Proofs.YtfgchfdkiomfpaaGreat.Va

set_option linter.unusedVariables false
namespace Go.Proofs.YtfgchfdkiomfpaaGreat.Tg
open Go Am

def TM (z sr ro sm is st:Nat):List Am.Item:=[
  ⟨(some 10),.val (.mov (.c (.int .i64 0))),none⟩]
def TN (z sr ro sm is st:Nat):List Am.Item:=[
  ⟨(some 11),.val (.mov (.t 10)),none⟩,
  ⟨(some 12),.val (.mov (.t 3)),none⟩,
  ⟨(some 13),.val (.bin .num .lss (.t 11) (.t 12)),none⟩]
def TO (z sr ro sm is st:Nat):List Am.Item:=[
  ⟨(some 16),.val (.mov (.t 0)),none⟩,
  ⟨(some 17),.val (.mov (.t 1)),none⟩,
  ⟨(some 18),.val (.mov (.t 10)),none⟩,
  ⟨(some 19),.val (.bin .num .add (.t 17) (.t 18)),none⟩,
  ⟨(some 20),.val (.mov (.t 0)),none⟩,
  ⟨(some 21),.val (.mov (.t 2)),none⟩,
  ⟨(some 22),.val (.mov (.t 10)),none⟩,
  ⟨(some 23),.val (.bin .num .add (.t 21) (.t 22)),none⟩,
  ⟨(some 24),.val (.mov (.t 0)),none⟩,
  ⟨(some 25),.val (.mov (.t 2)),none⟩,
  ⟨(some 26),.val (.mov (.t 10)),none⟩,
  ⟨(some 27),.val (.bin .num .add (.t 25) (.t 26)),none⟩,
  ⟨(some 28),.val (.iaddr z none (.t 24) (.t 27)),none⟩,
  ⟨(some 29),.val (.loadr (some z) (.t 28)),none⟩,
  ⟨(some 30),.val (.mov (.t 0)),none⟩,
  ⟨(some 31),.val (.mov (.t 1)),none⟩,
  ⟨(some 32),.val (.mov (.t 10)),none⟩,
  ⟨(some 33),.val (.bin .num .add (.t 31) (.t 32)),none⟩,
  ⟨(some 34),.val (.iaddr z none (.t 30) (.t 33)),none⟩,
  ⟨(some 35),.val (.loadr (some z) (.t 34)),none⟩,
  ⟨(some 36),.val (.iaddr z none (.t 16) (.t 19)),none⟩,
  ⟨none,.store z (.t 36) (.t 29),none⟩,
  ⟨(some 37),.val (.iaddr z none (.t 20) (.t 23)),none⟩,
  ⟨none,.store z (.t 37) (.t 35),none⟩]
def TP (z sr ro sm is st:Nat):List Am.Item:=[
  ⟨(some 14),.val (.mov (.t 10)),none⟩,
  ⟨(some 15),.val (.bin .num .add (.t 14) (.c (.int .i64 1))),none⟩,
  ⟨(some 10),.val (.mov (.t 15)),none⟩]
def TQ (z sr ro sm is st:Nat):RC:=.seq (.seq (.reg (TN z sr ro sm is st)) (.cond (.t 13) (.skip) (.exit 0))) (.seq (.block 1 (.draw (TO z sr ro sm is st))) (.reg (TP z sr ro sm is st)))
def rsr (z sr ro sm is st:Nat):RC:=.seq (.reg (TM z sr ro sm is st)) (.block 0 (.loop (TQ z sr ro sm is st)))
def osr:List RR:=[]

def TR (z sr ro sm is st:Nat):List Am.Item:=[
  ⟨(some 12),.val (.mov (.t 2)),none⟩,
  ⟨(some 13),.val (.mov (.t 1)),none⟩,
  ⟨(some 14),.val (.bin .num .sub (.t 12) (.t 13)),none⟩,
  ⟨(some 10),.val (.mov (.t 14)),none⟩]
def TS (z sr ro sm is st:Nat):List Am.Item:=[
  ⟨(some 15),.val (.mov (.t 3)),none⟩,
  ⟨(some 16),.val (.mov (.t 2)),none⟩,
  ⟨(some 17),.val (.bin .num .sub (.t 15) (.t 16)),none⟩,
  ⟨(some 11),.val (.mov (.t 17)),none⟩]
def TT (z sr ro sm is st:Nat):List Am.Item:=[
  ⟨(some 18),.val (.mov (.t 10)),none⟩,
  ⟨(some 19),.val (.mov (.t 11)),none⟩,
  ⟨(some 20),.val (.bin .num .neq (.t 18) (.t 19)),none⟩]
def TU (z sr ro sm is st:Nat):List Am.Item:=[
  ⟨(some 21),.val (.mov (.t 10)),none⟩,
  ⟨(some 22),.val (.mov (.t 11)),none⟩,
  ⟨(some 23),.val (.bin .num .gtr (.t 21) (.t 22)),none⟩]
def TV (z sr ro sm is st:Nat):List Am.Item:=[
  ⟨(some 24),.val (.mov (.t 0)),none⟩,
  ⟨(some 25),.val (.mov (.t 2)),none⟩,
  ⟨(some 26),.val (.mov (.t 10)),none⟩,
  ⟨(some 27),.val (.bin .num .sub (.t 25) (.t 26)),none⟩,
  ⟨(some 28),.val (.mov (.t 2)),none⟩,
  ⟨(some 29),.val (.mov (.t 11)),none⟩,
  ⟨(some 30),.val (.mov (.t 4)),none⟩,
  ⟨(some 31),.callF (.f sr) [(.t 24),(.t 27),(.t 28),(.t 29),(.t 30)],none⟩]
def TW (z sr ro sm is st:Nat):List Am.Item:=[
  ⟨(some 32),.val (.mov (.t 10)),none⟩,
  ⟨(some 33),.val (.mov (.t 11)),none⟩,
  ⟨(some 34),.val (.bin .num .sub (.t 32) (.t 33)),none⟩,
  ⟨(some 10),.val (.mov (.t 34)),none⟩]
def TX (z sr ro sm is st:Nat):List Am.Item:=[
  ⟨(some 35),.val (.mov (.t 0)),none⟩,
  ⟨(some 36),.val (.mov (.t 2)),none⟩,
  ⟨(some 37),.val (.mov (.t 10)),none⟩,
  ⟨(some 38),.val (.bin .num .sub (.t 36) (.t 37)),none⟩,
  ⟨(some 39),.val (.mov (.t 2)),none⟩,
  ⟨(some 40),.val (.mov (.t 11)),none⟩,
  ⟨(some 41),.val (.bin .num .add (.t 39) (.t 40)),none⟩,
  ⟨(some 42),.val (.mov (.t 10)),none⟩,
  ⟨(some 43),.val (.bin .num .sub (.t 41) (.t 42)),none⟩,
  ⟨(some 44),.val (.mov (.t 10)),none⟩,
  ⟨(some 45),.val (.mov (.t 4)),none⟩,
  ⟨(some 46),.callF (.f sr) [(.t 35),(.t 38),(.t 43),(.t 44),(.t 45)],none⟩]
def TY (z sr ro sm is st:Nat):List Am.Item:=[
  ⟨(some 47),.val (.mov (.t 11)),none⟩,
  ⟨(some 48),.val (.mov (.t 10)),none⟩,
  ⟨(some 49),.val (.bin .num .sub (.t 47) (.t 48)),none⟩,
  ⟨(some 11),.val (.mov (.t 49)),none⟩]
def TZ (z sr ro sm is st:Nat):RC:=.seq (.seq (.reg (TT z sr ro sm is st)) (.cond (.t 20) (.skip) (.exit 0))) (.block 1 (.seq (.reg (TU z sr ro sm is st)) (.cond (.t 23) (.seq (.reg (TV z sr ro sm is st)) (.reg (TW z sr ro sm is st))) (.seq (.reg (TX z sr ro sm is st)) (.reg (TY z sr ro sm is st))))))
def T0 (z sr ro sm is st:Nat):List Am.Item:=[
  ⟨(some 50),.val (.mov (.t 0)),none⟩,
  ⟨(some 51),.val (.mov (.t 2)),none⟩,
  ⟨(some 52),.val (.mov (.t 10)),none⟩,
  ⟨(some 53),.val (.bin .num .sub (.t 51) (.t 52)),none⟩,
  ⟨(some 54),.val (.mov (.t 2)),none⟩,
  ⟨(some 55),.val (.mov (.t 10)),none⟩,
  ⟨(some 56),.val (.mov (.t 4)),none⟩,
  ⟨(some 57),.callF (.f sr) [(.t 50),(.t 53),(.t 54),(.t 55),(.t 56)],none⟩]
def rro (z sr ro sm is st:Nat):RC:=.seq (.reg (TR z sr ro sm is st)) (.seq (.reg (TS z sr ro sm is st)) (.seq (.block 0 (.loop (TZ z sr ro sm is st))) (.reg (T0 z sr ro sm is st))))
def oro:List RR:=[]

def Fl (z sr ro sm is st:Nat):List Am.Item:=[
  ⟨(some 25),.val (.mov (.t 2)),none⟩,
  ⟨(some 26),.val (.mov (.t 1)),none⟩,
  ⟨(some 27),.val (.bin .num .sub (.t 25) (.t 26)),none⟩,
  ⟨(some 28),.val (.bin .num .eql (.t 27) (.c (.int .i64 1))),none⟩]
def CN (z sr ro sm is st:Nat):List Am.Item:=[
  ⟨(some 29),.val (.mov (.t 2)),none⟩,
  ⟨(some 10),.val (.mov (.t 29)),none⟩]
def CO (z sr ro sm is st:Nat):List Am.Item:=[
  ⟨(some 30),.val (.mov (.t 3)),none⟩,
  ⟨(some 11),.val (.mov (.t 30)),none⟩]
def T1 (z sr ro sm is st:Nat):List Am.Item:=[
  ⟨(some 31),.val (.mov (.t 10)),none⟩,
  ⟨(some 32),.val (.mov (.t 11)),none⟩,
  ⟨(some 33),.val (.bin .num .lss (.t 31) (.t 32)),none⟩]
def T2 (z sr ro sm is st:Nat):List Am.Item:=[
  ⟨(some 34),.val (.mov (.t 10)),none⟩,
  ⟨(some 35),.val (.mov (.t 11)),none⟩,
  ⟨(some 36),.val (.bin .num .add (.t 34) (.t 35)),none⟩,
  ⟨(some 37),.val (.cvi .u64 (.t 36)),none⟩,
  ⟨(some 38),.val (.bin .num .shr (.t 37) (.c (.int .u64 1))),none⟩,
  ⟨(some 39),.val (.cvi .i64 (.t 38)),none⟩,
  ⟨(some 12),.val (.mov (.t 39)),none⟩]
def T3 (z sr ro sm is st:Nat):List Am.Item:=[
  ⟨(some 40),.val (.mov (.t 4)),none⟩,
  ⟨(some 41),.val (.mov (.t 0)),none⟩,
  ⟨(some 42),.val (.mov (.t 12)),none⟩,
  ⟨(some 43),.val (.iaddr z none (.t 41) (.t 42)),none⟩,
  ⟨(some 44),.val (.loadr (some z) (.t 43)),none⟩,
  ⟨(some 45),.val (.mov (.t 0)),none⟩,
  ⟨(some 46),.val (.mov (.t 1)),none⟩,
  ⟨(some 47),.val (.iaddr z none (.t 45) (.t 46)),none⟩,
  ⟨(some 48),.val (.loadr (some z) (.t 47)),none⟩,
  ⟨(some 49),.call (.t 40) [(.t 44),(.t 48)],none⟩,
  ⟨(some 50),.val (.bin .num .lss (.t 49) (.c (.int .i64 0))),none⟩]
def T4 (z sr ro sm is st:Nat):List Am.Item:=[
  ⟨(some 51),.val (.mov (.t 12)),none⟩,
  ⟨(some 52),.val (.bin .num .add (.t 51) (.c (.int .i64 1))),none⟩,
  ⟨(some 10),.val (.mov (.t 52)),none⟩]
def T5 (z sr ro sm is st:Nat):List Am.Item:=[
  ⟨(some 53),.val (.mov (.t 12)),none⟩,
  ⟨(some 11),.val (.mov (.t 53)),none⟩]
def T6 (z sr ro sm is st:Nat):RC:=.seq (.seq (.reg (T1 z sr ro sm is st)) (.cond (.t 33) (.skip) (.exit 0))) (.block 1 (.seq (.reg (T2 z sr ro sm is st)) (.seq (.draw (T3 z sr ro sm is st)) (.cond (.t 50) (.reg (T4 z sr ro sm is st)) (.reg (T5 z sr ro sm is st))))))
def CP (z sr ro sm is st:Nat):List Am.Item:=[
  ⟨(some 54),.val (.mov (.t 1)),none⟩,
  ⟨(some 13),.val (.mov (.t 54)),none⟩]
def T7 (z sr ro sm is st:Nat):List Am.Item:=[
  ⟨(some 55),.val (.mov (.t 13)),none⟩,
  ⟨(some 56),.val (.mov (.t 10)),none⟩,
  ⟨(some 57),.val (.bin .num .sub (.t 56) (.c (.int .i64 1))),none⟩,
  ⟨(some 58),.val (.bin .num .lss (.t 55) (.t 57)),none⟩]
def PJ (z sr ro sm is st:Nat):List Am.Item:=[
  ⟨(some 61),.val (.mov (.t 0)),none⟩,
  ⟨(some 62),.val (.mov (.t 13)),none⟩,
  ⟨(some 63),.val (.mov (.t 0)),none⟩,
  ⟨(some 64),.val (.mov (.t 13)),none⟩,
  ⟨(some 65),.val (.bin .num .add (.t 64) (.c (.int .i64 1))),none⟩,
  ⟨(some 66),.val (.mov (.t 0)),none⟩,
  ⟨(some 67),.val (.mov (.t 13)),none⟩,
  ⟨(some 68),.val (.bin .num .add (.t 67) (.c (.int .i64 1))),none⟩,
  ⟨(some 69),.val (.iaddr z none (.t 66) (.t 68)),none⟩,
  ⟨(some 70),.val (.loadr (some z) (.t 69)),none⟩,
  ⟨(some 71),.val (.mov (.t 0)),none⟩,
  ⟨(some 72),.val (.mov (.t 13)),none⟩,
  ⟨(some 73),.val (.iaddr z none (.t 71) (.t 72)),none⟩,
  ⟨(some 74),.val (.loadr (some z) (.t 73)),none⟩,
  ⟨(some 75),.val (.iaddr z none (.t 61) (.t 62)),none⟩,
  ⟨none,.store z (.t 75) (.t 70),none⟩,
  ⟨(some 76),.val (.iaddr z none (.t 63) (.t 65)),none⟩,
  ⟨none,.store z (.t 76) (.t 74),none⟩]
def PK (z sr ro sm is st:Nat):List Am.Item:=[
  ⟨(some 59),.val (.mov (.t 13)),none⟩,
  ⟨(some 60),.val (.bin .num .add (.t 59) (.c (.int .i64 1))),none⟩,
  ⟨(some 13),.val (.mov (.t 60)),none⟩]
def T8 (z sr ro sm is st:Nat):RC:=.seq (.seq (.reg (T7 z sr ro sm is st)) (.cond (.t 58) (.skip) (.exit 2))) (.seq (.block 3 (.draw (PJ z sr ro sm is st))) (.reg (PK z sr ro sm is st)))
def GE (z sr ro sm is st:Nat):List Am.Item:=[
  ⟨(some 77),.val (.mov (.t 3)),none⟩,
  ⟨(some 78),.val (.mov (.t 2)),none⟩,
  ⟨(some 79),.val (.bin .num .sub (.t 77) (.t 78)),none⟩,
  ⟨(some 80),.val (.bin .num .eql (.t 79) (.c (.int .i64 1))),none⟩]
def BD (z sr ro sm is st:Nat):List Am.Item:=[
  ⟨(some 81),.val (.mov (.t 1)),none⟩,
  ⟨(some 14),.val (.mov (.t 81)),none⟩]
def BE (z sr ro sm is st:Nat):List Am.Item:=[
  ⟨(some 82),.val (.mov (.t 2)),none⟩,
  ⟨(some 15),.val (.mov (.t 82)),none⟩]
def BF (z sr ro sm is st:Nat):List Am.Item:=[
  ⟨(some 83),.val (.mov (.t 14)),none⟩,
  ⟨(some 84),.val (.mov (.t 15)),none⟩,
  ⟨(some 85),.val (.bin .num .lss (.t 83) (.t 84)),none⟩]
def BG (z sr ro sm is st:Nat):List Am.Item:=[
  ⟨(some 86),.val (.mov (.t 14)),none⟩,
  ⟨(some 87),.val (.mov (.t 15)),none⟩,
  ⟨(some 88),.val (.bin .num .add (.t 86) (.t 87)),none⟩,
  ⟨(some 89),.val (.cvi .u64 (.t 88)),none⟩,
  ⟨(some 90),.val (.bin .num .shr (.t 89) (.c (.int .u64 1))),none⟩,
  ⟨(some 91),.val (.cvi .i64 (.t 90)),none⟩,
  ⟨(some 16),.val (.mov (.t 91)),none⟩]
def BH (z sr ro sm is st:Nat):List Am.Item:=[
  ⟨(some 92),.val (.mov (.t 4)),none⟩,
  ⟨(some 93),.val (.mov (.t 0)),none⟩,
  ⟨(some 94),.val (.mov (.t 2)),none⟩,
  ⟨(some 95),.val (.iaddr z none (.t 93) (.t 94)),none⟩,
  ⟨(some 96),.val (.loadr (some z) (.t 95)),none⟩,
  ⟨(some 97),.val (.mov (.t 0)),none⟩,
  ⟨(some 98),.val (.mov (.t 16)),none⟩,
  ⟨(some 99),.val (.iaddr z none (.t 97) (.t 98)),none⟩,
  ⟨(some 100),.val (.loadr (some z) (.t 99)),none⟩,
  ⟨(some 101),.call (.t 92) [(.t 96),(.t 100)],none⟩,
  ⟨(some 102),.val (.bin .num .lss (.t 101) (.c (.int .i64 0))),none⟩,
  ⟨(some 103),.val (.un .not (.t 102)),none⟩]
def BI (z sr ro sm is st:Nat):List Am.Item:=[
  ⟨(some 104),.val (.mov (.t 16)),none⟩,
  ⟨(some 105),.val (.bin .num .add (.t 104) (.c (.int .i64 1))),none⟩,
  ⟨(some 14),.val (.mov (.t 105)),none⟩]
def BJ (z sr ro sm is st:Nat):List Am.Item:=[
  ⟨(some 106),.val (.mov (.t 16)),none⟩,
  ⟨(some 15),.val (.mov (.t 106)),none⟩]
def CQ (z sr ro sm is st:Nat):RC:=.seq (.seq (.reg (BF z sr ro sm is st)) (.cond (.t 85) (.skip) (.exit 4))) (.block 5 (.seq (.reg (BG z sr ro sm is st)) (.seq (.draw (BH z sr ro sm is st)) (.cond (.t 103) (.reg (BI z sr ro sm is st)) (.reg (BJ z sr ro sm is st))))))
def BK (z sr ro sm is st:Nat):List Am.Item:=[
  ⟨(some 107),.val (.mov (.t 2)),none⟩,
  ⟨(some 17),.val (.mov (.t 107)),none⟩]
def BL (z sr ro sm is st:Nat):List Am.Item:=[
  ⟨(some 108),.val (.mov (.t 17)),none⟩,
  ⟨(some 109),.val (.mov (.t 14)),none⟩,
  ⟨(some 110),.val (.bin .num .gtr (.t 108) (.t 109)),none⟩]
def BM (z sr ro sm is st:Nat):List Am.Item:=[
  ⟨(some 113),.val (.mov (.t 0)),none⟩,
  ⟨(some 114),.val (.mov (.t 17)),none⟩,
  ⟨(some 115),.val (.mov (.t 0)),none⟩,
  ⟨(some 116),.val (.mov (.t 17)),none⟩,
  ⟨(some 117),.val (.bin .num .sub (.t 116) (.c (.int .i64 1))),none⟩,
  ⟨(some 118),.val (.mov (.t 0)),none⟩,
  ⟨(some 119),.val (.mov (.t 17)),none⟩,
  ⟨(some 120),.val (.bin .num .sub (.t 119) (.c (.int .i64 1))),none⟩,
  ⟨(some 121),.val (.iaddr z none (.t 118) (.t 120)),none⟩,
  ⟨(some 122),.val (.loadr (some z) (.t 121)),none⟩,
  ⟨(some 123),.val (.mov (.t 0)),none⟩,
  ⟨(some 124),.val (.mov (.t 17)),none⟩,
  ⟨(some 125),.val (.iaddr z none (.t 123) (.t 124)),none⟩,
  ⟨(some 126),.val (.loadr (some z) (.t 125)),none⟩,
  ⟨(some 127),.val (.iaddr z none (.t 113) (.t 114)),none⟩,
  ⟨none,.store z (.t 127) (.t 122),none⟩,
  ⟨(some 128),.val (.iaddr z none (.t 115) (.t 117)),none⟩,
  ⟨none,.store z (.t 128) (.t 126),none⟩]
def BN (z sr ro sm is st:Nat):List Am.Item:=[
  ⟨(some 111),.val (.mov (.t 17)),none⟩,
  ⟨(some 112),.val (.bin .num .sub (.t 111) (.c (.int .i64 1))),none⟩,
  ⟨(some 17),.val (.mov (.t 112)),none⟩]
def CR (z sr ro sm is st:Nat):RC:=.seq (.seq (.reg (BL z sr ro sm is st)) (.cond (.t 110) (.skip) (.exit 6))) (.seq (.block 7 (.draw (BM z sr ro sm is st))) (.reg (BN z sr ro sm is st)))
def GF (z sr ro sm is st:Nat):List Am.Item:=[
  ⟨(some 129),.val (.mov (.t 1)),none⟩,
  ⟨(some 130),.val (.mov (.t 3)),none⟩,
  ⟨(some 131),.val (.bin .num .add (.t 129) (.t 130)),none⟩,
  ⟨(some 132),.val (.cvi .u64 (.t 131)),none⟩,
  ⟨(some 133),.val (.bin .num .shr (.t 132) (.c (.int .u64 1))),none⟩,
  ⟨(some 134),.val (.cvi .i64 (.t 133)),none⟩,
  ⟨(some 18),.val (.mov (.t 134)),none⟩]
def GG (z sr ro sm is st:Nat):List Am.Item:=[
  ⟨(some 135),.val (.mov (.t 18)),none⟩,
  ⟨(some 136),.val (.mov (.t 2)),none⟩,
  ⟨(some 137),.val (.bin .num .add (.t 135) (.t 136)),none⟩,
  ⟨(some 19),.val (.mov (.t 137)),none⟩]
def GH (z sr ro sm is st:Nat):List Am.Item:=[
  ⟨(some 20),.val (.mov (.c (.int .i64 0))),none⟩,
  ⟨(some 21),.val (.mov (.c (.int .i64 0))),none⟩]
def GI (z sr ro sm is st:Nat):List Am.Item:=[
  ⟨(some 138),.val (.mov (.t 2)),none⟩,
  ⟨(some 139),.val (.mov (.t 18)),none⟩,
  ⟨(some 140),.val (.bin .num .gtr (.t 138) (.t 139)),none⟩]
def GJ (z sr ro sm is st:Nat):List Am.Item:=[
  ⟨(some 141),.val (.mov (.t 19)),none⟩,
  ⟨(some 142),.val (.mov (.t 3)),none⟩,
  ⟨(some 143),.val (.bin .num .sub (.t 141) (.t 142)),none⟩,
  ⟨(some 20),.val (.mov (.t 143)),none⟩]
def GK (z sr ro sm is st:Nat):List Am.Item:=[
  ⟨(some 144),.val (.mov (.t 18)),none⟩,
  ⟨(some 21),.val (.mov (.t 144)),none⟩]
def GL (z sr ro sm is st:Nat):List Am.Item:=[
  ⟨(some 145),.val (.mov (.t 1)),none⟩,
  ⟨(some 20),.val (.mov (.t 145)),none⟩]
def GM (z sr ro sm is st:Nat):List Am.Item:=[
  ⟨(some 146),.val (.mov (.t 2)),none⟩,
  ⟨(some 21),.val (.mov (.t 146)),none⟩]
def GN (z sr ro sm is st:Nat):List Am.Item:=[
  ⟨(some 147),.val (.mov (.t 19)),none⟩,
  ⟨(some 148),.val (.bin .num .sub (.t 147) (.c (.int .i64 1))),none⟩,
  ⟨(some 22),.val (.mov (.t 148)),none⟩]
def GP (z sr ro sm is st:Nat):List Am.Item:=[
  ⟨(some 149),.val (.mov (.t 20)),none⟩,
  ⟨(some 150),.val (.mov (.t 21)),none⟩,
  ⟨(some 151),.val (.bin .num .lss (.t 149) (.t 150)),none⟩]
def GQ (z sr ro sm is st:Nat):List Am.Item:=[
  ⟨(some 152),.val (.mov (.t 20)),none⟩,
  ⟨(some 153),.val (.mov (.t 21)),none⟩,
  ⟨(some 154),.val (.bin .num .add (.t 152) (.t 153)),none⟩,
  ⟨(some 155),.val (.cvi .u64 (.t 154)),none⟩,
  ⟨(some 156),.val (.bin .num .shr (.t 155) (.c (.int .u64 1))),none⟩,
  ⟨(some 157),.val (.cvi .i64 (.t 156)),none⟩,
  ⟨(some 23),.val (.mov (.t 157)),none⟩]
def GR (z sr ro sm is st:Nat):List Am.Item:=[
  ⟨(some 158),.val (.mov (.t 4)),none⟩,
  ⟨(some 159),.val (.mov (.t 0)),none⟩,
  ⟨(some 160),.val (.mov (.t 22)),none⟩,
  ⟨(some 161),.val (.mov (.t 23)),none⟩,
  ⟨(some 162),.val (.bin .num .sub (.t 160) (.t 161)),none⟩,
  ⟨(some 163),.val (.iaddr z none (.t 159) (.t 162)),none⟩,
  ⟨(some 164),.val (.loadr (some z) (.t 163)),none⟩,
  ⟨(some 165),.val (.mov (.t 0)),none⟩,
  ⟨(some 166),.val (.mov (.t 23)),none⟩,
  ⟨(some 167),.val (.iaddr z none (.t 165) (.t 166)),none⟩,
  ⟨(some 168),.val (.loadr (some z) (.t 167)),none⟩,
  ⟨(some 169),.call (.t 158) [(.t 164),(.t 168)],none⟩,
  ⟨(some 170),.val (.bin .num .lss (.t 169) (.c (.int .i64 0))),none⟩,
  ⟨(some 171),.val (.un .not (.t 170)),none⟩]
def GS (z sr ro sm is st:Nat):List Am.Item:=[
  ⟨(some 172),.val (.mov (.t 23)),none⟩,
  ⟨(some 173),.val (.bin .num .add (.t 172) (.c (.int .i64 1))),none⟩,
  ⟨(some 20),.val (.mov (.t 173)),none⟩]
def GT (z sr ro sm is st:Nat):List Am.Item:=[
  ⟨(some 174),.val (.mov (.t 23)),none⟩,
  ⟨(some 21),.val (.mov (.t 174)),none⟩]
def GU (z sr ro sm is st:Nat):RC:=.seq (.seq (.reg (GP z sr ro sm is st)) (.cond (.t 151) (.skip) (.exit 8))) (.block 9 (.seq (.reg (GQ z sr ro sm is st)) (.seq (.draw (GR z sr ro sm is st)) (.cond (.t 171) (.reg (GS z sr ro sm is st)) (.reg (GT z sr ro sm is st))))))
def YD (z sr ro sm is st:Nat):List Am.Item:=[
  ⟨(some 175),.val (.mov (.t 19)),none⟩,
  ⟨(some 176),.val (.mov (.t 20)),none⟩,
  ⟨(some 177),.val (.bin .num .sub (.t 175) (.t 176)),none⟩,
  ⟨(some 24),.val (.mov (.t 177)),none⟩]
def YE (z sr ro sm is st:Nat):List Am.Item:=[
  ⟨(some 178),.val (.mov (.t 20)),none⟩,
  ⟨(some 179),.val (.mov (.t 2)),none⟩,
  ⟨(some 180),.val (.bin .num .lss (.t 178) (.t 179)),none⟩,
  ⟨(some 181),.val (.mov (.t 180)),none⟩,
  ⟨(some 182),.val (.mov (.t 2)),(some (181,true))⟩,
  ⟨(some 183),.val (.mov (.t 24)),(some (181,true))⟩,
  ⟨(some 184),.val (.bin .num .lss (.t 182) (.t 183)),(some (181,true))⟩,
  ⟨(some 185),.val (.pick (.t 181) (.t 184) (.c (.bool false))),none⟩]
def YF (z sr ro sm is st:Nat):List Am.Item:=[
  ⟨(some 186),.val (.mov (.t 0)),none⟩,
  ⟨(some 187),.val (.mov (.t 20)),none⟩,
  ⟨(some 188),.val (.mov (.t 2)),none⟩,
  ⟨(some 189),.val (.mov (.t 24)),none⟩,
  ⟨(some 190),.val (.mov (.t 4)),none⟩,
  ⟨(some 191),.callF (.f ro) [(.t 186),(.t 187),(.t 188),(.t 189),(.t 190)],none⟩]
def WZ (z sr ro sm is st:Nat):List Am.Item:=[
  ⟨(some 192),.val (.mov (.t 1)),none⟩,
  ⟨(some 193),.val (.mov (.t 20)),none⟩,
  ⟨(some 194),.val (.bin .num .lss (.t 192) (.t 193)),none⟩,
  ⟨(some 195),.val (.mov (.t 194)),none⟩,
  ⟨(some 196),.val (.mov (.t 20)),(some (195,true))⟩,
  ⟨(some 197),.val (.mov (.t 18)),(some (195,true))⟩,
  ⟨(some 198),.val (.bin .num .lss (.t 196) (.t 197)),(some (195,true))⟩,
  ⟨(some 199),.val (.pick (.t 195) (.t 198) (.c (.bool false))),none⟩]
def W0 (z sr ro sm is st:Nat):List Am.Item:=[
  ⟨(some 200),.val (.mov (.t 0)),none⟩,
  ⟨(some 201),.val (.mov (.t 1)),none⟩,
  ⟨(some 202),.val (.mov (.t 20)),none⟩,
  ⟨(some 203),.val (.mov (.t 18)),none⟩,
  ⟨(some 204),.val (.mov (.t 4)),none⟩,
  ⟨(some 205),.callF (.f sm) [(.t 200),(.t 201),(.t 202),(.t 203),(.t 204)],none⟩]
def KD (z sr ro sm is st:Nat):List Am.Item:=[
  ⟨(some 206),.val (.mov (.t 18)),none⟩,
  ⟨(some 207),.val (.mov (.t 24)),none⟩,
  ⟨(some 208),.val (.bin .num .lss (.t 206) (.t 207)),none⟩,
  ⟨(some 209),.val (.mov (.t 208)),none⟩,
  ⟨(some 210),.val (.mov (.t 24)),(some (209,true))⟩,
  ⟨(some 211),.val (.mov (.t 3)),(some (209,true))⟩,
  ⟨(some 212),.val (.bin .num .lss (.t 210) (.t 211)),(some (209,true))⟩,
  ⟨(some 213),.val (.pick (.t 209) (.t 212) (.c (.bool false))),none⟩]
def KE (z sr ro sm is st:Nat):List Am.Item:=[
  ⟨(some 214),.val (.mov (.t 0)),none⟩,
  ⟨(some 215),.val (.mov (.t 18)),none⟩,
  ⟨(some 216),.val (.mov (.t 24)),none⟩,
  ⟨(some 217),.val (.mov (.t 3)),none⟩,
  ⟨(some 218),.val (.mov (.t 4)),none⟩,
  ⟨(some 219),.callF (.f sm) [(.t 214),(.t 215),(.t 216),(.t 217),(.t 218)],none⟩]
def T9 (z sr ro sm is st:Nat):RC:=.seq (.seq (.reg (Fl z sr ro sm is st)) (.cond (.t 28) (.seq (.reg (CN z sr ro sm is st)) (.seq (.reg (CO z sr ro sm is st)) (.seq (.block 0 (.loop (T6 z sr ro sm is st))) (.seq (.seq (.reg (CP z sr ro sm is st)) (.block 2 (.loop (T8 z sr ro sm is st)))) (.ret))))) (.skip))) (.seq (.seq (.reg (GE z sr ro sm is st)) (.cond (.t 80) (.seq (.reg (BD z sr ro sm is st)) (.seq (.reg (BE z sr ro sm is st)) (.seq (.block 4 (.loop (CQ z sr ro sm is st))) (.seq (.seq (.reg (BK z sr ro sm is st)) (.block 6 (.loop (CR z sr ro sm is st)))) (.ret))))) (.skip))) (.seq (.reg (GF z sr ro sm is st)) (.seq (.reg (GG z sr ro sm is st)) (.seq (.reg (GH z sr ro sm is st)) (.seq (.seq (.reg (GI z sr ro sm is st)) (.cond (.t 140) (.seq (.reg (GJ z sr ro sm is st)) (.reg (GK z sr ro sm is st))) (.seq (.reg (GL z sr ro sm is st)) (.reg (GM z sr ro sm is st))))) (.seq (.reg (GN z sr ro sm is st)) (.seq (.block 8 (.loop (GU z sr ro sm is st))) (.seq (.reg (YD z sr ro sm is st)) (.seq (.seq (.reg (YE z sr ro sm is st)) (.cond (.t 185) (.reg (YF z sr ro sm is st)) (.skip))) (.seq (.seq (.reg (WZ z sr ro sm is st)) (.cond (.t 199) (.reg (W0 z sr ro sm is st)) (.skip))) (.seq (.reg (KD z sr ro sm is st)) (.cond (.t 213) (.reg (KE z sr ro sm is st)) (.skip)))))))))))))
def GV:List RR:=[]

def Aa (z sr ro sm is st:Nat):List Am.Item:=[
  ⟨(some 10),.val (.mov (.t 1)),none⟩,
  ⟨(some 11),.val (.bin .num .add (.t 10) (.c (.int .i64 1))),none⟩,
  ⟨(some 8),.val (.mov (.t 11)),none⟩]
def Ab (z sr ro sm is st:Nat):List Am.Item:=[
  ⟨(some 12),.val (.mov (.t 8)),none⟩,
  ⟨(some 13),.val (.mov (.t 2)),none⟩,
  ⟨(some 14),.val (.bin .num .lss (.t 12) (.t 13)),none⟩]
def Ac (z sr ro sm is st:Nat):List Am.Item:=[
  ⟨(some 17),.val (.mov (.t 8)),none⟩,
  ⟨(some 9),.val (.mov (.t 17)),none⟩]
def Ad (z sr ro sm is st:Nat):List Am.Item:=[
  ⟨(some 18),.val (.mov (.t 9)),none⟩,
  ⟨(some 19),.val (.mov (.t 1)),none⟩,
  ⟨(some 20),.val (.bin .num .gtr (.t 18) (.t 19)),none⟩,
  ⟨(some 21),.val (.mov (.t 20)),none⟩,
  ⟨(some 22),.val (.mov (.t 3)),(some (21,true))⟩,
  ⟨(some 23),.val (.mov (.t 0)),(some (21,true))⟩,
  ⟨(some 24),.val (.mov (.t 9)),(some (21,true))⟩,
  ⟨(some 25),.val (.iaddr z none (.t 23) (.t 24)),(some (21,true))⟩,
  ⟨(some 26),.val (.loadr (some z) (.t 25)),(some (21,true))⟩,
  ⟨(some 27),.val (.mov (.t 0)),(some (21,true))⟩,
  ⟨(some 28),.val (.mov (.t 9)),(some (21,true))⟩,
  ⟨(some 29),.val (.bin .num .sub (.t 28) (.c (.int .i64 1))),(some (21,true))⟩,
  ⟨(some 30),.val (.iaddr z none (.t 27) (.t 29)),(some (21,true))⟩,
  ⟨(some 31),.val (.loadr (some z) (.t 30)),(some (21,true))⟩,
  ⟨(some 32),.call (.t 22) [(.t 26),(.t 31)],(some (21,true))⟩,
  ⟨(some 33),.val (.bin .num .lss (.t 32) (.c (.int .i64 0))),(some (21,true))⟩,
  ⟨(some 34),.val (.pick (.t 21) (.t 33) (.c (.bool false))),none⟩]
def Ae (z sr ro sm is st:Nat):List Am.Item:=[
  ⟨(some 37),.val (.mov (.t 0)),none⟩,
  ⟨(some 38),.val (.mov (.t 9)),none⟩,
  ⟨(some 39),.val (.mov (.t 0)),none⟩,
  ⟨(some 40),.val (.mov (.t 9)),none⟩,
  ⟨(some 41),.val (.bin .num .sub (.t 40) (.c (.int .i64 1))),none⟩,
  ⟨(some 42),.val (.mov (.t 0)),none⟩,
  ⟨(some 43),.val (.mov (.t 9)),none⟩,
  ⟨(some 44),.val (.bin .num .sub (.t 43) (.c (.int .i64 1))),none⟩,
  ⟨(some 45),.val (.iaddr z none (.t 42) (.t 44)),none⟩,
  ⟨(some 46),.val (.loadr (some z) (.t 45)),none⟩,
  ⟨(some 47),.val (.mov (.t 0)),none⟩,
  ⟨(some 48),.val (.mov (.t 9)),none⟩,
  ⟨(some 49),.val (.iaddr z none (.t 47) (.t 48)),none⟩,
  ⟨(some 50),.val (.loadr (some z) (.t 49)),none⟩,
  ⟨(some 51),.val (.iaddr z none (.t 37) (.t 38)),none⟩,
  ⟨none,.store z (.t 51) (.t 46),none⟩,
  ⟨(some 52),.val (.iaddr z none (.t 39) (.t 41)),none⟩,
  ⟨none,.store z (.t 52) (.t 50),none⟩]
def Ag (z sr ro sm is st:Nat):List Am.Item:=[
  ⟨(some 35),.val (.mov (.t 9)),none⟩,
  ⟨(some 36),.val (.bin .num .sub (.t 35) (.c (.int .i64 1))),none⟩,
  ⟨(some 9),.val (.mov (.t 36)),none⟩]
def Ah (z sr ro sm is st:Nat):RC:=.seq (.seq (.draw (Ad z sr ro sm is st)) (.cond (.t 34) (.skip) (.exit 2))) (.seq (.block 3 (.draw (Ae z sr ro sm is st))) (.reg (Ag z sr ro sm is st)))
def Ai (z sr ro sm is st:Nat):List Am.Item:=[
  ⟨(some 15),.val (.mov (.t 8)),none⟩,
  ⟨(some 16),.val (.bin .num .add (.t 15) (.c (.int .i64 1))),none⟩,
  ⟨(some 8),.val (.mov (.t 16)),none⟩]
def Aj (z sr ro sm is st:Nat):RC:=.seq (.seq (.reg (Ab z sr ro sm is st)) (.cond (.t 14) (.skip) (.exit 0))) (.seq (.block 1 (.seq (.reg (Ac z sr ro sm is st)) (.block 2 (.loop (Ah z sr ro sm is st))))) (.reg (Ai z sr ro sm is st)))
def ris (z sr ro sm is st:Nat):RC:=.seq (.reg (Aa z sr ro sm is st)) (.block 0 (.loop (Aj z sr ro sm is st)))
def ois:List RR:=[]

def Ak (z sr ro sm is st:Nat):List Am.Item:=[
  ⟨(some 6),.val (.mov (.c (.int .i64 20))),none⟩]
def Al (z sr ro sm is st:Nat):List Am.Item:=[
  ⟨(some 10),.val (.mov (.t 6)),none⟩,
  ⟨(some 7),.val (.mov (.c (.int .i64 0))),none⟩,
  ⟨(some 8),.val (.mov (.t 10)),none⟩]
def An (z sr ro sm is st:Nat):List Am.Item:=[
  ⟨(some 11),.val (.mov (.t 8)),none⟩,
  ⟨(some 12),.val (.mov (.t 1)),none⟩,
  ⟨(some 13),.val (.bin .num .leq (.t 11) (.t 12)),none⟩]
def Ao (z sr ro sm is st:Nat):List Am.Item:=[
  ⟨(some 14),.val (.mov (.t 0)),none⟩,
  ⟨(some 15),.val (.mov (.t 7)),none⟩,
  ⟨(some 16),.val (.mov (.t 8)),none⟩,
  ⟨(some 17),.val (.mov (.t 2)),none⟩,
  ⟨(some 18),.callF (.f is) [(.t 14),(.t 15),(.t 16),(.t 17)],none⟩]
def Ap (z sr ro sm is st:Nat):List Am.Item:=[
  ⟨(some 19),.val (.mov (.t 8)),none⟩,
  ⟨(some 7),.val (.mov (.t 19)),none⟩]
def Aq (z sr ro sm is st:Nat):List Am.Item:=[
  ⟨(some 20),.val (.mov (.t 8)),none⟩,
  ⟨(some 21),.val (.mov (.t 6)),none⟩,
  ⟨(some 22),.val (.bin .num .add (.t 20) (.t 21)),none⟩,
  ⟨(some 8),.val (.mov (.t 22)),none⟩]
def Ar (z sr ro sm is st:Nat):RC:=.seq (.seq (.reg (An z sr ro sm is st)) (.cond (.t 13) (.skip) (.exit 0))) (.block 1 (.seq (.reg (Ao z sr ro sm is st)) (.seq (.reg (Ap z sr ro sm is st)) (.reg (Aq z sr ro sm is st)))))
def Au (z sr ro sm is st:Nat):List Am.Item:=[
  ⟨(some 23),.val (.mov (.t 0)),none⟩,
  ⟨(some 24),.val (.mov (.t 7)),none⟩,
  ⟨(some 25),.val (.mov (.t 1)),none⟩,
  ⟨(some 26),.val (.mov (.t 2)),none⟩,
  ⟨(some 27),.callF (.f is) [(.t 23),(.t 24),(.t 25),(.t 26)],none⟩]
def Av (z sr ro sm is st:Nat):List Am.Item:=[
  ⟨(some 28),.val (.mov (.t 6)),none⟩,
  ⟨(some 29),.val (.mov (.t 1)),none⟩,
  ⟨(some 30),.val (.bin .num .lss (.t 28) (.t 29)),none⟩]
def Aw (z sr ro sm is st:Nat):List Am.Item:=[
  ⟨(some 31),.val (.mov (.t 6)),none⟩,
  ⟨(some 32),.val (.bin .num .mul (.c (.int .i64 2)) (.t 31)),none⟩,
  ⟨(some 7),.val (.mov (.c (.int .i64 0))),none⟩,
  ⟨(some 8),.val (.mov (.t 32)),none⟩]
def Ax (z sr ro sm is st:Nat):List Am.Item:=[
  ⟨(some 33),.val (.mov (.t 8)),none⟩,
  ⟨(some 34),.val (.mov (.t 1)),none⟩,
  ⟨(some 35),.val (.bin .num .leq (.t 33) (.t 34)),none⟩]
def PM (z sr ro sm is st:Nat):List Am.Item:=[
  ⟨(some 36),.val (.mov (.t 0)),none⟩,
  ⟨(some 37),.val (.mov (.t 7)),none⟩,
  ⟨(some 38),.val (.mov (.t 7)),none⟩,
  ⟨(some 39),.val (.mov (.t 6)),none⟩,
  ⟨(some 40),.val (.bin .num .add (.t 38) (.t 39)),none⟩,
  ⟨(some 41),.val (.mov (.t 8)),none⟩,
  ⟨(some 42),.val (.mov (.t 2)),none⟩,
  ⟨(some 43),.callF (.f sm) [(.t 36),(.t 37),(.t 40),(.t 41),(.t 42)],none⟩]
def PP (z sr ro sm is st:Nat):List Am.Item:=[
  ⟨(some 44),.val (.mov (.t 8)),none⟩,
  ⟨(some 7),.val (.mov (.t 44)),none⟩]
def PQ (z sr ro sm is st:Nat):List Am.Item:=[
  ⟨(some 45),.val (.mov (.t 8)),none⟩,
  ⟨(some 46),.val (.mov (.t 6)),none⟩,
  ⟨(some 47),.val (.bin .num .mul (.c (.int .i64 2)) (.t 46)),none⟩,
  ⟨(some 48),.val (.bin .num .add (.t 45) (.t 47)),none⟩,
  ⟨(some 8),.val (.mov (.t 48)),none⟩]
def Ay (z sr ro sm is st:Nat):RC:=.seq (.seq (.reg (Ax z sr ro sm is st)) (.cond (.t 35) (.skip) (.exit 4))) (.block 5 (.seq (.reg (PM z sr ro sm is st)) (.seq (.reg (PP z sr ro sm is st)) (.reg (PQ z sr ro sm is st)))))
def PR (z sr ro sm is st:Nat):List Am.Item:=[
  ⟨(some 49),.val (.mov (.t 7)),none⟩,
  ⟨(some 50),.val (.mov (.t 6)),none⟩,
  ⟨(some 51),.val (.bin .num .add (.t 49) (.t 50)),none⟩,
  ⟨(some 9),.val (.mov (.t 51)),none⟩]
def PT (z sr ro sm is st:Nat):List Am.Item:=[
  ⟨(some 52),.val (.mov (.t 9)),none⟩,
  ⟨(some 53),.val (.mov (.t 1)),none⟩,
  ⟨(some 54),.val (.bin .num .lss (.t 52) (.t 53)),none⟩]
def PU (z sr ro sm is st:Nat):List Am.Item:=[
  ⟨(some 55),.val (.mov (.t 0)),none⟩,
  ⟨(some 56),.val (.mov (.t 7)),none⟩,
  ⟨(some 57),.val (.mov (.t 9)),none⟩,
  ⟨(some 58),.val (.mov (.t 1)),none⟩,
  ⟨(some 59),.val (.mov (.t 2)),none⟩,
  ⟨(some 60),.callF (.f sm) [(.t 55),(.t 56),(.t 57),(.t 58),(.t 59)],none⟩]
def BO (z sr ro sm is st:Nat):List Am.Item:=[
  ⟨(some 61),.val (.mov (.t 6)),none⟩,
  ⟨(some 62),.val (.bin .num .mul (.t 61) (.c (.int .i64 2))),none⟩,
  ⟨(some 6),.val (.mov (.t 62)),none⟩]
def Az (z sr ro sm is st:Nat):RC:=.seq (.seq (.reg (Av z sr ro sm is st)) (.cond (.t 30) (.skip) (.exit 2))) (.block 3 (.seq (.reg (Aw z sr ro sm is st)) (.seq (.block 4 (.loop (Ay z sr ro sm is st))) (.seq (.seq (.reg (PR z sr ro sm is st)) (.seq (.reg (PT z sr ro sm is st)) (.cond (.t 54) (.reg (PU z sr ro sm is st)) (.skip)))) (.reg (BO z sr ro sm is st))))))
def rst (z sr ro sm is st:Nat):RC:=.seq (.reg (Ak z sr ro sm is st)) (.seq (.reg (Al z sr ro sm is st)) (.seq (.block 0 (.loop (Ar z sr ro sm is st))) (.seq (.reg (Au z sr ro sm is st)) (.block 2 (.loop (Az z sr ro sm is st))))))
def ost:List RR:=[]

def AA (z sr ro sm is st:Nat):List Am.Item:=[
  ⟨(some 4),.val (.mov (.t 0)),none⟩,
  ⟨(some 5),.val (.mov (.t 0)),none⟩,
  ⟨(some 6),.val (.len 1 (.t 5)),none⟩,
  ⟨(some 7),.val (.mov (.t 1)),none⟩,
  ⟨(some 8),.callF (.f st) [(.t 4),(.t 6),(.t 7)],none⟩]
def rss (z sr ro sm is st:Nat):RC:=.reg (AA z sr ro sm is st)
def oss:List RR:=[]

structure Cs (P:Program)(z sr ro sm is st ss:Nat):Prop where
 csr:CK P sr 38 (rsr z sr ro sm is st) osr
 cro:CK P ro 58 (rro z sr ro sm is st) oro
 csm:CK P sm 220 (T9 z sr ro sm is st) GV
 cis:CK P is 53 (ris z sr ro sm is st) ois
 cst:CK P st 63 (rst z sr ro sm is st) ost
 css:CK P ss 9 (rss z sr ro sm is st) oss

end Go.Proofs.YtfgchfdkiomfpaaGreat.Tg

namespace Go.Proofs.YtfgchfdkiomfpaaGreat.Am
open Go Bt

def Ez (E:AV→Prop)(sz:Nat)(x:AV):Prop:=E x∧∃l,x=.agg l∧l.length=sz∧AV.rfL l=true∧l.all AV.leaf=true∧∀m,AV.stillL false m l=some l

variable {E:AV→Prop}

theorem Ez.part {sz:Nat}{x:AV}(h:Ez E sz x):Am.part x.cells 0 (some sz)=some x:=by
 obtain⟨_,l,rfl,rfl,_,_,_⟩:=h;simp[Am.part,AV.cells]
theorem Ez.len {sz:Nat}{x:AV}(h:Ez E sz x):x.cells.length=sz:=by
 obtain⟨_,l,rfl,rfl,_,_,_⟩:=h;rfl
theorem Ez.leaf {sz:Nat}{x:AV}(h:Ez E sz x):x.cells.all AV.leaf=true:=by
 obtain⟨_,l,rfl,_,_,h,_⟩:=h;exact h
theorem Ez.rf {sz:Nat}{x:AV}(h:Ez E sz x):x.rf=true:=by
 obtain⟨_,l,rfl,_,h,_,_⟩:=h;exact h

theorem Ez.still {sz:Nat}{x:AV}(h:Ez E sz x)(m:Qh):x.still false m=some x:=by
 obtain⟨_,l,rfl,_,_,_,h⟩:=h;simp only[AV.still,h m,QPw]
theorem Yh {sz:Nat}{x y:AV}(h:Ez E sz x)(k:Ez E sz y)(m:Qh):AV.stillL false m [x,y]=some [x,y]:=by
 simp only[AV.stillL,h.still,k.still]
theorem Wi {sz:Nat}{x y:AV}(h:Ez E sz x)(k:Ez E sz y):AV.rfL [x,y]=true:=by
 simp only[AV.rfL,h.rf,k.rf,Bool.and_self]

theorem WC {P:Program}{f:Fr}{m:Qh}{ds:List DF}{Qe:List Item}{d:Nat}{K:St→Prop}{k:Nat}{r:RA}{args:List RA}{ys:List AV}{v:AV}(hr:r.ev f=.fn (.func k) [] [])(hk:Qj P k ys v)(hy:AV.stillL false m (args.map (RA.ev f))=some ys)(h1:AV.rfL ys=true)(h2:v.rf=true)(h3:AV.rfL (args.map (RA.ev f))=true∨v.nl=true)(h:QC P Qe ⟨QG f d v,m,ds⟩ K) :
  QC P (⟨some d,.call r args,none⟩ :: Qe) ⟨f,m,ds⟩ K:=by
 refine⟨k,[],[],ys,v,hr,?_,h1,hk,h2,?_,h⟩
 ·simpa using hy
 ·simpa using h3

theorem put_put:∀ {m:Qh} {l s:Nat} {o o':Ob},Am.put (Am.put m l s o) l s o'=Am.put m l s o'
 | [],_,_,_,_=>rfl
 |fr :: m,0,s,o,o'=>by simp only[Am.put,upd_upd']
 |fr :: m,l+1,s,o,o'=>by simp only[Am.put,put_put (m:=m)]
where
 upd_upd' {f:Nat→Ob} {d:Nat} {x y:Ob}:QG (QG f d x) d y=QG f d y:=by
  funext i;simp only[QG];cases Nat.beq i d<;>rfl

theorem put_self:∀ {m:Qh} {l s:Nat} {o:Ob},Qd m l s=o→Am.put m l s o=m
 | [],_,_,_,_=>rfl
 |fr :: m,0,s,o,h=>by
  simp only[Am.put];congr 1
  funext i;simp only[QG];cases hb:Nat.beq i s with
  |false=>rfl
  |true=>rw[QOC hb];exact h.symm
 |fr :: m,l+1,s,o,h=>by simp only[Am.put,put_self (m:=m) h]

section
variable {m:Qh}{fr:Nat→Ob}{lv s g sz n i:Nat}{cur:List AV}{x y:AV}

theorem Wu (hlv:lv<m.length)(hx:cur[i]? = some x)(he:Ez E sz x):Q3 (fr :: Am.put m lv s (.vec g sz cur)) (some sz) (.vptr (lv+1) s g i 0)=some x:=by
 have e:Qd (fr :: Am.put m lv s (.vec g sz cur)) (lv+1) s=.vec g sz cur:=Ql hlv;simp only[Q3,e,if_true,hx,he.part]

theorem UL (hlv:lv<m.length)(hx:cur[i]? = some x)(he:Ez E sz x)(hy:Ez E sz y)(h0:sz≠0):Q6 (fr :: Am.put m lv s (.vec g sz cur)) (.vptr (lv+1) s g i 0) y.cells=some (fr :: Am.put m lv s (.vec g sz (cur.set i y))):=by
 have e:Qd (fr :: Am.put m lv s (.vec g sz cur)) (lv+1) s=.vec g sz cur:=Ql hlv;obtain⟨_,l,rfl,hl,_,_,_⟩:=he;obtain⟨_,k,rfl,hk,hf,_,_⟩:=hy;have hc:0+(AV.agg k).cells.length≤(AV.agg l).cells.length∧(AV.agg k).cells.length≠0∧AV.rfL (AV.agg k).cells=true:=by
  simp only[AV.cells];exact⟨by omega,by omega,hf⟩
 simp only[Q6,e,if_true,hx,QO9 hc];have hs:splice l 0 k=k:=by
  simp only[splice,QPN,QO1,QPm];rw[QPh (by omega),QPI]
 simp only[Kk,AV.cells,hs,Am.put,put_put]

theorem Wv (hlv:lv<m.length)(hi:i<n):Qf (fr :: Am.put m lv s (.vec g sz cur)) sz none (.vec (lv+1) s g 0 n false) ((i:Nat):Int)=some (.vptr (lv+1) s g i 0):=by
 have e:Qd (fr :: Am.put m lv s (.vec g sz cur)) (lv+1) s=.vec g sz cur:=Ql hlv;simp only[Qf,e,QP7];rw[QO9 (by omega),QO9 ⟨trivial,trivial,hi⟩,QPm]

end

theorem put_len:∀ {m:Qh} {l s:Nat} {o:Ob},(Am.put m l s o).length=m.length
 | [],_,_,_=>rfl
 |_ :: _,0,_,_=>rfl
 |fr :: m,l+1,s,o=>by simp only[Am.put,QOT,put_len (m:=m)]

end Go.Proofs.YtfgchfdkiomfpaaGreat.Am

namespace Go.Proofs.YtfgchfdkiomfpaaGreat.Tz
open Go Am Bt Tg
variable {Pg:Program}{cz sr ro sm is st ss:Nat}(hC:Tg.Cs Pg cz sr ro sm is st ss)(hcz:cz≠0)

variable {E:AV→Prop}

def BP (X cur:List AV)(p q i:Nat):Prop :=
 cur.length=X.length∧∀j,cur[j]? = if p≤j∧j<p+i then X[q+(j-p)]? else if q≤j∧j<q+i then X[p+(j-q)]? else X[j]?

theorem BP.step {X cur:List AV}{p q i n:Nat}(h:BP X cur p q i)(hi:i<n)(hpq:p+n≤q)(hq:q+n≤X.length){x y:AV}(hx:X[q+i]? = some x)(hy:X[p+i]? = some y) :
  BP X ((cur.set (p+i) x).set (q+i) y) p q (i+1):=by
 obtain⟨h1,h2⟩:=h;refine⟨by simp[h1],fun j=>?_⟩;rw[List.getElem?_set,List.length_set,h1,List.getElem?_set,h1,h2 j];by_cases a:q+i=j
 ·subst a;rw[QO9 rfl,QO9 (by omega),QOS (by omega),QO9 (by omega),show p+(q+i-q)=p+i by omega,hy]
 ·rw[QOS a];by_cases b:p+i=j
  ·subst b;rw[QO9 rfl,QO9 (by omega),QO9 (by omega),show q+(p+i-p)=q+i by omega,hx]
  ·rw[QOS b]
   repeat' split
   all_goals first|rfl|(exfalso;omega)|(congr 1;omega)

theorem BP.done {P A M B S cur:List AV}(h:BP (P++A++M++B++S) cur P.length (P.length+A.length+M.length) A.length)(hAB:A.length=B.length):cur=P++B++M++A++S:=by
 apply List.ext_getElem?
 intro j;rw[h.2 j];simp only[List.getElem?_append,QPi]
 repeat' split
 all_goals first|rfl|(exfalso;omega)|(congr 1;omega)

def SwS (cz:Nat)(m:Qh)(lv s g N p q n:Nat)(X:List AV)(k:Nat)(st:St):Prop :=
 ∃f i cur,st=⟨f,[QD]++Am.put m lv s (.vec g cz cur),[]⟩∧k=n-i∧i≤n∧BP X cur p q i∧
  f 0=.vec (lv+1) s g 0 N false∧f 1=.int .i64 (p:Nat)∧f 2=.int .i64 (q:Nat)∧f 3=.int .i64 (n:Nat)∧f 10=.int .i64 (i:Nat)

include hC hcz in
theorem QKo (cmp:AV)(lv s g:Nat)(P A M B S:List AV)(m:Qh)(hl:Am.Qd m lv s=.vec g cz (P++A++M++B++S))(hAB:A.length=B.length)(he:∀x∈P++A++M++B++S,Ez E cz x)
  (hn:(P++A++M++B++S).length<4611686018427387904) :
  Qu Pg sr [.vec lv s g 0 (P++A++M++B++S).length false,.int .i64 (P.length:Nat),.int .i64 ((P.length+A.length+M.length:Nat):Int),.int .i64 (A.length:Nat),cmp] m
   (fun x m1=>x=.tup []∧m1=Am.put m lv s (.vec g cz (P++B++M++A++S))):=by
 have _:=hC;have _:=hcz;have hlv:lv<m.length:=Q8 (by rw[hl];simp);have hlen:(P++A++M++B++S).length=P.length+A.length+M.length+B.length+S.length:=by simp only[QPi]
 refine hC.csr.go (by simp) ?_;simp only[TM,rsr,osr,Qb,seval];have h0:m=Am.put m lv s (.vec g cz (P++A++M++B++S)):=(put_self hl).symm;generalize hX:P++A++M++B++S=X at *;generalize hp:P.length=p at *;generalize hq:p+A.length+M.length=q at *;generalize hnn:A.length=n at *;refine Qg (SwS cz m lv s g X.length p q n X) _ ⟨_,0,X,by rw[←h0]<;>rfl,rfl,QOM _,⟨rfl,fun j=>?_⟩,by simp only[Qb,seval],by simp only[Qb,seval],by simp only[Qb,seval],by simp only[Qb,seval],by simp only[Qb,seval]<;>rfl⟩ ?_
 ·rw[QOS (by omega),QOS (by omega)]
 rintro k st ⟨f,i,cur,rfl,rfl,hi,hsw,f0,f1,f2,f3,f10⟩;simp only[TQ,TN,TO,TP,f3,f10,Qb,seval];by_cases hlt:i<n
 ·have d0:decide ((i:Int)<(n:Int))=true:=by simp;omega
  have e1:IntKind.i64.wrap ((p:Int)+(i:Int))=((p+i:Nat):Int):=by rw[QA];omega
  have e2:IntKind.i64.wrap ((q:Int)+(i:Int))=((q+i:Nat):Int):=by rw[QA];omega
  have e3:IntKind.i64.wrap ((i:Int)+1)=((i+1:Nat):Int):=by rw[QA];omega
  obtain⟨x,hx⟩:∃x,X[q+i]? = some x:=⟨_,QOH (by omega)⟩;obtain⟨y,hy⟩:∃y,X[p+i]? = some y:=⟨_,QOH (by omega)⟩;have ex:=he x (QOR hx);have ey:=he y (QOR hy);have cx:cur[q+i]? = some x:=by rw[hsw.2,QOS (by omega),QOS (by omega),hx]
  have cy:cur[p+i]? = some y:=by rw[hsw.2,QOS (by omega),QOS (by omega),hy]
  have cx':(cur.set (p+i) x)[q+i]? = some x:=by rw[List.getElem?_set_ne (by omega),cx]
  simp only[d0,e1,e2,e3,f0,f1,f2,f10,Wv hlv (show q+i<X.length by omega),Wv hlv (show p+i<X.length by omega),Wu hlv cx ex,Wu hlv cy ey,ex.len,ey.len,ex.leaf,ey.leaf,UL hlv cy ey ex hcz,UL hlv cx' ex ey hcz,Qb,seval];exact⟨n-(i+1),by omega,_,i+1,_,rfl,rfl,by omega,hsw.step hlt (by omega) (by omega) hx hy,by simp only[f0,Qb,seval],by simp only[f1,Qb,seval],by simp only[f2,Qb,seval],by simp only[f3,Qb,seval],by simp only[Qb,seval]⟩
 ·have d0:decide ((i:Int)<(n:Int))=false:=by simp;omega
  have hin:i=n:=by omega
  subst hin;have hc:=BP.done (P:=P) (A:=A) (M:=M) (B:=B) (S:=S) (cur:=cur) (by rw[hX,hp,hnn,hq];exact hsw) (by omega);simp only[d0,hc,put_len,Qb,seval]

include hC hcz in
theorem Dy (cmp:AV){fr:Nat→Ob}{lv s g N a b n:Nat}(P A M B S:List AV){m:Qh}(hlv:lv<m.length)(hAB:A.length=B.length)(he:∀x∈P++A++M++B++S,Ez E cz x)
  (hn:(P++A++M++B++S).length<4611686018427387904) (hN:N=(P++A++M++B++S).length) (ha:a=P.length) (hb:b=P.length+A.length+M.length) (hc:n=A.length) :
  Qu Pg sr [.vec (lv+1) s g 0 N false,.int .i64 (a:Nat),.int .i64 (b:Nat),.int .i64 (n:Nat),cmp] (fr :: Am.put m lv s (.vec g cz (P++A++M++B++S)))
   (fun x m1=>x=.tup []∧m1=fr :: Am.put m lv s (.vec g cz (P++B++M++A++S))):=by
 have _:=hC;have _:=hcz;subst hN ha hb hc;refine(QKo hC hcz cmp (lv+1) s g P A M B S (fr :: Am.put m lv s (.vec g cz (P++A++M++B++S))) (Ql (m:=m) hlv) hAB he hn).mono fun x m1 h=>⟨h.1,?_⟩
 rw[h.2];simp only[Am.put,put_put]

def RoS (cz:Nat)(E:AV→Prop)(m:Qh)(lv s g N mid:Nat)(T:List AV)(cmp:AV)(k:Nat)(st:St):Prop :=
 ∃f P A B S,st=⟨f,[QD]++Am.put m lv s (.vec g cz (P++A++B++S)),[]⟩∧k=A.length+B.length∧0<A.length∧0<B.length∧P.length+A.length=mid∧P++B++A++S=T∧(P++A++B++S).length=N∧(∀x∈P++A++B++S,Ez E cz x)∧
  f 0=.vec (lv+1) s g 0 N false∧f 2=.int .i64 (mid:Nat)∧f 4=cmp∧f 10=.int .i64 (A.length:Nat)∧f 11=.int .i64 (B.length:Nat)

include hC hcz in
theorem QKp (cmp:AV)(lv s g:Nat)(P X Y S:List AV)(m:Qh)(hl:Am.Qd m lv s=.vec g cz (P++X++Y++S))(hX:0<X.length)(hY:0<Y.length)(he:∀x∈P++X++Y++S,Ez E cz x)
  (hn:(P++X++Y++S).length<4611686018427387904) :
  Qu Pg ro [.vec lv s g 0 (P++X++Y++S).length false,.int .i64 (P.length:Nat),.int .i64 ((P.length+X.length:Nat):Int),.int .i64 ((P.length+X.length+Y.length:Nat):Int),cmp] m
   (fun x m1=>x=.tup []∧m1=Am.put m lv s (.vec g cz (P++Y++X++S))):=by
 have _:=hC;have _:=hcz;have hlv:lv<m.length:=Q8 (by rw[hl];simp);have hlen:(P++X++Y++S).length=P.length+X.length+Y.length+S.length:=by simp only[QPi]
 refine hC.cro.go (by simp) ?_;have e1:IntKind.i64.wrap (((P.length+X.length:Nat):Int)-(P.length:Int))=((X.length:Nat):Int):=by rw[QA];omega
 have e2:IntKind.i64.wrap (((P.length+X.length+Y.length:Nat):Int)-((P.length+X.length:Nat):Int))=((Y.length:Nat):Int):=by rw[QA];omega
 simp only[TR,TS,T0,rro,oro,e1,e2,Qb,seval];have h0:m=Am.put m lv s (.vec g cz (P++X++Y++S)):=(put_self hl).symm;refine Qg (RoS cz E m lv s g (P++X++Y++S).length (P.length+X.length) (P++Y++X++S) cmp.sh) _ ⟨_,P,X,Y,S,by rw[←h0]<;>rfl,rfl,hX,hY,rfl,rfl,rfl,he,by simp only[Qb,seval],by simp only[Qb,seval],by simp only[Qb,seval],by simp only[Qb,seval],by simp only[Qb,seval]⟩ ?_;generalize hT:P++Y++X++S=T;generalize hN:(P++X++Y++S).length=N at *;generalize hmid:P.length+X.length=mid at *;clear hl he h0 hX hY e1 e2;rintro k st ⟨f,P',A,B,S',rfl,rfl,hA,hB,hm,hTT,hNN,hee,f0,f2,f4,f10,f11⟩;have hlen':(P'++A++B++S').length=P'.length+A.length+B.length+S'.length:=by simp only[QPi]
 simp only[TZ,TT,TU,TV,TW,TX,TY,f10,f11,Qb,seval];by_cases hij:A.length=B.length
 ·have d0:((A.length:Int) != (B.length:Int))=false:=by simp;omega
  have e1:IntKind.i64.wrap ((mid:Int)-(A.length:Int))=((P'.length:Nat):Int):=by rw[QA];omega
  simp only[d0,e1,f0,f2,f4,f10,Qb,seval];have hc:=Dy hC hcz cmp.sh (fr:=QD) (g:=g) (s:=s) (N:=N) (a:=P'.length) (b:=mid) (n:=A.length) P' A [] B S' hlv hij (by simpa using hee) (by simp only[QPI];omega) (by simp only[QPI];omega) rfl (by simp only[QPA];omega) rfl;simp only[QPI]at hc;refine QU hc rfl ?_;simp only[hTT,put_len,Qb,seval]
 ·have d0:((A.length:Int) != (B.length:Int))=true:=by simp;omega
  simp only[d0,f10,f11,Qb,seval];by_cases hgt:B.length<A.length
  ·have d1:decide ((A.length:Int) > (B.length:Int))=true:=by simp;omega
   have e1:IntKind.i64.wrap ((mid:Int)-(A.length:Int))=((P'.length:Nat):Int):=by rw[QA];omega
   have e2:IntKind.i64.wrap ((A.length:Int)-(B.length:Int))=((A.length-B.length:Nat):Int):=by rw[QA];omega
   simp only[d1,e1,f0,f2,f4,f10,f11,Qb,seval];have hcut:P'++A++B++S'=P'++A.take B.length++A.drop B.length++B++S':=by
    rw[QOZ P' (A.take _),QPV]
   have hl1:(A.take B.length).length=B.length:=by simp;omega
   rw[hcut]at hee hNN ⊢;refine QU (Dy hC hcz cmp.sh (a:=P'.length) (b:=mid) (n:=B.length) P' (A.take B.length) (A.drop B.length) B S' hlv hl1 hee (by omega) hNN.symm rfl (by rw[hl1];simp;omega) hl1.symm) rfl ?_;simp only[e2,f10,f11,Qb,seval];have hcat:P'++B++A.drop B.length++A.take B.length++S'=(P'++B)++A.drop B.length++A.take B.length++S':=rfl;refine⟨(A.drop B.length).length+(A.take B.length).length,?_,_,P'++B,A.drop B.length,A.take B.length,S',rfl,rfl,by simp;omega,by omega,by simp;omega,?_,?_,?_,by simp only[f0,Qb,seval],by simp only[f2,Qb,seval],by simp only[f4,Qb,seval],by simp only[QPl,Qb,seval],by simp only[f11,hl1,Qb,seval]⟩
   ·simp;omega
   ·rw[←hTT];simp only[QOZ];rw[←QOZ (A.take _),QPV]
   ·rw[←hNN];simp only[QPi];omega
   ·intro x hx;refine hee x ?_;simp only[QPX]at hx ⊢
    grind
  ·have d1:decide ((A.length:Int) > (B.length:Int))=false:=by simp;omega
   have e1:IntKind.i64.wrap ((mid:Int)-(A.length:Int))=((P'.length:Nat):Int):=by rw[QA];omega
   have e2:IntKind.i64.wrap ((B.length:Int)-(A.length:Int))=((B.length-A.length:Nat):Int):=by rw[QA];omega
   have e3:IntKind.i64.wrap ((mid:Int)+(B.length:Int))=((mid+B.length:Nat):Int):=by rw[QA];omega
   have e4:IntKind.i64.wrap (((mid+B.length:Nat):Int)-(A.length:Int))=((mid+B.length-A.length:Nat):Int):=by rw[QA];omega
   simp only[d1,e1,e3,e4,f0,f2,f4,f10,f11,Qb,seval];have hcut:P'++A++B++S'=P'++A++B.take (B.length-A.length)++B.drop (B.length-A.length)++S':=by
    rw[QOZ (P'++A) (B.take _),QPV]
   have hl1:(B.take (B.length-A.length)).length=B.length-A.length:=by simp
   have hl2:(B.drop (B.length-A.length)).length=A.length:=by simp;omega
   rw[hcut]at hee hNN ⊢;refine QU (Dy hC hcz cmp.sh (a:=P'.length) (b:=mid+B.length-A.length) (n:=A.length) P' A (B.take (B.length-A.length)) (B.drop (B.length-A.length)) S' hlv hl2.symm hee (by omega) hNN.symm rfl (by rw[hl1];omega) rfl) rfl ?_;simp only[e2,f10,f11,Qb,seval];refine⟨(B.drop (B.length-A.length)).length+(B.take (B.length-A.length)).length,?_,_,P',B.drop (B.length-A.length),B.take (B.length-A.length),A++S',by simp only[QOZ]<;>rfl,rfl,by omega,by omega,by omega,?_,?_,?_,by simp only[f0,Qb,seval],by simp only[f2,Qb,seval],by simp only[f4,Qb,seval],by simp only[f10,hl2,Qb,seval],by simp only[hl1,Qb,seval]⟩
   ·omega
   ·rw[←hTT];simp only[QOZ];rw[←QOZ (B.take _),QPV]
   ·rw[←hNN];simp only[QPi];omega
   ·intro x hx;refine hee x ?_;simp only[QPX]at hx ⊢
    grind

end Go.Proofs.YtfgchfdkiomfpaaGreat.Tz

namespace Go.Proofs.YtfgchfdkiomfpaaGreat.Tz
open Go Am Bt Tg So
variable {Pg:Program}{cz sr ro sm is st ss:Nat}(hC:Tg.Cs Pg cz sr ro sm is st ss)(hcz:cz≠0)

variable {E:AV→Prop}

def lt (c:AV→AV→Int)(x y:AV):Bool:=decide (c x y<0)

structure Cp (Pg:Program)(cz:Nat)(E:AV→Prop)(kc:Nat)(c:AV→AV→Int):Prop where
 call:∀x y,Ez E cz x→Ez E cz y→Qj Pg kc [x,y] (.int .i64 (c x y))
 sw:SW (lt c)

def InS (cz:Nat)(m:Qh)(lv s g N i p:Nat)(kc:Nat)(c:AV→AV→Int)(P L S:List AV)(x:AV)(k:Nat)(st:St):Prop :=
 ∃f U V,st=⟨f,[QD]++Am.put m lv s (.vec g cz (P++U++[x]++V++S)),[]⟩∧k=U.length∧U++V=L∧(∀v∈V,lt c x v=true)∧
  f 0=.vec (lv+1) s g 0 N false∧f 1=.int .i64 (P.length:Nat)∧f 2=.int .i64 (p:Nat)∧f 3=.fn (.func kc) [] []∧f 8=.int .i64 (i:Nat)∧f 9=.int .i64 ((P.length+U.length:Nat):Int)

def IoS (cz:Nat)(m:Qh)(lv s g N:Nat)(kc:Nat)(c:AV→AV→Int)(P X S:List AV)(k:Nat)(st:St):Prop :=
 ∃f i,st=⟨f,[QD]++Am.put m lv s (.vec g cz (P++QB (lt c) (X.take i)++X.drop i++S)),[]⟩∧k=X.length+1-i∧1≤i∧(i≤X.length∨(i=1∧X=[]))∧
  f 0=.vec (lv+1) s g 0 N false∧f 1=.int .i64 (P.length:Nat)∧f 2=.int .i64 ((P.length+X.length:Nat):Int)∧f 3=.fn (.func kc) [] []∧f 8=.int .i64 ((P.length+i:Nat):Int)

theorem CS {α:Type}(U:List α)(h:0<U.length):∃W u,U=W++[u]:=by
 rcases List.eq_nil_or_concat U with rfl|⟨W,u,e⟩
 ·simp at h
 ·exact⟨W,u,by simpa using e⟩

theorem UM {α:Type}{P W V:List α}{u:α}{i:Nat}(h:i=P.length+W.length):(P++(W++[u])++V)[i]? = some u:=by
 subst h;simp

include hC hcz in
theorem QKq {kc:Nat}{c:AV→AV→Int}(hc:Cp Pg cz E kc c)(lv s g:Nat)(P X S:List AV)(m:Qh)(hl:Am.Qd m lv s=.vec g cz (P++X++S))(he:∀x∈P++X++S,Ez E cz x)
  (hn:(P++X++S).length<4611686018427387904) :
  Qu Pg is [.vec lv s g 0 (P++X++S).length false,.int .i64 (P.length:Nat),.int .i64 ((P.length+X.length:Nat):Int),.fn (.func kc) [] []] m
   (fun x m1=>x=.tup []∧m1=Am.put m lv s (.vec g cz (P++QB (lt c) X++S))):=by
 have _:=hC;have _:=hcz;have hlv:lv<m.length:=Q8 (by rw[hl];simp);have hlen:(P++X++S).length=P.length+X.length+S.length:=by simp only[QPi]
 refine hC.cis.go (by simp) ?_;have e1:IntKind.i64.wrap ((P.length:Int)+1)=((P.length+1:Nat):Int):=by rw[QA];omega
 simp only[Aa,ris,ois,e1,Qb,seval];have h0:m=Am.put m lv s (.vec g cz (P++QB (lt c) (X.take 1)++X.drop 1++S)):=by
  have:P++QB (lt c) (X.take 1)++X.drop 1++S=P++X++S:=by
   cases X with
   |nil=>simp[QB]
   |cons x X=>simp[QB,ZW]
  rw[this];exact(put_self hl).symm
 generalize hN:(P++X++S).length=N at *;refine Qg (IoS cz m lv s g N kc c P X S) _ ⟨_,1,by rw[←h0]<;>rfl,rfl,QOE _,by
  cases X with
  |nil=>exact .inr ⟨rfl,rfl⟩
  |cons x X=>exact .inl (by simp),by simp only[Qb,seval],by simp only[Qb,seval],by simp only[Qb,seval],by simp only[Qb,seval],by simp only[Qb,seval]⟩ ?_
 clear h0 e1;rintro k st ⟨f,i,rfl,rfl,hi1,hi2,f0,f1,f2,f3,f8⟩;simp only[Ah,Aj,Ab,Ac,Ad,Ae,Ag,Ai,f2,f8,Qb,seval];by_cases hlt:i<X.length
 ·have d0:decide (((P.length+i:Nat):Int)<((P.length+X.length:Nat):Int))=true:=by simp only[QP1];omega
  simp only[d0,f8,Qb,seval];obtain⟨x,hx⟩:∃x,X[i]? = some x:=⟨_,QOH hlt⟩;have ex:Ez E cz x:=he x (by simp[QOR hx]);have hL:(QB (lt c) (X.take i)).length=i:=by rw[JD,QPB];omega
  have heL:∀z∈QB (lt c) (X.take i),Ez E cz z:=fun z hz=>he z (by simp[QPt (UF hz)])
  have hdrop:X.drop i=[x]++X.drop (i+1):=by
   rw[List.singleton_append,QPo hlt];congr 1
   exact(QOG.1 hx).2
  have htake:QB (lt c) (X.take (i+1))=mg (lt c) (QB (lt c) (X.take i)) [x]:=by
   rw[QQr,hx,Option.toList_some,←Kd hc.sw]<;>rfl
  refine Qg (InS cz m lv s g N (P.length+i) (P.length+X.length) kc c P (QB (lt c) (X.take i)) (X.drop (i+1)++S) x) _ ⟨_,QB (lt c) (X.take i),[],by rw[hdrop];simp only[QOZ,QPI]<;>rfl,rfl,QPI _,by simp,by simp only[f0,Qb,seval],by simp only[f1,Qb,seval],by simp only[f2,Qb,seval],by simp only[f3,Qb,seval],by simp only[f8,Qb,seval],by simp only[hL,Qb,seval]⟩ ?_;rintro k' st ⟨f,U,V,rfl,rfl,hUV,hV,f0,f1,f2,f3,f8,f9⟩;have hUVl:U.length+V.length=i:=by rw[←QPi,hUV,hL]
  have hrow:(P++U++[x]++V++(X.drop (i+1)++S)).length=N:=by
   rw[←hN];simp only[QPi,QPl,QQb];omega
  simp only[f1,f9,Qb,seval];have e4:IntKind.i64.wrap (((P.length+i:Nat):Int)+1)=((P.length+(i+1):Nat):Int):=by rw[QA];omega
  have fin:(∀u∈U,lt c x u=false)→P++U++[x]++V++(X.drop (i+1)++S)=P++QB (lt c) (X.take (i+1))++X.drop (i+1)++S:=by
   intro h;rw[htake,←hUV,K0 h hV];simp
  by_cases hU:0<U.length
  ·obtain⟨W,u,rfl⟩:=CS U hU;simp only[QPi,QQb]at hUVl hrow f9;have d1:decide (((P.length+(W.length+1):Nat):Int) > (P.length:Int))=true:=by simp only[QP1];omega
   have e2:IntKind.i64.wrap (((P.length+(W.length+1):Nat):Int)-1)=((P.length+W.length:Nat):Int):=by rw[QA];omega
   have eu:Ez E cz u:=heL u (by rw[←hUV];simp);have hx1:(P++(W++[u])++[x]++V++(X.drop (i+1)++S))[P.length+(W.length+1)]? = some x:=by
    have:=UM (P:=P) (W:=W++[u]) (u:=x) (V:=V++(X.drop (i+1)++S)) (i:=P.length+(W.length+1)) (by simp)
    simpa only [QOZ]using this
   have hu1:(P++(W++[u])++[x]++V++(X.drop (i+1)++S))[P.length+W.length]? = some u:=by
    have:=UM (P:=P) (W:=W) (u:=u) (V:=[x]++V++(X.drop (i+1)++S)) (i:=P.length+W.length) rfl
    simpa only [QOZ]using this
   simp only[d1,e2,f0,f3,f9,QPi,Wv hlv (show P.length+(W.length+1)<N by omega),Wv hlv (show P.length+W.length<N by omega),Wu hlv hx1 ex,Wu hlv hu1 eu,Qb,seval];refine WC (by simp only[Qb,seval]) (hc.call x u ex eu) (Yh ex eu _) (Wi ex eu) rfl (.inl (Wi ex eu)) ?_;cases hcx:decide (c x u<0)with
   |true=>
    have hset:((P++(W++[u])++[x]++V++(X.drop (i+1)++S)).set (P.length+(W.length+1)) u).set (P.length+W.length) x=P++W++[x]++([u]++V)++(X.drop (i+1)++S):=by
     simp[QOZ]
    have hx2:((P++(W++[u])++[x]++V++(X.drop (i+1)++S)).set (P.length+(W.length+1)) u)[P.length+W.length]? = some u:=by
     rw[List.getElem?_set_ne (by omega),hu1]
    simp only[hcx,e2,f0,f9,Wv hlv (show P.length+(W.length+1)<N by omega),Wv hlv (show P.length+W.length<N by omega),Wu hlv hx1 ex,Wu hlv hu1 eu,ex.len,eu.len,ex.leaf,eu.leaf,UL hlv hx1 ex eu hcz,UL hlv hx2 eu ex hcz,Qb,seval];exact⟨W.length,by simp,_,W,[u]++V,by rw[hset]<;>rfl,rfl,by rw[←hUV];simp,by
     intro v hv;rcases QPX.1 hv with hv|hv
     ·rw[QQC.1 hv];exact hcx
     ·exact hV v hv,by simp only[f0,Qb,seval],by simp only[f1,Qb,seval],by simp only[f2,Qb,seval],by simp only[f3,Qb,seval],by simp only[f8,Qb,seval],by simp only[Qb,seval]⟩
   |false=>
    have hz:∀z∈W++[u],lt c x z=false:=by
     have hsrt:=XX hc.sw (X.take i);have hsrt:X5 (lt c) ((W++[u])++V):=by rw[hUV];exact hsrt
     have hs2:=(QQf.1 (QQf.1 hsrt).1).2.2;intro z hz;rcases QPX.1 hz with hz|hz
     ·exact hc.sw.nt x u z hcx (hs2 z hz u (by simp))
     ·rw[QQC.1 hz];exact hcx
    simp only[hcx,f8,e4,Qb,seval];exact⟨X.length+1-(i+1),by omega,_,i+1,by rw[fin hz]<;>rfl,rfl,by omega,.inl (by omega),by simp only[f0,Qb,seval],by simp only[f1,Qb,seval],by simp only[f2,Qb,seval],by simp only[f3,Qb,seval],by simp only[Qb,seval]⟩
  ·have hU0:U=[]:=QPJ (by omega);subst hU0;have d1:decide (((P.length+0:Nat):Int) > (P.length:Int))=false:=by simp
   have fin0:=fin (by simp);simp only[QPI]at fin0;simp only[QPA]at f9;simp only[d1,f8,e4,QPA,Qb,seval];exact⟨X.length+1-(i+1),by omega,_,i+1,by rw[fin0]<;>rfl,rfl,by omega,.inl (by omega),by simp only[f0,Qb,seval],by simp only[f1,Qb,seval],by simp only[f2,Qb,seval],by simp only[f3,Qb,seval],by simp only[Qb,seval]⟩
 ·have d0:decide (((P.length+i:Nat):Int)<((P.length+X.length:Nat):Int))=false:=by simp only[QQw];omega
  have hX:QB (lt c) (X.take i)++X.drop i=QB (lt c) X:=by
   rcases hi2 with h|⟨_,rfl⟩
   ·rw[QPe (by omega),QPh (by omega),QPI]
   ·simp[QB]
  have hX2:P++QB (lt c) (X.take i)++X.drop i++S=P++QB (lt c) X++S:=by rw[QOZ P (QB (lt c) (X.take i)) (X.drop i),hX]
  simp only[d0,hX2,put_len,Qb,seval]

end Go.Proofs.YtfgchfdkiomfpaaGreat.Tz

namespace Go.Proofs.YtfgchfdkiomfpaaGreat.Tz
open Go Am Bt Tg So
variable {Pg:Program}{cz sr ro sm is st ss:Nat}(hC:Tg.Cs Pg cz sr ro sm is st ss)(hcz:cz≠0)

variable {E:AV→Prop}

theorem CU (a b:Nat)(h:a+b<9223372036854775808):IntKind.i64.wrap ((IntKind.u64.wrap ((a+b:Nat):Int)).fdiv (2 ^ min 1 64))=(((a+b) / 2:Nat):Int):=by
 rw[QA,XY,show min 1 64=1 from rfl,show(2:Int) ^ 1=2 from rfl];have:(((a+b:Nat):Int) % 18446744073709551616)=((a+b:Nat):Int):=by omega
 rw[this,Int.fdiv_eq_ediv_of_nonneg _ (by omega)];omega

def SaS (cz:Nat)(m:Qh)(lv s g N:Nat)(kc:Nat)(c:AV→AV→Int)(P Y S:List AV)(x:AV)(k:Nat)(st:St):Prop :=
 ∃f i j,st=⟨f,[QD]++Am.put m lv s (.vec g cz (P++[x]++Y++S)),[]⟩∧k=j-i∧i≤j∧j≤Y.length∧(∀k y,k<i→Y[k]? = some y→lt c y x=true)∧(∀k y,j≤k→Y[k]? = some y→lt c y x=false)∧
  f 0=.vec (lv+1) s g 0 N false∧f 1=.int .i64 (P.length:Nat)∧f 4=.fn (.func kc) [] []∧f 10=.int .i64 ((P.length+1+i:Nat):Int)∧f 11=.int .i64 ((P.length+1+j:Nat):Int)

def SaT (cz:Nat)(m:Qh)(lv s g N i:Nat)(P Y S:List AV)(x:AV)(k:Nat)(st:St):Prop :=
 ∃f t,st=⟨f,[QD]++Am.put m lv s (.vec g cz (P++Y.take t++[x]++Y.drop t++S)),[]⟩∧k=i-t∧t≤i∧
  f 0=.vec (lv+1) s g 0 N false∧f 10=.int .i64 ((P.length+1+i:Nat):Int)∧f 13=.int .i64 ((P.length+t:Nat):Int)

include hC hcz in
theorem QKr {kc:Nat}{c:AV→AV→Int}(hc:Cp Pg cz E kc c)(lv s g:Nat)(P:List AV)(x:AV)(Y S:List AV)(m:Qh)(hl:Am.Qd m lv s=.vec g cz (P++[x]++Y++S))(he:∀z∈P++[x]++Y++S,Ez E cz z)
  (hn:(P++[x]++Y++S).length<4611686018427387904) (hY:X5 (lt c) Y) :
  Qu Pg sm [.vec lv s g 0 (P++[x]++Y++S).length false,.int .i64 (P.length:Nat),.int .i64 ((P.length+1:Nat):Int),.int .i64 ((P.length+1+Y.length:Nat):Int),.fn (.func kc) [] []] m
   (fun v m1=>v=.tup []∧m1=Am.put m lv s (.vec g cz (P++mg (lt c) [x] Y++S))):=by
 have _:=hC;have _:=hcz;have hlv:lv<m.length:=Q8 (by rw[hl];simp);have hlen:(P++[x]++Y++S).length=P.length+1+Y.length+S.length:=by simp only[QPi,QQb]
 have ex:Ez E cz x:=he x (by simp);have eY:∀y∈Y,Ez E cz y:=fun y hy=>he y (by simp[hy])
 refine hC.csm.go (by simp) ?_;have e1:IntKind.i64.wrap (((P.length+1:Nat):Int)-(P.length:Int))=1:=by rw[QA];omega
 simp only[Fl,CN,CO,CP,GE,BD,BE,BK,GF,GG,GH,GI,GJ,GK,GL,GM,GN,YD,YE,YF,WZ,W0,KD,KE,T9,GV,e1,QPO,Qb,seval];have h0:m=Am.put m lv s (.vec g cz (P++[x]++Y++S)):=(put_self hl).symm;generalize hN:(P++[x]++Y++S).length=N at *;refine Qg (SaS cz m lv s g N kc c P Y S x) _ ⟨_,0,Y.length,by rw[←h0]<;>rfl,rfl,QOM _,QOE _,(by intro k y hk;exact absurd hk (Nat.not_lt_zero _)),(by intro k y hk hy;rw[QP3 hk]at hy;cases hy),by simp only[Qb,seval],by simp only[Qb,seval],by simp only[Qb,seval],by simp only[QPb,Qb,seval],by simp only[Qb,seval]⟩ ?_;clear h0 e1;rintro k st ⟨f,i,j,rfl,rfl,hij,hj,hp,hq,f0,f1,f4,f10,f11⟩;simp only[T6,T8,CQ,CR,GU,T1,T2,T3,T4,T5,T7,PJ,PK,BF,BG,BH,BI,BJ,BL,BM,BN,GP,GQ,GR,GS,GT,f10,f11,Qb,seval];by_cases hlt:i<j
 ·have d0:decide (((P.length+1+i:Nat):Int)<((P.length+1+j:Nat):Int))=true:=by simp only[QP1];omega
  have e2:IntKind.i64.wrap (((P.length+1+i:Nat):Int)+((P.length+1+j:Nat):Int))=(((P.length+1+i)+(P.length+1+j):Nat):Int):=by rw[QA];omega
  have e3:=CU (P.length+1+i) (P.length+1+j) (by omega);have e4:((P.length+1+i)+(P.length+1+j)) / 2=P.length+1+(i+j) / 2:=by omega
  rw[e4]at e3;generalize hh:(i+j) / 2=h at *;have hh1:h<j:=by omega
  have hh2:i≤h:=by omega
  have e5:IntKind.i64.wrap (((P.length+1+h:Nat):Int)+1)=((P.length+1+(h+1):Nat):Int):=by rw[QA];omega
  obtain⟨y,hy⟩:∃y,Y[h]? = some y:=⟨_,QOH (by omega)⟩;have ey:=eY y (QOR hy);have gy:(P++[x]++Y++S)[P.length+1+h]? = some y:=by
   rw[QP4 (by simp only[QPi,QQb];omega),QP6 (by simp only[QPi,QQb];omega)];rw[←hy];congr 1;simp only[QPi,QQb];omega
  have gx:(P++[x]++Y++S)[P.length]? = some x:=by
   have:=UM (P:=P) (W:=[]) (u:=x) (V:=Y++S) (i:=P.length) rfl
   simpa only [QOZ,QO1]using this
  simp only[d0,e2,e3,f0,f1,f4,f10,f11,Wv hlv (show P.length+1+h<N by omega),Wv hlv (show P.length<N by omega),Wu hlv gy ey,Wu hlv gx ex,Qb,seval];refine WC (by simp only[Qb,seval]) (hc.call y x ey ex) (Yh ey ex _) (Wi ey ex) rfl (.inl (Wi ey ex)) ?_;cases hcx:decide (c y x<0)with
  |true=>
   simp only[hcx,e5,Qb,seval];exact⟨j-(h+1),by omega,_,h+1,j,rfl,rfl,by omega,hj,fun k z hk hz=>K1 hc.sw hY (Nat.le_of_lt_succ hk) hz hy hcx,hq,by simp only[f0,Qb,seval],by simp only[f1,Qb,seval],by simp only[f4,Qb,seval],by simp only[Qb,seval],by simp only[f11,Qb,seval]⟩
  |false=>
   simp only[hcx,Qb,seval];exact⟨h-i,by omega,_,i,h,rfl,rfl,by omega,by omega,hp,fun k z hk hz=>by
    cases hb:lt c z x with
    |false=>rfl
    |true=>exact absurd (K1 hc.sw hY hk hy hz hb) (by show ¬(decide _=true);rw[hcx];simp),by simp only[f0,Qb,seval],by simp only[f1,Qb,seval],by simp only[f4,Qb,seval],by simp only[f10,Qb,seval],by simp only[Qb,seval]⟩
 ·have d0:decide (((P.length+1+i:Nat):Int)<((P.length+1+j:Nat):Int))=false:=by simp only[QQw];omega
  have hij':j=i:=by omega
  subst hij';simp only[d0,f1,Qb,seval];have hres:mg (lt c) [x] Y=Y.take j++x :: Y.drop j:=by
   have:=LX (lt:=lt c) (x:=x) (Y1:=Y.take j) (Y2:=Y.drop j) (fun y hy=>by
    obtain⟨k,hk⟩:=QQI hy;rw[QPj]at hk;split at hk
    ·rename_i h;exact hp k y h hk
    ·cases hk) (fun y hy=>by
    obtain⟨k,hk⟩:=QQI hy;rw[QPk]at hk;exact hq _ y (by omega) hk)
   rwa [QPV]at this
  refine Qg (SaT cz m lv s g N j P Y S x) _ ⟨_,0,by rw[show P++Y.take 0++[x]++Y.drop 0++S=P++[x]++Y++S by simp]<;>rfl,rfl,QOM _,by simp only[f0,Qb,seval],by simp only[f10,Qb,seval],by simp only[QPb,Qb,seval]⟩ ?_;clear f0 f1 f4 f10 f11 d0 hp hq f;rintro k st ⟨f,t,rfl,rfl,ht,f0,f10,f13⟩;have e6:IntKind.i64.wrap (((P.length+1+j:Nat):Int)-1)=((P.length+j:Nat):Int):=by rw[QA];omega
  have e7:IntKind.i64.wrap (((P.length+t:Nat):Int)+1)=((P.length+(t+1):Nat):Int):=by rw[QA];omega
  simp only[e6,f10,f13,Qb,seval];by_cases hlt:t<j
  ·have d0:decide (((P.length+t:Nat):Int)<((P.length+j:Nat):Int))=true:=by simp only[QP1];omega
   obtain⟨y,hy⟩:∃y,Y[t]? = some y:=⟨_,QOH (by omega)⟩;have ey:=eY y (QOR hy);have hdrop:Y.drop t=[y]++Y.drop (t+1):=by
    rw[List.singleton_append,QPo (by omega)];congr 1
    exact(QOG.1 hy).2
   have htake:Y.take (t+1)=Y.take t++[y]:=by rw[QQr,hy]<;>rfl
   have hlt':(Y.take t).length=t:=by rw[QPB];omega
   have g1:(P++Y.take t++[x]++Y.drop t++S)[P.length+t]? = some x:=by
    have:=UM (P:=P) (W:=Y.take t) (u:=x) (V:=Y.drop t++S) (i:=P.length+t) (by rw[hlt'])
    simpa only [QOZ]using this
   have g2:(P++Y.take t++[x]++Y.drop t++S)[P.length+(t+1)]? = some y:=by
    have:=UM (P:=P) (W:=Y.take t++[x]) (u:=y) (V:=Y.drop (t+1)++S) (i:=P.length+(t+1)) (by rw[QPi,hlt']<;>rfl);rw[hdrop]
    simpa only [QOZ]using this
   have g3:((P++Y.take t++[x]++Y.drop t++S).set (P.length+t) y)[P.length+(t+1)]? = some y:=by
    rw[List.getElem?_set_ne (by omega),g2]
   have hset:((P++Y.take t++[x]++Y.drop t++S).set (P.length+t) y).set (P.length+(t+1)) x=P++Y.take (t+1)++[x]++Y.drop (t+1)++S:=by
    rw[hdrop,htake];simp[hlt']
   simp only[d0,e7,f0,f13,Wv hlv (show P.length+(t+1)<N by omega),Wv hlv (show P.length+t<N by omega),Wu hlv g1 ex,Wu hlv g2 ey,ex.len,ey.len,ex.leaf,ey.leaf,UL hlv g1 ex ey hcz,UL hlv g3 ey ex hcz,Qb,seval];exact⟨j-(t+1),by omega,_,t+1,by rw[hset]<;>rfl,rfl,by omega,by simp only[f0,Qb,seval],by simp only[f10,Qb,seval],by simp only[Qb,seval]⟩
  ·have d0:decide (((P.length+t:Nat):Int)<((P.length+j:Nat):Int))=false:=by simp only[QQw];omega
   have htj:t=j:=by omega
   subst htj;have hfin:P++Y.take t++[x]++Y.drop t++S=P++mg (lt c) [x] Y++S:=by rw[hres];simp
   simp only[d0,hfin,put_len,Qb,seval]

end Go.Proofs.YtfgchfdkiomfpaaGreat.Tz

namespace Go.Proofs.YtfgchfdkiomfpaaGreat.Tz
open Go Am Bt Tg So
variable {Pg:Program}{cz sr ro sm is st ss:Nat}(hC:Tg.Cs Pg cz sr ro sm is st ss)(hcz:cz≠0)

variable {E:AV→Prop}

def SbS (cz:Nat)(m:Qh)(lv s g N:Nat)(kc:Nat)(c:AV→AV→Int)(P X S:List AV)(y:AV)(k:Nat)(st:St):Prop :=
 ∃f i j,st=⟨f,[QD]++Am.put m lv s (.vec g cz (P++X++[y]++S)),[]⟩∧k=j-i∧i≤j∧j≤X.length∧(∀k x,k<i→X[k]? = some x→lt c y x=false)∧(∀k x,j≤k→X[k]? = some x→lt c y x=true)∧
  f 0=.vec (lv+1) s g 0 N false∧f 2=.int .i64 ((P.length+X.length:Nat):Int)∧f 4=.fn (.func kc) [] []∧f 14=.int .i64 ((P.length+i:Nat):Int)∧f 15=.int .i64 ((P.length+j:Nat):Int)

def SbT (cz:Nat)(m:Qh)(lv s g N i:Nat)(P X S:List AV)(y:AV)(k:Nat)(st:St):Prop :=
 ∃f t,st=⟨f,[QD]++Am.put m lv s (.vec g cz (P++X.take t++[y]++X.drop t++S)),[]⟩∧k=t-i∧i≤t∧t≤X.length∧
  f 0=.vec (lv+1) s g 0 N false∧f 14=.int .i64 ((P.length+i:Nat):Int)∧f 17=.int .i64 ((P.length+t:Nat):Int)

include hC hcz in
theorem QKs {kc:Nat}{c:AV→AV→Int}(hc:Cp Pg cz E kc c)(lv s g:Nat)(P X:List AV)(y:AV)(S:List AV)(m:Qh)(hl:Am.Qd m lv s=.vec g cz (P++X++[y]++S))(he:∀x∈P++X++[y]++S,Ez E cz x)
  (hn:(P++X++[y]++S).length<4611686018427387904) (hX:X5 (lt c) X) (hX1:X.length≠1) :
  Qu Pg sm [.vec lv s g 0 (P++X++[y]++S).length false,.int .i64 (P.length:Nat),.int .i64 ((P.length+X.length:Nat):Int),.int .i64 ((P.length+X.length+1:Nat):Int),.fn (.func kc) [] []] m
   (fun v m1=>v=.tup []∧m1=Am.put m lv s (.vec g cz (P++mg (lt c) X [y]++S))):=by
 have _:=hC;have _:=hcz;have hlv:lv<m.length:=Q8 (by rw[hl];simp);have hlen:(P++X++[y]++S).length=P.length+X.length+1+S.length:=by simp only[QPi,QQb]
 have ey:Ez E cz y:=he y (by simp);have eX:∀x∈X,Ez E cz x:=fun x hx=>he x (by simp[hx])
 refine hC.csm.go (by simp) ?_;have e1:(IntKind.i64.wrap (((P.length+X.length:Nat):Int)-(P.length:Int))==1)=false:=by rw[QA];simp only[QQp,ne_eq];omega
 have e2:(IntKind.i64.wrap (((P.length+X.length+1:Nat):Int)-((P.length+X.length:Nat):Int))==1)=true:=by rw[QA];simp only[QO5];omega
 simp only[Fl,CN,CO,CP,GE,BD,BE,BK,GF,GG,GH,GI,GJ,GK,GL,GM,GN,YD,YE,YF,WZ,W0,KD,KE,T9,GV,e1,e2,Qb,seval];have h0:m=Am.put m lv s (.vec g cz (P++X++[y]++S)):=(put_self hl).symm;generalize hN:(P++X++[y]++S).length=N at *;refine Qg (SbS cz m lv s g N kc c P X S y) _ ⟨_,0,X.length,by rw[←h0]<;>rfl,rfl,QOM _,QOE _,(by intro k y hk;exact absurd hk (Nat.not_lt_zero _)),(by intro k y hk hy;rw[QP3 hk]at hy;cases hy),by simp only[Qb,seval],by simp only[Qb,seval],by simp only[Qb,seval],by simp only[QPb,Qb,seval],by simp only[Qb,seval]⟩ ?_;clear h0 e1 e2;rintro k st ⟨f,i,j,rfl,rfl,hij,hj,hp,hq,f0,f2,f4,f14,f15⟩;simp only[CQ,CR,GU,BF,BG,BH,BI,BJ,BL,BM,BN,GP,GQ,GR,GS,GT,f14,f15,Qb,seval];by_cases hlt:i<j
 ·have d0:decide (((P.length+i:Nat):Int)<((P.length+j:Nat):Int))=true:=by simp only[QP1];omega
  have e2:IntKind.i64.wrap (((P.length+i:Nat):Int)+((P.length+j:Nat):Int))=(((P.length+i)+(P.length+j):Nat):Int):=by rw[QA];omega
  have e3:=CU (P.length+i) (P.length+j) (by omega);have e4:((P.length+i)+(P.length+j)) / 2=P.length+(i+j) / 2:=by omega
  rw[e4]at e3;generalize hh:(i+j) / 2=h at *;have hh1:h<j:=by omega
  have hh2:i≤h:=by omega
  have e5:IntKind.i64.wrap (((P.length+h:Nat):Int)+1)=((P.length+(h+1):Nat):Int):=by rw[QA];omega
  obtain⟨x,hx⟩:∃x,X[h]? = some x:=⟨_,QOH (by omega)⟩;have ex:=eX x (QOR hx);have gx:(P++X++[y]++S)[P.length+h]? = some x:=by
   rw[QOZ,QOZ,QP6 (by omega),QP4 (by omega),←hx];congr 1;omega
  have gy:(P++X++[y]++S)[P.length+X.length]? = some y:=by
   have:=UM (P:=P) (W:=X) (u:=y) (V:=S) (i:=P.length+X.length) rfl
   simpa only [QOZ]using this
  simp only[d0,e2,e3,f0,f2,f4,f14,f15,Wv hlv (show P.length+h<N by omega),Wv hlv (show P.length+X.length<N by omega),Wu hlv gy ey,Wu hlv gx ex,Qb,seval];refine WC (by simp only[Qb,seval]) (hc.call y x ey ex) (Yh ey ex _) (Wi ey ex) rfl (.inl (Wi ey ex)) ?_;cases hcx:decide (c y x<0)with
  |true=>
   simp only[hcx,Qb,seval];exact⟨h-i,by omega,_,i,h,rfl,rfl,by omega,by omega,hp,fun k z hk hz=>by
    have:=KC hX hc.sw hk hx hz;cases hb:lt c y z with
    |true=>rfl
    |false=>exact absurd (hc.sw.nt y z x hb this) (by show ¬(decide _=false);rw[hcx];simp),by simp only[f0,Qb,seval],by simp only[f2,Qb,seval],by simp only[f4,Qb,seval],by simp only[f14,Qb,seval],by simp only[Qb,seval]⟩
  |false=>
   simp only[hcx,e5,Qb,seval];exact⟨j-(h+1),by omega,_,h+1,j,rfl,rfl,by omega,hj,fun k z hk hz=>hc.sw.nt y x z hcx (KC hX hc.sw (Nat.le_of_lt_succ hk) hz hx),hq,by simp only[f0,Qb,seval],by simp only[f2,Qb,seval],by simp only[f4,Qb,seval],by simp only[Qb,seval],by simp only[f15,Qb,seval]⟩
 ·have d0:decide (((P.length+i:Nat):Int)<((P.length+j:Nat):Int))=false:=by simp only[QQw];omega
  have hij':j=i:=by omega
  subst hij';simp only[d0,f2,Qb,seval];have hres:mg (lt c) X [y]=X.take j++y :: X.drop j:=by
   have:=K0 (lt:=lt c) (y:=y) (X1:=X.take j) (X2:=X.drop j) (fun x hx=>by
    obtain⟨k,hk⟩:=QQI hx;rw[QPj]at hk;split at hk
    ·rename_i h;exact hp k x h hk
    ·cases hk) (fun x hx=>by
    obtain⟨k,hk⟩:=QQI hx;rw[QPk]at hk;exact hq _ x (by omega) hk)
   rwa [QPV]at this
  refine Qg (SbT cz m lv s g N j P X S y) _ ⟨_,X.length,by rw[show P++X.take X.length++[y]++X.drop X.length++S=P++X++[y]++S by simp]<;>rfl,rfl,hj,QOE _,by simp only[f0,Qb,seval],by simp only[f14,Qb,seval],by simp only[Qb,seval]⟩ ?_;clear f0 f2 f4 f14 f15 d0 hp hq f;rintro k st ⟨f,t,rfl,rfl,ht,htl,f0,f14,f17⟩;simp only[f14,f17,Qb,seval];by_cases hlt:j<t
  ·have d0:decide (((P.length+t:Nat):Int) > ((P.length+j:Nat):Int))=true:=by simp only[QP1];omega
   obtain⟨r,rfl⟩:∃r,t=r+1:=⟨t-1,by omega⟩;have e7:IntKind.i64.wrap (((P.length+(r+1):Nat):Int)-1)=((P.length+r:Nat):Int):=by rw[QA];omega
   obtain⟨x,hx⟩:∃x,X[r]? = some x:=⟨_,QOH (by omega)⟩;have ex:=eX x (QOR hx);have hdrop:X.drop r=[x]++X.drop (r+1):=by
    rw[List.singleton_append,QPo (by omega)];congr 1
    exact(QOG.1 hx).2
   have htake:X.take (r+1)=X.take r++[x]:=by rw[QQr,hx]<;>rfl
   have hlt':(X.take r).length=r:=by rw[QPB];omega
   have g1:(P++X.take (r+1)++[y]++X.drop (r+1)++S)[P.length+r]? = some x:=by
    have:=UM (P:=P) (W:=X.take r) (u:=x) (V:=[y]++X.drop (r+1)++S) (i:=P.length+r) (by rw[hlt']);rw[htake]
    simpa only [QOZ]using this
   have g2:(P++X.take (r+1)++[y]++X.drop (r+1)++S)[P.length+(r+1)]? = some y:=by
    have:=UM (P:=P) (W:=X.take (r+1)) (u:=y) (V:=X.drop (r+1)++S) (i:=P.length+(r+1)) (by rw[QPB];omega)
    simpa only [QOZ]using this
   have g3:((P++X.take (r+1)++[y]++X.drop (r+1)++S).set (P.length+(r+1)) x)[P.length+r]? = some x:=by
    rw[List.getElem?_set_ne (by omega),g1]
   have hset:((P++X.take (r+1)++[y]++X.drop (r+1)++S).set (P.length+(r+1)) x).set (P.length+r) y=P++X.take r++[y]++X.drop r++S:=by
    rw[hdrop,htake];simp[hlt']
   simp only[d0,e7,f0,f17,Wv hlv (show P.length+(r+1)<N by omega),Wv hlv (show P.length+r<N by omega),Wu hlv g1 ex,Wu hlv g2 ey,ex.len,ey.len,ex.leaf,ey.leaf,UL hlv g2 ey ex hcz,UL hlv g3 ex ey hcz,Qb,seval];exact⟨r-j,by omega,_,r,by rw[hset]<;>rfl,rfl,by omega,by omega,by simp only[f0,Qb,seval],by simp only[f14,Qb,seval],by simp only[Qb,seval]⟩
  ·have d0:decide (((P.length+t:Nat):Int) > ((P.length+j:Nat):Int))=false:=by simp only[QQw];omega
   have htj:t=j:=by omega
   subst htj;have hfin:P++X.take t++[y]++X.drop t++S=P++mg (lt c) X [y]++S:=by rw[hres];simp
   simp only[d0,hfin,put_len,Qb,seval]

end Go.Proofs.YtfgchfdkiomfpaaGreat.Tz

namespace Go.Proofs.YtfgchfdkiomfpaaGreat.Tz
open Go Am Bt Tg So
variable {Pg:Program}{cz sr ro sm is st ss:Nat}(hC:Tg.Cs Pg cz sr ro sm is st ss)(hcz:cz≠0)

variable {E:AV→Prop}

include hC hcz in
theorem L4 (cmp:AV){fr:Nat→Ob}{lv s g N a b n:Nat}(P X Y S:List AV){m:Qh}(hlv:lv<m.length)(hX:0<X.length)(hY:0<Y.length)(he:∀x∈P++X++Y++S,Ez E cz x)
  (hn:(P++X++Y++S).length<4611686018427387904) (hN:N=(P++X++Y++S).length) (ha:a=P.length) (hb:b=P.length+X.length) (hc:n=P.length+X.length+Y.length) :
  Qu Pg ro [.vec (lv+1) s g 0 N false,.int .i64 (a:Nat),.int .i64 (b:Nat),.int .i64 (n:Nat),cmp] (fr :: Am.put m lv s (.vec g cz (P++X++Y++S)))
   (fun x m1=>x=.tup []∧m1=fr :: Am.put m lv s (.vec g cz (P++Y++X++S))):=by
 have _:=hC;have _:=hcz;subst hN ha hb hc;refine(QKp hC hcz cmp (lv+1) s g P X Y S (fr :: Am.put m lv s (.vec g cz (P++X++Y++S))) (Ql (m:=m) hlv) hX hY he hn).mono fun x m1 h=>⟨h.1,?_⟩
 rw[h.2];simp only[Am.put,put_put]

def U6 (Pg:Program)(cz sm:Nat)(E:AV→Prop)(kc:Nat)(c:AV→AV→Int)(n:Nat):Prop :=
 ∀(lv s g:Nat) (P X Y S:List AV) (m:Qh),X.length+Y.length=n→0<X.length→0<Y.length→Am.Qd m lv s=.vec g cz (P++X++Y++S)→(∀x∈P++X++Y++S,Ez E cz x)→
  (P++X++Y++S).length<4611686018427387904→X5 (lt c) X→X5 (lt c) Y→
  Qu Pg sm [.vec lv s g 0 (P++X++Y++S).length false,.int .i64 (P.length:Nat),.int .i64 ((P.length+X.length:Nat):Int),.int .i64 ((P.length+X.length+Y.length:Nat):Int),.fn (.func kc) [] []] m
   (fun v m1=>v=.tup []∧m1=Am.put m lv s (.vec g cz (P++mg (lt c) X Y++S)))

include hC hcz in
theorem Y7 {kc:Nat}{c:AV→AV→Int}{n:Nat}(h:U6 Pg cz sm E kc c n){fr:Nat→Ob}{lv s g N a b e:Nat}(P X Y S:List AV){m:Qh}(hlv:lv<m.length)(hXY:X.length+Y.length=n)(hX:0<X.length)(hY:0<Y.length)(he:∀x∈P++X++Y++S,Ez E cz x)
  (hn:(P++X++Y++S).length<4611686018427387904) (sX:X5 (lt c) X) (sY:X5 (lt c) Y) (hN:N=(P++X++Y++S).length) (ha:a=P.length) (hb:b=P.length+X.length) (hc:e=P.length+X.length+Y.length) :
  Qu Pg sm [.vec (lv+1) s g 0 N false,.int .i64 (a:Nat),.int .i64 (b:Nat),.int .i64 (e:Nat),.fn (.func kc) [] []] (fr :: Am.put m lv s (.vec g cz (P++X++Y++S)))
   (fun x m1=>x=.tup []∧m1=fr :: Am.put m lv s (.vec g cz (P++mg (lt c) X Y++S))):=by
 have _:=hC;have _:=hcz;subst hN ha hb hc;refine(h (lv+1) s g P X Y S (fr :: Am.put m lv s (.vec g cz (P++X++Y++S))) hXY hX hY (Ql (m:=m) hlv) he hn sX sY).mono fun x m1 h=>⟨h.1,?_⟩
 rw[h.2];simp only[Am.put,put_put]

def ScS (cz:Nat)(m:Qh)(lv s g N mid s0 r0:Nat)(kc:Nat)(c:AV→AV→Int)(P X Y S:List AV)(k:Nat)(st:St):Prop :=
 ∃f i j,st=⟨f,[QD]++Am.put m lv s (.vec g cz (P++X++Y++S)),[]⟩∧k=j-i∧s0≤i∧i≤j∧j≤r0∧
  (∀k x y,s0≤k→k<i→X[k-P.length]? = some x→Y[mid-1-k]? = some y→lt c y x=false)∧(∀k x y,j≤k→k<r0→X[k-P.length]? = some x→Y[mid-1-k]? = some y→lt c y x=true)∧
  f 0=.vec (lv+1) s g 0 N false∧f 1=.int .i64 (P.length:Nat)∧f 2=.int .i64 ((P.length+X.length:Nat):Int)∧f 3=.int .i64 ((P.length+X.length+Y.length:Nat):Int)∧f 4=.fn (.func kc) [] []∧
  f 18=.int .i64 (mid:Nat)∧f 19=.int .i64 ((mid+(P.length+X.length):Nat):Int)∧f 22=.int .i64 ((mid+(P.length+X.length)-1:Nat):Int)∧f 20=.int .i64 (i:Nat)∧f 21=.int .i64 (j:Nat)

theorem Sh {c:AV→AV→Int}(hsw:SW (lt c)){X Y:List AV}{p mid t:Nat}{s0 r0:Nat}(sX:X5 (lt c) X)(sY:X5 (lt c) Y)(h1:s0≤t)(h2:t≤r0)(hp:p≤t)(htm:t≤mid)(hr:r0=mid∨r0=p+X.length)(hs:mid-s0≥Y.length∨s0=p)(hs2:mid-s0≤Y.length)(hr2:r0≤p+X.length)
  (hlow:∀k x y,s0≤k→k<t→X[k-p]? = some x→Y[mid-1-k]? = some y→lt c y x=false) (hhigh:∀k x y,t≤k→k<r0→X[k-p]? = some x→Y[mid-1-k]? = some y→lt c y x=true) :
  mg (lt c) X Y=mg (lt c) (X.take (t-p)) (Y.take (mid-t))++mg (lt c) (X.drop (t-p)) (Y.drop (mid-t)):=by
 have key:=WU (lt:=lt c) _ (X.take (t-p)) (Y.take (mid-t)) (X.drop (t-p)) (Y.drop (mid-t)) rfl ?_ ?_
 ·rwa [QPV,QPV]at key
 ·intro y hy x hx;obtain⟨k,hk⟩:=QQI hy;obtain⟨l,hl⟩:=QQI hx;rw[QPj]at hk;split at hk
  ·rename_i hkt;rw[QPk]at hl;have hlX:t-p+l<X.length:=(QOG.1 hl).1;have hkY:k<Y.length:=(QOG.1 hk).1;have htr:t<r0:=by rcases hr with h|h<;>omega
   by_cases hY2:mid-1-t<Y.length
   ·obtain⟨x0,hx0⟩:∃x,X[t-p]? = some x:=⟨_,QOH (by omega)⟩;obtain⟨y0,hy0⟩:∃y,Y[mid-1-t]? = some y:=⟨_,QOH hY2⟩;have h0:=hhigh t x0 y0 (QOE _) htr hx0 hy0;have h3:=K1 hsw sY (show k≤mid-1-t by omega) hk hy0 h0;have h4:=KC sX hsw (show t-p≤t-p+l by omega) hx0 hl;cases hb:lt c y x with
    |true=>rfl
    |false=>
     have:=hsw.nt y x x0 hb h4;rw[h3]at this;cases this
   ·exfalso;omega
  ·cases hk
 ·intro x hx y hy;obtain⟨k,hk⟩:=QQI hy;obtain⟨l,hl⟩:=QQI hx;rw[QPj]at hl;split at hl
  ·rename_i hlt;rw[QPk]at hk;have hkY:mid-t+k<Y.length:=(QOG.1 hk).1;have hlX:l<X.length:=(QOG.1 hl).1;have hst:s0<t:=by rcases hs with h|h<;>omega
   by_cases hX2:t-1-p<X.length
   ·obtain⟨x0,hx0⟩:∃x,X[t-1-p]? = some x:=⟨_,QOH hX2⟩;obtain⟨y0,hy0⟩:∃y,Y[mid-1-(t-1)]? = some y:=⟨_,QOH (by omega)⟩;have h0:=hlow (t-1) x0 y0 (by omega) (by omega) hx0 hy0;have h3:=KC sX hsw (show l≤t-1-p by omega) hl hx0;have h4:lt c y x0=false:=by
     cases hb:lt c y x0 with
     |false=>rfl
     |true=>
      have:=K1 hsw sY (show mid-1-(t-1)≤mid-t+k by omega) hy0 hk hb;rw[h0]at this;cases this
    exact hsw.nt y x0 x h4 h3
   ·exfalso;omega
  ·cases hl

section
variable {kc:Nat}{c:AV→AV→Int}{nn lv s g N:Nat}{P X1 X2 Y1 Y2 S:List AV}{m:Qh}{f:Fr}

include hC hcz in
theorem QDo (ih:∀n,n<nn→U6 Pg cz sm E kc c n)(hnn:X2.length+Y2.length<nn)(hlv:lv<m.length)(he:∀x∈P++X2++Y2++S,Ez E cz x)(hN:N=(P++X2++Y2++S).length)(hn:N<4611686018427387904)
  (sX:X5 (lt c) X2) (sY:X5 (lt c) Y2) (f0:f 0=.vec (lv+1) s g 0 N false) (f3:f 3=.int .i64 ((P.length+X2.length+Y2.length:Nat):Int)) (f4:f 4=.fn (.func kc) [] []) (f18:f 18=.int .i64 (P.length:Nat)) (f24:f 24=.int .i64 ((P.length+X2.length:Nat):Int)) :
  QJ Pg (.seq (.reg (KD cz sr ro sm is st)) (.cond (.t 213) (.reg (KE cz sr ro sm is st)) (.skip))) ⟨f,QD :: Am.put m lv s (.vec g cz (P++X2++Y2++S)),[]⟩
   (ZC GV m.length (fun v m1=>v=.tup []∧m1=Am.put m lv s (.vec g cz (P++mg (lt c) X2 Y2++S)))):=by
 have _:=hC;have _:=hcz;simp only[KD,KE,GV,f18,f24,Qb,seval];by_cases h1:0<X2.length
 ·have d1:decide ((P.length:Int)<((P.length+X2.length:Nat):Int))=true:=by simp only[QP1];omega
  by_cases h2:0<Y2.length
  ·have d2:decide (((P.length+X2.length:Nat):Int)<((P.length+X2.length+Y2.length:Nat):Int))=true:=by simp only[QP1];omega
   simp only[d1,d2,f0,f3,f4,f18,f24,Qb,seval];refine QU (Y7 hC hcz (ih _ hnn) P X2 Y2 S hlv rfl h1 h2 he (by omega) sX sY hN rfl rfl rfl) rfl ?_;simp only[put_len,Qb,seval]
  ·have d2:decide (((P.length+X2.length:Nat):Int)<((P.length+X2.length+Y2.length:Nat):Int))=false:=by simp only[QQw];omega
   have hy:Y2=[]:=QPJ (by omega);have hfin:P++X2++Y2++S=P++mg (lt c) X2 Y2++S:=by rw[hy,JC];simp
   simp only[d1,d2,f3,f24,hfin,put_len,Qb,seval]
 ·have d1:decide ((P.length:Int)<((P.length+X2.length:Nat):Int))=false:=by simp only[QQw];omega
  have hx:X2=[]:=QPJ (by omega);have hfin:P++X2++Y2++S=P++mg (lt c) X2 Y2++S:=by rw[hx,Ji];simp
  simp only[d1,hfin,put_len,Qb,seval]

include hC hcz in
theorem QDp (ih:∀n,n<nn→U6 Pg cz sm E kc c n)(hn1:X1.length+Y1.length<nn)(hn2:X2.length+Y2.length<nn)(hlv:lv<m.length)(he:∀x∈P++X1++Y1++(X2++Y2++S),Ez E cz x)(hN:N=(P++X1++Y1++(X2++Y2++S)).length)(hn:N<4611686018427387904)
  (sX1:X5 (lt c) X1) (sY1:X5 (lt c) Y1) (sX:X5 (lt c) X2) (sY:X5 (lt c) Y2) (f0:f 0=.vec (lv+1) s g 0 N false) (f1:f 1=.int .i64 (P.length:Nat)) (f3:f 3=.int .i64 ((P.length+X1.length+Y1.length+X2.length+Y2.length:Nat):Int)) (f4:f 4=.fn (.func kc) [] []) (f18:f 18=.int .i64 ((P.length+X1.length+Y1.length:Nat):Int)) (f20:f 20=.int .i64 ((P.length+X1.length:Nat):Int)) (f24:f 24=.int .i64 ((P.length+X1.length+Y1.length+X2.length:Nat):Int)) :
  QJ Pg (.seq (.seq (.reg (WZ cz sr ro sm is st)) (.cond (.t 199) (.reg (W0 cz sr ro sm is st)) (.skip))) (.seq (.reg (KD cz sr ro sm is st)) (.cond (.t 213) (.reg (KE cz sr ro sm is st)) (.skip)))) ⟨f,QD :: Am.put m lv s (.vec g cz (P++X1++Y1++(X2++Y2++S))),[]⟩
   (ZC GV m.length (fun v m1=>v=.tup []∧m1=Am.put m lv s (.vec g cz (P++(mg (lt c) X1 Y1++mg (lt c) X2 Y2)++S)))):=by
 have _:=hC;have _:=hcz;have hlm:(mg (lt c) X1 Y1).length=X1.length+Y1.length:=Qsk _ _ _ rfl;have hlen:N=P.length+X1.length+Y1.length+X2.length+Y2.length+S.length:=by rw[hN];simp only[QPi];omega
 have hem:∀x∈P++mg (lt c) X1 Y1++X2++Y2++S,Ez E cz x:=by
  intro x hx;refine he x ?_;simp only[QPX]at hx ⊢;rcases hx with(((hx|hx)|hx)|hx)|hx
  ·exact .inl (.inl (.inl hx))
  ·exact(Qsl _ _ _ rfl hx).elim (fun h=>.inl (.inl (.inr h))) (fun h=>.inl (.inr h))
  ·exact .inr (.inl (.inl hx))
  ·exact .inr (.inl (.inr hx))
  ·exact .inr (.inr hx)
 have go:∀f:Fr,f 0=.vec (lv+1) s g 0 N false→f 3=.int .i64 ((P.length+X1.length+Y1.length+X2.length+Y2.length:Nat):Int)→f 4=.fn (.func kc) [] []→f 18=.int .i64 ((P.length+X1.length+Y1.length:Nat):Int)→f 24=.int .i64 ((P.length+X1.length+Y1.length+X2.length:Nat):Int)→
   QJ Pg (.seq (.reg (KD cz sr ro sm is st)) (.cond (.t 213) (.reg (KE cz sr ro sm is st)) (.skip))) ⟨f,QD :: Am.put m lv s (.vec g cz (P++mg (lt c) X1 Y1++(X2++Y2++S))),[]⟩
   (ZC GV m.length (fun v m1=>v=.tup []∧m1=Am.put m lv s (.vec g cz (P++(mg (lt c) X1 Y1++mg (lt c) X2 Y2)++S)))):=by
  intro f f0 f3 f4 f18 f24;have hpl:(P++mg (lt c) X1 Y1).length=P.length+X1.length+Y1.length:=by rw[QPi,hlm];omega
  have:=QDo hC hcz (P:=P++mg (lt c) X1 Y1) (X2:=X2) (Y2:=Y2) (S:=S) (m:=m) (f:=f) (g:=g) (s:=s) ih hn2 hlv hem (by rw[hlen];simp only[QPi,hlm];omega) hn sX sY f0 (by rw[hpl];exact f3) f4 (by rw[hpl];exact f18) (by rw[hpl];exact f24);rw[show P++mg (lt c) X1 Y1++(X2++Y2++S)=P++mg (lt c) X1 Y1++X2++Y2++S by simp only[QOZ],show P++(mg (lt c) X1 Y1++mg (lt c) X2 Y2)++S=P++mg (lt c) X1 Y1++mg (lt c) X2 Y2++S by simp only[QOZ]];exact this
 rw[YP,YP];simp only[WZ,W0,f1,f20,YO,Kz,Z4,Ky,KA,Hg,Uo,Qn,QZ,Xb,cond_true,cond_false,true_and,seval,Jx];by_cases h1:0<X1.length
 ·have d1:decide ((P.length:Int)<((P.length+X1.length:Nat):Int))=true:=by simp only[QP1];omega
  by_cases h2:0<Y1.length
  ·have d2:decide (((P.length+X1.length:Nat):Int)<((P.length+X1.length+Y1.length:Nat):Int))=true:=by simp only[QP1];omega
   simp only[d1,d2,f0,f1,f4,f18,f20,YO,Z3,Kx,Kz,Z4,Ky,KA,Hg,KU,Uo,DN,Wb,YQ,Qn,QZ,Xb,cond_true,cond_false,true_and,seval,Jx];refine QU (Y7 hC hcz (ih _ hn1) P X1 Y1 (X2++Y2++S) hlv rfl h1 h2 he (by omega) sX1 sY1 hN rfl rfl rfl) rfl ?_;rw[Kx,Z3];refine go _ ?_ ?_ ?_ ?_ ?_
   ·simp only[f0,Qb,seval]
   ·simp only[f3,Qb,seval]
   ·simp only[f4,Qb,seval]
   ·simp only[f18,Qb,seval]
   ·simp only[f24,Qb,seval]
  ·have d2:decide (((P.length+X1.length:Nat):Int)<((P.length+X1.length+Y1.length:Nat):Int))=false:=by simp only[QQw];omega
   have hy:Y1=[]:=QPJ (by omega);have hres:mg (lt c) X1 Y1=X1++Y1:=by rw[hy,JC,QPI]
   rw[hres,←QOZ P X1 Y1]at go;simp only[d1,d2,hres,f18,f20,Z3,Kx,Kz,Z4,Ky,KA,Hg,KU,Uo,DN,Wb,KT,Yv,Qn,QZ,Xb,cond_true,cond_false,true_and,seval,Jx];refine go _ ?_ ?_ ?_ ?_ ?_
   ·simp only[f0,Qb,seval]
   ·simp only[f3,Qb,seval]
   ·simp only[f4,Qb,seval]
   ·simp only[f18,Qb,seval]
   ·simp only[f24,Qb,seval]
 ·have d1:decide ((P.length:Int)<((P.length+X1.length:Nat):Int))=false:=by simp only[QQw];omega
  have hx:X1=[]:=QPJ (by omega);have hres:mg (lt c) X1 Y1=X1++Y1:=by rw[hx,Ji,QO1]
  rw[hres,←QOZ P X1 Y1]at go;simp only[d1,hres,Z3,Kx,Kz,Z4,Ky,KA,Hg,W9,Uo,DN,Wb,KT,Yv,Qn,cond_true,cond_false,true_and,seval,Jx];refine go _ ?_ ?_ ?_ ?_ ?_
  ·simp only[f0,Qb,seval]
  ·simp only[f3,Qb,seval]
  ·simp only[f4,Qb,seval]
  ·simp only[f18,Qb,seval]
  ·simp only[f24,Qb,seval]

include hC hcz in
theorem QDq (ih:∀n,n<nn→U6 Pg cz sm E kc c n)(hn1:X1.length+Y1.length<nn)(hn2:X2.length+Y2.length<nn)(hlv:lv<m.length)(he:∀x∈P++X1++X2++Y1++(Y2++S),Ez E cz x)(hN:N=(P++X1++X2++Y1++(Y2++S)).length)(hn:N<4611686018427387904)
  (sX1:X5 (lt c) X1) (sY1:X5 (lt c) Y1) (sX:X5 (lt c) X2) (sY:X5 (lt c) Y2) (f0:f 0=.vec (lv+1) s g 0 N false) (f1:f 1=.int .i64 (P.length:Nat)) (f2:f 2=.int .i64 ((P.length+X1.length+X2.length:Nat):Int)) (f3:f 3=.int .i64 ((P.length+X1.length+Y1.length+X2.length+Y2.length:Nat):Int)) (f4:f 4=.fn (.func kc) [] []) (f18:f 18=.int .i64 ((P.length+X1.length+Y1.length:Nat):Int)) (f19:f 19=.int .i64 ((P.length+X1.length+Y1.length+(P.length+X1.length+X2.length):Nat):Int)) (f20:f 20=.int .i64 ((P.length+X1.length:Nat):Int)) :
  QJ Pg (.seq (.reg (YD cz sr ro sm is st)) (.seq (.seq (.reg (YE cz sr ro sm is st)) (.cond (.t 185) (.reg (YF cz sr ro sm is st)) (.skip))) (.seq (.seq (.reg (WZ cz sr ro sm is st)) (.cond (.t 199) (.reg (W0 cz sr ro sm is st)) (.skip))) (.seq (.reg (KD cz sr ro sm is st)) (.cond (.t 213) (.reg (KE cz sr ro sm is st)) (.skip)))))) ⟨f,QD :: Am.put m lv s (.vec g cz (P++X1++X2++Y1++(Y2++S))),[]⟩
   (ZC GV m.length (fun v m1=>v=.tup []∧m1=Am.put m lv s (.vec g cz (P++(mg (lt c) X1 Y1++mg (lt c) X2 Y2)++S)))):=by
 have _:=hC;have _:=hcz;have hlen:N=P.length+X1.length+Y1.length+X2.length+Y2.length+S.length:=by rw[hN];simp only[QPi];omega
 have hem:∀x∈P++X1++Y1++(X2++Y2++S),Ez E cz x:=by
  intro x hx;refine he x ?_;simp only[QPX]at hx ⊢;rcases hx with((hx|hx)|hx)|((hx|hx)|hx)
  ·exact .inl (.inl (.inl (.inl hx)))
  ·exact .inl (.inl (.inl (.inr hx)))
  ·exact .inl (.inr hx)
  ·exact .inl (.inl (.inr hx))
  ·exact .inr (.inl hx)
  ·exact .inr (.inr hx)
 have go:∀f:Fr,f 0=.vec (lv+1) s g 0 N false→f 1=.int .i64 (P.length:Nat)→f 3=.int .i64 ((P.length+X1.length+Y1.length+X2.length+Y2.length:Nat):Int)→f 4=.fn (.func kc) [] []→f 18=.int .i64 ((P.length+X1.length+Y1.length:Nat):Int)→f 20=.int .i64 ((P.length+X1.length:Nat):Int)→f 24=.int .i64 ((P.length+X1.length+Y1.length+X2.length:Nat):Int)→_ :=
  fun f f0 f1 f3 f4 f18 f20 f24=>QDp hC hcz (P:=P) (X1:=X1) (Y1:=Y1) (X2:=X2) (Y2:=Y2) (S:=S) (m:=m) (f:=f) (g:=g) (s:=s) ih hn1 hn2 hlv hem (by rw[hlen];simp only[QPi];omega) hn sX1 sY1 sX sY f0 f1 f3 f4 f18 f20 f24
 have e1:IntKind.i64.wrap (((P.length+X1.length+Y1.length+(P.length+X1.length+X2.length):Nat):Int)-((P.length+X1.length:Nat):Int))=((P.length+X1.length+Y1.length+X2.length:Nat):Int):=by rw[QA];omega
 rw[YP];simp only[YD,e1,f19,f20,YO,Z3,Kx,Kz,Z4,Ky,KA,Uo,Qn,QZ,Xb,cond_true,cond_false,true_and,seval,Jx];rw[YP,YP];simp only[YE,f2,f20,YO,Kz,Z4,Ky,KA,Hg,Uo,Qn,QZ,Xb,cond_true,cond_false,true_and,seval,Jx];by_cases h1:0<X2.length
 ·have d1:decide (((P.length+X1.length:Nat):Int)<((P.length+X1.length+X2.length:Nat):Int))=true:=by simp only[QP1];omega
  by_cases h2:0<Y1.length
  ·have d2:decide (((P.length+X1.length+X2.length:Nat):Int)<((P.length+X1.length+Y1.length+X2.length:Nat):Int))=true:=by simp only[QP1];omega
   simp only[YF,d1,d2,f0,f2,f4,f20,YO,Z3,Kx,Kz,Z4,Ky,KA,Hg,KU,Uo,DN,Wb,YQ,Qn,QZ,Xb,cond_true,cond_false,true_and,seval,Jx];refine QU (L4 hC hcz (.fn (.func kc) [] []) (P++X1) X2 Y1 (Y2++S) (n:=P.length+X1.length+Y1.length+X2.length) hlv h1 h2 he (by omega) hN (by rw[QPi]) (by rw[QPi]) (by rw[QPi];omega)) rfl ?_;rw[Kx,Z3];rw[show P++X1++Y1++X2++(Y2++S)=P++X1++Y1++(X2++Y2++S)by simp only[QOZ]];refine go _ ?_ ?_ ?_ ?_ ?_ ?_ ?_
   ·simp only[f0,Qb,seval]
   ·simp only[f1,Qb,seval]
   ·simp only[f3,Qb,seval]
   ·simp only[f4,Qb,seval]
   ·simp only[f18,Qb,seval]
   ·simp only[f20,Qb,seval]
   ·simp only[Qb,seval]
  ·have d2:decide (((P.length+X1.length+X2.length:Nat):Int)<((P.length+X1.length+Y1.length+X2.length:Nat):Int))=false:=by simp only[QQw];omega
   have hy:Y1=[]:=QPJ (by omega);have hrow:P++X1++X2++Y1++(Y2++S)=P++X1++Y1++(X2++Y2++S):=by rw[hy];simp
   simp only[d1,d2,hrow,f2,Z3,Kx,Kz,Z4,Ky,KA,Hg,KU,Uo,DN,Wb,KT,Yv,Qn,QZ,Xb,cond_true,cond_false,true_and,seval,Jx];refine go _ ?_ ?_ ?_ ?_ ?_ ?_ ?_
   ·simp only[f0,Qb,seval]
   ·simp only[f1,Qb,seval]
   ·simp only[f3,Qb,seval]
   ·simp only[f4,Qb,seval]
   ·simp only[f18,Qb,seval]
   ·simp only[f20,Qb,seval]
   ·simp only[Qb,seval]
 ·have d1:decide (((P.length+X1.length:Nat):Int)<((P.length+X1.length+X2.length:Nat):Int))=false:=by simp only[QQw];omega
  have hx:X2=[]:=QPJ (by omega);have hrow:P++X1++X2++Y1++(Y2++S)=P++X1++Y1++(X2++Y2++S):=by rw[hx];simp
  simp only[d1,hrow,Z3,Kx,Kz,Z4,Ky,KA,Hg,W9,Uo,DN,Wb,KT,Yv,Qn,cond_true,cond_false,true_and,seval,Jx];refine go _ ?_ ?_ ?_ ?_ ?_ ?_ ?_
  ·simp only[f0,Qb,seval]
  ·simp only[f1,Qb,seval]
  ·simp only[f3,Qb,seval]
  ·simp only[f4,Qb,seval]
  ·simp only[f18,Qb,seval]
  ·simp only[f20,Qb,seval]
  ·simp only[Qb,seval]

end

set_option maxHeartbeats 1000000 in
include hC hcz in
theorem QKt {kc:Nat}{c:AV→AV→Int}(hc:Cp Pg cz E kc c)(nn:Nat)(ih:∀n,n<nn→U6 Pg cz sm E kc c n)(lv s g:Nat)(P X Y S:List AV)(m:Qh)(hXY:X.length+Y.length=nn)(hX1:1<X.length)(hY1:1<Y.length)(hl:Am.Qd m lv s=.vec g cz (P++X++Y++S))(he:∀x∈P++X++Y++S,Ez E cz x)
  (hn:(P++X++Y++S).length<4611686018427387904) (sX:X5 (lt c) X) (sY:X5 (lt c) Y) :
  Qu Pg sm [.vec lv s g 0 (P++X++Y++S).length false,.int .i64 (P.length:Nat),.int .i64 ((P.length+X.length:Nat):Int),.int .i64 ((P.length+X.length+Y.length:Nat):Int),.fn (.func kc) [] []] m
   (fun v m1=>v=.tup []∧m1=Am.put m lv s (.vec g cz (P++mg (lt c) X Y++S))):=by
 have _:=hC;have _:=hcz;have hlv:lv<m.length:=Q8 (by rw[hl];simp);have hlen:(P++X++Y++S).length=P.length+X.length+Y.length+S.length:=by simp only[QPi]
 refine hC.csm.go (by simp) ?_;have e1:(IntKind.i64.wrap (((P.length+X.length:Nat):Int)-(P.length:Int))==1)=false:=by rw[QA];simp only[QQp,ne_eq];omega
 have e2:(IntKind.i64.wrap (((P.length+X.length+Y.length:Nat):Int)-((P.length+X.length:Nat):Int))==1)=false:=by rw[QA];simp only[QQp,ne_eq];omega
 have e3:IntKind.i64.wrap ((P.length:Int)+((P.length+X.length+Y.length:Nat):Int))=((P.length+(P.length+X.length+Y.length):Nat):Int):=by rw[QA];omega
 have e4:=CU P.length (P.length+X.length+Y.length) (by omega);generalize hmid:(P.length+(P.length+X.length+Y.length)) / 2=mid at *;have e5:IntKind.i64.wrap ((mid:Int)+((P.length+X.length:Nat):Int))=((mid+(P.length+X.length):Nat):Int):=by rw[QA];omega
 have e6:IntKind.i64.wrap (((mid+(P.length+X.length):Nat):Int)-((P.length+X.length+Y.length:Nat):Int))=((mid+(P.length+X.length)-(P.length+X.length+Y.length):Nat):Int)∨mid<Y.length:=by
  by_cases h:mid<Y.length
  ·exact .inr h
  ·refine .inl ?_;rw[QA];omega
 have e7:IntKind.i64.wrap (((mid+(P.length+X.length):Nat):Int)-1)=((mid+(P.length+X.length)-1:Nat):Int):=by rw[QA];omega
 simp only[T9,Fl,GE,GF,GG,GH,GI,GJ,GK,GL,GM,GN,e1,e2,e3,e4,e5,Qb,seval];have h0:m=Am.put m lv s (.vec g cz (P++X++Y++S)):=(put_self hl).symm;generalize hN:(P++X++Y++S).length=N at *
 -- the search, from whatever bounds
 have main:∀(Q:Exit→St→Prop) (f:Fr) (s0 r0:Nat),s0≤r0→r0≤mid→(r0=mid∨r0=P.length+X.length)→(mid-s0≥Y.length∨s0=P.length)→mid-s0≤Y.length→r0≤P.length+X.length→P.length≤s0→
   f 0=.vec (lv+1) s g 0 N false→f 1=.int .i64 (P.length:Nat)→f 2=.int .i64 ((P.length+X.length:Nat):Int)→f 3=.int .i64 ((P.length+X.length+Y.length:Nat):Int)→f 4=.fn (.func kc) [] []→
   f 18=.int .i64 (mid:Nat)→f 19=.int .i64 ((mid+(P.length+X.length):Nat):Int)→f 22=.int .i64 ((mid+(P.length+X.length)-1:Nat):Int)→f 20=.int .i64 (s0:Nat)→f 21=.int .i64 (r0:Nat)→
   (∀(f:Fr) (t:Nat),s0≤t→t≤r0→mg (lt c) X Y=mg (lt c) (X.take (t-P.length)) (Y.take (mid-t))++mg (lt c) (X.drop (t-P.length)) (Y.drop (mid-t))→
    f 0=.vec (lv+1) s g 0 N false→f 1=.int .i64 (P.length:Nat)→f 2=.int .i64 ((P.length+X.length:Nat):Int)→f 3=.int .i64 ((P.length+X.length+Y.length:Nat):Int)→f 4=.fn (.func kc) [] []→
    f 18=.int .i64 (mid:Nat)→f 19=.int .i64 ((mid+(P.length+X.length):Nat):Int)→f 20=.int .i64 (t:Nat)→Q (.exit 8) ⟨f,QD :: Am.put m lv s (.vec g cz (P++X++Y++S)),[]⟩)→
   QJ Pg (.loop (GU cz sr ro sm is st)) ⟨f,QD :: m,[]⟩ Q:=by
  intro Q f s0 r0 hsr hrm hr hs hs2 hr2 hps f0 f1 f2 f3 f4 f18 f19 f22 f20 f21 hQ;refine Qg (ScS cz m lv s g N mid s0 r0 kc c P X Y S) _ ⟨_,s0,r0,by rw[←h0]<;>rfl,rfl,QOE _,hsr,QOE _,(by intro k x y h1 h2;omega),(by intro k x y h1 h2;omega),f0,f1,f2,f3,f4,f18,f19,f22,f20,f21⟩ ?_;clear f0 f1 f2 f3 f4 f18 f19 f22 f20 f21 f;rintro k st ⟨f,i,j,rfl,rfl,hsi,hij,hj,hp,hq,f0,f1,f2,f3,f4,f18,f19,f22,f20,f21⟩;simp only[GU,GP,GQ,GR,GS,GT,f20,f21,Qb,seval];by_cases hlt:i<j
  ·have d0:decide ((i:Int)<(j:Int))=true:=by simp only[QP1];omega
   have e8:IntKind.i64.wrap ((i:Int)+(j:Int))=((i+j:Nat):Int):=by rw[QA];omega
   have e9:=CU i j (by omega);generalize hh:(i+j) / 2=h at *;have hh1:h<j:=by omega
   have hh2:i≤h:=by omega
   have ea:IntKind.i64.wrap ((h:Int)+1)=((h+1:Nat):Int):=by rw[QA];omega
   have eb:IntKind.i64.wrap (((mid+(P.length+X.length)-1:Nat):Int)-(h:Int))=((P.length+X.length+(mid-1-h):Nat):Int):=by rw[QA];omega
   obtain⟨x,hx⟩:∃x,X[h-P.length]? = some x:=⟨_,QOH (by omega)⟩;obtain⟨y,hy⟩:∃y,Y[mid-1-h]? = some y:=⟨_,QOH (by omega)⟩;have ex:Ez E cz x:=he x (by simp[QOR hx]);have ey:Ez E cz y:=he y (by simp[QOR hy]);have gx:(P++X++Y++S)[h]? = some x:=by
    rw[QOZ,QOZ,QP6 (by omega),QP4 (by omega),hx]
   have gy:(P++X++Y++S)[P.length+X.length+(mid-1-h)]? = some y:=by
    rw[QOZ,QP6 (by rw[QPi];omega),QP4 (by rw[QPi];omega),←hy];congr 1;rw[QPi];omega
   simp only[d0,e8,e9,eb,f0,f4,f20,f21,f22,Wv hlv (show P.length+X.length+(mid-1-h)<N by omega),Wv hlv (show h<N by omega),Wu hlv gy ey,Wu hlv gx ex,Qb,seval];refine WC (by simp only[Qb,seval]) (hc.call y x ey ex) (Yh ey ex _) (Wi ey ex) rfl (.inl (Wi ey ex)) ?_;cases hcx:decide (c y x<0)with
   |true=>
    simp only[hcx,Qb,seval];have hq':∀k x' y',h≤k→k<r0→X[k-P.length]? = some x'→Y[mid-1-k]? = some y'→lt c y' x'=true:=by
     intro k x' y' hk hk2 hx' hy';have h3:=K1 hc.sw sY (show mid-1-k≤mid-1-h by omega) hy' hy hcx;have h4:=KC sX hc.sw (show h-P.length≤k-P.length by omega) hx hx';cases hb:lt c y' x' with
     |true=>rfl
     |false=>
      have:=hc.sw.nt y' x' x hb h4;rw[h3]at this;cases this
    exact⟨h-i,by omega,_,i,h,rfl,rfl,hsi,by omega,by omega,hp,hq',by simp only[f0,Qb,seval],by simp only[f1,Qb,seval],by simp only[f2,Qb,seval],by simp only[f3,Qb,seval],by simp only[f4,Qb,seval],by simp only[f18,Qb,seval],by simp only[f19,Qb,seval],by simp only[f22,Qb,seval],by simp only[f20,Qb,seval],by simp only[Qb,seval]⟩
   |false=>
    simp only[hcx,ea,Qb,seval];exact⟨j-(h+1),by omega,_,h+1,j,rfl,rfl,by omega,by omega,hj,fun k x' y' hk hk2 hx' hy'=>by
     have h3:=KC sX hc.sw (show k-P.length≤h-P.length by omega) hx' hx;have h4:lt c y' x=false:=by
      cases hb:lt c y' x with
      |false=>rfl
      |true=>exact absurd (K1 hc.sw sY (show mid-1-h≤mid-1-k by omega) hy hy' hb) (by show ¬(decide _=true);rw[hcx];simp)
     exact hc.sw.nt y' x x' h4 h3,hq,by simp only[f0,Qb,seval],by simp only[f1,Qb,seval],by simp only[f2,Qb,seval],by simp only[f3,Qb,seval],by simp only[f4,Qb,seval],by simp only[f18,Qb,seval],by simp only[f19,Qb,seval],by simp only[f22,Qb,seval],by simp only[Qb,seval],by simp only[f21,Qb,seval]⟩
  ·have d0:decide ((i:Int)<(j:Int))=false:=by simp only[QQw];omega
   have hij':j=i:=by omega
   subst hij';simp only[d0,Qb,seval];refine hQ _ j (by omega) (by omega) (Sh hc.sw sX sY hsi hj (by omega) (by omega) hr hs hs2 hr2 hp hq) ?_ ?_ ?_ ?_ ?_ ?_ ?_ ?_
   ·simp only[f0,Qb,seval]
   ·simp only[f1,Qb,seval]
   ·simp only[f2,Qb,seval]
   ·simp only[f3,Qb,seval]
   ·simp only[f4,Qb,seval]
   ·simp only[f18,Qb,seval]
   ·simp only[f19,Qb,seval]
   ·simp only[f20,Qb,seval]
 have hb1:mid≤P.length+X.length+Y.length:=by omega
 have fin:∀(f:Fr) (t:Nat),P.length≤t→t≤mid→t≤P.length+X.length→mid-t≤Y.length→mg (lt c) X Y=mg (lt c) (X.take (t-P.length)) (Y.take (mid-t))++mg (lt c) (X.drop (t-P.length)) (Y.drop (mid-t))→
    f 0=.vec (lv+1) s g 0 N false→f 1=.int .i64 (P.length:Nat)→f 2=.int .i64 ((P.length+X.length:Nat):Int)→f 3=.int .i64 ((P.length+X.length+Y.length:Nat):Int)→f 4=.fn (.func kc) [] []→
    f 18=.int .i64 (mid:Nat)→f 19=.int .i64 ((mid+(P.length+X.length):Nat):Int)→f 20=.int .i64 (t:Nat)→
   QJ Pg (.seq (.reg (YD cz sr ro sm is st)) (.seq (.seq (.reg (YE cz sr ro sm is st)) (.cond (.t 185) (.reg (YF cz sr ro sm is st)) (.skip))) (.seq (.seq (.reg (WZ cz sr ro sm is st)) (.cond (.t 199) (.reg (W0 cz sr ro sm is st)) (.skip))) (.seq (.reg (KD cz sr ro sm is st)) (.cond (.t 213) (.reg (KE cz sr ro sm is st)) (.skip)))))) ⟨f,QD :: Am.put m lv s (.vec g cz (P++X++Y++S)),[]⟩
   (ZC GV m.length (fun v m1=>v=.tup []∧m1=Am.put m lv s (.vec g cz (P++mg (lt c) X Y++S)))):=by
  intro f t h1 h2 h3 h4 hmg f0 f1 f2 f3 f4 f18 f19 f20;have l1:(X.take (t-P.length)).length=t-P.length:=by rw[QPB];omega
  have l2:(X.drop (t-P.length)).length=P.length+X.length-t:=by rw[QPl];omega
  have l3:(Y.take (mid-t)).length=mid-t:=by rw[QPB];omega
  have l4:(Y.drop (mid-t)).length=Y.length-(mid-t):=by rw[QPl]
  have hrow:P++X.take (t-P.length)++X.drop (t-P.length)++Y.take (mid-t)++(Y.drop (mid-t)++S)=P++X++Y++S:=by
   rw[QOZ P,QPV,←QOZ _ _ S,QOZ (P++X),QPV]
  have:=QDq hC hcz (kc:=kc) (c:=c) (nn:=nn) (lv:=lv) (s:=s) (g:=g) (N:=N) (P:=P) (X1:=X.take (t-P.length)) (X2:=X.drop (t-P.length)) (Y1:=Y.take (mid-t)) (Y2:=Y.drop (mid-t)) (S:=S) (m:=m) (f:=f) ih
   (by rw[l1,l3];omega) (by rw[l2,l4];omega) hlv (by rw[hrow];exact he) (by rw[hrow,hN]) hn
   (List.Pairwise.sublist (List.take_sublist _ _) sX) (List.Pairwise.sublist (List.take_sublist _ _) sY) (List.Pairwise.sublist (List.drop_sublist _ _) sX) (List.Pairwise.sublist (List.drop_sublist _ _) sY)
   f0 f1 (by rw[f2,l1,l2];congr 2;omega) (by rw[f3,l1,l2,l3,l4];congr 2;omega) f4 (by rw[f18,l1,l3];congr 2;omega) (by rw[f19,l1,l2,l3];congr 2;omega) (by rw[f20,l1];congr 2;omega)
  rw[hrow,←hmg]at this;exact this
 by_cases hgt:mid<P.length+X.length
 ·have d0:decide (((P.length+X.length:Nat):Int) > (mid:Int))=true:=by simp only[QP1];omega
  have hmy:Y.length≤mid:=by omega
  have e6':=e6.resolve_right (by omega);simp only[d0,e6',e7,Qb,seval];refine main _ _ (mid+(P.length+X.length)-(P.length+X.length+Y.length)) mid (by omega) (by omega) (.inl rfl) (.inl (by omega)) (by omega) (by omega) (by omega) ?_ ?_ ?_ ?_ ?_ ?_ ?_ ?_ ?_ ?_ ?_
  case refine_11=>
   intro f t h1 h2 hmg f0 f1 f2 f3 f4 f18 f19 f20;rw[Gj,QO9 rfl,Z3];exact fin f t (by omega) (by omega) (by omega) (by omega) hmg f0 f1 f2 f3 f4 f18 f19 f20
  all_goals simp only[Qb,seval]
 ·have d0:decide (((P.length+X.length:Nat):Int) > (mid:Int))=false:=by simp only[QQw];omega
  simp only[d0,e7,Qb,seval];refine main _ _ P.length (P.length+X.length) (by omega) (by omega) (.inr rfl) (.inr rfl) (by omega) (by omega) (by omega) ?_ ?_ ?_ ?_ ?_ ?_ ?_ ?_ ?_ ?_ ?_
  case refine_11=>
   intro f t h1 h2 hmg f0 f1 f2 f3 f4 f18 f19 f20;rw[Gj,QO9 rfl,Z3];exact fin f t (by omega) (by omega) (by omega) (by omega) hmg f0 f1 f2 f3 f4 f18 f19 f20
  all_goals simp only[Qb,seval]

include hC hcz in
theorem sym {kc:Nat}{c:AV→AV→Int}(hc:Cp Pg cz E kc c):∀n,U6 Pg cz sm E kc c n:=by
 have _:=hC;have _:=hcz;intro n
 induction n using Nat.strongRecOn with
 |_ n ih=>
 intro lv s g P X Y S m hXY hX hY hl he hn sX sY;by_cases h1:X.length=1
 ·obtain⟨x,rfl⟩:=List.length_eq_one_iff.1 h1;exact QKr hC hcz hc lv s g P x Y S m hl he hn sY
 ·by_cases h2:Y.length=1
  ·obtain⟨y,rfl⟩:=List.length_eq_one_iff.1 h2;exact QKs hC hcz hc lv s g P X y S m hl he hn sX h1
  ·exact QKt hC hcz hc n ih lv s g P X Y S m hXY (by omega) (by omega) hl he hn sX sY

end Go.Proofs.YtfgchfdkiomfpaaGreat.Tz

namespace Go.Proofs.YtfgchfdkiomfpaaGreat.Tz
open Go Am Bt Tg So
variable {Pg:Program}{cz sr ro sm is st ss:Nat}(hC:Tg.Cs Pg cz sr ro sm is st ss)(hcz:cz≠0)

variable {E:AV→Prop}

include hC hcz in
theorem Vr {kc:Nat}{c:AV→AV→Int}(hc:Cp Pg cz E kc c){fr:Nat→Ob}{lv s g N a b:Nat}(P X S:List AV){m:Qh}(hlv:lv<m.length)(he:∀x∈P++X++S,Ez E cz x)
  (hn:(P++X++S).length<4611686018427387904) (hN:N=(P++X++S).length) (ha:a=P.length) (hb:b=P.length+X.length) :
  Qu Pg is [.vec (lv+1) s g 0 N false,.int .i64 (a:Nat),.int .i64 (b:Nat),.fn (.func kc) [] []] (fr :: Am.put m lv s (.vec g cz (P++X++S)))
   (fun x m1=>x=.tup []∧m1=fr :: Am.put m lv s (.vec g cz (P++QB (lt c) X++S))):=by
 have _:=hC;have _:=hcz;subst hN ha hb;refine(QKq hC hcz hc (lv+1) s g P X S (fr :: Am.put m lv s (.vec g cz (P++X++S))) (Ql (m:=m) hlv) he hn).mono fun x m1 h=>⟨h.1,?_⟩
 rw[h.2];simp only[Am.put,put_put]

def St1 (cz:Nat)(m:Qh)(lv s g:Nat)(kc:Nat)(c:AV→AV→Int)(xs:List AV)(k:Nat)(st:St):Prop :=
 ∃f i,st=⟨f,[QD]++Am.put m lv s (.vec g cz (Xf (lt c) 20 i xs++xs.drop (20*i))),[]⟩∧k=xs.length-20*i∧20*i≤xs.length∧
  f 0=.vec (lv+1) s g 0 xs.length false∧f 1=.int .i64 (xs.length:Nat)∧f 2=.fn (.func kc) [] []∧f 6=.int .i64 20∧f 7=.int .i64 ((20*i:Nat):Int)∧f 8=.int .i64 ((20*(i+1):Nat):Int)

def St2 (cz:Nat)(m:Qh)(lv s g:Nat)(kc:Nat)(c:AV→AV→Int)(xs:List AV)(k:Nat)(st:St):Prop :=
 ∃f b n,st=⟨f,[QD]++Am.put m lv s (.vec g cz (Xf (lt c) b n xs)),[]⟩∧k=xs.length-b∧0<b∧b<2305843009213693952∧xs.length≤b*n∧
  f 0=.vec (lv+1) s g 0 xs.length false∧f 1=.int .i64 (xs.length:Nat)∧f 2=.fn (.func kc) [] []∧f 6=.int .i64 (b:Nat)

def St3 (cz:Nat)(m:Qh)(lv s g:Nat)(kc:Nat)(c:AV→AV→Int)(xs:List AV)(b:Nat)(k:Nat)(st:St):Prop :=
 ∃f i n,st=⟨f,[QD]++Am.put m lv s (.vec g cz (Xf (lt c) (2*b) i xs++Xf (lt c) b n (xs.drop (2*b*i)))),[]⟩∧k=xs.length-2*b*i∧2*b*i≤xs.length∧xs.length-2*b*i≤b*n∧
  f 0=.vec (lv+1) s g 0 xs.length false∧f 1=.int .i64 (xs.length:Nat)∧f 2=.fn (.func kc) [] []∧f 6=.int .i64 (b:Nat)∧f 7=.int .i64 ((2*b*i:Nat):Int)∧f 8=.int .i64 ((2*b*(i+1):Nat):Int)

set_option maxHeartbeats 1000000 in
include hC hcz in
theorem QKu {kc:Nat}{c:AV→AV→Int}(hc:Cp Pg cz E kc c)(lv s g:Nat)(xs:List AV)(m:Qh)(hl:Am.Qd m lv s=.vec g cz xs)(he:∀x∈xs,Ez E cz x)
  (hn:xs.length<1152921504606846976) :
  Qu Pg st [.vec lv s g 0 xs.length false,.int .i64 (xs.length:Nat),.fn (.func kc) [] []] m
   (fun x m1=>x=.tup []∧m1=Am.put m lv s (.vec g cz (QB (lt c) xs))):=by
 have _:=hC;have _:=hcz;have hlv:lv<m.length:=Q8 (by rw[hl];simp);refine hC.cst.go (by simp) ?_;have h0:m=Am.put m lv s (.vec g cz xs):=(put_self hl).symm;simp only[rst,Ak,Al,Qb,seval];refine Qg (St1 cz m lv s g kc c xs) _ ⟨_,0,by rw[show Xf (lt c) 20 0 xs++xs.drop (20*0)=xs by simp[Xf],←h0]<;>rfl,rfl,by omega,by simp only[Qb,seval],by simp only[Qb,seval],by simp only[Qb,seval],by simp only[Qb,seval],by simp only[Qb,seval]<;>rfl,by simp only[Qb,seval]<;>rfl⟩ ?_;clear h0;rintro k st ⟨f,i,rfl,rfl,hi,f0,f1,f2,f6,f7,f8⟩;simp only[Ar,An,f1,f8,Qb,seval];have hbl:(Xf (lt c) 20 i xs).length=20*i:=by rw[U2];omega
 by_cases hlt:20*(i+1)≤xs.length
 ·have d0:decide (((20*(i+1):Nat):Int)≤(xs.length:Int))=true:=by simp only[QP1];omega
  have e1:IntKind.i64.wrap (((20*(i+1):Nat):Int)+20)=((20*(i+1+1):Nat):Int):=by rw[QA];omega
  have hcut:Xf (lt c) 20 i xs++xs.drop (20*i)=Xf (lt c) 20 i xs++(xs.drop (20*i)).take 20++xs.drop (20*(i+1)):=by
   rw[QOZ,show 20*(i+1)=20*i+20 by omega,←QO8,QPV]
  have hx1:((xs.drop (20*i)).take 20).length=20:=by rw[QPB,QPl];omega
  have hee:∀x∈Xf (lt c) 20 i xs++(xs.drop (20*i)).take 20++xs.drop (20*(i+1)),Ez E cz x:=by
   intro x hx;refine he x ?_;rcases QPX.1 hx with hx|hx
   ·rcases QPX.1 hx with hx|hx
    ·exact WG hx
    ·exact QPs (QPt hx)
   ·exact QPs hx
  have hNN:(Xf (lt c) 20 i xs++(xs.drop (20*i)).take 20++xs.drop (20*(i+1))).length=xs.length:=by
   rw[QPi,QPi,hx1,hbl,QPl];omega
  simp only[d0,hcut,Ao,f0,f2,f7,f8,Qb,seval];refine QU (Vr hC hcz hc (a:=20*i) (b:=20*(i+1)) (Xf (lt c) 20 i xs) ((xs.drop (20*i)).take 20) (xs.drop (20*(i+1))) hlv hee (by omega) hNN.symm hbl.symm (by rw[hbl,hx1];omega)) rfl ?_;simp only[Ap,Aq,e1,f6,f8,Qb,seval];exact⟨xs.length-20*(i+1),by omega,_,i+1,by rw[Y3]<;>rfl,rfl,hlt,by simp only[f0,Qb,seval],by simp only[f1,Qb,seval],by simp only[f2,Qb,seval],by simp only[f6,Qb,seval],by simp only[Qb,seval],by simp only[Qb,seval]⟩
 ·have d0:decide (((20*(i+1):Nat):Int)≤(xs.length:Int))=false:=by simp only[QQw];omega
  have hee:∀x∈Xf (lt c) 20 i xs++xs.drop (20*i)++[],Ez E cz x:=by
   intro x hx;refine he x ?_;rw[QPI]at hx;rcases QPX.1 hx with hx|hx
   ·exact WG hx
   ·exact QPs hx
  have hNN:(Xf (lt c) 20 i xs++xs.drop (20*i)++[]).length=xs.length:=by
   rw[QPI,QPi,hbl,QPl];omega
  have hic:=Vr hC hcz hc (fr:=QD) (g:=g) (s:=s) (N:=xs.length) (a:=20*i) (b:=xs.length) (Xf (lt c) 20 i xs) (xs.drop (20*i)) [] hlv hee (by omega) hNN.symm hbl.symm (by rw[hbl,QPl];omega);have hsn:Xf (lt c) 20 i xs++QB (lt c) (xs.drop (20*i))=Xf (lt c) 20 (i+1) xs:=by
   rw[Y3,QPe (by rw[QPl];omega)]
  rw[QPI,QPI,hsn]at hic;simp only[d0,Au,f0,f1,f2,f7,Qb,seval];refine QU hic rfl ?_;simp only[Qb,seval];refine Qg (St2 cz m lv s g kc c xs) _ ⟨_,20,i+1,rfl,rfl,by omega,by omega,by omega,by simp only[f0,Qb,seval],by simp only[f1,Qb,seval],by simp only[f2,Qb,seval],by simp only[f6,Qb,seval]<;>rfl⟩ ?_;clear f0 f1 f2 f6 f7 f8 hic hsn hNN hee d0 hlt hbl hi f i;rintro k st ⟨f,b,n,rfl,rfl,hb0,hb1,hbn,f0,f1,f2,f6⟩;simp only[Az,Av,f1,f6,Qb,seval];by_cases hlt:b<xs.length
  ·have d0:decide ((b:Int)<(xs.length:Int))=true:=by simp only[QP1];omega
   have e1:IntKind.i64.wrap (2*(b:Int))=((2*b:Nat):Int):=by rw[QA];omega
   have e1':IntKind.i64.wrap ((b:Int)*2)=((2*b:Nat):Int):=by rw[QA];omega
   simp only[d0,Aw,e1,f6,Qb,seval];refine Qg (St3 cz m lv s g kc c xs b) _ ⟨_,0,n,by simp only[Xf,Nat.mul_zero,QPn,QO1]<;>rfl,rfl,by omega,by omega,by simp only[f0,Qb,seval],by simp only[f1,Qb,seval],by simp only[f2,Qb,seval],by simp only[f6,Qb,seval],by simp only[Qb,seval]<;>rfl,by simp only[QPm,Nat.mul_one,Qb,seval]⟩ ?_;clear f0 f1 f2 f6 f;rintro k st ⟨f,i,n',rfl,rfl,hi,hn',f0,f1,f2,f6,f7,f8⟩;have hA1:2*b*(i+1)=2*b*i+2*b:=Nat.mul_succ _ _;have hA2:2*b*(i+1+1)=2*b*i+2*b+2*b:=by rw[Nat.mul_succ,hA1]
   have hbl:(Xf (lt c) (2*b) i xs).length=2*b*i:=by rw[U2];omega
   have hsnoc:=Y3 (lt:=lt c) (2*b) i xs;rw[hA1]at f8;clear hbn;generalize hA:2*b*i=A at *;simp only[Ay,Ax,f1,f8,Qb,seval];generalize hL:xs.drop A=L at *;have hLl:L.length=xs.length-A:=by rw[←hL,QPl]
   have hLe:∀z∈L,Ez E cz z:=fun z hz=>he z (QPs (by rw[hL];exact hz))
   have hPe:∀z∈Xf (lt c) (2*b) i xs,Ez E cz z:=fun z hz=>he z (WG hz)
   have e2:IntKind.i64.wrap (((A:Nat):Int)+(b:Int))=((A+b:Nat):Int):=by rw[QA];omega
   -- Za blocks and the rest
   have Za:b<L.length→∃n'',n'=n''+2∧Xf (lt c) b n' L=QB (lt c) (L.take b)++QB (lt c) ((L.drop b).take b)++Xf (lt c) b n'' (L.drop (2*b))∧mg (lt c) (QB (lt c) (L.take b)) (QB (lt c) ((L.drop b).take b))=QB (lt c) (L.take (2*b)):=by
    intro h
    match n',hn' with
    |0,hn'=>omega
    |1,hn'=>omega
    |n''+2,_=>
     refine⟨n'',rfl,?_,?_⟩
     ·rw[Xf,Xf,QOZ,QO8,show b+b=2*b by omega]
     ·rw[Kd hc.sw,R7]
   by_cases hlt2:A+2*b≤xs.length
   ·have d1:decide (((A+2*b:Nat):Int)≤(xs.length:Int))=true:=by simp only[QP1];omega
    obtain⟨n'',rfl,hrow,hmg⟩:=Za (by omega);have hn2:b*(n''+2)=b*n''+2*b:=by rw[Nat.mul_add,Nat.mul_comm b 2]
    rw[hn2]at hn';clear Za;generalize hZ:b*n''=Z at *;have e3:IntKind.i64.wrap (((A+2*b:Nat):Int)+((2*b:Nat):Int))=((A+2*b+2*b:Nat):Int):=by
     rw[QA];omega
    have l1:(QB (lt c) (L.take b)).length=b:=by rw[JD,QPB];omega
    have l2:(QB (lt c) ((L.drop b).take b)).length=b:=by rw[JD,QPB,QPl];omega
    have l3:(Xf (lt c) b n'' (L.drop (2*b))).length=L.length-2*b:=by
     rw[U2,QPl,hZ];omega
    have hcut:Xf (lt c) (2*b) i xs++Xf (lt c) b (n''+2) L=Xf (lt c) (2*b) i xs++QB (lt c) (L.take b)++QB (lt c) ((L.drop b).take b)++Xf (lt c) b n'' (L.drop (2*b)):=by
     rw[hrow];simp only[QOZ]
    have hee:∀x∈Xf (lt c) (2*b) i xs++QB (lt c) (L.take b)++QB (lt c) ((L.drop b).take b)++Xf (lt c) b n'' (L.drop (2*b)),Ez E cz x:=by
     rw[←hcut];intro x hx;rcases QPX.1 hx with hx|hx
     ·exact hPe x hx
     ·exact hLe x (WG hx)
    have hNN:(Xf (lt c) (2*b) i xs++QB (lt c) (L.take b)++QB (lt c) ((L.drop b).take b)++Xf (lt c) b n'' (L.drop (2*b))).length=xs.length:=by
     rw[QPi,QPi,QPi,l1,l2,l3,hbl];omega
    simp only[d1,hcut,e2,PM,f0,f2,f6,f7,f8,Qb,seval];refine QU (Y7 hC hcz (sym hC hcz hc _) (a:=A) (b:=A+b) (e:=A+2*b) (Xf (lt c) (2*b) i xs) (QB (lt c) (L.take b)) (QB (lt c) ((L.drop b).take b)) (Xf (lt c) b n'' (L.drop (2*b))) hlv rfl (by omega) (by omega) hee (by omega) (XX hc.sw _) (XX hc.sw _) hNN.symm hbl.symm (by rw[hbl,l1]) (by rw[hbl,l1,l2];omega)) rfl ?_;simp only[PP,PQ,e1,e3,f6,f8,Qb,seval];refine⟨xs.length-(A+2*b),by omega,_,i+1,n'',by rw[hsnoc,hmg,hA1,←QO8,hL]<;>rfl,by rw[hA1],by rw[hA1];exact hlt2,?_,by simp only[f0,Qb,seval],by simp only[f1,Qb,seval],by simp only[f2,Qb,seval],by simp only[f6,Qb,seval],by simp only[hA1,Qb,seval],by simp only[hA2,Qb,seval]⟩
    ·rw[hA1,hZ];omega
   ·have d1:decide (((A+2*b:Nat):Int)≤(xs.length:Int))=false:=by simp only[QQw];omega
    have hfin:Xf (lt c) (2*b) i xs++QB (lt c) L=Xf (lt c) (2*b) (i+1) xs:=by
     rw[hsnoc,QPe (by omega)]
    simp only[d1,e2,PR,PT,f1,f6,f7,Qb,seval];by_cases hm:A+b<xs.length
    ·have d2:decide (((A+b:Nat):Int)<(xs.length:Int))=true:=by simp only[QP1];omega
     obtain⟨n'',rfl,hrow,hmg⟩:=Za (by omega);clear Za hn';have hr0:L.drop (2*b)=[]:=QPh (by omega);have hr1:(L.drop b).take b=L.drop b:=QPe (by rw[QPl];omega);have hr2:L.take (2*b)=L:=QPe (by omega);rw[hr0,Dt,QPI,hr1]at hrow;rw[hr1,hr2]at hmg;have l1:(QB (lt c) (L.take b)).length=b:=by rw[JD,QPB];omega
     have l2:(QB (lt c) (L.drop b)).length=L.length-b:=by rw[JD,QPl]
     have hee:∀x∈Xf (lt c) (2*b) i xs++QB (lt c) (L.take b)++QB (lt c) (L.drop b)++[],Ez E cz x:=by
      intro x hx;rw[QPI,QOZ,←hrow]at hx;rcases QPX.1 hx with hx|hx
      ·exact hPe x hx
      ·exact hLe x (WG hx)
     have hNN:(Xf (lt c) (2*b) i xs++QB (lt c) (L.take b)++QB (lt c) (L.drop b)++[]).length=xs.length:=by
      rw[QPI,QPi,QPi,l1,l2,hbl];omega
     have hsc:=Y7 hC hcz (sym hC hcz hc _) (fr:=QD) (s:=s) (g:=g) (N:=xs.length) (a:=A) (b:=A+b) (e:=xs.length) (Xf (lt c) (2*b) i xs) (QB (lt c) (L.take b)) (QB (lt c) (L.drop b)) [] hlv rfl (by omega) (by omega) hee (by omega) (XX hc.sw _) (XX hc.sw _) hNN.symm hbl.symm (by rw[hbl,l1]) (by rw[hbl,l1,l2];omega);rw[QPI,QPI,hmg,hfin,QOZ,←hrow]at hsc;simp only[d2,PU,f0,f1,f2,f7,Qb,seval];refine QU hsc rfl ?_;simp only[BO,e1',f6,Qb,seval];exact⟨xs.length-2*b,by omega,_,2*b,i+1,rfl,rfl,by omega,by omega,by rw[hA1];omega,by simp only[f0,Qb,seval],by simp only[f1,Qb,seval],by simp only[f2,Qb,seval],by simp only[Qb,seval]⟩
    ·have d2:decide (((A+b:Nat):Int)<(xs.length:Int))=false:=by simp only[QQw];omega
     have hrow:Xf (lt c) b n' L=QB (lt c) L:=Ve (by omega) (by omega);simp only[d2,hrow,hfin,BO,e1',f6,Qb,seval];exact⟨xs.length-2*b,by omega,_,2*b,i+1,rfl,rfl,by omega,by omega,by rw[hA1];omega,by simp only[f0,Qb,seval],by simp only[f1,Qb,seval],by simp only[f2,Qb,seval],by simp only[Qb,seval]⟩
  ·have d0:decide ((b:Int)<(xs.length:Int))=false:=by simp only[QQw];omega
   have hfin:Xf (lt c) b n xs=QB (lt c) xs:=Ve (by omega) hbn;simp only[d0,hfin,put_len,ost,Qb,seval]

include hC hcz in
theorem CV {kc:Nat}{c:AV→AV→Int}(hc:Cp Pg cz E kc c)(lv s g:Nat)(xs:List AV)(m:Qh)(hl:Am.Qd m lv s=.vec g cz xs)(he:∀x∈xs,Ez E cz x)
  (hn:xs.length<1152921504606846976) :
  Qu Pg ss [.vec lv s g 0 xs.length false,.fn (.func kc) [] []] m
   (fun x m1=>x=.tup []∧m1=Am.put m lv s (.vec g cz (QB (lt c) xs))):=by
 have _:=hC;have _:=hcz;have hlv:lv<m.length:=Q8 (by rw[hl];simp);refine hC.css.go (by simp) ?_;have hl2:Am.Qd (QD :: m) (lv+1) s=.vec g cz xs:=hl;simp only[AA,rss,oss,hl2,Qb,seval];refine QU ((QKu hC hcz hc (lv+1) s g xs (QD :: m) hl he hn).mono fun x m1 h=>⟨h.1,h.2.trans rfl⟩) rfl ?_;simp only[Am.put,put_len,Qb,seval]

end Go.Proofs.YtfgchfdkiomfpaaGreat.Tz

namespace Go.Proofs.YtfgchfdkiomfpaaGreat.Tg
open Go Am

theorem QDr:Cs Tryz.prog 4 216 203 166 165 106 58 where
 csr:=ck Tryz.func216 Tryz.ntmps216 (by decide +kernel)
 cro:=ck Tryz.func203 Tryz.ntmps203 (by decide +kernel)
 csm:=ck Tryz.func166 Tryz.ntmps166 (by decide +kernel)
 cis:=ck Tryz.func165 Tryz.ntmps165 (by decide +kernel)
 cst:=ck Tryz.func106 Tryz.ntmps106 (by decide +kernel)
 css:=ck Tryz.func58 Tryz.ntmps58 (by decide +kernel)

theorem QsL:Cs Tryz.prog 8 221 210 190 189 155 98 where
 csr:=ck Tryz.func221 Tryz.ntmps221 (by decide +kernel)
 cro:=ck Tryz.func210 Tryz.ntmps210 (by decide +kernel)
 csm:=ck Tryz.func190 Tryz.ntmps190 (by decide +kernel)
 cis:=ck Tryz.func189 Tryz.ntmps189 (by decide +kernel)
 cst:=ck Tryz.func155 Tryz.ntmps155 (by decide +kernel)
 css:=ck Tryz.func98 Tryz.ntmps98 (by decide +kernel)

theorem PV:Cs Tryz.prog 14 226 222 212 211 191 158 where
 csr:=ck Tryz.func226 Tryz.ntmps226 (by decide +kernel)
 cro:=ck Tryz.func222 Tryz.ntmps222 (by decide +kernel)
 csm:=ck Tryz.func212 Tryz.ntmps212 (by decide +kernel)
 cis:=ck Tryz.func211 Tryz.ntmps211 (by decide +kernel)
 cst:=ck Tryz.func191 Tryz.ntmps191 (by decide +kernel)
 css:=ck Tryz.func158 Tryz.ntmps158 (by decide +kernel)

end Go.Proofs.YtfgchfdkiomfpaaGreat.Tg

namespace Go.Proofs.YtfgchfdkiomfpaaGreat.Rc
open Go Am
end Go.Proofs.YtfgchfdkiomfpaaGreat.Rc

namespace Go.Proofs.YtfgchfdkiomfpaaGreat.Va
open Go Am Rc Bt Br Up So

section
variable {α β:Type}{lt:β→β→Bool}{lt':α→α→Bool}{F:α→β}(h:∀x y,lt (F x) (F y)=lt' x y)
include h
theorem BQ (a:α):∀l:List α,ZW lt (F a) (l.map F)=(ZW lt' a l).map F
 | []=>rfl
 |x :: l=>by
  rw[QPc,ZW,ZW,h x a];cases lt' x a
  ·rfl
  ·show F x :: ZW lt (F a) (l.map F)=_;rw[BQ a l];rfl
theorem WD:∀l:List α,QB lt (l.map F)=(QB lt' l).map F
 | []=>rfl
 |a :: l=>by
  rw[QPc,QB,WD l,BQ h a];rfl
end
theorem BR {α β:Type}{lt:β→β→Bool}(h:SW lt)(f:α→β):SW fun x y=>lt (f x) (f y) where
 irr _:=h.irr _
 tr _ _ _:=h.tr _ _ _
 nt _ _ _:=h.nt _ _ _
theorem QsM:SW fun a b:Int=>decide (a<b) where
 irr x:=by simp
 tr x y z h k:=by simp only[QP1]at *;omega
 nt x y z h k:=by simp only[QQw]at *;omega
theorem Fm (a b:Int):decide (cN a b<0)=decide (a<b):=by
 unfold cN;split
 ·rename_i h;simp[h]
 ·rename_i h;split<;>simp[h]
theorem AB (a b:List UInt8):decide (cS a b<0)=Op.bytesLess a b:=by
 unfold cS;cases Op.bytesLess a b
 ·cases(a==b)<;>simp
 ·simp

theorem UN {z:Nat}(hz:z≠0){xs:List AV}(h:xs.all (fun e=>e.cells.length==z)=true)(hf:QP xs=[]):xs=[]:=by
 cases xs with
 |nil=>rfl
 |cons x xs=>
  have hl:x.cells.length=z:=by simpa using QOQ.1 h x (by simp)
  have:x.cells=[]:=(List.append_eq_nil_iff.1 hf).1;rw[this]at hl;exact absurd hl.symm hz

theorem v53 (xs:List AV)(fr:Nat→Ob)(m:Qh)(h:xs.all (fun e=>e.cells.length==4)=true)(hn:xs.length≤1048576)(hr:Qi (fr 1000)=true) :
  Qu Tryz.prog 53 [.list xs] (fr :: m) (fun x m1=>x=.vec 0 1000 (Xu (fr 1000)) 0 xs.length false∧m1=QG fr 1000 (.vec (Xu (fr 1000)) 4 xs) :: m):=by
 have hng:Qo (fr :: m) 0 1000=Xu (fr 1000):=Km;refine k53.go (by simp) ?_;simp only[SK,V6,V7,Qb,seval];refine JR (ys:=xs) (by simp only[Qb,seval]) ?_ ?_
 ·simp only[V9,Qb,seval];refine XN rfl ?_;simp only[Qb,seval];refine QF (site:=5) (g:=1) (xs:=[]) (ys:=xs) rfl rfl rfl rfl rfl h (by simp[maxLen];omega) (by simp;omega) ?_;simp only[Qb,seval];refine Zm (l:=0) (site:=5) (g:=2) (o:=0) (n:=xs.length) (q:=false) (sz:=4) (xs:=xs) (by simp only[QPm,Qb,seval]) (by simp only[Qb,seval]) (by simp) (by decide) hr ?_;simp only[hng,NV,eE,seval]
  try simp[AV.still,AV.un,Zv,XH]
 ·intro he;have hx:xs=[]:=by
   rcases he with he|he
   ·exact he
   ·exact UN (by decide) h he
  subst hx;simp only[V8,Qb,seval];refine JP (by simp only[Qb,seval]) rfl ?_;simp only[Qb,seval];refine Zm (l:=0) (site:=2) (g:=1) (o:=0) (n:=0) (q:=false) (sz:=4) (xs:=[]) (by simp only[Qb,seval]) (by simp only[Qb,seval]) (by simp) (by decide) hr ?_;simp only[hng,NV,eE,seval]
  try simp[AV.still,AV.un,Zv,XH]

theorem v97 (xs:List AV)(fr:Nat→Ob)(m:Qh)(h:xs.all (fun e=>e.cells.length==8)=true)(hn:xs.length≤1048576)(hr:Qi (fr 1000)=true) :
  Qu Tryz.prog 97 [.list xs] (fr :: m) (fun x m1=>x=.vec 0 1000 (Xu (fr 1000)) 0 xs.length false∧m1=QG fr 1000 (.vec (Xu (fr 1000)) 8 xs) :: m):=by
 have hng:Qo (fr :: m) 0 1000=Xu (fr 1000):=Km;refine k97.go (by simp) ?_;simp only[SQ,Ca,Cb,Qb,seval];refine JR (ys:=xs) (by simp only[Qb,seval]) ?_ ?_
 ·simp only[Cd,Qb,seval];refine XN rfl ?_;simp only[Qb,seval];refine QF (site:=5) (g:=1) (xs:=[]) (ys:=xs) rfl rfl rfl rfl rfl h (by simp[maxLen];omega) (by simp;omega) ?_;simp only[Qb,seval];refine Zm (l:=0) (site:=5) (g:=2) (o:=0) (n:=xs.length) (q:=false) (sz:=8) (xs:=xs) (by simp only[QPm,Qb,seval]) (by simp only[Qb,seval]) (by simp) (by decide) hr ?_;simp only[hng,NW,eE,seval]
  try simp[AV.still,AV.un,Zv,XH]
 ·intro he;have hx:xs=[]:=by
   rcases he with he|he
   ·exact he
   ·exact UN (by decide) h he
  subst hx;simp only[Cc,Qb,seval];refine JP (by simp only[Qb,seval]) rfl ?_;simp only[Qb,seval];refine Zm (l:=0) (site:=2) (g:=1) (o:=0) (n:=0) (q:=false) (sz:=8) (xs:=[]) (by simp only[Qb,seval]) (by simp only[Qb,seval]) (by simp) (by decide) hr ?_;simp only[hng,NW,eE,seval]
  try simp[AV.still,AV.un,Zv,XH]

theorem QsN (xs:List AV)(fr:Nat→Ob)(m:Qh)(h:xs.all (fun e=>e.cells.length==14)=true)(hn:xs.length≤1048576)(hr:Qi (fr 1000)=true) :
  Qu Tryz.prog 157 [.list xs] (fr :: m) (fun x m1=>x=.vec 0 1000 (Xu (fr 1000)) 0 xs.length false∧m1=QG fr 1000 (.vec (Xu (fr 1000)) 14 xs) :: m):=by
 have hng:Qo (fr :: m) 0 1000=Xu (fr 1000):=Km;refine RH.go (by simp) ?_;simp only[Ce,F0,F1,Qb,seval];refine JR (ys:=xs) (by simp only[Qb,seval]) ?_ ?_
 ·simp only[F3,Qb,seval];refine XN rfl ?_;simp only[Qb,seval];refine QF (site:=5) (g:=1) (xs:=[]) (ys:=xs) rfl rfl rfl rfl rfl h (by simp[maxLen];omega) (by simp;omega) ?_;simp only[Qb,seval];refine Zm (l:=0) (site:=5) (g:=2) (o:=0) (n:=xs.length) (q:=false) (sz:=14) (xs:=xs) (by simp only[QPm,Qb,seval]) (by simp only[Qb,seval]) (by simp) (by decide) hr ?_;simp only[hng,De,eE,seval]
  try simp[AV.still,AV.un,Zv,XH]
 ·intro he;have hx:xs=[]:=by
   rcases he with he|he
   ·exact he
   ·exact UN (by decide) h he
  subst hx;simp only[F2,Qb,seval];refine JP (by simp only[Qb,seval]) rfl ?_;simp only[Qb,seval];refine Zm (l:=0) (site:=2) (g:=1) (o:=0) (n:=0) (q:=false) (sz:=14) (xs:=[]) (by simp only[Qb,seval]) (by simp only[Qb,seval]) (by simp) (by decide) hr ?_;simp only[hng,De,eE,seval]
  try simp[AV.still,AV.un,Zv,XH]

section rows
variable {fr:Nat→Ob}{m:Qh}{s g z n i:Nat}{xs l:List AV}
theorem Si (h:fr s=.vec g z xs)(hi:i<n):Qf (fr :: m) z none (.vec 0 s g 0 n false) ((i:Nat):Int)=some (.vptr 0 s g i 0):=by
 have e:Am.Qd (fr :: m) 0 s=.vec g z xs:=h;simp only[Qf,e,QP7];rw[QO9 (by omega),QO9 ⟨trivial,trivial,hi⟩,QPm]
theorem BS {k:Nat}(h:fr s=.vec g z xs)(hx:xs[i]? = some (.agg l))(hk:k≤l.length):Q3 (fr :: m) (some k) (.vptr 0 s g i 0)=some (.agg (l.take k)):=by
 have e:Am.Qd (fr :: m) 0 s=.vec g z xs:=h;simp only[Q3,e,if_true,hx,Am.part];show(if 0+k≤l.length then some (AV.agg ((l.drop 0).take k))else none)=_;rw[QO9 (by omega),QPn]
theorem QKv {o:Nat}(h:fr s=.vec g z xs)(hx:xs[i]? = some (.agg l)):Q3 (fr :: m) none (.vptr 0 s g i o)=l[o]?:=by
 have e:Am.Qd (fr :: m) 0 s=.vec g z xs:=h;simp only[Q3,e,if_true,hx,Am.part,AV.cells]
end rows

def eS (x:AV):Prop:=∃s:Int×V,x=V.sav s
theorem QDs (s:Int×V):Ez eS 8 (V.sav s):=by
 refine⟨⟨s,rfl⟩,?_⟩;rw[ZG];exact⟨_,rfl,rfl,rfl,rfl,fun _=>rfl⟩
def nA:AV→Int
 |.agg (.int _ n :: _)=>n
 |_=>0
def cA (x y:AV):Int:=cN (nA x) (nA y)
theorem CW (x y:AV):Tz.lt cA x y=decide (nA x<nA y):=Fm _ _
theorem AC:SW (Tz.lt cA):=by
 have e:Tz.lt cA=fun x y=>decide (nA x<nA y):=by funext x y;exact CW x y
 rw[e];exact BR QsM nA
theorem GW (s:Int×V):nA (V.sav s)=s.1:=by rw[ZG];rfl

theorem v99 (x y:Int×V):Qj Tryz.prog 99 [V.sav x,V.sav y] (.int .i64 (cN x.1 y.1)):=by
 rw[ZG,ZG];refine k99.fn (by simp) ?_;simp only[eE,seval];refine Qa (TJ x.1 y.1) rfl rfl rfl (.inl rfl) ?_;simp only[Qb,seval]

theorem QKw:Tz.Cp Tryz.prog 8 eS 99 cA where
 call x y hx hy:=by
  obtain⟨s,rfl⟩:=hx.1;obtain⟨t,rfl⟩:=hy.1;unfold cA;rw[GW,GW];exact v99 s t
 sw:=AC

theorem Sj (l:List (Int×V)):QB (Tz.lt cA) (l.map V.sav)=(Kf l).map V.sav:=WD (fun x y=>by rw[CW,GW,GW]) l
theorem JG (l:List (Int×V)):(l.map V.sav).all (fun e=>e.cells.length==8)=true:=by
 rw[List.all_map,QOQ];intro x _;simp[ZG,AV.cells]
theorem ezS (l:List (Int×V)):∀x∈l.map V.sav,Ez eS 8 x:=by
 intro x hx;obtain⟨s,_,rfl⟩:=QPY.1 hx;exact QDs s

def SoI (T:List (Int×V))(k:Nat)(st:St):Prop :=
 ∃f fr i g h,st=⟨f,[fr],[]⟩∧k=T.length-i∧i≤T.length∧f 3=.vec 0 1000 g 0 T.length false∧f 4=.vec 0 4 h 0 i false∧f 11=.vec 0 1000 g 0 T.length false∧f 12=.int .i64 (T.length:Nat)∧f 13=.int .i64 (i:Nat)∧fr 1000=.vec g 8 (T.map V.sav)∧fr 4=.vec h 8 ((T.take i).map V.sav)∧∀s∈[6],(fr s).isRow=false

theorem v54 (sl:List (Int×V))(hn:sl.length≤1048576)(hu:sl.Pairwise fun y x=>(y.1==x.1)=false):Qj Tryz.prog 54 [.list (sl.map V.sav)] (.list ((Kf sl).map V.sav)):=by
 have cl:=fun fr hr=>v97 (sl.map V.sav) fr [] (JG sl) (by rw[QPz];exact hn) hr
 have cs:=fun g (m:Qh) (hl:Am.Qd m 0 1000=.vec g 8 (sl.map V.sav))=>Tz.CV Tg.QsL (by decide) QKw 0 1000 g (sl.map V.sav) m hl (ezS sl) (by rw[QPz];omega)
 simp only[Sj,QPz]at cs;have hperm:(Kf sl).Perm sl:=QW _;have hlen:(Kf sl).length=sl.length:=hperm.length_eq;have hun:(Kf sl).Pairwise fun y x=>(y.1==x.1)=false:=(hperm.pairwise_iff fun {a b} h=>by rw[Bool.beq_comm];exact h).2 hu
 generalize Kf sl=T at *;refine k54.fn (by simp) ?_;simp only[Qb,seval];refine QU (cl _ rfl) (by simp only[QPc,QPG,Qb,seval]) ?_;simp only[QPz,Qb,seval];refine QU (cs _ _ (by simp only[eE,seval]<;>rfl)) (by simp only[QPc,QPG,Qb,seval]) ?_;simp only[eE,seval];refine JP (by simp only[Qb,seval]) (by simp only[Qb,seval]) ?_;simp only[eE,seval];refine Qg (SoI T) _ ⟨_,_,0,_,_,rfl,rfl,QOM _,(by rw[hlen];exact(by rfl)),(by rfl),(by rw[hlen];exact(by rfl)),(by rw[hlen];exact(by rfl)),(by rfl),(by rfl),(by rfl),by simp<;>rfl⟩ ?_;rintro _ st ⟨f0,fr0,i,g,h,rfl,rfl,hil,h30,h40,h110,h120,h130,mR0,m40,r6⟩;refine Q7 (a:=_) [6] r6 ?_;intro f fr hf hm hn6;have h3:f 3=.vec 0 1000 g 0 T.length false:=by rw[hf,h30]<;>rfl
 have h4:f 4=.vec 0 4 h 0 i false:=by rw[hf,h40]<;>rfl
 have h11:f 11=.vec 0 1000 g 0 T.length false:=by rw[hf,h110]<;>rfl
 have h12:f 12=.int .i64 (T.length:Nat):=by rw[hf,h120]<;>rfl
 have h13:f 13=.int .i64 (i:Nat):=by rw[hf,h130]<;>rfl
 have mR:fr 1000=.vec g 8 (T.map V.sav):=by rw[hm 1000 (by decide),mR0]<;>rfl
 have m4:fr 4=.vec h 8 ((T.take i).map V.sav):=by rw[hm 4 (by decide),m40]<;>rfl
 have n6:=hn6 6 (by decide);clear hf hm hn6 h30 h40 h110 h120 h130 mR0 m40 r6;simp only[h12,h13,Qb,seval];by_cases hlt:i<T.length
 ·obtain⟨x,hi⟩:∃x,T[i]? = some x:=⟨T[i],QOH hlt⟩;have hg:=Y4 hi;have e1:=Qx i _ hlt (by simp only[maxLen];omega);have ia:∀(fr:Nat→Ob) (j:Nat),fr 1000=.vec g 8 (T.map V.sav)→j<T.length→Qf [fr] 8 none (.vec 0 1000 g 0 T.length false) ((j:Nat):Int)=some (.vptr 0 1000 g j 0):=fun fr j h hj=>Si h hj
  have la:∀(fr:Nat→Ob),fr 1000=.vec g 8 (T.map V.sav)→Q3 [fr] (some 8) (.vptr 0 1000 g i 0)=some (.agg [.int .i64 x.1,.int .i64 x.2.kd,.int .u64 (x.2.bits:Nat),.str x.2.text,.list (x.2.list.map V.av),.list (x.2.pairs.map V.pav),.list (x.2.slots.map V.sav),.list (x.2.raws.map R.av)]):=fun fr h=>BS h hg (by simp)
  have fin:∀(f':Fr) (fr':Nat→Ob) (h':Nat),f' 3=.vec 0 1000 g 0 T.length false→f' 4=.vec 0 4 h' 0 (i+1) false→f' 11=.vec 0 1000 g 0 T.length false→f' 12=.int .i64 (T.length:Nat)→f' 13=.int .i64 ((i+1:Nat):Int)→fr' 1000=.vec g 8 (T.map V.sav)→fr' 4=.vec h' 8 ((T.take i).map V.sav++[V.sav x])→(∀s∈[6],(fr' s).isRow=false)→∃k,k<T.length-i∧SoI T k ⟨f',[fr'],[]⟩:=by
   intro f' fr' h' a3 a4 a11 a12 a13 b1 b4 b6;exact⟨T.length-(i+1),by omega,f',fr',i+1,g,h',rfl,rfl,by omega,a3,a4,a11,a12,a13,b1,by rw[b4,QQr,hi];simp,b6⟩
  have hti:((T.take i).map V.sav).length=i:=by rw[QPz,QPB];omega
  simp only[Qt hlt,ia,la,mR,hlt,n6,h3,h11,h13,e1,eE,seval];by_cases hl:i+1=T.length
  ·have d1:(((i+1:Nat):Int)==(T.length:Int))=true:=by simp;omega
   simp only[d1,h4,eE,seval];refine QO (l:=[V.sav x]) rfl rfl rfl (by rw[ZG];rfl) ?_;refine QF (site:=4) (g:=h) (n:=i) (xs:=(T.take i).map V.sav) (ys:=[V.sav x]) (by rfl) (by exact m4) rfl hti.symm rfl (JG [x]) (by simp only[QOT,QPA,maxLen];omega) (by simp only[QOT,QPA];omega) ?_;simp only[h13,e1,Qb,seval];exact fin _ _ (h+1) (by exact h3) (by rfl) (by exact h11) (by exact h12) (by rfl) (by exact mR) (by rfl) (by simp<;>rfl)
  ·have d1:(((i+1:Nat):Int)==(T.length:Int))=false:=by simp;omega
   have hlt1:i+1<T.length:=by omega
   obtain⟨y,hj⟩:∃y,T[i+1]? = some y:=⟨T[i+1],QOH hlt1⟩;have hgj:=Y4 hj;have lc:∀(fr:Nat→Ob),fr 1000=.vec g 8 (T.map V.sav)→Q3 [fr] none (.vptr 0 1000 g (i+1) 0)=some (.int .i64 y.1):=fun fr h=>QKv h hgj
   have hne:(x.1 != y.1)=true:=by
    rw[QQE]at hun;have:=hun i (i+1) hlt hlt1 (by omega);rw[(QOG.1 hi).2,(QOG.1 hj).2]at this
    simpa using this
   simp only[d1,ia,lc,mR,hlt1,hne,Wk,QPm,h3,h4,e1,eE,seval];refine QO (l:=[V.sav x]) rfl rfl rfl (by rw[ZG];rfl) ?_;refine QF (site:=4) (g:=h) (n:=i) (xs:=(T.take i).map V.sav) (ys:=[V.sav x]) (by rfl) (by exact m4) rfl hti.symm rfl (JG [x]) (by simp only[QOT,QPA,maxLen];omega) (by simp only[QOT,QPA];omega) ?_;simp only[h13,e1,Qb,seval];exact fin _ _ (h+1) (by exact h3) (by rfl) (by exact h11) (by exact h12) (by rfl) (by exact mR) (by rfl) (by simp<;>rfl)
 ·have e:i=T.length:=by omega
  subst e;rw[QQi]at m4;simp only[QS hlt,h4,eE,seval];simp[AV.un,Zv,XH,m4];rw[QPe (by rw[QPz];exact QOE _)]

def eP (P:PL)(k:Int)(x:AV):Prop:=∃p:V×V,x=V.pav p∧p.1.one P k (-1)=0∧p.1.bits<18446744073709551616
theorem ezP {P:PL}{k:Int}{p:V×V}(h:p.1.one P k (-1)=0)(hb:p.1.bits<18446744073709551616):Ez (eP P k) 14 (V.pav p):=by
 refine⟨⟨p,rfl,h,hb⟩,?_⟩;rw[Q4];exact⟨_,rfl,rfl,rfl,rfl,fun _=>rfl⟩
def kV:AV→V
 |.agg (_ :: .int _ b :: .str t :: _)=>.mk 0 b.toNat t [] [] [] []
 |_=>.mk 0 0 [] [] [] [] []
theorem GX (p:V×V):kV (V.pav p)=.mk 0 p.1.bits p.1.text [] [] [] []:=by rw[Q4];rfl
def cP (k:Int)(x y:AV):Int:=Ho k (kV x).bits (kV x).text (kV y).bits (kV y).text
theorem PW (k:Int)(a b:V):decide (Ho k a.bits a.text b.bits b.text<0)=kl k a b:=by
 unfold Ho kl;split
 ·exact AB _ _
 ·split
  ·exact Fm _ _
  ·exact Fm _ _
theorem QDt (k:Int):SW (Tz.lt (cP k)):=by
 have e:Tz.lt (cP k)=fun x y=>kl k (kV x,kV x).1 (kV y,kV y).1:=by funext x y;exact PW k _ _
 rw[e];exact BR (ZD k) fun x=>(kV x,kV x)

theorem QKx {P:PL}{k:Int}(hk:Xo k)(x y:V×V)(hx:x.1.one P k (-1)=0)(hy:y.1.one P k (-1)=0):Qj Tryz.prog 159 [V.pav x,V.pav y] (.int .i64 (Ho k x.1.bits x.1.text y.1.bits y.1.text)):=by
 have h:=Qsw k hk x.1.bits y.1.bits x.1.text y.1.text;rw[←(Jt hx).1,←(Jt hy).1,Qc,Qc]at h;rw[Q4,Q4];refine QGb.fn (by simp) ?_;simp only[QPd,QPN,QPn,eE,seval];refine Qa h rfl rfl rfl (.inl rfl) ?_;simp only[Qb,seval]

theorem QsO {P:PL}{k:Int}(hk:Xo k):Tz.Cp Tryz.prog 14 (eP P k) 159 (cP k) where
 call x y hx hy:=by
  obtain⟨p,rfl,h1,_⟩:=hx.1;obtain⟨q,rfl,h2,_⟩:=hy.1;unfold cP;rw[GX,GX];exact QKx hk p q h1 h2
 sw:=QDt k

theorem BT (k:Int)(l:List (V×V)):QB (Tz.lt (cP k)) (l.map V.pav)=(QT k l).map V.pav:=WD (fun x y=>by
 show decide (cP k (V.pav x) (V.pav y)<0)=_;unfold cP;rw[GX,GX];exact PW k x.1 y.1) l
theorem XQ (l:List (V×V)):(l.map V.pav).all (fun e=>e.cells.length==14)=true:=by
 rw[List.all_map,QOQ];intro x _;simp[Q4,AV.cells]

def PoI (T:List (V×V))(k:Nat)(st:St):Prop :=
 ∃f fr i g h,st=⟨f,[fr],[]⟩∧k=T.length-i∧i≤T.length∧f 3=.vec 0 1000 g 0 T.length false∧f 4=.vec 0 4 h 0 i false∧f 11=.vec 0 1000 g 0 T.length false∧f 12=.int .i64 (T.length:Nat)∧f 13=.int .i64 (i:Nat)∧fr 1000=.vec g 14 (T.map V.pav)∧fr 4=.vec h 14 ((T.take i).map V.pav)∧∀s∈[6],(fr s).isRow=false

theorem QKy {P:PL}{k:Int}(hk:Xo k)(ps:List (V×V))(hn:ps.length≤1048576)(h1:∀p∈ps,p.1.one P k (-1)=0)(hb:∀p∈ps,p.1.bits<18446744073709551616)(hu:ps.Pairwise fun q p=>Q0 q.1 p.1=false):Qj Tryz.prog 103 [.list (ps.map V.pav)] (.list ((QT k ps).map V.pav)):=by
 have cl:=fun fr hr=>QsN (ps.map V.pav) fr [] (XQ ps) (by rw[QPz];exact hn) hr
 have ez:∀x∈ps.map V.pav,Ez (eP P k) 14 x:=by
  intro x hx;obtain⟨p,hp,rfl⟩:=QPY.1 hx;exact ezP (h1 p hp) (hb p hp)
 have cs:=fun g (m:Qh) (hl:Am.Qd m 0 1000=.vec g 14 (ps.map V.pav))=>Tz.CV Tg.PV (by decide) (QsO (P:=P) hk) 0 1000 g (ps.map V.pav) m hl ez (by rw[QPz];omega)
 simp only[BT,QPz]at cs;have hperm:(QT k ps).Perm ps:=QW _;have hlen:(QT k ps).length=ps.length:=hperm.length_eq;have hun:(QT k ps).Pairwise fun q p=>Q0 q.1 p.1=false:=(hperm.pairwise_iff fun {a b} h=>by unfold Q0 at *;rw[←h,Bool.beq_comm (a:=b.1.bits),Bool.beq_comm (a:=b.1.text)]).2 hu
 have h1T:∀p∈QT k ps,p.1.one P k (-1)=0:=fun p hp=>h1 p (hperm.mem_iff.1 hp)
 have hbT:∀p∈QT k ps,p.1.bits<18446744073709551616:=fun p hp=>hb p (hperm.mem_iff.1 hp)
 generalize QT k ps=T at *;refine QhX.fn (by simp) ?_;simp only[Qb,seval];refine QU (cl _ rfl) (by simp only[QPc,QPG,Qb,seval]) ?_;simp only[QPz,Qb,seval];refine QU (cs _ _ (by simp only[eE,seval]<;>rfl)) (by simp only[QPc,QPG,Qb,seval]) ?_;simp only[eE,seval];refine JP (by simp only[Qb,seval]) (by simp only[Qb,seval]) ?_;simp only[eE,seval];refine Qg (PoI T) _ ⟨_,_,0,_,_,rfl,rfl,QOM _,(by rw[hlen];exact(by rfl)),(by rfl),(by rw[hlen];exact(by rfl)),(by rw[hlen];exact(by rfl)),(by rfl),(by rfl),(by rfl),by simp<;>rfl⟩ ?_;rintro _ st ⟨f0,fr0,i,g,h,rfl,rfl,hil,h30,h40,h110,h120,h130,mR0,m40,r6⟩;refine Q7 (a:=_) [6] r6 ?_;intro f fr hf hm hn6;have h3:f 3=.vec 0 1000 g 0 T.length false:=by rw[hf,h30]<;>rfl
 have h4:f 4=.vec 0 4 h 0 i false:=by rw[hf,h40]<;>rfl
 have h11:f 11=.vec 0 1000 g 0 T.length false:=by rw[hf,h110]<;>rfl
 have h12:f 12=.int .i64 (T.length:Nat):=by rw[hf,h120]<;>rfl
 have h13:f 13=.int .i64 (i:Nat):=by rw[hf,h130]<;>rfl
 have mR:fr 1000=.vec g 14 (T.map V.pav):=by rw[hm 1000 (by decide),mR0]<;>rfl
 have m4:fr 4=.vec h 14 ((T.take i).map V.pav):=by rw[hm 4 (by decide),m40]<;>rfl
 have n6:=hn6 6 (by decide);clear hf hm hn6 h30 h40 h110 h120 h130 mR0 m40 r6;simp only[h12,h13,Qb,seval];by_cases hlt:i<T.length
 ·obtain⟨x,hi⟩:∃x,T[i]? = some x:=⟨T[i],QOH hlt⟩;have hg:=Ke hi;have e1:=Qx i _ hlt (by simp only[maxLen];omega);have ia:∀(fr:Nat→Ob) (j:Nat),fr 1000=.vec g 14 (T.map V.pav)→j<T.length→Qf [fr] 14 none (.vec 0 1000 g 0 T.length false) ((j:Nat):Int)=some (.vptr 0 1000 g j 0):=fun fr j h hj=>Si h hj
  have la:∀(fr:Nat→Ob),fr 1000=.vec g 14 (T.map V.pav)→Q3 [fr] (some 14) (.vptr 0 1000 g i 0)=some (.agg [.int .i64 x.1.kd,.int .u64 (x.1.bits:Nat),.str x.1.text,.list (x.1.list.map V.av),.list (x.1.pairs.map V.pav),.list (x.1.slots.map V.sav),.list (x.1.raws.map R.av),.int .i64 x.2.kd,.int .u64 (x.2.bits:Nat),.str x.2.text,.list (x.2.list.map V.av),.list (x.2.pairs.map V.pav),.list (x.2.slots.map V.sav),.list (x.2.raws.map R.av)]):=fun fr h=>BS h hg (by simp)
  have fin:∀(f':Fr) (fr':Nat→Ob) (h':Nat),f' 3=.vec 0 1000 g 0 T.length false→f' 4=.vec 0 4 h' 0 (i+1) false→f' 11=.vec 0 1000 g 0 T.length false→f' 12=.int .i64 (T.length:Nat)→f' 13=.int .i64 ((i+1:Nat):Int)→fr' 1000=.vec g 14 (T.map V.pav)→fr' 4=.vec h' 14 ((T.take i).map V.pav++[V.pav x])→(∀s∈[6],(fr' s).isRow=false)→∃k,k<T.length-i∧PoI T k ⟨f',[fr'],[]⟩:=by
   intro f' fr' h' a3 a4 a11 a12 a13 b1 b4 b6;exact⟨T.length-(i+1),by omega,f',fr',i+1,g,h',rfl,rfl,by omega,a3,a4,a11,a12,a13,b1,by rw[b4,QQr,hi];simp,b6⟩
  have hti:((T.take i).map V.pav).length=i:=by rw[QPz,QPB];omega
  simp only[Qt hlt,ia,la,mR,hlt,n6,h3,h11,h13,e1,eE,seval];by_cases hl:i+1=T.length
  ·have d1:(((i+1:Nat):Int)==(T.length:Int))=true:=by simp;omega
   simp only[d1,h4,eE,seval];refine QO (l:=[V.pav x]) rfl rfl rfl (by rw[Q4];rfl) ?_;refine QF (site:=4) (g:=h) (n:=i) (xs:=(T.take i).map V.pav) (ys:=[V.pav x]) (by rfl) (by exact m4) rfl hti.symm rfl (XQ [x]) (by simp only[QOT,QPA,maxLen];omega) (by simp only[QOT,QPA];omega) ?_;simp only[h13,e1,Qb,seval];exact fin _ _ (h+1) (by exact h3) (by rfl) (by exact h11) (by exact h12) (by rfl) (by exact mR) (by rfl) (by simp<;>rfl)
  ·have d1:(((i+1:Nat):Int)==(T.length:Int))=false:=by simp;omega
   have hlt1:i+1<T.length:=by omega
   obtain⟨y,hj⟩:∃y,T[i+1]? = some y:=⟨T[i+1],QOH hlt1⟩;have hgj:=Ke hj;have lc:∀(fr:Nat→Ob),fr 1000=.vec g 14 (T.map V.pav)→Q3 [fr] (some 7) (.vptr 0 1000 g (i+1) 0)=some (.agg [.int .i64 y.1.kd,.int .u64 (y.1.bits:Nat),.str y.1.text,.list (y.1.list.map V.av),.list (y.1.pairs.map V.pav),.list (y.1.slots.map V.sav),.list (y.1.raws.map R.av)]):=fun fr h=>by
    rw[BS h hgj (by simp)];rfl
   have hx1:=h1T x (QOR hi);have hy1:=h1T y (QOR hj);have hne:Q0 x.1 y.1=false:=by
    rw[QQE]at hun;have:=hun i (i+1) hlt hlt1 (by omega);rw[(QOG.1 hi).2,(QOG.1 hj).2]at this;exact this
   have hq:=Qsx k hk x.1.bits y.1.bits x.1.text y.1.text;rw[←(Jt hx1).1,←(Jt hy1).1,Vi hk hx1 hy1 (hbT x (QOR hi)) (hbT y (QOR hj)),hne,Qc,Qc]at hq;simp only[d1,ia,lc,mR,hlt1,Wk,QPm,QPd,QPN,QPn,h3,e1,eE,seval];refine Qa hq rfl rfl rfl (.inl rfl) ?_;simp only[h4,eE,seval];refine QO (l:=[V.pav x]) rfl rfl rfl (by rw[Q4];rfl) ?_;refine QF (site:=4) (g:=h) (n:=i) (xs:=(T.take i).map V.pav) (ys:=[V.pav x]) (by rfl) (by exact m4) rfl hti.symm rfl (XQ [x]) (by simp only[QOT,QPA,maxLen];omega) (by simp only[QOT,QPA];omega) ?_;simp only[h13,e1,Qb,seval];exact fin _ _ (h+1) (by exact h3) (by rfl) (by exact h11) (by exact h12) (by rfl) (by exact mR) (by rfl) (by simp<;>rfl)
 ·have e:i=T.length:=by omega
  subst e;rw[QQi]at m4;simp only[QS hlt,h4,eE,seval];simp[AV.un,Zv,XH,m4];rw[QPe (by rw[QPz];exact QOE _)]

def eR (x:AV):Prop:=∃f:R,x=f.av
theorem QDu (f:R):Ez eR 4 f.av:=⟨⟨f,rfl⟩,_,rfl,rfl,rfl,rfl,fun _=>rfl⟩
theorem v59 (x y:R):Qj Tryz.prog 59 [x.av,y.av] (.int .i64 (cN x.num y.num)):=by
 refine k59.fn (by simp) ?_;simp only[R.av,eE,seval];refine Qa (TJ x.num y.num) rfl rfl rfl (.inl rfl) ?_;simp only[Qb,seval]
theorem QKz:Tz.Cp Tryz.prog 4 eR 59 cA where
 call x y hx hy:=by
  obtain⟨s,rfl⟩:=hx.1;obtain⟨t,rfl⟩:=hy.1;exact v59 s t
 sw:=AC
theorem Sk (l:List R):QB (Tz.lt cA) (l.map R.av)=(ZT l).map R.av:=WD (fun x y=>by rw[CW];rfl) l
theorem Y8 (l:List R):(l.map R.av).all (fun e=>e.cells.length==4)=true:=by
 rw[List.all_map,QOQ];intro x _;rfl
theorem ezR (l:List R):∀x∈l.map R.av,Ez eR 4 x:=by
 intro x hx;obtain⟨s,_,rfl⟩:=QPY.1 hx;exact QDu s

theorem GY (v:V):v.nsc.av=.agg [.int .i64 v.kd,.int .u64 ((Zi v.kd v.bits:Nat):Int),.str v.text,.list (v.list.map V.av),.list (v.pairs.map V.pav),.list (v.slots.map V.sav),.list (v.raws.map R.av)]:=by
 rw[Qc];rfl
theorem QsP (b:Nat):Qj Tryz.prog 137 [.int .u64 (b:Nat)] (.int .i64 (YA b:Nat)):=by
 refine QHJ.fn (by simp) ?_;have hm:(b:Int).tmod 9223372036854775808=((b % 9223372036854775808:Nat):Int):=by
  rw[QQG (by omega)];omega
 simp only[hm,Qb,seval];unfold YA;generalize b % 9223372036854775808=z
 repeat' (first|(refine QI (fun h=>?_) (fun h=>?_)<;>simp only[h,Qb,seval])|(refine Xk (fun h=>?_) (fun h=>?_)<;>simp only[h,Qk,eE,seval])|(refine Xl (fun h=>?_) (fun h=>?_)<;>simp only[h,Qk,eE,seval]))
 all_goals(simp only[QP1,QQw,QO5,QQp,ne_eq]at *)
 all_goals((repeat' split)<;>first|rfl|(exfalso;omega))

theorem QKA (b:Nat)(hb:b<18446744073709551616):Qj Tryz.prog 162 [.int .u64 (b:Nat)] (.int .i64 (YA b:Nat)):=by
 refine Qfi.fn (by simp) ?_;have a1:bits .and .u64 (b:Int) 9218868437227405312=(((b / 4503599627370496 % 2048)*4503599627370496:Nat):Int):=by
  have:=Dj b 9218868437227405312 hb (by decide);rw[Qsn]at this;exact this
 have a2:bits .and .u64 (b:Int) 4503599627370495=((b % 4503599627370496:Nat):Int):=by
  have:=Dj b 4503599627370495 hb (by decide);rw[Qsm]at this;exact this
 simp only[a1,a2,Qb,seval];unfold YA
 repeat' (first|(refine QI (fun h=>?_) (fun h=>?_)<;>simp only[h,Qb,seval])|(refine Xk (fun h=>?_) (fun h=>?_)<;>simp only[h,Qk,Qb,seval])|(refine Xl (fun h=>?_) (fun h=>?_)<;>simp only[h,Qk,eE,seval]))
 all_goals(simp only[QO5,QO6,bne_eq_false_iff_eq,QQp,ne_eq]at *)
 all_goals((repeat' split)<;>first|rfl|(exfalso;omega))

theorem Sl (v:V)(hb:v.bits<18446744073709551616):Qj Tryz.prog 104 [v.av] v.nsc.av:=by
 rw[GY,Qc];refine QcG.fn (by simp) ?_;simp only[eE,seval];by_cases hk:v.kd=6
 ·have b0:(v.kd==6)=true:=by simp[hk]
  simp only[b0,eE,seval];refine Qa (QKA v.bits hb) rfl rfl rfl (.inl rfl) ?_;simp only[CA,Qb,seval];by_cases hc:YA v.bits=0
  ·simp only[hc,Zi,hk,decide_true,and_self,splice,QPd,QPN,QPg,QPn,QO0,QO1,QOT,QPA,eE,seval]
   try rfl
  ·simp only[hc,Zi,decide_false,and_false,eE,seval]
 ·have b0:(v.kd==6)=false:=by simp[hk]
  simp only[b0,Zi,hk,false_and,eE,seval]

theorem v86 (v:V)(_hb:v.bits<18446744073709551616):Qj Tryz.prog 86 [v.av] v.nsc.av:=by
 rw[GY,Qc];refine k86.fn (by simp) ?_;simp only[eE,seval];by_cases hk:v.kd=6
 ·have b0:(v.kd==6)=true:=by simp[hk]
  simp only[b0,eE,seval];refine Qa (QsP v.bits) rfl rfl rfl (.inl rfl) ?_;simp only[CA,Qb,seval];by_cases hc:YA v.bits=0
  ·simp only[hc,Zi,hk,decide_true,and_self,splice,QPd,QPN,QPg,QPn,QO0,QO1,QOT,QPA,eE,seval]
   try rfl
  ·simp only[hc,Zi,decide_false,and_false,eE,seval]
 ·have b0:(v.kd==6)=false:=by simp[hk]
  simp only[b0,Zi,hk,false_and,eE,seval]

end Go.Proofs.YtfgchfdkiomfpaaGreat.Va

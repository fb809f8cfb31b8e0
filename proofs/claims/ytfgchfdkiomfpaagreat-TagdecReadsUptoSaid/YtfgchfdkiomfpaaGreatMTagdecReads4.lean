/- Parts of the proof, in order. -/
import Derived.Test.YtfgchfdkiomfpaaGreatMTagdecReads3

set_option linter.unusedSimpArgs false
namespace Go.Proofs.YtfgchfdkiomfpaaGreat.Va
open Go Am Rc Bt Br Up So

def eP (P:PL)(k:Int)(x:AV):Prop:=∃p:V×V,x=V.pav p∧p.1.one P k (-1)=0∧p.1.bits<18446744073709551616
theorem ezP {P:PL}{k:Int}{p:V×V}(h:p.1.one P k (-1)=0)(hb:p.1.bits<18446744073709551616):Ez (eP P k) 14 (V.pav p):=by
 refine⟨⟨p,rfl,h,hb⟩,?_⟩;rw[Q7];exact⟨_,rfl,rfl,rfl,rfl,fun _=>rfl⟩
def kV:AV→V
 |.agg (_ :: .int _ b :: .str t :: _)=>.mk 0 b.toNat t [] [] [] []
 |_=>.mk 0 0 [] [] [] [] []
theorem G5 (p:V×V):kV (V.pav p)=.mk 0 p.1.bits p.1.text [] [] [] []:=by rw[Q7];rfl
def cP (k:Int)(x y:AV):Int:=Hu k (kV x).bits (kV x).text (kV y).bits (kV y).text
theorem PV (k:Int)(a b:V):decide (Hu k a.bits a.text b.bits b.text<0)=kl k a b:=by
 unfold Hu kl;split
 ·exact AD _ _
 ·split
  ·exact Fs _ _
  ·exact Fs _ _
theorem QEu (k:Int):SW (Tz.lt (cP k)):=by
 have e:Tz.lt (cP k)=fun x y=>kl k (kV x,kV x).1 (kV y,kV y).1:=by funext x y;exact PV k _ _
 rw[e];exact BS (ZF k) fun x=>(kV x,kV x)

theorem QLm {P:PL}{k:Int}(hk:Xr k)(x y:V×V)(hx:x.1.one P k (-1)=0)(hy:y.1.one P k (-1)=0):Qh Tryz.prog 159 [V.pav x,V.pav y] (.int .i64 (Hu k x.1.bits x.1.text y.1.bits y.1.text)):=by
 have h:=Qs1 k hk x.1.bits y.1.bits x.1.text y.1.text;rw[←(Jw hx).1,←(Jw hy).1,Qc,Qc]at h;rw[Q7,Q7];refine QHe.fn (by simp) ?_;simp only[QP9,QQI,QQj,eE,seval];refine Qa h rfl rfl rfl (.inl rfl) ?_;simp only[Qb,seval]

theorem Qtk {P:PL}{k:Int}(hk:Xr k):Tz.Cp Tryz.prog 14 (eP P k) 159 (cP k) where
 call x y hx hy:=by
  obtain⟨p,rfl,h1,_⟩:=hx.1;obtain⟨q,rfl,h2,_⟩:=hy.1;unfold cP;rw[G5,G5];exact QLm hk p q h1 h2
 sw:=QEu k

theorem BU (k:Int)(l:List (V×V)):QC (Tz.lt (cP k)) (l.map V.pav)=(QV k l).map V.pav:=WF (fun x y=>by
 show decide (cP k (V.pav x) (V.pav y)<0)=_;unfold cP;rw[G5,G5];exact PV k x.1 y.1) l
theorem XQ (l:List (V×V)):(l.map V.pav).all (fun e=>e.cells.length==14)=true:=by
 rw[List.all_map,QPM];intro x _;simp[Q7,AV.cells]

def PoI (T:List (V×V))(k:Nat)(st:St):Prop :=
 ∃f fr i g h,st=⟨f,[fr],[]⟩∧k=T.length-i∧i≤T.length∧f 3=.vec 0 1000 g 0 T.length false∧f 4=.vec 0 4 h 0 i false∧f 11=.vec 0 1000 g 0 T.length false∧f 12=.int .i64 (T.length:Nat)∧f 13=.int .i64 (i:Nat)∧fr 1000=.vec g 14 (T.map V.pav)∧fr 4=.vec h 14 ((T.take i).map V.pav)∧∀s∈[6],(fr s).isRow=false

theorem QLn {P:PL}{k:Int}(hk:Xr k)(ps:List (V×V))(hn:ps.length≤1048576)(h1:∀p∈ps,p.1.one P k (-1)=0)(hb:∀p∈ps,p.1.bits<18446744073709551616)(hu:ps.Pairwise fun q p=>Q2 q.1 p.1=false):Qh Tryz.prog 103 [.list (ps.map V.pav)] (.list ((QV k ps).map V.pav)):=by
 have cl:=fun fr hr=>Qtj (ps.map V.pav) fr [] (XQ ps) (by rw[QQu];exact hn) hr
 have ez:∀x∈ps.map V.pav,Ez (eP P k) 14 x:=by
  intro x hx;obtain⟨p,hp,rfl⟩:=QQT.1 hx;exact ezP (h1 p hp) (hb p hp)
 have cs:=fun g (m:Qj) (hl:Am.Qd m 0 1000=.vec g 14 (ps.map V.pav))=>Tz.CW Tg.PU (by decide) (Qtk (P:=P) hk) 0 1000 g (ps.map V.pav) m hl ez (by rw[QQu];omega)
 simp only[BU,QQu]at cs;have hperm:(QV k ps).Perm ps:=Q0 _;have hlen:(QV k ps).length=ps.length:=hperm.length_eq;have hun:(QV k ps).Pairwise fun q p=>Q2 q.1 p.1=false:=(hperm.pairwise_iff fun {a b} h=>by unfold Q2 at *;rw[←h,Bool.beq_comm (a:=b.1.bits),Bool.beq_comm (a:=b.1.text)]).2 hu
 have h1T:∀p∈QV k ps,p.1.one P k (-1)=0:=fun p hp=>h1 p (hperm.mem_iff.1 hp)
 have hbT:∀p∈QV k ps,p.1.bits<18446744073709551616:=fun p hp=>hb p (hperm.mem_iff.1 hp)
 generalize QV k ps=T at *;refine Qh7.fn (by simp) ?_;simp only[Qb,seval];refine QU (cl _ rfl) (by simp only[QP8,QQB,Qb,seval]) ?_;simp only[QQu,Qb,seval];refine QU (cs _ _ (by simp only[eE,seval]<;>rfl)) (by simp only[QP8,QQB,Qb,seval]) ?_;simp only[eE,seval];refine Jq (by simp only[Qb,seval]) (by simp only[Qb,seval]) ?_;simp only[eE,seval];refine Qg (PoI T) _ ⟨_,_,0,_,_,rfl,rfl,QPJ _,(by rw[hlen];exact(by rfl)),(by rfl),(by rw[hlen];exact(by rfl)),(by rw[hlen];exact(by rfl)),(by rfl),(by rfl),(by rfl),by simp<;>rfl⟩ ?_;rintro _ st ⟨f0,fr0,i,g,h,rfl,rfl,hil,h30,h40,h110,h120,h130,mR0,m40,r6⟩;refine QX (a:=_) [6] r6 ?_;intro f fr hf hm hn6;have h3:f 3=.vec 0 1000 g 0 T.length false:=by rw[hf,h30]<;>rfl
 have h4:f 4=.vec 0 4 h 0 i false:=by rw[hf,h40]<;>rfl
 have h11:f 11=.vec 0 1000 g 0 T.length false:=by rw[hf,h110]<;>rfl
 have h12:f 12=.int .i64 (T.length:Nat):=by rw[hf,h120]<;>rfl
 have h13:f 13=.int .i64 (i:Nat):=by rw[hf,h130]<;>rfl
 have mR:fr 1000=.vec g 14 (T.map V.pav):=by rw[hm 1000 (by decide),mR0]<;>rfl
 have m4:fr 4=.vec h 14 ((T.take i).map V.pav):=by rw[hm 4 (by decide),m40]<;>rfl
 have n6:=hn6 6 (by decide);clear hf hm hn6 h30 h40 h110 h120 h130 mR0 m40 r6;simp only[h12,h13,Qb,seval];by_cases hlt:i<T.length
 ·obtain⟨x,hi⟩:∃x,T[i]? = some x:=⟨T[i],QPE hlt⟩;have hg:=JI hi;have e1:=Qw i _ hlt (by simp only[maxLen];omega);have ia:∀(fr:Nat→Ob) (j:Nat),fr 1000=.vec g 14 (T.map V.pav)→j<T.length→Qf [fr] 14 none (.vec 0 1000 g 0 T.length false) ((j:Nat):Int)=some (.vptr 0 1000 g j 0):=fun fr j h hj=>Sg h hj
  have la:∀(fr:Nat→Ob),fr 1000=.vec g 14 (T.map V.pav)→Q6 [fr] (some 14) (.vptr 0 1000 g i 0)=some (.agg [.int .i64 x.1.kd,.int .u64 (x.1.bits:Nat),.str x.1.text,.list (x.1.list.map V.av),.list (x.1.pairs.map V.pav),.list (x.1.slots.map V.sav),.list (x.1.raws.map R.av),.int .i64 x.2.kd,.int .u64 (x.2.bits:Nat),.str x.2.text,.list (x.2.list.map V.av),.list (x.2.pairs.map V.pav),.list (x.2.slots.map V.sav),.list (x.2.raws.map R.av)]):=fun fr h=>BT h hg (by simp)
  have fin:∀(f':Fr) (fr':Nat→Ob) (h':Nat),f' 3=.vec 0 1000 g 0 T.length false→f' 4=.vec 0 4 h' 0 (i+1) false→f' 11=.vec 0 1000 g 0 T.length false→f' 12=.int .i64 (T.length:Nat)→f' 13=.int .i64 ((i+1:Nat):Int)→fr' 1000=.vec g 14 (T.map V.pav)→fr' 4=.vec h' 14 ((T.take i).map V.pav++[V.pav x])→(∀s∈[6],(fr' s).isRow=false)→∃k,k<T.length-i∧PoI T k ⟨f',[fr'],[]⟩:=by
   intro f' fr' h' a3 a4 a11 a12 a13 b1 b4 b6;exact⟨T.length-(i+1),by omega,f',fr',i+1,g,h',rfl,rfl,by omega,a3,a4,a11,a12,a13,b1,by rw[b4,QRm,hi];simp,b6⟩
  have hti:((T.take i).map V.pav).length=i:=by rw[QQu,QQw];omega
  simp only[Qr hlt,ia,la,mR,hlt,n6,h3,h11,h13,e1,eE,seval];by_cases hl:i+1=T.length
  ·have d1:(((i+1:Nat):Int)==(T.length:Int))=true:=by simp;omega
   simp only[d1,h4,eE,seval];refine QN (l:=[V.pav x]) rfl rfl rfl (by rw[Q7];rfl) ?_;refine QF (site:=4) (g:=h) (n:=i) (xs:=(T.take i).map V.pav) (ys:=[V.pav x]) (by rfl) (by exact m4) rfl hti.symm rfl (XQ [x]) (by simp only[QPP,QQv,maxLen];omega) (by simp only[QPP,QQv];omega) ?_;simp only[h13,e1,Qb,seval];exact fin _ _ (h+1) (by exact h3) (by rfl) (by exact h11) (by exact h12) (by rfl) (by exact mR) (by rfl) (by simp<;>rfl)
  ·have d1:(((i+1:Nat):Int)==(T.length:Int))=false:=by simp;omega
   have hlt1:i+1<T.length:=by omega
   obtain⟨y,hj⟩:∃y,T[i+1]? = some y:=⟨T[i+1],QPE hlt1⟩;have hgj:=JI hj;have lc:∀(fr:Nat→Ob),fr 1000=.vec g 14 (T.map V.pav)→Q6 [fr] (some 7) (.vptr 0 1000 g (i+1) 0)=some (.agg [.int .i64 y.1.kd,.int .u64 (y.1.bits:Nat),.str y.1.text,.list (y.1.list.map V.av),.list (y.1.pairs.map V.pav),.list (y.1.slots.map V.sav),.list (y.1.raws.map R.av)]):=fun fr h=>by
    rw[BT h hgj (by simp)];rfl
   have hx1:=h1T x (QPN hi);have hy1:=h1T y (QPN hj);have hne:Q2 x.1 y.1=false:=by
    rw[QRz]at hun;have:=hun i (i+1) hlt hlt1 (by omega);rw[(QPD.1 hi).2,(QPD.1 hj).2]at this;exact this
   have hq:=Qs2 k hk x.1.bits y.1.bits x.1.text y.1.text;rw[←(Jw hx1).1,←(Jw hy1).1,Vk hk hx1 hy1 (hbT x (QPN hi)) (hbT y (QPN hj)),hne,Qc,Qc]at hq;simp only[d1,ia,lc,mR,hlt1,Wm,QQi,QP9,QQI,QQj,h3,e1,eE,seval];refine Qa hq rfl rfl rfl (.inl rfl) ?_;simp only[h4,eE,seval];refine QN (l:=[V.pav x]) rfl rfl rfl (by rw[Q7];rfl) ?_;refine QF (site:=4) (g:=h) (n:=i) (xs:=(T.take i).map V.pav) (ys:=[V.pav x]) (by rfl) (by exact m4) rfl hti.symm rfl (XQ [x]) (by simp only[QPP,QQv,maxLen];omega) (by simp only[QPP,QQv];omega) ?_;simp only[h13,e1,Qb,seval];exact fin _ _ (h+1) (by exact h3) (by rfl) (by exact h11) (by exact h12) (by rfl) (by exact mR) (by rfl) (by simp<;>rfl)
 ·have e:i=T.length:=by omega
  subst e;rw[QRd]at m4;simp only[QO hlt,h4,eE,seval];simp[AV.un,Zp,XD,m4];rw[QQa (by rw[QQu];exact QPB _)]

def eR (x:AV):Prop:=∃f:R,x=f.av
theorem QEv (f:R):Ez eR 4 f.av:=⟨⟨f,rfl⟩,_,rfl,rfl,rfl,rfl,fun _=>rfl⟩
theorem v59 (x y:R):Qh Tryz.prog 59 [x.av,y.av] (.int .i64 (cN x.num y.num)):=by
 refine k59.fn (by simp) ?_;simp only[R.av,eE,seval];refine Qa (TK x.num y.num) rfl rfl rfl (.inl rfl) ?_;simp only[Qb,seval]
theorem QLo:Tz.Cp Tryz.prog 4 eR 59 cA where
 call x y hx hy:=by
  obtain⟨s,rfl⟩:=hx.1;obtain⟨t,rfl⟩:=hy.1;exact v59 s t
 sw:=AE
theorem Si (l:List R):QC (Tz.lt cA) (l.map R.av)=(Jh l).map R.av:=WF (fun x y=>by rw[CX];rfl) l
theorem Ud (l:List R):(l.map R.av).all (fun e=>e.cells.length==4)=true:=by
 rw[List.all_map,QPM];intro x _;rfl
theorem ezR (l:List R):∀x∈l.map R.av,Ez eR 4 x:=by
 intro x hx;obtain⟨s,_,rfl⟩:=QQT.1 hx;exact QEv s

theorem G6 (v:V):v.nsc.av=.agg [.int .i64 v.kd,.int .u64 ((ZE v.kd v.bits:Nat):Int),.str v.text,.list (v.list.map V.av),.list (v.pairs.map V.pav),.list (v.slots.map V.sav),.list (v.raws.map R.av)]:=by
 rw[Qc];rfl
theorem Qtl (b:Nat):Qh Tryz.prog 137 [.int .u64 (b:Nat)] (.int .i64 (YE b:Nat)):=by
 refine QIM.fn (by simp) ?_;have hm:(b:Int).tmod 9223372036854775808=((b % 9223372036854775808:Nat):Int):=by
  rw[QRB (by omega)];omega
 simp only[hm,Qb,seval];unfold YE;generalize b % 9223372036854775808=z
 repeat' (first|(refine QK (fun h=>?_) (fun h=>?_)<;>simp only[h,Qb,seval])|(refine Xo (fun h=>?_) (fun h=>?_)<;>simp only[h,Qk,eE,seval])|(refine Xp (fun h=>?_) (fun h=>?_)<;>simp only[h,Qk,eE,seval]))
 all_goals(simp only[QQW,QRr,QP1,QRk,ne_eq]at *)
 all_goals((repeat' split)<;>first|rfl|(exfalso;omega))

theorem QLp (b:Nat)(hb:b<18446744073709551616):Qh Tryz.prog 162 [.int .u64 (b:Nat)] (.int .i64 (YE b:Nat)):=by
 refine Qfo.fn (by simp) ?_;have a1:bits .and .u64 (b:Int) 9218868437227405312=(((b / 4503599627370496 % 2048)*4503599627370496:Nat):Int):=by
  have:=Dp b 9218868437227405312 hb (by decide);rw[QsS]at this;exact this
 have a2:bits .and .u64 (b:Int) 4503599627370495=((b % 4503599627370496:Nat):Int):=by
  have:=Dp b 4503599627370495 hb (by decide);rw[QsR]at this;exact this
 simp only[a1,a2,Qb,seval];unfold YE
 repeat' (first|(refine QK (fun h=>?_) (fun h=>?_)<;>simp only[h,Qb,seval])|(refine Xo (fun h=>?_) (fun h=>?_)<;>simp only[h,Qk,Qb,seval])|(refine Xp (fun h=>?_) (fun h=>?_)<;>simp only[h,Qk,eE,seval]))
 all_goals(simp only[QP1,QP2,bne_eq_false_iff_eq,QRk,ne_eq]at *)
 all_goals((repeat' split)<;>first|rfl|(exfalso;omega))

theorem Sj (v:V)(hb:v.bits<18446744073709551616):Qh Tryz.prog 104 [v.av] v.nsc.av:=by
 rw[G6,Qc];refine QcM.fn (by simp) ?_;simp only[eE,seval];by_cases hk:v.kd=6
 ·have b0:(v.kd==6)=true:=by simp[hk]
  simp only[b0,eE,seval];refine Qa (QLp v.bits hb) rfl rfl rfl (.inl rfl) ?_;simp only[CA,Qb,seval];by_cases hc:YE v.bits=0
  ·simp only[hc,ZE,hk,decide_true,and_self,splice,QP9,QQI,QQc,QQj,QPW,QPX,QPP,QQv,eE,seval]
   try rfl
  ·simp only[hc,ZE,decide_false,and_false,eE,seval]
 ·have b0:(v.kd==6)=false:=by simp[hk]
  simp only[b0,ZE,hk,false_and,eE,seval]

theorem v86 (v:V)(_hb:v.bits<18446744073709551616):Qh Tryz.prog 86 [v.av] v.nsc.av:=by
 rw[G6,Qc];refine k86.fn (by simp) ?_;simp only[eE,seval];by_cases hk:v.kd=6
 ·have b0:(v.kd==6)=true:=by simp[hk]
  simp only[b0,eE,seval];refine Qa (Qtl v.bits) rfl rfl rfl (.inl rfl) ?_;simp only[CA,Qb,seval];by_cases hc:YE v.bits=0
  ·simp only[hc,ZE,hk,decide_true,and_self,splice,QP9,QQI,QQc,QQj,QPW,QPX,QPP,QQv,eE,seval]
   try rfl
  ·simp only[hc,ZE,decide_false,and_false,eE,seval]
 ·have b0:(v.kd==6)=false:=by simp[hk]
  simp only[b0,ZE,hk,false_and,eE,seval]

theorem Ue {x:V}:∀ {l:List V},x∈l→x.cnt≤Zd l
 |y :: l,h=>by
  rw[Zd];rcases QQV.1 h with rfl|h
  ·omega
  ·have:=Ue h;omega
theorem W3 {x:V×V}:∀ {l:List (V×V)},x∈l→x.1.cnt+x.2.cnt≤XM l
 |(a,b) :: l,h=>by
  rw[XM];rcases QQV.1 h with rfl|h
  ·dsimp only;omega
  ·have:=W3 h;omega
theorem BW {x:Int×V}:∀ {l:List (Int×V)},x∈l→x.2.cnt≤Xz l
 |(a,b) :: l,h=>by
  rw[Xz];rcases QQV.1 h with rfl|h
  ·dsimp only;omega
  ·have:=BW h;omega
theorem Zj (v:V):1≤v.cnt:=by rw[Q3];omega
theorem BX:∀l:List V,l.length≤Zd l
 | []=>QPB _
 |x :: l=>by
  have:=Zj x;have:=BX l;simp only[Zd,QPP];omega
theorem BY:∀l:List (V×V),2*l.length≤XM l
 | []=>QPB _
 |(a,b) :: l=>by
  have:=Zj a;have:=Zj b;have:=BY l;simp only[XM,QPP];omega
theorem BZ:∀l:List (Int×V),l.length≤Xz l
 | []=>QPB _
 |(a,b) :: l=>by
  have:=Zj b;have:=BZ l;simp only[Xz,QPP];omega
theorem HX {v x:V}(h:x∈v.list):x.cnt≤v.cnt:=by have:=Ue h;rw[Q3 v];omega
theorem L7 {v:V}{x:V×V}(h:x∈v.pairs):x.1.cnt≤v.cnt:=by have:=W3 h;rw[Q3 v];omega
theorem DC {v:V}{x:V×V}(h:x∈v.pairs):x.2.cnt≤v.cnt:=by have:=W3 h;rw[Q3 v];omega
theorem JL {v:V}{x:Int×V}(h:x∈v.slots):x.2.cnt≤v.cnt:=by have:=BW h;rw[Q3 v];omega
theorem Zn (v:V):v.list.length≤v.cnt:=by have:=BX v.list;rw[Q3 v];omega
theorem Zx (v:V):v.pairs.length≤v.cnt:=by have:=BY v.pairs;rw[Q3 v];omega
theorem Xe (v:V):v.slots.length≤v.cnt:=by have:=BZ v.slots;rw[Q3 v];omega
theorem Zz (v:V):v.raws.length≤v.cnt:=by rw[Q3 v];omega

section
variable {M:Nat}{P:PL}{m:PG→V→Prop}{nm:PG→V→V}(o:PO)(ho:UO P o)

include ho in
theorem QLq (hm:∀(t:Int) (g:PG),P.progs[t.toNat]? = some g→0≤t→∀v:V,v.ok M→v.cnt≤1048576→m g v→Qh Tryz.prog 27 [P.av,.int .i64 t,v.av] (nm g v).av)(v:V)(hv:v.ok M)(hc:v.cnt≤1048576)(he:EW m P o v) :
  Qh Tryz.prog 102 [P.av,Qv o,v.av] (Jc nm P o v).av:=by
 have e0:P.av=.agg [.list (P.progs.map Qp),.list (P.enums.map QW)]:=rfl;unfold Jc;by_cases hk:o.kind=10
 ·have b:(o.kind==10)=true:=by simp[hk]
  have he:=he hk;rw[QP5 hk];obtain⟨t0,t1⟩:=ho.tgt hk;obtain⟨g,hg⟩:∃g,P.progs[o.target.toNat]? = some g:=⟨P.progs[o.target.toNat]'(by omega),QPE (by omega)⟩;have hq:Qn P o.target=g:=by unfold Qn;rw[hg];rfl
  rw[hq]at he ⊢;have h2:=hm o.target g hg t0 v hv hc he;generalize nm g v=z at h2 ⊢;rw[e0,Qc,Qc]at h2;rw[Qc,Qc];refine RD.fn (by simp) ?_;simp only[e0,Qv,PO.cells,b,eE,seval];refine Qa h2 rfl rfl rfl (.inl rfl) ?_;simp only[eE,seval]
 ·have b:(o.kind==10)=false:=by simp[hk]
  rw[QPO hk];have h1:=Sj v (WJ hv);generalize v.nsc=z at h1 ⊢;rw[Qc,Qc]at h1;rw[Qc,Qc];refine RD.fn (by simp) ?_;simp only[e0,Qv,PO.cells,b,eE,seval];refine Qa h1 rfl rfl rfl (.inl rfl) ?_;simp only[eE,seval]

def NlI (P:PL)(o:PO)(l:List V)(F:V→V)(k:Nat)(st:St):Prop :=
 ∃f fr i g,st=⟨f,[fr],[]⟩∧k=l.length-i∧i≤l.length∧f 3=.ptr 0 3 0∧f 4=.ptr 0 4 0∧f 6=.ptr 0 6 0∧f 7=.ptr 0 7 0∧f 19=.list (l.map V.av)∧f 20=.int .i64 (l.length:Nat)∧f 21=.int .i64 (i:Nat)∧fr 3=.cells [.list (P.progs.map Qp),.list (P.enums.map QW)]∧fr 4=.cells o.cells∧fr 6=.cells [.int .i64 0,.int .u64 0,.str [],.nils,.nils,.nils,.nils]∧fr 7=.cells [.int .i64 11,.int .u64 0,.str [],.vec 0 1100 g 0 i false,.nils,.nils,.nils]∧fr 1100=.vec g 7 ((l.take i).map fun x=>(F x).av)∧∀s∈[9],(fr s).isRow=false

def NpI (P:PL)(o:PO)(T:List (V×V))(F:V×V→V×V)(k:Nat)(st:St):Prop :=
 ∃f fr i g,st=⟨f,[fr],[]⟩∧k=T.length-i∧i≤T.length∧f 3=.ptr 0 3 0∧f 4=.ptr 0 4 0∧f 6=.ptr 0 6 0∧f 10=.ptr 0 10 0∧f 41=.list (T.map V.pav)∧f 42=.int .i64 (T.length:Nat)∧f 43=.int .i64 (i:Nat)∧fr 3=.cells [.list (P.progs.map Qp),.list (P.enums.map QW)]∧fr 4=.cells o.cells∧fr 6=.cells [.int .i64 0,.int .u64 0,.str [],.nils,.nils,.nils,.nils]∧fr 10=.cells [.int .i64 12,.int .u64 0,.str [],.nils,.vec 0 1101 g 0 i false,.nils,.nils]∧fr 1101=.vec g 14 ((T.take i).map fun x=>V.pav (F x))∧∀s∈[12],(fr s).isRow=false

theorem AF (l:List V)(F:V→V):(l.map fun x=>(F x).av)=(l.map F).map V.av:=by rw[List.map_map];rfl
theorem PW (l:List (V×V))(F:V×V→V×V):(l.map fun x=>V.pav (F x))=(l.map F).map V.pav:=by rw[List.map_map];rfl

set_option maxHeartbeats 1000000 in
include ho in
theorem v56 (hel:∀v:V,v.ok M→v.cnt≤1048576→EW m P o v→Qh Tryz.prog 102 [P.av,Qv o,v.av] (Jc nm P o v).av)(v:V)(hv:v.ok M)(hc:v.cnt≤1048576)(he:FW m P o v) :
  Qh Tryz.prog 56 [P.av,Qv o,v.av] (JH nm P o v).av:=by
 have e0:P.av=.agg [.list (P.progs.map Qp),.list (P.enums.map QW)]:=rfl;unfold JH;unfold FW at he;by_cases h4:o.card=4
 ·have b4:(o.card==4)=true:=by simp[h4]
  rw[QP5 h4]at he;rw[QP5 h4];have hL:=he;have hlen:=Zn v;rw[Qc v];generalize hF:Jc nm P o=F at hel ⊢;rw[show(V.mk 11 0 [] (v.list.map F) [] [] []).av=.agg [.int .i64 11,.int .u64 0,.str [],.list ((v.list.map F).map V.av),.list [],.list [],.list []]from Qc _];refine SM.fn (by simp) ?_;simp only[e0,Qv,PO.cells,b4,eE,seval];refine JB (by simp only[Qb,seval]<;>rfl) rfl (by simp only[Qb,seval]<;>rfl) rfl ?_;simp only[List.set,QQu,eE,seval];refine Qg (NlI P o v.list F) _ ⟨_,_,0,_,rfl,rfl,QPJ _,(by rfl),(by rfl),(by rfl),(by rfl),(by rfl),(by rfl),(by rfl),(by rfl),(by rfl),(by rfl),(by rfl),(by rfl),by simp<;>rfl⟩ ?_;rintro _ st ⟨f0,fr0,i,g,rfl,rfl,hil,h30,h40,h60,h70,h190,h200,h210,m30,m40,m60,m70,mR0,r9⟩;refine QX (a:=_) [9] r9 ?_;intro f fr hf hm hn9;have h3:f 3=.ptr 0 3 0:=by rw[hf,h30]<;>rfl
  have h4:f 4=.ptr 0 4 0:=by rw[hf,h40]<;>rfl
  have h6:f 6=.ptr 0 6 0:=by rw[hf,h60]<;>rfl
  have h7:f 7=.ptr 0 7 0:=by rw[hf,h70]<;>rfl
  have h19:f 19=.list (v.list.map V.av):=by rw[hf,h190]<;>rfl
  have h20:f 20=.int .i64 (v.list.length:Nat):=by rw[hf,h200]<;>rfl
  have h21:f 21=.int .i64 (i:Nat):=by rw[hf,h210]<;>rfl
  have m3:fr 3=.cells [.list (P.progs.map Qp),.list (P.enums.map QW)]:=by rw[hm 3 (by decide),m30]<;>rfl
  have m4:fr 4=.cells o.cells:=by rw[hm 4 (by decide),m40]<;>rfl
  have m6:fr 6=.cells [.int .i64 0,.int .u64 0,.str [],.nils,.nils,.nils,.nils]:=by rw[hm 6 (by decide),m60]<;>rfl
  have m7:fr 7=.cells [.int .i64 11,.int .u64 0,.str [],.vec 0 1100 g 0 i false,.nils,.nils,.nils]:=by rw[hm 7 (by decide),m70]<;>rfl
  have mR:fr 1100=.vec g 7 ((v.list.take i).map fun x=>(F x).av):=by rw[hm 1100 (by decide),mR0]<;>rfl
  have n9:=hn9 9 (by decide);clear hf hm hn9 h30 h40 h60 h70 h190 h200 h210 m30 m40 m60 m70 mR0 r9;have m4':=m4;simp only[PO.cells]at m4;simp only[h20,h21,Qb,seval];by_cases hlt:i<v.list.length
  ·obtain⟨x,hi⟩:∃x,v.list[i]? = some x:=⟨v.list[i],QPE hlt⟩;have hx:=QPN hi;have hg:=CC hi;have e1:=Qw i _ hlt (by simp only[maxLen];omega);have c1:=hel x (hv.list x hx) (QPC (HX hx) hc) (hL x hx);have hti:((v.list.take i).map fun x=>(F x).av).length=i:=by rw[QQu,QQw];omega
   have hts:(v.list.take (i+1)).map (fun x=>(F x).av)=(v.list.take i).map (fun x=>(F x).av)++[(F x).av]:=by rw[QRm,hi];simp
   generalize F x=z at c1 hts;rw[e0,Qc,Qc z]at c1;simp only[Qv,PO.cells]at c1;simp only[Qr hlt,Qm,QQ2,Qf,hg,n9,h3,h4,h7,h19,h21,m3,m4,m7,eE,seval];refine Qa c1 rfl rfl rfl (.inl rfl) ?_;refine QN (l:=[z.av]) rfl rfl rfl (by rw[Qc];rfl) ?_;refine QF (site:=1100) (g:=g) (n:=i) (xs:=(v.list.take i).map fun x=>(F x).av) (ys:=[z.av]) (by rfl) (by exact mR) rfl hti.symm rfl (HW [z]) (by simp only[QPP,QQv,maxLen];omega) (by simp only[QPP,QQv];omega) ?_;simp only[h7,h21,m7,e1,eE,seval];exact⟨v.list.length-(i+1),by omega,_,_,i+1,g+1,rfl,rfl,by omega,(by exact h3),(by exact h4),(by exact h6),(by exact h7),(by exact h19),(by exact h20),(by rfl),(by exact m3),(by exact m4'),(by exact m6),(by rfl),(by rw[hts];exact(by rfl)),by simp<;>rfl⟩
  ·have e:i=v.list.length:=by omega
   subst e;rw[QRd,AF]at mR;simp only[QO hlt,h6,h7,m6,m7,eE,seval];simp[AV.un,AV.unL,Zp,XD,mR,QQa]
 ·have b4:(o.card==4)=false:=by simp[h4]
  rw[QPO h4];by_cases h5:o.card=5
  ·have b5:(o.card==5)=true:=by simp[h5]
   rw[QPO h4,QP5 h5]at he;rw[QP5 h5];have hE:=he;have hlen:=Zx v;have hk:=ho.key h5;have hkn:=L2 ho.key h5 fun p hp=>(hE.1 p hp).1
   have cp:=QLn hk v.pairs (by omega) (fun p hp=>(hE.1 p hp).1) (fun p hp=>WJ (hv.keys p hp)) hE.2;have hperm:(QV o.key v.pairs).Perm v.pairs:=Q0 _;have hTl:(QV o.key v.pairs).length=v.pairs.length:=hperm.length_eq;have hTm:∀p∈QV o.key v.pairs,p∈v.pairs:=fun p h=>hperm.mem_iff.1 h
   generalize QV o.key v.pairs=T at *;rw[Qc v];generalize hF:(fun p:V×V=>(p.1.nsc,Jc nm P o p.2))=F;rw[show(V.mk 12 0 [] [] (T.map F) [] []).av=.agg [.int .i64 12,.int .u64 0,.str [],.list [],.list ((T.map F).map V.pav),.list [],.list []]from Qc _];refine SM.fn (by simp) ?_;simp only[e0,Qv,PO.cells,b4,b5,eE,seval];refine JB (by simp only[Qb,seval]<;>rfl) rfl (by simp only[Qb,seval]<;>rfl) rfl ?_;simp only[List.set,eE,seval];refine Qa cp rfl rfl rfl (.inl rfl) ?_;simp only[QQu,Qb,seval];refine Qg (NpI P o T F) _ ⟨_,_,0,_,rfl,rfl,QPJ _,(by rfl),(by rfl),(by rfl),(by rfl),(by rfl),(by rfl),(by rfl),(by rfl),(by rfl),(by rfl),(by rfl),(by rfl),by simp<;>rfl⟩ ?_;rintro _ st ⟨f0,fr0,i,g,rfl,rfl,hil,h30,h40,h60,h100,h410,h420,h430,m30,m40,m60,m100,mR0,Uz⟩;refine QX (a:=_) [12] Uz ?_;intro f fr hf hm hn12;have h3:f 3=.ptr 0 3 0:=by rw[hf,h30]<;>rfl
   have h4:f 4=.ptr 0 4 0:=by rw[hf,h40]<;>rfl
   have h6:f 6=.ptr 0 6 0:=by rw[hf,h60]<;>rfl
   have h10:f 10=.ptr 0 10 0:=by rw[hf,h100]<;>rfl
   have h41:f 41=.list (T.map V.pav):=by rw[hf,h410]<;>rfl
   have h42:f 42=.int .i64 (T.length:Nat):=by rw[hf,h420]<;>rfl
   have h43:f 43=.int .i64 (i:Nat):=by rw[hf,h430]<;>rfl
   have m3:fr 3=.cells [.list (P.progs.map Qp),.list (P.enums.map QW)]:=by rw[hm 3 (by decide),m30]<;>rfl
   have m4:fr 4=.cells o.cells:=by rw[hm 4 (by decide),m40]<;>rfl
   have m6:fr 6=.cells [.int .i64 0,.int .u64 0,.str [],.nils,.nils,.nils,.nils]:=by rw[hm 6 (by decide),m60]<;>rfl
   have m10:fr 10=.cells [.int .i64 12,.int .u64 0,.str [],.nils,.vec 0 1101 g 0 i false,.nils,.nils]:=by rw[hm 10 (by decide),m100]<;>rfl
   have mR:fr 1101=.vec g 14 ((T.take i).map fun x=>V.pav (F x)):=by rw[hm 1101 (by decide),mR0]<;>rfl
   have n12:=hn12 12 (by decide);clear hf hm hn12 h30 h40 h60 h100 h410 h420 h430 m30 m40 m60 m100 mR0 Uz;have m4':=m4;simp only[PO.cells]at m4;simp only[h42,h43,Qb,seval];by_cases hlt:i<T.length
   ·obtain⟨x,hi⟩:∃x,T[i]? = some x:=⟨T[i],QPE hlt⟩;have hx:=hTm x (QPN hi);have hg:=JI hi;have e1:=Qw i _ hlt (by simp only[maxLen];omega);have c0:=Sj x.1 (WJ (hv.keys x hx));have c1:=hel x.2 (hv.vals x hx) (QPC (DC hx) hc) (hE.1 x hx).2;have hti:((T.take i).map fun x=>V.pav (F x)).length=i:=by rw[QQu,QQw];omega
    have hFx:F x=(x.1.nsc,Jc nm P o x.2):=by rw[←hF]
    have hts:(T.take (i+1)).map (fun x=>V.pav (F x))=(T.take i).map (fun x=>V.pav (F x))++[V.pav (x.1.nsc,Jc nm P o x.2)]:=by rw[QRm,hi,←hFx];simp
    generalize x.1.nsc=y at c0 hts;generalize Jc nm P o x.2=z at c1 hts;rw[Qc,Qc y]at c0;rw[e0,Qc,Qc z]at c1;simp only[Qv,PO.cells]at c1;simp only[Qr hlt,Qm,QQ2,Qf,hg,n12,h10,h41,h43,m10,eE,seval];refine Qa c0 rfl rfl rfl (.inl rfl) ?_;simp only[QP9,QQc,QQj,h3,h4,m3,m4,eE,seval];refine Qa c1 rfl rfl rfl (.inl rfl) ?_;simp only[eE,seval];refine QN (l:=[V.pav (y,z)]) rfl rfl rfl (by rw[Q7];rfl) ?_;refine QF (site:=1101) (g:=g) (n:=i) (xs:=(T.take i).map fun x=>V.pav (F x)) (ys:=[V.pav (y,z)]) (by rfl) (by exact mR) rfl hti.symm rfl (XQ [(y,z)]) (by simp only[QPP,QQv,maxLen];omega) (by simp only[QPP,QQv];omega) ?_;simp only[h10,h43,m10,e1,eE,seval];exact⟨T.length-(i+1),by omega,_,_,i+1,g+1,rfl,rfl,by omega,(by exact h3),(by exact h4),(by exact h6),(by exact h10),(by exact h41),(by exact h42),(by rfl),(by exact m3),(by exact m4'),(by exact m6),(by rfl),(by rw[hts];exact(by rfl)),by simp<;>rfl⟩
   ·have e:i=T.length:=by omega
    subst e;rw[QRd,PW]at mR;simp only[QO hlt,h6,h10,m6,m10,eE,seval];simp[AV.un,AV.unL,Zp,XD,mR,QQa]
  ·have b5:(o.card==5)=false:=by simp[h5]
   rw[QPO h4,QPO h5]at he;rw[QPO h5];have c1:=hel v hv hc he;generalize Jc nm P o v=z at c1 ⊢;rw[e0,Qc v,Qc z]at c1;simp only[Qv,PO.cells]at c1;rw[Qc v,Qc z];refine SM.fn (by simp) ?_;simp only[e0,Qv,PO.cells,b4,b5,eE,seval];refine Qa c1 rfl rfl rfl (.inl rfl) ?_;simp only[eE,seval]

end
open Vp Cp

theorem QZ (k:Int)(b:Nat)(t:List UInt8):(Qs k b t).cnt=1:=by unfold Qs;rw[Q3];rfl
theorem Xt {M:Nat}{k:Int}{b:Nat}{t:List UInt8}(hk:(Lit.int .i64 k).wf=true)(hb:b<18446744073709551616)(ht:t.length≤M):(Qs k b t).ok M :=
 .mk hk (by simp[Qs,V.bits,Lit.wf,IntKind.min,IntKind.max,IntKind.bits,IntKind.signed];omega) ht (QPJ _) (QPJ _) (QPJ _) (QPJ _) (fun _ hx=>nomatch hx) (fun _ hx=>nomatch hx) (fun _ hx=>nomatch hx) (fun _ hx=>nomatch hx) (fun _ hx=>nomatch hx) (fun _ hx=>nomatch hx)
theorem ZW {k:Int}(h : -9223372036854775808≤k)(h':k<9223372036854775808):(Lit.int .i64 k).wf=true:=by
 simp[Lit.wf,IntKind.min,IntKind.max,IntKind.bits,IntKind.signed];omega

theorem Xg {v:V}{n:Int}{x:V}(h:Xk v n=some x):(n,x)∈v.slots∧QL v n=x:=by
 unfold Xk at h;cases hf:v.slots.find? (fun s=>s.1==n)with
 |none=>rw[hf]at h;cases h
 |some s=>
  rw[hf]at h;cases h;have h1:=QRw hf;have h2:s.1=n:=by simpa using List.find?_some hf
  refine⟨?_,by unfold QL Xk;rw[hf];rfl⟩;rw[←h2];exact h1
theorem Zo {v:V}{n:Int}(h:¬(Xk v n).isSome=true):QL v n=Qs 0 0 []:=by
 unfold QL;cases hf:Xk v n with
 |none=>rfl
 |some x=>rw[hf]at h;simp at h

theorem Yv (p:Int×V→Bool):∀l:List (Int×V),Xz (l.filter p)≤Xz l
 | []=>QPB _
 |(n,x) :: l=>by
  have:=Yv p l;rw[QRb];split<;>simp only[Xz]<;>omega
theorem D8 {p:Int×V→Bool}{s:Int×V}(hp:p s=false):∀ {l:List (Int×V)},s∈l→Xz (l.filter p)+s.2.cnt≤Xz l
 |(n,x) :: l,h=>by
  have hf:=Yv p l;rcases QQV.1 h with rfl|h
  ·rw[QRb,hp];simp only[QPT,if_false,Xz];omega
  ·have ih:=D8 hp h;rw[QRb];split<;>simp only[Xz]<;>omega
theorem PX (g:PG)(o:PO)(x:V):Xv g o (o.num,x)=true:=by unfold Xv;simp
theorem JM (g:PG)(v:V)(o:PO)(x:V):(Xi g v o x).cnt≤v.cnt+x.cnt:=by
 have:=Yv (fun s=>!Xv g o s) v.slots;rw[Q3 v,Q3 (Xi g v o x)];show 1+v.raws.length+0+0+Xz (v.slots.filter (fun s=>!Xv g o s)++[(o.num,x)])≤_;rw[HS];simp only[Xz];omega
theorem Yl (g:PG)(v:V)(o:PO)(x:V){y:V}(h:Xk v o.num=some y):(Xi g v o x).cnt+y.cnt≤v.cnt+x.cnt:=by
 have:=D8 (p:=fun s=>!Xv g o s) (s:=(o.num,y)) (by rw[PX];rfl) (Xg h).1;rw[Q3 v,Q3 (Xi g v o x)];show 1+v.raws.length+0+0+Xz (v.slots.filter (fun s=>!Xv g o s)++[(o.num,x)])+_≤_;rw[HS];simp only[Xz];dsimp only at this;omega
theorem Hd (v:V)(f:R):(Wh v f).cnt=v.cnt+1:=by
 rw[Q3 v,Q3 (Wh v f)];show 1+(v.raws++[f]).length+Zd v.list+XM v.pairs+Xz v.slots=_;rw[QQe];simp only[QPP,QQv];omega
theorem Ki (l:List V):(Q8 l).cnt=1+Zd l:=by unfold Q8;rw[Q3];show 1+0+Zd l+0+0=_;omega
theorem B0 (l:List (V×V)):(Z7 l).cnt=1+XM l:=by unfold Z7;rw[Q3];show 1+0+0+XM l+0=_;omega
theorem WG (l:List V)(x:V):Zd (l++[x])=Zd l+x.cnt:=by
 induction l with
 |nil=>simp[Zd]
 |cons y l ih=>simp only[QPW,Zd,ih];omega
theorem CY (l:List (V×V))(x:V×V):XM (l++[x])=XM l+x.1.cnt+x.2.cnt:=by
 induction l with
 |nil=>obtain⟨a,b⟩:=x;simp[XM]
 |cons y l ih=>obtain⟨a,b⟩:=y;simp only[QPW,XM,ih];omega
theorem Hv (p:V×V→Bool):∀l:List (V×V),XM (l.filter p)≤XM l
 | []=>QPB _
 |(a,b) :: l=>by
  have:=Hv p l;rw[QRb];split<;>simp only[XM]<;>omega
theorem Sk (k:Int)(l:List (V×V))(x:V×V):XM (XA k l x)≤XM l+x.1.cnt+x.2.cnt:=by
 unfold XA;have hp:(QV k ((l.filter fun q=>!Q2 q.1 x.1)++[x])).Perm _:=Q0 _;rw[DZ hp,CY];have:=Hv (fun q=>!Q2 q.1 x.1) l;omega
theorem B1 {k:Int}{l:List (V×V)}{x p:V×V}(h:p∈XA k l x):(p∈l∧Q2 p.1 x.1=false)∨p=x:=by
 have hp:(XA k l x).Perm _:=Q0 _;have h:=hp.mem_iff.1 h;rw[QQS,QQ7]at h;rcases h with⟨h1,h2⟩|h
 ·exact .inl ⟨h1,by simpa using h2⟩
 ·exact .inr (by simpa using h)
theorem W4 (a b:V):Q2 a b=Q2 b a:=by
 unfold Q2;rw[Bool.beq_comm (a:=a.bits),Bool.beq_comm (a:=a.text)]
theorem Vt {k:Int}{l:List (V×V)}{x:V×V}(h:l.Pairwise fun q p=>Q2 q.1 p.1=false):(XA k l x).Pairwise fun q p=>Q2 q.1 p.1=false:=by
 have hp:(XA k l x).Perm _:=Q0 _;refine(hp.pairwise_iff fun {a b} h=>by rw[W4];exact h).2 ?_;rw[QRa];refine⟨h.filter _,QRy _ _,?_⟩;intro a ha b hb;rw[QRx]at hb;subst hb
 simpa using (QQ7.1 ha).2
theorem Sl (k:Int)(l:List (V×V))(x:V×V):(XA k l x).length≤l.length+1:=by
 have hp:(XA k l x).Perm _:=Q0 _;rw[hp.length_eq,QQe];have:=List.length_filter_le (fun q=>!Q2 q.1 x.1) l;simp only[QPP,QQv];omega

section
variable {M:Nat}
theorem WK {l:List V}(h:∀x∈l,x.ok M)(hn:l.length≤1099511627776):(Q8 l).ok M :=
 .mk rfl rfl (QPJ _) hn (QPJ _) (QPJ _) (QPJ _) h (fun _ hx=>nomatch hx) (fun _ hx=>nomatch hx) (fun _ hx=>nomatch hx) (fun _ hx=>nomatch hx) (fun _ hx=>nomatch hx)
theorem L8 {l:List (V×V)}(h:∀x∈l,x.1.ok M∧x.2.ok M)(hn:l.length≤549755813888):(Z7 l).ok M :=
 .mk rfl rfl (QPJ _) (QPJ _) hn (QPJ _) (QPJ _) (fun _ hx=>nomatch hx) (fun x hx=>(h x hx).1) (fun x hx=>(h x hx).2) (fun _ hx=>nomatch hx) (fun _ hx=>nomatch hx) (fun _ hx=>nomatch hx)
theorem Jr {g:PG}{v x:V}{o:PO}(hv:v.ok M)(ho:(Lit.int .i64 o.num).wf=true)(hx:x.ok M)(hn:v.slots.length+1≤1099511627776):(Xi g v o x).ok M:=by
 have hl:=List.length_filter_le (fun s=>!Xv g o s) v.slots;have key:∀s∈v.slots.filter (fun s=>!Xv g o s)++[(o.num,x)],(Lit.int .i64 s.1).wf=true∧s.2.ok M:=by
  intro s hs;rcases QQS.1 hs with hs|hs
  ·have:=(QQ7.1 hs).1;exact⟨hv.nums s this,hv.slots s this⟩
  ·rw[QRx]at hs;subst hs;exact⟨ho,hx⟩
 refine .mk rfl rfl (QPJ _) (QPJ _) (QPJ _) ?_ hv.nr (fun _ hx=>nomatch hx) (fun _ hx=>nomatch hx) (fun _ hx=>nomatch hx) (fun s hs=>(key s hs).1) (fun s hs=>(key s hs).2) hv.raws;show(v.slots.filter (fun s=>!Xv g o s)++[(o.num,x)]).length≤_;rw[QQe];simp only[QPP,QQv];omega
theorem G7 {v:V}{f:R}(hv:v.ok M)(hf:f.ok M)(hn:v.raws.length+1≤70368744177664):(Wh v f).ok M:=by
 refine .mk hv.kd hv.bits hv.text hv.nl hv.np hv.ns ?_ hv.list hv.keys hv.vals hv.nums hv.slots ?_
 ·show(v.raws++[f]).length≤_;rw[QQe];exact hn
 ·intro x hx;rcases QQS.1 hx with hx|hx
  ·exact hv.raws x hx
  ·rw[QRx]at hx;subst hx;exact hf
theorem W5 {v:V}{n:Int}(hv:v.ok M):(QL v n).ok M:=by
 unfold QL;cases h:Xk v n with
 |none=>exact Xt rfl (by decide) (QPJ _)
 |some x=>exact hv.slots _ (Xg h).1
end

theorem G8 {P:PL}{g:PG}{v:V}{f:R}:∀ {n:Nat},MW P n g v→MW P n g (Wh v f)
 |_+1,h=>h
theorem Js {P:PL}{g:PG}{v x:V}{o:PO}{n:Nat}(h:MW P (n+1) g v)(ho:XL g o.num=some o)(hx:FW (MW P n) P o x):MW P (n+1) g (Xi g v o x):=by
 obtain⟨s1,s2⟩:=h;refine⟨?_,?_⟩
 ·intro s hs;rcases QQS.1 hs with hs|hs
  ·exact s1 s (QQ7.1 hs).1
  ·rw[QRx]at hs;subst hs;exact⟨o,ho,hx⟩
 ·show(v.slots.filter (fun s=>!Xv g o s)++[(o.num,x)]).Pairwise _;rw[QRa];refine⟨s2.filter _,QRy _ _,?_⟩;intro a ha b hb;rw[QRx]at hb;subst hb;have h1:=(QQ7.1 ha).2;unfold Xv at h1;simp only[Bool.not_or,QPY,QQx]at h1;exact h1.1
theorem W6 {P:PL}{g:PG}{v x:V}{o:PO}{n:Nat}(h:MW P (n+1) g v)(ho:XL g o.num=some o)(hx:Xk v o.num=some x):FW (MW P n) P o x:=by
 obtain⟨o',h1,h2⟩:=h.1 _ (Xg hx).1;rw[show((o.num,x):Int×V).1=o.num from rfl,ho]at h1;cases h1;exact h2
theorem Xn {P:PL}{g:PG}{k:Int}{n:Nat}(hn:1≤n):MW P n g (Qs k 0 []):=by
 obtain⟨m,rfl⟩:∃m,n=m+1:=⟨n-1,by omega⟩;exact⟨fun _ hs=>(nomatch hs),.nil⟩

theorem PY {M:Nat}{P:PL}{k t:Int}{f:R}(hM:3000≤M)(hb:f.bits<18446744073709551616)(hd:f.data.length≤3000)(h:(Xb P k t f).2=0):(Xb P k t f).1.ok M∧(Xb P k t f).1.cnt=1∧k≠10∧(Xr k→(Xb P k t f).1.one P k (-1)=0):=by
 unfold Xb at h ⊢;split at h
 ·rename_i hk;have hkk:1≤k∧k≤9:=by
   unfold isk at hk
   simpa using hk
  have hkw:(Lit.int .i64 k).wf=true:=ZW (by omega) (by omega);rw[QP5 hk];split at h
  ·rename_i hw;rw[QP5 hw];split at h
   ·rename_i h3;rw[QP5 h3];split at h
    ·cases h
    ·rename_i h7;rw[QPO h7];refine⟨Xt hkw (by decide) (by omega),QZ _ _ _,by omega,fun hky=>?_⟩;have e7:k=7:=by
      unfold Xr at hky;rw[hw]at h3;unfold wk at h3;split at h3
      ·omega
      ·split at h3
       ·omega
       ·split at h3
        ·omega
        ·split at h3<;>omega
     subst e7;have hv:YD f.data=true:=by
      cases hv:YD f.data
      ·exact absurd ⟨rfl,hv⟩ h7
      ·rfl
     have d1:decide ((f.data.length:Int) > 4096)=false:=QRo (by omega);have d2:decide ((f.data.length:Int)≤4096)=true:=QRs (by omega);have ho:oth 7 0 f.data [] [] [] []=false:=by simp[oth,XZ]
     show HQ P 7 (-1) 7 0 f.data [] [] [] []=0;unfold HQ ZI;rw[ho,d1,d2,hv];rfl
   ·rename_i h3;rw[QPO h3];split at h
    ·rename_i hfit;rw[QP5 hfit];split at h
     ·cases h
     ·rename_i h9;rw[QPO h9];have hwb:Xu f.wire f.bits<18446744073709551616:=by
       unfold Xu;split
       ·rw[XY];omega
       ·exact hb
      have hnb:ZE k (Xu f.wire f.bits)<18446744073709551616:=by
       unfold ZE;split
       ·decide
       ·exact hwb
      refine⟨Xt hkw hnb (QPJ _),QZ _ _ _,by omega,fun hky=>?_⟩;have h5:1≤k∧k≤5:=by
       unfold Xr at hky;rcases hky with h|h
       ·exact h
       ·exfalso;rw[hw,h]at h3;exact h3 (by decide)
      have e6:ZE k (Xu f.wire f.bits)=Xu f.wire f.bits:=by
       unfold ZE;rw[QPO (by omega)]
      rw[e6];generalize Xu f.wire f.bits=B at hfit;show HQ P k (-1) k B [] [] [] [] []=0;unfold HQ ZI;rw[hk,hfit];have ho:oth k B [] [] [] [] []=false:=by
       rcases(by omega:k=1∨k=2∨k=3∨k=4∨k=5)with rfl|rfl|rfl|rfl|rfl<;>simp[oth,XZ]
      rw[ho];have k7:(k==7)=false:=by simp;omega
      have k9:(k==9)=false:=by simp;omega
      have k7':(k != 7)=true:=by simp;omega
      have tx:XZ k=false:=by unfold XZ;simp;omega
      rw[k7,k9,k7',tx];simp[Wt]
    ·cases h
  ·cases h
 ·cases h

def KH (P:PL)(M K n:Nat)(rec:Int→V→C→Rd V):Prop :=
 ∀(t:Int) (v:V) (c:C),CI c→c.left<n→(0≤t∧t<(P.progs.length:Int))→MW P n (Qn P t) v→v.ok M→(v.cnt:Int)+3*c.left≤K→
  ∀w d,rec t v c=.ok (w,d)→Af c d∧MW P n (Qn P t) w∧w.ok M∧(w.cnt:Int)+3*d.left≤v.cnt+3*c.left

structure OpK (P:PL)(g:PG)(o:PO):Prop where
 self:XL g o.num=some o
 wf:(Lit.int .i64 o.num).wf=true
 uo:UO P o

section
variable {P:PL}{M K n:Nat}(hM:3000≤M)(hK:K≤1000000){g:PG}{o:PO}(ho:OpK P g o)

include hM hK ho in
theorem He {v w:V}{c d:C}(hc:CI c)(hv:MW P (n+1) g v)(hk:v.ok M)(hb:(v.cnt:Int)+3*c.left≤K)(h5:o.card≠5)(h:WY P g v o c=.ok (w,d)) :
  As c d∧MW P (n+1) g w∧w.ok M∧(w.cnt:Int)+3*d.left≤v.cnt+3*c.left:=by
 have ls:=Xe v;have lr:=Zz v;have hcb:=hc.bd;unfold WY at h;split at h
 ·cases h
 rename_i c1 h1;obtain⟨a1,_⟩:=XV hc (by omega) h1;have hc1:=a1.ci hc;split at h
 ·cases h
 rename_i f d1 h2;obtain⟨b1,b2,b3,b4⟩:=WZ hc1 h2;have hs:=a1.strict b1 hc;have hd1:=hs.ci hc;have hl:=hs.lt hc;split at h
 ·cases h;have hr:(⟨o.num,0,f.bits,[]⟩:R).ok M:=⟨ho.wf,rfl,by simp[Lit.wf,IntKind.min,IntKind.max,IntKind.bits,IntKind.signed];omega,QPJ _⟩;exact⟨hs,G8 hv,G7 hk hr (by omega),by rw[Hd];omega⟩
 split at h
 ·rename_i h0;obtain⟨s1,s2,s3,_⟩:=PY (P:=P) (t:=o.target) hM b3 b4 h0;have hew:∀y,EW (MW P n) P o y:=fun y e=>absurd e s3
  generalize (Xb P o.kind o.target f).1=x at h s1 s2;split at h
  ·rename_i h4;have hfw:FW (MW P n) P o (Q8 ((QL v o.num).list++[x])):=by
    unfold FW;rw[QP5 h4];exact fun y _=>hew y
   have hol:=W5 (n:=o.num) hk;have hll:=Zn (QL v o.num);split at h
   ·rename_i hf;cases h;obtain⟨y,hy⟩:=QP0.1 hf;obtain⟨hm,he⟩:=Xg hy;have hyc:=JL hm;dsimp only at hyc;have e1:=Yl g v o (Q8 ((QL v o.num).list++[x])) hy;rw[Ki,WG,s2]at e1;have e2:Zd (QL v o.num).list+1≤y.cnt:=by rw[he,Q3 y];omega
    rw[he]at hll;refine⟨hs,Js hv ho.self hfw,Jr hk ho.wf (WK ?_ ?_) (by omega),by omega⟩
    ·intro z hz;rcases QQS.1 hz with hz|hz
     ·exact hol.list z hz
     ·rw[QRx]at hz;subst hz;exact s1
    ·rw[QQe,he];simp only[QPP,QQv];omega
   ·rename_i hf;split at h
    ·cases h
    rename_i d2 h6;cases h;obtain⟨c2,_⟩:=XV hd1 (by omega) h6;have hl2:=(c2.left hd1).2.2;rw[Zo hf];rw[Zo hf]at hfw;have e1:=JM g v o (Q8 ((Qs 0 0 []).list++[x]));rw[Ki,WG,s2]at e1;have e0:Zd (Qs 0 0 []).list=0:=rfl;refine⟨hs.trans c2 hc,Js hv ho.self hfw,Jr hk ho.wf (WK ?_ (show 1≤1099511627776 by decide)) (by omega),by omega⟩;intro z hz;rcases QQS.1 hz with hz|hz
    ·cases hz
    ·rw[QRx]at hz;subst hz;exact s1
  ·rename_i h4;cases h;have hfw:FW (MW P n) P o x:=by
    unfold FW;rw[QPO h4,QPO h5];exact hew x
   have e1:=JM g v o x;rw[s2]at e1;exact⟨hs,Js hv ho.self hfw,Jr hk ho.wf s1 (by omega),by omega⟩
 ·cases h

include hM hK ho in
theorem B2 (h5:o.card≠5):∀(k:Nat) {v w:V} {c d:C},CI c→MW P (n+1) g v→v.ok M→(v.cnt:Int)+3*c.left≤K→K7 P g o k v c=.ok (w,d)→
  Af c d∧MW P (n+1) g w∧w.ok M∧(w.cnt:Int)+3*d.left≤v.cnt+3*c.left
 |0,v,w,c,d,hc,hv,hk,hb,h=>by
  cases h;exact⟨Af.refl hc,hv,hk,Int.le_refl _⟩
 |k+1,v,w,c,d,hc,hv,hk,hb,h=>by
  rw[K7]at h;split at h
  ·split at h
   ·cases h
   rename_i v1 c1 h1;obtain⟨a1,a2,a3,a4⟩:=He hM hK ho hc hv hk hb h5 h1;obtain⟨b1,b2,b3,b4⟩:=B2 h5 k (a1.ci hc) a2 a3 (by omega) h;exact⟨a1.1.trans b1 hc,b2,b3,by omega⟩
  ·cases h;exact⟨Af.refl hc,hv,hk,Int.le_refl _⟩

include hM hK ho in
theorem D9 {v w:V}{c d e:C}{q:Nat}(hc:CI c)(hq:(q:Int)≤c.left)(hd:Af (part c q) d)(hv:MW P (n+1) g v)(hk:v.ok M)(hb:(v.cnt:Int)+3*d.left≤K)(h5:o.card≠5)(h:Wi P g v o c d=.ok (w,e)) :
  Af c e∧e.left=c.left-q∧MW P (n+1) g w∧w.ok M∧(w.cnt:Int)≤v.cnt+3*d.left:=by
 unfold Wi at h;split at h
 ·cases h
 rename_i v1 j h1;cases h;have hp:=Kq hc hq;obtain⟨a1,a2,a3,a4⟩:=B2 hM hK ho h5 _ (hd.ci hp.2.1) hv hk hb h1;obtain⟨b1,b2⟩:=D7 hc hq (hd.trans a1 hp.2.1);have:=((a1.ci (hd.ci hp.2.1))).bd;exact⟨b1,b2,a2,a3,by omega⟩

include hM hK ho in
theorem Sm {v w:V}{c d:C}(hc:CI c)(hv:MW P (n+1) g v)(hk:v.ok M)(hb:(v.cnt:Int)+3*c.left≤K)(hp:pk o.card o.kind=true)(h:Yj P g v o c=.ok (w,d)) :
  As c d∧MW P (n+1) g w∧w.ok M∧(w.cnt:Int)+3*d.left≤v.cnt+3*c.left:=by
 have ls:=Xe v;have hcb:=hc.bd;have h4:o.card=4:=by
  unfold pk at hp;simp only[QPY,QP1]at hp;exact hp.1
 have hk10:o.kind≠10:=by
  unfold pk at hp;simp only[QPY,QQz,QP1,QQW]at hp;omega
 unfold Yj at h;split at h
 ·cases h
 rename_i q c1 h1;obtain⟨a1,a2⟩:=Jn hc h1;have hc1:=a1.ci hc;obtain⟨_,p2,p3⟩:=Kq hc1 a2;have hl1:=a1.lt hc;have hc1b:=hc1.bd;split at h
 ·rename_i hy;obtain⟨y1,_⟩:=DA p2 hy;have hly:=y1.lt p2;split at h
  ·split at h
   ·obtain⟨b1,b2,b3,b4,b5⟩:=D9 hM hK ho hc1 a2 y1.1 hv hk (by omega) (by omega) h;exact⟨a1.trans b1 hc,b3,b4,by omega⟩
   ·split at h
    ·cases h
    rename_i i h2;obtain⟨s1,_⟩:=XV (y1.ci p2) (by omega) h2;have hls:=(s1.left (y1.ci p2)).2.2;have hfw:FW (MW P n) P o (Q8 []):=by
     unfold FW;rw[QP5 h4];exact fun y hy=>(nomatch hy)
    have e1:=JM g v o (Q8 []);rw[Ki]at e1;simp only[Zd]at e1;obtain⟨b1,b2,b3,b4,b5⟩:=D9 hM hK ho hc1 a2 (y1.1.trans s1 p2) (Js hv ho.self hfw) (Jr hk ho.wf (WK (fun y hy=>(nomatch hy)) (QPJ _)) (by omega)) (by omega) (by omega) h;exact⟨a1.trans b1 hc,b3,b4,by omega⟩
  ·cases h
 ·cases h

variable {rec:Int→V→C→Rd V}(hrec:KH P M K n rec)

include hrec in
theorem G9 {t:Int}(ht:0≤t∧t<(P.progs.length:Int)){b w:V}{k:Int}(hk0:0≤k){c d:C}(hc:CI c)(hcn:c.left≤n)(hv:1≤n→MW P n (Qn P t) b)(hk:b.ok M)(hb:(b.cnt:Int)+3*c.left≤K)(h:Je rec t b k c=.ok (w,d)) :
  As c d∧MW P n (Qn P t) w∧w.ok M∧(w.cnt:Int)+3*d.left+3≤b.cnt+3*c.left:=by
 unfold Je at h;split at h
 ·cases h
 rename_i q c1 h1;obtain⟨a1,a2⟩:=Jn hc h1;have hc1:=a1.ci hc;have hl1:=a1.lt hc;have hc1b:=hc1.bd;split at h
 ·rename_i he;obtain⟨e1,e2,e3⟩:=HV hc1 a2 he;split at h
  ·cases h
  rename_i i h2;obtain⟨s1,s2⟩:=XV e2 hk0 h2;have hls:=(s1.left e2).2.2;split at h
  ·cases h
  rename_i x j h3;cases h;have hi:=s1.ci e2;have hib:=hi.bd;obtain⟨r1,r2,r3,r4⟩:=hrec t b i hi (by omega) ht (hv (by omega)) hk (by omega) _ _ h3;have hje:i.e=c1.a+q∧i.nd≤c1.nd:=by
   obtain⟨_,f2,_⟩:=s1.eqs;have f3:=s1.nd;rw[e1]at f2 f3;exact⟨f2,f3.2⟩
  obtain⟨l1,l2⟩:=Sd hc1 a2 hje r1;have hjb:=(r1.ci hi).bd;exact⟨a1.trans l1 hc,r2,r3,by omega⟩
 ·cases h

include hK ho hrec in
theorem Sn {v w:V}{c d:C}(hc:CI c)(hcn:c.left≤n)(hv:MW P (n+1) g v)(hk:v.ok M)(hb:(v.cnt:Int)+3*c.left≤K)(h5:o.card≠5)(h10:o.kind=10)(h:Jx rec g v o c=.ok (w,d))(hpos:(1:Int)+3*c.left≤K) :
  As c d∧MW P (n+1) g w∧w.ok M∧(w.cnt:Int)+3*d.left≤v.cnt+3*c.left:=by
 have ls:=Xe v;have hcb:=hc.bd;have ht:=ho.uo.tgt h10;have hem:(Qs 10 0 []:V).ok M:=Xt rfl (by decide) (QPJ _);have hol:=W5 (n:=o.num) hk;have hll:=Zn (QL v o.num);unfold Jx at h;split at h
 ·rename_i h4;split at h
  ·cases h
  rename_i x c1 h1;cases h;obtain⟨r1,r2,r3,r4⟩:=G9 hrec ht (by split<;>omega) hc hcn (fun hn=>Xn hn) hem (by rw[QZ];omega) h1;rw[QZ]at r4;have hlc:=r1.lt hc;have hc1b:=(r1.ci hc).bd;have hfw:FW (MW P n) P o (Q8 ((QL v o.num).list++[x])):=by
   unfold FW;rw[QP5 h4];intro y hy;rcases QQS.1 hy with hy|hy
   ·cases hf:Xk v o.num with
    |none=>
     rw[Zo (by rw[hf];simp)]at hy;cases hy
    |some z=>
     have h1:=W6 hv ho.self hf;unfold FW at h1;rw[QP5 h4]at h1;rw[(Xg hf).2]at hy;exact h1 y hy
   ·rw[QRx]at hy;subst hy;exact fun _=>r2
  have hlok:(Q8 ((QL v o.num).list++[x])).ok M:=by
   refine WK ?_ ?_
   ·intro z hz;rcases QQS.1 hz with hz|hz
    ·exact hol.list z hz
    ·rw[QRx]at hz;subst hz;exact r3
   ·have:=hol.nl;rw[QQe];have hoc:(QL v o.num).cnt≤v.cnt+1:=by
     cases hf:Xk v o.num with
     |none=>rw[Zo (by rw[hf];simp),QZ];omega
     |some z=>
      have:=JL (Xg hf).1;rw[(Xg hf).2];dsimp only at this;omega
    simp only[QPP,QQv];omega
  refine⟨r1,Js hv ho.self hfw,Jr hk ho.wf hlok (by omega),?_⟩;cases hf:Xk v o.num with
  |none=>
   have e1:=JM g v o (Q8 ((QL v o.num).list++[x]));rw[Ki,WG]at e1;have e0:Zd (QL v o.num).list=0:=by rw[Zo (by rw[hf];simp)];rfl
   omega
  |some z=>
   have e1:=Yl g v o (Q8 ((QL v o.num).list++[x])) hf;rw[Ki,WG]at e1;have e2:Zd (QL v o.num).list+1≤z.cnt:=by rw[(Xg hf).2,Q3 z];omega
   omega
 ·rename_i h4;split at h
  ·cases h
  rename_i x c1 h1;cases h;cases hf:Xk v o.num with
  |none=>
   rw[hf,QPO (by simp)]at h1;obtain⟨r1,r2,r3,r4⟩:=G9 hrec ht (by omega) hc hcn (fun hn=>Xn hn) hem (by rw[QZ];omega) h1;rw[QZ]at r4;have hfw:FW (MW P n) P o x:=by
    unfold FW;rw[QPO h4,QPO h5];exact fun _=>r2
   have e1:=JM g v o x;exact⟨r1,Js hv ho.self hfw,Jr hk ho.wf r3 (by omega),by omega⟩
  |some z=>
   rw[hf,QP5 (show(some z).isSome=true from rfl),(Xg hf).2]at h1;have hz:=JL (Xg hf).1;dsimp only at hz;have h2:=W6 hv ho.self hf;unfold FW at h2;rw[QPO h4,QPO h5]at h2;obtain⟨r1,r2,r3,r4⟩:=G9 hrec ht (by omega) hc hcn (fun _=>h2 h10) (hk.slots _ (Xg hf).1) (by omega) h1;have hfw:FW (MW P n) P o x:=by
    unfold FW;rw[QPO h4,QPO h5];exact fun _=>r2
   have e1:=Yl g v o x hf;exact⟨r1,Js hv ho.self hfw,Jr hk ho.wf r3 (by omega),by omega⟩

include hM hrec in
theorem JN {k t wr:Int}(ht:k=10→0≤t∧t<(P.progs.length:Int)){y:V}{c d:C}(hc:CI c)(hcn:c.left≤n)(hb:(1:Int)+3*c.left≤K)(h:ZG P rec k t wr c=.ok (y,d)) :
  As c d∧y.ok M∧(y.cnt:Int)+3*d.left+2≤3*c.left∧(k=10→MW P n (Qn P t) y)∧(Xr k→y.one P k (-1)=0):=by
 unfold ZG at h;split at h
 ·split at h
  ·rename_i hk;obtain⟨r1,r2,r3,r4⟩:=G9 hrec (ht hk) (Int.le_refl 0) hc hcn (fun hn=>Xn hn) (Xt rfl (by decide) (QPJ _)) (by rw[QZ];omega) h;rw[QZ]at r4;exact⟨r1,r3,by omega,fun _=>r2,fun hy=>by unfold Xr at hy;omega⟩
  ·rename_i hk;split at h
   ·cases h
   rename_i f c1 h1;obtain⟨b1,b2,b3,b4⟩:=WZ hc h1;have hl:=b1.lt hc;split at h
   ·rename_i h0;cases h;obtain⟨s1,s2,s3,s4⟩:=PY (P:=P) (t:=t) hM b3 b4 h0;exact⟨b1,s1,by omega,fun e=>absurd e hk,s4⟩
   ·cases h
 ·cases h

structure XI (P:PL)(M n:Nat)(o:PO)(x:V×V):Prop where
 ky:x.1.ok M
 vl:x.2.ok M
 one:x.1.one P o.key (-1)=0
 ew:1≤n→EW (MW P n) P o x.2

include hM ho hrec in
theorem K4 (h5:o.card=5):∀(k:Nat) {x y:V×V} {a b:Bool} {c d:C},CI c→c.left≤n→(1:Int)+3*c.left≤K→XI P M n o x→Jj P rec o k x a b c=.ok (y,d)→
  Af c d∧XI P M n o y∧(y.1.cnt:Int)+y.2.cnt+3*d.left≤x.1.cnt+x.2.cnt+3*c.left
 |0,x,y,a,b,c,d,hc,hcn,hb,hx,h=>by
  cases h;exact⟨Af.refl hc,hx,Int.le_refl _⟩
 |k+1,x,y,a,b,c,d,hc,hcn,hb,hx,h=>by
  have hky:=ho.uo.key h5;have hk10:o.key≠10:=by unfold Xr at hky;omega
  rw[Jj]at h;split at h
  ·split at h
   ·rename_i htg;obtain⟨t1,_⟩:=Wj hc htg;have hl:=t1.lt hc;have hct:=t1.ci hc;split at h
    ·split at h
     ·cases h
     split at h
     ·cases h
     rename_i z c1 h1;obtain⟨r1,r2,r3,r4,r5⟩:=JN hM hrec (fun e=>absurd e hk10) hct (by omega) (by omega) h1;have hl1:=r1.lt hct;obtain⟨q1,q2,q3⟩:=K4 h5 k (x:=(z,x.2)) (r1.ci hct) (by omega) (by omega) ⟨r2,hx.vl,r5 hky,hx.ew⟩ h;have:=Zj x.1;refine⟨(t1.1.trans r1.1 hc).trans q1 hc,q2,?_⟩;dsimp only at q3;omega
    ·split at h
     ·split at h
      ·cases h
      split at h
      ·cases h
      rename_i z c1 h1;obtain⟨r1,r2,r3,r4,r5⟩:=JN hM hrec ho.uo.tgt hct (by omega) (by omega) h1;have hl1:=r1.lt hct;obtain⟨q1,q2,q3⟩:=K4 h5 k (x:=(x.1,z)) (r1.ci hct) (by omega) (by omega) ⟨hx.ky,r2,hx.one,fun _ e=>r4 e⟩ h;have:=Zj x.2;refine⟨(t1.1.trans r1.1 hc).trans q1 hc,q2,?_⟩;dsimp only at q3;omega
     ·cases h
   ·cases h
  ·cases h;exact⟨Af.refl hc,hx,Int.le_refl _⟩

theorem HY {k:Int}(hk:Xr k):(Qs k 0 []).one P k (-1)=0:=by
 unfold Xr at hk;show HQ P k (-1) k 0 [] [] [] [] []=0;rcases(by omega:k=1∨k=2∨k=3∨k=4∨k=5∨k=7)with rfl|rfl|rfl|rfl|rfl|rfl<;>rfl

include hM hK ho hrec in
theorem PZ (h5:o.card=5)(hkd:(Lit.int .i64 o.kind).wf=true){v w:V}{c d:C}(hc:CI c)(hcn:c.left≤n)(hv:MW P (n+1) g v)(hk:v.ok M)(hb:(v.cnt:Int)+3*c.left+3≤K)(h:Jm P rec g v o c=.ok (w,d)) :
  As c d∧MW P (n+1) g w∧w.ok M∧(w.cnt:Int)+3*d.left≤v.cnt+3*c.left:=by
 have ls:=Xe v;have hcb:=hc.bd;have hky:=ho.uo.key h5;unfold Jm at h;split at h
 ·cases h
 rename_i q c1 h1;obtain⟨a1,a2⟩:=Jn hc h1;have hc1:=a1.ci hc;have hl1:=a1.lt hc;have hc1b:=hc1.bd;obtain⟨_,p2,p3⟩:=Kq hc1 a2;split at h
 ·cases h
 rename_i i h2;obtain⟨s1,_⟩:=XV p2 (by split<;>omega) h2;have hls:=(s1.left p2).2.2;split at h
 ·cases h
 rename_i x j h3;cases h;have hcv:=Zj v;have hx0:XI P M n o (Qs o.key 0 [],Qs o.kind 0 []):=by
  refine⟨Xt ?_ (by decide) (QPJ _),Xt hkd (by decide) (QPJ _),HY hky,fun hn e=>Xn hn⟩;unfold Xr at hky;exact ZW (by omega) (by omega)
 obtain⟨r1,r2,r3⟩:=K4 hM ho hrec h5 _ (s1.ci p2) (by omega) (by omega) hx0 h3;rw[QZ,QZ]at r3;obtain⟨b1,b2⟩:=D7 hc1 a2 (s1.trans r1 p2);have hjb:=(r1.ci (s1.ci p2)).bd;have hol:=W5 (n:=o.num) hk;have hn1:1≤n:=by omega
 -- the entries
 have hpo:(∀p∈(QL v o.num).pairs,p.1.one P o.key (-1)=0∧EW (MW P n) P o p.2)∧(QL v o.num).pairs.Pairwise fun q p=>Q2 q.1 p.1=false:=by
  cases hf:Xk v o.num with
  |none=>
   rw[Zo (by rw[hf];simp)];exact⟨fun p hp=>(nomatch hp),.nil⟩
  |some z=>
   have h4:=W6 hv ho.self hf;unfold FW at h4;rw[QPO (by omega),QP5 h5]at h4;rw[(Xg hf).2];exact h4
 have hoc:(QL v o.num).cnt≤v.cnt+1:=by
  cases hf:Xk v o.num with
  |none=>rw[Zo (by rw[hf];simp),QZ];omega
  |some z=>
   have:=JL (Xg hf).1;rw[(Xg hf).2];dsimp only at this;omega
 have hfw:FW (MW P n) P o (Z7 (XA o.key (QL v o.num).pairs x)):=by
  unfold FW;rw[QPO (by omega),QP5 h5];refine⟨fun p hp=>?_,Vt hpo.2⟩;rcases B1 hp with⟨hp,_⟩|rfl
  ·exact hpo.1 p hp
  ·exact⟨r2.one,r2.ew hn1⟩
 have hmk:(Z7 (XA o.key (QL v o.num).pairs x)).ok M:=by
  refine L8 (fun p hp=>?_) ?_
  ·rcases B1 hp with⟨hp,_⟩|rfl
   ·exact⟨hol.keys p hp,hol.vals p hp⟩
   ·exact⟨r2.ky,r2.vl⟩
  ·have h1:=Sl o.key (QL v o.num).pairs x;have h2:=Zx (QL v o.num);omega
 refine⟨a1.trans b1 hc,Js hv ho.self hfw,Jr hk ho.wf hmk (by omega),?_⟩;have hpc:=Sk o.key (QL v o.num).pairs x;cases hf:Xk v o.num with
 |none=>
  have e1:=JM g v o (Z7 (XA o.key (QL v o.num).pairs x));rw[B0]at e1;have e0:XM (QL v o.num).pairs=0:=by rw[Zo (by rw[hf];simp)];rfl
  omega
 |some z=>
  have e1:=Yl g v o (Z7 (XA o.key (QL v o.num).pairs x)) hf;rw[B0]at e1;have e2:XM (QL v o.num).pairs+1≤z.cnt:=by rw[(Xg hf).2,Q3 z];omega
  omega

include hM hK ho hrec in
theorem UW (hkd:(Lit.int .i64 o.kind).wf=true){v w:V}{c d:C}{wr:Int}(hc:CI c)(hcn:c.left≤n)(hv:MW P (n+1) g v)(hk:v.ok M)(hb:(v.cnt:Int)+3*c.left+3≤K)(h:J9 P rec g v o wr c=.ok (w,d)) :
  As c d∧MW P (n+1) g w∧w.ok M∧(w.cnt:Int)+3*d.left≤v.cnt+3*c.left:=by
 have hcv:=Zj v;unfold J9 at h;split at h
 ·rename_i h5;split at h
  ·exact PZ hM hK ho hrec h5 hkd hc hcn hv hk hb h
  ·cases h
 ·rename_i h5;split at h
  ·rename_i hp;exact Sm hM hK ho hc hv hk (by omega) hp.2 h
  ·split at h
   ·split at h
    ·rename_i h10;exact Sn hK ho hrec hc hcn hv hk (by omega) h5 h10 h (by omega)
    ·exact He hM hK ho hc hv hk (by omega) h5 h
   ·cases h
end

theorem Da {P:PL}{M:Nat}(hP:P.ok M)(hU:WW P)(hr:ZY P){t n:Int}(ht:0≤t∧t<(P.progs.length:Int)){o:PO}(hop:XL (Qn P t) n=some o):OpK P (Qn P t) o∧(Lit.int .i64 o.kind).wf=true∧o.num=n:=by
 obtain⟨hom,hon⟩:=YG hop;have hgt:Qn P t∈P.progs:=by
  unfold Qn;rw[QPE (by omega:t.toNat<P.progs.length)];exact QQs _
 have hok:=(hP.progs _ hgt).ops o hom;exact⟨⟨K3 (hr _ hgt) hom,hok.num,hU _ hgt o hom⟩,hok.kind,hon⟩

theorem HZ {P:PL}{M K n:Nat}(hM:3000≤M)(hK:K≤1000000)(hP:P.ok M)(hU:WW P)(hr:ZY P){rec:Int→V→C→Rd V}(hrec:KH P M K n rec){t:Int}(ht:0≤t∧t<(P.progs.length:Int)):∀(k:Nat) (v:V) (c:C),CI c→c.left≤n→MW P (n+1) (Qn P t) v→v.ok M→(v.cnt:Int)+3*c.left≤K→
  ∀w d,Zw P rec t k v c=.ok (w,d)→Af c d∧MW P (n+1) (Qn P t) w∧w.ok M∧(w.cnt:Int)+3*d.left≤v.cnt+3*c.left
 |0,v,c,hc,hn,hv,hk,hb,w,d,h=>by
  cases h;exact⟨Af.refl hc,hv,hk,Int.le_refl _⟩
 |k+1,v,c,hc,hn,hv,hk,hb,w,d,h=>by
  have lr:=Zz v;have hcb:=hc.bd;rw[Zw]at h;split at h
  ·split at h
   ·rename_i htg;obtain⟨t1,_⟩:=Wj hc htg;have hl:=t1.lt hc;split at h
    ·split at h
     ·rename_i hx;obtain⟨a1,_,a2,a3,a4,a5,a6,a7⟩:=BC hc hx;have hla:=a1.lt hc;have hrw:(XH c).1.ok M:=⟨ZW (by omega) (by omega),ZW (by omega) (by omega),by simp[Lit.wf,IntKind.min,IntKind.max,IntKind.bits,IntKind.signed];omega,by omega⟩;have ea:=Hd v (XH c).1;obtain⟨b1,b2,b3,b4⟩:=HZ hM hK hP hU hr hrec ht k _ _ (a1.ci hc) (by omega) (G8 hv) (G7 hk hrw (by omega)) (by omega) w d h;exact⟨a1.1.trans b1 hc,b2,b3,by omega⟩
     ·cases h
    ·rename_i o hop;split at h
     ·cases h
     rename_i v1 c1 h1;obtain⟨ho,hkd,_⟩:=Da hP hU hr ht hop;obtain⟨b1,b2,b3,b4⟩:=UW hM hK ho hrec hkd (t1.ci hc) (by omega) hv hk (by omega) h1;have hlb:=b1.lt (t1.ci hc);obtain⟨q1,q2,q3,q4⟩:=HZ hM hK hP hU hr hrec ht k v1 c1 (b1.ci (t1.ci hc)) (by omega) b2 b3 (by omega) w d h;exact⟨(t1.1.trans b1.1 hc).trans q1 hc,q2,q3,by omega⟩
   ·cases h
  ·cases h;exact⟨Af.refl hc,hv,hk,Int.le_refl _⟩
theorem WL {P:PL}{M K:Nat}(hM:3000≤M)(hK:K≤1000000)(hP:P.ok M)(hU:WW P)(hr:ZY P):∀n:Nat,KH P M K n (Yu P n)
 |0,t,v,c,hc,hn,ht,hv,hk,hb,w,d,h=>by
  have:=hc.bd;omega
 |n+1,t,v,c,hc,hn,ht,hv,hk,hb,w,d,h=>
  HZ hM hK hP hU hr (WL hM hK hP hU hr n) ht _ v c hc (by omega) hv hk hb w d h

end Go.Proofs.YtfgchfdkiomfpaaGreat.Va

namespace Go.Proofs.YtfgchfdkiomfpaaGreat.Va
open Go Am Rc Bt Br Up So

theorem Qtn {ops:List PO}(h:JV ops (Ju PO.num)=true):ops.Pairwise fun a b=>a.num<b.num:=by
 have hs:∀i (hi:i+1<ops.length),ops[i].num<ops[i+1].num:=by
  intro i hi;unfold JV at h;have:=ZU.1 h (i+1) hi;rw[YB (QPE (by omega:i<ops.length)) (QPE hi)]at this;unfold Ju at this
  simpa using this
 rw[QRz];intro i j hi hj hij;obtain⟨d,rfl⟩:∃d,j=i+1+d:=⟨j-(i+1),by omega⟩;clear hij
 induction d with
 |zero=>exact hs i (by omega)
 |succ d ih=>
  have a:=ih (by omega);have b:=hs (i+1+d) (by omega);exact Int.lt_trans a b

theorem H1 {P:PL}(h:ck P=0):Bj P=true∧args P=true:=by
 unfold ck at h;split at h
 ·omega
 split at h
 ·omega
 split at h
 ·omega
 rename_i ho;split at h
 ·omega
 split at h
 ·omega
 split at h
 ·omega
 rename_i ha;exact⟨by simpa using ho,by simpa using ha⟩
theorem X5 {P:PL}(h:ck P=0):ZY P:=by
 have ho:=(H1 h).1;unfold Bj at ho;simp only[QPY,QPM]at ho;intro g hg;exact Qtn (ho.1.2 g hg)
def AG (P:PL):Prop:=∀g∈P.progs,∀o∈g.ops,1≤o.card∧o.card≤5
theorem Sp {P:PL}(h:ck P=0):AG P:=by
 have ha:=(H1 h).2;intro g hg o ho;unfold args at ha;simp only[QPY,QPM]at ha;have h1:=ha.1 g hg;unfold KC at h1;simp only[QPY,QPM]at h1;have h2:=(h1.2 o ho).1;unfold Jv at h2;simp only[QPY,QQW]at h2;exact⟨h2.1.1.1.2,h2.1.1.2⟩

theorem Yw {fr:Nat→Ob}{a b c:Nat}(h1:(fr a).isRow=false)(h2:(fr b).isRow=false)(h3:(fr c).isRow=false):∀s∈[a,b,c],(fr s).isRow=false:=by
 intro s hs;simp only[QQV,QRA,or_false]at hs;rcases hs with rfl|rfl|rfl
 ·exact h1
 ·exact h2
 ·exact h3

section
variable (k:Int)(b:Nat)(t:List UInt8)(l p s r:List AV)

theorem w87:Qh Tryz.prog 87 [vo k b t l p s r] (.bool (Bp k b t l p s r)):=by
 have hl:=RZ k b t l p s r;simp only[vo]at hl;refine k87.fn (by simp) ?_;simp only[vo,Bp,eE,seval];refine Qa (Dq k) rfl rfl rfl (.inl rfl) ?_;cases isk k
 ·simp only[QQ5,Qb,seval]
 ·simp only[QRf,eE,seval];cases h1:((b:Int)==0)
  ·simp only[QRt,QQ5,Qb,seval]
  ·cases h2:(t==[])
   ·simp only[h2,QRt,Q5,eE,seval]
   ·simp only[h2,QQN,Q5,eE,seval];refine Qa hl rfl rfl rfl (.inl rfl) ?_;simp only[Qb,seval]

theorem QLr (hl:l.length≤140737488351232)(hp:p.length≤140737488351232)(hs:s.length≤140737488351232)(hr:r.length≤140737488351232) :
  Qh Tryz.prog 105 [vo k b t l p s r] (.bool (Bp k b t l p s r)):=by
 have hle:=QsL k b t l p s r hl hp hs hr;simp only[vo]at hle;refine QcR.fn (by simp) ?_;simp only[vo,Bp,eE,seval];refine Qa (Bf k) rfl rfl rfl (.inl rfl) ?_;cases isk k
 ·simp only[QQ5,Qb,seval]
 ·simp only[QRf,eE,seval];refine Qa hle rfl rfl rfl (.inl rfl) ?_;cases Wt l p s r
  ·simp only[QQ5,Qb,seval]
  ·cases h1:((b:Int)==0)<;>cases h2:(t==[])<;>cases h3:XZ k<;>simp only[h1,h2,QQN,QRt,QPT,Q5,eE,seval]

theorem w46:Qh Tryz.prog 46 [vo k b t l p s r] (.bool (emp k b t l p s r)):=by
 have hz:=w87 k b t l p s r;simp only[vo]at hz;refine k46.fn (by simp) ?_;simp only[vo,emp,eE,seval];by_cases h1:k=11
 ·subst h1;have e:Bp 11 b t l p s r=false:=rfl;have e1:((11:Int)==11)=true:=rfl;have e2:((11:Int)==12)=false:=rfl;simp only[e,e1,e2,QRf,QQ5,QRu,eE,seval]
 ·have e1:(k==11)=false:=by simp[h1]
  by_cases h2:k=12
  ·subst h2;have e:Bp 12 b t l p s r=false:=rfl;have e2:((12:Int)==12)=true:=rfl;simp only[e,e1,e2,QRf,QQ5,QRu,QRj,eE,seval]
  ·have e2:(k==12)=false:=by simp[h2]
   simp only[e1,e2,QQ5,QRj,eE,seval];refine Qa hz rfl rfl rfl (.inl rfl) ?_;simp only[Qb,seval]

theorem w57 (hl:l.length≤140737488351232)(hp:p.length≤140737488351232)(hs:s.length≤140737488351232)(hr:r.length≤140737488351232):Qh Tryz.prog 57 [vo k b t l p s r] (.bool (emp k b t l p s r)):=by
 have hz:=QLr k b t l p s r hl hp hs hr;simp only[vo]at hz;refine k57.fn (by simp) ?_;simp only[vo,emp,eE,seval];cases h1:(k==11)<;>cases h2:((l.length:Int)==0)<;>cases h3:(k==12)<;>cases h4:((p.length:Int)==0)<;>simp only[h2,h3,h4,QRf,QQ5,QRi,QRj,QRu,eE,seval]
 all_goals(refine Qa hz rfl rfl rfl (.inl rfl) ?_;simp only[Qb,seval])

end
theorem QEw (v:V)(hc:v.cnt≤1048576):Qh Tryz.prog 57 [v.av] (.bool v.emp):=by
 have h1:=Zn v;have h2:=Zx v;have h3:=Xe v;have h4:=Zz v;rw[Cz];exact w57 _ _ _ _ _ _ _ (by simp;omega) (by simp;omega) (by simp;omega) (by simp;omega)
theorem QEx (v:V):Qh Tryz.prog 46 [v.av] (.bool v.emp):=by
 rw[Cz];exact w46 _ _ _ _ _ _ _

def NgI (P:PL)(K:Nat→List (Int×V))(T:List (Int×V))(t:Nat)(rw':List R)(k:Nat)(st:St):Prop :=
 ∃f fr i g h,st=⟨f,[fr],[]⟩∧k=T.length-i∧i≤T.length∧f 1=.int .i64 (t:Nat)∧f 3=.ptr 0 3 0∧f 6=.ptr 0 6 0∧f 7=.ptr 0 7 0∧f 30=.list (T.map V.sav)∧f 31=.int .i64 (T.length:Nat)∧f 32=.int .i64 (i:Nat)∧fr 3=.cells [.list (P.progs.map Qp),.list (P.enums.map QW)]∧fr 6=.cells [.int .i64 0,.int .u64 0,.str [],.nils,.nils,.nils,.nils]∧fr 7=.cells [.int .i64 10,.int .u64 0,.str [],.nils,.nils,.vec 0 1100 g 0 (K i).length false,.vec 0 1000 h 0 rw'.length false]∧fr 1100=.vec g 8 ((K i).map V.sav)∧fr 1000=.vec h 4 (rw'.map R.av)∧∀s∈[13,10,9],(fr s).isRow=false

section
variable {M:Nat}{P:PL}(hP:P.ok M)

set_option maxHeartbeats 2000000 in
include hP in
theorem v27 (hU:WW P)(hr:ZY P)(hcd:AG P):∀(n:Nat) (t:Int) (g:PG),P.progs[t.toNat]? = some g→0≤t→∀v:V,v.ok M→v.cnt≤1048576→MW P n g v→Qh Tryz.prog 27 [P.av,.int .i64 t,v.av] (XC P n g v).av:=by
 have e0:P.av=.agg [.list (P.progs.map Qp),.list (P.enums.map QW)]:=rfl;intro n
 induction n with
 |zero=>
  intro t g _ _ v _ _ h;exact h.elim
 |succ n ih=>
  intro t g hgt t0 v hv hc h;have hgm:=QPN hgt;have hg:=hP.progs g hgm;have hu:=hU g hgm;have hd:=hr g hgm;obtain⟨s1,s2⟩:=h;have hnel:=fun(o:PO) (ho:o∈g.ops) (x:V) (hx:x.ok M) (hxc:x.cnt≤1048576) (he:EW (MW P n) P o x)=>QLq o (hu o ho) (fun t g a b v c d e=>ih t g a b v c d e) x hx hxc he
  have hnfl:=fun(o:PO) (ho:o∈g.ops) (x:V) (hx:x.ok M) (hxc:x.cnt≤1048576) (he:FW (MW P n) P o x)=>v56 o (hu o ho) (hnel o ho) x hx hxc he
  have hcn:∀(o:PO) (x:V),(JH (XC P n) P o x).cnt≤x.cnt:=fun o x=>Vi (fun t v=>YF hr n _ (Wg hr t) v) o x
  have lS:=Xe v;have lR:=Zz v;have clR:=fun fr hr=>v53 (v.raws.map R.av) fr [] (Ud v.raws) (by rw[QQu];omega) hr
  have csR:=fun g (m:Qj) (hl:Am.Qd m 0 1000=.vec g 4 (v.raws.map R.av))=>Tz.CW Tg.QEs (by decide) QLo 0 1000 g (v.raws.map R.av) m hl (ezR v.raws) (by rw[QQu];omega)
  simp only[Si,QQu]at csR;have csl:=v54 v.slots (by omega) s2;have hTp:(Kh v.slots).Perm v.slots:=Q0 _;have hTl:(Kh v.slots).length=v.slots.length:=hTp.length_eq;have hTm:∀s∈Kh v.slots,s∈v.slots:=fun s h=>hTp.mem_iff.1 h
  have hfin:=Se (XC P n) P hd s2;have hrl:(Jh v.raws).length=v.raws.length:=(Q0 v.raws).length_eq;generalize Kh v.slots=T at *;obtain⟨ti,hti⟩:=QRh t0;subst hti;rw[QQ2]at hgt;have hga:(P.progs.map Qp)[ti]? = some (.agg g.cells):=by simp[hgt,Qp]
  simp only[PG.cells]at hga;have htl:ti<P.progs.length:=(QPD.1 hgt).1;have d0:decide ((ti:Int)<0)=false:=QRo (by omega);have d1:decide ((ti:Int)≥(P.progs.length:Int))=false:=QRo (by omega);have co:=fun n=>y55 g hg.len n
  simp only[Hb]at co;simp only[Qp,PG.cells]at co;show Qh _ _ _ (V.mk 10 0 [] [] [] (g.ops.flatMap (Ji (XC P n) P v.slots)) (Jh v.raws)).av;rw[←hfin,Qc v];generalize hK:(fun i=>(T.take i).flatMap (Jy (XC P n) P g))=K;have hK0:K 0=[]:=by rw[←hK];simp
  have hKn:T.flatMap (Jy (XC P n) P g)=K T.length:=by rw[←hK];simp
  have hKl:∀i,i≤T.length→(K i).length≤i:=by
   intro i hi;rw[←hK];show((T.take i).flatMap _).length≤i;have:∀l:List (Int×V),(l.flatMap (Jy (XC P n) P g)).length≤l.length:=by
    intro l
    induction l with
    |nil=>exact QPB _
    |cons s l ih=>
     have:(Jy (XC P n) P g s).length≤1:=by
      unfold Jy;split
      ·simp
      ·unfold ZZ;split<;>simp
     rw[QQ4,QQe,QPP];omega
   exact QPC (this _) (by rw[QQw];omega)
  rw[hKn,show(V.mk 10 0 [] [] [] (K T.length) (Jh v.raws)).av=.agg [.int .i64 10,.int .u64 0,.str [],.list [],.list [],.list ((K T.length).map V.sav),.list ((Jh v.raws).map R.av)]from Qc _];refine k27.fn (by simp) ?_;simp only[e0,eE,seval];refine QU (clR _ rfl) (by simp only[QP8,QQB,Qb,seval]) ?_;simp only[QQu,eE,seval];refine JB (by simp only[Qb,seval]<;>rfl) rfl (by simp only[Qb,seval]<;>rfl) rfl ?_;simp only[List.set,d0,d1,QQu,eE,seval];refine Qa csl rfl rfl rfl (.inl rfl) ?_;simp only[QQu,Qb,seval];refine Qg (NgI P K T ti v.raws) _ ⟨_,_,0,_,_,rfl,rfl,QPJ _,(by rfl),(by rfl),(by rfl),(by rfl),(by rfl),(by rfl),(by rfl),(by rfl),(by rfl),(by rw[hK0];exact(by rfl)),(by rw[hK0];exact(by rfl)),(by rfl),Yw rfl rfl rfl⟩ ?_;rintro _ st ⟨f0,fr0,i,gs,hs,rfl,rfl,hil,h10,h30,h60,h70,h300,h310,h320,m30,m60,m70,mS0,mR0,ST⟩;refine QX (a:=_) [13,10,9] ST ?_;intro f fr hf hm hn13;have h1:f 1=.int .i64 (ti:Nat):=by rw[hf,h10]<;>rfl
  have h3:f 3=.ptr 0 3 0:=by rw[hf,h30]<;>rfl
  have h6:f 6=.ptr 0 6 0:=by rw[hf,h60]<;>rfl
  have h7:f 7=.ptr 0 7 0:=by rw[hf,h70]<;>rfl
  have h30':f 30=.list (T.map V.sav):=by rw[hf,h300]<;>rfl
  have h31:f 31=.int .i64 (T.length:Nat):=by rw[hf,h310]<;>rfl
  have h32:f 32=.int .i64 (i:Nat):=by rw[hf,h320]<;>rfl
  have m3:fr 3=.cells [.list (P.progs.map Qp),.list (P.enums.map QW)]:=by rw[hm 3 (by decide),m30]<;>rfl
  have m6:fr 6=.cells [.int .i64 0,.int .u64 0,.str [],.nils,.nils,.nils,.nils]:=by rw[hm 6 (by decide),m60]<;>rfl
  have m7:fr 7=.cells [.int .i64 10,.int .u64 0,.str [],.nils,.nils,.vec 0 1100 gs 0 (K i).length false,.vec 0 1000 hs 0 v.raws.length false]:=by rw[hm 7 (by decide),m70]<;>rfl
  have mS:fr 1100=.vec gs 8 ((K i).map V.sav):=by rw[hm 1100 (by decide),mS0]<;>rfl
  have mR:fr 1000=.vec hs 4 (v.raws.map R.av):=by rw[hm 1000 (by decide),mR0]<;>rfl
  have n13:=hn13 13 (by decide);have n10:=hn13 10 (by decide);have n9:=hn13 9 (by decide);clear hf hm hn13 h10 h30 h60 h70 h300 h310 h320 m30 m60 m70 mS0 mR0 ST;simp only[h31,h32,Qb,seval];by_cases hlt:i<T.length
  ·obtain⟨x,hi⟩:∃x,T[i]? = some x:=⟨T[i],QPE hlt⟩;have hx:=hTm x (QPN hi);have hgs:=Y8 hi;have e1:=Qw i _ hlt (by simp only[maxLen];omega);obtain⟨o,ho,hfo⟩:=s1 x hx;obtain⟨hom,hon⟩:=YG ho;have hcard:=hcd g hgm o hom;have c1:=co x.1;rw[ho]at c1;have hxc:=QPC (JL hx) hc;have c2:=hnfl o hom x.2 (hv.slots x hx) hxc hfo;have c3:=QEw (JH (XC P n) P o x.2) (QPC (hcn o x.2) hxc);have hKs:K (i+1)=K i++ZZ (XC P n) P o x:=by
    rw[←hK];show(T.take (i+1)).flatMap _=(T.take i).flatMap _++_;rw[QRm,hi,List.flatMap_append];have:Jy (XC P n) P g x=ZZ (XC P n) P o x:=by unfold Jy;rw[ho]
    simp[this]
   have hkO:ZZ (XC P n) P o x=if (decide (o.card<3) || !(JH (XC P n) P o x.2).emp)=true then [(x.1,JH (XC P n) P o x.2)]else []:=by
    unfold ZZ;rw[hon]
   have hKi:=hKl i (by omega);rw[hkO]at hKs;clear hkO;generalize JH (XC P n) P o x.2=z at c2 c3 hKs;rw[e0,Qc x.2,Qc z]at c2;rw[Qc z]at c3;simp only[Qv,PO.cells]at c2;have fin:∀(f':Fr) (fr':Nat→Ob) (gs':Nat),f' 1=.int .i64 (ti:Nat)→f' 3=.ptr 0 3 0→f' 6=.ptr 0 6 0→f' 7=.ptr 0 7 0→f' 30=.list (T.map V.sav)→f' 31=.int .i64 (T.length:Nat)→f' 32=.int .i64 ((i+1:Nat):Int)→fr' 3=.cells [.list (P.progs.map Qp),.list (P.enums.map QW)]→fr' 6=.cells [.int .i64 0,.int .u64 0,.str [],.nils,.nils,.nils,.nils]→fr' 7=.cells [.int .i64 10,.int .u64 0,.str [],.nils,.nils,.vec 0 1100 gs' 0 (K (i+1)).length false,.vec 0 1000 hs 0 v.raws.length false]→fr' 1100=.vec gs' 8 ((K (i+1)).map V.sav)→fr' 1000=.vec hs 4 (v.raws.map R.av)→(∀s∈[13,10,9],(fr' s).isRow=false)→∃k,k<T.length-i∧NgI P K T ti v.raws k ⟨f',[fr'],[]⟩:=by
    intro f' fr' gs' a1 a3 a6 a7 a30 a31 a32 b3 b6 b7 bS bR br;exact⟨T.length-(i+1),by omega,f',fr',i+1,gs',hs,rfl,rfl,by omega,a1,a3,a6,a7,a30,a31,a32,b3,b6,b7,bS,bR,br⟩
   simp only[Qr hlt,Qm,QQ2,Qf,hgs,hga,n9,h1,h3,h30',h32,m3,eE,seval];refine Qa c1 rfl rfl rfl (.inl rfl) ?_;simp only[QQK,QRp,Qv,PO.cells,n10,eE,seval];rcases(by omega:o.card=1∨o.card=2∨o.card=3∨o.card=4∨o.card=5)with cc|cc|cc|cc|cc
   ·have b3:(o.card==3)=false:=by simp[cc]
    have b4:(o.card==4)=false:=by simp[cc]
    have b5:(o.card==5)=false:=by simp[cc]
    rw[QP5 (by simp[cc])]at hKs;simp only[b3,b4,b5,QP9,QQc,QQj,h3,m3,eE,seval];refine Qa c2 rfl rfl rfl (.inl rfl) ?_;simp only[n13,h7,m7,eE,seval];refine QN (l:=[V.sav (x.1,z)]) rfl rfl rfl (by rw[ZJ];rfl) ?_;refine QF (site:=1100) (g:=gs) (n:=(K i).length) (xs:=(K i).map V.sav) (ys:=[V.sav (x.1,z)]) (by rfl) (by exact mS) rfl (by rw[QQu]) rfl (JK [(x.1,z)]) (by simp only[QPP,QQv,maxLen];omega) (by simp only[QPP,QQv];omega) ?_;simp only[h7,h32,m7,e1,eE,seval];exact fin _ _ (gs+1) (by exact h1) (by exact h3) (by exact h6) (by exact h7) (by exact h30') (by exact h31) (by rfl) (by exact m3) (by exact m6) (by rw[hKs,QQe];exact(by rfl)) (by rw[hKs,QRl];exact(by rfl)) (by exact mR) (Yw rfl rfl rfl)

   ·have b3:(o.card==3)=false:=by simp[cc]
    have b4:(o.card==4)=false:=by simp[cc]
    have b5:(o.card==5)=false:=by simp[cc]
    rw[QP5 (by simp[cc])]at hKs;simp only[b3,b4,b5,QP9,QQc,QQj,h3,m3,eE,seval];refine Qa c2 rfl rfl rfl (.inl rfl) ?_;simp only[n13,h7,m7,eE,seval];refine QN (l:=[V.sav (x.1,z)]) rfl rfl rfl (by rw[ZJ];rfl) ?_;refine QF (site:=1100) (g:=gs) (n:=(K i).length) (xs:=(K i).map V.sav) (ys:=[V.sav (x.1,z)]) (by rfl) (by exact mS) rfl (by rw[QQu]) rfl (JK [(x.1,z)]) (by simp only[QPP,QQv,maxLen];omega) (by simp only[QPP,QQv];omega) ?_;simp only[h7,h32,m7,e1,eE,seval];exact fin _ _ (gs+1) (by exact h1) (by exact h3) (by exact h6) (by exact h7) (by exact h30') (by exact h31) (by rfl) (by exact m3) (by exact m6) (by rw[hKs,QQe];exact(by rfl)) (by rw[hKs,QRl];exact(by rfl)) (by exact mR) (Yw rfl rfl rfl)
   ·have b3:(o.card==3)=true:=by simp[cc]
    have b4:(o.card==4)=false:=by simp[cc]
    have b5:(o.card==5)=false:=by simp[cc]
    have l3:decide (o.card<3)=false:=by simp[cc]
    rw[l3,QRj]at hKs;simp only[b3,QP9,QQc,QQj,h3,m3,eE,seval];refine Qa c2 rfl rfl rfl (.inl rfl) ?_;simp only[n13,eE,seval];refine Qa c3 rfl rfl rfl (.inl rfl) ?_;cases hz:z.emp
    ·rw[hz,QP5 (show(!false)=true from rfl)]at hKs;simp only[h7,m7,eE,seval];refine QN (l:=[V.sav (x.1,z)]) rfl rfl rfl (by rw[ZJ];rfl) ?_;refine QF (site:=1100) (g:=gs) (n:=(K i).length) (xs:=(K i).map V.sav) (ys:=[V.sav (x.1,z)]) (by rfl) (by exact mS) rfl (by rw[QQu]) rfl (JK [(x.1,z)]) (by simp only[QPP,QQv,maxLen];omega) (by simp only[QPP,QQv];omega) ?_;simp only[h7,h32,m7,e1,eE,seval];exact fin _ _ (gs+1) (by exact h1) (by exact h3) (by exact h6) (by exact h7) (by exact h30') (by exact h31) (by rfl) (by exact m3) (by exact m6) (by rw[hKs,QQe];exact(by rfl)) (by rw[hKs,QRl];exact(by rfl)) (by exact mR) (Yw rfl rfl rfl)
    ·rw[hz,QPO (by simp),QQD]at hKs;simp only[h32,e1,Qb,seval];exact fin _ _ gs (by exact h1) (by exact h3) (by exact h6) (by exact h7) (by exact h30') (by exact h31) (by rfl) (by exact m3) (by exact m6) (by rw[hKs];exact(by exact m7)) (by rw[hKs];exact(by exact mS)) (by exact mR) (Yw rfl rfl rfl)

   ·have b3:(o.card==3)=false:=by simp[cc]
    have b4:(o.card==4)=true:=by simp[cc]
    have b5:(o.card==5)=false:=by simp[cc]
    have l3:decide (o.card<3)=false:=by simp[cc]
    rw[l3,QRj]at hKs;simp only[b3,b4,QP9,QQc,QQj,h3,m3,eE,seval];refine Qa c2 rfl rfl rfl (.inl rfl) ?_;simp only[n13,eE,seval];refine Qa c3 rfl rfl rfl (.inl rfl) ?_;cases hz:z.emp
    ·rw[hz,QP5 (show(!false)=true from rfl)]at hKs;simp only[h7,m7,eE,seval];refine QN (l:=[V.sav (x.1,z)]) rfl rfl rfl (by rw[ZJ];rfl) ?_;refine QF (site:=1100) (g:=gs) (n:=(K i).length) (xs:=(K i).map V.sav) (ys:=[V.sav (x.1,z)]) (by rfl) (by exact mS) rfl (by rw[QQu]) rfl (JK [(x.1,z)]) (by simp only[QPP,QQv,maxLen];omega) (by simp only[QPP,QQv];omega) ?_;simp only[h7,h32,m7,e1,eE,seval];exact fin _ _ (gs+1) (by exact h1) (by exact h3) (by exact h6) (by exact h7) (by exact h30') (by exact h31) (by rfl) (by exact m3) (by exact m6) (by rw[hKs,QQe];exact(by rfl)) (by rw[hKs,QRl];exact(by rfl)) (by exact mR) (Yw rfl rfl rfl)
    ·rw[hz,QPO (by simp),QQD]at hKs;simp only[h32,e1,Qb,seval];exact fin _ _ gs (by exact h1) (by exact h3) (by exact h6) (by exact h7) (by exact h30') (by exact h31) (by rfl) (by exact m3) (by exact m6) (by rw[hKs];exact(by exact m7)) (by rw[hKs];exact(by exact mS)) (by exact mR) (Yw rfl rfl rfl)

   ·have b3:(o.card==3)=false:=by simp[cc]
    have b4:(o.card==4)=false:=by simp[cc]
    have b5:(o.card==5)=true:=by simp[cc]
    have l3:decide (o.card<3)=false:=by simp[cc]
    rw[l3,QRj]at hKs;simp only[b3,b4,b5,QP9,QQc,QQj,h3,m3,eE,seval];refine Qa c2 rfl rfl rfl (.inl rfl) ?_;simp only[n13,eE,seval];refine Qa c3 rfl rfl rfl (.inl rfl) ?_;cases hz:z.emp
    ·rw[hz,QP5 (show(!false)=true from rfl)]at hKs;simp only[h7,m7,eE,seval];refine QN (l:=[V.sav (x.1,z)]) rfl rfl rfl (by rw[ZJ];rfl) ?_;refine QF (site:=1100) (g:=gs) (n:=(K i).length) (xs:=(K i).map V.sav) (ys:=[V.sav (x.1,z)]) (by rfl) (by exact mS) rfl (by rw[QQu]) rfl (JK [(x.1,z)]) (by simp only[QPP,QQv,maxLen];omega) (by simp only[QPP,QQv];omega) ?_;simp only[h7,h32,m7,e1,eE,seval];exact fin _ _ (gs+1) (by exact h1) (by exact h3) (by exact h6) (by exact h7) (by exact h30') (by exact h31) (by rfl) (by exact m3) (by exact m6) (by rw[hKs,QQe];exact(by rfl)) (by rw[hKs,QRl];exact(by rfl)) (by exact mR) (Yw rfl rfl rfl)
    ·rw[hz,QPO (by simp),QQD]at hKs;simp only[h32,e1,Qb,seval];exact fin _ _ gs (by exact h1) (by exact h3) (by exact h6) (by exact h7) (by exact h30') (by exact h31) (by rfl) (by exact m3) (by exact m6) (by rw[hKs];exact(by exact m7)) (by rw[hKs];exact(by exact mS)) (by exact mR) (Yw rfl rfl rfl)
  ·have e:i=T.length:=by omega
   subst e;simp only[QO hlt,h7,m7,eE,seval];refine QU (csR _ _ (by simp only[mR,MX,seval]<;>rfl)) (by simp only[QP8,QQB,Qb,seval]) ?_;simp only[h6,h7,m6,m7,eE,seval];simp[AV.un,AV.unL,Zp,XD,mS,QQa,hrl]

end
open Vp Cp

def XJ:List AV:=[.int .i64 0,.int .u64 0,.str [],.nils,.nils,.nils,.nils]

theorem P0 (o:PO):Qh Tryz.prog 93 [Qv o] (.int .i64 (wk o.kind)):=by
 have hw:=QKe o.num o.name o.alias 2 o.key o.kind o.target o.union;have e:Ho 2 o.kind=wk o.kind:=by unfold Ho pk;simp
 rw[e]at hw;simp only[oc]at hw;refine k93.fn (by simp) ?_;simp only[Qv,PO.cells,splice,QP9,QQI,QQc,QQj,QPW,QPX,QPP,QQv,eE,seval];refine Qa hw rfl rfl rfl (.inl rfl) ?_;simp only[Qb,seval]

theorem P1 {v:V}{n:Int}{i:Nat}{x:Int×V}(h:v.slots[i]? = some x)(hd:(v.slots.find? fun s=>s.1==n)=(v.slots.drop i).find? fun s=>s.1==n) :
  (x.1==n)=true∧Xk v n=some x.2∧QL v n=x.2∨(x.1==n)=false∧(v.slots.find? fun s=>s.1==n)=(v.slots.drop (i+1)).find? fun s=>s.1==n:=by
 have hlt:=(QPD.1 h).1;have hx:=(QPD.1 h).2;rw[QQk hlt,QRn,hx]at hd;cases hb:(x.1==n)
 ·rw[hb]at hd;exact .inr ⟨rfl,hd⟩
 ·rw[hb]at hd;have e:Xk v n=some x.2:=by unfold Xk;rw[hd];rfl
  exact .inl ⟨rfl,e,by unfold QL;rw[e];rfl⟩
theorem Vu {v:V}{n:Int}{i:Nat}(h:¬i<v.slots.length)(hd:(v.slots.find? fun s=>s.1==n)=(v.slots.drop i).find? fun s=>s.1==n):Xk v n=none∧QL v n=Qs 0 0 []:=by
 rw[QQd (by omega)]at hd;have e:Xk v n=none:=by unfold Xk;rw[hd];rfl
 exact⟨e,by unfold QL;rw[e];rfl⟩

def FvI (v:V)(n:Int)(k:Nat)(st:St):Prop :=
 ∃f fr i,st=⟨f,[fr],[]⟩∧k=v.slots.length-i∧i≤v.slots.length∧((v.slots.find? fun s=>s.1==n)=(v.slots.drop i).find? fun s=>s.1==n)∧f 1=.int .i64 n∧f 4=.ptr 0 4 0∧f 9=.list (v.slots.map V.sav)∧f 10=.int .i64 (v.slots.length:Nat)∧f 11=.int .i64 (i:Nat)∧fr 4=.cells XJ∧∀s∈[7],(fr s).isRow=false

theorem P2 (v:V)(n:Int)(hl:v.slots.length≤1099511627776):Qh Tryz.prog 37 [v.av,.int .i64 n] (.tup [(QL v n).av,.bool (Xk v n).isSome]):=by
 rw[Qc v];refine k37.fn (by simp) ?_;simp only[QQu,eE,seval];refine Qg (FvI v n) _ ⟨_,_,0,rfl,rfl,QPJ _,rfl,(by rfl),(by rfl),(by rfl),(by rfl),(by rfl),(by rfl),by simp<;>rfl⟩ ?_;rintro _ st ⟨f0,fr0,i,rfl,rfl,hil,hfd,h10,h40,h90,h100,h110,m40,r7⟩;refine QX (a:=_) [7] r7 ?_;intro f fr hf hm hn7;have h1:f 1=.int .i64 n:=by rw[hf,h10]<;>rfl
 have h4:f 4=.ptr 0 4 0:=by rw[hf,h40]<;>rfl
 have h9:f 9=.list (v.slots.map V.sav):=by rw[hf,h90]<;>rfl
 have h10':f 10=.int .i64 (v.slots.length:Nat):=by rw[hf,h100]<;>rfl
 have h11:f 11=.int .i64 (i:Nat):=by rw[hf,h110]<;>rfl
 have m4:fr 4=.cells XJ:=by rw[hm 4 (by decide),m40]<;>rfl
 have n7:=hn7 7 (by decide);clear hf hm hn7 h10 h40 h90 h100 h110 m40 r7;have m4':=m4;simp only[XJ]at m4;simp only[h10',h11,Qb,seval];by_cases hlt:i<v.slots.length
 ·obtain⟨x,hi⟩:∃x,v.slots[i]? = some x:=⟨v.slots[i],QPE hlt⟩;have hg:=Y8 hi;have e1:=Qw i _ hlt (by simp only[maxLen];omega);rcases P1 hi hfd with⟨hb,hx1,hx2⟩|⟨hb,hfd'⟩
  ·rw[hx1,hx2,Qc x.2];simp only[Qr hlt,Qm,QQ2,Qf,hg,hb,n7,QRp,h1,h4,h9,h11,m4,eE,seval]
  ·simp only[Qr hlt,Qm,QQ2,Qf,hg,hb,n7,h1,h9,h11,e1,eE,seval];exact⟨v.slots.length-(i+1),by omega,_,_,i+1,rfl,rfl,by omega,hfd',(by exact h1),(by exact h4),(by exact h9),(by exact h10'),(by rfl),(by exact m4'),by simp<;>rfl⟩
 ·obtain⟨hx1,hx2⟩:=Vu hlt hfd;rw[hx1,hx2,show(Qs 0 0 []).av=.agg [.int .i64 0,.int .u64 0,.str [],.list [],.list [],.list [],.list []]from Qc _];simp only[QO hlt,QQq,h4,m4,eE,seval]

theorem Qto (l x:V)(hl:l.list.length≤1048576):Qh Tryz.prog 150 [l.av,x.av] (Q8 (l.list++[x])).av:=by
 have t1:((l.list.length:Int)=(l.list.length:Int)∧(l.list.length:Int)=(l.list.length:Int))=True:=by simp
 rw[show(Q8 (l.list++[x])).av=.agg [.int .i64 11,.int .u64 0,.str [],.list (l.list.map V.av++[x.av]),.list [],.list [],.list []]from by
  rw[Qc];show AV.agg [.int .i64 11,.int .u64 0,.str [],.list ((l.list++[x]).map V.av),.list [],.list [],.list []]=_;rw[QRl];rfl]
 rw[Qc l,Qc x];refine Qek.fn (by simp) ?_;simp only[QQu,eE,seval];refine DO rfl rfl (by decide) rfl rfl ?_;refine Ye (xs:=l.list.map V.av) (ys:=[x.av]) rfl (by rw[Qc];rfl) (by simp) (HW l.list) (HW [x]) (by simp[maxLen];omega) (by simp;omega) (by rfl) ?_;simp only[QQu,QPP,QQv,splice,QP9,QQI,QQc,QQj,QQO,QQD,QPW,QPX,QQL,QQM,AV.leaf,eE,seval];have hk:List.take (l.list.length+1) (l.list.map V.av++[x.av])=l.list.map V.av++[x.av]:=QQa (by simp);simp[hk,AV.un,AV.unL,Zp,XD];exact Qc x

theorem j52 (v:V)(x:R)(hl:v.raws.length≤1048576):Qh Tryz.prog 52 [v.av,x.av] (Wh v x).av:=by
 have t1:((v.raws.length:Int)=(v.raws.length:Int)∧(v.raws.length:Int)=(v.raws.length:Int))=True:=by simp
 rw[show(Wh v x).av=.agg [.int .i64 v.kd,.int .u64 (v.bits:Nat),.str v.text,.list (v.list.map V.av),.list (v.pairs.map V.pav),.list (v.slots.map V.sav),.list (v.raws.map R.av++[x.av])]from by
  rw[Qc];show AV.agg [.int .i64 v.kd,.int .u64 (v.bits:Nat),.str v.text,.list (v.list.map V.av),.list (v.pairs.map V.pav),.list (v.slots.map V.sav),.list ((v.raws++[x]).map R.av)]=_;rw[QRl];rfl]
 rw[Qc v];refine k52.fn (by simp) ?_;simp only[R.av,QQu,eE,seval];refine DO rfl rfl (by decide) rfl rfl ?_;refine Ye (xs:=v.raws.map R.av) (ys:=[x.av]) rfl (by rfl) (by simp) (Ud v.raws) (Ud [x]) (by simp[maxLen];omega) (by simp;omega) (by rfl) ?_;simp only[QQu,QPP,QQv,splice,QP9,QQI,QQc,QQj,QQO,QQD,QPW,QPX,QQL,QQM,AV.leaf,eE,seval];have hk:List.take (v.raws.length+1) (v.raws.map R.av++[x.av])=v.raws.map R.av++[x.av]:=QQa (by simp);simp only[R.av]at hk;simp[hk,AV.un,AV.unL,Zp,XD,R.av]

def StI (g:PG)(v:V)(o:PO)(x:V)(K:Nat→List (Int×V))(k:Nat)(st:St):Prop :=
 ∃f fr i n,st=⟨f,[fr],[]⟩∧k=v.slots.length-i∧i≤v.slots.length∧f 4=.ptr 0 4 0∧f 6=.ptr 0 6 0∧f 7=.ptr 0 7 0∧f 8=.ptr 0 8 0∧f 9=.ptr 0 9 0∧f 18=.list (v.slots.map V.sav)∧f 19=.int .i64 (v.slots.length:Nat)∧f 20=.int .i64 (i:Nat)∧fr 4=.cells g.cells∧fr 6=.cells o.cells∧fr 7=.cells (vc x)∧fr 8=.cells XJ∧
  fr 9=.cells [.int .i64 10,.int .u64 0,.str [],.nils,.nils,.vec 0 1100 n 0 (K i).length false,.list (v.raws.map R.av)]∧fr 1100=.vec n 8 ((K i).map V.sav)∧∀s∈[12,11],(fr s).isRow=false

theorem CZ (g:PG)(v:V)(o:PO)(x:V)(hg:g.ops.length≤maxLen)(hl:v.slots.length≤1048576):Qh Tryz.prog 146 [Qp g,v.av,Qv o,x.av] (Xi g v o x).av:=by
 have co:=fun n=>y55 g hg n
 simp only[Hb]at co;simp only[Qp,PG.cells]at co;generalize hK:(fun i=>(v.slots.take i).filter fun s=>!Xv g o s)=K;have hK0:K 0=[]:=by rw[←hK];simp
 have hKn:v.slots.filter (fun s=>!Xv g o s)=K v.slots.length:=by rw[←hK];simp
 have hKl:∀i,i≤v.slots.length→(K i).length≤i:=by
  intro i hi;rw[←hK];exact QPC (List.length_filter_le _ _) (by rw[QQw];omega)
 have hKs:∀(i:Nat) (s:Int×V),v.slots[i]? = some s→K (i+1)=K i++(if Xv g o s=true then []else [s]):=by
  intro i s hs;rw[←hK];show(v.slots.take (i+1)).filter _=(v.slots.take i).filter _++_;rw[QRm,hs,List.filter_append];cases hd:Xv g o s<;>simp[hd]
 rw[show(Xi g v o x).av=.agg [.int .i64 10,.int .u64 0,.str [],.list [],.list [],.list ((K v.slots.length).map V.sav++[V.sav (o.num,x)]),.list (v.raws.map R.av)]from by
  rw[Qc];show AV.agg [.int .i64 10,.int .u64 0,.str [],.list [],.list [],.list ((v.slots.filter (fun s=>!Xv g o s)++[(o.num,x)]).map V.sav),.list (v.raws.map R.av)]=_;rw[hKn,QRl];rfl]
 rw[Qc v,Qc x];clear hKn hK;refine QdU.fn (by simp) ?_;simp only[Qp,Qv,PG.cells,PO.cells,eE,seval];refine JB (by simp only[Qb,seval]<;>rfl) rfl (by simp only[Qb,seval]<;>rfl) rfl ?_;simp only[List.set,QQu,eE,seval];refine Qg (StI g v o x K) _ ⟨_,_,0,_,rfl,rfl,QPJ _,(by rfl),(by rfl),(by rfl),(by rfl),(by rfl),(by rfl),(by rfl),(by rfl),(by rfl),(by rfl),(by rfl),(by rfl),(by rw[hK0];exact(by rfl)),(by rw[hK0];exact(by rfl)),Y9 rfl rfl⟩ ?_;rintro _ st ⟨f0,fr0,i,n,rfl,rfl,hil,h40,h60,h70,h80,h90,h180,h190,h200,m40,m60,m70,m80,m90,mS0,Uz⟩;refine QX (a:=_) [12,11] Uz ?_;intro f fr hf hm hn12;have h4:f 4=.ptr 0 4 0:=by rw[hf,h40]<;>rfl
 have h6:f 6=.ptr 0 6 0:=by rw[hf,h60]<;>rfl
 have h7:f 7=.ptr 0 7 0:=by rw[hf,h70]<;>rfl
 have h8:f 8=.ptr 0 8 0:=by rw[hf,h80]<;>rfl
 have h9:f 9=.ptr 0 9 0:=by rw[hf,h90]<;>rfl
 have h18:f 18=.list (v.slots.map V.sav):=by rw[hf,h180]<;>rfl
 have h19:f 19=.int .i64 (v.slots.length:Nat):=by rw[hf,h190]<;>rfl
 have h20:f 20=.int .i64 (i:Nat):=by rw[hf,h200]<;>rfl
 have m4':fr 4=.cells g.cells:=by rw[hm 4 (by decide),m40]<;>rfl
 have m6':fr 6=.cells o.cells:=by rw[hm 6 (by decide),m60]<;>rfl
 have m7':fr 7=.cells (vc x):=by rw[hm 7 (by decide),m70]<;>rfl
 have m8':fr 8=.cells XJ:=by rw[hm 8 (by decide),m80]<;>rfl
 have m9:fr 9=.cells [.int .i64 10,.int .u64 0,.str [],.nils,.nils,.vec 0 1100 n 0 (K i).length false,.list (v.raws.map R.av)]:=by rw[hm 9 (by decide),m90]<;>rfl
 have mS:fr 1100=.vec n 8 ((K i).map V.sav):=by rw[hm 1100 (by decide),mS0]<;>rfl
 have n12:=hn12 12 (by decide);have n11:=hn12 11 (by decide);clear hf hm hn12 h40 h60 h70 h80 h90 h180 h190 h200 m40 m60 m70 m80 m90 mS0 Uz;have m4:=m4';have m6:=m6';have m7:=m7';have m8:=m8';simp only[PG.cells]at m4;simp only[PO.cells]at m6;simp only[vc]at m7;simp only[XJ]at m8;have hKi:=hKl i hil;simp only[h19,h20,Qb,seval];by_cases hlt:i<v.slots.length
 ·obtain⟨y,hi⟩:∃y,v.slots[i]? = some y:=⟨v.slots[i],QPE hlt⟩;have hgs:=Y8 hi;have e1:=Qw i _ hlt (by simp only[maxLen];omega);have hKy:=hKs i y hi;have skip:Xv g o y=true→∀(f':Fr) (fr':Nat→Ob),f' 4=.ptr 0 4 0→f' 6=.ptr 0 6 0→f' 7=.ptr 0 7 0→f' 8=.ptr 0 8 0→f' 9=.ptr 0 9 0→f' 18=.list (v.slots.map V.sav)→f' 19=.int .i64 (v.slots.length:Nat)→f' 20=.int .i64 ((i+1:Nat):Int)→fr' 4=.cells g.cells→fr' 6=.cells o.cells→fr' 7=.cells (vc x)→fr' 8=.cells XJ→fr' 9=fr 9→fr' 1100=fr 1100→(∀s∈[12,11],(fr' s).isRow=false)→∃k,k<v.slots.length-i∧StI g v o x K k ⟨f',[fr'],[]⟩:=by
   intro hd f' fr' a4 a6 a7 a8 a9 a18 a19 a20 b4 b6 b7 b8 b9 bS br;rw[QP5 hd,QQD]at hKy;exact⟨v.slots.length-(i+1),by omega,f',fr',i+1,n,rfl,rfl,by omega,a4,a6,a7,a8,a9,a18,a19,a20,b4,b6,b7,b8,by rw[b9,m9,hKy],by rw[bS,mS,hKy],br⟩
  simp only[Qr hlt,Qm,QQ2,Qf,hgs,n11,h6,h18,h20,m6,eE,seval];have hdd:Xv g o y=(y.1==o.num||(match XL g y.1 with
   |some q=>decide (o.union≥0)&&q.union==o.union
   |none=>false)):=rfl
  cases hb:(y.1==o.num)
  ·have c1:=co y.1;rw[hb,QRj]at hdd;simp only[h4,m4,eE,seval];refine Qa c1 rfl rfl rfl (.inl rfl) ?_;have keep:Xv g o y=false→∀(f':Fr) (fr':Nat→Ob),f' 4=.ptr 0 4 0→f' 6=.ptr 0 6 0→f' 7=.ptr 0 7 0→f' 8=.ptr 0 8 0→f' 9=.ptr 0 9 0→f' 18=.list (v.slots.map V.sav)→f' 19=.int .i64 (v.slots.length:Nat)→f' 20=.int .i64 ((i+1:Nat):Int)→fr' 4=.cells g.cells→fr' 6=.cells o.cells→fr' 7=.cells (vc x)→fr' 8=.cells XJ→fr' 9=.cells [.int .i64 10,.int .u64 0,.str [],.nils,.nils,.vec 0 1100 (n+1) 0 ((K i).length+1) false,.list (v.raws.map R.av)]→fr' 1100=.vec (n+1) 8 ((K i).map V.sav++[V.sav y])→(∀s∈[12,11],(fr' s).isRow=false)→∃k,k<v.slots.length-i∧StI g v o x K k ⟨f',[fr'],[]⟩:=by
    intro hd f' fr' a4 a6 a7 a8 a9 a18 a19 a20 b4 b6 b7 b8 b9 bS br;rw[QPO (by rw[hd];simp)]at hKy;exact⟨v.slots.length-(i+1),by omega,f',fr',i+1,n+1,rfl,rfl,by omega,a4,a6,a7,a8,a9,a18,a19,a20,b4,b6,b7,b8,by rw[b9,hKy,QQe];rfl,by rw[bS,hKy,QRl];rfl,br⟩
   cases hq:XL g y.1 with
   |none=>
    rw[hq]at hdd;simp only[QRc,QQq,Qv,N7,PO.cells,n12,h9,m9,eE,seval];refine QN (l:=[V.sav y]) rfl rfl rfl (by rw[ZJ];rfl) ?_;refine QF (site:=1100) (g:=n) (n:=(K i).length) (xs:=(K i).map V.sav) (ys:=[V.sav y]) (by rfl) (by exact mS) rfl (by rw[QQu]) rfl (JK [y]) (by simp only[QPP,QQv,maxLen];omega) (by simp only[QPP,QQv];omega) ?_;simp only[h9,h20,m9,e1,eE,seval];exact keep hdd _ _ (by exact h4) (by exact h6) (by exact h7) (by exact h8) (by exact h9) (by exact h18) (by exact h19) (by rfl) (by exact m4') (by exact m6') (by exact m7') (by exact m8') (by rfl) (by rfl) (Y9 rfl rfl)
   |some q=>
    rw[hq]at hdd;dsimp only at hdd;simp only[QQK,QRp,Qv,PO.cells,n12,h6,m6,eE,seval];cases hu:decide (o.union≥0)
    ·rw[hu,QQ5]at hdd;simp only[h9,m9,eE,seval];refine QN (l:=[V.sav y]) rfl rfl rfl (by rw[ZJ];rfl) ?_;refine QF (site:=1100) (g:=n) (n:=(K i).length) (xs:=(K i).map V.sav) (ys:=[V.sav y]) (by rfl) (by exact mS) rfl (by rw[QQu]) rfl (JK [y]) (by simp only[QPP,QQv,maxLen];omega) (by simp only[QPP,QQv];omega) ?_;simp only[h9,h20,m9,e1,eE,seval];exact keep hdd _ _ (by exact h4) (by exact h6) (by exact h7) (by exact h8) (by exact h9) (by exact h18) (by exact h19) (by rfl) (by exact m4') (by exact m6') (by exact m7') (by exact m8') (by rfl) (by rfl) (Y9 rfl rfl)
    ·rw[hu,QRf]at hdd;cases hqu:(q.union==o.union)
     ·rw[hqu]at hdd;simp only[hqu,h6,h9,m6,m9,eE,seval];refine QN (l:=[V.sav y]) rfl rfl rfl (by rw[ZJ];rfl) ?_;refine QF (site:=1100) (g:=n) (n:=(K i).length) (xs:=(K i).map V.sav) (ys:=[V.sav y]) (by rfl) (by exact mS) rfl (by rw[QQu]) rfl (JK [y]) (by simp only[QPP,QQv,maxLen];omega) (by simp only[QPP,QQv];omega) ?_;simp only[h9,h20,m9,e1,eE,seval];exact keep hdd _ _ (by exact h4) (by exact h6) (by exact h7) (by exact h8) (by exact h9) (by exact h18) (by exact h19) (by rfl) (by exact m4') (by exact m6') (by exact m7') (by exact m8') (by rfl) (by rfl) (Y9 rfl rfl)
     ·rw[hqu]at hdd;simp only[hqu,h6,h20,m6,e1,eE,seval];exact skip hdd _ _ (by exact h4) (by exact h6) (by exact h7) (by exact h8) (by exact h9) (by exact h18) (by exact h19) (by rfl) (by exact m4') (by exact m6') (by exact m7') (by exact m8') (by rfl) (by rfl) (Y9 rfl rfl)
  ·rw[hb,QRi]at hdd;simp only[h20,e1,Qb,seval];exact skip hdd _ _ (by exact h4) (by exact h6) (by exact h7) (by exact h8) (by exact h9) (by exact h18) (by exact h19) (by rfl) (by exact m4') (by exact m6') (by exact m7') (by exact m8') (by rfl) (by rfl) (Y9 (by rw[Xd _ _ (by decide),n12]<;>rfl) rfl)
 ·have e:i=v.slots.length:=by omega
  subst e;simp only[QO hlt,h6,h7,h9,m6,m7,m9,eE,seval];refine QN (l:=[V.sav (o.num,x)]) rfl rfl rfl (by rw[ZJ];rfl) ?_;refine QF (site:=1100) (g:=n) (n:=(K v.slots.length).length) (xs:=(K v.slots.length).map V.sav) (ys:=[V.sav (o.num,x)]) (by rfl) (by exact mS) rfl (by rw[QQu]) rfl (JK [(o.num,x)]) (by simp only[QPP,QQv,maxLen];omega) (by simp only[QPP,QQv];omega) ?_;simp only[h8,h9,m8,m9,eE,seval];have hk:List.take ((K v.slots.length).length+1) ((K v.slots.length).map V.sav++[V.sav (o.num,x)])=(K v.slots.length).map V.sav++[V.sav (o.num,x)]:=QQa (by simp);simp[hk,AV.un,AV.unL,Zp,XD]

def ZA (c:C):Nat×C×Nat:=match Jd c with
 |.ok (n,d)=>(n,d,0)
 |.error e=>(0,c,e)
def KN (w:Int)(c:C):R×C×Nat :=
 if w=2 then(⟨0,w,c.fixed.1,[]⟩,c.fixed.2.1,c.fixed.2.2)
 else if w=3 then(if (ZA c).2.2=0 then(⟨0,w,0,(text (ZA c).2.1 (ZA c).1).1⟩,(text (ZA c).2.1 (ZA c).1).2.1,(text (ZA c).2.1 (ZA c).1).2.2)else(⟨0,0,0,[]⟩,c,(ZA c).2.2))
 else(⟨0,w,c.varint.1,[]⟩,c.varint.2.1,c.varint.2.2)
def Hw (r:R×C×Nat):AV:=.tup [r.1.av,r.2.1.av,.int .i64 (r.2.2:Nat)]

theorem Ym {c:C}{e:Nat}(h:Jd c=.error e):e≠0:=by
 unfold Jd at h;split at h
 ·split at h<;>cases h
  decide
 ·rename_i he;cases h;exact he
theorem L9 {c:C}(hc:CI c)(h:(ZA c).2.2=0):Jd c=.ok ((ZA c).1,(ZA c).2.1)∧As c (ZA c).2.1:=by
 unfold ZA at h ⊢;cases hr:Jd c with
 |error e=>rw[hr]at h;exact absurd h (Ym hr)
 |ok p=>
  obtain⟨n,d⟩:=p;exact⟨rfl,(Jn hc hr).1⟩
theorem YK (w:Int)(c:C):Kp w c=if (KN w c).2.2=0 then .ok ((KN w c).1,(KN w c).2.1)else .error (KN w c).2.2:=by
 unfold KN Kp;by_cases h2:w=2
 ·rw[QPO (by omega),QP5 h2,QP5 h2]
 ·rw[QPO h2,QPO h2];by_cases h3:w=3
  ·rw[QP5 h3,QP5 h3];unfold ZA;cases hr:Jd c with
   |error e=>
    have:=Ym hr;dsimp only;rw[QPO this,QPO this]
   |ok p=>rfl
  ·rw[QPO h3,QPO h3]

theorem C0 {c:C}(hc:CI c):Qh Tryz.prog 124 [c.av] (.tup [.int .i64 ((ZA c).1:Nat),(ZA c).2.1.av,.int .i64 ((ZA c).2.2:Nat)]):=by
 have hvc:=CH c;have hva:=JJ hc;have hln:Jd c=if c.varint.2.2=0 then(if c.varint.2.1.left<(c.varint.1:Int)then .error 4 else .ok (c.varint.1,c.varint.2.1))else .error c.varint.2.2:=rfl
 unfold ZA;generalize c.varint=r at hvc hva hln ⊢;obtain⟨u,d,e⟩:=r;dsimp only at hva hln;simp only[X4,C.av]at hvc;refine QJ1.fn (by simp) ?_;simp only[C.av,eE,seval];refine Qa hvc rfl rfl rfl (.inl rfl) ?_;by_cases he:e=0
 ·subst he;obtain⟨ha,hu⟩:=hva rfl;have hd:=ha.ci hc;have hdl:=hd.bd;rw[QP5 rfl]at hln;have w1:IntKind.u64.wrap d.left=d.left:=by rw[XY];omega
  have hlf:=Vn d;simp only[C.av]at hlf;simp only[eE,seval];refine Qa hlf rfl rfl rfl (.inl rfl) ?_;by_cases hlt:d.left<(u:Int)
  ·have d1:decide ((u:Int) > d.left)=true:=QRs hlt;rw[QP5 hlt]at hln;rw[hln];simp only[w1,d1,eE,seval]
  ·have d1:decide ((u:Int) > d.left)=false:=QRo hlt;have w2:IntKind.i64.wrap (u:Int)=u:=by rw[QB];omega
   rw[QPO hlt]at hln;rw[hln];simp only[w1,w2,d1,eE,seval]
 ·rw[QPO he]at hln;rw[hln];simp only[Qu he,eE,seval]

theorem Sq {c:C}(hc:CI c)(w:Int):Qh Tryz.prog 135 [.int .i64 w,c.av] (Hw (KN w c)):=by
 have hlc:=C0 hc;have hla:=L9 hc;unfold KN;by_cases h2:w=2
 ·have b2:(w==2)=true:=by simp[h2]
  have hfc:=Qte c;rw[QP5 h2];generalize c.fixed=q at hfc;obtain⟨t,i,e⟩:=q;simp only[X4,C.av]at hfc;dsimp only;refine RF.fn (by simp) ?_;simp only[b2,Hw,C.av,R.av,eE,seval];refine Qa hfc rfl rfl rfl (.inl rfl) ?_;simp only[eE,seval]
 have b2:(w==2)=false:=by simp[h2]
 rw[QPO h2];by_cases h3:w=3
 ·have b3:(w==3)=true:=by simp[h3]
  rw[QP5 h3];generalize ZA c=q at hlc hla;obtain⟨n,d,e⟩:=q;dsimp only at hla;simp only[C.av]at hlc;dsimp only;refine RF.fn (by simp) ?_;simp only[b2,b3,C.av,eE,seval];refine Qa hlc rfl rfl rfl (.inl rfl) ?_;by_cases he:e=0
  ·subst he;have htc:=QK2 d n;rw[QP5 rfl];generalize text d n=q at htc;obtain⟨t,i,e⟩:=q;simp only[HU,C.av]at htc;simp only[eE,seval];refine Qa htc rfl rfl rfl (.inl rfl) ?_;simp only[Hw,C.av,R.av,eE,seval]
  ·rw[QPO he];simp only[Qu he,Hw,C.av,R.av,eE,seval]
 ·have b3:(w==3)=false:=by simp[h3]
  have hvc:=CH c;rw[QPO h3];generalize c.varint=q at hvc;obtain⟨t,i,e⟩:=q;simp only[X4,C.av]at hvc;dsimp only;refine RF.fn (by simp) ?_;simp only[b2,b3,Hw,C.av,R.av,eE,seval];refine Qa hvc rfl rfl rfl (.inl rfl) ?_;simp only[eE,seval]

theorem Qtq {c:C}(n:Nat):Qh Tryz.prog 125 [c.av,.int .i64 (n:Nat)] (part c n).av:=by
 refine QJ4.fn (by simp) ?_;simp only[part,C.av,eE,seval]

theorem Sr (c i:C):Qh Tryz.prog 129 [c.av,i.av] (X0 c i).av:=by
 refine QJP.fn (by simp) ?_;simp only[X0,C.av,eE,seval]

theorem Qtr (o:PO):Qh Tryz.prog 126 [Qv o] (Qs o.kind 0 []).av:=by
 rw[show(Qs o.kind 0 []).av=.agg [.int .i64 o.kind,.int .u64 0,.str [],.list [],.list [],.list [],.list []]from Qc _];refine QJU.fn (by simp) ?_;simp only[Qv,PO.cells,eE,seval]

def GeI (v:V)(n:Int)(k:Nat)(st:St):Prop :=
 ∃f fr i,st=⟨f,[fr],[]⟩∧k=v.slots.length-i∧i≤v.slots.length∧((v.slots.find? fun s=>s.1==n)=(v.slots.drop i).find? fun s=>s.1==n)∧f 1=.int .i64 n∧f 2=.ptr 0 2 0∧f 4=.ptr 0 4 0∧f 6=.int .i64 (i:Nat)∧fr 2=.cells (vc v)∧fr 4=.cells XJ

theorem Vv (v:V)(n:Int)(hl:v.slots.length≤1099511627776):Qh Tryz.prog 39 [v.av,.int .i64 n] (.tup [(QL v n).av,.bool (Xk v n).isSome]):=by
 rw[Qc v];refine k39.fn (by simp) ?_;simp only[eE,seval];refine Qg (GeI v n) _ ⟨_,_,0,rfl,rfl,QPJ _,rfl,(by rfl),(by rfl),(by rfl),(by rfl),(by rfl),(by rfl)⟩ ?_;rintro _ st ⟨f,fr,i,rfl,rfl,hil,hfd,h1,h2,h4,h6,m2',m4'⟩;have m2:=m2';have m4:=m4';simp only[vc]at m2;simp only[XJ]at m4;simp only[h2,h6,m2,QQu,eE,seval];by_cases hlt:i<v.slots.length
 ·obtain⟨x,hi⟩:∃x,v.slots[i]? = some x:=⟨v.slots[i],QPE hlt⟩;have hg:=Y8 hi;have e1:=Qw i _ hlt (by simp only[maxLen];omega);rcases P1 hi hfd with⟨hb,hx1,hx2⟩|⟨hb,hfd'⟩
  ·rw[hx1,hx2,Qc x.2];simp only[Qr hlt,Qm,QQ2,Qf,hg,hb,h1,h2,h4,h6,m2,m4,QRp,eE,seval]
  ·simp only[Qr hlt,Qm,QQ2,Qf,hg,hb,h1,h2,h6,m2,e1,eE,seval];exact⟨v.slots.length-(i+1),by omega,_,_,i+1,rfl,rfl,by omega,hfd',(by exact h1),(by exact h2),(by exact h4),(by rfl),(by exact m2'),(by exact m4')⟩
 ·obtain⟨hx1,hx2⟩:=Vu hlt hfd;rw[hx1,hx2,show(Qs 0 0 []).av=.agg [.int .i64 0,.int .u64 0,.str [],.list [],.list [],.list [],.list []]from Qc _];simp only[QO hlt,h4,m4,QQq,eE,seval]

def PuI (g:PG)(v:V)(o:PO)(x:V)(K:Nat→List (Int×V))(k:Nat)(st:St):Prop :=
 ∃f fr i n,st=⟨f,[fr],[]⟩∧k=v.slots.length-i∧i≤v.slots.length∧f 4=.ptr 0 4 0∧f 5=.ptr 0 5 0∧f 6=.ptr 0 6 0∧f 7=.ptr 0 7 0∧f 8=.ptr 0 8 0∧f 9=.ptr 0 9 0∧f 10=.int .i64 (i:Nat)∧fr 4=.cells g.cells∧fr 5=.cells (vc v)∧fr 6=.cells o.cells∧fr 7=.cells (vc x)∧fr 8=.cells XJ∧
  fr 9=.cells [.int .i64 10,.int .u64 0,.str [],.nils,.nils,.vec 0 1100 n 0 (K i).length false,.list (v.raws.map R.av)]∧fr 1100=.vec n 8 ((K i).map V.sav)∧(fr 11).isRow=false

theorem B3 (g:PG)(v:V)(o:PO)(x:V)(hg:g.ops.length≤maxLen)(hl:v.slots.length≤1048576)(hs:∀s∈v.slots,∃q,XL g s.1=some q)(hun : -1≤o.union):Qh Tryz.prog 128 [Qp g,v.av,Qv o,x.av] (Xi g v o x).av:=by
 have co:=fun n=>y75 g hg n
 simp only[Hb]at co;simp only[Qp,PG.cells]at co;generalize hK:(fun i=>(v.slots.take i).filter fun s=>!Xv g o s)=K;have hK0:K 0=[]:=by rw[←hK];simp
 have hKn:v.slots.filter (fun s=>!Xv g o s)=K v.slots.length:=by rw[←hK];simp
 have hKl:∀i,i≤v.slots.length→(K i).length≤i:=by
  intro i hi;rw[←hK];exact QPC (List.length_filter_le _ _) (by rw[QQw];omega)
 have hKs:∀(i:Nat) (s:Int×V),v.slots[i]? = some s→K (i+1)=K i++(if Xv g o s=true then []else [s]):=by
  intro i s hs;rw[←hK];show(v.slots.take (i+1)).filter _=(v.slots.take i).filter _++_;rw[QRm,hs,List.filter_append];cases hd:Xv g o s<;>simp[hd]
 rw[show(Xi g v o x).av=.agg [.int .i64 10,.int .u64 0,.str [],.list [],.list [],.list ((K v.slots.length).map V.sav++[V.sav (o.num,x)]),.list (v.raws.map R.av)]from by
  rw[Qc];show AV.agg [.int .i64 10,.int .u64 0,.str [],.list [],.list [],.list ((v.slots.filter (fun s=>!Xv g o s)++[(o.num,x)]).map V.sav),.list (v.raws.map R.av)]=_;rw[hKn,QRl];rfl]
 rw[Qc v,Qc x];clear hKn hK;refine QJ7.fn (by simp) ?_;simp only[Qp,Qv,PG.cells,PO.cells,eE,seval];refine JB (by simp only[Qb,seval]<;>rfl) rfl (by simp only[Qb,seval]<;>rfl) rfl ?_;simp only[List.set,Qb,seval];refine Qg (PuI g v o x K) _ ⟨_,_,0,_,rfl,rfl,QPJ _,(by rfl),(by rfl),(by rfl),(by rfl),(by rfl),(by rfl),(by rfl),(by rfl),(by rfl),(by rfl),(by rfl),(by rfl),(by rw[hK0];exact(by rfl)),(by rw[hK0];exact(by rfl)),by rfl⟩ ?_;rintro _ st ⟨f0,fr0,i,n,rfl,rfl,hil,h40,h50,h60,h70,h80,h90,h100,m40,m50,m60,m70,m80,m90,mS0,Yf⟩;refine QX (a:=_) [11] (by intro s hs;simp only[QRx]at hs;subst hs;exact Yf) ?_;intro f fr hf hm hn11;have h4:f 4=.ptr 0 4 0:=by rw[hf,h40]<;>rfl
 have h5:f 5=.ptr 0 5 0:=by rw[hf,h50]<;>rfl
 have h6:f 6=.ptr 0 6 0:=by rw[hf,h60]<;>rfl
 have h7:f 7=.ptr 0 7 0:=by rw[hf,h70]<;>rfl
 have h8:f 8=.ptr 0 8 0:=by rw[hf,h80]<;>rfl
 have h9:f 9=.ptr 0 9 0:=by rw[hf,h90]<;>rfl
 have h10:f 10=.int .i64 (i:Nat):=by rw[hf,h100]<;>rfl
 have m4':fr 4=.cells g.cells:=by rw[hm 4 (by decide),m40]<;>rfl
 have m5':fr 5=.cells (vc v):=by rw[hm 5 (by decide),m50]<;>rfl
 have m6':fr 6=.cells o.cells:=by rw[hm 6 (by decide),m60]<;>rfl
 have m7':fr 7=.cells (vc x):=by rw[hm 7 (by decide),m70]<;>rfl
 have m8':fr 8=.cells XJ:=by rw[hm 8 (by decide),m80]<;>rfl
 have m9:fr 9=.cells [.int .i64 10,.int .u64 0,.str [],.nils,.nils,.vec 0 1100 n 0 (K i).length false,.list (v.raws.map R.av)]:=by rw[hm 9 (by decide),m90]<;>rfl
 have mS:fr 1100=.vec n 8 ((K i).map V.sav):=by rw[hm 1100 (by decide),mS0]<;>rfl
 have n11:=hn11 11 (by decide);clear hf hm hn11 h40 h50 h60 h70 h80 h90 h100 m40 m50 m60 m70 m80 m90 mS0 Yf;have m4:=m4';have m5:=m5';have m6:=m6';have m7:=m7';have m8:=m8';simp only[PG.cells]at m4;simp only[vc]at m5 m7;simp only[PO.cells]at m6;simp only[XJ]at m8;have hKi:=hKl i hil;simp only[h5,h10,m5,QQu,eE,seval];by_cases hlt:i<v.slots.length
 ·obtain⟨y,hi⟩:∃y,v.slots[i]? = some y:=⟨v.slots[i],QPE hlt⟩;obtain⟨q,hq⟩:=hs y (QPN hi);have hgs:=Y8 hi;have e1:=Qw i _ hlt (by simp only[maxLen];omega);have hKy:=hKs i y hi;have c1:=co y.1;have hdd:Xv g o y=(y.1==o.num||(match XL g y.1 with
   |some q=>decide (o.union≥0)&&q.union==o.union
   |none=>false)):=rfl
  rw[hq]at hdd c1;dsimp only at hdd;simp only[QQK,QRp,Qv,PO.cells]at c1;simp only[Qr hlt,Qm,QQ2,Qf,hgs,h4,h5,h10,m4,m5,eE,seval];refine Qa c1 rfl rfl rfl (.inl rfl) ?_;simp only[Qm,QQ2,Qf,hgs,n11,h5,h6,h10,m5,m6,eE,seval];have skip:Xv g o y=true→∀(f':Fr) (fr':Nat→Ob),f' 4=.ptr 0 4 0→f' 5=.ptr 0 5 0→f' 6=.ptr 0 6 0→f' 7=.ptr 0 7 0→f' 8=.ptr 0 8 0→f' 9=.ptr 0 9 0→f' 10=.int .i64 ((i+1:Nat):Int)→fr' 4=.cells g.cells→fr' 5=.cells (vc v)→fr' 6=.cells o.cells→fr' 7=.cells (vc x)→fr' 8=.cells XJ→fr' 9=fr 9→fr' 1100=fr 1100→(fr' 11).isRow=false→∃k,k<v.slots.length-i∧PuI g v o x K k ⟨f',[fr'],[]⟩:=by
   intro hd f' fr' a4 a5 a6 a7 a8 a9 a10 b4 b5 b6 b7 b8 b9 bS br;rw[QP5 hd,QQD]at hKy;exact⟨v.slots.length-(i+1),by omega,f',fr',i+1,n,rfl,rfl,by omega,a4,a5,a6,a7,a8,a9,a10,b4,b5,b6,b7,b8,by rw[b9,m9,hKy],by rw[bS,mS,hKy],br⟩
  have keep:Xv g o y=false→∀(f':Fr) (fr':Nat→Ob),f' 4=.ptr 0 4 0→f' 5=.ptr 0 5 0→f' 6=.ptr 0 6 0→f' 7=.ptr 0 7 0→f' 8=.ptr 0 8 0→f' 9=.ptr 0 9 0→f' 10=.int .i64 ((i+1:Nat):Int)→fr' 4=.cells g.cells→fr' 5=.cells (vc v)→fr' 6=.cells o.cells→fr' 7=.cells (vc x)→fr' 8=.cells XJ→fr' 9=.cells [.int .i64 10,.int .u64 0,.str [],.nils,.nils,.vec 0 1100 (n+1) 0 ((K i).length+1) false,.list (v.raws.map R.av)]→fr' 1100=.vec (n+1) 8 ((K i).map V.sav++[V.sav y])→(fr' 11).isRow=false→∃k,k<v.slots.length-i∧PuI g v o x K k ⟨f',[fr'],[]⟩:=by
   intro hd f' fr' a4 a5 a6 a7 a8 a9 a10 b4 b5 b6 b7 b8 b9 bS br;rw[QPO (by rw[hd];simp)]at hKy;exact⟨v.slots.length-(i+1),by omega,f',fr',i+1,n+1,rfl,rfl,by omega,a4,a5,a6,a7,a8,a9,a10,b4,b5,b6,b7,b8,by rw[b9,hKy,QQe];rfl,by rw[bS,hKy,QRl];rfl,br⟩
  cases hb:(y.1==o.num)
  ·have hb':(y.1 != o.num)=true:=by simp[bne,hb]
   rw[hb,QRj]at hdd;cases hu:(o.union == -1)
   ·have hu':decide (o.union≥0)=true:=by simp at hu ⊢;omega
    rw[hu',QRf]at hdd;cases hqu:(q.union==o.union)
    ·have hqu':(q.union != o.union)=true:=by simp[bne,hqu]
     rw[hqu]at hdd;simp only[hb',hu,hqu',Qm,QQ2,Qf,hgs,h5,h6,h9,h10,m5,m6,m9,eE,seval];refine QN (l:=[V.sav y]) rfl rfl rfl (by rw[ZJ];rfl) ?_;refine QF (site:=1100) (g:=n) (n:=(K i).length) (xs:=(K i).map V.sav) (ys:=[V.sav y]) (by rfl) (by exact mS) rfl (by rw[QQu]) rfl (JK [y]) (by simp only[QPP,QQv,maxLen];omega) (by simp only[QPP,QQv];omega) ?_;simp only[h9,h10,m9,e1,eE,seval];exact keep hdd _ _ (by exact h4) (by exact h5) (by exact h6) (by exact h7) (by exact h8) (by exact h9) (by rfl) (by exact m4') (by exact m5') (by exact m6') (by exact m7') (by exact m8') (by rfl) (by rfl) (by rfl)
    ·have hqu':(q.union != o.union)=false:=by simp[bne,hqu]
     rw[hqu]at hdd;simp only[hb',hu,hqu',h6,h10,m6,e1,eE,seval];exact skip hdd _ _ (by exact h4) (by exact h5) (by exact h6) (by exact h7) (by exact h8) (by exact h9) (by rfl) (by exact m4') (by exact m5') (by exact m6') (by exact m7') (by exact m8') (by rfl) (by rfl) (by rfl)
   ·have hu':decide (o.union≥0)=false:=by simp at hu ⊢;omega
    rw[hu',QQ5]at hdd;simp only[hb',hu,Qm,QQ2,Qf,hgs,h5,h6,h9,h10,m5,m6,m9,eE,seval];refine QN (l:=[V.sav y]) rfl rfl rfl (by rw[ZJ];rfl) ?_;refine QF (site:=1100) (g:=n) (n:=(K i).length) (xs:=(K i).map V.sav) (ys:=[V.sav y]) (by rfl) (by exact mS) rfl (by rw[QQu]) rfl (JK [y]) (by simp only[QPP,QQv,maxLen];omega) (by simp only[QPP,QQv];omega) ?_;simp only[h9,h10,m9,e1,eE,seval];exact keep hdd _ _ (by exact h4) (by exact h5) (by exact h6) (by exact h7) (by exact h8) (by exact h9) (by rfl) (by exact m4') (by exact m5') (by exact m6') (by exact m7') (by exact m8') (by rfl) (by rfl) (by rfl)
  ·have hb':(y.1 != o.num)=false:=by simp[bne,hb]
   rw[hb,QRi]at hdd;simp only[hb',h10,e1,Qb,seval];exact skip hdd _ _ (by exact h4) (by exact h5) (by exact h6) (by exact h7) (by exact h8) (by exact h9) (by rfl) (by exact m4') (by exact m5') (by exact m6') (by exact m7') (by exact m8') (by rfl) (by rfl) (by rfl)
 ·have e:i=v.slots.length:=by omega
  subst e;simp only[QO hlt,h6,h7,h9,m6,m9,m7,eE,seval];refine QN (l:=[V.sav (o.num,x)]) rfl rfl rfl (by rw[ZJ];rfl) ?_;refine QF (site:=1100) (g:=n) (n:=(K v.slots.length).length) (xs:=(K v.slots.length).map V.sav) (ys:=[V.sav (o.num,x)]) (by rfl) (by exact mS) rfl (by rw[QQu]) rfl (JK [(o.num,x)]) (by simp only[QPP,QQv,maxLen];omega) (by simp only[QPP,QQv];omega) ?_;simp only[h8,h9,m9,m8,eE,seval];have hk:List.take ((K v.slots.length).length+1) ((K v.slots.length).map V.sav++[V.sav (o.num,x)])=(K v.slots.length).map V.sav++[V.sav (o.num,x)]:=QQa (by simp);simp[hk,AV.un,AV.unL,Zp,XD]

theorem j77 (v:V)(x:R)(hl:v.raws.length≤1048576):Qh Tryz.prog 77 [v.av,x.av] (Wh v x).av:=by
 rw[show(Wh v x).av=.agg [.int .i64 v.kd,.int .u64 (v.bits:Nat),.str v.text,.list (v.list.map V.av),.list (v.pairs.map V.pav),.list (v.slots.map V.sav),.list (v.raws.map R.av++[x.av])]from by
  rw[Qc];show AV.agg [.int .i64 v.kd,.int .u64 (v.bits:Nat),.str v.text,.list (v.list.map V.av),.list (v.pairs.map V.pav),.list (v.slots.map V.sav),.list ((v.raws++[x]).map R.av)]=_;rw[QRl];rfl]
 rw[Qc v];refine k77.fn (by simp) ?_;simp only[R.av,eE,seval];refine XN rfl ?_;simp only[eE,seval];refine QF (site:=5) (g:=_) (n:=0) (xs:=[]) (ys:=v.raws.map R.av) (by simp only[Qb,seval]<;>rfl) (by simp only[Qb,seval]<;>rfl) rfl rfl rfl (Ud v.raws) (by simp[maxLen];omega) (by simp;omega) ?_;simp only[QQu,QPX,QQi,eE,seval];refine QN (l:=[x.av]) rfl rfl rfl rfl ?_;refine QF (site:=5) (g:=_) (n:=v.raws.length) (xs:=v.raws.map R.av) (ys:=[x.av]) (by simp only[Qb,seval]<;>rfl) (by simp only[Qb,seval]<;>rfl) rfl (by simp) rfl (Ud [x]) (by simp[maxLen];omega) (by simp;omega) ?_;simp only[eE,seval];have hk:List.take (v.raws.length+1) (v.raws.map R.av++[x.av])=v.raws.map R.av++[x.av]:=QQa (by simp);simp only[R.av]at hk;simp[hk,AV.un,AV.unL,Zp,XD,R.av]

theorem Qtt (g:PG)(v:V)(o:PO)(x:V)(hg:g.ops.length≤maxLen)(hl:v.slots.length≤1048576)(hs:∀s∈v.slots,∃q,XL g s.1=some q)(hun : -1≤o.union)(hol:(QL v o.num).list.length≤1048576):Qh Tryz.prog 134 [Qp g,v.av,Qv o,x.av] (Xi g v o (Q8 ((QL v o.num).list++[x]))).av:=by
 have hge:=Vv v o.num (by omega);have hpu:=B3 g v o (Q8 ((QL v o.num).list++[x])) hg hl hs hun;generalize QL v o.num=z at hge hpu hol ⊢;rw[show(Q8 (z.list++[x])).av=.agg [.int .i64 11,.int .u64 0,.str [],.list (z.list.map V.av++[x.av]),.list [],.list [],.list []]from by
  rw[Qc];show AV.agg [.int .i64 11,.int .u64 0,.str [],.list ((z.list++[x]).map V.av),.list [],.list [],.list []]=_;rw[QRl];rfl]at hpu
 generalize Xi g v o (Q8 (z.list++[x]))=w at hpu ⊢;have hx7:=Qc x;rw[Qc v,Qc z]at hge;rw[Qc v,Qc w]at hpu;simp only[Qp,Qv,PG.cells,PO.cells]at hpu;rw[Qc v,Qc w,hx7];refine QKd.fn (by simp) ?_;simp only[Qp,Qv,PG.cells,PO.cells,eE,seval];refine Qa hge rfl rfl rfl (.inl rfl) ?_;simp only[eE,seval];refine XN rfl ?_;simp only[eE,seval];refine QF (site:=21) (g:=_) (n:=0) (xs:=[]) (ys:=z.list.map V.av) (by simp only[Qb,seval]<;>rfl) (by simp only[Qb,seval]<;>rfl) rfl rfl rfl (HW z.list) (by simp[maxLen];omega) (by simp;omega) ?_;simp only[QQu,QPX,QQi,eE,seval];refine QN (l:=[x.av]) rfl rfl rfl (by rw[hx7];rfl) ?_;refine MU (site:=21) (g:=_) (n:=z.list.length) (xs:=z.list.map V.av) (ys:=[x.av]) (by simp only[Qb,seval]<;>rfl) (by simp only[Qb,seval]<;>rfl) rfl (by simp) rfl (HW [x]) (by simp[maxLen];omega) (by simp;omega) ?_;simp only[eE,seval];refine Qa hpu rfl rfl rfl (.inl rfl) ?_;simp only[eE,seval]

def Q4 (P:PL)(c:C):Ob:=.cells [.list (P.progs.map Qp),.list (P.enums.map QW),.str c.d,.int .i64 c.a,.int .i64 c.e,.int .i64 c.dp,.int .i64 c.nd,.int .i64 c.tx]

def Rt (P:PL)(l s:Nat)(m:Qj){α:Type}(f:α→AV)(r:Rd α)(x:AV)(m1:Qj):Prop :=
 match r with
 |.ok (a,d)=>x=.tup [f a,.int .i64 0]∧m1=Am.put m l s (Q4 P d)
 |.error e=>e≠0∧∃a d,x=.tup [f a,.int .i64 (e:Nat)]∧m1=Am.put m l s (Q4 P d)

theorem put_put {m:Qj}{l s:Nat}{o q:Ob}:Am.put (Am.put m l s o) l s q=Am.put m l s q:=by
 induction m generalizing l with
 |nil=>rfl
 |cons fr m ih=>
  cases l with
  |zero=>
   show QI (QI fr s o) s q :: m=QI fr s q :: m;rw[NF]
  |succ l=>exact congrArg (fr :: ·) ih
theorem put_self {m:Qj}{l s:Nat}{o:Ob}(hm:l<m.length)(h:Am.Qd m l s=o):Am.put m l s o=m:=by
 induction m generalizing l with
 |nil=>rfl
 |cons fr m ih=>
  cases l with
  |zero=>
   show QI fr s o :: m=fr :: m;congr 1
   funext i;by_cases e:i=s
   ·subst e;rw[Xf];exact h.symm
   ·rw[Xd _ _ e]
  |succ l=>exact congrArg (fr :: ·) (ih (by simpa using hm) h)

theorem ZP (d:List UInt8)(a e dp nd tx:Int):∀n,AV.shNL n [.str d,.int .i64 a,.int .i64 e,.int .i64 dp,.int .i64 nd,.int .i64 tx]=[.str d,.int .i64 a,.int .i64 e,.int .i64 dp,.int .i64 nd,.int .i64 tx]
 |0=>rfl
 |n+1=>by show AV.shL (AV.shNL n _)=_;rw[ZP d a e dp nd tx n];rfl
theorem sh2 (a b:List AV):∀n,AV.shNL n [.list a,.list b]=[.list a,.list b]
 |0=>rfl
 |n+1=>by show AV.shL (AV.shNL n _)=_;rw[sh2 a b n];rfl
theorem Kr (k:IntKind)(v:Int):∀n,(AV.int k v).shN n=.int k v
 |0=>rfl
 |n+1=>by show(AV.shN n _).sh=_;rw[Kr k v n];rfl
theorem shl (a:List AV):∀n,(AV.list a).shN n=.list a
 |0=>rfl
 |n+1=>by show(AV.shN n _).sh=_;rw[shl a n];rfl
theorem ZB (d:List UInt8)(a e dp nd tx:Int):∀n,AV.unNL n [.str d,.int .i64 a,.int .i64 e,.int .i64 dp,.int .i64 nd,.int .i64 tx]=some [.str d,.int .i64 a,.int .i64 e,.int .i64 dp,.int .i64 nd,.int .i64 tx]
 |0=>rfl
 |n+1=>by
  show(AV.unL _).bind (AV.unNL n)=_;exact ZB d a e dp nd tx n
theorem P3 (k:IntKind)(v:Int):∀n,AV.unNL n [.int k v]=some [.int k v]
 |0=>rfl
 |n+1=>by
  show(AV.unL _).bind (AV.unNL n)=_;exact P3 k v n

def Db:AV→AV
 |.agg l=>.agg (l.map nn0)
 |x=>x
theorem Rep.nz {G:Gh}{x:AV}{v:Value}(h:Rep G x v):Rep G (Db x) v:=by
 unfold Db;split
 ·cases h with
  |agg h=>exact .agg h.nn0
 ·exact h
theorem RepL.nz {G:Gh}:∀ {l:List AV} {vs:List Value},RepL G l vs→RepL G (l.map Db) vs
 | [],_,h=>by cases h;exact .nil
 |_ :: _,_,h=>by
  cases h with
  |cons h t=>exact .cons (Rep.nz h) (RepL.nz t)
theorem Ka {P:Program}{f:Fr}{m:Qj}{ds:List DF}{K:St→Prop}{Qe:List Am.Item}{d k:Nat}{args:List RA}{ys:List AV}{R:AV→Qj→Prop}(hk:Qx P k ys m R)(hy:(args.map (RA.ev f)).map Db=ys)(h:∀x m',R x m'→m'.length=m.length→QD P Qe ⟨QI f d x,m',ds⟩ K) :
  QD P (⟨some d,.callG (.f k) args,none⟩ :: Qe) ⟨f,m,ds⟩ K :=
 QJ ⟨hk.1,fun G w vs hv hm=>hk.2 G w vs (by rw[←hy];exact RepL.nz hv) hm⟩ rfl h

theorem QR (m:Qj)(l s:Nat)(o:Ob):(Am.put m l s o).length=m.length:=by
 induction m generalizing l with
 |nil=>rfl
 |cons fr m ih=>
  cases l with
  |zero=>rfl
  |succ l=>exact congrArg (· + 1) (ih l)

section
variable (P:PL)(c:C)(l s:Nat)(m:Qj)(hm:l<m.length)(hs:Am.Qd m l s=Q4 P c)

include hs in
theorem B4 (n:Int) :
  Qx Tryz.prog 25 [.ptr l s 0,.int .i64 n] m fun x m1=>x=.int .i64 ((c.spend n).2:Nat)∧m1=Am.put m l s (Q4 P (c.spend n).1):=by
 simp only[Q4]at hs;refine k25.go (by simp) ?_;simp only[hs,ZP,eE,seval];refine Qa (c47 c n) rfl rfl rfl (.inl rfl) ?_;generalize c.spend n=r;obtain⟨c',e⟩:=r;simp only[Z6,C.av,Q4,hs,ZP,ZB,QR,eE,seval]

include hs hm in
theorem C1 (hc:CI c):Qx Tryz.prog 142 [.ptr l s 0] m (Rt P l s m (fun n:Nat=>.int .i64 (n:Nat)) (Jd c)):=by
 have hs0:=hs;simp only[Q4]at hs;refine Qdt.go (by simp) ?_;simp only[hs,ZP,eE,seval];refine Qa (Vo c hc.big) rfl rfl rfl (.inl rfl) ?_;have hva:=JJ hc;have hln:Jd c=if c.varint.2.2=0 then(if c.varint.2.1.left<(c.varint.1:Int)then .error 4 else .ok (c.varint.1,c.varint.2.1))else .error c.varint.2.2:=rfl
 generalize c.varint=r at hva hln ⊢;obtain⟨u,d,e⟩:=r;dsimp only at hva hln;by_cases he:e=0
 ·subst he;obtain⟨ha,hu⟩:=hva rfl;have hd:=ha.ci hc;have hdl:=hd.bd;rw[QP5 rfl]at hln;have w1:IntKind.u64.wrap d.left=d.left:=by rw[XY];omega
  simp only[X4,C.av,ZP,ZB,eE,seval];refine Qa (D3 d hd.big') rfl rfl rfl (.inl rfl) ?_;by_cases hlt:d.left<(u:Int)
  ·have d1:decide ((u:Int) > d.left)=true:=QRs hlt;rw[QP5 hlt]at hln;rw[hln];simp only[w1,d1,Qb,seval];exact⟨by decide,0,c,rfl,(put_self hm hs0).symm⟩
  ·have d1:decide ((u:Int) > d.left)=false:=QRo hlt;have w2:IntKind.i64.wrap (u:Int)=u:=by rw[QB];omega
   rw[QPO hlt]at hln;rw[hln];simp only[w1,w2,d1,hs,ZP,ZB,QR,eE,seval];exact⟨rfl,rfl⟩
 ·rw[QPO he]at hln;rw[hln];simp only[X4,C.av,Qu he,ZB,eE,seval];exact⟨he,0,c,rfl,(put_self hm hs0).symm⟩

include hs hm in
theorem Qtv (hc:CI c)(w:Int):Qx Tryz.prog 151 [.ptr l s 0,.int .i64 w] m (Rt P l s m R.av (Kp w c)):=by
 have hs0:=hs;have lp:∀o,Am.Qd (Am.put m l s o) l s=o:=fun o=>Ql hm
 have pp:∀o q,Am.put (Am.put m l s o) l s q=Am.put m l s q:=fun o q=>put_put
 simp only[Q4]at hs;refine Qex.go (by simp) ?_;simp only[eE,seval];by_cases h3:w=3
 ·have b3:(w==3)=true:=by simp[h3]
  simp only[b3,Qb,seval];refine QJ (C1 P c (l+1) s _ (Nat.succ_lt_succ hm) hs0 hc) (by simp only[QP8,QQB,Qb,seval]) ?_;intro x m1 hx _;cases hr:Jd c with
  |error e=>
   have hrc:Kp w c=.error e:=by unfold Kp;rw[QP5 h3,hr]
   rw[hr]at hx;obtain⟨he,a,c',rfl,rfl⟩:=hx;rw[hrc];simp only[Qu he,QR,eE,seval];exact⟨he,⟨0,w,0,[]⟩,c',rfl,rfl⟩
  |ok p=>
   obtain⟨n,d⟩:=p;obtain⟨a1,a2⟩:=Jn hc hr;have hd:=a1.ci hc;have hrc:Kp w c=if (text d n).2.2=0 then .ok (⟨0,w,0,(text d n).1⟩,(text d n).2.1)else .error (text d n).2.2:=by unfold Kp;rw[QP5 h3,hr]
   rw[hr]at hx;obtain⟨rfl,rfl⟩:=hx;simp only[Q4,lp,ZP,eE,seval];refine Qa (QK1 d n hd.inr hd.big') rfl rfl rfl (.inl rfl) ?_;rw[hrc];generalize text d n=q;obtain⟨t,i,e⟩:=q;dsimp only;simp only[HU,C.av,lp,pp,ZB,QR,eE,seval];by_cases he:e=0
   ·subst he;rw[QP5 rfl];exact⟨rfl,rfl⟩
   ·rw[QPO he];exact⟨he,⟨0,w,0,t⟩,i,rfl,rfl⟩
 have b3:(w==3)=false:=by simp[h3]
 by_cases h2:w=2
 ·have b2:(w==2)=true:=by simp[h2]
  simp only[b3,b2,hs,ZP,eE,seval];refine Qa (Qtd c hc.big) rfl rfl rfl (.inl rfl) ?_;have hrc:Kp w c=if c.fixed.2.2=0 then .ok (⟨0,w,c.fixed.1,[]⟩,c.fixed.2.1)else .error c.fixed.2.2:=by unfold Kp;rw[QPO h3,QP5 h2]
  rw[hrc];generalize c.fixed=q;obtain⟨t,i,e⟩:=q;dsimp only;simp only[X4,C.av,hs,ZB,P3,QR,eE,seval];by_cases he:e=0
  ·subst he;rw[QP5 rfl];exact⟨rfl,rfl⟩
  ·rw[QPO he];exact⟨he,⟨0,w,t,[]⟩,i,rfl,rfl⟩
 ·have b2:(w==2)=false:=by simp[h2]
  simp only[b3,b2,hs,ZP,eE,seval];refine Qa (Vo c hc.big) rfl rfl rfl (.inl rfl) ?_;have hrc:Kp w c=if c.varint.2.2=0 then .ok (⟨0,w,c.varint.1,[]⟩,c.varint.2.1)else .error c.varint.2.2:=by unfold Kp;rw[QPO h3,QPO h2]
  rw[hrc];generalize c.varint=q;obtain⟨t,i,e⟩:=q;dsimp only;simp only[X4,C.av,hs,ZB,P3,QR,eE,seval];by_cases he:e=0
  ·subst he;rw[QP5 rfl];exact⟨rfl,rfl⟩
  ·rw[QPO he];exact⟨he,⟨0,w,t,[]⟩,i,rfl,rfl⟩

include hs in
theorem Qtw (n:Nat) :
  Qx Tryz.prog 143 [.ptr l s 0,.int .i64 (n:Nat)] m fun x m1=>x=c.av∧m1=Am.put m l s (Q4 P (part c n)):=by
 simp only[Q4]at hs;refine QdA.go (by simp) ?_;simp only[hs,ZP,Kr,ZB,P3,QR,part,Q4,C.av,eE,seval]

include hs in
theorem C2 (o:C) :
  Qx Tryz.prog 145 [.ptr l s 0,o.av] m fun x m1=>x=.tup []∧m1=Am.put m l s (Q4 P (X0 o c)):=by
 simp only[Q4]at hs;refine QdG.go (by simp) ?_;simp only[hs,ZP,Kr,ZB,P3,QR,X0,Q4,C.av,eE,seval]

end

theorem XO (k:Int)(b:Nat)(t:List UInt8):(Qs k b t).av=.agg [.int .i64 k,.int .u64 (b:Nat),.str t,.list [],.list [],.list [],.list []]:=Qc _
def X6 (r:V×Nat):AV:=.tup [r.1.av,.int .i64 (r.2:Nat)]
theorem B5 {k:Int}{b:Nat}(hk:isk k=true)(ht:XZ k=false):ZI k k b [] [] [] [] []=Jf k b:=by
 have k7:(k != 7)=true:=by
  unfold XZ at ht;rw[QQt,QRk]at ht;simp[ht.1]
 unfold ZI;rw[hk,ht,k7];simp[Wt]

section
variable (n:Int)(s a:List UInt8)(c y k t u:Int)
theorem QLs:Qh Tryz.prog 93 [oc n s a c y k t u] (.int .i64 (wk k)):=P0 ⟨n,s,a,c,y,k,t,u⟩
theorem C3:Qh Tryz.prog 132 [oc n s a c y k t u] (oc n s a 2 y k t u):=by
 refine QKa.fn (by simp) ?_;simp only[oc,eE,seval]
theorem DD:Qh Tryz.prog 81 [oc n s a c y k t u] (.int .i64 (wk k)):=by
 have hS:=C3 n s a c y k t u;have hw:=QKf n s a 2 y k t u;have e:Ho 2 k=wk k:=by unfold Ho pk;simp
 rw[e]at hw;simp only[oc]at hw hS;refine k81.fn (by simp) ?_;simp only[oc,eE,seval];refine Qa hS rfl rfl rfl (.inl rfl) ?_;refine Qa hw rfl rfl rfl (.inl rfl) ?_;simp only[Qb,seval]
end

theorem B6 (b:Nat)(_hb:b<18446744073709551616):IntKind.u64.wrap (BB b)=(Xu 1 b:Int)∧Xu 1 b<18446744073709551616:=by
 unfold Xu;rw[QP5 rfl,XY];omega

theorem P4 {k:Int}(hk:isk k=true)(h:wk k≠3):XZ k=false:=by
 unfold wk at h;unfold XZ;rw[QQt,QRk,QRk];refine⟨fun e=>?_,fun e=>?_⟩<;>(subst e;exact h (by decide))

section
variable {M:Nat}(P:PL)(hP:P.ok M)
include hP in
theorem QEy (n:Int)(s a:List UInt8)(c y k t u:Int)(f:R)(hb:f.bits<18446744073709551616) :
    Qh Tryz.prog 152 [P.av,oc n s a c y k t u,f.av] (X6 (Xb P k t f)):=by
  have hw:=QLs n s a c y k t u;have hacc:∀b,_:=fun b=>QKL P hP t b
  have e0:P.av=.agg [.list (P.progs.map Qp),.list (P.enums.map QW)]:=rfl;simp only[oc]at hw;simp only[e0]at hacc;have hfn:∀B:Nat,XZ k=false→isk k=true→Qh Tryz.prog 186 [.int .i64 k,.agg [.int .i64 k,.int .u64 (B:Nat),.str [],.list [],.list [],.list [],.list []]] (.bool (Jf k B)):=fun B h1 h2=>by
    have h:=QKA k k B [] [] [] [] [] (QPJ _) (QPJ _) (QPJ _) (QPJ _);rw[B5 h2 h1]at h;exact h
  have hnm:∀B:Nat,B<18446744073709551616→Qh Tryz.prog 104 [.agg [.int .i64 k,.int .u64 (B:Nat),.str [],.list [],.list [],.list [],.list []]] (.agg [.int .i64 k,.int .u64 ((ZE k B:Nat):Int),.str [],.list [],.list [],.list [],.list []]):=fun B hB=>by
    have h:=Sj (Qs k B []) hB;rw[G6,XO]at h;exact h
  refine QeK.fn (by simp) ?_;simp only[e0,oc,R.av,eE,seval];refine Qa (Bf k) rfl rfl rfl (.inl rfl) ?_;cases hk:isk k
  · have hs:Xb P k t f=(Qs 0 0 [],12):=by unfold Xb;rw[QPO (by rw[hk];decide)]
    simp only[hs,X6,XO,splice,QP9,QQI,QQc,QQj,QPX,QPP,QQv,eE,seval]
    try rfl
  simp only[eE,seval];refine Qa hw rfl rfl rfl (.inl rfl) ?_;by_cases h1:f.wire=wk k
  case neg=>
    have hs:Xb P k t f=(Qs 0 0 [],13):=by unfold Xb;rw[QP5 hk,QPO h1]
    have b1:(f.wire != wk k)=true:=by simp[h1]
    simp only[b1,hs,X6,XO,splice,QP9,QQI,QQc,QQj,QPX,QPP,QQv,eE,seval]
    try rfl
  have b1:(f.wire != wk k)=false:=by simp[h1]
  simp only[b1,eE,seval];by_cases h3:f.wire=3
  · have b3:(f.wire==3)=true:=by simp[h3]
    simp only[b3,eE,seval];by_cases h7:k=7
    · have b7:(k==7)=true:=by simp[h7]
      simp only[b7,eE,seval];refine Qa (QsI f.data) rfl rfl rfl (.inl rfl) ?_;cases hv:YD f.data
      · have hs:Xb P k t f=(Qs 0 0 [],7):=by unfold Xb;rw[QP5 hk,QP5 h1,QP5 h3,QP5 ⟨h7,hv⟩]
        simp only[hs,X6,XO,splice,QP9,QQI,QQc,QQj,QPX,QPP,QQv,eE,seval]
        try rfl
      · have hs:Xb P k t f=(Qs k 0 f.data,0):=by unfold Xb;rw[QP5 hk,QP5 h1,QP5 h3,QPO (by rw[hv];simp)]
        simp only[hs,X6,XO,splice,QP9,QQI,QQc,QQj,QPW,QPX,QPP,QQv,eE,seval]
        try rfl
    · have b7:(k==7)=false:=by simp[h7]
      have hs:Xb P k t f=(Qs k 0 f.data,0):=by unfold Xb;rw[QP5 hk,QP5 h1,QP5 h3,QPO (by simp[h7])]
      simp only[b7,hs,X6,XO,splice,QP9,QQI,QQc,QQj,QPW,QPX,QPP,QQv,eE,seval]
      try rfl
  have b3:(f.wire==3)=false:=by simp[h3]
  have htx:=P4 hk (h1▸h3);simp only[b3,splice,QP9,QQI,QQc,QQj,QPW,QPX,QPP,QQv,eE,seval];have hfit:∀B:Nat,B=Xu f.wire f.bits→Jf k B=false→Xb P k t f=(Qs 0 0 [],6):=by
    intro B e hh;unfold Xb;rw[QP5 hk,QP5 h1,QPO h3,←e,QPO (by rw[hh];decide)]
  have hen:∀B:Nat,B=Xu f.wire f.bits→Jf k B=true→k=9→Jb P.enums t B=false→Xb P k t f=(Qs 0 0 [],16):=by
    intro B e hh h9 ha;unfold Xb;rw[QP5 hk,QP5 h1,QPO h3,←e,QP5 hh,QP5 ⟨h9,ha⟩]
  have hno:∀B:Nat,B=Xu f.wire f.bits→Jf k B=true→(k=9→Jb P.enums t B=true)→Xb P k t f=(Qs k (ZE k B) [],0):=by
    intro B e hh ha;unfold Xb;rw[QP5 hk,QP5 h1,QPO h3,←e,QP5 hh,QPO (by rintro⟨h9,hf⟩;rw[ha h9]at hf;cases hf)]
  have hz:=QLa (f.bits:Int) (by omega) (by omega);obtain⟨hzw,hzl⟩:=B6 f.bits hb;by_cases hw1:f.wire=1
  all_goals
    first
      | (have bw:(f.wire==1)=true:=by simp[hw1]
         simp only[bw,eE,seval];refine Qa hz rfl rfl rfl (.inl rfl) ?_;simp only[hzw,splice,QP9,QQI,QQc,QQj,QPW,QPX,QPP,QQv,eE,seval];have eB:Xu 1 f.bits=Xu f.wire f.bits:=by rw[hw1]
         have hB:=hzl;generalize Xu 1 f.bits=B at eB hB)
      | (have bw:(f.wire==1)=false:=by simp[hw1]
         simp only[bw,QP9,QQj,QPP,QQv,eE,seval];obtain⟨B,hBe⟩:∃B,f.bits=B:=⟨_,rfl⟩;rw[hBe];have eB:B=Xu f.wire f.bits:=by unfold Xu;rw[QPO hw1];exact hBe.symm
         have hB:=hb;rw[hBe]at hB)
    refine Qa (hfn _ htx hk) rfl rfl rfl (.inl rfl) ?_;cases hft:Jf k B
    · simp only[hfit B eB hft,X6,XO,splice,QP9,QQI,QQc,QQj,QPX,QPP,QQv,eE,seval]
      try rfl
    simp only[eE,seval];by_cases h9:k=9
    · have b9:(k==9)=true:=by simp[h9]
      simp only[b9,eE,seval];refine Qa (hacc B) rfl rfl rfl (.inl rfl) ?_;cases ha:Jb P.enums t B
      · simp only[hen B eB hft h9 ha,X6,XO,splice,QP9,QQI,QQc,QQj,QPX,QPP,QQv,eE,seval]
        try rfl
      · simp only[eE,seval];refine Qa (hnm _ hB) rfl rfl rfl (.inl rfl) ?_;simp only[hno B eB hft (fun _=>ha),X6,XO,splice,QP9,QQI,QQc,QQj,QPX,QPP,QQv,eE,seval]
    · have b9:(k==9)=false:=by simp[h9]
      simp only[b9,eE,seval];refine Qa (hnm _ hB) rfl rfl rfl (.inl rfl) ?_;simp only[hno B eB hft (fun h=>absurd h h9),X6,XO,splice,QP9,QQI,QQc,QQj,QPX,QPP,QQv,eE,seval]

include hP in
theorem QEz (n:Int)(s a:List UInt8)(c y k t u:Int)(f:R)(hb:f.bits<18446744073709551616)(hd:f.data.length+8≤maxLen) :
    Qh Tryz.prog 136 [P.av,oc n s a c y k t u,f.av] (X6 (Xb P k t f)):=by
  have hw:=DD n s a c y k t u;have hacc:∀b,_:=fun b=>QKM P hP t b
  have e0:P.av=.agg [.list (P.progs.map Qp),.list (P.enums.map QW)]:=rfl;simp only[oc]at hw;simp only[e0]at hacc;have hfn:∀B:Nat,XZ k=false→isk k=true→Qh Tryz.prog 169 [.int .i64 k,.agg [.int .i64 k,.int .u64 (B:Nat),.str [],.list [],.list [],.list [],.list []]] (.bool (Jf k B)):=fun B h1 h2=>by
    have h:=QKS k k B [] [] [] [] [] (by decide);rw[B5 h2 h1]at h;exact h
  have hnm:∀B:Nat,B<18446744073709551616→Qh Tryz.prog 86 [.agg [.int .i64 k,.int .u64 (B:Nat),.str [],.list [],.list [],.list [],.list []]] (.agg [.int .i64 k,.int .u64 ((ZE k B:Nat):Int),.str [],.list [],.list [],.list [],.list []]):=fun B hB=>by
    have h:=v86 (Qs k B []) hB;rw[G6,XO]at h;exact h
  refine QJM.fn (by simp) ?_;simp only[e0,oc,R.av,eE,seval];refine Qa (Dq k) rfl rfl rfl (.inl rfl) ?_;cases hk:isk k
  · have hs:Xb P k t f=(Qs 0 0 [],12):=by unfold Xb;rw[QPO (by rw[hk];decide)]
    simp only[hs,X6,XO,splice,QP9,QQI,QQc,QQj,QPX,QPP,QQv,eE,seval]
    try rfl
  simp only[eE,seval];refine Qa hw rfl rfl rfl (.inl rfl) ?_;by_cases h1:f.wire=wk k
  case neg=>
    have hs:Xb P k t f=(Qs 0 0 [],13):=by unfold Xb;rw[QP5 hk,QPO h1]
    have b1:(f.wire != wk k)=true:=by simp[h1]
    simp only[b1,hs,X6,XO,splice,QP9,QQI,QQc,QQj,QPX,QPP,QQv,eE,seval]
    try rfl
  have b1:(f.wire != wk k)=false:=by simp[h1]
  simp only[b1,eE,seval];by_cases h3:f.wire=3
  · have b3:(f.wire==3)=true:=by simp[h3]
    simp only[b3,eE,seval];by_cases h7:k=7
    · have b7:(k==7)=true:=by simp[h7]
      simp only[b7,eE,seval];refine Qa (Ck f.data hd) rfl rfl rfl (.inl rfl) ?_;cases hv:YD f.data
      · have hs:Xb P k t f=(Qs 0 0 [],7):=by unfold Xb;rw[QP5 hk,QP5 h1,QP5 h3,QP5 ⟨h7,hv⟩]
        simp only[hs,X6,XO,splice,QP9,QQI,QQc,QQj,QPX,QPP,QQv,eE,seval]
        try rfl
      · have hs:Xb P k t f=(Qs k 0 f.data,0):=by unfold Xb;rw[QP5 hk,QP5 h1,QP5 h3,QPO (by rw[hv];simp)]
        simp only[hs,X6,XO,splice,QP9,QQI,QQc,QQj,QPW,QPX,QPP,QQv,eE,seval]
        try rfl
    · have b7:(k==7)=false:=by simp[h7]
      have hs:Xb P k t f=(Qs k 0 f.data,0):=by unfold Xb;rw[QP5 hk,QP5 h1,QP5 h3,QPO (by simp[h7])]
      simp only[b7,hs,X6,XO,splice,QP9,QQI,QQc,QQj,QPW,QPX,QPP,QQv,eE,seval]
      try rfl
  have b3:(f.wire==3)=false:=by simp[h3]
  have htx:=P4 hk (h1▸h3);simp only[b3,Qb,seval];have hfit:∀B:Nat,B=Xu f.wire f.bits→Jf k B=false→Xb P k t f=(Qs 0 0 [],6):=by
    intro B e hh;unfold Xb;rw[QP5 hk,QP5 h1,QPO h3,←e,QPO (by rw[hh];decide)]
  have hen:∀B:Nat,B=Xu f.wire f.bits→Jf k B=true→k=9→Jb P.enums t B=false→Xb P k t f=(Qs 0 0 [],16):=by
    intro B e hh h9 ha;unfold Xb;rw[QP5 hk,QP5 h1,QPO h3,←e,QP5 hh,QP5 ⟨h9,ha⟩]
  have hno:∀B:Nat,B=Xu f.wire f.bits→Jf k B=true→(k=9→Jb P.enums t B=true)→Xb P k t f=(Qs k (ZE k B) [],0):=by
    intro B e hh ha;unfold Xb;rw[QP5 hk,QP5 h1,QPO h3,←e,QP5 hh,QPO (by rintro⟨h9,hf⟩;rw[ha h9]at hf;cases hf)]
  have hz:=QLb (f.bits:Int) (by omega) (by omega);obtain⟨hzw,hzl⟩:=B6 f.bits hb;by_cases hw1:f.wire=1
  all_goals
    first
      | (have bw:(f.wire==1)=true:=by simp[hw1]
         simp only[bw,eE,seval];refine Qa hz rfl rfl rfl (.inl rfl) ?_;simp only[hzw,splice,QP9,QQI,QQc,QQj,QPW,QPX,QPP,QQv,eE,seval];have eB:Xu 1 f.bits=Xu f.wire f.bits:=by rw[hw1]
         have hB:=hzl;generalize Xu 1 f.bits=B at eB hB)
      | (have bw:(f.wire==1)=false:=by simp[hw1]
         simp only[bw,splice,QP9,QQI,QQc,QQj,QPW,QPX,QPP,QQv,eE,seval];obtain⟨B,hBe⟩:∃B,f.bits=B:=⟨_,rfl⟩;rw[hBe];have eB:B=Xu f.wire f.bits:=by unfold Xu;rw[QPO hw1];exact hBe.symm
         have hB:=hb;rw[hBe]at hB)
    refine Qa (hfn _ htx hk) rfl rfl rfl (.inl rfl) ?_;cases hft:Jf k B
    · simp only[hfit B eB hft,X6,XO,splice,QP9,QQI,QQc,QQj,QPX,QPP,QQv,eE,seval]
      try rfl
    simp only[eE,seval];by_cases h9:k=9
    · have b9:(k==9)=true:=by simp[h9]
      simp only[b9,eE,seval];refine Qa (hacc B) rfl rfl rfl (.inl rfl) ?_;cases ha:Jb P.enums t B
      · simp only[hen B eB hft h9 ha,X6,XO,splice,QP9,QQI,QQc,QQj,QPX,QPP,QQv,eE,seval]
        try rfl
      · simp only[eE,seval];refine Qa (hnm _ hB) rfl rfl rfl (.inl rfl) ?_;simp only[hno B eB hft (fun _=>ha),X6,XO,splice,QP9,QQI,QQc,QQj,QPX,QPP,QQv,eE,seval]
    · have b9:(k==9)=false:=by simp[h9]
      simp only[b9,eE,seval];refine Qa (hnm _ hB) rfl rfl rfl (.inl rfl) ?_;simp only[hno B eB hft (fun h=>absurd h h9),X6,XO,splice,QP9,QQI,QQc,QQj,QPX,QPP,QQv,eE,seval]

include hP in
theorem Qtx (o:PO)(f:R)(hb:f.bits<18446744073709551616):Qh Tryz.prog 152 [P.av,Qv o,f.av] (X6 (Xb P o.kind o.target f)) :=
 QEy P hP o.num o.name o.alias o.card o.key o.kind o.target o.union f hb
include hP in
theorem Ss (o:PO)(f:R)(hb:f.bits<18446744073709551616)(hd:f.data.length+8≤maxLen):Qh Tryz.prog 136 [P.av,Qv o,f.av] (X6 (Xb P o.kind o.target f)) :=
 QEz P hP o.num o.name o.alias o.card o.key o.kind o.target o.union f hb hd

end

def C4 (g:PG)(v:V)(o:PO)(x:V)(d:C):V×C×Nat :=
  if (Xk v o.num).isSome=true then(Xi g v o (Q8 ((QL v o.num).list++[x])),d,0)
  else if (d.spend 1).2=0 then(Xi g v o (Q8 ((QL v o.num).list++[x])),(d.spend 1).1,0)else(v,(d.spend 1).1,(d.spend 1).2)
def C5 (P:PL)(g:PG)(v:V)(o:PO)(f:R)(d:C):V×C×Nat :=
  if (Xb P o.kind o.target f).2=16 then(Wh v ⟨o.num,0,f.bits,[]⟩,d,0)
  else if (Xb P o.kind o.target f).2=0 then(if o.card=4 then C4 g v o (Xb P o.kind o.target f).1 d else(Xi g v o (Xb P o.kind o.target f).1,d,0))
  else(v,d,(Xb P o.kind o.target f).2)
def J2 (P:PL)(g:PG)(v:V)(o:PO)(c:C):V×C×Nat :=
  if (c.spend 1).2=0 then
    (if (KN (wk o.kind) (c.spend 1).1).2.2=0 then C5 P g v o (KN (wk o.kind) (c.spend 1).1).1 (KN (wk o.kind) (c.spend 1).1).2.1
     else(v,(KN (wk o.kind) (c.spend 1).1).2.1,(KN (wk o.kind) (c.spend 1).1).2.2))
  else(v,(c.spend 1).1,(c.spend 1).2)

theorem UX (P:PL)(g:PG)(v:V)(o:PO)(c:C):WY P g v o c=if (J2 P g v o c).2.2=0 then .ok ((J2 P g v o c).1,(J2 P g v o c).2.1)else .error (J2 P g v o c).2.2:=by
 unfold WY J2 JX;by_cases h1:(c.spend 1).2=0
 case neg=>simp only[QPO h1]
 simp only[QP5 h1];rw[YK];generalize KN (wk o.kind) (c.spend 1).1=r;obtain⟨f,d,e⟩:=r;dsimp only;by_cases h2:e=0
 case neg=>simp only[QPO h2]
 simp only[QP5 h2];unfold C5;by_cases h3:(Xb P o.kind o.target f).2=16
 ·simp only[QP5 h3];rfl
 simp only[QPO h3];by_cases h4:(Xb P o.kind o.target f).2=0
 case neg=>simp only[QPO h4]
 simp only[QP5 h4];by_cases h5:o.card=4
 case neg=>simp only[QPO h5];rfl
 simp only[QP5 h5];unfold C4;by_cases h6:(Xk v o.num).isSome=true
 ·simp only[QP5 h6];rfl
 simp only[QPO h6];by_cases h7:(d.spend 1).2=0
 ·simp only[QP5 h7];rfl
 ·simp only[QPO h7]

def H2 (P:PL)(M K n:Nat)(rec:Int→V→C→Rd V):Prop :=
 ∀(l s:Nat) (m:Qj) (t:Int) (v:V) (c:C),l<m.length→Am.Qd m l s=Q4 P c→CI c→c.left<n→(0≤t∧t<(P.progs.length:Int))→MW P n (Qn P t) v→v.ok M→(v.cnt:Int)+3*c.left≤K→
  Qx Tryz.prog 26 [.ptr l s 0,.int .i64 t,v.av] m (Rt P l s m V.av (rec t v c))

theorem Zf (c:C)(n:Int):(∃d,JX c n=.ok d∧c.spend n=(d,0))∨∃e,e≠0∧JX c n=.error e∧(c.spend n).2=e:=by
 unfold JX;by_cases h:(c.spend n).2=0
 ·rw[QP5 h];exact .inl ⟨_,rfl,by rw[←h]⟩
 ·rw[QPO h];exact .inr ⟨_,h,rfl,rfl⟩

theorem Kt (v:V)(n:Int):(QL v n).cnt≤v.cnt:=by
 cases hf:Xk v n with
 |none=>rw[Zo (by rw[hf];simp),QZ];exact Zj v
 |some z=>
  have:=JL (Xg hf).1;rw[(Xg hf).2];exact this

section
variable {M:Nat}(P:PL)(hP:P.ok M)(c:C)(l s:Nat)(m:Qj)(hm:l<m.length)(hs:Am.Qd m l s=Q4 P c)(hc:CI c)(g:PG)(hg:g.ops.length≤maxLen)(v:V)(hv:v.cnt≤1000000)(o:PO)

include hP hm hs hc hg hv in
theorem j95:Qx Tryz.prog 95 [.ptr l s 0,Qp g,v.av,Qv o] m (Rt P l s m V.av (WY P g v o c)):=by
 have hs0:=hs;have lp:∀o,Am.Qd (Am.put m l s o) l s=o:=fun o=>Ql hm
 have pp:∀o q,Am.put (Am.put m l s o) l s q=Am.put m l s q:=fun o q=>put_put
 have hpl:∀o,l+1<(Am.put m l s o).length+1:=fun o=>by rw[QR];omega
 have ls:=Xe v;have lr:=Zz v;have hwo:=P0 o;simp only[Qv,PO.cells]at hwo;rw[Qc v];refine k95.go (by simp) ?_;simp only[Qp,Qv,PG.cells,PO.cells,eE,seval];refine QJ (B4 P c (l+1) s _ hs0 1) (by simp only[QP8,QQB,Qb,seval]) ?_;rintro x m1 ⟨rfl,rfl⟩ _;unfold WY;rcases Zf c 1 with⟨c1,h1,h1'⟩|⟨e,he,h1,h1'⟩
 case inr=>
  rw[h1,h1'];simp only[Qu he,QR,eE,seval];exact⟨he,v,_,by rw[Qc v],rfl⟩
 rw[h1,h1'];obtain⟨a1,_⟩:=XV hc (by omega) h1;have hc1:=a1.ci hc;dsimp only;simp only[eE,seval];refine Qa hwo rfl rfl rfl (.inl rfl) ?_;refine QJ (Qtv P c1 (l+1) s _ (by exact hpl _) (lp _) hc1 (wk o.kind)) (by simp only[QP8,QQB,Qb,seval]) ?_;intro x m1 hx _;cases hr:Kp (wk o.kind) c1 with
 |error e=>
  rw[hr]at hx;obtain⟨he,a,c',rfl,rfl⟩:=hx;dsimp only;simp only[Qu he,R.av,pp,QR,eE,seval];exact⟨he,v,c',by rw[Qc v],rfl⟩
 |ok p=>
 obtain⟨f,d⟩:=p;rw[hr]at hx;obtain⟨rfl,rfl⟩:=hx;obtain⟨b1,_,b3,b4⟩:=WZ hc1 hr;have hd:=b1.ci hc1;have hsc:=Qtx P hP o f b3;have e0:P.av=.agg [.list (P.progs.map Qp),.list (P.enums.map QW)]:=rfl;dsimp only;generalize Xb P o.kind o.target f=q at hsc ⊢;obtain⟨x,e⟩:=q;simp only[X6,e0,Qv,PO.cells,R.av,Qc x]at hsc;simp only[R.av,Q4,lp,pp,sh2,eE,seval];refine Qa hsc rfl rfl rfl (.inl rfl) ?_;by_cases h16:e=16
 ·subst h16;rw[QP5 rfl];have ha:=j52 v ⟨o.num,0,f.bits,[]⟩ (by omega);have e16:(((16:Nat):Int)==16)=true:=rfl;rw[Qc v,Qc (Wh v _)]at ha;simp only[R.av]at ha;simp only[Kr,eE,seval];refine Qa ha rfl rfl rfl (.inl rfl) ?_;simp only[QR,eE,seval];exact⟨by rw[Qc (Wh v _)],rfl⟩
 have e16:((e:Int)==16)=false:=by rw[QRk];omega
 rw[QPO h16];by_cases h0:e=0
 case neg=>
  rw[QPO h0];simp only[e16,Qu h0,QR,eE,seval];exact⟨h0,v,d,by rw[Qc v],rfl⟩
 subst h0;rw[QP5 rfl];have hset:=fun y=>CZ g v o y hg (by omega)
 rw[Qc v]at hset;simp only[Qp,Qv,PG.cells,PO.cells]at hset;by_cases h4:o.card=4
 case neg=>
  have b4':(o.card != 4)=true:=by simp[h4]
  have hx:=hset x;rw[Qc x,Qc (Xi g v o x)]at hx;rw[QPO h4];simp only[b4',Kr,eE,seval];refine Qa hx rfl rfl rfl (.inl rfl) ?_;simp only[QR,eE,seval];exact⟨by rw[Qc (Xi g v o x)],rfl⟩
 have b4':(o.card != 4)=false:=by simp[h4]
 have hfd:=P2 v o.num (by omega);have hlo:=Qto (QL v o.num) x (by have:=Kt v o.num;have:=Zn (QL v o.num);omega);have hx:=hset (Q8 ((QL v o.num).list++[x]));rw[QP5 h4];generalize Xi g v o (Q8 ((QL v o.num).list++[x]))=w at hx ⊢;generalize Q8 ((QL v o.num).list++[x])=y at hx hlo;generalize QL v o.num=z at hfd hlo;rw[Qc v,Qc z]at hfd;rw[Qc z,Qc x,Qc y]at hlo;rw[Qc y,Qc w]at hx;simp only[b4',Kr,eE,seval];refine Qa hfd rfl rfl rfl (.inl rfl) ?_;cases hf:(Xk v o.num).isSome
 ·simp only[QPT,eE,seval];refine QJ (B4 P d (l+1) s _ (lp _) 1) (by simp only[QP8,QQB,Qb,seval]) ?_;rintro x m1 ⟨rfl,rfl⟩ _;rcases Zf d 1 with⟨c2,h2,h2'⟩|⟨e,he,h2,h2'⟩
  case inr=>
   rw[h2,h2'];simp only[Qu he,pp,QR,eE,seval];exact⟨he,v,_,by rw[Qc v],rfl⟩
  rw[h2,h2'];dsimp only;simp only[pp,eE,seval];refine Qa hlo rfl rfl rfl (.inl rfl) ?_;refine Qa hx rfl rfl rfl (.inl rfl) ?_;simp only[QR,eE,seval];exact⟨by rw[Qc w],rfl⟩
 ·simp only[eE,seval];refine Qa hlo rfl rfl rfl (.inl rfl) ?_;refine Qa hx rfl rfl rfl (.inl rfl) ?_;simp only[QR,eE,seval];exact⟨by rw[Qc w],rfl⟩

variable {K n:Nat}{rec:Int→V→C→Rd V}(hrec:H2 P M K n rec)

include hrec hm hs hc in
theorem Qty {t:Int}(ht:0≤t∧t<(P.progs.length:Int))(b:V)(k:Int)(hk0:0≤k)(hcn:c.left≤n)(hbm:1≤n→MW P n (Qn P t) b)(hbo:b.ok M)(hb:(b.cnt:Int)+3*c.left≤K) :
  Qx Tryz.prog 149 [.ptr l s 0,.int .i64 t,b.av,.int .i64 k] m (Rt P l s m V.av (Je rec t b k c)):=by
 have hs0:=hs;have lp:∀o,Am.Qd (Am.put m l s o) l s=o:=fun o=>Ql hm
 have pp:∀o q,Am.put (Am.put m l s o) l s q=Am.put m l s q:=fun o q=>put_put
 have hpl:∀o,l+1<(Am.put m l s o).length+1:=fun o=>by rw[QR];omega
 have hrec':=fun(fr:Nat→Ob) (o:Ob) (i:C) (h:o=Q4 P i) (h1:CI i) (h2:i.left<n) (h3:1≤n) (h4:(b.cnt:Int)+3*i.left≤K)=>hrec (l+1) s (fr :: Am.put m l s o) t b i (hpl _) (by rw[←h];exact lp _) h1 h2 ht (hbm h3) hbo h4
 rw[Qc b];rw[Qc b]at hrec';refine QHb.go (by simp) ?_;simp only[eE,seval];refine QJ (C1 P c (l+1) s _ (Nat.succ_lt_succ hm) hs0 hc) (by simp only[QP8,QQB,Qb,seval]) ?_;intro x m1 hx _;unfold Je;cases hr:Jd c with
 |error e=>
  rw[hr]at hx;obtain⟨he,a,c',rfl,rfl⟩:=hx;dsimp only;simp only[Qu he,QR,eE,seval];exact⟨he,b,c',by rw[Qc b],rfl⟩
 |ok p=>
 obtain⟨q,d⟩:=p;obtain⟨a1,a2⟩:=Jn hc hr;have hd:=a1.ci hc;have hl1:=a1.lt hc;have hdb:=hd.bd;rw[hr]at hx;obtain⟨rfl,rfl⟩:=hx;have hen:=HV hd a2;have cen:=QK3 d q hd.big';dsimp only;generalize enter d q=r at hen cen ⊢;obtain⟨i,e⟩:=r;dsimp only at hen;simp only[Z6,C.av]at cen;simp only[Q4,lp,ZP,ZB,eE,seval];refine Qa cen rfl rfl rfl (.inl rfl) ?_;by_cases he:e=0
 case neg=>
  rw[QPO he];simp only[Qu he,lp,pp,ZB,QR,eE,seval];exact⟨he,b,i,by rw[Qc b],rfl⟩
 subst he;rw[QP5 rfl];obtain⟨e1,e2,e3⟩:=hen rfl;simp only[lp,pp,ZB,eE,seval];refine QJ (B4 P i (l+1) s _ (lp _) k) (by simp only[QP8,QQB,Qb,seval]) ?_;rintro x m1 ⟨rfl,rfl⟩ _;rcases Zf i k with⟨j,h2,h2'⟩|⟨e,he,h2,h2'⟩
 case inr=>
  rw[h2,h2'];dsimp only;simp only[Qu he,pp,QR,eE,seval];exact⟨he,b,_,by rw[Qc b],rfl⟩
 rw[h2,h2'];obtain⟨s1,s2⟩:=XV e2 hk0 h2;have hls:=(s1.left e2).2.2;have hj:=s1.ci e2;have hjb:=hj.bd;dsimp only;simp only[pp,eE,seval];refine QJ (hrec' _ _ j rfl hj (by omega) (by omega) (by omega)) (by simp only[QP8,QQB,Qb,seval]) ?_;intro x m1 hx _;cases hr2:rec t b j with
 |error e=>
  rw[hr2]at hx;obtain⟨he,w,c',rfl,rfl⟩:=hx;dsimp only;simp only[Qu he,Qc w,pp,QR,eE,seval];exact⟨he,b,c',by rw[Qc b],rfl⟩
 |ok p=>
 obtain⟨w,j2⟩:=p;rw[hr2]at hx;obtain⟨rfl,rfl⟩:=hx;have clv:=QK5 d j2;dsimp only;generalize J8 d j2=y at clv ⊢;simp only[C.av]at clv;simp only[Qc w,Q4,lp,pp,ZP,eE,seval];refine Qa clv rfl rfl rfl (.inl rfl) ?_;simp only[lp,pp,ZB,QR,eE,seval];exact⟨by rw[Qc w],rfl⟩

end

def xv (r:V×C×Nat):AV:=.tup [r.1.av,r.2.1.av,.int .i64 (r.2.2:Nat)]

theorem j83 {M:Nat}(P:PL)(hP:P.ok M)(g:PG)(v:V)(o:PO){c:C}(hc:CI c)(hg:g.ops.length≤maxLen)(hv:v.cnt≤1000000)(hs:∀s∈v.slots,∃q,XL g s.1=some q)(hun : -1≤o.union):Qh Tryz.prog 83 [P.av,Qp g,v.av,Qv o,c.av] (xv (J2 P g v o c)):=by
 have ls:=Xe v;have lr:=Zz v;have hoc:=Kt v o.num;have lo:=Zn (QL v o.num);have hsp:=D2 c 1;have hsa:=fun d (h:JX c 1=.ok d)=>XV hc (by omega) h
 have hwi:=DD o.num o.name o.alias o.card o.key o.kind o.target o.union;have hge:=Vv v o.num (by omega);have e0:P.av=.agg [.list (P.progs.map Qp),.list (P.enums.map QW)]:=rfl;unfold J2;unfold JX at hsa;generalize c.spend 1=q1 at hsp hsa ⊢;obtain⟨c1,e1⟩:=q1;dsimp only at hsa;simp only[Z6,C.av]at hsp;simp only[oc]at hwi;rw[Qc v]at hge;rw[Qc (QL v o.num)]at hge;dsimp only;by_cases he1:e1=0
 case neg=>
  rw[QPO he1,e0,Qc v];refine k83.fn (by simp) ?_;simp only[Qp,Qv,PG.cells,PO.cells,C.av,eE,seval];refine Qa hsp rfl rfl rfl (.inl rfl) ?_;simp only[Qu he1,xv,Qc v,C.av,eE,seval]
 subst he1;have hc1:=(hsa c1 (by rw[QP5 rfl])).1.ci hc;have hct:=Sq hc1 (wk o.kind);have hxr:=YK (wk o.kind) c1;rw[QP5 rfl];generalize KN (wk o.kind) c1=q2 at hct hxr ⊢;obtain⟨f,d,e2⟩:=q2;dsimp only at hxr;simp only[Hw,C.av]at hct;dsimp only;by_cases he2:e2=0
 case neg=>
  rw[QPO he2,e0,Qc v];refine k83.fn (by simp) ?_;simp only[Qp,Qv,PG.cells,PO.cells,C.av,eE,seval];refine Qa hsp rfl rfl rfl (.inl rfl) ?_;simp only[eE,seval];refine Qa hwi rfl rfl rfl (.inl rfl) ?_;simp only[eE,seval];refine Qa hct rfl rfl rfl (.inl rfl) ?_;simp only[R.av,Qu he2,xv,Qc v,C.av,eE,seval]
 subst he2;rw[QP5 rfl]at hxr ⊢;obtain⟨b1,_,b3,b4⟩:=WZ hc1 hxr;have hd:=b1.ci hc1;have hsc:=Ss P hP o f b3 (by simp only[maxLen];omega);have hsp2:=D2 d 1;have hpu:=fun x=>B3 g v o x hg (by omega) hs hun
 have hwt:=fun x=>Qtt g v o x hg (by omega) hs hun (by omega)
 have has:=j77 v ⟨o.num,0,f.bits,[]⟩ (by omega);unfold C5;generalize Xb P o.kind o.target f=q3 at hsc ⊢;obtain⟨x,e⟩:=q3;simp only[X6,e0,Qv,PO.cells,R.av,Qc x]at hsc;dsimp only;rw[Qc v]at hpu hwt has;simp only[R.av]at has;simp only[Qp,Qv,PG.cells,PO.cells]at hpu hwt;rw[e0,Qc v];refine k83.fn (by simp) ?_;simp only[Qp,Qv,PG.cells,PO.cells,C.av,eE,seval];refine Qa hsp rfl rfl rfl (.inl rfl) ?_;simp only[eE,seval];refine Qa hwi rfl rfl rfl (.inl rfl) ?_;simp only[eE,seval];refine Qa hct rfl rfl rfl (.inl rfl) ?_;simp only[R.av,eE,seval];refine Qa hsc rfl rfl rfl (.inl rfl) ?_;by_cases h16:e=16
 ·subst h16;rw[QP5 rfl];generalize Wh v ⟨o.num,0,f.bits,[]⟩=w at has ⊢;rw[Qc w]at has;simp only[eE,seval];refine Qa has rfl rfl rfl (.inl rfl) ?_;simp only[xv,Qc w,C.av,eE,seval]
 have b16:((e:Int)==16)=false:=by simp;omega
 rw[QPO h16];by_cases he:e=0
 case neg=>
  rw[QPO he];simp only[b16,Qu he,xv,Qc v,C.av,eE,seval]
 subst he;rw[QP5 rfl];by_cases h4:o.card=4
 case neg=>
  have b4:(o.card != 4)=true:=by simp[h4]
  have hp:=hpu x;rw[QPO h4];generalize Xi g v o x=w at hp ⊢;rw[Qc x,Qc w]at hp;simp only[b4,eE,seval];refine Qa hp rfl rfl rfl (.inl rfl) ?_;simp only[xv,Qc w,C.av,eE,seval]
 have b4':(o.card != 4)=false:=by simp[h4]
 have hw:=hwt x;rw[QP5 h4];unfold C4;generalize Xi g v o (Q8 ((QL v o.num).list++[x]))=w at hw ⊢;rw[Qc x,Qc w]at hw;simp only[b4',eE,seval];refine Qa hge rfl rfl rfl (.inl rfl) ?_;cases hf:(Xk v o.num).isSome
 ·simp only[QPT,if_false];simp only[Z6,C.av]at hsp2;generalize d.spend 1=q5 at hsp2 ⊢;obtain⟨d1,e5⟩:=q5;dsimp only at hsp2 ⊢;simp only[eE,seval];refine Qa hsp2 rfl rfl rfl (.inl rfl) ?_;by_cases he5:e5=0
  case neg=>
   rw[QPO he5];simp only[Qu he5,xv,Qc v,C.av,eE,seval]
  subst he5;rw[QP5 rfl];simp only[eE,seval];refine Qa hw rfl rfl rfl (.inl rfl) ?_;simp only[xv,Qc w,C.av,eE,seval]
 ·simp only[eE,seval];refine Qa hw rfl rfl rfl (.inl rfl) ?_;simp only[xv,Qc w,C.av,eE,seval]

def Rm (r:Rd V)(x:AV):Prop:=match r with
 |.ok (w,d)=>x=xv (w,d,0)
 |.error e=>e≠0∧∃w d,x=xv (w,d,e)
def H3 (P:PL)(M K n:Nat)(rec:Int→V→C→Rd V):Prop :=
 ∀(t:Int) (v:V) (c:C),CI c→c.left<n→(0≤t∧t<(P.progs.length:Int))→MW P n (Qn P t) v→v.ok M→(v.cnt:Int)+3*c.left≤K→
  Ge Tryz.prog 22 [P.av,.int .i64 t,v.av,c.av] (Rm (rec t v c))
def KO (v:V)(c:C)(r:Rd V):V×C×Nat:=match r with
 |.ok (w,d)=>(w,d,0)
 |.error e=>(v,c,e)
theorem JO (v:V)(c:C)(w:V)(d:C):KO v c (.ok (w,d))=(w,d,0):=rfl
theorem X3 (v:V)(c:C)(e:Nat):KO v c (.error e)=(v,c,e):=rfl

theorem DE {c:C}{n:Nat}{d:C}(h:Jd c=.ok (n,d)):ZA c=(n,d,0):=by unfold ZA;rw[h]
theorem DG {c:C}{e:Nat}(h:Jd c=.error e):ZA c=(0,c,e):=by unfold ZA;rw[h]

def Yx (rec:Int→V→C→Rd V):Prop:=∀(t:Int) (v:V) (c:C) (e:Nat),rec t v c=.error e→e≠0
theorem C6 {c:C}{n:Int}{e:Nat}(h:JX c n=.error e):e≠0:=by
 unfold JX at h;split at h
 ·cases h
 ·rename_i h1;cases h;exact h1
theorem C7 {w:Int}{c:C}{e:Nat}(h:Kp w c=.error e):e≠0:=by
 rw[YK]at h;split at h
 ·cases h
 ·rename_i h1;cases h;exact h1
section
variable {rec:Int→V→C→Rd V}(hre:Yx rec)
include hre
theorem Yn {t:Int}{b:V}{k:Int}{c:C}{e:Nat}(h:Je rec t b k c=.error e):e≠0:=by
 unfold Je at h;split at h
 ·rename_i h1;cases h;exact Ym h1
 ·split at h
  ·split at h
   ·rename_i h1;cases h;exact C6 h1
   ·split at h
    ·rename_i h1;cases h;exact hre _ _ _ _ h1
    ·cases h
  ·rename_i h1;cases h;exact h1
theorem Qaa {g:PG}{v:V}{o:PO}{c:C}{e:Nat}(h:Jx rec g v o c=.error e):e≠0:=by
 unfold Jx at h;split at h<;>split at h
 ·rename_i h1;cases h;exact Yn hre h1
 ·cases h
 ·rename_i h1;cases h;exact Yn hre h1
 ·cases h
end

section
variable {M K n:Nat}{rec:Int→V→C→Rd V}(P:PL)(hrec:H3 P M K n rec)(o:PO){c:C}(hc:CI c)(hcn:c.left≤n)

include hrec hc hcn in
theorem Qtz (ht:0≤o.target∧o.target<(P.progs.length:Int))(b:V)(k:Int)(hk0:0≤k)(hbm:1≤n→MW P n (Qn P o.target) b)(hbo:b.ok M)(hb:(b.cnt:Int)+3*c.left≤K) :
  Qh Tryz.prog 133 [P.av,Qv o,b.av,.int .i64 k,c.av] (xv (KO b c (Je rec o.target b k c))):=by
 have hle:=C0 hc;have e0:P.av=.agg [.list (P.progs.map Qp),.list (P.enums.map QW)]:=rfl;unfold Je;rw[e0,Qc b];cases hr:Jd c with
 |error e=>
  rw[DG hr]at hle;have he:=Ym hr;simp only[C.av]at hle;refine QrF.fn (by simp) ?_;simp only[Qv,PO.cells,C.av,eE,seval];refine Qa hle rfl rfl rfl (.inl rfl) ?_;simp only[Qu he,X3,xv,Qc b,C.av,eE,seval]
 |ok p=>
 obtain⟨q,d⟩:=p;obtain⟨a1,a2⟩:=Jn hc hr;have hd:=a1.ci hc;have hl1:=a1.lt hc;have hdb:=hd.bd;rw[DE hr]at hle;have hen:=HV hd a2;have cen:=QK4 d q;dsimp only at hle ⊢;generalize enter d q=r at hen cen ⊢;obtain⟨i,e⟩:=r;dsimp only at hen;simp only[Z6,C.av]at cen;simp only[C.av]at hle;refine QrF.fn (by simp) ?_;simp only[Qv,PO.cells,C.av,eE,seval];refine Qa hle rfl rfl rfl (.inl rfl) ?_;simp only[eE,seval];refine Qa cen rfl rfl rfl (.inl rfl) ?_;by_cases he:e=0
 case neg=>
  rw[QPO he];simp only[Qu he,X3,xv,Qc b,C.av,eE,seval]
 subst he;rw[QP5 rfl];obtain⟨e1,e2,e3⟩:=hen rfl;have hsp:=D2 i k;simp only[Z6,C.av]at hsp;simp only[eE,seval];refine Qa hsp rfl rfl rfl (.inl rfl) ?_;rcases Zf i k with⟨j,h2,h2'⟩|⟨e,he,h2,h2'⟩
 case inr=>
  rw[h2,h2'];simp only[Qu he,X3,xv,Qc b,C.av,eE,seval]
 rw[h2,h2'];obtain⟨s1,s2⟩:=XV e2 hk0 h2;have hls:=(s1.left e2).2.2;have hj:=s1.ci e2;have hjb:=hj.bd;have hm:=hrec o.target b j hj (by omega) ht (hbm (by omega)) hbo (by omega);rw[e0,Qc b]at hm;simp only[C.av]at hm;dsimp only;simp only[eE,seval];refine JR hm rfl rfl (fun x hx=>?_) (fun x hx=>?_)
 ·cases hr2:rec o.target b j with
  |error e=>
   rw[hr2]at hx;obtain⟨_,w,d2,rfl⟩:=hx;simp only[xv,Qc w,C.av];exact⟨rfl,.inl rfl⟩
  |ok p=>
   obtain⟨w,d2⟩:=p;rw[hr2]at hx;cases hx;simp only[xv,Qc w,C.av];exact⟨rfl,.inl rfl⟩
 cases hr2:rec o.target b j with
 |error e=>
  rw[hr2]at hx;obtain⟨he,w,d2,rfl⟩:=hx;simp only[Qu he,X3,xv,Qc w,Qc b,C.av,eE,seval]
 |ok p=>
  obtain⟨w,j2⟩:=p;rw[hr2]at hx;cases hx;have clv:=QK6 d j2;dsimp only;generalize J8 d j2=y at clv ⊢;simp only[C.av]at clv;simp only[JO,xv,Qc w,C.av,eE,seval];refine Qa clv rfl rfl rfl (.inl rfl) ?_;simp only[eE,seval]

variable (g:PG)(hg:g.ops.length≤maxLen)(v:V)(hv:(v.cnt:Int)+3*c.left≤K)(hK:K≤1000000)(hvo:v.ok M)(hun : -1≤o.union)(hre:Yx rec)(hb1:(1:Int)+3*c.left≤K)

include hrec hc hcn hg hv hK hvo hun hre hb1 in
theorem j82 (ho:OpK P g o)(h10:o.kind=10)(h5:o.card≠5)(hvm:MW P (n+1) g v) :
  Qh Tryz.prog 82 [P.av,Qp g,v.av,Qv o,c.av] (xv (KO v c (Jx rec g v o c))):=by
 have ls:=Xe v;have hcb:=hc.bd;have ht:=ho.uo.tgt h10;have hge:=Vv v o.num (by omega);have hoc:=Kt v o.num;have lo:=Zn (QL v o.num);have hol:=W5 (n:=o.num) hvo;have hsl:∀s∈v.slots,∃q,XL g s.1=some q:=fun s hs=>let ⟨q,h,_⟩:=hvm.1 s hs;⟨q,h⟩
 have hin:=fun(b:V) (k:Int) (h0:0≤k) (h1:1≤n→MW P n (Qn P o.target) b) (h2:b.ok M) (h3:(b.cnt:Int)+3*c.left≤K)=>Qtz P hrec o hc hcn ht b k h0 h1 h2 h3
 have hpu:=fun x=>B3 g v o x hg (by omega) hsl hun
 have hwt:=fun x=>Qtt g v o x hg (by omega) hsl hun (by omega)
 have e0:P.av=.agg [.list (P.progs.map Qp),.list (P.enums.map QW)]:=rfl;have hom:o.card≠4→(Xk v o.num).isSome=true→MW P n (Qn P o.target) (QL v o.num):=by
  intro h4 h;obtain⟨z,hz⟩:=QP0.1 h;have h2:=W6 hvm ho.self hz;unfold FW at h2;rw[QPO h4,QPO h5]at h2;rw[(Xg hz).2];exact h2 h10
 unfold Jx;generalize QL v o.num=z at hge hoc hol hom hwt lo ⊢;rw[Qc v]at hpu hwt;rw[Qc v,Qc z]at hge;rw[e0]at hin;simp only[Qp,Qv,PG.cells,PO.cells,C.av]at hpu hwt hin;rw[e0,Qc v];refine k82.fn (by simp) ?_;simp only[Qp,Qv,PG.cells,PO.cells,C.av,eE,seval];refine Qa hge rfl rfl rfl (.inl rfl) ?_;by_cases h4:o.card=4
 ·have b4:(o.card==4)=true:=by simp[h4]
  have b4':(o.card != 4)=false:=by simp[h4]
  rw[QP5 h4];cases hf:(Xk v o.num).isSome
  case false=>
   have hkk:(if (false:Bool)=true then(1:Int)else 2)=2:=rfl;have h1:=hin (Qs 10 0 []) 2 (by decide) (fun hn=>Xn hn) (Xt rfl (by decide) (QPJ _)) (by rw[QZ];omega);rw[hkk];rw[show(Qs 10 0 []).av=.agg [.int .i64 10,.int .u64 0,.str [],.list [],.list [],.list [],.list []]from Qc _]at h1;simp only[b4,b4',eE,seval];cases hr:Je rec o.target (Qs 10 0 []) 2 c with
   |error e=>
    have he:=Yn hre hr;rw[hr,X3]at h1;simp only[xv,C.av]at h1;rw[show(Qs 10 0 []).av=.agg [.int .i64 10,.int .u64 0,.str [],.list [],.list [],.list [],.list []]from Qc _]at h1;refine Qa h1 rfl rfl rfl (.inl rfl) ?_;simp only[Qu he,X3,xv,Qc v,C.av,eE,seval]
   |ok p=>
    obtain⟨y,d⟩:=p;have h2:=hwt y;rw[hr,JO]at h1;dsimp only;generalize Xi g v o (Q8 (z.list++[y]))=w at h2 ⊢;rw[Qc y,Qc w]at h2;simp only[xv,Qc y,C.av]at h1;refine Qa h1 rfl rfl rfl (.inl rfl) ?_;simp only[b4,eE,seval];refine Qa h2 rfl rfl rfl (.inl rfl) ?_;simp only[JO,xv,Qc w,C.av,eE,seval]

  case true=>
   have hkk:(if (true:Bool)=true then(1:Int)else 2)=1:=rfl;have h1:=hin (Qs 10 0 []) 1 (by decide) (fun hn=>Xn hn) (Xt rfl (by decide) (QPJ _)) (by rw[QZ];omega);rw[hkk];rw[show(Qs 10 0 []).av=.agg [.int .i64 10,.int .u64 0,.str [],.list [],.list [],.list [],.list []]from Qc _]at h1;simp only[b4,b4',eE,seval];cases hr:Je rec o.target (Qs 10 0 []) 1 c with
   |error e=>
    have he:=Yn hre hr;rw[hr,X3]at h1;simp only[xv,C.av]at h1;rw[show(Qs 10 0 []).av=.agg [.int .i64 10,.int .u64 0,.str [],.list [],.list [],.list [],.list []]from Qc _]at h1;refine Qa h1 rfl rfl rfl (.inl rfl) ?_;simp only[Qu he,X3,xv,Qc v,C.av,eE,seval]
   |ok p=>
    obtain⟨y,d⟩:=p;have h2:=hwt y;rw[hr,JO]at h1;dsimp only;generalize Xi g v o (Q8 (z.list++[y]))=w at h2 ⊢;rw[Qc y,Qc w]at h2;simp only[xv,Qc y,C.av]at h1;refine Qa h1 rfl rfl rfl (.inl rfl) ?_;simp only[b4,eE,seval];refine Qa h2 rfl rfl rfl (.inl rfl) ?_;simp only[JO,xv,Qc w,C.av,eE,seval]
 ·have b4:(o.card==4)=false:=by simp[h4]
  have b4':(o.card != 4)=true:=by simp[h4]
  rw[QPO h4];cases hf:(Xk v o.num).isSome
  case false=>
   have hkk:(if (false:Bool)=true then z else Qs 10 0 [])=Qs 10 0 []:=rfl;have h1:=hin (Qs 10 0 []) 1 (by decide) (fun hn=>Xn hn) (Xt rfl (by decide) (QPJ _)) (by rw[QZ];omega);rw[hkk];simp only[b4,b4',eE,seval];cases hr:Je rec o.target (Qs 10 0 []) 1 c with
   |error e=>
    have he:=Yn hre hr;rw[hr,X3]at h1;simp only[xv,Qc (Qs 10 0 []),C.av]at h1;refine Qa h1 rfl rfl rfl (.inl rfl) ?_;simp only[Qu he,X3,xv,Qc v,C.av,eE,seval]
   |ok p=>
    obtain⟨y,d⟩:=p;have h2:=hpu y;rw[hr,JO]at h1;dsimp only;generalize Xi g v o y=w at h2 ⊢;rw[Qc y,Qc w]at h2;simp only[xv,Qc (Qs 10 0 []),Qc y,C.av]at h1;refine Qa h1 rfl rfl rfl (.inl rfl) ?_;simp only[b4,eE,seval];refine Qa h2 rfl rfl rfl (.inl rfl) ?_;simp only[JO,xv,Qc w,C.av,eE,seval]

  case true=>
   have hkk:(if (true:Bool)=true then z else Qs 10 0 [])=z:=rfl;have h1:=hin (z) 1 (by decide) (fun _=>hom h4 hf) (hol) (by omega);rw[hkk];simp only[b4,b4',eE,seval];cases hr:Je rec o.target (z) 1 c with
   |error e=>
    have he:=Yn hre hr;rw[hr,X3]at h1;simp only[xv,Qc (z),C.av]at h1;refine Qa h1 rfl rfl rfl (.inl rfl) ?_;simp only[Qu he,X3,xv,Qc v,C.av,eE,seval]
   |ok p=>
    obtain⟨y,d⟩:=p;have h2:=hpu y;rw[hr,JO]at h1;dsimp only;generalize Xi g v o y=w at h2 ⊢;rw[Qc y,Qc w]at h2;simp only[xv,Qc (z),Qc y,C.av]at h1;refine Qa h1 rfl rfl rfl (.inl rfl) ?_;simp only[b4,eE,seval];refine Qa h2 rfl rfl rfl (.inl rfl) ?_;simp only[JO,xv,Qc w,C.av,eE,seval]

end
end Go.Proofs.YtfgchfdkiomfpaaGreat.Va

namespace Go.Proofs.YtfgchfdkiomfpaaGreat.Va
open Go Am Rc Bt Br Up So

theorem UY {P:Program}{K:St→Prop}{Qe:List Am.Item}{f:Fr}{m:Qj}{ds:List DF}{d:Nat}{sz bytes el:Nat}{s r:RA}{site g n site' g' n':Nat}{fr:Nat→Ob}{xs ys:List AV}(hs:s.ev f=.vec 0 site g 0 n false)(hl:fr site=.vec g sz xs)(ht:Zk site el=true)(hn:n=xs.length)
  (hr:r.ev f=.vec 0 site' g' 0 n' false) (hr2:fr site'=.vec g' sz ys) (hn':n'=ys.length) (hz:ys.all (fun e=>e.cells.length==sz)=true) (hm:n+ys.length≤maxLen) (hb:(n+ys.length)*bytes≤140737488355328)
  (h:QD P Qe ⟨QI f d (.vec 0 site (g+1) 0 (n+ys.length) false),QI fr site (.vec (g+1) sz (xs++ys)) :: m,ds⟩ K):QD P (⟨some d,.app sz bytes el s r,none⟩ :: Qe) ⟨f,fr :: m,ds⟩ K:=by
 refine⟨0,site,g,n,xs,ys,hs,hl,ht,by omega,?_,hz,hm,hb,?_⟩
 ·show QY (fr :: m) (r.ev f)=some ys;rw[hr];exact MG hr2 hn'
 ·subst hn;rw[QRd];exact h

theorem Qab (l O:List R)(i:Nat)(x:R)(hx:l[i]? = some x)(hO:O.length≤maxLen)(hs:X7 (fun x y:R=>decide (x.num<y.num)) O)(fr:Nat→Ob)(f:Fr)(h0:f 0=.list (l.map R.av))(h3:f 3=.list (O.map R.av))(h4:f 4=.int .i64 (i:Nat))(h5:f 5=.int .i64 (O.length:Nat))(Q:Exit→St→Prop)
  (q:∀(t:Nat) (f:Fr),t≤O.length→(∀j u,t≤j→O[j]? = some u→decide (x.num<u.num)=true)→(∀j u,j<t→O[j]? = some u→decide (x.num<u.num)=false)→f 0=.list (l.map R.av)→f 3=.list (O.map R.av)→f 4=.int .i64 (i:Nat)→f 5=.int .i64 (t:Nat)→Q (.exit 2) (⟨f,[fr],[]⟩:St)) :
  QH Tryz.prog (.loop SR) ⟨f,[fr],[]⟩ Q:=by
 let I:Nat→St→Prop:=fun k st=>∃f t,st=⟨f,[fr],[]⟩∧k=t∧t≤O.length∧(∀j u,t≤j→O[j]? = some u→decide (x.num<u.num)=true)∧f 0=.list (l.map R.av)∧f 3=.list (O.map R.av)∧f 4=.int .i64 (i:Nat)∧f 5=.int .i64 (t:Nat)
 refine Qg I _ ⟨f,O.length,rfl,rfl,QPB _,(by intro j u hj hu;rw[QQY hj]at hu;cases hu),h0,h3,h4,h5⟩ ?_;clear h0 h3 h4 h5;rintro t st ⟨f,_,rfl,rfl,ht,hv,h0,h3,h4,h5⟩;have hxa:=CD hx;simp only[h5,Qb,seval];cases t with
 |zero=>
  have d1:decide (((0:Nat):Int) > 0)=false:=by simp
  simp only[Qb,seval];exact q 0 _ (QPJ _) hv (fun j u hj=>by omega) (by exact h0) (by exact h3) (by exact h4) (by exact h5)
 |succ r=>
  obtain⟨u,hu⟩:∃u,O[r]? = some u:=⟨O[r]'(by omega),QPE (by omega)⟩;have hua:=CD hu;have d1:decide (((r+1:Nat):Int) > 0)=true:=by simp only[QQW];omega
  have e2:IntKind.i64.wrap (((r+1:Nat):Int)-1)=((r:Nat):Int):=by
   simp only[maxLen]at hO;rw[QB];omega
  simp only[d1,e2,Qm,QQ2,Qf,hxa,hua,h0,h3,h4,h5,eE,seval];cases hcx:decide (u.num > x.num)
  ·simp only[Qb,seval];refine q (r+1) _ ht hv (fun j u' hj hu'=>?_) (by exact h0) (by exact h3) (by exact h4) (by exact h5);have:=KD hs CB (show j≤r by omega) hu' hu;exact CB.nt x u u' hcx this
  ·simp only[e2,h5,Qb,seval];exact⟨r,by omega,_,r,rfl,rfl,by omega,(by
    intro j v hj hv';rcases Nat.lt_or_eq_of_le hj with h|h
    ·exact hv j v h hv'
    ·subst h;rw[hu]at hv';cases hv';exact hcx),(by exact h0),(by exact h3),(by exact h4),(by rfl)⟩

def RwI (l:List R)(k:Nat)(st:St):Prop :=
 ∃f fr i,st=⟨f,[fr],[]⟩∧k=l.length-i∧i≤l.length∧f 0=.list (l.map R.av)∧f 3=.list ((Jh (l.take i)).map R.av)∧f 4=.int .i64 (i:Nat)∧Qi (fr 37)=true∧Qi (fr 42)=true

set_option maxHeartbeats 1000000 in
theorem v44 (l:List R)(hn:l.length≤1048576):Qh Tryz.prog 44 [.list (l.map R.av)] (.list ((Jh l).map R.av)):=by
 refine k44.fn (by simp) ?_;simp only[Qb,seval];refine HF (by simp only[Qb,seval]) ?_;simp only[Qb,seval];refine Qg (RwI l) _ ⟨_,_,0,rfl,rfl,QPJ _,(by rfl),rfl,(by rfl),rfl,rfl⟩ ?_;rintro _ st ⟨f,fr,i,rfl,rfl,hil,h0,h3,h4,SL,r42⟩;simp only[QQu,h0,h4,Qb,seval];by_cases hlt:i<l.length
 ·obtain⟨x,hi⟩:∃x,l[i]? = some x:=⟨l[i],QPE hlt⟩;have hxa:=CD hi;have e1:=Qw i _ hlt (by simp only[maxLen];omega);have hp:(Jh (l.take i)).Perm (l.take i):=Q0 _;have hO:(Jh (l.take i)).length=i:=by rw[hp.length_eq,QQw];omega
  clear hp;have hstep:Jh (l.take (i+1))=mg (fun x y:R=>decide (x.num<y.num)) (Jh (l.take i)) [x]:=by
   rw[QRm,hi,Option.toList_some];exact(Kf CB (l.take i) [x]).symm
  have hsrt:X7 (fun x y:R=>decide (x.num<y.num)) (Jh (l.take i)):=XW CB _;generalize Jh (l.take i)=O at *;simp only[Qr hlt,QQu,h3,Qb,seval];refine Qab l O i x hi (by simp only[maxLen];omega) hsrt fr _ (by exact h0) (by exact h3) (by exact h4) (by rfl) _ (fun t f ht hv hlow h0 h3 h4 h5=>?_);have hfin:(O.take t).map R.av++([x.av]++(O.drop t).map R.av)=(Jh (l.take (i+1))).map R.av:=by
   have:=K1 (lt:=fun x y:R=>decide (x.num<y.num)) (y:=x) (X1:=O.take t) (X2:=O.drop t) (fun u hu=>by
    obtain⟨j,hj⟩:=QRD hu;rw[QQf]at hj;split at hj
    ·rename_i hjt;exact hlow j u hjt hj
    ·cases hj) (fun u hu=>by
    obtain⟨j,hj⟩:=QRD hu;rw[QQg]at hj;exact hv _ u (by omega) hj)
   rw[QQQ]at this;rw[hstep,this];simp
  have hle:(t≤O.length)=True:=eq_true ht;have hdt:∀l':List AV,l'.length=O.length→(l'.drop t).take (O.length-t)=l'.drop t:=fun l' h=>QQa (by rw[QQh];omega)
  have hd1:((O.drop t).map R.av).length=i-t:=by rw[QQu,QQh];omega
  have hd2:((O.take t).map R.av).length=t:=by rw[QQu,QQw];omega
  have hT:∀j,i+1≤j→List.take j ((O.take t).map R.av++([x.av]++(O.drop t).map R.av))=(Jh (l.take (i+1))).map R.av:=fun j hj=>by
   rw[QQa (by simp only[QQe,QPP,QQv,hd1,hd2];omega),hfin]
  simp only[Qm,QQ2,Qf,hxa,h0,h4,eE,seval];refine YV (l:=[.int .i64 x.num,.int .i64 x.wire,.int .u64 (x.bits:Nat),.str x.data]) rfl rfl (by decide) rfl rfl SL ?_;simp only[nn0,QP8,QQB,QQu,Jk,Xj,QRc,Qm,QQ2,hle,QPB,or_true,Ud,hdt _ (QQu ..),h3,h5,Qb,seval];refine QF (site:=37) (g:=Xx (fr 37)) (n:=1) (xs:=[x.av]) (ys:=(O.drop t).map R.av) (by simp only[Qb,seval]) (by simp only[R.av,Qb,seval]) rfl rfl (by simp only[List.map_drop,Qb,seval]) (Ud _) (by rw[hd1];simp only[maxLen];omega) (by rw[hd1];omega) ?_;simp only[Qb,seval];refine XN (by simp only[Qb,seval];exact r42) ?_;simp only[QQu,Jk,Jt,Xj,QRc,Qm,QQ2,QPJ,QPB,hle,true_or,QQy,QQj,←List.map_take,h3,h5,Qb,seval];refine QF (site:=42) (g:=_) (n:=0) (xs:=[]) (ys:=(O.take t).map R.av) (by simp only[Qb,seval]<;>rfl) (by simp only[Qb,seval]) rfl rfl (by simp only[Qb,seval]) (Ud _) (by rw[hd2];simp only[maxLen];omega) (by rw[hd2];omega) ?_;simp only[Qb,seval];refine UY (site:=42) (g:=_) (n:=0+((O.take t).map R.av).length) (xs:=(O.take t).map R.av) (ys:=[x.av]++(O.drop t).map R.av) (by simp only[Qb,seval]<;>rfl) (by simp only[Qb,seval]) rfl (by omega) (by simp only[Qb,seval]<;>rfl) (by simp only[Qb,seval]) (by simp only[QQe,QPP,QQv,QQu]<;>omega) (Ud (x :: O.drop t)) (by simp only[QQe,QPP,QQv,hd1,hd2,maxLen];omega) (by simp only[QQe,QPP,QQv,hd1,hd2];omega) ?_;simp only[Qb,seval];refine KW (site:=42) (g:=_) (sz:=4) (n:=_) (xs:=(O.take t).map R.av++([x.av]++(O.drop t).map R.av)) (by simp only[Qb,seval]<;>rfl) (by simp only[Qb,seval]) (by simp only[QQe,QPP,QQv,hd1,hd2];omega) ?_;rw[hT];rotate_left
  ·simp only[hd1,hd2];omega
  simp only[e1,h4,Qb,seval];exact⟨l.length-(i+1),by omega,_,_,i+1,rfl,rfl,by omega,(by exact h0),(by rfl),(by rfl),rfl,rfl⟩
 ·have hli:l.take i=l:=QQa (by omega);rw[hli]at h3;simp only[QO hlt,h3,Qb,seval]

theorem QtA (k:Int)(a b:V)(_ha:a.bits<18446744073709551616)(_hb:b.bits<18446744073709551616):decide (UN k a.bits a.text b.bits b.text<0)=kl k a b:=by
 unfold UN kl;split
 ·exact AD _ _
 ·rw[Fs];unfold KM;split
  ·rw[decide_eq_decide,XY,XY,QB,QB];omega
  ·rfl

section
variable {P:PL}{k:Int}(hk:Xr k)(ps:List (V×V))(hn:ps.length≤1048576)(h1:∀p∈ps,p.1.one P k (-1)=0)(hb:∀p∈ps,p.1.bits<18446744073709551616)

include hk in
theorem H4 {p q:V×V}(hp:p.1.one P k (-1)=0)(hq:q.1.one P k (-1)=0):Qh Tryz.prog 41 [p.1.av,q.1.av] (.int .i64 (UN k p.1.bits p.1.text q.1.bits q.1.text)):=by
 have h:=v41 k hk p.1.bits q.1.bits p.1.text q.1.text;rw[←(Jw hp).1,←(Jw hq).1]at h;exact h

theorem P5 (hk:Xr k)(hn:ps.length≤1048576)(h1:∀p∈ps,p.1.one P k (-1)=0)(hb:∀p∈ps,p.1.bits<18446744073709551616)(hu:ps.Pairwise fun q p=>Q2 q.1 p.1=false)(O:List (V×V))(i:Nat)(x:V×V)(hx:ps[i]? = some x)(fr:Nat→Ob)(f:Fr)(h0:f 0=.list (ps.map V.pav))(h3:f 3=.list (O.map V.pav))(h4:f 4=.int .i64 (i:Nat))(h5:f 5=.bool true)(h6:f 6=.int .i64 ((i+1:Nat):Int))(Q:Exit→St→Prop)
  (q:∀f:Fr,f 0=.list (ps.map V.pav)→f 3=.list (O.map V.pav)→f 4=.int .i64 (i:Nat)→f 5=.bool true→Q (.exit 2) (⟨f,[fr],[]⟩:St)) :
  QH Tryz.prog (.loop Cf) ⟨f,[fr],[]⟩ Q:=by
 let I:Nat→St→Prop:=fun n st=>∃f j,st=⟨f,[fr],[]⟩∧n=ps.length-j∧i<j∧f 0=.list (ps.map V.pav)∧f 3=.list (O.map V.pav)∧f 4=.int .i64 (i:Nat)∧f 5=.bool true∧f 6=.int .i64 (j:Nat)
 refine Qg I _ ⟨f,i+1,rfl,rfl,by omega,h0,h3,h4,h5,h6⟩ ?_;clear h0 h3 h4 h5 h6;rintro _ st ⟨f,j,rfl,rfl,hij,h0,h3,h4,h5,h6⟩;simp only[QQu,h0,h6,Qb,seval];by_cases hlt:j<ps.length
 ·obtain⟨y,hj⟩:∃y,ps[j]? = some y:=⟨ps[j],QPE hlt⟩;have hgx:=JI hx;have hgy:=JI hj;have e1:=Qw j _ hlt (by simp only[maxLen];omega);have hxm:=QPN hx;have hym:=QPN hj;have c1:=H4 hk (h1 x hxm) (h1 y hym);have hne:UN k x.1.bits x.1.text y.1.bits y.1.text≠0:=by
   have h:=Vl hk (h1 x hxm) (h1 y hym) (hb x hxm) (hb y hym);rw[QRz]at hu;have:=hu i j (QPD.1 hx).1 hlt hij;rw[(QPD.1 hx).2,(QPD.1 hj).2]at this;rw[this]at h
   simpa using h
  have d1:(UN k x.1.bits x.1.text y.1.bits y.1.text != 0)=true:=by simp[hne]
  rw[Qc,Qc]at c1;simp only[Qr hlt,Qm,QQ2,Qf,hgx,hgy,QP9,QQI,QQj,h0,h4,h5,h6,eE,seval];refine Qa c1 rfl rfl rfl (.inl rfl) ?_;simp only[d1,h6,e1,Qb,seval];exact⟨ps.length-(j+1),by omega,_,j+1,rfl,rfl,by omega,(by exact h0),(by exact h3),(by exact h4),(by rfl),(by rfl)⟩
 ·simp only[QO hlt,Qb,seval];exact q _ (by exact h0) (by exact h3) (by exact h4) (by exact h5)

theorem Dc (hk:Xr k)(O:List (V×V))(hO:O.length≤1048576)(hO1:∀p∈O,p.1.one P k (-1)=0)(hOb:∀p∈O,p.1.bits<18446744073709551616)(i:Nat)(x:V×V)(hx:ps[i]? = some x)(hx1:x.1.one P k (-1)=0)(hxb:x.1.bits<18446744073709551616)(fr:Nat→Ob)(f:Fr)(h0:f 0=.list (ps.map V.pav))(h3:f 3=.list (O.map V.pav))(h4:f 4=.int .i64 (i:Nat))(h7:f 7=.int .i64 0)(Q:Exit→St→Prop)
  (q:∀(t:Nat) (f:Fr),t≤O.length→(∀j u,j<t→O[j]? = some u→kl k u.1 x.1=true)→(∀u,O[t]? = some u→kl k u.1 x.1=false)→f 0=.list (ps.map V.pav)→f 3=.list (O.map V.pav)→f 4=.int .i64 (i:Nat)→f 7=.int .i64 (t:Nat)→Q (.exit 4) (⟨f,[fr],[]⟩:St)) :
  QH Tryz.prog (.loop SS) ⟨f,[fr],[]⟩ Q:=by
 let I:Nat→St→Prop:=fun n st=>∃f t,st=⟨f,[fr],[]⟩∧n=O.length-t∧t≤O.length∧(∀j u,j<t→O[j]? = some u→kl k u.1 x.1=true)∧f 0=.list (ps.map V.pav)∧f 3=.list (O.map V.pav)∧f 4=.int .i64 (i:Nat)∧f 7=.int .i64 (t:Nat)
 refine Qg I _ ⟨f,0,rfl,rfl,QPJ _,(by intro j u hj;omega),h0,h3,h4,h7⟩ ?_;clear h0 h3 h4 h7;rintro _ st ⟨f,t,rfl,rfl,ht,hv,h0,h3,h4,h7⟩;simp only[QQu,h3,h7,Qb,seval];by_cases hlt:t<O.length
 ·obtain⟨u,hu⟩:∃u,O[t]? = some u:=⟨O[t],QPE hlt⟩;have hgx:=JI hx;have hgu:=JI hu;have hum:=QPN hu;have e1:=Qw t _ hlt (by simp only[maxLen];omega);have c1:=H4 hk (hO1 u hum) hx1;have hc:=QtA k u.1 x.1 (hOb u hum) hxb;rw[Qc,Qc]at c1;simp only[Qr hlt,Qm,QQ2,Qf,hgx,hgu,QP9,QQI,QQj,h0,h3,h4,h7,eE,seval];refine Qa c1 rfl rfl rfl (.inl rfl) ?_;cases hl:kl k u.1 x.1
  ·rw[hl]at hc;simp only[hc,Qb,seval];exact q t _ (by omega) hv (fun u' hu'=>by rw[hu]at hu';cases hu';exact hl) (by exact h0) (by exact h3) (by exact h4) (by exact h7)
  ·rw[hl]at hc;simp only[hc,h7,e1,Qb,seval];exact⟨O.length-(t+1),by omega,_,t+1,rfl,rfl,by omega,(by
    intro j u' hj hu';rcases Nat.lt_or_eq_of_le (show j≤t by omega)with h|h
    ·exact hv j u' h hu'
    ·subst h;rw[hu]at hu';cases hu';exact hl),(by exact h0),(by exact h3),(by exact h4),(by rfl)⟩
 ·simp only[QO hlt,Qb,seval];exact q t _ ht hv (fun u hu=>by rw[QQY (by omega)]at hu;cases hu) (by exact h0) (by exact h3) (by exact h4) (by exact h7)

end

theorem Dd {k:Int}{P:PL}{a b:V}(ha:a.one P k (-1)=0)(hb:b.one P k (-1)=0)(ba:a.bits<18446744073709551616)(bb:b.bits<18446744073709551616)(h1:kl k a b=false)(h2:Q2 a b=false):kl k b a=true:=by
 obtain⟨_,a1,a2⟩:=Jw ha;obtain⟨_,b1,b2⟩:=Jw hb;cases hc:kl k b a with
 |true=>rfl
 |false=>
  exfalso;unfold kl at h1 hc;unfold Q2 at h2;split at h1
  ·rename_i ht;rw[QP5 ht]at hc;have e:=UM h1 hc;have e1:=a1 ht;have e2:=b1 ht;rw[e,show a.bits=b.bits by omega]at h2;simp at h2
  ·rename_i ht;rw[QPO ht]at hc;have ht:XZ k=false:=by simpa using ht
   rw[a2 ht,b2 ht]at h2;split at h1
   ·rename_i hs;rw[QP5 hs]at hc;simp only[QRr]at h1 hc;rw[QB,QB]at h1 hc;rw[show a.bits=b.bits by omega]at h2;simp at h2
   ·rename_i hs;rw[QPO hs]at hc;simp only[QRr]at h1 hc;rw[show a.bits=b.bits by omega]at h2;simp at h2

def PwI (k:Int)(ps:List (V×V))(n:Nat)(st:St):Prop :=
 ∃f fr i,st=⟨f,[fr],[]⟩∧n=ps.length-i∧i≤ps.length∧f 0=.list (ps.map V.pav)∧f 3=.list ((QV k (ps.take i)).map V.pav)∧f 4=.int .i64 (i:Nat)∧Qi (fr 63)=true∧Qi (fr 68)=true

set_option maxHeartbeats 1000000 in
theorem v85 {P:PL}{k:Int}(hk:Xr k)(ps:List (V×V))(hn:ps.length≤1048576)(h1:∀p∈ps,p.1.one P k (-1)=0)(hb:∀p∈ps,p.1.bits<18446744073709551616)(hu:ps.Pairwise fun q p=>Q2 q.1 p.1=false):Qh Tryz.prog 85 [.list (ps.map V.pav)] (.list ((QV k ps).map V.pav)):=by
 refine k85.fn (by simp) ?_;simp only[Qb,seval];refine HF (by simp only[Qb,seval]) ?_;simp only[Qb,seval];refine Qg (PwI k ps) _ ⟨_,_,0,rfl,rfl,QPJ _,(by rfl),rfl,(by rfl),rfl,rfl⟩ ?_;rintro _ st ⟨f,fr,i,rfl,rfl,hil,h0,h3,h4,N4,N5⟩;simp only[QQu,h0,h4,Qb,seval];by_cases hlt:i<ps.length
 ·obtain⟨x,hi⟩:∃x,ps[i]? = some x:=⟨ps[i],QPE hlt⟩;have hxm:=QPN hi;have hxa:=JI hi;have e1:=Qw i _ hlt (by simp only[maxLen];omega);have hperm:(QV k (ps.take i)).Perm (ps.take i):=Q0 _;have hO:(QV k (ps.take i)).length=i:=by rw[hperm.length_eq,QQw];omega
  have hstep:QV k (ps.take (i+1))=mg (fun x y:V×V=>kl k x.1 y.1) (QV k (ps.take i)) [x]:=by
   rw[QRm,hi,Option.toList_some];exact(Kf (ZF k) (ps.take i) [x]).symm
  have hsrt:X7 (fun x y:V×V=>kl k x.1 y.1) (QV k (ps.take i)):=XW (ZF k) _;have hOm:∀p∈QV k (ps.take i),p∈ps:=fun p hp=>QQo (hperm.mem_iff.1 hp)
  have hOk:∀p∈QV k (ps.take i),Q2 p.1 x.1=false:=by
   intro p hp;obtain⟨j,hj⟩:=QPL.1 (hperm.mem_iff.1 hp);have hjl:=(QPD.1 hj).1;rw[QQw]at hjl;rw[QQf,QP5 (by omega)]at hj;rw[QRz]at hu;have:=hu j i (by omega) hlt (by omega);rw[(QPD.1 hj).2,(QPD.1 hi).2]at this;exact this
  generalize QV k (ps.take i)=O at *;simp only[Qr hlt,e1,h4,Qb,seval];refine P5 ps hk hn h1 hb hu O i x hi fr _ (by exact h0) (by exact h3) (by exact h4) (by rfl) (by rfl) _ (fun f h0 h3 h4 h5=>?_);simp only[h5,Qb,seval];refine Dc (P:=P) ps hk O (by omega) (fun p hp=>h1 p (hOm p hp)) (fun p hp=>hb p (hOm p hp)) i x hi (h1 x hxm) (hb x hxm) fr _ (by exact h0) (by exact h3) (by exact h4) (by rfl) _ (fun t f ht hlow hup h0 h3 h4 h7=>?_);have hfin:(O.take t).map V.pav++([V.pav x]++(O.drop t).map V.pav)=(QV k (ps.take (i+1))).map V.pav:=by
   have:=K1 (lt:=fun x y:V×V=>kl k x.1 y.1) (y:=x) (X1:=O.take t) (X2:=O.drop t) (fun u hu=>by
    obtain⟨j,hj⟩:=QRD hu;rw[QQf]at hj;split at hj
    ·rename_i hjt;exact(ZF k).as (hlow j u hjt hj)
    ·cases hj) (fun u hu'=>by
    obtain⟨j,hj⟩:=QRD hu';rw[QQg]at hj;have hum:=QPN hj;refine Dd (h1 u (hOm u hum)) (h1 x hxm) (hb u (hOm u hum)) (hb x hxm) ?_ (hOk u hum);obtain⟨w,hw⟩:∃w,O[t]? = some w:=⟨O[t]'(by have:=(QPD.1 hj).1;omega),QPE _⟩;have h2:=KD hsrt (ZF k) (Nat.le_add_right t j) hw hj;exact(ZF k).nt u w x h2 (hup w hw))
   rw[QQQ]at this;rw[hstep,this];simp
  have hle:(t≤O.length)=True:=eq_true ht;have hdt:∀l':List AV,l'.length=O.length→(l'.drop t).take (O.length-t)=l'.drop t:=fun l' h=>QQa (by rw[QQh];omega)
  have hd1:((O.drop t).map V.pav).length=i-t:=by rw[QQu,QQh];omega
  have hd2:((O.take t).map V.pav).length=t:=by rw[QQu,QQw];omega
  have hT:∀j,i+1≤j→List.take j ((O.take t).map V.pav++([V.pav x]++(O.drop t).map V.pav))=(QV k (ps.take (i+1))).map V.pav:=fun j hj=>by
   rw[QQa (by simp only[QQe,QPP,QQv,hd1,hd2];omega),hfin]
  simp only[Qm,QQ2,Qf,hxa,QP9,QQj,h0,h4,eE,seval];refine YV (l:=[.int .i64 x.1.kd,.int .u64 (x.1.bits:Nat),.str x.1.text,.list (x.1.list.map V.av),.list (x.1.pairs.map V.pav),.list (x.1.slots.map V.sav),.list (x.1.raws.map R.av),.int .i64 x.2.kd,.int .u64 (x.2.bits:Nat),.str x.2.text,.list (x.2.list.map V.av),.list (x.2.pairs.map V.pav),.list (x.2.slots.map V.sav),.list (x.2.raws.map R.av)]) rfl rfl (by decide) rfl rfl N4 ?_;simp only[nn0,QP8,QQB,QQu,Jk,Xj,QRc,Qm,QQ2,hle,QPB,or_true,XQ,hdt _ (QQu ..),h3,h7,Qb,seval];refine QF (site:=63) (g:=Xx (fr 63)) (n:=1) (xs:=[V.pav x]) (ys:=(O.drop t).map V.pav) (by simp only[Qb,seval]) (by simp only[Q7,Qb,seval]) rfl rfl (by simp only[List.map_drop,Qb,seval]) (XQ _) (by rw[hd1];simp only[maxLen];omega) (by rw[hd1];omega) ?_;simp only[Qb,seval];refine XN (by simp only[Qb,seval];exact N5) ?_;simp only[QQu,Jk,Jt,Xj,QRc,Qm,QQ2,QPJ,QPB,hle,true_or,QQy,QQj,←List.map_take,h3,h7,Qb,seval];refine QF (site:=68) (g:=_) (n:=0) (xs:=[]) (ys:=(O.take t).map V.pav) (by simp only[Qb,seval]<;>rfl) (by simp only[Qb,seval]) rfl rfl (by simp only[Qb,seval]) (XQ _) (by rw[hd2];simp only[maxLen];omega) (by rw[hd2];omega) ?_;simp only[Qb,seval];refine UY (site:=68) (g:=_) (n:=0+((O.take t).map V.pav).length) (xs:=(O.take t).map V.pav) (ys:=[V.pav x]++(O.drop t).map V.pav) (by simp only[Qb,seval]<;>rfl) (by simp only[Qb,seval]) rfl (by omega) (by simp only[Qb,seval]<;>rfl) (by simp only[Qb,seval]) (by simp only[QQe,QPP,QQv,QQu]<;>omega) (XQ (x :: O.drop t)) (by simp only[QQe,QPP,QQv,hd1,hd2,maxLen];omega) (by simp only[QQe,QPP,QQv,hd1,hd2];omega) ?_;simp only[Qb,seval];refine KW (site:=68) (g:=_) (sz:=14) (n:=_) (xs:=(O.take t).map V.pav++([V.pav x]++(O.drop t).map V.pav)) (by simp only[Qb,seval]<;>rfl) (by simp only[Qb,seval]) (by simp only[QQe,QPP,QQv,hd1,hd2];omega) ?_;rw[hT];rotate_left
  ·simp only[hd1,hd2];omega
  simp only[e1,h4,Qb,seval];exact⟨ps.length-(i+1),by omega,_,_,i+1,rfl,rfl,by omega,(by exact h0),(by rfl),(by rfl),rfl,rfl⟩
 ·have hli:ps.take i=ps:=QQa (by omega);rw[hli]at h3;simp only[QO hlt,h3,Qb,seval]

def dl:List (V×V)→List (V×V)
 | []=>[]
 | [x]=>[x]
 |x :: y :: l=>if Q2 x.1 y.1=true then dl (y :: l)else x :: dl (y :: l)
def JY (T:List (V×V)):Nat→List (V×V)
 |0=>[]
 |i+1=>JY T i++(match T[i]?,T[i+1]? with
  |some x,some y=>if Q2 x.1 y.1=true then []else [x]
  |some x,none=>[x]
  |none,_=>[])
theorem B7 (T:List (V×V)):∀i,i≤T.length→dl T=JY T i++dl (T.drop i)
 |0,_=>rfl
 |i+1,h=>by
  rw[B7 T i (by omega),JY,QQk (by omega:i<T.length),QPE (by omega:i<T.length),QPV];congr 1
  by_cases hl:i+1<T.length
  ·rw[QQk hl,QPE hl];dsimp only;rw[dl];split<;>rfl
  ·rw[QQd (by omega),QQY (by omega)];rfl
theorem Qac (T:List (V×V)):JY T T.length=dl T:=by
 rw[B7 T T.length (QPB _),List.drop_length];show _=_++[];rw[QQD]
theorem Vw (T:List (V×V)):∀i,(JY T i).length≤i
 |0=>QPB _
 |i+1=>by
  have:=Vw T i;rw[JY,QQe];have h:(match T[i]?,T[i+1]? with
   |some x,some y=>if Q2 x.1 y.1=true then []else [x]
   |some x,none=>[x]
   |none,_=>([]:List (V×V))).length≤1:=by
   split
   ·split<;>simp
   ·simp
   ·simp
  omega

theorem P6 {k:Int}{a b c:V}(h:Q2 a b=true):kl k a c=kl k b c∧kl k c a=kl k c b:=by
 unfold Q2 at h;simp only[QPY,QP1]at h;unfold kl;rw[h.1,h.2];exact⟨rfl,rfl⟩
theorem B8 {k:Int}{a b:V×V}(h:kl k a.1 b.1=true):Q2 a.1 b.1=false:=by
 cases he:Q2 a.1 b.1 with
 |false=>rfl
 |true=>
  rw[(P6 (k:=k) he).1]at h;have:kl k b.1 b.1=false:=(ZF k).irr b;rw[this]at h;cases h

theorem Vx {k:Int}:∀ {a b:List (V×V)},(a.Pairwise fun x y=>kl k x.1 y.1=true)→(b.Pairwise fun x y=>kl k x.1 y.1=true)→(∀x,x∈a↔x∈b)→a=b
 | [],[],_,_,_=>rfl
 | [],y :: b,_,_,h=>by have:=(h y).2 (by simp);cases this
 |x :: a,[],_,_,h=>by have:=(h x).1 (by simp);cases this
 |x :: a,y :: b,ha,hb,h=>by
  obtain⟨a1,a2⟩:=QQ9.1 ha;obtain⟨b1,b2⟩:=QQ9.1 hb;have irr:∀z:V×V,kl k z.1 z.1=true→False:=fun z hz=>by rw[(ZF k).irr z]at hz;cases hz
  have e:x=y:=by
   rcases QQV.1 ((h x).1 (by simp))with e|e
   ·exact e
   ·rcases QQV.1 ((h y).2 (by simp))with e'|e'
    ·exact e'.symm
    ·exact(irr x ((ZF k).tr x y x (a1 y e') (b1 x e))).elim
  subst e;congr 1
  refine Vx a2 b2 fun z=>?_
  have hz:=h z;simp only[QQV]at hz
  constructor
  ·intro hm;rcases hz.1 (.inr hm)with e|e
   ·subst e;exact(irr z (a1 z hm)).elim
   ·exact e
  ·intro hm;rcases hz.2 (.inr hm)with e|e
   ·subst e;exact(irr z (b1 z hm)).elim
   ·exact e

theorem Fa {k:Int}:∀ {l:List (V×V)},(l.Pairwise fun x y=>kl k x.1 y.1=true)→dl l=l
 | [],_=>rfl
 | [x],_=>rfl
 |x :: y :: l,h=>by
  obtain⟨h1,h2⟩:=QQ9.1 h;rw[dl,B8 (h1 y (by simp)),QPO (by simp),Fa h2]
theorem P7 {k:Int}{x:V×V}{R:List (V×V)}:∀ {L:List (V×V)},(L.Pairwise fun x y=>kl k x.1 y.1=true)→(∀u∈L,kl k x.1 u.1=false)→dl (L++x :: R)=L.filter (fun q=>!Q2 q.1 x.1)++dl (x :: R)
 | [],_,_=>rfl
 | [u],_,_=>by
  show dl (u :: x :: R)=_;rw[dl,QRb];cases Q2 u.1 x.1<;>rfl
 |u :: v :: L,h,hx=>by
  obtain⟨h1,h2⟩:=QQ9.1 h;have huv:=h1 v (by simp);have hux:Q2 u.1 x.1=false:=by
   cases he:Q2 u.1 x.1 with
   |false=>rfl
   |true=>
    have:=hx v (by simp);rw[←(P6 (k:=k) he).1,huv]at this;cases this
  show dl (u :: v :: (L++x :: R))=_;rw[dl,B8 huv,QPO (by simp),QRb,hux];show u :: dl (v :: L++x :: R)=_;rw[P7 h2 fun w hw=>hx w (QPQ _ hw)];rfl

theorem Fb {k:Int}{x:V×V}:∀ {O:List (V×V)},X7 (fun x y:V×V=>kl k x.1 y.1) O→∃L R,O=L++R∧(∀u∈L,kl k x.1 u.1=false)∧∀u∈R,kl k x.1 u.1=true
 | [],_=>⟨[],[],rfl,(fun _ h=>(nomatch h)),(fun _ h=>(nomatch h))⟩
 |u :: O,h=>by
  obtain⟨h1,h2⟩:=QQ9.1 h;cases hx:kl k x.1 u.1 with
  |true=>
   refine⟨[],u :: O,rfl,(fun _ h=>(nomatch h)),fun w hw=>?_⟩;rcases QQV.1 hw with rfl|hw
   ·exact hx
   ·cases hc:kl k x.1 w.1 with
    |true=>rfl
    |false=>
     have:=(ZF k).nt x w u hc (h1 w hw);rw[hx]at this;cases this
  |false=>
   obtain⟨L,R,e,hl,hr⟩:=Fb (x:=x) h2;refine⟨u :: L,R,by rw[e];rfl,fun w hw=>?_,hr⟩;rcases QQV.1 hw with rfl|hw
   ·exact hx
   ·exact hl w hw

section
variable {P:PL}{k:Int}
def KF (P:PL)(k:Int)(l:List (V×V)):Prop:=∀p∈l,p.1.one P k (-1)=0∧p.1.bits<18446744073709551616

theorem Fc {l:List (V×V)}(h1:KF P k l)(hs:X7 (fun x y:V×V=>kl k x.1 y.1) l)(hu:l.Pairwise fun q p=>Q2 q.1 p.1=false):l.Pairwise fun x y=>kl k x.1 y.1=true:=by
 unfold X7 at hs;rw[QRz]at *;intro i j hi hj hij;obtain⟨a1,a2⟩:=h1 _ (QQs hi);obtain⟨b1,b2⟩:=h1 _ (QQs hj);exact Dd b1 a1 b2 a2 (hs i j hi hj hij) (by rw[W4];exact hu i j hi hj hij)

theorem Vy {A:List (V×V)}{x:V×V}(hA:KF P k A)(hx:x.1.one P k (-1)=0∧x.1.bits<18446744073709551616)(hu:A.Pairwise fun q p=>Q2 q.1 p.1=false):dl (QV k (A++[x]))=XA k A x:=by
 have hO:(QV k A).Perm A:=Q0 _;have hOs:X7 (fun x y:V×V=>kl k x.1 y.1) (QV k A):=XW (ZF k) _;have hT:QV k (A++[x])=mg (fun x y:V×V=>kl k x.1 y.1) (QV k A) [x]:=(Kf (ZF k) A [x]).symm;have hOf:KF P k (QV k A):=fun p hp=>hA p (hO.mem_iff.1 hp)
 have hOu:(QV k A).Pairwise fun q p=>Q2 q.1 p.1=false:=(hO.pairwise_iff fun {a b} h=>by rw[W4];exact h).2 hu
 have hst:=Fc hOf hOs hOu;obtain⟨L,R,e,hl,hr⟩:=Fb (k:=k) (x:=x) hOs;rw[hT,e,K1 hl hr];rw[e]at hst;obtain⟨hL,hR,hLR⟩:=QRa.1 hst;have hxR:(x :: R).Pairwise fun x y=>kl k x.1 y.1=true:=QQ9.2 ⟨hr,hR⟩
 rw[P7 hL hl,Fa hxR];have hmem:∀w,w∈A↔w∈L∨w∈R:=fun w=>by rw[←hO.mem_iff,e,QQS]
 have hpm:∀w,w∈XA k A x↔(w∈A∧Q2 w.1 x.1=false)∨w=x:=by
  intro w;have hp:(XA k A x).Perm _:=Q0 _;rw[hp.mem_iff,QQS,QQ7,QRx];simp
 refine Vx (k:=k) ?_ ?_ ?_
 ·rw[QRa];refine⟨hL.filter _,hxR,fun u hu' w hw=>?_⟩;obtain⟨u1,u2⟩:=QQ7.1 hu';have u2:Q2 u.1 x.1=false:=by simpa using u2
  rcases QQV.1 hw with rfl|hw
  ·obtain⟨f1,f2⟩:=hA u ((hmem u).2 (.inl u1));exact Dd hx.1 f1 hx.2 f2 (hl u u1) (by rw[W4];exact u2)
  ·exact hLR u u1 w hw
 ·refine Fc (P:=P) (fun p hp=>?_) (XW (ZF k) _) (Vt hu);rcases(hpm p).1 hp with⟨h,_⟩|rfl
  ·exact hA p h
  ·exact hx
 ·intro w;rw[QQS,QQ7,QQV,hpm,hmem]
  constructor
  ·rintro(⟨h1,h2⟩|h1|h1)
   ·exact .inl ⟨.inl h1,by simpa using h2⟩
   ·exact .inr h1
   ·exact .inl ⟨.inr h1,by rw[W4];exact B8 (hr w h1)⟩
  ·rintro(⟨h1|h1,h2⟩|h1)
   ·exact .inl ⟨h1,by simpa using h2⟩
   ·exact .inr (.inr h1)
   ·exact .inr (.inl h1)
end

def PqI (T:List (V×V))(k:Nat)(st:St):Prop :=
 ∃f fr i g h,st=⟨f,[fr],[]⟩∧k=T.length-i∧i≤T.length∧f 3=.vec 0 1000 g 0 T.length false∧f 4=.vec 0 4 h 0 (JY T i).length false∧f 11=.vec 0 1000 g 0 T.length false∧f 12=.int .i64 (T.length:Nat)∧f 13=.int .i64 (i:Nat)∧fr 1000=.vec g 14 (T.map V.pav)∧fr 4=.vec h 14 ((JY T i).map V.pav)∧∀s∈[6],(fr s).isRow=false

theorem AH {P:PL}{k:Int}(hk:Xr k)(ps:List (V×V))(hn:ps.length≤1048576)(h1:∀p∈ps,p.1.one P k (-1)=0)(hb:∀p∈ps,p.1.bits<18446744073709551616):Qh Tryz.prog 103 [.list (ps.map V.pav)] (.list ((dl (QV k ps)).map V.pav)):=by
 have cl:=fun fr hr=>Qtj (ps.map V.pav) fr [] (XQ ps) (by rw[QQu];exact hn) hr
 have ez:∀x∈ps.map V.pav,Ez (eP P k) 14 x:=by
  intro x hx;obtain⟨p,hp,rfl⟩:=QQT.1 hx;exact ezP (h1 p hp) (hb p hp)
 have cs:=fun g (m:Qj) (hl:Am.Qd m 0 1000=.vec g 14 (ps.map V.pav))=>Tz.CW Tg.PU (by decide) (Qtk (P:=P) hk) 0 1000 g (ps.map V.pav) m hl ez (by rw[QQu];omega)
 simp only[BU,QQu]at cs;have hperm:(QV k ps).Perm ps:=Q0 _;have hlen:(QV k ps).length=ps.length:=hperm.length_eq;have h1T:∀p∈QV k ps,p.1.one P k (-1)=0:=fun p hp=>h1 p (hperm.mem_iff.1 hp)
 have hbT:∀p∈QV k ps,p.1.bits<18446744073709551616:=fun p hp=>hb p (hperm.mem_iff.1 hp)
 generalize QV k ps=T at *;have hdn:=Qac T;have hdl:=Vw T;rw[←hdn];refine Qh7.fn (by simp) ?_;simp only[Qb,seval];refine QU (cl _ rfl) (by simp only[QP8,QQB,Qb,seval]) ?_;simp only[QQu,Qb,seval];refine QU (cs _ _ (by simp only[eE,seval]<;>rfl)) (by simp only[QP8,QQB,Qb,seval]) ?_;simp only[eE,seval];refine Jq (by simp only[Qb,seval]) (by simp only[Qb,seval]) ?_;simp only[eE,seval];refine Qg (PqI T) _ ⟨_,_,0,_,_,rfl,rfl,QPJ _,(by rw[hlen];exact(by rfl)),(by rfl),(by rw[hlen];exact(by rfl)),(by rw[hlen];exact(by rfl)),(by rfl),(by rfl),(by rfl),by simp<;>rfl⟩ ?_;rintro _ st ⟨f0,fr0,i,g,h,rfl,rfl,hil,h30,h40,h110,h120,h130,mR0,m40,r6⟩;refine QX (a:=_) [6] r6 ?_;intro f fr hf hm hn6;have h3:f 3=.vec 0 1000 g 0 T.length false:=by rw[hf,h30]<;>rfl
 have h4:f 4=.vec 0 4 h 0 (JY T i).length false:=by rw[hf,h40]<;>rfl
 have h11:f 11=.vec 0 1000 g 0 T.length false:=by rw[hf,h110]<;>rfl
 have h12:f 12=.int .i64 (T.length:Nat):=by rw[hf,h120]<;>rfl
 have h13:f 13=.int .i64 (i:Nat):=by rw[hf,h130]<;>rfl
 have mR:fr 1000=.vec g 14 (T.map V.pav):=by rw[hm 1000 (by decide),mR0]<;>rfl
 have m4:fr 4=.vec h 14 ((JY T i).map V.pav):=by rw[hm 4 (by decide),m40]<;>rfl
 have n6:=hn6 6 (by decide);clear hf hm hn6 h30 h40 h110 h120 h130 mR0 m40 r6;simp only[h12,h13,Qb,seval];by_cases hlt:i<T.length
 ·obtain⟨x,hi⟩:∃x,T[i]? = some x:=⟨T[i],QPE hlt⟩;have hg:=JI hi;have e1:=Qw i _ hlt (by simp only[maxLen];omega);have ia:∀(fr:Nat→Ob) (j:Nat),fr 1000=.vec g 14 (T.map V.pav)→j<T.length→Qf [fr] 14 none (.vec 0 1000 g 0 T.length false) ((j:Nat):Int)=some (.vptr 0 1000 g j 0):=fun fr j h hj=>Sg h hj
  have la:∀(fr:Nat→Ob),fr 1000=.vec g 14 (T.map V.pav)→Q6 [fr] (some 14) (.vptr 0 1000 g i 0)=some (.agg [.int .i64 x.1.kd,.int .u64 (x.1.bits:Nat),.str x.1.text,.list (x.1.list.map V.av),.list (x.1.pairs.map V.pav),.list (x.1.slots.map V.sav),.list (x.1.raws.map R.av),.int .i64 x.2.kd,.int .u64 (x.2.bits:Nat),.str x.2.text,.list (x.2.list.map V.av),.list (x.2.pairs.map V.pav),.list (x.2.slots.map V.sav),.list (x.2.raws.map R.av)]):=fun fr h=>BT h hg (by simp)
  have hdi:=hdl i;have keep:JY T (i+1)=JY T i++[x]→∀(f':Fr) (fr':Nat→Ob) (h':Nat),f' 3=.vec 0 1000 g 0 T.length false→f' 4=.vec 0 4 h' 0 ((JY T i).length+1) false→f' 11=.vec 0 1000 g 0 T.length false→f' 12=.int .i64 (T.length:Nat)→f' 13=.int .i64 ((i+1:Nat):Int)→fr' 1000=.vec g 14 (T.map V.pav)→fr' 4=.vec h' 14 ((JY T i).map V.pav++[V.pav x])→(∀s∈[6],(fr' s).isRow=false)→∃k,k<T.length-i∧PqI T k ⟨f',[fr'],[]⟩:=by
   intro hk' f' fr' h' a3 a4 a11 a12 a13 b1 b4 b6;exact⟨T.length-(i+1),by omega,f',fr',i+1,g,h',rfl,rfl,by omega,a3,by rw[a4,hk',QQe];rfl,a11,a12,a13,b1,by rw[b4,hk',QRl];rfl,b6⟩
  have hst:JY T (i+1)=JY T i++(match T[i]?,T[i+1]? with
   |some x,some y=>if Q2 x.1 y.1=true then []else [x]
   |some x,none=>[x]
   |none,_=>[]):=rfl
  rw[hi]at hst;have hti:((JY T i).map V.pav).length=(JY T i).length:=QQu ..;simp only[Qr hlt,ia,la,mR,hlt,n6,h3,h11,h13,e1,eE,seval];by_cases hl:i+1=T.length
  ·have d1:(((i+1:Nat):Int)==(T.length:Int))=true:=by simp;omega
   rw[QQY (by omega)]at hst;simp only[d1,h4,eE,seval];refine QN (l:=[V.pav x]) rfl rfl rfl (by rw[Q7];rfl) ?_;refine QF (site:=4) (g:=h) (n:=(JY T i).length) (xs:=(JY T i).map V.pav) (ys:=[V.pav x]) (by rfl) (by exact m4) rfl hti.symm rfl (XQ [x]) (by simp only[QPP,QQv,maxLen];omega) (by simp only[QPP,QQv];omega) ?_;simp only[h13,e1,Qb,seval];exact keep hst _ _ (h+1) (by exact h3) (by rfl) (by exact h11) (by exact h12) (by rfl) (by exact mR) (by rfl) (by simp<;>rfl)
  ·have d1:(((i+1:Nat):Int)==(T.length:Int))=false:=by simp;omega
   have hlt1:i+1<T.length:=by omega
   obtain⟨y,hj⟩:∃y,T[i+1]? = some y:=⟨T[i+1],QPE hlt1⟩;have hgj:=JI hj;have lc:∀(fr:Nat→Ob),fr 1000=.vec g 14 (T.map V.pav)→Q6 [fr] (some 7) (.vptr 0 1000 g (i+1) 0)=some (.agg [.int .i64 y.1.kd,.int .u64 (y.1.bits:Nat),.str y.1.text,.list (y.1.list.map V.av),.list (y.1.pairs.map V.pav),.list (y.1.slots.map V.sav),.list (y.1.raws.map R.av)]):=fun fr h=>by
    rw[BT h hgj (by simp)];rfl
   have hx1:=h1T x (QPN hi);have hy1:=h1T y (QPN hj);rw[hj]at hst;dsimp only at hst;have hq:=Qs2 k hk x.1.bits y.1.bits x.1.text y.1.text;rw[←(Jw hx1).1,←(Jw hy1).1,Vk hk hx1 hy1 (hbT x (QPN hi)) (hbT y (QPN hj)),Qc,Qc]at hq;simp only[d1,ia,lc,mR,hlt1,Wm,QQi,QP9,QQI,QQj,h3,e1,eE,seval];refine Qa hq rfl rfl rfl (.inl rfl) ?_;cases hne:Q2 x.1 y.1
   ·skip
    rw[hne,QPO (by simp)]at hst;simp only[h4,eE,seval];refine QN (l:=[V.pav x]) rfl rfl rfl (by rw[Q7];rfl) ?_;refine QF (site:=4) (g:=h) (n:=(JY T i).length) (xs:=(JY T i).map V.pav) (ys:=[V.pav x]) (by rfl) (by exact m4) rfl hti.symm rfl (XQ [x]) (by simp only[QPP,QQv,maxLen];omega) (by simp only[QPP,QQv];omega) ?_;simp only[h13,e1,Qb,seval];exact keep hst _ _ (h+1) (by exact h3) (by rfl) (by exact h11) (by exact h12) (by rfl) (by exact mR) (by rfl) (by simp<;>rfl)
   ·rw[hne,QP5 rfl,QQD]at hst;simp only[h13,e1,Qb,seval];exact⟨T.length-(i+1),by omega,_,_,i+1,g,h,rfl,rfl,by omega,(by exact h3),(by rw[hst];exact(by exact h4)),(by exact h11),(by exact h12),(by rfl),(by exact mR),(by rw[hst];exact(by exact m4)),by simp<;>rfl⟩
 ·have e:i=T.length:=by omega
  subst e;simp only[QO hlt,h4,eE,seval];simp[AV.un,Zp,XD,m4];rw[QQa (by rw[QQu];exact QPB _)]

open Vp Cp

theorem QtB {k:Int}:Qv ⟨0,[],[],0,0,k,-1,0⟩=.agg [.int .i64 0,.str [],.str [],.int .i64 0,.int .i64 0,.int .i64 k,.int .i64 (-1),.int .i64 0]:=rfl

section
variable {M K n:Nat}(P:PL)(hP:P.ok M)(c:C)(l s:Nat)(m:Qj)(hm:l<m.length)(hs:Am.Qd m l s=Q4 P c)(hc:CI c){rec:Int→V→C→Rd V}(hrec:H2 P M K n rec)(hcn:c.left≤n)(hb1:(1:Int)+3*c.left≤K)

include hP hm hs hc hrec hcn hb1 in
theorem QLt (o:PO)(w:Int)(ht:o.kind=10→0≤o.target∧o.target<(P.progs.length:Int)) :
  Qx Tryz.prog 144 [.ptr l s 0,Qv o,.int .i64 w] m (Rt P l s m V.av (ZG P rec o.kind o.target w c)):=by
 have hs0:=hs;have lp:∀o,Am.Qd (Am.put m l s o) l s=o:=fun o=>Ql hm
 have pp:∀o q,Am.put (Am.put m l s o) l s q=Am.put m l s q:=fun o q=>put_put
 have hwo:=P0 o;simp only[Qv,PO.cells]at hwo;refine QG8.go (by simp) ?_;simp only[Qv,PO.cells,eE,seval];refine Qa hwo rfl rfl rfl (.inl rfl) ?_;unfold ZG;by_cases hw:w=wk o.kind
 case neg=>
  have b1:(w != wk o.kind)=true:=by simp[hw]
  rw[QPO hw];simp only[b1,eE,seval];exact⟨by decide,Qs 0 0 [],c,(by rw[XO];rfl),(put_self hm hs0).symm⟩
 have b1:(w != wk o.kind)=false:=by simp[hw]
 rw[QP5 hw];by_cases hk:o.kind=10
 ·have b2:(o.kind==10)=true:=by simp[hk]
  rw[QP5 hk];simp only[b1,b2,Kr,eE,seval];refine Ka (Qty P c (l+1) s _ (by simp only[QPP];omega) hs0 hc hrec (ht hk) (Qs 10 0 []) 0 (Int.le_refl 0) hcn (fun hn=>Xn hn) (Xt rfl (by decide) (QPJ _)) (by rw[QZ];omega)) (by rw[XO];first|rfl|simp only[QP8,QQB,Db,nn0,eE,seval]) ?_;intro x m1 hx _;cases hr:Je rec o.target (Qs 10 0 []) 0 c with
  |error e=>
   rw[hr]at hx;obtain⟨he,y,c',rfl,rfl⟩:=hx;simp only[Qc y,QR,eE,seval];exact⟨he,y,c',by rw[Qc y],rfl⟩
  |ok p=>
   obtain⟨y,d⟩:=p;rw[hr]at hx;obtain⟨rfl,rfl⟩:=hx;simp only[Qc y,QR,eE,seval];exact⟨by rw[Qc y],rfl⟩
 ·have b2:(o.kind==10)=false:=by simp[hk]
  rw[QPO hk];simp only[b1,b2,Kr,eE,seval];refine QJ (Qtv P c (l+1) s _ (by simp only[QPP];omega) hs0 hc w) (by simp only[QP8,QQB,Qb,seval]) ?_;intro x m1 hx _;cases hr:Kp w c with
  |error e=>
   rw[hr]at hx;obtain⟨he,y,c',rfl,rfl⟩:=hx;dsimp only;simp only[Qu he,R.av,QR,eE,seval];exact⟨he,Qs 0 0 [],c',(by rw[XO];rfl),rfl⟩
  |ok p=>
   obtain⟨f,d⟩:=p;rw[hr]at hx;obtain⟨rfl,rfl⟩:=hx;obtain⟨_,_,b3,b4⟩:=WZ hc hr;have hsc:=Qtx P hP o f b3;have e0:P.av=.agg [.list (P.progs.map Qp),.list (P.enums.map QW)]:=rfl;dsimp only;generalize Xb P o.kind o.target f=q at hsc ⊢;obtain⟨x,e⟩:=q;simp only[X6,e0,Qv,PO.cells,R.av,Qc x]at hsc;simp only[R.av,Q4,lp,sh2,eE,seval];refine Qa hsc rfl rfl rfl (.inl rfl) ?_;simp only[QR,eE,seval];by_cases he:e=0
   ·subst he;rw[QP5 rfl];exact⟨by rw[Qc x];rfl,rfl⟩
   ·rw[QPO he];exact⟨he,x,d,by rw[Qc x],rfl⟩

variable (g:PG)(hg:g.ops.length≤maxLen)(v:V)(hv:(v.cnt:Int)+3*c.left≤K)(hK:K≤1000000)(hvo:v.ok M)(o:PO)

include hm hs hc hrec hcn hb1 hg hv hK hvo in
theorem j94 (ho:OpK P g o)(h10:o.kind=10)(h5:o.card≠5)(hvm:MW P (n+1) g v) :
  Qx Tryz.prog 94 [.ptr l s 0,Qp g,v.av,Qv o] m (Rt P l s m V.av (Jx rec g v o c)):=by
 have hs0:=hs;have lp:∀o,Am.Qd (Am.put m l s o) l s=o:=fun o=>Ql hm
 have pp:∀o q,Am.put (Am.put m l s o) l s q=Am.put m l s q:=fun o q=>put_put
 have ls:=Xe v;have hcb:=hc.bd;have ht:=ho.uo.tgt h10;have hfd:=P2 v o.num (by omega);have hoc:=Kt v o.num;have hol:=W5 (n:=o.num) hvo;have hin:=fun(fr:Nat→Ob) (b:V) (k:Int) (h0:0≤k) (h1:1≤n→MW P n (Qn P o.target) b) (h2:b.ok M) (h3:(b.cnt:Int)+3*c.left≤K)=>Qty P c (l+1) s (fr :: m) (by simp only[QPP];omega) hs0 hc hrec ht b k h0 hcn h1 h2 h3
 have hset:=fun y=>CZ g v o y hg (by omega)
 have hlo:=fun x=>Qto (QL v o.num) x (by have:=Zn (QL v o.num);omega)
 have hon:∀h:(Xk v o.num).isSome=false,QL v o.num=Qs 0 0 []:=fun h=>Zo (by rw[h];simp)
 have hom:o.card≠4→(Xk v o.num).isSome=true→MW P n (Qn P o.target) (QL v o.num):=by
  intro h4 h;obtain⟨z,hz⟩:=QP0.1 h;have h2:=W6 hvm ho.self hz;unfold FW at h2;rw[QPO h4,QPO h5]at h2;rw[(Xg hz).2];exact h2 h10
 rw[Qc v]at hset;simp only[Qp,Qv,PG.cells,PO.cells]at hset;unfold Jx;generalize QL v o.num=z at hfd hlo hoc hol hon hom ⊢;rw[Qc v,Qc z]at hfd;rw[Qc z]at hlo;rw[Qc v];refine k94.go (by simp) ?_;simp only[Qp,Qv,PG.cells,PO.cells,eE,seval];refine Qa hfd rfl rfl rfl (.inl rfl) ?_;by_cases h4:o.card=4
 ·have b4':(o.card==4)=true:=by simp[h4]
  rw[QP5 h4];cases hf:(Xk v o.num).isSome
  case false=>
   have hkk:(if (false:Bool)=true then(1:Int)else 2)=2:=rfl;rw[hkk];simp only[b4',Kr,eE,seval];refine Ka (hin _ (Qs 10 0 []) 2 (by decide) (fun hn=>Xn hn) (Xt rfl (by decide) (QPJ _)) (by rw[QZ];omega)) (by rw[XO];first|rfl|simp only[QP8,QQB,Db,nn0,eE,seval]) ?_;intro x m1 hx _;cases hr:Je rec o.target (Qs 10 0 []) 2 c with
   |error e=>
    rw[hr]at hx;obtain⟨he,y,c',rfl,rfl⟩:=hx;dsimp only;simp only[Qu he,Qc y,QR,eE,seval];exact⟨he,v,c',by rw[Qc v],rfl⟩
   |ok p=>
    obtain⟨y,d⟩:=p;rw[hr]at hx;obtain⟨rfl,rfl⟩:=hx;have h1:=hlo y;have h2:=hset (Q8 (z.list++[y]));dsimp only;generalize Xi g v o (Q8 (z.list++[y]))=w at h2 ⊢;generalize Q8 (z.list++[y])=u at h1 h2;rw[Qc y,Qc u]at h1;rw[Qc u,Qc w]at h2;simp only[Qc y,eE,seval];refine Qa h1 rfl rfl rfl (.inl rfl) ?_;refine Qa h2 rfl rfl rfl (.inl rfl) ?_;simp only[QR,eE,seval];exact⟨by rw[Qc w],rfl⟩

  case true=>
   have hkk:(if (true:Bool)=true then(1:Int)else 2)=1:=rfl;rw[hkk];simp only[b4',Kr,eE,seval];refine Ka (hin _ (Qs 10 0 []) 1 (by decide) (fun hn=>Xn hn) (Xt rfl (by decide) (QPJ _)) (by rw[QZ];omega)) (by rw[XO];first|rfl|simp only[QP8,QQB,Db,nn0,eE,seval]) ?_;intro x m1 hx _;cases hr:Je rec o.target (Qs 10 0 []) 1 c with
   |error e=>
    rw[hr]at hx;obtain⟨he,y,c',rfl,rfl⟩:=hx;dsimp only;simp only[Qu he,Qc y,QR,eE,seval];exact⟨he,v,c',by rw[Qc v],rfl⟩
   |ok p=>
    obtain⟨y,d⟩:=p;rw[hr]at hx;obtain⟨rfl,rfl⟩:=hx;have h1:=hlo y;have h2:=hset (Q8 (z.list++[y]));dsimp only;generalize Xi g v o (Q8 (z.list++[y]))=w at h2 ⊢;generalize Q8 (z.list++[y])=u at h1 h2;rw[Qc y,Qc u]at h1;rw[Qc u,Qc w]at h2;simp only[Qc y,eE,seval];refine Qa h1 rfl rfl rfl (.inl rfl) ?_;refine Qa h2 rfl rfl rfl (.inl rfl) ?_;simp only[QR,eE,seval];exact⟨by rw[Qc w],rfl⟩
 ·have b4':(o.card==4)=false:=by simp[h4]
  rw[QPO h4];cases hf:(Xk v o.num).isSome
  case false=>
   have hkk:(if (false:Bool)=true then z else Qs 10 0 [])=Qs 10 0 []:=rfl;rw[hkk];simp only[b4',Kr,eE,seval];refine Ka (hin _ (Qs 10 0 []) 1 (by decide) (fun hn=>Xn hn) (Xt rfl (by decide) (QPJ _)) (by rw[QZ];omega)) (by rw[Qc (Qs 10 0 [])];first|rfl|simp only[QP8,QQB,Db,nn0,eE,seval]) ?_;intro x m1 hx _;cases hr:Je rec o.target (Qs 10 0 []) 1 c with
   |error e=>
    rw[hr]at hx;obtain⟨he,y,c',rfl,rfl⟩:=hx;dsimp only;simp only[Qu he,Qc y,QR,eE,seval];exact⟨he,v,c',by rw[Qc v],rfl⟩
   |ok p=>
    obtain⟨y,d⟩:=p;rw[hr]at hx;obtain⟨rfl,rfl⟩:=hx;have h2:=hset y;dsimp only;generalize Xi g v o y=w at h2 ⊢;rw[Qc y,Qc w]at h2;simp only[Qc y,eE,seval];refine Qa h2 rfl rfl rfl (.inl rfl) ?_;simp only[QR,eE,seval];exact⟨by rw[Qc w],rfl⟩

  case true=>
   have hkk:(if (true:Bool)=true then z else Qs 10 0 [])=z:=rfl;rw[hkk];simp only[b4',Kr,eE,seval];refine Ka (hin _ (z) 1 (by decide) (fun _=>hom h4 hf) (hol) (by omega)) (by rw[Qc (z)];first|rfl|simp only[QP8,QQB,Db,nn0,eE,seval]) ?_;intro x m1 hx _;cases hr:Je rec o.target (z) 1 c with
   |error e=>
    rw[hr]at hx;obtain⟨he,y,c',rfl,rfl⟩:=hx;dsimp only;simp only[Qu he,Qc y,QR,eE,seval];exact⟨he,v,c',by rw[Qc v],rfl⟩
   |ok p=>
    obtain⟨y,d⟩:=p;rw[hr]at hx;obtain⟨rfl,rfl⟩:=hx;have h2:=hset y;dsimp only;generalize Xi g v o y=w at h2 ⊢;rw[Qc y,Qc w]at h2;simp only[Qc y,eE,seval];refine Qa h2 rfl rfl rfl (.inl rfl) ?_;simp only[QR,eE,seval];exact⟨by rw[Qc w],rfl⟩

end

def XR (c:C):List AV:=[.str c.d,.int .i64 c.a,.int .i64 c.e,.int .i64 c.dp,.int .i64 c.nd,.int .i64 c.tx]

section
variable {M K n:Nat}(hM:3000≤M)(hK:K≤1000000)(P:PL)(hP:P.ok M)(l s:Nat)(m:Qj)(hm:l<m.length)(g:PG)(hg:g.ops.length≤maxLen)(o:PO)(ho:OpK P g o)(h5:o.card≠5)

structure PkF (g:PG)(o:PO)(d:C)(l s:Nat)(f:Fr)(fr:Nat→Ob)(v:V):Prop where
 f0:f 0=.ptr (l+1) s 0
 f5:f 5=.ptr 0 5 0
 f6:f 6=.ptr 0 6 0
 f7:f 7=.ptr 0 7 0
 f8:f 8=.ptr 0 8 0
 f12:f 12=.ptr 0 12 0
 m5:fr 5=.cells g.cells
 m6:fr 6=.cells (vc v)
 m7:fr 7=.cells o.cells
 m8:fr 8=.cells XJ
 m12:fr 12=.cells (XR d)

include hM hK hP hm hg ho h5 in
theorem Vz (d:C)(R0:Rd V)(k:Nat)(v:V)(c:C)(f:Fr)(fr:Nat→Ob)(hf:PkF g o d l s f fr v)(hc:CI c)(hk:c.left≤k)(hR:K7 P g o k v c=R0)(hvm:MW P (n+1) g v)(hvo:v.ok M)(hb:(v.cnt:Int)+3*c.left≤K)(Q:Exit→St→Prop)
  (hx:∀f fr v c,PkF g o d l s f fr v→R0=.ok (v,c)→Q (.exit 0) ⟨f,fr :: Am.put m l s (Q4 P c),[]⟩)
  (he:∀f fr v (e:Nat) c,f 8=.ptr 0 8 0→fr 8=.cells (vc v)→f 9=.int .i64 (e:Nat)→R0=.error e→e≠0→Q .ret ⟨f,fr :: Am.put m l s (Q4 P c),[]⟩) :
  QH Tryz.prog (.loop SN) ⟨f,fr :: Am.put m l s (Q4 P c),[]⟩ Q:=by
 have lp:∀o,Am.Qd (Am.put m l s o) l s=o:=fun o=>Ql hm
 have pp:∀o q,Am.put (Am.put m l s o) l s q=Am.put m l s q:=fun o q=>put_put
 have hpl:∀o,l+1<(Am.put m l s o).length+1:=fun o=>by rw[QR];omega
 let I:Nat→St→Prop:=fun k st=>∃f fr v c,st=⟨f,fr :: Am.put m l s (Q4 P c),[]⟩∧PkF g o d l s f fr v∧CI c∧c.left≤k∧K7 P g o k v c=R0∧MW P (n+1) g v∧v.ok M∧(v.cnt:Int)+3*c.left≤K
 refine Qg I k ⟨f,fr,v,c,rfl,hf,hc,hk,hR,hvm,hvo,hb⟩ ?_;clear hf hc hk hR hvm hvo hb;rintro k st ⟨f,fr,v,c,rfl,hf,hc,hk,hR,hvm,hvo,hb⟩;have hcb:=hc.bd;obtain⟨h0,h5',h6,h7,h8,h12,m5',m6',m7',m8',m12'⟩:=hf;have m5:=m5';have m6:=m6';have m7:=m7';have m8:=m8';simp only[PG.cells]at m5;simp only[vc]at m6;simp only[PO.cells]at m7;simp only[XJ]at m8;simp only[Q4,lp,h0,ZP,eE,seval];refine Qa (D3 c hc.big') rfl rfl rfl (.inl rfl) ?_;by_cases hlt:0<c.left
 case neg=>
  have d1:decide (c.left > 0)=false:=QRo hlt;have hR':R0=.ok (v,c):=by
   rw[←hR];cases k with
   |zero=>rfl
   |succ k=>rw[K7,QPO hlt]
  simp only[d1,Qb,seval];exact hx _ _ v c ⟨(by exact h0),(by exact h5'),(by exact h6),(by exact h7),(by exact h8),(by exact h12),m5',m6',m7',m8',m12'⟩ hR'
 have d1:decide (c.left > 0)=true:=QRs hlt;obtain⟨k,rfl⟩:∃j,k=j+1:=⟨k-1,by omega⟩;rw[K7,QP5 hlt]at hR;have hon:=j95 P hP c (l+1) s (fr :: Am.put m l s (Q4 P c)) (by exact hpl _) (by exact lp _) hc g hg v (by omega) o;rw[Qc v]at hon;simp only[Qp,Qv,PG.cells,PO.cells,Q4]at hon;simp only[d1,h0,h5',h6,h7,m5,m6,m7,eE,seval];refine QJ hon (by simp only[QP8,QQB,Qb,seval]<;>rfl) ?_;intro x m1 hx1 _;cases hr:WY P g v o c with
 |error e=>
  rw[hr]at hx1 hR;obtain⟨he',w,c',rfl,rfl⟩:=hx1;simp only[Qc w,Qu he',h6,h8,m6,m8,pp,eE,seval];exact he _ _ w e c' (by exact h8) (by rfl) (by rfl) hR.symm he'
 |ok p=>
  obtain⟨w,d1⟩:=p;rw[hr]at hx1 hR;obtain⟨rfl,rfl⟩:=hx1;obtain⟨r1,r2,r3,r4⟩:=He hM hK ho hc hvm hvo hb h5 hr;have hl:=r1.lt hc;dsimp only at hR;simp only[Qc w,h6,m6,pp,eE,seval];exact⟨k,by omega,_,_,w,d1,rfl,⟨(by exact h0),(by exact h5'),(by exact h6),(by exact h7),(by exact h8),(by exact h12),(by exact m5'),(by rfl),(by exact m7'),(by exact m8'),(by exact m12')⟩,r1.ci hc,by omega,hR,r2,r3,by omega⟩

variable (c:C)(hs:Am.Qd m l s=Q4 P c)(hc:CI c)(v:V)(hvm:MW P (n+1) g v)(hvo:v.ok M)(hb:(v.cnt:Int)+3*c.left≤K)

include hM hK hP hm hg ho h5 hs hc hvm hvo hb in
theorem j92 (h4:o.card=4) :
  Qx Tryz.prog 92 [.ptr l s 0,Qp g,v.av,Qv o] m (Rt P l s m V.av (Yj P g v o c)):=by
 have hs0:=hs;have lp:∀o,Am.Qd (Am.put m l s o) l s=o:=fun o=>Ql hm
 have pp:∀o q,Am.put (Am.put m l s o) l s q=Am.put m l s q:=fun o q=>put_put
 have hpl:∀o,l+1<(Am.put m l s o).length+1:=fun o=>by rw[QR];omega
 have ls:=Xe v;have hcb:=hc.bd;have hwo:=P0 o;have hfd:=P2 v o.num (by omega);have hset:=CZ g v o (Q8 []) hg (by omega);have hok:=Jr (g:=g) (x:=Q8 []) hvo ho.wf (WK (fun y hy=>(nomatch hy)) (QPJ _)) (by omega);have hmw:=Js (x:=Q8 []) hvm ho.self (by unfold FW;rw[QP5 h4];exact fun y hy=>(nomatch hy));have hct:=JM g v o (Q8 []);rw[Ki]at hct;simp only[Zd]at hct;unfold Yj;rw[show(Q8 []).av=.agg [.int .i64 11,.int .u64 0,.str [],.list [],.list [],.list [],.list []]from Qc _]at hset;generalize Xi g v o (Q8 [])=w at hset hok hmw hct ⊢;rw[Qc v,Qc w]at hset;generalize QL v o.num=z at hfd;rw[Qc v,Qc z]at hfd;simp only[Qp,Qv,PG.cells,PO.cells]at hset hwo;rw[Qc v];refine k92.go (by simp) ?_;simp only[Qp,Qv,PG.cells,PO.cells,eE,seval];refine QJ (C1 P c (l+1) s _ (by simp only[QPP];omega) hs0 hc) (by simp only[QP8,QQB,Qb,seval]) ?_;intro x m1 hx _;cases hr:Jd c with
 |error e=>
  rw[hr]at hx;obtain⟨he,a,c',rfl,rfl⟩:=hx;dsimp only;simp only[Qu he,QR,eE,seval];exact⟨he,v,c',by rw[Qc v],rfl⟩
 |ok p=>
 obtain⟨q,d⟩:=p;obtain⟨a1,a2⟩:=Jn hc hr;have hd:=a1.ci hc;have hl1:=a1.lt hc;have hdb:=hd.bd;rw[hr]at hx;obtain⟨rfl,rfl⟩:=hx;obtain⟨_,p2,p3⟩:=Kq hd a2;dsimp only;simp only[eE,seval];refine QJ (Qtw P d (l+1) s _ (by exact lp _) q) (by simp only[QP8,QQB,Qb,seval]) ?_;rintro x m1 ⟨rfl,rfl⟩ _;have hby:=QKY (part d q) p2.big';have hya:=DA p2;generalize part d q=i at hby hya p2 p3 ⊢;generalize Ze i=r at hby hya ⊢;obtain⟨b,j,e⟩:=r;dsimp only at hya;simp only[US,C.av]at hby;simp only[C.av,Q4,lp,pp,ZP,ZB,eE,seval];refine Qa hby rfl rfl rfl (.inl rfl) ?_;by_cases he:e=0
 case neg=>
  rw[QPO he];simp only[Qu he,ZB,QR,eE,seval];exact⟨he,v,i,by rw[Qc v],rfl⟩
 subst he;obtain⟨y1,y2,y3⟩:=hya rfl;have hj:=y1.ci p2;have hlj:=y1.lt p2;have hjb:=hj.bd;have w1:IntKind.i64.wrap b=b:=by rw[QB];omega
 rw[QP5 rfl];simp only[w1,lp,pp,ZP,ZB,eE,seval];refine Qa hwo rfl rfl rfl (.inl rfl) ?_;by_cases hw:b=wk o.kind
 case neg=>
  have b1:(b != wk o.kind)=true:=by simp[hw]
  rw[QPO hw];simp only[b1,QR,eE,seval];exact⟨by decide,v,j,by rw[Qc v];rfl,rfl⟩
 have b1:(b != wk o.kind)=false:=by simp[hw]
 rw[QP5 hw];simp only[b1,Kr,eE,seval];refine Qa hfd rfl rfl rfl (.inl rfl) ?_
 -- X0 the loop
 cases hf:(Xk v o.num).isSome
 case false=>
  simp only[QPT,eE,seval];refine QJ (B4 P j (l+1) s _ (by exact lp _) 1) (by simp only[QP8,QQB,Qb,seval]) ?_;rintro x m1 ⟨rfl,rfl⟩ _;rcases Zf j 1 with⟨j2,h2,h2'⟩|⟨e,he,h2,h2'⟩
  case inr=>
   rw[h2,h2'];dsimp only;simp only[Qu he,pp,QR,eE,seval];exact⟨he,v,_,by rw[Qc v],rfl⟩
  rw[h2,h2'];obtain⟨s1,_⟩:=XV hj (by omega) h2;have hj2:=s1.ci hj;have hls:=(s1.left hj).2.2;have hj2b:=hj2.bd;dsimp only;simp only[pp,eE,seval];refine Qa hset rfl rfl rfl (.inl rfl) ?_;simp only[eE,seval];unfold Wi;refine Vz (n:=n) hM hK P hP l s m hm g hg o ho h5 d _ j2.left.toNat w j2 _ _ ⟨(by rfl),(by rfl),(by rfl),(by rfl),(by rfl),(by rfl),(by rfl),(by rfl),(by rfl),(by rfl),(by rfl)⟩ hj2 (by omega) rfl hmw hok (by omega) _ (fun f fr v' c' hf' hR'=>?_) (fun f fr v' e c' h8 m8 h9 hR' he=>?_)
  ·obtain⟨h0,h5',h6,h7,h8,h12,m5,m6,m7,m8,m12⟩:=hf';rw[hR'];dsimp only;simp only[vc]at m6;simp only[XJ]at m8;simp only[XR]at m12;simp only[h0,h12,m12,ZP,eE,seval];refine QJ (C2 P c' (l+1) s _ (by exact lp _) d) (by simp only[QP8,QQB,C.av,Qb,seval]) ?_;rintro x m1 ⟨rfl,rfl⟩ _;simp only[h6,h8,m6,m8,pp,QR,eE,seval];exact⟨by rw[Qc v'],rfl⟩
  ·rw[hR'];dsimp only;simp only[vc]at m8;simp only[h8,m8,h9,QR,eE,seval];exact⟨he,v',c',by rw[Qc v'],rfl⟩
 case true=>
  simp only[eE,seval];unfold Wi;refine Vz (n:=n) hM hK P hP l s m hm g hg o ho h5 d _ j.left.toNat v j _ _ ⟨(by rfl),(by rfl),(by rfl),(by rfl),(by rfl),(by rfl),(by rfl),(by rfl),(by rfl),(by rfl),(by rfl)⟩ hj (by omega) rfl hvm hvo (by omega) _ (fun f fr v' c' hf' hR'=>?_) (fun f fr v' e c' h8 m8 h9 hR' he=>?_)
  ·obtain⟨h0,h5',h6,h7,h8,h12,m5,m6,m7,m8,m12⟩:=hf';rw[hR'];dsimp only;simp only[vc]at m6;simp only[XJ]at m8;simp only[XR]at m12;simp only[h0,h12,m12,ZP,eE,seval];refine QJ (C2 P c' (l+1) s _ (by exact lp _) d) (by simp only[QP8,QQB,C.av,Qb,seval]) ?_;rintro x m1 ⟨rfl,rfl⟩ _;simp only[h6,h8,m6,m8,pp,QR,eE,seval];exact⟨by rw[Qc v'],rfl⟩
  ·rw[hR'];dsimp only;simp only[vc]at m8;simp only[h8,m8,h9,QR,eE,seval];exact⟨he,v',c',by rw[Qc v'],rfl⟩

end

def Z0 (P:PL)(g:PG)(o:PO):Nat→V→C→V×C×Nat
 |0,v,c=>(v,c,0)
 |k+1,v,c=>if 0<c.left then(if (J2 P g v o c).2.2=0 then Z0 P g o k (J2 P g v o c).1 (J2 P g v o c).2.1 else J2 P g v o c)else(v,c,0)
theorem Hx (P:PL)(g:PG)(o:PO):∀(k:Nat) (v:V) (c:C),K7 P g o k v c=if (Z0 P g o k v c).2.2=0 then .ok ((Z0 P g o k v c).1,(Z0 P g o k v c).2.1)else .error (Z0 P g o k v c).2.2
 |0,v,c=>rfl
 |k+1,v,c=>by
  rw[K7,Z0,UX];by_cases h:0<c.left
  ·rw[QP5 h,QP5 h];by_cases h1:(J2 P g v o c).2.2=0
   ·rw[QP5 h1,QP5 h1];exact Hx P g o k _ _
   ·rw[QPO h1,QPO h1,QPO h1]
  ·rw[QPO h,QPO h];rfl
def KI (P:PL)(g:PG)(v:V)(o:PO)(c d i:C):V×C×Nat :=
 if (Z0 P g o i.left.toNat v i).2.2=0 then((Z0 P g o i.left.toNat v i).1,X0 d (Z0 P g o i.left.toNat v i).2.1,0)
 else((Z0 P g o i.left.toNat v i).1,c,(Z0 P g o i.left.toNat v i).2.2)
theorem Uk (P:PL)(g:PG)(v:V)(o:PO)(c d i:C):Wi P g v o d i=if (KI P g v o c d i).2.2=0 then .ok ((KI P g v o c d i).1,(KI P g v o c d i).2.1)else .error (KI P g v o c d i).2.2:=by
 unfold Wi KI;rw[Hx];generalize Z0 P g o i.left.toNat v i=r;by_cases h:r.2.2=0
 ·simp only[QP5 h,if_true]
 ·simp only[QPO h]
def WH (P:PL)(g:PG)(v:V)(o:PO)(c:C):V×C×Nat :=
 match Jd c with
 |.error e=>(v,c,e)
 |.ok (n,d)=>
  if (Ze (part d n)).2.2=0 then
   if (Ze (part d n)).1=wk o.kind then
    if (Xk v o.num).isSome=true then KI P g v o c d (Ze (part d n)).2.1
    else if ((Ze (part d n)).2.1.spend 1).2=0 then KI P g (Xi g v o (Q8 [])) o c d ((Ze (part d n)).2.1.spend 1).1
    else(v,c,((Ze (part d n)).2.1.spend 1).2)
   else(v,c,13)
  else(v,c,(Ze (part d n)).2.2)
theorem Ns (P:PL)(g:PG)(v:V)(o:PO)(c:C):Yj P g v o c=if (WH P g v o c).2.2=0 then .ok ((WH P g v o c).1,(WH P g v o c).2.1)else .error (WH P g v o c).2.2:=by
 unfold Yj WH;cases hr:Jd c with
 |error e=>
  have he:=Ym hr;simp only[QPO he]
 |ok p=>
  obtain⟨n,d⟩:=p;dsimp only;by_cases h1:(Ze (part d n)).2.2=0
  case neg=>simp only[QPO h1]
  simp only[QP5 h1];by_cases h2:(Ze (part d n)).1=wk o.kind
  case neg=>simp only[QPO h2];rfl
  simp only[QP5 h2];by_cases h3:(Xk v o.num).isSome=true
  ·simp only[QP5 h3];exact Uk P g v o c d _
  simp only[QPO h3];unfold JX;by_cases h4:((Ze (part d n)).2.1.spend 1).2=0
  ·simp only[QP5 h4];exact Uk P g _ o c d _
  ·simp only[QPO h4]

def YL:List AV:=[.str [],.int .i64 0,.int .i64 0,.int .i64 0,.int .i64 0,.int .i64 0]
def QG (P:PL):List AV:=[.list (P.progs.map Qp),.list (P.enums.map QW)]

section
variable {M K n:Nat}(hM:3000≤M)(hK:K≤1000000)(P:PL)(hP:P.ok M)(g:PG)(hg:g.ops.length≤maxLen)(o:PO)(ho:OpK P g o)(h5:o.card≠5)(hun : -1≤o.union)

structure PxF (P:PL)(g:PG)(o:PO)(c0 d:C)(f:Fr)(fr:Nat→Ob)(v:V)(c:C):Prop where
 f5:f 5=.ptr 0 5 0
 f6:f 6=.ptr 0 6 0
 f7:f 7=.ptr 0 7 0
 f8:f 8=.ptr 0 8 0
 f9:f 9=.ptr 0 9 0
 f10:f 10=.ptr 0 10 0
 f11:f 11=.ptr 0 11 0
 f14:f 14=.ptr 0 14 0
 f17:f 17=.ptr 0 17 0
 m5:fr 5=.cells (QG P)
 m6:fr 6=.cells g.cells
 m7:fr 7=.cells (vc v)
 m8:fr 8=.cells o.cells
 m9:fr 9=.cells (XR c0)
 m10:fr 10=.cells XJ
 m11:fr 11=.cells YL
 m14:fr 14=.cells (XR d)
 m17:fr 17=.cells (XR c)

include hM hK hP hg ho h5 hun in
theorem VA (c0 d:C)(R0:V×C×Nat)(k:Nat)(v:V)(c:C)(f:Fr)(fr:Nat→Ob)(hf:PxF P g o c0 d f fr v c)(hc:CI c)(hk:c.left≤k)(hR:Z0 P g o k v c=R0)(hvm:MW P (n+1) g v)(hvo:v.ok M)(hb:(v.cnt:Int)+3*c.left≤K)(Q:Exit→St→Prop)
  (hx:∀f fr v c,PxF P g o c0 d f fr v c→R0=(v,c,0)→Q (.exit 0) ⟨f,[fr],[]⟩)
  (he:∀f fr v (e:Nat) c,f 10=.ptr 0 10 0→f 11=.ptr 0 11 0→fr 10=.cells (vc v)→fr 11=.cells (XR c0)→f 12=.int .i64 (e:Nat)→R0=(v,c,e)→e≠0→Q .ret ⟨f,[fr],[]⟩) :
  QH Tryz.prog (.loop TB) ⟨f,[fr],[]⟩ Q:=by
 let I:Nat→St→Prop:=fun k st=>∃f fr v c,st=⟨f,[fr],[]⟩∧PxF P g o c0 d f fr v c∧CI c∧c.left≤k∧Z0 P g o k v c=R0∧MW P (n+1) g v∧v.ok M∧(v.cnt:Int)+3*c.left≤K
 refine Qg I k ⟨f,fr,v,c,rfl,hf,hc,hk,hR,hvm,hvo,hb⟩ ?_;clear hf hc hk hR hvm hvo hb;rintro k st ⟨f,fr,v,c,rfl,hf,hc,hk,hR,hvm,hvo,hb⟩;have hcb:=hc.bd;have hsl:∀s∈v.slots,∃q,XL g s.1=some q:=fun s hs=>let ⟨q,h,_⟩:=hvm.1 s hs;⟨q,h⟩
 obtain⟨h5',h6,h7,h8,h9,h10,h11,h14,h17,m5',m6',m7',m8',m9',m10',m11',m14',m17'⟩:=hf;have m5:=m5';have m6:=m6';have m7:=m7';have m8:=m8';have m9:=m9';have m10:=m10';have m11:=m11';have m17:=m17';simp only[QG]at m5;simp only[PG.cells]at m6;simp only[vc]at m7;simp only[PO.cells]at m8;simp only[XR]at m9 m17;simp only[XJ]at m10;simp only[YL]at m11;simp only[h17,m17,eE,seval];refine Qa (Vn c) rfl rfl rfl (.inl rfl) ?_;by_cases hlt:0<c.left
 case neg=>
  have d1:decide (c.left > 0)=false:=QRo hlt;have hR':R0=(v,c,0):=by
   rw[←hR];cases k with
   |zero=>rfl
   |succ k=>rw[Z0,QPO hlt]
  simp only[d1,Qb,seval];exact hx _ _ v c ⟨(by exact h5'),(by exact h6),(by exact h7),(by exact h8),(by exact h9),(by exact h10),(by exact h11),(by exact h14),(by exact h17),m5',m6',m7',m8',m9',m10',m11',m14',m17'⟩ hR'
 have d1:decide (c.left > 0)=true:=QRs hlt;obtain⟨k,rfl⟩:∃j,k=j+1:=⟨k-1,by omega⟩;rw[Z0,QP5 hlt]at hR;have hon:=j83 P hP g v o hc hg (by omega) hsl hun;have hxr:=UX P g v o c;generalize J2 P g v o c=r at hon hxr hR;obtain⟨w,c1,e⟩:=r;dsimp only at hR hxr;rw[show P.av=.agg (QG P)from rfl,Qc v]at hon;simp only[QG,Qp,Qv,PG.cells,PO.cells,C.av,xv,Qc w]at hon;simp only[d1,h5',h6,h7,h8,h17,m5,m6,m7,m8,m17,eE,seval];refine Qa hon rfl rfl rfl (.inl rfl) ?_;by_cases he':e=0
 case neg=>
  rw[QPO he']at hR;simp only[Qu he',h7,h9,h10,h11,h17,m7,m9,m10,m11,m17,eE,seval];exact he _ _ w e c1 (by exact h10) (by exact h11) (by rfl) (by rfl) (by rfl) hR.symm he'
 subst he';rw[QP5 rfl]at hR hxr;obtain⟨r1,r2,r3,r4⟩:=He hM hK ho hc hvm hvo hb h5 hxr;have hl:=r1.lt hc;simp only[h7,h17,m7,m17,eE,seval];exact⟨k,by omega,_,_,w,c1,rfl,⟨(by exact h5'),(by exact h6),(by exact h7),(by exact h8),(by exact h9),(by exact h10),(by exact h11),(by exact h14),(by exact h17),(by exact m5'),(by exact m6'),(by rfl),(by exact m8'),(by exact m9'),(by exact m10'),(by exact m11'),(by exact m14'),(by rfl)⟩,r1.ci hc,by omega,hR,r2,r3,by omega⟩

include hM hK hP hg ho h5 hun in
theorem j80 (h4:o.card=4){c:C}(hc:CI c)(v:V)(hvm:MW P (n+1) g v)(hvo:v.ok M)(hb:(v.cnt:Int)+3*c.left≤K) :
  Qh Tryz.prog 80 [P.av,Qp g,v.av,Qv o,c.av] (xv (WH P g v o c)):=by
 have ls:=Xe v;have hcb:=hc.bd;have hwo:=DD o.num o.name o.alias o.card o.key o.kind o.target o.union;have hge:=Vv v o.num (by omega);have hle:=C0 hc;have hsl:∀s∈v.slots,∃q,XL g s.1=some q:=fun s hs=>let ⟨q,h,_⟩:=hvm.1 s hs;⟨q,h⟩
 have hpu:=B3 g v o (Q8 []) hg (by omega) hsl hun;have hok:=Jr (g:=g) (x:=Q8 []) hvo ho.wf (WK (fun y hy=>(nomatch hy)) (QPJ _)) (by omega);have hmw:=Js (x:=Q8 []) hvm ho.self (by unfold FW;rw[QP5 h4];exact fun y hy=>(nomatch hy));have hct:=JM g v o (Q8 []);rw[Ki]at hct;simp only[Zd]at hct;unfold WH;rw[show(Q8 []).av=.agg [.int .i64 11,.int .u64 0,.str [],.list [],.list [],.list [],.list []]from Qc _]at hpu;generalize Xi g v o (Q8 [])=w at hpu hok hmw hct ⊢;rw[Qc v,Qc w]at hpu;generalize QL v o.num=z at hge;rw[Qc v,Qc z]at hge;simp only[oc]at hwo;simp only[Qp,Qv,PG.cells,PO.cells]at hpu;rw[show P.av=.agg (QG P)from rfl,Qc v];cases hr:Jd c with
 |error e=>
  rw[DG hr]at hle;have he:=Ym hr;simp only[C.av]at hle;refine k80.fn (by simp) ?_;simp only[QG,Qp,Qv,PG.cells,PO.cells,C.av,eE,seval];refine Qa hle rfl rfl rfl (.inl rfl) ?_;simp only[Qu he,xv,Qc v,C.av,eE,seval]
 |ok p=>
 obtain⟨q,d⟩:=p;obtain⟨a1,a2⟩:=Jn hc hr;have hd:=a1.ci hc;have hl1:=a1.lt hc;have hdb:=hd.bd;rw[DE hr]at hle;obtain⟨_,p2,p3⟩:=Kq hd a2;have hpt:=Qtq (c:=d) q;have hby:=QKZ (part d q);have hya:=DA p2;dsimp only at hle ⊢;generalize part d q=i at hpt hby hya p2 p3 ⊢;generalize Ze i=r at hby hya ⊢;obtain⟨b,j,e⟩:=r;dsimp only at hya;simp only[US,C.av]at hby;simp only[C.av]at hle hpt;refine k80.fn (by simp) ?_;simp only[QG,Qp,Qv,PG.cells,PO.cells,C.av,eE,seval];refine Qa hle rfl rfl rfl (.inl rfl) ?_;simp only[eE,seval];refine Qa hpt rfl rfl rfl (.inl rfl) ?_;refine Qa hby rfl rfl rfl (.inl rfl) ?_;by_cases he:e=0
 case neg=>
  rw[QPO he];simp only[Qu he,xv,Qc v,C.av,eE,seval]
 subst he;obtain⟨y1,y2,y3⟩:=hya rfl;have hj:=y1.ci p2;have hlj:=y1.lt p2;have hjb:=hj.bd;have w1:IntKind.i64.wrap b=b:=by rw[QB];omega
 rw[QP5 rfl];simp only[w1,eE,seval];refine Qa hwo rfl rfl rfl (.inl rfl) ?_;by_cases hw:b=wk o.kind
 case neg=>
  have b1:(b != wk o.kind)=true:=by simp[hw]
  rw[QPO hw];simp only[b1,xv,Qc v,C.av,eE,seval]<;>rfl
 have b1:(b != wk o.kind)=false:=by simp[hw]
 rw[QP5 hw];simp only[b1,eE,seval];refine Qa hge rfl rfl rfl (.inl rfl) ?_;have hbh:=fun c'=>Sr d c'
 cases hf:(Xk v o.num).isSome
 case false=>
  simp only[QPT,eE,seval];have hsp:=D2 j 1;have hsa:=fun d (h:JX j 1=.ok d)=>XV hj (by omega) h
  unfold JX at hsa;generalize j.spend 1=q1 at hsp hsa ⊢;obtain⟨j2,e5⟩:=q1;dsimp only at hsa;simp only[Z6,C.av]at hsp;dsimp only;refine Qa hsp rfl rfl rfl (.inl rfl) ?_;by_cases he5:e5=0
  case neg=>
   rw[QPO he5];simp only[Qu he5,xv,Qc v,C.av,eE,seval]
  subst he5;obtain⟨s1,_⟩:=hsa j2 (by rw[QP5 rfl]);have hj2:=s1.ci hj;have hls:=(s1.left hj).2.2;have hj2b:=hj2.bd;rw[QP5 rfl];simp only[eE,seval];refine Qa hpu rfl rfl rfl (.inl rfl) ?_;simp only[eE,seval];unfold KI;refine VA (n:=n) hM hK P hP g hg o ho h5 hun c d _ j2.left.toNat w j2 _ _ ⟨(by rfl),(by rfl),(by rfl),(by rfl),(by rfl),(by rfl),(by rfl),(by rfl),(by rfl),(by rfl),(by rfl),(by rfl),(by rfl),(by rfl),(by rfl),(by rfl),(by rfl),(by rfl)⟩ hj2 (by omega) rfl hmw hok (by omega) _ (fun f fr v' c' hf' hR'=>?_) (fun f fr v' e c' h10 h11 m10 m11 h12 hR' he=>?_)
  ·obtain⟨h5',h6,h7,h8,h9,h10,h11,h14,h17,m5,m6,m7,m8,m9,m10,m11,m14,m17⟩:=hf';have hb2:=hbh c';rw[hR'];dsimp only;generalize X0 d c'=y at hb2 ⊢;simp only[C.av]at hb2;simp only[vc]at m7;simp only[XJ]at m10;simp only[YL]at m11;simp only[XR]at m14 m17;simp only[h7,h14,h17,m7,m14,m17,eE,seval];refine Qa hb2 rfl rfl rfl (.inl rfl) ?_;simp only[h10,h11,m10,m11,xv,Qc v',C.av,eE,seval]
  ·rw[hR'];dsimp only;rw[QPO he];simp only[vc]at m10;simp only[XR]at m11;simp only[h10,h11,h12,m10,m11,xv,Qc v',C.av,eE,seval]
 case true=>
  simp only[eE,seval];unfold KI;refine VA (n:=n) hM hK P hP g hg o ho h5 hun c d _ j.left.toNat v j _ _ ⟨(by rfl),(by rfl),(by rfl),(by rfl),(by rfl),(by rfl),(by rfl),(by rfl),(by rfl),(by rfl),(by rfl),(by rfl),(by rfl),(by rfl),(by rfl),(by rfl),(by rfl),(by rfl)⟩ hj (by omega) rfl hvm hvo (by omega) _ (fun f fr v' c' hf' hR'=>?_) (fun f fr v' e c' h10 h11 m10 m11 h12 hR' he=>?_)
  ·obtain⟨h5',h6,h7,h8,h9,h10,h11,h14,h17,m5,m6,m7,m8,m9,m10,m11,m14,m17⟩:=hf';have hb2:=hbh c';rw[hR'];dsimp only;generalize X0 d c'=y at hb2 ⊢;simp only[C.av]at hb2;simp only[vc]at m7;simp only[XJ]at m10;simp only[YL]at m11;simp only[XR]at m14 m17;simp only[h7,h14,h17,m7,m14,m17,eE,seval];refine Qa hb2 rfl rfl rfl (.inl rfl) ?_;simp only[h10,h11,m10,m11,xv,Qc v',C.av,eE,seval]
  ·rw[hR'];dsimp only;rw[QPO he];simp only[vc]at m10;simp only[XR]at m11;simp only[h10,h11,h12,m10,m11,xv,Qc v',C.av,eE,seval]

end

def Re (h:V→V×V)(r:Rd V)(y:AV):Prop:=match r with
 |.ok (u,d)=>y=.tup [V.pav (h u),d.av,.int .i64 0]
 |.error e=>e≠0∧∃(u:V×V) (d:C),y=.tup [V.pav u,d.av,.int .i64 (e:Nat)]

section
variable {M K n:Nat}{rec:Int→V→C→Rd V}(P:PL)(hP:P.ok M)(o:PO)(x:V×V)(w:Int){c:C}(hc:CI c)

include hP hc in
theorem QEA (hk10:o.key≠10) :
  Ge Tryz.prog 127 [P.av,Qv o,V.pav x,.int .i64 1,.int .i64 w,c.av] (Re (fun u=>(u,x.2)) (ZG P rec o.key (-1) w c)):=by
 have hsg:=C3 o.num o.name o.alias o.card o.key o.kind o.target o.union;have hwi:=DD 0 [] [] 2 0 o.key (-1) (-1);have hct:=Sq hc w;have hxr:=YK w c;have hex:∀(e:Nat) (u:V×V) (d:C),e≠0→Re (fun u=>(u,x.2)) (.error e) (.tup [V.pav u,d.av,.int .i64 (e:Nat)]):=fun e u d h=>⟨h,u,d,rfl⟩
 simp only[oc]at hsg hwi;unfold ZG;rw[QPO hk10,show P.av=.agg (QG P)from rfl,Q7 x];by_cases hw:w=wk o.key
 case neg=>
  have b1:(w != wk o.key)=true:=by simp[hw]
  have h:=hex 13 x c (by decide);rw[Q7 x]at h;simp only[C.av]at h;rw[QPO hw];refine HH.rl (by simp) ?_;simp only[QG,Qv,PO.cells,C.av,eE,seval];refine Qa hsg rfl rfl rfl (.inl rfl) ?_;simp only[eE,seval];refine Qa hwi rfl rfl rfl (.inl rfl) ?_;simp only[b1,eE,seval];exact h
 have b1:(w != wk o.key)=false:=by simp[hw]
 rw[QP5 hw];cases hr:Kp w c with
 |error e=>
  have he:=C7 hr;have h:=hex e x c he;rw[hr]at hxr;generalize KN w c=q at hct hxr;obtain⟨f,d,e'⟩:=q;dsimp only at hxr;split at hxr
  ·cases hxr
  cases hxr;rw[Q7 x]at h;simp only[C.av]at h;simp only[Hw,R.av,C.av]at hct;refine HH.rl (by simp) ?_;simp only[QG,Qv,PO.cells,C.av,eE,seval];refine Qa hsg rfl rfl rfl (.inl rfl) ?_;simp only[eE,seval];refine Qa hwi rfl rfl rfl (.inl rfl) ?_;simp only[b1,eE,seval];refine Qa hct rfl rfl rfl (.inl rfl) ?_;simp only[Qu he,eE,seval];exact h
 |ok p=>
 obtain⟨f,d⟩:=p;obtain⟨b1',_,b3,b4⟩:=WZ hc hr;rw[hr]at hxr;generalize KN w c=q at hct hxr;obtain⟨f',d',e'⟩:=q;dsimp only at hxr;split at hxr
 case isFalse=>cases hxr
 rename_i he';cases hxr;have he'':e'=0:=he';subst he'';have hsc:=Ss P hP ⟨0,[],[],2,0,o.key,-1,-1⟩ f b3 (by simp only[maxLen];omega);dsimp only at hsc ⊢;generalize Xb P o.key (-1) f=q at hsc ⊢;obtain⟨u,e⟩:=q;have h:Re (fun u=>(u,x.2)) (if e=0 then .ok (u,d)else .error e) (.tup [V.pav (u,x.2),d.av,.int .i64 (e:Nat)]):=by
  by_cases he:e=0
  ·subst he;rw[QP5 rfl];exact rfl
  ·rw[QPO he];exact hex e (u,x.2) d he
 rw[Q7 (u,x.2)]at h;simp only[C.av]at h;rw[show P.av=.agg (QG P)from rfl]at hsc;simp only[X6,QG,Qv,PO.cells,R.av,Qc u]at hsc;simp only[Hw,R.av,C.av]at hct;refine HH.rl (by simp) ?_;simp only[QG,Qv,PO.cells,C.av,eE,seval];refine Qa hsg rfl rfl rfl (.inl rfl) ?_;simp only[eE,seval];refine Qa hwi rfl rfl rfl (.inl rfl) ?_;simp only[b1,eE,seval];refine Qa hct rfl rfl rfl (.inl rfl) ?_;simp only[eE,seval];refine Qa hsc rfl rfl rfl (.inl rfl) ?_;simp only[eE,seval];exact h

include hP hc in
theorem QEB (hrec:H3 P M K n rec)(hre:Yx rec)(hcn:c.left≤n)(hb1:(1:Int)+3*c.left≤K)(ht:o.kind=10→0≤o.target∧o.target<(P.progs.length:Int)) :
  Ge Tryz.prog 127 [P.av,Qv o,V.pav x,.int .i64 2,.int .i64 w,c.av] (Re (fun u=>(x.1,u)) (ZG P rec o.kind o.target w c)):=by
 have hsg:=C3 o.num o.name o.alias o.card o.key o.kind o.target o.union;have hwi:=DD o.num o.name o.alias 2 o.key o.kind o.target o.union;have hct:=Sq hc w;have hxr:=YK w c;have hex:∀(e:Nat) (u:V×V) (d:C),e≠0→Re (fun u=>(x.1,u)) (.error e) (.tup [V.pav u,d.av,.int .i64 (e:Nat)]):=fun e u d h=>⟨h,u,d,rfl⟩
 simp only[oc]at hsg hwi;unfold ZG;rw[show P.av=.agg (QG P)from rfl,Q7 x];by_cases hw:w=wk o.kind
 case neg=>
  have b1:(w != wk o.kind)=true:=by simp[hw]
  have h:=hex 13 x c (by decide);rw[Q7 x]at h;simp only[C.av]at h;rw[QPO hw];refine HH.rl (by simp) ?_;simp only[QG,Qv,PO.cells,C.av,eE,seval];refine Qa hsg rfl rfl rfl (.inl rfl) ?_;simp only[eE,seval];refine Qa hwi rfl rfl rfl (.inl rfl) ?_;simp only[b1,eE,seval];exact h
 have b1:(w != wk o.kind)=false:=by simp[hw]
 rw[QP5 hw];by_cases hk:o.kind=10
 ·have bk:(o.kind==10)=true:=by simp[hk]
  have hel:=Qtr o;have hin:=Qtz P hrec o hc hcn (ht hk) (Qs 10 0 []) 0 (Int.le_refl 0) (fun hn=>Xn hn) (Xt rfl (by decide) (QPJ _)) (by rw[QZ];omega);rw[hk,show(Qs 10 0 []).av=.agg [.int .i64 10,.int .u64 0,.str [],.list [],.list [],.list [],.list []]from Qc _]at hel;rw[QP5 hk];have h:Re (fun u=>(x.1,u)) (Je rec o.target (Qs 10 0 []) 0 c) (.tup [V.pav (x.1,(KO (Qs 10 0 []) c (Je rec o.target (Qs 10 0 []) 0 c)).1),(KO (Qs 10 0 []) c (Je rec o.target (Qs 10 0 []) 0 c)).2.1.av,.int .i64 ((KO (Qs 10 0 []) c (Je rec o.target (Qs 10 0 []) 0 c)).2.2:Nat)]):=by
   cases hr:Je rec o.target (Qs 10 0 []) 0 c with
   |error e=>exact hex e _ _ (Yn hre hr)
   |ok p=>exact rfl
  generalize hq:KO (Qs 10 0 []) c (Je rec o.target (Qs 10 0 []) 0 c)=q at hin h;clear hq;obtain⟨u,d,e⟩:=q;rw[Q7]at h;rw[show(Qs 10 0 []).av=.agg [.int .i64 10,.int .u64 0,.str [],.list [],.list [],.list [],.list []]from Qc _,show P.av=.agg (QG P)from rfl]at hin;simp only[C.av]at h;simp only[QG,Qv,PO.cells,C.av,xv,Qc u]at hin;simp only[Qv,PO.cells]at hel;refine HH.rl (by simp) ?_;simp only[QG,Qv,PO.cells,C.av,eE,seval];refine Qa hsg rfl rfl rfl (.inl rfl) ?_;simp only[eE,seval];refine Qa hwi rfl rfl rfl (.inl rfl) ?_;simp only[b1,bk,eE,seval];refine Qa hel rfl rfl rfl (.inl rfl) ?_;simp only[eE,seval];refine Qa hin rfl rfl rfl (.inl rfl) ?_;simp only[eE,seval];exact h
 have bk:(o.kind==10)=false:=by simp[hk]
 rw[QPO hk];cases hr:Kp w c with
 |error e=>
  have he:=C7 hr;have h:=hex e x c he;rw[hr]at hxr;generalize KN w c=q at hct hxr;obtain⟨f,d,e'⟩:=q;dsimp only at hxr;split at hxr
  ·cases hxr
  cases hxr;rw[Q7 x]at h;simp only[C.av]at h;simp only[Hw,R.av,C.av]at hct;refine HH.rl (by simp) ?_;simp only[QG,Qv,PO.cells,C.av,eE,seval];refine Qa hsg rfl rfl rfl (.inl rfl) ?_;simp only[eE,seval];refine Qa hwi rfl rfl rfl (.inl rfl) ?_;simp only[b1,bk,eE,seval];refine Qa hct rfl rfl rfl (.inl rfl) ?_;simp only[Qu he,eE,seval];exact h
 |ok p=>
 obtain⟨f,d⟩:=p;obtain⟨b1',_,b3,b4⟩:=WZ hc hr;rw[hr]at hxr;generalize KN w c=q at hct hxr;obtain⟨f',d',e'⟩:=q;dsimp only at hxr;split at hxr
 case isFalse=>cases hxr
 rename_i he';cases hxr;have he'':e'=0:=he';subst he'';have hsc:=Ss P hP ⟨o.num,o.name,o.alias,2,o.key,o.kind,o.target,o.union⟩ f b3 (by simp only[maxLen];omega);dsimp only at hsc ⊢;generalize Xb P o.kind o.target f=q at hsc ⊢;obtain⟨u,e⟩:=q;have h:Re (fun u=>(x.1,u)) (if e=0 then .ok (u,d)else .error e) (.tup [V.pav (x.1,u),d.av,.int .i64 (e:Nat)]):=by
  by_cases he:e=0
  ·subst he;rw[QP5 rfl];exact rfl
  ·rw[QPO he];exact hex e (x.1,u) d he
 rw[Q7 (x.1,u)]at h;simp only[C.av]at h;rw[show P.av=.agg (QG P)from rfl]at hsc;simp only[X6,QG,Qv,PO.cells,R.av,Qc u]at hsc;simp only[Hw,R.av,C.av]at hct;refine HH.rl (by simp) ?_;simp only[QG,Qv,PO.cells,C.av,eE,seval];refine Qa hsg rfl rfl rfl (.inl rfl) ?_;simp only[eE,seval];refine Qa hwi rfl rfl rfl (.inl rfl) ?_;simp only[b1,bk,eE,seval];refine Qa hct rfl rfl rfl (.inl rfl) ?_;simp only[eE,seval];refine Qa hsc rfl rfl rfl (.inl rfl) ?_;simp only[eE,seval];exact h

end
end Go.Proofs.YtfgchfdkiomfpaaGreat.Va

namespace Go.Proofs.YtfgchfdkiomfpaaGreat.Va
open Go Am Rc Bt Br Up So

def Zs (ps:List (V×V)):Nat→List (V×V)
 |0=>[]
 |i+1=>match ps[i]? with
  |some x=>if (ps.drop (i+1)).all (fun y=>!Q2 x.1 y.1)=true then Zs ps i++[x]else Zs ps i
  |none=>Zs ps i
theorem C8 {ps:List (V×V)}{i:Nat}{x:V×V}(hx:ps[i]? = some x)(h:(ps.drop (i+1)).all (fun y=>!Q2 x.1 y.1)=true):Zs ps (i+1)=Zs ps i++[x]:=by
 rw[Zs,hx];dsimp only;rw[QP5 h]
theorem AI {ps:List (V×V)}{i:Nat}{x:V×V}(hx:ps[i]? = some x)(h:(ps.drop (i+1)).all (fun y=>!Q2 x.1 y.1)=false):Zs ps (i+1)=Zs ps i:=by
 rw[Zs,hx];dsimp only;rw[QPO (by rw[h];simp)]
theorem VB (ps:List (V×V)):∀i,(Zs ps i).length≤i
 |0=>QPB _
 |i+1=>by
  have:=VB ps i;rw[Zs];split
  ·split
   ·rw[QQe,QPP,QQv];omega
   ·omega
  ·omega
theorem DH {ps:List (V×V)}{p:V×V}:∀ {i},p∈Zs ps i→∃j,j<i∧ps[j]? = some p∧(ps.drop (j+1)).all (fun y=>!Q2 p.1 y.1)=true
 |0,h=>by cases h
 |i+1,h=>by
  have rc:p∈Zs ps i→∃j,j<i+1∧ps[j]? = some p∧(ps.drop (j+1)).all (fun y=>!Q2 p.1 y.1)=true:=fun h=>by
   obtain⟨j,h1,h2⟩:=DH h;exact⟨j,by omega,h2⟩
  rw[Zs]at h;split at h
  ·rename_i x hx;split at h
   ·rename_i hl;rcases QQS.1 h with h|h
    ·exact rc h
    ·rw[QRx]at h;subst h;exact⟨i,by omega,hx,hl⟩
   ·exact rc h
  ·exact rc h
theorem B9 {A:List (V×V)}{x:V×V}(hA:A.Pairwise fun q p=>Q2 q.1 p.1=false):Zs (A++[x]) (A++[x]).length=A.filter (fun q=>!Q2 q.1 x.1)++[x]:=by
 have h:∀i,i≤A.length→Zs (A++[x]) i=(A.take i).filter (fun q=>!Q2 q.1 x.1):=by
  intro i
  induction i with
  |zero=>intro _;simp[Zs]
  |succ i ih=>
   intro hi;have ih:=ih (by omega);obtain⟨a,ha⟩:∃a,A[i]? = some a:=⟨A[i],QPE (by omega)⟩;have ha':(A++[x])[i]? = some a:=by rw[QQZ (by omega)];exact ha
   have hall:((A++[x]).drop (i+1)).all (fun y=>!Q2 a.1 y.1)=!Q2 a.1 x.1:=by
    rw[List.drop_append_of_le_length (by omega),QQR];have h1:(A.drop (i+1)).all (fun y=>!Q2 a.1 y.1)=true:=by
     rw[QPM];intro y hy;obtain⟨j,hj⟩:=QRD hy;rw[QQg]at hj;have hp:=QRz.1 hA i (i+1+j) (by omega) (QPD.1 hj).1 (by omega);rw[(QPD.1 ha).2,(QPD.1 hj).2]at hp;rw[hp];rfl
    rw[h1];simp
   rw[QRm,ha,Option.toList_some,List.filter_append];cases hk:Q2 a.1 x.1 with
   |true=>
    rw[hk]at hall;rw[AI ha' hall,ih,QRb,hk];simp
   |false=>
    rw[hk]at hall;rw[C8 ha' hall,ih,QRb,hk];simp
 have e:(A++[x]).length=A.length+1:=by simp
 have hx:(A++[x])[A.length]? = some x:=by simp
 rw[e,C8 hx (by rw[QQd (by rw[e];omega)];rfl),h _ (QPB _),QRd]

section
variable {P:PL}{k:Int}(ps:List (V×V))

theorem C9 (hk:Xr k)(hn:ps.length≤1048576)(h1:∀p∈ps,p.1.one P k (-1)=0)(hb:∀p∈ps,p.1.bits<18446744073709551616)(O:List (V×V))(i:Nat)(x:V×V)(hx:ps[i]? = some x)(fr:Nat→Ob)(f:Fr)(h0:f 0=.list (ps.map V.pav))(h3:f 3=.list (O.map V.pav))(h4:f 4=.int .i64 (i:Nat))(h5:f 5=.bool true)(h6:f 6=.int .i64 ((i+1:Nat):Int))(Q:Exit→St→Prop)
  (q:∀f:Fr,f 0=.list (ps.map V.pav)→f 3=.list (O.map V.pav)→f 4=.int .i64 (i:Nat)→f 5=.bool ((ps.drop (i+1)).all fun y=>!Q2 x.1 y.1)→Q (.exit 2) (⟨f,[fr],[]⟩:St)) :
  QH Tryz.prog (.loop Cf) ⟨f,[fr],[]⟩ Q:=by
 let I:Nat→St→Prop:=fun n st=>∃f j b,st=⟨f,[fr],[]⟩∧n=ps.length-j∧i<j∧(b&&(ps.drop j).all fun y=>!Q2 x.1 y.1)=((ps.drop (i+1)).all fun y=>!Q2 x.1 y.1)∧f 0=.list (ps.map V.pav)∧f 3=.list (O.map V.pav)∧f 4=.int .i64 (i:Nat)∧f 5=.bool b∧f 6=.int .i64 (j:Nat)
 refine Qg I _ ⟨f,i+1,true,rfl,rfl,by omega,QRf _,h0,h3,h4,h5,h6⟩ ?_;clear h0 h3 h4 h5 h6;rintro _ st ⟨f,j,b,rfl,rfl,hij,hbb,h0,h3,h4,h5,h6⟩;simp only[QQu,h0,h6,Qb,seval];by_cases hlt:j<ps.length
 ·obtain⟨y,hj⟩:∃y,ps[j]? = some y:=⟨ps[j],QPE hlt⟩;have hgx:=JI hx;have hgy:=JI hj;have e1:=Qw j _ hlt (by simp only[maxLen];omega);have hxm:=QPN hx;have hym:=QPN hj;have c1:=H4 hk (h1 x hxm) (h1 y hym);have d1:(UN k x.1.bits x.1.text y.1.bits y.1.text != 0)=!Q2 x.1 y.1:=by
   have h:=Vl hk (h1 x hxm) (h1 y hym) (hb x hxm) (hb y hym);rw[bne,h]
  have hdr:ps.drop j=y :: ps.drop (j+1):=by
   rw[QQk hlt,(QPD.1 hj).2]
  rw[hdr,QQL,←QQm]at hbb;rw[Qc,Qc]at c1;cases b
  ·simp only[Qr hlt,h5,h6,e1,Qb,seval];exact⟨ps.length-(j+1),by omega,_,j+1,false,rfl,rfl,by omega,hbb,(by exact h0),(by exact h3),(by exact h4),(by rfl),(by rfl)⟩
  ·simp only[Qr hlt,Qm,QQ2,Qf,hgx,hgy,QP9,QQI,QQj,h0,h4,h5,h6,eE,seval];refine Qa c1 rfl rfl rfl (.inl rfl) ?_;simp only[d1,h6,e1,Qb,seval];exact⟨ps.length-(j+1),by omega,_,j+1,!Q2 x.1 y.1,rfl,rfl,by omega,hbb,(by exact h0),(by exact h3),(by exact h4),(by rfl),(by rfl)⟩
 ·rw[QQd (by omega:ps.length≤j),QQM,QQN]at hbb;simp only[QO hlt,Qb,seval];exact q _ (by exact h0) (by exact h3) (by exact h4) (by rw[←hbb];exact(by exact h5))

end

def PwJ (k:Int)(ps:List (V×V))(n:Nat)(st:St):Prop :=
 ∃f fr i,st=⟨f,[fr],[]⟩∧n=ps.length-i∧i≤ps.length∧f 0=.list (ps.map V.pav)∧f 3=.list ((QV k (Zs ps i)).map V.pav)∧f 4=.int .i64 (i:Nat)∧Qi (fr 63)=true∧Qi (fr 68)=true

set_option maxHeartbeats 1000000 in
theorem QtC {P:PL}{k:Int}(hk:Xr k)(ps:List (V×V))(hn:ps.length≤1048576)(h1:∀p∈ps,p.1.one P k (-1)=0)(hb:∀p∈ps,p.1.bits<18446744073709551616):Qh Tryz.prog 85 [.list (ps.map V.pav)] (.list ((QV k (Zs ps ps.length)).map V.pav)):=by
 refine k85.fn (by simp) ?_;simp only[Qb,seval];refine HF (by simp only[Qb,seval]) ?_;simp only[Qb,seval];refine Qg (PwJ k ps) _ ⟨_,_,0,rfl,rfl,QPJ _,(by rfl),rfl,(by rfl),rfl,rfl⟩ ?_;rintro _ st ⟨f,fr,i,rfl,rfl,hil,h0,h3,h4,N4,N5⟩;simp only[QQu,h0,h4,Qb,seval];by_cases hlt:i<ps.length
 ·obtain⟨x,hi⟩:∃x,ps[i]? = some x:=⟨ps[i],QPE hlt⟩;have hxm:=QPN hi;have hxa:=JI hi;have e1:=Qw i _ hlt (by simp only[maxLen];omega);have hperm:(QV k (Zs ps i)).Perm (Zs ps i):=Q0 _;have hO:(QV k (Zs ps i)).length≤i:=by rw[hperm.length_eq];exact VB ps i
  have hstep:(ps.drop (i+1)).all (fun y=>!Q2 x.1 y.1)=true→QV k (Zs ps (i+1))=mg (fun x y:V×V=>kl k x.1 y.1) (QV k (Zs ps i)) [x]:=by
   intro h;rw[C8 hi h];exact(Kf (ZF k) (Zs ps i) [x]).symm
  have hstep':(ps.drop (i+1)).all (fun y=>!Q2 x.1 y.1)=false→QV k (Zs ps (i+1))=QV k (Zs ps i):=fun h=>by rw[AI hi h]
  have hsrt:X7 (fun x y:V×V=>kl k x.1 y.1) (QV k (Zs ps i)):=XW (ZF k) _;have hOm:∀p∈QV k (Zs ps i),p∈ps:=fun p hp=>by
   obtain⟨j,_,hj,_⟩:=DH (hperm.mem_iff.1 hp);exact QPN hj
  have hOk:∀p∈QV k (Zs ps i),Q2 p.1 x.1=false:=by
   intro p hp;obtain⟨j,hj,hjp,hal⟩:=DH (hperm.mem_iff.1 hp);rw[QPM]at hal;have hxd:x∈ps.drop (j+1):=by
    have:(ps.drop (j+1))[i-(j+1)]? = some x:=by rw[QQg,show j+1+(i-(j+1))=i by omega];exact hi
    exact QPN this
   simpa using hal x hxd
  generalize QV k (Zs ps i)=O at *;simp only[Qr hlt,e1,h4,Qb,seval];refine C9 ps hk hn h1 hb O i x hi fr _ (by exact h0) (by exact h3) (by exact h4) (by rfl) (by rfl) _ (fun f h0 h3 h4 h5=>?_);cases hal:(ps.drop (i+1)).all (fun y=>!Q2 x.1 y.1)
  ·rw[hal]at h5;have hfin:=hstep' hal;simp only[h5,Qb,seval];refine Ry (by exact h3) ?_;simp only[e1,h4,Qb,seval];exact⟨ps.length-(i+1),by omega,_,_,i+1,rfl,rfl,by omega,(by exact h0),(by rw[hfin];exact(by exact h3)),(by rfl),N4,N5⟩
  rw[hal]at h5;have hstep:=hstep hal;simp only[h5,Qb,seval];refine Dc (P:=P) ps hk O (by omega) (fun p hp=>h1 p (hOm p hp)) (fun p hp=>hb p (hOm p hp)) i x hi (h1 x hxm) (hb x hxm) fr _ (by exact h0) (by exact h3) (by exact h4) (by rfl) _ (fun t f ht hlow hup h0 h3 h4 h7=>?_);have hfin:(O.take t).map V.pav++([V.pav x]++(O.drop t).map V.pav)=(QV k (Zs ps (i+1))).map V.pav:=by
   have:=K1 (lt:=fun x y:V×V=>kl k x.1 y.1) (y:=x) (X1:=O.take t) (X2:=O.drop t) (fun u hu=>by
    obtain⟨j,hj⟩:=QRD hu;rw[QQf]at hj;split at hj
    ·rename_i hjt;exact(ZF k).as (hlow j u hjt hj)
    ·cases hj) (fun u hu'=>by
    obtain⟨j,hj⟩:=QRD hu';rw[QQg]at hj;have hum:=QPN hj;refine Dd (h1 u (hOm u hum)) (h1 x hxm) (hb u (hOm u hum)) (hb x hxm) ?_ (hOk u hum);obtain⟨w,hw⟩:∃w,O[t]? = some w:=⟨O[t]'(by have:=(QPD.1 hj).1;omega),QPE _⟩;have h2:=KD hsrt (ZF k) (Nat.le_add_right t j) hw hj;exact(ZF k).nt u w x h2 (hup w hw))
   rw[QQQ]at this;rw[hstep,this];simp
  have hle:(t≤O.length)=True:=eq_true ht;have hdt:∀l':List AV,l'.length=O.length→(l'.drop t).take (O.length-t)=l'.drop t:=fun l' h=>QQa (by rw[QQh];omega)
  have hd1:((O.drop t).map V.pav).length=O.length-t:=by rw[QQu,QQh]
  have hd2:((O.take t).map V.pav).length=t:=by rw[QQu,QQw];omega
  have hT:∀j,O.length+1≤j→List.take j ((O.take t).map V.pav++([V.pav x]++(O.drop t).map V.pav))=(QV k (Zs ps (i+1))).map V.pav:=fun j hj=>by
   rw[QQa (by simp only[QQe,QPP,QQv,hd1,hd2];omega),hfin]
  simp only[Qm,QQ2,Qf,hxa,QP9,QQj,h0,h4,eE,seval];refine YV (l:=[.int .i64 x.1.kd,.int .u64 (x.1.bits:Nat),.str x.1.text,.list (x.1.list.map V.av),.list (x.1.pairs.map V.pav),.list (x.1.slots.map V.sav),.list (x.1.raws.map R.av),.int .i64 x.2.kd,.int .u64 (x.2.bits:Nat),.str x.2.text,.list (x.2.list.map V.av),.list (x.2.pairs.map V.pav),.list (x.2.slots.map V.sav),.list (x.2.raws.map R.av)]) rfl rfl (by decide) rfl rfl N4 ?_;simp only[nn0,QP8,QQB,QQu,Jk,Xj,QRc,Qm,QQ2,hle,QPB,or_true,XQ,hdt _ (QQu ..),h3,h7,Qb,seval];refine QF (site:=63) (g:=Xx (fr 63)) (n:=1) (xs:=[V.pav x]) (ys:=(O.drop t).map V.pav) (by simp only[Qb,seval]) (by simp only[Q7,Qb,seval]) rfl rfl (by simp only[List.map_drop,Qb,seval]) (XQ _) (by rw[hd1];simp only[maxLen];omega) (by rw[hd1];omega) ?_;simp only[Qb,seval];refine XN (by simp only[Qb,seval];exact N5) ?_;simp only[QQu,Jk,Jt,Xj,QRc,Qm,QQ2,QPJ,QPB,hle,true_or,QQy,QQj,←List.map_take,h3,h7,Qb,seval];refine QF (site:=68) (g:=_) (n:=0) (xs:=[]) (ys:=(O.take t).map V.pav) (by simp only[Qb,seval]<;>rfl) (by simp only[Qb,seval]) rfl rfl (by simp only[Qb,seval]) (XQ _) (by rw[hd2];simp only[maxLen];omega) (by rw[hd2];omega) ?_;simp only[Qb,seval];refine UY (site:=68) (g:=_) (n:=0+((O.take t).map V.pav).length) (xs:=(O.take t).map V.pav) (ys:=[V.pav x]++(O.drop t).map V.pav) (by simp only[Qb,seval]<;>rfl) (by simp only[Qb,seval]) rfl (by omega) (by simp only[Qb,seval]<;>rfl) (by simp only[Qb,seval]) (by simp only[QQe,QPP,QQv,QQu]<;>omega) (XQ (x :: O.drop t)) (by simp only[QQe,QPP,QQv,hd1,hd2,maxLen];omega) (by simp only[QQe,QPP,QQv,hd1,hd2];omega) ?_;simp only[Qb,seval];refine KW (site:=68) (g:=_) (sz:=14) (n:=_) (xs:=(O.take t).map V.pav++([V.pav x]++(O.drop t).map V.pav)) (by simp only[Qb,seval]<;>rfl) (by simp only[Qb,seval]) (by simp only[QQe,QPP,QQv,hd1,hd2];omega) ?_;rw[hT];rotate_left
  ·simp only[hd1,hd2];omega
  simp only[e1,h4,Qb,seval];exact⟨ps.length-(i+1),by omega,_,_,i+1,rfl,rfl,by omega,(by exact h0),(by rfl),(by rfl),rfl,rfl⟩
 ·have hii:i=ps.length:=by omega
  subst hii;simp only[QO hlt,h3,Qb,seval]

open Vp Cp

def lz (b:Bool)(l:List AV):AV:=match b with
 |true=>.list l
 |false=>.nils
theorem Zt {b:Bool}{l:List AV}(h:b=false→l=[]):nn0 (lz b l)=.list l:=by
 cases b
 ·rw[h rfl];rfl
 ·rfl
def kc (b:Bool)(y:V):List AV:=[.int .i64 y.kd,.int .u64 (y.bits:Nat),.str y.text,lz b (y.list.map V.av),lz b (y.pairs.map V.pav),lz b (y.slots.map V.sav),lz b (y.raws.map R.av)]

section
variable {M K n:Nat}(P:PL)(hP:P.ok M)(l s:Nat)(m:Qj)(hm:l<m.length){rec:Int→V→C→Rd V}(hrec:H2 P M K n rec)(hM:3000≤M)(hro:KH P M K n rec)(g:PG)(o:PO)(ho:OpK P g o)(h5:o.card=5)

structure EnF (g:PG)(o:PO)(v z:V)(d:C)(l s:Nat)(f:Fr)(fr:Nat→Ob)(x:V×V)(a b:Bool):Prop where
 f0:f 0=.ptr (l+1) s 0
 f5:f 5=.ptr 0 5 0
 f6:f 6=.ptr 0 6 0
 f7:f 7=.ptr 0 7 0
 f8:f 8=.ptr 0 8 0
 f12:f 12=.ptr 0 12 0
 f14:f 14=.ptr 0 14 0
 f17:f 17=.ptr 0 17 0
 f18:f 18=.bool a
 f19:f 19=.bool b
 m5:fr 5=.cells g.cells
 m6:fr 6=.cells (vc v)
 m7:fr 7=.cells o.cells
 m8:fr 8=.cells XJ
 m12:fr 12=.cells (vc z)
 m14:fr 14=.cells (XR d)
 m17:fr 17=.cells (kc a x.1++kc b x.2)
 m22:(fr 22).isRow=false
 m145:Qi (fr 145)=true

include hP hm hrec hM hro ho h5 in
theorem VC (v z:V)(d:C)(R0:Rd (V×V))(k:Nat)(x:V×V)(a b:Bool)(c:C)(f:Fr)(fr:Nat→Ob)(hf:EnF g o v z d l s f fr x a b)(hc:CI c)(hk:c.left≤k)(hcn:c.left≤n)(hb1:(1:Int)+3*c.left≤K)(hR:Jj P rec o k x a b c=R0)
  (hxa:a=false→x.1=Qs o.key 0 []) (hxb:b=false→x.2=Qs o.kind 0 []) (Q:Exit→St→Prop)
  (hx:∀f fr x a b c,EnF g o v z d l s f fr x a b→(a=false→x.1=Qs o.key 0 [])→(b=false→x.2=Qs o.kind 0 [])→R0=.ok (x,c)→Q (.exit 0) ⟨f,fr :: Am.put m l s (Q4 P c),[]⟩)
  (he:∀f fr (e:Nat) c,f 8=.ptr 0 8 0→fr 8=.cells (vc v)→f 9=.int .i64 (e:Nat)→R0=.error e→e≠0→Q .ret ⟨f,fr :: Am.put m l s (Q4 P c),[]⟩) :
  QH Tryz.prog (.loop SP) ⟨f,fr :: Am.put m l s (Q4 P c),[]⟩ Q:=by
 have lp:∀o,Am.Qd (Am.put m l s o) l s=o:=fun o=>Ql hm
 have pp:∀o q,Am.put (Am.put m l s o) l s q=Am.put m l s q:=fun o q=>put_put
 have hpl:∀o,l+1<(Am.put m l s o).length+1:=fun o=>by rw[QR];omega
 have hky:=ho.uo.key h5;have hk10:o.key≠10:=by unfold Xr at hky;omega
 let I:Nat→St→Prop:=fun k st=>∃f fr x a b c,st=⟨f,fr :: Am.put m l s (Q4 P c),[]⟩∧EnF g o v z d l s f fr x a b∧CI c∧c.left≤k∧c.left≤n∧(1:Int)+3*c.left≤K∧Jj P rec o k x a b c=R0∧(a=false→x.1=Qs o.key 0 [])∧(b=false→x.2=Qs o.kind 0 [])
 refine Qg I k ⟨f,fr,x,a,b,c,rfl,hf,hc,hk,hcn,hb1,hR,hxa,hxb⟩ ?_;clear hf hc hk hcn hb1 hR hxa hxb;rintro k st ⟨f0,fr0,x,a,b,c,rfl,hf,hc,hk,hcn,hb1,hR,hxa,hxb⟩;have hcb:=hc.bd;obtain⟨h00,h50,h60,h70,h80,h120,h140,h170,h180,h190,m50,m60,m70,m80,m120,m140,m170,m22,m1450⟩:=hf;refine QX (a:=_) [22] (by intro s hs;simp only[QRx]at hs;subst hs;exact m22) ?_;intro f fr hf hmm hn22;have h0:f 0=.ptr (l+1) s 0:=by rw[hf,h00]<;>rfl
 have h5':f 5=.ptr 0 5 0:=by rw[hf,h50]<;>rfl
 have h6:f 6=.ptr 0 6 0:=by rw[hf,h60]<;>rfl
 have h7:f 7=.ptr 0 7 0:=by rw[hf,h70]<;>rfl
 have h8:f 8=.ptr 0 8 0:=by rw[hf,h80]<;>rfl
 have h12:f 12=.ptr 0 12 0:=by rw[hf,h120]<;>rfl
 have h14:f 14=.ptr 0 14 0:=by rw[hf,h140]<;>rfl
 have h17:f 17=.ptr 0 17 0:=by rw[hf,h170]<;>rfl
 have h18:f 18=.bool a:=by rw[hf,h180]<;>rfl
 have h19:f 19=.bool b:=by rw[hf,h190]<;>rfl
 have m5':fr 5=.cells g.cells:=by rw[hmm 5 (by decide),m50]<;>rfl
 have m6':fr 6=.cells (vc v):=by rw[hmm 6 (by decide),m60]<;>rfl
 have m7':fr 7=.cells o.cells:=by rw[hmm 7 (by decide),m70]<;>rfl
 have m8':fr 8=.cells XJ:=by rw[hmm 8 (by decide),m80]<;>rfl
 have m12':fr 12=.cells (vc z):=by rw[hmm 12 (by decide),m120]<;>rfl
 have m14':fr 14=.cells (XR d):=by rw[hmm 14 (by decide),m140]<;>rfl
 have m17':fr 17=.cells (kc a x.1++kc b x.2):=by rw[hmm 17 (by decide),m170];cases a<;>cases b<;>rfl
 have n22:=hn22 22 (by decide);have m145':Qi (fr 145)=true:=by
  rw[hmm 145 (by decide)];cases h:fr0 145<;>rw[h]at m1450<;>first|rfl|cases m1450
 clear hf hmm hn22 h00 h50 h60 h70 h80 h120 h140 h170 h180 h190 m50 m60 m70 m80 m120 m140 m170 m22 m1450;have m6:=m6';have m7:=m7';have m8:=m8';have m17:=m17';simp only[vc]at m6;simp only[PO.cells]at m7;simp only[XJ]at m8;simp only[kc,QPW,QPX]at m17;simp only[Q4,lp,h0,ZP,eE,seval];refine Qa (D3 c hc.big') rfl rfl rfl (.inl rfl) ?_;by_cases hlt:0<c.left
 case neg=>
  have d1:decide (c.left > 0)=false:=QRo hlt;have hR':R0=.ok (x,c):=by
   rw[←hR];cases k with
   |zero=>rfl
   |succ k=>rw[Jj,QPO hlt]
  simp only[d1,Qb,seval];exact hx _ _ x a b c ⟨(by exact h0),(by exact h5'),(by exact h6),(by exact h7),(by exact h8),(by exact h12),(by exact h14),(by exact h17),(by exact h18),(by exact h19),m5',m6',m7',m8',m12',m14',m17',(by rw[n22]<;>rfl),m145'⟩ hxa hxb hR'
 have d1:decide (c.left > 0)=true:=QRs hlt;obtain⟨k,rfl⟩:∃j,k=j+1:=⟨k-1,by omega⟩;rw[Jj,QP5 hlt]at hR;have htt:=c49 c hc.big;have hta:=Wj hc;generalize Qz c=tg at htt hta hR;obtain⟨num,w,c1,e⟩:=tg;dsimp only at hta hR;simp only[Wv,C.av]at htt;simp only[d1,lp,h0,ZP,eE,seval];refine Qa htt rfl rfl rfl (.inl rfl) ?_;by_cases he0:e=0
 case neg=>
  rw[QPO he0]at hR;simp only[n22,Qu he0,h6,h8,m6,m8,ZB,eE,seval];exact he _ _ e c (by exact h8) (by rfl) (by rfl) hR.symm he0
 subst he0;obtain⟨t1,t2,t3,t4,t5⟩:=hta rfl;have hc1:=t1.ci hc;have hl1:=t1.lt hc;have hc1b:=hc1.bd;rw[QP5 rfl]at hR;have side:=fun(fr:Nat→Ob) (q:PO) (hq:q.kind=10→0≤q.target∧q.target<(P.progs.length:Int))=>QLt P hP c1 (l+1) s (fr :: Am.put m l s (Q4 P c1)) (by exact hpl _) (by exact lp _) hc1 hrec (by omega) (by omega) q w hq
 by_cases h1:num=1
 ·have b1:(num==1)=true:=by simp[h1]
  have b1':(num != 1)=false:=by simp[h1]
  have b2:(num==2)=false:=by simp[h1]
  rw[QP5 h1]at hR;cases a with
  |true=>
   rw[QP5 rfl]at hR;simp only[n22,b1,b1',h6,h8,h18,m6,m8,ZB,eE,seval];exact he _ _ 9 c (by exact h8) (by rfl) (by rfl) hR.symm (by decide)
  |false=>
   rw[QPO (by simp)]at hR;have hsd:=fun fr=>side fr ⟨0,[],[],0,0,o.key,-1,0⟩ (fun h=>absurd h hk10)
   simp only[Q4,QtB]at hsd;simp only[n22,b1,b1',b2,h0,h7,h18,m7,lp,pp,ZP,Kr,ZB,eE,seval];refine QJ (hsd _) (by rfl) ?_;intro y m1 hy _;cases hr:ZG P rec o.key (-1) w c1 with
   |error e=>
    rw[hr]at hy hR;obtain⟨he',u,c',rfl,rfl⟩:=hy;simp only[Qc u,Qu he',h6,h8,h17,m6,m8,m17,pp,eE,seval];exact he _ _ e c' (by exact h8) (by rfl) (by rfl) hR.symm he'
   |ok p=>
    obtain⟨u,c2⟩:=p;rw[hr]at hy hR;obtain⟨rfl,rfl⟩:=hy;have hab:As c1 c2:=(JN hM hro (fun h=>absurd h hk10) hc1 (by omega) (by omega) hr).1;have hl2:=hab.lt hc1;dsimp only at hR;simp only[Qc u,h17,m17,pp,eE,seval];exact⟨k,by omega,_,_,(u,x.2),true,b,c2,rfl,⟨(by exact h0),(by exact h5'),(by exact h6),(by exact h7),(by exact h8),(by exact h12),(by exact h14),(by exact h17),(by rfl),(by exact h19),(by exact m5'),(by exact m6'),(by exact m7'),(by exact m8'),(by exact m12'),(by exact m14'),(by rfl),(by rfl),(by exact m145')⟩,hab.ci hc1,by omega,by omega,by omega,hR,(fun h=>by cases h),hxb⟩
 ·have b1:(num==1)=false:=by simp[h1]
  have b1':(num != 1)=true:=by simp[h1]
  rw[QPO h1]at hR;by_cases h2:num=2
  ·have b2:(num==2)=true:=by simp[h2]
   have b2':(num != 2)=false:=by simp[h2]
   rw[QP5 h2]at hR;cases b with
   |true=>
    rw[QP5 rfl]at hR;simp only[n22,b1,b1',b2,b2',h6,h8,h19,m6,m8,ZB,eE,seval];exact he _ _ 9 c (by exact h8) (by rfl) (by rfl) hR.symm (by decide)
   |false=>
    rw[QPO (by simp)]at hR;have hsd:=fun fr=>side fr o ho.uo.tgt
    simp only[Q4,Qv,PO.cells]at hsd;simp only[n22,b1,b1',b2,b2',h0,h7,h19,m7,lp,pp,ZP,ZB,eE,seval];refine QJ (hsd _) (by rfl) ?_;intro y m1 hy _;cases hr:ZG P rec o.kind o.target w c1 with
    |error e=>
     rw[hr]at hy hR;obtain⟨he',u,c',rfl,rfl⟩:=hy;simp only[Qc u,Qu he',h6,h8,h17,m6,m8,m17,pp,eE,seval];exact he _ _ e c' (by exact h8) (by rfl) (by rfl) hR.symm he'
    |ok p=>
     obtain⟨u,c2⟩:=p;rw[hr]at hy hR;obtain⟨rfl,rfl⟩:=hy;have hab:As c1 c2:=(JN hM hro ho.uo.tgt hc1 (by omega) (by omega) hr).1;have hl2:=hab.lt hc1;dsimp only at hR;simp only[Qc u,h17,m17,pp,eE,seval];exact⟨k,by omega,_,_,(x.1,u),a,true,c2,rfl,⟨(by exact h0),(by exact h5'),(by exact h6),(by exact h7),(by exact h8),(by exact h12),(by exact h14),(by exact h17),(by exact h18),(by rfl),(by exact m5'),(by exact m6'),(by exact m7'),(by exact m8'),(by exact m12'),(by exact m14'),(by rfl),(by rfl),(by exact m145')⟩,hab.ci hc1,by omega,by omega,by omega,hR,hxa,(fun h=>by cases h)⟩
  ·have b2:(num==2)=false:=by simp[h2]
   have b2':(num != 2)=true:=by simp[h2]
   rw[QPO h2]at hR;simp only[n22,b1',b2',h6,h8,m6,m8,ZB,eE,seval];exact he _ _ 18 c (by exact h8) (by rfl) (by rfl) hR.symm (by decide)

end

section
variable {P:PL}{rec:Int→V→C→Rd V}(hre:Yx rec)
include hre
theorem VD {k t w:Int}{c:C}{e:Nat}(h:ZG P rec k t w c=.error e):e≠0:=by
 unfold ZG at h;split at h
 ·split at h
  ·exact Yn hre h
  ·split at h
   ·rename_i h1;cases h;exact C7 h1
   ·split at h
    ·cases h
    ·rename_i h1;cases h;exact h1
 ·cases h;decide
theorem Na {o:PO}{e:Nat}:∀ {n:Nat} {x:V×V} {a b:Bool} {c:C},Jj P rec o n x a b c=.error e→e≠0
 |0,_,_,_,_,h=>by cases h
 |n+1,x,a,b,c,h=>by
  rw[Jj]at h;split at h
  ·split at h
   ·split at h
    ·split at h
     ·cases h;decide
     ·split at h
      ·rename_i h1;cases h;exact VD hre h1
      ·exact Na h
    ·split at h
     ·split at h
      ·cases h;decide
      ·split at h
       ·rename_i h1;cases h;exact VD hre h1
       ·exact Na h
     ·cases h;decide
   ·rename_i h1;cases h;exact h1
  ·cases h
theorem Su {g:PG}{v:V}{o:PO}{c:C}{e:Nat}(h:Jm P rec g v o c=.error e):e≠0:=by
 unfold Jm at h;split at h
 ·rename_i h1;cases h;exact Ym h1
 ·split at h
  ·rename_i h1;cases h;exact C6 h1
  ·split at h
   ·rename_i h1;cases h;exact Na hre h1
   ·cases h
end

section
variable {M K n:Nat}(hM:3000≤M)(P:PL)(hP:P.ok M){rec:Int→V→C→Rd V}(hrec:H3 P M K n rec)(hre:Yx rec)(hro:KH P M K n rec)(g:PG)(o:PO)(ho:OpK P g o)(h5:o.card=5)

structure EyF (P:PL)(g:PG)(o:PO)(v z:V)(c0 d:C)(f:Fr)(fr:Nat→Ob)(x:V×V)(a b:Bool)(c:C):Prop where
 f5:f 5=.ptr 0 5 0
 f6:f 6=.ptr 0 6 0
 f7:f 7=.ptr 0 7 0
 f8:f 8=.ptr 0 8 0
 f9:f 9=.ptr 0 9 0
 f10:f 10=.ptr 0 10 0
 f11:f 11=.ptr 0 11 0
 f14:f 14=.ptr 0 14 0
 f16:f 16=.ptr 0 16 0
 f19:f 19=.ptr 0 19 0
 f20:f 20=.ptr 0 20 0
 f21:f 21=.vec 0 65 1 0 3 false
 m5:fr 5=.cells (QG P)
 m6:fr 6=.cells g.cells
 m7:fr 7=.cells (vc v)
 m8:fr 8=.cells o.cells
 m9:fr 9=.cells (XR c0)
 m10:fr 10=.cells XJ
 m11:fr 11=.cells YL
 m14:fr 14=.cells (XR d)
 m16:fr 16=.cells (vc z)
 m19:fr 19=.cells (XR c)
 m20:fr 20=.cells (kc (a||b) x.1++vc x.2)
 m65:fr 65=.vec 1 1 [.bool false,.bool a,.bool b]
 m24:(fr 24).isRow=false
 m117:Qi (fr 117)=true

include hP hrec hre hM hro ho h5 in
theorem VE (v z:V)(c0 d:C)(R0:Rd (V×V))(k:Nat)(x:V×V)(a b:Bool)(c:C)(f:Fr)(fr:Nat→Ob)(hf:EyF P g o v z c0 d f fr x a b c)(hc:CI c)(hk:c.left≤k)(hcn:c.left≤n)(hb1:(1:Int)+3*c.left≤K)(hR:Jj P rec o k x a b c=R0)
  (hxn:(a||b)=false→x.1=Qs o.key 0 []) (Q:Exit→St→Prop)
  (hx:∀f fr x a b c,EyF P g o v z c0 d f fr x a b c→((a||b)=false→x.1=Qs o.key 0 [])→R0=.ok (x,c)→Q (.exit 0) ⟨f,[fr],[]⟩)
  (he:∀f fr (e:Nat),f 10=.ptr 0 10 0→f 11=.ptr 0 11 0→fr 10=.cells (vc v)→fr 11=.cells (XR c0)→f 12=.int .i64 (e:Nat)→R0=.error e→e≠0→Q .ret ⟨f,[fr],[]⟩) :
  QH Tryz.prog (.loop Tv) ⟨f,[fr],[]⟩ Q:=by
 have hky:=ho.uo.key h5;have hk10:o.key≠10:=by unfold Xr at hky;omega
 let I:Nat→St→Prop:=fun k st=>∃f fr x a b c,st=⟨f,[fr],[]⟩∧EyF P g o v z c0 d f fr x a b c∧CI c∧c.left≤k∧c.left≤n∧(1:Int)+3*c.left≤K∧Jj P rec o k x a b c=R0∧((a||b)=false→x.1=Qs o.key 0 [])
 refine Qg I k ⟨f,fr,x,a,b,c,rfl,hf,hc,hk,hcn,hb1,hR,hxn⟩ ?_;clear hf hc hk hcn hb1 hR hxn;rintro k st ⟨f0,fr0,x,a,b,c,rfl,hf,hc,hk,hcn,hb1,hR,hxn⟩;have hcb:=hc.bd;obtain⟨h50,h60,h70,h80,h90,h100,h110,h140,h160,h190,h200,h210,m50,m60,m70,m80,m90,m100,m110,m140,m160,m190,m200,m650,m24,m1170⟩:=hf;refine QX (a:=_) [24] (by intro s hs;simp only[QRx]at hs;subst hs;exact m24) ?_;intro f fr hf hmm hn24;have h5':f 5=.ptr 0 5 0:=by rw[hf,h50]<;>rfl
 have h6:f 6=.ptr 0 6 0:=by rw[hf,h60]<;>rfl
 have h7:f 7=.ptr 0 7 0:=by rw[hf,h70]<;>rfl
 have h8:f 8=.ptr 0 8 0:=by rw[hf,h80]<;>rfl
 have h9:f 9=.ptr 0 9 0:=by rw[hf,h90]<;>rfl
 have h10:f 10=.ptr 0 10 0:=by rw[hf,h100]<;>rfl
 have h11:f 11=.ptr 0 11 0:=by rw[hf,h110]<;>rfl
 have h14:f 14=.ptr 0 14 0:=by rw[hf,h140]<;>rfl
 have h16:f 16=.ptr 0 16 0:=by rw[hf,h160]<;>rfl
 have h19:f 19=.ptr 0 19 0:=by rw[hf,h190]<;>rfl
 have h20:f 20=.ptr 0 20 0:=by rw[hf,h200]<;>rfl
 have h21:f 21=.vec 0 65 1 0 3 false:=by rw[hf,h210]<;>rfl
 have m5':fr 5=.cells (QG P):=by rw[hmm 5 (by decide),m50]<;>rfl
 have m6':fr 6=.cells g.cells:=by rw[hmm 6 (by decide),m60]<;>rfl
 have m7':fr 7=.cells (vc v):=by rw[hmm 7 (by decide),m70]<;>rfl
 have m8':fr 8=.cells o.cells:=by rw[hmm 8 (by decide),m80]<;>rfl
 have m9':fr 9=.cells (XR c0):=by rw[hmm 9 (by decide),m90]<;>rfl
 have m10':fr 10=.cells XJ:=by rw[hmm 10 (by decide),m100]<;>rfl
 have m11':fr 11=.cells YL:=by rw[hmm 11 (by decide),m110]<;>rfl
 have m14':fr 14=.cells (XR d):=by rw[hmm 14 (by decide),m140]<;>rfl
 have m16':fr 16=.cells (vc z):=by rw[hmm 16 (by decide),m160]<;>rfl
 have m19':fr 19=.cells (XR c):=by rw[hmm 19 (by decide),m190]<;>rfl
 have m20':fr 20=.cells (kc (a||b) x.1++vc x.2):=by rw[hmm 20 (by decide),m200];cases a<;>cases b<;>rfl
 have m65':fr 65=.vec 1 1 [.bool false,.bool a,.bool b]:=by rw[hmm 65 (by decide),m650]<;>rfl
 have n24:=hn24 24 (by decide);have m117':Qi (fr 117)=true:=by
  rw[hmm 117 (by decide)];cases h:fr0 117<;>rw[h]at m1170<;>first|rfl|cases m1170
 clear hf hmm hn24 h50 h60 h70 h80 h90 h100 h110 h140 h160 h190 h200 h210 m50 m60 m70 m80 m90 m100 m110 m140 m160 m190 m200 m650 m24 m1170;have m5:=m5';have m7:=m7';have m8:=m8';have m9:=m9';have m10:=m10';have m11:=m11';have m19:=m19';simp only[QG]at m5;simp only[vc]at m7;simp only[PO.cells]at m8;simp only[XR]at m9 m19;simp only[XJ]at m10;simp only[YL]at m11;simp only[h19,m19,eE,seval];refine Qa (Vn c) rfl rfl rfl (.inl rfl) ?_;by_cases hlt:0<c.left
 case neg=>
  have d1:decide (c.left > 0)=false:=QRo hlt;have hR':R0=.ok (x,c):=by
   rw[←hR];cases k with
   |zero=>rfl
   |succ k=>rw[Jj,QPO hlt]
  simp only[d1,Qb,seval];exact hx _ _ x a b c ⟨(by exact h5'),(by exact h6),(by exact h7),(by exact h8),(by exact h9),(by exact h10),(by exact h11),(by exact h14),(by exact h16),(by exact h19),(by exact h20),(by exact h21),m5',m6',m7',m8',m9',m10',m11',m14',m16',m19',m20',m65',(by rw[n24]<;>rfl),m117'⟩ hxn hR'
 have d1:decide (c.left > 0)=true:=QRs hlt;obtain⟨k,rfl⟩:∃j,k=j+1:=⟨k-1,by omega⟩;rw[Jj,QP5 hlt]at hR;have htt:=c74 c hc.big;have hta:=Wj hc;generalize Qz c=tg at htt hta hR;obtain⟨num,w,c1,e⟩:=tg;dsimp only at hta hR;simp only[Wv,C.av]at htt;simp only[d1,h19,m19,eE,seval];refine Qa htt rfl rfl rfl (.inl rfl) ?_;by_cases he0:e=0
 case neg=>
  rw[QPO he0]at hR;simp only[n24,Qu he0,h7,h9,h10,h11,m7,m9,m10,m11,eE,seval];exact he _ _ e (by exact h10) (by exact h11) (by rfl) (by rfl) (by rfl) hR.symm he0
 subst he0;obtain⟨t1,t2,t3,t4,t5⟩:=hta rfl;have hc1:=t1.ci hc;have hl1:=t1.lt hc;have hc1b:=hc1.bd;rw[QP5 rfl]at hR;have ia1:∀(fr':Nat→Ob),fr' 65=.vec 1 1 [.bool false,.bool a,.bool b]→Qf [fr'] 1 none (.vec 0 65 1 0 3 false) (1:Int)=some (.vptr 0 65 1 1 0):=by
  intro fr' h;have e:Am.Qd [fr'] 0 65=.vec 1 1 [.bool false,.bool a,.bool b]:=h;simp only[Qf,e];rfl
 have ia2:∀(fr':Nat→Ob),fr' 65=.vec 1 1 [.bool false,.bool a,.bool b]→Qf [fr'] 1 none (.vec 0 65 1 0 3 false) (2:Int)=some (.vptr 0 65 1 2 0):=by
  intro fr' h;have e:Am.Qd [fr'] 0 65=.vec 1 1 [.bool false,.bool a,.bool b]:=h;simp only[Qf,e];rfl
 have ld1:∀(fr':Nat→Ob),fr' 65=.vec 1 1 [.bool false,.bool a,.bool b]→Q6 [fr'] none (.vptr 0 65 1 1 0)=some (.bool a):=by
  intro fr' h;have e:Am.Qd [fr'] 0 65=.vec 1 1 [.bool false,.bool a,.bool b]:=h;simp only[Q6,e];rfl
 have ld2:∀(fr':Nat→Ob),fr' 65=.vec 1 1 [.bool false,.bool a,.bool b]→Q6 [fr'] none (.vptr 0 65 1 2 0)=some (.bool b):=by
  intro fr' h;have e:Am.Qd [fr'] 0 65=.vec 1 1 [.bool false,.bool a,.bool b]:=h;simp only[Q6,e];rfl
 have st1:∀(fr':Nat→Ob),fr' 65=.vec 1 1 [.bool false,.bool a,.bool b]→Q9 [fr'] (.vptr 0 65 1 1 0) [.bool true]=some [QI fr' 65 (.vec 1 1 [.bool false,.bool true,.bool b])]:=by
  intro fr' h;have e:Am.Qd [fr'] 0 65=.vec 1 1 [.bool false,.bool a,.bool b]:=h;simp only[Q9,e];rfl
 have st2:∀(fr':Nat→Ob),fr' 65=.vec 1 1 [.bool false,.bool a,.bool b]→Q9 [fr'] (.vptr 0 65 1 2 0) [.bool true]=some [QI fr' 65 (.vec 1 1 [.bool false,.bool a,.bool true])]:=by
  intro fr' h;have e:Am.Qd [fr'] 0 65=.vec 1 1 [.bool false,.bool a,.bool b]:=h;simp only[Q9,e];rfl
 have hl1':(a||b)=false→x.1.list=[]:=fun h=>by rw[hxn h];rfl
 have hl2':(a||b)=false→x.1.pairs=[]:=fun h=>by rw[hxn h];rfl
 have hl3':(a||b)=false→x.1.slots=[]:=fun h=>by rw[hxn h];rfl
 have hl4':(a||b)=false→x.1.raws=[]:=fun h=>by rw[hxn h];rfl
 have hrf:∀(h:V→V×V) (r:Rd V) (y:AV),Re h r y→y.rf=true:=by
  intro h r y hy;cases r with
  |error e=>
   obtain⟨_,u,d2,rfl⟩:=hy;simp only[Q7 u,C.av];rfl
  |ok p=>
   obtain⟨u,d2⟩:=p;cases hy;simp only[Q7 (h u),C.av];rfl
 by_cases h1:num=1
 ·subst h1;rw[QP5 rfl]at hR;cases a with
  |true=>
   rw[QP5 rfl]at hR;simp only[n24,ia1,ld1,h7,h9,h10,h11,h21,m7,m9,m10,m11,m65',eE,seval];exact he _ _ 9 (by exact h10) (by exact h11) (by rfl) (by rfl) (by rfl) hR.symm (by decide)
  |false=>
   rw[QPO (by simp)]at hR;have hfe:=QEA (rec:=rec) P hP o x w hc1 hk10;rw[show P.av=.agg (QG P)from rfl,Q7 x]at hfe;simp only[QG,Qv,PO.cells,C.av]at hfe;cases b with
   |false=>
    have m20:=m20';simp only[kc,vc,lz,QRu,QPW,QPX]at m20;simp only[hl1' rfl,hl2' rfl,hl3' rfl,hl4' rfl,QQB]at hfe;simp only[n24,ia1,ld1,st1,h5',h8,h20,h21,m5,m8,m20,m65',eE,seval];refine JR hfe rfl rfl (fun y hy=>⟨hrf _ _ _ hy,.inl rfl⟩) (fun y hy=>?_);cases hr:ZG P rec o.key (-1) w c1 with
    |error e=>
     rw[hr]at hy hR;obtain⟨he',u,c',rfl⟩:=hy;simp only[Q7 u,C.av,Qu he',h7,h9,h10,h11,h19,h20,m7,m9,m10,m11,m19,m20,eE,seval];exact he _ _ e (by exact h10) (by exact h11) (by rfl) (by rfl) (by rfl) hR.symm he'
    |ok p=>
     obtain⟨u,c2⟩:=p;rw[hr]at hy hR;cases hy;have hab:As c1 c2:=(JN hM hro (fun h=>absurd h hk10) hc1 (by omega) (by omega) hr).1;have hl2:=hab.lt hc1;dsimp only at hR;simp only[Q7 (u,x.2),C.av,h19,h20,m19,m20,eE,seval];exact⟨k,by omega,_,_,(u,x.2),true,false,c2,rfl,⟨(by exact h5'),(by exact h6),(by exact h7),(by exact h8),(by exact h9),(by exact h10),(by exact h11),(by exact h14),(by exact h16),(by exact h19),(by exact h20),(by exact h21),(by exact m5'),(by exact m6'),(by exact m7'),(by exact m8'),(by exact m9'),(by exact m10'),(by exact m11'),(by exact m14'),(by exact m16'),(by rfl),(by rfl),(by rfl),(by rfl),(by exact m117')⟩,hab.ci hc1,by omega,by omega,by omega,hR,(fun h=>by cases h)⟩

   |true=>
    have m20:=m20';simp only[kc,vc,lz,Bool.or_true,QPW,QPX]at m20
    skip
    simp only[n24,ia1,ld1,st1,h5',h8,h20,h21,m5,m8,m20,m65',eE,seval];refine JR hfe rfl rfl (fun y hy=>⟨hrf _ _ _ hy,.inl rfl⟩) (fun y hy=>?_);cases hr:ZG P rec o.key (-1) w c1 with
    |error e=>
     rw[hr]at hy hR;obtain⟨he',u,c',rfl⟩:=hy;simp only[Q7 u,C.av,Qu he',h7,h9,h10,h11,h19,h20,m7,m9,m10,m11,m19,m20,eE,seval];exact he _ _ e (by exact h10) (by exact h11) (by rfl) (by rfl) (by rfl) hR.symm he'
    |ok p=>
     obtain⟨u,c2⟩:=p;rw[hr]at hy hR;cases hy;have hab:As c1 c2:=(JN hM hro (fun h=>absurd h hk10) hc1 (by omega) (by omega) hr).1;have hl2:=hab.lt hc1;dsimp only at hR;simp only[Q7 (u,x.2),C.av,h19,h20,m19,m20,eE,seval];exact⟨k,by omega,_,_,(u,x.2),true,true,c2,rfl,⟨(by exact h5'),(by exact h6),(by exact h7),(by exact h8),(by exact h9),(by exact h10),(by exact h11),(by exact h14),(by exact h16),(by exact h19),(by exact h20),(by exact h21),(by exact m5'),(by exact m6'),(by exact m7'),(by exact m8'),(by exact m9'),(by exact m10'),(by exact m11'),(by exact m14'),(by exact m16'),(by rfl),(by rfl),(by rfl),(by rfl),(by exact m117')⟩,hab.ci hc1,by omega,by omega,by omega,hR,(fun h=>by cases h)⟩
 by_cases h2:num=2
 ·subst h2;rw[QPO (by decide),QP5 rfl]at hR;cases b with
  |true=>
   rw[QP5 rfl]at hR;simp only[n24,ia2,ld2,h7,h9,h10,h11,h21,m7,m9,m10,m11,m65',eE,seval];exact he _ _ 9 (by exact h10) (by exact h11) (by rfl) (by rfl) (by rfl) hR.symm (by decide)
  |false=>
   rw[QPO (by simp)]at hR;have hfe:=QEB P hP o x w hc1 hrec hre (by omega) (by omega) ho.uo.tgt;rw[show P.av=.agg (QG P)from rfl,Q7 x]at hfe;simp only[QG,Qv,PO.cells,C.av]at hfe;cases a with
   |false=>
    have m20:=m20';simp only[kc,vc,lz,QRu,QPW,QPX]at m20;simp only[hl1' rfl,hl2' rfl,hl3' rfl,hl4' rfl,QQB]at hfe;simp only[n24,ia2,ld2,st2,h5',h8,h20,h21,m5,m8,m20,m65',eE,seval];refine JR hfe rfl rfl (fun y hy=>⟨hrf _ _ _ hy,.inl rfl⟩) (fun y hy=>?_);cases hr:ZG P rec o.kind o.target w c1 with
    |error e=>
     rw[hr]at hy hR;obtain⟨he',u,c',rfl⟩:=hy;simp only[Q7 u,C.av,Qu he',h7,h9,h10,h11,h19,h20,m7,m9,m10,m11,m19,m20,eE,seval];exact he _ _ e (by exact h10) (by exact h11) (by rfl) (by rfl) (by rfl) hR.symm he'
    |ok p=>
     obtain⟨u,c2⟩:=p;rw[hr]at hy hR;cases hy;have hab:As c1 c2:=(JN hM hro ho.uo.tgt hc1 (by omega) (by omega) hr).1;have hl2:=hab.lt hc1;dsimp only at hR;simp only[Q7 (x.1,u),C.av,h19,h20,m19,m20,eE,seval];exact⟨k,by omega,_,_,(x.1,u),false,true,c2,rfl,⟨(by exact h5'),(by exact h6),(by exact h7),(by exact h8),(by exact h9),(by exact h10),(by exact h11),(by exact h14),(by exact h16),(by exact h19),(by exact h20),(by exact h21),(by exact m5'),(by exact m6'),(by exact m7'),(by exact m8'),(by exact m9'),(by exact m10'),(by exact m11'),(by exact m14'),(by exact m16'),(by rfl),(by rfl),(by rfl),(by rfl),(by exact m117')⟩,hab.ci hc1,by omega,by omega,by omega,hR,(fun h=>by cases h)⟩

   |true=>
    have m20:=m20';simp only[kc,vc,lz,QRu,QPW,QPX]at m20
    skip
    simp only[n24,ia2,ld2,st2,h5',h8,h20,h21,m5,m8,m20,m65',eE,seval];refine JR hfe rfl rfl (fun y hy=>⟨hrf _ _ _ hy,.inl rfl⟩) (fun y hy=>?_);cases hr:ZG P rec o.kind o.target w c1 with
    |error e=>
     rw[hr]at hy hR;obtain⟨he',u,c',rfl⟩:=hy;simp only[Q7 u,C.av,Qu he',h7,h9,h10,h11,h19,h20,m7,m9,m10,m11,m19,m20,eE,seval];exact he _ _ e (by exact h10) (by exact h11) (by rfl) (by rfl) (by rfl) hR.symm he'
    |ok p=>
     obtain⟨u,c2⟩:=p;rw[hr]at hy hR;cases hy;have hab:As c1 c2:=(JN hM hro ho.uo.tgt hc1 (by omega) (by omega) hr).1;have hl2:=hab.lt hc1;dsimp only at hR;simp only[Q7 (x.1,u),C.av,h19,h20,m19,m20,eE,seval];exact⟨k,by omega,_,_,(x.1,u),true,true,c2,rfl,⟨(by exact h5'),(by exact h6),(by exact h7),(by exact h8),(by exact h9),(by exact h10),(by exact h11),(by exact h14),(by exact h16),(by exact h19),(by exact h20),(by exact h21),(by exact m5'),(by exact m6'),(by exact m7'),(by exact m8'),(by exact m9'),(by exact m10'),(by exact m11'),(by exact m14'),(by exact m16'),(by rfl),(by rfl),(by rfl),(by rfl),(by exact m117')⟩,hab.ci hc1,by omega,by omega,by omega,hR,(fun h=>by cases h)⟩
 have b1:(num != 1)=true:=by simp[h1]
 have b2:(num != 2)=true:=by simp[h2]
 rw[QPO h1,QPO h2]at hR;simp only[n24,b1,b2,h7,h9,h10,h11,m7,m9,m10,m11,eE,seval];exact he _ _ 18 (by exact h10) (by exact h11) (by rfl) (by rfl) (by rfl) hR.symm (by decide)

end

section
variable {M K n:Nat}(hM:3000≤M)(hK:K≤1000000)(P:PL)(hP:P.ok M){rec:Int→V→C→Rd V}(hrec:H3 P M K n rec)(hre:Yx rec)(hro:KH P M K n rec)(g:PG)(hg:g.ops.length≤maxLen)(o:PO)(ho:OpK P g o)(h5:o.card=5)(hun : -1≤o.union)
 {c:C} (hc:CI c) (hcn:c.left≤n) (v:V) (hvm:MW P (n+1) g v) (hvo:v.ok M) (hb:(v.cnt:Int)+3*c.left+3≤K) (hkd:(Lit.int .i64 o.kind).wf=true)

include hM hK hP hrec hre hro hg ho h5 hun hc hcn hvm hvo hb hkd in
theorem j78 :
  Qh Tryz.prog 78 [P.av,Qp g,v.av,Qv o,c.av] (xv (KO v c (Jm P rec g v o c))):=by
 have ls:=Xe v;have hcv:=Zj v;have hcb:=hc.bd;have hky:=ho.uo.key h5;have hge:=Vv v o.num (by omega);have hle:=C0 hc;have hel:=Qtr o;have hsl:∀s∈v.slots,∃q,XL g s.1=some q:=fun s hs=>let ⟨q,h,_⟩:=hvm.1 s hs;⟨q,h⟩
 have hpu:=fun x=>B3 g v o x hg (by omega) hsl hun
 have hol:=W5 (n:=o.num) hvo;have hoc:=Kt v o.num;have hpo:((∀p∈(QL v o.num).pairs,p.1.one P o.key (-1)=0))∧(QL v o.num).pairs.Pairwise fun q p=>Q2 q.1 p.1=false:=by
  cases hf:Xk v o.num with
  |none=>
   rw[Zo (by rw[hf];simp)];exact⟨fun p hp=>(nomatch hp),.nil⟩
  |some z=>
   have h4:=W6 hvm ho.self hf;unfold FW at h4;rw[QPO (by omega),QP5 h5]at h4;rw[(Xg hf).2];exact⟨fun p hp=>(h4.1 p hp).1,h4.2⟩
 have hx0:XI P M n o (Qs o.key 0 [],Qs o.kind 0 []):=by
  refine⟨Xt ?_ (by decide) (QPJ _),Xt hkd (by decide) (QPJ _),HY hky,fun hn e=>Xn hn⟩;unfold Xr at hky;exact ZW (by omega) (by omega)
 have lpz:=Zx (QL v o.num);unfold Jm;generalize QL v o.num=z at hge hol hoc hpo lpz ⊢;rw[Qc v,Qc z]at hge;rw[Qc v]at hpu;rw[show(Qs o.kind 0 []).av=.agg [.int .i64 o.kind,.int .u64 0,.str [],.list [],.list [],.list [],.list []]from Qc _]at hel;simp only[Qp,Qv,PG.cells,PO.cells]at hpu hel;rw[show P.av=.agg (QG P)from rfl,Qc v];cases hr:Jd c with
 |error e=>
  rw[DG hr]at hle;have he:=Ym hr;simp only[C.av]at hle;refine k78.fn (by simp) ?_;simp only[QG,Qp,Qv,PG.cells,PO.cells,C.av,eE,seval];refine Qa hle rfl rfl rfl (.inl rfl) ?_;simp only[Qu he,X3,xv,Qc v,C.av,eE,seval]
 |ok p=>
 obtain⟨q,d⟩:=p;obtain⟨a1,a2⟩:=Jn hc hr;have hd:=a1.ci hc;have hl1:=a1.lt hc;have hdb:=hd.bd;rw[DE hr]at hle;obtain⟨_,p2,p3⟩:=Kq hd a2;have hpt:=Qtq (c:=d) q;dsimp only at hle ⊢;generalize part d q=i0 at hpt p2 p3 ⊢;simp only[C.av]at hle hpt;refine k78.fn (by simp) ?_;simp only[QG,Qp,Qv,PG.cells,PO.cells,C.av,eE,seval];refine Qa hle rfl rfl rfl (.inl rfl) ?_;simp only[eE,seval];refine Qa hge rfl rfl rfl (.inl rfl) ?_;cases hf:(Xk v o.num).isSome
 case false=>
  have hkk:(if (false:Bool)=true then(2:Int)else 3)=3:=rfl;have hsp:=D2 i0 3;rw[hkk];simp only[Z6,C.av]at hsp;simp only[eE,seval];refine Qa hpt rfl rfl rfl (.inl rfl) ?_;simp only[Qb,seval];refine Qa hsp rfl rfl rfl (.inl rfl) ?_;rcases Zf i0 3 with⟨i,h2,h2'⟩|⟨e,he,h2,h2'⟩
  case inr=>
   rw[h2,h2'];simp only[Qu he,X3,xv,Qc v,C.av,eE,seval]
  rw[h2,h2'];obtain⟨s1,_⟩:=XV p2 (by omega) h2;have hci:=s1.ci p2;have hls:=(s1.left p2).2.2;have hib:=hci.bd;dsimp only;simp only[eE,seval];refine Qa hel rfl rfl rfl (.inl rfl) ?_;simp only[eE,seval];refine Uw (y:=[.bool false,.bool false,.bool false]) rfl rfl rfl rfl ?_;simp only[Qb,seval];have hio:∀x j,Jj P rec o i.left.toNat (Qs o.key 0 [],Qs o.kind 0 []) false false i=.ok (x,j)→XI P M n o x:=fun x j h3=>(K4 hM ho hro h5 _ hci (by omega) (by omega) hx0 h3).2.1
  refine VE (n:=n) hM P hP hrec hre hro g o ho h5 v z c d _ i.left.toNat (Qs o.key 0 [],Qs o.kind 0 []) false false i _ _ ⟨(by rfl),(by rfl),(by rfl),(by rfl),(by rfl),(by rfl),(by rfl),(by rfl),(by rfl),(by rfl),(by rfl),(by rfl),(by rfl),(by rfl),(by rfl),(by rfl),(by rfl),(by rfl),(by rfl),(by rfl),(by rfl),(by rfl),(by rfl),(by rfl),(by rfl),(by rfl)⟩ hci (by omega) (by omega) (by omega) rfl (fun _=>rfl) _ (fun f fr x a b c' hf' hxn hR'=>?_) (fun f fr e h10 h11 m10 m11 h12 hR' he=>?_)
  ·obtain⟨h5',h6,h7,h8,h9,h10,h11,h14,h16,h19,h20,h21,m5,m6,m7,m8,m9,m10,m11,m14,m16,m19,m20,m65,m24,m117⟩:=hf';have hxi:=hio _ _ hR';rw[hR'];dsimp only;simp only[PG.cells]at m6;simp only[vc]at m7 m16;simp only[PO.cells]at m8;simp only[XJ]at m10;simp only[YL]at m11;simp only[XR]at m14 m19;have hbh:=Sr d c';generalize X0 d c'=y at hbh ⊢;simp only[C.av]at hbh;generalize hq:(a||b)=qq at m20 hxn;simp only[kc,vc,QPW,QPX]at m20;obtain⟨p1,p2,p3,p4⟩:nn0 (lz qq (x.1.list.map V.av))=.list (x.1.list.map V.av)∧nn0 (lz qq (x.1.pairs.map V.pav))=.list (x.1.pairs.map V.pav)∧nn0 (lz qq (x.1.slots.map V.sav))=.list (x.1.slots.map V.sav)∧nn0 (lz qq (x.1.raws.map R.av))=.list (x.1.raws.map R.av) :=
    ⟨Zt (fun e=>by rw[hxn e];rfl),Zt (fun e=>by rw[hxn e];rfl),Zt (fun e=>by rw[hxn e];rfl),Zt (fun e=>by rw[hxn e];rfl)⟩
   simp only[Qb,seval];refine XN (by exact m117) ?_;simp only[h16,m16,eE,seval];refine QF (site:=117) (g:=_) (n:=0) (xs:=[]) (ys:=z.pairs.map V.pav) (by simp only[Qb,seval]<;>rfl) (by simp only[Qb,seval]<;>rfl) rfl rfl rfl (XQ z.pairs) (by simp[maxLen];omega) (by simp;omega) ?_;simp only[h20,m20,QQu,QPX,QQi,eE,seval];refine QN (y:=kc qq x.1++vc x.2) (l:=[V.pav x]) (by cases qq<;>rfl) (by cases qq<;>rfl) (by cases qq<;>rfl) (by simp only[kc,vc,QPW,QPX,QP8,QQB,p1,p2,p3,p4];rw[Q7 x];rfl) ?_;refine QF (site:=117) (g:=_) (n:=z.pairs.length) (xs:=z.pairs.map V.pav) (ys:=[V.pav x]) (by simp only[Qb,seval]<;>rfl) (by simp only[Qb,seval]<;>rfl) rfl (by simp) rfl (XQ [x]) (by simp[maxLen];omega) (by simp;omega) ?_;have hub:∀y:V,y.ok M→y.bits<18446744073709551616:=fun y hy=>by
    have:=hy.bits;simp[Lit.wf,IntKind.min,IntKind.max,IntKind.bits,IntKind.signed]at this;omega
   have hkf:KF P o.key z.pairs:=fun p hp=>⟨hpo.1 p hp,hub _ (hol.keys p hp)⟩
   have hpr:=QtC (P:=P) hky (z.pairs++[x]) (by simp;omega) (fun p hp=>by
    rcases QQS.1 hp with h|h
    ·exact(hkf p h).1
    ·rw[QRx]at h;subst h;exact hxi.one) (fun p hp=>by
    rcases QQS.1 hp with h|h
    ·exact(hkf p h).2
    ·rw[QRx]at h;subst h;exact hub _ hxi.ky)
   rw[B9 hpo.2,QRl,show QV o.key (z.pairs.filter (fun q=>!Q2 q.1 x.1)++[x])=XA o.key z.pairs x from rfl]at hpr;have hk:List.take (z.pairs.length+1) (z.pairs.map V.pav++[V.pav x])=z.pairs.map V.pav++[V.pav x]:=QQa (by simp);have hst:=hpu (Z7 (XA o.key z.pairs x));rw[show(Z7 (XA o.key z.pairs x)).av=.agg [.int .i64 12,.int .u64 0,.str [],.list [],.list ((XA o.key z.pairs x).map V.pav),.list [],.list []]from Qc _]at hst;generalize Xi g v o (Z7 (XA o.key z.pairs x))=w at hst ⊢;rw[Qc w]at hst;simp only[QPP,QQv,Qb,seval];refine KW (site:=117) (g:=_) (sz:=14) (n:=z.pairs.length+1) (xs:=z.pairs.map V.pav++[V.pav x]) (by simp only[Qb,seval]<;>rfl) (by simp only[Qb,seval]) (by simp) ?_;rw[hk];simp only[h6,h7,h8,m6,m7,m8,eE,seval];refine Qa hpr rfl rfl rfl (.inl rfl) ?_;simp only[eE,seval];refine Qa hst rfl rfl rfl (.inl rfl) ?_;simp only[h14,h19,m14,m19,eE,seval];refine Qa hbh rfl rfl rfl (.inl rfl) ?_;simp only[h10,h11,m10,m11,JO,xv,Qc w,C.av,eE,seval]
  ·rw[hR'];simp only[vc]at m10;simp only[XR]at m11;simp only[h10,h11,h12,m10,m11,X3,xv,Qc v,C.av,eE,seval]

 case true=>
  have hkk:(if (true:Bool)=true then(2:Int)else 3)=2:=rfl;have hsp:=D2 i0 2;rw[hkk];simp only[Z6,C.av]at hsp;simp only[eE,seval];refine Qa hpt rfl rfl rfl (.inl rfl) ?_;simp only[Qb,seval];refine Qa hsp rfl rfl rfl (.inl rfl) ?_;rcases Zf i0 2 with⟨i,h2,h2'⟩|⟨e,he,h2,h2'⟩
  case inr=>
   rw[h2,h2'];simp only[Qu he,X3,xv,Qc v,C.av,eE,seval]
  rw[h2,h2'];obtain⟨s1,_⟩:=XV p2 (by omega) h2;have hci:=s1.ci p2;have hls:=(s1.left p2).2.2;have hib:=hci.bd;dsimp only;simp only[eE,seval];refine Qa hel rfl rfl rfl (.inl rfl) ?_;simp only[eE,seval];refine Uw (y:=[.bool false,.bool false,.bool false]) rfl rfl rfl rfl ?_;simp only[Qb,seval];have hio:∀x j,Jj P rec o i.left.toNat (Qs o.key 0 [],Qs o.kind 0 []) false false i=.ok (x,j)→XI P M n o x:=fun x j h3=>(K4 hM ho hro h5 _ hci (by omega) (by omega) hx0 h3).2.1
  refine VE (n:=n) hM P hP hrec hre hro g o ho h5 v z c d _ i.left.toNat (Qs o.key 0 [],Qs o.kind 0 []) false false i _ _ ⟨(by rfl),(by rfl),(by rfl),(by rfl),(by rfl),(by rfl),(by rfl),(by rfl),(by rfl),(by rfl),(by rfl),(by rfl),(by rfl),(by rfl),(by rfl),(by rfl),(by rfl),(by rfl),(by rfl),(by rfl),(by rfl),(by rfl),(by rfl),(by rfl),(by rfl),(by rfl)⟩ hci (by omega) (by omega) (by omega) rfl (fun _=>rfl) _ (fun f fr x a b c' hf' hxn hR'=>?_) (fun f fr e h10 h11 m10 m11 h12 hR' he=>?_)
  ·obtain⟨h5',h6,h7,h8,h9,h10,h11,h14,h16,h19,h20,h21,m5,m6,m7,m8,m9,m10,m11,m14,m16,m19,m20,m65,m24,m117⟩:=hf';have hxi:=hio _ _ hR';rw[hR'];dsimp only;simp only[PG.cells]at m6;simp only[vc]at m7 m16;simp only[PO.cells]at m8;simp only[XJ]at m10;simp only[YL]at m11;simp only[XR]at m14 m19;have hbh:=Sr d c';generalize X0 d c'=y at hbh ⊢;simp only[C.av]at hbh;generalize hq:(a||b)=qq at m20 hxn;simp only[kc,vc,QPW,QPX]at m20;obtain⟨p1,p2,p3,p4⟩:nn0 (lz qq (x.1.list.map V.av))=.list (x.1.list.map V.av)∧nn0 (lz qq (x.1.pairs.map V.pav))=.list (x.1.pairs.map V.pav)∧nn0 (lz qq (x.1.slots.map V.sav))=.list (x.1.slots.map V.sav)∧nn0 (lz qq (x.1.raws.map R.av))=.list (x.1.raws.map R.av) :=
    ⟨Zt (fun e=>by rw[hxn e];rfl),Zt (fun e=>by rw[hxn e];rfl),Zt (fun e=>by rw[hxn e];rfl),Zt (fun e=>by rw[hxn e];rfl)⟩
   simp only[Qb,seval];refine XN (by exact m117) ?_;simp only[h16,m16,eE,seval];refine QF (site:=117) (g:=_) (n:=0) (xs:=[]) (ys:=z.pairs.map V.pav) (by simp only[Qb,seval]<;>rfl) (by simp only[Qb,seval]<;>rfl) rfl rfl rfl (XQ z.pairs) (by simp[maxLen];omega) (by simp;omega) ?_;simp only[h20,m20,QQu,QPX,QQi,eE,seval];refine QN (y:=kc qq x.1++vc x.2) (l:=[V.pav x]) (by cases qq<;>rfl) (by cases qq<;>rfl) (by cases qq<;>rfl) (by simp only[kc,vc,QPW,QPX,QP8,QQB,p1,p2,p3,p4];rw[Q7 x];rfl) ?_;refine QF (site:=117) (g:=_) (n:=z.pairs.length) (xs:=z.pairs.map V.pav) (ys:=[V.pav x]) (by simp only[Qb,seval]<;>rfl) (by simp only[Qb,seval]<;>rfl) rfl (by simp) rfl (XQ [x]) (by simp[maxLen];omega) (by simp;omega) ?_;have hub:∀y:V,y.ok M→y.bits<18446744073709551616:=fun y hy=>by
    have:=hy.bits;simp[Lit.wf,IntKind.min,IntKind.max,IntKind.bits,IntKind.signed]at this;omega
   have hkf:KF P o.key z.pairs:=fun p hp=>⟨hpo.1 p hp,hub _ (hol.keys p hp)⟩
   have hpr:=QtC (P:=P) hky (z.pairs++[x]) (by simp;omega) (fun p hp=>by
    rcases QQS.1 hp with h|h
    ·exact(hkf p h).1
    ·rw[QRx]at h;subst h;exact hxi.one) (fun p hp=>by
    rcases QQS.1 hp with h|h
    ·exact(hkf p h).2
    ·rw[QRx]at h;subst h;exact hub _ hxi.ky)
   rw[B9 hpo.2,QRl,show QV o.key (z.pairs.filter (fun q=>!Q2 q.1 x.1)++[x])=XA o.key z.pairs x from rfl]at hpr;have hk:List.take (z.pairs.length+1) (z.pairs.map V.pav++[V.pav x])=z.pairs.map V.pav++[V.pav x]:=QQa (by simp);have hst:=hpu (Z7 (XA o.key z.pairs x));rw[show(Z7 (XA o.key z.pairs x)).av=.agg [.int .i64 12,.int .u64 0,.str [],.list [],.list ((XA o.key z.pairs x).map V.pav),.list [],.list []]from Qc _]at hst;generalize Xi g v o (Z7 (XA o.key z.pairs x))=w at hst ⊢;rw[Qc w]at hst;simp only[QPP,QQv,Qb,seval];refine KW (site:=117) (g:=_) (sz:=14) (n:=z.pairs.length+1) (xs:=z.pairs.map V.pav++[V.pav x]) (by simp only[Qb,seval]<;>rfl) (by simp only[Qb,seval]) (by simp) ?_;rw[hk];simp only[h6,h7,h8,m6,m7,m8,eE,seval];refine Qa hpr rfl rfl rfl (.inl rfl) ?_;simp only[eE,seval];refine Qa hst rfl rfl rfl (.inl rfl) ?_;simp only[h14,h19,m14,m19,eE,seval];refine Qa hbh rfl rfl rfl (.inl rfl) ?_;simp only[h10,h11,m10,m11,JO,xv,Qc w,C.av,eE,seval]
  ·rw[hR'];simp only[vc]at m10;simp only[XR]at m11;simp only[h10,h11,h12,m10,m11,X3,xv,Qc v,C.av,eE,seval]

end
end Go.Proofs.YtfgchfdkiomfpaaGreat.Va

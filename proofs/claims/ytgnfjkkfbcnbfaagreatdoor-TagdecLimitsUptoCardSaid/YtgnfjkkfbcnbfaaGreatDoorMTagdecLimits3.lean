/- Parts of the proof, in order. -/
import Derived.Test.YtgnfjkkfbcnbfaaGreatDoorProg
import Derived.Test.YtgnfjkkfbcnbfaaGreatDoorMTagdecLimits2
set_option linter.unusedSimpArgs false
namespace Go.Proofs.YtgnfjkkfbcnbfaaGreatDoor.Va
open Go Am Rc Bt Br Up
theorem Wp {M:Nat}{v:V}(h:v.ok M):v.bits<18446744073709551616:=by
 have:=Gq h.bits;omega
section
variable {M:Nat}{P:PL}(hP:P.ok M)(hM:M≤140737488351232){m:PG→V→Int}{lv:Int}(o:PO)(ho:UO P o)(h5:o.card=5)(ps:List (V×V))(hn:ps.length≤maxLen)(hk:∀x∈ps,x.1.ok M)(hv:∀x∈ps,x.2.ok M)
theorem QkX {k:Int}(kk:XU k)(q p:V×V)(hq:q.1.one P k (-1)=0)(hp:p.1.one P k (-1)=0)(bq:q.1.ok M)(bp:p.1.ok M)(frO:Nat→Ob)(hf:∀c,V.pav p=.agg c→frO 10=.cells c) :
  Qe Tryz.prog 256 [V.pav q,.ptr 2 10 0] [Qb,Qb,frO] fun y m1=>y=.bool (Xz q.1 p.1)∧m1=[Qb,Qb,frO]:=by
 have h:=Ig k kk q.1.bits p.1.bits q.1.text p.1.text;have hf:=hf _ (Z0 p);rw[←(JF hq).1,←(JF hp).1,Nl kk hq hp (Wp bq) (Wp bp),Qc,Qc]at h;rw[Z0];refine wG Tryz.func256 ?_;simp only[eK,Tryz.f256,seval];simp only[hf,eE,seval];refine aC h ?_;simp only[Qa,seval]
def EnI (m:PG→V→Int)(P:PL)(lv:Int)(o:PO)(ps:List (V×V))(k:Nat)(st:St):Prop :=
 ∃f fr i,st=⟨f,[fr],[]⟩∧k=ps.length-i∧ZL (U1 m P o ps) ps.length 0=ZL (U1 m P o ps) (ps.length-i) i∧(∀j y,j<i→ps[j]? = some y→y.1.one P o.key (-1)=0)∧f 2=.list (ps.map V.pav)∧f 3=.int .i64 lv∧f 4=.ptr 0 4 0∧f 5=.ptr 0 5 0∧f 13=.list (ps.map V.pav)∧f 14=.int .i64 (ps.length:Nat)∧f 15=.int .i64 (i:Nat)∧fr 4=.cells [.list (P.progs.map Qn),.list (P.enums.map QC)]∧fr 5=.cells o.cells∧∀s∈[10],(fr s).isRow=false
include hP ho h5 hn hk hv in
theorem QkY (hel:∀v:V,v.ok M→Qg Tryz.prog 208 [P.av,Qv o,v.av,.int .i64 lv] (.int .i64 (QN m P o v))) :
  Qg Tryz.prog 209 [P.av,Qv o,.list (ps.map V.pav),.int .i64 lv] (.int .i64 (ZL (U1 m P o ps) ps.length 0)):=by
 have e0:P.av=.agg [.list (P.progs.map Qn),.list (P.enums.map QC)]:=rfl;have kk:=ho.key h5;refine wF Tryz.func209 ?_;simp only[eK,Tryz.f209,seval];simp only[e0,Qv,PO.cells,QoS,eE,seval];refine Qi (EnI m P lv o ps) _ ⟨_,_,0,rfl,rfl,rfl,(by intro j y h;omega),(by rfl),(by rfl),(by rfl),(by rfl),(by rfl),(by rfl),(by rfl),(by rfl),(by rfl),by simp<;>rfl⟩ ?_;rintro _ st ⟨f0,fr0,i,rfl,rfl,hx,hks,h20,h30,h40,h50,h130,h140,h150,m40,m50,r10⟩;refine QL (a:=_) [10] r10 ?_;intro f fr hf hm hn10;have h2:f 2=.list (ps.map V.pav):=by rw[hf,h20]<;>rfl
 have h3:f 3=.int .i64 lv:=by rw[hf,h30]<;>rfl
 have h4:f 4=.ptr 0 4 0:=by rw[hf,h40]<;>rfl
 have h5':f 5=.ptr 0 5 0:=by rw[hf,h50]<;>rfl
 have h13:f 13=.list (ps.map V.pav):=by rw[hf,h130]<;>rfl
 have h14:f 14=.int .i64 (ps.length:Nat):=by rw[hf,h140]<;>rfl
 have h15:f 15=.int .i64 (i:Nat):=by rw[hf,h150]<;>rfl
 have m4:fr 4=.cells [.list (P.progs.map Qn),.list (P.enums.map QC)]:=by rw[hm 4 (by decide),m40]<;>rfl
 have m5:fr 5=.cells o.cells:=by rw[hm 5 (by decide),m50]<;>rfl
 have n10:=hn10 10 (by decide);clear hf hm hn10 h20 h30 h40 h50 h130 h140 h150 m40 m50 r10;have m5':=m5;simp only[PO.cells]at m5;simp only[h14,h15,Qa,seval];by_cases hlt:i<ps.length
 ·obtain⟨x,hi⟩:∃x,ps[i]? = some x:=⟨ps[i],QnX hlt⟩;have hxm:=Qob hi;have hg:=J3 hi;have e1:=Qs i _ hlt hn;have hle:(i≤ps.length)=True:=eq_true (by omega);have c1:=LK hP o.key (-1) (hk x hxm);have c2:=hel x.2 (hv x hxm);rw[e0,Qc]at c1 c2;simp only[Qv,PO.cells]at c2;simp only[QA hlt,Qp,Qpq,Qf,hg,n10,h4,h5',h13,h15,m4,m5,eE,seval];refine aC c1 ?_;by_cases hz:x.1.one P o.key (-1)=0
  ·have d0:((0:Int) != 0)=false:=rfl;have hcl:=fun(fr:Nat→Ob) (h10:∀c,V.pav x=.agg c→fr 10=.cells c)=>QkV (ps.take i) (by rw[QoU];omega) (fun q=>Xz q.1 x.1) 256 (.ptr 0 10 0) [fr] fun q hq=>by
    obtain⟨j,hj⟩:=Qn9.1 hq;have hlj:=(QnW.1 hj).1;rw[QoU]at hlj;rw[QoC,Qn5 (by omega)]at hj;exact QkX kk q x (hks j q (by omega) hj) hz (hk q (Qob hj)) (hk x hxm) fr h10
   simp only[hz,d0,h2,Jl,Z7,Xm,QpB,QoS,Qp,Qpq,Qn6,QnV,hle,true_or,QoW,←List.map_take,Qa,seval];refine Qh (hcl _ (fun c hc=>by rw[Z0]at hc;cases hc;exact(by rfl))) (by simp only[Qov,QoZ,Qa,seval]<;>rfl) ?_;cases ha:(ps.take i).any (fun q=>Xz q.1 x.1)
   ·have he:U1 m P o ps i=QN m P o x.2:=by rw[Dj hi,Qn5 hz,ha,Qn4 (by simp)]
    simp only[h3,h4,h5',m4,m5,eE,seval];refine aC c2 ?_;by_cases hy:QN m P o x.2=0
    ·rw[Bg hlt (he.trans hy)]at hx;simp only[hy,d0,h15,e1,Qa,seval];refine⟨ps.length-(i+1),by omega,_,_,i+1,rfl,rfl,hx,?_,(by exact h2),(by exact h3),(by exact h4),(by exact h5'),(by exact h13),(by exact h14),(by rfl),(by exact m4),(by exact m5'),by simp<;>rfl⟩;intro j y hj hjy;by_cases e:j=i
     ·subst e;rw[hi]at hjy;cases hjy;exact hz
     ·exact hks j y (by omega) hjy
    ·rw[He hlt he hy]at hx;have d1:(QN m P o x.2 != 0)=true:=by simp[hy]
     simp only[d1,hx,Qa,seval]
   ·rw[He hlt (v:=9) (by rw[Dj hi,Qn5 hz,ha,Qn5 rfl]) (by decide)]at hx;simp only[hx,Qa,seval]
  ·rw[He hlt ((Dj hi).trans (Qn4 hz)) hz]at hx;have d1:(x.1.one P o.key (-1) != 0)=true:=by simp[hz]
   simp only[d1,hx,Qa,seval]
 ·rw[Dh hlt]at hx;simp only[QH hlt,hx,Qa,seval]
end
section
variable {M:Nat}{P:PL}(hP:P.ok M)(hM:M≤140737488351232){m:PG→V→Int}{lv:Int}(o:PO)(ho:UO P o)(v:V)(hv:v.ok M)
include hv in
theorem Sg:Qg Tryz.prog 65 [v.av] (.bool v.oth):=by
 rw[Bh];exact z65 _ _ _ _ _ _ _ (by have:=hv.ns;simp;omega) (by have:=hv.nr;simp;omega)
def FiI (m:PG→V→Int)(P:PL)(lv:Int)(o:PO)(v:V)(k:Nat)(st:St):Prop :=
 ∃f fr i,st=⟨f,[fr],[]⟩∧k=v.list.length-i∧ZL (Fb m P o v.list) v.list.length 0=ZL (Fb m P o v.list) (v.list.length-i) i∧f 3=.int .i64 lv∧f 4=.ptr 0 4 0∧f 5=.ptr 0 5 0∧f 24=.list (v.list.map V.av)∧f 25=.int .i64 (v.list.length:Nat)∧f 26=.int .i64 (i:Nat)∧fr 4=.cells [.list (P.progs.map Qn),.list (P.enums.map QC)]∧fr 5=.cells o.cells∧∀s∈[10],(fr s).isRow=false
include hP ho hv in
theorem QkZ (hel:∀v:V,v.ok M→Qg Tryz.prog 208 [P.av,Qv o,v.av,.int .i64 lv] (.int .i64 (QN m P o v))) :
  Qg Tryz.prog 155 [P.av,Qv o,v.av,.int .i64 lv] (.int .i64 (Xw m P o v)):=by
 have e0:P.av=.agg [.list (P.progs.map Qn),.list (P.enums.map QC)]:=rfl;have co:=Sg v hv;have ce:=fun h5=>QkY hP o ho h5 v.pairs (by have:=hv.np;simp only[maxLen];omega) hv.keys hv.vals hel
 have cv:=hel v hv;rw[e0,Qc]at cv;rw[Qc]at co;simp only[e0,Qv,PO.cells]at ce cv;rw[Qc];refine wF Tryz.func155 ?_;simp only[eK,Tryz.f155,seval];simp only[e0,Qv,PO.cells,eE,seval];unfold Xw;by_cases h4:o.card=4
 ·have b4:(o.card==4)=true:=by simp[h4]
  have n5:¬o.card=5:=by omega
  rw[Qn4 n5,Qn5 h4];simp only[b4,eE,seval];cases a1:(v.kd != 11)
  ·simp only[QpJ,eE,seval];refine aC co ?_;cases a2:v.oth
   ·simp only[Qog,QoS,eE,seval];refine Qi (FiI m P lv o v) _ ⟨_,_,0,rfl,rfl,rfl,(by rfl),(by rfl),(by rfl),(by rfl),(by rfl),(by rfl),(by rfl),(by rfl),by simp<;>rfl⟩ ?_;rintro _ st ⟨f0,fr0,i,rfl,rfl,hx,h30,h40,h50,h240,h250,h260,m40,m50,r10⟩;refine QL (a:=_) [10] r10 ?_;intro f fr hf hm hn10;have h3:f 3=.int .i64 lv:=by rw[hf,h30]<;>rfl
    have h4:f 4=.ptr 0 4 0:=by rw[hf,h40]<;>rfl
    have h5:f 5=.ptr 0 5 0:=by rw[hf,h50]<;>rfl
    have h24:f 24=.list (v.list.map V.av):=by rw[hf,h240]<;>rfl
    have h25:f 25=.int .i64 (v.list.length:Nat):=by rw[hf,h250]<;>rfl
    have h26:f 26=.int .i64 (i:Nat):=by rw[hf,h260]<;>rfl
    have m4:fr 4=.cells [.list (P.progs.map Qn),.list (P.enums.map QC)]:=by rw[hm 4 (by decide),m40]<;>rfl
    have m5:fr 5=.cells o.cells:=by rw[hm 5 (by decide),m50]<;>rfl
    have n10:=hn10 10 (by decide);clear hf hm hn10 h30 h40 h50 h240 h250 h260 m40 m50 r10;have m5':=m5;simp only[PO.cells]at m5;simp only[h25,h26,Qa,seval];by_cases hlt:i<v.list.length
    ·obtain⟨x,hi⟩:∃x,v.list[i]? = some x:=⟨v.list[i],QnX hlt⟩;have hg:=U4 hi;have e1:=Qs i _ hlt (by have:=hv.nl;simp only[maxLen];omega);have c2:=hel x (hv.list x (Qob hi));rw[e0,Qc]at c2;simp only[Qv,PO.cells]at c2;simp only[QA hlt,Qp,Qpq,Qf,hg,n10,h3,h4,h5,h24,h26,m4,m5,eE,seval];refine aC c2 ?_;by_cases hy:QN m P o x=0
     ·rw[Bg hlt ((Dk hi).trans hy)]at hx;have d0:((0:Int) != 0)=false:=rfl;simp only[hy,d0,h26,e1,Qa,seval];exact⟨v.list.length-(i+1),by omega,_,_,i+1,rfl,rfl,hx,(by exact h3),(by exact h4),(by exact h5),(by exact h24),(by exact h25),(by rfl),(by exact m4),(by exact m5'),by simp<;>rfl⟩
     ·rw[He hlt (Dk hi) hy]at hx;have d1:(QN m P o x != 0)=true:=by simp[hy]
      simp only[d1,hx,Qa,seval]
    ·rw[Dh hlt]at hx;simp only[QH hlt,hx,Qa,seval]
   ·simp only[Qa,seval]
  ·simp only[QpI,Qa,seval]
 ·have b4:(o.card==4)=false:=by simp[h4]
  by_cases h5:o.card=5
  ·have b5:(o.card==5)=true:=by simp[h5]
   rw[Qn5 h5];simp only[b4,b5,eE,seval];cases a1:(v.kd != 12)
   ·simp only[QpJ,eE,seval];refine aC co ?_;cases a2:v.oth
    ·simp only[Qog,eE,seval];refine aC (ce h5) ?_;simp only[Qa,seval]
    ·simp only[Qa,seval]
   ·simp only[QpI,Qa,seval]
  ·have b5:(o.card==5)=false:=by simp[h5]
   rw[Qn4 h5,Qn4 h4];simp only[b4,b5,eE,seval];refine aC cv ?_;simp only[Qa,seval]
end
theorem HM {fr:Nat→Ob}{a b:Nat}(h1:(fr a).isRow=false)(h2:(fr b).isRow=false):∀s∈[a,b],(fr s).isRow=false:=by
 intro s hs;simp only[Qpk,Qqc,or_false]at hs;rcases hs with rfl|rfl
 ·exact h1
 ·exact h2
theorem JO {g:PG}{n:Int}{o:PO}(h:Xv g n=some o):o∈g.ops∧o.num=n:=by
 unfold Xv at h;exact⟨QpW h,by simpa using QpX h⟩
theorem Hg (g:PG)(n:Int):Px (fun o=>o.num==n) g.ops=.tup [Qv ((Xv g n).getD DL),.bool (Xv g n).isSome]:=rfl
section
variable {M:Nat}{P:PL}(hP:P.ok M)(hM:M≤140737488351232){m:PG→V→Int}{lv:Int}(g:PG)(hg:g.ok M)(hu:∀o∈g.ops,UO P o)(sl:List (Int×V))(hn:sl.length≤maxLen)(i:Nat)(hi:i<sl.length)(hv:∀x∈sl,x.2.ok M)
theorem Qk0 (y:Int×V)(o:PO)(frO:Nat→Ob)(hf:frO 11=.cells o.cells) :
  Qe Tryz.prog 154 [V.sav y,.ptr 2 11 0] [Qb,Qb,frO] fun v m1=>v=.bool (y.1==o.num)∧m1=[Qb,Qb,frO]:=by
 simp only[PO.cells]at hf;rw[Z1];refine wG Tryz.func154 ?_;simp only[eK,Tryz.f154,seval];simp only[hf,eE,seval]
def SlI (P:PL)(lv:Int)(g:PG)(o:PO)(sl:List (Int×V))(i:Nat)(k:Nat)(st:St):Prop :=
 ∃f fr j,st=⟨f,[fr],[]⟩∧k=i-j∧j≤i∧(sl.take j).any (WQ g o)=false∧f 2=.list (sl.map V.sav)∧f 3=.int .i64 (i:Nat)∧f 4=.int .i64 lv∧f 5=.ptr 0 5 0∧f 6=.ptr 0 6 0∧f 11=.ptr 0 11 0∧f 36=.list ((sl.take i).map V.sav)∧f 37=.int .i64 (i:Nat)∧f 38=.int .i64 (j:Nat)∧fr 5=.cells [.list (P.progs.map Qn),.list (P.enums.map QC)]∧fr 6=.cells g.cells∧fr 11=.cells o.cells∧∀s∈[15,14],(fr s).isRow=false
include hg hn hi hv in
theorem v66 (hfi:∀o∈g.ops,∀v:V,v.ok M→Qg Tryz.prog 155 [P.av,Qv o,v.av,.int .i64 lv] (.int .i64 (Xw m P o v))) :
  Qg Tryz.prog 66 [P.av,Qn g,.list (sl.map V.sav),.int .i64 (i:Nat),.int .i64 lv] (.int .i64 (Jo m P g sl i)):=by
 have e0:P.av=.agg [.list (P.progs.map Qn),.list (P.enums.map QC)]:=rfl;obtain⟨x,hx⟩:∃x,sl[i]? = some x:=⟨sl[i],QnX hi⟩;have hxm:=Qob hx;have hgi:=WR hx;have co:=fun n=>T5 g hg.len n
 simp only[Hg]at co;have co1:=co x.1;have hle:(i≤sl.length)=True:=eq_true (by omega);have hlen:(sl.take i).length=i:=by rw[QoU];omega
 unfold Jo;rw[hx];dsimp only;simp only[Qn,PG.cells]at co co1;refine wF Tryz.func66 ?_;simp only[eK,Tryz.f66,seval];simp only[e0,Qn,PG.cells,Qp,Qpq,Qf,hgi,Qow,QoF,eE,seval];refine aC co1 ?_;cases ho:Xv g x.1 with
 |none=>
  simp only[QpB,QoN,DL,Qv,PO.cells,splice,Qo6,Qok,Qoz,Qpc,Qo1,Qoc,QoT,Qo9,Qpa,AV.leaf,eE,seval]
 |some o=>
  obtain⟨hom,hon⟩:=JO ho;have hcl:=fun(fr:Nat→Ob) (h11:fr 11=.cells o.cells)=>v67 (sl.take i) (by omega) (fun y=>y.1==o.num) 154 (.ptr 0 11 0) [fr] fun y _=>Qk0 y o fr h11
  rw[hon]at hcl;simp only[PO.cells]at hcl;simp only[Qo8,QpR,Qv,PO.cells,splice,Qo6,Qok,Qoz,QoF,Qpc,Qo1,Qoc,QoT,Qo9,Qpa,AV.leaf,Jl,Z7,Xm,QpB,QoS,Qp,Qpq,Qn6,QnV,hle,true_or,QoW,←List.map_take,eE,seval];refine Qh (hcl _ (by rfl)) (by simp only[Qov,QoZ,Qa,seval]<;>rfl) ?_;cases ha:(sl.take i).any (fun y=>y.1==x.1)
  ·simp only[Qog,Jl,Z7,Xm,QpB,QoS,Qp,Qpq,Qn6,QnV,hle,true_or,QoW,←List.map_take,hlen,Qa,seval];refine Qi (SlI P lv g o sl i) _ ⟨_,_,0,rfl,rfl,Qn6 _,by simp,(by rfl),(by rfl),(by rfl),(by rfl),(by rfl),(by rfl),(by rfl),(by rfl),(by rfl),(by rfl),(by rfl),(by rfl),HM rfl rfl⟩ ?_;rintro _ st ⟨f0,fr0,j,rfl,rfl,hji,hq,h20,h30,h40,h50,h60,h110,h360,h370,h380,m50,m60,m110,r15⟩;refine QL (a:=_) [15,14] r15 ?_;intro f fr hf hm hn15;have h2:f 2=.list (sl.map V.sav):=by rw[hf,h20]<;>rfl
   have h3:f 3=.int .i64 (i:Nat):=by rw[hf,h30]<;>rfl
   have h4:f 4=.int .i64 lv:=by rw[hf,h40]<;>rfl
   have h5:f 5=.ptr 0 5 0:=by rw[hf,h50]<;>rfl
   have h6:f 6=.ptr 0 6 0:=by rw[hf,h60]<;>rfl
   have h11:f 11=.ptr 0 11 0:=by rw[hf,h110]<;>rfl
   have h36:f 36=.list ((sl.take i).map V.sav):=by rw[hf,h360]<;>rfl
   have h37:f 37=.int .i64 (i:Nat):=by rw[hf,h370]<;>rfl
   have h38:f 38=.int .i64 (j:Nat):=by rw[hf,h380]<;>rfl
   have m5:fr 5=.cells [.list (P.progs.map Qn),.list (P.enums.map QC)]:=by rw[hm 5 (by decide),m50]<;>rfl
   have m6:fr 6=.cells g.cells:=by rw[hm 6 (by decide),m60]<;>rfl
   have m11:fr 11=.cells o.cells:=by rw[hm 11 (by decide),m110]<;>rfl
   have n15:=hn15 15 (by decide);have n14:=hn15 14 (by decide);clear hf hm hn15 h20 h30 h40 h50 h60 h110 h360 h370 h380 m50 m60 m110 r15;have m6':=m6;have m11':=m11;simp only[PG.cells]at m6;simp only[PO.cells]at m11;simp only[h37,h38,Qa,seval];by_cases hlt:j<i
   ·obtain⟨y,hj⟩:∃y,sl[j]? = some y:=⟨sl[j]'(by omega),QnX (by omega)⟩;have hj':(sl.take i)[j]? = some y:=by rw[QoC,Qn5 hlt];exact hj
    have hgj:=WR hj';have e1:=Qs j i hlt (by omega);have co2:=co y.1;have ht:(sl.take (j+1)).any (WQ g o)=WQ g o y:=by
     rw[QpM,hj,List.any_append,hq];simp
    have hun:WQ g o y=(o.union != -1&&(((Xv g y.1).getD DL).union==o.union)):=rfl;simp only[QA hlt,Qp,Qpq,Qf,hgj,n14,h6,h36,h38,m6,eE,seval];refine aC co2 ?_;generalize (Xv g y.1).getD DL=q at hun;generalize (Xv g y.1).isSome=qb;have fin:∀(f':Fr) (fr':Nat→Ob),WQ g o y=false→f' 2=.list (sl.map V.sav)→f' 3=.int .i64 (i:Nat)→f' 4=.int .i64 lv→f' 5=.ptr 0 5 0→f' 6=.ptr 0 6 0→f' 11=.ptr 0 11 0→f' 36=.list ((sl.take i).map V.sav)→f' 37=.int .i64 (i:Nat)→f' 38=.int .i64 ((j+1:Nat):Int)→fr' 5=.cells [.list (P.progs.map Qn),.list (P.enums.map QC)]→fr' 6=.cells g.cells→fr' 11=.cells o.cells→(∀s∈[15,14],(fr' s).isRow=false)→∃k,k<i-j∧SlI P lv g o sl i k ⟨f',[fr'],[]⟩:=by
     intro f' fr' hu b2 b3 b4 b5 b6 b11 b36 b37 b38 c5 c6 c11 c15;exact⟨i-(j+1),by omega,f',fr',j+1,rfl,rfl,by omega,by rw[ht,hu],b2,b3,b4,b5,b6,b11,b36,b37,b38,c5,c6,c11,c15⟩
    cases a1:(o.union != -1)
    ·rw[a1,Qpu]at hun;simp only[Qv,PO.cells,a1,n15,h11,h38,m11,e1,eE,seval];exact fin _ _ hun (by exact h2) (by exact h3) (by exact h4) (by exact h5) (by exact h6) (by exact h11) (by exact h36) (by exact h37) (by rfl) (by exact m5) (by exact m6') (by exact m11') (HM rfl rfl)
    ·cases a2:(q.union==o.union)
     ·rw[a1,a2,QpE]at hun;simp only[Qv,PO.cells,a1,a2,n15,h11,h38,m11,e1,eE,seval];exact fin _ _ hun (by exact h2) (by exact h3) (by exact h4) (by exact h5) (by exact h6) (by exact h11) (by exact h36) (by exact h37) (by rfl) (by exact m5) (by exact m6') (by exact m11') (HM rfl rfl)
     ·rw[a1,a2,QpE]at hun;have hany:(sl.take i).any (WQ g o)=true:=QpV.2 ⟨y,Qob hj',hun⟩;rw[hany];simp only[Qv,PO.cells,a1,a2,n15,h11,m11,eE,seval]
   ·have e:j=i:=by omega
    subst e;have cf:=hfi o hom x.2 (hv x hxm);rw[e0,Qc]at cf;simp only[Qv,PO.cells]at cf;rw[hq];simp only[QH hlt,Qog,Qp,Qpq,Qf,hgi,Qow,Qoz,QoF,h2,h3,h4,h5,h11,m5,m11,eE,seval];refine aC cf ?_;simp only[Qa,seval]
  ·simp only[Qa,seval]
end
def Bj (P:PL)(o:PO)(f:R):Bool:=o.kind==9&&o.card != 5&&f.wire==0&&decide ((f.bits:Int)≤2147483647) && !WO P.enums o.target f.bits
theorem Ih (P:PL)(g:PG)(f:R):(!Di P g f)=((Xv g f.num).isSome && !Bj P ((Xv g f.num).getD DL) f):=by
 unfold Di Bj;cases Xv g f.num<;>rfl
def Qfo (f:R):Bool:=decide (f.num<1)||decide (f.num > 65535)||decide (f.wire<0)||decide (f.wire > 6)
def Qfp (f:R):Bool:=decide (f.wire≤2) && !(f.data==[])||decide (f.wire > 2) && !((f.bits:Int)==0)
def Qfq (f:R):Bool:=f.wire==3&&decide ((f.data.length:Int) > 4096)||decide ((f.data.length:Int) > 65536)
theorem Qct (P:PL)(g:PG)(f:R):JN P g f=if Qfo f=true then 1 else if Qfp f=true then 1 else if (!Di P g f)=true then 1 else if Qfq f=true then 3 else 0:=rfl
section
variable {M:Nat}{P:PL}(hP:P.ok M)
include hP in
theorem Ii (o:PO)(w:R)(n7 n9:Bool)(f:Fr)(fr:Nat→Ob)(h3:f 3=.ptr 0 3 0)(h5:f 5=.ptr 0 5 0)(h7:f 7=.bool n7)(h8:f 8=.ptr 0 8 0)(h9:f 9=.bool n9)
  (m3:fr 3=.cells [.list (P.progs.map Qn),.list (P.enums.map QC)]) (m5:fr 5=.cells [.int .i64 w.num,.int .i64 w.wire,.int .u64 (w.bits:Nat),.str w.data]) (m8:fr 8=.cells o.cells) (Q:St→Prop)
  (hQ:∀f,f 5=.ptr 0 5 0→f 7=.bool n7→f 9=.bool n9→f 10=.bool (Bj P o w)→Q ⟨f,[fr],[]⟩):QE Tryz.prog HC ⟨f,[fr],[]⟩ Q:=by
 have e0:P.av=.agg [.list (P.progs.map Qn),.list (P.enums.map QC)]:=rfl;have ha:=Ia P hP o.target w.bits;rw[e0]at ha;simp only[PO.cells]at m8;unfold Bj at hQ;cases a1:(o.kind==9)
 ·rw[a1]at hQ;simp only[Qpu]at hQ;simp only[HC,a1,h8,m8,eE,seval];exact hQ _ (by exact h5) (by exact h7) (by exact h9) (by rfl)
 cases a2:(o.card != 5)
 ·rw[a1,a2]at hQ;simp only[QpE,Qpu]at hQ;simp only[HC,a1,a2,h8,m8,eE,seval];exact hQ _ (by exact h5) (by exact h7) (by exact h9) (by rfl)
 cases a3:(w.wire==0)
 ·rw[a1,a2,a3]at hQ;simp only[QpE,Qpu]at hQ;simp only[HC,a1,a2,a3,h5,h8,m5,m8,eE,seval];exact hQ _ (by exact h5) (by exact h7) (by exact h9) (by rfl)
 cases a4:decide ((w.bits:Int)≤2147483647)
 ·rw[a1,a2,a3,a4]at hQ;simp only[QpE,Qpu]at hQ;simp only[HC,a1,a2,a3,a4,h5,h8,m5,m8,eE,seval];exact hQ _ (by exact h5) (by exact h7) (by exact h9) (by rfl)
 rw[a1,a2,a3,a4]at hQ;simp only[QpE]at hQ;simp only[HC,a1,a2,a3,a4,h3,h5,h8,m3,m5,m8,eE,seval];refine aC ha ?_;simp only[Qa,seval];exact hQ _ (by exact h5) (by exact h7) (by exact h9) (by rfl)
include hP in
theorem v69 (g:PG)(hg:g.ok M)(w:R):Qg Tryz.prog 69 [P.av,Qn g,w.av] (.int .i64 (JN P g w)):=by
 have e0:P.av=.agg [.list (P.progs.map Qn),.list (P.enums.map QC)]:=rfl;have co:=T5 g hg.len w.num;rw[Hg]at co;simp only[Qn,PG.cells]at co;have nd:(w.data != [])=!(w.data==[]):=rfl;have nb:((w.bits:Int) != 0)=!((w.bits:Int)==0):=rfl;have hgt:decide (w.wire > 2)=!decide (w.wire≤2):=(by rw[QoR];simp only[Qn1,QoV,QpZ];omega);rw[Qct,Ih];unfold Qfo Qfp Qfq;rw[hgt];refine k69.fn (by simp) ?_;simp only[r69,Ly,Lz,LA,o69,e0,Qn,PG.cells,R.av,eE,seval];refine aC co ?_;generalize (Xv g w.num).getD DL=q;generalize (Xv g w.num).isSome=kb;simp only[Qv,PO.cells,splice,Qo6,Qok,Qoz,Qpc,Qo1,Qoc,QoT,Qo9,Qpa,AV.leaf,eE,seval];refine Ii hP q w (decide (w.wire≤2)) kb _ _ (by rfl) (by rfl) (by rfl) (by rfl) (by rfl) (by rfl) (by rfl) (by rfl) _ (fun f h5 h7 h9 h10=>?_);generalize Bj P q w=K at h10 ⊢;simp only[LB,h5,eE,seval];cases r1:decide (w.num<1)
 case true=>simp only[F1,QpI,Qa,seval]
 cases r2:decide (w.num > 65535)
 case true=>simp only[r2,F1,QpI,QpJ,h5,eE,seval]
 cases r3:decide (w.wire<0)
 case true=>simp only[r2,r3,F1,QpI,QpJ,h5,eE,seval]
 cases r4:decide (w.wire > 6)
 case true=>simp only[r2,r3,r4,F1,QpJ,h5,eE,seval]
 simp only[r2,r3,r4,QpJ,Qog,LC,h5,h7,eE,seval];cases s1:decide (w.wire≤2)
 ·rw[s1]at h7;cases s2:((w.bits:Int)==0)
  ·simp only[s2,nb,F2,Qo5,Qpu,QpJ,h5,h7,eE,seval]
  ·cases kb<;>cases K<;>simp only[s2,nb,F2,R5,Qo5,QpF,Qpu,QpG,QpJ,Qog,h5,h7,h9,h10,eE,seval]
   all_goals(cases t1:(w.wire==3)<;>try simp only[Qpu,QpE,QpJ,h5,eE,seval])
   all_goals(cases t2:decide ((w.data.length:Int) > 4096)<;>try simp only[R6,QpJ,QpI,h5,eE,seval])
   all_goals(cases t3:decide ((w.data.length:Int) > 65536)<;>try simp only[Cc,Qog,Qa,seval])
 ·rw[s1]at h7;cases s2:(w.data==[])
  ·simp only[s2,QP,F2,Qo5,QpF,Qpu,QpI,h5,eE,seval]
  ·cases kb<;>cases K<;>simp only[s2,QP,F2,R5,Qo5,QpF,Qpu,QpG,QpJ,Qog,h5,h7,h9,h10,eE,seval]
   all_goals(cases t1:(w.wire==3)<;>try simp only[Qpu,QpE,QpJ,h5,eE,seval])
   all_goals(cases t2:decide ((w.data.length:Int) > 4096)<;>try simp only[R6,QpJ,QpI,h5,eE,seval])
   all_goals(cases t3:decide ((w.data.length:Int) > 65536)<;>try simp only[Cc,Qog,Qa,seval])
theorem v68 (y:Int×V)(o:PO)(frO:Nat→Ob)(hf:frO 12=.cells o.cells) :
  Qe Tryz.prog 68 [V.sav y,.ptr 2 12 0] [Qb,Qb,frO] fun v m1=>v=.bool (y.1==o.num)∧m1=[Qb,Qb,frO]:=by
 simp only[PO.cells]at hf;rw[Z1];refine wG Tryz.func68 ?_;simp only[eK,Tryz.f68,seval];simp only[hf,eE,seval]
end
def GI (sl:List (Int×V))(o:PO):Bool:=o.card==1 && !sl.any fun y=>y.1==o.num
theorem PM (g:PG)(sl:List (Int×V)):U2 g sl=g.ops.any (GI sl):=rfl
theorem Nm {l:List R}{i:Nat}{x:R}(h:l[i]? = some x):(l.map R.av)[i]? = some (.agg [.int .i64 x.num,.int .i64 x.wire,.int .u64 (x.bits:Nat),.str x.data]):=by
 rw[Qpl,h,Qon,R.av]
theorem Qk1 {l:List PO}{i:Nat}{o:PO}(h:l[i]? = some o):(l.map fun o=>AV.agg o.cells)[i]? = some (.agg [.int .i64 o.num,.str o.name,.str o.alias,.int .i64 o.card,.int .i64 o.key,.int .i64 o.kind,.int .i64 o.target,.int .i64 o.union]):=by
 rw[Qpl,h,Qon,PO.cells]
section
variable {M:Nat}{P:PL}(hP:P.ok M){m:PG→V→Int}{lv:Int}(g:PG)(hg:g.ok M)(v:V)(hv:v.ok M)
def MrI (P:PL)(g:PG)(v:V)(k:Nat)(st:St):Prop :=
 ∃f fr i,st=⟨f,[fr],[]⟩∧k=v.raws.length-i∧ZL (YS P g v.raws) v.raws.length 0=ZL (YS P g v.raws) (v.raws.length-i) i∧f 4=.ptr 0 4 0∧f 5=.ptr 0 5 0∧f 63=.list (v.raws.map R.av)∧f 64=.int .i64 (v.raws.length:Nat)∧f 65=.int .i64 (i:Nat)∧fr 4=.cells [.list (P.progs.map Qn),.list (P.enums.map QC)]∧fr 5=.cells g.cells∧∀s∈[14],(fr s).isRow=false
include hP hg hv in
theorem An (f:Fr)(fr:Nat→Ob)(h4:f 4=.ptr 0 4 0)(h5:f 5=.ptr 0 5 0)(h63:f 63=.list (v.raws.map R.av))(h64:f 64=.int .i64 (v.raws.length:Nat))(h65:f 65=.int .i64 0)
  (m4:fr 4=.cells [.list (P.progs.map Qn),.list (P.enums.map QC)]) (m5:fr 5=.cells g.cells) (r14:∀s∈[14],(fr s).isRow=false) (Q:Exit→St→Prop)
  (q1:ZL (YS P g v.raws) v.raws.length 0≠0→∀f fr,f 8=.int .i64 (ZL (YS P g v.raws) v.raws.length 0)→Q .ret (⟨f,[fr],[]⟩:St))
  (q2:ZL (YS P g v.raws) v.raws.length 0=0→∀f fr,Q (.exit 5) (⟨f,[fr],[]⟩:St)):Q2 Tryz.prog (.loop Lo) ⟨f,[fr],[]⟩ Q:=by
 have e0:P.av=.agg [.list (P.progs.map Qn),.list (P.enums.map QC)]:=rfl;refine Qi (MrI P g v) _ ⟨f,fr,0,rfl,rfl,rfl,h4,h5,h63,h64,h65,m4,m5,r14⟩ ?_;clear h4 h5 h63 h64 h65 m4 m5 r14;rintro _ st ⟨f0,fr0,i,rfl,rfl,hx,h40,h50,h630,h640,h650,m40,m50,r14⟩;refine QL (a:=_) [14] r14 ?_;intro f fr hf hm hn;have h4:f 4=.ptr 0 4 0:=by rw[hf,h40]<;>rfl
 have h5:f 5=.ptr 0 5 0:=by rw[hf,h50]<;>rfl
 have h63:f 63=.list (v.raws.map R.av):=by rw[hf,h630]<;>rfl
 have h64:f 64=.int .i64 (v.raws.length:Nat):=by rw[hf,h640]<;>rfl
 have h65:f 65=.int .i64 (i:Nat):=by rw[hf,h650]<;>rfl
 have m4:fr 4=.cells [.list (P.progs.map Qn),.list (P.enums.map QC)]:=by rw[hm 4 (by decide),m40]<;>rfl
 have m5:fr 5=.cells g.cells:=by rw[hm 5 (by decide),m50]<;>rfl
 have n14:=hn 14 (by decide);clear hf hm hn h40 h50 h630 h640 h650 m40 m50 r14;have m5':=m5;simp only[PG.cells]at m5;simp only[h64,h65,Qa,seval];by_cases hlt:i<v.raws.length
 ·obtain⟨x,hi⟩:∃x,v.raws[i]? = some x:=⟨v.raws[i],QnX hlt⟩;have hgi:=Nm hi;have e1:=Qs i _ hlt (by have:=hv.nr;simp only[maxLen];omega);have c1:=v69 hP g hg x;rw[e0]at c1;simp only[Qn,PG.cells,R.av]at c1;simp only[QA hlt,Qp,Qpq,Qf,hgi,n14,h4,h5,h63,h65,m4,m5,eE,seval];refine aC c1 ?_;by_cases hy:JN P g x=0
  ·rw[Bg hlt ((HJ hi).trans hy)]at hx;have d0:((0:Int) != 0)=false:=rfl;simp only[hy,d0,h65,e1,Qa,seval];exact⟨v.raws.length-(i+1),by omega,_,_,i+1,rfl,rfl,hx,(by exact h4),(by exact h5),(by exact h63),(by exact h64),(by rfl),(by exact m4),(by exact m5'),by simp<;>rfl⟩
  ·rw[He hlt (HJ hi) hy]at hx;have d1:(JN P g x != 0)=true:=by simp[hy]
   simp only[d1,Qa,seval];exact q1 (by rw[hx];exact hy) _ _ (by rw[hx];exact(by rfl))
 ·rw[Dh hlt]at hx;simp only[QH hlt,Qa,seval];exact q2 hx _ _
def MoI (P:PL)(g:PG)(v:V)(k:Nat)(st:St):Prop :=
 ∃f fr i,st=⟨f,[fr],[]⟩∧k=g.ops.length-i∧i≤g.ops.length∧(g.ops.take i).any (GI v.slots)=false∧f 4=.ptr 0 4 0∧f 5=.ptr 0 5 0∧f 6=.ptr 0 6 0∧f 45=.list (g.ops.map fun o=>.agg o.cells)∧f 46=.int .i64 (g.ops.length:Nat)∧f 47=.int .i64 (i:Nat)∧fr 4=.cells [.list (P.progs.map Qn),.list (P.enums.map QC)]∧fr 5=.cells g.cells∧fr 6=.cells (vc v)∧∀s∈[12],(fr s).isRow=false
include hg hv in
theorem Ij (f:Fr)(fr:Nat→Ob)(h4:f 4=.ptr 0 4 0)(h5:f 5=.ptr 0 5 0)(h6:f 6=.ptr 0 6 0)(h45:f 45=.list (g.ops.map fun o=>.agg o.cells))(h46:f 46=.int .i64 (g.ops.length:Nat))(h47:f 47=.int .i64 0)
  (m4:fr 4=.cells [.list (P.progs.map Qn),.list (P.enums.map QC)]) (m5:fr 5=.cells g.cells) (m6:fr 6=.cells (vc v)) (r12:∀s∈[12],(fr s).isRow=false) (Q:Exit→St→Prop)
  (q1:U2 g v.slots=true→∀f fr,f 8=.int .i64 14→Q .ret (⟨f,[fr],[]⟩:St))
  (q2:U2 g v.slots=false→∀f fr,f 4=.ptr 0 4 0→f 5=.ptr 0 5 0→f 6=.ptr 0 6 0→fr 4=.cells [.list (P.progs.map Qn),.list (P.enums.map QC)]→fr 5=.cells g.cells→fr 6=.cells (vc v)→fr 14=.none→Q (.exit 3) (⟨f,[fr],[]⟩:St))
  (r14:fr 14=.none):Q2 Tryz.prog (.loop Ln) ⟨f,[fr],[]⟩ Q:=by
 let I:Nat→St→Prop:=fun k st=>MoI P g v k st∧∀f fr,st=⟨f,[fr],[]⟩→fr 14=.none
 have mk:∀k st,MoI P g v k st→∀f fr,st=⟨f,[fr],[]⟩→fr 14=.none→I k st:=fun k st h f fr e n=>⟨h,fun f' fr' e'=>by
  rw[e]at e'
  injection e' with _ e2 _
  injection e2 with e3 _
  rw[←e3];exact n⟩
 refine Qi I _ (mk _ _ ⟨f,fr,0,rfl,rfl,Qn6 _,by simp,h4,h5,h6,h45,h46,h47,m4,m5,m6,r12⟩ _ _ rfl r14) ?_;clear h4 h5 h6 h45 h46 h47 m4 m5 m6 r12 r14;rintro _ st ⟨⟨f0,fr0,i,rfl,rfl,hil,hq,h40,h50,h60,h450,h460,h470,m40,m50,m60,r12⟩,r14⟩;have r14:=r14 _ _ rfl;refine QL (a:=_) [12] r12 ?_;intro f fr hf hm hn;have h4:f 4=.ptr 0 4 0:=by rw[hf,h40]<;>rfl
 have h5:f 5=.ptr 0 5 0:=by rw[hf,h50]<;>rfl
 have h6:f 6=.ptr 0 6 0:=by rw[hf,h60]<;>rfl
 have h45:f 45=.list (g.ops.map fun o=>.agg o.cells):=by rw[hf,h450]<;>rfl
 have h46:f 46=.int .i64 (g.ops.length:Nat):=by rw[hf,h460]<;>rfl
 have h47:f 47=.int .i64 (i:Nat):=by rw[hf,h470]<;>rfl
 have m4:fr 4=.cells [.list (P.progs.map Qn),.list (P.enums.map QC)]:=by rw[hm 4 (by decide),m40]<;>rfl
 have m5:fr 5=.cells g.cells:=by rw[hm 5 (by decide),m50]<;>rfl
 have m6:fr 6=.cells (vc v):=by rw[hm 6 (by decide),m60]<;>rfl
 have n14:fr 14=.none:=by rw[hm 14 (by decide),r14]<;>rfl
 have n12:=hn 12 (by decide);clear hf hm hn h40 h50 h60 h450 h460 h470 m40 m50 m60 r12 r14;have m6':=m6;simp only[vc]at m6;simp only[h46,h47,Qa,seval];by_cases hlt:i<g.ops.length
 ·obtain⟨o,hi⟩:∃o,g.ops[i]? = some o:=⟨g.ops[i],QnX hlt⟩;have hgi:=Qk1 hi;have e1:=Qs i _ hlt hg.len;have ht:(g.ops.take (i+1)).any (GI v.slots)=GI v.slots o:=by
   rw[QpM,hi,List.any_append,hq];simp
  have hmi:GI v.slots o=(o.card==1 && !v.slots.any fun y=>y.1==o.num):=rfl;have fin:∀(f':Fr) (fr':Nat→Ob),GI v.slots o=false→f' 4=.ptr 0 4 0→f' 5=.ptr 0 5 0→f' 6=.ptr 0 6 0→f' 45=.list (g.ops.map fun o=>.agg o.cells)→f' 46=.int .i64 (g.ops.length:Nat)→f' 47=.int .i64 ((i+1:Nat):Int)→fr' 4=.cells [.list (P.progs.map Qn),.list (P.enums.map QC)]→fr' 5=.cells g.cells→fr' 6=.cells (vc v)→(∀s∈[12],(fr' s).isRow=false)→fr' 14=.none→∃k,k<g.ops.length-i∧I k ⟨f',[fr'],[]⟩:=by
   intro f' fr' hu b4 b5 b6 b45 b46 b47 c4 c5 c6 c12 c14;exact⟨g.ops.length-(i+1),by omega,mk _ _ ⟨f',fr',i+1,rfl,rfl,by omega,by rw[ht,hu],b4,b5,b6,b45,b46,b47,c4,c5,c6,c12⟩ _ _ rfl c14⟩
  simp only[QA hlt,Qp,Qpq,Qf,hgi,n12,h45,h47,eE,seval];cases a1:(o.card==1)
  ·rw[a1,Qpu]at hmi;simp only[h47,e1,Qa,seval];exact fin _ _ hmi (by exact h4) (by exact h5) (by exact h6) (by exact h45) (by exact h46) (by rfl) (by exact m4) (by exact m5) (by exact m6') (by simp<;>rfl) (by exact n14)
  ·rw[a1,QpE]at hmi;have hcl:=fun(fr:Nat→Ob) (h12:fr 12=.cells o.cells)=>v67 v.slots (by have:=hv.ns;simp only[maxLen];omega) (fun y=>y.1==o.num) 68 (.ptr 0 12 0) [fr] fun y _=>v68 y o fr h12
   simp only[PO.cells]at hcl;simp only[h6,m6,eE,seval];refine Qh (hcl _ (by rfl)) (by simp only[Qov,QoZ,Qa,seval]<;>rfl) ?_;cases a2:v.slots.any (fun y=>y.1==o.num)
   ·rw[a2]at hmi;have hany:U2 g v.slots=true:=QpV.2 ⟨o,Qob hi,by show GI v.slots o=true;rw[hmi];rfl⟩;simp only[Qa,seval];exact q1 hany _ _ (by rfl)
   ·rw[a2]at hmi;simp only[h47,e1,Qa,seval];exact fin _ _ hmi (by exact h4) (by exact h5) (by exact h6) (by exact h45) (by exact h46) (by rfl) (by exact m4) (by exact m5) (by exact m6') (by simp<;>rfl) (by exact n14)
 ·have hq':U2 g v.slots=false:=by rw[PM,←hq,Qox (by omega)]
  simp only[QH hlt,Qa,seval];exact q2 hq' _ _ (by exact h4) (by exact h5) (by exact h6) (by exact m4) (by exact m5) (by exact m6') (by exact n14)
def MsI (m:PG→V→Int)(P:PL)(lv:Int)(g:PG)(v:V)(k:Nat)(st:St):Prop :=
 ∃f fr i,st=⟨f,[fr],[]⟩∧k=v.slots.length-i∧ZL (Jo m P g v.slots) v.slots.length 0=ZL (Jo m P g v.slots) (v.slots.length-i) i∧f 3=.int .i64 lv∧f 4=.ptr 0 4 0∧f 5=.ptr 0 5 0∧f 6=.ptr 0 6 0∧f 29=.int .i64 (v.slots.length:Nat)∧f 30=.int .i64 (i:Nat)∧fr 4=.cells [.list (P.progs.map Qn),.list (P.enums.map QC)]∧fr 5=.cells g.cells∧fr 6=.cells (vc v)∧fr 12=.none∧fr 14=.none
include hv in
theorem Sh (hsl:∀i,i<v.slots.length→Qg Tryz.prog 66 [P.av,Qn g,.list (v.slots.map V.sav),.int .i64 (i:Nat),.int .i64 lv] (.int .i64 (Jo m P g v.slots i)))
  (f:Fr) (fr:Nat→Ob) (h3:f 3=.int .i64 lv) (h4:f 4=.ptr 0 4 0) (h5:f 5=.ptr 0 5 0) (h6:f 6=.ptr 0 6 0) (h29:f 29=.int .i64 (v.slots.length:Nat)) (h30:f 30=.int .i64 0)
  (m4:fr 4=.cells [.list (P.progs.map Qn),.list (P.enums.map QC)]) (m5:fr 5=.cells g.cells) (m6:fr 6=.cells (vc v)) (n12:fr 12=.none) (n14:fr 14=.none) (Q:Exit→St→Prop)
  (q1:ZL (Jo m P g v.slots) v.slots.length 0≠0→∀f fr,f 8=.int .i64 (ZL (Jo m P g v.slots) v.slots.length 0)→Q .ret (⟨f,[fr],[]⟩:St))
  (q2:ZL (Jo m P g v.slots) v.slots.length 0=0→∀f fr,f 4=.ptr 0 4 0→f 5=.ptr 0 5 0→f 6=.ptr 0 6 0→fr 4=.cells [.list (P.progs.map Qn),.list (P.enums.map QC)]→fr 5=.cells g.cells→fr 6=.cells (vc v)→fr 12=.none→fr 14=.none→Q (.exit 1) (⟨f,[fr],[]⟩:St)) :
  Q2 Tryz.prog (.loop Lm) ⟨f,[fr],[]⟩ Q:=by
 have e0:P.av=.agg [.list (P.progs.map Qn),.list (P.enums.map QC)]:=rfl;refine Qi (MsI m P lv g v) _ ⟨f,fr,0,rfl,rfl,rfl,h3,h4,h5,h6,h29,h30,m4,m5,m6,n12,n14⟩ ?_;clear h3 h4 h5 h6 h29 h30 m4 m5 m6 n12 n14;rintro _ st ⟨f,fr,i,rfl,rfl,hx,h3,h4,h5,h6,h29,h30,m4,m5,m6,n12,n14⟩;have m5':=m5;have m6':=m6;simp only[PG.cells]at m5;simp only[vc]at m6;simp only[h29,h30,Qa,seval];by_cases hlt:i<v.slots.length
 ·have e1:=Qs i _ hlt (by have:=hv.ns;simp only[maxLen];omega);have c1:=hsl i hlt;rw[e0]at c1;simp only[Qn,PG.cells]at c1;simp only[QA hlt,h3,h4,h5,h6,h30,m4,m5,m6,eE,seval];refine aC c1 ?_;by_cases hy:Jo m P g v.slots i=0
  ·rw[Bg hlt hy]at hx;have d0:((0:Int) != 0)=false:=rfl;simp only[hy,d0,h30,e1,Qa,seval];exact⟨v.slots.length-(i+1),by omega,_,_,i+1,rfl,rfl,hx,(by exact h3),(by exact h4),(by exact h5),(by exact h6),(by exact h29),(by rfl),(by exact m4),(by exact m5'),(by exact m6'),n12,n14⟩
  ·rw[He hlt rfl hy]at hx;have d1:(Jo m P g v.slots i != 0)=true:=by simp[hy]
   simp only[d1,Qa,seval];exact q1 (by rw[hx];exact hy) _ _ (by rw[hx];exact(by rfl))
 ·rw[Dh hlt]at hx;simp only[QH hlt,Qa,seval];exact q2 hx _ _ (by exact h4) (by exact h5) (by exact h6) (by exact m4) (by exact m5') (by exact m6') n12 n14
include hP in
theorem v37 (hU:J6 P):∀n:Nat,n≤16→∀g∈P.progs,∀v:V,v.ok M→Qg Tryz.prog 37 [P.av,Qn g,v.av,.int .i64 (17-(n:Int))] (.int .i64 (Xp P n g v)):=by
 have e0:P.av=.agg [.list (P.progs.map Qn),.list (P.enums.map QC)]:=rfl;intro n
 induction n with
 |zero=>
  intro _ g _ v hv;have co:=Sg v hv;rw[Qc]at co;rw[Qc];have d0:decide ((17:Int)-((0:Nat):Int) > 16)=true:=rfl;refine k37.fn (by simp) ?_;simp only[e0,Qn,PG.cells,Xp,eE,seval];cases a1:(v.kd != 10)
  ·simp only[QpJ,eE,seval];refine aC co ?_;cases v.oth
   ·simp only[Qog,Qa,seval]
   ·simp only[Qa,seval]
  ·simp only[QpI,Qa,seval]
 |succ n ih=>
  intro hn16 g hgm v hv;have hg:=hP.progs g hgm;have hu:=hU g hgm;have hw:IntKind.i64.wrap (17-((n+1:Nat):Int)+1)=17-(n:Int):=by rw[Qz];omega
  have hel:=fun(o:PO) (ho:o∈g.ops) (x:V) (hx:x.ok M)=>QkT hP hw (fun g hg v hv=>ih (by omega) g hg v hv) o (hu o ho) x hx
  have hfi:=fun(o:PO) (ho:o∈g.ops) (x:V) (hx:x.ok M)=>QkZ hP o (hu o ho) x hx (hel o ho)
  have hsl:=fun(i:Nat) (hi:i<v.slots.length)=>v66 (P:=P) g hg v.slots (by have:=hv.ns;simp only[maxLen];omega) i hi hv.slots hfi
  have co:=Sg v hv;rw[Qc]at co;rw[Qc];have d0:decide ((17:Int)-((n+1:Nat):Int) > 16)=false:=QpQ (by omega);refine k37.fn (by simp) ?_;simp only[e0,Qn,PG.cells,Xp,eE,seval];cases a1:(v.kd != 10)
  ·simp only[QpJ,eE,seval];refine aC co ?_;cases v.oth
   ·simp only[d0,Qog,QoS,eE,seval];unfold UK;refine Sh (lv:=17-((n+1:Nat):Int)) g v hv hsl _ _ (by rfl) (by rfl) (by rfl) (by rfl) (by rfl) (by rfl) (by rfl) (by rfl) (by rfl) (by rfl) (by rfl) _ (fun hx f fr h8=>?_) (fun hx f fr h4 h5 h6 m4 m5 m6 n12 n14=>?_)
    ·rw[Qn4 hx];simp only[h8,Qa,seval]
    ·rw[Qn5 hx];have m5':=m5;simp only[PG.cells]at m5;simp only[h5,m5,QoS,eE,seval];refine Ij g hg v hv _ _ (by exact h4) (by exact h5) (by exact h6) (by rfl) (by rfl) (by rfl) (by exact m4) (by exact m5') (by exact m6) (by simp only[Qpk,Qqc,or_false,forall_eq,n12]<;>rfl) _ (fun hx f fr h8=>?_) (fun hx f fr h4 h5 h6 m4 m5 m6 n14=>?_) (by exact n14)
     ·rw[hx];simp only[h8,Qa,seval]
     ·rw[hx];have m6':=m6;simp only[vc]at m6;simp only[Qog,h6,m6,QoS,eE,seval];refine An hP g hg v hv _ _ (by exact h4) (by exact h5) (by rfl) (by rfl) (by rfl) (by exact m4) (by exact m5) (by simp only[Qpk,Qqc,or_false,forall_eq,n14]<;>rfl) _ (fun hx f fr h8=>?_) (fun hx f fr=>?_)
      ·simp only[h8,Qa,seval]
      ·simp only[hx,Qa,seval]
   ·simp only[Qa,seval]
  ·simp only[QpI,Qa,seval]
end
open So
theorem Hh {f:Nat→Int}:∀ {k i:Nat},(∀j,i≤j→j<i+k→f j=0)→ZL f k i=0
 |0,_,_=>rfl
 |k+1,i,h=>by
  rw[ZL,Qn5 (h i (QnV _) (by omega))];exact Hh fun j h1 h2=>h j (by omega) (by omega)
theorem Wq {α:Type}{l:List α}{p:α→Bool}{i:Nat}(hi:i≤l.length):(l.take i).any p=false↔∀j (h:j<i),p (l[j]'(by omega))=false:=by
 rw[QpT]
 constructor
 ·intro h j hj;have:=h (l[j]'(by omega)) (Qob (i:=j) (by rw[QoC,Qn5 hj,QnX (by omega)]))
  simpa using this
 ·intro h x hx;obtain⟨j,hj⟩:=Qn9.1 hx;have hl:=(QnW.1 hj).1;rw[QoU]at hl;rw[QoC,Qn5 (by omega)]at hj;obtain⟨hj1,rfl⟩:=QnW.1 hj;have:=h j (by omega);simp[this]
section
variable {m:PG→V→Int}{P:PL}
def LL (m:PG→V→Int)(P:PL)(g:PG)(sl:List (Int×V)):Prop :=
 (∀x∈sl,∃o,Xv g x.1=some o∧Xw m P o x.2=0)∧sl.Pairwise (fun y x=>(y.1==x.1)=false)∧sl.Pairwise (fun y x=>∀o,Xv g x.1=some o→WQ g o y=false)
theorem Qcu {g:PG}{sl:List (Int×V)}:ZL (Jo m P g sl) sl.length 0=0↔LL m P g sl:=by
 have key:∀i (hi:i<sl.length),Jo m P g sl i=0↔∃o,Xv g sl[i].1=some o∧(sl.take i).any (fun y=>y.1==sl[i].1)=false∧(sl.take i).any (WQ g o)=false∧Xw m P o sl[i].2=0:=by
  intro i hi;unfold Jo;rw[QnX hi];dsimp only;cases Xv g sl[i].1 with
  |none=>simp
  |some o=>
   simp only[Qoo,exists_eq_left'];cases(sl.take i).any (fun y=>y.1==sl[i].1)<;>cases(sl.take i).any (WQ g o)<;>simp only[Qog,Qp5,if_true,if_false,QoO,false_and,iff_false]<;>omega
 constructor
 ·intro h;have hz:∀i (hi:i<sl.length),_:=fun i hi=>(key i hi).1 (KA h i (Qn6 _) (by omega))
  refine⟨fun x hx=>?_,?_,?_⟩
  ·obtain⟨i,hi,rfl⟩:=Qqd hx;obtain⟨o,h1,_,_,h4⟩:=hz i hi;exact⟨o,h1,h4⟩
  ·rw[Qqa];intro i j hi hj hij;obtain⟨o,_,h2,_,_⟩:=hz j hj;exact(Wq (by omega)).1 h2 i hij
  ·rw[Qqa];intro i j hi hj hij o ho;obtain⟨o',h1,_,h3,_⟩:=hz j hj;rw[h1]at ho;cases ho;exact(Wq (by omega)).1 h3 i hij
 ·rintro⟨h1,h2,h3⟩;refine Hh fun i _ hi=>?_
  rw[Qom]at hi;obtain⟨o,ho,hf⟩:=h1 sl[i] (QoP hi);rw[Qqa]at h2 h3;exact(key i hi).2 ⟨o,ho,(Wq (by omega)).2 fun j hj=>h2 j i (by omega) hi hj,(Wq (by omega)).2 fun j hj=>h3 j i (by omega) hi hj o ho,hf⟩
def EOK (m:PG→V→Int)(P:PL)(o:PO)(ps:List (V×V)):Prop :=
 (∀x∈ps,x.1.one P o.key (-1)=0∧QN m P o x.2=0)∧ps.Pairwise fun q p=>Xz q.1 p.1=false
theorem Kd {o:PO}{ps:List (V×V)}:ZL (U1 m P o ps) ps.length 0=0↔EOK m P o ps:=by
 have key:∀i (hi:i<ps.length),U1 m P o ps i=0↔(ps[i].1.one P o.key (-1)=0∧(ps.take i).any (fun q=>Xz q.1 ps[i].1)=false∧QN m P o ps[i].2=0):=by
  intro i hi;rw[Dj (QnX hi)];by_cases hz:ps[i].1.one P o.key (-1)=0
  ·rw[Qn5 hz];cases(ps.take i).any (fun q=>Xz q.1 ps[i].1)<;>simp[hz]
  ·rw[Qn4 hz];simp[hz]
 constructor
 ·intro h;have hz:∀i (hi:i<ps.length),_:=fun i hi=>(key i hi).1 (KA h i (Qn6 _) (by omega))
  refine⟨fun x hx=>?_,?_⟩
  ·obtain⟨i,hi,rfl⟩:=Qqd hx;exact⟨(hz i hi).1,(hz i hi).2.2⟩
  ·rw[Qqa];intro i j hi hj hij;exact(Wq (by omega)).1 (hz j hj).2.1 i hij
 ·rintro⟨h1,h2⟩;refine Hh fun i _ hi=>?_
  rw[Qom]at hi;rw[Qqa]at h2;exact(key i hi).2 ⟨(h1 _ (QoP hi)).1,(Wq (by omega)).2 fun j hj=>h2 j i (by omega) hi hj,(h1 _ (QoP hi)).2⟩
theorem Ke {o:PO}{l:List V}:ZL (Fb m P o l) l.length 0=0↔∀x∈l,QN m P o x=0:=by
 constructor
 ·intro h x hx;obtain⟨i,hi,rfl⟩:=Qqd hx;have:=KA h i (Qn6 _) (by omega)
  rwa [Dk (QnX hi)]at this
 ·intro h;refine Hh fun i _ hi=>?_
  rw[Qom]at hi;rw[Dk (QnX hi)];exact h _ (QoP hi)
theorem Qcv {g:PG}{l:List R}:ZL (YS P g l) l.length 0=0↔∀x∈l,JN P g x=0:=by
 constructor
 ·intro h x hx;obtain⟨i,hi,rfl⟩:=Qqd hx;have:=KA h i (Qn6 _) (by omega)
  rwa [HJ (QnX hi)]at this
 ·intro h;refine Hh fun i _ hi=>?_
  rw[Qom]at hi;rw[HJ (QnX hi)];exact h _ (QoP hi)
theorem Wf {g:PG}{v:V}:UK m P g v=0↔LL m P g v.slots∧U2 g v.slots=false∧∀x∈v.raws,JN P g x=0:=by
 unfold UK;rw[←Qcu,←Qcv];split
 ·rename_i h;cases U2 g v.slots<;>simp[h]
 ·rename_i h;simp[h]
end
theorem ZH {P:PL}{n:Nat}{g:PG}{v:V}:Xp P (n+1) g v=0↔(v.kd=10∧v.oth=false)∧LL (Xp P n) P g v.slots∧U2 g v.slots=false∧∀x∈v.raws,JN P g x=0:=by
 rw[←Wf];unfold Xp;by_cases h:v.kd=10
 ·cases ho:v.oth<;>simp[h]
 ·simp[h]
theorem CP {v:V}(h:v.kd≠6):v.nsc=v:=by
 cases v;unfold V.nsc Xu;rw[Qn4 fun g=>h g.1];rfl
theorem QhG {P:PL}{tg:Int}{t:List UInt8}{l p s r:List AV}(b b':Nat):WP P 6 tg 6 b t l p s r=WP P 6 tg 6 b' t l p s r:=by
 have k1:(Zx 6||(6:Int)==10||(6:Int)==11||(6:Int)==12)=false:=by decide
 have k2:((6:Int)==9)=false:=rfl;have t6:Zx 6=false:=rfl;have f6:∀b,Kz 6 b=true:=fun b=>by
  unfold Kz;rw[Qn4 (by decide),Qn4 (by decide),Qn4 (by decide),Qn4 (by decide)]
 have h1:oth 6 b t l p s r=oth 6 b' t l p s r:=by
  unfold oth;rw[k1,QpG,QpG]
 have h2:XQ 6 6 b t l p s r=XQ 6 6 b' t l p s r:=by
  unfold XQ;rw[f6,f6,Qn4 (by rw[t6];exact Bool.false_ne_true),Qn4 (by rw[t6];exact Bool.false_ne_true)]
 unfold WP;rw[h1,h2,k2,Qpu,Qpu]
theorem PP {P:PL}{k tg:Int}{v:V}(h:v.one P k tg=0):v.nsc.one P k tg=0:=by
 by_cases hk:v.kd=6
 ·have e:=(Hf h).1;rw[←h];unfold V.one;have e1:v.nsc.kd=6:=hk;rw[e1,hk,show k=6 by omega];exact QhG _ _
 ·rw[CP hk];exact h
theorem XG {g:PG}(hd:g.ops.Pairwise fun a b=>a.num<b.num){o:PO}(ho:o∈g.ops):Xv g o.num=some o:=by
 unfold Xv
 revert hd ho
 generalize g.ops=ops;intro hd ho
 induction ops with
 |nil=>cases ho
 |cons x l ih=>
  obtain⟨h1,h2⟩:=Qpy.1 hd;rw[QpP];rcases Qpk.1 ho with rfl|ho
  ·simp
  ·have:=h1 o ho;rw[show(x.num==o.num)=false by simp;omega];exact ih h2 ho
section
variable {m:PG→V→Int}{nm:PG→V→V}{P:PL}
theorem Ff (h:∀g∈P.progs,∀v,m g v=0→m g (nm g v)=0){o:PO}(ho:UO P o){v:V}(hv:QN m P o v=0):QN m P o (Xq nm P o v)=0:=by
 unfold QN Xq at *;by_cases hk:o.kind=10
 ·rw[Qn5 hk]at hv;rw[Qn5 hk,Qn5 hk];obtain⟨t0,t1⟩:=ho.tgt hk;refine h _ ?_ _ hv;unfold Qk;rw[QnX (by omega:o.target.toNat<P.progs.length)];exact QoP _
 ·rw[Qn4 hk]at hv;rw[Qn4 hk,Qn4 hk];exact PP hv
theorem GJ {o:PO}(ho:o.card=5→XU o.key)(h5:o.card=5){ps:List (V×V)}(h:EOK m P o ps):∀p∈ps,p.1.nsc=p.1:=by
 intro p hp;have e:=(Hf (h.1 p hp).1).1;refine CP ?_;have:=ho h5;unfold XU at this;omega
theorem Ik (h:∀g∈P.progs,∀v,m g v=0→m g (nm g v)=0){o:PO}(ho:UO P o){v:V}(hv:Xw m P o v=0):Xw m P o (XN nm P o v)=0:=by
 unfold Xw XN at *;by_cases h5:o.card=5
 ·have n4:¬o.card=4:=by omega
  rw[Qn5 h5]at hv;rw[Qn5 h5,Qn4 n4,Qn5 h5];split at hv
  ·omega
  have hE:=Kd.1 hv;have hk:=GJ ho.key h5 hE;rw[Qn4 (by simp[V.kd,V.oth,oth,V.bits,V.text,V.list,V.pairs,V.slots,V.raws,Zx])];refine Kd.2 ?_;have hp:(QX o.key v.pairs).Perm v.pairs:=QR _;have hm:∀p∈QX o.key v.pairs,p∈v.pairs:=fun p h=>hp.mem_iff.1 h
  refine⟨fun x hx=>?_,?_⟩
  ·obtain⟨p,hp,rfl⟩:=Qpi.1 hx;have h1:=hE.1 p (hm p hp);exact⟨PP h1.1,Ff h ho h1.2⟩
  ·show(List.map _ (QX o.key v.pairs)).Pairwise _;rw[List.pairwise_map];have h2:(QX o.key v.pairs).Pairwise fun q p=>Xz q.1 p.1=false:=(hp.pairwise_iff fun {a b} h=>by unfold Xz at *;rw[←h,Qqe (a:=b.1.bits),Qqe (a:=b.1.text)]).2 hE.2
   refine h2.imp_of_mem fun {a b} ha hb h=>?_
   dsimp only;rw[hk a (hm a ha),hk b (hm b hb)];exact h
 ·rw[Qn4 h5]at hv;rw[Qn4 h5];by_cases h4:o.card=4
  ·rw[Qn5 h4]at hv;rw[Qn5 h4,Qn5 h4];split at hv
   ·omega
   have hL:=Ke.1 hv;rw[Qn4 (by simp[V.kd,V.oth,oth,V.bits,V.text,V.list,V.pairs,V.slots,V.raws,Zx])];refine Ke.2 fun x hx=>?_
   obtain⟨y,hy,rfl⟩:=Qpi.1 hx;exact Ff h ho (hL y hy)
  ·rw[Qn4 h4]at hv;rw[Qn4 h4,Qn4 h4,Qn4 h5];exact Ff h ho hv
theorem Zq {sl:List (Int×V)}{o:PO}{x:Int×V}(h:x∈Xg nm P sl o):x.1=o.num∧∃s∈sl,s.1=o.num∧x.2=XN nm P o s.2:=by
 unfold Xg at h;cases hf:sl.find? (fun s=>s.1==o.num)with
 |none=>rw[hf]at h;cases h
 |some s=>
  rw[hf]at h;dsimp only at h;have h1:s.1=o.num:=by simpa using QpX hf
  split at h
  ·simp only[Qpk,Qqc,or_false]at h;subst h;exact⟨rfl,s,QpW hf,h1,rfl⟩
  ·cases h
theorem Fg {sl:List (Int×V)}{o:PO}{p:Int×V→Int×V→Prop}:(Xg nm P sl o).Pairwise p:=by
 unfold Xg;split
 ·exact .nil
 ·split
  ·exact Qp9 _ _
  ·exact .nil
theorem Ao (h:∀g∈P.progs,∀v,m g v=0→m g (nm g v)=0){g:PG}(hd:g.ops.Pairwise fun a b=>a.num<b.num)(hu:∀o∈g.ops,UO P o){v:V}(hv:UK m P g v=0):UK m P g (Uj nm P g v)=0:=by
 obtain⟨⟨s1,s2,s3⟩,hmis,hraw⟩:=Wf.1 hv;have uniq:∀ {a b:Int×V},a∈v.slots→b∈v.slots→a.1=b.1→a=b:=by
  intro a b ha hb e;obtain⟨i,hi,rfl⟩:=Qqd ha;obtain⟨j,hj,rfl⟩:=Qqd hb;rw[Qqa]at s2;rcases Nat.lt_trichotomy i j with c|c|c
  ·have:=s2 i j hi hj c;rw[e]at this;simp at this
  ·subst c;rfl
  ·have:=s2 j i hj hi c;rw[e]at this;simp at this
 refine Wf.2 ⟨⟨fun x hx=>?_,?_,?_⟩,?_,fun x hx=>?_⟩
 ·obtain⟨o,ho,hx⟩:=QoJ.1 hx;obtain⟨e,s,hs,e1,e2⟩:=Zq hx;obtain⟨o',h1,h2⟩:=s1 s hs;rw[e1,XG hd ho]at h1;cases h1;exact⟨o,by rw[e];exact XG hd ho,by rw[e2];exact Ik h (hu o ho) h2⟩
 ·show(g.ops.flatMap (Xg nm P v.slots)).Pairwise _;rw[List.pairwise_flatMap];refine⟨fun _ _=>Fg,hd.imp fun {a b} hab x hx y hy=>?_⟩;have e1:=(Zq hx).1;have e2:=(Zq hy).1;simp;omega
 ·show(g.ops.flatMap (Xg nm P v.slots)).Pairwise _;rw[List.pairwise_flatMap];refine⟨fun _ _=>Fg,(hd.imp_of_mem fun {a b} ha hb hab x hx y hy o ho=>?_)⟩;obtain⟨e1,s,hs,es,_⟩:=Zq hx;obtain⟨e2,t,ht,et,_⟩:=Zq hy;rw[e2,XG hd hb]at ho;cases ho;have hst:s≠t:=fun e=>by rw[e,et]at es;omega
  obtain⟨i,hi,rfl⟩:=Qqd hs;obtain⟨j,hj,rfl⟩:=Qqd ht;rw[Qqa]at s3;have hx1:Xv g x.1=some a:=by rw[e1];exact XG hd ha
  unfold WQ;rw[hx1];rcases Nat.lt_trichotomy i j with c|c|c
  ·have:=s3 i j hi hj c b (by rw[et];exact XG hd hb);unfold WQ at this;rw[es,XG hd ha]at this;exact this
  ·subst c;exact absurd rfl hst
  ·have:=s3 j i hj hi c a (by rw[es];exact XG hd ha);unfold WQ at this;rw[et,XG hd hb]at this;simp only[Qo8,Qp2,bne_eq_false_iff_eq,QpK]at this ⊢;rcases this with e|e
   ·by_cases c:b.union = -1
    ·exact .inl c
    ·exact .inr fun g=>c (by omega)
   ·exact .inr fun g=>e g.symm
 ·have hm:=hmis;rw[PM,QpT]at hm ⊢;intro o ho;have:=hm o ho;unfold GI at this ⊢;by_cases hc:o.card=1
  ·have hb:(o.card==1)=true:=by simp[hc]
   rw[hb,QpE,Qp4,Bool.not_eq_false']at this;rw[hb,QpE,Qp4,Bool.not_eq_false'];obtain⟨s,hs,e⟩:=QpV.1 this;obtain⟨t,ht⟩:∃t,v.slots.find? (fun s=>s.1==o.num)=some t:=by
    cases hf:v.slots.find? (fun s=>s.1==o.num)with
    |none=>exact absurd e (by simpa using QpU.1 hf s hs)
    |some t=>exact⟨t,rfl⟩
   refine QpV.2 ⟨(o.num,XN nm P o t.2),QoJ.2 ⟨o,ho,?_⟩,by simp⟩;unfold Xg;rw[ht];dsimp only;rw[Qn5 (by simp[hc])];simp
  ·have hb:(o.card==1)=false:=by simp[hc]
   rw[hb,Qpu];simp
 ·exact hraw x ((QR v.raws).mem_iff.1 hx)
end
theorem Uk {P:PL}(hU:J6 P)(hr:Zi P):∀(n:Nat) (g:PG),g∈P.progs→∀v:V,Xp P n g v=0→Xp P n g (nrm P n g v)=0
 |0,_,_,v,h=>by
  unfold Xp at h;split at h<;>omega
 |n+1,g,hg,v,h=>by
  have hb:=Wf.2 (ZH.1 h).2;refine ZH.2 ⟨⟨rfl,?_⟩,Wf.1 (Ao (fun g hg v h=>Uk hU hr n g hg v h) (hr g hg) (hU g hg) hb)⟩;simp[V.oth,oth,nrm,Uj,V.kd,V.bits,V.text,V.list,V.pairs,V.slots,V.raws,Zx]
def EW (m:PG→V→Prop)(P:PL)(o:PO)(v:V):Prop:=o.kind=10→m (Qk P o.target) v
def FW (m:PG→V→Prop)(P:PL)(o:PO)(v:V):Prop :=
 if o.card=4 then ∀x∈v.list,EW m P o x
 else if o.card=5 then(∀p∈v.pairs,p.1.one P o.key (-1)=0∧EW m P o p.2)∧v.pairs.Pairwise fun q p=>Xz q.1 p.1=false
 else EW m P o v
def MW (P:PL):Nat→PG→V→Prop
 |0,_,_=>False
 |n+1,g,v=>(∀s∈v.slots,∃o,Xv g s.1=some o∧FW (MW P n) P o s.2)∧v.slots.Pairwise fun y x=>(y.1==x.1)=false
theorem Si {m:PG→V→Int}{w:PG→V→Prop}(h:∀g v,m g v=0→w g v){P:PL}{o:PO}{v:V}(he:QN m P o v=0):EW w P o v:=by
 intro hk;unfold QN at he;rw[Qn5 hk]at he;exact h _ _ he
theorem QhH {m:PG→V→Int}{w:PG→V→Prop}(h:∀g v,m g v=0→w g v){P:PL}{o:PO}{v:V}(he:Xw m P o v=0):FW w P o v:=by
 unfold Xw at he;unfold FW;by_cases h4:o.card=4
 ·rw[Qn4 (by omega),Qn5 h4]at he;rw[Qn5 h4];split at he
  ·omega
  exact fun x hx=>Si h (Ke.1 he x hx)
 ·rw[Qn4 h4];by_cases h5:o.card=5
  ·rw[Qn5 h5]at he;rw[Qn5 h5];split at he
   ·omega
   have hE:=Kd.1 he;exact⟨fun p hp=>⟨(hE.1 p hp).1,Si h (hE.1 p hp).2⟩,hE.2⟩
  ·rw[Qn4 h5,Qn4 h4]at he;rw[Qn4 h5];exact Si h he
theorem YT {P:PL}:∀(n:Nat) (g:PG) (v:V),Xp P n g v=0→MW P n g v
 |0,g,v,h=>by
  unfold Xp at h;split at h<;>omega
 |n+1,g,v,h=>by
  obtain⟨_,⟨s1,s2,_⟩,_,_⟩:=ZH.1 h;refine⟨fun s hs=>?_,s2⟩;obtain⟨o,ho,hf⟩:=s1 s hs;exact⟨o,ho,QhH (YT n) hf⟩
theorem Qcw {P:PL}{o:PO}(ho:o.card=5→XU o.key)(h5:o.card=5){ps:List (V×V)}(h:∀p∈ps,p.1.one P o.key (-1)=0):∀p∈ps,p.1.nsc=p.1:=by
 intro p hp;have e:=(Hf (h p hp)).1;refine CP ?_;have:=ho h5;unfold XU at this;omega
end Go.Proofs.YtgnfjkkfbcnbfaaGreatDoor.Va
namespace Go.Proofs.YtgnfjkkfbcnbfaaGreatDoor.Va
open Go Am Rc Bt Vp
def bl (l:List UInt8):List AV:=l.map fun b=>.int .u8 (b.toNat:Int)
theorem NX (a b:List UInt8):bl (a++b)=bl a++bl b:=by simp[bl]
theorem NY (a:List UInt8):(bl a).length=a.length:=by simp[bl]
theorem YU (l:List UInt8):bytesOf (bl l)=some l:=by
 induction l with
 |nil=>rfl
 |cons b l ih=>
  show(bytesOf (bl l)).map _=_;rw[ih];simp
theorem QhI (u:Nat):(u:Int).fdiv (2 ^ min 7 64)=((u / 128:Nat):Int):=by
 rw[show min 7 64=7 from rfl,Qqf _ (show(0:Int)≤2 ^ 7 by decide)];omega
theorem QhJ (u:Nat):bits .or .u8 (IntKind.u8.wrap (u:Int)) 128=((UInt8.ofNat (u % 128+128)).toNat:Int):=by
 rw[wu8];have h:∀n:Fin 256,bits .or .u8 ((n.val:Nat):Int) 128=((n.val % 128+128:Nat):Int):=by decide +kernel
 have:=h ⟨u % 256,by omega⟩;simp only at this;rw[show((u:Int) % 256)=((u % 256:Nat):Int)by omega,this,toNat_ofNat _ (by omega)];omega
theorem Qk2 (u:Nat)(h:u<128):IntKind.u8.wrap (u:Int)=((UInt8.ofNat u).toNat:Int):=by
 rw[wu8,toNat_ofNat _ (by omega)];omega
def Qk3 (u0:Nat)(k:Nat)(st:St):Prop :=
 ∃f fr u g j l,st=⟨f,[fr],[]⟩∧k=u∧f 0=.int .u64 (u:Nat)∧f 3=.vec 0 3 g 0 l.length false∧fr 3=.vec g 1 (bl l)∧u<GA (9-j)∧l.length+j=9∧l++Wc j u=Vp.put u0
theorem LM (u:Nat)(hu:u<18446744073709551616):Qg Tryz.prog 85 [.int .u64 u] (.str (Vp.put u)):=by
 refine wF Tryz.func85 ?_;simp only[eK,Tryz.f85,seval];simp only[Kj,seval];refine ZG rfl rfl ?_;simp only[Kj,seval];refine Qi (Qk3 u) u ⟨_,_,u,1,9,[],rfl,rfl,rfl,rfl,rfl,hu,rfl,rfl⟩ ?_;rintro n st ⟨f,fr,v,g,j,l,rfl,rfl,h0,h3,hv,hlt,hj,hl⟩;simp only[h0,Kj,seval];refine Q3 (fun h=>?_) (fun h=>?_)
 ·have h:128≤n:=by(have h:(128:Int)≤n:=(by simpa using h));omega
  obtain⟨j,rfl⟩:∃i,j=i+1:=⟨j-1,by
   rcases QoM j with rfl|hp
   ·simp[GA]at hlt;omega
   ·omega⟩
  simp only[h0,h3,Kj,seval];refine NG rfl ?_;refine QK rfl hv rfl (NY l).symm rfl rfl (by simp[maxLen];omega) (by simp;omega) ?_;simp only[h0,QhI,QhJ,Kj,seval];refine⟨n / 128,by omega,_,_,n / 128,g+1,j,l++[UInt8.ofNat (n % 128+128)],rfl,rfl,rfl,?_,?_,?_,?_,?_⟩
  ·simp only[QoB,Qoc,QoT,Kj,seval]
  ·simp only[Q4,NX]<;>rfl
  ·have:=NR (9-(j+1)) n (by omega) hlt
   rwa [show 9-(j+1)+1=9-j by omega]at this
  ·simp;omega
  ·rw[←hl,CB j n (by omega)];simp
 ·have h:n<128:=by(have h:(n:Int)<128:=(by simpa using h));omega
  simp only[h0,h3,Kj,seval];refine NG rfl ?_;refine QK rfl hv rfl (NY l).symm rfl rfl (by simp[maxLen];omega) (by simp;omega) ?_;have he:=UB (m:=[]) (fr:=QI fr 3 (.vec (g+1) 1 (bl l++[.int .u8 ((UInt8.ofNat n).toNat:Int)]))) (site:=3) (g:=g+1) (sz:=1) (n:=l.length+(0+1)) (q:=false) rfl (by simp[bl]);have hb:bytesOf (bl l++[.int .u8 ((UInt8.ofNat n).toNat:Int)])=some (l++[UInt8.ofNat n]):=by
   have:=YU (l++[UInt8.ofNat n])
   rwa [NX]at this
  simp only[Qk2 n h,he,hb,Kj,seval];rw[←hl,Bc j n h]
def tk (r:Nat×Nat×Nat):AV:=.tup [.int .u64 (r.1:Nat),.int .i64 (r.2.1:Nat),.int .i64 (r.2.2:Nat)]
theorem tk_end:tk (0,0,4)=.tup [.int .u64 0,.int .i64 0,.int .i64 4]:=rfl
theorem tk_bad:tk (0,0,6)=.tup [.int .u64 0,.int .i64 0,.int .i64 6]:=rfl
theorem tk_ok(v n:Nat):tk (v,n,0)=.tup [.int .u64 (v:Nat),.int .i64 (n:Nat),.int .i64 0]:=rfl
theorem Ap (c:UInt8):bits .and .u8 (c.toNat:Int) 127=((c.toNat % 128:Nat):Int):=by
 have h:∀n:Fin 256,bits .and .u8 ((n.val:Nat):Int) 127=((n.val % 128:Nat):Int):=by decide +kernel
 exact h ⟨c.toNat,c.toNat_lt⟩
theorem CQ (i:Nat):128 ^ i=2 ^ (7*i):=by rw[Nat.pow_mul]
theorem NZ (acc d i:Nat)(hi:i≤9)(ha:acc<128 ^ i)(hd:d<128)(h9:i=9→d≤1) :
  bits .or .u64 (acc:Int) (IntKind.u64.wrap (IntKind.u64.wrap (d:Int)*2 ^ min (IntKind.i64.wrap (7*(i:Int))).toNat 64))=((acc+d*128 ^ i:Nat):Int):=by
 have e1:IntKind.i64.wrap (7*(i:Int))=((7*i:Nat):Int):=by rw[Qz];omega
 have hb:d*128 ^ i<18446744073709551616:=by
  rcases Nat.lt_or_ge i 9 with h|h
  ·have h1:128 ^ i≤128 ^ 8:=Nat.pow_le_pow_right (by omega) (by omega)
   calc d*128 ^ i≤127*128 ^ 8:=Nat.mul_le_mul (by omega) h1
    _<_:=by decide
  ·have:i=9:=by omega
   subst this
   calc d*128 ^ 9≤1*128 ^ 9:=Nat.mul_le_mul (h9 rfl) (QnV _)
    _<_:=by decide
 have hacc:acc<18446744073709551616:=by
  refine Nat.lt_of_lt_of_le ha ?_
  calc 128 ^ i≤128 ^ 9:=Nat.pow_le_pow_right (by omega) hi
   _≤_:=by decide
 have e2:IntKind.u64.wrap (d:Int)=(d:Int):=by rw[Jj];omega
 have e3:IntKind.u64.wrap ((d:Int)*2 ^ (7*i))=((d*128 ^ i:Nat):Int):=by
  rw[Jj,CQ];have:((d*2 ^ (7*i):Nat):Int)=(d:Int)*2 ^ (7*i):=by push_cast;rfl
  rw[←this];rw[CQ]at hb;omega
 rw[e1,Qpq,Qpe (by omega),e2,e3,T2 _ _ hacc hb];congr 1
 rw[CQ]at ha ⊢;have:=Nat.two_pow_add_eq_or_of_lt ha d;rw[Nat.or_comm,Nat.mul_comm d,←this,Nat.add_comm]
theorem Il {acc d i:Nat}(ha:acc<128 ^ i)(hd:d<128):acc+d*128 ^ i<128 ^ (i+1):=by
 have:d*128 ^ i≤127*128 ^ i:=Qo3 _ (by omega);rw[Nat.pow_succ];omega
theorem CR {l t:List UInt8}{c:UInt8}{i:Nat}(h:l.drop i=c :: t):l[i]? = some c∧l.drop (i+1)=t∧i<l.length:=by
 have hi:i<l.length:=by
  rcases Nat.lt_or_ge i l.length with h'|h'
  ·exact h'
  ·rw[QoA h']at h;cases h
 rw[QoG hi]at h
 injection h with h1 h2
 exact⟨by rw[QnX hi,h1],h2,hi⟩
def QhK (s:List UInt8)(k:Nat)(st:St):Prop :=
 ∃f i acc,st=⟨f,[Qb],[]⟩∧k=s.length-i∧f 0=.str s∧f 5=.int .u64 (acc:Nat)∧f 6=.int .i64 (i:Nat)∧i≤s.length∧i≤9∧acc<128 ^ i∧Ky i acc (s.drop i)=Vp.take s
theorem Qk4 (s:List UInt8):Qg Tryz.prog 227 [.str s] (tk (Vp.take s)):=by
 refine wF Tryz.func227 ?_;simp only[eK,Tryz.f227,seval];simp only[Kj,seval];refine Qi (QhK s) _ ⟨_,0,0,rfl,rfl,rfl,rfl,rfl,Qn6 _,Qn6 _,by decide,rfl⟩ ?_;rintro n st ⟨f,i,acc,rfl,rfl,h0,h5,h6,hil,hi,ha,hv⟩;simp only[h0,h6,Kj,seval];refine Q3 (fun h=>?_) (fun h=>?_)
 ·have h:i=s.length:=by(have h:(i:Int)=s.length:=(by simpa using h));omega
  rw[QoA (by omega)]at hv;simp only[←hv,Ky,tk_end,Kj,seval]
 ·have h:i<s.length:=by(have h:¬(i:Int)=s.length:=(by simpa using h));omega
  obtain⟨c,t,hc⟩:∃c t,s.drop i=c :: t:=by
   cases hd:s.drop i with
   |nil=>have:=congrArg List.length hd;simp at this;omega
   |cons c t=>exact⟨c,t,rfl⟩
  obtain⟨g1,g2,_⟩:=CR hc;rw[hc]at hv;have n0:(0≤(i:Int))=True:=by simp
  have e7:IntKind.i64.wrap (7*(i:Int))=((7*i:Nat):Int):=by rw[Qz];omega
  have n7:(0≤IntKind.i64.wrap (7*(i:Int)))=True:=eq_true (by rw[e7];omega);have e1:IntKind.i64.wrap ((i:Int)+1)=((i+1:Nat):Int):=by rw[Qz];omega
  rw[Ky]at hv;simp only[h0,h6,n0,g1,Qpq,Kj,seval];by_cases h9:i=9
  ·have e9:((i:Int)==9)=true:=by simp;omega
   simp only[e9,Kj,seval];refine Q3 (fun hc1=>?_) (fun hc1=>?_)
   ·have hc1:1<c.toNat:=by(have hc1:(1:Int)<c.toNat:=(by simpa using hc1));omega
    rw[Qn5 ⟨h9,hc1⟩]at hv;simp only[←hv,tk_bad,Kj,seval]
   ·have hc1:c.toNat≤1:=by(have hc1:(c.toNat:Int)≤1:=(by simpa using hc1));omega
    have hbad:¬(i=9∧1<c.toNat):=by omega
    rw[Qn4 hbad]at hv;have hd:=NZ acc (c.toNat % 128) i hi ha (by omega) (fun _=>by omega);simp only[Ap,n7,hd,e1,h5,h6,Kj,seval];refine Q3 (fun hlt=>?_) (fun hlt=>?_)
    ·have hlt:c.toNat<128:=by omega
     rw[Qn5 hlt]at hv;simp only[←hv,tk_ok,Nat.mod_eq_of_lt hlt,h5,h6,Kj,seval]
    ·exfalso;have hlt:(128:Int)≤c.toNat:=by simpa using hlt
     omega
  ·have hbad:¬(i=9∧1<c.toNat):=by omega
   rw[Qn4 hbad]at hv;have e9:((i:Int)==9)=false:=by simp;omega
   have hd:=NZ acc (c.toNat % 128) i hi ha (by omega) (fun e=>absurd e h9);simp only[e9,Ap,n7,hd,e1,h5,h6,Kj,seval];refine Q3 (fun hlt=>?_) (fun hlt=>?_)
   ·have hlt:c.toNat<128:=by(have hlt:(c.toNat:Int)<128:=(by simpa using hlt));omega
    rw[Qn5 hlt]at hv;simp only[←hv,tk_ok,Nat.mod_eq_of_lt hlt,h5,h6,Kj,seval]
   ·have hlt:128≤c.toNat:=by(have hlt:(128:Int)≤c.toNat:=(by simpa using hlt));omega
    rw[Qn4 (by omega)]at hv;simp only[Kj,seval];refine⟨s.length-(i+1),by omega,_,i+1,acc+c.toNat % 128*128 ^ i,rfl,rfl,?_,?_,?_,by omega,by omega,Il ha (by omega),?_⟩
    ·simp only[h0,Kj,seval]
    ·simp only[Kj,seval]
    ·simp only[Kj,seval]
    ·rw[g2,←hv];have:=c.toNat_lt;rw[show c.toNat % 128=c.toNat-128 by omega]
open Cp
theorem Im (c:C):Qg Tryz.prog 176 [c.av] (.bool c.sound):=by
 refine wF Tryz.func176 ?_;simp only[eK,Tryz.f176,seval];simp only[C.av,eE,seval]
 repeat' (first|(refine Q3 (fun h=>?_) (fun h=>?_)<;>simp only[h,eE,seval])|(refine XZ (fun h=>?_) (fun h=>?_)<;>simp only[h,Ql,eE,seval])|(refine X0 (fun h=>?_) (fun h=>?_)<;>simp only[h,Ql,eE,seval]))
 all_goals(simp_all[C.sound]<;>omega)
theorem Sj (c:C)(n:Int):Qg Tryz.prog 229 [c.av,.int .i64 n] (c.ahead n).av:=by
 refine wF Tryz.func229 ?_;simp only[eK,Tryz.f229,seval];simp only[C.av,C.ahead,eE,seval]
theorem c46 (s:List UInt8)(l:L):Qg Tryz.prog 46 [.str s,l.av] (Hd (opn s l)):=by
 refine wF Tryz.func46 ?_;simp only[eK,Tryz.f46,seval];simp only[L.av,eE,seval]
 repeat' (first|(refine Q3 (fun h=>?_) (fun h=>?_)<;>simp only[h,eE,seval])|(refine XZ (fun h=>?_) (fun h=>?_)<;>simp only[h,Ql,eE,seval])|(refine X0 (fun h=>?_) (fun h=>?_)<;>simp only[h,Ql,eE,seval]))
 all_goals((try simp only[Qn1,QpZ]at *)<;>unfold opn<;>(repeat' split)<;>first|rfl|(exfalso;omega))
theorem c90 (c:C)(n:Int):Qg Tryz.prog 90 [c.av,.int .i64 n] (Hd (c.spend n)):=by
 refine wF Tryz.func90 ?_;simp only[eK,Tryz.f90,seval];simp only[C.av,eE,seval]
 repeat' (first|(refine Q3 (fun h=>?_) (fun h=>?_)<;>simp only[h,eE,seval])|(refine XZ (fun h=>?_) (fun h=>?_)<;>simp only[h,Ql,eE,seval])|(refine X0 (fun h=>?_) (fun h=>?_)<;>simp only[h,Ql,eE,seval]))
 all_goals((try simp only[Qn1,QpZ]at *)<;>unfold C.spend<;>(repeat' split)<;>first|rfl|(exfalso;omega))
theorem N0 (c:C)(hl:c.d.length≤9223372036854775807):Qg Tryz.prog 91 [c.av] (.int .i64 c.left):=by
 refine wF Tryz.func91 ?_;simp only[eK,Tryz.f91,seval];simp only[C.av,eE,seval];refine aC (Im c) ?_;have hr:=c.rest_len;cases hs:c.sound with
 |false=>
  rw[hs,Qn4 (by simp)]at hr;simp only[Qo5,hr,Qa,seval]
 |true=>
  rw[hs,Qn5 rfl]at hr;have h:=(C.sound_iff c).1 hs;have e1:IntKind.i64.wrap (c.e-c.a)=c.e-c.a:=by rw[Qz];omega
  simp only[QpF,hr,e1,eE,seval]
theorem Qfr (c:C)(n:Nat)(hn:n≤1000)(hl:c.d.length≤9223372036854770000):Qg Tryz.prog 228 [c.av,.int .i64 (n:Int)] (.str (c.rest.take n)):=by
 refine wF Tryz.func228 ?_;simp only[eK,Tryz.f228,seval];simp only[C.av,eE,seval];refine aC (Im c) ?_;cases hs:c.sound with
 |false=>
  simp only[Qo5,C.rest_no hs,Qa,seval]
 |true=>
  have h:=(C.sound_iff c).1 hs;have e1:IntKind.i64.wrap (c.a+n)=c.a+n:=by rw[Qz];omega
  have hh:=C.head_of hs n _ rfl;generalize hk:(if c.a+n<c.e then c.a+n else c.e)=k at hh;have hk':c.a≤k∧k≤c.e:=by split at hk<;>omega
  have n1:(0≤c.a)=True:=eq_true h.1;have n2:(0≤k)=True:=eq_true (by omega);have n3:(c.a.toNat≤k.toNat∧k.toNat≤c.d.length)=True:=eq_true (by omega);simp only[QpF,e1,hk,n1,n2,n3,hh,eE,seval]
theorem Nn (c:C)(hl:c.d.length≤9223372036854770000):Qg Tryz.prog 177 [c.av] (We c.varint):=by
 refine wF Tryz.func177 ?_;simp only[eK,Tryz.f177,seval];simp only[C.av,eE,seval];refine aC (Qfr c 10 (by omega) hl) ?_;refine aC (Qk4 (c.rest.take 10)) ?_;rw[take_take];unfold C.varint;generalize Vp.take c.rest=r;obtain⟨u,n,e⟩:=r;simp only[tk,Qa,seval];refine Q3 (fun h=>?_) (fun h=>?_)
 ·have h:¬e=0:=by simpa using h
  simp only[h,We,C.av,eE,seval]
  try rfl
 ·have h:e=0:=by simpa using h
  subst h;simp only[eE,seval];refine aC (Sj c (n:Int)) ?_;simp only[We,C.av,C.ahead,eE,seval]
  try rfl
theorem Xb {a:Nat}(h:¬a=0):((a:Int) != 0)=true:=by simp[h]
def fx:Nat→Nat→List UInt8
 |0,_=>[]
 |k+1,u=>UInt8.ofNat (u % 256) :: fx k (u / 256)
theorem KD (k u:Nat):(fx k u).length=k:=by
 induction k generalizing u with
 |zero=>rfl
 |succ k ih=>simp[fx,ih]
theorem Qcx (k u:Nat):fx (k+1) u=fx k u++[UInt8.ofNat (u / 256 ^ k % 256)]:=by
 induction k generalizing u with
 |zero=>simp[fx]
 |succ k ih=>
  rw[fx,ih (u / 256)];simp only[fx,Qoj,Nat.div_div_eq_div_mul,Nat.pow_succ,Nat.mul_comm]
theorem PQ:∀(k u:Nat),u<256 ^ k→(fx k u).foldr (fun b v=>256*v+b.toNat) 0=u
 |0,u,h=>by simp at h;simp[fx,h]
 |k+1,u,h=>by
  rw[fx,List.foldr_cons,PQ k (u / 256) (by rw[Nat.pow_succ]at h;omega),toNat_ofNat _ (by omega)];omega
theorem PR (u:Nat)(t:List UInt8)(h:u<2 ^ 64):Uf (fx 8 u++t)=u:=by
 unfold Uf;rw[List.take_left' (KD 8 u)];exact PQ 8 u (Nat.lt_of_lt_of_eq h (by decide))
def GK (s:List UInt8):Nat→Nat
 |0=>0
 |k+1=>GK s k+((s[k]?).getD 0).toNat*256 ^ k
theorem Aq (s:List UInt8)(k:Nat):GK s k<256 ^ k:=by
 induction k with
 |zero=>exact Nat.one_pos
 |succ k ih=>
  have h1:=((s[k]?).getD 0).toNat_lt;have h2:((s[k]?).getD 0).toNat*256 ^ k≤255*256 ^ k:=Qo3 _ (by omega);rw[GK,Nat.pow_succ];omega
theorem N1 (b:UInt8):∀(l:List UInt8) (z:Nat),l.foldr (fun b v=>256*v+b.toNat) z=l.foldr (fun b v=>256*v+b.toNat) 0+z*256 ^ l.length
 | [],z=>by simp
 |a :: l,z=>by
  rw[List.foldr_cons,List.foldr_cons,N1 b l z,Qoc,Nat.pow_succ];rw[Nat.mul_add,←Nat.mul_assoc,Nat.mul_comm 256 z,Nat.mul_assoc z,Nat.mul_comm 256 (256 ^ _)];omega
theorem CS (s:List UInt8):∀(k:Nat),k≤s.length→(s.take k).foldr (fun b v=>256*v+b.toNat) 0=GK s k
 |0,_=>rfl
 |k+1,h=>by
  rw[Qoh (by omega),List.foldr_append,List.foldr_cons,List.foldr_nil,N1 0,CS s k (by omega),GK];rw[QnX (by omega),QoU,Qpe (by omega)];simp
theorem Io (s:List UInt8)(h:8≤s.length):Uf s=GK s 8:=CS s 8 h
def Sk (s:List UInt8)(k:Nat)(st:St):Prop :=
 ∃f i,st=⟨f,[Qb],[]⟩∧k=8-i∧i≤8∧f 0=.str s∧f 4=.int .u64 (GK s i:Nat)∧f 9=.int .i64 (i:Nat)
theorem Ip (s:List UInt8)(i:Nat)(c:UInt8)(hi:i<8)(hc:s[i]? = some c) :
  bits .or .u64 (GK s i:Int) (IntKind.u64.wrap (IntKind.u64.wrap (c.toNat:Int)*2 ^ min (IntKind.i64.wrap (8*(i:Int))).toNat 64))=(GK s (i+1):Nat):=by
 have e1:IntKind.i64.wrap (8*(i:Int))=((8*i:Nat):Int):=by rw[Qz];omega
 have hp:256 ^ i=2 ^ (8*i):=by rw[Nat.pow_mul]
 have hcl:=c.toNat_lt;have hlt:=Aq s (i+1);have hlt0:=Aq s i;rw[GK,hc]at hlt;simp only[Qo8]at hlt;have h8:256 ^ (i+1)≤256 ^ 8:=Nat.pow_le_pow_right (by omega) (by omega);have h88:(256:Nat) ^ 8=18446744073709551616:=by decide
 have e2:IntKind.u64.wrap (c.toNat:Int)=(c.toNat:Int):=by rw[Jj];omega
 have e3:IntKind.u64.wrap ((c.toNat:Int)*2 ^ (8*i))=((c.toNat*256 ^ i:Nat):Int):=by
  have:((c.toNat*2 ^ (8*i):Nat):Int)=(c.toNat:Int)*2 ^ (8*i):=by push_cast;rfl
  rw[Jj,←this,hp];rw[hp]at hlt;omega
 rw[e1,Qpq,Qpe (by omega),e2,e3,T2 _ _ (by omega) (by omega),GK,hc];congr 1
 rw[hp]at hlt0 ⊢;have:=Nat.two_pow_add_eq_or_of_lt hlt0 c.toNat;simp only[Qo8];rw[Nat.or_comm,Nat.mul_comm c.toNat,←this,Nat.add_comm]
def Ar (s:List UInt8):AV:=if s.length<8 then .tup [.int .u64 0,.int .i64 4]else .tup [.int .u64 (Uf s:Nat),.int .i64 0]
theorem Qfs (s:List UInt8):Qg Tryz.prog 278 [.str s] (Ar s):=by
 refine wF Tryz.func278 ?_;simp only[eK,Tryz.f278,seval];simp only[Qa,seval];refine Q3 (fun h=>?_) (fun h=>?_)
 ·have h:s.length<8:=by(have h:(s.length:Int)<8:=(by simpa using h));omega
  simp only[Ar,h,Qa,seval]
 ·have h:¬s.length<8:=by(have h:¬(s.length:Int)<8:=(by simpa using h));omega
  simp only[Qa,seval];refine Qi (Sk s) _ ⟨_,0,rfl,rfl,by omega,rfl,rfl,rfl⟩ ?_;rintro n st ⟨f,i,rfl,rfl,hi,h0,h4,h9⟩;simp only[h9,Qa,seval];refine Q3 (fun hc=>?_) (fun hc=>?_)
  ·have hc:i<8:=by(have hc:(i:Int)<8:=(by simpa using hc));omega
   have n0:(0≤(i:Int))=True:=by simp
   obtain⟨b,hb⟩:∃b,s[i]? = some b:=⟨s[i],QnX (by omega)⟩;have e1:IntKind.i64.wrap ((i:Int)+1)=((i+1:Nat):Int):=by rw[Qz];omega
   have e0:IntKind.i64.wrap (8*(i:Int))=((8*i:Nat):Int):=by rw[Qz];omega
   have n8:(0≤IntKind.i64.wrap (8*(i:Int)))=True:=eq_true (by rw[e0];omega);have ha:=Ip s i b hc hb;simp only[n0,Qpq,hb,n8,ha,e1,h0,h4,h9,Qa,seval];exact⟨8-(i+1),by omega,_,i+1,rfl,rfl,by omega,by simp only[h0,Qa,seval],by simp only[Qa,seval],by simp only[Qa,seval]⟩
  ·have hc:i=8:=by(have hc:¬(i:Int)<8:=(by simpa using hc));omega
   subst hc;simp only[h4,Qa,seval];rw[Ar,Qn4 h,Io s (by omega)]
theorem Qft (c:C)(hl:c.d.length≤9223372036854770000):Qg Tryz.prog 240 [c.av] (We c.fixed):=by
 refine wF Tryz.func240 ?_;simp only[eK,Tryz.f240,seval];simp only[C.av,eE,seval];refine aC (Qfr c 8 (by omega) hl) ?_;have h8:Uf (c.rest.take 8)=Uf c.rest:=by simp[Uf,Qpd]
 have hlen:(c.rest.take 8).length<8↔c.rest.length<8:=by simp;omega
 by_cases h:c.rest.length<8
 ·have ht:=Qfs (c.rest.take 8);rw[Ar,Qn5 (hlen.2 h)]at ht;refine aC ht ?_;simp only[show(((4:Int) != 0)=true)from rfl,C.fixed,We,h,C.av,eE,seval]
  try rfl
 ·have ht:=Qfs (c.rest.take 8);rw[Ar,Qn4 (fun h'=>h (hlen.1 h')),h8]at ht;refine aC ht ?_;simp only[bne_self_eq_false,eE,seval];refine aC (Sj c 8) ?_;simp only[We,C.fixed,h,C.av,C.ahead,eE,seval]
  try rfl
theorem CU:∀(l:List UInt8),l.foldr (fun b v=>256*v+b.toNat) 0<256 ^ l.length
 | []=>by simp
 |b :: l=>by
  have h:=CU l;have hb:=b.toNat_lt;rw[List.foldr_cons,Qoc,Nat.pow_succ];omega
def LN (n:Int):Prop:=-9223372036854775808≤n∧n<9223372036854775808
def ZV (c:C):Int×C×Nat:=match c.rest with
 | []=>(0,c,4)
 |b :: _=>((b.toNat:Int),c.ahead 1,0)
def Sl (r:Int×C×Nat):AV:=.tup [.int .u8 r.1,r.2.1.av,.int .i64 (r.2.2:Nat)]
def text (c:C)(n:Int):List UInt8×C×Nat :=
 if n<0 then([],c,1)else if c.left<n then([],c,4)else if c.tx<n then([],c,3)else(c.rest.take n.toNat,c.ahead n,0)
def Sm (r:List UInt8×C×Nat):AV:=.tup [.str r.1,r.2.1.av,.int .i64 (r.2.2:Nat)]
def enter (c:C)(n:Int):C×Nat :=
 if n<0 then(c,1)else if c.left<n then(c,4)else if c.dp<1 then(c,17)else({ c with e:=IntKind.i64.wrap (c.a+n),dp:=IntKind.i64.wrap (c.dp-1) },0)
def WS (c i:C):C :=
 if ¬c.sound=true∨i.e<c.a∨c.e<i.e∨i.nd<0∨c.nd<i.nd then c else { c with a:=i.e,nd:=i.nd }
theorem N2 {c:C}{b:UInt8}{t:List UInt8}(h:c.rest=b :: t):c.sound=true∧0≤c.a∧c.d[c.a.toNat]? = some b∧1≤c.left:=by
 have hs:c.sound=true:=by
  cases hs:c.sound with
  |true=>rfl
  |false=>rw[C.rest_no hs]at h;cases h
 have hh:=(C.sound_iff c).1 hs;rw[C.rest_of hs]at h;have h0:=congrArg (fun l=>l[0]?) h;simp only[QoC,QoD,Qo0,Qou]at h0;have hl:=congrArg List.length h;simp only[QoU,QoE,Qoc]at hl;refine⟨hs,hh.1,?_,?_⟩
 ·split at h0
  ·exact h0
  ·cases h0
 ·have:=c.rest_len;rw[Qn5 hs]at this;omega
theorem Qk5 (c:C)(hl:c.d.length≤9223372036854775807):Qg Tryz.prog 235 [c.av] (Sl (ZV c)):=by
 refine wF Tryz.func235 ?_;simp only[eK,Tryz.f235,seval];simp only[C.av,eE,seval];refine aC (N0 c hl) ?_;unfold ZV;cases hr:c.rest with
 |nil=>
  have h0:c.left=0:=by unfold C.left;rw[hr]<;>rfl
  have d0:decide (c.left<1)=true:=by rw[h0]<;>rfl
  simp only[d0,Sl,C.av,eE,seval]
  try rfl
 |cons b t=>
  obtain⟨h1,h2,h3,h4⟩:=N2 hr;have d0:decide (c.left<1)=false:=by simp;omega
  have n1:(0≤c.a)=True:=eq_true h2;simp only[d0,n1,h3,eE,seval];refine aC (Sj c 1) ?_;simp only[Sl,C.av,C.ahead,eE,seval]
  try rfl
theorem Qk6 (c:C)(n:Nat)(hs:c.sound=true)(hn:(n:Int)≤c.left)(hl:c.d.length≤9223372036854775807):Qg Tryz.prog 295 [c.av,.int .i64 (n:Int)] (.list (Qu (c.rest.take n))):=by
 have h:=(C.sound_iff c).1 hs;have hr:=c.rest_len;rw[Qn5 hs]at hr;have e1:IntKind.i64.wrap (c.a+n)=c.a+n:=by rw[Qz];omega
 have n1:(0≤c.a)=True:=eq_true h.1;have n2:(0≤c.a+(n:Int))=True:=eq_true (by omega);have n3:(c.a.toNat≤(c.a+(n:Int)).toNat∧(c.a+(n:Int)).toNat≤c.d.length)=True:=eq_true (by omega);have n0:(0≤(n:Int))=True:=by simp
 have ht:(c.d.drop c.a.toNat).take ((c.a+(n:Int)).toNat-c.a.toNat)=c.rest.take n:=by
  rw[C.rest_of hs,Qpd];congr 1
  omega
 have hlen:(c.rest.take n).length=n:=by
  have:(c.rest.length:Int)=c.left:=rfl;rw[QoU];omega
 refine wF Tryz.func295 ?_;simp only[eK,Tryz.f295,seval];simp only[e1,n1,n2,n3,ht,C.av,eE,seval];refine EJ rfl (by rw[hlen];omega) rfl ?_;have hb:(Qu (c.rest.take n)).length=n:=by rw[Qu,QoS,hlen]
 have n4:(0+0+(n-0)≤(Qu (c.rest.take n)).length)=True:=eq_true (by rw[hb];omega);have n5:(n≤n)=True:=eq_true (QnV n);have n6:(0≤n)=True:=eq_true (Qn6 n);have h5:((Qu (c.rest.take n)).drop (0+0)).take (n-0)=Qu (c.rest.take n):=by
  simp only[Qou,QoF,QoW];exact Qox (by rw[hb];exact QnV _)
 simp only[n0,n4,n5,n6,hlen,Qpq,QpR,Qp1,bne_self_eq_false,eE,seval];rw[Qox (by rw[hb];omega)]
theorem Qk7 (c:C)(n:Int)(ha:LN c.a)(hl:c.d.length≤9223372036854775807):Qg Tryz.prog 275 [c.av,.int .i64 n] (Sm (text c n)):=by
 refine wF Tryz.func275 ?_;simp only[eK,Tryz.f275,seval];simp only[C.av,eE,seval];by_cases h1:n<0
 ·have d1:decide (n<0)=true:=by simpa using h1
  simp only[d1,eE,seval];rw[text,Qn5 h1];rfl
 ·have d1:decide (n<0)=false:=by simpa using h1
  simp only[d1,eE,seval];refine aC (N0 c hl) ?_;by_cases h2:c.left<n
  ·have d2:decide (c.left<n)=true:=by simpa using h2
   simp only[d2,eE,seval];rw[text,Qn4 h1,Qn5 h2];rfl
  ·have d2:decide (c.left<n)=false:=by simpa using h2
   by_cases h3:c.tx<n
   ·have d3:decide (c.tx<n)=true:=by simpa using h3
    simp only[d2,d3,eE,seval];rw[text,Qn4 h1,Qn4 h2,Qn5 h3];rfl
   ·have d3:decide (c.tx<n)=false:=by simpa using h3
    by_cases h4:n=0
    ·subst h4;simp only[d2,d3,Qo7,eE,seval];rw[text,Qn4 h1,Qn4 h2,Qn4 h3];have e:IntKind.i64.wrap (c.a+0)=c.a:=by rw[Qz];unfold LN at ha;omega
     simp only[Sm,C.ahead,C.av,e,Int.toNat_zero,Qo6];rfl
    ·have d4:(n==0)=false:=by simpa using h4
     simp only[d2,d3,d4,eE,seval];obtain⟨k,rfl⟩:=QpH (show 0≤n by omega);have hs:c.sound=true:=by
      have hr:=c.rest_len;split at hr
      ·assumption
      ·omega
     refine aC (Qk6 c k hs (by omega) hl) ?_;have hb:=YU (c.rest.take k);have hb:bytesOf (Qu (c.rest.take k))=some (c.rest.take k):=hb;simp only[Xi,hb,eE,seval];refine aC (Sj c (k:Int)) ?_;rw[text,Qn4 h1,Qn4 h2,Qn4 h3];simp only[Sm,C.av,C.ahead,Qpq,eE,seval]
     try rfl
theorem Qk8 (c:C)(n:Int)(hl:c.d.length≤9223372036854775807):Qg Tryz.prog 273 [c.av,.int .i64 n] (Hd (enter c n)):=by
 refine wF Tryz.func273 ?_;simp only[eK,Tryz.f273,seval];simp only[C.av,eE,seval];by_cases h1:n<0
 ·have d1:decide (n<0)=true:=by simpa using h1
  simp only[d1,eE,seval];rw[enter,Qn5 h1];rfl
 ·have d1:decide (n<0)=false:=by simpa using h1
  simp only[d1,eE,seval];refine aC (N0 c hl) ?_;simp only[Qa,seval]
  repeat' (first|(refine Q3 (fun h=>?_) (fun h=>?_)<;>simp only[h,eE,seval])|(refine XZ (fun h=>?_) (fun h=>?_)<;>simp only[h,Ql,eE,seval])|(refine X0 (fun h=>?_) (fun h=>?_)<;>simp only[h,Ql,eE,seval]))
  all_goals((try simp only[Qn1,QpZ]at *)<;>unfold enter<;>(repeat' split)<;>first|rfl|(exfalso;omega))
theorem Qk9 (c i:C):Qg Tryz.prog 274 [c.av,i.av] (WS c i).av:=by
 refine wF Tryz.func274 ?_;simp only[eK,Tryz.f274,seval];simp only[C.av,eE,seval];refine aC (Im c) ?_;unfold WS;cases hs:c.sound with
 |false=>simp only[Qog,not_false_eq_true,true_or,eE,seval]
 |true=>
  simp only[eE,seval]
  repeat' (first|(refine Q3 (fun h=>?_) (fun h=>?_)<;>simp only[h,eE,seval])|(refine XZ (fun h=>?_) (fun h=>?_)<;>simp only[h,Ql,eE,seval])|(refine X0 (fun h=>?_) (fun h=>?_)<;>simp only[h,Ql,eE,seval]))
  all_goals((try simp only[Qn1,QpZ]at *)<;>(first|rw[Qn4 (by simp;omega)]|rw[Qn5 (by simp;omega)]))
open Up
theorem c84 (w:Int):Qg Tryz.prog 84 [.int .i64 w] (.bool (Zb w)):=by
 refine wF Tryz.func84 ?_;simp only[eK,Tryz.f84,seval];simp only[Qa,seval]
 repeat' (first|(refine Q3 (fun h=>?_) (fun h=>?_)<;>simp only[h,eE,seval])|(refine XZ (fun h=>?_) (fun h=>?_)<;>simp only[h,Ql,eE,seval])|(refine X0 (fun h=>?_) (fun h=>?_)<;>simp only[h,Ql,Qa,seval]))
 all_goals simp_all[Zb]
theorem Au {n w:Int}(h:¬(n<1∨65535<n∨w<0∨6<w)):IntKind.u64.wrap (IntKind.i64.wrap (IntKind.i64.wrap (n*8)+w))=((n*8+w).toNat:Nat)∧(n*8+w).toNat<18446744073709551616:=by
 simp only[Jj,Qz];omega
theorem c81 (n w:Int):Qg Tryz.prog 81 [.int .i64 n,.int .i64 w] (Sf (ZR n w)):=by
 refine wF Tryz.func81 ?_;simp only[eK,Tryz.f81,seval];simp only[Qa,seval];by_cases hb:n<1∨65535<n∨w<0∨6<w
 ·repeat' (first|(refine Q3 (fun h=>?_) (fun h=>?_)<;>simp only[h,Qa,seval])|(refine XZ (fun h=>?_) (fun h=>?_)<;>simp only[h,Ql,eE,seval])|(refine X0 (fun h=>?_) (fun h=>?_)<;>simp only[h,Ql,Qa,seval]))
  all_goals first
   |(rw[ZR,Qn5 hb]<;>rfl)
   |(exfalso;simp only[QpZ]at *;omega)
 ·obtain⟨e1,e2⟩:=Au hb;have d1:decide (n<1)=false:=by simp;omega
  have d2:decide (65535<n)=false:=by simp;omega
  have d3:decide (w<0)=false:=by simp;omega
  have d4:decide (6<w)=false:=by simp;omega
  simp only[d1,d2,d3,d4,e1,Qa,seval];refine aC (LM _ e2) ?_;rw[ZR,Qn4 hb];simp only[Sf,Qa,seval]
  try rfl
theorem Iq {u:Nat}(h:¬(u / 8<1∨65535<u / 8)):IntKind.i64.wrap (IntKind.u64.wrap ((u:Int).tdiv 8))=((u / 8:Nat):Int)∧IntKind.i64.wrap ((u:Int).tmod 8)=((u % 8:Nat):Int):=by
 have e1:(u:Int).tdiv 8=((u / 8:Nat):Int):=by rw[Int.tdiv_eq_ediv_of_nonneg (by omega)];omega
 have e2:(u:Int).tmod 8=((u % 8:Nat):Int):=by rw[Int.tmod_eq_emod_of_nonneg (by omega)];omega
 rw[e1,e2];simp only[Jj,Qz];omega
theorem c92 (c:C)(hl:c.d.length≤9223372036854770000):Qg Tryz.prog 92 [c.av] (NT (QF c)):=by
 refine wF Tryz.func92 ?_;simp only[eK,Tryz.f92,seval];simp only[C.av,eE,seval];refine aC (Nn c hl) ?_;have hv:=fun h=>Z4 (c:=c) (by omega) h
 unfold QF;generalize c.varint=r at hv ⊢;obtain⟨u,d,e⟩:=r;simp only[We,C.av,eE,seval]at hv ⊢;refine Q3 (fun h=>?_) (fun h=>?_)
 ·have h:¬e=0:=by simpa using h
  simp only[h,NT,C.av,eE,seval]
 ·have h:e=0:=by simpa using h
  subst h;obtain⟨n,_,_,_,_,_,_,hu⟩:=hv rfl;have e1:(u:Int).tdiv 8=((u / 8:Nat):Int):=by rw[Int.tdiv_eq_ediv_of_nonneg (by omega)];omega
  have e2:(u:Int).tmod 8=((u % 8:Nat):Int):=by rw[Int.tmod_eq_emod_of_nonneg (by omega)];omega
  have e3:IntKind.u64.wrap ((u / 8:Nat):Int)=((u / 8:Nat):Int):=by rw[Jj];omega
  simp only[e2,show(((8:Int)=0))=False from by simp,Qa,seval];refine Q3 (fun h=>?_) (fun h=>?_)
  ·have h:u % 8=7:=by(have h:((u % 8:Nat):Int)=7:=(by simpa using h));omega
   simp only[h,NT,C.av,eE,seval]
   try rfl
  ·have h7:¬u % 8=7:=by(have h:¬((u % 8:Nat):Int)=7:=(by simpa using h));omega
   simp only[e1,e3,show(((8:Int)=0))=False from by simp,Qa,seval];by_cases hb:u / 8<1∨65535<u / 8
   ·repeat' (first|(refine Q3 (fun h=>?_) (fun h=>?_)<;>simp only[h,e1,e2,e3,show(((8:Int)=0))=False from by simp,eE,seval])|(refine XZ (fun h=>?_) (fun h=>?_)<;>simp only[h,Ql,e1,e2,e3,show(((8:Int)=0))=False from by simp,if_false,eE,seval])|(refine X0 (fun h=>?_) (fun h=>?_)<;>simp only[h,Ql,e1,e3,show(((8:Int)=0))=False from by simp,eE,seval]))
    all_goals first
     |(simp only[h7,hb,NT,C.av,seval]<;>rfl)
     |(exfalso;simp only[QpZ]at *;omega)
   ·obtain⟨t1,t2⟩:=Iq hb;rw[e1,e3]at t1;rw[e2]at t2;have d1:decide (((u / 8:Nat):Int)<1)=false:=by simp;omega
    have d2:decide (65535<((u / 8:Nat):Int))=false:=by simp;omega
    simp only[d1,d2,e1,e2,e3,t1,t2,show(((8:Int)=0))=False from by simp,eE,seval];simp only[h7,hb,NT,C.av,seval]
    try rfl
theorem Qfv {c d:C}{u:Nat}(hl:c.d.length≤9223372036854770000)(hd:c.varint=(u,d,0))(hu:¬d.left<(u:Int)) :
  d.a+u≤d.d.length∧0≤d.a∧(u:Int)≤9223372036854770000∧d.d.length=c.d.length:=by
 obtain⟨n,h1,h2,h3,h4,h5,h6,h7⟩:=Z4 (c:=c) (by omega) (by rw[hd]);rw[hd]at h4 h6;simp only at h4 h6;have hs:=(C.sound_iff d).1 h6;have hr:=d.rest_len;rw[Qn5 h6]at hr;have:d.d=c.d:=by rw[h4]
 have e:d.d.length=c.d.length:=by rw[this]
 omega
theorem Qcy {c d:C}{u:Nat}(hl:c.d.length≤9223372036854770000)(hd:c.varint=(u,d,0)):d.d.length≤9223372036854770000:=by
 obtain⟨n,h1,h2,h3,h4,h5,h6,h7⟩:=Z4 (c:=c) (by omega) (by rw[hd]);rw[hd]at h4;simp only at h4;rw[h4];exact hl
theorem Sn (d:C):0≤d.left∧d.left≤(d.d.length:Int):=by
 have hr:=d.rest_len;have hs:=C.sound_iff d;split at hr
 ·rename_i h;have:=hs.1 h;omega
 ·omega
theorem Qla (c:C)(w:Int)(hl:c.d.length≤9223372036854770000):Qg Tryz.prog 241 [c.av,.int .i64 w] (GF (JY c w)):=by
  refine wF Tryz.func241 ?_;simp only[eK,Tryz.f241,seval];simp only[C.av,eE,seval];refine aC (Nn c hl) ?_;have hdl:=fun u d h=>Qcy (c:=c) (d:=d) (u:=u) hl h
  have hcut:=fun u d h hu=>Qfv (c:=c) (d:=d) (u:=u) hl h hu
  unfold JY;generalize c.varint=r at hcut hdl ⊢;obtain⟨u,d,e⟩:=r;simp only[We,C.av,eE,seval];refine Q3 (fun h=>?_) (fun h=>?_)
  · have h:¬e=0:=by simpa using h
    simp only[h,GF,C.av,eE,seval]
  · have h:e=0:=by simpa using h
    subst h;have hcut:=hcut u d rfl;have hdl:=hdl u d rfl;have hlf:=Sn d;have e0:IntKind.u64.wrap d.left=d.left:=by rw[Jj];omega
    by_cases hw:w=3
    all_goals
      first
        |(have dw:(w==3)=true:=by rw[hw]<;>rfl)
        |(have dw:(w==3)=false:=by simpa using hw)
      simp only[dw,eE,seval];refine aC (N0 d (by omega)) ?_;by_cases hu:d.left<(u:Int)
      · have d1:decide (d.left<(u:Int))=true:=by simpa using hu
        simp only[e0,hu,GF,C.av,eE,seval]
        try rfl
      · have d1:decide (d.left<(u:Int))=false:=by simpa using hu
        obtain⟨k1,k2,k3,k4⟩:=hcut hu;have e1:IntKind.i64.wrap (u:Int)=u:=by rw[Qz];omega
        have e2:IntKind.i64.wrap (d.a+(u:Int))=d.a+u:=by rw[Qz];omega
        have n1:(0≤d.a)=True:=eq_true k2;have n2:(0≤d.a+(u:Int))=True:=eq_true (by omega);have n3:(d.a.toNat≤(d.a+(u:Int)).toNat∧(d.a+(u:Int)).toNat≤d.d.length)=True:=eq_true (by omega);have n4:(d.a+(u:Int)).toNat-d.a.toNat=u:=by omega
        first
          | (rw[Qn5 hw]
             by_cases hm:c.tx<(u:Int)
             · have d2:decide (c.tx<(u:Int))=true:=by simpa using hm
               simp only[e0,e1,hu,hm,GF,C.av,eE,seval]
               try rfl
             · have d2:decide (c.tx<(u:Int))=false:=by simpa using hm
               simp only[e0,e1,e2,n1,n2,n3,n4,hu,hm,GF,C.av,C.ahead,eE,seval]
               try rfl)
          | (rw[Qn4 hw]
             by_cases hm:65536<(u:Int)
             · have d2:decide (65536<(u:Int))=true:=by simpa using hm
               simp only[e0,e1,hu,hm,GF,C.av,eE,seval]
               try rfl
             · have d2:decide (65536<(u:Int))=false:=by simpa using hm
               simp only[e0,e1,e2,n1,n2,n3,n4,hu,hm,GF,C.av,C.ahead,eE,seval]
               try rfl)
theorem Qlb (c:C)(f:R)(s:Nat)(fr:Nat→Ob)(m:Qj)(hs:fr s=.cells f.av.cells)(hl:c.d.length≤9223372036854770000) :
  Qe Tryz.prog 183 [c.av,.ptr 0 s 0] (fr :: m) fun x m1=>x=Hd (Zl c f).2∧m1=QI fr s (.cells (Zl c f).1.av.cells) :: m:=by
 refine wG Tryz.func183 ?_;simp only[eK,Tryz.f183,seval];simp only[R.av,AV.cells]at hs;simp only[C.av,hs,eE,seval];by_cases h0:f.wire=0
 ·have d0:(f.wire==0)=true:=by simpa using h0
  simp only[d0,eE,seval];refine aC (Nn c hl) ?_;simp only[We,hs,C.av,eE,seval];refine⟨?_,?_⟩
  ·simp only[Zl,Hd,h0,C.av,seval]
   try rfl
  ·simp only[Zl,h0,R.av,TB,seval]
   try rfl
 ·have d0:(f.wire==0)=false:=by simpa using h0
  by_cases h1:f.wire=1
  ·have d1:(f.wire==1)=true:=by simpa using h1
   simp only[d0,d1,eE,seval];refine aC (Nn c hl) ?_;simp only[We,hs,C.av,eE,seval];refine⟨?_,?_⟩
   ·simp only[Zl,Hd,h1,C.av,seval]
    try rfl
   ·simp only[Zl,h1,R.av,TB,seval]
    try rfl
  ·have d1:(f.wire==1)=false:=by simpa using h1
   by_cases h2:f.wire=2
   ·have d2:(f.wire==2)=true:=by simpa using h2
    simp only[d0,d1,d2,eE,seval];refine aC (Qft c hl) ?_;simp only[We,hs,C.av,eE,seval];refine⟨?_,?_⟩
    ·simp only[Zl,Hd,h2,C.av,seval]
    ·simp only[Zl,h2,R.av,TB,seval]
   ·have d2:(f.wire==2)=false:=by simpa using h2
    have hc:Zl c f=({ f with data:=(JY c f.wire).1 },(JY c f.wire).2.1,(JY c f.wire).2.2):=by
     simp only[Zl,h0,h1,h2,if_false,or_self]
    simp only[d0,d1,d2,hs,eE,seval];refine aC (Qla c f.wire hl) ?_;rw[hc];simp only[GF,hs,C.av,eE,seval];exact⟨rfl,rfl⟩
theorem Qcz {c:C}(hl:c.d.length≤9223372036854770000):(QF c).2.2.1.d.length≤9223372036854770000:=by
 unfold QF;simp only;split
 ·rename_i h0;split
  ·exact hl
  ·split
   ·exact hl
   ·obtain⟨n,_,_,_,h4,_⟩:=Z4 (c:=c) (by omega) h0;show c.varint.2.1.d.length≤_;rw[h4];exact hl
 ·exact hl
theorem Av {c:C}{n:Int}(hl:c.d.length≤9223372036854770000):(c.spend n).1.d.length≤9223372036854770000:=by
 unfold C.spend;split
 ·exact hl
 ·split<;>exact hl
theorem c94 (c:C)(hl:c.d.length≤9223372036854770000):Qg Tryz.prog 94 [c.av] (Nf (XJ c)):=by
 refine wF Tryz.func94 ?_;simp only[eK,Tryz.f94,seval];simp only[C.av,eE,seval];refine aC (c92 c hl) ?_;have htl:=Qcz hl;unfold XJ;generalize QF c=t at htl ⊢;obtain⟨num,wire,d,e⟩:=t;simp only[NT,C.av,eE,seval]at htl ⊢;by_cases he:e=0
 ·subst he;simp only[eE,seval];refine aC (c90 d 1) ?_;have hsl:=Av (n:=1) htl;generalize d.spend 1=sp at hsl ⊢;obtain⟨d2,e2⟩:=sp;simp only[Hd,C.av,eE,seval]at hsl ⊢;by_cases he2:e2=0
  ·subst he2;simp only[eE,seval];refine Qh (Qlb d2 ⟨num,wire,0,[]⟩ 9 _ _ ?_ hsl) rfl ?_
   ·simp only[R.av,eE,seval]
    try rfl
   ·generalize Zl d2 ⟨num,wire,0,[]⟩=k;obtain⟨f,d3,e3⟩:=k;simp only[Hd,C.av,R.av,eE,seval];by_cases he3:e3=0
    ·subst he3;simp only[Nf,R.av,C.av,eE,seval]
     try rfl
    ·simp only[Xb he3,he3,Nf,zr,R.av,C.av,eE,seval]
     try rfl
  ·simp only[Xb he2,he2,Nf,zr,R.av,C.av,eE,seval]
   try rfl
 ·simp only[Xb he,he,Nf,zr,R.av,C.av,eE,seval]
  try rfl
end Go.Proofs.YtgnfjkkfbcnbfaaGreatDoor.Va
namespace Go.Proofs.YtgnfjkkfbcnbfaaGreatDoor.Va
open Go Am Rc Bt
def UN (u:Int):Int:=if 0≤u then 2*u else -2*u-1
def PT (u:Int):Int:=if u % 2=0 then u / 2 else -(u / 2)-1
theorem Qlc (u:Int)(h0 : -9223372036854775808≤u)(h1:u<9223372036854775808):Qg Tryz.prog 272 [.int .i64 u] (.int .u64 (UN u)):=by
 refine wF Tryz.func272 ?_;simp only[eK,Tryz.f272,seval];simp only[Kj,seval];congr 1
 simp only[show min 63 64=63 from rfl,show min 1 64=1 from rfl,seval,Jj,UN,Qqf _ (show(0:Int)≤9223372036854775808 by decide)];by_cases h:0≤u
 ·rw[show u / 9223372036854775808=0 by omega,Qn5 h,show(0:Int) % 18446744073709551616=0 from rfl,Ch _ (by omega) (by omega)];omega
 ·rw[show u / 9223372036854775808 = -1 by omega,Qn4 h,show(-1:Int) % 18446744073709551616=18446744073709551615 from rfl,Ci _ (by omega) (by omega)];omega
theorem Qld (u:Int)(h0:0≤u)(h1:u<18446744073709551616):Qg Tryz.prog 276 [.int .u64 u] (.int .i64 (PT u)):=by
 refine wF Tryz.func276 ?_;simp only[eK,Tryz.f276,seval];simp only[Kj,seval];congr 1
 simp only[show min 1 64=1 from rfl,M7 u h0 h1,Qz,PT,Qqf _ (show(0:Int)≤2 ^ 1 by decide)];by_cases h:u % 2=0
 ·rw[h,Qn5 rfl];rw[show(0-((0+9223372036854775808) % 18446744073709551616-9223372036854775808)+9223372036854775808) % 18446744073709551616-9223372036854775808=(0:Int)by decide];rw[Cj _ (by omega) (by omega)];omega
 ·have h':u % 2=1:=by omega
  rw[h',Qn4 (by decide)];rw[show(0-((1+9223372036854775808) % 18446744073709551616-9223372036854775808)+9223372036854775808) % 18446744073709551616-9223372036854775808=(-1:Int)by decide];rw[Ck _ (by omega) (by omega)];omega
theorem HN (u:Int):0≤UN u:=by unfold UN;split<;>omega
theorem Qfw (u:Int)(h0 : -9223372036854775808≤u)(h1:u<9223372036854775808):UN u<18446744073709551616:=by unfold UN;split<;>omega
theorem QcA (u:Int):PT (UN u)=u:=by unfold PT UN;split<;>split<;>omega
open Br Up So Vp Cp
abbrev Rd (α:Type):=Except Nat (α×C)
def spd (c:C)(n:Int):Except Nat C:=if (c.spend n).2=0 then .ok (c.spend n).1 else .error (c.spend n).2
def Wr (c:C):Rd Nat :=
 if c.varint.2.2=0 then(if c.varint.2.1.left<(c.varint.1:Int)then .error 4 else .ok (c.varint.1,c.varint.2.1))else .error c.varint.2.2
def Jp (w:Int)(c:C):Rd R :=
 if w=3 then match Wr c with
  |.error e=>.error e
  |.ok (n,d)=>if (text d n).2.2=0 then .ok (⟨0,w,0,(text d n).1⟩,(text d n).2.1)else .error (text d n).2.2
 else if w=2 then(if c.fixed.2.2=0 then .ok (⟨0,w,c.fixed.1,[]⟩,c.fixed.2.1)else .error c.fixed.2.2)
 else if c.varint.2.2=0 then .ok (⟨0,w,c.varint.1,[]⟩,c.varint.2.1)else .error c.varint.2.2
def XX (w:Int)(b:Nat):Nat:=if w=1 then(IntKind.u64.wrap (PT b)).toNat else b
def QD (k:Int)(b:Nat)(t:List UInt8):V:=.mk k b t [] [] [] []
def Xk (P:PL)(k t:Int)(f:R):V×Nat :=
 if isk k=true then
  if f.wire=wk k then
   if f.wire=3 then(if k=7∧YK f.data=false then(QD 0 0 [],7)else(QD k 0 f.data,0))
   else if Kz k (XX f.wire f.bits)=true then
    (if k=9∧WO P.enums t (XX f.wire f.bits)=false then(QD 0 0 [],16)else(QD k (Xu k (XX f.wire f.bits)) [],0))
   else(QD 0 0 [],6)
  else(QD 0 0 [],13)
 else(QD 0 0 [],12)
def QZ (l:List V):V:=.mk 11 0 [] l [] [] []
def Jy (p:List (V×V)):V:=.mk 12 0 [] [] p [] []
def XV (v:V)(n:Int):Option V:=(v.slots.find? fun s=>s.1==n).map Prod.snd
def QW (v:V)(n:Int):V:=(XV v n).getD (QD 0 0 [])
def Xy (g:PG)(o:PO)(s:Int×V):Bool:=s.1==o.num||(match Xv g s.1 with
 |some q=>decide (o.union≥0)&&q.union==o.union
 |none=>false)
def XK (g:PG)(v:V)(o:PO)(x:V):V:=.mk 10 0 [] [] [] (v.slots.filter (fun s=>!Xy g o s)++[(o.num,x)]) v.raws
def YA (v:V)(f:R):V:=.mk v.kd v.bits v.text v.list v.pairs v.slots (v.raws++[f])
def KE (P:PL)(g:PG)(v:V)(o:PO)(c:C):Rd V :=
 match spd c 1 with
 |.error e=>.error e
 |.ok c1=>match Jp (wk o.kind) c1 with
  |.error e=>.error e
  |.ok (f,d)=>
   if (Xk P o.kind o.target f).2=16 then .ok (YA v ⟨o.num,0,f.bits,[]⟩,d)
   else if (Xk P o.kind o.target f).2=0 then
    if o.card=4 then
     if (XV v o.num).isSome=true then .ok (XK g v o (QZ ((QW v o.num).list++[(Xk P o.kind o.target f).1])),d)
     else match spd d 1 with
      |.error e=>.error e
      |.ok d1=>.ok (XK g v o (QZ ((QW v o.num).list++[(Xk P o.kind o.target f).1])),d1)
    else .ok (XK g v o (Xk P o.kind o.target f).1,d)
   else .error (Xk P o.kind o.target f).2
section
variable (rec:Int→V→C→Rd V)
def W6 (t:Int)(b:V)(k:Int)(c:C):Rd V :=
 match Wr c with
 |.error e=>.error e
 |.ok (n,d)=>
  if (enter d n).2=0 then
   match spd (enter d n).1 k with
   |.error e=>.error e
   |.ok i=>match rec t b i with
    |.error e=>.error e
    |.ok (x,j)=>.ok (x,WS d j)
  else .error (enter d n).2
def KS (g:PG)(v:V)(o:PO)(c:C):Rd V :=
 if o.card=4 then
  match W6 rec o.target (QD 10 0 []) (if (XV v o.num).isSome=true then 1 else 2) c with
  |.error e=>.error e
  |.ok (x,d)=>.ok (XK g v o (QZ ((QW v o.num).list++[x])),d)
 else
  match W6 rec o.target (if (XV v o.num).isSome=true then QW v o.num else QD 10 0 []) 1 c with
  |.error e=>.error e
  |.ok (x,d)=>.ok (XK g v o x,d)
end
def part (c:C)(n:Nat):C:={ c with e:=IntKind.i64.wrap (c.a+n) }
def JP (c i:C):C:={ c with a:=i.e,nd:=i.nd }
def Jq (P:PL)(g:PG)(o:PO):Nat→V→C→Rd V
 |0,v,c=>.ok (v,c)
 |k+1,v,c=>if 0<c.left then(match KE P g v o c with
   |.error e=>.error e
   |.ok (w,d)=>Jq P g o k w d)else .ok (v,c)
def WT (P:PL)(g:PG)(v:V)(o:PO)(d:C)(i:C):Rd V :=
 match Jq P g o i.left.toNat v i with
 |.error e=>.error e
 |.ok (w,j)=>.ok (w,JP d j)
def WU (P:PL)(g:PG)(v:V)(o:PO)(c:C):Rd V :=
 match Wr c with
 |.error e=>.error e
 |.ok (n,d)=>
  if (ZV (part d n)).2.2=0 then
   if (ZV (part d n)).1=wk o.kind then
    if (XV v o.num).isSome=true then WT P g v o d (ZV (part d n)).2.1
    else match spd (ZV (part d n)).2.1 1 with
     |.error e=>.error e
     |.ok i=>WT P g (XK g v o (QZ [])) o d i
   else .error 13
  else .error (ZV (part d n)).2.2
def ZI (k:Int)(l:List (V×V))(x:V×V):List (V×V):=QX k ((l.filter fun q=>!Xz q.1 x.1)++[x])
section
variable (P:PL)(rec:Int→V→C→Rd V)
def ZD (k t w:Int)(c:C):Rd V :=
 if w=wk k then
  if k=10 then W6 rec t (QD 10 0 []) 0 c
  else match Jp w c with
   |.error e=>.error e
   |.ok (f,d)=>if (Xk P k t f).2=0 then .ok ((Xk P k t f).1,d)else .error (Xk P k t f).2
 else .error 13
def Jz (o:PO):Nat→V×V→Bool→Bool→C→Rd (V×V)
 |0,x,_,_,c=>.ok (x,c)
 |n+1,x,a,b,c=>
  if 0<c.left then
   if (QF c).2.2.2=0 then
    if (QF c).1=1 then
     if a=true then .error 9
     else match ZD P rec o.key (-1) (QF c).2.1 (QF c).2.2.1 with
      |.error e=>.error e
      |.ok (y,d)=>Jz o n (y,x.2) true b d
    else if (QF c).1=2 then
     if b=true then .error 9
     else match ZD P rec o.kind o.target (QF c).2.1 (QF c).2.2.1 with
      |.error e=>.error e
      |.ok (y,d)=>Jz o n (x.1,y) a true d
    else .error 18
   else .error (QF c).2.2.2
  else .ok (x,c)
def J7 (g:PG)(v:V)(o:PO)(c:C):Rd V :=
 match Wr c with
 |.error e=>.error e
 |.ok (n,d)=>match spd (part d n) (if (XV v o.num).isSome=true then 2 else 3)with
  |.error e=>.error e
  |.ok i=>match Jz P rec o i.left.toNat (QD o.key 0 [],QD o.kind 0 []) false false i with
   |.error e=>.error e
   |.ok (x,j)=>.ok (XK g v o (Jy (ZI o.key (QW v o.num).pairs x)),JP d j)
def Zr (g:PG)(v:V)(o:PO)(w:Int)(c:C):Rd V :=
 if o.card=5 then(if w=6 then J7 P rec g v o c else .error 13)
 else if w=5∧pk o.card o.kind=true then WU P g v o c
 else if w=wk o.kind then(if o.kind=10 then KS rec g v o c else KE P g v o c)
 else .error 13
end
def X9 (P:PL)(rec:Int→V→C→Rd V)(t:Int):Nat→V→C→Rd V
 |0,v,c=>.ok (v,c)
 |k+1,v,c=>
  if 0<c.left then
   if (QF c).2.2.2=0 then
    match Xv (Qk P t) (QF c).1 with
    |none=>if (XJ c).2.2=0 then X9 P rec t k (YA v (XJ c).1) (XJ c).2.1 else .error (XJ c).2.2
    |some o=>match Zr P rec (Qk P t) v o (QF c).2.1 (QF c).2.2.1 with
     |.error e=>.error e
     |.ok (w,d)=>X9 P rec t k w d
   else .error (QF c).2.2.2
  else .ok (v,c)
def Wg (P:PL):Nat→Int→V→C→Rd V
 |0,_,v,c=>.ok (v,c)
 |n+1,t,v,c=>X9 P (Wg P n) t c.left.toNat v c
end Go.Proofs.YtgnfjkkfbcnbfaaGreatDoor.Va
namespace Go.Proofs.YtgnfjkkfbcnbfaaGreatDoor.Va
open Go Am Rc Bt Vp Cp Up
def sg:Nat→C→List R×Nat
 |0,_=>([],0)
 |k+1,c=>
  if 0<c.left then
   let r:=XJ c
   if r.2.2=0 then
    let t:=sg k r.2.1
    if t.2=0 then(r.1 :: t.1,0)else([],t.2)
   else([],r.2.2)
  else([],0)
def Qle (s:List UInt8)(l:L):List R×Nat :=
 let o:=opn s l
 if o.2=0 then sg s.length o.1 else([],o.2)
def Bk (l:List R):List AV:=l.map R.av
theorem QcB (a:List R):(Bk a).length=a.length:=by simp[Bk]
theorem HO {c:C}(hl:c.d.length≤9223372036854775807)(h:c.fixed.2.2=0):c.sound=true∧8≤c.left∧c.fixed.2.1={ c with a:=c.a+8 }∧c.fixed.1<2 ^ 64:=by
 unfold C.fixed at h ⊢;split at h
 ·cases h
 ·rename_i hr;have hne:c.rest≠[]:=by intro e;rw[e]at hr;simp at hr
  have hs:=CF hne;have hs':=(C.sound_iff c).1 hs;have hle:=c.rest_len;rw[Qn5 hs]at hle;have h8:8≤c.left:=by unfold C.left;omega
  have hw:IntKind.i64.wrap (c.a+8)=c.a+8:=by rw[Qz];omega
  refine⟨hs,h8,?_,?_⟩
  ·rw[Qn4 hr];simp only[C.ahead,hw]
  ·rw[Qn4 hr];have h1:=CU (c.rest.take 8);rw[QoU,Qpe (by omega)]at h1;have:(256:Nat) ^ 8=2 ^ 64:=by decide
   show Uf c.rest<2 ^ 64;unfold Uf;omega
structure Step (c d:C):Prop where
 n:∃k:Nat,d={ c with a:=c.a+k,nd:=d.nd }∧0<k∧(k:Int)≤c.left
 sound:c.sound=true
theorem Ir {c:C}(hl:c.d.length≤9223372036854770000)(h:(XJ c).2.2=0):Step c (XJ c).2.1:=by
 unfold XJ at h ⊢;simp only at h ⊢;split at h
 ·rename_i ht;split at h
  ·rename_i hs;split at h
   ·rename_i hk;rw[Qn5 ht,Qn5 hs,Qn5 hk]
    -- the ZR
    unfold QF at ht hs hk ⊢;simp only at ht hs hk ⊢;split at ht
    ·rename_i hv;rw[Qn5 hv]at hs hk ⊢;split at ht
     ·cases ht
     ·rename_i h7;rw[Qn4 h7]at hs hk ⊢;split at ht
      ·cases ht
      ·rename_i h8;rw[Qn4 h8]at hs hk ⊢;simp only at hs hk ⊢;obtain⟨n,g1,g2,g3,g4,g5,g6,g7⟩:=Z4 (c:=c) (by omega) hv;rw[g4]at hs hk ⊢;have hsc:=(C.sound_iff c).1 g5;have hcl:=c.rest_len;rw[Qn5 g5]at hcl
       -- the value Vu
       unfold C.spend at hs hk ⊢;split at hs
       ·cases hs
       ·rename_i s1;rw[Qn4 s1]at hk ⊢;split at hs
        ·cases hs
        ·rename_i s2;rw[Qn4 s2]at hk ⊢;simp only at hk ⊢;generalize hd:({ d:=c.d,a:=c.a+n,e:=c.e,dp:=c.dp,nd:=IntKind.i64.wrap (c.nd-1),tx:=c.tx }:C)=d at hk ⊢;have q1:d.d=c.d:=by rw[←hd]
         have q2:d.a=c.a+n:=by rw[←hd]
         have q3:d.e=c.e:=by rw[←hd]
         have q4:d.dp=c.dp:=by rw[←hd]
         have q5:d.tx=c.tx:=by rw[←hd]
         have hdl:d.left≤c.left-n:=by
          have:=d.rest_len;split at this
          ·omega
          ·omega
         have mk:∀(d':C) (j:Nat),d'={ d with a:=d.a+j }→(j:Int)≤d.left→Step c d':=by
          intro d' j e hj;refine⟨⟨n+j,?_,by omega,by omega⟩,g5⟩;rw[e];obtain⟨_,_,_,_,_,_⟩:=d;simp only at q1 q2 q3 q4 q5;subst q1 q2 q3 q4 q5;simp only[C.mk.injEq,QoO,and_true];omega
         -- the contents
         unfold Zl at hk ⊢;split at hk
         ·rename_i w2;rw[Qn5 w2];obtain⟨f1,f2,f3,f4⟩:=HO (c:=d) (by rw[q1];omega) hk;exact mk _ 8 f3 f2
         ·rename_i w2;rw[Qn4 w2];split at hk
          ·rename_i w1;rw[Qn5 w1];obtain⟨j,f1,f2,f3,f4,f5,f6,f7⟩:=Z4 (c:=d) (by rw[q1];omega) hk;exact mk _ j f4 f3
          ·rename_i w1;rw[Qn4 w1];simp only at hk ⊢;unfold JY at hk ⊢;simp only at hk ⊢;split at hk
           ·rename_i hv2;rw[Qn5 hv2];by_cases hu:d.varint.2.1.left<(d.varint.1:Int)
            ·rw[Qn5 hu]at hk;cases hk
            ·rw[Qn4 hu]at hk ⊢;by_cases hm:(if ((c.varint.1 % 8:Nat):Int)=3 then d.tx else 65536)<(d.varint.1:Int)
             ·rw[Qn5 hm]at hk;cases hk
             ·rw[Qn4 hm];obtain⟨j,f1,f2,f3,f4,f5,f6,f7⟩:=Z4 (c:=d) (by rw[q1];omega) hv2;have hs2:=(C.sound_iff d).1 f5;have hl2:=d.rest_len;rw[Qn5 f5]at hl2;have hl3:=d.varint.2.1.rest_len;rw[Qn5 f6,f4]at hl3;rw[f4]at hu;simp only at hl3;have hdl':(d.d.length:Int)=c.d.length:=by rw[q1]
              have hw:IntKind.i64.wrap (d.a+(j:Int)+(d.varint.1:Int))=d.a+j+d.varint.1:=by
               rw[Qz];omega
              refine mk _ (j+d.varint.1) ?_ (by omega);rw[f4];simp only[C.ahead,hw,C.mk.injEq,QoO,and_true];omega
           ·rename_i hv2;exact absurd hk hv2
    ·rename_i hv;exact absurd ht hv
   ·rename_i hk;exact absurd h hk
  ·rename_i hs;exact absurd h hs
 ·rename_i ht;exact absurd h ht
open Br So
structure CI (c:C):Prop where
 len:c.d.length≤3000
 snd:c.sound=true
 nd:0≤c.nd∧c.nd<9223372036854775808
 dp:0≤c.dp∧c.dp<9223372036854775808
structure Af (c d:C):Prop where
 n:∃k:Nat,d={ c with a:=c.a+k,nd:=d.nd }∧(k:Int)≤c.left
 nd:0≤d.nd∧d.nd≤c.nd
theorem CI.pos {c:C}(h:CI c):0≤c.a∧c.a≤c.e∧c.e≤(c.d.length:Int):=(C.sound_iff c).1 h.snd
theorem CI.lf {c:C}(h:CI c):c.left=c.e-c.a:=by
 have:=c.rest_len
 rwa [Qn5 h.snd]at this
theorem CI.big {c:C}(h:CI c):c.d.length≤9223372036854770000:=QnU h.len (by decide)
theorem CI.big' {c:C}(h:CI c):c.d.length≤9223372036854775807:=QnU h.len (by decide)
theorem CI.inr {c:C}(h:CI c):LN c.a:=by
 have:=h.pos;have:=h.len;unfold LN;omega
theorem CI.bd {c:C}(h:CI c):0≤c.left∧c.left≤3000:=by
 have:=h.pos;have:=h.len;rw[h.lf];omega
theorem Bl {c:C}(h1:c.d.length≤3000)(h2:0≤c.a∧c.a≤c.e∧c.e≤(c.d.length:Int))(h3:0≤c.nd∧c.nd<9223372036854775808)(h4:0≤c.dp∧c.dp<9223372036854775808):CI c:=⟨h1,(C.sound_iff c).2 h2,h3,h4⟩
theorem Af.eqs {c d:C}(h:Af c d):d.d=c.d∧d.e=c.e∧d.dp=c.dp∧d.tx=c.tx∧∃k:Nat,d.a=c.a+k∧(k:Int)≤c.left:=by
 obtain⟨⟨k,e,hk⟩,_⟩:=h;refine⟨by rw[e],by rw[e],by rw[e],by rw[e],k,by rw[e],hk⟩
theorem Af.ci {c d:C}(h:Af c d)(hc:CI c):CI d:=by
 obtain⟨e1,e2,e3,_,k,e5,hk⟩:=h.eqs;have:=hc.pos;have:=hc.lf;have:=hc.nd;have:=h.nd;exact Bl (by rw[e1];exact hc.len) (by rw[e1,e2,e5];omega) (by omega) (by rw[e3];exact hc.dp)
theorem Af.left {c d:C}(h:Af c d)(hc:CI c):d.left=c.left-(d.a-c.a)∧c.a≤d.a∧d.left≤c.left:=by
 obtain⟨e1,e2,e3,_,k,e5,hk⟩:=h.eqs;rw[(h.ci hc).lf,hc.lf];omega
theorem Ys {c d:C}(hc:CI c)(h1:d.d=c.d)(h2:d.e=c.e)(h3:d.dp=c.dp)(h4:d.tx=c.tx)(h5:c.a≤d.a∧d.a≤c.e)(h6:0≤d.nd∧d.nd≤c.nd):Af c d:=by
 refine⟨⟨(d.a-c.a).toNat,?_,by rw[hc.lf];omega⟩,h6⟩;obtain⟨_,_,_,_,_,_⟩:=d;simp only at h1 h2 h3 h4 h5;subst h1 h2 h3 h4;simp only[C.mk.injEq,QoO,and_true];omega
theorem Af.refl {c:C}(hc:CI c):Af c c:=by
 have:=hc.pos;have:=hc.nd;exact Ys hc rfl rfl rfl rfl (by omega) (by omega)
theorem Af.trans {c d i:C}(h:Af c d)(g:Af d i)(hc:CI c):Af c i:=by
 obtain⟨e1,e2,e3,e4,k,e5,hk⟩:=h.eqs;obtain⟨f1,f2,f3,f4,l,f5,hl⟩:=g.eqs;have:=(h.ci hc).lf;have:=h.nd;have:=g.nd;have:=hc.pos;exact Ys hc (by rw[f1,e1]) (by rw[f2,e2]) (by rw[f3,e3]) (by rw[f4,e4]) (by omega) (by omega)
def As (c d:C):Prop:=Af c d∧c.a<d.a
theorem As.ci {c d:C}(h:As c d)(hc:CI c):CI d:=h.1.ci hc
theorem As.lt {c d:C}(h:As c d)(hc:CI c):d.left+1≤c.left:=by
 have:=(h.1.left hc).1;have:=h.2;omega
theorem As.trans {c d i:C}(h:As c d)(g:Af d i)(hc:CI c):As c i:=⟨h.1.trans g hc,by have:=(g.left (h.ci hc)).2.1;have:=h.2;omega⟩
theorem Af.strict {c d i:C}(h:Af c d)(g:As d i)(hc:CI c):As c i:=⟨h.trans g.1 hc,by have:=(h.left hc).2.1;have:=g.2;omega⟩
theorem Ws {c:C}(hc:CI c)(h:c.varint.2.2=0):As c c.varint.2.1∧c.varint.1<18446744073709551616:=by
 obtain⟨n,h1,h2,h3,h4,h5,h6,h7⟩:=Z4 hc.big' h;have:=hc.lf;have:=hc.nd;refine⟨⟨Ys hc (by rw[h4]) (by rw[h4]) (by rw[h4]) (by rw[h4]) (by rw[h4];dsimp only;omega) (by rw[h4];dsimp only;omega),by rw[h4];dsimp only;omega⟩,h7⟩
theorem JQ {c d:C}{n:Int}(hc:CI c)(hn:0≤n)(h:spd c n=.ok d):Af c d∧d.a=c.a:=by
 unfold spd at h;split at h
 ·rename_i h0;cases h;unfold C.spend at h0 ⊢;rw[Qn4 (by omega)]at h0 ⊢;split at h0
  ·cases h0
  ·rename_i h1;have:=hc.nd;have:=hc.pos;have w:IntKind.i64.wrap (c.nd-n)=c.nd-n:=by rw[Qz];omega
   rw[Qn4 h1,w];exact⟨Ys hc rfl rfl rfl rfl (by dsimp only;omega) (by dsimp only;omega),rfl⟩
 ·cases h
theorem YB {c d:C}{n:Nat}(hc:CI c)(h:Wr c=.ok (n,d)):As c d∧(n:Int)≤d.left:=by
 unfold Wr at h;split at h
 ·rename_i h0;split at h
  ·cases h
  ·rename_i h1;cases h;exact⟨(Ws hc h0).1,by omega⟩
 ·cases h
theorem QcC {d:C}{n:Nat}(hc:CI d)(hn:(n:Int)≤d.left)(h:(text d n).2.2=0):Af d (text d n).2.1∧(text d n).1.length≤3000:=by
 unfold text at h ⊢;rw[Qn4 (by omega),Qn4 (by omega)]at h ⊢;split at h
 ·cases h
 ·rename_i h1;have:=hc.pos;have:=hc.lf;have:=hc.len;have:=hc.nd;have w:IntKind.i64.wrap (d.a+(n:Int))=d.a+n:=by rw[Qz];omega
  rw[Qn4 h1];refine⟨Ys hc rfl rfl rfl rfl ?_ ?_,?_⟩
  ·simp only[C.ahead,w];omega
  ·simp only[C.ahead];omega
  ·simp only[Qpq];rw[QoU];omega
theorem Bm {w:Int}{c d:C}{f:R}(hc:CI c)(h:Jp w c=.ok (f,d)):As c d∧f.wire=w∧f.bits<18446744073709551616∧f.data.length≤3000:=by
 unfold Jp at h;split at h
 ·split at h
  ·cases h
  ·rename_i n i hl;split at h
   ·rename_i ht;cases h;obtain⟨a1,a2⟩:=YB hc hl;obtain⟨b1,b2⟩:=QcC (a1.ci hc) a2 ht;exact⟨a1.trans b1 hc,rfl,by dsimp only;omega,b2⟩
   ·cases h
 ·split at h
  ·split at h
   ·rename_i hf;cases h;obtain⟨h1,h2,h3,h4⟩:=HO hc.big' hf;have:=hc.lf;have:=hc.nd;exact⟨⟨Ys hc (by rw[h3]) (by rw[h3]) (by rw[h3]) (by rw[h3]) (by rw[h3];dsimp only;omega) (by rw[h3];dsimp only;omega),by rw[h3];dsimp only;omega⟩,rfl,h4,Qn6 _⟩
   ·cases h
  ·split at h
   ·rename_i hv;cases h;obtain⟨a1,a2⟩:=Ws hc hv;exact⟨a1,rfl,a2,Qn6 _⟩
   ·cases h
theorem GL {c:C}(hc:CI c)(h:(QF c).2.2.2=0):As c (QF c).2.2.1∧1≤(QF c).1∧(QF c).1≤65535∧0≤(QF c).2.1∧(QF c).2.1≤6:=by
 unfold QF at h ⊢;dsimp only at h ⊢;split at h
 ·rename_i hv;rw[Qn5 hv];split at h
  ·cases h
  ·rename_i h7;rw[Qn4 h7];split at h
   ·cases h
   ·rename_i h8;rw[Qn4 h8];dsimp only;exact⟨(Ws hc hv).1,by omega,by omega,by omega,by omega⟩
 ·rename_i hv;exact absurd h hv
theorem Fh {d:C}{n:Nat}(hc:CI d)(hn:(n:Int)≤d.left)(h:(enter d n).2=0):(enter d n).1={ d with e:=d.a+n,dp:=d.dp-1 }∧CI (enter d n).1∧(enter d n).1.left=n:=by
 unfold enter at h ⊢;rw[Qn4 (by omega),Qn4 (by omega)]at h ⊢;split at h
 ·cases h
 ·rename_i h1;have:=hc.pos;have:=hc.lf;have:=hc.len;have:=hc.dp;have w1:IntKind.i64.wrap (d.a+(n:Int))=d.a+n:=by rw[Qz];omega
  have w2:IntKind.i64.wrap (d.dp-1)=d.dp-1:=by rw[Qz];omega
  rw[Qn4 h1,w1,w2];have hi:CI ({ d with e:=d.a+n,dp:=d.dp-1 }:C):=Bl hc.len (by dsimp only;omega) hc.nd (by dsimp only;omega);exact⟨rfl,hi,by rw[hi.lf];dsimp only;omega⟩
theorem Is {d i j:C}{n:Nat}(hc:CI d)(hn:(n:Int)≤d.left)(hi:i.e=d.a+n∧i.nd≤d.nd)(hj:Af i j):Af d (WS d j)∧(WS d j).left=d.left-n:=by
 obtain⟨f1,f2,f3,f4,l,f5,hl⟩:=hj.eqs;have:=hc.pos;have:=hc.lf;have:=hj.nd;unfold WS;rw[Qn4 (by rw[hc.snd];simp;omega)];have h:Af d ({ d with a:=j.e,nd:=j.nd }:C):=Ys hc rfl rfl rfl rfl (by dsimp only;omega) (by dsimp only;omega);exact⟨h,by rw[(h.ci hc).lf];dsimp only;omega⟩
theorem Yi {d:C}{n:Nat}(hc:CI d)(hn:(n:Int)≤d.left):part d n={ d with e:=d.a+n }∧CI (part d n)∧(part d n).left=n:=by
 have:=hc.pos;have:=hc.lf;have:=hc.len;have w1:IntKind.i64.wrap (d.a+(n:Int))=d.a+n:=by rw[Qz];omega
 unfold part;rw[w1];have hi:CI ({ d with e:=d.a+n }:C):=Bl hc.len (by dsimp only;omega) hc.nd hc.dp;exact⟨rfl,hi,by rw[hi.lf];dsimp only;omega⟩
theorem N3 {d i:C}{n:Nat}(hc:CI d)(hn:(n:Int)≤d.left)(hj:Af (part d n) i):Af d (JP d i)∧(JP d i).left=d.left-n:=by
 obtain⟨e1,e2,e3⟩:=Yi hc hn;obtain⟨f1,f2,f3,f4,l,f5,hl⟩:=hj.eqs;have:=hc.pos;have:=hc.lf;have hnd:=hj.nd;rw[e1]at f2 hnd;dsimp only at f2 hnd;have h:Af d (JP d i):=Ys hc rfl rfl rfl rfl (by unfold JP;dsimp only;omega) (by unfold JP;dsimp only;omega);exact⟨h,by rw[(h.ci hc).lf];unfold JP;dsimp only;omega⟩
theorem PU {c:C}(hc:CI c)(h:(ZV c).2.2=0):As c (ZV c).2.1∧0≤(ZV c).1∧(ZV c).1<256:=by
 unfold ZV at h ⊢;cases hr:c.rest with
 |nil=>rw[hr]at h;cases h
 |cons b t=>
  obtain⟨_,_,_,h1⟩:=N2 hr;have:=hc.pos;have:=hc.lf;have:=hc.len;have:=hc.nd;have:=b.toNat_lt;have w:IntKind.i64.wrap (c.a+1)=c.a+1:=by rw[Qz];omega
  refine⟨⟨Ys hc rfl rfl rfl rfl ?_ ?_,?_⟩,?_,?_⟩<;>simp only[C.ahead,w]<;>omega
theorem QcD {c:C}{f:R}:(Zl c f).2.1.nd=c.nd:=by
 have hv:c.varint.2.1.nd=c.nd:=by unfold C.varint;dsimp only;split<;>rfl
 unfold Zl;split
 ·show c.fixed.2.1.nd=_;unfold C.fixed;split<;>rfl
 ·split
  ·exact hv
  ·show(JY c f.wire).2.1.nd=_;unfold JY;dsimp only;split
   ·split
    ·rfl
    ·by_cases hq:(if f.wire=3 then c.tx else 65536)<(c.varint.1:Int)
     ·rw[Qn5 hq]
     ·rw[Qn4 hq];exact hv
   ·rfl
theorem Aw {c:C}{f:R}(hc:CI c)(h:(Zl c f).2.2=0)(h0:f.bits=0)(h1:f.data=[]):(Zl c f).1.num=f.num∧(Zl c f).1.wire=f.wire∧(Zl c f).1.bits<18446744073709551616∧(Zl c f).1.data.length≤3000:=by
 unfold Zl at h ⊢;split
 ·rename_i w;rw[Qn5 w]at h;exact⟨rfl,rfl,(HO hc.big' h).2.2.2,by dsimp only;rw[h1];exact Qn6 _⟩
 ·rename_i w;rw[Qn4 w]at h;split
  ·rename_i w1;rw[Qn5 w1]at h;exact⟨rfl,rfl,(Ws hc h).2,by dsimp only;rw[h1];exact Qn6 _⟩
  ·rename_i w1;rw[Qn4 w1]at h;refine⟨rfl,rfl,by dsimp only;rw[h0];decide,?_⟩;show(JY c f.wire).1.length≤3000;dsimp only at h;unfold JY at h ⊢;dsimp only at h ⊢;split
   ·rename_i hv;rw[Qn5 hv]at h;split
    ·exact Qn6 _
    ·by_cases hq:(if f.wire=3 then c.tx else 65536)<(c.varint.1:Int)
     ·rw[Qn5 hq];exact Qn6 _
     ·have h3:=((Ws hc hv).1.ci hc).len;rw[Qn4 hq,QoU,QoE];omega
   ·exact Qn6 _
theorem Ax {c:C}(hc:CI c)(h:(XJ c).2.2=0):As c (XJ c).2.1∧(XJ c).1.num=(QF c).1∧1≤(XJ c).1.num∧(XJ c).1.num≤65535∧0≤(XJ c).1.wire∧(XJ c).1.wire≤6∧(XJ c).1.bits<18446744073709551616∧(XJ c).1.data.length≤3000:=by
 obtain⟨⟨k,e1,e2,e3⟩,_⟩:=Ir hc.big h;have hnd:0≤(XJ c).2.1.nd∧(XJ c).2.1.nd≤c.nd∧(XJ c).1.num=(QF c).1∧1≤(XJ c).1.num∧(XJ c).1.num≤65535∧0≤(XJ c).1.wire∧(XJ c).1.wire≤6∧(XJ c).1.bits<18446744073709551616∧(XJ c).1.data.length≤3000:=by
  clear e1;unfold XJ at h ⊢;dsimp only at h ⊢;split at h
  ·rename_i ht;obtain⟨t1,t2,t3,t4,t5⟩:=GL hc ht;split at h
   ·rename_i hs;split at h
    ·rename_i hk;rw[Qn5 ht,Qn5 hs,Qn5 hk];have hsp:spd (QF c).2.2.1 1=.ok ((QF c).2.2.1.spend 1).1:=by unfold spd;rw[Qn5 hs]
     obtain⟨a1,_⟩:=JQ (t1.ci hc) (by omega) hsp;have a2:=QcD (c:=((QF c).2.2.1.spend 1).1) (f:={ num:=(QF c).1,wire:=(QF c).2.1,bits:=0,data:=[] });have a3:=a1.nd;have a4:=t1.1.nd;obtain⟨b1,b2,b3,b4⟩:=Aw (a1.ci (t1.ci hc)) hk rfl rfl;rw[b1,b2];exact⟨by omega,by omega,rfl,t2,t3,t4,t5,b3,b4⟩
    ·rename_i hk;exact absurd h hk
   ·rename_i hs;exact absurd h hs
  ·rename_i ht;exact absurd h ht
 have:=hc.lf;exact⟨⟨Ys hc (by rw[e1]) (by rw[e1]) (by rw[e1]) (by rw[e1]) (by rw[e1];dsimp only;omega) ⟨hnd.1,hnd.2.1⟩,by rw[e1];dsimp only;omega⟩,hnd.2.2⟩
end Go.Proofs.YtgnfjkkfbcnbfaaGreatDoor.Va
namespace Go.Proofs.YtgnfjkkfbcnbfaaGreatDoor.Va
open Go Am Rc Bt Br Up So
theorem M9 (k:Int)(b:Nat):Xu k (Xu k b)=Xu k b:=by
 unfold Xu;by_cases h:k=6∧Yy b=0
 ·rw[Qn5 h,Qn5 ⟨h.1,by decide⟩]
 ·rw[Qn4 h,Qn4 h]
theorem PV:∀v:V,v.nsc.nsc=v.nsc
 |.mk k b t l p s r=>by
  show V.mk k (Xu k (Xu k b)) t l p s r=V.mk k (Xu k b) t l p s r;rw[M9]
theorem Bn {nm:PG→V→V}{P:PL}{sl:List (Int×V)}:∀ {ops:List PO},(ops.Pairwise fun a b=>a.num<b.num)→∀o∈ops,(ops.flatMap (Xg nm P sl)).find? (fun s=>s.1==o.num)=(Xg nm P sl o).head?
 | [],_,_,h=>by cases h
 |x :: ops,hd,o,ho=>by
  obtain⟨h1,h2⟩:=Qpy.1 hd;have hn:∀o':PO,o'.num≠o.num→(Xg nm P sl o').find? (fun s=>s.1==o.num)=none:=fun o' e=>by
   rw[QpU];intro s hs;rw[(Zq hs).1]
   simpa using e
  have hs:∀o':PO,o'.num=o.num→∀l:List (Int×V),(∀s∈l,s.1=o'.num)→l.find? (fun s=>s.1==o.num)=l.head?:=fun o' e l hl=>by
   cases l with
   |nil=>rfl
   |cons s l=>
    rw[QpP,hl s (by simp),e];simp
  rw[Qps,List.find?_append];rcases Qpk.1 ho with rfl|ho
  ·rw[hs o rfl _ fun s h=>(Zq h).1];cases hh:(Xg nm P sl o).head? with
   |some s=>rfl
   |none=>
    rw[Option.none_or,QpU];intro s hs;obtain⟨o',ho',hs⟩:=QoJ.1 hs;have:=h1 o' ho';rw[(Zq hs).1];simp;omega
  ·have:=h1 o ho;rw[hn x (by omega),Option.none_or];exact Bn h2 o ho
section
variable {m:PG→V→Int}{nm:PG→V→V}{P:PL}
theorem HP (h:∀g∈P.progs,∀v,m g v=0→nm g (nm g v)=nm g v){o:PO}(ho:UO P o){v:V}(hv:QN m P o v=0):Xq nm P o (Xq nm P o v)=Xq nm P o v:=by
 unfold QN Xq at *;by_cases hk:o.kind=10
 ·rw[Qn5 hk]at hv;rw[Qn5 hk,Qn5 hk];obtain⟨t0,t1⟩:=ho.tgt hk;refine h _ ?_ _ hv;unfold Qk;rw[QnX (by omega:o.target.toNat<P.progs.length)];exact QoP _
 ·rw[Qn4 hk,Qn4 hk];exact PV v
theorem CV (h:∀g∈P.progs,∀v,m g v=0→nm g (nm g v)=nm g v){o:PO}(ho:UO P o){v:V}(hv:Xw m P o v=0):XN nm P o (XN nm P o v)=XN nm P o v:=by
 unfold Xw XN at *;by_cases h5:o.card=5
 ·have n4:¬o.card=4:=by omega
  rw[Qn5 h5]at hv;rw[Qn4 n4,Qn5 h5,Qn4 n4,Qn5 h5];split at hv
  ·omega
  have hE:=Kd.1 hv;have hk:=GJ ho.key h5 hE;have hp:(QX o.key v.pairs).Perm v.pairs:=QR _;have hm:∀p∈QX o.key v.pairs,p∈v.pairs:=fun p h=>hp.mem_iff.1 h
  have hF:(QX o.key v.pairs).map (fun p=>(p.1.nsc,Xq nm P o p.2))=(QX o.key v.pairs).map fun p=>(p.1,Xq nm P o p.2) :=
   QpN fun p h=>by rw[hk p (hm p h)]
  have hs:Zm (fun x y:V×V=>kl o.key x.1 y.1) (QX o.key v.pairs):=Zh (J2 o.key) _;have hS:QX o.key ((QX o.key v.pairs).map fun p=>(p.1,Xq nm P o p.2))=(QX o.key v.pairs).map fun p=>(p.1,Xq nm P o p.2):=by
   refine HL ?_;unfold Zm at hs ⊢;rw[List.pairwise_map];exact hs
  rw[hF];show V.mk 12 0 [] [] ((QX o.key ((QX o.key v.pairs).map fun p=>(p.1,Xq nm P o p.2))).map fun p=>(p.1.nsc,Xq nm P o p.2)) [] []=_;rw[hS,QpO];congr 1
  refine QpN fun p h'=>?_
  simp only[Function.comp];rw[hk p (hm p h'),HP h ho (hE.1 p (hm p h')).2]
 ·rw[Qn4 h5]at hv;by_cases h4:o.card=4
  ·rw[Qn5 h4]at hv;rw[Qn5 h4,Qn5 h4];split at hv
   ·omega
   have hL:=Ke.1 hv;show V.mk 11 0 [] ((v.list.map (Xq nm P o)).map (Xq nm P o)) [] [] []=_;rw[QpO];congr 1
   exact QpN fun x hx=>HP h ho (hL x hx)
  ·rw[Qn4 h4]at hv;rw[Qn4 h4,Qn4 h5,Qn4 h4,Qn4 h5];exact HP h ho hv
theorem Ay (h:∀g∈P.progs,∀v,m g v=0→nm g (nm g v)=nm g v){g:PG}(hd:g.ops.Pairwise fun a b=>a.num<b.num)(hu:∀o∈g.ops,UO P o){v:V}(hv:UK m P g v=0):Uj nm P g (Uj nm P g v)=Uj nm P g v:=by
 obtain⟨⟨s1,_,_⟩,_,_⟩:=Wf.1 hv;have hraw:ZN (ZN v.raws)=ZN v.raws:=HL (Zh CM _);have hsl:∀o∈g.ops,Xg nm P (g.ops.flatMap (Xg nm P v.slots)) o=Xg nm P v.slots o:=by
  intro o ho;rw[show Xg nm P (g.ops.flatMap (Xg nm P v.slots)) o=(match (g.ops.flatMap (Xg nm P v.slots)).find? (fun s=>s.1==o.num)with
   |none=>[]
   |some s=>if (decide (o.card<3) || !(XN nm P o s.2).emp)=true then [(o.num,XN nm P o s.2)]else [])from rfl,Bn hd o ho]
  unfold Xg;cases hf:v.slots.find? (fun s=>s.1==o.num)with
  |none=>rfl
  |some s=>
   have hs1:s.1=o.num:=by simpa using QpX hf
   obtain⟨o',e1,e2⟩:=s1 s (QpW hf);rw[hs1,XG hd ho]at e1;cases e1;have hi:=CV h (hu o ho) e2;dsimp only;by_cases hc:(decide (o.card<3) || !(XN nm P o s.2).emp)=true
   ·rw[Qn5 hc];show(if (decide (o.card<3) || !(XN nm P o (XN nm P o s.2)).emp)=true then [(o.num,XN nm P o (XN nm P o s.2))]else [])=_;rw[hi,Qn5 hc]
   ·rw[Qn4 hc];rfl
 have hall:∀ {l:List PO} {a b:PO→List (Int×V)},(∀o∈l,a o=b o)→l.flatMap a=l.flatMap b:=by
  intro l a b
  induction l with
  |nil=>intro _;rfl
  |cons x l ih=>
   intro h;rw[Qps,Qps,h x (by simp),ih fun o ho=>h o (by simp[ho])]
 show V.mk 10 0 [] [] [] (g.ops.flatMap (Xg nm P (g.ops.flatMap (Xg nm P v.slots)))) (ZN (ZN v.raws))=_;rw[hraw,hall hsl];rfl
end
theorem HQ {P:PL}(hU:J6 P)(hr:Zi P):∀(n:Nat) (g:PG),g∈P.progs→∀v:V,Xp P n g v=0→nrm P n g (nrm P n g v)=nrm P n g v
 |0,_,_,_,_=>rfl
 |n+1,g,hg,_,h=>Ay (fun g hg v h=>HQ hU hr n g hg v h) (hr g hg) (hU g hg) (Wf.2 (ZH.1 h).2)
def Wh (l:List (Int×V)):List (Int×V):=QG (fun x y=>decide (x.1<y.1)) l
theorem Qlf:SW fun x y:Int×V=>decide (x.1<y.1) where
 irr x:=by simp
 tr x y z h k:=by simp only[Qn1]at *;omega
 nt x y z h k:=by simp only[QpZ]at *;omega
theorem Az:∀ {a b:List (Int×V)},(a.Pairwise fun x y=>x.1<y.1)→(b.Pairwise fun x y=>x.1<y.1)→(∀x,x∈a↔x∈b)→a=b
 | [],[],_,_,_=>rfl
 | [],y :: b,_,_,h=>by have:=(h y).2 (by simp);cases this
 |x :: a,[],_,_,h=>by have:=(h x).1 (by simp);cases this
 |x :: a,y :: b,ha,hb,h=>by
  obtain⟨a1,a2⟩:=Qpy.1 ha;obtain⟨b1,b2⟩:=Qpy.1 hb;have e:x=y:=by
   rcases Qpk.1 ((h x).1 (by simp))with e|e
   ·exact e
   ·rcases Qpk.1 ((h y).2 (by simp))with e'|e'
    ·exact e'.symm
    ·have:=b1 x e;have:=a1 y e';omega
  subst e;congr 1
  refine Az a2 b2 fun z=>?_
  have hz:=h z;simp only[Qpk]at hz
  constructor
  ·intro hm;rcases hz.1 (.inr hm)with e|e
   ·subst e;have:=a1 z hm;omega
   ·exact e
  ·intro hm;rcases hz.2 (.inr hm)with e|e
   ·subst e;have:=b1 z hm;omega
   ·exact e
section
variable {m:PG→V→Int}(nm:PG→V→V)(P:PL)
def JG (o:PO)(s:Int×V):List (Int×V):=if (decide (o.card<3) || !(XN nm P o s.2).emp)=true then [(o.num,XN nm P o s.2)]else []
def Ko (g:PG)(s:Int×V):List (Int×V):=match Xv g s.1 with
 |none=>[]
 |some o=>JG nm P o s
theorem AA {o:PO}{s x:Int×V}:x∈JG nm P o s↔(decide (o.card<3) || !(XN nm P o s.2).emp)=true∧x=(o.num,XN nm P o s.2):=by
 unfold JG;split
 ·rename_i h;simp[h]
 ·rename_i h;simp[h]
theorem AB {sl:List (Int×V)}(hu:sl.Pairwise fun y x=>(y.1==x.1)=false){s:Int×V}(hs:s∈sl):sl.find? (fun t=>t.1==s.1)=some s:=by
 induction sl with
 |nil=>cases hs
 |cons x l ih=>
  obtain⟨h1,h2⟩:=Qpy.1 hu;rw[QpP];rcases Qpk.1 hs with rfl|hs
  ·simp
  ·rw[h1 s hs];exact ih h2 hs
theorem YV {sl:List (Int×V)}{o:PO}:Xg nm P sl o=match sl.find? (fun s=>s.1==o.num)with
  |none=>[]
  |some s=>JG nm P o s:=rfl
theorem It {g:PG}(hd:g.ops.Pairwise fun a b=>a.num<b.num){sl:List (Int×V)}(hu:sl.Pairwise fun y x=>(y.1==x.1)=false):(Wh sl).flatMap (Ko nm P g)=g.ops.flatMap (Xg nm P sl):=by
 have hp:(Wh sl).Perm sl:=QR _;have hsu:(Wh sl).Pairwise fun y x=>(y.1==x.1)=false:=(hp.pairwise_iff fun {a b} h=>by rw[Qqe];exact h).2 hu
 have hss:Zm (fun x y:Int×V=>decide (x.1<y.1)) (Wh sl):=Zh Qlf _;have hst:(Wh sl).Pairwise fun x y=>x.1<y.1:=by
  unfold Zm at hss;rw[Qqa]at *;intro i j hi hj hij;have h1:=hss i j hi hj hij;have h2:=hsu i j hi hj hij;simp only[QpZ,QpK]at h1 h2;omega
 have kpw:∀s,(Ko nm P g s).Pairwise fun x y:Int×V=>x.1<y.1:=fun s=>by
  unfold Ko;split
  ·exact .nil
  ·unfold JG;split
   ·exact Qp9 _ _
   ·exact .nil
 have knum:∀ {s x:Int×V},x∈Ko nm P g s→x.1=s.1:=fun {s x} h=>by
  unfold Ko at h;cases ho:Xv g s.1 with
  |none=>rw[ho]at h;cases h
  |some o=>
   rw[ho]at h;rw[((AA nm P).1 h).2];exact(JO ho).2
 refine Az ?_ ?_ fun x=>?_
 ·rw[List.pairwise_flatMap];refine⟨fun s _=>kpw s,hst.imp fun {a b} hab x hx y hy=>?_⟩;rw[knum hx,knum hy];exact hab
 ·rw[List.pairwise_flatMap];refine⟨fun _ _=>Fg,hd.imp fun {a b} hab x hx y hy=>?_⟩;rw[(Zq hx).1,(Zq hy).1];exact hab
 ·rw[QoJ,QoJ]
  constructor
  ·rintro⟨s,hs,h⟩;unfold Ko at h;cases ho:Xv g s.1 with
   |none=>rw[ho]at h;cases h
   |some o=>
    rw[ho]at h;obtain⟨hom,hon⟩:=JO ho;refine⟨o,hom,?_⟩;rw[YV,hon,AB hu (hp.mem_iff.1 hs)];exact h
  ·rintro⟨o,ho,h⟩;rw[YV]at h;cases hf:sl.find? (fun s=>s.1==o.num)with
   |none=>rw[hf]at h;cases h
   |some s=>
    rw[hf]at h;have hs:s.1=o.num:=by simpa using QpX hf
    refine⟨s,hp.mem_iff.2 (QpW hf),?_⟩;unfold Ko;rw[hs,XG hd ho];exact h
def LO (o:PO)(sl:List (Int×V)):List (Int×V):=sl.flatMap fun s=>if (s.1==o.num)=true then JG nm P o s else []
theorem CW {o:PO}{sl:List (Int×V)}(hu:sl.Pairwise fun y x=>(y.1==x.1)=false):LO nm P o sl=Xg nm P sl o:=by
 rw[YV];unfold LO
 induction sl with
 |nil=>rfl
 |cons x l ih=>
  obtain⟨h1,h2⟩:=Qpy.1 hu;rw[Qps,QpP];cases hx:(x.1==o.num)
  ·rw[Qn4 (by simp),Qok];exact ih h2
  ·rw[Qn5 rfl];have e:x.1=o.num:=by simpa using hx
   have:l.flatMap (fun s=>if (s.1==o.num)=true then JG nm P o s else [])=[]:=by
    rw[List.flatMap_eq_nil_iff];intro s hs;have:=h1 s hs;rw[e]at this;rw[Qn4 (by rw[Qqe];simp[this])]
   rw[this,Qo1]
end
end Go.Proofs.YtgnfjkkfbcnbfaaGreatDoor.Va
namespace Go.Proofs.YtgnfjkkfbcnbfaaGreatDoor.Va
open Go Am Rc Bt Br Up
theorem Bo (a b:Int):IntKind.i64.wrap (IntKind.i64.wrap a+IntKind.i64.wrap b)=IntKind.i64.wrap (a+b):=by
 simp only[Qz];omega
section
variable {M:Nat}
def C1I (v:V)(k:Nat)(st:St):Prop :=
 ∃f fr i,st=⟨f,[fr],[]⟩∧k=v.list.length-i∧i≤v.list.length∧f 1=.ptr 0 1 0∧f 3=.int .i64 (IntKind.i64.wrap ((1+v.raws.length+Q6 (v.list.take i):Nat):Int))∧f 4=.int .i64 (i:Nat)∧fr 1=.cells (vc v)
def C2I (v:V)(k:Nat)(st:St):Prop :=
 ∃f fr i,st=⟨f,[fr],[]⟩∧k=v.pairs.length-i∧i≤v.pairs.length∧f 1=.ptr 0 1 0∧f 3=.int .i64 (IntKind.i64.wrap ((1+v.raws.length+Q6 v.list+Xd (v.pairs.take i):Nat):Int))∧f 5=.int .i64 (i:Nat)∧fr 1=.cells (vc v)
def C3I (v:V)(k:Nat)(st:St):Prop :=
 ∃f fr i,st=⟨f,[fr],[]⟩∧k=v.slots.length-i∧i≤v.slots.length∧f 1=.ptr 0 1 0∧f 3=.int .i64 (IntKind.i64.wrap ((1+v.raws.length+Q6 v.list+Xd v.pairs+Q9 (v.slots.take i):Nat):Int))∧f 6=.int .i64 (i:Nat)∧fr 1=.cells (vc v)
theorem v5 (v:V)(hv:v.ok M):Qg Tryz.prog 5 [v.av] (.int .i64 (IntKind.i64.wrap (v.cnt:Int))):=by
 revert hv
 refine V.ind (P:=fun v=>v.ok M→Qg Tryz.prog 5 [v.av] (.int .i64 (IntKind.i64.wrap (v.cnt:Int)))) ?_ v;clear v;intro v hl hp hs hv;have n1:=hv.nl;have n2:=hv.np;have n3:=hv.ns;rw[Qc];refine wF Tryz.func5 ?_;simp only[eK,Tryz.f5,seval];simp only[QoS,eE,seval];refine Qi (C1I v) _ ⟨_,_,0,rfl,rfl,Qn6 _,(by rfl),(by simp only[Qo6,Q6,Qou,Int.natCast_add,Int.natCast_one,Qa,seval]),(by rfl),(by rfl)⟩ ?_;rintro _ st ⟨f,fr,i,rfl,rfl,hil,h1,h3,h4,m1⟩;have m1':=m1;simp only[vc]at m1;simp only[QoS,h1,h4,m1,eE,seval];by_cases hlt:i<v.list.length
 ·obtain⟨x,hi⟩:∃x,v.list[i]? = some x:=⟨v.list[i],QnX hlt⟩;have hg:=U4 hi;have e1:=Qs i _ hlt (by simp only[maxLen];omega);have c1:=hl x (Qob hi) (hv.list x (Qob hi));rw[Qc]at c1;simp only[QA hlt,Qp,Qpq,Qf,hg,h1,h3,h4,m1,eE,seval];refine aC c1 ?_;simp only[h4,e1,Bo,Qa,seval];exact⟨v.list.length-(i+1),by omega,_,_,i+1,rfl,rfl,by omega,(by exact h1),(by rw[NU hi];simp only[h3,←Int.natCast_add,QnT,Qa,seval]),(by rfl),(by exact m1')⟩
 have e:i=v.list.length:=by omega
 subst e;rw[QpC]at h3;simp only[QH hlt,Qa,seval];refine Qi (C2I v) _ ⟨_,_,0,rfl,rfl,Qn6 _,(by exact h1),(by simp only[Qo6,Xd,Qou,h3,Qa,seval]),(by rfl),(by exact m1')⟩ ?_;clear h1 h3 h4 m1 m1' hlt hil;rintro _ st ⟨f,fr,i,rfl,rfl,hil,h1,h3,h5,m1⟩;have m1':=m1;simp only[vc]at m1;simp only[QoS,h1,h5,m1,eE,seval];by_cases hlt:i<v.pairs.length
 ·obtain⟨x,hi⟩:∃x,v.pairs[i]? = some x:=⟨v.pairs[i],QnX hlt⟩;have hg:=J3 hi;have e1:=Qs i _ hlt (by simp only[maxLen];omega);have hm:=Qob hi;have c1:=(hp x hm).1 (hv.keys x hm);have c2:=(hp x hm).2 (hv.vals x hm);rw[Qc]at c1 c2;simp only[QA hlt,Qp,Qpq,Qf,hg,Qow,Qo6,QoF,h1,h3,h5,m1,eE,seval];refine aC c1 ?_;simp only[Qp,Qpq,Qf,hg,Qow,Qoz,QoF,h1,h5,m1,eE,seval];refine aC c2 ?_;simp only[h5,e1,Bo,Qa,seval];exact⟨v.pairs.length-(i+1),by omega,_,_,i+1,rfl,rfl,by omega,(by exact h1),(by rw[Ah hi];simp only[h3,←Int.natCast_add,QnT,Qa,seval]),(by rfl),(by exact m1')⟩
 have e:i=v.pairs.length:=by omega
 subst e;rw[QpC]at h3;simp only[QH hlt,Qa,seval];refine Qi (C3I v) _ ⟨_,_,0,rfl,rfl,Qn6 _,(by exact h1),(by simp only[Qo6,Q9,Qou,h3,Qa,seval]),(by rfl),(by exact m1')⟩ ?_;clear h1 h3 h5 m1 m1' hlt hil;rintro _ st ⟨f,fr,i,rfl,rfl,hil,h1,h3,h6,m1⟩;have m1':=m1;simp only[vc]at m1;simp only[QoS,h1,h6,m1,eE,seval];by_cases hlt:i<v.slots.length
 ·obtain⟨x,hi⟩:∃x,v.slots[i]? = some x:=⟨v.slots[i],QnX hlt⟩;have hg:=WR hi;have e1:=Qs i _ hlt (by simp only[maxLen];omega);have hm:=Qob hi;have c1:=hs x hm (hv.slots x hm);rw[Qc]at c1;simp only[QA hlt,Qp,Qpq,Qf,hg,Qow,Qoz,QoF,h1,h3,h6,m1,eE,seval];refine aC c1 ?_;simp only[h6,e1,Bo,Qa,seval];exact⟨v.slots.length-(i+1),by omega,_,_,i+1,rfl,rfl,by omega,(by exact h1),(by rw[Ai hi];simp only[h3,←Int.natCast_add,QnT,Qa,seval]),(by rfl),(by exact m1')⟩
 have e:i=v.slots.length:=by omega
 subst e;rw[QpC]at h3;simp only[QH hlt,h3,Q1,Qa,seval]
end
def KV (v:V):List V:=v.list++v.pairs.flatMap (fun p=>[p.1,p.2])++v.slots.map (·.2)
theorem Fi (a b:List V):Q6 (a++b)=Q6 a+Q6 b:=by
 induction a with
 |nil=>simp[Q6]
 |cons x a ih=>simp only[Qoj,Q6,ih];omega
theorem QcE (v:V):v.cnt=1+v.raws.length+Q6 (KV v):=by
 have h1:∀l:List (V×V),Q6 (l.flatMap fun p=>[p.1,p.2])=Xd l:=by
  intro l
  induction l with
  |nil=>rfl
  |cons x l ih=>
   obtain⟨a,b⟩:=x;simp only[Qps,Fi,ih,Xd,Q6,Qou]
 have h2:∀l:List (Int×V),Q6 (l.map (·.2))=Q9 l:=by
  intro l
  induction l with
  |nil=>rfl
  |cons x l ih=>
   obtain⟨a,b⟩:=x;simp only[Qov,Q6,ih,Q9]
 rw[Q1,KV,Fi,Fi,h1,h2];omega
theorem AC {xs:List AV}(h:xs.all (fun e=>e.cells.length==7)=true)(hf:QT xs=[]):xs=[]:=by
 cases xs with
 |nil=>rfl
 |cons x xs=>
  have hl:x.cells.length=7:=by simpa using Qoa.1 h x (by simp)
  have:x.cells=[]:=(List.append_eq_nil_iff.1 hf).1;rw[this]at hl;exact absurd hl.symm (by decide)
theorem Qlg (xs:List AV)(fr:Nat→Ob)(m:Qj)(h:xs.all (fun e=>e.cells.length==7)=true)(hn:xs.length≤1099511627776)(hr:Qo (fr 1000)=true) :
  Qe Tryz.prog 158 [.list xs] (fr :: m) (fun x m1=>x=.vec 0 1000 (XP (fr 1000)) 0 xs.length false∧m1=QI fr 1000 (.vec (XP (fr 1000)) 7 xs) :: m):=by
 have hng:Qy (fr :: m) 0 1000=XP (fr 1000):=Kv;refine Qjc.go (by simp) ?_;simp only[Qez,TF,TG,Qa,seval];refine J1 (ys:=xs) (by simp only[Qa,seval]) ?_ ?_
 ·simp only[TJ,Qa,seval];refine Jn rfl ?_;simp only[Qa,seval];refine QK (site:=5) (g:=1) (xs:=[]) (ys:=xs) rfl rfl rfl rfl rfl h (by simp[maxLen];omega) (by simp;omega) ?_;simp only[Qa,seval];refine Zw (l:=0) (site:=5) (g:=2) (o:=0) (n:=xs.length) (q:=false) (sz:=7) (xs:=xs) (by simp only[Qom,Qa,seval]) (by simp only[Qa,seval]) (by simp) (by decide) hr ?_;simp only[hng,EN,eE,seval]
  try simp[AV.still,AV.un,ZE,XO]
 ·intro he;have hx:xs=[]:=by
   rcases he with he|he
   ·exact he
   ·exact AC h he
  subst hx;simp only[TH,Qa,seval];refine ZG (by simp only[Qa,seval]) rfl ?_;simp only[Qa,seval];refine Zw (l:=0) (site:=2) (g:=1) (o:=0) (n:=0) (q:=false) (sz:=7) (xs:=[]) (by simp only[Qa,seval]) (by simp only[Qa,seval]) (by simp) (by decide) hr ?_;simp only[hng,EN,eE,seval]
  try simp[AV.still,AV.un,ZE,XO]
theorem QO {P:Program}{K:St→Prop}{its:List Am.Item}{f:Fr}{m:Qj}{ds:List DF}{d sz len:Nat}{z y l:List AV}{ps:List (Nat×Nat×RA)}(hy:fill f ps (X5 z sz len)=some y)(h1:AV.rfL y=true)(h2:y.all AV.leaf=true)(hc:Zt sz len (y.map nn0)=l)(h:QE P its ⟨QI f d (.list l),m,ds⟩ K) :
  QE P (⟨some d,.bsl sz len z ps,none⟩ :: its) ⟨f,m,ds⟩ K:=by
 subst hc;exact⟨y,hy,h1,h2,h⟩
def YL (v:V)(i:Nat):List V:=v.list++(v.pairs.take i).flatMap fun p=>[p.1,p.2]
def Ul (v:V)(i:Nat):List V:=YL v v.pairs.length++(v.slots.take i).map (·.2)
theorem Dp (v:V)(i:Nat)(h:i≤v.pairs.length):(YL v i).length=v.list.length+2*i:=by
 have:∀l:List (V×V),(l.flatMap fun p=>[p.1,p.2]).length=2*l.length:=by
  intro l
  induction l with
  |nil=>rfl
  |cons x l ih=>simp only[Qps,QoB,Qoc,QoT,ih];omega
 rw[YL,QoB,this,QoU];omega
theorem No (v:V)(i:Nat)(h:i≤v.slots.length):(Ul v i).length=v.list.length+2*v.pairs.length+i:=by
 rw[Ul,QoB,Dp v _ (QnV _),QoS,QoU];omega
theorem Iu {v:V}{i:Nat}{x:V×V}(h:v.pairs[i]? = some x):(YL v (i+1)).map V.av=(YL v i).map V.av++[x.1.av,x.2.av]:=by
 unfold YL;rw[QpM,h];simp
theorem Iv {v:V}{i:Nat}{x:Int×V}(h:v.slots[i]? = some x):(Ul v (i+1)).map V.av=(Ul v i).map V.av++[x.2.av]:=by
 unfold Ul;rw[QpM,h];simp
theorem PW (v:V):Ul v v.slots.length=KV v:=by
 unfold Ul YL KV;rw[QpC,QpC]
theorem GM (l:List V):(l.map V.av).all (fun e=>e.cells.length==7)=true:=by
 rw[List.all_map,Qoa];intro x _;simp[Qc,AV.cells]
def I1 (v:V)(k:Nat)(st:St):Prop :=
 ∃f fr i g,st=⟨f,[fr],[]⟩∧k=v.pairs.length-i∧i≤v.pairs.length∧f 1=.ptr 0 1 0∧f 3=.vec 0 1000 g 0 (YL v i).length false∧f 12=.list (v.pairs.map V.pav)∧f 13=.int .i64 (v.pairs.length:Nat)∧f 14=.int .i64 (i:Nat)∧fr 1=.cells (vc v)∧fr 1000=.vec g 7 ((YL v i).map V.av)∧fr 7=.none∧∀s∈[5],(fr s).isRow=false
def I2 (v:V)(k:Nat)(st:St):Prop :=
 ∃f fr i g,st=⟨f,[fr],[]⟩∧k=v.slots.length-i∧i≤v.slots.length∧f 3=.vec 0 1000 g 0 (Ul v i).length false∧f 27=.list (v.slots.map V.sav)∧f 28=.int .i64 (v.slots.length:Nat)∧f 29=.int .i64 (i:Nat)∧fr 1000=.vec g 7 ((Ul v i).map V.av)∧∀s∈[7],(fr s).isRow=false
theorem v70 (v:V)(h:v.list.length+2*v.pairs.length+v.slots.length≤1099511627776):Qg Tryz.prog 70 [v.av] (.list ((KV v).map V.av)):=by
 have cl:=fun fr hr=>Qlg (v.list.map V.av) fr [] (GM _) (by rw[QoS];omega) hr
 rw[Qc];refine wF Tryz.func70 ?_;simp only[eK,Tryz.f70,seval];simp only[eE,seval];refine Qh (cl _ rfl) (by simp only[Qov,QoZ,Qa,seval]) ?_;simp only[QoS,eE,seval];have e0:(YL v 0).map V.av=v.list.map V.av:=by unfold YL;simp
 have l0:=Dp v 0 (Qn6 _);refine Qi (I1 v) _ ⟨_,_,0,_,rfl,rfl,Qn6 _,(by rfl),(by rw[l0];exact(by rfl)),(by rfl),(by rfl),(by rfl),(by rfl),(by rw[e0];exact(by rfl)),rfl,by simp<;>rfl⟩ ?_;rintro _ st ⟨f0,fr0,i,g,rfl,rfl,hil,h10,h30,h120,h130,h140,m10,mR0,n70,r5⟩;refine QL (a:=_) [5] r5 ?_;intro f fr hf hm hn;have h1:f 1=.ptr 0 1 0:=by rw[hf,h10]<;>rfl
 have h3:f 3=.vec 0 1000 g 0 (YL v i).length false:=by rw[hf,h30]<;>rfl
 have h12:f 12=.list (v.pairs.map V.pav):=by rw[hf,h120]<;>rfl
 have h13:f 13=.int .i64 (v.pairs.length:Nat):=by rw[hf,h130]<;>rfl
 have h14:f 14=.int .i64 (i:Nat):=by rw[hf,h140]<;>rfl
 have m1:fr 1=.cells (vc v):=by rw[hm 1 (by decide),m10]<;>rfl
 have mR:fr 1000=.vec g 7 ((YL v i).map V.av):=by rw[hm 1000 (by decide),mR0]<;>rfl
 have n7:fr 7=.none:=by rw[hm 7 (by decide),n70]<;>rfl
 have n5:=hn 5 (by decide);clear hf hm hn h10 h30 h120 h130 h140 m10 mR0 n70 r5 e0 l0;have m1':=m1;simp only[vc]at m1;simp only[h13,h14,Qa,seval];by_cases hlt:i<v.pairs.length
 ·obtain⟨x,hi⟩:∃x,v.pairs[i]? = some x:=⟨v.pairs[i],QnX hlt⟩;have hg:=J3 hi;have e1:=Qs i _ hlt (by simp only[maxLen];omega);have le:=Dp v i hil;have ln:=Dp v (i+1) hlt;simp only[QA hlt,Qp,Qpq,Qf,hg,n5,h3,h12,h14,eE,seval];refine QO (l:=[x.1.av,x.2.av]) rfl rfl rfl (by rw[Qc,Qc];rfl) ?_;refine QK (site:=1000) (g:=g) (n:=(YL v i).length) (xs:=(YL v i).map V.av) (ys:=[x.1.av,x.2.av]) (by rfl) (by exact mR) rfl (by rw[QoS]) rfl (GM [x.1,x.2]) (by simp only[Qoc,QoT,maxLen];omega) (by simp only[Qoc,QoT];omega) ?_;simp only[h14,e1,Qa,seval];exact⟨v.pairs.length-(i+1),by omega,_,_,i+1,g+1,rfl,rfl,by omega,(by exact h1),(by rw[ln];simp only[le,Qa,seval];rfl),(by exact h12),(by exact h13),(by rfl),(by exact m1'),(by rw[Iu hi];exact(by rfl)),(by exact n7),by simp<;>rfl⟩
 have e:i=v.pairs.length:=by omega
 subst e;simp only[QH hlt,h1,m1,QoS,eE,seval];have e0:Ul v 0=YL v v.pairs.length:=by unfold Ul;simp
 refine Qi (I2 v) _ ⟨_,_,0,g,rfl,rfl,Qn6 _,(by rw[e0];exact(by exact h3)),(by rfl),(by rfl),(by rfl),(by rw[e0];exact(by exact mR)),by simp only[Qpk,Qqc,or_false,forall_eq,n7]<;>rfl⟩ ?_;clear h1 h3 h12 h13 h14 m1 m1' mR n5 n7 hil hlt e0 g;rintro _ st ⟨f0,fr0,i,g,rfl,rfl,hil,h30,h270,h280,h290,mR0,r7⟩;refine QL (a:=_) [7] r7 ?_;intro f fr hf hm hn;have h3:f 3=.vec 0 1000 g 0 (Ul v i).length false:=by rw[hf,h30]<;>rfl
 have h27:f 27=.list (v.slots.map V.sav):=by rw[hf,h270]<;>rfl
 have h28:f 28=.int .i64 (v.slots.length:Nat):=by rw[hf,h280]<;>rfl
 have h29:f 29=.int .i64 (i:Nat):=by rw[hf,h290]<;>rfl
 have mR:fr 1000=.vec g 7 ((Ul v i).map V.av):=by rw[hm 1000 (by decide),mR0]<;>rfl
 have n7:=hn 7 (by decide);clear hf hm hn h30 h270 h280 h290 mR0 r7;simp only[h28,h29,Qa,seval];by_cases hlt:i<v.slots.length
 ·obtain⟨x,hi⟩:∃x,v.slots[i]? = some x:=⟨v.slots[i],QnX hlt⟩;have hg:=WR hi;have e1:=Qs i _ hlt (by simp only[maxLen];omega);have le:=No v i hil;have ln:=No v (i+1) hlt;simp only[QA hlt,Qp,Qpq,Qf,hg,n7,h3,h27,h29,eE,seval];refine QO (l:=[x.2.av]) rfl rfl rfl (by rw[Qc];rfl) ?_;refine QK (site:=1000) (g:=g) (n:=(Ul v i).length) (xs:=(Ul v i).map V.av) (ys:=[x.2.av]) (by rfl) (by exact mR) rfl (by rw[QoS]) rfl (GM [x.2]) (by simp only[Qoc,QoT,maxLen];omega) (by simp only[Qoc,QoT];omega) ?_;simp only[h29,e1,Qa,seval];exact⟨v.slots.length-(i+1),by omega,_,_,i+1,g+1,rfl,rfl,by omega,(by rw[ln];simp only[le,Qa,seval];rfl),(by exact h27),(by exact h28),(by rfl),(by rw[Iv hi];exact(by rfl)),by simp<;>rfl⟩
 have e:i=v.slots.length:=by omega
 subst e;rw[PW]at h3 mR;simp only[QH hlt,h3,eE,seval];simp[AV.un,ZE,XO,mR];rw[Qox (by rw[QoS];exact QnV _)]
def VcI (v:V)(k:Nat)(st:St):Prop :=
 ∃f fr i,st=⟨f,[fr],[]⟩∧k=(KV v).length-i∧i≤(KV v).length∧f 3=.int .i64 (IntKind.i64.wrap ((1+v.raws.length+Q6 ((KV v).take i):Nat):Int))∧f 11=.list ((KV v).map V.av)∧f 12=.int .i64 ((KV v).length:Nat)∧f 13=.int .i64 (i:Nat)∧∀s∈[5],(fr s).isRow=false
theorem QcF {v x:V}(h:x∈KV v):x∈v.list∨(∃p∈v.pairs,x=p.1∨x=p.2)∨∃s∈v.slots,x=s.2:=by
 unfold KV at h;simp only[Qph,QoJ,Qpk,Qqc,or_false,Qpi]at h;rcases h with(h|⟨p,hp,h⟩)|⟨s,hs,rfl⟩
 ·exact .inl h
 ·exact .inr (.inl ⟨p,hp,h⟩)
 ·exact .inr (.inr ⟨s,hs,rfl⟩)
theorem v38 (v:V)(hv:Thin v):Qg Tryz.prog 38 [v.av] (.int .i64 (IntKind.i64.wrap (v.cnt:Int))):=by
 revert hv
 refine V.ind (P:=fun v=>Thin v→Qg Tryz.prog 38 [v.av] (.int .i64 (IntKind.i64.wrap (v.cnt:Int)))) ?_ v;clear v;intro v hl hp hs hv;obtain⟨n,t1,t2,t3,t4⟩:=hv;have hall:∀x∈KV v,Qg Tryz.prog 38 [x.av] (.int .i64 (IntKind.i64.wrap (x.cnt:Int))):=by
  intro x hx;rcases QcF hx with h|⟨p,h,rfl|rfl⟩|⟨s,h,rfl⟩
  ·exact hl x h (t1 x h)
  ·exact(hp p h).1 (t2 p h)
  ·exact(hp p h).2 (t3 p h)
  ·exact hs s h (t4 s h)
 have hin:(KV v).length≤maxLen:=by
  rw[←PW,No v _ (QnV _)];simp only[maxLen];omega
 have c0:=v70 v n;rw[Qc]at c0;rw[Qc];refine wF Tryz.func38 ?_;simp only[eK,Tryz.f38,seval];simp only[QoS,eE,seval];refine aC c0 ?_;simp only[QoS,Qa,seval];refine Qi (VcI v) _ ⟨_,_,0,rfl,rfl,Qn6 _,(by simp only[Qo6,Q6,Qou,Int.natCast_add,Int.natCast_one,Qa,seval]),(by rfl),(by rfl),(by rfl),by simp<;>rfl⟩ ?_;rintro _ st ⟨f0,fr0,i,rfl,rfl,hil,h30,h110,h120,h130,r5⟩;refine QL (a:=_) [5] r5 ?_;intro f fr hf hm hn;have h3:f 3=.int .i64 (IntKind.i64.wrap ((1+v.raws.length+Q6 ((KV v).take i):Nat):Int)):=by rw[hf,h30]<;>rfl
 have h11:f 11=.list ((KV v).map V.av):=by rw[hf,h110]<;>rfl
 have h12:f 12=.int .i64 ((KV v).length:Nat):=by rw[hf,h120]<;>rfl
 have h13:f 13=.int .i64 (i:Nat):=by rw[hf,h130]<;>rfl
 have n5:=hn 5 (by decide);clear hf hm hn h30 h110 h120 h130 r5;simp only[h12,h13,Qa,seval];by_cases hlt:i<(KV v).length
 ·obtain⟨x,hi⟩:∃x,(KV v)[i]? = some x:=⟨(KV v)[i],QnX hlt⟩;have hg:=U4 hi;have e1:=Qs i _ hlt hin;have c1:=hall x (Qob hi);rw[Qc]at c1;simp only[QA hlt,Qp,Qpq,Qf,hg,n5,h3,h11,h13,eE,seval];refine aC c1 ?_;simp only[h13,e1,Bo,Qa,seval];exact⟨(KV v).length-(i+1),by omega,_,_,i+1,rfl,rfl,by omega,(by rw[NU hi];simp only[h3,←Int.natCast_add,QnT,Qa,seval]),(by exact h11),(by exact h12),(by rfl),by simp<;>rfl⟩
 have e:i=(KV v).length:=by omega
 subst e;rw[QpC,←QcE]at h3;simp only[QH hlt,h3,Qa,seval]
end Go.Proofs.YtgnfjkkfbcnbfaaGreatDoor.Va
set_option linter.unusedVariables false
namespace Go.Proofs.YtgnfjkkfbcnbfaaGreatDoor.Tg
open Go Am
abbrev ja (a b:Nat):Am.Item:=⟨some a,.val (.mov (.t b)),none⟩
abbrev jb (z:Nat)(a b c:Nat):Am.Item:=⟨some a,.val (.iaddr z none (.t b) (.t c)),none⟩
abbrev jc (a b c:Nat):Am.Item:=⟨some a,.val (.bin .num .add (.t b) (.t c)),none⟩
abbrev jd (z:Nat)(a b:Nat):Am.Item:=⟨some a,.val (.loadr (some z) (.t b)),none⟩
abbrev je (a b c:Nat):Am.Item:=⟨some a,.val (.bin .num .sub (.t b) (.t c)),none⟩
abbrev jf (a b c:Nat):Am.Item:=⟨some a,.val (.bin .num .lss (.t b) (.t c)),none⟩
abbrev jg (a b c:Nat):Am.Item:=⟨some a,.val (.mov (.t b)),some (c,true)⟩
abbrev jh (a b:Nat)(c:Int):Am.Item:=⟨some a,.val (.bin .num .add (.t b) (.c (.int .i64 c))),none⟩
abbrev ji (z:Nat)(a b:Nat):Am.Item:=⟨none,.store z (.t a) (.t b),none⟩
abbrev jj (a b:Nat)(c:Int):Am.Item:=⟨some a,.val (.bin .num .sub (.t b) (.c (.int .i64 c))),none⟩
abbrev jk (a:Nat)(b:Int):Am.Item:=⟨some a,.val (.mov (.c (.int .i64 b))),none⟩
abbrev jQ (g:List Am.Item)(c:RC):RC:=.seq (.reg g) c
abbrev jD (g:List Am.Item)(c:RC):RC:=.seq (.draw g) c
abbrev jX (a b:Nat):RC:=.cond (.t a) .skip (.exit b)
def LP (z sr ro sm is st:Nat):List Am.Item:=[
  jk 10 0]
def LQ (z sr ro sm is st:Nat):List Am.Item:=[
  ja 11 10,
  ja 12 3,
  jf 13 11 12]
def LR (z sr ro sm is st:Nat):List Am.Item:=[
  ja 16 0,
  ja 17 1,
  ja 18 10,
  jc 19 17 18,
  ja 20 0,
  ja 21 2,
  ja 22 10,
  jc 23 21 22,
  ja 24 0,
  ja 25 2,
  ja 26 10,
  jc 27 25 26,
  jb z 28 24 27,
  jd z 29 28,
  ja 30 0,
  ja 31 1,
  ja 32 10,
  jc 33 31 32,
  jb z 34 30 33,
  jd z 35 34,
  jb z 36 16 19,
  ji z 36 29,
  jb z 37 20 23,
  ji z 37 35]
def LS (z sr ro sm is st:Nat):List Am.Item:=[
  ja 14 10,
  jh 15 14 1,
  ja 10 15]
def LU (z sr ro sm is st:Nat):RC:=.seq (.seq (.reg (LQ z sr ro sm is st)) (jX 13 0)) (.seq (.block 1 (.draw (LR z sr ro sm is st))) (.reg (LS z sr ro sm is st)))
def rsr (z sr ro sm is st:Nat):RC:=.seq (.reg (LP z sr ro sm is st)) (.block 0 (.loop (LU z sr ro sm is st)))
def osr:List RR:=[]
def LV (z sr ro sm is st:Nat):List Am.Item:=[
  ja 12 2,
  ja 13 1,
  je 14 12 13,
  ja 10 14]
def LW (z sr ro sm is st:Nat):List Am.Item:=[
  ja 15 3,
  ja 16 2,
  je 17 15 16,
  ja 11 17]
def LX (z sr ro sm is st:Nat):List Am.Item:=[
  ja 18 10,
  ja 19 11,
  ⟨(some 20),.val (.bin .num .neq (.t 18) (.t 19)),none⟩]
def LY (z sr ro sm is st:Nat):List Am.Item:=[
  ja 21 10,
  ja 22 11,
  ⟨(some 23),.val (.bin .num .gtr (.t 21) (.t 22)),none⟩]
def LZ (z sr ro sm is st:Nat):List Am.Item:=[
  ja 24 0,
  ja 25 2,
  ja 26 10,
  je 27 25 26,
  ja 28 2,
  ja 29 11,
  ja 30 4,
  ⟨(some 31),.callF (.f sr) [(.t 24),(.t 27),(.t 28),(.t 29),(.t 30)],none⟩]
def L0 (z sr ro sm is st:Nat):List Am.Item:=[
  ja 32 10,
  ja 33 11,
  je 34 32 33,
  ja 10 34]
def L1 (z sr ro sm is st:Nat):List Am.Item:=[
  ja 35 0,
  ja 36 2,
  ja 37 10,
  je 38 36 37,
  ja 39 2,
  ja 40 11,
  jc 41 39 40,
  ja 42 10,
  je 43 41 42,
  ja 44 10,
  ja 45 4,
  ⟨(some 46),.callF (.f sr) [(.t 35),(.t 38),(.t 43),(.t 44),(.t 45)],none⟩]
def L2 (z sr ro sm is st:Nat):List Am.Item:=[
  ja 47 11,
  ja 48 10,
  je 49 47 48,
  ja 11 49]
def L3 (z sr ro sm is st:Nat):RC:=.seq (.seq (.reg (LX z sr ro sm is st)) (jX 20 0)) (.block 1 (.seq (.reg (LY z sr ro sm is st)) (.cond (.t 23) (.seq (.reg (LZ z sr ro sm is st)) (.reg (L0 z sr ro sm is st))) (.seq (.reg (L1 z sr ro sm is st)) (.reg (L2 z sr ro sm is st))))))
def L4 (z sr ro sm is st:Nat):List Am.Item:=[
  ja 50 0,
  ja 51 2,
  ja 52 10,
  je 53 51 52,
  ja 54 2,
  ja 55 10,
  ja 56 4,
  ⟨(some 57),.callF (.f sr) [(.t 50),(.t 53),(.t 54),(.t 55),(.t 56)],none⟩]
def rro (z sr ro sm is st:Nat):RC:=.seq (.reg (LV z sr ro sm is st)) (.seq (.reg (LW z sr ro sm is st)) (.seq (.block 0 (.loop (L3 z sr ro sm is st))) (.reg (L4 z sr ro sm is st))))
def oro:List RR:=[]
def Vs (z sr ro sm is st:Nat):List Am.Item:=[
  ja 25 2,
  ja 26 1,
  je 27 25 26,
  ⟨(some 28),.val (.bin .num .eql (.t 27) (.c (.int .i64 1))),none⟩]
def Sp (z sr ro sm is st:Nat):List Am.Item:=[
  ja 29 2,
  ja 10 29]
def Sq (z sr ro sm is st:Nat):List Am.Item:=[
  ja 30 3,
  ja 11 30]
def L5 (z sr ro sm is st:Nat):List Am.Item:=[
  ja 31 10,
  ja 32 11,
  jf 33 31 32]
def L6 (z sr ro sm is st:Nat):List Am.Item:=[
  ja 34 10,
  ja 35 11,
  jc 36 34 35,
  ⟨(some 37),.val (.cvi .u64 (.t 36)),none⟩,
  ⟨(some 38),.val (.bin .num .shr (.t 37) (.c (.int .u64 1))),none⟩,
  ⟨(some 39),.val (.cvi .i64 (.t 38)),none⟩,
  ja 12 39]
def L7 (z sr ro sm is st:Nat):List Am.Item:=[
  ja 40 4,
  ja 41 0,
  ja 42 12,
  jb z 43 41 42,
  jd z 44 43,
  ja 45 0,
  ja 46 1,
  jb z 47 45 46,
  jd z 48 47,
  ⟨(some 49),.call (.t 40) [(.t 44),(.t 48)],none⟩,
  ⟨(some 50),.val (.bin .num .lss (.t 49) (.c (.int .i64 0))),none⟩]
def L8 (z sr ro sm is st:Nat):List Am.Item:=[
  ja 51 12,
  jh 52 51 1,
  ja 10 52]
def L9 (z sr ro sm is st:Nat):List Am.Item:=[
  ja 53 12,
  ja 11 53]
def Qaa (z sr ro sm is st:Nat):RC:=.seq (.seq (.reg (L5 z sr ro sm is st)) (jX 33 0)) (.block 1 (.seq (.reg (L6 z sr ro sm is st)) (.seq (.draw (L7 z sr ro sm is st)) (.cond (.t 50) (.reg (L8 z sr ro sm is st)) (.reg (L9 z sr ro sm is st))))))
def Sr (z sr ro sm is st:Nat):List Am.Item:=[
  ja 54 1,
  ja 13 54]
def Qab (z sr ro sm is st:Nat):List Am.Item:=[
  ja 55 13,
  ja 56 10,
  jj 57 56 1,
  jf 58 55 57]
def AD (z sr ro sm is st:Nat):List Am.Item:=[
  ja 61 0,
  ja 62 13,
  ja 63 0,
  ja 64 13,
  jh 65 64 1,
  ja 66 0,
  ja 67 13,
  jh 68 67 1,
  jb z 69 66 68,
  jd z 70 69,
  ja 71 0,
  ja 72 13,
  jb z 73 71 72,
  jd z 74 73,
  jb z 75 61 62,
  ji z 75 70,
  jb z 76 63 65,
  ji z 76 74]
def AE (z sr ro sm is st:Nat):List Am.Item:=[
  ja 59 13,
  jh 60 59 1,
  ja 13 60]
def Qac (z sr ro sm is st:Nat):RC:=.seq (.seq (.reg (Qab z sr ro sm is st)) (jX 58 2)) (.seq (.block 3 (.draw (AD z sr ro sm is st))) (.reg (AE z sr ro sm is st)))
def Bp (z sr ro sm is st:Nat):List Am.Item:=[
  ja 77 3,
  ja 78 2,
  je 79 77 78,
  ⟨(some 80),.val (.bin .num .eql (.t 79) (.c (.int .i64 1))),none⟩]
def CX (z sr ro sm is st:Nat):List Am.Item:=[
  ja 81 1,
  ja 14 81]
def CY (z sr ro sm is st:Nat):List Am.Item:=[
  ja 82 2,
  ja 15 82]
def CZ (z sr ro sm is st:Nat):List Am.Item:=[
  ja 83 14,
  ja 84 15,
  jf 85 83 84]
def C0 (z sr ro sm is st:Nat):List Am.Item:=[
  ja 86 14,
  ja 87 15,
  jc 88 86 87,
  ⟨(some 89),.val (.cvi .u64 (.t 88)),none⟩,
  ⟨(some 90),.val (.bin .num .shr (.t 89) (.c (.int .u64 1))),none⟩,
  ⟨(some 91),.val (.cvi .i64 (.t 90)),none⟩,
  ja 16 91]
def C1 (z sr ro sm is st:Nat):List Am.Item:=[
  ja 92 4,
  ja 93 0,
  ja 94 2,
  jb z 95 93 94,
  jd z 96 95,
  ja 97 0,
  ja 98 16,
  jb z 99 97 98,
  jd z 100 99,
  ⟨(some 101),.call (.t 92) [(.t 96),(.t 100)],none⟩,
  ⟨(some 102),.val (.bin .num .lss (.t 101) (.c (.int .i64 0))),none⟩,
  ⟨(some 103),.val (.un .not (.t 102)),none⟩]
def C2 (z sr ro sm is st:Nat):List Am.Item:=[
  ja 104 16,
  jh 105 104 1,
  ja 14 105]
def C3 (z sr ro sm is st:Nat):List Am.Item:=[
  ja 106 16,
  ja 15 106]
def Ss (z sr ro sm is st:Nat):RC:=.seq (.seq (.reg (CZ z sr ro sm is st)) (jX 85 4)) (.block 5 (.seq (.reg (C0 z sr ro sm is st)) (.seq (.draw (C1 z sr ro sm is st)) (.cond (.t 103) (.reg (C2 z sr ro sm is st)) (.reg (C3 z sr ro sm is st))))))
def C4 (z sr ro sm is st:Nat):List Am.Item:=[
  ja 107 2,
  ja 17 107]
def C5 (z sr ro sm is st:Nat):List Am.Item:=[
  ja 108 17,
  ja 109 14,
  ⟨(some 110),.val (.bin .num .gtr (.t 108) (.t 109)),none⟩]
def C6 (z sr ro sm is st:Nat):List Am.Item:=[
  ja 113 0,
  ja 114 17,
  ja 115 0,
  ja 116 17,
  jj 117 116 1,
  ja 118 0,
  ja 119 17,
  jj 120 119 1,
  jb z 121 118 120,
  jd z 122 121,
  ja 123 0,
  ja 124 17,
  jb z 125 123 124,
  jd z 126 125,
  jb z 127 113 114,
  ji z 127 122,
  jb z 128 115 117,
  ji z 128 126]
def C7 (z sr ro sm is st:Nat):List Am.Item:=[
  ja 111 17,
  jj 112 111 1,
  ja 17 112]
def Su (z sr ro sm is st:Nat):RC:=.seq (.seq (.reg (C5 z sr ro sm is st)) (jX 110 6)) (.seq (.block 7 (.draw (C6 z sr ro sm is st))) (.reg (C7 z sr ro sm is st)))
def Bq (z sr ro sm is st:Nat):List Am.Item:=[
  ja 129 1,
  ja 130 3,
  jc 131 129 130,
  ⟨(some 132),.val (.cvi .u64 (.t 131)),none⟩,
  ⟨(some 133),.val (.bin .num .shr (.t 132) (.c (.int .u64 1))),none⟩,
  ⟨(some 134),.val (.cvi .i64 (.t 133)),none⟩,
  ja 18 134]
def Bs (z sr ro sm is st:Nat):List Am.Item:=[
  ja 135 18,
  ja 136 2,
  jc 137 135 136,
  ja 19 137]
def Bu (z sr ro sm is st:Nat):List Am.Item:=[
  jk 20 0,
  jk 21 0]
def Bv (z sr ro sm is st:Nat):List Am.Item:=[
  ja 138 2,
  ja 139 18,
  ⟨(some 140),.val (.bin .num .gtr (.t 138) (.t 139)),none⟩]
def Bw (z sr ro sm is st:Nat):List Am.Item:=[
  ja 141 19,
  ja 142 3,
  je 143 141 142,
  ja 20 143]
def Bx (z sr ro sm is st:Nat):List Am.Item:=[
  ja 144 18,
  ja 21 144]
def Bz (z sr ro sm is st:Nat):List Am.Item:=[
  ja 145 1,
  ja 20 145]
def BA (z sr ro sm is st:Nat):List Am.Item:=[
  ja 146 2,
  ja 21 146]
def BB (z sr ro sm is st:Nat):List Am.Item:=[
  ja 147 19,
  jj 148 147 1,
  ja 22 148]
def BC (z sr ro sm is st:Nat):List Am.Item:=[
  ja 149 20,
  ja 150 21,
  jf 151 149 150]
def BD (z sr ro sm is st:Nat):List Am.Item:=[
  ja 152 20,
  ja 153 21,
  jc 154 152 153,
  ⟨(some 155),.val (.cvi .u64 (.t 154)),none⟩,
  ⟨(some 156),.val (.bin .num .shr (.t 155) (.c (.int .u64 1))),none⟩,
  ⟨(some 157),.val (.cvi .i64 (.t 156)),none⟩,
  ja 23 157]
def BE (z sr ro sm is st:Nat):List Am.Item:=[
  ja 158 4,
  ja 159 0,
  ja 160 22,
  ja 161 23,
  je 162 160 161,
  jb z 163 159 162,
  jd z 164 163,
  ja 165 0,
  ja 166 23,
  jb z 167 165 166,
  jd z 168 167,
  ⟨(some 169),.call (.t 158) [(.t 164),(.t 168)],none⟩,
  ⟨(some 170),.val (.bin .num .lss (.t 169) (.c (.int .i64 0))),none⟩,
  ⟨(some 171),.val (.un .not (.t 170)),none⟩]
def BF (z sr ro sm is st:Nat):List Am.Item:=[
  ja 172 23,
  jh 173 172 1,
  ja 20 173]
def BG (z sr ro sm is st:Nat):List Am.Item:=[
  ja 174 23,
  ja 21 174]
def BH (z sr ro sm is st:Nat):RC:=.seq (.seq (.reg (BC z sr ro sm is st)) (jX 151 8)) (.block 9 (.seq (.reg (BD z sr ro sm is st)) (.seq (.draw (BE z sr ro sm is st)) (.cond (.t 171) (.reg (BF z sr ro sm is st)) (.reg (BG z sr ro sm is st))))))
def Hi (z sr ro sm is st:Nat):List Am.Item:=[
  ja 175 19,
  ja 176 20,
  je 177 175 176,
  ja 24 177]
def Hj (z sr ro sm is st:Nat):List Am.Item:=[
  ja 178 20,
  ja 179 2,
  jf 180 178 179,
  ja 181 180,
  jg 182 2 181,
  jg 183 24 181,
  ⟨(some 184),.val (.bin .num .lss (.t 182) (.t 183)),(some (181,true))⟩,
  ⟨(some 185),.val (.pick (.t 181) (.t 184) (.c (.bool false))),none⟩]
def Hk (z sr ro sm is st:Nat):List Am.Item:=[
  ja 186 0,
  ja 187 20,
  ja 188 2,
  ja 189 24,
  ja 190 4,
  ⟨(some 191),.callF (.f ro) [(.t 186),(.t 187),(.t 188),(.t 189),(.t 190)],none⟩]
def Um (z sr ro sm is st:Nat):List Am.Item:=[
  ja 192 1,
  ja 193 20,
  jf 194 192 193,
  ja 195 194,
  jg 196 20 195,
  jg 197 18 195,
  ⟨(some 198),.val (.bin .num .lss (.t 196) (.t 197)),(some (195,true))⟩,
  ⟨(some 199),.val (.pick (.t 195) (.t 198) (.c (.bool false))),none⟩]
def Un (z sr ro sm is st:Nat):List Am.Item:=[
  ja 200 0,
  ja 201 1,
  ja 202 20,
  ja 203 18,
  ja 204 4,
  ⟨(some 205),.callF (.f sm) [(.t 200),(.t 201),(.t 202),(.t 203),(.t 204)],none⟩]
def WV (z sr ro sm is st:Nat):List Am.Item:=[
  ja 206 18,
  ja 207 24,
  jf 208 206 207,
  ja 209 208,
  jg 210 24 209,
  jg 211 3 209,
  ⟨(some 212),.val (.bin .num .lss (.t 210) (.t 211)),(some (209,true))⟩,
  ⟨(some 213),.val (.pick (.t 209) (.t 212) (.c (.bool false))),none⟩]
def WW (z sr ro sm is st:Nat):List Am.Item:=[
  ja 214 0,
  ja 215 18,
  ja 216 24,
  ja 217 3,
  ja 218 4,
  ⟨(some 219),.callF (.f sm) [(.t 214),(.t 215),(.t 216),(.t 217),(.t 218)],none⟩]
def rsm (z sr ro sm is st:Nat):RC:=.seq (.seq (.reg (Vs z sr ro sm is st)) (.cond (.t 28) (.seq (.reg (Sp z sr ro sm is st)) (.seq (.reg (Sq z sr ro sm is st)) (.seq (.block 0 (.loop (Qaa z sr ro sm is st))) (.seq (.seq (.reg (Sr z sr ro sm is st)) (.block 2 (.loop (Qac z sr ro sm is st)))) (.ret))))) (.skip))) (.seq (.seq (.reg (Bp z sr ro sm is st)) (.cond (.t 80) (.seq (.reg (CX z sr ro sm is st)) (.seq (.reg (CY z sr ro sm is st)) (.seq (.block 4 (.loop (Ss z sr ro sm is st))) (.seq (.seq (.reg (C4 z sr ro sm is st)) (.block 6 (.loop (Su z sr ro sm is st)))) (.ret))))) (.skip))) (.seq (.reg (Bq z sr ro sm is st)) (.seq (.reg (Bs z sr ro sm is st)) (.seq (.reg (Bu z sr ro sm is st)) (.seq (.seq (.reg (Bv z sr ro sm is st)) (.cond (.t 140) (.seq (.reg (Bw z sr ro sm is st)) (.reg (Bx z sr ro sm is st))) (.seq (.reg (Bz z sr ro sm is st)) (.reg (BA z sr ro sm is st))))) (.seq (.reg (BB z sr ro sm is st)) (.seq (.block 8 (.loop (BH z sr ro sm is st))) (.seq (.reg (Hi z sr ro sm is st)) (.seq (.seq (.reg (Hj z sr ro sm is st)) (.cond (.t 185) (.reg (Hk z sr ro sm is st)) (.skip))) (.seq (.seq (.reg (Um z sr ro sm is st)) (.cond (.t 199) (.reg (Un z sr ro sm is st)) (.skip))) (.seq (.reg (WV z sr ro sm is st)) (.cond (.t 213) (.reg (WW z sr ro sm is st)) (.skip)))))))))))))
def BI:List RR:=[]
def Qae (z sr ro sm is st:Nat):List Am.Item:=[
  ja 10 1,
  jh 11 10 1,
  ja 8 11]
def Qaf (z sr ro sm is st:Nat):List Am.Item:=[
  ja 12 8,
  ja 13 2,
  jf 14 12 13]
def Qag (z sr ro sm is st:Nat):List Am.Item:=[
  ja 17 8,
  ja 9 17]
def Qah (z sr ro sm is st:Nat):List Am.Item:=[
  ja 18 9,
  ja 19 1,
  ⟨(some 20),.val (.bin .num .gtr (.t 18) (.t 19)),none⟩,
  ja 21 20,
  jg 22 3 21,
  jg 23 0 21,
  jg 24 9 21,
  ⟨(some 25),.val (.iaddr z none (.t 23) (.t 24)),(some (21,true))⟩,
  ⟨(some 26),.val (.loadr (some z) (.t 25)),(some (21,true))⟩,
  jg 27 0 21,
  jg 28 9 21,
  ⟨(some 29),.val (.bin .num .sub (.t 28) (.c (.int .i64 1))),(some (21,true))⟩,
  ⟨(some 30),.val (.iaddr z none (.t 27) (.t 29)),(some (21,true))⟩,
  ⟨(some 31),.val (.loadr (some z) (.t 30)),(some (21,true))⟩,
  ⟨(some 32),.call (.t 22) [(.t 26),(.t 31)],(some (21,true))⟩,
  ⟨(some 33),.val (.bin .num .lss (.t 32) (.c (.int .i64 0))),(some (21,true))⟩,
  ⟨(some 34),.val (.pick (.t 21) (.t 33) (.c (.bool false))),none⟩]
def Qai (z sr ro sm is st:Nat):List Am.Item:=[
  ja 37 0,
  ja 38 9,
  ja 39 0,
  ja 40 9,
  jj 41 40 1,
  ja 42 0,
  ja 43 9,
  jj 44 43 1,
  jb z 45 42 44,
  jd z 46 45,
  ja 47 0,
  ja 48 9,
  jb z 49 47 48,
  jd z 50 49,
  jb z 51 37 38,
  ji z 51 46,
  jb z 52 39 41,
  ji z 52 50]
def Qaj (z sr ro sm is st:Nat):List Am.Item:=[
  ja 35 9,
  jj 36 35 1,
  ja 9 36]
def Qak (z sr ro sm is st:Nat):RC:=.seq (.seq (.draw (Qah z sr ro sm is st)) (jX 34 2)) (.seq (.block 3 (.draw (Qai z sr ro sm is st))) (.reg (Qaj z sr ro sm is st)))
def Qal (z sr ro sm is st:Nat):List Am.Item:=[
  ja 15 8,
  jh 16 15 1,
  ja 8 16]
def Qam (z sr ro sm is st:Nat):RC:=.seq (.seq (.reg (Qaf z sr ro sm is st)) (jX 14 0)) (.seq (.block 1 (.seq (.reg (Qag z sr ro sm is st)) (.block 2 (.loop (Qak z sr ro sm is st))))) (.reg (Qal z sr ro sm is st)))
def ris (z sr ro sm is st:Nat):RC:=.seq (.reg (Qae z sr ro sm is st)) (.block 0 (.loop (Qam z sr ro sm is st)))
def ois:List RR:=[]
def Qan (z sr ro sm is st:Nat):List Am.Item:=[
  jk 6 20]
def Qao (z sr ro sm is st:Nat):List Am.Item:=[
  ja 10 6,
  jk 7 0,
  ja 8 10]
def Qap (z sr ro sm is st:Nat):List Am.Item:=[
  ja 11 8,
  ja 12 1,
  ⟨(some 13),.val (.bin .num .leq (.t 11) (.t 12)),none⟩]
def Qaq (z sr ro sm is st:Nat):List Am.Item:=[
  ja 14 0,
  ja 15 7,
  ja 16 8,
  ja 17 2,
  ⟨(some 18),.callF (.f is) [(.t 14),(.t 15),(.t 16),(.t 17)],none⟩]
def Qar (z sr ro sm is st:Nat):List Am.Item:=[
  ja 19 8,
  ja 7 19]
def Qas (z sr ro sm is st:Nat):List Am.Item:=[
  ja 20 8,
  ja 21 6,
  jc 22 20 21,
  ja 8 22]
def Qat (z sr ro sm is st:Nat):RC:=.seq (.seq (.reg (Qap z sr ro sm is st)) (jX 13 0)) (.block 1 (.seq (.reg (Qaq z sr ro sm is st)) (.seq (.reg (Qar z sr ro sm is st)) (.reg (Qas z sr ro sm is st)))))
def Qau (z sr ro sm is st:Nat):List Am.Item:=[
  ja 23 0,
  ja 24 7,
  ja 25 1,
  ja 26 2,
  ⟨(some 27),.callF (.f is) [(.t 23),(.t 24),(.t 25),(.t 26)],none⟩]
def Qav (z sr ro sm is st:Nat):List Am.Item:=[
  ja 28 6,
  ja 29 1,
  jf 30 28 29]
def Qaw (z sr ro sm is st:Nat):List Am.Item:=[
  ja 31 6,
  ⟨(some 32),.val (.bin .num .mul (.c (.int .i64 2)) (.t 31)),none⟩,
  jk 7 0,
  ja 8 32]
def Qax (z sr ro sm is st:Nat):List Am.Item:=[
  ja 33 8,
  ja 34 1,
  ⟨(some 35),.val (.bin .num .leq (.t 33) (.t 34)),none⟩]
def AF (z sr ro sm is st:Nat):List Am.Item:=[
  ja 36 0,
  ja 37 7,
  ja 38 7,
  ja 39 6,
  jc 40 38 39,
  ja 41 8,
  ja 42 2,
  ⟨(some 43),.callF (.f sm) [(.t 36),(.t 37),(.t 40),(.t 41),(.t 42)],none⟩]
def AG (z sr ro sm is st:Nat):List Am.Item:=[
  ja 44 8,
  ja 7 44]
def AH (z sr ro sm is st:Nat):List Am.Item:=[
  ja 45 8,
  ja 46 6,
  ⟨(some 47),.val (.bin .num .mul (.c (.int .i64 2)) (.t 46)),none⟩,
  jc 48 45 47,
  ja 8 48]
def Qay (z sr ro sm is st:Nat):RC:=.seq (.seq (.reg (Qax z sr ro sm is st)) (jX 35 4)) (.block 5 (.seq (.reg (AF z sr ro sm is st)) (.seq (.reg (AG z sr ro sm is st)) (.reg (AH z sr ro sm is st)))))
def AI (z sr ro sm is st:Nat):List Am.Item:=[
  ja 49 7,
  ja 50 6,
  jc 51 49 50,
  ja 9 51]
def AJ (z sr ro sm is st:Nat):List Am.Item:=[
  ja 52 9,
  ja 53 1,
  jf 54 52 53]
def AK (z sr ro sm is st:Nat):List Am.Item:=[
  ja 55 0,
  ja 56 7,
  ja 57 9,
  ja 58 1,
  ja 59 2,
  ⟨(some 60),.callF (.f sm) [(.t 55),(.t 56),(.t 57),(.t 58),(.t 59)],none⟩]
def C8 (z sr ro sm is st:Nat):List Am.Item:=[
  ja 61 6,
  ⟨(some 62),.val (.bin .num .mul (.t 61) (.c (.int .i64 2))),none⟩,
  ja 6 62]
def Qaz (z sr ro sm is st:Nat):RC:=.seq (.seq (.reg (Qav z sr ro sm is st)) (jX 30 2)) (.block 3 (.seq (.reg (Qaw z sr ro sm is st)) (.seq (.block 4 (.loop (Qay z sr ro sm is st))) (.seq (.seq (.reg (AI z sr ro sm is st)) (.seq (.reg (AJ z sr ro sm is st)) (.cond (.t 54) (.reg (AK z sr ro sm is st)) (.skip)))) (.reg (C8 z sr ro sm is st))))))
def rst (z sr ro sm is st:Nat):RC:=.seq (.reg (Qan z sr ro sm is st)) (.seq (.reg (Qao z sr ro sm is st)) (.seq (.block 0 (.loop (Qat z sr ro sm is st))) (.seq (.reg (Qau z sr ro sm is st)) (.block 2 (.loop (Qaz z sr ro sm is st))))))
def ost:List RR:=[]
def QaA (z sr ro sm is st:Nat):List Am.Item:=[
  ja 4 0,
  ja 5 0,
  ⟨(some 6),.val (.len 1 (.t 5)),none⟩,
  ja 7 1,
  ⟨(some 8),.callF (.f st) [(.t 4),(.t 6),(.t 7)],none⟩]
def rss (z sr ro sm is st:Nat):RC:=.reg (QaA z sr ro sm is st)
def oss:List RR:=[]
structure Cs (P:Program)(z sr ro sm is st ss:Nat):Prop where
 csr:CK P sr 38 (rsr z sr ro sm is st) osr
 cro:CK P ro 58 (rro z sr ro sm is st) oro
 csm:CK P sm 220 (rsm z sr ro sm is st) BI
 cis:CK P is 53 (ris z sr ro sm is st) ois
 cst:CK P st 63 (rst z sr ro sm is st) ost
 css:CK P ss 9 (rss z sr ro sm is st) oss
end Go.Proofs.YtgnfjkkfbcnbfaaGreatDoor.Tg
namespace Go.Proofs.YtgnfjkkfbcnbfaaGreatDoor.Am
open Go Bt
def Ez (E:AV→Prop)(sz:Nat)(x:AV):Prop:=E x∧∃l,x=.agg l∧l.length=sz∧AV.rfL l=true∧l.all AV.leaf=true∧∀m,AV.stillL false m l=some l
variable {E:AV→Prop}
theorem Ez.part {sz:Nat}{x:AV}(h:Ez E sz x):Am.part x.cells 0 (some sz)=some x:=by
 obtain⟨_,l,rfl,rfl,_,_,_⟩:=h;simp[Am.part,AV.cells]
theorem Ez.len {sz:Nat}{x:AV}(h:Ez E sz x):x.cells.length=sz:=by
 obtain⟨_,l,rfl,rfl,_,_,_⟩:=h;rfl
theorem Ez.leaf {sz:Nat}{x:AV}(h:Ez E sz x):x.cells.all AV.leaf=true:=by
 obtain⟨_,l,rfl,_,_,h,_⟩:=h;exact h
theorem Ez.rf {sz:Nat}{x:AV}(h:Ez E sz x):x.rf=true:=by
 obtain⟨_,l,rfl,_,h,_,_⟩:=h;exact h
theorem Ez.still {sz:Nat}{x:AV}(h:Ez E sz x)(m:Qj):x.still false m=some x:=by
 obtain⟨_,l,rfl,_,_,_,h⟩:=h;simp only[AV.still,h m,Qon]
theorem UP {sz:Nat}{x y:AV}(h:Ez E sz x)(k:Ez E sz y)(m:Qj):AV.stillL false m [x,y]=some [x,y]:=by
 simp only[AV.stillL,h.still,k.still]
theorem YC {sz:Nat}{x y:AV}(h:Ez E sz x)(k:Ez E sz y):AV.rfL [x,y]=true:=by
 simp only[AV.rfL,h.rf,k.rf,Bool.and_self]
theorem YW {P:Program}{f:Fr}{m:Qj}{ds:List DF}{its:List Item}{d:Nat}{K:St→Prop}{k:Nat}{r:RA}{args:List RA}{ys:List AV}{v:AV}(hr:r.ev f=.fn (.func k) [] [])(hk:Qg P k ys v)(hy:AV.stillL false m (args.map (RA.ev f))=some ys)(h1:AV.rfL ys=true)(h2:v.rf=true)(h3:AV.rfL (args.map (RA.ev f))=true∨v.nl=true)(h:QE P its ⟨QI f d v,m,ds⟩ K) :
  QE P (⟨some d,.call r args,none⟩ :: its) ⟨f,m,ds⟩ K:=by
 refine⟨k,[],[],ys,v,hr,?_,h1,hk,h2,?_,h⟩
 ·simpa using hy
 ·simpa using h3
theorem put_put:∀ {m:Qj} {l s:Nat} {o o':Ob},Am.put (Am.put m l s o) l s o'=Am.put m l s o'
 | [],_,_,_,_=>rfl
 |fr :: m,0,s,o,o'=>by simp only[Am.put,upd_upd']
 |fr :: m,l+1,s,o,o'=>by simp only[Am.put,put_put (m:=m)]
where
 upd_upd' {f:Nat→Ob} {d:Nat} {x y:Ob}:QI (QI f d x) d y=QI f d y:=by
  funext i;simp only[QI];cases Nat.beq i d<;>rfl
theorem put_self:∀ {m:Qj} {l s:Nat} {o:Ob},Qd m l s=o→Am.put m l s o=m
 | [],_,_,_,_=>rfl
 |fr :: m,0,s,o,h=>by
  simp only[Am.put];congr 1
  funext i;simp only[QI];cases hb:Nat.beq i s with
  |false=>rfl
  |true=>rw[QnS hb];exact h.symm
 |fr :: m,l+1,s,o,h=>by simp only[Am.put,put_self (m:=m) h]
section
variable {m:Qj}{fr:Nat→Ob}{lv s g sz n i:Nat}{cur:List AV}{x y:AV}
theorem YM (hlv:lv<m.length)(hx:cur[i]? = some x)(he:Ez E sz x):Xt (fr :: Am.put m lv s (.vec g sz cur)) (some sz) (.vptr (lv+1) s g i 0)=some x:=by
 have e:Qd (fr :: Am.put m lv s (.vec g sz cur)) (lv+1) s=.vec g sz cur:=Qq hlv;simp only[Xt,e,if_true,hx,he.part]
theorem GN (hlv:lv<m.length)(hx:cur[i]? = some x)(he:Ez E sz x)(hy:Ez E sz y)(h0:sz≠0):Xn (fr :: Am.put m lv s (.vec g sz cur)) (.vptr (lv+1) s g i 0) y.cells=some (fr :: Am.put m lv s (.vec g sz (cur.set i y))):=by
 have e:Qd (fr :: Am.put m lv s (.vec g sz cur)) (lv+1) s=.vec g sz cur:=Qq hlv;obtain⟨_,l,rfl,hl,_,_,_⟩:=he;obtain⟨_,k,rfl,hk,hf,_,_⟩:=hy;have hc:0+(AV.agg k).cells.length≤(AV.agg l).cells.length∧(AV.agg k).cells.length≠0∧AV.rfL (AV.agg k).cells=true:=by
  simp only[AV.cells];exact⟨by omega,by omega,hf⟩
 simp only[Xn,e,if_true,hx,Qn5 hc];have hs:splice l 0 k=k:=by
  simp only[splice,Qo6,Qok,Qom];rw[QoA (by omega),Qo1]
 simp only[JI,AV.cells,hs,Am.put,put_put]
theorem YN (hlv:lv<m.length)(hi:i<n):Qf (fr :: Am.put m lv s (.vec g sz cur)) sz none (.vec (lv+1) s g 0 n false) ((i:Nat):Int)=some (.vptr (lv+1) s g i 0):=by
 have e:Qd (fr :: Am.put m lv s (.vec g sz cur)) (lv+1) s=.vec g sz cur:=Qq hlv;simp only[Qf,e,Qpq];rw[Qn5 (by omega),Qn5 ⟨trivial,trivial,hi⟩,Qom]
end
theorem put_len:∀ {m:Qj} {l s:Nat} {o:Ob},(Am.put m l s o).length=m.length
 | [],_,_,_=>rfl
 |_ :: _,0,_,_=>rfl
 |fr :: m,l+1,s,o=>by simp only[Am.put,Qoc,put_len (m:=m)]
end Go.Proofs.YtgnfjkkfbcnbfaaGreatDoor.Am
namespace Go.Proofs.YtgnfjkkfbcnbfaaGreatDoor.Tz
open Go Am Bt Tg
variable {Pg:Program}{cz sr ro sm is st ss:Nat}(hC:Tg.Cs Pg cz sr ro sm is st ss)(hcz:cz≠0)
variable {E:AV→Prop}
def C9 (X cur:List AV)(p q i:Nat):Prop :=
 cur.length=X.length∧∀j,cur[j]? = if p≤j∧j<p+i then X[q+(j-p)]? else if q≤j∧j<q+i then X[p+(j-q)]? else X[j]?
theorem C9.step {X cur:List AV}{p q i n:Nat}(h:C9 X cur p q i)(hi:i<n)(hpq:p+n≤q)(hq:q+n≤X.length){x y:AV}(hx:X[q+i]? = some x)(hy:X[p+i]? = some y) :
  C9 X ((cur.set (p+i) x).set (q+i) y) p q (i+1):=by
 obtain⟨h1,h2⟩:=h;refine⟨by simp[h1],fun j=>?_⟩;rw[List.getElem?_set,List.length_set,h1,List.getElem?_set,h1,h2 j];by_cases a:q+i=j
 ·subst a;rw[Qn5 rfl,Qn5 (by omega),Qn4 (by omega),Qn5 (by omega),show p+(q+i-q)=p+i by omega,hy]
 ·rw[Qn4 a];by_cases b:p+i=j
  ·subst b;rw[Qn5 rfl,Qn5 (by omega),Qn5 (by omega),show q+(p+i-p)=q+i by omega,hx]
  ·rw[Qn4 b]
   repeat' split
   all_goals first|rfl|(exfalso;omega)|(congr 1;omega)
theorem C9.done {P A M B S cur:List AV}(h:C9 (P++A++M++B++S) cur P.length (P.length+A.length+M.length) A.length)(hAB:A.length=B.length):cur=P++B++M++A++S:=by
 apply List.ext_getElem?
 intro j;rw[h.2 j];simp only[List.getElem?_append,QoB]
 repeat' split
 all_goals first|rfl|(exfalso;omega)|(congr 1;omega)
def SwS (cz:Nat)(m:Qj)(lv s g N p q n:Nat)(X:List AV)(k:Nat)(st:St):Prop :=
 ∃f i cur,st=⟨f,[Qb]++Am.put m lv s (.vec g cz cur),[]⟩∧k=n-i∧i≤n∧C9 X cur p q i∧
  f 0=.vec (lv+1) s g 0 N false∧f 1=.int .i64 (p:Nat)∧f 2=.int .i64 (q:Nat)∧f 3=.int .i64 (n:Nat)∧f 10=.int .i64 (i:Nat)
include hC hcz in
theorem Qlh (cmp:AV)(lv s g:Nat)(P A M B S:List AV)(m:Qj)(hl:Am.Qd m lv s=.vec g cz (P++A++M++B++S))(hAB:A.length=B.length)(he:∀x∈P++A++M++B++S,Ez E cz x)
  (hn:(P++A++M++B++S).length<4611686018427387904) :
  Qe Pg sr [.vec lv s g 0 (P++A++M++B++S).length false,.int .i64 (P.length:Nat),.int .i64 ((P.length+A.length+M.length:Nat):Int),.int .i64 (A.length:Nat),cmp] m
   (fun x m1=>x=.tup []∧m1=Am.put m lv s (.vec g cz (P++B++M++A++S))):=by
 have _:=hC;have _:=hcz;have hlv:lv<m.length:=Xj (by rw[hl];simp);have hlen:(P++A++M++B++S).length=P.length+A.length+M.length+B.length+S.length:=by simp only[QoB]
 refine hC.csr.go (by simp) ?_;simp only[LP,rsr,osr,Qa,seval];have h0:m=Am.put m lv s (.vec g cz (P++A++M++B++S)):=(put_self hl).symm;generalize hX:P++A++M++B++S=X at *;generalize hp:P.length=p at *;generalize hq:p+A.length+M.length=q at *;generalize hnn:A.length=n at *;refine Qi (SwS cz m lv s g X.length p q n X) _ ⟨_,0,X,by rw[←h0]<;>rfl,rfl,Qn6 _,⟨rfl,fun j=>?_⟩,by simp only[Qa,seval],by simp only[Qa,seval],by simp only[Qa,seval],by simp only[Qa,seval],by simp only[Qa,seval]<;>rfl⟩ ?_
 ·rw[Qn4 (by omega),Qn4 (by omega)]
 rintro k st ⟨f,i,cur,rfl,rfl,hi,hsw,f0,f1,f2,f3,f10⟩;simp only[LU,LQ,LR,LS,f3,f10,Qa,seval];by_cases hlt:i<n
 ·have d0:decide ((i:Int)<(n:Int))=true:=by simp;omega
  have e1:IntKind.i64.wrap ((p:Int)+(i:Int))=((p+i:Nat):Int):=by rw[Qz];omega
  have e2:IntKind.i64.wrap ((q:Int)+(i:Int))=((q+i:Nat):Int):=by rw[Qz];omega
  have e3:IntKind.i64.wrap ((i:Int)+1)=((i+1:Nat):Int):=by rw[Qz];omega
  obtain⟨x,hx⟩:∃x,X[q+i]? = some x:=⟨_,QnX (by omega)⟩;obtain⟨y,hy⟩:∃y,X[p+i]? = some y:=⟨_,QnX (by omega)⟩;have ex:=he x (Qob hx);have ey:=he y (Qob hy);have cx:cur[q+i]? = some x:=by rw[hsw.2,Qn4 (by omega),Qn4 (by omega),hx]
  have cy:cur[p+i]? = some y:=by rw[hsw.2,Qn4 (by omega),Qn4 (by omega),hy]
  have cx':(cur.set (p+i) x)[q+i]? = some x:=by rw[Qp3 (by omega),cx]
  simp only[d0,e1,e2,e3,f0,f1,f2,f10,YN hlv (show q+i<X.length by omega),YN hlv (show p+i<X.length by omega),YM hlv cx ex,YM hlv cy ey,ex.len,ey.len,ex.leaf,ey.leaf,GN hlv cy ey ex hcz,GN hlv cx' ex ey hcz,Qa,seval];exact⟨n-(i+1),by omega,_,i+1,_,rfl,rfl,by omega,hsw.step hlt (by omega) (by omega) hx hy,by simp only[f0,Qa,seval],by simp only[f1,Qa,seval],by simp only[f2,Qa,seval],by simp only[f3,Qa,seval],by simp only[Qa,seval]⟩
 ·have d0:decide ((i:Int)<(n:Int))=false:=by simp;omega
  have hin:i=n:=by omega
  subst hin;have hc:=C9.done (P:=P) (A:=A) (M:=M) (B:=B) (S:=S) (cur:=cur) (by rw[hX,hp,hnn,hq];exact hsw) (by omega);simp only[d0,hc,put_len,Qa,seval]
include hC hcz in
theorem Np (cmp:AV){fr:Nat→Ob}{lv s g N a b n:Nat}(P A M B S:List AV){m:Qj}(hlv:lv<m.length)(hAB:A.length=B.length)(he:∀x∈P++A++M++B++S,Ez E cz x)
  (hn:(P++A++M++B++S).length<4611686018427387904) (hN:N=(P++A++M++B++S).length) (ha:a=P.length) (hb:b=P.length+A.length+M.length) (hc:n=A.length) :
  Qe Pg sr [.vec (lv+1) s g 0 N false,.int .i64 (a:Nat),.int .i64 (b:Nat),.int .i64 (n:Nat),cmp] (fr :: Am.put m lv s (.vec g cz (P++A++M++B++S)))
   (fun x m1=>x=.tup []∧m1=fr :: Am.put m lv s (.vec g cz (P++B++M++A++S))):=by
 have _:=hC;have _:=hcz;subst hN ha hb hc;refine(Qlh hC hcz cmp (lv+1) s g P A M B S (fr :: Am.put m lv s (.vec g cz (P++A++M++B++S))) (Qq (m:=m) hlv) hAB he hn).mono fun x m1 h=>⟨h.1,?_⟩
 rw[h.2];simp only[Am.put,put_put]
def RoS (cz:Nat)(E:AV→Prop)(m:Qj)(lv s g N mid:Nat)(T:List AV)(cmp:AV)(k:Nat)(st:St):Prop :=
 ∃f P A B S,st=⟨f,[Qb]++Am.put m lv s (.vec g cz (P++A++B++S)),[]⟩∧k=A.length+B.length∧0<A.length∧0<B.length∧P.length+A.length=mid∧P++B++A++S=T∧(P++A++B++S).length=N∧(∀x∈P++A++B++S,Ez E cz x)∧
  f 0=.vec (lv+1) s g 0 N false∧f 2=.int .i64 (mid:Nat)∧f 4=cmp∧f 10=.int .i64 (A.length:Nat)∧f 11=.int .i64 (B.length:Nat)
include hC hcz in
theorem Qli (cmp:AV)(lv s g:Nat)(P X Y S:List AV)(m:Qj)(hl:Am.Qd m lv s=.vec g cz (P++X++Y++S))(hX:0<X.length)(hY:0<Y.length)(he:∀x∈P++X++Y++S,Ez E cz x)
  (hn:(P++X++Y++S).length<4611686018427387904) :
  Qe Pg ro [.vec lv s g 0 (P++X++Y++S).length false,.int .i64 (P.length:Nat),.int .i64 ((P.length+X.length:Nat):Int),.int .i64 ((P.length+X.length+Y.length:Nat):Int),cmp] m
   (fun x m1=>x=.tup []∧m1=Am.put m lv s (.vec g cz (P++Y++X++S))):=by
 have _:=hC;have _:=hcz;have hlv:lv<m.length:=Xj (by rw[hl];simp);have hlen:(P++X++Y++S).length=P.length+X.length+Y.length+S.length:=by simp only[QoB]
 refine hC.cro.go (by simp) ?_;have e1:IntKind.i64.wrap (((P.length+X.length:Nat):Int)-(P.length:Int))=((X.length:Nat):Int):=by rw[Qz];omega
 have e2:IntKind.i64.wrap (((P.length+X.length+Y.length:Nat):Int)-((P.length+X.length:Nat):Int))=((Y.length:Nat):Int):=by rw[Qz];omega
 simp only[LV,LW,L4,rro,oro,e1,e2,Qa,seval];have h0:m=Am.put m lv s (.vec g cz (P++X++Y++S)):=(put_self hl).symm;refine Qi (RoS cz E m lv s g (P++X++Y++S).length (P.length+X.length) (P++Y++X++S) cmp.sh) _ ⟨_,P,X,Y,S,by rw[←h0]<;>rfl,rfl,hX,hY,rfl,rfl,rfl,he,by simp only[Qa,seval],by simp only[Qa,seval],by simp only[Qa,seval],by simp only[Qa,seval],by simp only[Qa,seval]⟩ ?_;generalize hT:P++Y++X++S=T;generalize hN:(P++X++Y++S).length=N at *;generalize hmid:P.length+X.length=mid at *;clear hl he h0 hX hY e1 e2;rintro k st ⟨f,P',A,B,S',rfl,rfl,hA,hB,hm,hTT,hNN,hee,f0,f2,f4,f10,f11⟩;have hlen':(P'++A++B++S').length=P'.length+A.length+B.length+S'.length:=by simp only[QoB]
 simp only[L3,LX,LY,LZ,L0,L1,L2,f10,f11,Qa,seval];by_cases hij:A.length=B.length
 ·have d0:((A.length:Int) != (B.length:Int))=false:=by simp;omega
  have e1:IntKind.i64.wrap ((mid:Int)-(A.length:Int))=((P'.length:Nat):Int):=by rw[Qz];omega
  simp only[d0,e1,f0,f2,f4,f10,Qa,seval];have hc:=Np hC hcz cmp.sh (fr:=Qb) (g:=g) (s:=s) (N:=N) (a:=P'.length) (b:=mid) (n:=A.length) P' A [] B S' hlv hij (by simpa using hee) (by simp only[Qo1];omega) (by simp only[Qo1];omega) rfl (by simp only[QoT];omega) rfl;simp only[Qo1]at hc;refine Qh hc rfl ?_;simp only[hTT,put_len,Qa,seval]
 ·have d0:((A.length:Int) != (B.length:Int))=true:=by simp;omega
  simp only[d0,f10,f11,Qa,seval];by_cases hgt:B.length<A.length
  ·have d1:decide ((A.length:Int) > (B.length:Int))=true:=by simp;omega
   have e1:IntKind.i64.wrap ((mid:Int)-(A.length:Int))=((P'.length:Nat):Int):=by rw[Qz];omega
   have e2:IntKind.i64.wrap ((A.length:Int)-(B.length:Int))=((A.length-B.length:Nat):Int):=by rw[Qz];omega
   simp only[d1,e1,f0,f2,f4,f10,f11,Qa,seval];have hcut:P'++A++B++S'=P'++A.take B.length++A.drop B.length++B++S':=by
    rw[Qoi P' (A.take _),Qpf]
   have hl1:(A.take B.length).length=B.length:=by simp;omega
   rw[hcut]at hee hNN ⊢;refine Qh (Np hC hcz cmp.sh (a:=P'.length) (b:=mid) (n:=B.length) P' (A.take B.length) (A.drop B.length) B S' hlv hl1 hee (by omega) hNN.symm rfl (by rw[hl1];simp;omega) hl1.symm) rfl ?_;simp only[e2,f10,f11,Qa,seval];have hcat:P'++B++A.drop B.length++A.take B.length++S'=(P'++B)++A.drop B.length++A.take B.length++S':=rfl;refine⟨(A.drop B.length).length+(A.take B.length).length,?_,_,P'++B,A.drop B.length,A.take B.length,S',rfl,rfl,by simp;omega,by omega,by simp;omega,?_,?_,?_,by simp only[f0,Qa,seval],by simp only[f2,Qa,seval],by simp only[f4,Qa,seval],by simp only[QoE,Qa,seval],by simp only[f11,hl1,Qa,seval]⟩
   ·simp;omega
   ·rw[←hTT];simp only[Qoi];rw[←Qoi (A.take _),Qpf]
   ·rw[←hNN];simp only[QoB];omega
   ·intro x hx;refine hee x ?_;simp only[Qph]at hx ⊢
    grind
  ·have d1:decide ((A.length:Int) > (B.length:Int))=false:=by simp;omega
   have e1:IntKind.i64.wrap ((mid:Int)-(A.length:Int))=((P'.length:Nat):Int):=by rw[Qz];omega
   have e2:IntKind.i64.wrap ((B.length:Int)-(A.length:Int))=((B.length-A.length:Nat):Int):=by rw[Qz];omega
   have e3:IntKind.i64.wrap ((mid:Int)+(B.length:Int))=((mid+B.length:Nat):Int):=by rw[Qz];omega
   have e4:IntKind.i64.wrap (((mid+B.length:Nat):Int)-(A.length:Int))=((mid+B.length-A.length:Nat):Int):=by rw[Qz];omega
   simp only[d1,e1,e3,e4,f0,f2,f4,f10,f11,Qa,seval];have hcut:P'++A++B++S'=P'++A++B.take (B.length-A.length)++B.drop (B.length-A.length)++S':=by
    rw[Qoi (P'++A) (B.take _),Qpf]
   have hl1:(B.take (B.length-A.length)).length=B.length-A.length:=by simp
   have hl2:(B.drop (B.length-A.length)).length=A.length:=by simp;omega
   rw[hcut]at hee hNN ⊢;refine Qh (Np hC hcz cmp.sh (a:=P'.length) (b:=mid+B.length-A.length) (n:=A.length) P' A (B.take (B.length-A.length)) (B.drop (B.length-A.length)) S' hlv hl2.symm hee (by omega) hNN.symm rfl (by rw[hl1];omega) rfl) rfl ?_;simp only[e2,f10,f11,Qa,seval];refine⟨(B.drop (B.length-A.length)).length+(B.take (B.length-A.length)).length,?_,_,P',B.drop (B.length-A.length),B.take (B.length-A.length),A++S',by simp only[Qoi]<;>rfl,rfl,by omega,by omega,by omega,?_,?_,?_,by simp only[f0,Qa,seval],by simp only[f2,Qa,seval],by simp only[f4,Qa,seval],by simp only[f10,hl2,Qa,seval],by simp only[hl1,Qa,seval]⟩
   ·omega
   ·rw[←hTT];simp only[Qoi];rw[←Qoi (B.take _),Qpf]
   ·rw[←hNN];simp only[QoB];omega
   ·intro x hx;refine hee x ?_;simp only[Qph]at hx ⊢
    grind
end Go.Proofs.YtgnfjkkfbcnbfaaGreatDoor.Tz
namespace Go.Proofs.YtgnfjkkfbcnbfaaGreatDoor.Tz
open Go Am Bt Tg So
variable {Pg:Program}{cz sr ro sm is st ss:Nat}(hC:Tg.Cs Pg cz sr ro sm is st ss)(hcz:cz≠0)
variable {E:AV→Prop}
def lt (c:AV→AV→Int)(x y:AV):Bool:=decide (c x y<0)
structure Cp (Pg:Program)(cz:Nat)(E:AV→Prop)(kc:Nat)(c:AV→AV→Int):Prop where
 call:∀x y,Ez E cz x→Ez E cz y→Qg Pg kc [x,y] (.int .i64 (c x y))
 sw:SW (lt c)
def InS (cz:Nat)(m:Qj)(lv s g N i p:Nat)(kc:Nat)(c:AV→AV→Int)(P L S:List AV)(x:AV)(k:Nat)(st:St):Prop :=
 ∃f U V,st=⟨f,[Qb]++Am.put m lv s (.vec g cz (P++U++[x]++V++S)),[]⟩∧k=U.length∧U++V=L∧(∀v∈V,lt c x v=true)∧
  f 0=.vec (lv+1) s g 0 N false∧f 1=.int .i64 (P.length:Nat)∧f 2=.int .i64 (p:Nat)∧f 3=.fn (.func kc) [] []∧f 8=.int .i64 (i:Nat)∧f 9=.int .i64 ((P.length+U.length:Nat):Int)
def IoS (cz:Nat)(m:Qj)(lv s g N:Nat)(kc:Nat)(c:AV→AV→Int)(P X S:List AV)(k:Nat)(st:St):Prop :=
 ∃f i,st=⟨f,[Qb]++Am.put m lv s (.vec g cz (P++QG (lt c) (X.take i)++X.drop i++S)),[]⟩∧k=X.length+1-i∧1≤i∧(i≤X.length∨(i=1∧X=[]))∧
  f 0=.vec (lv+1) s g 0 N false∧f 1=.int .i64 (P.length:Nat)∧f 2=.int .i64 ((P.length+X.length:Nat):Int)∧f 3=.fn (.func kc) [] []∧f 8=.int .i64 ((P.length+i:Nat):Int)
theorem Sv {α:Type}(U:List α)(h:0<U.length):∃W u,U=W++[u]:=by
 rcases List.eq_nil_or_concat U with rfl|⟨W,u,e⟩
 ·simp at h
 ·exact⟨W,u,by simpa using e⟩
theorem GP {α:Type}{P W V:List α}{u:α}{i:Nat}(h:i=P.length+W.length):(P++(W++[u])++V)[i]? = some u:=by
 subst h;simp
include hC hcz in
theorem Qlj {kc:Nat}{c:AV→AV→Int}(hc:Cp Pg cz E kc c)(lv s g:Nat)(P X S:List AV)(m:Qj)(hl:Am.Qd m lv s=.vec g cz (P++X++S))(he:∀x∈P++X++S,Ez E cz x)
  (hn:(P++X++S).length<4611686018427387904) :
  Qe Pg is [.vec lv s g 0 (P++X++S).length false,.int .i64 (P.length:Nat),.int .i64 ((P.length+X.length:Nat):Int),.fn (.func kc) [] []] m
   (fun x m1=>x=.tup []∧m1=Am.put m lv s (.vec g cz (P++QG (lt c) X++S))):=by
 have _:=hC;have _:=hcz;have hlv:lv<m.length:=Xj (by rw[hl];simp);have hlen:(P++X++S).length=P.length+X.length+S.length:=by simp only[QoB]
 refine hC.cis.go (by simp) ?_;have e1:IntKind.i64.wrap ((P.length:Int)+1)=((P.length+1:Nat):Int):=by rw[Qz];omega
 simp only[Qae,ris,ois,e1,Qa,seval];have h0:m=Am.put m lv s (.vec g cz (P++QG (lt c) (X.take 1)++X.drop 1++S)):=by
  have:P++QG (lt c) (X.take 1)++X.drop 1++S=P++X++S:=by
   cases X with
   |nil=>simp[QG]
   |cons x X=>simp[QG,JC]
  rw[this];exact(put_self hl).symm
 generalize hN:(P++X++S).length=N at *;refine Qi (IoS cz m lv s g N kc c P X S) _ ⟨_,1,by rw[←h0]<;>rfl,rfl,QnV _,by
  cases X with
  |nil=>exact .inr ⟨rfl,rfl⟩
  |cons x X=>exact .inl (by simp),by simp only[Qa,seval],by simp only[Qa,seval],by simp only[Qa,seval],by simp only[Qa,seval],by simp only[Qa,seval]⟩ ?_
 clear h0 e1;rintro k st ⟨f,i,rfl,rfl,hi1,hi2,f0,f1,f2,f3,f8⟩;simp only[Qak,Qam,Qaf,Qag,Qah,Qai,Qaj,Qal,f2,f8,Qa,seval];by_cases hlt:i<X.length
 ·have d0:decide (((P.length+i:Nat):Int)<((P.length+X.length:Nat):Int))=true:=by simp only[Qn1];omega
  simp only[d0,f8,Qa,seval];obtain⟨x,hx⟩:∃x,X[i]? = some x:=⟨_,QnX hlt⟩;have ex:Ez E cz x:=he x (by simp[Qob hx]);have hL:(QG (lt c) (X.take i)).length=i:=by rw[KC,QoU];omega
  have heL:∀z∈QG (lt c) (X.take i),Ez E cz z:=fun z hz=>he z (by simp[QoL (GG hz)])
  have hdrop:X.drop i=[x]++X.drop (i+1):=by
   rw[List.singleton_append,QoG hlt];congr 1
   exact(QnW.1 hx).2
  have htake:QG (lt c) (X.take (i+1))=mg (lt c) (QG (lt c) (X.take i)) [x]:=by
   rw[QpM,hx,Option.toList_some,←Yg hc.sw]<;>rfl
  refine Qi (InS cz m lv s g N (P.length+i) (P.length+X.length) kc c P (QG (lt c) (X.take i)) (X.drop (i+1)++S) x) _ ⟨_,QG (lt c) (X.take i),[],by rw[hdrop];simp only[Qoi,Qo1]<;>rfl,rfl,Qo1 _,by simp,by simp only[f0,Qa,seval],by simp only[f1,Qa,seval],by simp only[f2,Qa,seval],by simp only[f3,Qa,seval],by simp only[f8,Qa,seval],by simp only[hL,Qa,seval]⟩ ?_;rintro k' st ⟨f,U,V,rfl,rfl,hUV,hV,f0,f1,f2,f3,f8,f9⟩;have hUVl:U.length+V.length=i:=by rw[←QoB,hUV,hL]
  have hrow:(P++U++[x]++V++(X.drop (i+1)++S)).length=N:=by
   rw[←hN];simp only[QoB,QoE,Qpv];omega
  simp only[f1,f9,Qa,seval];have e4:IntKind.i64.wrap (((P.length+i:Nat):Int)+1)=((P.length+(i+1):Nat):Int):=by rw[Qz];omega
  have fin:(∀u∈U,lt c x u=false)→P++U++[x]++V++(X.drop (i+1)++S)=P++QG (lt c) (X.take (i+1))++X.drop (i+1)++S:=by
   intro h;rw[htake,←hUV,Ui h hV];simp
  by_cases hU:0<U.length
  ·obtain⟨W,u,rfl⟩:=Sv U hU;simp only[QoB,Qpv]at hUVl hrow f9;have d1:decide (((P.length+(W.length+1):Nat):Int) > (P.length:Int))=true:=by simp only[Qn1];omega
   have e2:IntKind.i64.wrap (((P.length+(W.length+1):Nat):Int)-1)=((P.length+W.length:Nat):Int):=by rw[Qz];omega
   have eu:Ez E cz u:=heL u (by rw[←hUV];simp);have hx1:(P++(W++[u])++[x]++V++(X.drop (i+1)++S))[P.length+(W.length+1)]? = some x:=by
    have:=GP (P:=P) (W:=W++[u]) (u:=x) (V:=V++(X.drop (i+1)++S)) (i:=P.length+(W.length+1)) (by simp)
    simpa only [Qoi]using this
   have hu1:(P++(W++[u])++[x]++V++(X.drop (i+1)++S))[P.length+W.length]? = some u:=by
    have:=GP (P:=P) (W:=W) (u:=u) (V:=[x]++V++(X.drop (i+1)++S)) (i:=P.length+W.length) rfl
    simpa only [Qoi]using this
   simp only[d1,e2,f0,f3,f9,QoB,YN hlv (show P.length+(W.length+1)<N by omega),YN hlv (show P.length+W.length<N by omega),YM hlv hx1 ex,YM hlv hu1 eu,Qa,seval];refine YW (by simp only[Qa,seval]) (hc.call x u ex eu) (UP ex eu _) (YC ex eu) rfl (.inl (YC ex eu)) ?_;cases hcx:decide (c x u<0)with
   |true=>
    have hset:((P++(W++[u])++[x]++V++(X.drop (i+1)++S)).set (P.length+(W.length+1)) u).set (P.length+W.length) x=P++W++[x]++([u]++V)++(X.drop (i+1)++S):=by
     simp[Qoi]
    have hx2:((P++(W++[u])++[x]++V++(X.drop (i+1)++S)).set (P.length+(W.length+1)) u)[P.length+W.length]? = some u:=by
     rw[Qp3 (by omega),hu1]
    simp only[hcx,e2,f0,f9,YN hlv (show P.length+(W.length+1)<N by omega),YN hlv (show P.length+W.length<N by omega),YM hlv hx1 ex,YM hlv hu1 eu,ex.len,eu.len,ex.leaf,eu.leaf,GN hlv hx1 ex eu hcz,GN hlv hx2 eu ex hcz,Qa,seval];exact⟨W.length,by simp,_,W,[u]++V,by rw[hset]<;>rfl,rfl,by rw[←hUV];simp,by
     intro v hv;rcases Qph.1 hv with hv|hv
     ·rw[Qp8.1 hv];exact hcx
     ·exact hV v hv,by simp only[f0,Qa,seval],by simp only[f1,Qa,seval],by simp only[f2,Qa,seval],by simp only[f3,Qa,seval],by simp only[f8,Qa,seval],by simp only[Qa,seval]⟩
   |false=>
    have hz:∀z∈W++[u],lt c x z=false:=by
     have hsrt:=Zh hc.sw (X.take i);have hsrt:Zm (lt c) ((W++[u])++V):=by rw[hUV];exact hsrt
     have hs2:=(Qpz.1 (Qpz.1 hsrt).1).2.2;intro z hz;rcases Qph.1 hz with hz|hz
     ·exact hc.sw.nt x u z hcx (hs2 z hz u (by simp))
     ·rw[Qp8.1 hz];exact hcx
    simp only[hcx,f8,e4,Qa,seval];exact⟨X.length+1-(i+1),by omega,_,i+1,by rw[fin hz]<;>rfl,rfl,by omega,.inl (by omega),by simp only[f0,Qa,seval],by simp only[f1,Qa,seval],by simp only[f2,Qa,seval],by simp only[f3,Qa,seval],by simp only[Qa,seval]⟩
  ·have hU0:U=[]:=Qo2 (by omega);subst hU0;have d1:decide (((P.length+0:Nat):Int) > (P.length:Int))=false:=by simp
   have fin0:=fin (by simp);simp only[Qo1]at fin0;simp only[QoT]at f9;simp only[d1,f8,e4,QoT,Qa,seval];exact⟨X.length+1-(i+1),by omega,_,i+1,by rw[fin0]<;>rfl,rfl,by omega,.inl (by omega),by simp only[f0,Qa,seval],by simp only[f1,Qa,seval],by simp only[f2,Qa,seval],by simp only[f3,Qa,seval],by simp only[Qa,seval]⟩
 ·have d0:decide (((P.length+i:Nat):Int)<((P.length+X.length:Nat):Int))=false:=by simp only[QpZ];omega
  have hX:QG (lt c) (X.take i)++X.drop i=QG (lt c) X:=by
   rcases hi2 with h|⟨_,rfl⟩
   ·rw[Qox (by omega),QoA (by omega),Qo1]
   ·simp[QG]
  have hX2:P++QG (lt c) (X.take i)++X.drop i++S=P++QG (lt c) X++S:=by rw[Qoi P (QG (lt c) (X.take i)) (X.drop i),hX]
  simp only[d0,hX2,put_len,Qa,seval]
end Go.Proofs.YtgnfjkkfbcnbfaaGreatDoor.Tz
namespace Go.Proofs.YtgnfjkkfbcnbfaaGreatDoor.Tz
open Go Am Bt Tg So
variable {Pg:Program}{cz sr ro sm is st ss:Nat}(hC:Tg.Cs Pg cz sr ro sm is st ss)(hcz:cz≠0)
variable {E:AV→Prop}
theorem Sw (a b:Nat)(h:a+b<9223372036854775808):IntKind.i64.wrap ((IntKind.u64.wrap ((a+b:Nat):Int)).fdiv (2 ^ min 1 64))=(((a+b) / 2:Nat):Int):=by
 rw[Qz,Jj,show min 1 64=1 from rfl,show(2:Int) ^ 1=2 from rfl];have:(((a+b:Nat):Int) % 18446744073709551616)=((a+b:Nat):Int):=by omega
 rw[this,Qqf _ (by omega)];omega
def SaS (cz:Nat)(m:Qj)(lv s g N:Nat)(kc:Nat)(c:AV→AV→Int)(P Y S:List AV)(x:AV)(k:Nat)(st:St):Prop :=
 ∃f i j,st=⟨f,[Qb]++Am.put m lv s (.vec g cz (P++[x]++Y++S)),[]⟩∧k=j-i∧i≤j∧j≤Y.length∧(∀k y,k<i→Y[k]? = some y→lt c y x=true)∧(∀k y,j≤k→Y[k]? = some y→lt c y x=false)∧
  f 0=.vec (lv+1) s g 0 N false∧f 1=.int .i64 (P.length:Nat)∧f 4=.fn (.func kc) [] []∧f 10=.int .i64 ((P.length+1+i:Nat):Int)∧f 11=.int .i64 ((P.length+1+j:Nat):Int)
def SaT (cz:Nat)(m:Qj)(lv s g N i:Nat)(P Y S:List AV)(x:AV)(k:Nat)(st:St):Prop :=
 ∃f t,st=⟨f,[Qb]++Am.put m lv s (.vec g cz (P++Y.take t++[x]++Y.drop t++S)),[]⟩∧k=i-t∧t≤i∧
  f 0=.vec (lv+1) s g 0 N false∧f 10=.int .i64 ((P.length+1+i:Nat):Int)∧f 13=.int .i64 ((P.length+t:Nat):Int)
include hC hcz in
theorem Qlk {kc:Nat}{c:AV→AV→Int}(hc:Cp Pg cz E kc c)(lv s g:Nat)(P:List AV)(x:AV)(Y S:List AV)(m:Qj)(hl:Am.Qd m lv s=.vec g cz (P++[x]++Y++S))(he:∀z∈P++[x]++Y++S,Ez E cz z)
  (hn:(P++[x]++Y++S).length<4611686018427387904) (hY:Zm (lt c) Y) :
  Qe Pg sm [.vec lv s g 0 (P++[x]++Y++S).length false,.int .i64 (P.length:Nat),.int .i64 ((P.length+1:Nat):Int),.int .i64 ((P.length+1+Y.length:Nat):Int),.fn (.func kc) [] []] m
   (fun v m1=>v=.tup []∧m1=Am.put m lv s (.vec g cz (P++mg (lt c) [x] Y++S))):=by
 have _:=hC;have _:=hcz;have hlv:lv<m.length:=Xj (by rw[hl];simp);have hlen:(P++[x]++Y++S).length=P.length+1+Y.length+S.length:=by simp only[QoB,Qpv]
 have ex:Ez E cz x:=he x (by simp);have eY:∀y∈Y,Ez E cz y:=fun y hy=>he y (by simp[hy])
 refine hC.csm.go (by simp) ?_;have e1:IntKind.i64.wrap (((P.length+1:Nat):Int)-(P.length:Int))=1:=by rw[Qz];omega
 simp only[Vs,Sp,Sq,Sr,Bp,CX,CY,C4,Bq,Bs,Bu,Bv,Bw,Bx,Bz,BA,BB,Hi,Hj,Hk,Um,Un,WV,WW,rsm,BI,e1,Qo7,Qa,seval];have h0:m=Am.put m lv s (.vec g cz (P++[x]++Y++S)):=(put_self hl).symm;generalize hN:(P++[x]++Y++S).length=N at *;refine Qi (SaS cz m lv s g N kc c P Y S x) _ ⟨_,0,Y.length,by rw[←h0]<;>rfl,rfl,Qn6 _,QnV _,(by intro k y hk;exact absurd hk (Qp6 _)),(by intro k y hk hy;rw[Qpm hk]at hy;cases hy),by simp only[Qa,seval],by simp only[Qa,seval],by simp only[Qa,seval],by simp only[Qou,Qa,seval],by simp only[Qa,seval]⟩ ?_;clear h0 e1;rintro k st ⟨f,i,j,rfl,rfl,hij,hj,hp,hq,f0,f1,f4,f10,f11⟩;simp only[Qaa,Qac,Ss,Su,BH,L5,L6,L7,L8,L9,Qab,AD,AE,CZ,C0,C1,C2,C3,C5,C6,C7,BC,BD,BE,BF,BG,f10,f11,Qa,seval];by_cases hlt:i<j
 ·have d0:decide (((P.length+1+i:Nat):Int)<((P.length+1+j:Nat):Int))=true:=by simp only[Qn1];omega
  have e2:IntKind.i64.wrap (((P.length+1+i:Nat):Int)+((P.length+1+j:Nat):Int))=(((P.length+1+i)+(P.length+1+j):Nat):Int):=by rw[Qz];omega
  have e3:=Sw (P.length+1+i) (P.length+1+j) (by omega);have e4:((P.length+1+i)+(P.length+1+j)) / 2=P.length+1+(i+j) / 2:=by omega
  rw[e4]at e3;generalize hh:(i+j) / 2=h at *;have hh1:h<j:=by omega
  have hh2:i≤h:=by omega
  have e5:IntKind.i64.wrap (((P.length+1+h:Nat):Int)+1)=((P.length+1+(h+1):Nat):Int):=by rw[Qz];omega
  obtain⟨y,hy⟩:∃y,Y[h]? = some y:=⟨_,QnX (by omega)⟩;have ey:=eY y (Qob hy);have gy:(P++[x]++Y++S)[P.length+1+h]? = some y:=by
   rw[Qpo (by simp only[QoB,Qpv];omega),Qpp (by simp only[QoB,Qpv];omega)];rw[←hy];congr 1;simp only[QoB,Qpv];omega
  have gx:(P++[x]++Y++S)[P.length]? = some x:=by
   have:=GP (P:=P) (W:=[]) (u:=x) (V:=Y++S) (i:=P.length) rfl
   simpa only [Qoi,Qok]using this
  simp only[d0,e2,e3,f0,f1,f4,f10,f11,YN hlv (show P.length+1+h<N by omega),YN hlv (show P.length<N by omega),YM hlv gy ey,YM hlv gx ex,Qa,seval];refine YW (by simp only[Qa,seval]) (hc.call y x ey ex) (UP ey ex _) (YC ey ex) rfl (.inl (YC ey ex)) ?_;cases hcx:decide (c y x<0)with
  |true=>
   simp only[hcx,e5,Qa,seval];exact⟨j-(h+1),by omega,_,h+1,j,rfl,rfl,by omega,hj,fun k z hk hz=>Yh hc.sw hY (Nat.le_of_lt_succ hk) hz hy hcx,hq,by simp only[f0,Qa,seval],by simp only[f1,Qa,seval],by simp only[f4,Qa,seval],by simp only[Qa,seval],by simp only[f11,Qa,seval]⟩
  |false=>
   simp only[hcx,Qa,seval];exact⟨h-i,by omega,_,i,h,rfl,rfl,by omega,by omega,hp,fun k z hk hz=>by
    cases hb:lt c z x with
    |false=>rfl
    |true=>exact absurd (Yh hc.sw hY hk hy hz hb) (by show ¬(decide _=true);rw[hcx];simp),by simp only[f0,Qa,seval],by simp only[f1,Qa,seval],by simp only[f4,Qa,seval],by simp only[f10,Qa,seval],by simp only[Qa,seval]⟩
 ·have d0:decide (((P.length+1+i:Nat):Int)<((P.length+1+j:Nat):Int))=false:=by simp only[QpZ];omega
  have hij':j=i:=by omega
  subst hij';simp only[d0,f1,Qa,seval];have hres:mg (lt c) [x] Y=Y.take j++x :: Y.drop j:=by
   have:=Qcp (lt:=lt c) (x:=x) (Y1:=Y.take j) (Y2:=Y.drop j) (fun y hy=>by
    obtain⟨k,hk⟩:=Qqg hy;rw[QoC]at hk;split at hk
    ·rename_i h;exact hp k y h hk
    ·cases hk) (fun y hy=>by
    obtain⟨k,hk⟩:=Qqg hy;rw[QoD]at hk;exact hq _ y (by omega) hk)
   rwa [Qpf]at this
  refine Qi (SaT cz m lv s g N j P Y S x) _ ⟨_,0,by rw[show P++Y.take 0++[x]++Y.drop 0++S=P++[x]++Y++S by simp]<;>rfl,rfl,Qn6 _,by simp only[f0,Qa,seval],by simp only[f10,Qa,seval],by simp only[Qou,Qa,seval]⟩ ?_;clear f0 f1 f4 f10 f11 d0 hp hq f;rintro k st ⟨f,t,rfl,rfl,ht,f0,f10,f13⟩;have e6:IntKind.i64.wrap (((P.length+1+j:Nat):Int)-1)=((P.length+j:Nat):Int):=by rw[Qz];omega
  have e7:IntKind.i64.wrap (((P.length+t:Nat):Int)+1)=((P.length+(t+1):Nat):Int):=by rw[Qz];omega
  simp only[e6,f10,f13,Qa,seval];by_cases hlt:t<j
  ·have d0:decide (((P.length+t:Nat):Int)<((P.length+j:Nat):Int))=true:=by simp only[Qn1];omega
   obtain⟨y,hy⟩:∃y,Y[t]? = some y:=⟨_,QnX (by omega)⟩;have ey:=eY y (Qob hy);have hdrop:Y.drop t=[y]++Y.drop (t+1):=by
    rw[List.singleton_append,QoG (by omega)];congr 1
    exact(QnW.1 hy).2
   have htake:Y.take (t+1)=Y.take t++[y]:=by rw[QpM,hy]<;>rfl
   have hlt':(Y.take t).length=t:=by rw[QoU];omega
   have g1:(P++Y.take t++[x]++Y.drop t++S)[P.length+t]? = some x:=by
    have:=GP (P:=P) (W:=Y.take t) (u:=x) (V:=Y.drop t++S) (i:=P.length+t) (by rw[hlt'])
    simpa only [Qoi]using this
   have g2:(P++Y.take t++[x]++Y.drop t++S)[P.length+(t+1)]? = some y:=by
    have:=GP (P:=P) (W:=Y.take t++[x]) (u:=y) (V:=Y.drop (t+1)++S) (i:=P.length+(t+1)) (by rw[QoB,hlt']<;>rfl);rw[hdrop]
    simpa only [Qoi]using this
   have g3:((P++Y.take t++[x]++Y.drop t++S).set (P.length+t) y)[P.length+(t+1)]? = some y:=by
    rw[Qp3 (by omega),g2]
   have hset:((P++Y.take t++[x]++Y.drop t++S).set (P.length+t) y).set (P.length+(t+1)) x=P++Y.take (t+1)++[x]++Y.drop (t+1)++S:=by
    rw[hdrop,htake];simp[hlt']
   simp only[d0,e7,f0,f13,YN hlv (show P.length+(t+1)<N by omega),YN hlv (show P.length+t<N by omega),YM hlv g1 ex,YM hlv g2 ey,ex.len,ey.len,ex.leaf,ey.leaf,GN hlv g1 ex ey hcz,GN hlv g3 ey ex hcz,Qa,seval];exact⟨j-(t+1),by omega,_,t+1,by rw[hset]<;>rfl,rfl,by omega,by simp only[f0,Qa,seval],by simp only[f10,Qa,seval],by simp only[Qa,seval]⟩
  ·have d0:decide (((P.length+t:Nat):Int)<((P.length+j:Nat):Int))=false:=by simp only[QpZ];omega
   have htj:t=j:=by omega
   subst htj;have hfin:P++Y.take t++[x]++Y.drop t++S=P++mg (lt c) [x] Y++S:=by rw[hres];simp
   simp only[d0,hfin,put_len,Qa,seval]
end Go.Proofs.YtgnfjkkfbcnbfaaGreatDoor.Tz
namespace Go.Proofs.YtgnfjkkfbcnbfaaGreatDoor.Tz
open Go Am Bt Tg So
variable {Pg:Program}{cz sr ro sm is st ss:Nat}(hC:Tg.Cs Pg cz sr ro sm is st ss)(hcz:cz≠0)
variable {E:AV→Prop}
def SbS (cz:Nat)(m:Qj)(lv s g N:Nat)(kc:Nat)(c:AV→AV→Int)(P X S:List AV)(y:AV)(k:Nat)(st:St):Prop :=
 ∃f i j,st=⟨f,[Qb]++Am.put m lv s (.vec g cz (P++X++[y]++S)),[]⟩∧k=j-i∧i≤j∧j≤X.length∧(∀k x,k<i→X[k]? = some x→lt c y x=false)∧(∀k x,j≤k→X[k]? = some x→lt c y x=true)∧
  f 0=.vec (lv+1) s g 0 N false∧f 2=.int .i64 ((P.length+X.length:Nat):Int)∧f 4=.fn (.func kc) [] []∧f 14=.int .i64 ((P.length+i:Nat):Int)∧f 15=.int .i64 ((P.length+j:Nat):Int)
def SbT (cz:Nat)(m:Qj)(lv s g N i:Nat)(P X S:List AV)(y:AV)(k:Nat)(st:St):Prop :=
 ∃f t,st=⟨f,[Qb]++Am.put m lv s (.vec g cz (P++X.take t++[y]++X.drop t++S)),[]⟩∧k=t-i∧i≤t∧t≤X.length∧
  f 0=.vec (lv+1) s g 0 N false∧f 14=.int .i64 ((P.length+i:Nat):Int)∧f 17=.int .i64 ((P.length+t:Nat):Int)
include hC hcz in
theorem Qll {kc:Nat}{c:AV→AV→Int}(hc:Cp Pg cz E kc c)(lv s g:Nat)(P X:List AV)(y:AV)(S:List AV)(m:Qj)(hl:Am.Qd m lv s=.vec g cz (P++X++[y]++S))(he:∀x∈P++X++[y]++S,Ez E cz x)
  (hn:(P++X++[y]++S).length<4611686018427387904) (hX:Zm (lt c) X) (hX1:X.length≠1) :
  Qe Pg sm [.vec lv s g 0 (P++X++[y]++S).length false,.int .i64 (P.length:Nat),.int .i64 ((P.length+X.length:Nat):Int),.int .i64 ((P.length+X.length+1:Nat):Int),.fn (.func kc) [] []] m
   (fun v m1=>v=.tup []∧m1=Am.put m lv s (.vec g cz (P++mg (lt c) X [y]++S))):=by
 have _:=hC;have _:=hcz;have hlv:lv<m.length:=Xj (by rw[hl];simp);have hlen:(P++X++[y]++S).length=P.length+X.length+1+S.length:=by simp only[QoB,Qpv]
 have ey:Ez E cz y:=he y (by simp);have eX:∀x∈X,Ez E cz x:=fun x hx=>he x (by simp[hx])
 refine hC.csm.go (by simp) ?_;have e1:(IntKind.i64.wrap (((P.length+X.length:Nat):Int)-(P.length:Int))==1)=false:=by rw[Qz];simp only[QpK,ne_eq];omega
 have e2:(IntKind.i64.wrap (((P.length+X.length+1:Nat):Int)-((P.length+X.length:Nat):Int))==1)=true:=by rw[Qz];simp only[Qn2];omega
 simp only[Vs,Sp,Sq,Sr,Bp,CX,CY,C4,Bq,Bs,Bu,Bv,Bw,Bx,Bz,BA,BB,Hi,Hj,Hk,Um,Un,WV,WW,rsm,BI,e1,e2,Qa,seval];have h0:m=Am.put m lv s (.vec g cz (P++X++[y]++S)):=(put_self hl).symm;generalize hN:(P++X++[y]++S).length=N at *;refine Qi (SbS cz m lv s g N kc c P X S y) _ ⟨_,0,X.length,by rw[←h0]<;>rfl,rfl,Qn6 _,QnV _,(by intro k y hk;exact absurd hk (Qp6 _)),(by intro k y hk hy;rw[Qpm hk]at hy;cases hy),by simp only[Qa,seval],by simp only[Qa,seval],by simp only[Qa,seval],by simp only[Qou,Qa,seval],by simp only[Qa,seval]⟩ ?_;clear h0 e1 e2;rintro k st ⟨f,i,j,rfl,rfl,hij,hj,hp,hq,f0,f2,f4,f14,f15⟩;simp only[Ss,Su,BH,CZ,C0,C1,C2,C3,C5,C6,C7,BC,BD,BE,BF,BG,f14,f15,Qa,seval];by_cases hlt:i<j
 ·have d0:decide (((P.length+i:Nat):Int)<((P.length+j:Nat):Int))=true:=by simp only[Qn1];omega
  have e2:IntKind.i64.wrap (((P.length+i:Nat):Int)+((P.length+j:Nat):Int))=(((P.length+i)+(P.length+j):Nat):Int):=by rw[Qz];omega
  have e3:=Sw (P.length+i) (P.length+j) (by omega);have e4:((P.length+i)+(P.length+j)) / 2=P.length+(i+j) / 2:=by omega
  rw[e4]at e3;generalize hh:(i+j) / 2=h at *;have hh1:h<j:=by omega
  have hh2:i≤h:=by omega
  have e5:IntKind.i64.wrap (((P.length+h:Nat):Int)+1)=((P.length+(h+1):Nat):Int):=by rw[Qz];omega
  obtain⟨x,hx⟩:∃x,X[h]? = some x:=⟨_,QnX (by omega)⟩;have ex:=eX x (Qob hx);have gx:(P++X++[y]++S)[P.length+h]? = some x:=by
   rw[Qoi,Qoi,Qpp (by omega),Qpo (by omega),←hx];congr 1;omega
  have gy:(P++X++[y]++S)[P.length+X.length]? = some y:=by
   have:=GP (P:=P) (W:=X) (u:=y) (V:=S) (i:=P.length+X.length) rfl
   simpa only [Qoi]using this
  simp only[d0,e2,e3,f0,f2,f4,f14,f15,YN hlv (show P.length+h<N by omega),YN hlv (show P.length+X.length<N by omega),YM hlv gy ey,YM hlv gx ex,Qa,seval];refine YW (by simp only[Qa,seval]) (hc.call y x ey ex) (UP ey ex _) (YC ey ex) rfl (.inl (YC ey ex)) ?_;cases hcx:decide (c y x<0)with
  |true=>
   simp only[hcx,Qa,seval];exact⟨h-i,by omega,_,i,h,rfl,rfl,by omega,by omega,hp,fun k z hk hz=>by
    have:=Yx hX hc.sw hk hx hz;cases hb:lt c y z with
    |true=>rfl
    |false=>exact absurd (hc.sw.nt y z x hb this) (by show ¬(decide _=false);rw[hcx];simp),by simp only[f0,Qa,seval],by simp only[f2,Qa,seval],by simp only[f4,Qa,seval],by simp only[f14,Qa,seval],by simp only[Qa,seval]⟩
  |false=>
   simp only[hcx,e5,Qa,seval];exact⟨j-(h+1),by omega,_,h+1,j,rfl,rfl,by omega,hj,fun k z hk hz=>hc.sw.nt y x z hcx (Yx hX hc.sw (Nat.le_of_lt_succ hk) hz hx),hq,by simp only[f0,Qa,seval],by simp only[f2,Qa,seval],by simp only[f4,Qa,seval],by simp only[Qa,seval],by simp only[f15,Qa,seval]⟩
 ·have d0:decide (((P.length+i:Nat):Int)<((P.length+j:Nat):Int))=false:=by simp only[QpZ];omega
  have hij':j=i:=by omega
  subst hij';simp only[d0,f2,Qa,seval];have hres:mg (lt c) X [y]=X.take j++y :: X.drop j:=by
   have:=Ui (lt:=lt c) (y:=y) (X1:=X.take j) (X2:=X.drop j) (fun x hx=>by
    obtain⟨k,hk⟩:=Qqg hx;rw[QoC]at hk;split at hk
    ·rename_i h;exact hp k x h hk
    ·cases hk) (fun x hx=>by
    obtain⟨k,hk⟩:=Qqg hx;rw[QoD]at hk;exact hq _ x (by omega) hk)
   rwa [Qpf]at this
  refine Qi (SbT cz m lv s g N j P X S y) _ ⟨_,X.length,by rw[show P++X.take X.length++[y]++X.drop X.length++S=P++X++[y]++S by simp]<;>rfl,rfl,hj,QnV _,by simp only[f0,Qa,seval],by simp only[f14,Qa,seval],by simp only[Qa,seval]⟩ ?_;clear f0 f2 f4 f14 f15 d0 hp hq f;rintro k st ⟨f,t,rfl,rfl,ht,htl,f0,f14,f17⟩;simp only[f14,f17,Qa,seval];by_cases hlt:j<t
  ·have d0:decide (((P.length+t:Nat):Int) > ((P.length+j:Nat):Int))=true:=by simp only[Qn1];omega
   obtain⟨r,rfl⟩:∃r,t=r+1:=⟨t-1,by omega⟩;have e7:IntKind.i64.wrap (((P.length+(r+1):Nat):Int)-1)=((P.length+r:Nat):Int):=by rw[Qz];omega
   obtain⟨x,hx⟩:∃x,X[r]? = some x:=⟨_,QnX (by omega)⟩;have ex:=eX x (Qob hx);have hdrop:X.drop r=[x]++X.drop (r+1):=by
    rw[List.singleton_append,QoG (by omega)];congr 1
    exact(QnW.1 hx).2
   have htake:X.take (r+1)=X.take r++[x]:=by rw[QpM,hx]<;>rfl
   have hlt':(X.take r).length=r:=by rw[QoU];omega
   have g1:(P++X.take (r+1)++[y]++X.drop (r+1)++S)[P.length+r]? = some x:=by
    have:=GP (P:=P) (W:=X.take r) (u:=x) (V:=[y]++X.drop (r+1)++S) (i:=P.length+r) (by rw[hlt']);rw[htake]
    simpa only [Qoi]using this
   have g2:(P++X.take (r+1)++[y]++X.drop (r+1)++S)[P.length+(r+1)]? = some y:=by
    have:=GP (P:=P) (W:=X.take (r+1)) (u:=y) (V:=X.drop (r+1)++S) (i:=P.length+(r+1)) (by rw[QoU];omega)
    simpa only [Qoi]using this
   have g3:((P++X.take (r+1)++[y]++X.drop (r+1)++S).set (P.length+(r+1)) x)[P.length+r]? = some x:=by
    rw[Qp3 (by omega),g1]
   have hset:((P++X.take (r+1)++[y]++X.drop (r+1)++S).set (P.length+(r+1)) x).set (P.length+r) y=P++X.take r++[y]++X.drop r++S:=by
    rw[hdrop,htake];simp[hlt']
   simp only[d0,e7,f0,f17,YN hlv (show P.length+(r+1)<N by omega),YN hlv (show P.length+r<N by omega),YM hlv g1 ex,YM hlv g2 ey,ex.len,ey.len,ex.leaf,ey.leaf,GN hlv g2 ey ex hcz,GN hlv g3 ex ey hcz,Qa,seval];exact⟨r-j,by omega,_,r,by rw[hset]<;>rfl,rfl,by omega,by omega,by simp only[f0,Qa,seval],by simp only[f14,Qa,seval],by simp only[Qa,seval]⟩
  ·have d0:decide (((P.length+t:Nat):Int) > ((P.length+j:Nat):Int))=false:=by simp only[QpZ];omega
   have htj:t=j:=by omega
   subst htj;have hfin:P++X.take t++[y]++X.drop t++S=P++mg (lt c) X [y]++S:=by rw[hres];simp
   simp only[d0,hfin,put_len,Qa,seval]
end Go.Proofs.YtgnfjkkfbcnbfaaGreatDoor.Tz
namespace Go.Proofs.YtgnfjkkfbcnbfaaGreatDoor.Tz
open Go Am Bt Tg So
variable {Pg:Program}{cz sr ro sm is st ss:Nat}(hC:Tg.Cs Pg cz sr ro sm is st ss)(hcz:cz≠0)
variable {E:AV→Prop}
include hC hcz in
theorem QcG (cmp:AV){fr:Nat→Ob}{lv s g N a b n:Nat}(P X Y S:List AV){m:Qj}(hlv:lv<m.length)(hX:0<X.length)(hY:0<Y.length)(he:∀x∈P++X++Y++S,Ez E cz x)
  (hn:(P++X++Y++S).length<4611686018427387904) (hN:N=(P++X++Y++S).length) (ha:a=P.length) (hb:b=P.length+X.length) (hc:n=P.length+X.length+Y.length) :
  Qe Pg ro [.vec (lv+1) s g 0 N false,.int .i64 (a:Nat),.int .i64 (b:Nat),.int .i64 (n:Nat),cmp] (fr :: Am.put m lv s (.vec g cz (P++X++Y++S)))
   (fun x m1=>x=.tup []∧m1=fr :: Am.put m lv s (.vec g cz (P++Y++X++S))):=by
 have _:=hC;have _:=hcz;subst hN ha hb hc;refine(Qli hC hcz cmp (lv+1) s g P X Y S (fr :: Am.put m lv s (.vec g cz (P++X++Y++S))) (Qq (m:=m) hlv) hX hY he hn).mono fun x m1 h=>⟨h.1,?_⟩
 rw[h.2];simp only[Am.put,put_put]
def Dq (Pg:Program)(cz sm:Nat)(E:AV→Prop)(kc:Nat)(c:AV→AV→Int)(n:Nat):Prop :=
 ∀(lv s g:Nat) (P X Y S:List AV) (m:Qj),X.length+Y.length=n→0<X.length→0<Y.length→Am.Qd m lv s=.vec g cz (P++X++Y++S)→(∀x∈P++X++Y++S,Ez E cz x)→
  (P++X++Y++S).length<4611686018427387904→Zm (lt c) X→Zm (lt c) Y→
  Qe Pg sm [.vec lv s g 0 (P++X++Y++S).length false,.int .i64 (P.length:Nat),.int .i64 ((P.length+X.length:Nat):Int),.int .i64 ((P.length+X.length+Y.length:Nat):Int),.fn (.func kc) [] []] m
   (fun v m1=>v=.tup []∧m1=Am.put m lv s (.vec g cz (P++mg (lt c) X Y++S)))
include hC hcz in
theorem HR {kc:Nat}{c:AV→AV→Int}{n:Nat}(h:Dq Pg cz sm E kc c n){fr:Nat→Ob}{lv s g N a b e:Nat}(P X Y S:List AV){m:Qj}(hlv:lv<m.length)(hXY:X.length+Y.length=n)(hX:0<X.length)(hY:0<Y.length)(he:∀x∈P++X++Y++S,Ez E cz x)
  (hn:(P++X++Y++S).length<4611686018427387904) (sX:Zm (lt c) X) (sY:Zm (lt c) Y) (hN:N=(P++X++Y++S).length) (ha:a=P.length) (hb:b=P.length+X.length) (hc:e=P.length+X.length+Y.length) :
  Qe Pg sm [.vec (lv+1) s g 0 N false,.int .i64 (a:Nat),.int .i64 (b:Nat),.int .i64 (e:Nat),.fn (.func kc) [] []] (fr :: Am.put m lv s (.vec g cz (P++X++Y++S)))
   (fun x m1=>x=.tup []∧m1=fr :: Am.put m lv s (.vec g cz (P++mg (lt c) X Y++S))):=by
 have _:=hC;have _:=hcz;subst hN ha hb hc;refine(h (lv+1) s g P X Y S (fr :: Am.put m lv s (.vec g cz (P++X++Y++S))) hXY hX hY (Qq (m:=m) hlv) he hn sX sY).mono fun x m1 h=>⟨h.1,?_⟩
 rw[h.2];simp only[Am.put,put_put]
def ScS (cz:Nat)(m:Qj)(lv s g N mid s0 r0:Nat)(kc:Nat)(c:AV→AV→Int)(P X Y S:List AV)(k:Nat)(st:St):Prop :=
 ∃f i j,st=⟨f,[Qb]++Am.put m lv s (.vec g cz (P++X++Y++S)),[]⟩∧k=j-i∧s0≤i∧i≤j∧j≤r0∧
  (∀k x y,s0≤k→k<i→X[k-P.length]? = some x→Y[mid-1-k]? = some y→lt c y x=false)∧(∀k x y,j≤k→k<r0→X[k-P.length]? = some x→Y[mid-1-k]? = some y→lt c y x=true)∧
  f 0=.vec (lv+1) s g 0 N false∧f 1=.int .i64 (P.length:Nat)∧f 2=.int .i64 ((P.length+X.length:Nat):Int)∧f 3=.int .i64 ((P.length+X.length+Y.length:Nat):Int)∧f 4=.fn (.func kc) [] []∧
  f 18=.int .i64 (mid:Nat)∧f 19=.int .i64 ((mid+(P.length+X.length):Nat):Int)∧f 22=.int .i64 ((mid+(P.length+X.length)-1:Nat):Int)∧f 20=.int .i64 (i:Nat)∧f 21=.int .i64 (j:Nat)
theorem Iw {c:AV→AV→Int}(hsw:SW (lt c)){X Y:List AV}{p mid t:Nat}{s0 r0:Nat}(sX:Zm (lt c) X)(sY:Zm (lt c) Y)(h1:s0≤t)(h2:t≤r0)(hp:p≤t)(htm:t≤mid)(hr:r0=mid∨r0=p+X.length)(hs:mid-s0≥Y.length∨s0=p)(hs2:mid-s0≤Y.length)(hr2:r0≤p+X.length)
  (hlow:∀k x y,s0≤k→k<t→X[k-p]? = some x→Y[mid-1-k]? = some y→lt c y x=false) (hhigh:∀k x y,t≤k→k<r0→X[k-p]? = some x→Y[mid-1-k]? = some y→lt c y x=true) :
  mg (lt c) X Y=mg (lt c) (X.take (t-p)) (Y.take (mid-t))++mg (lt c) (X.drop (t-p)) (Y.drop (mid-t)):=by
 have key:=Uh (lt:=lt c) _ (X.take (t-p)) (Y.take (mid-t)) (X.drop (t-p)) (Y.drop (mid-t)) rfl ?_ ?_
 ·rwa [Qpf,Qpf]at key
 ·intro y hy x hx;obtain⟨k,hk⟩:=Qqg hy;obtain⟨l,hl⟩:=Qqg hx;rw[QoC]at hk;split at hk
  ·rename_i hkt;rw[QoD]at hl;have hlX:t-p+l<X.length:=(QnW.1 hl).1;have hkY:k<Y.length:=(QnW.1 hk).1;have htr:t<r0:=by rcases hr with h|h<;>omega
   by_cases hY2:mid-1-t<Y.length
   ·obtain⟨x0,hx0⟩:∃x,X[t-p]? = some x:=⟨_,QnX (by omega)⟩;obtain⟨y0,hy0⟩:∃y,Y[mid-1-t]? = some y:=⟨_,QnX hY2⟩;have h0:=hhigh t x0 y0 (QnV _) htr hx0 hy0;have h3:=Yh hsw sY (show k≤mid-1-t by omega) hk hy0 h0;have h4:=Yx sX hsw (show t-p≤t-p+l by omega) hx0 hl;cases hb:lt c y x with
    |true=>rfl
    |false=>
     have:=hsw.nt y x x0 hb h4;rw[h3]at this;cases this
   ·exfalso;omega
  ·cases hk
 ·intro x hx y hy;obtain⟨k,hk⟩:=Qqg hy;obtain⟨l,hl⟩:=Qqg hx;rw[QoC]at hl;split at hl
  ·rename_i hlt;rw[QoD]at hk;have hkY:mid-t+k<Y.length:=(QnW.1 hk).1;have hlX:l<X.length:=(QnW.1 hl).1;have hst:s0<t:=by rcases hs with h|h<;>omega
   by_cases hX2:t-1-p<X.length
   ·obtain⟨x0,hx0⟩:∃x,X[t-1-p]? = some x:=⟨_,QnX hX2⟩;obtain⟨y0,hy0⟩:∃y,Y[mid-1-(t-1)]? = some y:=⟨_,QnX (by omega)⟩;have h0:=hlow (t-1) x0 y0 (by omega) (by omega) hx0 hy0;have h3:=Yx sX hsw (show l≤t-1-p by omega) hl hx0;have h4:lt c y x0=false:=by
     cases hb:lt c y x0 with
     |false=>rfl
     |true=>
      have:=Yh hsw sY (show mid-1-(t-1)≤mid-t+k by omega) hy0 hk hb;rw[h0]at this;cases this
    exact hsw.nt y x0 x h4 h3
   ·exfalso;omega
  ·cases hl
section
variable {kc:Nat}{c:AV→AV→Int}{nn lv s g N:Nat}{P X1 X2 Y1 Y2 S:List AV}{m:Qj}{f:Fr}
include hC hcz in
theorem QhL (ih:∀n,n<nn→Dq Pg cz sm E kc c n)(hnn:X2.length+Y2.length<nn)(hlv:lv<m.length)(he:∀x∈P++X2++Y2++S,Ez E cz x)(hN:N=(P++X2++Y2++S).length)(hn:N<4611686018427387904)
  (sX:Zm (lt c) X2) (sY:Zm (lt c) Y2) (f0:f 0=.vec (lv+1) s g 0 N false) (f3:f 3=.int .i64 ((P.length+X2.length+Y2.length:Nat):Int)) (f4:f 4=.fn (.func kc) [] []) (f18:f 18=.int .i64 (P.length:Nat)) (f24:f 24=.int .i64 ((P.length+X2.length:Nat):Int)) :
  Q2 Pg (.seq (.reg (WV cz sr ro sm is st)) (.cond (.t 213) (.reg (WW cz sr ro sm is st)) (.skip))) ⟨f,Qb :: Am.put m lv s (.vec g cz (P++X2++Y2++S)),[]⟩
   (ZY BI m.length (fun v m1=>v=.tup []∧m1=Am.put m lv s (.vec g cz (P++mg (lt c) X2 Y2++S)))):=by
 have _:=hC;have _:=hcz;simp only[WV,WW,BI,f18,f24,Qa,seval];by_cases h1:0<X2.length
 ·have d1:decide ((P.length:Int)<((P.length+X2.length:Nat):Int))=true:=by simp only[Qn1];omega
  by_cases h2:0<Y2.length
  ·have d2:decide (((P.length+X2.length:Nat):Int)<((P.length+X2.length+Y2.length:Nat):Int))=true:=by simp only[Qn1];omega
   simp only[d1,d2,f0,f3,f4,f18,f24,Qa,seval];refine Qh (HR hC hcz (ih _ hnn) P X2 Y2 S hlv rfl h1 h2 he (by omega) sX sY hN rfl rfl rfl) rfl ?_;simp only[put_len,Qa,seval]
  ·have d2:decide (((P.length+X2.length:Nat):Int)<((P.length+X2.length+Y2.length:Nat):Int))=false:=by simp only[QpZ];omega
   have hy:Y2=[]:=Qo2 (by omega);have hfin:P++X2++Y2++S=P++mg (lt c) X2 Y2++S:=by rw[hy,KB];simp
   simp only[d1,d2,f3,f24,hfin,put_len,Qa,seval]
 ·have d1:decide ((P.length:Int)<((P.length+X2.length:Nat):Int))=false:=by simp only[QpZ];omega
  have hx:X2=[]:=Qo2 (by omega);have hfin:P++X2++Y2++S=P++mg (lt c) X2 Y2++S:=by rw[hx,J5];simp
  simp only[d1,hfin,put_len,Qa,seval]
include hC hcz in
theorem QhM (ih:∀n,n<nn→Dq Pg cz sm E kc c n)(hn1:X1.length+Y1.length<nn)(hn2:X2.length+Y2.length<nn)(hlv:lv<m.length)(he:∀x∈P++X1++Y1++(X2++Y2++S),Ez E cz x)(hN:N=(P++X1++Y1++(X2++Y2++S)).length)(hn:N<4611686018427387904)
  (sX1:Zm (lt c) X1) (sY1:Zm (lt c) Y1) (sX:Zm (lt c) X2) (sY:Zm (lt c) Y2) (f0:f 0=.vec (lv+1) s g 0 N false) (f1:f 1=.int .i64 (P.length:Nat)) (f3:f 3=.int .i64 ((P.length+X1.length+Y1.length+X2.length+Y2.length:Nat):Int)) (f4:f 4=.fn (.func kc) [] []) (f18:f 18=.int .i64 ((P.length+X1.length+Y1.length:Nat):Int)) (f20:f 20=.int .i64 ((P.length+X1.length:Nat):Int)) (f24:f 24=.int .i64 ((P.length+X1.length+Y1.length+X2.length:Nat):Int)) :
  Q2 Pg (.seq (.seq (.reg (Um cz sr ro sm is st)) (.cond (.t 199) (.reg (Un cz sr ro sm is st)) (.skip))) (.seq (.reg (WV cz sr ro sm is st)) (.cond (.t 213) (.reg (WW cz sr ro sm is st)) (.skip)))) ⟨f,Qb :: Am.put m lv s (.vec g cz (P++X1++Y1++(X2++Y2++S))),[]⟩
   (ZY BI m.length (fun v m1=>v=.tup []∧m1=Am.put m lv s (.vec g cz (P++(mg (lt c) X1 Y1++mg (lt c) X2 Y2)++S)))):=by
 have _:=hC;have _:=hcz;have hlm:(mg (lt c) X1 Y1).length=X1.length+Y1.length:=Qfd _ _ _ rfl;have hlen:N=P.length+X1.length+Y1.length+X2.length+Y2.length+S.length:=by rw[hN];simp only[QoB];omega
 have hem:∀x∈P++mg (lt c) X1 Y1++X2++Y2++S,Ez E cz x:=by
  intro x hx;refine he x ?_;simp only[Qph]at hx ⊢;rcases hx with(((hx|hx)|hx)|hx)|hx
  ·exact .inl (.inl (.inl hx))
  ·exact(Qfe _ _ _ rfl hx).elim (fun h=>.inl (.inl (.inr h))) (fun h=>.inl (.inr h))
  ·exact .inr (.inl (.inl hx))
  ·exact .inr (.inl (.inr hx))
  ·exact .inr (.inr hx)
 have go:∀f:Fr,f 0=.vec (lv+1) s g 0 N false→f 3=.int .i64 ((P.length+X1.length+Y1.length+X2.length+Y2.length:Nat):Int)→f 4=.fn (.func kc) [] []→f 18=.int .i64 ((P.length+X1.length+Y1.length:Nat):Int)→f 24=.int .i64 ((P.length+X1.length+Y1.length+X2.length:Nat):Int)→
   Q2 Pg (.seq (.reg (WV cz sr ro sm is st)) (.cond (.t 213) (.reg (WW cz sr ro sm is st)) (.skip))) ⟨f,Qb :: Am.put m lv s (.vec g cz (P++mg (lt c) X1 Y1++(X2++Y2++S))),[]⟩
   (ZY BI m.length (fun v m1=>v=.tup []∧m1=Am.put m lv s (.vec g cz (P++(mg (lt c) X1 Y1++mg (lt c) X2 Y2)++S)))):=by
  intro f f0 f3 f4 f18 f24;have hpl:(P++mg (lt c) X1 Y1).length=P.length+X1.length+Y1.length:=by rw[QoB,hlm];omega
  have:=QhL hC hcz (P:=P++mg (lt c) X1 Y1) (X2:=X2) (Y2:=Y2) (S:=S) (m:=m) (f:=f) (g:=g) (s:=s) ih hn2 hlv hem (by rw[hlen];simp only[QoB,hlm];omega) hn sX sY f0 (by rw[hpl];exact f3) f4 (by rw[hpl];exact f18) (by rw[hpl];exact f24);rw[show P++mg (lt c) X1 Y1++(X2++Y2++S)=P++mg (lt c) X1 Y1++X2++Y2++S by simp only[Qoi],show P++(mg (lt c) X1 Y1++mg (lt c) X2 Y2)++S=P++mg (lt c) X1 Y1++mg (lt c) X2 Y2++S by simp only[Qoi]];exact this
 rw[HA,HA];simp only[Um,Un,f1,f20,Hz,WF,JK,WE,WG,DH,Gp,Qw,Xc,Xs,cond_true,cond_false,QoO,seval,Kt];by_cases h1:0<X1.length
 ·have d1:decide ((P.length:Int)<((P.length+X1.length:Nat):Int))=true:=by simp only[Qn1];omega
  by_cases h2:0<Y1.length
  ·have d2:decide (((P.length+X1.length:Nat):Int)<((P.length+X1.length+Y1.length:Nat):Int))=true:=by simp only[Qn1];omega
   simp only[d1,d2,f0,f1,f4,f18,f20,Hz,JJ,WD,WF,JK,WE,WG,DH,Yd,Gp,NM,Yu,HB,Qw,Xc,Xs,cond_true,cond_false,QoO,seval,Kt];refine Qh (HR hC hcz (ih _ hn1) P X1 Y1 (X2++Y2++S) hlv rfl h1 h2 he (by omega) sX1 sY1 hN rfl rfl rfl) rfl ?_;rw[WD,JJ];refine go _ ?_ ?_ ?_ ?_ ?_
   ·simp only[f0,Qa,seval]
   ·simp only[f3,Qa,seval]
   ·simp only[f4,Qa,seval]
   ·simp only[f18,Qa,seval]
   ·simp only[f24,Qa,seval]
  ·have d2:decide (((P.length+X1.length:Nat):Int)<((P.length+X1.length+Y1.length:Nat):Int))=false:=by simp only[QpZ];omega
   have hy:Y1=[]:=Qo2 (by omega);have hres:mg (lt c) X1 Y1=X1++Y1:=by rw[hy,KB,Qo1]
   rw[hres,←Qoi P X1 Y1]at go;simp only[d1,d2,hres,f18,f20,JJ,WD,WF,JK,WE,WG,DH,Yd,Gp,NM,Yu,Yc,U7,Qw,Xc,Xs,cond_true,cond_false,QoO,seval,Kt];refine go _ ?_ ?_ ?_ ?_ ?_
   ·simp only[f0,Qa,seval]
   ·simp only[f3,Qa,seval]
   ·simp only[f4,Qa,seval]
   ·simp only[f18,Qa,seval]
   ·simp only[f24,Qa,seval]
 ·have d1:decide ((P.length:Int)<((P.length+X1.length:Nat):Int))=false:=by simp only[QpZ];omega
  have hx:X1=[]:=Qo2 (by omega);have hres:mg (lt c) X1 Y1=X1++Y1:=by rw[hx,J5,Qok]
  rw[hres,←Qoi P X1 Y1]at go;simp only[d1,hres,JJ,WD,WF,JK,WE,WG,DH,UC,Gp,NM,Yu,Yc,U7,Qw,cond_true,cond_false,QoO,seval,Kt];refine go _ ?_ ?_ ?_ ?_ ?_
  ·simp only[f0,Qa,seval]
  ·simp only[f3,Qa,seval]
  ·simp only[f4,Qa,seval]
  ·simp only[f18,Qa,seval]
  ·simp only[f24,Qa,seval]
include hC hcz in
theorem QhN (ih:∀n,n<nn→Dq Pg cz sm E kc c n)(hn1:X1.length+Y1.length<nn)(hn2:X2.length+Y2.length<nn)(hlv:lv<m.length)(he:∀x∈P++X1++X2++Y1++(Y2++S),Ez E cz x)(hN:N=(P++X1++X2++Y1++(Y2++S)).length)(hn:N<4611686018427387904)
  (sX1:Zm (lt c) X1) (sY1:Zm (lt c) Y1) (sX:Zm (lt c) X2) (sY:Zm (lt c) Y2) (f0:f 0=.vec (lv+1) s g 0 N false) (f1:f 1=.int .i64 (P.length:Nat)) (f2:f 2=.int .i64 ((P.length+X1.length+X2.length:Nat):Int)) (f3:f 3=.int .i64 ((P.length+X1.length+Y1.length+X2.length+Y2.length:Nat):Int)) (f4:f 4=.fn (.func kc) [] []) (f18:f 18=.int .i64 ((P.length+X1.length+Y1.length:Nat):Int)) (f19:f 19=.int .i64 ((P.length+X1.length+Y1.length+(P.length+X1.length+X2.length):Nat):Int)) (f20:f 20=.int .i64 ((P.length+X1.length:Nat):Int)) :
  Q2 Pg (.seq (.reg (Hi cz sr ro sm is st)) (.seq (.seq (.reg (Hj cz sr ro sm is st)) (.cond (.t 185) (.reg (Hk cz sr ro sm is st)) (.skip))) (.seq (.seq (.reg (Um cz sr ro sm is st)) (.cond (.t 199) (.reg (Un cz sr ro sm is st)) (.skip))) (.seq (.reg (WV cz sr ro sm is st)) (.cond (.t 213) (.reg (WW cz sr ro sm is st)) (.skip)))))) ⟨f,Qb :: Am.put m lv s (.vec g cz (P++X1++X2++Y1++(Y2++S))),[]⟩
   (ZY BI m.length (fun v m1=>v=.tup []∧m1=Am.put m lv s (.vec g cz (P++(mg (lt c) X1 Y1++mg (lt c) X2 Y2)++S)))):=by
 have _:=hC;have _:=hcz;have hlen:N=P.length+X1.length+Y1.length+X2.length+Y2.length+S.length:=by rw[hN];simp only[QoB];omega
 have hem:∀x∈P++X1++Y1++(X2++Y2++S),Ez E cz x:=by
  intro x hx;refine he x ?_;simp only[Qph]at hx ⊢;rcases hx with((hx|hx)|hx)|((hx|hx)|hx)
  ·exact .inl (.inl (.inl (.inl hx)))
  ·exact .inl (.inl (.inl (.inr hx)))
  ·exact .inl (.inr hx)
  ·exact .inl (.inl (.inr hx))
  ·exact .inr (.inl hx)
  ·exact .inr (.inr hx)
 have go:∀f:Fr,f 0=.vec (lv+1) s g 0 N false→f 1=.int .i64 (P.length:Nat)→f 3=.int .i64 ((P.length+X1.length+Y1.length+X2.length+Y2.length:Nat):Int)→f 4=.fn (.func kc) [] []→f 18=.int .i64 ((P.length+X1.length+Y1.length:Nat):Int)→f 20=.int .i64 ((P.length+X1.length:Nat):Int)→f 24=.int .i64 ((P.length+X1.length+Y1.length+X2.length:Nat):Int)→_ :=
  fun f f0 f1 f3 f4 f18 f20 f24=>QhM hC hcz (P:=P) (X1:=X1) (Y1:=Y1) (X2:=X2) (Y2:=Y2) (S:=S) (m:=m) (f:=f) (g:=g) (s:=s) ih hn1 hn2 hlv hem (by rw[hlen];simp only[QoB];omega) hn sX1 sY1 sX sY f0 f1 f3 f4 f18 f20 f24
 have e1:IntKind.i64.wrap (((P.length+X1.length+Y1.length+(P.length+X1.length+X2.length):Nat):Int)-((P.length+X1.length:Nat):Int))=((P.length+X1.length+Y1.length+X2.length:Nat):Int):=by rw[Qz];omega
 rw[HA];simp only[Hi,e1,f19,f20,Hz,JJ,WD,WF,JK,WE,WG,Gp,Qw,Xc,Xs,cond_true,cond_false,QoO,seval,Kt];rw[HA,HA];simp only[Hj,f2,f20,Hz,WF,JK,WE,WG,DH,Gp,Qw,Xc,Xs,cond_true,cond_false,QoO,seval,Kt];by_cases h1:0<X2.length
 ·have d1:decide (((P.length+X1.length:Nat):Int)<((P.length+X1.length+X2.length:Nat):Int))=true:=by simp only[Qn1];omega
  by_cases h2:0<Y1.length
  ·have d2:decide (((P.length+X1.length+X2.length:Nat):Int)<((P.length+X1.length+Y1.length+X2.length:Nat):Int))=true:=by simp only[Qn1];omega
   simp only[Hk,d1,d2,f0,f2,f4,f20,Hz,JJ,WD,WF,JK,WE,WG,DH,Yd,Gp,NM,Yu,HB,Qw,Xc,Xs,cond_true,cond_false,QoO,seval,Kt];refine Qh (QcG hC hcz (.fn (.func kc) [] []) (P++X1) X2 Y1 (Y2++S) (n:=P.length+X1.length+Y1.length+X2.length) hlv h1 h2 he (by omega) hN (by rw[QoB]) (by rw[QoB]) (by rw[QoB];omega)) rfl ?_;rw[WD,JJ];rw[show P++X1++Y1++X2++(Y2++S)=P++X1++Y1++(X2++Y2++S)by simp only[Qoi]];refine go _ ?_ ?_ ?_ ?_ ?_ ?_ ?_
   ·simp only[f0,Qa,seval]
   ·simp only[f1,Qa,seval]
   ·simp only[f3,Qa,seval]
   ·simp only[f4,Qa,seval]
   ·simp only[f18,Qa,seval]
   ·simp only[f20,Qa,seval]
   ·simp only[Qa,seval]
  ·have d2:decide (((P.length+X1.length+X2.length:Nat):Int)<((P.length+X1.length+Y1.length+X2.length:Nat):Int))=false:=by simp only[QpZ];omega
   have hy:Y1=[]:=Qo2 (by omega);have hrow:P++X1++X2++Y1++(Y2++S)=P++X1++Y1++(X2++Y2++S):=by rw[hy];simp
   simp only[d1,d2,hrow,f2,JJ,WD,WF,JK,WE,WG,DH,Yd,Gp,NM,Yu,Yc,U7,Qw,Xc,Xs,cond_true,cond_false,QoO,seval,Kt];refine go _ ?_ ?_ ?_ ?_ ?_ ?_ ?_
   ·simp only[f0,Qa,seval]
   ·simp only[f1,Qa,seval]
   ·simp only[f3,Qa,seval]
   ·simp only[f4,Qa,seval]
   ·simp only[f18,Qa,seval]
   ·simp only[f20,Qa,seval]
   ·simp only[Qa,seval]
 ·have d1:decide (((P.length+X1.length:Nat):Int)<((P.length+X1.length+X2.length:Nat):Int))=false:=by simp only[QpZ];omega
  have hx:X2=[]:=Qo2 (by omega);have hrow:P++X1++X2++Y1++(Y2++S)=P++X1++Y1++(X2++Y2++S):=by rw[hx];simp
  simp only[d1,hrow,JJ,WD,WF,JK,WE,WG,DH,UC,Gp,NM,Yu,Yc,U7,Qw,cond_true,cond_false,QoO,seval,Kt];refine go _ ?_ ?_ ?_ ?_ ?_ ?_ ?_
  ·simp only[f0,Qa,seval]
  ·simp only[f1,Qa,seval]
  ·simp only[f3,Qa,seval]
  ·simp only[f4,Qa,seval]
  ·simp only[f18,Qa,seval]
  ·simp only[f20,Qa,seval]
  ·simp only[Qa,seval]
end
set_option maxHeartbeats 1000000 in
include hC hcz in
theorem Qlm {kc:Nat}{c:AV→AV→Int}(hc:Cp Pg cz E kc c)(nn:Nat)(ih:∀n,n<nn→Dq Pg cz sm E kc c n)(lv s g:Nat)(P X Y S:List AV)(m:Qj)(hXY:X.length+Y.length=nn)(hX1:1<X.length)(hY1:1<Y.length)(hl:Am.Qd m lv s=.vec g cz (P++X++Y++S))(he:∀x∈P++X++Y++S,Ez E cz x)
  (hn:(P++X++Y++S).length<4611686018427387904) (sX:Zm (lt c) X) (sY:Zm (lt c) Y) :
  Qe Pg sm [.vec lv s g 0 (P++X++Y++S).length false,.int .i64 (P.length:Nat),.int .i64 ((P.length+X.length:Nat):Int),.int .i64 ((P.length+X.length+Y.length:Nat):Int),.fn (.func kc) [] []] m
   (fun v m1=>v=.tup []∧m1=Am.put m lv s (.vec g cz (P++mg (lt c) X Y++S))):=by
 have _:=hC;have _:=hcz;have hlv:lv<m.length:=Xj (by rw[hl];simp);have hlen:(P++X++Y++S).length=P.length+X.length+Y.length+S.length:=by simp only[QoB]
 refine hC.csm.go (by simp) ?_;have e1:(IntKind.i64.wrap (((P.length+X.length:Nat):Int)-(P.length:Int))==1)=false:=by rw[Qz];simp only[QpK,ne_eq];omega
 have e2:(IntKind.i64.wrap (((P.length+X.length+Y.length:Nat):Int)-((P.length+X.length:Nat):Int))==1)=false:=by rw[Qz];simp only[QpK,ne_eq];omega
 have e3:IntKind.i64.wrap ((P.length:Int)+((P.length+X.length+Y.length:Nat):Int))=((P.length+(P.length+X.length+Y.length):Nat):Int):=by rw[Qz];omega
 have e4:=Sw P.length (P.length+X.length+Y.length) (by omega);generalize hmid:(P.length+(P.length+X.length+Y.length)) / 2=mid at *;have e5:IntKind.i64.wrap ((mid:Int)+((P.length+X.length:Nat):Int))=((mid+(P.length+X.length):Nat):Int):=by rw[Qz];omega
 have e6:IntKind.i64.wrap (((mid+(P.length+X.length):Nat):Int)-((P.length+X.length+Y.length:Nat):Int))=((mid+(P.length+X.length)-(P.length+X.length+Y.length):Nat):Int)∨mid<Y.length:=by
  by_cases h:mid<Y.length
  ·exact .inr h
  ·refine .inl ?_;rw[Qz];omega
 have e7:IntKind.i64.wrap (((mid+(P.length+X.length):Nat):Int)-1)=((mid+(P.length+X.length)-1:Nat):Int):=by rw[Qz];omega
 simp only[rsm,Vs,Bp,Bq,Bs,Bu,Bv,Bw,Bx,Bz,BA,BB,e1,e2,e3,e4,e5,Qa,seval];have h0:m=Am.put m lv s (.vec g cz (P++X++Y++S)):=(put_self hl).symm;generalize hN:(P++X++Y++S).length=N at *
 -- the search, from whatever bounds
 have main:∀(Q:Exit→St→Prop) (f:Fr) (s0 r0:Nat),s0≤r0→r0≤mid→(r0=mid∨r0=P.length+X.length)→(mid-s0≥Y.length∨s0=P.length)→mid-s0≤Y.length→r0≤P.length+X.length→P.length≤s0→
   f 0=.vec (lv+1) s g 0 N false→f 1=.int .i64 (P.length:Nat)→f 2=.int .i64 ((P.length+X.length:Nat):Int)→f 3=.int .i64 ((P.length+X.length+Y.length:Nat):Int)→f 4=.fn (.func kc) [] []→
   f 18=.int .i64 (mid:Nat)→f 19=.int .i64 ((mid+(P.length+X.length):Nat):Int)→f 22=.int .i64 ((mid+(P.length+X.length)-1:Nat):Int)→f 20=.int .i64 (s0:Nat)→f 21=.int .i64 (r0:Nat)→
   (∀(f:Fr) (t:Nat),s0≤t→t≤r0→mg (lt c) X Y=mg (lt c) (X.take (t-P.length)) (Y.take (mid-t))++mg (lt c) (X.drop (t-P.length)) (Y.drop (mid-t))→
    f 0=.vec (lv+1) s g 0 N false→f 1=.int .i64 (P.length:Nat)→f 2=.int .i64 ((P.length+X.length:Nat):Int)→f 3=.int .i64 ((P.length+X.length+Y.length:Nat):Int)→f 4=.fn (.func kc) [] []→
    f 18=.int .i64 (mid:Nat)→f 19=.int .i64 ((mid+(P.length+X.length):Nat):Int)→f 20=.int .i64 (t:Nat)→Q (.exit 8) ⟨f,Qb :: Am.put m lv s (.vec g cz (P++X++Y++S)),[]⟩)→
   Q2 Pg (.loop (BH cz sr ro sm is st)) ⟨f,Qb :: m,[]⟩ Q:=by
  intro Q f s0 r0 hsr hrm hr hs hs2 hr2 hps f0 f1 f2 f3 f4 f18 f19 f22 f20 f21 hQ;refine Qi (ScS cz m lv s g N mid s0 r0 kc c P X Y S) _ ⟨_,s0,r0,by rw[←h0]<;>rfl,rfl,QnV _,hsr,QnV _,(by intro k x y h1 h2;omega),(by intro k x y h1 h2;omega),f0,f1,f2,f3,f4,f18,f19,f22,f20,f21⟩ ?_;clear f0 f1 f2 f3 f4 f18 f19 f22 f20 f21 f;rintro k st ⟨f,i,j,rfl,rfl,hsi,hij,hj,hp,hq,f0,f1,f2,f3,f4,f18,f19,f22,f20,f21⟩;simp only[BH,BC,BD,BE,BF,BG,f20,f21,Qa,seval];by_cases hlt:i<j
  ·have d0:decide ((i:Int)<(j:Int))=true:=by simp only[Qn1];omega
   have e8:IntKind.i64.wrap ((i:Int)+(j:Int))=((i+j:Nat):Int):=by rw[Qz];omega
   have e9:=Sw i j (by omega);generalize hh:(i+j) / 2=h at *;have hh1:h<j:=by omega
   have hh2:i≤h:=by omega
   have ea:IntKind.i64.wrap ((h:Int)+1)=((h+1:Nat):Int):=by rw[Qz];omega
   have eb:IntKind.i64.wrap (((mid+(P.length+X.length)-1:Nat):Int)-(h:Int))=((P.length+X.length+(mid-1-h):Nat):Int):=by rw[Qz];omega
   obtain⟨x,hx⟩:∃x,X[h-P.length]? = some x:=⟨_,QnX (by omega)⟩;obtain⟨y,hy⟩:∃y,Y[mid-1-h]? = some y:=⟨_,QnX (by omega)⟩;have ex:Ez E cz x:=he x (by simp[Qob hx]);have ey:Ez E cz y:=he y (by simp[Qob hy]);have gx:(P++X++Y++S)[h]? = some x:=by
    rw[Qoi,Qoi,Qpp (by omega),Qpo (by omega),hx]
   have gy:(P++X++Y++S)[P.length+X.length+(mid-1-h)]? = some y:=by
    rw[Qoi,Qpp (by rw[QoB];omega),Qpo (by rw[QoB];omega),←hy];congr 1;rw[QoB];omega
   simp only[d0,e8,e9,eb,f0,f4,f20,f21,f22,YN hlv (show P.length+X.length+(mid-1-h)<N by omega),YN hlv (show h<N by omega),YM hlv gy ey,YM hlv gx ex,Qa,seval];refine YW (by simp only[Qa,seval]) (hc.call y x ey ex) (UP ey ex _) (YC ey ex) rfl (.inl (YC ey ex)) ?_;cases hcx:decide (c y x<0)with
   |true=>
    simp only[hcx,Qa,seval];have hq':∀k x' y',h≤k→k<r0→X[k-P.length]? = some x'→Y[mid-1-k]? = some y'→lt c y' x'=true:=by
     intro k x' y' hk hk2 hx' hy';have h3:=Yh hc.sw sY (show mid-1-k≤mid-1-h by omega) hy' hy hcx;have h4:=Yx sX hc.sw (show h-P.length≤k-P.length by omega) hx hx';cases hb:lt c y' x' with
     |true=>rfl
     |false=>
      have:=hc.sw.nt y' x' x hb h4;rw[h3]at this;cases this
    exact⟨h-i,by omega,_,i,h,rfl,rfl,hsi,by omega,by omega,hp,hq',by simp only[f0,Qa,seval],by simp only[f1,Qa,seval],by simp only[f2,Qa,seval],by simp only[f3,Qa,seval],by simp only[f4,Qa,seval],by simp only[f18,Qa,seval],by simp only[f19,Qa,seval],by simp only[f22,Qa,seval],by simp only[f20,Qa,seval],by simp only[Qa,seval]⟩
   |false=>
    simp only[hcx,ea,Qa,seval];exact⟨j-(h+1),by omega,_,h+1,j,rfl,rfl,by omega,by omega,hj,fun k x' y' hk hk2 hx' hy'=>by
     have h3:=Yx sX hc.sw (show k-P.length≤h-P.length by omega) hx' hx;have h4:lt c y' x=false:=by
      cases hb:lt c y' x with
      |false=>rfl
      |true=>exact absurd (Yh hc.sw sY (show mid-1-h≤mid-1-k by omega) hy hy' hb) (by show ¬(decide _=true);rw[hcx];simp)
     exact hc.sw.nt y' x x' h4 h3,hq,by simp only[f0,Qa,seval],by simp only[f1,Qa,seval],by simp only[f2,Qa,seval],by simp only[f3,Qa,seval],by simp only[f4,Qa,seval],by simp only[f18,Qa,seval],by simp only[f19,Qa,seval],by simp only[f22,Qa,seval],by simp only[Qa,seval],by simp only[f21,Qa,seval]⟩
  ·have d0:decide ((i:Int)<(j:Int))=false:=by simp only[QpZ];omega
   have hij':j=i:=by omega
   subst hij';simp only[d0,Qa,seval];refine hQ _ j (by omega) (by omega) (Iw hc.sw sX sY hsi hj (by omega) (by omega) hr hs hs2 hr2 hp hq) ?_ ?_ ?_ ?_ ?_ ?_ ?_ ?_
   ·simp only[f0,Qa,seval]
   ·simp only[f1,Qa,seval]
   ·simp only[f2,Qa,seval]
   ·simp only[f3,Qa,seval]
   ·simp only[f4,Qa,seval]
   ·simp only[f18,Qa,seval]
   ·simp only[f19,Qa,seval]
   ·simp only[f20,Qa,seval]
 have hb1:mid≤P.length+X.length+Y.length:=by omega
 have fin:∀(f:Fr) (t:Nat),P.length≤t→t≤mid→t≤P.length+X.length→mid-t≤Y.length→mg (lt c) X Y=mg (lt c) (X.take (t-P.length)) (Y.take (mid-t))++mg (lt c) (X.drop (t-P.length)) (Y.drop (mid-t))→
    f 0=.vec (lv+1) s g 0 N false→f 1=.int .i64 (P.length:Nat)→f 2=.int .i64 ((P.length+X.length:Nat):Int)→f 3=.int .i64 ((P.length+X.length+Y.length:Nat):Int)→f 4=.fn (.func kc) [] []→
    f 18=.int .i64 (mid:Nat)→f 19=.int .i64 ((mid+(P.length+X.length):Nat):Int)→f 20=.int .i64 (t:Nat)→
   Q2 Pg (.seq (.reg (Hi cz sr ro sm is st)) (.seq (.seq (.reg (Hj cz sr ro sm is st)) (.cond (.t 185) (.reg (Hk cz sr ro sm is st)) (.skip))) (.seq (.seq (.reg (Um cz sr ro sm is st)) (.cond (.t 199) (.reg (Un cz sr ro sm is st)) (.skip))) (.seq (.reg (WV cz sr ro sm is st)) (.cond (.t 213) (.reg (WW cz sr ro sm is st)) (.skip)))))) ⟨f,Qb :: Am.put m lv s (.vec g cz (P++X++Y++S)),[]⟩
   (ZY BI m.length (fun v m1=>v=.tup []∧m1=Am.put m lv s (.vec g cz (P++mg (lt c) X Y++S)))):=by
  intro f t h1 h2 h3 h4 hmg f0 f1 f2 f3 f4 f18 f19 f20;have l1:(X.take (t-P.length)).length=t-P.length:=by rw[QoU];omega
  have l2:(X.drop (t-P.length)).length=P.length+X.length-t:=by rw[QoE];omega
  have l3:(Y.take (mid-t)).length=mid-t:=by rw[QoU];omega
  have l4:(Y.drop (mid-t)).length=Y.length-(mid-t):=by rw[QoE]
  have hrow:P++X.take (t-P.length)++X.drop (t-P.length)++Y.take (mid-t)++(Y.drop (mid-t)++S)=P++X++Y++S:=by
   rw[Qoi P,Qpf,←Qoi _ _ S,Qoi (P++X),Qpf]
  have:=QhN hC hcz (kc:=kc) (c:=c) (nn:=nn) (lv:=lv) (s:=s) (g:=g) (N:=N) (P:=P) (X1:=X.take (t-P.length)) (X2:=X.drop (t-P.length)) (Y1:=Y.take (mid-t)) (Y2:=Y.drop (mid-t)) (S:=S) (m:=m) (f:=f) ih
   (by rw[l1,l3];omega) (by rw[l2,l4];omega) hlv (by rw[hrow];exact he) (by rw[hrow,hN]) hn
   (List.Pairwise.sublist (List.take_sublist _ _) sX) (List.Pairwise.sublist (List.take_sublist _ _) sY) (List.Pairwise.sublist (List.drop_sublist _ _) sX) (List.Pairwise.sublist (List.drop_sublist _ _) sY)
   f0 f1 (by rw[f2,l1,l2];congr 2;omega) (by rw[f3,l1,l2,l3,l4];congr 2;omega) f4 (by rw[f18,l1,l3];congr 2;omega) (by rw[f19,l1,l2,l3];congr 2;omega) (by rw[f20,l1];congr 2;omega)
  rw[hrow,←hmg]at this;exact this
 by_cases hgt:mid<P.length+X.length
 ·have d0:decide (((P.length+X.length:Nat):Int) > (mid:Int))=true:=by simp only[Qn1];omega
  have hmy:Y.length≤mid:=by omega
  have e6':=e6.resolve_right (by omega);simp only[d0,e6',e7,Qa,seval];refine main _ _ (mid+(P.length+X.length)-(P.length+X.length+Y.length)) mid (by omega) (by omega) (.inl rfl) (.inl (by omega)) (by omega) (by omega) (by omega) ?_ ?_ ?_ ?_ ?_ ?_ ?_ ?_ ?_ ?_ ?_
  case refine_11=>
   intro f t h1 h2 hmg f0 f1 f2 f3 f4 f18 f19 f20;rw[FQ,Qn5 rfl,JJ];exact fin f t (by omega) (by omega) (by omega) (by omega) hmg f0 f1 f2 f3 f4 f18 f19 f20
  all_goals simp only[Qa,seval]
 ·have d0:decide (((P.length+X.length:Nat):Int) > (mid:Int))=false:=by simp only[QpZ];omega
  simp only[d0,e7,Qa,seval];refine main _ _ P.length (P.length+X.length) (by omega) (by omega) (.inr rfl) (.inr rfl) (by omega) (by omega) (by omega) ?_ ?_ ?_ ?_ ?_ ?_ ?_ ?_ ?_ ?_ ?_
  case refine_11=>
   intro f t h1 h2 hmg f0 f1 f2 f3 f4 f18 f19 f20;rw[FQ,Qn5 rfl,JJ];exact fin f t (by omega) (by omega) (by omega) (by omega) hmg f0 f1 f2 f3 f4 f18 f19 f20
  all_goals simp only[Qa,seval]
include hC hcz in
theorem sym {kc:Nat}{c:AV→AV→Int}(hc:Cp Pg cz E kc c):∀n,Dq Pg cz sm E kc c n:=by
 have _:=hC;have _:=hcz;intro n
 induction n using Nat.strongRecOn with
 |_ n ih=>
 intro lv s g P X Y S m hXY hX hY hl he hn sX sY;by_cases h1:X.length=1
 ·obtain⟨x,rfl⟩:=List.length_eq_one_iff.1 h1;exact Qlk hC hcz hc lv s g P x Y S m hl he hn sY
 ·by_cases h2:Y.length=1
  ·obtain⟨y,rfl⟩:=List.length_eq_one_iff.1 h2;exact Qll hC hcz hc lv s g P X y S m hl he hn sX h1
  ·exact Qlm hC hcz hc n ih lv s g P X Y S m hXY (by omega) (by omega) hl he hn sX sY
end Go.Proofs.YtgnfjkkfbcnbfaaGreatDoor.Tz
namespace Go.Proofs.YtgnfjkkfbcnbfaaGreatDoor.Tz
open Go Am Bt Tg So
variable {Pg:Program}{cz sr ro sm is st ss:Nat}(hC:Tg.Cs Pg cz sr ro sm is st ss)(hcz:cz≠0)
variable {E:AV→Prop}
include hC hcz in
theorem PX {kc:Nat}{c:AV→AV→Int}(hc:Cp Pg cz E kc c){fr:Nat→Ob}{lv s g N a b:Nat}(P X S:List AV){m:Qj}(hlv:lv<m.length)(he:∀x∈P++X++S,Ez E cz x)
  (hn:(P++X++S).length<4611686018427387904) (hN:N=(P++X++S).length) (ha:a=P.length) (hb:b=P.length+X.length) :
  Qe Pg is [.vec (lv+1) s g 0 N false,.int .i64 (a:Nat),.int .i64 (b:Nat),.fn (.func kc) [] []] (fr :: Am.put m lv s (.vec g cz (P++X++S)))
   (fun x m1=>x=.tup []∧m1=fr :: Am.put m lv s (.vec g cz (P++QG (lt c) X++S))):=by
 have _:=hC;have _:=hcz;subst hN ha hb;refine(Qlj hC hcz hc (lv+1) s g P X S (fr :: Am.put m lv s (.vec g cz (P++X++S))) (Qq (m:=m) hlv) he hn).mono fun x m1 h=>⟨h.1,?_⟩
 rw[h.2];simp only[Am.put,put_put]
def St1 (cz:Nat)(m:Qj)(lv s g:Nat)(kc:Nat)(c:AV→AV→Int)(xs:List AV)(k:Nat)(st:St):Prop :=
 ∃f i,st=⟨f,[Qb]++Am.put m lv s (.vec g cz (XA (lt c) 20 i xs++xs.drop (20*i))),[]⟩∧k=xs.length-20*i∧20*i≤xs.length∧
  f 0=.vec (lv+1) s g 0 xs.length false∧f 1=.int .i64 (xs.length:Nat)∧f 2=.fn (.func kc) [] []∧f 6=.int .i64 20∧f 7=.int .i64 ((20*i:Nat):Int)∧f 8=.int .i64 ((20*(i+1):Nat):Int)
def St2 (cz:Nat)(m:Qj)(lv s g:Nat)(kc:Nat)(c:AV→AV→Int)(xs:List AV)(k:Nat)(st:St):Prop :=
 ∃f b n,st=⟨f,[Qb]++Am.put m lv s (.vec g cz (XA (lt c) b n xs)),[]⟩∧k=xs.length-b∧0<b∧b<2305843009213693952∧xs.length≤b*n∧
  f 0=.vec (lv+1) s g 0 xs.length false∧f 1=.int .i64 (xs.length:Nat)∧f 2=.fn (.func kc) [] []∧f 6=.int .i64 (b:Nat)
def St3 (cz:Nat)(m:Qj)(lv s g:Nat)(kc:Nat)(c:AV→AV→Int)(xs:List AV)(b:Nat)(k:Nat)(st:St):Prop :=
 ∃f i n,st=⟨f,[Qb]++Am.put m lv s (.vec g cz (XA (lt c) (2*b) i xs++XA (lt c) b n (xs.drop (2*b*i)))),[]⟩∧k=xs.length-2*b*i∧2*b*i≤xs.length∧xs.length-2*b*i≤b*n∧
  f 0=.vec (lv+1) s g 0 xs.length false∧f 1=.int .i64 (xs.length:Nat)∧f 2=.fn (.func kc) [] []∧f 6=.int .i64 (b:Nat)∧f 7=.int .i64 ((2*b*i:Nat):Int)∧f 8=.int .i64 ((2*b*(i+1):Nat):Int)
set_option maxHeartbeats 1000000 in
include hC hcz in
theorem Qln {kc:Nat}{c:AV→AV→Int}(hc:Cp Pg cz E kc c)(lv s g:Nat)(xs:List AV)(m:Qj)(hl:Am.Qd m lv s=.vec g cz xs)(he:∀x∈xs,Ez E cz x)
  (hn:xs.length<1152921504606846976) :
  Qe Pg st [.vec lv s g 0 xs.length false,.int .i64 (xs.length:Nat),.fn (.func kc) [] []] m
   (fun x m1=>x=.tup []∧m1=Am.put m lv s (.vec g cz (QG (lt c) xs))):=by
 have _:=hC;have _:=hcz;have hlv:lv<m.length:=Xj (by rw[hl];simp);refine hC.cst.go (by simp) ?_;have h0:m=Am.put m lv s (.vec g cz xs):=(put_self hl).symm;simp only[rst,Qan,Qao,Qa,seval];refine Qi (St1 cz m lv s g kc c xs) _ ⟨_,0,by rw[show XA (lt c) 20 0 xs++xs.drop (20*0)=xs by simp[XA],←h0]<;>rfl,rfl,by omega,by simp only[Qa,seval],by simp only[Qa,seval],by simp only[Qa,seval],by simp only[Qa,seval],by simp only[Qa,seval]<;>rfl,by simp only[Qa,seval]<;>rfl⟩ ?_;clear h0;rintro k st ⟨f,i,rfl,rfl,hi,f0,f1,f2,f6,f7,f8⟩;simp only[Qat,Qap,f1,f8,Qa,seval];have hbl:(XA (lt c) 20 i xs).length=20*i:=by rw[Dm];omega
 by_cases hlt:20*(i+1)≤xs.length
 ·have d0:decide (((20*(i+1):Nat):Int)≤(xs.length:Int))=true:=by simp only[Qn1];omega
  have e1:IntKind.i64.wrap (((20*(i+1):Nat):Int)+20)=((20*(i+1+1):Nat):Int):=by rw[Qz];omega
  have hcut:XA (lt c) 20 i xs++xs.drop (20*i)=XA (lt c) 20 i xs++(xs.drop (20*i)).take 20++xs.drop (20*(i+1)):=by
   rw[Qoi,show 20*(i+1)=20*i+20 by omega,←Qos,Qpf]
  have hx1:((xs.drop (20*i)).take 20).length=20:=by rw[QoU,QoE];omega
  have hee:∀x∈XA (lt c) 20 i xs++(xs.drop (20*i)).take 20++xs.drop (20*(i+1)),Ez E cz x:=by
   intro x hx;refine he x ?_;rcases Qph.1 hx with hx|hx
   ·rcases Qph.1 hx with hx|hx
    ·exact Y0 hx
    ·exact QoK (QoL hx)
   ·exact QoK hx
  have hNN:(XA (lt c) 20 i xs++(xs.drop (20*i)).take 20++xs.drop (20*(i+1))).length=xs.length:=by
   rw[QoB,QoB,hx1,hbl,QoE];omega
  simp only[d0,hcut,Qaq,f0,f2,f7,f8,Qa,seval];refine Qh (PX hC hcz hc (a:=20*i) (b:=20*(i+1)) (XA (lt c) 20 i xs) ((xs.drop (20*i)).take 20) (xs.drop (20*(i+1))) hlv hee (by omega) hNN.symm hbl.symm (by rw[hbl,hx1];omega)) rfl ?_;simp only[Qar,Qas,e1,f6,f8,Qa,seval];exact⟨xs.length-20*(i+1),by omega,_,i+1,by rw[HK]<;>rfl,rfl,hlt,by simp only[f0,Qa,seval],by simp only[f1,Qa,seval],by simp only[f2,Qa,seval],by simp only[f6,Qa,seval],by simp only[Qa,seval],by simp only[Qa,seval]⟩
 ·have d0:decide (((20*(i+1):Nat):Int)≤(xs.length:Int))=false:=by simp only[QpZ];omega
  have hee:∀x∈XA (lt c) 20 i xs++xs.drop (20*i)++[],Ez E cz x:=by
   intro x hx;refine he x ?_;rw[Qo1]at hx;rcases Qph.1 hx with hx|hx
   ·exact Y0 hx
   ·exact QoK hx
  have hNN:(XA (lt c) 20 i xs++xs.drop (20*i)++[]).length=xs.length:=by
   rw[Qo1,QoB,hbl,QoE];omega
  have hic:=PX hC hcz hc (fr:=Qb) (g:=g) (s:=s) (N:=xs.length) (a:=20*i) (b:=xs.length) (XA (lt c) 20 i xs) (xs.drop (20*i)) [] hlv hee (by omega) hNN.symm hbl.symm (by rw[hbl,QoE];omega);have hsn:XA (lt c) 20 i xs++QG (lt c) (xs.drop (20*i))=XA (lt c) 20 (i+1) xs:=by
   rw[HK,Qox (by rw[QoE];omega)]
  rw[Qo1,Qo1,hsn]at hic;simp only[d0,Qau,f0,f1,f2,f7,Qa,seval];refine Qh hic rfl ?_;simp only[Qa,seval];refine Qi (St2 cz m lv s g kc c xs) _ ⟨_,20,i+1,rfl,rfl,by omega,by omega,by omega,by simp only[f0,Qa,seval],by simp only[f1,Qa,seval],by simp only[f2,Qa,seval],by simp only[f6,Qa,seval]<;>rfl⟩ ?_;clear f0 f1 f2 f6 f7 f8 hic hsn hNN hee d0 hlt hbl hi f i;rintro k st ⟨f,b,n,rfl,rfl,hb0,hb1,hbn,f0,f1,f2,f6⟩;simp only[Qaz,Qav,f1,f6,Qa,seval];by_cases hlt:b<xs.length
  ·have d0:decide ((b:Int)<(xs.length:Int))=true:=by simp only[Qn1];omega
   have e1:IntKind.i64.wrap (2*(b:Int))=((2*b:Nat):Int):=by rw[Qz];omega
   have e1':IntKind.i64.wrap ((b:Int)*2)=((2*b:Nat):Int):=by rw[Qz];omega
   simp only[d0,Qaw,e1,f6,Qa,seval];refine Qi (St3 cz m lv s g kc c xs b) _ ⟨_,0,n,by simp only[XA,Nat.mul_zero,QoF,Qok]<;>rfl,rfl,by omega,by omega,by simp only[f0,Qa,seval],by simp only[f1,Qa,seval],by simp only[f2,Qa,seval],by simp only[f6,Qa,seval],by simp only[Qa,seval]<;>rfl,by simp only[Qom,Nat.mul_one,Qa,seval]⟩ ?_;clear f0 f1 f2 f6 f;rintro k st ⟨f,i,n',rfl,rfl,hi,hn',f0,f1,f2,f6,f7,f8⟩;have hA1:2*b*(i+1)=2*b*i+2*b:=Nat.mul_succ _ _;have hA2:2*b*(i+1+1)=2*b*i+2*b+2*b:=by rw[Nat.mul_succ,hA1]
   have hbl:(XA (lt c) (2*b) i xs).length=2*b*i:=by rw[Dm];omega
   have hsnoc:=HK (lt:=lt c) (2*b) i xs;rw[hA1]at f8;clear hbn;generalize hA:2*b*i=A at *;simp only[Qay,Qax,f1,f8,Qa,seval];generalize hL:xs.drop A=L at *;have hLl:L.length=xs.length-A:=by rw[←hL,QoE]
   have hLe:∀z∈L,Ez E cz z:=fun z hz=>he z (QoK (by rw[hL];exact hz))
   have hPe:∀z∈XA (lt c) (2*b) i xs,Ez E cz z:=fun z hz=>he z (Y0 hz)
   have e2:IntKind.i64.wrap (((A:Nat):Int)+(b:Int))=((A+b:Nat):Int):=by rw[Qz];omega
   -- Zp blocks and the rest
   have Zp:b<L.length→∃n'',n'=n''+2∧XA (lt c) b n' L=QG (lt c) (L.take b)++QG (lt c) ((L.drop b).take b)++XA (lt c) b n'' (L.drop (2*b))∧mg (lt c) (QG (lt c) (L.take b)) (QG (lt c) ((L.drop b).take b))=QG (lt c) (L.take (2*b)):=by
    intro h
    match n',hn' with
    |0,hn'=>omega
    |1,hn'=>omega
    |n''+2,_=>
     refine⟨n'',rfl,?_,?_⟩
     ·rw[XA,XA,Qoi,Qos,show b+b=2*b by omega]
     ·rw[Yg hc.sw,Ic]
   by_cases hlt2:A+2*b≤xs.length
   ·have d1:decide (((A+2*b:Nat):Int)≤(xs.length:Int))=true:=by simp only[Qn1];omega
    obtain⟨n'',rfl,hrow,hmg⟩:=Zp (by omega);have hn2:b*(n''+2)=b*n''+2*b:=by rw[Nat.mul_add,Nat.mul_comm b 2]
    rw[hn2]at hn';clear Zp;generalize hZ:b*n''=Z at *;have e3:IntKind.i64.wrap (((A+2*b:Nat):Int)+((2*b:Nat):Int))=((A+2*b+2*b:Nat):Int):=by
     rw[Qz];omega
    have l1:(QG (lt c) (L.take b)).length=b:=by rw[KC,QoU];omega
    have l2:(QG (lt c) ((L.drop b).take b)).length=b:=by rw[KC,QoU,QoE];omega
    have l3:(XA (lt c) b n'' (L.drop (2*b))).length=L.length-2*b:=by
     rw[Dm,QoE,hZ];omega
    have hcut:XA (lt c) (2*b) i xs++XA (lt c) b (n''+2) L=XA (lt c) (2*b) i xs++QG (lt c) (L.take b)++QG (lt c) ((L.drop b).take b)++XA (lt c) b n'' (L.drop (2*b)):=by
     rw[hrow];simp only[Qoi]
    have hee:∀x∈XA (lt c) (2*b) i xs++QG (lt c) (L.take b)++QG (lt c) ((L.drop b).take b)++XA (lt c) b n'' (L.drop (2*b)),Ez E cz x:=by
     rw[←hcut];intro x hx;rcases Qph.1 hx with hx|hx
     ·exact hPe x hx
     ·exact hLe x (Y0 hx)
    have hNN:(XA (lt c) (2*b) i xs++QG (lt c) (L.take b)++QG (lt c) ((L.drop b).take b)++XA (lt c) b n'' (L.drop (2*b))).length=xs.length:=by
     rw[QoB,QoB,QoB,l1,l2,l3,hbl];omega
    simp only[d1,hcut,e2,AF,f0,f2,f6,f7,f8,Qa,seval];refine Qh (HR hC hcz (sym hC hcz hc _) (a:=A) (b:=A+b) (e:=A+2*b) (XA (lt c) (2*b) i xs) (QG (lt c) (L.take b)) (QG (lt c) ((L.drop b).take b)) (XA (lt c) b n'' (L.drop (2*b))) hlv rfl (by omega) (by omega) hee (by omega) (Zh hc.sw _) (Zh hc.sw _) hNN.symm hbl.symm (by rw[hbl,l1]) (by rw[hbl,l1,l2];omega)) rfl ?_;simp only[AG,AH,e1,e3,f6,f8,Qa,seval];refine⟨xs.length-(A+2*b),by omega,_,i+1,n'',by rw[hsnoc,hmg,hA1,←Qos,hL]<;>rfl,by rw[hA1],by rw[hA1];exact hlt2,?_,by simp only[f0,Qa,seval],by simp only[f1,Qa,seval],by simp only[f2,Qa,seval],by simp only[f6,Qa,seval],by simp only[hA1,Qa,seval],by simp only[hA2,Qa,seval]⟩
    ·rw[hA1,hZ];omega
   ·have d1:decide (((A+2*b:Nat):Int)≤(xs.length:Int))=false:=by simp only[QpZ];omega
    have hfin:XA (lt c) (2*b) i xs++QG (lt c) L=XA (lt c) (2*b) (i+1) xs:=by
     rw[hsnoc,Qox (by omega)]
    simp only[d1,e2,AI,AJ,f1,f6,f7,Qa,seval];by_cases hm:A+b<xs.length
    ·have d2:decide (((A+b:Nat):Int)<(xs.length:Int))=true:=by simp only[Qn1];omega
     obtain⟨n'',rfl,hrow,hmg⟩:=Zp (by omega);clear Zp hn';have hr0:L.drop (2*b)=[]:=QoA (by omega);have hr1:(L.drop b).take b=L.drop b:=Qox (by rw[QoE];omega);have hr2:L.take (2*b)=L:=Qox (by omega);rw[hr0,Nj,Qo1,hr1]at hrow;rw[hr1,hr2]at hmg;have l1:(QG (lt c) (L.take b)).length=b:=by rw[KC,QoU];omega
     have l2:(QG (lt c) (L.drop b)).length=L.length-b:=by rw[KC,QoE]
     have hee:∀x∈XA (lt c) (2*b) i xs++QG (lt c) (L.take b)++QG (lt c) (L.drop b)++[],Ez E cz x:=by
      intro x hx;rw[Qo1,Qoi,←hrow]at hx;rcases Qph.1 hx with hx|hx
      ·exact hPe x hx
      ·exact hLe x (Y0 hx)
     have hNN:(XA (lt c) (2*b) i xs++QG (lt c) (L.take b)++QG (lt c) (L.drop b)++[]).length=xs.length:=by
      rw[Qo1,QoB,QoB,l1,l2,hbl];omega
     have hsc:=HR hC hcz (sym hC hcz hc _) (fr:=Qb) (s:=s) (g:=g) (N:=xs.length) (a:=A) (b:=A+b) (e:=xs.length) (XA (lt c) (2*b) i xs) (QG (lt c) (L.take b)) (QG (lt c) (L.drop b)) [] hlv rfl (by omega) (by omega) hee (by omega) (Zh hc.sw _) (Zh hc.sw _) hNN.symm hbl.symm (by rw[hbl,l1]) (by rw[hbl,l1,l2];omega);rw[Qo1,Qo1,hmg,hfin,Qoi,←hrow]at hsc;simp only[d2,AK,f0,f1,f2,f7,Qa,seval];refine Qh hsc rfl ?_;simp only[C8,e1',f6,Qa,seval];exact⟨xs.length-2*b,by omega,_,2*b,i+1,rfl,rfl,by omega,by omega,by rw[hA1];omega,by simp only[f0,Qa,seval],by simp only[f1,Qa,seval],by simp only[f2,Qa,seval],by simp only[Qa,seval]⟩
    ·have d2:decide (((A+b:Nat):Int)<(xs.length:Int))=false:=by simp only[QpZ];omega
     have hrow:XA (lt c) b n' L=QG (lt c) L:=PF (by omega) (by omega);simp only[d2,hrow,hfin,C8,e1',f6,Qa,seval];exact⟨xs.length-2*b,by omega,_,2*b,i+1,rfl,rfl,by omega,by omega,by rw[hA1];omega,by simp only[f0,Qa,seval],by simp only[f1,Qa,seval],by simp only[f2,Qa,seval],by simp only[Qa,seval]⟩
  ·have d0:decide ((b:Int)<(xs.length:Int))=false:=by simp only[QpZ];omega
   have hfin:XA (lt c) b n xs=QG (lt c) xs:=PF (by omega) hbn;simp only[d0,hfin,put_len,ost,Qa,seval]
include hC hcz in
theorem Sx {kc:Nat}{c:AV→AV→Int}(hc:Cp Pg cz E kc c)(lv s g:Nat)(xs:List AV)(m:Qj)(hl:Am.Qd m lv s=.vec g cz xs)(he:∀x∈xs,Ez E cz x)
  (hn:xs.length<1152921504606846976) :
  Qe Pg ss [.vec lv s g 0 xs.length false,.fn (.func kc) [] []] m
   (fun x m1=>x=.tup []∧m1=Am.put m lv s (.vec g cz (QG (lt c) xs))):=by
 have _:=hC;have _:=hcz;have hlv:lv<m.length:=Xj (by rw[hl];simp);refine hC.css.go (by simp) ?_;have hl2:Am.Qd (Qb :: m) (lv+1) s=.vec g cz xs:=hl;simp only[QaA,rss,oss,hl2,Qa,seval];refine Qh ((Qln hC hcz hc (lv+1) s g xs (Qb :: m) hl he hn).mono fun x m1 h=>⟨h.1,h.2.trans rfl⟩) rfl ?_;simp only[Am.put,put_len,Qa,seval]
end Go.Proofs.YtgnfjkkfbcnbfaaGreatDoor.Tz
namespace Go.Proofs.YtgnfjkkfbcnbfaaGreatDoor.Tg
open Go Am
theorem QhO:Cs Tryz.prog 4 294 271 221 220 168 76 where
 csr:=ck Tryz.func294 Tryz.ntmps294 (by decide +kernel)
 cro:=ck Tryz.func271 Tryz.ntmps271 (by decide +kernel)
 csm:=ck Tryz.func221 Tryz.ntmps221 (by decide +kernel)
 cis:=ck Tryz.func220 Tryz.ntmps220 (by decide +kernel)
 cst:=ck Tryz.func168 Tryz.ntmps168 (by decide +kernel)
 css:=ck Tryz.func76 Tryz.ntmps76 (by decide +kernel)
theorem Qfx:Cs Tryz.prog 8 302 288 258 257 211 160 where
 csr:=ck Tryz.func302 Tryz.ntmps302 (by decide +kernel)
 cro:=ck Tryz.func288 Tryz.ntmps288 (by decide +kernel)
 csm:=ck Tryz.func258 Tryz.ntmps258 (by decide +kernel)
 cis:=ck Tryz.func257 Tryz.ntmps257 (by decide +kernel)
 cst:=ck Tryz.func211 Tryz.ntmps211 (by decide +kernel)
 css:=ck Tryz.func160 Tryz.ntmps160 (by decide +kernel)
theorem AL:Cs Tryz.prog 14 311 303 290 289 259 214 where
 csr:=ck Tryz.func311 Tryz.ntmps311 (by decide +kernel)
 cro:=ck Tryz.func303 Tryz.ntmps303 (by decide +kernel)
 csm:=ck Tryz.func290 Tryz.ntmps290 (by decide +kernel)
 cis:=ck Tryz.func289 Tryz.ntmps289 (by decide +kernel)
 cst:=ck Tryz.func259 Tryz.ntmps259 (by decide +kernel)
 css:=ck Tryz.func214 Tryz.ntmps214 (by decide +kernel)
end Go.Proofs.YtgnfjkkfbcnbfaaGreatDoor.Tg
namespace Go.Proofs.YtgnfjkkfbcnbfaaGreatDoor.Rc
open Go Am Cg
abbrev Qfy:IL:=[jj 3 3 0,jj 5 5 2,jv 6]
abbrev Qfz:IL:=[jb 19 2 3,jp 20 4 19,yg 21 20,ja 22 21,ys 23 7 5 22,⟨some 24,.call (.f 5) [(.t 23)],(some (22,false))⟩,yf 25 24 1000 22,jk 26 22 25]
abbrev QfA:IL:=[yk 6]
abbrev QfB:IL:=[jb 28 2 3,ja 29 1,jb 30 7 5,yh 31 6 28 29 30,ja 27 31,jh 32 27 0,jh 33 27 1,ja 7 32,ja 8 33]
abbrev QfC:IL:=[ja 34 8,jo 35 34 0,ja 36 35,js 37 7 36,yr 38 0 37 36,yf 39 38 3000 36,jk 40 36 39]
abbrev QfD:IL:=[⟨some 41,.call (.f 7) [],none⟩,ja 6 41]
abbrev QfE:IL:=[jb 43 2 3,ja 44 1,ya 45 8 43 44,ja 42 45,jh 46 42 0,jh 47 42 1,ja 9 46,ja 10 47]
abbrev QfF:IL:=[jb 48 2 3,ja 49 9,jb 50 7 5,yh 51 9 48 49 50,jt 11 11,jd 7 11 51]
abbrev QfG:IL:=[ja 52 7,jl 53 0 52,ye 54 0 11 7 11,jp 55 10 54,ye 56 0 11 7 11,jp 57 5 56,ye 58 0 11 7 11,jp 59 11 58,⟨some 60,.val (.build [.int .i64 0,.int .i64 0,.int .i64 0,.int .i64 0] [(0,1,(.t 53)),(1,1,(.t 55)),(2,1,(.t 57)),(3,1,(.t 59))]),none⟩,⟨some 12,.allocN 12 [.int .i64 0,.int .i64 0,.int .i64 0,.int .i64 0],none⟩,⟨none,.storev 0 12 4 (.t 12) (.t 60),none⟩]
abbrev QfH:IL:=[jb 62 2 3,ja 63 1,ja 64 7,jb 65 4 12,⟨some 66,.call (.f 12) [(.t 62),(.t 63),(.t 64),(.t 65)],none⟩,ja 61 66,jh 67 61 0,jh 68 61 1,jt 13 13,jd 7 13 67,ja 8 68]
abbrev QaB:IL:=[ja 69 8,jo 70 69 0,ja 71 70,ys 72 7 13 71,ys 73 7 11 71,⟨some 74,.call (.f 13) [(.t 72),(.t 73)],(some (71,false))⟩,⟨some 75,.val (.un .not (.t 74)),(some (71,false))⟩,jk 76 71 75]
abbrev QaC:IL:=[jv 6]
abbrev QaD:IL:=[je 14 0]
abbrev QaE:IL:=[ja 77 14,yi 78 77 4]
abbrev QaF:IL:=[jb 81 4 12,⟨some 15,.allocN 15 [.int .i64 0,.int .i64 0,.int .i64 0,.int .i64 0],none⟩,jd 4 15 81,je 16 3]
abbrev QaG:IL:=[ja 82 14]
abbrev QaH:IL:=[jw 88 82 0,ja 87 88]
abbrev QaI:IL:=[jc 89 0 12,jg 90 89,yt 91 90 1,jc 92 0 15,jd 1 92 91]
abbrev QaJ:IL:=[jw 94 82 1,ja 93 94]
abbrev QaK:IL:=[jc 95 1 12,jg 96 95,yt 97 96 1,jc 98 1 15,jd 1 98 97]
abbrev QaL:IL:=[je 16 17]
abbrev QaM:IL:=[jw 100 82 2,ja 99 100]
abbrev QaN:IL:=[jc 101 2 12,jg 102 101,yt 103 102 1,jc 104 2 15,jd 1 104 103]
abbrev QaO:IL:=[jc 83 3 12,jg 84 83,yt 85 84 1,jc 86 3 15,jd 1 86 85]
abbrev QaP:IL:=[jc 105 0 15,jg 106 105,yi 107 106 0,ja 108 107,jy 109 3 15 108,jz 110 109 108,⟨some 111,.val (.bin .num .lss (.t 110) (.c (.int .i64 0))),(some (108,false))⟩,jk 112 108 111]
abbrev QaQ:IL:=[je 16 1]
abbrev QaR:IL:=[jb 114 2 3,ja 115 1,ja 116 7,jb 117 4 15,⟨some 118,.call (.f 12) [(.t 114),(.t 115),(.t 116),(.t 117)],none⟩,ja 113 118,jh 119 113 0,jh 120 113 1,jt 17 17,jd 7 17 119,ja 18 120]
abbrev QaS:IL:=[ja 121 18,ja 122 16,yp 123 121 122]
abbrev QaT:IL:=[jv 6]
abbrev QaU:IL:=[ja 79 14,jm 80 79 1,ja 14 80]
abbrev Qlo:RC:=.gho (.drop 17) (.gho (.drop 15) (.seq (jQ QaE (jX 78 0)) (.seq (.block 1 (jQ QaF (.seq (jQ QaG (.block 2 (jQ QaH (.cond (.t 87) (.reg QaI) (jQ QaJ (.cond (.t 93) (jQ QaK (.reg QaL)) (jQ QaM (.cond (.t 99) (.reg QaN) (.reg QaO))))))))) (.seq (jQ QaP (.cond (.t 112) (.reg QaQ) (.skip))) (jQ QaR (jQ QaS (.cond (.t 123) (jQ QaT (.ret)) (.skip)))))))) (.reg QaU))))
abbrev QaV:IL:=[⟨some 124,.call (.f 7) [],none⟩,ja 6 124]
abbrev r3:RC:=jQ Qfy (.seq (jQ Qfz (.cond (.t 26) (jQ QfA (.ret)) (.skip))) (jQ QfB (.seq (jQ QfC (.cond (.t 40) (jQ QfD (.ret)) (.skip))) (jQ QfE (jQ QfF (jD QfG (jQ QfH (.seq (jQ QaB (.cond (.t 76) (jQ QaC (.ret)) (.skip))) (.seq (jQ QaD (.block 0 (.loop Qlo))) (jQ QaV (.ret)))))))))))
abbrev o3:List RR:=[.tmp 6]
theorem k3:CT 3 125 r3 o3:=ck Tryz.func3 Tryz.ntmps3 (by decide +kernel)
end Go.Proofs.YtgnfjkkfbcnbfaaGreatDoor.Rc
namespace Go.Proofs.YtgnfjkkfbcnbfaaGreatDoor.Va
open Go Am Rc Bt Br Up So
section
variable {α β:Type}{lt:β→β→Bool}{lt':α→α→Bool}{F:α→β}(h:∀x y,lt (F x) (F y)=lt' x y)
include h
theorem Ma (a:α):∀l:List α,JC lt (F a) (l.map F)=(JC lt' a l).map F
 | []=>rfl
 |x :: l=>by
  rw[Qov,JC,JC,h x a];cases lt' x a
  ·rfl
  ·show F x :: JC lt (F a) (l.map F)=_;rw[Ma a l];rfl
theorem YX:∀l:List α,QG lt (l.map F)=(QG lt' l).map F
 | []=>rfl
 |a :: l=>by
  rw[Qov,QG,YX l,Ma h a];rfl
end
theorem Mb {α β:Type}{lt:β→β→Bool}(h:SW lt)(f:α→β):SW fun x y=>lt (f x) (f y) where
 irr _:=h.irr _
 tr _ _ _:=h.tr _ _ _
 nt _ _ _:=h.nt _ _ _
theorem QfI:SW fun a b:Int=>decide (a<b) where
 irr x:=by simp
 tr x y z h k:=by simp only[Qn1]at *;omega
 nt x y z h k:=by simp only[QpZ]at *;omega
theorem Vt (a b:Int):decide (cN a b<0)=decide (a<b):=by
 unfold cN;split
 ·rename_i h;simp[h]
 ·rename_i h;split<;>simp[h]
theorem QaW (a b:List UInt8):decide (cS a b<0)=Op.bytesLess a b:=by
 unfold cS;cases Op.bytesLess a b
 ·cases(a==b)<;>simp
 ·simp
theorem GQ {z:Nat}(hz:z≠0){xs:List AV}(h:xs.all (fun e=>e.cells.length==z)=true)(hf:QT xs=[]):xs=[]:=by
 cases xs with
 |nil=>rfl
 |cons x xs=>
  have hl:x.cells.length=z:=by simpa using Qoa.1 h x (by simp)
  have:x.cells=[]:=(List.append_eq_nil_iff.1 hf).1;rw[this]at hl;exact absurd hl.symm hz
theorem v71 (xs:List AV)(fr:Nat→Ob)(m:Qj)(h:xs.all (fun e=>e.cells.length==4)=true)(hn:xs.length≤1048576)(hr:Qo (fr 1000)=true) :
  Qe Tryz.prog 71 [.list xs] (fr :: m) (fun x m1=>x=.vec 0 1000 (XP (fr 1000)) 0 xs.length false∧m1=QI fr 1000 (.vec (XP (fr 1000)) 4 xs) :: m):=by
 have hng:Qy (fr :: m) 0 1000=XP (fr 1000):=Kv;refine k71.go (by simp) ?_;simp only[Lh,RX,RY,Qa,seval];refine J1 (ys:=xs) (by simp only[Qa,seval]) ?_ ?_
 ·simp only[R1,Qa,seval];refine Jn rfl ?_;simp only[Qa,seval];refine QK (site:=5) (g:=1) (xs:=[]) (ys:=xs) rfl rfl rfl rfl rfl h (by simp[maxLen];omega) (by simp;omega) ?_;simp only[Qa,seval];refine Zw (l:=0) (site:=5) (g:=2) (o:=0) (n:=xs.length) (q:=false) (sz:=4) (xs:=xs) (by simp only[Qom,Qa,seval]) (by simp only[Qa,seval]) (by simp) (by decide) hr ?_;simp only[hng,Pq,eE,seval]
  try simp[AV.still,AV.un,ZE,XO]
 ·intro he;have hx:xs=[]:=by
   rcases he with he|he
   ·exact he
   ·exact GQ (by decide) h he
  subst hx;simp only[RZ,Qa,seval];refine ZG (by simp only[Qa,seval]) rfl ?_;simp only[Qa,seval];refine Zw (l:=0) (site:=2) (g:=1) (o:=0) (n:=0) (q:=false) (sz:=4) (xs:=[]) (by simp only[Qa,seval]) (by simp only[Qa,seval]) (by simp) (by decide) hr ?_;simp only[hng,Pq,eE,seval]
  try simp[AV.still,AV.un,ZE,XO]
theorem Qlp (xs:List AV)(fr:Nat→Ob)(m:Qj)(h:xs.all (fun e=>e.cells.length==8)=true)(hn:xs.length≤1048576)(hr:Qo (fr 1000)=true) :
  Qe Tryz.prog 159 [.list xs] (fr :: m) (fun x m1=>x=.vec 0 1000 (XP (fr 1000)) 0 xs.length false∧m1=QI fr 1000 (.vec (XP (fr 1000)) 8 xs) :: m):=by
 have hng:Qy (fr :: m) 0 1000=XP (fr 1000):=Kv;refine EL.go (by simp) ?_;simp only[R2,V4,V5,Qa,seval];refine J1 (ys:=xs) (by simp only[Qa,seval]) ?_ ?_
 ·simp only[V7,Qa,seval];refine Jn rfl ?_;simp only[Qa,seval];refine QK (site:=5) (g:=1) (xs:=[]) (ys:=xs) rfl rfl rfl rfl rfl h (by simp[maxLen];omega) (by simp;omega) ?_;simp only[Qa,seval];refine Zw (l:=0) (site:=5) (g:=2) (o:=0) (n:=xs.length) (q:=false) (sz:=8) (xs:=xs) (by simp only[Qom,Qa,seval]) (by simp only[Qa,seval]) (by simp) (by decide) hr ?_;simp only[hng,BZ,eE,seval]
  try simp[AV.still,AV.un,ZE,XO]
 ·intro he;have hx:xs=[]:=by
   rcases he with he|he
   ·exact he
   ·exact GQ (by decide) h he
  subst hx;simp only[V6,Qa,seval];refine ZG (by simp only[Qa,seval]) rfl ?_;simp only[Qa,seval];refine Zw (l:=0) (site:=2) (g:=1) (o:=0) (n:=0) (q:=false) (sz:=8) (xs:=[]) (by simp only[Qa,seval]) (by simp only[Qa,seval]) (by simp) (by decide) hr ?_;simp only[hng,BZ,eE,seval]
  try simp[AV.still,AV.un,ZE,XO]
theorem QfJ (xs:List AV)(fr:Nat→Ob)(m:Qj)(h:xs.all (fun e=>e.cells.length==14)=true)(hn:xs.length≤1048576)(hr:Qo (fr 1000)=true) :
  Qe Tryz.prog 213 [.list xs] (fr :: m) (fun x m1=>x=.vec 0 1000 (XP (fr 1000)) 0 xs.length false∧m1=QI fr 1000 (.vec (XP (fr 1000)) 14 xs) :: m):=by
 have hng:Qy (fr :: m) 0 1000=XP (fr 1000):=Kv;refine EM.go (by simp) ?_;simp only[R3,V8,V9,Qa,seval];refine J1 (ys:=xs) (by simp only[Qa,seval]) ?_ ?_
 ·simp only[Cb,Qa,seval];refine Jn rfl ?_;simp only[Qa,seval];refine QK (site:=5) (g:=1) (xs:=[]) (ys:=xs) rfl rfl rfl rfl rfl h (by simp[maxLen];omega) (by simp;omega) ?_;simp only[Qa,seval];refine Zw (l:=0) (site:=5) (g:=2) (o:=0) (n:=xs.length) (q:=false) (sz:=14) (xs:=xs) (by simp only[Qom,Qa,seval]) (by simp only[Qa,seval]) (by simp) (by decide) hr ?_;simp only[hng,B0,eE,seval]
  try simp[AV.still,AV.un,ZE,XO]
 ·intro he;have hx:xs=[]:=by
   rcases he with he|he
   ·exact he
   ·exact GQ (by decide) h he
  subst hx;simp only[Ca,Qa,seval];refine ZG (by simp only[Qa,seval]) rfl ?_;simp only[Qa,seval];refine Zw (l:=0) (site:=2) (g:=1) (o:=0) (n:=0) (q:=false) (sz:=14) (xs:=[]) (by simp only[Qa,seval]) (by simp only[Qa,seval]) (by simp) (by decide) hr ?_;simp only[hng,B0,eE,seval]
  try simp[AV.still,AV.un,ZE,XO]
section rows
variable {fr:Nat→Ob}{m:Qj}{s g z n i:Nat}{xs l:List AV}
theorem Iy (h:fr s=.vec g z xs)(hi:i<n):Qf (fr :: m) z none (.vec 0 s g 0 n false) ((i:Nat):Int)=some (.vptr 0 s g i 0):=by
 have e:Am.Qd (fr :: m) 0 s=.vec g z xs:=h;simp only[Qf,e,Qpq];rw[Qn5 (by omega),Qn5 ⟨trivial,trivial,hi⟩,Qom]
theorem Mc {k:Nat}(h:fr s=.vec g z xs)(hx:xs[i]? = some (.agg l))(hk:k≤l.length):Xt (fr :: m) (some k) (.vptr 0 s g i 0)=some (.agg (l.take k)):=by
 have e:Am.Qd (fr :: m) 0 s=.vec g z xs:=h;simp only[Xt,e,if_true,hx,Am.part];show(if 0+k≤l.length then some (AV.agg ((l.drop 0).take k))else none)=_;rw[Qn5 (by omega),QoF]
theorem Qlq {o:Nat}(h:fr s=.vec g z xs)(hx:xs[i]? = some (.agg l)):Xt (fr :: m) none (.vptr 0 s g i o)=l[o]?:=by
 have e:Am.Qd (fr :: m) 0 s=.vec g z xs:=h;simp only[Xt,e,if_true,hx,Am.part,AV.cells]
end rows
def eS (x:AV):Prop:=∃s:Int×V,x=V.sav s
theorem QhP (s:Int×V):Ez eS 8 (V.sav s):=by
 refine⟨⟨s,rfl⟩,?_⟩;rw[Z1];exact⟨_,rfl,rfl,rfl,rfl,fun _=>rfl⟩
def nA:AV→Int
 |.agg (.int _ n :: _)=>n
 |_=>0
def cA (x y:AV):Int:=cN (nA x) (nA y)
theorem Sy (x y:AV):Tz.lt cA x y=decide (nA x<nA y):=Vt _ _
theorem QaX:SW (Tz.lt cA):=by
 have e:Tz.lt cA=fun x y=>decide (nA x<nA y):=by funext x y;exact Sy x y
 rw[e];exact Mb QfI nA
theorem BJ (s:Int×V):nA (V.sav s)=s.1:=by rw[Z1];rfl
theorem Qlr (x y:Int×V):Qg Tryz.prog 161 [V.sav x,V.sav y] (.int .i64 (cN x.1 y.1)):=by
 rw[Z1,Z1];refine wF Tryz.func161 ?_;simp only[eK,Tryz.f161,seval];simp only[eE,seval];refine aC (LJ x.1 y.1) ?_;simp only[Qa,seval]
theorem Qls:Tz.Cp Tryz.prog 8 eS 161 cA where
 call x y hx hy:=by
  obtain⟨s,rfl⟩:=hx.1;obtain⟨t,rfl⟩:=hy.1;unfold cA;rw[BJ,BJ];exact Qlr s t
 sw:=QaX
theorem Iz (l:List (Int×V)):QG (Tz.lt cA) (l.map V.sav)=(Wh l).map V.sav:=YX (fun x y=>by rw[Sy,BJ,BJ]) l
theorem WX (l:List (Int×V)):(l.map V.sav).all (fun e=>e.cells.length==8)=true:=by
 rw[List.all_map,Qoa];intro x _;simp[Z1,AV.cells]
theorem ezS (l:List (Int×V)):∀x∈l.map V.sav,Ez eS 8 x:=by
 intro x hx;obtain⟨s,_,rfl⟩:=Qpi.1 hx;exact QhP s
def SoI (T:List (Int×V))(k:Nat)(st:St):Prop :=
 ∃f fr i g h,st=⟨f,[fr],[]⟩∧k=T.length-i∧i≤T.length∧f 3=.vec 0 1000 g 0 T.length false∧f 4=.vec 0 4 h 0 i false∧f 11=.vec 0 1000 g 0 T.length false∧f 12=.int .i64 (T.length:Nat)∧f 13=.int .i64 (i:Nat)∧fr 1000=.vec g 8 (T.map V.sav)∧fr 4=.vec h 8 ((T.take i).map V.sav)∧∀s∈[6],(fr s).isRow=false
theorem v72 (sl:List (Int×V))(hn:sl.length≤1048576)(hu:sl.Pairwise fun y x=>(y.1==x.1)=false):Qg Tryz.prog 72 [.list (sl.map V.sav)] (.list ((Wh sl).map V.sav)):=by
 have cl:=fun fr hr=>Qlp (sl.map V.sav) fr [] (WX sl) (by rw[QoS];exact hn) hr
 have cs:=fun g (m:Qj) (hl:Am.Qd m 0 1000=.vec g 8 (sl.map V.sav))=>Tz.Sx Tg.Qfx (by decide) Qls 0 1000 g (sl.map V.sav) m hl (ezS sl) (by rw[QoS];omega)
 simp only[Iz,QoS]at cs;have hperm:(Wh sl).Perm sl:=QR _;have hlen:(Wh sl).length=sl.length:=hperm.length_eq;have hun:(Wh sl).Pairwise fun y x=>(y.1==x.1)=false:=(hperm.pairwise_iff fun {a b} h=>by rw[Qqe];exact h).2 hu
 generalize Wh sl=T at *;refine wF Tryz.func72 ?_;simp only[eK,Tryz.f72,seval];simp only[Qa,seval];refine Qh (cl _ rfl) (by simp only[Qov,QoZ,Qa,seval]) ?_;simp only[QoS,Qa,seval];refine Qh (cs _ _ (by simp only[eE,seval]<;>rfl)) (by simp only[Qov,QoZ,Qa,seval]) ?_;simp only[eE,seval];refine ZG (by simp only[Qa,seval]) (by simp only[Qa,seval]) ?_;simp only[eE,seval];refine Qi (SoI T) _ ⟨_,_,0,_,_,rfl,rfl,Qn6 _,(by rw[hlen];exact(by rfl)),(by rfl),(by rw[hlen];exact(by rfl)),(by rw[hlen];exact(by rfl)),(by rfl),(by rfl),(by rfl),by simp<;>rfl⟩ ?_;rintro _ st ⟨f0,fr0,i,g,h,rfl,rfl,hil,h30,h40,h110,h120,h130,mR0,m40,r6⟩;refine QL (a:=_) [6] r6 ?_;intro f fr hf hm hn6;have h3:f 3=.vec 0 1000 g 0 T.length false:=by rw[hf,h30]<;>rfl
 have h4:f 4=.vec 0 4 h 0 i false:=by rw[hf,h40]<;>rfl
 have h11:f 11=.vec 0 1000 g 0 T.length false:=by rw[hf,h110]<;>rfl
 have h12:f 12=.int .i64 (T.length:Nat):=by rw[hf,h120]<;>rfl
 have h13:f 13=.int .i64 (i:Nat):=by rw[hf,h130]<;>rfl
 have mR:fr 1000=.vec g 8 (T.map V.sav):=by rw[hm 1000 (by decide),mR0]<;>rfl
 have m4:fr 4=.vec h 8 ((T.take i).map V.sav):=by rw[hm 4 (by decide),m40]<;>rfl
 have n6:=hn6 6 (by decide);clear hf hm hn6 h30 h40 h110 h120 h130 mR0 m40 r6;simp only[h12,h13,Qa,seval];by_cases hlt:i<T.length
 ·obtain⟨x,hi⟩:∃x,T[i]? = some x:=⟨T[i],QnX hlt⟩;have hg:=WR hi;have e1:=Qs i _ hlt (by simp only[maxLen];omega);have ia:∀(fr:Nat→Ob) (j:Nat),fr 1000=.vec g 8 (T.map V.sav)→j<T.length→Qf [fr] 8 none (.vec 0 1000 g 0 T.length false) ((j:Nat):Int)=some (.vptr 0 1000 g j 0):=fun fr j h hj=>Iy h hj
  have la:∀(fr:Nat→Ob),fr 1000=.vec g 8 (T.map V.sav)→Xt [fr] (some 8) (.vptr 0 1000 g i 0)=some (.agg [.int .i64 x.1,.int .i64 x.2.kd,.int .u64 (x.2.bits:Nat),.str x.2.text,.list (x.2.list.map V.av),.list (x.2.pairs.map V.pav),.list (x.2.slots.map V.sav),.list (x.2.raws.map R.av)]):=fun fr h=>Mc h hg (by simp)
  have fin:∀(f':Fr) (fr':Nat→Ob) (h':Nat),f' 3=.vec 0 1000 g 0 T.length false→f' 4=.vec 0 4 h' 0 (i+1) false→f' 11=.vec 0 1000 g 0 T.length false→f' 12=.int .i64 (T.length:Nat)→f' 13=.int .i64 ((i+1:Nat):Int)→fr' 1000=.vec g 8 (T.map V.sav)→fr' 4=.vec h' 8 ((T.take i).map V.sav++[V.sav x])→(∀s∈[6],(fr' s).isRow=false)→∃k,k<T.length-i∧SoI T k ⟨f',[fr'],[]⟩:=by
   intro f' fr' h' a3 a4 a11 a12 a13 b1 b4 b6;exact⟨T.length-(i+1),by omega,f',fr',i+1,g,h',rfl,rfl,by omega,a3,a4,a11,a12,a13,b1,by rw[b4,QpM,hi];simp,b6⟩
  have hti:((T.take i).map V.sav).length=i:=by rw[QoS,QoU];omega
  simp only[QA hlt,ia,la,mR,hlt,n6,h3,h11,h13,e1,eE,seval];by_cases hl:i+1=T.length
  ·have d1:(((i+1:Nat):Int)==(T.length:Int))=true:=by simp;omega
   simp only[d1,h4,eE,seval];refine QO (l:=[V.sav x]) rfl rfl rfl (by rw[Z1];rfl) ?_;refine QK (site:=4) (g:=h) (n:=i) (xs:=(T.take i).map V.sav) (ys:=[V.sav x]) (by rfl) (by exact m4) rfl hti.symm rfl (WX [x]) (by simp only[Qoc,QoT,maxLen];omega) (by simp only[Qoc,QoT];omega) ?_;simp only[h13,e1,Qa,seval];exact fin _ _ (h+1) (by exact h3) (by rfl) (by exact h11) (by exact h12) (by rfl) (by exact mR) (by rfl) (by simp<;>rfl)
  ·have d1:(((i+1:Nat):Int)==(T.length:Int))=false:=by simp;omega
   have hlt1:i+1<T.length:=by omega
   obtain⟨y,hj⟩:∃y,T[i+1]? = some y:=⟨T[i+1],QnX hlt1⟩;have hgj:=WR hj;have lc:∀(fr:Nat→Ob),fr 1000=.vec g 8 (T.map V.sav)→Xt [fr] none (.vptr 0 1000 g (i+1) 0)=some (.int .i64 y.1):=fun fr h=>Qlq h hgj
   have hne:(x.1 != y.1)=true:=by
    rw[Qqa]at hun;have:=hun i (i+1) hlt hlt1 (by omega);rw[(QnW.1 hi).2,(QnW.1 hj).2]at this
    simpa using this
   simp only[d1,ia,lc,mR,hlt1,hne,YG,Qom,h3,h4,e1,eE,seval];refine QO (l:=[V.sav x]) rfl rfl rfl (by rw[Z1];rfl) ?_;refine QK (site:=4) (g:=h) (n:=i) (xs:=(T.take i).map V.sav) (ys:=[V.sav x]) (by rfl) (by exact m4) rfl hti.symm rfl (WX [x]) (by simp only[Qoc,QoT,maxLen];omega) (by simp only[Qoc,QoT];omega) ?_;simp only[h13,e1,Qa,seval];exact fin _ _ (h+1) (by exact h3) (by rfl) (by exact h11) (by exact h12) (by rfl) (by exact mR) (by rfl) (by simp<;>rfl)
 ·have e:i=T.length:=by omega
  subst e;rw[QpC]at m4;simp only[QH hlt,h4,eE,seval];simp[AV.un,ZE,XO,m4];rw[Qox (by rw[QoS];exact QnV _)]
def eP (P:PL)(k:Int)(x:AV):Prop:=∃p:V×V,x=V.pav p∧p.1.one P k (-1)=0∧p.1.bits<18446744073709551616
theorem ezP {P:PL}{k:Int}{p:V×V}(h:p.1.one P k (-1)=0)(hb:p.1.bits<18446744073709551616):Ez (eP P k) 14 (V.pav p):=by
 refine⟨⟨p,rfl,h,hb⟩,?_⟩;rw[Z0];exact⟨_,rfl,rfl,rfl,rfl,fun _=>rfl⟩
def kV:AV→V
 |.agg (_ :: .int _ b :: .str t :: _)=>.mk 0 b.toNat t [] [] [] []
 |_=>.mk 0 0 [] [] [] [] []
theorem BK (p:V×V):kV (V.pav p)=.mk 0 p.1.bits p.1.text [] [] [] []:=by rw[Z0];rfl
def cP (k:Int)(x y:AV):Int:=DO k (kV x).bits (kV x).text (kV y).bits (kV y).text
theorem AM (k:Int)(a b:V):decide (DO k a.bits a.text b.bits b.text<0)=kl k a b:=by
 unfold DO kl;split
 ·exact QaW _ _
 ·split
  ·exact Vt _ _
  ·exact Vt _ _
theorem QhQ (k:Int):SW (Tz.lt (cP k)):=by
 have e:Tz.lt (cP k)=fun x y=>kl k (kV x,kV x).1 (kV y,kV y).1:=by funext x y;exact AM k _ _
 rw[e];exact Mb (J2 k) fun x=>(kV x,kV x)
theorem Qlt {P:PL}{k:Int}(hk:XU k)(x y:V×V)(hx:x.1.one P k (-1)=0)(hy:y.1.one P k (-1)=0):Qg Tryz.prog 215 [V.pav x,V.pav y] (.int .i64 (DO k x.1.bits x.1.text y.1.bits y.1.text)):=by
 have h:=Qfl k hk x.1.bits y.1.bits x.1.text y.1.text;rw[←(JF hx).1,←(JF hy).1,Qc,Qc]at h;rw[Z0,Z0];refine wF Tryz.func215 ?_;simp only[eK,Tryz.f215,seval];simp only[Qow,Qo6,QoF,eE,seval];refine aC h ?_;simp only[Qa,seval]
theorem QfK {P:PL}{k:Int}(hk:XU k):Tz.Cp Tryz.prog 14 (eP P k) 215 (cP k) where
 call x y hx hy:=by
  obtain⟨p,rfl,h1,_⟩:=hx.1;obtain⟨q,rfl,h2,_⟩:=hy.1;unfold cP;rw[BK,BK];exact Qlt hk p q h1 h2
 sw:=QhQ k
theorem Md (k:Int)(l:List (V×V)):QG (Tz.lt (cP k)) (l.map V.pav)=(QX k l).map V.pav:=YX (fun x y=>by
 show decide (cP k (V.pav x) (V.pav y)<0)=_;unfold cP;rw[BK,BK];exact AM k x.1 y.1) l
theorem JH (l:List (V×V)):(l.map V.pav).all (fun e=>e.cells.length==14)=true:=by
 rw[List.all_map,Qoa];intro x _;simp[Z0,AV.cells]
def PoI (T:List (V×V))(k:Nat)(st:St):Prop :=
 ∃f fr i g h,st=⟨f,[fr],[]⟩∧k=T.length-i∧i≤T.length∧f 3=.vec 0 1000 g 0 T.length false∧f 4=.vec 0 4 h 0 i false∧f 11=.vec 0 1000 g 0 T.length false∧f 12=.int .i64 (T.length:Nat)∧f 13=.int .i64 (i:Nat)∧fr 1000=.vec g 14 (T.map V.pav)∧fr 4=.vec h 14 ((T.take i).map V.pav)∧∀s∈[6],(fr s).isRow=false
theorem Qlu {P:PL}{k:Int}(hk:XU k)(ps:List (V×V))(hn:ps.length≤1048576)(h1:∀p∈ps,p.1.one P k (-1)=0)(hb:∀p∈ps,p.1.bits<18446744073709551616)(hu:ps.Pairwise fun q p=>Xz q.1 p.1=false):Qg Tryz.prog 165 [.list (ps.map V.pav)] (.list ((QX k ps).map V.pav)):=by
 have cl:=fun fr hr=>QfJ (ps.map V.pav) fr [] (JH ps) (by rw[QoS];exact hn) hr
 have ez:∀x∈ps.map V.pav,Ez (eP P k) 14 x:=by
  intro x hx;obtain⟨p,hp,rfl⟩:=Qpi.1 hx;exact ezP (h1 p hp) (hb p hp)
 have cs:=fun g (m:Qj) (hl:Am.Qd m 0 1000=.vec g 14 (ps.map V.pav))=>Tz.Sx Tg.AL (by decide) (QfK (P:=P) hk) 0 1000 g (ps.map V.pav) m hl ez (by rw[QoS];omega)
 simp only[Md,QoS]at cs;have hperm:(QX k ps).Perm ps:=QR _;have hlen:(QX k ps).length=ps.length:=hperm.length_eq;have hun:(QX k ps).Pairwise fun q p=>Xz q.1 p.1=false:=(hperm.pairwise_iff fun {a b} h=>by unfold Xz at *;rw[←h,Qqe (a:=b.1.bits),Qqe (a:=b.1.text)]).2 hu
 have h1T:∀p∈QX k ps,p.1.one P k (-1)=0:=fun p hp=>h1 p (hperm.mem_iff.1 hp)
 have hbT:∀p∈QX k ps,p.1.bits<18446744073709551616:=fun p hp=>hb p (hperm.mem_iff.1 hp)
 generalize QX k ps=T at *;refine wF Tryz.func165 ?_;simp only[eK,Tryz.f165,seval];simp only[Qa,seval];refine Qh (cl _ rfl) (by simp only[Qov,QoZ,Qa,seval]) ?_;simp only[QoS,Qa,seval];refine Qh (cs _ _ (by simp only[eE,seval]<;>rfl)) (by simp only[Qov,QoZ,Qa,seval]) ?_;simp only[eE,seval];refine ZG (by simp only[Qa,seval]) (by simp only[Qa,seval]) ?_;simp only[eE,seval];refine Qi (PoI T) _ ⟨_,_,0,_,_,rfl,rfl,Qn6 _,(by rw[hlen];exact(by rfl)),(by rfl),(by rw[hlen];exact(by rfl)),(by rw[hlen];exact(by rfl)),(by rfl),(by rfl),(by rfl),by simp<;>rfl⟩ ?_;rintro _ st ⟨f0,fr0,i,g,h,rfl,rfl,hil,h30,h40,h110,h120,h130,mR0,m40,r6⟩;refine QL (a:=_) [6] r6 ?_;intro f fr hf hm hn6;have h3:f 3=.vec 0 1000 g 0 T.length false:=by rw[hf,h30]<;>rfl
 have h4:f 4=.vec 0 4 h 0 i false:=by rw[hf,h40]<;>rfl
 have h11:f 11=.vec 0 1000 g 0 T.length false:=by rw[hf,h110]<;>rfl
 have h12:f 12=.int .i64 (T.length:Nat):=by rw[hf,h120]<;>rfl
 have h13:f 13=.int .i64 (i:Nat):=by rw[hf,h130]<;>rfl
 have mR:fr 1000=.vec g 14 (T.map V.pav):=by rw[hm 1000 (by decide),mR0]<;>rfl
 have m4:fr 4=.vec h 14 ((T.take i).map V.pav):=by rw[hm 4 (by decide),m40]<;>rfl
 have n6:=hn6 6 (by decide);clear hf hm hn6 h30 h40 h110 h120 h130 mR0 m40 r6;simp only[h12,h13,Qa,seval];by_cases hlt:i<T.length
 ·obtain⟨x,hi⟩:∃x,T[i]? = some x:=⟨T[i],QnX hlt⟩;have hg:=J3 hi;have e1:=Qs i _ hlt (by simp only[maxLen];omega);have ia:∀(fr:Nat→Ob) (j:Nat),fr 1000=.vec g 14 (T.map V.pav)→j<T.length→Qf [fr] 14 none (.vec 0 1000 g 0 T.length false) ((j:Nat):Int)=some (.vptr 0 1000 g j 0):=fun fr j h hj=>Iy h hj
  have la:∀(fr:Nat→Ob),fr 1000=.vec g 14 (T.map V.pav)→Xt [fr] (some 14) (.vptr 0 1000 g i 0)=some (.agg [.int .i64 x.1.kd,.int .u64 (x.1.bits:Nat),.str x.1.text,.list (x.1.list.map V.av),.list (x.1.pairs.map V.pav),.list (x.1.slots.map V.sav),.list (x.1.raws.map R.av),.int .i64 x.2.kd,.int .u64 (x.2.bits:Nat),.str x.2.text,.list (x.2.list.map V.av),.list (x.2.pairs.map V.pav),.list (x.2.slots.map V.sav),.list (x.2.raws.map R.av)]):=fun fr h=>Mc h hg (by simp)
  have fin:∀(f':Fr) (fr':Nat→Ob) (h':Nat),f' 3=.vec 0 1000 g 0 T.length false→f' 4=.vec 0 4 h' 0 (i+1) false→f' 11=.vec 0 1000 g 0 T.length false→f' 12=.int .i64 (T.length:Nat)→f' 13=.int .i64 ((i+1:Nat):Int)→fr' 1000=.vec g 14 (T.map V.pav)→fr' 4=.vec h' 14 ((T.take i).map V.pav++[V.pav x])→(∀s∈[6],(fr' s).isRow=false)→∃k,k<T.length-i∧PoI T k ⟨f',[fr'],[]⟩:=by
   intro f' fr' h' a3 a4 a11 a12 a13 b1 b4 b6;exact⟨T.length-(i+1),by omega,f',fr',i+1,g,h',rfl,rfl,by omega,a3,a4,a11,a12,a13,b1,by rw[b4,QpM,hi];simp,b6⟩
  have hti:((T.take i).map V.pav).length=i:=by rw[QoS,QoU];omega
  simp only[QA hlt,ia,la,mR,hlt,n6,h3,h11,h13,e1,eE,seval];by_cases hl:i+1=T.length
  ·have d1:(((i+1:Nat):Int)==(T.length:Int))=true:=by simp;omega
   simp only[d1,h4,eE,seval];refine QO (l:=[V.pav x]) rfl rfl rfl (by rw[Z0];rfl) ?_;refine QK (site:=4) (g:=h) (n:=i) (xs:=(T.take i).map V.pav) (ys:=[V.pav x]) (by rfl) (by exact m4) rfl hti.symm rfl (JH [x]) (by simp only[Qoc,QoT,maxLen];omega) (by simp only[Qoc,QoT];omega) ?_;simp only[h13,e1,Qa,seval];exact fin _ _ (h+1) (by exact h3) (by rfl) (by exact h11) (by exact h12) (by rfl) (by exact mR) (by rfl) (by simp<;>rfl)
  ·have d1:(((i+1:Nat):Int)==(T.length:Int))=false:=by simp;omega
   have hlt1:i+1<T.length:=by omega
   obtain⟨y,hj⟩:∃y,T[i+1]? = some y:=⟨T[i+1],QnX hlt1⟩;have hgj:=J3 hj;have lc:∀(fr:Nat→Ob),fr 1000=.vec g 14 (T.map V.pav)→Xt [fr] (some 7) (.vptr 0 1000 g (i+1) 0)=some (.agg [.int .i64 y.1.kd,.int .u64 (y.1.bits:Nat),.str y.1.text,.list (y.1.list.map V.av),.list (y.1.pairs.map V.pav),.list (y.1.slots.map V.sav),.list (y.1.raws.map R.av)]):=fun fr h=>by
    rw[Mc h hgj (by simp)];rfl
   have hx1:=h1T x (Qob hi);have hy1:=h1T y (Qob hj);have hne:Xz x.1 y.1=false:=by
    rw[Qqa]at hun;have:=hun i (i+1) hlt hlt1 (by omega);rw[(QnW.1 hi).2,(QnW.1 hj).2]at this;exact this
   have hq:=Ig k hk x.1.bits y.1.bits x.1.text y.1.text;rw[←(JF hx1).1,←(JF hy1).1,Nl hk hx1 hy1 (hbT x (Qob hi)) (hbT y (Qob hj)),hne,Qc,Qc]at hq;simp only[d1,ia,lc,mR,hlt1,YG,Qom,Qow,Qo6,QoF,h3,e1,eE,seval];refine aC hq ?_;simp only[h4,eE,seval];refine QO (l:=[V.pav x]) rfl rfl rfl (by rw[Z0];rfl) ?_;refine QK (site:=4) (g:=h) (n:=i) (xs:=(T.take i).map V.pav) (ys:=[V.pav x]) (by rfl) (by exact m4) rfl hti.symm rfl (JH [x]) (by simp only[Qoc,QoT,maxLen];omega) (by simp only[Qoc,QoT];omega) ?_;simp only[h13,e1,Qa,seval];exact fin _ _ (h+1) (by exact h3) (by rfl) (by exact h11) (by exact h12) (by rfl) (by exact mR) (by rfl) (by simp<;>rfl)
 ·have e:i=T.length:=by omega
  subst e;rw[QpC]at m4;simp only[QH hlt,h4,eE,seval];simp[AV.un,ZE,XO,m4];rw[Qox (by rw[QoS];exact QnV _)]
def eR (x:AV):Prop:=∃f:R,x=f.av
theorem QhR (f:R):Ez eR 4 f.av:=⟨⟨f,rfl⟩,_,rfl,rfl,rfl,rfl,fun _=>rfl⟩
theorem v77 (x y:R):Qg Tryz.prog 77 [x.av,y.av] (.int .i64 (cN x.num y.num)):=by
 refine wF Tryz.func77 ?_;simp only[eK,Tryz.f77,seval];simp only[R.av,eE,seval];refine aC (LJ x.num y.num) ?_;simp only[Qa,seval]
theorem Qlv:Tz.Cp Tryz.prog 4 eR 77 cA where
 call x y hx hy:=by
  obtain⟨s,rfl⟩:=hx.1;obtain⟨t,rfl⟩:=hy.1;exact v77 s t
 sw:=QaX
theorem IA (l:List R):QG (Tz.lt cA) (l.map R.av)=(ZN l).map R.av:=YX (fun x y=>by rw[Sy];rfl) l
theorem Yj (l:List R):(l.map R.av).all (fun e=>e.cells.length==4)=true:=by
 rw[List.all_map,Qoa];intro x _;rfl
theorem ezR (l:List R):∀x∈l.map R.av,Ez eR 4 x:=by
 intro x hx;obtain⟨s,_,rfl⟩:=Qpi.1 hx;exact QhR s
theorem Me (v:V):v.nsc.av=.agg [.int .i64 v.kd,.int .u64 ((Xu v.kd v.bits:Nat):Int),.str v.text,.list (v.list.map V.av),.list (v.pairs.map V.pav),.list (v.slots.map V.sav),.list (v.raws.map R.av)]:=by
 rw[Qc];rfl
theorem w87 (b:Nat):Qg Tryz.prog 87 [.int .u64 (b:Nat)] (.int .i64 (Yy b:Nat)):=by
 refine wF Tryz.func87 ?_;simp only[eK,Tryz.f87,seval];have hm:(b:Int).tmod 9223372036854775808=((b % 9223372036854775808:Nat):Int):=by
  rw[Int.tmod_eq_emod_of_nonneg (by omega)];omega
 simp only[hm,Qa,seval];unfold Yy;generalize b % 9223372036854775808=z
 repeat' (first|(refine Q3 (fun h=>?_) (fun h=>?_)<;>simp only[h,Qa,seval])|(refine XZ (fun h=>?_) (fun h=>?_)<;>simp only[h,Ql,eE,seval])|(refine X0 (fun h=>?_) (fun h=>?_)<;>simp only[h,Ql,eE,seval]))
 all_goals(simp only[Qn1,QpZ,Qn2,QpK,ne_eq]at *)
 all_goals((repeat' split)<;>first|rfl|(exfalso;omega))
theorem Qlw (b:Nat)(hb:b<18446744073709551616):Qg Tryz.prog 218 [.int .u64 (b:Nat)] (.int .i64 (Yy b:Nat)):=by
 refine wF Tryz.func218 ?_;simp only[eK,Tryz.f218,seval];have a1:bits .and .u64 (b:Int) 9218868437227405312=(((b / 4503599627370496 % 2048)*4503599627370496:Nat):Int):=by
  have:=U9 b 9218868437227405312 hb (by decide);rw[Al]at this;exact this
 have a2:bits .and .u64 (b:Int) 4503599627370495=((b % 4503599627370496:Nat):Int):=by
  have:=U9 b 4503599627370495 hb (by decide);rw[Ak]at this;exact this
 simp only[a1,a2,Qa,seval];unfold Yy
 repeat' (first|(refine Q3 (fun h=>?_) (fun h=>?_)<;>simp only[h,Qa,seval])|(refine XZ (fun h=>?_) (fun h=>?_)<;>simp only[h,Ql,Qa,seval])|(refine X0 (fun h=>?_) (fun h=>?_)<;>simp only[h,Ql,eE,seval]))
 all_goals(simp only[Qn2,Qoq,bne_eq_false_iff_eq,QpK,ne_eq]at *)
 all_goals((repeat' split)<;>first|rfl|(exfalso;omega))
theorem IB (v:V)(hb:v.bits<18446744073709551616):Qg Tryz.prog 166 [v.av] v.nsc.av:=by
 rw[Me,Qc];refine wF Tryz.func166 ?_;simp only[eK,Tryz.f166,seval];simp only[eE,seval];by_cases hk:v.kd=6
 ·have b0:(v.kd==6)=true:=by simp[hk]
  simp only[b0,eE,seval];refine aC (Qlw v.bits hb) ?_;simp only[CJ,Qa,seval];by_cases hc:Yy v.bits=0
  ·simp only[hc,Xu,hk,decide_true,and_self,splice,Qow,Qo6,Qoz,QoF,Qoj,Qok,Qoc,QoT,eE,seval]
   try rfl
  ·simp only[hc,Xu,decide_false,and_false,eE,seval]
 ·have b0:(v.kd==6)=false:=by simp[hk]
  simp only[b0,Xu,hk,false_and,eE,seval]
theorem v44 (v:V)(_hb:v.bits<18446744073709551616):Qg Tryz.prog 44 [v.av] v.nsc.av:=by
 rw[Me,Qc];refine wF Tryz.func44 ?_;simp only[eK,Tryz.f44,seval];simp only[eE,seval];by_cases hk:v.kd=6
 ·have b0:(v.kd==6)=true:=by simp[hk]
  simp only[b0,eE,seval];refine aC (w87 v.bits) ?_;simp only[CJ,Qa,seval];by_cases hc:Yy v.bits=0
  ·simp only[hc,Xu,hk,decide_true,and_self,splice,Qow,Qo6,Qoz,QoF,Qoj,Qok,Qoc,QoT,eE,seval]
   try rfl
  ·simp only[hc,Xu,decide_false,and_false,eE,seval]
 ·have b0:(v.kd==6)=false:=by simp[hk]
  simp only[b0,Xu,hk,false_and,eE,seval]
end Go.Proofs.YtgnfjkkfbcnbfaaGreatDoor.Va

/- Parts of the proof, in order. -/
import Derived.Test.YtmlohboeoeoamaaGreatDoorMLensKeeps3

set_option linter.unusedSimpArgs false
namespace Go.Proofs.YtmlohboeoeoamaaGreatDoor.Va
open Go Am Rc Bt Br Up So

theorem Qea {ops:List PO}(h:Jk ops (Wf PO.num)=true):ops.Pairwise fun a b=>a.num<b.num:=by
 have hs:∀i (hi:i+1<ops.length),ops[i].num<ops[i+1].num:=by
  intro i hi;unfold Jk at h;have:=Q3.1 h (i+1) hi;rw[WW (Qln (by omega:i<ops.length)) (Qln hi)]at this;unfold Wf at this
  simpa using this
 rw[QnE];intro i j hi hj hij;obtain⟨d,rfl⟩:∃d,j=i+1+d:=⟨j-(i+1),xw⟩;clear hij
 induction d with
 |zero=>exact hs i xw
 |succ d ih=>
  have a:=ih xw;have b:=hs (i+1+d) xw;exact Int.lt_trans a b

theorem F1 {P:PL}(h:ck P=0):G4 P=true∧args P=true:=by
 unfold ck at h;split at h
 ·omega
 split at h
 ·omega
 split at h
 ·omega
 rename_i ho;split at h
 ·omega
 split at h
 ·omega
 split at h
 ·omega
 rename_i ha;exact⟨by simpa using ho,by simpa using ha⟩
theorem Xr {P:PL}(h:ck P=0):Zo P:=by
 have ho:=(F1 h).1;unfold G4 at ho;simp only[QlM,QlB]at ho;intro g hg;exact Qea (ho.1.2 g hg)
def Tl (P:PL):Prop:=∀g∈P.progs,∀o∈g.ops,1≤o.card∧o.card≤5
theorem F2 {P:PL}(h:ck P=0):Tl P:=by
 have ha:=(F1 h).2;intro g hg o ho;unfold args at ha;simp only[QlM,QlB]at ha;have h1:=ha.1 g hg;unfold W3 at h1;simp only[QlM,QlB]at h1;have h2:=(h1.2 o ho).1;unfold Wh at h2;simp only[QlM,Qlr]at h2;exact⟨h2.1.1.1.2,h2.1.1.2⟩

theorem Hn {fr:Nat→Ob}{a b c:Nat}(h1:(fr a).isRow=false)(h2:(fr b).isRow=false)(h3:(fr c).isRow=false):∀s∈[a,b,c],(fr s).isRow=false:=by
 intro s hs;simp only[QmM,QnI,or_false]at hs;rcases hs with rfl|rfl|rfl
 ·exact h1
 ·exact h2
 ·exact h3

section
variable (k:Int)(b:Nat)(t:List UInt8)(l p s r:List AV)

theorem w62:Qh Tryz.prog 62 [vo k b t l p s r] (.bool (Ms k b t l p s r)):=by
 have hl:=QdJ k b t l p s r;simp only[vo]at hl;refine wF Tryz.func62 ?_;simp only[eK,Tryz.f62,seval];simp only[vo,Ms,eE,seval];refine aC (Iy k) ?_;cases isk k
 ·exact zC
 ·simp only[Qm8,eE,seval];cases h1:((b:Int)==0)
  ·simp only[Qna,QmW,Qa,seval]
  ·cases h2:(t==[])
   ·simp only[h2,Qna,QS,eE,seval]
   ·simp only[h2,QmD,QS,eE,seval];refine aC hl ?_;simp only[Qa,seval]

theorem Qi0 (hl:l.length≤140737488351232)(hp:p.length≤140737488351232)(hs:s.length≤140737488351232)(hr:r.length≤140737488351232) :
  Qh Tryz.prog 103 [vo k b t l p s r] (.bool (Ms k b t l p s r)):=by
 have hle:=QdK k b t l p s r hl hp hs hr;simp only[vo]at hle;refine wF Tryz.func103 ?_;simp only[eK,Tryz.f103,seval];simp only[vo,Ms,eE,seval];refine aC (NV k) ?_;cases isk k
 ·exact zC
 ·simp only[Qm8,eE,seval];refine aC hle ?_;cases U2 l p s r
  ·exact zC
  ·cases h1:((b:Int)==0)<;>cases h2:(t==[])<;>cases h3:Zp k<;>simp only[h1,h2,QmD,Qna,QlH,QS,eE,seval]

theorem w27:Qh Tryz.prog 27 [vo k b t l p s r] (.bool (emp k b t l p s r)):=by
 have hz:=w62 k b t l p s r;simp only[vo]at hz;refine wF Tryz.func27 ?_;simp only[eK,Tryz.f27,seval];simp only[vo,emp,eE,seval];by_cases h1:k=11
 ·subst h1;have e:Ms 11 b t l p s r=false:=rfl;have e1:((11:Int)==11)=true:=rfl;have e2:((11:Int)==12)=false:=rfl;simp only[e,e1,e2,Qm8,QmW,Qnt,eE,seval]
 ·have e1:(k==11)=false:=qn
  by_cases h2:k=12
  ·subst h2;have e:Ms 12 b t l p s r=false:=rfl;have e2:((12:Int)==12)=true:=rfl;simp only[e,e1,e2,Qm8,QmW,Qnt,Qnd,eE,seval]
  ·have e2:(k==12)=false:=wg
   simp only[e1,e2,QmW,Qnd,eE,seval];refine aC hz ?_;simp only[Qa,seval]

theorem w55 (hl:l.length≤140737488351232)(hp:p.length≤140737488351232)(hs:s.length≤140737488351232)(hr:r.length≤140737488351232):Qh Tryz.prog 55 [vo k b t l p s r] (.bool (emp k b t l p s r)):=by
 have hz:=Qi0 k b t l p s r hl hp hs hr;simp only[vo]at hz;refine wF Tryz.func55 ?_;simp only[eK,Tryz.f55,seval];simp only[vo,emp,eE,seval];cases h1:(k==11)<;>cases h2:((l.length:Int)==0)<;>cases h3:(k==12)<;>cases h4:((p.length:Int)==0)<;>simp only[h2,h3,h4,Qm8,QmW,Qnc,Qnd,Qnt,eE,seval]
 all_goals(refine aC hz ?_;simp only[Qa,seval])

end
theorem QfI (v:V)(hc:v.cnt≤1048576):Qh Tryz.prog 55 [v.av] (.bool v.emp):=by
 have h1:=ZO v;have h2:=Jw v;have h3:=XP v;have h4:=JI v;rw[DV];exact w55 _ _ _ _ _ _ _ xD xD xD xD
theorem QfJ (v:V):Qh Tryz.prog 27 [v.av] (.bool v.emp):=by
 rw[DV];exact w27 _ _ _ _ _ _ _

def NgI (P:PL)(K:Nat→List (Int×V))(T:List (Int×V))(t:Nat)(rw':List R)(k:Nat)(st:St):Prop :=
 ∃f fr i g h,st=⟨f,[fr],[]⟩∧k=T.length-i∧i≤T.length∧f 1=.int .i64 (t:Nat)∧f 3=.ptr 0 3 0∧f 6=.ptr 0 6 0∧f 7=.ptr 0 7 0∧f 30=.list (T.map V.sav)∧f 31=.int .i64 (T.length:Nat)∧f 32=.int .i64 (i:Nat)∧fr 3=.cells [.list (P.progs.map Qm),.list (P.enums.map QC)]∧fr 6=.cells [.int .i64 0,.int .u64 0,.str [],.nils,.nils,.nils,.nils]∧fr 7=.cells [.int .i64 10,.int .u64 0,.str [],.nils,.nils,.vec 0 1100 g 0 (K i).length false,.vec 0 1000 h 0 rw'.length false]∧fr 1100=.vec g 8 ((K i).map V.sav)∧fr 1000=.vec h 4 (rw'.map R.av)∧∀s∈[13,10,9],(fr s).isRow=false

section
variable {M:Nat}{P:PL}(hP:P.ok M)

set_option maxHeartbeats 2000000 in
include hP in
theorem v24 (hU:JX P)(hr:Zo P)(hcd:Tl P):∀(n:Nat) (t:Int) (g:PG),P.progs[t.toNat]? = some g→0≤t→∀v:V,v.ok M→v.cnt≤1048576→MW P n g v→Qh Tryz.prog 24 [P.av,.int .i64 t,v.av] (Q5 P n g v).av:=by
 have e0:P.av=.agg [.list (P.progs.map Qm),.list (P.enums.map QC)]:=rfl;intro n
 induction n with
 |zero=>
  intro t g _ _ v _ _ h;exact h.elim
 |succ n ih=>
  intro t g hgt t0 v hv hc h;have hgm:=QlC hgt;have hg:=hP.progs g hgm;have hu:=hU g hgm;have hd:=hr g hgm;obtain⟨s1,s2⟩:=h;have hnel:=fun(o:PO) (ho:o∈g.ops) (x:V) (hx:x.ok M) (hxc:x.cnt≤1048576) (he:EW (MW P n) P o x)=>QiZ o (hu o ho) (fun t g a b v c d e=>ih t g a b v c d e) x hx hxc he
  have hnfl:=fun(o:PO) (ho:o∈g.ops) (x:V) (hx:x.ok M) (hxc:x.cnt≤1048576) (he:FW (MW P n) P o x)=>v54 o (hu o ho) (hnel o ho) x hx hxc he
  have hcn:∀(o:PO) (x:V),(Zq (Q5 P n) P o x).cnt≤x.cnt:=fun o x=>Rz (fun t v=>Kr hr n _ (Z7 hr t) v) o x
  have lS:=XP v;have lR:=JI v;have clR:=fun fr hr=>v51 (v.raws.map R.av) fr [] (Jo v.raws) kz hr
  have csR:=fun g (m:Qk) (hl:Am.Qc m 0 1000=.vec g 4 (v.raws.map R.av))=>Tz.Ti Tg.QfD xy QiW 0 1000 g (v.raws.map R.av) m hl (ezR v.raws) kz
  simp only[Lb,Qmj]at csR;have csl:=v52 v.slots xw s2;have hTp:(WA v.slots).Perm v.slots:=QX _;have hTl:(WA v.slots).length=v.slots.length:=hTp.length_eq;have hTm:∀s∈WA v.slots,s∈v.slots:=fun s h=>hTp.mem_iff.1 h
  have hfin:=I6 (Q5 P n) P hd s2;have hrl:(ZA v.raws).length=v.raws.length:=(QX v.raws).length_eq;generalize WA v.slots=T at *;obtain⟨ti,hti⟩:=Qnb t0;subst hti;rw[QmS]at hgt;have hga:(P.progs.map Qm)[ti]? = some (.agg g.cells):=by simp[hgt,Qm]
  simp only[PG.cells]at hga;have htl:ti<P.progs.length:=(Qlm.1 hgt).1;have d0:decide ((ti:Int)<0)=false:=Qnl xw;have d1:decide ((ti:Int)≥(P.progs.length:Int))=false:=Qnl xw;have co:=fun n=>AS g hg.len n
  simp only[Yu]at co;simp only[Qm,PG.cells]at co;show Qh _ _ _ (V.mk 10 0 [] [] [] (g.ops.flatMap (Xb (Q5 P n) P v.slots)) (ZA v.raws)).av;rw[←hfin,Qd v];generalize hK:(fun i=>(T.take i).flatMap (KG (Q5 P n) P g))=K;have hK0:K 0=[]:=wo
  have hKn:T.flatMap (KG (Q5 P n) P g)=K T.length:=wo
  have hKl:∀i,i≤T.length→(K i).length≤i:=by
   intro i hi;rw[←hK];show((T.take i).flatMap _).length≤i;have:∀l:List (Int×V),(l.flatMap (KG (Q5 P n) P g)).length≤l.length:=by
    intro l
    induction l with
    |nil=>exact Qlk _
    |cons s l ih=>
     have:(KG (Q5 P n) P g s).length≤1:=by
      unfold KG;split
      ·simp
      ·unfold JM;split<;>simp
     rw[QmU,Ql2,QlD];omega
   exact Qll (this _) kE
  rw[hKn,show(V.mk 10 0 [] [] [] (K T.length) (ZA v.raws)).av=.agg [.int .i64 10,.int .u64 0,.str [],.list [],.list [],.list ((K T.length).map V.sav),.list ((ZA v.raws).map R.av)]from Qd _];refine wF Tryz.func24 ?_;simp only[eK,Tryz.f24,seval];simp only[e0,eE,seval];refine Qj (clR _ rfl) xF ?_;simp only[Qmj,eE,seval];refine KT xJ rfl xJ rfl ?_;simp only[List.set,d0,d1,Qmj,eE,seval];refine aC csl ?_;simp only[Qmj,Qa,seval];refine Qi (NgI P K T ti v.raws) _ ⟨_,_,0,_,_,rfl,rfl,Qlx _,xx,xx,xx,xx,xx,xx,xx,xx,xx,kK,kK,xx,Hn rfl rfl rfl⟩ ?_;rintro _ st ⟨f0,fr0,i,gs,hs,rfl,rfl,hil,h10,h30,h60,h70,h300,h310,h320,m30,m60,m70,mS0,mR0,r13⟩;refine QL (a:=_) [13,10,9] r13 ?_;intro f fr hf hm hn13;have h1:f 1=.int .i64 (ti:Nat):=kj
  have h3:f 3=.ptr 0 3 0:=xW
  have h6:f 6=.ptr 0 6 0:=jV
  have h7:f 7=.ptr 0 7 0:=jU
  have h30':f 30=.list (T.map V.sav):=by rw[hf,h300]<;>rfl
  have h31:f 31=.int .i64 (T.length:Nat):=by rw[hf,h310]<;>rfl
  have h32:f 32=.int .i64 (i:Nat):=by rw[hf,h320]<;>rfl
  have m3:fr 3=.cells [.list (P.progs.map Qm),.list (P.enums.map QC)]:=j0
  have m6:fr 6=.cells [.int .i64 0,.int .u64 0,.str [],.nils,.nils,.nils,.nils]:=jG
  have m7:fr 7=.cells [.int .i64 10,.int .u64 0,.str [],.nils,.nils,.vec 0 1100 gs 0 (K i).length false,.vec 0 1000 hs 0 v.raws.length false]:=jZ
  have mS:fr 1100=.vec gs 8 ((K i).map V.sav):=kP
  have mR:fr 1000=.vec hs 4 (v.raws.map R.av):=jW
  have n13:=hn13 13 xy;have n10:=hn13 10 xy;have n9:=hn13 9 xy;clear hf hm hn13 h10 h30 h60 h70 h300 h310 h320 m30 m60 m70 mS0 mR0 r13;simp only[h31,h32,Qa,seval];by_cases hlt:i<T.length
  ·obtain⟨x,hi⟩:∃x,T[i]? = some x:=⟨T[i],Qln hlt⟩;have hx:=hTm x (QlC hi);have hgs:=Wy hi;have e1:=Qr i _ hlt xC;obtain⟨o,ho,hfo⟩:=s1 x hx;obtain⟨hom,hon⟩:=Jb ho;have hcard:=hcd g hgm o hom;have c1:=co x.1;rw[ho]at c1;have hxc:=Qll (ZZ hx) hc;have c2:=hnfl o hom x.2 (hv.slots x hx) hxc hfo;have c3:=QfI (Zq (Q5 P n) P o x.2) (Qll (hcn o x.2) hxc);have hKs:K (i+1)=K i++JM (Q5 P n) P o x:=by
    rw[←hK];show(T.take (i+1)).flatMap _=(T.take i).flatMap _++_;rw[Qng,hi,QnO];have:KG (Q5 P n) P g x=JM (Q5 P n) P o x:=by unfold KG;rw[ho]
    simp[this]
   have hkO:JM (Q5 P n) P o x=if (decide (o.card<3) || !(Zq (Q5 P n) P o x.2).emp)=true then [(x.1,Zq (Q5 P n) P o x.2)]else []:=by
    unfold JM;rw[hon]
   have hKi:=hKl i xw;rw[hkO]at hKs;clear hkO;generalize Zq (Q5 P n) P o x.2=z at c2 c3 hKs;rw[e0,Qd x.2,Qd z]at c2;rw[Qd z]at c3;simp only[Qu,PO.cells]at c2;have fin:∀(f':Fr) (fr':Nat→Ob) (gs':Nat),f' 1=.int .i64 (ti:Nat)→f' 3=.ptr 0 3 0→f' 6=.ptr 0 6 0→f' 7=.ptr 0 7 0→f' 30=.list (T.map V.sav)→f' 31=.int .i64 (T.length:Nat)→f' 32=.int .i64 ((i+1:Nat):Int)→fr' 3=.cells [.list (P.progs.map Qm),.list (P.enums.map QC)]→fr' 6=.cells [.int .i64 0,.int .u64 0,.str [],.nils,.nils,.nils,.nils]→fr' 7=.cells [.int .i64 10,.int .u64 0,.str [],.nils,.nils,.vec 0 1100 gs' 0 (K (i+1)).length false,.vec 0 1000 hs 0 v.raws.length false]→fr' 1100=.vec gs' 8 ((K (i+1)).map V.sav)→fr' 1000=.vec hs 4 (v.raws.map R.av)→(∀s∈[13,10,9],(fr' s).isRow=false)→∃k,k<T.length-i∧NgI P K T ti v.raws k ⟨f',[fr'],[]⟩:=by
    intro f' fr' gs' a1 a3 a6 a7 a30 a31 a32 b3 b6 b7 bS bR br;exact⟨T.length-(i+1),xw,f',fr',i+1,gs',hs,rfl,rfl,xw,a1,a3,a6,a7,a30,a31,a32,b3,b6,b7,bS,bR,br⟩
   simp only[QB hlt,Qp,QmS,Qf,hgs,hga,n9,h1,h3,h30',h32,m3,eE,seval];refine aC c1 ?_;simp only[QmA,Qnm,Qu,PO.cells,n10,eE,seval];rcases(by omega:o.card=1∨o.card=2∨o.card=3∨o.card=4∨o.card=5)with cc|cc|cc|cc|cc
   ·have b3:(o.card==3)=false:=ke
    have b4:(o.card==4)=false:=ke
    have b5:(o.card==5)=false:=ke
    rw[Qlv ke]at hKs;simp only[b3,b4,b5,QlX,Ql0,Ql6,h3,m3,eE,seval];refine aC c2 ?_;simp only[n13,h7,m7,eE,seval];exact o8

   ·have b3:(o.card==3)=false:=ke
    have b4:(o.card==4)=false:=ke
    have b5:(o.card==5)=false:=ke
    rw[Qlv ke]at hKs;simp only[b3,b4,b5,QlX,Ql0,Ql6,h3,m3,eE,seval];refine aC c2 ?_;simp only[n13,h7,m7,eE,seval];exact o8
   ·have b3:(o.card==3)=true:=ke
    have b4:(o.card==4)=false:=ke
    have b5:(o.card==5)=false:=ke
    have l3:decide (o.card<3)=false:=ke
    rw[l3,Qnd]at hKs;simp only[b3,QlX,Ql0,Ql6,h3,m3,eE,seval];refine aC c2 ?_;simp only[n13,eE,seval];refine aC c3 ?_;cases hz:z.emp
    ·rw[hz,Qlv (show(!false)=true from rfl)]at hKs;simp only[h7,m7,eE,seval];exact o8
    ·exact oz

   ·have b3:(o.card==3)=false:=ke
    have b4:(o.card==4)=true:=ke
    have b5:(o.card==5)=false:=ke
    have l3:decide (o.card<3)=false:=ke
    rw[l3,Qnd]at hKs;simp only[b3,b4,QlX,Ql0,Ql6,h3,m3,eE,seval];refine aC c2 ?_;simp only[n13,eE,seval];refine aC c3 ?_;cases hz:z.emp
    ·rw[hz,Qlv (show(!false)=true from rfl)]at hKs;simp only[h7,m7,eE,seval];exact o8
    ·exact oz

   ·have b3:(o.card==3)=false:=ke
    have b4:(o.card==4)=false:=ke
    have b5:(o.card==5)=true:=ke
    have l3:decide (o.card<3)=false:=ke
    rw[l3,Qnd]at hKs;simp only[b3,b4,b5,QlX,Ql0,Ql6,h3,m3,eE,seval];refine aC c2 ?_;simp only[n13,eE,seval];refine aC c3 ?_;cases hz:z.emp
    ·rw[hz,Qlv (show(!false)=true from rfl)]at hKs;simp only[h7,m7,eE,seval];exact o8
    ·exact oz
  ·have e:i=T.length:=xw
   subst e;simp only[QI hlt,h7,m7,eE,seval];refine Qj (csR _ _ (by simp only[mR,Ao,seval]<;>rfl)) xF ?_;simp only[h6,h7,m6,m7,eE,seval];simp[AV.un,AV.unL,Zw,XC,mS,QlY,hrl]

end
end Go.Proofs.YtmlohboeoeoamaaGreatDoor.Va

namespace Go.Proofs.YtmlohboeoeoamaaGreatDoor.Va
open Go Am Rc Bt

def YL (u:Int):Int:=if 0≤u then 2*u else -2*u-1
def zag (u:Int):Int:=if u % 2=0 then u / 2 else -(u / 2)-1

theorem Qi1 (u:Int)(h0 : -9223372036854775808≤u)(h1:u<9223372036854775808):Qh Tryz.prog 365 [.int .i64 u] (.int .u64 (YL u)):=by
 refine wF Tryz.func365 ?_;simp only[eK,Tryz.f365,seval];simp only[ZT,seval];congr 1
 simp only[show min 63 64=63 from rfl,show min 1 64=1 from rfl,seval,ZM,YL,QnM _ (show(0:Int)≤9223372036854775808 by decide)];by_cases h:0≤u
 ·rw[show u / 9223372036854775808=0 by omega,Qlv h,show(0:Int) % 18446744073709551616=0 from rfl,Ma _ xw xw];omega
 ·rw[show u / 9223372036854775808 = -1 by omega,Qlu h,show(-1:Int) % 18446744073709551616=18446744073709551615 from rfl,Mb _ xw xw];omega

theorem c63 (u:Int)(h0 : -9223372036854775808≤u)(h1:u<9223372036854775808):Qh Tryz.prog 63 [.int .i64 u] (.int .u64 (YL u)):=by
 refine wF Tryz.func63 ?_;simp only[eK,Tryz.f63,seval];simp only[ZT,seval];refine QV (fun h=>?_) (fun h=>?_)<;>simp only[ZT,seval]
 ·have h:0≤u:=xQ
  congr 1
  simp only[ZM,YL,Qlv h];omega
 ·have h:¬0≤u:=xQ
  congr 1
  simp only[ZM,QA,YL,Qlu h];omega

theorem Qi2 (u:Int)(h0:0≤u)(h1:u<18446744073709551616):Qh Tryz.prog 363 [.int .u64 u] (.int .i64 (zag u)):=by
 refine wF Tryz.func363 ?_;simp only[eK,Tryz.f363,seval];simp only[ZT,seval];congr 1
 simp only[show min 1 64=1 from rfl,PU u h0 h1,QA,zag,QnM _ (show(0:Int)≤2 ^ 1 by decide)];by_cases h:u % 2=0
 ·rw[h,Qlv rfl];rw[show(0-((0+9223372036854775808) % 18446744073709551616-9223372036854775808)+9223372036854775808) % 18446744073709551616-9223372036854775808=(0:Int)by decide];rw[Mc _ xw xw];omega
 ·have h':u % 2=1:=xw
  rw[h',Qlu xy];rw[show(0-((1+9223372036854775808) % 18446744073709551616-9223372036854775808)+9223372036854775808) % 18446744073709551616-9223372036854775808=(-1:Int)by decide];rw[Md _ xw xw];omega

theorem Gl (u:Int):0≤YL u:=by unfold YL;split<;>omega
theorem Qec (u:Int)(h0 : -9223372036854775808≤u)(h1:u<9223372036854775808):YL u<18446744073709551616:=by unfold YL;split<;>omega
open Br Up

def vv (k:Int)(b:Nat)(t:List UInt8)(l p s r:List AV):AV:=.agg [.int .i64 k,.int .u64 (b:Nat),.str t,.list l,.list p,.list s,.list r]

section
variable (k:Int)(b:Nat)(hb:b<18446744073709551616)(t:List UInt8)(l p s r:List AV)
include hb

theorem Qi3:Qh Tryz.prog 102 [vv k b t l p s r] (vv k (Xx k b) t l p s r):=by
 refine wF Tryz.func102 ?_;simp only[eK,Tryz.f102,seval];simp only[vv,eE,seval];by_cases hk:k=6
 ·have b0:(k==6)=true:=jD
  simp only[b0,eE,seval];refine aC (QiE b hb) ?_;simp only[S7,Qa,seval];by_cases hc:YY b=0
  ·exact oZ
  ·exact zU
 ·have b0:(k==6)=false:=jD
  exact yx

omit hb in
theorem y61:Qh Tryz.prog 61 [vv k b t l p s r] (vv k (Xx k b) t l p s r):=by
 refine wF Tryz.func61 ?_;simp only[eK,Tryz.f61,seval];simp only[vv,eE,seval];by_cases hk:k=6
 ·have b0:(k==6)=true:=jD
  simp only[b0,eE,seval];refine aC (QiD b) ?_;simp only[S7,Qa,seval];by_cases hc:YY b=0
  ·exact oZ
  ·exact zU
 ·have b0:(k==6)=false:=jD
  exact yx

def Xl:R :=
 if k=1∨k=4∨k=5∨k=9 then⟨0,0,b,[]⟩else if k=2∨k=3 then⟨0,1,(YL (IntKind.i64.wrap (b:Int))).toNat,[]⟩
 else if k=6 then⟨0,2,Xx k b,[]⟩else if k=7∨k=8 then⟨0,3,0,t⟩else zr

theorem Qi4:Qh Tryz.prog 341 [vv k b t l p s r] (Xl k b t).av:=by
  have hn:=Qi3 k b hb t l p s r;simp only[vv]at hn;have hw0 : -9223372036854775808≤IntKind.i64.wrap (b:Int):=xE
  have hw1:IntKind.i64.wrap (b:Int)<9223372036854775808:=xE
  have hz:=Qi1 (IntKind.i64.wrap (b:Int)) hw0 hw1;have hzn:(((YL (IntKind.i64.wrap (b:Int))).toNat:Nat):Int)=YL (IntKind.i64.wrap (b:Int)):=Int.toNat_of_nonneg (Gl _);refine wF Tryz.func341 ?_;simp only[eK,Tryz.f341,seval];exact og

omit hb in
theorem y28:Qh Tryz.prog 28 [vv k b t l p s r] (Xl k b t).av:=by
  have hn:=y61 k b t l p s r;simp only[vv]at hn;have hw0 : -9223372036854775808≤IntKind.i64.wrap (b:Int):=xE
  have hw1:IntKind.i64.wrap (b:Int)<9223372036854775808:=xE
  have hz:=c63 (IntKind.i64.wrap (b:Int)) hw0 hw1;have hzn:(((YL (IntKind.i64.wrap (b:Int))).toNat:Nat):Int)=YL (IntKind.i64.wrap (b:Int)):=Int.toNat_of_nonneg (Gl _);refine wF Tryz.func28 ?_;simp only[eK,Tryz.f28,seval];exact og

end

end Go.Proofs.YtmlohboeoeoamaaGreatDoor.Va

namespace Go.Proofs.YtmlohboeoeoamaaGreatDoor.Va
open Go Am Rc Bt Vp

def bl (l:List UInt8):List AV:=l.map fun b=>.int .u8 (b.toNat:Int)
theorem YM (a b:List UInt8):bl (a++b)=bl a++bl b:=by simp[bl]
theorem YN (a:List UInt8):(bl a).length=a.length:=by simp[bl]
theorem Kh (l:List UInt8):bytesOf (bl l)=some l:=by
 induction l with
 |nil=>rfl
 |cons b l ih=>
  show(bytesOf (bl l)).map _=_;rw[ih];simp

theorem QfK (u:Nat):(u:Int).fdiv (2 ^ min 7 64)=((u / 128:Nat):Int):=by
 rw[show min 7 64=7 from rfl,QnM _ (show(0:Int)≤2 ^ 7 by decide)];omega

theorem QfL (u:Nat):bits .or .u8 (IntKind.u8.wrap (u:Int)) 128=((UInt8.ofNat (u % 128+128)).toNat:Int):=by
 rw[AO];have h:∀n:Fin 256,bits .or .u8 ((n.val:Nat):Int) 128=((n.val % 128+128:Nat):Int):=xH
 have:=h ⟨u % 256,xw⟩;simp only at this;rw[show((u:Int) % 256)=((u % 256:Nat):Int)by omega,this,toNat_ofNat _ xw];omega

theorem Qed (u:Nat)(h:u<128):IntKind.u8.wrap (u:Int)=((UInt8.ofNat u).toNat:Int):=by
 rw[AO,toNat_ofNat _ xw];omega

def Qee (u0:Nat)(k:Nat)(st:St):Prop :=
 ∃f fr u g j l,st=⟨f,[fr],[]⟩∧k=u∧f 0=.int .u64 (u:Nat)∧f 3=.vec 0 3 g 0 l.length false∧fr 3=.vec g 1 (bl l)∧u<Uv (9-j)∧l.length+j=9∧l++Ww j u=Vp.put u0

theorem Tm (u:Nat)(hu:u<18446744073709551616):Qh Tryz.prog 227 [.int .u64 u] (.str (Vp.put u)):=by
 refine wF Tryz.func227 ?_;simp only[eK,Tryz.f227,seval];simp only[ZT,seval];refine XO rfl rfl ?_;simp only[ZT,seval];refine Qi (Qee u) u ⟨_,_,u,1,9,[],rfl,rfl,rfl,rfl,rfl,hu,rfl,rfl⟩ ?_;rintro n st ⟨f,fr,v,g,j,l,rfl,rfl,h0,h3,hv,hlt,hj,hl⟩;simp only[h0,ZT,seval];refine QV (fun h=>?_) (fun h=>?_)
 ·have h:128≤n:=by(have h:(128:Int)≤n:=xQ);omega
  obtain⟨j,rfl⟩:∃i,j=i+1:=⟨j-1,by
   rcases Qmd j with rfl|hp
   ·simp[Uv]at hlt;omega
   ·omega⟩
  simp only[h0,h3,ZT,seval];refine WE rfl ?_;refine QF rfl hv rfl (YN l).symm rfl rfl jE xD ?_;simp only[h0,QfK,QfL,ZT,seval];exact oV
 ·exact oA

theorem Qcd (n:Nat):(n:Int).tmod 128=((n % 128:Nat):Int):=by
 rw[QnF xw];omega
theorem Qce (n:Nat)(h:n<18446744073709551616):IntKind.u64.wrap ((n:Int).tdiv 128)=((n / 128:Nat):Int):=by
 rw[QnP xw,ZM];omega
theorem Qef (n:Nat):IntKind.u8.wrap (IntKind.u64.wrap (((n % 128:Nat):Int)+128))=((UInt8.ofNat (n % 128+128)).toNat:Int):=by
 rw[ZM,AO,toNat_ofNat _ xw];omega
theorem Qcf (i n:Nat)(h:n<Uv i):n<18446744073709551616:=by
 refine Qlw h ?_;unfold Uv;exact Nat.pow_le_pow_right xw (by omega:64-7*i≤64)

theorem Ex (u:Nat)(hu:u<18446744073709551616):Qh Tryz.prog 69 [.int .u64 u] (.str (Vp.put u)):=by
 refine wF Tryz.func69 ?_;simp only[eK,Tryz.f69,seval];simp only[ZT,seval];refine XO rfl rfl ?_;simp only[ZT,seval];refine Qi (Qee u) u ⟨_,_,u,1,9,[],rfl,rfl,rfl,rfl,rfl,hu,rfl,rfl⟩ ?_;rintro n st ⟨f,fr,v,g,j,l,rfl,rfl,h0,h3,hv,hlt,hj,hl⟩;simp only[h0,ZT,seval];refine QV (fun h=>?_) (fun h=>?_)
 ·have h:128≤n:=by(have h:(128:Int)≤n:=xQ);omega
  obtain⟨j,rfl⟩:∃i,j=i+1:=⟨j-1,by
   rcases Qmd j with rfl|hp
   ·simp[Uv]at hlt;omega
   ·omega⟩
  simp only[h0,h3,Qcd,Qef,seval,ZT];refine WE rfl ?_;refine QF rfl hv rfl (YN l).symm rfl rfl jE xD ?_;simp only[h0,Qce n (Qcf _ _ hlt),ZT,seval];exact oV
 ·exact oA

def tk (r:Nat×Nat×Nat):AV:=.tup [.int .u64 (r.1:Nat),.int .i64 (r.2.1:Nat),.int .i64 (r.2.2:Nat)]

theorem Qeg:tk (0,0,4)=.tup [.int .u64 0,.int .i64 0,.int .i64 4]:=rfl
theorem Qeh:tk (0,0,6)=.tup [.int .u64 0,.int .i64 0,.int .i64 6]:=rfl
theorem Qa3 (v n:Nat):tk (v,n,0)=.tup [.int .u64 (v:Nat),.int .i64 (n:Nat),.int .i64 0]:=rfl

theorem Ey (c:UInt8):bits .and .u8 (c.toNat:Int) 127=((c.toNat % 128:Nat):Int):=by
 have h:∀n:Fin 256,bits .and .u8 ((n.val:Nat):Int) 127=((n.val % 128:Nat):Int):=xH
 exact h ⟨c.toNat,c.toNat_lt⟩

theorem M2 (i:Nat):128 ^ i=2 ^ (7*i):=by rw[Nat.pow_mul]

theorem VM (acc d i:Nat)(hi:i≤9)(ha:acc<128 ^ i)(hd:d<128)(h9:i=9→d≤1) :
  bits .or .u64 (acc:Int) (IntKind.u64.wrap (IntKind.u64.wrap (d:Int)*2 ^ min (IntKind.i64.wrap (7*(i:Int))).toNat 64))=((acc+d*128 ^ i:Nat):Int):=by
 have e1:IntKind.i64.wrap (7*(i:Int))=((7*i:Nat):Int):=xE
 have hb:d*128 ^ i<18446744073709551616:=by
  rcases Nat.lt_or_ge i 9 with h|h
  ·have h1:128 ^ i≤128 ^ 8:=Nat.pow_le_pow_right xw xw
   calc d*128 ^ i≤127*128 ^ 8:=Nat.mul_le_mul xw h1
    _<_:=xy
  ·have:i=9:=xw
   subst this
   calc d*128 ^ 9≤1*128 ^ 9:=Nat.mul_le_mul (h9 rfl) (Qlk _)
    _<_:=xy
 have hacc:acc<18446744073709551616:=by
  refine Qlw ha ?_
  calc 128 ^ i≤128 ^ 9:=Nat.pow_le_pow_right xw hi
   _≤_:=xy
 have e2:IntKind.u64.wrap (d:Int)=(d:Int):=qJ
 have e3:IntKind.u64.wrap ((d:Int)*2 ^ (7*i))=((d*128 ^ i:Nat):Int):=by
  rw[ZM,M2];have:((d*2 ^ (7*i):Nat):Int)=(d:Int)*2 ^ (7*i):=by push_cast;rfl
  rw[←this];rw[M2]at hb;omega
 rw[e1,QmS,QmG xw,e2,e3,AP _ _ hacc hb];congr 1
 rw[M2]at ha ⊢;have:=Nat.two_pow_add_eq_or_of_lt ha d;rw[Nat.or_comm,Nat.mul_comm d,←this,Nat.add_comm]

theorem Ld {acc d i:Nat}(ha:acc<128 ^ i)(hd:d<128):acc+d*128 ^ i<128 ^ (i+1):=by
 have:d*128 ^ i≤127*128 ^ i:=Qmv _ xw;rw[Nat.pow_succ];omega

theorem M3 {l t:List UInt8}{c:UInt8}{i:Nat}(h:l.drop i=c :: t):l[i]? = some c∧l.drop (i+1)=t∧i<l.length:=by
 have hi:i<l.length:=by
  rcases Nat.lt_or_ge i l.length with h'|h'
  ·exact h'
  ·rw[Ql1 h']at h;cases h
 rw[Ql7 hi]at h
 injection h with h1 h2
 exact⟨by rw[Qln hi,h1],h2,hi⟩

def QfM (s:List UInt8)(k:Nat)(st:St):Prop :=
 ∃f i acc,st=⟨f,[Qb],[]⟩∧k=s.length-i∧f 0=.str s∧f 5=.int .u64 (acc:Nat)∧f 6=.int .i64 (i:Nat)∧i≤s.length∧i≤9∧acc<128 ^ i∧JU i acc (s.drop i)=Vp.take s

theorem Qi5 (s:List UInt8):Qh Tryz.prog 324 [.str s] (tk (Vp.take s)):=by
 refine wF Tryz.func324 ?_;simp only[eK,Tryz.f324,seval];simp only[ZT,seval];refine Qi (QfM s) _ ⟨_,0,0,rfl,rfl,rfl,rfl,rfl,Qlx _,Qlx _,xy,rfl⟩ ?_;rintro n st ⟨f,i,acc,rfl,rfl,h0,h5,h6,hil,hi,ha,hv⟩;simp only[h0,h6,ZT,seval];refine QV (fun h=>?_) (fun h=>?_)
 ·have h:i=s.length:=by(have h:(i:Int)=s.length:=xQ);omega
  rw[Ql1 xw]at hv;simp only[←hv,JU,Qeg,ZT,seval]
 ·have h:i<s.length:=by(have h:¬(i:Int)=s.length:=xQ);omega
  obtain⟨c,t,hc⟩:∃c t,s.drop i=c :: t:=by
   cases hd:s.drop i with
   |nil=>have:=congrArg List.length hd;simp at this;omega
   |cons c t=>exact⟨c,t,rfl⟩
  obtain⟨g1,g2,_⟩:=M3 hc;rw[hc]at hv;have n0:(0≤(i:Int))=True:=xA
  have e7:IntKind.i64.wrap (7*(i:Int))=((7*i:Nat):Int):=xE
  have n7:(0≤IntKind.i64.wrap (7*(i:Int)))=True:=eq_true (by rw[e7];omega);have e1:IntKind.i64.wrap ((i:Int)+1)=((i+1:Nat):Int):=xE
  rw[JU]at hv;simp only[h0,h6,n0,g1,QmS,ZT,seval];by_cases h9:i=9
  ·have e9:((i:Int)==9)=true:=xD
   simp only[e9,ZT,seval];refine QV (fun hc1=>?_) (fun hc1=>?_)
   ·have hc1:1<c.toNat:=by(have hc1:(1:Int)<c.toNat:=(by simpa using hc1));omega
    rw[Qlv ⟨h9,hc1⟩]at hv;simp only[←hv,Qeh,ZT,seval]
   ·have hc1:c.toNat≤1:=by(have hc1:(c.toNat:Int)≤1:=(by simpa using hc1));omega
    have hbad:¬(i=9∧1<c.toNat):=xw
    rw[Qlu hbad]at hv;have hd:=VM acc (c.toNat % 128) i hi ha xw (fun _=>xw);simp only[Ey,n7,hd,e1,h5,h6,ZT,seval];refine QV (fun hlt=>?_) (fun hlt=>?_)
    ·have hlt:c.toNat<128:=xw
     exact xc
    ·exfalso;have hlt:(128:Int)≤c.toNat:=qr
     omega
  ·have hbad:¬(i=9∧1<c.toNat):=xw
   rw[Qlu hbad]at hv;have e9:((i:Int)==9)=false:=xD
   have hd:=VM acc (c.toNat % 128) i hi ha xw (fun e=>absurd e h9);simp only[e9,Ey,n7,hd,e1,h5,h6,ZT,seval];refine QV (fun hlt=>?_) (fun hlt=>?_)
   ·have hlt:c.toNat<128:=by(have hlt:(c.toNat:Int)<128:=qr);omega
    exact xc
   ·have hlt:128≤c.toNat:=by(have hlt:(128:Int)≤c.toNat:=qr);omega
    rw[Qlu xw]at hv;simp only[ZT,seval];refine⟨s.length-(i+1),xw,_,i+1,acc+c.toNat % 128*128 ^ i,rfl,rfl,?_,?_,?_,xw,xw,Ld ha xw,?_⟩
    ·simp only[h0,ZT,seval]
    ·simp only[ZT,seval]
    ·simp only[ZT,seval]
    ·rw[g2,←hv];have:=c.toNat_lt;rw[show c.toNat % 128=c.toNat-128 by omega]

open Cp

theorem Le (c:C):Qh Tryz.prog 278 [c.av] (.bool c.sound):=by
 refine wF Tryz.func278 ?_;simp only[eK,Tryz.f278,seval];simp only[C.av,eE,seval]
 repeat' (first|(refine QV (fun h=>?_) (fun h=>?_)<;>simp only[h,eE,seval])|(refine XH (fun h=>?_) (fun h=>?_)<;>simp only[h,Ql,eE,seval])|(refine XJ (fun h=>?_) (fun h=>?_)<;>simp only[h,Ql,eE,seval]))
 all_goals(simp_all[C.sound]<;>omega)

theorem Tn (c:C)(n:Int):Qh Tryz.prog 326 [c.av,.int .i64 n] (c.ahead n).av:=by
 refine wF Tryz.func326 ?_;simp only[eK,Tryz.f326,seval];simp only[C.av,C.ahead,eE,seval]

theorem Qi6 (s:List UInt8)(l:L):Qh Tryz.prog 127 [.str s,l.av] (Hw (opn s l)):=by
 refine wF Tryz.func127 ?_;simp only[eK,Tryz.f127,seval];simp only[L.av,eE,seval]
 repeat' (first|(refine QV (fun h=>?_) (fun h=>?_)<;>simp only[h,eE,seval])|(refine XH (fun h=>?_) (fun h=>?_)<;>simp only[h,Ql,eE,seval])|(refine XJ (fun h=>?_) (fun h=>?_)<;>simp only[h,Ql,eE,seval]))
 all_goals((try simp only[Qlr,Qns]at *)<;>unfold opn<;>(repeat' split)<;>first|rfl|(exfalso;omega))

theorem Qei (c:C)(n:Int):Qh Tryz.prog 215 [c.av,.int .i64 n] (Hw (c.spend n)):=by
 refine wF Tryz.func215 ?_;simp only[eK,Tryz.f215,seval];simp only[C.av,eE,seval]
 repeat' (first|(refine QV (fun h=>?_) (fun h=>?_)<;>simp only[h,eE,seval])|(refine XH (fun h=>?_) (fun h=>?_)<;>simp only[h,Ql,eE,seval])|(refine XJ (fun h=>?_) (fun h=>?_)<;>simp only[h,Ql,eE,seval]))
 all_goals((try simp only[Qlr,Qns]at *)<;>unfold C.spend<;>(repeat' split)<;>first|rfl|(exfalso;omega))

theorem Dq (c:C)(hl:c.d.length≤9223372036854775807):Qh Tryz.prog 216 [c.av] (.int .i64 c.left):=by
 refine wF Tryz.func216 ?_;simp only[eK,Tryz.f216,seval];simp only[C.av,eE,seval];refine aC (Le c) ?_;have hr:=c.rest_len;cases hs:c.sound with
 |false=>
  rw[hs,Qlu xA]at hr;simp only[Qmx,hr,Qa,seval]
 |true=>
  rw[hs,Qlv rfl]at hr;have h:=(C.sound_iff c).1 hs;have e1:IntKind.i64.wrap (c.e-c.a)=c.e-c.a:=xE
  simp only[Qm9,hr,e1,eE,seval]

theorem Qej (c:C)(n:Nat)(hn:n≤1000)(hl:c.d.length≤9223372036854770000):Qh Tryz.prog 325 [c.av,.int .i64 (n:Int)] (.str (c.rest.take n)):=by
 refine wF Tryz.func325 ?_;simp only[eK,Tryz.f325,seval];simp only[C.av,eE,seval];refine aC (Le c) ?_;cases hs:c.sound with
 |false=>
  simp only[Qmx,C.rest_no hs,Qa,seval]
 |true=>
  have h:=(C.sound_iff c).1 hs;have e1:IntKind.i64.wrap (c.a+n)=c.a+n:=xE
  have hh:=C.head_of hs n _ rfl;generalize hk:(if c.a+n<c.e then c.a+n else c.e)=k at hh;have hk':c.a≤k∧k≤c.e:=by split at hk<;>omega
  have n1:(0≤c.a)=True:=eq_true h.1;have n2:(0≤k)=True:=eq_true xw;have n3:(c.a.toNat≤k.toNat∧k.toNat≤c.d.length)=True:=eq_true xw;simp only[Qm9,e1,hk,n1,n2,n3,hh,eE,seval]

theorem Vf (c:C)(hl:c.d.length≤9223372036854770000):Qh Tryz.prog 279 [c.av] (Wx c.varint):=by
 refine wF Tryz.func279 ?_;simp only[eK,Tryz.f279,seval];simp only[C.av,eE,seval];refine aC (Qej c 10 xw hl) ?_;refine aC (Qi5 (c.rest.take 10)) ?_;rw[take_take];unfold C.varint;generalize Vp.take c.rest=r;obtain⟨u,n,e⟩:=r;simp only[tk,Qa,seval];refine QV (fun h=>?_) (fun h=>?_)
 ·have h:¬e=0:=xQ
  simp only[h,Wx,C.av,eE,seval]
  try rfl
 ·have h:e=0:=xQ
  subst h;simp only[eE,seval];refine aC (Tn c (n:Int)) ?_;simp only[Wx,C.av,C.ahead,eE,seval]
  try rfl

theorem Xa {a:Nat}(h:¬a=0):((a:Int) != 0)=true:=w_
def fx:Nat→Nat→List UInt8
 |0,_=>[]
 |k+1,u=>UInt8.ofNat (u % 256) :: fx k (u / 256)

theorem W9 (k u:Nat):(fx k u).length=k:=by
 induction k generalizing u with
 |zero=>rfl
 |succ k ih=>simp[fx,ih]

theorem Qcg (k u:Nat):fx (k+1) u=fx k u++[UInt8.ofNat (u / 256 ^ k % 256)]:=by
 induction k generalizing u with
 |zero=>simp[fx]
 |succ k ih=>
  rw[fx,ih (u / 256)];simp only[fx,QlK,Nat.div_div_eq_div_mul,Nat.pow_succ,Nat.mul_comm]

theorem RH:∀(k u:Nat),u<256 ^ k→(fx k u).foldr (fun b v=>256*v+b.toNat) 0=u
 |0,u,h=>by simp at h;simp[fx,h]
 |k+1,u,h=>by
  rw[fx,List.foldr_cons,RH k (u / 256) (by rw[Nat.pow_succ]at h;omega),toNat_ofNat _ xw];omega

theorem RI (u:Nat)(t:List UInt8)(h:u<2 ^ 64):Uw (fx 8 u++t)=u:=by
 unfold Uw;rw[List.take_left' (W9 8 u)];exact RH 8 u (Nat.lt_of_lt_of_eq h xy)

def Dr (s:List UInt8):Nat→Nat
 |0=>0
 |k+1=>Dr s k+((s[k]?).getD 0).toNat*256 ^ k

theorem EA (s:List UInt8)(k:Nat):Dr s k<256 ^ k:=by
 induction k with
 |zero=>exact Nat.one_pos
 |succ k ih=>
  have h1:=((s[k]?).getD 0).toNat_lt;have h2:((s[k]?).getD 0).toNat*256 ^ k≤255*256 ^ k:=Qmv _ xw;rw[Dr,Nat.pow_succ];omega

theorem VN (b:UInt8):∀(l:List UInt8) (z:Nat),l.foldr (fun b v=>256*v+b.toNat) z=l.foldr (fun b v=>256*v+b.toNat) 0+z*256 ^ l.length
 | [],z=>xA
 |a :: l,z=>by
  rw[List.foldr_cons,List.foldr_cons,VN b l z,QlD,Nat.pow_succ];rw[Nat.mul_add,←Nat.mul_assoc,Nat.mul_comm 256 z,Nat.mul_assoc z,Nat.mul_comm 256 (256 ^ _)];omega

theorem M4 (s:List UInt8):∀(k:Nat),k≤s.length→(s.take k).foldr (fun b v=>256*v+b.toNat) 0=Dr s k
 |0,_=>rfl
 |k+1,h=>by
  rw[QlI xw,List.foldr_append,List.foldr_cons,List.foldr_nil,VN 0,M4 s k xw,Dr];rw[Qln xw,Qml,QmG xw];simp

theorem Lf (s:List UInt8)(h:8≤s.length):Uw s=Dr s 8:=M4 s 8 h

def To (s:List UInt8)(k:Nat)(st:St):Prop :=
 ∃f i,st=⟨f,[Qb],[]⟩∧k=8-i∧i≤8∧f 0=.str s∧f 4=.int .u64 (Dr s i:Nat)∧f 9=.int .i64 (i:Nat)

theorem Lg (s:List UInt8)(i:Nat)(c:UInt8)(hi:i<8)(hc:s[i]? = some c) :
  bits .or .u64 (Dr s i:Int) (IntKind.u64.wrap (IntKind.u64.wrap (c.toNat:Int)*2 ^ min (IntKind.i64.wrap (8*(i:Int))).toNat 64))=(Dr s (i+1):Nat):=by
 have e1:IntKind.i64.wrap (8*(i:Int))=((8*i:Nat):Int):=xE
 have hp:256 ^ i=2 ^ (8*i):=by rw[Nat.pow_mul]
 have hcl:=c.toNat_lt;have hlt:=EA s (i+1);have hlt0:=EA s i;rw[Dr,hc]at hlt;simp only[QmA]at hlt;have h8:256 ^ (i+1)≤256 ^ 8:=Nat.pow_le_pow_right xw xw;have h88:(256:Nat) ^ 8=18446744073709551616:=xy
 have e2:IntKind.u64.wrap (c.toNat:Int)=(c.toNat:Int):=qJ
 have e3:IntKind.u64.wrap ((c.toNat:Int)*2 ^ (8*i))=((c.toNat*256 ^ i:Nat):Int):=by
  have:((c.toNat*2 ^ (8*i):Nat):Int)=(c.toNat:Int)*2 ^ (8*i):=by push_cast;rfl
  rw[ZM,←this,hp];rw[hp]at hlt;omega
 rw[e1,QmS,QmG xw,e2,e3,AP _ _ xw xw,Dr,hc];congr 1
 rw[hp]at hlt0 ⊢;have:=Nat.two_pow_add_eq_or_of_lt hlt0 c.toNat;simp only[QmA];rw[Nat.or_comm,Nat.mul_comm c.toNat,←this,Nat.add_comm]

def EB (s:List UInt8):AV:=if s.length<8 then .tup [.int .u64 0,.int .i64 4]else .tup [.int .u64 (Uw s:Nat),.int .i64 0]

theorem Qek (s:List UInt8):Qh Tryz.prog 364 [.str s] (EB s):=by
 refine wF Tryz.func364 ?_;simp only[eK,Tryz.f364,seval];simp only[Qa,seval];refine QV (fun h=>?_) (fun h=>?_)
 ·have h:s.length<8:=by(have h:(s.length:Int)<8:=xQ);omega
  simp only[EB,h,Qa,seval]
 ·have h:¬s.length<8:=by(have h:¬(s.length:Int)<8:=xQ);omega
  simp only[Qa,seval];refine Qi (To s) _ ⟨_,0,rfl,rfl,xw,rfl,rfl,rfl⟩ ?_;rintro n st ⟨f,i,rfl,rfl,hi,h0,h4,h9⟩;simp only[h9,Qa,seval];refine QV (fun hc=>?_) (fun hc=>?_)
  ·have hc:i<8:=by(have hc:(i:Int)<8:=vi);omega
   have n0:(0≤(i:Int))=True:=xA
   obtain⟨b,hb⟩:∃b,s[i]? = some b:=⟨s[i],Qln xw⟩;have e1:IntKind.i64.wrap ((i:Int)+1)=((i+1:Nat):Int):=xE
   have e0:IntKind.i64.wrap (8*(i:Int))=((8*i:Nat):Int):=xE
   have n8:(0≤IntKind.i64.wrap (8*(i:Int)))=True:=eq_true (by rw[e0];omega);have ha:=Lg s i b hc hb;simp only[n0,QmS,hb,n8,ha,e1,h0,h4,h9,Qa,seval];exact⟨8-(i+1),xw,_,i+1,rfl,rfl,xw,by simp only[h0,Qa,seval],xz,xz⟩
  ·have hc:i=8:=by(have hc:¬(i:Int)<8:=vi);omega
   subst hc;simp only[h4,Qa,seval];rw[EB,Qlu h,Lf s xw]

theorem Qel (c:C)(hl:c.d.length≤9223372036854770000):Qh Tryz.prog 338 [c.av] (Wx c.fixed):=by
 refine wF Tryz.func338 ?_;simp only[eK,Tryz.f338,seval];simp only[C.av,eE,seval];refine aC (Qej c 8 xw hl) ?_;have h8:Uw (c.rest.take 8)=Uw c.rest:=by simp[Uw,QmF]
 have hlen:(c.rest.take 8).length<8↔c.rest.length<8:=xD
 by_cases h:c.rest.length<8
 ·have ht:=Qek (c.rest.take 8);rw[EB,Qlv (hlen.2 h)]at ht;refine aC ht ?_;simp only[show(((4:Int) != 0)=true)from rfl,C.fixed,Wx,h,C.av,eE,seval]
  try rfl
 ·have ht:=Qek (c.rest.take 8);rw[EB,Qlu (fun h'=>h (hlen.1 h')),h8]at ht;refine aC ht ?_;simp only[bne_self_eq_false,eE,seval];refine aC (Tn c 8) ?_;simp only[Wx,C.fixed,h,C.av,C.ahead,eE,seval]
  try rfl

theorem M5:∀(l:List UInt8),l.foldr (fun b v=>256*v+b.toNat) 0<256 ^ l.length
 | []=>xA
 |b :: l=>by
  have h:=M5 l;have hb:=b.toNat_lt;rw[List.foldr_cons,QlD,Nat.pow_succ];omega

def hi8 (s:List UInt8)(i:Nat):Nat:=((s.take 8).drop i).foldr (fun b v=>256*v+b.toNat) 0

open Up

theorem Qem (w:Int):Qh Tryz.prog 226 [.int .i64 w] (.bool (XK w)):=by
 refine wF Tryz.func226 ?_;simp only[eK,Tryz.f226,seval];simp only[Qa,seval]
 repeat' (first|(refine QV (fun h=>?_) (fun h=>?_)<;>simp only[h,eE,seval])|(refine XH (fun h=>?_) (fun h=>?_)<;>simp only[h,Ql,eE,seval])|(refine XJ (fun h=>?_) (fun h=>?_)<;>simp only[h,Ql,Qa,seval]))
 all_goals simp_all[XK]

theorem c68 (w:Int):Qh Tryz.prog 68 [.int .i64 w] (.bool (XK w)):=by
 refine wF Tryz.func68 ?_;simp only[eK,Tryz.f68,seval];simp only[Qa,seval]
 repeat' (first|(refine QV (fun h=>?_) (fun h=>?_)<;>simp only[h,eE,seval])|(refine XH (fun h=>?_) (fun h=>?_)<;>simp only[h,Ql,eE,seval])|(refine XJ (fun h=>?_) (fun h=>?_)<;>simp only[h,Ql,Qa,seval]))
 all_goals simp_all[XK]

theorem VP {n w:Int}(h:¬(n<1∨65535<n∨w<0∨6<w)):IntKind.u64.wrap (IntKind.i64.wrap (IntKind.i64.wrap (n*8)+w))=((n*8+w).toNat:Nat)∧(n*8+w).toNat<18446744073709551616:=by
 simp only[ZM,QA];omega

theorem Qen (n w:Int):Qh Tryz.prog 223 [.int .i64 n,.int .i64 w] (Df (ZB n w)):=by
 refine wF Tryz.func223 ?_;simp only[eK,Tryz.f223,seval];simp only[Qa,seval];by_cases hb:n<1∨65535<n∨w<0∨6<w
 ·repeat' (first|(refine QV (fun h=>?_) (fun h=>?_)<;>simp only[h,Qa,seval])|(refine XH (fun h=>?_) (fun h=>?_)<;>simp only[h,Ql,eE,seval])|(refine XJ (fun h=>?_) (fun h=>?_)<;>simp only[h,Ql,Qa,seval]))
  all_goals first
   |(rw[ZB,Qlv hb]<;>rfl)
   |(exfalso;simp only[Qns]at *;omega)
 ·obtain⟨e1,e2⟩:=VP hb;have d1:decide (n<1)=false:=xD
  have d2:decide (65535<n)=false:=xD
  have d3:decide (w<0)=false:=xD
  have d4:decide (6<w)=false:=xD
  simp only[d1,d2,d3,d4,e1,Qa,seval];refine aC (Tm _ e2) ?_;rw[ZB,Qlu hb];simp only[Df,Qa,seval]
  try rfl

theorem c66 (n w:Int):Qh Tryz.prog 66 [.int .i64 n,.int .i64 w] (Df (ZB n w)):=by
 refine wF Tryz.func66 ?_;simp only[eK,Tryz.f66,seval];simp only[Qa,seval];by_cases hb:n<1∨65535<n∨w<0∨6<w
 ·repeat' (first|(refine QV (fun h=>?_) (fun h=>?_)<;>simp only[h,Qa,seval])|(refine XH (fun h=>?_) (fun h=>?_)<;>simp only[h,Ql,eE,seval])|(refine XJ (fun h=>?_) (fun h=>?_)<;>simp only[h,Ql,Qa,seval]))
  all_goals first
   |(rw[ZB,Qlv hb]<;>rfl)
   |(exfalso;simp only[Qns]at *;omega)
 ·obtain⟨e1,e2⟩:=VP hb;have d1:decide (n<1)=false:=xD
  have d2:decide (65535<n)=false:=xD
  have d3:decide (w<0)=false:=xD
  have d4:decide (6<w)=false:=xD
  simp only[d1,d2,d3,d4,e1,Qa,seval];refine aC (Ex _ e2) ?_;rw[ZB,Qlu hb];simp only[Df,Qa,seval]
  try rfl

theorem Lh {u:Nat}(h:¬(u / 8<1∨65535<u / 8)):IntKind.i64.wrap (IntKind.u64.wrap ((u:Int).tdiv 8))=((u / 8:Nat):Int)∧IntKind.i64.wrap ((u:Int).tmod 8)=((u % 8:Nat):Int):=by
 have e1:(u:Int).tdiv 8=((u / 8:Nat):Int):=by rw[QnP xw];omega
 have e2:(u:Int).tmod 8=((u % 8:Nat):Int):=by rw[QnF xw];omega
 rw[e1,e2];simp only[ZM,QA];omega

theorem Li (c:C)(hl:c.d.length≤9223372036854770000):Qh Tryz.prog 217 [c.av] (VI (Qq c)):=by
 refine wF Tryz.func217 ?_;simp only[eK,Tryz.f217,seval];simp only[C.av,eE,seval];refine aC (Vf c hl) ?_;have hv:=fun h=>Z6 (c:=c) xw h
 unfold Qq;generalize c.varint=r at hv ⊢;obtain⟨u,d,e⟩:=r;simp only[Wx,C.av,eE,seval]at hv ⊢;refine QV (fun h=>?_) (fun h=>?_)
 ·have h:¬e=0:=xQ
  simp only[h,VI,C.av,eE,seval]
 ·have h:e=0:=xQ
  subst h;obtain⟨n,_,_,_,_,_,_,hu⟩:=hv rfl;have e1:(u:Int).tdiv 8=((u / 8:Nat):Int):=by rw[QnP xw];omega
  have e2:(u:Int).tmod 8=((u % 8:Nat):Int):=by rw[QnF xw];omega
  have e3:IntKind.u64.wrap ((u / 8:Nat):Int)=((u / 8:Nat):Int):=qJ
  simp only[e2,show(((8:Int)=0))=False from xA,Qa,seval];refine QV (fun h=>?_) (fun h=>?_)
  ·have h:u % 8=7:=by(have h:((u % 8:Nat):Int)=7:=xQ);omega
   simp only[h,VI,C.av,eE,seval]
   try rfl
  ·have h7:¬u % 8=7:=by(have h:¬((u % 8:Nat):Int)=7:=xQ);omega
   simp only[e1,e3,show(((8:Int)=0))=False from xA,Qa,seval];by_cases hb:u / 8<1∨65535<u / 8
   ·repeat' (first|(refine QV (fun h=>?_) (fun h=>?_)<;>simp only[h,e1,e2,e3,show(((8:Int)=0))=False from xA,eE,seval])|(refine XH (fun h=>?_) (fun h=>?_)<;>simp only[h,Ql,e1,e2,e3,show(((8:Int)=0))=False from xA,if_false,eE,seval])|(refine XJ (fun h=>?_) (fun h=>?_)<;>simp only[h,Ql,e1,e3,show(((8:Int)=0))=False from xA,eE,seval]))
    all_goals first
     |(simp only[h7,hb,VI,C.av,seval]<;>rfl)
     |(exfalso;simp only[Qns]at *;omega)
   ·obtain⟨t1,t2⟩:=Lh hb;rw[e1,e3]at t1;rw[e2]at t2;have d1:decide (((u / 8:Nat):Int)<1)=false:=xD
    have d2:decide (65535<((u / 8:Nat):Int))=false:=xD
    simp only[d1,d2,e1,e2,e3,t1,t2,show(((8:Int)=0))=False from xA,eE,seval];simp only[h7,hb,VI,C.av,seval]
    try rfl

theorem Qeo {c d:C}{u:Nat}(hl:c.d.length≤9223372036854770000)(hd:c.varint=(u,d,0))(hu:¬d.left<(u:Int)) :
  d.a+u≤d.d.length∧0≤d.a∧(u:Int)≤9223372036854770000∧d.d.length=c.d.length:=by
 obtain⟨n,h1,h2,h3,h4,h5,h6,h7⟩:=Z6 (c:=c) xw (by rw[hd]);rw[hd]at h4 h6;simp only at h4 h6;have hs:=(C.sound_iff d).1 h6;have hr:=d.rest_len;rw[Qlv h6]at hr;have:d.d=c.d:=by rw[h4]
 have e:d.d.length=c.d.length:=by rw[this]
 omega

theorem Qch {c d:C}{u:Nat}(hl:c.d.length≤9223372036854770000)(hd:c.varint=(u,d,0)):d.d.length≤9223372036854770000:=by
 obtain⟨n,h1,h2,h3,h4,h5,h6,h7⟩:=Z6 (c:=c) xw (by rw[hd]);rw[hd]at h4;simp only at h4;rw[h4];exact hl

theorem Ud (d:C):0≤d.left∧d.left≤(d.d.length:Int):=by
 have hr:=d.rest_len;have hs:=C.sound_iff d;split at hr
 ·rename_i h;have:=hs.1 h;omega
 ·omega

theorem Qi7 (c:C)(w:Int)(hl:c.d.length≤9223372036854770000):Qh Tryz.prog 339 [c.av,.int .i64 w] (Dg (Kk c w)):=by
  refine wF Tryz.func339 ?_;simp only[eK,Tryz.f339,seval];simp only[C.av,eE,seval];refine aC (Vf c hl) ?_;have hdl:=fun u d h=>Qch (c:=c) (d:=d) (u:=u) hl h
  have hcut:=fun u d h hu=>Qeo (c:=c) (d:=d) (u:=u) hl h hu
  unfold Kk;generalize c.varint=r at hcut hdl ⊢;obtain⟨u,d,e⟩:=r;simp only[Wx,C.av,eE,seval];refine QV (fun h=>?_) (fun h=>?_)
  · have h:¬e=0:=xQ
    simp only[h,Dg,C.av,eE,seval]
  · have h:e=0:=xQ
    subst h;have hcut:=hcut u d rfl;have hdl:=hdl u d rfl;have hlf:=Ud d;have e0:IntKind.u64.wrap d.left=d.left:=qJ
    by_cases hw:w=3
    all_goals
      first
        |(have dw:(w==3)=true:=by rw[hw]<;>rfl)
        |(have dw:(w==3)=false:=by simpa using hw)
      simp only[dw,eE,seval];refine aC (Dq d xw) ?_;by_cases hu:d.left<(u:Int)
      · have d1:decide (d.left<(u:Int))=true:=by simpa using hu
        simp only[e0,hu,Dg,C.av,eE,seval]
        try rfl
      · have d1:decide (d.left<(u:Int))=false:=by simpa using hu
        obtain⟨k1,k2,k3,k4⟩:=hcut hu;have e1:IntKind.i64.wrap (u:Int)=u:=xE
        have e2:IntKind.i64.wrap (d.a+(u:Int))=d.a+u:=xE
        have n1:(0≤d.a)=True:=eq_true k2;have n2:(0≤d.a+(u:Int))=True:=eq_true xw;have n3:(d.a.toNat≤(d.a+(u:Int)).toNat∧(d.a+(u:Int)).toNat≤d.d.length)=True:=eq_true xw;have n4:(d.a+(u:Int)).toNat-d.a.toNat=u:=xw
        first
          | (rw[Qlv hw]
             by_cases hm:c.tx<(u:Int)
             · have d2:decide (c.tx<(u:Int))=true:=wu
               simp only[e0,e1,hu,hm,Dg,C.av,eE,seval]
               try rfl
             · have d2:decide (c.tx<(u:Int))=false:=wu
               simp only[e0,e1,e2,n1,n2,n3,n4,hu,hm,Dg,C.av,C.ahead,eE,seval]
               try rfl)
          | (rw[Qlu hw]
             by_cases hm:65536<(u:Int)
             · have d2:decide (65536<(u:Int))=true:=wu
               simp only[e0,e1,hu,hm,Dg,C.av,eE,seval]
               try rfl
             · have d2:decide (65536<(u:Int))=false:=wu
               simp only[e0,e1,e2,n1,n2,n3,n4,hu,hm,Dg,C.av,C.ahead,eE,seval]
               try rfl)

theorem Qi8 (c:C)(f:R)(s:Nat)(fr:Nat→Ob)(m:Qk)(hs:fr s=.cells f.av.cells)(hl:c.d.length≤9223372036854770000) :
  Qe Tryz.prog 286 [c.av,.ptr 0 s 0] (fr :: m) fun x m1=>x=Hw (Zv c f).2∧m1=QJ fr s (.cells (Zv c f).1.av.cells) :: m:=by
 refine wG Tryz.func286 ?_;simp only[eK,Tryz.f286,seval];simp only[R.av,AV.cells]at hs;simp only[C.av,hs,eE,seval];by_cases h0:f.wire=0
 ·have d0:(f.wire==0)=true:=by simpa using h0
  simp only[d0,eE,seval];refine aC (Vf c hl) ?_;simp only[Wx,hs,C.av,eE,seval];refine⟨?_,?_⟩
  ·simp only[Zv,Hw,h0,C.av,seval]
   try rfl
  ·simp only[Zv,h0,R.av,Ao,seval]
   try rfl
 ·have d0:(f.wire==0)=false:=by simpa using h0
  by_cases h1:f.wire=1
  ·have d1:(f.wire==1)=true:=jC
   simp only[d0,d1,eE,seval];refine aC (Vf c hl) ?_;simp only[Wx,hs,C.av,eE,seval];refine⟨?_,?_⟩
   ·simp only[Zv,Hw,h1,C.av,seval]
    try rfl
   ·simp only[Zv,h1,R.av,Ao,seval]
    try rfl
  ·have d1:(f.wire==1)=false:=jC
   by_cases h2:f.wire=2
   ·have d2:(f.wire==2)=true:=jA
    simp only[d0,d1,d2,eE,seval];refine aC (Qel c hl) ?_;simp only[Wx,hs,C.av,eE,seval];refine⟨?_,?_⟩
    ·simp only[Zv,Hw,h2,C.av,seval]
    ·simp only[Zv,h2,R.av,Ao,seval]
   ·have d2:(f.wire==2)=false:=jA
    have hc:Zv c f=({ f with data:=(Kk c f.wire).1 },(Kk c f.wire).2.1,(Kk c f.wire).2.2):=by
     simp only[Zv,h0,h1,h2,if_false,or_self]
    simp only[d0,d1,d2,hs,eE,seval];refine aC (Qi7 c f.wire hl) ?_;rw[hc];simp only[Dg,hs,C.av,eE,seval];exact⟨rfl,rfl⟩

theorem Qci {c:C}(hl:c.d.length≤9223372036854770000):(Qq c).2.2.1.d.length≤9223372036854770000:=by
 unfold Qq;simp only;split
 ·rename_i h0;split
  ·exact hl
  ·split
   ·exact hl
   ·obtain⟨n,_,_,_,h4,_⟩:=Z6 (c:=c) xw h0;show c.varint.2.1.d.length≤_;rw[h4];exact hl
 ·exact hl

theorem EC {c:C}{n:Int}(hl:c.d.length≤9223372036854770000):(c.spend n).1.d.length≤9223372036854770000:=by
 unfold C.spend;split
 ·exact hl
 ·split<;>exact hl

theorem Qi9 (c:C)(hl:c.d.length≤9223372036854770000):Qh Tryz.prog 219 [c.av] (N3 (Xv c)):=by
 refine wF Tryz.func219 ?_;simp only[eK,Tryz.f219,seval];simp only[C.av,eE,seval];refine aC (Li c hl) ?_;have htl:=Qci hl;unfold Xv;generalize Qq c=t at htl ⊢;obtain⟨num,wire,d,e⟩:=t;simp only[VI,C.av,eE,seval]at htl ⊢;by_cases he:e=0
 ·subst he;simp only[eE,seval];refine aC (Qei d 1) ?_;have hsl:=EC (n:=1) htl;generalize d.spend 1=sp at hsl ⊢;obtain⟨d2,e2⟩:=sp;simp only[Hw,C.av,eE,seval]at hsl ⊢;by_cases he2:e2=0
  ·subst he2;simp only[eE,seval];refine Qj (Qi8 d2 ⟨num,wire,0,[]⟩ 9 _ _ ?_ hsl) rfl ?_
   ·simp only[R.av,eE,seval]
    try rfl
   ·generalize Zv d2 ⟨num,wire,0,[]⟩=k;obtain⟨f,d3,e3⟩:=k;simp only[Hw,C.av,R.av,eE,seval];by_cases he3:e3=0
    ·subst he3;simp only[N3,R.av,C.av,eE,seval]
     try rfl
    ·simp only[Xa he3,he3,N3,zr,R.av,C.av,eE,seval]
     try rfl
  ·simp only[Xa he2,he2,N3,zr,R.av,C.av,eE,seval]
   try rfl
 ·simp only[Xa he,he,N3,zr,R.av,C.av,eE,seval]
  try rfl

def sg:Nat→C→List R×Nat
 |0,_=>([],0)
 |k+1,c=>
  if 0<c.left then
   let r:=Xv c
   if r.2.2=0 then
    let t:=sg k r.2.1
    if t.2=0 then(r.1 :: t.1,0)else([],t.2)
   else([],r.2.2)
  else([],0)

def Qep (s:List UInt8)(l:L):List R×Nat :=
 let o:=opn s l
 if o.2=0 then sg s.length o.1 else([],o.2)

def Y4 (l:List R):List AV:=l.map R.av
theorem RJ (a:List R):(Y4 a).length=a.length:=by simp[Y4]

theorem Gm {c:C}(hl:c.d.length≤9223372036854775807)(h:c.fixed.2.2=0):c.sound=true∧8≤c.left∧c.fixed.2.1={ c with a:=c.a+8 }∧c.fixed.1<2 ^ 64:=by
 unfold C.fixed at h ⊢;split at h
 ·cases h
 ·rename_i hr;have hne:c.rest≠[]:=by intro e;rw[e]at hr;simp at hr
  have hs:=Mv hne;have hs':=(C.sound_iff c).1 hs;have hle:=c.rest_len;rw[Qlv hs]at hle;have h8:8≤c.left:=by unfold C.left;omega
  have hw:IntKind.i64.wrap (c.a+8)=c.a+8:=xE
  refine⟨hs,h8,?_,?_⟩
  ·rw[Qlu hr];simp only[C.ahead,hw]
  ·rw[Qlu hr];have h1:=M5 (c.rest.take 8);rw[Qml,QmG xw]at h1;have:(256:Nat) ^ 8=2 ^ 64:=xy
   show Uw c.rest<2 ^ 64;unfold Uw;omega

structure Step (c d:C):Prop where
 n:∃k:Nat,d={ c with a:=c.a+k,nd:=d.nd }∧0<k∧(k:Int)≤c.left
 sound:c.sound=true

theorem Step.left {c d:C}(h:Step c d):d.sound=true∧d.left<c.left∧0≤d.left∧d.d=c.d∧d.left=c.left-(d.a-c.a):=by
 obtain⟨⟨k,h1,h2,h3⟩,h4⟩:=h;have hs:=(C.sound_iff c).1 h4;have hc:=c.rest_len;rw[Qlv h4]at hc;have e1:d.a=c.a+k:=by rw[h1]
 have e2:d.e=c.e:=by rw[h1]
 have e3:d.d=c.d:=by rw[h1]
 have hd:d.sound=true:=by
  rw[C.sound_iff,e1,e2,e3];omega
 have hdl:=d.rest_len;rw[Qlv hd]at hdl;exact⟨hd,xw,xw,e3,xw⟩

theorem F3 {c:C}(hl:c.d.length≤9223372036854770000)(h:(Xv c).2.2=0):Step c (Xv c).2.1:=by
 unfold Xv at h ⊢;simp only at h ⊢;split at h
 ·rename_i ht;split at h
  ·rename_i hs;split at h
   ·rename_i hk;rw[Qlv ht,Qlv hs,Qlv hk]
    -- the ZB
    unfold Qq at ht hs hk ⊢;simp only at ht hs hk ⊢;split at ht
    ·rename_i hv;rw[Qlv hv]at hs hk ⊢;split at ht
     ·cases ht
     ·rename_i h7;rw[Qlu h7]at hs hk ⊢;split at ht
      ·cases ht
      ·rename_i h8;rw[Qlu h8]at hs hk ⊢;simp only at hs hk ⊢;obtain⟨n,g1,g2,g3,g4,g5,g6,g7⟩:=Z6 (c:=c) xw hv;rw[g4]at hs hk ⊢;have hsc:=(C.sound_iff c).1 g5;have hcl:=c.rest_len;rw[Qlv g5]at hcl
       -- the value Ch
       unfold C.spend at hs hk ⊢;split at hs
       ·cases hs
       ·rename_i s1;rw[Qlu s1]at hk ⊢;split at hs
        ·cases hs
        ·rename_i s2;rw[Qlu s2]at hk ⊢;simp only at hk ⊢;generalize hd:({ d:=c.d,a:=c.a+n,e:=c.e,dp:=c.dp,nd:=IntKind.i64.wrap (c.nd-1),tx:=c.tx }:C)=d at hk ⊢;have q1:d.d=c.d:=by rw[←hd]
         have q2:d.a=c.a+n:=by rw[←hd]
         have q3:d.e=c.e:=by rw[←hd]
         have q4:d.dp=c.dp:=by rw[←hd]
         have q5:d.tx=c.tx:=by rw[←hd]
         have hdl:d.left≤c.left-n:=by
          have:=d.rest_len;split at this
          ·omega
          ·omega
         have mk:∀(d':C) (j:Nat),d'={ d with a:=d.a+j }→(j:Int)≤d.left→Step c d':=by
          intro d' j e hj;refine⟨⟨n+j,?_,xw,xw⟩,g5⟩;rw[e];obtain⟨_,_,_,_,_,_⟩:=d;simp only at q1 q2 q3 q4 q5;subst q1 q2 q3 q4 q5;exact zA
         -- the contents
         unfold Zv at hk ⊢;split at hk
         ·rename_i w2;rw[Qlv w2];obtain⟨f1,f2,f3,f4⟩:=Gm (c:=d) (by rw[q1];omega) hk;exact mk _ 8 f3 f2
         ·rename_i w2;rw[Qlu w2];split at hk
          ·rename_i w1;rw[Qlv w1];obtain⟨j,f1,f2,f3,f4,f5,f6,f7⟩:=Z6 (c:=d) (by rw[q1];omega) hk;exact mk _ j f4 f3
          ·rename_i w1;rw[Qlu w1];simp only at hk ⊢;unfold Kk at hk ⊢;simp only at hk ⊢;split at hk
           ·rename_i hv2;rw[Qlv hv2];by_cases hu:d.varint.2.1.left<(d.varint.1:Int)
            ·rw[Qlv hu]at hk;cases hk
            ·rw[Qlu hu]at hk ⊢;by_cases hm:(if ((c.varint.1 % 8:Nat):Int)=3 then d.tx else 65536)<(d.varint.1:Int)
             ·rw[Qlv hm]at hk;cases hk
             ·rw[Qlu hm];obtain⟨j,f1,f2,f3,f4,f5,f6,f7⟩:=Z6 (c:=d) (by rw[q1];omega) hv2;have hs2:=(C.sound_iff d).1 f5;have hl2:=d.rest_len;rw[Qlv f5]at hl2;have hl3:=d.varint.2.1.rest_len;rw[Qlv f6,f4]at hl3;rw[f4]at hu;simp only at hl3;have hdl':(d.d.length:Int)=c.d.length:=by rw[q1]
              have hw:IntKind.i64.wrap (d.a+(j:Int)+(d.varint.1:Int))=d.a+j+d.varint.1:=by
               rw[QA];omega
              refine mk _ (j+d.varint.1) ?_ xw;rw[f4];simp only[C.ahead,hw,C.mk.injEq,Qmf,and_true];omega
           ·rename_i hv2;exact absurd hk hv2
    ·rename_i hv;exact absurd ht hv
   ·rename_i hk;exact absurd h hk
  ·rename_i hs;exact absurd h hs
 ·rename_i ht;exact absurd h ht

structure ScanS (s:List UInt8)(l:L)(c:C)(acc:List R):Prop where
 len:c.d.length=s.length
 all:Qep s l=(if (sg c.left.toNat c).2=0 then(acc++(sg c.left.toNat c).1,0)else([],(sg c.left.toNat c).2))
 acc:(acc.length:Int)+c.left≤s.length

theorem Vg:∀(k:Nat) (c:C),c.d.length≤9223372036854770000→c.left≤k→sg k c=sg c.left.toNat c
 |0,c,hl,h=>by
  have:=(Ud c).1;rw[show c.left.toNat=0 by omega]
 |k+1,c,hl,h=>by
  have hlb:=Ud c;by_cases h0:0<c.left
  ·obtain⟨j,hj⟩:∃j,c.left.toNat=j+1:=⟨c.left.toNat-1,xw⟩;rw[hj,sg,sg,Qlv h0,Qlv h0];by_cases hn:(Xv c).2.2=0
   ·obtain⟨_,s2,s3,s4,_⟩:=(F3 hl hn).left;simp only[hn,if_true];have hl':(Xv c).2.1.d.length≤9223372036854770000:=by rw[s4];exact hl
    rw[Vg k _ hl' xw,Vg j _ hl' xw]
   ·simp only[hn,if_false]
  ·have e:c.left.toNat=0:=xw
   rw[e];simp only[sg,h0,if_false]

theorem ScanS.done {s:List UInt8}{l:L}{c:C}{acc:List R}(h:ScanS s l c acc)(h0:¬0<c.left):Qep s l=(acc,0):=by
 have:=h.all;have hb:=(Ud c).1;rw[show c.left.toNat=0 by omega]at this
 simpa [sg]using this

theorem ScanS.step {s:List UInt8}{l:L}{c:C}{acc:List R}(hl:s.length≤9223372036854770000)(h:ScanS s l c acc)(h0:0<c.left)(hn:(Xv c).2.2=0):ScanS s l (Xv c).2.1 (acc++[(Xv c).1])∧(Xv c).2.1.left<c.left∧0≤(Xv c).2.1.left:=by
 have hcl:c.d.length≤9223372036854770000:=by rw[h.len];exact hl
 obtain⟨_,s2,s3,s4,_⟩:=(F3 hcl hn).left;refine⟨⟨by rw[s4];exact h.len,?_,?_⟩,s2,s3⟩
 ·have:=h.all;obtain⟨j,hj⟩:∃j,c.left.toNat=j+1:=⟨c.left.toNat-1,xw⟩;rw[hj,sg]at this;simp only[h0,hn,if_true]at this;rw[Vg j _ (by rw[s4];exact hcl) xw]at this;rw[this];by_cases hs:(sg (Xv c).2.1.left.toNat (Xv c).2.1).2=0
  ·simp[hs]
  ·simp[hs]
 ·have:=h.acc;simp;omega

end Go.Proofs.YtmlohboeoeoamaaGreatDoor.Va

namespace Go.Proofs.YtmlohboeoeoamaaGreatDoor.Va
open Go Am Rc Bt Vp Cp

def Qeq (u:Nat)(k:Nat)(st:St):Prop :=
 ∃f fr i,st=⟨f,[fr],[]⟩∧k=8-i∧i≤8∧f 0=.int .u64 (u:Nat)∧f 3=.vec 0 5 1 0 8 false∧f 7=.int .i64 8∧f 8=.int .i64 (i:Nat)∧fr 5=.vec 1 1 (Qw (fx i u)++List.replicate (8-i) (AV.int .u8 0))

theorem Qcj (u i:Nat)(hi:i<8):IntKind.u8.wrap ((u:Int).fdiv (2 ^ min (8*i) 64))=((UInt8.ofNat (u / 256 ^ i % 256)).toNat:Int):=by
 have hp:(256:Nat) ^ i=2 ^ (8*i):=by rw[Nat.pow_mul]
 rw[QmG xw,QnM _ (Int.le_of_lt (Int.pow_pos xy)),toNat_ofNat _ (Nat.mod_lt _ xy),hp,AO];have:(u:Int) / 2 ^ (8*i)=((u / 2 ^ (8*i):Nat):Int):=by push_cast;rfl
 rw[this];omega

theorem Qer (u:Nat):Qh Tryz.prog 225 [.int .u64 u] (.str (fx 8 u)):=by
 refine wF Tryz.func225 ?_;simp only[eK,Tryz.f225,seval];simp only[Qa,seval];refine DL (n:=8) (k:=8) rfl rfl (Qlk _) xy xy rfl ?_;simp only[eE,seval];refine Qi (Qeq u) 8 ?_ ?_
 ·exact⟨_,_,0,rfl,rfl,xw,rfl,rfl,rfl,rfl,rfl⟩
 rintro n st ⟨f,fr,i,rfl,rfl,hi,h0,h3,h7,h8,m5⟩;simp only[h7,h8,Qa,seval];have hlen:(Qw (fx i u)).length=i:=by simp[Qw,W9]
 by_cases hlt:i<8
 ·have d0:decide ((i:Int)<8)=true:=xD
  have e0:IntKind.i64.wrap (8*(i:Int))=((8*i:Nat):Int):=xE
  have n0:(0≤((8*i:Nat):Int))=True:=eq_true xw;have n1:(0≤(i:Int))=True:=xA
  have n2:(i<8)=True:=eq_true hlt;have e1:IntKind.i64.wrap ((i:Int)+1)=((i+1:Nat):Int):=xE
  have hb:=Qcj u i hlt;obtain⟨j,hj⟩:∃j,8-i=j+1:=⟨7-i,xw⟩;have hget:(Qw (fx i u)++List.replicate (8-i) (AV.int .u8 0))[0+i]? = some (.int .u8 0):=by
   rw[QlN,QmR xw,hlen,Nat.sub_self,hj];rfl
  have hset:(Qw (fx i u)++List.replicate (8-i) (AV.int .u8 0)).set (0+i) (AV.int .u8 ((UInt8.ofNat (u / 256 ^ i % 256)).toNat:Int))=Qw (fx (i+1) u)++List.replicate (8-(i+1)) (AV.int .u8 0):=by
   rw[QlN,Qcg,List.set_append_right _ _ xw,hlen,Nat.sub_self,hj,show 8-(i+1)=j by omega];simp[Qw,List.replicate_succ]
  simp only[d0,e0,n0,n1,n2,e1,hb,QmS,Qf,hget,JP,AV.rfL,AV.rf,hset,h0,h3,h8,m5,eE,seval];exact⟨8-(i+1),xw,_,_,i+1,rfl,rfl,xw,by simp only[h0,Qa,seval],by simp only[h3,Qa,seval],by simp only[h7,Qa,seval],xz,xz⟩
 ·have hi8:i=8:=xw
  subst hi8;have d0:decide (((8:Nat):Int)<8)=false:=rfl;rw[Nat.sub_self,List.replicate_zero,Qms]at m5;have he:=WF (m:=[]) (fr:=fr) (site:=5) (g:=1) (sz:=1) (n:=8) (q:=false) m5 (by simp[Qw,W9]);have hbo:bytesOf (Qw (fx 8 u))=some (fx 8 u):=Kh _;simp only[he,hbo,h3,Qa,seval]

open Up

def valid (f:R):Bool:=(ZB f.num f.wire).2==0&&(if XK f.wire then f.data==[]else f.bits==0)

theorem RK (n:Nat):(((n:Nat):Int)==0)=(n==0):=by
 by_cases h:n=0
 ·subst h;rfl
 ·rw[Qne.2 h,Qne.2 xw]

theorem Qja (f:R):Qh Tryz.prog 222 [f.av] (.bool (valid f)):=by
 refine wF Tryz.func222 ?_;simp only[eK,Tryz.f222,seval];simp only[R.av,eE,seval];refine aC (Qen f.num f.wire) ?_;unfold valid;generalize ZB f.num f.wire=t;obtain⟨s,e⟩:=t;simp only[Df,Qa,seval];by_cases he:e=0
 ·subst he;simp only[eE,seval];refine aC (Qem f.wire) ?_;cases hn:XK f.wire with
  |true=>
   simp only[QS,Qmz,eE,seval]
  |false=>
   simp only[RK,Qmz,eE,seval]
 ·simp only[Xa he,Qa,seval];simp[he]

theorem c65 (f:R):Qh Tryz.prog 65 [f.av] (.bool (valid f)):=by
 refine wF Tryz.func65 ?_;simp only[eK,Tryz.f65,seval];simp only[R.av,eE,seval];refine aC (c66 f.num f.wire) ?_;unfold valid;generalize ZB f.num f.wire=t;obtain⟨s,e⟩:=t;simp only[Df,eE,seval];refine aC (c68 f.wire) ?_;by_cases he:e=0
 ·have h1:((e:Int)==0)=true:=by simp[he]
  cases hn:XK f.wire with
  |true=>simp only[h1,show(e==0)=true by simp[he],QS,Qmz,eE,seval]
  |false=>simp only[h1,show(e==0)=true by simp[he],RK,Qmz,eE,seval]
 ·have h1:((e:Int)==0)=false:=xD
  have h2:(e==0)=false:=by simp[he]
  cases hn:XK f.wire with
  |true=>simp only[h1,h2,QmW,Qa,seval]
  |false=>simp only[h1,h2,QmW,Qa,seval]

end Go.Proofs.YtmlohboeoeoamaaGreatDoor.Va

namespace Go.Proofs.YtmlohboeoeoamaaGreatDoor.Va
open Go Am Rc Bt

theorem Qjb (p v:AV)(h fr:Nat→Ob)(m:Qk)(hs:fr 2215=.cells [p,v])(hp:p=.nilp∨p=.ptr 0 2215 0) :
  Qe Tryz.prog 291 [.ptr 1 2215 0] (h :: fr :: m) fun x m1=>x=.tup []∧m1=h :: QJ fr 2215 (.cells [.ptr 0 2215 0,v]) :: m:=by
 refine wG Tryz.func291 ?_;simp only[eK,Tryz.f291,seval];rcases hp with rfl|rfl
 ·simp only[hs,RR.evL,eE,seval]
 ·simp only[hs,RR.evL,Qbt _ _ _ hs,eE,seval]

structure Bld (fr:Nat→Ob)(bs:List UInt8):Prop where
 mk ::
 cell:∃p g,fr 2215=.cells [p,.vec 0 2005 g 0 bs.length false]∧fr 2005=.vec g 1 (Qw bs)∧(p=.nilp∨p=.ptr 0 2215 0)

def Ya (fr:Nat→Ob)(g:Nat)(bs:List UInt8):Nat→Ob :=
 QJ (QJ fr 2005 (.vec g 1 (Qw bs))) 2215 (.cells [.ptr 0 2215 0,.vec 0 2005 g 0 bs.length false])

theorem YO (fr:Nat→Ob)(g:Nat)(bs:List UInt8):Bld (Ya fr g bs) bs :=
 ⟨_,g,by rw[Ya,QZ],by rw[Ya,Q6 _ _ xy,QZ],.inr rfl⟩

theorem UH {fr:Nat→Ob}{g:Nat}{bs:List UInt8}{s:Nat}(h1:s≠2005)(h2:s≠2215):Ya fr g bs s=fr s:=by
 rw[Ya,Q6 _ _ h2,Q6 _ _ h1]

theorem M6 (bs t:List UInt8)(fr:Nat→Ob)(m:Qk)(h:Bld fr bs)(hl:bs.length+t.length≤140737488355328) :
  ∃g,Qe Tryz.prog 224 [.ptr 0 2215 0,.str t] (fr :: m) fun x m1=>x=.tup [.int .i64 (t.length:Int),.nili]∧m1=Ya fr g (bs++t) :: m:=by
 obtain⟨p,g,h1,h2,h3⟩:=h.cell;refine⟨g+1,?_⟩;refine wG Tryz.func224 ?_;simp only[eK,Tryz.f224,seval];simp only[Qa,seval];refine Qj (Qjb p _ _ fr m h1 h3) rfl ?_;simp only[h1,eE,seval];refine GR (xs:=Qw bs) rfl (by simp only[h2,eE,seval]) rfl v5 rfl hl ?_;have hb:Qw bs++Qw t=Qw (bs++t):=v5
 have hn:bs.length+t.length=(bs++t).length:=xA
 simp only[h1,hb,hn,eE,seval];rw[CV _ _ _ _ _ xy,DM,CV _ _ _ _ _ xy,Ya]

def Ch (fr:Nat→Ob)(bs:List UInt8):Nat→Ob :=
 if bs.length=0 then fr else match fr 2005 with
  |.vec g _ _=>QJ fr 2005 (.vec (g+1) 1 [])
  |_=>fr

theorem Qjc (bs:List UInt8)(fr:Nat→Ob)(m:Qk)(h:Bld fr bs)(hl:bs.length≤140737488355328) :
  Qe Tryz.prog 228 [.ptr 0 2215 0] (fr :: m) fun x m1=>x=.str bs∧m1=Ch fr bs :: m:=by
 obtain⟨p,g,h1,h2,h3⟩:=h.cell;refine wG Tryz.func228 ?_;simp only[eK,Tryz.f228,seval];simp only[h1,eE,seval];refine⟨1,2005,g,bs.length,1,Qw bs,xy,rfl,h2,?_⟩;by_cases h0:bs.length=0
 ·have hb:bs=[]:=Qmu h0;subst hb;simp only[Ql,h1,h2,Qmk,Int.natCast_zero,eE,seval];refine .inl ⟨rfl,rfl,?_⟩;simp only[Ql,Ch,Qmk,Qa,seval]
 ·simp only[h0,Ql,h1,h2,eE,seval];refine .inr ⟨1,g,bs.length,Qw bs,bs,rfl,rfl,h2,v5,h0,QlY v5,?_⟩;simp only[h0,Ql,h2,Ch,eE,seval]

open Vp Cp Up

def body (f:R):List UInt8:=if f.wire=2 then fx 8 f.bits else if XK f.wire then Vp.put f.bits else Vp.put f.data.length++f.data
def KH (f:R):List UInt8:=if valid f then(ZB f.num f.wire).1++body f else []
def QT (l:List R):List UInt8:=l.flatMap KH

theorem Bld.drop {fr:Nat→Ob}{bs:List UInt8}(h:Bld fr bs):Bld (QJ (fun i=>(fr i).scrub 5) 5 .none) bs:=by
 obtain⟨p,g,h1,h2,h3⟩:=h.cell;refine⟨p,g,?_,?_,h3⟩
 ·rw[Q6 _ _ xy,h1];rcases h3 with rfl|rfl<;>rfl
 ·rw[Q6 _ _ xy,h2];rfl

theorem Bld.put {fr:Nat→Ob}{bs:List UInt8}(h:Bld fr bs)(o:Ob):Bld (QJ fr 5 o) bs:=by
 obtain⟨p,g,h1,h2,h3⟩:=h.cell;exact⟨p,g,by rw[Q6 _ _ xy];exact h1,by rw[Q6 _ _ xy];exact h2,h3⟩

def Qa4 (l:List R)(k:Nat)(st:St):Prop :=
 ∃f fr i,st=⟨f,[fr],[]⟩∧k=l.length-i∧i≤l.length∧f 3=.ptr 0 2215 0∧f 8=.list (Y4 l)∧f 9=.int .i64 (l.length:Int)∧f 10=.int .i64 (i:Nat)∧(fr 5).isRow=false∧Bld fr (QT (l.take i))

theorem Ds (l:List R)(i:Nat)(fd:R)(h:l[i]? = some fd):QT (l.take (i+1))=QT (l.take i)++KH fd:=by
 obtain⟨hi,e⟩:=Qlm.1 h;rw[QlI hi,e];simp[QT]

theorem RL (l:List R)(i:Nat)(fd:R)(h:l[i]? = some fd):(QT (l.take i)).length+(KH fd).length≤(QT l).length:=by
 have e:QT l=QT (l.take (i+1))++QT (l.drop (i+1)):=by
  unfold QT;rw[←QnO,QmH]
 rw[e,Ds l i fd h];simp

theorem Qes (l:List R)(hb:∀fd∈l,fd.bits<18446744073709551616∧fd.data.length<9223372036854775807)(hn:l.length<9223372036854775807)(hl:(QT l).length≤140737488355328):Qh Tryz.prog 133 [.list (Y4 l)] (.str (QT l)):=by
 refine wF Tryz.func133 ?_;simp only[eK,Tryz.f133,seval];simp only[eE,seval];refine KT rfl rfl rfl rfl ?_;simp only[RJ,Qa,seval];refine Qi (Qa4 l) _ ⟨_,_,0,rfl,rfl,Qlx _,rfl,rfl,rfl,rfl,rfl,?_⟩ ?_
 ·exact⟨.nilp,1,rfl,rfl,.inl rfl⟩
 rintro n st ⟨f,fr,i,rfl,rfl,hi,h3,h8,h9,h10,m5,hB⟩;simp only[h9,h10,m5,Qa,seval];by_cases hlt:i<l.length
 ·obtain⟨fd,hfd⟩:∃fd,l[i]? = some fd:=⟨l[i],Qln hlt⟩;have hmem:=QlC hfd;obtain⟨hb1,hb2⟩:=hb fd hmem;have hfa:(Y4 l)[i]? = some fd.av:=by simp[Y4,hfd]
  have hps:=Ds l i fd hfd;have hple:=RL l i fd hfd;have d0:decide ((i:Int)<(l.length:Int))=true:=xD
  have n0:(0≤(i:Int))=True:=xA
  have e1:IntKind.i64.wrap ((i:Int)+1)=((i+1:Nat):Int):=xE
  -- how a round ends
  have fin:∀(f':Fr) (fr':Nat→Ob) (bs':List UInt8),f' 3=.ptr 0 2215 0→f' 8=.list (Y4 l)→f' 9=.int .i64 (l.length:Int)→f' 10=.int .i64 (((i+1:Nat):Nat):Int)→(fr' 5).isRow=false→Bld fr' bs'→bs'=QT (l.take i)++KH fd→∃k,k<l.length-i∧Qa4 l k ⟨f',[fr'],[]⟩:=by
   intro f' fr' bs' g1 g2 g3 g4 g5 g6 g7;exact⟨l.length-(i+1),xw,f',fr',i+1,rfl,rfl,xw,g1,g2,g3,g4,g5,by rw[hps,←g7];exact g6⟩
  have hB1:=(hB.drop).put (.cells [.int .i64 fd.num,.int .i64 fd.wire,.int .u64 (fd.bits:Nat),.str fd.data]);rw[DM]at hB1;simp only[d0,n0,QmS,Qf,hfa,R.av,h8,h10,eE,seval];refine aC (Qja fd) ?_;cases hv:valid fd with
  |false=>
   simp only[e1,h10,Qa,seval];refine fin _ _ _ ?_ ?_ ?_ ?_ ?_ hB1 ?_
   ·simp only[h3,Qa,seval]
   ·simp only[h8,Qa,seval]
   ·simp only[h9,Qa,seval]
   ·simp only[Qa,seval]
   ·simp only[Qa,seval]
   ·simp[KH,hv]
  |true=>
   simp only[eE,seval];refine aC (Qen fd.num fd.wire) ?_;simp only[Df,Qa,seval];have hp:KH fd=(ZB fd.num fd.wire).1++body fd:=by simp[KH,hv]
   have hpl:=congrArg List.length hp;rw[Ql2]at hpl;have hbl:∀x:Nat,x≤(body fd).length→(QT (l.take i)).length+(ZB fd.num fd.wire).1.length+x≤140737488355328:=by intro x hx;omega
   have hbody:body fd=if fd.wire=2 then fx 8 fd.bits else if XK fd.wire then Vp.put fd.bits else Vp.put fd.data.length++fd.data:=rfl
   obtain⟨g1,hw1⟩:=M6 (QT (l.take i)) (ZB fd.num fd.wire).1 _ [] hB1 (by have:=hbl 0 xw;omega);refine Qj hw1 kF ?_;have B2:=YO (QJ (fun i=>(fr i).scrub 5) 5 (.cells [.int .i64 fd.num,.int .i64 fd.wire,.int .u64 (fd.bits:Nat),.str fd.data])) g1 (QT (l.take i)++(ZB fd.num fd.wire).1);have w5:Ya (QJ (fun i=>(fr i).scrub 5) 5 (.cells [.int .i64 fd.num,.int .i64 fd.wire,.int .u64 (fd.bits:Nat),.str fd.data])) g1 (QT (l.take i)++(ZB fd.num fd.wire).1) 5=.cells [.int .i64 fd.num,.int .i64 fd.wire,.int .u64 (fd.bits:Nat),.str fd.data]:=by
    rw[UH xy xy,QZ]
   have hlen2:(QT (l.take i)++(ZB fd.num fd.wire).1).length=(QT (l.take i)).length+(ZB fd.num fd.wire).1.length:=xA
   generalize hfr2:Ya (QJ (fun i=>(fr i).scrub 5) 5 (.cells [.int .i64 fd.num,.int .i64 fd.wire,.int .u64 (fd.bits:Nat),.str fd.data])) g1 (QT (l.take i)++(ZB fd.num fd.wire).1)=fr2 at B2 w5;simp only[w5,eE,seval];by_cases w2:fd.wire=2
   ·have dw:(fd.wire==2)=true:=qt
    have hbo:body fd=fx 8 fd.bits:=by rw[hbody,Qlv w2]
    simp only[dw,w5,eE,seval];refine aC (Qer fd.bits) ?_;obtain⟨g2,hw2⟩:=M6 _ (fx 8 fd.bits) _ [] B2 qB;exact o_
   ·have dw:(fd.wire==2)=false:=qt
    simp only[dw,w5,eE,seval];refine aC (Qem fd.wire) ?_;cases hnu:XK fd.wire with
    |true=>
     have hbo:body fd=Vp.put fd.bits:=by rw[hbody,Qlu w2,Qlv hnu]
     simp only[w5,eE,seval];refine aC (Tm fd.bits hb1) ?_;obtain⟨g2,hw2⟩:=M6 _ (Vp.put fd.bits) _ [] B2 qB;exact o_
    |false=>
     have hbo:body fd=Vp.put fd.data.length++fd.data:=by rw[hbody,Qlu w2,Qlu (by rw[hnu];simp)]
     have hbn:=congrArg List.length hbo;rw[Ql2]at hbn;have eu:IntKind.u64.wrap (fd.data.length:Int)=(fd.data.length:Nat):=qJ
     simp only[eu,w5,eE,seval];refine aC (Tm fd.data.length xw) ?_;obtain⟨g2,hw2⟩:=M6 _ (Vp.put fd.data.length) _ [] B2 (by rw[hlen2];exact hbl _ xw);refine Qj hw2 kF ?_;have B3:=YO fr2 g2 (QT (l.take i)++(ZB fd.num fd.wire).1++Vp.put fd.data.length);have w6:Ya fr2 g2 (QT (l.take i)++(ZB fd.num fd.wire).1++Vp.put fd.data.length) 5=.cells [.int .i64 fd.num,.int .i64 fd.wire,.int .u64 (fd.bits:Nat),.str fd.data]:=by
      rw[UH xy xy,w5]
     have hlen3:(QT (l.take i)++(ZB fd.num fd.wire).1++Vp.put fd.data.length).length=(QT (l.take i)).length+(ZB fd.num fd.wire).1.length+(Vp.put fd.data.length).length:=xD
     generalize hfr3:Ya fr2 g2 (QT (l.take i)++(ZB fd.num fd.wire).1++Vp.put fd.data.length)=fr3 at B3 w6;simp only[w6,eE,seval];obtain⟨g3,hw3⟩:=M6 _ fd.data _ [] B3 (by rw[hlen3];have:=hbl (body fd).length (Qlk _);omega);refine Qj hw3 kF ?_;simp only[e1,h10,Qa,seval];refine fin _ _ _ ?_ ?_ ?_ ?_ ?_ (YO _ _ _) ?_
     ·simp only[h3,Qa,seval]
     ·simp only[h8,Qa,seval]
     ·simp only[h9,Qa,seval]
     ·simp only[Qa,seval]
     ·rw[UH xy xy,w6]<;>rfl
     ·rw[hp,hbo,QlJ,QlJ]
 ·have d0:decide ((i:Int)<(l.length:Int))=false:=xD
  have hil:i=l.length:=xw
  subst hil;rw[Qm5]at hB;simp only[d0,Qa,seval];refine Qj (Qjc (QT l) _ [] hB.drop hl) kF ?_;simp only[Qa,seval]

end Go.Proofs.YtmlohboeoeoamaaGreatDoor.Va

namespace Go.Proofs.YtmlohboeoeoamaaGreatDoor.Va
open Go Am Rc Bt Br Up So

def Jl (n:Int)(x:V):R:={ Xl x.kd x.bits x.text with num:=n }
section
variable (bd:Int→V→List UInt8)
def Xf (o:PO)(n:Int)(x:V):R:=if o.kind=10 then⟨n,4,0,bd o.target x⟩else Jl n x
def Jf (o:PO)(p:V×V):R:=⟨o.num,6,0,QT [Jl 1 p.1,Xf bd o 2 p.2]⟩
def Y5 (w:Int)(b:Nat):List UInt8:=if w=2 then fx 8 b else Vp.put b
def YP (w:Int)(x:V):List UInt8:=Y5 w (Xl x.kd x.bits x.text).bits
def F4 (o:PO)(l:List V):R:=⟨o.num,5,0,UInt8.ofNat (wk o.kind).toNat :: l.flatMap (YP (wk o.kind))⟩
def YQ (o:PO)(x:V):List R :=
 if o.card=5 then x.pairs.map (Jf bd o)
 else if pk o.card o.kind=true then [F4 o x.list]
 else if o.card=4 then x.list.map (Xf bd o o.num)
 else [Xf bd o o.num x]
def Jm (g:PG)(s:Int×V):List R:=match Q7 g s.1 with
 |none=>[]
 |some o=>YQ bd o s.2
def Xs (g:PG):List (Int×V)→List R→List R
 | [],rs=>rs
 |s :: sl,rs=>rs.takeWhile (fun r=>decide (r.num<s.1))++Jm bd g s++Xs g sl (rs.dropWhile fun r=>decide (r.num<s.1))
end
def Xh (P:PL):Nat→Int→V→List UInt8
 |0,_,_=>[]
 |n+1,t,v=>QT (Xs (Xh P n) (Qg P t) (Q5 P (n+1) (Qg P t) v).slots (Q5 P (n+1) (Qg P t) v).raws)

theorem Qet (n w:Int):(ZB n w).1.length≤10:=by
 unfold ZB;split
 ·exact Qlx _
 ·exact(Vp.put_len _).2
theorem Qeu (f:R):(KH f).length≤20+f.data.length:=by
 unfold KH;split
 ·have h1:=Qet f.num f.wire;have h2:(body f).length≤10+f.data.length:=by
   unfold body;split
   ·rw[W9];omega
   ·split
    ·have:=(Vp.put_len f.bits).2;omega
    ·have:=(Vp.put_len f.data.length).2;rw[Ql2];omega
  rw[Ql2];omega
 ·exact Qlx _
def ZE (l:List R):Nat:=(l.map fun f=>20+f.data.length).sum
theorem Yv:∀l:List R,(QT l).length≤ZE l
 | []=>Qlk _
 |f :: l=>by
  have h1:=Qeu f;have h2:=Yv l;unfold QT ZE at h2 ⊢;rw[QmU,Ql2,QlW,QnG];omega
theorem D3 (a b:List R):ZE (a++b)=ZE a+ZE b:=by
 unfold ZE;rw[Qnf,List.sum_append]
theorem D4 (f:R):ZE [f]=20+f.data.length:=by simp[ZE]
theorem Vh {P:PL}{k tg:Int}{v:V}(h:v.one P k tg=0):v.text.length≤4096:=by
 unfold V.one Dh at h;split at h
 ·omega
 split at h
 ·omega
 rename_i h1 h2;simp only[Qlr]at h2;omega
theorem VQ (k:Int)(b:Nat)(t:List UInt8):(Xl k b t).data.length≤t.length:=by
 unfold Xl zr
 repeat' split
 all_goals first|exact Qlx _|exact Qlk _
theorem Gn (n:Int)(v:V):(Jl n v).data.length≤v.text.length:=VQ _ _ _

section
variable {P:PL}{m:PG→V→Int}{bd:Int→V→List UInt8}
variable (hbd:∀(t:Int) (v:V),(0≤t∧t<(P.progs.length:Int))→m (Qg P t) v=0→(bd t v).length+70000≤70000*v.cnt)
include hbd
theorem D5 {o:PO}(ho:UO P o){n:Int}{x:V}(h:QW m P o x=0):(Xf bd o n x).data.length+5000≤70000*x.cnt:=by
 have hc:=X9 x;unfold QW at h;unfold Xf;split
 ·exact xk
 ·rename_i hk;rw[Qlu hk]at h;have h1:=Vh h;have h2:=Gn n x;omega
theorem Vi {o:PO}(ho:UO P o){p:V×V}(h1:p.1.one P o.key (-1)=0)(h2:QW m P o p.2=0):20+ZE [Jl 1 p.1,Xf bd o 2 p.2]≤70000*(p.1.cnt+p.2.cnt):=by
 have h3:=D5 hbd ho (n:=2) h2;have h4:=Vh h1;have h5:=Gn 1 p.1;exact zV
theorem M7 {o:PO}(ho:UO P o){p:V×V}(h1:p.1.one P o.key (-1)=0)(h2:QW m P o p.2=0):20+(Jf bd o p).data.length≤70000*(p.1.cnt+p.2.cnt):=by
 have h3:=Vi hbd ho h1 h2;have h6:=Yv [Jl 1 p.1,Xf bd o 2 p.2];unfold Jf;dsimp only;omega
omit hbd in
theorem Vj (w:Int)(x:V):(YP w x).length≤10:=by
 unfold YP Y5;split
 ·rw[W9];omega
 ·exact(Vp.put_len _).2
omit hbd in
theorem Uj (w:Int):∀l:List V,(l.flatMap (YP w)).length≤10*l.length
 | []=>Qlk _
 |x :: l=>by
  have h1:=Vj w x;have h2:=Uj w l;rw[QmU,Ql2,QlD];omega
theorem Qck {o:PO}(ho:UO P o){x:V}(h:Xw m P o x=0):ZE (YQ bd o x)≤70000*x.cnt:=by
 have hc:=Q4 x;have hp:=X9 x;unfold Xw at h;unfold YQ;by_cases h5:o.card=5
 ·rw[Qlv h5]at h;rw[Qlv h5];split at h
  ·omega
  have hE:=(Wa.1 h).1;have key:∀l:List (V×V),(∀p∈l,p.1.one P o.key (-1)=0∧QW m P o p.2=0)→ZE (l.map (Jf bd o))≤70000*Xk l:=by
   intro l
   induction l with
   |nil=>intro _;exact Qlx _
   |cons p l ih=>
    intro hl;have i1:=ih fun q hq=>hl q ve
    obtain⟨a,b⟩:=hl p xA;have i2:=M7 hbd ho a b;obtain⟨pa,pb⟩:=p;unfold ZE at i1 ⊢;simp only[QlW,QnG,Xk];dsimp only at i2;omega
  have:=key _ hE;omega
 ·rw[Qlu h5]at h;rw[Qlu h5];split
  ·exact yO
  ·by_cases h4:o.card=4
   ·rw[Qlv h4]at h;rw[Qlv h4];split at h
    ·omega
    have hL:=Kt.1 h;have key:∀l:List V,(∀y∈l,QW m P o y=0)→ZE (l.map (Xf bd o o.num))≤70000*Q9 l:=by
     intro l
     induction l with
     |nil=>intro _;exact Qlx _
     |cons y l ih=>
      intro hl;have i1:=ih fun q hq=>hl q ve
      have i2:=D5 hbd ho (n:=o.num) (hl y xA);unfold ZE at i1 ⊢;simp only[QlW,QnG,Q9];omega
    have:=key _ hL;omega
   ·rw[Qlu h4]at h;rw[Qlu h4,D4];have:=D5 hbd ho (n:=o.num) h;omega
omit hbd in
theorem M8 {g:PG}{f:R}(h:JW P g f=0):f.data.length≤65536:=by
 unfold JW at h;split at h
 ·omega
 split at h
 ·omega
 split at h
 ·omega
 split at h
 ·omega
 rename_i h4;simp only[Qlq,Qlr,not_or]at h4;omega
theorem Gp {g:PG}:∀(sl:List (Int×V)) (rs:List R),(∀x∈sl,∃o,Q7 g x.1=some o∧UO P o∧Xw m P o x.2=0)→(∀f∈rs,JW P g f=0)→ZE (Xs bd g sl rs)≤70000*(rs.length+Xd sl)
 | [],rs,_,hr=>by
  unfold Xs;have:∀l:List R,(∀f∈l,JW P g f=0)→ZE l≤70000*l.length:=by
   intro l
   induction l with
   |nil=>intro _;exact Qlx _
   |cons f l ih=>
    exact z_
  have:=this rs hr;omega
 |s :: sl,rs,hs,hr=>by
  obtain⟨o,h1,ho,h2⟩:=hs s xA;have h3:=Qck hbd ho h2;have ih:=Gp sl (rs.dropWhile fun r=>decide (r.num<s.1)) (fun x hx=>hs x qz) (fun f hf=>hr f ((QnQ _).mem hf));have h4:∀l:List R,(∀f∈l,JW P g f=0)→ZE l≤70000*l.length:=by
   intro l
   induction l with
   |nil=>intro _;exact Qlx _
   |cons f l ih=>
    exact z_
  have h5:=h4 (rs.takeWhile fun r=>decide (r.num<s.1)) (fun f hf=>hr f ((QnR _).mem hf));have h6:(rs.takeWhile fun r=>decide (r.num<s.1)).length+(rs.dropWhile fun r=>decide (r.num<s.1)).length=rs.length:=by
   rw[←Ql2,List.takeWhile_append_dropWhile]
  obtain⟨sn,sx⟩:=s;rw[Xs,D3,D3];unfold Jm;rw[h1];simp only[Xd];dsimp only at h3 h5 h6 ih ⊢;omega
end

theorem HD {P:PL}(hU:JX P)(hr:Zo P):∀(n:Nat) (t:Int) (v:V),(0≤t∧t<(P.progs.length:Int))→XF P n (Qg P t) v=0→(Xh P n t v).length+70000≤70000*v.cnt
 |0,t,v,_,h=>(Uc 0 _ _ h).elim
 |n+1,t,v,ht,h=>by
  have hg:Qg P t∈P.progs:=by
   exact yb
  have hf:=KZ hU hr (n+1) (Qg P t) hg v h;have hc:=Kr hr (n+1) (Qg P t) (Z7 hr t) v;rw[Xh];generalize Q5 P (n+1) (Qg P t) v=w at hf hc;obtain⟨_,⟨s1,_,_⟩,_,s4⟩:=JY.1 hf;have h1:=Yv (Xs (Xh P n) (Qg P t) w.slots w.raws);have h2:=Q4 w;have h3:=Gp (m:=XF P n) (bd:=Xh P n) (fun t v ht hm=>HD hU hr n t v ht hm) w.slots w.raws (fun x hx=>by
   obtain⟨o,ho,hx⟩:=s1 x hx;exact⟨o,ho,hU _ hg o (Jb ho).1,hx⟩) s4
  omega

def Z8:List R→Nat
 | []=>0
 |f :: l=>f.data.length+Z8 l
mutual
def _root_.Go.Proofs.YtmlohboeoeoamaaGreatDoor.Br.V.sz:V→Nat
 |.mk _ _ t l p s r=>t.length+Wn l+J9 p+Jx s+Z8 r
def Wn:List V→Nat
 | []=>0
 |x :: l=>x.sz+Wn l
def J9:List (V×V)→Nat
 | []=>0
 |(a,b) :: l=>a.sz+b.sz+J9 l
def Jx:List (Int×V)→Nat
 | []=>0
 |(_,a) :: l=>a.sz+Jx l
end
theorem KI:∀v:V,v.sz=v.text.length+Wn v.list+J9 v.pairs+Jx v.slots+Z8 v.raws
 |.mk k b t l p s r=>by rw[V.sz];rfl
theorem Lj {l:List R}{i:Nat}{x:R}(h:l[i]? = some x):Z8 (l.take (i+1))=Z8 (l.take i)+x.data.length:=by
 induction l generalizing i with
 |nil=>simp at h
 |cons y l ih=>
  cases i with
  |zero=>simp at h;subst h;simp[Z8]
  |succ i=>
   simp only[QlX,Z8];exact zJ
theorem Lk {l:List V}{i:Nat}{x:V}(h:l[i]? = some x):Wn (l.take (i+1))=Wn (l.take i)+x.sz:=by
 induction l generalizing i with
 |nil=>simp at h
 |cons y l ih=>
  cases i with
  |zero=>simp at h;subst h;simp[Wn]
  |succ i=>
   simp only[QlX,Wn];exact zJ
theorem Ll {l:List (V×V)}{i:Nat}{x:V×V}(h:l[i]? = some x):J9 (l.take (i+1))=J9 (l.take i)+x.1.sz+x.2.sz:=by
 induction l generalizing i with
 |nil=>simp at h
 |cons y l ih=>
  obtain⟨y1,y2⟩:=y;cases i with
  |zero=>simp at h;subst h;simp[J9]
  |succ i=>
   simp only[QlX,J9];exact zJ
theorem Lm {l:List (Int×V)}{i:Nat}{x:Int×V}(h:l[i]? = some x):Jx (l.take (i+1))=Jx (l.take i)+x.2.sz:=by
 induction l generalizing i with
 |nil=>simp at h
 |cons y l ih=>
  obtain⟨y1,y2⟩:=y;cases i with
  |zero=>simp at h;subst h;simp[Jx]
  |succ i=>
   simp only[QlX,Jx];exact zJ

theorem Ln {a b:List R}(h:a.Perm b):Z8 a=Z8 b:=by
 induction h with
 |nil=>rfl
 |cons x _ ih=>simp only[Z8,ih]
 |swap x y l=>simp only[Z8];omega
 |trans _ _ h1 h2=>rw[h1,h2]
theorem Qcl (a b:List R):Z8 (a++b)=Z8 a+Z8 b:=by
 induction a with
 |nil=>simp[Z8]
 |cons x a ih=>simp only[QlK,Z8,ih];omega
theorem ED (p:R→Bool)(l:List R):Z8 (l.takeWhile p)+Z8 (l.dropWhile p)=Z8 l:=by
 rw[←Qcl,List.takeWhile_append_dropWhile]

theorem EE (v:V):v.nsc.sz=v.sz:=by
 rw[KI,KI v];rfl
theorem RM {f:V→V}(h:∀v,(f v).sz≤v.sz):∀l:List V,Wn (l.map f)≤Wn l
 | []=>Qlk _
 |x :: l=>by
  have:=h x;have:=RM h l;simp only[QlW,Wn];omega
theorem RP {f g:V→V}(h:∀v,(f v).sz≤v.sz)(k:∀v,(g v).sz≤v.sz):∀l:List (V×V),J9 (l.map fun p=>(f p.1,g p.2))≤J9 l
 | []=>Qlk _
 |(a,b) :: l=>by
  have:=h a;have:=k b;have:=RP h k l;simp only[QlW,J9];omega
theorem Lo {a b:List (V×V)}(h:a.Perm b):J9 a=J9 b:=by
 induction h with
 |nil=>rfl
 |cons x _ ih=>obtain⟨p,q⟩:=x;simp only[J9,ih]
 |swap x y l=>obtain⟨p,q⟩:=x;obtain⟨r,s⟩:=y;simp only[J9];omega
 |trans _ _ h1 h2=>rw[h1,h2]
theorem Qcm (a b:List (Int×V)):Jx (a++b)=Jx a+Jx b:=by
 induction a with
 |nil=>simp[Jx]
 |cons x a ih=>obtain⟨n,v⟩:=x;simp only[QlK,Jx,ih];omega

theorem M9 {nm:PG→V→V}{P:PL}(h:∀t v,(nm (Qg P t) v).sz≤v.sz)(o:PO)(v:V):(Zb nm P o v).sz≤v.sz:=by
 unfold Zb;split
 ·exact h _ _
 ·rw[EE];exact Qlk _
theorem Qev {nm:PG→V→V}{P:PL}(h:∀t v,(nm (Qg P t) v).sz≤v.sz)(o:PO)(v:V):(Zq nm P o v).sz≤v.sz:=by
 unfold Zq;split
 ·have:=RM (M9 (P:=P) h o) v.list;rw[KI,KI v];simp only[V.text,V.raws,V.list,V.pairs,V.slots,Qmk,J9,Jx,Z8];simp only[V.list]at this;omega
 ·split
  ·have h1:=RP (f:=V.nsc) (g:=Zb nm P o) (fun v=>by rw[EE];exact Qlk _) (M9 (P:=P) h o) (Q0 o.key v.pairs);have h2:J9 (Q0 o.key v.pairs)=J9 v.pairs:=Lo (QX _);rw[KI,KI v];simp only[V.text,V.raws,V.list,V.pairs,V.slots,Qmk,Wn,Jx,Z8];simp only[V.pairs]at h1 h2;omega
  ·exact M9 h o v

def zS (sl:List (Int×V))(n:Int):Nat:=Jx (sl.filter fun s=>s.1==n)
theorem Qew (ops:List PO)(hd:ops.Pairwise fun a b=>a.num<b.num)(sl:List (Int×V)):(ops.map fun o=>zS sl o.num).sum≤Jx sl:=by
 induction sl with
 |nil=>
  have:∀l:List PO,(l.map fun o=>zS [] o.num).sum=0:=by
   intro l
   induction l with
   |nil=>rfl
   |cons x l ih=>rw[QlW,QnG,ih];rfl
  rw[this];exact Qlx _
 |cons s sl ih=>
  obtain⟨n,v⟩:=s;have h1:=Ea ops hd n v.sz;have h2:∀l:List PO,(l.map fun o=>zS ((n,v) :: sl) o.num).sum=(l.map fun o=>if n=o.num then v.sz else 0).sum+(l.map fun o=>zS sl o.num).sum:=by
   intro l
   induction l with
   |nil=>rfl
   |cons o l ih=>
    simp only[QlW,QnG,ih];have:zS ((n,v) :: sl) o.num=(if n=o.num then v.sz else 0)+zS sl o.num:=by
     unfold zS;by_cases e:n=o.num
     ·rw[List.filter_cons_of_pos kn,Qlv e,Jx]
     ·rw[QnH kn,Qlu e,QlN]
    omega
  rw[h2,Jx];omega

theorem Qcn {sl:List (Int×V)}{n:Int}{s:Int×V}(h:sl.find? (fun s=>s.1==n)=some s):s.2.sz≤zS sl n:=by
 unfold zS
 induction sl with
 |nil=>cases h
 |cons x sl ih=>
  obtain⟨m,v⟩:=x;rw[Qnk]at h;by_cases e:m=n
  ·have hb:((m,v).1==n)=true:=kn
   rw[hb]at h;cases h;rw[List.filter_cons_of_pos kn,Jx];exact Nat.le_add_right _ _
  ·exact yB

theorem Qco {nm:PG→V→V}{P:PL}(h':∀t v,(nm (Qg P t) v).sz≤v.sz)(g:PG)(hd:g.ops.Pairwise fun a b=>a.num<b.num)(v:V):(YW nm P g v).sz≤v.sz:=by
 have h1:Jx (g.ops.flatMap (Xb nm P v.slots))≤(g.ops.map fun o=>zS v.slots o.num).sum:=by
  clear hd
  induction g.ops with
  |nil=>exact Qlk _
  |cons o l ih=>
   have:Jx (Xb nm P v.slots o)≤zS v.slots o.num:=by
    unfold Xb;cases hf:v.slots.find? (fun s=>s.1==o.num)with
    |none=>exact Qlx _
    |some s=>
     have a:=Qcn hf;have b:=Qev (P:=P) h' o s.2;dsimp only;split
     ·simp only[Jx];omega
     ·exact Qlx _
   rw[QmU,Qcm,QlW,QnG];omega
 have h2:=Qew g.ops hd v.slots;have h3:Z8 (ZA v.raws)=Z8 v.raws:=Ln (QX _);rw[KI,KI v];simp only[YW,V.text,V.raws,V.list,V.pairs,V.slots,Wn,J9,Qmk]at *;omega

theorem EF {P:PL}(h:Zo P):∀(n:Nat) (g:PG),(g.ops.Pairwise fun a b=>a.num<b.num)→∀v:V,(Q5 P n g v).sz≤v.sz
 |0,_,_,_=>Qlk _
 |n+1,g,hg,v=>Qco (fun t v=>EF h n _ (Z7 h t) v) g hg v

section
variable {P:PL}{m:PG→V→Int}{bd:Int→V→List UInt8}
variable (hbd:∀(t:Int) (v:V),(0≤t∧t<(P.progs.length:Int))→m (Qg P t) v=0→(bd t v).length+40≤40*v.cnt+v.sz)
include hbd
theorem Pa {o:PO}(ho:UO P o){n:Int}{x:V}(h:QW m P o x=0):(Xf bd o n x).data.length+40≤40*x.cnt+x.sz:=by
 have hc:=X9 x;unfold QW at h;unfold Xf;split
 ·exact xk
 ·rename_i hk;rw[Qlu hk]at h;have h2:=Gn n x;have hz:=KI x;omega
theorem Qex {o:PO}(ho:UO P o){p:V×V}(_:p.1.one P o.key (-1)=0)(h2:QW m P o p.2=0):20+ZE [Jl 1 p.1,Xf bd o 2 p.2]≤40*(p.1.cnt+p.2.cnt)+p.1.sz+p.2.sz:=by
 have h3:=Pa hbd ho (n:=2) h2;have h5:=Gn 1 p.1;have hz:=KI p.1;exact zV
theorem Qcp {o:PO}(ho:UO P o){p:V×V}(h1:p.1.one P o.key (-1)=0)(h2:QW m P o p.2=0):20+(Jf bd o p).data.length≤40*(p.1.cnt+p.2.cnt)+p.1.sz+p.2.sz:=by
 have h3:=Qex hbd ho h1 h2;have h6:=Yv [Jl 1 p.1,Xf bd o 2 p.2];unfold Jf;dsimp only;omega
theorem Qey {o:PO}(ho:UO P o){x:V}(h:Xw m P o x=0):ZE (YQ bd o x)≤40*x.cnt+x.sz:=by
 have hc:=Q4 x;have hz:=KI x;have hp:=X9 x;unfold Xw at h;unfold YQ;by_cases h5:o.card=5
 ·rw[Qlv h5]at h;rw[Qlv h5];split at h
  ·omega
  have hE:=(Wa.1 h).1;have key:∀l:List (V×V),(∀p∈l,p.1.one P o.key (-1)=0∧QW m P o p.2=0)→ZE (l.map (Jf bd o))≤40*Xk l+J9 l:=by
   intro l
   induction l with
   |nil=>intro _;exact Qlx _
   |cons p l ih=>
    intro hl;have i1:=ih fun q hq=>hl q ve
    obtain⟨a,b⟩:=hl p xA;have i2:=Qcp hbd ho a b;obtain⟨pa,pb⟩:=p;unfold ZE at i1 ⊢;simp only[QlW,QnG,Xk,J9];dsimp only at i2;omega
  have:=key _ hE;omega
 ·rw[Qlu h5]at h;rw[Qlu h5];split
  ·exact yO
  ·by_cases h4:o.card=4
   ·rw[Qlv h4]at h;rw[Qlv h4];split at h
    ·omega
    have hL:=Kt.1 h;have key:∀l:List V,(∀y∈l,QW m P o y=0)→ZE (l.map (Xf bd o o.num))≤40*Q9 l+Wn l:=by
     intro l
     induction l with
     |nil=>intro _;exact Qlx _
     |cons y l ih=>
      intro hl;have i1:=ih fun q hq=>hl q ve
      have i2:=Pa hbd ho (n:=o.num) (hl y xA);unfold ZE at i1 ⊢;simp only[QlW,QnG,Q9,Wn];omega
    have:=key _ hL;omega
   ·rw[Qlu h4]at h;rw[Qlu h4,D4];have:=Pa hbd ho (n:=o.num) h;omega
theorem RQ {g:PG}:∀(sl:List (Int×V)) (rs:List R),(∀x∈sl,∃o,Q7 g x.1=some o∧UO P o∧Xw m P o x.2=0)→(∀f∈rs,JW P g f=0)→ZE (Xs bd g sl rs)≤40*(rs.length+Xd sl)+Z8 rs+Jx sl
 | [],rs,_,hr=>by
  unfold Xs;have:∀l:List R,(∀f∈l,JW P g f=0)→ZE l≤40*l.length+Z8 l:=by
   intro l
   induction l with
   |nil=>intro _;exact Qlx _
   |cons f l ih=>
    exact yr
  have:=this rs hr;omega
 |s :: sl,rs,hs,hr=>by
  obtain⟨o,h1,ho,h2⟩:=hs s xA;have h3:=Qey hbd ho h2;have ih:=RQ sl (rs.dropWhile fun r=>decide (r.num<s.1)) (fun x hx=>hs x qz) (fun f hf=>hr f ((QnQ _).mem hf));have h4:∀l:List R,(∀f∈l,JW P g f=0)→ZE l≤40*l.length+Z8 l:=by
   intro l
   induction l with
   |nil=>intro _;exact Qlx _
   |cons f l ih=>
    exact yr
  have h5:=h4 (rs.takeWhile fun r=>decide (r.num<s.1)) (fun f hf=>hr f ((QnR _).mem hf));have h6:(rs.takeWhile fun r=>decide (r.num<s.1)).length+(rs.dropWhile fun r=>decide (r.num<s.1)).length=rs.length:=by
   rw[←Ql2,List.takeWhile_append_dropWhile]
  obtain⟨sn,sx⟩:=s;rw[Xs,D3,D3];unfold Jm;rw[h1];simp only[Xd,Jx];have h7:=ED (fun r=>decide (r.num<sn)) rs;dsimp only at h3 h5 h6 ih ⊢;omega
end

theorem EG {P:PL}(hU:JX P)(hr:Zo P):∀(n:Nat) (t:Int) (v:V),(0≤t∧t<(P.progs.length:Int))→XF P n (Qg P t) v=0→(Xh P n t v).length+40≤40*v.cnt+v.sz
 |0,t,v,_,h=>(Uc 0 _ _ h).elim
 |n+1,t,v,ht,h=>by
  have hg:Qg P t∈P.progs:=by
   exact yb
  have hf:=KZ hU hr (n+1) (Qg P t) hg v h;have hc:=Kr hr (n+1) (Qg P t) (Z7 hr t) v;have hz:=EF hr (n+1) (Qg P t) (Z7 hr t) v;rw[Xh];generalize Q5 P (n+1) (Qg P t) v=w at hf hc hz;obtain⟨_,⟨s1,_,_⟩,_,s4⟩:=JY.1 hf;have h1:=Yv (Xs (Xh P n) (Qg P t) w.slots w.raws);have h2:=Q4 w;have h4:=KI w;have h3:=RQ (m:=XF P n) (bd:=Xh P n) (fun t v ht hm=>EG hU hr n t v ht hm) w.slots w.raws (fun x hx=>by
   obtain⟨o,ho,hx⟩:=s1 x hx;exact⟨o,ho,hU _ hg o (Jb ho).1,hx⟩) s4
  omega

end Go.Proofs.YtmlohboeoeoamaaGreatDoor.Va

namespace Go.Proofs.YtmlohboeoeoamaaGreatDoor.Va
open Go Am Rc Bt Br Up

section
variable {M:Nat}

def SzI (v:V)(c len:Nat)(a:Nat→Nat)(k:Nat)(st:St):Prop :=
 ∃f fr i,st=⟨f,[fr],[]⟩∧k=len-i∧i≤len∧f 1=.ptr 0 1 0∧f 3=.int .i64 (IntKind.i64.wrap ((a i:Nat):Int))∧f c=.int .i64 (i:Nat)∧fr 1=.cells (vc v)

theorem w17 (hM:M≤9223372036854775807)(v:V)(hv:v.ok M):Qh Tryz.prog 17 [v.av] (.int .i64 (IntKind.i64.wrap (v.sz:Int))):=by
 revert hv
 refine V.ind (P:=fun v=>v.ok M→Qh Tryz.prog 17 [v.av] (.int .i64 (IntKind.i64.wrap (v.sz:Int)))) ?_ v;clear v;intro v hl hp hs hv;have n1:=hv.nl;have n2:=hv.np;have n3:=hv.ns;have n4:=hv.nr;have nt:=hv.text;have wt:IntKind.i64.wrap (v.text.length:Int)=(v.text.length:Int):=xE
 rw[Qd];refine wF Tryz.func17 ?_;simp only[eK,Tryz.f17,seval];simp only[eE,seval];refine Qi (SzI v 4 v.list.length fun i=>v.text.length+Wn (v.list.take i)) _ ⟨_,_,0,rfl,rfl,Qlx _,xx,(by simp only[Qmy,Wn,QlV,wt,Qa,seval]),xx,xx⟩ ?_;rintro _ st ⟨f,fr,i,rfl,rfl,hil,h1,h3,h4,m1⟩;dsimp only at h3;have m1':=m1;simp only[vc]at m1;simp only[Qmj,h1,h4,m1,eE,seval];by_cases hlt:i<v.list.length
 ·obtain⟨x,hi⟩:∃x,v.list[i]? = some x:=⟨v.list[i],Qln hlt⟩;have hg:=Hk hi;have e1:=Qr i _ hlt xC;have c1:=hl x (QlC hi) (hv.list x (QlC hi));rw[Qd]at c1;simp only[QB hlt,Qp,QmS,Qf,hg,h1,h3,h4,m1,eE,seval];refine aC c1 ?_;simp only[h4,e1,Uy,Qa,seval];exact⟨v.list.length-(i+1),xw,_,_,i+1,rfl,rfl,xw,xL,(by dsimp only;rw[Lk hi];simp only[h3,←QnB,Qlj,Qa,seval]),xx,kB⟩
 have e:i=v.list.length:=xw
 subst e;rw[Qm5]at h3;simp only[QI hlt,Qa,seval];refine Qi (SzI v 5 v.pairs.length fun i=>v.text.length+Wn v.list+J9 (v.pairs.take i)) _ ⟨_,_,0,rfl,rfl,Qlx _,xL,(by simp only[Qmy,J9,QlV,h3,Qa,seval]),xx,kB⟩ ?_;clear h1 h3 h4 m1 m1' hlt hil;rintro _ st ⟨f,fr,i,rfl,rfl,hil,h1,h3,h5,m1⟩;dsimp only at h3;have m1':=m1;simp only[vc]at m1;simp only[Qmj,h1,h5,m1,eE,seval];by_cases hlt:i<v.pairs.length
 ·obtain⟨x,hi⟩:∃x,v.pairs[i]? = some x:=⟨v.pairs[i],Qln hlt⟩;have hg:=Ky hi;have e1:=Qr i _ hlt xC;have hm:=QlC hi;have c1:=(hp x hm).1 (hv.keys x hm);have c2:=(hp x hm).2 (hv.vals x hm);rw[Qd]at c1 c2;simp only[QB hlt,Qp,QmS,Qf,hg,QlX,Qmy,Ql6,h1,h3,h5,m1,eE,seval];refine aC c1 ?_;simp only[Qp,QmS,Qf,hg,QlX,Ql0,Ql6,h1,h5,m1,eE,seval];refine aC c2 ?_;simp only[h5,e1,Uy,Qa,seval];exact⟨v.pairs.length-(i+1),xw,_,_,i+1,rfl,rfl,xw,xL,(by dsimp only;rw[Ll hi];simp only[h3,←QnB,Qlj,Qa,seval]),xx,kB⟩
 have e:i=v.pairs.length:=xw
 subst e;rw[Qm5]at h3;simp only[QI hlt,Qa,seval];refine Qi (SzI v 6 v.slots.length fun i=>v.text.length+Wn v.list+J9 v.pairs+Jx (v.slots.take i)) _ ⟨_,_,0,rfl,rfl,Qlx _,xL,(by simp only[Qmy,Jx,QlV,h3,Qa,seval]),xx,kB⟩ ?_;clear h1 h3 h5 m1 m1' hlt hil;rintro _ st ⟨f,fr,i,rfl,rfl,hil,h1,h3,h6,m1⟩;dsimp only at h3;have m1':=m1;simp only[vc]at m1;simp only[Qmj,h1,h6,m1,eE,seval];by_cases hlt:i<v.slots.length
 ·obtain⟨x,hi⟩:∃x,v.slots[i]? = some x:=⟨v.slots[i],Qln hlt⟩;have hg:=Wy hi;have e1:=Qr i _ hlt xC;have hm:=QlC hi;have c1:=hs x hm (hv.slots x hm);rw[Qd]at c1;simp only[QB hlt,Qp,QmS,Qf,hg,QlX,Ql0,Ql6,h1,h3,h6,m1,eE,seval];refine aC c1 ?_;simp only[h6,e1,Uy,Qa,seval];exact⟨v.slots.length-(i+1),xw,_,_,i+1,rfl,rfl,xw,xL,(by dsimp only;rw[Lm hi];simp only[h3,←QnB,Qlj,Qa,seval]),xx,kB⟩
 have e:i=v.slots.length:=xw
 subst e;rw[Qm5]at h3;simp only[QI hlt,Qa,seval];refine Qi (SzI v 7 v.raws.length fun i=>v.text.length+Wn v.list+J9 v.pairs+Jx v.slots+Z8 (v.raws.take i)) _ ⟨_,_,0,rfl,rfl,Qlx _,xL,(by simp only[Qmy,Z8,QlV,h3,Qa,seval]),xx,kB⟩ ?_;clear h1 h3 h6 m1 m1' hlt hil;rintro _ st ⟨f,fr,i,rfl,rfl,hil,h1,h3,h7,m1⟩;dsimp only at h3;have m1':=m1;simp only[vc]at m1;simp only[Qmj,h1,h7,m1,eE,seval];by_cases hlt:i<v.raws.length
 ·obtain⟨x,hi⟩:∃x,v.raws[i]? = some x:=⟨v.raws[i],Qln hlt⟩;have hg:=Hm hi;have e1:=Qr i _ hlt xC;simp only[QB hlt,Qp,QmS,Qf,hg,h1,h3,h7,m1,e1,Qb2,eE,seval];exact⟨v.raws.length-(i+1),xw,_,_,i+1,rfl,rfl,xw,xL,(by dsimp only;rw[Lj hi];simp only[h3,←QnB,Qlj,Qa,seval]),xx,kB⟩
 have e:i=v.raws.length:=xw
 subst e;rw[Qm5]at h3;simp only[QI hlt,h3,KI,Qa,seval]

end
end Go.Proofs.YtmlohboeoeoamaaGreatDoor.Va

namespace Go.Proofs.YtmlohboeoeoamaaGreatDoor.Va
open Go Am Rc Bt Vp Cp

def inR (n:Int):Prop:=-9223372036854775808≤n∧n<9223372036854775808

def ZF (c:C):Int×C×Nat:=match c.rest with
 | []=>(0,c,4)
 |b :: _=>((b.toNat:Int),c.ahead 1,0)
def Tp (r:Int×C×Nat):AV:=.tup [.int .u8 r.1,r.2.1.av,.int .i64 (r.2.2:Nat)]

def text (c:C)(n:Int):List UInt8×C×Nat :=
 if n<0 then([],c,1)else if c.left<n then([],c,4)else if c.tx<n then([],c,3)else(c.rest.take n.toNat,c.ahead n,0)
def Tq (r:List UInt8×C×Nat):AV:=.tup [.str r.1,r.2.1.av,.int .i64 (r.2.2:Nat)]

def enter (c:C)(n:Int):C×Nat :=
 if n<0 then(c,1)else if c.left<n then(c,4)else if c.dp<1 then(c,17)else({ c with e:=IntKind.i64.wrap (c.a+n),dp:=IntKind.i64.wrap (c.dp-1) },0)

def Yb (c i:C):C :=
 if ¬c.sound=true∨i.e<c.a∨c.e<i.e∨i.nd<0∨c.nd<i.nd then c else { c with a:=i.e,nd:=i.nd }

theorem VR {c:C}{b:UInt8}{t:List UInt8}(h:c.rest=b :: t):c.sound=true∧0≤c.a∧c.d[c.a.toNat]? = some b∧1≤c.left:=by
 have hs:c.sound=true:=by
  cases hs:c.sound with
  |true=>rfl
  |false=>rw[C.rest_no hs]at h;cases h
 have hh:=(C.sound_iff c).1 hs;rw[C.rest_of hs]at h;have h0:=congrArg (fun l=>l[0]?) h;simp only[Ql3,Ql4,Qmr,QlV]at h0;have hl:=congrArg List.length h;simp only[Qml,Ql5,QlD]at hl;refine⟨hs,hh.1,?_,?_⟩
 ·split at h0
  ·exact h0
  ·cases h0
 ·have:=c.rest_len;rw[Qlv hs]at this;omega

theorem Qjd (c:C)(hl:c.d.length≤9223372036854775807):Qh Tryz.prog 332 [c.av] (Tp (ZF c)):=by
 refine wF Tryz.func332 ?_;simp only[eK,Tryz.f332,seval];simp only[C.av,eE,seval];refine aC (Dq c hl) ?_;unfold ZF;cases hr:c.rest with
 |nil=>
  have h0:c.left=0:=by unfold C.left;rw[hr]<;>rfl
  have d0:decide (c.left<1)=true:=by rw[h0]<;>rfl
  simp only[d0,Tp,C.av,eE,seval]
  try rfl
 |cons b t=>
  obtain⟨h1,h2,h3,h4⟩:=VR hr;have d0:decide (c.left<1)=false:=xD
  have n1:(0≤c.a)=True:=eq_true h2;simp only[d0,n1,h3,eE,seval];refine aC (Tn c 1) ?_;simp only[Tp,C.av,C.ahead,eE,seval]
  try rfl

theorem Qje (c:C)(n:Nat)(hs:c.sound=true)(hn:(n:Int)≤c.left)(hl:c.d.length≤9223372036854775807):Qh Tryz.prog 376 [c.av,.int .i64 (n:Int)] (.list (Qw (c.rest.take n))):=by
 have h:=(C.sound_iff c).1 hs;have hr:=c.rest_len;rw[Qlv hs]at hr;have e1:IntKind.i64.wrap (c.a+n)=c.a+n:=xE
 have n1:(0≤c.a)=True:=eq_true h.1;have n2:(0≤c.a+(n:Int))=True:=eq_true xw;have n3:(c.a.toNat≤(c.a+(n:Int)).toNat∧(c.a+(n:Int)).toNat≤c.d.length)=True:=eq_true xw;have n0:(0≤(n:Int))=True:=xA
 have ht:(c.d.drop c.a.toNat).take ((c.a+(n:Int)).toNat-c.a.toNat)=c.rest.take n:=by
  rw[C.rest_of hs,QmF];congr 1
  omega
 have hlen:(c.rest.take n).length=n:=by
  have:(c.rest.length:Int)=c.left:=rfl;rw[Qml];omega
 refine wF Tryz.func376 ?_;simp only[eK,Tryz.f376,seval];simp only[e1,n1,n2,n3,ht,C.av,eE,seval];refine Is rfl (by rw[hlen];omega) rfl ?_;have hb:(Qw (c.rest.take n)).length=n:=by rw[Qw,Qmj,hlen]
 have n4:(0+0+(n-0)≤(Qw (c.rest.take n)).length)=True:=eq_true (by rw[hb];omega);have n5:(n≤n)=True:=eq_true (Qlk n);have n6:(0≤n)=True:=eq_true (Qlx n);have h5:((Qw (c.rest.take n)).drop (0+0)).take (n-0)=Qw (c.rest.take n):=by
  simp only[QlV,Ql6,Qmn];exact QlY (by rw[hb];exact Qlk _)
 simp only[n0,n4,n5,n6,hlen,QmS,Qnm,Qnu,bne_self_eq_false,eE,seval];rw[QlY (by rw[hb];omega)]

theorem Qjf (c:C)(n:Int)(ha:inR c.a)(hl:c.d.length≤9223372036854775807):Qh Tryz.prog 362 [c.av,.int .i64 n] (Tq (text c n)):=by
 refine wF Tryz.func362 ?_;simp only[eK,Tryz.f362,seval];simp only[C.av,eE,seval];by_cases h1:n<0
 ·have d1:decide (n<0)=true:=jC
  simp only[d1,eE,seval];rw[text,Qlv h1];rfl
 ·have d1:decide (n<0)=false:=jC
  simp only[d1,eE,seval];refine aC (Dq c hl) ?_;by_cases h2:c.left<n
  ·have d2:decide (c.left<n)=true:=jA
   simp only[d2,eE,seval];rw[text,Qlu h1,Qlv h2];rfl
  ·have d2:decide (c.left<n)=false:=jA
   by_cases h3:c.tx<n
   ·have d3:decide (c.tx<n)=true:=by simpa using h3
    simp only[d2,d3,eE,seval];rw[text,Qlu h1,Qlu h2,Qlv h3];rfl
   ·have d3:decide (c.tx<n)=false:=by simpa using h3
    by_cases h4:n=0
    ·subst h4;simp only[d2,d3,Qmz,eE,seval];rw[text,Qlu h1,Qlu h2,Qlu h3];have e:IntKind.i64.wrap (c.a+0)=c.a:=by rw[QA];unfold inR at ha;omega
     simp only[Tq,C.ahead,C.av,e,Int.toNat_zero,Qmy];rfl
    ·have d4:(n==0)=false:=by simpa using h4
     simp only[d2,d3,d4,eE,seval];obtain⟨k,rfl⟩:=Qnb (show 0≤n by omega);have hs:c.sound=true:=by
      have hr:=c.rest_len;split at hr
      ·assumption
      ·omega
     refine aC (Qje c k hs xw hl) ?_;have hb:=Kh (c.rest.take k);have hb:bytesOf (Qw (c.rest.take k))=some (c.rest.take k):=hb;simp only[Q1,hb,eE,seval];refine aC (Tn c (k:Int)) ?_;rw[text,Qlu h1,Qlu h2,Qlu h3];simp only[Tq,C.av,C.ahead,QmS,eE,seval]
     try rfl

theorem Qjg (c:C)(n:Int)(hl:c.d.length≤9223372036854775807):Qh Tryz.prog 360 [c.av,.int .i64 n] (Hw (enter c n)):=by
 refine wF Tryz.func360 ?_;simp only[eK,Tryz.f360,seval];simp only[C.av,eE,seval];by_cases h1:n<0
 ·have d1:decide (n<0)=true:=jC
  simp only[d1,eE,seval];rw[enter,Qlv h1];rfl
 ·have d1:decide (n<0)=false:=jC
  simp only[d1,eE,seval];refine aC (Dq c hl) ?_;simp only[Qa,seval]
  repeat' (first|(refine QV (fun h=>?_) (fun h=>?_)<;>simp only[h,eE,seval])|(refine XH (fun h=>?_) (fun h=>?_)<;>simp only[h,Ql,eE,seval])|(refine XJ (fun h=>?_) (fun h=>?_)<;>simp only[h,Ql,eE,seval]))
  all_goals((try simp only[Qlr,Qns]at *)<;>unfold enter<;>(repeat' split)<;>first|rfl|(exfalso;omega))

theorem Qjh (c i:C):Qh Tryz.prog 361 [c.av,i.av] (Yb c i).av:=by
 refine wF Tryz.func361 ?_;simp only[eK,Tryz.f361,seval];simp only[C.av,eE,seval];refine aC (Le c) ?_;unfold Yb;cases hs:c.sound with
 |false=>simp only[QlH,not_false_eq_true,true_or,eE,seval]
 |true=>
  simp only[eE,seval]
  repeat' (first|(refine QV (fun h=>?_) (fun h=>?_)<;>simp only[h,eE,seval])|(refine XH (fun h=>?_) (fun h=>?_)<;>simp only[h,Ql,eE,seval])|(refine XJ (fun h=>?_) (fun h=>?_)<;>simp only[h,Ql,eE,seval]))
  all_goals((try simp only[Qlr,Qns]at *)<;>(first|rw[Qlu xD]|rw[Qlv xD]))

open Br Up So

abbrev Rd (α:Type):=Except Nat (α×C)

def spd (c:C)(n:Int):Except Nat C:=if (c.spend n).2=0 then .ok (c.spend n).1 else .error (c.spend n).2
def ZU (c:C):Rd Nat :=
 if c.varint.2.2=0 then(if c.varint.2.1.left<(c.varint.1:Int)then .error 4 else .ok (c.varint.1,c.varint.2.1))else .error c.varint.2.2
def Ka (w:Int)(c:C):Rd R :=
 if w=3 then match ZU c with
  |.error e=>.error e
  |.ok (n,d)=>if (text d n).2.2=0 then .ok (⟨0,w,0,(text d n).1⟩,(text d n).2.1)else .error (text d n).2.2
 else if w=2 then(if c.fixed.2.2=0 then .ok (⟨0,w,c.fixed.1,[]⟩,c.fixed.2.1)else .error c.fixed.2.2)
 else if c.varint.2.2=0 then .ok (⟨0,w,c.varint.1,[]⟩,c.varint.2.1)else .error c.varint.2.2

def Jy (w:Int)(b:Nat):Nat:=if w=1 then(IntKind.u64.wrap (zag b)).toNat else b
def QN (k:Int)(b:Nat)(t:List UInt8):V:=.mk k b t [] [] [] []
def Zi (P:PL)(k t:Int)(f:R):V×Nat :=
 if isk k=true then
  if f.wire=wk k then
   if f.wire=3 then(if k=7∧GE f.data=false then(QN 0 0 [],7)else(QN k 0 f.data,0))
   else if W2 k (Jy f.wire f.bits)=true then
    (if k=9∧YI P.enums t (Jy f.wire f.bits)=false then(QN 0 0 [],16)else(QN k (Xx k (Jy f.wire f.bits)) [],0))
   else(QN 0 0 [],6)
  else(QN 0 0 [],13)
 else(QN 0 0 [],12)

def XG (l:List V):V:=.mk 11 0 [] l [] [] []
def Yc (p:List (V×V)):V:=.mk 12 0 [] [] p [] []
def XY (v:V)(n:Int):Option V:=(v.slots.find? fun s=>s.1==n).map Prod.snd
def Q2 (v:V)(n:Int):V:=(XY v n).getD (QN 0 0 [])
def ZV (g:PG)(o:PO)(s:Int×V):Bool:=s.1==o.num||(match Q7 g s.1 with
 |some q=>decide (o.union≥0)&&q.union==o.union
 |none=>false)
def Zl (g:PG)(v:V)(o:PO)(x:V):V:=.mk 10 0 [] [] [] (v.slots.filter (fun s=>!ZV g o s)++[(o.num,x)]) v.raws
def HE (v:V)(f:R):V:=.mk v.kd v.bits v.text v.list v.pairs v.slots (v.raws++[f])

def Kz (P:PL)(g:PG)(v:V)(o:PO)(c:C):Rd V :=
 match spd c 1 with
 |.error e=>.error e
 |.ok c1=>match Ka (wk o.kind) c1 with
  |.error e=>.error e
  |.ok (f,d)=>
   if (Zi P o.kind o.target f).2=16 then .ok (HE v ⟨o.num,0,f.bits,[]⟩,d)
   else if (Zi P o.kind o.target f).2=0 then
    if o.card=4 then
     if (XY v o.num).isSome=true then .ok (Zl g v o (XG ((Q2 v o.num).list++[(Zi P o.kind o.target f).1])),d)
     else match spd d 1 with
      |.error e=>.error e
      |.ok d1=>.ok (Zl g v o (XG ((Q2 v o.num).list++[(Zi P o.kind o.target f).1])),d1)
    else .ok (Zl g v o (Zi P o.kind o.target f).1,d)
   else .error (Zi P o.kind o.target f).2

section
variable (rec:Int→V→C→Rd V)
def WK (t:Int)(b:V)(k:Int)(c:C):Rd V :=
 match ZU c with
 |.error e=>.error e
 |.ok (n,d)=>
  if (enter d n).2=0 then
   match spd (enter d n).1 k with
   |.error e=>.error e
   |.ok i=>match rec t b i with
    |.error e=>.error e
    |.ok (x,j)=>.ok (x,Yb d j)
  else .error (enter d n).2
def KJ (g:PG)(v:V)(o:PO)(c:C):Rd V :=
 if o.card=4 then
  match WK rec o.target (QN 10 0 []) (if (XY v o.num).isSome=true then 1 else 2) c with
  |.error e=>.error e
  |.ok (x,d)=>.ok (Zl g v o (XG ((Q2 v o.num).list++[x])),d)
 else
  match WK rec o.target (if (XY v o.num).isSome=true then Q2 v o.num else QN 10 0 []) 1 c with
  |.error e=>.error e
  |.ok (x,d)=>.ok (Zl g v o x,d)
end

def part (c:C)(n:Nat):C:={ c with e:=IntKind.i64.wrap (c.a+n) }
def Jg (c i:C):C:={ c with a:=i.e,nd:=i.nd }
def Ki (P:PL)(g:PG)(o:PO):Nat→V→C→Rd V
 |0,v,c=>.ok (v,c)
 |k+1,v,c=>if 0<c.left then(match Kz P g v o c with
   |.error e=>.error e
   |.ok (w,d)=>Ki P g o k w d)else .ok (v,c)
def Jz (P:PL)(g:PG)(v:V)(o:PO)(d:C)(i:C):Rd V :=
 match Ki P g o i.left.toNat v i with
 |.error e=>.error e
 |.ok (w,j)=>.ok (w,Jg d j)
def Wq (P:PL)(g:PG)(v:V)(o:PO)(c:C):Rd V :=
 match ZU c with
 |.error e=>.error e
 |.ok (n,d)=>
  if (ZF (part d n)).2.2=0 then
   if (ZF (part d n)).1=wk o.kind then
    if (XY v o.num).isSome=true then Jz P g v o d (ZF (part d n)).2.1
    else match spd (ZF (part d n)).2.1 1 with
     |.error e=>.error e
     |.ok i=>Jz P g (Zl g v o (XG [])) o d i
   else .error 13
  else .error (ZF (part d n)).2.2

def Z2 (k:Int)(l:List (V×V))(x:V×V):List (V×V):=Q0 k ((l.filter fun q=>!XE q.1 x.1)++[x])

section
variable (P:PL)(rec:Int→V→C→Rd V)
def KL (k t w:Int)(c:C):Rd V :=
 if w=wk k then
  if k=10 then WK rec t (QN 10 0 []) 0 c
  else match Ka w c with
   |.error e=>.error e
   |.ok (f,d)=>if (Zi P k t f).2=0 then .ok ((Zi P k t f).1,d)else .error (Zi P k t f).2
 else .error 13
def K0 (o:PO):Nat→V×V→Bool→Bool→C→Rd (V×V)
 |0,x,_,_,c=>.ok (x,c)
 |n+1,x,a,b,c=>
  if 0<c.left then
   if (Qq c).2.2.2=0 then
    if (Qq c).1=1 then
     if a=true then .error 9
     else match KL P rec o.key (-1) (Qq c).2.1 (Qq c).2.2.1 with
      |.error e=>.error e
      |.ok (y,d)=>K0 o n (y,x.2) true b d
    else if (Qq c).1=2 then
     if b=true then .error 9
     else match KL P rec o.kind o.target (Qq c).2.1 (Qq c).2.2.1 with
      |.error e=>.error e
      |.ok (y,d)=>K0 o n (x.1,y) a true d
    else .error 18
   else .error (Qq c).2.2.2
  else .ok (x,c)
def JZ (g:PG)(v:V)(o:PO)(c:C):Rd V :=
 match ZU c with
 |.error e=>.error e
 |.ok (n,d)=>match spd (part d n) (if (XY v o.num).isSome=true then 2 else 3)with
  |.error e=>.error e
  |.ok i=>match K0 P rec o i.left.toNat (QN o.key 0 [],QN o.kind 0 []) false false i with
   |.error e=>.error e
   |.ok (x,j)=>.ok (Zl g v o (Yc (Z2 o.key (Q2 v o.num).pairs x)),Jg d j)
def Jh (g:PG)(v:V)(o:PO)(w:Int)(c:C):Rd V :=
 if o.card=5 then(if w=6 then JZ P rec g v o c else .error 13)
 else if w=5∧pk o.card o.kind=true then Wq P g v o c
 else if w=wk o.kind then(if o.kind=10 then KJ rec g v o c else Kz P g v o c)
 else .error 13
end

def ZW (P:PL)(rec:Int→V→C→Rd V)(t:Int):Nat→V→C→Rd V
 |0,v,c=>.ok (v,c)
 |k+1,v,c=>
  if 0<c.left then
   if (Qq c).2.2.2=0 then
    match Q7 (Qg P t) (Qq c).1 with
    |none=>if (Xv c).2.2=0 then ZW P rec t k (HE v (Xv c).1) (Xv c).2.1 else .error (Xv c).2.2
    |some o=>match Jh P rec (Qg P t) v o (Qq c).2.1 (Qq c).2.2.1 with
     |.error e=>.error e
     |.ok (w,d)=>ZW P rec t k w d
   else .error (Qq c).2.2.2
  else .ok (v,c)
def Ho (P:PL):Nat→Int→V→C→Rd V
 |0,_,v,c=>.ok (v,c)
 |n+1,t,v,c=>ZW P (Ho P n) t c.left.toNat v c

structure CI (c:C):Prop where
 len:c.d.length≤65536
 snd:c.sound=true
 nd:0≤c.nd∧c.nd<9223372036854775808
 dp:0≤c.dp∧c.dp<9223372036854775808
structure Af (c d:C):Prop where
 n:∃k:Nat,d={ c with a:=c.a+k,nd:=d.nd }∧(k:Int)≤c.left
 nd:0≤d.nd∧d.nd≤c.nd

theorem CI.pos {c:C}(h:CI c):0≤c.a∧c.a≤c.e∧c.e≤(c.d.length:Int):=(C.sound_iff c).1 h.snd
theorem CI.lf {c:C}(h:CI c):c.left=c.e-c.a:=by
 have:=c.rest_len
 rwa [Qlv h.snd]at this
theorem CI.big {c:C}(h:CI c):c.d.length≤9223372036854770000:=Qll h.len xy
theorem CI.big' {c:C}(h:CI c):c.d.length≤9223372036854775807:=Qll h.len xy
theorem CI.inr {c:C}(h:CI c):inR c.a:=by
 have:=h.pos;have:=h.len;unfold inR;omega
theorem CI.bd {c:C}(h:CI c):0≤c.left∧c.left≤65536:=by
 have:=h.pos;have:=h.len;rw[h.lf];omega
theorem Ci {c:C}(h1:c.d.length≤65536)(h2:0≤c.a∧c.a≤c.e∧c.e≤(c.d.length:Int))(h3:0≤c.nd∧c.nd<9223372036854775808)(h4:0≤c.dp∧c.dp<9223372036854775808):CI c:=⟨h1,(C.sound_iff c).2 h2,h3,h4⟩

theorem Af.eqs {c d:C}(h:Af c d):d.d=c.d∧d.e=c.e∧d.dp=c.dp∧d.tx=c.tx∧∃k:Nat,d.a=c.a+k∧(k:Int)≤c.left:=by
 obtain⟨⟨k,e,hk⟩,_⟩:=h;refine⟨by rw[e],by rw[e],by rw[e],by rw[e],k,by rw[e],hk⟩
theorem Af.ci {c d:C}(h:Af c d)(hc:CI c):CI d:=by
 obtain⟨e1,e2,e3,_,k,e5,hk⟩:=h.eqs;have:=hc.pos;have:=hc.lf;have:=hc.nd;have:=h.nd;exact Ci (by rw[e1];exact hc.len) (by rw[e1,e2,e5];omega) xw (by rw[e3];exact hc.dp)
theorem Af.left {c d:C}(h:Af c d)(hc:CI c):d.left=c.left-(d.a-c.a)∧c.a≤d.a∧d.left≤c.left:=by
 obtain⟨e1,e2,e3,_,k,e5,hk⟩:=h.eqs;rw[(h.ci hc).lf,hc.lf];omega
theorem YC {c d:C}(hc:CI c)(h1:d.d=c.d)(h2:d.e=c.e)(h3:d.dp=c.dp)(h4:d.tx=c.tx)(h5:c.a≤d.a∧d.a≤c.e)(h6:0≤d.nd∧d.nd≤c.nd):Af c d:=by
 refine⟨⟨(d.a-c.a).toNat,?_,by rw[hc.lf];omega⟩,h6⟩;obtain⟨_,_,_,_,_,_⟩:=d;simp only at h1 h2 h3 h4 h5;subst h1 h2 h3 h4;exact zA
theorem Af.refl {c:C}(hc:CI c):Af c c:=by
 have:=hc.pos;have:=hc.nd;exact YC hc rfl rfl rfl rfl xw xw
theorem Af.trans {c d i:C}(h:Af c d)(g:Af d i)(hc:CI c):Af c i:=by
 obtain⟨e1,e2,e3,e4,k,e5,hk⟩:=h.eqs;obtain⟨f1,f2,f3,f4,l,f5,hl⟩:=g.eqs;have:=(h.ci hc).lf;have:=h.nd;have:=g.nd;have:=hc.pos;exact YC hc (by rw[f1,e1]) (by rw[f2,e2]) (by rw[f3,e3]) (by rw[f4,e4]) xw xw
def As (c d:C):Prop:=Af c d∧c.a<d.a
theorem As.ci {c d:C}(h:As c d)(hc:CI c):CI d:=h.1.ci hc
theorem As.lt {c d:C}(h:As c d)(hc:CI c):d.left+1≤c.left:=by
 have:=(h.1.left hc).1;have:=h.2;omega
theorem As.trans {c d i:C}(h:As c d)(g:Af d i)(hc:CI c):As c i:=⟨h.1.trans g hc,by have:=(g.left (h.ci hc)).2.1;have:=h.2;omega⟩
theorem Af.strict {c d i:C}(h:Af c d)(g:As d i)(hc:CI c):As c i:=⟨h.trans g.1 hc,by have:=(h.left hc).2.1;have:=g.2;omega⟩

theorem K1 {c:C}(hc:CI c)(h:c.varint.2.2=0):As c c.varint.2.1∧c.varint.1<18446744073709551616:=by
 obtain⟨n,h1,h2,h3,h4,h5,h6,h7⟩:=Z6 hc.big' h;have:=hc.lf;have:=hc.nd;refine⟨⟨YC hc (by rw[h4]) (by rw[h4]) (by rw[h4]) (by rw[h4]) wy wy,wy⟩,h7⟩
theorem Zm {c d:C}{n:Int}(hc:CI c)(hn:0≤n)(h:spd c n=.ok d):Af c d∧d.a=c.a:=by
 unfold spd at h;split at h
 ·rename_i h0;cases h;unfold C.spend at h0 ⊢;rw[Qlu xw]at h0 ⊢;split at h0
  ·cases h0
  ·rename_i h1;have:=hc.nd;have:=hc.pos;have w:IntKind.i64.wrap (c.nd-n)=c.nd-n:=xE
   rw[Qlu h1,w];exact⟨YC hc rfl rfl rfl rfl jT jT,rfl⟩
 ·cases h
theorem Kn {c d:C}{n:Nat}(hc:CI c)(h:ZU c=.ok (n,d)):As c d∧(n:Int)≤d.left:=by
 unfold ZU at h;split at h
 ·rename_i h0;split at h
  ·cases h
  ·rename_i h1;cases h;exact⟨(K1 hc h0).1,xw⟩
 ·cases h
theorem Qcq {d:C}{n:Nat}(hc:CI d)(hn:(n:Int)≤d.left)(h:(text d n).2.2=0):Af d (text d n).2.1∧(text d n).1.length≤65536:=by
 unfold text at h ⊢;rw[Qlu xw,Qlu xw]at h ⊢;split at h
 ·cases h
 ·rename_i h1;have:=hc.pos;have:=hc.lf;have:=hc.len;have:=hc.nd;have w:IntKind.i64.wrap (d.a+(n:Int))=d.a+n:=xE
  rw[Qlu h1];refine⟨YC hc rfl rfl rfl rfl ?_ ?_,?_⟩
  ·simp only[C.ahead,w];omega
  ·simp only[C.ahead];omega
  ·simp only[QmS];rw[Qml];omega
theorem Dt {w:Int}{c d:C}{f:R}(hc:CI c)(h:Ka w c=.ok (f,d)):As c d∧f.wire=w∧f.bits<18446744073709551616∧f.data.length≤65536:=by
 unfold Ka at h;split at h
 ·split at h
  ·cases h
  ·rename_i n i hl;split at h
   ·rename_i ht;cases h;obtain⟨a1,a2⟩:=Kn hc hl;obtain⟨b1,b2⟩:=Qcq (a1.ci hc) a2 ht;exact⟨a1.trans b1 hc,rfl,jT,b2⟩
   ·cases h
 ·split at h
  ·split at h
   ·rename_i hf;cases h;obtain⟨h1,h2,h3,h4⟩:=Gm hc.big' hf;have:=hc.lf;have:=hc.nd;exact⟨⟨YC hc (by rw[h3]) (by rw[h3]) (by rw[h3]) (by rw[h3]) wz wz,wz⟩,rfl,h4,Qlx _⟩
   ·cases h
  ·split at h
   ·rename_i hv;cases h;obtain⟨a1,a2⟩:=K1 hc hv;exact⟨a1,rfl,a2,Qlx _⟩
   ·cases h
theorem HF {c:C}(hc:CI c)(h:(Qq c).2.2.2=0):As c (Qq c).2.2.1∧1≤(Qq c).1∧(Qq c).1≤65535∧0≤(Qq c).2.1∧(Qq c).2.1≤6:=by
 unfold Qq at h ⊢;dsimp only at h ⊢;split at h
 ·rename_i hv;rw[Qlv hv];split at h
  ·cases h
  ·rename_i h7;rw[Qlu h7];split at h
   ·cases h
   ·rename_i h8;rw[Qlu h8];dsimp only;exact⟨(K1 hc hv).1,xw,xw,xw,xw⟩
 ·rename_i hv;exact absurd h hv
theorem Gq {d:C}{n:Nat}(hc:CI d)(hn:(n:Int)≤d.left)(h:(enter d n).2=0):(enter d n).1={ d with e:=d.a+n,dp:=d.dp-1 }∧CI (enter d n).1∧(enter d n).1.left=n:=by
 unfold enter at h ⊢;rw[Qlu xw,Qlu xw]at h ⊢;split at h
 ·cases h
 ·rename_i h1;have:=hc.pos;have:=hc.lf;have:=hc.len;have:=hc.dp;have w1:IntKind.i64.wrap (d.a+(n:Int))=d.a+n:=xE
  have w2:IntKind.i64.wrap (d.dp-1)=d.dp-1:=xE
  rw[Qlu h1,w1,w2];have hi:CI ({ d with e:=d.a+n,dp:=d.dp-1 }:C):=Ci hc.len jT hc.nd jT;exact⟨rfl,hi,by rw[hi.lf];dsimp only;omega⟩
theorem F5 {d i j:C}{n:Nat}(hc:CI d)(hn:(n:Int)≤d.left)(hi:i.e=d.a+n∧i.nd≤d.nd)(hj:Af i j):Af d (Yb d j)∧(Yb d j).left=d.left-n:=by
 obtain⟨f1,f2,f3,f4,l,f5,hl⟩:=hj.eqs;have:=hc.pos;have:=hc.lf;have:=hj.nd;unfold Yb;rw[Qlu (by rw[hc.snd];simp;omega)];have h:Af d ({ d with a:=j.e,nd:=j.nd }:C):=YC hc rfl rfl rfl rfl jT jT;exact⟨h,by rw[(h.ci hc).lf];dsimp only;omega⟩
theorem Jr {d:C}{n:Nat}(hc:CI d)(hn:(n:Int)≤d.left):part d n={ d with e:=d.a+n }∧CI (part d n)∧(part d n).left=n:=by
 have:=hc.pos;have:=hc.lf;have:=hc.len;have w1:IntKind.i64.wrap (d.a+(n:Int))=d.a+n:=xE
 unfold part;rw[w1];have hi:CI ({ d with e:=d.a+n }:C):=Ci hc.len jT hc.nd hc.dp;exact⟨rfl,hi,by rw[hi.lf];dsimp only;omega⟩
theorem U8 {d i:C}{n:Nat}(hc:CI d)(hn:(n:Int)≤d.left)(hj:Af (part d n) i):Af d (Jg d i)∧(Jg d i).left=d.left-n:=by
 obtain⟨e1,e2,e3⟩:=Jr hc hn;obtain⟨f1,f2,f3,f4,l,f5,hl⟩:=hj.eqs;have:=hc.pos;have:=hc.lf;have hnd:=hj.nd;rw[e1]at f2 hnd;dsimp only at f2 hnd;have h:Af d (Jg d i):=YC hc rfl rfl rfl rfl (by unfold Jg;dsimp only;omega) (by unfold Jg;dsimp only;omega);exact⟨h,by rw[(h.ci hc).lf];unfold Jg;dsimp only;omega⟩
theorem D6 {c:C}(hc:CI c)(h:(ZF c).2.2=0):As c (ZF c).2.1∧0≤(ZF c).1∧(ZF c).1<256:=by
 unfold ZF at h ⊢;cases hr:c.rest with
 |nil=>rw[hr]at h;cases h
 |cons b t=>
  obtain⟨_,_,_,h1⟩:=VR hr;have:=hc.pos;have:=hc.lf;have:=hc.len;have:=hc.nd;have:=b.toNat_lt;have w:IntKind.i64.wrap (c.a+1)=c.a+1:=xE
  refine⟨⟨YC hc rfl rfl rfl rfl ?_ ?_,?_⟩,?_,?_⟩<;>simp only[C.ahead,w]<;>omega

theorem RS {c:C}{f:R}:(Zv c f).2.1.nd=c.nd:=by
 have hv:c.varint.2.1.nd=c.nd:=by unfold C.varint;dsimp only;split<;>rfl
 unfold Zv;split
 ·show c.fixed.2.1.nd=_;unfold C.fixed;split<;>rfl
 ·split
  ·exact hv
  ·show(Kk c f.wire).2.1.nd=_;unfold Kk;dsimp only;split
   ·split
    ·rfl
    ·by_cases hq:(if f.wire=3 then c.tx else 65536)<(c.varint.1:Int)
     ·rw[Qlv hq]
     ·rw[Qlu hq];exact hv
   ·rfl
theorem EH {c:C}{f:R}(hc:CI c)(h:(Zv c f).2.2=0)(h0:f.bits=0)(h1:f.data=[]):(Zv c f).1.num=f.num∧(Zv c f).1.wire=f.wire∧(Zv c f).1.bits<18446744073709551616∧(Zv c f).1.data.length≤65536:=by
 unfold Zv at h ⊢;split
 ·rename_i w;rw[Qlv w]at h;exact⟨rfl,rfl,(Gm hc.big' h).2.2.2,by dsimp only;rw[h1];exact Qlx _⟩
 ·rename_i w;rw[Qlu w]at h;split
  ·rename_i w1;rw[Qlv w1]at h;exact⟨rfl,rfl,(K1 hc h).2,by dsimp only;rw[h1];exact Qlx _⟩
  ·rename_i w1;rw[Qlu w1]at h;refine⟨rfl,rfl,by dsimp only;rw[h0];decide,?_⟩;show(Kk c f.wire).1.length≤65536;dsimp only at h;unfold Kk at h ⊢;dsimp only at h ⊢;split
   ·rename_i hv;rw[Qlv hv]at h;split
    ·exact Qlx _
    ·by_cases hq:(if f.wire=3 then c.tx else 65536)<(c.varint.1:Int)
     ·rw[Qlv hq];exact Qlx _
     ·have h3:=((K1 hc hv).1.ci hc).len;rw[Qlu hq,Qml,Ql5];omega
   ·exact Qlx _
theorem Nt {c:C}(hc:CI c)(h:(Xv c).2.2=0):As c (Xv c).2.1∧(Xv c).1.num=(Qq c).1∧1≤(Xv c).1.num∧(Xv c).1.num≤65535∧0≤(Xv c).1.wire∧(Xv c).1.wire≤6∧(Xv c).1.bits<18446744073709551616∧(Xv c).1.data.length≤65536:=by
 obtain⟨⟨k,e1,e2,e3⟩,_⟩:=F3 hc.big h;have hnd:0≤(Xv c).2.1.nd∧(Xv c).2.1.nd≤c.nd∧(Xv c).1.num=(Qq c).1∧1≤(Xv c).1.num∧(Xv c).1.num≤65535∧0≤(Xv c).1.wire∧(Xv c).1.wire≤6∧(Xv c).1.bits<18446744073709551616∧(Xv c).1.data.length≤65536:=by
  clear e1;unfold Xv at h ⊢;dsimp only at h ⊢;split at h
  ·rename_i ht;obtain⟨t1,t2,t3,t4,t5⟩:=HF hc ht;split at h
   ·rename_i hs;split at h
    ·rename_i hk;rw[Qlv ht,Qlv hs,Qlv hk];have hsp:spd (Qq c).2.2.1 1=.ok ((Qq c).2.2.1.spend 1).1:=by unfold spd;rw[Qlv hs]
     obtain⟨a1,_⟩:=Zm (t1.ci hc) xw hsp;have a2:=RS (c:=((Qq c).2.2.1.spend 1).1) (f:={ num:=(Qq c).1,wire:=(Qq c).2.1,bits:=0,data:=[] });have a3:=a1.nd;have a4:=t1.1.nd;obtain⟨b1,b2,b3,b4⟩:=EH (a1.ci (t1.ci hc)) hk rfl rfl;rw[b1,b2];exact⟨xw,xw,rfl,t2,t3,t4,t5,b3,b4⟩
    ·rename_i hk;exact absurd h hk
   ·rename_i hs;exact absurd h hs
  ·rename_i ht;exact absurd h ht
 have:=hc.lf;exact⟨⟨YC hc (by rw[e1]) (by rw[e1]) (by rw[e1]) (by rw[e1]) (by rw[e1];dsimp only;omega) ⟨hnd.1,hnd.2.1⟩,by rw[e1];dsimp only;omega⟩,hnd.2.2⟩

theorem Xj (k:Int)(b:Nat)(t:List UInt8):(QN k b t).cnt=1:=by unfold QN;rw[Q4];rfl
theorem Zc {M:Nat}{k:Int}{b:Nat}{t:List UInt8}(hk:(Lit.int .i64 k).wf=true)(hb:b<18446744073709551616)(ht:t.length≤M):(QN k b t).ok M :=
 .mk hk (by simp[QN,V.bits,Lit.wf,IntKind.min,IntKind.max,IntKind.bits,IntKind.signed];omega) ht (Qlx _) (Qlx _) (Qlx _) (Qlx _) (fun _ hx=>nomatch hx) (fun _ hx=>nomatch hx) (fun _ hx=>nomatch hx) (fun _ hx=>nomatch hx) (fun _ hx=>nomatch hx) (fun _ hx=>nomatch hx)
theorem JJ {k:Int}(h : -9223372036854775808≤k)(h':k<9223372036854775808):(Lit.int .i64 k).wf=true:=by
 simp[Lit.wf,IntKind.min,IntKind.max,IntKind.bits,IntKind.signed];omega

theorem Xz {v:V}{n:Int}{x:V}(h:XY v n=some x):(n,x)∈v.slots∧Q2 v n=x:=by
 unfold XY at h;cases hf:v.slots.find? (fun s=>s.1==n)with
 |none=>rw[hf]at h;cases h
 |some s=>
  rw[hf]at h;cases h;have h1:=Qnp hf;have h2:s.1=n:=ww
  refine⟨?_,by unfold Q2 XY;rw[hf];rfl⟩;rw[←h2];exact h1
theorem Ji {v:V}{n:Int}(h:¬(XY v n).isSome=true):Q2 v n=QN 0 0 []:=by
 unfold Q2;cases hf:XY v n with
 |none=>rfl
 |some x=>rw[hf]at h;simp at h

theorem Hp (p:Int×V→Bool):∀l:List (Int×V),Xd (l.filter p)≤Xd l
 | []=>Qlk _
 |(n,x) :: l=>by
  have:=Hp p l;rw[Qm3];split<;>simp only[Xd]<;>omega
theorem VS {p:Int×V→Bool}{s:Int×V}(hp:p s=false):∀ {l:List (Int×V)},s∈l→Xd (l.filter p)+s.2.cnt≤Xd l
 |(n,x) :: l,h=>by
  have hf:=Hp p l;rcases QmM.1 h with rfl|h
  ·rw[Qm3,hp];simp only[QlH,if_false,Xd];omega
  ·have ih:=VS hp h;rw[Qm3];split<;>simp only[Xd]<;>omega
theorem EI (g:PG)(o:PO)(x:V):ZV g o (o.num,x)=true:=by unfold ZV;simp
theorem K2 (g:PG)(v:V)(o:PO)(x:V):(Zl g v o x).cnt≤v.cnt+x.cnt:=by
 have:=Hp (fun s=>!ZV g o s) v.slots;rw[Q4 v,Q4 (Zl g v o x)];show 1+v.raws.length+0+0+Xd (v.slots.filter (fun s=>!ZV g o s)++[(o.num,x)])≤_;rw[FV];simp only[Xd];omega
theorem U9 (g:PG)(v:V)(o:PO)(x:V){y:V}(h:XY v o.num=some y):(Zl g v o x).cnt+y.cnt≤v.cnt+x.cnt:=by
 have:=VS (p:=fun s=>!ZV g o s) (s:=(o.num,y)) (by rw[EI];rfl) (Xz h).1;rw[Q4 v,Q4 (Zl g v o x)];show 1+v.raws.length+0+0+Xd (v.slots.filter (fun s=>!ZV g o s)++[(o.num,x)])+_≤_;rw[FV];simp only[Xd];dsimp only at this;omega
theorem D7 (v:V)(f:R):(HE v f).cnt=v.cnt+1:=by
 rw[Q4 v,Q4 (HE v f)];show 1+(v.raws++[f]).length+Q9 v.list+Xk v.pairs+Xd v.slots=_;rw[Ql2];exact x7
theorem WB (l:List V):(XG l).cnt=1+Q9 l:=by unfold XG;rw[Q4];show 1+0+Q9 l+0+0=_;omega
theorem Pb (l:List (V×V)):(Yc l).cnt=1+Xk l:=by unfold Yc;rw[Q4];show 1+0+0+Xk l+0=_;omega
theorem Ue (l:List V)(x:V):Q9 (l++[x])=Q9 l+x.cnt:=by
 induction l with
 |nil=>simp[Q9]
 |cons y l ih=>simp only[QlK,Q9,ih];omega
theorem Tr (l:List (V×V))(x:V×V):Xk (l++[x])=Xk l+x.1.cnt+x.2.cnt:=by
 induction l with
 |nil=>obtain⟨a,b⟩:=x;simp[Xk]
 |cons y l ih=>obtain⟨a,b⟩:=y;simp only[QlK,Xk,ih];omega
theorem FA (p:V×V→Bool):∀l:List (V×V),Xk (l.filter p)≤Xk l
 | []=>Qlk _
 |(a,b) :: l=>by
  have:=FA p l;rw[Qm3];split<;>simp only[Xk]<;>omega
theorem Lp (k:Int)(l:List (V×V))(x:V×V):Xk (Z2 k l x)≤Xk l+x.1.cnt+x.2.cnt:=by
 unfold Z2;have hp:(Q0 k ((l.filter fun q=>!XE q.1 x.1)++[x])).Perm _:=QX _;rw[VK hp,Tr];have:=FA (fun q=>!XE q.1 x.1) l;omega
theorem Pd {k:Int}{l:List (V×V)}{x p:V×V}(h:p∈Z2 k l x):(p∈l∧XE p.1 x.1=false)∨p=x:=by
 have hp:(Z2 k l x).Perm _:=QX _;have h:=hp.mem_iff.1 h;rw[QmJ,QmY]at h;rcases h with⟨h1,h2⟩|h
 ·exact .inl ⟨h1,jA⟩
 ·exact .inr xQ
theorem UI (a b:V):XE a b=XE b a:=by
 unfold XE;rw[QnK (a:=a.bits),QnK (a:=a.text)]
theorem RT {k:Int}{l:List (V×V)}{x:V×V}(h:l.Pairwise fun q p=>XE q.1 p.1=false):(Z2 k l x).Pairwise fun q p=>XE q.1 p.1=false:=by
 have hp:(Z2 k l x).Perm _:=QX _;refine(hp.pairwise_iff fun {a b} h=>by rw[UI];exact h).2 ?_;rw[Qm1];refine⟨h.filter _,QnD _ _,?_⟩;intro a ha b hb;rw[QnC]at hb;subst hb
 simpa using (QmY.1 ha).2
theorem Lq (k:Int)(l:List (V×V))(x:V×V):(Z2 k l x).length≤l.length+1:=by
 have hp:(Z2 k l x).Perm _:=QX _;rw[hp.length_eq,Ql2];have:=List.length_filter_le (fun q=>!XE q.1 x.1) l;exact x7

section
variable {M:Nat}
theorem Uk {l:List V}(h:∀x∈l,x.ok M)(hn:l.length≤1099511627776):(XG l).ok M :=
 .mk rfl rfl (Qlx _) hn (Qlx _) (Qlx _) (Qlx _) h (fun _ hx=>nomatch hx) (fun _ hx=>nomatch hx) (fun _ hx=>nomatch hx) (fun _ hx=>nomatch hx) (fun _ hx=>nomatch hx)
theorem Qcr {l:List (V×V)}(h:∀x∈l,x.1.ok M∧x.2.ok M)(hn:l.length≤549755813888):(Yc l).ok M :=
 .mk rfl rfl (Qlx _) (Qlx _) hn (Qlx _) (Qlx _) (fun _ hx=>nomatch hx) (fun x hx=>(h x hx).1) (fun x hx=>(h x hx).2) (fun _ hx=>nomatch hx) (fun _ hx=>nomatch hx) (fun _ hx=>nomatch hx)
theorem Ku {g:PG}{v x:V}{o:PO}(hv:v.ok M)(ho:(Lit.int .i64 o.num).wf=true)(hx:x.ok M)(hn:v.slots.length+1≤1099511627776):(Zl g v o x).ok M:=by
 have hl:=List.length_filter_le (fun s=>!ZV g o s) v.slots;have key:∀s∈v.slots.filter (fun s=>!ZV g o s)++[(o.num,x)],(Lit.int .i64 s.1).wf=true∧s.2.ok M:=by
  intro s hs;rcases QmJ.1 hs with hs|hs
  ·have:=(QmY.1 hs).1;exact⟨hv.nums s this,hv.slots s this⟩
  ·rw[QnC]at hs;subst hs;exact⟨ho,hx⟩
 refine .mk rfl rfl (Qlx _) (Qlx _) (Qlx _) ?_ hv.nr (fun _ hx=>nomatch hx) (fun _ hx=>nomatch hx) (fun _ hx=>nomatch hx) (fun s hs=>(key s hs).1) (fun s hs=>(key s hs).2) hv.raws;show(v.slots.filter (fun s=>!ZV g o s)++[(o.num,x)]).length≤_;rw[Ql2];exact x7
theorem Nu {v:V}{f:R}(hv:v.ok M)(hf:f.ok M)(hn:v.raws.length+1≤70368744177664):(HE v f).ok M:=by
 refine .mk hv.kd hv.bits hv.text hv.nl hv.np hv.ns ?_ hv.list hv.keys hv.vals hv.nums hv.slots ?_
 ·show(v.raws++[f]).length≤_;rw[Ql2];exact hn
 ·intro x hx;rcases QmJ.1 hx with hx|hx
  ·exact hv.raws x hx
  ·rw[QnC]at hx;subst hx;exact hf
theorem Du {v:V}{n:Int}(hv:v.ok M):(Q2 v n).ok M:=by
 unfold Q2;cases h:XY v n with
 |none=>exact Zc rfl xy (Qlx _)
 |some x=>exact hv.slots _ (Xz h).1
end

theorem Nv {P:PL}{g:PG}{v:V}{f:R}:∀ {n:Nat},MW P n g v→MW P n g (HE v f)
 |_+1,h=>h
theorem Kv {P:PL}{g:PG}{v x:V}{o:PO}{n:Nat}(h:MW P (n+1) g v)(ho:Q7 g o.num=some o)(hx:FW (MW P n) P o x):MW P (n+1) g (Zl g v o x):=by
 obtain⟨s1,s2⟩:=h;refine⟨?_,?_⟩
 ·intro s hs;rcases QmJ.1 hs with hs|hs
  ·exact s1 s (QmY.1 hs).1
  ·rw[QnC]at hs;subst hs;exact⟨o,ho,hx⟩
 ·show(v.slots.filter (fun s=>!ZV g o s)++[(o.num,x)]).Pairwise _;rw[Qm1];refine⟨s2.filter _,QnD _ _,?_⟩;intro a ha b hb;rw[QnC]at hb;subst hb;have h1:=(QmY.1 ha).2;unfold ZV at h1;simp only[Bool.not_or,QlM,Qmm]at h1;exact h1.1
theorem HG {P:PL}{g:PG}{v x:V}{o:PO}{n:Nat}(h:MW P (n+1) g v)(ho:Q7 g o.num=some o)(hx:XY v o.num=some x):FW (MW P n) P o x:=by
 obtain⟨o',h1,h2⟩:=h.1 _ (Xz hx).1;rw[show((o.num,x):Int×V).1=o.num from rfl,ho]at h1;cases h1;exact h2
theorem XZ {P:PL}{g:PG}{k:Int}{n:Nat}(hn:1≤n):MW P n g (QN k 0 []):=by
 obtain⟨m,rfl⟩:∃m,n=m+1:=⟨n-1,xw⟩;exact⟨fun _ hs=>(nomatch hs),.nil⟩

theorem Pe {P:PL}{k:Int}{b:Nat}{t:List UInt8}(h1:Zp k=true→b=0)(h2:Zp k=false→t=[]):(QN k b t).kx P k :=
 ⟨rfl,by rw[DV];rfl,fun h=>by show(b:Int)=0;rw[h1 h];rfl,h2⟩
theorem EJ {M:Nat}{P:PL}{k t:Int}{f:R}(hM:65536≤M)(hb:f.bits<18446744073709551616)(hd:f.data.length≤65536)(h:(Zi P k t f).2=0):(Zi P k t f).1.ok M∧(Zi P k t f).1.cnt=1∧k≠10∧(XT k→(Zi P k t f).1.kx P k):=by
 unfold Zi at h ⊢;split at h
 ·rename_i hk;have hkk:1≤k∧k≤9:=by
   unfold isk at hk
   simpa using hk
  have hkw:(Lit.int .i64 k).wf=true:=JJ xw xw;rw[Qlv hk];split at h
  ·rename_i hw;rw[Qlv hw];split at h
   ·rename_i h3;rw[Qlv h3];split at h
    ·cases h
    ·rename_i h7;rw[Qlu h7];refine⟨Zc hkw xy xw,Xj _ _ _,xw,fun hky=>Pe (fun _=>rfl) fun ht=>?_⟩;exfalso;rw[hw]at h3;unfold wk at h3;unfold Zp at ht;simp only[Qmh,Qne]at ht;unfold XT at hky;split at h3
     ·omega
     ·split at h3
      ·omega
      ·split at h3
       ·omega
       ·split at h3<;>omega
   ·rename_i h3;rw[Qlu h3];split at h
    ·rename_i hfit;rw[Qlv hfit];split at h
     ·cases h
     ·rename_i h9;rw[Qlu h9];have hwb:Jy f.wire f.bits<18446744073709551616:=by
       unfold Jy;split
       ·rw[ZM];omega
       ·exact hb
      have hnb:Xx k (Jy f.wire f.bits)<18446744073709551616:=by
       unfold Xx;split
       ·decide
       ·exact hwb
      refine⟨Zc hkw hnb (Qlx _),Xj _ _ _,xw,fun hky=>Pe (fun ht=>?_) fun _=>rfl⟩;exfalso;unfold XT at hky;unfold Zp at ht;simp only[Qlq,Qls]at ht;have e7:k=7:=xw
      rw[hw,e7]at h3;exact h3 xy
    ·cases h
  ·cases h
 ·cases h

def Wb (P:PL)(M K n:Nat)(rec:Int→V→C→Rd V):Prop :=
 ∀(t:Int) (v:V) (c:C),CI c→c.left<n→(0≤t∧t<(P.progs.length:Int))→MW P n (Qg P t) v→v.ok M→(v.cnt:Int)+3*c.left≤K→
  ∀w d,rec t v c=.ok (w,d)→Af c d∧MW P n (Qg P t) w∧w.ok M∧(w.cnt:Int)+3*d.left≤v.cnt+3*c.left

structure OpK (P:PL)(g:PG)(o:PO):Prop where
 self:Q7 g o.num=some o
 wf:(Lit.int .i64 o.num).wf=true
 uo:UO P o

section
variable {P:PL}{M K n:Nat}(hM:65536≤M)(hK:K≤1000000){g:PG}{o:PO}(ho:OpK P g o)

include hM hK ho in
theorem Vk {v w:V}{c d:C}(hc:CI c)(hv:MW P (n+1) g v)(hk:v.ok M)(hb:(v.cnt:Int)+3*c.left≤K)(h5:o.card≠5)(h:Kz P g v o c=.ok (w,d)) :
  As c d∧MW P (n+1) g w∧w.ok M∧(w.cnt:Int)+3*d.left≤v.cnt+3*c.left:=by
 have ls:=XP v;have lr:=JI v;have hcb:=hc.bd;unfold Kz at h;split at h
 ·cases h
 rename_i c1 h1;obtain⟨a1,_⟩:=Zm hc xw h1;have hc1:=a1.ci hc;split at h
 ·cases h
 rename_i f d1 h2;obtain⟨b1,b2,b3,b4⟩:=Dt hc1 h2;have hs:=a1.strict b1 hc;have hd1:=hs.ci hc;have hl:=hs.lt hc;split at h
 ·cases h;have hr:(⟨o.num,0,f.bits,[]⟩:R).ok M:=⟨ho.wf,rfl,jy,Qlx _⟩;exact⟨hs,Nv hv,Nu hk hr xw,by rw[D7];omega⟩
 split at h
 ·rename_i h0;obtain⟨s1,s2,s3,_⟩:=EJ (P:=P) (t:=o.target) hM b3 b4 h0;have hew:∀y,EW (MW P n) P o y:=fun y e=>absurd e s3
  generalize (Zi P o.kind o.target f).1=x at h s1 s2;split at h
  ·rename_i h4;have hfw:FW (MW P n) P o (XG ((Q2 v o.num).list++[x])):=by
    unfold FW;rw[Qlv h4];exact fun y _=>hew y
   have hol:=Du (n:=o.num) hk;have hll:=ZO (Q2 v o.num);split at h
   ·rename_i hf;cases h;obtain⟨y,hy⟩:=QlQ.1 hf;obtain⟨hm,he⟩:=Xz hy;have hyc:=ZZ hm;dsimp only at hyc;have e1:=U9 g v o (XG ((Q2 v o.num).list++[x])) hy;rw[WB,Ue,s2]at e1;have e2:Q9 (Q2 v o.num).list+1≤y.cnt:=by rw[he,Q4 y];omega
    rw[he]at hll;refine⟨hs,Kv hv ho.self hfw,Ku hk ho.wf (Uk ?_ ?_) xw,xw⟩
    ·intro z hz;rcases QmJ.1 hz with hz|hz
     ·exact hol.list z hz
     ·rw[QnC]at hz;subst hz;exact s1
    ·rw[Ql2,he];exact x7
   ·rename_i hf;split at h
    ·cases h
    rename_i d2 h6;cases h;obtain⟨c2,_⟩:=Zm hd1 xw h6;have hl2:=(c2.left hd1).2.2;rw[Ji hf];rw[Ji hf]at hfw;have e1:=K2 g v o (XG ((QN 0 0 []).list++[x]));rw[WB,Ue,s2]at e1;have e0:Q9 (QN 0 0 []).list=0:=rfl;refine⟨hs.trans c2 hc,Kv hv ho.self hfw,Ku hk ho.wf (Uk ?_ (show 1≤1099511627776 by decide)) xw,xw⟩;intro z hz;rcases QmJ.1 hz with hz|hz
    ·cases hz
    ·rw[QnC]at hz;subst hz;exact s1
  ·rename_i h4;cases h;have hfw:FW (MW P n) P o x:=by
    unfold FW;rw[Qlu h4,Qlu h5];exact hew x
   have e1:=K2 g v o x;rw[s2]at e1;exact⟨hs,Kv hv ho.self hfw,Ku hk ho.wf s1 xw,xw⟩
 ·cases h

include hM hK ho in
theorem Pf (h5:o.card≠5):∀(k:Nat) {v w:V} {c d:C},CI c→MW P (n+1) g v→v.ok M→(v.cnt:Int)+3*c.left≤K→Ki P g o k v c=.ok (w,d)→
  Af c d∧MW P (n+1) g w∧w.ok M∧(w.cnt:Int)+3*d.left≤v.cnt+3*c.left
 |0,v,w,c,d,hc,hv,hk,hb,h=>by
  exact yh
 |k+1,v,w,c,d,hc,hv,hk,hb,h=>by
  rw[Ki]at h;split at h
  ·split at h
   ·cases h
   rename_i v1 c1 h1;obtain⟨a1,a2,a3,a4⟩:=Vk hM hK ho hc hv hk hb h5 h1;obtain⟨b1,b2,b3,b4⟩:=Pf h5 k (a1.ci hc) a2 a3 xw h;exact⟨a1.1.trans b1 hc,b2,b3,xw⟩
  ·exact yh

include hM hK ho in
theorem Ha {v w:V}{c d e:C}{q:Nat}(hc:CI c)(hq:(q:Int)≤c.left)(hd:Af (part c q) d)(hv:MW P (n+1) g v)(hk:v.ok M)(hb:(v.cnt:Int)+3*d.left≤K)(h5:o.card≠5)(h:Jz P g v o c d=.ok (w,e)) :
  Af c e∧e.left=c.left-q∧MW P (n+1) g w∧w.ok M∧(w.cnt:Int)≤v.cnt+3*d.left:=by
 unfold Jz at h;split at h
 ·cases h
 rename_i v1 j h1;cases h;have hp:=Jr hc hq;obtain⟨a1,a2,a3,a4⟩:=Pf hM hK ho h5 _ (hd.ci hp.2.1) hv hk hb h1;obtain⟨b1,b2⟩:=U8 hc hq (hd.trans a1 hp.2.1);have:=((a1.ci (hd.ci hp.2.1))).bd;exact⟨b1,b2,a2,a3,xw⟩

include hM hK ho in
theorem Lr {v w:V}{c d:C}(hc:CI c)(hv:MW P (n+1) g v)(hk:v.ok M)(hb:(v.cnt:Int)+3*c.left≤K)(hp:pk o.card o.kind=true)(h:Wq P g v o c=.ok (w,d)) :
  As c d∧MW P (n+1) g w∧w.ok M∧(w.cnt:Int)+3*d.left≤v.cnt+3*c.left:=by
 have ls:=XP v;have hcb:=hc.bd;have h4:o.card=4:=by
  unfold pk at hp;simp only[QlM,Qls]at hp;exact hp.1
 have hk10:o.kind≠10:=by
  unfold pk at hp;simp only[QlM,Qlq,Qls,Qlr]at hp;omega
 unfold Wq at h;split at h
 ·cases h
 rename_i q c1 h1;obtain⟨a1,a2⟩:=Kn hc h1;have hc1:=a1.ci hc;obtain⟨_,p2,p3⟩:=Jr hc1 a2;have hl1:=a1.lt hc;have hc1b:=hc1.bd;split at h
 ·rename_i hy;obtain⟨y1,_⟩:=D6 p2 hy;have hly:=y1.lt p2;split at h
  ·split at h
   ·obtain⟨b1,b2,b3,b4,b5⟩:=Ha hM hK ho hc1 a2 y1.1 hv hk xw xw h;exact⟨a1.trans b1 hc,b3,b4,xw⟩
   ·split at h
    ·cases h
    rename_i i h2;obtain⟨s1,_⟩:=Zm (y1.ci p2) xw h2;have hls:=(s1.left (y1.ci p2)).2.2;have hfw:FW (MW P n) P o (XG []):=by
     unfold FW;rw[Qlv h4];exact fun y hy=>(nomatch hy)
    have e1:=K2 g v o (XG []);rw[WB]at e1;simp only[Q9]at e1;obtain⟨b1,b2,b3,b4,b5⟩:=Ha hM hK ho hc1 a2 (y1.1.trans s1 p2) (Kv hv ho.self hfw) (Ku hk ho.wf (Uk (fun y hy=>(nomatch hy)) (Qlx _)) xw) xw xw h;exact⟨a1.trans b1 hc,b3,b4,xw⟩
  ·cases h
 ·cases h

variable {rec:Int→V→C→Rd V}(hrec:Wb P M K n rec)

include hrec in
theorem Nw {t:Int}(ht:0≤t∧t<(P.progs.length:Int)){b w:V}{k:Int}(hk0:0≤k){c d:C}(hc:CI c)(hcn:c.left≤n)(hv:1≤n→MW P n (Qg P t) b)(hk:b.ok M)(hb:(b.cnt:Int)+3*c.left≤K)(h:WK rec t b k c=.ok (w,d)) :
  As c d∧MW P n (Qg P t) w∧w.ok M∧(w.cnt:Int)+3*d.left+3≤b.cnt+3*c.left:=by
 unfold WK at h;split at h
 ·cases h
 rename_i q c1 h1;obtain⟨a1,a2⟩:=Kn hc h1;have hc1:=a1.ci hc;have hl1:=a1.lt hc;have hc1b:=hc1.bd;split at h
 ·rename_i he;obtain⟨e1,e2,e3⟩:=Gq hc1 a2 he;split at h
  ·cases h
  rename_i i h2;obtain⟨s1,s2⟩:=Zm e2 hk0 h2;have hls:=(s1.left e2).2.2;split at h
  ·cases h
  rename_i x j h3;cases h;have hi:=s1.ci e2;have hib:=hi.bd;obtain⟨r1,r2,r3,r4⟩:=hrec t b i hi xw ht (hv xw) hk xw _ _ h3;have hje:i.e=c1.a+q∧i.nd≤c1.nd:=by
   obtain⟨_,f2,_⟩:=s1.eqs;have f3:=s1.nd;rw[e1]at f2 f3;exact⟨f2,f3.2⟩
  obtain⟨l1,l2⟩:=F5 hc1 a2 hje r1;have hjb:=(r1.ci hi).bd;exact⟨a1.trans l1 hc,r2,r3,xw⟩
 ·cases h

include hK ho hrec in
theorem Ls {v w:V}{c d:C}(hc:CI c)(hcn:c.left≤n)(hv:MW P (n+1) g v)(hk:v.ok M)(hb:(v.cnt:Int)+3*c.left≤K)(h5:o.card≠5)(h10:o.kind=10)(h:KJ rec g v o c=.ok (w,d))(hpos:(1:Int)+3*c.left≤K) :
  As c d∧MW P (n+1) g w∧w.ok M∧(w.cnt:Int)+3*d.left≤v.cnt+3*c.left:=by
 have ls:=XP v;have hcb:=hc.bd;have ht:=ho.uo.tgt h10;have hem:(QN 10 0 []:V).ok M:=Zc rfl xy (Qlx _);have hol:=Du (n:=o.num) hk;have hll:=ZO (Q2 v o.num);unfold KJ at h;split at h
 ·rename_i h4;split at h
  ·cases h
  rename_i x c1 h1;cases h;obtain⟨r1,r2,r3,r4⟩:=Nw hrec ht vj hc hcn (fun hn=>XZ hn) hem jS h1;rw[Xj]at r4;have hlc:=r1.lt hc;have hc1b:=(r1.ci hc).bd;have hfw:FW (MW P n) P o (XG ((Q2 v o.num).list++[x])):=by
   unfold FW;rw[Qlv h4];intro y hy;rcases QmJ.1 hy with hy|hy
   ·cases hf:XY v o.num with
    |none=>
     rw[Ji qj]at hy;cases hy
    |some z=>
     have h1:=HG hv ho.self hf;unfold FW at h1;rw[Qlv h4]at h1;rw[(Xz hf).2]at hy;exact h1 y hy
   ·rw[QnC]at hy;subst hy;exact fun _=>r2
  have hlok:(XG ((Q2 v o.num).list++[x])).ok M:=by
   refine Uk ?_ ?_
   ·intro z hz;rcases QmJ.1 hz with hz|hz
    ·exact hol.list z hz
    ·rw[QnC]at hz;subst hz;exact r3
   ·have:=hol.nl;rw[Ql2];have hoc:(Q2 v o.num).cnt≤v.cnt+1:=by
     cases hf:XY v o.num with
     |none=>rw[Ji qj,Xj];omega
     |some z=>
      have:=ZZ (Xz hf).1;rw[(Xz hf).2];dsimp only at this;omega
    exact x7
  refine⟨r1,Kv hv ho.self hfw,Ku hk ho.wf hlok xw,?_⟩;cases hf:XY v o.num with
  |none=>
   have e1:=K2 g v o (XG ((Q2 v o.num).list++[x]));rw[WB,Ue]at e1;have e0:Q9 (Q2 v o.num).list=0:=by rw[Ji qj];rfl
   omega
  |some z=>
   have e1:=U9 g v o (XG ((Q2 v o.num).list++[x])) hf;rw[WB,Ue]at e1;have e2:Q9 (Q2 v o.num).list+1≤z.cnt:=by rw[(Xz hf).2,Q4 z];omega
   omega
 ·rename_i h4;split at h
  ·cases h
  rename_i x c1 h1;cases h;cases hf:XY v o.num with
  |none=>
   rw[hf,Qlu xA]at h1;obtain⟨r1,r2,r3,r4⟩:=Nw hrec ht xw hc hcn (fun hn=>XZ hn) hem jS h1;rw[Xj]at r4;have hfw:FW (MW P n) P o x:=by
    unfold FW;rw[Qlu h4,Qlu h5];exact fun _=>r2
   have e1:=K2 g v o x;exact xr
  |some z=>
   rw[hf,Qlv (show(some z).isSome=true from rfl),(Xz hf).2]at h1;have hz:=ZZ (Xz hf).1;dsimp only at hz;have h2:=HG hv ho.self hf;unfold FW at h2;rw[Qlu h4,Qlu h5]at h2;obtain⟨r1,r2,r3,r4⟩:=Nw hrec ht xw hc hcn (fun _=>h2 h10) (hk.slots _ (Xz hf).1) xw h1;have hfw:FW (MW P n) P o x:=by
    unfold FW;rw[Qlu h4,Qlu h5];exact fun _=>r2
   have e1:=U9 g v o x hf;exact xr

include hM hrec in
theorem Gr {k t wr:Int}(ht:k=10→0≤t∧t<(P.progs.length:Int)){y:V}{c d:C}(hc:CI c)(hcn:c.left≤n)(hb:(1:Int)+3*c.left≤K)(h:KL P rec k t wr c=.ok (y,d)) :
  As c d∧y.ok M∧(y.cnt:Int)+3*d.left+2≤3*c.left∧(k=10→MW P n (Qg P t) y)∧(XT k→y.kx P k):=by
 unfold KL at h;split at h
 ·split at h
  ·rename_i hk;obtain⟨r1,r2,r3,r4⟩:=Nw hrec (ht hk) (QmP 0) hc hcn (fun hn=>XZ hn) (Zc rfl xy (Qlx _)) jS h;rw[Xj]at r4;exact⟨r1,r3,xw,fun _=>r2,fun hy=>by unfold XT at hy;omega⟩
  ·rename_i hk;split at h
   ·cases h
   rename_i f c1 h1;obtain⟨b1,b2,b3,b4⟩:=Dt hc h1;have hl:=b1.lt hc;split at h
   ·rename_i h0;cases h;obtain⟨s1,s2,s3,s4⟩:=EJ (P:=P) (t:=t) hM b3 b4 h0;exact⟨b1,s1,xw,fun e=>absurd e hk,s4⟩
   ·cases h
 ·cases h

structure XI (P:PL)(M n:Nat)(o:PO)(x:V×V):Prop where
 ky:x.1.ok M
 vl:x.2.ok M
 one:x.1.kx P o.key
 ew:1≤n→EW (MW P n) P o x.2

include hM ho hrec in
theorem Ul (h5:o.card=5):∀(k:Nat) {x y:V×V} {a b:Bool} {c d:C},CI c→c.left≤n→(1:Int)+3*c.left≤K→XI P M n o x→K0 P rec o k x a b c=.ok (y,d)→
  Af c d∧XI P M n o y∧(y.1.cnt:Int)+y.2.cnt+3*d.left≤x.1.cnt+x.2.cnt+3*c.left
 |0,x,y,a,b,c,d,hc,hcn,hb,hx,h=>by
  cases h;exact⟨Af.refl hc,hx,QmP _⟩
 |k+1,x,y,a,b,c,d,hc,hcn,hb,hx,h=>by
  have hky:=ho.uo.key h5;have hk10:o.key≠10:=by unfold XT at hky;omega
  rw[K0]at h;split at h
  ·split at h
   ·rename_i htg;obtain⟨t1,_⟩:=HF hc htg;have hl:=t1.lt hc;have hct:=t1.ci hc;split at h
    ·split at h
     ·cases h
     split at h
     ·cases h
     rename_i z c1 h1;obtain⟨r1,r2,r3,r4,r5⟩:=Gr hM hrec (fun e=>absurd e hk10) hct xw xw h1;have hl1:=r1.lt hct;obtain⟨q1,q2,q3⟩:=Ul h5 k (x:=(z,x.2)) (r1.ci hct) xw xw ⟨r2,hx.vl,r5 hky,hx.ew⟩ h;have:=X9 x.1;exact xd
    ·split at h
     ·split at h
      ·cases h
      split at h
      ·cases h
      rename_i z c1 h1;obtain⟨r1,r2,r3,r4,r5⟩:=Gr hM hrec ho.uo.tgt hct xw xw h1;have hl1:=r1.lt hct;obtain⟨q1,q2,q3⟩:=Ul h5 k (x:=(x.1,z)) (r1.ci hct) xw xw ⟨hx.ky,r2,hx.one,fun _ e=>r4 e⟩ h;have:=X9 x.2;exact xd
     ·cases h
   ·cases h
  ·cases h;exact⟨Af.refl hc,hx,QmP _⟩

theorem F6 {k:Int}(_hk:XT k):(QN k 0 []).kx P k:=Pe (fun _=>rfl) fun _=>rfl

include hM hK ho hrec in
theorem EK (h5:o.card=5)(hkd:(Lit.int .i64 o.kind).wf=true){v w:V}{c d:C}(hc:CI c)(hcn:c.left≤n)(hv:MW P (n+1) g v)(hk:v.ok M)(hb:(v.cnt:Int)+3*c.left+3≤K)(h:JZ P rec g v o c=.ok (w,d)) :
  As c d∧MW P (n+1) g w∧w.ok M∧(w.cnt:Int)+3*d.left≤v.cnt+3*c.left:=by
 have ls:=XP v;have hcb:=hc.bd;have hky:=ho.uo.key h5;unfold JZ at h;split at h
 ·cases h
 rename_i q c1 h1;obtain⟨a1,a2⟩:=Kn hc h1;have hc1:=a1.ci hc;have hl1:=a1.lt hc;have hc1b:=hc1.bd;obtain⟨_,p2,p3⟩:=Jr hc1 a2;split at h
 ·cases h
 rename_i i h2;obtain⟨s1,_⟩:=Zm p2 vj h2;have hls:=(s1.left p2).2.2;split at h
 ·cases h
 rename_i x j h3;cases h;have hcv:=X9 v;have hx0:XI P M n o (QN o.key 0 [],QN o.kind 0 []):=by
  exact z9
 obtain⟨r1,r2,r3⟩:=Ul hM ho hrec h5 _ (s1.ci p2) xw xw hx0 h3;rw[Xj,Xj]at r3;obtain⟨b1,b2⟩:=U8 hc1 a2 (s1.trans r1 p2);have hjb:=(r1.ci (s1.ci p2)).bd;have hol:=Du (n:=o.num) hk;have hn1:1≤n:=xw
 -- the entries
 have hpo:(∀p∈(Q2 v o.num).pairs,p.1.kx P o.key∧EW (MW P n) P o p.2)∧(Q2 v o.num).pairs.Pairwise fun q p=>XE q.1 p.1=false:=by
  cases hf:XY v o.num with
  |none=>
   rw[Ji qj];exact⟨fun p hp=>(nomatch hp),.nil⟩
  |some z=>
   have h4:=HG hv ho.self hf;unfold FW at h4;rw[Qlu xw,Qlv h5]at h4;rw[(Xz hf).2];exact h4
 have hoc:(Q2 v o.num).cnt≤v.cnt+1:=by
  cases hf:XY v o.num with
  |none=>rw[Ji qj,Xj];omega
  |some z=>
   have:=ZZ (Xz hf).1;rw[(Xz hf).2];dsimp only at this;omega
 have hfw:FW (MW P n) P o (Yc (Z2 o.key (Q2 v o.num).pairs x)):=by
  unfold FW;rw[Qlu xw,Qlv h5];refine⟨fun p hp=>?_,RT hpo.2⟩;rcases Pd hp with⟨hp,_⟩|rfl
  ·exact hpo.1 p hp
  ·exact⟨r2.one,r2.ew hn1⟩
 have hmk:(Yc (Z2 o.key (Q2 v o.num).pairs x)).ok M:=by
  refine Qcr (fun p hp=>?_) ?_
  ·rcases Pd hp with⟨hp,_⟩|rfl
   ·exact⟨hol.keys p hp,hol.vals p hp⟩
   ·exact⟨r2.ky,r2.vl⟩
  ·have h1:=Lq o.key (Q2 v o.num).pairs x;have h2:=Jw (Q2 v o.num);omega
 refine⟨a1.trans b1 hc,Kv hv ho.self hfw,Ku hk ho.wf hmk xw,?_⟩;have hpc:=Lp o.key (Q2 v o.num).pairs x;cases hf:XY v o.num with
 |none=>
  have e1:=K2 g v o (Yc (Z2 o.key (Q2 v o.num).pairs x));rw[Pb]at e1;have e0:Xk (Q2 v o.num).pairs=0:=by rw[Ji qj];rfl
  omega
 |some z=>
  have e1:=U9 g v o (Yc (Z2 o.key (Q2 v o.num).pairs x)) hf;rw[Pb]at e1;have e2:Xk (Q2 v o.num).pairs+1≤z.cnt:=by rw[(Xz hf).2,Q4 z];omega
  omega

include hM hK ho hrec in
theorem Dv (hkd:(Lit.int .i64 o.kind).wf=true){v w:V}{c d:C}{wr:Int}(hc:CI c)(hcn:c.left≤n)(hv:MW P (n+1) g v)(hk:v.ok M)(hb:(v.cnt:Int)+3*c.left+3≤K)(h:Jh P rec g v o wr c=.ok (w,d)) :
  As c d∧MW P (n+1) g w∧w.ok M∧(w.cnt:Int)+3*d.left≤v.cnt+3*c.left:=by
 have hcv:=X9 v;unfold Jh at h;split at h
 ·rename_i h5;split at h
  ·exact EK hM hK ho hrec h5 hkd hc hcn hv hk hb h
  ·cases h
 ·rename_i h5;split at h
  ·rename_i hp;exact Lr hM hK ho hc hv hk xw hp.2 h
  ·split at h
   ·split at h
    ·rename_i h10;exact Ls hK ho hrec hc hcn hv hk xw h5 h10 h xw
    ·exact Vk hM hK ho hc hv hk xw h5 h
   ·cases h
end

theorem Cj {P:PL}{M:Nat}(hP:P.ok M)(hU:JX P)(hr:Zo P){t n:Int}(ht:0≤t∧t<(P.progs.length:Int)){o:PO}(hop:Q7 (Qg P t) n=some o):OpK P (Qg P t) o∧(Lit.int .i64 o.kind).wf=true∧o.num=n:=by
 obtain⟨hom,hon⟩:=Jb hop;have hgt:Qg P t∈P.progs:=by
  exact yb
 have hok:=(hP.progs _ hgt).ops o hom;exact⟨⟨XQ (hr _ hgt) hom,hok.num,hU _ hgt o hom⟩,hok.kind,hon⟩

theorem F7 {P:PL}{M K n:Nat}(hM:65536≤M)(hK:K≤1000000)(hP:P.ok M)(hU:JX P)(hr:Zo P){rec:Int→V→C→Rd V}(hrec:Wb P M K n rec){t:Int}(ht:0≤t∧t<(P.progs.length:Int)):∀(k:Nat) (v:V) (c:C),CI c→c.left≤n→MW P (n+1) (Qg P t) v→v.ok M→(v.cnt:Int)+3*c.left≤K→
  ∀w d,ZW P rec t k v c=.ok (w,d)→Af c d∧MW P (n+1) (Qg P t) w∧w.ok M∧(w.cnt:Int)+3*d.left≤v.cnt+3*c.left
 |0,v,c,hc,hn,hv,hk,hb,w,d,h=>by
  exact yh
 |k+1,v,c,hc,hn,hv,hk,hb,w,d,h=>by
  have lr:=JI v;have hcb:=hc.bd;rw[ZW]at h;split at h
  ·split at h
   ·rename_i htg;obtain⟨t1,_⟩:=HF hc htg;have hl:=t1.lt hc;split at h
    ·split at h
     ·rename_i hx;obtain⟨a1,_,a2,a3,a4,a5,a6,a7⟩:=Nt hc hx;have hla:=a1.lt hc;have hrw:(Xv c).1.ok M:=⟨JJ xw xw,JJ xw xw,jy,xw⟩;have ea:=D7 v (Xv c).1;obtain⟨b1,b2,b3,b4⟩:=F7 hM hK hP hU hr hrec ht k _ _ (a1.ci hc) xw (Nv hv) (Nu hk hrw xw) xw w d h;exact⟨a1.1.trans b1 hc,b2,b3,xw⟩
     ·cases h
    ·rename_i o hop;split at h
     ·cases h
     rename_i v1 c1 h1;obtain⟨ho,hkd,_⟩:=Cj hP hU hr ht hop;obtain⟨b1,b2,b3,b4⟩:=Dv hM hK ho hrec hkd (t1.ci hc) xw hv hk xw h1;have hlb:=b1.lt (t1.ci hc);obtain⟨q1,q2,q3,q4⟩:=F7 hM hK hP hU hr hrec ht k v1 c1 (b1.ci (t1.ci hc)) xw b2 b3 xw w d h;exact⟨(t1.1.trans b1.1 hc).trans q1 hc,q2,q3,xw⟩
   ·cases h
  ·exact yh
theorem HH {P:PL}{M K:Nat}(hM:65536≤M)(hK:K≤1000000)(hP:P.ok M)(hU:JX P)(hr:Zo P):∀n:Nat,Wb P M K n (Ho P n)
 |0,t,v,c,hc,hn,ht,hv,hk,hb,w,d,h=>by
  have:=hc.bd;omega
 |n+1,t,v,c,hc,hn,ht,hv,hk,hb,w,d,h=>
  F7 hM hK hP hU hr (HH hM hK hP hU hr n) ht _ v c hc xw hv hk hb w d h

def J0:List AV:=[.int .i64 0,.int .u64 0,.str [],.nils,.nils,.nils,.nils]

theorem Ph (o:PO):Qh Tryz.prog 283 [Qu o] (.int .i64 (wk o.kind)):=by
 have hw:=Qdw o.num o.name o.alias 2 o.key o.kind o.target o.union;have e:Me 2 o.kind=wk o.kind:=by unfold Me pk;simp
 rw[e]at hw;simp only[oc]at hw;refine wF Tryz.func283 ?_;simp only[eK,Tryz.f283,seval];simp only[Qu,PO.cells,splice,QlX,Qmy,Ql0,Ql6,QlK,QlL,QlD,Qmk,eE,seval];refine aC hw ?_;simp only[Qa,seval]

theorem Qez {v:V}{n:Int}{i:Nat}{x:Int×V}(h:v.slots[i]? = some x)(hd:(v.slots.find? fun s=>s.1==n)=(v.slots.drop i).find? fun s=>s.1==n) :
  (x.1==n)=true∧XY v n=some x.2∧Q2 v n=x.2∨(x.1==n)=false∧(v.slots.find? fun s=>s.1==n)=(v.slots.drop (i+1)).find? fun s=>s.1==n:=by
 have hlt:=(Qlm.1 h).1;have hx:=(Qlm.1 h).2;rw[Ql7 hlt,Qnk,hx]at hd;cases hb:(x.1==n)
 ·rw[hb]at hd;exact .inr ⟨rfl,hd⟩
 ·rw[hb]at hd;have e:XY v n=some x.2:=by unfold XY;rw[hd];rfl
  exact .inl ⟨rfl,e,by unfold Q2;rw[e];rfl⟩
theorem Qcs {v:V}{n:Int}{i:Nat}(h:¬i<v.slots.length)(hd:(v.slots.find? fun s=>s.1==n)=(v.slots.drop i).find? fun s=>s.1==n):XY v n=none∧Q2 v n=QN 0 0 []:=by
 rw[Ql1 xw]at hd;have e:XY v n=none:=by unfold XY;rw[hd];rfl
 exact⟨e,by unfold Q2;rw[e];rfl⟩

def FvI (v:V)(n:Int)(k:Nat)(st:St):Prop :=
 ∃f fr i,st=⟨f,[fr],[]⟩∧k=v.slots.length-i∧i≤v.slots.length∧((v.slots.find? fun s=>s.1==n)=(v.slots.drop i).find? fun s=>s.1==n)∧f 1=.int .i64 n∧f 4=.ptr 0 4 0∧f 9=.list (v.slots.map V.sav)∧f 10=.int .i64 (v.slots.length:Nat)∧f 11=.int .i64 (i:Nat)∧fr 4=.cells J0∧∀s∈[7],(fr s).isRow=false

theorem Pi (v:V)(n:Int)(hl:v.slots.length≤1099511627776):Qh Tryz.prog 130 [v.av,.int .i64 n] (.tup [(Q2 v n).av,.bool (XY v n).isSome]):=by
 rw[Qd v];refine wF Tryz.func130 ?_;simp only[eK,Tryz.f130,seval];simp only[Qmj,eE,seval];refine Qi (FvI v n) _ ⟨_,_,0,rfl,rfl,Qlx _,rfl,xx,xx,xx,xx,xx,xx,xS⟩ ?_;rintro _ st ⟨f0,fr0,i,rfl,rfl,hil,hfd,h10,h40,h90,h100,h110,m40,r7⟩;refine QL (a:=_) [7] r7 ?_;intro f fr hf hm hn7;have h1:f 1=.int .i64 n:=kj
 have h4:f 4=.ptr 0 4 0:=jx
 have h9:f 9=.list (v.slots.map V.sav):=ki
 have h10':f 10=.int .i64 (v.slots.length:Nat):=qP
 have h11:f 11=.int .i64 (i:Nat):=kH
 have m4:fr 4=.cells J0:=xT
 have n7:=hn7 7 xy;clear hf hm hn7 h10 h40 h90 h100 h110 m40 r7;have m4':=m4;simp only[J0]at m4;simp only[h10',h11,Qa,seval];by_cases hlt:i<v.slots.length
 ·obtain⟨x,hi⟩:∃x,v.slots[i]? = some x:=⟨v.slots[i],Qln hlt⟩;have hg:=Wy hi;have e1:=Qr i _ hlt xC;rcases Qez hi hfd with⟨hb,hx1,hx2⟩|⟨hb,hfd'⟩
  ·rw[hx1,hx2,Qd x.2];simp only[QB hlt,Qp,QmS,Qf,hg,hb,n7,Qnm,h1,h4,h9,h11,m4,eE,seval]
  ·simp only[QB hlt,Qp,QmS,Qf,hg,hb,n7,h1,h9,h11,e1,eE,seval];exact⟨v.slots.length-(i+1),xw,_,_,i+1,rfl,rfl,xw,hfd',xL,xR,j7,(by exact h10'),xx,kI,xS⟩
 ·obtain⟨hx1,hx2⟩:=Qcs hlt hfd;rw[hx1,hx2,show(QN 0 0 []).av=.agg [.int .i64 0,.int .u64 0,.str [],.list [],.list [],.list [],.list []]from Qd _];simp only[QI hlt,Qme,h4,m4,eE,seval]

theorem QeA (l x:V)(hl:l.list.length≤1048576):Qh Tryz.prog 335 [l.av,x.av] (XG (l.list++[x])).av:=by
 have t1:((l.list.length:Int)=(l.list.length:Int)∧(l.list.length:Int)=(l.list.length:Int))=True:=xA
 rw[show(XG (l.list++[x])).av=.agg [.int .i64 11,.int .u64 0,.str [],.list (l.list.map V.av++[x.av]),.list [],.list [],.list []]from by
  rw[Qd];show AV.agg [.int .i64 11,.int .u64 0,.str [],.list ((l.list++[x]).map V.av),.list [],.list [],.list []]=_;rw[Qnf];rfl]
 rw[Qd l,Qd x];refine wF Tryz.func335 ?_;simp only[eK,Tryz.f335,seval];simp only[Qmj,eE,seval];refine Vw rfl rfl xy rfl rfl ?_;refine UV (xs:=l.list.map V.av) (ys:=[x.av]) rfl wm xA (Dl l.list) (Dl [x]) jE xD xx ?_;simp only[Qmj,QlD,Qmk,splice,QlX,Qmy,Ql0,Ql6,QmE,Qms,QlK,QlL,QmB,QmC,AV.leaf,eE,seval];have hk:List.take (l.list.length+1) (l.list.map V.av++[x.av])=l.list.map V.av++[x.av]:=QlY xA;simp[hk,AV.un,AV.unL,Zw,XC];exact Qd x

theorem QeB (v:V)(x:R)(hl:v.raws.length≤1048576):Qh Tryz.prog 220 [v.av,x.av] (HE v x).av:=by
 have t1:((v.raws.length:Int)=(v.raws.length:Int)∧(v.raws.length:Int)=(v.raws.length:Int))=True:=xA
 rw[show(HE v x).av=.agg [.int .i64 v.kd,.int .u64 (v.bits:Nat),.str v.text,.list (v.list.map V.av),.list (v.pairs.map V.pav),.list (v.slots.map V.sav),.list (v.raws.map R.av++[x.av])]from by
  rw[Qd];show AV.agg [.int .i64 v.kd,.int .u64 (v.bits:Nat),.str v.text,.list (v.list.map V.av),.list (v.pairs.map V.pav),.list (v.slots.map V.sav),.list ((v.raws++[x]).map R.av)]=_;rw[Qnf];rfl]
 rw[Qd v];refine wF Tryz.func220 ?_;simp only[eK,Tryz.f220,seval];simp only[R.av,Qmj,eE,seval];refine Vw rfl rfl xy rfl rfl ?_;refine UV (xs:=v.raws.map R.av) (ys:=[x.av]) rfl xx xA (Jo v.raws) (Jo [x]) jE xD xx ?_;simp only[Qmj,QlD,Qmk,splice,QlX,Qmy,Ql0,Ql6,QmE,Qms,QlK,QlL,QmB,QmC,AV.leaf,eE,seval];have hk:List.take (v.raws.length+1) (v.raws.map R.av++[x.av])=v.raws.map R.av++[x.av]:=QlY xA;simp only[R.av]at hk;simp[hk,AV.un,AV.unL,Zw,XC,R.av]

def StI (g:PG)(v:V)(o:PO)(x:V)(K:Nat→List (Int×V))(k:Nat)(st:St):Prop :=
 ∃f fr i n,st=⟨f,[fr],[]⟩∧k=v.slots.length-i∧i≤v.slots.length∧f 4=.ptr 0 4 0∧f 6=.ptr 0 6 0∧f 7=.ptr 0 7 0∧f 8=.ptr 0 8 0∧f 9=.ptr 0 9 0∧f 18=.list (v.slots.map V.sav)∧f 19=.int .i64 (v.slots.length:Nat)∧f 20=.int .i64 (i:Nat)∧fr 4=.cells g.cells∧fr 6=.cells o.cells∧fr 7=.cells (vc x)∧fr 8=.cells J0∧
  fr 9=.cells [.int .i64 10,.int .u64 0,.str [],.nils,.nils,.vec 0 1100 n 0 (K i).length false,.list (v.raws.map R.av)]∧fr 1100=.vec n 8 ((K i).map V.sav)∧∀s∈[12,11],(fr s).isRow=false

theorem Ts (g:PG)(v:V)(o:PO)(x:V)(hg:g.ops.length≤maxLen)(hl:v.slots.length≤1048576):Qh Tryz.prog 331 [Qm g,v.av,Qu o,x.av] (Zl g v o x).av:=by
 have co:=fun n=>AS g hg n
 simp only[Yu]at co;simp only[Qm,PG.cells]at co;generalize hK:(fun i=>(v.slots.take i).filter fun s=>!ZV g o s)=K;have hK0:K 0=[]:=wo
 have hKn:v.slots.filter (fun s=>!ZV g o s)=K v.slots.length:=wo
 have hKl:∀i,i≤v.slots.length→(K i).length≤i:=by
  intro i hi;rw[←hK];exact Qll (List.length_filter_le _ _) kE
 have hKs:∀(i:Nat) (s:Int×V),v.slots[i]? = some s→K (i+1)=K i++(if ZV g o s=true then []else [s]):=by
  intro i s hs;rw[←hK];show(v.slots.take (i+1)).filter _=(v.slots.take i).filter _++_;rw[Qng,hs,Qm2];cases hd:ZV g o s<;>simp[hd]
 rw[show(Zl g v o x).av=.agg [.int .i64 10,.int .u64 0,.str [],.list [],.list [],.list ((K v.slots.length).map V.sav++[V.sav (o.num,x)]),.list (v.raws.map R.av)]from by
  rw[Qd];show AV.agg [.int .i64 10,.int .u64 0,.str [],.list [],.list [],.list ((v.slots.filter (fun s=>!ZV g o s)++[(o.num,x)]).map V.sav),.list (v.raws.map R.av)]=_;rw[hKn,Qnf];rfl]
 rw[Qd v,Qd x];clear hKn hK;refine wF Tryz.func331 ?_;simp only[eK,Tryz.f331,seval];simp only[Qm,Qu,PG.cells,PO.cells,eE,seval];refine KT xJ rfl xJ rfl ?_;simp only[List.set,Qmj,eE,seval];refine Qi (StI g v o x K) _ ⟨_,_,0,_,rfl,rfl,Qlx _,xx,xx,xx,xx,xx,xx,xx,xx,xx,xx,xx,xx,kK,kK,Ge rfl rfl⟩ ?_;rintro _ st ⟨f0,fr0,i,n,rfl,rfl,hil,h40,h60,h70,h80,h90,h180,h190,h200,m40,m60,m70,m80,m90,mS0,r12⟩;refine QL (a:=_) [12,11] r12 ?_;intro f fr hf hm hn12;have h4:f 4=.ptr 0 4 0:=jx
 have h6:f 6=.ptr 0 6 0:=jV
 have h7:f 7=.ptr 0 7 0:=jU
 have h8:f 8=.ptr 0 8 0:=jM
 have h9:f 9=.ptr 0 9 0:=ki
 have h18:f 18=.list (v.slots.map V.sav):=qo
 have h19:f 19=.int .i64 (v.slots.length:Nat):=qN
 have h20:f 20=.int .i64 (i:Nat):=qO
 have m4':fr 4=.cells g.cells:=xT
 have m6':fr 6=.cells o.cells:=jG
 have m7':fr 7=.cells (vc x):=jZ
 have m8':fr 8=.cells J0:=by rw[hm 8 xy,m80]<;>rfl
 have m9:fr 9=.cells [.int .i64 10,.int .u64 0,.str [],.nils,.nils,.vec 0 1100 n 0 (K i).length false,.list (v.raws.map R.av)]:=by rw[hm 9 xy,m90]<;>rfl
 have mS:fr 1100=.vec n 8 ((K i).map V.sav):=kP
 have n12:=hn12 12 xy;have n11:=hn12 11 xy;clear hf hm hn12 h40 h60 h70 h80 h90 h180 h190 h200 m40 m60 m70 m80 m90 mS0 r12;have m4:=m4';have m6:=m6';have m7:=m7';have m8:=m8';simp only[PG.cells]at m4;simp only[PO.cells]at m6;simp only[vc]at m7;simp only[J0]at m8;have hKi:=hKl i hil;simp only[h19,h20,Qa,seval];by_cases hlt:i<v.slots.length
 ·obtain⟨y,hi⟩:∃y,v.slots[i]? = some y:=⟨v.slots[i],Qln hlt⟩;have hgs:=Wy hi;have e1:=Qr i _ hlt xC;have hKy:=hKs i y hi;have skip:ZV g o y=true→∀(f':Fr) (fr':Nat→Ob),f' 4=.ptr 0 4 0→f' 6=.ptr 0 6 0→f' 7=.ptr 0 7 0→f' 8=.ptr 0 8 0→f' 9=.ptr 0 9 0→f' 18=.list (v.slots.map V.sav)→f' 19=.int .i64 (v.slots.length:Nat)→f' 20=.int .i64 ((i+1:Nat):Int)→fr' 4=.cells g.cells→fr' 6=.cells o.cells→fr' 7=.cells (vc x)→fr' 8=.cells J0→fr' 9=fr 9→fr' 1100=fr 1100→(∀s∈[12,11],(fr' s).isRow=false)→∃k,k<v.slots.length-i∧StI g v o x K k ⟨f',[fr'],[]⟩:=by
   intro hd f' fr' a4 a6 a7 a8 a9 a18 a19 a20 b4 b6 b7 b8 b9 bS br;rw[Qlv hd,Qms]at hKy;exact⟨v.slots.length-(i+1),xw,f',fr',i+1,n,rfl,rfl,xw,a4,a6,a7,a8,a9,a18,a19,a20,b4,b6,b7,b8,by rw[b9,m9,hKy],by rw[bS,mS,hKy],br⟩
  simp only[QB hlt,Qp,QmS,Qf,hgs,n11,h6,h18,h20,m6,eE,seval];have hdd:ZV g o y=(y.1==o.num||(match Q7 g y.1 with
   |some q=>decide (o.union≥0)&&q.union==o.union
   |none=>false)):=rfl
  cases hb:(y.1==o.num)
  ·have c1:=co y.1;rw[hb,Qnd]at hdd;simp only[h4,m4,eE,seval];refine aC c1 ?_;have keep:ZV g o y=false→∀(f':Fr) (fr':Nat→Ob),f' 4=.ptr 0 4 0→f' 6=.ptr 0 6 0→f' 7=.ptr 0 7 0→f' 8=.ptr 0 8 0→f' 9=.ptr 0 9 0→f' 18=.list (v.slots.map V.sav)→f' 19=.int .i64 (v.slots.length:Nat)→f' 20=.int .i64 ((i+1:Nat):Int)→fr' 4=.cells g.cells→fr' 6=.cells o.cells→fr' 7=.cells (vc x)→fr' 8=.cells J0→fr' 9=.cells [.int .i64 10,.int .u64 0,.str [],.nils,.nils,.vec 0 1100 (n+1) 0 ((K i).length+1) false,.list (v.raws.map R.av)]→fr' 1100=.vec (n+1) 8 ((K i).map V.sav++[V.sav y])→(∀s∈[12,11],(fr' s).isRow=false)→∃k,k<v.slots.length-i∧StI g v o x K k ⟨f',[fr'],[]⟩:=by
    intro hd f' fr' a4 a6 a7 a8 a9 a18 a19 a20 b4 b6 b7 b8 b9 bS br;rw[Qlu (by rw[hd];simp)]at hKy;exact⟨v.slots.length-(i+1),xw,f',fr',i+1,n+1,rfl,rfl,xw,a4,a6,a7,a8,a9,a18,a19,a20,b4,b6,b7,b8,by rw[b9,hKy,Ql2];rfl,by rw[bS,hKy,Qnf];rfl,br⟩
   cases hq:Q7 g y.1 with
   |none=>
    rw[hq]at hdd;simp only[Qm4,Qme,Qu,Uq,PO.cells,n12,h9,m9,eE,seval];exact ot
   |some q=>
    rw[hq]at hdd;dsimp only at hdd;simp only[QmA,Qnm,Qu,PO.cells,n12,h6,m6,eE,seval];cases hu:decide (o.union≥0)
    ·rw[hu,QmW]at hdd;simp only[h9,m9,eE,seval];exact ot
    ·rw[hu,Qm8]at hdd;cases hqu:(q.union==o.union)
     ·rw[hqu]at hdd;simp only[hqu,h6,h9,m6,m9,eE,seval];exact ot
     ·rw[hqu]at hdd;simp only[hqu,h6,h20,m6,e1,eE,seval];exact skip hdd _ _ xR xU xZ xV j7 qa kU xx kI ko qq kW xx xx (Ge rfl rfl)
  ·rw[hb,Qnc]at hdd;simp only[h20,e1,Qa,seval];exact skip hdd _ _ xR xU xZ xV j7 qa kU xx kI ko qq kW xx xx (Ge (by rw[Q6 _ _ xy,n12]<;>rfl) rfl)
 ·have e:i=v.slots.length:=xw
  subst e;simp only[QI hlt,h6,h7,h9,m6,m7,m9,eE,seval];refine QK (l:=[V.sav (o.num,x)]) rfl rfl rfl qT ?_;refine QF (site:=1100) (g:=n) (n:=(K v.slots.length).length) (xs:=(K v.slots.length).map V.sav) (ys:=[V.sav (o.num,x)]) xx qA rfl kO rfl (W8 [(o.num,x)]) xG xI ?_;simp only[h8,h9,m8,m9,eE,seval];have hk:List.take ((K v.slots.length).length+1) ((K v.slots.length).map V.sav++[V.sav (o.num,x)])=(K v.slots.length).map V.sav++[V.sav (o.num,x)]:=QlY xA;simp[hk,AV.un,AV.unL,Zw,XC]

def Gs (c:C):Nat×C×Nat:=match ZU c with
 |.ok (n,d)=>(n,d,0)
 |.error e=>(0,c,e)
def Dw (w:Int)(c:C):R×C×Nat :=
 if w=2 then(⟨0,w,c.fixed.1,[]⟩,c.fixed.2.1,c.fixed.2.2)
 else if w=3 then(if (Gs c).2.2=0 then(⟨0,w,0,(text (Gs c).2.1 (Gs c).1).1⟩,(text (Gs c).2.1 (Gs c).1).2.1,(text (Gs c).2.1 (Gs c).1).2.2)else(⟨0,0,0,[]⟩,c,(Gs c).2.2))
 else(⟨0,w,c.varint.1,[]⟩,c.varint.2.1,c.varint.2.2)
theorem Ck {c:C}{e:Nat}(h:ZU c=.error e):e≠0:=by
 unfold ZU at h;split at h
 ·split at h<;>cases h
  decide
 ·rename_i he;cases h;exact he
theorem RU (w:Int)(c:C):Ka w c=if (Dw w c).2.2=0 then .ok ((Dw w c).1,(Dw w c).2.1)else .error (Dw w c).2.2:=by
 unfold Dw Ka;by_cases h2:w=2
 ·rw[Qlu xw,Qlv h2,Qlv h2]
 ·rw[Qlu h2,Qlu h2];by_cases h3:w=3
  ·rw[Qlv h3,Qlv h3];unfold Gs;cases hr:ZU c with
   |error e=>
    have:=Ck hr;dsimp only;rw[Qlu this,Qlu this]
   |ok p=>rfl
  ·rw[Qlu h3,Qlu h3]

def Xi (P:PL)(c:C):Ob:=.cells [.list (P.progs.map Qm),.list (P.enums.map QC),.str c.d,.int .i64 c.a,.int .i64 c.e,.int .i64 c.dp,.int .i64 c.nd,.int .i64 c.tx]

def Rt (P:PL)(l s:Nat)(m:Qk){α:Type}(f:α→AV)(r:Rd α)(x:AV)(m1:Qk):Prop :=
 match r with
 |.ok (a,d)=>x=.tup [f a,.int .i64 0]∧m1=Am.put m l s (Xi P d)
 |.error e=>e≠0∧∃a d,x=.tup [f a,.int .i64 (e:Nat)]∧m1=Am.put m l s (Xi P d)

theorem put_put {m:Qk}{l s:Nat}{o q:Ob}:Am.put (Am.put m l s o) l s q=Am.put m l s q:=by
 induction m generalizing l with
 |nil=>rfl
 |cons fr m ih=>
  cases l with
  |zero=>
   show QJ (QJ fr s o) s q :: m=QJ fr s q :: m;rw[DM]
  |succ l=>exact congrArg (fr :: ·) ih
theorem put_self {m:Qk}{l s:Nat}{o:Ob}(hm:l<m.length)(h:Am.Qc m l s=o):Am.put m l s o=m:=by
 induction m generalizing l with
 |nil=>rfl
 |cons fr m ih=>
  cases l with
  |zero=>
   show QJ fr s o :: m=fr :: m;congr 1
   funext i;by_cases e:i=s
   ·subst e;rw[QZ];exact h.symm
   ·rw[Q6 _ _ e]
  |succ l=>exact congrArg (fr :: ·) (ih wu h)

theorem JA (d:List UInt8)(a e dp nd tx:Int):∀n,AV.shNL n [.str d,.int .i64 a,.int .i64 e,.int .i64 dp,.int .i64 nd,.int .i64 tx]=[.str d,.int .i64 a,.int .i64 e,.int .i64 dp,.int .i64 nd,.int .i64 tx]
 |0=>rfl
 |n+1=>by show AV.shL (AV.shNL n _)=_;rw[JA d a e dp nd tx n];rfl
theorem sh2 (a b:List AV):∀n,AV.shNL n [.list a,.list b]=[.list a,.list b]
 |0=>rfl
 |n+1=>by show AV.shL (AV.shNL n _)=_;rw[sh2 a b n];rfl
theorem WL (k:IntKind)(v:Int):∀n,(AV.int k v).shN n=.int k v
 |0=>rfl
 |n+1=>by show(AV.shN n _).sh=_;rw[WL k v n];rfl
theorem shl (a:List AV):∀n,(AV.list a).shN n=.list a
 |0=>rfl
 |n+1=>by show(AV.shN n _).sh=_;rw[shl a n];rfl
theorem Jj (d:List UInt8)(a e dp nd tx:Int):∀n,AV.unNL n [.str d,.int .i64 a,.int .i64 e,.int .i64 dp,.int .i64 nd,.int .i64 tx]=some [.str d,.int .i64 a,.int .i64 e,.int .i64 dp,.int .i64 nd,.int .i64 tx]
 |0=>rfl
 |n+1=>by
  show(AV.unL _).bind (AV.unNL n)=_;exact Jj d a e dp nd tx n
theorem EL (k:IntKind)(v:Int):∀n,AV.unNL n [.int k v]=some [.int k v]
 |0=>rfl
 |n+1=>by
  show(AV.unL _).bind (AV.unNL n)=_;exact EL k v n

def Nx:AV→AV
 |.agg l=>.agg (l.map nn0)
 |x=>x
theorem Rep.nz {G:Gh}{x:AV}{v:Value}(h:Rep G x v):Rep G (Nx x) v:=by
 unfold Nx;split
 ·cases h with
  |agg h=>exact .agg h.nn0
 ·exact h
theorem RepL.nz {G:Gh}:∀ {l:List AV} {vs:List Value},RepL G l vs→RepL G (l.map Nx) vs
 | [],_,h=>by cases h;exact .nil
 |_ :: _,_,h=>by
  cases h with
  |cons h t=>exact .cons (Rep.nz h) (RepL.nz t)
theorem Wo {P:Program}{f:Fr}{m:Qk}{ds:List DF}{K:St→Prop}{its:List Am.Item}{d k:Nat}{args:List RA}{ys:List AV}{R:AV→Qk→Prop}(hk:Qe P k ys m R)(hy:(args.map (RA.ev f)).map Nx=ys)(h:∀x m',R x m'→m'.length=m.length→QD P its ⟨QJ f d x,m',ds⟩ K) :
  QD P (⟨some d,.callG (.f k) args,none⟩ :: its) ⟨f,m,ds⟩ K :=
 QO ⟨hk.1,fun G w vs hv hm=>hk.2 G w vs (by rw[←hy];exact RepL.nz hv) hm⟩ rfl h

theorem QY (m:Qk)(l s:Nat)(o:Ob):(Am.put m l s o).length=m.length:=by
 induction m generalizing l with
 |nil=>rfl
 |cons fr m ih=>
  cases l with
  |zero=>rfl
  |succ l=>exact congrArg (· + 1) (ih l)

section
variable (P:PL)(c:C)(l s:Nat)(m:Qk)(hm:l<m.length)(hs:Am.Qc m l s=Xi P c)

include hs in
theorem F8 (n:Int) :
  Qe Tryz.prog 128 [.ptr l s 0,.int .i64 n] m fun x m1=>x=.int .i64 ((c.spend n).2:Nat)∧m1=Am.put m l s (Xi P (c.spend n).1):=by
 simp only[Xi]at hs;refine wG Tryz.func128 ?_;simp only[eK,Tryz.f128,seval];simp only[hs,JA,eE,seval];refine aC (Qei c n) ?_;generalize c.spend n=r;obtain⟨c',e⟩:=r;simp only[Hw,C.av,Xi,hs,JA,Jj,QY,eE,seval]

include hs hm in
theorem Tt (hc:CI c):Qe Tryz.prog 327 [.ptr l s 0] m (Rt P l s m (fun n:Nat=>.int .i64 (n:Nat)) (ZU c)):=by
 have hs0:=hs;simp only[Xi]at hs;refine wG Tryz.func327 ?_;simp only[eK,Tryz.f327,seval];simp only[hs,JA,eE,seval];refine aC (Vf c hc.big) ?_;have hva:=K1 hc;have hln:ZU c=if c.varint.2.2=0 then(if c.varint.2.1.left<(c.varint.1:Int)then .error 4 else .ok (c.varint.1,c.varint.2.1))else .error c.varint.2.2:=rfl
 generalize c.varint=r at hva hln ⊢;obtain⟨u,d,e⟩:=r;dsimp only at hva hln;by_cases he:e=0
 ·subst he;obtain⟨ha,hu⟩:=hva rfl;have hd:=ha.ci hc;have hdl:=hd.bd;rw[Qlv rfl]at hln;have w1:IntKind.u64.wrap d.left=d.left:=qJ
  simp only[Wx,C.av,JA,Jj,eE,seval];refine aC (Dq d hd.big') ?_;by_cases hlt:d.left<(u:Int)
  ·have d1:decide ((u:Int) > d.left)=true:=Qnr hlt;rw[Qlv hlt]at hln;rw[hln];simp only[w1,d1,Qa,seval];exact⟨xy,0,c,rfl,(put_self hm hs0).symm⟩
  ·have d1:decide ((u:Int) > d.left)=false:=Qnl hlt;have w2:IntKind.i64.wrap (u:Int)=u:=xE
   rw[Qlu hlt]at hln;rw[hln];simp only[w1,w2,d1,hs,JA,Jj,QY,eE,seval];exact⟨rfl,rfl⟩
 ·rw[Qlu he]at hln;rw[hln];simp only[Wx,C.av,Xa he,Jj,eE,seval];exact⟨he,0,c,rfl,(put_self hm hs0).symm⟩

include hs hm in
theorem QeE (hc:CI c)(w:Int):Qe Tryz.prog 336 [.ptr l s 0,.int .i64 w] m (Rt P l s m R.av (Ka w c)):=by
 have hs0:=hs;have lp:∀o,Am.Qc (Am.put m l s o) l s=o:=fun o=>Qs hm
 have pp:∀o q,Am.put (Am.put m l s o) l s q=Am.put m l s q:=fun o q=>put_put
 simp only[Xi]at hs;refine wG Tryz.func336 ?_;simp only[eK,Tryz.f336,seval];simp only[eE,seval];by_cases h3:w=3
 ·have b3:(w==3)=true:=by simp[h3]
  simp only[b3,Qa,seval];refine QO (Tt P c (l+1) s _ (Nat.succ_lt_succ hm) hs0 hc) xF ?_;intro x m1 hx _;cases hr:ZU c with
  |error e=>
   have hrc:Ka w c=.error e:=by unfold Ka;rw[Qlv h3,hr]
   rw[hr]at hx;obtain⟨he,a,c',rfl,rfl⟩:=hx;rw[hrc];simp only[Xa he,QY,eE,seval];exact⟨he,⟨0,w,0,[]⟩,c',rfl,rfl⟩
  |ok p=>
   obtain⟨n,d⟩:=p;obtain⟨a1,a2⟩:=Kn hc hr;have hd:=a1.ci hc;have hrc:Ka w c=if (text d n).2.2=0 then .ok (⟨0,w,0,(text d n).1⟩,(text d n).2.1)else .error (text d n).2.2:=by unfold Ka;rw[Qlv h3,hr]
   rw[hr]at hx;obtain⟨rfl,rfl⟩:=hx;simp only[Xi,lp,JA,eE,seval];refine aC (Qjf d n hd.inr hd.big') ?_;rw[hrc];generalize text d n=q;obtain⟨t,i,e⟩:=q;dsimp only;simp only[Tq,C.av,lp,pp,Jj,QY,eE,seval];by_cases he:e=0
   ·subst he;rw[Qlv rfl];exact⟨rfl,rfl⟩
   ·rw[Qlu he];exact⟨he,⟨0,w,0,t⟩,i,rfl,rfl⟩
 have b3:(w==3)=false:=by simp[h3]
 by_cases h2:w=2
 ·have b2:(w==2)=true:=wg
  simp only[b3,b2,hs,JA,eE,seval];refine aC (Qel c hc.big) ?_;have hrc:Ka w c=if c.fixed.2.2=0 then .ok (⟨0,w,c.fixed.1,[]⟩,c.fixed.2.1)else .error c.fixed.2.2:=by unfold Ka;rw[Qlu h3,Qlv h2]
  rw[hrc];generalize c.fixed=q;exact zx
 ·have b2:(w==2)=false:=wg
  simp only[b3,b2,hs,JA,eE,seval];refine aC (Vf c hc.big) ?_;have hrc:Ka w c=if c.varint.2.2=0 then .ok (⟨0,w,c.varint.1,[]⟩,c.varint.2.1)else .error c.varint.2.2:=by unfold Ka;rw[Qlu h3,Qlu h2]
  rw[hrc];generalize c.varint=q;exact zx

include hs in
theorem QeF (n:Nat) :
  Qe Tryz.prog 328 [.ptr l s 0,.int .i64 (n:Nat)] m fun x m1=>x=c.av∧m1=Am.put m l s (Xi P (part c n)):=by
 simp only[Xi]at hs;refine wG Tryz.func328 ?_;simp only[eK,Tryz.f328,seval];simp only[hs,JA,WL,Jj,EL,QY,part,Xi,C.av,eE,seval]

include hs in
theorem Tu (o:C) :
  Qe Tryz.prog 330 [.ptr l s 0,o.av] m fun x m1=>x=.tup []∧m1=Am.put m l s (Xi P (Jg o c)):=by
 simp only[Xi]at hs;refine wG Tryz.func330 ?_;simp only[eK,Tryz.f330,seval];simp only[hs,JA,WL,Jj,EL,QY,Jg,Xi,C.av,eE,seval]

end

theorem avs (k:Int)(b:Nat)(t:List UInt8):(QN k b t).av=.agg [.int .i64 k,.int .u64 (b:Nat),.str t,.list [],.list [],.list [],.list []]:=Qd _
def Yw (r:V×Nat):AV:=.tup [r.1.av,.int .i64 (r.2:Nat)]
theorem Lt {k:Int}{b:Nat}(hk:isk k=true)(ht:Zp k=false):X8 k k b [] [] [] [] []=W2 k b:=by
 have k7:(k != 7)=true:=by
  unfold Zp at ht;rw[Qmh,Qne]at ht;simp[ht.1]
 unfold X8;rw[hk,ht,k7];simp[U2]

section
variable (n:Int)(s a:List UInt8)(c y k t u:Int)
theorem QfN:Qh Tryz.prog 283 [oc n s a c y k t u] (.int .i64 (wk k)):=Ph ⟨n,s,a,c,y,k,t,u⟩

end

theorem Lu (b:Nat)(_hb:b<18446744073709551616):IntKind.u64.wrap (zag b)=(Jy 1 b:Int)∧Jy 1 b<18446744073709551616:=by
 unfold Jy;rw[Qlv rfl,ZM];omega

theorem QeG {k:Int}(hk:isk k=true)(h:wk k≠3):Zp k=false:=by
 unfold wk at h;unfold Zp;rw[Qmh,Qne,Qne];refine⟨fun e=>?_,fun e=>?_⟩<;>(subst e;exact h xy)

section
variable {M:Nat}(P:PL)(hP:P.ok M)
include hP in
theorem QfO (n:Int)(s a:List UInt8)(c y k t u:Int)(f:R)(hb:f.bits<18446744073709551616) :
    Qh Tryz.prog 337 [P.av,oc n s a c y k t u,f.av] (Yw (Zi P k t f)):=by
  have hw:=QfN n s a c y k t u;have hacc:∀b,_:=fun b=>IV P hP t b
  have e0:P.av=.agg [.list (P.progs.map Qm),.list (P.enums.map QC)]:=rfl;simp only[oc]at hw;simp only[e0]at hacc;have hfn:∀B:Nat,Zp k=false→isk k=true→Qh Tryz.prog 345 [.int .i64 k,.agg [.int .i64 k,.int .u64 (B:Nat),.str [],.list [],.list [],.list [],.list []]] (.bool (W2 k B)):=fun B h1 h2=>by
    have h:=IS k k B [] [] [] [] [] (Qlx _) (Qlx _) (Qlx _) (Qlx _);rw[Lt h2 h1]at h;exact h
  have hnm:∀B:Nat,B<18446744073709551616→Qh Tryz.prog 102 [.agg [.int .i64 k,.int .u64 (B:Nat),.str [],.list [],.list [],.list [],.list []]] (.agg [.int .i64 k,.int .u64 ((Xx k B:Nat):Int),.str [],.list [],.list [],.list [],.list []]):=fun B hB=>by
    have h:=Lc (QN k B []) hB;rw[MY,avs]at h;exact h
  refine wF Tryz.func337 ?_;simp only[eK,Tryz.f337,seval];simp only[e0,oc,R.av,eE,seval];refine aC (NV k) ?_;cases hk:isk k
  · have hs:Zi P k t f=(QN 0 0 [],12):=by unfold Zi;rw[Qlu (by rw[hk];decide)]
    exact xg
  simp only[eE,seval];refine aC hw ?_;by_cases h1:f.wire=wk k
  case neg=>
    have hs:Zi P k t f=(QN 0 0 [],13):=by unfold Zi;rw[Qlv hk,Qlu h1]
    have b1:(f.wire != wk k)=true:=qn
    simp only[b1,hs,Yw,avs,splice,QlX,Qmy,Ql0,Ql6,QlL,QlD,Qmk,eE,seval]
    try rfl
  have b1:(f.wire != wk k)=false:=qn
  simp only[b1,eE,seval];by_cases h3:f.wire=3
  · have b3:(f.wire==3)=true:=by simp[h3]
    simp only[b3,eE,seval];by_cases h7:k=7
    · have b7:(k==7)=true:=by simp[h7]
      simp only[b7,eE,seval];refine aC (S2 f.data) ?_;cases hv:GE f.data
      · have hs:Zi P k t f=(QN 0 0 [],7):=by unfold Zi;rw[Qlv hk,Qlv h1,Qlv h3,Qlv ⟨h7,hv⟩]
        exact xg
      · have hs:Zi P k t f=(QN k 0 f.data,0):=by unfold Zi;rw[Qlv hk,Qlv h1,Qlv h3,Qlu (by rw[hv];simp)]
        simp only[hs,Yw,avs,splice,QlX,Qmy,Ql0,Ql6,QlK,QlL,QlD,Qmk,eE,seval]
        try rfl
    · have b7:(k==7)=false:=by simp[h7]
      have hs:Zi P k t f=(QN k 0 f.data,0):=by unfold Zi;rw[Qlv hk,Qlv h1,Qlv h3,Qlu (by simp[h7])]
      simp only[b7,hs,Yw,avs,splice,QlX,Qmy,Ql0,Ql6,QlK,QlL,QlD,Qmk,eE,seval]
      try rfl
  have b3:(f.wire==3)=false:=by simp[h3]
  have htx:=QeG hk (h1▸h3);simp only[b3,splice,QlX,Qmy,Ql0,Ql6,QlK,QlL,QlD,Qmk,eE,seval];have hfit:∀B:Nat,B=Jy f.wire f.bits→W2 k B=false→Zi P k t f=(QN 0 0 [],6):=by
    intro B e hh;unfold Zi;rw[Qlv hk,Qlv h1,Qlu h3,←e,Qlu (by rw[hh];decide)]
  have hen:∀B:Nat,B=Jy f.wire f.bits→W2 k B=true→k=9→YI P.enums t B=false→Zi P k t f=(QN 0 0 [],16):=by
    intro B e hh h9 ha;unfold Zi;rw[Qlv hk,Qlv h1,Qlu h3,←e,Qlv hh,Qlv ⟨h9,ha⟩]
  have hno:∀B:Nat,B=Jy f.wire f.bits→W2 k B=true→(k=9→YI P.enums t B=true)→Zi P k t f=(QN k (Xx k B) [],0):=by
    intro B e hh ha;unfold Zi;rw[Qlv hk,Qlv h1,Qlu h3,←e,Qlv hh,Qlu (by rintro⟨h9,hf⟩;rw[ha h9]at hf;cases hf)]
  have hz:=Qi2 (f.bits:Int) xw xw;obtain⟨hzw,hzl⟩:=Lu f.bits hb;by_cases hw1:f.wire=1
  all_goals
    first
      | (have bw:(f.wire==1)=true:=by simp[hw1]
         simp only[bw,eE,seval];refine aC hz ?_;simp only[hzw,splice,QlX,Qmy,Ql0,Ql6,QlK,QlL,QlD,Qmk,eE,seval];have eB:Jy 1 f.bits=Jy f.wire f.bits:=by rw[hw1]
         have hB:=hzl;generalize Jy 1 f.bits=B at eB hB)
      | (have bw:(f.wire==1)=false:=by simp[hw1]
         simp only[bw,QlX,Ql6,QlD,Qmk,eE,seval];obtain⟨B,hBe⟩:∃B,f.bits=B:=⟨_,rfl⟩;rw[hBe];have eB:B=Jy f.wire f.bits:=by unfold Jy;rw[Qlu hw1];exact hBe.symm
         have hB:=hb;rw[hBe]at hB)
    refine aC (hfn _ htx hk) ?_;cases hft:W2 k B
    · simp only[hfit B eB hft,Yw,avs,splice,QlX,Qmy,Ql0,Ql6,QlL,QlD,Qmk,eE,seval]
      try rfl
    simp only[eE,seval];by_cases h9:k=9
    · have b9:(k==9)=true:=vu
      simp only[b9,eE,seval];refine aC (hacc B) ?_;cases ha:YI P.enums t B
      · simp only[hen B eB hft h9 ha,Yw,avs,splice,QlX,Qmy,Ql0,Ql6,QlL,QlD,Qmk,eE,seval]
        try rfl
      · simp only[eE,seval];refine aC (hnm _ hB) ?_;simp only[hno B eB hft (fun _=>ha),Yw,avs,splice,QlX,Qmy,Ql0,Ql6,QlL,QlD,Qmk,eE,seval]
    · have b9:(k==9)=false:=vu
      simp only[b9,eE,seval];refine aC (hnm _ hB) ?_;simp only[hno B eB hft (fun h=>absurd h h9),Yw,avs,splice,QlX,Qmy,Ql0,Ql6,QlL,QlD,Qmk,eE,seval]

include hP in
theorem QeH (o:PO)(f:R)(hb:f.bits<18446744073709551616):Qh Tryz.prog 337 [P.av,Qu o,f.av] (Yw (Zi P o.kind o.target f)) :=
 QfO P hP o.num o.name o.alias o.card o.key o.kind o.target o.union f hb

end

def Qa7 (g:PG)(v:V)(o:PO)(x:V)(d:C):V×C×Nat :=
  if (XY v o.num).isSome=true then(Zl g v o (XG ((Q2 v o.num).list++[x])),d,0)
  else if (d.spend 1).2=0 then(Zl g v o (XG ((Q2 v o.num).list++[x])),(d.spend 1).1,0)else(v,(d.spend 1).1,(d.spend 1).2)
def Qa8 (P:PL)(g:PG)(v:V)(o:PO)(f:R)(d:C):V×C×Nat :=
  if (Zi P o.kind o.target f).2=16 then(HE v ⟨o.num,0,f.bits,[]⟩,d,0)
  else if (Zi P o.kind o.target f).2=0 then(if o.card=4 then Qa7 g v o (Zi P o.kind o.target f).1 d else(Zl g v o (Zi P o.kind o.target f).1,d,0))
  else(v,d,(Zi P o.kind o.target f).2)
def UJ (P:PL)(g:PG)(v:V)(o:PO)(c:C):V×C×Nat :=
  if (c.spend 1).2=0 then
    (if (Dw (wk o.kind) (c.spend 1).1).2.2=0 then Qa8 P g v o (Dw (wk o.kind) (c.spend 1).1).1 (Dw (wk o.kind) (c.spend 1).1).2.1
     else(v,(Dw (wk o.kind) (c.spend 1).1).2.1,(Dw (wk o.kind) (c.spend 1).1).2.2))
  else(v,(c.spend 1).1,(c.spend 1).2)

theorem VT (P:PL)(g:PG)(v:V)(o:PO)(c:C):Kz P g v o c=if (UJ P g v o c).2.2=0 then .ok ((UJ P g v o c).1,(UJ P g v o c).2.1)else .error (UJ P g v o c).2.2:=by
 unfold Kz UJ spd;by_cases h1:(c.spend 1).2=0
 case neg=>simp only[Qlu h1]
 simp only[Qlv h1];rw[RU];generalize Dw (wk o.kind) (c.spend 1).1=r;obtain⟨f,d,e⟩:=r;dsimp only;by_cases h2:e=0
 case neg=>simp only[Qlu h2]
 simp only[Qlv h2];unfold Qa8;by_cases h3:(Zi P o.kind o.target f).2=16
 ·simp only[Qlv h3];rfl
 simp only[Qlu h3];by_cases h4:(Zi P o.kind o.target f).2=0
 case neg=>simp only[Qlu h4]
 simp only[Qlv h4];by_cases h5:o.card=4
 case neg=>simp only[Qlu h5];rfl
 simp only[Qlv h5];unfold Qa7;by_cases h6:(XY v o.num).isSome=true
 ·simp only[Qlv h6];rfl
 simp only[Qlu h6];by_cases h7:(d.spend 1).2=0
 ·simp only[Qlv h7];rfl
 ·simp only[Qlu h7]

def F9 (P:PL)(M K n:Nat)(rec:Int→V→C→Rd V):Prop :=
 ∀(l s:Nat) (m:Qk) (t:Int) (v:V) (c:C),l<m.length→Am.Qc m l s=Xi P c→CI c→c.left<n→(0≤t∧t<(P.progs.length:Int))→MW P n (Qg P t) v→v.ok M→(v.cnt:Int)+3*c.left≤K→
  Qe Tryz.prog 129 [.ptr l s 0,.int .i64 t,v.av] m (Rt P l s m V.av (rec t v c))

theorem K3 (c:C)(n:Int):(∃d,spd c n=.ok d∧c.spend n=(d,0))∨∃e,e≠0∧spd c n=.error e∧(c.spend n).2=e:=by
 unfold spd;by_cases h:(c.spend n).2=0
 ·rw[Qlv h];exact .inl ⟨_,rfl,by rw[←h]⟩
 ·rw[Qlu h];exact .inr ⟨_,h,rfl,rfl⟩

theorem D8 (v:V)(n:Int):(Q2 v n).cnt≤v.cnt:=by
 cases hf:XY v n with
 |none=>rw[Ji qj,Xj];exact X9 v
 |some z=>
  have:=ZZ (Xz hf).1;rw[(Xz hf).2];exact this

section
variable {M:Nat}(P:PL)(hP:P.ok M)(c:C)(l s:Nat)(m:Qk)(hm:l<m.length)(hs:Am.Qc m l s=Xi P c)(hc:CI c)(g:PG)(hg:g.ops.length≤maxLen)(v:V)(hv:v.cnt≤1000000)(o:PO)

include hP hm hs hc hg hv in
theorem QeI:Qe Tryz.prog 285 [.ptr l s 0,Qm g,v.av,Qu o] m (Rt P l s m V.av (Kz P g v o c)):=by
 have hs0:=hs;have lp:∀o,Am.Qc (Am.put m l s o) l s=o:=fun o=>Qs hm
 have pp:∀o q,Am.put (Am.put m l s o) l s q=Am.put m l s q:=fun o q=>put_put
 have hpl:∀o,l+1<(Am.put m l s o).length+1:=fun o=>qK
 have ls:=XP v;have lr:=JI v;have hwo:=Ph o;simp only[Qu,PO.cells]at hwo;rw[Qd v];refine wG Tryz.func285 ?_;simp only[eK,Tryz.f285,seval];simp only[Qm,Qu,PG.cells,PO.cells,eE,seval];refine QO (F8 P c (l+1) s _ hs0 1) xF ?_;rintro x m1 ⟨rfl,rfl⟩ _;unfold Kz;rcases K3 c 1 with⟨c1,h1,h1'⟩|⟨e,he,h1,h1'⟩
 case inr=>
  rw[h1,h1'];simp only[Xa he,QY,eE,seval];exact⟨he,v,_,wO,rfl⟩
 rw[h1,h1'];obtain⟨a1,_⟩:=Zm hc xw h1;have hc1:=a1.ci hc;dsimp only;simp only[eE,seval];refine aC hwo ?_;refine QO (QeE P c1 (l+1) s _ vr (lp _) hc1 (wk o.kind)) xF ?_;intro x m1 hx _;cases hr:Ka (wk o.kind) c1 with
 |error e=>
  rw[hr]at hx;obtain⟨he,a,c',rfl,rfl⟩:=hx;dsimp only;simp only[Xa he,R.av,pp,QY,eE,seval];exact⟨he,v,c',wO,rfl⟩
 |ok p=>
 obtain⟨f,d⟩:=p;rw[hr]at hx;obtain⟨rfl,rfl⟩:=hx;obtain⟨b1,_,b3,b4⟩:=Dt hc1 hr;have hd:=b1.ci hc1;have hsc:=QeH P hP o f b3;have e0:P.av=.agg [.list (P.progs.map Qm),.list (P.enums.map QC)]:=rfl;dsimp only;generalize Zi P o.kind o.target f=q at hsc ⊢;obtain⟨x,e⟩:=q;simp only[Yw,e0,Qu,PO.cells,R.av,Qd x]at hsc;simp only[R.av,Xi,lp,pp,sh2,eE,seval];refine aC hsc ?_;by_cases h16:e=16
 ·subst h16;rw[Qlv rfl];have ha:=QeB v ⟨o.num,0,f.bits,[]⟩ xw;have e16:(((16:Nat):Int)==16)=true:=rfl;rw[Qd v,Qd (HE v _)]at ha;simp only[R.av]at ha;simp only[WL,eE,seval];refine aC ha ?_;simp only[QY,eE,seval];exact⟨by rw[Qd (HE v _)],rfl⟩
 have e16:((e:Int)==16)=false:=qg
 rw[Qlu h16];by_cases h0:e=0
 case neg=>
  rw[Qlu h0];simp only[e16,Xa h0,QY,eE,seval];exact⟨h0,v,d,wO,rfl⟩
 subst h0;rw[Qlv rfl];have hset:=fun y=>Ts g v o y hg xw
 rw[Qd v]at hset;simp only[Qm,Qu,PG.cells,PO.cells]at hset;by_cases h4:o.card=4
 case neg=>
  have b4':(o.card != 4)=true:=kR
  have hx:=hset x;rw[Qd x,Qd (Zl g v o x)]at hx;rw[Qlu h4];simp only[b4',WL,eE,seval];refine aC hx ?_;simp only[QY,eE,seval];exact⟨by rw[Qd (Zl g v o x)],rfl⟩
 have b4':(o.card != 4)=false:=kR
 have hfd:=Pi v o.num xw;have hlo:=QeA (Q2 v o.num) x (by have:=D8 v o.num;have:=ZO (Q2 v o.num);omega);have hx:=hset (XG ((Q2 v o.num).list++[x]));rw[Qlv h4];generalize Zl g v o (XG ((Q2 v o.num).list++[x]))=w at hx ⊢;generalize XG ((Q2 v o.num).list++[x])=y at hx hlo;generalize Q2 v o.num=z at hfd hlo;rw[Qd v,Qd z]at hfd;rw[Qd z,Qd x,Qd y]at hlo;rw[Qd y,Qd w]at hx;simp only[b4',WL,eE,seval];refine aC hfd ?_;cases hf:(XY v o.num).isSome
 ·simp only[QlH,eE,seval];refine QO (F8 P d (l+1) s _ (lp _) 1) xF ?_;rintro x m1 ⟨rfl,rfl⟩ _;rcases K3 d 1 with⟨c2,h2,h2'⟩|⟨e,he,h2,h2'⟩
  case inr=>
   rw[h2,h2'];exact zw
  rw[h2,h2'];dsimp only;simp only[pp,eE,seval];exact yW
 ·simp only[eE,seval];exact yW

variable {K n:Nat}{rec:Int→V→C→Rd V}(hrec:F9 P M K n rec)

include hrec hm hs hc in
theorem QeJ {t:Int}(ht:0≤t∧t<(P.progs.length:Int))(b:V)(k:Int)(hk0:0≤k)(hcn:c.left≤n)(hbm:1≤n→MW P n (Qg P t) b)(hbo:b.ok M)(hb:(b.cnt:Int)+3*c.left≤K) :
  Qe Tryz.prog 334 [.ptr l s 0,.int .i64 t,b.av,.int .i64 k] m (Rt P l s m V.av (WK rec t b k c)):=by
 have hs0:=hs;have lp:∀o,Am.Qc (Am.put m l s o) l s=o:=fun o=>Qs hm
 have pp:∀o q,Am.put (Am.put m l s o) l s q=Am.put m l s q:=fun o q=>put_put
 have hpl:∀o,l+1<(Am.put m l s o).length+1:=fun o=>qK
 have hrec':=fun(fr:Nat→Ob) (o:Ob) (i:C) (h:o=Xi P i) (h1:CI i) (h2:i.left<n) (h3:1≤n) (h4:(b.cnt:Int)+3*i.left≤K)=>hrec (l+1) s (fr :: Am.put m l s o) t b i (hpl _) (by rw[←h];exact lp _) h1 h2 ht (hbm h3) hbo h4
 rw[Qd b];rw[Qd b]at hrec';refine wG Tryz.func334 ?_;simp only[eK,Tryz.f334,seval];simp only[eE,seval];refine QO (Tt P c (l+1) s _ (Nat.succ_lt_succ hm) hs0 hc) xF ?_;intro x m1 hx _;unfold WK;cases hr:ZU c with
 |error e=>
  rw[hr]at hx;obtain⟨he,a,c',rfl,rfl⟩:=hx;dsimp only;simp only[Xa he,QY,eE,seval];exact⟨he,b,c',by rw[Qd b],rfl⟩
 |ok p=>
 obtain⟨q,d⟩:=p;obtain⟨a1,a2⟩:=Kn hc hr;have hd:=a1.ci hc;have hl1:=a1.lt hc;have hdb:=hd.bd;rw[hr]at hx;obtain⟨rfl,rfl⟩:=hx;have hen:=Gq hd a2;have cen:=Qjg d q hd.big';dsimp only;generalize enter d q=r at hen cen ⊢;obtain⟨i,e⟩:=r;dsimp only at hen;simp only[Hw,C.av]at cen;simp only[Xi,lp,JA,Jj,eE,seval];refine aC cen ?_;by_cases he:e=0
 case neg=>
  rw[Qlu he];simp only[Xa he,lp,pp,Jj,QY,eE,seval];exact⟨he,b,i,by rw[Qd b],rfl⟩
 subst he;rw[Qlv rfl];obtain⟨e1,e2,e3⟩:=hen rfl;simp only[lp,pp,Jj,eE,seval];refine QO (F8 P i (l+1) s _ (lp _) k) xF ?_;rintro x m1 ⟨rfl,rfl⟩ _;rcases K3 i k with⟨j,h2,h2'⟩|⟨e,he,h2,h2'⟩
 case inr=>
  rw[h2,h2'];dsimp only;simp only[Xa he,pp,QY,eE,seval];exact⟨he,b,_,by rw[Qd b],rfl⟩
 rw[h2,h2'];obtain⟨s1,s2⟩:=Zm e2 hk0 h2;have hls:=(s1.left e2).2.2;have hj:=s1.ci e2;have hjb:=hj.bd;dsimp only;simp only[pp,eE,seval];refine QO (hrec' _ _ j rfl hj xw xw xw) xF ?_;intro x m1 hx _;cases hr2:rec t b j with
 |error e=>
  rw[hr2]at hx;obtain⟨he,w,c',rfl,rfl⟩:=hx;dsimp only;simp only[Xa he,Qd w,pp,QY,eE,seval];exact⟨he,b,c',by rw[Qd b],rfl⟩
 |ok p=>
 obtain⟨w,j2⟩:=p;rw[hr2]at hx;obtain⟨rfl,rfl⟩:=hx;have clv:=Qjh d j2;dsimp only;generalize Yb d j2=y at clv ⊢;simp only[C.av]at clv;simp only[Qd w,Xi,lp,pp,JA,eE,seval];refine aC clv ?_;simp only[lp,pp,Jj,QY,eE,seval];exact⟨qd,rfl⟩

end

def Pj (v:V)(c:C)(r:Rd V):V×C×Nat:=match r with
 |.ok (w,d)=>(w,d,0)
 |.error e=>(v,c,e)
theorem QeK (v:V)(c:C)(e:Nat):Pj v c (.error e)=(v,c,e):=rfl

def Gt (rec:Int→V→C→Rd V):Prop:=∀(t:Int) (v:V) (c:C) (e:Nat),rec t v c=.error e→e≠0
theorem Tv {c:C}{n:Int}{e:Nat}(h:spd c n=.error e):e≠0:=by
 unfold spd at h;split at h
 ·cases h
 ·exact ye
theorem QfP {w:Int}{c:C}{e:Nat}(h:Ka w c=.error e):e≠0:=by
 rw[RU]at h;split at h
 ·cases h
 ·exact ye
section
variable {rec:Int→V→C→Rd V}(hre:Gt rec)
include hre
theorem Tw {t:Int}{b:V}{k:Int}{c:C}{e:Nat}(h:WK rec t b k c=.error e):e≠0:=by
 unfold WK at h;split at h
 ·rename_i h1;cases h;exact Ck h1
 ·split at h
  ·split at h
   ·rename_i h1;cases h;exact Tv h1
   ·split at h
    ·rename_i h1;cases h;exact hre _ _ _ _ h1
    ·cases h
  ·exact ye
theorem Qct {g:PG}{v:V}{o:PO}{c:C}{e:Nat}(h:KJ rec g v o c=.error e):e≠0:=by
 unfold KJ at h;split at h<;>split at h
 ·rename_i h1;cases h;exact Tw hre h1
 ·cases h
 ·rename_i h1;cases h;exact Tw hre h1
 ·cases h
end

section
variable {M K n:Nat}{rec:Int→V→C→Rd V}(P:PL)(o:PO){c:C}(hc:CI c)(hcn:c.left≤n)

variable (g:PG)(hg:g.ops.length≤maxLen)(v:V)(hv:(v.cnt:Int)+3*c.left≤K)(hK:K≤1000000)(hvo:v.ok M)(hun : -1≤o.union)(hre:Gt rec)(hb1:(1:Int)+3*c.left≤K)

end
end Go.Proofs.YtmlohboeoeoamaaGreatDoor.Va

namespace Go.Proofs.YtmlohboeoeoamaaGreatDoor.Va
open Go Am Rc Bt Br Up So

theorem VU {P:Program}{K:St→Prop}{its:List Am.Item}{f:Fr}{m:Qk}{ds:List DF}{d:Nat}{sz bytes el:Nat}{s r:RA}{site g n site' g' n':Nat}{fr:Nat→Ob}{xs ys:List AV}(hs:s.ev f=.vec 0 site g 0 n false)(hl:fr site=.vec g sz xs)(ht:Zk site el=true)(hn:n=xs.length)
  (hr:r.ev f=.vec 0 site' g' 0 n' false) (hr2:fr site'=.vec g' sz ys) (hn':n'=ys.length) (hz:ys.all (fun e=>e.cells.length==sz)=true) (hm:n+ys.length≤maxLen) (hb:(n+ys.length)*bytes≤140737488355328)
  (h:QD P its ⟨QJ f d (.vec 0 site (g+1) 0 (n+ys.length) false),QJ fr site (.vec (g+1) sz (xs++ys)) :: m,ds⟩ K):QD P (⟨some d,.app sz bytes el s r,none⟩ :: its) ⟨f,fr :: m,ds⟩ K:=by
 refine⟨0,site,g,n,xs,ys,hs,hl,ht,xw,?_,hz,hm,hb,?_⟩
 ·show Q1 (fr :: m) (r.ev f)=some ys;rw[hr];exact WF hr2 hn'
 ·subst hn;rw[Qm5];exact h

theorem Qcu {cL:RC}(l O:List R)(i:Nat)(x:R)(hx:l[i]? = some x)(hO:O.length≤maxLen)(hs:ZC (fun x y:R=>decide (x.num<y.num)) O)(fr:Nat→Ob)(f:Fr)(h0:f 0=.list (l.map R.av))(h3:f 3=.list (O.map R.av))(h4:f 4=.int .i64 (i:Nat))(h5:f 5=.int .i64 (O.length:Nat))(Q:Exit→St→Prop)
  (q:∀(t:Nat) (f:Fr),t≤O.length→(∀j u,t≤j→O[j]? = some u→decide (x.num<u.num)=true)→(∀j u,j<t→O[j]? = some u→decide (x.num<u.num)=false)→f 0=.list (l.map R.av)→f 3=.list (O.map R.av)→f 4=.int .i64 (i:Nat)→f 5=.int .i64 (t:Nat)→Q (.exit 2) (⟨f,[fr],[]⟩:St)) (hcL:lp 25 1 Tryz.f25=cL:=by simp only[eL,eK,Tryz.f25,seval]) :
  QU Tryz.prog (.loop cL) ⟨f,[fr],[]⟩ Q:=by
 subst hcL;simp only[eL,eK,Tryz.f25,seval]
 let I:Nat→St→Prop:=fun k st=>∃f t,st=⟨f,[fr],[]⟩∧k=t∧t≤O.length∧(∀j u,t≤j→O[j]? = some u→decide (x.num<u.num)=true)∧f 0=.list (l.map R.av)∧f 3=.list (O.map R.av)∧f 4=.int .i64 (i:Nat)∧f 5=.int .i64 (t:Nat)
 refine Qi I _ ⟨f,O.length,rfl,rfl,Qlk _,(by intro j u hj hu;rw[QmO hj]at hu;cases hu),h0,h3,h4,h5⟩ ?_;clear h0 h3 h4 h5;rintro t st ⟨f,_,rfl,rfl,ht,hv,h0,h3,h4,h5⟩;have hxa:=Hm hx;simp only[h5,Qa,seval];cases t with
 |zero=>
  have d1:decide (((0:Nat):Int) > 0)=false:=xA
  simp only[Qa,seval];exact q 0 _ (Qlx _) hv (fun j u hj=>xw) xO xM xR xN
 |succ r=>
  obtain⟨u,hu⟩:∃u,O[r]? = some u:=⟨O[r]' xw,Qln xw⟩;have hua:=Hm hu;have d1:decide (((r+1:Nat):Int) > 0)=true:=xY
  have e2:IntKind.i64.wrap (((r+1:Nat):Int)-1)=((r:Nat):Int):=by
   simp only[maxLen]at hO;rw[QA];omega
  simp only[d1,e2,Qp,QmS,Qf,hxa,hua,h0,h3,h4,h5,eE,seval];cases hcx:decide (u.num > x.num)
  ·simp only[Qa,seval];refine q (r+1) _ ht hv (fun j u' hj hu'=>?_) xO xM xR xN;have:=YJ hs N9 (show j≤r by omega) hu' hu;exact N9.nt x u u' hcx this
  ·simp only[e2,h5,Qa,seval];exact⟨r,xw,_,r,rfl,rfl,xw,(by
    intro j v hj hv';rcases Nat.lt_or_eq_of_le hj with h|h
    ·exact hv j v h hv'
    ·subst h;rw[hu]at hv';cases hv';exact hcx),xO,xM,xR,xx⟩

def RwI (l:List R)(k:Nat)(st:St):Prop :=
 ∃f fr i,st=⟨f,[fr],[]⟩∧k=l.length-i∧i≤l.length∧f 0=.list (l.map R.av)∧f 3=.list ((ZA (l.take i)).map R.av)∧f 4=.int .i64 (i:Nat)∧Qn (fr 37)=true∧Qn (fr 42)=true

set_option maxHeartbeats 1000000 in
theorem v25 (l:List R)(hn:l.length≤1048576):Qh Tryz.prog 25 [.list (l.map R.av)] (.list ((ZA l).map R.av)):=by
 refine wF Tryz.func25 ?_;simp only[eK,Tryz.f25,seval];simp only[Qa,seval];refine CZ xz ?_;simp only[Qa,seval];refine Qi (RwI l) _ ⟨_,_,0,rfl,rfl,Qlx _,xx,rfl,xx,rfl,rfl⟩ ?_;rintro _ st ⟨f,fr,i,rfl,rfl,hil,h0,h3,h4,r37,r42⟩;simp only[Qmj,h0,h4,Qa,seval];by_cases hlt:i<l.length
 ·obtain⟨x,hi⟩:∃x,l[i]? = some x:=⟨l[i],Qln hlt⟩;have hxa:=Hm hi;have e1:=Qr i _ hlt xC;have hp:(ZA (l.take i)).Perm (l.take i):=QX _;have hO:(ZA (l.take i)).length=i:=by rw[hp.length_eq,Qml];omega
  clear hp;have hstep:ZA (l.take (i+1))=mg (fun x y:R=>decide (x.num<y.num)) (ZA (l.take i)) [x]:=by
   rw[Qng,hi,Qnh];exact(Ys N9 (l.take i) [x]).symm
  have hsrt:ZC (fun x y:R=>decide (x.num<y.num)) (ZA (l.take i)):=Zh N9 _;generalize ZA (l.take i)=O at *;simp only[QB hlt,Qmj,h3,Qa,seval];refine Qcu l O i x hi xC hsrt fr _ xO xM xR xx _ (fun t f ht hv hlow h0 h3 h4 h5=>?_);have hfin:(O.take t).map R.av++([x.av]++(O.drop t).map R.av)=(ZA (l.take (i+1))).map R.av:=by
   have:=UB (lt:=fun x y:R=>decide (x.num<y.num)) (y:=x) (X1:=O.take t) (X2:=O.drop t) (fun u hu=>by
    obtain⟨j,hj⟩:=QnN hu;rw[Ql3]at hj;split at hj
    ·rename_i hjt;exact hlow j u hjt hj
    ·cases hj) (fun u hu=>by
    obtain⟨j,hj⟩:=QnN hu;rw[Ql4]at hj;exact hv _ u xw hj)
   rw[QmH]at this;rw[hstep,this];simp
  have hle:(t≤O.length)=True:=eq_true ht;have hdt:∀l':List AV,l'.length=O.length→(l'.drop t).take (O.length-t)=l'.drop t:=fun l' h=>QlY qE
  have hd1:((O.drop t).map R.av).length=i-t:=by rw[Qmj,Ql5];omega
  have hd2:((O.take t).map R.av).length=t:=jR
  have hT:∀j,i+1≤j→List.take j ((O.take t).map R.av++([x.av]++(O.drop t).map R.av))=(ZA (l.take (i+1))).map R.av:=fun j hj=>by
   rw[QlY jJ,hfin]
  simp only[Qp,QmS,Qf,hxa,h0,h4,eE,seval];refine BF (l:=[.int .i64 x.num,.int .i64 x.wire,.int .u64 (x.bits:Nat),.str x.data]) rfl rfl xy rfl rfl r37 ?_;simp only[nn0,QlW,Qmq,Qmj,Js,Xo,Qm4,Qp,QmS,hle,Qlk,or_true,Jo,hdt _ (Qmj ..),h3,h5,Qa,seval];refine QF (site:=37) (g:=XB (fr 37)) (n:=1) (xs:=[x.av]) (ys:=(O.drop t).map R.av) xz (by simp only[R.av,Qa,seval]) rfl rfl (by simp only[List.map_drop,Qa,seval]) (Jo _) (by rw[hd1];simp only[maxLen];omega) (by rw[hd1];omega) ?_;simp only[Qa,seval];refine Z4 (by simp only[Qa,seval];exact r42) ?_;simp only[Qmj,Js,Jc,Xo,Qm4,Qp,QmS,Qlx,Qlk,hle,true_or,Qmn,Ql6,←List.map_take,h3,h5,Qa,seval];refine QF (site:=42) (g:=_) (n:=0) (xs:=[]) (ys:=(O.take t).map R.av) xJ xz rfl rfl xz (Jo _) (by rw[hd2];simp only[maxLen];omega) (by rw[hd2];omega) ?_;simp only[Qa,seval];refine VU (site:=42) (g:=_) (n:=0+((O.take t).map R.av).length) (xs:=(O.take t).map R.av) (ys:=[x.av]++(O.drop t).map R.av) xJ xz rfl xw xJ xz (by simp only[Ql2,QlD,Qmk,Qmj]<;>omega) (Jo (x :: O.drop t)) qI jJ ?_;simp only[Qa,seval];refine DN (site:=42) (g:=_) (sz:=4) (n:=_) (xs:=(O.take t).map R.av++([x.av]++(O.drop t).map R.av)) xJ xz jJ ?_;rw[hT];rotate_left
  ·simp only[hd1,hd2];omega
  simp only[e1,h4,Qa,seval];exact⟨l.length-(i+1),xw,_,_,i+1,rfl,rfl,xw,xO,xx,xx,rfl,rfl⟩
 ·have hli:l.take i=l:=QlY xw;rw[hli]at h3;exact xe

theorem QeL (k:Int)(a b:V)(_ha:a.bits<18446744073709551616)(_hb:b.bits<18446744073709551616):decide (Fz k a.bits a.text b.bits b.text<0)=kl k a b:=by
 unfold Fz kl;split
 ·exact QaZ _ _
 ·rw[Cf];unfold Yh;split
  ·rw[decide_eq_decide,ZM,ZM,QA,QA];omega
  ·rfl

section
variable {P:PL}{k:Int}(hk:XT k)(ps:List (V×V))(hn:ps.length≤1048576)(h1:∀p∈ps,p.1.kx P k)(hb:∀p∈ps,p.1.bits<18446744073709551616)

include hk in
theorem Pk {p q:V×V}(hp:p.1.kx P k)(hq:q.1.kx P k):Qh Tryz.prog 106 [p.1.av,q.1.av] (.int .i64 (Fz k p.1.bits p.1.text q.1.bits q.1.text)):=by
 have h:=Qix k hk p.1.bits q.1.bits p.1.text q.1.text;rw[←(KD hp).1,←(KD hq).1]at h;exact h

theorem EM {cL:RC}(hk:XT k)(hn:ps.length≤1048576)(h1:∀p∈ps,p.1.kx P k)(hb:∀p∈ps,p.1.bits<18446744073709551616)(hu:ps.Pairwise fun q p=>XE q.1 p.1=false)(O:List (V×V))(i:Nat)(x:V×V)(hx:ps[i]? = some x)(fr:Nat→Ob)(f:Fr)(h0:f 0=.list (ps.map V.pav))(h3:f 3=.list (O.map V.pav))(h4:f 4=.int .i64 (i:Nat))(h5:f 5=.bool true)(h6:f 6=.int .i64 ((i+1:Nat):Int))(Q:Exit→St→Prop)
  (q:∀f:Fr,f 0=.list (ps.map V.pav)→f 3=.list (O.map V.pav)→f 4=.int .i64 (i:Nat)→f 5=.bool true→Q (.exit 2) (⟨f,[fr],[]⟩:St)) (hcL:lp 60 1 Tryz.f60=cL:=by simp only[eL,eK,Tryz.f60,seval]) :
  QU Tryz.prog (.loop cL) ⟨f,[fr],[]⟩ Q:=by
 subst hcL;simp only[eL,eK,Tryz.f60,seval]
 let I:Nat→St→Prop:=fun n st=>∃f j,st=⟨f,[fr],[]⟩∧n=ps.length-j∧i<j∧f 0=.list (ps.map V.pav)∧f 3=.list (O.map V.pav)∧f 4=.int .i64 (i:Nat)∧f 5=.bool true∧f 6=.int .i64 (j:Nat)
 refine Qi I _ ⟨f,i+1,rfl,rfl,xw,h0,h3,h4,h5,h6⟩ ?_;clear h0 h3 h4 h5 h6;rintro _ st ⟨f,j,rfl,rfl,hij,h0,h3,h4,h5,h6⟩;simp only[Qmj,h0,h6,Qa,seval];by_cases hlt:j<ps.length
 ·obtain⟨y,hj⟩:∃y,ps[j]? = some y:=⟨ps[j],Qln hlt⟩;have hgx:=Ky hx;have hgy:=Ky hj;have e1:=Qr j _ hlt xC;have hxm:=QlC hx;have hym:=QlC hj;have c1:=Pk hk (h1 x hxm) (h1 y hym);have hne:Fz k x.1.bits x.1.text y.1.bits y.1.text≠0:=by
   have h:=Qb1 hk (h1 x hxm) (h1 y hym) (hb x hxm) (hb y hym);rw[QnE]at hu;have:=hu i j (Qlm.1 hx).1 hlt hij;rw[(Qlm.1 hx).2,(Qlm.1 hj).2]at this;rw[this]at h
   simpa using h
  have d1:(Fz k x.1.bits x.1.text y.1.bits y.1.text != 0)=true:=by simp[hne]
  rw[Qd,Qd]at c1;simp only[QB hlt,Qp,QmS,Qf,hgx,hgy,QlX,Qmy,Ql6,h0,h4,h5,h6,eE,seval];refine aC c1 ?_;simp only[d1,h6,e1,Qa,seval];exact⟨ps.length-(j+1),xw,_,j+1,rfl,rfl,xw,xO,xM,xR,xx,xx⟩
 ·simp only[QI hlt,Qa,seval];exact q _ xO xM xR xN

theorem Tx {cL:RC}(hk:XT k)(O:List (V×V))(hO:O.length≤1048576)(hO1:∀p∈O,p.1.kx P k)(hOb:∀p∈O,p.1.bits<18446744073709551616)(i:Nat)(x:V×V)(hx:ps[i]? = some x)(hx1:x.1.kx P k)(hxb:x.1.bits<18446744073709551616)(fr:Nat→Ob)(f:Fr)(h0:f 0=.list (ps.map V.pav))(h3:f 3=.list (O.map V.pav))(h4:f 4=.int .i64 (i:Nat))(h7:f 7=.int .i64 0)(Q:Exit→St→Prop)
  (q:∀(t:Nat) (f:Fr),t≤O.length→(∀j u,j<t→O[j]? = some u→kl k u.1 x.1=true)→(∀u,O[t]? = some u→kl k u.1 x.1=false)→f 0=.list (ps.map V.pav)→f 3=.list (O.map V.pav)→f 4=.int .i64 (i:Nat)→f 7=.int .i64 (t:Nat)→Q (.exit 4) (⟨f,[fr],[]⟩:St)) (hcL:lp 60 2 Tryz.f60=cL:=by simp only[eL,eK,Tryz.f60,seval]) :
  QU Tryz.prog (.loop cL) ⟨f,[fr],[]⟩ Q:=by
 subst hcL;simp only[eL,eK,Tryz.f60,seval]
 let I:Nat→St→Prop:=fun n st=>∃f t,st=⟨f,[fr],[]⟩∧n=O.length-t∧t≤O.length∧(∀j u,j<t→O[j]? = some u→kl k u.1 x.1=true)∧f 0=.list (ps.map V.pav)∧f 3=.list (O.map V.pav)∧f 4=.int .i64 (i:Nat)∧f 7=.int .i64 (t:Nat)
 refine Qi I _ ⟨f,0,rfl,rfl,Qlx _,(by intro j u hj;omega),h0,h3,h4,h7⟩ ?_;clear h0 h3 h4 h7;rintro _ st ⟨f,t,rfl,rfl,ht,hv,h0,h3,h4,h7⟩;simp only[Qmj,h3,h7,Qa,seval];by_cases hlt:t<O.length
 ·obtain⟨u,hu⟩:∃u,O[t]? = some u:=⟨O[t],Qln hlt⟩;have hgx:=Ky hx;have hgu:=Ky hu;have hum:=QlC hu;have e1:=Qr t _ hlt xC;have c1:=Pk hk (hO1 u hum) hx1;have hc:=QeL k u.1 x.1 (hOb u hum) hxb;rw[Qd,Qd]at c1;simp only[QB hlt,Qp,QmS,Qf,hgx,hgu,QlX,Qmy,Ql6,h0,h3,h4,h7,eE,seval];refine aC c1 ?_;cases hl:kl k u.1 x.1
  ·rw[hl]at hc;simp only[hc,Qa,seval];exact q t _ xw hv (fun u' hu'=>by rw[hu]at hu';cases hu';exact hl) xO xM xR xZ
  ·rw[hl]at hc;simp only[hc,h7,e1,Qa,seval];exact⟨O.length-(t+1),xw,_,t+1,rfl,rfl,xw,(by
    intro j u' hj hu';rcases Nat.lt_or_eq_of_le (show j≤t by omega)with h|h
    ·exact hv j u' h hu'
    ·subst h;rw[hu]at hu';cases hu';exact hl),xO,xM,xR,xx⟩
 ·simp only[QI hlt,Qa,seval];exact q t _ ht hv (fun u hu=>by rw[QmO xw]at hu;cases hu) xO xM xR xZ

end

theorem Pl {k:Int}{P:PL}{a b:V}(ha:a.kx P k)(hb:b.kx P k)(ba:a.bits<18446744073709551616)(bb:b.bits<18446744073709551616)(h1:kl k a b=false)(h2:XE a b=false):kl k b a=true:=by
 obtain⟨_,a1,a2⟩:=KD ha;obtain⟨_,b1,b2⟩:=KD hb;cases hc:kl k b a with
 |true=>rfl
 |false=>
  exfalso;unfold kl at h1 hc;unfold XE at h2;split at h1
  ·rename_i ht;rw[Qlv ht]at hc;have e:=Dj h1 hc;have e1:=a1 ht;have e2:=b1 ht;rw[e,show a.bits=b.bits by omega]at h2;simp at h2
  ·rename_i ht;rw[Qlu ht]at hc;have ht:Zp k=false:=qH
   rw[a2 ht,b2 ht]at h2;split at h1
   ·rename_i hs;rw[Qlv hs]at hc;simp only[Qns]at h1 hc;rw[QA,QA]at h1 hc;rw[show a.bits=b.bits by omega]at h2;simp at h2
   ·rename_i hs;rw[Qlu hs]at hc;simp only[Qns]at h1 hc;rw[show a.bits=b.bits by omega]at h2;simp at h2

def PwI (k:Int)(ps:List (V×V))(n:Nat)(st:St):Prop :=
 ∃f fr i,st=⟨f,[fr],[]⟩∧n=ps.length-i∧i≤ps.length∧f 0=.list (ps.map V.pav)∧f 3=.list ((Q0 k (ps.take i)).map V.pav)∧f 4=.int .i64 (i:Nat)∧Qn (fr 63)=true∧Qn (fr 68)=true

set_option maxHeartbeats 1000000 in
theorem v60 {P:PL}{k:Int}(hk:XT k)(ps:List (V×V))(hn:ps.length≤1048576)(h1:∀p∈ps,p.1.kx P k)(hb:∀p∈ps,p.1.bits<18446744073709551616)(hu:ps.Pairwise fun q p=>XE q.1 p.1=false):Qh Tryz.prog 60 [.list (ps.map V.pav)] (.list ((Q0 k ps).map V.pav)):=by
 refine wF Tryz.func60 ?_;simp only[eK,Tryz.f60,seval];simp only[Qa,seval];refine CZ xz ?_;simp only[Qa,seval];refine Qi (PwI k ps) _ ⟨_,_,0,rfl,rfl,Qlx _,xx,rfl,xx,rfl,rfl⟩ ?_;rintro _ st ⟨f,fr,i,rfl,rfl,hil,h0,h3,h4,r63,r68⟩;simp only[Qmj,h0,h4,Qa,seval];by_cases hlt:i<ps.length
 ·obtain⟨x,hi⟩:∃x,ps[i]? = some x:=⟨ps[i],Qln hlt⟩;have hxm:=QlC hi;have hxa:=Ky hi;have e1:=Qr i _ hlt xC;have hperm:(Q0 k (ps.take i)).Perm (ps.take i):=QX _;have hO:(Q0 k (ps.take i)).length=i:=by rw[hperm.length_eq,Qml];omega
  have hstep:Q0 k (ps.take (i+1))=mg (fun x y:V×V=>kl k x.1 y.1) (Q0 k (ps.take i)) [x]:=by
   rw[Qng,hi,Qnh];exact(Ys (KE k) (ps.take i) [x]).symm
  have hsrt:ZC (fun x y:V×V=>kl k x.1 y.1) (Q0 k (ps.take i)):=Zh (KE k) _;have hOm:∀p∈Q0 k (ps.take i),p∈ps:=fun p hp=>Qmc (hperm.mem_iff.1 hp)
  have hOk:∀p∈Q0 k (ps.take i),XE p.1 x.1=false:=by
   intro p hp;obtain⟨j,hj⟩:=QlA.1 (hperm.mem_iff.1 hp);have hjl:=(Qlm.1 hj).1;rw[Qml]at hjl;rw[Ql3,Qlv xw]at hj;rw[QnE]at hu;have:=hu j i xw hlt xw;rw[(Qlm.1 hj).2,(Qlm.1 hi).2]at this;exact this
  generalize Q0 k (ps.take i)=O at *;simp only[QB hlt,e1,h4,Qa,seval];refine EM ps hk hn h1 hb hu O i x hi fr _ xO xM xR xx xx _ (fun f h0 h3 h4 h5=>?_);simp only[h5,Qa,seval];refine Tx (P:=P) ps hk O xw (fun p hp=>h1 p (hOm p hp)) (fun p hp=>hb p (hOm p hp)) i x hi (h1 x hxm) (hb x hxm) fr _ xO xM xR xx _ (fun t f ht hlow hup h0 h3 h4 h7=>?_);have hfin:(O.take t).map V.pav++([V.pav x]++(O.drop t).map V.pav)=(Q0 k (ps.take (i+1))).map V.pav:=by
   have:=UB (lt:=fun x y:V×V=>kl k x.1 y.1) (y:=x) (X1:=O.take t) (X2:=O.drop t) (fun u hu=>by
    obtain⟨j,hj⟩:=QnN hu;rw[Ql3]at hj;split at hj
    ·rename_i hjt;exact(KE k).as (hlow j u hjt hj)
    ·cases hj) (fun u hu'=>by
    obtain⟨j,hj⟩:=QnN hu';rw[Ql4]at hj;have hum:=QlC hj;refine Pl (h1 u (hOm u hum)) (h1 x hxm) (hb u (hOm u hum)) (hb x hxm) ?_ (hOk u hum);obtain⟨w,hw⟩:∃w,O[t]? = some w:=⟨O[t]'(by have:=(Qlm.1 hj).1;omega),Qln _⟩;have h2:=YJ hsrt (KE k) (Nat.le_add_right t j) hw hj;exact(KE k).nt u w x h2 (hup w hw))
   rw[QmH]at this;rw[hstep,this];simp
  have hle:(t≤O.length)=True:=eq_true ht;have hdt:∀l':List AV,l'.length=O.length→(l'.drop t).take (O.length-t)=l'.drop t:=fun l' h=>QlY qE
  have hd1:((O.drop t).map V.pav).length=i-t:=by rw[Qmj,Ql5];omega
  have hd2:((O.take t).map V.pav).length=t:=jR
  have hT:∀j,i+1≤j→List.take j ((O.take t).map V.pav++([V.pav x]++(O.drop t).map V.pav))=(Q0 k (ps.take (i+1))).map V.pav:=fun j hj=>by
   rw[QlY jJ,hfin]
  simp only[Qp,QmS,Qf,hxa,QlX,Ql6,h0,h4,eE,seval];refine BF (l:=[.int .i64 x.1.kd,.int .u64 (x.1.bits:Nat),.str x.1.text,.list (x.1.list.map V.av),.list (x.1.pairs.map V.pav),.list (x.1.slots.map V.sav),.list (x.1.raws.map R.av),.int .i64 x.2.kd,.int .u64 (x.2.bits:Nat),.str x.2.text,.list (x.2.list.map V.av),.list (x.2.pairs.map V.pav),.list (x.2.slots.map V.sav),.list (x.2.raws.map R.av)]) rfl rfl xy rfl rfl r63 ?_;simp only[nn0,QlW,Qmq,Qmj,Js,Xo,Qm4,Qp,QmS,hle,Qlk,or_true,JN,hdt _ (Qmj ..),h3,h7,Qa,seval];refine QF (site:=63) (g:=XB (fr 63)) (n:=1) (xs:=[V.pav x]) (ys:=(O.drop t).map V.pav) xz (by simp only[Z1,Qa,seval]) rfl rfl (by simp only[List.map_drop,Qa,seval]) (JN _) (by rw[hd1];simp only[maxLen];omega) (by rw[hd1];omega) ?_;simp only[Qa,seval];refine Z4 (by simp only[Qa,seval];exact r68) ?_;simp only[Qmj,Js,Jc,Xo,Qm4,Qp,QmS,Qlx,Qlk,hle,true_or,Qmn,Ql6,←List.map_take,h3,h7,Qa,seval];refine QF (site:=68) (g:=_) (n:=0) (xs:=[]) (ys:=(O.take t).map V.pav) xJ xz rfl rfl xz (JN _) (by rw[hd2];simp only[maxLen];omega) (by rw[hd2];omega) ?_;simp only[Qa,seval];refine VU (site:=68) (g:=_) (n:=0+((O.take t).map V.pav).length) (xs:=(O.take t).map V.pav) (ys:=[V.pav x]++(O.drop t).map V.pav) xJ xz rfl xw xJ xz (by simp only[Ql2,QlD,Qmk,Qmj]<;>omega) (JN (x :: O.drop t)) qI jJ ?_;simp only[Qa,seval];refine DN (site:=68) (g:=_) (sz:=14) (n:=_) (xs:=(O.take t).map V.pav++([V.pav x]++(O.drop t).map V.pav)) xJ xz jJ ?_;rw[hT];rotate_left
  ·simp only[hd1,hd2];omega
  simp only[e1,h4,Qa,seval];exact⟨ps.length-(i+1),xw,_,_,i+1,rfl,rfl,xw,xO,xx,xx,rfl,rfl⟩
 ·have hli:ps.take i=ps:=QlY xw;rw[hli]at h3;exact xe

def dl:List (V×V)→List (V×V)
 | []=>[]
 | [x]=>[x]
 |x :: y :: l=>if XE x.1 y.1=true then dl (y :: l)else x :: dl (y :: l)
def We (T:List (V×V)):Nat→List (V×V)
 |0=>[]
 |i+1=>We T i++(match T[i]?,T[i+1]? with
  |some x,some y=>if XE x.1 y.1=true then []else [x]
  |some x,none=>[x]
  |none,_=>[])
theorem Pm (T:List (V×V)):∀i,i≤T.length→dl T=We T i++dl (T.drop i)
 |0,_=>rfl
 |i+1,h=>by
  rw[Pm T i xw,We,Ql7 (by omega:i<T.length),Qln (by omega:i<T.length),QlJ];congr 1
  by_cases hl:i+1<T.length
  ·rw[Ql7 hl,Qln hl];dsimp only;rw[dl];split<;>rfl
  ·rw[Ql1 xw,QmO xw];rfl
theorem Qcv (T:List (V×V)):We T T.length=dl T:=by
 rw[Pm T T.length (Qlk _),List.drop_length];show _=_++[];rw[Qms]
theorem RV (T:List (V×V)):∀i,(We T i).length≤i
 |0=>Qlk _
 |i+1=>by
  have:=RV T i;rw[We,Ql2];have h:(match T[i]?,T[i+1]? with
   |some x,some y=>if XE x.1 y.1=true then []else [x]
   |some x,none=>[x]
   |none,_=>([]:List (V×V))).length≤1:=by
   split
   ·split<;>simp
   ·simp
   ·simp
  omega

theorem EN {k:Int}{a b c:V}(h:XE a b=true):kl k a c=kl k b c∧kl k c a=kl k c b:=by
 unfold XE at h;simp only[QlM,Qls]at h;unfold kl;rw[h.1,h.2];exact⟨rfl,rfl⟩
theorem Pn {k:Int}{a b:V×V}(h:kl k a.1 b.1=true):XE a.1 b.1=false:=by
 cases he:XE a.1 b.1 with
 |false=>rfl
 |true=>
  rw[(EN (k:=k) he).1]at h;have:kl k b.1 b.1=false:=(KE k).irr b;rw[this]at h;cases h

theorem RX {k:Int}:∀ {a b:List (V×V)},(a.Pairwise fun x y=>kl k x.1 y.1=true)→(b.Pairwise fun x y=>kl k x.1 y.1=true)→(∀x,x∈a↔x∈b)→a=b
 | [],[],_,_,_=>rfl
 | [],y :: b,_,_,h=>by have:=(h y).2 xA;cases this
 |x :: a,[],_,_,h=>by have:=(h x).1 xA;cases this
 |x :: a,y :: b,ha,hb,h=>by
  obtain⟨a1,a2⟩:=Qm0.1 ha;obtain⟨b1,b2⟩:=Qm0.1 hb;have irr:∀z:V×V,kl k z.1 z.1=true→False:=fun z hz=>by rw[(KE k).irr z]at hz;cases hz
  have e:x=y:=by
   rcases QmM.1 ((h x).1 xA)with e|e
   ·exact e
   ·rcases QmM.1 ((h y).2 xA)with e'|e'
    ·exact e'.symm
    ·exact(irr x ((KE k).tr x y x (a1 y e') (b1 x e))).elim
  subst e;congr 1
  refine RX a2 b2 fun z=>?_
  have hz:=h z;simp only[QmM]at hz
  constructor
  ·intro hm;rcases hz.1 (.inr hm)with e|e
   ·subst e;exact(irr z (a1 z hm)).elim
   ·exact e
  ·intro hm;rcases hz.2 (.inr hm)with e|e
   ·subst e;exact(irr z (b1 z hm)).elim
   ·exact e

theorem VV {k:Int}:∀ {l:List (V×V)},(l.Pairwise fun x y=>kl k x.1 y.1=true)→dl l=l
 | [],_=>rfl
 | [x],_=>rfl
 |x :: y :: l,h=>by
  obtain⟨h1,h2⟩:=Qm0.1 h;rw[dl,Pn (h1 y xA),Qlu xA,VV h2]
theorem EO {k:Int}{x:V×V}{R:List (V×V)}:∀ {L:List (V×V)},(L.Pairwise fun x y=>kl k x.1 y.1=true)→(∀u∈L,kl k x.1 u.1=false)→dl (L++x :: R)=L.filter (fun q=>!XE q.1 x.1)++dl (x :: R)
 | [],_,_=>rfl
 | [u],_,_=>by
  show dl (u :: x :: R)=_;rw[dl,Qm3];cases XE u.1 x.1<;>rfl
 |u :: v :: L,h,hx=>by
  obtain⟨h1,h2⟩:=Qm0.1 h;have huv:=h1 v xA;have hux:XE u.1 x.1=false:=by
   cases he:XE u.1 x.1 with
   |false=>rfl
   |true=>
    have:=hx v xA;rw[←(EN (k:=k) he).1,huv]at this;cases this
  show dl (u :: v :: (L++x :: R))=_;rw[dl,Pn huv,Qlu xA,Qm3,hux];show u :: dl (v :: L++x :: R)=_;rw[EO h2 fun w hw=>hx w (QlE _ hw)];rfl

theorem VW {k:Int}{x:V×V}:∀ {O:List (V×V)},ZC (fun x y:V×V=>kl k x.1 y.1) O→∃L R,O=L++R∧(∀u∈L,kl k x.1 u.1=false)∧∀u∈R,kl k x.1 u.1=true
 | [],_=>⟨[],[],rfl,(fun _ h=>(nomatch h)),(fun _ h=>(nomatch h))⟩
 |u :: O,h=>by
  obtain⟨h1,h2⟩:=Qm0.1 h;cases hx:kl k x.1 u.1 with
  |true=>
   refine⟨[],u :: O,rfl,(fun _ h=>(nomatch h)),fun w hw=>?_⟩;rcases QmM.1 hw with rfl|hw
   ·exact hx
   ·cases hc:kl k x.1 w.1 with
    |true=>rfl
    |false=>
     have:=(KE k).nt x w u hc (h1 w hw);rw[hx]at this;cases this
  |false=>
   obtain⟨L,R,e,hl,hr⟩:=VW (x:=x) h2;refine⟨u :: L,R,by rw[e];rfl,fun w hw=>?_,hr⟩;rcases QmM.1 hw with rfl|hw
   ·exact hx
   ·exact hl w hw

section
variable {P:PL}{k:Int}
def KF (P:PL)(k:Int)(l:List (V×V)):Prop:=∀p∈l,p.1.kx P k∧p.1.bits<18446744073709551616

theorem VX {l:List (V×V)}(h1:KF P k l)(hs:ZC (fun x y:V×V=>kl k x.1 y.1) l)(hu:l.Pairwise fun q p=>XE q.1 p.1=false):l.Pairwise fun x y=>kl k x.1 y.1=true:=by
 unfold ZC at hs;rw[QnE]at *;intro i j hi hj hij;obtain⟨a1,a2⟩:=h1 _ (Qmg hi);obtain⟨b1,b2⟩:=h1 _ (Qmg hj);exact Pl b1 a1 b2 a2 (hs i j hi hj hij) (by rw[UI];exact hu i j hi hj hij)

theorem RY {A:List (V×V)}{x:V×V}(hA:KF P k A)(hx:x.1.kx P k∧x.1.bits<18446744073709551616)(hu:A.Pairwise fun q p=>XE q.1 p.1=false):dl (Q0 k (A++[x]))=Z2 k A x:=by
 have hO:(Q0 k A).Perm A:=QX _;have hOs:ZC (fun x y:V×V=>kl k x.1 y.1) (Q0 k A):=Zh (KE k) _;have hT:Q0 k (A++[x])=mg (fun x y:V×V=>kl k x.1 y.1) (Q0 k A) [x]:=(Ys (KE k) A [x]).symm;have hOf:KF P k (Q0 k A):=fun p hp=>hA p (hO.mem_iff.1 hp)
 have hOu:(Q0 k A).Pairwise fun q p=>XE q.1 p.1=false:=(hO.pairwise_iff fun {a b} h=>by rw[UI];exact h).2 hu
 have hst:=VX hOf hOs hOu;obtain⟨L,R,e,hl,hr⟩:=VW (k:=k) (x:=x) hOs;rw[hT,e,UB hl hr];rw[e]at hst;obtain⟨hL,hR,hLR⟩:=Qm1.1 hst;have hxR:(x :: R).Pairwise fun x y=>kl k x.1 y.1=true:=Qm0.2 ⟨hr,hR⟩
 rw[EO hL hl,VV hxR];have hmem:∀w,w∈A↔w∈L∨w∈R:=fun w=>by rw[←hO.mem_iff,e,QmJ]
 have hpm:∀w,w∈Z2 k A x↔(w∈A∧XE w.1 x.1=false)∨w=x:=by
  intro w;have hp:(Z2 k A x).Perm _:=QX _;rw[hp.mem_iff,QmJ,QmY,QnC];simp
 refine RX (k:=k) ?_ ?_ ?_
 ·rw[Qm1];refine⟨hL.filter _,hxR,fun u hu' w hw=>?_⟩;obtain⟨u1,u2⟩:=QmY.1 hu';have u2:XE u.1 x.1=false:=by simpa using u2
  rcases QmM.1 hw with rfl|hw
  ·obtain⟨f1,f2⟩:=hA u ((hmem u).2 (.inl u1));exact Pl hx.1 f1 hx.2 f2 (hl u u1) (by rw[UI];exact u2)
  ·exact hLR u u1 w hw
 ·refine VX (P:=P) (fun p hp=>?_) (Zh (KE k) _) (RT hu);rcases(hpm p).1 hp with⟨h,_⟩|rfl
  ·exact hA p h
  ·exact hx
 ·intro w;rw[QmJ,QmY,QmM,hpm,hmem]
  constructor
  ·rintro(⟨h1,h2⟩|h1|h1)
   ·exact .inl ⟨.inl h1,jA⟩
   ·exact .inr h1
   ·exact .inl ⟨.inr h1,by rw[UI];exact Pn (hr w h1)⟩
  ·rintro(⟨h1|h1,h2⟩|h1)
   ·exact .inl ⟨h1,jA⟩
   ·exact .inr (.inr h1)
   ·exact .inr (.inl h1)
end

def PqI (T:List (V×V))(k:Nat)(st:St):Prop :=
 ∃f fr i g h,st=⟨f,[fr],[]⟩∧k=T.length-i∧i≤T.length∧f 3=.vec 0 1000 g 0 T.length false∧f 4=.vec 0 4 h 0 (We T i).length false∧f 11=.vec 0 1000 g 0 T.length false∧f 12=.int .i64 (T.length:Nat)∧f 13=.int .i64 (i:Nat)∧fr 1000=.vec g 14 (T.map V.pav)∧fr 4=.vec h 14 ((We T i).map V.pav)∧∀s∈[6],(fr s).isRow=false

theorem Qa9 {P:PL}{k:Int}(hk:XT k)(ps:List (V×V))(hn:ps.length≤1048576)(h1:∀p∈ps,p.1.kx P k)(hb:∀p∈ps,p.1.bits<18446744073709551616):Qh Tryz.prog 101 [.list (ps.map V.pav)] (.list ((dl (Q0 k ps)).map V.pav)):=by
 have cl:=fun fr hr=>Qd8 (ps.map V.pav) fr [] (JN ps) (by rw[Qmj];exact hn) hr
 have ez:∀x∈ps.map V.pav,Ez (eP P k) 14 x:=by
  exact xj
 have cs:=fun g (m:Qk) (hl:Am.Qc m 0 1000=.vec g 14 (ps.map V.pav))=>Tz.Ti Tg.Es xy (Qd9 (P:=P) hk) 0 1000 g (ps.map V.pav) m hl ez kz
 simp only[MX,Qmj]at cs;have hperm:(Q0 k ps).Perm ps:=QX _;have hlen:(Q0 k ps).length=ps.length:=hperm.length_eq;have h1T:∀p∈Q0 k ps,p.1.kx P k:=fun p hp=>h1 p (hperm.mem_iff.1 hp)
 have hbT:∀p∈Q0 k ps,p.1.bits<18446744073709551616:=fun p hp=>hb p (hperm.mem_iff.1 hp)
 generalize Q0 k ps=T at *;have hdn:=Qcv T;have hdl:=RV T;rw[←hdn];refine wF Tryz.func101 ?_;simp only[eK,Tryz.f101,seval];simp only[Qa,seval];refine Qj (cl _ rfl) xF ?_;simp only[Qmj,Qa,seval];refine Qj (cs _ _ w8) xF ?_;simp only[eE,seval];refine XO xz xz ?_;simp only[eE,seval];refine Qi (PqI T) _ ⟨_,_,0,_,_,rfl,rfl,Qlx _,jL,xx,jL,jL,xx,xx,xx,xS⟩ ?_;rintro _ st ⟨f0,fr0,i,g,h,rfl,rfl,hil,h30,h40,h110,h120,h130,mR0,m40,r6⟩;refine QL (a:=_) [6] r6 ?_;intro f fr hf hm hn6;have h3:f 3=.vec 0 1000 g 0 T.length false:=xW
 have h4:f 4=.vec 0 4 h 0 (We T i).length false:=jx
 have h11:f 11=.vec 0 1000 g 0 T.length false:=kH
 have h12:f 12=.int .i64 (T.length:Nat):=ku
 have h13:f 13=.int .i64 (i:Nat):=kG
 have mR:fr 1000=.vec g 14 (T.map V.pav):=jW
 have m4:fr 4=.vec h 14 ((We T i).map V.pav):=xT
 have n6:=hn6 6 xy;clear hf hm hn6 h30 h40 h110 h120 h130 mR0 m40 r6;simp only[h12,h13,Qa,seval];by_cases hlt:i<T.length
 ·obtain⟨x,hi⟩:∃x,T[i]? = some x:=⟨T[i],Qln hlt⟩;have hg:=Ky hi;have e1:=Qr i _ hlt xC;have ia:∀(fr:Nat→Ob) (j:Nat),fr 1000=.vec g 14 (T.map V.pav)→j<T.length→Qf [fr] 14 none (.vec 0 1000 g 0 T.length false) ((j:Nat):Int)=some (.vptr 0 1000 g j 0):=fun fr j h hj=>MV h hj
  have la:∀(fr:Nat→Ob),fr 1000=.vec g 14 (T.map V.pav)→Xn [fr] (some 14) (.vptr 0 1000 g i 0)=some (.agg [.int .i64 x.1.kd,.int .u64 (x.1.bits:Nat),.str x.1.text,.list (x.1.list.map V.av),.list (x.1.pairs.map V.pav),.list (x.1.slots.map V.sav),.list (x.1.raws.map R.av),.int .i64 x.2.kd,.int .u64 (x.2.bits:Nat),.str x.2.text,.list (x.2.list.map V.av),.list (x.2.pairs.map V.pav),.list (x.2.slots.map V.sav),.list (x.2.raws.map R.av)]):=fun fr h=>FZ h hg xA
  have hdi:=hdl i;have keep:We T (i+1)=We T i++[x]→∀(f':Fr) (fr':Nat→Ob) (h':Nat),f' 3=.vec 0 1000 g 0 T.length false→f' 4=.vec 0 4 h' 0 ((We T i).length+1) false→f' 11=.vec 0 1000 g 0 T.length false→f' 12=.int .i64 (T.length:Nat)→f' 13=.int .i64 ((i+1:Nat):Int)→fr' 1000=.vec g 14 (T.map V.pav)→fr' 4=.vec h' 14 ((We T i).map V.pav++[V.pav x])→(∀s∈[6],(fr' s).isRow=false)→∃k,k<T.length-i∧PqI T k ⟨f',[fr'],[]⟩:=by
   intro hk' f' fr' h' a3 a4 a11 a12 a13 b1 b4 b6;exact⟨T.length-(i+1),xw,f',fr',i+1,g,h',rfl,rfl,xw,a3,by rw[a4,hk',Ql2];rfl,a11,a12,a13,b1,by rw[b4,hk',Qnf];rfl,b6⟩
  have hst:We T (i+1)=We T i++(match T[i]?,T[i+1]? with
   |some x,some y=>if XE x.1 y.1=true then []else [x]
   |some x,none=>[x]
   |none,_=>[]):=rfl
  rw[hi]at hst;have hti:((We T i).map V.pav).length=(We T i).length:=Qmj ..;simp only[QB hlt,ia,la,mR,hlt,n6,h3,h11,h13,e1,eE,seval];by_cases hl:i+1=T.length
  ·have d1:(((i+1:Nat):Int)==(T.length:Int))=true:=xD
   rw[QmO xw]at hst;simp only[d1,h4,eE,seval];exact oE
  ·have d1:(((i+1:Nat):Int)==(T.length:Int))=false:=xD
   have hlt1:i+1<T.length:=xw
   obtain⟨y,hj⟩:∃y,T[i+1]? = some y:=⟨T[i+1],Qln hlt1⟩;have hgj:=Ky hj;have lc:∀(fr:Nat→Ob),fr 1000=.vec g 14 (T.map V.pav)→Xn [fr] (some 7) (.vptr 0 1000 g (i+1) 0)=some (.agg [.int .i64 y.1.kd,.int .u64 (y.1.bits:Nat),.str y.1.text,.list (y.1.list.map V.av),.list (y.1.pairs.map V.pav),.list (y.1.slots.map V.sav),.list (y.1.raws.map R.av)]):=fun fr h=>by
    rw[FZ h hgj xA];rfl
   have hx1:=h1T x (QlC hi);have hy1:=h1T y (QlC hj);rw[hj]at hst;dsimp only at hst;have hq:=IX k hk x.1.bits y.1.bits x.1.text y.1.text;rw[←(KD hx1).1,←(KD hy1).1,N6 hk hx1 hy1 (hbT x (QlC hi)) (hbT y (QlC hj)),Qd,Qd]at hq;simp only[d1,ia,lc,mR,hlt1,YT,QlN,QlX,Qmy,Ql6,h3,e1,eE,seval];refine aC hq ?_;cases hne:XE x.1 y.1
   ·skip
    rw[hne,Qlu xA]at hst;simp only[h4,eE,seval];exact oE
   ·rw[hne,Qlv rfl,Qms]at hst;simp only[h13,e1,Qa,seval];exact⟨T.length-(i+1),xw,_,_,i+1,g,h,rfl,rfl,xw,xM,(by rw[hst];exact xR),jY,jP,xx,j8,(by rw[hst];exact jO),xS⟩
 ·have e:i=T.length:=xw
  subst e;exact zF

open Vp Cp

theorem QeM {k:Int}:Qu ⟨0,[],[],0,0,k,-1,0⟩=.agg [.int .i64 0,.str [],.str [],.int .i64 0,.int .i64 0,.int .i64 k,.int .i64 (-1),.int .i64 0]:=rfl

section
variable {M K n:Nat}(P:PL)(hP:P.ok M)(c:C)(l s:Nat)(m:Qk)(hm:l<m.length)(hs:Am.Qc m l s=Xi P c)(hc:CI c){rec:Int→V→C→Rd V}(hrec:F9 P M K n rec)(hcn:c.left≤n)(hb1:(1:Int)+3*c.left≤K)

include hP hm hs hc hrec hcn hb1 in
theorem Qji (o:PO)(w:Int)(ht:o.kind=10→0≤o.target∧o.target<(P.progs.length:Int)) :
  Qe Tryz.prog 329 [.ptr l s 0,Qu o,.int .i64 w] m (Rt P l s m V.av (KL P rec o.kind o.target w c)):=by
 have hs0:=hs;have lp:∀o,Am.Qc (Am.put m l s o) l s=o:=fun o=>Qs hm
 have pp:∀o q,Am.put (Am.put m l s o) l s q=Am.put m l s q:=fun o q=>put_put
 have hwo:=Ph o;simp only[Qu,PO.cells]at hwo;refine wG Tryz.func329 ?_;simp only[eK,Tryz.f329,seval];simp only[Qu,PO.cells,eE,seval];refine aC hwo ?_;unfold KL;by_cases hw:w=wk o.kind
 case neg=>
  have b1:(w != wk o.kind)=true:=vw
  rw[Qlu hw];simp only[b1,eE,seval];exact⟨xy,QN 0 0 [],c,(by rw[avs];rfl),(put_self hm hs0).symm⟩
 have b1:(w != wk o.kind)=false:=vw
 rw[Qlv hw];by_cases hk:o.kind=10
 ·have b2:(o.kind==10)=true:=jD
  rw[Qlv hk];simp only[b1,b2,WL,eE,seval];refine Wo (QeJ P c (l+1) s _ xX hs0 hc hrec (ht hk) (QN 10 0 []) 0 (QmP 0) hcn (fun hn=>XZ hn) (Zc rfl xy (Qlx _)) jS) kr ?_;intro x m1 hx _;cases hr:WK rec o.target (QN 10 0 []) 0 c with
  |error e=>
   exact ow
  |ok p=>
   obtain⟨y,d⟩:=p;rw[hr]at hx;obtain⟨rfl,rfl⟩:=hx;simp only[Qd y,QY,eE,seval];exact⟨by rw[Qd y],rfl⟩
 ·have b2:(o.kind==10)=false:=jD
  rw[Qlu hk];simp only[b1,b2,WL,eE,seval];refine QO (QeE P c (l+1) s _ xX hs0 hc w) xF ?_;intro x m1 hx _;cases hr:Ka w c with
  |error e=>
   rw[hr]at hx;obtain⟨he,y,c',rfl,rfl⟩:=hx;dsimp only;simp only[Xa he,R.av,QY,eE,seval];exact⟨he,QN 0 0 [],c',(by rw[avs];rfl),rfl⟩
  |ok p=>
   obtain⟨f,d⟩:=p;rw[hr]at hx;obtain⟨rfl,rfl⟩:=hx;obtain⟨_,_,b3,b4⟩:=Dt hc hr;have hsc:=QeH P hP o f b3;have e0:P.av=.agg [.list (P.progs.map Qm),.list (P.enums.map QC)]:=rfl;dsimp only;generalize Zi P o.kind o.target f=q at hsc ⊢;obtain⟨x,e⟩:=q;simp only[Yw,e0,Qu,PO.cells,R.av,Qd x]at hsc;simp only[R.av,Xi,lp,sh2,eE,seval];refine aC hsc ?_;simp only[QY,eE,seval];by_cases he:e=0
   ·subst he;rw[Qlv rfl];exact⟨by rw[Qd x];rfl,rfl⟩
   ·rw[Qlu he];exact⟨he,x,d,by rw[Qd x],rfl⟩

variable (g:PG)(hg:g.ops.length≤maxLen)(v:V)(hv:(v.cnt:Int)+3*c.left≤K)(hK:K≤1000000)(hvo:v.ok M)(o:PO)

include hm hs hc hrec hcn hb1 hg hv hK hvo in
theorem Qjj (ho:OpK P g o)(h10:o.kind=10)(h5:o.card≠5)(hvm:MW P (n+1) g v) :
  Qe Tryz.prog 284 [.ptr l s 0,Qm g,v.av,Qu o] m (Rt P l s m V.av (KJ rec g v o c)):=by
 have hs0:=hs;have lp:∀o,Am.Qc (Am.put m l s o) l s=o:=fun o=>Qs hm
 have pp:∀o q,Am.put (Am.put m l s o) l s q=Am.put m l s q:=fun o q=>put_put
 have ls:=XP v;have hcb:=hc.bd;have ht:=ho.uo.tgt h10;have hfd:=Pi v o.num xw;have hoc:=D8 v o.num;have hol:=Du (n:=o.num) hvo;have hin:=fun(fr:Nat→Ob) (b:V) (k:Int) (h0:0≤k) (h1:1≤n→MW P n (Qg P o.target) b) (h2:b.ok M) (h3:(b.cnt:Int)+3*c.left≤K)=>QeJ P c (l+1) s (fr :: m) xX hs0 hc hrec ht b k h0 hcn h1 h2 h3
 have hset:=fun y=>Ts g v o y hg xw
 have hlo:=fun x=>QeA (Q2 v o.num) x (by have:=ZO (Q2 v o.num);omega)
 have hon:∀h:(XY v o.num).isSome=false,Q2 v o.num=QN 0 0 []:=fun h=>Ji (by rw[h];simp)
 have hom:o.card≠4→(XY v o.num).isSome=true→MW P n (Qg P o.target) (Q2 v o.num):=by
  intro h4 h;obtain⟨z,hz⟩:=QlQ.1 h;have h2:=HG hvm ho.self hz;unfold FW at h2;rw[Qlu h4,Qlu h5]at h2;rw[(Xz hz).2];exact h2 h10
 rw[Qd v]at hset;simp only[Qm,Qu,PG.cells,PO.cells]at hset;unfold KJ;generalize Q2 v o.num=z at hfd hlo hoc hol hon hom ⊢;rw[Qd v,Qd z]at hfd;rw[Qd z]at hlo;rw[Qd v];refine wG Tryz.func284 ?_;simp only[eK,Tryz.f284,seval];simp only[Qm,Qu,PG.cells,PO.cells,eE,seval];refine aC hfd ?_;by_cases h4:o.card=4
 ·have b4':(o.card==4)=true:=kR
  rw[Qlv h4];cases hf:(XY v o.num).isSome
  case false=>
   have hkk:(if (false:Bool)=true then(1:Int)else 2)=2:=rfl;rw[hkk];simp only[b4',WL,eE,seval];refine Wo (hin _ (QN 10 0 []) 2 xy (fun hn=>XZ hn) (Zc rfl xy (Qlx _)) jS) kr ?_;intro x m1 hx _;cases hr:WK rec o.target (QN 10 0 []) 2 c with
   |error e=>
    exact oN
   |ok p=>
    obtain⟨y,d⟩:=p;rw[hr]at hx;obtain⟨rfl,rfl⟩:=hx;have h1:=hlo y;have h2:=hset (XG (z.list++[y]));dsimp only;generalize Zl g v o (XG (z.list++[y]))=w at h2 ⊢;generalize XG (z.list++[y])=u at h1 h2;rw[Qd y,Qd u]at h1;rw[Qd u,Qd w]at h2;simp only[Qd y,eE,seval];refine aC h1 ?_;refine aC h2 ?_;simp only[QY,eE,seval];exact⟨qd,rfl⟩

  case true=>
   have hkk:(if (true:Bool)=true then(1:Int)else 2)=1:=rfl;rw[hkk];simp only[b4',WL,eE,seval];refine Wo (hin _ (QN 10 0 []) 1 xy (fun hn=>XZ hn) (Zc rfl xy (Qlx _)) jS) kr ?_;intro x m1 hx _;cases hr:WK rec o.target (QN 10 0 []) 1 c with
   |error e=>
    exact oN
   |ok p=>
    obtain⟨y,d⟩:=p;rw[hr]at hx;obtain⟨rfl,rfl⟩:=hx;have h1:=hlo y;have h2:=hset (XG (z.list++[y]));dsimp only;generalize Zl g v o (XG (z.list++[y]))=w at h2 ⊢;generalize XG (z.list++[y])=u at h1 h2;rw[Qd y,Qd u]at h1;rw[Qd u,Qd w]at h2;simp only[Qd y,eE,seval];refine aC h1 ?_;refine aC h2 ?_;simp only[QY,eE,seval];exact⟨qd,rfl⟩
 ·have b4':(o.card==4)=false:=kR
  rw[Qlu h4];cases hf:(XY v o.num).isSome
  case false=>
   have hkk:(if (false:Bool)=true then z else QN 10 0 [])=QN 10 0 []:=rfl;rw[hkk];simp only[b4',WL,eE,seval];refine Wo (hin _ (QN 10 0 []) 1 xy (fun hn=>XZ hn) (Zc rfl xy (Qlx _)) jS) (by rw[Qd (QN 10 0 [])];first|rfl|simp only[QlW,Qmq,Nx,nn0,eE,seval]) ?_;intro x m1 hx _;cases hr:WK rec o.target (QN 10 0 []) 1 c with
   |error e=>
    exact oN
   |ok p=>
    obtain⟨y,d⟩:=p;rw[hr]at hx;obtain⟨rfl,rfl⟩:=hx;have h2:=hset y;dsimp only;generalize Zl g v o y=w at h2 ⊢;rw[Qd y,Qd w]at h2;simp only[Qd y,eE,seval];refine aC h2 ?_;simp only[QY,eE,seval];exact⟨qd,rfl⟩

  case true=>
   have hkk:(if (true:Bool)=true then z else QN 10 0 [])=z:=rfl;rw[hkk];simp only[b4',WL,eE,seval];refine Wo (hin _ (z) 1 xy (fun _=>hom h4 hf) (hol) xw) (by rw[Qd (z)];first|rfl|simp only[QlW,Qmq,Nx,nn0,eE,seval]) ?_;intro x m1 hx _;cases hr:WK rec o.target (z) 1 c with
   |error e=>
    exact oN
   |ok p=>
    obtain⟨y,d⟩:=p;rw[hr]at hx;obtain⟨rfl,rfl⟩:=hx;have h2:=hset y;dsimp only;generalize Zl g v o y=w at h2 ⊢;rw[Qd y,Qd w]at h2;simp only[Qd y,eE,seval];refine aC h2 ?_;simp only[QY,eE,seval];exact⟨qd,rfl⟩

end

def WM (c:C):List AV:=[.str c.d,.int .i64 c.a,.int .i64 c.e,.int .i64 c.dp,.int .i64 c.nd,.int .i64 c.tx]

section
variable {M K n:Nat}(hM:65536≤M)(hK:K≤1000000)(P:PL)(hP:P.ok M)(l s:Nat)(m:Qk)(hm:l<m.length)(g:PG)(hg:g.ops.length≤maxLen)(o:PO)(ho:OpK P g o)(h5:o.card≠5)

structure PkF (g:PG)(o:PO)(d:C)(l s:Nat)(f:Fr)(fr:Nat→Ob)(v:V):Prop where
 f0:f 0=.ptr (l+1) s 0
 f5:f 5=.ptr 0 5 0
 f6:f 6=.ptr 0 6 0
 f7:f 7=.ptr 0 7 0
 f8:f 8=.ptr 0 8 0
 f12:f 12=.ptr 0 12 0
 m5:fr 5=.cells g.cells
 m6:fr 6=.cells (vc v)
 m7:fr 7=.cells o.cells
 m8:fr 8=.cells J0
 m12:fr 12=.cells (WM d)

include hM hK hP hm hg ho h5 in
theorem RZ {cL:RC}(d:C)(R0:Rd V)(k:Nat)(v:V)(c:C)(f:Fr)(fr:Nat→Ob)(hf:PkF g o d l s f fr v)(hc:CI c)(hk:c.left≤k)(hR:Ki P g o k v c=R0)(hvm:MW P (n+1) g v)(hvo:v.ok M)(hb:(v.cnt:Int)+3*c.left≤K)(Q:Exit→St→Prop)
  (hx:∀f fr v c,PkF g o d l s f fr v→R0=.ok (v,c)→Q (.exit 0) ⟨f,fr :: Am.put m l s (Xi P c),[]⟩)
  (he:∀f fr v (e:Nat) c,f 8=.ptr 0 8 0→fr 8=.cells (vc v)→f 9=.int .i64 (e:Nat)→R0=.error e→e≠0→Q .ret ⟨f,fr :: Am.put m l s (Xi P c),[]⟩) (hcL:lp 282 0 Tryz.f282=cL:=by simp only[eL,eK,Tryz.f282,seval]) :
  QU Tryz.prog (.loop cL) ⟨f,fr :: Am.put m l s (Xi P c),[]⟩ Q:=by
 subst hcL;simp only[eL,eK,Tryz.f282,seval];have lp:∀o,Am.Qc (Am.put m l s o) l s=o:=fun o=>Qs hm
 have pp:∀o q,Am.put (Am.put m l s o) l s q=Am.put m l s q:=fun o q=>put_put
 have hpl:∀o,l+1<(Am.put m l s o).length+1:=fun o=>qK
 let I:Nat→St→Prop:=fun k st=>∃f fr v c,st=⟨f,fr :: Am.put m l s (Xi P c),[]⟩∧PkF g o d l s f fr v∧CI c∧c.left≤k∧Ki P g o k v c=R0∧MW P (n+1) g v∧v.ok M∧(v.cnt:Int)+3*c.left≤K
 refine Qi I k ⟨f,fr,v,c,rfl,hf,hc,hk,hR,hvm,hvo,hb⟩ ?_;clear hf hc hk hR hvm hvo hb;rintro k st ⟨f,fr,v,c,rfl,hf,hc,hk,hR,hvm,hvo,hb⟩;have hcb:=hc.bd;obtain⟨h0,h5',h6,h7,h8,h12,m5',m6',m7',m8',m12'⟩:=hf;have m5:=m5';have m6:=m6';have m7:=m7';have m8:=m8';simp only[PG.cells]at m5;simp only[vc]at m6;simp only[PO.cells]at m7;simp only[J0]at m8;simp only[Xi,lp,h0,JA,eE,seval];refine aC (Dq c hc.big') ?_;by_cases hlt:0<c.left
 case neg=>
  have d1:decide (c.left > 0)=false:=Qnl hlt;have hR':R0=.ok (v,c):=by
   rw[←hR];cases k with
   |zero=>rfl
   |succ k=>rw[Ki,Qlu hlt]
  simp only[d1,Qa,seval];exact hx _ _ v c ⟨xO,wJ,xU,xZ,xV,jP,m5',m6',m7',m8',m12'⟩ hR'
 have d1:decide (c.left > 0)=true:=Qnr hlt;obtain⟨k,rfl⟩:∃j,k=j+1:=⟨k-1,xw⟩;rw[Ki,Qlv hlt]at hR;have hon:=QeI P hP c (l+1) s (fr :: Am.put m l s (Xi P c)) vr kM hc g hg v xw o;rw[Qd v]at hon;simp only[Qm,Qu,PG.cells,PO.cells,Xi]at hon;simp only[d1,h0,h5',h6,h7,m5,m6,m7,eE,seval];refine QO hon xB ?_;intro x m1 hx1 _;cases hr:Kz P g v o c with
 |error e=>
  rw[hr]at hx1 hR;obtain⟨he',w,c',rfl,rfl⟩:=hx1;simp only[Qd w,Xa he',h6,h8,m6,m8,pp,eE,seval];exact he _ _ w e c' xV xx xx hR.symm he'
 |ok p=>
  obtain⟨w,d1⟩:=p;rw[hr]at hx1 hR;obtain⟨rfl,rfl⟩:=hx1;obtain⟨r1,r2,r3,r4⟩:=Vk hM hK ho hc hvm hvo hb h5 hr;have hl:=r1.lt hc;dsimp only at hR;simp only[Qd w,h6,m6,pp,eE,seval];exact⟨k,xw,_,_,w,d1,rfl,⟨xO,wJ,xU,xZ,xV,jP,j9,xx,qq,kW,(by exact m12')⟩,r1.ci hc,xw,hR,r2,r3,xw⟩

variable (c:C)(hs:Am.Qc m l s=Xi P c)(hc:CI c)(v:V)(hvm:MW P (n+1) g v)(hvo:v.ok M)(hb:(v.cnt:Int)+3*c.left≤K)

include hM hK hP hm hg ho h5 hs hc hvm hvo hb in
theorem Qjk (h4:o.card=4) :
  Qe Tryz.prog 282 [.ptr l s 0,Qm g,v.av,Qu o] m (Rt P l s m V.av (Wq P g v o c)):=by
 have hs0:=hs;have lp:∀o,Am.Qc (Am.put m l s o) l s=o:=fun o=>Qs hm
 have pp:∀o q,Am.put (Am.put m l s o) l s q=Am.put m l s q:=fun o q=>put_put
 have hpl:∀o,l+1<(Am.put m l s o).length+1:=fun o=>qK
 have ls:=XP v;have hcb:=hc.bd;have hwo:=Ph o;have hfd:=Pi v o.num xw;have hset:=Ts g v o (XG []) hg xw;have hok:=Ku (g:=g) (x:=XG []) hvo ho.wf (Uk (fun y hy=>(nomatch hy)) (Qlx _)) xw;have hmw:=Kv (x:=XG []) hvm ho.self (by unfold FW;rw[Qlv h4];exact fun y hy=>(nomatch hy));have hct:=K2 g v o (XG []);rw[WB]at hct;simp only[Q9]at hct;unfold Wq;rw[show(XG []).av=.agg [.int .i64 11,.int .u64 0,.str [],.list [],.list [],.list [],.list []]from Qd _]at hset;generalize Zl g v o (XG [])=w at hset hok hmw hct ⊢;rw[Qd v,Qd w]at hset;generalize Q2 v o.num=z at hfd;rw[Qd v,Qd z]at hfd;simp only[Qm,Qu,PG.cells,PO.cells]at hset hwo;rw[Qd v];refine wG Tryz.func282 ?_;simp only[eK,Tryz.f282,seval];simp only[Qm,Qu,PG.cells,PO.cells,eE,seval];refine QO (Tt P c (l+1) s _ xX hs0 hc) xF ?_;intro x m1 hx _;cases hr:ZU c with
 |error e=>
  rw[hr]at hx;obtain⟨he,a,c',rfl,rfl⟩:=hx;exact x9
 |ok p=>
 obtain⟨q,d⟩:=p;obtain⟨a1,a2⟩:=Kn hc hr;have hd:=a1.ci hc;have hl1:=a1.lt hc;have hdb:=hd.bd;rw[hr]at hx;obtain⟨rfl,rfl⟩:=hx;obtain⟨_,p2,p3⟩:=Jr hd a2;dsimp only;simp only[eE,seval];refine QO (QeF P d (l+1) s _ kM q) xF ?_;rintro x m1 ⟨rfl,rfl⟩ _;have hby:=Qjd (part d q) p2.big';have hya:=D6 p2;generalize part d q=i at hby hya p2 p3 ⊢;generalize ZF i=r at hby hya ⊢;obtain⟨b,j,e⟩:=r;dsimp only at hya;simp only[Tp,C.av]at hby;simp only[C.av,Xi,lp,pp,JA,Jj,eE,seval];refine aC hby ?_;by_cases he:e=0
 case neg=>
  rw[Qlu he];simp only[Xa he,Jj,QY,eE,seval];exact⟨he,v,i,wO,rfl⟩
 subst he;obtain⟨y1,y2,y3⟩:=hya rfl;have hj:=y1.ci p2;have hlj:=y1.lt p2;have hjb:=hj.bd;have w1:IntKind.i64.wrap b=b:=xE
 rw[Qlv rfl];simp only[w1,lp,pp,JA,Jj,eE,seval];refine aC hwo ?_;by_cases hw:b=wk o.kind
 case neg=>
  have b1:(b != wk o.kind)=true:=vw
  rw[Qlu hw];simp only[b1,QY,eE,seval];exact⟨xy,v,j,by rw[Qd v];rfl,rfl⟩
 have b1:(b != wk o.kind)=false:=vw
 rw[Qlv hw];simp only[b1,WL,eE,seval];refine aC hfd ?_
 -- Jg the loop
 cases hf:(XY v o.num).isSome
 case false=>
  simp only[QlH,eE,seval];refine QO (F8 P j (l+1) s _ kM 1) xF ?_;rintro x m1 ⟨rfl,rfl⟩ _;rcases K3 j 1 with⟨j2,h2,h2'⟩|⟨e,he,h2,h2'⟩
  case inr=>
   rw[h2,h2'];dsimp only;exact zw
  rw[h2,h2'];obtain⟨s1,_⟩:=Zm hj xw h2;have hj2:=s1.ci hj;have hls:=(s1.left hj).2.2;have hj2b:=hj2.bd;dsimp only;simp only[pp,eE,seval];refine aC hset ?_;simp only[eE,seval];unfold Jz;refine RZ (n:=n) hM hK P hP l s m hm g hg o ho h5 d _ j2.left.toNat w j2 _ _ ⟨xx,xx,xx,xx,xx,xx,xx,xx,xx,xx,xx⟩ hj2 xw rfl hmw hok xw _ (fun f fr v' c' hf' hR'=>?_) (fun f fr v' e c' h8 m8 h9 hR' he=>?_)
  ·obtain⟨h0,h5',h6,h7,h8,h12,m5,m6,m7,m8,m12⟩:=hf';rw[hR'];dsimp only;simp only[vc]at m6;simp only[J0]at m8;simp only[WM]at m12;simp only[h0,h12,m12,JA,eE,seval];refine QO (Tu P c' (l+1) s _ kM d) qu ?_;rintro x m1 ⟨rfl,rfl⟩ _;simp only[h6,h8,m6,m8,pp,QY,eE,seval];exact⟨by rw[Qd v'],rfl⟩
  ·exact yk
 case true=>
  simp only[eE,seval];unfold Jz;refine RZ (n:=n) hM hK P hP l s m hm g hg o ho h5 d _ j.left.toNat v j _ _ ⟨xx,xx,xx,xx,xx,xx,xx,xx,xx,xx,xx⟩ hj xw rfl hvm hvo xw _ (fun f fr v' c' hf' hR'=>?_) (fun f fr v' e c' h8 m8 h9 hR' he=>?_)
  ·obtain⟨h0,h5',h6,h7,h8,h12,m5,m6,m7,m8,m12⟩:=hf';rw[hR'];dsimp only;simp only[vc]at m6;simp only[J0]at m8;simp only[WM]at m12;simp only[h0,h12,m12,JA,eE,seval];refine QO (Tu P c' (l+1) s _ kM d) qu ?_;rintro x m1 ⟨rfl,rfl⟩ _;simp only[h6,h8,m6,m8,pp,QY,eE,seval];exact⟨by rw[Qd v'],rfl⟩
  ·exact yk

end

def Wr (P:PL)(g:PG)(o:PO):Nat→V→C→V×C×Nat
 |0,v,c=>(v,c,0)
 |k+1,v,c=>if 0<c.left then(if (UJ P g v o c).2.2=0 then Wr P g o k (UJ P g v o c).1 (UJ P g v o c).2.1 else UJ P g v o c)else(v,c,0)
theorem FB (P:PL)(g:PG)(o:PO):∀(k:Nat) (v:V) (c:C),Ki P g o k v c=if (Wr P g o k v c).2.2=0 then .ok ((Wr P g o k v c).1,(Wr P g o k v c).2.1)else .error (Wr P g o k v c).2.2
 |0,v,c=>rfl
 |k+1,v,c=>by
  rw[Ki,Wr,VT];by_cases h:0<c.left
  ·rw[Qlv h,Qlv h];by_cases h1:(UJ P g v o c).2.2=0
   ·rw[Qlv h1,Qlv h1];exact FB P g o k _ _
   ·rw[Qlu h1,Qlu h1,Qlu h1]
  ·rw[Qlu h,Qlu h];rfl
def UK (P:PL)(g:PG)(v:V)(o:PO)(c d i:C):V×C×Nat :=
 if (Wr P g o i.left.toNat v i).2.2=0 then((Wr P g o i.left.toNat v i).1,Jg d (Wr P g o i.left.toNat v i).2.1,0)
 else((Wr P g o i.left.toNat v i).1,c,(Wr P g o i.left.toNat v i).2.2)
theorem GF (P:PL)(g:PG)(v:V)(o:PO)(c d i:C):Jz P g v o d i=if (UK P g v o c d i).2.2=0 then .ok ((UK P g v o c d i).1,(UK P g v o c d i).2.1)else .error (UK P g v o c d i).2.2:=by
 unfold Jz UK;rw[FB];generalize Wr P g o i.left.toNat v i=r;by_cases h:r.2.2=0
 ·simp only[Qlv h,if_true]
 ·simp only[Qlu h]
def D9 (P:PL)(g:PG)(v:V)(o:PO)(c:C):V×C×Nat :=
 match ZU c with
 |.error e=>(v,c,e)
 |.ok (n,d)=>
  if (ZF (part d n)).2.2=0 then
   if (ZF (part d n)).1=wk o.kind then
    if (XY v o.num).isSome=true then UK P g v o c d (ZF (part d n)).2.1
    else if ((ZF (part d n)).2.1.spend 1).2=0 then UK P g (Zl g v o (XG [])) o c d ((ZF (part d n)).2.1.spend 1).1
    else(v,c,((ZF (part d n)).2.1.spend 1).2)
   else(v,c,13)
  else(v,c,(ZF (part d n)).2.2)
theorem PW (P:PL)(g:PG)(v:V)(o:PO)(c:C):Wq P g v o c=if (D9 P g v o c).2.2=0 then .ok ((D9 P g v o c).1,(D9 P g v o c).2.1)else .error (D9 P g v o c).2.2:=by
 unfold Wq D9;cases hr:ZU c with
 |error e=>
  have he:=Ck hr;simp only[Qlu he]
 |ok p=>
  obtain⟨n,d⟩:=p;dsimp only;by_cases h1:(ZF (part d n)).2.2=0
  case neg=>simp only[Qlu h1]
  simp only[Qlv h1];by_cases h2:(ZF (part d n)).1=wk o.kind
  case neg=>simp only[Qlu h2];rfl
  simp only[Qlv h2];by_cases h3:(XY v o.num).isSome=true
  ·simp only[Qlv h3];exact GF P g v o c d _
  simp only[Qlu h3];unfold spd;by_cases h4:((ZF (part d n)).2.1.spend 1).2=0
  ·simp only[Qlv h4];exact GF P g _ o c d _
  ·simp only[Qlu h4]

def zc6:List AV:=[.str [],.int .i64 0,.int .i64 0,.int .i64 0,.int .i64 0,.int .i64 0]
def Q8 (P:PL):List AV:=[.list (P.progs.map Qm),.list (P.enums.map QC)]

section
variable {M K n:Nat}(hM:65536≤M)(hK:K≤1000000)(P:PL)(hP:P.ok M)(g:PG)(hg:g.ops.length≤maxLen)(o:PO)(ho:OpK P g o)(h5:o.card≠5)(hun : -1≤o.union)

structure PxF (P:PL)(g:PG)(o:PO)(c0 d:C)(f:Fr)(fr:Nat→Ob)(v:V)(c:C):Prop where
 f5:f 5=.ptr 0 5 0
 f6:f 6=.ptr 0 6 0
 f7:f 7=.ptr 0 7 0
 f8:f 8=.ptr 0 8 0
 f9:f 9=.ptr 0 9 0
 f10:f 10=.ptr 0 10 0
 f11:f 11=.ptr 0 11 0
 f14:f 14=.ptr 0 14 0
 f17:f 17=.ptr 0 17 0
 m5:fr 5=.cells (Q8 P)
 m6:fr 6=.cells g.cells
 m7:fr 7=.cells (vc v)
 m8:fr 8=.cells o.cells
 m9:fr 9=.cells (WM c0)
 m10:fr 10=.cells J0
 m11:fr 11=.cells zc6
 m14:fr 14=.cells (WM d)
 m17:fr 17=.cells (WM c)

end

section
variable {M K n:Nat}{rec:Int→V→C→Rd V}(P:PL)(hP:P.ok M)(o:PO)(x:V×V)(w:Int){c:C}(hc:CI c)

end
end Go.Proofs.YtmlohboeoeoamaaGreatDoor.Va

namespace Go.Proofs.YtmlohboeoeoamaaGreatDoor.Va
open Go Am Rc Bt Br Up So

section
variable {P:PL}{k:Int}(ps:List (V×V))

end

open Vp Cp

def lz (b:Bool)(l:List AV):AV:=match b with
 |true=>.list l
 |false=>.nils
theorem YR {b:Bool}{l:List AV}(h:b=false→l=[]):nn0 (lz b l)=.list l:=by
 cases b
 ·rw[h rfl];rfl
 ·rfl
def kc (b:Bool)(y:V):List AV:=[.int .i64 y.kd,.int .u64 (y.bits:Nat),.str y.text,lz b (y.list.map V.av),lz b (y.pairs.map V.pav),lz b (y.slots.map V.sav),lz b (y.raws.map R.av)]

section
variable {M K n:Nat}(P:PL)(hP:P.ok M)(l s:Nat)(m:Qk)(hm:l<m.length){rec:Int→V→C→Rd V}(hrec:F9 P M K n rec)(hM:65536≤M)(hro:Wb P M K n rec)(g:PG)(o:PO)(ho:OpK P g o)(h5:o.card=5)

structure EnF (g:PG)(o:PO)(v z:V)(d:C)(l s:Nat)(f:Fr)(fr:Nat→Ob)(x:V×V)(a b:Bool):Prop where
 f0:f 0=.ptr (l+1) s 0
 f5:f 5=.ptr 0 5 0
 f6:f 6=.ptr 0 6 0
 f7:f 7=.ptr 0 7 0
 f8:f 8=.ptr 0 8 0
 f12:f 12=.ptr 0 12 0
 f14:f 14=.ptr 0 14 0
 f17:f 17=.ptr 0 17 0
 f18:f 18=.bool a
 f19:f 19=.bool b
 m5:fr 5=.cells g.cells
 m6:fr 6=.cells (vc v)
 m7:fr 7=.cells o.cells
 m8:fr 8=.cells J0
 m12:fr 12=.cells (vc z)
 m14:fr 14=.cells (WM d)
 m17:fr 17=.cells (kc a x.1++kc b x.2)
 m22:(fr 22).isRow=false
 m145:Qn (fr 145)=true

include hP hm hrec hM hro ho h5 in
theorem R1 {cL:RC}(v z:V)(d:C)(R0:Rd (V×V))(k:Nat)(x:V×V)(a b:Bool)(c:C)(f:Fr)(fr:Nat→Ob)(hf:EnF g o v z d l s f fr x a b)(hc:CI c)(hk:c.left≤k)(hcn:c.left≤n)(hb1:(1:Int)+3*c.left≤K)(hR:K0 P rec o k x a b c=R0)
  (hxa:a=false→x.1=QN o.key 0 []) (hxb:b=false→x.2=QN o.kind 0 []) (Q:Exit→St→Prop)
  (hx:∀f fr x a b c,EnF g o v z d l s f fr x a b→(a=false→x.1=QN o.key 0 [])→(b=false→x.2=QN o.kind 0 [])→R0=.ok (x,c)→Q (.exit 0) ⟨f,fr :: Am.put m l s (Xi P c),[]⟩)
  (he:∀f fr (e:Nat) c,f 8=.ptr 0 8 0→fr 8=.cells (vc v)→f 9=.int .i64 (e:Nat)→R0=.error e→e≠0→Q .ret ⟨f,fr :: Am.put m l s (Xi P c),[]⟩) (hcL:lp 280 0 Tryz.f280=cL:=by simp only[eL,eK,Tryz.f280,seval]) :
  QU Tryz.prog (.loop cL) ⟨f,fr :: Am.put m l s (Xi P c),[]⟩ Q:=by
 subst hcL;simp only[eL,eK,Tryz.f280,seval];have lp:∀o,Am.Qc (Am.put m l s o) l s=o:=fun o=>Qs hm
 have pp:∀o q,Am.put (Am.put m l s o) l s q=Am.put m l s q:=fun o q=>put_put
 have hpl:∀o,l+1<(Am.put m l s o).length+1:=fun o=>qK
 have hky:=ho.uo.key h5;have hk10:o.key≠10:=by unfold XT at hky;omega
 let I:Nat→St→Prop:=fun k st=>∃f fr x a b c,st=⟨f,fr :: Am.put m l s (Xi P c),[]⟩∧EnF g o v z d l s f fr x a b∧CI c∧c.left≤k∧c.left≤n∧(1:Int)+3*c.left≤K∧K0 P rec o k x a b c=R0∧(a=false→x.1=QN o.key 0 [])∧(b=false→x.2=QN o.kind 0 [])
 refine Qi I k ⟨f,fr,x,a,b,c,rfl,hf,hc,hk,hcn,hb1,hR,hxa,hxb⟩ ?_;clear hf hc hk hcn hb1 hR hxa hxb;rintro k st ⟨f0,fr0,x,a,b,c,rfl,hf,hc,hk,hcn,hb1,hR,hxa,hxb⟩;have hcb:=hc.bd;obtain⟨h00,h50,h60,h70,h80,h120,h140,h170,h180,h190,m50,m60,m70,m80,m120,m140,m170,m22,m1450⟩:=hf;refine QL (a:=_) [22] (by intro s hs;simp only[QnC]at hs;subst hs;exact m22) ?_;intro f fr hf hmm hn22;have h0:f 0=.ptr (l+1) s 0:=qx
 have h5':f 5=.ptr 0 5 0:=jN
 have h6:f 6=.ptr 0 6 0:=jV
 have h7:f 7=.ptr 0 7 0:=jU
 have h8:f 8=.ptr 0 8 0:=jM
 have h12:f 12=.ptr 0 12 0:=ku
 have h14:f 14=.ptr 0 14 0:=wI
 have h17:f 17=.ptr 0 17 0:=qM
 have h18:f 18=.bool a:=qo
 have h19:f 19=.bool b:=qN
 have m5':fr 5=.cells g.cells:=kA
 have m6':fr 6=.cells (vc v):=qD
 have m7':fr 7=.cells o.cells:=by rw[hmm 7 xy,m70]<;>rfl
 have m8':fr 8=.cells J0:=q6
 have m12':fr 12=.cells (vc z):=by rw[hmm 12 xy,m120]<;>rfl
 have m14':fr 14=.cells (WM d):=by rw[hmm 14 xy,m140]<;>rfl
 have m17':fr 17=.cells (kc a x.1++kc b x.2):=by rw[hmm 17 xy,m170];cases a<;>cases b<;>rfl
 have n22:=hn22 22 xy;have m145':Qn (fr 145)=true:=by
  rw[hmm 145 xy];cases h:fr0 145<;>rw[h]at m1450<;>first|rfl|cases m1450
 clear hf hmm hn22 h00 h50 h60 h70 h80 h120 h140 h170 h180 h190 m50 m60 m70 m80 m120 m140 m170 m22 m1450;have m6:=m6';have m7:=m7';have m8:=m8';have m17:=m17';simp only[vc]at m6;simp only[PO.cells]at m7;simp only[J0]at m8;simp only[kc,QlK,QlL]at m17;simp only[Xi,lp,h0,JA,eE,seval];refine aC (Dq c hc.big') ?_;by_cases hlt:0<c.left
 case neg=>
  have d1:decide (c.left > 0)=false:=Qnl hlt;have hR':R0=.ok (x,c):=by
   rw[←hR];cases k with
   |zero=>rfl
   |succ k=>rw[K0,Qlu hlt]
  simp only[d1,Qa,seval];exact hx _ _ x a b c ⟨xO,wJ,xU,xZ,xV,jP,(by exact h14),kL,qa,kU,m5',m6',m7',m8',m12',m14',m17',(by rw[n22]<;>rfl),m145'⟩ hxa hxb hR'
 have d1:decide (c.left > 0)=true:=Qnr hlt;obtain⟨k,rfl⟩:∃j,k=j+1:=⟨k-1,xw⟩;rw[K0,Qlv hlt]at hR;have htt:=Li c hc.big;have hta:=HF hc;generalize Qq c=tg at htt hta hR;obtain⟨num,w,c1,e⟩:=tg;dsimp only at hta hR;simp only[VI,C.av]at htt;simp only[d1,lp,h0,JA,eE,seval];refine aC htt ?_;by_cases he0:e=0
 case neg=>
  rw[Qlu he0]at hR;simp only[n22,Xa he0,h6,h8,m6,m8,Jj,eE,seval];exact he _ _ e c xV xx xx hR.symm he0
 subst he0;obtain⟨t1,t2,t3,t4,t5⟩:=hta rfl;have hc1:=t1.ci hc;have hl1:=t1.lt hc;have hc1b:=hc1.bd;rw[Qlv rfl]at hR;have side:=fun(fr:Nat→Ob) (q:PO) (hq:q.kind=10→0≤q.target∧q.target<(P.progs.length:Int))=>Qji P hP c1 (l+1) s (fr :: Am.put m l s (Xi P c1)) vr kM hc1 hrec xw xw q w hq
 by_cases h1:num=1
 ·have b1:(num==1)=true:=qn
  have b1':(num != 1)=false:=qn
  have b2:(num==2)=false:=qn
  rw[Qlv h1]at hR;cases a with
  |true=>
   rw[Qlv rfl]at hR;simp only[n22,b1,b1',h6,h8,h18,m6,m8,Jj,eE,seval];exact xo
  |false=>
   rw[Qlu xA]at hR;have hsd:=fun fr=>side fr ⟨0,[],[],0,0,o.key,-1,0⟩ (fun h=>absurd h hk10)
   simp only[Xi,QeM]at hsd;simp only[n22,b1,b1',b2,h0,h7,h18,m7,lp,pp,JA,WL,Jj,eE,seval];refine QO (hsd _) xx ?_;intro y m1 hy _;cases hr:KL P rec o.key (-1) w c1 with
   |error e=>
    exact zD
   |ok p=>
    obtain⟨u,c2⟩:=p;rw[hr]at hy hR;obtain⟨rfl,rfl⟩:=hy;have hab:As c1 c2:=(Gr hM hro (fun h=>absurd h hk10) hc1 xw xw hr).1;have hl2:=hab.lt hc1;dsimp only at hR;simp only[Qd u,h17,m17,pp,eE,seval];exact⟨k,xw,_,_,(u,x.2),true,b,c2,rfl,⟨xO,wJ,xU,xZ,xV,jP,(by exact h14),kL,xx,kU,j9,ko,qq,kW,(by exact m12'),(by exact m14'),xx,xx,(by exact m145')⟩,hab.ci hc1,xw,xw,xw,hR,(fun h=>kq),hxb⟩
 ·have b1:(num==1)=false:=qn
  have b1':(num != 1)=true:=qn
  rw[Qlu h1]at hR;by_cases h2:num=2
  ·have b2:(num==2)=true:=wg
   have b2':(num != 2)=false:=wg
   rw[Qlv h2]at hR;cases b with
   |true=>
    rw[Qlv rfl]at hR;simp only[n22,b1,b1',b2,b2',h6,h8,h19,m6,m8,Jj,eE,seval];exact xo
   |false=>
    rw[Qlu xA]at hR;have hsd:=fun fr=>side fr o ho.uo.tgt
    simp only[Xi,Qu,PO.cells]at hsd;simp only[n22,b1,b1',b2,b2',h0,h7,h19,m7,lp,pp,JA,Jj,eE,seval];refine QO (hsd _) xx ?_;intro y m1 hy _;cases hr:KL P rec o.kind o.target w c1 with
    |error e=>
     exact zD
    |ok p=>
     obtain⟨u,c2⟩:=p;rw[hr]at hy hR;obtain⟨rfl,rfl⟩:=hy;have hab:As c1 c2:=(Gr hM hro ho.uo.tgt hc1 xw xw hr).1;have hl2:=hab.lt hc1;dsimp only at hR;simp only[Qd u,h17,m17,pp,eE,seval];exact⟨k,xw,_,_,(x.1,u),a,true,c2,rfl,⟨xO,wJ,xU,xZ,xV,jP,(by exact h14),kL,qa,xx,j9,ko,qq,kW,(by exact m12'),(by exact m14'),xx,xx,(by exact m145')⟩,hab.ci hc1,xw,xw,xw,hR,hxa,(fun h=>kq)⟩
  ·have b2:(num==2)=false:=wg
   have b2':(num != 2)=true:=wg
   rw[Qlu h2]at hR;simp only[n22,b1',b2',h6,h8,m6,m8,Jj,eE,seval];exact he _ _ 18 c xV xx xx hR.symm xy

end

section
variable {P:PL}{rec:Int→V→C→Rd V}(hre:Gt rec)
include hre
theorem R2 {k t w:Int}{c:C}{e:Nat}(h:KL P rec k t w c=.error e):e≠0:=by
 unfold KL at h;split at h
 ·split at h
  ·exact Tw hre h
  ·split at h
   ·rename_i h1;cases h;exact QfP h1
   ·split at h
    ·cases h
    ·exact ye
 ·cases h;decide
theorem Po {o:PO}{e:Nat}:∀ {n:Nat} {x:V×V} {a b:Bool} {c:C},K0 P rec o n x a b c=.error e→e≠0
 |0,_,_,_,_,h=>by cases h
 |n+1,x,a,b,c,h=>by
  rw[K0]at h;split at h
  ·split at h
   ·split at h
    ·exact yJ
    ·split at h
     ·exact yJ
     ·cases h;decide
   ·exact ye
  ·cases h
theorem Lv {g:PG}{v:V}{o:PO}{c:C}{e:Nat}(h:JZ P rec g v o c=.error e):e≠0:=by
 unfold JZ at h;split at h
 ·rename_i h1;cases h;exact Ck h1
 ·split at h
  ·rename_i h1;cases h;exact Tv h1
  ·split at h
   ·rename_i h1;cases h;exact Po hre h1
   ·cases h
end

section
variable {M K n:Nat}(hM:65536≤M)(P:PL)(hP:P.ok M){rec:Int→V→C→Rd V}(hre:Gt rec)(hro:Wb P M K n rec)(g:PG)(o:PO)(ho:OpK P g o)(h5:o.card=5)

structure EyF (P:PL)(g:PG)(o:PO)(v z:V)(c0 d:C)(f:Fr)(fr:Nat→Ob)(x:V×V)(a b:Bool)(c:C):Prop where
 f5:f 5=.ptr 0 5 0
 f6:f 6=.ptr 0 6 0
 f7:f 7=.ptr 0 7 0
 f8:f 8=.ptr 0 8 0
 f9:f 9=.ptr 0 9 0
 f10:f 10=.ptr 0 10 0
 f11:f 11=.ptr 0 11 0
 f14:f 14=.ptr 0 14 0
 f16:f 16=.ptr 0 16 0
 f19:f 19=.ptr 0 19 0
 f20:f 20=.ptr 0 20 0
 f21:f 21=.vec 0 65 1 0 3 false
 m5:fr 5=.cells (Q8 P)
 m6:fr 6=.cells g.cells
 m7:fr 7=.cells (vc v)
 m8:fr 8=.cells o.cells
 m9:fr 9=.cells (WM c0)
 m10:fr 10=.cells J0
 m11:fr 11=.cells zc6
 m14:fr 14=.cells (WM d)
 m16:fr 16=.cells (vc z)
 m19:fr 19=.cells (WM c)
 m20:fr 20=.cells (kc (a||b) x.1++vc x.2)
 m65:fr 65=.vec 1 1 [.bool false,.bool a,.bool b]
 m24:(fr 24).isRow=false
 m117:Qn (fr 117)=true

end

section
variable {M K n:Nat}(hM:65536≤M)(hK:K≤1000000)(P:PL)(hP:P.ok M){rec:Int→V→C→Rd V}(hre:Gt rec)(hro:Wb P M K n rec)(g:PG)(hg:g.ops.length≤maxLen)(o:PO)(ho:OpK P g o)(h5:o.card=5)(hun : -1≤o.union){c:C}(hc:CI c)(hcn:c.left≤n)(v:V)(hvm:MW P (n+1) g v)(hvo:v.ok M)(hb:(v.cnt:Int)+3*c.left+3≤K)(hkd:(Lit.int .i64 o.kind).wf=true)

end
end Go.Proofs.YtmlohboeoeoamaaGreatDoor.Va

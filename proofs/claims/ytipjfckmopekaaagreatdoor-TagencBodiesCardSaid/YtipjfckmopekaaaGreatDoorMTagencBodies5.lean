/- Parts of the proof, in order. -/
import Derived.Test.YtipjfckmopekaaaGreatDoorMTagencBodies4

set_option linter.unusedSimpArgs false
namespace Go.Proofs.YtipjfckmopekaaaGreatDoor.Va
open Go Am Rc Bt Br Up So

theorem Ps {fr:Nat→Ob}{a b:Nat}(h1:(fr a).isRow=false)(h2:(fr b).isRow=false):∀s∈[a,b],(fr s).isRow=false:=by
 intro s hs;simp only[QV8,QWO,or_false]at hs;rcases hs with rfl|rfl
 ·exact h1
 ·exact h2
theorem Un {fr:Nat→Ob}{a:Nat}(h1:(fr a).isRow=false):∀s∈[a],(fr s).isRow=false:=by
 intro s hs;simp only[QV8,QWO,or_false]at hs;subst hs;exact h1

theorem isr {x:Ob}(h:x=.none):x.isRow=false:=by rw[h];rfl

def Zp (nm:PG→V→V)(P:PL)(o:PO)(s:Int×V):List (Int×V):=if (s.1==o.num)=true then Zw nm P o s else []
theorem DQ (nm:PG→V→V)(P:PL)(o:PO):∀l:List (Int×V),(l.flatMap (Zp nm P o)).length≤l.length
 | []=>QUK _
 |s :: l=>by
  have h1:(Zp nm P o s).length≤1:=by
   unfold Zp;split
   ·unfold Zw;split<;>simp
   ·simp
  have:=DQ nm P o l;rw[QWf,QVo,QU1];omega

def J6 (v:V):List AV:=[.int .i64 v.kd,.int .u64 (v.bits:Nat),.str v.text,.list (v.list.map V.av),.list (v.pairs.map V.pav),.list (v.slots.map V.sav),.list (v.raws.map R.av)]

theorem RE {P:PL}{v:V}{o:PO}{n:Nat}{ti i:Nat}(K:List (Int×V))(hK:K.length≤64)(hS:v.slots.length≤1048576)(rw':List R)
  (hw:∀x∈v.slots,x.1=o.num→Qj Tryz.prog 70 [P.av,Qt o,x.2.av] (ZL (Xd P n) P o x.2).av)
  (fr:Nat→Ob) (f:Fr) (gs:Nat) (h1:f 1=.int .i64 (ti:Nat)) (h3:f 3=.ptr 0 3 0) (h5:f 5=.ptr 0 5 0) (h6:f 6=.ptr 0 6 0) (h7:f 7=.ptr 0 7 0) (h8:f 8=.int .i64 (i:Nat)) (h9:f 9=.ptr 0 9 0) (h10:f 10=.int .i64 0) (m3:fr 3=.cells [.list (P.progs.map Qn),.list (P.enums.map Qr)]) (m5:fr 5=.cells (J6 v)) (m6:fr 6=.cells [.int .i64 0,.int .u64 0,.str [],.nils,.nils,.nils,.nils]) (m7:fr 7=.cells [.int .i64 10,.int .u64 0,.str [],.nils,.nils,.vec 0 1100 gs 0 K.length false,.list (rw'.map R.av)]) (m9:fr 9=.cells o.cells) (mS:fr 1100=.vec gs 8 (K.map V.sav)) (Z6:∀s∈[11],(fr s).isRow=false)
  (Q:Exit→St→Prop)
  (q:∀(f:Fr) (fr:Nat→Ob) (gs:Nat),f 1=.int .i64 (ti:Nat)→f 3=.ptr 0 3 0→f 5=.ptr 0 5 0→f 6=.ptr 0 6 0→f 7=.ptr 0 7 0→f 8=.int .i64 (i:Nat)→fr 3=.cells [.list (P.progs.map Qn),.list (P.enums.map Qr)]→fr 5=.cells (J6 v)→fr 6=.cells [.int .i64 0,.int .u64 0,.str [],.nils,.nils,.nils,.nils]→fr 7=.cells [.int .i64 10,.int .u64 0,.str [],.nils,.nils,.vec 0 1100 gs 0 (K++v.slots.flatMap (Zp (Xd P n) P o)).length false,.list (rw'.map R.av)]→fr 1100=.vec gs 8 ((K++v.slots.flatMap (Zp (Xd P n) P o)).map V.sav)→(fr 9).isRow=false→(fr 11).isRow=false→Q (.exit 2) (⟨f,[fr],[]⟩:St)) :
  QI Tryz.prog (.loop R2) ⟨f,[fr],[]⟩ Q:=by
 have e0:P.av=.agg [.list (P.progs.map Qn),.list (P.enums.map Qr)]:=rfl
 let L:Nat→List (Int×V):=fun k=>K++(v.slots.take k).flatMap (Zp (Xd P n) P o)
 have hL0:L 0=K:=by simp[L]
 have hLn:L v.slots.length=K++v.slots.flatMap (Zp (Xd P n) P o):=by simp[L]
 have hLl:∀k,k≤v.slots.length→(L k).length≤64+k:=by
  intro k hk;have:=DQ (Xd P n) P o (v.slots.take k);rw[QVJ]at this;simp only[L,QVo];omega
 have hLs:∀k x,v.slots[k]? = some x→L (k+1)=L k++Zp (Xd P n) P o x:=by
  intro k x hx;simp only[L];rw[QWu,hx,QWR,QU7];simp
 rw[←hLn]at q;rw[←hL0]at m7 mS
 clear_value L
 clear hL0 hLn hK
 let I:Nat→St→Prop:=fun d st=>∃f fr k gs,st=⟨f,[fr],[]⟩∧d=v.slots.length-k∧k≤v.slots.length∧f 1=.int .i64 (ti:Nat)∧f 3=.ptr 0 3 0∧f 5=.ptr 0 5 0∧f 6=.ptr 0 6 0∧f 7=.ptr 0 7 0∧f 8=.int .i64 (i:Nat)∧f 9=.ptr 0 9 0∧f 10=.int .i64 (k:Nat)∧fr 3=.cells [.list (P.progs.map Qn),.list (P.enums.map Qr)]∧fr 5=.cells (J6 v)∧fr 6=.cells [.int .i64 0,.int .u64 0,.str [],.nils,.nils,.nils,.nils]∧fr 7=.cells [.int .i64 10,.int .u64 0,.str [],.nils,.nils,.vec 0 1100 gs 0 (L k).length false,.list (rw'.map R.av)]∧fr 9=.cells o.cells∧fr 1100=.vec gs 8 ((L k).map V.sav)∧∀s∈[11],(fr s).isRow=false
 refine Qd I _ ⟨f,fr,0,gs,rfl,rfl,QUU _,h1,h3,h5,h6,h7,h8,h9,h10,m3,m5,m6,m7,m9,mS,Z6⟩ ?_;clear h1 h3 h5 h6 h7 h8 h9 h10 m3 m5 m6 m7 m9 mS Z6;rintro _ st ⟨f0,fr0,k,gs,rfl,rfl,hkl,h10,h30,h50,h60,h70,h80,h90,h100,m30,m50,m60,m70,m90,mS0,Z6⟩;refine QO (a:=_) [11] Z6 ?_;intro f fr hf hm hn11;have h1:f 1=.int .i64 (ti:Nat):=by rw[hf,h10]<;>rfl
 have h3:f 3=.ptr 0 3 0:=by rw[hf,h30]<;>rfl
 have h5:f 5=.ptr 0 5 0:=by rw[hf,h50]<;>rfl
 have h6:f 6=.ptr 0 6 0:=by rw[hf,h60]<;>rfl
 have h7:f 7=.ptr 0 7 0:=by rw[hf,h70]<;>rfl
 have h8:f 8=.int .i64 (i:Nat):=by rw[hf,h80]<;>rfl
 have h9:f 9=.ptr 0 9 0:=by rw[hf,h90]<;>rfl
 have h10':f 10=.int .i64 (k:Nat):=by rw[hf,h100]<;>rfl
 have m3:fr 3=.cells [.list (P.progs.map Qn),.list (P.enums.map Qr)]:=by rw[hm 3 (by decide),m30]<;>rfl
 have m5':fr 5=.cells (J6 v):=by rw[hm 5 (by decide),m50]<;>rfl
 have m6:fr 6=.cells [.int .i64 0,.int .u64 0,.str [],.nils,.nils,.nils,.nils]:=by rw[hm 6 (by decide),m60]<;>rfl
 have m7:fr 7=.cells [.int .i64 10,.int .u64 0,.str [],.nils,.nils,.vec 0 1100 gs 0 (L k).length false,.list (rw'.map R.av)]:=by rw[hm 7 (by decide),m70]<;>rfl
 have m9':fr 9=.cells o.cells:=by rw[hm 9 (by decide),m90]<;>rfl
 have mS:fr 1100=.vec gs 8 ((L k).map V.sav):=by rw[hm 1100 (by decide),mS0]<;>rfl
 have n11:=hn11 11 (by decide);clear hf hm hn11 h10 h30 h50 h60 h70 h80 h90 h100 m30 m50 m60 m70 m90 mS0 Z6;have m5:=m5';have m9:=m9';simp only[J6]at m5;simp only[PO.cells]at m9;simp only[QVH,h5,h10',m5,eE,seval];by_cases hlt:k<v.slots.length
 ·obtain⟨x,hi⟩:∃x,v.slots[k]? = some x:=⟨v.slots[k],QUN hlt⟩;have hx:=QUZ hi;have hgs:=Kp hi;have e1:=Qq k _ hlt (by simp only[maxLen];omega);have hKs:=hLs k x hi;have hKi:=hLl k (by omega);have fin:∀(f':Fr) (fr':Nat→Ob) (gs':Nat),f' 1=.int .i64 (ti:Nat)→f' 3=.ptr 0 3 0→f' 5=.ptr 0 5 0→f' 6=.ptr 0 6 0→f' 7=.ptr 0 7 0→f' 8=.int .i64 (i:Nat)→f' 9=.ptr 0 9 0→f' 10=.int .i64 ((k+1:Nat):Int)→fr' 3=.cells [.list (P.progs.map Qn),.list (P.enums.map Qr)]→fr' 5=.cells (J6 v)→fr' 6=.cells [.int .i64 0,.int .u64 0,.str [],.nils,.nils,.nils,.nils]→fr' 7=.cells [.int .i64 10,.int .u64 0,.str [],.nils,.nils,.vec 0 1100 gs' 0 (L (k+1)).length false,.list (rw'.map R.av)]→fr' 9=.cells o.cells→fr' 1100=.vec gs' 8 ((L (k+1)).map V.sav)→(∀s∈[11],(fr' s).isRow=false)→∃d,d<v.slots.length-k∧I d ⟨f',[fr'],[]⟩:=by
   intro f' fr' gs' a1 a3 a5 a6 a7 a8 a9 a10 b3 b5 b6 b7 b9 bS br;exact⟨v.slots.length-(k+1),by omega,f',fr',k+1,gs',rfl,rfl,by omega,a1,a3,a5,a6,a7,a8,a9,a10,b3,b5,b6,b7,b9,bS,br⟩
  cases hne:(x.1==o.num)
  ·have bn:(x.1 != o.num)=true:=by simp[bne,hne]
   unfold Zp at hKs;rw[hne,QU0 (by simp),QVP]at hKs;simp only[Qm hlt,Qi,QWd,Qc,hgs,bn,QVt,h5,h9,h10',m5,m9,e1,eE,seval];exact fin _ _ gs (by exact h1) (by exact h3) (by exact h5) (by exact h6) (by exact h7) (by exact h8) (by exact h9) (by rfl) (by exact m3) (by exact m5') (by exact m6) (by rw[hKs];exact(by exact m7)) (by exact m9') (by rw[hKs];exact(by exact mS)) (Un (isr (by exact n11)))
  ·have bn:(x.1 != o.num)=false:=by simp[bne,hne]
   unfold Zp at hKs;rw[hne,QVf rfl]at hKs;unfold Zw at hKs;have c2:=hw x hx (by simpa using hne);have c3:=QHn (ZL (Xd P n) P o x.2);generalize ZL (Xd P n) P o x.2=z at c2 c3 hKs;rw[e0,Qy x.2,Qy z]at c2;rw[Qy z]at c3;simp only[Qt,PO.cells]at c2;simp only[Qm hlt,Qi,QWd,Qc,hgs,bn,QVj,QVm,QVt,h3,h5,h9,h10',m3,m5,m9,eE,seval];refine Qb c2 rfl rfl rfl (.inl rfl) ?_;simp only[n11,h9,m9,eE,seval];cases hb:decide (o.card<3)
   ·rw[hb,QWr]at hKs;simp only[eE,seval];refine Qb c3 rfl rfl rfl (.inl rfl) ?_;cases hz:z.emp
    ·rw[hz,QVf (show(!false)=true from rfl)]at hKs;simp only[h7,h9,m7,m9,eE,seval];refine QP (l:=[V.sav (o.num,z)]) rfl rfl rfl (by rw[ZQ];rfl) ?_;refine QH (site:=1100) (g:=gs) (n:=(L k).length) (xs:=(L k).map V.sav) (ys:=[V.sav (o.num,z)]) (by rfl) (by exact mS) rfl (by rw[QVH]) rfl (WV [(o.num,z)]) (by simp only[QU1,QVI,maxLen];omega) (by simp only[QU1,QVI];omega) ?_;simp only[h7,h10',m7,e1,eE,seval];exact fin _ _ (gs+1) (by exact h1) (by exact h3) (by exact h5) (by exact h6) (by exact h7) (by exact h8) (by exact h9) (by rfl) (by exact m3) (by exact m5') (by exact m6) (by rw[hKs,QVo];exact(by rfl)) (by exact m9') (by rw[hKs,QWt];exact(by rfl)) (Un rfl)
    ·rw[hz,QU0 (by simp),QVP]at hKs;simp only[h10',e1,Qa,seval];exact fin _ _ gs (by exact h1) (by exact h3) (by exact h5) (by exact h6) (by exact h7) (by exact h8) (by exact h9) (by rfl) (by exact m3) (by exact m5') (by exact m6) (by rw[hKs];exact(by exact m7)) (by exact m9') (by rw[hKs];exact(by exact mS)) (Un rfl)
   ·rw[hb,QWq,QVf rfl]at hKs;simp only[h7,h9,m7,m9,eE,seval];refine QP (l:=[V.sav (o.num,z)]) rfl rfl rfl (by rw[ZQ];rfl) ?_;refine QH (site:=1100) (g:=gs) (n:=(L k).length) (xs:=(L k).map V.sav) (ys:=[V.sav (o.num,z)]) (by rfl) (by exact mS) rfl (by rw[QVH]) rfl (WV [(o.num,z)]) (by simp only[QU1,QVI,maxLen];omega) (by simp only[QU1,QVI];omega) ?_;simp only[h7,h10',m7,e1,eE,seval];exact fin _ _ (gs+1) (by exact h1) (by exact h3) (by exact h5) (by exact h6) (by exact h7) (by exact h8) (by exact h9) (by rfl) (by exact m3) (by exact m5') (by exact m6) (by rw[hKs,QVo];exact(by rfl)) (by exact m9') (by rw[hKs,QWt];exact(by rfl)) (Un rfl)
 ·have e:k=v.slots.length:=by omega
  subst e;simp only[QB hlt,Qa,seval];exact q _ _ gs (by exact h1) (by exact h3) (by exact h5) (by exact h6) (by exact h7) (by exact h8) (by exact m3) (by exact m5') (by exact m6) (by exact m7) (by exact mS) (by rw[m9'];rfl) (isr n11)

def NoI (P:PL)(v:V)(K:Nat→List (Int×V))(len:Nat)(t:Nat)(rw':List R)(d:Nat)(st:St):Prop :=
 ∃f fr i gs,st=⟨f,[fr],[]⟩∧d=len-i∧i≤len∧f 1=.int .i64 (t:Nat)∧f 3=.ptr 0 3 0∧f 5=.ptr 0 5 0∧f 6=.ptr 0 6 0∧f 7=.ptr 0 7 0∧f 8=.int .i64 (i:Nat)∧fr 3=.cells [.list (P.progs.map Qn),.list (P.enums.map Qr)]∧fr 5=.cells (J6 v)∧fr 6=.cells [.int .i64 0,.int .u64 0,.str [],.nils,.nils,.nils,.nils]∧fr 7=.cells [.int .i64 10,.int .u64 0,.str [],.nils,.nils,.vec 0 1100 gs 0 (K i).length false,.list (rw'.map R.av)]∧fr 1100=.vec gs 8 ((K i).map V.sav)∧∀s∈[11,9],(fr s).isRow=false

section
variable {M:Nat}{P:PL}

set_option maxHeartbeats 2000000 in
theorem v35 (hU:YO P)(hr:Kv P)(hl:∀g∈P.progs,g.ops.length≤64):∀(n:Nat) (t:Int) (g:PG),P.progs[t.toNat]? = some g→0≤t→∀v:V,v.ok M→v.cnt≤1048576→MW P n g v→Qj Tryz.prog 35 [P.av,.int .i64 t,v.av] (Xd P n g v).av:=by
 have e0:P.av=.agg [.list (P.progs.map Qn),.list (P.enums.map Qr)]:=rfl;intro n
 induction n with
 |zero=>
  intro t g _ _ v _ _ h;exact h.elim
 |succ n ih=>
  intro t g hgt t0 v hv hc h;have hgm:=QUZ hgt;have hu:=hU g hgm;have hd:=hr g hgm;have hg64:=hl g hgm;obtain⟨s1,s2⟩:=h;have hnor:=fun(o:PO) (ho:o∈g.ops) (x:V) (hx:x.ok M) (hxc:x.cnt≤1048576) (he:EW (MW P n) P o x)=>QQs o (hu o ho) (fun t g a b v c d e=>ih t g a b v c d e) x hx hxc he
  have hwit:=fun(o:PO) (ho:o∈g.ops) (x:V) (hx:x.ok M) (hxc:x.cnt≤1048576) (he:FW (MW P n) P o x)=>v70 o (hu o ho) (hnor o ho) x hx hxc he
  have lS:=KE v;have lR:=Yy v;have cR:=v69 v.raws (by omega);obtain⟨ti,hti⟩:=QWp t0;subst hti;rw[QWd]at hgt;have hga:(P.progs.map Qn)[ti]? = some (.agg g.cells):=by simp[hgt,Qn]
  simp only[PG.cells]at hga;have htl:ti<P.progs.length:=(QUM.1 hgt).1;have d0:decide ((ti:Int)<0)=false:=QWx (by omega);have d1:decide ((ti:Int)≥(P.progs.length:Int))=false:=QWx (by omega);show Qj _ _ _ (V.mk 10 0 [] [] [] (g.ops.flatMap (Xv (Xd P n) P v.slots)) (Zs v.raws)).av;have hfin:g.ops.flatMap (Xv (Xd P n) P v.slots)=g.ops.flatMap fun o=>v.slots.flatMap (Zp (Xd P n) P o):=by
   congr 1
   funext o;exact(Bl (Xd P n) P s2).symm
  have hone:∀o,(v.slots.flatMap (Zp (Xd P n) P o)).length≤1:=by
   intro o;have e:v.slots.flatMap (Zp (Xd P n) P o)=Xv (Xd P n) P v.slots o:=Bl (Xd P n) P s2;rw[e,K4];split
   ·simp
   ·unfold Zw;split<;>simp
  rw[hfin];generalize Zs v.raws=RW at *;rw[show v.av=.agg (J6 v)from Qy v];generalize hK:(fun i=>(g.ops.take i).flatMap fun o=>v.slots.flatMap (Zp (Xd P n) P o))=K;have hK0:K 0=[]:=by rw[←hK];simp
  have hKn:(g.ops.flatMap fun o=>v.slots.flatMap (Zp (Xd P n) P o))=K g.ops.length:=by rw[←hK];simp
  have hKl:∀i,i≤g.ops.length→(K i).length≤64:=by
   intro i hi;rw[←hK];have:∀l:List PO,(l.flatMap fun o=>v.slots.flatMap (Zp (Xd P n) P o)).length≤l.length:=by
    intro l
    induction l with
    |nil=>exact QUK _
    |cons o l ih=>
     have:=hone o;rw[QWf,QVo,QU1];omega
   have h2:=this (g.ops.take i);rw[QVJ]at h2;show((g.ops.take i).flatMap _).length≤64;omega
  have hKs:∀i o,g.ops[i]? = some o→K (i+1)=K i++v.slots.flatMap (Zp (Xd P n) P o):=by
   intro i o ho;rw[←hK];show(g.ops.take (i+1)).flatMap _=(g.ops.take i).flatMap _++_;rw[QWu,ho,QWR];simp
  rw[hKn,show(V.mk 10 0 [] [] [] (K g.ops.length) RW).av=.agg [.int .i64 10,.int .u64 0,.str [],.list [],.list [],.list ((K g.ops.length).map V.sav),.list (RW.map R.av)]from Qy _];clear hKn hfin hone;refine k35.fn (by simp) ?_;simp only[e0,J6,d0,d1,QVH,eE,seval];refine Qb cR rfl rfl rfl (.inl rfl) ?_;simp only[eE,seval];refine JF (by simp only[Qa,seval]<;>rfl) rfl (by simp only[Qa,seval]<;>rfl) rfl ?_;simp only[List.set,Qa,seval];refine Qd (NoI P v K g.ops.length ti RW) _ ⟨_,_,0,_,rfl,rfl,QUU _,(by rfl),(by rfl),(by rfl),(by rfl),(by rfl),(by rfl),(by rfl),(by rfl),(by rfl),(by rw[hK0];exact(by rfl)),(by rw[hK0];exact(by rfl)),Ps rfl rfl⟩ ?_;rintro _ st ⟨f0,fr0,i,gs,rfl,rfl,hil,h10,h30,h50,h60,h70,h80,m30,m50,m60,m70,mS0,Z6⟩;refine QO (a:=_) [11,9] Z6 ?_;intro f fr hf hm hn11;have h1:f 1=.int .i64 (ti:Nat):=by rw[hf,h10]<;>rfl
  have h3:f 3=.ptr 0 3 0:=by rw[hf,h30]<;>rfl
  have h5:f 5=.ptr 0 5 0:=by rw[hf,h50]<;>rfl
  have h6:f 6=.ptr 0 6 0:=by rw[hf,h60]<;>rfl
  have h7:f 7=.ptr 0 7 0:=by rw[hf,h70]<;>rfl
  have h8:f 8=.int .i64 (i:Nat):=by rw[hf,h80]<;>rfl
  have m3:fr 3=.cells [.list (P.progs.map Qn),.list (P.enums.map Qr)]:=by rw[hm 3 (by decide),m30]<;>rfl
  have m5:fr 5=.cells (J6 v):=by rw[hm 5 (by decide),m50]<;>rfl
  have m6:fr 6=.cells [.int .i64 0,.int .u64 0,.str [],.nils,.nils,.nils,.nils]:=by rw[hm 6 (by decide),m60]<;>rfl
  have m7:fr 7=.cells [.int .i64 10,.int .u64 0,.str [],.nils,.nils,.vec 0 1100 gs 0 (K i).length false,.list (RW.map R.av)]:=by rw[hm 7 (by decide),m70]<;>rfl
  have mS:fr 1100=.vec gs 8 ((K i).map V.sav):=by rw[hm 1100 (by decide),mS0]<;>rfl
  have n11:=hn11 11 (by decide);have n9:=hn11 9 (by decide);clear hf hm hn11 h10 h30 h50 h60 h70 h80 m30 m50 m60 m70 mS0 Z6;simp only[Qi,QWd,Qc,hga,QVH,QVm,QVt,h1,h3,h8,m3,eE,seval];by_cases hlt:i<g.ops.length
  ·obtain⟨o,hi⟩:∃o,g.ops[i]? = some o:=⟨g.ops[i],QUN hlt⟩;have hom:=QUZ hi;have hgo:(g.ops.map fun o=>AV.agg o.cells)[i]? = some (.agg o.cells):=by simp[hi]
   simp only[PO.cells]at hgo;have e1:=Qq i _ hlt (by simp only[maxLen];omega);have hKi:=hKl i (by omega);have hKs':=hKs i o hi;simp only[Qm hlt,Qi,QWd,Qc,hga,PO.cells,hgo,n9,h1,h3,h8,m3,eE,seval];refine RE (P:=P) (v:=v) (o:=o) (n:=n) (ti:=ti) (i:=i) (K i) hKi (by omega) RW (fun x hx hxn=>by
    obtain⟨o',ho',hf'⟩:=s1 x hx;rw[hxn,Ze hd hom]at ho';cases ho';exact hwit o hom x.2 (hv.slots x hx) (QUL (Yx hx) hc) hf') _ _ gs (by exact h1) (by exact h3) (by exact h5) (by exact h6) (by exact h7) (by exact h8) (by rfl) (by rfl) (by exact m3) (by exact m5) (by exact m6) (by exact m7) (by rfl) (by exact mS) (Un (isr (by exact n11))) _ ?_
   clear h1 h3 h5 h6 h7 h8 m3 m5 m6 m7 mS n11 n9;intro f fr gs h1 h3 h5 h6 h7 h8 m3 m5 m6 m7 mS n9 n11;rw[←hKs']at m7 mS;simp only[h8,e1,Qa,seval];exact⟨g.ops.length-(i+1),by omega,_,_,i+1,gs,rfl,rfl,by omega,(by exact h1),(by exact h3),(by exact h5),(by exact h6),(by exact h7),(by rfl),m3,m5,m6,m7,mS,Ps n11 n9⟩
  ·have e:i=g.ops.length:=by omega
   subst e;simp only[QB hlt,h6,h7,m6,m7,eE,seval];simp[AV.un,AV.unL,X7,Xq,mS,QVk]

end

theorem Pt {M:Nat}{v:V}(h:v.ok M):v.nsc.ok M:=by
 refine .mk h.kd ?_ h.text h.nl h.np h.ns h.nr h.list h.keys h.vals h.nums h.slots h.raws;show(Lit.int .u64 ((XD v.kd v.bits:Nat):Int)).wf=true;unfold XD;split
 ·rfl
 ·exact h.bits

def Gd (g:PG):Prop:=g.ops.length≤64∧∀o∈g.ops,(Lit.int .i64 o.num).wf=true

section
variable {M:Nat}{P:PL}{nm:PG→V→V}(h:∀t v,v.ok M→(nm (Q8 P t) v).ok M)
include h
theorem BR (o:PO){v:V}(hv:v.ok M):(Zu nm P o v).ok M:=by
 unfold Zu;split
 ·exact h _ v hv
 ·exact Pt hv
theorem QwR (o:PO){v:V}(hv:v.ok M):(ZL nm P o v).ok M:=by
 unfold ZL;split
 ·refine .mk rfl rfl (QUU _) ?_ (QUU _) (QUU _) (QUU _) ?_ (fun x hx=>nomatch hx) (fun x hx=>nomatch hx) (fun x hx=>nomatch hx) (fun x hx=>nomatch hx) (fun x hx=>nomatch hx)
  ·show(v.list.map _).length≤_;rw[QVH];exact hv.nl
  ·intro x hx;obtain⟨y,hy,rfl⟩:=QV6.1 hx;exact BR h o (hv.list y hy)
 ·split
  ·have hp:(Xe o.key v.pairs).Perm v.pairs:=Xa _;refine .mk rfl rfl (QUU _) (QUU _) ?_ (QUU _) (QUU _) (fun x hx=>nomatch hx) ?_ ?_ (fun x hx=>nomatch hx) (fun x hx=>nomatch hx) (fun x hx=>nomatch hx)
   ·show((Xe o.key v.pairs).map _).length≤_;rw[QVH,hp.length_eq];exact hv.np
   ·intro x hx;obtain⟨y,hy,rfl⟩:=QV6.1 hx;exact Pt (hv.keys y (hp.mem_iff.1 hy))
   ·intro x hx;obtain⟨y,hy,rfl⟩:=QV6.1 hx;exact BR h o (hv.vals y (hp.mem_iff.1 hy))
  ·exact BR h o hv
theorem LS {g:PG}(hg:Gd g){v:V}(hv:v.ok M):(Hs nm P g v).ok M:=by
 unfold Hs;have hp:(Zs v.raws).Perm v.raws:=Xa _;have hs:∀x∈g.ops.flatMap (Xv nm P v.slots),(Lit.int .i64 x.1).wf=true∧x.2.ok M:=by
  intro x hx;obtain⟨o,ho,hx⟩:=QVx.1 hx;obtain⟨e1,s,hs,_,e2⟩:=ZM hx;rw[e1,e2];exact⟨hg.2 o ho,QwR h o (hv.slots s hs)⟩
 have hl:∀l:List PO,(l.flatMap (Xv nm P v.slots)).length≤l.length:=by
  intro l
  induction l with
  |nil=>exact QUK _
  |cons o l ih=>
   have:(Xv nm P v.slots o).length≤1:=by
    unfold Xv;split
    ·simp
    ·split<;>simp
   rw[QWf,QVo,QU1];omega
 refine .mk rfl rfl (QUU _) (QUU _) (QUU _) ?_ ?_ (fun x hx=>nomatch hx) (fun x hx=>nomatch hx) (fun x hx=>nomatch hx) (fun x hx=>(hs x hx).1) (fun x hx=>(hs x hx).2) ?_
 ·show(g.ops.flatMap (Xv nm P v.slots)).length≤_;have:=hl g.ops;have:=hg.1;omega
 ·show(Zs v.raws).length≤_;rw[hp.length_eq];exact hv.nr
 ·intro x hx;exact hv.raws x (hp.mem_iff.1 hx)
end
theorem BS {M:Nat}{P:PL}(hg:∀t,Gd (Q8 P t)):∀(n:Nat) (t:Int) (v:V),v.ok M→(Xd P n (Q8 P t) v).ok M
 |0,_,_,h=>h
 |n+1,t,_,h=>LS (fun t v hv=>BS hg n t v hv) (hg t) h

theorem TS {M:Nat}{P:PL}(hP:P.ok M)(hl:∀g∈P.progs,g.ops.length≤64)(t:Int):Gd (Q8 P t):=by
 unfold Q8;cases hg:P.progs[t.toNat]? with
 |none=>exact⟨QUU _,fun o ho=>nomatch ho⟩
 |some g=>
  have hm:=QUZ hg;exact⟨hl g hm,fun o ho=>((hP.progs g hm).ops o ho).num⟩
theorem BT {P:PL}(h:ck P=0):∀g∈P.progs,g.ops.length≤64:=by
 unfold ck at h;split at h
 ·omega
 rename_i hl;exact(Y9 (by simpa using hl)).2.2.1

open Vp Cp

theorem QwS (x:V):ZT 0 x=Q7 x.kd x.bits x.text:=by
 unfold ZT Q7 zr
 repeat' split
 all_goals rfl
theorem Dr (bd:Int→V→List UInt8)(o:PO)(n:Int)(x:V):({ Q1 bd o 0 x with num:=n }:R)=Q1 bd o n x:=by
 unfold Q1;split
 ·rfl
 ·rfl
theorem QwT {α:Type}(l:List α)(F:α→R):(l.map fun x=>(F x).av)=(l.map F).map R.av:=by rw[QWw];rfl
theorem Zx {fr:Nat→Ob}{a:Nat}(h1:(fr a).isRow=false):∀s∈[a],(fr s).isRow=false:=by
 intro s hs;simp only[QV8,QWO,or_false]at hs;subst hs;exact h1

theorem Cg (n:Int)(f:R):Qj Tryz.prog 196 [.int .i64 n,f.av] ({ f with num:=n }:R).av:=by
 refine Qg4.fn (by simp) ?_;simp only[R.av,eE,seval]

theorem t25 {M:Nat}{v:V}(hv:v.ok M):Qj Tryz.prog 25 [v.av] (ZT 0 v).av:=by
 rw[QwS,Qy];exact y25 v.kd v.bits (TR hv) v.text _ _ _ _

section
variable {M:Nat}{P:PL}{m:PG→V→Int}{bd:Int→V→List UInt8}(o:PO)(ho:UO P o)

include ho in
theorem QQt (hb:∀(t:Int) (g:PG),P.progs[t.toNat]? = some g→0≤t→∀v:V,v.ok M→v.cnt≤1048576→m g v=0→Qj Tryz.prog 29 [P.av,.int .i64 t,v.av] (.str (bd t v)))(x:V)(hx:x.ok M)(hc:x.cnt≤1048576)(he:QT m P o x=0) :
  Qj Tryz.prog 197 [P.av,Qt o,x.av] (Q1 bd o 0 x).av:=by
 have e0:P.av=.agg [.list (P.progs.map Qn),.list (P.enums.map Qr)]:=rfl;unfold Q1;by_cases hk:o.kind=10
 ·have b:(o.kind==10)=true:=by simp[hk]
  rw[QVf hk];unfold QT at he;rw[QVf hk]at he;obtain⟨t0,t1⟩:=ho.tgt hk;obtain⟨g,hg⟩:∃g,P.progs[o.target.toNat]? = some g:=⟨P.progs[o.target.toNat]'(by omega),QUN (by omega)⟩;have hq:Q8 P o.target=g:=by unfold Q8;rw[hg];rfl
  rw[hq]at he;have h2:=hb o.target g hg t0 x hx hc he;rw[e0,Qy]at h2;rw[Qy];refine PW.fn (by simp) ?_;simp only[e0,Qt,PO.cells,b,R.av,eE,seval];refine Qb h2 rfl rfl rfl (.inl rfl) ?_;simp only[eE,seval]
 ·have b:(o.kind==10)=false:=by simp[hk]
  rw[QU0 hk];have h1:=t25 hx;generalize ZT 0 x=z at h1 ⊢;rw[Qy]at h1;rw[Qy];simp only[R.av]at h1;refine PW.fn (by simp) ?_;simp only[e0,Qt,PO.cells,b,R.av,eE,seval];refine Qb h1 rfl rfl rfl (.inl rfl) ?_;simp only[eE,seval]

def QQu (P:PL)(o:PO)(l:List V)(F:V→R)(k:Nat)(st:St):Prop :=
 ∃f fr i g,st=⟨f,[fr],[]⟩∧k=l.length-i∧i≤l.length∧f 3=.ptr 0 3 0∧f 4=.ptr 0 4 0∧f 7=.vec 0 7 g 0 i false∧f 11=.list (l.map V.av)∧f 12=.int .i64 (l.length:Nat)∧f 13=.int .i64 (i:Nat)∧fr 3=.cells [.list (P.progs.map Qn),.list (P.enums.map Qr)]∧fr 4=.cells o.cells∧fr 7=.vec g 4 ((l.take i).map fun x=>(F x).av)∧∀s∈[9],(fr s).isRow=false

def QQv (P:PL)(o:PO)(l:List (V×V))(F:V×V→R)(k:Nat)(st:St):Prop :=
 ∃f fr i g,st=⟨f,[fr],[]⟩∧k=l.length-i∧i≤l.length∧f 3=.ptr 0 3 0∧f 4=.ptr 0 4 0∧f 7=.vec 0 7 g 0 i false∧f 12=.list (l.map V.pav)∧f 13=.int .i64 (l.length:Nat)∧f 14=.int .i64 (i:Nat)∧fr 3=.cells [.list (P.progs.map Qn),.list (P.enums.map Qr)]∧fr 4=.cells o.cells∧fr 7=.vec g 4 ((l.take i).map fun x=>(F x).av)∧∀s∈[9],(fr s).isRow=false

theorem QQw (hel:∀x:V,x.ok M→x.cnt≤1048576→QT m P o x=0→Qj Tryz.prog 197 [P.av,Qt o,x.av] (Q1 bd o 0 x).av)(v:V)(hv:v.ok M)(hc:v.cnt≤1048576)(hL:∀x∈v.list,QT m P o x=0) :
  Qj Tryz.prog 121 [P.av,Qt o,v.av] (.list ((v.list.map (Q1 bd o o.num)).map R.av)):=by
 have e0:P.av=.agg [.list (P.progs.map Qn),.list (P.enums.map Qr)]:=rfl;have hlen:=JJ v;rw[Qy v];refine QKs.fn (by simp) ?_;simp only[e0,Qt,PO.cells,eE,seval];refine XK rfl rfl ?_;simp only[QVH,eE,seval];refine Qd (QQu P o v.list (Q1 bd o o.num)) _ ⟨_,_,0,_,rfl,rfl,QUU _,(by rfl),(by rfl),(by rfl),(by rfl),(by rfl),(by rfl),(by rfl),(by rfl),(by rfl),Zx rfl⟩ ?_;rintro _ st ⟨f0,fr0,i,g,rfl,rfl,hil,h30,h40,h70,h110,h120,h130,m30,m40,mR0,r9⟩;refine QO (a:=_) [9] r9 ?_;intro f fr hf hm hn9;have h3:f 3=.ptr 0 3 0:=by rw[hf,h30]<;>rfl
 have h4:f 4=.ptr 0 4 0:=by rw[hf,h40]<;>rfl
 have h7:f 7=.vec 0 7 g 0 i false:=by rw[hf,h70]<;>rfl
 have h11:f 11=.list (v.list.map V.av):=by rw[hf,h110]<;>rfl
 have h12:f 12=.int .i64 (v.list.length:Nat):=by rw[hf,h120]<;>rfl
 have h13:f 13=.int .i64 (i:Nat):=by rw[hf,h130]<;>rfl
 have m3:fr 3=.cells [.list (P.progs.map Qn),.list (P.enums.map Qr)]:=by rw[hm 3 (by decide),m30]<;>rfl
 have m4':fr 4=.cells o.cells:=by rw[hm 4 (by decide),m40]<;>rfl
 have mR:fr 7=.vec g 4 ((v.list.take i).map fun x=>(Q1 bd o o.num x).av):=by rw[hm 7 (by decide),mR0]<;>rfl
 have n9:=hn9 9 (by decide);clear hf hm hn9 h30 h40 h70 h110 h120 h130 m30 m40 mR0 r9;have m4:=m4';simp only[PO.cells]at m4;simp only[h12,h13,Qa,seval];by_cases hlt:i<v.list.length
 ·obtain⟨x,hi⟩:∃x,v.list[i]? = some x:=⟨v.list[i],QUN hlt⟩;have hx:=QUZ hi;have hg:=Yu hi;have e1:=Qq i _ hlt (by simp only[maxLen];omega);have c1:=hel x (hv.list x hx) (QUL (Yw hx) hc) (hL x hx);have c2:=Cg o.num (Q1 bd o 0 x);rw[Dr]at c2;have hti:((v.list.take i).map fun x=>(Q1 bd o o.num x).av).length=i:=by rw[QVH,QVJ];omega
  have hts:(v.list.take (i+1)).map (fun x=>(Q1 bd o o.num x).av)=(v.list.take i).map (fun x=>(Q1 bd o o.num x).av)++[(Q1 bd o o.num x).av]:=by rw[QWu,hi];simp
  generalize Q1 bd o 0 x=y at c1 c2;generalize Q1 bd o o.num x=z at c2 hts;rw[e0,Qy x]at c1;simp only[Qt,PO.cells,R.av]at c1 c2;simp only[Qm hlt,Qi,QWd,Qc,hg,n9,h3,h4,h7,h11,h13,m3,m4,eE,seval];refine Qb c1 rfl rfl rfl (.inl rfl) ?_;refine Qb c2 rfl rfl rfl (.inl rfl) ?_;refine QP (l:=[z.av]) rfl rfl rfl rfl ?_;refine QH (site:=7) (g:=g) (n:=i) (xs:=(v.list.take i).map fun x=>(Q1 bd o o.num x).av) (ys:=[z.av]) (by rfl) (by exact mR) rfl hti.symm rfl (ZZ [z]) (by simp only[QU1,QVI,maxLen];omega) (by simp only[QU1,QVI];omega) ?_;simp only[h13,e1,Qa,seval];exact⟨v.list.length-(i+1),by omega,_,_,i+1,g+1,rfl,rfl,by omega,(by exact h3),(by exact h4),(by rfl),(by exact h11),(by exact h12),(by rfl),(by exact m3),(by exact m4'),(by rw[hts];exact(by rfl)),Zx rfl⟩
 ·have e:i=v.list.length:=by omega
  subst e;rw[QWl,QwT]at mR;simp only[QB hlt,h7,mR,eE,seval];simp[AV.un,X7,Xq,QVk]

include ho in
theorem QQx (hbd:∀(t:Int) (v:V),(0≤t∧t<(P.progs.length:Int))→m (Q8 P t) v=0→(bd t v).length+70000≤70000*v.cnt)(hel:∀x:V,x.ok M→x.cnt≤1048576→QT m P o x=0→Qj Tryz.prog 197 [P.av,Qt o,x.av] (Q1 bd o 0 x).av)(v:V)(hv:v.ok M)(hc:v.cnt≤1048576)(hE:∀p∈v.pairs,p.1.one P o.key (-1)=0∧QT m P o p.2=0) :
  Qj Tryz.prog 118 [P.av,Qt o,v.av] (.list ((v.pairs.map (ZG bd o)).map R.av)):=by
 have e0:P.av=.agg [.list (P.progs.map Qn),.list (P.enums.map Qr)]:=rfl;have hlen:=KD v;rw[Qy v];refine QKp.fn (by simp) ?_;simp only[e0,Qt,PO.cells,eE,seval];refine XK rfl rfl ?_;simp only[QVH,eE,seval];refine Qd (QQv P o v.pairs (ZG bd o)) _ ⟨_,_,0,_,rfl,rfl,QUU _,(by rfl),(by rfl),(by rfl),(by rfl),(by rfl),(by rfl),(by rfl),(by rfl),(by rfl),Zx rfl⟩ ?_;rintro _ st ⟨f0,fr0,i,g,rfl,rfl,hil,h30,h40,h70,h120,h130,h140,m30,m40,mR0,r9⟩;refine QO (a:=_) [9] r9 ?_;intro f fr hf hm hn9;have h3:f 3=.ptr 0 3 0:=by rw[hf,h30]<;>rfl
 have h4:f 4=.ptr 0 4 0:=by rw[hf,h40]<;>rfl
 have h7:f 7=.vec 0 7 g 0 i false:=by rw[hf,h70]<;>rfl
 have h12:f 12=.list (v.pairs.map V.pav):=by rw[hf,h120]<;>rfl
 have h13:f 13=.int .i64 (v.pairs.length:Nat):=by rw[hf,h130]<;>rfl
 have h14:f 14=.int .i64 (i:Nat):=by rw[hf,h140]<;>rfl
 have m3:fr 3=.cells [.list (P.progs.map Qn),.list (P.enums.map Qr)]:=by rw[hm 3 (by decide),m30]<;>rfl
 have m4':fr 4=.cells o.cells:=by rw[hm 4 (by decide),m40]<;>rfl
 have mR:fr 7=.vec g 4 ((v.pairs.take i).map fun x=>(ZG bd o x).av):=by rw[hm 7 (by decide),mR0]<;>rfl
 have n9:=hn9 9 (by decide);clear hf hm hn9 h30 h40 h70 h120 h130 h140 m30 m40 mR0 r9;have m4:=m4';simp only[PO.cells]at m4;simp only[h13,h14,Qa,seval];by_cases hlt:i<v.pairs.length
 ·obtain⟨x,hi⟩:∃x,v.pairs[i]? = some x:=⟨v.pairs[i],QUN hlt⟩;have hx:=QUZ hi;have hg:=Jw hi;have e1:=Qq i _ hlt (by simp only[maxLen];omega);have hcc:=UL hx;have hck:=NX hx;have c0:=t25 (hv.keys x hx);have c1:=Cg 1 (ZT 0 x.1);rw[show({ ZT 0 x.1 with num:=1 }:R)=ZT 1 x.1 from rfl]at c1;have c2:=hel x.2 (hv.vals x hx) (QUL hcc hc) (hE x hx).2;have c3:=Cg 2 (Q1 bd o 0 x.2);rw[Dr]at c3;have hpn:=YF (l:=[ZT 1 x.1,Q1 bd o 2 x.2]) (fun f hf=>by
   rcases QV8.1 hf with rfl|hf
   ·exact BP (hv.keys x hx) 1
   ·rw[QWI]at hf;subst hf;exact GQ (hv.vals x hx) bd o 2) (by have:=Dm hbd ho (hE x hx).1 (hE x hx).2;omega)
  have c4:=c58 [ZT 1 x.1,Q1 bd o 2 x.2] hpn.1 hpn.2.1 hpn.2.2;have hen:ZG bd o x=⟨o.num,6,0,QY [ZT 1 x.1,Q1 bd o 2 x.2]⟩:=rfl;have hti:((v.pairs.take i).map fun x=>(ZG bd o x).av).length=i:=by rw[QVH,QVJ];omega
  have hts:(v.pairs.take (i+1)).map (fun x=>(ZG bd o x).av)=(v.pairs.take i).map (fun x=>(ZG bd o x).av)++[(ZG bd o x).av]:=by rw[QWu,hi];simp
  rw[hen]at hts;clear hpn hen;generalize ZT 0 x.1=y0 at c0 c1;generalize Q1 bd o 0 x.2=y2 at c2 c3;generalize ZT 1 x.1=z1 at c1 c4 hts;generalize Q1 bd o 2 x.2=z2 at c3 c4 hts;generalize QY [z1,z2]=d at c4 hts;rw[Qy x.1]at c0;rw[e0,Qy x.2]at c2;simp only[Qt,PO.cells,R.av,KU,QVi,QVN]at c0 c1 c2 c3 c4;simp only[Qm hlt,Qi,QWd,Qc,hg,n9,h12,h14,eE,seval];refine Qb c0 rfl rfl rfl (.inl rfl) ?_;refine Qb c1 rfl rfl rfl (.inl rfl) ?_;simp only[h3,h4,m3,m4,eE,seval];refine Qb c2 rfl rfl rfl (.inl rfl) ?_;refine Qb c3 rfl rfl rfl (.inl rfl) ?_;refine QP (l:=[z1.av,z2.av]) rfl rfl rfl rfl ?_;simp only[h4,h7,m4,eE,seval];refine Qb c4 rfl rfl rfl (.inl rfl) ?_;simp only[eE,seval];refine QP (l:=[(R.mk o.num 6 0 d).av]) rfl rfl rfl rfl ?_;refine QH (site:=7) (g:=g) (n:=i) (xs:=(v.pairs.take i).map fun x=>(ZG bd o x).av) (ys:=[(R.mk o.num 6 0 d).av]) (by rfl) (by exact mR) rfl hti.symm rfl (ZZ [_]) (by simp only[QU1,QVI,maxLen];omega) (by simp only[QU1,QVI];omega) ?_;simp only[h14,e1,Qa,seval];exact⟨v.pairs.length-(i+1),by omega,_,_,i+1,g+1,rfl,rfl,by omega,(by exact h3),(by exact h4),(by rfl),(by exact h12),(by exact h13),(by rfl),(by exact m3),(by exact m4'),(by rw[hts];exact(by rfl)),Zx rfl⟩
 ·have e:i=v.pairs.length:=by omega
  subst e;rw[QWl,QwT]at mR;simp only[QB hlt,h7,mR,eE,seval];simp[AV.un,X7,Xq,QVk]

end
end Go.Proofs.YtipjfckmopekaaaGreatDoor.Va

namespace Go.Proofs.YtipjfckmopekaaaGreatDoor.Va
open Go Am Rc Bt Vp Cp Up

end Go.Proofs.YtipjfckmopekaaaGreatDoor.Va

namespace Go.Proofs.YtipjfckmopekaaaGreatDoor.Va
open Go Am Rc Bt Vp Cp

theorem LT (n:Nat):(n:Int).tmod 256=((n % 256:Nat):Int):=by
 rw[QWK (by omega)];omega

theorem LU (n:Nat)(h:n<18446744073709551616):IntKind.u64.wrap ((n:Int).tdiv 256)=((n / 256:Nat):Int):=by
 rw[Int.tdiv_eq_ediv_of_nonneg (by omega),Ja];omega

theorem QwV (n:Nat):IntKind.u8.wrap ((n % 256:Nat):Int)=((UInt8.ofNat (n % 256)).toNat:Int):=by
 rw[MG,toNat_ofNat _ (by omega)];omega

def Pu (u0:Nat)(k:Nat)(st:St):Prop :=
 ∃f fr u g i l,st=⟨f,[fr],[]⟩∧k=8-i∧i≤8∧f 0=.int .u64 (u:Nat)∧f 3=.vec 0 3 g 0 l.length false∧f 4=.int .i64 (i:Nat)∧fr 3=.vec g 1 (bl l)∧u<18446744073709551616∧l.length=i∧l++fx (8-i) u=fx 8 u0

theorem c66 (u:Nat)(hu:u<18446744073709551616):Qj Tryz.prog 66 [.int .u64 u] (.str (fx 8 u)):=by
 refine k66.fn (by simp) ?_;simp only[Qa,seval];refine XK rfl rfl ?_;simp only[Qa,seval];refine Qd (Pu u) 8 ⟨_,_,u,1,0,[],rfl,rfl,by omega,rfl,rfl,rfl,rfl,hu,rfl,rfl⟩ ?_;rintro n st ⟨f,fr,v,g,i,l,rfl,rfl,hi,h0,h3,h4,hv,hlt,hll,hl⟩;simp only[h4,Qa,seval];refine Q0 (fun h=>?_) (fun h=>?_)
 ·have h:i<8:=by(have h:(i:Int)<8:=(by simpa using h));omega
  have e1:IntKind.i64.wrap ((i:Int)+1)=((i+1:Nat):Int):=by rw[QG];omega
  simp only[h0,h3,LT,QwV,seval,Qa];refine JL rfl ?_;refine QH rfl hv rfl (KH l).symm rfl rfl (by simp[maxLen];omega) (by simp;omega) ?_;simp only[h0,h4,LU v hlt,seval,e1,Qa];refine⟨8-(i+1),by omega,_,_,v / 256,g+1,i+1,l++[UInt8.ofNat (v % 256)],rfl,rfl,by omega,?_,?_,?_,?_,by omega,by simp[hll],?_⟩
  ·simp only[h0,Qa,seval]
  ·simp only[QVo,QU1,QVI,Qa,seval]
  ·simp only[Qa,seval]
  ·simp only[QR,KG]<;>rfl
  ·obtain⟨j,hj⟩:∃j,8-i=j+1:=⟨7-i,by omega⟩;rw[←hl,hj,show 8-(i+1)=j by omega,fx];simp
 ·have h:i=8:=by(have h:¬(i:Int)<8:=(by simpa using h));omega
  subst h;have he:=JM (m:=[]) (fr:=fr) (site:=3) (g:=g) (sz:=1) (n:=l.length) (q:=false) hv (by simp[bl]);have hb:bytesOf (bl l)=some l:=Jq l;simp only[h3,he,hb,Qa,seval];rw[←hl];simp[fx]

open Up

def TT (l:List R)(k:Nat)(st:St):Prop :=
 ∃f fr i,st=⟨f,[fr],[]⟩∧k=l.length-i∧i≤l.length∧f 0=.list (KU l)∧f 3=.str (QY (l.take i))∧f 4=.int .i64 (i:Nat)∧(fr 5).isRow=false

theorem c33 (l:List R)(hb:∀fd∈l,fd.bits<18446744073709551616∧fd.data.length<9223372036854775807)(hn:l.length<9223372036854775807)(hl:(QY l).length≤140737488355328):Qj Tryz.prog 33 [.list (KU l)] (.str (QY l)):=by
 refine k33.fn (by simp) ?_;simp only[Qa,seval];refine Qd (TT l) _ ⟨_,_,0,rfl,rfl,QUU _,rfl,rfl,rfl,rfl⟩ ?_;rintro n st ⟨f,fr,i,rfl,rfl,hi,h0,h3,h4,m5⟩;simp only[h0,h4,m5,NY,Qa,seval];by_cases hlt:i<l.length
 ·obtain⟨fd,hfd⟩:∃fd,l[i]? = some fd:=⟨l[i],QUN hlt⟩;have hmem:=QUZ hfd;obtain⟨hb1,hb2⟩:=hb fd hmem;have hfa:(KU l)[i]? = some fd.av:=by simp[KU,hfd]
  have hps:=Uk l i fd hfd;have hple:=N0 l i fd hfd;have d0:decide ((i:Int)<(l.length:Int))=true:=by simp;omega
  have n0:(0≤(i:Int))=True:=by simp
  have e1:IntKind.i64.wrap ((i:Int)+1)=((i+1:Nat):Int):=by rw[QG];omega
  have fin:∀(f':Fr) (fr':Nat→Ob) (bs':List UInt8),f' 0=.list (KU l)→f' 3=.str bs'→f' 4=.int .i64 (((i+1:Nat):Nat):Int)→(fr' 5).isRow=false→bs'=QY (l.take i)++W8 fd→∃k,k<l.length-i∧TT l k ⟨f',[fr'],[]⟩:=by
   intro f' fr' bs' g1 g2 g3 g4 g5;exact⟨l.length-(i+1),by omega,f',fr',i+1,rfl,rfl,by omega,g1,by rw[hps,←g5];exact g2,g3,g4⟩
  simp only[d0,n0,QWd,Qc,hfa,R.av,h0,h4,eE,seval];refine Qb (c64 fd) rfl rfl rfl (.inl rfl) ?_;cases hv:valid fd with
  |false=>
   simp only[e1,h4,Qa,seval];refine fin _ _ (QY (l.take i)) ?_ ?_ ?_ ?_ ?_
   ·simp only[h0,Qa,seval]
   ·simp only[h3,Qa,seval]
   ·simp only[Qa,seval]
   ·simp only[Qa,seval]
   ·simp[W8,hv]
  |true=>
   simp only[eE,seval];refine Qb (c65 fd.num fd.wire) rfl rfl rfl (.inl rfl) ?_;have hp:W8 fd=(XX fd.num fd.wire).1++body fd:=by simp[W8,hv]
   have hpl:=congrArg List.length hp;rw[QVo]at hpl;have hbody:body fd=if fd.wire=2 then fx 8 fd.bits else if ZD fd.wire then Vp.put fd.bits else Vp.put fd.data.length++fd.data:=rfl
   have a1:((QY (l.take i)).length+(XX fd.num fd.wire).1.length≤9223372036854775807)=True:=eq_true (by omega);simp only[Ua,QM,a1,h3,eE,seval];by_cases w2:fd.wire=2
   ·have dw:(fd.wire==2)=true:=by simpa using w2
    have hbo:body fd=fx 8 fd.bits:=by rw[hbody,QVf w2]
    have a2:((QY (l.take i)++(XX fd.num fd.wire).1).length+(fx 8 fd.bits).length≤9223372036854775807)=True:=eq_true (by rw[QVo,←hbo];omega);simp only[dw,h3,eE,seval];refine Qb (c66 fd.bits hb1) rfl rfl rfl (.inl rfl) ?_;simp only[QM,a2,e1,h4,Qa,seval];refine fin _ _ (QY (l.take i)++(XX fd.num fd.wire).1++fx 8 fd.bits) ?_ ?_ ?_ ?_ ?_
    ·simp only[h0,Qa,seval]
    ·simp only[Qa,seval]
    ·simp only[Qa,seval]
    ·simp only[Qa,seval]
    ·rw[hp,hbo,QU7]
   ·have dw:(fd.wire==2)=false:=by simpa using w2
    simp only[dw,eE,seval];refine Qb (c67 fd.wire) rfl rfl rfl (.inl rfl) ?_;cases hnum:ZD fd.wire with
    |true=>
     have hbo:body fd=Vp.put fd.bits:=by rw[hbody,QU0 w2,QVf hnum]
     have a2:((QY (l.take i)++(XX fd.num fd.wire).1).length+(Vp.put fd.bits).length≤9223372036854775807)=True:=eq_true (by rw[QVo,←hbo];omega);simp only[h3,eE,seval];refine Qb (Pm fd.bits hb1) rfl rfl rfl (.inl rfl) ?_;simp only[QM,a2,e1,h4,Qa,seval];refine fin _ _ (QY (l.take i)++(XX fd.num fd.wire).1++Vp.put fd.bits) ?_ ?_ ?_ ?_ ?_
     ·simp only[h0,Qa,seval]
     ·simp only[Qa,seval]
     ·simp only[Qa,seval]
     ·simp only[Qa,seval]
     ·rw[hp,hbo,QU7]
    |false=>
     have hbo:body fd=Vp.put fd.data.length++fd.data:=by rw[hbody,QU0 w2,QU0 (by rw[hnum];simp)]
     have hbl:(body fd).length=(Vp.put fd.data.length).length+fd.data.length:=by rw[hbo,QVo]
     have a2:((Vp.put fd.data.length).length+fd.data.length≤9223372036854775807)=True:=eq_true (by omega);have a3:((QY (l.take i)++(XX fd.num fd.wire).1).length+(Vp.put fd.data.length++fd.data).length≤9223372036854775807)=True:=eq_true (by rw[QVo,←hbo];omega);have e2:IntKind.u64.wrap (fd.data.length:Int)=((fd.data.length:Nat):Int):=by rw[Ja];omega
     simp only[e2,h3,eE,seval];refine Qb (Pm fd.data.length (by omega)) rfl rfl rfl (.inl rfl) ?_;simp only[QM,a2,a3,e1,h4,eE,seval];refine fin _ _ (QY (l.take i)++(XX fd.num fd.wire).1++(Vp.put fd.data.length++fd.data)) ?_ ?_ ?_ ?_ ?_
     ·simp only[h0,Qa,seval]
     ·simp only[Qa,seval]
     ·simp only[Qa,seval]
     ·simp only[Qa,seval]
     ·rw[hp,hbo,QU7]
 ·have d0:decide ((i:Int)<(l.length:Int))=false:=by simp;omega
  have hil:l.take i=l:=QVk (by omega);simp only[d0,hil,h3,Qa,seval]

open Br So

theorem u39 (v:V):Qj Tryz.prog 39 [v.av] (Q7 v.kd v.bits v.text).av:=by
 rw[Qy];exact y39 v.kd v.bits v.text _ _ _ _

section
variable {M:Nat}{P:PL}{m:PG→V→Int}{bd:Int→V→List UInt8}(o:PO)(ho:UO P o)

include ho in
theorem u40 (hb:∀(t:Int) (g:PG),P.progs[t.toNat]? = some g→0≤t→∀v:V,v.ok M→v.cnt≤1048576→m g v=0→Qj Tryz.prog 16 [P.av,.int .i64 t,v.av] (.str (bd t v)))(n:Int)(x:V)(hx:x.ok M)(hc:x.cnt≤1048576)(he:QT m P o x=0) :
  Qj Tryz.prog 40 [P.av,Qt o,.int .i64 n,x.av] (Q1 bd o n x).av:=by
 have e0:P.av=.agg [.list (P.progs.map Qn),.list (P.enums.map Qr)]:=rfl;have h1:=u39 x;unfold Q1 ZT;generalize Q7 x.kd x.bits x.text=z at h1 ⊢;by_cases hk:o.kind=10
 ·have b:(o.kind==10)=true:=by simp[hk]
  rw[QVf hk];unfold QT at he;rw[QVf hk]at he;obtain⟨t0,t1⟩:=ho.tgt hk;obtain⟨g,hg⟩:∃g,P.progs[o.target.toNat]? = some g:=⟨P.progs[o.target.toNat]'(by omega),QUN (by omega)⟩;have hq:Q8 P o.target=g:=by unfold Q8;rw[hg];rfl
  rw[hq]at he;have h2:=hb o.target g hg t0 x hx hc he;rw[e0,Qy]at h2;rw[Qy]at h1;rw[Qy];simp only[R.av]at h1;refine k40.fn (by simp) ?_;simp only[e0,Qt,PO.cells,R.av,eE,seval];refine Qb h1 rfl rfl rfl (.inl rfl) ?_;simp only[b,eE,seval];refine Qb h2 rfl rfl rfl (.inl rfl) ?_;simp only[eE,seval]
 ·have b:(o.kind==10)=false:=by simp[hk]
  rw[QU0 hk];rw[Qy]at h1;rw[Qy];simp only[R.av]at h1;refine k40.fn (by simp) ?_;simp only[e0,Qt,PO.cells,R.av,eE,seval];refine Qb h1 rfl rfl rfl (.inl rfl) ?_;simp only[b,eE,seval]

def QQy (l:List V)(F:Nat→List UInt8)(k:Nat)(st:St):Prop :=
 ∃f fr i,st=⟨f,[fr],[]⟩∧k=l.length-i∧i≤l.length∧f 0=.list (l.map V.av)∧f 3=.str (F i)∧f 4=.int .i64 (i:Nat)∧∀s∈[5],(fr s).isRow=false

theorem u42 (w:Int)(hw:w=0∨w=1∨w=2)(l:List V)(hne:l≠[])(hlen:l.length≤1048576)(hk:∀y∈l,(Q7 y.kd y.bits y.text).wire=w)(hok:∀y∈l,y.ok M) :
  Qj Tryz.prog 42 [.list (l.map V.av)] (.str (UInt8.ofNat w.toNat :: l.flatMap (KW w))):=by
 have hcv:IntKind.u8.wrap w=((UInt8.ofNat w.toNat).toNat:Int):=by
  rcases hw with rfl|rfl|rfl<;>rfl
 generalize hb0:UInt8.ofNat w.toNat=b0 at hcv ⊢
 let F:Nat→List UInt8:=fun i=>if i=0 then []else b0 :: (l.take i).flatMap (KW w)
 have hF0:F 0=[]:=rfl;have hFn:F l.length=b0 :: l.flatMap (KW w):=by
  have:l.length≠0:=fun h=>hne (QWM.1 h)
  simp[F,this]
 have hFl:∀i,i≤l.length→(F i).length≤1+10*i:=by
  intro i hi;have:=UM w (l.take i);rw[QVJ]at this;simp only[F];split
  ·simp
  ·simp only[QU1];omega
 have hFs:∀i x,l[i]? = some x→F (i+1)=(if i=0 then [b0]else F i)++KW w x:=by
  intro i x hx;simp only[F,Nat.add_eq_zero_iff,Nat.one_ne_zero,and_false,if_false];rw[QWu,hx,QWR];split
  ·rename_i h0;subst h0;simp
  ·simp
 rw[←hFn]
 clear_value F
 clear hFn;refine k42.fn (by simp) ?_;simp only[Qa,seval];refine Qd (QQy l F) _ ⟨_,_,0,rfl,rfl,QUU _,(by rfl),(by rw[hF0];exact(by rfl)),(by rfl),Zx rfl⟩ ?_;rintro _ st ⟨f0,fr0,i,rfl,rfl,hil,h00,h30,h40,r5⟩;refine QO (a:=_) [5] r5 ?_;intro f fr hf hm hn5;have h0:f 0=.list (l.map V.av):=by rw[hf,h00]<;>rfl
 have h3:f 3=.str (F i):=by rw[hf,h30]<;>rfl
 have h4:f 4=.int .i64 (i:Nat):=by rw[hf,h40]<;>rfl
 have n5:=hn5 5 (by decide);clear hf hm hn5 h00 h30 h40 r5;simp only[QVH,h0,h4,Qa,seval];by_cases hlt:i<l.length
 ·obtain⟨x,hi⟩:∃x,l[i]? = some x:=⟨l[i],QUN hlt⟩;have hx:=QUZ hi;have hg:=Yu hi;have e1:=Qq i _ hlt (by simp only[maxLen];omega);have c1:=u39 x;have hbb:(Q7 x.kd x.bits x.text).bits<18446744073709551616:=Um (TR (hok x hx)) _;have hwx:=hk x hx;have hFi:=hFl i (by omega);have hFx:=hFs i x hi;have hpx:=Dn w x;rw[show KW w x=KV w (Q7 x.kd x.bits x.text).bits from rfl]at hFx hpx;generalize Q7 x.kd x.bits x.text=z at c1 hbb hFx hpx hwx;rw[Qy x]at c1;simp only[R.av,hwx]at c1;simp only[Qm hlt,Qi,QWd,Qc,hg,h0,h4,eE,seval];refine Qb c1 rfl rfl rfl (.inl rfl) ?_;by_cases hi0:i=0
  ·subst hi0;have d0:(((0:Nat):Int)==0)=true:=rfl;rw[QVf rfl]at hFx;have hb1:bytesOf [.int .u8 ((b0.toNat:Nat):Int)]=some [b0]:=Jq [b0];simp only[n5,h4,hcv,eE,seval];refine JL rfl ?_;by_cases w2:w=2
   ·have b2:(w==2)=true:=by simp[w2]
    have epb:KV w z.bits=fx 8 z.bits:=by unfold KV;rw[QVf w2]
    rw[epb]at hFx hpx;have hadd:(([b0]).length+(fx 8 z.bits).length≤9223372036854775807)=True:=eq_true (by simp only[QU1,QVI];omega);simp only[Q3,hb1,b2,h3,eE,seval];refine Qb (c66 z.bits hbb) rfl rfl rfl (.inl rfl) ?_;simp only[QU1,QVI]at hadd;simp only[QM,hadd,h4,Qa,seval];exact⟨l.length-(0+1),by omega,_,_,0+1,rfl,rfl,by omega,(by exact h0),(by rw[hFx];exact(by rfl)),(by rfl),Zx rfl⟩
   ·have b2:(w==2)=false:=by simp[w2]
    have epb:KV w z.bits=Vp.put z.bits:=by unfold KV;rw[QU0 w2]
    rw[epb]at hFx hpx;have hadd:(([b0]).length+(Vp.put z.bits).length≤9223372036854775807)=True:=eq_true (by simp only[QU1,QVI];omega);simp only[Q3,hb1,b2,h3,eE,seval];refine Qb (Pm z.bits hbb) rfl rfl rfl (.inl rfl) ?_;simp only[QU1,QVI]at hadd;simp only[QM,hadd,h4,Qa,seval];exact⟨l.length-(0+1),by omega,_,_,0+1,rfl,rfl,by omega,(by exact h0),(by rw[hFx];exact(by rfl)),(by rfl),Zx rfl⟩
  ·have d0:(((i:Nat):Int)==0)=false:=by simp[hi0]
   rw[QU0 hi0]at hFx;by_cases w2:w=2
   ·have b2:(w==2)=true:=by simp[w2]
    have epb:KV w z.bits=fx 8 z.bits:=by unfold KV;rw[QVf w2]
    rw[epb]at hFx hpx;have hadd:((F i).length+(fx 8 z.bits).length≤9223372036854775807)=True:=eq_true (by omega);simp only[d0,b2,n5,h3,h4,eE,seval];refine Qb (c66 z.bits hbb) rfl rfl rfl (.inl rfl) ?_;simp only[QM,hadd,h4,e1,Qa,seval];exact⟨l.length-(i+1),by omega,_,_,i+1,rfl,rfl,by omega,(by exact h0),(by rw[hFx];exact(by rfl)),(by rfl),Zx rfl⟩
   ·have b2:(w==2)=false:=by simp[w2]
    have epb:KV w z.bits=Vp.put z.bits:=by unfold KV;rw[QU0 w2]
    rw[epb]at hFx hpx;have hadd:((F i).length+(Vp.put z.bits).length≤9223372036854775807)=True:=eq_true (by omega);simp only[d0,b2,n5,h3,h4,eE,seval];refine Qb (Pm z.bits hbb) rfl rfl rfl (.inl rfl) ?_;simp only[QM,hadd,h4,e1,Qa,seval];exact⟨l.length-(i+1),by omega,_,_,i+1,rfl,rfl,by omega,(by exact h0),(by rw[hFx];exact(by rfl)),(by rfl),Zx rfl⟩
 ·have e:i=l.length:=by omega
  subst e;simp only[QB hlt,h3,Qa,seval]

end

def Ch (n:Int)(x:V):List AV:=[.int .i64 n,.int .i64 x.kd,.int .u64 (x.bits:Nat),.str x.text,.list (x.list.map V.av),.list (x.pairs.map V.pav),.list (x.slots.map V.sav),.list (x.raws.map R.av)]

structure RaF (P:PL)(o:PO)(x:V)(f:Fr)(fr:Nat→Ob)(g:Nat)(out:List R):Prop where
 f3:f 3=.ptr 0 3 0
 f5:f 5=.ptr 0 5 0
 f7:f 7=.ptr 0 7 0
 f9:f 9=.vec 0 9 g 0 out.length false
 m3:fr 3=.cells [.list (P.progs.map Qn),.list (P.enums.map Qr)]
 m5:fr 5=.cells (Ch o.num x)
 m7:fr 7=.cells o.cells
 mR:fr 9=.vec g 4 (out.map R.av)

section
variable {M:Nat}{P:PL}{m:PG→V→Int}{bd:Int→V→List UInt8}(o:PO)(ho:UO P o)

theorem LV (hel:∀(n:Int) (x:V),x.ok M→x.cnt≤1048576→QT m P o x=0→Qj Tryz.prog 40 [P.av,Qt o,.int .i64 n,x.av] (Q1 bd o n x).av)(x:V)(hx:x.ok M)(hc:x.cnt≤1048576)(hL:∀y∈x.list,QT m P o y=0)(f:Fr)(fr:Nat→Ob)(g:Nat)(h:RaF P o x f fr g [])(h13:f 13=.int .i64 0)(Q:Exit→St→Prop)
  (q:∀f fr g,RaF P o x f fr g (x.list.map (Q1 bd o o.num))→Q (.exit 3) (⟨f,[fr],[]⟩:St)) :
  QI Tryz.prog (.loop TC) ⟨f,[fr],[]⟩ Q:=by
 have e0:P.av=.agg [.list (P.progs.map Qn),.list (P.enums.map Qr)]:=rfl;have hlen:=JJ x
 let I:Nat→St→Prop:=fun k st=>∃f fr i g,st=⟨f,[fr],[]⟩∧k=x.list.length-i∧i≤x.list.length∧RaF P o x f fr g ((x.list.take i).map (Q1 bd o o.num))∧f 13=.int .i64 (i:Nat)
 refine Qd I _ ⟨f,fr,0,g,rfl,rfl,QUU _,h,h13⟩ ?_;clear h h13;rintro _ st ⟨f,fr,i,g,rfl,rfl,hil,⟨h3,h5,h7,h9,m3,m5',m7',mR⟩,h13⟩;have m5:=m5';have m7:=m7';simp only[Ch]at m5;simp only[PO.cells]at m7;have hti:((x.list.take i).map (Q1 bd o o.num)).length=i:=by rw[QVH,QVJ];omega
 rw[hti]at h9;simp only[QVH,h5,h13,m5,eE,seval];by_cases hlt:i<x.list.length
 ·obtain⟨y,hi⟩:∃y,x.list[i]? = some y:=⟨x.list[i],QUN hlt⟩;have hy:=QUZ hi;have hg:=Yu hi;have e1:=Qq i _ hlt (by simp only[maxLen];omega);have c1:=hel o.num y (hx.list y hy) (QUL (Yw hy) hc) (hL y hy);have hts:(x.list.take (i+1)).map (Q1 bd o o.num)=(x.list.take i).map (Q1 bd o o.num)++[Q1 bd o o.num y]:=by rw[QWu,hi];simp
  generalize Q1 bd o o.num y=z at c1 hts;rw[e0,Qy y]at c1;simp only[Qt,PO.cells,R.av]at c1;simp only[Qm hlt,Qi,QWd,Qc,hg,h3,h5,h7,h9,h13,m3,m5,m7,eE,seval];refine Qb c1 rfl rfl rfl (.inl rfl) ?_;refine QP (l:=[z.av]) rfl rfl rfl rfl ?_;refine QH (site:=9) (g:=g) (n:=i) (xs:=((x.list.take i).map (Q1 bd o o.num)).map R.av) (ys:=[z.av]) (by rfl) (by exact mR) rfl (by rw[QVH,hti]) rfl (ZZ [z]) (by simp only[QU1,QVI,maxLen];omega) (by simp only[QU1,QVI];omega) ?_;simp only[h13,e1,Qa,seval];refine⟨x.list.length-(i+1),by omega,_,_,i+1,g+1,rfl,rfl,by omega,⟨(by exact h3),(by exact h5),(by exact h7),?_,(by exact m3),(by exact m5'),(by exact m7'),by rw[hts,QWt];exact(by rfl)⟩,(by rfl)⟩;rw[hts,QVo,hti];exact(by rfl)
 ·have e:i=x.list.length:=by omega
  subst e;rw[←hti]at h9;rw[QWl]at h9 mR;simp only[QB hlt,Qa,seval];exact q _ _ g ⟨(by exact h3),(by exact h5),(by exact h7),(by exact h9),(by exact m3),(by exact m5'),(by exact m7'),(by exact mR)⟩

include ho in
theorem RF (hbd:∀(t:Int) (v:V),(0≤t∧t<(P.progs.length:Int))→m (Q8 P t) v=0→(bd t v).length+70000≤70000*v.cnt)(hel:∀(n:Int) (x:V),x.ok M→x.cnt≤1048576→QT m P o x=0→Qj Tryz.prog 40 [P.av,Qt o,.int .i64 n,x.av] (Q1 bd o n x).av)(x:V)(hx:x.ok M)(hc:x.cnt≤1048576)(hE:∀p∈x.pairs,p.1.one P o.key (-1)=0∧QT m P o p.2=0)(f:Fr)(fr:Nat→Ob)(g:Nat)(h:RaF P o x f fr g [])(h10:f 10=.int .i64 0)(Z6:∀s∈[11],(fr s).isRow=false)(Q:Exit→St→Prop)
  (q:∀f fr g,RaF P o x f fr g (x.pairs.map (ZG bd o))→Q (.exit 1) (⟨f,[fr],[]⟩:St)) :
  QI Tryz.prog (.loop TB) ⟨f,[fr],[]⟩ Q:=by
 have e0:P.av=.agg [.list (P.progs.map Qn),.list (P.enums.map Qr)]:=rfl;have hlen:=KD x
 let I:Nat→St→Prop:=fun k st=>∃f fr i g,st=⟨f,[fr],[]⟩∧k=x.pairs.length-i∧i≤x.pairs.length∧RaF P o x f fr g ((x.pairs.take i).map (ZG bd o))∧f 10=.int .i64 (i:Nat)∧∀s∈[11],(fr s).isRow=false
 refine Qd I _ ⟨f,fr,0,g,rfl,rfl,QUU _,h,h10,Z6⟩ ?_;clear h h10 Z6;rintro _ st ⟨f0,fr0,i,g,rfl,rfl,hil,⟨h30,h50,h70,h90,m30,m50,m70,mR0⟩,h100,Z6⟩;refine QO (a:=_) [11] Z6 ?_;intro f fr hf hm hn11;have hti:((x.pairs.take i).map (ZG bd o)).length=i:=by rw[QVH,QVJ];omega
 rw[hti]at h90;have h3:f 3=.ptr 0 3 0:=by rw[hf,h30]<;>rfl
 have h5:f 5=.ptr 0 5 0:=by rw[hf,h50]<;>rfl
 have h7:f 7=.ptr 0 7 0:=by rw[hf,h70]<;>rfl
 have h9:f 9=.vec 0 9 g 0 i false:=by rw[hf,h90]<;>rfl
 have h10:f 10=.int .i64 (i:Nat):=by rw[hf,h100]<;>rfl
 have m3:fr 3=.cells [.list (P.progs.map Qn),.list (P.enums.map Qr)]:=by rw[hm 3 (by decide),m30]<;>rfl
 have m5':fr 5=.cells (Ch o.num x):=by rw[hm 5 (by decide),m50]<;>rfl
 have m7':fr 7=.cells o.cells:=by rw[hm 7 (by decide),m70]<;>rfl
 have mR:fr 9=.vec g 4 (((x.pairs.take i).map (ZG bd o)).map R.av):=by rw[hm 9 (by decide),mR0]<;>rfl
 have n11:=hn11 11 (by decide);clear hf hm hn11 h30 h50 h70 h90 h100 m30 m50 m70 mR0 Z6;have m5:=m5';have m7:=m7';simp only[Ch]at m5;simp only[PO.cells]at m7;simp only[QVH,h5,h10,m5,eE,seval];by_cases hlt:i<x.pairs.length
 ·obtain⟨p,hi⟩:∃p,x.pairs[i]? = some p:=⟨x.pairs[i],QUN hlt⟩;have hp:=QUZ hi;have hg:=Jw hi;have e1:=Qq i _ hlt (by simp only[maxLen];omega);have hcc:=UL hp;have hck:=NX hp;have c0:=u39 p.1;have c2:=hel 2 p.2 (hx.vals p hp) (QUL hcc hc) (hE p hp).2;have hpn:=YF (l:=[ZT 1 p.1,Q1 bd o 2 p.2]) (fun f hf=>by
   rcases QV8.1 hf with rfl|hf
   ·exact BP (hx.keys p hp) 1
   ·rw[QWI]at hf;subst hf;exact GQ (hx.vals p hp) bd o 2) (by have:=Dm hbd ho (hE p hp).1 (hE p hp).2;omega)
  have c4:=c33 [ZT 1 p.1,Q1 bd o 2 p.2] hpn.1 hpn.2.1 hpn.2.2;have hts:(x.pairs.take (i+1)).map (ZG bd o)=(x.pairs.take i).map (ZG bd o)++[⟨o.num,6,0,QY [ZT 1 p.1,Q1 bd o 2 p.2]⟩]:=by rw[QWu,hi,QWv,QWt];rfl
  clear hpn;rw[show ZT 1 p.1={ Q7 p.1.kd p.1.bits p.1.text with num:=1 } from rfl]at c4 hts;generalize Q7 p.1.kd p.1.bits p.1.text=y0 at c0 c4 hts;generalize Q1 bd o 2 p.2=z2 at c2 c4 hts;generalize hd:QY [{ y0 with num:=1 },z2]=d at c4 hts;rw[Qy p.1]at c0;rw[e0,Qy p.2]at c2;simp only[Qt,PO.cells,R.av,KU,QVi,QVN]at c0 c2 c4;simp only[Qm hlt,Qi,QWd,Qc,hg,h5,h10,m5,eE,seval];refine Qb c0 rfl rfl rfl (.inl rfl) ?_;simp only[Qi,QWd,Qc,hg,n11,h3,h5,h7,h10,m3,m5,m7,eE,seval];refine Qb c2 rfl rfl rfl (.inl rfl) ?_;refine QP (l:=[({ y0 with num:=1 }:R).av,z2.av]) rfl rfl rfl rfl ?_;simp only[h5,h9,m5,eE,seval];refine Qb c4 rfl rfl rfl (.inl rfl) ?_;simp only[eE,seval];refine QP (l:=[(R.mk o.num 6 0 d).av]) rfl rfl rfl rfl ?_;refine QH (site:=9) (g:=g) (n:=i) (xs:=((x.pairs.take i).map (ZG bd o)).map R.av) (ys:=[(R.mk o.num 6 0 d).av]) (by rfl) (by exact mR) rfl (by rw[QVH,hti]) rfl (ZZ [_]) (by simp only[QU1,QVI,maxLen];omega) (by simp only[QU1,QVI];omega) ?_;simp only[h10,e1,Qa,seval];refine⟨x.pairs.length-(i+1),by omega,_,_,i+1,g+1,rfl,rfl,by omega,⟨(by exact h3),(by exact h5),(by exact h7),?_,(by exact m3),(by exact m5'),(by exact m7'),by rw[hts,QWt];exact(by rfl)⟩,(by rfl),Zx rfl⟩;rw[hts,QVo,hti];exact(by rfl)
 ·have e:i=x.pairs.length:=by omega
  subst e;rw[←hti]at h9;rw[QWl]at h9 mR;simp only[QB hlt,Qa,seval];exact q _ _ g ⟨(by exact h3),(by exact h5),(by exact h7),(by exact h9),(by exact m3),(by exact m5'),(by exact m7'),(by exact mR)⟩

end

section
variable {M:Nat}{P:PL}{m:PG→V→Int}{bd:Int→V→List UInt8}

theorem u20 (hU:YO P)(hP:P.ok M)(hbd:∀(t:Int) (v:V),(0≤t∧t<(P.progs.length:Int))→m (Q8 P t) v=0→(bd t v).length+70000≤70000*v.cnt)(hb:∀(t:Int) (g:PG),P.progs[t.toNat]? = some g→0≤t→∀v:V,v.ok M→v.cnt≤1048576→m g v=0→Qj Tryz.prog 16 [P.av,.int .i64 t,v.av] (.str (bd t v)))(t:Int)(g:PG)(hgt:P.progs[t.toNat]? = some g)(t0:0≤t)(s:Int×V)(hv:s.2.ok M)(hc:s.2.cnt≤1048576)(hw:Wd P m g s) :
  Qj Tryz.prog 20 [P.av,.int .i64 t,V.sav s] (.list ((Wv bd g s).map R.av)):=by
 have e0:P.av=.agg [.list (P.progs.map Qn),.list (P.enums.map Qr)]:=rfl;have hgm:=QUZ hgt;obtain⟨o,ho,hf,hemp⟩:=hw;obtain⟨hom,hon⟩:=ZF ho;have hu:=hU g hgm o hom;have c1:=SH g (hP.progs g hgm).len s.1;rw[K9,ho]at c1;have c2:=y41 o.num o.name o.alias o.card o.key o.kind o.target o.union;have hel:=fun(n:Int) (x:V) (hx:x.ok M) (hxc:x.cnt≤1048576) (he:QT m P o x=0)=>u40 o hu hb n x hx hxc he
 have hsl:Wv bd g s=Ul bd o s.2:=by unfold Wv;rw[ho]
 rw[hsl];clear hsl;obtain⟨ti,hti⟩:=QWp t0;subst hti;rw[QWd]at hgt;have hga:(P.progs.map Qn)[ti]? = some (.agg g.cells):=by simp[hgt,Qn]
 have htl:ti<P.progs.length:=(QUM.1 hgt).1;have d0:decide ((ti:Int)<0)=false:=QWx (by omega);have d1:decide ((ti:Int)≥(P.progs.length:Int))=false:=QWx (by omega);rw[←hon]at c1;rw[ZQ,←hon];obtain⟨sn,x⟩:=s;dsimp only at hv hc hf hemp ⊢;clear hon ho;simp only[PG.cells]at hga;simp only[Qn,Qt,PG.cells,PO.cells,QVW,QWy]at c1;simp only[oc]at c2;refine k20.fn (by simp) ?_;simp only[e0,d0,d1,Qi,QWd,Qc,hga,QVH,eE,seval];refine Qb c1 rfl rfl rfl (.inl rfl) ?_;simp only[eE,seval];refine XK rfl rfl ?_;simp only[eE,seval];unfold Ul;unfold Xc at hf;by_cases h5:o.card=5
 ·have b5:(o.card==5)=true:=by simp[h5]
  rw[QVf h5]at hf;rw[QVf h5];split at hf
  ·omega
  simp only[b5,Qa,seval];refine RF o hu hbd hel x hv hc (Wa.1 hf).1 _ _ 1 ⟨(by rfl),(by rfl),(by rfl),(by rfl),(by rfl),(by rfl),(by rfl),(by rfl)⟩ (by rfl) (Zx rfl) _ ?_;rintro f fr g ⟨h3,h5',h7,h9,m3,m5,m7,mR⟩;simp only[h9,mR,eE,seval];simp[AV.un,X7,Xq,QVk]
 have b5:(o.card==5)=false:=by simp[h5]
 rw[QU0 h5]at hf;rw[QU0 h5];simp only[b5,eE,seval];refine Qb c2 rfl rfl rfl (.inl rfl) ?_;by_cases hp:pk o.card o.kind=true
 ·rw[QVf hp];obtain⟨h4,_⟩:=YE hp;obtain⟨hkd,hks⟩:=LP (m:=m) (P:=P) hp (by unfold Xc;rw[QU0 h5];exact hf);have hxl:=JJ x;have hne:=Rz hkd (hemp.resolve_left (by omega));have cp:=u42 (M:=M) (wk o.kind) (TQ hp) x.list hne (by omega) (fun y hy=>by rw[hks y hy];exact Pp hp _ _) hv.list;have hpk:Dk o x.list=⟨o.num,5,0,UInt8.ofNat (wk o.kind).toNat :: x.list.flatMap (KW (wk o.kind))⟩:=rfl;rw[hpk];generalize UInt8.ofNat (wk o.kind).toNat :: x.list.flatMap (KW (wk o.kind))=d at cp ⊢;simp only[hp,eE,seval];refine Qb cp rfl rfl rfl (.inl rfl) ?_;simp only[eE,seval];refine QP (l:=[(R.mk o.num 5 0 d).av]) rfl rfl rfl rfl ?_;refine QH (site:=9) (g:=1) (n:=0) (xs:=[]) (ys:=[(R.mk o.num 5 0 d).av]) (by rfl) (by rfl) rfl rfl rfl (ZZ [_]) (by simp only[QU1,QVI,maxLen];omega) (by simp only[QU1,QVI];omega) ?_;simp only[eE,seval];simp[]
 have hpf:pk o.card o.kind=false:=by simpa using hp
 rw[QU0 hp];simp only[hpf,eE,seval];by_cases h4:o.card=4
 ·have b4:(o.card==4)=true:=by simp[h4]
  rw[QVf h4]at hf;rw[QVf h4];split at hf
  ·omega
  simp only[b4,Qa,seval];refine LV o hel x hv hc (Kq.1 hf) _ _ 1 ⟨(by rfl),(by rfl),(by rfl),(by rfl),(by rfl),(by rfl),(by rfl),(by rfl)⟩ (by rfl) _ ?_;rintro f fr g ⟨h3,h5',h7,h9,m3,m5,m7,mR⟩;simp only[h9,mR,eE,seval];simp[AV.un,X7,Xq,QVk]
 ·have b4:(o.card==4)=false:=by simp[h4]
  rw[QU0 h4]at hf;rw[QU0 h4];have c3:=hel o.num x hv hc hf;generalize Q1 bd o o.num x=z at c3 ⊢;rw[e0,Qy x]at c3;simp only[Qt,PO.cells,R.av]at c3;simp only[b4,eE,seval];refine Qb c3 rfl rfl rfl (.inl rfl) ?_;refine QP (l:=[z.av]) rfl rfl rfl rfl ?_;refine QH (site:=9) (g:=1) (n:=0) (xs:=[]) (ys:=[z.av]) (by rfl) (by rfl) rfl rfl rfl (ZZ [_]) (by simp only[QU1,QVI,maxLen];omega) (by simp only[QU1,QVI];omega) ?_;simp only[eE,seval];simp[]

end

section
variable {M:Nat}{P:PL}{m:PG→V→Int}{bd:Int→V→List UInt8}(o:PO)(ho:UO P o)

def PkI (o:PO)(l:List V)(F:Nat→List UInt8)(k:Nat)(st:St):Prop :=
 ∃f fr i g,st=⟨f,[fr],[]⟩∧k=l.length-i∧i≤l.length∧f 4=.ptr 0 4 0∧f 8=.int .i64 (wk o.kind)∧f 9=.vec 0 19 g 0 (F i).length false∧f 21=.list (l.map V.av)∧f 22=.int .i64 (l.length:Nat)∧f 23=.int .i64 (i:Nat)∧fr 4=.cells o.cells∧fr 19=.vec g 1 (QA (F i))∧∀s∈[11],(fr s).isRow=false

theorem QQz (hp:pk o.card o.kind=true)(v:V)(hv:v.ok M)(hc:v.cnt≤1048576) :
  Qj Tryz.prog 120 [P.av,Qt o,v.av] (.list ([Dk o v.list].map R.av)):=by
 have e0:P.av=.agg [.list (P.progs.map Qn),.list (P.enums.map Qr)]:=rfl;have hlen:=JJ v;have cw:=QNG o.num o.name o.alias 2 o.key o.kind o.target o.union;have hw2:MH 2 o.kind=wk o.kind:=by
  have e:pk 2 o.kind=false:=by simp[pk]
  unfold MH;rw[e];rfl
 rw[hw2]at cw;simp only[oc]at cw;have hcv:∃b:UInt8,IntKind.u8.wrap (wk o.kind)=(b.toNat:Int)∧UInt8.ofNat (wk o.kind).toNat=b:=by
  rcases TQ hp with h|h|h<;>rw[h]
  ·exact⟨0,rfl,rfl⟩
  ·exact⟨1,rfl,rfl⟩
  ·exact⟨2,rfl,rfl⟩
 obtain⟨b0,hb0,hb1⟩:=hcv;have hpk:Dk o v.list=⟨o.num,5,0,b0 :: v.list.flatMap (KW (wk o.kind))⟩:=by unfold Dk;rw[hb1]
 rw[hpk];clear hpk hb1
 let F:Nat→List UInt8:=fun i=>b0 :: (v.list.take i).flatMap (KW (wk o.kind))
 have hF0:F 0=[b0]:=by simp[F]
 have hFn:F v.list.length=b0 :: v.list.flatMap (KW (wk o.kind)):=by simp[F]
 have hFl:∀i,i≤v.list.length→(F i).length≤1+10*i:=by
  intro i hi;have:=UM (wk o.kind) (v.list.take i);rw[QVJ]at this;simp only[F,QU1];omega
 have hFs:∀i x,v.list[i]? = some x→F (i+1)=F i++KW (wk o.kind) x:=by
  intro i x hx;simp only[F];rw[QWu,hx,QWR];simp
 rw[←hFn]
 clear_value F
 clear hFn;have hbl:∀s:List UInt8,(QA s).length=s.length:=fun s=>by simp[QA]
 rw[Qy v];refine QcL.fn (by simp) ?_;simp only[e0,Qt,PO.cells,eE,seval];refine Qb cw rfl rfl rfl (.inl rfl) ?_;simp only[hb0,Qa,seval];refine DC (y:=[.int .u8 (b0.toNat:Int)]) rfl rfl rfl rfl ?_;simp only[QVH,eE,seval];refine Qd (PkI o v.list F) _ ⟨_,_,0,_,rfl,rfl,QUU _,(by rfl),(by rfl),(by rw[hF0];exact(by rfl)),(by rfl),(by rfl),(by rfl),(by rfl),(by rw[hF0];exact(by rfl)),Zx rfl⟩ ?_;rintro _ st ⟨f0,fr0,i,g,rfl,rfl,hil,h40,h80,h90,h210,h220,h230,m40,mR0,Z6⟩;refine QO (a:=_) [11] Z6 ?_;intro f fr hf hm hn11;have h4:f 4=.ptr 0 4 0:=by rw[hf,h40]<;>rfl
 have h8:f 8=.int .i64 (wk o.kind):=by rw[hf,h80]<;>rfl
 have h9:f 9=.vec 0 19 g 0 (F i).length false:=by rw[hf,h90]<;>rfl
 have h21:f 21=.list (v.list.map V.av):=by rw[hf,h210]<;>rfl
 have h22:f 22=.int .i64 (v.list.length:Nat):=by rw[hf,h220]<;>rfl
 have h23:f 23=.int .i64 (i:Nat):=by rw[hf,h230]<;>rfl
 have m4':fr 4=.cells o.cells:=by rw[hm 4 (by decide),m40]<;>rfl
 have mR:fr 19=.vec g 1 (QA (F i)):=by rw[hm 19 (by decide),mR0]<;>rfl
 have n11:=hn11 11 (by decide);clear hf hm hn11 h40 h80 h90 h210 h220 h230 m40 mR0 Z6;have m4:=m4';simp only[PO.cells]at m4;simp only[h22,h23,Qa,seval];by_cases hlt:i<v.list.length
 ·obtain⟨x,hi⟩:∃x,v.list[i]? = some x:=⟨v.list[i],QUN hlt⟩;have hx:=QUZ hi;have hg:=Yu hi;have e1:=Qq i _ hlt (by simp only[maxLen];omega);have c1:=t25 (hv.list x hx);rw[QwS]at c1;have hbb:(Q7 x.kd x.bits x.text).bits<18446744073709551616:=Um (TR (hv.list x hx)) _;have hFi:=hFl i (by omega);have hFx:=hFs i x hi;have hpx:=Dn (wk o.kind) x;have epx:KW (wk o.kind) x=KV (wk o.kind) (Q7 x.kd x.bits x.text).bits:=rfl;rw[epx]at hFx hpx;clear epx;generalize Q7 x.kd x.bits x.text=z at c1 hbb hFx hpx;rw[Qy x]at c1;simp only[R.av]at c1;simp only[Qm hlt,Qi,QWd,Qc,hg,n11,h21,h23,eE,seval];refine Qb c1 rfl rfl rfl (.inl rfl) ?_;by_cases w2:wk o.kind=2
  ·have b2:(wk o.kind==2)=true:=by simp[w2]
   have epb:KV (wk o.kind) z.bits=fx 8 z.bits:=by unfold KV;rw[QVf w2]
   rw[epb]at hFx hpx;simp only[b2,h8,h9,Qa,seval];refine Qb (QwK z.bits) rfl rfl rfl (.inl rfl) ?_;refine YY (site:=19) (g:=g) (xs:=QA (F i)) (by rfl) (by exact mR) rfl (hbl _).symm rfl (by omega) ?_;simp only[h23,e1,eE,seval];exact⟨v.list.length-(i+1),by omega,_,_,i+1,g+1,rfl,rfl,by omega,(by exact h4),(by exact h8),(by rw[hFx,QVo];exact(by rfl)),(by exact h21),(by exact h22),(by rfl),(by exact m4'),(by rw[hFx,show QA (F i++fx 8 z.bits)=QA (F i)++QA (fx 8 z.bits)by simp[QA]];exact(by rfl)),Zx rfl⟩
  ·have b2:(wk o.kind==2)=false:=by simp[w2]
   have epb:KV (wk o.kind) z.bits=Vp.put z.bits:=by unfold KV;rw[QU0 w2]
   rw[epb]at hFx hpx;simp only[b2,h8,h9,Qa,seval];refine Qb (Cc z.bits hbb) rfl rfl rfl (.inl rfl) ?_;refine YY (site:=19) (g:=g) (xs:=QA (F i)) (by rfl) (by exact mR) rfl (hbl _).symm rfl (by omega) ?_;simp only[h23,e1,eE,seval];exact⟨v.list.length-(i+1),by omega,_,_,i+1,g+1,rfl,rfl,by omega,(by exact h4),(by exact h8),(by rw[hFx,QVo];exact(by rfl)),(by exact h21),(by exact h22),(by rfl),(by exact m4'),(by rw[hFx,show QA (F i++Vp.put z.bits)=QA (F i)++QA (Vp.put z.bits)by simp[QA]];exact(by rfl)),Zx rfl⟩
 ·have e:i=v.list.length:=by omega
  subst e;have he:Q3 [fr] (.vec 0 19 g 0 (F v.list.length).length false)=some (QA (F v.list.length)):=JM mR (hbl _).symm;have hbo:bytesOf (QA (F v.list.length))=some (F v.list.length):=Jq _;simp only[QB hlt,h4,h9,m4,he,hbo,eE,seval];refine QP (l:=[(R.mk o.num 5 0 (F v.list.length)).av]) rfl rfl rfl rfl ?_;simp only[QVi,QVN,Qa,seval]

def BU (o:PO):Nat:=if o.card=5 then 118 else if pk o.card o.kind=true then 120 else if o.card=4 then 121 else 122

theorem t73:Qj Tryz.prog 73 [Qt o] (.fn (.func (BU o)) [] []):=by
 have cp:=QuT o.num o.name o.alias o.card o.key o.kind o.target o.union;simp only[oc]at cp;unfold BU;refine k73.fn (by simp) ?_;simp only[Qt,PO.cells,eE,seval];by_cases h5:o.card=5
 ·have b5:(o.card==5)=true:=by simp[h5]
  rw[QVf h5];simp only[b5,Qa,seval]
 have b5:(o.card==5)=false:=by simp[h5]
 rw[QU0 h5];simp only[b5,eE,seval];refine Qb cp rfl rfl rfl (.inl rfl) ?_;cases hp:pk o.card o.kind
 case true=>simp only[Qa,seval]
 simp only[eE,seval];by_cases h4:o.card=4
 ·have b4:(o.card==4)=true:=by simp[h4]
  simp only[h4,Qa,seval]
 ·have b4:(o.card==4)=false:=by simp[h4]
  simp only[b4,h4,Qa,seval]

theorem QQA (hel:∀x:V,x.ok M→x.cnt≤1048576→QT m P o x=0→Qj Tryz.prog 197 [P.av,Qt o,x.av] (Q1 bd o 0 x).av)(v:V)(hv:v.ok M)(hc:v.cnt≤1048576)(he:QT m P o v=0) :
  Qj Tryz.prog 122 [P.av,Qt o,v.av] (.list ([Q1 bd o o.num v].map R.av)):=by
 have e0:P.av=.agg [.list (P.progs.map Qn),.list (P.enums.map Qr)]:=rfl;have c1:=hel v hv hc he;have c2:=Cg o.num (Q1 bd o 0 v);rw[Dr]at c2;generalize Q1 bd o 0 v=y at c1 c2;generalize Q1 bd o o.num v=z at c2 ⊢;rw[e0,Qy v]at c1;simp only[Qt,PO.cells,R.av]at c1 c2;rw[Qy v];refine QcQ.fn (by simp) ?_;simp only[e0,Qt,PO.cells,eE,seval];refine Qb c1 rfl rfl rfl (.inl rfl) ?_;refine Qb c2 rfl rfl rfl (.inl rfl) ?_;refine QP (l:=[z.av]) rfl rfl rfl rfl ?_;simp only[QVi,QVN,Qa,seval]

include ho in
theorem QHq (hbd:∀(t:Int) (v:V),(0≤t∧t<(P.progs.length:Int))→m (Q8 P t) v=0→(bd t v).length+70000≤70000*v.cnt)(hb:∀(t:Int) (g:PG),P.progs[t.toNat]? = some g→0≤t→∀v:V,v.ok M→v.cnt≤1048576→m g v=0→Qj Tryz.prog 29 [P.av,.int .i64 t,v.av] (.str (bd t v)))(v:V)(hv:v.ok M)(hc:v.cnt≤1048576)(hf:Xc m P o v=0) :
  Qj Tryz.prog (BU o) [P.av,Qt o,v.av] (.list ((Ul bd o v).map R.av)):=by
 have hel:=fun(x:V) (hx:x.ok M) (hxc:x.cnt≤1048576) (he:QT m P o x=0)=>QQt o ho hb x hx hxc he
 unfold BU Ul;unfold Xc at hf;by_cases h5:o.card=5
 ·rw[QVf h5]at hf;rw[QVf h5,QVf h5];split at hf
  ·omega
  exact QQx o ho hbd hel v hv hc (Wa.1 hf).1
 rw[QU0 h5]at hf;rw[QU0 h5,QU0 h5];by_cases hp:pk o.card o.kind=true
 ·rw[QVf hp,QVf hp];exact QQz o hp v hv hc
 rw[QU0 hp,QU0 hp];by_cases h4:o.card=4
 ·rw[QVf h4]at hf;rw[QVf h4,QVf h4];split at hf
  ·omega
  exact QQw o hel v hv hc (Kq.1 hf)
 ·rw[QU0 h4]at hf;rw[QU0 h4,QU0 h4];exact QQA o hel v hv hc hf
end

section
variable {M:Nat}{P:PL}{m:PG→V→Int}{bd:Int→V→List UInt8}

theorem t37 (hU:YO P)(hP:P.ok M)(hbd:∀(t:Int) (v:V),(0≤t∧t<(P.progs.length:Int))→m (Q8 P t) v=0→(bd t v).length+70000≤70000*v.cnt)(hb:∀(t:Int) (g:PG),P.progs[t.toNat]? = some g→0≤t→∀v:V,v.ok M→v.cnt≤1048576→m g v=0→Qj Tryz.prog 29 [P.av,.int .i64 t,v.av] (.str (bd t v)))(t:Int)(g:PG)(hgt:P.progs[t.toNat]? = some g)(t0:0≤t)(s:Int×V)(hv:s.2.ok M)(hc:s.2.cnt≤1048576)(o:PO)(ho:Zc g s.1=some o)(hf:Xc m P o s.2=0) :
  Qj Tryz.prog 37 [P.av,.int .i64 t,V.sav s] (.list ((Wv bd g s).map R.av)):=by
 have e0:P.av=.agg [.list (P.progs.map Qn),.list (P.enums.map Qr)]:=rfl;have hgm:=QUZ hgt;obtain⟨hom,hon⟩:=ZF ho;have c1:=y72 g (hP.progs g hgm).len s.1;rw[K9,ho]at c1;have c2:=t73 o;have c3:=QHq o (hU g hgm o hom) hbd hb s.2 hv hc hf;have hsl:Wv bd g s=Ul bd o s.2:=by unfold Wv;rw[ho]
 rw[hsl];obtain⟨ti,hti⟩:=QWp t0;subst hti;rw[QWd]at hgt;have hga:(P.progs.map Qn)[ti]? = some (.agg g.cells):=by simp[hgt,Qn]
 generalize Ul bd o s.2=z at c3 ⊢;generalize BU o=k at c2 c3;simp only[PG.cells]at hga;rw[e0,Qy s.2]at c3;simp only[Qn,Qt,PG.cells,PO.cells,QVW,QWy]at c1 c2 c3;rw[ZQ];refine k37.fn (by simp) ?_;simp only[e0,Qi,QWd,Qc,hga,eE,seval];refine Qb c1 rfl rfl rfl (.inl rfl) ?_;simp only[eE,seval];refine Qb c2 rfl rfl rfl (.inl rfl) ?_;simp only[eE,seval];refine JZ (fa:=[]) (fb:=[]) (by rfl) c3 rfl rfl rfl (.inl rfl) ?_;simp only[Qa,seval]

end

section
variable (bd:Int→V→List UInt8)(g:PG)
theorem N4 {s:Int×V}{sl:List (Int×V)}{r:R}{rs:List R}(h:r.num<s.1):Xt bd g (s :: sl) (r :: rs)=r :: Xt bd g (s :: sl) rs:=by
 have d:decide (r.num<s.1)=true:=QWC h;rw[Xt,Xt,List.takeWhile_cons,List.dropWhile_cons,QVf d,QVf d];rfl
theorem UP {s:Int×V}{sl:List (Int×V)}{rs:List R}(h:∀r l,rs=r :: l→¬r.num<s.1):Xt bd g (s :: sl) rs=Wv bd g s++Xt bd g sl rs:=by
 rw[Xt];cases rs with
 |nil=>rfl
 |cons r l=>
  have d:¬decide (r.num<s.1)=true:=fun e=>h r l rfl (of_decide_eq_true e)
  rw[List.takeWhile_cons,List.dropWhile_cons,QU0 d,QU0 d];rfl
end

structure BoF (P:PL)(t:Nat)(S:List (Int×V))(f:Fr)(fr:Nat→Ob)(i g:Nat)(out rest:List R):Prop where
 f1:f 1=.int .i64 (t:Nat)
 f3:f 3=.ptr 0 3 0
 f8:f 8=.vec 0 8 g 0 out.length false
 f9:f 9=.list (rest.map R.av)
 f20:f 20=.list (S.map V.sav)
 f21:f 21=.int .i64 (S.length:Nat)
 f22:f 22=.int .i64 (i:Nat)
 m3:fr 3=.cells [.list (P.progs.map Qn),.list (P.enums.map Qr)]
 mR:fr 8=.vec g 4 (out.map R.av)

section
variable {M:Nat}{P:PL}

theorem QHr (bd:Int→V→List UInt8)(g:PG)(t:Nat)(S:List (Int×V))(i:Nat)(s:Int×V)(sl:List (Int×V))(T:List R)(hT:T.length≤3000000000000)(f:Fr)(fr:Nat→Ob)(gn:Nat)(out rest:List R)(h:BoF P t S f fr i gn out rest)(h11:f 11=.ptr 0 11 0)(m11:fr 11=.cells [.int .i64 s.1,.int .i64 s.2.kd,.int .u64 (s.2.bits:Nat),.str s.2.text,.list (s.2.list.map V.av),.list (s.2.pairs.map V.pav),.list (s.2.slots.map V.sav),.list (s.2.raws.map R.av)])(hi:out++Xt bd g (s :: sl) rest=T)(Q:Exit→St→Prop)
  (q:∀f fr gn out rest,BoF P t S f fr i gn out rest→f 11=.ptr 0 11 0→fr 11=.cells [.int .i64 s.1,.int .i64 s.2.kd,.int .u64 (s.2.bits:Nat),.str s.2.text,.list (s.2.list.map V.av),.list (s.2.pairs.map V.pav),.list (s.2.slots.map V.sav),.list (s.2.raws.map R.av)]→out++(Wv bd g s++Xt bd g sl rest)=T→Q (.exit 2) (⟨f,[fr],[]⟩:St)) :
  QI Tryz.prog (.loop RU) ⟨f,[fr],[]⟩ Q:=by
 let I:Nat→St→Prop:=fun k st=>∃f fr gn out rest,st=⟨f,[fr],[]⟩∧k=rest.length∧BoF P t S f fr i gn out rest∧f 11=.ptr 0 11 0∧fr 11=.cells [.int .i64 s.1,.int .i64 s.2.kd,.int .u64 (s.2.bits:Nat),.str s.2.text,.list (s.2.list.map V.av),.list (s.2.pairs.map V.pav),.list (s.2.slots.map V.sav),.list (s.2.raws.map R.av)]∧out++Xt bd g (s :: sl) rest=T
 refine Qd I _ ⟨f,fr,gn,out,rest,rfl,rfl,h,h11,m11,hi⟩ ?_;clear h h11 m11 hi;rintro _ st ⟨f,fr,gn,out,rest,rfl,rfl,⟨h1,h3,h8,h9,h20,h21,h22,m3,mR⟩,h11,m11,hi⟩;simp only[Qa,seval];cases rest with
 |nil=>
  have d1:decide (((0:Nat):Int) > 0)=false:=rfl;simp only[QVN,QVI,h9,Qa,seval];exact q _ _ gn out [] ⟨(by exact h1),(by exact h3),(by exact h8),(by exact h9),(by exact h20),(by exact h21),(by exact h22),m3,mR⟩ (by exact h11) m11 (by rw[←hi,UP];intro r l e;cases e)
 |cons r l=>
  have d1:decide (((l.length+1:Nat):Int) > 0)=true:=QWC (by omega);have hml:(l.map R.av).length=l.length:=QVH ..;by_cases hr:r.num<s.1
  ·have d2:decide (r.num<s.1)=true:=QWC hr;rw[N4 bd g hr]at hi;have hol:out.length+1≤T.length:=by rw[←hi];simp
   have hs1:(1≤((r :: l).map R.av).length)=True:=eq_true (by simp);have hs3:=ZZ (r :: l);have hs2:List.take (((r :: l).map R.av).length-1) (List.drop 1 ((r :: l).map R.av))=l.map R.av:=by simp[QVk]
   simp only[QVi,QU1,hml,d1,d2,R.av,QVO,Qc,h8,h9,h11,m11,eE,seval];refine QP (l:=[r.av]) rfl rfl rfl rfl ?_;refine QH (site:=8) (g:=gn) (n:=out.length) (xs:=out.map R.av) (ys:=[r.av]) (by rfl) (by exact mR) rfl (by rw[QVH]) rfl (ZZ [r]) (by simp only[QU1,QVI,maxLen];omega) (by simp only[QU1,QVI];omega) ?_;simp only[ZH,Zy,Q4,QWk,hs1,hs2,hs3,QUK,or_true,and_self,QU1,QVI,h9,Qa,seval];exact⟨l.length,by simp,_,_,gn+1,out++[r],l,rfl,rfl,⟨(by exact h1),(by exact h3),by rw[QVo];exact(by rfl),(by rfl),(by exact h20),(by exact h21),(by exact h22),(by exact m3),by rw[QWt];exact(by rfl)⟩,(by exact h11),(by exact m11),by rw[←hi];simp⟩
  ·have d2:decide (r.num<s.1)=false:=QWx hr;simp only[QVi,QU1,hml,d1,d2,R.av,QVO,Qc,h9,h11,m11,eE,seval];exact q _ _ gn out (r :: l) ⟨(by exact h1),(by exact h3),(by exact h8),(by exact h9),(by exact h20),(by exact h21),(by exact h22),m3,mR⟩ (by exact h11) m11 (by rw[←hi,UP];intro r' l' e;cases e;exact hr)

def BoI (P:PL)(bd:Int→V→List UInt8)(g:PG)(t:Nat)(S:List (Int×V))(T:List R)(k:Nat)(st:St):Prop :=
 ∃f fr i gn out rest,st=⟨f,[fr],[]⟩∧k=S.length-i∧i≤S.length∧BoF P t S f fr i gn out rest∧out++Xt bd g (S.drop i) rest=T∧∀s∈[11],(fr s).isRow=false

theorem t29 (hP:P.ok M)(hU:YO P)(hr:Kv P)(hcd:Cb P)(hG:∀t,Gd (Q8 P t)):∀(n:Nat) (t:Int) (g:PG),P.progs[t.toNat]? = some g→0≤t→∀v:V,v.ok M→v.cnt≤1048576→XU P n g v=0→Qj Tryz.prog 29 [P.av,.int .i64 t,v.av] (.str (Zo P n t v)):=by
 have e0:P.av=.agg [.list (P.progs.map Qn),.list (P.enums.map Qr)]:=rfl;intro n
 induction n with
 |zero=>
  intro t g _ _ v _ _ h;exact(UK 0 _ _ h).elim
 |succ n ih=>
  intro t g hgt t0 v hv hc h;have hgm:=QUZ hgt;have hq:Q8 P t=g:=by unfold Q8;rw[hgt];rfl
  have cn:=v57 hP hU hr hcd (n+1) t g hgt t0 v hv hc (UK _ _ _ h);have hw:=Po hU hr hgm h;have hnok:=BS hG (n+1) t v hv;have hncn:=W3 hr (n+1) g (hr g hgm) v;have hfit:=Wr hU hr (n+1) g hgm v h;obtain⟨_,_,_,hraw⟩:=Kr.1 hfit;rw[hq]at hnok;rw[Zo,hq];generalize Xd P (n+1) g v=w at cn hw hnok hncn hraw;have hwc:w.cnt≤1048576:=by omega
  have hbl:=fun t v ht hm=>Dp hU hr n t v ht hm
  have hrw:=YD (m:=XU P n) (bd:=Zo P n) (g:=g) hbl w.slots w.raws (fun x hx=>by
   obtain⟨o,ho,hx,_⟩:=hw x hx;exact⟨o,ho,hU _ hgm o (ZF ho).1,hx⟩) hraw
  have hcs:w.raws.length+Xf w.slots≤w.cnt:=by rw[Xh w];omega
  have hpn:=YF (l:=Xt (Zo P n) g w.slots w.raws) (Dq (Zo P n) g w.slots w.raws (fun s hs=>hnok.slots s hs) (fun f hf=>by
   have:=HY (hnok.raws f hf).bits;show f.bits<_;omega)) (by omega)
  have cput:=c58 _ hpn.1 hpn.2.1 hpn.2.2;have hTl:=UN (Xt (Zo P n) g w.slots w.raws);have csl:=fun(s:Int×V) (hs:s∈w.slots)=>(hw s hs).elim fun o ho=>t37 hU hP hbl ih t g hgt t0 s (hnok.slots s hs) (QUL (Yx hs) hwc) o ho.1 ho.2.1
  have ls:=KE w;generalize hTe:Xt (Zo P n) g w.slots w.raws=T at hrw hpn cput hTl;have hTm:T.length≤3000000000000:=by omega
  clear hpn hraw hrw hw hfit;obtain⟨ti,hti⟩:=QWp t0;subst hti;rw[e0,Qy v,Qy w]at cn;rw[Qy v];refine k29.fn (by simp) ?_;simp only[e0,eE,seval];refine Qb cn rfl rfl rfl (.inl rfl) ?_;simp only[eE,seval];refine XK rfl rfl ?_;simp only[QVH,eE,seval];refine Qd (BoI P (Zo P n) g ti w.slots T) _ ⟨_,_,0,_,[],w.raws,rfl,rfl,QUU _,⟨(by rfl),(by rfl),(by rfl),(by rfl),(by rfl),(by rfl),(by rfl),(by rfl),(by rfl)⟩,hTe,Zx rfl⟩ ?_;rintro _ st ⟨f0,fr0,i,gn,out,rest,rfl,rfl,hil,⟨h10,h30,h80,h90,h200,h210,h220,m30,mR0⟩,hi0,Z6⟩;refine QO (a:=_) [11] Z6 ?_;intro f fr hf hm hn11;have h1:f 1=.int .i64 (ti:Nat):=by rw[hf,h10]<;>rfl
  have h3:f 3=.ptr 0 3 0:=by rw[hf,h30]<;>rfl
  have h8:f 8=.vec 0 8 gn 0 out.length false:=by rw[hf,h80]<;>rfl
  have h9:f 9=.list (rest.map R.av):=by rw[hf,h90]<;>rfl
  have h20:f 20=.list (w.slots.map V.sav):=by rw[hf,h200]<;>rfl
  have h21:f 21=.int .i64 (w.slots.length:Nat):=by rw[hf,h210]<;>rfl
  have h22:f 22=.int .i64 (i:Nat):=by rw[hf,h220]<;>rfl
  have m3:fr 3=.cells [.list (P.progs.map Qn),.list (P.enums.map Qr)]:=by rw[hm 3 (by decide),m30]<;>rfl
  have mR:fr 8=.vec gn 4 (out.map R.av):=by rw[hm 8 (by decide),mR0]<;>rfl
  have n11:=hn11 11 (by decide);clear hf hm hn11 h10 h30 h80 h90 h200 h210 h220 m30 mR0 Z6;simp only[h21,h22,Qa,seval];by_cases hlt:i<w.slots.length
  ·obtain⟨x,hi⟩:∃x,w.slots[i]? = some x:=⟨w.slots[i],QUN hlt⟩;have hx:=QUZ hi;have hgs:=Kp hi;have e1:=Qq i _ hlt (by simp only[maxLen];omega);have hdr:w.slots.drop i=x :: w.slots.drop (i+1):=by rw[QVu hlt,(QUM.1 hi).2]
   have c1:=csl x hx;rw[hdr]at hi0;simp only[Qm hlt,Qi,QWd,Qc,hgs,n11,h20,h22,eE,seval];refine QHr (Zo P n) g ti w.slots i x (w.slots.drop (i+1)) T hTm _ _ gn out rest ⟨(by exact h1),(by exact h3),(by exact h8),(by exact h9),(by exact h20),(by exact h21),(by exact h22),(by exact m3),(by exact mR)⟩ (by rfl) (by rfl) hi0 _ ?_;clear h1 h3 h8 h9 h20 h21 h22 m3 mR n11 hi0 out rest gn f fr;rintro f fr gn out rest ⟨h1,h3,h8,h9,h20,h21,h22,m3,mR⟩ h11 m11 hi0;rw[e0,ZQ x]at c1;generalize Wv (Zo P n) g x=z at c1 hi0;have hol:out.length+z.length≤T.length:=by rw[←hi0];simp
   simp only[h1,h3,h8,h11,m3,m11,eE,seval];refine Qb c1 rfl rfl rfl (.inl rfl) ?_;refine QH (site:=8) (g:=gn) (n:=out.length) (xs:=out.map R.av) (ys:=z.map R.av) (by rfl) (by exact mR) rfl (by rw[QVH]) rfl (ZZ z) (by simp only[QVH,maxLen];omega) (by simp only[QVH];omega) ?_;simp only[QVH,h22,e1,Qa,seval];exact⟨w.slots.length-(i+1),by omega,_,_,i+1,gn+1,out++z,rest,rfl,rfl,by omega,⟨(by exact h1),(by exact h3),by rw[QVo];exact(by rfl),(by exact h9),(by exact h20),(by exact h21),(by rfl),(by exact m3),by rw[QWt];exact(by rfl)⟩,by rw[←hi0,QU7],Zx (by simp only[m11,Qa,seval]<;>rfl)⟩
  ·have e:i=w.slots.length:=by omega
   subst e;have hi1:out++rest=T:=by rw[←hi0,List.drop_length];rfl
   have hol:out.length+rest.length=T.length:=by rw[←hi1];simp
   simp only[QB hlt,h8,h9,Qa,seval];refine QH (site:=8) (g:=gn) (n:=out.length) (xs:=out.map R.av) (ys:=rest.map R.av) (by rfl) (by exact mR) rfl (by rw[QVH]) (by rfl) (ZZ rest) (by simp only[QVH,maxLen];omega) (by simp only[QVH];omega) ?_;rw[←hi1]at cput;refine Qb cput ?_ rfl rfl (.inr rfl) ?_
   ·simp only[QVi,QVN,AV.stillL,AV.still,QVH,eE,seval];simp[KU,QVk]
   rw[←hi1];simp only[Qa,seval]

end

structure FiF (P:PL)(t:Nat)(w:V)(f:Fr)(fr:Nat→Ob)(k g:Nat)(out:List R):Prop where
 f1:f 1=.int .i64 (t:Nat)
 f3:f 3=.ptr 0 3 0
 f5:f 5=.ptr 0 5 0
 f7:f 7=.vec 0 7 g 0 out.length false
 f8:f 8=.int .i64 (k:Nat)
 m3:fr 3=.cells [.list (P.progs.map Qn),.list (P.enums.map Qr)]
 m5:fr 5=.cells (J6 w)
 mR:fr 7=.vec g 4 (out.map R.av)

theorem UQ {α:Type}{l:List α}{i:Nat}{x:α}(h:l[i]? = some x):l.drop i=x :: l.drop (i+1):=by
 have hlt:=(QUM.1 h).1;rw[QVu hlt,(QUM.1 h).2]

section
variable {M:Nat}{P:PL}

theorem QHs (bd:Int→V→List UInt8)(g:PG)(t:Nat)(w:V)(hR:w.raws.length≤1048576)(i:Nat)(s:Int×V)(hs:w.slots[i]? = some s)(sl:List (Int×V))(T:List R)(hT:T.length≤3000000000000)(f:Fr)(fr:Nat→Ob)(k gn:Nat)(out:List R)(h:FiF P t w f fr k gn out)(h9:f 9=.int .i64 (i:Nat))(hi:out++Xt bd g (s :: sl) (w.raws.drop k)=T)(Q:Exit→St→Prop)
  (q:∀f fr k gn out,FiF P t w f fr k gn out→f 9=.int .i64 (i:Nat)→out++(Wv bd g s++Xt bd g sl (w.raws.drop k))=T→Q (.exit 2) (⟨f,[fr],[]⟩:St)) :
  QI Tryz.prog (.loop TK) ⟨f,[fr],[]⟩ Q:=by
 let I:Nat→St→Prop:=fun d st=>∃f fr k gn out,st=⟨f,[fr],[]⟩∧d=w.raws.length-k∧FiF P t w f fr k gn out∧f 9=.int .i64 (i:Nat)∧out++Xt bd g (s :: sl) (w.raws.drop k)=T
 refine Qd I _ ⟨f,fr,k,gn,out,rfl,rfl,h,h9,hi⟩ ?_;clear h h9 hi;rintro _ st ⟨f,fr,k,gn,out,rfl,rfl,⟨h1,h3,h5,h7,h8,m3,m5',mR⟩,h9,hi⟩;have m5:=m5';simp only[J6]at m5;have hgs:=Kp hs;simp only[QVH,h5,h8,m5,eE,seval];by_cases hlt:k<w.raws.length
 case neg=>
  rw[QVn (by omega)]at hi;simp only[QB hlt,Qa,seval];exact q _ _ k gn out ⟨(by exact h1),(by exact h3),(by exact h5),(by exact h7),(by exact h8),m3,m5',mR⟩ (by exact h9) (by rw[←hi,QVn (by omega),UP];intro r l e;cases e)
 obtain⟨r,hr⟩:∃r,w.raws[k]? = some r:=⟨w.raws[k],QUN hlt⟩;have hra:=Dh hr;rw[UQ hr]at hi;by_cases hn:r.num<s.1
 ·have d2:decide (r.num<s.1)=true:=QWC hn;rw[N4 bd g hn]at hi;have hol:out.length+1≤T.length:=by rw[←hi];simp
  have e1:=Qq k _ hlt (by simp only[maxLen];omega);simp only[Qm hlt,d2,hra,hgs,Qi,QWd,Qc,h5,h7,h8,h9,m5,eE,seval];refine QP (l:=[r.av]) rfl rfl rfl rfl ?_;refine QH (site:=7) (g:=gn) (n:=out.length) (xs:=out.map R.av) (ys:=[r.av]) (by rfl) (by exact mR) rfl (by rw[QVH]) rfl (ZZ [r]) (by simp only[QU1,QVI,maxLen];omega) (by simp only[QU1,QVI];omega) ?_;simp only[h8,e1,Qa,seval];exact⟨w.raws.length-(k+1),by omega,_,_,k+1,gn+1,out++[r],rfl,rfl,⟨(by exact h1),(by exact h3),(by exact h5),by rw[QVo];exact(by rfl),(by rfl),(by exact m3),(by exact m5'),by rw[QWt];exact(by rfl)⟩,(by exact h9),by rw[←hi];simp⟩
 ·have d2:decide (r.num<s.1)=false:=QWx hn;simp only[Qm hlt,d2,hra,hgs,Qi,QWd,Qc,h5,h8,h9,m5,eE,seval];exact q _ _ k gn out ⟨(by exact h1),(by exact h3),(by exact h5),(by exact h7),(by exact h8),m3,m5',mR⟩ (by exact h9) (by rw[←hi,UQ hr,UP];intro r' l' e;cases e;exact hn)

theorem QwY (t:Nat)(w:V)(hR:w.raws.length≤1048576)(T:List R)(hT:T.length≤3000000000000)(f:Fr)(fr:Nat→Ob)(k gn:Nat)(out:List R)(h:FiF P t w f fr k gn out)(hi:out++w.raws.drop k=T)(Q:Exit→St→Prop)
  (q:∀f fr gn,f 7=.vec 0 7 gn 0 T.length false→fr 7=.vec gn 4 (T.map R.av)→Q (.exit 4) (⟨f,[fr],[]⟩:St)) :
  QI Tryz.prog (.loop TL) ⟨f,[fr],[]⟩ Q:=by
 let I:Nat→St→Prop:=fun d st=>∃f fr k gn out,st=⟨f,[fr],[]⟩∧d=w.raws.length-k∧FiF P t w f fr k gn out∧out++w.raws.drop k=T
 refine Qd I _ ⟨f,fr,k,gn,out,rfl,rfl,h,hi⟩ ?_;clear h hi;rintro _ st ⟨f,fr,k,gn,out,rfl,rfl,⟨h1,h3,h5,h7,h8,m3,m5',mR⟩,hi⟩;have m5:=m5';simp only[J6]at m5;simp only[QVH,h5,h8,m5,eE,seval];by_cases hlt:k<w.raws.length
 case neg=>
  rw[QVn (by omega),QVP]at hi;subst hi;simp only[QB hlt,Qa,seval];exact q _ _ gn (by exact h7) (by exact mR)
 obtain⟨r,hr⟩:∃r,w.raws[k]? = some r:=⟨w.raws[k],QUN hlt⟩;have hra:=Dh hr;rw[UQ hr]at hi;have hol:out.length+1≤T.length:=by rw[←hi];simp
 have e1:=Qq k _ hlt (by simp only[maxLen];omega);simp only[Qm hlt,hra,Qi,QWd,Qc,h5,h7,h8,m5,eE,seval];refine QP (l:=[r.av]) rfl rfl rfl rfl ?_;refine QH (site:=7) (g:=gn) (n:=out.length) (xs:=out.map R.av) (ys:=[r.av]) (by rfl) (by exact mR) rfl (by rw[QVH]) rfl (ZZ [r]) (by simp only[QU1,QVI,maxLen];omega) (by simp only[QU1,QVI];omega) ?_;simp only[h8,e1,Qa,seval];exact⟨w.raws.length-(k+1),by omega,_,_,k+1,gn+1,out++[r],rfl,rfl,⟨(by exact h1),(by exact h3),(by exact h5),by rw[QVo];exact(by rfl),(by rfl),(by exact m3),(by exact m5'),by rw[QWt];exact(by rfl)⟩,by rw[←hi];simp⟩

theorem u34 (bd:Int→V→List UInt8)(g:PG)(t:Int)(t0:0≤t)(w:V)(hwc:w.cnt≤1048576)(csl:∀s∈w.slots,Qj Tryz.prog 20 [P.av,.int .i64 t,V.sav s] (.list ((Wv bd g s).map R.av)))(hT:(Xt bd g w.slots w.raws).length≤3000000000000) :
  Qj Tryz.prog 34 [P.av,.int .i64 t,w.av] (.list ((Xt bd g w.slots w.raws).map R.av)):=by
 have e0:P.av=.agg [.list (P.progs.map Qn),.list (P.enums.map Qr)]:=rfl;have ls:=KE w;have lr:=Yy w;obtain⟨ti,hti⟩:=QWp t0;subst hti;generalize hTe:Xt bd g w.slots w.raws=T at hT ⊢
 let I:Nat→St→Prop:=fun d st=>∃f fr i k gn out,st=⟨f,[fr],[]⟩∧d=w.slots.length-i∧i≤w.slots.length∧FiF P ti w f fr k gn out∧f 9=.int .i64 (i:Nat)∧out++Xt bd g (w.slots.drop i) (w.raws.drop k)=T
 rw[show w.av=.agg (J6 w)from Qy w];refine k34.fn (by simp) ?_;simp only[e0,J6,eE,seval];refine XK rfl rfl ?_;simp only[Qa,seval];refine Qd I _ ⟨_,_,0,0,1,[],rfl,rfl,QUU _,⟨(by rfl),(by rfl),(by rfl),(by rfl),(by rfl),(by rfl),(by rfl),(by rfl)⟩,(by rfl),hTe⟩ ?_;rintro _ st ⟨f,fr,i,k,gn,out,rfl,rfl,hil,⟨h1,h3,h5,h7,h8,m3,m5',mR⟩,h9,hi0⟩;have m5:=m5';simp only[J6]at m5;simp only[QVH,h5,h9,m5,eE,seval];by_cases hlt:i<w.slots.length
 ·obtain⟨x,hi⟩:∃x,w.slots[i]? = some x:=⟨w.slots[i],QUN hlt⟩;have hx:=QUZ hi;have hgs:=Kp hi;have e1:=Qq i _ hlt (by simp only[maxLen];omega);have c1:=csl x hx;rw[UQ hi]at hi0;simp only[Qm hlt,Qa,seval];refine QHs bd g ti w (by omega) i x hi (w.slots.drop (i+1)) T hT _ _ k gn out ⟨(by exact h1),(by exact h3),(by exact h5),(by exact h7),(by exact h8),(by exact m3),(by exact m5'),(by exact mR)⟩ (by exact h9) hi0 _ ?_;clear h1 h3 h5 h7 h8 h9 m3 m5 m5' mR hi0 out gn f fr k;rintro f fr k gn out ⟨h1,h3,h5,h7,h8,m3,m5',mR⟩ h9 hi0;have m5:=m5';simp only[J6]at m5;rw[e0,ZQ x]at c1;generalize Wv bd g x=z at c1 hi0;have hol:out.length+z.length≤T.length:=by rw[←hi0];simp
  simp only[Qi,QWd,Qc,hgs,h1,h3,h5,h7,h9,m3,m5,eE,seval];refine Qb c1 rfl rfl rfl (.inl rfl) ?_;refine QH (site:=7) (g:=gn) (n:=out.length) (xs:=out.map R.av) (ys:=z.map R.av) (by rfl) (by exact mR) rfl (by rw[QVH]) rfl (ZZ z) (by simp only[QVH,maxLen];omega) (by simp only[QVH];omega) ?_;simp only[QVH,h9,e1,Qa,seval];exact⟨w.slots.length-(i+1),by omega,_,_,i+1,k,gn+1,out++z,rfl,rfl,by omega,⟨(by exact h1),(by exact h3),(by exact h5),by rw[QVo];exact(by rfl),(by exact h8),(by exact m3),(by exact m5'),by rw[QWt];exact(by rfl)⟩,(by rfl),by rw[←hi0,QU7]⟩
 ·have e:i=w.slots.length:=by omega
  subst e;have hi1:out++w.raws.drop k=T:=by rw[←hi0,List.drop_length];rfl
  simp only[QB hlt,Qa,seval];refine QwY ti w (by omega) T hT _ _ k gn out ⟨(by exact h1),(by exact h3),(by exact h5),(by exact h7),(by exact h8),(by exact m3),(by exact m5'),(by exact mR)⟩ hi1 _ ?_;rintro f fr gn h7 mR;simp only[h7,mR,eE,seval];simp[AV.un,X7,Xq,QVk]

theorem u16 (hP:P.ok M)(hU:YO P)(hr:Kv P)(hG:∀t,Gd (Q8 P t))(hl64:∀g∈P.progs,g.ops.length≤64):∀(n:Nat) (t:Int) (g:PG),P.progs[t.toNat]? = some g→0≤t→∀v:V,v.ok M→v.cnt≤1048576→XU P n g v=0→Qj Tryz.prog 16 [P.av,.int .i64 t,v.av] (.str (Zo P n t v)):=by
 have e0:P.av=.agg [.list (P.progs.map Qn),.list (P.enums.map Qr)]:=rfl;intro n
 induction n with
 |zero=>
  intro t g _ _ v _ _ h;exact(UK 0 _ _ h).elim
 |succ n ih=>
  intro t g hgt t0 v hv hc h;have hgm:=QUZ hgt;have hq:Q8 P t=g:=by unfold Q8;rw[hgt];rfl
  have cn:=v35 (M:=M) hU hr hl64 (n+1) t g hgt t0 v hv hc (UK _ _ _ h);have hw:=Po hU hr hgm h;have hnok:=BS hG (n+1) t v hv;have hncn:=W3 hr (n+1) g (hr g hgm) v;have hfit:=Wr hU hr (n+1) g hgm v h;obtain⟨_,_,_,hraw⟩:=Kr.1 hfit;rw[hq]at hnok;rw[Zo,hq];generalize Xd P (n+1) g v=w at cn hw hnok hncn hraw;have hwc:w.cnt≤1048576:=by omega
  have hbl:=fun t v ht hm=>Dp hU hr n t v ht hm
  have hrw:=YD (m:=XU P n) (bd:=Zo P n) (g:=g) hbl w.slots w.raws (fun x hx=>by
   obtain⟨o,ho,hx,_⟩:=hw x hx;exact⟨o,ho,hU _ hgm o (ZF ho).1,hx⟩) hraw
  have hcs:w.raws.length+Xf w.slots≤w.cnt:=by rw[Xh w];omega
  have hpn:=YF (l:=Xt (Zo P n) g w.slots w.raws) (Dq (Zo P n) g w.slots w.raws (fun s hs=>hnok.slots s hs) (fun f hf=>by
   have:=HY (hnok.raws f hf).bits;show f.bits<_;omega)) (by omega)
  have cput:=c33 _ hpn.1 hpn.2.1 hpn.2.2;have hTl:=UN (Xt (Zo P n) g w.slots w.raws);have csl:=fun(s:Int×V) (hs:s∈w.slots)=>u20 hU hP hbl ih t g hgt t0 s (hnok.slots s hs) (QUL (Yx hs) hwc) (hw s hs)
  have cfi:=u34 (Zo P n) g t t0 w hwc csl (by omega);generalize Xt (Zo P n) g w.slots w.raws=T at cfi cput;have htl:t<(P.progs.length:Int):=by
   have:=(QUM.1 hgt).1;omega
  have d0:decide (t<0)=false:=QWx (by omega);have d1:decide (t≥(P.progs.length:Int))=false:=QWx (by omega);rw[e0,Qy v,Qy w]at cn;rw[e0,Qy w]at cfi;simp only[KU]at cput;rw[Qy v];refine k16.fn (by simp) ?_;simp only[e0,d0,d1,QVH,eE,seval];refine Qb cn rfl rfl rfl (.inl rfl) ?_;refine Qb cfi rfl rfl rfl (.inl rfl) ?_;refine Qb cput rfl rfl rfl (.inl rfl) ?_;simp only[Qa,seval]

end
end Go.Proofs.YtipjfckmopekaaaGreatDoor.Va

namespace Go.Proofs.YtipjfckmopekaaaGreatDoor.Va
open Go Am Rc Bt Br Up

def Hb (p:Prop)(v:AV):Prop:=∃b,v=.bool b∧(b=true→p)
theorem Hb.rf {p:Prop}{v:AV}{l:List AV}(h:Hb p v):v.rf=true∧(AV.rfL l=true∨v.nl=true):=by
 obtain⟨b,rfl,_⟩:=h;exact⟨rfl,.inr rfl⟩

def RN (n:Nat)(lf:Int)(a:AV):Prop:=∃r:Int,a=.int .i64 r∧-1≤r∧(0≤r→(n:Int)+r≤lf)
theorem RN.rf {n:Nat}{lf:Int}{v:AV}{l:List AV}(h:RN n lf v):v.rf=true∧(AV.rfL l=true∨v.nl=true):=by
 obtain⟨b,rfl,_⟩:=h;exact⟨rfl,.inr rfl⟩
theorem GR (n:Nat)(lf:Int):RN n lf (.int .i64 (-1)):=⟨-1,rfl,by omega,by omega⟩
theorem QHt {n:Nat}{lf r:Int}(h : -1≤r)(h1:0≤r→(n:Int)+r≤lf):RN n lf (.int .i64 r):=⟨r,rfl,h,h1⟩

def CnI (v:V)(lv lf:Int)(a:Nat)(S:Nat→Nat)(len:Nat)(k:Nat)(st:St):Prop :=
 ∃f fr i,∃r:Int,st=⟨f,[fr],[]⟩∧k=len-i∧i≤len∧f 3=.ptr 0 3 0∧fr 3=.cells (vc v)∧f 1=.int .i64 lv∧f 2=.int .i64 r∧f a=.int .i64 (i:Nat)∧-1≤r∧(0≤r→(S i:Int)+r≤lf)

def CrI (v:V)(lv lf:Int)(k:Nat)(st:St):Prop :=
 ∃f fr i,st=⟨f,[fr],[]⟩∧k=v.raws.length-i∧i≤v.raws.length∧f 3=.ptr 0 3 0∧fr 3=.cells (vc v)∧f 1=.int .i64 lv∧f 2=.int .i64 lf∧f 7=.int .i64 (i:Nat)

section
variable {M:Nat}

theorem LW {v:V}(hv:v.ok M){lv lf:Int}(l0:0≤lv)(l1:lv≤40){b:Nat}(hlf:lf≤1000000)
  (hx:∀x∈v.list,∀lf:Int,0≤lf→lf≤1000000→Wz Tryz.prog 23 [(x).av,.int .i64 (lv+1),.int .i64 lf] (RN (x).cnt lf))
  (f:Fr) (fr:Nat→Ob) (r:Int) (h3:f 3=.ptr 0 3 0) (m3:fr 3=.cells (vc v)) (h1:f 1=.int .i64 lv) (h2:f 2=.int .i64 r) (ha:f 8=.int .i64 0) (r0 : -1≤r) (r1:0≤r→(b:Int)+r≤lf) (Q:Exit→St→Prop)
  (q:∀(f:Fr) (fr:Nat→Ob) (r:Int),f 3=.ptr 0 3 0→fr 3=.cells (vc v)→f 1=.int .i64 lv→f 2=.int .i64 r→-1≤r→(0≤r→((b+XN v.list:Nat):Int)+r≤lf)→Q (.exit 2) (⟨f,[fr],[]⟩:St)) :
  QI Tryz.prog (.loop TH) ⟨f,[fr],[]⟩ Q:=by
 have n1:=hv.nl;have n2:=hv.np;have n3:=hv.ns;refine Qd (CnI v lv lf 8 (fun i=>b+XN (v.list.take i)) v.list.length) _ ⟨f,fr,0,r,rfl,rfl,QUU _,h3,m3,h1,h2,ha,r0,fun h=>by have:=r1 h;simp only[QVU,XN,QVh];omega⟩ ?_;clear h3 m3 h1 h2 ha r0 r1;rintro _ st ⟨f,fr,i,r,rfl,rfl,hil,h3,m3',h1,h2,ha,r0,r1⟩;dsimp only at r1;have m3:=m3';simp only[vc]at m3;simp only[QVH,h3,m3,ha,eE,seval];by_cases hlt:i<v.list.length
 ·have d:∀r:Int,0≤r→decide (r≥0)=true:=fun r h=>QWC h
  have d':∀r:Int,¬0≤r→decide (r≥0)=false:=fun r h=>QWx h
  by_cases hr:0≤r
  ·obtain⟨x,hi⟩:∃x,v.list[i]? = some x:=⟨v.list[i],QUN hlt⟩;have hm:=QUZ hi;have hg:=Yu hi;have e1:=Qq i _ hlt (by simp only[maxLen];omega);have e2:IntKind.i64.wrap (lv+1)=lv+1:=by rw[QG];omega
   have rr:=r1 hr;have c1:=hx x hm r hr (by omega);rw[Qy]at c1;simp only[Qm hlt,d r hr,Qi,QWd,Qc,hg,QVj,QVt,h3,m3,h1,h2,ha,e2,eE,seval];refine Zm (R:=RN (x).cnt r) c1 rfl rfl (fun _ h=>h.rf) ?_;rintro _ ⟨s,rfl,s0,s1⟩;simp only[ha,e1,Qa,seval];exact⟨v.list.length-(i+1),by omega,_,_,i+1,s,rfl,rfl,by omega,(by exact h3),(by exact m3'),(by exact h1),(by rfl),(by rfl),s0,fun h=>by show((b+XN (v.list.take (i+1)):Nat):Int)+s≤lf;rw[DK hi];have:=s1 h;omega⟩
  ·simp only[Qm hlt,d' r hr,h2,Qa,seval];exact q _ _ r (by exact h3) (by exact m3') (by exact h1) (by exact h2) r0 (fun h=>absurd h hr)
 ·have e:i=v.list.length:=by omega
  subst e;simp only[QWl]at r1;simp only[QB hlt,Qa,seval];exact q _ _ r (by exact h3) (by exact m3') (by exact h1) (by exact h2) r0 r1

theorem LX {v:V}(hv:v.ok M){lv lf:Int}(l0:0≤lv)(l1:lv≤40){b:Nat}(hlf:lf≤1000000)
  (hx:∀x∈v.slots,∀lf:Int,0≤lf→lf≤1000000→Wz Tryz.prog 23 [(x.2).av,.int .i64 (lv+1),.int .i64 lf] (RN (x.2).cnt lf))
  (f:Fr) (fr:Nat→Ob) (r:Int) (h3:f 3=.ptr 0 3 0) (m3:fr 3=.cells (vc v)) (h1:f 1=.int .i64 lv) (h2:f 2=.int .i64 r) (ha:f 10=.int .i64 0) (r0 : -1≤r) (r1:0≤r→(b:Int)+r≤lf) (Q:Exit→St→Prop)
  (q:∀(f:Fr) (fr:Nat→Ob) (r:Int),f 3=.ptr 0 3 0→fr 3=.cells (vc v)→f 1=.int .i64 lv→f 2=.int .i64 r→-1≤r→(0≤r→((b+Xf v.slots:Nat):Int)+r≤lf)→Q (.exit 6) (⟨f,[fr],[]⟩:St)) :
  QI Tryz.prog (.loop TJ) ⟨f,[fr],[]⟩ Q:=by
 have n1:=hv.nl;have n2:=hv.np;have n3:=hv.ns;refine Qd (CnI v lv lf 10 (fun i=>b+Xf (v.slots.take i)) v.slots.length) _ ⟨f,fr,0,r,rfl,rfl,QUU _,h3,m3,h1,h2,ha,r0,fun h=>by have:=r1 h;simp only[QVU,Xf,QVh];omega⟩ ?_;clear h3 m3 h1 h2 ha r0 r1;rintro _ st ⟨f,fr,i,r,rfl,rfl,hil,h3,m3',h1,h2,ha,r0,r1⟩;dsimp only at r1;have m3:=m3';simp only[vc]at m3;simp only[QVH,h3,m3,ha,eE,seval];by_cases hlt:i<v.slots.length
 ·have d:∀r:Int,0≤r→decide (r≥0)=true:=fun r h=>QWC h
  have d':∀r:Int,¬0≤r→decide (r≥0)=false:=fun r h=>QWx h
  by_cases hr:0≤r
  ·obtain⟨x,hi⟩:∃x,v.slots[i]? = some x:=⟨v.slots[i],QUN hlt⟩;have hm:=QUZ hi;have hg:=Kp hi;have e1:=Qq i _ hlt (by simp only[maxLen];omega);have e2:IntKind.i64.wrap (lv+1)=lv+1:=by rw[QG];omega
   have rr:=r1 hr;have c1:=hx x hm r hr (by omega);rw[Qy]at c1;simp only[Qm hlt,d r hr,Qi,QWd,Qc,hg,QVj,QVm,QVt,h3,m3,h1,h2,ha,e2,eE,seval];refine Zm (R:=RN (x.2).cnt r) c1 rfl rfl (fun _ h=>h.rf) ?_;rintro _ ⟨s,rfl,s0,s1⟩;simp only[ha,e1,Qa,seval];exact⟨v.slots.length-(i+1),by omega,_,_,i+1,s,rfl,rfl,by omega,(by exact h3),(by exact m3'),(by exact h1),(by rfl),(by rfl),s0,fun h=>by show((b+Xf (v.slots.take (i+1)):Nat):Int)+s≤lf;rw[DM hi];have:=s1 h;omega⟩
  ·simp only[Qm hlt,d' r hr,h2,Qa,seval];exact q _ _ r (by exact h3) (by exact m3') (by exact h1) (by exact h2) r0 (fun h=>absurd h hr)
 ·have e:i=v.slots.length:=by omega
  subst e;simp only[QWl]at r1;simp only[QB hlt,Qa,seval];exact q _ _ r (by exact h3) (by exact m3') (by exact h1) (by exact h2) r0 r1

theorem LY {v:V}(hv:v.ok M){lv lf:Int}(l0:0≤lv)(l1:lv≤40){b:Nat}(hlf:lf≤1000000)
  (hx:∀x∈v.pairs,∀lf:Int,0≤lf→lf≤1000000→Wz Tryz.prog 23 [x.1.av,.int .i64 (lv+1),.int .i64 lf] (RN x.1.cnt lf)∧Wz Tryz.prog 23 [x.2.av,.int .i64 (lv+1),.int .i64 lf] (RN x.2.cnt lf))
  (f:Fr) (fr:Nat→Ob) (r:Int) (h3:f 3=.ptr 0 3 0) (m3:fr 3=.cells (vc v)) (h1:f 1=.int .i64 lv) (h2:f 2=.int .i64 r) (ha:f 9=.int .i64 0) (r0 : -1≤r) (r1:0≤r→(b:Int)+r≤lf) (Q:Exit→St→Prop)
  (q:∀(f:Fr) (fr:Nat→Ob) (r:Int),f 3=.ptr 0 3 0→fr 3=.cells (vc v)→f 1=.int .i64 lv→f 2=.int .i64 r→-1≤r→(0≤r→((b+Xs v.pairs:Nat):Int)+r≤lf)→Q (.exit 4) (⟨f,[fr],[]⟩:St)) :
  QI Tryz.prog (.loop TI) ⟨f,[fr],[]⟩ Q:=by
 have n2:=hv.np;refine Qd (CnI v lv lf 9 (fun i=>b+Xs (v.pairs.take i)) v.pairs.length) _ ⟨f,fr,0,r,rfl,rfl,QUU _,h3,m3,h1,h2,ha,r0,fun h=>by have:=r1 h;simp only[QVU,Xs,QVh];omega⟩ ?_;clear h3 m3 h1 h2 ha r0 r1;rintro _ st ⟨f,fr,i,r,rfl,rfl,hil,h3,m3',h1,h2,ha,r0,r1⟩;dsimp only at r1;have m3:=m3';simp only[vc]at m3;simp only[QVH,h3,m3,ha,eE,seval];by_cases hlt:i<v.pairs.length
 ·have d:∀r:Int,0≤r→decide (r≥0)=true:=fun r h=>QWC h
  have d':∀r:Int,¬0≤r→decide (r≥0)=false:=fun r h=>QWx h
  by_cases hr:0≤r
  ·obtain⟨x,hi⟩:∃x,v.pairs[i]? = some x:=⟨v.pairs[i],QUN hlt⟩;have hm:=QUZ hi;have hg:=Jw hi;have e1:=Qq i _ hlt (by simp only[maxLen];omega);have e2:IntKind.i64.wrap (lv+1)=lv+1:=by rw[QG];omega
   have rr:=r1 hr;have c1:=(hx x hm r hr (by omega)).1;rw[Qy]at c1;simp only[Qm hlt,d r hr,Qi,QWd,Qc,hg,QVj,QVU,QVt,h3,m3,h1,h2,ha,e2,eE,seval];refine Zm (R:=RN x.1.cnt r) c1 rfl rfl (fun _ h=>h.rf) ?_;rintro _ ⟨s,rfl,s0,s1⟩;by_cases hs:0≤s
   ·have ss:=s1 hs;have c2:=(hx x hm s hs (by omega)).2;rw[Qy]at c2;simp only[d s hs,Qi,QWd,Qc,hg,QVj,QVm,QVt,h3,m3,h1,h2,ha,e2,eE,seval];refine Zm (R:=RN x.2.cnt s) c2 rfl rfl (fun _ h=>h.rf) ?_;rintro _ ⟨u,rfl,u0,u1⟩;simp only[ha,e1,Qa,seval];exact⟨v.pairs.length-(i+1),by omega,_,_,i+1,u,rfl,rfl,by omega,(by exact h3),(by exact m3'),(by exact h1),(by rfl),(by rfl),u0,fun h=>by show((b+Xs (v.pairs.take (i+1)):Nat):Int)+u≤lf;rw[DL hi];have:=u1 h;omega⟩
   ·simp only[d' s hs,h2,ha,e1,Qa,seval];exact⟨v.pairs.length-(i+1),by omega,_,_,i+1,s,rfl,rfl,by omega,(by exact h3),(by exact m3'),(by exact h1),(by rfl),(by rfl),s0,fun h=>absurd h hs⟩
  ·simp only[Qm hlt,d' r hr,h2,Qa,seval];exact q _ _ r (by exact h3) (by exact m3') (by exact h1) (by exact h2) r0 (fun h=>absurd h hr)
 ·have e:i=v.pairs.length:=by omega
  subst e;simp only[QWl]at r1;simp only[QB hlt,Qa,seval];exact q _ _ r (by exact h3) (by exact m3') (by exact h1) (by exact h2) r0 r1

theorem n23 (v:V)(hv:v.ok M):∀lv lf:Int,0≤lv→lv≤41→0≤lf→lf≤1000000→Wz Tryz.prog 23 [v.av,.int .i64 lv,.int .i64 lf] (RN v.cnt lf):=by
 revert hv
 refine V.ind (P:=fun v=>v.ok M→∀lv lf:Int,0≤lv→lv≤41→0≤lf→lf≤1000000→Wz Tryz.prog 23 [v.av,.int .i64 lv,.int .i64 lf] (RN v.cnt lf)) ?_ v;clear v;intro v hl hp hs hv lv lf a0 a1 b0 b1;have n4:=hv.nr;rw[Qy];have e2:IntKind.i64.wrap (lf-1)=lf-1:=by rw[QG];omega
 refine k23.rl (by simp) ?_;simp only[e2,eE,seval];by_cases d1:lv > 40
 ·have d1':decide (lv > 40)=true:=QWC d1;simp only[d1',GR,Qa,seval]
 have d1':decide (lv > 40)=false:=QWx d1;simp only[d1',eE,seval];cases d2:decide ((v.text.length:Int) > 5000)
 case true=>simp only[GR,Qa,seval]
 simp only[QVH,eE,seval];by_cases d3:(v.raws.length:Int) > lf-1
 ·have d3':decide ((v.raws.length:Int) > lf-1)=true:=QWC d3;simp only[d3',GR,Qa,seval]
 have d3':decide ((v.raws.length:Int) > lf-1)=false:=QWx d3;have e3:IntKind.i64.wrap (lf-1-(v.raws.length:Int))=lf-1-(v.raws.length:Int):=by rw[QG];omega
 simp only[d3',e3,QVH,eE,seval];refine Qd (CrI v lv (lf-1-(v.raws.length:Int))) _ ⟨_,_,0,rfl,rfl,QUU _,(by rfl),(by rfl),(by rfl),(by rfl),(by rfl)⟩ ?_;rintro _ st ⟨f,fr,i,rfl,rfl,hil,h3,m3',h1,h2,h7⟩;have m3:=m3';simp only[vc]at m3;simp only[QVH,h3,m3,h7,eE,seval];by_cases hlt:i<v.raws.length
 ·obtain⟨x,hi⟩:∃x,v.raws[i]? = some x:=⟨v.raws[i],QUN hlt⟩;have hg:(v.raws.map R.av)[i]? = some x.av:=by simp[hi]
  have e1:=Qq i _ hlt (by simp only[maxLen];omega);simp only[Qm hlt,R.av,Qi,QWd,Qc,hg,h3,m3,h7,eE,seval];cases d4:decide ((x.data.length:Int) > 5000)
  case true=>simp only[GR,Qa,seval]
  simp only[h7,e1,Qa,seval];exact⟨v.raws.length-(i+1),by omega,_,_,i+1,rfl,rfl,by omega,(by exact h3),(by exact m3'),(by exact h1),(by exact h2),(by rfl)⟩
 simp only[QB hlt,Qa,seval];clear hlt h7 m3 hil;refine LW hv a0 (by omega) (b:=1+v.raws.length) (lf:=lf) b1 (fun x hx lf p q=>hl x hx (hv.list x hx) _ _ (by omega) (by omega) p q) _ _ _ (by exact h3) (by exact m3') (by exact h1) (by exact h2) (by rfl) (by omega) (by omega) _ ?_;clear h3 m3' h1 h2;intro f fr r h3 m3 h1 h2 r0 r1;simp only[Qa,seval];refine LY hv a0 (by omega) (b:=1+v.raws.length+XN v.list) (lf:=lf) b1 (fun x hx lf p q=>⟨(hp x hx).1 (hv.keys x hx) _ _ (by omega) (by omega) p q,(hp x hx).2 (hv.vals x hx) _ _ (by omega) (by omega) p q⟩) _ _ _ (by exact h3) (by exact m3) (by exact h1) (by exact h2) (by rfl) r0 r1 _ ?_;clear h3 m3 h1 h2 r0 r1;intro f fr r h3 m3 h1 h2 r0 r1;simp only[Qa,seval];refine LX hv a0 (by omega) (b:=1+v.raws.length+XN v.list+Xs v.pairs) (lf:=lf) b1 (fun x hx lf p q=>hs x hx (hv.slots x hx) _ _ (by omega) (by omega) p q) _ _ _ (by exact h3) (by exact m3) (by exact h1) (by exact h2) (by rfl) r0 r1 _ ?_;clear h3 m3 h1 h2 r0 r1;intro f fr r h3 m3 h1 h2 r0 r1;simp only[h2,Qa,seval];exact QHt r0 (by rw[Xh];exact r1)

theorem n8 (v:V)(hv:v.ok M)(lf:Int)(b0:0≤lf)(b1:lf≤1000000):Wz Tryz.prog 8 [v.av,.int .i64 lf] (Hb ((v.cnt:Int)≤lf)):=by
 have hc:=n23 v hv 1 lf (by omega) (by omega) b0 b1;rw[Qy]at hc ⊢;refine k8.rl (by simp) ?_;simp only[eE,seval];refine Zm (R:=RN v.cnt lf) hc rfl rfl (fun _ h=>h.rf) ?_;rintro _ ⟨r,rfl,r0,r1⟩;simp only[Qa,seval];refine⟨_,rfl,fun h=>?_⟩;have h0:0≤r:=by simpa using h
 have:=r1 h0;omega

end

def Uo (P:PL):Prop:=(∀g∈P.progs,g.name.length≤300)∧∀e∈P.enums,e.name.length≤300
theorem GS (p:Prop):Hb p (.bool false):=⟨false,rfl,fun h=>by cases h⟩

section
variable {M:Nat}(hM:M≤140737488351232)(P:PL)(hP:P.ok M)

include hP in
theorem Qw0 (fr:Nat→Ob)(m1':fr 1=.cells (Pc P))(i:Nat)(g:PG)(hg:P.progs[i]? = some g)(lf:Int)(f:Fr)(h1:f 1=.ptr 0 1 0)(h3:f 3=.int .i64 lf)(h4:f 4=.int .i64 (i:Nat))(h5:f 5=.int .i64 0)(Q:Exit→St→Prop)
  (q:∀f:Fr,f 1=.ptr 0 1 0→f 3=.int .i64 lf→f 4=.int .i64 (i:Nat)→Q (.exit 2) (⟨f,[fr],[]⟩:St)) (qr:∀f:Fr,f 2=.bool false→Q .ret (⟨f,[fr],[]⟩:St)) :
  QI Tryz.prog (.loop TD) ⟨f,[fr],[]⟩ Q:=by
 have hgo:=(hP.progs g (QUZ hg)).len;have hga:(P.progs.map Qn)[i]? = some (.agg g.cells):=by simp[hg,Qn]
 let I:Nat→St→Prop:=fun d st=>∃f k,st=⟨f,[fr],[]⟩∧d=g.ops.length-k∧f 1=.ptr 0 1 0∧f 3=.int .i64 lf∧f 4=.int .i64 (i:Nat)∧f 5=.int .i64 (k:Nat)
 refine Qd I _ ⟨f,0,rfl,rfl,h1,h3,h4,h5⟩ ?_;clear h1 h3 h4 h5;rintro _ st ⟨f,k,rfl,rfl,h1,h3,h4,h5⟩;have m1:=m1';simp only[Pc]at m1;simp only[PG.cells]at hga;simp only[Qi,QWd,Qc,hga,QVH,h1,h4,h5,m1,eE,seval];by_cases hlt:k<g.ops.length
 ·obtain⟨o,ho⟩:∃o,g.ops[k]? = some o:=⟨g.ops[k],QUN hlt⟩;have hoa:(g.ops.map fun o=>AV.agg o.cells)[k]? = some (.agg o.cells):=by simp[ho]
  have e1:=Qq k _ hlt hgo;simp only[PO.cells]at hoa;cases d1:decide ((o.name.length:Int) > 300)
  case true=>
   simp only[Qm hlt,Qi,QWd,Qc,hga,hoa,PO.cells,d1,h1,h4,h5,m1,eE,seval];exact qr _ (by rfl)
  cases d2:decide ((o.alias.length:Int) > 300)
  case true=>
   simp only[Qm hlt,Qi,QWd,Qc,hga,hoa,PO.cells,d1,d2,h1,h4,h5,m1,eE,seval];exact qr _ (by rfl)
  simp only[Qm hlt,Qi,QWd,Qc,hga,hoa,PO.cells,d1,d2,h1,h4,h5,m1,e1,eE,seval];exact⟨g.ops.length-(k+1),by omega,_,k+1,rfl,rfl,(by exact h1),(by exact h3),(by exact h4),(by rfl)⟩
 ·simp only[QB hlt,Qa,seval];exact q _ (by exact h1) (by exact h3) (by exact h4)

include hM in
theorem RG (fr:Nat→Ob)(e:PE)(he:e.ok M)(m7':fr 7=.cells e.cells)(i:Nat)(lf:Int)(f:Fr)(h1:f 1=.ptr 0 1 0)(h3:f 3=.int .i64 lf)(h6:f 6=.int .i64 (i:Nat))(h7:f 7=.ptr 0 7 0)(h8:f 8=.int .i64 0)(Q:Exit→St→Prop)
  (q:∀f:Fr,f 1=.ptr 0 1 0→f 3=.int .i64 lf→f 6=.int .i64 (i:Nat)→Q (.exit 6) (⟨f,[fr],[]⟩:St)) (qr:∀f:Fr,f 2=.bool false→Q .ret (⟨f,[fr],[]⟩:St)) :
  QI Tryz.prog (.loop TF) ⟨f,[fr],[]⟩ Q:=by
 let I:Nat→St→Prop:=fun d st=>∃f k,st=⟨f,[fr],[]⟩∧d=e.items.length-k∧f 1=.ptr 0 1 0∧f 3=.int .i64 lf∧f 6=.int .i64 (i:Nat)∧f 7=.ptr 0 7 0∧f 8=.int .i64 (k:Nat)
 refine Qd I _ ⟨f,0,rfl,rfl,h1,h3,h6,h7,h8⟩ ?_;clear h1 h3 h6 h7 h8;rintro _ st ⟨f,k,rfl,rfl,h1,h3,h6,h7,h8⟩;have m7:=m7';simp only[PE.cells]at m7;simp only[QVH,h7,h8,m7,eE,seval];by_cases hlt:k<e.items.length
 ·obtain⟨o,ho⟩:∃o,e.items[k]? = some o:=⟨e.items[k],QUN hlt⟩;have hoa:(e.items.map fun n=>AV.agg n.cells)[k]? = some (.agg o.cells):=by simp[ho]
  have hok:=he.items o (QUZ ho);have e1:=Qq k _ hlt he.len1;simp only[PI.cells]at hoa;cases d1:decide ((o.name.length:Int) > 300)
  case true=>
   simp only[Qm hlt,Qi,QWd,Qc,hoa,PI.cells,d1,h7,h8,m7,eE,seval];exact qr _ (by rfl)
  rcases hn:o.notes with _|⟨n,_|⟨n2,ns⟩⟩
  ·have c0:decide (((0:Nat):Int) > 1)=false:=rfl;have c1:(((0:Nat):Int)==1)=false:=rfl;rw[hn]at hoa;simp only[Qm hlt,Qi,QWd,Qc,hoa,PI.cells,QVN,QVI,d1,h7,h8,m7,e1,eE,seval];exact⟨e.items.length-(k+1),by omega,_,k+1,rfl,rfl,(by exact h1),(by exact h3),(by exact h6),(by exact h7),(by rfl)⟩
  ·obtain⟨kd,b',t,l,p,s,r,hv,htl,h3',h4',h5',h6'⟩:=VL (hok.notes n (by rw[hn];simp)) hM;have c0:decide (((1:Nat):Int) > 1)=false:=rfl;have z0:(0≤(0:Int))=True:=eq_true (Int.le_refl 0);have c1:(((1:Nat):Int)==1)=true:=rfl;have en:Xn n.cells=.agg [.str n.name,.int .i64 kd,.int .u64 ((b':Nat):Int),.str t,.list l,.list p,.list s,.list r]:=by
    rw[PN.cells,hv];rfl
   rw[hn]at hoa;simp only[QVi,QVN,en]at hoa;cases d2:decide ((t.length:Int) > 300)
   case true=>
    simp only[Qm hlt,Qi,QWd,Qc,hoa,PI.cells,QU1,QVI,QVs,z0,QVO,d1,d2,h7,h8,m7,eE,seval];exact qr _ (by rfl)
   simp only[Qm hlt,Qi,QWd,Qc,hoa,PI.cells,QU1,QVI,QVs,z0,QVO,d1,d2,h7,h8,m7,e1,eE,seval];exact⟨e.items.length-(k+1),by omega,_,k+1,rfl,rfl,(by exact h1),(by exact h3),(by exact h6),(by exact h7),(by rfl)⟩
  ·have c0:decide ((((ns.map fun n=>Xn n.cells).length+1+1:Nat):Int) > 1)=true:=QWC (by omega);rw[hn]at hoa;simp only[QVi]at hoa;simp only[Qm hlt,Qi,QWd,Qc,hoa,PI.cells,QU1,c0,d1,h7,h8,m7,eE,seval];exact qr _ (by rfl)
 ·simp only[QB hlt,Qa,seval];exact q _ (by exact h1) (by exact h3) (by exact h6)

include hP in
theorem RH (hN:P.progs.length≤60)(fr:Nat→Ob)(m1':fr 1=.cells (Pc P))(f:Fr)(h1:f 1=.ptr 0 1 0)(h3:f 3=.int .i64 400)(h4:f 4=.int .i64 0)(Q:Exit→St→Prop)
  (q:∀(f:Fr) (lf:Int),f 1=.ptr 0 1 0→f 3=.int .i64 lf→0≤lf→lf≤400→(∀g∈P.progs,g.name.length≤300)→Q (.exit 0) (⟨f,[fr],[]⟩:St)) (qr:∀f:Fr,f 2=.bool false→Q .ret (⟨f,[fr],[]⟩:St)) :
  QI Tryz.prog (.loop TE) ⟨f,[fr],[]⟩ Q:=by
 let I:Nat→St→Prop:=fun d st=>∃f i,∃lf:Int,st=⟨f,[fr],[]⟩∧d=P.progs.length-i∧0≤lf∧lf≤400∧(∀g∈P.progs.take i,g.name.length≤300)∧f 1=.ptr 0 1 0∧f 3=.int .i64 lf∧f 4=.int .i64 (i:Nat)
 refine Qd I _ ⟨f,0,400,rfl,rfl,by omega,by omega,(by intro g hg;cases hg),h1,h3,h4⟩ ?_;clear h1 h3 h4;rintro _ st ⟨f,i,lf,rfl,rfl,l0,l1,hs,h1,h3,h4⟩;have m1:=m1';simp only[Pc]at m1;have dl:decide (lf≥0)=true:=QWC l0;simp only[QVH,h1,h4,m1,eE,seval];by_cases hlt:i<P.progs.length
 ·obtain⟨g,hg⟩:∃g,P.progs[i]? = some g:=⟨P.progs[i],QUN hlt⟩;have hga:(P.progs.map Qn)[i]? = some (.agg g.cells):=by simp[hg,Qn]
  have hgo:=(hP.progs g (QUZ hg)).len;have e1:=Qq i _ hlt (by simp only[maxLen];omega);have e2:IntKind.i64.wrap (lf-(g.ops.length:Int))=lf-(g.ops.length:Int):=by
   simp only[maxLen]at hgo;rw[QG];omega
  simp only[PG.cells]at hga;by_cases hn:lf-(g.ops.length:Int)<0
  ·have d1:decide (lf-(g.ops.length:Int)<0)=true:=QWC hn;simp only[Qm hlt,Qi,QWd,Qc,hga,QVH,e2,d1,dl,h1,h3,h4,m1,eE,seval];exact qr _ (by rfl)
  have d1:decide (lf-(g.ops.length:Int)<0)=false:=QWx hn;by_cases hm:g.name.length≤300
  case neg=>
   have d2:decide ((g.name.length:Int) > 300)=true:=QWC (by omega);simp only[Qm hlt,Qi,QWd,Qc,hga,QVH,e2,d1,d2,dl,h1,h3,h4,m1,eE,seval];exact qr _ (by rfl)
  have d2:decide ((g.name.length:Int) > 300)=false:=QWx (by omega);simp only[Qm hlt,Qi,QWd,Qc,hga,QVH,e2,d1,d2,dl,h1,h3,h4,m1,eE,seval];refine Qw0 P hP fr m1' i g hg (lf-(g.ops.length:Int)) _ (by exact h1) (by rfl) (by exact h4) (by rfl) _ (fun f h1 h3 h4=>?_) (fun f h2=>?_)
  ·simp only[h4,e1,Qa,seval];exact⟨P.progs.length-(i+1),by omega,_,i+1,lf-(g.ops.length:Int),rfl,rfl,by omega,by omega,(by
    rw[QWu,hg];intro x hx;simp only[QWv,QV4,QWI]at hx;rcases hx with hx|rfl
    ·exact hs x hx
    ·exact hm),(by exact h1),(by exact h3),(by rfl)⟩
  ·simp only[Qa,seval];exact qr _ h2
 ·rw[QVk (by omega)]at hs;simp only[QB hlt,Qa,seval];exact q _ lf (by exact h1) (by exact h3) l0 l1 hs

include hM hP in
theorem RI (hN:P.enums.length≤60)(fr:Nat→Ob)(m1':fr 1=.cells (Pc P))(r7:∀s∈[7],(fr s).isRow=false)(f:Fr)(lf:Int)(h1:f 1=.ptr 0 1 0)(h3:f 3=.int .i64 lf)(l0:0≤lf)(l1:lf≤400)(h6:f 6=.int .i64 0)(Q:Exit→St→Prop)
  (q:∀(f:Fr) (fr:Nat→Ob) (lf:Int),f 3=.int .i64 lf→(0≤lf→∀e∈P.enums,e.name.length≤300)→Q (.exit 4) (⟨f,[fr],[]⟩:St)) (qr:∀(f:Fr) (fr:Nat→Ob),f 2=.bool false→Q .ret (⟨f,[fr],[]⟩:St)) :
  QI Tryz.prog (.loop TG) ⟨f,[fr],[]⟩ Q:=by
 let I:Nat→St→Prop:=fun d st=>∃f fr i,∃lf:Int,st=⟨f,[fr],[]⟩∧d=P.enums.length-i∧-800≤lf∧lf≤400∧(0≤lf→∀e∈P.enums.take i,e.name.length≤300)∧f 1=.ptr 0 1 0∧f 3=.int .i64 lf∧f 6=.int .i64 (i:Nat)∧fr 1=.cells (Pc P)∧∀s∈[7],(fr s).isRow=false
 refine Qd I _ ⟨f,fr,0,lf,rfl,rfl,by omega,l1,(by intro _ g hg;cases hg),h1,h3,h6,m1',r7⟩ ?_;clear h1 h3 h6 m1' r7 l0 l1;rintro _ st ⟨f0,fr0,i,lf,rfl,rfl,l0,l1,hs,h10,h30,h60,m10,r7⟩;refine QO (a:=_) [7] r7 ?_;intro f fr hf hm hn7;have h1:f 1=.ptr 0 1 0:=by rw[hf,h10]<;>rfl
 have h3:f 3=.int .i64 lf:=by rw[hf,h30]<;>rfl
 have h6:f 6=.int .i64 (i:Nat):=by rw[hf,h60]<;>rfl
 have m1':fr 1=.cells (Pc P):=by rw[hm 1 (by decide),m10]<;>rfl
 have n7:=hn7 7 (by decide);clear hf hm hn7 h10 h30 h60 m10 r7;have m1:=m1';simp only[Pc]at m1;simp only[QVH,h1,h6,m1,eE,seval];by_cases hlt:i<P.enums.length
 ·obtain⟨e,he⟩:∃e,P.enums[i]? = some e:=⟨P.enums[i],QUN hlt⟩;have hea:(P.enums.map Qr)[i]? = some (.agg e.cells):=by simp[he,Qr]
  have heo:=hP.enums e (QUZ he);have e1:=Qq i _ hlt (by simp only[maxLen];omega);simp only[PE.cells]at hea;by_cases hl:0≤lf
  case neg=>
   have dl:decide (lf≥0)=false:=QWx hl;simp only[Qm hlt,dl,h3,Qa,seval];exact q _ _ lf (by exact h3) (fun h=>absurd h hl)
  have dl:decide (lf≥0)=true:=QWC hl;by_cases q1:(e.items.length:Int) > lf
  ·have d1:decide ((e.items.length:Int) > lf)=true:=QWC q1;simp only[Qm hlt,Qi,QWd,Qc,hea,QVH,n7,d1,dl,h1,h3,h6,m1,eE,seval];exact qr _ _ (by rfl)
  have d1:decide ((e.items.length:Int) > lf)=false:=QWx q1;by_cases q2:(e.free.length:Int) > lf
  ·have d2:decide ((e.free.length:Int) > lf)=true:=QWC q2;simp only[Qm hlt,Qi,QWd,Qc,hea,QVH,n7,d1,d2,dl,h1,h3,h6,m1,eE,seval];exact qr _ _ (by rfl)
  have d2:decide ((e.free.length:Int) > lf)=false:=QWx q2;by_cases hm:e.name.length≤300
  case neg=>
   have d3:decide ((e.name.length:Int) > 300)=true:=QWC (by omega);simp only[Qm hlt,Qi,QWd,Qc,hea,QVH,n7,d1,d2,d3,dl,h1,h3,h6,m1,eE,seval];exact qr _ _ (by rfl)
  have d3:decide ((e.name.length:Int) > 300)=false:=QWx (by omega);have e2:IntKind.i64.wrap (lf-(e.items.length:Int))=lf-(e.items.length:Int):=by rw[QG];omega
  have e3:IntKind.i64.wrap (lf-(e.items.length:Int)-(e.free.length:Int))=lf-(e.items.length:Int)-(e.free.length:Int):=by rw[QG];omega
  simp only[Qm hlt,Qi,QWd,Qc,hea,QVH,n7,e2,e3,d1,d2,d3,dl,h1,h3,h6,m1,eE,seval];refine RG hM _ e heo (by rfl) i (lf-(e.items.length:Int)-(e.free.length:Int)) _ (by exact h1) (by rfl) (by exact h6) (by rfl) (by rfl) _ (fun f h1 h3 h6=>?_) (fun f h2=>?_)
  ·simp only[h6,e1,Qa,seval];exact⟨P.enums.length-(i+1),by omega,_,_,i+1,lf-(e.items.length:Int)-(e.free.length:Int),rfl,rfl,by omega,by omega,(by
    intro _;rw[QWu,he];intro x hx;simp only[QWv,QV4,QWI]at hx;rcases hx with hx|rfl
    ·exact hs hl x hx
    ·exact hm),(by exact h1),(by exact h3),(by rfl),(by exact m1'),(by
    intro s hs;simp only[QV8,QWO,or_false]at hs;subst hs;rfl)⟩
  ·simp only[Qa,seval];exact qr _ _ h2
 ·rw[QVk (by omega)]at hs;simp only[QB hlt,Qa,seval];exact q _ _ lf (by exact h3) hs

include hM hP in
theorem n21:Wz Tryz.prog 21 [P.av] (Hb (Uo P)):=by
 rw[show P.av=.agg (Pc P)from rfl];by_cases q1:P.progs.length≤60
 case neg=>
  have d1:decide ((P.progs.length:Int) > 60)=true:=QWC (by omega);refine k21.rl (by simp) ?_;simp only[Pc,QVH,d1,GS,eE,seval]
 have d1:decide ((P.progs.length:Int) > 60)=false:=QWx (by omega);by_cases q2:P.enums.length≤60
 case neg=>
  have d2:decide ((P.enums.length:Int) > 60)=true:=QWC (by omega);refine k21.rl (by simp) ?_;simp only[Pc,QVH,d1,d2,GS,eE,seval]
 have d2:decide ((P.enums.length:Int) > 60)=false:=QWx (by omega);refine k21.rl (by simp) ?_;simp only[Pc,QVH,d1,d2,eE,seval];refine RH P hP q1 _ (by rfl) _ (by rfl) (by rfl) (by rfl) _ (fun f lf h1 h3 l0 l1 hs=>?_) (fun f h2=>?_)
 ·simp only[Qa,seval];refine RI hM P hP q2 _ (by rfl) (by
    intro s hs;simp only[QV8,QWO,or_false]at hs;subst hs;rfl) _ lf (by exact h1) (by exact h3) l0 l1 (by rfl) _ (fun f fr lf h3 hs2=>?_) (fun f fr h2=>?_)
  ·simp only[h3,Qa,seval];exact⟨_,rfl,fun h=>⟨hs,hs2 (by simpa using h)⟩⟩
  ·simp only[h2,GS,Qa,seval]
 ·simp only[h2,GS,Qa,seval]

end
open So Vp Cp

def Pv (s:List UInt8)(P:PL):Int:=XH (fun g:PG=>g.name==s) P.progs 0
def ZU (P:PL)(s:List UInt8)(v:V):List UInt8×Int :=
 if Pv s P<0 then([],10)
 else if Jr P (Pv s P) v≠0 then([],Jr P (Pv s P) v)
 else if (Zo P 16 (Pv s P) v).length > 65536 then([],3)
 else(Zo P 16 (Pv s P) v,0)
theorem GT {P:PL}{t:Int}{v:V}(h:Jr P t v=0):(0≤t∧t<(P.progs.length:Int))∧XU P 16 (Q8 P t) v=0:=by
 unfold Jr at h;split at h
 ·omega
 rename_i ht;split at h
 ·rename_i hm;exact⟨by omega,hm⟩
 ·rename_i hm;exact absurd h hm
theorem Pw {P:PL}{t:Int}(ht:0≤t∧t<(P.progs.length:Int)):P.progs[t.toNat]? = some (Q8 P t):=by
 unfold Q8;rw[QUN (by omega:t.toNat<P.progs.length)];rfl

section
variable {M:Nat}(hM:M≤140737488351232)(P:PL)(hP:P.ok M)(hS:Uo P)

include hM hP hS in
theorem t54:Qj Tryz.prog 54 [P.av] (.int .i64 (ck P)) :=
 QO5 P hP hM (fun g h=>QUL (hS.1 g h) (by decide)) (fun g h=>QUL (hS.2 g h) (by decide))

include hM hP hS in
theorem t27 (t:Int)(ht:0≤t∧t<(P.progs.length:Int))(hk:ck P=0):Qj Tryz.prog 27 [P.av,.int .i64 t] (.bool true):=by
 have e0:P.av=.agg [.list (P.progs.map Qn),.list (P.enums.map Qr)]:=rfl;have d1:decide (t≥0)=true:=QWC ht.1;have d2:decide (t<(P.progs.length:Int))=true:=QWC ht.2;have cc:=t54 hM P hP hS;have z0:((0:Int)==0)=true:=rfl;rw[hk,e0]at cc;refine k27.fn (by simp) ?_;simp only[e0,d1,d2,QVH,eE,seval];refine Qb cc rfl rfl rfl (.inl rfl) ?_;simp only[z0,Qa,seval]

include hP in
theorem Qw1 (hk:ck P=0)(t:Int)(v:V)(hv:v.ok M)(hc:v.cnt≤1048576)(ht:0≤t∧t<(P.progs.length:Int))(hm:XU P 16 (Q8 P t) v=0):Qj Tryz.prog 29 [P.av,.int .i64 t,v.av] (.str (Zo P 16 t v)) :=
 t29 hP (Bj hk) (BJ hk) (Rx hk) (TS hP (BT hk)) 16 t (Q8 P t) (Pw ht) ht.1 v hv hc hm

include hM hP hS in
theorem t15 (hk:ck P=0)(t:Int)(v:V)(hv:v.ok M)(hc:v.cnt≤1048576)(hf:Jr P t v=0):Qj Tryz.prog 15 [P.av,.int .i64 t,v.av] (.str (Zo P 16 t v)):=by
 have e0:P.av=.agg [.list (P.progs.map Qn),.list (P.enums.map Qr)]:=rfl;obtain⟨ht,hm⟩:=GT hf;have cu:=t27 hM P hP hS t ht hk;have cb:=Qw1 P hP hk t v hv hc ht hm;rw[e0]at cu;rw[e0,Qy v]at cb;rw[Qy v];refine k15.fn (by simp) ?_;simp only[e0,eE,seval];refine Qb cu rfl rfl rfl (.inl rfl) ?_;simp only[eE,seval];refine Qb cb rfl rfl rfl (.inl rfl) ?_;simp only[Qa,seval]

end
end Go.Proofs.YtipjfckmopekaaaGreatDoor.Va

namespace Go.Proofs.YtipjfckmopekaaaGreatDoor.Va
open Go Am Rc Bt Br Up So

noncomputable def sm (v w:V):Bool:=@decide (v=w) (Classical.propDecidable _)
section
variable (v w:V)(fr:Nat→Ob)(m2':fr 2=.cells (J6 v))(m3':fr 3=.cells (J6 w))(f:Fr)(h2:f 2=.ptr 0 2 0)(h3:f 3=.ptr 0 3 0)(Q:Exit→St→Prop)
include m2' m3' h2 h3

end

open Vp Cp

section
variable {M:Nat}(hM:M≤140737488351232)(P:PL)(hP:P.ok M)

include hP in
theorem Qw2 (hk:ck P=0)(t:Int)(v:V)(hv:v.ok M)(hc:v.cnt≤1048576)(hf:Jr P t v=0):Qj Tryz.prog 16 [P.av,.int .i64 t,v.av] (.str (Zo P 16 t v)):=by
 obtain⟨ht,hm⟩:=GT hf;exact u16 hP (Bj hk) (BJ hk) (TS hP (BT hk)) (BT hk) 16 t (Q8 P t) (Pw ht) ht.1 v hv hc hm

end
end Go.Proofs.YtipjfckmopekaaaGreatDoor.Va

namespace Go.Proofs.YtipjfckmopekaaaGreatDoor.Cl
open Go Am Rc Bt

theorem Uq {sz:Nat}(h0:sz≠0){xs:List AV}(h:xs.all (fun e=>e.cells.length==sz)=true)(hf:QN xs=[]):xs=[]:=by
 cases xs with
 |nil=>rfl
 |cons x xs=>
  have hl:x.cells.length=sz:=by simpa using QUY.1 h x (by simp)
  have:x.cells=[]:=(List.append_eq_nil_iff.1 hf).1;rw[this]at hl;exact absurd hl.symm h0

def Ur (sz:Nat)(args:List AV)(m:Qp):Option (AV×Qp) :=
 match args,m with
 | [.list xs],fr :: m=>bif xs.all (fun e=>e.cells.length==sz)&&Nat.ble xs.length 1000000&&Qv (fr 1000)then some (.vec 0 1000 (Xr (fr 1000)) 0 xs.length false,QJ fr 1000 (.vec (Xr (fr 1000)) sz xs) :: m)else none
 |_,_=>none

theorem Us {P:Program}{k sz:Nat}(hk:∀(xs:List AV) (fr:Nat→Ob) (m:Qp),xs.all (fun e=>e.cells.length==sz)=true→xs.length≤1000000→Qv (fr 1000)=true→
  Qh P k [.list xs] (fr :: m) (fun x m1=>x=.vec 0 1000 (Xr (fr 1000)) 0 xs.length false∧m1=QJ fr 1000 (.vec (Xr (fr 1000)) sz xs) :: m)) {args:List AV} {m m':Qp} {v:AV} (h:Ur sz args m=some (v,m')):Qh P k args m fun x m1=>x=v∧m1=m':=by
 unfold Ur at h;split at h
 ·rename_i xs fr m0;cases hb:(xs.all (fun e=>e.cells.length==sz)&&Nat.ble xs.length 1000000&&Qv (fr 1000))with
  |false=>rw[hb]at h;cases h
  |true=>
   rw[hb]at h;simp only[cond_true,QVb,Prod.mk.injEq]at h;simp only[QVa]at hb;obtain⟨rfl,rfl⟩:=h;exact hk xs fr m0 hb.1.1 (QWe hb.1.2) hb.2
 ·cases h

theorem c96 (xs:List AV)(fr:Nat→Ob)(m:Qp)(h:xs.all (fun e=>e.cells.length==4)=true)(hn:xs.length≤1000000)(hr:Qv (fr 1000)=true) :
  Qh Tryz.prog 96 [.list xs] (fr :: m) (fun x m1=>x=.vec 0 1000 (Xr (fr 1000)) 0 xs.length false∧m1=QJ fr 1000 (.vec (Xr (fr 1000)) 4 xs) :: m):=by
 have hng:QD (fr :: m) 0 1000=Xr (fr 1000):=JN;refine k96.go (by simp) ?_;simp only[RX,Vv,Vw,Qa,seval];refine Jm (ys:=xs) (by simp only[Qa,seval]) ?_ ?_
 ·simp only[Vy,Qa,seval];refine ZJ rfl ?_;simp only[Qa,seval];refine QH (site:=5) (g:=1) (xs:=[]) (ys:=xs) rfl rfl rfl rfl rfl h (by simp[maxLen];omega) (by simp;omega) ?_;simp only[Qa,seval];refine XZ (l:=0) (site:=5) (g:=2) (o:=0) (n:=xs.length) (q:=false) (sz:=4) (xs:=xs) (by simp only[QVs,Qa,seval]) (by simp only[Qa,seval]) (by simp) (by decide) hr ?_;simp only[hng,Ny,eE,seval]
  try simp[AV.still,AV.un,X7,Xq]
 ·intro he;have hx:xs=[]:=by
   rcases he with he|he
   ·exact he
   ·exact Uq (by decide) h he
  subst hx;simp only[Vx,Qa,seval];refine XK (by simp only[Qa,seval]) rfl ?_;simp only[Qa,seval];refine XZ (l:=0) (site:=2) (g:=1) (o:=0) (n:=0) (q:=false) (sz:=4) (xs:=[]) (by simp only[Qa,seval]) (by simp only[Qa,seval]) (by simp) (by decide) hr ?_;simp only[hng,Ny,eE,seval]
  try simp[AV.still,AV.un,X7,Xq]

theorem QQB (xs:List AV)(fr:Nat→Ob)(m:Qp)(h:xs.all (fun e=>e.cells.length==8)=true)(hn:xs.length≤1000000)(hr:Qv (fr 1000)=true) :
  Qh Tryz.prog 181 [.list xs] (fr :: m) (fun x m1=>x=.vec 0 1000 (Xr (fr 1000)) 0 xs.length false∧m1=QJ fr 1000 (.vec (Xr (fr 1000)) 8 xs) :: m):=by
 have hng:QD (fr :: m) 0 1000=Xr (fr 1000):=JN;refine PT.go (by simp) ?_;simp only[VA,FN,FO,Qa,seval];refine Jm (ys:=xs) (by simp only[Qa,seval]) ?_ ?_
 ·simp only[FQ,Qa,seval];refine ZJ rfl ?_;simp only[Qa,seval];refine QH (site:=5) (g:=1) (xs:=[]) (ys:=xs) rfl rfl rfl rfl rfl h (by simp[maxLen];omega) (by simp;omega) ?_;simp only[Qa,seval];refine XZ (l:=0) (site:=5) (g:=2) (o:=0) (n:=xs.length) (q:=false) (sz:=8) (xs:=xs) (by simp only[QVs,Qa,seval]) (by simp only[Qa,seval]) (by simp) (by decide) hr ?_;simp only[hng,G0,eE,seval]
  try simp[AV.still,AV.un,X7,Xq]
 ·intro he;have hx:xs=[]:=by
   rcases he with he|he
   ·exact he
   ·exact Uq (by decide) h he
  subst hx;simp only[FP,Qa,seval];refine XK (by simp only[Qa,seval]) rfl ?_;simp only[Qa,seval];refine XZ (l:=0) (site:=2) (g:=1) (o:=0) (n:=0) (q:=false) (sz:=8) (xs:=[]) (by simp only[Qa,seval]) (by simp only[Qa,seval]) (by simp) (by decide) hr ?_;simp only[hng,G0,eE,seval]
  try simp[AV.still,AV.un,X7,Xq]

theorem QQC (xs:List AV)(fr:Nat→Ob)(m:Qp)(h:xs.all (fun e=>e.cells.length==7)=true)(hn:xs.length≤1000000)(hr:Qv (fr 1000)=true) :
  Qh Tryz.prog 180 [.list xs] (fr :: m) (fun x m1=>x=.vec 0 1000 (Xr (fr 1000)) 0 xs.length false∧m1=QJ fr 1000 (.vec (Xr (fr 1000)) 7 xs) :: m):=by
 have hng:QD (fr :: m) 0 1000=Xr (fr 1000):=JN;refine Qf4.go (by simp) ?_;simp only[PR,Md,Me,Qa,seval];refine Jm (ys:=xs) (by simp only[Qa,seval]) ?_ ?_
 ·simp only[Mg,Qa,seval];refine ZJ rfl ?_;simp only[Qa,seval];refine QH (site:=5) (g:=1) (xs:=[]) (ys:=xs) rfl rfl rfl rfl rfl h (by simp[maxLen];omega) (by simp;omega) ?_;simp only[Qa,seval];refine XZ (l:=0) (site:=5) (g:=2) (o:=0) (n:=xs.length) (q:=false) (sz:=7) (xs:=xs) (by simp only[QVs,Qa,seval]) (by simp only[Qa,seval]) (by simp) (by decide) hr ?_;simp only[hng,Vz,eE,seval]
  try simp[AV.still,AV.un,X7,Xq]
 ·intro he;have hx:xs=[]:=by
   rcases he with he|he
   ·exact he
   ·exact Uq (by decide) h he
  subst hx;simp only[Mf,Qa,seval];refine XK (by simp only[Qa,seval]) rfl ?_;simp only[Qa,seval];refine XZ (l:=0) (site:=2) (g:=1) (o:=0) (n:=0) (q:=false) (sz:=7) (xs:=[]) (by simp only[Qa,seval]) (by simp only[Qa,seval]) (by simp) (by decide) hr ?_;simp only[hng,Vz,eE,seval]
  try simp[AV.still,AV.un,X7,Xq]

end Go.Proofs.YtipjfckmopekaaaGreatDoor.Cl

namespace Go.Proofs.YtipjfckmopekaaaGreatDoor.Ew
open Go Am Rc Cl

def nat:KP:=fun k args m=>
 if k=96 then Ur 4 args m
 else if k=181 then Ur 8 args m
 else if k=180 then Ur 7 args m
 else none

theorem nat_ok:K1 Tryz.prog nat:=by
 intro k args m v m' h;unfold nat at h;split at h
 ·rename_i e;subst e;exact Us c96 h
 split at h
 ·rename_i e;subst e;exact Us QQB h
 split at h
 ·rename_i e;subst e;exact Us QQC h
 ·cases h

theorem Px:evT nat Ev.tab 3000 9 []=true:=by decide +kernel

theorem YG:Qj Tryz.prog 9 [] (.bool true):=Vu nat_ok Ev.Qu6 Px

end Go.Proofs.YtipjfckmopekaaaGreatDoor.Ew

namespace Go.Proofs.YtipjfckmopekaaaGreatDoor.Va
open Go Am Rc Bt Br Up So Vp Cp

theorem QHu {p:Prop}{b:Bool}(h:b=true→p):Hb p (.bool b):=⟨b,rfl,h⟩

section
variable {M:Nat}(P:PL)(hP:P.ok M)(hM:M≤140737488351232)(s:List UInt8)(v:V)(hv:v.ok M)

include hP hM in
theorem n7:Wz Tryz.prog 7 [P.av] (Hb (Uo P∧ck P=0)):=by
 have e0:P.av=.agg [.list (P.progs.map Qn),.list (P.enums.map Qr)]:=rfl;have c1:=n21 hM P hP;have c2:=z22 P hP hM;rw[e0]at c1 c2 ⊢;refine k7.rl (by simp) ?_;simp only[eE,seval];refine Zm (R:=Hb (Uo P)) c1 rfl rfl (fun _ h=>h.rf) ?_;rintro _ ⟨b,rfl,hb⟩;cases b
 ·simp only[GS,Qa,seval]
 simp only[eE,seval];refine Qb c2 rfl rfl rfl (.inl rfl) ?_;simp only[Qa,seval];exact QHu fun h=>⟨hb rfl,by simpa using h⟩

end
end Go.Proofs.YtipjfckmopekaaaGreatDoor.Va

namespace Go.Proofs.YtipjfckmopekaaaGreatDoor.Va
open Go Am Rc Bt Br Up

open So Vp Cp

section
variable {M:Nat}(P:PL)(hP:P.ok M)(hM:M≤140737488351232)(s:List UInt8)(t:Int)(v:V)(hv:v.ok M)

include hP hM hv in
theorem c4:Qj Tryz.prog 4 [P.av,.int .i64 t,v.av] (.bool true):=by
 have e0:P.av=.agg [.list (P.progs.map Qn),.list (P.enums.map Qr)]:=rfl;have c1:=n7 P hP hM;have c2:=n8 v hv 500 (by decide) (by decide);have c3:=fun(hg:Uo P∧ck P=0)=>v14 hP hM (Bj hg.2) t v hv
 have c4:=fun(hg:Uo P∧ck P=0) (hc:v.cnt≤1048576) (hf:Jr P t v=0)=>t15 hM P hP hg.1 hg.2 t v hv hc hf
 have c5:=fun(hg:Uo P∧ck P=0) (hc:v.cnt≤1048576) (hf:Jr P t v=0)=>Qw2 P hP hg.2 t v hv hc hf
 generalize Zo P 16 t v=d at c4 c5;rw[e0]at c1;rw[e0,Qy v]at c3 c4 c5;rw[Qy v]at c2;rw[e0,Qy v];refine k4.fn (by simp) ?_;simp only[eE,seval];refine Zm (R:=Hb (Uo P∧ck P=0)) c1 rfl rfl (fun _ h=>h.rf) ?_;rintro _ ⟨b,rfl,hg⟩;cases b
 ·simp only[Qa,seval];refine Qb Ew.YG rfl rfl rfl (.inl rfl) ?_;simp only[Qa,seval]
 replace hg:=hg rfl;simp only[eE,seval];refine Zm (R:=Hb ((v.cnt:Int)≤500)) c2 rfl rfl (fun _ h=>h.rf) ?_;rintro _ ⟨b,rfl,hc⟩;cases b
 ·simp only[Qa,seval];refine Qb Ew.YG rfl rfl rfl (.inl rfl) ?_;simp only[Qa,seval]
 replace hc:=hc rfl;have hc':v.cnt≤1048576:=by omega
 simp only[eE,seval];refine Qb (c3 hg) rfl rfl rfl (.inl rfl) ?_;by_cases hf:Jr P t v=0
 case neg=>
  have b0:(Jr P t v != 0)=true:=by simp[hf]
  simp only[b0,Qa,seval];refine Qb Ew.YG rfl rfl rfl (.inl rfl) ?_;simp only[Qa,seval]
 have b0:(Jr P t v != 0)=false:=by simp[hf]
 simp only[b0,eE,seval];refine Qb (c4 hg hc' hf) rfl rfl rfl (.inl rfl) ?_;simp only[eE,seval];refine Qb (c5 hg hc' hf) rfl rfl rfl (.inl rfl) ?_;simp only[QVV,QM,Qa,seval];refine Qb Ew.YG rfl rfl rfl (.inl rfl) ?_;simp only[Qa,seval]

end
end Go.Proofs.YtipjfckmopekaaaGreatDoor.Va

/- Parts of the proof, in order. -/
import Derived.Test.YtipjfckmopekaaaGreatDoorMTagencSlots4

set_option linter.unusedSimpArgs false
namespace Go.Proofs.YtipjfckmopekaaaGreatDoor.Va
open Go Am Rc Bt Br Up So

theorem PF {fr:Nat→Ob}{a b:Nat}(h1:(fr a).isRow=false)(h2:(fr b).isRow=false):∀s∈[a,b],(fr s).isRow=false:=by
 intro s hs;simp only[QW9,QXP,or_false]at hs;rcases hs with rfl|rfl
 ·exact h1
 ·exact h2
theorem Uy {fr:Nat→Ob}{a:Nat}(h1:(fr a).isRow=false):∀s∈[a],(fr s).isRow=false:=by
 intro s hs;simp only[QW9,QXP,or_false]at hs;subst hs;exact h1

theorem isr {x:Ob}(h:x=.none):x.isRow=false:=by rw[h];rfl

def Zs (nm:PG→V→V)(P:PL)(o:PO)(s:Int×V):List (Int×V):=if (s.1==o.num)=true then Zz nm P o s else []
theorem D1 (nm:PG→V→V)(P:PL)(o:PO):∀l:List (Int×V),(l.flatMap (Zs nm P o)).length≤l.length
 | []=>QVL _
 |s :: l=>by
  have h1:(Zs nm P o s).length≤1:=by
   unfold Zs;split
   ·unfold Zz;split<;>simp
   ·simp
  have:=D1 nm P o l;rw[QXg,QWp,QV2];omega

def XV (v:V):List AV:=[.int .i64 v.kd,.int .u64 (v.bits:Nat),.str v.text,.list (v.list.map V.av),.list (v.pairs.map V.pav),.list (v.slots.map V.sav),.list (v.raws.map R.av)]

theorem RS {P:PL}{v:V}{o:PO}{n:Nat}{ti i:Nat}(K:List (Int×V))(hK:K.length≤64)(hS:v.slots.length≤1048576)(rw':List R)
  (hw:∀x∈v.slots,x.1=o.num→Qj Tryz.prog 70 [P.av,Qt o,x.2.av] (ZN (Xb P n) P o x.2).av)
  (fr:Nat→Ob) (f:Fr) (gs:Nat) (h1:f 1=.int .i64 (ti:Nat)) (h3:f 3=.ptr 0 3 0) (h5:f 5=.ptr 0 5 0) (h6:f 6=.ptr 0 6 0) (h7:f 7=.ptr 0 7 0) (h8:f 8=.int .i64 (i:Nat)) (h9:f 9=.ptr 0 9 0) (h10:f 10=.int .i64 0) (m3:fr 3=.cells [.list (P.progs.map Qn),.list (P.enums.map Qr)]) (m5:fr 5=.cells (XV v)) (m6:fr 6=.cells [.int .i64 0,.int .u64 0,.str [],.nils,.nils,.nils,.nils]) (m7:fr 7=.cells [.int .i64 10,.int .u64 0,.str [],.nils,.nils,.vec 0 1100 gs 0 K.length false,.list (rw'.map R.av)]) (m9:fr 9=.cells o.cells) (mS:fr 1100=.vec gs 8 (K.map V.sav)) (Z8:∀s∈[11],(fr s).isRow=false)
  (Q:Exit→St→Prop)
  (q:∀(f:Fr) (fr:Nat→Ob) (gs:Nat),f 1=.int .i64 (ti:Nat)→f 3=.ptr 0 3 0→f 5=.ptr 0 5 0→f 6=.ptr 0 6 0→f 7=.ptr 0 7 0→f 8=.int .i64 (i:Nat)→fr 3=.cells [.list (P.progs.map Qn),.list (P.enums.map Qr)]→fr 5=.cells (XV v)→fr 6=.cells [.int .i64 0,.int .u64 0,.str [],.nils,.nils,.nils,.nils]→fr 7=.cells [.int .i64 10,.int .u64 0,.str [],.nils,.nils,.vec 0 1100 gs 0 (K++v.slots.flatMap (Zs (Xb P n) P o)).length false,.list (rw'.map R.av)]→fr 1100=.vec gs 8 ((K++v.slots.flatMap (Zs (Xb P n) P o)).map V.sav)→(fr 9).isRow=false→(fr 11).isRow=false→Q (.exit 2) (⟨f,[fr],[]⟩:St)) :
  QH Tryz.prog (.loop Se) ⟨f,[fr],[]⟩ Q:=by
 have e0:P.av=.agg [.list (P.progs.map Qn),.list (P.enums.map Qr)]:=rfl
 let L:Nat→List (Int×V):=fun k=>K++(v.slots.take k).flatMap (Zs (Xb P n) P o)
 have hL0:L 0=K:=by simp[L]
 have hLn:L v.slots.length=K++v.slots.flatMap (Zs (Xb P n) P o):=by simp[L]
 have hLl:∀k,k≤v.slots.length→(L k).length≤64+k:=by
  intro k hk;have:=D1 (Xb P n) P o (v.slots.take k);rw[QWK]at this;simp only[L,QWp];omega
 have hLs:∀k x,v.slots[k]? = some x→L (k+1)=L k++Zs (Xb P n) P o x:=by
  intro k x hx;simp only[L];rw[QXv,hx,QXS,QV8];simp
 rw[←hLn]at q;rw[←hL0]at m7 mS
 clear_value L
 clear hL0 hLn hK
 let I:Nat→St→Prop:=fun d st=>∃f fr k gs,st=⟨f,[fr],[]⟩∧d=v.slots.length-k∧k≤v.slots.length∧f 1=.int .i64 (ti:Nat)∧f 3=.ptr 0 3 0∧f 5=.ptr 0 5 0∧f 6=.ptr 0 6 0∧f 7=.ptr 0 7 0∧f 8=.int .i64 (i:Nat)∧f 9=.ptr 0 9 0∧f 10=.int .i64 (k:Nat)∧fr 3=.cells [.list (P.progs.map Qn),.list (P.enums.map Qr)]∧fr 5=.cells (XV v)∧fr 6=.cells [.int .i64 0,.int .u64 0,.str [],.nils,.nils,.nils,.nils]∧fr 7=.cells [.int .i64 10,.int .u64 0,.str [],.nils,.nils,.vec 0 1100 gs 0 (L k).length false,.list (rw'.map R.av)]∧fr 9=.cells o.cells∧fr 1100=.vec gs 8 ((L k).map V.sav)∧∀s∈[11],(fr s).isRow=false
 refine Qd I _ ⟨f,fr,0,gs,rfl,rfl,QVV _,h1,h3,h5,h6,h7,h8,h9,h10,m3,m5,m6,m7,m9,mS,Z8⟩ ?_;clear h1 h3 h5 h6 h7 h8 h9 h10 m3 m5 m6 m7 m9 mS Z8;rintro _ st ⟨f0,fr0,k,gs,rfl,rfl,hkl,h10,h30,h50,h60,h70,h80,h90,h100,m30,m50,m60,m70,m90,mS0,Z8⟩;refine QO (a:=_) [11] Z8 ?_;intro f fr hf hm hn11;have h1:f 1=.int .i64 (ti:Nat):=by rw[hf,h10]<;>rfl
 have h3:f 3=.ptr 0 3 0:=by rw[hf,h30]<;>rfl
 have h5:f 5=.ptr 0 5 0:=by rw[hf,h50]<;>rfl
 have h6:f 6=.ptr 0 6 0:=by rw[hf,h60]<;>rfl
 have h7:f 7=.ptr 0 7 0:=by rw[hf,h70]<;>rfl
 have h8:f 8=.int .i64 (i:Nat):=by rw[hf,h80]<;>rfl
 have h9:f 9=.ptr 0 9 0:=by rw[hf,h90]<;>rfl
 have h10':f 10=.int .i64 (k:Nat):=by rw[hf,h100]<;>rfl
 have m3:fr 3=.cells [.list (P.progs.map Qn),.list (P.enums.map Qr)]:=by rw[hm 3 (by decide),m30]<;>rfl
 have m5':fr 5=.cells (XV v):=by rw[hm 5 (by decide),m50]<;>rfl
 have m6:fr 6=.cells [.int .i64 0,.int .u64 0,.str [],.nils,.nils,.nils,.nils]:=by rw[hm 6 (by decide),m60]<;>rfl
 have m7:fr 7=.cells [.int .i64 10,.int .u64 0,.str [],.nils,.nils,.vec 0 1100 gs 0 (L k).length false,.list (rw'.map R.av)]:=by rw[hm 7 (by decide),m70]<;>rfl
 have m9':fr 9=.cells o.cells:=by rw[hm 9 (by decide),m90]<;>rfl
 have mS:fr 1100=.vec gs 8 ((L k).map V.sav):=by rw[hm 1100 (by decide),mS0]<;>rfl
 have n11:=hn11 11 (by decide);clear hf hm hn11 h10 h30 h50 h60 h70 h80 h90 h100 m30 m50 m60 m70 m90 mS0 Z8;have m5:=m5';have m9:=m9';simp only[XV]at m5;simp only[PO.cells]at m9;simp only[QWI,h5,h10',m5,eE,seval];by_cases hlt:k<v.slots.length
 ·obtain⟨x,hi⟩:∃x,v.slots[k]? = some x:=⟨v.slots[k],QVO hlt⟩;have hx:=QV0 hi;have hgs:=JA hi;have e1:=Qm k _ hlt (by simp only[maxLen];omega);have hKs:=hLs k x hi;have hKi:=hLl k (by omega);have fin:∀(f':Fr) (fr':Nat→Ob) (gs':Nat),f' 1=.int .i64 (ti:Nat)→f' 3=.ptr 0 3 0→f' 5=.ptr 0 5 0→f' 6=.ptr 0 6 0→f' 7=.ptr 0 7 0→f' 8=.int .i64 (i:Nat)→f' 9=.ptr 0 9 0→f' 10=.int .i64 ((k+1:Nat):Int)→fr' 3=.cells [.list (P.progs.map Qn),.list (P.enums.map Qr)]→fr' 5=.cells (XV v)→fr' 6=.cells [.int .i64 0,.int .u64 0,.str [],.nils,.nils,.nils,.nils]→fr' 7=.cells [.int .i64 10,.int .u64 0,.str [],.nils,.nils,.vec 0 1100 gs' 0 (L (k+1)).length false,.list (rw'.map R.av)]→fr' 9=.cells o.cells→fr' 1100=.vec gs' 8 ((L (k+1)).map V.sav)→(∀s∈[11],(fr' s).isRow=false)→∃d,d<v.slots.length-k∧I d ⟨f',[fr'],[]⟩:=by
   intro f' fr' gs' a1 a3 a5 a6 a7 a8 a9 a10 b3 b5 b6 b7 b9 bS br;exact⟨v.slots.length-(k+1),by omega,f',fr',k+1,gs',rfl,rfl,by omega,a1,a3,a5,a6,a7,a8,a9,a10,b3,b5,b6,b7,b9,bS,br⟩
  cases hne:(x.1==o.num)
  ·have bn:(x.1 != o.num)=true:=by simp[bne,hne]
   unfold Zs at hKs;rw[hne,QV1 (by simp),QWQ]at hKs;simp only[Ql hlt,Qh,QXe,Qc,hgs,bn,QWu,h5,h9,h10',m5,m9,e1,eE,seval];exact fin _ _ gs (by exact h1) (by exact h3) (by exact h5) (by exact h6) (by exact h7) (by exact h8) (by exact h9) (by rfl) (by exact m3) (by exact m5') (by exact m6) (by rw[hKs];exact(by exact m7)) (by exact m9') (by rw[hKs];exact(by exact mS)) (Uy (isr (by exact n11)))
  ·have bn:(x.1 != o.num)=false:=by simp[bne,hne]
   unfold Zs at hKs;rw[hne,QWg rfl]at hKs;unfold Zz at hKs;have c2:=hw x hx (by simpa using hne);have c3:=QId (ZN (Xb P n) P o x.2);generalize ZN (Xb P n) P o x.2=z at c2 c3 hKs;rw[e0,Qw x.2,Qw z]at c2;rw[Qw z]at c3;simp only[Qt,PO.cells]at c2;simp only[Ql hlt,Qh,QXe,Qc,hgs,bn,QWk,QWn,QWu,h3,h5,h9,h10',m3,m5,m9,eE,seval];refine Qb c2 rfl rfl rfl (.inl rfl) ?_;simp only[n11,h9,m9,eE,seval];cases hb:decide (o.card<3)
   ·rw[hb,QXs]at hKs;simp only[eE,seval];refine Qb c3 rfl rfl rfl (.inl rfl) ?_;cases hz:z.emp
    ·rw[hz,QWg (show(!false)=true from rfl)]at hKs;simp only[h7,h9,m7,m9,eE,seval];refine QP (l:=[V.sav (o.num,z)]) rfl rfl rfl (by rw[Zm];rfl) ?_;refine QI (site:=1100) (g:=gs) (n:=(L k).length) (xs:=(L k).map V.sav) (ys:=[V.sav (o.num,z)]) (by rfl) (by exact mS) rfl (by rw[QWI]) rfl (W5 [(o.num,z)]) (by simp only[QV2,QWJ,maxLen];omega) (by simp only[QV2,QWJ];omega) ?_;simp only[h7,h10',m7,e1,eE,seval];exact fin _ _ (gs+1) (by exact h1) (by exact h3) (by exact h5) (by exact h6) (by exact h7) (by exact h8) (by exact h9) (by rfl) (by exact m3) (by exact m5') (by exact m6) (by rw[hKs,QWp];exact(by rfl)) (by exact m9') (by rw[hKs,QXu];exact(by rfl)) (Uy rfl)
    ·rw[hz,QV1 (by simp),QWQ]at hKs;simp only[h10',e1,Qa,seval];exact fin _ _ gs (by exact h1) (by exact h3) (by exact h5) (by exact h6) (by exact h7) (by exact h8) (by exact h9) (by rfl) (by exact m3) (by exact m5') (by exact m6) (by rw[hKs];exact(by exact m7)) (by exact m9') (by rw[hKs];exact(by exact mS)) (Uy rfl)
   ·rw[hb,QXr,QWg rfl]at hKs;simp only[h7,h9,m7,m9,eE,seval];refine QP (l:=[V.sav (o.num,z)]) rfl rfl rfl (by rw[Zm];rfl) ?_;refine QI (site:=1100) (g:=gs) (n:=(L k).length) (xs:=(L k).map V.sav) (ys:=[V.sav (o.num,z)]) (by rfl) (by exact mS) rfl (by rw[QWI]) rfl (W5 [(o.num,z)]) (by simp only[QV2,QWJ,maxLen];omega) (by simp only[QV2,QWJ];omega) ?_;simp only[h7,h10',m7,e1,eE,seval];exact fin _ _ (gs+1) (by exact h1) (by exact h3) (by exact h5) (by exact h6) (by exact h7) (by exact h8) (by exact h9) (by rfl) (by exact m3) (by exact m5') (by exact m6) (by rw[hKs,QWp];exact(by rfl)) (by exact m9') (by rw[hKs,QXu];exact(by rfl)) (Uy rfl)
 ·have e:k=v.slots.length:=by omega
  subst e;simp only[Qy hlt,Qa,seval];exact q _ _ gs (by exact h1) (by exact h3) (by exact h5) (by exact h6) (by exact h7) (by exact h8) (by exact m3) (by exact m5') (by exact m6) (by exact m7) (by exact mS) (by rw[m9'];rfl) (isr n11)

def NoI (P:PL)(v:V)(K:Nat→List (Int×V))(len:Nat)(t:Nat)(rw':List R)(d:Nat)(st:St):Prop :=
 ∃f fr i gs,st=⟨f,[fr],[]⟩∧d=len-i∧i≤len∧f 1=.int .i64 (t:Nat)∧f 3=.ptr 0 3 0∧f 5=.ptr 0 5 0∧f 6=.ptr 0 6 0∧f 7=.ptr 0 7 0∧f 8=.int .i64 (i:Nat)∧fr 3=.cells [.list (P.progs.map Qn),.list (P.enums.map Qr)]∧fr 5=.cells (XV v)∧fr 6=.cells [.int .i64 0,.int .u64 0,.str [],.nils,.nils,.nils,.nils]∧fr 7=.cells [.int .i64 10,.int .u64 0,.str [],.nils,.nils,.vec 0 1100 gs 0 (K i).length false,.list (rw'.map R.av)]∧fr 1100=.vec gs 8 ((K i).map V.sav)∧∀s∈[11,9],(fr s).isRow=false

section
variable {M:Nat}{P:PL}

set_option maxHeartbeats 2000000 in
theorem v35 (hU:Yd P)(hr:Ke P)(hl:∀g∈P.progs,g.ops.length≤64):∀(n:Nat) (t:Int) (g:PG),P.progs[t.toNat]? = some g→0≤t→∀v:V,v.ok M→v.cnt≤1048576→MW P n g v→Qj Tryz.prog 35 [P.av,.int .i64 t,v.av] (Xb P n g v).av:=by
 have e0:P.av=.agg [.list (P.progs.map Qn),.list (P.enums.map Qr)]:=rfl;intro n
 induction n with
 |zero=>
  intro t g _ _ v _ _ h;exact h.elim
 |succ n ih=>
  intro t g hgt t0 v hv hc h;have hgm:=QV0 hgt;have hu:=hU g hgm;have hd:=hr g hgm;have hg64:=hl g hgm;obtain⟨s1,s2⟩:=h;have hnor:=fun(o:PO) (ho:o∈g.ops) (x:V) (hx:x.ok M) (hxc:x.cnt≤1048576) (he:EW (MW P n) P o x)=>QRm o (hu o ho) (fun t g a b v c d e=>ih t g a b v c d e) x hx hxc he
  have hwit:=fun(o:PO) (ho:o∈g.ops) (x:V) (hx:x.ok M) (hxc:x.cnt≤1048576) (he:FW (MW P n) P o x)=>v70 o (hu o ho) (hnor o ho) x hx hxc he
  have lS:=JY v;have lR:=YJ v;have cR:=v69 v.raws (by omega);obtain⟨ti,hti⟩:=QXq t0;subst hti;rw[QXe]at hgt;have hga:(P.progs.map Qn)[ti]? = some (.agg g.cells):=by simp[hgt,Qn]
  simp only[PG.cells]at hga;have htl:ti<P.progs.length:=(QVN.1 hgt).1;have d0:decide ((ti:Int)<0)=false:=QXy (by omega);have d1:decide ((ti:Int)≥(P.progs.length:Int))=false:=QXy (by omega);show Qj _ _ _ (V.mk 10 0 [] [] [] (g.ops.flatMap (Xv (Xb P n) P v.slots)) (Zv v.raws)).av;have hfin:g.ops.flatMap (Xv (Xb P n) P v.slots)=g.ops.flatMap fun o=>v.slots.flatMap (Zs (Xb P n) P o):=by
   congr 1
   funext o;exact(Bx (Xb P n) P s2).symm
  have hone:∀o,(v.slots.flatMap (Zs (Xb P n) P o)).length≤1:=by
   intro o;have e:v.slots.flatMap (Zs (Xb P n) P o)=Xv (Xb P n) P v.slots o:=Bx (Xb P n) P s2;rw[e,Wa];split
   ·simp
   ·unfold Zz;split<;>simp
  rw[hfin];generalize Zv v.raws=RW at *;rw[show v.av=.agg (XV v)from Qw v];generalize hK:(fun i=>(g.ops.take i).flatMap fun o=>v.slots.flatMap (Zs (Xb P n) P o))=K;have hK0:K 0=[]:=by rw[←hK];simp
  have hKn:(g.ops.flatMap fun o=>v.slots.flatMap (Zs (Xb P n) P o))=K g.ops.length:=by rw[←hK];simp
  have hKl:∀i,i≤g.ops.length→(K i).length≤64:=by
   intro i hi;rw[←hK];have:∀l:List PO,(l.flatMap fun o=>v.slots.flatMap (Zs (Xb P n) P o)).length≤l.length:=by
    intro l
    induction l with
    |nil=>exact QVL _
    |cons o l ih=>
     have:=hone o;rw[QXg,QWp,QV2];omega
   have h2:=this (g.ops.take i);rw[QWK]at h2;show((g.ops.take i).flatMap _).length≤64;omega
  have hKs:∀i o,g.ops[i]? = some o→K (i+1)=K i++v.slots.flatMap (Zs (Xb P n) P o):=by
   intro i o ho;rw[←hK];show(g.ops.take (i+1)).flatMap _=(g.ops.take i).flatMap _++_;rw[QXv,ho,QXS];simp
  rw[hKn,show(V.mk 10 0 [] [] [] (K g.ops.length) RW).av=.agg [.int .i64 10,.int .u64 0,.str [],.list [],.list [],.list ((K g.ops.length).map V.sav),.list (RW.map R.av)]from Qw _];clear hKn hfin hone;refine k35.fn (by simp) ?_;simp only[e0,XV,d0,d1,QWI,eE,seval];refine Qb cR rfl rfl rfl (.inl rfl) ?_;simp only[eE,seval];refine JJ (by simp only[Qa,seval]<;>rfl) rfl (by simp only[Qa,seval]<;>rfl) rfl ?_;simp only[List.set,Qa,seval];refine Qd (NoI P v K g.ops.length ti RW) _ ⟨_,_,0,_,rfl,rfl,QVV _,(by rfl),(by rfl),(by rfl),(by rfl),(by rfl),(by rfl),(by rfl),(by rfl),(by rfl),(by rw[hK0];exact(by rfl)),(by rw[hK0];exact(by rfl)),PF rfl rfl⟩ ?_;rintro _ st ⟨f0,fr0,i,gs,rfl,rfl,hil,h10,h30,h50,h60,h70,h80,m30,m50,m60,m70,mS0,Z8⟩;refine QO (a:=_) [11,9] Z8 ?_;intro f fr hf hm hn11;have h1:f 1=.int .i64 (ti:Nat):=by rw[hf,h10]<;>rfl
  have h3:f 3=.ptr 0 3 0:=by rw[hf,h30]<;>rfl
  have h5:f 5=.ptr 0 5 0:=by rw[hf,h50]<;>rfl
  have h6:f 6=.ptr 0 6 0:=by rw[hf,h60]<;>rfl
  have h7:f 7=.ptr 0 7 0:=by rw[hf,h70]<;>rfl
  have h8:f 8=.int .i64 (i:Nat):=by rw[hf,h80]<;>rfl
  have m3:fr 3=.cells [.list (P.progs.map Qn),.list (P.enums.map Qr)]:=by rw[hm 3 (by decide),m30]<;>rfl
  have m5:fr 5=.cells (XV v):=by rw[hm 5 (by decide),m50]<;>rfl
  have m6:fr 6=.cells [.int .i64 0,.int .u64 0,.str [],.nils,.nils,.nils,.nils]:=by rw[hm 6 (by decide),m60]<;>rfl
  have m7:fr 7=.cells [.int .i64 10,.int .u64 0,.str [],.nils,.nils,.vec 0 1100 gs 0 (K i).length false,.list (RW.map R.av)]:=by rw[hm 7 (by decide),m70]<;>rfl
  have mS:fr 1100=.vec gs 8 ((K i).map V.sav):=by rw[hm 1100 (by decide),mS0]<;>rfl
  have n11:=hn11 11 (by decide);have n9:=hn11 9 (by decide);clear hf hm hn11 h10 h30 h50 h60 h70 h80 m30 m50 m60 m70 mS0 Z8;simp only[Qh,QXe,Qc,hga,QWI,QWn,QWu,h1,h3,h8,m3,eE,seval];by_cases hlt:i<g.ops.length
  ·obtain⟨o,hi⟩:∃o,g.ops[i]? = some o:=⟨g.ops[i],QVO hlt⟩;have hom:=QV0 hi;have hgo:(g.ops.map fun o=>AV.agg o.cells)[i]? = some (.agg o.cells):=by simp[hi]
   simp only[PO.cells]at hgo;have e1:=Qm i _ hlt (by simp only[maxLen];omega);have hKi:=hKl i (by omega);have hKs':=hKs i o hi;simp only[Ql hlt,Qh,QXe,Qc,hga,PO.cells,hgo,n9,h1,h3,h8,m3,eE,seval];refine RS (P:=P) (v:=v) (o:=o) (n:=n) (ti:=ti) (i:=i) (K i) hKi (by omega) RW (fun x hx hxn=>by
    obtain⟨o',ho',hf'⟩:=s1 x hx;rw[hxn,Zg hd hom]at ho';cases ho';exact hwit o hom x.2 (hv.slots x hx) (QVM (JN hx) hc) hf') _ _ gs (by exact h1) (by exact h3) (by exact h5) (by exact h6) (by exact h7) (by exact h8) (by rfl) (by rfl) (by exact m3) (by exact m5) (by exact m6) (by exact m7) (by rfl) (by exact mS) (Uy (isr (by exact n11))) _ ?_
   clear h1 h3 h5 h6 h7 h8 m3 m5 m6 m7 mS n11 n9;intro f fr gs h1 h3 h5 h6 h7 h8 m3 m5 m6 m7 mS n9 n11;rw[←hKs']at m7 mS;simp only[h8,e1,Qa,seval];exact⟨g.ops.length-(i+1),by omega,_,_,i+1,gs,rfl,rfl,by omega,(by exact h1),(by exact h3),(by exact h5),(by exact h6),(by exact h7),(by rfl),m3,m5,m6,m7,mS,PF n11 n9⟩
  ·have e:i=g.ops.length:=by omega
   subst e;simp only[Qy hlt,h6,h7,m6,m7,eE,seval];simp[AV.un,AV.unL,X8,Xq,mS,QWl]

end

theorem PH {M:Nat}{v:V}(h:v.ok M):v.nsc.ok M:=by
 refine .mk h.kd ?_ h.text h.nl h.np h.ns h.nr h.list h.keys h.vals h.nums h.slots h.raws;show(Lit.int .u64 ((XD v.kd v.bits:Nat):Int)).wf=true;unfold XD;split
 ·rfl
 ·exact h.bits

def Gd (g:PG):Prop:=g.ops.length≤64∧∀o∈g.ops,(Lit.int .i64 o.num).wf=true

section
variable {M:Nat}{P:PL}{nm:PG→V→V}(h:∀t v,v.ok M→(nm (QW P t) v).ok M)
include h
theorem B5 (o:PO){v:V}(hv:v.ok M):(Zx nm P o v).ok M:=by
 unfold Zx;split
 ·exact h _ v hv
 ·exact PH hv
theorem Qxo (o:PO){v:V}(hv:v.ok M):(ZN nm P o v).ok M:=by
 unfold ZN;split
 ·refine .mk rfl rfl (QVV _) ?_ (QVV _) (QVV _) (QVV _) ?_ (fun x hx=>nomatch hx) (fun x hx=>nomatch hx) (fun x hx=>nomatch hx) (fun x hx=>nomatch hx) (fun x hx=>nomatch hx)
  ·show(v.list.map _).length≤_;rw[QWI];exact hv.nl
  ·intro x hx;obtain⟨y,hy,rfl⟩:=QW7.1 hx;exact B5 h o (hv.list y hy)
 ·split
  ·have hp:(Xe o.key v.pairs).Perm v.pairs:=Xa _;refine .mk rfl rfl (QVV _) (QVV _) ?_ (QVV _) (QVV _) (fun x hx=>nomatch hx) ?_ ?_ (fun x hx=>nomatch hx) (fun x hx=>nomatch hx) (fun x hx=>nomatch hx)
   ·show((Xe o.key v.pairs).map _).length≤_;rw[QWI,hp.length_eq];exact hv.np
   ·intro x hx;obtain⟨y,hy,rfl⟩:=QW7.1 hx;exact PH (hv.keys y (hp.mem_iff.1 hy))
   ·intro x hx;obtain⟨y,hy,rfl⟩:=QW7.1 hx;exact B5 h o (hv.vals y (hp.mem_iff.1 hy))
  ·exact B5 h o hv
theorem L7 {g:PG}(hg:Gd g){v:V}(hv:v.ok M):(HB nm P g v).ok M:=by
 unfold HB;have hp:(Zv v.raws).Perm v.raws:=Xa _;have hs:∀x∈g.ops.flatMap (Xv nm P v.slots),(Lit.int .i64 x.1).wf=true∧x.2.ok M:=by
  intro x hx;obtain⟨o,ho,hx⟩:=QWy.1 hx;obtain⟨e1,s,hs,_,e2⟩:=ZO hx;rw[e1,e2];exact⟨hg.2 o ho,Qxo h o (hv.slots s hs)⟩
 have hl:∀l:List PO,(l.flatMap (Xv nm P v.slots)).length≤l.length:=by
  intro l
  induction l with
  |nil=>exact QVL _
  |cons o l ih=>
   have:(Xv nm P v.slots o).length≤1:=by
    unfold Xv;split
    ·simp
    ·split<;>simp
   rw[QXg,QWp,QV2];omega
 refine .mk rfl rfl (QVV _) (QVV _) (QVV _) ?_ ?_ (fun x hx=>nomatch hx) (fun x hx=>nomatch hx) (fun x hx=>nomatch hx) (fun x hx=>(hs x hx).1) (fun x hx=>(hs x hx).2) ?_
 ·show(g.ops.flatMap (Xv nm P v.slots)).length≤_;have:=hl g.ops;have:=hg.1;omega
 ·show(Zv v.raws).length≤_;rw[hp.length_eq];exact hv.nr
 ·intro x hx;exact hv.raws x (hp.mem_iff.1 hx)
end
theorem G0 {M:Nat}{P:PL}(hg:∀t,Gd (QW P t)):∀(n:Nat) (t:Int) (v:V),v.ok M→(Xb P n (QW P t) v).ok M
 |0,_,_,h=>h
 |n+1,t,_,h=>L7 (fun t v hv=>G0 hg n t v hv) (hg t) h

theorem Cv {M:Nat}{P:PL}(hP:P.ok M)(hl:∀g∈P.progs,g.ops.length≤64)(t:Int):Gd (QW P t):=by
 unfold QW;cases hg:P.progs[t.toNat]? with
 |none=>exact⟨QVV _,fun o ho=>nomatch ho⟩
 |some g=>
  have hm:=QV0 hg;exact⟨hl g hm,fun o ho=>((hP.progs g hm).ops o ho).num⟩
theorem Uz {P:PL}(h:ck P=0):∀g∈P.progs,g.ops.length≤64:=by
 unfold ck at h;split at h
 ·omega
 rename_i hl;exact(Uj (by simpa using hl)).2.2.1

open Vp Cp

theorem Qxp (x:V):ZU 0 x=Q8 x.kd x.bits x.text:=by
 unfold ZU Q8 zr
 repeat' split
 all_goals rfl
theorem DA (bd:Int→V→List UInt8)(o:PO)(n:Int)(x:V):({ Q2 bd o 0 x with num:=n }:R)=Q2 bd o n x:=by
 unfold Q2;split
 ·rfl
 ·rfl
theorem Qxq {α:Type}(l:List α)(F:α→R):(l.map fun x=>(F x).av)=(l.map F).map R.av:=by rw[QXx];rfl
theorem ZA {fr:Nat→Ob}{a:Nat}(h1:(fr a).isRow=false):∀s∈[a],(fr s).isRow=false:=by
 intro s hs;simp only[QW9,QXP,or_false]at hs;subst hs;exact h1

theorem Cw (n:Int)(f:R):Qj Tryz.prog 196 [.int .i64 n,f.av] ({ f with num:=n }:R).av:=by
 refine Qhn.fn (by simp) ?_;simp only[R.av,eE,seval]

theorem t25 {M:Nat}{v:V}(hv:v.ok M):Qj Tryz.prog 25 [v.av] (ZU 0 v).av:=by
 rw[Qxp,Qw];exact y25 v.kd v.bits (T7 hv) v.text _ _ _ _

section
variable {M:Nat}{P:PL}{m:PG→V→Int}{bd:Int→V→List UInt8}(o:PO)(ho:UO P o)

include ho in
theorem QRn (hb:∀(t:Int) (g:PG),P.progs[t.toNat]? = some g→0≤t→∀v:V,v.ok M→v.cnt≤1048576→m g v=0→Qj Tryz.prog 29 [P.av,.int .i64 t,v.av] (.str (bd t v)))(x:V)(hx:x.ok M)(hc:x.cnt≤1048576)(he:QT m P o x=0) :
  Qj Tryz.prog 197 [P.av,Qt o,x.av] (Q2 bd o 0 x).av:=by
 have e0:P.av=.agg [.list (P.progs.map Qn),.list (P.enums.map Qr)]:=rfl;unfold Q2;by_cases hk:o.kind=10
 ·have b:(o.kind==10)=true:=by simp[hk]
  rw[QWg hk];unfold QT at he;rw[QWg hk]at he;obtain⟨t0,t1⟩:=ho.tgt hk;obtain⟨g,hg⟩:∃g,P.progs[o.target.toNat]? = some g:=⟨P.progs[o.target.toNat]'(by omega),QVO (by omega)⟩;have hq:QW P o.target=g:=by unfold QW;rw[hg];rfl
  rw[hq]at he;have h2:=hb o.target g hg t0 x hx hc he;rw[e0,Qw]at h2;rw[Qw];refine P7.fn (by simp) ?_;simp only[e0,Qt,PO.cells,b,R.av,eE,seval];refine Qb h2 rfl rfl rfl (.inl rfl) ?_;simp only[eE,seval]
 ·have b:(o.kind==10)=false:=by simp[hk]
  rw[QV1 hk];have h1:=t25 hx;generalize ZU 0 x=z at h1 ⊢;rw[Qw]at h1;rw[Qw];simp only[R.av]at h1;refine P7.fn (by simp) ?_;simp only[e0,Qt,PO.cells,b,R.av,eE,seval];refine Qb h1 rfl rfl rfl (.inl rfl) ?_;simp only[eE,seval]

def QRo (P:PL)(o:PO)(l:List V)(F:V→R)(k:Nat)(st:St):Prop :=
 ∃f fr i g,st=⟨f,[fr],[]⟩∧k=l.length-i∧i≤l.length∧f 3=.ptr 0 3 0∧f 4=.ptr 0 4 0∧f 7=.vec 0 7 g 0 i false∧f 11=.list (l.map V.av)∧f 12=.int .i64 (l.length:Nat)∧f 13=.int .i64 (i:Nat)∧fr 3=.cells [.list (P.progs.map Qn),.list (P.enums.map Qr)]∧fr 4=.cells o.cells∧fr 7=.vec g 4 ((l.take i).map fun x=>(F x).av)∧∀s∈[9],(fr s).isRow=false

def QRp (P:PL)(o:PO)(l:List (V×V))(F:V×V→R)(k:Nat)(st:St):Prop :=
 ∃f fr i g,st=⟨f,[fr],[]⟩∧k=l.length-i∧i≤l.length∧f 3=.ptr 0 3 0∧f 4=.ptr 0 4 0∧f 7=.vec 0 7 g 0 i false∧f 12=.list (l.map V.pav)∧f 13=.int .i64 (l.length:Nat)∧f 14=.int .i64 (i:Nat)∧fr 3=.cells [.list (P.progs.map Qn),.list (P.enums.map Qr)]∧fr 4=.cells o.cells∧fr 7=.vec g 4 ((l.take i).map fun x=>(F x).av)∧∀s∈[9],(fr s).isRow=false

theorem QRq (hel:∀x:V,x.ok M→x.cnt≤1048576→QT m P o x=0→Qj Tryz.prog 197 [P.av,Qt o,x.av] (Q2 bd o 0 x).av)(v:V)(hv:v.ok M)(hc:v.cnt≤1048576)(hL:∀x∈v.list,QT m P o x=0) :
  Qj Tryz.prog 121 [P.av,Qt o,v.av] (.list ((v.list.map (Q2 bd o o.num)).map R.av)):=by
 have e0:P.av=.agg [.list (P.progs.map Qn),.list (P.enums.map Qr)]:=rfl;have hlen:=JO v;rw[Qw v];refine QLm.fn (by simp) ?_;simp only[e0,Qt,PO.cells,eE,seval];refine XL rfl rfl ?_;simp only[QWI,eE,seval];refine Qd (QRo P o v.list (Q2 bd o o.num)) _ ⟨_,_,0,_,rfl,rfl,QVV _,(by rfl),(by rfl),(by rfl),(by rfl),(by rfl),(by rfl),(by rfl),(by rfl),(by rfl),ZA rfl⟩ ?_;rintro _ st ⟨f0,fr0,i,g,rfl,rfl,hil,h30,h40,h70,h110,h120,h130,m30,m40,mR0,r9⟩;refine QO (a:=_) [9] r9 ?_;intro f fr hf hm hn9;have h3:f 3=.ptr 0 3 0:=by rw[hf,h30]<;>rfl
 have h4:f 4=.ptr 0 4 0:=by rw[hf,h40]<;>rfl
 have h7:f 7=.vec 0 7 g 0 i false:=by rw[hf,h70]<;>rfl
 have h11:f 11=.list (v.list.map V.av):=by rw[hf,h110]<;>rfl
 have h12:f 12=.int .i64 (v.list.length:Nat):=by rw[hf,h120]<;>rfl
 have h13:f 13=.int .i64 (i:Nat):=by rw[hf,h130]<;>rfl
 have m3:fr 3=.cells [.list (P.progs.map Qn),.list (P.enums.map Qr)]:=by rw[hm 3 (by decide),m30]<;>rfl
 have m4':fr 4=.cells o.cells:=by rw[hm 4 (by decide),m40]<;>rfl
 have mR:fr 7=.vec g 4 ((v.list.take i).map fun x=>(Q2 bd o o.num x).av):=by rw[hm 7 (by decide),mR0]<;>rfl
 have n9:=hn9 9 (by decide);clear hf hm hn9 h30 h40 h70 h110 h120 h130 m30 m40 mR0 r9;have m4:=m4';simp only[PO.cells]at m4;simp only[h12,h13,Qa,seval];by_cases hlt:i<v.list.length
 ·obtain⟨x,hi⟩:∃x,v.list[i]? = some x:=⟨v.list[i],QVO hlt⟩;have hx:=QV0 hi;have hg:=Wy hi;have e1:=Qm i _ hlt (by simp only[maxLen];omega);have c1:=hel x (hv.list x hx) (QVM (YI hx) hc) (hL x hx);have c2:=Cw o.num (Q2 bd o 0 x);rw[DA]at c2;have hti:((v.list.take i).map fun x=>(Q2 bd o o.num x).av).length=i:=by rw[QWI,QWK];omega
  have hts:(v.list.take (i+1)).map (fun x=>(Q2 bd o o.num x).av)=(v.list.take i).map (fun x=>(Q2 bd o o.num x).av)++[(Q2 bd o o.num x).av]:=by rw[QXv,hi];simp
  generalize Q2 bd o 0 x=y at c1 c2;generalize Q2 bd o o.num x=z at c2 hts;rw[e0,Qw x]at c1;simp only[Qt,PO.cells,R.av]at c1 c2;simp only[Ql hlt,Qh,QXe,Qc,hg,n9,h3,h4,h7,h11,h13,m3,m4,eE,seval];refine Qb c1 rfl rfl rfl (.inl rfl) ?_;refine Qb c2 rfl rfl rfl (.inl rfl) ?_;refine QP (l:=[z.av]) rfl rfl rfl rfl ?_;refine QI (site:=7) (g:=g) (n:=i) (xs:=(v.list.take i).map fun x=>(Q2 bd o o.num x).av) (ys:=[z.av]) (by rfl) (by exact mR) rfl hti.symm rfl (Z1 [z]) (by simp only[QV2,QWJ,maxLen];omega) (by simp only[QV2,QWJ];omega) ?_;simp only[h13,e1,Qa,seval];exact⟨v.list.length-(i+1),by omega,_,_,i+1,g+1,rfl,rfl,by omega,(by exact h3),(by exact h4),(by rfl),(by exact h11),(by exact h12),(by rfl),(by exact m3),(by exact m4'),(by rw[hts];exact(by rfl)),ZA rfl⟩
 ·have e:i=v.list.length:=by omega
  subst e;rw[QXm,Qxq]at mR;simp only[Qy hlt,h7,mR,eE,seval];simp[AV.un,X8,Xq,QWl]

include ho in
theorem QRr (hbd:∀(t:Int) (v:V),(0≤t∧t<(P.progs.length:Int))→m (QW P t) v=0→(bd t v).length+70000≤70000*v.cnt)(hel:∀x:V,x.ok M→x.cnt≤1048576→QT m P o x=0→Qj Tryz.prog 197 [P.av,Qt o,x.av] (Q2 bd o 0 x).av)(v:V)(hv:v.ok M)(hc:v.cnt≤1048576)(hE:∀p∈v.pairs,p.1.one P o.key (-1)=0∧QT m P o p.2=0) :
  Qj Tryz.prog 118 [P.av,Qt o,v.av] (.list ((v.pairs.map (ZI bd o)).map R.av)):=by
 have e0:P.av=.agg [.list (P.progs.map Qn),.list (P.enums.map Qr)]:=rfl;have hlen:=KL v;rw[Qw v];refine QLj.fn (by simp) ?_;simp only[e0,Qt,PO.cells,eE,seval];refine XL rfl rfl ?_;simp only[QWI,eE,seval];refine Qd (QRp P o v.pairs (ZI bd o)) _ ⟨_,_,0,_,rfl,rfl,QVV _,(by rfl),(by rfl),(by rfl),(by rfl),(by rfl),(by rfl),(by rfl),(by rfl),(by rfl),ZA rfl⟩ ?_;rintro _ st ⟨f0,fr0,i,g,rfl,rfl,hil,h30,h40,h70,h120,h130,h140,m30,m40,mR0,r9⟩;refine QO (a:=_) [9] r9 ?_;intro f fr hf hm hn9;have h3:f 3=.ptr 0 3 0:=by rw[hf,h30]<;>rfl
 have h4:f 4=.ptr 0 4 0:=by rw[hf,h40]<;>rfl
 have h7:f 7=.vec 0 7 g 0 i false:=by rw[hf,h70]<;>rfl
 have h12:f 12=.list (v.pairs.map V.pav):=by rw[hf,h120]<;>rfl
 have h13:f 13=.int .i64 (v.pairs.length:Nat):=by rw[hf,h130]<;>rfl
 have h14:f 14=.int .i64 (i:Nat):=by rw[hf,h140]<;>rfl
 have m3:fr 3=.cells [.list (P.progs.map Qn),.list (P.enums.map Qr)]:=by rw[hm 3 (by decide),m30]<;>rfl
 have m4':fr 4=.cells o.cells:=by rw[hm 4 (by decide),m40]<;>rfl
 have mR:fr 7=.vec g 4 ((v.pairs.take i).map fun x=>(ZI bd o x).av):=by rw[hm 7 (by decide),mR0]<;>rfl
 have n9:=hn9 9 (by decide);clear hf hm hn9 h30 h40 h70 h120 h130 h140 m30 m40 mR0 r9;have m4:=m4';simp only[PO.cells]at m4;simp only[h13,h14,Qa,seval];by_cases hlt:i<v.pairs.length
 ·obtain⟨x,hi⟩:∃x,v.pairs[i]? = some x:=⟨v.pairs[i],QVO hlt⟩;have hx:=QV0 hi;have hg:=Z0 hi;have e1:=Qm i _ hlt (by simp only[maxLen];omega);have hcc:=UV hx;have hck:=N8 hx;have c0:=t25 (hv.keys x hx);have c1:=Cw 1 (ZU 0 x.1);rw[show({ ZU 0 x.1 with num:=1 }:R)=ZU 1 x.1 from rfl]at c1;have c2:=hel x.2 (hv.vals x hx) (QVM hcc hc) (hE x hx).2;have c3:=Cw 2 (Q2 bd o 0 x.2);rw[DA]at c3;have hpn:=YQ (l:=[ZU 1 x.1,Q2 bd o 2 x.2]) (fun f hf=>by
   rcases QW9.1 hf with rfl|hf
   ·exact B1 (hv.keys x hx) 1
   ·rw[QXJ]at hf;subst hf;exact GZ (hv.vals x hx) bd o 2) (by have:=Dx hbd ho (hE x hx).1 (hE x hx).2;omega)
  have c4:=c58 [ZU 1 x.1,Q2 bd o 2 x.2] hpn.1 hpn.2.1 hpn.2.2;have hen:ZI bd o x=⟨o.num,6,0,QZ [ZU 1 x.1,Q2 bd o 2 x.2]⟩:=rfl;have hti:((v.pairs.take i).map fun x=>(ZI bd o x).av).length=i:=by rw[QWI,QWK];omega
  have hts:(v.pairs.take (i+1)).map (fun x=>(ZI bd o x).av)=(v.pairs.take i).map (fun x=>(ZI bd o x).av)++[(ZI bd o x).av]:=by rw[QXv,hi];simp
  rw[hen]at hts;clear hpn hen;generalize ZU 0 x.1=y0 at c0 c1;generalize Q2 bd o 0 x.2=y2 at c2 c3;generalize ZU 1 x.1=z1 at c1 c4 hts;generalize Q2 bd o 2 x.2=z2 at c3 c4 hts;generalize QZ [z1,z2]=d at c4 hts;rw[Qw x.1]at c0;rw[e0,Qw x.2]at c2;simp only[Qt,PO.cells,R.av,K0,QWj,QWO]at c0 c1 c2 c3 c4;simp only[Ql hlt,Qh,QXe,Qc,hg,n9,h12,h14,eE,seval];refine Qb c0 rfl rfl rfl (.inl rfl) ?_;refine Qb c1 rfl rfl rfl (.inl rfl) ?_;simp only[h3,h4,m3,m4,eE,seval];refine Qb c2 rfl rfl rfl (.inl rfl) ?_;refine Qb c3 rfl rfl rfl (.inl rfl) ?_;refine QP (l:=[z1.av,z2.av]) rfl rfl rfl rfl ?_;simp only[h4,h7,m4,eE,seval];refine Qb c4 rfl rfl rfl (.inl rfl) ?_;simp only[eE,seval];refine QP (l:=[(R.mk o.num 6 0 d).av]) rfl rfl rfl rfl ?_;refine QI (site:=7) (g:=g) (n:=i) (xs:=(v.pairs.take i).map fun x=>(ZI bd o x).av) (ys:=[(R.mk o.num 6 0 d).av]) (by rfl) (by exact mR) rfl hti.symm rfl (Z1 [_]) (by simp only[QV2,QWJ,maxLen];omega) (by simp only[QV2,QWJ];omega) ?_;simp only[h14,e1,Qa,seval];exact⟨v.pairs.length-(i+1),by omega,_,_,i+1,g+1,rfl,rfl,by omega,(by exact h3),(by exact h4),(by rfl),(by exact h12),(by exact h13),(by rfl),(by exact m3),(by exact m4'),(by rw[hts];exact(by rfl)),ZA rfl⟩
 ·have e:i=v.pairs.length:=by omega
  subst e;rw[QXm,Qxq]at mR;simp only[Qy hlt,h7,mR,eE,seval];simp[AV.un,X8,Xq,QWl]

end
end Go.Proofs.YtipjfckmopekaaaGreatDoor.Va

namespace Go.Proofs.YtipjfckmopekaaaGreatDoor.Va
open Go Am Rc Bt Vp Cp Up

end Go.Proofs.YtipjfckmopekaaaGreatDoor.Va

namespace Go.Proofs.YtipjfckmopekaaaGreatDoor.Va
open Go Am Rc Bt Vp Cp

theorem L8 (n:Nat):(n:Int).tmod 256=((n % 256:Nat):Int):=by
 rw[QXL (by omega)];omega

theorem L9 (n:Nat)(h:n<18446744073709551616):IntKind.u64.wrap ((n:Int).tdiv 256)=((n / 256:Nat):Int):=by
 rw[Int.tdiv_eq_ediv_of_nonneg (by omega),Jc];omega

theorem Qxs (n:Nat):IntKind.u8.wrap ((n % 256:Nat):Int)=((UInt8.ofNat (n % 256)).toNat:Int):=by
 rw[MU,toNat_ofNat _ (by omega)];omega

def PJ (u0:Nat)(k:Nat)(st:St):Prop :=
 ∃f fr u g i l,st=⟨f,[fr],[]⟩∧k=8-i∧i≤8∧f 0=.int .u64 (u:Nat)∧f 3=.vec 0 3 g 0 l.length false∧f 4=.int .i64 (i:Nat)∧fr 3=.vec g 1 (bl l)∧u<18446744073709551616∧l.length=i∧l++fx (8-i) u=fx 8 u0

theorem c66 (u:Nat)(hu:u<18446744073709551616):Qj Tryz.prog 66 [.int .u64 u] (.str (fx 8 u)):=by
 refine k66.fn (by simp) ?_;simp only[Qa,seval];refine XL rfl rfl ?_;simp only[Qa,seval];refine Qd (PJ u) 8 ⟨_,_,u,1,0,[],rfl,rfl,by omega,rfl,rfl,rfl,rfl,hu,rfl,rfl⟩ ?_;rintro n st ⟨f,fr,v,g,i,l,rfl,rfl,hi,h0,h3,h4,hv,hlt,hll,hl⟩;simp only[h4,Qa,seval];refine Q1 (fun h=>?_) (fun h=>?_)
 ·have h:i<8:=by(have h:(i:Int)<8:=(by simpa using h));omega
  have e1:IntKind.i64.wrap ((i:Int)+1)=((i+1:Nat):Int):=by rw[QG];omega
  simp only[h0,h3,L8,Qxs,seval,Qa];refine JS rfl ?_;refine QI rfl hv rfl (KO l).symm rfl rfl (by simp[maxLen];omega) (by simp;omega) ?_;simp only[h0,h4,L9 v hlt,seval,e1,Qa];refine⟨8-(i+1),by omega,_,_,v / 256,g+1,i+1,l++[UInt8.ofNat (v % 256)],rfl,rfl,by omega,?_,?_,?_,?_,by omega,by simp[hll],?_⟩
  ·simp only[h0,Qa,seval]
  ·simp only[QWp,QV2,QWJ,Qa,seval]
  ·simp only[Qa,seval]
  ·simp only[QR,KN]<;>rfl
  ·obtain⟨j,hj⟩:∃j,8-i=j+1:=⟨7-i,by omega⟩;rw[←hl,hj,show 8-(i+1)=j by omega,fx];simp
 ·have h:i=8:=by(have h:¬(i:Int)<8:=(by simpa using h));omega
  subst h;have he:=JT (m:=[]) (fr:=fr) (site:=3) (g:=g) (sz:=1) (n:=l.length) (q:=false) hv (by simp[bl]);have hb:bytesOf (bl l)=some l:=Jt l;simp only[h3,he,hb,Qa,seval];rw[←hl];simp[fx]

open Up

def T8 (l:List R)(k:Nat)(st:St):Prop :=
 ∃f fr i,st=⟨f,[fr],[]⟩∧k=l.length-i∧i≤l.length∧f 0=.list (K0 l)∧f 3=.str (QZ (l.take i))∧f 4=.int .i64 (i:Nat)∧(fr 5).isRow=false

theorem c33 (l:List R)(hb:∀fd∈l,fd.bits<18446744073709551616∧fd.data.length<9223372036854775807)(hn:l.length<9223372036854775807)(hl:(QZ l).length≤140737488355328):Qj Tryz.prog 33 [.list (K0 l)] (.str (QZ l)):=by
 refine k33.fn (by simp) ?_;simp only[Qa,seval];refine Qd (T8 l) _ ⟨_,_,0,rfl,rfl,QVV _,rfl,rfl,rfl,rfl⟩ ?_;rintro n st ⟨f,fr,i,rfl,rfl,hi,h0,h3,h4,m5⟩;simp only[h0,h4,m5,N9,Qa,seval];by_cases hlt:i<l.length
 ·obtain⟨fd,hfd⟩:∃fd,l[i]? = some fd:=⟨l[i],QVO hlt⟩;have hmem:=QV0 hfd;obtain⟨hb1,hb2⟩:=hb fd hmem;have hfa:(K0 l)[i]? = some fd.av:=by simp[K0,hfd]
  have hps:=Uw l i fd hfd;have hple:=Vc l i fd hfd;have d0:decide ((i:Int)<(l.length:Int))=true:=by simp;omega
  have n0:(0≤(i:Int))=True:=by simp
  have e1:IntKind.i64.wrap ((i:Int)+1)=((i+1:Nat):Int):=by rw[QG];omega
  have fin:∀(f':Fr) (fr':Nat→Ob) (bs':List UInt8),f' 0=.list (K0 l)→f' 3=.str bs'→f' 4=.int .i64 (((i+1:Nat):Nat):Int)→(fr' 5).isRow=false→bs'=QZ (l.take i)++Yi fd→∃k,k<l.length-i∧T8 l k ⟨f',[fr'],[]⟩:=by
   intro f' fr' bs' g1 g2 g3 g4 g5;exact⟨l.length-(i+1),by omega,f',fr',i+1,rfl,rfl,by omega,g1,by rw[hps,←g5];exact g2,g3,g4⟩
  simp only[d0,n0,QXe,Qc,hfa,R.av,h0,h4,eE,seval];refine Qb (c64 fd) rfl rfl rfl (.inl rfl) ?_;cases hv:valid fd with
  |false=>
   simp only[e1,h4,Qa,seval];refine fin _ _ (QZ (l.take i)) ?_ ?_ ?_ ?_ ?_
   ·simp only[h0,Qa,seval]
   ·simp only[h3,Qa,seval]
   ·simp only[Qa,seval]
   ·simp only[Qa,seval]
   ·simp[Yi,hv]
  |true=>
   simp only[eE,seval];refine Qb (c65 fd.num fd.wire) rfl rfl rfl (.inl rfl) ?_;have hp:Yi fd=(XY fd.num fd.wire).1++body fd:=by simp[Yi,hv]
   have hpl:=congrArg List.length hp;rw[QWp]at hpl;have hbody:body fd=if fd.wire=2 then fx 8 fd.bits else if ZG fd.wire then Vp.put fd.bits else Vp.put fd.data.length++fd.data:=rfl
   have a1:((QZ (l.take i)).length+(XY fd.num fd.wire).1.length≤9223372036854775807)=True:=eq_true (by omega);simp only[Uk,QL,a1,h3,eE,seval];by_cases w2:fd.wire=2
   ·have dw:(fd.wire==2)=true:=by simpa using w2
    have hbo:body fd=fx 8 fd.bits:=by rw[hbody,QWg w2]
    have a2:((QZ (l.take i)++(XY fd.num fd.wire).1).length+(fx 8 fd.bits).length≤9223372036854775807)=True:=eq_true (by rw[QWp,←hbo];omega);simp only[dw,h3,eE,seval];refine Qb (c66 fd.bits hb1) rfl rfl rfl (.inl rfl) ?_;simp only[QL,a2,e1,h4,Qa,seval];refine fin _ _ (QZ (l.take i)++(XY fd.num fd.wire).1++fx 8 fd.bits) ?_ ?_ ?_ ?_ ?_
    ·simp only[h0,Qa,seval]
    ·simp only[Qa,seval]
    ·simp only[Qa,seval]
    ·simp only[Qa,seval]
    ·rw[hp,hbo,QV8]
   ·have dw:(fd.wire==2)=false:=by simpa using w2
    simp only[dw,eE,seval];refine Qb (c67 fd.wire) rfl rfl rfl (.inl rfl) ?_;cases hnum:ZG fd.wire with
    |true=>
     have hbo:body fd=Vp.put fd.bits:=by rw[hbody,QV1 w2,QWg hnum]
     have a2:((QZ (l.take i)++(XY fd.num fd.wire).1).length+(Vp.put fd.bits).length≤9223372036854775807)=True:=eq_true (by rw[QWp,←hbo];omega);simp only[h3,eE,seval];refine Qb (Pz fd.bits hb1) rfl rfl rfl (.inl rfl) ?_;simp only[QL,a2,e1,h4,Qa,seval];refine fin _ _ (QZ (l.take i)++(XY fd.num fd.wire).1++Vp.put fd.bits) ?_ ?_ ?_ ?_ ?_
     ·simp only[h0,Qa,seval]
     ·simp only[Qa,seval]
     ·simp only[Qa,seval]
     ·simp only[Qa,seval]
     ·rw[hp,hbo,QV8]
    |false=>
     have hbo:body fd=Vp.put fd.data.length++fd.data:=by rw[hbody,QV1 w2,QV1 (by rw[hnum];simp)]
     have hbl:(body fd).length=(Vp.put fd.data.length).length+fd.data.length:=by rw[hbo,QWp]
     have a2:((Vp.put fd.data.length).length+fd.data.length≤9223372036854775807)=True:=eq_true (by omega);have a3:((QZ (l.take i)++(XY fd.num fd.wire).1).length+(Vp.put fd.data.length++fd.data).length≤9223372036854775807)=True:=eq_true (by rw[QWp,←hbo];omega);have e2:IntKind.u64.wrap (fd.data.length:Int)=((fd.data.length:Nat):Int):=by rw[Jc];omega
     simp only[e2,h3,eE,seval];refine Qb (Pz fd.data.length (by omega)) rfl rfl rfl (.inl rfl) ?_;simp only[QL,a2,a3,e1,h4,eE,seval];refine fin _ _ (QZ (l.take i)++(XY fd.num fd.wire).1++(Vp.put fd.data.length++fd.data)) ?_ ?_ ?_ ?_ ?_
     ·simp only[h0,Qa,seval]
     ·simp only[Qa,seval]
     ·simp only[Qa,seval]
     ·simp only[Qa,seval]
     ·rw[hp,hbo,QV8]
 ·have d0:decide ((i:Int)<(l.length:Int))=false:=by simp;omega
  have hil:l.take i=l:=QWl (by omega);simp only[d0,hil,h3,Qa,seval]

open Br So

theorem u39 (v:V):Qj Tryz.prog 39 [v.av] (Q8 v.kd v.bits v.text).av:=by
 rw[Qw];exact y39 v.kd v.bits v.text _ _ _ _

section
variable {M:Nat}{P:PL}{m:PG→V→Int}{bd:Int→V→List UInt8}(o:PO)(ho:UO P o)

include ho in
theorem u40 (hb:∀(t:Int) (g:PG),P.progs[t.toNat]? = some g→0≤t→∀v:V,v.ok M→v.cnt≤1048576→m g v=0→Qj Tryz.prog 16 [P.av,.int .i64 t,v.av] (.str (bd t v)))(n:Int)(x:V)(hx:x.ok M)(hc:x.cnt≤1048576)(he:QT m P o x=0) :
  Qj Tryz.prog 40 [P.av,Qt o,.int .i64 n,x.av] (Q2 bd o n x).av:=by
 have e0:P.av=.agg [.list (P.progs.map Qn),.list (P.enums.map Qr)]:=rfl;have h1:=u39 x;unfold Q2 ZU;generalize Q8 x.kd x.bits x.text=z at h1 ⊢;by_cases hk:o.kind=10
 ·have b:(o.kind==10)=true:=by simp[hk]
  rw[QWg hk];unfold QT at he;rw[QWg hk]at he;obtain⟨t0,t1⟩:=ho.tgt hk;obtain⟨g,hg⟩:∃g,P.progs[o.target.toNat]? = some g:=⟨P.progs[o.target.toNat]'(by omega),QVO (by omega)⟩;have hq:QW P o.target=g:=by unfold QW;rw[hg];rfl
  rw[hq]at he;have h2:=hb o.target g hg t0 x hx hc he;rw[e0,Qw]at h2;rw[Qw]at h1;rw[Qw];simp only[R.av]at h1;refine k40.fn (by simp) ?_;simp only[e0,Qt,PO.cells,R.av,eE,seval];refine Qb h1 rfl rfl rfl (.inl rfl) ?_;simp only[b,eE,seval];refine Qb h2 rfl rfl rfl (.inl rfl) ?_;simp only[eE,seval]
 ·have b:(o.kind==10)=false:=by simp[hk]
  rw[QV1 hk];rw[Qw]at h1;rw[Qw];simp only[R.av]at h1;refine k40.fn (by simp) ?_;simp only[e0,Qt,PO.cells,R.av,eE,seval];refine Qb h1 rfl rfl rfl (.inl rfl) ?_;simp only[b,eE,seval]

def QRs (l:List V)(F:Nat→List UInt8)(k:Nat)(st:St):Prop :=
 ∃f fr i,st=⟨f,[fr],[]⟩∧k=l.length-i∧i≤l.length∧f 0=.list (l.map V.av)∧f 3=.str (F i)∧f 4=.int .i64 (i:Nat)∧∀s∈[5],(fr s).isRow=false

theorem u42 (w:Int)(hw:w=0∨w=1∨w=2)(l:List V)(hne:l≠[])(hlen:l.length≤1048576)(hk:∀y∈l,(Q8 y.kd y.bits y.text).wire=w)(hok:∀y∈l,y.ok M) :
  Qj Tryz.prog 42 [.list (l.map V.av)] (.str (UInt8.ofNat w.toNat :: l.flatMap (K2 w))):=by
 have hcv:IntKind.u8.wrap w=((UInt8.ofNat w.toNat).toNat:Int):=by
  rcases hw with rfl|rfl|rfl<;>rfl
 generalize hb0:UInt8.ofNat w.toNat=b0 at hcv ⊢
 let F:Nat→List UInt8:=fun i=>if i=0 then []else b0 :: (l.take i).flatMap (K2 w)
 have hF0:F 0=[]:=rfl;have hFn:F l.length=b0 :: l.flatMap (K2 w):=by
  have:l.length≠0:=fun h=>hne (QXN.1 h)
  simp[F,this]
 have hFl:∀i,i≤l.length→(F i).length≤1+10*i:=by
  intro i hi;have:=UW w (l.take i);rw[QWK]at this;simp only[F];split
  ·simp
  ·simp only[QV2];omega
 have hFs:∀i x,l[i]? = some x→F (i+1)=(if i=0 then [b0]else F i)++K2 w x:=by
  intro i x hx;simp only[F,Nat.add_eq_zero_iff,Nat.one_ne_zero,and_false,if_false];rw[QXv,hx,QXS];split
  ·rename_i h0;subst h0;simp
  ·simp
 rw[←hFn]
 clear_value F
 clear hFn;refine k42.fn (by simp) ?_;simp only[Qa,seval];refine Qd (QRs l F) _ ⟨_,_,0,rfl,rfl,QVV _,(by rfl),(by rw[hF0];exact(by rfl)),(by rfl),ZA rfl⟩ ?_;rintro _ st ⟨f0,fr0,i,rfl,rfl,hil,h00,h30,h40,r5⟩;refine QO (a:=_) [5] r5 ?_;intro f fr hf hm hn5;have h0:f 0=.list (l.map V.av):=by rw[hf,h00]<;>rfl
 have h3:f 3=.str (F i):=by rw[hf,h30]<;>rfl
 have h4:f 4=.int .i64 (i:Nat):=by rw[hf,h40]<;>rfl
 have n5:=hn5 5 (by decide);clear hf hm hn5 h00 h30 h40 r5;simp only[QWI,h0,h4,Qa,seval];by_cases hlt:i<l.length
 ·obtain⟨x,hi⟩:∃x,l[i]? = some x:=⟨l[i],QVO hlt⟩;have hx:=QV0 hi;have hg:=Wy hi;have e1:=Qm i _ hlt (by simp only[maxLen];omega);have c1:=u39 x;have hbb:(Q8 x.kd x.bits x.text).bits<18446744073709551616:=Ux (T7 (hok x hx)) _;have hwx:=hk x hx;have hFi:=hFl i (by omega);have hFx:=hFs i x hi;have hpx:=Dy w x;rw[show K2 w x=K1 w (Q8 x.kd x.bits x.text).bits from rfl]at hFx hpx;generalize Q8 x.kd x.bits x.text=z at c1 hbb hFx hpx hwx;rw[Qw x]at c1;simp only[R.av,hwx]at c1;simp only[Ql hlt,Qh,QXe,Qc,hg,h0,h4,eE,seval];refine Qb c1 rfl rfl rfl (.inl rfl) ?_;by_cases hi0:i=0
  ·subst hi0;have d0:(((0:Nat):Int)==0)=true:=rfl;rw[QWg rfl]at hFx;have hb1:bytesOf [.int .u8 ((b0.toNat:Nat):Int)]=some [b0]:=Jt [b0];simp only[n5,h4,hcv,eE,seval];refine JS rfl ?_;by_cases w2:w=2
   ·have b2:(w==2)=true:=by simp[w2]
    have epb:K1 w z.bits=fx 8 z.bits:=by unfold K1;rw[QWg w2]
    rw[epb]at hFx hpx;have hadd:(([b0]).length+(fx 8 z.bits).length≤9223372036854775807)=True:=eq_true (by simp only[QV2,QWJ];omega);simp only[Q4,hb1,b2,h3,eE,seval];refine Qb (c66 z.bits hbb) rfl rfl rfl (.inl rfl) ?_;simp only[QV2,QWJ]at hadd;simp only[QL,hadd,h4,Qa,seval];exact⟨l.length-(0+1),by omega,_,_,0+1,rfl,rfl,by omega,(by exact h0),(by rw[hFx];exact(by rfl)),(by rfl),ZA rfl⟩
   ·have b2:(w==2)=false:=by simp[w2]
    have epb:K1 w z.bits=Vp.put z.bits:=by unfold K1;rw[QV1 w2]
    rw[epb]at hFx hpx;have hadd:(([b0]).length+(Vp.put z.bits).length≤9223372036854775807)=True:=eq_true (by simp only[QV2,QWJ];omega);simp only[Q4,hb1,b2,h3,eE,seval];refine Qb (Pz z.bits hbb) rfl rfl rfl (.inl rfl) ?_;simp only[QV2,QWJ]at hadd;simp only[QL,hadd,h4,Qa,seval];exact⟨l.length-(0+1),by omega,_,_,0+1,rfl,rfl,by omega,(by exact h0),(by rw[hFx];exact(by rfl)),(by rfl),ZA rfl⟩
  ·have d0:(((i:Nat):Int)==0)=false:=by simp[hi0]
   rw[QV1 hi0]at hFx;by_cases w2:w=2
   ·have b2:(w==2)=true:=by simp[w2]
    have epb:K1 w z.bits=fx 8 z.bits:=by unfold K1;rw[QWg w2]
    rw[epb]at hFx hpx;have hadd:((F i).length+(fx 8 z.bits).length≤9223372036854775807)=True:=eq_true (by omega);simp only[d0,b2,n5,h3,h4,eE,seval];refine Qb (c66 z.bits hbb) rfl rfl rfl (.inl rfl) ?_;simp only[QL,hadd,h4,e1,Qa,seval];exact⟨l.length-(i+1),by omega,_,_,i+1,rfl,rfl,by omega,(by exact h0),(by rw[hFx];exact(by rfl)),(by rfl),ZA rfl⟩
   ·have b2:(w==2)=false:=by simp[w2]
    have epb:K1 w z.bits=Vp.put z.bits:=by unfold K1;rw[QV1 w2]
    rw[epb]at hFx hpx;have hadd:((F i).length+(Vp.put z.bits).length≤9223372036854775807)=True:=eq_true (by omega);simp only[d0,b2,n5,h3,h4,eE,seval];refine Qb (Pz z.bits hbb) rfl rfl rfl (.inl rfl) ?_;simp only[QL,hadd,h4,e1,Qa,seval];exact⟨l.length-(i+1),by omega,_,_,i+1,rfl,rfl,by omega,(by exact h0),(by rw[hFx];exact(by rfl)),(by rfl),ZA rfl⟩
 ·have e:i=l.length:=by omega
  subst e;simp only[Qy hlt,h3,Qa,seval]

end

def Cx (n:Int)(x:V):List AV:=[.int .i64 n,.int .i64 x.kd,.int .u64 (x.bits:Nat),.str x.text,.list (x.list.map V.av),.list (x.pairs.map V.pav),.list (x.slots.map V.sav),.list (x.raws.map R.av)]

structure RaF (P:PL)(o:PO)(x:V)(f:Fr)(fr:Nat→Ob)(g:Nat)(out:List R):Prop where
 f3:f 3=.ptr 0 3 0
 f5:f 5=.ptr 0 5 0
 f7:f 7=.ptr 0 7 0
 f9:f 9=.vec 0 9 g 0 out.length false
 m3:fr 3=.cells [.list (P.progs.map Qn),.list (P.enums.map Qr)]
 m5:fr 5=.cells (Cx o.num x)
 m7:fr 7=.cells o.cells
 mR:fr 9=.vec g 4 (out.map R.av)

section
variable {M:Nat}{P:PL}{m:PG→V→Int}{bd:Int→V→List UInt8}(o:PO)(ho:UO P o)

theorem Qaa (hel:∀(n:Int) (x:V),x.ok M→x.cnt≤1048576→QT m P o x=0→Qj Tryz.prog 40 [P.av,Qt o,.int .i64 n,x.av] (Q2 bd o n x).av)(x:V)(hx:x.ok M)(hc:x.cnt≤1048576)(hL:∀y∈x.list,QT m P o y=0)(f:Fr)(fr:Nat→Ob)(g:Nat)(h:RaF P o x f fr g [])(h13:f 13=.int .i64 0)(Q:Exit→St→Prop)
  (q:∀f fr g,RaF P o x f fr g (x.list.map (Q2 bd o o.num))→Q (.exit 3) (⟨f,[fr],[]⟩:St)) :
  QH Tryz.prog (.loop TS) ⟨f,[fr],[]⟩ Q:=by
 have e0:P.av=.agg [.list (P.progs.map Qn),.list (P.enums.map Qr)]:=rfl;have hlen:=JO x
 let I:Nat→St→Prop:=fun k st=>∃f fr i g,st=⟨f,[fr],[]⟩∧k=x.list.length-i∧i≤x.list.length∧RaF P o x f fr g ((x.list.take i).map (Q2 bd o o.num))∧f 13=.int .i64 (i:Nat)
 refine Qd I _ ⟨f,fr,0,g,rfl,rfl,QVV _,h,h13⟩ ?_;clear h h13;rintro _ st ⟨f,fr,i,g,rfl,rfl,hil,⟨h3,h5,h7,h9,m3,m5',m7',mR⟩,h13⟩;have m5:=m5';have m7:=m7';simp only[Cx]at m5;simp only[PO.cells]at m7;have hti:((x.list.take i).map (Q2 bd o o.num)).length=i:=by rw[QWI,QWK];omega
 rw[hti]at h9;simp only[QWI,h5,h13,m5,eE,seval];by_cases hlt:i<x.list.length
 ·obtain⟨y,hi⟩:∃y,x.list[i]? = some y:=⟨x.list[i],QVO hlt⟩;have hy:=QV0 hi;have hg:=Wy hi;have e1:=Qm i _ hlt (by simp only[maxLen];omega);have c1:=hel o.num y (hx.list y hy) (QVM (YI hy) hc) (hL y hy);have hts:(x.list.take (i+1)).map (Q2 bd o o.num)=(x.list.take i).map (Q2 bd o o.num)++[Q2 bd o o.num y]:=by rw[QXv,hi];simp
  generalize Q2 bd o o.num y=z at c1 hts;rw[e0,Qw y]at c1;simp only[Qt,PO.cells,R.av]at c1;simp only[Ql hlt,Qh,QXe,Qc,hg,h3,h5,h7,h9,h13,m3,m5,m7,eE,seval];refine Qb c1 rfl rfl rfl (.inl rfl) ?_;refine QP (l:=[z.av]) rfl rfl rfl rfl ?_;refine QI (site:=9) (g:=g) (n:=i) (xs:=((x.list.take i).map (Q2 bd o o.num)).map R.av) (ys:=[z.av]) (by rfl) (by exact mR) rfl (by rw[QWI,hti]) rfl (Z1 [z]) (by simp only[QV2,QWJ,maxLen];omega) (by simp only[QV2,QWJ];omega) ?_;simp only[h13,e1,Qa,seval];refine⟨x.list.length-(i+1),by omega,_,_,i+1,g+1,rfl,rfl,by omega,⟨(by exact h3),(by exact h5),(by exact h7),?_,(by exact m3),(by exact m5'),(by exact m7'),by rw[hts,QXu];exact(by rfl)⟩,(by rfl)⟩;rw[hts,QWp,hti];exact(by rfl)
 ·have e:i=x.list.length:=by omega
  subst e;rw[←hti]at h9;rw[QXm]at h9 mR;simp only[Qy hlt,Qa,seval];exact q _ _ g ⟨(by exact h3),(by exact h5),(by exact h7),(by exact h9),(by exact m3),(by exact m5'),(by exact m7'),(by exact mR)⟩

include ho in
theorem RT (hbd:∀(t:Int) (v:V),(0≤t∧t<(P.progs.length:Int))→m (QW P t) v=0→(bd t v).length+70000≤70000*v.cnt)(hel:∀(n:Int) (x:V),x.ok M→x.cnt≤1048576→QT m P o x=0→Qj Tryz.prog 40 [P.av,Qt o,.int .i64 n,x.av] (Q2 bd o n x).av)(x:V)(hx:x.ok M)(hc:x.cnt≤1048576)(hE:∀p∈x.pairs,p.1.one P o.key (-1)=0∧QT m P o p.2=0)(f:Fr)(fr:Nat→Ob)(g:Nat)(h:RaF P o x f fr g [])(h10:f 10=.int .i64 0)(Z8:∀s∈[11],(fr s).isRow=false)(Q:Exit→St→Prop)
  (q:∀f fr g,RaF P o x f fr g (x.pairs.map (ZI bd o))→Q (.exit 1) (⟨f,[fr],[]⟩:St)) :
  QH Tryz.prog (.loop TR) ⟨f,[fr],[]⟩ Q:=by
 have e0:P.av=.agg [.list (P.progs.map Qn),.list (P.enums.map Qr)]:=rfl;have hlen:=KL x
 let I:Nat→St→Prop:=fun k st=>∃f fr i g,st=⟨f,[fr],[]⟩∧k=x.pairs.length-i∧i≤x.pairs.length∧RaF P o x f fr g ((x.pairs.take i).map (ZI bd o))∧f 10=.int .i64 (i:Nat)∧∀s∈[11],(fr s).isRow=false
 refine Qd I _ ⟨f,fr,0,g,rfl,rfl,QVV _,h,h10,Z8⟩ ?_;clear h h10 Z8;rintro _ st ⟨f0,fr0,i,g,rfl,rfl,hil,⟨h30,h50,h70,h90,m30,m50,m70,mR0⟩,h100,Z8⟩;refine QO (a:=_) [11] Z8 ?_;intro f fr hf hm hn11;have hti:((x.pairs.take i).map (ZI bd o)).length=i:=by rw[QWI,QWK];omega
 rw[hti]at h90;have h3:f 3=.ptr 0 3 0:=by rw[hf,h30]<;>rfl
 have h5:f 5=.ptr 0 5 0:=by rw[hf,h50]<;>rfl
 have h7:f 7=.ptr 0 7 0:=by rw[hf,h70]<;>rfl
 have h9:f 9=.vec 0 9 g 0 i false:=by rw[hf,h90]<;>rfl
 have h10:f 10=.int .i64 (i:Nat):=by rw[hf,h100]<;>rfl
 have m3:fr 3=.cells [.list (P.progs.map Qn),.list (P.enums.map Qr)]:=by rw[hm 3 (by decide),m30]<;>rfl
 have m5':fr 5=.cells (Cx o.num x):=by rw[hm 5 (by decide),m50]<;>rfl
 have m7':fr 7=.cells o.cells:=by rw[hm 7 (by decide),m70]<;>rfl
 have mR:fr 9=.vec g 4 (((x.pairs.take i).map (ZI bd o)).map R.av):=by rw[hm 9 (by decide),mR0]<;>rfl
 have n11:=hn11 11 (by decide);clear hf hm hn11 h30 h50 h70 h90 h100 m30 m50 m70 mR0 Z8;have m5:=m5';have m7:=m7';simp only[Cx]at m5;simp only[PO.cells]at m7;simp only[QWI,h5,h10,m5,eE,seval];by_cases hlt:i<x.pairs.length
 ·obtain⟨p,hi⟩:∃p,x.pairs[i]? = some p:=⟨x.pairs[i],QVO hlt⟩;have hp:=QV0 hi;have hg:=Z0 hi;have e1:=Qm i _ hlt (by simp only[maxLen];omega);have hcc:=UV hp;have hck:=N8 hp;have c0:=u39 p.1;have c2:=hel 2 p.2 (hx.vals p hp) (QVM hcc hc) (hE p hp).2;have hpn:=YQ (l:=[ZU 1 p.1,Q2 bd o 2 p.2]) (fun f hf=>by
   rcases QW9.1 hf with rfl|hf
   ·exact B1 (hx.keys p hp) 1
   ·rw[QXJ]at hf;subst hf;exact GZ (hx.vals p hp) bd o 2) (by have:=Dx hbd ho (hE p hp).1 (hE p hp).2;omega)
  have c4:=c33 [ZU 1 p.1,Q2 bd o 2 p.2] hpn.1 hpn.2.1 hpn.2.2;have hts:(x.pairs.take (i+1)).map (ZI bd o)=(x.pairs.take i).map (ZI bd o)++[⟨o.num,6,0,QZ [ZU 1 p.1,Q2 bd o 2 p.2]⟩]:=by rw[QXv,hi,QXw,QXu];rfl
  clear hpn;rw[show ZU 1 p.1={ Q8 p.1.kd p.1.bits p.1.text with num:=1 } from rfl]at c4 hts;generalize Q8 p.1.kd p.1.bits p.1.text=y0 at c0 c4 hts;generalize Q2 bd o 2 p.2=z2 at c2 c4 hts;generalize hd:QZ [{ y0 with num:=1 },z2]=d at c4 hts;rw[Qw p.1]at c0;rw[e0,Qw p.2]at c2;simp only[Qt,PO.cells,R.av,K0,QWj,QWO]at c0 c2 c4;simp only[Ql hlt,Qh,QXe,Qc,hg,h5,h10,m5,eE,seval];refine Qb c0 rfl rfl rfl (.inl rfl) ?_;simp only[Qh,QXe,Qc,hg,n11,h3,h5,h7,h10,m3,m5,m7,eE,seval];refine Qb c2 rfl rfl rfl (.inl rfl) ?_;refine QP (l:=[({ y0 with num:=1 }:R).av,z2.av]) rfl rfl rfl rfl ?_;simp only[h5,h9,m5,eE,seval];refine Qb c4 rfl rfl rfl (.inl rfl) ?_;simp only[eE,seval];refine QP (l:=[(R.mk o.num 6 0 d).av]) rfl rfl rfl rfl ?_;refine QI (site:=9) (g:=g) (n:=i) (xs:=((x.pairs.take i).map (ZI bd o)).map R.av) (ys:=[(R.mk o.num 6 0 d).av]) (by rfl) (by exact mR) rfl (by rw[QWI,hti]) rfl (Z1 [_]) (by simp only[QV2,QWJ,maxLen];omega) (by simp only[QV2,QWJ];omega) ?_;simp only[h10,e1,Qa,seval];refine⟨x.pairs.length-(i+1),by omega,_,_,i+1,g+1,rfl,rfl,by omega,⟨(by exact h3),(by exact h5),(by exact h7),?_,(by exact m3),(by exact m5'),(by exact m7'),by rw[hts,QXu];exact(by rfl)⟩,(by rfl),ZA rfl⟩;rw[hts,QWp,hti];exact(by rfl)
 ·have e:i=x.pairs.length:=by omega
  subst e;rw[←hti]at h9;rw[QXm]at h9 mR;simp only[Qy hlt,Qa,seval];exact q _ _ g ⟨(by exact h3),(by exact h5),(by exact h7),(by exact h9),(by exact m3),(by exact m5'),(by exact m7'),(by exact mR)⟩

end

section
variable {M:Nat}{P:PL}{m:PG→V→Int}{bd:Int→V→List UInt8}

theorem u20 (hU:Yd P)(hP:P.ok M)(hbd:∀(t:Int) (v:V),(0≤t∧t<(P.progs.length:Int))→m (QW P t) v=0→(bd t v).length+70000≤70000*v.cnt)(hb:∀(t:Int) (g:PG),P.progs[t.toNat]? = some g→0≤t→∀v:V,v.ok M→v.cnt≤1048576→m g v=0→Qj Tryz.prog 16 [P.av,.int .i64 t,v.av] (.str (bd t v)))(t:Int)(g:PG)(hgt:P.progs[t.toNat]? = some g)(t0:0≤t)(s:Int×V)(hv:s.2.ok M)(hc:s.2.cnt≤1048576)(hw:Wd P m g s) :
  Qj Tryz.prog 20 [P.av,.int .i64 t,V.sav s] (.list ((JZ bd g s).map R.av)):=by
 have e0:P.av=.agg [.list (P.progs.map Qn),.list (P.enums.map Qr)]:=rfl;have hgm:=QV0 hgt;obtain⟨o,ho,hf,hemp⟩:=hw;obtain⟨hom,hon⟩:=Zo ho;have hu:=hU g hgm o hom;have c1:=SZ g (hP.progs g hgm).len s.1;rw[Wg,ho]at c1;have c2:=y41 o.num o.name o.alias o.card o.key o.kind o.target o.union;have hel:=fun(n:Int) (x:V) (hx:x.ok M) (hxc:x.cnt≤1048576) (he:QT m P o x=0)=>u40 o hu hb n x hx hxc he
 have hsl:JZ bd g s=Yj bd o s.2:=by unfold JZ;rw[ho]
 rw[hsl];clear hsl;obtain⟨ti,hti⟩:=QXq t0;subst hti;rw[QXe]at hgt;have hga:(P.progs.map Qn)[ti]? = some (.agg g.cells):=by simp[hgt,Qn]
 have htl:ti<P.progs.length:=(QVN.1 hgt).1;have d0:decide ((ti:Int)<0)=false:=QXy (by omega);have d1:decide ((ti:Int)≥(P.progs.length:Int))=false:=QXy (by omega);rw[←hon]at c1;rw[Zm,←hon];obtain⟨sn,x⟩:=s;dsimp only at hv hc hf hemp ⊢;clear hon ho;simp only[PG.cells]at hga;simp only[Qn,Qt,PG.cells,PO.cells,QWX,QXz]at c1;simp only[oc]at c2;refine k20.fn (by simp) ?_;simp only[e0,d0,d1,Qh,QXe,Qc,hga,QWI,eE,seval];refine Qb c1 rfl rfl rfl (.inl rfl) ?_;simp only[eE,seval];refine XL rfl rfl ?_;simp only[eE,seval];unfold Yj;unfold Xd at hf;by_cases h5:o.card=5
 ·have b5:(o.card==5)=true:=by simp[h5]
  rw[QWg h5]at hf;rw[QWg h5];split at hf
  ·omega
  simp only[b5,Qa,seval];refine RT o hu hbd hel x hv hc (Wh.1 hf).1 _ _ 1 ⟨(by rfl),(by rfl),(by rfl),(by rfl),(by rfl),(by rfl),(by rfl),(by rfl)⟩ (by rfl) (ZA rfl) _ ?_;rintro f fr g ⟨h3,h5',h7,h9,m3,m5,m7,mR⟩;simp only[h9,mR,eE,seval];simp[AV.un,X8,Xq,QWl]
 have b5:(o.card==5)=false:=by simp[h5]
 rw[QV1 h5]at hf;rw[QV1 h5];simp only[b5,eE,seval];refine Qb c2 rfl rfl rfl (.inl rfl) ?_;by_cases hp:pk o.card o.kind=true
 ·rw[QWg hp];obtain⟨h4,_⟩:=YP hp;obtain⟨hkd,hks⟩:=L4 (m:=m) (P:=P) hp (by unfold Xd;rw[QV1 h5];exact hf);have hxl:=JO x;have hne:=RP hkd (hemp.resolve_left (by omega));have cp:=u42 (M:=M) (wk o.kind) (T6 hp) x.list hne (by omega) (fun y hy=>by rw[hks y hy];exact PB hp _ _) hv.list;have hpk:Dv o x.list=⟨o.num,5,0,UInt8.ofNat (wk o.kind).toNat :: x.list.flatMap (K2 (wk o.kind))⟩:=rfl;rw[hpk];generalize UInt8.ofNat (wk o.kind).toNat :: x.list.flatMap (K2 (wk o.kind))=d at cp ⊢;simp only[hp,eE,seval];refine Qb cp rfl rfl rfl (.inl rfl) ?_;simp only[eE,seval];refine QP (l:=[(R.mk o.num 5 0 d).av]) rfl rfl rfl rfl ?_;refine QI (site:=9) (g:=1) (n:=0) (xs:=[]) (ys:=[(R.mk o.num 5 0 d).av]) (by rfl) (by rfl) rfl rfl rfl (Z1 [_]) (by simp only[QV2,QWJ,maxLen];omega) (by simp only[QV2,QWJ];omega) ?_;simp only[eE,seval];simp[]
 have hpf:pk o.card o.kind=false:=by simpa using hp
 rw[QV1 hp];simp only[hpf,eE,seval];by_cases h4:o.card=4
 ·have b4:(o.card==4)=true:=by simp[h4]
  rw[QWg h4]at hf;rw[QWg h4];split at hf
  ·omega
  simp only[b4,Qa,seval];refine Qaa o hel x hv hc (KA.1 hf) _ _ 1 ⟨(by rfl),(by rfl),(by rfl),(by rfl),(by rfl),(by rfl),(by rfl),(by rfl)⟩ (by rfl) _ ?_;rintro f fr g ⟨h3,h5',h7,h9,m3,m5,m7,mR⟩;simp only[h9,mR,eE,seval];simp[AV.un,X8,Xq,QWl]
 ·have b4:(o.card==4)=false:=by simp[h4]
  rw[QV1 h4]at hf;rw[QV1 h4];have c3:=hel o.num x hv hc hf;generalize Q2 bd o o.num x=z at c3 ⊢;rw[e0,Qw x]at c3;simp only[Qt,PO.cells,R.av]at c3;simp only[b4,eE,seval];refine Qb c3 rfl rfl rfl (.inl rfl) ?_;refine QP (l:=[z.av]) rfl rfl rfl rfl ?_;refine QI (site:=9) (g:=1) (n:=0) (xs:=[]) (ys:=[z.av]) (by rfl) (by rfl) rfl rfl rfl (Z1 [_]) (by simp only[QV2,QWJ,maxLen];omega) (by simp only[QV2,QWJ];omega) ?_;simp only[eE,seval];simp[]

end

section
variable {M:Nat}{P:PL}{m:PG→V→Int}{bd:Int→V→List UInt8}(o:PO)(ho:UO P o)

def PkI (o:PO)(l:List V)(F:Nat→List UInt8)(k:Nat)(st:St):Prop :=
 ∃f fr i g,st=⟨f,[fr],[]⟩∧k=l.length-i∧i≤l.length∧f 4=.ptr 0 4 0∧f 8=.int .i64 (wk o.kind)∧f 9=.vec 0 19 g 0 (F i).length false∧f 21=.list (l.map V.av)∧f 22=.int .i64 (l.length:Nat)∧f 23=.int .i64 (i:Nat)∧fr 4=.cells o.cells∧fr 19=.vec g 1 (QB (F i))∧∀s∈[11],(fr s).isRow=false

theorem QRt (hp:pk o.card o.kind=true)(v:V)(hv:v.ok M)(hc:v.cnt≤1048576) :
  Qj Tryz.prog 120 [P.av,Qt o,v.av] (.list ([Dv o v.list].map R.av)):=by
 have e0:P.av=.agg [.list (P.progs.map Qn),.list (P.enums.map Qr)]:=rfl;have hlen:=JO v;have cw:=QOA o.num o.name o.alias 2 o.key o.kind o.target o.union;have hw2:MV 2 o.kind=wk o.kind:=by
  have e:pk 2 o.kind=false:=by simp[pk]
  unfold MV;rw[e];rfl
 rw[hw2]at cw;simp only[oc]at cw;have hcv:∃b:UInt8,IntKind.u8.wrap (wk o.kind)=(b.toNat:Int)∧UInt8.ofNat (wk o.kind).toNat=b:=by
  rcases T6 hp with h|h|h<;>rw[h]
  ·exact⟨0,rfl,rfl⟩
  ·exact⟨1,rfl,rfl⟩
  ·exact⟨2,rfl,rfl⟩
 obtain⟨b0,hb0,hb1⟩:=hcv;have hpk:Dv o v.list=⟨o.num,5,0,b0 :: v.list.flatMap (K2 (wk o.kind))⟩:=by unfold Dv;rw[hb1]
 rw[hpk];clear hpk hb1
 let F:Nat→List UInt8:=fun i=>b0 :: (v.list.take i).flatMap (K2 (wk o.kind))
 have hF0:F 0=[b0]:=by simp[F]
 have hFn:F v.list.length=b0 :: v.list.flatMap (K2 (wk o.kind)):=by simp[F]
 have hFl:∀i,i≤v.list.length→(F i).length≤1+10*i:=by
  intro i hi;have:=UW (wk o.kind) (v.list.take i);rw[QWK]at this;simp only[F,QV2];omega
 have hFs:∀i x,v.list[i]? = some x→F (i+1)=F i++K2 (wk o.kind) x:=by
  intro i x hx;simp only[F];rw[QXv,hx,QXS];simp
 rw[←hFn]
 clear_value F
 clear hFn;have hbl:∀s:List UInt8,(QB s).length=s.length:=fun s=>by simp[QB]
 rw[Qw v];refine Qc4.fn (by simp) ?_;simp only[e0,Qt,PO.cells,eE,seval];refine Qb cw rfl rfl rfl (.inl rfl) ?_;simp only[hb0,Qa,seval];refine DN (y:=[.int .u8 (b0.toNat:Int)]) rfl rfl rfl rfl ?_;simp only[QWI,eE,seval];refine Qd (PkI o v.list F) _ ⟨_,_,0,_,rfl,rfl,QVV _,(by rfl),(by rfl),(by rw[hF0];exact(by rfl)),(by rfl),(by rfl),(by rfl),(by rfl),(by rw[hF0];exact(by rfl)),ZA rfl⟩ ?_;rintro _ st ⟨f0,fr0,i,g,rfl,rfl,hil,h40,h80,h90,h210,h220,h230,m40,mR0,Z8⟩;refine QO (a:=_) [11] Z8 ?_;intro f fr hf hm hn11;have h4:f 4=.ptr 0 4 0:=by rw[hf,h40]<;>rfl
 have h8:f 8=.int .i64 (wk o.kind):=by rw[hf,h80]<;>rfl
 have h9:f 9=.vec 0 19 g 0 (F i).length false:=by rw[hf,h90]<;>rfl
 have h21:f 21=.list (v.list.map V.av):=by rw[hf,h210]<;>rfl
 have h22:f 22=.int .i64 (v.list.length:Nat):=by rw[hf,h220]<;>rfl
 have h23:f 23=.int .i64 (i:Nat):=by rw[hf,h230]<;>rfl
 have m4':fr 4=.cells o.cells:=by rw[hm 4 (by decide),m40]<;>rfl
 have mR:fr 19=.vec g 1 (QB (F i)):=by rw[hm 19 (by decide),mR0]<;>rfl
 have n11:=hn11 11 (by decide);clear hf hm hn11 h40 h80 h90 h210 h220 h230 m40 mR0 Z8;have m4:=m4';simp only[PO.cells]at m4;simp only[h22,h23,Qa,seval];by_cases hlt:i<v.list.length
 ·obtain⟨x,hi⟩:∃x,v.list[i]? = some x:=⟨v.list[i],QVO hlt⟩;have hx:=QV0 hi;have hg:=Wy hi;have e1:=Qm i _ hlt (by simp only[maxLen];omega);have c1:=t25 (hv.list x hx);rw[Qxp]at c1;have hbb:(Q8 x.kd x.bits x.text).bits<18446744073709551616:=Ux (T7 (hv.list x hx)) _;have hFi:=hFl i (by omega);have hFx:=hFs i x hi;have hpx:=Dy (wk o.kind) x;have epx:K2 (wk o.kind) x=K1 (wk o.kind) (Q8 x.kd x.bits x.text).bits:=rfl;rw[epx]at hFx hpx;clear epx;generalize Q8 x.kd x.bits x.text=z at c1 hbb hFx hpx;rw[Qw x]at c1;simp only[R.av]at c1;simp only[Ql hlt,Qh,QXe,Qc,hg,n11,h21,h23,eE,seval];refine Qb c1 rfl rfl rfl (.inl rfl) ?_;by_cases w2:wk o.kind=2
  ·have b2:(wk o.kind==2)=true:=by simp[w2]
   have epb:K1 (wk o.kind) z.bits=fx 8 z.bits:=by unfold K1;rw[QWg w2]
   rw[epb]at hFx hpx;simp only[b2,h8,h9,Qa,seval];refine Qb (Qxh z.bits) rfl rfl rfl (.inl rfl) ?_;refine Ua (site:=19) (g:=g) (xs:=QB (F i)) (by rfl) (by exact mR) rfl (hbl _).symm rfl (by omega) ?_;simp only[h23,e1,eE,seval];exact⟨v.list.length-(i+1),by omega,_,_,i+1,g+1,rfl,rfl,by omega,(by exact h4),(by exact h8),(by rw[hFx,QWp];exact(by rfl)),(by exact h21),(by exact h22),(by rfl),(by exact m4'),(by rw[hFx,show QB (F i++fx 8 z.bits)=QB (F i)++QB (fx 8 z.bits)by simp[QB]];exact(by rfl)),ZA rfl⟩
  ·have b2:(wk o.kind==2)=false:=by simp[w2]
   have epb:K1 (wk o.kind) z.bits=Vp.put z.bits:=by unfold K1;rw[QV1 w2]
   rw[epb]at hFx hpx;simp only[b2,h8,h9,Qa,seval];refine Qb (Cq z.bits hbb) rfl rfl rfl (.inl rfl) ?_;refine Ua (site:=19) (g:=g) (xs:=QB (F i)) (by rfl) (by exact mR) rfl (hbl _).symm rfl (by omega) ?_;simp only[h23,e1,eE,seval];exact⟨v.list.length-(i+1),by omega,_,_,i+1,g+1,rfl,rfl,by omega,(by exact h4),(by exact h8),(by rw[hFx,QWp];exact(by rfl)),(by exact h21),(by exact h22),(by rfl),(by exact m4'),(by rw[hFx,show QB (F i++Vp.put z.bits)=QB (F i)++QB (Vp.put z.bits)by simp[QB]];exact(by rfl)),ZA rfl⟩
 ·have e:i=v.list.length:=by omega
  subst e;have he:Q4 [fr] (.vec 0 19 g 0 (F v.list.length).length false)=some (QB (F v.list.length)):=JT mR (hbl _).symm;have hbo:bytesOf (QB (F v.list.length))=some (F v.list.length):=Jt _;simp only[Qy hlt,h4,h9,m4,he,hbo,eE,seval];refine QP (l:=[(R.mk o.num 5 0 (F v.list.length)).av]) rfl rfl rfl rfl ?_;simp only[QWj,QWO,Qa,seval]

def B6 (o:PO):Nat:=if o.card=5 then 118 else if pk o.card o.kind=true then 120 else if o.card=4 then 121 else 122

theorem t73:Qj Tryz.prog 73 [Qt o] (.fn (.func (B6 o)) [] []):=by
 have cp:=Qvq o.num o.name o.alias o.card o.key o.kind o.target o.union;simp only[oc]at cp;unfold B6;refine k73.fn (by simp) ?_;simp only[Qt,PO.cells,eE,seval];by_cases h5:o.card=5
 ·have b5:(o.card==5)=true:=by simp[h5]
  rw[QWg h5];simp only[b5,Qa,seval]
 have b5:(o.card==5)=false:=by simp[h5]
 rw[QV1 h5];simp only[b5,eE,seval];refine Qb cp rfl rfl rfl (.inl rfl) ?_;cases hp:pk o.card o.kind
 case true=>simp only[Qa,seval]
 simp only[eE,seval];by_cases h4:o.card=4
 ·have b4:(o.card==4)=true:=by simp[h4]
  simp only[h4,Qa,seval]
 ·have b4:(o.card==4)=false:=by simp[h4]
  simp only[b4,h4,Qa,seval]

theorem QRu (hel:∀x:V,x.ok M→x.cnt≤1048576→QT m P o x=0→Qj Tryz.prog 197 [P.av,Qt o,x.av] (Q2 bd o 0 x).av)(v:V)(hv:v.ok M)(hc:v.cnt≤1048576)(he:QT m P o v=0) :
  Qj Tryz.prog 122 [P.av,Qt o,v.av] (.list ([Q2 bd o o.num v].map R.av)):=by
 have e0:P.av=.agg [.list (P.progs.map Qn),.list (P.enums.map Qr)]:=rfl;have c1:=hel v hv hc he;have c2:=Cw o.num (Q2 bd o 0 v);rw[DA]at c2;generalize Q2 bd o 0 v=y at c1 c2;generalize Q2 bd o o.num v=z at c2 ⊢;rw[e0,Qw v]at c1;simp only[Qt,PO.cells,R.av]at c1 c2;rw[Qw v];refine Qc9.fn (by simp) ?_;simp only[e0,Qt,PO.cells,eE,seval];refine Qb c1 rfl rfl rfl (.inl rfl) ?_;refine Qb c2 rfl rfl rfl (.inl rfl) ?_;refine QP (l:=[z.av]) rfl rfl rfl rfl ?_;simp only[QWj,QWO,Qa,seval]

include ho in
theorem QIg (hbd:∀(t:Int) (v:V),(0≤t∧t<(P.progs.length:Int))→m (QW P t) v=0→(bd t v).length+70000≤70000*v.cnt)(hb:∀(t:Int) (g:PG),P.progs[t.toNat]? = some g→0≤t→∀v:V,v.ok M→v.cnt≤1048576→m g v=0→Qj Tryz.prog 29 [P.av,.int .i64 t,v.av] (.str (bd t v)))(v:V)(hv:v.ok M)(hc:v.cnt≤1048576)(hf:Xd m P o v=0) :
  Qj Tryz.prog (B6 o) [P.av,Qt o,v.av] (.list ((Yj bd o v).map R.av)):=by
 have hel:=fun(x:V) (hx:x.ok M) (hxc:x.cnt≤1048576) (he:QT m P o x=0)=>QRn o ho hb x hx hxc he
 unfold B6 Yj;unfold Xd at hf;by_cases h5:o.card=5
 ·rw[QWg h5]at hf;rw[QWg h5,QWg h5];split at hf
  ·omega
  exact QRr o ho hbd hel v hv hc (Wh.1 hf).1
 rw[QV1 h5]at hf;rw[QV1 h5,QV1 h5];by_cases hp:pk o.card o.kind=true
 ·rw[QWg hp,QWg hp];exact QRt o hp v hv hc
 rw[QV1 hp,QV1 hp];by_cases h4:o.card=4
 ·rw[QWg h4]at hf;rw[QWg h4,QWg h4];split at hf
  ·omega
  exact QRq o hel v hv hc (KA.1 hf)
 ·rw[QV1 h4]at hf;rw[QV1 h4,QV1 h4];exact QRu o hel v hv hc hf
end

section
variable {M:Nat}{P:PL}{m:PG→V→Int}{bd:Int→V→List UInt8}

theorem t37 (hU:Yd P)(hP:P.ok M)(hbd:∀(t:Int) (v:V),(0≤t∧t<(P.progs.length:Int))→m (QW P t) v=0→(bd t v).length+70000≤70000*v.cnt)(hb:∀(t:Int) (g:PG),P.progs[t.toNat]? = some g→0≤t→∀v:V,v.ok M→v.cnt≤1048576→m g v=0→Qj Tryz.prog 29 [P.av,.int .i64 t,v.av] (.str (bd t v)))(t:Int)(g:PG)(hgt:P.progs[t.toNat]? = some g)(t0:0≤t)(s:Int×V)(hv:s.2.ok M)(hc:s.2.cnt≤1048576)(o:PO)(ho:Ze g s.1=some o)(hf:Xd m P o s.2=0) :
  Qj Tryz.prog 37 [P.av,.int .i64 t,V.sav s] (.list ((JZ bd g s).map R.av)):=by
 have e0:P.av=.agg [.list (P.progs.map Qn),.list (P.enums.map Qr)]:=rfl;have hgm:=QV0 hgt;obtain⟨hom,hon⟩:=Zo ho;have c1:=y72 g (hP.progs g hgm).len s.1;rw[Wg,ho]at c1;have c2:=t73 o;have c3:=QIg o (hU g hgm o hom) hbd hb s.2 hv hc hf;have hsl:JZ bd g s=Yj bd o s.2:=by unfold JZ;rw[ho]
 rw[hsl];obtain⟨ti,hti⟩:=QXq t0;subst hti;rw[QXe]at hgt;have hga:(P.progs.map Qn)[ti]? = some (.agg g.cells):=by simp[hgt,Qn]
 generalize Yj bd o s.2=z at c3 ⊢;generalize B6 o=k at c2 c3;simp only[PG.cells]at hga;rw[e0,Qw s.2]at c3;simp only[Qn,Qt,PG.cells,PO.cells,QWX,QXz]at c1 c2 c3;rw[Zm];refine k37.fn (by simp) ?_;simp only[e0,Qh,QXe,Qc,hga,eE,seval];refine Qb c1 rfl rfl rfl (.inl rfl) ?_;simp only[eE,seval];refine Qb c2 rfl rfl rfl (.inl rfl) ?_;simp only[eE,seval];refine J9 (fa:=[]) (fb:=[]) (by rfl) c3 rfl rfl rfl (.inl rfl) ?_;simp only[Qa,seval]

end

section
variable (bd:Int→V→List UInt8)(g:PG)
theorem Vh {s:Int×V}{sl:List (Int×V)}{r:R}{rs:List R}(h:r.num<s.1):Xt bd g (s :: sl) (r :: rs)=r :: Xt bd g (s :: sl) rs:=by
 have d:decide (r.num<s.1)=true:=QXD h;rw[Xt,Xt,List.takeWhile_cons,List.dropWhile_cons,QWg d,QWg d];rfl
theorem UX {s:Int×V}{sl:List (Int×V)}{rs:List R}(h:∀r l,rs=r :: l→¬r.num<s.1):Xt bd g (s :: sl) rs=JZ bd g s++Xt bd g sl rs:=by
 rw[Xt];cases rs with
 |nil=>rfl
 |cons r l=>
  have d:¬decide (r.num<s.1)=true:=fun e=>h r l rfl (of_decide_eq_true e)
  rw[List.takeWhile_cons,List.dropWhile_cons,QV1 d,QV1 d];rfl
end

structure BoF (P:PL)(t:Nat)(S:List (Int×V))(f:Fr)(fr:Nat→Ob)(i g:Nat)(out rest:List R):Prop where
 f1:f 1=.int .i64 (t:Nat)
 f3:f 3=.ptr 0 3 0
 f8:f 8=.vec 0 8 g 0 out.length false
 f9:f 9=.list (rest.map R.av)
 f20:f 20=.list (S.map V.sav)
 f21:f 21=.int .i64 (S.length:Nat)
 f22:f 22=.int .i64 (i:Nat)
 m3:fr 3=.cells [.list (P.progs.map Qn),.list (P.enums.map Qr)]
 mR:fr 8=.vec g 4 (out.map R.av)

section
variable {M:Nat}{P:PL}

theorem QIh (bd:Int→V→List UInt8)(g:PG)(t:Nat)(S:List (Int×V))(i:Nat)(s:Int×V)(sl:List (Int×V))(T:List R)(hT:T.length≤3000000000000)(f:Fr)(fr:Nat→Ob)(gn:Nat)(out rest:List R)(h:BoF P t S f fr i gn out rest)(h11:f 11=.ptr 0 11 0)(m11:fr 11=.cells [.int .i64 s.1,.int .i64 s.2.kd,.int .u64 (s.2.bits:Nat),.str s.2.text,.list (s.2.list.map V.av),.list (s.2.pairs.map V.pav),.list (s.2.slots.map V.sav),.list (s.2.raws.map R.av)])(hi:out++Xt bd g (s :: sl) rest=T)(Q:Exit→St→Prop)
  (q:∀f fr gn out rest,BoF P t S f fr i gn out rest→f 11=.ptr 0 11 0→fr 11=.cells [.int .i64 s.1,.int .i64 s.2.kd,.int .u64 (s.2.bits:Nat),.str s.2.text,.list (s.2.list.map V.av),.list (s.2.pairs.map V.pav),.list (s.2.slots.map V.sav),.list (s.2.raws.map R.av)]→out++(JZ bd g s++Xt bd g sl rest)=T→Q (.exit 2) (⟨f,[fr],[]⟩:St)) :
  QH Tryz.prog (.loop R7) ⟨f,[fr],[]⟩ Q:=by
 let I:Nat→St→Prop:=fun k st=>∃f fr gn out rest,st=⟨f,[fr],[]⟩∧k=rest.length∧BoF P t S f fr i gn out rest∧f 11=.ptr 0 11 0∧fr 11=.cells [.int .i64 s.1,.int .i64 s.2.kd,.int .u64 (s.2.bits:Nat),.str s.2.text,.list (s.2.list.map V.av),.list (s.2.pairs.map V.pav),.list (s.2.slots.map V.sav),.list (s.2.raws.map R.av)]∧out++Xt bd g (s :: sl) rest=T
 refine Qd I _ ⟨f,fr,gn,out,rest,rfl,rfl,h,h11,m11,hi⟩ ?_;clear h h11 m11 hi;rintro _ st ⟨f,fr,gn,out,rest,rfl,rfl,⟨h1,h3,h8,h9,h20,h21,h22,m3,mR⟩,h11,m11,hi⟩;simp only[Qa,seval];cases rest with
 |nil=>
  have d1:decide (((0:Nat):Int) > 0)=false:=rfl;simp only[QWO,QWJ,h9,Qa,seval];exact q _ _ gn out [] ⟨(by exact h1),(by exact h3),(by exact h8),(by exact h9),(by exact h20),(by exact h21),(by exact h22),m3,mR⟩ (by exact h11) m11 (by rw[←hi,UX];intro r l e;cases e)
 |cons r l=>
  have d1:decide (((l.length+1:Nat):Int) > 0)=true:=QXD (by omega);have hml:(l.map R.av).length=l.length:=QWI ..;by_cases hr:r.num<s.1
  ·have d2:decide (r.num<s.1)=true:=QXD hr;rw[Vh bd g hr]at hi;have hol:out.length+1≤T.length:=by rw[←hi];simp
   have hs1:(1≤((r :: l).map R.av).length)=True:=eq_true (by simp);have hs3:=Z1 (r :: l);have hs2:List.take (((r :: l).map R.av).length-1) (List.drop 1 ((r :: l).map R.av))=l.map R.av:=by simp[QWl]
   simp only[QWj,QV2,hml,d1,d2,R.av,QWP,Qc,h8,h9,h11,m11,eE,seval];refine QP (l:=[r.av]) rfl rfl rfl rfl ?_;refine QI (site:=8) (g:=gn) (n:=out.length) (xs:=out.map R.av) (ys:=[r.av]) (by rfl) (by exact mR) rfl (by rw[QWI]) rfl (Z1 [r]) (by simp only[QV2,QWJ,maxLen];omega) (by simp only[QV2,QWJ];omega) ?_;simp only[ZJ,ZB,Q5,QXl,hs1,hs2,hs3,QVL,or_true,and_self,QV2,QWJ,h9,Qa,seval];exact⟨l.length,by simp,_,_,gn+1,out++[r],l,rfl,rfl,⟨(by exact h1),(by exact h3),by rw[QWp];exact(by rfl),(by rfl),(by exact h20),(by exact h21),(by exact h22),(by exact m3),by rw[QXu];exact(by rfl)⟩,(by exact h11),(by exact m11),by rw[←hi];simp⟩
  ·have d2:decide (r.num<s.1)=false:=QXy hr;simp only[QWj,QV2,hml,d1,d2,R.av,QWP,Qc,h9,h11,m11,eE,seval];exact q _ _ gn out (r :: l) ⟨(by exact h1),(by exact h3),(by exact h8),(by exact h9),(by exact h20),(by exact h21),(by exact h22),m3,mR⟩ (by exact h11) m11 (by rw[←hi,UX];intro r' l' e;cases e;exact hr)

def BoI (P:PL)(bd:Int→V→List UInt8)(g:PG)(t:Nat)(S:List (Int×V))(T:List R)(k:Nat)(st:St):Prop :=
 ∃f fr i gn out rest,st=⟨f,[fr],[]⟩∧k=S.length-i∧i≤S.length∧BoF P t S f fr i gn out rest∧out++Xt bd g (S.drop i) rest=T∧∀s∈[11],(fr s).isRow=false

theorem t29 (hP:P.ok M)(hU:Yd P)(hr:Ke P)(hcd:Co P)(hG:∀t,Gd (QW P t)):∀(n:Nat) (t:Int) (g:PG),P.progs[t.toNat]? = some g→0≤t→∀v:V,v.ok M→v.cnt≤1048576→XK P n g v=0→Qj Tryz.prog 29 [P.av,.int .i64 t,v.av] (.str (Za P n t v)):=by
 have e0:P.av=.agg [.list (P.progs.map Qn),.list (P.enums.map Qr)]:=rfl;intro n
 induction n with
 |zero=>
  intro t g _ _ v _ _ h;exact(YH 0 _ _ h).elim
 |succ n ih=>
  intro t g hgt t0 v hv hc h;have hgm:=QV0 hgt;have hq:QW P t=g:=by unfold QW;rw[hgt];rfl
  have cn:=v57 hP hU hr hcd (n+1) t g hgt t0 v hv hc (YH _ _ _ h);have hw:=B0 hU hr hgm h;have hnok:=G0 hG (n+1) t v hv;have hncn:=Yc hr (n+1) g (hr g hgm) v;have hfit:=WA hU hr (n+1) g hgm v h;obtain⟨_,_,_,hraw⟩:=JX.1 hfit;rw[hq]at hnok;rw[Za,hq];generalize Xb P (n+1) g v=w at cn hw hnok hncn hraw;have hwc:w.cnt≤1048576:=by omega
  have hbl:=fun t v ht hm=>Wj hU hr n t v ht hm
  have hrw:=YO (m:=XK P n) (bd:=Za P n) (g:=g) hbl w.slots w.raws (fun x hx=>by
   obtain⟨o,ho,hx,_⟩:=hw x hx;exact⟨o,ho,hU _ hgm o (Zo ho).1,hx⟩) hraw
  have hcs:w.raws.length+Xf w.slots≤w.cnt:=by rw[Xh w];omega
  have hpn:=YQ (l:=Xt (Za P n) g w.slots w.raws) (Dz (Za P n) g w.slots w.raws (fun s hs=>hnok.slots s hs) (fun f hf=>by
   have:=H8 (hnok.raws f hf).bits;show f.bits<_;omega)) (by omega)
  have cput:=c58 _ hpn.1 hpn.2.1 hpn.2.2;have hTl:=Yk (Xt (Za P n) g w.slots w.raws);have csl:=fun(s:Int×V) (hs:s∈w.slots)=>(hw s hs).elim fun o ho=>t37 hU hP hbl ih t g hgt t0 s (hnok.slots s hs) (QVM (JN hs) hwc) o ho.1 ho.2.1
  have ls:=JY w;generalize hTe:Xt (Za P n) g w.slots w.raws=T at hrw hpn cput hTl;have hTm:T.length≤3000000000000:=by omega
  clear hpn hraw hrw hw hfit;obtain⟨ti,hti⟩:=QXq t0;subst hti;rw[e0,Qw v,Qw w]at cn;rw[Qw v];refine k29.fn (by simp) ?_;simp only[e0,eE,seval];refine Qb cn rfl rfl rfl (.inl rfl) ?_;simp only[eE,seval];refine XL rfl rfl ?_;simp only[QWI,eE,seval];refine Qd (BoI P (Za P n) g ti w.slots T) _ ⟨_,_,0,_,[],w.raws,rfl,rfl,QVV _,⟨(by rfl),(by rfl),(by rfl),(by rfl),(by rfl),(by rfl),(by rfl),(by rfl),(by rfl)⟩,hTe,ZA rfl⟩ ?_;rintro _ st ⟨f0,fr0,i,gn,out,rest,rfl,rfl,hil,⟨h10,h30,h80,h90,h200,h210,h220,m30,mR0⟩,hi0,Z8⟩;refine QO (a:=_) [11] Z8 ?_;intro f fr hf hm hn11;have h1:f 1=.int .i64 (ti:Nat):=by rw[hf,h10]<;>rfl
  have h3:f 3=.ptr 0 3 0:=by rw[hf,h30]<;>rfl
  have h8:f 8=.vec 0 8 gn 0 out.length false:=by rw[hf,h80]<;>rfl
  have h9:f 9=.list (rest.map R.av):=by rw[hf,h90]<;>rfl
  have h20:f 20=.list (w.slots.map V.sav):=by rw[hf,h200]<;>rfl
  have h21:f 21=.int .i64 (w.slots.length:Nat):=by rw[hf,h210]<;>rfl
  have h22:f 22=.int .i64 (i:Nat):=by rw[hf,h220]<;>rfl
  have m3:fr 3=.cells [.list (P.progs.map Qn),.list (P.enums.map Qr)]:=by rw[hm 3 (by decide),m30]<;>rfl
  have mR:fr 8=.vec gn 4 (out.map R.av):=by rw[hm 8 (by decide),mR0]<;>rfl
  have n11:=hn11 11 (by decide);clear hf hm hn11 h10 h30 h80 h90 h200 h210 h220 m30 mR0 Z8;simp only[h21,h22,Qa,seval];by_cases hlt:i<w.slots.length
  ·obtain⟨x,hi⟩:∃x,w.slots[i]? = some x:=⟨w.slots[i],QVO hlt⟩;have hx:=QV0 hi;have hgs:=JA hi;have e1:=Qm i _ hlt (by simp only[maxLen];omega);have hdr:w.slots.drop i=x :: w.slots.drop (i+1):=by rw[QWv hlt,(QVN.1 hi).2]
   have c1:=csl x hx;rw[hdr]at hi0;simp only[Ql hlt,Qh,QXe,Qc,hgs,n11,h20,h22,eE,seval];refine QIh (Za P n) g ti w.slots i x (w.slots.drop (i+1)) T hTm _ _ gn out rest ⟨(by exact h1),(by exact h3),(by exact h8),(by exact h9),(by exact h20),(by exact h21),(by exact h22),(by exact m3),(by exact mR)⟩ (by rfl) (by rfl) hi0 _ ?_;clear h1 h3 h8 h9 h20 h21 h22 m3 mR n11 hi0 out rest gn f fr;rintro f fr gn out rest ⟨h1,h3,h8,h9,h20,h21,h22,m3,mR⟩ h11 m11 hi0;rw[e0,Zm x]at c1;generalize JZ (Za P n) g x=z at c1 hi0;have hol:out.length+z.length≤T.length:=by rw[←hi0];simp
   simp only[h1,h3,h8,h11,m3,m11,eE,seval];refine Qb c1 rfl rfl rfl (.inl rfl) ?_;refine QI (site:=8) (g:=gn) (n:=out.length) (xs:=out.map R.av) (ys:=z.map R.av) (by rfl) (by exact mR) rfl (by rw[QWI]) rfl (Z1 z) (by simp only[QWI,maxLen];omega) (by simp only[QWI];omega) ?_;simp only[QWI,h22,e1,Qa,seval];exact⟨w.slots.length-(i+1),by omega,_,_,i+1,gn+1,out++z,rest,rfl,rfl,by omega,⟨(by exact h1),(by exact h3),by rw[QWp];exact(by rfl),(by exact h9),(by exact h20),(by exact h21),(by rfl),(by exact m3),by rw[QXu];exact(by rfl)⟩,by rw[←hi0,QV8],ZA (by simp only[m11,Qa,seval]<;>rfl)⟩
  ·have e:i=w.slots.length:=by omega
   subst e;have hi1:out++rest=T:=by rw[←hi0,List.drop_length];rfl
   have hol:out.length+rest.length=T.length:=by rw[←hi1];simp
   simp only[Qy hlt,h8,h9,Qa,seval];refine QI (site:=8) (g:=gn) (n:=out.length) (xs:=out.map R.av) (ys:=rest.map R.av) (by rfl) (by exact mR) rfl (by rw[QWI]) (by rfl) (Z1 rest) (by simp only[QWI,maxLen];omega) (by simp only[QWI];omega) ?_;rw[←hi1]at cput;refine Qb cput ?_ rfl rfl (.inr rfl) ?_
   ·simp only[QWj,QWO,AV.stillL,AV.still,QWI,eE,seval];simp[K0,QWl]
   rw[←hi1];simp only[Qa,seval]

end

structure FiF (P:PL)(t:Nat)(w:V)(f:Fr)(fr:Nat→Ob)(k g:Nat)(out:List R):Prop where
 f1:f 1=.int .i64 (t:Nat)
 f3:f 3=.ptr 0 3 0
 f5:f 5=.ptr 0 5 0
 f7:f 7=.vec 0 7 g 0 out.length false
 f8:f 8=.int .i64 (k:Nat)
 m3:fr 3=.cells [.list (P.progs.map Qn),.list (P.enums.map Qr)]
 m5:fr 5=.cells (XV w)
 mR:fr 7=.vec g 4 (out.map R.av)

theorem UY {α:Type}{l:List α}{i:Nat}{x:α}(h:l[i]? = some x):l.drop i=x :: l.drop (i+1):=by
 have hlt:=(QVN.1 h).1;rw[QWv hlt,(QVN.1 h).2]

section
variable {M:Nat}{P:PL}

theorem QIi (bd:Int→V→List UInt8)(g:PG)(t:Nat)(w:V)(hR:w.raws.length≤1048576)(i:Nat)(s:Int×V)(hs:w.slots[i]? = some s)(sl:List (Int×V))(T:List R)(hT:T.length≤3000000000000)(f:Fr)(fr:Nat→Ob)(k gn:Nat)(out:List R)(h:FiF P t w f fr k gn out)(h9:f 9=.int .i64 (i:Nat))(hi:out++Xt bd g (s :: sl) (w.raws.drop k)=T)(Q:Exit→St→Prop)
  (q:∀f fr k gn out,FiF P t w f fr k gn out→f 9=.int .i64 (i:Nat)→out++(JZ bd g s++Xt bd g sl (w.raws.drop k))=T→Q (.exit 2) (⟨f,[fr],[]⟩:St)) :
  QH Tryz.prog (.loop T0) ⟨f,[fr],[]⟩ Q:=by
 let I:Nat→St→Prop:=fun d st=>∃f fr k gn out,st=⟨f,[fr],[]⟩∧d=w.raws.length-k∧FiF P t w f fr k gn out∧f 9=.int .i64 (i:Nat)∧out++Xt bd g (s :: sl) (w.raws.drop k)=T
 refine Qd I _ ⟨f,fr,k,gn,out,rfl,rfl,h,h9,hi⟩ ?_;clear h h9 hi;rintro _ st ⟨f,fr,k,gn,out,rfl,rfl,⟨h1,h3,h5,h7,h8,m3,m5',mR⟩,h9,hi⟩;have m5:=m5';simp only[XV]at m5;have hgs:=JA hs;simp only[QWI,h5,h8,m5,eE,seval];by_cases hlt:k<w.raws.length
 case neg=>
  rw[QWo (by omega)]at hi;simp only[Qy hlt,Qa,seval];exact q _ _ k gn out ⟨(by exact h1),(by exact h3),(by exact h5),(by exact h7),(by exact h8),m3,m5',mR⟩ (by exact h9) (by rw[←hi,QWo (by omega),UX];intro r l e;cases e)
 obtain⟨r,hr⟩:∃r,w.raws[k]? = some r:=⟨w.raws[k],QVO hlt⟩;have hra:=Us hr;rw[UY hr]at hi;by_cases hn:r.num<s.1
 ·have d2:decide (r.num<s.1)=true:=QXD hn;rw[Vh bd g hn]at hi;have hol:out.length+1≤T.length:=by rw[←hi];simp
  have e1:=Qm k _ hlt (by simp only[maxLen];omega);simp only[Ql hlt,d2,hra,hgs,Qh,QXe,Qc,h5,h7,h8,h9,m5,eE,seval];refine QP (l:=[r.av]) rfl rfl rfl rfl ?_;refine QI (site:=7) (g:=gn) (n:=out.length) (xs:=out.map R.av) (ys:=[r.av]) (by rfl) (by exact mR) rfl (by rw[QWI]) rfl (Z1 [r]) (by simp only[QV2,QWJ,maxLen];omega) (by simp only[QV2,QWJ];omega) ?_;simp only[h8,e1,Qa,seval];exact⟨w.raws.length-(k+1),by omega,_,_,k+1,gn+1,out++[r],rfl,rfl,⟨(by exact h1),(by exact h3),(by exact h5),by rw[QWp];exact(by rfl),(by rfl),(by exact m3),(by exact m5'),by rw[QXu];exact(by rfl)⟩,(by exact h9),by rw[←hi];simp⟩
 ·have d2:decide (r.num<s.1)=false:=QXy hn;simp only[Ql hlt,d2,hra,hgs,Qh,QXe,Qc,h5,h8,h9,m5,eE,seval];exact q _ _ k gn out ⟨(by exact h1),(by exact h3),(by exact h5),(by exact h7),(by exact h8),m3,m5',mR⟩ (by exact h9) (by rw[←hi,UY hr,UX];intro r' l' e;cases e;exact hn)

theorem Qxv (t:Nat)(w:V)(hR:w.raws.length≤1048576)(T:List R)(hT:T.length≤3000000000000)(f:Fr)(fr:Nat→Ob)(k gn:Nat)(out:List R)(h:FiF P t w f fr k gn out)(hi:out++w.raws.drop k=T)(Q:Exit→St→Prop)
  (q:∀f fr gn,f 7=.vec 0 7 gn 0 T.length false→fr 7=.vec gn 4 (T.map R.av)→Q (.exit 4) (⟨f,[fr],[]⟩:St)) :
  QH Tryz.prog (.loop T1) ⟨f,[fr],[]⟩ Q:=by
 let I:Nat→St→Prop:=fun d st=>∃f fr k gn out,st=⟨f,[fr],[]⟩∧d=w.raws.length-k∧FiF P t w f fr k gn out∧out++w.raws.drop k=T
 refine Qd I _ ⟨f,fr,k,gn,out,rfl,rfl,h,hi⟩ ?_;clear h hi;rintro _ st ⟨f,fr,k,gn,out,rfl,rfl,⟨h1,h3,h5,h7,h8,m3,m5',mR⟩,hi⟩;have m5:=m5';simp only[XV]at m5;simp only[QWI,h5,h8,m5,eE,seval];by_cases hlt:k<w.raws.length
 case neg=>
  rw[QWo (by omega),QWQ]at hi;subst hi;simp only[Qy hlt,Qa,seval];exact q _ _ gn (by exact h7) (by exact mR)
 obtain⟨r,hr⟩:∃r,w.raws[k]? = some r:=⟨w.raws[k],QVO hlt⟩;have hra:=Us hr;rw[UY hr]at hi;have hol:out.length+1≤T.length:=by rw[←hi];simp
 have e1:=Qm k _ hlt (by simp only[maxLen];omega);simp only[Ql hlt,hra,Qh,QXe,Qc,h5,h7,h8,m5,eE,seval];refine QP (l:=[r.av]) rfl rfl rfl rfl ?_;refine QI (site:=7) (g:=gn) (n:=out.length) (xs:=out.map R.av) (ys:=[r.av]) (by rfl) (by exact mR) rfl (by rw[QWI]) rfl (Z1 [r]) (by simp only[QV2,QWJ,maxLen];omega) (by simp only[QV2,QWJ];omega) ?_;simp only[h8,e1,Qa,seval];exact⟨w.raws.length-(k+1),by omega,_,_,k+1,gn+1,out++[r],rfl,rfl,⟨(by exact h1),(by exact h3),(by exact h5),by rw[QWp];exact(by rfl),(by rfl),(by exact m3),(by exact m5'),by rw[QXu];exact(by rfl)⟩,by rw[←hi];simp⟩

theorem u34 (bd:Int→V→List UInt8)(g:PG)(t:Int)(t0:0≤t)(w:V)(hwc:w.cnt≤1048576)(csl:∀s∈w.slots,Qj Tryz.prog 20 [P.av,.int .i64 t,V.sav s] (.list ((JZ bd g s).map R.av)))(hT:(Xt bd g w.slots w.raws).length≤3000000000000) :
  Qj Tryz.prog 34 [P.av,.int .i64 t,w.av] (.list ((Xt bd g w.slots w.raws).map R.av)):=by
 have e0:P.av=.agg [.list (P.progs.map Qn),.list (P.enums.map Qr)]:=rfl;have ls:=JY w;have lr:=YJ w;obtain⟨ti,hti⟩:=QXq t0;subst hti;generalize hTe:Xt bd g w.slots w.raws=T at hT ⊢
 let I:Nat→St→Prop:=fun d st=>∃f fr i k gn out,st=⟨f,[fr],[]⟩∧d=w.slots.length-i∧i≤w.slots.length∧FiF P ti w f fr k gn out∧f 9=.int .i64 (i:Nat)∧out++Xt bd g (w.slots.drop i) (w.raws.drop k)=T
 rw[show w.av=.agg (XV w)from Qw w];refine k34.fn (by simp) ?_;simp only[e0,XV,eE,seval];refine XL rfl rfl ?_;simp only[Qa,seval];refine Qd I _ ⟨_,_,0,0,1,[],rfl,rfl,QVV _,⟨(by rfl),(by rfl),(by rfl),(by rfl),(by rfl),(by rfl),(by rfl),(by rfl)⟩,(by rfl),hTe⟩ ?_;rintro _ st ⟨f,fr,i,k,gn,out,rfl,rfl,hil,⟨h1,h3,h5,h7,h8,m3,m5',mR⟩,h9,hi0⟩;have m5:=m5';simp only[XV]at m5;simp only[QWI,h5,h9,m5,eE,seval];by_cases hlt:i<w.slots.length
 ·obtain⟨x,hi⟩:∃x,w.slots[i]? = some x:=⟨w.slots[i],QVO hlt⟩;have hx:=QV0 hi;have hgs:=JA hi;have e1:=Qm i _ hlt (by simp only[maxLen];omega);have c1:=csl x hx;rw[UY hi]at hi0;simp only[Ql hlt,Qa,seval];refine QIi bd g ti w (by omega) i x hi (w.slots.drop (i+1)) T hT _ _ k gn out ⟨(by exact h1),(by exact h3),(by exact h5),(by exact h7),(by exact h8),(by exact m3),(by exact m5'),(by exact mR)⟩ (by exact h9) hi0 _ ?_;clear h1 h3 h5 h7 h8 h9 m3 m5 m5' mR hi0 out gn f fr k;rintro f fr k gn out ⟨h1,h3,h5,h7,h8,m3,m5',mR⟩ h9 hi0;have m5:=m5';simp only[XV]at m5;rw[e0,Zm x]at c1;generalize JZ bd g x=z at c1 hi0;have hol:out.length+z.length≤T.length:=by rw[←hi0];simp
  simp only[Qh,QXe,Qc,hgs,h1,h3,h5,h7,h9,m3,m5,eE,seval];refine Qb c1 rfl rfl rfl (.inl rfl) ?_;refine QI (site:=7) (g:=gn) (n:=out.length) (xs:=out.map R.av) (ys:=z.map R.av) (by rfl) (by exact mR) rfl (by rw[QWI]) rfl (Z1 z) (by simp only[QWI,maxLen];omega) (by simp only[QWI];omega) ?_;simp only[QWI,h9,e1,Qa,seval];exact⟨w.slots.length-(i+1),by omega,_,_,i+1,k,gn+1,out++z,rfl,rfl,by omega,⟨(by exact h1),(by exact h3),(by exact h5),by rw[QWp];exact(by rfl),(by exact h8),(by exact m3),(by exact m5'),by rw[QXu];exact(by rfl)⟩,(by rfl),by rw[←hi0,QV8]⟩
 ·have e:i=w.slots.length:=by omega
  subst e;have hi1:out++w.raws.drop k=T:=by rw[←hi0,List.drop_length];rfl
  simp only[Qy hlt,Qa,seval];refine Qxv ti w (by omega) T hT _ _ k gn out ⟨(by exact h1),(by exact h3),(by exact h5),(by exact h7),(by exact h8),(by exact m3),(by exact m5'),(by exact mR)⟩ hi1 _ ?_;rintro f fr gn h7 mR;simp only[h7,mR,eE,seval];simp[AV.un,X8,Xq,QWl]

theorem u16 (hP:P.ok M)(hU:Yd P)(hr:Ke P)(hG:∀t,Gd (QW P t))(hl64:∀g∈P.progs,g.ops.length≤64):∀(n:Nat) (t:Int) (g:PG),P.progs[t.toNat]? = some g→0≤t→∀v:V,v.ok M→v.cnt≤1048576→XK P n g v=0→Qj Tryz.prog 16 [P.av,.int .i64 t,v.av] (.str (Za P n t v)):=by
 have e0:P.av=.agg [.list (P.progs.map Qn),.list (P.enums.map Qr)]:=rfl;intro n
 induction n with
 |zero=>
  intro t g _ _ v _ _ h;exact(YH 0 _ _ h).elim
 |succ n ih=>
  intro t g hgt t0 v hv hc h;have hgm:=QV0 hgt;have hq:QW P t=g:=by unfold QW;rw[hgt];rfl
  have cn:=v35 (M:=M) hU hr hl64 (n+1) t g hgt t0 v hv hc (YH _ _ _ h);have hw:=B0 hU hr hgm h;have hnok:=G0 hG (n+1) t v hv;have hncn:=Yc hr (n+1) g (hr g hgm) v;have hfit:=WA hU hr (n+1) g hgm v h;obtain⟨_,_,_,hraw⟩:=JX.1 hfit;rw[hq]at hnok;rw[Za,hq];generalize Xb P (n+1) g v=w at cn hw hnok hncn hraw;have hwc:w.cnt≤1048576:=by omega
  have hbl:=fun t v ht hm=>Wj hU hr n t v ht hm
  have hrw:=YO (m:=XK P n) (bd:=Za P n) (g:=g) hbl w.slots w.raws (fun x hx=>by
   obtain⟨o,ho,hx,_⟩:=hw x hx;exact⟨o,ho,hU _ hgm o (Zo ho).1,hx⟩) hraw
  have hcs:w.raws.length+Xf w.slots≤w.cnt:=by rw[Xh w];omega
  have hpn:=YQ (l:=Xt (Za P n) g w.slots w.raws) (Dz (Za P n) g w.slots w.raws (fun s hs=>hnok.slots s hs) (fun f hf=>by
   have:=H8 (hnok.raws f hf).bits;show f.bits<_;omega)) (by omega)
  have cput:=c33 _ hpn.1 hpn.2.1 hpn.2.2;have hTl:=Yk (Xt (Za P n) g w.slots w.raws);have csl:=fun(s:Int×V) (hs:s∈w.slots)=>u20 hU hP hbl ih t g hgt t0 s (hnok.slots s hs) (QVM (JN hs) hwc) (hw s hs)
  have cfi:=u34 (Za P n) g t t0 w hwc csl (by omega);generalize Xt (Za P n) g w.slots w.raws=T at cfi cput;have htl:t<(P.progs.length:Int):=by
   have:=(QVN.1 hgt).1;omega
  have d0:decide (t<0)=false:=QXy (by omega);have d1:decide (t≥(P.progs.length:Int))=false:=QXy (by omega);rw[e0,Qw v,Qw w]at cn;rw[e0,Qw w]at cfi;simp only[K0]at cput;rw[Qw v];refine k16.fn (by simp) ?_;simp only[e0,d0,d1,QWI,eE,seval];refine Qb cn rfl rfl rfl (.inl rfl) ?_;refine Qb cfi rfl rfl rfl (.inl rfl) ?_;refine Qb cput rfl rfl rfl (.inl rfl) ?_;simp only[Qa,seval]

end
end Go.Proofs.YtipjfckmopekaaaGreatDoor.Va

namespace Go.Proofs.YtipjfckmopekaaaGreatDoor.Va
open Go Am Rc Bt Br Up

def Hk (p:Prop)(v:AV):Prop:=∃b,v=.bool b∧(b=true→p)
theorem Hk.rf {p:Prop}{v:AV}{l:List AV}(h:Hk p v):v.rf=true∧(AV.rfL l=true∨v.nl=true):=by
 obtain⟨b,rfl,_⟩:=h;exact⟨rfl,.inr rfl⟩

def RN (n:Nat)(lf:Int)(a:AV):Prop:=∃r:Int,a=.int .i64 r∧-1≤r∧(0≤r→(n:Int)+r≤lf)
theorem RN.rf {n:Nat}{lf:Int}{v:AV}{l:List AV}(h:RN n lf v):v.rf=true∧(AV.rfL l=true∨v.nl=true):=by
 obtain⟨b,rfl,_⟩:=h;exact⟨rfl,.inr rfl⟩
theorem G3 (n:Nat)(lf:Int):RN n lf (.int .i64 (-1)):=⟨-1,rfl,by omega,by omega⟩
theorem QIj {n:Nat}{lf r:Int}(h : -1≤r)(h1:0≤r→(n:Int)+r≤lf):RN n lf (.int .i64 r):=⟨r,rfl,h,h1⟩

def CnI (v:V)(lv lf:Int)(a:Nat)(S:Nat→Nat)(len:Nat)(k:Nat)(st:St):Prop :=
 ∃f fr i,∃r:Int,st=⟨f,[fr],[]⟩∧k=len-i∧i≤len∧f 3=.ptr 0 3 0∧fr 3=.cells (vc v)∧f 1=.int .i64 lv∧f 2=.int .i64 r∧f a=.int .i64 (i:Nat)∧-1≤r∧(0≤r→(S i:Int)+r≤lf)

def CrI (v:V)(lv lf:Int)(k:Nat)(st:St):Prop :=
 ∃f fr i,st=⟨f,[fr],[]⟩∧k=v.raws.length-i∧i≤v.raws.length∧f 3=.ptr 0 3 0∧fr 3=.cells (vc v)∧f 1=.int .i64 lv∧f 2=.int .i64 lf∧f 7=.int .i64 (i:Nat)

section
variable {M:Nat}

theorem Qab {v:V}(hv:v.ok M){lv lf:Int}(l0:0≤lv)(l1:lv≤40){b:Nat}(hlf:lf≤1000000)
  (hx:∀x∈v.list,∀lf:Int,0≤lf→lf≤1000000→WH Tryz.prog 23 [(x).av,.int .i64 (lv+1),.int .i64 lf] (RN (x).cnt lf))
  (f:Fr) (fr:Nat→Ob) (r:Int) (h3:f 3=.ptr 0 3 0) (m3:fr 3=.cells (vc v)) (h1:f 1=.int .i64 lv) (h2:f 2=.int .i64 r) (ha:f 8=.int .i64 0) (r0 : -1≤r) (r1:0≤r→(b:Int)+r≤lf) (Q:Exit→St→Prop)
  (q:∀(f:Fr) (fr:Nat→Ob) (r:Int),f 3=.ptr 0 3 0→fr 3=.cells (vc v)→f 1=.int .i64 lv→f 2=.int .i64 r→-1≤r→(0≤r→((b+XO v.list:Nat):Int)+r≤lf)→Q (.exit 2) (⟨f,[fr],[]⟩:St)) :
  QH Tryz.prog (.loop TX) ⟨f,[fr],[]⟩ Q:=by
 have n1:=hv.nl;have n2:=hv.np;have n3:=hv.ns;refine Qd (CnI v lv lf 8 (fun i=>b+XO (v.list.take i)) v.list.length) _ ⟨f,fr,0,r,rfl,rfl,QVV _,h3,m3,h1,h2,ha,r0,fun h=>by have:=r1 h;simp only[QWV,XO,QWi];omega⟩ ?_;clear h3 m3 h1 h2 ha r0 r1;rintro _ st ⟨f,fr,i,r,rfl,rfl,hil,h3,m3',h1,h2,ha,r0,r1⟩;dsimp only at r1;have m3:=m3';simp only[vc]at m3;simp only[QWI,h3,m3,ha,eE,seval];by_cases hlt:i<v.list.length
 ·have d:∀r:Int,0≤r→decide (r≥0)=true:=fun r h=>QXD h
  have d':∀r:Int,¬0≤r→decide (r≥0)=false:=fun r h=>QXy h
  by_cases hr:0≤r
  ·obtain⟨x,hi⟩:∃x,v.list[i]? = some x:=⟨v.list[i],QVO hlt⟩;have hm:=QV0 hi;have hg:=Wy hi;have e1:=Qm i _ hlt (by simp only[maxLen];omega);have e2:IntKind.i64.wrap (lv+1)=lv+1:=by rw[QG];omega
   have rr:=r1 hr;have c1:=hx x hm r hr (by omega);rw[Qw]at c1;simp only[Ql hlt,d r hr,Qh,QXe,Qc,hg,QWk,QWu,h3,m3,h1,h2,ha,e2,eE,seval];refine Zq (R:=RN (x).cnt r) c1 rfl rfl (fun _ h=>h.rf) ?_;rintro _ ⟨s,rfl,s0,s1⟩;simp only[ha,e1,Qa,seval];exact⟨v.list.length-(i+1),by omega,_,_,i+1,s,rfl,rfl,by omega,(by exact h3),(by exact m3'),(by exact h1),(by rfl),(by rfl),s0,fun h=>by show((b+XO (v.list.take (i+1)):Nat):Int)+s≤lf;rw[DV hi];have:=s1 h;omega⟩
  ·simp only[Ql hlt,d' r hr,h2,Qa,seval];exact q _ _ r (by exact h3) (by exact m3') (by exact h1) (by exact h2) r0 (fun h=>absurd h hr)
 ·have e:i=v.list.length:=by omega
  subst e;simp only[QXm]at r1;simp only[Qy hlt,Qa,seval];exact q _ _ r (by exact h3) (by exact m3') (by exact h1) (by exact h2) r0 r1

theorem Qac {v:V}(hv:v.ok M){lv lf:Int}(l0:0≤lv)(l1:lv≤40){b:Nat}(hlf:lf≤1000000)
  (hx:∀x∈v.slots,∀lf:Int,0≤lf→lf≤1000000→WH Tryz.prog 23 [(x.2).av,.int .i64 (lv+1),.int .i64 lf] (RN (x.2).cnt lf))
  (f:Fr) (fr:Nat→Ob) (r:Int) (h3:f 3=.ptr 0 3 0) (m3:fr 3=.cells (vc v)) (h1:f 1=.int .i64 lv) (h2:f 2=.int .i64 r) (ha:f 10=.int .i64 0) (r0 : -1≤r) (r1:0≤r→(b:Int)+r≤lf) (Q:Exit→St→Prop)
  (q:∀(f:Fr) (fr:Nat→Ob) (r:Int),f 3=.ptr 0 3 0→fr 3=.cells (vc v)→f 1=.int .i64 lv→f 2=.int .i64 r→-1≤r→(0≤r→((b+Xf v.slots:Nat):Int)+r≤lf)→Q (.exit 6) (⟨f,[fr],[]⟩:St)) :
  QH Tryz.prog (.loop TZ) ⟨f,[fr],[]⟩ Q:=by
 have n1:=hv.nl;have n2:=hv.np;have n3:=hv.ns;refine Qd (CnI v lv lf 10 (fun i=>b+Xf (v.slots.take i)) v.slots.length) _ ⟨f,fr,0,r,rfl,rfl,QVV _,h3,m3,h1,h2,ha,r0,fun h=>by have:=r1 h;simp only[QWV,Xf,QWi];omega⟩ ?_;clear h3 m3 h1 h2 ha r0 r1;rintro _ st ⟨f,fr,i,r,rfl,rfl,hil,h3,m3',h1,h2,ha,r0,r1⟩;dsimp only at r1;have m3:=m3';simp only[vc]at m3;simp only[QWI,h3,m3,ha,eE,seval];by_cases hlt:i<v.slots.length
 ·have d:∀r:Int,0≤r→decide (r≥0)=true:=fun r h=>QXD h
  have d':∀r:Int,¬0≤r→decide (r≥0)=false:=fun r h=>QXy h
  by_cases hr:0≤r
  ·obtain⟨x,hi⟩:∃x,v.slots[i]? = some x:=⟨v.slots[i],QVO hlt⟩;have hm:=QV0 hi;have hg:=JA hi;have e1:=Qm i _ hlt (by simp only[maxLen];omega);have e2:IntKind.i64.wrap (lv+1)=lv+1:=by rw[QG];omega
   have rr:=r1 hr;have c1:=hx x hm r hr (by omega);rw[Qw]at c1;simp only[Ql hlt,d r hr,Qh,QXe,Qc,hg,QWk,QWn,QWu,h3,m3,h1,h2,ha,e2,eE,seval];refine Zq (R:=RN (x.2).cnt r) c1 rfl rfl (fun _ h=>h.rf) ?_;rintro _ ⟨s,rfl,s0,s1⟩;simp only[ha,e1,Qa,seval];exact⟨v.slots.length-(i+1),by omega,_,_,i+1,s,rfl,rfl,by omega,(by exact h3),(by exact m3'),(by exact h1),(by rfl),(by rfl),s0,fun h=>by show((b+Xf (v.slots.take (i+1)):Nat):Int)+s≤lf;rw[DX hi];have:=s1 h;omega⟩
  ·simp only[Ql hlt,d' r hr,h2,Qa,seval];exact q _ _ r (by exact h3) (by exact m3') (by exact h1) (by exact h2) r0 (fun h=>absurd h hr)
 ·have e:i=v.slots.length:=by omega
  subst e;simp only[QXm]at r1;simp only[Qy hlt,Qa,seval];exact q _ _ r (by exact h3) (by exact m3') (by exact h1) (by exact h2) r0 r1

theorem Qad {v:V}(hv:v.ok M){lv lf:Int}(l0:0≤lv)(l1:lv≤40){b:Nat}(hlf:lf≤1000000)
  (hx:∀x∈v.pairs,∀lf:Int,0≤lf→lf≤1000000→WH Tryz.prog 23 [x.1.av,.int .i64 (lv+1),.int .i64 lf] (RN x.1.cnt lf)∧WH Tryz.prog 23 [x.2.av,.int .i64 (lv+1),.int .i64 lf] (RN x.2.cnt lf))
  (f:Fr) (fr:Nat→Ob) (r:Int) (h3:f 3=.ptr 0 3 0) (m3:fr 3=.cells (vc v)) (h1:f 1=.int .i64 lv) (h2:f 2=.int .i64 r) (ha:f 9=.int .i64 0) (r0 : -1≤r) (r1:0≤r→(b:Int)+r≤lf) (Q:Exit→St→Prop)
  (q:∀(f:Fr) (fr:Nat→Ob) (r:Int),f 3=.ptr 0 3 0→fr 3=.cells (vc v)→f 1=.int .i64 lv→f 2=.int .i64 r→-1≤r→(0≤r→((b+Xs v.pairs:Nat):Int)+r≤lf)→Q (.exit 4) (⟨f,[fr],[]⟩:St)) :
  QH Tryz.prog (.loop TY) ⟨f,[fr],[]⟩ Q:=by
 have n2:=hv.np;refine Qd (CnI v lv lf 9 (fun i=>b+Xs (v.pairs.take i)) v.pairs.length) _ ⟨f,fr,0,r,rfl,rfl,QVV _,h3,m3,h1,h2,ha,r0,fun h=>by have:=r1 h;simp only[QWV,Xs,QWi];omega⟩ ?_;clear h3 m3 h1 h2 ha r0 r1;rintro _ st ⟨f,fr,i,r,rfl,rfl,hil,h3,m3',h1,h2,ha,r0,r1⟩;dsimp only at r1;have m3:=m3';simp only[vc]at m3;simp only[QWI,h3,m3,ha,eE,seval];by_cases hlt:i<v.pairs.length
 ·have d:∀r:Int,0≤r→decide (r≥0)=true:=fun r h=>QXD h
  have d':∀r:Int,¬0≤r→decide (r≥0)=false:=fun r h=>QXy h
  by_cases hr:0≤r
  ·obtain⟨x,hi⟩:∃x,v.pairs[i]? = some x:=⟨v.pairs[i],QVO hlt⟩;have hm:=QV0 hi;have hg:=Z0 hi;have e1:=Qm i _ hlt (by simp only[maxLen];omega);have e2:IntKind.i64.wrap (lv+1)=lv+1:=by rw[QG];omega
   have rr:=r1 hr;have c1:=(hx x hm r hr (by omega)).1;rw[Qw]at c1;simp only[Ql hlt,d r hr,Qh,QXe,Qc,hg,QWk,QWV,QWu,h3,m3,h1,h2,ha,e2,eE,seval];refine Zq (R:=RN x.1.cnt r) c1 rfl rfl (fun _ h=>h.rf) ?_;rintro _ ⟨s,rfl,s0,s1⟩;by_cases hs:0≤s
   ·have ss:=s1 hs;have c2:=(hx x hm s hs (by omega)).2;rw[Qw]at c2;simp only[d s hs,Qh,QXe,Qc,hg,QWk,QWn,QWu,h3,m3,h1,h2,ha,e2,eE,seval];refine Zq (R:=RN x.2.cnt s) c2 rfl rfl (fun _ h=>h.rf) ?_;rintro _ ⟨u,rfl,u0,u1⟩;simp only[ha,e1,Qa,seval];exact⟨v.pairs.length-(i+1),by omega,_,_,i+1,u,rfl,rfl,by omega,(by exact h3),(by exact m3'),(by exact h1),(by rfl),(by rfl),u0,fun h=>by show((b+Xs (v.pairs.take (i+1)):Nat):Int)+u≤lf;rw[DW hi];have:=u1 h;omega⟩
   ·simp only[d' s hs,h2,ha,e1,Qa,seval];exact⟨v.pairs.length-(i+1),by omega,_,_,i+1,s,rfl,rfl,by omega,(by exact h3),(by exact m3'),(by exact h1),(by rfl),(by rfl),s0,fun h=>absurd h hs⟩
  ·simp only[Ql hlt,d' r hr,h2,Qa,seval];exact q _ _ r (by exact h3) (by exact m3') (by exact h1) (by exact h2) r0 (fun h=>absurd h hr)
 ·have e:i=v.pairs.length:=by omega
  subst e;simp only[QXm]at r1;simp only[Qy hlt,Qa,seval];exact q _ _ r (by exact h3) (by exact m3') (by exact h1) (by exact h2) r0 r1

theorem n23 (v:V)(hv:v.ok M):∀lv lf:Int,0≤lv→lv≤41→0≤lf→lf≤1000000→WH Tryz.prog 23 [v.av,.int .i64 lv,.int .i64 lf] (RN v.cnt lf):=by
 revert hv
 refine V.ind (P:=fun v=>v.ok M→∀lv lf:Int,0≤lv→lv≤41→0≤lf→lf≤1000000→WH Tryz.prog 23 [v.av,.int .i64 lv,.int .i64 lf] (RN v.cnt lf)) ?_ v;clear v;intro v hl hp hs hv lv lf a0 a1 b0 b1;have n4:=hv.nr;rw[Qw];have e2:IntKind.i64.wrap (lf-1)=lf-1:=by rw[QG];omega
 refine k23.rl (by simp) ?_;simp only[e2,eE,seval];by_cases d1:lv > 40
 ·have d1':decide (lv > 40)=true:=QXD d1;simp only[d1',G3,Qa,seval]
 have d1':decide (lv > 40)=false:=QXy d1;simp only[d1',eE,seval];cases d2:decide ((v.text.length:Int) > 5000)
 case true=>simp only[G3,Qa,seval]
 simp only[QWI,eE,seval];by_cases d3:(v.raws.length:Int) > lf-1
 ·have d3':decide ((v.raws.length:Int) > lf-1)=true:=QXD d3;simp only[d3',G3,Qa,seval]
 have d3':decide ((v.raws.length:Int) > lf-1)=false:=QXy d3;have e3:IntKind.i64.wrap (lf-1-(v.raws.length:Int))=lf-1-(v.raws.length:Int):=by rw[QG];omega
 simp only[d3',e3,QWI,eE,seval];refine Qd (CrI v lv (lf-1-(v.raws.length:Int))) _ ⟨_,_,0,rfl,rfl,QVV _,(by rfl),(by rfl),(by rfl),(by rfl),(by rfl)⟩ ?_;rintro _ st ⟨f,fr,i,rfl,rfl,hil,h3,m3',h1,h2,h7⟩;have m3:=m3';simp only[vc]at m3;simp only[QWI,h3,m3,h7,eE,seval];by_cases hlt:i<v.raws.length
 ·obtain⟨x,hi⟩:∃x,v.raws[i]? = some x:=⟨v.raws[i],QVO hlt⟩;have hg:(v.raws.map R.av)[i]? = some x.av:=by simp[hi]
  have e1:=Qm i _ hlt (by simp only[maxLen];omega);simp only[Ql hlt,R.av,Qh,QXe,Qc,hg,h3,m3,h7,eE,seval];cases d4:decide ((x.data.length:Int) > 5000)
  case true=>simp only[G3,Qa,seval]
  simp only[h7,e1,Qa,seval];exact⟨v.raws.length-(i+1),by omega,_,_,i+1,rfl,rfl,by omega,(by exact h3),(by exact m3'),(by exact h1),(by exact h2),(by rfl)⟩
 simp only[Qy hlt,Qa,seval];clear hlt h7 m3 hil;refine Qab hv a0 (by omega) (b:=1+v.raws.length) (lf:=lf) b1 (fun x hx lf p q=>hl x hx (hv.list x hx) _ _ (by omega) (by omega) p q) _ _ _ (by exact h3) (by exact m3') (by exact h1) (by exact h2) (by rfl) (by omega) (by omega) _ ?_;clear h3 m3' h1 h2;intro f fr r h3 m3 h1 h2 r0 r1;simp only[Qa,seval];refine Qad hv a0 (by omega) (b:=1+v.raws.length+XO v.list) (lf:=lf) b1 (fun x hx lf p q=>⟨(hp x hx).1 (hv.keys x hx) _ _ (by omega) (by omega) p q,(hp x hx).2 (hv.vals x hx) _ _ (by omega) (by omega) p q⟩) _ _ _ (by exact h3) (by exact m3) (by exact h1) (by exact h2) (by rfl) r0 r1 _ ?_;clear h3 m3 h1 h2 r0 r1;intro f fr r h3 m3 h1 h2 r0 r1;simp only[Qa,seval];refine Qac hv a0 (by omega) (b:=1+v.raws.length+XO v.list+Xs v.pairs) (lf:=lf) b1 (fun x hx lf p q=>hs x hx (hv.slots x hx) _ _ (by omega) (by omega) p q) _ _ _ (by exact h3) (by exact m3) (by exact h1) (by exact h2) (by rfl) r0 r1 _ ?_;clear h3 m3 h1 h2 r0 r1;intro f fr r h3 m3 h1 h2 r0 r1;simp only[h2,Qa,seval];exact QIj r0 (by rw[Xh];exact r1)

theorem n8 (v:V)(hv:v.ok M)(lf:Int)(b0:0≤lf)(b1:lf≤1000000):WH Tryz.prog 8 [v.av,.int .i64 lf] (Hk ((v.cnt:Int)≤lf)):=by
 have hc:=n23 v hv 1 lf (by omega) (by omega) b0 b1;rw[Qw]at hc ⊢;refine k8.rl (by simp) ?_;simp only[eE,seval];refine Zq (R:=RN v.cnt lf) hc rfl rfl (fun _ h=>h.rf) ?_;rintro _ ⟨r,rfl,r0,r1⟩;simp only[Qa,seval];refine⟨_,rfl,fun h=>?_⟩;have h0:0≤r:=by simpa using h
 have:=r1 h0;omega

end

def DB (P:PL):Prop:=(∀g∈P.progs,g.name.length≤300)∧∀e∈P.enums,e.name.length≤300
theorem G4 (p:Prop):Hk p (.bool false):=⟨false,rfl,fun h=>by cases h⟩

section
variable {M:Nat}(hM:M≤140737488351232)(P:PL)(hP:P.ok M)

include hP in
theorem Qxx (fr:Nat→Ob)(m1':fr 1=.cells (Pc P))(i:Nat)(g:PG)(hg:P.progs[i]? = some g)(lf:Int)(f:Fr)(h1:f 1=.ptr 0 1 0)(h3:f 3=.int .i64 lf)(h4:f 4=.int .i64 (i:Nat))(h5:f 5=.int .i64 0)(Q:Exit→St→Prop)
  (q:∀f:Fr,f 1=.ptr 0 1 0→f 3=.int .i64 lf→f 4=.int .i64 (i:Nat)→Q (.exit 2) (⟨f,[fr],[]⟩:St)) (qr:∀f:Fr,f 2=.bool false→Q .ret (⟨f,[fr],[]⟩:St)) :
  QH Tryz.prog (.loop TT) ⟨f,[fr],[]⟩ Q:=by
 have hgo:=(hP.progs g (QV0 hg)).len;have hga:(P.progs.map Qn)[i]? = some (.agg g.cells):=by simp[hg,Qn]
 let I:Nat→St→Prop:=fun d st=>∃f k,st=⟨f,[fr],[]⟩∧d=g.ops.length-k∧f 1=.ptr 0 1 0∧f 3=.int .i64 lf∧f 4=.int .i64 (i:Nat)∧f 5=.int .i64 (k:Nat)
 refine Qd I _ ⟨f,0,rfl,rfl,h1,h3,h4,h5⟩ ?_;clear h1 h3 h4 h5;rintro _ st ⟨f,k,rfl,rfl,h1,h3,h4,h5⟩;have m1:=m1';simp only[Pc]at m1;simp only[PG.cells]at hga;simp only[Qh,QXe,Qc,hga,QWI,h1,h4,h5,m1,eE,seval];by_cases hlt:k<g.ops.length
 ·obtain⟨o,ho⟩:∃o,g.ops[k]? = some o:=⟨g.ops[k],QVO hlt⟩;have hoa:(g.ops.map fun o=>AV.agg o.cells)[k]? = some (.agg o.cells):=by simp[ho]
  have e1:=Qm k _ hlt hgo;simp only[PO.cells]at hoa;cases d1:decide ((o.name.length:Int) > 300)
  case true=>
   simp only[Ql hlt,Qh,QXe,Qc,hga,hoa,PO.cells,d1,h1,h4,h5,m1,eE,seval];exact qr _ (by rfl)
  cases d2:decide ((o.alias.length:Int) > 300)
  case true=>
   simp only[Ql hlt,Qh,QXe,Qc,hga,hoa,PO.cells,d1,d2,h1,h4,h5,m1,eE,seval];exact qr _ (by rfl)
  simp only[Ql hlt,Qh,QXe,Qc,hga,hoa,PO.cells,d1,d2,h1,h4,h5,m1,e1,eE,seval];exact⟨g.ops.length-(k+1),by omega,_,k+1,rfl,rfl,(by exact h1),(by exact h3),(by exact h4),(by rfl)⟩
 ·simp only[Qy hlt,Qa,seval];exact q _ (by exact h1) (by exact h3) (by exact h4)

include hM in
theorem RU (fr:Nat→Ob)(e:PE)(he:e.ok M)(m7':fr 7=.cells e.cells)(i:Nat)(lf:Int)(f:Fr)(h1:f 1=.ptr 0 1 0)(h3:f 3=.int .i64 lf)(h6:f 6=.int .i64 (i:Nat))(h7:f 7=.ptr 0 7 0)(h8:f 8=.int .i64 0)(Q:Exit→St→Prop)
  (q:∀f:Fr,f 1=.ptr 0 1 0→f 3=.int .i64 lf→f 6=.int .i64 (i:Nat)→Q (.exit 6) (⟨f,[fr],[]⟩:St)) (qr:∀f:Fr,f 2=.bool false→Q .ret (⟨f,[fr],[]⟩:St)) :
  QH Tryz.prog (.loop TV) ⟨f,[fr],[]⟩ Q:=by
 let I:Nat→St→Prop:=fun d st=>∃f k,st=⟨f,[fr],[]⟩∧d=e.items.length-k∧f 1=.ptr 0 1 0∧f 3=.int .i64 lf∧f 6=.int .i64 (i:Nat)∧f 7=.ptr 0 7 0∧f 8=.int .i64 (k:Nat)
 refine Qd I _ ⟨f,0,rfl,rfl,h1,h3,h6,h7,h8⟩ ?_;clear h1 h3 h6 h7 h8;rintro _ st ⟨f,k,rfl,rfl,h1,h3,h6,h7,h8⟩;have m7:=m7';simp only[PE.cells]at m7;simp only[QWI,h7,h8,m7,eE,seval];by_cases hlt:k<e.items.length
 ·obtain⟨o,ho⟩:∃o,e.items[k]? = some o:=⟨e.items[k],QVO hlt⟩;have hoa:(e.items.map fun n=>AV.agg n.cells)[k]? = some (.agg o.cells):=by simp[ho]
  have hok:=he.items o (QV0 ho);have e1:=Qm k _ hlt he.len1;simp only[PI.cells]at hoa;cases d1:decide ((o.name.length:Int) > 300)
  case true=>
   simp only[Ql hlt,Qh,QXe,Qc,hoa,PI.cells,d1,h7,h8,m7,eE,seval];exact qr _ (by rfl)
  rcases hn:o.notes with _|⟨n,_|⟨n2,ns⟩⟩
  ·have c0:decide (((0:Nat):Int) > 1)=false:=rfl;have c1:(((0:Nat):Int)==1)=false:=rfl;rw[hn]at hoa;simp only[Ql hlt,Qh,QXe,Qc,hoa,PI.cells,QWO,QWJ,d1,h7,h8,m7,e1,eE,seval];exact⟨e.items.length-(k+1),by omega,_,k+1,rfl,rfl,(by exact h1),(by exact h3),(by exact h6),(by exact h7),(by rfl)⟩
  ·obtain⟨kd,b',t,l,p,s,r,hv,htl,h3',h4',h5',h6'⟩:=VY (hok.notes n (by rw[hn];simp)) hM;have c0:decide (((1:Nat):Int) > 1)=false:=rfl;have z0:(0≤(0:Int))=True:=eq_true (Int.le_refl 0);have c1:(((1:Nat):Int)==1)=true:=rfl;have en:Xn n.cells=.agg [.str n.name,.int .i64 kd,.int .u64 ((b':Nat):Int),.str t,.list l,.list p,.list s,.list r]:=by
    rw[PN.cells,hv];rfl
   rw[hn]at hoa;simp only[QWj,QWO,en]at hoa;cases d2:decide ((t.length:Int) > 300)
   case true=>
    simp only[Ql hlt,Qh,QXe,Qc,hoa,PI.cells,QV2,QWJ,QWt,z0,QWP,d1,d2,h7,h8,m7,eE,seval];exact qr _ (by rfl)
   simp only[Ql hlt,Qh,QXe,Qc,hoa,PI.cells,QV2,QWJ,QWt,z0,QWP,d1,d2,h7,h8,m7,e1,eE,seval];exact⟨e.items.length-(k+1),by omega,_,k+1,rfl,rfl,(by exact h1),(by exact h3),(by exact h6),(by exact h7),(by rfl)⟩
  ·have c0:decide ((((ns.map fun n=>Xn n.cells).length+1+1:Nat):Int) > 1)=true:=QXD (by omega);rw[hn]at hoa;simp only[QWj]at hoa;simp only[Ql hlt,Qh,QXe,Qc,hoa,PI.cells,QV2,c0,d1,h7,h8,m7,eE,seval];exact qr _ (by rfl)
 ·simp only[Qy hlt,Qa,seval];exact q _ (by exact h1) (by exact h3) (by exact h6)

include hP in
theorem RV (hN:P.progs.length≤60)(fr:Nat→Ob)(m1':fr 1=.cells (Pc P))(f:Fr)(h1:f 1=.ptr 0 1 0)(h3:f 3=.int .i64 400)(h4:f 4=.int .i64 0)(Q:Exit→St→Prop)
  (q:∀(f:Fr) (lf:Int),f 1=.ptr 0 1 0→f 3=.int .i64 lf→0≤lf→lf≤400→(∀g∈P.progs,g.name.length≤300)→Q (.exit 0) (⟨f,[fr],[]⟩:St)) (qr:∀f:Fr,f 2=.bool false→Q .ret (⟨f,[fr],[]⟩:St)) :
  QH Tryz.prog (.loop TU) ⟨f,[fr],[]⟩ Q:=by
 let I:Nat→St→Prop:=fun d st=>∃f i,∃lf:Int,st=⟨f,[fr],[]⟩∧d=P.progs.length-i∧0≤lf∧lf≤400∧(∀g∈P.progs.take i,g.name.length≤300)∧f 1=.ptr 0 1 0∧f 3=.int .i64 lf∧f 4=.int .i64 (i:Nat)
 refine Qd I _ ⟨f,0,400,rfl,rfl,by omega,by omega,(by intro g hg;cases hg),h1,h3,h4⟩ ?_;clear h1 h3 h4;rintro _ st ⟨f,i,lf,rfl,rfl,l0,l1,hs,h1,h3,h4⟩;have m1:=m1';simp only[Pc]at m1;have dl:decide (lf≥0)=true:=QXD l0;simp only[QWI,h1,h4,m1,eE,seval];by_cases hlt:i<P.progs.length
 ·obtain⟨g,hg⟩:∃g,P.progs[i]? = some g:=⟨P.progs[i],QVO hlt⟩;have hga:(P.progs.map Qn)[i]? = some (.agg g.cells):=by simp[hg,Qn]
  have hgo:=(hP.progs g (QV0 hg)).len;have e1:=Qm i _ hlt (by simp only[maxLen];omega);have e2:IntKind.i64.wrap (lf-(g.ops.length:Int))=lf-(g.ops.length:Int):=by
   simp only[maxLen]at hgo;rw[QG];omega
  simp only[PG.cells]at hga;by_cases hn:lf-(g.ops.length:Int)<0
  ·have d1:decide (lf-(g.ops.length:Int)<0)=true:=QXD hn;simp only[Ql hlt,Qh,QXe,Qc,hga,QWI,e2,d1,dl,h1,h3,h4,m1,eE,seval];exact qr _ (by rfl)
  have d1:decide (lf-(g.ops.length:Int)<0)=false:=QXy hn;by_cases hm:g.name.length≤300
  case neg=>
   have d2:decide ((g.name.length:Int) > 300)=true:=QXD (by omega);simp only[Ql hlt,Qh,QXe,Qc,hga,QWI,e2,d1,d2,dl,h1,h3,h4,m1,eE,seval];exact qr _ (by rfl)
  have d2:decide ((g.name.length:Int) > 300)=false:=QXy (by omega);simp only[Ql hlt,Qh,QXe,Qc,hga,QWI,e2,d1,d2,dl,h1,h3,h4,m1,eE,seval];refine Qxx P hP fr m1' i g hg (lf-(g.ops.length:Int)) _ (by exact h1) (by rfl) (by exact h4) (by rfl) _ (fun f h1 h3 h4=>?_) (fun f h2=>?_)
  ·simp only[h4,e1,Qa,seval];exact⟨P.progs.length-(i+1),by omega,_,i+1,lf-(g.ops.length:Int),rfl,rfl,by omega,by omega,(by
    rw[QXv,hg];intro x hx;simp only[QXw,QW5,QXJ]at hx;rcases hx with hx|rfl
    ·exact hs x hx
    ·exact hm),(by exact h1),(by exact h3),(by rfl)⟩
  ·simp only[Qa,seval];exact qr _ h2
 ·rw[QWl (by omega)]at hs;simp only[Qy hlt,Qa,seval];exact q _ lf (by exact h1) (by exact h3) l0 l1 hs

include hM hP in
theorem RX (hN:P.enums.length≤60)(fr:Nat→Ob)(m1':fr 1=.cells (Pc P))(r7:∀s∈[7],(fr s).isRow=false)(f:Fr)(lf:Int)(h1:f 1=.ptr 0 1 0)(h3:f 3=.int .i64 lf)(l0:0≤lf)(l1:lf≤400)(h6:f 6=.int .i64 0)(Q:Exit→St→Prop)
  (q:∀(f:Fr) (fr:Nat→Ob) (lf:Int),f 3=.int .i64 lf→(0≤lf→∀e∈P.enums,e.name.length≤300)→Q (.exit 4) (⟨f,[fr],[]⟩:St)) (qr:∀(f:Fr) (fr:Nat→Ob),f 2=.bool false→Q .ret (⟨f,[fr],[]⟩:St)) :
  QH Tryz.prog (.loop TW) ⟨f,[fr],[]⟩ Q:=by
 let I:Nat→St→Prop:=fun d st=>∃f fr i,∃lf:Int,st=⟨f,[fr],[]⟩∧d=P.enums.length-i∧-800≤lf∧lf≤400∧(0≤lf→∀e∈P.enums.take i,e.name.length≤300)∧f 1=.ptr 0 1 0∧f 3=.int .i64 lf∧f 6=.int .i64 (i:Nat)∧fr 1=.cells (Pc P)∧∀s∈[7],(fr s).isRow=false
 refine Qd I _ ⟨f,fr,0,lf,rfl,rfl,by omega,l1,(by intro _ g hg;cases hg),h1,h3,h6,m1',r7⟩ ?_;clear h1 h3 h6 m1' r7 l0 l1;rintro _ st ⟨f0,fr0,i,lf,rfl,rfl,l0,l1,hs,h10,h30,h60,m10,r7⟩;refine QO (a:=_) [7] r7 ?_;intro f fr hf hm hn7;have h1:f 1=.ptr 0 1 0:=by rw[hf,h10]<;>rfl
 have h3:f 3=.int .i64 lf:=by rw[hf,h30]<;>rfl
 have h6:f 6=.int .i64 (i:Nat):=by rw[hf,h60]<;>rfl
 have m1':fr 1=.cells (Pc P):=by rw[hm 1 (by decide),m10]<;>rfl
 have n7:=hn7 7 (by decide);clear hf hm hn7 h10 h30 h60 m10 r7;have m1:=m1';simp only[Pc]at m1;simp only[QWI,h1,h6,m1,eE,seval];by_cases hlt:i<P.enums.length
 ·obtain⟨e,he⟩:∃e,P.enums[i]? = some e:=⟨P.enums[i],QVO hlt⟩;have hea:(P.enums.map Qr)[i]? = some (.agg e.cells):=by simp[he,Qr]
  have heo:=hP.enums e (QV0 he);have e1:=Qm i _ hlt (by simp only[maxLen];omega);simp only[PE.cells]at hea;by_cases hl:0≤lf
  case neg=>
   have dl:decide (lf≥0)=false:=QXy hl;simp only[Ql hlt,dl,h3,Qa,seval];exact q _ _ lf (by exact h3) (fun h=>absurd h hl)
  have dl:decide (lf≥0)=true:=QXD hl;by_cases q1:(e.items.length:Int) > lf
  ·have d1:decide ((e.items.length:Int) > lf)=true:=QXD q1;simp only[Ql hlt,Qh,QXe,Qc,hea,QWI,n7,d1,dl,h1,h3,h6,m1,eE,seval];exact qr _ _ (by rfl)
  have d1:decide ((e.items.length:Int) > lf)=false:=QXy q1;by_cases q2:(e.free.length:Int) > lf
  ·have d2:decide ((e.free.length:Int) > lf)=true:=QXD q2;simp only[Ql hlt,Qh,QXe,Qc,hea,QWI,n7,d1,d2,dl,h1,h3,h6,m1,eE,seval];exact qr _ _ (by rfl)
  have d2:decide ((e.free.length:Int) > lf)=false:=QXy q2;by_cases hm:e.name.length≤300
  case neg=>
   have d3:decide ((e.name.length:Int) > 300)=true:=QXD (by omega);simp only[Ql hlt,Qh,QXe,Qc,hea,QWI,n7,d1,d2,d3,dl,h1,h3,h6,m1,eE,seval];exact qr _ _ (by rfl)
  have d3:decide ((e.name.length:Int) > 300)=false:=QXy (by omega);have e2:IntKind.i64.wrap (lf-(e.items.length:Int))=lf-(e.items.length:Int):=by rw[QG];omega
  have e3:IntKind.i64.wrap (lf-(e.items.length:Int)-(e.free.length:Int))=lf-(e.items.length:Int)-(e.free.length:Int):=by rw[QG];omega
  simp only[Ql hlt,Qh,QXe,Qc,hea,QWI,n7,e2,e3,d1,d2,d3,dl,h1,h3,h6,m1,eE,seval];refine RU hM _ e heo (by rfl) i (lf-(e.items.length:Int)-(e.free.length:Int)) _ (by exact h1) (by rfl) (by exact h6) (by rfl) (by rfl) _ (fun f h1 h3 h6=>?_) (fun f h2=>?_)
  ·simp only[h6,e1,Qa,seval];exact⟨P.enums.length-(i+1),by omega,_,_,i+1,lf-(e.items.length:Int)-(e.free.length:Int),rfl,rfl,by omega,by omega,(by
    intro _;rw[QXv,he];intro x hx;simp only[QXw,QW5,QXJ]at hx;rcases hx with hx|rfl
    ·exact hs hl x hx
    ·exact hm),(by exact h1),(by exact h3),(by rfl),(by exact m1'),(by
    intro s hs;simp only[QW9,QXP,or_false]at hs;subst hs;rfl)⟩
  ·simp only[Qa,seval];exact qr _ _ h2
 ·rw[QWl (by omega)]at hs;simp only[Qy hlt,Qa,seval];exact q _ _ lf (by exact h3) hs

include hM hP in
theorem n21:WH Tryz.prog 21 [P.av] (Hk (DB P)):=by
 rw[show P.av=.agg (Pc P)from rfl];by_cases q1:P.progs.length≤60
 case neg=>
  have d1:decide ((P.progs.length:Int) > 60)=true:=QXD (by omega);refine k21.rl (by simp) ?_;simp only[Pc,QWI,d1,G4,eE,seval]
 have d1:decide ((P.progs.length:Int) > 60)=false:=QXy (by omega);by_cases q2:P.enums.length≤60
 case neg=>
  have d2:decide ((P.enums.length:Int) > 60)=true:=QXD (by omega);refine k21.rl (by simp) ?_;simp only[Pc,QWI,d1,d2,G4,eE,seval]
 have d2:decide ((P.enums.length:Int) > 60)=false:=QXy (by omega);refine k21.rl (by simp) ?_;simp only[Pc,QWI,d1,d2,eE,seval];refine RV P hP q1 _ (by rfl) _ (by rfl) (by rfl) (by rfl) _ (fun f lf h1 h3 l0 l1 hs=>?_) (fun f h2=>?_)
 ·simp only[Qa,seval];refine RX hM P hP q2 _ (by rfl) (by
    intro s hs;simp only[QW9,QXP,or_false]at hs;subst hs;rfl) _ lf (by exact h1) (by exact h3) l0 l1 (by rfl) _ (fun f fr lf h3 hs2=>?_) (fun f fr h2=>?_)
  ·simp only[h3,Qa,seval];exact⟨_,rfl,fun h=>⟨hs,hs2 (by simpa using h)⟩⟩
  ·simp only[h2,G4,Qa,seval]
 ·simp only[h2,G4,Qa,seval]

end
open So Vp Cp

def PK (s:List UInt8)(P:PL):Int:=XH (fun g:PG=>g.name==s) P.progs 0
def ZV (P:PL)(s:List UInt8)(v:V):List UInt8×Int :=
 if PK s P<0 then([],10)
 else if Ju P (PK s P) v≠0 then([],Ju P (PK s P) v)
 else if (Za P 16 (PK s P) v).length > 65536 then([],3)
 else(Za P 16 (PK s P) v,0)
theorem Jv {P:PL}{t:Int}{v:V}(h:Ju P t v=0):(0≤t∧t<(P.progs.length:Int))∧XK P 16 (QW P t) v=0:=by
 unfold Ju at h;split at h
 ·omega
 rename_i ht;split at h
 ·rename_i hm;exact⟨by omega,hm⟩
 ·rename_i hm;exact absurd h hm
theorem G5 {P:PL}{t:Int}(ht:0≤t∧t<(P.progs.length:Int)):P.progs[t.toNat]? = some (QW P t):=by
 unfold QW;rw[QVO (by omega:t.toNat<P.progs.length)];rfl

section
variable {M:Nat}(hM:M≤140737488351232)(P:PL)(hP:P.ok M)(hS:DB P)

include hM hP hS in
theorem t54:Qj Tryz.prog 54 [P.av] (.int .i64 (ck P)) :=
 QPZ P hP hM (fun g h=>QVM (hS.1 g h) (by decide)) (fun g h=>QVM (hS.2 g h) (by decide))

include hM hP hS in
theorem t27 (t:Int)(ht:0≤t∧t<(P.progs.length:Int))(hk:ck P=0):Qj Tryz.prog 27 [P.av,.int .i64 t] (.bool true):=by
 have e0:P.av=.agg [.list (P.progs.map Qn),.list (P.enums.map Qr)]:=rfl;have d1:decide (t≥0)=true:=QXD ht.1;have d2:decide (t<(P.progs.length:Int))=true:=QXD ht.2;have cc:=t54 hM P hP hS;have z0:((0:Int)==0)=true:=rfl;rw[hk,e0]at cc;refine k27.fn (by simp) ?_;simp only[e0,d1,d2,QWI,eE,seval];refine Qb cc rfl rfl rfl (.inl rfl) ?_;simp only[z0,Qa,seval]

include hM hP hS in
theorem t19 (hk:ck P=0)(t:Int)(v:V)(hv:v.ok M)(hc:v.cnt≤1048576)(hf:Ju P t v=0)(s:Int×V)(hs:s∈v.slots):Qj Tryz.prog 19 [P.av,.int .i64 t,V.sav s] (.list ((JZ (Za P 15) (QW P t) s).map R.av)):=by
 have e0:P.av=.agg [.list (P.progs.map Qn),.list (P.enums.map Qr)]:=rfl;obtain⟨ht,hm⟩:=Jv hf;have cu:=t27 hM P hP hS t ht hk;obtain⟨_,⟨s1,_,_⟩,_,_⟩:=JX.1 hm;obtain⟨o,ho,hx⟩:=s1 s hs;have cb:=t37 (Jl hk) hP (fun t v ht hm=>Wj (Jl hk) (JP hk) 15 t v ht hm) (t29 hP (Jl hk) (JP hk) (RL hk) (Cv hP (Uz hk)) 15) t (QW P t) (G5 ht) ht.1 s (hv.slots s hs) (QVM (JN hs) hc) o ho hx;rw[e0]at cu;rw[e0,Zm s]at cb;rw[Zm s];refine k19.fn (by simp) ?_;simp only[e0,eE,seval];refine Qb cu rfl rfl rfl (.inl rfl) ?_;simp only[eE,seval];refine Qb cb rfl rfl rfl (.inl rfl) ?_;simp only[Qa,seval]

end
end Go.Proofs.YtipjfckmopekaaaGreatDoor.Va

namespace Go.Proofs.YtipjfckmopekaaaGreatDoor.Va
open Go Am Rc Bt Br Up So

noncomputable def sm (v w:V):Bool:=@decide (v=w) (Classical.propDecidable _)
theorem B7 {v w:V}:sm v w=true↔v=w:=by
 unfold sm;exact @decide_eq_true_iff _ (Classical.propDecidable _)
theorem JQ {v w:V}(h:v≠w):sm v w=false:=by
 cases e:sm v w
 ·rfl
 ·exact absurd (B7.1 e) h
theorem B8 {v w:V}(h:v=w):sm v w=true:=B7.2 h

theorem WV {α:Type}{l r:List α}{i:Nat}{x:α}(h:l.take i=r.take i)(hx:l[i]? = some x)(hy:r[i]? = some x):l.take (i+1)=r.take (i+1):=by
 rw[QXv,QXv,h,hx,hy]
theorem Wk {α:Type}{l r:List α}{i:Nat}{x y:α}(hx:l[i]? = some x)(hy:r[i]? = some y)(h:x≠y):l≠r:=by
 intro e;rw[e,hy]at hx;cases hx;exact h rfl

section
variable (v w:V)(fr:Nat→Ob)(m2':fr 2=.cells (XV v))(m3':fr 3=.cells (XV w))(f:Fr)(h2:f 2=.ptr 0 2 0)(h3:f 3=.ptr 0 3 0)(Q:Exit→St→Prop)
include m2' m3' h2 h3

theorem Qae (hl:v.list.length=w.list.length)(hn:v.list.length≤maxLen)(hx:∀x∈v.list,∀y∈w.list,Qj Tryz.prog 36 [x.av,y.av] (.bool (sm x y)))(h5:f 5=.int .i64 0)
  (q:∀f,f 2=.ptr 0 2 0→f 3=.ptr 0 3 0→v.list=w.list→Q (.exit 0) (⟨f,[fr],[]⟩:St)) (qr:∀f,f 4=.bool false→v.list≠w.list→Q .ret (⟨f,[fr],[]⟩:St)) :
  QH Tryz.prog (.loop Sf) ⟨f,[fr],[]⟩ Q:=by
 let I:Nat→St→Prop:=fun k st=>∃f i,st=⟨f,[fr],[]⟩∧k=v.list.length-i∧v.list.take i=w.list.take i∧f 2=.ptr 0 2 0∧f 3=.ptr 0 3 0∧f 5=.int .i64 (i:Nat)
 refine Qd I _ ⟨f,0,rfl,rfl,rfl,h2,h3,h5⟩ ?_;clear h2 h3 h5;rintro _ st ⟨f,i,rfl,rfl,ht,h2,h3,h5⟩;have m2:=m2';have m3:=m3';simp only[XV]at m2 m3;simp only[QWI,h2,h5,m2,eE,seval];by_cases hlt:i<v.list.length
 ·obtain⟨x,hi⟩:∃x,v.list[i]? = some x:=⟨v.list[i],QVO hlt⟩;obtain⟨y,hj⟩:∃y,w.list[i]? = some y:=⟨w.list[i]'(by omega),QVO (by omega)⟩;have hg:=Wy hi;have hg2:=Wy hj;have e1:=Qm i _ hlt hn;have c1:=hx x (QV0 hi) y (QV0 hj);rw[Qw x,Qw y]at c1;simp only[Ql hlt,Qh,QXe,Qc,hg,hg2,h2,h3,h5,m2,m3,eE,seval];refine Qb c1 rfl rfl rfl (.inl rfl) ?_;by_cases hxy:x=y
  ·have s1:=B8 hxy;subst hxy;simp only[s1,h5,e1,Qa,seval];exact⟨v.list.length-(i+1),by omega,_,i+1,rfl,rfl,WV ht hi hj,(by exact h2),(by exact h3),(by rfl)⟩
  ·have s1:=JQ hxy;simp only[s1,Qa,seval];exact qr _ (by rfl) (Wk hi hj hxy)
 ·rw[QWl (by omega),QWl (by omega)]at ht;simp only[Qy hlt,Qa,seval];exact q _ (by exact h2) (by exact h3) ht

theorem RY (hl:v.pairs.length=w.pairs.length)(hn:v.pairs.length≤maxLen)(hx:∀x∈v.pairs,∀y∈w.pairs,Qj Tryz.prog 36 [x.1.av,y.1.av] (.bool (sm x.1 y.1))∧Qj Tryz.prog 36 [x.2.av,y.2.av] (.bool (sm x.2 y.2)))(h6:f 6=.int .i64 0)
  (q:∀f,f 2=.ptr 0 2 0→f 3=.ptr 0 3 0→v.pairs=w.pairs→Q (.exit 2) (⟨f,[fr],[]⟩:St)) (qr:∀f,f 4=.bool false→v.pairs≠w.pairs→Q .ret (⟨f,[fr],[]⟩:St)) :
  QH Tryz.prog (.loop Sg) ⟨f,[fr],[]⟩ Q:=by
 let I:Nat→St→Prop:=fun k st=>∃f i,st=⟨f,[fr],[]⟩∧k=v.pairs.length-i∧v.pairs.take i=w.pairs.take i∧f 2=.ptr 0 2 0∧f 3=.ptr 0 3 0∧f 6=.int .i64 (i:Nat)
 refine Qd I _ ⟨f,0,rfl,rfl,rfl,h2,h3,h6⟩ ?_;clear h2 h3 h6;rintro _ st ⟨f,i,rfl,rfl,ht,h2,h3,h6⟩;have m2:=m2';have m3:=m3';simp only[XV]at m2 m3;simp only[QWI,h2,h6,m2,eE,seval];by_cases hlt:i<v.pairs.length
 ·obtain⟨x,hi⟩:∃x,v.pairs[i]? = some x:=⟨v.pairs[i],QVO hlt⟩;obtain⟨y,hj⟩:∃y,w.pairs[i]? = some y:=⟨w.pairs[i]'(by omega),QVO (by omega)⟩;have hg:=Z0 hi;have hg2:=Z0 hj;have e1:=Qm i _ hlt hn;obtain⟨c1,c2⟩:=hx x (QV0 hi) y (QV0 hj);rw[Qw x.1,Qw y.1]at c1;rw[Qw x.2,Qw y.2]at c2;simp only[Ql hlt,Qh,QXe,Qc,hg,hg2,h2,h3,h6,m2,m3,eE,seval];refine Qb c1 rfl rfl rfl (.inl rfl) ?_;by_cases hxy:x.1=y.1
  case neg=>
   have s1:=JQ hxy;simp only[s1,Qa,seval];exact qr _ (by rfl) (Wk hi hj fun e=>hxy (by rw[e]))
  have s1:=B8 hxy;simp only[s1,Qh,QXe,Qc,hg,hg2,h2,h3,h6,m2,m3,eE,seval];refine Qb c2 rfl rfl rfl (.inl rfl) ?_;by_cases hxz:x.2=y.2
  ·have s2:=B8 hxz;have e:x=y:=Prod.ext hxy hxz;subst e;simp only[s2,h6,e1,Qa,seval];exact⟨v.pairs.length-(i+1),by omega,_,i+1,rfl,rfl,WV ht hi hj,(by exact h2),(by exact h3),(by rfl)⟩
  ·have s2:=JQ hxz;simp only[s2,Qa,seval];exact qr _ (by rfl) (Wk hi hj fun e=>hxz (by rw[e]))
 ·rw[QWl (by omega),QWl (by omega)]at ht;simp only[Qy hlt,Qa,seval];exact q _ (by exact h2) (by exact h3) ht

theorem RZ (hl:v.slots.length=w.slots.length)(hn:v.slots.length≤maxLen)(hx:∀x∈v.slots,∀y∈w.slots,Qj Tryz.prog 36 [x.2.av,y.2.av] (.bool (sm x.2 y.2)))(h7:f 7=.int .i64 0)
  (q:∀f,f 2=.ptr 0 2 0→f 3=.ptr 0 3 0→v.slots=w.slots→Q (.exit 4) (⟨f,[fr],[]⟩:St)) (qr:∀f,f 4=.bool false→v.slots≠w.slots→Q .ret (⟨f,[fr],[]⟩:St)) :
  QH Tryz.prog (.loop Sh) ⟨f,[fr],[]⟩ Q:=by
 let I:Nat→St→Prop:=fun k st=>∃f i,st=⟨f,[fr],[]⟩∧k=v.slots.length-i∧v.slots.take i=w.slots.take i∧f 2=.ptr 0 2 0∧f 3=.ptr 0 3 0∧f 7=.int .i64 (i:Nat)
 refine Qd I _ ⟨f,0,rfl,rfl,rfl,h2,h3,h7⟩ ?_;clear h2 h3 h7;rintro _ st ⟨f,i,rfl,rfl,ht,h2,h3,h7⟩;have m2:=m2';have m3:=m3';simp only[XV]at m2 m3;simp only[QWI,h2,h7,m2,eE,seval];by_cases hlt:i<v.slots.length
 ·obtain⟨x,hi⟩:∃x,v.slots[i]? = some x:=⟨v.slots[i],QVO hlt⟩;obtain⟨y,hj⟩:∃y,w.slots[i]? = some y:=⟨w.slots[i]'(by omega),QVO (by omega)⟩;have hg:=JA hi;have hg2:=JA hj;have e1:=Qm i _ hlt hn;have c1:=hx x (QV0 hi) y (QV0 hj);rw[Qw x.2,Qw y.2]at c1;by_cases hxy:x.1=y.1
  case neg=>
   have d1:(x.1 != y.1)=true:=by simp[hxy]
   simp only[Ql hlt,Qh,QXe,Qc,hg,hg2,d1,h2,h3,h7,m2,m3,eE,seval];exact qr _ (by rfl) (Wk hi hj fun e=>hxy (by rw[e]))
  have d1:(x.1 != y.1)=false:=by simp[hxy]
  simp only[Ql hlt,Qh,QXe,Qc,hg,hg2,d1,h2,h3,h7,m2,m3,eE,seval];refine Qb c1 rfl rfl rfl (.inl rfl) ?_;by_cases hxz:x.2=y.2
  ·have s2:=B8 hxz;have e:x=y:=Prod.ext hxy hxz;subst e;simp only[s2,h7,e1,Qa,seval];exact⟨v.slots.length-(i+1),by omega,_,i+1,rfl,rfl,WV ht hi hj,(by exact h2),(by exact h3),(by rfl)⟩
  ·have s2:=JQ hxz;simp only[s2,Qa,seval];exact qr _ (by rfl) (Wk hi hj fun e=>hxz (by rw[e]))
 ·rw[QWl (by omega),QWl (by omega)]at ht;simp only[Qy hlt,Qa,seval];exact q _ (by exact h2) (by exact h3) ht

theorem Qaf (hl:v.raws.length=w.raws.length)(hn:v.raws.length≤maxLen)(h8:f 8=.int .i64 0)
  (q:∀f,f 2=.ptr 0 2 0→f 3=.ptr 0 3 0→v.raws=w.raws→Q (.exit 6) (⟨f,[fr],[]⟩:St)) (qr:∀f,f 4=.bool false→v.raws≠w.raws→Q .ret (⟨f,[fr],[]⟩:St)) :
  QH Tryz.prog (.loop Si) ⟨f,[fr],[]⟩ Q:=by
 let I:Nat→St→Prop:=fun k st=>∃f i,st=⟨f,[fr],[]⟩∧k=v.raws.length-i∧v.raws.take i=w.raws.take i∧f 2=.ptr 0 2 0∧f 3=.ptr 0 3 0∧f 8=.int .i64 (i:Nat)
 refine Qd I _ ⟨f,0,rfl,rfl,rfl,h2,h3,h8⟩ ?_;clear h2 h3 h8;rintro _ st ⟨f,i,rfl,rfl,ht,h2,h3,h8⟩;have m2:=m2';have m3:=m3';simp only[XV]at m2 m3;simp only[QWI,h2,h8,m2,eE,seval];by_cases hlt:i<v.raws.length
 ·obtain⟨x,hi⟩:∃x,v.raws[i]? = some x:=⟨v.raws[i],QVO hlt⟩;obtain⟨y,hj⟩:∃y,w.raws[i]? = some y:=⟨w.raws[i]'(by omega),QVO (by omega)⟩;have hg:=Us hi;have hg2:=Us hj;have e1:=Qm i _ hlt hn;by_cases hxy:x=y
  ·subst hxy;simp only[Ql hlt,Qh,QXe,Qc,hg,hg2,QWW,h2,h3,h8,m2,m3,e1,eE,seval];exact⟨v.raws.length-(i+1),by omega,_,i+1,rfl,rfl,WV ht hi hj,(by exact h2),(by exact h3),(by rfl)⟩
  ·have d1:(x.num==y.num&&(x.wire==y.wire&&(((x.bits:Nat):Int)==((y.bits:Nat):Int)&&x.data==y.data)))=false:=by
    rw[QXA];intro e;simp only[QWb,QVT]at e;obtain⟨e1,e2,e3,e4⟩:=e;refine hxy ?_;cases x;cases y;simp only at e1 e2 e3 e4;have e5:=Int.ofNat_inj.1 e3;subst e1 e2 e5 e4;rfl
   have d2:=congrArg (fun b=>!b) d1;simp only[QWU]at d2;simp only[Ql hlt,Qh,QXe,Qc,hg,hg2,d1,QW0,h2,h3,h8,m2,m3,eE,seval];exact qr _ (by rfl) (Wk hi hj hxy)
 ·rw[QWl (by omega),QWl (by omega)]at ht;simp only[Qy hlt,Qa,seval];exact q _ (by exact h2) (by exact h3) ht

end

theorem V.ext7 {v w:V}(h1:v.kd=w.kd)(h2:v.bits=w.bits)(h3:v.text=w.text)(h4:v.list=w.list)(h5:v.pairs=w.pairs)(h6:v.slots=w.slots)(h7:v.raws=w.raws):v=w:=by
 cases v;cases w;simp only[V.kd,V.bits,V.text,V.list,V.pairs,V.slots,V.raws]at h1 h2 h3 h4 h5 h6 h7;subst h1 h2 h3 h4 h5 h6 h7;rfl

theorem u36 {M:Nat}:∀v:V,v.ok M→∀w:V,w.ok M→Qj Tryz.prog 36 [v.av,w.av] (.bool (sm v w)):=by
 refine V.ind (P:=fun v=>v.ok M→∀w:V,w.ok M→Qj Tryz.prog 36 [v.av,w.av] (.bool (sm v w))) ?_;intro v hl hp hs hv w hw;have n1:=hv.nl;have n2:=hv.np;have n3:=hv.ns;have n4:=hv.nr;rw[show v.av=.agg (XV v)from Qw v,show w.av=.agg (XV w)from Qw w];by_cases a1:v.kd=w.kd
 case neg=>
  have d1:(v.kd != w.kd)=true:=by simp[a1]
  have s1:sm v w=false:=JQ fun e=>a1 (by rw[e])
  rw[s1];refine DR.fn (by simp) ?_;simp only[XV,d1,eE,seval]
 have d1:(v.kd != w.kd)=false:=by simp[a1]
 by_cases a2:v.bits=w.bits
 case neg=>
  have d2:((v.bits:Int) != (w.bits:Int))=true:=by rw[QWd];omega
  have s1:sm v w=false:=JQ fun e=>a2 (by rw[e])
  rw[s1];refine DR.fn (by simp) ?_;simp only[XV,d1,d2,eE,seval]
 have d2:((v.bits:Int) != (w.bits:Int))=false:=by rw[bne_eq_false_iff_eq];omega
 by_cases a3:v.text=w.text
 case neg=>
  have d3:(v.text==w.text)=false:=by simp[a3]
  have s1:sm v w=false:=JQ fun e=>a3 (by rw[e])
  rw[s1];refine DR.fn (by simp) ?_;simp only[XV,d1,d2,d3,QL,eE,seval]
 have d3:(v.text==w.text)=true:=by simp[a3]
 by_cases a4:v.list.length=w.list.length
 case neg=>
  have d4:((v.list.length:Int) != (w.list.length:Int))=true:=by rw[QWd];omega
  have s1:sm v w=false:=JQ fun e=>a4 (by rw[e])
  rw[s1];refine DR.fn (by simp) ?_;simp only[XV,d1,d2,d3,d4,QL,QWI,eE,seval]
 have d4:((v.list.length:Int) != (w.list.length:Int))=false:=by rw[bne_eq_false_iff_eq];omega
 by_cases a5:v.pairs.length=w.pairs.length
 case neg=>
  have d5:((v.pairs.length:Int) != (w.pairs.length:Int))=true:=by rw[QWd];omega
  have s1:sm v w=false:=JQ fun e=>a5 (by rw[e])
  rw[s1];refine DR.fn (by simp) ?_;simp only[XV,d1,d2,d3,d4,d5,QL,QWI,eE,seval]
 have d5:((v.pairs.length:Int) != (w.pairs.length:Int))=false:=by rw[bne_eq_false_iff_eq];omega
 by_cases a6:v.slots.length=w.slots.length
 case neg=>
  have d6:((v.slots.length:Int) != (w.slots.length:Int))=true:=by rw[QWd];omega
  have s1:sm v w=false:=JQ fun e=>a6 (by rw[e])
  rw[s1];refine DR.fn (by simp) ?_;simp only[XV,d1,d2,d3,d4,d5,d6,QL,QWI,eE,seval]
 have d6:((v.slots.length:Int) != (w.slots.length:Int))=false:=by rw[bne_eq_false_iff_eq];omega
 by_cases a7:v.raws.length=w.raws.length
 case neg=>
  have d7:((v.raws.length:Int) != (w.raws.length:Int))=true:=by rw[QWd];omega
  have s1:sm v w=false:=JQ fun e=>a7 (by rw[e])
  rw[s1];refine DR.fn (by simp) ?_;simp only[XV,d1,d2,d3,d4,d5,d6,d7,QL,QWI,eE,seval]
 have d7:((v.raws.length:Int) != (w.raws.length:Int))=false:=by rw[bne_eq_false_iff_eq];omega
 generalize hr:sm v w=r;refine DR.fn (by simp) ?_;simp only[XV,d1,d2,d3,d4,d5,d6,d7,QL,QWI,eE,seval];refine Qae v w _ (by rfl) (by rfl) _ (by rfl) (by rfl) _ a4 (by simp only[maxLen];omega) (fun x hx y hy=>hl x hx (hv.list x hx) y (hw.list y hy)) (by rfl) (fun f h2 h3 b1=>?_) (fun f h4 b1=>?_)
 case refine_2=>
  rw[JQ fun e=>b1 (by rw[e])]at hr;subst hr;simp only[h4,Qa,seval]
 simp only[Qa,seval];refine RY v w _ (by rfl) (by rfl) _ (by exact h2) (by exact h3) _ a5 (by simp only[maxLen];omega) (fun x hx y hy=>⟨(hp x hx).1 (hv.keys x hx) y.1 (hw.keys y hy),(hp x hx).2 (hv.vals x hx) y.2 (hw.vals y hy)⟩) (by rfl) (fun f h2 h3 b2=>?_) (fun f h4 b2=>?_)
 case refine_2=>
  rw[JQ fun e=>b2 (by rw[e])]at hr;subst hr;simp only[h4,Qa,seval]
 simp only[Qa,seval];refine RZ v w _ (by rfl) (by rfl) _ (by exact h2) (by exact h3) _ a6 (by simp only[maxLen];omega) (fun x hx y hy=>hs x hx (hv.slots x hx) y.2 (hw.slots y hy)) (by rfl) (fun f h2 h3 b3=>?_) (fun f h4 b3=>?_)
 case refine_2=>
  rw[JQ fun e=>b3 (by rw[e])]at hr;subst hr;simp only[h4,Qa,seval]
 simp only[Qa,seval];refine Qaf v w _ (by rfl) (by rfl) _ (by exact h2) (by exact h3) _ a7 (by simp only[maxLen];omega) (by rfl) (fun f h2 h3 b4=>?_) (fun f h4 b4=>?_)
 case refine_2=>
  rw[JQ fun e=>b4 (by rw[e])]at hr;subst hr;simp only[h4,Qa,seval]
 rw[B8 (V.ext7 a1 a2 a3 b1 b2 b3 b4)]at hr;subst hr;simp only[Qa,seval]

open Vp Cp

theorem Qag {P:PL}(hU:Yd P)(hr:Ke P){n:Nat}{g:PG}(hg:g∈P.progs){v:V}(h:XK P (n+1) g v=0)(e:v=Xb P (n+1) g v):∀s∈v.slots,Wd P (XK P n) g s:=by
 have:=B0 hU hr hg h
 rwa [←e]at this

section
variable {M:Nat}(hM:M≤140737488351232)(P:PL)(hP:P.ok M)

include hP in
theorem Qxy (hk:ck P=0)(t:Int)(v:V)(hv:v.ok M)(hc:v.cnt≤1048576)(hf:Ju P t v=0)(s:Int×V)(hs:s∈v.slots)(hw:Wd P (XK P 15) (QW P t) s):Qj Tryz.prog 20 [P.av,.int .i64 t,V.sav s] (.list ((JZ (Za P 15) (QW P t) s).map R.av)):=by
 obtain⟨ht,hm⟩:=Jv hf;exact u20 (Jl hk) hP (fun t v ht hm=>Wj (Jl hk) (JP hk) 15 t v ht hm) (u16 hP (Jl hk) (JP hk) (Cv hP (Uz hk)) (Uz hk) 15) t (QW P t) (G5 ht) ht.1 s (hv.slots s hs) (QVM (JN hs) hc) hw

noncomputable def T9 (P:PL)(t:Int)(v:V):Bool:=Ju P t v==0&&sm v (Xb P 16 (QW P t) v)

include hM hP in
theorem u17 (hk:ck P=0)(t:Int)(v:V)(hv:v.ok M)(hc:v.cnt≤1048576):Qj Tryz.prog 17 [P.av,.int .i64 t,v.av] (.bool (T9 P t v)):=by
 have e0:P.av=.agg [.list (P.progs.map Qn),.list (P.enums.map Qr)]:=rfl;have cx:=v14 hP hM (Jl hk) t v hv;have cn:=fun(hf:Ju P t v=0)=>v35 (M:=M) (Jl hk) (JP hk) (Uz hk) 16 t (QW P t) (G5 (Jv hf).1) (Jv hf).1.1 v hv hc (YH _ _ _ (Jv hf).2)
 have cs:=u36 v hv (Xb P 16 (QW P t) v) (G0 (Cv hP (Uz hk)) 16 t v hv);unfold T9;generalize Xb P 16 (QW P t) v=w at cn cs ⊢;rw[e0,Qw v]at cx;rw[e0,Qw v,Qw w]at cn;rw[Qw v,Qw w]at cs;rw[Qw v];refine k17.fn (by simp) ?_;simp only[e0,eE,seval];refine Qb cx rfl rfl rfl (.inl rfl) ?_;by_cases hf:Ju P t v=0
 ·have b0:(Ju P t v==0)=true:=by simp[hf]
  simp only[b0,QXo,eE,seval];refine Qb (cn hf) rfl rfl rfl (.inl rfl) ?_;simp only[Qa,seval];refine Qb cs rfl rfl rfl (.inl rfl) ?_;simp only[Qa,seval]
 ·have b0:(Ju P t v==0)=false:=by simp[hf]
  simp only[b0,QXh,Qa,seval]

end
end Go.Proofs.YtipjfckmopekaaaGreatDoor.Va

namespace Go.Proofs.YtipjfckmopekaaaGreatDoor.Cl
open Go Am Rc Bt

theorem UA {sz:Nat}(h0:sz≠0){xs:List AV}(h:xs.all (fun e=>e.cells.length==sz)=true)(hf:QN xs=[]):xs=[]:=by
 cases xs with
 |nil=>rfl
 |cons x xs=>
  have hl:x.cells.length=sz:=by simpa using QVZ.1 h x (by simp)
  have:x.cells=[]:=(List.append_eq_nil_iff.1 hf).1;rw[this]at hl;exact absurd hl.symm h0

def UB (sz:Nat)(args:List AV)(m:Qq):Option (AV×Qq) :=
 match args,m with
 | [.list xs],fr :: m=>bif xs.all (fun e=>e.cells.length==sz)&&Nat.ble xs.length 1000000&&Qv (fr 1000)then some (.vec 0 1000 (Xr (fr 1000)) 0 xs.length false,QJ fr 1000 (.vec (Xr (fr 1000)) sz xs) :: m)else none
 |_,_=>none

theorem UC {P:Program}{k sz:Nat}(hk:∀(xs:List AV) (fr:Nat→Ob) (m:Qq),xs.all (fun e=>e.cells.length==sz)=true→xs.length≤1000000→Qv (fr 1000)=true→
  Qi P k [.list xs] (fr :: m) (fun x m1=>x=.vec 0 1000 (Xr (fr 1000)) 0 xs.length false∧m1=QJ fr 1000 (.vec (Xr (fr 1000)) sz xs) :: m)) {args:List AV} {m m':Qq} {v:AV} (h:UB sz args m=some (v,m')):Qi P k args m fun x m1=>x=v∧m1=m':=by
 unfold UB at h;split at h
 ·rename_i xs fr m0;cases hb:(xs.all (fun e=>e.cells.length==sz)&&Nat.ble xs.length 1000000&&Qv (fr 1000))with
  |false=>rw[hb]at h;cases h
  |true=>
   rw[hb]at h;simp only[cond_true,QWc,Prod.mk.injEq]at h;simp only[QWb]at hb;obtain⟨rfl,rfl⟩:=h;exact hk xs fr m0 hb.1.1 (QXf hb.1.2) hb.2
 ·cases h

theorem c96 (xs:List AV)(fr:Nat→Ob)(m:Qq)(h:xs.all (fun e=>e.cells.length==4)=true)(hn:xs.length≤1000000)(hr:Qv (fr 1000)=true) :
  Qi Tryz.prog 96 [.list xs] (fr :: m) (fun x m1=>x=.vec 0 1000 (Xr (fr 1000)) 0 xs.length false∧m1=QJ fr 1000 (.vec (Xr (fr 1000)) 4 xs) :: m):=by
 have hng:QD (fr :: m) 0 1000=Xr (fr 1000):=JU;refine k96.go (by simp) ?_;simp only[R9,VH,VI,Qa,seval];refine Jp (ys:=xs) (by simp only[Qa,seval]) ?_ ?_
 ·simp only[VK,Qa,seval];refine ZL rfl ?_;simp only[Qa,seval];refine QI (site:=5) (g:=1) (xs:=[]) (ys:=xs) rfl rfl rfl rfl rfl h (by simp[maxLen];omega) (by simp;omega) ?_;simp only[Qa,seval];refine X0 (l:=0) (site:=5) (g:=2) (o:=0) (n:=xs.length) (q:=false) (sz:=4) (xs:=xs) (by simp only[QWt,Qa,seval]) (by simp only[Qa,seval]) (by simp) (by decide) hr ?_;simp only[hng,NK,eE,seval]
  try simp[AV.still,AV.un,X8,Xq]
 ·intro he;have hx:xs=[]:=by
   rcases he with he|he
   ·exact he
   ·exact UA (by decide) h he
  subst hx;simp only[VJ,Qa,seval];refine XL (by simp only[Qa,seval]) rfl ?_;simp only[Qa,seval];refine X0 (l:=0) (site:=2) (g:=1) (o:=0) (n:=0) (q:=false) (sz:=4) (xs:=[]) (by simp only[Qa,seval]) (by simp only[Qa,seval]) (by simp) (by decide) hr ?_;simp only[hng,NK,eE,seval]
  try simp[AV.still,AV.un,X8,Xq]

theorem QRv (xs:List AV)(fr:Nat→Ob)(m:Qq)(h:xs.all (fun e=>e.cells.length==8)=true)(hn:xs.length≤1000000)(hr:Qv (fr 1000)=true) :
  Qi Tryz.prog 181 [.list xs] (fr :: m) (fun x m1=>x=.vec 0 1000 (Xr (fr 1000)) 0 xs.length false∧m1=QJ fr 1000 (.vec (Xr (fr 1000)) 8 xs) :: m):=by
 have hng:QD (fr :: m) 0 1000=Xr (fr 1000):=JU;refine P4.go (by simp) ?_;simp only[VM,FZ,F0,Qa,seval];refine Jp (ys:=xs) (by simp only[Qa,seval]) ?_ ?_
 ·simp only[F2,Qa,seval];refine ZL rfl ?_;simp only[Qa,seval];refine QI (site:=5) (g:=1) (xs:=[]) (ys:=xs) rfl rfl rfl rfl rfl h (by simp[maxLen];omega) (by simp;omega) ?_;simp only[Qa,seval];refine X0 (l:=0) (site:=5) (g:=2) (o:=0) (n:=xs.length) (q:=false) (sz:=8) (xs:=xs) (by simp only[QWt,Qa,seval]) (by simp only[Qa,seval]) (by simp) (by decide) hr ?_;simp only[hng,Dd,eE,seval]
  try simp[AV.still,AV.un,X8,Xq]
 ·intro he;have hx:xs=[]:=by
   rcases he with he|he
   ·exact he
   ·exact UA (by decide) h he
  subst hx;simp only[F1,Qa,seval];refine XL (by simp only[Qa,seval]) rfl ?_;simp only[Qa,seval];refine X0 (l:=0) (site:=2) (g:=1) (o:=0) (n:=0) (q:=false) (sz:=8) (xs:=[]) (by simp only[Qa,seval]) (by simp only[Qa,seval]) (by simp) (by decide) hr ?_;simp only[hng,Dd,eE,seval]
  try simp[AV.still,AV.un,X8,Xq]

theorem QRw (xs:List AV)(fr:Nat→Ob)(m:Qq)(h:xs.all (fun e=>e.cells.length==7)=true)(hn:xs.length≤1000000)(hr:Qv (fr 1000)=true) :
  Qi Tryz.prog 180 [.list xs] (fr :: m) (fun x m1=>x=.vec 0 1000 (Xr (fr 1000)) 0 xs.length false∧m1=QJ fr 1000 (.vec (Xr (fr 1000)) 7 xs) :: m):=by
 have hng:QD (fr :: m) 0 1000=Xr (fr 1000):=JU;refine Qgn.go (by simp) ?_;simp only[P3,Mq,Mr,Qa,seval];refine Jp (ys:=xs) (by simp only[Qa,seval]) ?_ ?_
 ·simp only[Mt,Qa,seval];refine ZL rfl ?_;simp only[Qa,seval];refine QI (site:=5) (g:=1) (xs:=[]) (ys:=xs) rfl rfl rfl rfl rfl h (by simp[maxLen];omega) (by simp;omega) ?_;simp only[Qa,seval];refine X0 (l:=0) (site:=5) (g:=2) (o:=0) (n:=xs.length) (q:=false) (sz:=7) (xs:=xs) (by simp only[QWt,Qa,seval]) (by simp only[Qa,seval]) (by simp) (by decide) hr ?_;simp only[hng,VL,eE,seval]
  try simp[AV.still,AV.un,X8,Xq]
 ·intro he;have hx:xs=[]:=by
   rcases he with he|he
   ·exact he
   ·exact UA (by decide) h he
  subst hx;simp only[Ms,Qa,seval];refine XL (by simp only[Qa,seval]) rfl ?_;simp only[Qa,seval];refine X0 (l:=0) (site:=2) (g:=1) (o:=0) (n:=0) (q:=false) (sz:=7) (xs:=[]) (by simp only[Qa,seval]) (by simp only[Qa,seval]) (by simp) (by decide) hr ?_;simp only[hng,VL,eE,seval]
  try simp[AV.still,AV.un,X8,Xq]

end Go.Proofs.YtipjfckmopekaaaGreatDoor.Cl

namespace Go.Proofs.YtipjfckmopekaaaGreatDoor.Ew
open Go Am Rc Cl

def nat:KV:=fun k args m=>
 if k=96 then UB 4 args m
 else if k=181 then UB 8 args m
 else if k=180 then UB 7 args m
 else none

theorem nat_ok:K7 Tryz.prog nat:=by
 intro k args m v m' h;unfold nat at h;split at h
 ·rename_i e;subst e;exact UC c96 h
 split at h
 ·rename_i e;subst e;exact UC QRv h
 split at h
 ·rename_i e;subst e;exact UC QRw h
 ·cases h

theorem PM:evT nat Ev.tab 3000 9 []=true:=by decide +kernel

theorem YR:Qj Tryz.prog 9 [] (.bool true):=VG nat_ok Ev.QvD PM

end Go.Proofs.YtipjfckmopekaaaGreatDoor.Ew

namespace Go.Proofs.YtipjfckmopekaaaGreatDoor.Va
open Go Am Rc Bt Br Up So Vp Cp

theorem QIk {p:Prop}{b:Bool}(h:b=true→p):Hk p (.bool b):=⟨b,rfl,h⟩

section
variable {M:Nat}(P:PL)(hP:P.ok M)(hM:M≤140737488351232)(s:List UInt8)(v:V)(hv:v.ok M)

include hP hM in
theorem n7:WH Tryz.prog 7 [P.av] (Hk (DB P∧ck P=0)):=by
 have e0:P.av=.agg [.list (P.progs.map Qn),.list (P.enums.map Qr)]:=rfl;have c1:=n21 hM P hP;have c2:=z22 P hP hM;rw[e0]at c1 c2 ⊢;refine k7.rl (by simp) ?_;simp only[eE,seval];refine Zq (R:=Hk (DB P)) c1 rfl rfl (fun _ h=>h.rf) ?_;rintro _ ⟨b,rfl,hb⟩;cases b
 ·simp only[G4,Qa,seval]
 simp only[eE,seval];refine Qb c2 rfl rfl rfl (.inl rfl) ?_;simp only[Qa,seval];exact QIk fun h=>⟨hb rfl,by simpa using h⟩

end
end Go.Proofs.YtipjfckmopekaaaGreatDoor.Va

namespace Go.Proofs.YtipjfckmopekaaaGreatDoor.Va
open Go Am Rc Bt Br Up

def G6 (l:List R):List AV:=l.map R.av
theorem Qah (a:List R):(G6 a).length=a.length:=by simp[G6]

def QIl (l:List R)(k:Nat)(st:St):Prop :=
 ∃f i,st=⟨f,[Qe],[]⟩∧k=l.length-i∧i≤l.length∧f 0=.list (G6 l)∧f 1=.list (G6 l)∧f 5=.int .i64 (i:Nat)

theorem z18 (l:List R)(hn:l.length<9223372036854775807):Qj Tryz.prog 18 [.list (G6 l),.list (G6 l)] (.bool true):=by
 refine k18.fn (by simp) ?_;simp only[bne_self_eq_false,Qa,seval];refine Qd (QIl l) _ ⟨_,0,rfl,rfl,QVV _,rfl,rfl,rfl⟩ ?_;rintro n st ⟨f,i,rfl,rfl,hi,h0,h1,h5⟩;simp only[h0,h5,Qah,Qa,seval];by_cases hlt:i<l.length
 ·obtain⟨fd,hfd⟩:∃fd,l[i]? = some fd:=⟨l[i],QVO hlt⟩;have hfa:(G6 l)[i]? = some fd.av:=by simp[G6,hfd]
  have e1:=Qm i _ hlt (by simp only[maxLen];omega);simp only[Ql hlt,Qh,e1,QXe,Qc,hfa,R.av,QWW,h0,h1,h5,eE,seval];exact⟨l.length-(i+1),by omega,_,i+1,rfl,rfl,by omega,(by exact h0),(by exact h1),(by rfl)⟩
 ·simp only[Qy hlt,Qa,seval]

open So Vp Cp

section
variable {M:Nat}(P:PL)(hP:P.ok M)(hM:M≤140737488351232)(s:List UInt8)(t:Int)(v:V)(hv:v.ok M)

def QRx (P:PL)(t:Int)(v:V)(k:Nat)(st:St):Prop :=
 ∃f fr i,st=⟨f,[fr],[]⟩∧k=v.slots.length-i∧f 1=.int .i64 t∧f 3=.ptr 0 3 0∧f 5=.ptr 0 5 0∧f 7=.int .i64 (i:Nat)∧fr 3=.cells [.list (P.progs.map Qn),.list (P.enums.map Qr)]∧fr 5=.cells (XV v)

include hP hM hv in
theorem c5:Qj Tryz.prog 5 [P.av,.int .i64 t,v.av] (.bool true):=by
 have e0:P.av=.agg [.list (P.progs.map Qn),.list (P.enums.map Qr)]:=rfl;have c1:=n7 P hP hM;have c2:=n8 v hv 500 (by decide) (by decide);have c3:=fun(hg:DB P∧ck P=0) (hc:v.cnt≤1048576)=>u17 hM P hP hg.2 t v hv hc
 rw[e0]at c1;rw[e0,Qw v]at c3;rw[Qw v]at c2;rw[e0,Qw v];refine k5.fn (by simp) ?_;simp only[eE,seval];refine Zq (R:=Hk (DB P∧ck P=0)) c1 rfl rfl (fun _ h=>h.rf) ?_;rintro _ ⟨b,rfl,hg⟩;cases b
 ·simp only[Qa,seval];refine Qb Ew.YR rfl rfl rfl (.inl rfl) ?_;simp only[Qa,seval]
 replace hg:=hg rfl;simp only[eE,seval];refine Zq (R:=Hk ((v.cnt:Int)≤500)) c2 rfl rfl (fun _ h=>h.rf) ?_;rintro _ ⟨b,rfl,hc⟩;cases b
 ·simp only[Qa,seval];refine Qb Ew.YR rfl rfl rfl (.inl rfl) ?_;simp only[Qa,seval]
 replace hc:=hc rfl;have hc':v.cnt≤1048576:=by omega
 simp only[eE,seval];refine Qb (c3 hg hc') rfl rfl rfl (.inl rfl) ?_;cases hn:T9 P t v
 ·simp only[Qa,seval];refine Qb Ew.YR rfl rfl rfl (.inl rfl) ?_;simp only[Qa,seval]
 unfold T9 at hn;simp only[QWb,QVT,B7]at hn;obtain⟨hf,hn⟩:=hn;obtain⟨ht,hm⟩:=Jv hf;have hgm:QW P t∈P.progs:=QV0 (G5 ht);have hw:=Qag (Jl hg.2) (JP hg.2) hgm hm hn;have ls:=JY v;simp only[Qa,seval];refine Qd (QRx P t v) _ ⟨_,_,0,rfl,rfl,(by rfl),(by rfl),(by rfl),(by rfl),(by rfl),(by rfl)⟩ ?_;rintro _ st ⟨f,fr,i,rfl,rfl,h1,h3,h5,h7,m3,m5'⟩;have m5:=m5';simp only[XV]at m5;simp only[QWI,h5,h7,m5,eE,seval];by_cases hlt:i<v.slots.length
 ·obtain⟨x,hi⟩:∃x,v.slots[i]? = some x:=⟨v.slots[i],QVO hlt⟩;have hx:=QV0 hi;have hgs:=JA hi;have e1:=Qm i _ hlt (by simp only[maxLen];omega);have a1:=t19 hM P hP hg.1 hg.2 t v hv hc' hf x hx;have a2:=Qxy P hP hg.2 t v hv hc' hf x hx (hw x hx);have hlen:(JZ (Za P 15) (QW P t) x).length<9223372036854775807:=by
   obtain⟨o,ho,hfo,_⟩:=hw x hx;have hrw:=Vg (m:=XK P 15) (bd:=Za P 15) (fun t v ht hm=>Wj (Jl hg.2) (JP hg.2) 15 t v ht hm) (Jl hg.2 _ hgm o (Zo ho).1) hfo;have:=Yk (Yj (Za P 15) o x.2);have:=JN hx;unfold JZ;rw[ho];show(Yj (Za P 15) o x.2).length<_;omega
  generalize JZ (Za P 15) (QW P t) x=z at a1 a2 hlen;have a3:=z18 z hlen;simp only[G6]at a3;rw[e0,Zm x]at a1 a2;simp only[Ql hlt,Qh,QXe,Qc,hgs,h1,h3,h5,h7,m3,m5,eE,seval];refine Qb a1 rfl rfl rfl (.inl rfl) ?_;simp only[Qh,QXe,Qc,hgs,h1,h3,h5,h7,m3,m5,eE,seval];refine Qb a2 rfl rfl rfl (.inl rfl) ?_;refine Qb a3 rfl rfl rfl (.inl rfl) ?_;simp only[h7,e1,Qa,seval];exact⟨v.slots.length-(i+1),by omega,_,_,i+1,rfl,rfl,(by exact h1),(by exact h3),(by exact h5),(by rfl),(by exact m3),(by exact m5')⟩
 ·simp only[Qy hlt,Qa,seval];refine Qb Ew.YR rfl rfl rfl (.inl rfl) ?_;simp only[Qa,seval]

end
end Go.Proofs.YtipjfckmopekaaaGreatDoor.Va

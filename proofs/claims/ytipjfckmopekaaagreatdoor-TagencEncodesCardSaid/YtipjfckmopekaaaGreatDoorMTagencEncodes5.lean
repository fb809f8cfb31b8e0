/- Parts of the proof, in order. -/
import Derived.Test.YtipjfckmopekaaaGreatDoorMTagencEncodes4

set_option linter.unusedSimpArgs false
namespace Go.Proofs.YtipjfckmopekaaaGreatDoor.Va
open Go Am Rc Bt Vp Cp Up

def body (f:R):List UInt8:=if f.wire=2 then fx 8 f.bits else if ZP f.wire then Vp.put f.bits else Vp.put f.data.length++f.data
def Yt (f:R):List UInt8:=if valid f then(X6 f.num f.wire).1++body f else []
def QZ (l:List R):List UInt8:=l.flatMap Yt

theorem Bld.drop {fr:Nat→Ob}{bs:List UInt8}(h:Bld fr bs):Bld (QK (fun i=>(fr i).scrub 5) 5 .none) bs:=by
 obtain⟨p,g,h1,h2,h3⟩:=h.cell;refine⟨p,g,?_,?_,h3⟩
 ·rw[QS _ _ (by decide),h1];rcases h3 with rfl|rfl<;>rfl
 ·rw[QS _ _ (by decide),h2];rfl

theorem Bld.put {fr:Nat→Ob}{bs:List UInt8}(h:Bld fr bs)(o:Ob):Bld (QK fr 5 o) bs:=by
 obtain⟨p,g,h1,h2,h3⟩:=h.cell;exact⟨p,g,by rw[QS _ _ (by decide)];exact h1,by rw[QS _ _ (by decide)];exact h2,h3⟩

def AH (l:List R)(k:Nat)(st:St):Prop :=
 ∃f fr i,st=⟨f,[fr],[]⟩∧k=l.length-i∧i≤l.length∧f 3=.ptr 0 2128 0∧f 8=.list (K7 l)∧f 9=.int .i64 (l.length:Int)∧f 10=.int .i64 (i:Nat)∧(fr 5).isRow=false∧Bld fr (QZ (l.take i))

theorem UH (l:List R)(i:Nat)(fd:R)(h:l[i]? = some fd):QZ (l.take (i+1))=QZ (l.take i)++Yt fd:=by
 obtain⟨hi,e⟩:=QXs.1 h;rw[QXM hi,e];simp[QZ]

theorem Vw (l:List R)(i:Nat)(fd:R)(h:l[i]? = some fd):(QZ (l.take i)).length+(Yt fd).length≤(QZ l).length:=by
 have e:QZ l=QZ (l.take (i+1))++QZ (l.drop (i+1)):=by
  unfold QZ;rw[←QZA,QYI]
 rw[e,UH l i fd h];simp

theorem c58 (l:List R)(hb:∀fd∈l,fd.bits<18446744073709551616∧fd.data.length<9223372036854775807)(hn:l.length<9223372036854775807)(hl:(QZ l).length≤140737488355328):Qk Tryz.prog 58 [.list (K7 l)] (.str (QZ l)):=by
 refine k58.fn (by simp) ?_;simp only[eE,seval];refine JO rfl rfl rfl rfl ?_;simp only[Vu,Qa,seval];refine Qd (AH l) _ ⟨_,_,0,rfl,rfl,QXA _,rfl,rfl,rfl,rfl,rfl,?_⟩ ?_
 ·exact⟨.nilp,1,rfl,rfl,.inl rfl⟩
 rintro n st ⟨f,fr,i,rfl,rfl,hi,h3,h8,h9,h10,m5,hB⟩;simp only[h9,h10,m5,Qa,seval];by_cases hlt:i<l.length
 ·obtain⟨fd,hfd⟩:∃fd,l[i]? = some fd:=⟨l[i],QXt hlt⟩;have hmem:=QXF hfd;obtain⟨hb1,hb2⟩:=hb fd hmem;have hfa:(K7 l)[i]? = some fd.av:=by simp[K7,hfd]
  have hps:=UH l i fd hfd;have hple:=Vw l i fd hfd;have d0:decide ((i:Int)<(l.length:Int))=true:=by simp;omega
  have n0:(0≤(i:Int))=True:=by simp
  have e1:IntKind.i64.wrap ((i:Int)+1)=((i+1:Nat):Int):=by rw[QE];omega
  -- how a round ends
  have fin:∀(f':Fr) (fr':Nat→Ob) (bs':List UInt8),f' 3=.ptr 0 2128 0→f' 8=.list (K7 l)→f' 9=.int .i64 (l.length:Int)→f' 10=.int .i64 (((i+1:Nat):Nat):Int)→(fr' 5).isRow=false→Bld fr' bs'→bs'=QZ (l.take i)++Yt fd→∃k,k<l.length-i∧AH l k ⟨f',[fr'],[]⟩:=by
   intro f' fr' bs' g1 g2 g3 g4 g5 g6 g7;exact⟨l.length-(i+1),by omega,f',fr',i+1,rfl,rfl,by omega,g1,g2,g3,g4,g5,by rw[hps,←g7];exact g6⟩
  have hB1:=(hB.drop).put (.cells [.int .i64 fd.num,.int .i64 fd.wire,.int .u64 (fd.bits:Nat),.str fd.data]);rw[Dj]at hB1;simp only[d0,n0,QYT,Qb,hfa,R.av,h8,h10,eE,seval];refine aC (QSJ fd) ?_;cases hv:valid fd with
  |false=>
   simp only[e1,h10,Qa,seval];refine fin _ _ _ ?_ ?_ ?_ ?_ ?_ hB1 ?_
   ·simp only[h3,Qa,seval]
   ·simp only[h8,Qa,seval]
   ·simp only[h9,Qa,seval]
   ·simp only[Qa,seval]
   ·simp only[Qa,seval]
   ·simp[Yt,hv]
  |true=>
   simp only[eE,seval];refine aC (Qyn fd.num fd.wire) ?_;simp only[Uy,Qa,seval];have hp:Yt fd=(X6 fd.num fd.wire).1++body fd:=by simp[Yt,hv]
   have hpl:=congrArg List.length hp;rw[QX4]at hpl;have hbl:∀x:Nat,x≤(body fd).length→(QZ (l.take i)).length+(X6 fd.num fd.wire).1.length+x≤140737488355328:=by intro x hx;omega
   have hbody:body fd=if fd.wire=2 then fx 8 fd.bits else if ZP fd.wire then Vp.put fd.bits else Vp.put fd.data.length++fd.data:=rfl
   obtain⟨g1,hw1⟩:=Nl (QZ (l.take i)) (X6 fd.num fd.wire).1 _ [] hB1 (by have:=hbl 0 (by omega);omega);refine Qj hw1 (by simp only[QXY,h3,Qa,seval]) ?_;have B2:=KW (QK (fun i=>(fr i).scrub 5) 5 (.cells [.int .i64 fd.num,.int .i64 fd.wire,.int .u64 (fd.bits:Nat),.str fd.data])) g1 (QZ (l.take i)++(X6 fd.num fd.wire).1);have w5:Kj (QK (fun i=>(fr i).scrub 5) 5 (.cells [.int .i64 fd.num,.int .i64 fd.wire,.int .u64 (fd.bits:Nat),.str fd.data])) g1 (QZ (l.take i)++(X6 fd.num fd.wire).1) 5=.cells [.int .i64 fd.num,.int .i64 fd.wire,.int .u64 (fd.bits:Nat),.str fd.data]:=by
    rw[WL (by decide) (by decide),QR]
   have hlen2:(QZ (l.take i)++(X6 fd.num fd.wire).1).length=(QZ (l.take i)).length+(X6 fd.num fd.wire).1.length:=by simp
   generalize hfr2:Kj (QK (fun i=>(fr i).scrub 5) 5 (.cells [.int .i64 fd.num,.int .i64 fd.wire,.int .u64 (fd.bits:Nat),.str fd.data])) g1 (QZ (l.take i)++(X6 fd.num fd.wire).1)=fr2 at B2 w5;simp only[w5,eE,seval];by_cases w2:fd.wire=2
   ·have dw:(fd.wire==2)=true:=by simpa using w2
    have hbo:body fd=fx 8 fd.bits:=by rw[hbody,QXV w2]
    simp only[dw,w5,eE,seval];refine aC (Qyq fd.bits) ?_;obtain⟨g2,hw2⟩:=Nl _ (fx 8 fd.bits) _ [] B2 (by rw[hlen2];exact hbl _ (by rw[hbo];exact QXq _));refine Qj hw2 (by simp only[QXY,h3,Qa,seval]) ?_;simp only[e1,h10,Qa,seval];refine fin _ _ _ ?_ ?_ ?_ ?_ ?_ (KW _ _ _) ?_
    ·simp only[h3,Qa,seval]
    ·simp only[h8,Qa,seval]
    ·simp only[h9,Qa,seval]
    ·simp only[Qa,seval]
    ·rw[WL (by decide) (by decide),w5]<;>rfl
    ·rw[hp,hbo,QXN]
   ·have dw:(fd.wire==2)=false:=by simpa using w2
    simp only[dw,w5,eE,seval];refine aC (Qym fd.wire) ?_;cases hnu:ZP fd.wire with
    |true=>
     have hbo:body fd=Vp.put fd.bits:=by rw[hbody,QXG w2,QXV hnu]
     simp only[w5,eE,seval];refine aC (CM fd.bits hb1) ?_;obtain⟨g2,hw2⟩:=Nl _ (Vp.put fd.bits) _ [] B2 (by rw[hlen2];exact hbl _ (by rw[hbo];exact QXq _));refine Qj hw2 (by simp only[QXY,h3,Qa,seval]) ?_;simp only[e1,h10,Qa,seval];refine fin _ _ _ ?_ ?_ ?_ ?_ ?_ (KW _ _ _) ?_
     ·simp only[h3,Qa,seval]
     ·simp only[h8,Qa,seval]
     ·simp only[h9,Qa,seval]
     ·simp only[Qa,seval]
     ·rw[WL (by decide) (by decide),w5]<;>rfl
     ·rw[hp,hbo,QXN]
    |false=>
     have hbo:body fd=Vp.put fd.data.length++fd.data:=by rw[hbody,QXG w2,QXG (by rw[hnu];simp)]
     have hbn:=congrArg List.length hbo;rw[QX4]at hbn;have eu:IntKind.u64.wrap (fd.data.length:Int)=(fd.data.length:Nat):=by rw[Jm];omega
     simp only[eu,w5,eE,seval];refine aC (CM fd.data.length (by omega)) ?_;obtain⟨g2,hw2⟩:=Nl _ (Vp.put fd.data.length) _ [] B2 (by rw[hlen2];exact hbl _ (by omega));refine Qj hw2 (by simp only[QXY,h3,Qa,seval]) ?_;have B3:=KW fr2 g2 (QZ (l.take i)++(X6 fd.num fd.wire).1++Vp.put fd.data.length);have w6:Kj fr2 g2 (QZ (l.take i)++(X6 fd.num fd.wire).1++Vp.put fd.data.length) 5=.cells [.int .i64 fd.num,.int .i64 fd.wire,.int .u64 (fd.bits:Nat),.str fd.data]:=by
      rw[WL (by decide) (by decide),w5]
     have hlen3:(QZ (l.take i)++(X6 fd.num fd.wire).1++Vp.put fd.data.length).length=(QZ (l.take i)).length+(X6 fd.num fd.wire).1.length+(Vp.put fd.data.length).length:=by simp;omega
     generalize hfr3:Kj fr2 g2 (QZ (l.take i)++(X6 fd.num fd.wire).1++Vp.put fd.data.length)=fr3 at B3 w6;simp only[w6,eE,seval];obtain⟨g3,hw3⟩:=Nl _ fd.data _ [] B3 (by rw[hlen3];have:=hbl (body fd).length (QXq _);omega);refine Qj hw3 (by simp only[QXY,h3,Qa,seval]) ?_;simp only[e1,h10,Qa,seval];refine fin _ _ _ ?_ ?_ ?_ ?_ ?_ (KW _ _ _) ?_
     ·simp only[h3,Qa,seval]
     ·simp only[h8,Qa,seval]
     ·simp only[h9,Qa,seval]
     ·simp only[Qa,seval]
     ·rw[WL (by decide) (by decide),w6]<;>rfl
     ·rw[hp,hbo,QXN,QXN]
 ·have d0:decide ((i:Int)<(l.length:Int))=false:=by simp;omega
  have hil:i=l.length:=by omega
  subst hil;rw[QY1]at hB;simp only[d0,Qa,seval];refine Qj (QSL (QZ l) _ [] hB.drop hl) (by simp only[QXY,h3,Qa,seval]) ?_;simp only[Qa,seval]

end Go.Proofs.YtipjfckmopekaaaGreatDoor.Va

namespace Go.Proofs.YtipjfckmopekaaaGreatDoor.Va
open Go Am Rc Bt Br Up So

def Z6 (n:Int)(x:V):R:={ Xa x.kd x.bits x.text with num:=n }
section
variable (bd:Int→V→List UInt8)
def Q5 (o:PO)(n:Int)(x:V):R:=if o.kind=10 then⟨n,4,0,bd o.target x⟩else Z6 n x
def ZQ (o:PO)(p:V×V):R:=⟨o.num,6,0,QZ [Z6 1 p.1,Q5 bd o 2 p.2]⟩
def K8 (w:Int)(b:Nat):List UInt8:=if w=2 then fx 8 b else Vp.put b
def K9 (w:Int)(x:V):List UInt8:=K8 w (Xa x.kd x.bits x.text).bits
def DE (o:PO)(l:List V):R:=⟨o.num,5,0,UInt8.ofNat (wk o.kind).toNat :: l.flatMap (K9 (wk o.kind))⟩
def UI (o:PO)(x:V):List R :=
 if o.card=5 then x.pairs.map (ZQ bd o)
 else if pk o.card o.kind=true then [DE o x.list]
 else if o.card=4 then x.list.map (Q5 bd o o.num)
 else [Q5 bd o o.num x]
def WM (g:PG)(s:Int×V):List R:=match XO g s.1 with
 |none=>[]
 |some o=>UI bd o s.2
def Xz (g:PG):List (Int×V)→List R→List R
 | [],rs=>rs
 |s :: sl,rs=>rs.takeWhile (fun r=>decide (r.num<s.1))++WM bd g s++Xz g sl (rs.dropWhile fun r=>decide (r.num<s.1))
end
def Zb (P:PL):Nat→Int→V→List UInt8
 |0,_,_=>[]
 |n+1,t,v=>QZ (Xz (Zb P n) (Q1 P t) (Xi P (n+1) (Q1 P t) v).slots (Xi P (n+1) (Q1 P t) v).raws)

theorem Qyr (n w:Int):(X6 n w).1.length≤10:=by
 unfold X6;split
 ·exact QXA _
 ·exact(Vp.put_len _).2
theorem Qys (f:R):(Yt f).length≤20+f.data.length:=by
 unfold Yt;split
 ·have h1:=Qyr f.num f.wire;have h2:(body f).length≤10+f.data.length:=by
   unfold body;split
   ·rw[G9];omega
   ·split
    ·have:=(Vp.put_len f.bits).2;omega
    ·have:=(Vp.put_len f.data.length).2;rw[QX4];omega
  rw[QX4];omega
 ·exact QXA _
def ZV (l:List R):Nat:=(l.map fun f=>20+f.data.length).sum
theorem YY:∀l:List R,(QZ l).length≤ZV l
 | []=>QXq _
 |f :: l=>by
  have h1:=Qys f;have h2:=YY l;unfold QZ ZV at h2 ⊢;rw[QYV,QX4,QXY,QZv];omega
theorem Vx (a b:List R):ZV (a++b)=ZV a+ZV b:=by
 unfold ZV;rw[QY9,List.sum_append]
theorem Vy (f:R):ZV [f]=20+f.data.length:=by simp[ZV]
theorem Vz {P:PL}{k tg:Int}{v:V}(h:v.one P k tg=0):v.text.length≤4096:=by
 unfold V.one Yd at h;split at h
 ·omega
 split at h
 ·omega
 rename_i h1 h2;simp only[QXx]at h2;omega
theorem P0 (k:Int)(b:Nat)(t:List UInt8):(Xa k b t).data.length≤t.length:=by
 unfold Xa zr
 repeat' split
 all_goals first|exact QXA _|exact QXq _
theorem Nm (n:Int)(v:V):(Z6 n v).data.length≤v.text.length:=P0 _ _ _

section
variable {P:PL}{m:PG→V→Int}{bd:Int→V→List UInt8}
variable (hbd:∀(t:Int) (v:V),(0≤t∧t<(P.progs.length:Int))→m (Q1 P t) v=0→(bd t v).length+70000≤70000*v.cnt)
include hbd
theorem DG {o:PO}(ho:UO P o){n:Int}{x:V}(h:QN m P o x=0):(Q5 bd o n x).data.length+5000≤70000*x.cnt:=by
 have hc:=KG x;unfold QN at h;unfold Q5;split
 ·rename_i hk;rw[QXV hk]at h;have:=hbd _ _ (ho.tgt hk) h;dsimp only;omega
 ·rename_i hk;rw[QXG hk]at h;have h1:=Vz h;have h2:=Nm n x;omega
theorem DH {o:PO}(ho:UO P o){p:V×V}(h1:p.1.one P o.key (-1)=0)(h2:QN m P o p.2=0):20+ZV [Z6 1 p.1,Q5 bd o 2 p.2]≤70000*(p.1.cnt+p.2.cnt):=by
 have h3:=DG hbd ho (n:=2) h2;have h4:=Vz h1;have h5:=Nm 1 p.1;have hc:=KG p.1;have e:ZV [Z6 1 p.1,Q5 bd o 2 p.2]=(20+(Z6 1 p.1).data.length)+(20+(Q5 bd o 2 p.2).data.length):=by simp[ZV]
 omega
theorem Sl {o:PO}(ho:UO P o){p:V×V}(h1:p.1.one P o.key (-1)=0)(h2:QN m P o p.2=0):20+(ZQ bd o p).data.length≤70000*(p.1.cnt+p.2.cnt):=by
 have h3:=DH hbd ho h1 h2;have h6:=YY [Z6 1 p.1,Q5 bd o 2 p.2];unfold ZQ;dsimp only;omega
omit hbd in
theorem DI (w:Int)(x:V):(K9 w x).length≤10:=by
 unfold K9 K8;split
 ·rw[G9];omega
 ·exact(Vp.put_len _).2
omit hbd in
theorem U6 (w:Int):∀l:List V,(l.flatMap (K9 w)).length≤10*l.length
 | []=>QXq _
 |x :: l=>by
  have h1:=DI w x;have h2:=U6 w l;rw[QYV,QX4,QXH];omega
theorem QaP {o:PO}(ho:UO P o){x:V}(h:Q3 m P o x=0):ZV (UI bd o x)≤70000*x.cnt:=by
 have hc:=Xk x;have hp:=KG x;unfold Q3 at h;unfold UI;by_cases h5:o.card=5
 ·rw[QXV h5]at h;rw[QXV h5];split at h
  ·omega
  have hE:=(Wp.1 h).1;have key:∀l:List (V×V),(∀p∈l,p.1.one P o.key (-1)=0∧QN m P o p.2=0)→ZV (l.map (ZQ bd o))≤70000*Xs l:=by
   intro l
   induction l with
   |nil=>intro _;exact QXA _
   |cons p l ih=>
    intro hl;have i1:=ih fun q hq=>hl q (by simp[hq])
    obtain⟨a,b⟩:=hl p (by simp);have i2:=Sl hbd ho a b;obtain⟨pa,pb⟩:=p;unfold ZV at i1 ⊢;simp only[QXY,QZv,Xs];dsimp only at i2;omega
  have:=key _ hE;omega
 ·rw[QXG h5]at h;rw[QXG h5];split
  ·have h1:=U6 (wk o.kind) x.list;have h2:=HP x.list;rw[Vy];unfold DE;simp only[QXH];omega
  ·by_cases h4:o.card=4
   ·rw[QXV h4]at h;rw[QXV h4];split at h
    ·omega
    have hL:=KE.1 h;have key:∀l:List V,(∀y∈l,QN m P o y=0)→ZV (l.map (Q5 bd o o.num))≤70000*Xd l:=by
     intro l
     induction l with
     |nil=>intro _;exact QXA _
     |cons y l ih=>
      intro hl;have i1:=ih fun q hq=>hl q (by simp[hq])
      have i2:=DG hbd ho (n:=o.num) (hl y (by simp));unfold ZV at i1 ⊢;simp only[QXY,QZv,Xd];omega
    have:=key _ hL;omega
   ·rw[QXG h4]at h;rw[QXG h4,Vy];have:=DG hbd ho (n:=o.num) h;omega
omit hbd in
theorem Nn {g:PG}{f:R}(h:JR P g f=0):f.data.length≤65536:=by
 unfold JR at h;split at h
 ·omega
 split at h
 ·omega
 split at h
 ·omega
 split at h
 ·omega
 rename_i h4;simp only[QXw,QXx,not_or]at h4;omega
theorem YZ {g:PG}:∀(sl:List (Int×V)) (rs:List R),(∀x∈sl,∃o,XO g x.1=some o∧UO P o∧Q3 m P o x.2=0)→(∀f∈rs,JR P g f=0)→ZV (Xz bd g sl rs)≤70000*(rs.length+Xh sl)
 | [],rs,_,hr=>by
  unfold Xz;have:∀l:List R,(∀f∈l,JR P g f=0)→ZV l≤70000*l.length:=by
   intro l
   induction l with
   |nil=>intro _;exact QXA _
   |cons f l ih=>
    intro hl;have i1:=ih fun q hq=>hl q (by simp[hq])
    have i2:=Nn (hl f (by simp));unfold ZV at i1 ⊢;simp only[QXY,QZv,QXH];omega
  have:=this rs hr;omega
 |s :: sl,rs,hs,hr=>by
  obtain⟨o,h1,ho,h2⟩:=hs s (by simp);have h3:=QaP hbd ho h2;have ih:=YZ sl (rs.dropWhile fun r=>decide (r.num<s.1)) (fun x hx=>hs x (by simp[hx])) (fun f hf=>hr f ((List.dropWhile_sublist _).mem hf));have h4:∀l:List R,(∀f∈l,JR P g f=0)→ZV l≤70000*l.length:=by
   intro l
   induction l with
   |nil=>intro _;exact QXA _
   |cons f l ih=>
    intro hl;have i1:=ih fun q hq=>hl q (by simp[hq])
    have i2:=Nn (hl f (by simp));unfold ZV at i1 ⊢;simp only[QXY,QZv,QXH];omega
  have h5:=h4 (rs.takeWhile fun r=>decide (r.num<s.1)) (fun f hf=>hr f ((List.takeWhile_sublist _).mem hf));have h6:(rs.takeWhile fun r=>decide (r.num<s.1)).length+(rs.dropWhile fun r=>decide (r.num<s.1)).length=rs.length:=by
   rw[←QX4,List.takeWhile_append_dropWhile]
  obtain⟨sn,sx⟩:=s;rw[Xz,Vx,Vx];unfold WM;rw[h1];simp only[Xh];dsimp only at h3 h5 h6 ih ⊢;omega
end

theorem DJ {P:PL}(hU:Yo P)(hr:KI P):∀(n:Nat) (t:Int) (v:V),(0≤t∧t<(P.progs.length:Int))→Xl P n (Q1 P t) v=0→(Zb P n t v).length+70000≤70000*v.cnt
 |0,t,v,_,h=>(U4 0 _ _ h).elim
 |n+1,t,v,ht,h=>by
  have hg:Q1 P t∈P.progs:=by
   unfold Q1;rw[QXt (by omega:t.toNat<P.progs.length)];exact QYk _
  have hf:=WH hU hr (n+1) (Q1 P t) hg v h;have hc:=Yn hr (n+1) (Q1 P t) (UC hr t) v;rw[Zb];generalize Xi P (n+1) (Q1 P t) v=w at hf hc;obtain⟨_,⟨s1,_,_⟩,_,s4⟩:=KF.1 hf;have h1:=YY (Xz (Zb P n) (Q1 P t) w.slots w.raws);have h2:=Xk w;have h3:=YZ (m:=Xl P n) (bd:=Zb P n) (fun t v ht hm=>DJ hU hr n t v ht hm) w.slots w.raws (fun x hx=>by
   obtain⟨o,ho,hx⟩:=s1 x hx;exact⟨o,ho,hU _ hg o (Zu ho).1,hx⟩) s4
  omega

def Wd (P:PL)(m:PG→V→Int)(g:PG)(s:Int×V):Prop:=∃o,XO g s.1=some o∧Q3 m P o s.2=0∧(o.card<3∨s.2.emp=false)
theorem P1 {P:PL}(hU:Yo P)(hr:KI P){n:Nat}{g:PG}(hg:g∈P.progs){v:V}(h:Xl P (n+1) g v=0):∀s∈(Xi P (n+1) g v).slots,Wd P (Xl P n) g s:=by
 have hf:=WH hU hr (n+1) g hg v h;obtain⟨_,⟨s1,_,_⟩,_,_⟩:=KF.1 hf;intro s hs;obtain⟨o,ho,hx⟩:=s1 s hs;refine⟨o,ho,hx,?_⟩;have hs':s∈g.ops.flatMap (XC (Xi P n) P v.slots):=hs;obtain⟨q,hq,hsq⟩:=QYd.1 hs';unfold XC at hsq;split at hsq
 ·cases hsq
 ·split at hsq
  ·rename_i hc;rw[QZs]at hsq;subst hsq;have e:XO g q.num=some q:=Zj (hr g hg) hq;rw[e]at ho;cases ho;simp only[QXw,QXx,QYq]at hc;exact hc
  ·cases hsq

theorem Y0 {c k:Int}(h:pk c k=true):c=4∧(k=1∨k=2∨k=3∨k=4∨k=5∨k=6∨k=9):=by
 unfold pk at h;simp only[QXQ,QXw,QXx,QXy]at h;omega
theorem AI {c k:Int}(h:pk c k=true):wk k=0∨wk k=1∨wk k=2:=by
 obtain⟨_,h⟩:=Y0 h;rcases h with rfl|rfl|rfl|rfl|rfl|rfl|rfl<;>decide
theorem P2 {c k:Int}(h:pk c k=true)(b:Nat)(t:List UInt8):(Xa k b t).wire=wk k:=by
 obtain⟨_,h⟩:=Y0 h;rcases h with rfl|rfl|rfl|rfl|rfl|rfl|rfl<;>rfl
theorem Sm {v:V}(hk:v.kd=11)(h:v.emp=false):v.list≠[]:=by
 intro e;unfold V.emp Va.emp at h;rw[hk,e]at h;simp at h
theorem QaQ {P:PL}{m:PG→V→Int}{o:PO}{x:V}(hp:pk o.card o.kind=true)(h:Q3 m P o x=0):x.kd=11∧∀y∈x.list,y.kd=o.kind:=by
 obtain⟨h4,hk⟩:=Y0 hp;unfold Q3 at h;rw[QXG (by omega),QXV h4]at h;split at h
 ·omega
 rename_i hv;simp only[QXw,QXS,not_or,Decidable.not_not,ne_eq]at hv;refine⟨hv.1,fun y hy=>?_⟩;have:=KE.1 h y hy;unfold QN at this;rw[QXG (by omega)]at this;exact(Ym this).1

theorem UJ {k:Int}{b:Nat}(hb:b<18446744073709551616)(t:List UInt8):(Xa k b t).bits<18446744073709551616:=by
 unfold Xa;split
 ·exact hb
 split
 ·have h1:=Qyh (IntKind.i64.wrap (b:Int)) (by rw[QE];omega) (by rw[QE];omega);have h2:=YW (IntKind.i64.wrap (b:Int));show(KT _).toNat<_;omega
 split
 ·show XK k b<_;unfold XK;split
  ·decide
  ·exact hb
 split
 ·exact(by decide:(0:Nat)<18446744073709551616)
 ·exact(by decide:(0:Nat)<18446744073709551616)
theorem AJ {M:Nat}{v:V}(hv:v.ok M):v.bits<18446744073709551616:=by
 have:=Gj hv.bits;omega
def Rb (f:R):Prop:=f.bits<18446744073709551616
theorem No {M:Nat}{v:V}(hv:v.ok M)(n:Int):Rb (Z6 n v):=UJ (AJ hv) _
theorem Da {M:Nat}{v:V}(hv:v.ok M)(bd:Int→V→List UInt8)(o:PO)(n:Int):Rb (Q5 bd o n v):=by
 unfold Q5;split
 ·exact(by decide:(0:Nat)<18446744073709551616)
 ·exact No hv n
theorem Qyt {M:Nat}{v:V}(hv:v.ok M)(bd:Int→V→List UInt8)(o:PO):∀f∈UI bd o v,Rb f:=by
 have z:(0:Nat)<18446744073709551616:=by decide
 unfold UI;split
 ·intro f hf;obtain⟨p,_,rfl⟩:=QYM.1 hf;exact z
 split
 ·intro f hf;rw[QZs]at hf;subst hf;exact z
 split
 ·intro f hf;obtain⟨y,hy,rfl⟩:=QYM.1 hf;exact Da (hv.list y hy) _ _ _
 ·intro f hf;rw[QZs]at hf;subst hf;exact Da hv _ _ _
theorem DK {M:Nat}(bd:Int→V→List UInt8)(g:PG):∀(sl:List (Int×V)) (rs:List R),(∀s∈sl,s.2.ok M)→(∀f∈rs,Rb f)→∀f∈Xz bd g sl rs,Rb f
 | [],_,_,hr,f,hf=>hr f hf
 |s :: sl,rs,hs,hr,f,hf=>by
  rw[Xz,QYK,QYK]at hf;rcases hf with(hf|hf)|hf
  ·exact hr f ((List.takeWhile_sublist _).mem hf)
  ·unfold WM at hf;split at hf
   ·cases hf
   ·exact Qyt (hs s (by simp)) bd _ f hf
  ·exact DK bd g sl _ (fun x hx=>hs x (by simp[hx])) (fun f hf=>hr f ((List.dropWhile_sublist _).mem hf)) f hf
theorem U7:∀l:List R,20*l.length≤ZV l
 | []=>QXA _
 |f :: l=>by
  have:=U7 l;unfold ZV at this ⊢;simp only[QXY,QZv,QXH];omega
theorem QaR {l:List R}{f:R}(h:f∈l):f.data.length≤ZV l:=by
 induction l with
 |nil=>cases h
 |cons x l ih=>
  unfold ZV at ih ⊢;simp only[QXY,QZv];rcases QYO.1 h with rfl|h
  ·omega
  ·have:=ih h;omega
theorem Y3 {l:List R}(hb:∀f∈l,Rb f)(hw:ZV l≤140737488355328):(∀fd∈l,fd.bits<18446744073709551616∧fd.data.length<9223372036854775807)∧l.length<9223372036854775807∧(QZ l).length≤140737488355328:=by
 have h1:=U7 l;have h2:=YY l;exact⟨fun fd hf=>⟨hb fd hf,by have:=QaR hf;omega⟩,by omega,by omega⟩

end Go.Proofs.YtipjfckmopekaaaGreatDoor.Va

namespace Go.Proofs.YtipjfckmopekaaaGreatDoor.Va
open Go Am Rc Bt Br

structure Fi (P:PL)(c:Nat)(B:List Bool)(a:Bool)(f:Fr)(fr:Nat→Ob):Prop where
 h1:f 1=.ptr 0 1 0
 m1:fr 1=.cells (Pc P)
 h3:f 3=.vec 0 12 1 0 P.progs.length false
 m12:fr 12=.vec 1 1 (B.map AV.bool)
 h4:f 4=.bool a
 h19:f 19=.int .i64 (P.progs.length:Nat)
 h20:f 20=.int .i64 (c:Nat)
 r8:∀s∈[8],(fr s).isRow=false

theorem Fi.drop {P:PL}{c:Nat}{B:List Bool}{a:Bool}{f f':Fr}{fr fr':Nat→Ob}(h:Fi P c B a f fr)(hf:∀i,f' i=VX [8] (f i))(hm:∀i,i∉[8]→fr' i=Gk [8] (fr i))(hn:∀i∈[8],fr' i=.none):Fi P c B a f' fr' where
 h1:=by rw[hf,h.h1]<;>rfl
 m1:=by rw[hm 1 (by decide),h.m1]<;>rfl
 h3:=by rw[hf,h.h3]<;>rfl
 m12:=by rw[hm 12 (by decide),h.m12]<;>rfl
 h4:=by rw[hf,h.h4]<;>rfl
 h19:=by rw[hf,h.h19]<;>rfl
 h20:=by rw[hf,h.h20]<;>rfl
 r8:=fun s hs=>by rw[hn s hs]<;>rfl

section
variable {M:Nat}(P:PL)(hP:P.ok M)(hl:P.progs.length≤64)(hT:Pn P)(c:Nat)(B:List Bool)(hB:B.length=P.progs.length)(a:Bool)
include hP hT hB

theorem QSM (i:Nat)(g:PG)(hg:P.progs[i]? = some g)(f:Fr)(fr:Nat→Ob)(H:Fi P c B a f fr)(h5:f 5=.int .i64 (i:Nat))(h6:f 6=.bool true)(h7:f 7=.int .i64 0)(Q:Exit→St→Prop)
  (hx:∀f fr,Fi P c B a f fr→f 5=.int .i64 (i:Nat)→f 6=.bool (!g.ops.any (XE B))→Q (.exit 4) (⟨f,[fr],[]⟩:St)):QH Tryz.prog (.loop Th) ⟨f,[fr],[]⟩ Q:=by
 let I:Nat→St→Prop:=fun k st=>∃f fr j,st=⟨f,[fr],[]⟩∧k=g.ops.length-j∧j≤g.ops.length∧Fi P c B a f fr∧f 5=.int .i64 (i:Nat)∧f 6=.bool (!(g.ops.take j).any (XE B))∧f 7=.int .i64 (j:Nat)
 have hgm:(P.progs.map Qh)[i]? = some (.agg g.cells):=by simp[hg,Qh]
 have hgo:=hP.progs g (QXF hg);refine Qd I _ ⟨f,fr,0,rfl,rfl,QXA _,H,h5,by rw[h6];simp,h7⟩ ?_;clear H h5 h6 h7;simp only[PG.cells]at hgm;rintro _ st ⟨f0,fr0,j,rfl,rfl,hj,H0,h50,h60,h70⟩;refine QJ (a:=_) [8] H0.r8 ?_;intro f fr hf hm hn;have H:=H0.drop hf hm hn;have h5:f 5=.int .i64 (i:Nat):=by rw[hf,h50]<;>rfl
 have h6:f 6=.bool (!(g.ops.take j).any (XE B)):=by rw[hf,h60]<;>rfl
 have h7:f 7=.int .i64 (j:Nat):=by rw[hf,h70]<;>rfl
 have n8:=hn 8 (by decide);clear hf hm hn H0 h50 h60 h70;obtain⟨h1,m1,h3,m12,h4,h19,h20,r8⟩:=id H;simp only[Pc]at m1;simp only[Qi,QYT,Qb,hgm,QYn,h1,m1,h5,h7,eE,seval];by_cases hlt:j<g.ops.length
 ·obtain⟨o,ho⟩:∃o,g.ops[j]? = some o:=⟨g.ops[j],QXt hlt⟩;have hom:(g.ops.map fun o=>AV.agg o.cells)[j]? = some (.agg o.cells):=by simp[ho]
  have e1:=Ql j _ hlt hgo.len;have htg:=hT g (QXF hg) o (QXF ho);have ht:=RL (q:=XE B) ho;have fin2:∀(f':Fr) (fr':Nat→Ob) (v:Bool),(!(g.ops.take j).any (XE B) && !XE B o)=v→Fi P c B a f' fr'→f' 5=.int .i64 (i:Nat)→f' 6=.bool v→f' 7=.int .i64 ((j+1:Nat):Int)→∃k,k<g.ops.length-j∧I k ⟨f',[fr'],[]⟩:=by
   intro f' fr' v hv b1 b2 b3 b4;exact⟨g.ops.length-(j+1),by omega,f',fr',j+1,rfl,rfl,by omega,b1,b2,by rw[b3,ht,Bool.not_or,hv],b4⟩
  simp only[PO.cells]at hom;have m1':fr 1=.cells (Pc P):=by rw[m1]<;>rfl
  cases hb : !(g.ops.take j).any (XE B)
  ·rw[hb]at fin2 h6;simp only[QYW]at fin2;simp only[Qm hlt,Qi,QYT,Qb,hgm,hom,PO.cells,n8,h1,m1,h5,h6,h7,e1,eE,seval];exact fin2 _ _ _ rfl ⟨(by exact h1),(by exact m1'),(by exact h3),(by exact m12),(by exact h4),(by exact h19),(by exact h20),by simp<;>rfl⟩ (by exact h5) (by rfl) (by rfl)
  rw[hb]at fin2 h6;simp only[QY3]at fin2;cases c1:(o.card==1)
  ·have c1':(o.card != 1)=true:=by rw[bne,c1];rfl
   have hne:(!XE B o)=true:=by unfold XE;rw[c1];rfl
   rw[hne]at fin2;simp only[Qm hlt,Qi,QYT,Qb,hgm,hom,PO.cells,n8,c1',h1,m1,h5,h6,h7,e1,eE,seval];exact fin2 _ _ _ rfl ⟨(by exact h1),(by exact m1'),(by exact h3),(by exact m12),(by exact h4),(by exact h19),(by exact h20),by simp<;>rfl⟩ (by exact h5) (by rfl) (by rfl)
  have c1':(o.card != 1)=false:=by rw[bne,c1];rfl
  cases c2:(o.kind==10)
  ·have c2':(o.kind != 10)=true:=by rw[bne,c2];rfl
   have hne:(!XE B o)=true:=by unfold XE;rw[c1,c2];rfl
   rw[hne]at fin2;simp only[Qm hlt,Qi,QYT,Qb,hgm,hom,PO.cells,n8,c1',c2',h1,m1,h5,h6,h7,e1,eE,seval];exact fin2 _ _ _ rfl ⟨(by exact h1),(by exact m1'),(by exact h3),(by exact m12),(by exact h4),(by exact h19),(by exact h20),by simp<;>rfl⟩ (by exact h5) (by rfl) (by rfl)
  have c2':(o.kind != 10)=false:=by rw[bne,c2];rfl
  obtain⟨t1,t2⟩:=htg (by simpa using c2);obtain⟨t,hte⟩:=QY5 t1;obtain⟨y,hy⟩:∃y,B[t]? = some y:=⟨B[t]'(by omega),QXt (by omega)⟩;have hym:(B.map AV.bool)[t]? = some (.bool y):=by simp[hy]
  have hlt2:(t<P.progs.length)=True:=eq_true (by omega);have hne:(!XE B o)=y:=by unfold XE;rw[c1,c2,hte,QYT,hy];cases y<;>rfl
  rw[hne]at fin2;simp only[Qm hlt,Qi,QYT,Qb,hgm,hom,PO.cells,n8,c1',c2',hte,hym,hlt2,m12,QX8,h1,m1,h3,h5,h6,h7,e1,eE,seval];exact fin2 _ _ _ rfl ⟨(by exact h1),(by exact m1'),(by exact h3),(by exact m12),(by exact h4),(by exact h19),(by exact h20),by simp<;>rfl⟩ (by exact h5) (by rfl) (by rfl)
 ·have hf:(g.ops.take j).any (XE B)=g.ops.any (XE B):=by rw[QX0 (by omega)]
  rw[hf]at h6;simp only[Qw hlt,Qa,seval];refine hx _ _ ⟨(by exact h1),by rw[m1]<;>rfl,(by exact h3),(by exact m12),(by exact h4),(by exact h19),(by exact h20),r8⟩ (by exact h5) (by exact h6)

end

theorem Sn {B:List Bool}{i:Nat}(h:i<B.length)(v:Bool):((B.set i v).take (i+1)).all id=((B.take i).all id&&v):=by
 have h1:(B.set i v)[i]? = some v:=List.getElem?_set_self h;rw[Q6 h1,List.take_set_of_le (QXq _)];rfl

section
variable {M:Nat}(P:PL)(hP:P.ok M)(hl:P.progs.length≤64)(hT:Pn P)(c:Nat)
include hP hl hT

theorem QSN (f:Fr)(fr:Nat→Ob)(H:Fi P c (Qe P.progs c) true f fr)(h5:f 5=.int .i64 0)(Q:Exit→St→Prop)(hx:∀f fr,Fi P c (Qe P.progs (c+1)) ((Qe P.progs (c+1)).all id) f fr→Q (.exit 2) (⟨f,[fr],[]⟩:St)):QH Tryz.prog (.loop Ti) ⟨f,[fr],[]⟩ Q:=by
 let I:Nat→St→Prop:=fun k st=>∃f fr i,st=⟨f,[fr],[]⟩∧k=P.progs.length-i∧i≤P.progs.length∧Fi P c (Jg P.progs (Qe P.progs c) i) (((Jg P.progs (Qe P.progs c) i).take i).all id) f fr∧f 5=.int .i64 (i:Nat)
 refine Qd I _ ⟨f,fr,0,rfl,rfl,QXA _,H,h5⟩ ?_;clear H h5;rintro _ st ⟨f0,fr0,i,rfl,rfl,hi,H0,h50⟩;refine QJ (a:=_) [8] H0.r8 ?_;intro f fr hf hm hn;have H:=H0.drop hf hm hn;have h5:f 5=.int .i64 (i:Nat):=by rw[hf,h50]<;>rfl
 clear hf hm hn H0 h50;have hBl:(Jg P.progs (Qe P.progs c) i).length=P.progs.length:=by rw[UV,UW]
 obtain⟨h1,m1,h3,m12,h4,h19,h20,r8⟩:=id H;have m1':=m1;simp only[Pc]at m1;simp only[QYn,h1,m1,h5,eE,seval];by_cases hlt:i<P.progs.length
 ·obtain⟨g,hg⟩:∃g,P.progs[i]? = some g:=⟨P.progs[i],QXt hlt⟩;have e1:=Ql i _ hlt (by simp only[maxLen];omega);have hst:Jg P.progs (Qe P.progs c) (i+1)=(Jg P.progs (Qe P.progs c) i).set i (!g.ops.any (XE (Jg P.progs (Qe P.progs c) i))):=by
   rw[Jg]
   conv=>lhs;unfold Uw
   rw[hg]
  have htk:=Sn (B:=Jg P.progs (Qe P.progs c) i) (i:=i) (by omega) (!g.ops.any (XE (Jg P.progs (Qe P.progs c) i)));rw[←hst]at htk;simp only[Qm hlt,Qa,seval];refine QSM P hP hT c _ hBl _ i g hg _ fr ⟨(by exact h1),m1',(by exact h3),m12,(by exact h4),(by exact h19),(by exact h20),r8⟩ (by exact h5) (by rfl) (by rfl) _ (fun f fr H h5 h6=>?_);generalize hBB:Jg P.progs (Qe P.progs c) i=B at *;generalize hv:(!g.ops.any (XE B))=v at *;obtain⟨h1,m1,h3,m12,h4,h19,h20,r8⟩:=H;obtain⟨y,hy⟩:∃y,B[i]? = some y:=⟨B[i]'(by omega),QXt (by omega)⟩;have hym:(B.map AV.bool)[i]? = some (.bool y):=by simp[hy]
  have ia:Qb [fr] 1 none (.vec 0 12 1 0 P.progs.length false) (i:Int)=some (.vptr 0 12 1 i 0):=by
   have e:Am.Qf [fr] 0 12=.vec 1 1 (B.map AV.bool):=m12;simp only[Qb,e,Qi,if_true,QYT];simp;omega
  have ist:QV [fr] (.vptr 0 12 1 i 0) [.bool v]=some [QK fr 12 (.vec 1 1 ((B.map AV.bool).set i (.bool v)))]:=by
   have e:Am.Qf [fr] 0 12=.vec 1 1 (B.map AV.bool):=m12;simp only[QV,e,hym];simp[AV.cells,AV.rfL,AV.rf,Am.put,ZL]
  have hset:(B.map AV.bool).set i (.bool v)=(Jg P.progs (Qe P.progs c) (i+1)).map AV.bool:=by rw[hst,List.map_set]
  rw[hset]at ist;cases hal:(B.take i).all id
  ·rw[hal]at h4 htk;simp only[ia,ist,h3,h4,h5,h6,e1,eE,seval];exact⟨P.progs.length-(i+1),by omega,_,_,i+1,rfl,rfl,by omega,⟨(by exact h1),(by exact m1),(by exact h3),(by rfl),by rw[htk]<;>first|exact h4|simp only[h4,QYW,Qa,seval],(by exact h19),(by exact h20),fun s hs=>by simp at hs;subst hs;rw[QS _ _ (by decide)];exact r8 8 (by simp)⟩,(by rfl)⟩
  ·rw[hal]at h4 htk;simp only[ia,ist,h3,h4,h5,h6,e1,eE,seval];exact⟨P.progs.length-(i+1),by omega,_,_,i+1,rfl,rfl,by omega,⟨(by exact h1),(by exact m1),(by exact h3),(by rfl),by rw[htk,QY3]<;>first|rfl|simp only[eE,seval],(by exact h19),(by exact h20),fun s hs=>by simp at hs;subst hs;rw[QS _ _ (by decide)];exact r8 8 (by simp)⟩,(by rfl)⟩
 ·have hii:i=P.progs.length:=by omega
  subst hii;have hits:Jg P.progs (Qe P.progs c) P.progs.length=Qe P.progs (c+1):=rfl;rw[hits]at H hBl m12 h4;rw[QX0 (by omega)]at h4;simp only[Qw hlt,Qa,seval];exact hx _ _ ⟨(by exact h1),m1',(by exact h3),m12,(by exact h4),(by exact h19),(by exact h20),r8⟩

end

theorem z49 {M:Nat}(P:PL)(hP:P.ok M)(hl:P.progs.length≤64)(hT:Pn P):Qk Tryz.prog 49 [P.av] (.bool (fin P)):=by
 have e0:P.av=.agg [.list (P.progs.map Qh),.list (P.enums.map Qq)]:=rfl;have hmx:P.progs.length≤maxLen:=by simp only[maxLen];omega
 have hz:JM 1 [AV.bool false]=.bool false:=rfl;have hr0:(List.replicate P.progs.length (AV.bool false))=(Qe P.progs 0).map AV.bool:=by simp[Qe]
 let A:Nat→Bool:=fun c=>if c=0 then(P.progs.length:Int)==0 else(Qe P.progs c).all id
 have hA:A P.progs.length=fin P:=by
  show(if P.progs.length=0 then(P.progs.length:Int)==0 else(Qe P.progs P.progs.length).all id)=(Qe P.progs P.progs.length).all id;split
  ·rename_i h;rw[h];simp[Qe,h]
  ·rfl
 let I:Nat→St→Prop:=fun k st=>∃f fr c,st=⟨f,[fr],[]⟩∧k=P.progs.length-c∧c≤P.progs.length∧Fi P c (Qe P.progs c) (A c) f fr
 refine k49.fn (by simp) ?_;simp only[e0,QYn,eE,seval];refine US (n:=P.progs.length) (k:=P.progs.length) rfl rfl (QXq _) (by omega) (by omega) rfl ?_;simp only[hz,hr0,QYn,eE,seval];refine Qd I _ ⟨_,_,0,rfl,rfl,QXA _,⟨(by rfl),(by rfl),(by rfl),(by rfl),(by rfl),(by rfl),(by rfl),by simp<;>rfl⟩⟩ ?_;rintro _ st ⟨f0,fr0,c,rfl,rfl,hc,H0⟩;refine QJ (a:=_) [8] H0.r8 ?_;intro f fr hf hm hn;have H:=H0.drop hf hm hn;clear hf hm hn H0;obtain⟨h1,m1,h3,m12,h4,h19,h20,r8⟩:=id H;simp only[h19,h20,Qa,seval];by_cases hlt:c<P.progs.length
 ·have e1:=Ql c _ hlt hmx;simp only[Qm hlt,Qa,seval];refine QSN P hP hl hT c _ fr ⟨(by exact h1),m1,(by exact h3),m12,(by rfl),(by exact h19),(by exact h20),r8⟩ (by rfl) _ (fun f fr H=>?_);obtain⟨h1,m1,h3,m12,h4,h19,h20,r8⟩:=H;simp only[h20,e1,Qa,seval];exact⟨P.progs.length-(c+1),by omega,_,fr,c+1,rfl,rfl,by omega,⟨(by exact h1),m1,(by exact h3),m12,(by exact h4),(by exact h19),(by rfl),r8⟩⟩
 ·have hcc:c=P.progs.length:=by omega
  subst hcc;rw[hA]at h4;simp only[Qw hlt,h4,Qa,seval]

theorem z22 {M:Nat}(P:PL)(hP:P.ok M)(hM:M≤140737488351232):Qk Tryz.prog 22 [P.av] (.int .i64 (ck P)):=by
 have e0:P.av=.agg [.list (P.progs.map Qh),.list (P.enums.map Qq)]:=rfl;have c1:=z43 P hP;have c2:=z44 P hP;have c3:=z45 P hP;have c4:=z46 P hP;have c5:=z47 P hP;refine k22.fn (by simp) ?_;simp only[e0,ck,eE,seval];refine aC c1 ?_;cases hl:Hp P
 ·simp only[QYz,Qa,seval]
 obtain⟨l1,l2,l3,l4⟩:=Ux hl;have c6:=z48 hM P hP l3;simp only[QY4,QZq,eE,seval];refine aC c2 ?_;cases Bv P
 ·simp only[QYz,Qa,seval]
 simp only[QY4,QZq,eE,seval];refine aC c3 ?_;cases Hq P
 ·simp only[QYz,Qa,seval]
 simp only[QY4,QZq,eE,seval];refine aC c4 ?_;cases Bw P
 ·simp only[QYz,Qa,seval]
 simp only[QY4,QZq,eE,seval];refine aC c5 ?_;cases Bx P
 ·simp only[QYz,Qa,seval]
 simp only[QY4,QZq,eE,seval];refine aC c6 ?_;cases ha:args P
 ·simp only[QYz,Qa,seval]
 have c7:=z49 P hP l1 (BI ha);simp only[QY4,QZq,eE,seval];refine aC c7 ?_;cases fin P
 ·simp only[QYz,Qa,seval]
 ·simp only[QY4,QZq,Qa,seval]

open Up

section
variable {M:Nat}{P:PL}(hP:P.ok M)(hM:M≤140737488351232){m:PG→V→Int}{lv:Int}(g:PG)(hg:g.ok M)(v:V)(hv:v.ok M)

def SwI (P:PL)(g:PG)(v:V)(k:Nat)(st:St):Prop :=
 ∃f fr i,st=⟨f,[fr],[]⟩∧k=v.raws.length-i∧Xe (Zm P g v.raws) v.raws.length 0=Xe (Zm P g v.raws) (v.raws.length-i) i∧f 4=.ptr 0 4 0∧f 6=.ptr 0 6 0∧f 9=.ptr 0 9 0∧f 16=.int .i64 (i:Nat)∧fr 4=.cells [.list (P.progs.map Qh),.list (P.enums.map Qq)]∧fr 6=.cells (vc v)∧fr 9=.cells g.cells∧∀s∈[17],(fr s).isRow=false

include hP hg hv in
theorem CO (hu:∀o∈g.ops,UO P o)(f:Fr)(fr:Nat→Ob)(h4:f 4=.ptr 0 4 0)(h6:f 6=.ptr 0 6 0)(h9:f 9=.ptr 0 9 0)(h16:f 16=.int .i64 0)
  (m4:fr 4=.cells [.list (P.progs.map Qh),.list (P.enums.map Qq)]) (m6:fr 6=.cells (vc v)) (m9:fr 9=.cells g.cells) (Vs:∀s∈[17],(fr s).isRow=false) (Q:Exit→St→Prop)
  (q1:Xe (Zm P g v.raws) v.raws.length 0≠0→∀f fr,f 8=.int .i64 (Xe (Zm P g v.raws) v.raws.length 0)→Q .ret (⟨f,[fr],[]⟩:St))
  (q2:Xe (Zm P g v.raws) v.raws.length 0=0→∀f fr,Q (.exit 4) (⟨f,[fr],[]⟩:St)):QH Tryz.prog (.loop SL) ⟨f,[fr],[]⟩ Q:=by
 have e0:P.av=.agg [.list (P.progs.map Qh),.list (P.enums.map Qq)]:=rfl;refine Qd (SwI P g v) _ ⟨f,fr,0,rfl,rfl,rfl,h4,h6,h9,h16,m4,m6,m9,Vs⟩ ?_;clear h4 h6 h9 h16 m4 m6 m9 Vs;rintro _ st ⟨f0,fr0,i,rfl,rfl,hx,h40,h60,h90,h160,m40,m60,m90,Vs⟩;refine QJ (a:=_) [17] Vs ?_;intro f fr hf hm hn;have h4:f 4=.ptr 0 4 0:=by rw[hf,h40]<;>rfl
 have h6:f 6=.ptr 0 6 0:=by rw[hf,h60]<;>rfl
 have h9:f 9=.ptr 0 9 0:=by rw[hf,h90]<;>rfl
 have h16:f 16=.int .i64 (i:Nat):=by rw[hf,h160]<;>rfl
 have m4:fr 4=.cells [.list (P.progs.map Qh),.list (P.enums.map Qq)]:=by rw[hm 4 (by decide),m40]<;>rfl
 have m6:fr 6=.cells (vc v):=by rw[hm 6 (by decide),m60]<;>rfl
 have m9:fr 9=.cells g.cells:=by rw[hm 9 (by decide),m90]<;>rfl
 have n17:=hn 17 (by decide);clear hf hm hn h40 h60 h90 h160 m40 m60 m90 Vs;have m6':=m6;have m9':=m9;simp only[PG.cells]at m9;simp only[vc]at m6;simp only[QYn,h6,h16,m6,eE,seval];by_cases hlt:i<v.raws.length
 ·obtain⟨x,hi⟩:∃x,v.raws[i]? = some x:=⟨v.raws[i],QXt hlt⟩;have hgi:=HK hi;have e1:=Ql i _ hlt (by have:=hv.nr;simp only[maxLen];omega);have c1:=v63 hP g hg hu x;have hr:Zm P g v.raws i=if (!U1 P g x)=true then 1 else if HJ x=true then 3 else 0:=by rw[WA hi,Py]
  rw[e0]at c1;simp only[Qh,PG.cells,R.av]at c1;simp only[Qm hlt,Qi,QYT,Qb,hgi,n17,h4,h6,h9,h16,m4,m6,m9,eE,seval];refine aC c1 ?_;cases hp:U1 P g x
  ·rw[hp,QXV (by rfl)]at hr;rw[Zz hlt hr (by decide)]at hx;simp only[Qa,seval];exact q1 (by rw[hx];decide) _ _ (by rw[hx];exact(by rfl))
  ·rw[hp,QXG (by simp)]at hr;have hb:HJ x=(x.wire==3&&decide ((x.data.length:Int) > 4096)||decide ((x.data.length:Int) > 65536)):=rfl;have ok:HJ x=false→Xe (Zm P g v.raws) v.raws.length 0=Xe (Zm P g v.raws) (v.raws.length-(i+1)) (i+1):=fun h=>by
    rw[h,QXG (by simp)]at hr;rw[hx,KO hlt hr]
   have no:HJ x=true→Xe (Zm P g v.raws) v.raws.length 0=3:=fun h=>by
    rw[h,QXV rfl]at hr;rw[hx,Zz hlt hr (by decide)]
   simp only[eE,seval];cases t1:(x.wire==3)
   ·cases t3:decide ((x.data.length:Int) > 65536)
    ·rw[t1,t3]at hb;simp only[t3,h16,e1,eE,seval];exact⟨v.raws.length-(i+1),by omega,_,_,i+1,rfl,rfl,ok hb,(by exact h4),(by exact h6),(by exact h9),(by rfl),(by exact m4),(by exact m6'),(by exact m9'),by simp<;>rfl⟩
    ·rw[t1,t3]at hb;simp only[t3,eE,seval];exact q1 (by rw[no hb];decide) _ _ (by rw[no hb];exact(by rfl))
   ·cases t2:decide ((x.data.length:Int) > 4096)
    ·cases t3:decide ((x.data.length:Int) > 65536)
     ·rw[t1,t2,t3]at hb;simp only[t2,t3,h16,e1,eE,seval];exact⟨v.raws.length-(i+1),by omega,_,_,i+1,rfl,rfl,ok hb,(by exact h4),(by exact h6),(by exact h9),(by rfl),(by exact m4),(by exact m6'),(by exact m9'),by simp<;>rfl⟩
     ·rw[t1,t2,t3]at hb;simp only[t2,t3,eE,seval];exact q1 (by rw[no hb];decide) _ _ (by rw[no hb];exact(by rfl))
    ·rw[t1,t2]at hb;simp only[t2,eE,seval];exact q1 (by rw[no hb];decide) _ _ (by rw[no hb];exact(by rfl))
 ·rw[JY hlt]at hx;simp only[Qw hlt,Qa,seval];exact q2 hx _ _

include hg hv in
theorem P3 (fr:Nat→Ob)(m6:fr 6=.cells (vc v))(m9:fr 9=.cells g.cells)(f:Fr)(h4:f 4=.ptr 0 4 0)(h6:f 6=.ptr 0 6 0)(h9:f 9=.ptr 0 9 0)(h15:f 15=.int .i64 0)(Q:Exit→St→Prop)
  (q1:KA g v.slots=true→∀f,f 8=.int .i64 14→Q .ret (⟨f,[fr],[]⟩:St))
  (q2:KA g v.slots=false→∀f,f 4=.ptr 0 4 0→f 6=.ptr 0 6 0→f 9=.ptr 0 9 0→Q (.exit 2) (⟨f,[fr],[]⟩:St)):QH Tryz.prog (.loop SK) ⟨f,[fr],[]⟩ Q:=by
 let I:Nat→St→Prop:=fun k st=>∃f i,st=⟨f,[fr],[]⟩∧k=g.ops.length-i∧i≤g.ops.length∧(g.ops.take i).any (KD v.slots)=false∧f 4=.ptr 0 4 0∧f 6=.ptr 0 6 0∧f 9=.ptr 0 9 0∧f 15=.int .i64 (i:Nat)
 refine Qd I _ ⟨f,0,rfl,rfl,QXA _,by simp,h4,h6,h9,h15⟩ ?_;clear h4 h6 h9 h15;rintro _ st ⟨f,i,rfl,rfl,hil,hq,h4,h6,h9,h15⟩;simp only[PG.cells]at m9;simp only[vc]at m6;simp only[QYn,h9,h15,m9,eE,seval];by_cases hlt:i<g.ops.length
 ·obtain⟨o,hi⟩:∃o,g.ops[i]? = some o:=⟨g.ops[i],QXt hlt⟩;have hgi:=Qxa hi;have e1:=Ql i _ hlt hg.len;have c1:=v62 v (by have:=hv.ns;simp only[maxLen];omega) o.num;rw[Qs]at c1;have ht:(g.ops.take (i+1)).any (KD v.slots)=KD v.slots o:=by
   rw[QZa,hi,List.any_append,hq];simp
  have hmi:KD v.slots o=(o.card==1 && !v.slots.any fun y=>y.1==o.num):=rfl;simp only[Qm hlt,Qi,QYT,Qb,hgi,h9,h15,m9,eE,seval];cases a1:(o.card==1)
  ·rw[a1,QYW]at hmi;simp only[h15,e1,Qa,seval];exact⟨g.ops.length-(i+1),by omega,_,i+1,rfl,rfl,by omega,by rw[ht,hmi],(by exact h4),(by exact h6),(by exact h9),(by rfl)⟩
  ·rw[a1,QY3]at hmi;simp only[Qi,QYT,Qb,hgi,h6,h9,h15,m6,m9,eE,seval];refine aC c1 ?_;cases a2:v.slots.any (fun y=>y.1==o.num)
   ·rw[a2]at hmi;have hany:KA g v.slots=true:=QZg.2 ⟨o,QXF hi,by show KD v.slots o=true;rw[hmi];rfl⟩;simp only[Qa,seval];exact q1 hany _ (by rfl)
   ·rw[a2]at hmi;simp only[h15,e1,Qa,seval];exact⟨g.ops.length-(i+1),by omega,_,i+1,rfl,rfl,by omega,by rw[ht,hmi];rfl,(by exact h4),(by exact h6),(by exact h9),(by rfl)⟩
 ·have hq':KA g v.slots=false:=by rw[DA,←hq,QX0 (by omega)]
  simp only[Qw hlt,Qa,seval];exact q2 hq' _ (by exact h4) (by exact h6) (by exact h9)

def SsI (m:PG→V→Int)(P:PL)(lv:Int)(g:PG)(v:V)(k:Nat)(st:St):Prop :=
 ∃f fr i,st=⟨f,[fr],[]⟩∧k=v.slots.length-i∧Xe (XB m P g v.slots) v.slots.length 0=Xe (XB m P g v.slots) (v.slots.length-i) i∧f 3=.int .i64 lv∧f 4=.ptr 0 4 0∧f 6=.ptr 0 6 0∧f 9=.ptr 0 9 0∧f 10=.int .i64 (i:Nat)∧fr 4=.cells [.list (P.progs.map Qh),.list (P.enums.map Qq)]∧fr 6=.cells (vc v)∧fr 9=.cells g.cells∧fr 17=.none∧∀s∈[12],(fr s).isRow=false

include hg hv in
theorem NB (hfi:∀o∈g.ops,∀v:V,v.ok M→Qk Tryz.prog 61 [P.av,Qr o,v.av,.int .i64 lv] (.int .i64 (Q3 m P o v)))
  (f:Fr) (fr:Nat→Ob) (h3:f 3=.int .i64 lv) (h4:f 4=.ptr 0 4 0) (h6:f 6=.ptr 0 6 0) (h9:f 9=.ptr 0 9 0) (h10:f 10=.int .i64 0)
  (m4:fr 4=.cells [.list (P.progs.map Qh),.list (P.enums.map Qq)]) (m6:fr 6=.cells (vc v)) (m9:fr 9=.cells g.cells) (n17:fr 17=.none) (JX:∀s∈[12],(fr s).isRow=false) (Q:Exit→St→Prop)
  (q1:Xe (XB m P g v.slots) v.slots.length 0≠0→∀f fr,f 8=.int .i64 (Xe (XB m P g v.slots) v.slots.length 0)→Q .ret (⟨f,[fr],[]⟩:St))
  (q2:Xe (XB m P g v.slots) v.slots.length 0=0→∀f fr,f 4=.ptr 0 4 0→f 6=.ptr 0 6 0→f 9=.ptr 0 9 0→fr 4=.cells [.list (P.progs.map Qh),.list (P.enums.map Qq)]→fr 6=.cells (vc v)→fr 9=.cells g.cells→fr 17=.none→Q (.exit 0) (⟨f,[fr],[]⟩:St)) :
  QH Tryz.prog (.loop SJ) ⟨f,[fr],[]⟩ Q:=by
 have e0:P.av=.agg [.list (P.progs.map Qh),.list (P.enums.map Qq)]:=rfl;have hn:v.slots.length≤maxLen:=by have:=hv.ns;simp only[maxLen];omega
 have co:=fun n=>TB g hg.len n
 simp only[JZ]at co;simp only[Qh,PG.cells]at co;refine Qd (SsI m P lv g v) _ ⟨f,fr,0,rfl,rfl,rfl,h3,h4,h6,h9,h10,m4,m6,m9,n17,JX⟩ ?_;clear h3 h4 h6 h9 h10 m4 m6 m9 n17 JX;rintro _ st ⟨f0,fr0,i,rfl,rfl,hx,h30,h40,h60,h90,h100,m40,m60,m90,n170,JX⟩;refine QJ (a:=_) [12] JX ?_;intro f fr hf hm hn12;have h3:f 3=.int .i64 lv:=by rw[hf,h30]<;>rfl
 have h4:f 4=.ptr 0 4 0:=by rw[hf,h40]<;>rfl
 have h6:f 6=.ptr 0 6 0:=by rw[hf,h60]<;>rfl
 have h9:f 9=.ptr 0 9 0:=by rw[hf,h90]<;>rfl
 have h10:f 10=.int .i64 (i:Nat):=by rw[hf,h100]<;>rfl
 have m4:fr 4=.cells [.list (P.progs.map Qh),.list (P.enums.map Qq)]:=by rw[hm 4 (by decide),m40]<;>rfl
 have m6:fr 6=.cells (vc v):=by rw[hm 6 (by decide),m60]<;>rfl
 have m9:fr 9=.cells g.cells:=by rw[hm 9 (by decide),m90]<;>rfl
 have n17:fr 17=.none:=by rw[hm 17 (by decide),n170]<;>rfl
 have n12:=hn12 12 (by decide);clear hf hm hn12 h30 h40 h60 h90 h100 m40 m60 m90 n170 JX;have m6':=m6;have m9':=m9;simp only[PG.cells]at m9;simp only[vc]at m6;simp only[QYn,h6,h10,m6,eE,seval];by_cases hlt:i<v.slots.length
 ·obtain⟨x,hi⟩:∃x,v.slots[i]? = some x:=⟨v.slots[i],QXt hlt⟩;have hgi:=Jv hi;have e1:=Ql i _ hlt hn;have c1:=v60 g hg v.slots hn i hlt;simp only[Qh,PG.cells]at c1;obtain⟨sA,sB⟩:=QaC (m:=m) (P:=P) (g:=g) hi;simp only[Qm hlt,h6,h9,h10,m6,m9,eE,seval];refine aC c1 ?_;by_cases hz:W4 g v.slots i=0
  ·have d0:((0:Int) != 0)=false:=rfl;obtain⟨o,ho,hF⟩:=sB hz;have hom:=(Zu ho).1;have c2:=co x.1;rw[ho]at c2;have c3:=hfi o hom x.2 (hv.slots x (QXF hi));rw[e0,Qs]at c3;simp only[Qr,PO.cells]at c3;simp only[hz,d0,Qi,QYT,Qb,hgi,QXZ,QX9,h6,h9,h10,m6,m9,eE,seval];refine aC c2 ?_;simp only[QYC,QZe,Qr,PO.cells,n12,Qi,QYT,Qb,hgi,h3,h4,h6,h10,m4,m6,eE,seval];refine aC c3 ?_;by_cases hy:Q3 m P o x.2=0
   ·rw[KO hlt (hF.trans hy)]at hx;simp only[hy,d0,h10,e1,Qa,seval];exact⟨v.slots.length-(i+1),by omega,_,_,i+1,rfl,rfl,hx,(by exact h3),(by exact h4),(by exact h6),(by exact h9),(by rfl),(by exact m4),(by exact m6'),(by exact m9'),(by exact n17),by simp<;>rfl⟩
   ·rw[Zz hlt hF hy]at hx;have d1:(Q3 m P o x.2 != 0)=true:=by simp[hy]
    simp only[d1,Qa,seval];exact q1 (by rw[hx];exact hy) _ _ (by rw[hx];exact(by rfl))
  ·rw[Zz hlt (sA hz) hz]at hx;have d1:(W4 g v.slots i != 0)=true:=by simp[hz]
   simp only[d1,Qa,seval];exact q1 (by rw[hx];exact hz) _ _ (by rw[hx];exact(by rfl))
 ·rw[JY hlt]at hx;simp only[Qw hlt,Qa,seval];exact q2 hx _ _ (by exact h4) (by exact h6) (by exact h9) (by exact m4) (by exact m6') (by exact m9') (by exact n17)

include hP hM in
theorem v31 (hU:Yo P):∀n:Nat,n≤16→∀(t:Int) (g:PG),P.progs[t.toNat]? = some g→0≤t→∀v:V,v.ok M→Qk Tryz.prog 31 [P.av,.int .i64 t,v.av,.int .i64 (17-(n:Int))] (.int .i64 (Xl P n g v)):=by
 have e0:P.av=.agg [.list (P.progs.map Qh),.list (P.enums.map Qq)]:=rfl;intro n
 induction n with
 |zero=>
  intro _ t g _ _ v hv;have co:=Cz v hv;rw[Qs]at co;rw[Qs];have d0:decide ((17:Int)-((0:Nat):Int) > 16)=true:=rfl;refine k31.fn (by simp) ?_;simp only[e0,Xl,eE,seval];cases a1:(v.kd != 10)
  ·simp only[QY7,eE,seval];refine aC co ?_;cases v.oth
   ·simp only[QXL,Qa,seval]
   ·simp only[Qa,seval]
  ·simp only[QY6,Qa,seval]
 |succ n ih=>
  intro hn16 t g ht t0 v hv;have hgm:=QXF ht;have hg:=hP.progs g hgm;have hu:=hU g hgm;have hw:IntKind.i64.wrap (17-((n+1:Nat):Int)+1)=17-(n:Int):=by rw[QE];omega
  have hel:=fun(o:PO) (ho:o∈g.ops) (x:V) (hx:x.ok M)=>QRG hP hM hw (fun t g ht t0 v hv=>ih (by omega) t g ht t0 v hv) o (hu o ho) x hx
  have hfi:=fun(o:PO) (ho:o∈g.ops) (x:V) (hx:x.ok M)=>v61 hP hM o (hu o ho) x hx (hel o ho)
  have co:=Cz v hv;rw[Qs]at co;rw[Qs];obtain⟨i,hti⟩:=QY5 t0;rw[hti,QYT]at ht;have hga:(P.progs.map Qh)[i]? = some (.agg g.cells):=by simp[ht,Qh]
  simp only[PG.cells]at hga;have d0:decide ((17:Int)-((n+1:Nat):Int) > 16)=false:=QZd (by omega);refine k31.fn (by simp) ?_;simp only[e0,hti,Xl,eE,seval];cases a1:(v.kd != 10)
  ·simp only[QY7,eE,seval];refine aC co ?_;cases v.oth
   ·simp only[d0,Qi,QYT,Qb,hga,QXL,eE,seval];unfold W2;refine NB (lv:=17-((n+1:Nat):Int)) g hg v hv hfi _ _ (by rfl) (by rfl) (by rfl) (by rfl) (by rfl) (by rfl) (by rfl) (by rfl) (by rfl) (by simp<;>rfl) _ (fun hx f fr h8=>?_) (fun hx f fr h4 h6 h9 m4 m6 m9 n17=>?_)
    ·rw[QXG hx];simp only[h8,Qa,seval]
    ·rw[QXV hx];simp only[Qa,seval];refine P3 g hg v hv fr m6 m9 _ (by exact h4) (by exact h6) (by exact h9) (by rfl) _ (fun hx f h8=>?_) (fun hx f h4 h6 h9=>?_)
     ·rw[hx];simp only[h8,Qa,seval]
     ·rw[hx];simp only[QXL,Qa,seval];refine CO hP g hg v hv hu _ _ (by exact h4) (by exact h6) (by exact h9) (by rfl) m4 m6 m9 (by simp only[QYO,QZw,or_false,forall_eq,n17]<;>rfl) _ (fun hx f fr h8=>?_) (fun hx f fr=>?_)
      ·simp only[h8,Qa,seval]
      ·simp only[hx,Qa,seval]
   ·simp only[Qa,seval]
  ·simp only[QY6,Qa,seval]

end

def Z1 (P:PL)(t:Int)(v:V):Int :=
 if t<0∨t≥(P.progs.length:Int)then 10 else if Xl P 16 (Q1 P t) v=0 then(if IntKind.i64.wrap (v.cnt:Int) > 4096 then 3 else 0)else Xl P 16 (Q1 P t) v

section
variable {M:Nat}{P:PL}(hP:P.ok M)(hM:M≤140737488351232)(hU:Yo P)(t:Int)(v:V)(hv:v.ok M)

include hP hU hv in
theorem v28:Qk Tryz.prog 28 [P.av,.int .i64 t,v.av] (.int .i64 (Z1 P t v)):=by
 have e0:P.av=.agg [.list (P.progs.map Qh),.list (P.enums.map Qq)]:=rfl;rw[Qs];refine k28.fn (by simp) ?_;simp only[e0,eE,seval];unfold Z1;by_cases t0:t<0
 ·have d0:decide (t<0)=true:=QZi t0;rw[QXV (.inl t0)];simp only[d0,Qa,seval]
 have d0:decide (t<0)=false:=QZd t0;by_cases t1:t≥(P.progs.length:Int)
 ·have d1:decide (t≥(P.progs.length:Int))=true:=QZi t1;rw[QXV (.inr t1)];simp only[d0,d1,QYn,eE,seval]
 have d1:decide (t≥(P.progs.length:Int))=false:=QZd t1;rw[QXG (by omega)];obtain⟨i,hi⟩:=QY5 (by omega:0≤t);subst hi;have hlt:i<P.progs.length:=by omega
 obtain⟨g,hg⟩:∃g,P.progs[i]? = some g:=⟨P.progs[i],QXt hlt⟩;have hga:(P.progs.map Qh)[i]? = some (.agg g.cells):=by simp[hg,Qh]
 have hq:Q1 P (i:Int)=g:=by unfold Q1;rw[QYT,hg];rfl
 have c1:=v55 hP hU 16 (QXq _) g (QXF hg) v hv;have e16:(17:Int)-((16:Nat):Int)=1:=rfl;have ht:=R2 (P:=P) 16 g v hv;rw[e16,e0,Qs]at c1;simp only[Qh,PG.cells]at c1;simp only[PG.cells]at hga;rw[hq];simp only[d0,d1,Qi,QYT,Qb,hga,QYn,QXZ,QYA,QX2,QX9,splice,eE,seval];refine aC c1 ?_;by_cases hz:Xl P 16 g v=0
 ·have c2:=v56 v (ht hz);rw[Qs]at c2;have b0:((0:Int) != 0)=false:=rfl;rw[QXV hz];simp only[hz,b0,eE,seval];refine aC c2 ?_;by_cases hc:IntKind.i64.wrap (v.cnt:Int) > 4096
  ·have d2:decide (IntKind.i64.wrap (v.cnt:Int) > 4096)=true:=QZi hc;rw[QXV hc];simp only[d2,Qa,seval]
  ·have d2:decide (IntKind.i64.wrap (v.cnt:Int) > 4096)=false:=QZd hc;rw[QXG hc];simp only[d2,Qa,seval]
 ·have b1:(Xl P 16 g v != 0)=true:=by simp[hz]
  rw[QXG hz];simp only[b1,Qa,seval]

include hP hM hU hv in
theorem v14:Qk Tryz.prog 14 [P.av,.int .i64 t,v.av] (.int .i64 (Z1 P t v)):=by
 have e0:P.av=.agg [.list (P.progs.map Qh),.list (P.enums.map Qq)]:=rfl;rw[Qs];refine k14.fn (by simp) ?_;simp only[e0,eE,seval];unfold Z1;by_cases t0:t<0
 ·have d0:decide (t<0)=true:=QZi t0;rw[QXV (.inl t0)];simp only[d0,Qa,seval]
 have d0:decide (t<0)=false:=QZd t0;by_cases t1:t≥(P.progs.length:Int)
 ·have d1:decide (t≥(P.progs.length:Int))=true:=QZi t1;rw[QXV (.inr t1)];simp only[d0,d1,QYn,eE,seval]
 have d1:decide (t≥(P.progs.length:Int))=false:=QZd t1;rw[QXG (by omega)];have hlt:t.toNat<P.progs.length:=by omega
 obtain⟨g,hg⟩:∃g,P.progs[t.toNat]? = some g:=⟨P.progs[t.toNat],QXt hlt⟩;have hq:Q1 P t=g:=by unfold Q1;rw[hg];rfl
 have c1:=v31 hP hM hU 16 (QXq _) t g hg (by omega) v hv;have e16:(17:Int)-((16:Nat):Int)=1:=rfl;rw[e16,e0,Qs]at c1;rw[hq];simp only[d0,d1,QYn,eE,seval];refine aC c1 ?_;by_cases hz:Xl P 16 g v=0
 ·have c2:=v32 v hv;rw[Qs]at c2;have b0:((0:Int) != 0)=false:=rfl;rw[QXV hz];simp only[hz,b0,eE,seval];refine aC c2 ?_;by_cases hc:IntKind.i64.wrap (v.cnt:Int) > 4096
  ·have d2:decide (IntKind.i64.wrap (v.cnt:Int) > 4096)=true:=QZi hc;rw[QXV hc];simp only[d2,Qa,seval]
  ·have d2:decide (IntKind.i64.wrap (v.cnt:Int) > 4096)=false:=QZd hc;rw[QXG hc];simp only[d2,Qa,seval]
 ·have b1:(Xl P 16 g v != 0)=true:=by simp[hz]
  rw[QXG hz];simp only[b1,Qa,seval]

end
end Go.Proofs.YtipjfckmopekaaaGreatDoor.Va

namespace Go.Proofs.YtipjfckmopekaaaGreatDoor.Va
open Go Am Rc Bt Br

open Up So

theorem Ff {P:Program}{K:St→Prop}{Qe:List Am.Item}{f:Fr}{m:Qo}{ds:List DF}{d:Nat}{sz bytes el:Nat}{s r:RA}{site g n site' g' n':Nat}{fr:Nat→Ob}{xs ys:List AV}(hs:s.ev f=.vec 0 site g 0 n false)(hl:fr site=.vec g sz xs)(ht:XP site el=true)(hn:n=xs.length)
  (hr:r.ev f=.vec 0 site' g' 0 n' false) (hr2:fr site'=.vec g' sz ys) (hn':n'=ys.length) (hz:ys.all (fun e=>e.cells.length==sz)=true) (hm:n+ys.length≤maxLen) (hb:(n+ys.length)*bytes≤140737488355328)
  (h:QD P Qe ⟨QK f d (.vec 0 site (g+1) 0 (n+ys.length) false),QK fr site (.vec (g+1) sz (xs++ys)) :: m,ds⟩ K):QD P (⟨some d,.app sz bytes el s r,none⟩ :: Qe) ⟨f,fr :: m,ds⟩ K:=by
 refine⟨0,site,g,n,xs,ys,hs,hl,ht,by omega,?_,hz,hm,hb,?_⟩
 ·show Q7 (fr :: m) (r.ev f)=some ys;rw[hr];exact JW hr2 hn'
 ·subst hn;rw[QY1];exact h

theorem QaS (l O:List R)(i:Nat)(x:R)(hx:l[i]? = some x)(hO:O.length≤maxLen)(hs:Zi (fun x y:R=>decide (x.num<y.num)) O)(fr:Nat→Ob)(f:Fr)(h0:f 0=.list (l.map R.av))(h3:f 3=.list (O.map R.av))(h4:f 4=.int .i64 (i:Nat))(h5:f 5=.int .i64 (O.length:Nat))(Q:Exit→St→Prop)
  (q:∀(t:Nat) (f:Fr),t≤O.length→(∀j u,t≤j→O[j]? = some u→decide (x.num<u.num)=true)→(∀j u,j<t→O[j]? = some u→decide (x.num<u.num)=false)→f 0=.list (l.map R.av)→f 3=.list (O.map R.av)→f 4=.int .i64 (i:Nat)→f 5=.int .i64 (t:Nat)→Q (.exit 2) (⟨f,[fr],[]⟩:St)) :
  QH Tryz.prog (.loop Tj) ⟨f,[fr],[]⟩ Q:=by
 let I:Nat→St→Prop:=fun k st=>∃f t,st=⟨f,[fr],[]⟩∧k=t∧t≤O.length∧(∀j u,t≤j→O[j]? = some u→decide (x.num<u.num)=true)∧f 0=.list (l.map R.av)∧f 3=.list (O.map R.av)∧f 4=.int .i64 (i:Nat)∧f 5=.int .i64 (t:Nat)
 refine Qd I _ ⟨f,O.length,rfl,rfl,QXq _,(by intro j u hj hu;rw[QYQ hj]at hu;cases hu),h0,h3,h4,h5⟩ ?_;clear h0 h3 h4 h5;rintro t st ⟨f,_,rfl,rfl,ht,hv,h0,h3,h4,h5⟩;have hxa:=HK hx;simp only[h5,Qa,seval];cases t with
 |zero=>
  have d1:decide (((0:Nat):Int) > 0)=false:=by simp
  simp only[Qa,seval];exact q 0 _ (QXA _) hv (fun j u hj=>by omega) (by exact h0) (by exact h3) (by exact h4) (by exact h5)
 |succ r=>
  obtain⟨u,hu⟩:∃u,O[r]? = some u:=⟨O[r]'(by omega),QXt (by omega)⟩;have hua:=HK hu;have d1:decide (((r+1:Nat):Int) > 0)=true:=by simp only[QXx];omega
  have e2:IntKind.i64.wrap (((r+1:Nat):Int)-1)=((r:Nat):Int):=by
   simp only[maxLen]at hO;rw[QE];omega
  simp only[d1,e2,Qi,QYT,Qb,hxa,hua,h0,h3,h4,h5,eE,seval];cases hcx:decide (u.num > x.num)
  ·simp only[Qa,seval];refine q (r+1) _ ht hv (fun j u' hj hu'=>?_) (by exact h0) (by exact h3) (by exact h4) (by exact h5);have:=KP hs Cw (show j≤r by omega) hu' hu;exact Cw.nt x u u' hcx this
  ·simp only[e2,h5,Qa,seval];exact⟨r,by omega,_,r,rfl,rfl,by omega,(by
    intro j v hj hv';rcases Nat.lt_or_eq_of_le hj with h|h
    ·exact hv j v h hv'
    ·subst h;rw[hu]at hv';cases hv';exact hcx),(by exact h0),(by exact h3),(by exact h4),(by rfl)⟩

def RwI (l:List R)(k:Nat)(st:St):Prop :=
 ∃f fr i,st=⟨f,[fr],[]⟩∧k=l.length-i∧i≤l.length∧f 0=.list (l.map R.av)∧f 3=.list ((ZE (l.take i)).map R.av)∧f 4=.int .i64 (i:Nat)∧Qu (fr 37)=true∧Qu (fr 42)=true

set_option maxHeartbeats 1000000 in
theorem v69 (l:List R)(hn:l.length≤1048576):Qk Tryz.prog 69 [.list (l.map R.av)] (.list ((ZE l).map R.av)):=by
 refine k69.fn (by simp) ?_;simp only[Qa,seval];refine F0 (by simp only[Qa,seval]) ?_;simp only[Qa,seval];refine Qd (RwI l) _ ⟨_,_,0,rfl,rfl,QXA _,(by rfl),rfl,(by rfl),rfl,rfl⟩ ?_;rintro _ st ⟨f,fr,i,rfl,rfl,hil,h0,h3,h4,SD,r42⟩;simp only[QYn,h0,h4,Qa,seval];by_cases hlt:i<l.length
 ·obtain⟨x,hi⟩:∃x,l[i]? = some x:=⟨l[i],QXt hlt⟩;have hxa:=HK hi;have e1:=Ql i _ hlt (by simp only[maxLen];omega);have hp:(ZE (l.take i)).Perm (l.take i):=Xc _;have hO:(ZE (l.take i)).length=i:=by rw[hp.length_eq,QYp];omega
  clear hp;have hstep:ZE (l.take (i+1))=mg (fun x y:R=>decide (x.num<y.num)) (ZE (l.take i)) [x]:=by
   rw[QZa,hi,QZb];exact(WC Cw (l.take i) [x]).symm
  have hsrt:Zi (fun x y:R=>decide (x.num<y.num)) (ZE (l.take i)):=ZA Cw _;generalize ZE (l.take i)=O at *;simp only[Qm hlt,QYn,h3,Qa,seval];refine QaS l O i x hi (by simp only[maxLen];omega) hsrt fr _ (by exact h0) (by exact h3) (by exact h4) (by rfl) _ (fun t f ht hv hlow h0 h3 h4 h5=>?_);have hfin:(O.take t).map R.av++([x.av]++(O.drop t).map R.av)=(ZE (l.take (i+1))).map R.av:=by
   have:=YP (lt:=fun x y:R=>decide (x.num<y.num)) (y:=x) (X1:=O.take t) (X2:=O.drop t) (fun u hu=>by
    obtain⟨j,hj⟩:=QZz hu;rw[QX5]at hj;split at hj
    ·rename_i hjt;exact hlow j u hjt hj
    ·cases hj) (fun u hu=>by
    obtain⟨j,hj⟩:=QZz hu;rw[QX6]at hj;exact hv _ u (by omega) hj)
   rw[QYI]at this;rw[hstep,this];simp
  have hle:(t≤O.length)=True:=eq_true ht;have hdt:∀l':List AV,l'.length=O.length→(l'.drop t).take (O.length-t)=l'.drop t:=fun l' h=>QX0 (by rw[QX7];omega)
  have hd1:((O.drop t).map R.av).length=i-t:=by rw[QYn,QX7];omega
  have hd2:((O.take t).map R.av).length=t:=by rw[QYn,QYp];omega
  have hT:∀j,i+1≤j→List.take j ((O.take t).map R.av++([x.av]++(O.drop t).map R.av))=(ZE (l.take (i+1))).map R.av:=fun j hj=>by
   rw[QX0 (by simp only[QX4,QXH,QYo,hd1,hd2];omega),hfin]
  simp only[Qi,QYT,Qb,hxa,h0,h4,eE,seval];refine Gl (l:=[.int .i64 x.num,.int .i64 x.wire,.int .u64 (x.bits:Nat),.str x.data]) rfl rfl (by decide) rfl rfl SD ?_;simp only[nn0,QXY,QYt,QYn,Zv,QX,QY0,Qi,QYT,hle,QXq,or_true,Jc,hdt _ (QYn ..),h3,h5,Qa,seval];refine QG (site:=37) (g:=Xn (fr 37)) (n:=1) (xs:=[x.av]) (ys:=(O.drop t).map R.av) (by simp only[Qa,seval]) (by simp only[R.av,Qa,seval]) rfl rfl (by simp only[List.map_drop,Qa,seval]) (Jc _) (by rw[hd1];simp only[maxLen];omega) (by rw[hd1];omega) ?_;simp only[Qa,seval];refine Zy (by simp only[Qa,seval];exact r42) ?_;simp only[QYn,Zv,Zg,QX,QY0,Qi,QYT,QXA,QXq,hle,true_or,QYL,QX9,←List.map_take,h3,h5,Qa,seval];refine QG (site:=42) (g:=_) (n:=0) (xs:=[]) (ys:=(O.take t).map R.av) (by simp only[Qa,seval]<;>rfl) (by simp only[Qa,seval]) rfl rfl (by simp only[Qa,seval]) (Jc _) (by rw[hd2];simp only[maxLen];omega) (by rw[hd2];omega) ?_;simp only[Qa,seval];refine Ff (site:=42) (g:=_) (n:=0+((O.take t).map R.av).length) (xs:=(O.take t).map R.av) (ys:=[x.av]++(O.drop t).map R.av) (by simp only[Qa,seval]<;>rfl) (by simp only[Qa,seval]) rfl (by omega) (by simp only[Qa,seval]<;>rfl) (by simp only[Qa,seval]) (by simp only[QX4,QXH,QYo,QYn]<;>omega) (Jc (x :: O.drop t)) (by simp only[QX4,QXH,QYo,hd1,hd2,maxLen];omega) (by simp only[QX4,QXH,QYo,hd1,hd2];omega) ?_;simp only[Qa,seval];refine NO (site:=42) (g:=_) (sz:=4) (n:=_) (xs:=(O.take t).map R.av++([x.av]++(O.drop t).map R.av)) (by simp only[Qa,seval]<;>rfl) (by simp only[Qa,seval]) (by simp only[QX4,QXH,QYo,hd1,hd2];omega) ?_;rw[hT];rotate_left
  ·simp only[hd1,hd2];omega
  simp only[e1,h4,Qa,seval];exact⟨l.length-(i+1),by omega,_,_,i+1,rfl,rfl,by omega,(by exact h0),(by rfl),(by rfl),rfl,rfl⟩
 ·have hli:l.take i=l:=QX0 (by omega);rw[hli]at h3;simp only[Qw hlt,h3,Qa,seval]

theorem Qyu (k:Int)(a b:V)(_ha:a.bits<18446744073709551616)(_hb:b.bits<18446744073709551616):decide (UD k a.bits a.text b.bits b.text<0)=kl k a b:=by
 unfold UD kl;split
 ·exact AE _ _
 ·rw[Fu];unfold Km;split
  ·rw[decide_eq_decide,Jm,Jm,QE,QE];omega
  ·rfl

section
variable {P:PL}{k:Int}(hk:X3 k)(ps:List (V×V))(hn:ps.length≤1048576)(h1:∀p∈ps,p.1.one P k (-1)=0)(hb:∀p∈ps,p.1.bits<18446744073709551616)

include hk in
theorem Np {p q:V×V}(hp:p.1.one P k (-1)=0)(hq:q.1.one P k (-1)=0):Qk Tryz.prog 192 [p.1.av,q.1.av] (.int .i64 (UD k p.1.bits p.1.text q.1.bits q.1.text)):=by
 have h:=Qw9 k hk p.1.bits q.1.bits p.1.text q.1.text;rw[←(ZI hp).1,←(ZI hq).1]at h;exact h

theorem P4 (hk:X3 k)(hn:ps.length≤1048576)(h1:∀p∈ps,p.1.one P k (-1)=0)(hb:∀p∈ps,p.1.bits<18446744073709551616)(hu:ps.Pairwise fun q p=>Zo q.1 p.1=false)(O:List (V×V))(i:Nat)(x:V×V)(hx:ps[i]? = some x)(fr:Nat→Ob)(f:Fr)(h0:f 0=.list (ps.map V.pav))(h3:f 3=.list (O.map V.pav))(h4:f 4=.int .i64 (i:Nat))(h5:f 5=.bool true)(h6:f 6=.int .i64 ((i+1:Nat):Int))(Q:Exit→St→Prop)
  (q:∀f:Fr,f 0=.list (ps.map V.pav)→f 3=.list (O.map V.pav)→f 4=.int .i64 (i:Nat)→f 5=.bool true→Q (.exit 2) (⟨f,[fr],[]⟩:St)) :
  QH Tryz.prog (.loop MY) ⟨f,[fr],[]⟩ Q:=by
 let I:Nat→St→Prop:=fun n st=>∃f j,st=⟨f,[fr],[]⟩∧n=ps.length-j∧i<j∧f 0=.list (ps.map V.pav)∧f 3=.list (O.map V.pav)∧f 4=.int .i64 (i:Nat)∧f 5=.bool true∧f 6=.int .i64 (j:Nat)
 refine Qd I _ ⟨f,i+1,rfl,rfl,by omega,h0,h3,h4,h5,h6⟩ ?_;clear h0 h3 h4 h5 h6;rintro _ st ⟨f,j,rfl,rfl,hij,h0,h3,h4,h5,h6⟩;simp only[QYn,h0,h6,Qa,seval];by_cases hlt:j<ps.length
 ·obtain⟨y,hj⟩:∃y,ps[j]? = some y:=⟨ps[j],QXt hlt⟩;have hgx:=Z0 hx;have hgy:=Z0 hj;have e1:=Ql j _ hlt (by simp only[maxLen];omega);have hxm:=QXF hx;have hym:=QXF hj;have c1:=Np hk (h1 x hxm) (h1 y hym);have hne:UD k x.1.bits x.1.text y.1.bits y.1.text≠0:=by
   have h:=Vm hk (h1 x hxm) (h1 y hym) (hb x hxm) (hb y hym);rw[QZt]at hu;have:=hu i j (QXs.1 hx).1 hlt hij;rw[(QXs.1 hx).2,(QXs.1 hj).2]at this;rw[this]at h
   simpa using h
  have d1:(UD k x.1.bits x.1.text y.1.bits y.1.text != 0)=true:=by simp[hne]
  rw[Qs,Qs]at c1;simp only[Qm hlt,Qi,QYT,Qb,hgx,hgy,QXZ,QYA,QX9,h0,h4,h5,h6,eE,seval];refine aC c1 ?_;simp only[d1,h6,e1,Qa,seval];exact⟨ps.length-(j+1),by omega,_,j+1,rfl,rfl,by omega,(by exact h0),(by exact h3),(by exact h4),(by rfl),(by rfl)⟩
 ·simp only[Qw hlt,Qa,seval];exact q _ (by exact h0) (by exact h3) (by exact h4) (by exact h5)

theorem CP (hk:X3 k)(O:List (V×V))(hO:O.length≤1048576)(hO1:∀p∈O,p.1.one P k (-1)=0)(hOb:∀p∈O,p.1.bits<18446744073709551616)(i:Nat)(x:V×V)(hx:ps[i]? = some x)(hx1:x.1.one P k (-1)=0)(hxb:x.1.bits<18446744073709551616)(fr:Nat→Ob)(f:Fr)(h0:f 0=.list (ps.map V.pav))(h3:f 3=.list (O.map V.pav))(h4:f 4=.int .i64 (i:Nat))(h7:f 7=.int .i64 0)(Q:Exit→St→Prop)
  (q:∀(t:Nat) (f:Fr),t≤O.length→(∀j u,j<t→O[j]? = some u→kl k u.1 x.1=true)→(∀u,O[t]? = some u→kl k u.1 x.1=false)→f 0=.list (ps.map V.pav)→f 3=.list (O.map V.pav)→f 4=.int .i64 (i:Nat)→f 7=.int .i64 (t:Nat)→Q (.exit 4) (⟨f,[fr],[]⟩:St)) :
  QH Tryz.prog (.loop MZ) ⟨f,[fr],[]⟩ Q:=by
 let I:Nat→St→Prop:=fun n st=>∃f t,st=⟨f,[fr],[]⟩∧n=O.length-t∧t≤O.length∧(∀j u,j<t→O[j]? = some u→kl k u.1 x.1=true)∧f 0=.list (ps.map V.pav)∧f 3=.list (O.map V.pav)∧f 4=.int .i64 (i:Nat)∧f 7=.int .i64 (t:Nat)
 refine Qd I _ ⟨f,0,rfl,rfl,QXA _,(by intro j u hj;omega),h0,h3,h4,h7⟩ ?_;clear h0 h3 h4 h7;rintro _ st ⟨f,t,rfl,rfl,ht,hv,h0,h3,h4,h7⟩;simp only[QYn,h3,h7,Qa,seval];by_cases hlt:t<O.length
 ·obtain⟨u,hu⟩:∃u,O[t]? = some u:=⟨O[t],QXt hlt⟩;have hgx:=Z0 hx;have hgu:=Z0 hu;have hum:=QXF hu;have e1:=Ql t _ hlt (by simp only[maxLen];omega);have c1:=Np hk (hO1 u hum) hx1;have hc:=Qyu k u.1 x.1 (hOb u hum) hxb;rw[Qs,Qs]at c1;simp only[Qm hlt,Qi,QYT,Qb,hgx,hgu,QXZ,QYA,QX9,h0,h3,h4,h7,eE,seval];refine aC c1 ?_;cases hl:kl k u.1 x.1
  ·rw[hl]at hc;simp only[hc,Qa,seval];exact q t _ (by omega) hv (fun u' hu'=>by rw[hu]at hu';cases hu';exact hl) (by exact h0) (by exact h3) (by exact h4) (by exact h7)
  ·rw[hl]at hc;simp only[hc,h7,e1,Qa,seval];exact⟨O.length-(t+1),by omega,_,t+1,rfl,rfl,by omega,(by
    intro j u' hj hu';rcases Nat.lt_or_eq_of_le (show j≤t by omega)with h|h
    ·exact hv j u' h hu'
    ·subst h;rw[hu]at hu';cases hu';exact hl),(by exact h0),(by exact h3),(by exact h4),(by rfl)⟩
 ·simp only[Qw hlt,Qa,seval];exact q t _ ht hv (fun u hu=>by rw[QYQ (by omega)]at hu;cases hu) (by exact h0) (by exact h3) (by exact h4) (by exact h7)

end

theorem Qyv {k:Int}{P:PL}{a b:V}(ha:a.one P k (-1)=0)(hb:b.one P k (-1)=0)(ba:a.bits<18446744073709551616)(bb:b.bits<18446744073709551616)(h1:kl k a b=false)(h2:Zo a b=false):kl k b a=true:=by
 obtain⟨_,a1,a2⟩:=ZI ha;obtain⟨_,b1,b2⟩:=ZI hb;cases hc:kl k b a with
 |true=>rfl
 |false=>
  exfalso;unfold kl at h1 hc;unfold Zo at h2;split at h1
  ·rename_i ht;rw[QXV ht]at hc;have e:=UB h1 hc;have e1:=a1 ht;have e2:=b1 ht;rw[e,show a.bits=b.bits by omega]at h2;simp at h2
  ·rename_i ht;rw[QXG ht]at hc;have ht:Za k=false:=by simpa using ht
   rw[a2 ht,b2 ht]at h2;split at h1
   ·rename_i hs;rw[QXV hs]at hc;simp only[QZj]at h1 hc;rw[QE,QE]at h1 hc;rw[show a.bits=b.bits by omega]at h2;simp at h2
   ·rename_i hs;rw[QXG hs]at hc;simp only[QZj]at h1 hc;rw[show a.bits=b.bits by omega]at h2;simp at h2

def PwI (k:Int)(ps:List (V×V))(n:Nat)(st:St):Prop :=
 ∃f fr i,st=⟨f,[fr],[]⟩∧n=ps.length-i∧i≤ps.length∧f 0=.list (ps.map V.pav)∧f 3=.list ((Xj k (ps.take i)).map V.pav)∧f 4=.int .i64 (i:Nat)∧Qu (fr 63)=true∧Qu (fr 68)=true

set_option maxHeartbeats 1000000 in
theorem QSO {P:PL}{k:Int}(hk:X3 k)(ps:List (V×V))(hn:ps.length≤1048576)(h1:∀p∈ps,p.1.one P k (-1)=0)(hb:∀p∈ps,p.1.bits<18446744073709551616)(hu:ps.Pairwise fun q p=>Zo q.1 p.1=false):Qk Tryz.prog 114 [.list (ps.map V.pav)] (.list ((Xj k ps).map V.pav)):=by
 refine QMe.fn (by simp) ?_;simp only[Qa,seval];refine F0 (by simp only[Qa,seval]) ?_;simp only[Qa,seval];refine Qd (PwI k ps) _ ⟨_,_,0,rfl,rfl,QXA _,(by rfl),rfl,(by rfl),rfl,rfl⟩ ?_;rintro _ st ⟨f,fr,i,rfl,rfl,hil,h0,h3,h4,r63,r68⟩;simp only[QYn,h0,h4,Qa,seval];by_cases hlt:i<ps.length
 ·obtain⟨x,hi⟩:∃x,ps[i]? = some x:=⟨ps[i],QXt hlt⟩;have hxm:=QXF hi;have hxa:=Z0 hi;have e1:=Ql i _ hlt (by simp only[maxLen];omega);have hperm:(Xj k (ps.take i)).Perm (ps.take i):=Xc _;have hO:(Xj k (ps.take i)).length=i:=by rw[hperm.length_eq,QYp];omega
  have hstep:Xj k (ps.take (i+1))=mg (fun x y:V×V=>kl k x.1 y.1) (Xj k (ps.take i)) [x]:=by
   rw[QZa,hi,QZb];exact(WC (UZ k) (ps.take i) [x]).symm
  have hsrt:Zi (fun x y:V×V=>kl k x.1 y.1) (Xj k (ps.take i)):=ZA (UZ k) _;have hOm:∀p∈Xj k (ps.take i),p∈ps:=fun p hp=>QYf (hperm.mem_iff.1 hp)
  have hOk:∀p∈Xj k (ps.take i),Zo p.1 x.1=false:=by
   intro p hp;obtain⟨j,hj⟩:=QXD.1 (hperm.mem_iff.1 hp);have hjl:=(QXs.1 hj).1;rw[QYp]at hjl;rw[QX5,QXV (by omega)]at hj;rw[QZt]at hu;have:=hu j i (by omega) hlt (by omega);rw[(QXs.1 hj).2,(QXs.1 hi).2]at this;exact this
  generalize Xj k (ps.take i)=O at *;simp only[Qm hlt,e1,h4,Qa,seval];refine P4 ps hk hn h1 hb hu O i x hi fr _ (by exact h0) (by exact h3) (by exact h4) (by rfl) (by rfl) _ (fun f h0 h3 h4 h5=>?_);simp only[h5,Qa,seval];refine CP (P:=P) ps hk O (by omega) (fun p hp=>h1 p (hOm p hp)) (fun p hp=>hb p (hOm p hp)) i x hi (h1 x hxm) (hb x hxm) fr _ (by exact h0) (by exact h3) (by exact h4) (by rfl) _ (fun t f ht hlow hup h0 h3 h4 h7=>?_);have hfin:(O.take t).map V.pav++([V.pav x]++(O.drop t).map V.pav)=(Xj k (ps.take (i+1))).map V.pav:=by
   have:=YP (lt:=fun x y:V×V=>kl k x.1 y.1) (y:=x) (X1:=O.take t) (X2:=O.drop t) (fun u hu=>by
    obtain⟨j,hj⟩:=QZz hu;rw[QX5]at hj;split at hj
    ·rename_i hjt;exact(UZ k).as (hlow j u hjt hj)
    ·cases hj) (fun u hu'=>by
    obtain⟨j,hj⟩:=QZz hu';rw[QX6]at hj;have hum:=QXF hj;refine Qyv (h1 u (hOm u hum)) (h1 x hxm) (hb u (hOm u hum)) (hb x hxm) ?_ (hOk u hum);obtain⟨w,hw⟩:∃w,O[t]? = some w:=⟨O[t]'(by have:=(QXs.1 hj).1;omega),QXt _⟩;have h2:=KP hsrt (UZ k) (Nat.le_add_right t j) hw hj;exact(UZ k).nt u w x h2 (hup w hw))
   rw[QYI]at this;rw[hstep,this];simp
  have hle:(t≤O.length)=True:=eq_true ht;have hdt:∀l':List AV,l'.length=O.length→(l'.drop t).take (O.length-t)=l'.drop t:=fun l' h=>QX0 (by rw[QX7];omega)
  have hd1:((O.drop t).map V.pav).length=i-t:=by rw[QYn,QX7];omega
  have hd2:((O.take t).map V.pav).length=t:=by rw[QYn,QYp];omega
  have hT:∀j,i+1≤j→List.take j ((O.take t).map V.pav++([V.pav x]++(O.drop t).map V.pav))=(Xj k (ps.take (i+1))).map V.pav:=fun j hj=>by
   rw[QX0 (by simp only[QX4,QXH,QYo,hd1,hd2];omega),hfin]
  simp only[Qi,QYT,Qb,hxa,QXZ,QX9,h0,h4,eE,seval];refine Gl (l:=[.int .i64 x.1.kd,.int .u64 (x.1.bits:Nat),.str x.1.text,.list (x.1.list.map V.av),.list (x.1.pairs.map V.pav),.list (x.1.slots.map V.sav),.list (x.1.raws.map R.av),.int .i64 x.2.kd,.int .u64 (x.2.bits:Nat),.str x.2.text,.list (x.2.list.map V.av),.list (x.2.pairs.map V.pav),.list (x.2.slots.map V.sav),.list (x.2.raws.map R.av)]) rfl rfl (by decide) rfl rfl r63 ?_;simp only[nn0,QXY,QYt,QYn,Zv,QX,QY0,Qi,QYT,hle,QXq,or_true,Wm,hdt _ (QYn ..),h3,h7,Qa,seval];refine QG (site:=63) (g:=Xn (fr 63)) (n:=1) (xs:=[V.pav x]) (ys:=(O.drop t).map V.pav) (by simp only[Qa,seval]) (by simp only[ZZ,Qa,seval]) rfl rfl (by simp only[List.map_drop,Qa,seval]) (Wm _) (by rw[hd1];simp only[maxLen];omega) (by rw[hd1];omega) ?_;simp only[Qa,seval];refine Zy (by simp only[Qa,seval];exact r68) ?_;simp only[QYn,Zv,Zg,QX,QY0,Qi,QYT,QXA,QXq,hle,true_or,QYL,QX9,←List.map_take,h3,h7,Qa,seval];refine QG (site:=68) (g:=_) (n:=0) (xs:=[]) (ys:=(O.take t).map V.pav) (by simp only[Qa,seval]<;>rfl) (by simp only[Qa,seval]) rfl rfl (by simp only[Qa,seval]) (Wm _) (by rw[hd2];simp only[maxLen];omega) (by rw[hd2];omega) ?_;simp only[Qa,seval];refine Ff (site:=68) (g:=_) (n:=0+((O.take t).map V.pav).length) (xs:=(O.take t).map V.pav) (ys:=[V.pav x]++(O.drop t).map V.pav) (by simp only[Qa,seval]<;>rfl) (by simp only[Qa,seval]) rfl (by omega) (by simp only[Qa,seval]<;>rfl) (by simp only[Qa,seval]) (by simp only[QX4,QXH,QYo,QYn]<;>omega) (Wm (x :: O.drop t)) (by simp only[QX4,QXH,QYo,hd1,hd2,maxLen];omega) (by simp only[QX4,QXH,QYo,hd1,hd2];omega) ?_;simp only[Qa,seval];refine NO (site:=68) (g:=_) (sz:=14) (n:=_) (xs:=(O.take t).map V.pav++([V.pav x]++(O.drop t).map V.pav)) (by simp only[Qa,seval]<;>rfl) (by simp only[Qa,seval]) (by simp only[QX4,QXH,QYo,hd1,hd2];omega) ?_;rw[hT];rotate_left
  ·simp only[hd1,hd2];omega
  simp only[e1,h4,Qa,seval];exact⟨ps.length-(i+1),by omega,_,_,i+1,rfl,rfl,by omega,(by exact h0),(by rfl),(by rfl),rfl,rfl⟩
 ·have hli:ps.take i=ps:=QX0 (by omega);rw[hli]at h3;simp only[Qw hlt,h3,Qa,seval]

section
variable {M:Nat}{P:PL}{m:PG→V→Prop}{nm:PG→V→V}(o:PO)(ho:UO P o)

include ho in
theorem QSP (hm:∀(t:Int) (g:PG),P.progs[t.toNat]? = some g→0≤t→∀v:V,v.ok M→v.cnt≤1048576→m g v→Qk Tryz.prog 35 [P.av,.int .i64 t,v.av] (nm g v).av)(v:V)(hv:v.ok M)(hc:v.cnt≤1048576)(he:EW m P o v) :
  Qk Tryz.prog 113 [P.av,Qr o,v.av] (ZG nm P o v).av:=by
 have e0:P.av=.agg [.list (P.progs.map Qh),.list (P.enums.map Qq)]:=rfl;unfold ZG;by_cases hk:o.kind=10
 ·have b:(o.kind==10)=true:=by simp[hk]
  have he:=he hk;rw[QXV hk];obtain⟨t0,t1⟩:=ho.tgt hk;obtain⟨g,hg⟩:∃g,P.progs[o.target.toNat]? = some g:=⟨P.progs[o.target.toNat]'(by omega),QXt (by omega)⟩;have hq:Q1 P o.target=g:=by unfold Q1;rw[hg];rfl
  rw[hq]at he ⊢;have h2:=hm o.target g hg t0 v hv hc he;generalize nm g v=z at h2 ⊢;rw[e0,Qs,Qs]at h2;rw[Qs,Qs];refine QpJ.fn (by simp) ?_;simp only[e0,Qr,PO.cells,b,eE,seval];refine aC h2 ?_;simp only[eE,seval]
 ·have b:(o.kind==10)=false:=by simp[hk]
  rw[QXG hk];have h1:=v75 v (Z9 hv);generalize v.nsc=z at h1 ⊢;rw[Qs,Qs]at h1;rw[Qs,Qs];refine QpJ.fn (by simp) ?_;simp only[e0,Qr,PO.cells,b,eE,seval];refine aC h1 ?_;simp only[eE,seval]

def WlI (P:PL)(o:PO)(v:V)(F:V→V)(k:Nat)(st:St):Prop :=
 ∃f fr i g,st=⟨f,[fr],[]⟩∧k=v.list.length-i∧i≤v.list.length∧f 3=.ptr 0 3 0∧f 4=.ptr 0 4 0∧f 5=.ptr 0 5 0∧f 6=.ptr 0 6 0∧f 7=.ptr 0 7 0∧f 8=.int .i64 (i:Nat)∧fr 3=.cells [.list (P.progs.map Qh),.list (P.enums.map Qq)]∧fr 4=.cells o.cells∧fr 5=.cells [.int .i64 v.kd,.int .u64 (v.bits:Nat),.str v.text,.list (v.list.map V.av),.list (v.pairs.map V.pav),.list (v.slots.map V.sav),.list (v.raws.map R.av)]∧fr 6=.cells [.int .i64 0,.int .u64 0,.str [],.nils,.nils,.nils,.nils]∧fr 7=.cells [.int .i64 11,.int .u64 0,.str [],.vec 0 1100 g 0 i false,.nils,.nils,.nils]∧fr 1100=.vec g 7 ((v.list.take i).map fun x=>(F x).av)

def WpI (P:PL)(o:PO)(T:List (V×V))(F:V×V→V×V)(k:Nat)(st:St):Prop :=
 ∃f fr i g,st=⟨f,[fr],[]⟩∧k=T.length-i∧i≤T.length∧f 3=.ptr 0 3 0∧f 4=.ptr 0 4 0∧f 6=.ptr 0 6 0∧f 9=.ptr 0 9 0∧f 10=.list (T.map V.pav)∧f 11=.int .i64 (i:Nat)∧fr 3=.cells [.list (P.progs.map Qh),.list (P.enums.map Qq)]∧fr 4=.cells o.cells∧fr 6=.cells [.int .i64 0,.int .u64 0,.str [],.nils,.nils,.nils,.nils]∧fr 9=.cells [.int .i64 12,.int .u64 0,.str [],.nils,.vec 0 1101 g 0 i false,.nils,.nils]∧fr 1101=.vec g 14 ((T.take i).map fun x=>V.pav (F x))

set_option maxHeartbeats 1000000 in
include ho in
theorem v70 (hel:∀v:V,v.ok M→v.cnt≤1048576→EW m P o v→Qk Tryz.prog 113 [P.av,Qr o,v.av] (ZG nm P o v).av)(v:V)(hv:v.ok M)(hc:v.cnt≤1048576)(he:FW m P o v) :
  Qk Tryz.prog 70 [P.av,Qr o,v.av] (ZT nm P o v).av:=by
 have e0:P.av=.agg [.list (P.progs.map Qh),.list (P.enums.map Qq)]:=rfl;unfold ZT;unfold FW at he;by_cases h4:o.card=4
 ·have b4:(o.card==4)=true:=by simp[h4]
  rw[QXV h4]at he;rw[QXV h4];have hL:=he;have hlen:=JT v;rw[Qs v];generalize hF:ZG nm P o=F at hel ⊢;rw[show(V.mk 11 0 [] (v.list.map F) [] [] []).av=.agg [.int .i64 11,.int .u64 0,.str [],.list ((v.list.map F).map V.av),.list [],.list [],.list []]from Qs _];refine k70.fn (by simp) ?_;simp only[e0,Qr,PO.cells,b4,eE,seval];refine JO (by simp only[Qa,seval]<;>rfl) rfl (by simp only[Qa,seval]<;>rfl) rfl ?_;simp only[List.set,Qa,seval];refine Qd (WlI P o v F) _ ⟨_,_,0,_,rfl,rfl,QXA _,(by rfl),(by rfl),(by rfl),(by rfl),(by rfl),(by rfl),(by rfl),(by rfl),(by rfl),(by rfl),(by rfl),(by rfl)⟩ ?_;rintro _ st ⟨f,fr,i,g,rfl,rfl,hil,h3,h4,h5,h6,h7,h8,m3,m4,m5,m6,m7,mR⟩;have m4':=m4;simp only[PO.cells]at m4;simp only[QYn,h5,h8,m5,eE,seval];by_cases hlt:i<v.list.length
  ·obtain⟨x,hi⟩:∃x,v.list[i]? = some x:=⟨v.list[i],QXt hlt⟩;have hx:=QXF hi;have hg:=WF hi;have e1:=Ql i _ hlt (by simp only[maxLen];omega);have c1:=hel x (hv.list x hx) (QXr (YS hx) hc) (hL x hx);have hti:((v.list.take i).map fun x=>(F x).av).length=i:=by rw[QYn,QYp];omega
   have hts:(v.list.take (i+1)).map (fun x=>(F x).av)=(v.list.take i).map (fun x=>(F x).av)++[(F x).av]:=by rw[QZa,hi];simp
   generalize F x=z at c1 hts;rw[e0,Qs x,Qs z]at c1;simp only[Qr,PO.cells]at c1;simp only[Qm hlt,Qi,QYT,Qb,hg,h3,h4,h5,h7,h8,m3,m4,m5,m7,eE,seval];refine aC c1 ?_;refine QP (l:=[z.av]) rfl rfl rfl (by rw[Qs];rfl) ?_;refine QG (site:=1100) (g:=g) (n:=i) (xs:=(v.list.take i).map fun x=>(F x).av) (ys:=[z.av]) (by rfl) (by exact mR) rfl hti.symm rfl (BU [z]) (by simp only[QXH,QYo,maxLen];omega) (by simp only[QXH,QYo];omega) ?_;simp only[h7,h8,m7,e1,eE,seval];exact⟨v.list.length-(i+1),by omega,_,_,i+1,g+1,rfl,rfl,by omega,(by exact h3),(by exact h4),(by exact h5),(by exact h6),(by exact h7),(by rfl),(by exact m3),(by exact m4'),(by exact m5),(by exact m6),(by rfl),(by rw[hts];exact(by rfl))⟩
  ·have e:i=v.list.length:=by omega
   subst e;rw[QY1,AG]at mR;simp only[Qw hlt,h6,h7,m6,m7,eE,seval];simp[AV.un,AV.unL,XZ,Xm,mR,QX0]
 ·have b4:(o.card==4)=false:=by simp[h4]
  rw[QXG h4];by_cases h5:o.card=5
  ·have b5:(o.card==5)=true:=by simp[h5]
   rw[QXG h4,QXV h5]at he;rw[QXV h5];have hE:=he;have hlen:=KR v;have hk:=ho.key h5;have cp:=QSO hk v.pairs (by omega) (fun p hp=>(hE.1 p hp).1) (fun p hp=>Z9 (hv.keys p hp)) hE.2;have hperm:(Xj o.key v.pairs).Perm v.pairs:=Xc _;have hTl:(Xj o.key v.pairs).length=v.pairs.length:=hperm.length_eq;have hTm:∀p∈Xj o.key v.pairs,p∈v.pairs:=fun p h=>hperm.mem_iff.1 h
   generalize Xj o.key v.pairs=T at *;rw[Qs v];generalize hF:(fun p:V×V=>(p.1.nsc,ZG nm P o p.2))=F;rw[show(V.mk 12 0 [] [] (T.map F) [] []).av=.agg [.int .i64 12,.int .u64 0,.str [],.list [],.list ((T.map F).map V.pav),.list [],.list []]from Qs _];refine k70.fn (by simp) ?_;simp only[e0,Qr,PO.cells,b4,b5,eE,seval];refine JO (by simp only[Qa,seval]<;>rfl) rfl (by simp only[Qa,seval]<;>rfl) rfl ?_;simp only[List.set,eE,seval];refine aC cp ?_;simp only[Qa,seval];refine Qd (WpI P o T F) _ ⟨_,_,0,_,rfl,rfl,QXA _,(by rfl),(by rfl),(by rfl),(by rfl),(by rfl),(by rfl),(by rfl),(by rfl),(by rfl),(by rfl),(by rfl)⟩ ?_;rintro _ st ⟨f,fr,i,g,rfl,rfl,hil,h3,h4,h6,h9,h10,h11,m3,m4,m6,m9,mR⟩;have m4':=m4;simp only[PO.cells]at m4;simp only[QYn,h10,h11,Qa,seval];by_cases hlt:i<T.length
   ·obtain⟨x,hi⟩:∃x,T[i]? = some x:=⟨T[i],QXt hlt⟩;have hx:=hTm x (QXF hi);have hg:=Z0 hi;have e1:=Ql i _ hlt (by simp only[maxLen];omega);have c0:=v75 x.1 (Z9 (hv.keys x hx));have c1:=hel x.2 (hv.vals x hx) (QXr (U5 hx) hc) (hE.1 x hx).2;have hti:((T.take i).map fun x=>V.pav (F x)).length=i:=by rw[QYn,QYp];omega
    have hFx:F x=(x.1.nsc,ZG nm P o x.2):=by rw[←hF]
    have hts:(T.take (i+1)).map (fun x=>V.pav (F x))=(T.take i).map (fun x=>V.pav (F x))++[V.pav (x.1.nsc,ZG nm P o x.2)]:=by rw[QZa,hi,←hFx];simp
    generalize x.1.nsc=y at c0 hts;generalize ZG nm P o x.2=z at c1 hts;rw[Qs,Qs y]at c0;rw[e0,Qs,Qs z]at c1;simp only[Qr,PO.cells]at c1;simp only[Qm hlt,Qi,QYT,Qb,hg,h9,h10,h11,m9,eE,seval];refine aC c0 ?_;simp only[Qi,QYT,Qb,hg,QXZ,QX2,QX9,h3,h4,h10,h11,m3,m4,eE,seval];refine aC c1 ?_;simp only[eE,seval];refine QP (l:=[V.pav (y,z)]) rfl rfl rfl (by rw[ZZ];rfl) ?_;refine QG (site:=1101) (g:=g) (n:=i) (xs:=(T.take i).map fun x=>V.pav (F x)) (ys:=[V.pav (y,z)]) (by rfl) (by exact mR) rfl hti.symm rfl (Wm [(y,z)]) (by simp only[QXH,QYo,maxLen];omega) (by simp only[QXH,QYo];omega) ?_;simp only[h9,h11,m9,e1,eE,seval];exact⟨T.length-(i+1),by omega,_,_,i+1,g+1,rfl,rfl,by omega,(by exact h3),(by exact h4),(by exact h6),(by exact h9),(by exact h10),(by rfl),(by exact m3),(by exact m4'),(by exact m6),(by rfl),(by rw[hts];exact(by rfl))⟩
   ·have e:i=T.length:=by omega
    subst e;rw[QY1,PY]at mR;simp only[Qw hlt,h6,h9,m6,m9,eE,seval];simp[AV.un,AV.unL,XZ,Xm,mR,QX0]
  ·have b5:(o.card==5)=false:=by simp[h5]
   rw[QXG h4,QXG h5]at he;rw[QXG h5];have c1:=hel v hv hc he;generalize ZG nm P o v=z at c1 ⊢;rw[e0,Qs v,Qs z]at c1;simp only[Qr,PO.cells]at c1;rw[Qs v,Qs z];refine k70.fn (by simp) ?_;simp only[e0,Qr,PO.cells,b4,b5,eE,seval];refine aC c1 ?_;simp only[eE,seval]

end

theorem P5 {fr:Nat→Ob}{a b:Nat}(h1:(fr a).isRow=false)(h2:(fr b).isRow=false):∀s∈[a,b],(fr s).isRow=false:=by
 intro s hs;simp only[QYO,QZw,or_false]at hs;rcases hs with rfl|rfl
 ·exact h1
 ·exact h2
theorem UK {fr:Nat→Ob}{a:Nat}(h1:(fr a).isRow=false):∀s∈[a],(fr s).isRow=false:=by
 intro s hs;simp only[QYO,QZw,or_false]at hs;subst hs;exact h1

theorem isr {x:Ob}(h:x=.none):x.isRow=false:=by rw[h];rfl

def ZB (nm:PG→V→V)(P:PL)(o:PO)(s:Int×V):List (Int×V):=if (s.1==o.num)=true then ZJ nm P o s else []
theorem Fg (nm:PG→V→V)(P:PL)(o:PO):∀l:List (Int×V),(l.flatMap (ZB nm P o)).length≤l.length
 | []=>QXq _
 |s :: l=>by
  have h1:(ZB nm P o s).length≤1:=by
   unfold ZB;split
   ·unfold ZJ;split<;>simp
   ·simp
  have:=Fg nm P o l;rw[QYV,QX4,QXH];omega

def Kk (v:V):List AV:=[.int .i64 v.kd,.int .u64 (v.bits:Nat),.str v.text,.list (v.list.map V.av),.list (v.pairs.map V.pav),.list (v.slots.map V.sav),.list (v.raws.map R.av)]

theorem Sp {P:PL}{v:V}{o:PO}{n:Nat}{ti i:Nat}(K:List (Int×V))(hK:K.length≤64)(hS:v.slots.length≤1048576)(rw':List R)
  (hw:∀x∈v.slots,x.1=o.num→Qk Tryz.prog 70 [P.av,Qr o,x.2.av] (ZT (Xi P n) P o x.2).av)
  (fr:Nat→Ob) (f:Fr) (gs:Nat) (h1:f 1=.int .i64 (ti:Nat)) (h3:f 3=.ptr 0 3 0) (h5:f 5=.ptr 0 5 0) (h6:f 6=.ptr 0 6 0) (h7:f 7=.ptr 0 7 0) (h8:f 8=.int .i64 (i:Nat)) (h9:f 9=.ptr 0 9 0) (h10:f 10=.int .i64 0) (m3:fr 3=.cells [.list (P.progs.map Qh),.list (P.enums.map Qq)]) (m5:fr 5=.cells (Kk v)) (m6:fr 6=.cells [.int .i64 0,.int .u64 0,.str [],.nils,.nils,.nils,.nils]) (m7:fr 7=.cells [.int .i64 10,.int .u64 0,.str [],.nils,.nils,.vec 0 1100 gs 0 K.length false,.list (rw'.map R.av)]) (m9:fr 9=.cells o.cells) (mS:fr 1100=.vec gs 8 (K.map V.sav)) (Z5:∀s∈[11],(fr s).isRow=false)
  (Q:Exit→St→Prop)
  (q:∀(f:Fr) (fr:Nat→Ob) (gs:Nat),f 1=.int .i64 (ti:Nat)→f 3=.ptr 0 3 0→f 5=.ptr 0 5 0→f 6=.ptr 0 6 0→f 7=.ptr 0 7 0→f 8=.int .i64 (i:Nat)→fr 3=.cells [.list (P.progs.map Qh),.list (P.enums.map Qq)]→fr 5=.cells (Kk v)→fr 6=.cells [.int .i64 0,.int .u64 0,.str [],.nils,.nils,.nils,.nils]→fr 7=.cells [.int .i64 10,.int .u64 0,.str [],.nils,.nils,.vec 0 1100 gs 0 (K++v.slots.flatMap (ZB (Xi P n) P o)).length false,.list (rw'.map R.av)]→fr 1100=.vec gs 8 ((K++v.slots.flatMap (ZB (Xi P n) P o)).map V.sav)→(fr 9).isRow=false→(fr 11).isRow=false→Q (.exit 2) (⟨f,[fr],[]⟩:St)) :
  QH Tryz.prog (.loop SM) ⟨f,[fr],[]⟩ Q:=by
 have e0:P.av=.agg [.list (P.progs.map Qh),.list (P.enums.map Qq)]:=rfl
 let L:Nat→List (Int×V):=fun k=>K++(v.slots.take k).flatMap (ZB (Xi P n) P o)
 have hL0:L 0=K:=by simp[L]
 have hLn:L v.slots.length=K++v.slots.flatMap (ZB (Xi P n) P o):=by simp[L]
 have hLl:∀k,k≤v.slots.length→(L k).length≤64+k:=by
  intro k hk;have:=Fg (Xi P n) P o (v.slots.take k);rw[QYp]at this;simp only[L,QX4];omega
 have hLs:∀k x,v.slots[k]? = some x→L (k+1)=L k++ZB (Xi P n) P o x:=by
  intro k x hx;simp only[L];rw[QZa,hx,QZA,QXN];simp
 rw[←hLn]at q;rw[←hL0]at m7 mS
 clear_value L
 clear hL0 hLn hK
 let I:Nat→St→Prop:=fun d st=>∃f fr k gs,st=⟨f,[fr],[]⟩∧d=v.slots.length-k∧k≤v.slots.length∧f 1=.int .i64 (ti:Nat)∧f 3=.ptr 0 3 0∧f 5=.ptr 0 5 0∧f 6=.ptr 0 6 0∧f 7=.ptr 0 7 0∧f 8=.int .i64 (i:Nat)∧f 9=.ptr 0 9 0∧f 10=.int .i64 (k:Nat)∧fr 3=.cells [.list (P.progs.map Qh),.list (P.enums.map Qq)]∧fr 5=.cells (Kk v)∧fr 6=.cells [.int .i64 0,.int .u64 0,.str [],.nils,.nils,.nils,.nils]∧fr 7=.cells [.int .i64 10,.int .u64 0,.str [],.nils,.nils,.vec 0 1100 gs 0 (L k).length false,.list (rw'.map R.av)]∧fr 9=.cells o.cells∧fr 1100=.vec gs 8 ((L k).map V.sav)∧∀s∈[11],(fr s).isRow=false
 refine Qd I _ ⟨f,fr,0,gs,rfl,rfl,QXA _,h1,h3,h5,h6,h7,h8,h9,h10,m3,m5,m6,m7,m9,mS,Z5⟩ ?_;clear h1 h3 h5 h6 h7 h8 h9 h10 m3 m5 m6 m7 m9 mS Z5;rintro _ st ⟨f0,fr0,k,gs,rfl,rfl,hkl,h10,h30,h50,h60,h70,h80,h90,h100,m30,m50,m60,m70,m90,mS0,Z5⟩;refine QJ (a:=_) [11] Z5 ?_;intro f fr hf hm hn11;have h1:f 1=.int .i64 (ti:Nat):=by rw[hf,h10]<;>rfl
 have h3:f 3=.ptr 0 3 0:=by rw[hf,h30]<;>rfl
 have h5:f 5=.ptr 0 5 0:=by rw[hf,h50]<;>rfl
 have h6:f 6=.ptr 0 6 0:=by rw[hf,h60]<;>rfl
 have h7:f 7=.ptr 0 7 0:=by rw[hf,h70]<;>rfl
 have h8:f 8=.int .i64 (i:Nat):=by rw[hf,h80]<;>rfl
 have h9:f 9=.ptr 0 9 0:=by rw[hf,h90]<;>rfl
 have h10':f 10=.int .i64 (k:Nat):=by rw[hf,h100]<;>rfl
 have m3:fr 3=.cells [.list (P.progs.map Qh),.list (P.enums.map Qq)]:=by rw[hm 3 (by decide),m30]<;>rfl
 have m5':fr 5=.cells (Kk v):=by rw[hm 5 (by decide),m50]<;>rfl
 have m6:fr 6=.cells [.int .i64 0,.int .u64 0,.str [],.nils,.nils,.nils,.nils]:=by rw[hm 6 (by decide),m60]<;>rfl
 have m7:fr 7=.cells [.int .i64 10,.int .u64 0,.str [],.nils,.nils,.vec 0 1100 gs 0 (L k).length false,.list (rw'.map R.av)]:=by rw[hm 7 (by decide),m70]<;>rfl
 have m9':fr 9=.cells o.cells:=by rw[hm 9 (by decide),m90]<;>rfl
 have mS:fr 1100=.vec gs 8 ((L k).map V.sav):=by rw[hm 1100 (by decide),mS0]<;>rfl
 have n11:=hn11 11 (by decide);clear hf hm hn11 h10 h30 h50 h60 h70 h80 h90 h100 m30 m50 m60 m70 m90 mS0 Z5;have m5:=m5';have m9:=m9';simp only[Kk]at m5;simp only[PO.cells]at m9;simp only[QYn,h5,h10',m5,eE,seval];by_cases hlt:k<v.slots.length
 ·obtain⟨x,hi⟩:∃x,v.slots[k]? = some x:=⟨v.slots[k],QXt hlt⟩;have hx:=QXF hi;have hgs:=Jv hi;have e1:=Ql k _ hlt (by simp only[maxLen];omega);have hKs:=hLs k x hi;have hKi:=hLl k (by omega);have fin:∀(f':Fr) (fr':Nat→Ob) (gs':Nat),f' 1=.int .i64 (ti:Nat)→f' 3=.ptr 0 3 0→f' 5=.ptr 0 5 0→f' 6=.ptr 0 6 0→f' 7=.ptr 0 7 0→f' 8=.int .i64 (i:Nat)→f' 9=.ptr 0 9 0→f' 10=.int .i64 ((k+1:Nat):Int)→fr' 3=.cells [.list (P.progs.map Qh),.list (P.enums.map Qq)]→fr' 5=.cells (Kk v)→fr' 6=.cells [.int .i64 0,.int .u64 0,.str [],.nils,.nils,.nils,.nils]→fr' 7=.cells [.int .i64 10,.int .u64 0,.str [],.nils,.nils,.vec 0 1100 gs' 0 (L (k+1)).length false,.list (rw'.map R.av)]→fr' 9=.cells o.cells→fr' 1100=.vec gs' 8 ((L (k+1)).map V.sav)→(∀s∈[11],(fr' s).isRow=false)→∃d,d<v.slots.length-k∧I d ⟨f',[fr'],[]⟩:=by
   intro f' fr' gs' a1 a3 a5 a6 a7 a8 a9 a10 b3 b5 b6 b7 b9 bS br;exact⟨v.slots.length-(k+1),by omega,f',fr',k+1,gs',rfl,rfl,by omega,a1,a3,a5,a6,a7,a8,a9,a10,b3,b5,b6,b7,b9,bS,br⟩
  cases hne:(x.1==o.num)
  ·have bn:(x.1 != o.num)=true:=by simp[bne,hne]
   unfold ZB at hKs;rw[hne,QXG (by simp),QYv]at hKs;simp only[Qm hlt,Qi,QYT,Qb,hgs,bn,QX9,h5,h9,h10',m5,m9,e1,eE,seval];exact fin _ _ gs (by exact h1) (by exact h3) (by exact h5) (by exact h6) (by exact h7) (by exact h8) (by exact h9) (by rfl) (by exact m3) (by exact m5') (by exact m6) (by rw[hKs];exact(by exact m7)) (by exact m9') (by rw[hKs];exact(by exact mS)) (UK (isr (by exact n11)))
  ·have bn:(x.1 != o.num)=false:=by simp[bne,hne]
   unfold ZB at hKs;rw[hne,QXV rfl]at hKs;unfold ZJ at hKs;have c2:=hw x hx (by simpa using hne);have c3:=QJa (ZT (Xi P n) P o x.2);generalize ZT (Xi P n) P o x.2=z at c2 c3 hKs;rw[e0,Qs x.2,Qs z]at c2;rw[Qs z]at c3;simp only[Qr,PO.cells]at c2;simp only[Qm hlt,Qi,QYT,Qb,hgs,bn,QXZ,QX2,QX9,h3,h5,h9,h10',m3,m5,m9,eE,seval];refine aC c2 ?_;simp only[n11,h9,m9,eE,seval];cases hb:decide (o.card<3)
   ·rw[hb,QY7]at hKs;simp only[eE,seval];refine aC c3 ?_;cases hz:z.emp
    ·rw[hz,QXV (show(!false)=true from rfl)]at hKs;simp only[h7,h9,m7,m9,eE,seval];refine QP (l:=[V.sav (o.num,z)]) rfl rfl rfl (by rw[Zs];rfl) ?_;refine QG (site:=1100) (g:=gs) (n:=(L k).length) (xs:=(L k).map V.sav) (ys:=[V.sav (o.num,z)]) (by rfl) (by exact mS) rfl (by rw[QYn]) rfl (Yf [(o.num,z)]) (by simp only[QXH,QYo,maxLen];omega) (by simp only[QXH,QYo];omega) ?_;simp only[h7,h10',m7,e1,eE,seval];exact fin _ _ (gs+1) (by exact h1) (by exact h3) (by exact h5) (by exact h6) (by exact h7) (by exact h8) (by exact h9) (by rfl) (by exact m3) (by exact m5') (by exact m6) (by rw[hKs,QX4];exact(by rfl)) (by exact m9') (by rw[hKs,QY9];exact(by rfl)) (UK rfl)
    ·rw[hz,QXG (by simp),QYv]at hKs;simp only[h10',e1,Qa,seval];exact fin _ _ gs (by exact h1) (by exact h3) (by exact h5) (by exact h6) (by exact h7) (by exact h8) (by exact h9) (by rfl) (by exact m3) (by exact m5') (by exact m6) (by rw[hKs];exact(by exact m7)) (by exact m9') (by rw[hKs];exact(by exact mS)) (UK rfl)
   ·rw[hb,QY6,QXV rfl]at hKs;simp only[h7,h9,m7,m9,eE,seval];refine QP (l:=[V.sav (o.num,z)]) rfl rfl rfl (by rw[Zs];rfl) ?_;refine QG (site:=1100) (g:=gs) (n:=(L k).length) (xs:=(L k).map V.sav) (ys:=[V.sav (o.num,z)]) (by rfl) (by exact mS) rfl (by rw[QYn]) rfl (Yf [(o.num,z)]) (by simp only[QXH,QYo,maxLen];omega) (by simp only[QXH,QYo];omega) ?_;simp only[h7,h10',m7,e1,eE,seval];exact fin _ _ (gs+1) (by exact h1) (by exact h3) (by exact h5) (by exact h6) (by exact h7) (by exact h8) (by exact h9) (by rfl) (by exact m3) (by exact m5') (by exact m6) (by rw[hKs,QX4];exact(by rfl)) (by exact m9') (by rw[hKs,QY9];exact(by rfl)) (UK rfl)
 ·have e:k=v.slots.length:=by omega
  subst e;simp only[Qw hlt,Qa,seval];exact q _ _ gs (by exact h1) (by exact h3) (by exact h5) (by exact h6) (by exact h7) (by exact h8) (by exact m3) (by exact m5') (by exact m6) (by exact m7) (by exact mS) (by rw[m9'];rfl) (isr n11)

def NoI (P:PL)(v:V)(K:Nat→List (Int×V))(len:Nat)(t:Nat)(rw':List R)(d:Nat)(st:St):Prop :=
 ∃f fr i gs,st=⟨f,[fr],[]⟩∧d=len-i∧i≤len∧f 1=.int .i64 (t:Nat)∧f 3=.ptr 0 3 0∧f 5=.ptr 0 5 0∧f 6=.ptr 0 6 0∧f 7=.ptr 0 7 0∧f 8=.int .i64 (i:Nat)∧fr 3=.cells [.list (P.progs.map Qh),.list (P.enums.map Qq)]∧fr 5=.cells (Kk v)∧fr 6=.cells [.int .i64 0,.int .u64 0,.str [],.nils,.nils,.nils,.nils]∧fr 7=.cells [.int .i64 10,.int .u64 0,.str [],.nils,.nils,.vec 0 1100 gs 0 (K i).length false,.list (rw'.map R.av)]∧fr 1100=.vec gs 8 ((K i).map V.sav)∧∀s∈[11,9],(fr s).isRow=false

section
variable {M:Nat}{P:PL}

set_option maxHeartbeats 2000000 in
theorem v35 (hU:Yo P)(hr:KI P)(hl:∀g∈P.progs,g.ops.length≤64):∀(n:Nat) (t:Int) (g:PG),P.progs[t.toNat]? = some g→0≤t→∀v:V,v.ok M→v.cnt≤1048576→MW P n g v→Qk Tryz.prog 35 [P.av,.int .i64 t,v.av] (Xi P n g v).av:=by
 have e0:P.av=.agg [.list (P.progs.map Qh),.list (P.enums.map Qq)]:=rfl;intro n
 induction n with
 |zero=>
  intro t g _ _ v _ _ h;exact h.elim
 |succ n ih=>
  intro t g hgt t0 v hv hc h;have hgm:=QXF hgt;have hu:=hU g hgm;have hd:=hr g hgm;have hg64:=hl g hgm;obtain⟨s1,s2⟩:=h;have hnor:=fun(o:PO) (ho:o∈g.ops) (x:V) (hx:x.ok M) (hxc:x.cnt≤1048576) (he:EW (MW P n) P o x)=>QSP o (hu o ho) (fun t g a b v c d e=>ih t g a b v c d e) x hx hxc he
  have hwit:=fun(o:PO) (ho:o∈g.ops) (x:V) (hx:x.ok M) (hxc:x.cnt≤1048576) (he:FW (MW P n) P o x)=>v70 o (hu o ho) (hnor o ho) x hx hxc he
  have lS:=KS v;have lR:=YU v;have cR:=v69 v.raws (by omega);obtain⟨ti,hti⟩:=QY5 t0;subst hti;rw[QYT]at hgt;have hga:(P.progs.map Qh)[ti]? = some (.agg g.cells):=by simp[hgt,Qh]
  simp only[PG.cells]at hga;have htl:ti<P.progs.length:=(QXs.1 hgt).1;have d0:decide ((ti:Int)<0)=false:=QZd (by omega);have d1:decide ((ti:Int)≥(P.progs.length:Int))=false:=QZd (by omega);show Qk _ _ _ (V.mk 10 0 [] [] [] (g.ops.flatMap (XC (Xi P n) P v.slots)) (ZE v.raws)).av;have hfin:g.ops.flatMap (XC (Xi P n) P v.slots)=g.ops.flatMap fun o=>v.slots.flatMap (ZB (Xi P n) P o):=by
   congr 1
   funext o;exact(BT (Xi P n) P s2).symm
  have hone:∀o,(v.slots.flatMap (ZB (Xi P n) P o)).length≤1:=by
   intro o;have e:v.slots.flatMap (ZB (Xi P n) P o)=XC (Xi P n) P v.slots o:=BT (Xi P n) P s2;rw[e,Wj];split
   ·simp
   ·unfold ZJ;split<;>simp
  rw[hfin];generalize ZE v.raws=RW at *;rw[show v.av=.agg (Kk v)from Qs v];generalize hK:(fun i=>(g.ops.take i).flatMap fun o=>v.slots.flatMap (ZB (Xi P n) P o))=K;have hK0:K 0=[]:=by rw[←hK];simp
  have hKn:(g.ops.flatMap fun o=>v.slots.flatMap (ZB (Xi P n) P o))=K g.ops.length:=by rw[←hK];simp
  have hKl:∀i,i≤g.ops.length→(K i).length≤64:=by
   intro i hi;rw[←hK];have:∀l:List PO,(l.flatMap fun o=>v.slots.flatMap (ZB (Xi P n) P o)).length≤l.length:=by
    intro l
    induction l with
    |nil=>exact QXq _
    |cons o l ih=>
     have:=hone o;rw[QYV,QX4,QXH];omega
   have h2:=this (g.ops.take i);rw[QYp]at h2;show((g.ops.take i).flatMap _).length≤64;omega
  have hKs:∀i o,g.ops[i]? = some o→K (i+1)=K i++v.slots.flatMap (ZB (Xi P n) P o):=by
   intro i o ho;rw[←hK];show(g.ops.take (i+1)).flatMap _=(g.ops.take i).flatMap _++_;rw[QZa,ho,QZA];simp
  rw[hKn,show(V.mk 10 0 [] [] [] (K g.ops.length) RW).av=.agg [.int .i64 10,.int .u64 0,.str [],.list [],.list [],.list ((K g.ops.length).map V.sav),.list (RW.map R.av)]from Qs _];clear hKn hfin hone;refine k35.fn (by simp) ?_;simp only[e0,Kk,d0,d1,QYn,eE,seval];refine aC cR ?_;simp only[eE,seval];refine JO (by simp only[Qa,seval]<;>rfl) rfl (by simp only[Qa,seval]<;>rfl) rfl ?_;simp only[List.set,Qa,seval];refine Qd (NoI P v K g.ops.length ti RW) _ ⟨_,_,0,_,rfl,rfl,QXA _,(by rfl),(by rfl),(by rfl),(by rfl),(by rfl),(by rfl),(by rfl),(by rfl),(by rfl),(by rw[hK0];exact(by rfl)),(by rw[hK0];exact(by rfl)),P5 rfl rfl⟩ ?_;rintro _ st ⟨f0,fr0,i,gs,rfl,rfl,hil,h10,h30,h50,h60,h70,h80,m30,m50,m60,m70,mS0,Z5⟩;refine QJ (a:=_) [11,9] Z5 ?_;intro f fr hf hm hn11;have h1:f 1=.int .i64 (ti:Nat):=by rw[hf,h10]<;>rfl
  have h3:f 3=.ptr 0 3 0:=by rw[hf,h30]<;>rfl
  have h5:f 5=.ptr 0 5 0:=by rw[hf,h50]<;>rfl
  have h6:f 6=.ptr 0 6 0:=by rw[hf,h60]<;>rfl
  have h7:f 7=.ptr 0 7 0:=by rw[hf,h70]<;>rfl
  have h8:f 8=.int .i64 (i:Nat):=by rw[hf,h80]<;>rfl
  have m3:fr 3=.cells [.list (P.progs.map Qh),.list (P.enums.map Qq)]:=by rw[hm 3 (by decide),m30]<;>rfl
  have m5:fr 5=.cells (Kk v):=by rw[hm 5 (by decide),m50]<;>rfl
  have m6:fr 6=.cells [.int .i64 0,.int .u64 0,.str [],.nils,.nils,.nils,.nils]:=by rw[hm 6 (by decide),m60]<;>rfl
  have m7:fr 7=.cells [.int .i64 10,.int .u64 0,.str [],.nils,.nils,.vec 0 1100 gs 0 (K i).length false,.list (RW.map R.av)]:=by rw[hm 7 (by decide),m70]<;>rfl
  have mS:fr 1100=.vec gs 8 ((K i).map V.sav):=by rw[hm 1100 (by decide),mS0]<;>rfl
  have n11:=hn11 11 (by decide);have n9:=hn11 9 (by decide);clear hf hm hn11 h10 h30 h50 h60 h70 h80 m30 m50 m60 m70 mS0 Z5;simp only[Qi,QYT,Qb,hga,QYn,QX2,QX9,h1,h3,h8,m3,eE,seval];by_cases hlt:i<g.ops.length
  ·obtain⟨o,hi⟩:∃o,g.ops[i]? = some o:=⟨g.ops[i],QXt hlt⟩;have hom:=QXF hi;have hgo:(g.ops.map fun o=>AV.agg o.cells)[i]? = some (.agg o.cells):=by simp[hi]
   simp only[PO.cells]at hgo;have e1:=Ql i _ hlt (by simp only[maxLen];omega);have hKi:=hKl i (by omega);have hKs':=hKs i o hi;simp only[Qm hlt,Qi,QYT,Qb,hga,PO.cells,hgo,n9,h1,h3,h8,m3,eE,seval];refine Sp (P:=P) (v:=v) (o:=o) (n:=n) (ti:=ti) (i:=i) (K i) hKi (by omega) RW (fun x hx hxn=>by
    obtain⟨o',ho',hf'⟩:=s1 x hx;rw[hxn,Zj hd hom]at ho';cases ho';exact hwit o hom x.2 (hv.slots x hx) (QXr (YT hx) hc) hf') _ _ gs (by exact h1) (by exact h3) (by exact h5) (by exact h6) (by exact h7) (by exact h8) (by rfl) (by rfl) (by exact m3) (by exact m5) (by exact m6) (by exact m7) (by rfl) (by exact mS) (UK (isr (by exact n11))) _ ?_
   clear h1 h3 h5 h6 h7 h8 m3 m5 m6 m7 mS n11 n9;intro f fr gs h1 h3 h5 h6 h7 h8 m3 m5 m6 m7 mS n9 n11;rw[←hKs']at m7 mS;simp only[h8,e1,Qa,seval];exact⟨g.ops.length-(i+1),by omega,_,_,i+1,gs,rfl,rfl,by omega,(by exact h1),(by exact h3),(by exact h5),(by exact h6),(by exact h7),(by rfl),m3,m5,m6,m7,mS,P5 n11 n9⟩
  ·have e:i=g.ops.length:=by omega
   subst e;simp only[Qw hlt,h6,h7,m6,m7,eE,seval];simp[AV.un,AV.unL,XZ,Xm,mS,QX0]

end

theorem P6 {M:Nat}{v:V}(h:v.ok M):v.nsc.ok M:=by
 refine .mk h.kd ?_ h.text h.nl h.np h.ns h.nr h.list h.keys h.vals h.nums h.slots h.raws;show(Lit.int .u64 ((XK v.kd v.bits:Nat):Int)).wf=true;unfold XK;split
 ·rfl
 ·exact h.bits

def Gd (g:PG):Prop:=g.ops.length≤64∧∀o∈g.ops,(Lit.int .i64 o.num).wf=true

section
variable {M:Nat}{P:PL}{nm:PG→V→V}(h:∀t v,v.ok M→(nm (Q1 P t) v).ok M)
include h
theorem Nq (o:PO){v:V}(hv:v.ok M):(ZG nm P o v).ok M:=by
 unfold ZG;split
 ·exact h _ v hv
 ·exact P6 hv
theorem Qyx (o:PO){v:V}(hv:v.ok M):(ZT nm P o v).ok M:=by
 unfold ZT;split
 ·refine .mk rfl rfl (QXA _) ?_ (QXA _) (QXA _) (QXA _) ?_ (fun x hx=>nomatch hx) (fun x hx=>nomatch hx) (fun x hx=>nomatch hx) (fun x hx=>nomatch hx) (fun x hx=>nomatch hx)
  ·show(v.list.map _).length≤_;rw[QYn];exact hv.nl
  ·intro x hx;obtain⟨y,hy,rfl⟩:=QYM.1 hx;exact Nq h o (hv.list y hy)
 ·split
  ·have hp:(Xj o.key v.pairs).Perm v.pairs:=Xc _;refine .mk rfl rfl (QXA _) (QXA _) ?_ (QXA _) (QXA _) (fun x hx=>nomatch hx) ?_ ?_ (fun x hx=>nomatch hx) (fun x hx=>nomatch hx) (fun x hx=>nomatch hx)
   ·show((Xj o.key v.pairs).map _).length≤_;rw[QYn,hp.length_eq];exact hv.np
   ·intro x hx;obtain⟨y,hy,rfl⟩:=QYM.1 hx;exact P6 (hv.keys y (hp.mem_iff.1 hy))
   ·intro x hx;obtain⟨y,hy,rfl⟩:=QYM.1 hx;exact Nq h o (hv.vals y (hp.mem_iff.1 hy))
  ·exact Nq h o hv
theorem QaT {g:PG}(hg:Gd g){v:V}(hv:v.ok M):(HI nm P g v).ok M:=by
 unfold HI;have hp:(ZE v.raws).Perm v.raws:=Xc _;have hs:∀x∈g.ops.flatMap (XC nm P v.slots),(Lit.int .i64 x.1).wf=true∧x.2.ok M:=by
  intro x hx;obtain⟨o,ho,hx⟩:=QYd.1 hx;obtain⟨e1,s,hs,_,e2⟩:=ZU hx;rw[e1,e2];exact⟨hg.2 o ho,Qyx h o (hv.slots s hs)⟩
 have hl:∀l:List PO,(l.flatMap (XC nm P v.slots)).length≤l.length:=by
  intro l
  induction l with
  |nil=>exact QXq _
  |cons o l ih=>
   have:(XC nm P v.slots o).length≤1:=by
    unfold XC;split
    ·simp
    ·split<;>simp
   rw[QYV,QX4,QXH];omega
 refine .mk rfl rfl (QXA _) (QXA _) (QXA _) ?_ ?_ (fun x hx=>nomatch hx) (fun x hx=>nomatch hx) (fun x hx=>nomatch hx) (fun x hx=>(hs x hx).1) (fun x hx=>(hs x hx).2) ?_
 ·show(g.ops.flatMap (XC nm P v.slots)).length≤_;have:=hl g.ops;have:=hg.1;omega
 ·show(ZE v.raws).length≤_;rw[hp.length_eq];exact hv.nr
 ·intro x hx;exact hv.raws x (hp.mem_iff.1 hx)
end
theorem Nr {M:Nat}{P:PL}(hg:∀t,Gd (Q1 P t)):∀(n:Nat) (t:Int) (v:V),v.ok M→(Xi P n (Q1 P t) v).ok M
 |0,_,_,h=>h
 |n+1,t,_,h=>QaT (fun t v hv=>Nr hg n t v hv) (hg t) h

theorem AK {M:Nat}{P:PL}(hP:P.ok M)(hl:∀g∈P.progs,g.ops.length≤64)(t:Int):Gd (Q1 P t):=by
 unfold Q1;cases hg:P.progs[t.toNat]? with
 |none=>exact⟨QXA _,fun o ho=>nomatch ho⟩
 |some g=>
  have hm:=QXF hg;exact⟨hl g hm,fun o ho=>((hP.progs g hm).ops o ho).num⟩
theorem Ns {P:PL}(h:ck P=0):∀g∈P.progs,g.ops.length≤64:=by
 unfold ck at h;split at h
 ·omega
 rename_i hl;exact(Ux (by simpa using hl)).2.2.1

open Vp Cp

theorem Qyy (x:V):Z6 0 x=Xa x.kd x.bits x.text:=by
 unfold Z6 Xa zr
 repeat' split
 all_goals rfl
theorem DL (bd:Int→V→List UInt8)(o:PO)(n:Int)(x:V):({ Q5 bd o 0 x with num:=n }:R)=Q5 bd o n x:=by
 unfold Q5;split
 ·rfl
 ·rfl
theorem Qyz {α:Type}(l:List α)(F:α→R):(l.map fun x=>(F x).av)=(l.map F).map R.av:=by rw[QZc];rfl
theorem ZK {fr:Nat→Ob}{a:Nat}(h1:(fr a).isRow=false):∀s∈[a],(fr s).isRow=false:=by
 intro s hs;simp only[QYO,QZw,or_false]at hs;subst hs;exact h1

theorem CQ (n:Int)(f:R):Qk Tryz.prog 196 [.int .i64 n,f.av] ({ f with num:=n }:R).av:=by
 refine Qh9.fn (by simp) ?_;simp only[R.av,eE,seval]

theorem t25 {M:Nat}{v:V}(hv:v.ok M):Qk Tryz.prog 25 [v.av] (Z6 0 v).av:=by
 rw[Qyy,Qs];exact y25 v.kd v.bits (AJ hv) v.text _ _ _ _

section
variable {M:Nat}{P:PL}{m:PG→V→Int}{bd:Int→V→List UInt8}(o:PO)(ho:UO P o)

include ho in
theorem QSQ (hb:∀(t:Int) (g:PG),P.progs[t.toNat]? = some g→0≤t→∀v:V,v.ok M→v.cnt≤1048576→m g v=0→Qk Tryz.prog 29 [P.av,.int .i64 t,v.av] (.str (bd t v)))(x:V)(hx:x.ok M)(hc:x.cnt≤1048576)(he:QN m P o x=0) :
  Qk Tryz.prog 197 [P.av,Qr o,x.av] (Q5 bd o 0 x).av:=by
 have e0:P.av=.agg [.list (P.progs.map Qh),.list (P.enums.map Qq)]:=rfl;unfold Q5;by_cases hk:o.kind=10
 ·have b:(o.kind==10)=true:=by simp[hk]
  rw[QXV hk];unfold QN at he;rw[QXV hk]at he;obtain⟨t0,t1⟩:=ho.tgt hk;obtain⟨g,hg⟩:∃g,P.progs[o.target.toNat]? = some g:=⟨P.progs[o.target.toNat]'(by omega),QXt (by omega)⟩;have hq:Q1 P o.target=g:=by unfold Q1;rw[hg];rfl
  rw[hq]at he;have h2:=hb o.target g hg t0 x hx hc he;rw[e0,Qs]at h2;rw[Qs];refine Rv.fn (by simp) ?_;simp only[e0,Qr,PO.cells,b,R.av,eE,seval];refine aC h2 ?_;simp only[eE,seval]
 ·have b:(o.kind==10)=false:=by simp[hk]
  rw[QXG hk];have h1:=t25 hx;generalize Z6 0 x=z at h1 ⊢;rw[Qs]at h1;rw[Qs];simp only[R.av]at h1;refine Rv.fn (by simp) ?_;simp only[e0,Qr,PO.cells,b,R.av,eE,seval];refine aC h1 ?_;simp only[eE,seval]

def QSR (P:PL)(o:PO)(l:List V)(F:V→R)(k:Nat)(st:St):Prop :=
 ∃f fr i g,st=⟨f,[fr],[]⟩∧k=l.length-i∧i≤l.length∧f 3=.ptr 0 3 0∧f 4=.ptr 0 4 0∧f 7=.vec 0 7 g 0 i false∧f 11=.list (l.map V.av)∧f 12=.int .i64 (l.length:Nat)∧f 13=.int .i64 (i:Nat)∧fr 3=.cells [.list (P.progs.map Qh),.list (P.enums.map Qq)]∧fr 4=.cells o.cells∧fr 7=.vec g 4 ((l.take i).map fun x=>(F x).av)∧∀s∈[9],(fr s).isRow=false

def QSS (P:PL)(o:PO)(l:List (V×V))(F:V×V→R)(k:Nat)(st:St):Prop :=
 ∃f fr i g,st=⟨f,[fr],[]⟩∧k=l.length-i∧i≤l.length∧f 3=.ptr 0 3 0∧f 4=.ptr 0 4 0∧f 7=.vec 0 7 g 0 i false∧f 12=.list (l.map V.pav)∧f 13=.int .i64 (l.length:Nat)∧f 14=.int .i64 (i:Nat)∧fr 3=.cells [.list (P.progs.map Qh),.list (P.enums.map Qq)]∧fr 4=.cells o.cells∧fr 7=.vec g 4 ((l.take i).map fun x=>(F x).av)∧∀s∈[9],(fr s).isRow=false

theorem QST (hel:∀x:V,x.ok M→x.cnt≤1048576→QN m P o x=0→Qk Tryz.prog 197 [P.av,Qr o,x.av] (Q5 bd o 0 x).av)(v:V)(hv:v.ok M)(hc:v.cnt≤1048576)(hL:∀x∈v.list,QN m P o x=0) :
  Qk Tryz.prog 121 [P.av,Qr o,v.av] (.list ((v.list.map (Q5 bd o o.num)).map R.av)):=by
 have e0:P.av=.agg [.list (P.progs.map Qh),.list (P.enums.map Qq)]:=rfl;have hlen:=JT v;rw[Qs v];refine QMn.fn (by simp) ?_;simp only[e0,Qr,PO.cells,eE,seval];refine XF rfl rfl ?_;simp only[QYn,eE,seval];refine Qd (QSR P o v.list (Q5 bd o o.num)) _ ⟨_,_,0,_,rfl,rfl,QXA _,(by rfl),(by rfl),(by rfl),(by rfl),(by rfl),(by rfl),(by rfl),(by rfl),(by rfl),ZK rfl⟩ ?_;rintro _ st ⟨f0,fr0,i,g,rfl,rfl,hil,h30,h40,h70,h110,h120,h130,m30,m40,mR0,r9⟩;refine QJ (a:=_) [9] r9 ?_;intro f fr hf hm hn9;have h3:f 3=.ptr 0 3 0:=by rw[hf,h30]<;>rfl
 have h4:f 4=.ptr 0 4 0:=by rw[hf,h40]<;>rfl
 have h7:f 7=.vec 0 7 g 0 i false:=by rw[hf,h70]<;>rfl
 have h11:f 11=.list (v.list.map V.av):=by rw[hf,h110]<;>rfl
 have h12:f 12=.int .i64 (v.list.length:Nat):=by rw[hf,h120]<;>rfl
 have h13:f 13=.int .i64 (i:Nat):=by rw[hf,h130]<;>rfl
 have m3:fr 3=.cells [.list (P.progs.map Qh),.list (P.enums.map Qq)]:=by rw[hm 3 (by decide),m30]<;>rfl
 have m4':fr 4=.cells o.cells:=by rw[hm 4 (by decide),m40]<;>rfl
 have mR:fr 7=.vec g 4 ((v.list.take i).map fun x=>(Q5 bd o o.num x).av):=by rw[hm 7 (by decide),mR0]<;>rfl
 have n9:=hn9 9 (by decide);clear hf hm hn9 h30 h40 h70 h110 h120 h130 m30 m40 mR0 r9;have m4:=m4';simp only[PO.cells]at m4;simp only[h12,h13,Qa,seval];by_cases hlt:i<v.list.length
 ·obtain⟨x,hi⟩:∃x,v.list[i]? = some x:=⟨v.list[i],QXt hlt⟩;have hx:=QXF hi;have hg:=WF hi;have e1:=Ql i _ hlt (by simp only[maxLen];omega);have c1:=hel x (hv.list x hx) (QXr (YS hx) hc) (hL x hx);have c2:=CQ o.num (Q5 bd o 0 x);rw[DL]at c2;have hti:((v.list.take i).map fun x=>(Q5 bd o o.num x).av).length=i:=by rw[QYn,QYp];omega
  have hts:(v.list.take (i+1)).map (fun x=>(Q5 bd o o.num x).av)=(v.list.take i).map (fun x=>(Q5 bd o o.num x).av)++[(Q5 bd o o.num x).av]:=by rw[QZa,hi];simp
  generalize Q5 bd o 0 x=y at c1 c2;generalize Q5 bd o o.num x=z at c2 hts;rw[e0,Qs x]at c1;simp only[Qr,PO.cells,R.av]at c1 c2;simp only[Qm hlt,Qi,QYT,Qb,hg,n9,h3,h4,h7,h11,h13,m3,m4,eE,seval];refine aC c1 ?_;refine aC c2 ?_;refine QP (l:=[z.av]) rfl rfl rfl rfl ?_;refine QG (site:=7) (g:=g) (n:=i) (xs:=(v.list.take i).map fun x=>(Q5 bd o o.num x).av) (ys:=[z.av]) (by rfl) (by exact mR) rfl hti.symm rfl (Jc [z]) (by simp only[QXH,QYo,maxLen];omega) (by simp only[QXH,QYo];omega) ?_;simp only[h13,e1,Qa,seval];exact⟨v.list.length-(i+1),by omega,_,_,i+1,g+1,rfl,rfl,by omega,(by exact h3),(by exact h4),(by rfl),(by exact h11),(by exact h12),(by rfl),(by exact m3),(by exact m4'),(by rw[hts];exact(by rfl)),ZK rfl⟩
 ·have e:i=v.list.length:=by omega
  subst e;rw[QY1,Qyz]at mR;simp only[Qw hlt,h7,mR,eE,seval];simp[AV.un,XZ,Xm,QX0]

include ho in
theorem QSU (hbd:∀(t:Int) (v:V),(0≤t∧t<(P.progs.length:Int))→m (Q1 P t) v=0→(bd t v).length+70000≤70000*v.cnt)(hel:∀x:V,x.ok M→x.cnt≤1048576→QN m P o x=0→Qk Tryz.prog 197 [P.av,Qr o,x.av] (Q5 bd o 0 x).av)(v:V)(hv:v.ok M)(hc:v.cnt≤1048576)(hE:∀p∈v.pairs,p.1.one P o.key (-1)=0∧QN m P o p.2=0) :
  Qk Tryz.prog 118 [P.av,Qr o,v.av] (.list ((v.pairs.map (ZQ bd o)).map R.av)):=by
 have e0:P.av=.agg [.list (P.progs.map Qh),.list (P.enums.map Qq)]:=rfl;have hlen:=KR v;rw[Qs v];refine QMk.fn (by simp) ?_;simp only[e0,Qr,PO.cells,eE,seval];refine XF rfl rfl ?_;simp only[QYn,eE,seval];refine Qd (QSS P o v.pairs (ZQ bd o)) _ ⟨_,_,0,_,rfl,rfl,QXA _,(by rfl),(by rfl),(by rfl),(by rfl),(by rfl),(by rfl),(by rfl),(by rfl),(by rfl),ZK rfl⟩ ?_;rintro _ st ⟨f0,fr0,i,g,rfl,rfl,hil,h30,h40,h70,h120,h130,h140,m30,m40,mR0,r9⟩;refine QJ (a:=_) [9] r9 ?_;intro f fr hf hm hn9;have h3:f 3=.ptr 0 3 0:=by rw[hf,h30]<;>rfl
 have h4:f 4=.ptr 0 4 0:=by rw[hf,h40]<;>rfl
 have h7:f 7=.vec 0 7 g 0 i false:=by rw[hf,h70]<;>rfl
 have h12:f 12=.list (v.pairs.map V.pav):=by rw[hf,h120]<;>rfl
 have h13:f 13=.int .i64 (v.pairs.length:Nat):=by rw[hf,h130]<;>rfl
 have h14:f 14=.int .i64 (i:Nat):=by rw[hf,h140]<;>rfl
 have m3:fr 3=.cells [.list (P.progs.map Qh),.list (P.enums.map Qq)]:=by rw[hm 3 (by decide),m30]<;>rfl
 have m4':fr 4=.cells o.cells:=by rw[hm 4 (by decide),m40]<;>rfl
 have mR:fr 7=.vec g 4 ((v.pairs.take i).map fun x=>(ZQ bd o x).av):=by rw[hm 7 (by decide),mR0]<;>rfl
 have n9:=hn9 9 (by decide);clear hf hm hn9 h30 h40 h70 h120 h130 h140 m30 m40 mR0 r9;have m4:=m4';simp only[PO.cells]at m4;simp only[h13,h14,Qa,seval];by_cases hlt:i<v.pairs.length
 ·obtain⟨x,hi⟩:∃x,v.pairs[i]? = some x:=⟨v.pairs[i],QXt hlt⟩;have hx:=QXF hi;have hg:=Z0 hi;have e1:=Ql i _ hlt (by simp only[maxLen];omega);have hcc:=U5 hx;have hck:=Vt hx;have c0:=t25 (hv.keys x hx);have c1:=CQ 1 (Z6 0 x.1);rw[show({ Z6 0 x.1 with num:=1 }:R)=Z6 1 x.1 from rfl]at c1;have c2:=hel x.2 (hv.vals x hx) (QXr hcc hc) (hE x hx).2;have c3:=CQ 2 (Q5 bd o 0 x.2);rw[DL]at c3;have hpn:=Y3 (l:=[Z6 1 x.1,Q5 bd o 2 x.2]) (fun f hf=>by
   rcases QYO.1 hf with rfl|hf
   ·exact No (hv.keys x hx) 1
   ·rw[QZs]at hf;subst hf;exact Da (hv.vals x hx) bd o 2) (by have:=DH hbd ho (hE x hx).1 (hE x hx).2;omega)
  have c4:=c58 [Z6 1 x.1,Q5 bd o 2 x.2] hpn.1 hpn.2.1 hpn.2.2;have hen:ZQ bd o x=⟨o.num,6,0,QZ [Z6 1 x.1,Q5 bd o 2 x.2]⟩:=rfl;have hti:((v.pairs.take i).map fun x=>(ZQ bd o x).av).length=i:=by rw[QYn,QYp];omega
  have hts:(v.pairs.take (i+1)).map (fun x=>(ZQ bd o x).av)=(v.pairs.take i).map (fun x=>(ZQ bd o x).av)++[(ZQ bd o x).av]:=by rw[QZa,hi];simp
  rw[hen]at hts;clear hpn hen;generalize Z6 0 x.1=y0 at c0 c1;generalize Q5 bd o 0 x.2=y2 at c2 c3;generalize Z6 1 x.1=z1 at c1 c4 hts;generalize Q5 bd o 2 x.2=z2 at c3 c4 hts;generalize QZ [z1,z2]=d at c4 hts;rw[Qs x.1]at c0;rw[e0,Qs x.2]at c2;simp only[Qr,PO.cells,R.av,K7,QXY,QYt]at c0 c1 c2 c3 c4;simp only[Qm hlt,Qi,QYT,Qb,hg,n9,h12,h14,eE,seval];refine aC c0 ?_;refine aC c1 ?_;simp only[h3,h4,m3,m4,eE,seval];refine aC c2 ?_;refine aC c3 ?_;refine QP (l:=[z1.av,z2.av]) rfl rfl rfl rfl ?_;simp only[h4,h7,m4,eE,seval];refine aC c4 ?_;simp only[eE,seval];refine QP (l:=[(R.mk o.num 6 0 d).av]) rfl rfl rfl rfl ?_;refine QG (site:=7) (g:=g) (n:=i) (xs:=(v.pairs.take i).map fun x=>(ZQ bd o x).av) (ys:=[(R.mk o.num 6 0 d).av]) (by rfl) (by exact mR) rfl hti.symm rfl (Jc [_]) (by simp only[QXH,QYo,maxLen];omega) (by simp only[QXH,QYo];omega) ?_;simp only[h14,e1,Qa,seval];exact⟨v.pairs.length-(i+1),by omega,_,_,i+1,g+1,rfl,rfl,by omega,(by exact h3),(by exact h4),(by rfl),(by exact h12),(by exact h13),(by rfl),(by exact m3),(by exact m4'),(by rw[hts];exact(by rfl)),ZK rfl⟩
 ·have e:i=v.pairs.length:=by omega
  subst e;rw[QY1,Qyz]at mR;simp only[Qw hlt,h7,mR,eE,seval];simp[AV.un,XZ,Xm,QX0]

end
end Go.Proofs.YtipjfckmopekaaaGreatDoor.Va

namespace Go.Proofs.YtipjfckmopekaaaGreatDoor.Va
open Go Am Rc Bt Vp Cp Up

end Go.Proofs.YtipjfckmopekaaaGreatDoor.Va

namespace Go.Proofs.YtipjfckmopekaaaGreatDoor.Va
open Go Am Rc Bt Vp Cp

theorem QaU (n:Nat):(n:Int).tmod 256=((n % 256:Nat):Int):=by
 rw[QZu (by omega)];omega

theorem QaV (n:Nat)(h:n<18446744073709551616):IntKind.u64.wrap ((n:Int).tdiv 256)=((n / 256:Nat):Int):=by
 rw[Int.tdiv_eq_ediv_of_nonneg (by omega),Jm];omega

theorem QyB (n:Nat):IntKind.u8.wrap ((n % 256:Nat):Int)=((UInt8.ofNat (n % 256)).toNat:Int):=by
 rw[Pd,toNat_ofNat _ (by omega)];omega

def P7 (u0:Nat)(k:Nat)(st:St):Prop :=
 ∃f fr u g i l,st=⟨f,[fr],[]⟩∧k=8-i∧i≤8∧f 0=.int .u64 (u:Nat)∧f 3=.vec 0 3 g 0 l.length false∧f 4=.int .i64 (i:Nat)∧fr 3=.vec g 1 (bl l)∧u<18446744073709551616∧l.length=i∧l++fx (8-i) u=fx 8 u0

theorem c66 (u:Nat)(hu:u<18446744073709551616):Qk Tryz.prog 66 [.int .u64 u] (.str (fx 8 u)):=by
 refine k66.fn (by simp) ?_;simp only[Qa,seval];refine XF rfl rfl ?_;simp only[Qa,seval];refine Qd (P7 u) 8 ⟨_,_,u,1,0,[],rfl,rfl,by omega,rfl,rfl,rfl,rfl,hu,rfl,rfl⟩ ?_;rintro n st ⟨f,fr,v,g,i,l,rfl,rfl,hi,h0,h3,h4,hv,hlt,hll,hl⟩;simp only[h4,Qa,seval];refine Q2 (fun h=>?_) (fun h=>?_)
 ·have h:i<8:=by(have h:(i:Int)<8:=(by simpa using h));omega
  have e1:IntKind.i64.wrap ((i:Int)+1)=((i+1:Nat):Int):=by rw[QE];omega
  simp only[h0,h3,QaU,QyB,seval,Qa];refine JV rfl ?_;refine QG rfl hv rfl (KV l).symm rfl rfl (by simp[maxLen];omega) (by simp;omega) ?_;simp only[h0,h4,QaV v hlt,seval,e1,Qa];refine⟨8-(i+1),by omega,_,_,v / 256,g+1,i+1,l++[UInt8.ofNat (v % 256)],rfl,rfl,by omega,?_,?_,?_,?_,by omega,by simp[hll],?_⟩
  ·simp only[h0,Qa,seval]
  ·simp only[QX4,QXH,QYo,Qa,seval]
  ·simp only[Qa,seval]
  ·simp only[QR,KU]<;>rfl
  ·obtain⟨j,hj⟩:∃j,8-i=j+1:=⟨7-i,by omega⟩;rw[←hl,hj,show 8-(i+1)=j by omega,fx];simp
 ·have h:i=8:=by(have h:¬(i:Int)<8:=(by simpa using h));omega
  subst h;have he:=JW (m:=[]) (fr:=fr) (site:=3) (g:=g) (sz:=1) (n:=l.length) (q:=false) hv (by simp[bl]);have hb:bytesOf (bl l)=some l:=JA l;simp only[h3,he,hb,Qa,seval];rw[←hl];simp[fx]

open Up

def AL (l:List R)(k:Nat)(st:St):Prop :=
 ∃f fr i,st=⟨f,[fr],[]⟩∧k=l.length-i∧i≤l.length∧f 0=.list (K7 l)∧f 3=.str (QZ (l.take i))∧f 4=.int .i64 (i:Nat)∧(fr 5).isRow=false

theorem c33 (l:List R)(hb:∀fd∈l,fd.bits<18446744073709551616∧fd.data.length<9223372036854775807)(hn:l.length<9223372036854775807)(hl:(QZ l).length≤140737488355328):Qk Tryz.prog 33 [.list (K7 l)] (.str (QZ l)):=by
 refine k33.fn (by simp) ?_;simp only[Qa,seval];refine Qd (AL l) _ ⟨_,_,0,rfl,rfl,QXA _,rfl,rfl,rfl,rfl⟩ ?_;rintro n st ⟨f,fr,i,rfl,rfl,hi,h0,h3,h4,m5⟩;simp only[h0,h4,m5,Vu,Qa,seval];by_cases hlt:i<l.length
 ·obtain⟨fd,hfd⟩:∃fd,l[i]? = some fd:=⟨l[i],QXt hlt⟩;have hmem:=QXF hfd;obtain⟨hb1,hb2⟩:=hb fd hmem;have hfa:(K7 l)[i]? = some fd.av:=by simp[K7,hfd]
  have hps:=UH l i fd hfd;have hple:=Vw l i fd hfd;have d0:decide ((i:Int)<(l.length:Int))=true:=by simp;omega
  have n0:(0≤(i:Int))=True:=by simp
  have e1:IntKind.i64.wrap ((i:Int)+1)=((i+1:Nat):Int):=by rw[QE];omega
  have fin:∀(f':Fr) (fr':Nat→Ob) (bs':List UInt8),f' 0=.list (K7 l)→f' 3=.str bs'→f' 4=.int .i64 (((i+1:Nat):Nat):Int)→(fr' 5).isRow=false→bs'=QZ (l.take i)++Yt fd→∃k,k<l.length-i∧AL l k ⟨f',[fr'],[]⟩:=by
   intro f' fr' bs' g1 g2 g3 g4 g5;exact⟨l.length-(i+1),by omega,f',fr',i+1,rfl,rfl,by omega,g1,by rw[hps,←g5];exact g2,g3,g4⟩
  simp only[d0,n0,QYT,Qb,hfa,R.av,h0,h4,eE,seval];refine aC (c64 fd) ?_;cases hv:valid fd with
  |false=>
   simp only[e1,h4,Qa,seval];refine fin _ _ (QZ (l.take i)) ?_ ?_ ?_ ?_ ?_
   ·simp only[h0,Qa,seval]
   ·simp only[h3,Qa,seval]
   ·simp only[Qa,seval]
   ·simp only[Qa,seval]
   ·simp[Yt,hv]
  |true=>
   simp only[eE,seval];refine aC (c65 fd.num fd.wire) ?_;have hp:Yt fd=(X6 fd.num fd.wire).1++body fd:=by simp[Yt,hv]
   have hpl:=congrArg List.length hp;rw[QX4]at hpl;have hbody:body fd=if fd.wire=2 then fx 8 fd.bits else if ZP fd.wire then Vp.put fd.bits else Vp.put fd.data.length++fd.data:=rfl
   have a1:((QZ (l.take i)).length+(X6 fd.num fd.wire).1.length≤9223372036854775807)=True:=eq_true (by omega);simp only[Uy,QI,a1,h3,eE,seval];by_cases w2:fd.wire=2
   ·have dw:(fd.wire==2)=true:=by simpa using w2
    have hbo:body fd=fx 8 fd.bits:=by rw[hbody,QXV w2]
    have a2:((QZ (l.take i)++(X6 fd.num fd.wire).1).length+(fx 8 fd.bits).length≤9223372036854775807)=True:=eq_true (by rw[QX4,←hbo];omega);simp only[dw,h3,eE,seval];refine aC (c66 fd.bits hb1) ?_;simp only[QI,a2,e1,h4,Qa,seval];refine fin _ _ (QZ (l.take i)++(X6 fd.num fd.wire).1++fx 8 fd.bits) ?_ ?_ ?_ ?_ ?_
    ·simp only[h0,Qa,seval]
    ·simp only[Qa,seval]
    ·simp only[Qa,seval]
    ·simp only[Qa,seval]
    ·rw[hp,hbo,QXN]
   ·have dw:(fd.wire==2)=false:=by simpa using w2
    simp only[dw,eE,seval];refine aC (c67 fd.wire) ?_;cases hnum:ZP fd.wire with
    |true=>
     have hbo:body fd=Vp.put fd.bits:=by rw[hbody,QXG w2,QXV hnum]
     have a2:((QZ (l.take i)++(X6 fd.num fd.wire).1).length+(Vp.put fd.bits).length≤9223372036854775807)=True:=eq_true (by rw[QX4,←hbo];omega);simp only[h3,eE,seval];refine aC (PZ fd.bits hb1) ?_;simp only[QI,a2,e1,h4,Qa,seval];refine fin _ _ (QZ (l.take i)++(X6 fd.num fd.wire).1++Vp.put fd.bits) ?_ ?_ ?_ ?_ ?_
     ·simp only[h0,Qa,seval]
     ·simp only[Qa,seval]
     ·simp only[Qa,seval]
     ·simp only[Qa,seval]
     ·rw[hp,hbo,QXN]
    |false=>
     have hbo:body fd=Vp.put fd.data.length++fd.data:=by rw[hbody,QXG w2,QXG (by rw[hnum];simp)]
     have hbl:(body fd).length=(Vp.put fd.data.length).length+fd.data.length:=by rw[hbo,QX4]
     have a2:((Vp.put fd.data.length).length+fd.data.length≤9223372036854775807)=True:=eq_true (by omega);have a3:((QZ (l.take i)++(X6 fd.num fd.wire).1).length+(Vp.put fd.data.length++fd.data).length≤9223372036854775807)=True:=eq_true (by rw[QX4,←hbo];omega);have e2:IntKind.u64.wrap (fd.data.length:Int)=((fd.data.length:Nat):Int):=by rw[Jm];omega
     simp only[e2,h3,eE,seval];refine aC (PZ fd.data.length (by omega)) ?_;simp only[QI,a2,a3,e1,h4,eE,seval];refine fin _ _ (QZ (l.take i)++(X6 fd.num fd.wire).1++(Vp.put fd.data.length++fd.data)) ?_ ?_ ?_ ?_ ?_
     ·simp only[h0,Qa,seval]
     ·simp only[Qa,seval]
     ·simp only[Qa,seval]
     ·simp only[Qa,seval]
     ·rw[hp,hbo,QXN]
 ·have d0:decide ((i:Int)<(l.length:Int))=false:=by simp;omega
  have hil:l.take i=l:=QX0 (by omega);simp only[d0,hil,h3,Qa,seval]

open Br So

theorem u39 (v:V):Qk Tryz.prog 39 [v.av] (Xa v.kd v.bits v.text).av:=by
 rw[Qs];exact y39 v.kd v.bits v.text _ _ _ _

section
variable {M:Nat}{P:PL}{m:PG→V→Int}{bd:Int→V→List UInt8}(o:PO)(ho:UO P o)

include ho in
theorem u40 (hb:∀(t:Int) (g:PG),P.progs[t.toNat]? = some g→0≤t→∀v:V,v.ok M→v.cnt≤1048576→m g v=0→Qk Tryz.prog 16 [P.av,.int .i64 t,v.av] (.str (bd t v)))(n:Int)(x:V)(hx:x.ok M)(hc:x.cnt≤1048576)(he:QN m P o x=0) :
  Qk Tryz.prog 40 [P.av,Qr o,.int .i64 n,x.av] (Q5 bd o n x).av:=by
 have e0:P.av=.agg [.list (P.progs.map Qh),.list (P.enums.map Qq)]:=rfl;have h1:=u39 x;unfold Q5 Z6;generalize Xa x.kd x.bits x.text=z at h1 ⊢;by_cases hk:o.kind=10
 ·have b:(o.kind==10)=true:=by simp[hk]
  rw[QXV hk];unfold QN at he;rw[QXV hk]at he;obtain⟨t0,t1⟩:=ho.tgt hk;obtain⟨g,hg⟩:∃g,P.progs[o.target.toNat]? = some g:=⟨P.progs[o.target.toNat]'(by omega),QXt (by omega)⟩;have hq:Q1 P o.target=g:=by unfold Q1;rw[hg];rfl
  rw[hq]at he;have h2:=hb o.target g hg t0 x hx hc he;rw[e0,Qs]at h2;rw[Qs]at h1;rw[Qs];simp only[R.av]at h1;refine k40.fn (by simp) ?_;simp only[e0,Qr,PO.cells,R.av,eE,seval];refine aC h1 ?_;simp only[b,eE,seval];refine aC h2 ?_;simp only[eE,seval]
 ·have b:(o.kind==10)=false:=by simp[hk]
  rw[QXG hk];rw[Qs]at h1;rw[Qs];simp only[R.av]at h1;refine k40.fn (by simp) ?_;simp only[e0,Qr,PO.cells,R.av,eE,seval];refine aC h1 ?_;simp only[b,eE,seval]

def QSV (l:List V)(F:Nat→List UInt8)(k:Nat)(st:St):Prop :=
 ∃f fr i,st=⟨f,[fr],[]⟩∧k=l.length-i∧i≤l.length∧f 0=.list (l.map V.av)∧f 3=.str (F i)∧f 4=.int .i64 (i:Nat)∧∀s∈[5],(fr s).isRow=false

theorem u42 (w:Int)(hw:w=0∨w=1∨w=2)(l:List V)(hne:l≠[])(hlen:l.length≤1048576)(hk:∀y∈l,(Xa y.kd y.bits y.text).wire=w)(hok:∀y∈l,y.ok M) :
  Qk Tryz.prog 42 [.list (l.map V.av)] (.str (UInt8.ofNat w.toNat :: l.flatMap (K9 w))):=by
 have hcv:IntKind.u8.wrap w=((UInt8.ofNat w.toNat).toNat:Int):=by
  rcases hw with rfl|rfl|rfl<;>rfl
 generalize hb0:UInt8.ofNat w.toNat=b0 at hcv ⊢
 let F:Nat→List UInt8:=fun i=>if i=0 then []else b0 :: (l.take i).flatMap (K9 w)
 have hF0:F 0=[]:=rfl;have hFn:F l.length=b0 :: l.flatMap (K9 w):=by
  have:l.length≠0:=fun h=>hne (QZr.1 h)
  simp[F,this]
 have hFl:∀i,i≤l.length→(F i).length≤1+10*i:=by
  intro i hi;have:=U6 w (l.take i);rw[QYp]at this;simp only[F];split
  ·simp
  ·simp only[QXH];omega
 have hFs:∀i x,l[i]? = some x→F (i+1)=(if i=0 then [b0]else F i)++K9 w x:=by
  intro i x hx;simp only[F,Nat.add_eq_zero_iff,Nat.one_ne_zero,and_false,if_false];rw[QZa,hx,QZA];split
  ·rename_i h0;subst h0;simp
  ·simp
 rw[←hFn]
 clear_value F
 clear hFn;refine k42.fn (by simp) ?_;simp only[Qa,seval];refine Qd (QSV l F) _ ⟨_,_,0,rfl,rfl,QXA _,(by rfl),(by rw[hF0];exact(by rfl)),(by rfl),ZK rfl⟩ ?_;rintro _ st ⟨f0,fr0,i,rfl,rfl,hil,h00,h30,h40,r5⟩;refine QJ (a:=_) [5] r5 ?_;intro f fr hf hm hn5;have h0:f 0=.list (l.map V.av):=by rw[hf,h00]<;>rfl
 have h3:f 3=.str (F i):=by rw[hf,h30]<;>rfl
 have h4:f 4=.int .i64 (i:Nat):=by rw[hf,h40]<;>rfl
 have n5:=hn5 5 (by decide);clear hf hm hn5 h00 h30 h40 r5;simp only[QYn,h0,h4,Qa,seval];by_cases hlt:i<l.length
 ·obtain⟨x,hi⟩:∃x,l[i]? = some x:=⟨l[i],QXt hlt⟩;have hx:=QXF hi;have hg:=WF hi;have e1:=Ql i _ hlt (by simp only[maxLen];omega);have c1:=u39 x;have hbb:(Xa x.kd x.bits x.text).bits<18446744073709551616:=UJ (AJ (hok x hx)) _;have hwx:=hk x hx;have hFi:=hFl i (by omega);have hFx:=hFs i x hi;have hpx:=DI w x;rw[show K9 w x=K8 w (Xa x.kd x.bits x.text).bits from rfl]at hFx hpx;generalize Xa x.kd x.bits x.text=z at c1 hbb hFx hpx hwx;rw[Qs x]at c1;simp only[R.av,hwx]at c1;simp only[Qm hlt,Qi,QYT,Qb,hg,h0,h4,eE,seval];refine aC c1 ?_;by_cases hi0:i=0
  ·subst hi0;have d0:(((0:Nat):Int)==0)=true:=rfl;rw[QXV rfl]at hFx;have hb1:bytesOf [.int .u8 ((b0.toNat:Nat):Int)]=some [b0]:=JA [b0];simp only[n5,h4,hcv,eE,seval];refine JV rfl ?_;by_cases w2:w=2
   ·have b2:(w==2)=true:=by simp[w2]
    have epb:K8 w z.bits=fx 8 z.bits:=by unfold K8;rw[QXV w2]
    rw[epb]at hFx hpx;have hadd:(([b0]).length+(fx 8 z.bits).length≤9223372036854775807)=True:=eq_true (by simp only[QXH,QYo];omega);simp only[Q7,hb1,b2,h3,eE,seval];refine aC (c66 z.bits hbb) ?_;simp only[QXH,QYo]at hadd;simp only[QI,hadd,h4,Qa,seval];exact⟨l.length-(0+1),by omega,_,_,0+1,rfl,rfl,by omega,(by exact h0),(by rw[hFx];exact(by rfl)),(by rfl),ZK rfl⟩
   ·have b2:(w==2)=false:=by simp[w2]
    have epb:K8 w z.bits=Vp.put z.bits:=by unfold K8;rw[QXG w2]
    rw[epb]at hFx hpx;have hadd:(([b0]).length+(Vp.put z.bits).length≤9223372036854775807)=True:=eq_true (by simp only[QXH,QYo];omega);simp only[Q7,hb1,b2,h3,eE,seval];refine aC (PZ z.bits hbb) ?_;simp only[QXH,QYo]at hadd;simp only[QI,hadd,h4,Qa,seval];exact⟨l.length-(0+1),by omega,_,_,0+1,rfl,rfl,by omega,(by exact h0),(by rw[hFx];exact(by rfl)),(by rfl),ZK rfl⟩
  ·have d0:(((i:Nat):Int)==0)=false:=by simp[hi0]
   rw[QXG hi0]at hFx;by_cases w2:w=2
   ·have b2:(w==2)=true:=by simp[w2]
    have epb:K8 w z.bits=fx 8 z.bits:=by unfold K8;rw[QXV w2]
    rw[epb]at hFx hpx;have hadd:((F i).length+(fx 8 z.bits).length≤9223372036854775807)=True:=eq_true (by omega);simp only[d0,b2,n5,h3,h4,eE,seval];refine aC (c66 z.bits hbb) ?_;simp only[QI,hadd,h4,e1,Qa,seval];exact⟨l.length-(i+1),by omega,_,_,i+1,rfl,rfl,by omega,(by exact h0),(by rw[hFx];exact(by rfl)),(by rfl),ZK rfl⟩
   ·have b2:(w==2)=false:=by simp[w2]
    have epb:K8 w z.bits=Vp.put z.bits:=by unfold K8;rw[QXG w2]
    rw[epb]at hFx hpx;have hadd:((F i).length+(Vp.put z.bits).length≤9223372036854775807)=True:=eq_true (by omega);simp only[d0,b2,n5,h3,h4,eE,seval];refine aC (PZ z.bits hbb) ?_;simp only[QI,hadd,h4,e1,Qa,seval];exact⟨l.length-(i+1),by omega,_,_,i+1,rfl,rfl,by omega,(by exact h0),(by rw[hFx];exact(by rfl)),(by rfl),ZK rfl⟩
 ·have e:i=l.length:=by omega
  subst e;simp only[Qw hlt,h3,Qa,seval]

end

def CR (n:Int)(x:V):List AV:=[.int .i64 n,.int .i64 x.kd,.int .u64 (x.bits:Nat),.str x.text,.list (x.list.map V.av),.list (x.pairs.map V.pav),.list (x.slots.map V.sav),.list (x.raws.map R.av)]

structure RaF (P:PL)(o:PO)(x:V)(f:Fr)(fr:Nat→Ob)(g:Nat)(out:List R):Prop where
 f3:f 3=.ptr 0 3 0
 f5:f 5=.ptr 0 5 0
 f7:f 7=.ptr 0 7 0
 f9:f 9=.vec 0 9 g 0 out.length false
 m3:fr 3=.cells [.list (P.progs.map Qh),.list (P.enums.map Qq)]
 m5:fr 5=.cells (CR o.num x)
 m7:fr 7=.cells o.cells
 mR:fr 9=.vec g 4 (out.map R.av)

section
variable {M:Nat}{P:PL}{m:PG→V→Int}{bd:Int→V→List UInt8}(o:PO)(ho:UO P o)

theorem QaW (hel:∀(n:Int) (x:V),x.ok M→x.cnt≤1048576→QN m P o x=0→Qk Tryz.prog 40 [P.av,Qr o,.int .i64 n,x.av] (Q5 bd o n x).av)(x:V)(hx:x.ok M)(hc:x.cnt≤1048576)(hL:∀y∈x.list,QN m P o y=0)(f:Fr)(fr:Nat→Ob)(g:Nat)(h:RaF P o x f fr g [])(h13:f 13=.int .i64 0)(Q:Exit→St→Prop)
  (q:∀f fr g,RaF P o x f fr g (x.list.map (Q5 bd o o.num))→Q (.exit 3) (⟨f,[fr],[]⟩:St)) :
  QH Tryz.prog (.loop Au) ⟨f,[fr],[]⟩ Q:=by
 have e0:P.av=.agg [.list (P.progs.map Qh),.list (P.enums.map Qq)]:=rfl;have hlen:=JT x
 let I:Nat→St→Prop:=fun k st=>∃f fr i g,st=⟨f,[fr],[]⟩∧k=x.list.length-i∧i≤x.list.length∧RaF P o x f fr g ((x.list.take i).map (Q5 bd o o.num))∧f 13=.int .i64 (i:Nat)
 refine Qd I _ ⟨f,fr,0,g,rfl,rfl,QXA _,h,h13⟩ ?_;clear h h13;rintro _ st ⟨f,fr,i,g,rfl,rfl,hil,⟨h3,h5,h7,h9,m3,m5',m7',mR⟩,h13⟩;have m5:=m5';have m7:=m7';simp only[CR]at m5;simp only[PO.cells]at m7;have hti:((x.list.take i).map (Q5 bd o o.num)).length=i:=by rw[QYn,QYp];omega
 rw[hti]at h9;simp only[QYn,h5,h13,m5,eE,seval];by_cases hlt:i<x.list.length
 ·obtain⟨y,hi⟩:∃y,x.list[i]? = some y:=⟨x.list[i],QXt hlt⟩;have hy:=QXF hi;have hg:=WF hi;have e1:=Ql i _ hlt (by simp only[maxLen];omega);have c1:=hel o.num y (hx.list y hy) (QXr (YS hy) hc) (hL y hy);have hts:(x.list.take (i+1)).map (Q5 bd o o.num)=(x.list.take i).map (Q5 bd o o.num)++[Q5 bd o o.num y]:=by rw[QZa,hi];simp
  generalize Q5 bd o o.num y=z at c1 hts;rw[e0,Qs y]at c1;simp only[Qr,PO.cells,R.av]at c1;simp only[Qm hlt,Qi,QYT,Qb,hg,h3,h5,h7,h9,h13,m3,m5,m7,eE,seval];refine aC c1 ?_;refine QP (l:=[z.av]) rfl rfl rfl rfl ?_;refine QG (site:=9) (g:=g) (n:=i) (xs:=((x.list.take i).map (Q5 bd o o.num)).map R.av) (ys:=[z.av]) (by rfl) (by exact mR) rfl (by rw[QYn,hti]) rfl (Jc [z]) (by simp only[QXH,QYo,maxLen];omega) (by simp only[QXH,QYo];omega) ?_;simp only[h13,e1,Qa,seval];refine⟨x.list.length-(i+1),by omega,_,_,i+1,g+1,rfl,rfl,by omega,⟨(by exact h3),(by exact h5),(by exact h7),?_,(by exact m3),(by exact m5'),(by exact m7'),by rw[hts,QY9];exact(by rfl)⟩,(by rfl)⟩;rw[hts,QX4,hti];exact(by rfl)
 ·have e:i=x.list.length:=by omega
  subst e;rw[←hti]at h9;rw[QY1]at h9 mR;simp only[Qw hlt,Qa,seval];exact q _ _ g ⟨(by exact h3),(by exact h5),(by exact h7),(by exact h9),(by exact m3),(by exact m5'),(by exact m7'),(by exact mR)⟩

include ho in
theorem Sq (hbd:∀(t:Int) (v:V),(0≤t∧t<(P.progs.length:Int))→m (Q1 P t) v=0→(bd t v).length+70000≤70000*v.cnt)(hel:∀(n:Int) (x:V),x.ok M→x.cnt≤1048576→QN m P o x=0→Qk Tryz.prog 40 [P.av,Qr o,.int .i64 n,x.av] (Q5 bd o n x).av)(x:V)(hx:x.ok M)(hc:x.cnt≤1048576)(hE:∀p∈x.pairs,p.1.one P o.key (-1)=0∧QN m P o p.2=0)(f:Fr)(fr:Nat→Ob)(g:Nat)(h:RaF P o x f fr g [])(h10:f 10=.int .i64 0)(Z5:∀s∈[11],(fr s).isRow=false)(Q:Exit→St→Prop)
  (q:∀f fr g,RaF P o x f fr g (x.pairs.map (ZQ bd o))→Q (.exit 1) (⟨f,[fr],[]⟩:St)) :
  QH Tryz.prog (.loop As) ⟨f,[fr],[]⟩ Q:=by
 have e0:P.av=.agg [.list (P.progs.map Qh),.list (P.enums.map Qq)]:=rfl;have hlen:=KR x
 let I:Nat→St→Prop:=fun k st=>∃f fr i g,st=⟨f,[fr],[]⟩∧k=x.pairs.length-i∧i≤x.pairs.length∧RaF P o x f fr g ((x.pairs.take i).map (ZQ bd o))∧f 10=.int .i64 (i:Nat)∧∀s∈[11],(fr s).isRow=false
 refine Qd I _ ⟨f,fr,0,g,rfl,rfl,QXA _,h,h10,Z5⟩ ?_;clear h h10 Z5;rintro _ st ⟨f0,fr0,i,g,rfl,rfl,hil,⟨h30,h50,h70,h90,m30,m50,m70,mR0⟩,h100,Z5⟩;refine QJ (a:=_) [11] Z5 ?_;intro f fr hf hm hn11;have hti:((x.pairs.take i).map (ZQ bd o)).length=i:=by rw[QYn,QYp];omega
 rw[hti]at h90;have h3:f 3=.ptr 0 3 0:=by rw[hf,h30]<;>rfl
 have h5:f 5=.ptr 0 5 0:=by rw[hf,h50]<;>rfl
 have h7:f 7=.ptr 0 7 0:=by rw[hf,h70]<;>rfl
 have h9:f 9=.vec 0 9 g 0 i false:=by rw[hf,h90]<;>rfl
 have h10:f 10=.int .i64 (i:Nat):=by rw[hf,h100]<;>rfl
 have m3:fr 3=.cells [.list (P.progs.map Qh),.list (P.enums.map Qq)]:=by rw[hm 3 (by decide),m30]<;>rfl
 have m5':fr 5=.cells (CR o.num x):=by rw[hm 5 (by decide),m50]<;>rfl
 have m7':fr 7=.cells o.cells:=by rw[hm 7 (by decide),m70]<;>rfl
 have mR:fr 9=.vec g 4 (((x.pairs.take i).map (ZQ bd o)).map R.av):=by rw[hm 9 (by decide),mR0]<;>rfl
 have n11:=hn11 11 (by decide);clear hf hm hn11 h30 h50 h70 h90 h100 m30 m50 m70 mR0 Z5;have m5:=m5';have m7:=m7';simp only[CR]at m5;simp only[PO.cells]at m7;simp only[QYn,h5,h10,m5,eE,seval];by_cases hlt:i<x.pairs.length
 ·obtain⟨p,hi⟩:∃p,x.pairs[i]? = some p:=⟨x.pairs[i],QXt hlt⟩;have hp:=QXF hi;have hg:=Z0 hi;have e1:=Ql i _ hlt (by simp only[maxLen];omega);have hcc:=U5 hp;have hck:=Vt hp;have c0:=u39 p.1;have c2:=hel 2 p.2 (hx.vals p hp) (QXr hcc hc) (hE p hp).2;have hpn:=Y3 (l:=[Z6 1 p.1,Q5 bd o 2 p.2]) (fun f hf=>by
   rcases QYO.1 hf with rfl|hf
   ·exact No (hx.keys p hp) 1
   ·rw[QZs]at hf;subst hf;exact Da (hx.vals p hp) bd o 2) (by have:=DH hbd ho (hE p hp).1 (hE p hp).2;omega)
  have c4:=c33 [Z6 1 p.1,Q5 bd o 2 p.2] hpn.1 hpn.2.1 hpn.2.2;have hts:(x.pairs.take (i+1)).map (ZQ bd o)=(x.pairs.take i).map (ZQ bd o)++[⟨o.num,6,0,QZ [Z6 1 p.1,Q5 bd o 2 p.2]⟩]:=by rw[QZa,hi,QZb,QY9];rfl
  clear hpn;rw[show Z6 1 p.1={ Xa p.1.kd p.1.bits p.1.text with num:=1 } from rfl]at c4 hts;generalize Xa p.1.kd p.1.bits p.1.text=y0 at c0 c4 hts;generalize Q5 bd o 2 p.2=z2 at c2 c4 hts;generalize hd:QZ [{ y0 with num:=1 },z2]=d at c4 hts;rw[Qs p.1]at c0;rw[e0,Qs p.2]at c2;simp only[Qr,PO.cells,R.av,K7,QXY,QYt]at c0 c2 c4;simp only[Qm hlt,Qi,QYT,Qb,hg,h5,h10,m5,eE,seval];refine aC c0 ?_;simp only[Qi,QYT,Qb,hg,n11,h3,h5,h7,h10,m3,m5,m7,eE,seval];refine aC c2 ?_;refine QP (l:=[({ y0 with num:=1 }:R).av,z2.av]) rfl rfl rfl rfl ?_;simp only[h5,h9,m5,eE,seval];refine aC c4 ?_;simp only[eE,seval];refine QP (l:=[(R.mk o.num 6 0 d).av]) rfl rfl rfl rfl ?_;refine QG (site:=9) (g:=g) (n:=i) (xs:=((x.pairs.take i).map (ZQ bd o)).map R.av) (ys:=[(R.mk o.num 6 0 d).av]) (by rfl) (by exact mR) rfl (by rw[QYn,hti]) rfl (Jc [_]) (by simp only[QXH,QYo,maxLen];omega) (by simp only[QXH,QYo];omega) ?_;simp only[h10,e1,Qa,seval];refine⟨x.pairs.length-(i+1),by omega,_,_,i+1,g+1,rfl,rfl,by omega,⟨(by exact h3),(by exact h5),(by exact h7),?_,(by exact m3),(by exact m5'),(by exact m7'),by rw[hts,QY9];exact(by rfl)⟩,(by rfl),ZK rfl⟩;rw[hts,QX4,hti];exact(by rfl)
 ·have e:i=x.pairs.length:=by omega
  subst e;rw[←hti]at h9;rw[QY1]at h9 mR;simp only[Qw hlt,Qa,seval];exact q _ _ g ⟨(by exact h3),(by exact h5),(by exact h7),(by exact h9),(by exact m3),(by exact m5'),(by exact m7'),(by exact mR)⟩

end

section
variable {M:Nat}{P:PL}{m:PG→V→Int}{bd:Int→V→List UInt8}

theorem u20 (hU:Yo P)(hP:P.ok M)(hbd:∀(t:Int) (v:V),(0≤t∧t<(P.progs.length:Int))→m (Q1 P t) v=0→(bd t v).length+70000≤70000*v.cnt)(hb:∀(t:Int) (g:PG),P.progs[t.toNat]? = some g→0≤t→∀v:V,v.ok M→v.cnt≤1048576→m g v=0→Qk Tryz.prog 16 [P.av,.int .i64 t,v.av] (.str (bd t v)))(t:Int)(g:PG)(hgt:P.progs[t.toNat]? = some g)(t0:0≤t)(s:Int×V)(hv:s.2.ok M)(hc:s.2.cnt≤1048576)(hw:Wd P m g s) :
  Qk Tryz.prog 20 [P.av,.int .i64 t,V.sav s] (.list ((WM bd g s).map R.av)):=by
 have e0:P.av=.agg [.list (P.progs.map Qh),.list (P.enums.map Qq)]:=rfl;have hgm:=QXF hgt;obtain⟨o,ho,hf,hemp⟩:=hw;obtain⟨hom,hon⟩:=Zu ho;have hu:=hU g hgm o hom;have c1:=TB g (hP.progs g hgm).len s.1;rw[JZ,ho]at c1;have c2:=y41 o.num o.name o.alias o.card o.key o.kind o.target o.union;have hel:=fun(n:Int) (x:V) (hx:x.ok M) (hxc:x.cnt≤1048576) (he:QN m P o x=0)=>u40 o hu hb n x hx hxc he
 have hsl:WM bd g s=UI bd o s.2:=by unfold WM;rw[ho]
 rw[hsl];clear hsl;obtain⟨ti,hti⟩:=QY5 t0;subst hti;rw[QYT]at hgt;have hga:(P.progs.map Qh)[ti]? = some (.agg g.cells):=by simp[hgt,Qh]
 have htl:ti<P.progs.length:=(QXs.1 hgt).1;have d0:decide ((ti:Int)<0)=false:=QZd (by omega);have d1:decide ((ti:Int)≥(P.progs.length:Int))=false:=QZd (by omega);rw[←hon]at c1;rw[Zs,←hon];obtain⟨sn,x⟩:=s;dsimp only at hv hc hf hemp ⊢;clear hon ho;simp only[PG.cells]at hga;simp only[Qh,Qr,PG.cells,PO.cells,QYC,QZe]at c1;simp only[oc]at c2;refine k20.fn (by simp) ?_;simp only[e0,d0,d1,Qi,QYT,Qb,hga,QYn,eE,seval];refine aC c1 ?_;simp only[eE,seval];refine XF rfl rfl ?_;simp only[eE,seval];unfold UI;unfold Q3 at hf;by_cases h5:o.card=5
 ·have b5:(o.card==5)=true:=by simp[h5]
  rw[QXV h5]at hf;rw[QXV h5];split at hf
  ·omega
  simp only[b5,Qa,seval];refine Sq o hu hbd hel x hv hc (Wp.1 hf).1 _ _ 1 ⟨(by rfl),(by rfl),(by rfl),(by rfl),(by rfl),(by rfl),(by rfl),(by rfl)⟩ (by rfl) (ZK rfl) _ ?_;rintro f fr g ⟨h3,h5',h7,h9,m3,m5,m7,mR⟩;simp only[h9,mR,eE,seval];simp[AV.un,XZ,Xm,QX0]
 have b5:(o.card==5)=false:=by simp[h5]
 rw[QXG h5]at hf;rw[QXG h5];simp only[b5,eE,seval];refine aC c2 ?_;by_cases hp:pk o.card o.kind=true
 ·rw[QXV hp];obtain⟨h4,_⟩:=Y0 hp;obtain⟨hkd,hks⟩:=QaQ (m:=m) (P:=P) hp (by unfold Q3;rw[QXG h5];exact hf);have hxl:=JT x;have hne:=Sm hkd (hemp.resolve_left (by omega));have cp:=u42 (M:=M) (wk o.kind) (AI hp) x.list hne (by omega) (fun y hy=>by rw[hks y hy];exact P2 hp _ _) hv.list;have hpk:DE o x.list=⟨o.num,5,0,UInt8.ofNat (wk o.kind).toNat :: x.list.flatMap (K9 (wk o.kind))⟩:=rfl;rw[hpk];generalize UInt8.ofNat (wk o.kind).toNat :: x.list.flatMap (K9 (wk o.kind))=d at cp ⊢;simp only[hp,eE,seval];refine aC cp ?_;simp only[eE,seval];refine QP (l:=[(R.mk o.num 5 0 d).av]) rfl rfl rfl rfl ?_;refine QG (site:=9) (g:=1) (n:=0) (xs:=[]) (ys:=[(R.mk o.num 5 0 d).av]) (by rfl) (by rfl) rfl rfl rfl (Jc [_]) (by simp only[QXH,QYo,maxLen];omega) (by simp only[QXH,QYo];omega) ?_;simp only[eE,seval];simp[]
 have hpf:pk o.card o.kind=false:=by simpa using hp
 rw[QXG hp];simp only[hpf,eE,seval];by_cases h4:o.card=4
 ·have b4:(o.card==4)=true:=by simp[h4]
  rw[QXV h4]at hf;rw[QXV h4];split at hf
  ·omega
  simp only[b4,Qa,seval];refine QaW o hel x hv hc (KE.1 hf) _ _ 1 ⟨(by rfl),(by rfl),(by rfl),(by rfl),(by rfl),(by rfl),(by rfl),(by rfl)⟩ (by rfl) _ ?_;rintro f fr g ⟨h3,h5',h7,h9,m3,m5,m7,mR⟩;simp only[h9,mR,eE,seval];simp[AV.un,XZ,Xm,QX0]
 ·have b4:(o.card==4)=false:=by simp[h4]
  rw[QXG h4]at hf;rw[QXG h4];have c3:=hel o.num x hv hc hf;generalize Q5 bd o o.num x=z at c3 ⊢;rw[e0,Qs x]at c3;simp only[Qr,PO.cells,R.av]at c3;simp only[b4,eE,seval];refine aC c3 ?_;refine QP (l:=[z.av]) rfl rfl rfl rfl ?_;refine QG (site:=9) (g:=1) (n:=0) (xs:=[]) (ys:=[z.av]) (by rfl) (by rfl) rfl rfl rfl (Jc [_]) (by simp only[QXH,QYo,maxLen];omega) (by simp only[QXH,QYo];omega) ?_;simp only[eE,seval];simp[]

end

section
variable {M:Nat}{P:PL}{m:PG→V→Int}{bd:Int→V→List UInt8}(o:PO)(ho:UO P o)

def PkI (o:PO)(l:List V)(F:Nat→List UInt8)(k:Nat)(st:St):Prop :=
 ∃f fr i g,st=⟨f,[fr],[]⟩∧k=l.length-i∧i≤l.length∧f 4=.ptr 0 4 0∧f 8=.int .i64 (wk o.kind)∧f 9=.vec 0 19 g 0 (F i).length false∧f 21=.list (l.map V.av)∧f 22=.int .i64 (l.length:Nat)∧f 23=.int .i64 (i:Nat)∧fr 4=.cells o.cells∧fr 19=.vec g 1 (QA (F i))∧∀s∈[11],(fr s).isRow=false

theorem QSW (hp:pk o.card o.kind=true)(v:V)(hv:v.ok M)(hc:v.cnt≤1048576) :
  Qk Tryz.prog 120 [P.av,Qr o,v.av] (.list ([DE o v.list].map R.av)):=by
 have e0:P.av=.agg [.list (P.progs.map Qh),.list (P.enums.map Qq)]:=rfl;have hlen:=JT v;have cw:=QPR o.num o.name o.alias 2 o.key o.kind o.target o.union;have hw2:Pe 2 o.kind=wk o.kind:=by
  have e:pk 2 o.kind=false:=by simp[pk]
  unfold Pe;rw[e];rfl
 rw[hw2]at cw;simp only[oc]at cw;have hcv:∃b:UInt8,IntKind.u8.wrap (wk o.kind)=(b.toNat:Int)∧UInt8.ofNat (wk o.kind).toNat=b:=by
  rcases AI hp with h|h|h<;>rw[h]
  ·exact⟨0,rfl,rfl⟩
  ·exact⟨1,rfl,rfl⟩
  ·exact⟨2,rfl,rfl⟩
 obtain⟨b0,hb0,hb1⟩:=hcv;have hpk:DE o v.list=⟨o.num,5,0,b0 :: v.list.flatMap (K9 (wk o.kind))⟩:=by unfold DE;rw[hb1]
 rw[hpk];clear hpk hb1
 let F:Nat→List UInt8:=fun i=>b0 :: (v.list.take i).flatMap (K9 (wk o.kind))
 have hF0:F 0=[b0]:=by simp[F]
 have hFn:F v.list.length=b0 :: v.list.flatMap (K9 (wk o.kind)):=by simp[F]
 have hFl:∀i,i≤v.list.length→(F i).length≤1+10*i:=by
  intro i hi;have:=U6 (wk o.kind) (v.list.take i);rw[QYp]at this;simp only[F,QXH];omega
 have hFs:∀i x,v.list[i]? = some x→F (i+1)=F i++K9 (wk o.kind) x:=by
  intro i x hx;simp only[F];rw[QZa,hx,QZA];simp
 rw[←hFn]
 clear_value F
 clear hFn;have hbl:∀s:List UInt8,(QA s).length=s.length:=fun s=>by simp[QA]
 rw[Qs v];refine QdO.fn (by simp) ?_;simp only[e0,Qr,PO.cells,eE,seval];refine aC cw ?_;simp only[hb0,Qa,seval];refine DW (y:=[.int .u8 (b0.toNat:Int)]) rfl rfl rfl rfl ?_;simp only[QYn,eE,seval];refine Qd (PkI o v.list F) _ ⟨_,_,0,_,rfl,rfl,QXA _,(by rfl),(by rfl),(by rw[hF0];exact(by rfl)),(by rfl),(by rfl),(by rfl),(by rfl),(by rw[hF0];exact(by rfl)),ZK rfl⟩ ?_;rintro _ st ⟨f0,fr0,i,g,rfl,rfl,hil,h40,h80,h90,h210,h220,h230,m40,mR0,Z5⟩;refine QJ (a:=_) [11] Z5 ?_;intro f fr hf hm hn11;have h4:f 4=.ptr 0 4 0:=by rw[hf,h40]<;>rfl
 have h8:f 8=.int .i64 (wk o.kind):=by rw[hf,h80]<;>rfl
 have h9:f 9=.vec 0 19 g 0 (F i).length false:=by rw[hf,h90]<;>rfl
 have h21:f 21=.list (v.list.map V.av):=by rw[hf,h210]<;>rfl
 have h22:f 22=.int .i64 (v.list.length:Nat):=by rw[hf,h220]<;>rfl
 have h23:f 23=.int .i64 (i:Nat):=by rw[hf,h230]<;>rfl
 have m4':fr 4=.cells o.cells:=by rw[hm 4 (by decide),m40]<;>rfl
 have mR:fr 19=.vec g 1 (QA (F i)):=by rw[hm 19 (by decide),mR0]<;>rfl
 have n11:=hn11 11 (by decide);clear hf hm hn11 h40 h80 h90 h210 h220 h230 m40 mR0 Z5;have m4:=m4';simp only[PO.cells]at m4;simp only[h22,h23,Qa,seval];by_cases hlt:i<v.list.length
 ·obtain⟨x,hi⟩:∃x,v.list[i]? = some x:=⟨v.list[i],QXt hlt⟩;have hx:=QXF hi;have hg:=WF hi;have e1:=Ql i _ hlt (by simp only[maxLen];omega);have c1:=t25 (hv.list x hx);rw[Qyy]at c1;have hbb:(Xa x.kd x.bits x.text).bits<18446744073709551616:=UJ (AJ (hv.list x hx)) _;have hFi:=hFl i (by omega);have hFx:=hFs i x hi;have hpx:=DI (wk o.kind) x;have epx:K9 (wk o.kind) x=K8 (wk o.kind) (Xa x.kd x.bits x.text).bits:=rfl;rw[epx]at hFx hpx;clear epx;generalize Xa x.kd x.bits x.text=z at c1 hbb hFx hpx;rw[Qs x]at c1;simp only[R.av]at c1;simp only[Qm hlt,Qi,QYT,Qb,hg,n11,h21,h23,eE,seval];refine aC c1 ?_;by_cases w2:wk o.kind=2
  ·have b2:(wk o.kind==2)=true:=by simp[w2]
   have epb:K8 (wk o.kind) z.bits=fx 8 z.bits:=by unfold K8;rw[QXV w2]
   rw[epb]at hFx hpx;simp only[b2,h8,h9,Qa,seval];refine aC (Qyq z.bits) ?_;refine Um (site:=19) (g:=g) (xs:=QA (F i)) (by rfl) (by exact mR) rfl (hbl _).symm rfl (by omega) ?_;simp only[h23,e1,eE,seval];exact⟨v.list.length-(i+1),by omega,_,_,i+1,g+1,rfl,rfl,by omega,(by exact h4),(by exact h8),(by rw[hFx,QX4];exact(by rfl)),(by exact h21),(by exact h22),(by rfl),(by exact m4'),(by rw[hFx,show QA (F i++fx 8 z.bits)=QA (F i)++QA (fx 8 z.bits)by simp[QA]];exact(by rfl)),ZK rfl⟩
  ·have b2:(wk o.kind==2)=false:=by simp[w2]
   have epb:K8 (wk o.kind) z.bits=Vp.put z.bits:=by unfold K8;rw[QXG w2]
   rw[epb]at hFx hpx;simp only[b2,h8,h9,Qa,seval];refine aC (CM z.bits hbb) ?_;refine Um (site:=19) (g:=g) (xs:=QA (F i)) (by rfl) (by exact mR) rfl (hbl _).symm rfl (by omega) ?_;simp only[h23,e1,eE,seval];exact⟨v.list.length-(i+1),by omega,_,_,i+1,g+1,rfl,rfl,by omega,(by exact h4),(by exact h8),(by rw[hFx,QX4];exact(by rfl)),(by exact h21),(by exact h22),(by rfl),(by exact m4'),(by rw[hFx,show QA (F i++Vp.put z.bits)=QA (F i)++QA (Vp.put z.bits)by simp[QA]];exact(by rfl)),ZK rfl⟩
 ·have e:i=v.list.length:=by omega
  subst e;have he:Q7 [fr] (.vec 0 19 g 0 (F v.list.length).length false)=some (QA (F v.list.length)):=JW mR (hbl _).symm;have hbo:bytesOf (QA (F v.list.length))=some (F v.list.length):=JA _;simp only[Qw hlt,h4,h9,m4,he,hbo,eE,seval];refine QP (l:=[(R.mk o.num 5 0 (F v.list.length)).av]) rfl rfl rfl rfl ?_;simp only[QXY,QYt,Qa,seval]

def Nt (o:PO):Nat:=if o.card=5 then 118 else if pk o.card o.kind=true then 120 else if o.card=4 then 121 else 122

theorem t73:Qk Tryz.prog 73 [Qr o] (.fn (.func (Nt o)) [] []):=by
 have cp:=Qwx o.num o.name o.alias o.card o.key o.kind o.target o.union;simp only[oc]at cp;unfold Nt;refine k73.fn (by simp) ?_;simp only[Qr,PO.cells,eE,seval];by_cases h5:o.card=5
 ·have b5:(o.card==5)=true:=by simp[h5]
  rw[QXV h5];simp only[b5,Qa,seval]
 have b5:(o.card==5)=false:=by simp[h5]
 rw[QXG h5];simp only[b5,eE,seval];refine aC cp ?_;cases hp:pk o.card o.kind
 case true=>simp only[Qa,seval]
 simp only[eE,seval];by_cases h4:o.card=4
 ·have b4:(o.card==4)=true:=by simp[h4]
  simp only[h4,Qa,seval]
 ·have b4:(o.card==4)=false:=by simp[h4]
  simp only[b4,h4,Qa,seval]

theorem QSX (hel:∀x:V,x.ok M→x.cnt≤1048576→QN m P o x=0→Qk Tryz.prog 197 [P.av,Qr o,x.av] (Q5 bd o 0 x).av)(v:V)(hv:v.ok M)(hc:v.cnt≤1048576)(he:QN m P o v=0) :
  Qk Tryz.prog 122 [P.av,Qr o,v.av] (.list ([Q5 bd o o.num v].map R.av)):=by
 have e0:P.av=.agg [.list (P.progs.map Qh),.list (P.enums.map Qq)]:=rfl;have c1:=hel v hv hc he;have c2:=CQ o.num (Q5 bd o 0 v);rw[DL]at c2;generalize Q5 bd o 0 v=y at c1 c2;generalize Q5 bd o o.num v=z at c2 ⊢;rw[e0,Qs v]at c1;simp only[Qr,PO.cells,R.av]at c1 c2;rw[Qs v];refine QdT.fn (by simp) ?_;simp only[e0,Qr,PO.cells,eE,seval];refine aC c1 ?_;refine aC c2 ?_;refine QP (l:=[z.av]) rfl rfl rfl rfl ?_;simp only[QXY,QYt,Qa,seval]

include ho in
theorem QJd (hbd:∀(t:Int) (v:V),(0≤t∧t<(P.progs.length:Int))→m (Q1 P t) v=0→(bd t v).length+70000≤70000*v.cnt)(hb:∀(t:Int) (g:PG),P.progs[t.toNat]? = some g→0≤t→∀v:V,v.ok M→v.cnt≤1048576→m g v=0→Qk Tryz.prog 29 [P.av,.int .i64 t,v.av] (.str (bd t v)))(v:V)(hv:v.ok M)(hc:v.cnt≤1048576)(hf:Q3 m P o v=0) :
  Qk Tryz.prog (Nt o) [P.av,Qr o,v.av] (.list ((UI bd o v).map R.av)):=by
 have hel:=fun(x:V) (hx:x.ok M) (hxc:x.cnt≤1048576) (he:QN m P o x=0)=>QSQ o ho hb x hx hxc he
 unfold Nt UI;unfold Q3 at hf;by_cases h5:o.card=5
 ·rw[QXV h5]at hf;rw[QXV h5,QXV h5];split at hf
  ·omega
  exact QSU o ho hbd hel v hv hc (Wp.1 hf).1
 rw[QXG h5]at hf;rw[QXG h5,QXG h5];by_cases hp:pk o.card o.kind=true
 ·rw[QXV hp,QXV hp];exact QSW o hp v hv hc
 rw[QXG hp,QXG hp];by_cases h4:o.card=4
 ·rw[QXV h4]at hf;rw[QXV h4,QXV h4];split at hf
  ·omega
  exact QST o hel v hv hc (KE.1 hf)
 ·rw[QXG h4]at hf;rw[QXG h4,QXG h4];exact QSX o hel v hv hc hf
end

section
variable {M:Nat}{P:PL}{m:PG→V→Int}{bd:Int→V→List UInt8}

theorem t37 (hU:Yo P)(hP:P.ok M)(hbd:∀(t:Int) (v:V),(0≤t∧t<(P.progs.length:Int))→m (Q1 P t) v=0→(bd t v).length+70000≤70000*v.cnt)(hb:∀(t:Int) (g:PG),P.progs[t.toNat]? = some g→0≤t→∀v:V,v.ok M→v.cnt≤1048576→m g v=0→Qk Tryz.prog 29 [P.av,.int .i64 t,v.av] (.str (bd t v)))(t:Int)(g:PG)(hgt:P.progs[t.toNat]? = some g)(t0:0≤t)(s:Int×V)(hv:s.2.ok M)(hc:s.2.cnt≤1048576)(o:PO)(ho:XO g s.1=some o)(hf:Q3 m P o s.2=0) :
  Qk Tryz.prog 37 [P.av,.int .i64 t,V.sav s] (.list ((WM bd g s).map R.av)):=by
 have e0:P.av=.agg [.list (P.progs.map Qh),.list (P.enums.map Qq)]:=rfl;have hgm:=QXF hgt;obtain⟨hom,hon⟩:=Zu ho;have c1:=Tw g (hP.progs g hgm).len s.1;rw[JZ,ho]at c1;have c2:=t73 o;have c3:=QJd o (hU g hgm o hom) hbd hb s.2 hv hc hf;have hsl:WM bd g s=UI bd o s.2:=by unfold WM;rw[ho]
 rw[hsl];obtain⟨ti,hti⟩:=QY5 t0;subst hti;rw[QYT]at hgt;have hga:(P.progs.map Qh)[ti]? = some (.agg g.cells):=by simp[hgt,Qh]
 generalize UI bd o s.2=z at c3 ⊢;generalize Nt o=k at c2 c3;simp only[PG.cells]at hga;rw[e0,Qs s.2]at c3;simp only[Qh,Qr,PG.cells,PO.cells,QYC,QZe]at c1 c2 c3;rw[Zs];refine k37.fn (by simp) ?_;simp only[e0,Qi,QYT,Qb,hga,eE,seval];refine aC c1 ?_;simp only[eE,seval];refine aC c2 ?_;simp only[eE,seval];refine Ka (fa:=[]) (fb:=[]) (by rfl) c3 rfl rfl rfl (.inl rfl) ?_;simp only[Qa,seval]

end

section
variable (bd:Int→V→List UInt8)(g:PG)
theorem VA {s:Int×V}{sl:List (Int×V)}{r:R}{rs:List R}(h:r.num<s.1):Xz bd g (s :: sl) (r :: rs)=r :: Xz bd g (s :: sl) rs:=by
 have d:decide (r.num<s.1)=true:=QZi h;rw[Xz,Xz,List.takeWhile_cons,List.dropWhile_cons,QXV d,QXV d];rfl
theorem U8 {s:Int×V}{sl:List (Int×V)}{rs:List R}(h:∀r l,rs=r :: l→¬r.num<s.1):Xz bd g (s :: sl) rs=WM bd g s++Xz bd g sl rs:=by
 rw[Xz];cases rs with
 |nil=>rfl
 |cons r l=>
  have d:¬decide (r.num<s.1)=true:=fun e=>h r l rfl (of_decide_eq_true e)
  rw[List.takeWhile_cons,List.dropWhile_cons,QXG d,QXG d];rfl
end

structure BoF (P:PL)(t:Nat)(S:List (Int×V))(f:Fr)(fr:Nat→Ob)(i g:Nat)(out rest:List R):Prop where
 f1:f 1=.int .i64 (t:Nat)
 f3:f 3=.ptr 0 3 0
 f8:f 8=.vec 0 8 g 0 out.length false
 f9:f 9=.list (rest.map R.av)
 f20:f 20=.list (S.map V.sav)
 f21:f 21=.int .i64 (S.length:Nat)
 f22:f 22=.int .i64 (i:Nat)
 m3:fr 3=.cells [.list (P.progs.map Qh),.list (P.enums.map Qq)]
 mR:fr 8=.vec g 4 (out.map R.av)

section
variable {M:Nat}{P:PL}

theorem QJe (bd:Int→V→List UInt8)(g:PG)(t:Nat)(S:List (Int×V))(i:Nat)(s:Int×V)(sl:List (Int×V))(T:List R)(hT:T.length≤3000000000000)(f:Fr)(fr:Nat→Ob)(gn:Nat)(out rest:List R)(h:BoF P t S f fr i gn out rest)(h11:f 11=.ptr 0 11 0)(m11:fr 11=.cells [.int .i64 s.1,.int .i64 s.2.kd,.int .u64 (s.2.bits:Nat),.str s.2.text,.list (s.2.list.map V.av),.list (s.2.pairs.map V.pav),.list (s.2.slots.map V.sav),.list (s.2.raws.map R.av)])(hi:out++Xz bd g (s :: sl) rest=T)(Q:Exit→St→Prop)
  (q:∀f fr gn out rest,BoF P t S f fr i gn out rest→f 11=.ptr 0 11 0→fr 11=.cells [.int .i64 s.1,.int .i64 s.2.kd,.int .u64 (s.2.bits:Nat),.str s.2.text,.list (s.2.list.map V.av),.list (s.2.pairs.map V.pav),.list (s.2.slots.map V.sav),.list (s.2.raws.map R.av)]→out++(WM bd g s++Xz bd g sl rest)=T→Q (.exit 2) (⟨f,[fr],[]⟩:St)) :
  QH Tryz.prog (.loop SC) ⟨f,[fr],[]⟩ Q:=by
 let I:Nat→St→Prop:=fun k st=>∃f fr gn out rest,st=⟨f,[fr],[]⟩∧k=rest.length∧BoF P t S f fr i gn out rest∧f 11=.ptr 0 11 0∧fr 11=.cells [.int .i64 s.1,.int .i64 s.2.kd,.int .u64 (s.2.bits:Nat),.str s.2.text,.list (s.2.list.map V.av),.list (s.2.pairs.map V.pav),.list (s.2.slots.map V.sav),.list (s.2.raws.map R.av)]∧out++Xz bd g (s :: sl) rest=T
 refine Qd I _ ⟨f,fr,gn,out,rest,rfl,rfl,h,h11,m11,hi⟩ ?_;clear h h11 m11 hi;rintro _ st ⟨f,fr,gn,out,rest,rfl,rfl,⟨h1,h3,h8,h9,h20,h21,h22,m3,mR⟩,h11,m11,hi⟩;simp only[Qa,seval];cases rest with
 |nil=>
  have d1:decide (((0:Nat):Int) > 0)=false:=rfl;simp only[QYt,QYo,h9,Qa,seval];exact q _ _ gn out [] ⟨(by exact h1),(by exact h3),(by exact h8),(by exact h9),(by exact h20),(by exact h21),(by exact h22),m3,mR⟩ (by exact h11) m11 (by rw[←hi,U8];intro r l e;cases e)
 |cons r l=>
  have d1:decide (((l.length+1:Nat):Int) > 0)=true:=QZi (by omega);have hml:(l.map R.av).length=l.length:=QYn ..;by_cases hr:r.num<s.1
  ·have d2:decide (r.num<s.1)=true:=QZi hr;rw[VA bd g hr]at hi;have hol:out.length+1≤T.length:=by rw[←hi];simp
   have hs1:(1≤((r :: l).map R.av).length)=True:=eq_true (by simp);have hs3:=Jc (r :: l);have hs2:List.take (((r :: l).map R.av).length-1) (List.drop 1 ((r :: l).map R.av))=l.map R.av:=by simp[QX0]
   simp only[QXY,QXH,hml,d1,d2,R.av,QYu,Qb,h8,h9,h11,m11,eE,seval];refine QP (l:=[r.av]) rfl rfl rfl rfl ?_;refine QG (site:=8) (g:=gn) (n:=out.length) (xs:=out.map R.av) (ys:=[r.av]) (by rfl) (by exact mR) rfl (by rw[QYn]) rfl (Jc [r]) (by simp only[QXH,QYo,maxLen];omega) (by simp only[QXH,QYo];omega) ?_;simp only[Zv,Zg,QX,QY0,hs1,hs2,hs3,QXq,or_true,and_self,QXH,QYo,h9,Qa,seval];exact⟨l.length,by simp,_,_,gn+1,out++[r],l,rfl,rfl,⟨(by exact h1),(by exact h3),by rw[QX4];exact(by rfl),(by rfl),(by exact h20),(by exact h21),(by exact h22),(by exact m3),by rw[QY9];exact(by rfl)⟩,(by exact h11),(by exact m11),by rw[←hi];simp⟩
  ·have d2:decide (r.num<s.1)=false:=QZd hr;simp only[QXY,QXH,hml,d1,d2,R.av,QYu,Qb,h9,h11,m11,eE,seval];exact q _ _ gn out (r :: l) ⟨(by exact h1),(by exact h3),(by exact h8),(by exact h9),(by exact h20),(by exact h21),(by exact h22),m3,mR⟩ (by exact h11) m11 (by rw[←hi,U8];intro r' l' e;cases e;exact hr)

def BoI (P:PL)(bd:Int→V→List UInt8)(g:PG)(t:Nat)(S:List (Int×V))(T:List R)(k:Nat)(st:St):Prop :=
 ∃f fr i gn out rest,st=⟨f,[fr],[]⟩∧k=S.length-i∧i≤S.length∧BoF P t S f fr i gn out rest∧out++Xz bd g (S.drop i) rest=T∧∀s∈[11],(fr s).isRow=false

theorem t29 (hP:P.ok M)(hU:Yo P)(hr:KI P)(hcd:CL P)(hG:∀t,Gd (Q1 P t)):∀(n:Nat) (t:Int) (g:PG),P.progs[t.toNat]? = some g→0≤t→∀v:V,v.ok M→v.cnt≤1048576→Xl P n g v=0→Qk Tryz.prog 29 [P.av,.int .i64 t,v.av] (.str (Zb P n t v)):=by
 have e0:P.av=.agg [.list (P.progs.map Qh),.list (P.enums.map Qq)]:=rfl;intro n
 induction n with
 |zero=>
  intro t g _ _ v _ _ h;exact(U4 0 _ _ h).elim
 |succ n ih=>
  intro t g hgt t0 v hv hc h;have hgm:=QXF hgt;have hq:Q1 P t=g:=by unfold Q1;rw[hgt];rfl
  have cn:=v57 hP hU hr hcd (n+1) t g hgt t0 v hv hc (U4 _ _ _ h);have hw:=P1 hU hr hgm h;have hnok:=Nr hG (n+1) t v hv;have hncn:=Yn hr (n+1) g (hr g hgm) v;have hfit:=WH hU hr (n+1) g hgm v h;obtain⟨_,_,_,hraw⟩:=KF.1 hfit;rw[hq]at hnok;rw[Zb,hq];generalize Xi P (n+1) g v=w at cn hw hnok hncn hraw;have hwc:w.cnt≤1048576:=by omega
  have hbl:=fun t v ht hm=>DJ hU hr n t v ht hm
  have hrw:=YZ (m:=Xl P n) (bd:=Zb P n) (g:=g) hbl w.slots w.raws (fun x hx=>by
   obtain⟨o,ho,hx,_⟩:=hw x hx;exact⟨o,ho,hU _ hgm o (Zu ho).1,hx⟩) hraw
  have hcs:w.raws.length+Xh w.slots≤w.cnt:=by rw[Xk w];omega
  have hpn:=Y3 (l:=Xz (Zb P n) g w.slots w.raws) (DK (Zb P n) g w.slots w.raws (fun s hs=>hnok.slots s hs) (fun f hf=>by
   have:=Gj (hnok.raws f hf).bits;show f.bits<_;omega)) (by omega)
  have cput:=c58 _ hpn.1 hpn.2.1 hpn.2.2;have hTl:=U7 (Xz (Zb P n) g w.slots w.raws);have csl:=fun(s:Int×V) (hs:s∈w.slots)=>(hw s hs).elim fun o ho=>t37 hU hP hbl ih t g hgt t0 s (hnok.slots s hs) (QXr (YT hs) hwc) o ho.1 ho.2.1
  have ls:=KS w;generalize hTe:Xz (Zb P n) g w.slots w.raws=T at hrw hpn cput hTl;have hTm:T.length≤3000000000000:=by omega
  clear hpn hraw hrw hw hfit;obtain⟨ti,hti⟩:=QY5 t0;subst hti;rw[e0,Qs v,Qs w]at cn;rw[Qs v];refine k29.fn (by simp) ?_;simp only[e0,eE,seval];refine aC cn ?_;simp only[eE,seval];refine XF rfl rfl ?_;simp only[QYn,eE,seval];refine Qd (BoI P (Zb P n) g ti w.slots T) _ ⟨_,_,0,_,[],w.raws,rfl,rfl,QXA _,⟨(by rfl),(by rfl),(by rfl),(by rfl),(by rfl),(by rfl),(by rfl),(by rfl),(by rfl)⟩,hTe,ZK rfl⟩ ?_;rintro _ st ⟨f0,fr0,i,gn,out,rest,rfl,rfl,hil,⟨h10,h30,h80,h90,h200,h210,h220,m30,mR0⟩,hi0,Z5⟩;refine QJ (a:=_) [11] Z5 ?_;intro f fr hf hm hn11;have h1:f 1=.int .i64 (ti:Nat):=by rw[hf,h10]<;>rfl
  have h3:f 3=.ptr 0 3 0:=by rw[hf,h30]<;>rfl
  have h8:f 8=.vec 0 8 gn 0 out.length false:=by rw[hf,h80]<;>rfl
  have h9:f 9=.list (rest.map R.av):=by rw[hf,h90]<;>rfl
  have h20:f 20=.list (w.slots.map V.sav):=by rw[hf,h200]<;>rfl
  have h21:f 21=.int .i64 (w.slots.length:Nat):=by rw[hf,h210]<;>rfl
  have h22:f 22=.int .i64 (i:Nat):=by rw[hf,h220]<;>rfl
  have m3:fr 3=.cells [.list (P.progs.map Qh),.list (P.enums.map Qq)]:=by rw[hm 3 (by decide),m30]<;>rfl
  have mR:fr 8=.vec gn 4 (out.map R.av):=by rw[hm 8 (by decide),mR0]<;>rfl
  have n11:=hn11 11 (by decide);clear hf hm hn11 h10 h30 h80 h90 h200 h210 h220 m30 mR0 Z5;simp only[h21,h22,Qa,seval];by_cases hlt:i<w.slots.length
  ·obtain⟨x,hi⟩:∃x,w.slots[i]? = some x:=⟨w.slots[i],QXt hlt⟩;have hx:=QXF hi;have hgs:=Jv hi;have e1:=Ql i _ hlt (by simp only[maxLen];omega);have hdr:w.slots.drop i=x :: w.slots.drop (i+1):=by rw[QYa hlt,(QXs.1 hi).2]
   have c1:=csl x hx;rw[hdr]at hi0;simp only[Qm hlt,Qi,QYT,Qb,hgs,n11,h20,h22,eE,seval];refine QJe (Zb P n) g ti w.slots i x (w.slots.drop (i+1)) T hTm _ _ gn out rest ⟨(by exact h1),(by exact h3),(by exact h8),(by exact h9),(by exact h20),(by exact h21),(by exact h22),(by exact m3),(by exact mR)⟩ (by rfl) (by rfl) hi0 _ ?_;clear h1 h3 h8 h9 h20 h21 h22 m3 mR n11 hi0 out rest gn f fr;rintro f fr gn out rest ⟨h1,h3,h8,h9,h20,h21,h22,m3,mR⟩ h11 m11 hi0;rw[e0,Zs x]at c1;generalize WM (Zb P n) g x=z at c1 hi0;have hol:out.length+z.length≤T.length:=by rw[←hi0];simp
   simp only[h1,h3,h8,h11,m3,m11,eE,seval];refine aC c1 ?_;refine QG (site:=8) (g:=gn) (n:=out.length) (xs:=out.map R.av) (ys:=z.map R.av) (by rfl) (by exact mR) rfl (by rw[QYn]) rfl (Jc z) (by simp only[QYn,maxLen];omega) (by simp only[QYn];omega) ?_;simp only[QYn,h22,e1,Qa,seval];exact⟨w.slots.length-(i+1),by omega,_,_,i+1,gn+1,out++z,rest,rfl,rfl,by omega,⟨(by exact h1),(by exact h3),by rw[QX4];exact(by rfl),(by exact h9),(by exact h20),(by exact h21),(by rfl),(by exact m3),by rw[QY9];exact(by rfl)⟩,by rw[←hi0,QXN],ZK (by simp only[m11,Qa,seval]<;>rfl)⟩
  ·have e:i=w.slots.length:=by omega
   subst e;have hi1:out++rest=T:=by rw[←hi0,List.drop_length];rfl
   have hol:out.length+rest.length=T.length:=by rw[←hi1];simp
   simp only[Qw hlt,h8,h9,Qa,seval];refine QG (site:=8) (g:=gn) (n:=out.length) (xs:=out.map R.av) (ys:=rest.map R.av) (by rfl) (by exact mR) rfl (by rw[QYn]) (by rfl) (Jc rest) (by simp only[QYn,maxLen];omega) (by simp only[QYn];omega) ?_;rw[←hi1]at cput;refine Xv cput ?_ rfl rfl (.inr rfl) ?_
   ·simp only[QXY,QYt,AV.stillL,AV.still,QYn,eE,seval];simp[K7,QX0]
   rw[←hi1];simp only[Qa,seval]

end

structure FiF (P:PL)(t:Nat)(w:V)(f:Fr)(fr:Nat→Ob)(k g:Nat)(out:List R):Prop where
 f1:f 1=.int .i64 (t:Nat)
 f3:f 3=.ptr 0 3 0
 f5:f 5=.ptr 0 5 0
 f7:f 7=.vec 0 7 g 0 out.length false
 f8:f 8=.int .i64 (k:Nat)
 m3:fr 3=.cells [.list (P.progs.map Qh),.list (P.enums.map Qq)]
 m5:fr 5=.cells (Kk w)
 mR:fr 7=.vec g 4 (out.map R.av)

theorem U9 {α:Type}{l:List α}{i:Nat}{x:α}(h:l[i]? = some x):l.drop i=x :: l.drop (i+1):=by
 have hlt:=(QXs.1 h).1;rw[QYa hlt,(QXs.1 h).2]

section
variable {M:Nat}{P:PL}

theorem QJf (bd:Int→V→List UInt8)(g:PG)(t:Nat)(w:V)(hR:w.raws.length≤1048576)(i:Nat)(s:Int×V)(hs:w.slots[i]? = some s)(sl:List (Int×V))(T:List R)(hT:T.length≤3000000000000)(f:Fr)(fr:Nat→Ob)(k gn:Nat)(out:List R)(h:FiF P t w f fr k gn out)(h9:f 9=.int .i64 (i:Nat))(hi:out++Xz bd g (s :: sl) (w.raws.drop k)=T)(Q:Exit→St→Prop)
  (q:∀f fr k gn out,FiF P t w f fr k gn out→f 9=.int .i64 (i:Nat)→out++(WM bd g s++Xz bd g sl (w.raws.drop k))=T→Q (.exit 2) (⟨f,[fr],[]⟩:St)) :
  QH Tryz.prog (.loop AC) ⟨f,[fr],[]⟩ Q:=by
 let I:Nat→St→Prop:=fun d st=>∃f fr k gn out,st=⟨f,[fr],[]⟩∧d=w.raws.length-k∧FiF P t w f fr k gn out∧f 9=.int .i64 (i:Nat)∧out++Xz bd g (s :: sl) (w.raws.drop k)=T
 refine Qd I _ ⟨f,fr,k,gn,out,rfl,rfl,h,h9,hi⟩ ?_;clear h h9 hi;rintro _ st ⟨f,fr,k,gn,out,rfl,rfl,⟨h1,h3,h5,h7,h8,m3,m5',mR⟩,h9,hi⟩;have m5:=m5';simp only[Kk]at m5;have hgs:=Jv hs;simp only[QYn,h5,h8,m5,eE,seval];by_cases hlt:k<w.raws.length
 case neg=>
  rw[QX3 (by omega)]at hi;simp only[Qw hlt,Qa,seval];exact q _ _ k gn out ⟨(by exact h1),(by exact h3),(by exact h5),(by exact h7),(by exact h8),m3,m5',mR⟩ (by exact h9) (by rw[←hi,QX3 (by omega),U8];intro r l e;cases e)
 obtain⟨r,hr⟩:∃r,w.raws[k]? = some r:=⟨w.raws[k],QXt hlt⟩;have hra:=HK hr;rw[U9 hr]at hi;by_cases hn:r.num<s.1
 ·have d2:decide (r.num<s.1)=true:=QZi hn;rw[VA bd g hn]at hi;have hol:out.length+1≤T.length:=by rw[←hi];simp
  have e1:=Ql k _ hlt (by simp only[maxLen];omega);simp only[Qm hlt,d2,hra,hgs,Qi,QYT,Qb,h5,h7,h8,h9,m5,eE,seval];refine QP (l:=[r.av]) rfl rfl rfl rfl ?_;refine QG (site:=7) (g:=gn) (n:=out.length) (xs:=out.map R.av) (ys:=[r.av]) (by rfl) (by exact mR) rfl (by rw[QYn]) rfl (Jc [r]) (by simp only[QXH,QYo,maxLen];omega) (by simp only[QXH,QYo];omega) ?_;simp only[h8,e1,Qa,seval];exact⟨w.raws.length-(k+1),by omega,_,_,k+1,gn+1,out++[r],rfl,rfl,⟨(by exact h1),(by exact h3),(by exact h5),by rw[QX4];exact(by rfl),(by rfl),(by exact m3),(by exact m5'),by rw[QY9];exact(by rfl)⟩,(by exact h9),by rw[←hi];simp⟩
 ·have d2:decide (r.num<s.1)=false:=QZd hn;simp only[Qm hlt,d2,hra,hgs,Qi,QYT,Qb,h5,h8,h9,m5,eE,seval];exact q _ _ k gn out ⟨(by exact h1),(by exact h3),(by exact h5),(by exact h7),(by exact h8),m3,m5',mR⟩ (by exact h9) (by rw[←hi,U9 hr,U8];intro r' l' e;cases e;exact hn)

theorem QyE (t:Nat)(w:V)(hR:w.raws.length≤1048576)(T:List R)(hT:T.length≤3000000000000)(f:Fr)(fr:Nat→Ob)(k gn:Nat)(out:List R)(h:FiF P t w f fr k gn out)(hi:out++w.raws.drop k=T)(Q:Exit→St→Prop)
  (q:∀f fr gn,f 7=.vec 0 7 gn 0 T.length false→fr 7=.vec gn 4 (T.map R.av)→Q (.exit 4) (⟨f,[fr],[]⟩:St)) :
  QH Tryz.prog (.loop AD) ⟨f,[fr],[]⟩ Q:=by
 let I:Nat→St→Prop:=fun d st=>∃f fr k gn out,st=⟨f,[fr],[]⟩∧d=w.raws.length-k∧FiF P t w f fr k gn out∧out++w.raws.drop k=T
 refine Qd I _ ⟨f,fr,k,gn,out,rfl,rfl,h,hi⟩ ?_;clear h hi;rintro _ st ⟨f,fr,k,gn,out,rfl,rfl,⟨h1,h3,h5,h7,h8,m3,m5',mR⟩,hi⟩;have m5:=m5';simp only[Kk]at m5;simp only[QYn,h5,h8,m5,eE,seval];by_cases hlt:k<w.raws.length
 case neg=>
  rw[QX3 (by omega),QYv]at hi;subst hi;simp only[Qw hlt,Qa,seval];exact q _ _ gn (by exact h7) (by exact mR)
 obtain⟨r,hr⟩:∃r,w.raws[k]? = some r:=⟨w.raws[k],QXt hlt⟩;have hra:=HK hr;rw[U9 hr]at hi;have hol:out.length+1≤T.length:=by rw[←hi];simp
 have e1:=Ql k _ hlt (by simp only[maxLen];omega);simp only[Qm hlt,hra,Qi,QYT,Qb,h5,h7,h8,m5,eE,seval];refine QP (l:=[r.av]) rfl rfl rfl rfl ?_;refine QG (site:=7) (g:=gn) (n:=out.length) (xs:=out.map R.av) (ys:=[r.av]) (by rfl) (by exact mR) rfl (by rw[QYn]) rfl (Jc [r]) (by simp only[QXH,QYo,maxLen];omega) (by simp only[QXH,QYo];omega) ?_;simp only[h8,e1,Qa,seval];exact⟨w.raws.length-(k+1),by omega,_,_,k+1,gn+1,out++[r],rfl,rfl,⟨(by exact h1),(by exact h3),(by exact h5),by rw[QX4];exact(by rfl),(by rfl),(by exact m3),(by exact m5'),by rw[QY9];exact(by rfl)⟩,by rw[←hi];simp⟩

theorem u34 (bd:Int→V→List UInt8)(g:PG)(t:Int)(t0:0≤t)(w:V)(hwc:w.cnt≤1048576)(csl:∀s∈w.slots,Qk Tryz.prog 20 [P.av,.int .i64 t,V.sav s] (.list ((WM bd g s).map R.av)))(hT:(Xz bd g w.slots w.raws).length≤3000000000000) :
  Qk Tryz.prog 34 [P.av,.int .i64 t,w.av] (.list ((Xz bd g w.slots w.raws).map R.av)):=by
 have e0:P.av=.agg [.list (P.progs.map Qh),.list (P.enums.map Qq)]:=rfl;have ls:=KS w;have lr:=YU w;obtain⟨ti,hti⟩:=QY5 t0;subst hti;generalize hTe:Xz bd g w.slots w.raws=T at hT ⊢
 let I:Nat→St→Prop:=fun d st=>∃f fr i k gn out,st=⟨f,[fr],[]⟩∧d=w.slots.length-i∧i≤w.slots.length∧FiF P ti w f fr k gn out∧f 9=.int .i64 (i:Nat)∧out++Xz bd g (w.slots.drop i) (w.raws.drop k)=T
 rw[show w.av=.agg (Kk w)from Qs w];refine k34.fn (by simp) ?_;simp only[e0,Kk,eE,seval];refine XF rfl rfl ?_;simp only[Qa,seval];refine Qd I _ ⟨_,_,0,0,1,[],rfl,rfl,QXA _,⟨(by rfl),(by rfl),(by rfl),(by rfl),(by rfl),(by rfl),(by rfl),(by rfl)⟩,(by rfl),hTe⟩ ?_;rintro _ st ⟨f,fr,i,k,gn,out,rfl,rfl,hil,⟨h1,h3,h5,h7,h8,m3,m5',mR⟩,h9,hi0⟩;have m5:=m5';simp only[Kk]at m5;simp only[QYn,h5,h9,m5,eE,seval];by_cases hlt:i<w.slots.length
 ·obtain⟨x,hi⟩:∃x,w.slots[i]? = some x:=⟨w.slots[i],QXt hlt⟩;have hx:=QXF hi;have hgs:=Jv hi;have e1:=Ql i _ hlt (by simp only[maxLen];omega);have c1:=csl x hx;rw[U9 hi]at hi0;simp only[Qm hlt,Qa,seval];refine QJf bd g ti w (by omega) i x hi (w.slots.drop (i+1)) T hT _ _ k gn out ⟨(by exact h1),(by exact h3),(by exact h5),(by exact h7),(by exact h8),(by exact m3),(by exact m5'),(by exact mR)⟩ (by exact h9) hi0 _ ?_;clear h1 h3 h5 h7 h8 h9 m3 m5 m5' mR hi0 out gn f fr k;rintro f fr k gn out ⟨h1,h3,h5,h7,h8,m3,m5',mR⟩ h9 hi0;have m5:=m5';simp only[Kk]at m5;rw[e0,Zs x]at c1;generalize WM bd g x=z at c1 hi0;have hol:out.length+z.length≤T.length:=by rw[←hi0];simp
  simp only[Qi,QYT,Qb,hgs,h1,h3,h5,h7,h9,m3,m5,eE,seval];refine aC c1 ?_;refine QG (site:=7) (g:=gn) (n:=out.length) (xs:=out.map R.av) (ys:=z.map R.av) (by rfl) (by exact mR) rfl (by rw[QYn]) rfl (Jc z) (by simp only[QYn,maxLen];omega) (by simp only[QYn];omega) ?_;simp only[QYn,h9,e1,Qa,seval];exact⟨w.slots.length-(i+1),by omega,_,_,i+1,k,gn+1,out++z,rfl,rfl,by omega,⟨(by exact h1),(by exact h3),(by exact h5),by rw[QX4];exact(by rfl),(by exact h8),(by exact m3),(by exact m5'),by rw[QY9];exact(by rfl)⟩,(by rfl),by rw[←hi0,QXN]⟩
 ·have e:i=w.slots.length:=by omega
  subst e;have hi1:out++w.raws.drop k=T:=by rw[←hi0,List.drop_length];rfl
  simp only[Qw hlt,Qa,seval];refine QyE ti w (by omega) T hT _ _ k gn out ⟨(by exact h1),(by exact h3),(by exact h5),(by exact h7),(by exact h8),(by exact m3),(by exact m5'),(by exact mR)⟩ hi1 _ ?_;rintro f fr gn h7 mR;simp only[h7,mR,eE,seval];simp[AV.un,XZ,Xm,QX0]

theorem u16 (hP:P.ok M)(hU:Yo P)(hr:KI P)(hG:∀t,Gd (Q1 P t))(hl64:∀g∈P.progs,g.ops.length≤64):∀(n:Nat) (t:Int) (g:PG),P.progs[t.toNat]? = some g→0≤t→∀v:V,v.ok M→v.cnt≤1048576→Xl P n g v=0→Qk Tryz.prog 16 [P.av,.int .i64 t,v.av] (.str (Zb P n t v)):=by
 have e0:P.av=.agg [.list (P.progs.map Qh),.list (P.enums.map Qq)]:=rfl;intro n
 induction n with
 |zero=>
  intro t g _ _ v _ _ h;exact(U4 0 _ _ h).elim
 |succ n ih=>
  intro t g hgt t0 v hv hc h;have hgm:=QXF hgt;have hq:Q1 P t=g:=by unfold Q1;rw[hgt];rfl
  have cn:=v35 (M:=M) hU hr hl64 (n+1) t g hgt t0 v hv hc (U4 _ _ _ h);have hw:=P1 hU hr hgm h;have hnok:=Nr hG (n+1) t v hv;have hncn:=Yn hr (n+1) g (hr g hgm) v;have hfit:=WH hU hr (n+1) g hgm v h;obtain⟨_,_,_,hraw⟩:=KF.1 hfit;rw[hq]at hnok;rw[Zb,hq];generalize Xi P (n+1) g v=w at cn hw hnok hncn hraw;have hwc:w.cnt≤1048576:=by omega
  have hbl:=fun t v ht hm=>DJ hU hr n t v ht hm
  have hrw:=YZ (m:=Xl P n) (bd:=Zb P n) (g:=g) hbl w.slots w.raws (fun x hx=>by
   obtain⟨o,ho,hx,_⟩:=hw x hx;exact⟨o,ho,hU _ hgm o (Zu ho).1,hx⟩) hraw
  have hcs:w.raws.length+Xh w.slots≤w.cnt:=by rw[Xk w];omega
  have hpn:=Y3 (l:=Xz (Zb P n) g w.slots w.raws) (DK (Zb P n) g w.slots w.raws (fun s hs=>hnok.slots s hs) (fun f hf=>by
   have:=Gj (hnok.raws f hf).bits;show f.bits<_;omega)) (by omega)
  have cput:=c33 _ hpn.1 hpn.2.1 hpn.2.2;have hTl:=U7 (Xz (Zb P n) g w.slots w.raws);have csl:=fun(s:Int×V) (hs:s∈w.slots)=>u20 hU hP hbl ih t g hgt t0 s (hnok.slots s hs) (QXr (YT hs) hwc) (hw s hs)
  have cfi:=u34 (Zb P n) g t t0 w hwc csl (by omega);generalize Xz (Zb P n) g w.slots w.raws=T at cfi cput;have htl:t<(P.progs.length:Int):=by
   have:=(QXs.1 hgt).1;omega
  have d0:decide (t<0)=false:=QZd (by omega);have d1:decide (t≥(P.progs.length:Int))=false:=QZd (by omega);rw[e0,Qs v,Qs w]at cn;rw[e0,Qs w]at cfi;simp only[K7]at cput;rw[Qs v];refine k16.fn (by simp) ?_;simp only[e0,d0,d1,QYn,eE,seval];refine aC cn ?_;refine aC cfi ?_;refine aC cput ?_;simp only[Qa,seval]

end
end Go.Proofs.YtipjfckmopekaaaGreatDoor.Va

namespace Go.Proofs.YtipjfckmopekaaaGreatDoor.Va
open Go Am Rc Bt Br Up

def Ht (p:Prop)(v:AV):Prop:=∃b,v=.bool b∧(b=true→p)
theorem Ht.rf {p:Prop}{v:AV}{l:List AV}(h:Ht p v):v.rf=true∧(AV.rfL l=true∨v.nl=true):=by
 obtain⟨b,rfl,_⟩:=h;exact⟨rfl,.inr rfl⟩

def RN (n:Nat)(lf:Int)(a:AV):Prop:=∃r:Int,a=.int .i64 r∧-1≤r∧(0≤r→(n:Int)+r≤lf)
theorem RN.rf {n:Nat}{lf:Int}{v:AV}{l:List AV}(h:RN n lf v):v.rf=true∧(AV.rfL l=true∨v.nl=true):=by
 obtain⟨b,rfl,_⟩:=h;exact⟨rfl,.inr rfl⟩
theorem Db (n:Nat)(lf:Int):RN n lf (.int .i64 (-1)):=⟨-1,rfl,by omega,by omega⟩
theorem QJg {n:Nat}{lf r:Int}(h : -1≤r)(h1:0≤r→(n:Int)+r≤lf):RN n lf (.int .i64 r):=⟨r,rfl,h,h1⟩

def CnI (v:V)(lv lf:Int)(a:Nat)(S:Nat→Nat)(len:Nat)(k:Nat)(st:St):Prop :=
 ∃f fr i,∃r:Int,st=⟨f,[fr],[]⟩∧k=len-i∧i≤len∧f 3=.ptr 0 3 0∧fr 3=.cells (vc v)∧f 1=.int .i64 lv∧f 2=.int .i64 r∧f a=.int .i64 (i:Nat)∧-1≤r∧(0≤r→(S i:Int)+r≤lf)

def CrI (v:V)(lv lf:Int)(k:Nat)(st:St):Prop :=
 ∃f fr i,st=⟨f,[fr],[]⟩∧k=v.raws.length-i∧i≤v.raws.length∧f 3=.ptr 0 3 0∧fr 3=.cells (vc v)∧f 1=.int .i64 lv∧f 2=.int .i64 lf∧f 7=.int .i64 (i:Nat)

section
variable {M:Nat}

theorem QaX {v:V}(hv:v.ok M){lv lf:Int}(l0:0≤lv)(l1:lv≤40){b:Nat}(hlf:lf≤1000000)
  (hx:∀x∈v.list,∀lf:Int,0≤lf→lf≤1000000→WQ Tryz.prog 23 [(x).av,.int .i64 (lv+1),.int .i64 lf] (RN (x).cnt lf))
  (f:Fr) (fr:Nat→Ob) (r:Int) (h3:f 3=.ptr 0 3 0) (m3:fr 3=.cells (vc v)) (h1:f 1=.int .i64 lv) (h2:f 2=.int .i64 r) (ha:f 8=.int .i64 0) (r0 : -1≤r) (r1:0≤r→(b:Int)+r≤lf) (Q:Exit→St→Prop)
  (q:∀(f:Fr) (fr:Nat→Ob) (r:Int),f 3=.ptr 0 3 0→fr 3=.cells (vc v)→f 1=.int .i64 lv→f 2=.int .i64 r→-1≤r→(0≤r→((b+Xd v.list:Nat):Int)+r≤lf)→Q (.exit 2) (⟨f,[fr],[]⟩:St)) :
  QH Tryz.prog (.loop Az) ⟨f,[fr],[]⟩ Q:=by
 have n1:=hv.nl;have n2:=hv.np;have n3:=hv.ns;refine Qd (CnI v lv lf 8 (fun i=>b+Xd (v.list.take i)) v.list.length) _ ⟨f,fr,0,r,rfl,rfl,QXA _,h3,m3,h1,h2,ha,r0,fun h=>by have:=r1 h;simp only[QYA,Xd,QXX];omega⟩ ?_;clear h3 m3 h1 h2 ha r0 r1;rintro _ st ⟨f,fr,i,r,rfl,rfl,hil,h3,m3',h1,h2,ha,r0,r1⟩;dsimp only at r1;have m3:=m3';simp only[vc]at m3;simp only[QYn,h3,m3,ha,eE,seval];by_cases hlt:i<v.list.length
 ·have d:∀r:Int,0≤r→decide (r≥0)=true:=fun r h=>QZi h
  have d':∀r:Int,¬0≤r→decide (r≥0)=false:=fun r h=>QZd h
  by_cases hr:0≤r
  ·obtain⟨x,hi⟩:∃x,v.list[i]? = some x:=⟨v.list[i],QXt hlt⟩;have hm:=QXF hi;have hg:=WF hi;have e1:=Ql i _ hlt (by simp only[maxLen];omega);have e2:IntKind.i64.wrap (lv+1)=lv+1:=by rw[QE];omega
   have rr:=r1 hr;have c1:=hx x hm r hr (by omega);rw[Qs]at c1;simp only[Qm hlt,d r hr,Qi,QYT,Qb,hg,QXZ,QX9,h3,m3,h1,h2,ha,e2,eE,seval];refine Zx (R:=RN (x).cnt r) c1 rfl rfl (fun _ h=>h.rf) ?_;rintro _ ⟨s,rfl,s0,s1⟩;simp only[ha,e1,Qa,seval];exact⟨v.list.length-(i+1),by omega,_,_,i+1,s,rfl,rfl,by omega,(by exact h3),(by exact m3'),(by exact h1),(by rfl),(by rfl),s0,fun h=>by show((b+Xd (v.list.take (i+1)):Nat):Int)+s≤lf;rw[Uz hi];have:=s1 h;omega⟩
  ·simp only[Qm hlt,d' r hr,h2,Qa,seval];exact q _ _ r (by exact h3) (by exact m3') (by exact h1) (by exact h2) r0 (fun h=>absurd h hr)
 ·have e:i=v.list.length:=by omega
  subst e;simp only[QY1]at r1;simp only[Qw hlt,Qa,seval];exact q _ _ r (by exact h3) (by exact m3') (by exact h1) (by exact h2) r0 r1

theorem QaY {v:V}(hv:v.ok M){lv lf:Int}(l0:0≤lv)(l1:lv≤40){b:Nat}(hlf:lf≤1000000)
  (hx:∀x∈v.slots,∀lf:Int,0≤lf→lf≤1000000→WQ Tryz.prog 23 [(x.2).av,.int .i64 (lv+1),.int .i64 lf] (RN (x.2).cnt lf))
  (f:Fr) (fr:Nat→Ob) (r:Int) (h3:f 3=.ptr 0 3 0) (m3:fr 3=.cells (vc v)) (h1:f 1=.int .i64 lv) (h2:f 2=.int .i64 r) (ha:f 10=.int .i64 0) (r0 : -1≤r) (r1:0≤r→(b:Int)+r≤lf) (Q:Exit→St→Prop)
  (q:∀(f:Fr) (fr:Nat→Ob) (r:Int),f 3=.ptr 0 3 0→fr 3=.cells (vc v)→f 1=.int .i64 lv→f 2=.int .i64 r→-1≤r→(0≤r→((b+Xh v.slots:Nat):Int)+r≤lf)→Q (.exit 6) (⟨f,[fr],[]⟩:St)) :
  QH Tryz.prog (.loop AB) ⟨f,[fr],[]⟩ Q:=by
 have n1:=hv.nl;have n2:=hv.np;have n3:=hv.ns;refine Qd (CnI v lv lf 10 (fun i=>b+Xh (v.slots.take i)) v.slots.length) _ ⟨f,fr,0,r,rfl,rfl,QXA _,h3,m3,h1,h2,ha,r0,fun h=>by have:=r1 h;simp only[QYA,Xh,QXX];omega⟩ ?_;clear h3 m3 h1 h2 ha r0 r1;rintro _ st ⟨f,fr,i,r,rfl,rfl,hil,h3,m3',h1,h2,ha,r0,r1⟩;dsimp only at r1;have m3:=m3';simp only[vc]at m3;simp only[QYn,h3,m3,ha,eE,seval];by_cases hlt:i<v.slots.length
 ·have d:∀r:Int,0≤r→decide (r≥0)=true:=fun r h=>QZi h
  have d':∀r:Int,¬0≤r→decide (r≥0)=false:=fun r h=>QZd h
  by_cases hr:0≤r
  ·obtain⟨x,hi⟩:∃x,v.slots[i]? = some x:=⟨v.slots[i],QXt hlt⟩;have hm:=QXF hi;have hg:=Jv hi;have e1:=Ql i _ hlt (by simp only[maxLen];omega);have e2:IntKind.i64.wrap (lv+1)=lv+1:=by rw[QE];omega
   have rr:=r1 hr;have c1:=hx x hm r hr (by omega);rw[Qs]at c1;simp only[Qm hlt,d r hr,Qi,QYT,Qb,hg,QXZ,QX2,QX9,h3,m3,h1,h2,ha,e2,eE,seval];refine Zx (R:=RN (x.2).cnt r) c1 rfl rfl (fun _ h=>h.rf) ?_;rintro _ ⟨s,rfl,s0,s1⟩;simp only[ha,e1,Qa,seval];exact⟨v.slots.length-(i+1),by omega,_,_,i+1,s,rfl,rfl,by omega,(by exact h3),(by exact m3'),(by exact h1),(by rfl),(by rfl),s0,fun h=>by show((b+Xh (v.slots.take (i+1)):Nat):Int)+s≤lf;rw[Fb hi];have:=s1 h;omega⟩
  ·simp only[Qm hlt,d' r hr,h2,Qa,seval];exact q _ _ r (by exact h3) (by exact m3') (by exact h1) (by exact h2) r0 (fun h=>absurd h hr)
 ·have e:i=v.slots.length:=by omega
  subst e;simp only[QY1]at r1;simp only[Qw hlt,Qa,seval];exact q _ _ r (by exact h3) (by exact m3') (by exact h1) (by exact h2) r0 r1

theorem QaZ {v:V}(hv:v.ok M){lv lf:Int}(l0:0≤lv)(l1:lv≤40){b:Nat}(hlf:lf≤1000000)
  (hx:∀x∈v.pairs,∀lf:Int,0≤lf→lf≤1000000→WQ Tryz.prog 23 [x.1.av,.int .i64 (lv+1),.int .i64 lf] (RN x.1.cnt lf)∧WQ Tryz.prog 23 [x.2.av,.int .i64 (lv+1),.int .i64 lf] (RN x.2.cnt lf))
  (f:Fr) (fr:Nat→Ob) (r:Int) (h3:f 3=.ptr 0 3 0) (m3:fr 3=.cells (vc v)) (h1:f 1=.int .i64 lv) (h2:f 2=.int .i64 r) (ha:f 9=.int .i64 0) (r0 : -1≤r) (r1:0≤r→(b:Int)+r≤lf) (Q:Exit→St→Prop)
  (q:∀(f:Fr) (fr:Nat→Ob) (r:Int),f 3=.ptr 0 3 0→fr 3=.cells (vc v)→f 1=.int .i64 lv→f 2=.int .i64 r→-1≤r→(0≤r→((b+Xs v.pairs:Nat):Int)+r≤lf)→Q (.exit 4) (⟨f,[fr],[]⟩:St)) :
  QH Tryz.prog (.loop AA) ⟨f,[fr],[]⟩ Q:=by
 have n2:=hv.np;refine Qd (CnI v lv lf 9 (fun i=>b+Xs (v.pairs.take i)) v.pairs.length) _ ⟨f,fr,0,r,rfl,rfl,QXA _,h3,m3,h1,h2,ha,r0,fun h=>by have:=r1 h;simp only[QYA,Xs,QXX];omega⟩ ?_;clear h3 m3 h1 h2 ha r0 r1;rintro _ st ⟨f,fr,i,r,rfl,rfl,hil,h3,m3',h1,h2,ha,r0,r1⟩;dsimp only at r1;have m3:=m3';simp only[vc]at m3;simp only[QYn,h3,m3,ha,eE,seval];by_cases hlt:i<v.pairs.length
 ·have d:∀r:Int,0≤r→decide (r≥0)=true:=fun r h=>QZi h
  have d':∀r:Int,¬0≤r→decide (r≥0)=false:=fun r h=>QZd h
  by_cases hr:0≤r
  ·obtain⟨x,hi⟩:∃x,v.pairs[i]? = some x:=⟨v.pairs[i],QXt hlt⟩;have hm:=QXF hi;have hg:=Z0 hi;have e1:=Ql i _ hlt (by simp only[maxLen];omega);have e2:IntKind.i64.wrap (lv+1)=lv+1:=by rw[QE];omega
   have rr:=r1 hr;have c1:=(hx x hm r hr (by omega)).1;rw[Qs]at c1;simp only[Qm hlt,d r hr,Qi,QYT,Qb,hg,QXZ,QYA,QX9,h3,m3,h1,h2,ha,e2,eE,seval];refine Zx (R:=RN x.1.cnt r) c1 rfl rfl (fun _ h=>h.rf) ?_;rintro _ ⟨s,rfl,s0,s1⟩;by_cases hs:0≤s
   ·have ss:=s1 hs;have c2:=(hx x hm s hs (by omega)).2;rw[Qs]at c2;simp only[d s hs,Qi,QYT,Qb,hg,QXZ,QX2,QX9,h3,m3,h1,h2,ha,e2,eE,seval];refine Zx (R:=RN x.2.cnt s) c2 rfl rfl (fun _ h=>h.rf) ?_;rintro _ ⟨u,rfl,u0,u1⟩;simp only[ha,e1,Qa,seval];exact⟨v.pairs.length-(i+1),by omega,_,_,i+1,u,rfl,rfl,by omega,(by exact h3),(by exact m3'),(by exact h1),(by rfl),(by rfl),u0,fun h=>by show((b+Xs (v.pairs.take (i+1)):Nat):Int)+u≤lf;rw[Fa hi];have:=u1 h;omega⟩
   ·simp only[d' s hs,h2,ha,e1,Qa,seval];exact⟨v.pairs.length-(i+1),by omega,_,_,i+1,s,rfl,rfl,by omega,(by exact h3),(by exact m3'),(by exact h1),(by rfl),(by rfl),s0,fun h=>absurd h hs⟩
  ·simp only[Qm hlt,d' r hr,h2,Qa,seval];exact q _ _ r (by exact h3) (by exact m3') (by exact h1) (by exact h2) r0 (fun h=>absurd h hr)
 ·have e:i=v.pairs.length:=by omega
  subst e;simp only[QY1]at r1;simp only[Qw hlt,Qa,seval];exact q _ _ r (by exact h3) (by exact m3') (by exact h1) (by exact h2) r0 r1

theorem n23 (v:V)(hv:v.ok M):∀lv lf:Int,0≤lv→lv≤41→0≤lf→lf≤1000000→WQ Tryz.prog 23 [v.av,.int .i64 lv,.int .i64 lf] (RN v.cnt lf):=by
 revert hv
 refine V.ind (P:=fun v=>v.ok M→∀lv lf:Int,0≤lv→lv≤41→0≤lf→lf≤1000000→WQ Tryz.prog 23 [v.av,.int .i64 lv,.int .i64 lf] (RN v.cnt lf)) ?_ v;clear v;intro v hl hp hs hv lv lf a0 a1 b0 b1;have n4:=hv.nr;rw[Qs];have e2:IntKind.i64.wrap (lf-1)=lf-1:=by rw[QE];omega
 refine k23.rl (by simp) ?_;simp only[e2,eE,seval];by_cases d1:lv > 40
 ·have d1':decide (lv > 40)=true:=QZi d1;simp only[d1',Db,Qa,seval]
 have d1':decide (lv > 40)=false:=QZd d1;simp only[d1',eE,seval];cases d2:decide ((v.text.length:Int) > 5000)
 case true=>simp only[Db,Qa,seval]
 simp only[QYn,eE,seval];by_cases d3:(v.raws.length:Int) > lf-1
 ·have d3':decide ((v.raws.length:Int) > lf-1)=true:=QZi d3;simp only[d3',Db,Qa,seval]
 have d3':decide ((v.raws.length:Int) > lf-1)=false:=QZd d3;have e3:IntKind.i64.wrap (lf-1-(v.raws.length:Int))=lf-1-(v.raws.length:Int):=by rw[QE];omega
 simp only[d3',e3,QYn,eE,seval];refine Qd (CrI v lv (lf-1-(v.raws.length:Int))) _ ⟨_,_,0,rfl,rfl,QXA _,(by rfl),(by rfl),(by rfl),(by rfl),(by rfl)⟩ ?_;rintro _ st ⟨f,fr,i,rfl,rfl,hil,h3,m3',h1,h2,h7⟩;have m3:=m3';simp only[vc]at m3;simp only[QYn,h3,m3,h7,eE,seval];by_cases hlt:i<v.raws.length
 ·obtain⟨x,hi⟩:∃x,v.raws[i]? = some x:=⟨v.raws[i],QXt hlt⟩;have hg:(v.raws.map R.av)[i]? = some x.av:=by simp[hi]
  have e1:=Ql i _ hlt (by simp only[maxLen];omega);simp only[Qm hlt,R.av,Qi,QYT,Qb,hg,h3,m3,h7,eE,seval];cases d4:decide ((x.data.length:Int) > 5000)
  case true=>simp only[Db,Qa,seval]
  simp only[h7,e1,Qa,seval];exact⟨v.raws.length-(i+1),by omega,_,_,i+1,rfl,rfl,by omega,(by exact h3),(by exact m3'),(by exact h1),(by exact h2),(by rfl)⟩
 simp only[Qw hlt,Qa,seval];clear hlt h7 m3 hil;refine QaX hv a0 (by omega) (b:=1+v.raws.length) (lf:=lf) b1 (fun x hx lf p q=>hl x hx (hv.list x hx) _ _ (by omega) (by omega) p q) _ _ _ (by exact h3) (by exact m3') (by exact h1) (by exact h2) (by rfl) (by omega) (by omega) _ ?_;clear h3 m3' h1 h2;intro f fr r h3 m3 h1 h2 r0 r1;simp only[Qa,seval];refine QaZ hv a0 (by omega) (b:=1+v.raws.length+Xd v.list) (lf:=lf) b1 (fun x hx lf p q=>⟨(hp x hx).1 (hv.keys x hx) _ _ (by omega) (by omega) p q,(hp x hx).2 (hv.vals x hx) _ _ (by omega) (by omega) p q⟩) _ _ _ (by exact h3) (by exact m3) (by exact h1) (by exact h2) (by rfl) r0 r1 _ ?_;clear h3 m3 h1 h2 r0 r1;intro f fr r h3 m3 h1 h2 r0 r1;simp only[Qa,seval];refine QaY hv a0 (by omega) (b:=1+v.raws.length+Xd v.list+Xs v.pairs) (lf:=lf) b1 (fun x hx lf p q=>hs x hx (hv.slots x hx) _ _ (by omega) (by omega) p q) _ _ _ (by exact h3) (by exact m3) (by exact h1) (by exact h2) (by rfl) r0 r1 _ ?_;clear h3 m3 h1 h2 r0 r1;intro f fr r h3 m3 h1 h2 r0 r1;simp only[h2,Qa,seval];exact QJg r0 (by rw[Xk];exact r1)

theorem n8 (v:V)(hv:v.ok M)(lf:Int)(b0:0≤lf)(b1:lf≤1000000):WQ Tryz.prog 8 [v.av,.int .i64 lf] (Ht ((v.cnt:Int)≤lf)):=by
 have hc:=n23 v hv 1 lf (by omega) (by omega) b0 b1;rw[Qs]at hc ⊢;refine k8.rl (by simp) ?_;simp only[eE,seval];refine Zx (R:=RN v.cnt lf) hc rfl rfl (fun _ h=>h.rf) ?_;rintro _ ⟨r,rfl,r0,r1⟩;simp only[Qa,seval];refine⟨_,rfl,fun h=>?_⟩;have h0:0≤r:=by simpa using h
 have:=r1 h0;omega

end

def Y4 (P:PL):Prop:=(∀g∈P.progs,g.name.length≤300)∧∀e∈P.enums,e.name.length≤300
theorem Dc (p:Prop):Ht p (.bool false):=⟨false,rfl,fun h=>by cases h⟩

section
variable {M:Nat}(hM:M≤140737488351232)(P:PL)(hP:P.ok M)

include hP in
theorem QyG (fr:Nat→Ob)(m1':fr 1=.cells (Pc P))(i:Nat)(g:PG)(hg:P.progs[i]? = some g)(lf:Int)(f:Fr)(h1:f 1=.ptr 0 1 0)(h3:f 3=.int .i64 lf)(h4:f 4=.int .i64 (i:Nat))(h5:f 5=.int .i64 0)(Q:Exit→St→Prop)
  (q:∀f:Fr,f 1=.ptr 0 1 0→f 3=.int .i64 lf→f 4=.int .i64 (i:Nat)→Q (.exit 2) (⟨f,[fr],[]⟩:St)) (qr:∀f:Fr,f 2=.bool false→Q .ret (⟨f,[fr],[]⟩:St)) :
  QH Tryz.prog (.loop Av) ⟨f,[fr],[]⟩ Q:=by
 have hgo:=(hP.progs g (QXF hg)).len;have hga:(P.progs.map Qh)[i]? = some (.agg g.cells):=by simp[hg,Qh]
 let I:Nat→St→Prop:=fun d st=>∃f k,st=⟨f,[fr],[]⟩∧d=g.ops.length-k∧f 1=.ptr 0 1 0∧f 3=.int .i64 lf∧f 4=.int .i64 (i:Nat)∧f 5=.int .i64 (k:Nat)
 refine Qd I _ ⟨f,0,rfl,rfl,h1,h3,h4,h5⟩ ?_;clear h1 h3 h4 h5;rintro _ st ⟨f,k,rfl,rfl,h1,h3,h4,h5⟩;have m1:=m1';simp only[Pc]at m1;simp only[PG.cells]at hga;simp only[Qi,QYT,Qb,hga,QYn,h1,h4,h5,m1,eE,seval];by_cases hlt:k<g.ops.length
 ·obtain⟨o,ho⟩:∃o,g.ops[k]? = some o:=⟨g.ops[k],QXt hlt⟩;have hoa:(g.ops.map fun o=>AV.agg o.cells)[k]? = some (.agg o.cells):=by simp[ho]
  have e1:=Ql k _ hlt hgo;simp only[PO.cells]at hoa;cases d1:decide ((o.name.length:Int) > 300)
  case true=>
   simp only[Qm hlt,Qi,QYT,Qb,hga,hoa,PO.cells,d1,h1,h4,h5,m1,eE,seval];exact qr _ (by rfl)
  cases d2:decide ((o.alias.length:Int) > 300)
  case true=>
   simp only[Qm hlt,Qi,QYT,Qb,hga,hoa,PO.cells,d1,d2,h1,h4,h5,m1,eE,seval];exact qr _ (by rfl)
  simp only[Qm hlt,Qi,QYT,Qb,hga,hoa,PO.cells,d1,d2,h1,h4,h5,m1,e1,eE,seval];exact⟨g.ops.length-(k+1),by omega,_,k+1,rfl,rfl,(by exact h1),(by exact h3),(by exact h4),(by rfl)⟩
 ·simp only[Qw hlt,Qa,seval];exact q _ (by exact h1) (by exact h3) (by exact h4)

include hM in
theorem Sr (fr:Nat→Ob)(e:PE)(he:e.ok M)(m7':fr 7=.cells e.cells)(i:Nat)(lf:Int)(f:Fr)(h1:f 1=.ptr 0 1 0)(h3:f 3=.int .i64 lf)(h6:f 6=.int .i64 (i:Nat))(h7:f 7=.ptr 0 7 0)(h8:f 8=.int .i64 0)(Q:Exit→St→Prop)
  (q:∀f:Fr,f 1=.ptr 0 1 0→f 3=.int .i64 lf→f 6=.int .i64 (i:Nat)→Q (.exit 6) (⟨f,[fr],[]⟩:St)) (qr:∀f:Fr,f 2=.bool false→Q .ret (⟨f,[fr],[]⟩:St)) :
  QH Tryz.prog (.loop Ax) ⟨f,[fr],[]⟩ Q:=by
 let I:Nat→St→Prop:=fun d st=>∃f k,st=⟨f,[fr],[]⟩∧d=e.items.length-k∧f 1=.ptr 0 1 0∧f 3=.int .i64 lf∧f 6=.int .i64 (i:Nat)∧f 7=.ptr 0 7 0∧f 8=.int .i64 (k:Nat)
 refine Qd I _ ⟨f,0,rfl,rfl,h1,h3,h6,h7,h8⟩ ?_;clear h1 h3 h6 h7 h8;rintro _ st ⟨f,k,rfl,rfl,h1,h3,h6,h7,h8⟩;have m7:=m7';simp only[PE.cells]at m7;simp only[QYn,h7,h8,m7,eE,seval];by_cases hlt:k<e.items.length
 ·obtain⟨o,ho⟩:∃o,e.items[k]? = some o:=⟨e.items[k],QXt hlt⟩;have hoa:(e.items.map fun n=>AV.agg n.cells)[k]? = some (.agg o.cells):=by simp[ho]
  have hok:=he.items o (QXF ho);have e1:=Ql k _ hlt he.len1;simp only[PI.cells]at hoa;cases d1:decide ((o.name.length:Int) > 300)
  case true=>
   simp only[Qm hlt,Qi,QYT,Qb,hoa,PI.cells,d1,h7,h8,m7,eE,seval];exact qr _ (by rfl)
  rcases hn:o.notes with _|⟨n,_|⟨n2,ns⟩⟩
  ·have c0:decide (((0:Nat):Int) > 1)=false:=rfl;have c1:(((0:Nat):Int)==1)=false:=rfl;rw[hn]at hoa;simp only[Qm hlt,Qi,QYT,Qb,hoa,PI.cells,QYt,QYo,d1,h7,h8,m7,e1,eE,seval];exact⟨e.items.length-(k+1),by omega,_,k+1,rfl,rfl,(by exact h1),(by exact h3),(by exact h6),(by exact h7),(by rfl)⟩
  ·obtain⟨kd,b',t,l,p,s,r,hv,htl,h3',h4',h5',h6'⟩:=Ci (hok.notes n (by rw[hn];simp)) hM;have c0:decide (((1:Nat):Int) > 1)=false:=rfl;have z0:(0≤(0:Int))=True:=eq_true (Int.le_refl 0);have c1:(((1:Nat):Int)==1)=true:=rfl;have en:Xw n.cells=.agg [.str n.name,.int .i64 kd,.int .u64 ((b':Nat):Int),.str t,.list l,.list p,.list s,.list r]:=by
    rw[PN.cells,hv];rfl
   rw[hn]at hoa;simp only[QXY,QYt,en]at hoa;cases d2:decide ((t.length:Int) > 300)
   case true=>
    simp only[Qm hlt,Qi,QYT,Qb,hoa,PI.cells,QXH,QYo,QX8,z0,QYu,d1,d2,h7,h8,m7,eE,seval];exact qr _ (by rfl)
   simp only[Qm hlt,Qi,QYT,Qb,hoa,PI.cells,QXH,QYo,QX8,z0,QYu,d1,d2,h7,h8,m7,e1,eE,seval];exact⟨e.items.length-(k+1),by omega,_,k+1,rfl,rfl,(by exact h1),(by exact h3),(by exact h6),(by exact h7),(by rfl)⟩
  ·have c0:decide ((((ns.map fun n=>Xw n.cells).length+1+1:Nat):Int) > 1)=true:=QZi (by omega);rw[hn]at hoa;simp only[QXY]at hoa;simp only[Qm hlt,Qi,QYT,Qb,hoa,PI.cells,QXH,c0,d1,h7,h8,m7,eE,seval];exact qr _ (by rfl)
 ·simp only[Qw hlt,Qa,seval];exact q _ (by exact h1) (by exact h3) (by exact h6)

include hP in
theorem Ss (hN:P.progs.length≤60)(fr:Nat→Ob)(m1':fr 1=.cells (Pc P))(f:Fr)(h1:f 1=.ptr 0 1 0)(h3:f 3=.int .i64 400)(h4:f 4=.int .i64 0)(Q:Exit→St→Prop)
  (q:∀(f:Fr) (lf:Int),f 1=.ptr 0 1 0→f 3=.int .i64 lf→0≤lf→lf≤400→(∀g∈P.progs,g.name.length≤300)→Q (.exit 0) (⟨f,[fr],[]⟩:St)) (qr:∀f:Fr,f 2=.bool false→Q .ret (⟨f,[fr],[]⟩:St)) :
  QH Tryz.prog (.loop Aw) ⟨f,[fr],[]⟩ Q:=by
 let I:Nat→St→Prop:=fun d st=>∃f i,∃lf:Int,st=⟨f,[fr],[]⟩∧d=P.progs.length-i∧0≤lf∧lf≤400∧(∀g∈P.progs.take i,g.name.length≤300)∧f 1=.ptr 0 1 0∧f 3=.int .i64 lf∧f 4=.int .i64 (i:Nat)
 refine Qd I _ ⟨f,0,400,rfl,rfl,by omega,by omega,(by intro g hg;cases hg),h1,h3,h4⟩ ?_;clear h1 h3 h4;rintro _ st ⟨f,i,lf,rfl,rfl,l0,l1,hs,h1,h3,h4⟩;have m1:=m1';simp only[Pc]at m1;have dl:decide (lf≥0)=true:=QZi l0;simp only[QYn,h1,h4,m1,eE,seval];by_cases hlt:i<P.progs.length
 ·obtain⟨g,hg⟩:∃g,P.progs[i]? = some g:=⟨P.progs[i],QXt hlt⟩;have hga:(P.progs.map Qh)[i]? = some (.agg g.cells):=by simp[hg,Qh]
  have hgo:=(hP.progs g (QXF hg)).len;have e1:=Ql i _ hlt (by simp only[maxLen];omega);have e2:IntKind.i64.wrap (lf-(g.ops.length:Int))=lf-(g.ops.length:Int):=by
   simp only[maxLen]at hgo;rw[QE];omega
  simp only[PG.cells]at hga;by_cases hn:lf-(g.ops.length:Int)<0
  ·have d1:decide (lf-(g.ops.length:Int)<0)=true:=QZi hn;simp only[Qm hlt,Qi,QYT,Qb,hga,QYn,e2,d1,dl,h1,h3,h4,m1,eE,seval];exact qr _ (by rfl)
  have d1:decide (lf-(g.ops.length:Int)<0)=false:=QZd hn;by_cases hm:g.name.length≤300
  case neg=>
   have d2:decide ((g.name.length:Int) > 300)=true:=QZi (by omega);simp only[Qm hlt,Qi,QYT,Qb,hga,QYn,e2,d1,d2,dl,h1,h3,h4,m1,eE,seval];exact qr _ (by rfl)
  have d2:decide ((g.name.length:Int) > 300)=false:=QZd (by omega);simp only[Qm hlt,Qi,QYT,Qb,hga,QYn,e2,d1,d2,dl,h1,h3,h4,m1,eE,seval];refine QyG P hP fr m1' i g hg (lf-(g.ops.length:Int)) _ (by exact h1) (by rfl) (by exact h4) (by rfl) _ (fun f h1 h3 h4=>?_) (fun f h2=>?_)
  ·simp only[h4,e1,Qa,seval];exact⟨P.progs.length-(i+1),by omega,_,i+1,lf-(g.ops.length:Int),rfl,rfl,by omega,by omega,(by
    rw[QZa,hg];intro x hx;simp only[QZb,QYK,QZs]at hx;rcases hx with hx|rfl
    ·exact hs x hx
    ·exact hm),(by exact h1),(by exact h3),(by rfl)⟩
  ·simp only[Qa,seval];exact qr _ h2
 ·rw[QX0 (by omega)]at hs;simp only[Qw hlt,Qa,seval];exact q _ lf (by exact h1) (by exact h3) l0 l1 hs

include hM hP in
theorem Su (hN:P.enums.length≤60)(fr:Nat→Ob)(m1':fr 1=.cells (Pc P))(r7:∀s∈[7],(fr s).isRow=false)(f:Fr)(lf:Int)(h1:f 1=.ptr 0 1 0)(h3:f 3=.int .i64 lf)(l0:0≤lf)(l1:lf≤400)(h6:f 6=.int .i64 0)(Q:Exit→St→Prop)
  (q:∀(f:Fr) (fr:Nat→Ob) (lf:Int),f 3=.int .i64 lf→(0≤lf→∀e∈P.enums,e.name.length≤300)→Q (.exit 4) (⟨f,[fr],[]⟩:St)) (qr:∀(f:Fr) (fr:Nat→Ob),f 2=.bool false→Q .ret (⟨f,[fr],[]⟩:St)) :
  QH Tryz.prog (.loop Ay) ⟨f,[fr],[]⟩ Q:=by
 let I:Nat→St→Prop:=fun d st=>∃f fr i,∃lf:Int,st=⟨f,[fr],[]⟩∧d=P.enums.length-i∧-800≤lf∧lf≤400∧(0≤lf→∀e∈P.enums.take i,e.name.length≤300)∧f 1=.ptr 0 1 0∧f 3=.int .i64 lf∧f 6=.int .i64 (i:Nat)∧fr 1=.cells (Pc P)∧∀s∈[7],(fr s).isRow=false
 refine Qd I _ ⟨f,fr,0,lf,rfl,rfl,by omega,l1,(by intro _ g hg;cases hg),h1,h3,h6,m1',r7⟩ ?_;clear h1 h3 h6 m1' r7 l0 l1;rintro _ st ⟨f0,fr0,i,lf,rfl,rfl,l0,l1,hs,h10,h30,h60,m10,r7⟩;refine QJ (a:=_) [7] r7 ?_;intro f fr hf hm hn7;have h1:f 1=.ptr 0 1 0:=by rw[hf,h10]<;>rfl
 have h3:f 3=.int .i64 lf:=by rw[hf,h30]<;>rfl
 have h6:f 6=.int .i64 (i:Nat):=by rw[hf,h60]<;>rfl
 have m1':fr 1=.cells (Pc P):=by rw[hm 1 (by decide),m10]<;>rfl
 have n7:=hn7 7 (by decide);clear hf hm hn7 h10 h30 h60 m10 r7;have m1:=m1';simp only[Pc]at m1;simp only[QYn,h1,h6,m1,eE,seval];by_cases hlt:i<P.enums.length
 ·obtain⟨e,he⟩:∃e,P.enums[i]? = some e:=⟨P.enums[i],QXt hlt⟩;have hea:(P.enums.map Qq)[i]? = some (.agg e.cells):=by simp[he,Qq]
  have heo:=hP.enums e (QXF he);have e1:=Ql i _ hlt (by simp only[maxLen];omega);simp only[PE.cells]at hea;by_cases hl:0≤lf
  case neg=>
   have dl:decide (lf≥0)=false:=QZd hl;simp only[Qm hlt,dl,h3,Qa,seval];exact q _ _ lf (by exact h3) (fun h=>absurd h hl)
  have dl:decide (lf≥0)=true:=QZi hl;by_cases q1:(e.items.length:Int) > lf
  ·have d1:decide ((e.items.length:Int) > lf)=true:=QZi q1;simp only[Qm hlt,Qi,QYT,Qb,hea,QYn,n7,d1,dl,h1,h3,h6,m1,eE,seval];exact qr _ _ (by rfl)
  have d1:decide ((e.items.length:Int) > lf)=false:=QZd q1;by_cases q2:(e.free.length:Int) > lf
  ·have d2:decide ((e.free.length:Int) > lf)=true:=QZi q2;simp only[Qm hlt,Qi,QYT,Qb,hea,QYn,n7,d1,d2,dl,h1,h3,h6,m1,eE,seval];exact qr _ _ (by rfl)
  have d2:decide ((e.free.length:Int) > lf)=false:=QZd q2;by_cases hm:e.name.length≤300
  case neg=>
   have d3:decide ((e.name.length:Int) > 300)=true:=QZi (by omega);simp only[Qm hlt,Qi,QYT,Qb,hea,QYn,n7,d1,d2,d3,dl,h1,h3,h6,m1,eE,seval];exact qr _ _ (by rfl)
  have d3:decide ((e.name.length:Int) > 300)=false:=QZd (by omega);have e2:IntKind.i64.wrap (lf-(e.items.length:Int))=lf-(e.items.length:Int):=by rw[QE];omega
  have e3:IntKind.i64.wrap (lf-(e.items.length:Int)-(e.free.length:Int))=lf-(e.items.length:Int)-(e.free.length:Int):=by rw[QE];omega
  simp only[Qm hlt,Qi,QYT,Qb,hea,QYn,n7,e2,e3,d1,d2,d3,dl,h1,h3,h6,m1,eE,seval];refine Sr hM _ e heo (by rfl) i (lf-(e.items.length:Int)-(e.free.length:Int)) _ (by exact h1) (by rfl) (by exact h6) (by rfl) (by rfl) _ (fun f h1 h3 h6=>?_) (fun f h2=>?_)
  ·simp only[h6,e1,Qa,seval];exact⟨P.enums.length-(i+1),by omega,_,_,i+1,lf-(e.items.length:Int)-(e.free.length:Int),rfl,rfl,by omega,by omega,(by
    intro _;rw[QZa,he];intro x hx;simp only[QZb,QYK,QZs]at hx;rcases hx with hx|rfl
    ·exact hs hl x hx
    ·exact hm),(by exact h1),(by exact h3),(by rfl),(by exact m1'),(by
    intro s hs;simp only[QYO,QZw,or_false]at hs;subst hs;rfl)⟩
  ·simp only[Qa,seval];exact qr _ _ h2
 ·rw[QX0 (by omega)]at hs;simp only[Qw hlt,Qa,seval];exact q _ _ lf (by exact h3) hs

include hM hP in
theorem n21:WQ Tryz.prog 21 [P.av] (Ht (Y4 P)):=by
 rw[show P.av=.agg (Pc P)from rfl];by_cases q1:P.progs.length≤60
 case neg=>
  have d1:decide ((P.progs.length:Int) > 60)=true:=QZi (by omega);refine k21.rl (by simp) ?_;simp only[Pc,QYn,d1,Dc,eE,seval]
 have d1:decide ((P.progs.length:Int) > 60)=false:=QZd (by omega);by_cases q2:P.enums.length≤60
 case neg=>
  have d2:decide ((P.enums.length:Int) > 60)=true:=QZi (by omega);refine k21.rl (by simp) ?_;simp only[Pc,QYn,d1,d2,Dc,eE,seval]
 have d2:decide ((P.enums.length:Int) > 60)=false:=QZd (by omega);refine k21.rl (by simp) ?_;simp only[Pc,QYn,d1,d2,eE,seval];refine Ss P hP q1 _ (by rfl) _ (by rfl) (by rfl) (by rfl) _ (fun f lf h1 h3 l0 l1 hs=>?_) (fun f h2=>?_)
 ·simp only[Qa,seval];refine Su hM P hP q2 _ (by rfl) (by
    intro s hs;simp only[QYO,QZw,or_false]at hs;subst hs;rfl) _ lf (by exact h1) (by exact h3) l0 l1 (by rfl) _ (fun f fr lf h3 hs2=>?_) (fun f fr h2=>?_)
  ·simp only[h3,Qa,seval];exact⟨_,rfl,fun h=>⟨hs,hs2 (by simpa using h)⟩⟩
  ·simp only[h2,Dc,Qa,seval]
 ·simp only[h2,Dc,Qa,seval]

end
open So Vp Cp

def JJ (s:List UInt8)(P:PL):Int:=QU (fun g:PG=>g.name==s) P.progs 0
theorem P8 (s:List UInt8)(P:PL):JJ s P = -1∨(0≤JJ s P∧JJ s P<(P.progs.length:Int)):=by
 unfold JJ;rcases Wx (fun g:PG=>g.name==s) P.progs 0 with⟨h,_⟩|⟨k,o,h,h1,_⟩
 ·exact .inl h
 ·have:=(QXs.1 h1).1;exact .inr ⟨by rw[h];omega,by rw[h];omega⟩
def XT (P:PL)(s:List UInt8)(v:V):List UInt8×Int :=
 if JJ s P<0 then([],10)
 else if Z1 P (JJ s P) v≠0 then([],Z1 P (JJ s P) v)
 else if (Zb P 16 (JJ s P) v).length > 65536 then([],3)
 else(Zb P 16 (JJ s P) v,0)
def P9 (r:List UInt8×Int):Int:=if r.2≠0 then -1 else(r.1.length:Int)
theorem Dd {P:PL}{t:Int}{v:V}(h:Z1 P t v=0):(0≤t∧t<(P.progs.length:Int))∧Xl P 16 (Q1 P t) v=0:=by
 unfold Z1 at h;split at h
 ·omega
 rename_i ht;split at h
 ·rename_i hm;exact⟨by omega,hm⟩
 ·rename_i hm;exact absurd h hm
theorem Ra {P:PL}{t:Int}(ht:0≤t∧t<(P.progs.length:Int)):P.progs[t.toNat]? = some (Q1 P t):=by
 unfold Q1;rw[QXt (by omega:t.toNat<P.progs.length)];rfl

section
variable {M:Nat}(hM:M≤140737488351232)(P:PL)(hP:P.ok M)(hS:Y4 P)

include hM hP hS in
theorem t54:Qk Tryz.prog 54 [P.av] (.int .i64 (ck P)) :=
 QRf P hP hM (fun g h=>QXr (hS.1 g h) (by decide)) (fun g h=>QXr (hS.2 g h) (by decide))

include hM hP hS in
theorem t27 (t:Int)(ht:0≤t∧t<(P.progs.length:Int))(hk:ck P=0):Qk Tryz.prog 27 [P.av,.int .i64 t] (.bool true):=by
 have e0:P.av=.agg [.list (P.progs.map Qh),.list (P.enums.map Qq)]:=rfl;have d1:decide (t≥0)=true:=QZi ht.1;have d2:decide (t<(P.progs.length:Int))=true:=QZi ht.2;have cc:=t54 hM P hP hS;have z0:((0:Int)==0)=true:=rfl;rw[hk,e0]at cc;refine k27.fn (by simp) ?_;simp only[e0,d1,d2,QYn,eE,seval];refine aC cc ?_;simp only[z0,Qa,seval]

include hP in
theorem QyH (hk:ck P=0)(t:Int)(v:V)(hv:v.ok M)(hc:v.cnt≤1048576)(ht:0≤t∧t<(P.progs.length:Int))(hm:Xl P 16 (Q1 P t) v=0):Qk Tryz.prog 29 [P.av,.int .i64 t,v.av] (.str (Zb P 16 t v)) :=
 t29 hP (GL hk) (Ni hk) (Sk hk) (AK hP (Ns hk)) 16 t (Q1 P t) (Ra ht) ht.1 v hv hc hm

include hM hP hS in
theorem t10 (hk:ck P=0)(s:List UInt8)(v:V)(hv:v.ok M)(hc:v.cnt≤1048576):Qk Tryz.prog 10 [P.av,.str s,v.av] (.tup [.str (XT P s v).1,.int .i64 (XT P s v).2]):=by
 have e0:P.av=.agg [.list (P.progs.map Qh),.list (P.enums.map Qq)]:=rfl;have cf:=y26 P hP.len1 s;unfold BL at cf;rw[show QU (fun g:PG=>g.name==s) P.progs 0=JJ s P from rfl,e0]at cf;unfold XT;by_cases hp:JJ s P<0
 ·have d0:decide (JJ s P≥0)=false:=QZd (by omega);rw[QXV hp];rw[QXV hp,d0]at cf;rw[Qs v];refine k10.fn (by simp) ?_;simp only[e0,eE,seval];refine aC cf ?_;simp only[Qa,seval]
 have d0:decide (JJ s P≥0)=true:=QZi (by omega);rw[QXG hp];rw[QXG hp,d0]at cf;have ht:0≤JJ s P∧JJ s P<(P.progs.length:Int):=by
  rcases P8 s P with h|h
  ·omega
  ·exact h
 generalize JJ s P=t at *;have cu:=t27 hM P hP hS t ht hk;have cx:=v28 hP (GL hk) t v hv;have cb:=fun hm=>QyH P hP hk t v hv hc ht hm
 rw[e0]at cu;rw[e0,Qs v]at cx cb;rw[Qs v];refine k10.fn (by simp) ?_;simp only[e0,eE,seval];refine aC cf ?_;simp only[eE,seval];refine aC cu ?_;simp only[eE,seval];refine aC cx ?_;by_cases hf:Z1 P t v=0
 case neg=>
  have b0:(Z1 P t v != 0)=true:=by simp[hf]
  simp only[QXV hf,b0,Qa,seval]
 have b0:(Z1 P t v != 0)=false:=by simp[hf]
 rw[QXG (fun h=>h hf)];simp only[b0,eE,seval];refine aC (cb (Dd hf).2) ?_;by_cases hl:(Zb P 16 t v).length > 65536
 ·have d1:decide (((Zb P 16 t v).length:Int) > 65536)=true:=QZi (by omega);simp only[QXV hl,d1,Qa,seval]
 ·have d1:decide (((Zb P 16 t v).length:Int) > 65536)=false:=QZd (by omega);simp only[QXG hl,d1,Qa,seval]

include hM hP hS in
theorem t12 (hk:ck P=0)(s:List UInt8)(v:V)(hv:v.ok M)(hc:v.cnt≤1048576):Qk Tryz.prog 12 [P.av,.str s,v.av] (.int .i64 (P9 (XT P s v))):=by
 have e0:P.av=.agg [.list (P.progs.map Qh),.list (P.enums.map Qq)]:=rfl;have ce:=t10 hM P hP hS hk s v hv hc;unfold P9;generalize XT P s v=r at ce ⊢;obtain⟨d,e⟩:=r;dsimp only at ce ⊢;rw[e0,Qs v]at ce;rw[Qs v];refine k12.fn (by simp) ?_;simp only[e0,eE,seval];refine aC ce ?_;by_cases he:e=0
 ·have b0:(e != 0)=false:=by simp[he]
  rw[QXG (fun h=>h he)];simp only[b0,Qa,seval]
 ·have b0:(e != 0)=true:=by simp[he]
  rw[QXV he];simp only[b0,Qa,seval]

end
end Go.Proofs.YtipjfckmopekaaaGreatDoor.Va

namespace Go.Proofs.YtipjfckmopekaaaGreatDoor.Va
open Go Am Rc Bt Br Up So

noncomputable def sm (v w:V):Bool:=@decide (v=w) (Classical.propDecidable _)
section
variable (v w:V)(fr:Nat→Ob)(m2':fr 2=.cells (Kk v))(m3':fr 3=.cells (Kk w))(f:Fr)(h2:f 2=.ptr 0 2 0)(h3:f 3=.ptr 0 3 0)(Q:Exit→St→Prop)
include m2' m3' h2 h3

end

open Vp Cp

section
variable {M:Nat}(hM:M≤140737488351232)(P:PL)(hP:P.ok M)

include hP in
theorem QyI (hk:ck P=0)(t:Int)(v:V)(hv:v.ok M)(hc:v.cnt≤1048576)(hf:Z1 P t v=0):Qk Tryz.prog 16 [P.av,.int .i64 t,v.av] (.str (Zb P 16 t v)):=by
 obtain⟨ht,hm⟩:=Dd hf;exact u16 hP (GL hk) (Ni hk) (AK hP (Ns hk)) (Ns hk) 16 t (Q1 P t) (Ra ht) ht.1 v hv hc hm

include hM hP in
theorem u11 (hk:ck P=0)(s:List UInt8)(v:V)(hv:v.ok M)(hc:v.cnt≤1048576):Qk Tryz.prog 11 [P.av,.str s,v.av] (.tup [.str (XT P s v).1,.int .i64 (XT P s v).2]):=by
 have e0:P.av=.agg [.list (P.progs.map Qh),.list (P.enums.map Qq)]:=rfl;have cf:=y30 P hP.len1 s;unfold BL at cf;rw[show QU (fun g:PG=>g.name==s) P.progs 0=JJ s P from rfl,e0]at cf;unfold XT;by_cases hp:JJ s P<0
 ·have d0:decide (JJ s P≥0)=false:=QZd (by omega);rw[QXV hp];rw[QXV hp,d0]at cf;rw[Qs v];refine k11.fn (by simp) ?_;simp only[e0,eE,seval];refine aC cf ?_;simp only[Qa,seval]
 have d0:decide (JJ s P≥0)=true:=QZi (by omega);rw[QXG hp];rw[QXG hp,d0]at cf;generalize JJ s P=t at *;have cx:=v14 hP hM (GL hk) t v hv;have cb:=fun hf=>QyI P hP hk t v hv hc hf
 rw[e0,Qs v]at cx cb;rw[Qs v];refine k11.fn (by simp) ?_;simp only[e0,eE,seval];refine aC cf ?_;simp only[eE,seval];refine aC cx ?_;by_cases hf:Z1 P t v=0
 case neg=>
  have b0:(Z1 P t v != 0)=true:=by simp[hf]
  simp only[QXV hf,b0,Qa,seval]
 have b0:(Z1 P t v != 0)=false:=by simp[hf]
 rw[QXG (fun h=>h hf)];simp only[b0,eE,seval];refine aC (cb hf) ?_;by_cases hl:(Zb P 16 t v).length > 65536
 ·have d1:decide (((Zb P 16 t v).length:Int) > 65536)=true:=QZi (by omega);simp only[QXV hl,d1,Qa,seval]
 ·have d1:decide (((Zb P 16 t v).length:Int) > 65536)=false:=QZd (by omega);simp only[QXG hl,d1,Qa,seval]

include hM hP in
theorem u13 (hk:ck P=0)(s:List UInt8)(v:V)(hv:v.ok M)(hc:v.cnt≤1048576):Qk Tryz.prog 13 [P.av,.str s,v.av] (.int .i64 (P9 (XT P s v))):=by
 have e0:P.av=.agg [.list (P.progs.map Qh),.list (P.enums.map Qq)]:=rfl;have ce:=u11 hM P hP hk s v hv hc;unfold P9;generalize XT P s v=r at ce ⊢;obtain⟨d,e⟩:=r;dsimp only at ce ⊢;rw[e0,Qs v]at ce;rw[Qs v];refine k13.fn (by simp) ?_;simp only[e0,eE,seval];refine aC ce ?_;by_cases he:e=0
 ·have b0:(e != 0)=false:=by simp[he]
  rw[QXG (fun h=>h he)];simp only[b0,Qa,seval]
 ·have b0:(e != 0)=true:=by simp[he]
  rw[QXV he];simp only[b0,Qa,seval]

end
end Go.Proofs.YtipjfckmopekaaaGreatDoor.Va

namespace Go.Proofs.YtipjfckmopekaaaGreatDoor.Cl
open Go Am Rc Bt

theorem UL {sz:Nat}(h0:sz≠0){xs:List AV}(h:xs.all (fun e=>e.cells.length==sz)=true)(hf:QO xs=[]):xs=[]:=by
 cases xs with
 |nil=>rfl
 |cons x xs=>
  have hl:x.cells.length=sz:=by simpa using QXE.1 h x (by simp)
  have:x.cells=[]:=(List.append_eq_nil_iff.1 hf).1;rw[this]at hl;exact absurd hl.symm h0

def UM (sz:Nat)(args:List AV)(m:Qo):Option (AV×Qo) :=
 match args,m with
 | [.list xs],fr :: m=>bif xs.all (fun e=>e.cells.length==sz)&&Nat.ble xs.length 1000000&&Qu (fr 1000)then some (.vec 0 1000 (Xn (fr 1000)) 0 xs.length false,QK fr 1000 (.vec (Xn (fr 1000)) sz xs) :: m)else none
 |_,_=>none

theorem UN {P:Program}{k sz:Nat}(hk:∀(xs:List AV) (fr:Nat→Ob) (m:Qo),xs.all (fun e=>e.cells.length==sz)=true→xs.length≤1000000→Qu (fr 1000)=true→
  Qg P k [.list xs] (fr :: m) (fun x m1=>x=.vec 0 1000 (Xn (fr 1000)) 0 xs.length false∧m1=QK fr 1000 (.vec (Xn (fr 1000)) sz xs) :: m)) {args:List AV} {m m':Qo} {v:AV} (h:UM sz args m=some (v,m')):Qg P k args m fun x m1=>x=v∧m1=m':=by
 unfold UM at h;split at h
 ·rename_i xs fr m0;cases hb:(xs.all (fun e=>e.cells.length==sz)&&Nat.ble xs.length 1000000&&Qu (fr 1000))with
  |false=>rw[hb]at h;cases h
  |true=>
   rw[hb]at h;simp only[cond_true,QXR,Prod.mk.injEq]at h;simp only[QXQ]at hb;obtain⟨rfl,rfl⟩:=h;exact hk xs fr m0 hb.1.1 (QYU hb.1.2) hb.2
 ·cases h

theorem c96 (xs:List AV)(fr:Nat→Ob)(m:Qo)(h:xs.all (fun e=>e.cells.length==4)=true)(hn:xs.length≤1000000)(hr:Qu (fr 1000)=true) :
  Qg Tryz.prog 96 [.list xs] (fr :: m) (fun x m1=>x=.vec 0 1000 (Xn (fr 1000)) 0 xs.length false∧m1=QK fr 1000 (.vec (Xn (fr 1000)) 4 xs) :: m):=by
 have hng:QC (fr :: m) 0 1000=Xn (fr 1000):=Jl;refine k96.go (by simp) ?_;simp only[SH,V0,V1,Qa,seval];refine ZX (ys:=xs) (by simp only[Qa,seval]) ?_ ?_
 ·simp only[V3,Qa,seval];refine Zy rfl ?_;simp only[Qa,seval];refine QG (site:=5) (g:=1) (xs:=[]) (ys:=xs) rfl rfl rfl rfl rfl h (by simp[maxLen];omega) (by simp;omega) ?_;simp only[Qa,seval];refine XQ (l:=0) (site:=5) (g:=2) (o:=0) (n:=xs.length) (q:=false) (sz:=4) (xs:=xs) (by simp only[QX8,Qa,seval]) (by simp only[Qa,seval]) (by simp) (by decide) hr ?_;simp only[hng,N0,eE,seval]
  try simp[AV.still,AV.un,XZ,Xm]
 ·intro he;have hx:xs=[]:=by
   rcases he with he|he
   ·exact he
   ·exact UL (by decide) h he
  subst hx;simp only[V2,Qa,seval];refine XF (by simp only[Qa,seval]) rfl ?_;simp only[Qa,seval];refine XQ (l:=0) (site:=2) (g:=1) (o:=0) (n:=0) (q:=false) (sz:=4) (xs:=[]) (by simp only[Qa,seval]) (by simp only[Qa,seval]) (by simp) (by decide) hr ?_;simp only[hng,N0,eE,seval]
  try simp[AV.still,AV.un,XZ,Xm]

theorem QSY (xs:List AV)(fr:Nat→Ob)(m:Qo)(h:xs.all (fun e=>e.cells.length==8)=true)(hn:xs.length≤1000000)(hr:Qu (fr 1000)=true) :
  Qg Tryz.prog 181 [.list xs] (fr :: m) (fun x m1=>x=.vec 0 1000 (Xn (fr 1000)) 0 xs.length false∧m1=QK fr 1000 (.vec (Xn (fr 1000)) 8 xs) :: m):=by
 have hng:QC (fr :: m) 0 1000=Xn (fr 1000):=Jl;refine Rs.go (by simp) ?_;simp only[V5,Bf,Bg,Qa,seval];refine ZX (ys:=xs) (by simp only[Qa,seval]) ?_ ?_
 ·simp only[Bi,Qa,seval];refine Zy rfl ?_;simp only[Qa,seval];refine QG (site:=5) (g:=1) (xs:=[]) (ys:=xs) rfl rfl rfl rfl rfl h (by simp[maxLen];omega) (by simp;omega) ?_;simp only[Qa,seval];refine XQ (l:=0) (site:=5) (g:=2) (o:=0) (n:=xs.length) (q:=false) (sz:=8) (xs:=xs) (by simp only[QX8,Qa,seval]) (by simp only[Qa,seval]) (by simp) (by decide) hr ?_;simp only[hng,Dl,eE,seval]
  try simp[AV.still,AV.un,XZ,Xm]
 ·intro he;have hx:xs=[]:=by
   rcases he with he|he
   ·exact he
   ·exact UL (by decide) h he
  subst hx;simp only[Bh,Qa,seval];refine XF (by simp only[Qa,seval]) rfl ?_;simp only[Qa,seval];refine XQ (l:=0) (site:=2) (g:=1) (o:=0) (n:=0) (q:=false) (sz:=8) (xs:=[]) (by simp only[Qa,seval]) (by simp only[Qa,seval]) (by simp) (by decide) hr ?_;simp only[hng,Dl,eE,seval]
  try simp[AV.still,AV.un,XZ,Xm]

theorem QSZ (xs:List AV)(fr:Nat→Ob)(m:Qo)(h:xs.all (fun e=>e.cells.length==7)=true)(hn:xs.length≤1000000)(hr:Qu (fr 1000)=true) :
  Qg Tryz.prog 180 [.list xs] (fr :: m) (fun x m1=>x=.vec 0 1000 (Xn (fr 1000)) 0 xs.length false∧m1=QK fr 1000 (.vec (Xn (fr 1000)) 7 xs) :: m):=by
 have hng:QC (fr :: m) 0 1000=Xn (fr 1000):=Jl;refine Rr.go (by simp) ?_;simp only[V4,Bb,Bc,Qa,seval];refine ZX (ys:=xs) (by simp only[Qa,seval]) ?_ ?_
 ·simp only[Be,Qa,seval];refine Zy rfl ?_;simp only[Qa,seval];refine QG (site:=5) (g:=1) (xs:=[]) (ys:=xs) rfl rfl rfl rfl rfl h (by simp[maxLen];omega) (by simp;omega) ?_;simp only[Qa,seval];refine XQ (l:=0) (site:=5) (g:=2) (o:=0) (n:=xs.length) (q:=false) (sz:=7) (xs:=xs) (by simp only[QX8,Qa,seval]) (by simp only[Qa,seval]) (by simp) (by decide) hr ?_;simp only[hng,Dk,eE,seval]
  try simp[AV.still,AV.un,XZ,Xm]
 ·intro he;have hx:xs=[]:=by
   rcases he with he|he
   ·exact he
   ·exact UL (by decide) h he
  subst hx;simp only[Bd,Qa,seval];refine XF (by simp only[Qa,seval]) rfl ?_;simp only[Qa,seval];refine XQ (l:=0) (site:=2) (g:=1) (o:=0) (n:=0) (q:=false) (sz:=7) (xs:=[]) (by simp only[Qa,seval]) (by simp only[Qa,seval]) (by simp) (by decide) hr ?_;simp only[hng,Dk,eE,seval]
  try simp[AV.still,AV.un,XZ,Xm]

end Go.Proofs.YtipjfckmopekaaaGreatDoor.Cl

namespace Go.Proofs.YtipjfckmopekaaaGreatDoor.Ew
open Go Am Rc Cl

def nat:K1:=fun k args m=>
 if k=96 then UM 4 args m
 else if k=181 then UM 8 args m
 else if k=180 then UM 7 args m
 else none

theorem nat_ok:Wf Tryz.prog nat:=by
 intro k args m v m' h;unfold nat at h;split at h
 ·rename_i e;subst e;exact UN c96 h
 split at h
 ·rename_i e;subst e;exact UN QSY h
 split at h
 ·rename_i e;subst e;exact UN QSZ h
 ·cases h

theorem Rd:evT nat Ev.tab 3000 9 []=true:=by decide +kernel

theorem Y5:Qk Tryz.prog 9 [] (.bool true):=VZ nat_ok Ev.QwJ Rd

end Go.Proofs.YtipjfckmopekaaaGreatDoor.Ew

namespace Go.Proofs.YtipjfckmopekaaaGreatDoor.Va
open Go Am Rc Bt Br Up So Vp Cp

theorem QJh {p:Prop}{b:Bool}(h:b=true→p):Ht p (.bool b):=⟨b,rfl,h⟩

section
variable {M:Nat}(P:PL)(hP:P.ok M)(hM:M≤140737488351232)(s:List UInt8)(v:V)(hv:v.ok M)

include hP hM in
theorem n7:WQ Tryz.prog 7 [P.av] (Ht (Y4 P∧ck P=0)):=by
 have e0:P.av=.agg [.list (P.progs.map Qh),.list (P.enums.map Qq)]:=rfl;have c1:=n21 hM P hP;have c2:=z22 P hP hM;rw[e0]at c1 c2 ⊢;refine k7.rl (by simp) ?_;simp only[eE,seval];refine Zx (R:=Ht (Y4 P)) c1 rfl rfl (fun _ h=>h.rf) ?_;rintro _ ⟨b,rfl,hb⟩;cases b
 ·simp only[Dc,Qa,seval]
 simp only[eE,seval];refine aC c2 ?_;simp only[Qa,seval];exact QJh fun h=>⟨hb rfl,by simpa using h⟩

end
end Go.Proofs.YtipjfckmopekaaaGreatDoor.Va

namespace Go.Proofs.YtipjfckmopekaaaGreatDoor.Va
open Go Am Rc Bt Br Up

open So Vp Cp

section
variable {M:Nat}(P:PL)(hP:P.ok M)(hM:M≤140737488351232)(s:List UInt8)(t:Int)(v:V)(hv:v.ok M)

include hP hM hv in
theorem c3:Qk Tryz.prog 3 [P.av,.str s,v.av] (.bool true):=by
 have e0:P.av=.agg [.list (P.progs.map Qh),.list (P.enums.map Qq)]:=rfl;have c1:=n7 P hP hM;have c2:=n8 v hv 500 (by decide) (by decide);have c3:=fun(hg:Y4 P∧ck P=0) (hc:v.cnt≤1048576)=>t10 hM P hP hg.1 hg.2 s v hv hc
 have c4:=fun(hg:Y4 P∧ck P=0) (hc:v.cnt≤1048576)=>t12 hM P hP hg.1 hg.2 s v hv hc
 have c5:=fun(hg:Y4 P∧ck P=0) (hc:v.cnt≤1048576)=>u11 hM P hP hg.2 s v hv hc
 have c6:=fun(hg:Y4 P∧ck P=0) (hc:v.cnt≤1048576)=>u13 hM P hP hg.2 s v hv hc
 generalize P9 (XT P s v)=z at c4 c6;generalize XT P s v=q at c3 c5;obtain⟨d,e⟩:=q;dsimp only at c3 c5;rw[e0]at c1;rw[e0,Qs v]at c3 c4 c5 c6;rw[Qs v]at c2;rw[e0,Qs v];refine k3.fn (by simp) ?_;simp only[eE,seval];refine Zx (R:=Ht (Y4 P∧ck P=0)) c1 rfl rfl (fun _ h=>h.rf) ?_;rintro _ ⟨b,rfl,hg⟩;cases b
 ·simp only[Qa,seval];refine aC Ew.Y5 ?_;simp only[Qa,seval]
 replace hg:=hg rfl;cases d1:decide ((s.length:Int) > 300)
 case true=>
  simp only[d1,Qa,seval];refine aC Ew.Y5 ?_;simp only[Qa,seval]
 simp only[d1,eE,seval];refine Zx (R:=Ht ((v.cnt:Int)≤500)) c2 rfl rfl (fun _ h=>h.rf) ?_;rintro _ ⟨b,rfl,hc⟩;cases b
 ·simp only[Qa,seval];refine aC Ew.Y5 ?_;simp only[Qa,seval]
 replace hc:=hc rfl;have hc':v.cnt≤1048576:=by omega
 simp only[eE,seval];refine aC (c3 hg hc') ?_;simp only[eE,seval];refine aC (c5 hg hc') ?_;simp only[QYB,QI,eE,seval];refine aC (c4 hg hc') ?_;simp only[eE,seval];refine aC (c6 hg hc') ?_;simp only[QYB,Qa,seval];refine aC Ew.Y5 ?_;simp only[Qa,seval]

end
end Go.Proofs.YtipjfckmopekaaaGreatDoor.Va

/- Parts of the proof, in order. -/
import Derived.Test.YtkhpgmeokilhaaaGreatDoorMLensDecodes4

set_option linter.unusedSimpArgs false
namespace Go.Proofs.YtkhpgmeokilhaaaGreatDoor.Va
open Go Am Rc Bt Br Up

def vv (k:Int)(b:Nat)(t:List UInt8)(l p s r:List AV):AV:=.agg [.int .i64 k,.int .u64 (b:Nat),.str t,.list l,.list p,.list s,.list r]

section
variable (k:Int)(b:Nat)(hb:b<18446744073709551616)(t:List UInt8)(l p s r:List AV)
include hb

theorem Qky:Qi Tryz.prog 109 [vv k b t l p s r] (vv k (XB k b) t l p s r):=by
 refine wF Tryz.func109 ?_;simp only[eK,Tryz.f109,seval];simp only[vv,eE,seval];by_cases hk:k=6
 ·have b0:(k==6)=true:=by simp[hk]
  simp only[b0,eE,seval];refine aC (QjY b hb) ?_;simp only[Qeb,Qa,seval];by_cases hc:Dl b=0
  ·simp only[hc,XB,hk,decide_true,and_self,splice,Qm4,QnF,Qm7,Qnd,QmR,QmS,QmK,Qnr,eE,seval]
   try rfl
  ·simp only[hc,XB,decide_false,and_false,eE,seval]
 ·have b0:(k==6)=false:=by simp[hk]
  simp only[b0,XB,hk,false_and,eE,seval]

def ZV:R :=
 if k=1∨k=4∨k=5∨k=9 then⟨0,0,b,[]⟩else if k=2∨k=3 then⟨0,1,(Gj (IntKind.i64.wrap (b:Int))).toNat,[]⟩
 else if k=6 then⟨0,2,XB k b,[]⟩else if k=7∨k=8 then⟨0,3,0,t⟩else zr

theorem Qkz:Qi Tryz.prog 231 [vv k b t l p s r] (ZV k b t).av:=by
  have hn:=Qky k b hb t l p s r;simp only[vv]at hn;have hw0 : -9223372036854775808≤IntKind.i64.wrap (b:Int):=by rw[QC];omega
  have hw1:IntKind.i64.wrap (b:Int)<9223372036854775808:=by rw[QC];omega
  have hz:=Qka (IntKind.i64.wrap (b:Int)) hw0 hw1;have hzn:(((Gj (IntKind.i64.wrap (b:Int))).toNat:Nat):Int)=Gj (IntKind.i64.wrap (b:Int)):=Int.toNat_of_nonneg (FU _);refine wF Tryz.func231 ?_;simp only[eK,Tryz.f231,seval];simp only[vv,eE,seval];by_cases h1:k=1∨k=4∨k=5∨k=9
  · have hs:ZV k b t=⟨0,0,b,[]⟩:=by unfold ZV;rw[QmD h1]
    rcases h1 with rfl|rfl|rfl|rfl<;>simp only[hs,R.av,seval,splice,Qm4,QnF,Qm7,Qnd,QmR,QmS,QmK,Qnr,eE]<;>rfl
  have hk1:(k==1)=false:=by simp;omega
  have hk4:(k==4)=false:=by simp;omega
  have hk5:(k==5)=false:=by simp;omega
  have hk9:(k==9)=false:=by simp;omega
  by_cases h2:k=2∨k=3
  · have hs:ZV k b t=⟨0,1,(Gj (IntKind.i64.wrap (b:Int))).toNat,[]⟩:=by unfold ZV;rw[QmC h1,QmD h2]
    rcases h2 with rfl|rfl <;>
      (simp only[seval,eE]
       refine aC hz ?_;simp only[hs,R.av,hzn,splice,Qm4,QnF,Qm7,Qnd,QmR,QmS,QmK,Qnr,eE,seval])
  have hk2:(k==2)=false:=by simp;omega
  have hk3:(k==3)=false:=by simp;omega
  by_cases h6:k=6
  · have hs:ZV k b t=⟨0,2,XB k b,[]⟩:=by unfold ZV;rw[QmC h1,QmC h2,QmD h6]
    have b6:(k==6)=true:=by simp[h6]
    simp only[hk1,hk4,hk5,hk9,hk2,hk3,b6,Qm4,Qnd,QmK,Qnr,eE,seval];refine aC hn ?_;simp only[hs,R.av,splice,Qm4,QnF,Qm7,Qnd,QmR,QmS,QmK,Qnr,eE,seval]
  have hk6:(k==6)=false:=by simp;omega
  by_cases h7:k=7∨k=8
  · have hs:ZV k b t=⟨0,3,0,t⟩:=by unfold ZV;rw[QmC h1,QmC h2,QmC h6,QmD h7]
    rcases h7 with rfl|rfl<;>simp only[hs,R.av,seval,splice,Qm4,QnF,Qm7,Qnd,QmR,QmS,QmK,Qnr,eE]<;>rfl
  have hk7:(k==7)=false:=by simp;omega
  have hk8:(k==8)=false:=by simp;omega
  have hs:ZV k b t=zr:=by unfold ZV;rw[QmC h1,QmC h2,QmC h6,QmC h7]
  simp only[hk1,hk4,hk5,hk9,hk2,hk3,hk6,hk7,hk8,hs,zr,R.av,splice,Qm4,QnF,Qm7,Qnd,QmS,QmK,Qnr,eE,seval]
  try rfl

end

end Go.Proofs.YtkhpgmeokilhaaaGreatDoor.Va

namespace Go.Proofs.YtkhpgmeokilhaaaGreatDoor.Va
open Go Am Rc Bt Vp Cp Up

structure ScanS (s:List UInt8)(l:L)(c:C)(acc:List R):Prop where
 len:c.d.length=s.length
 all:Qen s l=(if (sg c.left.toNat c).2=0 then(acc++(sg c.left.toNat c).1,0)else([],(sg c.left.toNat c).2))
 acc:(acc.length:Int)+c.left≤s.length

theorem B1:∀(k:Nat) (c:C),c.d.length≤9223372036854770000→c.left≤k→sg k c=sg c.left.toNat c
 |0,c,hl,h=>by
  have:=(Yo c).1;rw[show c.left.toNat=0 by omega]
 |k+1,c,hl,h=>by
  have hlb:=Yo c;by_cases h0:0<c.left
  ·obtain⟨j,hj⟩:∃j,c.left.toNat=j+1:=⟨c.left.toNat-1,by omega⟩;rw[hj,sg,sg,QmD h0,QmD h0];by_cases hn:(Xo c).2.2=0
   ·obtain⟨_,s2,s3,s4,_⟩:=(DO hl hn).left;simp only[hn,if_true];have hl':(Xo c).2.1.d.length≤9223372036854770000:=by rw[s4];exact hl
    rw[B1 k _ hl' (by omega),B1 j _ hl' (by omega)]
   ·simp only[hn,if_false]
  ·have e:c.left.toNat=0:=by omega
   rw[e];simp only[sg,h0,if_false]

theorem ScanS.done {s:List UInt8}{l:L}{c:C}{acc:List R}(h:ScanS s l c acc)(h0:¬0<c.left):Qen s l=(acc,0):=by
 have:=h.all;have hb:=(Yo c).1;rw[show c.left.toNat=0 by omega]at this
 simpa [sg]using this

theorem ScanS.step {s:List UInt8}{l:L}{c:C}{acc:List R}(hl:s.length≤9223372036854770000)(h:ScanS s l c acc)(h0:0<c.left)(hn:(Xo c).2.2=0):ScanS s l (Xo c).2.1 (acc++[(Xo c).1])∧(Xo c).2.1.left<c.left∧0≤(Xo c).2.1.left:=by
 have hcl:c.d.length≤9223372036854770000:=by rw[h.len];exact hl
 obtain⟨_,s2,s3,s4,_⟩:=(DO hcl hn).left;refine⟨⟨by rw[s4];exact h.len,?_,?_⟩,s2,s3⟩
 ·have:=h.all;obtain⟨j,hj⟩:∃j,c.left.toNat=j+1:=⟨c.left.toNat-1,by omega⟩;rw[hj,sg]at this;simp only[h0,hn,if_true]at this;rw[B1 j _ (by rw[s4];exact hcl) (by omega)]at this;rw[this];by_cases hs:(sg (Xo c).2.1.left.toNat (Xo c).2.1).2=0
  ·simp[hs]
  ·simp[hs]
 ·have:=h.acc;simp;omega

end Go.Proofs.YtkhpgmeokilhaaaGreatDoor.Va

namespace Go.Proofs.YtkhpgmeokilhaaaGreatDoor.Va
open Go Am Rc Bt Vp Cp

def QeQ (u:Nat)(k:Nat)(st:St):Prop :=
 ∃f fr i,st=⟨f,[fr],[]⟩∧k=8-i∧i≤8∧f 0=.int .u64 (u:Nat)∧f 3=.vec 0 5 1 0 8 false∧f 7=.int .i64 8∧f 8=.int .i64 (i:Nat)∧fr 5=.vec 1 1 (Qr (fx i u)++List.replicate (8-i) (AV.int .u8 0))

theorem QbB (u i:Nat)(hi:i<8):IntKind.u8.wrap ((u:Int).fdiv (2 ^ min (8*i) 64))=((UInt8.ofNat (u / 256 ^ i % 256)).toNat:Int):=by
 have hp:(256:Nat) ^ i=2 ^ (8*i):=by rw[Nat.pow_mul]
 rw[QnM (by omega),QoL _ (Int.le_of_lt (Int.pow_pos (by decide))),toNat_ofNat _ (Nat.mod_lt _ (by decide)),hp,wu8];have:(u:Int) / 2 ^ (8*i)=((u / 2 ^ (8*i):Nat):Int):=by push_cast;rfl
 rw[this];omega

theorem c84 (u:Nat):Qi Tryz.prog 84 [.int .u64 u] (.str (fx 8 u)):=by
 refine wF Tryz.func84 ?_;simp only[eK,Tryz.f84,seval];simp only[Qa,seval];refine GD (n:=8) (k:=8) rfl rfl (Qms _) (by decide) (by decide) rfl ?_;simp only[eE,seval];refine Qk (QeQ u) 8 ?_ ?_
 ·exact⟨_,_,0,rfl,rfl,by omega,rfl,rfl,rfl,rfl,rfl⟩
 rintro n st ⟨f,fr,i,rfl,rfl,hi,h0,h3,h7,h8,m5⟩;simp only[h7,h8,Qa,seval];have hlen:(Qr (fx i u)).length=i:=by simp[Qr,FT]
 by_cases hlt:i<8
 ·have d0:decide ((i:Int)<8)=true:=by simp;omega
  have e0:IntKind.i64.wrap (8*(i:Int))=((8*i:Nat):Int):=by rw[QC];omega
  have n0:(0≤((8*i:Nat):Int))=True:=eq_true (by omega);have n1:(0≤(i:Int))=True:=by simp
  have n2:(i<8)=True:=eq_true hlt;have e1:IntKind.i64.wrap ((i:Int)+1)=((i+1:Nat):Int):=by rw[QC];omega
  have hb:=QbB u i hlt;obtain⟨j,hj⟩:∃j,8-i=j+1:=⟨7-i,by omega⟩;have hget:(Qr (fx i u)++List.replicate (8-i) (AV.int .u8 0))[0+i]? = some (.int .u8 0):=by
   rw[QmU,QnX (by omega),hlen,Nat.sub_self,hj];rfl
  have hset:(Qr (fx i u)++List.replicate (8-i) (AV.int .u8 0)).set (0+i) (AV.int .u8 ((UInt8.ofNat (u / 256 ^ i % 256)).toNat:Int))=Qr (fx (i+1) u)++List.replicate (8-(i+1)) (AV.int .u8 0):=by
   rw[QmU,Qbf,List.set_append_right _ _ (by omega),hlen,Nat.sub_self,hj,show 8-(i+1)=j by omega];simp[Qr,List.replicate_succ]
  simp only[d0,e0,n0,n1,n2,e1,hb,QnY,Qf,hget,Jd,AV.rfL,AV.rf,hset,h0,h3,h8,m5,eE,seval];exact⟨8-(i+1),by omega,_,_,i+1,rfl,rfl,by omega,by simp only[h0,Qa,seval],by simp only[h3,Qa,seval],by simp only[h7,Qa,seval],by simp only[Qa,seval],by simp only[Qa,seval]⟩
 ·have hi8:i=8:=by omega
  subst hi8;have d0:decide (((8:Nat):Int)<8)=false:=rfl;rw[Nat.sub_self,List.replicate_zero,Qnz]at m5;have he:=HN (m:=[]) (fr:=fr) (site:=5) (g:=1) (sz:=1) (n:=8) (q:=false) m5 (by simp[Qr,FT]);have hbo:bytesOf (Qr (fx 8 u))=some (fx 8 u):=Yn _;simp only[he,hbo,h3,Qa,seval]

open Up

def valid (f:R):Bool:=(Kf f.num f.wire).2==0&&(if YK f.wire then f.data==[]else f.bits==0)

theorem QbC (n:Nat):(((n:Nat):Int)==0)=(n==0):=by
 by_cases h:n=0
 ·subst h;rfl
 ·rw[Qoi.2 h,Qoi.2 (by omega)]

theorem c81 (f:R):Qi Tryz.prog 81 [f.av] (.bool (valid f)):=by
 refine wF Tryz.func81 ?_;simp only[eK,Tryz.f81,seval];simp only[R.av,eE,seval];refine aC (c82 f.num f.wire) ?_;unfold valid;generalize Kf f.num f.wire=t;obtain⟨s,e⟩:=t;simp only[Ru,Qa,seval];by_cases he:e=0
 ·subst he;simp only[eE,seval];refine aC (c85 f.wire) ?_;cases hn:YK f.wire with
  |true=>
   simp only[QP,QnG,eE,seval]
  |false=>
   simp only[QbC,QnG,eE,seval]
 ·simp only[Q2 he,Qa,seval];simp[he]

end Go.Proofs.YtkhpgmeokilhaaaGreatDoor.Va

namespace Go.Proofs.YtkhpgmeokilhaaaGreatDoor.Va
open Go Am Rc Bt

theorem QkA (p v:AV)(h fr:Nat→Ob)(m:Qh)(hs:fr 2136=.cells [p,v])(hp:p=.nilp∨p=.ptr 0 2136 0) :
  Qd Tryz.prog 175 [.ptr 1 2136 0] (h :: fr :: m) fun x m1=>x=.tup []∧m1=h :: QG fr 2136 (.cells [.ptr 0 2136 0,v]) :: m:=by
 refine wG Tryz.func175 ?_;simp only[eK,Tryz.f175,seval];rcases hp with rfl|rfl
 ·simp only[hs,RR.evL,eE,seval]
 ·simp only[hs,RR.evL,LZ _ _ _ hs,eE,seval]

structure Bld (fr:Nat→Ob)(bs:List UInt8):Prop where
 mk ::
 cell:∃p g,fr 2136=.cells [p,.vec 0 2005 g 0 bs.length false]∧fr 2005=.vec g 1 (Qr bs)∧(p=.nilp∨p=.ptr 0 2136 0)

def Wt (fr:Nat→Ob)(g:Nat)(bs:List UInt8):Nat→Ob :=
 QG (QG fr 2005 (.vec g 1 (Qr bs))) 2136 (.cells [.ptr 0 2136 0,.vec 0 2005 g 0 bs.length false])

theorem W8 (fr:Nat→Ob)(g:Nat)(bs:List UInt8):Bld (Wt fr g bs) bs :=
 ⟨_,g,by rw[Wt,QU],by rw[Wt,QX _ _ (by decide),QU],.inr rfl⟩

theorem YX {fr:Nat→Ob}{g:Nat}{bs:List UInt8}{s:Nat}(h1:s≠2005)(h2:s≠2136):Wt fr g bs s=fr s:=by
 rw[Wt,QX _ _ h2,QX _ _ h1]

theorem Ao (bs t:List UInt8)(fr:Nat→Ob)(m:Qh)(h:Bld fr bs)(hl:bs.length+t.length≤140737488355328) :
  ∃g,Qd Tryz.prog 83 [.ptr 0 2136 0,.str t] (fr :: m) fun x m1=>x=.tup [.int .i64 (t.length:Int),.nili]∧m1=Wt fr g (bs++t) :: m:=by
 obtain⟨p,g,h1,h2,h3⟩:=h.cell;refine⟨g+1,?_⟩;refine wG Tryz.func83 ?_;simp only[eK,Tryz.f83,seval];simp only[Qa,seval];refine Qg (QkA p _ _ fr m h1 h3) rfl ?_;simp only[h1,eE,seval];refine HO (xs:=Qr bs) rfl (by simp only[h2,eE,seval]) rfl (by simp[Qr]) rfl hl ?_;have hb:Qr bs++Qr t=Qr (bs++t):=by simp[Qr]
 have hn:bs.length+t.length=(bs++t).length:=by simp
 simp only[h1,hb,hn,eE,seval];rw[Vx _ _ _ _ _ (by decide),GE,Vx _ _ _ _ _ (by decide),Wt]

def N1 (fr:Nat→Ob)(bs:List UInt8):Nat→Ob :=
 if bs.length=0 then fr else match fr 2005 with
  |.vec g _ _=>QG fr 2005 (.vec (g+1) 1 [])
  |_=>fr

theorem c87 (bs:List UInt8)(fr:Nat→Ob)(m:Qh)(h:Bld fr bs)(hl:bs.length≤140737488355328) :
  Qd Tryz.prog 87 [.ptr 0 2136 0] (fr :: m) fun x m1=>x=.str bs∧m1=N1 fr bs :: m:=by
 obtain⟨p,g,h1,h2,h3⟩:=h.cell;refine wG Tryz.func87 ?_;simp only[eK,Tryz.f87,seval];simp only[h1,eE,seval];refine⟨1,2005,g,bs.length,1,Qr bs,by decide,rfl,h2,?_⟩;by_cases h0:bs.length=0
 ·have hb:bs=[]:=QnB h0;subst hb;simp only[Qj,h1,h2,Qnr,Int.natCast_zero,eE,seval];refine .inl ⟨rfl,rfl,?_⟩;simp only[Qj,N1,Qnr,Qa,seval]
 ·simp only[h0,Qj,h1,h2,eE,seval];refine .inr ⟨1,g,bs.length,Qr bs,bs,rfl,rfl,h2,by simp[Qr],h0,Qm5 (by simp[Qr]),?_⟩;simp only[h0,Qj,h2,N1,eE,seval]

open Vp Cp Up

def body (f:R):List UInt8:=if f.wire=2 then fx 8 f.bits else if YK f.wire then Vp.put f.bits else Vp.put f.data.length++f.data
def Bm (f:R):List UInt8:=if valid f then(Kf f.num f.wire).1++body f else []
def XP (l:List R):List UInt8:=l.flatMap Bm

theorem Bld.drop {fr:Nat→Ob}{bs:List UInt8}(h:Bld fr bs):Bld (QG (fun i=>(fr i).scrub 5) 5 .none) bs:=by
 obtain⟨p,g,h1,h2,h3⟩:=h.cell;refine⟨p,g,?_,?_,h3⟩
 ·rw[QX _ _ (by decide),h1];rcases h3 with rfl|rfl<;>rfl
 ·rw[QX _ _ (by decide),h2];rfl

theorem Bld.put {fr:Nat→Ob}{bs:List UInt8}(h:Bld fr bs)(o:Ob):Bld (QG fr 5 o) bs:=by
 obtain⟨p,g,h1,h2,h3⟩:=h.cell;exact⟨p,g,by rw[QX _ _ (by decide)];exact h1,by rw[QX _ _ (by decide)];exact h2,h3⟩

def LL (l:List R)(k:Nat)(st:St):Prop :=
 ∃f fr i,st=⟨f,[fr],[]⟩∧k=l.length-i∧i≤l.length∧f 3=.ptr 0 2136 0∧f 8=.list (FV l)∧f 9=.int .i64 (l.length:Int)∧f 10=.int .i64 (i:Nat)∧(fr 5).isRow=false∧Bld fr (XP (l.take i))

theorem NN (l:List R)(i:Nat)(fd:R)(h:l[i]? = some fd):XP (l.take (i+1))=XP (l.take i)++Bm fd:=by
 obtain⟨hi,e⟩:=Qmu.1 h;rw[QmP hi,e];simp[XP]

theorem QbD (l:List R)(i:Nat)(fd:R)(h:l[i]? = some fd):(XP (l.take i)).length+(Bm fd).length≤(XP l).length:=by
 have e:XP l=XP (l.take (i+1))++XP (l.drop (i+1)):=by
  unfold XP;rw[←List.flatMap_append,QnN]
 rw[e,NN l i fd h];simp

theorem c41 (l:List R)(hb:∀fd∈l,fd.bits<18446744073709551616∧fd.data.length<9223372036854775807)(hn:l.length<9223372036854775807)(hl:(XP l).length≤140737488355328):Qi Tryz.prog 41 [.list (FV l)] (.str (XP l)):=by
 refine wF Tryz.func41 ?_;simp only[eK,Tryz.f41,seval];simp only[eE,seval];refine YF rfl rfl rfl rfl ?_;simp only[Qbi,Qa,seval];refine Qk (LL l) _ ⟨_,_,0,rfl,rfl,QmE _,rfl,rfl,rfl,rfl,rfl,?_⟩ ?_
 ·exact⟨.nilp,1,rfl,rfl,.inl rfl⟩
 rintro n st ⟨f,fr,i,rfl,rfl,hi,h3,h8,h9,h10,m5,hB⟩;simp only[h9,h10,m5,Qa,seval];by_cases hlt:i<l.length
 ·obtain⟨fd,hfd⟩:∃fd,l[i]? = some fd:=⟨l[i],Qmv hlt⟩;have hmem:=QmJ hfd;obtain⟨hb1,hb2⟩:=hb fd hmem;have hfa:(FV l)[i]? = some fd.av:=by simp[FV,hfd]
  have hps:=NN l i fd hfd;have hple:=QbD l i fd hfd;have d0:decide ((i:Int)<(l.length:Int))=true:=by simp;omega
  have n0:(0≤(i:Int))=True:=by simp
  have e1:IntKind.i64.wrap ((i:Int)+1)=((i+1:Nat):Int):=by rw[QC];omega
  -- how a round ends
  have fin:∀(f':Fr) (fr':Nat→Ob) (bs':List UInt8),f' 3=.ptr 0 2136 0→f' 8=.list (FV l)→f' 9=.int .i64 (l.length:Int)→f' 10=.int .i64 (((i+1:Nat):Nat):Int)→(fr' 5).isRow=false→Bld fr' bs'→bs'=XP (l.take i)++Bm fd→∃k,k<l.length-i∧LL l k ⟨f',[fr'],[]⟩:=by
   intro f' fr' bs' g1 g2 g3 g4 g5 g6 g7;exact⟨l.length-(i+1),by omega,f',fr',i+1,rfl,rfl,by omega,g1,g2,g3,g4,g5,by rw[hps,←g7];exact g6⟩
  have hB1:=(hB.drop).put (.cells [.int .i64 fd.num,.int .i64 fd.wire,.int .u64 (fd.bits:Nat),.str fd.data]);rw[GE]at hB1;simp only[d0,n0,QnY,Qf,hfa,R.av,h8,h10,eE,seval];refine aC (c81 fd) ?_;cases hv:valid fd with
  |false=>
   simp only[e1,h10,Qa,seval];refine fin _ _ _ ?_ ?_ ?_ ?_ ?_ hB1 ?_
   ·simp only[h3,Qa,seval]
   ·simp only[h8,Qa,seval]
   ·simp only[h9,Qa,seval]
   ·simp only[Qa,seval]
   ·simp only[Qa,seval]
   ·simp[Bm,hv]
  |true=>
   simp only[eE,seval];refine aC (c82 fd.num fd.wire) ?_;simp only[Ru,Qa,seval];have hp:Bm fd=(Kf fd.num fd.wire).1++body fd:=by simp[Bm,hv]
   have hpl:=congrArg List.length hp;rw[Qm9]at hpl;have hbl:∀x:Nat,x≤(body fd).length→(XP (l.take i)).length+(Kf fd.num fd.wire).1.length+x≤140737488355328:=by intro x hx;omega
   have hbody:body fd=if fd.wire=2 then fx 8 fd.bits else if YK fd.wire then Vp.put fd.bits else Vp.put fd.data.length++fd.data:=rfl
   obtain⟨g1,hw1⟩:=Ao (XP (l.take i)) (Kf fd.num fd.wire).1 _ [] hB1 (by have:=hbl 0 (by omega);omega);refine Qg hw1 (by simp only[Qm3,h3,Qa,seval]) ?_;have B2:=W8 (QG (fun i=>(fr i).scrub 5) 5 (.cells [.int .i64 fd.num,.int .i64 fd.wire,.int .u64 (fd.bits:Nat),.str fd.data])) g1 (XP (l.take i)++(Kf fd.num fd.wire).1);have w5:Wt (QG (fun i=>(fr i).scrub 5) 5 (.cells [.int .i64 fd.num,.int .i64 fd.wire,.int .u64 (fd.bits:Nat),.str fd.data])) g1 (XP (l.take i)++(Kf fd.num fd.wire).1) 5=.cells [.int .i64 fd.num,.int .i64 fd.wire,.int .u64 (fd.bits:Nat),.str fd.data]:=by
    rw[YX (by decide) (by decide),QU]
   have hlen2:(XP (l.take i)++(Kf fd.num fd.wire).1).length=(XP (l.take i)).length+(Kf fd.num fd.wire).1.length:=by simp
   generalize hfr2:Wt (QG (fun i=>(fr i).scrub 5) 5 (.cells [.int .i64 fd.num,.int .i64 fd.wire,.int .u64 (fd.bits:Nat),.str fd.data])) g1 (XP (l.take i)++(Kf fd.num fd.wire).1)=fr2 at B2 w5;simp only[w5,eE,seval];by_cases w2:fd.wire=2
   ·have dw:(fd.wire==2)=true:=by simpa using w2
    have hbo:body fd=fx 8 fd.bits:=by rw[hbody,QmD w2]
    simp only[dw,w5,eE,seval];refine aC (c84 fd.bits) ?_;obtain⟨g2,hw2⟩:=Ao _ (fx 8 fd.bits) _ [] B2 (by rw[hlen2];exact hbl _ (by rw[hbo];exact Qms _));refine Qg hw2 (by simp only[Qm3,h3,Qa,seval]) ?_;simp only[e1,h10,Qa,seval];refine fin _ _ _ ?_ ?_ ?_ ?_ ?_ (W8 _ _ _) ?_
    ·simp only[h3,Qa,seval]
    ·simp only[h8,Qa,seval]
    ·simp only[h9,Qa,seval]
    ·simp only[Qa,seval]
    ·rw[YX (by decide) (by decide),w5]<;>rfl
    ·rw[hp,hbo,QmQ]
   ·have dw:(fd.wire==2)=false:=by simpa using w2
    simp only[dw,w5,eE,seval];refine aC (c85 fd.wire) ?_;cases hnu:YK fd.wire with
    |true=>
     have hbo:body fd=Vp.put fd.bits:=by rw[hbody,QmC w2,QmD hnu]
     simp only[w5,eE,seval];refine aC (II fd.bits hb1) ?_;obtain⟨g2,hw2⟩:=Ao _ (Vp.put fd.bits) _ [] B2 (by rw[hlen2];exact hbl _ (by rw[hbo];exact Qms _));refine Qg hw2 (by simp only[Qm3,h3,Qa,seval]) ?_;simp only[e1,h10,Qa,seval];refine fin _ _ _ ?_ ?_ ?_ ?_ ?_ (W8 _ _ _) ?_
     ·simp only[h3,Qa,seval]
     ·simp only[h8,Qa,seval]
     ·simp only[h9,Qa,seval]
     ·simp only[Qa,seval]
     ·rw[YX (by decide) (by decide),w5]<;>rfl
     ·rw[hp,hbo,QmQ]
    |false=>
     have hbo:body fd=Vp.put fd.data.length++fd.data:=by rw[hbody,QmC w2,QmC (by rw[hnu];simp)]
     have hbn:=congrArg List.length hbo;rw[Qm9]at hbn;have eu:IntKind.u64.wrap (fd.data.length:Int)=(fd.data.length:Nat):=by rw[JR];omega
     simp only[eu,w5,eE,seval];refine aC (II fd.data.length (by omega)) ?_;obtain⟨g2,hw2⟩:=Ao _ (Vp.put fd.data.length) _ [] B2 (by rw[hlen2];exact hbl _ (by omega));refine Qg hw2 (by simp only[Qm3,h3,Qa,seval]) ?_;have B3:=W8 fr2 g2 (XP (l.take i)++(Kf fd.num fd.wire).1++Vp.put fd.data.length);have w6:Wt fr2 g2 (XP (l.take i)++(Kf fd.num fd.wire).1++Vp.put fd.data.length) 5=.cells [.int .i64 fd.num,.int .i64 fd.wire,.int .u64 (fd.bits:Nat),.str fd.data]:=by
      rw[YX (by decide) (by decide),w5]
     have hlen3:(XP (l.take i)++(Kf fd.num fd.wire).1++Vp.put fd.data.length).length=(XP (l.take i)).length+(Kf fd.num fd.wire).1.length+(Vp.put fd.data.length).length:=by simp;omega
     generalize hfr3:Wt fr2 g2 (XP (l.take i)++(Kf fd.num fd.wire).1++Vp.put fd.data.length)=fr3 at B3 w6;simp only[w6,eE,seval];obtain⟨g3,hw3⟩:=Ao _ fd.data _ [] B3 (by rw[hlen3];have:=hbl (body fd).length (Qms _);omega);refine Qg hw3 (by simp only[Qm3,h3,Qa,seval]) ?_;simp only[e1,h10,Qa,seval];refine fin _ _ _ ?_ ?_ ?_ ?_ ?_ (W8 _ _ _) ?_
     ·simp only[h3,Qa,seval]
     ·simp only[h8,Qa,seval]
     ·simp only[h9,Qa,seval]
     ·simp only[Qa,seval]
     ·rw[YX (by decide) (by decide),w6]<;>rfl
     ·rw[hp,hbo,QmQ,QmQ]
 ·have d0:decide ((i:Int)<(l.length:Int))=false:=by simp;omega
  have hil:i=l.length:=by omega
  subst hil;rw[Qn9]at hB;simp only[d0,Qa,seval];refine Qg (c87 (XP l) _ [] hB.drop hl) (by simp only[Qm3,h3,Qa,seval]) ?_;simp only[Qa,seval]

end Go.Proofs.YtkhpgmeokilhaaaGreatDoor.Va

namespace Go.Proofs.YtkhpgmeokilhaaaGreatDoor.Va
open Go Am Rc Bt Br Up So

def KX (n:Int)(x:V):R:={ ZV x.kd x.bits x.text with num:=n }
section
variable (bd:Int→V→List UInt8)
def X8 (o:PO)(n:Int)(x:V):R:=if o.kind=10 then⟨n,4,0,bd o.target x⟩else KX n x
def WN (o:PO)(p:V×V):R:=⟨o.num,6,0,XP [KX 1 p.1,X8 bd o 2 p.2]⟩
def C7 (w:Int)(b:Nat):List UInt8:=if w=2 then fx 8 b else Vp.put b
def Bn (w:Int)(x:V):List UInt8:=C7 w (ZV x.kd x.bits x.text).bits
def C8 (o:PO)(l:List V):R:=⟨o.num,5,0,UInt8.ofNat (wk o.kind).toNat :: l.flatMap (Bn (wk o.kind))⟩
def Bo (o:PO)(x:V):List R :=
 if o.card=5 then x.pairs.map (WN bd o)
 else if pk o.card o.kind=true then [C8 o x.list]
 else if o.card=4 then x.list.map (X8 bd o o.num)
 else [X8 bd o o.num x]
def Bp (g:PG)(s:Int×V):List R:=match Xq g s.1 with
 |none=>[]
 |some o=>Bo bd o s.2
def ZW (g:PG):List (Int×V)→List R→List R
 | [],rs=>rs
 |s :: sl,rs=>rs.takeWhile (fun r=>decide (r.num<s.1))++Bp bd g s++ZW g sl (rs.dropWhile fun r=>decide (r.num<s.1))
end
def Zv (P:PL):Nat→Int→V→List UInt8
 |0,_,_=>[]
 |n+1,t,v=>XP (ZW (Zv P n) (Qq P t) (Zb P (n+1) (Qq P t) v).slots (Zb P (n+1) (Qq P t) v).raws)

theorem QeR (n w:Int):(Kf n w).1.length≤10:=by
 unfold Kf;split
 ·exact QmE _
 ·exact(Vp.put_len _).2
theorem QeS (f:R):(Bm f).length≤20+f.data.length:=by
 unfold Bm;split
 ·have h1:=QeR f.num f.wire;have h2:(body f).length≤10+f.data.length:=by
   unfold body;split
   ·rw[FT];omega
   ·split
    ·have:=(Vp.put_len f.bits).2;omega
    ·have:=(Vp.put_len f.data.length).2;rw[Qm9];omega
  rw[Qm9];omega
 ·exact QmE _
def Ju (l:List R):Nat:=(l.map fun f=>20+f.data.length).sum
theorem Hr:∀l:List R,(XP l).length≤Ju l
 | []=>Qms _
 |f :: l=>by
  have h1:=QeS f;have h2:=Hr l;unfold XP Ju at h2 ⊢;rw[Qn0,Qm9,Qm3,QoJ];omega
theorem Ps (a b:List R):Ju (a++b)=Ju a+Ju b:=by
 unfold Ju;rw[Qoj,List.sum_append]
theorem Pt (f:R):Ju [f]=20+f.data.length:=by simp[Ju]
theorem Pu {P:PL}{k tg:Int}{v:V}(h:v.one P k tg=0):v.text.length≤4096:=by
 unfold V.one Ga at h;split at h
 ·omega
 split at h
 ·omega
 rename_i h1 h2;simp only[Qmz]at h2;omega
theorem Ap (k:Int)(b:Nat)(t:List UInt8):(ZV k b t).data.length≤t.length:=by
 unfold ZV zr
 repeat' split
 all_goals first|exact QmE _|exact Qms _
theorem C9 (n:Int)(v:V):(KX n v).data.length≤v.text.length:=Ap _ _ _

section
variable {P:PL}{m:PG→V→Int}{bd:Int→V→List UInt8}
variable (hbd:∀(t:Int) (v:V),(0≤t∧t<(P.progs.length:Int))→m (Qq P t) v=0→(bd t v).length+70000≤70000*v.cnt)
include hbd
theorem B4 {o:PO}(ho:UO P o){n:Int}{x:V}(h:Q5 m P o x=0):(X8 bd o n x).data.length+5000≤70000*x.cnt:=by
 have hc:=Zp x;unfold Q5 at h;unfold X8;split
 ·rename_i hk;rw[QmD hk]at h;have:=hbd _ _ (ho.tgt hk) h;dsimp only;omega
 ·rename_i hk;rw[QmC hk]at h;have h1:=Pu h;have h2:=C9 n x;omega
theorem Pv {o:PO}(ho:UO P o){p:V×V}(h1:p.1.one P o.key (-1)=0)(h2:Q5 m P o p.2=0):20+Ju [KX 1 p.1,X8 bd o 2 p.2]≤70000*(p.1.cnt+p.2.cnt):=by
 have h3:=B4 hbd ho (n:=2) h2;have h4:=Pu h1;have h5:=C9 1 p.1;have hc:=Zp p.1;have e:Ju [KX 1 p.1,X8 bd o 2 p.2]=(20+(KX 1 p.1).data.length)+(20+(X8 bd o 2 p.2).data.length):=by simp[Ju]
 omega
theorem ET {o:PO}(ho:UO P o){p:V×V}(h1:p.1.one P o.key (-1)=0)(h2:Q5 m P o p.2=0):20+(WN bd o p).data.length≤70000*(p.1.cnt+p.2.cnt):=by
 have h3:=Pv hbd ho h1 h2;have h6:=Hr [KX 1 p.1,X8 bd o 2 p.2];unfold WN;dsimp only;omega
omit hbd in
theorem Pw (w:Int)(x:V):(Bn w x).length≤10:=by
 unfold Bn C7;split
 ·rw[FT];omega
 ·exact(Vp.put_len _).2
omit hbd in
theorem B5 (w:Int):∀l:List V,(l.flatMap (Bn w)).length≤10*l.length
 | []=>Qms _
 |x :: l=>by
  have h1:=Pw w x;have h2:=B5 w l;rw[Qn0,Qm9,QmK];omega
theorem QbE {o:PO}(ho:UO P o){x:V}(h:XX m P o x=0):Ju (Bo bd o x)≤70000*x.cnt:=by
 have hc:=Q1 x;have hp:=Zp x;unfold XX at h;unfold Bo;by_cases h5:o.card=5
 ·rw[QmD h5]at h;rw[QmD h5];split at h
  ·omega
  have hE:=(Yz.1 h).1;have key:∀l:List (V×V),(∀p∈l,p.1.one P o.key (-1)=0∧Q5 m P o p.2=0)→Ju (l.map (WN bd o))≤70000*Xi l:=by
   intro l
   induction l with
   |nil=>intro _;exact QmE _
   |cons p l ih=>
    intro hl;have i1:=ih fun q hq=>hl q (by simp[hq])
    obtain⟨a,b⟩:=hl p (by simp);have i2:=ET hbd ho a b;obtain⟨pa,pb⟩:=p;unfold Ju at i1 ⊢;simp only[Qm3,QoJ,Xi];dsimp only at i2;omega
  have:=key _ hE;omega
 ·rw[QmC h5]at h;rw[QmC h5];split
  ·have h1:=B5 (wk o.kind) x.list;have h2:=DT x.list;rw[Pt];unfold C8;simp only[QmK];omega
  ·by_cases h4:o.card=4
   ·rw[QmD h4]at h;rw[QmD h4];split at h
    ·omega
    have hL:=YA.1 h;have key:∀l:List V,(∀y∈l,Q5 m P o y=0)→Ju (l.map (X8 bd o o.num))≤70000*Q9 l:=by
     intro l
     induction l with
     |nil=>intro _;exact QmE _
     |cons y l ih=>
      intro hl;have i1:=ih fun q hq=>hl q (by simp[hq])
      have i2:=B4 hbd ho (n:=o.num) (hl y (by simp));unfold Ju at i1 ⊢;simp only[Qm3,QoJ,Q9];omega
    have:=key _ hL;omega
   ·rw[QmC h4]at h;rw[QmC h4,Pt];have:=B4 hbd ho (n:=o.num) h;omega
omit hbd in
theorem Ma {g:PG}{f:R}(h:Wi P g f=0):f.data.length≤65536:=by
 unfold Wi at h;split at h
 ·omega
 split at h
 ·omega
 split at h
 ·omega
 split at h
 ·omega
 rename_i h4;simp only[Qmy,Qmz,not_or]at h4;omega
theorem DZ {g:PG}:∀(sl:List (Int×V)) (rs:List R),(∀x∈sl,∃o,Xq g x.1=some o∧UO P o∧XX m P o x.2=0)→(∀f∈rs,Wi P g f=0)→Ju (ZW bd g sl rs)≤70000*(rs.length+Xg sl)
 | [],rs,_,hr=>by
  unfold ZW;have:∀l:List R,(∀f∈l,Wi P g f=0)→Ju l≤70000*l.length:=by
   intro l
   induction l with
   |nil=>intro _;exact QmE _
   |cons f l ih=>
    intro hl;have i1:=ih fun q hq=>hl q (by simp[hq])
    have i2:=Ma (hl f (by simp));unfold Ju at i1 ⊢;simp only[Qm3,QoJ,QmK];omega
  have:=this rs hr;omega
 |s :: sl,rs,hs,hr=>by
  obtain⟨o,h1,ho,h2⟩:=hs s (by simp);have h3:=QbE hbd ho h2;have ih:=DZ sl (rs.dropWhile fun r=>decide (r.num<s.1)) (fun x hx=>hs x (by simp[hx])) (fun f hf=>hr f ((List.dropWhile_sublist _).mem hf));have h4:∀l:List R,(∀f∈l,Wi P g f=0)→Ju l≤70000*l.length:=by
   intro l
   induction l with
   |nil=>intro _;exact QmE _
   |cons f l ih=>
    intro hl;have i1:=ih fun q hq=>hl q (by simp[hq])
    have i2:=Ma (hl f (by simp));unfold Ju at i1 ⊢;simp only[Qm3,QoJ,QmK];omega
  have h5:=h4 (rs.takeWhile fun r=>decide (r.num<s.1)) (fun f hf=>hr f ((List.takeWhile_sublist _).mem hf));have h6:(rs.takeWhile fun r=>decide (r.num<s.1)).length+(rs.dropWhile fun r=>decide (r.num<s.1)).length=rs.length:=by
   rw[←Qm9,List.takeWhile_append_dropWhile]
  obtain⟨sn,sx⟩:=s;rw[ZW,Ps,Ps];unfold Bp;rw[h1];simp only[Xg];dsimp only at h3 h5 h6 ih ⊢;omega
end

theorem Px {P:PL}(hU:Kt P)(hr:ZG P):∀(n:Nat) (t:Int) (v:V),(0≤t∧t<(P.progs.length:Int))→Za P n (Qq P t) v=0→(Zv P n t v).length+70000≤70000*v.cnt
 |0,t,v,_,h=>(FS 0 _ _ h).elim
 |n+1,t,v,ht,h=>by
  have hg:Qq P t∈P.progs:=by
   unfold Qq;rw[Qmv (by omega:t.toNat<P.progs.length)];exact Qnn _
  have hf:=YN hU hr (n+1) (Qq P t) hg v h;have hc:=Yy hr (n+1) (Qq P t) (W4 hr t) v;rw[Zv];generalize Zb P (n+1) (Qq P t) v=w at hf hc;obtain⟨_,⟨s1,_,_⟩,_,s4⟩:=WJ.1 hf;have h1:=Hr (ZW (Zv P n) (Qq P t) w.slots w.raws);have h2:=Q1 w;have h3:=DZ (m:=Za P n) (bd:=Zv P n) (fun t v ht hm=>Px hU hr n t v ht hm) w.slots w.raws (fun x hx=>by
   obtain⟨o,ho,hx⟩:=s1 x hx;exact⟨o,ho,hU _ hg o (KT ho).1,hx⟩) s4
  omega

def Wd (P:PL)(m:PG→V→Int)(g:PG)(s:Int×V):Prop:=∃o,Xq g s.1=some o∧XX m P o s.2=0∧(o.card<3∨s.2.emp=false)
theorem QeT {P:PL}(hU:Kt P)(hr:ZG P){n:Nat}{g:PG}(hg:g∈P.progs){v:V}(h:Za P (n+1) g v=0):∀s∈(Zb P (n+1) g v).slots,Wd P (Za P n) g s:=by
 have hf:=YN hU hr (n+1) g hg v h;obtain⟨_,⟨s1,_,_⟩,_,_⟩:=WJ.1 hf;intro s hs;obtain⟨o,ho,hx⟩:=s1 s hs;refine⟨o,ho,hx,?_⟩;have hs':s∈g.ops.flatMap (Xj (Zb P n) P v.slots):=hs;obtain⟨q,hq,hsq⟩:=Qnh.1 hs';unfold Xj at hsq;split at hsq
 ·cases hsq
 ·split at hsq
  ·rename_i hc;rw[QoG]at hsq;subst hsq;have e:Xq g q.num=some q:=X5 (hr g hg) hq;rw[e]at ho;cases ho;simp only[Qmy,Qmz,Qnt]at hc;exact hc
  ·cases hsq

theorem EU {c k:Int}(h:pk c k=true):c=4∧(k=1∨k=2∨k=3∨k=4∨k=5∨k=6∨k=9):=by
 unfold pk at h;simp only[QmT,Qmy,Qmz,QmA]at h;omega
theorem Qgw {c k:Int}(h:pk c k=true):wk k=0∨wk k=1∨wk k=2:=by
 obtain⟨_,h⟩:=EU h;rcases h with rfl|rfl|rfl|rfl|rfl|rfl|rfl<;>decide
theorem NO {k:Int}{b:Nat}(hb:b<18446744073709551616)(t:List UInt8):(ZV k b t).bits<18446744073709551616:=by
 unfold ZV;split
 ·exact hb
 split
 ·have h1:=Qem (IntKind.i64.wrap (b:Int)) (by rw[QC];omega) (by rw[QC];omega);have h2:=FU (IntKind.i64.wrap (b:Int));show(Gj _).toNat<_;omega
 split
 ·show XB k b<_;unfold XB;split
  ·decide
  ·exact hb
 split
 ·exact(by decide:(0:Nat)<18446744073709551616)
 ·exact(by decide:(0:Nat)<18446744073709551616)
theorem okb {M:Nat}{v:V}(hv:v.ok M):v.bits<18446744073709551616:=by
 have:=VA hv.bits;omega
def Rb (f:R):Prop:=f.bits<18446744073709551616
theorem Aq {M:Nat}{v:V}(hv:v.ok M)(n:Int):Rb (KX n v):=NO (okb hv) _
theorem Mb {M:Nat}{v:V}(hv:v.ok M)(bd:Int→V→List UInt8)(o:PO)(n:Int):Rb (X8 bd o n v):=by
 unfold X8;split
 ·exact(by decide:(0:Nat)<18446744073709551616)
 ·exact Aq hv n
theorem QeV {M:Nat}{v:V}(hv:v.ok M)(bd:Int→V→List UInt8)(o:PO):∀f∈Bo bd o v,Rb f:=by
 have z:(0:Nat)<18446744073709551616:=by decide
 unfold Bo;split
 ·intro f hf;obtain⟨p,_,rfl⟩:=QnQ.1 hf;exact z
 split
 ·intro f hf;rw[QoG]at hf;subst hf;exact z
 split
 ·intro f hf;obtain⟨y,hy,rfl⟩:=QnQ.1 hf;exact Mb (hv.list y hy) _ _ _
 ·intro f hf;rw[QoG]at hf;subst hf;exact Mb hv _ _ _
theorem Py {M:Nat}(bd:Int→V→List UInt8)(g:PG):∀(sl:List (Int×V)) (rs:List R),(∀s∈sl,s.2.ok M)→(∀f∈rs,Rb f)→∀f∈ZW bd g sl rs,Rb f
 | [],_,_,hr,f,hf=>hr f hf
 |s :: sl,rs,hs,hr,f,hf=>by
  rw[ZW,QnP,QnP]at hf;rcases hf with(hf|hf)|hf
  ·exact hr f ((List.takeWhile_sublist _).mem hf)
  ·unfold Bp at hf;split at hf
   ·cases hf
   ·exact QeV (hs s (by simp)) bd _ f hf
  ·exact Py bd g sl _ (fun x hx=>hs x (by simp[hx])) (fun f hf=>hr f ((List.dropWhile_sublist _).mem hf)) f hf
theorem B6:∀l:List R,20*l.length≤Ju l
 | []=>QmE _
 |f :: l=>by
  have:=B6 l;unfold Ju at this ⊢;simp only[Qm3,QoJ,QmK];omega
theorem QbF {l:List R}{f:R}(h:f∈l):f.data.length≤Ju l:=by
 induction l with
 |nil=>cases h
 |cons x l ih=>
  unfold Ju at ih ⊢;simp only[Qm3,QoJ];rcases QnS.1 h with rfl|h
  ·omega
  ·have:=ih h;omega
theorem Mc {l:List R}(hb:∀f∈l,Rb f)(hw:Ju l≤140737488355328):(∀fd∈l,fd.bits<18446744073709551616∧fd.data.length<9223372036854775807)∧l.length<9223372036854775807∧(XP l).length≤140737488355328:=by
 have h1:=B6 l;have h2:=Hr l;exact⟨fun fd hf=>⟨hb fd hf,by have:=QbF hf;omega⟩,by omega,by omega⟩

end Go.Proofs.YtkhpgmeokilhaaaGreatDoor.Va

namespace Go.Proofs.YtkhpgmeokilhaaaGreatDoor.Va
open Go Am Rc Bt Br

theorem EV {B:List Bool}{i:Nat}(h:i<B.length)(v:Bool):((B.set i v).take (i+1)).all id=((B.take i).all id&&v):=by
 have h1:(B.set i v)[i]? = some v:=List.getElem?_set_self h;rw[U7 h1,List.take_set_of_le (Qms _)];rfl
theorem z34 {M:Nat}(P:PL)(hP:P.ok M)(hl:P.progs.length≤64)(hT:Tgt P):Qi Tryz.prog 34 [P.av] (.bool (fin P)):=by
 have hmx:P.progs.length≤maxLen:=by simp only[maxLen];omega
 have hz:Zx 1 [AV.bool false]=.bool false:=rfl;have hr0:(List.replicate P.progs.length (AV.bool false))=(its P.progs 0).map AV.bool:=by simp[its]
 let A:Nat→Bool:=fun c=>if c=0 then(P.progs.length:Int)==0 else(its P.progs c).all id
 have hA:A P.progs.length=fin P:=by
  show(if P.progs.length=0 then(P.progs.length:Int)==0 else(its P.progs P.progs.length).all id)=(its P.progs P.progs.length).all id;split
  ·rename_i h;rw[h];simp[its,h]
  ·rfl
 refine wF Tryz.func34 ?_;simp only[eK,Tryz.f34,seval];simp only[H6,Qnq,eE,seval];refine GD (n:=P.progs.length) (k:=P.progs.length) rfl rfl (Qms _) (by omega) (by omega) rfl ?_;simp only[hz,hr0,Qnq,eE,seval];refine UB (X:=Nat) (fun c=>[(1,.ptr 0 1 0),(3,.vec 0 12 1 0 P.progs.length false),(4,.bool (A c)),(19,.int .i64 (P.progs.length:Nat)),(20,.int .i64 (c:Nat))]) (fun c=>[(1,.cells (Pc P)),(12,.vec 1 1 ((its P.progs c).map AV.bool))]) [8] (fun c=>P.progs.length-c) (fun c=>c≤P.progs.length) (fun _=>[]) 0 (QmE _) ?_;rintro c f fr hc;simp only[Xp,Qm3,Qnx,QmR,QmS,Qa,seval];by_cases hcl:c<P.progs.length
 case neg=>
  rw[show c=P.progs.length by omega,hA];simp only[QI (show ¬P.progs.length<P.progs.length by omega),Qa,seval]
 have ec:=Qw c _ hcl hmx;simp only[QD hcl,Qa,seval];refine UB (X:=Nat) (fun i=>[(1,.ptr 0 1 0),(3,.vec 0 12 1 0 P.progs.length false),(4,.bool (((JJ P.progs (its P.progs c) i).take i).all id)),(5,.int .i64 (i:Nat)),(19,.int .i64 (P.progs.length:Nat)),(20,.int .i64 (c:Nat))]) (fun i=>[(1,.cells (Pc P)),(12,.vec 1 1 ((JJ P.progs (its P.progs c) i).map AV.bool))]) [8] (fun i=>P.progs.length-i) (fun i=>i≤P.progs.length) (fun _=>[]) 0 (QmE _) ?_;rintro i f fr hi;have hBl:(JJ P.progs (its P.progs c) i).length=P.progs.length:=by rw[GK,GL]
 simp only[Pc,Qnq,Xp,Qm3,Qnx,QmR,QmS,eE,seval];rcases Xy P.progs i with⟨g,hg,hlt⟩|hlt
 case inr=>
  have hii:i=P.progs.length:=by omega
  have hAc:((JJ P.progs (its P.progs c) i).take i).all id=A (c+1):=by
   rw[Qm5 (by omega),hii];exact(QmC (Nat.succ_ne_zero c)).symm
  simp only[QI hlt,hAc,ec,Qa,seval];exact Ix.go (c+1) (by omega) (by omega) (ho:=by rw[hii];rfl)
 have e1:=Qw i _ hlt hmx;have hst:JJ P.progs (its P.progs c) (i+1)=(JJ P.progs (its P.progs c) i).set i (!g.ops.any (ZA (JJ P.progs (its P.progs c) i))):=by
  rw[JJ]
  conv=>lhs;unfold H4
  rw[hg]
 have htk:=EV (B:=JJ P.progs (its P.progs c) i) (i:=i) (by omega) (!g.ops.any (ZA (JJ P.progs (its P.progs c) i)));rw[←hst]at htk;have hgp:=Q4 Qm hg;have hgo:=hP.progs g (QmJ hg);rw[HZ]at hgp;generalize hBB:JJ P.progs (its P.progs c) i=B at *;simp only[QD hlt,Qa,seval];refine UB (X:=Nat) (fun j=>[(1,.ptr 0 1 0),(3,.vec 0 12 1 0 P.progs.length false),(4,.bool ((B.take i).all id)),(5,.int .i64 (i:Nat)),(6,.bool (!(g.ops.take j).any (ZA B))),(7,.int .i64 (j:Nat)),(19,.int .i64 (P.progs.length:Nat)),(20,.int .i64 (c:Nat))]) (fun _=>[(1,.cells (Pc P)),(12,.vec 1 1 (B.map AV.bool))]) [8] (fun j=>g.ops.length-j) (fun j=>j≤g.ops.length) (fun _=>[]) 0 (QmE _) ?_;rintro j f fr hj;simp only[Pc,Qv,QnY,Qf,hgp,Qnq,Xp,Qm3,Qnx,QmR,QmS,eE,seval];rcases Xy g.ops j with⟨o,ho,hlj⟩|hlj
 case inr=>
  rw[Qm5 (by omega:g.ops.length≤j)];generalize hv:(!g.ops.any (ZA B))=v at *;obtain⟨y,hy⟩:∃y,B[i]? = some y:=⟨B[i]'(by omega),Qmv (by omega)⟩;have hym:(B.map AV.bool)[i]? = some (.bool y):=by simp[hy]
  have hset:(B.map AV.bool).set i (.bool v)=(JJ P.progs (its P.progs c) (i+1)).map AV.bool:=by rw[hst,List.map_set]
  cases hal:(B.take i).all id <;>
  ·rw[hal]at htk;simp only[Qoc,Qn1]at htk;simp only[QI hlj,AV.rfL,AV.rf,Bool.and_self,Qv,QnY,Qf,Xa,Jd,Am.Qc,hlt,hym,hset,e1,and_self,QmU,cond_true,cond_false,eE,seval];exact Ix.go (i+1) (by omega) (by omega) (hf:=by rw[htk];rfl)
 have hgj:=Q4 Qz ho;have e2:=Qw j _ hlj hgo.len;have htg:=hT g (QmJ hg) o (QmJ ho);have ht:=VX (q:=ZA B) ho;rw[H1]at hgj;have fin2:∀v:Bool,(!(g.ops.take j).any (ZA B) && !ZA B o)=v→(!(g.ops.take (j+1)).any (ZA B))=v:=fun v h=>by rw[ht,Bool.not_or,h]
 simp only[QD hlj,Qv,QnY,Qf,hgp,hgj,eE,seval];cases hb : !(g.ops.take j).any (ZA B)
 ·simp only[e2,cond_true,cond_false,Qa,seval];exact Ix.go (j+1) (by omega) (by omega) (hf:=by rw[fin2 false (by rw[hb];rfl)];rfl)
 cases c1:(o.card != 1)
 case true=>
  simp only[c1,e2,cond_true,cond_false,eE,seval];exact Ix.go (j+1) (by omega) (by omega) (hf:=by rw[fin2 true (by rw[hb];unfold ZA;rw[show(o.card==1)=false by simpa [bne]using c1];rfl)];rfl)
 cases c2:(o.kind != 10)
 case true=>
  simp only[c1,c2,e2,cond_true,cond_false,eE,seval];exact Ix.go (j+1) (by omega) (by omega) (hf:=by rw[fin2 true (by rw[hb];unfold ZA;rw[show(o.kind==10)=false by simpa [bne]using c2,Qoe];rfl)];rfl)
 have k1:(o.card==1)=true:=by simpa [bne]using c1
 have k2:(o.kind==10)=true:=by simpa [bne]using c2
 obtain⟨t1,t2⟩:=htg (by simpa using k2);obtain⟨t,hte⟩:=Qof t1;obtain⟨y,hy⟩:∃y,B[t]? = some y:=⟨B[t]'(by omega),Qmv (by omega)⟩;have hym:(B.map AV.bool)[t]? = some (.bool y):=by simp[hy]
 have hlt2:t<P.progs.length:=by omega
 simp only[c1,c2,hte,Qv,QnY,Qf,Xf,Am.Qc,hym,hlt2,and_self,QmU,e2,cond_true,cond_false,eE,seval];exact Ix.go (j+1) (by omega) (by omega) (hf:=by rw[fin2 y (by rw[hb];unfold ZA;rw[k1,k2,hte,QnY,hy];cases y<;>rfl)];rfl)

theorem z13 {M:Nat}(P:PL)(hP:P.ok M)(hM:M≤140737488351232):Qi Tryz.prog 13 [P.av] (.int .i64 (ck P)):=by
 have e0:P.av=.agg [.list (P.progs.map Qm),.list (P.enums.map QE)]:=rfl;have c1:=z28 P hP;have c2:=z29 P hP;have c3:=z30 P hP;have c4:=z31 P hP;have c5:=z32 P hP;refine wF Tryz.func13 ?_;simp only[eK,Tryz.f13,seval];simp only[e0,ck,eE,seval];refine aC c1 ?_;cases hl:Dh P
 ·simp only[QnE,Qa,seval]
 obtain⟨l1,l2,l3,l4⟩:=H5 hl;have c6:=z33 hM P hP l3;simp only[Qod,QoB,eE,seval];refine aC c2 ?_;cases FI P
 ·simp only[QnE,Qa,seval]
 simp only[Qod,QoB,eE,seval];refine aC c3 ?_;cases HX P
 ·simp only[QnE,Qa,seval]
 simp only[Qod,QoB,eE,seval];refine aC c4 ?_;cases VY P
 ·simp only[QnE,Qa,seval]
 simp only[Qod,QoB,eE,seval];refine aC c5 ?_;cases VZ P
 ·simp only[QnE,Qa,seval]
 simp only[Qod,QoB,eE,seval];refine aC c6 ?_;cases ha:args P
 ·simp only[QnE,Qa,seval]
 have c7:=z34 P hP l1 (V8 ha);simp only[Qod,QoB,eE,seval];refine aC c7 ?_;cases fin P
 ·simp only[QnE,Qa,seval]
 ·simp only[Qod,QoB,Qa,seval]

open Up

section
variable {M:Nat}{P:PL}(hP:P.ok M)(hM:M≤140737488351232){m:PG→V→Int}{lv:Int}(g:PG)(hg:g.ok M)(v:V)(hv:v.ok M)

def SwI (P:PL)(g:PG)(v:V)(k:Nat)(st:St):Prop :=
 ∃f fr i,st=⟨f,[fr],[]⟩∧k=v.raws.length-i∧Zi (Wj P g v.raws) v.raws.length 0=Zi (Wj P g v.raws) (v.raws.length-i) i∧f 4=.ptr 0 4 0∧f 6=.ptr 0 6 0∧f 9=.ptr 0 9 0∧f 16=.int .i64 (i:Nat)∧fr 4=.cells [.list (P.progs.map Qm),.list (P.enums.map QE)]∧fr 6=.cells (vc v)∧fr 9=.cells g.cells∧∀s∈[17],(fr s).isRow=false

end

def Z6 (P:PL)(t:Int)(v:V):Int :=
 if t<0∨t≥(P.progs.length:Int)then 10 else if Za P 16 (Qq P t) v=0 then(if IntKind.i64.wrap (v.cnt:Int) > 4096 then 3 else 0)else Za P 16 (Qq P t) v

section
variable {M:Nat}{P:PL}(hP:P.ok M)(hM:M≤140737488351232)(hU:Kt P)(t:Int)(v:V)(hv:v.ok M)

include hP hU hv in
theorem v19:Qi Tryz.prog 19 [P.av,.int .i64 t,v.av] (.int .i64 (Z6 P t v)):=by
 have e0:P.av=.agg [.list (P.progs.map Qm),.list (P.enums.map QE)]:=rfl;rw[Qe];refine wF Tryz.func19 ?_;simp only[eK,Tryz.f19,seval];simp only[e0,eE,seval];unfold Z6;by_cases t0:t<0
 ·have d0:decide (t<0)=true:=Qou t0;rw[QmD (.inl t0)];simp only[d0,Qa,seval]
 have d0:decide (t<0)=false:=Qoo t0;by_cases t1:t≥(P.progs.length:Int)
 ·have d1:decide (t≥(P.progs.length:Int))=true:=Qou t1;rw[QmD (.inr t1)];simp only[d0,d1,Qnq,eE,seval]
 have d1:decide (t≥(P.progs.length:Int))=false:=Qoo t1;rw[QmC (by omega)];obtain⟨i,hi⟩:=Qof (by omega:0≤t);subst hi;have hlt:i<P.progs.length:=by omega
 obtain⟨g,hg⟩:∃g,P.progs[i]? = some g:=⟨P.progs[i],Qmv hlt⟩;have hga:(P.progs.map Qm)[i]? = some (.agg g.cells):=by simp[hg,Qm]
 have hq:Qq P (i:Int)=g:=by unfold Qq;rw[QnY,hg];rfl
 have c1:=v38 hP hU 16 (Qms _) g (QmJ hg) v hv;have e16:(17:Int)-((16:Nat):Int)=1:=rfl;have ht:=Eb (P:=P) 16 g v hv;rw[e16,e0,Qe]at c1;simp only[Qm,PG.cells]at c1;simp only[PG.cells]at hga;rw[hq];simp only[d0,d1,Qv,QnY,Qf,hga,Qnq,Qm4,QnF,Qm7,Qnd,splice,eE,seval];refine aC c1 ?_;by_cases hz:Za P 16 g v=0
 ·have c2:=v39 v (ht hz);rw[Qe]at c2;have b0:((0:Int) != 0)=false:=rfl;rw[QmD hz];simp only[hz,b0,eE,seval];refine aC c2 ?_;by_cases hc:IntKind.i64.wrap (v.cnt:Int) > 4096
  ·have d2:decide (IntKind.i64.wrap (v.cnt:Int) > 4096)=true:=Qou hc;rw[QmD hc];simp only[d2,Qa,seval]
  ·have d2:decide (IntKind.i64.wrap (v.cnt:Int) > 4096)=false:=Qoo hc;rw[QmC hc];simp only[d2,Qa,seval]
 ·have b1:(Za P 16 g v != 0)=true:=by simp[hz]
  rw[QmC hz];simp only[b1,Qa,seval]

end
end Go.Proofs.YtkhpgmeokilhaaaGreatDoor.Va

namespace Go.Proofs.YtkhpgmeokilhaaaGreatDoor.Va
open Go Am Rc Bt Br

open Up So

open Vp Cp

theorem QeW (x:V):KX 0 x=ZV x.kd x.bits x.text:=by
 unfold KX ZV zr
 repeat' split
 all_goals rfl
theorem B7 (bd:Int→V→List UInt8)(o:PO)(n:Int)(x:V):({ X8 bd o 0 x with num:=n }:R)=X8 bd o n x:=by
 unfold X8;split
 ·rfl
 ·rfl
theorem QeX {α:Type}(l:List α)(F:α→R):(l.map fun x=>(F x).av)=(l.map F).map R.av:=by rw[Qom];rfl
theorem Yt {fr:Nat→Ob}{a:Nat}(h1:(fr a).isRow=false):∀s∈[a],(fr s).isRow=false:=by
 intro s hs;simp only[QnS,QoF,or_false]at hs;subst hs;exact h1

theorem R7 (n:Int)(f:R):Qi Tryz.prog 230 [.int .i64 n,f.av] ({ f with num:=n }:R).av:=by
 refine wF Tryz.func230 ?_;simp only[eK,Tryz.f230,seval];simp only[R.av,eE,seval]

theorem EX {M:Nat}{v:V}(hv:v.ok M):Qi Tryz.prog 231 [v.av] (KX 0 v).av:=by
 rw[QeW,Qe];exact Qkz v.kd v.bits (okb hv) v.text _ _ _ _

section
variable {M:Nat}{P:PL}{m:PG→V→Int}{bd:Int→V→List UInt8}(o:PO)(ho:UO P o)

include ho in
theorem QkB (hb:∀(t:Int) (g:PG),P.progs[t.toNat]? = some g→0≤t→∀v:V,v.ok M→v.cnt≤1048576→m g v=0→Qi Tryz.prog 20 [P.av,.int .i64 t,v.av] (.str (bd t v)))(x:V)(hx:x.ok M)(hc:x.cnt≤1048576)(he:Q5 m P o x=0) :
  Qi Tryz.prog 232 [P.av,Qz o,x.av] (X8 bd o 0 x).av:=by
 have e0:P.av=.agg [.list (P.progs.map Qm),.list (P.enums.map QE)]:=rfl;unfold X8;by_cases hk:o.kind=10
 ·have b:(o.kind==10)=true:=by simp[hk]
  rw[QmD hk];unfold Q5 at he;rw[QmD hk]at he;obtain⟨t0,t1⟩:=ho.tgt hk;obtain⟨g,hg⟩:∃g,P.progs[o.target.toNat]? = some g:=⟨P.progs[o.target.toNat]'(by omega),Qmv (by omega)⟩;have hq:Qq P o.target=g:=by unfold Qq;rw[hg];rfl
  rw[hq]at he;have h2:=hb o.target g hg t0 x hx hc he;rw[e0,Qe]at h2;rw[Qe];refine wF Tryz.func232 ?_;simp only[eK,Tryz.f232,seval];simp only[e0,Qz,PO.cells,b,R.av,eE,seval];refine aC h2 ?_;simp only[eE,seval]
 ·have b:(o.kind==10)=false:=by simp[hk]
  rw[QmC hk];have h1:=EX hx;generalize KX 0 x=z at h1 ⊢;rw[Qe]at h1;rw[Qe];simp only[R.av]at h1;refine wF Tryz.func232 ?_;simp only[eK,Tryz.f232,seval];simp only[e0,Qz,PO.cells,b,R.av,eE,seval];refine aC h1 ?_;simp only[eE,seval]

def QkC (P:PL)(o:PO)(l:List V)(F:V→R)(k:Nat)(st:St):Prop :=
 ∃f fr i g,st=⟨f,[fr],[]⟩∧k=l.length-i∧i≤l.length∧f 3=.ptr 0 3 0∧f 4=.ptr 0 4 0∧f 7=.vec 0 7 g 0 i false∧f 11=.list (l.map V.av)∧f 12=.int .i64 (l.length:Nat)∧f 13=.int .i64 (i:Nat)∧fr 3=.cells [.list (P.progs.map Qm),.list (P.enums.map QE)]∧fr 4=.cells o.cells∧fr 7=.vec g 4 ((l.take i).map fun x=>(F x).av)∧∀s∈[9],(fr s).isRow=false

def QkD (P:PL)(o:PO)(l:List (V×V))(F:V×V→R)(k:Nat)(st:St):Prop :=
 ∃f fr i g,st=⟨f,[fr],[]⟩∧k=l.length-i∧i≤l.length∧f 3=.ptr 0 3 0∧f 4=.ptr 0 4 0∧f 7=.vec 0 7 g 0 i false∧f 12=.list (l.map V.pav)∧f 13=.int .i64 (l.length:Nat)∧f 14=.int .i64 (i:Nat)∧fr 3=.cells [.list (P.progs.map Qm),.list (P.enums.map QE)]∧fr 4=.cells o.cells∧fr 7=.vec g 4 ((l.take i).map fun x=>(F x).av)∧∀s∈[9],(fr s).isRow=false

theorem QkE (hel:∀x:V,x.ok M→x.cnt≤1048576→Q5 m P o x=0→Qi Tryz.prog 232 [P.av,Qz o,x.av] (X8 bd o 0 x).av)(v:V)(hv:v.ok M)(hc:v.cnt≤1048576)(hL:∀x∈v.list,Q5 m P o x=0) :
  Qi Tryz.prog 173 [P.av,Qz o,v.av] (.list ((v.list.map (X8 bd o o.num)).map R.av)):=by
 have e0:P.av=.agg [.list (P.progs.map Qm),.list (P.enums.map QE)]:=rfl;have hlen:=Jx v;rw[Qe v];refine wF Tryz.func173 ?_;simp only[eK,Tryz.f173,seval];simp only[e0,Qz,PO.cells,eE,seval];refine Zo rfl rfl ?_;simp only[Qnq,eE,seval];refine Qk (QkC P o v.list (X8 bd o o.num)) _ ⟨_,_,0,_,rfl,rfl,QmE _,(by rfl),(by rfl),(by rfl),(by rfl),(by rfl),(by rfl),(by rfl),(by rfl),(by rfl),Yt rfl⟩ ?_;rintro _ st ⟨f0,fr0,i,g,rfl,rfl,hil,h30,h40,h70,h110,h120,h130,m30,m40,mR0,r9⟩;refine QL (a:=_) [9] r9 ?_;intro f fr hf hm hn9;have h3:f 3=.ptr 0 3 0:=by rw[hf,h30]<;>rfl
 have h4:f 4=.ptr 0 4 0:=by rw[hf,h40]<;>rfl
 have h7:f 7=.vec 0 7 g 0 i false:=by rw[hf,h70]<;>rfl
 have h11:f 11=.list (v.list.map V.av):=by rw[hf,h110]<;>rfl
 have h12:f 12=.int .i64 (v.list.length:Nat):=by rw[hf,h120]<;>rfl
 have h13:f 13=.int .i64 (i:Nat):=by rw[hf,h130]<;>rfl
 have m3:fr 3=.cells [.list (P.progs.map Qm),.list (P.enums.map QE)]:=by rw[hm 3 (by decide),m30]<;>rfl
 have m4':fr 4=.cells o.cells:=by rw[hm 4 (by decide),m40]<;>rfl
 have mR:fr 7=.vec g 4 ((v.list.take i).map fun x=>(X8 bd o o.num x).av):=by rw[hm 7 (by decide),mR0]<;>rfl
 have n9:=hn9 9 (by decide);clear hf hm hn9 h30 h40 h70 h110 h120 h130 m30 m40 mR0 r9;have m4:=m4';simp only[PO.cells]at m4;simp only[h12,h13,Qa,seval];by_cases hlt:i<v.list.length
 ·obtain⟨x,hi⟩:∃x,v.list[i]? = some x:=⟨v.list[i],Qmv hlt⟩;have hx:=QmJ hi;have hg:=He hi;have e1:=Qw i _ hlt (by simp only[maxLen];omega);have c1:=hel x (hv.list x hx) (Qmt (CM hx) hc) (hL x hx);have c2:=R7 o.num (X8 bd o 0 x);rw[B7]at c2;have hti:((v.list.take i).map fun x=>(X8 bd o o.num x).av).length=i:=by rw[Qnq,Qns];omega
  have hts:(v.list.take (i+1)).map (fun x=>(X8 bd o o.num x).av)=(v.list.take i).map (fun x=>(X8 bd o o.num x).av)++[(X8 bd o o.num x).av]:=by rw[Qok,hi];simp
  generalize X8 bd o 0 x=y at c1 c2;generalize X8 bd o o.num x=z at c2 hts;rw[e0,Qe x]at c1;simp only[Qz,PO.cells,R.av]at c1 c2;simp only[QD hlt,Qv,QnY,Qf,hg,n9,h3,h4,h7,h11,h13,m3,m4,eE,seval];refine aC c1 ?_;refine aC c2 ?_;refine QS (l:=[z.av]) rfl rfl rfl rfl ?_;refine QN (site:=7) (g:=g) (n:=i) (xs:=(v.list.take i).map fun x=>(X8 bd o o.num x).av) (ys:=[z.av]) (by rfl) (by exact mR) rfl hti.symm rfl (Hm [z]) (by simp only[QmK,Qnr,maxLen];omega) (by simp only[QmK,Qnr];omega) ?_;simp only[h13,e1,Qa,seval];exact⟨v.list.length-(i+1),by omega,_,_,i+1,g+1,rfl,rfl,by omega,(by exact h3),(by exact h4),(by rfl),(by exact h11),(by exact h12),(by rfl),(by exact m3),(by exact m4'),(by rw[hts];exact(by rfl)),Yt rfl⟩
 ·have e:i=v.list.length:=by omega
  subst e;rw[Qn9,QeX]at mR;simp only[QI hlt,h7,mR,eE,seval];simp[AV.un,Zr,XE,Qm5]

include ho in
theorem QkF (hbd:∀(t:Int) (v:V),(0≤t∧t<(P.progs.length:Int))→m (Qq P t) v=0→(bd t v).length+70000≤70000*v.cnt)(hel:∀x:V,x.ok M→x.cnt≤1048576→Q5 m P o x=0→Qi Tryz.prog 232 [P.av,Qz o,x.av] (X8 bd o 0 x).av)(v:V)(hv:v.ok M)(hc:v.cnt≤1048576)(hE:∀p∈v.pairs,p.1.one P o.key (-1)=0∧Q5 m P o p.2=0) :
  Qi Tryz.prog 170 [P.av,Qz o,v.av] (.list ((v.pairs.map (WN bd o)).map R.av)):=by
 have e0:P.av=.agg [.list (P.progs.map Qm),.list (P.enums.map QE)]:=rfl;have hlen:=J1 v;rw[Qe v];refine wF Tryz.func170 ?_;simp only[eK,Tryz.f170,seval];simp only[e0,Qz,PO.cells,eE,seval];refine Zo rfl rfl ?_;simp only[Qnq,eE,seval];refine Qk (QkD P o v.pairs (WN bd o)) _ ⟨_,_,0,_,rfl,rfl,QmE _,(by rfl),(by rfl),(by rfl),(by rfl),(by rfl),(by rfl),(by rfl),(by rfl),(by rfl),Yt rfl⟩ ?_;rintro _ st ⟨f0,fr0,i,g,rfl,rfl,hil,h30,h40,h70,h120,h130,h140,m30,m40,mR0,r9⟩;refine QL (a:=_) [9] r9 ?_;intro f fr hf hm hn9;have h3:f 3=.ptr 0 3 0:=by rw[hf,h30]<;>rfl
 have h4:f 4=.ptr 0 4 0:=by rw[hf,h40]<;>rfl
 have h7:f 7=.vec 0 7 g 0 i false:=by rw[hf,h70]<;>rfl
 have h12:f 12=.list (v.pairs.map V.pav):=by rw[hf,h120]<;>rfl
 have h13:f 13=.int .i64 (v.pairs.length:Nat):=by rw[hf,h130]<;>rfl
 have h14:f 14=.int .i64 (i:Nat):=by rw[hf,h140]<;>rfl
 have m3:fr 3=.cells [.list (P.progs.map Qm),.list (P.enums.map QE)]:=by rw[hm 3 (by decide),m30]<;>rfl
 have m4':fr 4=.cells o.cells:=by rw[hm 4 (by decide),m40]<;>rfl
 have mR:fr 7=.vec g 4 ((v.pairs.take i).map fun x=>(WN bd o x).av):=by rw[hm 7 (by decide),mR0]<;>rfl
 have n9:=hn9 9 (by decide);clear hf hm hn9 h30 h40 h70 h120 h130 h140 m30 m40 mR0 r9;have m4:=m4';simp only[PO.cells]at m4;simp only[h13,h14,Qa,seval];by_cases hlt:i<v.pairs.length
 ·obtain⟨x,hi⟩:∃x,v.pairs[i]? = some x:=⟨v.pairs[i],Qmv hlt⟩;have hx:=QmJ hi;have hg:=WG hi;have e1:=Qw i _ hlt (by simp only[maxLen];omega);have hcc:=Pb hx;have hck:=Qbn hx;have c0:=EX (hv.keys x hx);have c1:=R7 1 (KX 0 x.1);rw[show({ KX 0 x.1 with num:=1 }:R)=KX 1 x.1 from rfl]at c1;have c2:=hel x.2 (hv.vals x hx) (Qmt hcc hc) (hE x hx).2;have c3:=R7 2 (X8 bd o 0 x.2);rw[B7]at c3;have hpn:=Mc (l:=[KX 1 x.1,X8 bd o 2 x.2]) (fun f hf=>by
   rcases QnS.1 hf with rfl|hf
   ·exact Aq (hv.keys x hx) 1
   ·rw[QoG]at hf;subst hf;exact Mb (hv.vals x hx) bd o 2) (by have:=Pv hbd ho (hE x hx).1 (hE x hx).2;omega)
  have c4:=c41 [KX 1 x.1,X8 bd o 2 x.2] hpn.1 hpn.2.1 hpn.2.2;have hen:WN bd o x=⟨o.num,6,0,XP [KX 1 x.1,X8 bd o 2 x.2]⟩:=rfl;have hti:((v.pairs.take i).map fun x=>(WN bd o x).av).length=i:=by rw[Qnq,Qns];omega
  have hts:(v.pairs.take (i+1)).map (fun x=>(WN bd o x).av)=(v.pairs.take i).map (fun x=>(WN bd o x).av)++[(WN bd o x).av]:=by rw[Qok,hi];simp
  rw[hen]at hts;clear hpn hen;generalize KX 0 x.1=y0 at c0 c1;generalize X8 bd o 0 x.2=y2 at c2 c3;generalize KX 1 x.1=z1 at c1 c4 hts;generalize X8 bd o 2 x.2=z2 at c3 c4 hts;generalize XP [z1,z2]=d at c4 hts;rw[Qe x.1]at c0;rw[e0,Qe x.2]at c2;simp only[Qz,PO.cells,R.av,FV,Qm3,Qnx]at c0 c1 c2 c3 c4;simp only[QD hlt,Qv,QnY,Qf,hg,n9,h12,h14,eE,seval];refine aC c0 ?_;refine aC c1 ?_;simp only[h3,h4,m3,m4,eE,seval];refine aC c2 ?_;refine aC c3 ?_;refine QS (l:=[z1.av,z2.av]) rfl rfl rfl rfl ?_;simp only[h4,h7,m4,eE,seval];refine aC c4 ?_;simp only[eE,seval];refine QS (l:=[(R.mk o.num 6 0 d).av]) rfl rfl rfl rfl ?_;refine QN (site:=7) (g:=g) (n:=i) (xs:=(v.pairs.take i).map fun x=>(WN bd o x).av) (ys:=[(R.mk o.num 6 0 d).av]) (by rfl) (by exact mR) rfl hti.symm rfl (Hm [_]) (by simp only[QmK,Qnr,maxLen];omega) (by simp only[QmK,Qnr];omega) ?_;simp only[h14,e1,Qa,seval];exact⟨v.pairs.length-(i+1),by omega,_,_,i+1,g+1,rfl,rfl,by omega,(by exact h3),(by exact h4),(by rfl),(by exact h12),(by exact h13),(by rfl),(by exact m3),(by exact m4'),(by rw[hts];exact(by rfl)),Yt rfl⟩
 ·have e:i=v.pairs.length:=by omega
  subst e;rw[Qn9,QeX]at mR;simp only[QI hlt,h7,mR,eE,seval];simp[AV.un,Zr,XE,Qm5]

end

section
variable {M:Nat}{P:PL}{m:PG→V→Int}{bd:Int→V→List UInt8}(o:PO)(ho:UO P o)

def PkI (o:PO)(l:List V)(F:Nat→List UInt8)(k:Nat)(st:St):Prop :=
 ∃f fr i g,st=⟨f,[fr],[]⟩∧k=l.length-i∧i≤l.length∧f 4=.ptr 0 4 0∧f 8=.int .i64 (wk o.kind)∧f 9=.vec 0 19 g 0 (F i).length false∧f 21=.list (l.map V.av)∧f 22=.int .i64 (l.length:Nat)∧f 23=.int .i64 (i:Nat)∧fr 4=.cells o.cells∧fr 19=.vec g 1 (Qr (F i))∧∀s∈[11],(fr s).isRow=false

theorem QkG (hp:pk o.card o.kind=true)(v:V)(hv:v.ok M)(hc:v.cnt≤1048576) :
  Qi Tryz.prog 172 [P.av,Qz o,v.av] (.list ([C8 o v.list].map R.av)):=by
 have e0:P.av=.agg [.list (P.progs.map Qm),.list (P.enums.map QE)]:=rfl;have hlen:=Jx v;have cw:=QdE o.num o.name o.alias 2 o.key o.kind o.target o.union;have hw2:VS 2 o.kind=wk o.kind:=by
  have e:pk 2 o.kind=false:=by simp[pk]
  unfold VS;rw[e];rfl
 rw[hw2]at cw;simp only[oc]at cw;have hcv:∃b:UInt8,IntKind.u8.wrap (wk o.kind)=(b.toNat:Int)∧UInt8.ofNat (wk o.kind).toNat=b:=by
  rcases Qgw hp with h|h|h<;>rw[h]
  ·exact⟨0,rfl,rfl⟩
  ·exact⟨1,rfl,rfl⟩
  ·exact⟨2,rfl,rfl⟩
 obtain⟨b0,hb0,hb1⟩:=hcv;have hpk:C8 o v.list=⟨o.num,5,0,b0 :: v.list.flatMap (Bn (wk o.kind))⟩:=by unfold C8;rw[hb1]
 rw[hpk];clear hpk hb1
 let F:Nat→List UInt8:=fun i=>b0 :: (v.list.take i).flatMap (Bn (wk o.kind))
 have hF0:F 0=[b0]:=by simp[F]
 have hFn:F v.list.length=b0 :: v.list.flatMap (Bn (wk o.kind)):=by simp[F]
 have hFl:∀i,i≤v.list.length→(F i).length≤1+10*i:=by
  intro i hi;have:=B5 (wk o.kind) (v.list.take i);rw[Qns]at this;simp only[F,QmK];omega
 have hFs:∀i x,v.list[i]? = some x→F (i+1)=F i++Bn (wk o.kind) x:=by
  intro i x hx;simp only[F];rw[Qok,hx,List.flatMap_append];simp
 rw[←hFn]
 clear_value F
 clear hFn;have hbl:∀s:List UInt8,(Qr s).length=s.length:=fun s=>by simp[Qr]
 rw[Qe v];refine wF Tryz.func172 ?_;simp only[eK,Tryz.f172,seval];simp only[e0,Qz,PO.cells,eE,seval];refine aC cw ?_;simp only[hb0,Qa,seval];refine SL (y:=[.int .u8 (b0.toNat:Int)]) rfl rfl rfl rfl ?_;simp only[Qnq,eE,seval];refine Qk (PkI o v.list F) _ ⟨_,_,0,_,rfl,rfl,QmE _,(by rfl),(by rfl),(by rw[hF0];exact(by rfl)),(by rfl),(by rfl),(by rfl),(by rfl),(by rw[hF0];exact(by rfl)),Yt rfl⟩ ?_;rintro _ st ⟨f0,fr0,i,g,rfl,rfl,hil,h40,h80,h90,h210,h220,h230,m40,mR0,NP⟩;refine QL (a:=_) [11] NP ?_;intro f fr hf hm hn11;have h4:f 4=.ptr 0 4 0:=by rw[hf,h40]<;>rfl
 have h8:f 8=.int .i64 (wk o.kind):=by rw[hf,h80]<;>rfl
 have h9:f 9=.vec 0 19 g 0 (F i).length false:=by rw[hf,h90]<;>rfl
 have h21:f 21=.list (v.list.map V.av):=by rw[hf,h210]<;>rfl
 have h22:f 22=.int .i64 (v.list.length:Nat):=by rw[hf,h220]<;>rfl
 have h23:f 23=.int .i64 (i:Nat):=by rw[hf,h230]<;>rfl
 have m4':fr 4=.cells o.cells:=by rw[hm 4 (by decide),m40]<;>rfl
 have mR:fr 19=.vec g 1 (Qr (F i)):=by rw[hm 19 (by decide),mR0]<;>rfl
 have n11:=hn11 11 (by decide);clear hf hm hn11 h40 h80 h90 h210 h220 h230 m40 mR0 NP;have m4:=m4';simp only[PO.cells]at m4;simp only[h22,h23,Qa,seval];by_cases hlt:i<v.list.length
 ·obtain⟨x,hi⟩:∃x,v.list[i]? = some x:=⟨v.list[i],Qmv hlt⟩;have hx:=QmJ hi;have hg:=He hi;have e1:=Qw i _ hlt (by simp only[maxLen];omega);have c1:=EX (hv.list x hx);rw[QeW]at c1;have hbb:(ZV x.kd x.bits x.text).bits<18446744073709551616:=NO (okb (hv.list x hx)) _;have hFi:=hFl i (by omega);have hFx:=hFs i x hi;have hpx:=Pw (wk o.kind) x;have epx:Bn (wk o.kind) x=C7 (wk o.kind) (ZV x.kd x.bits x.text).bits:=rfl;rw[epx]at hFx hpx;clear epx;generalize ZV x.kd x.bits x.text=z at c1 hbb hFx hpx;rw[Qe x]at c1;simp only[R.av]at c1;simp only[QD hlt,Qv,QnY,Qf,hg,n11,h21,h23,eE,seval];refine aC c1 ?_;by_cases w2:wk o.kind=2
  ·have b2:(wk o.kind==2)=true:=by simp[w2]
   have epb:C7 (wk o.kind) z.bits=fx 8 z.bits:=by unfold C7;rw[QmD w2]
   rw[epb]at hFx hpx;simp only[b2,h8,h9,Qa,seval];refine aC (c84 z.bits) ?_;refine HO (site:=19) (g:=g) (xs:=Qr (F i)) (by rfl) (by exact mR) rfl (hbl _).symm rfl (by omega) ?_;simp only[h23,e1,eE,seval];exact⟨v.list.length-(i+1),by omega,_,_,i+1,g+1,rfl,rfl,by omega,(by exact h4),(by exact h8),(by rw[hFx,Qm9];exact(by rfl)),(by exact h21),(by exact h22),(by rfl),(by exact m4'),(by rw[hFx,show Qr (F i++fx 8 z.bits)=Qr (F i)++Qr (fx 8 z.bits)by simp[Qr]];exact(by rfl)),Yt rfl⟩
  ·have b2:(wk o.kind==2)=false:=by simp[w2]
   have epb:C7 (wk o.kind) z.bits=Vp.put z.bits:=by unfold C7;rw[QmC w2]
   rw[epb]at hFx hpx;simp only[b2,h8,h9,Qa,seval];refine aC (II z.bits hbb) ?_;refine HO (site:=19) (g:=g) (xs:=Qr (F i)) (by rfl) (by exact mR) rfl (hbl _).symm rfl (by omega) ?_;simp only[h23,e1,eE,seval];exact⟨v.list.length-(i+1),by omega,_,_,i+1,g+1,rfl,rfl,by omega,(by exact h4),(by exact h8),(by rw[hFx,Qm9];exact(by rfl)),(by exact h21),(by exact h22),(by rfl),(by exact m4'),(by rw[hFx,show Qr (F i++Vp.put z.bits)=Qr (F i)++Qr (Vp.put z.bits)by simp[Qr]];exact(by rfl)),Yt rfl⟩
 ·have e:i=v.list.length:=by omega
  subst e;have he:QY [fr] (.vec 0 19 g 0 (F v.list.length).length false)=some (Qr (F v.list.length)):=HN mR (hbl _).symm;have hbo:bytesOf (Qr (F v.list.length))=some (F v.list.length):=Yn _;simp only[QI hlt,h4,h9,m4,he,hbo,eE,seval];refine QS (l:=[(R.mk o.num 5 0 (F v.list.length)).av]) rfl rfl rfl rfl ?_;simp only[Qm3,Qnx,Qa,seval]

def Md (o:PO):Nat:=if o.card=5 then 170 else if pk o.card o.kind=true then 172 else if o.card=4 then 173 else 174

theorem t80:Qi Tryz.prog 80 [Qz o] (.fn (.func (Md o)) [] []):=by
 have cp:=AN o.num o.name o.alias o.card o.key o.kind o.target o.union;simp only[oc]at cp;unfold Md;refine wF Tryz.func80 ?_;simp only[eK,Tryz.f80,seval];simp only[Qz,PO.cells,eE,seval];by_cases h5:o.card=5
 ·have b5:(o.card==5)=true:=by simp[h5]
  rw[QmD h5];simp only[b5,Qa,seval]
 have b5:(o.card==5)=false:=by simp[h5]
 rw[QmC h5];simp only[b5,eE,seval];refine aC cp ?_;cases hp:pk o.card o.kind
 case true=>simp only[Qa,seval]
 simp only[eE,seval];by_cases h4:o.card=4
 ·have b4:(o.card==4)=true:=by simp[h4]
  simp only[h4,Qa,seval]
 ·have b4:(o.card==4)=false:=by simp[h4]
  simp only[b4,h4,Qa,seval]

theorem QkH (hel:∀x:V,x.ok M→x.cnt≤1048576→Q5 m P o x=0→Qi Tryz.prog 232 [P.av,Qz o,x.av] (X8 bd o 0 x).av)(v:V)(hv:v.ok M)(hc:v.cnt≤1048576)(he:Q5 m P o v=0) :
  Qi Tryz.prog 174 [P.av,Qz o,v.av] (.list ([X8 bd o o.num v].map R.av)):=by
 have e0:P.av=.agg [.list (P.progs.map Qm),.list (P.enums.map QE)]:=rfl;have c1:=hel v hv hc he;have c2:=R7 o.num (X8 bd o 0 v);rw[B7]at c2;generalize X8 bd o 0 v=y at c1 c2;generalize X8 bd o o.num v=z at c2 ⊢;rw[e0,Qe v]at c1;simp only[Qz,PO.cells,R.av]at c1 c2;rw[Qe v];refine wF Tryz.func174 ?_;simp only[eK,Tryz.f174,seval];simp only[e0,Qz,PO.cells,eE,seval];refine aC c1 ?_;refine aC c2 ?_;refine QS (l:=[z.av]) rfl rfl rfl rfl ?_;simp only[Qm3,Qnx,Qa,seval]

include ho in
theorem Qgx (hbd:∀(t:Int) (v:V),(0≤t∧t<(P.progs.length:Int))→m (Qq P t) v=0→(bd t v).length+70000≤70000*v.cnt)(hb:∀(t:Int) (g:PG),P.progs[t.toNat]? = some g→0≤t→∀v:V,v.ok M→v.cnt≤1048576→m g v=0→Qi Tryz.prog 20 [P.av,.int .i64 t,v.av] (.str (bd t v)))(v:V)(hv:v.ok M)(hc:v.cnt≤1048576)(hf:XX m P o v=0) :
  Qi Tryz.prog (Md o) [P.av,Qz o,v.av] (.list ((Bo bd o v).map R.av)):=by
 have hel:=fun(x:V) (hx:x.ok M) (hxc:x.cnt≤1048576) (he:Q5 m P o x=0)=>QkB o ho hb x hx hxc he
 unfold Md Bo;unfold XX at hf;by_cases h5:o.card=5
 ·rw[QmD h5]at hf;rw[QmD h5,QmD h5];split at hf
  ·omega
  exact QkF o ho hbd hel v hv hc (Yz.1 hf).1
 rw[QmC h5]at hf;rw[QmC h5,QmC h5];by_cases hp:pk o.card o.kind=true
 ·rw[QmD hp,QmD hp];exact QkG o hp v hv hc
 rw[QmC hp,QmC hp];by_cases h4:o.card=4
 ·rw[QmD h4]at hf;rw[QmD h4,QmD h4];split at hf
  ·omega
  exact QkE o hel v hv hc (YA.1 hf)
 ·rw[QmC h4]at hf;rw[QmC h4,QmC h4];exact QkH o hel v hv hc hf
end

section
variable {M:Nat}{P:PL}{m:PG→V→Int}{bd:Int→V→List UInt8}

theorem t40 (hU:Kt P)(hP:P.ok M)(hbd:∀(t:Int) (v:V),(0≤t∧t<(P.progs.length:Int))→m (Qq P t) v=0→(bd t v).length+70000≤70000*v.cnt)(hb:∀(t:Int) (g:PG),P.progs[t.toNat]? = some g→0≤t→∀v:V,v.ok M→v.cnt≤1048576→m g v=0→Qi Tryz.prog 20 [P.av,.int .i64 t,v.av] (.str (bd t v)))(t:Int)(g:PG)(hgt:P.progs[t.toNat]? = some g)(t0:0≤t)(s:Int×V)(hv:s.2.ok M)(hc:s.2.cnt≤1048576)(o:PO)(ho:Xq g s.1=some o)(hf:XX m P o s.2=0) :
  Qi Tryz.prog 40 [P.av,.int .i64 t,V.sav s] (.list ((Bp bd g s).map R.av)):=by
 have e0:P.av=.agg [.list (P.progs.map Qm),.list (P.enums.map QE)]:=rfl;have hgm:=QmJ hgt;obtain⟨hom,hon⟩:=KT ho;have c1:=Tk g (hP.progs g hgm).len s.1;rw[UF,ho]at c1;have c2:=t80 o;have c3:=Qgx o (hU g hgm o hom) hbd hb s.2 hv hc hf;have hsl:Bp bd g s=Bo bd o s.2:=by unfold Bp;rw[ho]
 rw[hsl];obtain⟨ti,hti⟩:=Qof t0;subst hti;rw[QnY]at hgt;have hga:(P.progs.map Qm)[ti]? = some (.agg g.cells):=by simp[hgt,Qm]
 generalize Bo bd o s.2=z at c3 ⊢;generalize Md o=k at c2 c3;simp only[PG.cells]at hga;rw[e0,Qe s.2]at c3;simp only[Qm,Qz,PG.cells,PO.cells,QnH,Qop]at c1 c2 c3;rw[ZU];refine wF Tryz.func40 ?_;simp only[eK,Tryz.f40,seval];simp only[e0,Qv,QnY,Qf,hga,eE,seval];refine aC c1 ?_;simp only[eE,seval];refine aC c2 ?_;simp only[eE,seval];refine J6 (fa:=[]) (fb:=[]) (by rfl) c3 rfl rfl rfl (.inl rfl) ?_;simp only[Qa,seval]

end

section
variable (bd:Int→V→List UInt8)(g:PG)
theorem QbG {s:Int×V}{sl:List (Int×V)}{r:R}{rs:List R}(h:r.num<s.1):ZW bd g (s :: sl) (r :: rs)=r :: ZW bd g (s :: sl) rs:=by
 have d:decide (r.num<s.1)=true:=Qou h;rw[ZW,ZW,List.takeWhile_cons,List.dropWhile_cons,QmD d,QmD d];rfl
theorem Pz {s:Int×V}{sl:List (Int×V)}{rs:List R}(h:∀r l,rs=r :: l→¬r.num<s.1):ZW bd g (s :: sl) rs=Bp bd g s++ZW bd g sl rs:=by
 rw[ZW];cases rs with
 |nil=>rfl
 |cons r l=>
  have d:¬decide (r.num<s.1)=true:=fun e=>h r l rfl (of_decide_eq_true e)
  rw[List.takeWhile_cons,List.dropWhile_cons,QmC d,QmC d];rfl
end

structure BoF (P:PL)(t:Nat)(S:List (Int×V))(f:Fr)(fr:Nat→Ob)(i g:Nat)(out rest:List R):Prop where
 f1:f 1=.int .i64 (t:Nat)
 f3:f 3=.ptr 0 3 0
 f8:f 8=.vec 0 8 g 0 out.length false
 f9:f 9=.list (rest.map R.av)
 f20:f 20=.list (S.map V.sav)
 f21:f 21=.int .i64 (S.length:Nat)
 f22:f 22=.int .i64 (i:Nat)
 m3:fr 3=.cells [.list (P.progs.map Qm),.list (P.enums.map QE)]
 mR:fr 8=.vec g 4 (out.map R.av)

section
variable {M:Nat}{P:PL}

theorem Qgy (bd:Int→V→List UInt8)(g:PG)(t:Nat)(S:List (Int×V))(i:Nat)(s:Int×V)(sl:List (Int×V))(T:List R)(hT:T.length≤3000000000000)(f:Fr)(fr:Nat→Ob)(gn:Nat)(out rest:List R)(h:BoF P t S f fr i gn out rest)(h11:f 11=.ptr 0 11 0)(m11:fr 11=.cells [.int .i64 s.1,.int .i64 s.2.kd,.int .u64 (s.2.bits:Nat),.str s.2.text,.list (s.2.list.map V.av),.list (s.2.pairs.map V.pav),.list (s.2.slots.map V.sav),.list (s.2.raws.map R.av)])(hi:out++ZW bd g (s :: sl) rest=T)(Q:Exit→St→Prop)
  (q:∀f fr gn out rest,BoF P t S f fr i gn out rest→f 11=.ptr 0 11 0→fr 11=.cells [.int .i64 s.1,.int .i64 s.2.kd,.int .u64 (s.2.bits:Nat),.str s.2.text,.list (s.2.list.map V.av),.list (s.2.pairs.map V.pav),.list (s.2.slots.map V.sav),.list (s.2.raws.map R.av)]→out++(Bp bd g s++ZW bd g sl rest)=T→Q (.exit 2) (⟨f,[fr],[]⟩:St)) :
  QR Tryz.prog (.loop Ia) ⟨f,[fr],[]⟩ Q:=by
 let I:Nat→St→Prop:=fun k st=>∃f fr gn out rest,st=⟨f,[fr],[]⟩∧k=rest.length∧BoF P t S f fr i gn out rest∧f 11=.ptr 0 11 0∧fr 11=.cells [.int .i64 s.1,.int .i64 s.2.kd,.int .u64 (s.2.bits:Nat),.str s.2.text,.list (s.2.list.map V.av),.list (s.2.pairs.map V.pav),.list (s.2.slots.map V.sav),.list (s.2.raws.map R.av)]∧out++ZW bd g (s :: sl) rest=T
 refine Qk I _ ⟨f,fr,gn,out,rest,rfl,rfl,h,h11,m11,hi⟩ ?_;clear h h11 m11 hi;rintro _ st ⟨f,fr,gn,out,rest,rfl,rfl,⟨h1,h3,h8,h9,h20,h21,h22,m3,mR⟩,h11,m11,hi⟩;simp only[Qa,seval];cases rest with
 |nil=>
  have d1:decide (((0:Nat):Int) > 0)=false:=rfl;simp only[Qnx,Qnr,h9,Qa,seval];exact q _ _ gn out [] ⟨(by exact h1),(by exact h3),(by exact h8),(by exact h9),(by exact h20),(by exact h21),(by exact h22),m3,mR⟩ (by exact h11) m11 (by rw[←hi,Pz];intro r l e;cases e)
 |cons r l=>
  have d1:decide (((l.length+1:Nat):Int) > 0)=true:=Qou (by omega);have hml:(l.map R.av).length=l.length:=Qnq ..;by_cases hr:r.num<s.1
  ·have d2:decide (r.num<s.1)=true:=Qou hr;rw[QbG bd g hr]at hi;have hol:out.length+1≤T.length:=by rw[←hi];simp
   have hs1:(1≤((r :: l).map R.av).length)=True:=eq_true (by simp);have hs3:=Hm (r :: l);have hs2:List.take (((r :: l).map R.av).length-1) (List.drop 1 ((r :: l).map R.av))=l.map R.av:=by simp[Qm5]
   simp only[Qm3,QmK,hml,d1,d2,R.av,Qny,Qf,h8,h9,h11,m11,eE,seval];refine QS (l:=[r.av]) rfl rfl rfl rfl ?_;refine QN (site:=8) (g:=gn) (n:=out.length) (xs:=out.map R.av) (ys:=[r.av]) (by rfl) (by exact mR) rfl (by rw[Qnq]) rfl (Hm [r]) (by simp only[QmK,Qnr,maxLen];omega) (by simp only[QmK,Qnr];omega) ?_;simp only[KY,Jc,XD,Qn8,hs1,hs2,hs3,Qms,or_true,and_self,QmK,Qnr,h9,Qa,seval];exact⟨l.length,by simp,_,_,gn+1,out++[r],l,rfl,rfl,⟨(by exact h1),(by exact h3),by rw[Qm9];exact(by rfl),(by rfl),(by exact h20),(by exact h21),(by exact h22),(by exact m3),by rw[Qoj];exact(by rfl)⟩,(by exact h11),(by exact m11),by rw[←hi];simp⟩
  ·have d2:decide (r.num<s.1)=false:=Qoo hr;simp only[Qm3,QmK,hml,d1,d2,R.av,Qny,Qf,h9,h11,m11,eE,seval];exact q _ _ gn out (r :: l) ⟨(by exact h1),(by exact h3),(by exact h8),(by exact h9),(by exact h20),(by exact h21),(by exact h22),m3,mR⟩ (by exact h11) m11 (by rw[←hi,Pz];intro r' l' e;cases e;exact hr)

def BoI (P:PL)(bd:Int→V→List UInt8)(g:PG)(t:Nat)(S:List (Int×V))(T:List R)(k:Nat)(st:St):Prop :=
 ∃f fr i gn out rest,st=⟨f,[fr],[]⟩∧k=S.length-i∧i≤S.length∧BoF P t S f fr i gn out rest∧out++ZW bd g (S.drop i) rest=T∧∀s∈[11],(fr s).isRow=false

theorem t20 (hP:P.ok M)(hU:Kt P)(hr:ZG P)(hcd:RY P)(hG:∀t,Gd (Qq P t)):∀(n:Nat) (t:Int) (g:PG),P.progs[t.toNat]? = some g→0≤t→∀v:V,v.ok M→v.cnt≤1048576→Za P n g v=0→Qi Tryz.prog 20 [P.av,.int .i64 t,v.av] (.str (Zv P n t v)):=by
 have e0:P.av=.agg [.list (P.progs.map Qm),.list (P.enums.map QE)]:=rfl;intro n
 induction n with
 |zero=>
  intro t g _ _ v _ _ h;exact(FS 0 _ _ h).elim
 |succ n ih=>
  intro t g hgt t0 v hv hc h;have hgm:=QmJ hgt;have hq:Qq P t=g:=by unfold Qq;rw[hgt];rfl
  have cn:=v26 hP hU hr hcd (n+1) t g hgt t0 v hv hc (FS _ _ _ h);have hw:=QeT hU hr hgm h;have hnok:=Bk hG (n+1) t v hv;have hncn:=Yy hr (n+1) g (hr g hgm) v;have hfit:=YN hU hr (n+1) g hgm v h;obtain⟨_,_,_,hraw⟩:=WJ.1 hfit;rw[hq]at hnok;rw[Zv,hq];generalize Zb P (n+1) g v=w at cn hw hnok hncn hraw;have hwc:w.cnt≤1048576:=by omega
  have hbl:=fun t v ht hm=>Px hU hr n t v ht hm
  have hrw:=DZ (m:=Za P n) (bd:=Zv P n) (g:=g) hbl w.slots w.raws (fun x hx=>by
   obtain⟨o,ho,hx,_⟩:=hw x hx;exact⟨o,ho,hU _ hgm o (KT ho).1,hx⟩) hraw
  have hcs:w.raws.length+Xg w.slots≤w.cnt:=by rw[Q1 w];omega
  have hpn:=Mc (l:=ZW (Zv P n) g w.slots w.raws) (Py (Zv P n) g w.slots w.raws (fun s hs=>hnok.slots s hs) (fun f hf=>by
   have:=VA (hnok.raws f hf).bits;show f.bits<_;omega)) (by omega)
  have cput:=c41 _ hpn.1 hpn.2.1 hpn.2.2;have hTl:=B6 (ZW (Zv P n) g w.slots w.raws);have csl:=fun(s:Int×V) (hs:s∈w.slots)=>(hw s hs).elim fun o ho=>t40 hU hP hbl ih t g hgt t0 s (hnok.slots s hs) (Qmt (KJ hs) hwc) o ho.1 ho.2.1
  have ls:=Zk w;generalize hTe:ZW (Zv P n) g w.slots w.raws=T at hrw hpn cput hTl;have hTm:T.length≤3000000000000:=by omega
  clear hpn hraw hrw hw hfit;obtain⟨ti,hti⟩:=Qof t0;subst hti;rw[e0,Qe v,Qe w]at cn;rw[Qe v];refine k20.fn (by simp) ?_;simp only[e0,eE,seval];refine aC cn ?_;simp only[eE,seval];refine Zo rfl rfl ?_;simp only[Qnq,eE,seval];refine Qk (BoI P (Zv P n) g ti w.slots T) _ ⟨_,_,0,_,[],w.raws,rfl,rfl,QmE _,⟨(by rfl),(by rfl),(by rfl),(by rfl),(by rfl),(by rfl),(by rfl),(by rfl),(by rfl)⟩,hTe,Yt rfl⟩ ?_;rintro _ st ⟨f0,fr0,i,gn,out,rest,rfl,rfl,hil,⟨h10,h30,h80,h90,h200,h210,h220,m30,mR0⟩,hi0,NP⟩;refine QL (a:=_) [11] NP ?_;intro f fr hf hm hn11;have h1:f 1=.int .i64 (ti:Nat):=by rw[hf,h10]<;>rfl
  have h3:f 3=.ptr 0 3 0:=by rw[hf,h30]<;>rfl
  have h8:f 8=.vec 0 8 gn 0 out.length false:=by rw[hf,h80]<;>rfl
  have h9:f 9=.list (rest.map R.av):=by rw[hf,h90]<;>rfl
  have h20:f 20=.list (w.slots.map V.sav):=by rw[hf,h200]<;>rfl
  have h21:f 21=.int .i64 (w.slots.length:Nat):=by rw[hf,h210]<;>rfl
  have h22:f 22=.int .i64 (i:Nat):=by rw[hf,h220]<;>rfl
  have m3:fr 3=.cells [.list (P.progs.map Qm),.list (P.enums.map QE)]:=by rw[hm 3 (by decide),m30]<;>rfl
  have mR:fr 8=.vec gn 4 (out.map R.av):=by rw[hm 8 (by decide),mR0]<;>rfl
  have n11:=hn11 11 (by decide);clear hf hm hn11 h10 h30 h80 h90 h200 h210 h220 m30 mR0 NP;simp only[h21,h22,Qa,seval];by_cases hlt:i<w.slots.length
  ·obtain⟨x,hi⟩:∃x,w.slots[i]? = some x:=⟨w.slots[i],Qmv hlt⟩;have hx:=QmJ hi;have hgs:=WH hi;have e1:=Qw i _ hlt (by simp only[maxLen];omega);have hdr:w.slots.drop i=x :: w.slots.drop (i+1):=by rw[Qne hlt,(Qmu.1 hi).2]
   have c1:=csl x hx;rw[hdr]at hi0;simp only[QD hlt,Qv,QnY,Qf,hgs,n11,h20,h22,eE,seval];refine Qgy (Zv P n) g ti w.slots i x (w.slots.drop (i+1)) T hTm _ _ gn out rest ⟨(by exact h1),(by exact h3),(by exact h8),(by exact h9),(by exact h20),(by exact h21),(by exact h22),(by exact m3),(by exact mR)⟩ (by rfl) (by rfl) hi0 _ ?_;clear h1 h3 h8 h9 h20 h21 h22 m3 mR n11 hi0 out rest gn f fr;rintro f fr gn out rest ⟨h1,h3,h8,h9,h20,h21,h22,m3,mR⟩ h11 m11 hi0;rw[e0,ZU x]at c1;generalize Bp (Zv P n) g x=z at c1 hi0;have hol:out.length+z.length≤T.length:=by rw[←hi0];simp
   simp only[h1,h3,h8,h11,m3,m11,eE,seval];refine aC c1 ?_;refine QN (site:=8) (g:=gn) (n:=out.length) (xs:=out.map R.av) (ys:=z.map R.av) (by rfl) (by exact mR) rfl (by rw[Qnq]) rfl (Hm z) (by simp only[Qnq,maxLen];omega) (by simp only[Qnq];omega) ?_;simp only[Qnq,h22,e1,Qa,seval];exact⟨w.slots.length-(i+1),by omega,_,_,i+1,gn+1,out++z,rest,rfl,rfl,by omega,⟨(by exact h1),(by exact h3),by rw[Qm9];exact(by rfl),(by exact h9),(by exact h20),(by exact h21),(by rfl),(by exact m3),by rw[Qoj];exact(by rfl)⟩,by rw[←hi0,QmQ],Yt (by simp only[m11,Qa,seval]<;>rfl)⟩
  ·have e:i=w.slots.length:=by omega
   subst e;have hi1:out++rest=T:=by rw[←hi0,List.drop_length];rfl
   have hol:out.length+rest.length=T.length:=by rw[←hi1];simp
   simp only[QI hlt,h8,h9,Qa,seval];refine QN (site:=8) (g:=gn) (n:=out.length) (xs:=out.map R.av) (ys:=rest.map R.av) (by rfl) (by exact mR) rfl (by rw[Qnq]) (by rfl) (Hm rest) (by simp only[Qnq,maxLen];omega) (by simp only[Qnq];omega) ?_;rw[←hi1]at cput;refine XR cput ?_ rfl rfl (.inr rfl) ?_
   ·simp only[Qm3,Qnx,AV.stillL,AV.still,Qnq,eE,seval];simp[FV,Qm5]
   rw[←hi1];simp only[Qa,seval]

end
end Go.Proofs.YtkhpgmeokilhaaaGreatDoor.Va

namespace Go.Proofs.YtkhpgmeokilhaaaGreatDoor.Va
open Go Am Rc Bt Br Up

def RBP (p:Prop)(v:AV):Prop:=∃b,v=.bool b∧(b=true→p)
theorem RBP.rf {p:Prop}{v:AV}{l:List AV}(h:RBP p v):v.rf=true∧(AV.rfL l=true∨v.nl=true):=by
 obtain⟨b,rfl,_⟩:=h;exact⟨rfl,.inr rfl⟩

def RN (n:Nat)(lf:Int)(a:AV):Prop:=∃r:Int,a=.int .i64 r∧-1≤r∧(0≤r→(n:Int)+r≤lf)
theorem RN.rf {n:Nat}{lf:Int}{v:AV}{l:List AV}(h:RN n lf v):v.rf=true∧(AV.rfL l=true∨v.nl=true):=by
 obtain⟨b,rfl,_⟩:=h;exact⟨rfl,.inr rfl⟩
section
variable {M:Nat}

end

def QeY (P:PL):Prop:=(∀g∈P.progs,g.name.length≤300)∧∀e∈P.enums,e.name.length≤300
section
variable {M:Nat}(hM:M≤140737488351232)(P:PL)(hP:P.ok M)

end
open So Vp Cp

def Jl (P:PL)(s:List UInt8)(v:V):List UInt8×Int :=
 if QZ s P<0 then([],10)
 else if Z6 P (QZ s P) v≠0 then([],Z6 P (QZ s P) v)
 else if (Zv P 16 (QZ s P) v).length > 65536 then([],3)
 else(Zv P 16 (QZ s P) v,0)
def siz (r:List UInt8×Int):Int:=if r.2≠0 then -1 else(r.1.length:Int)
theorem QeZ (P:PL)(s:List UInt8)(v:V):(Jl P s v).1.length≤65536:=by
 unfold Jl;split
 ·exact QmE _
 split
 ·exact QmE _
 split
 ·exact QmE _
 ·rename_i h;exact Nat.le_of_not_lt h
theorem Yu {P:PL}{t:Int}{v:V}(h:Z6 P t v=0):(0≤t∧t<(P.progs.length:Int))∧Za P 16 (Qq P t) v=0:=by
 unfold Z6 at h;split at h
 ·omega
 rename_i ht;split at h
 ·rename_i hm;exact⟨by omega,hm⟩
 ·rename_i hm;exact absurd h hm
theorem UQ {P:PL}{t:Int}(ht:0≤t∧t<(P.progs.length:Int)):P.progs[t.toNat]? = some (Qq P t):=by
 unfold Qq;rw[Qmv (by omega:t.toNat<P.progs.length)];rfl

section
variable {M:Nat}(hM:M≤140737488351232)(P:PL)(hP:P.ok M)(hS:QeY P)

include hM hP hS in
theorem t37:Qi Tryz.prog 37 [P.av] (.int .i64 (ck P)) :=
 QjC P hP hM (fun g h=>Qmt (hS.1 g h) (by decide)) (fun g h=>Qmt (hS.2 g h) (by decide))

include hM hP hS in
theorem t18 (t:Int)(ht:0≤t∧t<(P.progs.length:Int))(hk:ck P=0):Qi Tryz.prog 18 [P.av,.int .i64 t] (.bool true):=by
 have e0:P.av=.agg [.list (P.progs.map Qm),.list (P.enums.map QE)]:=rfl;have d1:decide (t≥0)=true:=Qou ht.1;have d2:decide (t<(P.progs.length:Int))=true:=Qou ht.2;have cc:=t37 hM P hP hS;have z0:((0:Int)==0)=true:=rfl;rw[hk,e0]at cc;refine wF Tryz.func18 ?_;simp only[eK,Tryz.f18,seval];simp only[e0,d1,d2,Qnq,eE,seval];refine aC cc ?_;simp only[z0,Qa,seval]

include hP in
theorem Ar (hk:ck P=0)(t:Int)(v:V)(hv:v.ok M)(hc:v.cnt≤1048576)(ht:0≤t∧t<(P.progs.length:Int))(hm:Za P 16 (Qq P t) v=0):Qi Tryz.prog 20 [P.av,.int .i64 t,v.av] (.str (Zv P 16 t v)) :=
 t20 hP (Ku hk) (ZC hk) (DW hk) (R5 hP (C3 hk)) 16 t (Qq P t) (UQ ht) ht.1 v hv hc hm

include hM hP hS in
theorem t48 (hk:ck P=0)(t:Int)(v:V)(hv:v.ok M)(hc:v.cnt≤1048576)(hf:Z6 P t v=0):Qi Tryz.prog 48 [P.av,.int .i64 t,v.av] (.str (Zv P 16 t v)):=by
 have e0:P.av=.agg [.list (P.progs.map Qm),.list (P.enums.map QE)]:=rfl;obtain⟨ht,hm⟩:=Yu hf;have cu:=t18 hM P hP hS t ht hk;have cb:=Ar P hP hk t v hv hc ht hm;rw[e0]at cu;rw[e0,Qe v]at cb;rw[Qe v];refine wF Tryz.func48 ?_;simp only[eK,Tryz.f48,seval];simp only[e0,eE,seval];refine aC cu ?_;simp only[eE,seval];refine aC cb ?_;simp only[Qa,seval]

include hM hP hS in
theorem t7 (hk:ck P=0)(s:List UInt8)(v:V)(hv:v.ok M)(hc:v.cnt≤1048576):Qi Tryz.prog 7 [P.av,.str s,v.av] (.tup [.str (Jl P s v).1,.int .i64 (Jl P s v).2]):=by
 have e0:P.av=.agg [.list (P.progs.map Qm),.list (P.enums.map QE)]:=rfl;have cf:=Tt P hP.len1 s;unfold Di at cf;rw[show XW (fun g:PG=>g.name==s) P.progs 0=QZ s P from rfl,e0]at cf;unfold Jl;by_cases hp:QZ s P<0
 ·have d0:decide (QZ s P≥0)=false:=Qoo (by omega);rw[QmD hp];rw[QmD hp,d0]at cf;rw[Qe v];refine wF Tryz.func7 ?_;simp only[eK,Tryz.f7,seval];simp only[e0,eE,seval];refine aC cf ?_;simp only[Qa,seval]
 have d0:decide (QZ s P≥0)=true:=Qou (by omega);rw[QmC hp];rw[QmC hp,d0]at cf;have ht:0≤QZ s P∧QZ s P<(P.progs.length:Int):=by
  rcases W7 s P with h|h
  ·omega
  ·exact h
 generalize QZ s P=t at *;have cu:=t18 hM P hP hS t ht hk;have cx:=v19 hP (Ku hk) t v hv;have cb:=fun hm=>Ar P hP hk t v hv hc ht hm
 rw[e0]at cu;rw[e0,Qe v]at cx cb;rw[Qe v];refine wF Tryz.func7 ?_;simp only[eK,Tryz.f7,seval];simp only[e0,eE,seval];refine aC cf ?_;simp only[eE,seval];refine aC cu ?_;simp only[eE,seval];refine aC cx ?_;by_cases hf:Z6 P t v=0
 case neg=>
  have b0:(Z6 P t v != 0)=true:=by simp[hf]
  simp only[QmD hf,b0,Qa,seval]
 have b0:(Z6 P t v != 0)=false:=by simp[hf]
 rw[QmC (fun h=>h hf)];simp only[b0,eE,seval];refine aC (cb (Yu hf).2) ?_;by_cases hl:(Zv P 16 t v).length > 65536
 ·have d1:decide (((Zv P 16 t v).length:Int) > 65536)=true:=Qou (by omega);simp only[QmD hl,d1,Qa,seval]
 ·have d1:decide (((Zv P 16 t v).length:Int) > 65536)=false:=Qoo (by omega);simp only[QmC hl,d1,Qa,seval]

end

theorem QbH {l:List PG}(h:ZR l (Xt PG.name)=true):l.Pairwise fun a b=>Op.bytesLess a.name b.name=true:=by
 have hs:∀i (hi:i+1<l.length),Op.bytesLess l[i].name l[i+1].name=true:=by
  intro i hi;unfold ZR at h;have:=QV.1 h (i+1) hi;rw[K9 (Qmv (by omega:i<l.length)) (Qmv hi)]at this;unfold Xt at this
  simpa using this
 rw[QoI];intro i j hi hj hij;obtain⟨d,rfl⟩:∃d,j=i+1+d:=⟨j-(i+1),by omega⟩;clear hij
 induction d with
 |zero=>exact hs i (by omega)
 |succ d ih=>exact Hi (ih (by omega)) (hs (i+1+d) (by omega))

theorem Me {P:PL}(hk:ck P=0){t:Int}(ht:0≤t∧t<(P.progs.length:Int)):QZ (Qq P t).name P=t:=by
 have ho:=(DV hk).1;unfold HX at ho;simp only[QmT]at ho;have hp:=QbH ho.1.1.1;rw[QoI]at hp;have hg:=UQ ht;obtain⟨hl,hg2⟩:=Qmu.1 hg;unfold QZ;rcases WD (fun g:PG=>g.name==(Qq P t).name) P.progs 0 with⟨_,hn⟩|⟨k,o,h,h1,h2⟩
 ·have:=Qor.1 hn (Qq P t) (QmJ hg);simp at this
 ·have hn:o.name=(Qq P t).name:=by simpa using Qot h2
  obtain⟨hkl,hk2⟩:=Qmu.1 h1;have e:k=t.toNat:=by
   rcases Nat.lt_trichotomy k t.toNat with c|c|c
   ·have:=hp k t.toNat hkl hl c;rw[hk2,hg2,hn,Uf]at this;cases this
   ·exact c
   ·have:=hp t.toNat k hl hkl c;rw[hk2,hg2,hn,Uf]at this;cases this
  rw[h];omega

section
variable {P:PL}(hk:ck P=0){t:Int}{v:V}(hf:Z6 P t v=0)(hc:v.cnt≤300)

include hk hf hc in
theorem QbI:Z6 P t (Zb P 16 (Qq P t) v)=0∧Zv P 16 t (Zb P 16 (Qq P t) v)=Zv P 16 t v∧Jl P (Qq P t).name (Zb P 16 (Qq P t) v)=Jl P (Qq P t).name v∧(Zb P 16 (Qq P t) v).cnt≤300:=by
 obtain⟨ht,hm⟩:=Yu hf;have hg:Qq P t∈P.progs:=QmJ (UQ ht);have h1:=YN (Ku hk) (ZC hk) 16 _ hg v hm;have h2:=Co (Ku hk) (ZC hk) 16 _ hg v hm;have h3:=Yy (ZC hk) 16 _ (W4 (ZC hk) t) v;generalize hx:Zb P 16 (Qq P t) v=x at h1 h2 h3 ⊢;have hfx:Z6 P t x=0:=by
  unfold Z6;rw[QmC (by omega),QmD h1,QmC (by rw[QC];omega)]
 have hb:Zv P 16 t x=Zv P 16 t v:=by
  rw[Zv,Zv,h2,hx]
 refine⟨hfx,hb,?_,by omega⟩;unfold Jl;rw[Me hk ht,hfx,hf,hb]

end

theorem GY {P:PL}(h:ck P=0):QeY P:=by
 unfold ck at h;split at h
 ·omega
 split at h
 ·omega
 rename_i hn;have hn:FI P=true:=by simpa using hn
 unfold FI at hn;simp only[QmT,QmI]at hn;refine⟨fun g hg=>?_,fun e he=>?_⟩
 ·have:=hn.1 g hg;unfold KD Wb at this;simp only[QmT,Qmz]at this;omega
 ·have:=hn.2 e he;unfold Un Wb at this;simp only[QmT,Qmz]at this;omega

theorem QbJ {P:PL}{s:List UInt8}{v:V}(h:(Jl P s v).2=0):(0≤QZ s P∧QZ s P<(P.progs.length:Int))∧Z6 P (QZ s P) v=0∧(Jl P s v).1=Zv P 16 (QZ s P) v∧(Zv P 16 (QZ s P) v).length≤65536:=by
 unfold Jl at h ⊢;rcases W7 s P with hx|hx
 ·rw[QmD (by omega)]at h;cases h
 rw[QmC (by omega)]at h ⊢;by_cases hf:Z6 P (QZ s P) v=0
 case neg=>
  rw[QmD hf]at h;exact absurd h hf
 rw[QmC (fun g=>g hf)]at h ⊢;split at h
 ·cases h
 ·rename_i h1;rw[QmC h1];exact⟨hx,hf,rfl,by omega⟩

section
variable {P:Program}{f:Fr}{m:Qh}{ds:List DF}{K:St→Prop}{its:List Am.Item}{d:Nat}
theorem EY {s:Nat}(hn:X0 m s=true)(h:QB P its ⟨QG f d (.mptr 0 s),Am.put m 0 s (.iter (.mp [] []) 0),ds⟩ K):QB P (⟨some d,.mkm s,none⟩ :: its) ⟨f,m,ds⟩ K:=⟨hn,h⟩
theorem Gv {tx:Bool}{x i v:RA}{l s p:Nat}{ks:List MK}{vs:List AV}{k:MK}(h1:x.ev f=.mptr l s)(h2:Am.Qc m l s=.iter (.mp ks vs) p)(h3:Am.KZ tx (i.ev f)=some k)(h4:Am.keys tx ks=true)(h5:(v.ev f).gr=true)(h6:AV.grL vs=true)(h7:ks.length=vs.length)
  (h:QB P its ⟨f,Am.put m l s (.iter (.mp (Zc k (v.ev f) ks vs).1 (Zc k (v.ev f) ks vs).2) p),ds⟩ K):QB P (⟨none,.mput tx x i v,none⟩ :: its) ⟨f,m,ds⟩ K:=⟨l,s,ks,vs,p,k,h1,h2,h3,h4,h5,h6,h7,h⟩
end

theorem c49:Qi Tryz.prog 49 [] Xm.av:=by
 refine wF Tryz.func49 ?_;simp only[eK,Tryz.f49,seval];simp only[Xm,L.av,eE,seval]

section
variable {M N:Nat}(hM:M≤140737488351232)(hm:65536≤M)(hN:65536<N)(W R:PL)(hW:W.ok M)(hR:R.ok M)(hw:ck W=0)(hr:ck R=0)

include hM hW hR hw hr in
theorem c47 (a b:Int)(ha:0≤a∧a<(W.progs.length:Int))(hb:0≤b∧b<(R.progs.length:Int)):Qi Tryz.prog 47 [W.av,R.av,.int .i64 a,.int .i64 b] (.tup [Qm (Qq W a),Qm (Qq R b),.int .i64 0]):=by
 have c1:=t37 hM W hW (GY hw);have c2:=t37 hM R hR (GY hr);rw[hw,show W.av=.agg (Xl W)from rfl]at c1;rw[hr,show R.av=.agg (Xl R)from rfl]at c2;rw[show W.av=.agg (Xl W)from rfl,show R.av=.agg (Xl R)from rfl];simp only[Xl]at c1 c2;have d1:decide (a<0)=false:=Qoo (by omega);have d2:decide (a≥(W.progs.length:Int))=false:=Qoo (by omega);have d3:decide (b<0)=false:=Qoo (by omega);have d4:decide (b≥(R.progs.length:Int))=false:=Qoo (by omega);have g1:(W.progs.map Qm)[a.toNat]? = some (.agg [.str (Qq W a).name,.list ((Qq W a).ops.map fun o=>.agg o.cells),.int .i64 (Qq W a).unions]):=by rw[QnT,UQ ha];rfl
 have g2:(R.progs.map Qm)[b.toNat]? = some (.agg [.str (Qq R b).name,.list ((Qq R b).ops.map fun o=>.agg o.cells),.int .i64 (Qq R b).unions]):=by rw[QnT,UQ hb];rfl
 have a0:(0≤a)=True:=eq_true ha.1;have b0:(0≤b)=True:=eq_true hb.1;rw[show Qm (Qq W a)=.agg [.str (Qq W a).name,.list ((Qq W a).ops.map fun o=>.agg o.cells),.int .i64 (Qq W a).unions]from rfl,show Qm (Qq R b)=.agg [.str (Qq R b).name,.list ((Qq R b).ops.map fun o=>.agg o.cells),.int .i64 (Qq R b).unions]from rfl];refine wF Tryz.func47 ?_;simp only[eK,Tryz.f47,seval];simp only[Xl,d1,d2,d3,d4,Qnq,eE,seval];refine aC c1 ?_;simp only[eE,seval];refine aC c2 ?_;simp only[a0,b0,Qf,g1,g2,eE,seval]<;>rfl

include hM hm hN hW hR hw hr in
theorem c23 (a b:Int)(ha:0≤a∧a<(W.progs.length:Int))(hb:0≤b∧b<(R.progs.length:Int))(s:List UInt8)(hs:QZ s R=b)(v:V)(hv:v.ok M)(hc:v.cnt≤300)(hf:Z6 W a v=0)(hx:(Zv W 16 a v).length≤65536) :
  Qi Tryz.prog 23 [W.av,R.av,.int .i64 a,.int .i64 b,v.av] (ov (Ui R N s (Zv W 16 a v) Xm)):=by
 have c1:=c47 hM W R hW hR hw hr a b ha hb;have c2:=t48 hM W hW (GY hw) hw a v hv (by omega) hf;have c3:=c49;have c4:=j9 (N:=N) hm R hR hr hN (Qq R b).name (Zv W 16 a v) Xm hx (by decide) (by decide);rw[ES (s':=s) (by rw[Me hr hb,hs])]at c4;have hn:=QeP (P:=R) (N:=N) (s:=s) hx;have ec:∀c:V×Nat,c.2≠3→((c.2:Int)==3)=false:=fun c h=>by simp;omega
 have e3:=ec _ hn;rw[show W.av=.agg (Xl W)from rfl]at c1 c2;rw[show R.av=.agg (Xl R)from rfl]at c1 c4;rw[show W.av=.agg (Xl W)from rfl,show R.av=.agg (Xl R)from rfl,Qe v];rw[Qe v]at c2;generalize Ui R N s (Zv W 16 a v) Xm=y at c4 e3 ⊢;generalize Zv W 16 a v=x at c2 c4;generalize Qq W a=gw at c1;generalize Qq R b=gr at c1 c4;obtain⟨y,e⟩:=y;simp only[Qm,PG.cells]at c1;simp only[ov,Qe y,Xl,L.av,Xm]at c1 c2 c3 c4;dsimp only at e3;refine wF Tryz.func23 ?_;simp only[eK,Tryz.f23,seval];simp only[Xl,eE,seval];refine aC c1 ?_;simp only[eE,seval];refine aC c2 ?_;refine aC c3 ?_;refine aC c4 ?_;simp only[e3,ov,Qe y,eE,seval]<;>rfl

include hM hm hN hW hR hw hr in
theorem Wu (s:List UInt8)(hp:0≤QZ s R)(v:V)(hv:v.ok M)(hc:v.cnt≤300)(he:(Jl W s v).2=0) :
  Qi Tryz.prog 11 [W.av,R.av,.str s,v.av,.int .i64 1] (ov (Ui R N s (Jl W s v).1 Xm)):=by
 obtain⟨ha,hf,hx,hl⟩:=QbJ he;have hb:0≤QZ s R∧QZ s R<(R.progs.length:Int):=by
  rcases W7 s R with h|h
  ·omega
  ·exact h
 obtain⟨n1,n2,_,n4⟩:=QbI hw hf hc;obtain⟨_,hmf⟩:=Yu hf;have oy:=Bk (R5 hW (C3 hw)) 16 (QZ s W) v hv;have f1:=Tt W hW.len1 s;have f2:=Tt R hR.len1 s;have f3:=v19 hW (Ku hw) (QZ s W) v hv;have f4:=v26 hW (Ku hw) (ZC hw) (DW hw) 16 (QZ s W) _ (UQ ha) ha.1 v hv (by omega) (FS _ _ _ hmf);have f5:=c23 (N:=N) hM hm hN W R hW hR hw hr (QZ s W) (QZ s R) ha hb s rfl _ oy n4 n1 (by rw[n2];exact hl);rw[n2,←hx]at f5;unfold Di at f1 f2;rw[show XW (fun g:PG=>g.name==s) W.progs 0=QZ s W from rfl,QmC (by omega),Qou ha.1]at f1;rw[show XW (fun g:PG=>g.name==s) R.progs 0=QZ s R from rfl,QmC (by omega),Qou hb.1]at f2;rw[hf]at f3;generalize Zb W 16 (Qq W (QZ s W)) v=u at f4 f5;generalize Ui R N s (Jl W s v).1 Xm=y at f5 ⊢;obtain⟨y,e⟩:=y;rw[show W.av=.agg (Xl W)from rfl]at f1 f3 f4 f5;rw[show R.av=.agg (Xl R)from rfl]at f2 f5;rw[show W.av=.agg (Xl W)from rfl,show R.av=.agg (Xl R)from rfl,Qe v];rw[Qe v]at f3 f4;rw[Qe u]at f4 f5;simp only[ov,Qe y,Xl]at f1 f2 f3 f4 f5;refine wF Tryz.func11 ?_;simp only[eK,Tryz.f11,seval];simp only[Xl,eE,seval];refine EY (by first|rfl|simp only[eE,seval]) ?_;refine Gv (l:=0) (s:=19) (p:=0) (ks:=[]) (vs:=[]) (k:=.n 1) (by first|rfl|simp only[eE,seval]) (by first|rfl|simp only[eE,seval]) rfl rfl rfl rfl rfl ?_;refine Gv (l:=0) (s:=19) (p:=0) (ks:=[.n 1]) (vs:=[.fn (.func 23) [] []]) (k:=.n 2) (by first|rfl|simp only[eE,seval]) (by first|rfl|simp only[eE,seval]) rfl rfl rfl rfl rfl ?_;refine Gv (l:=0) (s:=19) (p:=0) (ks:=[.n 1,.n 2]) (vs:=[.fn (.func 23) [] [],.fn (.func 24) [] []]) (k:=.n 4) (by first|rfl|simp only[eE,seval]) (by first|rfl|simp only[eE,seval]) rfl rfl rfl rfl rfl ?_;simp only[WX,Am.KZ,keys,Zc,J3,MK.eq,MK.t,QnI,QnJ,AV.gr,List.isEmpty_nil,Bool.and_self,QnG,cond_true,cond_false,eE,seval];refine aC f1 ?_;simp only[eE,seval];refine aC f2 ?_;simp only[eE,seval];refine aC f3 ?_;simp only[eE,seval];refine aC f4 ?_;refine J6 (k:=23) (fa:=[]) (fb:=[]) (by simp only[eE,seval]) f5 rfl rfl rfl (.inl rfl) ?_;simp only[ov,Qe y,eE,seval]<;>rfl
end
end Go.Proofs.YtkhpgmeokilhaaaGreatDoor.Va

namespace Go.Proofs.YtkhpgmeokilhaaaGreatDoor.Va
open Go Am Rc Bt Br Up So

noncomputable def sm (v w:V):Bool:=@decide (v=w) (Classical.propDecidable _)
theorem Au {v w:V}:sm v w=true↔v=w:=by
 unfold sm;exact @decide_eq_true_iff _ (Classical.propDecidable _)
theorem KP {v w:V}(h:v≠w):sm v w=false:=by
 cases e:sm v w
 ·rfl
 ·exact absurd (Au.1 e) h
theorem Mf {v w:V}(h:v=w):sm v w=true:=Au.2 h

theorem Uk {α:Type}{l r:List α}{i:Nat}{x:α}(h:l.take i=r.take i)(hx:l[i]? = some x)(hy:r[i]? = some x):l.take (i+1)=r.take (i+1):=by
 rw[Qok,Qok,h,hx,hy]
theorem YB {α:Type}{l r:List α}{i:Nat}{x y:α}(hx:l[i]? = some x)(hy:r[i]? = some y)(h:x≠y):l≠r:=by
 intro e;rw[e,hy]at hx;cases hx;exact h rfl

section
variable (v w:V)(fr:Nat→Ob)(m2':fr 2=.cells (Yh v))(m3':fr 3=.cells (Yh w))(f:Fr)(h2:f 2=.ptr 0 2 0)(h3:f 3=.ptr 0 3 0)(Q:Exit→St→Prop)
include m2' m3' h2 h3

theorem QbK (hl:v.list.length=w.list.length)(hn:v.list.length≤maxLen)(hx:∀x∈v.list,∀y∈w.list,Qi Tryz.prog 27 [x.av,y.av] (.bool (sm x y)))(h5:f 5=.int .i64 0)
  (q:∀f,f 2=.ptr 0 2 0→f 3=.ptr 0 3 0→v.list=w.list→Q (.exit 0) (⟨f,[fr],[]⟩:St)) (qr:∀f,f 4=.bool false→v.list≠w.list→Q .ret (⟨f,[fr],[]⟩:St)) :
  QR Tryz.prog (.loop Iq) ⟨f,[fr],[]⟩ Q:=by
 let I:Nat→St→Prop:=fun k st=>∃f i,st=⟨f,[fr],[]⟩∧k=v.list.length-i∧v.list.take i=w.list.take i∧f 2=.ptr 0 2 0∧f 3=.ptr 0 3 0∧f 5=.int .i64 (i:Nat)
 refine Qk I _ ⟨f,0,rfl,rfl,rfl,h2,h3,h5⟩ ?_;clear h2 h3 h5;rintro _ st ⟨f,i,rfl,rfl,ht,h2,h3,h5⟩;have m2:=m2';have m3:=m3';simp only[Yh]at m2 m3;simp only[Qnq,h2,h3,h5,m2,m3,eE,seval];by_cases hlt:i<v.list.length
 ·obtain⟨x,hi⟩:∃x,v.list[i]? = some x:=⟨v.list[i],Qmv hlt⟩;obtain⟨y,hj⟩:∃y,w.list[i]? = some y:=⟨w.list[i]'(by omega),Qmv (by omega)⟩;have hg:=He hi;have hg2:=He hj;have e1:=Qw i _ hlt hn;have c1:=hx x (QmJ hi) y (QmJ hj);rw[Qe x,Qe y]at c1;simp only[QD hlt,Qv,QnY,Qf,hg,hg2,h2,h3,h5,m2,m3,eE,seval];refine aC c1 ?_;by_cases hxy:x=y
  ·have s1:=Mf hxy;subst hxy;simp only[s1,h2,h3,h5,m2,m3,e1,eE,seval];exact⟨v.list.length-(i+1),by omega,_,i+1,rfl,rfl,Uk ht hi hj,(by first|rfl|exact h2|simp only[h2,eE,seval]),(by first|rfl|exact h3|simp only[h3,eE,seval]),(by first|rfl|simp only[eE,seval])⟩
  ·have s1:=KP hxy;simp only[s1,h2,h3,h5,m2,m3,eE,seval];exact qr _ (by first|rfl|simp only[eE,seval]) (YB hi hj hxy)
 ·rw[Qm5 (by omega),Qm5 (by omega)]at ht;simp only[QI hlt,h2,h3,h5,m2,m3,eE,seval];exact q _ (by first|rfl|exact h2|simp only[h2,eE,seval]) (by first|rfl|exact h3|simp only[h3,eE,seval]) ht

theorem EZ (hl:v.pairs.length=w.pairs.length)(hn:v.pairs.length≤maxLen)(hx:∀x∈v.pairs,∀y∈w.pairs,Qi Tryz.prog 27 [x.1.av,y.1.av] (.bool (sm x.1 y.1))∧Qi Tryz.prog 27 [x.2.av,y.2.av] (.bool (sm x.2 y.2)))(h6:f 6=.int .i64 0)
  (q:∀f,f 2=.ptr 0 2 0→f 3=.ptr 0 3 0→v.pairs=w.pairs→Q (.exit 2) (⟨f,[fr],[]⟩:St)) (qr:∀f,f 4=.bool false→v.pairs≠w.pairs→Q .ret (⟨f,[fr],[]⟩:St)) :
  QR Tryz.prog (.loop Ir) ⟨f,[fr],[]⟩ Q:=by
 let I:Nat→St→Prop:=fun k st=>∃f i,st=⟨f,[fr],[]⟩∧k=v.pairs.length-i∧v.pairs.take i=w.pairs.take i∧f 2=.ptr 0 2 0∧f 3=.ptr 0 3 0∧f 6=.int .i64 (i:Nat)
 refine Qk I _ ⟨f,0,rfl,rfl,rfl,h2,h3,h6⟩ ?_;clear h2 h3 h6;rintro _ st ⟨f,i,rfl,rfl,ht,h2,h3,h6⟩;have m2:=m2';have m3:=m3';simp only[Yh]at m2 m3;simp only[Qnq,h2,h3,h6,m2,m3,eE,seval];by_cases hlt:i<v.pairs.length
 ·obtain⟨x,hi⟩:∃x,v.pairs[i]? = some x:=⟨v.pairs[i],Qmv hlt⟩;obtain⟨y,hj⟩:∃y,w.pairs[i]? = some y:=⟨w.pairs[i]'(by omega),Qmv (by omega)⟩;have hg:=WG hi;have hg2:=WG hj;have e1:=Qw i _ hlt hn;obtain⟨c1,c2⟩:=hx x (QmJ hi) y (QmJ hj);rw[Qe x.1,Qe y.1]at c1;rw[Qe x.2,Qe y.2]at c2;simp only[QD hlt,Qv,QnY,Qf,hg,hg2,h2,h3,h6,m2,m3,eE,seval];refine aC c1 ?_;by_cases hxy:x.1=y.1
  case neg=>
   have s1:=KP hxy;simp only[s1,h2,h3,h6,m2,m3,eE,seval];exact qr _ (by first|rfl|simp only[eE,seval]) (YB hi hj fun e=>hxy (by rw[e]))
  have s1:=Mf hxy;simp only[s1,Qv,QnY,Qf,hg,hg2,h2,h3,h6,m2,m3,eE,seval];refine aC c2 ?_;by_cases hxz:x.2=y.2
  ·have s2:=Mf hxz;have e:x=y:=Prod.ext hxy hxz;subst e;simp only[s2,h2,h3,h6,m2,m3,e1,eE,seval];exact⟨v.pairs.length-(i+1),by omega,_,i+1,rfl,rfl,Uk ht hi hj,(by first|rfl|exact h2|simp only[h2,eE,seval]),(by first|rfl|exact h3|simp only[h3,eE,seval]),(by first|rfl|simp only[eE,seval])⟩
  ·have s2:=KP hxz;simp only[s2,h2,h3,h6,m2,m3,eE,seval];exact qr _ (by first|rfl|simp only[eE,seval]) (YB hi hj fun e=>hxz (by rw[e]))
 ·rw[Qm5 (by omega),Qm5 (by omega)]at ht;simp only[QI hlt,h2,h3,h6,m2,m3,eE,seval];exact q _ (by first|rfl|exact h2|simp only[h2,eE,seval]) (by first|rfl|exact h3|simp only[h3,eE,seval]) ht

theorem E0 (hl:v.slots.length=w.slots.length)(hn:v.slots.length≤maxLen)(hx:∀x∈v.slots,∀y∈w.slots,Qi Tryz.prog 27 [x.2.av,y.2.av] (.bool (sm x.2 y.2)))(h7:f 7=.int .i64 0)
  (q:∀f,f 2=.ptr 0 2 0→f 3=.ptr 0 3 0→v.slots=w.slots→Q (.exit 4) (⟨f,[fr],[]⟩:St)) (qr:∀f,f 4=.bool false→v.slots≠w.slots→Q .ret (⟨f,[fr],[]⟩:St)) :
  QR Tryz.prog (.loop Is) ⟨f,[fr],[]⟩ Q:=by
 let I:Nat→St→Prop:=fun k st=>∃f i,st=⟨f,[fr],[]⟩∧k=v.slots.length-i∧v.slots.take i=w.slots.take i∧f 2=.ptr 0 2 0∧f 3=.ptr 0 3 0∧f 7=.int .i64 (i:Nat)
 refine Qk I _ ⟨f,0,rfl,rfl,rfl,h2,h3,h7⟩ ?_;clear h2 h3 h7;rintro _ st ⟨f,i,rfl,rfl,ht,h2,h3,h7⟩;have m2:=m2';have m3:=m3';simp only[Yh]at m2 m3;simp only[Qnq,h2,h3,h7,m2,m3,eE,seval];by_cases hlt:i<v.slots.length
 ·obtain⟨x,hi⟩:∃x,v.slots[i]? = some x:=⟨v.slots[i],Qmv hlt⟩;obtain⟨y,hj⟩:∃y,w.slots[i]? = some y:=⟨w.slots[i]'(by omega),Qmv (by omega)⟩;have hg:=WH hi;have hg2:=WH hj;have e1:=Qw i _ hlt hn;have c1:=hx x (QmJ hi) y (QmJ hj);rw[Qe x.2,Qe y.2]at c1;by_cases hxy:x.1=y.1
  case neg=>
   have d1:(x.1 != y.1)=true:=by simp[hxy]
   simp only[QD hlt,Qv,QnY,Qf,hg,hg2,d1,h2,h3,h7,m2,m3,eE,seval];exact qr _ (by first|rfl|simp only[eE,seval]) (YB hi hj fun e=>hxy (by rw[e]))
  have d1:(x.1 != y.1)=false:=by simp[hxy]
  simp only[QD hlt,Qv,QnY,Qf,hg,hg2,d1,h2,h3,h7,m2,m3,eE,seval];refine aC c1 ?_;by_cases hxz:x.2=y.2
  ·have s2:=Mf hxz;have e:x=y:=Prod.ext hxy hxz;subst e;simp only[s2,h2,h3,h7,m2,m3,e1,eE,seval];exact⟨v.slots.length-(i+1),by omega,_,i+1,rfl,rfl,Uk ht hi hj,(by first|rfl|exact h2|simp only[h2,eE,seval]),(by first|rfl|exact h3|simp only[h3,eE,seval]),(by first|rfl|simp only[eE,seval])⟩
  ·have s2:=KP hxz;simp only[s2,h2,h3,h7,m2,m3,eE,seval];exact qr _ (by first|rfl|simp only[eE,seval]) (YB hi hj fun e=>hxz (by rw[e]))
 ·rw[Qm5 (by omega),Qm5 (by omega)]at ht;simp only[QI hlt,h2,h3,h7,m2,m3,eE,seval];exact q _ (by first|rfl|exact h2|simp only[h2,eE,seval]) (by first|rfl|exact h3|simp only[h3,eE,seval]) ht

theorem QbL (hl:v.raws.length=w.raws.length)(hn:v.raws.length≤maxLen)(h8:f 8=.int .i64 0)
  (q:∀f,f 2=.ptr 0 2 0→f 3=.ptr 0 3 0→v.raws=w.raws→Q (.exit 6) (⟨f,[fr],[]⟩:St)) (qr:∀f,f 4=.bool false→v.raws≠w.raws→Q .ret (⟨f,[fr],[]⟩:St)) :
  QR Tryz.prog (.loop It) ⟨f,[fr],[]⟩ Q:=by
 let I:Nat→St→Prop:=fun k st=>∃f i,st=⟨f,[fr],[]⟩∧k=v.raws.length-i∧v.raws.take i=w.raws.take i∧f 2=.ptr 0 2 0∧f 3=.ptr 0 3 0∧f 8=.int .i64 (i:Nat)
 refine Qk I _ ⟨f,0,rfl,rfl,rfl,h2,h3,h8⟩ ?_;clear h2 h3 h8;rintro _ st ⟨f,i,rfl,rfl,ht,h2,h3,h8⟩;have m2:=m2';have m3:=m3';simp only[Yh]at m2 m3;simp only[Qnq,h2,h3,h8,m2,m3,eE,seval];by_cases hlt:i<v.raws.length
 ·obtain⟨x,hi⟩:∃x,v.raws[i]? = some x:=⟨v.raws[i],Qmv hlt⟩;obtain⟨y,hj⟩:∃y,w.raws[i]? = some y:=⟨w.raws[i]'(by omega),Qmv (by omega)⟩;have hg:=Ry hi;have hg2:=Ry hj;have e1:=Qw i _ hlt hn;by_cases hxy:x=y
  ·subst hxy;simp only[QD hlt,Qv,QnY,Qf,hg,hg2,QnG,h2,h3,h8,m2,m3,e1,eE,seval];exact⟨v.raws.length-(i+1),by omega,_,i+1,rfl,rfl,Uk ht hi hj,(by first|rfl|exact h2|simp only[h2,eE,seval]),(by first|rfl|exact h3|simp only[h3,eE,seval]),(by first|rfl|simp only[eE,seval])⟩
  ·have d1:(x.num==y.num&&(x.wire==y.wire&&(((x.bits:Nat):Int)==((y.bits:Nat):Int)&&x.data==y.data)))=false:=by
    rw[Qoq];intro e;simp only[QmT,QmA]at e;obtain⟨e1,e2,e3,e4⟩:=e;refine hxy ?_;cases x;cases y;simp only at e1 e2 e3 e4;have e5:=Int.ofNat_inj.1 e3;subst e1 e2 e5 e4;rfl
   have d2:=congrArg (fun b=>!b) d1;simp only[QnE]at d2;simp only[QD hlt,Qv,QnY,Qf,hg,hg2,d1,d2,QnK,h2,h3,h8,m2,m3,eE,seval];exact qr _ (by first|rfl|simp only[eE,seval]) (YB hi hj hxy)
 ·rw[Qm5 (by omega),Qm5 (by omega)]at ht;simp only[QI hlt,h2,h3,h8,m2,m3,eE,seval];exact q _ (by first|rfl|exact h2|simp only[h2,eE,seval]) (by first|rfl|exact h3|simp only[h3,eE,seval]) ht

end

theorem V.ext7 {v w:V}(h1:v.kd=w.kd)(h2:v.bits=w.bits)(h3:v.text=w.text)(h4:v.list=w.list)(h5:v.pairs=w.pairs)(h6:v.slots=w.slots)(h7:v.raws=w.raws):v=w:=by
 cases v;cases w;simp only[V.kd,V.bits,V.text,V.list,V.pairs,V.slots,V.raws]at h1 h2 h3 h4 h5 h6 h7;subst h1 h2 h3 h4 h5 h6 h7;rfl

theorem u27 {M:Nat}:∀v:V,v.ok M→∀w:V,w.ok M→Qi Tryz.prog 27 [v.av,w.av] (.bool (sm v w)):=by
 refine V.ind (P:=fun v=>v.ok M→∀w:V,w.ok M→Qi Tryz.prog 27 [v.av,w.av] (.bool (sm v w))) ?_;intro v hl hp hs hv w hw;have n1:=hv.nl;have n2:=hv.np;have n3:=hv.ns;have n4:=hv.nr;rw[show v.av=.agg (Yh v)from Qe v,show w.av=.agg (Yh w)from Qe w];by_cases a1:v.kd=w.kd
 case neg=>
  have d1:(v.kd != w.kd)=true:=by simp[a1]
  have s1:sm v w=false:=KP fun e=>a1 (by rw[e])
  rw[s1];refine No.fn (by simp) ?_;simp only[Yh,d1,eE,seval]
 have d1:(v.kd != w.kd)=false:=by simp[a1]
 by_cases a2:v.bits=w.bits
 case neg=>
  have d2:((v.bits:Int) != (w.bits:Int))=true:=by rw[QmY];omega
  have s1:sm v w=false:=KP fun e=>a2 (by rw[e])
  rw[s1];refine No.fn (by simp) ?_;simp only[Yh,d1,d2,eE,seval]
 have d2:((v.bits:Int) != (w.bits:Int))=false:=by rw[bne_eq_false_iff_eq];omega
 by_cases a3:v.text=w.text
 case neg=>
  have d3:(v.text==w.text)=false:=by simp[a3]
  have s1:sm v w=false:=KP fun e=>a3 (by rw[e])
  rw[s1];refine No.fn (by simp) ?_;simp only[Yh,d1,d2,d3,QP,eE,seval]
 have d3:(v.text==w.text)=true:=by simp[a3]
 by_cases a4:v.list.length=w.list.length
 case neg=>
  have d4:((v.list.length:Int) != (w.list.length:Int))=true:=by rw[QmY];omega
  have s1:sm v w=false:=KP fun e=>a4 (by rw[e])
  rw[s1];refine No.fn (by simp) ?_;simp only[Yh,d1,d2,d3,d4,QP,Qnq,eE,seval]
 have d4:((v.list.length:Int) != (w.list.length:Int))=false:=by rw[bne_eq_false_iff_eq];omega
 by_cases a5:v.pairs.length=w.pairs.length
 case neg=>
  have d5:((v.pairs.length:Int) != (w.pairs.length:Int))=true:=by rw[QmY];omega
  have s1:sm v w=false:=KP fun e=>a5 (by rw[e])
  rw[s1];refine No.fn (by simp) ?_;simp only[Yh,d1,d2,d3,d4,d5,QP,Qnq,eE,seval]
 have d5:((v.pairs.length:Int) != (w.pairs.length:Int))=false:=by rw[bne_eq_false_iff_eq];omega
 by_cases a6:v.slots.length=w.slots.length
 case neg=>
  have d6:((v.slots.length:Int) != (w.slots.length:Int))=true:=by rw[QmY];omega
  have s1:sm v w=false:=KP fun e=>a6 (by rw[e])
  rw[s1];refine No.fn (by simp) ?_;simp only[Yh,d1,d2,d3,d4,d5,d6,QP,Qnq,eE,seval]
 have d6:((v.slots.length:Int) != (w.slots.length:Int))=false:=by rw[bne_eq_false_iff_eq];omega
 by_cases a7:v.raws.length=w.raws.length
 case neg=>
  have d7:((v.raws.length:Int) != (w.raws.length:Int))=true:=by rw[QmY];omega
  have s1:sm v w=false:=KP fun e=>a7 (by rw[e])
  rw[s1];refine No.fn (by simp) ?_;simp only[Yh,d1,d2,d3,d4,d5,d6,d7,QP,Qnq,eE,seval]
 have d7:((v.raws.length:Int) != (w.raws.length:Int))=false:=by rw[bne_eq_false_iff_eq];omega
 generalize hr:sm v w=r;refine No.fn (by simp) ?_;simp only[Yh,d1,d2,d3,d4,d5,d6,d7,QP,Qnq,eE,seval];refine QbK v w _ (by first|rfl|simp only[eE,seval]) (by first|rfl|simp only[eE,seval]) _ (by first|rfl|simp only[eE,seval]) (by first|rfl|simp only[eE,seval]) _ a4 (by simp only[maxLen];omega) (fun x hx y hy=>hl x hx (hv.list x hx) y (hw.list y hy)) (by first|rfl|simp only[eE,seval]) (fun f h2 h3 b1=>?_) (fun f h4 b1=>?_)
 case refine_2=>
  rw[KP fun e=>b1 (by rw[e])]at hr;subst hr;simp only[h4,eE,seval]
 simp only[h2,h3,eE,seval];refine EZ v w _ (by first|rfl|simp only[eE,seval]) (by first|rfl|simp only[eE,seval]) _ (by first|rfl|exact h2|simp only[h2,eE,seval]) (by first|rfl|exact h3|simp only[h3,eE,seval]) _ a5 (by simp only[maxLen];omega) (fun x hx y hy=>⟨(hp x hx).1 (hv.keys x hx) y.1 (hw.keys y hy),(hp x hx).2 (hv.vals x hx) y.2 (hw.vals y hy)⟩) (by first|rfl|simp only[eE,seval]) (fun f h2 h3 b2=>?_) (fun f h4 b2=>?_)
 case refine_2=>
  rw[KP fun e=>b2 (by rw[e])]at hr;subst hr;simp only[h4,eE,seval]
 simp only[h2,h3,eE,seval];refine E0 v w _ (by first|rfl|simp only[eE,seval]) (by first|rfl|simp only[eE,seval]) _ (by first|rfl|exact h2|simp only[h2,eE,seval]) (by first|rfl|exact h3|simp only[h3,eE,seval]) _ a6 (by simp only[maxLen];omega) (fun x hx y hy=>hs x hx (hv.slots x hx) y.2 (hw.slots y hy)) (by first|rfl|simp only[eE,seval]) (fun f h2 h3 b3=>?_) (fun f h4 b3=>?_)
 case refine_2=>
  rw[KP fun e=>b3 (by rw[e])]at hr;subst hr;simp only[h4,eE,seval]
 simp only[h2,h3,eE,seval];refine QbL v w _ (by first|rfl|simp only[eE,seval]) (by first|rfl|simp only[eE,seval]) _ (by first|rfl|exact h2|simp only[h2,eE,seval]) (by first|rfl|exact h3|simp only[h3,eE,seval]) _ a7 (by simp only[maxLen];omega) (by first|rfl|simp only[eE,seval]) (fun f h2 h3 b4=>?_) (fun f h4 b4=>?_)
 case refine_2=>
  rw[KP fun e=>b4 (by rw[e])]at hr;subst hr;simp only[h4,eE,seval]
 rw[Mf (V.ext7 a1 a2 a3 b1 b2 b3 b4)]at hr;subst hr;simp only[h2,h3,eE,seval]

end Go.Proofs.YtkhpgmeokilhaaaGreatDoor.Va

namespace Go.Proofs.YtkhpgmeokilhaaaGreatDoor.Cl
open Go Am Rc Bt

theorem Gw {sz:Nat}(h0:sz≠0){xs:List AV}(h:xs.all (fun e=>e.cells.length==sz)=true)(hf:QK xs=[]):xs=[]:=by
 cases xs with
 |nil=>rfl
 |cons x xs=>
  have hl:x.cells.length=sz:=by simpa using QmI.1 h x (by simp)
  have:x.cells=[]:=(List.append_eq_nil_iff.1 hf).1;rw[this]at hl;exact absurd hl.symm h0

def Gx (sz:Nat)(args:List AV)(m:Qh):Option (AV×Qh) :=
 match args,m with
 | [.list xs],fr :: m=>bif xs.all (fun e=>e.cells.length==sz)&&Nat.ble xs.length 1000000&&Qn (fr 1000)then some (.vec 0 1000 (Xr (fr 1000)) 0 xs.length false,QG fr 1000 (.vec (Xr (fr 1000)) sz xs) :: m)else none
 |_,_=>none

theorem Gy {P:Program}{k sz:Nat}(hk:∀(xs:List AV) (fr:Nat→Ob) (m:Qh),xs.all (fun e=>e.cells.length==sz)=true→xs.length≤1000000→Qn (fr 1000)=true→
  Qd P k [.list xs] (fr :: m) (fun x m1=>x=.vec 0 1000 (Xr (fr 1000)) 0 xs.length false∧m1=QG fr 1000 (.vec (Xr (fr 1000)) sz xs) :: m)) {args:List AV} {m m':Qh} {v:AV} (h:Gx sz args m=some (v,m')):Qd P k args m fun x m1=>x=v∧m1=m':=by
 unfold Gx at h;split at h
 ·rename_i xs fr m0;cases hb:(xs.all (fun e=>e.cells.length==sz)&&Nat.ble xs.length 1000000&&Qn (fr 1000))with
  |false=>rw[hb]at h;cases h
  |true=>
   rw[hb]at h;simp only[cond_true,QmW,Prod.mk.injEq]at h;simp only[QmT]at hb;obtain⟨rfl,rfl⟩:=h;exact hk xs fr m0 hb.1.1 (QnZ hb.1.2) hb.2
 ·cases h

theorem c53 (xs:List AV)(fr:Nat→Ob)(m:Qh)(h:xs.all (fun e=>e.cells.length==4)=true)(hn:xs.length≤1000000)(hr:Qn (fr 1000)=true) :
  Qd Tryz.prog 53 [.list xs] (fr :: m) (fun x m1=>x=.vec 0 1000 (Xr (fr 1000)) 0 xs.length false∧m1=QG fr 1000 (.vec (Xr (fr 1000)) 4 xs) :: m):=by
 have hng:Qy (fr :: m) 0 1000=Xr (fr 1000):=Jo;refine k53.go (by simp) ?_;simp only[Ij,P6,P7,eE,seval];refine Jw (ys:=xs) (by simp only[eE,seval]) ?_ ?_
 ·simp only[P9,eE,seval];refine Jp rfl ?_;simp only[eE,seval];refine QN (site:=5) (g:=1) (xs:=[]) (ys:=xs) rfl rfl rfl rfl rfl h (by simp[maxLen];omega) (by simp;omega) ?_;simp only[eE,seval];refine X4 (l:=0) (site:=5) (g:=2) (o:=0) (n:=xs.length) (q:=false) (sz:=4) (xs:=xs) (by simp only[QmU,eE,seval]) (by simp only[eE,seval]) (by simp) (by decide) hr ?_;simp only[hng,MJ,eE,seval]
  try simp[AV.still,AV.un,Zr,XE]
 ·intro he;have hx:xs=[]:=by
   rcases he with he|he
   ·exact he
   ·exact Gw (by decide) h he
  subst hx;simp only[P8,eE,seval];refine Zo (by simp only[eE,seval]) rfl ?_;simp only[eE,seval];refine X4 (l:=0) (site:=2) (g:=1) (o:=0) (n:=0) (q:=false) (sz:=4) (xs:=[]) (by simp only[eE,seval]) (by simp only[eE,seval]) (by simp) (by decide) hr ?_;simp only[hng,MJ,eE,seval]
  try simp[AV.still,AV.un,Zr,XE]

theorem QkI (xs:List AV)(fr:Nat→Ob)(m:Qh)(h:xs.all (fun e=>e.cells.length==8)=true)(hn:xs.length≤1000000)(hr:Qn (fr 1000)=true) :
  Qd Tryz.prog 102 [.list xs] (fr :: m) (fun x m1=>x=.vec 0 1000 (Xr (fr 1000)) 0 xs.length false∧m1=QG fr 1000 (.vec (Xr (fr 1000)) 8 xs) :: m):=by
 have hng:Qy (fr :: m) 0 1000=Xr (fr 1000):=Jo;refine Rf.go (by simp) ?_;simp only[VF,FA,FB,eE,seval];refine Jw (ys:=xs) (by simp only[eE,seval]) ?_ ?_
 ·simp only[FC,eE,seval];refine Jp rfl ?_;simp only[eE,seval];refine QN (site:=5) (g:=1) (xs:=[]) (ys:=xs) rfl rfl rfl rfl rfl h (by simp[maxLen];omega) (by simp;omega) ?_;simp only[eE,seval];refine X4 (l:=0) (site:=5) (g:=2) (o:=0) (n:=xs.length) (q:=false) (sz:=8) (xs:=xs) (by simp only[QmU,eE,seval]) (by simp only[eE,seval]) (by simp) (by decide) hr ?_;simp only[hng,DA,eE,seval]
  try simp[AV.still,AV.un,Zr,XE]
 ·intro he;have hx:xs=[]:=by
   rcases he with he|he
   ·exact he
   ·exact Gw (by decide) h he
  subst hx;simp only[VE,eE,seval];refine Zo (by simp only[eE,seval]) rfl ?_;simp only[eE,seval];refine X4 (l:=0) (site:=2) (g:=1) (o:=0) (n:=0) (q:=false) (sz:=8) (xs:=[]) (by simp only[eE,seval]) (by simp only[eE,seval]) (by simp) (by decide) hr ?_;simp only[hng,DA,eE,seval]
  try simp[AV.still,AV.un,Zr,XE]

theorem QkJ (xs:List AV)(fr:Nat→Ob)(m:Qh)(h:xs.all (fun e=>e.cells.length==7)=true)(hn:xs.length≤1000000)(hr:Qn (fr 1000)=true) :
  Qd Tryz.prog 169 [.list xs] (fr :: m) (fun x m1=>x=.vec 0 1000 (Xr (fr 1000)) 0 xs.length false∧m1=QG fr 1000 (.vec (Xr (fr 1000)) 7 xs) :: m):=by
 have hng:Qy (fr :: m) 0 1000=Xr (fr 1000):=Jo;refine AK.go (by simp) ?_;simp only[Rg,VG,VH,eE,seval];refine Jw (ys:=xs) (by simp only[eE,seval]) ?_ ?_
 ·simp only[VJ,eE,seval];refine Jp rfl ?_;simp only[eE,seval];refine QN (site:=5) (g:=1) (xs:=[]) (ys:=xs) rfl rfl rfl rfl rfl h (by simp[maxLen];omega) (by simp;omega) ?_;simp only[eE,seval];refine X4 (l:=0) (site:=5) (g:=2) (o:=0) (n:=xs.length) (q:=false) (sz:=7) (xs:=xs) (by simp only[QmU,eE,seval]) (by simp only[eE,seval]) (by simp) (by decide) hr ?_;simp only[hng,BC,eE,seval]
  try simp[AV.still,AV.un,Zr,XE]
 ·intro he;have hx:xs=[]:=by
   rcases he with he|he
   ·exact he
   ·exact Gw (by decide) h he
  subst hx;simp only[VI,eE,seval];refine Zo (by simp only[eE,seval]) rfl ?_;simp only[eE,seval];refine X4 (l:=0) (site:=2) (g:=1) (o:=0) (n:=0) (q:=false) (sz:=7) (xs:=[]) (by simp only[eE,seval]) (by simp only[eE,seval]) (by simp) (by decide) hr ?_;simp only[hng,BC,eE,seval]
  try simp[AV.still,AV.un,Zr,XE]

end Go.Proofs.YtkhpgmeokilhaaaGreatDoor.Cl

namespace Go.Proofs.YtkhpgmeokilhaaaGreatDoor.Ew
open Go Am Rc Cl

def nat:W0:=fun k args m=>
 if k=53 then Gx 4 args m
 else if k=102 then Gx 8 args m
 else if k=169 then Gx 7 args m
 else none

theorem nat_ok:WR Tryz.prog nat:=by
 intro k args m v m' h;unfold nat at h;split at h
 ·rename_i e;subst e;exact Gy c53 h
 split at h
 ·rename_i e;subst e;exact Gy QkI h
 split at h
 ·rename_i e;subst e;exact Gy QkJ h
 ·cases h

end Go.Proofs.YtkhpgmeokilhaaaGreatDoor.Ew

namespace Go.Proofs.YtkhpgmeokilhaaaGreatDoor.Rc
open Go Am

def QkK:List Am.Item:=[
  jt 0]
def QkL:List Am.Item:=[
  ⟨(some 6),.val (.build [.int .i64 0,.int .u64 0,.str [],.nils,.nils,.nils,.nils] [(0,1,(.c (.int .i64 5))),(1,1,(.c (.int .u64 5)))]),none⟩,
  ⟨(some 7),.val (.build [.int .i64 0,.int .i64 0,.int .u64 0,.str [],.nils,.nils,.nils,.nils] [(0,1,(.c (.int .i64 1))),(1,7,(.t 6))]),none⟩,
  ⟨(some 8),.bslv 8 8 1 [.int .i64 0,.int .i64 0,.int .u64 0,.str [],.nils,.nils,.nils,.nils] [(0,8,(.t 7))],none⟩,
  ⟨(some 9),.val (.build [.int .i64 0,.int .u64 0,.str [],.nils,.nils,.nils,.nils] [(0,1,(.c (.int .i64 10))),(5,1,(.t 8))]),none⟩,
  jv 1 1,
  jd 7 1 9]
def QkM:List Am.Item:=[
  ⟨(some 11),.call (.f 16) [(.c (.int .i64 5))],none⟩,
  ⟨(some 12),.call (.f 16) [(.c (.int .i64 4))],none⟩,
  yg 13 0 1 7 1,
  ⟨(some 14),.callO 0 8 (.f 11) [(.t 11),(.t 12),(.c (.str [77])),(.t 13),(.c (.int .i64 2))],none⟩,
  ja 10 14,
  jf 15 10 0,
  jf 16 10 1,
  jv 2 2,
  yx 0 2 7 2 15,
  ja 3 16]
def QkN:List Am.Item:=[
  jc 17 5 1,
  jh 18 17,
  ⟨(some 19),.val (.iaddr 8 none (.t 18) (.c (.int .i64 0))),none⟩,
  jc 20 1 19,
  jc 21 1 20,
  ⟨none,.store 1 (.t 21) (.c (.int .u64 4294967296)),none⟩]
def QkO:List Am.Item:=[
  ⟨(some 23),.call (.f 16) [(.c (.int .i64 5))],none⟩,
  ⟨(some 24),.call (.f 16) [(.c (.int .i64 4))],none⟩,
  yg 25 0 1 7 1,
  ⟨(some 26),.callO 0 8 (.f 11) [(.t 23),(.t 24),(.c (.str [77])),(.t 25),(.c (.int .i64 1))],none⟩,
  ja 22 26,
  jf 27 22 0,
  jf 28 22 1,
  jv 4 4,
  yx 0 4 7 4 27,
  ja 5 28]
def QkP:List Am.Item:=[
  ja 29 3,
  jz 30 29 0,
  ja 31 30,
  jg 32 5 31,
  yu 33 32 6 31,
  ji 34 31 33,
  ja 35 34,
  jo 36 5 2 35,
  ju 37 36 35,
  ⟨(some 38),.val (.len 1 (.t 37)),(some (35,true))⟩,
  yu 39 38 1 35,
  ji 40 35 39,
  ja 41 40,
  jo 42 5 2 41,
  ju 43 42 41,
  ⟨(some 44),.val (.iaddr 8 none (.t 43) (.c (.int .i64 0))),(some (41,true))⟩,
  jo 45 1 44 41,
  jo 46 1 45 41,
  ju 47 46 41,
  ⟨(some 48),.val (.bin .num .eql (.t 47) (.c (.int .u64 5))),(some (41,true))⟩,
  ji 49 41 48,
  ja 50 49,
  jo 51 5 2 50,
  ju 52 51 50,
  ⟨(some 53),.val (.iaddr 8 none (.t 52) (.c (.int .i64 0))),(some (50,true))⟩,
  jo 54 1 53 50,
  jo 55 0 54 50,
  ju 56 55 50,
  yu 57 56 4 50,
  ji 58 50 57,
  ja 0 58]
def r6:RC:=jQ QkK (jQ QkL (jD QkM (jQ QkN (jD QkO (jQ QkP (.ret))))))
def o6:List RR:=[.tmp 0]
theorem k6:CK Tryz.prog 6 59 r6 o6:=ck Tryz.func6 Tryz.ntmps6 (by decide +kernel)

def Qgz:List Am.Item:=[
  jl 5 5 0,
  jl 6 6 1,
  jl 8 8 3,
  jv 10 10,
  je 11 0]
def QgA:List Am.Item:=[
  ⟨(some 19),.mkm 19,none⟩,
  ⟨none,.mput false (.t 19) (.c (.int .i64 1)) (.f 23),none⟩,
  ⟨none,.mput false (.t 19) (.c (.int .i64 2)) (.f 24),none⟩,
  ⟨none,.mput false (.t 19) (.c (.int .i64 4)) (.f 25),none⟩,
  ja 20 19,
  ja 12 20]
def QgB:List Am.Item:=[
  ja 22 12,
  ja 23 4,
  ⟨(some 24),.val (.mget false true (.nilf) (.t 22) (.t 23)),none⟩,
  ja 21 24,
  jf 25 21 0,
  jf 26 21 1,
  ja 13 25,
  ja 14 26]
def QgC:List Am.Item:=[
  ja 27 14,
  yc 28 27]
def QgD:List Am.Item:=[
  ⟨(some 29),.val (.build [.int .i64 0,.int .u64 0,.str [],.nils,.nils,.nils,.nils] []),none⟩,
  jd 7 10 29,
  je 11 1]
def QgE:List Am.Item:=[
  jb 31 2 5,
  ja 32 2,
  jx 33 17 31 32,
  ja 30 33,
  jf 34 30 0,
  jf 35 30 1,
  ja 15 34,
  ja 14 35]
def QgF:List Am.Item:=[
  jb 37 2 6,
  ja 38 2,
  jx 39 17 37 38,
  ja 36 39,
  jf 40 36 0,
  jf 41 36 1,
  ja 16 40,
  ja 17 41]
def QgG:List Am.Item:=[
  ja 42 14,
  yc 43 42,
  ja 44 43,
  jq 45 17 44,
  yn 46 45 44,
  jk 47 44 46]
def QgH:List Am.Item:=[
  ⟨(some 48),.val (.build [.int .i64 0,.int .u64 0,.str [],.nils,.nils,.nils,.nils] []),none⟩,
  jd 7 10 48,
  je 11 10]
def QgI:List Am.Item:=[
  jb 49 2 5,
  ja 50 15,
  jb 51 7 8,
  yl 52 19 49 50 51,
  ja 18 52]
def Qe1:List Am.Item:=[
  ja 53 18,
  js 54 53 0]
def Qe2:List Am.Item:=[
  ⟨(some 55),.val (.build [.int .i64 0,.int .u64 0,.str [],.nils,.nils,.nils,.nils] []),none⟩,
  ja 56 18,
  jd 7 10 55,
  ja 11 56]
def Qe3:List Am.Item:=[
  ja 57 13,
  yg 58 0 5 2 5,
  yg 59 0 6 2 6,
  ja 60 15,
  ja 61 16,
  yg 62 0 5 2 5,
  ja 63 15,
  yg 64 0 8 7 8,
  ⟨(some 65),.callO 1 8 (.f 26) [(.t 62),(.t 63),(.t 64)],none⟩,
  ⟨(some 66),.call (.t 57) [(.t 58),(.t 59),(.t 60),(.t 61),(.t 65)],none⟩,
  jf 67 66 0,
  jf 68 66 1,
  yx 0 10 7 10 67,
  ja 11 68]
def NP:RC:=jQ Qgz (jQ QgA (jQ QgB (.seq (jQ QgC (.cond (.t 28) (jQ QgD (.ret)) (.skip))) (jQ QgE (jQ QgF (.seq (jQ QgG (.cond (.t 47) (jQ QgH (.ret)) (.skip))) (.seq (jQ QgI (jQ Qe1 (.cond (.t 54) (jQ Qe2 (.ret)) (.skip)))) (jD Qe3 (.ret)))))))))
def o11:List RR:=[.cell 10 (some 7),.tmp 11]
theorem k11:CK Tryz.prog 11 69 NP o11:=ck Tryz.func11 Tryz.ntmps11 (by decide +kernel)

def QgJ:List Am.Item:=[
  jl 3 3 0,
  jl 5 5 2,
  jv 6 6]
def QgK:List Am.Item:=[
  jc 14 6 5,
  jh 15 14,
  ⟨(some 16),.callF (.f 53) [(.t 15)],none⟩,
  ⟨(some 17),.val (.build [.int .i64 0,.int .u64 0,.str [],.nils,.nils,.nils,.nils] [(0,1,(.c (.int .i64 10))),(6,1,(.t 16))]),none⟩,
  jv 7 7,
  jd 7 7 17]
def QgL:List Am.Item:=[
  ja 18 1,
  ⟨(some 19),.val (.bin .num .lss (.t 18) (.c (.int .i64 0))),none⟩,
  ja 20 19,
  jq 21 1 20,
  jj 22 0 3 20,
  jm 23 22 20,
  ya 24 1 23 20,
  ⟨(some 25),.val (.bin .num .geq (.t 21) (.t 24)),(some (20,false))⟩,
  jk 26 20 25]
def QgM:List Am.Item:=[
  jb 27 7 7,
  jd 7 6 27]
def QgN:List Am.Item:=[
  jc 28 5 5,
  jh 29 28,
  ⟨(some 30),.callF (.f 54) [(.t 29)],none⟩,
  jn 31 1 30,
  je 32 0]
def QgO:List Am.Item:=[
  jw 33 32 31]
def QgP:List Am.Item:=[
  jr 34 8 30 32,
  jb 35 8 34,
  ⟨(some 9),.allocN 9 [.int .i64 0,.int .i64 0,.int .u64 0,.str [],.nils,.nils,.nils,.nils],none⟩,
  jd 8 9 35]
def QgQ:List Am.Item:=[
  jc 37 0 3,
  ye 38 0 3 37,
  ja 39 1,
  jr 40 3 38 39,
  yj 41 3 40,
  jc 42 0 9,
  ye 43 0 9 42,
  jx 44 55 41 43,
  ja 36 44,
  jf 45 36 0,
  jf 46 36 1,
  yq 10 10,
  yx 0 10 8 10 45,
  ja 11 46]
def QgR:List Am.Item:=[
  jc 47 3 10,
  jh 48 47,
  jz 49 48 3,
  ja 50 49,
  jj 51 3 10 50,
  jm 52 51 50,
  yw 53 52 4 50,
  jk 54 50 53,
  ja 55 54,
  jj 56 3 10 55,
  jm 57 56 55,
  yw 58 57 5 55,
  jk 59 55 58,
  ja 12 59]
def QgS:List Am.Item:=[
  jb 60 2 3,
  jb 61 8 10,
  jc 62 1 9,
  jb 63 7 62,
  yl 64 56 60 61 63,
  jv 13 13,
  jd 7 13 64]
def Qe4:List Am.Item:=[
  ja 65 12,
  yc 66 65,
  ja 67 66,
  ⟨(some 68),.val (.load (some 7) (.t 13)),(some (67,false))⟩,
  ⟨(some 69),.call (.f 57) [(.t 68)],(some (67,false))⟩,
  yn 70 69 67,
  jk 71 67 70]
def Qe5:List Am.Item:=[
  jc 72 5 7,
  jh 73 72,
  jc 74 0 9,
  jh 75 74,
  jb 76 7 13,
  ⟨(some 77),.val (.build [.int .i64 0,.int .i64 0,.int .u64 0,.str [],.nils,.nils,.nils,.nils] [(0,1,(.t 75)),(1,7,(.t 76))]),none⟩,
  ⟨(some 78),.bsl 8 1 [.int .i64 0,.int .i64 0,.int .u64 0,.str [],.nils,.nils,.nils,.nils] [(0,8,(.t 77))],none⟩,
  yh 79 8 136 52 73 78,
  jc 80 5 7,
  jd 1 80 79]
def Qe6:List Am.Item:=[
  jp 81 32 1,
  ja 32 81]
def QgT:RC:=.gho (.drop 13) (.gho (.drop 10) (.gho (.drop 9) (jQ QgO (.seq (jX 33 0) (.seq (.block 1 (jQ QgP (jD QgQ (jQ QgR (jQ QgS (jQ Qe4 (.cond (.t 71) (.reg Qe5) (.skip)))))))) (.reg Qe6))))))
def Qe7:List Am.Item:=[
  jc 82 6 7,
  jh 83 82,
  ⟨(some 84),.callF (.f 58) [(.t 83),(.f 59)],none⟩]
def Qe8:List Am.Item:=[
  jb 85 7 7,
  jd 7 6 85]
def r26:RC:=jQ QgJ (jQ QgK (.gho (.vecc 7 5 1100 8) (.seq (jQ QgL (.cond (.t 26) (jQ QgM (.ret)) (.skip))) (.seq (jQ QgN (.block 0 (.loop QgT))) (jQ Qe7 (jQ Qe8 (.ret)))))))
def o26:List RR:=[.cell 6 (some 7)]
theorem k26:CK Tryz.prog 26 86 r26 o26:=ck Tryz.func26 Tryz.ntmps26 (by decide +kernel)

def QgU:List Am.Item:=[
  yb 2]
def QgV:List Am.Item:=[
  ja 7 0,
  ⟨(some 8),.callF (.f 102) [(.t 7)],none⟩,
  ja 3 8]
def QgW:List Am.Item:=[
  ja 9 3,
  ⟨(some 10),.callF (.f 103) [(.t 9),(.f 104)],none⟩]
def QgX:List Am.Item:=[
  yb 4]
def QgY:List Am.Item:=[
  ja 11 3,
  jn 12 1 11,
  je 13 0]
def QgZ:List Am.Item:=[
  jw 14 13 12]
def Qg0:List Am.Item:=[
  ja 15 13,
  jr 16 8 11 13,
  jb 17 8 16,
  ⟨(some 6),.allocN 6 [.int .i64 0,.int .i64 0,.int .u64 0,.str [],.nils,.nils,.nils,.nils],none⟩,
  ja 5 15,
  jd 8 6 17]
def Qg1:List Am.Item:=[
  ja 18 5,
  jp 19 18 1,
  ja 20 3,
  jn 21 1 20,
  ⟨(some 22),.val (.bin .num .eql (.t 19) (.t 21)),none⟩,
  ja 23 22,
  jj 24 0 6 23,
  yy 25 0 6 24 23,
  jq 26 3 23,
  jq 27 5 23,
  ⟨(some 28),.val (.bin .num .add (.t 27) (.c (.int .i64 1))),(some (23,false))⟩,
  yz 29 8 26 28 23,
  jj 30 0 29 23,
  ⟨(some 31),.val (.loadr none (.t 30)),(some (23,false))⟩,
  yo 32 25 31 23,
  jk 33 23 32]
def Qg2:List Am.Item:=[
  ja 34 4,
  jb 35 8 6,
  ⟨(some 36),.bsl 8 1 [.int .i64 0,.int .i64 0,.int .u64 0,.str [],.nils,.nils,.nils,.nils] [(0,8,(.t 35))],none⟩,
  yh 37 8 136 52 34 36,
  ja 4 37]
def Qg3:List Am.Item:=[
  jp 38 13 1,
  ja 13 38]
def Qg4:RC:=.gho (.drop 6) (jQ QgZ (.seq (jX 14 0) (.seq (.block 1 (jQ Qg0 (jD Qg1 (.cond (.t 33) (.reg Qg2) (.skip))))) (.reg Qg3))))
def Qe9:List Am.Item:=[
  ja 39 4,
  ja 2 39]
def r54:RC:=jQ QgU (jQ QgV (jQ QgW (jQ QgX (.gho (.vec 4 4 8) (.seq (jQ QgY (.block 0 (.loop Qg4))) (jQ Qe9 (.ret)))))))
def o54:List RR:=[.tmp 2]
theorem k54:CK Tryz.prog 54 40 r54 o54:=ck Tryz.func54 Tryz.ntmps54 (by decide +kernel)

end Go.Proofs.YtkhpgmeokilhaaaGreatDoor.Rc

namespace Go.Proofs.YtkhpgmeokilhaaaGreatDoor.Ew
open Go Am Rc Cl Bt

theorem QkQ {P:Program}{f:Fr}{m:Qh}{ds:List DF}{K:St→Prop}{its:List Am.Item}{d:Nat}{sz bytes el:Nat}{s r:RA}{site g n:Nat}{fr:Nat→Ob}{xs ys:List AV}(hs:s.ev f=.vec 0 site g 0 n false)(hl:fr site=.vec g sz xs)(ht:XY site el=true)(hn:n=xs.length)(hr:QY (fr :: m) (r.ev f)=some ys)(hz:ys.all (fun e=>e.cells.length==sz)=true)(hm:n+ys.length≤maxLen)(hb:(n+ys.length)*bytes≤140737488355328)
  (h:QB P its ⟨QG f d (.vec 0 site (g+1) 0 (n+ys.length) false),QG fr site (.vec (g+1) sz (xs++ys)) :: m,ds⟩ K):QB P (⟨some d,.app sz bytes el s r,none⟩ :: its) ⟨f,fr :: m,ds⟩ K:=by
 refine⟨0,site,g,n,xs,ys,hs,hl,ht,by omega,hr,hz,hm,hb,?_⟩;subst hn;rw[Qn9];exact h

theorem QkR {P:Program}{f:Fr}{m:Qh}{ds:List DF}{K:St→Prop}{its:List Am.Item}{d:Nat}{neg:Bool}{r:RA}{l s g o n:Nat}{q:Bool}{ys:List AV}(hv:r.ev f=.vec l s g o n q)(hr:QY m (.vec l s g o n q)=some ys)(h0:QK ys≠[])(h:QB P its ⟨QG f d (.bool neg),m,ds⟩ K):QB P (⟨some d,.isnil neg r,none⟩ :: its) ⟨f,m,ds⟩ K :=
 ⟨ys,by show QY m (r.ev f)=some ys;rw[hv];exact hr,fun _=>h,fun e=>by
  rcases e with e|e
  ·have e:r.ev f=.nils:=e;rw[hv]at e;cases e
  ·exact absurd e h0⟩

theorem cv (xs:List AV)(fr:Nat→Ob)(m:Qh)(l s g:Nat)(hx:QK xs≠[])(hl:Am.Qc (fr :: m) l s=.vec g 8 xs)(h:xs.all (fun e=>e.cells.length==8)=true)(hn:xs.length≤1000000)(hr:Qn (fr 1000)=true) :
  Qd Tryz.prog 102 [.vec l s g 0 xs.length false] (fr :: m) (fun x m1=>x=.vec 0 1000 (Xr (fr 1000)) 0 xs.length false∧m1=QG fr 1000 (.vec (Xr (fr 1000)) 8 xs) :: m):=by
 have hng:Qy (fr :: m) 0 1000=Xr (fr 1000):=Jo;have he:∀fr0:Nat→Ob,QY (fr0 :: fr :: m) (.vec (l+1) s g 0 xs.length false)=some xs:=by
  intro fr0;have hl':Am.Qc (fr0 :: fr :: m) (l+1) s=.vec g 8 xs:=hl;simp only[QY,hl'];simp
 refine Rf.go (by simp) ?_;simp only[VF,FA,FB,eE,Nat.reduceBEq,Int.reduceLE,Int.reduceLT,Int.reduceToNat,Int.reduceEq,↓reduceIte,reduceCtorEq,Nat.reducePow,Nat.reduceAdd,Nat.reduceLeDiff,Nat.reduceLT,Nat.reduceSub,Nat.reduceEqDiff];refine QkR (l:=l+1) (s:=s) (g:=g) (o:=0) (n:=xs.length) (q:=false) (ys:=xs) (by first|rfl|simp only[eE,Nat.reduceBEq,Int.reduceLE,Int.reduceLT,Int.reduceToNat,Int.reduceEq,↓reduceIte,reduceCtorEq,Nat.reducePow,Nat.reduceAdd,Nat.reduceLeDiff,Nat.reduceLT,Nat.reduceSub,Nat.reduceEqDiff]) (he _) hx ?_
 ·simp only[FC,eE,Nat.reduceBEq,Int.reduceLE,Int.reduceLT,Int.reduceToNat,Int.reduceEq,↓reduceIte,reduceCtorEq,Nat.reducePow,Nat.reduceAdd,Nat.reduceLeDiff,Nat.reduceLT,Nat.reduceSub,Nat.reduceEqDiff];refine Jp rfl ?_;simp only[eE,Nat.reduceBEq,Int.reduceLE,Int.reduceLT,Int.reduceToNat,Int.reduceEq,↓reduceIte,reduceCtorEq,Nat.reducePow,Nat.reduceAdd,Nat.reduceLeDiff,Nat.reduceLT,Nat.reduceSub,Nat.reduceEqDiff];refine QkQ (site:=5) (g:=1) (xs:=[]) (ys:=xs) rfl rfl rfl rfl (he _) h (by simp[maxLen];omega) (by simp;omega) ?_;simp only[eE,Nat.reduceBEq,Int.reduceLE,Int.reduceLT,Int.reduceToNat,Int.reduceEq,↓reduceIte,reduceCtorEq,Nat.reducePow,Nat.reduceAdd,Nat.reduceLeDiff,Nat.reduceLT,Nat.reduceSub,Nat.reduceEqDiff];refine X4 (l:=0) (site:=5) (g:=2) (o:=0) (n:=xs.length) (q:=false) (sz:=8) (xs:=xs) (by simp only[QmU,eE,Nat.reduceBEq,Int.reduceLE,Int.reduceLT,Int.reduceToNat,Int.reduceEq,↓reduceIte,reduceCtorEq,Nat.reducePow,Nat.reduceAdd,Nat.reduceLeDiff,Nat.reduceLT,Nat.reduceSub,Nat.reduceEqDiff]) (by simp only[eE,Nat.reduceBEq,Int.reduceLE,Int.reduceLT,Int.reduceToNat,Int.reduceEq,↓reduceIte,reduceCtorEq,Nat.reducePow,Nat.reduceAdd,Nat.reduceLeDiff,Nat.reduceLT,Nat.reduceSub,Nat.reduceEqDiff]) (by simp) (by decide) hr ?_;simp only[hng,DA,eE,Nat.reduceBEq,Int.reduceLE,Int.reduceLT,Int.reduceToNat,Int.reduceEq,↓reduceIte,reduceCtorEq,Nat.reducePow,Nat.reduceAdd,Nat.reduceLeDiff,Nat.reduceLT,Nat.reduceSub,Nat.reduceEqDiff]
  try simp[AV.still,AV.un,Zr,XE]

def B8 (args:List AV)(m:Qh):Option (AV×Qh) :=
 match args,m with
 | [.vec l s g 0 n false],fr :: m=>match Am.Qc (fr :: m) l s with
  |.vec g' sz xs=>bif g==g'&&sz==8&&n==xs.length && !(QK xs).isEmpty&&xs.all (fun e=>e.cells.length==8)&&Nat.ble xs.length 1000000&&Qn (fr 1000)then some (.vec 0 1000 (Xr (fr 1000)) 0 xs.length false,QG fr 1000 (.vec (Xr (fr 1000)) 8 xs) :: m)else none
  |_=>none
 |_,_=>none
theorem R8 {args:List AV}{m m':Qh}{v:AV}(h:B8 args m=some (v,m')):Qd Tryz.prog 102 args m fun x m1=>x=v∧m1=m':=by
 unfold B8 at h;split at h
 ·rename_i l s g n fr m;split at h
  ·rename_i g' sz xs hl;cases hb:(g==g'&&sz==8&&n==xs.length && !(QK xs).isEmpty&&xs.all (fun e=>e.cells.length==8)&&Nat.ble xs.length 1000000&&Qn (fr 1000))with
   |false=>rw[hb]at h;cases h
   |true=>
    rw[hb]at h;simp only[cond_true,QmW,Prod.mk.injEq]at h;obtain⟨rfl,rfl⟩:=h;simp only[QmT,QmA,Qnt,List.isEmpty_eq_false_iff]at hb;obtain⟨⟨⟨⟨⟨⟨rfl,rfl⟩,rfl⟩,h4⟩,h5⟩,h6⟩,h7⟩:=hb;exact cv xs fr m l s g h4 hl h5 (QnZ h6) h7
  ·cases h
 ·cases h

def E1:W0:=fun k args m=>match (if k=102 then B8 args m else none)with
 |some y=>some y
 |none=>nat k args m
theorem QbM:WR Tryz.prog E1:=by
 intro k args m v m' h;unfold E1 at h;split at h
 ·rename_i y e;cases h;split at e
  ·rename_i ek;subst ek;exact R8 e
  ·cases e
 ·exact nat_ok _ _ _ _ _ h

noncomputable def E2:Nn:=fun k=>match k with
 |6=>some (r6,o6,59)
 |11=>some (NP,o11,69)
 |26=>some (r26,o26,86)
 |54=>some (r54,o54,40)
 |_=>Ev.tab k
theorem QbN:GH Tryz.prog E2:=by
 intro k c rs N h;unfold E2 at h;split at h
 ·cases h;exact k6
 ·cases h;exact k11
 ·cases h;exact k26
 ·cases h;exact k54
 ·exact Ev.QdQ _ _ _ _ h

theorem Av:evT E1 E2 60000 6 []=true:=by decide +kernel

theorem WO:Qi Tryz.prog 6 [] (.bool true):=P5 QbM QbN Av

end Go.Proofs.YtkhpgmeokilhaaaGreatDoor.Ew

namespace Go.Proofs.YtkhpgmeokilhaaaGreatDoor.Va
open Go Am Rc Bt Br Up So Vp Cp

theorem QbO (v:V):sm v v=true:=by unfold sm;simp

theorem Mg {M:Nat}(P:PL)(hP:P.ok M)(hM:M≤140737488351232):Qi Tryz.prog 4 [P.av] (.bool (decide ((P.progs.length:Int)≤8)&&decide ((P.enums.length:Int)≤8)&&ck P==0)):=by
 have e0:P.av=.agg [.list (P.progs.map Qm),.list (P.enums.map QE)]:=rfl;have ct:=z13 P hP hM;rw[e0]at ct;refine wF Tryz.func4 ?_;simp only[eK,Tryz.f4,seval];simp only[e0,Qnq,eE,seval];cases a1:decide ((P.progs.length:Int)≤8)
 ·simp only[a1,Qn1,Qnq,eE,seval]
 cases a2:decide ((P.enums.length:Int)≤8)
 ·simp only[a1,a2,Qoc,Qn1,Qnq,eE,seval]
 simp only[a1,a2,Qoc,Qnq,eE,seval];refine aC ct ?_;simp only[eE,seval]

theorem JN:Qi Tryz.prog 10 [] Xm.av:=by
 refine wF Tryz.func10 ?_;simp only[eK,Tryz.f10,seval];simp only[Xm,L.av,eE,seval]

theorem w5 {M:Nat}(hM:M≤9223372036854775807)(v:V)(hv:v.ok M)(hb:v.cnt≤1048576):Qi Tryz.prog 5 [v.av] (.bool (decide ((v.cnt:Int)≤300)&&decide (IntKind.i64.wrap (v.sz:Int)≤20000))):=by
 have c1:=v14 v hv;have w0:IntKind.i64.wrap (v.cnt:Int)=(v.cnt:Int):=by rw[QC];omega
 rw[w0]at c1;have c2:=w15 hM v hv;rw[Qe v]at c1 c2;rw[Qe v];refine wF Tryz.func5 ?_;simp only[eK,Tryz.f5,seval];simp only[eE,seval];refine aC c1 ?_;cases d:decide ((v.cnt:Int)≤300)
 ·simp only[d,Qn1,eE,seval]
 simp only[d,Qoc,eE,seval];refine aC c2 ?_;simp only[eE,seval]

theorem JB {M:Nat}(y:V)(hy:y.ok M)(e:Int):Qi Tryz.prog 12 [y.av,.int .i64 e,y.av,.int .i64 e] (.bool true):=by
 have c1:=u27 y hy y hy;rw[QbO]at c1;rw[Qe y]at c1 ⊢;refine wF Tryz.func12 ?_;simp only[eK,Tryz.f12,seval];simp only[bne_self_eq_false,eE,seval];by_cases h:e=0
 ·subst h;simp only[bne_self_eq_false,eE,seval];refine aC c1 ?_;simp only[eE,seval]
 ·have b0:(e != 0)=true:=by simp[h]
  simp only[b0,eE,seval]

section
variable {M:Nat}(W R:PL)(hW:W.ok M)(hR:R.ok M)(h1:65536≤M)(hM:M≤140737488351232)(s:List UInt8)(v:V)(hv:v.ok M)(hb:v.cnt≤1048576)

include hW hR h1 hM hv hb in
theorem c3:Qi Tryz.prog 3 [W.av,R.av,.str s,v.av] (.bool true):=by
 obtain⟨N,hN⟩:∃N,65536<N:=⟨65537,by omega⟩;have c1:=Mg W hW hM;have c2:=Mg R hR hM;have c3:=w5 (by omega) v hv hb;have c4:=fun(hk:ck W=0)=>t7 hM W hW (GY hk) hk s v hv hb
 have c5:=y8 R hR.len1 s;have c6:=JN;have c7:=fun(hk:ck R=0) (hd:(Jl W s v).1.length≤65536)=>j9 (N:=N) h1 R hR hk hN s (Jl W s v).1 Xm hd (by decide) (by decide)
 have c8:=fun(hw:ck W=0) (hr:ck R=0) (hp:0≤QZ s R) (hc:v.cnt≤300) (he:(Jl W s v).2=0)=>Wu (N:=N) hM h1 hN W R hW hR hw hr s hp v hv hc he
 have hle:=QeZ W s v;have oy:=fun(hr:ck R=0) (hd:(Jl W s v).1.length≤65536)=>QbA (N:=N) h1 R hR hr hN s (Jl W s v).1 hd
 generalize Jl W s v=q at c4 c7 c8 hle oy;obtain⟨x,e⟩:=q;dsimp only at c4 c7 c8 hle oy;unfold Di at c5;rw[show XW (fun g:PG=>g.name==s) R.progs 0=QZ s R from rfl]at c5;rw[show W.av=.agg (Xl W)from rfl]at c1 c4 c8;rw[show R.av=.agg (Xl R)from rfl]at c2 c5 c7 c8;rw[Qe v]at c3 c4 c8;rw[show W.av=.agg (Xl W)from rfl,show R.av=.agg (Xl R)from rfl,Qe v];generalize Ui R N s x Xm=y at c7 c8 oy;obtain⟨y,g⟩:=y;dsimp only at oy;simp only[ov,Qe y,Xl,L.av,Xm]at c1 c2 c4 c5 c6 c7 c8;refine wF Tryz.func3 ?_;simp only[eK,Tryz.f3,seval];simp only[Xl,eE,seval];refine aC c1 ?_;cases a1:(decide ((W.progs.length:Int)≤8)&&decide ((W.enums.length:Int)≤8)&&ck W==0)
 ·simp only[eE,seval];refine aC Ew.WO ?_;simp only[eE,seval]
 have hk:ck W=0:=by
  simp only[QmT,QmA]at a1;exact a1.2
 simp only[eE,seval];refine aC c2 ?_;cases a2:(decide ((R.progs.length:Int)≤8)&&decide ((R.enums.length:Int)≤8)&&ck R==0)
 ·simp only[eE,seval];refine aC Ew.WO ?_;simp only[eE,seval]
 have hr:ck R=0:=by
  simp only[QmT,QmA]at a2;exact a2.2
 simp only[eE,seval];refine aC c3 ?_;cases a3:(decide ((v.cnt:Int)≤300)&&decide (IntKind.i64.wrap (v.sz:Int)≤20000))
 ·simp only[eE,seval];refine aC Ew.WO ?_;simp only[eE,seval]
 have hc:v.cnt≤300:=by
  simp only[QmT,Qmz]at a3;omega
 simp only[eE,seval];refine aC (c4 hk) ?_;simp only[eE,seval];refine aC c5 ?_;by_cases he:e=0
 case neg=>
  have b0:(e != 0)=true:=by simp[he]
  simp only[b0,eE,seval];refine aC Ew.WO ?_;simp only[eE,seval]
 have b0:(e != 0)=false:=by simp[he]
 by_cases hp:0≤QZ s R
 case neg=>
  have d0:decide (QZ s R≥0)=false:=Qoo (by omega);simp only[b0,d0,QnE,eE,seval];refine aC Ew.WO ?_;simp only[eE,seval]
 have d0:decide (QZ s R≥0)=true:=Qou hp;have c9:=JB y (oy hr hle) (g:Int);rw[Qe y]at c9;simp only[b0,d0,Qod,eE,seval];refine aC c6 ?_;refine aC (c7 hr hle) ?_;simp only[eE,seval];refine aC (c8 hk hr hp hc he) ?_;simp only[eE,seval];refine aC c9 ?_;simp only[eE,seval];refine aC Ew.WO ?_;simp only[eE,seval]

end
end Go.Proofs.YtkhpgmeokilhaaaGreatDoor.Va

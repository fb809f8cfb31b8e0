/- Parts of the proof, in order. -/
import Derived.Test.YtdhlbgejhcejcaaGreatDoorMTagencFields4

set_option linter.unusedSimpArgs false
namespace Go.Proofs.YtdhlbgejhcejcaaGreatDoor.Va
open Go Am Rc Bt Br Up So

theorem Qxs (k:Int)(a b:V)(_ha:a.bits<18446744073709551616)(_hb:b.bits<18446744073709551616):decide (Ut k a.bits a.text b.bits b.text<0)=kl k a b:=by
 unfold Ut kl;split
 ·exact AF _ _
 ·rw[FB];unfold Ko;split
  ·rw[decide_eq_decide,ZS,ZS,QC,QC];omega
  ·rfl

section
variable {P:PL}{k:Int}(hk:Zb k)(ps:List (V×V))(hn:ps.length≤1048576)(h1:∀p∈ps,p.1.one P k (-1)=0)(hb:∀p∈ps,p.1.bits<18446744073709551616)

include hk in
theorem Nt {p q:V×V}(hp:p.1.one P k (-1)=0)(hq:q.1.one P k (-1)=0):Qi Tryz.prog 78 [p.1.av,q.1.av] (.int .i64 (Ut k p.1.bits p.1.text q.1.bits q.1.text)):=by
 have h:=v78 k hk p.1.bits q.1.bits p.1.text q.1.text;rw[←(Z8 hp).1,←(Z8 hq).1]at h;exact h

theorem Rg (hk:Zb k)(hn:ps.length≤1048576)(h1:∀p∈ps,p.1.one P k (-1)=0)(hb:∀p∈ps,p.1.bits<18446744073709551616)(hu:ps.Pairwise fun q p=>ZJ q.1 p.1=false)(O:List (V×V))(i:Nat)(x:V×V)(hx:ps[i]? = some x)(fr:Nat→Ob)(f:Fr)(h0:f 0=.list (ps.map V.pav))(h3:f 3=.list (O.map V.pav))(h4:f 4=.int .i64 (i:Nat))(h5:f 5=.bool true)(h6:f 6=.int .i64 ((i+1:Nat):Int))(Q:Exit→St→Prop)
  (q:∀f:Fr,f 0=.list (ps.map V.pav)→f 3=.list (O.map V.pav)→f 4=.int .i64 (i:Nat)→f 5=.bool true→Q (.exit 2) (⟨f,[fr],[]⟩:St)) :
  QG Tryz.prog (.loop Tr) ⟨f,[fr],[]⟩ Q:=by
 let I:Nat→St→Prop:=fun n st=>∃f j,st=⟨f,[fr],[]⟩∧n=ps.length-j∧i<j∧f 0=.list (ps.map V.pav)∧f 3=.list (O.map V.pav)∧f 4=.int .i64 (i:Nat)∧f 5=.bool true∧f 6=.int .i64 (j:Nat)
 refine Qc I _ ⟨f,i+1,rfl,rfl,by omega,h0,h3,h4,h5,h6⟩ ?_;clear h0 h3 h4 h5 h6;rintro _ st ⟨f,j,rfl,rfl,hij,h0,h3,h4,h5,h6⟩;simp only[QXb,h0,h6,Qa,seval];by_cases hlt:j<ps.length
 ·obtain⟨y,hj⟩:∃y,ps[j]? = some y:=⟨ps[j],QWh hlt⟩;have hgx:=Jl hx;have hgy:=Jl hj;have e1:=Qo j _ hlt (by simp only[maxLen];omega);have hxm:=QWt hx;have hym:=QWt hj;have c1:=Nt hk (h1 x hxm) (h1 y hym);have hne:Ut k x.1.bits x.1.text y.1.bits y.1.text≠0:=by
   have h:=Vq hk (h1 x hxm) (h1 y hym) (hb x hxm) (hb y hym);rw[QYj]at hu;have:=hu i j (QWg.1 hx).1 hlt hij;rw[(QWg.1 hx).2,(QWg.1 hj).2]at this;rw[this]at h
   simpa using h
  have d1:(Ut k x.1.bits x.1.text y.1.bits y.1.text != 0)=true:=by simp[hne]
  rw[Qw,Qw]at c1;simp only[Ql hlt,Qg,QXI,Qb,hgx,hgy,QWN,QXp,QWX,h0,h4,h5,h6,eE,seval];refine aC c1 ?_;simp only[d1,h6,e1,Qa,seval];exact⟨ps.length-(j+1),by omega,_,j+1,rfl,rfl,by omega,(by exact h0),(by exact h3),(by exact h4),(by rfl),(by rfl)⟩
 ·simp only[QA hlt,Qa,seval];exact q _ (by exact h0) (by exact h3) (by exact h4) (by exact h5)

theorem CX (hk:Zb k)(O:List (V×V))(hO:O.length≤1048576)(hO1:∀p∈O,p.1.one P k (-1)=0)(hOb:∀p∈O,p.1.bits<18446744073709551616)(i:Nat)(x:V×V)(hx:ps[i]? = some x)(hx1:x.1.one P k (-1)=0)(hxb:x.1.bits<18446744073709551616)(fr:Nat→Ob)(f:Fr)(h0:f 0=.list (ps.map V.pav))(h3:f 3=.list (O.map V.pav))(h4:f 4=.int .i64 (i:Nat))(h7:f 7=.int .i64 0)(Q:Exit→St→Prop)
  (q:∀(t:Nat) (f:Fr),t≤O.length→(∀j u,j<t→O[j]? = some u→kl k u.1 x.1=true)→(∀u,O[t]? = some u→kl k u.1 x.1=false)→f 0=.list (ps.map V.pav)→f 3=.list (O.map V.pav)→f 4=.int .i64 (i:Nat)→f 7=.int .i64 (t:Nat)→Q (.exit 4) (⟨f,[fr],[]⟩:St)) :
  QG Tryz.prog (.loop Ts) ⟨f,[fr],[]⟩ Q:=by
 let I:Nat→St→Prop:=fun n st=>∃f t,st=⟨f,[fr],[]⟩∧n=O.length-t∧t≤O.length∧(∀j u,j<t→O[j]? = some u→kl k u.1 x.1=true)∧f 0=.list (ps.map V.pav)∧f 3=.list (O.map V.pav)∧f 4=.int .i64 (i:Nat)∧f 7=.int .i64 (t:Nat)
 refine Qc I _ ⟨f,0,rfl,rfl,QWo _,(by intro j u hj;omega),h0,h3,h4,h7⟩ ?_;clear h0 h3 h4 h7;rintro _ st ⟨f,t,rfl,rfl,ht,hv,h0,h3,h4,h7⟩;simp only[QXb,h3,h7,Qa,seval];by_cases hlt:t<O.length
 ·obtain⟨u,hu⟩:∃u,O[t]? = some u:=⟨O[t],QWh hlt⟩;have hgx:=Jl hx;have hgu:=Jl hu;have hum:=QWt hu;have e1:=Qo t _ hlt (by simp only[maxLen];omega);have c1:=Nt hk (hO1 u hum) hx1;have hc:=Qxs k u.1 x.1 (hOb u hum) hxb;rw[Qw,Qw]at c1;simp only[Ql hlt,Qg,QXI,Qb,hgx,hgu,QWN,QXp,QWX,h0,h3,h4,h7,eE,seval];refine aC c1 ?_;cases hl:kl k u.1 x.1
  ·rw[hl]at hc;simp only[hc,Qa,seval];exact q t _ (by omega) hv (fun u' hu'=>by rw[hu]at hu';cases hu';exact hl) (by exact h0) (by exact h3) (by exact h4) (by exact h7)
  ·rw[hl]at hc;simp only[hc,h7,e1,Qa,seval];exact⟨O.length-(t+1),by omega,_,t+1,rfl,rfl,by omega,(by
    intro j u' hj hu';rcases Nat.lt_or_eq_of_le (show j≤t by omega)with h|h
    ·exact hv j u' h hu'
    ·subst h;rw[hu]at hu';cases hu';exact hl),(by exact h0),(by exact h3),(by exact h4),(by rfl)⟩
 ·simp only[QA hlt,Qa,seval];exact q t _ ht hv (fun u hu=>by rw[QXF (by omega)]at hu;cases hu) (by exact h0) (by exact h3) (by exact h4) (by exact h7)

end

theorem Qxt {k:Int}{P:PL}{a b:V}(ha:a.one P k (-1)=0)(hb:b.one P k (-1)=0)(ba:a.bits<18446744073709551616)(bb:b.bits<18446744073709551616)(h1:kl k a b=false)(h2:ZJ a b=false):kl k b a=true:=by
 obtain⟨_,a1,a2⟩:=Z8 ha;obtain⟨_,b1,b2⟩:=Z8 hb;cases hc:kl k b a with
 |true=>rfl
 |false=>
  exfalso;unfold kl at h1 hc;unfold ZJ at h2;split at h1
  ·rename_i ht;rw[QWJ ht]at hc;have e:=Ur h1 hc;have e1:=a1 ht;have e2:=b1 ht;rw[e,show a.bits=b.bits by omega]at h2;simp at h2
  ·rename_i ht;rw[QWu ht]at hc;have ht:Zc k=false:=by simpa using ht
   rw[a2 ht,b2 ht]at h2;split at h1
   ·rename_i hs;rw[QWJ hs]at hc;simp only[QYb]at h1 hc;rw[QC,QC]at h1 hc;rw[show a.bits=b.bits by omega]at h2;simp at h2
   ·rename_i hs;rw[QWu hs]at hc;simp only[QYb]at h1 hc;rw[show a.bits=b.bits by omega]at h2;simp at h2

def PwI (k:Int)(ps:List (V×V))(n:Nat)(st:St):Prop :=
 ∃f fr i,st=⟨f,[fr],[]⟩∧n=ps.length-i∧i≤ps.length∧f 0=.list (ps.map V.pav)∧f 3=.list ((Q0 k (ps.take i)).map V.pav)∧f 4=.int .i64 (i:Nat)∧Qt (fr 63)=true∧Qt (fr 68)=true

set_option maxHeartbeats 1000000 in
theorem v52 {P:PL}{k:Int}(hk:Zb k)(ps:List (V×V))(hn:ps.length≤1048576)(h1:∀p∈ps,p.1.one P k (-1)=0)(hb:∀p∈ps,p.1.bits<18446744073709551616)(hu:ps.Pairwise fun q p=>ZJ q.1 p.1=false):Qi Tryz.prog 52 [.list (ps.map V.pav)] (.list ((Q0 k ps).map V.pav)):=by
 refine k52.fn (by simp) ?_;simp only[Qa,seval];refine F7 (by simp only[Qa,seval]) ?_;simp only[Qa,seval];refine Qc (PwI k ps) _ ⟨_,_,0,rfl,rfl,QWo _,(by rfl),rfl,(by rfl),rfl,rfl⟩ ?_;rintro _ st ⟨f,fr,i,rfl,rfl,hil,h0,h3,h4,r63,r68⟩;simp only[QXb,h0,h4,Qa,seval];by_cases hlt:i<ps.length
 ·obtain⟨x,hi⟩:∃x,ps[i]? = some x:=⟨ps[i],QWh hlt⟩;have hxm:=QWt hi;have hxa:=Jl hi;have e1:=Qo i _ hlt (by simp only[maxLen];omega);have hperm:(Q0 k (ps.take i)).Perm (ps.take i):=Q3 _;have hO:(Q0 k (ps.take i)).length=i:=by rw[hperm.length_eq,QXd];omega
  have hstep:Q0 k (ps.take (i+1))=mg (fun x y:V×V=>kl k x.1 y.1) (Q0 k (ps.take i)) [x]:=by
   rw[QX0,hi,QX1];exact(Ws (YH k) (ps.take i) [x]).symm
  have hsrt:X6 (fun x y:V×V=>kl k x.1 y.1) (Q0 k (ps.take i)):=XS (YH k) _;have hOm:∀p∈Q0 k (ps.take i),p∈ps:=fun p hp=>QW3 (hperm.mem_iff.1 hp)
  have hOk:∀p∈Q0 k (ps.take i),ZJ p.1 x.1=false:=by
   intro p hp;obtain⟨j,hj⟩:=QWr.1 (hperm.mem_iff.1 hp);have hjl:=(QWg.1 hj).1;rw[QXd]at hjl;rw[QWT,QWJ (by omega)]at hj;rw[QYj]at hu;have:=hu j i (by omega) hlt (by omega);rw[(QWg.1 hj).2,(QWg.1 hi).2]at this;exact this
  generalize Q0 k (ps.take i)=O at *;simp only[Ql hlt,e1,h4,Qa,seval];refine Rg ps hk hn h1 hb hu O i x hi fr _ (by exact h0) (by exact h3) (by exact h4) (by rfl) (by rfl) _ (fun f h0 h3 h4 h5=>?_);simp only[h5,Qa,seval];refine CX (P:=P) ps hk O (by omega) (fun p hp=>h1 p (hOm p hp)) (fun p hp=>hb p (hOm p hp)) i x hi (h1 x hxm) (hb x hxm) fr _ (by exact h0) (by exact h3) (by exact h4) (by rfl) _ (fun t f ht hlow hup h0 h3 h4 h7=>?_);have hfin:(O.take t).map V.pav++([V.pav x]++(O.drop t).map V.pav)=(Q0 k (ps.take (i+1))).map V.pav:=by
   have:=YF (lt:=fun x y:V×V=>kl k x.1 y.1) (y:=x) (X1:=O.take t) (X2:=O.drop t) (fun u hu=>by
    obtain⟨j,hj⟩:=QYq hu;rw[QWT]at hj;split at hj
    ·rename_i hjt;exact(YH k).as (hlow j u hjt hj)
    ·cases hj) (fun u hu'=>by
    obtain⟨j,hj⟩:=QYq hu';rw[QWU]at hj;have hum:=QWt hj;refine Qxt (h1 u (hOm u hum)) (h1 x hxm) (hb u (hOm u hum)) (hb x hxm) ?_ (hOk u hum);obtain⟨w,hw⟩:∃w,O[t]? = some w:=⟨O[t]'(by have:=(QWg.1 hj).1;omega),QWh _⟩;have h2:=KP hsrt (YH k) (Nat.le_add_right t j) hw hj;exact(YH k).nt u w x h2 (hup w hw))
   rw[QXx]at this;rw[hstep,this];simp
  have hle:(t≤O.length)=True:=eq_true ht;have hdt:∀l':List AV,l'.length=O.length→(l'.drop t).take (O.length-t)=l'.drop t:=fun l' h=>QWO (by rw[QWV];omega)
  have hd1:((O.drop t).map V.pav).length=i-t:=by rw[QXb,QWV];omega
  have hd2:((O.take t).map V.pav).length=t:=by rw[QXb,QXd];omega
  have hT:∀j,i+1≤j→List.take j ((O.take t).map V.pav++([V.pav x]++(O.drop t).map V.pav))=(Q0 k (ps.take (i+1))).map V.pav:=fun j hj=>by
   rw[QWO (by simp only[QWS,QWv,QXc,hd1,hd2];omega),hfin]
  simp only[Qg,QXI,Qb,hxa,QWN,QWX,h0,h4,eE,seval];refine Gj (l:=[.int .i64 x.1.kd,.int .u64 (x.1.bits:Nat),.str x.1.text,.list (x.1.list.map V.av),.list (x.1.pairs.map V.pav),.list (x.1.slots.map V.sav),.list (x.1.raws.map R.av),.int .i64 x.2.kd,.int .u64 (x.2.bits:Nat),.str x.2.text,.list (x.2.list.map V.av),.list (x.2.pairs.map V.pav),.list (x.2.slots.map V.sav),.list (x.2.raws.map R.av)]) rfl rfl (by decide) rfl rfl r63 ?_;simp only[nn0,QWM,QXh,QXb,Zt,Q1,QXQ,Qg,QXI,hle,QWe,or_true,Wa,hdt _ (QXb ..),h3,h7,Qa,seval];refine QM (site:=63) (g:=Xy (fr 63)) (n:=1) (xs:=[V.pav x]) (ys:=(O.drop t).map V.pav) (by simp only[Qa,seval]) (by simp only[Ke,Qa,seval]) rfl rfl (by simp only[List.map_drop,Qa,seval]) (Wa _) (by rw[hd1];simp only[maxLen];omega) (by rw[hd1];omega) ?_;simp only[Qa,seval];refine ZN (by simp only[Qa,seval];exact r68) ?_;simp only[QXb,Zt,ZE,Q1,QXQ,Qg,QXI,QWo,QWe,hle,true_or,QXA,QWX,←List.map_take,h3,h7,Qa,seval];refine QM (site:=68) (g:=_) (n:=0) (xs:=[]) (ys:=(O.take t).map V.pav) (by simp only[Qa,seval]<;>rfl) (by simp only[Qa,seval]) rfl rfl (by simp only[Qa,seval]) (Wa _) (by rw[hd2];simp only[maxLen];omega) (by rw[hd2];omega) ?_;simp only[Qa,seval];refine Fm (site:=68) (g:=_) (n:=0+((O.take t).map V.pav).length) (xs:=(O.take t).map V.pav) (ys:=[V.pav x]++(O.drop t).map V.pav) (by simp only[Qa,seval]<;>rfl) (by simp only[Qa,seval]) rfl (by omega) (by simp only[Qa,seval]<;>rfl) (by simp only[Qa,seval]) (by simp only[QWS,QWv,QXc,QXb]<;>omega) (Wa (x :: O.drop t)) (by simp only[QWS,QWv,QXc,hd1,hd2,maxLen];omega) (by simp only[QWS,QWv,QXc,hd1,hd2];omega) ?_;simp only[Qa,seval];refine NV (site:=68) (g:=_) (sz:=14) (n:=_) (xs:=(O.take t).map V.pav++([V.pav x]++(O.drop t).map V.pav)) (by simp only[Qa,seval]<;>rfl) (by simp only[Qa,seval]) (by simp only[QWS,QWv,QXc,hd1,hd2];omega) ?_;rw[hT];rotate_left
  ·simp only[hd1,hd2];omega
  simp only[e1,h4,Qa,seval];exact⟨ps.length-(i+1),by omega,_,_,i+1,rfl,rfl,by omega,(by exact h0),(by rfl),(by rfl),rfl,rfl⟩
 ·have hli:ps.take i=ps:=QWO (by omega);rw[hli]at h3;simp only[QA hlt,h3,Qa,seval]

section
variable {M:Nat}{P:PL}{m:PG→V→Prop}{nm:PG→V→V}(o:PO)(ho:UO P o)

include ho in
theorem v51 (hm:∀(t:Int) (g:PG),P.progs[t.toNat]? = some g→0≤t→∀v:V,v.ok M→v.cnt≤1048576→m g v→Qi Tryz.prog 9 [P.av,.int .i64 t,v.av] (nm g v).av)(v:V)(hv:v.ok M)(hc:v.cnt≤1048576)(he:EW m P o v) :
  Qi Tryz.prog 51 [P.av,Qv o,v.av] (Xu nm P o v).av:=by
 have e0:P.av=.agg [.list (P.progs.map Qp),.list (P.enums.map Qr)]:=rfl;unfold Xu;by_cases hk:o.kind=10
 ·have b:(o.kind==10)=true:=by simp[hk]
  have he:=he hk;rw[QWJ hk];obtain⟨t0,t1⟩:=ho.tgt hk;obtain⟨g,hg⟩:∃g,P.progs[o.target.toNat]? = some g:=⟨P.progs[o.target.toNat]'(by omega),QWh (by omega)⟩;have hq:QR P o.target=g:=by unfold QR;rw[hg];rfl
  rw[hq]at he ⊢;have h2:=hm o.target g hg t0 v hv hc he;generalize nm g v=z at h2 ⊢;rw[e0,Qw,Qw]at h2;rw[Qw,Qw];refine k51.fn (by simp) ?_;simp only[e0,Qv,PO.cells,b,eE,seval];refine aC h2 ?_;simp only[eE,seval]
 ·have b:(o.kind==10)=false:=by simp[hk]
  rw[QWu hk];have h1:=v53 v (JY hv);generalize v.nsc=z at h1 ⊢;rw[Qw,Qw]at h1;rw[Qw,Qw];refine k51.fn (by simp) ?_;simp only[e0,Qv,PO.cells,b,eE,seval];refine aC h1 ?_;simp only[eE,seval]

def WlI (P:PL)(o:PO)(v:V)(F:V→V)(k:Nat)(st:St):Prop :=
 ∃f fr i g,st=⟨f,[fr],[]⟩∧k=v.list.length-i∧i≤v.list.length∧f 3=.ptr 0 3 0∧f 4=.ptr 0 4 0∧f 5=.ptr 0 5 0∧f 6=.ptr 0 6 0∧f 7=.ptr 0 7 0∧f 8=.int .i64 (i:Nat)∧fr 3=.cells [.list (P.progs.map Qp),.list (P.enums.map Qr)]∧fr 4=.cells o.cells∧fr 5=.cells [.int .i64 v.kd,.int .u64 (v.bits:Nat),.str v.text,.list (v.list.map V.av),.list (v.pairs.map V.pav),.list (v.slots.map V.sav),.list (v.raws.map R.av)]∧fr 6=.cells [.int .i64 0,.int .u64 0,.str [],.nils,.nils,.nils,.nils]∧fr 7=.cells [.int .i64 11,.int .u64 0,.str [],.vec 0 1100 g 0 i false,.nils,.nils,.nils]∧fr 1100=.vec g 7 ((v.list.take i).map fun x=>(F x).av)

def WpI (P:PL)(o:PO)(T:List (V×V))(F:V×V→V×V)(k:Nat)(st:St):Prop :=
 ∃f fr i g,st=⟨f,[fr],[]⟩∧k=T.length-i∧i≤T.length∧f 3=.ptr 0 3 0∧f 4=.ptr 0 4 0∧f 6=.ptr 0 6 0∧f 9=.ptr 0 9 0∧f 10=.list (T.map V.pav)∧f 11=.int .i64 (i:Nat)∧fr 3=.cells [.list (P.progs.map Qp),.list (P.enums.map Qr)]∧fr 4=.cells o.cells∧fr 6=.cells [.int .i64 0,.int .u64 0,.str [],.nils,.nils,.nils,.nils]∧fr 9=.cells [.int .i64 12,.int .u64 0,.str [],.nils,.vec 0 1101 g 0 i false,.nils,.nils]∧fr 1101=.vec g 14 ((T.take i).map fun x=>V.pav (F x))

set_option maxHeartbeats 1000000 in
include ho in
theorem v26 (hel:∀v:V,v.ok M→v.cnt≤1048576→EW m P o v→Qi Tryz.prog 51 [P.av,Qv o,v.av] (Xu nm P o v).av)(v:V)(hv:v.ok M)(hc:v.cnt≤1048576)(he:FW m P o v) :
  Qi Tryz.prog 26 [P.av,Qv o,v.av] (XB nm P o v).av:=by
 have e0:P.av=.agg [.list (P.progs.map Qp),.list (P.enums.map Qr)]:=rfl;unfold XB;unfold FW at he;by_cases h4:o.card=4
 ·have b4:(o.card==4)=true:=by simp[h4]
  rw[QWJ h4]at he;rw[QWJ h4];have hL:=he;have hlen:=KG v;rw[Qw v];generalize hF:Xu nm P o=F at hel ⊢;rw[show(V.mk 11 0 [] (v.list.map F) [] [] []).av=.agg [.int .i64 11,.int .u64 0,.str [],.list ((v.list.map F).map V.av),.list [],.list [],.list []]from Qw _];refine k26.fn (by simp) ?_;simp only[e0,Qv,PO.cells,b4,eE,seval];refine JK (by simp only[Qa,seval]<;>rfl) rfl (by simp only[Qa,seval]<;>rfl) rfl ?_;simp only[List.set,Qa,seval];refine Qc (WlI P o v F) _ ⟨_,_,0,_,rfl,rfl,QWo _,(by rfl),(by rfl),(by rfl),(by rfl),(by rfl),(by rfl),(by rfl),(by rfl),(by rfl),(by rfl),(by rfl),(by rfl)⟩ ?_;rintro _ st ⟨f,fr,i,g,rfl,rfl,hil,h3,h4,h5,h6,h7,h8,m3,m4,m5,m6,m7,mR⟩;have m4':=m4;simp only[PO.cells]at m4;simp only[QXb,h5,h8,m5,eE,seval];by_cases hlt:i<v.list.length
  ·obtain⟨x,hi⟩:∃x,v.list[i]? = some x:=⟨v.list[i],QWh hlt⟩;have hx:=QWt hi;have hg:=YI hi;have e1:=Qo i _ hlt (by simp only[maxLen];omega);have c1:=hel x (hv.list x hx) (QWf (YN hx) hc) (hL x hx);have hti:((v.list.take i).map fun x=>(F x).av).length=i:=by rw[QXb,QXd];omega
   have hts:(v.list.take (i+1)).map (fun x=>(F x).av)=(v.list.take i).map (fun x=>(F x).av)++[(F x).av]:=by rw[QX0,hi];simp
   generalize F x=z at c1 hts;rw[e0,Qw x,Qw z]at c1;simp only[Qv,PO.cells]at c1;simp only[Ql hlt,Qg,QXI,Qb,hg,h3,h4,h5,h7,h8,m3,m4,m5,m7,eE,seval];refine aC c1 ?_;refine QY (l:=[z.av]) rfl rfl rfl (by rw[Qw];rfl) ?_;refine QM (site:=1100) (g:=g) (n:=i) (xs:=(v.list.take i).map fun x=>(F x).av) (ys:=[z.av]) (by rfl) (by exact mR) rfl hti.symm rfl (Qwr [z]) (by simp only[QWv,QXc,maxLen];omega) (by simp only[QWv,QXc];omega) ?_;simp only[h7,h8,m7,e1,eE,seval];exact⟨v.list.length-(i+1),by omega,_,_,i+1,g+1,rfl,rfl,by omega,(by exact h3),(by exact h4),(by exact h5),(by exact h6),(by exact h7),(by rfl),(by exact m3),(by exact m4'),(by exact m5),(by exact m6),(by rfl),(by rw[hts];exact(by rfl))⟩
  ·have e:i=v.list.length:=by omega
   subst e;rw[QXR,AH]at mR;simp only[QA hlt,h6,h7,m6,m7,eE,seval];simp[AV.un,AV.unL,Zv,XL,mR,QWO]
 ·have b4:(o.card==4)=false:=by simp[h4]
  rw[QWu h4];by_cases h5:o.card=5
  ·have b5:(o.card==5)=true:=by simp[h5]
   rw[QWu h4,QWJ h5]at he;rw[QWJ h5];have hE:=he;have hlen:=WV v;have hk:=ho.key h5;have cp:=v52 hk v.pairs (by omega) (fun p hp=>(hE.1 p hp).1) (fun p hp=>JY (hv.keys p hp)) hE.2;have hperm:(Q0 o.key v.pairs).Perm v.pairs:=Q3 _;have hTl:(Q0 o.key v.pairs).length=v.pairs.length:=hperm.length_eq;have hTm:∀p∈Q0 o.key v.pairs,p∈v.pairs:=fun p h=>hperm.mem_iff.1 h
   generalize Q0 o.key v.pairs=T at *;rw[Qw v];generalize hF:(fun p:V×V=>(p.1.nsc,Xu nm P o p.2))=F;rw[show(V.mk 12 0 [] [] (T.map F) [] []).av=.agg [.int .i64 12,.int .u64 0,.str [],.list [],.list ((T.map F).map V.pav),.list [],.list []]from Qw _];refine k26.fn (by simp) ?_;simp only[e0,Qv,PO.cells,b4,b5,eE,seval];refine JK (by simp only[Qa,seval]<;>rfl) rfl (by simp only[Qa,seval]<;>rfl) rfl ?_;simp only[List.set,eE,seval];refine aC cp ?_;simp only[Qa,seval];refine Qc (WpI P o T F) _ ⟨_,_,0,_,rfl,rfl,QWo _,(by rfl),(by rfl),(by rfl),(by rfl),(by rfl),(by rfl),(by rfl),(by rfl),(by rfl),(by rfl),(by rfl)⟩ ?_;rintro _ st ⟨f,fr,i,g,rfl,rfl,hil,h3,h4,h6,h9,h10,h11,m3,m4,m6,m9,mR⟩;have m4':=m4;simp only[PO.cells]at m4;simp only[QXb,h10,h11,Qa,seval];by_cases hlt:i<T.length
   ·obtain⟨x,hi⟩:∃x,T[i]? = some x:=⟨T[i],QWh hlt⟩;have hx:=hTm x (QWt hi);have hg:=Jl hi;have e1:=Qo i _ hlt (by simp only[maxLen];omega);have c0:=v53 x.1 (JY (hv.keys x hx));have c1:=hel x.2 (hv.vals x hx) (QWf (UX hx) hc) (hE.1 x hx).2;have hti:((T.take i).map fun x=>V.pav (F x)).length=i:=by rw[QXb,QXd];omega
    have hFx:F x=(x.1.nsc,Xu nm P o x.2):=by rw[←hF]
    have hts:(T.take (i+1)).map (fun x=>V.pav (F x))=(T.take i).map (fun x=>V.pav (F x))++[V.pav (x.1.nsc,Xu nm P o x.2)]:=by rw[QX0,hi,←hFx];simp
    generalize x.1.nsc=y at c0 hts;generalize Xu nm P o x.2=z at c1 hts;rw[Qw,Qw y]at c0;rw[e0,Qw,Qw z]at c1;simp only[Qv,PO.cells]at c1;simp only[Ql hlt,Qg,QXI,Qb,hg,h9,h10,h11,m9,eE,seval];refine aC c0 ?_;simp only[Qg,QXI,Qb,hg,QWN,QWQ,QWX,h3,h4,h10,h11,m3,m4,eE,seval];refine aC c1 ?_;simp only[eE,seval];refine QY (l:=[V.pav (y,z)]) rfl rfl rfl (by rw[Ke];rfl) ?_;refine QM (site:=1101) (g:=g) (n:=i) (xs:=(T.take i).map fun x=>V.pav (F x)) (ys:=[V.pav (y,z)]) (by rfl) (by exact mR) rfl hti.symm rfl (Wa [(y,z)]) (by simp only[QWv,QXc,maxLen];omega) (by simp only[QWv,QXc];omega) ?_;simp only[h9,h11,m9,e1,eE,seval];exact⟨T.length-(i+1),by omega,_,_,i+1,g+1,rfl,rfl,by omega,(by exact h3),(by exact h4),(by exact h6),(by exact h9),(by exact h10),(by rfl),(by exact m3),(by exact m4'),(by exact m6),(by rfl),(by rw[hts];exact(by rfl))⟩
   ·have e:i=T.length:=by omega
    subst e;rw[QXR,P6]at mR;simp only[QA hlt,h6,h9,m6,m9,eE,seval];simp[AV.un,AV.unL,Zv,XL,mR,QWO]
  ·have b5:(o.card==5)=false:=by simp[h5]
   rw[QWu h4,QWu h5]at he;rw[QWu h5];have c1:=hel v hv hc he;generalize Xu nm P o v=z at c1 ⊢;rw[e0,Qw v,Qw z]at c1;simp only[Qv,PO.cells]at c1;rw[Qw v,Qw z];refine k26.fn (by simp) ?_;simp only[e0,Qv,PO.cells,b4,b5,eE,seval];refine aC c1 ?_;simp only[eE,seval]

end

theorem Rh {fr:Nat→Ob}{a b:Nat}(h1:(fr a).isRow=false)(h2:(fr b).isRow=false):∀s∈[a,b],(fr s).isRow=false:=by
 intro s hs;simp only[QXD,QYn,or_false]at hs;rcases hs with rfl|rfl
 ·exact h1
 ·exact h2
theorem UA {fr:Nat→Ob}{a:Nat}(h1:(fr a).isRow=false):∀s∈[a],(fr s).isRow=false:=by
 intro s hs;simp only[QXD,QYn,or_false]at hs;subst hs;exact h1

theorem isr {x:Ob}(h:x=.none):x.isRow=false:=by rw[h];rfl

def Zy (nm:PG→V→V)(P:PL)(o:PO)(s:Int×V):List (Int×V):=if (s.1==o.num)=true then ZD nm P o s else []
theorem Fo (nm:PG→V→V)(P:PL)(o:PO):∀l:List (Int×V),(l.flatMap (Zy nm P o)).length≤l.length
 | []=>QWe _
 |s :: l=>by
  have h1:(Zy nm P o s).length≤1:=by
   unfold Zy;split
   ·unfold ZD;split<;>simp
   ·simp
  have:=Fo nm P o l;rw[QXK,QWS,QWv];omega

def X3 (v:V):List AV:=[.int .i64 v.kd,.int .u64 (v.bits:Nat),.str v.text,.list (v.list.map V.av),.list (v.pairs.map V.pav),.list (v.slots.map V.sav),.list (v.raws.map R.av)]

theorem Sv {P:PL}{v:V}{o:PO}{n:Nat}{ti i:Nat}(K:List (Int×V))(hK:K.length≤64)(hS:v.slots.length≤1048576)(rw':List R)
  (hw:∀x∈v.slots,x.1=o.num→Qi Tryz.prog 26 [P.av,Qv o,x.2.av] (XB (nrm P n) P o x.2).av)
  (fr:Nat→Ob) (f:Fr) (gs:Nat) (h1:f 1=.int .i64 (ti:Nat)) (h3:f 3=.ptr 0 3 0) (h5:f 5=.ptr 0 5 0) (h6:f 6=.ptr 0 6 0) (h7:f 7=.ptr 0 7 0) (h8:f 8=.int .i64 (i:Nat)) (h9:f 9=.ptr 0 9 0) (h10:f 10=.int .i64 0) (m3:fr 3=.cells [.list (P.progs.map Qp),.list (P.enums.map Qr)]) (m5:fr 5=.cells (X3 v)) (m6:fr 6=.cells [.int .i64 0,.int .u64 0,.str [],.nils,.nils,.nils,.nils]) (m7:fr 7=.cells [.int .i64 10,.int .u64 0,.str [],.nils,.nils,.vec 0 1100 gs 0 K.length false,.list (rw'.map R.av)]) (m9:fr 9=.cells o.cells) (mS:fr 1100=.vec gs 8 (K.map V.sav)) (JX:∀s∈[11],(fr s).isRow=false)
  (Q:Exit→St→Prop)
  (q:∀(f:Fr) (fr:Nat→Ob) (gs:Nat),f 1=.int .i64 (ti:Nat)→f 3=.ptr 0 3 0→f 5=.ptr 0 5 0→f 6=.ptr 0 6 0→f 7=.ptr 0 7 0→f 8=.int .i64 (i:Nat)→fr 3=.cells [.list (P.progs.map Qp),.list (P.enums.map Qr)]→fr 5=.cells (X3 v)→fr 6=.cells [.int .i64 0,.int .u64 0,.str [],.nils,.nils,.nils,.nils]→fr 7=.cells [.int .i64 10,.int .u64 0,.str [],.nils,.nils,.vec 0 1100 gs 0 (K++v.slots.flatMap (Zy (nrm P n) P o)).length false,.list (rw'.map R.av)]→fr 1100=.vec gs 8 ((K++v.slots.flatMap (Zy (nrm P n) P o)).map V.sav)→(fr 9).isRow=false→(fr 11).isRow=false→Q (.exit 2) (⟨f,[fr],[]⟩:St)) :
  QG Tryz.prog (.loop Qmy) ⟨f,[fr],[]⟩ Q:=by
 have e0:P.av=.agg [.list (P.progs.map Qp),.list (P.enums.map Qr)]:=rfl
 let L:Nat→List (Int×V):=fun k=>K++(v.slots.take k).flatMap (Zy (nrm P n) P o)
 have hL0:L 0=K:=by simp[L]
 have hLn:L v.slots.length=K++v.slots.flatMap (Zy (nrm P n) P o):=by simp[L]
 have hLl:∀k,k≤v.slots.length→(L k).length≤64+k:=by
  intro k hk;have:=Fo (nrm P n) P o (v.slots.take k);rw[QXd]at this;simp only[L,QWS];omega
 have hLs:∀k x,v.slots[k]? = some x→L (k+1)=L k++Zy (nrm P n) P o x:=by
  intro k x hx;simp only[L];rw[QX0,hx,List.flatMap_append,QWB];simp
 rw[←hLn]at q;rw[←hL0]at m7 mS
 clear_value L
 clear hL0 hLn hK
 let I:Nat→St→Prop:=fun d st=>∃f fr k gs,st=⟨f,[fr],[]⟩∧d=v.slots.length-k∧k≤v.slots.length∧f 1=.int .i64 (ti:Nat)∧f 3=.ptr 0 3 0∧f 5=.ptr 0 5 0∧f 6=.ptr 0 6 0∧f 7=.ptr 0 7 0∧f 8=.int .i64 (i:Nat)∧f 9=.ptr 0 9 0∧f 10=.int .i64 (k:Nat)∧fr 3=.cells [.list (P.progs.map Qp),.list (P.enums.map Qr)]∧fr 5=.cells (X3 v)∧fr 6=.cells [.int .i64 0,.int .u64 0,.str [],.nils,.nils,.nils,.nils]∧fr 7=.cells [.int .i64 10,.int .u64 0,.str [],.nils,.nils,.vec 0 1100 gs 0 (L k).length false,.list (rw'.map R.av)]∧fr 9=.cells o.cells∧fr 1100=.vec gs 8 ((L k).map V.sav)∧∀s∈[11],(fr s).isRow=false
 refine Qc I _ ⟨f,fr,0,gs,rfl,rfl,QWo _,h1,h3,h5,h6,h7,h8,h9,h10,m3,m5,m6,m7,m9,mS,JX⟩ ?_;clear h1 h3 h5 h6 h7 h8 h9 h10 m3 m5 m6 m7 m9 mS JX;rintro _ st ⟨f0,fr0,k,gs,rfl,rfl,hkl,h10,h30,h50,h60,h70,h80,h90,h100,m30,m50,m60,m70,m90,mS0,JX⟩;refine QN (a:=_) [11] JX ?_;intro f fr hf hm hn11;have h1:f 1=.int .i64 (ti:Nat):=by rw[hf,h10]<;>rfl
 have h3:f 3=.ptr 0 3 0:=by rw[hf,h30]<;>rfl
 have h5:f 5=.ptr 0 5 0:=by rw[hf,h50]<;>rfl
 have h6:f 6=.ptr 0 6 0:=by rw[hf,h60]<;>rfl
 have h7:f 7=.ptr 0 7 0:=by rw[hf,h70]<;>rfl
 have h8:f 8=.int .i64 (i:Nat):=by rw[hf,h80]<;>rfl
 have h9:f 9=.ptr 0 9 0:=by rw[hf,h90]<;>rfl
 have h10':f 10=.int .i64 (k:Nat):=by rw[hf,h100]<;>rfl
 have m3:fr 3=.cells [.list (P.progs.map Qp),.list (P.enums.map Qr)]:=by rw[hm 3 (by decide),m30]<;>rfl
 have m5':fr 5=.cells (X3 v):=by rw[hm 5 (by decide),m50]<;>rfl
 have m6:fr 6=.cells [.int .i64 0,.int .u64 0,.str [],.nils,.nils,.nils,.nils]:=by rw[hm 6 (by decide),m60]<;>rfl
 have m7:fr 7=.cells [.int .i64 10,.int .u64 0,.str [],.nils,.nils,.vec 0 1100 gs 0 (L k).length false,.list (rw'.map R.av)]:=by rw[hm 7 (by decide),m70]<;>rfl
 have m9':fr 9=.cells o.cells:=by rw[hm 9 (by decide),m90]<;>rfl
 have mS:fr 1100=.vec gs 8 ((L k).map V.sav):=by rw[hm 1100 (by decide),mS0]<;>rfl
 have n11:=hn11 11 (by decide);clear hf hm hn11 h10 h30 h50 h60 h70 h80 h90 h100 m30 m50 m60 m70 m90 mS0 JX;have m5:=m5';have m9:=m9';simp only[X3]at m5;simp only[PO.cells]at m9;simp only[QXb,h5,h10',m5,eE,seval];by_cases hlt:k<v.slots.length
 ·obtain⟨x,hi⟩:∃x,v.slots[k]? = some x:=⟨v.slots[k],QWh hlt⟩;have hx:=QWt hi;have hgs:=JQ hi;have e1:=Qo k _ hlt (by simp only[maxLen];omega);have hKs:=hLs k x hi;have hKi:=hLl k (by omega);have fin:∀(f':Fr) (fr':Nat→Ob) (gs':Nat),f' 1=.int .i64 (ti:Nat)→f' 3=.ptr 0 3 0→f' 5=.ptr 0 5 0→f' 6=.ptr 0 6 0→f' 7=.ptr 0 7 0→f' 8=.int .i64 (i:Nat)→f' 9=.ptr 0 9 0→f' 10=.int .i64 ((k+1:Nat):Int)→fr' 3=.cells [.list (P.progs.map Qp),.list (P.enums.map Qr)]→fr' 5=.cells (X3 v)→fr' 6=.cells [.int .i64 0,.int .u64 0,.str [],.nils,.nils,.nils,.nils]→fr' 7=.cells [.int .i64 10,.int .u64 0,.str [],.nils,.nils,.vec 0 1100 gs' 0 (L (k+1)).length false,.list (rw'.map R.av)]→fr' 9=.cells o.cells→fr' 1100=.vec gs' 8 ((L (k+1)).map V.sav)→(∀s∈[11],(fr' s).isRow=false)→∃d,d<v.slots.length-k∧I d ⟨f',[fr'],[]⟩:=by
   intro f' fr' gs' a1 a3 a5 a6 a7 a8 a9 a10 b3 b5 b6 b7 b9 bS br;exact⟨v.slots.length-(k+1),by omega,f',fr',k+1,gs',rfl,rfl,by omega,a1,a3,a5,a6,a7,a8,a9,a10,b3,b5,b6,b7,b9,bS,br⟩
  cases hne:(x.1==o.num)
  ·have bn:(x.1 != o.num)=true:=by simp[bne,hne]
   unfold Zy at hKs;rw[hne,QWu (by simp),QXj]at hKs;simp only[Ql hlt,Qg,QXI,Qb,hgs,bn,QWX,h5,h9,h10',m5,m9,e1,eE,seval];exact fin _ _ gs (by exact h1) (by exact h3) (by exact h5) (by exact h6) (by exact h7) (by exact h8) (by exact h9) (by rfl) (by exact m3) (by exact m5') (by exact m6) (by rw[hKs];exact(by exact m7)) (by exact m9') (by rw[hKs];exact(by exact mS)) (UA (isr (by exact n11)))
  ·have bn:(x.1 != o.num)=false:=by simp[bne,hne]
   unfold Zy at hKs;rw[hne,QWJ rfl]at hKs;unfold ZD at hKs;have c2:=hw x hx (by simpa using hne);have c3:=QIE (XB (nrm P n) P o x.2);generalize XB (nrm P n) P o x.2=z at c2 c3 hKs;rw[e0,Qw x.2,Qw z]at c2;rw[Qw z]at c3;simp only[Qv,PO.cells]at c2;simp only[Ql hlt,Qg,QXI,Qb,hgs,bn,QWN,QWQ,QWX,h3,h5,h9,h10',m3,m5,m9,eE,seval];refine aC c2 ?_;simp only[n11,h9,m9,eE,seval];cases hb:decide (o.card<3)
   ·rw[hb,QXX]at hKs;simp only[eE,seval];refine aC c3 ?_;cases hz:z.emp
    ·rw[hz,QWJ (show(!false)=true from rfl)]at hKs;simp only[h7,h9,m7,m9,eE,seval];refine QY (l:=[V.sav (o.num,z)]) rfl rfl rfl (by rw[ZK];rfl) ?_;refine QM (site:=1100) (g:=gs) (n:=(L k).length) (xs:=(L k).map V.sav) (ys:=[V.sav (o.num,z)]) (by rfl) (by exact mS) rfl (by rw[QXb]) rfl (W7 [(o.num,z)]) (by simp only[QWv,QXc,maxLen];omega) (by simp only[QWv,QXc];omega) ?_;simp only[h7,h10',m7,e1,eE,seval];exact fin _ _ (gs+1) (by exact h1) (by exact h3) (by exact h5) (by exact h6) (by exact h7) (by exact h8) (by exact h9) (by rfl) (by exact m3) (by exact m5') (by exact m6) (by rw[hKs,QWS];exact(by rfl)) (by exact m9') (by rw[hKs,QXZ];exact(by rfl)) (UA rfl)
    ·rw[hz,QWu (by simp),QXj]at hKs;simp only[h10',e1,Qa,seval];exact fin _ _ gs (by exact h1) (by exact h3) (by exact h5) (by exact h6) (by exact h7) (by exact h8) (by exact h9) (by rfl) (by exact m3) (by exact m5') (by exact m6) (by rw[hKs];exact(by exact m7)) (by exact m9') (by rw[hKs];exact(by exact mS)) (UA rfl)
   ·rw[hb,QXW,QWJ rfl]at hKs;simp only[h7,h9,m7,m9,eE,seval];refine QY (l:=[V.sav (o.num,z)]) rfl rfl rfl (by rw[ZK];rfl) ?_;refine QM (site:=1100) (g:=gs) (n:=(L k).length) (xs:=(L k).map V.sav) (ys:=[V.sav (o.num,z)]) (by rfl) (by exact mS) rfl (by rw[QXb]) rfl (W7 [(o.num,z)]) (by simp only[QWv,QXc,maxLen];omega) (by simp only[QWv,QXc];omega) ?_;simp only[h7,h10',m7,e1,eE,seval];exact fin _ _ (gs+1) (by exact h1) (by exact h3) (by exact h5) (by exact h6) (by exact h7) (by exact h8) (by exact h9) (by rfl) (by exact m3) (by exact m5') (by exact m6) (by rw[hKs,QWS];exact(by rfl)) (by exact m9') (by rw[hKs,QXZ];exact(by rfl)) (UA rfl)
 ·have e:k=v.slots.length:=by omega
  subst e;simp only[QA hlt,Qa,seval];exact q _ _ gs (by exact h1) (by exact h3) (by exact h5) (by exact h6) (by exact h7) (by exact h8) (by exact m3) (by exact m5') (by exact m6) (by exact m7) (by exact mS) (by rw[m9'];rfl) (isr n11)

def NoI (P:PL)(v:V)(K:Nat→List (Int×V))(len:Nat)(t:Nat)(rw':List R)(d:Nat)(st:St):Prop :=
 ∃f fr i gs,st=⟨f,[fr],[]⟩∧d=len-i∧i≤len∧f 1=.int .i64 (t:Nat)∧f 3=.ptr 0 3 0∧f 5=.ptr 0 5 0∧f 6=.ptr 0 6 0∧f 7=.ptr 0 7 0∧f 8=.int .i64 (i:Nat)∧fr 3=.cells [.list (P.progs.map Qp),.list (P.enums.map Qr)]∧fr 5=.cells (X3 v)∧fr 6=.cells [.int .i64 0,.int .u64 0,.str [],.nils,.nils,.nils,.nils]∧fr 7=.cells [.int .i64 10,.int .u64 0,.str [],.nils,.nils,.vec 0 1100 gs 0 (K i).length false,.list (rw'.map R.av)]∧fr 1100=.vec gs 8 ((K i).map V.sav)∧∀s∈[11,9],(fr s).isRow=false

section
variable {M:Nat}{P:PL}

set_option maxHeartbeats 2000000 in
theorem v9 (hU:Y0 P)(hr:Kd P)(hl:∀g∈P.progs,g.ops.length≤64):∀(n:Nat) (t:Int) (g:PG),P.progs[t.toNat]? = some g→0≤t→∀v:V,v.ok M→v.cnt≤1048576→MW P n g v→Qi Tryz.prog 9 [P.av,.int .i64 t,v.av] (nrm P n g v).av:=by
 have e0:P.av=.agg [.list (P.progs.map Qp),.list (P.enums.map Qr)]:=rfl;intro n
 induction n with
 |zero=>
  intro t g _ _ v _ _ h;exact h.elim
 |succ n ih=>
  intro t g hgt t0 v hv hc h;have hgm:=QWt hgt;have hu:=hU g hgm;have hd:=hr g hgm;have hg64:=hl g hgm;obtain⟨s1,s2⟩:=h;have hnor:=fun(o:PO) (ho:o∈g.ops) (x:V) (hx:x.ok M) (hxc:x.cnt≤1048576) (he:EW (MW P n) P o x)=>v51 o (hu o ho) (fun t g a b v c d e=>ih t g a b v c d e) x hx hxc he
  have hwit:=fun(o:PO) (ho:o∈g.ops) (x:V) (hx:x.ok M) (hxc:x.cnt≤1048576) (he:FW (MW P n) P o x)=>v26 o (hu o ho) (hnor o ho) x hx hxc he
  have lS:=KR v;have lR:=YO v;have cR:=v25 v.raws (by omega);obtain⟨ti,hti⟩:=QXV t0;subst hti;rw[QXI]at hgt;have hga:(P.progs.map Qp)[ti]? = some (.agg g.cells):=by simp[hgt,Qp]
  simp only[PG.cells]at hga;have htl:ti<P.progs.length:=(QWg.1 hgt).1;have d0:decide ((ti:Int)<0)=false:=QX5 (by omega);have d1:decide ((ti:Int)≥(P.progs.length:Int))=false:=QX5 (by omega);show Qi _ _ _ (V.mk 10 0 [] [] [] (g.ops.flatMap (QV (nrm P n) P v.slots)) (XU v.raws)).av;have hfin:g.ops.flatMap (QV (nrm P n) P v.slots)=g.ops.flatMap fun o=>v.slots.flatMap (Zy (nrm P n) P o):=by
   congr 1
   funext o;exact(BR (nrm P n) P s2).symm
  have hone:∀o,(v.slots.flatMap (Zy (nrm P n) P o)).length≤1:=by
   intro o;have e:v.slots.flatMap (Zy (nrm P n) P o)=QV (nrm P n) P v.slots o:=BR (nrm P n) P s2;rw[e,K7];split
   ·simp
   ·unfold ZD;split<;>simp
  rw[hfin];generalize XU v.raws=RW at *;rw[show v.av=.agg (X3 v)from Qw v];generalize hK:(fun i=>(g.ops.take i).flatMap fun o=>v.slots.flatMap (Zy (nrm P n) P o))=K;have hK0:K 0=[]:=by rw[←hK];simp
  have hKn:(g.ops.flatMap fun o=>v.slots.flatMap (Zy (nrm P n) P o))=K g.ops.length:=by rw[←hK];simp
  have hKl:∀i,i≤g.ops.length→(K i).length≤64:=by
   intro i hi;rw[←hK];have:∀l:List PO,(l.flatMap fun o=>v.slots.flatMap (Zy (nrm P n) P o)).length≤l.length:=by
    intro l
    induction l with
    |nil=>exact QWe _
    |cons o l ih=>
     have:=hone o;rw[QXK,QWS,QWv];omega
   have h2:=this (g.ops.take i);rw[QXd]at h2;show((g.ops.take i).flatMap _).length≤64;omega
  have hKs:∀i o,g.ops[i]? = some o→K (i+1)=K i++v.slots.flatMap (Zy (nrm P n) P o):=by
   intro i o ho;rw[←hK];show(g.ops.take (i+1)).flatMap _=(g.ops.take i).flatMap _++_;rw[QX0,ho,List.flatMap_append];simp
  rw[hKn,show(V.mk 10 0 [] [] [] (K g.ops.length) RW).av=.agg [.int .i64 10,.int .u64 0,.str [],.list [],.list [],.list ((K g.ops.length).map V.sav),.list (RW.map R.av)]from Qw _];clear hKn hfin hone;refine k9.fn (by simp) ?_;simp only[e0,X3,d0,d1,QXb,eE,seval];refine aC cR ?_;simp only[eE,seval];refine JK (by simp only[Qa,seval]<;>rfl) rfl (by simp only[Qa,seval]<;>rfl) rfl ?_;simp only[List.set,Qa,seval];refine Qc (NoI P v K g.ops.length ti RW) _ ⟨_,_,0,_,rfl,rfl,QWo _,(by rfl),(by rfl),(by rfl),(by rfl),(by rfl),(by rfl),(by rfl),(by rfl),(by rfl),(by rw[hK0];exact(by rfl)),(by rw[hK0];exact(by rfl)),Rh rfl rfl⟩ ?_;rintro _ st ⟨f0,fr0,i,gs,rfl,rfl,hil,h10,h30,h50,h60,h70,h80,m30,m50,m60,m70,mS0,JX⟩;refine QN (a:=_) [11,9] JX ?_;intro f fr hf hm hn11;have h1:f 1=.int .i64 (ti:Nat):=by rw[hf,h10]<;>rfl
  have h3:f 3=.ptr 0 3 0:=by rw[hf,h30]<;>rfl
  have h5:f 5=.ptr 0 5 0:=by rw[hf,h50]<;>rfl
  have h6:f 6=.ptr 0 6 0:=by rw[hf,h60]<;>rfl
  have h7:f 7=.ptr 0 7 0:=by rw[hf,h70]<;>rfl
  have h8:f 8=.int .i64 (i:Nat):=by rw[hf,h80]<;>rfl
  have m3:fr 3=.cells [.list (P.progs.map Qp),.list (P.enums.map Qr)]:=by rw[hm 3 (by decide),m30]<;>rfl
  have m5:fr 5=.cells (X3 v):=by rw[hm 5 (by decide),m50]<;>rfl
  have m6:fr 6=.cells [.int .i64 0,.int .u64 0,.str [],.nils,.nils,.nils,.nils]:=by rw[hm 6 (by decide),m60]<;>rfl
  have m7:fr 7=.cells [.int .i64 10,.int .u64 0,.str [],.nils,.nils,.vec 0 1100 gs 0 (K i).length false,.list (RW.map R.av)]:=by rw[hm 7 (by decide),m70]<;>rfl
  have mS:fr 1100=.vec gs 8 ((K i).map V.sav):=by rw[hm 1100 (by decide),mS0]<;>rfl
  have n11:=hn11 11 (by decide);have n9:=hn11 9 (by decide);clear hf hm hn11 h10 h30 h50 h60 h70 h80 m30 m50 m60 m70 mS0 JX;simp only[Qg,QXI,Qb,hga,QXb,QWQ,QWX,h1,h3,h8,m3,eE,seval];by_cases hlt:i<g.ops.length
  ·obtain⟨o,hi⟩:∃o,g.ops[i]? = some o:=⟨g.ops[i],QWh hlt⟩;have hom:=QWt hi;have hgo:(g.ops.map fun o=>AV.agg o.cells)[i]? = some (.agg o.cells):=by simp[hi]
   simp only[PO.cells]at hgo;have e1:=Qo i _ hlt (by simp only[maxLen];omega);have hKi:=hKl i (by omega);have hKs':=hKs i o hi;simp only[Ql hlt,Qg,QXI,Qb,hga,PO.cells,hgo,n9,h1,h3,h8,m3,eE,seval];refine Sv (P:=P) (v:=v) (o:=o) (n:=n) (ti:=ti) (i:=i) (K i) hKi (by omega) RW (fun x hx hxn=>by
    obtain⟨o',ho',hf'⟩:=s1 x hx;rw[hxn,XO hd hom]at ho';cases ho';exact hwit o hom x.2 (hv.slots x hx) (QWf (Ww hx) hc) hf') _ _ gs (by exact h1) (by exact h3) (by exact h5) (by exact h6) (by exact h7) (by exact h8) (by rfl) (by rfl) (by exact m3) (by exact m5) (by exact m6) (by exact m7) (by rfl) (by exact mS) (UA (isr (by exact n11))) _ ?_
   clear h1 h3 h5 h6 h7 h8 m3 m5 m6 m7 mS n11 n9;intro f fr gs h1 h3 h5 h6 h7 h8 m3 m5 m6 m7 mS n9 n11;rw[←hKs']at m7 mS;simp only[h8,e1,Qa,seval];exact⟨g.ops.length-(i+1),by omega,_,_,i+1,gs,rfl,rfl,by omega,(by exact h1),(by exact h3),(by exact h5),(by exact h6),(by exact h7),(by rfl),m3,m5,m6,m7,mS,Rh n11 n9⟩
  ·have e:i=g.ops.length:=by omega
   subst e;simp only[QA hlt,h6,h7,m6,m7,eE,seval];simp[AV.un,AV.unL,Zv,XL,mS,QWO]

end

theorem Ri {M:Nat}{v:V}(h:v.ok M):v.nsc.ok M:=by
 refine .mk h.kd ?_ h.text h.nl h.np h.ns h.nr h.list h.keys h.vals h.nums h.slots h.raws;show(Lit.int .u64 ((Xt v.kd v.bits:Nat):Int)).wf=true;unfold Xt;split
 ·rfl
 ·exact h.bits

def Gd (g:PG):Prop:=g.ops.length≤64∧∀o∈g.ops,(Lit.int .i64 o.num).wf=true

section
variable {M:Nat}{P:PL}{nm:PG→V→V}(h:∀t v,v.ok M→(nm (QR P t) v).ok M)
include h
theorem Nu (o:PO){v:V}(hv:v.ok M):(Xu nm P o v).ok M:=by
 unfold Xu;split
 ·exact h _ v hv
 ·exact Ri hv
theorem Qxv (o:PO){v:V}(hv:v.ok M):(XB nm P o v).ok M:=by
 unfold XB;split
 ·refine .mk rfl rfl (QWo _) ?_ (QWo _) (QWo _) (QWo _) ?_ (fun x hx=>nomatch hx) (fun x hx=>nomatch hx) (fun x hx=>nomatch hx) (fun x hx=>nomatch hx) (fun x hx=>nomatch hx)
  ·show(v.list.map _).length≤_;rw[QXb];exact hv.nl
  ·intro x hx;obtain⟨y,hy,rfl⟩:=QXB.1 hx;exact Nu h o (hv.list y hy)
 ·split
  ·have hp:(Q0 o.key v.pairs).Perm v.pairs:=Q3 _;refine .mk rfl rfl (QWo _) (QWo _) ?_ (QWo _) (QWo _) (fun x hx=>nomatch hx) ?_ ?_ (fun x hx=>nomatch hx) (fun x hx=>nomatch hx) (fun x hx=>nomatch hx)
   ·show((Q0 o.key v.pairs).map _).length≤_;rw[QXb,hp.length_eq];exact hv.np
   ·intro x hx;obtain⟨y,hy,rfl⟩:=QXB.1 hx;exact Ri (hv.keys y (hp.mem_iff.1 hy))
   ·intro x hx;obtain⟨y,hy,rfl⟩:=QXB.1 hx;exact Nu h o (hv.vals y (hp.mem_iff.1 hy))
  ·exact Nu h o hv
theorem QaC {g:PG}(hg:Gd g){v:V}(hv:v.ok M):(W6 nm P g v).ok M:=by
 unfold W6;have hp:(XU v.raws).Perm v.raws:=Q3 _;have hs:∀x∈g.ops.flatMap (QV nm P v.slots),(Lit.int .i64 x.1).wf=true∧x.2.ok M:=by
  intro x hx;obtain⟨o,ho,hx⟩:=QW1.1 hx;obtain⟨e1,s,hs,_,e2⟩:=Xv hx;rw[e1,e2];exact⟨hg.2 o ho,Qxv h o (hv.slots s hs)⟩
 have hl:∀l:List PO,(l.flatMap (QV nm P v.slots)).length≤l.length:=by
  intro l
  induction l with
  |nil=>exact QWe _
  |cons o l ih=>
   have:(QV nm P v.slots o).length≤1:=by
    unfold QV;split
    ·simp
    ·split<;>simp
   rw[QXK,QWS,QWv];omega
 refine .mk rfl rfl (QWo _) (QWo _) (QWo _) ?_ ?_ (fun x hx=>nomatch hx) (fun x hx=>nomatch hx) (fun x hx=>nomatch hx) (fun x hx=>(hs x hx).1) (fun x hx=>(hs x hx).2) ?_
 ·show(g.ops.flatMap (QV nm P v.slots)).length≤_;have:=hl g.ops;have:=hg.1;omega
 ·show(XU v.raws).length≤_;rw[hp.length_eq];exact hv.nr
 ·intro x hx;exact hv.raws x (hp.mem_iff.1 hx)
end
theorem Nv {M:Nat}{P:PL}(hg:∀t,Gd (QR P t)):∀(n:Nat) (t:Int) (v:V),v.ok M→(nrm P n (QR P t) v).ok M
 |0,_,_,h=>h
 |n+1,t,_,h=>QaC (fun t v hv=>Nv hg n t v hv) (hg t) h

theorem CY {M:Nat}{P:PL}(hP:P.ok M)(hl:∀g∈P.progs,g.ops.length≤64)(t:Int):Gd (QR P t):=by
 unfold QR;cases hg:P.progs[t.toNat]? with
 |none=>exact⟨QWo _,fun o ho=>nomatch ho⟩
 |some g=>
  have hm:=QWt hg;exact⟨hl g hm,fun o ho=>((hP.progs g hm).ops o ho).num⟩
theorem Dd {P:PL}(h:ck P=0):∀g∈P.progs,g.ops.length≤64:=by
 unfold ck at h;split at h
 ·omega
 rename_i hl;exact(Um (by simpa using hl)).2.2.1

open Vp Cp

theorem De {f:R}(h1:1≤f.num∧f.num≤65535)(h2:0≤f.wire∧f.wire≤6)(h3:if Xb f.wire=true then f.data=[]else f.bits=0)(h4:f.bits<18446744073709551616)(h5:f.data.length<18446744073709551616):Gf f:=by
 refine⟨?_,h4,h5⟩;unfold valid Zm;rw[QWu (by omega)];simp only[QXq,QXT];split at h3
 ·rename_i h;rw[QWJ h];simp[h3]
 ·rename_i h;rw[QWu h];simp[h3]
theorem Qxw {M:Nat}{P:PL}{k tg:Int}{x:V}(hx:x.one P k tg=0)(ox:x.ok M){n:Int}(hn:1≤n∧n≤65535):Gf (JF n x):=by
 obtain⟨a1,a2,a3,_⟩:=Ss hx;have ht:=DI hx;have hb:=Uz (k:=x.kd) (AK ox) x.text;have hd:=Fk x.kd x.bits x.text;refine De hn ?_ ?_ hb (Nat.lt_of_le_of_lt hd (by omega))
 ·show 0≤(XP x.kd x.bits x.text).wire∧(XP x.kd x.bits x.text).wire≤6;unfold XP zr
  repeat' split
  all_goals exact⟨by simp[],by simp[]⟩
 ·show if Xb (XP x.kd x.bits x.text).wire=true then(XP x.kd x.bits x.text).data=[]else(XP x.kd x.bits x.text).bits=0
  rw[a1];unfold XP;by_cases c1:k=1∨k=4∨k=5∨k=9
  ·rw[QWJ c1];rfl
  rw[QWu c1];by_cases c2:k=2∨k=3
  ·rw[QWJ c2];rfl
  rw[QWu c2];by_cases c3:k=6
  ·rw[QWJ c3];rfl
  rw[QWu c3,QWJ (show k=7∨k=8 by omega)];rfl

def QII (M:Nat)(P:PL)(m:PG→V→Int)(nm:PG→V→V)(bd:Int→V→List UInt8):Prop :=
 ∀(t:Int) (x y:V),(0≤t∧t<(P.progs.length:Int))→m (QR P t) x=0→m (QR P t) y=0→x.ok M→y.ok M→x.cnt≤1048576→y.cnt≤1048576→nm (QR P t) x=x→nm (QR P t) y=y→bd t x=bd t y→x=y

section
variable {M:Nat}{P:PL}{m:PG→V→Int}{nm:PG→V→V}{bd:Int→V→List UInt8}{o:PO}(ho:UO P o)
variable (hbd:∀(t:Int) (v:V),(0≤t∧t<(P.progs.length:Int))→m (QR P t) v=0→(bd t v).length+70000≤70000*v.cnt)
variable (hT:QII M P m nm bd)

include ho hbd in
theorem Rj {n:Int}(hn:1≤n∧n≤65535){x:V}(hx:QU m P o x=0)(ox:x.ok M)(hc:x.cnt≤1048576):Gf (Xo bd o n x):=by
 have hl:=U0 hbd ho (n:=n) hx;unfold QU at hx;unfold Xo at hl ⊢;by_cases hk:o.kind=10
 ·rw[QWJ hk]at hl ⊢;exact De hn ⟨by show(0:Int)≤4;decide,by show(4:Int)≤6;decide⟩ rfl (by show(0:Nat)<_;decide) (by omega)
 ·rw[QWu hk]at hx;rw[QWu hk];exact Qxw hx ox hn

theorem Sw {x:V}(h4:o.card=4)(nx:XB nm P o x=x):x=.mk 11 0 [] x.list [] [] []∧∀y∈x.list,Xu nm P o y=y:=by
 unfold XB at nx;rw[QWJ h4]at nx;have hl:x.list.map (Xu nm P o)=x.list:=by
  have:=congrArg V.list nx;exact this
 refine⟨by rw[hl]at nx;exact nx.symm,fun y hy=>?_⟩;obtain⟨i,hi,rfl⟩:=QYm hy;have:=congrArg (fun l=>l[i]?) hl;simp only[QXE,QWh hi,QW6,QWF]at this;exact this
theorem Rk {x:V}(h5:o.card=5)(nx:XB nm P o x=x):x=.mk 12 0 [] [] x.pairs [] []∧∀p∈x.pairs,p.1.nsc=p.1∧∃q∈x.pairs,p.2=Xu nm P o q.2:=by
 unfold XB at nx;rw[QWu (by omega),QWJ h5]at nx;have hl:((Q0 o.key x.pairs).map fun p=>(p.1.nsc,Xu nm P o p.2))=x.pairs:=by
  have:=congrArg V.pairs nx;exact this
 refine⟨by rw[hl]at nx;exact nx.symm,fun p hp=>?_⟩;rw[←hl]at hp;obtain⟨q,hq,rfl⟩:=QXB.1 hp;exact⟨Vt _,q,(Q3 x.pairs).mem_iff.1 hq,rfl⟩

include ho hbd in
theorem Qxx (hn:1≤o.num∧o.num≤65535){x:V}(hx:Xc m P o x=0)(ox:x.ok M)(hc:x.cnt≤1048576):∀f∈WB bd o x,Gf f:=by
 unfold Xc at hx;unfold WB;by_cases h5:o.card=5
 ·rw[QWJ h5]at hx;rw[QWJ h5];split at hx
  ·omega
  have ex:=(KD.1 hx).1;intro f hf;obtain⟨p,hp,rfl⟩:=QXB.1 hf;have h1:=No hbd ho (ex p hp).1 (ex p hp).2;have h2:=UX hp;have h3:=Vv hp;exact De hn ⟨by show(0:Int)≤6;decide,by show(6:Int)≤6;decide⟩ rfl (by show(0:Nat)<_;decide) (by omega)
 rw[QWu h5]at hx;rw[QWu h5];by_cases hp:pk o.card o.kind=true
 ·rw[QWJ hp];intro f hf;rw[QYi]at hf;subst hf;have h1:=U1 (wk o.kind) x.list;have h2:=KG x;exact De hn ⟨by show(0:Int)≤5;decide,by show(5:Int)≤6;decide⟩ rfl (by show(0:Nat)<_;decide) (by
   show(UInt8.ofNat (wk o.kind).toNat :: x.list.flatMap (Hm (wk o.kind))).length<_;rw[QWv];omega)
 rw[QWu hp];by_cases h4:o.card=4
 ·rw[QWJ h4]at hx;rw[QWJ h4];split at hx
  ·omega
  intro f hf;obtain⟨y,hy,rfl⟩:=QXB.1 hf;have h2:=YN hy;exact Rj ho hbd hn (KE.1 hx y hy) (ox.list y hy) (by omega)
 ·rw[QWu h4]at hx;rw[QWu h4];intro f hf;rw[QYi]at hf;subst hf;exact Rj ho hbd hn hx ox hc

end
theorem QaD (bd:Int→V→List UInt8)(o:PO)(x:V):∀f∈WB bd o x,f.num=o.num:=by
 have he:∀y,(Xo bd o o.num y).num=o.num:=fun y=>by
  unfold Xo;split<;>rfl
 unfold WB;split
 ·intro f hf;obtain⟨p,_,rfl⟩:=QXB.1 hf;rfl
 split
 ·intro f hf;rw[QYi]at hf;subst hf;rfl
 split
 ·intro f hf;obtain⟨y,_,rfl⟩:=QXB.1 hf;exact he y
 ·intro f hf;rw[QYi]at hf;subst hf;exact he x

section
variable {P:PL}{bd:Int→V→List UInt8}{g:PG}

end

def Qxy (P:PL):Prop:=∀g∈P.progs,∀o∈g.ops,1≤o.num∧o.num≤65535
theorem QaE {P:PL}(h:ck P=0):Qxy P:=by
 unfold ck at h;split at h
 ·omega
 split at h
 ·omega
 split at h
 ·omega
 split at h
 ·omega
 split at h
 ·omega
 rename_i hr;have hr:GC P=true:=by simpa using hr
 unfold GC at hr;simp only[QWE,QWs]at hr;intro g hg o ho;have:=hr.1 g hg o ho;unfold Zl at this
 simpa using this

structure Ns (M:Nat)(P:PL)(m:PG→V→Int)(nm:PG→V→V)(g:PG)(s:Int×V):Prop where
 wd:Wd P m g s
 ok:s.2.ok M
 cnt:s.2.cnt≤1048576
 nrm:∀o,Zg g s.1=some o→XB nm P o s.2=s.2

theorem CZ {P:PL}{g:PG}{f:R}(h:JP P g f=0):(1≤f.num∧f.num≤65535)∧(0≤f.wire∧f.wire≤6)∧(f.wire≤2→f.data=[])∧(2<f.wire→f.bits=0)∧UP P g f=true∧f.data.length≤65536∧(f.wire=3→f.data.length≤4096):=by
 unfold JP at h;split at h
 ·omega
 rename_i h1;split at h
 ·omega
 rename_i h2;split at h
 ·omega
 rename_i h3;split at h
 ·omega
 rename_i h4;simp only[QWk,QWl,not_or,QWE,not_and,QXe,QWm,Bool.not_eq_false]at h1 h2 h3 h4;refine⟨by omega,by omega,fun hw=>?_,fun hw=>?_,h3,by omega,fun hw=>by have:=h4.1 hw;omega⟩
 ·have:=h2.1 hw
  simpa using this
 ·have:=h2.2 hw
  simpa using this
theorem Qxz {P:PL}{g:PG}{f:R}(h:JP P g f=0)(hb:f.bits<18446744073709551616):Gf f:=by
 obtain⟨h1,h2,h3,h4,_,h6,_⟩:=CZ h;refine De h1 h2 ?_ hb (by omega);unfold Xb;by_cases hw:f.wire≤2
 ·rw[QWJ (by
   have:f.wire=0∨f.wire=1∨f.wire=2:=by omega
   rcases this with e|e|e<;>rw[e]<;>rfl)]
  exact h3 hw
 ·rw[QWu (by simp;omega)];exact h4 (by omega)

section
variable {M:Nat}{P:PL}(hU:Y0 P)(hr:Kd P)(hn:Qxy P)

include hU hr in
theorem QIJ {n:Nat}{t:Int}(hg:QR P t∈P.progs){x:V}(h:XJ P (n+1) (QR P t) x=0)(ox:x.ok M)(cx:x.cnt≤1048576)(nx:nrm P (n+1) (QR P t) x=x):∀s∈x.slots,Ns M P (XJ P n) (nrm P n) (QR P t) s:=by
 intro s hs;have hw:=Ra hU hr hg h;rw[nx]at hw;refine⟨hw s hs,ox.slots s hs,QWf (Ww hs) cx,fun o ho=>?_⟩;have hs2:=hs;rw[←nx]at hs2;obtain⟨q,hq,hsq⟩:=QW1.1 (show s∈(QR P t).ops.flatMap (QV (nrm P n) P x.slots)from hs2);obtain⟨e1,u,hu,e2,e3⟩:=Xv hsq;rw[e1,XO (hr _ hg) hq]at ho;have hoq:q=o:=Option.some.inj ho;subst hoq;obtain⟨_,⟨s1,_,_⟩,_,_⟩:=ZZ.1 h;obtain⟨o',h1,h2⟩:=s1 u hu;rw[e2,XO (hr _ hg) hq]at h1;have hoq:q=o':=Option.some.inj h1;subst hoq;rw[e3];exact BP (fun g hg v h=>BQ hU hr n g hg v h) (hU _ hg q hq) h2

include hr in
theorem Sx {n:Nat}{g:PG}(hg:g∈P.progs)(v:V):(nrm P (n+1) g v).slots.Pairwise fun x y=>x.1<y.1:=by
 show(g.ops.flatMap (QV (nrm P n) P v.slots)).Pairwise _;rw[QYo];refine⟨fun _ _=>YK,(hr g hg).imp fun {a b} hab x hx y hy=>?_⟩;rw[(Xv hx).1,(Xv hy).1];exact hab

theorem QxA {m:PG→V→Int}{nm:PG→V→V}(bd:Int→V→List UInt8){g:PG}{s:Int×V}(h:Ns M P m nm g s):Kk bd g s≠[]:=by
 obtain⟨o,ho,hf,he⟩:=h.wd;have hx:=h.nrm o ho;unfold Kk;rw[ho];show WB bd o s.2≠[];unfold WB;by_cases h5:o.card=5
 ·rw[QWJ h5];have he:=he.resolve_left (by omega);obtain⟨a1,_⟩:=Rk h5 hx;intro e;have:s.2.pairs=[]:=List.map_eq_nil_iff.1 e;rw[this]at a1;rw[a1]at he;cases he
 rw[QWu h5];split
 ·simp
 split
 ·rename_i h4;have he:=he.resolve_left (by omega);obtain⟨a1,_⟩:=Sw h4 hx;intro e;have:s.2.list=[]:=List.map_eq_nil_iff.1 e;rw[this]at a1;rw[a1]at he;cases he
 ·simp
theorem QaF {m:PG→V→Int}{nm:PG→V→V}(bd:Int→V→List UInt8){g:PG}{s:Int×V}(h:Ns M P m nm g s):∀f∈Kk bd g s,f.num=s.1:=by
 obtain⟨o,ho,_,_⟩:=h.wd;unfold Kk;rw[ho];intro f hf;rw[QaD bd o s.2 f hf];exact(ZL ho).2
include hU hr hn in
theorem QaG {n:Nat}{t:Int}(hg:QR P t∈P.progs){x:V}(h:XJ P (n+1) (QR P t) x=0)(ox:x.ok M)(hs:∀s∈x.slots,Ns M P (XJ P n) (nrm P n) (QR P t) s):∀f∈Xd (Zx P n) (QR P t) x.slots x.raws,Gf f:=by
 obtain⟨_,_,_,hraw⟩:=ZZ.1 h;have key:∀(sl:List (Int×V)) (rs:List R),(∀s∈sl,Ns M P (XJ P n) (nrm P n) (QR P t) s)→(∀f∈rs,Gf f)→∀f∈Xd (Zx P n) (QR P t) sl rs,Gf f:=by
  intro sl
  induction sl with
  |nil=>intro rs _ hr f hf;exact hr f hf
  |cons s sl ih=>
   intro rs h1 h2 f hf;rw[Xd,QXz,QXz]at hf;rcases hf with(hf|hf)|hf
   ·exact h2 f ((QYt _).mem hf)
   ·have hs:=h1 s (by simp);obtain⟨o,ho,hfo,_⟩:=hs.wd;have hom:=(ZL ho).1;unfold Kk at hf;rw[ho]at hf;exact Qxx (hU _ hg o hom) (fun t v ht hm=>Yk hU hr n t v ht hm) (hn _ hg o hom) hfo hs.ok hs.cnt f hf
   ·exact ih _ (fun s h=>h1 s (by simp[h])) (fun f hf=>h2 f ((QYs _).mem hf)) f hf
 refine key x.slots x.raws hs fun f hf=>Qxz (hraw f hf) ?_
 have:=Gg (ox.raws f hf).bits;omega

end

section
variable {bd:Int→V→List UInt8}{g:PG}
theorem Nw {f:R}:∀ {sl:List (Int×V)} {rs:List R},f∈Xd bd g sl rs→f∈rs∨∃s∈sl,f∈Kk bd g s
 | [],_,h=>.inl h
 |s :: sl,rs,h=>by
  rw[Xd,QXz,QXz]at h;rcases h with(h|h)|h
  ·exact .inl ((QYt _).mem h)
  ·exact .inr ⟨s,by simp,h⟩
  ·rcases Nw h with h|⟨u,hu,h⟩
   ·exact .inl ((QYs _).mem h)
   ·exact .inr ⟨u,by simp[hu],h⟩
theorem VF {k:Int}:∀ {rs:List R},(rs.Pairwise fun a b=>a.num≤b.num)→∀f∈rs.dropWhile (fun r=>decide (r.num<k)),k≤f.num
 | [],_,_,h=>by cases h
 |r :: rs,hp,f,h=>by
  obtain⟨h1,h2⟩:=QXP.1 hp;rw[List.dropWhile_cons]at h;split at h
  ·exact VF h2 f h
  ·rename_i hr;have hr:¬r.num<k:=by simpa using hr
   rcases QXD.1 h with rfl|h
   ·omega
   ·have:=h1 f h;omega
theorem VG {k:Int}:∀ {rs:List R},∀f∈rs.takeWhile (fun r=>decide (r.num<k)),f.num<k
 | [],_,h=>by cases h
 |r :: rs,f,h=>by
  rw[List.takeWhile_cons]at h;split at h
  ·rename_i hr;rcases QXD.1 h with rfl|h
   ·simpa using hr
   ·exact VG f h
  ·cases h
theorem Nx:∀ {sl:List (Int×V)} {rs:List R},(sl.Pairwise fun x y=>x.1<y.1)→(rs.Pairwise fun a b=>a.num≤b.num)→(∀s∈sl,∀f∈Kk bd g s,f.num=s.1)→(Xd bd g sl rs).Pairwise fun a b=>a.num≤b.num
 | [],_,_,hr,_=>hr
 |s :: sl,rs,hs,hr,hn=>by
  obtain⟨h1,h2⟩:=QXP.1 hs;have hd:(rs.dropWhile fun r=>decide (r.num<s.1)).Pairwise fun a b=>a.num≤b.num:=hr.sublist (QYs _)
  have ih:=Nx h2 hd (fun u hu=>hn u (by simp[hu]));have hge:∀f∈Xd bd g sl (rs.dropWhile fun r=>decide (r.num<s.1)),s.1≤f.num:=by
   intro f hf;rcases Nw hf with h|⟨u,hu,h⟩
   ·exact VF hr f h
   ·have:=hn u (by simp[hu]) f h;have:=h1 u hu;omega
  rw[Xd,QWB,List.pairwise_append];refine⟨hr.sublist (QYt _),?_,fun a ha b hb=>?_⟩
  ·rw[List.pairwise_append];refine⟨?_,ih,fun a ha b hb=>?_⟩
   ·rw[List.pairwise_iff_forall_sublist];intro a b hab;have ha:=hn s (by simp) a (hab.mem (by simp));have hb:=hn s (by simp) b (hab.mem (by simp));omega
   ·have:=hn s (by simp) a ha;have:=hge b hb;omega
  ·have:=VG a ha;rcases QXz.1 hb with h|h
   ·have:=hn s (by simp) b h;omega
   ·have:=hge b h;omega
end

theorem QaH {c:C}(hl:c.d.length≤9223372036854770000)(hs:c.sound=true)(hn:1≤c.nd)(hm:c.nd<9223372036854775808){f:R}{t:List UInt8}(hf:Gf f)(hr:c.rest=Zq f++t)(hb:¬CV f c.tx):(ZP c).2.2=3:=by
 obtain⟨n,w,a1,a2,a3,a4,a5,a6⟩:=Sr hf;have hv:=hf.1;have hd:=hf.2.2;unfold CV at hb;simp only[Classical.not_imp]at hb;obtain⟨hnum,hb⟩:=hb;rw[a2]at hnum hb;have hw:3≤w:=by
  rcases a6 with⟨c1,_⟩|⟨c1,_⟩|⟨c1,_⟩
  ·subst c1;cases hnum
  ·have:w=0∨w=1:=by omega
   rcases this with e|e<;>subst e<;>cases hnum
  ·exact c1
 obtain⟨_,_,hbo⟩:3≤w∧f.bits=0∧body f=Vp.put f.data.length++f.data:=by
  rcases a6 with⟨c1,_⟩|⟨c1,_⟩|h
  ·omega
  ·omega
  ·exact h
 have h1n:1≤n:=by
  unfold valid Zm at hv;rw[a1]at hv;split at hv
  ·cases hv
  ·omega
 rw[a5,hbo,QWB,QWB]at hr;have ht1:=Wo (n*8+w) (Vp.put f.data.length++(f.data++t)) (by omega);rw[←hr]at ht1;have hvar:c.varint=((n*8+w),c.ahead (Vp.put (n*8+w)).length,0):=by
  show(if (Vp.take c.rest).2.2=0 then((Vp.take c.rest).1,c.ahead (Vp.take c.rest).2.1,0)else(0,c,(Vp.take c.rest).2.2))=_;rw[ht1];rfl
 have hlen:(Vp.put (n*8+w)).length≤c.rest.length:=by rw[hr,QWS];omega
 obtain⟨b1,b2,b3⟩:=JT hl hs (Vp.put (n*8+w)).length (by unfold C.left;omega);have htag:XW c=((n:Int),(w:Int),c.ahead (Vp.put (n*8+w)).length,0):=by
  unfold XW;simp only[hvar,if_true];rw[QWu (by omega),QWu (by omega),show(n*8+w) / 8=n by omega,show(n*8+w) % 8=w by omega]
 have hsp:(c.ahead (Vp.put (n*8+w)).length).spend 1=({ c.ahead (Vp.put (n*8+w)).length with nd:=c.nd-1 },0):=Fl (c:=c.ahead (Vp.put (n*8+w)).length) hn hm;generalize hD:({ c.ahead (Vp.put (n*8+w)).length with nd:=c.nd-1 }:C)=D at hsp;have hDs:D.sound=true:=by rw[←hD];exact b2
 have hDl:D.d.length≤9223372036854770000:=by rw[←hD];exact hl
 have hDr:D.rest=Vp.put f.data.length++(f.data++t):=by
  have:D.rest=c.rest.drop (Vp.put (n*8+w)).length:=by rw[←hD,←b3];rfl
  rw[this,hr,List.drop_left'];rfl
 have htx:D.tx=c.tx:=by rw[←hD];rfl
 have ht2:=Wo f.data.length (f.data++t) hd;rw[←hDr]at ht2;have hDv:D.varint=(f.data.length,D.ahead (Vp.put f.data.length).length,0):=by
  show(if (Vp.take D.rest).2.2=0 then((Vp.take D.rest).1,D.ahead (Vp.take D.rest).2.1,0)else(0,D,(Vp.take D.rest).2.2))=_;rw[ht2];rfl
 have hlen2:(Vp.put f.data.length).length≤D.rest.length:=by rw[hDr,QWS];omega
 obtain⟨_,d2,d3⟩:=JT hDl hDs (Vp.put f.data.length).length (by unfold C.left;omega);have hleft:(D.ahead (Vp.put f.data.length).length).left=((f.data++t).length:Int):=by
  unfold C.left;rw[d3,hDr,List.drop_left'];rfl
 have hdat:Kn D (w:Int)=([],D,3):=by
  unfold Kn;simp only[hDv,if_true];rw[QWu (by rw[hleft,QWS];omega),QWJ (by rw[htx];omega)]
 have hcont:(Z2 D ⟨(n:Int),(w:Int),0,[]⟩).2.2=3:=by
  unfold Z2;rw[QWu (by show ¬(w:Int)=2;omega),QWu (by show ¬((w:Int)=0∨(w:Int)=1);omega)];show(Kn D (w:Int)).2.2=3;rw[hdat]
 unfold ZP;simp only[htag,hsp,if_true];rw[QWu (by rw[hcont];decide)];exact hcont

theorem Rl:∀(T:List R) (k:Nat) (c:C),c.d.length≤9223372036854770000→c.sound=true→c.rest=QW T→c.rest.length≤k→(T.length:Int)≤c.nd→c.nd<9223372036854775808→(∀f∈T,Gf f)→sg k c=(T,0)∨(sg k c).2=3
 | [],k,c,_,_,hr,_,_,_,_=>by
  have h0:c.left=0:=by
   unfold C.left;rw[hr];rfl
  cases k with
  |zero=>exact .inl rfl
  |succ k=>rw[sg,QWu (by omega)];exact .inl rfl
 |f :: T,k,c,hl,hs,hr,hk,hn,hm,hg=>by
  have hf:=hg f (by simp);have e:QW (f :: T)=Zq f++QW T:=by unfold QW;rw[QXK]
  have hp:=VE hf.1;rw[e]at hr;have hrl:c.rest.length=(Zq f).length+(QW T).length:=by rw[hr,QWS]
  simp only[QWv]at hn;obtain⟨j,rfl⟩:∃j,k=j+1:=⟨k-1,by omega⟩;have hleft:0<c.left:=by unfold C.left;omega
  by_cases hfit:CV f c.tx
  ·have hrd:=Qxp hf.1 hf.2.1 hf.2.2 hfit (QW T);rw[←hr]at hrd;have hnx:=(Qxq hl hs (by omega) hm).1 f _ hrd;obtain⟨a1,a2,a3⟩:=JT hl hs (Zq f).length (by unfold C.left;omega);have hc':({ c with a:=c.a+(Zq f).length,nd:=c.nd-1 }:C)={ c.ahead (Zq f).length with nd:=c.nd-1 }:=by rw[a1]
   have hs':({ c with a:=c.a+(Zq f).length,nd:=c.nd-1 }:C).sound=true:=by rw[hc'];exact a2
   have hr':({ c with a:=c.a+(Zq f).length,nd:=c.nd-1 }:C).rest=QW T:=by
    have:({ c with a:=c.a+(Zq f).length,nd:=c.nd-1 }:C).rest=c.rest.drop (Zq f).length:=by rw[hc',←a3];rfl
    rw[this,hr,List.drop_left'];rfl
   have ih:=Rl T j { c with a:=c.a+(Zq f).length,nd:=c.nd-1 } hl hs' hr' (by rw[hr'];omega) (by show(T.length:Int)≤c.nd-1;omega) (by show c.nd-1<_;omega) (fun g h=>hg g (by simp[h]));rw[sg,QWJ hleft];simp only[hnx,if_true];rcases ih with h|h
   ·rw[h];exact .inl rfl
   ·rw[QWu (by rw[h];decide)];exact .inr h
  ·have hnx:=QaH hl hs (by omega) hm hf hr hfit;rw[sg,QWJ hleft];simp only;rw[QWu (by rw[hnx];decide)];exact .inr hnx

theorem Sy {T:List R}{l:L}(ho:okl (QW T) l)(hl:(QW T).length≤9223372036854770000)(hn:(T.length:Int)≤l.nd)(hm:l.nd<9223372036854775808)(hg:∀f∈T,Gf f):Wz (QW T) l=(T,0)∨(Wz (QW T) l).2=3:=by
 obtain⟨f1,f2⟩:=Re (QW T) l.dp l.nd l.tx;unfold Wz;rw[QaA ho];simp only[if_true];exact Rl T _ _ hl f1 f2 (by rw[f2];exact QWe _) hn hm hg

theorem QxB (x:V):JF 0 x=XP x.kd x.bits x.text:=by
 unfold JF XP zr
 repeat' split
 all_goals rfl
theorem DK (bd:Int→V→List UInt8)(o:PO)(n:Int)(x:V):({ Xo bd o 0 x with num:=n }:R)=Xo bd o n x:=by
 unfold Xo;split
 ·rfl
 ·rfl
theorem QxC {α:Type}(l:List α)(F:α→R):(l.map fun x=>(F x).av)=(l.map F).map R.av:=by rw[QX3];rfl
theorem Wc {fr:Nat→Ob}{a:Nat}(h1:(fr a).isRow=false):∀s∈[a],(fr s).isRow=false:=by
 intro s hs;simp only[QXD,QYn,or_false]at hs;subst hs;exact h1

theorem C0 (n:Int)(f:R):Qi Tryz.prog 197 [.int .i64 n,f.av] ({ f with num:=n }:R).av:=by
 refine QhT.fn (by simp) ?_;simp only[R.av,eE,seval]

theorem t23 {M:Nat}{v:V}(hv:v.ok M):Qi Tryz.prog 23 [v.av] (JF 0 v).av:=by
 rw[QxB,Qw];exact y23 v.kd v.bits (AK hv) v.text _ _ _ _

section
variable {M:Nat}{P:PL}{m:PG→V→Int}{bd:Int→V→List UInt8}(o:PO)(ho:UO P o)

include ho in
theorem QRM (hb:∀(t:Int) (g:PG),P.progs[t.toNat]? = some g→0≤t→∀v:V,v.ok M→v.cnt≤1048576→m g v=0→Qi Tryz.prog 31 [P.av,.int .i64 t,v.av] (.str (bd t v)))(x:V)(hx:x.ok M)(hc:x.cnt≤1048576)(he:QU m P o x=0) :
  Qi Tryz.prog 198 [P.av,Qv o,x.av] (Xo bd o 0 x).av:=by
 have e0:P.av=.agg [.list (P.progs.map Qp),.list (P.enums.map Qr)]:=rfl;unfold Xo;by_cases hk:o.kind=10
 ·have b:(o.kind==10)=true:=by simp[hk]
  rw[QWJ hk];unfold QU at he;rw[QWJ hk]at he;obtain⟨t0,t1⟩:=ho.tgt hk;obtain⟨g,hg⟩:∃g,P.progs[o.target.toNat]? = some g:=⟨P.progs[o.target.toNat]'(by omega),QWh (by omega)⟩;have hq:QR P o.target=g:=by unfold QR;rw[hg];rfl
  rw[hq]at he;have h2:=hb o.target g hg t0 x hx hc he;rw[e0,Qw]at h2;rw[Qw];refine RI.fn (by simp) ?_;simp only[e0,Qv,PO.cells,b,R.av,eE,seval];refine aC h2 ?_;simp only[eE,seval]
 ·have b:(o.kind==10)=false:=by simp[hk]
  rw[QWu hk];have h1:=t23 hx;generalize JF 0 x=z at h1 ⊢;rw[Qw]at h1;rw[Qw];simp only[R.av]at h1;refine RI.fn (by simp) ?_;simp only[e0,Qv,PO.cells,b,R.av,eE,seval];refine aC h1 ?_;simp only[eE,seval]

def QRN (P:PL)(o:PO)(l:List V)(F:V→R)(k:Nat)(st:St):Prop :=
 ∃f fr i g,st=⟨f,[fr],[]⟩∧k=l.length-i∧i≤l.length∧f 3=.ptr 0 3 0∧f 4=.ptr 0 4 0∧f 7=.vec 0 7 g 0 i false∧f 11=.list (l.map V.av)∧f 12=.int .i64 (l.length:Nat)∧f 13=.int .i64 (i:Nat)∧fr 3=.cells [.list (P.progs.map Qp),.list (P.enums.map Qr)]∧fr 4=.cells o.cells∧fr 7=.vec g 4 ((l.take i).map fun x=>(F x).av)∧∀s∈[9],(fr s).isRow=false

def QRO (P:PL)(o:PO)(l:List (V×V))(F:V×V→R)(k:Nat)(st:St):Prop :=
 ∃f fr i g,st=⟨f,[fr],[]⟩∧k=l.length-i∧i≤l.length∧f 3=.ptr 0 3 0∧f 4=.ptr 0 4 0∧f 7=.vec 0 7 g 0 i false∧f 12=.list (l.map V.pav)∧f 13=.int .i64 (l.length:Nat)∧f 14=.int .i64 (i:Nat)∧fr 3=.cells [.list (P.progs.map Qp),.list (P.enums.map Qr)]∧fr 4=.cells o.cells∧fr 7=.vec g 4 ((l.take i).map fun x=>(F x).av)∧∀s∈[9],(fr s).isRow=false

theorem QRP (hel:∀x:V,x.ok M→x.cnt≤1048576→QU m P o x=0→Qi Tryz.prog 198 [P.av,Qv o,x.av] (Xo bd o 0 x).av)(v:V)(hv:v.ok M)(hc:v.cnt≤1048576)(hL:∀x∈v.list,QU m P o x=0) :
  Qi Tryz.prog 118 [P.av,Qv o,v.av] (.list ((v.list.map (Xo bd o o.num)).map R.av)):=by
 have e0:P.av=.agg [.list (P.progs.map Qp),.list (P.enums.map Qr)]:=rfl;have hlen:=KG v;rw[Qw v];refine QLX.fn (by simp) ?_;simp only[e0,Qv,PO.cells,eE,seval];refine Zj rfl rfl ?_;simp only[QXb,eE,seval];refine Qc (QRN P o v.list (Xo bd o o.num)) _ ⟨_,_,0,_,rfl,rfl,QWo _,(by rfl),(by rfl),(by rfl),(by rfl),(by rfl),(by rfl),(by rfl),(by rfl),(by rfl),Wc rfl⟩ ?_;rintro _ st ⟨f0,fr0,i,g,rfl,rfl,hil,h30,h40,h70,h110,h120,h130,m30,m40,mR0,r9⟩;refine QN (a:=_) [9] r9 ?_;intro f fr hf hm hn9;have h3:f 3=.ptr 0 3 0:=by rw[hf,h30]<;>rfl
 have h4:f 4=.ptr 0 4 0:=by rw[hf,h40]<;>rfl
 have h7:f 7=.vec 0 7 g 0 i false:=by rw[hf,h70]<;>rfl
 have h11:f 11=.list (v.list.map V.av):=by rw[hf,h110]<;>rfl
 have h12:f 12=.int .i64 (v.list.length:Nat):=by rw[hf,h120]<;>rfl
 have h13:f 13=.int .i64 (i:Nat):=by rw[hf,h130]<;>rfl
 have m3:fr 3=.cells [.list (P.progs.map Qp),.list (P.enums.map Qr)]:=by rw[hm 3 (by decide),m30]<;>rfl
 have m4':fr 4=.cells o.cells:=by rw[hm 4 (by decide),m40]<;>rfl
 have mR:fr 7=.vec g 4 ((v.list.take i).map fun x=>(Xo bd o o.num x).av):=by rw[hm 7 (by decide),mR0]<;>rfl
 have n9:=hn9 9 (by decide);clear hf hm hn9 h30 h40 h70 h110 h120 h130 m30 m40 mR0 r9;have m4:=m4';simp only[PO.cells]at m4;simp only[h12,h13,Qa,seval];by_cases hlt:i<v.list.length
 ·obtain⟨x,hi⟩:∃x,v.list[i]? = some x:=⟨v.list[i],QWh hlt⟩;have hx:=QWt hi;have hg:=YI hi;have e1:=Qo i _ hlt (by simp only[maxLen];omega);have c1:=hel x (hv.list x hx) (QWf (YN hx) hc) (hL x hx);have c2:=C0 o.num (Xo bd o 0 x);rw[DK]at c2;have hti:((v.list.take i).map fun x=>(Xo bd o o.num x).av).length=i:=by rw[QXb,QXd];omega
  have hts:(v.list.take (i+1)).map (fun x=>(Xo bd o o.num x).av)=(v.list.take i).map (fun x=>(Xo bd o o.num x).av)++[(Xo bd o o.num x).av]:=by rw[QX0,hi];simp
  generalize Xo bd o 0 x=y at c1 c2;generalize Xo bd o o.num x=z at c2 hts;rw[e0,Qw x]at c1;simp only[Qv,PO.cells,R.av]at c1 c2;simp only[Ql hlt,Qg,QXI,Qb,hg,n9,h3,h4,h7,h11,h13,m3,m4,eE,seval];refine aC c1 ?_;refine aC c2 ?_;refine QY (l:=[z.av]) rfl rfl rfl rfl ?_;refine QM (site:=7) (g:=g) (n:=i) (xs:=(v.list.take i).map fun x=>(Xo bd o o.num x).av) (ys:=[z.av]) (by rfl) (by exact mR) rfl hti.symm rfl (JA [z]) (by simp only[QWv,QXc,maxLen];omega) (by simp only[QWv,QXc];omega) ?_;simp only[h13,e1,Qa,seval];exact⟨v.list.length-(i+1),by omega,_,_,i+1,g+1,rfl,rfl,by omega,(by exact h3),(by exact h4),(by rfl),(by exact h11),(by exact h12),(by rfl),(by exact m3),(by exact m4'),(by rw[hts];exact(by rfl)),Wc rfl⟩
 ·have e:i=v.list.length:=by omega
  subst e;rw[QXR,QxC]at mR;simp only[QA hlt,h7,mR,eE,seval];simp[AV.un,Zv,XL,QWO]

include ho in
theorem QRQ (hbd:∀(t:Int) (v:V),(0≤t∧t<(P.progs.length:Int))→m (QR P t) v=0→(bd t v).length+70000≤70000*v.cnt)(hel:∀x:V,x.ok M→x.cnt≤1048576→QU m P o x=0→Qi Tryz.prog 198 [P.av,Qv o,x.av] (Xo bd o 0 x).av)(v:V)(hv:v.ok M)(hc:v.cnt≤1048576)(hE:∀p∈v.pairs,p.1.one P o.key (-1)=0∧QU m P o p.2=0) :
  Qi Tryz.prog 115 [P.av,Qv o,v.av] (.list ((v.pairs.map (KH bd o)).map R.av)):=by
 have e0:P.av=.agg [.list (P.progs.map Qp),.list (P.enums.map Qr)]:=rfl;have hlen:=WV v;rw[Qw v];refine QLU.fn (by simp) ?_;simp only[e0,Qv,PO.cells,eE,seval];refine Zj rfl rfl ?_;simp only[QXb,eE,seval];refine Qc (QRO P o v.pairs (KH bd o)) _ ⟨_,_,0,_,rfl,rfl,QWo _,(by rfl),(by rfl),(by rfl),(by rfl),(by rfl),(by rfl),(by rfl),(by rfl),(by rfl),Wc rfl⟩ ?_;rintro _ st ⟨f0,fr0,i,g,rfl,rfl,hil,h30,h40,h70,h120,h130,h140,m30,m40,mR0,r9⟩;refine QN (a:=_) [9] r9 ?_;intro f fr hf hm hn9;have h3:f 3=.ptr 0 3 0:=by rw[hf,h30]<;>rfl
 have h4:f 4=.ptr 0 4 0:=by rw[hf,h40]<;>rfl
 have h7:f 7=.vec 0 7 g 0 i false:=by rw[hf,h70]<;>rfl
 have h12:f 12=.list (v.pairs.map V.pav):=by rw[hf,h120]<;>rfl
 have h13:f 13=.int .i64 (v.pairs.length:Nat):=by rw[hf,h130]<;>rfl
 have h14:f 14=.int .i64 (i:Nat):=by rw[hf,h140]<;>rfl
 have m3:fr 3=.cells [.list (P.progs.map Qp),.list (P.enums.map Qr)]:=by rw[hm 3 (by decide),m30]<;>rfl
 have m4':fr 4=.cells o.cells:=by rw[hm 4 (by decide),m40]<;>rfl
 have mR:fr 7=.vec g 4 ((v.pairs.take i).map fun x=>(KH bd o x).av):=by rw[hm 7 (by decide),mR0]<;>rfl
 have n9:=hn9 9 (by decide);clear hf hm hn9 h30 h40 h70 h120 h130 h140 m30 m40 mR0 r9;have m4:=m4';simp only[PO.cells]at m4;simp only[h13,h14,Qa,seval];by_cases hlt:i<v.pairs.length
 ·obtain⟨x,hi⟩:∃x,v.pairs[i]? = some x:=⟨v.pairs[i],QWh hlt⟩;have hx:=QWt hi;have hg:=Jl hi;have e1:=Qo i _ hlt (by simp only[maxLen];omega);have hcc:=UX hx;have hck:=Vv hx;have c0:=t23 (hv.keys x hx);have c1:=C0 1 (JF 0 x.1);rw[show({ JF 0 x.1 with num:=1 }:R)=JF 1 x.1 from rfl]at c1;have c2:=hel x.2 (hv.vals x hx) (QWf hcc hc) (hE x hx).2;have c3:=C0 2 (Xo bd o 0 x.2);rw[DK]at c3;have hpn:=Nr (l:=[JF 1 x.1,Xo bd o 2 x.2]) (fun f hf=>by
   rcases QXD.1 hf with rfl|hf
   ·exact Rd (hv.keys x hx) 1
   ·rw[QYi]at hf;subst hf;exact Nq (hv.vals x hx) bd o 2) (by have:=VB hbd ho (hE x hx).1 (hE x hx).2;omega)
  have c4:=c61 [JF 1 x.1,Xo bd o 2 x.2] hpn.1 hpn.2.1 hpn.2.2;have hen:KH bd o x=⟨o.num,6,0,QW [JF 1 x.1,Xo bd o 2 x.2]⟩:=rfl;have hti:((v.pairs.take i).map fun x=>(KH bd o x).av).length=i:=by rw[QXb,QXd];omega
  have hts:(v.pairs.take (i+1)).map (fun x=>(KH bd o x).av)=(v.pairs.take i).map (fun x=>(KH bd o x).av)++[(KH bd o x).av]:=by rw[QX0,hi];simp
  rw[hen]at hts;clear hpn hen;generalize JF 0 x.1=y0 at c0 c1;generalize Xo bd o 0 x.2=y2 at c2 c3;generalize JF 1 x.1=z1 at c1 c4 hts;generalize Xo bd o 2 x.2=z2 at c3 c4 hts;generalize QW [z1,z2]=d at c4 hts;rw[Qw x.1]at c0;rw[e0,Qw x.2]at c2;simp only[Qv,PO.cells,R.av,Jv,QWM,QXh]at c0 c1 c2 c3 c4;simp only[Ql hlt,Qg,QXI,Qb,hg,n9,h12,h14,eE,seval];refine aC c0 ?_;refine aC c1 ?_;simp only[h3,h4,m3,m4,eE,seval];refine aC c2 ?_;refine aC c3 ?_;refine QY (l:=[z1.av,z2.av]) rfl rfl rfl rfl ?_;simp only[h4,h7,m4,eE,seval];refine aC c4 ?_;simp only[eE,seval];refine QY (l:=[(R.mk o.num 6 0 d).av]) rfl rfl rfl rfl ?_;refine QM (site:=7) (g:=g) (n:=i) (xs:=(v.pairs.take i).map fun x=>(KH bd o x).av) (ys:=[(R.mk o.num 6 0 d).av]) (by rfl) (by exact mR) rfl hti.symm rfl (JA [_]) (by simp only[QWv,QXc,maxLen];omega) (by simp only[QWv,QXc];omega) ?_;simp only[h14,e1,Qa,seval];exact⟨v.pairs.length-(i+1),by omega,_,_,i+1,g+1,rfl,rfl,by omega,(by exact h3),(by exact h4),(by rfl),(by exact h12),(by exact h13),(by rfl),(by exact m3),(by exact m4'),(by rw[hts];exact(by rfl)),Wc rfl⟩
 ·have e:i=v.pairs.length:=by omega
  subst e;rw[QXR,QxC]at mR;simp only[QA hlt,h7,mR,eE,seval];simp[AV.un,Zv,XL,QWO]

end
end Go.Proofs.YtdhlbgejhcejcaaGreatDoor.Va

namespace Go.Proofs.YtdhlbgejhcejcaaGreatDoor.Va
open Go Am Rc Bt Vp Cp Up

end Go.Proofs.YtdhlbgejhcejcaaGreatDoor.Va

namespace Go.Proofs.YtdhlbgejhcejcaaGreatDoor.Va
open Go Am Rc Bt Vp Cp

open Up

open Br So

section
variable {M:Nat}{P:PL}{m:PG→V→Int}{bd:Int→V→List UInt8}(o:PO)(ho:UO P o)

end

def QRR (n:Int)(x:V):List AV:=[.int .i64 n,.int .i64 x.kd,.int .u64 (x.bits:Nat),.str x.text,.list (x.list.map V.av),.list (x.pairs.map V.pav),.list (x.slots.map V.sav),.list (x.raws.map R.av)]

structure RaF (P:PL)(o:PO)(x:V)(f:Fr)(fr:Nat→Ob)(g:Nat)(out:List R):Prop where
 f3:f 3=.ptr 0 3 0
 f5:f 5=.ptr 0 5 0
 f7:f 7=.ptr 0 7 0
 f9:f 9=.vec 0 9 g 0 out.length false
 m3:fr 3=.cells [.list (P.progs.map Qp),.list (P.enums.map Qr)]
 m5:fr 5=.cells (QRR o.num x)
 m7:fr 7=.cells o.cells
 mR:fr 9=.vec g 4 (out.map R.av)

section
variable {M:Nat}{P:PL}{m:PG→V→Int}{bd:Int→V→List UInt8}(o:PO)(ho:UO P o)

end

section
variable {M:Nat}{P:PL}{m:PG→V→Int}{bd:Int→V→List UInt8}

end

section
variable {M:Nat}{P:PL}{m:PG→V→Int}{bd:Int→V→List UInt8}(o:PO)(ho:UO P o)

def PkI (o:PO)(l:List V)(F:Nat→List UInt8)(k:Nat)(st:St):Prop :=
 ∃f fr i g,st=⟨f,[fr],[]⟩∧k=l.length-i∧i≤l.length∧f 4=.ptr 0 4 0∧f 8=.int .i64 (wk o.kind)∧f 9=.vec 0 19 g 0 (F i).length false∧f 21=.list (l.map V.av)∧f 22=.int .i64 (l.length:Nat)∧f 23=.int .i64 (i:Nat)∧fr 4=.cells o.cells∧fr 19=.vec g 1 (Qz (F i))∧∀s∈[11],(fr s).isRow=false

theorem QRS (hp:pk o.card o.kind=true)(v:V)(hv:v.ok M)(hc:v.cnt≤1048576) :
  Qi Tryz.prog 117 [P.av,Qv o,v.av] (.list ([Nm o v.list].map R.av)):=by
 have e0:P.av=.agg [.list (P.progs.map Qp),.list (P.enums.map Qr)]:=rfl;have hlen:=KG v;have cw:=QO6 o.num o.name o.alias 2 o.key o.kind o.target o.union;have hw2:Pp 2 o.kind=wk o.kind:=by
  have e:pk 2 o.kind=false:=by simp[pk]
  unfold Pp;rw[e];rfl
 rw[hw2]at cw;simp only[oc]at cw;have hcv:∃b:UInt8,IntKind.u8.wrap (wk o.kind)=(b.toNat:Int)∧UInt8.ofNat (wk o.kind).toNat=b:=by
  rcases QIH hp with h|h|h<;>rw[h]
  ·exact⟨0,rfl,rfl⟩
  ·exact⟨1,rfl,rfl⟩
  ·exact⟨2,rfl,rfl⟩
 obtain⟨b0,hb0,hb1⟩:=hcv;have hpk:Nm o v.list=⟨o.num,5,0,b0 :: v.list.flatMap (Hm (wk o.kind))⟩:=by unfold Nm;rw[hb1]
 rw[hpk];clear hpk hb1
 let F:Nat→List UInt8:=fun i=>b0 :: (v.list.take i).flatMap (Hm (wk o.kind))
 have hF0:F 0=[b0]:=by simp[F]
 have hFn:F v.list.length=b0 :: v.list.flatMap (Hm (wk o.kind)):=by simp[F]
 have hFl:∀i,i≤v.list.length→(F i).length≤1+10*i:=by
  intro i hi;have:=U1 (wk o.kind) (v.list.take i);rw[QXd]at this;simp only[F,QWv];omega
 have hFs:∀i x,v.list[i]? = some x→F (i+1)=F i++Hm (wk o.kind) x:=by
  intro i x hx;simp only[F];rw[QX0,hx,List.flatMap_append];simp
 rw[←hFn]
 clear_value F
 clear hFn;have hbl:∀s:List UInt8,(Qz s).length=s.length:=fun s=>by simp[Qz]
 rw[Qw v];refine QdA.fn (by simp) ?_;simp only[e0,Qv,PO.cells,eE,seval];refine aC cw ?_;simp only[hb0,Qa,seval];refine DX (y:=[.int .u8 (b0.toNat:Int)]) rfl rfl rfl rfl ?_;simp only[QXb,eE,seval];refine Qc (PkI o v.list F) _ ⟨_,_,0,_,rfl,rfl,QWo _,(by rfl),(by rfl),(by rw[hF0];exact(by rfl)),(by rfl),(by rfl),(by rfl),(by rfl),(by rw[hF0];exact(by rfl)),Wc rfl⟩ ?_;rintro _ st ⟨f0,fr0,i,g,rfl,rfl,hil,h40,h80,h90,h210,h220,h230,m40,mR0,JX⟩;refine QN (a:=_) [11] JX ?_;intro f fr hf hm hn11;have h4:f 4=.ptr 0 4 0:=by rw[hf,h40]<;>rfl
 have h8:f 8=.int .i64 (wk o.kind):=by rw[hf,h80]<;>rfl
 have h9:f 9=.vec 0 19 g 0 (F i).length false:=by rw[hf,h90]<;>rfl
 have h21:f 21=.list (v.list.map V.av):=by rw[hf,h210]<;>rfl
 have h22:f 22=.int .i64 (v.list.length:Nat):=by rw[hf,h220]<;>rfl
 have h23:f 23=.int .i64 (i:Nat):=by rw[hf,h230]<;>rfl
 have m4':fr 4=.cells o.cells:=by rw[hm 4 (by decide),m40]<;>rfl
 have mR:fr 19=.vec g 1 (Qz (F i)):=by rw[hm 19 (by decide),mR0]<;>rfl
 have n11:=hn11 11 (by decide);clear hf hm hn11 h40 h80 h90 h210 h220 h230 m40 mR0 JX;have m4:=m4';simp only[PO.cells]at m4;simp only[h22,h23,Qa,seval];by_cases hlt:i<v.list.length
 ·obtain⟨x,hi⟩:∃x,v.list[i]? = some x:=⟨v.list[i],QWh hlt⟩;have hx:=QWt hi;have hg:=YI hi;have e1:=Qo i _ hlt (by simp only[maxLen];omega);have c1:=t23 (hv.list x hx);rw[QxB]at c1;have hbb:(XP x.kd x.bits x.text).bits<18446744073709551616:=Uz (AK (hv.list x hx)) _;have hFi:=hFl i (by omega);have hFx:=hFs i x hi;have hpx:=VC (wk o.kind) x;have epx:Hm (wk o.kind) x=Nl (wk o.kind) (XP x.kd x.bits x.text).bits:=rfl;rw[epx]at hFx hpx;clear epx;generalize XP x.kd x.bits x.text=z at c1 hbb hFx hpx;rw[Qw x]at c1;simp only[R.av]at c1;simp only[Ql hlt,Qg,QXI,Qb,hg,n11,h21,h23,eE,seval];refine aC c1 ?_;by_cases w2:wk o.kind=2
  ·have b2:(wk o.kind==2)=true:=by simp[w2]
   have epb:Nl (wk o.kind) z.bits=fx 8 z.bits:=by unfold Nl;rw[QWJ w2]
   rw[epb]at hFx hpx;simp only[b2,h8,h9,Qa,seval];refine aC (Qxl z.bits) ?_;refine Ud (site:=19) (g:=g) (xs:=Qz (F i)) (by rfl) (by exact mR) rfl (hbl _).symm rfl (by omega) ?_;simp only[h23,e1,eE,seval];exact⟨v.list.length-(i+1),by omega,_,_,i+1,g+1,rfl,rfl,by omega,(by exact h4),(by exact h8),(by rw[hFx,QWS];exact(by rfl)),(by exact h21),(by exact h22),(by rfl),(by exact m4'),(by rw[hFx,show Qz (F i++fx 8 z.bits)=Qz (F i)++Qz (fx 8 z.bits)by simp[Qz]];exact(by rfl)),Wc rfl⟩
  ·have b2:(wk o.kind==2)=false:=by simp[w2]
   have epb:Nl (wk o.kind) z.bits=Vp.put z.bits:=by unfold Nl;rw[QWu w2]
   rw[epb]at hFx hpx;simp only[b2,h8,h9,Qa,seval];refine aC (CO z.bits hbb) ?_;refine Ud (site:=19) (g:=g) (xs:=Qz (F i)) (by rfl) (by exact mR) rfl (hbl _).symm rfl (by omega) ?_;simp only[h23,e1,eE,seval];exact⟨v.list.length-(i+1),by omega,_,_,i+1,g+1,rfl,rfl,by omega,(by exact h4),(by exact h8),(by rw[hFx,QWS];exact(by rfl)),(by exact h21),(by exact h22),(by rfl),(by exact m4'),(by rw[hFx,show Qz (F i++Vp.put z.bits)=Qz (F i)++Qz (Vp.put z.bits)by simp[Qz]];exact(by rfl)),Wc rfl⟩
 ·have e:i=v.list.length:=by omega
  subst e;have he:Q9 [fr] (.vec 0 19 g 0 (F v.list.length).length false)=some (Qz (F v.list.length)):=WJ mR (hbl _).symm;have hbo:bytesOf (Qz (F v.list.length))=some (F v.list.length):=YQ _;simp only[QA hlt,h4,h9,m4,he,hbo,eE,seval];refine QY (l:=[(R.mk o.num 5 0 (F v.list.length)).av]) rfl rfl rfl rfl ?_;simp only[QWM,QXh,Qa,seval]

def Ny (o:PO):Nat:=if o.card=5 then 115 else if pk o.card o.kind=true then 117 else if o.card=4 then 118 else 119

theorem t67:Qi Tryz.prog 67 [Qv o] (.fn (.func (Ny o)) [] []):=by
 have cp:=QvR o.num o.name o.alias o.card o.key o.kind o.target o.union;simp only[oc]at cp;unfold Ny;refine k67.fn (by simp) ?_;simp only[Qv,PO.cells,eE,seval];by_cases h5:o.card=5
 ·have b5:(o.card==5)=true:=by simp[h5]
  rw[QWJ h5];simp only[b5,Qa,seval]
 have b5:(o.card==5)=false:=by simp[h5]
 rw[QWu h5];simp only[b5,eE,seval];refine aC cp ?_;cases hp:pk o.card o.kind
 case true=>simp only[Qa,seval]
 simp only[eE,seval];by_cases h4:o.card=4
 ·have b4:(o.card==4)=true:=by simp[h4]
  simp only[h4,Qa,seval]
 ·have b4:(o.card==4)=false:=by simp[h4]
  simp only[b4,h4,Qa,seval]

theorem QRT (hel:∀x:V,x.ok M→x.cnt≤1048576→QU m P o x=0→Qi Tryz.prog 198 [P.av,Qv o,x.av] (Xo bd o 0 x).av)(v:V)(hv:v.ok M)(hc:v.cnt≤1048576)(he:QU m P o v=0) :
  Qi Tryz.prog 119 [P.av,Qv o,v.av] (.list ([Xo bd o o.num v].map R.av)):=by
 have e0:P.av=.agg [.list (P.progs.map Qp),.list (P.enums.map Qr)]:=rfl;have c1:=hel v hv hc he;have c2:=C0 o.num (Xo bd o 0 v);rw[DK]at c2;generalize Xo bd o 0 v=y at c1 c2;generalize Xo bd o o.num v=z at c2 ⊢;rw[e0,Qw v]at c1;simp only[Qv,PO.cells,R.av]at c1 c2;rw[Qw v];refine QdF.fn (by simp) ?_;simp only[e0,Qv,PO.cells,eE,seval];refine aC c1 ?_;refine aC c2 ?_;refine QY (l:=[z.av]) rfl rfl rfl rfl ?_;simp only[QWM,QXh,Qa,seval]

include ho in
theorem QIK (hbd:∀(t:Int) (v:V),(0≤t∧t<(P.progs.length:Int))→m (QR P t) v=0→(bd t v).length+70000≤70000*v.cnt)(hb:∀(t:Int) (g:PG),P.progs[t.toNat]? = some g→0≤t→∀v:V,v.ok M→v.cnt≤1048576→m g v=0→Qi Tryz.prog 31 [P.av,.int .i64 t,v.av] (.str (bd t v)))(v:V)(hv:v.ok M)(hc:v.cnt≤1048576)(hf:Xc m P o v=0) :
  Qi Tryz.prog (Ny o) [P.av,Qv o,v.av] (.list ((WB bd o v).map R.av)):=by
 have hel:=fun(x:V) (hx:x.ok M) (hxc:x.cnt≤1048576) (he:QU m P o x=0)=>QRM o ho hb x hx hxc he
 unfold Ny WB;unfold Xc at hf;by_cases h5:o.card=5
 ·rw[QWJ h5]at hf;rw[QWJ h5,QWJ h5];split at hf
  ·omega
  exact QRQ o ho hbd hel v hv hc (KD.1 hf).1
 rw[QWu h5]at hf;rw[QWu h5,QWu h5];by_cases hp:pk o.card o.kind=true
 ·rw[QWJ hp,QWJ hp];exact QRS o hp v hv hc
 rw[QWu hp,QWu hp];by_cases h4:o.card=4
 ·rw[QWJ h4]at hf;rw[QWJ h4,QWJ h4];split at hf
  ·omega
  exact QRP o hel v hv hc (KE.1 hf)
 ·rw[QWu h4]at hf;rw[QWu h4,QWu h4];exact QRT o hel v hv hc hf
end

section
variable {M:Nat}{P:PL}{m:PG→V→Int}{bd:Int→V→List UInt8}

theorem t35 (hU:Y0 P)(hP:P.ok M)(hbd:∀(t:Int) (v:V),(0≤t∧t<(P.progs.length:Int))→m (QR P t) v=0→(bd t v).length+70000≤70000*v.cnt)(hb:∀(t:Int) (g:PG),P.progs[t.toNat]? = some g→0≤t→∀v:V,v.ok M→v.cnt≤1048576→m g v=0→Qi Tryz.prog 31 [P.av,.int .i64 t,v.av] (.str (bd t v)))(t:Int)(g:PG)(hgt:P.progs[t.toNat]? = some g)(t0:0≤t)(s:Int×V)(hv:s.2.ok M)(hc:s.2.cnt≤1048576)(o:PO)(ho:Zg g s.1=some o)(hf:Xc m P o s.2=0) :
  Qi Tryz.prog 35 [P.av,.int .i64 t,V.sav s] (.list ((Kk bd g s).map R.av)):=by
 have e0:P.av=.agg [.list (P.progs.map Qp),.list (P.enums.map Qr)]:=rfl;have hgm:=QWt hgt;obtain⟨hom,hon⟩:=ZL ho;have c1:=y66 g (hP.progs g hgm).len s.1;rw[Yf,ho]at c1;have c2:=t67 o;have c3:=QIK o (hU g hgm o hom) hbd hb s.2 hv hc hf;have hsl:Kk bd g s=WB bd o s.2:=by unfold Kk;rw[ho]
 rw[hsl];obtain⟨ti,hti⟩:=QXV t0;subst hti;rw[QXI]at hgt;have hga:(P.progs.map Qp)[ti]? = some (.agg g.cells):=by simp[hgt,Qp]
 generalize WB bd o s.2=z at c3 ⊢;generalize Ny o=k at c2 c3;simp only[PG.cells]at hga;rw[e0,Qw s.2]at c3;simp only[Qp,Qv,PG.cells,PO.cells,QXr,QX6]at c1 c2 c3;rw[ZK];refine k35.fn (by simp) ?_;simp only[e0,Qg,QXI,Qb,hga,eE,seval];refine aC c1 ?_;simp only[eE,seval];refine aC c2 ?_;simp only[eE,seval];refine J9 (fa:=[]) (fb:=[]) (by rfl) c3 rfl rfl rfl (.inl rfl) ?_;simp only[Qa,seval]

end

section
variable (bd:Int→V→List UInt8)(g:PG)
theorem VH {s:Int×V}{sl:List (Int×V)}{r:R}{rs:List R}(h:r.num<s.1):Xd bd g (s :: sl) (r :: rs)=r :: Xd bd g (s :: sl) rs:=by
 have d:decide (r.num<s.1)=true:=QYa h;rw[Xd,Xd,List.takeWhile_cons,List.dropWhile_cons,QWJ d,QWJ d];rfl
theorem U2 {s:Int×V}{sl:List (Int×V)}{rs:List R}(h:∀r l,rs=r :: l→¬r.num<s.1):Xd bd g (s :: sl) rs=Kk bd g s++Xd bd g sl rs:=by
 rw[Xd];cases rs with
 |nil=>rfl
 |cons r l=>
  have d:¬decide (r.num<s.1)=true:=fun e=>h r l rfl (of_decide_eq_true e)
  rw[List.takeWhile_cons,List.dropWhile_cons,QWu d,QWu d];rfl
end

structure BoF (P:PL)(t:Nat)(S:List (Int×V))(f:Fr)(fr:Nat→Ob)(i g:Nat)(out rest:List R):Prop where
 f1:f 1=.int .i64 (t:Nat)
 f3:f 3=.ptr 0 3 0
 f8:f 8=.vec 0 8 g 0 out.length false
 f9:f 9=.list (rest.map R.av)
 f20:f 20=.list (S.map V.sav)
 f21:f 21=.int .i64 (S.length:Nat)
 f22:f 22=.int .i64 (i:Nat)
 m3:fr 3=.cells [.list (P.progs.map Qp),.list (P.enums.map Qr)]
 mR:fr 8=.vec g 4 (out.map R.av)

section
variable {M:Nat}{P:PL}

theorem QIL (bd:Int→V→List UInt8)(g:PG)(t:Nat)(S:List (Int×V))(i:Nat)(s:Int×V)(sl:List (Int×V))(T:List R)(hT:T.length≤3000000000000)(f:Fr)(fr:Nat→Ob)(gn:Nat)(out rest:List R)(h:BoF P t S f fr i gn out rest)(h11:f 11=.ptr 0 11 0)(m11:fr 11=.cells [.int .i64 s.1,.int .i64 s.2.kd,.int .u64 (s.2.bits:Nat),.str s.2.text,.list (s.2.list.map V.av),.list (s.2.pairs.map V.pav),.list (s.2.slots.map V.sav),.list (s.2.raws.map R.av)])(hi:out++Xd bd g (s :: sl) rest=T)(Q:Exit→St→Prop)
  (q:∀f fr gn out rest,BoF P t S f fr i gn out rest→f 11=.ptr 0 11 0→fr 11=.cells [.int .i64 s.1,.int .i64 s.2.kd,.int .u64 (s.2.bits:Nat),.str s.2.text,.list (s.2.list.map V.av),.list (s.2.pairs.map V.pav),.list (s.2.slots.map V.sav),.list (s.2.raws.map R.av)]→out++(Kk bd g s++Xd bd g sl rest)=T→Q (.exit 2) (⟨f,[fr],[]⟩:St)) :
  QG Tryz.prog (.loop SK) ⟨f,[fr],[]⟩ Q:=by
 let I:Nat→St→Prop:=fun k st=>∃f fr gn out rest,st=⟨f,[fr],[]⟩∧k=rest.length∧BoF P t S f fr i gn out rest∧f 11=.ptr 0 11 0∧fr 11=.cells [.int .i64 s.1,.int .i64 s.2.kd,.int .u64 (s.2.bits:Nat),.str s.2.text,.list (s.2.list.map V.av),.list (s.2.pairs.map V.pav),.list (s.2.slots.map V.sav),.list (s.2.raws.map R.av)]∧out++Xd bd g (s :: sl) rest=T
 refine Qc I _ ⟨f,fr,gn,out,rest,rfl,rfl,h,h11,m11,hi⟩ ?_;clear h h11 m11 hi;rintro _ st ⟨f,fr,gn,out,rest,rfl,rfl,⟨h1,h3,h8,h9,h20,h21,h22,m3,mR⟩,h11,m11,hi⟩;simp only[Qa,seval];cases rest with
 |nil=>
  have d1:decide (((0:Nat):Int) > 0)=false:=rfl;simp only[QXh,QXc,h9,Qa,seval];exact q _ _ gn out [] ⟨(by exact h1),(by exact h3),(by exact h8),(by exact h9),(by exact h20),(by exact h21),(by exact h22),m3,mR⟩ (by exact h11) m11 (by rw[←hi,U2];intro r l e;cases e)
 |cons r l=>
  have d1:decide (((l.length+1:Nat):Int) > 0)=true:=QYa (by omega);have hml:(l.map R.av).length=l.length:=QXb ..;by_cases hr:r.num<s.1
  ·have d2:decide (r.num<s.1)=true:=QYa hr;rw[VH bd g hr]at hi;have hol:out.length+1≤T.length:=by rw[←hi];simp
   have hs1:(1≤((r :: l).map R.av).length)=True:=eq_true (by simp);have hs3:=JA (r :: l);have hs2:List.take (((r :: l).map R.av).length-1) (List.drop 1 ((r :: l).map R.av))=l.map R.av:=by simp[QWO]
   simp only[QWM,QWv,hml,d1,d2,R.av,QXi,Qb,h8,h9,h11,m11,eE,seval];refine QY (l:=[r.av]) rfl rfl rfl rfl ?_;refine QM (site:=8) (g:=gn) (n:=out.length) (xs:=out.map R.av) (ys:=[r.av]) (by rfl) (by exact mR) rfl (by rw[QXb]) rfl (JA [r]) (by simp only[QWv,QXc,maxLen];omega) (by simp only[QWv,QXc];omega) ?_;simp only[Zt,ZE,Q1,QXQ,hs1,hs2,hs3,QWe,or_true,QXk,QWv,QXc,h9,Qa,seval];exact⟨l.length,by simp,_,_,gn+1,out++[r],l,rfl,rfl,⟨(by exact h1),(by exact h3),by rw[QWS];exact(by rfl),(by rfl),(by exact h20),(by exact h21),(by exact h22),(by exact m3),by rw[QXZ];exact(by rfl)⟩,(by exact h11),(by exact m11),by rw[←hi];simp⟩
  ·have d2:decide (r.num<s.1)=false:=QX5 hr;simp only[QWM,QWv,hml,d1,d2,R.av,QXi,Qb,h9,h11,m11,eE,seval];exact q _ _ gn out (r :: l) ⟨(by exact h1),(by exact h3),(by exact h8),(by exact h9),(by exact h20),(by exact h21),(by exact h22),m3,mR⟩ (by exact h11) m11 (by rw[←hi,U2];intro r' l' e;cases e;exact hr)

def BoI (P:PL)(bd:Int→V→List UInt8)(g:PG)(t:Nat)(S:List (Int×V))(T:List R)(k:Nat)(st:St):Prop :=
 ∃f fr i gn out rest,st=⟨f,[fr],[]⟩∧k=S.length-i∧i≤S.length∧BoF P t S f fr i gn out rest∧out++Xd bd g (S.drop i) rest=T∧∀s∈[11],(fr s).isRow=false

theorem t31 (hP:P.ok M)(hU:Y0 P)(hr:Kd P)(hcd:CN P)(hG:∀t,Gd (QR P t)):∀(n:Nat) (t:Int) (g:PG),P.progs[t.toNat]? = some g→0≤t→∀v:V,v.ok M→v.cnt≤1048576→XJ P n g v=0→Qi Tryz.prog 31 [P.av,.int .i64 t,v.av] (.str (Zx P n t v)):=by
 have e0:P.av=.agg [.list (P.progs.map Qp),.list (P.enums.map Qr)]:=rfl;intro n
 induction n with
 |zero=>
  intro t g _ _ v _ _ h;exact(Da 0 _ _ h).elim
 |succ n ih=>
  intro t g hgt t0 v hv hc h;have hgm:=QWt hgt;have hq:QR P t=g:=by unfold QR;rw[hgt];rfl
  have cn:=v60 hP hU hr hcd (n+1) t g hgt t0 v hv hc (Da _ _ _ h);have hw:=Ra hU hr hgm h;have hnok:=Nv hG (n+1) t v hv;have hncn:=UT hr (n+1) g (hr g hgm) v;have hfit:=YL hU hr (n+1) g hgm v h;obtain⟨_,_,_,hraw⟩:=ZZ.1 hfit;rw[hq]at hnok;rw[Zx,hq];generalize nrm P (n+1) g v=w at cn hw hnok hncn hraw;have hwc:w.cnt≤1048576:=by omega
  have hbl:=fun t v ht hm=>Yk hU hr n t v ht hm
  have hrw:=HL (m:=XJ P n) (bd:=Zx P n) (g:=g) hbl w.slots w.raws (fun x hx=>by
   obtain⟨o,ho,hx,_⟩:=hw x hx;exact⟨o,ho,hU _ hgm o (ZL ho).1,hx⟩) hraw
  have hcs:w.raws.length+Xf w.slots≤w.cnt:=by rw[Xn w];omega
  have hpn:=Nr (l:=Xd (Zx P n) g w.slots w.raws) (VD (Zx P n) g w.slots w.raws (fun s hs=>hnok.slots s hs) (fun f hf=>by
   have:=Gg (hnok.raws f hf).bits;show f.bits<_;omega)) (by omega)
  have cput:=c61 _ hpn.1 hpn.2.1 hpn.2.2;have hTl:=DJ (Xd (Zx P n) g w.slots w.raws);have csl:=fun(s:Int×V) (hs:s∈w.slots)=>(hw s hs).elim fun o ho=>t35 hU hP hbl ih t g hgt t0 s (hnok.slots s hs) (QWf (Ww hs) hwc) o ho.1 ho.2.1
  have ls:=KR w;generalize hTe:Xd (Zx P n) g w.slots w.raws=T at hrw hpn cput hTl;have hTm:T.length≤3000000000000:=by omega
  clear hpn hraw hrw hw hfit;obtain⟨ti,hti⟩:=QXV t0;subst hti;rw[e0,Qw v,Qw w]at cn;rw[Qw v];refine k31.fn (by simp) ?_;simp only[e0,eE,seval];refine aC cn ?_;simp only[eE,seval];refine Zj rfl rfl ?_;simp only[QXb,eE,seval];refine Qc (BoI P (Zx P n) g ti w.slots T) _ ⟨_,_,0,_,[],w.raws,rfl,rfl,QWo _,⟨(by rfl),(by rfl),(by rfl),(by rfl),(by rfl),(by rfl),(by rfl),(by rfl),(by rfl)⟩,hTe,Wc rfl⟩ ?_;rintro _ st ⟨f0,fr0,i,gn,out,rest,rfl,rfl,hil,⟨h10,h30,h80,h90,h200,h210,h220,m30,mR0⟩,hi0,JX⟩;refine QN (a:=_) [11] JX ?_;intro f fr hf hm hn11;have h1:f 1=.int .i64 (ti:Nat):=by rw[hf,h10]<;>rfl
  have h3:f 3=.ptr 0 3 0:=by rw[hf,h30]<;>rfl
  have h8:f 8=.vec 0 8 gn 0 out.length false:=by rw[hf,h80]<;>rfl
  have h9:f 9=.list (rest.map R.av):=by rw[hf,h90]<;>rfl
  have h20:f 20=.list (w.slots.map V.sav):=by rw[hf,h200]<;>rfl
  have h21:f 21=.int .i64 (w.slots.length:Nat):=by rw[hf,h210]<;>rfl
  have h22:f 22=.int .i64 (i:Nat):=by rw[hf,h220]<;>rfl
  have m3:fr 3=.cells [.list (P.progs.map Qp),.list (P.enums.map Qr)]:=by rw[hm 3 (by decide),m30]<;>rfl
  have mR:fr 8=.vec gn 4 (out.map R.av):=by rw[hm 8 (by decide),mR0]<;>rfl
  have n11:=hn11 11 (by decide);clear hf hm hn11 h10 h30 h80 h90 h200 h210 h220 m30 mR0 JX;simp only[h21,h22,Qa,seval];by_cases hlt:i<w.slots.length
  ·obtain⟨x,hi⟩:∃x,w.slots[i]? = some x:=⟨w.slots[i],QWh hlt⟩;have hx:=QWt hi;have hgs:=JQ hi;have e1:=Qo i _ hlt (by simp only[maxLen];omega);have hdr:w.slots.drop i=x :: w.slots.drop (i+1):=by rw[QWY hlt,(QWg.1 hi).2]
   have c1:=csl x hx;rw[hdr]at hi0;simp only[Ql hlt,Qg,QXI,Qb,hgs,n11,h20,h22,eE,seval];refine QIL (Zx P n) g ti w.slots i x (w.slots.drop (i+1)) T hTm _ _ gn out rest ⟨(by exact h1),(by exact h3),(by exact h8),(by exact h9),(by exact h20),(by exact h21),(by exact h22),(by exact m3),(by exact mR)⟩ (by rfl) (by rfl) hi0 _ ?_;clear h1 h3 h8 h9 h20 h21 h22 m3 mR n11 hi0 out rest gn f fr;rintro f fr gn out rest ⟨h1,h3,h8,h9,h20,h21,h22,m3,mR⟩ h11 m11 hi0;rw[e0,ZK x]at c1;generalize Kk (Zx P n) g x=z at c1 hi0;have hol:out.length+z.length≤T.length:=by rw[←hi0];simp
   simp only[h1,h3,h8,h11,m3,m11,eE,seval];refine aC c1 ?_;refine QM (site:=8) (g:=gn) (n:=out.length) (xs:=out.map R.av) (ys:=z.map R.av) (by rfl) (by exact mR) rfl (by rw[QXb]) rfl (JA z) (by simp only[QXb,maxLen];omega) (by simp only[QXb];omega) ?_;simp only[QXb,h22,e1,Qa,seval];exact⟨w.slots.length-(i+1),by omega,_,_,i+1,gn+1,out++z,rest,rfl,rfl,by omega,⟨(by exact h1),(by exact h3),by rw[QWS];exact(by rfl),(by exact h9),(by exact h20),(by exact h21),(by rfl),(by exact m3),by rw[QXZ];exact(by rfl)⟩,by rw[←hi0,QWB],Wc (by simp only[m11,Qa,seval]<;>rfl)⟩
  ·have e:i=w.slots.length:=by omega
   subst e;have hi1:out++rest=T:=by rw[←hi0,List.drop_length];rfl
   have hol:out.length+rest.length=T.length:=by rw[←hi1];simp
   simp only[QA hlt,h8,h9,Qa,seval];refine QM (site:=8) (g:=gn) (n:=out.length) (xs:=out.map R.av) (ys:=rest.map R.av) (by rfl) (by exact mR) rfl (by rw[QXb]) (by rfl) (JA rest) (by simp only[QXb,maxLen];omega) (by simp only[QXb];omega) ?_;rw[←hi1]at cput;refine Xr cput ?_ rfl rfl (.inr rfl) ?_
   ·simp only[QWM,QXh,AV.stillL,AV.still,QXb,eE,seval];simp[Jv,QWO]
   rw[←hi1];simp only[Qa,seval]

end

structure FiF (P:PL)(t:Nat)(w:V)(f:Fr)(fr:Nat→Ob)(k g:Nat)(out:List R):Prop where
 f1:f 1=.int .i64 (t:Nat)
 f3:f 3=.ptr 0 3 0
 f5:f 5=.ptr 0 5 0
 f7:f 7=.vec 0 7 g 0 out.length false
 f8:f 8=.int .i64 (k:Nat)
 m3:fr 3=.cells [.list (P.progs.map Qp),.list (P.enums.map Qr)]
 m5:fr 5=.cells (X3 w)
 mR:fr 7=.vec g 4 (out.map R.av)

section
variable {M:Nat}{P:PL}

end
end Go.Proofs.YtdhlbgejhcejcaaGreatDoor.Va

namespace Go.Proofs.YtdhlbgejhcejcaaGreatDoor.Va
open Go Am Rc Bt Br Up

def Hn (p:Prop)(v:AV):Prop:=∃b,v=.bool b∧(b=true→p)
theorem Hn.rf {p:Prop}{v:AV}{l:List AV}(h:Hn p v):v.rf=true∧(AV.rfL l=true∨v.nl=true):=by
 obtain⟨b,rfl,_⟩:=h;exact⟨rfl,.inr rfl⟩

def RN (n:Nat)(lf:Int)(a:AV):Prop:=∃r:Int,a=.int .i64 r∧-1≤r∧(0≤r→(n:Int)+r≤lf)
theorem RN.rf {n:Nat}{lf:Int}{v:AV}{l:List AV}(h:RN n lf v):v.rf=true∧(AV.rfL l=true∨v.nl=true):=by
 obtain⟨b,rfl,_⟩:=h;exact⟨rfl,.inr rfl⟩
theorem Df (n:Nat)(lf:Int):RN n lf (.int .i64 (-1)):=⟨-1,rfl,by omega,by omega⟩
theorem QIM {n:Nat}{lf r:Int}(h : -1≤r)(h1:0≤r→(n:Int)+r≤lf):RN n lf (.int .i64 r):=⟨r,rfl,h,h1⟩

def CnI (v:V)(lv lf:Int)(a:Nat)(S:Nat→Nat)(len:Nat)(k:Nat)(st:St):Prop :=
 ∃f fr i,∃r:Int,st=⟨f,[fr],[]⟩∧k=len-i∧i≤len∧f 3=.ptr 0 3 0∧fr 3=.cells (vc v)∧f 1=.int .i64 lv∧f 2=.int .i64 r∧f a=.int .i64 (i:Nat)∧-1≤r∧(0≤r→(S i:Int)+r≤lf)

def CrI (v:V)(lv lf:Int)(k:Nat)(st:St):Prop :=
 ∃f fr i,st=⟨f,[fr],[]⟩∧k=v.raws.length-i∧i≤v.raws.length∧f 3=.ptr 0 3 0∧fr 3=.cells (vc v)∧f 1=.int .i64 lv∧f 2=.int .i64 lf∧f 7=.int .i64 (i:Nat)

section
variable {M:Nat}

theorem QaJ {v:V}(hv:v.ok M){lv lf:Int}(l0:0≤lv)(l1:lv≤40){b:Nat}(hlf:lf≤1000000)
  (hx:∀x∈v.list,∀lf:Int,0≤lf→lf≤1000000→WG Tryz.prog 19 [(x).av,.int .i64 (lv+1),.int .i64 lf] (RN (x).cnt lf))
  (f:Fr) (fr:Nat→Ob) (r:Int) (h3:f 3=.ptr 0 3 0) (m3:fr 3=.cells (vc v)) (h1:f 1=.int .i64 lv) (h2:f 2=.int .i64 r) (ha:f 8=.int .i64 0) (r0 : -1≤r) (r1:0≤r→(b:Int)+r≤lf) (Q:Exit→St→Prop)
  (q:∀(f:Fr) (fr:Nat→Ob) (r:Int),f 3=.ptr 0 3 0→fr 3=.cells (vc v)→f 1=.int .i64 lv→f 2=.int .i64 r→-1≤r→(0≤r→((b+XT v.list:Nat):Int)+r≤lf)→Q (.exit 2) (⟨f,[fr],[]⟩:St)) :
  QG Tryz.prog (.loop AC) ⟨f,[fr],[]⟩ Q:=by
 have n1:=hv.nl;have n2:=hv.np;have n3:=hv.ns;refine Qc (CnI v lv lf 8 (fun i=>b+XT (v.list.take i)) v.list.length) _ ⟨f,fr,0,r,rfl,rfl,QWo _,h3,m3,h1,h2,ha,r0,fun h=>by have:=r1 h;simp only[QXp,XT,QWL];omega⟩ ?_;clear h3 m3 h1 h2 ha r0 r1;rintro _ st ⟨f,fr,i,r,rfl,rfl,hil,h3,m3',h1,h2,ha,r0,r1⟩;dsimp only at r1;have m3:=m3';simp only[vc]at m3;simp only[QXb,h3,m3,ha,eE,seval];by_cases hlt:i<v.list.length
 ·have d:∀r:Int,0≤r→decide (r≥0)=true:=fun r h=>QYa h
  have d':∀r:Int,¬0≤r→decide (r≥0)=false:=fun r h=>QX5 h
  by_cases hr:0≤r
  ·obtain⟨x,hi⟩:∃x,v.list[i]? = some x:=⟨v.list[i],QWh hlt⟩;have hm:=QWt hi;have hg:=YI hi;have e1:=Qo i _ hlt (by simp only[maxLen];omega);have e2:IntKind.i64.wrap (lv+1)=lv+1:=by rw[QC];omega
   have rr:=r1 hr;have c1:=hx x hm r hr (by omega);rw[Qw]at c1;simp only[Ql hlt,d r hr,Qg,QXI,Qb,hg,QWN,QWX,h3,m3,h1,h2,ha,e2,eE,seval];refine Zw (R:=RN (x).cnt r) c1 rfl rfl (fun _ h=>h.rf) ?_;rintro _ ⟨s,rfl,s0,s1⟩;simp only[ha,e1,Qa,seval];exact⟨v.list.length-(i+1),by omega,_,_,i+1,s,rfl,rfl,by omega,(by exact h3),(by exact m3'),(by exact h1),(by rfl),(by rfl),s0,fun h=>by show((b+XT (v.list.take (i+1)):Nat):Int)+s≤lf;rw[D9 hi];have:=s1 h;omega⟩
  ·simp only[Ql hlt,d' r hr,h2,Qa,seval];exact q _ _ r (by exact h3) (by exact m3') (by exact h1) (by exact h2) r0 (fun h=>absurd h hr)
 ·have e:i=v.list.length:=by omega
  subst e;simp only[QXR]at r1;simp only[QA hlt,Qa,seval];exact q _ _ r (by exact h3) (by exact m3') (by exact h1) (by exact h2) r0 r1

theorem QaK {v:V}(hv:v.ok M){lv lf:Int}(l0:0≤lv)(l1:lv≤40){b:Nat}(hlf:lf≤1000000)
  (hx:∀x∈v.slots,∀lf:Int,0≤lf→lf≤1000000→WG Tryz.prog 19 [(x.2).av,.int .i64 (lv+1),.int .i64 lf] (RN (x.2).cnt lf))
  (f:Fr) (fr:Nat→Ob) (r:Int) (h3:f 3=.ptr 0 3 0) (m3:fr 3=.cells (vc v)) (h1:f 1=.int .i64 lv) (h2:f 2=.int .i64 r) (ha:f 10=.int .i64 0) (r0 : -1≤r) (r1:0≤r→(b:Int)+r≤lf) (Q:Exit→St→Prop)
  (q:∀(f:Fr) (fr:Nat→Ob) (r:Int),f 3=.ptr 0 3 0→fr 3=.cells (vc v)→f 1=.int .i64 lv→f 2=.int .i64 r→-1≤r→(0≤r→((b+Xf v.slots:Nat):Int)+r≤lf)→Q (.exit 6) (⟨f,[fr],[]⟩:St)) :
  QG Tryz.prog (.loop AE) ⟨f,[fr],[]⟩ Q:=by
 have n1:=hv.nl;have n2:=hv.np;have n3:=hv.ns;refine Qc (CnI v lv lf 10 (fun i=>b+Xf (v.slots.take i)) v.slots.length) _ ⟨f,fr,0,r,rfl,rfl,QWo _,h3,m3,h1,h2,ha,r0,fun h=>by have:=r1 h;simp only[QXp,Xf,QWL];omega⟩ ?_;clear h3 m3 h1 h2 ha r0 r1;rintro _ st ⟨f,fr,i,r,rfl,rfl,hil,h3,m3',h1,h2,ha,r0,r1⟩;dsimp only at r1;have m3:=m3';simp only[vc]at m3;simp only[QXb,h3,m3,ha,eE,seval];by_cases hlt:i<v.slots.length
 ·have d:∀r:Int,0≤r→decide (r≥0)=true:=fun r h=>QYa h
  have d':∀r:Int,¬0≤r→decide (r≥0)=false:=fun r h=>QX5 h
  by_cases hr:0≤r
  ·obtain⟨x,hi⟩:∃x,v.slots[i]? = some x:=⟨v.slots[i],QWh hlt⟩;have hm:=QWt hi;have hg:=JQ hi;have e1:=Qo i _ hlt (by simp only[maxLen];omega);have e2:IntKind.i64.wrap (lv+1)=lv+1:=by rw[QC];omega
   have rr:=r1 hr;have c1:=hx x hm r hr (by omega);rw[Qw]at c1;simp only[Ql hlt,d r hr,Qg,QXI,Qb,hg,QWN,QWQ,QWX,h3,m3,h1,h2,ha,e2,eE,seval];refine Zw (R:=RN (x.2).cnt r) c1 rfl rfl (fun _ h=>h.rf) ?_;rintro _ ⟨s,rfl,s0,s1⟩;simp only[ha,e1,Qa,seval];exact⟨v.slots.length-(i+1),by omega,_,_,i+1,s,rfl,rfl,by omega,(by exact h3),(by exact m3'),(by exact h1),(by rfl),(by rfl),s0,fun h=>by show((b+Xf (v.slots.take (i+1)):Nat):Int)+s≤lf;rw[Fb hi];have:=s1 h;omega⟩
  ·simp only[Ql hlt,d' r hr,h2,Qa,seval];exact q _ _ r (by exact h3) (by exact m3') (by exact h1) (by exact h2) r0 (fun h=>absurd h hr)
 ·have e:i=v.slots.length:=by omega
  subst e;simp only[QXR]at r1;simp only[QA hlt,Qa,seval];exact q _ _ r (by exact h3) (by exact m3') (by exact h1) (by exact h2) r0 r1

theorem QaL {v:V}(hv:v.ok M){lv lf:Int}(l0:0≤lv)(l1:lv≤40){b:Nat}(hlf:lf≤1000000)
  (hx:∀x∈v.pairs,∀lf:Int,0≤lf→lf≤1000000→WG Tryz.prog 19 [x.1.av,.int .i64 (lv+1),.int .i64 lf] (RN x.1.cnt lf)∧WG Tryz.prog 19 [x.2.av,.int .i64 (lv+1),.int .i64 lf] (RN x.2.cnt lf))
  (f:Fr) (fr:Nat→Ob) (r:Int) (h3:f 3=.ptr 0 3 0) (m3:fr 3=.cells (vc v)) (h1:f 1=.int .i64 lv) (h2:f 2=.int .i64 r) (ha:f 9=.int .i64 0) (r0 : -1≤r) (r1:0≤r→(b:Int)+r≤lf) (Q:Exit→St→Prop)
  (q:∀(f:Fr) (fr:Nat→Ob) (r:Int),f 3=.ptr 0 3 0→fr 3=.cells (vc v)→f 1=.int .i64 lv→f 2=.int .i64 r→-1≤r→(0≤r→((b+Xz v.pairs:Nat):Int)+r≤lf)→Q (.exit 4) (⟨f,[fr],[]⟩:St)) :
  QG Tryz.prog (.loop AD) ⟨f,[fr],[]⟩ Q:=by
 have n2:=hv.np;refine Qc (CnI v lv lf 9 (fun i=>b+Xz (v.pairs.take i)) v.pairs.length) _ ⟨f,fr,0,r,rfl,rfl,QWo _,h3,m3,h1,h2,ha,r0,fun h=>by have:=r1 h;simp only[QXp,Xz,QWL];omega⟩ ?_;clear h3 m3 h1 h2 ha r0 r1;rintro _ st ⟨f,fr,i,r,rfl,rfl,hil,h3,m3',h1,h2,ha,r0,r1⟩;dsimp only at r1;have m3:=m3';simp only[vc]at m3;simp only[QXb,h3,m3,ha,eE,seval];by_cases hlt:i<v.pairs.length
 ·have d:∀r:Int,0≤r→decide (r≥0)=true:=fun r h=>QYa h
  have d':∀r:Int,¬0≤r→decide (r≥0)=false:=fun r h=>QX5 h
  by_cases hr:0≤r
  ·obtain⟨x,hi⟩:∃x,v.pairs[i]? = some x:=⟨v.pairs[i],QWh hlt⟩;have hm:=QWt hi;have hg:=Jl hi;have e1:=Qo i _ hlt (by simp only[maxLen];omega);have e2:IntKind.i64.wrap (lv+1)=lv+1:=by rw[QC];omega
   have rr:=r1 hr;have c1:=(hx x hm r hr (by omega)).1;rw[Qw]at c1;simp only[Ql hlt,d r hr,Qg,QXI,Qb,hg,QWN,QXp,QWX,h3,m3,h1,h2,ha,e2,eE,seval];refine Zw (R:=RN x.1.cnt r) c1 rfl rfl (fun _ h=>h.rf) ?_;rintro _ ⟨s,rfl,s0,s1⟩;by_cases hs:0≤s
   ·have ss:=s1 hs;have c2:=(hx x hm s hs (by omega)).2;rw[Qw]at c2;simp only[d s hs,Qg,QXI,Qb,hg,QWN,QWQ,QWX,h3,m3,h1,h2,ha,e2,eE,seval];refine Zw (R:=RN x.2.cnt s) c2 rfl rfl (fun _ h=>h.rf) ?_;rintro _ ⟨u,rfl,u0,u1⟩;simp only[ha,e1,Qa,seval];exact⟨v.pairs.length-(i+1),by omega,_,_,i+1,u,rfl,rfl,by omega,(by exact h3),(by exact m3'),(by exact h1),(by rfl),(by rfl),u0,fun h=>by show((b+Xz (v.pairs.take (i+1)):Nat):Int)+u≤lf;rw[Fa hi];have:=u1 h;omega⟩
   ·simp only[d' s hs,h2,ha,e1,Qa,seval];exact⟨v.pairs.length-(i+1),by omega,_,_,i+1,s,rfl,rfl,by omega,(by exact h3),(by exact m3'),(by exact h1),(by rfl),(by rfl),s0,fun h=>absurd h hs⟩
  ·simp only[Ql hlt,d' r hr,h2,Qa,seval];exact q _ _ r (by exact h3) (by exact m3') (by exact h1) (by exact h2) r0 (fun h=>absurd h hr)
 ·have e:i=v.pairs.length:=by omega
  subst e;simp only[QXR]at r1;simp only[QA hlt,Qa,seval];exact q _ _ r (by exact h3) (by exact m3') (by exact h1) (by exact h2) r0 r1

theorem n19 (v:V)(hv:v.ok M):∀lv lf:Int,0≤lv→lv≤41→0≤lf→lf≤1000000→WG Tryz.prog 19 [v.av,.int .i64 lv,.int .i64 lf] (RN v.cnt lf):=by
 revert hv
 refine V.ind (P:=fun v=>v.ok M→∀lv lf:Int,0≤lv→lv≤41→0≤lf→lf≤1000000→WG Tryz.prog 19 [v.av,.int .i64 lv,.int .i64 lf] (RN v.cnt lf)) ?_ v;clear v;intro v hl hp hs hv lv lf a0 a1 b0 b1;have n4:=hv.nr;rw[Qw];have e2:IntKind.i64.wrap (lf-1)=lf-1:=by rw[QC];omega
 refine k19.rl (by simp) ?_;simp only[e2,eE,seval];by_cases d1:lv > 40
 ·have d1':decide (lv > 40)=true:=QYa d1;simp only[d1',Df,Qa,seval]
 have d1':decide (lv > 40)=false:=QX5 d1;simp only[d1',eE,seval];cases d2:decide ((v.text.length:Int) > 5000)
 case true=>simp only[Df,Qa,seval]
 simp only[QXb,eE,seval];by_cases d3:(v.raws.length:Int) > lf-1
 ·have d3':decide ((v.raws.length:Int) > lf-1)=true:=QYa d3;simp only[d3',Df,Qa,seval]
 have d3':decide ((v.raws.length:Int) > lf-1)=false:=QX5 d3;have e3:IntKind.i64.wrap (lf-1-(v.raws.length:Int))=lf-1-(v.raws.length:Int):=by rw[QC];omega
 simp only[d3',e3,QXb,eE,seval];refine Qc (CrI v lv (lf-1-(v.raws.length:Int))) _ ⟨_,_,0,rfl,rfl,QWo _,(by rfl),(by rfl),(by rfl),(by rfl),(by rfl)⟩ ?_;rintro _ st ⟨f,fr,i,rfl,rfl,hil,h3,m3',h1,h2,h7⟩;have m3:=m3';simp only[vc]at m3;simp only[QXb,h3,m3,h7,eE,seval];by_cases hlt:i<v.raws.length
 ·obtain⟨x,hi⟩:∃x,v.raws[i]? = some x:=⟨v.raws[i],QWh hlt⟩;have hg:(v.raws.map R.av)[i]? = some x.av:=by simp[hi]
  have e1:=Qo i _ hlt (by simp only[maxLen];omega);simp only[Ql hlt,R.av,Qg,QXI,Qb,hg,h3,m3,h7,eE,seval];cases d4:decide ((x.data.length:Int) > 5000)
  case true=>simp only[Df,Qa,seval]
  simp only[h7,e1,Qa,seval];exact⟨v.raws.length-(i+1),by omega,_,_,i+1,rfl,rfl,by omega,(by exact h3),(by exact m3'),(by exact h1),(by exact h2),(by rfl)⟩
 simp only[QA hlt,Qa,seval];clear hlt h7 m3 hil;refine QaJ hv a0 (by omega) (b:=1+v.raws.length) (lf:=lf) b1 (fun x hx lf p q=>hl x hx (hv.list x hx) _ _ (by omega) (by omega) p q) _ _ _ (by exact h3) (by exact m3') (by exact h1) (by exact h2) (by rfl) (by omega) (by omega) _ ?_;clear h3 m3' h1 h2;intro f fr r h3 m3 h1 h2 r0 r1;simp only[Qa,seval];refine QaL hv a0 (by omega) (b:=1+v.raws.length+XT v.list) (lf:=lf) b1 (fun x hx lf p q=>⟨(hp x hx).1 (hv.keys x hx) _ _ (by omega) (by omega) p q,(hp x hx).2 (hv.vals x hx) _ _ (by omega) (by omega) p q⟩) _ _ _ (by exact h3) (by exact m3) (by exact h1) (by exact h2) (by rfl) r0 r1 _ ?_;clear h3 m3 h1 h2 r0 r1;intro f fr r h3 m3 h1 h2 r0 r1;simp only[Qa,seval];refine QaK hv a0 (by omega) (b:=1+v.raws.length+XT v.list+Xz v.pairs) (lf:=lf) b1 (fun x hx lf p q=>hs x hx (hv.slots x hx) _ _ (by omega) (by omega) p q) _ _ _ (by exact h3) (by exact m3) (by exact h1) (by exact h2) (by rfl) r0 r1 _ ?_;clear h3 m3 h1 h2 r0 r1;intro f fr r h3 m3 h1 h2 r0 r1;simp only[h2,Qa,seval];exact QIM r0 (by rw[Xn];exact r1)

theorem n6 (v:V)(hv:v.ok M)(lf:Int)(b0:0≤lf)(b1:lf≤1000000):WG Tryz.prog 6 [v.av,.int .i64 lf] (Hn ((v.cnt:Int)≤lf)):=by
 have hc:=n19 v hv 1 lf (by omega) (by omega) b0 b1;rw[Qw]at hc ⊢;refine k6.rl (by simp) ?_;simp only[eE,seval];refine Zw (R:=RN v.cnt lf) hc rfl rfl (fun _ h=>h.rf) ?_;rintro _ ⟨r,rfl,r0,r1⟩;simp only[Qa,seval];refine⟨_,rfl,fun h=>?_⟩;have h0:0≤r:=by simpa using h
 have:=r1 h0;omega

end

def DL (P:PL):Prop:=(∀g∈P.progs,g.name.length≤300)∧∀e∈P.enums,e.name.length≤300
theorem Dg (p:Prop):Hn p (.bool false):=⟨false,rfl,fun h=>by cases h⟩

section
variable {M:Nat}(hM:M≤140737488351232)(P:PL)(hP:P.ok M)

include hP in
theorem QxF (fr:Nat→Ob)(m1':fr 1=.cells (Pc P))(i:Nat)(g:PG)(hg:P.progs[i]? = some g)(lf:Int)(f:Fr)(h1:f 1=.ptr 0 1 0)(h3:f 3=.int .i64 lf)(h4:f 4=.int .i64 (i:Nat))(h5:f 5=.int .i64 0)(Q:Exit→St→Prop)
  (q:∀f:Fr,f 1=.ptr 0 1 0→f 3=.int .i64 lf→f 4=.int .i64 (i:Nat)→Q (.exit 2) (⟨f,[fr],[]⟩:St)) (qr:∀f:Fr,f 2=.bool false→Q .ret (⟨f,[fr],[]⟩:St)) :
  QG Tryz.prog (.loop Ay) ⟨f,[fr],[]⟩ Q:=by
 have hgo:=(hP.progs g (QWt hg)).len;have hga:(P.progs.map Qp)[i]? = some (.agg g.cells):=by simp[hg,Qp]
 let I:Nat→St→Prop:=fun d st=>∃f k,st=⟨f,[fr],[]⟩∧d=g.ops.length-k∧f 1=.ptr 0 1 0∧f 3=.int .i64 lf∧f 4=.int .i64 (i:Nat)∧f 5=.int .i64 (k:Nat)
 refine Qc I _ ⟨f,0,rfl,rfl,h1,h3,h4,h5⟩ ?_;clear h1 h3 h4 h5;rintro _ st ⟨f,k,rfl,rfl,h1,h3,h4,h5⟩;have m1:=m1';simp only[Pc]at m1;simp only[PG.cells]at hga;simp only[Qg,QXI,Qb,hga,QXb,h1,h4,h5,m1,eE,seval];by_cases hlt:k<g.ops.length
 ·obtain⟨o,ho⟩:∃o,g.ops[k]? = some o:=⟨g.ops[k],QWh hlt⟩;have hoa:(g.ops.map fun o=>AV.agg o.cells)[k]? = some (.agg o.cells):=by simp[ho]
  have e1:=Qo k _ hlt hgo;simp only[PO.cells]at hoa;cases d1:decide ((o.name.length:Int) > 300)
  case true=>
   simp only[Ql hlt,Qg,QXI,Qb,hga,hoa,PO.cells,d1,h1,h4,h5,m1,eE,seval];exact qr _ (by rfl)
  cases d2:decide ((o.alias.length:Int) > 300)
  case true=>
   simp only[Ql hlt,Qg,QXI,Qb,hga,hoa,PO.cells,d1,d2,h1,h4,h5,m1,eE,seval];exact qr _ (by rfl)
  simp only[Ql hlt,Qg,QXI,Qb,hga,hoa,PO.cells,d1,d2,h1,h4,h5,m1,e1,eE,seval];exact⟨g.ops.length-(k+1),by omega,_,k+1,rfl,rfl,(by exact h1),(by exact h3),(by exact h4),(by rfl)⟩
 ·simp only[QA hlt,Qa,seval];exact q _ (by exact h1) (by exact h3) (by exact h4)

include hM in
theorem Sz (fr:Nat→Ob)(e:PE)(he:e.ok M)(m7':fr 7=.cells e.cells)(i:Nat)(lf:Int)(f:Fr)(h1:f 1=.ptr 0 1 0)(h3:f 3=.int .i64 lf)(h6:f 6=.int .i64 (i:Nat))(h7:f 7=.ptr 0 7 0)(h8:f 8=.int .i64 0)(Q:Exit→St→Prop)
  (q:∀f:Fr,f 1=.ptr 0 1 0→f 3=.int .i64 lf→f 6=.int .i64 (i:Nat)→Q (.exit 6) (⟨f,[fr],[]⟩:St)) (qr:∀f:Fr,f 2=.bool false→Q .ret (⟨f,[fr],[]⟩:St)) :
  QG Tryz.prog (.loop AA) ⟨f,[fr],[]⟩ Q:=by
 let I:Nat→St→Prop:=fun d st=>∃f k,st=⟨f,[fr],[]⟩∧d=e.items.length-k∧f 1=.ptr 0 1 0∧f 3=.int .i64 lf∧f 6=.int .i64 (i:Nat)∧f 7=.ptr 0 7 0∧f 8=.int .i64 (k:Nat)
 refine Qc I _ ⟨f,0,rfl,rfl,h1,h3,h6,h7,h8⟩ ?_;clear h1 h3 h6 h7 h8;rintro _ st ⟨f,k,rfl,rfl,h1,h3,h6,h7,h8⟩;have m7:=m7';simp only[PE.cells]at m7;simp only[QXb,h7,h8,m7,eE,seval];by_cases hlt:k<e.items.length
 ·obtain⟨o,ho⟩:∃o,e.items[k]? = some o:=⟨e.items[k],QWh hlt⟩;have hoa:(e.items.map fun n=>AV.agg n.cells)[k]? = some (.agg o.cells):=by simp[ho]
  have hok:=he.items o (QWt ho);have e1:=Qo k _ hlt he.len1;simp only[PI.cells]at hoa;cases d1:decide ((o.name.length:Int) > 300)
  case true=>
   simp only[Ql hlt,Qg,QXI,Qb,hoa,PI.cells,d1,h7,h8,m7,eE,seval];exact qr _ (by rfl)
  rcases hn:o.notes with _|⟨n,_|⟨n2,ns⟩⟩
  ·have c0:decide (((0:Nat):Int) > 1)=false:=rfl;have c1:(((0:Nat):Int)==1)=false:=rfl;rw[hn]at hoa;simp only[Ql hlt,Qg,QXI,Qb,hoa,PI.cells,QXh,QXc,d1,h7,h8,m7,e1,eE,seval];exact⟨e.items.length-(k+1),by omega,_,k+1,rfl,rfl,(by exact h1),(by exact h3),(by exact h6),(by exact h7),(by rfl)⟩
  ·obtain⟨kd,b',t,l,p,s,r,hv,htl,h3',h4',h5',h6'⟩:=Cm (hok.notes n (by rw[hn];simp)) hM;have c0:decide (((1:Nat):Int) > 1)=false:=rfl;have z0:(0≤(0:Int))=True:=eq_true (Int.le_refl 0);have c1:(((1:Nat):Int)==1)=true:=rfl;have en:Xs n.cells=.agg [.str n.name,.int .i64 kd,.int .u64 ((b':Nat):Int),.str t,.list l,.list p,.list s,.list r]:=by
    rw[PN.cells,hv];rfl
   rw[hn]at hoa;simp only[QWM,QXh,en]at hoa;cases d2:decide ((t.length:Int) > 300)
   case true=>
    simp only[Ql hlt,Qg,QXI,Qb,hoa,PI.cells,QWv,QXc,QWW,z0,QXi,d1,d2,h7,h8,m7,eE,seval];exact qr _ (by rfl)
   simp only[Ql hlt,Qg,QXI,Qb,hoa,PI.cells,QWv,QXc,QWW,z0,QXi,d1,d2,h7,h8,m7,e1,eE,seval];exact⟨e.items.length-(k+1),by omega,_,k+1,rfl,rfl,(by exact h1),(by exact h3),(by exact h6),(by exact h7),(by rfl)⟩
  ·have c0:decide ((((ns.map fun n=>Xs n.cells).length+1+1:Nat):Int) > 1)=true:=QYa (by omega);rw[hn]at hoa;simp only[QWM]at hoa;simp only[Ql hlt,Qg,QXI,Qb,hoa,PI.cells,QWv,c0,d1,h7,h8,m7,eE,seval];exact qr _ (by rfl)
 ·simp only[QA hlt,Qa,seval];exact q _ (by exact h1) (by exact h3) (by exact h6)

include hP in
theorem SA (hN:P.progs.length≤60)(fr:Nat→Ob)(m1':fr 1=.cells (Pc P))(f:Fr)(h1:f 1=.ptr 0 1 0)(h3:f 3=.int .i64 400)(h4:f 4=.int .i64 0)(Q:Exit→St→Prop)
  (q:∀(f:Fr) (lf:Int),f 1=.ptr 0 1 0→f 3=.int .i64 lf→0≤lf→lf≤400→(∀g∈P.progs,g.name.length≤300)→Q (.exit 0) (⟨f,[fr],[]⟩:St)) (qr:∀f:Fr,f 2=.bool false→Q .ret (⟨f,[fr],[]⟩:St)) :
  QG Tryz.prog (.loop Az) ⟨f,[fr],[]⟩ Q:=by
 let I:Nat→St→Prop:=fun d st=>∃f i,∃lf:Int,st=⟨f,[fr],[]⟩∧d=P.progs.length-i∧0≤lf∧lf≤400∧(∀g∈P.progs.take i,g.name.length≤300)∧f 1=.ptr 0 1 0∧f 3=.int .i64 lf∧f 4=.int .i64 (i:Nat)
 refine Qc I _ ⟨f,0,400,rfl,rfl,by omega,by omega,(by intro g hg;cases hg),h1,h3,h4⟩ ?_;clear h1 h3 h4;rintro _ st ⟨f,i,lf,rfl,rfl,l0,l1,hs,h1,h3,h4⟩;have m1:=m1';simp only[Pc]at m1;have dl:decide (lf≥0)=true:=QYa l0;simp only[QXb,h1,h4,m1,eE,seval];by_cases hlt:i<P.progs.length
 ·obtain⟨g,hg⟩:∃g,P.progs[i]? = some g:=⟨P.progs[i],QWh hlt⟩;have hga:(P.progs.map Qp)[i]? = some (.agg g.cells):=by simp[hg,Qp]
  have hgo:=(hP.progs g (QWt hg)).len;have e1:=Qo i _ hlt (by simp only[maxLen];omega);have e2:IntKind.i64.wrap (lf-(g.ops.length:Int))=lf-(g.ops.length:Int):=by
   simp only[maxLen]at hgo;rw[QC];omega
  simp only[PG.cells]at hga;by_cases hn:lf-(g.ops.length:Int)<0
  ·have d1:decide (lf-(g.ops.length:Int)<0)=true:=QYa hn;simp only[Ql hlt,Qg,QXI,Qb,hga,QXb,e2,d1,dl,h1,h3,h4,m1,eE,seval];exact qr _ (by rfl)
  have d1:decide (lf-(g.ops.length:Int)<0)=false:=QX5 hn;by_cases hm:g.name.length≤300
  case neg=>
   have d2:decide ((g.name.length:Int) > 300)=true:=QYa (by omega);simp only[Ql hlt,Qg,QXI,Qb,hga,QXb,e2,d1,d2,dl,h1,h3,h4,m1,eE,seval];exact qr _ (by rfl)
  have d2:decide ((g.name.length:Int) > 300)=false:=QX5 (by omega);simp only[Ql hlt,Qg,QXI,Qb,hga,QXb,e2,d1,d2,dl,h1,h3,h4,m1,eE,seval];refine QxF P hP fr m1' i g hg (lf-(g.ops.length:Int)) _ (by exact h1) (by rfl) (by exact h4) (by rfl) _ (fun f h1 h3 h4=>?_) (fun f h2=>?_)
  ·simp only[h4,e1,Qa,seval];exact⟨P.progs.length-(i+1),by omega,_,i+1,lf-(g.ops.length:Int),rfl,rfl,by omega,by omega,(by
    rw[QX0,hg];intro x hx;simp only[QX1,QXz,QYi]at hx;rcases hx with hx|rfl
    ·exact hs x hx
    ·exact hm),(by exact h1),(by exact h3),(by rfl)⟩
  ·simp only[Qa,seval];exact qr _ h2
 ·rw[QWO (by omega)]at hs;simp only[QA hlt,Qa,seval];exact q _ lf (by exact h1) (by exact h3) l0 l1 hs

include hM hP in
theorem SB (hN:P.enums.length≤60)(fr:Nat→Ob)(m1':fr 1=.cells (Pc P))(r7:∀s∈[7],(fr s).isRow=false)(f:Fr)(lf:Int)(h1:f 1=.ptr 0 1 0)(h3:f 3=.int .i64 lf)(l0:0≤lf)(l1:lf≤400)(h6:f 6=.int .i64 0)(Q:Exit→St→Prop)
  (q:∀(f:Fr) (fr:Nat→Ob) (lf:Int),f 3=.int .i64 lf→(0≤lf→∀e∈P.enums,e.name.length≤300)→Q (.exit 4) (⟨f,[fr],[]⟩:St)) (qr:∀(f:Fr) (fr:Nat→Ob),f 2=.bool false→Q .ret (⟨f,[fr],[]⟩:St)) :
  QG Tryz.prog (.loop AB) ⟨f,[fr],[]⟩ Q:=by
 let I:Nat→St→Prop:=fun d st=>∃f fr i,∃lf:Int,st=⟨f,[fr],[]⟩∧d=P.enums.length-i∧-800≤lf∧lf≤400∧(0≤lf→∀e∈P.enums.take i,e.name.length≤300)∧f 1=.ptr 0 1 0∧f 3=.int .i64 lf∧f 6=.int .i64 (i:Nat)∧fr 1=.cells (Pc P)∧∀s∈[7],(fr s).isRow=false
 refine Qc I _ ⟨f,fr,0,lf,rfl,rfl,by omega,l1,(by intro _ g hg;cases hg),h1,h3,h6,m1',r7⟩ ?_;clear h1 h3 h6 m1' r7 l0 l1;rintro _ st ⟨f0,fr0,i,lf,rfl,rfl,l0,l1,hs,h10,h30,h60,m10,r7⟩;refine QN (a:=_) [7] r7 ?_;intro f fr hf hm hn7;have h1:f 1=.ptr 0 1 0:=by rw[hf,h10]<;>rfl
 have h3:f 3=.int .i64 lf:=by rw[hf,h30]<;>rfl
 have h6:f 6=.int .i64 (i:Nat):=by rw[hf,h60]<;>rfl
 have m1':fr 1=.cells (Pc P):=by rw[hm 1 (by decide),m10]<;>rfl
 have n7:=hn7 7 (by decide);clear hf hm hn7 h10 h30 h60 m10 r7;have m1:=m1';simp only[Pc]at m1;simp only[QXb,h1,h6,m1,eE,seval];by_cases hlt:i<P.enums.length
 ·obtain⟨e,he⟩:∃e,P.enums[i]? = some e:=⟨P.enums[i],QWh hlt⟩;have hea:(P.enums.map Qr)[i]? = some (.agg e.cells):=by simp[he,Qr]
  have heo:=hP.enums e (QWt he);have e1:=Qo i _ hlt (by simp only[maxLen];omega);simp only[PE.cells]at hea;by_cases hl:0≤lf
  case neg=>
   have dl:decide (lf≥0)=false:=QX5 hl;simp only[Ql hlt,dl,h3,Qa,seval];exact q _ _ lf (by exact h3) (fun h=>absurd h hl)
  have dl:decide (lf≥0)=true:=QYa hl;by_cases q1:(e.items.length:Int) > lf
  ·have d1:decide ((e.items.length:Int) > lf)=true:=QYa q1;simp only[Ql hlt,Qg,QXI,Qb,hea,QXb,n7,d1,dl,h1,h3,h6,m1,eE,seval];exact qr _ _ (by rfl)
  have d1:decide ((e.items.length:Int) > lf)=false:=QX5 q1;by_cases q2:(e.free.length:Int) > lf
  ·have d2:decide ((e.free.length:Int) > lf)=true:=QYa q2;simp only[Ql hlt,Qg,QXI,Qb,hea,QXb,n7,d1,d2,dl,h1,h3,h6,m1,eE,seval];exact qr _ _ (by rfl)
  have d2:decide ((e.free.length:Int) > lf)=false:=QX5 q2;by_cases hm:e.name.length≤300
  case neg=>
   have d3:decide ((e.name.length:Int) > 300)=true:=QYa (by omega);simp only[Ql hlt,Qg,QXI,Qb,hea,QXb,n7,d1,d2,d3,dl,h1,h3,h6,m1,eE,seval];exact qr _ _ (by rfl)
  have d3:decide ((e.name.length:Int) > 300)=false:=QX5 (by omega);have e2:IntKind.i64.wrap (lf-(e.items.length:Int))=lf-(e.items.length:Int):=by rw[QC];omega
  have e3:IntKind.i64.wrap (lf-(e.items.length:Int)-(e.free.length:Int))=lf-(e.items.length:Int)-(e.free.length:Int):=by rw[QC];omega
  simp only[Ql hlt,Qg,QXI,Qb,hea,QXb,n7,e2,e3,d1,d2,d3,dl,h1,h3,h6,m1,eE,seval];refine Sz hM _ e heo (by rfl) i (lf-(e.items.length:Int)-(e.free.length:Int)) _ (by exact h1) (by rfl) (by exact h6) (by rfl) (by rfl) _ (fun f h1 h3 h6=>?_) (fun f h2=>?_)
  ·simp only[h6,e1,Qa,seval];exact⟨P.enums.length-(i+1),by omega,_,_,i+1,lf-(e.items.length:Int)-(e.free.length:Int),rfl,rfl,by omega,by omega,(by
    intro _;rw[QX0,he];intro x hx;simp only[QX1,QXz,QYi]at hx;rcases hx with hx|rfl
    ·exact hs hl x hx
    ·exact hm),(by exact h1),(by exact h3),(by rfl),(by exact m1'),(by
    intro s hs;simp only[QXD,QYn,or_false]at hs;subst hs;rfl)⟩
  ·simp only[Qa,seval];exact qr _ _ h2
 ·rw[QWO (by omega)]at hs;simp only[QA hlt,Qa,seval];exact q _ _ lf (by exact h3) hs

include hM hP in
theorem UB:WG Tryz.prog 17 [P.av] (Hn (DL P)):=by
 rw[show P.av=.agg (Pc P)from rfl];by_cases q1:P.progs.length≤60
 case neg=>
  have d1:decide ((P.progs.length:Int) > 60)=true:=QYa (by omega);refine k17.rl (by simp) ?_;simp only[Pc,QXb,d1,Dg,eE,seval]
 have d1:decide ((P.progs.length:Int) > 60)=false:=QX5 (by omega);by_cases q2:P.enums.length≤60
 case neg=>
  have d2:decide ((P.enums.length:Int) > 60)=true:=QYa (by omega);refine k17.rl (by simp) ?_;simp only[Pc,QXb,d1,d2,Dg,eE,seval]
 have d2:decide ((P.enums.length:Int) > 60)=false:=QX5 (by omega);refine k17.rl (by simp) ?_;simp only[Pc,QXb,d1,d2,eE,seval];refine SA P hP q1 _ (by rfl) _ (by rfl) (by rfl) (by rfl) _ (fun f lf h1 h3 l0 l1 hs=>?_) (fun f h2=>?_)
 ·simp only[Qa,seval];refine SB hM P hP q2 _ (by rfl) (by
    intro s hs;simp only[QXD,QYn,or_false]at hs;subst hs;rfl) _ lf (by exact h1) (by exact h3) l0 l1 (by rfl) _ (fun f fr lf h3 hs2=>?_) (fun f fr h2=>?_)
  ·simp only[h3,Qa,seval];exact⟨_,rfl,fun h=>⟨hs,hs2 (by simpa using h)⟩⟩
  ·simp only[h2,Dg,Qa,seval]
 ·simp only[h2,Dg,Qa,seval]

end
open So Vp Cp

theorem Ju {P:PL}{t:Int}{v:V}(h:Km P t v=0):(0≤t∧t<(P.progs.length:Int))∧XJ P 16 (QR P t) v=0:=by
 unfold Km at h;split at h
 ·omega
 rename_i ht;split at h
 ·rename_i hm;exact⟨by omega,hm⟩
 ·rename_i hm;exact absurd h hm
theorem Dh {P:PL}{t:Int}(ht:0≤t∧t<(P.progs.length:Int)):P.progs[t.toNat]? = some (QR P t):=by
 unfold QR;rw[QWh (by omega:t.toNat<P.progs.length)];rfl

section
variable {M:Nat}(hM:M≤140737488351232)(P:PL)(hP:P.ok M)(hS:DL P)

include hM hP hS in
theorem t57:Qi Tryz.prog 57 [P.av] (.int .i64 (ck P)) :=
 QQv P hP hM (fun g h=>QWf (hS.1 g h) (by decide)) (fun g h=>QWf (hS.2 g h) (by decide))

include hM hP hS in
theorem t29 (t:Int)(ht:0≤t∧t<(P.progs.length:Int))(hk:ck P=0):Qi Tryz.prog 29 [P.av,.int .i64 t] (.bool true):=by
 have e0:P.av=.agg [.list (P.progs.map Qp),.list (P.enums.map Qr)]:=rfl;have d1:decide (t≥0)=true:=QYa ht.1;have d2:decide (t<(P.progs.length:Int))=true:=QYa ht.2;have cc:=t57 hM P hP hS;have z0:((0:Int)==0)=true:=rfl;rw[hk,e0]at cc;refine k29.fn (by simp) ?_;simp only[e0,d1,d2,QXb,eE,seval];refine aC cc ?_;simp only[z0,Qa,seval]

include hP in
theorem QxG (hk:ck P=0)(t:Int)(v:V)(hv:v.ok M)(hc:v.cnt≤1048576)(ht:0≤t∧t<(P.progs.length:Int))(hm:XJ P 16 (QR P t) v=0):Qi Tryz.prog 31 [P.av,.int .i64 t,v.av] (.str (Zx P 16 t v)) :=
 t31 hP (Kf hk) (Jn hk) (Nh hk) (CY hP (Dd hk)) 16 t (QR P t) (Dh ht) ht.1 v hv hc hm

include hM hP hS in
theorem t11 (hk:ck P=0)(t:Int)(v:V)(hv:v.ok M)(hc:v.cnt≤1048576)(hf:Km P t v=0):Qi Tryz.prog 11 [P.av,.int .i64 t,v.av] (.str (Zx P 16 t v)):=by
 have e0:P.av=.agg [.list (P.progs.map Qp),.list (P.enums.map Qr)]:=rfl;obtain⟨ht,hm⟩:=Ju hf;have cu:=t29 hM P hP hS t ht hk;have cb:=QxG P hP hk t v hv hc ht hm;rw[e0]at cu;rw[e0,Qw v]at cb;rw[Qw v];refine k11.fn (by simp) ?_;simp only[e0,eE,seval];refine aC cu ?_;simp only[eE,seval];refine aC cb ?_;simp only[Qa,seval]

include hM hP hS in
theorem t16 (hk:ck P=0)(t:Int)(v:V)(hv:v.ok M)(hc:v.cnt≤1048576)(hf:Km P t v=0)(s:Int×V)(hs:s∈v.slots):Qi Tryz.prog 16 [P.av,.int .i64 t,V.sav s] (.list ((Kk (Zx P 15) (QR P t) s).map R.av)):=by
 have e0:P.av=.agg [.list (P.progs.map Qp),.list (P.enums.map Qr)]:=rfl;obtain⟨ht,hm⟩:=Ju hf;have cu:=t29 hM P hP hS t ht hk;obtain⟨_,⟨s1,_,_⟩,_,_⟩:=ZZ.1 hm;obtain⟨o,ho,hx⟩:=s1 s hs;have cb:=t35 (Kf hk) hP (fun t v ht hm=>Yk (Kf hk) (Jn hk) 15 t v ht hm) (t31 hP (Kf hk) (Jn hk) (Nh hk) (CY hP (Dd hk)) 15) t (QR P t) (Dh ht) ht.1 s (hv.slots s hs) (QWf (Ww hs) hc) o ho hx;rw[e0]at cu;rw[e0,ZK s]at cb;rw[ZK s];refine k16.fn (by simp) ?_;simp only[e0,eE,seval];refine aC cu ?_;simp only[eE,seval];refine aC cb ?_;simp only[Qa,seval]

end
end Go.Proofs.YtdhlbgejhcejcaaGreatDoor.Va

namespace Go.Proofs.YtdhlbgejhcejcaaGreatDoor.Va
open Go Am Rc Bt Br Up So

noncomputable def sm (v w:V):Bool:=@decide (v=w) (Classical.propDecidable _)
theorem Nz {v w:V}:sm v w=true↔v=w:=by
 unfold sm;exact @decide_eq_true_iff _ (Classical.propDecidable _)
theorem JU {v w:V}(h:v≠w):sm v w=false:=by
 cases e:sm v w
 ·rfl
 ·exact absurd (Nz.1 e) h
theorem NA {v w:V}(h:v=w):sm v w=true:=Nz.2 h

theorem WW {α:Type}{l r:List α}{i:Nat}{x:α}(h:l.take i=r.take i)(hx:l[i]? = some x)(hy:r[i]? = some x):l.take (i+1)=r.take (i+1):=by
 rw[QX0,QX0,h,hx,hy]
theorem Wg {α:Type}{l r:List α}{i:Nat}{x y:α}(hx:l[i]? = some x)(hy:r[i]? = some y)(h:x≠y):l≠r:=by
 intro e;rw[e,hy]at hx;cases hx;exact h rfl

section
variable (v w:V)(fr:Nat→Ob)(m2':fr 2=.cells (X3 v))(m3':fr 3=.cells (X3 w))(f:Fr)(h2:f 2=.ptr 0 2 0)(h3:f 3=.ptr 0 3 0)(Q:Exit→St→Prop)
include m2' m3' h2 h3

theorem QaM (hl:v.list.length=w.list.length)(hn:v.list.length≤maxLen)(hx:∀x∈v.list,∀y∈w.list,Qi Tryz.prog 12 [x.av,y.av] (.bool (sm x y)))(h5:f 5=.int .i64 0)
  (q:∀f,f 2=.ptr 0 2 0→f 3=.ptr 0 3 0→v.list=w.list→Q (.exit 0) (⟨f,[fr],[]⟩:St)) (qr:∀f,f 4=.bool false→v.list≠w.list→Q .ret (⟨f,[fr],[]⟩:St)) :
  QG Tryz.prog (.loop SN) ⟨f,[fr],[]⟩ Q:=by
 let I:Nat→St→Prop:=fun k st=>∃f i,st=⟨f,[fr],[]⟩∧k=v.list.length-i∧v.list.take i=w.list.take i∧f 2=.ptr 0 2 0∧f 3=.ptr 0 3 0∧f 5=.int .i64 (i:Nat)
 refine Qc I _ ⟨f,0,rfl,rfl,rfl,h2,h3,h5⟩ ?_;clear h2 h3 h5;rintro _ st ⟨f,i,rfl,rfl,ht,h2,h3,h5⟩;have m2:=m2';have m3:=m3';simp only[X3]at m2 m3;simp only[QXb,h2,h5,m2,eE,seval];by_cases hlt:i<v.list.length
 ·obtain⟨x,hi⟩:∃x,v.list[i]? = some x:=⟨v.list[i],QWh hlt⟩;obtain⟨y,hj⟩:∃y,w.list[i]? = some y:=⟨w.list[i]'(by omega),QWh (by omega)⟩;have hg:=YI hi;have hg2:=YI hj;have e1:=Qo i _ hlt hn;have c1:=hx x (QWt hi) y (QWt hj);rw[Qw x,Qw y]at c1;simp only[Ql hlt,Qg,QXI,Qb,hg,hg2,h2,h3,h5,m2,m3,eE,seval];refine aC c1 ?_;by_cases hxy:x=y
  ·have s1:=NA hxy;subst hxy;simp only[s1,h5,e1,Qa,seval];exact⟨v.list.length-(i+1),by omega,_,i+1,rfl,rfl,WW ht hi hj,(by exact h2),(by exact h3),(by rfl)⟩
  ·have s1:=JU hxy;simp only[s1,Qa,seval];exact qr _ (by rfl) (Wg hi hj hxy)
 ·rw[QWO (by omega),QWO (by omega)]at ht;simp only[QA hlt,Qa,seval];exact q _ (by exact h2) (by exact h3) ht

theorem SC (hl:v.pairs.length=w.pairs.length)(hn:v.pairs.length≤maxLen)(hx:∀x∈v.pairs,∀y∈w.pairs,Qi Tryz.prog 12 [x.1.av,y.1.av] (.bool (sm x.1 y.1))∧Qi Tryz.prog 12 [x.2.av,y.2.av] (.bool (sm x.2 y.2)))(h6:f 6=.int .i64 0)
  (q:∀f,f 2=.ptr 0 2 0→f 3=.ptr 0 3 0→v.pairs=w.pairs→Q (.exit 2) (⟨f,[fr],[]⟩:St)) (qr:∀f,f 4=.bool false→v.pairs≠w.pairs→Q .ret (⟨f,[fr],[]⟩:St)) :
  QG Tryz.prog (.loop SO) ⟨f,[fr],[]⟩ Q:=by
 let I:Nat→St→Prop:=fun k st=>∃f i,st=⟨f,[fr],[]⟩∧k=v.pairs.length-i∧v.pairs.take i=w.pairs.take i∧f 2=.ptr 0 2 0∧f 3=.ptr 0 3 0∧f 6=.int .i64 (i:Nat)
 refine Qc I _ ⟨f,0,rfl,rfl,rfl,h2,h3,h6⟩ ?_;clear h2 h3 h6;rintro _ st ⟨f,i,rfl,rfl,ht,h2,h3,h6⟩;have m2:=m2';have m3:=m3';simp only[X3]at m2 m3;simp only[QXb,h2,h6,m2,eE,seval];by_cases hlt:i<v.pairs.length
 ·obtain⟨x,hi⟩:∃x,v.pairs[i]? = some x:=⟨v.pairs[i],QWh hlt⟩;obtain⟨y,hj⟩:∃y,w.pairs[i]? = some y:=⟨w.pairs[i]'(by omega),QWh (by omega)⟩;have hg:=Jl hi;have hg2:=Jl hj;have e1:=Qo i _ hlt hn;obtain⟨c1,c2⟩:=hx x (QWt hi) y (QWt hj);rw[Qw x.1,Qw y.1]at c1;rw[Qw x.2,Qw y.2]at c2;simp only[Ql hlt,Qg,QXI,Qb,hg,hg2,h2,h3,h6,m2,m3,eE,seval];refine aC c1 ?_;by_cases hxy:x.1=y.1
  case neg=>
   have s1:=JU hxy;simp only[s1,Qa,seval];exact qr _ (by rfl) (Wg hi hj fun e=>hxy (by rw[e]))
  have s1:=NA hxy;simp only[s1,Qg,QXI,Qb,hg,hg2,h2,h3,h6,m2,m3,eE,seval];refine aC c2 ?_;by_cases hxz:x.2=y.2
  ·have s2:=NA hxz;have e:x=y:=Prod.ext hxy hxz;subst e;simp only[s2,h6,e1,Qa,seval];exact⟨v.pairs.length-(i+1),by omega,_,i+1,rfl,rfl,WW ht hi hj,(by exact h2),(by exact h3),(by rfl)⟩
  ·have s2:=JU hxz;simp only[s2,Qa,seval];exact qr _ (by rfl) (Wg hi hj fun e=>hxz (by rw[e]))
 ·rw[QWO (by omega),QWO (by omega)]at ht;simp only[QA hlt,Qa,seval];exact q _ (by exact h2) (by exact h3) ht

theorem SD (hl:v.slots.length=w.slots.length)(hn:v.slots.length≤maxLen)(hx:∀x∈v.slots,∀y∈w.slots,Qi Tryz.prog 12 [x.2.av,y.2.av] (.bool (sm x.2 y.2)))(h7:f 7=.int .i64 0)
  (q:∀f,f 2=.ptr 0 2 0→f 3=.ptr 0 3 0→v.slots=w.slots→Q (.exit 4) (⟨f,[fr],[]⟩:St)) (qr:∀f,f 4=.bool false→v.slots≠w.slots→Q .ret (⟨f,[fr],[]⟩:St)) :
  QG Tryz.prog (.loop SP) ⟨f,[fr],[]⟩ Q:=by
 let I:Nat→St→Prop:=fun k st=>∃f i,st=⟨f,[fr],[]⟩∧k=v.slots.length-i∧v.slots.take i=w.slots.take i∧f 2=.ptr 0 2 0∧f 3=.ptr 0 3 0∧f 7=.int .i64 (i:Nat)
 refine Qc I _ ⟨f,0,rfl,rfl,rfl,h2,h3,h7⟩ ?_;clear h2 h3 h7;rintro _ st ⟨f,i,rfl,rfl,ht,h2,h3,h7⟩;have m2:=m2';have m3:=m3';simp only[X3]at m2 m3;simp only[QXb,h2,h7,m2,eE,seval];by_cases hlt:i<v.slots.length
 ·obtain⟨x,hi⟩:∃x,v.slots[i]? = some x:=⟨v.slots[i],QWh hlt⟩;obtain⟨y,hj⟩:∃y,w.slots[i]? = some y:=⟨w.slots[i]'(by omega),QWh (by omega)⟩;have hg:=JQ hi;have hg2:=JQ hj;have e1:=Qo i _ hlt hn;have c1:=hx x (QWt hi) y (QWt hj);rw[Qw x.2,Qw y.2]at c1;by_cases hxy:x.1=y.1
  case neg=>
   have d1:(x.1 != y.1)=true:=by simp[hxy]
   simp only[Ql hlt,Qg,QXI,Qb,hg,hg2,d1,h2,h3,h7,m2,m3,eE,seval];exact qr _ (by rfl) (Wg hi hj fun e=>hxy (by rw[e]))
  have d1:(x.1 != y.1)=false:=by simp[hxy]
  simp only[Ql hlt,Qg,QXI,Qb,hg,hg2,d1,h2,h3,h7,m2,m3,eE,seval];refine aC c1 ?_;by_cases hxz:x.2=y.2
  ·have s2:=NA hxz;have e:x=y:=Prod.ext hxy hxz;subst e;simp only[s2,h7,e1,Qa,seval];exact⟨v.slots.length-(i+1),by omega,_,i+1,rfl,rfl,WW ht hi hj,(by exact h2),(by exact h3),(by rfl)⟩
  ·have s2:=JU hxz;simp only[s2,Qa,seval];exact qr _ (by rfl) (Wg hi hj fun e=>hxz (by rw[e]))
 ·rw[QWO (by omega),QWO (by omega)]at ht;simp only[QA hlt,Qa,seval];exact q _ (by exact h2) (by exact h3) ht

theorem QaN (hl:v.raws.length=w.raws.length)(hn:v.raws.length≤maxLen)(h8:f 8=.int .i64 0)
  (q:∀f,f 2=.ptr 0 2 0→f 3=.ptr 0 3 0→v.raws=w.raws→Q (.exit 6) (⟨f,[fr],[]⟩:St)) (qr:∀f,f 4=.bool false→v.raws≠w.raws→Q .ret (⟨f,[fr],[]⟩:St)) :
  QG Tryz.prog (.loop SQ) ⟨f,[fr],[]⟩ Q:=by
 let I:Nat→St→Prop:=fun k st=>∃f i,st=⟨f,[fr],[]⟩∧k=v.raws.length-i∧v.raws.take i=w.raws.take i∧f 2=.ptr 0 2 0∧f 3=.ptr 0 3 0∧f 8=.int .i64 (i:Nat)
 refine Qc I _ ⟨f,0,rfl,rfl,rfl,h2,h3,h8⟩ ?_;clear h2 h3 h8;rintro _ st ⟨f,i,rfl,rfl,ht,h2,h3,h8⟩;have m2:=m2';have m3:=m3';simp only[X3]at m2 m3;simp only[QXb,h2,h8,m2,eE,seval];by_cases hlt:i<v.raws.length
 ·obtain⟨x,hi⟩:∃x,v.raws[i]? = some x:=⟨v.raws[i],QWh hlt⟩;obtain⟨y,hj⟩:∃y,w.raws[i]? = some y:=⟨w.raws[i]'(by omega),QWh (by omega)⟩;have hg:=YJ hi;have hg2:=YJ hj;have e1:=Qo i _ hlt hn;by_cases hxy:x=y
  ·subst hxy;simp only[Ql hlt,Qg,QXI,Qb,hg,hg2,QXq,h2,h3,h8,m2,m3,e1,eE,seval];exact⟨v.raws.length-(i+1),by omega,_,i+1,rfl,rfl,WW ht hi hj,(by exact h2),(by exact h3),(by rfl)⟩
  ·have d1:(x.num==y.num&&(x.wire==y.wire&&(((x.bits:Nat):Int)==((y.bits:Nat):Int)&&x.data==y.data)))=false:=by
    rw[QX7];intro e;simp only[QWE,QWm]at e;obtain⟨e1,e2,e3,e4⟩:=e;refine hxy ?_;cases x;cases y;simp only at e1 e2 e3 e4;have e5:=Int.ofNat_inj.1 e3;subst e1 e2 e5 e4;rfl
   have d2:=congrArg (fun b=>!b) d1;simp only[QXo]at d2;simp only[Ql hlt,Qg,QXI,Qb,hg,hg2,d1,QXu,h2,h3,h8,m2,m3,eE,seval];exact qr _ (by rfl) (Wg hi hj hxy)
 ·rw[QWO (by omega),QWO (by omega)]at ht;simp only[QA hlt,Qa,seval];exact q _ (by exact h2) (by exact h3) ht

end

theorem V.ext7 {v w:V}(h1:v.kd=w.kd)(h2:v.bits=w.bits)(h3:v.text=w.text)(h4:v.list=w.list)(h5:v.pairs=w.pairs)(h6:v.slots=w.slots)(h7:v.raws=w.raws):v=w:=by
 cases v;cases w;simp only[V.kd,V.bits,V.text,V.list,V.pairs,V.slots,V.raws]at h1 h2 h3 h4 h5 h6 h7;subst h1 h2 h3 h4 h5 h6 h7;rfl

theorem u12 {M:Nat}:∀v:V,v.ok M→∀w:V,w.ok M→Qi Tryz.prog 12 [v.av,w.av] (.bool (sm v w)):=by
 refine V.ind (P:=fun v=>v.ok M→∀w:V,w.ok M→Qi Tryz.prog 12 [v.av,w.av] (.bool (sm v w))) ?_;intro v hl hp hs hv w hw;have n1:=hv.nl;have n2:=hv.np;have n3:=hv.ns;have n4:=hv.nr;rw[show v.av=.agg (X3 v)from Qw v,show w.av=.agg (X3 w)from Qw w];by_cases a1:v.kd=w.kd
 case neg=>
  have d1:(v.kd != w.kd)=true:=by simp[a1]
  have s1:sm v w=false:=JU fun e=>a1 (by rw[e])
  rw[s1];refine D5.fn (by simp) ?_;simp only[X3,d1,eE,seval]
 have d1:(v.kd != w.kd)=false:=by simp[a1]
 by_cases a2:v.bits=w.bits
 case neg=>
  have d2:((v.bits:Int) != (w.bits:Int))=true:=by rw[QWG];omega
  have s1:sm v w=false:=JU fun e=>a2 (by rw[e])
  rw[s1];refine D5.fn (by simp) ?_;simp only[X3,d1,d2,eE,seval]
 have d2:((v.bits:Int) != (w.bits:Int))=false:=by rw[bne_eq_false_iff_eq];omega
 by_cases a3:v.text=w.text
 case neg=>
  have d3:(v.text==w.text)=false:=by simp[a3]
  have s1:sm v w=false:=JU fun e=>a3 (by rw[e])
  rw[s1];refine D5.fn (by simp) ?_;simp only[X3,d1,d2,d3,QL,eE,seval]
 have d3:(v.text==w.text)=true:=by simp[a3]
 by_cases a4:v.list.length=w.list.length
 case neg=>
  have d4:((v.list.length:Int) != (w.list.length:Int))=true:=by rw[QWG];omega
  have s1:sm v w=false:=JU fun e=>a4 (by rw[e])
  rw[s1];refine D5.fn (by simp) ?_;simp only[X3,d1,d2,d3,d4,QL,QXb,eE,seval]
 have d4:((v.list.length:Int) != (w.list.length:Int))=false:=by rw[bne_eq_false_iff_eq];omega
 by_cases a5:v.pairs.length=w.pairs.length
 case neg=>
  have d5:((v.pairs.length:Int) != (w.pairs.length:Int))=true:=by rw[QWG];omega
  have s1:sm v w=false:=JU fun e=>a5 (by rw[e])
  rw[s1];refine D5.fn (by simp) ?_;simp only[X3,d1,d2,d3,d4,d5,QL,QXb,eE,seval]
 have d5:((v.pairs.length:Int) != (w.pairs.length:Int))=false:=by rw[bne_eq_false_iff_eq];omega
 by_cases a6:v.slots.length=w.slots.length
 case neg=>
  have d6:((v.slots.length:Int) != (w.slots.length:Int))=true:=by rw[QWG];omega
  have s1:sm v w=false:=JU fun e=>a6 (by rw[e])
  rw[s1];refine D5.fn (by simp) ?_;simp only[X3,d1,d2,d3,d4,d5,d6,QL,QXb,eE,seval]
 have d6:((v.slots.length:Int) != (w.slots.length:Int))=false:=by rw[bne_eq_false_iff_eq];omega
 by_cases a7:v.raws.length=w.raws.length
 case neg=>
  have d7:((v.raws.length:Int) != (w.raws.length:Int))=true:=by rw[QWG];omega
  have s1:sm v w=false:=JU fun e=>a7 (by rw[e])
  rw[s1];refine D5.fn (by simp) ?_;simp only[X3,d1,d2,d3,d4,d5,d6,d7,QL,QXb,eE,seval]
 have d7:((v.raws.length:Int) != (w.raws.length:Int))=false:=by rw[bne_eq_false_iff_eq];omega
 generalize hr:sm v w=r;refine D5.fn (by simp) ?_;simp only[X3,d1,d2,d3,d4,d5,d6,d7,QL,QXb,eE,seval];refine QaM v w _ (by rfl) (by rfl) _ (by rfl) (by rfl) _ a4 (by simp only[maxLen];omega) (fun x hx y hy=>hl x hx (hv.list x hx) y (hw.list y hy)) (by rfl) (fun f h2 h3 b1=>?_) (fun f h4 b1=>?_)
 case refine_2=>
  rw[JU fun e=>b1 (by rw[e])]at hr;subst hr;simp only[h4,Qa,seval]
 simp only[Qa,seval];refine SC v w _ (by rfl) (by rfl) _ (by exact h2) (by exact h3) _ a5 (by simp only[maxLen];omega) (fun x hx y hy=>⟨(hp x hx).1 (hv.keys x hx) y.1 (hw.keys y hy),(hp x hx).2 (hv.vals x hx) y.2 (hw.vals y hy)⟩) (by rfl) (fun f h2 h3 b2=>?_) (fun f h4 b2=>?_)
 case refine_2=>
  rw[JU fun e=>b2 (by rw[e])]at hr;subst hr;simp only[h4,Qa,seval]
 simp only[Qa,seval];refine SD v w _ (by rfl) (by rfl) _ (by exact h2) (by exact h3) _ a6 (by simp only[maxLen];omega) (fun x hx y hy=>hs x hx (hv.slots x hx) y.2 (hw.slots y hy)) (by rfl) (fun f h2 h3 b3=>?_) (fun f h4 b3=>?_)
 case refine_2=>
  rw[JU fun e=>b3 (by rw[e])]at hr;subst hr;simp only[h4,Qa,seval]
 simp only[Qa,seval];refine QaN v w _ (by rfl) (by rfl) _ (by exact h2) (by exact h3) _ a7 (by simp only[maxLen];omega) (by rfl) (fun f h2 h3 b4=>?_) (fun f h4 b4=>?_)
 case refine_2=>
  rw[JU fun e=>b4 (by rw[e])]at hr;subst hr;simp only[h4,Qa,seval]
 rw[NA (V.ext7 a1 a2 a3 b1 b2 b3 b4)]at hr;subst hr;simp only[Qa,seval]

open Vp Cp

section
variable {M:Nat}(hM:M≤140737488351232)(P:PL)(hP:P.ok M)

noncomputable def AL (P:PL)(t:Int)(v:V):Bool:=Km P t v==0&&sm v (nrm P 16 (QR P t) v)

include hM hP in
theorem u13 (hk:ck P=0)(t:Int)(v:V)(hv:v.ok M)(hc:v.cnt≤1048576):Qi Tryz.prog 13 [P.av,.int .i64 t,v.av] (.bool (AL P t v)):=by
 have e0:P.av=.agg [.list (P.progs.map Qp),.list (P.enums.map Qr)]:=rfl;have cx:=v7 hP hM (Kf hk) t v hv;have cn:=fun(hf:Km P t v=0)=>v9 (M:=M) (Kf hk) (Jn hk) (Dd hk) 16 t (QR P t) (Dh (Ju hf).1) (Ju hf).1.1 v hv hc (Da _ _ _ (Ju hf).2)
 have cs:=u12 v hv (nrm P 16 (QR P t) v) (Nv (CY hP (Dd hk)) 16 t v hv);unfold AL;generalize nrm P 16 (QR P t) v=w at cn cs ⊢;rw[e0,Qw v]at cx;rw[e0,Qw v,Qw w]at cn;rw[Qw v,Qw w]at cs;rw[Qw v];refine k13.fn (by simp) ?_;simp only[e0,eE,seval];refine aC cx ?_;by_cases hf:Km P t v=0
 ·have b0:(Km P t v==0)=true:=by simp[hf]
  simp only[b0,QXT,eE,seval];refine aC (cn hf) ?_;simp only[Qa,seval];refine aC cs ?_;simp only[Qa,seval]
 ·have b0:(Km P t v==0)=false:=by simp[hf]
  simp only[b0,QXM,Qa,seval]

end
end Go.Proofs.YtdhlbgejhcejcaaGreatDoor.Va

namespace Go.Proofs.YtdhlbgejhcejcaaGreatDoor.Cl
open Go Am Rc Bt

theorem UC {sz:Nat}(h0:sz≠0){xs:List AV}(h:xs.all (fun e=>e.cells.length==sz)=true)(hf:QK xs=[]):xs=[]:=by
 cases xs with
 |nil=>rfl
 |cons x xs=>
  have hl:x.cells.length=sz:=by simpa using QWs.1 h x (by simp)
  have:x.cells=[]:=(List.append_eq_nil_iff.1 hf).1;rw[this]at hl;exact absurd hl.symm h0

def UD (sz:Nat)(args:List AV)(m:Qn):Option (AV×Qn) :=
 match args,m with
 | [.list xs],fr :: m=>bif xs.all (fun e=>e.cells.length==sz)&&Nat.ble xs.length 1000000&&Qt (fr 1000)then some (.vec 0 1000 (Xy (fr 1000)) 0 xs.length false,QH fr 1000 (.vec (Xy (fr 1000)) sz xs) :: m)else none
 |_,_=>none

theorem UE {P:Program}{k sz:Nat}(hk:∀(xs:List AV) (fr:Nat→Ob) (m:Qn),xs.all (fun e=>e.cells.length==sz)=true→xs.length≤1000000→Qt (fr 1000)=true→
  Qh P k [.list xs] (fr :: m) (fun x m1=>x=.vec 0 1000 (Xy (fr 1000)) 0 xs.length false∧m1=QH fr 1000 (.vec (Xy (fr 1000)) sz xs) :: m)) {args:List AV} {m m':Qn} {v:AV} (h:UD sz args m=some (v,m')):Qh P k args m fun x m1=>x=v∧m1=m':=by
 unfold UD at h;split at h
 ·rename_i xs fr m0;cases hb:(xs.all (fun e=>e.cells.length==sz)&&Nat.ble xs.length 1000000&&Qt (fr 1000))with
  |false=>rw[hb]at h;cases h
  |true=>
   rw[hb]at h;simp only[cond_true,QWF,QXL]at h;simp only[QWE]at hb;obtain⟨rfl,rfl⟩:=h;exact hk xs fr m0 hb.1.1 (QXJ hb.1.2) hb.2
 ·cases h

theorem c95 (xs:List AV)(fr:Nat→Ob)(m:Qn)(h:xs.all (fun e=>e.cells.length==4)=true)(hn:xs.length≤1000000)(hr:Qt (fr 1000)=true) :
  Qh Tryz.prog 95 [.list xs] (fr :: m) (fun x m1=>x=.vec 0 1000 (Xy (fr 1000)) 0 xs.length false∧m1=QH fr 1000 (.vec (Xy (fr 1000)) 4 xs) :: m):=by
 have hng:QF (fr :: m) 0 1000=Xy (fr 1000):=JW;refine k95.go (by simp) ?_;simp only[SL,V7,V8,Qa,seval];refine Jq (ys:=xs) (by simp only[Qa,seval]) ?_ ?_
 ·simp only[Ca,Qa,seval];refine ZN rfl ?_;simp only[Qa,seval];refine QM (site:=5) (g:=1) (xs:=[]) (ys:=xs) rfl rfl rfl rfl rfl h (by simp[maxLen];omega) (by simp;omega) ?_;simp only[Qa,seval];refine X8 (l:=0) (site:=5) (g:=2) (o:=0) (n:=xs.length) (q:=false) (sz:=4) (xs:=xs) (by simp only[QWW,Qa,seval]) (by simp only[Qa,seval]) (by simp) (by decide) hr ?_;simp only[hng,N4,eE,seval]
  try simp[AV.still,AV.un,Zv,XL]
 ·intro he;have hx:xs=[]:=by
   rcases he with he|he
   ·exact he
   ·exact UC (by decide) h he
  subst hx;simp only[V9,Qa,seval];refine Zj (by simp only[Qa,seval]) rfl ?_;simp only[Qa,seval];refine X8 (l:=0) (site:=2) (g:=1) (o:=0) (n:=0) (q:=false) (sz:=4) (xs:=[]) (by simp only[Qa,seval]) (by simp only[Qa,seval]) (by simp) (by decide) hr ?_;simp only[hng,N4,eE,seval]
  try simp[AV.still,AV.un,Zv,XL]

theorem QRU (xs:List AV)(fr:Nat→Ob)(m:Qn)(h:xs.all (fun e=>e.cells.length==8)=true)(hn:xs.length≤1000000)(hr:Qt (fr 1000)=true) :
  Qh Tryz.prog 185 [.list xs] (fr :: m) (fun x m1=>x=.vec 0 1000 (Xy (fr 1000)) 0 xs.length false∧m1=QH fr 1000 (.vec (Xy (fr 1000)) 8 xs) :: m):=by
 have hng:QF (fr :: m) 0 1000=Xy (fr 1000):=JW;refine RF.go (by simp) ?_;simp only[Cc,Bi,Bj,Qa,seval];refine Jq (ys:=xs) (by simp only[Qa,seval]) ?_ ?_
 ·simp only[Bl,Qa,seval];refine ZN rfl ?_;simp only[Qa,seval];refine QM (site:=5) (g:=1) (xs:=[]) (ys:=xs) rfl rfl rfl rfl rfl h (by simp[maxLen];omega) (by simp;omega) ?_;simp only[Qa,seval];refine X8 (l:=0) (site:=5) (g:=2) (o:=0) (n:=xs.length) (q:=false) (sz:=8) (xs:=xs) (by simp only[QWW,Qa,seval]) (by simp only[Qa,seval]) (by simp) (by decide) hr ?_;simp only[hng,Dp,eE,seval]
  try simp[AV.still,AV.un,Zv,XL]
 ·intro he;have hx:xs=[]:=by
   rcases he with he|he
   ·exact he
   ·exact UC (by decide) h he
  subst hx;simp only[Bk,Qa,seval];refine Zj (by simp only[Qa,seval]) rfl ?_;simp only[Qa,seval];refine X8 (l:=0) (site:=2) (g:=1) (o:=0) (n:=0) (q:=false) (sz:=8) (xs:=[]) (by simp only[Qa,seval]) (by simp only[Qa,seval]) (by simp) (by decide) hr ?_;simp only[hng,Dp,eE,seval]
  try simp[AV.still,AV.un,Zv,XL]

theorem QRV (xs:List AV)(fr:Nat→Ob)(m:Qn)(h:xs.all (fun e=>e.cells.length==7)=true)(hn:xs.length≤1000000)(hr:Qt (fr 1000)=true) :
  Qh Tryz.prog 184 [.list xs] (fr :: m) (fun x m1=>x=.vec 0 1000 (Xy (fr 1000)) 0 xs.length false∧m1=QH fr 1000 (.vec (Xy (fr 1000)) 7 xs) :: m):=by
 have hng:QF (fr :: m) 0 1000=Xy (fr 1000):=JW;refine QgT.go (by simp) ?_;simp only[RE,MY,MZ,Qa,seval];refine Jq (ys:=xs) (by simp only[Qa,seval]) ?_ ?_
 ·simp only[M1,Qa,seval];refine ZN rfl ?_;simp only[Qa,seval];refine QM (site:=5) (g:=1) (xs:=[]) (ys:=xs) rfl rfl rfl rfl rfl h (by simp[maxLen];omega) (by simp;omega) ?_;simp only[Qa,seval];refine X8 (l:=0) (site:=5) (g:=2) (o:=0) (n:=xs.length) (q:=false) (sz:=7) (xs:=xs) (by simp only[QWW,Qa,seval]) (by simp only[Qa,seval]) (by simp) (by decide) hr ?_;simp only[hng,Cb,eE,seval]
  try simp[AV.still,AV.un,Zv,XL]
 ·intro he;have hx:xs=[]:=by
   rcases he with he|he
   ·exact he
   ·exact UC (by decide) h he
  subst hx;simp only[M0,Qa,seval];refine Zj (by simp only[Qa,seval]) rfl ?_;simp only[Qa,seval];refine X8 (l:=0) (site:=2) (g:=1) (o:=0) (n:=0) (q:=false) (sz:=7) (xs:=[]) (by simp only[Qa,seval]) (by simp only[Qa,seval]) (by simp) (by decide) hr ?_;simp only[hng,Cb,eE,seval]
  try simp[AV.still,AV.un,Zv,XL]

end Go.Proofs.YtdhlbgejhcejcaaGreatDoor.Cl

namespace Go.Proofs.YtdhlbgejhcejcaaGreatDoor.Ew
open Go Am Rc Cl

def nat:KW:=fun k args m=>
 if k=95 then UD 4 args m
 else if k=185 then UD 8 args m
 else if k=184 then UD 7 args m
 else none

theorem nat_ok:K4 Tryz.prog nat:=by
 intro k args m v m' h;unfold nat at h;split at h
 ·rename_i e;subst e;exact UE c95 h
 split at h
 ·rename_i e;subst e;exact UE QRU h
 split at h
 ·rename_i e;subst e;exact UE QRV h
 ·cases h

theorem Rm:evT nat Ev.tab 3000 8 []=true:=by decide +kernel

theorem WC:Qi Tryz.prog 8 [] (.bool true):=V6 nat_ok Ev.Qv4 Rm

end Go.Proofs.YtdhlbgejhcejcaaGreatDoor.Ew

namespace Go.Proofs.YtdhlbgejhcejcaaGreatDoor.Va
open Go Am Rc Bt Br Up So Vp Cp

theorem QIN {p:Prop}{b:Bool}(h:b=true→p):Hn p (.bool b):=⟨b,rfl,h⟩

section
variable {M:Nat}(P:PL)(hP:P.ok M)(hM:M≤140737488351232)(s:List UInt8)(v:V)(hv:v.ok M)

include hP hM in
theorem n5:WG Tryz.prog 5 [P.av] (Hn (DL P∧ck P=0)):=by
 have e0:P.av=.agg [.list (P.progs.map Qp),.list (P.enums.map Qr)]:=rfl;have c1:=UB hM P hP;have c2:=z18 P hP hM;rw[e0]at c1 c2 ⊢;refine k5.rl (by simp) ?_;simp only[eE,seval];refine Zw (R:=Hn (DL P)) c1 rfl rfl (fun _ h=>h.rf) ?_;rintro _ ⟨b,rfl,hb⟩;cases b
 ·simp only[Dg,Qa,seval]
 simp only[eE,seval];refine aC c2 ?_;simp only[Qa,seval];exact QIN fun h=>⟨hb rfl,by simpa using h⟩

end
end Go.Proofs.YtdhlbgejhcejcaaGreatDoor.Va

namespace Go.Proofs.YtdhlbgejhcejcaaGreatDoor.Va
open Go Am Rc Bt Br Up

def Y3 (l:List R):List AV:=l.map R.av
theorem QaO (a:List R):(Y3 a).length=a.length:=by simp[Y3]

def QIO (l:List R)(k:Nat)(st:St):Prop :=
 ∃f i,st=⟨f,[Qd],[]⟩∧k=l.length-i∧i≤l.length∧f 0=.list (Y3 l)∧f 1=.list (Y3 l)∧f 5=.int .i64 (i:Nat)

theorem z15 (l:List R)(hn:l.length<9223372036854775807):Qi Tryz.prog 15 [.list (Y3 l),.list (Y3 l)] (.bool true):=by
 refine k15.fn (by simp) ?_;simp only[bne_self_eq_false,Qa,seval];refine Qc (QIO l) _ ⟨_,0,rfl,rfl,QWo _,rfl,rfl,rfl⟩ ?_;rintro n st ⟨f,i,rfl,rfl,hi,h0,h1,h5⟩;simp only[h0,h5,QaO,Qa,seval];by_cases hlt:i<l.length
 ·obtain⟨fd,hfd⟩:∃fd,l[i]? = some fd:=⟨l[i],QWh hlt⟩;have hfa:(Y3 l)[i]? = some fd.av:=by simp[Y3,hfd]
  have e1:=Qo i _ hlt (by simp only[maxLen];omega);simp only[Ql hlt,Qg,e1,QXI,Qb,hfa,R.av,QXq,h0,h1,h5,eE,seval];exact⟨l.length-(i+1),by omega,_,i+1,rfl,rfl,by omega,(by exact h0),(by exact h1),(by rfl)⟩
 ·simp only[QA hlt,Qa,seval]

open So Vp Cp

structure FlF (P:PL)(t:Int)(v:V)(T:List R)(f:Fr)(fr:Nat→Ob)(i at' k:Nat):Prop where
 f1:f 1=.int .i64 t
 f3:f 3=.ptr 0 3 0
 f5:f 5=.ptr 0 5 0
 f7:f 7=.list (T.map R.av)
 f8:f 8=.int .i64 0
 f9:f 9=.int .i64 (at':Nat)
 f10:f 10=.int .i64 (k:Nat)
 f11:f 11=.int .i64 (i:Nat)
 m3:fr 3=.cells [.list (P.progs.map Qp),.list (P.enums.map Qr)]
 m5:fr 5=.cells (X3 v)

theorem QaP {α:Type}{l:List α}{n:Nat}{x:α}{t:List α}(h:l.drop n=x :: t):n<l.length∧l[n]? = some x∧l.drop (n+1)=t:=by
 have hl:n<l.length:=by
  rcases Nat.lt_or_ge n l.length with c|c
  ·exact c
  ·rw[List.drop_eq_nil_of_le c]at h;cases h
 refine⟨hl,?_,?_⟩
 ·have:=congrArg (fun l=>l[0]?) h
  simpa using this
 ·have:=congrArg (List.drop 1) h
  simpa [QWI,Nat.add_comm]using this
theorem HM {l z t:List R}{n:Nat}(h:l.drop n=z++t):((l.map R.av).drop n).take (n+z.length-n)=Y3 z:=by
 rw[←List.map_drop,h,QXZ,show n+z.length-n=z.length by omega];exact List.take_left' (QXb ..)
theorem QaQ {l z t:List R}{n:Nat}(h:l.drop n=z++t)(hn:n≤l.length):n+z.length≤l.length:=by
 have:=congrArg List.length h;rw[QWV,QWS]at this;omega

section
variable {M:Nat}{P:PL}(bd:Int→V→List UInt8)(g:PG)(t:Int)(v:V)(T:List R)(hT:T.length<9223372036854775807)(hr:v.raws.length≤maxLen)(Q:Exit→St→Prop)

include hT hr in
theorem QIP (i:Nat)(s:Int×V)(his:v.slots[i]? = some s)(sl:List (Int×V))(f:Fr)(fr:Nat→Ob)(a k:Nat)(h:FlF P t v T f fr i a k)(hk:k≤v.raws.length)(ha:a≤T.length)(hi:T.drop a=Xd bd g (s :: sl) (v.raws.drop k))
  (q:∀f fr a k,FlF P t v T f fr i a k→k≤v.raws.length→a≤T.length→T.drop a=Kk bd g s++Xd bd g sl (v.raws.drop k)→Q (.exit 2) (⟨f,[fr],[]⟩:St)) :
  QG Tryz.prog (.loop Qwu) ⟨f,[fr],[]⟩ Q:=by
 let I:Nat→St→Prop:=fun n st=>∃f fr a k,st=⟨f,[fr],[]⟩∧n=v.raws.length-k∧FlF P t v T f fr i a k∧k≤v.raws.length∧a≤T.length∧T.drop a=Xd bd g (s :: sl) (v.raws.drop k)
 refine Qc I _ ⟨f,fr,a,k,rfl,rfl,h,hk,ha,hi⟩ ?_;clear h hk ha hi;rintro _ st ⟨f,fr,a,k,rfl,rfl,h,hk,ha,hi⟩;obtain⟨h1,h3,h5,h7,h8,h9,h10,h11,m3,m5'⟩:=h;have m5:=m5';simp only[X3]at m5;have hgs:=JQ his;simp only[QXb,h5,h10,m5,eE,seval];by_cases hlt:k<v.raws.length
 ·obtain⟨r,hri⟩:∃r,v.raws[k]? = some r:=⟨v.raws[k],QWh hlt⟩;have hgr:=YJ hri;have hdk:v.raws.drop k=r :: v.raws.drop (k+1):=by
   rw[QWY hlt];rw[QWh hlt]at hri;cases hri;rfl
  by_cases hn:r.num<s.1
  ·have d2:decide (r.num<s.1)=true:=QYa hn;rw[hdk,VH bd g hn]at hi;obtain⟨hal,_,hd2⟩:=QaP hi;have d3:decide ((a:Int)≥(T.length:Int))=false:=QX5 (by omega);have e1:=Qo a _ hal (by simp only[maxLen];omega);have e2:=Qo k _ hlt hr;have p1:=HM (z:=[r]) hi;have p2:=HM (z:=[r]) hdk;have c1:=z15 [r] (by simp);simp only[QWv,QXc,QWW]at p1 p2;have q1:(a≤a+1)=True:=eq_true (by omega);have q2:(a+1≤T.length)=True:=eq_true (by omega);have q3:(k≤k+1)=True:=eq_true (by omega);have q4:(k+1≤v.raws.length)=True:=eq_true (by omega);have s1:=JA T;have s2:=JA v.raws;simp only[Ql hlt,d2,Qg,QXI,Qb,hgr,hgs,h5,h7,h9,h10,h11,m5,eE,seval];simp only[d3,e1,e2,Zt,Q1,QXQ,Qg,QXI,q1,q2,q3,q4,s1,s2,p1,p2,QXb,QWe,or_true,QXk,h5,h7,h9,h10,m5,eE,seval];refine aC c1 ?_;simp only[e1,e2,h9,h10,Qa,seval];exact⟨v.raws.length-(k+1),by omega,_,_,a+1,k+1,rfl,rfl,⟨(by exact h1),(by exact h3),(by exact h5),(by exact h7),(by exact h8),(by rfl),(by rfl),(by exact h11),m3,m5'⟩,hlt,hal,hd2⟩
  ·have d2:decide (r.num<s.1)=false:=QX5 hn;simp only[Ql hlt,d2,Qg,QXI,Qb,hgr,hgs,h5,h10,h11,m5,eE,seval];exact q _ _ a k ⟨(by exact h1),(by exact h3),(by exact h5),(by exact h7),(by exact h8),(by exact h9),(by exact h10),(by exact h11),m3,m5'⟩ hk ha (by rw[hi,U2];intro r' l' e;rw[hdk]at e;cases e;exact hn)
 ·have hdk:v.raws.drop k=[]:=List.drop_eq_nil_of_le (by omega);simp only[QA hlt,Qa,seval];exact q _ _ a k ⟨(by exact h1),(by exact h3),(by exact h5),(by exact h7),(by exact h8),(by exact h9),(by exact h10),(by exact h11),m3,m5'⟩ hk ha (by rw[hi,U2];intro r' l' e;rw[hdk]at e;cases e)

def QRW (v:V)(T:List R)(a k:Nat)(n:Nat)(st:St):Prop :=
 ∃f fr j,st=⟨f,[fr],[]⟩∧n=T.length-(j+1)∧f 3=.ptr 0 3 0∧f 5=.ptr 0 5 0∧f 7=.list (T.map R.av)∧f 8=.int .i64 0∧f 9=.int .i64 (a:Nat)∧f 10=.int .i64 (k:Nat)∧f 13=.int .i64 ((j:Int)+1)∧fr 5=.cells (X3 v)

include hT in
theorem QxI (hs:T.Pairwise fun a b=>a.num≤b.num)(f:Fr)(fr:Nat→Ob)(a k:Nat)(h3:f 3=.ptr 0 3 0)(h5:f 5=.ptr 0 5 0)(h7:f 7=.list (T.map R.av))(h8:f 8=.int .i64 0)(h9:f 9=.int .i64 (a:Nat))(h10:f 10=.int .i64 (k:Nat))(h13:f 13=.int .i64 1)(m5:fr 5=.cells (X3 v))
  (q:∀f fr,f 3=.ptr 0 3 0→f 5=.ptr 0 5 0→f 7=.list (T.map R.av)→f 8=.int .i64 0→f 9=.int .i64 (a:Nat)→f 10=.int .i64 (k:Nat)→fr 5=.cells (X3 v)→Q (.exit 4) (⟨f,[fr],[]⟩:St)) :
  QG Tryz.prog (.loop Qwv) ⟨f,[fr],[]⟩ Q:=by
 refine Qc (QRW v T a k) _ ⟨f,fr,0,rfl,rfl,h3,h5,h7,h8,h9,h10,h13,m5⟩ ?_;clear h3 h5 h7 h8 h9 h10 h13 m5;rintro _ st ⟨f,fr,j,rfl,rfl,h3,h5,h7,h8,h9,h10,h13,m5⟩;simp only[QXb,h7,h13,Qa,seval];by_cases hlt:j+1<T.length
 ·have d1:decide ((j:Int)+1<(T.length:Int))=true:=QYa (by omega);have e1:IntKind.i64.wrap ((j:Int)+1+1)=((j+1:Nat):Int)+1:=by rw[QC];omega
  have e2:IntKind.i64.wrap ((j:Int)+1-1)=(j:Int):=by rw[QC];omega
  have n1:(0≤(j:Int)+1)=True:=eq_true (by omega);have t1:((j:Int)+1).toNat=j+1:=by omega
  obtain⟨x,hx⟩:∃x,T[j]? = some x:=⟨T[j],QWh (by omega)⟩;obtain⟨y,hy⟩:∃y,T[j+1]? = some y:=⟨T[j+1],QWh hlt⟩;have hgx:=YJ hx;have hgy:=YJ hy;have hle:x.num≤y.num:=by
   rw[QYj]at hs;have:=hs j (j+1) (by omega) hlt (by omega);rw[QWh (by omega)]at hx;rw[QWh hlt]at hy;cases hx;cases hy;exact this
  have d2:decide (y.num<x.num)=false:=QX5 (by omega);simp only[d1,d2,e1,e2,n1,t1,Qg,QXI,Qb,hgx,hgy,h7,h13,eE,seval];exact⟨T.length-(j+1+1),by omega,_,_,j+1,rfl,rfl,(by exact h3),(by exact h5),(by exact h7),(by exact h8),(by exact h9),(by exact h10),(by rfl),m5⟩
 ·have d1:decide ((j:Int)+1<(T.length:Int))=false:=QX5 (by omega);simp only[d1,Qa,seval];exact q _ _ (by exact h3) (by exact h5) (by exact h7) (by exact h8) (by exact h9) (by exact h10) m5

end

theorem QaR (l:List R):(XU l).Pairwise fun a b=>a.num≤b.num:=by
 refine(XS DD l).imp fun {a b} h=>?_
 have h:¬b.num<a.num:=by simpa using h
 omega
theorem Rn:∀ {T:List R},(∀f∈T,Gf f)→T.length≤(QW T).length
 | [],_=>QWe _
 |f :: T,h=>by
  have h1:=Rn (T:=T) fun g hg=>h g (by simp[hg])
  have h2:=QXC.2 (Qxr (h f (by simp)));unfold QW at h1 ⊢;rw[QXK,QWS,QWv];omega

def QRX (P:PL)(bd:Int→V→List UInt8)(g:PG)(t:Int)(v:V)(T:List R)(n:Nat)(st:St):Prop :=
 ∃f fr i a k,st=⟨f,[fr],[]⟩∧n=v.slots.length-i∧i≤v.slots.length∧FlF P t v T f fr i a k∧k≤v.raws.length∧a≤T.length∧T.drop a=Xd bd g (v.slots.drop i) (v.raws.drop k)

section
variable {M:Nat}(P:PL)(hP:P.ok M)(hM:M≤140737488351232)(t:Int)(v:V)(hv:v.ok M)

include hP hM hv in
theorem c4:Qi Tryz.prog 4 [P.av,.int .i64 t,v.av] (.bool true):=by
 have e0:P.av=.agg [.list (P.progs.map Qp),.list (P.enums.map Qr)]:=rfl;have c1:=n5 P hP hM;have c2:=n6 v hv 300 (by decide) (by decide);have c3:=fun(hg:DL P∧ck P=0) (hc:v.cnt≤1048576)=>u13 hM P hP hg.2 t v hv hc
 rw[e0]at c1;rw[e0,Qw v]at c3;rw[Qw v]at c2;rw[e0,Qw v];refine k4.fn (by simp) ?_;simp only[eE,seval];refine Zw (R:=Hn (DL P∧ck P=0)) c1 rfl rfl (fun _ h=>h.rf) ?_;rintro _ ⟨b,rfl,hg⟩;cases b
 ·simp only[Qa,seval];refine aC Ew.WC ?_;simp only[Qa,seval]
 replace hg:=hg rfl;simp only[eE,seval];refine Zw (R:=Hn ((v.cnt:Int)≤300)) c2 rfl rfl (fun _ h=>h.rf) ?_;rintro _ ⟨b,rfl,hc⟩;cases b
 ·simp only[Qa,seval];refine aC Ew.WC ?_;simp only[Qa,seval]
 replace hc:=hc rfl;have hc':v.cnt≤1048576:=by omega
 simp only[eE,seval];refine aC (c3 hg hc') ?_;cases hn:AL P t v
 ·simp only[Qa,seval];refine aC Ew.WC ?_;simp only[Qa,seval]
 unfold AL at hn;simp only[QWE,QWm,Nz]at hn;obtain⟨hf,hn⟩:=hn;obtain⟨ht,hm⟩:=Ju hf;have hk:=hg.2;have hgm:QR P t∈P.progs:=QWt (Dh ht);have ls:=KR v;have lr:=YO v;have hns:=QIJ (M:=M) (Kf hk) (Jn hk) hgm hm hv hc' hn.symm;have hgf:=QaG (Kf hk) (Jn hk) (QaE hk) hgm hm hv hns;have hbl:=Yk (Kf hk) (Jn hk) 16 t v ht hm;have hb:Zx P 16 t v=QW (Xd (Zx P 15) (QR P t) v.slots v.raws):=by rw[Zx,←hn]
 have cb:=t11 hM P hP hg.1 hk t v hv hc' hf;have hsr:(Xd (Zx P 15) (QR P t) v.slots v.raws).Pairwise fun a b=>a.num≤b.num:=by
  refine Nx ?_ ?_ (fun s hs=>QaF _ (hns s hs))
  ·have:=Sx (n:=15) (Jn hk) hgm v
   rwa [←hn]at this
  ·have h1:v.raws=XU v.raws:=by
    have:=congrArg V.raws hn;exact this
   rw[h1];exact QaR _
 have hcw:=fun s hs=>t16 hM P hP hg.1 hk t v hv hc' hf s hs
 have hsne:=fun s hs=>QxA (Zx P 15) (hns s hs)
 generalize hTe:Xd (Zx P 15) (QR P t) v.slots v.raws=T at hgf hb hsr;rw[hb]at cb hbl;have hTl:=Rn hgf;have hcs:=c14 (QW T) ⟨1073741824,100,1073741824,1073741824⟩ (by omega);have hsc:=Sy (T:=T) (l:=⟨1073741824,100,1073741824,1073741824⟩) ⟨by decide,by decide,by decide,by decide,by dsimp only;omega⟩ (by omega) (by dsimp only;omega) (by decide) hgf;simp only[L.av]at hcs;have hTm:T.length<9223372036854775807:=by omega
 rw[e0,Qw v]at cb;simp only[eE,seval];refine aC cb ?_;simp only[eE,seval];refine aC hcs ?_;rcases hsc with hsc|hsc
 case inr=>
  have b0:(((Wz (QW T) ⟨1073741824,100,1073741824,1073741824⟩).2:Int)==3)=true:=by rw[hsc];rfl
  simp only[Vy,Jv,b0,Qa,seval];refine aC Ew.WC ?_;simp only[Qa,seval]
 rw[hsc];have b0:(((0:Nat):Int)==3)=false:=rfl;simp only[Vy,Jv,Qa,seval];refine Qc (QRX P (Zx P 15) (QR P t) t v T) _ ⟨_,_,0,0,0,rfl,rfl,QWo _,⟨(by rfl),(by rfl),(by rfl),(by rfl),(by rfl),(by rfl),(by rfl),(by rfl),(by rfl),(by rfl)⟩,QWo _,QWo _,hTe.symm⟩ ?_;rintro _ st ⟨f,fr,i,a,k,rfl,rfl,hil,⟨h1,h3,h5,h7,h8,h9,h10,h11,m3,m5'⟩,hkl,hal,hi⟩;have m5:=m5';simp only[X3]at m5;simp only[QXb,h5,h11,m5,eE,seval];by_cases hlt:i<v.slots.length
 ·obtain⟨x,his⟩:∃x,v.slots[i]? = some x:=⟨v.slots[i],QWh hlt⟩;have hx:=QWt his;have hgs:=JQ his;have e1:=Qo i _ hlt (by simp only[maxLen];omega);have hdi:v.slots.drop i=x :: v.slots.drop (i+1):=by
   rw[QWY hlt];rw[QWh hlt]at his;cases his;rfl
  rw[hdi]at hi;simp only[Ql hlt,Qa,seval];refine QIP (Zx P 15) (QR P t) t v T hTm (by simp only[maxLen];omega) _ i x his _ _ _ a k ⟨(by exact h1),(by exact h3),(by exact h5),(by exact h7),(by exact h8),(by exact h9),(by exact h10),(by exact h11),m3,m5'⟩ hkl hal hi ?_;clear h1 h3 h5 h7 h8 h9 h10 h11 m3 m5 m5' hkl hal hi;rintro f fr a k ⟨h1,h3,h5,h7,h8,h9,h10,h11,m3,m5'⟩ hkl hal hi;have m5:=m5';simp only[X3]at m5;have a1:=hcw x hx;have hne:=hsne x hx;generalize Kk (Zx P 15) (QR P t) x=z at a1 hi hne;have p1:=HM hi;have p2:=QaQ hi hal;have a3:=z15 z (by omega);have hz:z.length≠0:=fun e=>hne (QYl.1 e)
  have d1:(((z.length:Nat):Int)==0)=false:=by rw[QXY];omega
  have w1:IntKind.i64.wrap ((T.length:Int)-(a:Int))=(T.length:Int)-(a:Int):=by rw[QC];omega
  have d2:decide (((z.length:Nat):Int) > (T.length:Int)-(a:Int))=false:=QX5 (by omega);have w2:IntKind.i64.wrap ((a:Int)+(z.length:Int))=((a+z.length:Nat):Int):=by rw[QC];omega
  have q1:(a≤a+z.length)=True:=eq_true (by omega);have q2:(a+z.length≤T.length)=True:=eq_true p2;have s1:=JA T;simp only[Y3]at a3 p1;rw[e0,ZK x]at a1;simp only[Qg,QXI,Qb,hgs,h1,h3,h5,h11,m3,m5,eE,seval];refine aC a1 ?_;simp only[QXb,d1,w1,d2,w2,Zt,Q1,QXQ,Qg,QXI,q1,q2,s1,p1,QWe,or_true,QXk,h7,h9,Qa,seval];refine aC a3 ?_;simp only[QXb,w2,e1,h9,h11,Qa,seval];exact⟨v.slots.length-(i+1),by omega,_,_,i+1,a+z.length,k,rfl,rfl,hlt,⟨(by exact h1),(by exact h3),(by exact h5),(by exact h7),(by exact h8),(by rfl),(by exact h10),(by rfl),m3,m5'⟩,hkl,p2,by rw[←QWI,hi];exact List.drop_left' rfl⟩
 ·have hdi:v.slots.drop i=[]:=List.drop_eq_nil_of_le (by omega);rw[hdi,Xd]at hi;simp only[QA hlt,Qa,seval];refine QxI v T hTm _ hsr _ _ a k (by exact h3) (by exact h5) (by exact h7) (by exact h8) (by exact h9) (by exact h10) (by rfl) m5' ?_;clear h1 h3 h5 h7 h8 h9 h10 h11 m3 m5 m5';intro f fr h3 h5 h7 h8 h9 h10 m5';have m5:=m5';simp only[X3]at m5;have hl:=congrArg List.length hi;rw[QWV,QWV]at hl;have p1:((T.map R.av).drop a).take (T.length-a)=Y3 (v.raws.drop k):=by
   rw[←List.map_drop,hi,QWO (by rw[QXb,QWV];omega)];rfl
  have p2:((v.raws.map R.av).drop k).take (v.raws.length-k)=Y3 (v.raws.drop k):=by
   rw[←List.map_drop,QWO (by rw[QXb,QWV];omega)];rfl
  have q1:(a≤T.length)=True:=eq_true hal;have q2:(k≤v.raws.length)=True:=eq_true hkl;have s1:=JA T;have s2:=JA v.raws;have a3:=z15 (v.raws.drop k) (by rw[QWV];omega);have z0:((0:Int)==0)=true:=rfl;simp only[z0,Zt,Q1,QXQ,Qg,QXI,q1,q2,s1,s2,p1,p2,QXb,QWe,or_true,QXk,h5,h7,h8,h9,h10,m5,eE,seval];refine aC a3 ?_;simp only[Qa,seval];refine aC Ew.WC ?_;simp only[Qa,seval]

end
end Go.Proofs.YtdhlbgejhcejcaaGreatDoor.Va

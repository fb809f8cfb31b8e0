/- Parts of the proof, in order. -/
import Derived.Test.YtgnfjkkfbcnbfaaGreatDoorMTagdecLimits3
set_option linter.unusedSimpArgs false
namespace Go.Proofs.YtgnfjkkfbcnbfaaGreatDoor.Va
open Go Am Rc Bt Br Up So
theorem Fj {x:V}:∀ {l:List V},x∈l→x.cnt≤Q6 l
 |y :: l,h=>by
  rw[Q6];rcases Qpk.1 h with rfl|h
  ·omega
  ·have:=Fj h;omega
theorem HS {x:V×V}:∀ {l:List (V×V)},x∈l→x.1.cnt+x.2.cnt≤Xd l
 |(a,b) :: l,h=>by
  rw[Xd];rcases Qpk.1 h with rfl|h
  ·dsimp only;omega
  ·have:=HS h;omega
theorem Mf {x:Int×V}:∀ {l:List (Int×V)},x∈l→x.2.cnt≤Q9 l
 |(a,b) :: l,h=>by
  rw[Q9];rcases Qpk.1 h with rfl|h
  ·dsimp only;omega
  ·have:=Mf h;omega
theorem Za (v:V):1≤v.cnt:=by rw[Q1];omega
theorem Fk:∀l:List V,l.length≤Q6 l
 | []=>QnV _
 |x :: l=>by
  have:=Za x;have:=Fk l;simp only[Q6,Qoc];omega
theorem Mg:∀l:List (V×V),2*l.length≤Xd l
 | []=>QnV _
 |(a,b) :: l=>by
  have:=Za a;have:=Za b;have:=Mg l;simp only[Xd,Qoc];omega
theorem Mh:∀l:List (Int×V),l.length≤Q9 l
 | []=>QnV _
 |(a,b) :: l=>by
  have:=Za b;have:=Mh l;simp only[Q9,Qoc];omega
theorem Wi {v x:V}(h:x∈v.list):x.cnt≤v.cnt:=by have:=Fj h;rw[Q1 v];omega
theorem Dr {v:V}{x:V×V}(h:x∈v.pairs):x.1.cnt≤v.cnt:=by have:=HS h;rw[Q1 v];omega
theorem Yk {v:V}{x:V×V}(h:x∈v.pairs):x.2.cnt≤v.cnt:=by have:=HS h;rw[Q1 v];omega
theorem Z9 {v:V}{x:Int×V}(h:x∈v.slots):x.2.cnt≤v.cnt:=by have:=Mf h;rw[Q1 v];omega
theorem ZJ (v:V):v.list.length≤v.cnt:=by have:=Fk v.list;rw[Q1 v];omega
theorem Jr (v:V):v.pairs.length≤v.cnt:=by have:=Mg v.pairs;rw[Q1 v];omega
theorem Zj (v:V):v.slots.length≤v.cnt:=by have:=Mh v.slots;rw[Q1 v];omega
theorem KG (v:V):v.raws.length≤v.cnt:=by rw[Q1 v];omega
section
variable {M:Nat}{P:PL}{m:PG→V→Prop}{nm:PG→V→V}(o:PO)(ho:UO P o)
include ho in
theorem Qlx (hm:∀(t:Int) (g:PG),P.progs[t.toNat]? = some g→0≤t→∀v:V,v.ok M→v.cnt≤1048576→m g v→Qg Tryz.prog 39 [P.av,.int .i64 t,v.av] (nm g v).av)(v:V)(hv:v.ok M)(hc:v.cnt≤1048576)(he:EW m P o v) :
  Qg Tryz.prog 164 [P.av,Qv o,v.av] (Xq nm P o v).av:=by
 have e0:P.av=.agg [.list (P.progs.map Qn),.list (P.enums.map QC)]:=rfl;unfold Xq;by_cases hk:o.kind=10
 ·have b:(o.kind==10)=true:=by simp[hk]
  have he:=he hk;rw[Qn5 hk];obtain⟨t0,t1⟩:=ho.tgt hk;obtain⟨g,hg⟩:∃g,P.progs[o.target.toNat]? = some g:=⟨P.progs[o.target.toNat]'(by omega),QnX (by omega)⟩;have hq:Qk P o.target=g:=by unfold Qk;rw[hg];rfl
  rw[hq]at he ⊢;have h2:=hm o.target g hg t0 v hv hc he;generalize nm g v=z at h2 ⊢;rw[e0,Qc,Qc]at h2;rw[Qc,Qc];refine wF Tryz.func164 ?_;simp only[eK,Tryz.f164,seval];simp only[e0,Qv,PO.cells,b,eE,seval];refine aC h2 ?_;simp only[eE,seval]
 ·have b:(o.kind==10)=false:=by simp[hk]
  rw[Qn4 hk];have h1:=IB v (Wp hv);generalize v.nsc=z at h1 ⊢;rw[Qc,Qc]at h1;rw[Qc,Qc];refine wF Tryz.func164 ?_;simp only[eK,Tryz.f164,seval];simp only[e0,Qv,PO.cells,b,eE,seval];refine aC h1 ?_;simp only[eE,seval]
def NlI (P:PL)(o:PO)(l:List V)(F:V→V)(k:Nat)(st:St):Prop :=
 ∃f fr i g,st=⟨f,[fr],[]⟩∧k=l.length-i∧i≤l.length∧f 3=.ptr 0 3 0∧f 4=.ptr 0 4 0∧f 6=.ptr 0 6 0∧f 7=.ptr 0 7 0∧f 19=.list (l.map V.av)∧f 20=.int .i64 (l.length:Nat)∧f 21=.int .i64 (i:Nat)∧fr 3=.cells [.list (P.progs.map Qn),.list (P.enums.map QC)]∧fr 4=.cells o.cells∧fr 6=.cells [.int .i64 0,.int .u64 0,.str [],.nils,.nils,.nils,.nils]∧fr 7=.cells [.int .i64 11,.int .u64 0,.str [],.vec 0 1100 g 0 i false,.nils,.nils,.nils]∧fr 1100=.vec g 7 ((l.take i).map fun x=>(F x).av)∧∀s∈[9],(fr s).isRow=false
def NpI (P:PL)(o:PO)(T:List (V×V))(F:V×V→V×V)(k:Nat)(st:St):Prop :=
 ∃f fr i g,st=⟨f,[fr],[]⟩∧k=T.length-i∧i≤T.length∧f 3=.ptr 0 3 0∧f 4=.ptr 0 4 0∧f 6=.ptr 0 6 0∧f 10=.ptr 0 10 0∧f 41=.list (T.map V.pav)∧f 42=.int .i64 (T.length:Nat)∧f 43=.int .i64 (i:Nat)∧fr 3=.cells [.list (P.progs.map Qn),.list (P.enums.map QC)]∧fr 4=.cells o.cells∧fr 6=.cells [.int .i64 0,.int .u64 0,.str [],.nils,.nils,.nils,.nils]∧fr 10=.cells [.int .i64 12,.int .u64 0,.str [],.nils,.vec 0 1101 g 0 i false,.nils,.nils]∧fr 1101=.vec g 14 ((T.take i).map fun x=>V.pav (F x))∧∀s∈[12],(fr s).isRow=false
theorem QaY (l:List V)(F:V→V):(l.map fun x=>(F x).av)=(l.map F).map V.av:=by rw[QpO];rfl
theorem AN (l:List (V×V))(F:V×V→V×V):(l.map fun x=>V.pav (F x))=(l.map F).map V.pav:=by rw[QpO];rfl
set_option maxHeartbeats 1000000 in
include ho in
theorem v74 (hel:∀v:V,v.ok M→v.cnt≤1048576→EW m P o v→Qg Tryz.prog 164 [P.av,Qv o,v.av] (Xq nm P o v).av)(v:V)(hv:v.ok M)(hc:v.cnt≤1048576)(he:FW m P o v) :
  Qg Tryz.prog 74 [P.av,Qv o,v.av] (XN nm P o v).av:=by
 have e0:P.av=.agg [.list (P.progs.map Qn),.list (P.enums.map QC)]:=rfl;unfold XN;unfold FW at he;by_cases h4:o.card=4
 ·have b4:(o.card==4)=true:=by simp[h4]
  rw[Qn5 h4]at he;rw[Qn5 h4];have hL:=he;have hlen:=ZJ v;rw[Qc v];generalize hF:Xq nm P o=F at hel ⊢;rw[show(V.mk 11 0 [] (v.list.map F) [] [] []).av=.agg [.int .i64 11,.int .u64 0,.str [],.list ((v.list.map F).map V.av),.list [],.list [],.list []]from Qc _];refine wF Tryz.func74 ?_;simp only[eK,Tryz.f74,seval];simp only[e0,Qv,PO.cells,b4,eE,seval];refine Ku (by simp only[Qa,seval]<;>rfl) rfl (by simp only[Qa,seval]<;>rfl) rfl ?_;simp only[List.set,QoS,eE,seval];refine Qi (NlI P o v.list F) _ ⟨_,_,0,_,rfl,rfl,Qn6 _,rfl,rfl,rfl,rfl,rfl,rfl,rfl,rfl,rfl,rfl,rfl,rfl,by simp<;>rfl⟩ ?_;rintro _ st ⟨f0,fr0,i,g,rfl,rfl,hil,h30,h40,h60,h70,h190,h200,h210,m30,m40,m60,m70,mR0,r9⟩;refine QL (a:=_) [9] r9 ?_;intro f fr hf hm hn9;have h3:f 3=.ptr 0 3 0:=by rw[hf,h30]<;>rfl
  have h4:f 4=.ptr 0 4 0:=by rw[hf,h40]<;>rfl
  have h6:f 6=.ptr 0 6 0:=by rw[hf,h60]<;>rfl
  have h7:f 7=.ptr 0 7 0:=by rw[hf,h70]<;>rfl
  have h19:f 19=.list (v.list.map V.av):=by rw[hf,h190]<;>rfl
  have h20:f 20=.int .i64 (v.list.length:Nat):=by rw[hf,h200]<;>rfl
  have h21:f 21=.int .i64 (i:Nat):=by rw[hf,h210]<;>rfl
  have m3:fr 3=.cells [.list (P.progs.map Qn),.list (P.enums.map QC)]:=by rw[hm 3 (by decide),m30]<;>rfl
  have m4:fr 4=.cells o.cells:=by rw[hm 4 (by decide),m40]<;>rfl
  have m6:fr 6=.cells [.int .i64 0,.int .u64 0,.str [],.nils,.nils,.nils,.nils]:=by rw[hm 6 (by decide),m60]<;>rfl
  have m7:fr 7=.cells [.int .i64 11,.int .u64 0,.str [],.vec 0 1100 g 0 i false,.nils,.nils,.nils]:=by rw[hm 7 (by decide),m70]<;>rfl
  have mR:fr 1100=.vec g 7 ((v.list.take i).map fun x=>(F x).av):=by rw[hm 1100 (by decide),mR0]<;>rfl
  have n9:=hn9 9 (by decide);clear hf hm hn9 h30 h40 h60 h70 h190 h200 h210 m30 m40 m60 m70 mR0 r9;have m4':=m4;simp only[PO.cells]at m4;simp only[h20,h21,Qa,seval];by_cases hlt:i<v.list.length
  ·obtain⟨x,hi⟩:∃x,v.list[i]? = some x:=⟨v.list[i],QnX hlt⟩;have hx:=Qob hi;have hg:=U4 hi;have e1:=Qs i _ hlt (by simp only[maxLen];omega);have c1:=hel x (hv.list x hx) (QnU (Wi hx) hc) (hL x hx);have hti:((v.list.take i).map fun x=>(F x).av).length=i:=by rw[QoS,QoU];omega
   have hts:(v.list.take (i+1)).map (fun x=>(F x).av)=(v.list.take i).map (fun x=>(F x).av)++[(F x).av]:=by rw[QpM,hi];simp
   generalize F x=z at c1 hts;rw[e0,Qc,Qc z]at c1;simp only[Qv,PO.cells]at c1;simp only[QA hlt,Qp,Qpq,Qf,hg,n9,h3,h4,h7,h19,h21,m3,m4,m7,eE,seval];refine aC c1 ?_;refine QO (l:=[z.av]) rfl rfl rfl (by rw[Qc];rfl) ?_;refine QK (site:=1100) (g:=g) (n:=i) (xs:=(v.list.take i).map fun x=>(F x).av) (ys:=[z.av]) rfl mR rfl hti.symm rfl (GM [z]) (by simp only[Qoc,QoT,maxLen];omega) (by simp only[Qoc,QoT];omega) ?_;simp only[h7,h21,m7,e1,eE,seval];exact⟨v.list.length-(i+1),by omega,_,_,i+1,g+1,rfl,rfl,by omega,h3,h4,h6,h7,h19,h20,rfl,m3,m4',m6,rfl,(by rw[hts];exact rfl),by simp<;>rfl⟩
  ·have e:i=v.list.length:=by omega
   subst e;rw[QpC,QaY]at mR;simp only[QH hlt,h6,h7,m6,m7,eE,seval];simp[AV.un,AV.unL,ZE,XO,mR,Qox]
 ·have b4:(o.card==4)=false:=by simp[h4]
  rw[Qn4 h4];by_cases h5:o.card=5
  ·have b5:(o.card==5)=true:=by simp[h5]
   rw[Qn4 h4,Qn5 h5]at he;rw[Qn5 h5];have hE:=he;have hlen:=Jr v;have hk:=ho.key h5;have hkn:=Qcw ho.key h5 fun p hp=>(hE.1 p hp).1
   have cp:=Qlu hk v.pairs (by omega) (fun p hp=>(hE.1 p hp).1) (fun p hp=>Wp (hv.keys p hp)) hE.2;have hperm:(QX o.key v.pairs).Perm v.pairs:=QR _;have hTl:(QX o.key v.pairs).length=v.pairs.length:=hperm.length_eq;have hTm:∀p∈QX o.key v.pairs,p∈v.pairs:=fun p h=>hperm.mem_iff.1 h
   generalize QX o.key v.pairs=T at *;rw[Qc v];generalize hF:(fun p:V×V=>(p.1.nsc,Xq nm P o p.2))=F;rw[show(V.mk 12 0 [] [] (T.map F) [] []).av=.agg [.int .i64 12,.int .u64 0,.str [],.list [],.list ((T.map F).map V.pav),.list [],.list []]from Qc _];refine wF Tryz.func74 ?_;simp only[eK,Tryz.f74,seval];simp only[e0,Qv,PO.cells,b4,b5,eE,seval];refine Ku (by simp only[Qa,seval]<;>rfl) rfl (by simp only[Qa,seval]<;>rfl) rfl ?_;simp only[List.set,eE,seval];refine aC cp ?_;simp only[QoS,Qa,seval];refine Qi (NpI P o T F) _ ⟨_,_,0,_,rfl,rfl,Qn6 _,rfl,rfl,rfl,rfl,rfl,rfl,rfl,rfl,rfl,rfl,rfl,rfl,by simp<;>rfl⟩ ?_;rintro _ st ⟨f0,fr0,i,g,rfl,rfl,hil,h30,h40,h60,h100,h410,h420,h430,m30,m40,m60,m100,mR0,r12⟩;refine QL (a:=_) [12] r12 ?_;intro f fr hf hm hn12;have h3:f 3=.ptr 0 3 0:=by rw[hf,h30]<;>rfl
   have h4:f 4=.ptr 0 4 0:=by rw[hf,h40]<;>rfl
   have h6:f 6=.ptr 0 6 0:=by rw[hf,h60]<;>rfl
   have h10:f 10=.ptr 0 10 0:=by rw[hf,h100]<;>rfl
   have h41:f 41=.list (T.map V.pav):=by rw[hf,h410]<;>rfl
   have h42:f 42=.int .i64 (T.length:Nat):=by rw[hf,h420]<;>rfl
   have h43:f 43=.int .i64 (i:Nat):=by rw[hf,h430]<;>rfl
   have m3:fr 3=.cells [.list (P.progs.map Qn),.list (P.enums.map QC)]:=by rw[hm 3 (by decide),m30]<;>rfl
   have m4:fr 4=.cells o.cells:=by rw[hm 4 (by decide),m40]<;>rfl
   have m6:fr 6=.cells [.int .i64 0,.int .u64 0,.str [],.nils,.nils,.nils,.nils]:=by rw[hm 6 (by decide),m60]<;>rfl
   have m10:fr 10=.cells [.int .i64 12,.int .u64 0,.str [],.nils,.vec 0 1101 g 0 i false,.nils,.nils]:=by rw[hm 10 (by decide),m100]<;>rfl
   have mR:fr 1101=.vec g 14 ((T.take i).map fun x=>V.pav (F x)):=by rw[hm 1101 (by decide),mR0]<;>rfl
   have n12:=hn12 12 (by decide);clear hf hm hn12 h30 h40 h60 h100 h410 h420 h430 m30 m40 m60 m100 mR0 r12;have m4':=m4;simp only[PO.cells]at m4;simp only[h42,h43,Qa,seval];by_cases hlt:i<T.length
   ·obtain⟨x,hi⟩:∃x,T[i]? = some x:=⟨T[i],QnX hlt⟩;have hx:=hTm x (Qob hi);have hg:=J3 hi;have e1:=Qs i _ hlt (by simp only[maxLen];omega);have c0:=IB x.1 (Wp (hv.keys x hx));have c1:=hel x.2 (hv.vals x hx) (QnU (Yk hx) hc) (hE.1 x hx).2;have hti:((T.take i).map fun x=>V.pav (F x)).length=i:=by rw[QoS,QoU];omega
    have hFx:F x=(x.1.nsc,Xq nm P o x.2):=by rw[←hF]
    have hts:(T.take (i+1)).map (fun x=>V.pav (F x))=(T.take i).map (fun x=>V.pav (F x))++[V.pav (x.1.nsc,Xq nm P o x.2)]:=by rw[QpM,hi,←hFx];simp
    generalize x.1.nsc=y at c0 hts;generalize Xq nm P o x.2=z at c1 hts;rw[Qc,Qc y]at c0;rw[e0,Qc,Qc z]at c1;simp only[Qv,PO.cells]at c1;simp only[QA hlt,Qp,Qpq,Qf,hg,n12,h10,h41,h43,m10,eE,seval];refine aC c0 ?_;simp only[Qow,Qoz,QoF,h3,h4,m3,m4,eE,seval];refine aC c1 ?_;simp only[eE,seval];refine QO (l:=[V.pav (y,z)]) rfl rfl rfl (by rw[Z0];rfl) ?_;refine QK (site:=1101) (g:=g) (n:=i) (xs:=(T.take i).map fun x=>V.pav (F x)) (ys:=[V.pav (y,z)]) rfl mR rfl hti.symm rfl (JH [(y,z)]) (by simp only[Qoc,QoT,maxLen];omega) (by simp only[Qoc,QoT];omega) ?_;simp only[h10,h43,m10,e1,eE,seval];exact⟨T.length-(i+1),by omega,_,_,i+1,g+1,rfl,rfl,by omega,h3,h4,h6,h10,h41,h42,rfl,m3,m4',m6,rfl,(by rw[hts];exact rfl),by simp<;>rfl⟩
   ·have e:i=T.length:=by omega
    subst e;rw[QpC,AN]at mR;simp only[QH hlt,h6,h10,m6,m10,eE,seval];simp[AV.un,AV.unL,ZE,XO,mR,Qox]
  ·have b5:(o.card==5)=false:=by simp[h5]
   rw[Qn4 h4,Qn4 h5]at he;rw[Qn4 h5];have c1:=hel v hv hc he;generalize Xq nm P o v=z at c1 ⊢;rw[e0,Qc v,Qc z]at c1;simp only[Qv,PO.cells]at c1;rw[Qc v,Qc z];refine wF Tryz.func74 ?_;simp only[eK,Tryz.f74,seval];simp only[e0,Qv,PO.cells,b4,b5,eE,seval];refine aC c1 ?_;simp only[eE,seval]
end
theorem QfL {ops:List PO}(h:JB ops (KY PO.num)=true):ops.Pairwise fun a b=>a.num<b.num:=by
 have hs:∀i (hi:i+1<ops.length),ops[i].num<ops[i+1].num:=by
  intro i hi;unfold JB at h;have:=Q5.1 h (i+1) hi;rw[Yv (QnX (by omega:i<ops.length)) (QnX hi)]at this;unfold KY at this
  simpa using this
 rw[Qqa];intro i j hi hj hij;obtain⟨d,rfl⟩:∃d,j=i+1+d:=⟨j-(i+1),by omega⟩;clear hij
 induction d with
 |zero=>exact hs i (by omega)
 |succ d ih=>
  have a:=ih (by omega);have b:=hs (i+1+d) (by omega);exact Int.lt_trans a b
theorem Mi {P:PL}(h:ck P=0):DN P=true∧args P=true:=by
 unfold ck at h;split at h
 ·omega
 split at h
 ·omega
 split at h
 ·omega
 rename_i ho;split at h
 ·omega
 split at h
 ·omega
 split at h
 ·omega
 rename_i ha;exact⟨by simpa using ho,by simpa using ha⟩
theorem J4 {P:PL}(h:ck P=0):Zi P:=by
 have ho:=(Mi h).1;unfold DN at ho;simp only[Qol,Qoa]at ho;intro g hg;exact QfL (ho.1.2 g hg)
def Sz (P:PL):Prop:=∀g∈P.progs,∀o∈g.ops,1≤o.card∧o.card≤5
theorem Mj {P:PL}(h:ck P=0):Sz P:=by
 have ha:=(Mi h).2;intro g hg o ho;unfold args at ha;simp only[Qol,Qoa]at ha;have h1:=ha.1 g hg;unfold WM at h1;simp only[Qol,Qoa]at h1;have h2:=(h1.2 o ho).1;unfold K0 at h2;simp only[Qol,Qn1]at h2;exact⟨h2.1.1.1.2,h2.1.1.2⟩
theorem U5 {fr:Nat→Ob}{a b c:Nat}(h1:(fr a).isRow=false)(h2:(fr b).isRow=false)(h3:(fr c).isRow=false):∀s∈[a,b,c],(fr s).isRow=false:=by
 intro s hs;simp only[Qpk,Qqc,or_false]at hs;rcases hs with rfl|rfl|rfl
 ·exact h1
 ·exact h2
 ·exact h3
section
variable (k:Int)(b:Nat)(t:List UInt8)(l p s r:List AV)
theorem w45:Qg Tryz.prog 45 [vo k b t l p s r] (.bool (CC k b t l p s r)):=by
 have hl:=y89 k b t l p s r;simp only[vo]at hl;refine wF Tryz.func45 ?_;simp only[eK,Tryz.f45,seval];simp only[vo,CC,eE,seval];refine aC (LD k) ?_;cases isk k
 ·simp only[Qpu,Qa,seval]
 ·simp only[QpE,eE,seval];cases h1:((b:Int)==0)
  ·simp only[QpG,Qpu,Qa,seval]
  ·cases h2:(t==[])
   ·simp only[h2,QpG,QP,eE,seval]
   ·simp only[h2,Qpb,QP,eE,seval];refine aC hl ?_;simp only[Qa,seval]
theorem Qly (hl:l.length≤140737488351232)(hp:p.length≤140737488351232)(hs:s.length≤140737488351232)(hr:r.length≤140737488351232) :
  Qg Tryz.prog 167 [vo k b t l p s r] (.bool (CC k b t l p s r)):=by
 have hle:=Qe3 k b t l p s r hl hp hs hr;simp only[vo]at hle;refine wF Tryz.func167 ?_;simp only[eK,Tryz.f167,seval];simp only[vo,CC,eE,seval];refine aC (B7 k) ?_;cases isk k
 ·simp only[Qpu,Qa,seval]
 ·simp only[QpE,eE,seval];refine aC hle ?_;cases Ue l p s r
  ·simp only[Qpu,Qa,seval]
  ·cases h1:((b:Int)==0)<;>cases h2:(t==[])<;>cases h3:Zx k<;>simp only[h1,h2,Qpb,QpG,Qog,QP,eE,seval]
theorem w23:Qg Tryz.prog 23 [vo k b t l p s r] (.bool (emp k b t l p s r)):=by
 have hz:=w45 k b t l p s r;simp only[vo]at hz;refine wF Tryz.func23 ?_;simp only[eK,Tryz.f23,seval];simp only[vo,emp,eE,seval];by_cases h1:k=11
 ·subst h1;have e:CC 11 b t l p s r=false:=rfl;have e1:((11:Int)==11)=true:=rfl;have e2:((11:Int)==12)=false:=rfl;simp only[e,e1,e2,QpE,Qpu,Qp0,eE,seval]
 ·have e1:(k==11)=false:=by simp[h1]
  by_cases h2:k=12
  ·subst h2;have e:CC 12 b t l p s r=false:=rfl;have e2:((12:Int)==12)=true:=rfl;simp only[e,e1,e2,QpE,Qpu,Qp0,QpJ,eE,seval]
  ·have e2:(k==12)=false:=by simp[h2]
   simp only[e1,e2,Qpu,QpJ,eE,seval];refine aC hz ?_;simp only[Qa,seval]
theorem w75 (hl:l.length≤140737488351232)(hp:p.length≤140737488351232)(hs:s.length≤140737488351232)(hr:r.length≤140737488351232):Qg Tryz.prog 75 [vo k b t l p s r] (.bool (emp k b t l p s r)):=by
 have hz:=Qly k b t l p s r hl hp hs hr;simp only[vo]at hz;refine wF Tryz.func75 ?_;simp only[eK,Tryz.f75,seval];simp only[vo,emp,eE,seval];cases h1:(k==11)<;>cases h2:((l.length:Int)==0)<;>cases h3:(k==12)<;>cases h4:((p.length:Int)==0)<;>simp only[h2,h3,h4,QpE,Qpu,QpI,QpJ,Qp0,eE,seval]
 all_goals(refine aC hz ?_;simp only[Qa,seval])
end
theorem QhS (v:V)(hc:v.cnt≤1048576):Qg Tryz.prog 75 [v.av] (.bool v.emp):=by
 have h1:=ZJ v;have h2:=Jr v;have h3:=Zj v;have h4:=KG v;rw[Bh];exact w75 _ _ _ _ _ _ _ (by simp;omega) (by simp;omega) (by simp;omega) (by simp;omega)
theorem QhT (v:V):Qg Tryz.prog 23 [v.av] (.bool v.emp):=by
 rw[Bh];exact w23 _ _ _ _ _ _ _
def NgI (P:PL)(K:Nat→List (Int×V))(T:List (Int×V))(t:Nat)(rw':List R)(k:Nat)(st:St):Prop :=
 ∃f fr i g h,st=⟨f,[fr],[]⟩∧k=T.length-i∧i≤T.length∧f 1=.int .i64 (t:Nat)∧f 3=.ptr 0 3 0∧f 6=.ptr 0 6 0∧f 7=.ptr 0 7 0∧f 30=.list (T.map V.sav)∧f 31=.int .i64 (T.length:Nat)∧f 32=.int .i64 (i:Nat)∧fr 3=.cells [.list (P.progs.map Qn),.list (P.enums.map QC)]∧fr 6=.cells [.int .i64 0,.int .u64 0,.str [],.nils,.nils,.nils,.nils]∧fr 7=.cells [.int .i64 10,.int .u64 0,.str [],.nils,.nils,.vec 0 1100 g 0 (K i).length false,.vec 0 1000 h 0 rw'.length false]∧fr 1100=.vec g 8 ((K i).map V.sav)∧fr 1000=.vec h 4 (rw'.map R.av)∧∀s∈[13,10,9],(fr s).isRow=false
section
variable {M:Nat}{P:PL}(hP:P.ok M)
set_option maxHeartbeats 2000000 in
include hP in
theorem v39 (hU:J6 P)(hr:Zi P)(hcd:Sz P):∀(n:Nat) (t:Int) (g:PG),P.progs[t.toNat]? = some g→0≤t→∀v:V,v.ok M→v.cnt≤1048576→MW P n g v→Qg Tryz.prog 39 [P.av,.int .i64 t,v.av] (nrm P n g v).av:=by
 have e0:P.av=.agg [.list (P.progs.map Qn),.list (P.enums.map QC)]:=rfl;intro n
 induction n with
 |zero=>
  intro t g _ _ v _ _ h;exact h.elim
 |succ n ih=>
  intro t g hgt t0 v hv hc h;have hgm:=Qob hgt;have hg:=hP.progs g hgm;have hu:=hU g hgm;have hd:=hr g hgm;obtain⟨s1,s2⟩:=h;have hnel:=fun(o:PO) (ho:o∈g.ops) (x:V) (hx:x.ok M) (hxc:x.cnt≤1048576) (he:EW (MW P n) P o x)=>Qlx o (hu o ho) (fun t g a b v c d e=>ih t g a b v c d e) x hx hxc he
  have hnfl:=fun(o:PO) (ho:o∈g.ops) (x:V) (hx:x.ok M) (hxc:x.cnt≤1048576) (he:FW (MW P n) P o x)=>v74 o (hu o ho) (hnel o ho) x hx hxc he
  have hcn:∀(o:PO) (x:V),(XN (nrm P n) P o x).cnt≤x.cnt:=fun o x=>PJ (fun t v=>Y3 hr n _ (Wo hr t) v) o x
  have lS:=Zj v;have lR:=KG v;have clR:=fun fr hr=>v71 (v.raws.map R.av) fr [] (Yj v.raws) (by rw[QoS];omega) hr
  have csR:=fun g (m:Qj) (hl:Am.Qd m 0 1000=.vec g 4 (v.raws.map R.av))=>Tz.Sx Tg.QhO (by decide) Qlv 0 1000 g (v.raws.map R.av) m hl (ezR v.raws) (by rw[QoS];omega)
  simp only[IA,QoS]at csR;have csl:=v72 v.slots (by omega) s2;have hTp:(Wh v.slots).Perm v.slots:=QR _;have hTl:(Wh v.slots).length=v.slots.length:=hTp.length_eq;have hTm:∀s∈Wh v.slots,s∈v.slots:=fun s h=>hTp.mem_iff.1 h
  have hfin:=It (nrm P n) P hd s2;have hrl:(ZN v.raws).length=v.raws.length:=(QR v.raws).length_eq;generalize Wh v.slots=T at *;obtain⟨ti,hti⟩:=QpH t0;subst hti;rw[Qpq]at hgt;have hga:(P.progs.map Qn)[ti]? = some (.agg g.cells):=by simp[hgt,Qn]
  simp only[PG.cells]at hga;have htl:ti<P.progs.length:=(QnW.1 hgt).1;have d0:decide ((ti:Int)<0)=false:=QpQ (by omega);have d1:decide ((ti:Int)≥(P.progs.length:Int))=false:=QpQ (by omega);have co:=fun n=>T5 g hg.len n
  simp only[Hg]at co;simp only[Qn,PG.cells]at co;show Qg _ _ _ (V.mk 10 0 [] [] [] (g.ops.flatMap (Xg (nrm P n) P v.slots)) (ZN v.raws)).av;rw[←hfin,Qc v];generalize hK:(fun i=>(T.take i).flatMap (Ko (nrm P n) P g))=K;have hK0:K 0=[]:=by rw[←hK];simp
  have hKn:T.flatMap (Ko (nrm P n) P g)=K T.length:=by rw[←hK];simp
  have hKl:∀i,i≤T.length→(K i).length≤i:=by
   intro i hi;rw[←hK];show((T.take i).flatMap _).length≤i;have:∀l:List (Int×V),(l.flatMap (Ko (nrm P n) P g)).length≤l.length:=by
    intro l
    induction l with
    |nil=>exact QnV _
    |cons s l ih=>
     have:(Ko (nrm P n) P g s).length≤1:=by
      unfold Ko;split
      ·simp
      ·unfold JG;split<;>simp
     rw[Qps,QoB,Qoc];omega
   exact QnU (this _) (by rw[QoU];omega)
  rw[hKn,show(V.mk 10 0 [] [] [] (K T.length) (ZN v.raws)).av=.agg [.int .i64 10,.int .u64 0,.str [],.list [],.list [],.list ((K T.length).map V.sav),.list ((ZN v.raws).map R.av)]from Qc _];refine wF Tryz.func39 ?_;simp only[eK,Tryz.f39,seval];simp only[e0,eE,seval];refine Qh (clR _ rfl) (by simp only[Qov,QoZ,Qa,seval]) ?_;simp only[QoS,eE,seval];refine Ku (by simp only[Qa,seval]<;>rfl) rfl (by simp only[Qa,seval]<;>rfl) rfl ?_;simp only[List.set,d0,d1,QoS,eE,seval];refine aC csl ?_;simp only[QoS,Qa,seval];refine Qi (NgI P K T ti v.raws) _ ⟨_,_,0,_,_,rfl,rfl,Qn6 _,rfl,rfl,rfl,rfl,rfl,rfl,rfl,rfl,rfl,(by rw[hK0];exact rfl),(by rw[hK0];exact rfl),rfl,U5 rfl rfl rfl⟩ ?_;rintro _ st ⟨f0,fr0,i,gs,hs,rfl,rfl,hil,h10,h30,h60,h70,h300,h310,h320,m30,m60,m70,mS0,mR0,r13⟩;refine QL (a:=_) [13,10,9] r13 ?_;intro f fr hf hm hn13;have h1:f 1=.int .i64 (ti:Nat):=by rw[hf,h10]<;>rfl
  have h3:f 3=.ptr 0 3 0:=by rw[hf,h30]<;>rfl
  have h6:f 6=.ptr 0 6 0:=by rw[hf,h60]<;>rfl
  have h7:f 7=.ptr 0 7 0:=by rw[hf,h70]<;>rfl
  have h30':f 30=.list (T.map V.sav):=by rw[hf,h300]<;>rfl
  have h31:f 31=.int .i64 (T.length:Nat):=by rw[hf,h310]<;>rfl
  have h32:f 32=.int .i64 (i:Nat):=by rw[hf,h320]<;>rfl
  have m3:fr 3=.cells [.list (P.progs.map Qn),.list (P.enums.map QC)]:=by rw[hm 3 (by decide),m30]<;>rfl
  have m6:fr 6=.cells [.int .i64 0,.int .u64 0,.str [],.nils,.nils,.nils,.nils]:=by rw[hm 6 (by decide),m60]<;>rfl
  have m7:fr 7=.cells [.int .i64 10,.int .u64 0,.str [],.nils,.nils,.vec 0 1100 gs 0 (K i).length false,.vec 0 1000 hs 0 v.raws.length false]:=by rw[hm 7 (by decide),m70]<;>rfl
  have mS:fr 1100=.vec gs 8 ((K i).map V.sav):=by rw[hm 1100 (by decide),mS0]<;>rfl
  have mR:fr 1000=.vec hs 4 (v.raws.map R.av):=by rw[hm 1000 (by decide),mR0]<;>rfl
  have n13:=hn13 13 (by decide);have n10:=hn13 10 (by decide);have n9:=hn13 9 (by decide);clear hf hm hn13 h10 h30 h60 h70 h300 h310 h320 m30 m60 m70 mS0 mR0 r13;simp only[h31,h32,Qa,seval];by_cases hlt:i<T.length
  ·obtain⟨x,hi⟩:∃x,T[i]? = some x:=⟨T[i],QnX hlt⟩;have hx:=hTm x (Qob hi);have hgs:=WR hi;have e1:=Qs i _ hlt (by simp only[maxLen];omega);obtain⟨o,ho,hfo⟩:=s1 x hx;obtain⟨hom,hon⟩:=JO ho;have hcard:=hcd g hgm o hom;have c1:=co x.1;rw[ho]at c1;have hxc:=QnU (Z9 hx) hc;have c2:=hnfl o hom x.2 (hv.slots x hx) hxc hfo;have c3:=QhS (XN (nrm P n) P o x.2) (QnU (hcn o x.2) hxc);have hKs:K (i+1)=K i++JG (nrm P n) P o x:=by
    rw[←hK];show(T.take (i+1)).flatMap _=(T.take i).flatMap _++_;rw[QpM,hi,Qqh];have:Ko (nrm P n) P g x=JG (nrm P n) P o x:=by unfold Ko;rw[ho]
    simp[this]
   have hkO:JG (nrm P n) P o x=if (decide (o.card<3) || !(XN (nrm P n) P o x.2).emp)=true then [(x.1,XN (nrm P n) P o x.2)]else []:=by
    unfold JG;rw[hon]
   have hKi:=hKl i (by omega);rw[hkO]at hKs;clear hkO;generalize XN (nrm P n) P o x.2=z at c2 c3 hKs;rw[e0,Qc x.2,Qc z]at c2;rw[Qc z]at c3;simp only[Qv,PO.cells]at c2;have fin:∀(f':Fr) (fr':Nat→Ob) (gs':Nat),f' 1=.int .i64 (ti:Nat)→f' 3=.ptr 0 3 0→f' 6=.ptr 0 6 0→f' 7=.ptr 0 7 0→f' 30=.list (T.map V.sav)→f' 31=.int .i64 (T.length:Nat)→f' 32=.int .i64 ((i+1:Nat):Int)→fr' 3=.cells [.list (P.progs.map Qn),.list (P.enums.map QC)]→fr' 6=.cells [.int .i64 0,.int .u64 0,.str [],.nils,.nils,.nils,.nils]→fr' 7=.cells [.int .i64 10,.int .u64 0,.str [],.nils,.nils,.vec 0 1100 gs' 0 (K (i+1)).length false,.vec 0 1000 hs 0 v.raws.length false]→fr' 1100=.vec gs' 8 ((K (i+1)).map V.sav)→fr' 1000=.vec hs 4 (v.raws.map R.av)→(∀s∈[13,10,9],(fr' s).isRow=false)→∃k,k<T.length-i∧NgI P K T ti v.raws k ⟨f',[fr'],[]⟩:=by
    intro f' fr' gs' a1 a3 a6 a7 a30 a31 a32 b3 b6 b7 bS bR br;exact⟨T.length-(i+1),by omega,f',fr',i+1,gs',hs,rfl,rfl,by omega,a1,a3,a6,a7,a30,a31,a32,b3,b6,b7,bS,bR,br⟩
   simp only[QA hlt,Qp,Qpq,Qf,hgs,hga,n9,h1,h3,h30',h32,m3,eE,seval];refine aC c1 ?_;simp only[Qo8,QpR,Qv,PO.cells,n10,eE,seval];rcases(by omega:o.card=1∨o.card=2∨o.card=3∨o.card=4∨o.card=5)with cc|cc|cc|cc|cc
   ·have b3:(o.card==3)=false:=by simp[cc]
    have b4:(o.card==4)=false:=by simp[cc]
    have b5:(o.card==5)=false:=by simp[cc]
    rw[Qn5 (by simp[cc])]at hKs;simp only[b3,b4,b5,Qow,Qoz,QoF,h3,m3,eE,seval];refine aC c2 ?_;simp only[n13,h7,m7,eE,seval];refine QO (l:=[V.sav (x.1,z)]) rfl rfl rfl (by rw[Z1];rfl) ?_;refine QK (site:=1100) (g:=gs) (n:=(K i).length) (xs:=(K i).map V.sav) (ys:=[V.sav (x.1,z)]) rfl mS rfl (by rw[QoS]) rfl (WX [(x.1,z)]) (by simp only[Qoc,QoT,maxLen];omega) (by simp only[Qoc,QoT];omega) ?_;simp only[h7,h32,m7,e1,eE,seval];exact fin _ _ (gs+1) h1 h3 h6 h7 h30' h31 rfl m3 m6 (by rw[hKs,QoB];exact rfl) (by rw[hKs,QpL];exact rfl) mR (U5 rfl rfl rfl)
   ·have b3:(o.card==3)=false:=by simp[cc]
    have b4:(o.card==4)=false:=by simp[cc]
    have b5:(o.card==5)=false:=by simp[cc]
    rw[Qn5 (by simp[cc])]at hKs;simp only[b3,b4,b5,Qow,Qoz,QoF,h3,m3,eE,seval];refine aC c2 ?_;simp only[n13,h7,m7,eE,seval];refine QO (l:=[V.sav (x.1,z)]) rfl rfl rfl (by rw[Z1];rfl) ?_;refine QK (site:=1100) (g:=gs) (n:=(K i).length) (xs:=(K i).map V.sav) (ys:=[V.sav (x.1,z)]) rfl mS rfl (by rw[QoS]) rfl (WX [(x.1,z)]) (by simp only[Qoc,QoT,maxLen];omega) (by simp only[Qoc,QoT];omega) ?_;simp only[h7,h32,m7,e1,eE,seval];exact fin _ _ (gs+1) h1 h3 h6 h7 h30' h31 rfl m3 m6 (by rw[hKs,QoB];exact rfl) (by rw[hKs,QpL];exact rfl) mR (U5 rfl rfl rfl)
   ·have b3:(o.card==3)=true:=by simp[cc]
    have b4:(o.card==4)=false:=by simp[cc]
    have b5:(o.card==5)=false:=by simp[cc]
    have l3:decide (o.card<3)=false:=by simp[cc]
    rw[l3,QpJ]at hKs;simp only[b3,Qow,Qoz,QoF,h3,m3,eE,seval];refine aC c2 ?_;simp only[n13,eE,seval];refine aC c3 ?_;cases hz:z.emp
    ·rw[hz,Qn5 (show(!false)=true from rfl)]at hKs;simp only[h7,m7,eE,seval];refine QO (l:=[V.sav (x.1,z)]) rfl rfl rfl (by rw[Z1];rfl) ?_;refine QK (site:=1100) (g:=gs) (n:=(K i).length) (xs:=(K i).map V.sav) (ys:=[V.sav (x.1,z)]) rfl mS rfl (by rw[QoS]) rfl (WX [(x.1,z)]) (by simp only[Qoc,QoT,maxLen];omega) (by simp only[Qoc,QoT];omega) ?_;simp only[h7,h32,m7,e1,eE,seval];exact fin _ _ (gs+1) h1 h3 h6 h7 h30' h31 rfl m3 m6 (by rw[hKs,QoB];exact rfl) (by rw[hKs,QpL];exact rfl) mR (U5 rfl rfl rfl)
    ·rw[hz,Qn4 (by simp),Qo1]at hKs;simp only[h32,e1,Qa,seval];exact fin _ _ gs h1 h3 h6 h7 h30' h31 rfl m3 m6 (by rw[hKs];exact m7) (by rw[hKs];exact mS) mR (U5 rfl rfl rfl)
   ·have b3:(o.card==3)=false:=by simp[cc]
    have b4:(o.card==4)=true:=by simp[cc]
    have b5:(o.card==5)=false:=by simp[cc]
    have l3:decide (o.card<3)=false:=by simp[cc]
    rw[l3,QpJ]at hKs;simp only[b3,b4,Qow,Qoz,QoF,h3,m3,eE,seval];refine aC c2 ?_;simp only[n13,eE,seval];refine aC c3 ?_;cases hz:z.emp
    ·rw[hz,Qn5 (show(!false)=true from rfl)]at hKs;simp only[h7,m7,eE,seval];refine QO (l:=[V.sav (x.1,z)]) rfl rfl rfl (by rw[Z1];rfl) ?_;refine QK (site:=1100) (g:=gs) (n:=(K i).length) (xs:=(K i).map V.sav) (ys:=[V.sav (x.1,z)]) rfl mS rfl (by rw[QoS]) rfl (WX [(x.1,z)]) (by simp only[Qoc,QoT,maxLen];omega) (by simp only[Qoc,QoT];omega) ?_;simp only[h7,h32,m7,e1,eE,seval];exact fin _ _ (gs+1) h1 h3 h6 h7 h30' h31 rfl m3 m6 (by rw[hKs,QoB];exact rfl) (by rw[hKs,QpL];exact rfl) mR (U5 rfl rfl rfl)
    ·rw[hz,Qn4 (by simp),Qo1]at hKs;simp only[h32,e1,Qa,seval];exact fin _ _ gs h1 h3 h6 h7 h30' h31 rfl m3 m6 (by rw[hKs];exact m7) (by rw[hKs];exact mS) mR (U5 rfl rfl rfl)
   ·have b3:(o.card==3)=false:=by simp[cc]
    have b4:(o.card==4)=false:=by simp[cc]
    have b5:(o.card==5)=true:=by simp[cc]
    have l3:decide (o.card<3)=false:=by simp[cc]
    rw[l3,QpJ]at hKs;simp only[b3,b4,b5,Qow,Qoz,QoF,h3,m3,eE,seval];refine aC c2 ?_;simp only[n13,eE,seval];refine aC c3 ?_;cases hz:z.emp
    ·rw[hz,Qn5 (show(!false)=true from rfl)]at hKs;simp only[h7,m7,eE,seval];refine QO (l:=[V.sav (x.1,z)]) rfl rfl rfl (by rw[Z1];rfl) ?_;refine QK (site:=1100) (g:=gs) (n:=(K i).length) (xs:=(K i).map V.sav) (ys:=[V.sav (x.1,z)]) rfl mS rfl (by rw[QoS]) rfl (WX [(x.1,z)]) (by simp only[Qoc,QoT,maxLen];omega) (by simp only[Qoc,QoT];omega) ?_;simp only[h7,h32,m7,e1,eE,seval];exact fin _ _ (gs+1) h1 h3 h6 h7 h30' h31 rfl m3 m6 (by rw[hKs,QoB];exact rfl) (by rw[hKs,QpL];exact rfl) mR (U5 rfl rfl rfl)
    ·rw[hz,Qn4 (by simp),Qo1]at hKs;simp only[h32,e1,Qa,seval];exact fin _ _ gs h1 h3 h6 h7 h30' h31 rfl m3 m6 (by rw[hKs];exact m7) (by rw[hKs];exact mS) mR (U5 rfl rfl rfl)
  ·have e:i=T.length:=by omega
   subst e;simp only[QH hlt,h7,m7,eE,seval];refine Qh (csR _ _ (by simp only[mR,TB,seval]<;>rfl)) (by simp only[Qov,QoZ,Qa,seval]) ?_;simp only[h6,h7,m6,m7,eE,seval];simp[AV.un,AV.unL,ZE,XO,mS,Qox,hrl]
end
end Go.Proofs.YtgnfjkkfbcnbfaaGreatDoor.Va
namespace Go.Proofs.YtgnfjkkfbcnbfaaGreatDoor.Va
open Go Am Rc Bt Br Up
def vv (k:Int)(b:Nat)(t:List UInt8)(l p s r:List AV):AV:=.agg [.int .i64 k,.int .u64 (b:Nat),.str t,.list l,.list p,.list s,.list r]
section
variable (k:Int)(b:Nat)(hb:b<18446744073709551616)(t:List UInt8)(l p s r:List AV)
include hb
theorem Qlz:Qg Tryz.prog 166 [vv k b t l p s r] (vv k (Xu k b) t l p s r):=by
 refine wF Tryz.func166 ?_;simp only[eK,Tryz.f166,seval];simp only[vv,eE,seval];by_cases hk:k=6
 ·have b0:(k==6)=true:=by simp[hk]
  simp only[b0,eE,seval];refine aC (QkO b hb) ?_;simp only[CJ,Qa,seval];by_cases hc:Yy b=0
  ·simp only[hc,Xu,hk,decide_true,and_self,splice,Qow,Qo6,Qoz,QoF,Qoj,Qok,Qoc,QoT,eE,seval]
   try rfl
  ·simp only[hc,Xu,decide_false,and_false,eE,seval]
 ·have b0:(k==6)=false:=by simp[hk]
  simp only[b0,Xu,hk,false_and,eE,seval]
def Q7:R :=
 if k=1∨k=4∨k=5∨k=9 then⟨0,0,b,[]⟩else if k=2∨k=3 then⟨0,1,(UN (IntKind.i64.wrap (b:Int))).toNat,[]⟩
 else if k=6 then⟨0,2,Xu k b,[]⟩else if k=7∨k=8 then⟨0,3,0,t⟩else zr
theorem QlA:Qg Tryz.prog 223 [vv k b t l p s r] (Q7 k b t).av:=by
  have hn:=Qlz k b hb t l p s r;simp only[vv]at hn;have hw0 : -9223372036854775808≤IntKind.i64.wrap (b:Int):=by rw[Qz];omega
  have hw1:IntKind.i64.wrap (b:Int)<9223372036854775808:=by rw[Qz];omega
  have hz:=Qlc (IntKind.i64.wrap (b:Int)) hw0 hw1;have hzn:(((UN (IntKind.i64.wrap (b:Int))).toNat:Nat):Int)=UN (IntKind.i64.wrap (b:Int)):=Int.toNat_of_nonneg (HN _);refine wF Tryz.func223 ?_;simp only[eK,Tryz.f223,seval];simp only[vv,eE,seval];by_cases h1:k=1∨k=4∨k=5∨k=9
  · have hs:Q7 k b t=⟨0,0,b,[]⟩:=by unfold Q7;rw[Qn5 h1]
    rcases h1 with rfl|rfl|rfl|rfl<;>simp only[hs,R.av,seval,splice,Qow,Qo6,Qoz,QoF,Qoj,Qok,Qoc,QoT,eE]<;>rfl
  have hk1:(k==1)=false:=by simp;omega
  have hk4:(k==4)=false:=by simp;omega
  have hk5:(k==5)=false:=by simp;omega
  have hk9:(k==9)=false:=by simp;omega
  by_cases h2:k=2∨k=3
  · have hs:Q7 k b t=⟨0,1,(UN (IntKind.i64.wrap (b:Int))).toNat,[]⟩:=by unfold Q7;rw[Qn4 h1,Qn5 h2]
    rcases h2 with rfl|rfl <;>
      (simp only[seval,eE]
       refine aC hz ?_;simp only[hs,R.av,hzn,splice,Qow,Qo6,Qoz,QoF,Qoj,Qok,Qoc,QoT,eE,seval])
  have hk2:(k==2)=false:=by simp;omega
  have hk3:(k==3)=false:=by simp;omega
  by_cases h6:k=6
  · have hs:Q7 k b t=⟨0,2,Xu k b,[]⟩:=by unfold Q7;rw[Qn4 h1,Qn4 h2,Qn5 h6]
    have b6:(k==6)=true:=by simp[h6]
    simp only[hk1,hk4,hk5,hk9,hk2,hk3,b6,Qow,QoF,Qoc,QoT,eE,seval];refine aC hn ?_;simp only[hs,R.av,splice,Qow,Qo6,Qoz,QoF,Qoj,Qok,Qoc,QoT,eE,seval]
  have hk6:(k==6)=false:=by simp;omega
  by_cases h7:k=7∨k=8
  · have hs:Q7 k b t=⟨0,3,0,t⟩:=by unfold Q7;rw[Qn4 h1,Qn4 h2,Qn4 h6,Qn5 h7]
    rcases h7 with rfl|rfl<;>simp only[hs,R.av,seval,splice,Qow,Qo6,Qoz,QoF,Qoj,Qok,Qoc,QoT,eE]<;>rfl
  have hk7:(k==7)=false:=by simp;omega
  have hk8:(k==8)=false:=by simp;omega
  have hs:Q7 k b t=zr:=by unfold Q7;rw[Qn4 h1,Qn4 h2,Qn4 h6,Qn4 h7]
  simp only[hk1,hk4,hk5,hk9,hk2,hk3,hk6,hk7,hk8,hs,zr,R.av,splice,Qow,Qo6,Qoz,QoF,Qok,Qoc,QoT,eE,seval]
  try rfl
end
end Go.Proofs.YtgnfjkkfbcnbfaaGreatDoor.Va
namespace Go.Proofs.YtgnfjkkfbcnbfaaGreatDoor.Va
open Go Am Rc Bt Vp Cp Up
structure ScanS (s:List UInt8)(l:L)(c:C)(acc:List R):Prop where
 len:c.d.length=s.length
 all:Qle s l=(if (sg c.left.toNat c).2=0 then(acc++(sg c.left.toNat c).1,0)else([],(sg c.left.toNat c).2))
 acc:(acc.length:Int)+c.left≤s.length
end Go.Proofs.YtgnfjkkfbcnbfaaGreatDoor.Va
namespace Go.Proofs.YtgnfjkkfbcnbfaaGreatDoor.Va
open Go Am Rc Bt Vp Cp
def QfM (u:Nat)(k:Nat)(st:St):Prop :=
 ∃f fr i,st=⟨f,[fr],[]⟩∧k=8-i∧i≤8∧f 0=.int .u64 (u:Nat)∧f 3=.vec 0 5 1 0 8 false∧f 7=.int .i64 8∧f 8=.int .i64 (i:Nat)∧fr 5=.vec 1 1 (Qu (fx i u)++List.replicate (8-i) (AV.int .u8 0))
theorem QcH (u i:Nat)(hi:i<8):IntKind.u8.wrap ((u:Int).fdiv (2 ^ min (8*i) 64))=((UInt8.ofNat (u / 256 ^ i % 256)).toNat:Int):=by
 have hp:(256:Nat) ^ i=2 ^ (8*i):=by rw[Nat.pow_mul]
 rw[Qpe (by omega),Qqf _ (Int.le_of_lt (Int.pow_pos (by decide))),toNat_ofNat _ (Nat.mod_lt _ (by decide)),hp,wu8];have:(u:Int) / 2 ^ (8*i)=((u / 2 ^ (8*i):Nat):Int):=by push_cast;rfl
 rw[this];omega
theorem c83 (u:Nat):Qg Tryz.prog 83 [.int .u64 u] (.str (fx 8 u)):=by
 refine wF Tryz.func83 ?_;simp only[eK,Tryz.f83,seval];simp only[Qa,seval];refine G9 (n:=8) (k:=8) rfl rfl (QnV _) (by decide) (by decide) rfl ?_;simp only[eE,seval];refine Qi (QfM u) 8 ?_ ?_
 ·exact⟨_,_,0,rfl,rfl,by omega,rfl,rfl,rfl,rfl,rfl⟩
 rintro n st ⟨f,fr,i,rfl,rfl,hi,h0,h3,h7,h8,m5⟩;simp only[h7,h8,Qa,seval];have hlen:(Qu (fx i u)).length=i:=by simp[Qu,KD]
 by_cases hlt:i<8
 ·have d0:decide ((i:Int)<8)=true:=by simp;omega
  have e0:IntKind.i64.wrap (8*(i:Int))=((8*i:Nat):Int):=by rw[Qz];omega
  have n0:(0≤((8*i:Nat):Int))=True:=eq_true (by omega);have n1:(0≤(i:Int))=True:=by simp
  have n2:(i<8)=True:=eq_true hlt;have e1:IntKind.i64.wrap ((i:Int)+1)=((i+1:Nat):Int):=by rw[Qz];omega
  have hb:=QcH u i hlt;obtain⟨j,hj⟩:∃j,8-i=j+1:=⟨7-i,by omega⟩;have hget:(Qu (fx i u)++List.replicate (8-i) (AV.int .u8 0))[0+i]? = some (.int .u8 0):=by
   rw[Qom,Qpp (by omega),hlen,Nat.sub_self,hj];rfl
  have hset:(Qu (fx i u)++List.replicate (8-i) (AV.int .u8 0)).set (0+i) (AV.int .u8 ((UInt8.ofNat (u / 256 ^ i % 256)).toNat:Int))=Qu (fx (i+1) u)++List.replicate (8-(i+1)) (AV.int .u8 0):=by
   rw[Qom,Qcx,List.set_append_right _ _ (by omega),hlen,Nat.sub_self,hj,show 8-(i+1)=j by omega];simp[Qu,List.replicate_succ]
  simp only[d0,e0,n0,n1,n2,e1,hb,Qpq,Qf,hget,JI,AV.rfL,AV.rf,hset,h0,h3,h8,m5,eE,seval];exact⟨8-(i+1),by omega,_,_,i+1,rfl,rfl,by omega,by simp only[h0,Qa,seval],by simp only[h3,Qa,seval],by simp only[h7,Qa,seval],by simp only[Qa,seval],by simp only[Qa,seval]⟩
 ·have hi8:i=8:=by omega
  subst hi8;have d0:decide (((8:Nat):Int)<8)=false:=rfl;rw[Nat.sub_self,List.replicate_zero,Qo1]at m5;have he:=UB (m:=[]) (fr:=fr) (site:=5) (g:=1) (sz:=1) (n:=8) (q:=false) m5 (by simp[Qu,KD]);have hbo:bytesOf (Qu (fx 8 u))=some (fx 8 u):=YU _;simp only[he,hbo,h3,Qa,seval]
open Up
def valid (f:R):Bool:=(ZR f.num f.wire).2==0&&(if Zb f.wire then f.data==[]else f.bits==0)
theorem QcI (n:Nat):(((n:Nat):Int)==0)=(n==0):=by
 by_cases h:n=0
 ·subst h;rfl
 ·rw[QpK.2 h,QpK.2 (by omega)]
theorem c80 (f:R):Qg Tryz.prog 80 [f.av] (.bool (valid f)):=by
 refine wF Tryz.func80 ?_;simp only[eK,Tryz.f80,seval];simp only[R.av,eE,seval];refine aC (c81 f.num f.wire) ?_;unfold valid;generalize ZR f.num f.wire=t;obtain⟨s,e⟩:=t;simp only[Sf,Qa,seval];by_cases he:e=0
 ·subst he;simp only[eE,seval];refine aC (c84 f.wire) ?_;cases hn:Zb f.wire with
  |true=>
   simp only[QP,Qo7,eE,seval]
  |false=>
   simp only[QcI,Qo7,eE,seval]
 ·simp only[Xb he,Qa,seval];simp[he]
end Go.Proofs.YtgnfjkkfbcnbfaaGreatDoor.Va
namespace Go.Proofs.YtgnfjkkfbcnbfaaGreatDoor.Va
open Go Am Rc Bt
theorem QlB (p v:AV)(h fr:Nat→Ob)(m:Qj)(hs:fr 2124=.cells [p,v])(hp:p=.nilp∨p=.ptr 0 2124 0) :
  Qe Tryz.prog 175 [.ptr 1 2124 0] (h :: fr :: m) fun x m1=>x=.tup []∧m1=h :: QI fr 2124 (.cells [.ptr 0 2124 0,v]) :: m:=by
 refine wG Tryz.func175 ?_;simp only[eK,Tryz.f175,seval];rcases hp with rfl|rfl
 ·simp only[hs,RR.evL,eE,seval]
 ·simp only[hs,RR.evL,Qbi _ _ _ hs,eE,seval]
structure Bld (fr:Nat→Ob)(bs:List UInt8):Prop where
 mk ::
 cell:∃p g,fr 2124=.cells [p,.vec 0 2005 g 0 bs.length false]∧fr 2005=.vec g 1 (Qu bs)∧(p=.nilp∨p=.ptr 0 2124 0)
def WY (fr:Nat→Ob)(g:Nat)(bs:List UInt8):Nat→Ob :=
 QI (QI fr 2005 (.vec g 1 (Qu bs))) 2124 (.cells [.ptr 0 2124 0,.vec 0 2005 g 0 bs.length false])
theorem YD (fr:Nat→Ob)(g:Nat)(bs:List UInt8):Bld (WY fr g bs) bs :=
 ⟨_,g,by rw[WY,Q4],by rw[WY,Q8 _ _ (by decide),Q4],.inr rfl⟩
theorem Uo {fr:Nat→Ob}{g:Nat}{bs:List UInt8}{s:Nat}(h1:s≠2005)(h2:s≠2124):WY fr g bs s=fr s:=by
 rw[WY,Q8 _ _ h2,Q8 _ _ h1]
theorem AO (bs t:List UInt8)(fr:Nat→Ob)(m:Qj)(h:Bld fr bs)(hl:bs.length+t.length≤140737488355328) :
  ∃g,Qe Tryz.prog 82 [.ptr 0 2124 0,.str t] (fr :: m) fun x m1=>x=.tup [.int .i64 (t.length:Int),.nili]∧m1=WY fr g (bs++t) :: m:=by
 obtain⟨p,g,h1,h2,h3⟩:=h.cell;refine⟨g+1,?_⟩;refine wG Tryz.func82 ?_;simp only[eK,Tryz.f82,seval];simp only[Qa,seval];refine Qh (QlB p _ _ fr m h1 h3) rfl ?_;simp only[h1,eE,seval];refine Gn (xs:=Qu bs) rfl (by simp only[h2,eE,seval]) rfl (by simp[Qu]) rfl hl ?_;have hb:Qu bs++Qu t=Qu (bs++t):=by simp[Qu]
 have hn:bs.length+t.length=(bs++t).length:=by simp
 simp only[h1,hb,hn,eE,seval];rw[VY _ _ _ _ _ (by decide),Da,VY _ _ _ _ _ (by decide),WY]
def Vu (fr:Nat→Ob)(bs:List UInt8):Nat→Ob :=
 if bs.length=0 then fr else match fr 2005 with
  |.vec g _ _=>QI fr 2005 (.vec (g+1) 1 [])
  |_=>fr
theorem c86 (bs:List UInt8)(fr:Nat→Ob)(m:Qj)(h:Bld fr bs)(hl:bs.length≤140737488355328) :
  Qe Tryz.prog 86 [.ptr 0 2124 0] (fr :: m) fun x m1=>x=.str bs∧m1=Vu fr bs :: m:=by
 obtain⟨p,g,h1,h2,h3⟩:=h.cell;refine wG Tryz.func86 ?_;simp only[eK,Tryz.f86,seval];simp only[h1,eE,seval];refine⟨1,2005,g,bs.length,1,Qu bs,by decide,rfl,h2,?_⟩;by_cases h0:bs.length=0
 ·have hb:bs=[]:=Qo2 h0;subst hb;simp only[Ql,h1,h2,QoT,Int.natCast_zero,eE,seval];refine .inl ⟨rfl,rfl,?_⟩;simp only[Ql,Vu,QoT,Qa,seval]
 ·simp only[h0,Ql,h1,h2,eE,seval];refine .inr ⟨1,g,bs.length,Qu bs,bs,rfl,rfl,h2,by simp[Qu],h0,Qox (by simp[Qu]),?_⟩;simp only[h0,Ql,h2,Vu,eE,seval]
open Vp Cp Up
def body (f:R):List UInt8:=if f.wire=2 then fx 8 f.bits else if Zb f.wire then Vp.put f.bits else Vp.put f.data.length++f.data
def ZS (f:R):List UInt8:=if valid f then(ZR f.num f.wire).1++body f else []
def QY (l:List R):List UInt8:=l.flatMap ZS
theorem Bld.drop {fr:Nat→Ob}{bs:List UInt8}(h:Bld fr bs):Bld (QI (fun i=>(fr i).scrub 5) 5 .none) bs:=by
 obtain⟨p,g,h1,h2,h3⟩:=h.cell;refine⟨p,g,?_,?_,h3⟩
 ·rw[Q8 _ _ (by decide),h1];rcases h3 with rfl|rfl<;>rfl
 ·rw[Q8 _ _ (by decide),h2];rfl
theorem Bld.put {fr:Nat→Ob}{bs:List UInt8}(h:Bld fr bs)(o:Ob):Bld (QI fr 5 o) bs:=by
 obtain⟨p,g,h1,h2,h3⟩:=h.cell;exact⟨p,g,by rw[Q8 _ _ (by decide)];exact h1,by rw[Q8 _ _ (by decide)];exact h2,h3⟩
def QaZ (l:List R)(k:Nat)(st:St):Prop :=
 ∃f fr i,st=⟨f,[fr],[]⟩∧k=l.length-i∧i≤l.length∧f 3=.ptr 0 2124 0∧f 8=.list (Bk l)∧f 9=.int .i64 (l.length:Int)∧f 10=.int .i64 (i:Nat)∧(fr 5).isRow=false∧Bld fr (QY (l.take i))
theorem N4 (l:List R)(i:Nat)(fd:R)(h:l[i]? = some fd):QY (l.take (i+1))=QY (l.take i)++ZS fd:=by
 obtain⟨hi,e⟩:=QnW.1 h;rw[Qoh hi,e];simp[QY]
theorem QcJ (l:List R)(i:Nat)(fd:R)(h:l[i]? = some fd):(QY (l.take i)).length+(ZS fd).length≤(QY l).length:=by
 have e:QY l=QY (l.take (i+1))++QY (l.drop (i+1)):=by
  unfold QY;rw[←Qqh,Qpf]
 rw[e,N4 l i fd h];simp
theorem c41 (l:List R)(hb:∀fd∈l,fd.bits<18446744073709551616∧fd.data.length<9223372036854775807)(hn:l.length<9223372036854775807)(hl:(QY l).length≤140737488355328):Qg Tryz.prog 41 [.list (Bk l)] (.str (QY l)):=by
 refine wF Tryz.func41 ?_;simp only[eK,Tryz.f41,seval];simp only[eE,seval];refine Ku rfl rfl rfl rfl ?_;simp only[QcB,Qa,seval];refine Qi (QaZ l) _ ⟨_,_,0,rfl,rfl,Qn6 _,rfl,rfl,rfl,rfl,rfl,?_⟩ ?_
 ·exact⟨.nilp,1,rfl,rfl,.inl rfl⟩
 rintro n st ⟨f,fr,i,rfl,rfl,hi,h3,h8,h9,h10,m5,hB⟩;simp only[h9,h10,m5,Qa,seval];by_cases hlt:i<l.length
 ·obtain⟨fd,hfd⟩:∃fd,l[i]? = some fd:=⟨l[i],QnX hlt⟩;have hmem:=Qob hfd;obtain⟨hb1,hb2⟩:=hb fd hmem;have hfa:(Bk l)[i]? = some fd.av:=by simp[Bk,hfd]
  have hps:=N4 l i fd hfd;have hple:=QcJ l i fd hfd;have d0:decide ((i:Int)<(l.length:Int))=true:=by simp;omega
  have n0:(0≤(i:Int))=True:=by simp
  have e1:IntKind.i64.wrap ((i:Int)+1)=((i+1:Nat):Int):=by rw[Qz];omega
  -- how a round ends
  have fin:∀(f':Fr) (fr':Nat→Ob) (bs':List UInt8),f' 3=.ptr 0 2124 0→f' 8=.list (Bk l)→f' 9=.int .i64 (l.length:Int)→f' 10=.int .i64 (((i+1:Nat):Nat):Int)→(fr' 5).isRow=false→Bld fr' bs'→bs'=QY (l.take i)++ZS fd→∃k,k<l.length-i∧QaZ l k ⟨f',[fr'],[]⟩:=by
   intro f' fr' bs' g1 g2 g3 g4 g5 g6 g7;exact⟨l.length-(i+1),by omega,f',fr',i+1,rfl,rfl,by omega,g1,g2,g3,g4,g5,by rw[hps,←g7];exact g6⟩
  have hB1:=(hB.drop).put (.cells [.int .i64 fd.num,.int .i64 fd.wire,.int .u64 (fd.bits:Nat),.str fd.data]);rw[Da]at hB1;simp only[d0,n0,Qpq,Qf,hfa,R.av,h8,h10,eE,seval];refine aC (c80 fd) ?_;cases hv:valid fd with
  |false=>
   simp only[e1,h10,Qa,seval];refine fin _ _ _ ?_ ?_ ?_ ?_ ?_ hB1 ?_
   ·simp only[h3,Qa,seval]
   ·simp only[h8,Qa,seval]
   ·simp only[h9,Qa,seval]
   ·simp only[Qa,seval]
   ·simp only[Qa,seval]
   ·simp[ZS,hv]
  |true=>
   simp only[eE,seval];refine aC (c81 fd.num fd.wire) ?_;simp only[Sf,Qa,seval];have hp:ZS fd=(ZR fd.num fd.wire).1++body fd:=by simp[ZS,hv]
   have hpl:=congrArg List.length hp;rw[QoB]at hpl;have hbl:∀x:Nat,x≤(body fd).length→(QY (l.take i)).length+(ZR fd.num fd.wire).1.length+x≤140737488355328:=by intro x hx;omega
   have hbody:body fd=if fd.wire=2 then fx 8 fd.bits else if Zb fd.wire then Vp.put fd.bits else Vp.put fd.data.length++fd.data:=rfl
   obtain⟨g1,hw1⟩:=AO (QY (l.take i)) (ZR fd.num fd.wire).1 _ [] hB1 (by have:=hbl 0 (by omega);omega);refine Qh hw1 (by simp only[Qov,h3,Qa,seval]) ?_;have B2:=YD (QI (fun i=>(fr i).scrub 5) 5 (.cells [.int .i64 fd.num,.int .i64 fd.wire,.int .u64 (fd.bits:Nat),.str fd.data])) g1 (QY (l.take i)++(ZR fd.num fd.wire).1);have w5:WY (QI (fun i=>(fr i).scrub 5) 5 (.cells [.int .i64 fd.num,.int .i64 fd.wire,.int .u64 (fd.bits:Nat),.str fd.data])) g1 (QY (l.take i)++(ZR fd.num fd.wire).1) 5=.cells [.int .i64 fd.num,.int .i64 fd.wire,.int .u64 (fd.bits:Nat),.str fd.data]:=by
    rw[Uo (by decide) (by decide),Q4]
   have hlen2:(QY (l.take i)++(ZR fd.num fd.wire).1).length=(QY (l.take i)).length+(ZR fd.num fd.wire).1.length:=by simp
   generalize hfr2:WY (QI (fun i=>(fr i).scrub 5) 5 (.cells [.int .i64 fd.num,.int .i64 fd.wire,.int .u64 (fd.bits:Nat),.str fd.data])) g1 (QY (l.take i)++(ZR fd.num fd.wire).1)=fr2 at B2 w5;simp only[w5,eE,seval];by_cases w2:fd.wire=2
   ·have dw:(fd.wire==2)=true:=by simpa using w2
    have hbo:body fd=fx 8 fd.bits:=by rw[hbody,Qn5 w2]
    simp only[dw,w5,eE,seval];refine aC (c83 fd.bits) ?_;obtain⟨g2,hw2⟩:=AO _ (fx 8 fd.bits) _ [] B2 (by rw[hlen2];exact hbl _ (by rw[hbo];exact QnV _));refine Qh hw2 (by simp only[Qov,h3,Qa,seval]) ?_;simp only[e1,h10,Qa,seval];refine fin _ _ _ ?_ ?_ ?_ ?_ ?_ (YD _ _ _) ?_
    ·simp only[h3,Qa,seval]
    ·simp only[h8,Qa,seval]
    ·simp only[h9,Qa,seval]
    ·simp only[Qa,seval]
    ·rw[Uo (by decide) (by decide),w5]<;>rfl
    ·rw[hp,hbo,Qoi]
   ·have dw:(fd.wire==2)=false:=by simpa using w2
    simp only[dw,w5,eE,seval];refine aC (c84 fd.wire) ?_;cases hnu:Zb fd.wire with
    |true=>
     have hbo:body fd=Vp.put fd.bits:=by rw[hbody,Qn4 w2,Qn5 hnu]
     simp only[w5,eE,seval];refine aC (LM fd.bits hb1) ?_;obtain⟨g2,hw2⟩:=AO _ (Vp.put fd.bits) _ [] B2 (by rw[hlen2];exact hbl _ (by rw[hbo];exact QnV _));refine Qh hw2 (by simp only[Qov,h3,Qa,seval]) ?_;simp only[e1,h10,Qa,seval];refine fin _ _ _ ?_ ?_ ?_ ?_ ?_ (YD _ _ _) ?_
     ·simp only[h3,Qa,seval]
     ·simp only[h8,Qa,seval]
     ·simp only[h9,Qa,seval]
     ·simp only[Qa,seval]
     ·rw[Uo (by decide) (by decide),w5]<;>rfl
     ·rw[hp,hbo,Qoi]
    |false=>
     have hbo:body fd=Vp.put fd.data.length++fd.data:=by rw[hbody,Qn4 w2,Qn4 (by rw[hnu];simp)]
     have hbn:=congrArg List.length hbo;rw[QoB]at hbn;have eu:IntKind.u64.wrap (fd.data.length:Int)=(fd.data.length:Nat):=by rw[Jj];omega
     simp only[eu,w5,eE,seval];refine aC (LM fd.data.length (by omega)) ?_;obtain⟨g2,hw2⟩:=AO _ (Vp.put fd.data.length) _ [] B2 (by rw[hlen2];exact hbl _ (by omega));refine Qh hw2 (by simp only[Qov,h3,Qa,seval]) ?_;have B3:=YD fr2 g2 (QY (l.take i)++(ZR fd.num fd.wire).1++Vp.put fd.data.length);have w6:WY fr2 g2 (QY (l.take i)++(ZR fd.num fd.wire).1++Vp.put fd.data.length) 5=.cells [.int .i64 fd.num,.int .i64 fd.wire,.int .u64 (fd.bits:Nat),.str fd.data]:=by
      rw[Uo (by decide) (by decide),w5]
     have hlen3:(QY (l.take i)++(ZR fd.num fd.wire).1++Vp.put fd.data.length).length=(QY (l.take i)).length+(ZR fd.num fd.wire).1.length+(Vp.put fd.data.length).length:=by simp;omega
     generalize hfr3:WY fr2 g2 (QY (l.take i)++(ZR fd.num fd.wire).1++Vp.put fd.data.length)=fr3 at B3 w6;simp only[w6,eE,seval];obtain⟨g3,hw3⟩:=AO _ fd.data _ [] B3 (by rw[hlen3];have:=hbl (body fd).length (QnV _);omega);refine Qh hw3 (by simp only[Qov,h3,Qa,seval]) ?_;simp only[e1,h10,Qa,seval];refine fin _ _ _ ?_ ?_ ?_ ?_ ?_ (YD _ _ _) ?_
     ·simp only[h3,Qa,seval]
     ·simp only[h8,Qa,seval]
     ·simp only[h9,Qa,seval]
     ·simp only[Qa,seval]
     ·rw[Uo (by decide) (by decide),w6]<;>rfl
     ·rw[hp,hbo,Qoi,Qoi]
 ·have d0:decide ((i:Int)<(l.length:Int))=false:=by simp;omega
  have hil:i=l.length:=by omega
  subst hil;rw[QpC]at hB;simp only[d0,Qa,seval];refine Qh (c86 (QY l) _ [] hB.drop hl) (by simp only[Qov,h3,Qa,seval]) ?_;simp only[Qa,seval]
end Go.Proofs.YtgnfjkkfbcnbfaaGreatDoor.Va
namespace Go.Proofs.YtgnfjkkfbcnbfaaGreatDoor.Va
open Go Am Rc Bt Br Up So
def XB (n:Int)(x:V):R:={ Q7 x.kd x.bits x.text with num:=n }
section
variable (bd:Int→V→List UInt8)
def Q0 (o:PO)(n:Int)(x:V):R:=if o.kind=10 then⟨n,4,0,bd o.target x⟩else XB n x
def JR (o:PO)(p:V×V):R:=⟨o.num,6,0,QY [XB 1 p.1,Q0 bd o 2 p.2]⟩
def DQ (w:Int)(b:Nat):List UInt8:=if w=2 then fx 8 b else Vp.put b
def JD (w:Int)(x:V):List UInt8:=DQ w (Q7 x.kd x.bits x.text).bits
def Uq (o:PO)(l:List V):R:=⟨o.num,5,0,UInt8.ofNat (wk o.kind).toNat :: l.flatMap (JD (wk o.kind))⟩
def YE (o:PO)(x:V):List R :=
 if o.card=5 then x.pairs.map (JR bd o)
 else if pk o.card o.kind=true then [Uq o x.list]
 else if o.card=4 then x.list.map (Q0 bd o o.num)
 else [Q0 bd o o.num x]
def UQ (g:PG)(s:Int×V):List R:=match Xv g s.1 with
 |none=>[]
 |some o=>YE bd o s.2
def Zv (g:PG):List (Int×V)→List R→List R
 | [],rs=>rs
 |s :: sl,rs=>rs.takeWhile (fun r=>decide (r.num<s.1))++UQ bd g s++Zv g sl (rs.dropWhile fun r=>decide (r.num<s.1))
end
def XD (P:PL):Nat→Int→V→List UInt8
 |0,_,_=>[]
 |n+1,t,v=>QY (Zv (XD P n) (Qk P t) (nrm P (n+1) (Qk P t) v).slots (nrm P (n+1) (Qk P t) v).raws)
theorem QfN (n w:Int):(ZR n w).1.length≤10:=by
 unfold ZR;split
 ·exact Qn6 _
 ·exact(Vp.put_len _).2
theorem QfO (f:R):(ZS f).length≤20+f.data.length:=by
 unfold ZS;split
 ·have h1:=QfN f.num f.wire;have h2:(body f).length≤10+f.data.length:=by
   unfold body;split
   ·rw[KD];omega
   ·split
    ·have:=(Vp.put_len f.bits).2;omega
    ·have:=(Vp.put_len f.data.length).2;rw[QoB];omega
  rw[QoB];omega
 ·exact Qn6 _
def JZ (l:List R):Nat:=(l.map fun f=>20+f.data.length).sum
theorem HT:∀l:List R,(QY l).length≤JZ l
 | []=>QnV _
 |f :: l=>by
  have h1:=QfO f;have h2:=HT l;unfold QY JZ at h2 ⊢;rw[Qps,QoB,Qov,Qqb];omega
theorem PY (a b:List R):JZ (a++b)=JZ a+JZ b:=by
 unfold JZ;rw[QpL,List.sum_append]
theorem PZ (f:R):JZ [f]=20+f.data.length:=by simp[JZ]
theorem Nq {P:PL}{k tg:Int}{v:V}(h:v.one P k tg=0):v.text.length≤4096:=by
 unfold V.one WP at h;split at h
 ·omega
 split at h
 ·omega
 rename_i h1 h2;simp only[Qn1]at h2;omega
theorem N5 (k:Int)(b:Nat)(t:List UInt8):(Q7 k b t).data.length≤t.length:=by
 unfold Q7 zr
 repeat' split
 all_goals first|exact Qn6 _|exact QnV _
theorem Mk (n:Int)(v:V):(XB n v).data.length≤v.text.length:=N5 _ _ _
section
variable {P:PL}{m:PG→V→Int}{bd:Int→V→List UInt8}
variable (hbd:∀(t:Int) (v:V),(0≤t∧t<(P.progs.length:Int))→m (Qk P t) v=0→(bd t v).length+70000≤70000*v.cnt)
include hbd
theorem Ds {o:PO}(ho:UO P o){n:Int}{x:V}(h:QN m P o x=0):(Q0 bd o n x).data.length+5000≤70000*x.cnt:=by
 have hc:=Za x;unfold QN at h;unfold Q0;split
 ·rename_i hk;rw[Qn5 hk]at h;have:=hbd _ _ (ho.tgt hk) h;dsimp only;omega
 ·rename_i hk;rw[Qn4 hk]at h;have h1:=Nq h;have h2:=Mk n x;omega
theorem P0 {o:PO}(ho:UO P o){p:V×V}(h1:p.1.one P o.key (-1)=0)(h2:QN m P o p.2=0):20+JZ [XB 1 p.1,Q0 bd o 2 p.2]≤70000*(p.1.cnt+p.2.cnt):=by
 have h3:=Ds hbd ho (n:=2) h2;have h4:=Nq h1;have h5:=Mk 1 p.1;have hc:=Za p.1;have e:JZ [XB 1 p.1,Q0 bd o 2 p.2]=(20+(XB 1 p.1).data.length)+(20+(Q0 bd o 2 p.2).data.length):=by simp[JZ]
 omega
theorem Fl {o:PO}(ho:UO P o){p:V×V}(h1:p.1.one P o.key (-1)=0)(h2:QN m P o p.2=0):20+(JR bd o p).data.length≤70000*(p.1.cnt+p.2.cnt):=by
 have h3:=P0 hbd ho h1 h2;have h6:=HT [XB 1 p.1,Q0 bd o 2 p.2];unfold JR;dsimp only;omega
omit hbd in
theorem P1 (w:Int)(x:V):(JD w x).length≤10:=by
 unfold JD DQ;split
 ·rw[KD];omega
 ·exact(Vp.put_len _).2
omit hbd in
theorem Hl (w:Int):∀l:List V,(l.flatMap (JD w)).length≤10*l.length
 | []=>QnV _
 |x :: l=>by
  have h1:=P1 w x;have h2:=Hl w l;rw[Qps,QoB,Qoc];omega
theorem QcK {o:PO}(ho:UO P o){x:V}(h:Xw m P o x=0):JZ (YE bd o x)≤70000*x.cnt:=by
 have hc:=Q1 x;have hp:=Za x;unfold Xw at h;unfold YE;by_cases h5:o.card=5
 ·rw[Qn5 h5]at h;rw[Qn5 h5];split at h
  ·omega
  have hE:=(Kd.1 h).1;have key:∀l:List (V×V),(∀p∈l,p.1.one P o.key (-1)=0∧QN m P o p.2=0)→JZ (l.map (JR bd o))≤70000*Xd l:=by
   intro l
   induction l with
   |nil=>intro _;exact Qn6 _
   |cons p l ih=>
    intro hl;have i1:=ih fun q hq=>hl q (by simp[hq])
    obtain⟨a,b⟩:=hl p (by simp);have i2:=Fl hbd ho a b;obtain⟨pa,pb⟩:=p;unfold JZ at i1 ⊢;simp only[Qov,Qqb,Xd];dsimp only at i2;omega
  have:=key _ hE;omega
 ·rw[Qn4 h5]at h;rw[Qn4 h5];split
  ·have h1:=Hl (wk o.kind) x.list;have h2:=Fk x.list;rw[PZ];unfold Uq;simp only[Qoc];omega
  ·by_cases h4:o.card=4
   ·rw[Qn5 h4]at h;rw[Qn5 h4];split at h
    ·omega
    have hL:=Ke.1 h;have key:∀l:List V,(∀y∈l,QN m P o y=0)→JZ (l.map (Q0 bd o o.num))≤70000*Q6 l:=by
     intro l
     induction l with
     |nil=>intro _;exact Qn6 _
     |cons y l ih=>
      intro hl;have i1:=ih fun q hq=>hl q (by simp[hq])
      have i2:=Ds hbd ho (n:=o.num) (hl y (by simp));unfold JZ at i1 ⊢;simp only[Qov,Qqb,Q6];omega
    have:=key _ hL;omega
   ·rw[Qn4 h4]at h;rw[Qn4 h4,PZ];have:=Ds hbd ho (n:=o.num) h;omega
omit hbd in
theorem Ml {g:PG}{f:R}(h:JN P g f=0):f.data.length≤65536:=by
 unfold JN at h;split at h
 ·omega
 split at h
 ·omega
 split at h
 ·omega
 split at h
 ·omega
 rename_i h4;simp only[Qn0,Qn1,not_or]at h4;omega
theorem Fm {g:PG}:∀(sl:List (Int×V)) (rs:List R),(∀x∈sl,∃o,Xv g x.1=some o∧UO P o∧Xw m P o x.2=0)→(∀f∈rs,JN P g f=0)→JZ (Zv bd g sl rs)≤70000*(rs.length+Q9 sl)
 | [],rs,_,hr=>by
  unfold Zv;have:∀l:List R,(∀f∈l,JN P g f=0)→JZ l≤70000*l.length:=by
   intro l
   induction l with
   |nil=>intro _;exact Qn6 _
   |cons f l ih=>
    intro hl;have i1:=ih fun q hq=>hl q (by simp[hq])
    have i2:=Ml (hl f (by simp));unfold JZ at i1 ⊢;simp only[Qov,Qqb,Qoc];omega
  have:=this rs hr;omega
 |s :: sl,rs,hs,hr=>by
  obtain⟨o,h1,ho,h2⟩:=hs s (by simp);have h3:=QcK hbd ho h2;have ih:=Fm sl (rs.dropWhile fun r=>decide (r.num<s.1)) (fun x hx=>hs x (by simp[hx])) (fun f hf=>hr f ((List.dropWhile_sublist _).mem hf));have h4:∀l:List R,(∀f∈l,JN P g f=0)→JZ l≤70000*l.length:=by
   intro l
   induction l with
   |nil=>intro _;exact Qn6 _
   |cons f l ih=>
    intro hl;have i1:=ih fun q hq=>hl q (by simp[hq])
    have i2:=Ml (hl f (by simp));unfold JZ at i1 ⊢;simp only[Qov,Qqb,Qoc];omega
  have h5:=h4 (rs.takeWhile fun r=>decide (r.num<s.1)) (fun f hf=>hr f ((List.takeWhile_sublist _).mem hf));have h6:(rs.takeWhile fun r=>decide (r.num<s.1)).length+(rs.dropWhile fun r=>decide (r.num<s.1)).length=rs.length:=by
   rw[←QoB,List.takeWhile_append_dropWhile]
  obtain⟨sn,sx⟩:=s;rw[Zv,PY,PY];unfold UQ;rw[h1];simp only[Q9];dsimp only at h3 h5 h6 ih ⊢;omega
end
theorem Dt {P:PL}(hU:J6 P)(hr:Zi P):∀(n:Nat) (t:Int) (v:V),(0≤t∧t<(P.progs.length:Int))→Xp P n (Qk P t) v=0→(XD P n t v).length+70000≤70000*v.cnt
 |0,t,v,_,h=>(YT 0 _ _ h).elim
 |n+1,t,v,ht,h=>by
  have hg:Qk P t∈P.progs:=by
   unfold Qk;rw[QnX (by omega:t.toNat<P.progs.length)];exact QoP _
  have hf:=Uk hU hr (n+1) (Qk P t) hg v h;have hc:=Y3 hr (n+1) (Qk P t) (Wo hr t) v;rw[XD];generalize nrm P (n+1) (Qk P t) v=w at hf hc;obtain⟨_,⟨s1,_,_⟩,_,s4⟩:=ZH.1 hf;have h1:=HT (Zv (XD P n) (Qk P t) w.slots w.raws);have h2:=Q1 w;have h3:=Fm (m:=Xp P n) (bd:=XD P n) (fun t v ht hm=>Dt hU hr n t v ht hm) w.slots w.raws (fun x hx=>by
   obtain⟨o,ho,hx⟩:=s1 x hx;exact⟨o,ho,hU _ hg o (JO ho).1,hx⟩) s4
  omega
def Wd (P:PL)(m:PG→V→Int)(g:PG)(s:Int×V):Prop:=∃o,Xv g s.1=some o∧Xw m P o s.2=0∧(o.card<3∨s.2.emp=false)
theorem AP {P:PL}(hU:J6 P)(hr:Zi P){n:Nat}{g:PG}(hg:g∈P.progs){v:V}(h:Xp P (n+1) g v=0):∀s∈(nrm P (n+1) g v).slots,Wd P (Xp P n) g s:=by
 have hf:=Uk hU hr (n+1) g hg v h;obtain⟨_,⟨s1,_,_⟩,_,_⟩:=ZH.1 hf;intro s hs;obtain⟨o,ho,hx⟩:=s1 s hs;refine⟨o,ho,hx,?_⟩;have hs':s∈g.ops.flatMap (Xg (nrm P n) P v.slots):=hs;obtain⟨q,hq,hsq⟩:=QoJ.1 hs';unfold Xg at hsq;split at hsq
 ·cases hsq
 ·split at hsq
  ·rename_i hc;rw[Qp8]at hsq;subst hsq;have e:Xv g q.num=some q:=XG (hr g hg) hq;rw[e]at ho;cases ho;simp only[Qn0,Qn1,QoV]at hc;exact hc
  ·cases hsq
theorem Yl {c k:Int}(h:pk c k=true):c=4∧(k=1∨k=2∨k=3∨k=4∨k=5∨k=6∨k=9):=by
 unfold pk at h;simp only[Qol,Qn0,Qn1,Qn2]at h;omega
theorem SA {c k:Int}(h:pk c k=true):wk k=0∨wk k=1∨wk k=2:=by
 obtain⟨_,h⟩:=Yl h;rcases h with rfl|rfl|rfl|rfl|rfl|rfl|rfl<;>decide
theorem AQ {c k:Int}(h:pk c k=true)(b:Nat)(t:List UInt8):(Q7 k b t).wire=wk k:=by
 obtain⟨_,h⟩:=Yl h;rcases h with rfl|rfl|rfl|rfl|rfl|rfl|rfl<;>rfl
theorem UR {k:Int}{b:Nat}(hb:b<18446744073709551616)(t:List UInt8):(Q7 k b t).bits<18446744073709551616:=by
 unfold Q7;split
 ·exact hb
 split
 ·have h1:=Qfw (IntKind.i64.wrap (b:Int)) (by rw[Qz];omega) (by rw[Qz];omega);have h2:=HN (IntKind.i64.wrap (b:Int));show(UN _).toNat<_;omega
 split
 ·show Xu k b<_;unfold Xu;split
  ·decide
  ·exact hb
 split
 ·exact(by decide:(0:Nat)<18446744073709551616)
 ·exact(by decide:(0:Nat)<18446744073709551616)
theorem P2 {M:Nat}{v:V}(hv:v.ok M):v.bits<18446744073709551616:=by
 have:=Gq hv.bits;omega
def Rb (f:R):Prop:=f.bits<18446744073709551616
theorem AR {M:Nat}{v:V}(hv:v.ok M)(n:Int):Rb (XB n v):=UR (P2 hv) _
theorem Mm {M:Nat}{v:V}(hv:v.ok M)(bd:Int→V→List UInt8)(o:PO)(n:Int):Rb (Q0 bd o n v):=by
 unfold Q0;split
 ·exact(by decide:(0:Nat)<18446744073709551616)
 ·exact AR hv n
theorem QfP {M:Nat}{v:V}(hv:v.ok M)(bd:Int→V→List UInt8)(o:PO):∀f∈YE bd o v,Rb f:=by
 have z:(0:Nat)<18446744073709551616:=by decide
 unfold YE;split
 ·intro f hf;obtain⟨p,_,rfl⟩:=Qpi.1 hf;exact z
 split
 ·intro f hf;rw[Qp8]at hf;subst hf;exact z
 split
 ·intro f hf;obtain⟨y,hy,rfl⟩:=Qpi.1 hf;exact Mm (hv.list y hy) _ _ _
 ·intro f hf;rw[Qp8]at hf;subst hf;exact Mm hv _ _ _
theorem P3 {M:Nat}(bd:Int→V→List UInt8)(g:PG):∀(sl:List (Int×V)) (rs:List R),(∀s∈sl,s.2.ok M)→(∀f∈rs,Rb f)→∀f∈Zv bd g sl rs,Rb f
 | [],_,_,hr,f,hf=>hr f hf
 |s :: sl,rs,hs,hr,f,hf=>by
  rw[Zv,Qph,Qph]at hf;rcases hf with(hf|hf)|hf
  ·exact hr f ((List.takeWhile_sublist _).mem hf)
  ·unfold UQ at hf;split at hf
   ·cases hf
   ·exact QfP (hs s (by simp)) bd _ f hf
  ·exact P3 bd g sl _ (fun x hx=>hs x (by simp[hx])) (fun f hf=>hr f ((List.dropWhile_sublist _).mem hf)) f hf
theorem Nr:∀l:List R,20*l.length≤JZ l
 | []=>Qn6 _
 |f :: l=>by
  have:=Nr l;unfold JZ at this ⊢;simp only[Qov,Qqb,Qoc];omega
theorem QcL {l:List R}{f:R}(h:f∈l):f.data.length≤JZ l:=by
 induction l with
 |nil=>cases h
 |cons x l ih=>
  unfold JZ at ih ⊢;simp only[Qov,Qqb];rcases Qpk.1 h with rfl|h
  ·omega
  ·have:=ih h;omega
theorem Mn {l:List R}(hb:∀f∈l,Rb f)(hw:JZ l≤140737488355328):(∀fd∈l,fd.bits<18446744073709551616∧fd.data.length<9223372036854775807)∧l.length<9223372036854775807∧(QY l).length≤140737488355328:=by
 have h1:=Nr l;have h2:=HT l;exact⟨fun fd hf=>⟨hb fd hf,by have:=QcL hf;omega⟩,by omega,by omega⟩
end Go.Proofs.YtgnfjkkfbcnbfaaGreatDoor.Va
namespace Go.Proofs.YtgnfjkkfbcnbfaaGreatDoor.Va
open Go Am Rc Bt Vp Cp Up
def rd (s:List UInt8)(tx:Int):Option (R×Nat) :=
 let t:=Vp.take s
 if t.2.2≠0∨t.1 % 8=7∨t.1 / 8<1∨65535<t.1 / 8 then none
 else
  let s1:=s.drop t.2.1
  if t.1 % 8=2 then if s1.length<8 then none else some (⟨(t.1 / 8:Nat),(t.1 % 8:Nat),Uf s1,[]⟩,t.2.1+8)
  else
   let b:=Vp.take s1
   if b.2.2≠0 then none
   else if t.1 % 8=0∨t.1 % 8=1 then some (⟨(t.1 / 8:Nat),(t.1 % 8:Nat),b.1,[]⟩,t.2.1+b.2.1)
   else if (s1.drop b.2.1).length<b.1∨(if t.1 % 8=3 then tx else 65536)<(b.1:Int)then none
   else some (⟨(t.1 / 8:Nat),(t.1 % 8:Nat),0,(s1.drop b.2.1).take b.1⟩,t.2.1+b.2.1+b.1)
def Mo (f:R)(tx:Int):Prop:=Zb f.wire=false→(f.data.length:Int)≤if f.wire=3 then tx else 65536
theorem QfQ {f:R}{tx:Int}(hv:valid f=true)(hb:f.bits<2 ^ 64)(hd:f.data.length<2 ^ 64)(hf:Mo f tx)(t:List UInt8):rd (ZS f++t) tx=some (f,(ZS f).length):=by
 obtain⟨num,wire,bits,data⟩:=f;have hv':=hv;unfold valid at hv';simp only[Qol,Qn2]at hv' hb hd;obtain⟨h1,h2⟩:=hv';have hr:¬(num<1∨65535<num∨wire<0∨6<wire):=fun h=>by
  unfold ZR at h1;rw[Qn5 h]at h1;cases h1
 have htag:ZR num wire=(Vp.put (num*8+wire).toNat,0):=by unfold ZR;rw[Qn4 hr]
 simp only[not_or,Int.not_lt]at hr;obtain⟨n,rfl⟩:=QpH (show 0≤num by omega);obtain⟨w,rfl⟩:=QpH (show 0≤wire by omega);rw[show((n:Int)*8+(w:Int)).toNat=n*8+w by omega]at htag;have hp:ZS ⟨n,w,bits,data⟩=Vp.put (n*8+w)++body ⟨n,w,bits,data⟩:=by rw[ZS,Qn5 hv];simp only[htag]
 have htk:∀z,Vp.take (Vp.put (n*8+w)++z)=(n*8+w,(Vp.put (n*8+w)).length,0):=fun z=>Yf _ z (by omega)
 rw[hp,Qoi];unfold rd;simp only[htk,List.drop_left'];rw[Qn4 (by omega),show(n*8+w) % 8=w by omega,show(n*8+w) / 8=n by omega];by_cases w2:w=2
 ·subst w2;have hbo:body ⟨n,(2:Nat),bits,data⟩=fx 8 bits:=by rw[body];exact Qn5 rfl
  have hda:data=[]:=by simpa [Zb]using h2
  subst hda;rw[Qn5 rfl,hbo,Qn4 (by simp only[QoB,KD];omega),PR bits t hb,QoB,KD]
 ·rw[Qn4 w2];by_cases w01:w=0∨w=1
  ·have hnum:Zb (w:Int)=true:=by rcases w01 with h|h<;>rw[h]<;>rfl
   have hbo:body ⟨n,w,bits,data⟩=Vp.put bits:=by
    rw[body];simp only[hnum];rw[Qn4 (by omega)];simp
   have hda:data=[]:=by simpa [hnum]using h2
   subst hda;rw[hbo,Yf bits t hb];simp only[ne_eq,not_true_eq_false,if_false,w01,if_true,QoB]
  ·have hnum:Zb (w:Int)=false:=by
    have:w=3∨w=4∨w=5∨w=6:=by omega
    rcases this with h|h|h|h<;>rw[h]<;>rfl
   have hbo:body ⟨n,w,bits,data⟩=Vp.put data.length++data:=by
    rw[body];simp only[hnum];rw[Qn4 (by omega)];simp
   have hbi:bits=0:=by simpa [hnum]using h2
   subst hbi;rw[hbo,Qoi,Yf data.length _ hd];have hf':=hf hnum;simp only at hf';simp only[ne_eq,not_true_eq_false,if_false,w01,List.drop_left',QoB];rw[Qn4,List.take_left',QnT]
   ·rfl
   ·simp only[not_or];refine⟨by omega,?_⟩;split at hf'
    ·rename_i h3;rw[Qn5 (by omega)];omega
    ·rename_i h3;rw[Qn4 (by omega)];omega
theorem Ja {c:C}(hl:c.d.length≤9223372036854770000)(hs:c.sound=true)(n:Nat)(hn:(n:Int)≤c.left) :
  c.ahead n={ c with a:=c.a+n }∧(c.ahead n).sound=true∧(c.ahead n).rest=c.rest.drop n:=by
 have h:=(C.sound_iff c).1 hs;have hr:=c.rest_len;rw[Qn5 hs]at hr;have hw:IntKind.i64.wrap (c.a+(n:Int))=c.a+n:=by rw[Qz];omega
 have e:c.ahead n={ c with a:=c.a+n }:=by simp only[C.ahead,hw]
 have hs':(c.ahead n).sound=true:=by
  rw[e,C.sound_iff];exact⟨by show 0≤c.a+n;omega,by show c.a+n≤c.e;omega,h.2.2⟩
 refine⟨e,hs',?_⟩;rw[C.rest_of hs',C.rest_of hs,e];simp only;rw[List.drop_take,Qos,show(c.a+(n:Int)).toNat=c.a.toNat+n by omega];congr 1
 omega
theorem N6 {c:C}(hn:1≤c.nd)(hm:c.nd<9223372036854775808):c.spend 1=({ c with nd:=c.nd-1 },0):=by
 unfold C.spend;rw[Qn4 (by omega),Qn4 (by omega),show IntKind.i64.wrap (c.nd-1)=c.nd-1 by rw[Qz];omega]
theorem QfR {c:C}(hl:c.d.length≤9223372036854770000)(hs:c.sound=true)(hn:1≤c.nd)(hm:c.nd<9223372036854775808) :
  (∀f k,rd c.rest c.tx=some (f,k)→XJ c=(f,{ c with a:=c.a+k,nd:=c.nd-1 },0))∧(rd c.rest c.tx=none→(XJ c).2.2≠0):=by
 have hvar:c.varint=if (Vp.take c.rest).2.2=0 then((Vp.take c.rest).1,c.ahead (Vp.take c.rest).2.1,0)else(0,c,(Vp.take c.rest).2.2):=rfl
 have hb:=U0 c.rest;unfold rd;simp only;generalize Vp.take c.rest=T at hvar hb ⊢;obtain⟨u,n,e⟩:=T;simp only at hvar hb ⊢;by_cases he:e=0
 ·subst he;rw[Qn5 rfl]at hvar;obtain⟨b1,b2,b3,b4⟩:=hb rfl;obtain⟨a1,a2,a3⟩:=Ja hl hs n (by unfold C.left;omega);have hal:(c.ahead n).d.length≤9223372036854770000:=hl;by_cases hbad:u % 8=7∨u / 8<1∨65535<u / 8
  ·rw[Qn5 (by omega)];refine⟨fun f k h=>(by cases h),fun _=>?_⟩;have ht:(QF c).2.2.2≠0:=by
    unfold QF;simp only[hvar,if_true];by_cases h7:u % 8=7
    ·rw[Qn5 h7];exact(by decide:(5:Nat)≠0)
    ·rw[Qn4 h7,Qn5 (by omega)];exact(by decide:(6:Nat)≠0)
   unfold XJ;simp only[ht,if_false];exact ht
  ·rw[Qn4 (by omega)];have ht:QF c=(((u / 8:Nat):Int),((u % 8:Nat):Int),c.ahead n,0):=by
    unfold QF;simp only[hvar,if_true];rw[Qn4 (by omega),Qn4 (by omega)]
   have hsp:(c.ahead n).spend 1=({ c.ahead n with nd:=c.nd-1 },0):=N6 (c:=c.ahead n) hn hm;generalize hD:({ c.ahead n with nd:=c.nd-1 }:C)=D at hsp;have hDs:D.sound=true:=by rw[←hD];exact a2
   have hDl:D.d.length≤9223372036854770000:=by rw[←hD];exact hl
   have hDr:D.rest=c.rest.drop n:=by rw[←hD,←a3];rfl
   have hDe:∀k:Nat,({ D with a:=D.a+k }:C)={ c with a:=c.a+(n+k:Nat),nd:=c.nd-1,tx:=D.tx }:=by
    intro k;rw[←hD,a1];simp only[C.mk.injEq,QoO,and_true];omega
   have hnx:XJ c=if (Zl D ⟨(u / 8:Nat),(u % 8:Nat),0,[]⟩).2.2=0 then Zl D ⟨(u / 8:Nat),(u % 8:Nat),0,[]⟩else(zr,c,(Zl D ⟨(u / 8:Nat),(u % 8:Nat),0,[]⟩).2.2):=by
    unfold XJ;simp only[ht,hsp,if_true]
   have htx:D.tx=c.tx:=by rw[←hD];rfl
   rw[hnx,←hDr,←htx];by_cases h2:u % 8=2
   ·rw[Qn5 h2];have hc:Zl D ⟨(u / 8:Nat),(u % 8:Nat),0,[]⟩=(⟨(u / 8:Nat),(u % 8:Nat),D.fixed.1,[]⟩,D.fixed.2.1,D.fixed.2.2):=by
     unfold Zl;rw[Qn5 (by simp only;omega)]
    rw[hc];unfold C.fixed;by_cases h8:D.rest.length<8
    ·simp only[h8,if_true];exact⟨fun f k h=>(by cases h),fun _=>by simp⟩
    ·simp only[h8,if_false,if_true];refine⟨fun f k h=>?_,fun h=>(by cases h)⟩;simp only[Qoo,Qpt]at h;obtain⟨rfl,rfl⟩:=h;have e8:D.ahead 8={ D with a:=D.a+((8:Nat):Int) }:=(Ja hDl hDs 8 (by unfold C.left;omega)).1;rw[e8,hDe 8]
   ·rw[Qn4 h2];have hbv:=U0 D.rest;have hDv:D.varint=if (Vp.take D.rest).2.2=0 then((Vp.take D.rest).1,D.ahead (Vp.take D.rest).2.1,0)else(0,D,(Vp.take D.rest).2.2):=rfl
    generalize Vp.take D.rest=B at hDv hbv ⊢;obtain⟨v,m,e⟩:=B;simp only at hDv hbv ⊢;have hcd:¬(u % 8=0∨u % 8=1)→Zl D ⟨(u / 8:Nat),(u % 8:Nat),0,[]⟩=(⟨(u / 8:Nat),(u % 8:Nat),0,(JY D (u % 8:Nat)).1⟩,(JY D (u % 8:Nat)).2.1,(JY D (u % 8:Nat)).2.2):=by
     intro h;unfold Zl;rw[Qn4 (by simp only;omega),Qn4 (by simp only;omega)]
    have hcn:(u % 8=0∨u % 8=1)→Zl D ⟨(u / 8:Nat),(u % 8:Nat),0,[]⟩=(⟨(u / 8:Nat),(u % 8:Nat),D.varint.1,[]⟩,D.varint.2.1,D.varint.2.2):=by
     intro h;unfold Zl;rw[Qn4 (by simp only;omega),Qn5 (by simp only;omega)]
    by_cases he:e=0
    ·subst he;rw[Qn5 rfl]at hDv;obtain⟨c1,c2,c3,c4⟩:=hbv rfl;obtain⟨d1,d2,d3⟩:=Ja hDl hDs m (by unfold C.left;omega);rw[Qn4 (by simp)];by_cases h01:u % 8=0∨u % 8=1
     ·rw[Qn5 h01,hcn h01,hDv];simp only[if_true];refine⟨fun f k h=>?_,fun h=>(by cases h)⟩;simp only[Qoo,Qpt]at h;obtain⟨rfl,rfl⟩:=h;rw[d1,hDe m]
     ·rw[Qn4 h01,hcd h01];have hdt:JY D ((u % 8:Nat):Int)=if (D.ahead m).left<(v:Int)then([],D,4)else if (if u % 8=3 then D.tx else 65536)<(v:Int)then([],D,3)else(((D.ahead m).d.drop (D.ahead m).a.toNat).take v,(D.ahead m).ahead v,0):=by
       unfold JY;simp only[hDv,if_true];have:(if ((u % 8:Nat):Int)=3 then D.tx else 65536)=if u % 8=3 then D.tx else 65536:=by
        by_cases h:u % 8=3
        ·rw[Qn5 h,Qn5 (by omega)]
        ·rw[Qn4 h,Qn4 (by omega)]
       rw[this]
      have hlf:(D.ahead m).left=((D.rest.drop m).length:Int):=by unfold C.left;rw[d3]
      rw[hdt,hlf];by_cases hq:(D.rest.drop m).length<v
      ·rw[Qn5 (.inl hq),Qn5 (show((D.rest.drop m).length:Int)<(v:Int)by omega)];exact⟨fun f k h=>(by cases h),fun _=>by simp⟩
      ·rw[Qn4 (show ¬((D.rest.drop m).length:Int)<(v:Int)by omega)];by_cases hr:(if u % 8=3 then D.tx else 65536)<(v:Int)
       ·rw[Qn5 (.inr hr),Qn5 hr];exact⟨fun f k h=>(by cases h),fun _=>by simp⟩
       ·rw[Qn4 (by simp only[not_or];exact⟨hq,hr⟩),Qn4 hr];simp only[if_true];refine⟨fun f k h=>?_,fun h=>(by cases h)⟩;simp only[Qoo,Qpt]at h;obtain⟨rfl,rfl⟩:=h;have hal2:=Ja (c:=D.ahead m) hDl d2 v (by rw[hlf];omega);have hrd:((D.ahead m).d.drop (D.ahead m).a.toNat).take v=(D.rest.drop m).take v:=by
         rw[←d3,C.rest_of d2,Qpd,Qpe];have h1:=(C.sound_iff _).1 d2;have h2:=(D.ahead m).rest_len;rw[Qn5 d2,hlf]at h2;omega
        rw[hrd,hal2.1];have:({ D.ahead m with a:=(D.ahead m).a+v }:C)={ D with a:=D.a+(m+v:Nat) }:=by
         rw[d1];simp only[C.mk.injEq,QoO,and_true];omega
        rw[this,hDe (m+v),QnT]
    ·rw[Qn4 he]at hDv;rw[Qn5 (by simpa using he)];refine⟨fun f k h=>(by cases h),fun _=>?_⟩;by_cases h01:u % 8=0∨u % 8=1
     ·rw[hcn h01,hDv];simp only[he,if_false];exact he
     ·rw[hcd h01];have hdt:JY D ((u % 8:Nat):Int)=([],D,e):=by
       unfold JY;simp only[hDv,he,if_false]
      rw[hdt];simp only[he,if_false];exact he
 ·rw[Qn4 he]at hvar;rw[Qn5 (.inl he)];refine⟨fun f k h=>(by cases h),fun _=>?_⟩;have ht:QF c=(0,0,c,e):=by
   unfold QF;simp only[hvar,he,if_false]
  unfold XJ;simp only[ht,he,if_false];exact he
def okl (s:List UInt8)(l:L):Prop:=0≤l.b∧0≤l.dp∧0≤l.nd∧0≤l.tx∧(s.length:Int)≤l.b
theorem QcM {s:List UInt8}{l:L}(h:okl s l):opn s l=(⟨s,0,s.length,l.dp,l.nd,l.tx⟩,0):=by
 obtain⟨h1,h2,h3,h4,h5⟩:=h;unfold opn;rw[Qn4 (by omega),Qn4 (by omega)]
theorem AS (s:List UInt8)(x y z:Int):(⟨s,0,s.length,x,y,z⟩:C).sound=true∧(⟨s,0,s.length,x,y,z⟩:C).rest=s:=by
 have hs:(⟨s,0,s.length,x,y,z⟩:C).sound=true:=(C.sound_iff _).2 ⟨Qpn _,by simp,Qpn _⟩;refine⟨hs,?_⟩;rw[C.rest_of hs];simp
theorem QcN {f:R}(h:valid f=true):0<(ZS f).length:=by
 rw[ZS,Qn5 h,QoB];have h':=h;unfold valid at h';simp only[Qol,Qn2]at h';unfold ZR at h' ⊢;split
 ·rename_i hb;rw[Qn5 hb]at h';exact absurd h'.1 (by decide)
 ·have:=(put_len (f.num*8+f.wire).toNat).1;simp only;omega
open Br So
def Gf (f:R):Prop:=valid f=true∧f.bits<18446744073709551616∧f.data.length<18446744073709551616
theorem HU {f:R}(hf:Gf f):∃n w:Nat,f.num=(n:Int)∧f.wire=(w:Int)∧w≤6∧n≤65535∧ZS f=Vp.put (n*8+w)++body f∧((w=2∧f.data=[]∧body f=fx 8 f.bits)∨(w≤1∧f.data=[]∧body f=Vp.put f.bits)∨(3≤w∧f.bits=0∧body f=Vp.put f.data.length++f.data)):=by
 obtain⟨hv,hb,hd⟩:=hf;obtain⟨num,wire,bits,data⟩:=f;have hv':=hv;unfold valid at hv';simp only[Qol,Qn2]at hv' hb hd;obtain⟨h1,h2⟩:=hv';have hr:¬(num<1∨65535<num∨wire<0∨6<wire):=fun h=>by
  unfold ZR at h1;rw[Qn5 h]at h1;cases h1
 have htag:ZR num wire=(Vp.put (num*8+wire).toNat,0):=by unfold ZR;rw[Qn4 hr]
 simp only[not_or,Int.not_lt]at hr;obtain⟨n,rfl⟩:=QpH (show 0≤num by omega);obtain⟨w,rfl⟩:=QpH (show 0≤wire by omega);rw[show((n:Int)*8+(w:Int)).toNat=n*8+w by omega]at htag;have hp:ZS ⟨n,w,bits,data⟩=Vp.put (n*8+w)++body ⟨n,w,bits,data⟩:=by rw[ZS,Qn5 hv];simp only[htag]
 refine⟨n,w,rfl,rfl,by omega,by omega,hp,?_⟩;by_cases w2:w=2
 ·subst w2;exact .inl ⟨rfl,by simpa [Zb]using h2,by rw[body];exact Qn5 rfl⟩
 ·by_cases w01:w≤1
  ·have hnum:Zb (w:Int)=true:=by
    have:w=0∨w=1:=by omega
    rcases this with h|h<;>rw[h]<;>rfl
   exact .inr (.inl ⟨w01,by simpa [hnum]using h2,by rw[body];simp only[hnum];rw[Qn4 (by omega)];simp⟩)
  ·have hnum:Zb (w:Int)=false:=by
    have:w=3∨w=4∨w=5∨w=6:=by omega
    rcases this with h|h|h|h<;>rw[h]<;>rfl
   exact .inr (.inr ⟨by omega,by simpa [hnum]using h2,by rw[body];simp only[hnum];rw[Qn4 (by omega)];simp⟩)
theorem GR {f:R}(hf:Gf f):ZS f≠[]:=by
 have:=QcN hf.1;intro e;rw[e]at this;simp at this
theorem AT (w:Int)(a:Nat):DQ w a≠[]:=by
 intro e;unfold DQ at e;split at e
 ·have:=congrArg List.length e;rw[KD]at this;simp at this
 ·have h1:=(Vp.put_len a).1;rw[e]at h1;simp at h1
theorem QlC {v w:V}(h1:v.kd=w.kd)(h2:v.bits=w.bits)(h3:v.text=w.text)(h4:v.list=w.list)(h5:v.pairs=w.pairs)(h6:v.slots=w.slots)(h7:v.raws=w.raws):v=w:=by
 cases v;cases w;simp only[V.kd,V.bits,V.text,V.list,V.pairs,V.slots,V.raws]at h1 h2 h3 h4 h5 h6 h7;subst h1 h2 h3 h4 h5 h6 h7;rfl
theorem Zy {P:PL}{k tg:Int}{v:V}(h:v.one P k tg=0):v.kd=k∧1≤k∧k≤9∧v.list=[]∧v.pairs=[]∧v.slots=[]∧v.raws=[]∧(if k=7∨k=8 then v.bits=0 else v.text=[]):=by
 obtain⟨h1,h2,h3⟩:=Hf h;have hk:=CG h3;unfold isk at hk;simp only[Qol,Qn1]at hk;unfold V.oth oth at h2;simp only[QoQ,Qp2,bne_eq_false_iff_eq,QpZ,QoS]at h2;obtain⟨⟨⟨⟨a1,a2⟩,a3⟩,_⟩,_⟩:=h2;have b1:v.list.length=0:=by rcases a1 with a|a<;>omega
 have b2:v.pairs.length=0:=by rcases a2 with a|a<;>omega
 have b3:v.slots.length+v.raws.length=0:=by rcases a3 with a|a<;>omega
 refine⟨h1,hk.1,hk.2,Qp7.1 b1,Qp7.1 b2,Qp7.1 (by omega),Qp7.1 (by omega),?_⟩;unfold XQ at h3;simp only[Qol]at h3;have h4:=h3.1.1.1.2;rw[h1]at h4;unfold Zx at h4;by_cases c:k=7∨k=8
 ·rw[Qn5 c];rw[Qn5 (by rcases c with c|c<;>simp[c])]at h4
  simpa using h4
 ·rw[Qn4 c];simp only[not_or]at c;rw[Qn4 (by simp[c.1,c.2])]at h4
  simpa using h4
theorem QcO {c:C}(hl:c.d.length≤9223372036854770000)(hs:c.sound=true)(hn:1≤c.nd)(hm:c.nd<9223372036854775808){f:R}{t:List UInt8}(hf:Gf f)(hr:c.rest=ZS f++t)(hb:¬Mo f c.tx):(XJ c).2.2=3:=by
 obtain⟨n,w,a1,a2,a3,a4,a5,a6⟩:=HU hf;have hv:=hf.1;have hd:=hf.2.2;unfold Mo at hb;simp only[Classical.not_imp]at hb;obtain⟨hnum,hb⟩:=hb;rw[a2]at hnum hb;have hw:3≤w:=by
  rcases a6 with⟨c1,_⟩|⟨c1,_⟩|⟨c1,_⟩
  ·subst c1;cases hnum
  ·have:w=0∨w=1:=by omega
   rcases this with e|e<;>subst e<;>cases hnum
  ·exact c1
 obtain⟨_,_,hbo⟩:3≤w∧f.bits=0∧body f=Vp.put f.data.length++f.data:=by
  rcases a6 with⟨c1,_⟩|⟨c1,_⟩|h
  ·omega
  ·omega
  ·exact h
 have h1n:1≤n:=by
  unfold valid ZR at hv;rw[a1]at hv;split at hv
  ·cases hv
  ·omega
 rw[a5,hbo,Qoi,Qoi]at hr;have ht1:=Yf (n*8+w) (Vp.put f.data.length++(f.data++t)) (by omega);rw[←hr]at ht1;have hvar:c.varint=((n*8+w),c.ahead (Vp.put (n*8+w)).length,0):=by
  show(if (Vp.take c.rest).2.2=0 then((Vp.take c.rest).1,c.ahead (Vp.take c.rest).2.1,0)else(0,c,(Vp.take c.rest).2.2))=_;rw[ht1];rfl
 have hlen:(Vp.put (n*8+w)).length≤c.rest.length:=by rw[hr,QoB];omega
 obtain⟨b1,b2,b3⟩:=Ja hl hs (Vp.put (n*8+w)).length (by unfold C.left;omega);have htag:QF c=((n:Int),(w:Int),c.ahead (Vp.put (n*8+w)).length,0):=by
  unfold QF;simp only[hvar,if_true];rw[Qn4 (by omega),Qn4 (by omega),show(n*8+w) / 8=n by omega,show(n*8+w) % 8=w by omega]
 have hsp:(c.ahead (Vp.put (n*8+w)).length).spend 1=({ c.ahead (Vp.put (n*8+w)).length with nd:=c.nd-1 },0):=N6 (c:=c.ahead (Vp.put (n*8+w)).length) hn hm;generalize hD:({ c.ahead (Vp.put (n*8+w)).length with nd:=c.nd-1 }:C)=D at hsp;have hDs:D.sound=true:=by rw[←hD];exact b2
 have hDl:D.d.length≤9223372036854770000:=by rw[←hD];exact hl
 have hDr:D.rest=Vp.put f.data.length++(f.data++t):=by
  have:D.rest=c.rest.drop (Vp.put (n*8+w)).length:=by rw[←hD,←b3];rfl
  rw[this,hr,List.drop_left'];rfl
 have htx:D.tx=c.tx:=by rw[←hD];rfl
 have ht2:=Yf f.data.length (f.data++t) hd;rw[←hDr]at ht2;have hDv:D.varint=(f.data.length,D.ahead (Vp.put f.data.length).length,0):=by
  show(if (Vp.take D.rest).2.2=0 then((Vp.take D.rest).1,D.ahead (Vp.take D.rest).2.1,0)else(0,D,(Vp.take D.rest).2.2))=_;rw[ht2];rfl
 have hlen2:(Vp.put f.data.length).length≤D.rest.length:=by rw[hDr,QoB];omega
 obtain⟨_,d2,d3⟩:=Ja hDl hDs (Vp.put f.data.length).length (by unfold C.left;omega);have hleft:(D.ahead (Vp.put f.data.length).length).left=((f.data++t).length:Int):=by
  unfold C.left;rw[d3,hDr,List.drop_left'];rfl
 have hdat:JY D (w:Int)=([],D,3):=by
  unfold JY;simp only[hDv,if_true];rw[Qn4 (by rw[hleft,QoB];omega),Qn5 (by rw[htx];omega)]
 have hcont:(Zl D ⟨(n:Int),(w:Int),0,[]⟩).2.2=3:=by
  unfold Zl;rw[Qn4 (by show ¬(w:Int)=2;omega),Qn4 (by show ¬((w:Int)=0∨(w:Int)=1);omega)];show(JY D (w:Int)).2.2=3;rw[hdat]
 unfold XJ;simp only[htag,hsp,if_true];rw[Qn4 (by rw[hcont];decide)];exact hcont
def QU (c:C)(n k:Nat):C:={ c with a:=c.a+n,nd:=c.nd-k }
theorem Wt (c:C)(n k n' k':Nat):QU (QU c n k) n' k'=QU c (n+n') (k+k'):=by
 unfold QU;simp only[C.mk.injEq,QoO,and_true];omega
theorem Jb (c:C):QU c 0 0=c:=by
 unfold QU;obtain⟨_,_,_,_,_,_⟩:=c;simp
structure CT (c:C):Prop where
 ci:CI c
 tx:0≤c.tx
theorem Xa {c:C}:c.left=(c.rest.length:Int):=rfl
theorem XL {c:C}(hc:CT c){n k:Nat}(hn:n≤c.rest.length)(hk:(k:Int)≤c.nd):CT (QU c n k):=by
 have h1:=hc.ci.pos;have h2:=hc.ci.lf;have h3:=hc.ci.nd;rw[Xa]at h2;exact⟨Bl hc.ci.len (by unfold QU;dsimp only;omega) (by unfold QU;dsimp only;omega) hc.ci.dp,hc.tx⟩
theorem JA {c:C}(hc:CT c){n:Nat}(k:Nat)(hn:n≤c.rest.length):(QU c n k).rest=c.rest.drop n:=by
 obtain⟨e,_,h⟩:=Ja hc.ci.big hc.ci.snd n (by rw[Xa];omega);rw[←h,e];rfl
theorem KH {c:C}(hc:CT c){s t:List UInt8}(h:c.rest=s++t)(k:Nat):(QU c s.length k).rest=t:=by
 rw[JA hc k (by rw[h,QoB];omega),h];exact List.drop_left' rfl
theorem Zz {c:C}{s t:List UInt8}(h:c.rest=s++t):s.length≤c.rest.length:=by
 rw[h,QoB];omega
def Xl {α:Type}(r:Rd α)(c:C)(n k l d:Nat)(x:α):Prop :=
 (r=.ok (x,QU c n k)∧(k:Int)≤c.nd∧(l:Int)≤c.tx∧(d:Int)≤c.dp)∨
 (r=.error 3∧(c.nd<k∨c.tx<l))∨(r=.error 17∧c.dp<d)
theorem Xl.ok {α:Type}{r:Rd α}{c:C}{x:α}{n:Nat}(hc:CT c)(h:r=.ok (x,QU c n 0)):Xl r c n 0 0 0 x:=by
 have:=hc.ci.nd;have:=hc.ci.dp;have:=hc.tx;exact .inl ⟨h,by omega,by omega,by omega⟩
theorem Xl.seq {α β:Type}{r:Rd α}{R:Rd β}{c:C}{n k l d n' k' l' d':Nat}{x:α}{y:β}(h:Xl r c n k l d x)(he:∀e,r=.error e→R=.error e)
  (ho:r=.ok (x,QU c n k)→(k:Int)≤c.nd→Xl R (QU c n k) n' k' l' d' y):Xl R c (n+n') (k+k') (max l l') (max d d') y:=by
 rcases h with⟨h,h1,h2,h3⟩|⟨h,h1⟩|⟨h,h1⟩
 ·rcases ho h h1 with⟨g,g1,g2,g3⟩|⟨g,g1⟩|⟨g,g1⟩
  ·refine .inl ⟨by rw[g,Wt],?_,?_,?_⟩<;>unfold QU at g1 g2 g3<;>dsimp only at g1 g2 g3<;>omega
  ·refine .inr (.inl ⟨g,?_⟩);unfold QU at g1;dsimp only at g1;omega
  ·refine .inr (.inr ⟨g,?_⟩);unfold QU at g1;dsimp only at g1;omega
 ·exact .inr (.inl ⟨he _ h,by omega⟩)
 ·exact .inr (.inr ⟨he _ h,by omega⟩)
theorem Xl.spd {β:Type}{R:Rd β}{c:C}(hc:CT c)(k:Nat){n' k' l' d':Nat}{y:β}(he:∀e,spd c k=.error e→R=.error e)
  (ho:spd c k=.ok (QU c 0 k)→(k:Int)≤c.nd→Xl R (QU c 0 k) n' k' l' d' y):Xl R c n' (k+k') l' d' y:=by
 have hnd:=hc.ci.nd;by_cases hk:(k:Int)≤c.nd
 ·have hs:Va.spd c k=.ok (QU c 0 k):=by
   have w:IntKind.i64.wrap (c.nd-(k:Int))=c.nd-k:=by rw[Qz];omega
   have e:c.spend k=({ c with nd:=c.nd-k },0):=by
    unfold C.spend;rw[Qn4 (by omega),Qn4 (by omega),w]
   unfold Va.spd;rw[e];simp[QU]
  have:=Xl.seq (r:=(Except.ok ((),QU c 0 k):Rd Unit)) (R:=R) (c:=c) (n:=0) (k:=k) (l:=0) (d:=0) (.inl ⟨rfl,hk,by have:=hc.tx;omega,by have:=hc.ci.dp;omega⟩) (fun e h=>by cases h) (fun _ _=>ho hs hk)
  simpa using this
 ·have hs:Va.spd c k=.error 3:=by
   have e:c.spend k=(c,3):=by
    unfold C.spend;rw[Qn4 (by omega),Qn5 (by omega)]
   unfold Va.spd;rw[e];rfl
  exact .inr (.inl ⟨he _ hs,by omega⟩)
theorem Xl.cast {α:Type}{r r':Rd α}{c:C}{n k l d n' k' l' d':Nat}{x:α}(h:Xl r c n k l d x)(e:r=r')(e1:n=n')(e2:k=k')(e3:l=l')(e4:d=d'):Xl r' c n' k' l' d' x:=by
 subst e e1 e2 e3 e4;exact h
theorem GS {c:C}(hc:CT c){u:Nat}(hu:u<18446744073709551616){t:List UInt8}(h:c.rest=Vp.put u++t):c.varint=(u,QU c (Vp.put u).length 0,0):=by
 have h1:=Yf u t hu;obtain⟨e,_,_⟩:=Ja hc.ci.big hc.ci.snd (Vp.put u).length (by rw[Xa];have:=Zz h;omega);rw[←h]at h1;show(if (Vp.take c.rest).2.2=0 then((Vp.take c.rest).1,c.ahead (Vp.take c.rest).2.1,0)else(0,c,(Vp.take c.rest).2.2))=_;rw[h1];simp[e,QU]
theorem QfS {c:C}(hc:CT c){u:Nat}(hu:u<18446744073709551616){t:List UInt8}(h:c.rest=fx 8 u++t):c.fixed=(u,QU c 8 0,0):=by
 have h1:=PR u t hu;have hl:=Zz h;rw[KD]at hl;obtain⟨e,_,_⟩:=Ja hc.ci.big hc.ci.snd 8 (by rw[Xa];omega);rw[←h]at h1;unfold C.fixed;rw[Qn4 (by omega),h1];have e':c.ahead 8={ c with a:=c.a+(8:Nat) }:=e;simp[e',QU]
theorem BL {c:C}(hc:CT c){n w:Nat}(hn:1≤n∧n≤65535)(hw:w≤6){t:List UInt8}(h:c.rest=Vp.put (n*8+w)++t):QF c=((n:Int),(w:Int),QU c (Vp.put (n*8+w)).length 0,0):=by
 have h1:=GS hc (by omega) h;unfold QF;simp only[h1,if_true];rw[Qn4 (by omega),Qn4 (by omega),show(n*8+w) / 8=n by omega,show(n*8+w) % 8=w by omega]
theorem BM {c:C}(hc:CT c){s t:List UInt8}(h:c.rest=Vp.put s.length++(s++t)):Wr c=.ok (s.length,QU c (Vp.put s.length).length 0):=by
 have hl:=hc.ci.bd;have hp:s.length≤c.rest.length:=by rw[h,QoB,QoB];omega
 rw[Xa]at hl;have h1:=GS hc (by omega) h;have h2:=KH hc h 0;unfold Wr;simp only[h1,if_true];rw[Qn4 (by rw[Xa,h2,QoB];omega)]
end Go.Proofs.YtgnfjkkfbcnbfaaGreatDoor.Va
namespace Go.Proofs.YtgnfjkkfbcnbfaaGreatDoor.Va
open Go Am Rc Bt Br
theorem IC {B:List Bool}{i:Nat}(h:i<B.length)(v:Bool):((B.set i v).take (i+1)).all id=((B.take i).all id&&v):=by
 have h1:(B.set i v)[i]? = some v:=List.getElem?_set_self h;rw[HE h1,List.take_set_of_le (QnV _)];rfl
theorem z33 {M:Nat}(P:PL)(hP:P.ok M)(hl:P.progs.length≤64)(hT:Tgt P):Qg Tryz.prog 33 [P.av] (.bool (fin P)):=by
 have hmx:P.progs.length≤maxLen:=by simp only[maxLen];omega
 have hz:K7 1 [AV.bool false]=.bool false:=rfl;have hr0:(List.replicate P.progs.length (AV.bool false))=(its P.progs 0).map AV.bool:=by simp[its]
 let A:Nat→Bool:=fun c=>if c=0 then(P.progs.length:Int)==0 else(its P.progs c).all id
 have hA:A P.progs.length=fin P:=by
  show(if P.progs.length=0 then(P.progs.length:Int)==0 else(its P.progs P.progs.length).all id)=(its P.progs P.progs.length).all id;split
  ·rename_i h;rw[h];simp[its,h]
  ·rfl
 refine wF Tryz.func33 ?_;simp only[eK,Tryz.f33,seval];simp only[GD,QoS,eE,seval];refine G9 (n:=P.progs.length) (k:=P.progs.length) rfl rfl (QnV _) (by omega) (by omega) rfl ?_;simp only[hz,hr0,QoS,eE,seval];refine Hc (X:=Nat) (fun c=>[(1,.ptr 0 1 0),(3,.vec 0 12 1 0 P.progs.length false),(4,.bool (A c)),(19,.int .i64 (P.progs.length:Nat)),(20,.int .i64 (c:Nat))]) (fun c=>[(1,.cells (Pc P)),(12,.vec 1 1 ((its P.progs c).map AV.bool))]) [8] (fun c=>P.progs.length-c) (fun c=>c≤P.progs.length) (fun _=>[]) 0 (Qn6 _) ?_;rintro c f fr hc;simp only[XF,Qov,QoZ,Qoj,Qok,Qa,seval];by_cases hcl:c<P.progs.length
 case neg=>
  rw[show c=P.progs.length by omega,hA];simp only[QH (show ¬P.progs.length<P.progs.length by omega),Qa,seval]
 have ec:=Qs c _ hcl hmx;simp only[QA hcl,Qa,seval];refine Hc (X:=Nat) (fun i=>[(1,.ptr 0 1 0),(3,.vec 0 12 1 0 P.progs.length false),(4,.bool (((Kn P.progs (its P.progs c) i).take i).all id)),(5,.int .i64 (i:Nat)),(19,.int .i64 (P.progs.length:Nat)),(20,.int .i64 (c:Nat))]) (fun i=>[(1,.cells (Pc P)),(12,.vec 1 1 ((Kn P.progs (its P.progs c) i).map AV.bool))]) [8] (fun i=>P.progs.length-i) (fun i=>i≤P.progs.length) (fun _=>[]) 0 (Qn6 _) ?_;rintro i f fr hi;have hBl:(Kn P.progs (its P.progs c) i).length=P.progs.length:=by rw[Df,Dg]
 simp only[Pc,QoS,XF,Qov,QoZ,Qoj,Qok,eE,seval];rcases XS P.progs i with⟨g,hg,hlt⟩|hlt
 case inr=>
  have hii:i=P.progs.length:=by omega
  have hAc:((Kn P.progs (its P.progs c) i).take i).all id=A (c+1):=by
   rw[Qox (by omega),hii];exact(Qn4 (Nat.succ_ne_zero c)).symm
  simp only[QH hlt,hAc,ec,Qa,seval];exact Ix.go (c+1) (by omega) (by omega) (ho:=by rw[hii];rfl)
 have e1:=Qs i _ hlt hmx;have hst:Kn P.progs (its P.progs c) (i+1)=(Kn P.progs (its P.progs c) i).set i (!g.ops.any (ZU (Kn P.progs (its P.progs c) i))):=by
  rw[Kn]
  conv=>lhs;unfold GB
  rw[hg]
 have htk:=IC (B:=Kn P.progs (its P.progs c) i) (i:=i) (by omega) (!g.ops.any (ZU (Kn P.progs (its P.progs c) i)));rw[←hst]at htk;have hgp:=Xe Qn hg;have hgo:=hP.progs g (Qob hg);rw[Gw]at hgp;generalize hBB:Kn P.progs (its P.progs c) i=B at *;simp only[QA hlt,Qa,seval];refine Hc (X:=Nat) (fun j=>[(1,.ptr 0 1 0),(3,.vec 0 12 1 0 P.progs.length false),(4,.bool ((B.take i).all id)),(5,.int .i64 (i:Nat)),(6,.bool (!(g.ops.take j).any (ZU B))),(7,.int .i64 (j:Nat)),(19,.int .i64 (P.progs.length:Nat)),(20,.int .i64 (c:Nat))]) (fun _=>[(1,.cells (Pc P)),(12,.vec 1 1 (B.map AV.bool))]) [8] (fun j=>g.ops.length-j) (fun j=>j≤g.ops.length) (fun _=>[]) 0 (Qn6 _) ?_;rintro j f fr hj;simp only[Pc,Qp,Qpq,Qf,hgp,QoS,XF,Qov,QoZ,Qoj,Qok,eE,seval];rcases XS g.ops j with⟨o,ho,hlj⟩|hlj
 case inr=>
  rw[Qox (by omega:g.ops.length≤j)];generalize hv:(!g.ops.any (ZU B))=v at *;obtain⟨y,hy⟩:∃y,B[i]? = some y:=⟨B[i]'(by omega),QnX (by omega)⟩;have hym:(B.map AV.bool)[i]? = some (.bool y):=by simp[hy]
  have hset:(B.map AV.bool).set i (.bool v)=(Kn P.progs (its P.progs c) (i+1)).map AV.bool:=by rw[hst,List.map_set]
  cases hal:(B.take i).all id <;>
  ·rw[hal]at htk;simp only[QpE,Qpu]at htk;simp only[QH hlj,AV.rfL,AV.rf,Bool.and_self,Qp,Qpq,Qf,Xn,JI,Am.Qd,hlt,hym,hset,e1,and_self,Qom,cond_true,cond_false,eE,seval];exact Ix.go (i+1) (by omega) (by omega) (hf:=by rw[htk];rfl)
 have hgj:=Xe Qv ho;have e2:=Qs j _ hlj hgo.len;have htg:=hT g (Qob hg) o (Qob ho);have ht:=Cr (q:=ZU B) ho;rw[Gx]at hgj;have fin2:∀v:Bool,(!(g.ops.take j).any (ZU B) && !ZU B o)=v→(!(g.ops.take (j+1)).any (ZU B))=v:=fun v h=>by rw[ht,Bool.not_or,h]
 simp only[QA hlj,Qp,Qpq,Qf,hgp,hgj,eE,seval];cases hb : !(g.ops.take j).any (ZU B)
 ·simp only[e2,cond_true,cond_false,Qa,seval];exact Ix.go (j+1) (by omega) (by omega) (hf:=by rw[fin2 false (by rw[hb];rfl)];rfl)
 cases c1:(o.card != 1)
 case true=>
  simp only[c1,e2,cond_true,cond_false,eE,seval];exact Ix.go (j+1) (by omega) (by omega) (hf:=by rw[fin2 true (by rw[hb];unfold ZU;rw[show(o.card==1)=false by simpa [bne]using c1];rfl)];rfl)
 cases c2:(o.kind != 10)
 case true=>
  simp only[c1,c2,e2,cond_true,cond_false,eE,seval];exact Ix.go (j+1) (by omega) (by omega) (hf:=by rw[fin2 true (by rw[hb];unfold ZU;rw[show(o.kind==10)=false by simpa [bne]using c2,QpG];rfl)];rfl)
 have k1:(o.card==1)=true:=by simpa [bne]using c1
 have k2:(o.kind==10)=true:=by simpa [bne]using c2
 obtain⟨t1,t2⟩:=htg (by simpa using k2);obtain⟨t,hte⟩:=QpH t1;obtain⟨y,hy⟩:∃y,B[t]? = some y:=⟨B[t]'(by omega),QnX (by omega)⟩;have hym:(B.map AV.bool)[t]? = some (.bool y):=by simp[hy]
 have hlt2:t<P.progs.length:=by omega
 simp only[c1,c2,hte,Qp,Qpq,Qf,Xt,Am.Qd,hym,hlt2,and_self,Qom,e2,cond_true,cond_false,eE,seval];exact Ix.go (j+1) (by omega) (by omega) (hf:=by rw[fin2 y (by rw[hb];unfold ZU;rw[k1,k2,hte,Qpq,hy];cases y<;>rfl)];rfl)
theorem z14 {M:Nat}(P:PL)(hP:P.ok M)(hM:M≤140737488351232):Qg Tryz.prog 14 [P.av] (.int .i64 (ck P)):=by
 have e0:P.av=.agg [.list (P.progs.map Qn),.list (P.enums.map QC)]:=rfl;have c1:=z27 P hP;have c2:=z28 P hP;have c3:=z29 P hP;have c4:=z30 P hP;have c5:=z31 P hP;refine wF Tryz.func14 ?_;simp only[eK,Tryz.f14,seval];simp only[e0,ck,eE,seval];refine aC c1 ?_;cases hl:DM P
 ·simp only[Qo5,Qa,seval]
 obtain⟨l1,l2,l3,l4⟩:=GC hl;have c6:=z32 hM P hP l3;simp only[QpF,Qp5,eE,seval];refine aC c2 ?_;cases F9 P
 ·simp only[Qo5,Qa,seval]
 simp only[QpF,Qp5,eE,seval];refine aC c3 ?_;cases DN P
 ·simp only[Qo5,Qa,seval]
 simp only[QpF,Qp5,eE,seval];refine aC c4 ?_;cases Ct P
 ·simp only[Qo5,Qa,seval]
 simp only[QpF,Qp5,eE,seval];refine aC c5 ?_;cases Bb P
 ·simp only[Qo5,Qa,seval]
 simp only[QpF,Qp5,eE,seval];refine aC c6 ?_;cases ha:args P
 ·simp only[Qo5,Qa,seval]
 have c7:=z33 P hP l1 (CD ha);simp only[QpF,Qp5,eE,seval];refine aC c7 ?_;cases fin P
 ·simp only[Qo5,Qa,seval]
 ·simp only[QpF,Qp5,Qa,seval]
open Up
section
variable {M:Nat}{P:PL}(hP:P.ok M)(hM:M≤140737488351232){m:PG→V→Int}{lv:Int}(g:PG)(hg:g.ok M)(v:V)(hv:v.ok M)
end
def WZ (P:PL)(t:Int)(v:V):Int :=
 if t<0∨t≥(P.progs.length:Int)then 10 else if Xp P 16 (Qk P t) v=0 then(if IntKind.i64.wrap (v.cnt:Int) > 4096 then 3 else 0)else Xp P 16 (Qk P t) v
section
variable {M:Nat}{P:PL}(hP:P.ok M)(hM:M≤140737488351232)(hU:J6 P)(t:Int)(v:V)(hv:v.ok M)
include hP hU hv in
theorem v17:Qg Tryz.prog 17 [P.av,.int .i64 t,v.av] (.int .i64 (WZ P t v)):=by
 have e0:P.av=.agg [.list (P.progs.map Qn),.list (P.enums.map QC)]:=rfl;rw[Qc];refine wF Tryz.func17 ?_;simp only[eK,Tryz.f17,seval];simp only[e0,eE,seval];unfold WZ;by_cases t0:t<0
 ·have d0:decide (t<0)=true:=QpY t0;rw[Qn5 (.inl t0)];simp only[d0,Qa,seval]
 have d0:decide (t<0)=false:=QpQ t0;by_cases t1:t≥(P.progs.length:Int)
 ·have d1:decide (t≥(P.progs.length:Int))=true:=QpY t1;rw[Qn5 (.inr t1)];simp only[d0,d1,QoS,eE,seval]
 have d1:decide (t≥(P.progs.length:Int))=false:=QpQ t1;rw[Qn4 (by omega)];obtain⟨i,hi⟩:=QpH (by omega:0≤t);subst hi;have hlt:i<P.progs.length:=by omega
 obtain⟨g,hg⟩:∃g,P.progs[i]? = some g:=⟨P.progs[i],QnX hlt⟩;have hga:(P.progs.map Qn)[i]? = some (.agg g.cells):=by simp[hg,Qn]
 have hq:Qk P (i:Int)=g:=by unfold Qk;rw[Qpq,hg];rfl
 have c1:=v37 hP hU 16 (QnV _) g (Qob hg) v hv;have e16:(17:Int)-((16:Nat):Int)=1:=rfl;have ht:=Ib (P:=P) 16 g v hv;rw[e16,e0,Qc]at c1;simp only[Qn,PG.cells]at c1;simp only[PG.cells]at hga;rw[hq];simp only[d0,d1,Qp,Qpq,Qf,hga,QoS,Qow,Qo6,Qoz,QoF,splice,eE,seval];refine aC c1 ?_;by_cases hz:Xp P 16 g v=0
 ·have c2:=v38 v (ht hz);rw[Qc]at c2;have b0:((0:Int) != 0)=false:=rfl;rw[Qn5 hz];simp only[hz,b0,eE,seval];refine aC c2 ?_;by_cases hc:IntKind.i64.wrap (v.cnt:Int) > 4096
  ·have d2:decide (IntKind.i64.wrap (v.cnt:Int) > 4096)=true:=QpY hc;rw[Qn5 hc];simp only[d2,Qa,seval]
  ·have d2:decide (IntKind.i64.wrap (v.cnt:Int) > 4096)=false:=QpQ hc;rw[Qn4 hc];simp only[d2,Qa,seval]
 ·have b1:(Xp P 16 g v != 0)=true:=by simp[hz]
  rw[Qn4 hz];simp only[b1,Qa,seval]
end
end Go.Proofs.YtgnfjkkfbcnbfaaGreatDoor.Va
namespace Go.Proofs.YtgnfjkkfbcnbfaaGreatDoor.Va
open Go Am Rc Bt Br
open Up So
theorem AU {M:Nat}{v:V}(h:v.ok M):v.nsc.ok M:=by
 refine .mk h.kd ?_ h.text h.nl h.np h.ns h.nr h.list h.keys h.vals h.nums h.slots h.raws;show(Lit.int .u64 ((Xu v.kd v.bits:Nat):Int)).wf=true;unfold Xu;split
 ·rfl
 ·exact h.bits
def Gd (g:PG):Prop:=g.ops.length≤64∧∀o∈g.ops,(Lit.int .i64 o.num).wf=true
section
variable {M:Nat}{P:PL}{nm:PG→V→V}(h:∀t v,v.ok M→(nm (Qk P t) v).ok M)
include h
theorem Mp (o:PO){v:V}(hv:v.ok M):(Xq nm P o v).ok M:=by
 unfold Xq;split
 ·exact h _ v hv
 ·exact AU hv
theorem QfT (o:PO){v:V}(hv:v.ok M):(XN nm P o v).ok M:=by
 unfold XN;split
 ·refine .mk rfl rfl (Qn6 _) ?_ (Qn6 _) (Qn6 _) (Qn6 _) ?_ (fun x hx=>nomatch hx) (fun x hx=>nomatch hx) (fun x hx=>nomatch hx) (fun x hx=>nomatch hx) (fun x hx=>nomatch hx)
  ·show(v.list.map _).length≤_;rw[QoS];exact hv.nl
  ·intro x hx;obtain⟨y,hy,rfl⟩:=Qpi.1 hx;exact Mp h o (hv.list y hy)
 ·split
  ·have hp:(QX o.key v.pairs).Perm v.pairs:=QR _;refine .mk rfl rfl (Qn6 _) (Qn6 _) ?_ (Qn6 _) (Qn6 _) (fun x hx=>nomatch hx) ?_ ?_ (fun x hx=>nomatch hx) (fun x hx=>nomatch hx) (fun x hx=>nomatch hx)
   ·show((QX o.key v.pairs).map _).length≤_;rw[QoS,hp.length_eq];exact hv.np
   ·intro x hx;obtain⟨y,hy,rfl⟩:=Qpi.1 hx;exact AU (hv.keys y (hp.mem_iff.1 hy))
   ·intro x hx;obtain⟨y,hy,rfl⟩:=Qpi.1 hx;exact Mp h o (hv.vals y (hp.mem_iff.1 hy))
  ·exact Mp h o hv
theorem QcP {g:PG}(hg:Gd g){v:V}(hv:v.ok M):(Uj nm P g v).ok M:=by
 unfold Uj;have hp:(ZN v.raws).Perm v.raws:=QR _;have hs:∀x∈g.ops.flatMap (Xg nm P v.slots),(Lit.int .i64 x.1).wf=true∧x.2.ok M:=by
  intro x hx;obtain⟨o,ho,hx⟩:=QoJ.1 hx;obtain⟨e1,s,hs,_,e2⟩:=Zq hx;rw[e1,e2];exact⟨hg.2 o ho,QfT h o (hv.slots s hs)⟩
 have hl:∀l:List PO,(l.flatMap (Xg nm P v.slots)).length≤l.length:=by
  intro l
  induction l with
  |nil=>exact QnV _
  |cons o l ih=>
   have:(Xg nm P v.slots o).length≤1:=by
    unfold Xg;split
    ·simp
    ·split<;>simp
   rw[Qps,QoB,Qoc];omega
 refine .mk rfl rfl (Qn6 _) (Qn6 _) (Qn6 _) ?_ ?_ (fun x hx=>nomatch hx) (fun x hx=>nomatch hx) (fun x hx=>nomatch hx) (fun x hx=>(hs x hx).1) (fun x hx=>(hs x hx).2) ?_
 ·show(g.ops.flatMap (Xg nm P v.slots)).length≤_;have:=hl g.ops;have:=hg.1;omega
 ·show(ZN v.raws).length≤_;rw[hp.length_eq];exact hv.nr
 ·intro x hx;exact hv.raws x (hp.mem_iff.1 hx)
end
theorem Mq {M:Nat}{P:PL}(hg:∀t,Gd (Qk P t)):∀(n:Nat) (t:Int) (v:V),v.ok M→(nrm P n (Qk P t) v).ok M
 |0,_,_,h=>h
 |n+1,t,_,h=>QcP (fun t v hv=>Mq hg n t v hv) (hg t) h
theorem Qa0 {M:Nat}{P:PL}(hP:P.ok M)(hl:∀g∈P.progs,g.ops.length≤64)(t:Int):Gd (Qk P t):=by
 unfold Qk;cases hg:P.progs[t.toNat]? with
 |none=>exact⟨Qn6 _,fun o ho=>nomatch ho⟩
 |some g=>
  have hm:=Qob hg;exact⟨hl g hm,fun o ho=>((hP.progs g hm).ops o ho).num⟩
theorem Mr {P:PL}(h:ck P=0):∀g∈P.progs,g.ops.length≤64:=by
 unfold ck at h;split at h
 ·omega
 rename_i hl;exact(GC (by simpa using hl)).2.2.1
theorem AW (n:Int):Qg Tryz.prog 96 [.int .i64 n,.int .i64 n] (.int .i64 0):=by
 have d1:decide (n<n)=false:=by simp
 have d2:decide (n > n)=false:=by simp
 refine wF Tryz.func96 ?_;simp only[eK,Tryz.f96,seval];simp only[d1,Qa,seval]
theorem QlD (x:R):Qg Tryz.prog 184 [x.av,x.av] (.int .i64 0):=by
 have d1:decide ((x.bits:Int)<(x.bits:Int))=false:=by simp
 have d2:decide ((x.bits:Int) > (x.bits:Int))=false:=by simp
 have s1:QP .lss x.data x.data=some (.bool false):=by simp[QP,KR]
 have s2:QP .gtr x.data x.data=some (.bool false):=by simp[QP,KR]
 refine wF Tryz.func184 ?_;simp only[eK,Tryz.f184,seval];simp only[R.av,bne_self_eq_false,d1,s1,s2,eE,seval]
def RqI (l:List R)(k:Nat)(st:St):Prop :=
 ∃f i,st=⟨f,[Qb],[]⟩∧k=l.length-i∧f 0=.list (l.map R.av)∧f 1=.list (l.map R.av)∧f 5=.int .i64 (i:Nat)
theorem QlE (l:List R)(hn:l.length≤maxLen):Qg Tryz.prog 100 [.list (l.map R.av),.list (l.map R.av)] (.int .i64 0):=by
 refine wF Tryz.func100 ?_;simp only[eK,Tryz.f100,seval];simp only[Qa,seval];refine Qi (RqI l) _ ⟨_,0,rfl,rfl,rfl,rfl,rfl⟩ ?_;rintro _ st ⟨f,i,rfl,rfl,h0,h1,h5⟩;simp only[QoS,h0,h5,Qa,seval];by_cases hlt:i<l.length
 ·obtain⟨x,hi⟩:∃x,l[i]? = some x:=⟨l[i],QnX hlt⟩;have hg:=Nm hi;have e1:=Qs i _ hlt hn;have d0:((0:Int) != 0)=false:=rfl;have c1:=QlD x;simp only[R.av]at c1;simp only[QA hlt,Qp,Qpq,Qf,hg,QoS,h0,h1,h5,eE,seval];refine aC c1 ?_;simp only[d0,h5,e1,Qa,seval];exact⟨l.length-(i+1),by omega,_,i+1,rfl,rfl,h0,h1,rfl⟩
 ·simp only[QH hlt,QoS,h0,h1,Qa,seval];refine aC (AW _) ?_;simp only[Qa,seval]
def P4 (k:Int)(b:Nat):Int :=
 if (k==2||k==3)=true then IntKind.u64.wrap ((b:Int)+9223372036854775808)else if (k != 6)=true then(b:Int)else if Yy b=0 then 18446744073709551615
 else if decide ((b:Int)≥9223372036854775808)=true then IntKind.u64.wrap (18446744073709551615-(b:Int))else IntKind.u64.wrap ((b:Int)+9223372036854775808)
theorem ID (v:V):Qg Tryz.prog 186 [v.av] (.int .u64 (P4 v.kd v.bits)):=by
 have zeq:((0:Int)==0)=true:=rfl;rw[Qc];refine wF Tryz.func186 ?_;simp only[eK,Tryz.f186,seval];simp only[eE,seval];refine aC (Qfm v.kd) ?_;unfold P4;cases h1:(v.kd==2||v.kd==3)
 ·cases h2:(v.kd != 6)
  ·simp only[h2,Qog,eE,seval];refine aC (w87 v.bits) ?_;by_cases h3:Yy v.bits=0
   ·have zc:((Yy v.bits:Int)==0)=true:=by rw[CJ];exact QpY h3
    rw[Qn5 h3];simp only[zc,Qa,seval]
   ·have zc:((Yy v.bits:Int)==0)=false:=by rw[CJ];exact QpQ h3
    rw[Qn4 h3];cases h4:decide ((v.bits:Int)≥9223372036854775808)<;>simp only[zc,h4,Qog,eE,seval]
  ·simp only[h2,Qog,eE,seval]
 ·simp only[eE,seval]
theorem SB (v:V):Qg Tryz.prog 101 [v.av,v.av] (.int .i64 0):=by
 have d1:decide (v.kd<v.kd)=false:=by simp
 have d2:decide (v.kd > v.kd)=false:=by simp
 have s1:QP .lss v.text v.text=some (.bool false):=by simp[QP,KR]
 have s2:QP .gtr v.text v.text=some (.bool false):=by simp[QP,KR]
 have r1:decide (P4 v.kd v.bits<P4 v.kd v.bits)=false:=by simp
 have r2:decide (P4 v.kd v.bits > P4 v.kd v.bits)=false:=by simp
 have hr:=ID v;rw[Qc]at hr;rw[Qc];refine wF Tryz.func101 ?_;simp only[eK,Tryz.f101,seval];simp only[d1,eE,seval];refine aC (LD v.kd) ?_;cases h1:isk v.kd
 ·simp only[Qa,seval]
 simp only[eE,seval];refine aC (Y8 v.kd) ?_;cases h2:Zx v.kd
 ·simp only[eE,seval];refine aC (Y8 v.kd) ?_;simp only[h2,eE,seval];refine aC (Y8 v.kd) ?_;simp only[h2,eE,seval];refine aC hr ?_;simp only[eE,seval];refine aC hr ?_;simp only[r1,eE,seval];refine aC hr ?_;simp only[eE,seval];refine aC hr ?_;simp only[r2,Qa,seval]
 ·simp only[s1,eE,seval];refine aC (Y8 v.kd) ?_;simp only[h2,s2,eE,seval];refine aC (Y8 v.kd) ?_;simp only[h2,Qa,seval]
def LqI (l:List V)(k:Nat)(st:St):Prop :=
 ∃f i,st=⟨f,[Qb],[]⟩∧k=l.length-i∧f 0=.list (l.map V.av)∧f 1=.list (l.map V.av)∧f 5=.int .i64 (i:Nat)
theorem SC (l:List V)(hn:l.length≤maxLen)(h:∀x∈l,Qg Tryz.prog 51 [x.av,x.av] (.int .i64 0)):Qg Tryz.prog 97 [.list (l.map V.av),.list (l.map V.av)] (.int .i64 0):=by
 refine wF Tryz.func97 ?_;simp only[eK,Tryz.f97,seval];simp only[Qa,seval];refine Qi (LqI l) _ ⟨_,0,rfl,rfl,rfl,rfl,rfl⟩ ?_;rintro _ st ⟨f,i,rfl,rfl,h0,h1,h5⟩;simp only[QoS,h0,h5,Qa,seval];by_cases hlt:i<l.length
 ·obtain⟨x,hi⟩:∃x,l[i]? = some x:=⟨l[i],QnX hlt⟩;have hg:=U4 hi;have e1:=Qs i _ hlt hn;have d0:((0:Int) != 0)=false:=rfl;have c1:=h x (Qob hi);rw[Qc]at c1;simp only[QA hlt,Qp,Qpq,Qf,hg,QoS,h0,h1,h5,eE,seval];refine aC c1 ?_;simp only[d0,h5,e1,Qa,seval];exact⟨l.length-(i+1),by omega,_,i+1,rfl,rfl,h0,h1,rfl⟩
 ·simp only[QH hlt,QoS,h0,h1,Qa,seval];refine aC (AW _) ?_;simp only[Qa,seval]
def PzI (l:List (V×V))(k:Nat)(st:St):Prop :=
 ∃f i,st=⟨f,[Qb],[]⟩∧k=l.length-i∧f 0=.list (l.map V.pav)∧f 1=.list (l.map V.pav)∧f 5=.int .i64 (i:Nat)
theorem SD (l:List (V×V))(hn:l.length≤maxLen)(h:∀x∈l,Qg Tryz.prog 51 [x.1.av,x.1.av] (.int .i64 0)∧Qg Tryz.prog 51 [x.2.av,x.2.av] (.int .i64 0)):Qg Tryz.prog 98 [.list (l.map V.pav),.list (l.map V.pav)] (.int .i64 0):=by
 refine wF Tryz.func98 ?_;simp only[eK,Tryz.f98,seval];simp only[Qa,seval];refine Qi (PzI l) _ ⟨_,0,rfl,rfl,rfl,rfl,rfl⟩ ?_;rintro _ st ⟨f,i,rfl,rfl,h0,h1,h5⟩;simp only[QoS,h0,h5,Qa,seval];by_cases hlt:i<l.length
 ·obtain⟨x,hi⟩:∃x,l[i]? = some x:=⟨l[i],QnX hlt⟩;have hg:=J3 hi;have e1:=Qs i _ hlt hn;have d0:((0:Int) != 0)=false:=rfl;obtain⟨c1,c2⟩:=h x (Qob hi);rw[Qc]at c1 c2;simp only[QA hlt,Qp,Qpq,Qf,hg,QoS,Qow,Qo6,QoF,h0,h1,h5,eE,seval];refine aC c1 ?_;simp only[d0,Qp,Qpq,Qf,hg,Qow,Qoz,QoF,h0,h1,h5,eE,seval];refine aC c2 ?_;simp only[d0,h5,e1,Qa,seval];exact⟨l.length-(i+1),by omega,_,i+1,rfl,rfl,h0,h1,rfl⟩
 ·simp only[QH hlt,QoS,h0,h1,Qa,seval];refine aC (AW _) ?_;simp only[Qa,seval]
def SqI (l:List (Int×V))(k:Nat)(st:St):Prop :=
 ∃f i,st=⟨f,[Qb],[]⟩∧k=l.length-i∧f 0=.list (l.map V.sav)∧f 1=.list (l.map V.sav)∧f 5=.int .i64 (i:Nat)
theorem SE (l:List (Int×V))(hn:l.length≤maxLen)(h:∀x∈l,Qg Tryz.prog 51 [x.2.av,x.2.av] (.int .i64 0)):Qg Tryz.prog 99 [.list (l.map V.sav),.list (l.map V.sav)] (.int .i64 0):=by
 refine wF Tryz.func99 ?_;simp only[eK,Tryz.f99,seval];simp only[Qa,seval];refine Qi (SqI l) _ ⟨_,0,rfl,rfl,rfl,rfl,rfl⟩ ?_;rintro _ st ⟨f,i,rfl,rfl,h0,h1,h5⟩;simp only[QoS,h0,h5,Qa,seval];by_cases hlt:i<l.length
 ·obtain⟨x,hi⟩:∃x,l[i]? = some x:=⟨l[i],QnX hlt⟩;have hg:=WR hi;have e1:=Qs i _ hlt hn;have d0:((0:Int) != 0)=false:=rfl;have c2:=h x (Qob hi);rw[Qc]at c2;simp only[QA hlt,Qp,Qpq,Qf,hg,QoS,QoF,h0,h1,h5,eE,seval];refine aC (AW x.1) ?_;simp only[d0,Qp,Qpq,Qf,hg,Qow,Qoz,QoF,h0,h1,h5,eE,seval];refine aC c2 ?_;simp only[d0,h5,e1,Qa,seval];exact⟨l.length-(i+1),by omega,_,i+1,rfl,rfl,h0,h1,rfl⟩
 ·simp only[QH hlt,QoS,h0,h1,Qa,seval];refine aC (AW _) ?_;simp only[Qa,seval]
theorem IE (v:V)(hc:v.cnt≤1048576):Qg Tryz.prog 51 [v.av,v.av] (.int .i64 0):=by
 revert hc
 refine V.ind (P:=fun v=>v.cnt≤1048576→Qg Tryz.prog 51 [v.av,v.av] (.int .i64 0)) ?_ v;clear v;intro v hl hp hs hc;have l1:=ZJ v;have l2:=Jr v;have l3:=Zj v;have l4:=KG v;have c1:=SC v.list (by simp only[maxLen];omega) fun x hx=>hl x hx (QnU (Wi hx) hc)
 have c2:=SD v.pairs (by simp only[maxLen];omega) fun x hx=>⟨(hp x hx).1 (QnU (Dr hx) hc),(hp x hx).2 (QnU (Yk hx) hc)⟩
 have c3:=SE v.slots (by simp only[maxLen];omega) fun x hx=>hs x hx (QnU (Z9 hx) hc)
 have c4:=QlE v.raws (by simp only[maxLen];omega);have c5:=SB v;have d0:((0:Int) != 0)=false:=rfl;rw[Qc]at c5;rw[Qc];refine wF Tryz.func51 ?_;simp only[eK,Tryz.f51,seval];simp only[bne_self_eq_false,eE,seval];cases b1:(v.kd==11)
 ·cases b2:(v.kd==12)
  ·cases b3:(v.kd==10)
   ·simp only[b2,b3,eE,seval];refine aC c5 ?_;simp only[Qa,seval]
   ·simp only[b2,b3,eE,seval];refine aC c3 ?_;simp only[d0,eE,seval];refine aC c4 ?_;simp only[Qa,seval]
  ·simp only[b2,eE,seval];refine aC c2 ?_;simp only[Qa,seval]
 ·simp only[eE,seval];refine aC c1 ?_;simp only[Qa,seval]
theorem N7 {P:Program}{K:St→Prop}{its:List Am.Item}{f:Fr}{m:Qj}{ds:List DF}{d:Nat}{sz bytes el:Nat}{s r:RA}{site g n site' g' n':Nat}{fr:Nat→Ob}{xs ys:List AV}(hs:s.ev f=.vec 0 site g 0 n false)(hl:fr site=.vec g sz xs)(ht:Zn site el=true)(hn:n=xs.length)
  (hr:r.ev f=.vec 0 site' g' 0 n' false) (hr2:fr site'=.vec g' sz ys) (hn':n'=ys.length) (hz:ys.all (fun e=>e.cells.length==sz)=true) (hm:n+ys.length≤maxLen) (hb:(n+ys.length)*bytes≤140737488355328)
  (h:QE P its ⟨QI f d (.vec 0 site (g+1) 0 (n+ys.length) false),QI fr site (.vec (g+1) sz (xs++ys)) :: m,ds⟩ K):QE P (⟨some d,.app sz bytes el s r,none⟩ :: its) ⟨f,fr :: m,ds⟩ K:=by
 refine⟨0,site,g,n,xs,ys,hs,hl,ht,by omega,?_,hz,hm,hb,?_⟩
 ·show Xi (fr :: m) (r.ev f)=some ys;rw[hr];exact UB hr2 hn'
 ·subst hn;rw[QpC];exact h
theorem QcQ (l O:List R)(i:Nat)(x:R)(hx:l[i]? = some x)(hO:O.length≤maxLen)(hs:Zm (fun x y:R=>decide (x.num<y.num)) O)(fr:Nat→Ob)(f:Fr)(h0:f 0=.list (l.map R.av))(h3:f 3=.list (O.map R.av))(h4:f 4=.int .i64 (i:Nat))(h5:f 5=.int .i64 (O.length:Nat))(Q:Exit→St→Prop)
  (q:∀(t:Nat) (f:Fr),t≤O.length→(∀j u,t≤j→O[j]? = some u→decide (x.num<u.num)=true)→(∀j u,j<t→O[j]? = some u→decide (x.num<u.num)=false)→f 0=.list (l.map R.av)→f 3=.list (O.map R.av)→f 4=.int .i64 (i:Nat)→f 5=.int .i64 (t:Nat)→Q (.exit 2) (⟨f,[fr],[]⟩:St)) :
  Q2 Tryz.prog (.loop Ll) ⟨f,[fr],[]⟩ Q:=by
 let I:Nat→St→Prop:=fun k st=>∃f t,st=⟨f,[fr],[]⟩∧k=t∧t≤O.length∧(∀j u,t≤j→O[j]? = some u→decide (x.num<u.num)=true)∧f 0=.list (l.map R.av)∧f 3=.list (O.map R.av)∧f 4=.int .i64 (i:Nat)∧f 5=.int .i64 (t:Nat)
 refine Qi I _ ⟨f,O.length,rfl,rfl,QnV _,(by intro j u hj hu;rw[Qpm hj]at hu;cases hu),h0,h3,h4,h5⟩ ?_;clear h0 h3 h4 h5;rintro t st ⟨f,_,rfl,rfl,ht,hv,h0,h3,h4,h5⟩;have hxa:=Nm hx;simp only[h5,Qa,seval];cases t with
 |zero=>
  have d1:decide (((0:Nat):Int) > 0)=false:=by simp
  simp only[Qa,seval];exact q 0 _ (Qn6 _) hv (fun j u hj=>by omega) h0 h3 h4 h5
 |succ r=>
  obtain⟨u,hu⟩:∃u,O[r]? = some u:=⟨O[r]'(by omega),QnX (by omega)⟩;have hua:=Nm hu;have d1:decide (((r+1:Nat):Int) > 0)=true:=by simp only[Qn1];omega
  have e2:IntKind.i64.wrap (((r+1:Nat):Int)-1)=((r:Nat):Int):=by
   simp only[maxLen]at hO;rw[Qz];omega
  simp only[d1,e2,Qp,Qpq,Qf,hxa,hua,h0,h3,h4,h5,eE,seval];cases hcx:decide (u.num > x.num)
  ·simp only[Qa,seval];refine q (r+1) _ ht hv (fun j u' hj hu'=>?_) h0 h3 h4 h5;have:=Yx hs CM (show j≤r by omega) hu' hu;exact CM.nt x u u' hcx this
  ·simp only[e2,h5,Qa,seval];exact⟨r,by omega,_,r,rfl,rfl,by omega,(by
    intro j v hj hv';rcases Nat.lt_or_eq_of_le hj with h|h
    ·exact hv j v h hv'
    ·subst h;rw[hu]at hv';cases hv';exact hcx),h0,h3,h4,rfl⟩
def RwI (l:List R)(k:Nat)(st:St):Prop :=
 ∃f fr i,st=⟨f,[fr],[]⟩∧k=l.length-i∧i≤l.length∧f 0=.list (l.map R.av)∧f 3=.list ((ZN (l.take i)).map R.av)∧f 4=.int .i64 (i:Nat)∧Qo (fr 37)=true∧Qo (fr 42)=true
set_option maxHeartbeats 1000000 in
theorem v21 (l:List R)(hn:l.length≤1048576):Qg Tryz.prog 21 [.list (l.map R.av)] (.list ((ZN l).map R.av)):=by
 refine k21.fn (by simp) ?_;simp only[Qa,seval];refine V1 (by simp only[Qa,seval]) ?_;simp only[Qa,seval];refine Qi (RwI l) _ ⟨_,_,0,rfl,rfl,Qn6 _,(by rfl),rfl,(by rfl),rfl,rfl⟩ ?_;rintro _ st ⟨f,fr,i,rfl,rfl,hil,h0,h3,h4,r37,r42⟩;simp only[QoS,h0,h4,Qa,seval];by_cases hlt:i<l.length
 ·obtain⟨x,hi⟩:∃x,l[i]? = some x:=⟨l[i],QnX hlt⟩;have hxa:=Nm hi;have e1:=Qs i _ hlt (by simp only[maxLen];omega);have hp:(ZN (l.take i)).Perm (l.take i):=QR _;have hO:(ZN (l.take i)).length=i:=by rw[hp.length_eq,QoU];omega
  clear hp;have hstep:ZN (l.take (i+1))=mg (fun x y:R=>decide (x.num<y.num)) (ZN (l.take i)) [x]:=by
   rw[QpM,hi,Option.toList_some];exact(Yg CM (l.take i) [x]).symm
  have hsrt:Zm (fun x y:R=>decide (x.num<y.num)) (ZN (l.take i)):=Zh CM _;generalize ZN (l.take i)=O at *;simp only[QA hlt,QoS,h3,Qa,seval];refine QcQ l O i x hi (by simp only[maxLen];omega) hsrt fr _ (by exact h0) (by exact h3) (by exact h4) (by rfl) _ (fun t f ht hv hlow h0 h3 h4 h5=>?_);have hfin:(O.take t).map R.av++([x.av]++(O.drop t).map R.av)=(ZN (l.take (i+1))).map R.av:=by
   have:=Ui (lt:=fun x y:R=>decide (x.num<y.num)) (y:=x) (X1:=O.take t) (X2:=O.drop t) (fun u hu=>by
    obtain⟨j,hj⟩:=Qqg hu;rw[QoC]at hj;split at hj
    ·rename_i hjt;exact hlow j u hjt hj
    ·cases hj) (fun u hu=>by
    obtain⟨j,hj⟩:=Qqg hu;rw[QoD]at hj;exact hv _ u (by omega) hj)
   rw[Qpf]at this;rw[hstep,this];simp
  have hle:(t≤O.length)=True:=eq_true ht;have hdt:∀l':List AV,l'.length=O.length→(l'.drop t).take (O.length-t)=l'.drop t:=fun l' h=>Qox (by rw[QoE];omega)
  have hd1:((O.drop t).map R.av).length=i-t:=by rw[QoS,QoE];omega
  have hd2:((O.take t).map R.av).length=t:=by rw[QoS,QoU];omega
  have hT:∀j,i+1≤j→List.take j ((O.take t).map R.av++([x.av]++(O.drop t).map R.av))=(ZN (l.take (i+1))).map R.av:=fun j hj=>by
   rw[Qox (by simp only[QoB,Qoc,QoT,hd1,hd2];omega),hfin]
  simp only[Qp,Qpq,Qf,hxa,h0,h4,eE,seval];refine FT (l:=[.int .i64 x.num,.int .i64 x.wire,.int .u64 (x.bits:Nat),.str x.data]) rfl rfl (by decide) rfl rfl r37 ?_;simp only[nn0,Qov,QoZ,QoS,Jl,Xm,QpB,Qp,Qpq,hle,QnV,or_true,Yj,hdt _ (QoS ..),h3,h5,Qa,seval];refine QK (site:=37) (g:=XP (fr 37)) (n:=1) (xs:=[x.av]) (ys:=(O.drop t).map R.av) (by simp only[Qa,seval]) (by simp only[R.av,Qa,seval]) rfl rfl (by simp only[List.map_drop,Qa,seval]) (Yj _) (by rw[hd1];simp only[maxLen];omega) (by rw[hd1];omega) ?_;simp only[Qa,seval];refine Jn (by simp only[Qa,seval];exact r42) ?_;simp only[QoS,Jl,Z7,Xm,QpB,Qp,Qpq,Qn6,QnV,hle,true_or,QoW,QoF,←List.map_take,h3,h5,Qa,seval];refine QK (site:=42) (g:=_) (n:=0) (xs:=[]) (ys:=(O.take t).map R.av) (by simp only[Qa,seval]<;>rfl) (by simp only[Qa,seval]) rfl rfl (by simp only[Qa,seval]) (Yj _) (by rw[hd2];simp only[maxLen];omega) (by rw[hd2];omega) ?_;simp only[Qa,seval];refine N7 (site:=42) (g:=_) (n:=0+((O.take t).map R.av).length) (xs:=(O.take t).map R.av) (ys:=[x.av]++(O.drop t).map R.av) (by simp only[Qa,seval]<;>rfl) (by simp only[Qa,seval]) rfl (by omega) (by simp only[Qa,seval]<;>rfl) (by simp only[Qa,seval]) (by simp only[QoB,Qoc,QoT,QoS]<;>omega) (Yj (x :: O.drop t)) (by simp only[QoB,Qoc,QoT,hd1,hd2,maxLen];omega) (by simp only[QoB,Qoc,QoT,hd1,hd2];omega) ?_;simp only[Qa,seval];refine Db (site:=42) (g:=_) (sz:=4) (n:=_) (xs:=(O.take t).map R.av++([x.av]++(O.drop t).map R.av)) (by simp only[Qa,seval]<;>rfl) (by simp only[Qa,seval]) (by simp only[QoB,Qoc,QoT,hd1,hd2];omega) ?_;rw[hT];rotate_left
  ·simp only[hd1,hd2];omega
  simp only[e1,h4,Qa,seval];exact⟨l.length-(i+1),by omega,_,_,i+1,rfl,rfl,by omega,(by exact h0),(by rfl),(by rfl),rfl,rfl⟩
 ·have hli:l.take i=l:=Qox (by omega);rw[hli]at h3;simp only[QH hlt,h3,Qa,seval]
theorem QfU (k:Int)(a b:V)(_ha:a.bits<18446744073709551616)(_hb:b.bits<18446744073709551616):decide (DP k a.bits a.text b.bits b.text<0)=kl k a b:=by
 unfold DP kl;split
 ·exact QaW _ _
 ·rw[Vt];unfold W5;split
  ·rw[decide_eq_decide,Jj,Jj,Qz,Qz];omega
  ·rfl
section
variable {P:PL}{k:Int}(hk:XU k)(ps:List (V×V))(hn:ps.length≤1048576)(h1:∀p∈ps,p.1.one P k (-1)=0)(hb:∀p∈ps,p.1.bits<18446744073709551616)
include hk in
theorem Ms {p q:V×V}(hp:p.1.one P k (-1)=0)(hq:q.1.one P k (-1)=0):Qg Tryz.prog 51 [p.1.av,q.1.av] (.int .i64 (DP k p.1.bits p.1.text q.1.bits q.1.text)):=by
 have h:=v51 k hk p.1.bits q.1.bits p.1.text q.1.text;rw[←(JF hp).1,←(JF hq).1]at h;exact h
theorem AX (hk:XU k)(hn:ps.length≤1048576)(h1:∀p∈ps,p.1.one P k (-1)=0)(hb:∀p∈ps,p.1.bits<18446744073709551616)(hu:ps.Pairwise fun q p=>Xz q.1 p.1=false)(O:List (V×V))(i:Nat)(x:V×V)(hx:ps[i]? = some x)(fr:Nat→Ob)(f:Fr)(h0:f 0=.list (ps.map V.pav))(h3:f 3=.list (O.map V.pav))(h4:f 4=.int .i64 (i:Nat))(h5:f 5=.bool true)(h6:f 6=.int .i64 ((i+1:Nat):Int))(Q:Exit→St→Prop)
  (q:∀f:Fr,f 0=.list (ps.map V.pav)→f 3=.list (O.map V.pav)→f 4=.int .i64 (i:Nat)→f 5=.bool true→Q (.exit 2) (⟨f,[fr],[]⟩:St)) :
  Q2 Tryz.prog (.loop Lq) ⟨f,[fr],[]⟩ Q:=by
 let I:Nat→St→Prop:=fun n st=>∃f j,st=⟨f,[fr],[]⟩∧n=ps.length-j∧i<j∧f 0=.list (ps.map V.pav)∧f 3=.list (O.map V.pav)∧f 4=.int .i64 (i:Nat)∧f 5=.bool true∧f 6=.int .i64 (j:Nat)
 refine Qi I _ ⟨f,i+1,rfl,rfl,by omega,h0,h3,h4,h5,h6⟩ ?_;clear h0 h3 h4 h5 h6;rintro _ st ⟨f,j,rfl,rfl,hij,h0,h3,h4,h5,h6⟩;simp only[QoS,h0,h6,Qa,seval];by_cases hlt:j<ps.length
 ·obtain⟨y,hj⟩:∃y,ps[j]? = some y:=⟨ps[j],QnX hlt⟩;have hgx:=J3 hx;have hgy:=J3 hj;have e1:=Qs j _ hlt (by simp only[maxLen];omega);have hxm:=Qob hx;have hym:=Qob hj;have c1:=Ms hk (h1 x hxm) (h1 y hym);have hne:DP k x.1.bits x.1.text y.1.bits y.1.text≠0:=by
   have h:=Qcs hk (h1 x hxm) (h1 y hym) (hb x hxm) (hb y hym);rw[Qqa]at hu;have:=hu i j (QnW.1 hx).1 hlt hij;rw[(QnW.1 hx).2,(QnW.1 hj).2]at this;rw[this]at h
   simpa using h
  have d1:(DP k x.1.bits x.1.text y.1.bits y.1.text != 0)=true:=by simp[hne]
  rw[Qc,Qc]at c1;simp only[QA hlt,Qp,Qpq,Qf,hgx,hgy,Qow,Qo6,QoF,h0,h4,h5,h6,eE,seval];refine aC c1 ?_;simp only[d1,h6,e1,Qa,seval];exact⟨ps.length-(j+1),by omega,_,j+1,rfl,rfl,by omega,h0,h3,h4,rfl,rfl⟩
 ·simp only[QH hlt,Qa,seval];exact q _ h0 h3 h4 h5
theorem SF (hk:XU k)(O:List (V×V))(hO:O.length≤1048576)(hO1:∀p∈O,p.1.one P k (-1)=0)(hOb:∀p∈O,p.1.bits<18446744073709551616)(i:Nat)(x:V×V)(hx:ps[i]? = some x)(hx1:x.1.one P k (-1)=0)(hxb:x.1.bits<18446744073709551616)(fr:Nat→Ob)(f:Fr)(h0:f 0=.list (ps.map V.pav))(h3:f 3=.list (O.map V.pav))(h4:f 4=.int .i64 (i:Nat))(h7:f 7=.int .i64 0)(Q:Exit→St→Prop)
  (q:∀(t:Nat) (f:Fr),t≤O.length→(∀j u,j<t→O[j]? = some u→kl k u.1 x.1=true)→(∀u,O[t]? = some u→kl k u.1 x.1=false)→f 0=.list (ps.map V.pav)→f 3=.list (O.map V.pav)→f 4=.int .i64 (i:Nat)→f 7=.int .i64 (t:Nat)→Q (.exit 4) (⟨f,[fr],[]⟩:St)) :
  Q2 Tryz.prog (.loop Lr) ⟨f,[fr],[]⟩ Q:=by
 let I:Nat→St→Prop:=fun n st=>∃f t,st=⟨f,[fr],[]⟩∧n=O.length-t∧t≤O.length∧(∀j u,j<t→O[j]? = some u→kl k u.1 x.1=true)∧f 0=.list (ps.map V.pav)∧f 3=.list (O.map V.pav)∧f 4=.int .i64 (i:Nat)∧f 7=.int .i64 (t:Nat)
 refine Qi I _ ⟨f,0,rfl,rfl,Qn6 _,(by intro j u hj;omega),h0,h3,h4,h7⟩ ?_;clear h0 h3 h4 h7;rintro _ st ⟨f,t,rfl,rfl,ht,hv,h0,h3,h4,h7⟩;simp only[QoS,h3,h7,Qa,seval];by_cases hlt:t<O.length
 ·obtain⟨u,hu⟩:∃u,O[t]? = some u:=⟨O[t],QnX hlt⟩;have hgx:=J3 hx;have hgu:=J3 hu;have hum:=Qob hu;have e1:=Qs t _ hlt (by simp only[maxLen];omega);have c1:=Ms hk (hO1 u hum) hx1;have hc:=QfU k u.1 x.1 (hOb u hum) hxb;rw[Qc,Qc]at c1;simp only[QA hlt,Qp,Qpq,Qf,hgx,hgu,Qow,Qo6,QoF,h0,h3,h4,h7,eE,seval];refine aC c1 ?_;cases hl:kl k u.1 x.1
  ·rw[hl]at hc;simp only[hc,Qa,seval];exact q t _ (by omega) hv (fun u' hu'=>by rw[hu]at hu';cases hu';exact hl) h0 h3 h4 h7
  ·rw[hl]at hc;simp only[hc,h7,e1,Qa,seval];exact⟨O.length-(t+1),by omega,_,t+1,rfl,rfl,by omega,(by
    intro j u' hj hu';rcases Nat.lt_or_eq_of_le (show j≤t by omega)with h|h
    ·exact hv j u' h hu'
    ·subst h;rw[hu]at hu';cases hu';exact hl),h0,h3,h4,rfl⟩
 ·simp only[QH hlt,Qa,seval];exact q t _ ht hv (fun u hu=>by rw[Qpm (by omega)]at hu;cases hu) h0 h3 h4 h7
end
theorem Mt {k:Int}{P:PL}{a b:V}(ha:a.one P k (-1)=0)(hb:b.one P k (-1)=0)(ba:a.bits<18446744073709551616)(bb:b.bits<18446744073709551616)(h1:kl k a b=false)(h2:Xz a b=false):kl k b a=true:=by
 obtain⟨_,a1,a2⟩:=JF ha;obtain⟨_,b1,b2⟩:=JF hb;cases hc:kl k b a with
 |true=>rfl
 |false=>
  exfalso;unfold kl at h1 hc;unfold Xz at h2;split at h1
  ·rename_i ht;rw[Qn5 ht]at hc;have e:=GH h1 hc;have e1:=a1 ht;have e2:=b1 ht;rw[e,show a.bits=b.bits by omega]at h2;simp at h2
  ·rename_i ht;rw[Qn4 ht]at hc;have ht:Zx k=false:=by simpa using ht
   rw[a2 ht,b2 ht]at h2;split at h1
   ·rename_i hs;rw[Qn5 hs]at hc;simp only[QpZ]at h1 hc;rw[Qz,Qz]at h1 hc;rw[show a.bits=b.bits by omega]at h2;simp at h2
   ·rename_i hs;rw[Qn4 hs]at hc;simp only[QpZ]at h1 hc;rw[show a.bits=b.bits by omega]at h2;simp at h2
def PwI (k:Int)(ps:List (V×V))(n:Nat)(st:St):Prop :=
 ∃f fr i,st=⟨f,[fr],[]⟩∧n=ps.length-i∧i≤ps.length∧f 0=.list (ps.map V.pav)∧f 3=.list ((QX k (ps.take i)).map V.pav)∧f 4=.int .i64 (i:Nat)∧Qo (fr 63)=true∧Qo (fr 68)=true
set_option maxHeartbeats 1000000 in
theorem v43 {P:PL}{k:Int}(hk:XU k)(ps:List (V×V))(hn:ps.length≤1048576)(h1:∀p∈ps,p.1.one P k (-1)=0)(hb:∀p∈ps,p.1.bits<18446744073709551616)(hu:ps.Pairwise fun q p=>Xz q.1 p.1=false):Qg Tryz.prog 43 [.list (ps.map V.pav)] (.list ((QX k ps).map V.pav)):=by
 refine k43.fn (by simp) ?_;simp only[Qa,seval];refine V1 (by simp only[Qa,seval]) ?_;simp only[Qa,seval];refine Qi (PwI k ps) _ ⟨_,_,0,rfl,rfl,Qn6 _,(by rfl),rfl,(by rfl),rfl,rfl⟩ ?_;rintro _ st ⟨f,fr,i,rfl,rfl,hil,h0,h3,h4,r63,r68⟩;simp only[QoS,h0,h4,Qa,seval];by_cases hlt:i<ps.length
 ·obtain⟨x,hi⟩:∃x,ps[i]? = some x:=⟨ps[i],QnX hlt⟩;have hxm:=Qob hi;have hxa:=J3 hi;have e1:=Qs i _ hlt (by simp only[maxLen];omega);have hperm:(QX k (ps.take i)).Perm (ps.take i):=QR _;have hO:(QX k (ps.take i)).length=i:=by rw[hperm.length_eq,QoU];omega
  have hstep:QX k (ps.take (i+1))=mg (fun x y:V×V=>kl k x.1 y.1) (QX k (ps.take i)) [x]:=by
   rw[QpM,hi,Option.toList_some];exact(Yg (J2 k) (ps.take i) [x]).symm
  have hsrt:Zm (fun x y:V×V=>kl k x.1 y.1) (QX k (ps.take i)):=Zh (J2 k) _;have hOm:∀p∈QX k (ps.take i),p∈ps:=fun p hp=>QoL (hperm.mem_iff.1 hp)
  have hOk:∀p∈QX k (ps.take i),Xz p.1 x.1=false:=by
   intro p hp;obtain⟨j,hj⟩:=Qn9.1 (hperm.mem_iff.1 hp);have hjl:=(QnW.1 hj).1;rw[QoU]at hjl;rw[QoC,Qn5 (by omega)]at hj;rw[Qqa]at hu;have:=hu j i (by omega) hlt (by omega);rw[(QnW.1 hj).2,(QnW.1 hi).2]at this;exact this
  generalize QX k (ps.take i)=O at *;simp only[QA hlt,e1,h4,Qa,seval];refine AX ps hk hn h1 hb hu O i x hi fr _ (by exact h0) (by exact h3) (by exact h4) (by rfl) (by rfl) _ (fun f h0 h3 h4 h5=>?_);simp only[h5,Qa,seval];refine SF (P:=P) ps hk O (by omega) (fun p hp=>h1 p (hOm p hp)) (fun p hp=>hb p (hOm p hp)) i x hi (h1 x hxm) (hb x hxm) fr _ (by exact h0) (by exact h3) (by exact h4) (by rfl) _ (fun t f ht hlow hup h0 h3 h4 h7=>?_);have hfin:(O.take t).map V.pav++([V.pav x]++(O.drop t).map V.pav)=(QX k (ps.take (i+1))).map V.pav:=by
   have:=Ui (lt:=fun x y:V×V=>kl k x.1 y.1) (y:=x) (X1:=O.take t) (X2:=O.drop t) (fun u hu=>by
    obtain⟨j,hj⟩:=Qqg hu;rw[QoC]at hj;split at hj
    ·rename_i hjt;exact(J2 k).as (hlow j u hjt hj)
    ·cases hj) (fun u hu'=>by
    obtain⟨j,hj⟩:=Qqg hu';rw[QoD]at hj;have hum:=Qob hj;refine Mt (h1 u (hOm u hum)) (h1 x hxm) (hb u (hOm u hum)) (hb x hxm) ?_ (hOk u hum);obtain⟨w,hw⟩:∃w,O[t]? = some w:=⟨O[t]'(by have:=(QnW.1 hj).1;omega),QnX _⟩;have h2:=Yx hsrt (J2 k) (Nat.le_add_right t j) hw hj;exact(J2 k).nt u w x h2 (hup w hw))
   rw[Qpf]at this;rw[hstep,this];simp
  have hle:(t≤O.length)=True:=eq_true ht;have hdt:∀l':List AV,l'.length=O.length→(l'.drop t).take (O.length-t)=l'.drop t:=fun l' h=>Qox (by rw[QoE];omega)
  have hd1:((O.drop t).map V.pav).length=i-t:=by rw[QoS,QoE];omega
  have hd2:((O.take t).map V.pav).length=t:=by rw[QoS,QoU];omega
  have hT:∀j,i+1≤j→List.take j ((O.take t).map V.pav++([V.pav x]++(O.drop t).map V.pav))=(QX k (ps.take (i+1))).map V.pav:=fun j hj=>by
   rw[Qox (by simp only[QoB,Qoc,QoT,hd1,hd2];omega),hfin]
  simp only[Qp,Qpq,Qf,hxa,Qow,QoF,h0,h4,eE,seval];refine FT (l:=[.int .i64 x.1.kd,.int .u64 (x.1.bits:Nat),.str x.1.text,.list (x.1.list.map V.av),.list (x.1.pairs.map V.pav),.list (x.1.slots.map V.sav),.list (x.1.raws.map R.av),.int .i64 x.2.kd,.int .u64 (x.2.bits:Nat),.str x.2.text,.list (x.2.list.map V.av),.list (x.2.pairs.map V.pav),.list (x.2.slots.map V.sav),.list (x.2.raws.map R.av)]) rfl rfl (by decide) rfl rfl r63 ?_;simp only[nn0,Qov,QoZ,QoS,Jl,Xm,QpB,Qp,Qpq,hle,QnV,or_true,JH,hdt _ (QoS ..),h3,h7,Qa,seval];refine QK (site:=63) (g:=XP (fr 63)) (n:=1) (xs:=[V.pav x]) (ys:=(O.drop t).map V.pav) (by simp only[Qa,seval]) (by simp only[Z0,Qa,seval]) rfl rfl (by simp only[List.map_drop,Qa,seval]) (JH _) (by rw[hd1];simp only[maxLen];omega) (by rw[hd1];omega) ?_;simp only[Qa,seval];refine Jn (by simp only[Qa,seval];exact r68) ?_;simp only[QoS,Jl,Z7,Xm,QpB,Qp,Qpq,Qn6,QnV,hle,true_or,QoW,QoF,←List.map_take,h3,h7,Qa,seval];refine QK (site:=68) (g:=_) (n:=0) (xs:=[]) (ys:=(O.take t).map V.pav) (by simp only[Qa,seval]<;>rfl) (by simp only[Qa,seval]) rfl rfl (by simp only[Qa,seval]) (JH _) (by rw[hd2];simp only[maxLen];omega) (by rw[hd2];omega) ?_;simp only[Qa,seval];refine N7 (site:=68) (g:=_) (n:=0+((O.take t).map V.pav).length) (xs:=(O.take t).map V.pav) (ys:=[V.pav x]++(O.drop t).map V.pav) (by simp only[Qa,seval]<;>rfl) (by simp only[Qa,seval]) rfl (by omega) (by simp only[Qa,seval]<;>rfl) (by simp only[Qa,seval]) (by simp only[QoB,Qoc,QoT,QoS]<;>omega) (JH (x :: O.drop t)) (by simp only[QoB,Qoc,QoT,hd1,hd2,maxLen];omega) (by simp only[QoB,Qoc,QoT,hd1,hd2];omega) ?_;simp only[Qa,seval];refine Db (site:=68) (g:=_) (sz:=14) (n:=_) (xs:=(O.take t).map V.pav++([V.pav x]++(O.drop t).map V.pav)) (by simp only[Qa,seval]<;>rfl) (by simp only[Qa,seval]) (by simp only[QoB,Qoc,QoT,hd1,hd2];omega) ?_;rw[hT];rotate_left
  ·simp only[hd1,hd2];omega
  simp only[e1,h4,Qa,seval];exact⟨ps.length-(i+1),by omega,_,_,i+1,rfl,rfl,by omega,(by exact h0),(by rfl),(by rfl),rfl,rfl⟩
 ·have hli:ps.take i=ps:=Qox (by omega);rw[hli]at h3;simp only[QH hlt,h3,Qa,seval]
section
variable {M:Nat}{P:PL}{m:PG→V→Prop}{nm:PG→V→V}(o:PO)(ho:UO P o)
include ho in
theorem v42 (hm:∀(t:Int) (g:PG),P.progs[t.toNat]? = some g→0≤t→∀v:V,v.ok M→v.cnt≤1048576→m g v→Qg Tryz.prog 9 [P.av,.int .i64 t,v.av] (nm g v).av)(v:V)(hv:v.ok M)(hc:v.cnt≤1048576)(he:EW m P o v) :
  Qg Tryz.prog 42 [P.av,Qv o,v.av] (Xq nm P o v).av:=by
 have e0:P.av=.agg [.list (P.progs.map Qn),.list (P.enums.map QC)]:=rfl;unfold Xq;by_cases hk:o.kind=10
 ·have b:(o.kind==10)=true:=by simp[hk]
  have he:=he hk;rw[Qn5 hk];obtain⟨t0,t1⟩:=ho.tgt hk;obtain⟨g,hg⟩:∃g,P.progs[o.target.toNat]? = some g:=⟨P.progs[o.target.toNat]'(by omega),QnX (by omega)⟩;have hq:Qk P o.target=g:=by unfold Qk;rw[hg];rfl
  rw[hq]at he ⊢;have h2:=hm o.target g hg t0 v hv hc he;generalize nm g v=z at h2 ⊢;rw[e0,Qc,Qc]at h2;rw[Qc,Qc];refine wF Tryz.func42 ?_;simp only[eK,Tryz.f42,seval];simp only[e0,Qv,PO.cells,b,eE,seval];refine aC h2 ?_;simp only[eE,seval]
 ·have b:(o.kind==10)=false:=by simp[hk]
  rw[Qn4 hk];have h1:=v44 v (Wp hv);generalize v.nsc=z at h1 ⊢;rw[Qc,Qc]at h1;rw[Qc,Qc];refine wF Tryz.func42 ?_;simp only[eK,Tryz.f42,seval];simp only[e0,Qv,PO.cells,b,eE,seval];refine aC h1 ?_;simp only[eE,seval]
def WlI (P:PL)(o:PO)(v:V)(F:V→V)(k:Nat)(st:St):Prop :=
 ∃f fr i g,st=⟨f,[fr],[]⟩∧k=v.list.length-i∧i≤v.list.length∧f 3=.ptr 0 3 0∧f 4=.ptr 0 4 0∧f 5=.ptr 0 5 0∧f 6=.ptr 0 6 0∧f 7=.ptr 0 7 0∧f 8=.int .i64 (i:Nat)∧fr 3=.cells [.list (P.progs.map Qn),.list (P.enums.map QC)]∧fr 4=.cells o.cells∧fr 5=.cells [.int .i64 v.kd,.int .u64 (v.bits:Nat),.str v.text,.list (v.list.map V.av),.list (v.pairs.map V.pav),.list (v.slots.map V.sav),.list (v.raws.map R.av)]∧fr 6=.cells [.int .i64 0,.int .u64 0,.str [],.nils,.nils,.nils,.nils]∧fr 7=.cells [.int .i64 11,.int .u64 0,.str [],.vec 0 1100 g 0 i false,.nils,.nils,.nils]∧fr 1100=.vec g 7 ((v.list.take i).map fun x=>(F x).av)
def WpI (P:PL)(o:PO)(T:List (V×V))(F:V×V→V×V)(k:Nat)(st:St):Prop :=
 ∃f fr i g,st=⟨f,[fr],[]⟩∧k=T.length-i∧i≤T.length∧f 3=.ptr 0 3 0∧f 4=.ptr 0 4 0∧f 6=.ptr 0 6 0∧f 9=.ptr 0 9 0∧f 10=.list (T.map V.pav)∧f 11=.int .i64 (i:Nat)∧fr 3=.cells [.list (P.progs.map Qn),.list (P.enums.map QC)]∧fr 4=.cells o.cells∧fr 6=.cells [.int .i64 0,.int .u64 0,.str [],.nils,.nils,.nils,.nils]∧fr 9=.cells [.int .i64 12,.int .u64 0,.str [],.nils,.vec 0 1101 g 0 i false,.nils,.nils]∧fr 1101=.vec g 14 ((T.take i).map fun x=>V.pav (F x))
set_option maxHeartbeats 1000000 in
include ho in
theorem v22 (hel:∀v:V,v.ok M→v.cnt≤1048576→EW m P o v→Qg Tryz.prog 42 [P.av,Qv o,v.av] (Xq nm P o v).av)(v:V)(hv:v.ok M)(hc:v.cnt≤1048576)(he:FW m P o v) :
  Qg Tryz.prog 22 [P.av,Qv o,v.av] (XN nm P o v).av:=by
 have e0:P.av=.agg [.list (P.progs.map Qn),.list (P.enums.map QC)]:=rfl;unfold XN;unfold FW at he;by_cases h4:o.card=4
 ·have b4:(o.card==4)=true:=by simp[h4]
  rw[Qn5 h4]at he;rw[Qn5 h4];have hL:=he;have hlen:=ZJ v;rw[Qc v];generalize hF:Xq nm P o=F at hel ⊢;rw[show(V.mk 11 0 [] (v.list.map F) [] [] []).av=.agg [.int .i64 11,.int .u64 0,.str [],.list ((v.list.map F).map V.av),.list [],.list [],.list []]from Qc _];refine wF Tryz.func22 ?_;simp only[eK,Tryz.f22,seval];simp only[e0,Qv,PO.cells,b4,eE,seval];refine Ku (by simp only[Qa,seval]<;>rfl) rfl (by simp only[Qa,seval]<;>rfl) rfl ?_;simp only[List.set,Qa,seval];refine Qi (WlI P o v F) _ ⟨_,_,0,_,rfl,rfl,Qn6 _,rfl,rfl,rfl,rfl,rfl,rfl,rfl,rfl,rfl,rfl,rfl,rfl⟩ ?_;rintro _ st ⟨f,fr,i,g,rfl,rfl,hil,h3,h4,h5,h6,h7,h8,m3,m4,m5,m6,m7,mR⟩;have m4':=m4;simp only[PO.cells]at m4;simp only[QoS,h5,h8,m5,eE,seval];by_cases hlt:i<v.list.length
  ·obtain⟨x,hi⟩:∃x,v.list[i]? = some x:=⟨v.list[i],QnX hlt⟩;have hx:=Qob hi;have hg:=U4 hi;have e1:=Qs i _ hlt (by simp only[maxLen];omega);have c1:=hel x (hv.list x hx) (QnU (Wi hx) hc) (hL x hx);have hti:((v.list.take i).map fun x=>(F x).av).length=i:=by rw[QoS,QoU];omega
   have hts:(v.list.take (i+1)).map (fun x=>(F x).av)=(v.list.take i).map (fun x=>(F x).av)++[(F x).av]:=by rw[QpM,hi];simp
   generalize F x=z at c1 hts;rw[e0,Qc x,Qc z]at c1;simp only[Qv,PO.cells]at c1;simp only[QA hlt,Qp,Qpq,Qf,hg,h3,h4,h5,h7,h8,m3,m4,m5,m7,eE,seval];refine aC c1 ?_;refine QO (l:=[z.av]) rfl rfl rfl (by rw[Qc];rfl) ?_;refine QK (site:=1100) (g:=g) (n:=i) (xs:=(v.list.take i).map fun x=>(F x).av) (ys:=[z.av]) rfl mR rfl hti.symm rfl (GM [z]) (by simp only[Qoc,QoT,maxLen];omega) (by simp only[Qoc,QoT];omega) ?_;simp only[h7,h8,m7,e1,eE,seval];exact⟨v.list.length-(i+1),by omega,_,_,i+1,g+1,rfl,rfl,by omega,h3,h4,h5,h6,h7,rfl,m3,m4',m5,m6,rfl,(by rw[hts];exact rfl)⟩
  ·have e:i=v.list.length:=by omega
   subst e;rw[QpC,QaY]at mR;simp only[QH hlt,h6,h7,m6,m7,eE,seval];simp[AV.un,AV.unL,ZE,XO,mR,Qox]
 ·have b4:(o.card==4)=false:=by simp[h4]
  rw[Qn4 h4];by_cases h5:o.card=5
  ·have b5:(o.card==5)=true:=by simp[h5]
   rw[Qn4 h4,Qn5 h5]at he;rw[Qn5 h5];have hE:=he;have hlen:=Jr v;have hk:=ho.key h5;have cp:=v43 hk v.pairs (by omega) (fun p hp=>(hE.1 p hp).1) (fun p hp=>Wp (hv.keys p hp)) hE.2;have hperm:(QX o.key v.pairs).Perm v.pairs:=QR _;have hTl:(QX o.key v.pairs).length=v.pairs.length:=hperm.length_eq;have hTm:∀p∈QX o.key v.pairs,p∈v.pairs:=fun p h=>hperm.mem_iff.1 h
   generalize QX o.key v.pairs=T at *;rw[Qc v];generalize hF:(fun p:V×V=>(p.1.nsc,Xq nm P o p.2))=F;rw[show(V.mk 12 0 [] [] (T.map F) [] []).av=.agg [.int .i64 12,.int .u64 0,.str [],.list [],.list ((T.map F).map V.pav),.list [],.list []]from Qc _];refine wF Tryz.func22 ?_;simp only[eK,Tryz.f22,seval];simp only[e0,Qv,PO.cells,b4,b5,eE,seval];refine Ku (by simp only[Qa,seval]<;>rfl) rfl (by simp only[Qa,seval]<;>rfl) rfl ?_;simp only[List.set,eE,seval];refine aC cp ?_;simp only[Qa,seval];refine Qi (WpI P o T F) _ ⟨_,_,0,_,rfl,rfl,Qn6 _,rfl,rfl,rfl,rfl,rfl,rfl,rfl,rfl,rfl,rfl,rfl⟩ ?_;rintro _ st ⟨f,fr,i,g,rfl,rfl,hil,h3,h4,h6,h9,h10,h11,m3,m4,m6,m9,mR⟩;have m4':=m4;simp only[PO.cells]at m4;simp only[QoS,h10,h11,Qa,seval];by_cases hlt:i<T.length
   ·obtain⟨x,hi⟩:∃x,T[i]? = some x:=⟨T[i],QnX hlt⟩;have hx:=hTm x (Qob hi);have hg:=J3 hi;have e1:=Qs i _ hlt (by simp only[maxLen];omega);have c0:=v44 x.1 (Wp (hv.keys x hx));have c1:=hel x.2 (hv.vals x hx) (QnU (Yk hx) hc) (hE.1 x hx).2;have hti:((T.take i).map fun x=>V.pav (F x)).length=i:=by rw[QoS,QoU];omega
    have hFx:F x=(x.1.nsc,Xq nm P o x.2):=by rw[←hF]
    have hts:(T.take (i+1)).map (fun x=>V.pav (F x))=(T.take i).map (fun x=>V.pav (F x))++[V.pav (x.1.nsc,Xq nm P o x.2)]:=by rw[QpM,hi,←hFx];simp
    generalize x.1.nsc=y at c0 hts;generalize Xq nm P o x.2=z at c1 hts;rw[Qc,Qc y]at c0;rw[e0,Qc,Qc z]at c1;simp only[Qv,PO.cells]at c1;simp only[QA hlt,Qp,Qpq,Qf,hg,h9,h10,h11,m9,eE,seval];refine aC c0 ?_;simp only[Qp,Qpq,Qf,hg,Qow,Qoz,QoF,h3,h4,h10,h11,m3,m4,eE,seval];refine aC c1 ?_;simp only[eE,seval];refine QO (l:=[V.pav (y,z)]) rfl rfl rfl (by rw[Z0];rfl) ?_;refine QK (site:=1101) (g:=g) (n:=i) (xs:=(T.take i).map fun x=>V.pav (F x)) (ys:=[V.pav (y,z)]) rfl mR rfl hti.symm rfl (JH [(y,z)]) (by simp only[Qoc,QoT,maxLen];omega) (by simp only[Qoc,QoT];omega) ?_;simp only[h9,h11,m9,e1,eE,seval];exact⟨T.length-(i+1),by omega,_,_,i+1,g+1,rfl,rfl,by omega,h3,h4,h6,h9,h10,rfl,m3,m4',m6,rfl,(by rw[hts];exact rfl)⟩
   ·have e:i=T.length:=by omega
    subst e;rw[QpC,AN]at mR;simp only[QH hlt,h6,h9,m6,m9,eE,seval];simp[AV.un,AV.unL,ZE,XO,mR,Qox]
  ·have b5:(o.card==5)=false:=by simp[h5]
   rw[Qn4 h4,Qn4 h5]at he;rw[Qn4 h5];have c1:=hel v hv hc he;generalize Xq nm P o v=z at c1 ⊢;rw[e0,Qc v,Qc z]at c1;simp only[Qv,PO.cells]at c1;rw[Qc v,Qc z];refine wF Tryz.func22 ?_;simp only[eK,Tryz.f22,seval];simp only[e0,Qv,PO.cells,b4,b5,eE,seval];refine aC c1 ?_;simp only[eE,seval]
end
theorem AY {fr:Nat→Ob}{a b:Nat}(h1:(fr a).isRow=false)(h2:(fr b).isRow=false):∀s∈[a,b],(fr s).isRow=false:=by
 intro s hs;simp only[Qpk,Qqc,or_false]at hs;rcases hs with rfl|rfl
 ·exact h1
 ·exact h2
theorem GT {fr:Nat→Ob}{a:Nat}(h1:(fr a).isRow=false):∀s∈[a],(fr s).isRow=false:=by
 intro s hs;simp only[Qpk,Qqc,or_false]at hs;subst hs;exact h1
theorem isr {x:Ob}(h:x=.none):x.isRow=false:=by rw[h];rfl
def Js (nm:PG→V→V)(P:PL)(o:PO)(s:Int×V):List (Int×V):=if (s.1==o.num)=true then JG nm P o s else []
theorem N8 (nm:PG→V→V)(P:PL)(o:PO):∀l:List (Int×V),(l.flatMap (Js nm P o)).length≤l.length
 | []=>QnV _
 |s :: l=>by
  have h1:(Js nm P o s).length≤1:=by
   unfold Js;split
   ·unfold JG;split<;>simp
   ·simp
  have:=N8 nm P o l;rw[Qps,QoB,Qoc];omega
def H9 (v:V):List AV:=[.int .i64 v.kd,.int .u64 (v.bits:Nat),.str v.text,.list (v.list.map V.av),.list (v.pairs.map V.pav),.list (v.slots.map V.sav),.list (v.raws.map R.av)]
theorem IF {P:PL}{v:V}{o:PO}{n:Nat}{ti i:Nat}(K:List (Int×V))(hK:K.length≤64)(hS:v.slots.length≤1048576)(rw':List R)
  (hw:∀x∈v.slots,x.1=o.num→Qg Tryz.prog 22 [P.av,Qv o,x.2.av] (XN (nrm P n) P o x.2).av)
  (fr:Nat→Ob) (f:Fr) (gs:Nat) (h1:f 1=.int .i64 (ti:Nat)) (h3:f 3=.ptr 0 3 0) (h5:f 5=.ptr 0 5 0) (h6:f 6=.ptr 0 6 0) (h7:f 7=.ptr 0 7 0) (h8:f 8=.int .i64 (i:Nat)) (h9:f 9=.ptr 0 9 0) (h10:f 10=.int .i64 0) (m3:fr 3=.cells [.list (P.progs.map Qn),.list (P.enums.map QC)]) (m5:fr 5=.cells (H9 v)) (m6:fr 6=.cells [.int .i64 0,.int .u64 0,.str [],.nils,.nils,.nils,.nils]) (m7:fr 7=.cells [.int .i64 10,.int .u64 0,.str [],.nils,.nils,.vec 0 1100 gs 0 K.length false,.list (rw'.map R.av)]) (m9:fr 9=.cells o.cells) (mS:fr 1100=.vec gs 8 (K.map V.sav)) (r11:∀s∈[11],(fr s).isRow=false)
  (Q:Exit→St→Prop)
  (q:∀(f:Fr) (fr:Nat→Ob) (gs:Nat),f 1=.int .i64 (ti:Nat)→f 3=.ptr 0 3 0→f 5=.ptr 0 5 0→f 6=.ptr 0 6 0→f 7=.ptr 0 7 0→f 8=.int .i64 (i:Nat)→fr 3=.cells [.list (P.progs.map Qn),.list (P.enums.map QC)]→fr 5=.cells (H9 v)→fr 6=.cells [.int .i64 0,.int .u64 0,.str [],.nils,.nils,.nils,.nils]→fr 7=.cells [.int .i64 10,.int .u64 0,.str [],.nils,.nils,.vec 0 1100 gs 0 (K++v.slots.flatMap (Js (nrm P n) P o)).length false,.list (rw'.map R.av)]→fr 1100=.vec gs 8 ((K++v.slots.flatMap (Js (nrm P n) P o)).map V.sav)→(fr 9).isRow=false→(fr 11).isRow=false→Q (.exit 2) (⟨f,[fr],[]⟩:St)) :
  Q2 Tryz.prog (.loop QdX) ⟨f,[fr],[]⟩ Q:=by
 have e0:P.av=.agg [.list (P.progs.map Qn),.list (P.enums.map QC)]:=rfl
 let L:Nat→List (Int×V):=fun k=>K++(v.slots.take k).flatMap (Js (nrm P n) P o)
 have hL0:L 0=K:=by simp[L]
 have hLn:L v.slots.length=K++v.slots.flatMap (Js (nrm P n) P o):=by simp[L]
 have hLl:∀k,k≤v.slots.length→(L k).length≤64+k:=by
  intro k hk;have:=N8 (nrm P n) P o (v.slots.take k);rw[QoU]at this;simp only[L,QoB];omega
 have hLs:∀k x,v.slots[k]? = some x→L (k+1)=L k++Js (nrm P n) P o x:=by
  intro k x hx;simp only[L];rw[QpM,hx,Qqh,Qoi];simp
 rw[←hLn]at q;rw[←hL0]at m7 mS
 clear_value L
 clear hL0 hLn hK
 let I:Nat→St→Prop:=fun d st=>∃f fr k gs,st=⟨f,[fr],[]⟩∧d=v.slots.length-k∧k≤v.slots.length∧f 1=.int .i64 (ti:Nat)∧f 3=.ptr 0 3 0∧f 5=.ptr 0 5 0∧f 6=.ptr 0 6 0∧f 7=.ptr 0 7 0∧f 8=.int .i64 (i:Nat)∧f 9=.ptr 0 9 0∧f 10=.int .i64 (k:Nat)∧fr 3=.cells [.list (P.progs.map Qn),.list (P.enums.map QC)]∧fr 5=.cells (H9 v)∧fr 6=.cells [.int .i64 0,.int .u64 0,.str [],.nils,.nils,.nils,.nils]∧fr 7=.cells [.int .i64 10,.int .u64 0,.str [],.nils,.nils,.vec 0 1100 gs 0 (L k).length false,.list (rw'.map R.av)]∧fr 9=.cells o.cells∧fr 1100=.vec gs 8 ((L k).map V.sav)∧∀s∈[11],(fr s).isRow=false
 refine Qi I _ ⟨f,fr,0,gs,rfl,rfl,Qn6 _,h1,h3,h5,h6,h7,h8,h9,h10,m3,m5,m6,m7,m9,mS,r11⟩ ?_;clear h1 h3 h5 h6 h7 h8 h9 h10 m3 m5 m6 m7 m9 mS r11;rintro _ st ⟨f0,fr0,k,gs,rfl,rfl,hkl,h10,h30,h50,h60,h70,h80,h90,h100,m30,m50,m60,m70,m90,mS0,r11⟩;refine QL (a:=_) [11] r11 ?_;intro f fr hf hm hn11;have h1:f 1=.int .i64 (ti:Nat):=by rw[hf,h10]<;>rfl
 have h3:f 3=.ptr 0 3 0:=by rw[hf,h30]<;>rfl
 have h5:f 5=.ptr 0 5 0:=by rw[hf,h50]<;>rfl
 have h6:f 6=.ptr 0 6 0:=by rw[hf,h60]<;>rfl
 have h7:f 7=.ptr 0 7 0:=by rw[hf,h70]<;>rfl
 have h8:f 8=.int .i64 (i:Nat):=by rw[hf,h80]<;>rfl
 have h9:f 9=.ptr 0 9 0:=by rw[hf,h90]<;>rfl
 have h10':f 10=.int .i64 (k:Nat):=by rw[hf,h100]<;>rfl
 have m3:fr 3=.cells [.list (P.progs.map Qn),.list (P.enums.map QC)]:=by rw[hm 3 (by decide),m30]<;>rfl
 have m5':fr 5=.cells (H9 v):=by rw[hm 5 (by decide),m50]<;>rfl
 have m6:fr 6=.cells [.int .i64 0,.int .u64 0,.str [],.nils,.nils,.nils,.nils]:=by rw[hm 6 (by decide),m60]<;>rfl
 have m7:fr 7=.cells [.int .i64 10,.int .u64 0,.str [],.nils,.nils,.vec 0 1100 gs 0 (L k).length false,.list (rw'.map R.av)]:=by rw[hm 7 (by decide),m70]<;>rfl
 have m9':fr 9=.cells o.cells:=by rw[hm 9 (by decide),m90]<;>rfl
 have mS:fr 1100=.vec gs 8 ((L k).map V.sav):=by rw[hm 1100 (by decide),mS0]<;>rfl
 have n11:=hn11 11 (by decide);clear hf hm hn11 h10 h30 h50 h60 h70 h80 h90 h100 m30 m50 m60 m70 m90 mS0 r11;have m5:=m5';have m9:=m9';simp only[H9]at m5;simp only[PO.cells]at m9;simp only[QoS,h5,h10',m5,eE,seval];by_cases hlt:k<v.slots.length
 ·obtain⟨x,hi⟩:∃x,v.slots[k]? = some x:=⟨v.slots[k],QnX hlt⟩;have hx:=Qob hi;have hgs:=WR hi;have e1:=Qs k _ hlt (by simp only[maxLen];omega);have hKs:=hLs k x hi;have hKi:=hLl k (by omega);have fin:∀(f':Fr) (fr':Nat→Ob) (gs':Nat),f' 1=.int .i64 (ti:Nat)→f' 3=.ptr 0 3 0→f' 5=.ptr 0 5 0→f' 6=.ptr 0 6 0→f' 7=.ptr 0 7 0→f' 8=.int .i64 (i:Nat)→f' 9=.ptr 0 9 0→f' 10=.int .i64 ((k+1:Nat):Int)→fr' 3=.cells [.list (P.progs.map Qn),.list (P.enums.map QC)]→fr' 5=.cells (H9 v)→fr' 6=.cells [.int .i64 0,.int .u64 0,.str [],.nils,.nils,.nils,.nils]→fr' 7=.cells [.int .i64 10,.int .u64 0,.str [],.nils,.nils,.vec 0 1100 gs' 0 (L (k+1)).length false,.list (rw'.map R.av)]→fr' 9=.cells o.cells→fr' 1100=.vec gs' 8 ((L (k+1)).map V.sav)→(∀s∈[11],(fr' s).isRow=false)→∃d,d<v.slots.length-k∧I d ⟨f',[fr'],[]⟩:=by
   intro f' fr' gs' a1 a3 a5 a6 a7 a8 a9 a10 b3 b5 b6 b7 b9 bS br;exact⟨v.slots.length-(k+1),by omega,f',fr',k+1,gs',rfl,rfl,by omega,a1,a3,a5,a6,a7,a8,a9,a10,b3,b5,b6,b7,b9,bS,br⟩
  cases hne:(x.1==o.num)
  ·have bn:(x.1 != o.num)=true:=by simp[bne,hne]
   unfold Js at hKs;rw[hne,Qn4 (by simp),Qo1]at hKs;simp only[QA hlt,Qp,Qpq,Qf,hgs,bn,QoF,h5,h9,h10',m5,m9,e1,eE,seval];exact fin _ _ gs h1 h3 h5 h6 h7 h8 h9 rfl m3 m5' m6 (by rw[hKs];exact m7) m9' (by rw[hKs];exact mS) (GT (isr n11))
  ·have bn:(x.1 != o.num)=false:=by simp[bne,hne]
   unfold Js at hKs;rw[hne,Qn5 rfl]at hKs;unfold JG at hKs;have c2:=hw x hx (by simpa using hne);have c3:=QhT (XN (nrm P n) P o x.2);generalize XN (nrm P n) P o x.2=z at c2 c3 hKs;rw[e0,Qc x.2,Qc z]at c2;rw[Qc z]at c3;simp only[Qv,PO.cells]at c2;simp only[QA hlt,Qp,Qpq,Qf,hgs,bn,Qow,Qoz,QoF,h3,h5,h9,h10',m3,m5,m9,eE,seval];refine aC c2 ?_;simp only[n11,h9,m9,eE,seval];cases hb:decide (o.card<3)
   ·rw[hb,QpJ]at hKs;simp only[eE,seval];refine aC c3 ?_;cases hz:z.emp
    ·rw[hz,Qn5 (show(!false)=true from rfl)]at hKs;simp only[h7,h9,m7,m9,eE,seval];refine QO (l:=[V.sav (o.num,z)]) rfl rfl rfl (by rw[Z1];rfl) ?_;refine QK (site:=1100) (g:=gs) (n:=(L k).length) (xs:=(L k).map V.sav) (ys:=[V.sav (o.num,z)]) rfl mS rfl (by rw[QoS]) rfl (WX [(o.num,z)]) (by simp only[Qoc,QoT,maxLen];omega) (by simp only[Qoc,QoT];omega) ?_;simp only[h7,h10',m7,e1,eE,seval];exact fin _ _ (gs+1) h1 h3 h5 h6 h7 h8 h9 rfl m3 m5' m6 (by rw[hKs,QoB];exact rfl) m9' (by rw[hKs,QpL];exact rfl) (GT rfl)
    ·rw[hz,Qn4 (by simp),Qo1]at hKs;simp only[h10',e1,Qa,seval];exact fin _ _ gs h1 h3 h5 h6 h7 h8 h9 rfl m3 m5' m6 (by rw[hKs];exact m7) m9' (by rw[hKs];exact mS) (GT rfl)
   ·rw[hb,QpI,Qn5 rfl]at hKs;simp only[h7,h9,m7,m9,eE,seval];refine QO (l:=[V.sav (o.num,z)]) rfl rfl rfl (by rw[Z1];rfl) ?_;refine QK (site:=1100) (g:=gs) (n:=(L k).length) (xs:=(L k).map V.sav) (ys:=[V.sav (o.num,z)]) rfl mS rfl (by rw[QoS]) rfl (WX [(o.num,z)]) (by simp only[Qoc,QoT,maxLen];omega) (by simp only[Qoc,QoT];omega) ?_;simp only[h7,h10',m7,e1,eE,seval];exact fin _ _ (gs+1) h1 h3 h5 h6 h7 h8 h9 rfl m3 m5' m6 (by rw[hKs,QoB];exact rfl) m9' (by rw[hKs,QpL];exact rfl) (GT rfl)
 ·have e:k=v.slots.length:=by omega
  subst e;simp only[QH hlt,Qa,seval];exact q _ _ gs h1 h3 h5 h6 h7 h8 m3 m5' m6 m7 mS (by rw[m9'];rfl) (isr n11)
def NoI (P:PL)(v:V)(K:Nat→List (Int×V))(len:Nat)(t:Nat)(rw':List R)(d:Nat)(st:St):Prop :=
 ∃f fr i gs,st=⟨f,[fr],[]⟩∧d=len-i∧i≤len∧f 1=.int .i64 (t:Nat)∧f 3=.ptr 0 3 0∧f 5=.ptr 0 5 0∧f 6=.ptr 0 6 0∧f 7=.ptr 0 7 0∧f 8=.int .i64 (i:Nat)∧fr 3=.cells [.list (P.progs.map Qn),.list (P.enums.map QC)]∧fr 5=.cells (H9 v)∧fr 6=.cells [.int .i64 0,.int .u64 0,.str [],.nils,.nils,.nils,.nils]∧fr 7=.cells [.int .i64 10,.int .u64 0,.str [],.nils,.nils,.vec 0 1100 gs 0 (K i).length false,.list (rw'.map R.av)]∧fr 1100=.vec gs 8 ((K i).map V.sav)∧∀s∈[11,9],(fr s).isRow=false
section
variable {M:Nat}{P:PL}
set_option maxHeartbeats 2000000 in
theorem v9 (hU:J6 P)(hr:Zi P)(hl:∀g∈P.progs,g.ops.length≤64):∀(n:Nat) (t:Int) (g:PG),P.progs[t.toNat]? = some g→0≤t→∀v:V,v.ok M→v.cnt≤1048576→MW P n g v→Qg Tryz.prog 9 [P.av,.int .i64 t,v.av] (nrm P n g v).av:=by
 have e0:P.av=.agg [.list (P.progs.map Qn),.list (P.enums.map QC)]:=rfl;intro n
 induction n with
 |zero=>
  intro t g _ _ v _ _ h;exact h.elim
 |succ n ih=>
  intro t g hgt t0 v hv hc h;have hgm:=Qob hgt;have hu:=hU g hgm;have hd:=hr g hgm;have hg64:=hl g hgm;obtain⟨s1,s2⟩:=h;have hnor:=fun(o:PO) (ho:o∈g.ops) (x:V) (hx:x.ok M) (hxc:x.cnt≤1048576) (he:EW (MW P n) P o x)=>v42 o (hu o ho) (fun t g a b v c d e=>ih t g a b v c d e) x hx hxc he
  have hwit:=fun(o:PO) (ho:o∈g.ops) (x:V) (hx:x.ok M) (hxc:x.cnt≤1048576) (he:FW (MW P n) P o x)=>v22 o (hu o ho) (hnor o ho) x hx hxc he
  have lS:=Zj v;have lR:=KG v;have cR:=v21 v.raws (by omega);obtain⟨ti,hti⟩:=QpH t0;subst hti;rw[Qpq]at hgt;have hga:(P.progs.map Qn)[ti]? = some (.agg g.cells):=by simp[hgt,Qn]
  simp only[PG.cells]at hga;have htl:ti<P.progs.length:=(QnW.1 hgt).1;have d0:decide ((ti:Int)<0)=false:=QpQ (by omega);have d1:decide ((ti:Int)≥(P.progs.length:Int))=false:=QpQ (by omega);show Qg _ _ _ (V.mk 10 0 [] [] [] (g.ops.flatMap (Xg (nrm P n) P v.slots)) (ZN v.raws)).av;have hfin:g.ops.flatMap (Xg (nrm P n) P v.slots)=g.ops.flatMap fun o=>v.slots.flatMap (Js (nrm P n) P o):=by
   congr 1
   funext o;exact(CW (nrm P n) P s2).symm
  have hone:∀o,(v.slots.flatMap (Js (nrm P n) P o)).length≤1:=by
   intro o;have e:v.slots.flatMap (Js (nrm P n) P o)=Xg (nrm P n) P v.slots o:=CW (nrm P n) P s2;rw[e,YV];split
   ·simp
   ·unfold JG;split<;>simp
  rw[hfin];generalize ZN v.raws=RW at *;rw[show v.av=.agg (H9 v)from Qc v];generalize hK:(fun i=>(g.ops.take i).flatMap fun o=>v.slots.flatMap (Js (nrm P n) P o))=K;have hK0:K 0=[]:=by rw[←hK];simp
  have hKn:(g.ops.flatMap fun o=>v.slots.flatMap (Js (nrm P n) P o))=K g.ops.length:=by rw[←hK];simp
  have hKl:∀i,i≤g.ops.length→(K i).length≤64:=by
   intro i hi;rw[←hK];have:∀l:List PO,(l.flatMap fun o=>v.slots.flatMap (Js (nrm P n) P o)).length≤l.length:=by
    intro l
    induction l with
    |nil=>exact QnV _
    |cons o l ih=>
     have:=hone o;rw[Qps,QoB,Qoc];omega
   have h2:=this (g.ops.take i);rw[QoU]at h2;show((g.ops.take i).flatMap _).length≤64;omega
  have hKs:∀i o,g.ops[i]? = some o→K (i+1)=K i++v.slots.flatMap (Js (nrm P n) P o):=by
   intro i o ho;rw[←hK];show(g.ops.take (i+1)).flatMap _=(g.ops.take i).flatMap _++_;rw[QpM,ho,Qqh];simp
  rw[hKn,show(V.mk 10 0 [] [] [] (K g.ops.length) RW).av=.agg [.int .i64 10,.int .u64 0,.str [],.list [],.list [],.list ((K g.ops.length).map V.sav),.list (RW.map R.av)]from Qc _];clear hKn hfin hone;refine k9.fn (by simp) ?_;simp only[e0,H9,d0,d1,QoS,eE,seval];refine aC cR ?_;simp only[eE,seval];refine Ku (by simp only[Qa,seval]<;>rfl) rfl (by simp only[Qa,seval]<;>rfl) rfl ?_;simp only[List.set,Qa,seval];refine Qi (NoI P v K g.ops.length ti RW) _ ⟨_,_,0,_,rfl,rfl,Qn6 _,(by rfl),(by rfl),(by rfl),(by rfl),(by rfl),(by rfl),(by rfl),(by rfl),(by rfl),(by rw[hK0];exact(by rfl)),(by rw[hK0];exact(by rfl)),AY rfl rfl⟩ ?_;rintro _ st ⟨f0,fr0,i,gs,rfl,rfl,hil,h10,h30,h50,h60,h70,h80,m30,m50,m60,m70,mS0,r11⟩;refine QL (a:=_) [11,9] r11 ?_;intro f fr hf hm hn11;have h1:f 1=.int .i64 (ti:Nat):=by rw[hf,h10]<;>rfl
  have h3:f 3=.ptr 0 3 0:=by rw[hf,h30]<;>rfl
  have h5:f 5=.ptr 0 5 0:=by rw[hf,h50]<;>rfl
  have h6:f 6=.ptr 0 6 0:=by rw[hf,h60]<;>rfl
  have h7:f 7=.ptr 0 7 0:=by rw[hf,h70]<;>rfl
  have h8:f 8=.int .i64 (i:Nat):=by rw[hf,h80]<;>rfl
  have m3:fr 3=.cells [.list (P.progs.map Qn),.list (P.enums.map QC)]:=by rw[hm 3 (by decide),m30]<;>rfl
  have m5:fr 5=.cells (H9 v):=by rw[hm 5 (by decide),m50]<;>rfl
  have m6:fr 6=.cells [.int .i64 0,.int .u64 0,.str [],.nils,.nils,.nils,.nils]:=by rw[hm 6 (by decide),m60]<;>rfl
  have m7:fr 7=.cells [.int .i64 10,.int .u64 0,.str [],.nils,.nils,.vec 0 1100 gs 0 (K i).length false,.list (RW.map R.av)]:=by rw[hm 7 (by decide),m70]<;>rfl
  have mS:fr 1100=.vec gs 8 ((K i).map V.sav):=by rw[hm 1100 (by decide),mS0]<;>rfl
  have n11:=hn11 11 (by decide);have n9:=hn11 9 (by decide);clear hf hm hn11 h10 h30 h50 h60 h70 h80 m30 m50 m60 m70 mS0 r11;simp only[Qp,Qpq,Qf,hga,QoS,Qoz,QoF,h1,h3,h8,m3,eE,seval];by_cases hlt:i<g.ops.length
  ·obtain⟨o,hi⟩:∃o,g.ops[i]? = some o:=⟨g.ops[i],QnX hlt⟩;have hom:=Qob hi;have hgo:(g.ops.map fun o=>AV.agg o.cells)[i]? = some (.agg o.cells):=by simp[hi]
   simp only[PO.cells]at hgo;have e1:=Qs i _ hlt (by simp only[maxLen];omega);have hKi:=hKl i (by omega);have hKs':=hKs i o hi;simp only[QA hlt,Qp,Qpq,Qf,hga,PO.cells,hgo,n9,h1,h3,h8,m3,eE,seval];refine IF (P:=P) (v:=v) (o:=o) (n:=n) (ti:=ti) (i:=i) (K i) hKi (by omega) RW (fun x hx hxn=>by
    obtain⟨o',ho',hf'⟩:=s1 x hx;rw[hxn,XG hd hom]at ho';cases ho';exact hwit o hom x.2 (hv.slots x hx) (QnU (Z9 hx) hc) hf') _ _ gs (by exact h1) (by exact h3) (by exact h5) (by exact h6) (by exact h7) (by exact h8) (by rfl) (by rfl) (by exact m3) (by exact m5) (by exact m6) (by exact m7) (by rfl) (by exact mS) (GT (isr (by exact n11))) _ ?_
   clear h1 h3 h5 h6 h7 h8 m3 m5 m6 m7 mS n11 n9;intro f fr gs h1 h3 h5 h6 h7 h8 m3 m5 m6 m7 mS n9 n11;rw[←hKs']at m7 mS;simp only[h8,e1,Qa,seval];exact⟨g.ops.length-(i+1),by omega,_,_,i+1,gs,rfl,rfl,by omega,(by exact h1),(by exact h3),(by exact h5),(by exact h6),(by exact h7),(by rfl),m3,m5,m6,m7,mS,AY n11 n9⟩
  ·have e:i=g.ops.length:=by omega
   subst e;simp only[QH hlt,h6,h7,m6,m7,eE,seval];simp[AV.un,AV.unL,ZE,XO,mS,Qox]
end
open Vp Cp
theorem HW {f:R}(h1:1≤f.num∧f.num≤65535)(h2:0≤f.wire∧f.wire≤6)(h3:if Zb f.wire=true then f.data=[]else f.bits=0)(h4:f.bits<18446744073709551616)(h5:f.data.length<18446744073709551616):Gf f:=by
 refine⟨?_,h4,h5⟩;unfold valid ZR;rw[Qn4 (by omega)];simp only[Qo7,QpE];split at h3
 ·rename_i h;rw[Qn5 h];simp[h3]
 ·rename_i h;rw[Qn4 h];simp[h3]
theorem Mu {M:Nat}{P:PL}{k tg:Int}{x:V}(hx:x.one P k tg=0)(ox:x.ok M){n:Int}(hn:1≤n∧n≤65535):Gf (XB n x):=by
 obtain⟨a1,a2,a3,_⟩:=Zy hx;have ht:=Nq hx;have hb:=UR (k:=x.kd) (P2 ox) x.text;have hd:=N5 x.kd x.bits x.text;refine HW hn ?_ ?_ hb (Nat.lt_of_le_of_lt hd (by omega))
 ·show 0≤(Q7 x.kd x.bits x.text).wire∧(Q7 x.kd x.bits x.text).wire≤6;unfold Q7 zr
  repeat' split
  all_goals exact⟨by simp[],by simp[]⟩
 ·show if Zb (Q7 x.kd x.bits x.text).wire=true then(Q7 x.kd x.bits x.text).data=[]else(Q7 x.kd x.bits x.text).bits=0
  rw[a1];unfold Q7;by_cases c1:k=1∨k=4∨k=5∨k=9
  ·rw[Qn5 c1];rfl
  rw[Qn4 c1];by_cases c2:k=2∨k=3
  ·rw[Qn5 c2];rfl
  rw[Qn4 c2];by_cases c3:k=6
  ·rw[Qn5 c3];rfl
  rw[Qn4 c3,Qn5 (show k=7∨k=8 by omega)];rfl
section
variable {M:Nat}{P:PL}{m:PG→V→Int}{nm:PG→V→V}{bd:Int→V→List UInt8}{o:PO}(ho:UO P o)
variable (hbd:∀(t:Int) (v:V),(0≤t∧t<(P.progs.length:Int))→m (Qk P t) v=0→(bd t v).length+70000≤70000*v.cnt)

include ho hbd in
theorem GU {n:Int}(hn:1≤n∧n≤65535){x:V}(hx:QN m P o x=0)(ox:x.ok M)(hc:x.cnt≤1048576):Gf (Q0 bd o n x):=by
 have hl:=Ds hbd ho (n:=n) hx;unfold QN at hx;unfold Q0 at hl ⊢;by_cases hk:o.kind=10
 ·rw[Qn5 hk]at hl ⊢;exact HW hn ⟨by show(0:Int)≤4;decide,by show(4:Int)≤6;decide⟩ rfl (by show(0:Nat)<_;decide) (by omega)
 ·rw[Qn4 hk]at hx;rw[Qn4 hk];exact Mu hx ox hn
theorem Mv {x:V}(h4:o.card=4)(nx:XN nm P o x=x):x=.mk 11 0 [] x.list [] [] []∧∀y∈x.list,Xq nm P o y=y:=by
 unfold XN at nx;rw[Qn5 h4]at nx;have hl:x.list.map (Xq nm P o)=x.list:=by
  have:=congrArg V.list nx;exact this
 refine⟨by rw[hl]at nx;exact nx.symm,fun y hy=>?_⟩;obtain⟨i,hi,rfl⟩:=Qqd hy;have:=congrArg (fun l=>l[i]?) hl;simp only[Qpl,QnX hi,Qon,Qoo]at this;exact this
theorem N9 {x:V}(h5:o.card=5)(nx:XN nm P o x=x):x=.mk 12 0 [] [] x.pairs [] []∧∀p∈x.pairs,p.1.nsc=p.1∧∃q∈x.pairs,p.2=Xq nm P o q.2:=by
 unfold XN at nx;rw[Qn4 (by omega),Qn5 h5]at nx;have hl:((QX o.key x.pairs).map fun p=>(p.1.nsc,Xq nm P o p.2))=x.pairs:=by
  have:=congrArg V.pairs nx;exact this
 refine⟨by rw[hl]at nx;exact nx.symm,fun p hp=>?_⟩;rw[←hl]at hp;obtain⟨q,hq,rfl⟩:=Qpi.1 hp;exact⟨PV _,q,(QR x.pairs).mem_iff.1 hq,rfl⟩
include ho hbd in
theorem QfW (hn:1≤o.num∧o.num≤65535){x:V}(hx:Xw m P o x=0)(ox:x.ok M)(hc:x.cnt≤1048576):∀f∈YE bd o x,Gf f:=by
 unfold Xw at hx;unfold YE;by_cases h5:o.card=5
 ·rw[Qn5 h5]at hx;rw[Qn5 h5];split at hx
  ·omega
  have ex:=(Kd.1 hx).1;intro f hf;obtain⟨p,hp,rfl⟩:=Qpi.1 hf;have h1:=Fl hbd ho (ex p hp).1 (ex p hp).2;have h2:=Yk hp;have h3:=Dr hp;exact HW hn ⟨by show(0:Int)≤6;decide,by show(6:Int)≤6;decide⟩ rfl (by show(0:Nat)<_;decide) (by omega)
 rw[Qn4 h5]at hx;rw[Qn4 h5];by_cases hp:pk o.card o.kind=true
 ·rw[Qn5 hp];intro f hf;rw[Qp8]at hf;subst hf;have h1:=Hl (wk o.kind) x.list;have h2:=ZJ x;exact HW hn ⟨by show(0:Int)≤5;decide,by show(5:Int)≤6;decide⟩ rfl (by show(0:Nat)<_;decide) (by
   show(UInt8.ofNat (wk o.kind).toNat :: x.list.flatMap (JD (wk o.kind))).length<_;rw[Qoc];omega)
 rw[Qn4 hp];by_cases h4:o.card=4
 ·rw[Qn5 h4]at hx;rw[Qn5 h4];split at hx
  ·omega
  intro f hf;obtain⟨y,hy,rfl⟩:=Qpi.1 hf;have h2:=Wi hy;exact GU ho hbd hn (Ke.1 hx y hy) (ox.list y hy) (by omega)
 ·rw[Qn4 h4]at hx;rw[Qn4 h4];intro f hf;rw[Qp8]at hf;subst hf;exact GU ho hbd hn hx ox hc
end
section
variable {P:PL}{bd:Int→V→List UInt8}{g:PG}
end
def SG (P:PL):Prop:=∀g∈P.progs,∀o∈g.ops,1≤o.num∧o.num≤65535
theorem QcR {P:PL}(h:ck P=0):SG P:=by
 unfold ck at h;split at h
 ·omega
 split at h
 ·omega
 split at h
 ·omega
 split at h
 ·omega
 split at h
 ·omega
 rename_i hr;have hr:Bb P=true:=by simpa using hr
 unfold Bb at hr;simp only[Qol,Qoa]at hr;intro g hg o ho;have:=hr.1 g hg o ho;unfold Kf at this
 simpa using this
structure Ns (M:Nat)(P:PL)(m:PG→V→Int)(nm:PG→V→V)(g:PG)(s:Int×V):Prop where
 wd:Wd P m g s
 ok:s.2.ok M
 cnt:s.2.cnt≤1048576
 nrm:∀o,Xv g s.1=some o→XN nm P o s.2=s.2
theorem BN {P:PL}{g:PG}{f:R}(h:JN P g f=0):(1≤f.num∧f.num≤65535)∧(0≤f.wire∧f.wire≤6)∧(f.wire≤2→f.data=[])∧(2<f.wire→f.bits=0)∧Di P g f=true∧f.data.length≤65536∧(f.wire=3→f.data.length≤4096):=by
 unfold JN at h;split at h
 ·omega
 rename_i h1;split at h
 ·omega
 rename_i h2;split at h
 ·omega
 rename_i h3;split at h
 ·omega
 rename_i h4;simp only[Qn0,Qn1,not_or,Qol,not_and,QoV,Qn2,Bool.not_eq_false]at h1 h2 h3 h4;refine⟨by omega,by omega,fun hw=>?_,fun hw=>?_,h3,by omega,fun hw=>by have:=h4.1 hw;omega⟩
 ·have:=h2.1 hw
  simpa using this
 ·have:=h2.2 hw
  simpa using this
theorem AZ {P:PL}{g:PG}{f:R}(h:JN P g f=0)(hb:f.bits<18446744073709551616):Gf f:=by
 obtain⟨h1,h2,h3,h4,_,h6,_⟩:=BN h;refine HW h1 h2 ?_ hb (by omega);unfold Zb;by_cases hw:f.wire≤2
 ·rw[Qn5 (by
   have:f.wire=0∨f.wire=1∨f.wire=2:=by omega
   rcases this with e|e|e<;>rw[e]<;>rfl)]
  exact h3 hw
 ·rw[Qn4 (by simp;omega)];exact h4 (by omega)
section
variable {M:Nat}{P:PL}(hU:J6 P)(hr:Zi P)(hn:SG P)
include hU hr in
theorem QhU {n:Nat}{t:Int}(hg:Qk P t∈P.progs){x:V}(h:Xp P (n+1) (Qk P t) x=0)(ox:x.ok M)(cx:x.cnt≤1048576)(nx:nrm P (n+1) (Qk P t) x=x):∀s∈x.slots,Ns M P (Xp P n) (nrm P n) (Qk P t) s:=by
 intro s hs;have hw:=AP hU hr hg h;rw[nx]at hw;refine⟨hw s hs,ox.slots s hs,QnU (Z9 hs) cx,fun o ho=>?_⟩;have hs2:=hs;rw[←nx]at hs2;obtain⟨q,hq,hsq⟩:=QoJ.1 (show s∈(Qk P t).ops.flatMap (Xg (nrm P n) P x.slots)from hs2);obtain⟨e1,u,hu,e2,e3⟩:=Zq hsq;rw[e1,XG (hr _ hg) hq]at ho;have hoq:q=o:=Option.some.inj ho;subst hoq;obtain⟨_,⟨s1,_,_⟩,_,_⟩:=ZH.1 h;obtain⟨o',h1,h2⟩:=s1 u hu;rw[e2,XG (hr _ hg) hq]at h1;have hoq:q=o':=Option.some.inj h1;subst hoq;rw[e3];exact CV (fun g hg v h=>HQ hU hr n g hg v h) (hU _ hg q hq) h2
theorem QfX {m:PG→V→Int}{nm:PG→V→V}(bd:Int→V→List UInt8){g:PG}{s:Int×V}(h:Ns M P m nm g s):UQ bd g s≠[]:=by
 obtain⟨o,ho,hf,he⟩:=h.wd;have hx:=h.nrm o ho;unfold UQ;rw[ho];show YE bd o s.2≠[];unfold YE;by_cases h5:o.card=5
 ·rw[Qn5 h5];have he:=he.resolve_left (by omega);obtain⟨a1,_⟩:=N9 h5 hx;intro e;have:s.2.pairs=[]:=List.map_eq_nil_iff.1 e;rw[this]at a1;rw[a1]at he;cases he
 rw[Qn4 h5];split
 ·simp
 split
 ·rename_i h4;have he:=he.resolve_left (by omega);obtain⟨a1,_⟩:=Mv h4 hx;intro e;have:s.2.list=[]:=List.map_eq_nil_iff.1 e;rw[this]at a1;rw[a1]at he;cases he
 ·simp
include hU hr hn in
theorem QcS {n:Nat}{t:Int}(hg:Qk P t∈P.progs){x:V}(h:Xp P (n+1) (Qk P t) x=0)(ox:x.ok M)(hs:∀s∈x.slots,Ns M P (Xp P n) (nrm P n) (Qk P t) s):∀f∈Zv (XD P n) (Qk P t) x.slots x.raws,Gf f:=by
 obtain⟨_,_,_,hraw⟩:=ZH.1 h;have key:∀(sl:List (Int×V)) (rs:List R),(∀s∈sl,Ns M P (Xp P n) (nrm P n) (Qk P t) s)→(∀f∈rs,Gf f)→∀f∈Zv (XD P n) (Qk P t) sl rs,Gf f:=by
  intro sl
  induction sl with
  |nil=>intro rs _ hr f hf;exact hr f hf
  |cons s sl ih=>
   intro rs h1 h2 f hf;rw[Zv,Qph,Qph]at hf;rcases hf with(hf|hf)|hf
   ·exact h2 f ((List.takeWhile_sublist _).mem hf)
   ·have hs:=h1 s (by simp);obtain⟨o,ho,hfo,_⟩:=hs.wd;have hom:=(JO ho).1;unfold UQ at hf;rw[ho]at hf;exact QfW (hU _ hg o hom) (fun t v ht hm=>Dt hU hr n t v ht hm) (hn _ hg o hom) hfo hs.ok hs.cnt f hf
   ·exact ih _ (fun s h=>h1 s (by simp[h])) (fun f hf=>h2 f ((List.dropWhile_sublist _).mem hf)) f hf
 refine key x.slots x.raws hs fun f hf=>AZ (hraw f hf) ?_
 have:=Gq (ox.raws f hf).bits;omega
end
theorem P5 {P:PL}{t:Int}(ht:0≤t∧t<(P.progs.length:Int)):Qk P t∈P.progs:=by
 unfold Qk;rw[QnX (by omega:t.toNat<P.progs.length)];exact QoP _
def DR (f:R):Nat:=if f.wire=3 then f.data.length else 0
def ZB:List R→Nat
 | []=>0
 |f :: l=>max (DR f) (ZB l)
mutual
def _root_.Go.Proofs.YtgnfjkkfbcnbfaaGreatDoor.Br.V.lgt:V→Nat
 |.mk _ _ t l p s r=>max t.length (max (ZK l) (max (ZW p) (max (ZX s) (ZB r))))
def ZK:List V→Nat
 | []=>0
 |x :: l=>max x.lgt (ZK l)
def ZW:List (V×V)→Nat
 | []=>0
 |(a,b) :: l=>max (max a.lgt b.lgt) (ZW l)
def ZX:List (Int×V)→Nat
 | []=>0
 |(_,b) :: l=>max b.lgt (ZX l)
end
mutual
def _root_.Go.Proofs.YtgnfjkkfbcnbfaaGreatDoor.Br.V.dep:V→Nat
 |.mk k _ _ l p s _=>max (ZO l) (max (Z2 p) (Jc s))+(if k=10 then 1 else 0)
def ZO:List V→Nat
 | []=>0
 |x :: l=>max x.dep (ZO l)
def Z2:List (V×V)→Nat
 | []=>0
 |(a,b) :: l=>max (max a.dep b.dep) (Z2 l)
def Jc:List (Int×V)→Nat
 | []=>0
 |(_,b) :: l=>max b.dep (Jc l)
end
theorem Hm (v:V):v.lgt=max v.text.length (max (ZK v.list) (max (ZW v.pairs) (max (ZX v.slots) (ZB v.raws)))):=by
 cases v;rw[V.lgt];rfl
theorem W0 (v:V):v.dep=max (ZO v.list) (max (Z2 v.pairs) (Jc v.slots))+(if v.kd=10 then 1 else 0):=by
 cases v;rw[V.dep];rfl
theorem GV {k:Int}(hk:1≤k∧k≤9)(b:Nat)(t:List UInt8) :
  (wk k=0∧Q7 k b t=⟨0,0,b,[]⟩∧k≠6∧k≠7∧k≠8)∨(wk k=1∧Q7 k b t=⟨0,1,(UN (IntKind.i64.wrap (b:Int))).toNat,[]⟩∧k≠6∧k≠7∧k≠8)∨
  (wk k=2∧Q7 k b t=⟨0,2,Xu k b,[]⟩∧k=6)∨(wk k=3∧Q7 k b t=⟨0,3,0,t⟩∧(k=7∨k=8)):=by
 unfold wk Q7;by_cases h1:k=1∨k=4∨k=5∨k=9
 ·rw[Qn5 h1,Qn5 h1];exact .inl ⟨rfl,rfl,by omega⟩
 rw[Qn4 h1,Qn4 h1];by_cases h2:k=2∨k=3
 ·rw[Qn5 h2,Qn5 h2];exact .inr (.inl ⟨rfl,rfl,by omega⟩)
 rw[Qn4 h2,Qn4 h2];by_cases h3:k=6
 ·rw[Qn5 h3,Qn5 h3];exact .inr (.inr (.inl ⟨rfl,rfl,h3⟩))
 rw[Qn4 h3,Qn4 h3,Qn5 (by omega),Qn5 (by omega)];exact .inr (.inr (.inr ⟨rfl,rfl,by omega⟩))
section
variable {M:Nat}{P:PL}{k tg:Int}{x:V}(hx:x.one P k tg=0)(ox:x.ok M)(nx:x.nsc=x)
include hx in
theorem A1 {b:Nat}{t:List UInt8}(hb:b=x.bits)(ht:t=x.text):QD k b t=x:=by
 obtain⟨a1,_,_,a4,a5,a6,a7,_⟩:=Zy hx;subst hb ht;exact QlC a1.symm rfl rfl a4.symm a5.symm a6.symm a7.symm
include hx in
theorem A2:isk k=true∧Kz k x.bits=true∧(k=7→YK x.text=true)∧(k=9→WO P.enums tg x.bits=true):=by
 have hk:=(Zy hx).1;unfold V.one WP at hx;split at hx
 ·omega
 split at hx
 ·omega
 split at hx
 ·omega
 rename_i h7;split at hx
 ·omega
 rename_i hf;split at hx
 ·omega
 rename_i h9;simp only[Qp4,Bool.not_eq_false',Qp2,QpK]at h7 hf h9;unfold XQ at hf;simp only[Qol]at hf;refine⟨hf.1.1.1.1.1.1,hf.1.1.2,fun h=>?_,fun h=>?_⟩
 ·rcases h7 with h7|h7
  ·exact absurd h h7
  ·exact h7
 ·rcases h9 with h9|h9
  ·exact absurd h h9
  ·exact h9
include hx ox nx in
theorem Fo:Xk P k tg ⟨0,wk k,(Q7 x.kd x.bits x.text).bits,(Q7 x.kd x.bits x.text).data⟩=(x,0):=by
 obtain⟨a1,a2,a3,a4,a5,a6,a7,a8⟩:=Zy hx;obtain⟨b1,b2,b3,b4⟩:=A2 hx;have hb:=P2 ox;have hn:Xu k x.bits=x.bits:=by
  have:=congrArg V.bits nx;cases x;simp only[V.kd,V.nsc,V.bits]at a1 this;rw[a1]at this;exact this
 unfold Xk;rw[Qn5 b1,Qn5 rfl,a1];dsimp only;have num:wk k≠3→XX (wk k) (Q7 k x.bits x.text).bits=x.bits→x.text=[]→(if wk k=3 then(if k=7∧YK (Q7 k x.bits x.text).data=false then(QD 0 0 [],7)else(QD k 0 (Q7 k x.bits x.text).data,0))else if Kz k (XX (wk k) (Q7 k x.bits x.text).bits)=true then(if k=9∧WO P.enums tg (XX (wk k) (Q7 k x.bits x.text).bits)=false then(QD 0 0 [],16)else(QD k (Xu k (XX (wk k) (Q7 k x.bits x.text).bits)) [],0))else(QD 0 0 [],6))=(x,0):=by
  intro h3 hw ht;rw[Qn4 h3,hw,Qn5 b2,Qn4 (fun h=>by rw[b4 h.1]at h;cases h.2),hn,A1 hx rfl ht.symm]
 rcases GV ⟨a2,a3⟩ x.bits x.text with⟨h1,h2,h3⟩|⟨h1,h2,h3⟩|⟨h1,h2,h3⟩|⟨h1,h2,h3⟩
 ·rw[Qn4 (by omega)]at a8;exact num (by omega) (by rw[h1,h2];rfl) a8
 ·rw[Qn4 (by omega)]at a8;refine num (by omega) ?_ a8;rw[h1,h2];unfold XX;rw[Qn5 rfl,Int.toNat_of_nonneg (HN _),QcA,Qz,Jj];omega
 ·rw[Qn4 (by omega)]at a8;refine num (by omega) ?_ a8;rw[h1,h2];unfold XX;rw[Qn4 (by decide)];exact hn
 ·rw[Qn5 h3]at a8;rw[h1,Qn5 rfl,h2];dsimp only;rw[Qn4 (fun h=>by rw[b3 h.1]at h;cases h.2),A1 hx a8.symm rfl]
include hx ox in
theorem Nt {n:Int}{c:C}(hc:CT c){s:List UInt8}(h:c.rest=body (XB n x)++s):Xl (Jp (wk k) c) c (body (XB n x)).length 0 x.text.length 0 ⟨0,wk k,(Q7 x.kd x.bits x.text).bits,(Q7 x.kd x.bits x.text).data⟩:=by
 obtain⟨a1,a2,a3,a4,a5,a6,a7,a8⟩:=Zy hx;have hb:=UR (k:=x.kd) (P2 ox) x.text;have h0:=hc.ci.nd;have h1:=hc.ci.dp;have h2:=hc.tx;have hbody:body (XB n x)=if (Q7 x.kd x.bits x.text).wire=2 then fx 8 (Q7 x.kd x.bits x.text).bits else if Zb (Q7 x.kd x.bits x.text).wire then Vp.put (Q7 x.kd x.bits x.text).bits else Vp.put (Q7 x.kd x.bits x.text).data.length++(Q7 x.kd x.bits x.text).data:=rfl
 rw[hbody]at h ⊢;rw[a1]at h hb ⊢;rcases GV ⟨a2,a3⟩ x.bits x.text with⟨w,e,h3⟩|⟨w,e,h3⟩|⟨w,e,h3⟩|⟨w,e,h3⟩
 ·rw[e]at h hb ⊢;dsimp only at h hb ⊢;rw[Qn4 (by decide),Qn5 (by rfl)]at h ⊢;rw[Qn4 (by omega)]at a8;unfold Jp;rw[w,Qn4 (by decide),Qn4 (by decide),GS hc hb h,Qn5 rfl,a8];exact Xl.ok hc rfl
 ·rw[e]at h hb ⊢;dsimp only at h hb ⊢;rw[Qn4 (by decide),Qn5 (by rfl)]at h ⊢;rw[Qn4 (by omega)]at a8;unfold Jp;rw[w,Qn4 (by decide),Qn4 (by decide),GS hc hb h,Qn5 rfl,a8];exact Xl.ok hc rfl
 ·rw[e]at h hb ⊢;dsimp only at h hb ⊢;rw[Qn5 rfl]at h ⊢;rw[Qn4 (by omega)]at a8;unfold Jp;rw[w,Qn4 (by decide),Qn5 rfl,QfS hc hb h,Qn5 rfl,a8,KD];exact Xl.ok hc rfl
 ·rw[e]at h ⊢;dsimp only at h ⊢;rw[Qn4 (by decide),Qn4 (by decide)]at h ⊢;rw[Qoi]at h;unfold Jp;rw[w,Qn5 rfl,BM hc h];dsimp only;have hr:=KH hc h 0;have ht:=XL (k:=0) hc (Zz h) (by omega);have hl:=Zz hr;by_cases hx:c.tx<(x.text.length:Int)
  ·have ht3:text (QU c (Vp.put x.text.length).length 0) (x.text.length:Int)=([],QU c (Vp.put x.text.length).length 0,3):=by
    unfold text;rw[Qn4 (by omega),Qn4 (by rw[Xa];omega),Qn5 (show(QU c (Vp.put x.text.length).length 0).tx<_ from hx)]
   rw[ht3];exact .inr (.inl ⟨rfl,.inr hx⟩)
  ·obtain⟨e1,_,_⟩:=Ja ht.ci.big ht.ci.snd x.text.length (by rw[Xa];omega);have ht0:text (QU c (Vp.put x.text.length).length 0) (x.text.length:Int)=(x.text,QU c ((Vp.put x.text.length).length+x.text.length) 0,0):=by
    unfold text;rw[Qn4 (by omega),Qn4 (by rw[Xa];omega),Qn4 (show ¬(QU c (Vp.put x.text.length).length 0).tx<_ from hx),e1,hr,Qpq,List.take_left' rfl];unfold QU;simp only[C.mk.injEq,QoO,and_true,Qpt];omega
   rw[ht0];exact .inl ⟨by rw[QoB];rfl,by omega,by omega,by omega⟩
end
def W2 (S:List (Int×V))(rs:List R):V:=.mk 10 0 [] [] [] S rs
def XM (S:List (Int×V))(rs:List R)(n:Int):Option V→V
 |none=>W2 S rs
 |some y=>W2 (S++[(n,y)]) rs
theorem IG {g:PG}{o:PO}{s:Int×V}(h:Xy g o s=false):(s.1==o.num)=false:=by
 unfold Xy at h;simp only[QoQ]at h;exact h.1
section
variable {g:PG}{o:PO}{S:List (Int×V)}{rs:List R}(hS:∀s∈S,Xy g o s=false)
include hS
theorem Wj (cur:Option V)(y:V):XK g (XM S rs o.num cur) o y=XM S rs o.num (some y):=by
 have h1:S.filter (fun s=>!Xy g o s)=S:=List.filter_eq_self.2 fun s h=>by rw[hS s h];rfl
 cases cur with
 |none=>
  show V.mk 10 0 [] [] [] (S.filter (fun s=>!Xy g o s)++[(o.num,y)]) rs=_;rw[h1];rfl
 |some z=>
  have h2:Xy g o (o.num,z)=true:=by unfold Xy;simp
  show V.mk 10 0 [] [] [] ((S++[(o.num,z)]).filter (fun s=>!Xy g o s)++[(o.num,y)]) rs=_;rw[List.filter_append,h1];simp only[QpA,h2,QpF,Qog,if_false,List.filter_nil,Qo1];rfl
theorem Ym (cur:Option V):XV (XM S rs o.num cur) o.num=cur:=by
 have h1:S.find? (fun s=>s.1==o.num)=none:=QpU.2 fun s h=>by rw[IG (hS s h)];simp
 cases cur with
 |none=>
  show(S.find? (fun s=>s.1==o.num)).map Prod.snd=none;rw[h1];rfl
 |some z=>
  show((S++[(o.num,z)]).find? (fun s=>s.1==o.num)).map Prod.snd=some z;rw[List.find?_append,h1];simp
end
def Hn (o:PO)(cur:Option V)(x:V):V:=if o.card=4 then QZ ((cur.getD (QD 0 0 [])).list++[x])else x
def Ho (o:PO)(cur:Option V)(x:V):Nat:=x.cnt+(if o.card=4∧cur.isSome=false then 1 else 0)
section
variable {M:Nat}{P:PL}{g:PG}{o:PO}{S:List (Int×V)}{rs:List R}(hS:∀s∈S,Xy g o s=false)
include hS in
theorem Mw {x:V}(hx:x.one P o.kind o.target=0)(ox:x.ok M)(nx:x.nsc=x)(cur:Option V){n:Int}{c:C}(hc:CT c){s:List UInt8}(h:c.rest=body (XB n x)++s) :
  Xl (KE P g (XM S rs o.num cur) o c) c (body (XB n x)).length (Ho o cur x) x.text.length 0 (XM S rs o.num (some (Hn o cur x))):=by
 have hcnt:x.cnt=1:=by
  obtain⟨_,_,_,a4,a5,a6,a7,_⟩:=Zy hx;rw[Q1,a4,a5,a6,a7];rfl
 have hsc:=Fo hx ox nx;have hl:=Zz h;unfold KE Ho Hn;rw[hcnt,Ym hS,show QW (XM S rs o.num cur) o.num=cur.getD (QD 0 0 [])by unfold QW;rw[Ym hS]];refine Xl.spd hc 1 (fun e he=>by rw[show(1:Int)=((1:Nat):Int)from rfl,he]) (fun h1 h2=>?_);rw[show(1:Int)=((1:Nat):Int)from rfl,h1];dsimp only;have hc1:=XL hc (n:=0) (Qn6 _) h2;have hr1:(QU c 0 1).rest=body (XB n x)++s:=by rw[JA hc 1 (Qn6 _),QoF,h]
 have ho:=Nt hx ox hc1 hr1;by_cases h4:o.card=4∧cur.isSome=false
 ·rw[Qn5 h4];obtain⟨h4,h5⟩:=h4;have:=Xl.seq (R:=match Jp (wk o.kind) (QU c 0 1)with
   |.error e=>.error e
   |.ok (f,d)=>if (Xk P o.kind o.target f).2=16 then .ok (YA (XM S rs o.num cur) ⟨o.num,0,f.bits,[]⟩,d)
    else if (Xk P o.kind o.target f).2=0 then
     if o.card=4 then
      if cur.isSome=true then .ok (XK g (XM S rs o.num cur) o (QZ ((cur.getD (QD 0 0 [])).list++[(Xk P o.kind o.target f).1])),d)
      else match spd d 1 with
       |.error e=>.error e
       |.ok d1=>.ok (XK g (XM S rs o.num cur) o (QZ ((cur.getD (QD 0 0 [])).list++[(Xk P o.kind o.target f).1])),d1)
     else .ok (XK g (XM S rs o.num cur) o (Xk P o.kind o.target f).1,d)
    else .error (Xk P o.kind o.target f).2) ho (n':=0) (k':=1) (l':=0) (d':=0) (y:=XM S rs o.num (some (if o.card=4 then QZ ((cur.getD (QD 0 0 [])).list++[x])else x))) (fun e he=>by rw[he]) (fun e he=>by
   rw[e];dsimp only;rw[hsc];dsimp only;rw[Qn4 (by decide),Qn5 rfl,Qn5 h4,Qn4 (by rw[h5];decide)];have hc2:=XL (k:=0) hc1 (Zz hr1) (by have:=hc1.ci.nd;omega);refine Xl.spd hc2 1 (k':=0) (fun e he=>by rw[show(1:Int)=((1:Nat):Int)from rfl,he]) (fun g1 g2=>?_);rw[show(1:Int)=((1:Nat):Int)from rfl,g1];dsimp only;rw[Wj hS];exact Xl.ok (XL hc2 (n:=0) (Qn6 _) g2) (by rw[Jb,Qn5 h4]))
  exact this.cast rfl (by omega) (by omega) (by omega) (by omega)
 ·rw[Qn4 h4];have:=Xl.seq (R:=match Jp (wk o.kind) (QU c 0 1)with
   |.error e=>.error e
   |.ok (f,d)=>if (Xk P o.kind o.target f).2=16 then .ok (YA (XM S rs o.num cur) ⟨o.num,0,f.bits,[]⟩,d)
    else if (Xk P o.kind o.target f).2=0 then
     if o.card=4 then
      if cur.isSome=true then .ok (XK g (XM S rs o.num cur) o (QZ ((cur.getD (QD 0 0 [])).list++[(Xk P o.kind o.target f).1])),d)
      else match spd d 1 with
       |.error e=>.error e
       |.ok d1=>.ok (XK g (XM S rs o.num cur) o (QZ ((cur.getD (QD 0 0 [])).list++[(Xk P o.kind o.target f).1])),d1)
     else .ok (XK g (XM S rs o.num cur) o (Xk P o.kind o.target f).1,d)
    else .error (Xk P o.kind o.target f).2) ho (n':=0) (k':=0) (l':=0) (d':=0) (y:=XM S rs o.num (some (if o.card=4 then QZ ((cur.getD (QD 0 0 [])).list++[x])else x))) (fun e he=>by rw[he]) (fun e he=>by
   rw[e];dsimp only;rw[hsc];dsimp only;have hc2:=XL (k:=0) hc1 (Zz hr1) (by have:=hc1.ci.nd;omega);rw[Qn4 (by decide),Qn5 rfl];by_cases h6:o.card=4
   ·rw [Qn5 h6,Qn5 (show cur.isSome=true by
     cases hcs:cur.isSome
     ·exact absurd ⟨h6,hcs⟩ h4
     ·rfl),Wj hS]
    exact Xl.ok hc2 (by rw[Jb,Qn5 h6])
   ·rw[Qn4 h6,Wj hS];exact Xl.ok hc2 (by rw[Jb,Qn4 h6]))
  exact this.cast rfl (by omega) (by omega) (by omega) (by omega)
end
theorem Mx {d:C}(hd:CT d){s t:List UInt8}(h:d.rest=s++t){q:Int}(hq:0≤q∧q≤d.dp):CT ({ d with e:=d.a+s.length,dp:=q }:C)∧({ d with e:=d.a+s.length,dp:=q }:C).rest=s:=by
 have h1:=hd.ci.pos;have h2:=hd.ci.lf;have h3:=hd.ci.nd;have h4:=hd.ci.dp;have h5:=hd.ci.len;rw[Xa,h,QoB]at h2;have hi:CT ({ d with e:=d.a+s.length,dp:=q }:C):=⟨Bl h5 (by dsimp only;omega) h3 (by dsimp only;omega),hd.tx⟩;refine⟨hi,?_⟩;have e1:=C.rest_of hd.ci.snd;have e2:=C.rest_of hi.ci.snd;rw[e2];dsimp only;rw[h]at e1;have e3:=congrArg (List.take s.length) e1;rw[List.take_left' rfl,Qpd]at e3;refine Eq.trans ?_ e3.symm;congr 1
 omega
theorem Nu {d:C}(hd:CT d){s t:List UInt8}(h:d.rest=s++t):part d s.length={ d with e:=d.a+s.length }∧CT (part d s.length)∧(part d s.length).rest=s:=by
 have h1:=(Yi hd.ci (n:=s.length) (by rw[Xa,h,QoB];omega)).1;have h2:=Mx hd h (q:=d.dp) ⟨hd.ci.dp.1,Qpn _⟩;rw[h1];exact⟨rfl,h2.1,h2.2⟩
theorem DS {d:C}(hd:CT d){s t:List UInt8}(h:d.rest=s++t)(n k:Nat):JP d (QU (part d s.length) n k)=QU d s.length k:=by
 rw[(Nu hd h).1];rfl
def Nv (M:Nat)(P:PL)(m:PG→V→Int)(nm:PG→V→V)(bd:Int→V→List UInt8)(rec:Int→V→C→Rd V):Prop :=
 ∀(t:Int) (y:V),(0≤t∧t<(P.progs.length:Int))→m (Qk P t) y=0→y.ok M→y.cnt≤1048576→nm (Qk P t) y=y→∀c:C,CT c→c.rest=bd t y→Xl (rec t (QD 10 0 []) c) c (bd t y).length (y.cnt-1) y.lgt (y.dep-1) y
theorem Yn {P:PL}{k tg:Int}{x:V}(hx:x.one P k tg=0):x.cnt=1∧x.lgt=x.text.length∧x.dep=0:=by
 obtain⟨a1,a2,a3,a4,a5,a6,a7,_⟩:=Zy hx;refine⟨?_,?_,?_⟩
 ·rw[Q1,a4,a5,a6,a7];rfl
 ·rw[Hm,a4,a5,a6,a7];simp[ZK,ZW,ZX,ZB]
 ·rw[W0,a4,a5,a6,Qn4 (by omega)];rfl
section
variable {M:Nat}{P:PL}{m:PG→V→Int}{nm:PG→V→V}{bd:Int→V→List UInt8}{rec:Int→V→C→Rd V}(hR:Nv M P m nm bd rec)
include hR in
theorem Nw {t:Int}{y:V}(ht:0≤t∧t<(P.progs.length:Int))(hy:m (Qk P t) y=0)(hk:y.kd=10)(oy:y.ok M)(cy:y.cnt≤1048576)(ny:nm (Qk P t) y=y)(k:Nat){c:C}(hc:CT c){s:List UInt8}(h:c.rest=Vp.put (bd t y).length++(bd t y++s)) :
  Xl (W6 rec t (QD 10 0 []) k c) c ((Vp.put (bd t y).length).length+(bd t y).length) (k+(y.cnt-1)) y.lgt y.dep y:=by
 have hdep:1≤y.dep:=by rw[W0,Qn5 hk];omega
 have hcn:=hc.ci.nd;have hcd:=hc.ci.dp;have hd:=XL (k:=0) hc (Zz h) (by omega);have hr:=KH hc h 0;unfold W6;rw[BM hc h];dsimp only;generalize hD:QU c (Vp.put (bd t y).length).length 0=d at hd hr;have hdp:d.dp=c.dp:=by rw[←hD];rfl
 have hdx:d.tx=c.tx:=by rw[←hD];rfl
 have hdn:d.nd=c.nd:=by rw[←hD];show c.nd-((0:Nat):Int)=_;omega
 have hle:((bd t y).length:Int)≤d.left:=by rw[Xa,hr,QoB];omega
 by_cases hq:d.dp<1
 ·have he:enter d ((bd t y).length:Int)=(d,17):=by
   unfold enter;rw[Qn4 (by omega),Qn4 (by omega),Qn5 hq]
  rw[he];exact .inr (.inr ⟨rfl,by omega⟩)
 have he0:(enter d ((bd t y).length:Int)).2=0:=by
  unfold enter;rw[Qn4 (by omega),Qn4 (by omega),Qn4 hq]
 have he1:=(Fh hd.ci hle he0).1;obtain⟨hi,hir⟩:=Mx hd hr (q:=d.dp-1) (by omega);rw[Qn5 he0,he1];have hlv:∀K:Nat,(K:Int)≤d.nd→WS d (QU ({ d with e:=d.a+((bd t y).length:Int),dp:=d.dp-1 }:C) (bd t y).length K)=QU d (bd t y).length K:=by
  intro K hK;have h1:=hd.ci.pos;have h2:=hd.ci.lf;have h3:=hd.ci.nd;unfold WS QU;dsimp only;rw[Qn4 (by rw[hd.ci.snd];simp;omega)]
 have hin:({ d with e:=d.a+((bd t y).length:Int),dp:=d.dp-1 }:C).nd=d.nd:=rfl;have hix:({ d with e:=d.a+((bd t y).length:Int),dp:=d.dp-1 }:C).tx=d.tx:=rfl;have hid:({ d with e:=d.a+((bd t y).length:Int),dp:=d.dp-1 }:C).dp=d.dp-1:=rfl;generalize ({ d with e:=d.a+((bd t y).length:Int),dp:=d.dp-1 }:C)=i at hi hir hlv hin hix hid;have key:Xl (match spd i k with
   |.error e=>.error e
   |.ok j=>rec t (QD 10 0 []) j) i (bd t y).length (k+(y.cnt-1)) y.lgt (y.dep-1) y:=by
  refine Xl.spd hi k (fun e he=>by rw[he]) (fun h1 h2=>?_);rw[h1];dsimp only;have hi2:=XL hi (n:=0) (Qn6 _) h2;exact hR t y ht hy oy cy ny _ hi2 (by rw[JA hi k (Qn6 _),QoF,hir])
 cases hs:spd i k with
 |error e=>
  rw[hs]at key;dsimp only at key ⊢;rcases key with⟨h1,_⟩|⟨h1,h2⟩|⟨h1,h2⟩
  ·cases h1
  ·exact .inr (.inl ⟨h1▸rfl,by omega⟩)
  ·exact .inr (.inr ⟨h1▸rfl,by omega⟩)
 |ok j=>
  rw[hs]at key;dsimp only at key ⊢;rcases key with⟨h1,h2,h3,h4⟩|⟨h1,h2⟩|⟨h1,h2⟩
  ·rw[h1];dsimp only;rw[hlv _ (by omega),←hD,Wt,Qom];exact .inl ⟨rfl,by omega,by omega,by omega⟩
  ·rw[h1];exact .inr (.inl ⟨rfl,by omega⟩)
  ·rw[h1];exact .inr (.inr ⟨rfl,by omega⟩)
variable {g:PG}{o:PO}(ho:UO P o){S:List (Int×V)}{rs:List R}(hS:∀s∈S,Xy g o s=false)
theorem HX (n:Int)(x:V)(hk:o.kind=10):body (Q0 bd o n x)=Vp.put (bd o.target x).length++bd o.target x:=by
 unfold Q0;rw[Qn5 hk];unfold body;rw[Qn4 (by show ¬(4:Int)=2;decide),Qn4 (by show ¬Zb 4=true;decide)]
include hR ho in
theorem IH (hkd:∀t v,m (Qk P t) v=0→v.kd=10){n:Int}{x:V}(hx:QN m P o x=0)(ox:x.ok M)(cx:x.cnt≤1048576)(nx:Xq nm P o x=x){c:C}(hc:CT c){s:List UInt8}(h:c.rest=body (Q0 bd o n x)++s) :
  Xl (ZD P rec o.kind o.target (wk o.kind) c) c (body (Q0 bd o n x)).length (x.cnt-1) x.lgt x.dep x:=by
 unfold ZD;rw[Qn5 rfl];unfold QN at hx;unfold Xq at nx;by_cases hk:o.kind=10
 ·rw[Qn5 hk]at hx nx ⊢;rw[HX n x hk,Qoi]at h;rw[HX n x hk,QoB];exact(Nw hR (ho.tgt hk) hx (hkd _ _ hx) ox cx nx 0 hc h).cast rfl rfl (by omega) rfl rfl
 ·rw[Qn4 hk]at hx nx ⊢;have he:Q0 bd o n x=XB n x:=by unfold Q0;rw[Qn4 hk]
  rw[he]at h ⊢;obtain⟨b1,b2,b3⟩:=Yn hx;have hsc:=Fo hx ox nx;have hcn:=hc.ci.nd;have:=Xl.seq (R:=match Jp (wk o.kind) c with
   |.error e=>.error e
   |.ok (f,d)=>if (Xk P o.kind o.target f).2=0 then .ok ((Xk P o.kind o.target f).1,d)else .error (Xk P o.kind o.target f).2) (Nt hx ox hc h) (n':=0) (k':=0) (l':=0) (d':=0) (y:=x) (fun e he=>by rw[he]) (fun e _=>by
   rw[e];dsimp only;rw[hsc];dsimp only;rw[Qn5 rfl];exact Xl.ok (XL hc (Zz h) (by omega)) (by rw[Jb]))
  exact this.cast rfl rfl (by omega) (by omega) (by omega)
theorem My {k tg:Int}(rec:Int→V→C→Rd V){n:Int}{x:V}(hx:x.one P k tg=0)(ox:x.ok M)(nx:x.nsc=x){c:C}(hc:CT c){s:List UInt8}(h:c.rest=body (XB n x)++s) :
  Xl (ZD P rec k tg (wk k) c) c (body (XB n x)).length 0 x.lgt x.dep x:=by
 obtain⟨b1,b2,b3⟩:=Yn hx;obtain⟨_,_,a3,_⟩:=Zy hx;have hsc:=Fo hx ox nx;have hcn:=hc.ci.nd;unfold ZD;rw[Qn5 rfl,Qn4 (by omega)];have:=Xl.seq (R:=match Jp (wk k) c with
  |.error e=>.error e
  |.ok (f,d)=>if (Xk P k tg f).2=0 then .ok ((Xk P k tg f).1,d)else .error (Xk P k tg f).2) (Nt hx ox hc h) (n':=0) (k':=0) (l':=0) (d':=0) (y:=x) (fun e he=>by rw[he]) (fun e _=>by
  rw[e];dsimp only;rw[hsc];dsimp only;rw[Qn5 rfl];exact Xl.ok (XL hc (Zz h) (by omega)) (by rw[Jb]))
 exact this.cast rfl rfl (by omega) (by omega) (by omega)
include hR ho hS in
theorem II (hkd:∀t v,m (Qk P t) v=0→v.kd=10){n:Int}{x:V}(hx:QN m P o x=0)(ox:x.ok M)(cx:x.cnt≤1048576)(nx:Xq nm P o x=x)(cur:Option V)(hcur:o.card≠4→cur=none){c:C}(hc:CT c){s:List UInt8}(h:c.rest=body (Q0 bd o n x)++s) :
  Xl (if o.kind=10 then KS rec g (XM S rs o.num cur) o c else KE P g (XM S rs o.num cur) o c) c (body (Q0 bd o n x)).length (Ho o cur x) x.lgt x.dep (XM S rs o.num (some (Hn o cur x))):=by
 unfold QN at hx;unfold Xq at nx;by_cases hk:o.kind=10
 ·rw[Qn5 hk]at hx nx ⊢;rw[HX n x hk,Qoi]at h;rw[HX n x hk,QoB];have hcx:=Za x;have hcn:=hc.ci.nd;have hadv:∀K:Nat,(K:Int)≤c.nd→CT (QU c ((Vp.put (bd o.target x).length).length+(bd o.target x).length) K):=fun K hK=>XL hc (by rw[h,QoB,QoB];omega) hK
  unfold KS Ho Hn;rw[Ym hS,show QW (XM S rs o.num cur) o.num=cur.getD (QD 0 0 [])by unfold QW;rw[Ym hS]];by_cases h4:o.card=4
  ·rw[Qn5 h4,Qn5 h4];have hki:(if cur.isSome=true then(1:Int)else 2)=(((if cur.isSome=true then 1 else 2):Nat):Int):=by split<;>rfl
   rw[hki];have:=Xl.seq (R:=match W6 rec o.target (QD 10 0 []) (((if cur.isSome=true then 1 else 2):Nat):Int) c with
    |.error e=>.error e
    |.ok (x,d)=>.ok (XK g (XM S rs o.num cur) o (QZ ((cur.getD (QD 0 0 [])).list++[x])),d)) (Nw hR (ho.tgt hk) hx (hkd _ _ hx) ox cx nx (if cur.isSome=true then 1 else 2) hc h) (n':=0) (k':=0) (l':=0) (d':=0) (y:=XM S rs o.num (some (QZ ((cur.getD (QD 0 0 [])).list++[x])))) (fun e he=>by rw[he]) (fun e he=>by
    rw[e];dsimp only;rw[Wj hS];exact Xl.ok (hadv _ he) (by rw[Jb]))
   refine this.cast rfl (by omega) ?_ (by omega) (by omega);cases hcs:cur.isSome<;>simp[h4]<;>omega
  ·have hc0:=hcur h4;subst hc0;rw[Qn4 h4,Qn4 h4,Qn4 (show ¬((none:Option V).isSome=true)by decide),Qn4 (fun h:o.card=4∧(none:Option V).isSome=false=>h4 h.1)];have:=Xl.seq (R:=match W6 rec o.target (QD 10 0 []) 1 c with
    |.error e=>.error e
    |.ok (x,d)=>.ok (XK g (XM S rs o.num none) o x,d)) (Nw hR (ho.tgt hk) hx (hkd _ _ hx) ox cx nx 1 hc h) (n':=0) (k':=0) (l':=0) (d':=0) (y:=XM S rs o.num (some x)) (fun e he=>by rw[show(1:Int)=((1:Nat):Int)from rfl,he]) (fun e he=>by
    rw[show(1:Int)=((1:Nat):Int)from rfl,e];dsimp only;rw[Wj hS];exact Xl.ok (hadv _ he) (by rw[Jb]))
   exact this.cast rfl (by omega) (by omega) (by omega) (by omega)
 ·rw[Qn4 hk]at hx nx ⊢;have he:Q0 bd o n x=XB n x:=by unfold Q0;rw[Qn4 hk]
  rw[he]at h ⊢;obtain⟨b1,b2,b3⟩:=Yn hx;rw[b2,b3];exact Mw hS hx ox nx cur hc h
end
theorem IJ {c k:Int}(hp:pk c k=true)(n:Int){x:V}(hk:x.kd=k):body (XB n x)=JD (wk k) x:=by
 unfold JD DQ;have hw:=AQ hp x.bits x.text;have h2:=SA hp;show(if (Q7 x.kd x.bits x.text).wire=2 then fx 8 (Q7 x.kd x.bits x.text).bits else if Zb (Q7 x.kd x.bits x.text).wire then Vp.put (Q7 x.kd x.bits x.text).bits else _)=_;rw[hk,hw];by_cases h:wk k=2
 ·rw[Qn5 h,Qn5 h]
 ·rw[Qn4 h,Qn4 h,Qn5];rcases h2 with h2|h2|h2
  ·rw[h2];rfl
  ·rw[h2];rfl
  ·exact absurd h2 h
theorem A3 {c:C}(hc:CT c){b:UInt8}{s:List UInt8}(h:c.rest=b :: s):ZV c=((b.toNat:Int),QU c 1 0,0):=by
 obtain⟨e,_,_⟩:=Ja hc.ci.big hc.ci.snd 1 (by rw[Xa,h,Qoc];omega);have e':c.ahead 1={ c with a:=c.a+(1:Nat) }:=e;unfold ZV;rw[h];simp[e',QU]
section
variable {M:Nat}{P:PL}{g:PG}{o:PO}{S:List (Int×V)}{rs:List R}(hS:∀s∈S,Xy g o s=false)
include hS in
theorem Vb (hp:pk o.card o.kind=true):∀(l done:List V) (fuel:Nat) (c:C),(∀x∈l,x.one P o.kind o.target=0∧x.ok M∧x.nsc=x)→CT c→l.length≤fuel→c.rest=l.flatMap (JD (wk o.kind))→
  Xl (Jq P g o fuel (XM S rs o.num (some (QZ done))) c) c (l.flatMap (JD (wk o.kind))).length l.length 0 0 (XM S rs o.num (some (QZ (done++l))))
 | [],done,fuel,c,_,hc,_,h=>by
  have hl:c.left=0:=by rw[Xa,h];rfl
  have:Jq P g o fuel (XM S rs o.num (some (QZ done))) c=.ok (XM S rs o.num (some (QZ done)),c):=by
   cases fuel with
   |zero=>rfl
   |succ k=>rw[Jq,Qn4 (by omega)]
  rw[this,Qo1];exact Xl.ok hc (by rw[show(([]:List V).flatMap (JD (wk o.kind))).length=0 from rfl,Jb])
 |x :: l,done,fuel,c,hl,hc,hf,h=>by
  obtain⟨fuel,rfl⟩:∃k,fuel=k+1:=⟨fuel-1,by simp only[Qoc]at hf;omega⟩;obtain⟨h1,h2,h3⟩:=hl x (by simp);have hkd:=(Zy h1).1;have hb:=IJ hp 0 hkd;rw[Qps]at h ⊢;rw[←hb]at h ⊢;have hne:0<(body (XB 0 x)).length:=by
   rw[hb];exact Qpj.2 (AT _ _)
  have hlf:0<c.left:=by rw[Xa,h,QoB];omega
  obtain⟨b1,b2,_⟩:=Yn h1;have ht:x.text=[]:=by
   obtain⟨_,_,_,_,_,_,_,a8⟩:=Zy h1;have:=(Yl hp).2
   rwa [Qn4 (by omega)]at a8
  have h4:=(Yl hp).1;have ho:=Mw (P:=P) (rs:=rs) hS h1 h2 h3 (some (QZ done)) hc h;have hev:Hn o (some (QZ done)) x=QZ (done++[x]):=by unfold Hn;rw[Qn5 h4];rfl
  have hek:Ho o (some (QZ done)) x=1:=by unfold Ho;rw[b1];simp
  rw[hev,hek,ht]at ho;have:=Xl.seq (R:=Jq P g o (fuel+1) (XM S rs o.num (some (QZ done))) c) ho (fun e he=>by rw[Jq,Qn5 hlf,he]) (fun e he=>by
   rw[Jq,Qn5 hlf,e];exact Vb hp l (done++[x]) fuel _ (fun y hy=>hl y (by simp[hy])) (XL hc (Zz h) he) (by simp only[Qoc]at hf;omega) (KH hc h 1))
  rw[Qoi]at this;exact this.cast rfl (by rw[QoB]) (by simp only[Qoc];omega) rfl rfl
include hS in
theorem A4 (hp:pk o.card o.kind=true){l:List V}(hl:∀x∈l,x.one P o.kind o.target=0∧x.ok M∧x.nsc=x){c:C}(hc:CT c){s:List UInt8}(h:c.rest=body (Uq o l)++s) :
  Xl (WU P g (XM S rs o.num none) o c) c (body (Uq o l)).length (1+l.length) 0 0 (XM S rs o.num (some (QZ l))):=by
 have hbd:body (Uq o l)=Vp.put (UInt8.ofNat (wk o.kind).toNat :: l.flatMap (JD (wk o.kind))).length++(UInt8.ofNat (wk o.kind).toNat :: l.flatMap (JD (wk o.kind))):=by
  unfold body;rw[Qn4 (by show ¬(5:Int)=2;decide),Qn4 (by show ¬Zb 5=true;decide)];rfl
 rw[hbd,Qoi]at h;rw[hbd,QoB];have hcn:=hc.ci.nd;have hcd:=hc.ci.dp;have hct:=hc.tx;have hd:=XL (k:=0) hc (Zz h) (by omega);have hr:=KH hc h 0;have hwb:((UInt8.ofNat (wk o.kind).toNat).toNat:Int)=wk o.kind:=by
  rcases SA hp with w|w|w<;>rw[w]<;>rfl
 unfold WU;rw[BM hc h];dsimp only;generalize hD:QU c (Vp.put (UInt8.ofNat (wk o.kind).toNat :: l.flatMap (JD (wk o.kind))).length).length 0=d at hd hr;have hdn:d.nd=c.nd:=by rw[←hD];show c.nd-((0:Nat):Int)=_;omega
 have hdp:d.dp=c.dp:=by rw[←hD];rfl
 have hdx:d.tx=c.tx:=by rw[←hD];rfl
 obtain⟨p1,p2,p3⟩:=Nu hd hr;have hbh:=DS hd hr;have hpn:(part d (UInt8.ofNat (wk o.kind).toNat :: l.flatMap (JD (wk o.kind))).length).nd=d.nd:=by rw[p1]
 have hpp:(part d (UInt8.ofNat (wk o.kind).toNat :: l.flatMap (JD (wk o.kind))).length).dp=d.dp:=by rw[p1]
 have hpx:(part d (UInt8.ofNat (wk o.kind).toNat :: l.flatMap (JD (wk o.kind))).length).tx=d.tx:=by rw[p1]
 generalize part d (UInt8.ofNat (wk o.kind).toNat :: l.flatMap (JD (wk o.kind))).length=i at p2 p3 hbh hpn hpp hpx;clear p1;have hby:=A3 p2 p3;have hi1:=XL (k:=0) p2 (n:=1) (by rw[p3,Qoc];omega) (by omega);have hr1:(QU i 1 0).rest=l.flatMap (JD (wk o.kind)):=by rw[JA p2 0 (by rw[p3,Qoc];omega),p3];rfl
 rw[hby];dsimp only;rw[Qn5 rfl,Qn5 hwb,Ym hS,Qn4 (by decide),Wj hS];have hin:(QU i 1 0).nd=i.nd:=by show i.nd-((0:Nat):Int)=_;omega
 have hip:(QU i 1 0).dp=i.dp:=rfl;have hix:(QU i 1 0).tx=i.tx:=rfl;have key:Xl (match spd (QU i 1 0) 1 with
   |.error e=>.error e
   |.ok j=>Jq P g o j.left.toNat (XM S rs o.num (some (QZ []))) j) (QU i 1 0) (l.flatMap (JD (wk o.kind))).length (1+l.length) 0 0 (XM S rs o.num (some (QZ l))):=by
  refine Xl.spd hi1 1 (fun e he=>by rw[show(1:Int)=((1:Nat):Int)from rfl,he]) (fun h1 h2=>?_);rw[show(1:Int)=((1:Nat):Int)from rfl,h1];dsimp only;have hi2:=XL hi1 (n:=0) (Qn6 _) h2;have hr2:(QU (QU i 1 0) 0 1).rest=l.flatMap (JD (wk o.kind)):=by rw[JA hi1 1 (Qn6 _),QoF,hr1]
  have hlen:l.length≤(QU (QU i 1 0) 0 1).left.toNat:=by
   rw[Xa,hr2,Qpq];have:∀l:List V,l.length≤(l.flatMap (JD (wk o.kind))).length:=by
    intro l
    induction l with
    |nil=>exact Qn6 _
    |cons x l ih=>
     have:=Qpj.2 (AT (wk o.kind) (Q7 x.kd x.bits x.text).bits);rw[Qps,QoB,Qoc];unfold JD at ih ⊢;omega
   exact this l
  have:=Vb (P:=P) (rs:=rs) (M:=M) hS hp l [] _ _ hl hi2 hlen hr2
  rwa [Qok]at this
 generalize hj:QU i 1 0=i1 at key hin hip hix;cases hs:spd i1 1 with
 |error e=>
  rw[hs]at key;dsimp only at key ⊢;rcases key with⟨h1,_⟩|⟨h1,h2⟩|⟨h1,h2⟩
  ·cases h1
  ·cases h1;exact .inr (.inl ⟨rfl,by omega⟩)
  ·cases h1;exact .inr (.inr ⟨rfl,by omega⟩)
 |ok j=>
  rw[hs]at key;dsimp only at key ⊢;unfold WT;rcases key with⟨h1,h2,h3,h4⟩|⟨h1,h2⟩|⟨h1,h2⟩
  ·rw[h1];dsimp only;rw[←hj,Wt,Qom,hbh,←hD,Wt,Qom];exact .inl ⟨rfl,by omega,by omega,by omega⟩
  ·rw[h1];exact .inr (.inl ⟨rfl,by omega⟩)
  ·rw[h1];exact .inr (.inr ⟨rfl,by omega⟩)
variable {m:PG→V→Int}{nm:PG→V→V}{bd:Int→V→List UInt8}{rec:Int→V→C→Rd V}(hR:Nv M P m nm bd rec)(ho:UO P o)(hkd:∀t v,m (Qk P t) v=0→v.kd=10)
 (hbd:∀(t:Int) (v:V),(0≤t∧t<(P.progs.length:Int))→m (Qk P t) v=0→(bd t v).length+70000≤70000*v.cnt)
theorem Mz {f:R}(hf:Gf f){n w:Nat}(hn:f.num=(n:Int))(hw:f.wire=(w:Int)):ZS f=Vp.put (n*8+w)++body f∧(1≤n∧n≤65535)∧w≤6:=by
 obtain⟨n',w',a1,a2,a3,a4,a5,_⟩:=HU hf;have e1:n'=n:=by omega
 have e2:w'=w:=by omega
 subst e1 e2;have hv:=hf.1;unfold valid ZR at hv;rw[a1]at hv;refine⟨a5,⟨?_,a4⟩,a3⟩;split at hv
 ·cases hv
 ·omega
theorem P6 {f:R}(hf:Gf f):2≤(ZS f).length:=by
 obtain⟨n,w,_,_,_,_,a5,a6⟩:=HU hf;have h1:=(Vp.put_len (n*8+w)).1;rw[a5,QoB];rcases a6 with⟨_,_,e⟩|⟨_,_,e⟩|⟨_,_,e⟩
 ·rw[e,KD];omega
 ·rw[e];have:=(Vp.put_len f.bits).1;omega
 ·rw[e,QoB];have:=(Vp.put_len f.data.length).1;omega
include hR ho hkd hbd in
theorem IK {p:V×V}(h1:p.1.one P o.key (-1)=0)(h2:QN m P o p.2=0)(o1:p.1.ok M)(o2:p.2.ok M)(n1:p.1.nsc=p.1)(n2:Xq nm P o p.2=p.2)(cx:p.2.cnt≤1048576)(z:V×V){fuel:Nat}(hfu:3≤fuel){c:C}(hc:CT c)(h:c.rest=QY [XB 1 p.1,Q0 bd o 2 p.2]) :
  Xl (Jz P rec o fuel z false false c) c (QY [XB 1 p.1,Q0 bd o 2 p.2]).length (p.2.cnt-1) (max p.1.lgt p.2.lgt) (max p.1.dep p.2.dep) p:=by
 obtain⟨fuel,rfl⟩:∃k,fuel=k+3:=⟨fuel-3,by omega⟩;have hcn:=hc.ci.nd;have e0:QY [XB 1 p.1,Q0 bd o 2 p.2]=ZS (XB 1 p.1)++ZS (Q0 bd o 2 p.2):=by
  unfold QY;simp
 obtain⟨w1,hw1⟩:∃w:Nat,(XB 1 p.1).wire=(w:Int)∧wk o.key=(w:Int):=by
  obtain⟨a1,a2,a3,_⟩:=Zy h1;show ∃w:Nat,(Q7 p.1.kd p.1.bits p.1.text).wire=(w:Int)∧_;rw[a1];rcases GV ⟨a2,a3⟩ p.1.bits p.1.text with⟨x,y,_⟩|⟨x,y,_⟩|⟨x,y,_⟩|⟨x,y,_⟩<;>rw[x,y]
  ·exact⟨0,rfl,rfl⟩
  ·exact⟨1,rfl,rfl⟩
  ·exact⟨2,rfl,rfl⟩
  ·exact⟨3,rfl,rfl⟩
 obtain⟨w2,hw2⟩:∃w:Nat,(Q0 bd o 2 p.2).wire=(w:Int)∧wk o.kind=(w:Int):=by
  unfold QN at h2;unfold Q0;by_cases hk:o.kind=10
  ·rw[Qn5 hk,hk];exact⟨4,rfl,rfl⟩
  ·rw[Qn4 hk]at h2 ⊢;obtain⟨a1,a2,a3,_⟩:=Zy h2;show ∃w:Nat,(Q7 p.2.kd p.2.bits p.2.text).wire=(w:Int)∧_;rw[a1];rcases GV ⟨a2,a3⟩ p.2.bits p.2.text with⟨x,y,_⟩|⟨x,y,_⟩|⟨x,y,_⟩|⟨x,y,_⟩<;>rw[x,y]
   ·exact⟨0,rfl,rfl⟩
   ·exact⟨1,rfl,rfl⟩
   ·exact⟨2,rfl,rfl⟩
   ·exact⟨3,rfl,rfl⟩
 have g1:Gf (XB 1 p.1):=Mu h1 o1 (by omega);have g2:Gf (Q0 bd o 2 p.2):=GU ho hbd (by omega) h2 o2 cx;obtain⟨f1,_,f3⟩:=Mz g1 (n:=1) rfl hw1.1;have hnum:(Q0 bd o 2 p.2).num=((2:Nat):Int):=by unfold Q0;split<;>rfl
 obtain⟨f4,_,f6⟩:=Mz g2 hnum hw2.1;rw[e0]at h;rw[e0,QoB]
 -- the first ZR
 have hA:=h;rw[f1,Qoi]at hA;have hlf:0<c.left:=by
  rw[Xa,h,QoB];have:=Qpj.2 (GR g1);omega
 have t1:=BL hc (by omega) f3 hA;have hcA:=XL (k:=0) hc (Zz hA) (by omega);have hrA:=KH hc hA 0;have s1:=Xl.seq (R:=ZD P rec o.key (-1) (wk o.key) (QU c (Vp.put (1*8+w1)).length 0)) (My rec h1 o1 n1 hcA hrA) (n':=0) (k':=0) (l':=0) (d':=0) (y:=p.1) (fun _ h=>h) (fun e _=>by
  rw[e];exact Xl.ok (XL hcA (Zz hrA) (by have:=hcA.ci.nd;omega)) (by rw[Jb]))
 have st:=Xl.seq (R:=Jz P rec o (fuel+3) z false false c) (c:=c) (n:=(ZS (XB 1 p.1)).length) (k:=0) (l:=p.1.lgt) (d:=p.1.dep) (r:=match ZD P rec o.key (-1) (wk o.key) (QU c (Vp.put (1*8+w1)).length 0)with
   |.error e=>.error e
   |.ok (y,d)=>.ok (y,d)) (x:=p.1) (y:=p) (n':=(ZS (Q0 bd o 2 p.2)).length) (k':=p.2.cnt-1) (l':=p.2.lgt) (d':=p.2.dep) (by
  have:=Xl.seq (r:=(Except.ok ((),QU c (Vp.put (1*8+w1)).length 0):Rd Unit)) (R:=match ZD P rec o.key (-1) (wk o.key) (QU c (Vp.put (1*8+w1)).length 0)with
   |.error e=>.error e
   |.ok (y,d)=>.ok (y,d)) (c:=c) (Xl.ok hc rfl) (fun e h=>by cases h) (fun _ _=>by
   have:=My rec h1 o1 n1 hcA hrA;cases hs:ZD P rec o.key (-1) (wk o.key) (QU c (Vp.put (1*8+w1)).length 0)with
   |error e=>rw[hs]at this;exact this
   |ok q=>rw[hs]at this;exact this)
  exact this.cast rfl (by rw[f1,QoB]) (by omega) (by omega) (by omega)) (fun e he=>by
   rw[Jz,Qn5 hlf,t1];dsimp only;rw[Qn5 rfl,Qn5 (by rfl),Qn4 (by decide),←hw1.2];cases hs:ZD P rec o.key (-1) (wk o.key) (QU c (Vp.put (1*8+w1)).length 0)with
   |error e'=>rw[hs]at he;injection he with he;subst he;rfl
   |ok q=>rw[hs]at he;cases he) (fun e he=>by
   have e':ZD P rec o.key (-1) (wk o.key) (QU c (Vp.put (1*8+w1)).length 0)=.ok (p.1,QU c (ZS (XB 1 p.1)).length 0):=by
    cases hs:ZD P rec o.key (-1) (wk o.key) (QU c (Vp.put (1*8+w1)).length 0)with
    |error e'=>rw[hs]at e;cases e
    |ok q=>rw[hs]at e;exact e
   rw[Jz,Qn5 hlf,t1];dsimp only;rw[Qn5 rfl,Qn5 (by rfl),Qn4 (by decide),←hw1.2,e'];dsimp only
   -- the second ZR
   have hcB:=XL (k:=0) hc (Zz h) (by omega);have hrB:=KH hc h 0;have hrB':=hrB;rw[f4]at hrB';have hrB2:(QU c (ZS (XB 1 p.1)).length 0).rest=Vp.put (2*8+w2)++body (Q0 bd o 2 p.2):=hrB';generalize QU c (ZS (XB 1 p.1)).length 0=b at hcB hrB hrB' hrB2;have hlb:0<b.left:=by
    rw[Xa,hrB];have:=Qpj.2 (GR g2);omega
   have hbn:=hcB.ci.nd;have t2:=BL hcB (by omega) f6 hrB2;have hcD:=XL (k:=0) hcB (Zz hrB2) (by omega);have hrD:(QU b (Vp.put (2*8+w2)).length 0).rest=body (Q0 bd o 2 p.2)++[]:=by rw[KH hcB hrB2 0,Qo1]
   have hside:=IH hR ho hkd h2 o2 cx n2 hcD hrD;have hbn0:(QU b (Vp.put (2*8+w2)).length 0).nd=b.nd:=by
    show b.nd-((0:Nat):Int)=_;omega
   have hfin:∀K:Nat,(K:Int)≤b.nd→(QU b (ZS (Q0 bd o 2 p.2)).length K).left=0:=fun K hK=>by
    rw[Xa,JA hcB K (by rw[hrB];exact QnV _),hrB,List.drop_length];rfl
   rw[Jz,Qn5 hlb,t2];dsimp only;rw[Qn5 rfl,Qn4 (by decide),Qn5 (by rfl),Qn4 (by decide),←hw2.2];have:=Xl.seq (r:=(Except.ok ((),QU b (Vp.put (2*8+w2)).length 0):Rd Unit)) (R:=match ZD P rec o.kind o.target (wk o.kind) (QU b (Vp.put (2*8+w2)).length 0)with
    |.error e=>.error e
    |.ok (y,d)=>Jz P rec o (fuel+1) (p.1,y) true true d) (c:=b) (n':=(body (Q0 bd o 2 p.2)).length+0) (k':=(p.2.cnt-1)+0) (l':=max p.2.lgt 0) (d':=max p.2.dep 0) (y:=p) (Xl.ok hcB rfl) (fun e h=>by cases h) (fun _ _=>Xl.seq hside (fun e he=>by rw[he]) (fun e he=>by
     rw[e];dsimp only;have hl0:=hfin (p.2.cnt-1) (by omega);rw[f4,QoB]at hl0;rw[Wt,Qom,Jz,Qn4 (by omega)];exact Xl.ok (XL hcB (by rw[hrB2,QoB];omega) (by omega)) (by rw[Jb])))
   exact this.cast rfl (by rw[f4,QoB];omega) (by omega) (by omega) (by omega))
 exact st.cast rfl rfl (by omega) rfl rfl
def P7 (o:PO)(cur:Option V)(p:V×V):V:=Jy (ZI o.key (cur.getD (QD 0 0 [])).pairs p)
include hR ho hkd hbd hS in
theorem SH {p:V×V}(h1:p.1.one P o.key (-1)=0)(h2:QN m P o p.2=0)(o1:p.1.ok M)(o2:p.2.ok M)(n1:p.1.nsc=p.1)(n2:Xq nm P o p.2=p.2)(cx:p.2.cnt≤1048576)(cur:Option V){c:C}(hc:CT c){s:List UInt8}(h:c.rest=body (JR bd o p)++s) :
  Xl (J7 P rec g (XM S rs o.num cur) o c) c (body (JR bd o p)).length (p.1.cnt+p.2.cnt+(if cur.isSome=true then 0 else 1)) (max p.1.lgt p.2.lgt) (max p.1.dep p.2.dep) (XM S rs o.num (some (P7 o cur p))):=by
 have hb:body (JR bd o p)=Vp.put (QY [XB 1 p.1,Q0 bd o 2 p.2]).length++QY [XB 1 p.1,Q0 bd o 2 p.2]:=by
  unfold body;rw[Qn4 (by show ¬(6:Int)=2;decide),Qn4 (by show ¬Zb 6=true;decide)];rfl
 rw[hb,Qoi]at h;rw[hb,QoB];have hcn:=hc.ci.nd;have hd:=XL (k:=0) hc (Zz h) (by omega);have hr:=KH hc h 0;have hm1:=(Yn h1).1;have hm2:=Za p.2;have hfu:3≤(QY [XB 1 p.1,Q0 bd o 2 p.2]).length:=by
  have g1:Gf (XB 1 p.1):=Mu h1 o1 (by omega);have g2:Gf (Q0 bd o 2 p.2):=GU ho hbd (by omega) h2 o2 cx;have e0:QY [XB 1 p.1,Q0 bd o 2 p.2]=ZS (XB 1 p.1)++ZS (Q0 bd o 2 p.2):=by
   unfold QY;simp
  have:=P6 g1;have:=P6 g2;rw[e0,QoB];omega
 unfold J7;rw[BM hc h];dsimp only;generalize hD:QU c (Vp.put (QY [XB 1 p.1,Q0 bd o 2 p.2]).length).length 0=d at hd hr;have hdn:d.nd=c.nd:=by rw[←hD];show c.nd-((0:Nat):Int)=_;omega
 have hdp:d.dp=c.dp:=by rw[←hD];rfl
 have hdx:d.tx=c.tx:=by rw[←hD];rfl
 obtain⟨p1,p2,p3⟩:=Nu hd hr;have hbh:=DS hd hr;have hpn:(part d (QY [XB 1 p.1,Q0 bd o 2 p.2]).length).nd=d.nd:=by rw[p1]
 have hpp:(part d (QY [XB 1 p.1,Q0 bd o 2 p.2]).length).dp=d.dp:=by rw[p1]
 have hpx:(part d (QY [XB 1 p.1,Q0 bd o 2 p.2]).length).tx=d.tx:=by rw[p1]
 generalize part d (QY [XB 1 p.1,Q0 bd o 2 p.2]).length=i at p2 p3 hbh hpn hpp hpx;clear p1;rw[Ym hS,show QW (XM S rs o.num cur) o.num=cur.getD (QD 0 0 [])by unfold QW;rw[Ym hS]];have hki:(if cur.isSome=true then(2:Int)else 3)=(((if cur.isSome=true then 2 else 3):Nat):Int):=by split<;>rfl
 rw[hki];have key:Xl (match spd i (((if cur.isSome=true then 2 else 3):Nat):Int)with
   |.error e=>.error e
   |.ok j=>Jz P rec o j.left.toNat (QD o.key 0 [],QD o.kind 0 []) false false j) i (QY [XB 1 p.1,Q0 bd o 2 p.2]).length ((if cur.isSome=true then 2 else 3)+(p.2.cnt-1)) (max p.1.lgt p.2.lgt) (max p.1.dep p.2.dep) p:=by
  refine Xl.spd p2 _ (fun e he=>by rw[he]) (fun h3 h4=>?_);rw[h3];dsimp only;have hi2:=XL p2 (n:=0) (Qn6 _) h4;have hr2:(QU i 0 (if cur.isSome=true then 2 else 3)).rest=QY [XB 1 p.1,Q0 bd o 2 p.2]:=by rw[JA p2 _ (Qn6 _),QoF,p3]
  exact IK hR ho hkd hbd h1 h2 o1 o2 n1 n2 cx _ (by rw[Xa,hr2,Qpq];exact hfu) hi2 hr2
 have hK:(if cur.isSome=true then 2 else 3)+(p.2.cnt-1)=p.1.cnt+p.2.cnt+(if cur.isSome=true then 0 else 1):=by
  split<;>omega
 rw[hK]at key;cases hs:spd i (((if cur.isSome=true then 2 else 3):Nat):Int)with
 |error e=>
  rw[hs]at key;dsimp only at key ⊢;rcases key with⟨h1,_⟩|⟨h1,h2⟩|⟨h1,h2⟩
  ·cases h1
  ·cases h1;exact .inr (.inl ⟨rfl,by omega⟩)
  ·cases h1;exact .inr (.inr ⟨rfl,by omega⟩)
 |ok j=>
  rw[hs]at key;dsimp only at key ⊢;rcases key with⟨h1,h2,h3,h4⟩|⟨h1,h2⟩|⟨h1,h2⟩
  ·rw[h1];dsimp only;rw[Wj hS,hbh,←hD,Wt,Qom];exact .inl ⟨rfl,by omega,by omega,by omega⟩
  ·rw[h1];exact .inr (.inl ⟨rfl,by omega⟩)
  ·rw[h1];exact .inr (.inr ⟨rfl,by omega⟩)
end
def Lp (P:PL)(rec:Int→V→C→Rd V)(t:Int)(v:V)(T:List R)(k l d:Nat)(x:V):Prop :=
 ∀(c:C) (s:List UInt8) (j:Nat),CT c→c.rest=QY T++s→
  (X9 P rec t (j+T.length) v c=X9 P rec t j x (QU c (QY T).length k)∧(k:Int)≤c.nd∧(l:Int)≤c.tx∧(d:Int)≤c.dp)∨
  (X9 P rec t (j+T.length) v c=.error 3∧(c.nd<k∨c.tx<l))∨(X9 P rec t (j+T.length) v c=.error 17∧c.dp<d)
theorem MA (a b:List R):QY (a++b)=QY a++QY b:=by
 unfold QY;exact Qqh
theorem MB (f:R):QY [f]=ZS f:=by
 unfold QY;simp
section
variable {P:PL}{rec:Int→V→C→Rd V}{t:Int}
theorem Lp.nil (v:V):Lp P rec t v [] 0 0 0 v:=by
 intro c s j hc _;have:=hc.ci.nd;have:=hc.ci.dp;have:=hc.tx;refine .inl ⟨?_,by omega,by omega,by omega⟩;rw[show(QY []).length=0 from rfl,Jb];rfl
theorem Lp.app {v x y:V}{T T':List R}{k l d k' l' d':Nat}(h:Lp P rec t v T k l d x)(h':Lp P rec t x T' k' l' d' y):Lp P rec t v (T++T') (k+k') (max l l') (max d d') y:=by
 intro c s j hc hr;rw[MA,Qoi]at hr;rw[show j+(T++T').length=(j+T'.length)+T.length by rw[QoB];omega,MA,QoB];rcases h c (QY T'++s) (j+T'.length) hc hr with⟨h1,h2,h3,h4⟩|⟨h1,h2⟩|⟨h1,h2⟩
 ·have hc2:=XL hc (Zz hr) h2;have e1:(QU c (QY T).length k).nd=c.nd-k:=rfl;have e2:(QU c (QY T).length k).tx=c.tx:=rfl;have e3:(QU c (QY T).length k).dp=c.dp:=rfl;rcases h' _ s j hc2 (KH hc hr k)with⟨g1,g2,g3,g4⟩|⟨g1,g2⟩|⟨g1,g2⟩
  ·exact .inl ⟨by rw[h1,g1,Wt],by omega,by omega,by omega⟩
  ·exact .inr (.inl ⟨by rw[h1,g1],by omega⟩)
  ·exact .inr (.inr ⟨by rw[h1,g1],by omega⟩)
 ·exact .inr (.inl ⟨h1,by omega⟩)
 ·exact .inr (.inr ⟨h1,by omega⟩)
theorem Lp.cast {v x x':V}{T T':List R}{k l d k' l' d':Nat}(h:Lp P rec t v T k l d x)(e0:T=T')(e1:k=k')(e2:l=l')(e3:d=d')(e4:x=x'):Lp P rec t v T' k' l' d' x':=by
 subst e0 e1 e2 e3 e4;exact h
theorem A5 {f:R}(hf:Gf f):∃n w:Nat,f.num=(n:Int)∧f.wire=(w:Int)∧(1≤n∧n≤65535)∧w≤6∧ZS f=Vp.put (n*8+w)++body f:=by
 obtain⟨n,w,a1,a2,_⟩:=HU hf;obtain⟨b1,b2,b3⟩:=Mz hf a1 a2;exact⟨n,w,a1,a2,b2,b3,b1⟩
theorem IM (l:List (V×V)):(V.mk 12 0 [] [] l [] []).cnt=1+Xd l∧(V.mk 12 0 [] [] l [] []).lgt=ZW l∧(V.mk 12 0 [] [] l [] []).dep=Z2 l:=by
 refine⟨?_,?_,?_⟩
 ·rw[Q1];simp only[V.raws,V.list,V.pairs,V.slots,QoT,Q6,Q9];omega
 ·rw[Hm];simp only[V.raws,V.list,V.pairs,V.slots,V.text,QoT,ZK,ZX,ZB];omega
 ·rw[W0,Qn4 (show ¬(V.mk 12 0 [] [] l [] []).kd=10 from(by decide:¬(12:Int)=10))];simp only[V.list,V.pairs,V.slots,ZO,Jc];omega
theorem MD (l:List V):(V.mk 11 0 [] l [] [] []).cnt=1+Q6 l∧(V.mk 11 0 [] l [] [] []).lgt=ZK l∧(V.mk 11 0 [] l [] [] []).dep=ZO l:=by
 refine⟨?_,?_,?_⟩
 ·rw[Q1];simp only[V.raws,V.list,V.pairs,V.slots,QoT,Xd,Q9];omega
 ·rw[Hm];simp only[V.raws,V.list,V.pairs,V.slots,V.text,QoT,ZW,ZX,ZB];omega
 ·rw[W0,Qn4 (show ¬(V.mk 11 0 [] l [] [] []).kd=10 from(by decide:¬(11:Int)=10))];simp only[V.list,V.pairs,V.slots,Z2,Jc];omega
theorem Lp.one {v x:V}{f:R}(hf:Gf f){o:PO}(ho:Xv (Qk P t) f.num=some o){k l d:Nat}(h:∀(c:C) (s:List UInt8),CT c→c.rest=body f++s→Xl (Zr P rec (Qk P t) v o f.wire c) c (body f).length k l d x):Lp P rec t v [f] k l d x:=by
 intro c s j hc hr;rw[MB]at hr ⊢;obtain⟨n,w,a1,a2,a3,a4,a5⟩:=A5 hf;have hlf:0<c.left:=by
  rw[Xa,hr,QoB];have:=Qpj.2 (GR hf);omega
 have hr2:=hr;rw[a5,Qoi]at hr2;have ht:=BL hc a3 a4 hr2;have hcn:=hc.ci.nd;have hc2:=XL (k:=0) hc (Zz hr2) (by omega);have hrr:=KH hc hr2 0;have hl:X9 P rec t (j+1) v c=match Zr P rec (Qk P t) v o f.wire (QU c (Vp.put (n*8+w)).length 0)with
   |.error e=>.error e
   |.ok (w,d)=>X9 P rec t j w d:=by
  rw[X9,Qn5 hlf,ht];dsimp only;rw[Qn5 rfl,←a1,ho,←a2];rfl
 have e1:(QU c (Vp.put (n*8+w)).length 0).nd=c.nd:=by show c.nd-((0:Nat):Int)=_;omega
 have e2:(QU c (Vp.put (n*8+w)).length 0).tx=c.tx:=rfl;have e3:(QU c (Vp.put (n*8+w)).length 0).dp=c.dp:=rfl;rw[show j+[f].length=j+1 from rfl,hl];rcases h _ s hc2 hrr with⟨g,g1,g2,g3⟩|⟨g,g1⟩|⟨g,g1⟩
 ·rw[g];dsimp only;rw[Wt,Qom,←QoB,←a5];exact .inl ⟨rfl,by omega,by omega,by omega⟩
 ·rw[g];exact .inr (.inl ⟨rfl,by omega⟩)
 ·rw[g];exact .inr (.inr ⟨rfl,by omega⟩)
theorem Lp.other {v:V}{f:R}(hf:Gf f)(ho:Xv (Qk P t) f.num=none)(hd:f.data.length≤65536):Lp P rec t v [f] 1 (DR f) 0 (YA v f):=by
 intro c s j hc hr;rw[MB]at hr ⊢;obtain⟨n,w,a1,a2,a3,a4,a5⟩:=A5 hf;have hlf:0<c.left:=by
  rw[Xa,hr,QoB];have:=Qpj.2 (GR hf);omega
 have hr2:=hr;rw[a5,Qoi]at hr2;have ht:=BL hc a3 a4 hr2;have hcn:=hc.ci.nd;have hcd:=hc.ci.dp;have hct:=hc.tx;have hl:X9 P rec t (j+1) v c=if (XJ c).2.2=0 then X9 P rec t j (YA v (XJ c).1) (XJ c).2.1 else .error (XJ c).2.2:=by
  rw[X9,Qn5 hlf,ht];dsimp only;rw[Qn5 rfl,←a1,ho]
 rw[show j+[f].length=j+1 from rfl,hl];by_cases h1:1≤c.nd
 case neg=>
  have he:(XJ c).2.2=3:=by
   unfold XJ;simp only[ht,if_true];have:(QU c (Vp.put (n*8+w)).length 0).spend 1=(QU c (Vp.put (n*8+w)).length 0,3):=by
    unfold C.spend;rw[Qn4 (by decide),Qn5 (by show c.nd-((0:Nat):Int)<1;omega)]
   rw[this];rfl
  rw[he];exact .inr (.inl ⟨rfl,by omega⟩)
 by_cases hfit:Mo f c.tx
 ·have hrd:=QfQ hf.1 hf.2.1 hf.2.2 hfit s;rw[←hr]at hrd;have hnx:=(QfR hc.ci.big hc.ci.snd h1 hcn.2).1 f _ hrd;rw[hnx];dsimp only;refine .inl ⟨by rw[Qn5 rfl];rfl,h1,?_,by omega⟩;unfold DR;split
  ·rename_i h3;have:=hfit (by rw[h3];rfl)
   rwa [Qn5 h3]at this
  ·omega
 ·have he:=QcO hc.ci.big hc.ci.snd h1 hcn.2 hf hr hfit;rw[he];refine .inr (.inl ⟨rfl,.inr ?_⟩);unfold Mo at hfit;simp only[Classical.not_imp]at hfit;obtain⟨_,hfit⟩:=hfit;unfold DR;split
  ·rename_i h3;rw[Qn5 h3]at hfit;omega
  ·rename_i h3;rw[Qn4 h3]at hfit;omega
theorem QcT {S:List (Int×V)}{R0:List R}{f:R}(h:JN P (Qk P t) f=0)(hb:f.bits<18446744073709551616):Lp P rec t (W2 S R0) [f] 1 (DR f) 0 (W2 S (R0++[f])):=by
 have hf:=AZ h hb;obtain⟨h1,h2,h3,h4,h5,h6,h7⟩:=BN h;cases ho:Xv (Qk P t) f.num with
 |none=>exact Lp.other hf ho h6
 |some o=>
  unfold Di at h5;rw[ho]at h5;simp only[Qol,Qn2,Qoq,Qn1,QoV]at h5;obtain⟨⟨⟨⟨k9,c5⟩,w0⟩,hbl⟩,hac⟩:=h5;have hnum:=(JO ho).2;have hdt:=h3 (by omega);have hrl:DR f=0:=by unfold DR;rw[Qn4 (by omega)]
  rw[hrl];have hbody:body f=Vp.put f.bits:=by
   unfold body;rw[w0,Qn4 (by decide),Qn5 (by rfl)]
  refine Lp.one hf ho fun c s hc hr=>?_
  have hwk:wk o.kind=0:=by rw[k9];rfl
  have hsc:Xk P o.kind o.target ⟨0,0,f.bits,[]⟩=(QD 0 0 [],16):=by
   unfold Xk;rw[k9];dsimp only;rw[Qn5 (by rfl),Qn5 (by rfl),Qn4 (by decide)];have hw:XX 0 f.bits=f.bits:=by unfold XX;rw[Qn4 (by decide)]
   rw[hw,Qn5,Qn5 ⟨rfl,hac⟩];unfold Kz;rw[Qn4 (by decide),Qn4 (by decide),Qn4 (by decide),Qn5 rfl];simp;omega
  have hrf:Zr P rec (Qk P t) (W2 S R0) o f.wire c=KE P (Qk P t) (W2 S R0) o c:=by
   unfold Zr;rw[Qn4 c5,Qn4 (by omega),Qn5 (by omega),Qn4 (by omega)]
  rw[hrf];unfold KE;refine(Xl.spd hc 1 (k':=0) (n':=(body f).length) (l':=0) (d':=0) (fun e he=>by rw[show(1:Int)=((1:Nat):Int)from rfl,he]) (fun g1 g2=>?_)).cast rfl rfl rfl rfl rfl;rw[show(1:Int)=((1:Nat):Int)from rfl,g1];dsimp only;have hc1:=XL hc (n:=0) (Qn6 _) g2;have hr1:(QU c 0 1).rest=Vp.put f.bits++s:=by rw[JA hc 1 (Qn6 _),QoF,hr,hbody]
  have hrc:Jp (wk o.kind) (QU c 0 1)=.ok (⟨0,0,f.bits,[]⟩,QU (QU c 0 1) (Vp.put f.bits).length 0):=by
   unfold Jp;rw[hwk,Qn4 (by decide),Qn4 (by decide),GS hc1 hb hr1,Qn5 rfl]
  rw[hrc];dsimp only;rw[hsc];dsimp only;rw[Qn5 rfl,hbody];have hfe:(⟨o.num,0,f.bits,[]⟩:R)=f:=by
   obtain⟨_,_,_,_⟩:=f;simp only at hnum w0 hdt;subst hnum w0 hdt;rfl
  rw[hfe];exact Xl.ok hc1 rfl
theorem Nx {S:List (Int×V)}:∀(l:List R) (R0:List R),(∀f∈l,JN P (Qk P t) f=0∧f.bits<18446744073709551616)→Lp P rec t (W2 S R0) l l.length (ZB l) 0 (W2 S (R0++l))
 | [],R0,_=>(Lp.nil _).cast rfl rfl rfl rfl (by rw[Qo1])
 |f :: l,R0,h=>by
  obtain⟨h1,h2⟩:=h f (by simp);have:=(QcT (rec:=rec) (S:=S) (R0:=R0) h1 h2).app (Nx l (R0++[f]) fun g hg=>h g (by simp[hg]));exact this.cast rfl (by simp only[Qoc];omega) rfl rfl (by rw[Qoi];rfl)
section
variable {M:Nat}{m:PG→V→Int}{nm:PG→V→V}{bd:Int→V→List UInt8}(hR:Nv M P m nm bd rec){o:PO}(ho:UO P o)(hkd:∀t v,m (Qk P t) v=0→v.kd=10)
 (hbd:∀(t:Int) (v:V),(0≤t∧t<(P.progs.length:Int))→m (Qk P t) v=0→(bd t v).length+70000≤70000*v.cnt)
 {S:List (Int×V)} {R0:List R} (hS:∀s∈S,Xy (Qk P t) o s=false) (hq:Xv (Qk P t) o.num=some o) (hn:1≤o.num∧o.num≤65535)
include hR ho hkd hbd hS hq hn in
theorem Ny (h5:o.card≠5){x:V}(hx:QN m P o x=0)(ox:x.ok M)(cx:x.cnt≤1048576)(nx:Xq nm P o x=x)(cur:Option V)(hcur:o.card≠4→cur=none) :
  Lp P rec t (XM S R0 o.num cur) [Q0 bd o o.num x] (Ho o cur x) x.lgt x.dep (XM S R0 o.num (some (Hn o cur x))):=by
 have hgf:=GU ho hbd (n:=o.num) hn hx ox cx;have hnum:(Q0 bd o o.num x).num=o.num:=by unfold Q0;split<;>rfl
 refine Lp.one hgf (by rw[hnum];exact hq) fun c s hc hr=>?_
 have hw:(Q0 bd o o.num x).wire=wk o.kind∧wk o.kind≠5:=by
  unfold Q0;unfold QN at hx;by_cases hk:o.kind=10
  ·rw[Qn5 hk,hk];exact⟨rfl,by decide⟩
  ·rw[Qn4 hk]at hx ⊢;obtain⟨a1,a2,a3,_⟩:=Zy hx;show(Q7 x.kd x.bits x.text).wire=_∧_;rw[a1];rcases GV ⟨a2,a3⟩ x.bits x.text with⟨p,q,_⟩|⟨p,q,_⟩|⟨p,q,_⟩|⟨p,q,_⟩<;>rw[p,q]<;>exact⟨rfl,by decide⟩
 have hrf:Zr P rec (Qk P t) (XM S R0 o.num cur) o (Q0 bd o o.num x).wire c=if o.kind=10 then KS rec (Qk P t) (XM S R0 o.num cur) o c else KE P (Qk P t) (XM S R0 o.num cur) o c:=by
  unfold Zr;rw[hw.1,Qn4 h5,Qn4 (fun h=>hw.2 h.1),Qn5 rfl]
 rw[hrf];exact II hR ho hS hkd hx ox cx nx cur hcur hc hr
include hR ho hkd hbd hS hq hn in
theorem P8 (h4:o.card=4):∀(l done:List V),(∀x∈l,QN m P o x=0∧x.ok M∧x.cnt≤1048576∧Xq nm P o x=x)→
  Lp P rec t (XM S R0 o.num (some (QZ done))) (l.map (Q0 bd o o.num)) (Q6 l) (ZK l) (ZO l) (XM S R0 o.num (some (QZ (done++l))))
 | [],done,_=>(Lp.nil _).cast rfl rfl rfl rfl (by rw[Qo1])
 |x :: l,done,h=>by
  obtain⟨h1,h2,h3,h4'⟩:=h x (by simp);have e1:=Ny hR ho hkd hbd (R0:=R0) hS hq hn (by omega) h1 h2 h3 h4' (some (QZ done)) (fun h=>absurd h4 h);have hev:Hn o (some (QZ done)) x=QZ (done++[x]):=by unfold Hn;rw[Qn5 h4];rfl
  have hek:Ho o (some (QZ done)) x=x.cnt:=by unfold Ho;simp
  rw[hev,hek]at e1;have:=e1.app (P8 h4 l (done++[x]) fun y hy=>h y (by simp[hy]));exact this.cast rfl rfl rfl rfl (by rw[Qoi];rfl)
theorem ME {k:Int}{done:List (V×V)}{p:V×V}{l:List (V×V)}(hs:Zm (fun x y:V×V=>kl k x.1 y.1) (done++p :: l))(hd:(done++p :: l).Pairwise fun q p=>Xz q.1 p.1=false):ZI k done p=done++[p]:=by
 have e:done++p :: l=(done++[p])++l:=by simp
 rw[e]at hs hd;have hs:=(Qpz.1 hs).1;have hd:=(Qpz.1 hd).1;unfold ZI QX;rw[show done.filter (fun q=>!Xz q.1 p.1)=done from List.filter_eq_self.2 fun q hq=>by rw[(Qpz.1 hd).2.2 q hq p (by simp)];rfl];exact HL hs
include hR ho hkd hbd hS hq hn in
theorem MF (h5:o.card=5){p:V×V}(h1:p.1.one P o.key (-1)=0)(h2:QN m P o p.2=0)(o1:p.1.ok M)(o2:p.2.ok M)(n1:p.1.nsc=p.1)(n2:Xq nm P o p.2=p.2)(cx:p.2.cnt≤1048576)(cur:Option V) :
  Lp P rec t (XM S R0 o.num cur) [JR bd o p] (p.1.cnt+p.2.cnt+(if cur.isSome=true then 0 else 1)) (max p.1.lgt p.2.lgt) (max p.1.dep p.2.dep) (XM S R0 o.num (some (P7 o cur p))):=by
 have hgf:Gf (JR bd o p):=by
  have h1:=Fl hbd ho h1 h2;have h3:p.1.cnt=1:=(Yn ‹_›).1;exact HW hn ⟨by show(0:Int)≤6;decide,by show(6:Int)≤6;decide⟩ rfl (by show(0:Nat)<_;decide) (by omega)
 refine Lp.one hgf (by exact hq) fun c s hc hr=>?_
 have hrf:Zr P rec (Qk P t) (XM S R0 o.num cur) o (JR bd o p).wire c=J7 P rec (Qk P t) (XM S R0 o.num cur) o c:=by
  unfold Zr;rw[Qn5 h5,Qn5 (by rfl)]
 rw[hrf];exact SH hS hR ho hkd hbd h1 h2 o1 o2 n1 n2 cx cur hc hr
include hR ho hkd hbd hS hq hn in
theorem P9 (h5:o.card=5):∀(l done:List (V×V)),Zm (fun x y:V×V=>kl o.key x.1 y.1) (done++l)→((done++l).Pairwise fun q p=>Xz q.1 p.1=false)→(∀p∈l,p.1.one P o.key (-1)=0∧QN m P o p.2=0∧p.1.ok M∧p.2.ok M∧p.1.nsc=p.1∧Xq nm P o p.2=p.2∧p.2.cnt≤1048576)→
  Lp P rec t (XM S R0 o.num (some (Jy done))) (l.map (JR bd o)) (Xd l) (ZW l) (Z2 l) (XM S R0 o.num (some (Jy (done++l))))
 | [],done,_,_,_=>(Lp.nil _).cast rfl rfl rfl rfl (by rw[Qo1])
 |p :: l,done,hs,hd,h=>by
  obtain⟨h1,h2,h3,h4,h6,h7,h8⟩:=h p (by simp);have e1:=MF hR ho hkd hbd (R0:=R0) hS hq hn h5 h1 h2 h3 h4 h6 h7 h8 (some (Jy done));have hev:P7 o (some (Jy done)) p=Jy (done++[p]):=by
   unfold P7;rw[←ME hs hd];rfl
  rw[hev]at e1;have:=e1.app (P9 h5 l (done++[p]) (by rw[Qoi];exact hs) (by rw[Qoi];exact hd) fun y hy=>h y (by simp[hy]));obtain⟨pa,pb⟩:=p;exact this.cast rfl (by simp only[Xd,QpR,if_true];omega) (by simp only[ZW]) (by simp only[Z2]) (by rw[Qoi];rfl)
include hR ho hkd hbd hS hq hn in
theorem QcU {x:V}(hx:Xw m P o x=0)(ox:x.ok M)(cx:x.cnt≤1048576)(nx:XN nm P o x=x)(hid:∀g∈P.progs,∀v,m g v=0→nm g (nm g v)=nm g v)(hne:YE bd o x≠[]) :
  Lp P rec t (W2 S R0) (YE bd o x) x.cnt x.lgt x.dep (W2 (S++[(o.num,x)]) R0):=by
 unfold Xw at hx;unfold YE at hne ⊢;by_cases h5:o.card=5
 ·rw[Qn5 h5]at hx hne ⊢;obtain⟨a1,a2⟩:=N9 h5 nx;split at hx
  ·omega
  obtain⟨ex,ed⟩:=Kd.1 hx;have all:∀p∈x.pairs,p.1.one P o.key (-1)=0∧QN m P o p.2=0∧p.1.ok M∧p.2.ok M∧p.1.nsc=p.1∧Xq nm P o p.2=p.2∧p.2.cnt≤1048576:=by
   intro p hp;obtain⟨np,p',hp',np'⟩:=a2 p hp;have:=Yk hp;exact⟨(ex p hp).1,(ex p hp).2,ox.keys p hp,ox.vals p hp,np,by rw[np'];exact HP hid ho (ex p' hp').2,by omega⟩
  have hs:Zm (fun x y:V×V=>kl o.key x.1 y.1) x.pairs:=by
   unfold XN at nx;rw[Qn4 (by omega),Qn5 h5]at nx;have hl:((QX o.key x.pairs).map fun p=>(p.1.nsc,Xq nm P o p.2))=x.pairs:=congrArg V.pairs nx;have h1:=Zh (J2 o.key) x.pairs;have hk:=GJ (m:=m) (P:=P) ho.key h5 ⟨ex,ed⟩;rw[←hl];unfold Zm;rw[List.pairwise_map];refine List.Pairwise.imp_of_mem ?_ h1;intro a b ha hb h;show kl o.key b.1.nsc a.1.nsc=false;rw[hk a ((QR x.pairs).mem_iff.1 ha),hk b ((QR x.pairs).mem_iff.1 hb)];exact h
  rw[a1];generalize x.pairs=l at all hs ed hne;cases l with
  |nil=>exact absurd rfl hne
  |cons p l=>
   obtain⟨h1,h2,h3,h4,h6,h7,h8⟩:=all p (by simp);have e1:=MF hR ho hkd hbd (R0:=R0) hS hq hn h5 h1 h2 h3 h4 h6 h7 h8 none;have hev:P7 o none p=Jy [p]:=by
    unfold P7;rw[show((none:Option V).getD (QD 0 0 [])).pairs=[]from rfl,ME (l:=l) hs ed];rfl
   rw[hev]at e1;have:=e1.app (P9 hR ho hkd hbd (R0:=R0) hS hq hn h5 l [p] hs ed fun y hy=>all y (by simp[hy]));obtain⟨pa,pb⟩:=p;obtain⟨m1,m2,m3⟩:=IM ((pa,pb) :: l);refine this.cast rfl ?_ ?_ ?_ rfl
   ·rw[m1];simp only[Xd,QoN,Qog,if_false];omega
   ·rw[m2];simp only[ZW]
   ·rw[m3];simp only[Z2]
 rw[Qn4 h5]at hx hne ⊢;by_cases h4:o.card=4
 ·rw[Qn5 h4]at hx hne ⊢;obtain⟨a1,a2⟩:=Mv h4 nx;split at hx
  ·omega
  have ex:=Ke.1 hx;by_cases hp:pk o.card o.kind=true
  ·rw[Qn5 hp];have hk:=(Yl hp).2;have all:∀y∈x.list,y.one P o.kind o.target=0∧y.ok M∧y.nsc=y:=by
    intro y hy;have h1:=ex y hy;have h2:=a2 y hy;unfold QN at h1;unfold Xq at h2;rw[Qn4 (by omega)]at h1 h2;exact⟨h1,ox.list y hy,h2⟩
   have hgf:Gf (Uq o x.list):=by
    have h1:=Hl (wk o.kind) x.list;have h2:=ZJ x;exact HW hn ⟨by show(0:Int)≤5;decide,by show(5:Int)≤6;decide⟩ rfl (by show(0:Nat)<_;decide) (by
     show(UInt8.ofNat (wk o.kind).toNat :: x.list.flatMap (JD (wk o.kind))).length<_;rw[Qoc];omega)
   have e1:Lp P rec t (W2 S R0) [Uq o x.list] (1+x.list.length) 0 0 (XM S R0 o.num (some (QZ x.list))):=Lp.one hgf hq fun c s hc hr=>by
    have hrf:Zr P rec (Qk P t) (W2 S R0) o (Uq o x.list).wire c=WU P (Qk P t) (XM S R0 o.num none) o c:=by
     unfold Zr;rw[Qn4 h5,Qn5 ⟨rfl,hp⟩];rfl
    rw[hrf];exact A4 (P:=P) (rs:=R0) (M:=M) hS hp all hc hr
   have meas:∀l:List V,(∀y∈l,y.one P o.kind o.target=0∧y.ok M∧y.nsc=y)→Q6 l=l.length∧ZK l=0∧ZO l=0:=by
    intro l
    induction l with
    |nil=>intro _;exact⟨rfl,rfl,rfl⟩
    |cons y l ih=>
     intro h;obtain⟨i1,i2,i3⟩:=ih fun z hz=>h z (by simp[hz])
     obtain⟨b1,b2,b3⟩:=Yn (h y (by simp)).1;have ht:y.text.length=0:=by
      obtain⟨_,_,_,_,_,_,_,a8⟩:=Zy (h y (by simp)).1;rw[Qn4 (by omega)]at a8;rw[a8];rfl
     simp only[Q6,ZK,ZO,Qoc];omega
   obtain⟨m1,m2,m3⟩:=meas _ all;obtain⟨q1,q2,q3⟩:=MD x.list;have z1:=congrArg V.cnt a1;have z2:=congrArg V.lgt a1;have z3:=congrArg V.dep a1;exact e1.cast rfl (by omega) (by omega) (by omega) (congrArg (fun z=>W2 (S++[(o.num,z)]) R0) a1.symm)
  ·rw[Qn4 hp]at hne ⊢;have all:∀y∈x.list,QN m P o y=0∧y.ok M∧y.cnt≤1048576∧Xq nm P o y=y:=fun y hy=>⟨ex y hy,ox.list y hy,by have:=Wi hy;omega,a2 y hy⟩
   rw[a1];generalize x.list=l at all hne;cases l with
   |nil=>exact absurd rfl hne
   |cons y l=>
    obtain⟨h1,h2,h3,h6⟩:=all y (by simp);have e1:=Ny hR ho hkd hbd (R0:=R0) hS hq hn h5 h1 h2 h3 h6 none (fun _=>rfl);have hev:Hn o none y=QZ [y]:=by unfold Hn;rw[Qn5 h4];rfl
    have hek:Ho o none y=y.cnt+1:=by unfold Ho;rw[Qn5 ⟨h4,rfl⟩]
    rw[hev,hek]at e1;have:=e1.app (P8 hR ho hkd hbd (R0:=R0) hS hq hn h4 l [y] fun z hz=>all z (by simp[hz]));obtain⟨q1,q2,q3⟩:=MD (y :: l);refine this.cast rfl ?_ ?_ ?_ rfl
    ·rw[q1];simp only[Q6];omega
    ·rw[q2];simp only[ZK]
    ·rw[q3];simp only[ZO]
 ·have hp:¬pk o.card o.kind=true:=fun h=>h4 (Yl h).1
  rw[Qn4 h4]at hx;rw[Qn4 hp,Qn4 h4];unfold XN at nx;rw[Qn4 h4,Qn4 h5]at nx;have e1:=Ny hR ho hkd hbd (R0:=R0) hS hq hn h5 hx ox cx nx none (fun _=>rfl);have hev:Hn o none x=x:=by unfold Hn;rw[Qn4 h4]
  have hek:Ho o none x=x.cnt:=by unfold Ho;rw[Qn4 (fun h=>h4 h.1)];omega
  rw[hev,hek]at e1;exact e1
end
end
theorem Ra:∀ {T:List R},(∀f∈T,Gf f)→T.length≤(QY T).length
 | [],_=>QnV _
 |f :: T,h=>by
  have h1:=Ra (T:=T) fun g hg=>h g (by simp[hg])
  have h2:=Qpj.2 (GR (h f (by simp)));unfold QY at h1 ⊢;rw[Qps,QoB,Qoc];omega
theorem IN (a b:List R):ZB (a++b)=max (ZB a) (ZB b):=by
 induction a with
 |nil=>simp[ZB]
 |cons f a ih=>simp only[Qoj,ZB,ih];omega
section
variable {M:Nat}{P:PL}(hU:J6 P)(hr:Zi P)(hn:SG P){n:Nat}{rec:Int→V→C→Rd V}(hR:Nv M P (Xp P n) (nrm P n) (XD P n) rec)
include hU hr hn hR in
theorem Re {t:Int}(hg:Qk P t∈P.progs):∀(sl S:List (Int×V)) (rs R0:List R),(∀s∈sl,Ns M P (Xp P n) (nrm P n) (Qk P t) s)→LL (Xp P n) P (Qk P t) (S++sl)→(∀f∈rs,JN P (Qk P t) f=0∧f.bits<18446744073709551616)→
  Lp P rec t (W2 S R0) (Zv (XD P n) (Qk P t) sl rs) (rs.length+Q9 sl) (max (ZX sl) (ZB rs)) (Jc sl) (W2 (S++sl) (R0++rs))
 | [],S,rs,R0,_,_,h=>by
  rw[Zv,Qo1];exact(Nx rs R0 h).cast rfl rfl (by simp only[ZX];omega) rfl rfl
 |s :: sl,S,rs,R0,hs,hok,h=>by
  have hns:=hs s (by simp);obtain⟨o,hq,hf,_⟩:=hns.wd;obtain⟨hom,hon⟩:=JO hq;have hdrop:∀y∈S,Xy (Qk P t) o y=false:=by
   intro y hy;obtain⟨_,h2,h3⟩:=hok;have a2:=(Qpz.1 h2).2.2 y hy s (by simp);have a3:=(Qpz.1 h3).2.2 y hy s (by simp) o hq;unfold Xy;rw[hon,a2,QpJ];unfold WQ at a3;cases hy2:Xv (Qk P t) y.1 with
   |none=>rfl
   |some q=>
    rw[hy2]at a3;simp only[Qo8,Qp2,bne_eq_false_iff_eq,QpK]at a3;dsimp only;rw[Qp2];rcases a3 with a3|a3
    ·left
     rw[a3];rfl
    ·right
     simpa using a3
  have hne:=QfX (XD P n) hns;have hq':Xv (Qk P t) o.num=some o:=by rw[hon];exact hq
  have hslr:UQ (XD P n) (Qk P t) s=YE (XD P n) o s.2:=by unfold UQ;rw[hq]
  rw[hslr]at hne;have e1:=Nx (rec:=rec) (S:=S) (rs.takeWhile fun r=>decide (r.num<s.1)) R0 (fun f hf=>h f ((List.takeWhile_sublist _).mem hf));have e2:=QcU (t:=t) (S:=S) (R0:=R0++rs.takeWhile fun r=>decide (r.num<s.1)) hR (hU _ hg o hom) (fun t v hm=>(by
    cases n with
    |zero=>exact(YT 0 _ _ hm).elim
    |succ n=>exact(ZH.1 hm).1.1)) (fun t v ht hm=>Dt hU hr n t v ht hm) hdrop hq' (hn _ hg o hom) hf hns.ok hns.cnt (hns.nrm o hq) (fun g hg v h=>HQ hU hr n g hg v h) hne
  have e3:=Re hg sl (S++[(o.num,s.2)]) (rs.dropWhile fun r=>decide (r.num<s.1)) (R0++rs.takeWhile fun r=>decide (r.num<s.1)) (fun u hu=>hs u (by simp[hu])) (by rw[hon,Qoi];exact hok) (fun f hf=>h f ((List.dropWhile_sublist _).mem hf));have e4:=(e1.app e2).app e3;have hsplit:rs.takeWhile (fun r=>decide (r.num<s.1))++rs.dropWhile (fun r=>decide (r.num<s.1))=rs:=List.takeWhile_append_dropWhile;have hl:=congrArg List.length hsplit;have hx:=congrArg ZB hsplit;rw[QoB]at hl;rw[IN]at hx;have w1:Q9 (s :: sl)=s.2.cnt+Q9 sl:=by cases s;rfl
  have w2:ZX (s :: sl)=max s.2.lgt (ZX sl):=by cases s;rfl
  have w3:Jc (s :: sl)=max s.2.dep (Jc sl):=by cases s;rfl
  refine e4.cast ?_ ?_ ?_ ?_ ?_
  ·rw[Zv,hslr]
  ·omega
  ·omega
  ·omega
  ·rw[hon,Qoi,Qoi,hsplit];rfl
include hU hr hn hR in
theorem IP {N:Nat}(hrec:rec=Wg P N):Nv M P (Xp P (n+1)) (nrm P (n+1)) (XD P (n+1)) (Wg P (N+1)):=by
 intro t y ht hy oy cy ny c hc hr2;subst hrec;have hg:Qk P t∈P.progs:=P5 ht;obtain⟨⟨hk,hoth⟩,hsok,_,hraw⟩:=ZH.1 hy;have hns:=QhU (M:=M) hU hr hg hy oy cy ny;have hgf:=QcS hU hr hn hg hy oy hns;have hb:XD P (n+1) t y=QY (Zv (XD P n) (Qk P t) y.slots y.raws):=by rw[XD,ny]
 have hyv:y=W2 y.slots y.raws:=by
  have h1:=congrArg V.slots ny;have h2:=congrArg V.raws ny
  calc y=nrm P (n+1) (Qk P t) y:=ny.symm
   _=.mk 10 0 [] [] [] (nrm P (n+1) (Qk P t) y).slots (nrm P (n+1) (Qk P t) y).raws:=rfl
   _=.mk 10 0 [] [] [] y.slots y.raws:=by rw[h1,h2]
 rw[hb]at hr2 ⊢;have hlp:=Re hU hr hn hR hg y.slots [] y.raws [] hns hsok (fun f hf=>⟨hraw f hf,by
  have:=Gq (oy.raws f hf).bits;omega⟩)
 generalize Zv (XD P n) (Qk P t) y.slots y.raws=T at hr2 hlp hgf ⊢;have hge:=Ra hgf;have hfu:c.left.toNat=(c.left.toNat-T.length)+T.length:=by
  rw[Xa,hr2,Qpq];omega
 have hm:Wg P (N+1) t (QD 10 0 []) c=X9 P (Wg P N) t ((c.left.toNat-T.length)+T.length) (W2 [] []) c:=by
  rw[Wg,←hfu];rfl
 have hc1:y.cnt-1=y.raws.length+Q9 y.slots:=by
  rw[hyv,Q1];simp only[W2,V.raws,V.list,V.pairs,V.slots,Q6,Xd];omega
 have hc2:y.lgt=max (ZX y.slots) (ZB y.raws):=by
  rw[hyv,Hm];simp only[W2,V.raws,V.list,V.pairs,V.slots,V.text,ZK,ZW,QoT];omega
 have hc3:y.dep-1=Jc y.slots:=by
  rw[W0,Qn5 hk];have h1:y.list=[]:=by rw[hyv];rfl
  have h2:y.pairs=[]:=by rw[hyv];rfl
  rw[h1,h2];simp only[ZO,Z2];omega
 rw[hm,hc1,hc2,hc3];rcases hlp c [] (c.left.toNat-T.length) hc (by rw[Qo1];exact hr2)with⟨h1,h2,h3,h4⟩|h1|h1
 ·refine .inl ⟨?_,h2,h3,h4⟩;rw[h1,Qok,Qok,←hyv];have hl0:(QU c (QY T).length (y.raws.length+Q9 y.slots)).left=0:=by
   rw[Xa,JA hc _ (by rw[hr2];exact QnV _),hr2,List.drop_length];rfl
  cases c.left.toNat-T.length with
  |zero=>rfl
  |succ k=>rw[X9,Qn4 (by omega)]
 ·exact .inr (.inl h1)
 ·exact .inr (.inr h1)
end
theorem QfY {M:Nat}{P:PL}(hU:J6 P)(hr:Zi P)(hn:SG P):∀n d:Nat,Nv M P (Xp P n) (nrm P n) (XD P n) (Wg P (n+d))
 |0,_=>fun t y _ h=>(YT 0 _ _ h).elim
 |n+1,d=>by
  have:=IP hU hr hn (QfY (M:=M) hU hr hn n d) rfl
  rwa [show n+1+d=n+d+1 by omega]
theorem XW (k:Int)(b:Nat)(t:List UInt8):(QD k b t).cnt=1:=by unfold QD;rw[Q1];rfl
theorem Jd {M:Nat}{k:Int}{b:Nat}{t:List UInt8}(hk:(Lit.int .i64 k).wf=true)(hb:b<18446744073709551616)(ht:t.length≤M):(QD k b t).ok M :=
 .mk hk (by simp[QD,V.bits,Lit.wf,IntKind.min,IntKind.max,IntKind.bits,IntKind.signed];omega) ht (Qn6 _) (Qn6 _) (Qn6 _) (Qn6 _) (fun _ hx=>nomatch hx) (fun _ hx=>nomatch hx) (fun _ hx=>nomatch hx) (fun _ hx=>nomatch hx) (fun _ hx=>nomatch hx) (fun _ hx=>nomatch hx)
theorem Wk {k:Int}(h : -9223372036854775808≤k)(h':k<9223372036854775808):(Lit.int .i64 k).wf=true:=by
 simp[Lit.wf,IntKind.min,IntKind.max,IntKind.bits,IntKind.signed];omega
theorem XE {v:V}{n:Int}{x:V}(h:XV v n=some x):(n,x)∈v.slots∧QW v n=x:=by
 unfold XV at h;cases hf:v.slots.find? (fun s=>s.1==n)with
 |none=>rw[hf]at h;cases h
 |some s=>
  rw[hf]at h;cases h;have h1:=QpW hf;have h2:s.1=n:=by simpa using QpX hf
  refine⟨?_,by unfold QW XV;rw[hf];rfl⟩;rw[←h2];exact h1
theorem Je {v:V}{n:Int}(h:¬(XV v n).isSome=true):QW v n=QD 0 0 []:=by
 unfold QW;cases hf:XV v n with
 |none=>rfl
 |some x=>rw[hf]at h;simp at h
theorem U6 (p:Int×V→Bool):∀l:List (Int×V),Q9 (l.filter p)≤Q9 l
 | []=>QnV _
 |(n,x) :: l=>by
  have:=U6 p l;rw[QpA];split<;>simp only[Q9]<;>omega
theorem Vc {p:Int×V→Bool}{s:Int×V}(hp:p s=false):∀ {l:List (Int×V)},s∈l→Q9 (l.filter p)+s.2.cnt≤Q9 l
 |(n,x) :: l,h=>by
  have hf:=U6 p l;rcases Qpk.1 h with rfl|h
  ·rw[QpA,hp];simp only[Qog,if_false,Q9];omega
  ·have ih:=Vc hp h;rw[QpA];split<;>simp only[Q9]<;>omega
theorem A6 (g:PG)(o:PO)(x:V):Xy g o (o.num,x)=true:=by unfold Xy;simp
theorem Wl (g:PG)(v:V)(o:PO)(x:V):(XK g v o x).cnt≤v.cnt+x.cnt:=by
 have:=U6 (fun s=>!Xy g o s) v.slots;rw[Q1 v,Q1 (XK g v o x)];show 1+v.raws.length+0+0+Q9 (v.slots.filter (fun s=>!Xy g o s)++[(o.num,x)])≤_;rw[Fe];simp only[Q9];omega
theorem US (g:PG)(v:V)(o:PO)(x:V){y:V}(h:XV v o.num=some y):(XK g v o x).cnt+y.cnt≤v.cnt+x.cnt:=by
 have:=Vc (p:=fun s=>!Xy g o s) (s:=(o.num,y)) (by rw[A6];rfl) (XE h).1;rw[Q1 v,Q1 (XK g v o x)];show 1+v.raws.length+0+0+Q9 (v.slots.filter (fun s=>!Xy g o s)++[(o.num,x)])+_≤_;rw[Fe];simp only[Q9];dsimp only at this;omega
theorem Nz (v:V)(f:R):(YA v f).cnt=v.cnt+1:=by
 rw[Q1 v,Q1 (YA v f)];show 1+(v.raws++[f]).length+Q6 v.list+Xd v.pairs+Q9 v.slots=_;rw[QoB];simp only[Qoc,QoT];omega
theorem Yo (l:List V):(QZ l).cnt=1+Q6 l:=by unfold QZ;rw[Q1];show 1+0+Q6 l+0+0=_;omega
theorem MG (l:List (V×V)):(Jy l).cnt=1+Xd l:=by unfold Jy;rw[Q1];show 1+0+0+Xd l+0=_;omega
theorem YY (l:List V)(x:V):Q6 (l++[x])=Q6 l+x.cnt:=by
 induction l with
 |nil=>simp[Q6]
 |cons y l ih=>simp only[Qoj,Q6,ih];omega
theorem SI (l:List (V×V))(x:V×V):Xd (l++[x])=Xd l+x.1.cnt+x.2.cnt:=by
 induction l with
 |nil=>obtain⟨a,b⟩:=x;simp[Xd]
 |cons y l ih=>obtain⟨a,b⟩:=y;simp only[Qoj,Xd,ih];omega
theorem DT (p:V×V→Bool):∀l:List (V×V),Xd (l.filter p)≤Xd l
 | []=>QnV _
 |(a,b) :: l=>by
  have:=DT p l;rw[QpA];split<;>simp only[Xd]<;>omega
theorem IQ (k:Int)(l:List (V×V))(x:V×V):Xd (ZI k l x)≤Xd l+x.1.cnt+x.2.cnt:=by
 unfold ZI;have hp:(QX k ((l.filter fun q=>!Xz q.1 x.1)++[x])).Perm _:=QR _;rw[NW hp,SI];have:=DT (fun q=>!Xz q.1 x.1) l;omega
theorem MH {k:Int}{l:List (V×V)}{x p:V×V}(h:p∈ZI k l x):(p∈l∧Xz p.1 x.1=false)∨p=x:=by
 have hp:(ZI k l x).Perm _:=QR _;have h:=hp.mem_iff.1 h;rw[Qph,Qpw]at h;rcases h with⟨h1,h2⟩|h
 ·exact .inl ⟨h1,by simpa using h2⟩
 ·exact .inr (by simpa using h)
theorem Ur (a b:V):Xz a b=Xz b a:=by
 unfold Xz;rw[Qqe (a:=a.bits),Qqe (a:=a.text)]
theorem Rf {k:Int}{l:List (V×V)}{x:V×V}(h:l.Pairwise fun q p=>Xz q.1 p.1=false):(ZI k l x).Pairwise fun q p=>Xz q.1 p.1=false:=by
 have hp:(ZI k l x).Perm _:=QR _;refine(hp.pairwise_iff fun {a b} h=>by rw[Ur];exact h).2 ?_;rw[Qpz];refine⟨h.filter _,Qp9 _ _,?_⟩;intro a ha b hb;rw[Qp8]at hb;subst hb
 simpa using (Qpw.1 ha).2
theorem IR (k:Int)(l:List (V×V))(x:V×V):(ZI k l x).length≤l.length+1:=by
 have hp:(ZI k l x).Perm _:=QR _;rw[hp.length_eq,QoB];have:=List.length_filter_le (fun q=>!Xz q.1 x.1) l;simp only[Qoc,QoT];omega
section
variable {M:Nat}
theorem Hp {l:List V}(h:∀x∈l,x.ok M)(hn:l.length≤1099511627776):(QZ l).ok M :=
 .mk rfl rfl (Qn6 _) hn (Qn6 _) (Qn6 _) (Qn6 _) h (fun _ hx=>nomatch hx) (fun _ hx=>nomatch hx) (fun _ hx=>nomatch hx) (fun _ hx=>nomatch hx) (fun _ hx=>nomatch hx)
theorem QcV {l:List (V×V)}(h:∀x∈l,x.1.ok M∧x.2.ok M)(hn:l.length≤549755813888):(Jy l).ok M :=
 .mk rfl rfl (Qn6 _) (Qn6 _) hn (Qn6 _) (Qn6 _) (fun _ hx=>nomatch hx) (fun x hx=>(h x hx).1) (fun x hx=>(h x hx).2) (fun _ hx=>nomatch hx) (fun _ hx=>nomatch hx) (fun _ hx=>nomatch hx)
theorem KT {g:PG}{v x:V}{o:PO}(hv:v.ok M)(ho:(Lit.int .i64 o.num).wf=true)(hx:x.ok M)(hn:v.slots.length+1≤1099511627776):(XK g v o x).ok M:=by
 have hl:=List.length_filter_le (fun s=>!Xy g o s) v.slots;have key:∀s∈v.slots.filter (fun s=>!Xy g o s)++[(o.num,x)],(Lit.int .i64 s.1).wf=true∧s.2.ok M:=by
  intro s hs;rcases Qph.1 hs with hs|hs
  ·have:=(Qpw.1 hs).1;exact⟨hv.nums s this,hv.slots s this⟩
  ·rw[Qp8]at hs;subst hs;exact⟨ho,hx⟩
 refine .mk rfl rfl (Qn6 _) (Qn6 _) (Qn6 _) ?_ hv.nr (fun _ hx=>nomatch hx) (fun _ hx=>nomatch hx) (fun _ hx=>nomatch hx) (fun s hs=>(key s hs).1) (fun s hs=>(key s hs).2) hv.raws;show(v.slots.filter (fun s=>!Xy g o s)++[(o.num,x)]).length≤_;rw[QoB];simp only[Qoc,QoT];omega
theorem MI {v:V}{f:R}(hv:v.ok M)(hf:f.ok M)(hn:v.raws.length+1≤70368744177664):(YA v f).ok M:=by
 refine .mk hv.kd hv.bits hv.text hv.nl hv.np hv.ns ?_ hv.list hv.keys hv.vals hv.nums hv.slots ?_
 ·show(v.raws++[f]).length≤_;rw[QoB];exact hn
 ·intro x hx;rcases Qph.1 hx with hx|hx
  ·exact hv.raws x hx
  ·rw[Qp8]at hx;subst hx;exact hf
theorem GW {v:V}{n:Int}(hv:v.ok M):(QW v n).ok M:=by
 unfold QW;cases h:XV v n with
 |none=>exact Jd rfl (by decide) (Qn6 _)
 |some x=>exact hv.slots _ (XE h).1
end
theorem MJ {P:PL}{g:PG}{v:V}{f:R}:∀ {n:Nat},MW P n g v→MW P n g (YA v f)
 |_+1,h=>h
theorem KU {P:PL}{g:PG}{v x:V}{o:PO}{n:Nat}(h:MW P (n+1) g v)(ho:Xv g o.num=some o)(hx:FW (MW P n) P o x):MW P (n+1) g (XK g v o x):=by
 obtain⟨s1,s2⟩:=h;refine⟨?_,?_⟩
 ·intro s hs;rcases Qph.1 hs with hs|hs
  ·exact s1 s (Qpw.1 hs).1
  ·rw[Qp8]at hs;subst hs;exact⟨o,ho,hx⟩
 ·show(v.slots.filter (fun s=>!Xy g o s)++[(o.num,x)]).Pairwise _;rw[Qpz];refine⟨s2.filter _,Qp9 _ _,?_⟩;intro a ha b hb;rw[Qp8]at hb;subst hb;have h1:=(Qpw.1 ha).2;unfold Xy at h1;simp only[Bool.not_or,Qol,QoV]at h1;exact h1.1
theorem GX {P:PL}{g:PG}{v x:V}{o:PO}{n:Nat}(h:MW P (n+1) g v)(ho:Xv g o.num=some o)(hx:XV v o.num=some x):FW (MW P n) P o x:=by
 obtain⟨o',h1,h2⟩:=h.1 _ (XE hx).1;rw[show((o.num,x):Int×V).1=o.num from rfl,ho]at h1;cases h1;exact h2
theorem Jf {P:PL}{g:PG}{k:Int}{n:Nat}(hn:1≤n):MW P n g (QD k 0 []):=by
 obtain⟨m,rfl⟩:∃m,n=m+1:=⟨n-1,by omega⟩;exact⟨fun _ hs=>(nomatch hs),.nil⟩
theorem A7 {M:Nat}{P:PL}{k t:Int}{f:R}(hM:3000≤M)(hb:f.bits<18446744073709551616)(hd:f.data.length≤3000)(h:(Xk P k t f).2=0):(Xk P k t f).1.ok M∧(Xk P k t f).1.cnt=1∧k≠10∧(XU k→(Xk P k t f).1.one P k (-1)=0):=by
 unfold Xk at h ⊢;split at h
 ·rename_i hk;have hkk:1≤k∧k≤9:=by
   unfold isk at hk
   simpa using hk
  have hkw:(Lit.int .i64 k).wf=true:=Wk (by omega) (by omega);rw[Qn5 hk];split at h
  ·rename_i hw;rw[Qn5 hw];split at h
   ·rename_i h3;rw[Qn5 h3];split at h
    ·cases h
    ·rename_i h7;rw[Qn4 h7];refine⟨Jd hkw (by decide) (by omega),XW _ _ _,by omega,fun hky=>?_⟩;have e7:k=7:=by
      unfold XU at hky;rw[hw]at h3;unfold wk at h3;split at h3
      ·omega
      ·split at h3
       ·omega
       ·split at h3
        ·omega
        ·split at h3<;>omega
     subst e7;have hv:YK f.data=true:=by
      cases hv:YK f.data
      ·exact absurd ⟨rfl,hv⟩ h7
      ·rfl
     have d1:decide ((f.data.length:Int) > 4096)=false:=QpQ (by omega);have d2:decide ((f.data.length:Int)≤4096)=true:=QpY (by omega);have ho:oth 7 0 f.data [] [] [] []=false:=by simp[oth,Zx]
     show WP P 7 (-1) 7 0 f.data [] [] [] []=0;unfold WP XQ;rw[ho,d1,d2,hv];rfl
   ·rename_i h3;rw[Qn4 h3];split at h
    ·rename_i hfit;rw[Qn5 hfit];split at h
     ·cases h
     ·rename_i h9;rw[Qn4 h9];have hwb:XX f.wire f.bits<18446744073709551616:=by
       unfold XX;split
       ·rw[Jj];omega
       ·exact hb
      have hnb:Xu k (XX f.wire f.bits)<18446744073709551616:=by
       unfold Xu;split
       ·decide
       ·exact hwb
      refine⟨Jd hkw hnb (Qn6 _),XW _ _ _,by omega,fun hky=>?_⟩;have h5:1≤k∧k≤5:=by
       unfold XU at hky;rcases hky with h|h
       ·exact h
       ·exfalso;rw[hw,h]at h3;exact h3 (by decide)
      have e6:Xu k (XX f.wire f.bits)=XX f.wire f.bits:=by
       unfold Xu;rw[Qn4 (by omega)]
      rw[e6];generalize XX f.wire f.bits=B at hfit;show WP P k (-1) k B [] [] [] [] []=0;unfold WP XQ;rw[hk,hfit];have ho:oth k B [] [] [] [] []=false:=by
       rcases(by omega:k=1∨k=2∨k=3∨k=4∨k=5)with rfl|rfl|rfl|rfl|rfl<;>simp[oth,Zx]
      rw[ho];have k7:(k==7)=false:=by simp;omega
      have k9:(k==9)=false:=by simp;omega
      have k7':(k != 7)=true:=by simp;omega
      have tx:Zx k=false:=by unfold Zx;simp;omega
      rw[k7,k9,k7',tx];simp[Ue]
    ·cases h
  ·cases h
 ·cases h
def W3 (P:PL)(M K n:Nat)(rec:Int→V→C→Rd V):Prop :=
 ∀(t:Int) (v:V) (c:C),CI c→c.left<n→(0≤t∧t<(P.progs.length:Int))→MW P n (Qk P t) v→v.ok M→(v.cnt:Int)+3*c.left≤K→
  ∀w d,rec t v c=.ok (w,d)→Af c d∧MW P n (Qk P t) w∧w.ok M∧(w.cnt:Int)+3*d.left≤v.cnt+3*c.left
structure OpK (P:PL)(g:PG)(o:PO):Prop where
 self:Xv g o.num=some o
 wf:(Lit.int .i64 o.num).wf=true
 uo:UO P o
section
variable {P:PL}{M K n:Nat}(hM:3000≤M)(hK:K≤1000000){g:PG}{o:PO}(ho:OpK P g o)
include hM hK ho in
theorem NA {v w:V}{c d:C}(hc:CI c)(hv:MW P (n+1) g v)(hk:v.ok M)(hb:(v.cnt:Int)+3*c.left≤K)(h5:o.card≠5)(h:KE P g v o c=.ok (w,d)) :
  As c d∧MW P (n+1) g w∧w.ok M∧(w.cnt:Int)+3*d.left≤v.cnt+3*c.left:=by
 have ls:=Zj v;have lr:=KG v;have hcb:=hc.bd;unfold KE at h;split at h
 ·cases h
 rename_i c1 h1;obtain⟨a1,_⟩:=JQ hc (by omega) h1;have hc1:=a1.ci hc;split at h
 ·cases h
 rename_i f d1 h2;obtain⟨b1,b2,b3,b4⟩:=Bm hc1 h2;have hs:=a1.strict b1 hc;have hd1:=hs.ci hc;have hl:=hs.lt hc;split at h
 ·cases h;have hr:(⟨o.num,0,f.bits,[]⟩:R).ok M:=⟨ho.wf,rfl,by simp[Lit.wf,IntKind.min,IntKind.max,IntKind.bits,IntKind.signed];omega,Qn6 _⟩;exact⟨hs,MJ hv,MI hk hr (by omega),by rw[Nz];omega⟩
 split at h
 ·rename_i h0;obtain⟨s1,s2,s3,_⟩:=A7 (P:=P) (t:=o.target) hM b3 b4 h0;have hew:∀y,EW (MW P n) P o y:=fun y e=>absurd e s3
  generalize (Xk P o.kind o.target f).1=x at h s1 s2;split at h
  ·rename_i h4;have hfw:FW (MW P n) P o (QZ ((QW v o.num).list++[x])):=by
    unfold FW;rw[Qn5 h4];exact fun y _=>hew y
   have hol:=GW (n:=o.num) hk;have hll:=ZJ (QW v o.num);split at h
   ·rename_i hf;cases h;obtain⟨y,hy⟩:=Qop.1 hf;obtain⟨hm,he⟩:=XE hy;have hyc:=Z9 hm;dsimp only at hyc;have e1:=US g v o (QZ ((QW v o.num).list++[x])) hy;rw[Yo,YY,s2]at e1;have e2:Q6 (QW v o.num).list+1≤y.cnt:=by rw[he,Q1 y];omega
    rw[he]at hll;refine⟨hs,KU hv ho.self hfw,KT hk ho.wf (Hp ?_ ?_) (by omega),by omega⟩
    ·intro z hz;rcases Qph.1 hz with hz|hz
     ·exact hol.list z hz
     ·rw[Qp8]at hz;subst hz;exact s1
    ·rw[QoB,he];simp only[Qoc,QoT];omega
   ·rename_i hf;split at h
    ·cases h
    rename_i d2 h6;cases h;obtain⟨c2,_⟩:=JQ hd1 (by omega) h6;have hl2:=(c2.left hd1).2.2;rw[Je hf];rw[Je hf]at hfw;have e1:=Wl g v o (QZ ((QD 0 0 []).list++[x]));rw[Yo,YY,s2]at e1;have e0:Q6 (QD 0 0 []).list=0:=rfl;refine⟨hs.trans c2 hc,KU hv ho.self hfw,KT hk ho.wf (Hp ?_ (show 1≤1099511627776 by decide)) (by omega),by omega⟩;intro z hz;rcases Qph.1 hz with hz|hz
    ·cases hz
    ·rw[Qp8]at hz;subst hz;exact s1
  ·rename_i h4;cases h;have hfw:FW (MW P n) P o x:=by
    unfold FW;rw[Qn4 h4,Qn4 h5];exact hew x
   have e1:=Wl g v o x;rw[s2]at e1;exact⟨hs,KU hv ho.self hfw,KT hk ho.wf s1 (by omega),by omega⟩
 ·cases h
include hM hK ho in
theorem MK (h5:o.card≠5):∀(k:Nat) {v w:V} {c d:C},CI c→MW P (n+1) g v→v.ok M→(v.cnt:Int)+3*c.left≤K→Jq P g o k v c=.ok (w,d)→
  Af c d∧MW P (n+1) g w∧w.ok M∧(w.cnt:Int)+3*d.left≤v.cnt+3*c.left
 |0,v,w,c,d,hc,hv,hk,hb,h=>by
  cases h;exact⟨Af.refl hc,hv,hk,Qpn _⟩
 |k+1,v,w,c,d,hc,hv,hk,hb,h=>by
  rw[Jq]at h;split at h
  ·split at h
   ·cases h
   rename_i v1 c1 h1;obtain⟨a1,a2,a3,a4⟩:=NA hM hK ho hc hv hk hb h5 h1;obtain⟨b1,b2,b3,b4⟩:=MK h5 k (a1.ci hc) a2 a3 (by omega) h;exact⟨a1.1.trans b1 hc,b2,b3,by omega⟩
  ·cases h;exact⟨Af.refl hc,hv,hk,Qpn _⟩
include hM hK ho in
theorem Vd {v w:V}{c d e:C}{q:Nat}(hc:CI c)(hq:(q:Int)≤c.left)(hd:Af (part c q) d)(hv:MW P (n+1) g v)(hk:v.ok M)(hb:(v.cnt:Int)+3*d.left≤K)(h5:o.card≠5)(h:WT P g v o c d=.ok (w,e)) :
  Af c e∧e.left=c.left-q∧MW P (n+1) g w∧w.ok M∧(w.cnt:Int)≤v.cnt+3*d.left:=by
 unfold WT at h;split at h
 ·cases h
 rename_i v1 j h1;cases h;have hp:=Yi hc hq;obtain⟨a1,a2,a3,a4⟩:=MK hM hK ho h5 _ (hd.ci hp.2.1) hv hk hb h1;obtain⟨b1,b2⟩:=N3 hc hq (hd.trans a1 hp.2.1);have:=((a1.ci (hd.ci hp.2.1))).bd;exact⟨b1,b2,a2,a3,by omega⟩
include hM hK ho in
theorem IS {v w:V}{c d:C}(hc:CI c)(hv:MW P (n+1) g v)(hk:v.ok M)(hb:(v.cnt:Int)+3*c.left≤K)(hp:pk o.card o.kind=true)(h:WU P g v o c=.ok (w,d)) :
  As c d∧MW P (n+1) g w∧w.ok M∧(w.cnt:Int)+3*d.left≤v.cnt+3*c.left:=by
 have ls:=Zj v;have hcb:=hc.bd;have h4:o.card=4:=by
  unfold pk at hp;simp only[Qol,Qn2]at hp;exact hp.1
 have hk10:o.kind≠10:=by
  unfold pk at hp;simp only[Qol,Qn0,Qn2,Qn1]at hp;omega
 unfold WU at h;split at h
 ·cases h
 rename_i q c1 h1;obtain⟨a1,a2⟩:=YB hc h1;have hc1:=a1.ci hc;obtain⟨_,p2,p3⟩:=Yi hc1 a2;have hl1:=a1.lt hc;have hc1b:=hc1.bd;split at h
 ·rename_i hy;obtain⟨y1,_⟩:=PU p2 hy;have hly:=y1.lt p2;split at h
  ·split at h
   ·obtain⟨b1,b2,b3,b4,b5⟩:=Vd hM hK ho hc1 a2 y1.1 hv hk (by omega) (by omega) h;exact⟨a1.trans b1 hc,b3,b4,by omega⟩
   ·split at h
    ·cases h
    rename_i i h2;obtain⟨s1,_⟩:=JQ (y1.ci p2) (by omega) h2;have hls:=(s1.left (y1.ci p2)).2.2;have hfw:FW (MW P n) P o (QZ []):=by
     unfold FW;rw[Qn5 h4];exact fun y hy=>(nomatch hy)
    have e1:=Wl g v o (QZ []);rw[Yo]at e1;simp only[Q6]at e1;obtain⟨b1,b2,b3,b4,b5⟩:=Vd hM hK ho hc1 a2 (y1.1.trans s1 p2) (KU hv ho.self hfw) (KT hk ho.wf (Hp (fun y hy=>(nomatch hy)) (Qn6 _)) (by omega)) (by omega) (by omega) h;exact⟨a1.trans b1 hc,b3,b4,by omega⟩
  ·cases h
 ·cases h
variable {rec:Int→V→C→Rd V}(hrec:W3 P M K n rec)
include hrec in
theorem BO {t:Int}(ht:0≤t∧t<(P.progs.length:Int)){b w:V}{k:Int}(hk0:0≤k){c d:C}(hc:CI c)(hcn:c.left≤n)(hv:1≤n→MW P n (Qk P t) b)(hk:b.ok M)(hb:(b.cnt:Int)+3*c.left≤K)(h:W6 rec t b k c=.ok (w,d)) :
  As c d∧MW P n (Qk P t) w∧w.ok M∧(w.cnt:Int)+3*d.left+3≤b.cnt+3*c.left:=by
 unfold W6 at h;split at h
 ·cases h
 rename_i q c1 h1;obtain⟨a1,a2⟩:=YB hc h1;have hc1:=a1.ci hc;have hl1:=a1.lt hc;have hc1b:=hc1.bd;split at h
 ·rename_i he;obtain⟨e1,e2,e3⟩:=Fh hc1 a2 he;split at h
  ·cases h
  rename_i i h2;obtain⟨s1,s2⟩:=JQ e2 hk0 h2;have hls:=(s1.left e2).2.2;split at h
  ·cases h
  rename_i x j h3;cases h;have hi:=s1.ci e2;have hib:=hi.bd;obtain⟨r1,r2,r3,r4⟩:=hrec t b i hi (by omega) ht (hv (by omega)) hk (by omega) _ _ h3;have hje:i.e=c1.a+q∧i.nd≤c1.nd:=by
   obtain⟨_,f2,_⟩:=s1.eqs;have f3:=s1.nd;rw[e1]at f2 f3;exact⟨f2,f3.2⟩
  obtain⟨l1,l2⟩:=Is hc1 a2 hje r1;have hjb:=(r1.ci hi).bd;exact⟨a1.trans l1 hc,r2,r3,by omega⟩
 ·cases h
include hK ho hrec in
theorem IU {v w:V}{c d:C}(hc:CI c)(hcn:c.left≤n)(hv:MW P (n+1) g v)(hk:v.ok M)(hb:(v.cnt:Int)+3*c.left≤K)(h5:o.card≠5)(h10:o.kind=10)(h:KS rec g v o c=.ok (w,d))(hpos:(1:Int)+3*c.left≤K) :
  As c d∧MW P (n+1) g w∧w.ok M∧(w.cnt:Int)+3*d.left≤v.cnt+3*c.left:=by
 have ls:=Zj v;have hcb:=hc.bd;have ht:=ho.uo.tgt h10;have hem:(QD 10 0 []:V).ok M:=Jd rfl (by decide) (Qn6 _);have hol:=GW (n:=o.num) hk;have hll:=ZJ (QW v o.num);unfold KS at h;split at h
 ·rename_i h4;split at h
  ·cases h
  rename_i x c1 h1;cases h;obtain⟨r1,r2,r3,r4⟩:=BO hrec ht (by split<;>omega) hc hcn (fun hn=>Jf hn) hem (by rw[XW];omega) h1;rw[XW]at r4;have hlc:=r1.lt hc;have hc1b:=(r1.ci hc).bd;have hfw:FW (MW P n) P o (QZ ((QW v o.num).list++[x])):=by
   unfold FW;rw[Qn5 h4];intro y hy;rcases Qph.1 hy with hy|hy
   ·cases hf:XV v o.num with
    |none=>
     rw[Je (by rw[hf];simp)]at hy;cases hy
    |some z=>
     have h1:=GX hv ho.self hf;unfold FW at h1;rw[Qn5 h4]at h1;rw[(XE hf).2]at hy;exact h1 y hy
   ·rw[Qp8]at hy;subst hy;exact fun _=>r2
  have hlok:(QZ ((QW v o.num).list++[x])).ok M:=by
   refine Hp ?_ ?_
   ·intro z hz;rcases Qph.1 hz with hz|hz
    ·exact hol.list z hz
    ·rw[Qp8]at hz;subst hz;exact r3
   ·have:=hol.nl;rw[QoB];have hoc:(QW v o.num).cnt≤v.cnt+1:=by
     cases hf:XV v o.num with
     |none=>rw[Je (by rw[hf];simp),XW];omega
     |some z=>
      have:=Z9 (XE hf).1;rw[(XE hf).2];dsimp only at this;omega
    simp only[Qoc,QoT];omega
  refine⟨r1,KU hv ho.self hfw,KT hk ho.wf hlok (by omega),?_⟩;cases hf:XV v o.num with
  |none=>
   have e1:=Wl g v o (QZ ((QW v o.num).list++[x]));rw[Yo,YY]at e1;have e0:Q6 (QW v o.num).list=0:=by rw[Je (by rw[hf];simp)];rfl
   omega
  |some z=>
   have e1:=US g v o (QZ ((QW v o.num).list++[x])) hf;rw[Yo,YY]at e1;have e2:Q6 (QW v o.num).list+1≤z.cnt:=by rw[(XE hf).2,Q1 z];omega
   omega
 ·rename_i h4;split at h
  ·cases h
  rename_i x c1 h1;cases h;cases hf:XV v o.num with
  |none=>
   rw[hf,Qn4 (by simp)]at h1;obtain⟨r1,r2,r3,r4⟩:=BO hrec ht (by omega) hc hcn (fun hn=>Jf hn) hem (by rw[XW];omega) h1;rw[XW]at r4;have hfw:FW (MW P n) P o x:=by
    unfold FW;rw[Qn4 h4,Qn4 h5];exact fun _=>r2
   have e1:=Wl g v o x;exact⟨r1,KU hv ho.self hfw,KT hk ho.wf r3 (by omega),by omega⟩
  |some z=>
   rw[hf,Qn5 (show(some z).isSome=true from rfl),(XE hf).2]at h1;have hz:=Z9 (XE hf).1;dsimp only at hz;have h2:=GX hv ho.self hf;unfold FW at h2;rw[Qn4 h4,Qn4 h5]at h2;obtain⟨r1,r2,r3,r4⟩:=BO hrec ht (by omega) hc hcn (fun _=>h2 h10) (hk.slots _ (XE hf).1) (by omega) h1;have hfw:FW (MW P n) P o x:=by
    unfold FW;rw[Qn4 h4,Qn4 h5];exact fun _=>r2
   have e1:=US g v o x hf;exact⟨r1,KU hv ho.self hfw,KT hk ho.wf r3 (by omega),by omega⟩
include hM hrec in
theorem HY {k t wr:Int}(ht:k=10→0≤t∧t<(P.progs.length:Int)){y:V}{c d:C}(hc:CI c)(hcn:c.left≤n)(hb:(1:Int)+3*c.left≤K)(h:ZD P rec k t wr c=.ok (y,d)) :
  As c d∧y.ok M∧(y.cnt:Int)+3*d.left+2≤3*c.left∧(k=10→MW P n (Qk P t) y)∧(XU k→y.one P k (-1)=0):=by
 unfold ZD at h;split at h
 ·split at h
  ·rename_i hk;obtain⟨r1,r2,r3,r4⟩:=BO hrec (ht hk) (Qpn 0) hc hcn (fun hn=>Jf hn) (Jd rfl (by decide) (Qn6 _)) (by rw[XW];omega) h;rw[XW]at r4;exact⟨r1,r3,by omega,fun _=>r2,fun hy=>by unfold XU at hy;omega⟩
  ·rename_i hk;split at h
   ·cases h
   rename_i f c1 h1;obtain⟨b1,b2,b3,b4⟩:=Bm hc h1;have hl:=b1.lt hc;split at h
   ·rename_i h0;cases h;obtain⟨s1,s2,s3,s4⟩:=A7 (P:=P) (t:=t) hM b3 b4 h0;exact⟨b1,s1,by omega,fun e=>absurd e hk,s4⟩
   ·cases h
 ·cases h
structure XI (P:PL)(M n:Nat)(o:PO)(x:V×V):Prop where
 ky:x.1.ok M
 vl:x.2.ok M
 one:x.1.one P o.key (-1)=0
 ew:1≤n→EW (MW P n) P o x.2
include hM ho hrec in
theorem Hq (h5:o.card=5):∀(k:Nat) {x y:V×V} {a b:Bool} {c d:C},CI c→c.left≤n→(1:Int)+3*c.left≤K→XI P M n o x→Jz P rec o k x a b c=.ok (y,d)→
  Af c d∧XI P M n o y∧(y.1.cnt:Int)+y.2.cnt+3*d.left≤x.1.cnt+x.2.cnt+3*c.left
 |0,x,y,a,b,c,d,hc,hcn,hb,hx,h=>by
  cases h;exact⟨Af.refl hc,hx,Qpn _⟩
 |k+1,x,y,a,b,c,d,hc,hcn,hb,hx,h=>by
  have hky:=ho.uo.key h5;have hk10:o.key≠10:=by unfold XU at hky;omega
  rw[Jz]at h;split at h
  ·split at h
   ·rename_i htg;obtain⟨t1,_⟩:=GL hc htg;have hl:=t1.lt hc;have hct:=t1.ci hc;split at h
    ·split at h
     ·cases h
     split at h
     ·cases h
     rename_i z c1 h1;obtain⟨r1,r2,r3,r4,r5⟩:=HY hM hrec (fun e=>absurd e hk10) hct (by omega) (by omega) h1;have hl1:=r1.lt hct;obtain⟨q1,q2,q3⟩:=Hq h5 k (x:=(z,x.2)) (r1.ci hct) (by omega) (by omega) ⟨r2,hx.vl,r5 hky,hx.ew⟩ h;have:=Za x.1;refine⟨(t1.1.trans r1.1 hc).trans q1 hc,q2,?_⟩;dsimp only at q3;omega
    ·split at h
     ·split at h
      ·cases h
      split at h
      ·cases h
      rename_i z c1 h1;obtain⟨r1,r2,r3,r4,r5⟩:=HY hM hrec ho.uo.tgt hct (by omega) (by omega) h1;have hl1:=r1.lt hct;obtain⟨q1,q2,q3⟩:=Hq h5 k (x:=(x.1,z)) (r1.ci hct) (by omega) (by omega) ⟨hx.ky,r2,hx.one,fun _ e=>r4 e⟩ h;have:=Za x.2;refine⟨(t1.1.trans r1.1 hc).trans q1 hc,q2,?_⟩;dsimp only at q3;omega
     ·cases h
   ·cases h
  ·cases h;exact⟨Af.refl hc,hx,Qpn _⟩
theorem ML {k:Int}(hk:XU k):(QD k 0 []).one P k (-1)=0:=by
 unfold XU at hk;show WP P k (-1) k 0 [] [] [] [] []=0;rcases(by omega:k=1∨k=2∨k=3∨k=4∨k=5∨k=7)with rfl|rfl|rfl|rfl|rfl|rfl<;>rfl
include hM hK ho hrec in
theorem A8 (h5:o.card=5)(hkd:(Lit.int .i64 o.kind).wf=true){v w:V}{c d:C}(hc:CI c)(hcn:c.left≤n)(hv:MW P (n+1) g v)(hk:v.ok M)(hb:(v.cnt:Int)+3*c.left+3≤K)(h:J7 P rec g v o c=.ok (w,d)) :
  As c d∧MW P (n+1) g w∧w.ok M∧(w.cnt:Int)+3*d.left≤v.cnt+3*c.left:=by
 have ls:=Zj v;have hcb:=hc.bd;have hky:=ho.uo.key h5;unfold J7 at h;split at h
 ·cases h
 rename_i q c1 h1;obtain⟨a1,a2⟩:=YB hc h1;have hc1:=a1.ci hc;have hl1:=a1.lt hc;have hc1b:=hc1.bd;obtain⟨_,p2,p3⟩:=Yi hc1 a2;split at h
 ·cases h
 rename_i i h2;obtain⟨s1,_⟩:=JQ p2 (by split<;>omega) h2;have hls:=(s1.left p2).2.2;split at h
 ·cases h
 rename_i x j h3;cases h;have hcv:=Za v;have hx0:XI P M n o (QD o.key 0 [],QD o.kind 0 []):=by
  refine⟨Jd ?_ (by decide) (Qn6 _),Jd hkd (by decide) (Qn6 _),ML hky,fun hn e=>Jf hn⟩;unfold XU at hky;exact Wk (by omega) (by omega)
 obtain⟨r1,r2,r3⟩:=Hq hM ho hrec h5 _ (s1.ci p2) (by omega) (by omega) hx0 h3;rw[XW,XW]at r3;obtain⟨b1,b2⟩:=N3 hc1 a2 (s1.trans r1 p2);have hjb:=(r1.ci (s1.ci p2)).bd;have hol:=GW (n:=o.num) hk;have hn1:1≤n:=by omega
 -- the entries
 have hpo:(∀p∈(QW v o.num).pairs,p.1.one P o.key (-1)=0∧EW (MW P n) P o p.2)∧(QW v o.num).pairs.Pairwise fun q p=>Xz q.1 p.1=false:=by
  cases hf:XV v o.num with
  |none=>
   rw[Je (by rw[hf];simp)];exact⟨fun p hp=>(nomatch hp),.nil⟩
  |some z=>
   have h4:=GX hv ho.self hf;unfold FW at h4;rw[Qn4 (by omega),Qn5 h5]at h4;rw[(XE hf).2];exact h4
 have hoc:(QW v o.num).cnt≤v.cnt+1:=by
  cases hf:XV v o.num with
  |none=>rw[Je (by rw[hf];simp),XW];omega
  |some z=>
   have:=Z9 (XE hf).1;rw[(XE hf).2];dsimp only at this;omega
 have hfw:FW (MW P n) P o (Jy (ZI o.key (QW v o.num).pairs x)):=by
  unfold FW;rw[Qn4 (by omega),Qn5 h5];refine⟨fun p hp=>?_,Rf hpo.2⟩;rcases MH hp with⟨hp,_⟩|rfl
  ·exact hpo.1 p hp
  ·exact⟨r2.one,r2.ew hn1⟩
 have hmk:(Jy (ZI o.key (QW v o.num).pairs x)).ok M:=by
  refine QcV (fun p hp=>?_) ?_
  ·rcases MH hp with⟨hp,_⟩|rfl
   ·exact⟨hol.keys p hp,hol.vals p hp⟩
   ·exact⟨r2.ky,r2.vl⟩
  ·have h1:=IR o.key (QW v o.num).pairs x;have h2:=Jr (QW v o.num);omega
 refine⟨a1.trans b1 hc,KU hv ho.self hfw,KT hk ho.wf hmk (by omega),?_⟩;have hpc:=IQ o.key (QW v o.num).pairs x;cases hf:XV v o.num with
 |none=>
  have e1:=Wl g v o (Jy (ZI o.key (QW v o.num).pairs x));rw[MG]at e1;have e0:Xd (QW v o.num).pairs=0:=by rw[Je (by rw[hf];simp)];rfl
  omega
 |some z=>
  have e1:=US g v o (Jy (ZI o.key (QW v o.num).pairs x)) hf;rw[MG]at e1;have e2:Xd (QW v o.num).pairs+1≤z.cnt:=by rw[(XE hf).2,Q1 z];omega
  omega
include hM hK ho hrec in
theorem Ve (hkd:(Lit.int .i64 o.kind).wf=true){v w:V}{c d:C}{wr:Int}(hc:CI c)(hcn:c.left≤n)(hv:MW P (n+1) g v)(hk:v.ok M)(hb:(v.cnt:Int)+3*c.left+3≤K)(h:Zr P rec g v o wr c=.ok (w,d)) :
  As c d∧MW P (n+1) g w∧w.ok M∧(w.cnt:Int)+3*d.left≤v.cnt+3*c.left:=by
 have hcv:=Za v;unfold Zr at h;split at h
 ·rename_i h5;split at h
  ·exact A8 hM hK ho hrec h5 hkd hc hcn hv hk hb h
  ·cases h
 ·rename_i h5;split at h
  ·rename_i hp;exact IS hM hK ho hc hv hk (by omega) hp.2 h
  ·split at h
   ·split at h
    ·rename_i h10;exact IU hK ho hrec hc hcn hv hk (by omega) h5 h10 h (by omega)
    ·exact NA hM hK ho hc hv hk (by omega) h5 h
   ·cases h
end
theorem SJ {P:PL}{M:Nat}(hP:P.ok M)(hU:J6 P)(hr:Zi P){t n:Int}(ht:0≤t∧t<(P.progs.length:Int)){o:PO}(hop:Xv (Qk P t) n=some o):OpK P (Qk P t) o∧(Lit.int .i64 o.kind).wf=true∧o.num=n:=by
 obtain⟨hom,hon⟩:=JO hop;have hgt:Qk P t∈P.progs:=by
  unfold Qk;rw[QnX (by omega:t.toNat<P.progs.length)];exact QoP _
 have hok:=(hP.progs _ hgt).ops o hom;exact⟨⟨XG (hr _ hgt) hom,hok.num,hU _ hgt o hom⟩,hok.kind,hon⟩
theorem Fp {P:PL}{M K n:Nat}(hM:3000≤M)(hK:K≤1000000)(hP:P.ok M)(hU:J6 P)(hr:Zi P){rec:Int→V→C→Rd V}(hrec:W3 P M K n rec){t:Int}(ht:0≤t∧t<(P.progs.length:Int)):∀(k:Nat) (v:V) (c:C),CI c→c.left≤n→MW P (n+1) (Qk P t) v→v.ok M→(v.cnt:Int)+3*c.left≤K→
  ∀w d,X9 P rec t k v c=.ok (w,d)→Af c d∧MW P (n+1) (Qk P t) w∧w.ok M∧(w.cnt:Int)+3*d.left≤v.cnt+3*c.left
 |0,v,c,hc,hn,hv,hk,hb,w,d,h=>by
  cases h;exact⟨Af.refl hc,hv,hk,Qpn _⟩
 |k+1,v,c,hc,hn,hv,hk,hb,w,d,h=>by
  have lr:=KG v;have hcb:=hc.bd;rw[X9]at h;split at h
  ·split at h
   ·rename_i htg;obtain⟨t1,_⟩:=GL hc htg;have hl:=t1.lt hc;split at h
    ·split at h
     ·rename_i hx;obtain⟨a1,_,a2,a3,a4,a5,a6,a7⟩:=Ax hc hx;have hla:=a1.lt hc;have hrw:(XJ c).1.ok M:=⟨Wk (by omega) (by omega),Wk (by omega) (by omega),by simp[Lit.wf,IntKind.min,IntKind.max,IntKind.bits,IntKind.signed];omega,by omega⟩;have ea:=Nz v (XJ c).1;obtain⟨b1,b2,b3,b4⟩:=Fp hM hK hP hU hr hrec ht k _ _ (a1.ci hc) (by omega) (MJ hv) (MI hk hrw (by omega)) (by omega) w d h;exact⟨a1.1.trans b1 hc,b2,b3,by omega⟩
     ·cases h
    ·rename_i o hop;split at h
     ·cases h
     rename_i v1 c1 h1;obtain⟨ho,hkd,_⟩:=SJ hP hU hr ht hop;obtain⟨b1,b2,b3,b4⟩:=Ve hM hK ho hrec hkd (t1.ci hc) (by omega) hv hk (by omega) h1;have hlb:=b1.lt (t1.ci hc);obtain⟨q1,q2,q3,q4⟩:=Fp hM hK hP hU hr hrec ht k v1 c1 (b1.ci (t1.ci hc)) (by omega) b2 b3 (by omega) w d h;exact⟨(t1.1.trans b1.1 hc).trans q1 hc,q2,q3,by omega⟩
   ·cases h
  ·cases h;exact⟨Af.refl hc,hv,hk,Qpn _⟩
theorem Du {P:PL}{M K:Nat}(hM:3000≤M)(hK:K≤1000000)(hP:P.ok M)(hU:J6 P)(hr:Zi P):∀n:Nat,W3 P M K n (Wg P n)
 |0,t,v,c,hc,hn,ht,hv,hk,hb,w,d,h=>by
  have:=hc.bd;omega
 |n+1,t,v,c,hc,hn,ht,hv,hk,hb,w,d,h=>
  Fp hM hK hP hU hr (Du hM hK hP hU hr n) ht _ v c hc (by omega) hv hk hb w d h
def JS:List AV:=[.int .i64 0,.int .u64 0,.str [],.nils,.nils,.nils,.nils]
theorem MM (o:PO):Qg Tryz.prog 180 [Qv o] (.int .i64 (wk o.kind)):=by
 have hw:=QeQ o.num o.name o.alias 2 o.key o.kind o.target o.union;have e:Cm 2 o.kind=wk o.kind:=by unfold Cm pk;simp
 rw[e]at hw;simp only[oc]at hw;refine wF Tryz.func180 ?_;simp only[eK,Tryz.f180,seval];simp only[Qv,PO.cells,splice,Qow,Qo6,Qoz,QoF,Qoj,Qok,Qoc,QoT,eE,seval];refine aC hw ?_;simp only[Qa,seval]
theorem QfZ {v:V}{n:Int}{i:Nat}{x:Int×V}(h:v.slots[i]? = some x)(hd:(v.slots.find? fun s=>s.1==n)=(v.slots.drop i).find? fun s=>s.1==n) :
  (x.1==n)=true∧XV v n=some x.2∧QW v n=x.2∨(x.1==n)=false∧(v.slots.find? fun s=>s.1==n)=(v.slots.drop (i+1)).find? fun s=>s.1==n:=by
 have hlt:=(QnW.1 h).1;have hx:=(QnW.1 h).2;rw[QoG hlt,QpP,hx]at hd;cases hb:(x.1==n)
 ·rw[hb]at hd;exact .inr ⟨rfl,hd⟩
 ·rw[hb]at hd;have e:XV v n=some x.2:=by unfold XV;rw[hd];rfl
  exact .inl ⟨rfl,e,by unfold QW;rw[e];rfl⟩
theorem QcW {v:V}{n:Int}{i:Nat}(h:¬i<v.slots.length)(hd:(v.slots.find? fun s=>s.1==n)=(v.slots.drop i).find? fun s=>s.1==n):XV v n=none∧QW v n=QD 0 0 []:=by
 rw[QoA (by omega)]at hd;have e:XV v n=none:=by unfold XV;rw[hd];rfl
 exact⟨e,by unfold QW;rw[e];rfl⟩
def FvI (v:V)(n:Int)(k:Nat)(st:St):Prop :=
 ∃f fr i,st=⟨f,[fr],[]⟩∧k=v.slots.length-i∧i≤v.slots.length∧((v.slots.find? fun s=>s.1==n)=(v.slots.drop i).find? fun s=>s.1==n)∧f 1=.int .i64 n∧f 4=.ptr 0 4 0∧f 9=.list (v.slots.map V.sav)∧f 10=.int .i64 (v.slots.length:Nat)∧f 11=.int .i64 (i:Nat)∧fr 4=.cells JS∧∀s∈[7],(fr s).isRow=false
theorem A9 (v:V)(n:Int)(hl:v.slots.length≤1099511627776):Qg Tryz.prog 49 [v.av,.int .i64 n] (.tup [(QW v n).av,.bool (XV v n).isSome]):=by
 rw[Qc v];refine wF Tryz.func49 ?_;simp only[eK,Tryz.f49,seval];simp only[QoS,eE,seval];refine Qi (FvI v n) _ ⟨_,_,0,rfl,rfl,Qn6 _,rfl,rfl,rfl,rfl,rfl,rfl,rfl,by simp<;>rfl⟩ ?_;rintro _ st ⟨f0,fr0,i,rfl,rfl,hil,hfd,h10,h40,h90,h100,h110,m40,r7⟩;refine QL (a:=_) [7] r7 ?_;intro f fr hf hm hn7;have h1:f 1=.int .i64 n:=by rw[hf,h10]<;>rfl
 have h4:f 4=.ptr 0 4 0:=by rw[hf,h40]<;>rfl
 have h9:f 9=.list (v.slots.map V.sav):=by rw[hf,h90]<;>rfl
 have h10':f 10=.int .i64 (v.slots.length:Nat):=by rw[hf,h100]<;>rfl
 have h11:f 11=.int .i64 (i:Nat):=by rw[hf,h110]<;>rfl
 have m4:fr 4=.cells JS:=by rw[hm 4 (by decide),m40]<;>rfl
 have n7:=hn7 7 (by decide);clear hf hm hn7 h10 h40 h90 h100 h110 m40 r7;have m4':=m4;simp only[JS]at m4;simp only[h10',h11,Qa,seval];by_cases hlt:i<v.slots.length
 ·obtain⟨x,hi⟩:∃x,v.slots[i]? = some x:=⟨v.slots[i],QnX hlt⟩;have hg:=WR hi;have e1:=Qs i _ hlt (by simp only[maxLen];omega);rcases QfZ hi hfd with⟨hb,hx1,hx2⟩|⟨hb,hfd'⟩
  ·rw[hx1,hx2,Qc x.2];simp only[QA hlt,Qp,Qpq,Qf,hg,hb,n7,QpR,h1,h4,h9,h11,m4,eE,seval]
  ·simp only[QA hlt,Qp,Qpq,Qf,hg,hb,n7,h1,h9,h11,e1,eE,seval];exact⟨v.slots.length-(i+1),by omega,_,_,i+1,rfl,rfl,by omega,hfd',h1,h4,h9,h10',rfl,m4',by simp<;>rfl⟩
 ·obtain⟨hx1,hx2⟩:=QcW hlt hfd;rw[hx1,hx2,show(QD 0 0 []).av=.agg [.int .i64 0,.int .u64 0,.str [],.list [],.list [],.list [],.list []]from Qc _];simp only[QH hlt,QoN,h4,m4,eE,seval]
theorem Qf0 (l x:V)(hl:l.list.length≤1048576):Qg Tryz.prog 237 [l.av,x.av] (QZ (l.list++[x])).av:=by
 have t1:((l.list.length:Int)=(l.list.length:Int)∧(l.list.length:Int)=(l.list.length:Int))=True:=by simp
 rw[show(QZ (l.list++[x])).av=.agg [.int .i64 11,.int .u64 0,.str [],.list (l.list.map V.av++[x.av]),.list [],.list [],.list []]from by
  rw[Qc];show AV.agg [.int .i64 11,.int .u64 0,.str [],.list ((l.list++[x]).map V.av),.list [],.list [],.list []]=_;rw[QpL];rfl]
 rw[Qc l,Qc x];refine wF Tryz.func237 ?_;simp only[eK,Tryz.f237,seval];simp only[QoS,eE,seval];refine NH rfl rfl (by decide) rfl rfl ?_;refine UD (xs:=l.list.map V.av) (ys:=[x.av]) rfl (by rw[Qc];rfl) (by simp) (GM l.list) (GM [x]) (by simp[maxLen];omega) (by simp;omega) rfl ?_;simp only[QoS,Qoc,QoT,splice,Qow,Qo6,Qoz,QoF,Qpc,Qo1,Qoj,Qok,Qo9,Qpa,AV.leaf,eE,seval];have hk:List.take (l.list.length+1) (l.list.map V.av++[x.av])=l.list.map V.av++[x.av]:=Qox (by simp);simp[hk,AV.un,AV.unL,ZE,XO];exact Qc x
theorem j95 (v:V)(x:R)(hl:v.raws.length≤1048576):Qg Tryz.prog 95 [v.av,x.av] (YA v x).av:=by
 have t1:((v.raws.length:Int)=(v.raws.length:Int)∧(v.raws.length:Int)=(v.raws.length:Int))=True:=by simp
 rw[show(YA v x).av=.agg [.int .i64 v.kd,.int .u64 (v.bits:Nat),.str v.text,.list (v.list.map V.av),.list (v.pairs.map V.pav),.list (v.slots.map V.sav),.list (v.raws.map R.av++[x.av])]from by
  rw[Qc];show AV.agg [.int .i64 v.kd,.int .u64 (v.bits:Nat),.str v.text,.list (v.list.map V.av),.list (v.pairs.map V.pav),.list (v.slots.map V.sav),.list ((v.raws++[x]).map R.av)]=_;rw[QpL];rfl]
 rw[Qc v];refine wF Tryz.func95 ?_;simp only[eK,Tryz.f95,seval];simp only[R.av,QoS,eE,seval];refine NH rfl rfl (by decide) rfl rfl ?_;refine UD (xs:=v.raws.map R.av) (ys:=[x.av]) rfl rfl (by simp) (Yj v.raws) (Yj [x]) (by simp[maxLen];omega) (by simp;omega) rfl ?_;simp only[QoS,Qoc,QoT,splice,Qow,Qo6,Qoz,QoF,Qpc,Qo1,Qoj,Qok,Qo9,Qpa,AV.leaf,eE,seval];have hk:List.take (v.raws.length+1) (v.raws.map R.av++[x.av])=v.raws.map R.av++[x.av]:=Qox (by simp);simp only[R.av]at hk;simp[hk,AV.un,AV.unL,ZE,XO,R.av]
def StI (g:PG)(v:V)(o:PO)(x:V)(K:Nat→List (Int×V))(k:Nat)(st:St):Prop :=
 ∃f fr i n,st=⟨f,[fr],[]⟩∧k=v.slots.length-i∧i≤v.slots.length∧f 4=.ptr 0 4 0∧f 6=.ptr 0 6 0∧f 7=.ptr 0 7 0∧f 8=.ptr 0 8 0∧f 9=.ptr 0 9 0∧f 18=.list (v.slots.map V.sav)∧f 19=.int .i64 (v.slots.length:Nat)∧f 20=.int .i64 (i:Nat)∧fr 4=.cells g.cells∧fr 6=.cells o.cells∧fr 7=.cells (vc x)∧fr 8=.cells JS∧
  fr 9=.cells [.int .i64 10,.int .u64 0,.str [],.nils,.nils,.vec 0 1100 n 0 (K i).length false,.list (v.raws.map R.av)]∧fr 1100=.vec n 8 ((K i).map V.sav)∧∀s∈[12,11],(fr s).isRow=false
theorem SK (g:PG)(v:V)(o:PO)(x:V)(hg:g.ops.length≤maxLen)(hl:v.slots.length≤1048576):Qg Tryz.prog 234 [Qn g,v.av,Qv o,x.av] (XK g v o x).av:=by
 have co:=fun n=>T5 g hg n
 simp only[Hg]at co;simp only[Qn,PG.cells]at co;generalize hK:(fun i=>(v.slots.take i).filter fun s=>!Xy g o s)=K;have hK0:K 0=[]:=by rw[←hK];simp
 have hKn:v.slots.filter (fun s=>!Xy g o s)=K v.slots.length:=by rw[←hK];simp
 have hKl:∀i,i≤v.slots.length→(K i).length≤i:=by
  intro i hi;rw[←hK];exact QnU (List.length_filter_le _ _) (by rw[QoU];omega)
 have hKs:∀(i:Nat) (s:Int×V),v.slots[i]? = some s→K (i+1)=K i++(if Xy g o s=true then []else [s]):=by
  intro i s hs;rw[←hK];show(v.slots.take (i+1)).filter _=(v.slots.take i).filter _++_;rw[QpM,hs,List.filter_append];cases hd:Xy g o s<;>simp[hd]
 rw[show(XK g v o x).av=.agg [.int .i64 10,.int .u64 0,.str [],.list [],.list [],.list ((K v.slots.length).map V.sav++[V.sav (o.num,x)]),.list (v.raws.map R.av)]from by
  rw[Qc];show AV.agg [.int .i64 10,.int .u64 0,.str [],.list [],.list [],.list ((v.slots.filter (fun s=>!Xy g o s)++[(o.num,x)]).map V.sav),.list (v.raws.map R.av)]=_;rw[hKn,QpL];rfl]
 rw[Qc v,Qc x];clear hKn hK;refine wF Tryz.func234 ?_;simp only[eK,Tryz.f234,seval];simp only[Qn,Qv,PG.cells,PO.cells,eE,seval];refine Ku (by simp only[Qa,seval]<;>rfl) rfl (by simp only[Qa,seval]<;>rfl) rfl ?_;simp only[List.set,QoS,eE,seval];refine Qi (StI g v o x K) _ ⟨_,_,0,_,rfl,rfl,Qn6 _,rfl,rfl,rfl,rfl,rfl,rfl,rfl,rfl,rfl,rfl,rfl,rfl,(by rw[hK0];exact rfl),(by rw[hK0];exact rfl),HM rfl rfl⟩ ?_;rintro _ st ⟨f0,fr0,i,n,rfl,rfl,hil,h40,h60,h70,h80,h90,h180,h190,h200,m40,m60,m70,m80,m90,mS0,r12⟩;refine QL (a:=_) [12,11] r12 ?_;intro f fr hf hm hn12;have h4:f 4=.ptr 0 4 0:=by rw[hf,h40]<;>rfl
 have h6:f 6=.ptr 0 6 0:=by rw[hf,h60]<;>rfl
 have h7:f 7=.ptr 0 7 0:=by rw[hf,h70]<;>rfl
 have h8:f 8=.ptr 0 8 0:=by rw[hf,h80]<;>rfl
 have h9:f 9=.ptr 0 9 0:=by rw[hf,h90]<;>rfl
 have h18:f 18=.list (v.slots.map V.sav):=by rw[hf,h180]<;>rfl
 have h19:f 19=.int .i64 (v.slots.length:Nat):=by rw[hf,h190]<;>rfl
 have h20:f 20=.int .i64 (i:Nat):=by rw[hf,h200]<;>rfl
 have m4':fr 4=.cells g.cells:=by rw[hm 4 (by decide),m40]<;>rfl
 have m6':fr 6=.cells o.cells:=by rw[hm 6 (by decide),m60]<;>rfl
 have m7':fr 7=.cells (vc x):=by rw[hm 7 (by decide),m70]<;>rfl
 have m8':fr 8=.cells JS:=by rw[hm 8 (by decide),m80]<;>rfl
 have m9:fr 9=.cells [.int .i64 10,.int .u64 0,.str [],.nils,.nils,.vec 0 1100 n 0 (K i).length false,.list (v.raws.map R.av)]:=by rw[hm 9 (by decide),m90]<;>rfl
 have mS:fr 1100=.vec n 8 ((K i).map V.sav):=by rw[hm 1100 (by decide),mS0]<;>rfl
 have n12:=hn12 12 (by decide);have n11:=hn12 11 (by decide);clear hf hm hn12 h40 h60 h70 h80 h90 h180 h190 h200 m40 m60 m70 m80 m90 mS0 r12;have m4:=m4';have m6:=m6';have m7:=m7';have m8:=m8';simp only[PG.cells]at m4;simp only[PO.cells]at m6;simp only[vc]at m7;simp only[JS]at m8;have hKi:=hKl i hil;simp only[h19,h20,Qa,seval];by_cases hlt:i<v.slots.length
 ·obtain⟨y,hi⟩:∃y,v.slots[i]? = some y:=⟨v.slots[i],QnX hlt⟩;have hgs:=WR hi;have e1:=Qs i _ hlt (by simp only[maxLen];omega);have hKy:=hKs i y hi;have skip:Xy g o y=true→∀(f':Fr) (fr':Nat→Ob),f' 4=.ptr 0 4 0→f' 6=.ptr 0 6 0→f' 7=.ptr 0 7 0→f' 8=.ptr 0 8 0→f' 9=.ptr 0 9 0→f' 18=.list (v.slots.map V.sav)→f' 19=.int .i64 (v.slots.length:Nat)→f' 20=.int .i64 ((i+1:Nat):Int)→fr' 4=.cells g.cells→fr' 6=.cells o.cells→fr' 7=.cells (vc x)→fr' 8=.cells JS→fr' 9=fr 9→fr' 1100=fr 1100→(∀s∈[12,11],(fr' s).isRow=false)→∃k,k<v.slots.length-i∧StI g v o x K k ⟨f',[fr'],[]⟩:=by
   intro hd f' fr' a4 a6 a7 a8 a9 a18 a19 a20 b4 b6 b7 b8 b9 bS br;rw[Qn5 hd,Qo1]at hKy;exact⟨v.slots.length-(i+1),by omega,f',fr',i+1,n,rfl,rfl,by omega,a4,a6,a7,a8,a9,a18,a19,a20,b4,b6,b7,b8,by rw[b9,m9,hKy],by rw[bS,mS,hKy],br⟩
  simp only[QA hlt,Qp,Qpq,Qf,hgs,n11,h6,h18,h20,m6,eE,seval];have hdd:Xy g o y=(y.1==o.num||(match Xv g y.1 with
   |some q=>decide (o.union≥0)&&q.union==o.union
   |none=>false)):=rfl
  cases hb:(y.1==o.num)
  ·have c1:=co y.1;rw[hb,QpJ]at hdd;simp only[h4,m4,eE,seval];refine aC c1 ?_;have keep:Xy g o y=false→∀(f':Fr) (fr':Nat→Ob),f' 4=.ptr 0 4 0→f' 6=.ptr 0 6 0→f' 7=.ptr 0 7 0→f' 8=.ptr 0 8 0→f' 9=.ptr 0 9 0→f' 18=.list (v.slots.map V.sav)→f' 19=.int .i64 (v.slots.length:Nat)→f' 20=.int .i64 ((i+1:Nat):Int)→fr' 4=.cells g.cells→fr' 6=.cells o.cells→fr' 7=.cells (vc x)→fr' 8=.cells JS→fr' 9=.cells [.int .i64 10,.int .u64 0,.str [],.nils,.nils,.vec 0 1100 (n+1) 0 ((K i).length+1) false,.list (v.raws.map R.av)]→fr' 1100=.vec (n+1) 8 ((K i).map V.sav++[V.sav y])→(∀s∈[12,11],(fr' s).isRow=false)→∃k,k<v.slots.length-i∧StI g v o x K k ⟨f',[fr'],[]⟩:=by
    intro hd f' fr' a4 a6 a7 a8 a9 a18 a19 a20 b4 b6 b7 b8 b9 bS br;rw[Qn4 (by rw[hd];simp)]at hKy;exact⟨v.slots.length-(i+1),by omega,f',fr',i+1,n+1,rfl,rfl,by omega,a4,a6,a7,a8,a9,a18,a19,a20,b4,b6,b7,b8,by rw[b9,hKy,QoB];rfl,by rw[bS,hKy,QpL];rfl,br⟩
   cases hq:Xv g y.1 with
   |none=>
    rw[hq]at hdd;simp only[QpB,QoN,Qv,DL,PO.cells,n12,h9,m9,eE,seval];refine QO (l:=[V.sav y]) rfl rfl rfl (by rw[Z1];rfl) ?_;refine QK (site:=1100) (g:=n) (n:=(K i).length) (xs:=(K i).map V.sav) (ys:=[V.sav y]) rfl mS rfl (by rw[QoS]) rfl (WX [y]) (by simp only[Qoc,QoT,maxLen];omega) (by simp only[Qoc,QoT];omega) ?_;simp only[h9,h20,m9,e1,eE,seval];exact keep hdd _ _ h4 h6 h7 h8 h9 h18 h19 rfl m4' m6' m7' m8' rfl rfl (HM rfl rfl)
   |some q=>
    rw[hq]at hdd;dsimp only at hdd;simp only[Qo8,QpR,Qv,PO.cells,n12,h6,m6,eE,seval];cases hu:decide (o.union≥0)
    ·rw[hu,Qpu]at hdd;simp only[h9,m9,eE,seval];refine QO (l:=[V.sav y]) rfl rfl rfl (by rw[Z1];rfl) ?_;refine QK (site:=1100) (g:=n) (n:=(K i).length) (xs:=(K i).map V.sav) (ys:=[V.sav y]) rfl mS rfl (by rw[QoS]) rfl (WX [y]) (by simp only[Qoc,QoT,maxLen];omega) (by simp only[Qoc,QoT];omega) ?_;simp only[h9,h20,m9,e1,eE,seval];exact keep hdd _ _ h4 h6 h7 h8 h9 h18 h19 rfl m4' m6' m7' m8' rfl rfl (HM rfl rfl)
    ·rw[hu,QpE]at hdd;cases hqu:(q.union==o.union)
     ·rw[hqu]at hdd;simp only[hqu,h6,h9,m6,m9,eE,seval];refine QO (l:=[V.sav y]) rfl rfl rfl (by rw[Z1];rfl) ?_;refine QK (site:=1100) (g:=n) (n:=(K i).length) (xs:=(K i).map V.sav) (ys:=[V.sav y]) rfl mS rfl (by rw[QoS]) rfl (WX [y]) (by simp only[Qoc,QoT,maxLen];omega) (by simp only[Qoc,QoT];omega) ?_;simp only[h9,h20,m9,e1,eE,seval];exact keep hdd _ _ h4 h6 h7 h8 h9 h18 h19 rfl m4' m6' m7' m8' rfl rfl (HM rfl rfl)
     ·rw[hqu]at hdd;simp only[hqu,h6,h20,m6,e1,eE,seval];exact skip hdd _ _ h4 h6 h7 h8 h9 h18 h19 rfl m4' m6' m7' m8' rfl rfl (HM rfl rfl)
  ·rw[hb,QpI]at hdd;simp only[h20,e1,Qa,seval];exact skip hdd _ _ h4 h6 h7 h8 h9 h18 h19 rfl m4' m6' m7' m8' rfl rfl (HM (by rw[Q8 _ _ (by decide),n12]<;>rfl) rfl)
 ·have e:i=v.slots.length:=by omega
  subst e;simp only[QH hlt,h6,h7,h9,m6,m7,m9,eE,seval];refine QO (l:=[V.sav (o.num,x)]) rfl rfl rfl (by rw[Z1];rfl) ?_;refine QK (site:=1100) (g:=n) (n:=(K v.slots.length).length) (xs:=(K v.slots.length).map V.sav) (ys:=[V.sav (o.num,x)]) rfl mS rfl (by rw[QoS]) rfl (WX [(o.num,x)]) (by simp only[Qoc,QoT,maxLen];omega) (by simp only[Qoc,QoT];omega) ?_;simp only[h8,h9,m8,m9,eE,seval];have hk:List.take ((K v.slots.length).length+1) ((K v.slots.length).map V.sav++[V.sav (o.num,x)])=(K v.slots.length).map V.sav++[V.sav (o.num,x)]:=Qox (by simp);simp[hk,AV.un,AV.unL,ZE,XO]
def HZ (c:C):Nat×C×Nat:=match Wr c with
 |.ok (n,d)=>(n,d,0)
 |.error e=>(0,c,e)
def GY (w:Int)(c:C):R×C×Nat :=
 if w=2 then(⟨0,w,c.fixed.1,[]⟩,c.fixed.2.1,c.fixed.2.2)
 else if w=3 then(if (HZ c).2.2=0 then(⟨0,w,0,(text (HZ c).2.1 (HZ c).1).1⟩,(text (HZ c).2.1 (HZ c).1).2.1,(text (HZ c).2.1 (HZ c).1).2.2)else(⟨0,0,0,[]⟩,c,(HZ c).2.2))
 else(⟨0,w,c.varint.1,[]⟩,c.varint.2.1,c.varint.2.2)
theorem Vv {c:C}{e:Nat}(h:Wr c=.error e):e≠0:=by
 unfold Wr at h;split at h
 ·split at h<;>cases h
  decide
 ·rename_i he;cases h;exact he
theorem Rg (w:Int)(c:C):Jp w c=if (GY w c).2.2=0 then .ok ((GY w c).1,(GY w c).2.1)else .error (GY w c).2.2:=by
 unfold GY Jp;by_cases h2:w=2
 ·rw[Qn4 (by omega),Qn5 h2,Qn5 h2]
 ·rw[Qn4 h2,Qn4 h2];by_cases h3:w=3
  ·rw[Qn5 h3,Qn5 h3];unfold HZ;cases hr:Wr c with
   |error e=>
    have:=Vv hr;dsimp only;rw[Qn4 this,Qn4 this]
   |ok p=>rfl
  ·rw[Qn4 h3,Qn4 h3]
end Go.Proofs.YtgnfjkkfbcnbfaaGreatDoor.Va
